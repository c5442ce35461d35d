import Derived.Test.YtdolpanbfpjnmaaGreatDoorPS4
namespace Go.Proofs.YtdolpanbfpjnmaaGreatDoor
open Go Go.RowKit Tryz
set_option maxRecDepth 4000
set_option maxHeartbeats 4000000

structure Tpoll where
  fF:Td
  fL:Int
  fparty:Int
  deriving DecidableEq
instance:Rep Tpoll:=Rep.via (β:=Td × Int × Int) fun x=>(x.fF,x.fL,x.fparty)
theorem dU_c (_n:Nat) {L w} (_hL:hl L w) (a0:Tpoll) {v0_3:Value} (_h0_3:Rep.R w L [v0_3] a0.fF.fu)  :
 Cl 119 #[.agg #[vI a0.fF.fj,vI a0.fF.fh,vI a0.fF.fl,v0_3,vI a0.fL,vI a0.fparty]] w (ah w fun w' u=>∃ b0:Nat,u = .func (.func 158) #[] #[vP b0]/\St w w' [.cells b0 [vI a0.fF.fj,vI a0.fF.fh,vI a0.fF.fl,v0_3,vI a0.fL,vI a0.fparty] 179]):=by
 refine AG func119 rfl rfl rfl fun _ cs0 hb0=>Ac<|RG.bx (Az w) rfl rfl fun g0 b0 c0 d0=>Af rfl<|Aa<|Ac<|Ab (BP (vs:=[]) (us:=[vP b0]) aj (e1 rfl))<|Af rfl<|Aa<|Al rfl<|Ap (u:=.func (.func 158) #[] #[vP b0]) hb0 func119 rfl (.cons (.tmp rfl) .nil) rfl<|⟨c0.ag,fun p q=>⟨b0,rfl,c0.agree q⟩⟩
def cz_p (n:Nat) (a0:Ta) (a1:Ta) (a2:Ta) (a3:Ta):Option (Except Te Ta):=
  (aP_p n a0 a1).bind fun c0=>exc c0 (fun d0=>(aP_p n a2 a3).bind fun g0=>exc g0 (fun j0=>(cD_p n d0 j0).bind fun k0=>exc k0 (fun p0=>some (.ok p0)) (fun _e58=>none)) (fun _e54=>none)) (fun b0=>some (.error b0))
theorem cz_c (n:Nat) {L w} (hL:hl L w) (a0:Ta) (a1:Ta) (a2:Ta) (a3:Ta)  {r:Except Te Ta} (h:cz_p n a0 a1 a2 a3 = some r) :
 Cl 120 #[.agg ((ab a0)).toArray,.agg ((ab a1)).toArray,.agg ((ab a2)).toArray,.agg ((ab a3)).toArray] w (aK w (fun (y:Ta) _ u=>u = .agg ((ab y)).toArray) (fun e=>.iface 145 (.agg #[vI e.fE])) r):=by
 unfold cz_p at h
 refine BO func120 rfl rfl rfl fun _ cs0 hb0 hp0=>Ac<|RG.bx (Az w) rfl rfl fun b1 D0 v0 P0=>RG.bx v0 rfl rfl fun c1 E0 x0 Q0=>RG.bx x0 rfl rfl fun d1 F0 y0 R0=>RG.bx y0 rfl rfl fun g1 G0 z0 U0=>RG.nl zL z0 fun j1 H0 c0 V0=>Aa<|Ac<|Ab (AF rfl (c0.memA .t4))<|Ab (AF rfl (c0.memA .t3))<|xk h (fun J0 j0 h=>?_) (fun k0 j0 h=>?_)
 refine BC (fst:=[]) (cap:=[]) .plain (bd 72) rfl (e2 rfl rfl) (fun p q=>aP_c n (c0.hL0 hL q) a0 a1 j0) fun k1 C0=>?_
 obtain ⟨A0,W0⟩:=c0.agr C0
 cases h
 exact AZ hp0 func120 ⟨A0.ag,rfl⟩
 refine Bi (.agg ((ab k0)).toArray) (bd 72) rfl (e2 rfl rfl) (fun p q=>AV (aP_c n (c0.hL0 hL q) a0 a1 j0)) rfl<|RG.nl zL c0 fun p1 I0 B0 X0=>AQ (ab k0) B0 .hd (ai rfl) fun q1 d0 Y0=>Aa<|Ai<|du 5 fun b0 g0=>Rx 0 48 b0 rfl g0 (AF rfl (d0.memA .hd))<|Rx 1 56 b0 rfl g0 (AF rfl (d0.memA .t3))<|Rx 2 56 b0 rfl g0 (AF rfl (d0.memA .t2))<|xk h (fun K0 s0 h=>?_) (fun u0 s0 h=>?_)
 cases h
 refine BG 3 15 48 (.agg ((ab u0)).toArray) b0 rfl g0 (bd 72) rfl (e2 rfl rfl) (fun p q=>AV (aP_c n (d0.hL0 hL q) a2 a3 s0)) rfl<|xk h (fun M0 t0 h=>?_) (fun p0 t0 h=>?_)
 cases h
 refine BG 4 31 32 (.agg ((ab p0)).toArray) b0 rfl g0 (bd 50) rfl (e2 rfl rfl) (fun p q=>AV (cD_c n (d0.hL0 hL q) k0 u0 t0)) rfl<|Bz 5 63 b0 rfl rfl .plain (Ay (news:=(ab p0)) d0 .t1 rfl rfl rfl rfl rfl rfl (ai rfl)) fun s1 q0 Z0=>AM (dk b0)<|Al rfl<|Ap hb0 func120 rfl (.cons (.many (cs:=(ab p0)) rfl rfl (q0.memA .t1)) .nil) rfl ?_
 cases h
 exact ⟨q0.ag,fun p q=>aC rfl⟩
structure Tsums where
  fw:Int
  fx:Int
  fy:Ta
  fa:Ta
  fb:Ta
  fc:Ta
  deriving DecidableEq
instance:Rep Tsums:=Rep.via (β:=Int × Int × Ta × Ta × Ta × Ta) fun x=>(x.fw,x.fx,x.fy,x.fa,x.fb,x.fc)
structure Tline where
  fI:Tsums
  fd:Ta
  fn:Ta
  deriving DecidableEq
instance:Rep Tline:=Rep.via (β:=Tsums × Ta × Ta) fun x=>(x.fI,x.fd,x.fn)
structure T181 where
  fw:Int
  fg:Int
  fy:Ta
  deriving DecidableEq
instance:Rep T181:=Rep.via (β:=Int × Int × Ta) fun x=>(x.fw,x.fg,x.fy)
def bw_l1 (_n:Nat) (c0:Tb) (g0:Int × Nat -> Option Int):Int × Nat -> Option Int
  | (d0,b0)=>(if b0 < c0.fJ.length then (c0.fJ[b0]?).bind fun k0=>(chk (d0 + k0)).bind fun j0=>g0 (j0,b0 + 1) else some d0)
def bw_l2 (n:Nat) (a0:Td) (a1:Int) (a2:Int) (b2:Nat × Int × Int × UInt64 × UInt64 × UInt64 × UInt64 × UInt64 × UInt64 × UInt64 × UInt64 × UInt64 × UInt64 × UInt64 × UInt64 × UInt64 × UInt64 × UInt64 × UInt64 × UInt64 × UInt64 × UInt64 × UInt64 × UInt64 × UInt64 × UInt64 × UInt64 × UInt64 × UInt64 × UInt64 × UInt64 × UInt64 × UInt64 × UInt64 × UInt64 × UInt64 × UInt64 × UInt64 × UInt64 × UInt64 × UInt64 × UInt64 × UInt64 × UInt64 × UInt64 × UInt64 × UInt64 × UInt64 × UInt64 × UInt64 × UInt64 × UInt64 × UInt64 × UInt64 × UInt64 × UInt64 × UInt64 × UInt64 × UInt64 × U8 -> Option ((Except Te Tline) ⊕ (Int × Int × UInt64 × UInt64 × UInt64 × UInt64 × UInt64 × UInt64 × UInt64 × UInt64 × UInt64 × UInt64 × UInt64 × UInt64 × UInt64 × UInt64 × UInt64 × UInt64 × UInt64 × UInt64 × UInt64 × UInt64 × UInt64 × UInt64 × UInt64 × UInt64 × UInt64 × UInt64 × UInt64 × UInt64 × UInt64 × UInt64 × UInt64 × UInt64 × UInt64 × UInt64 × UInt64 × UInt64 × UInt64 × UInt64 × UInt64 × UInt64 × UInt64 × UInt64 × UInt64 × UInt64 × UInt64 × UInt64 × UInt64 × UInt64 × UInt64 × UInt64 × UInt64 × UInt64 × UInt64 × UInt64 × UInt64 × UInt64 × U8))):Nat × Int × Int × UInt64 × UInt64 × UInt64 × UInt64 × UInt64 × UInt64 × UInt64 × UInt64 × UInt64 × UInt64 × UInt64 × UInt64 × UInt64 × UInt64 × UInt64 × UInt64 × UInt64 × UInt64 × UInt64 × UInt64 × UInt64 × UInt64 × UInt64 × UInt64 × UInt64 × UInt64 × UInt64 × UInt64 × UInt64 × UInt64 × UInt64 × UInt64 × UInt64 × UInt64 × UInt64 × UInt64 × UInt64 × UInt64 × UInt64 × UInt64 × UInt64 × UInt64 × UInt64 × UInt64 × UInt64 × UInt64 × UInt64 × UInt64 × UInt64 × UInt64 × UInt64 × UInt64 × UInt64 × UInt64 × UInt64 × UInt64 × U8 -> Option ((Except Te Tline) ⊕ (Int × Int × UInt64 × UInt64 × UInt64 × UInt64 × UInt64 × UInt64 × UInt64 × UInt64 × UInt64 × UInt64 × UInt64 × UInt64 × UInt64 × UInt64 × UInt64 × UInt64 × UInt64 × UInt64 × UInt64 × UInt64 × UInt64 × UInt64 × UInt64 × UInt64 × UInt64 × UInt64 × UInt64 × UInt64 × UInt64 × UInt64 × UInt64 × UInt64 × UInt64 × UInt64 × UInt64 × UInt64 × UInt64 × UInt64 × UInt64 × UInt64 × UInt64 × UInt64 × UInt64 × UInt64 × UInt64 × UInt64 × UInt64 × UInt64 × UInt64 × UInt64 × UInt64 × UInt64 × UInt64 × UInt64 × UInt64 × UInt64 × U8))
  | (k0,Y1,Z1,p0,q0,s0,t0,u0,v0,x0,y0,z0,A0,B0,C0,D0,E0,F0,G0,H0,I0,J0,K0,M0,P0,Q0,R0,U0,V0,W0,X0,Y0,Z0,b1,c1,d1,g1,j1,k1,p1,q1,s1,t1,u1,v1,x1,y1,z1,A1,B1,C1,D1,E1,F1,G1,H1,I1,J1,K1,M1,P1,Q1,R1,U1,V1,W1,X1)=>(if k0 < a0.fu.length then (a0.fu[k0]?).bind fun j0=>Option.bind (am (bw_l1 n j0) n (0,0)) (fun j2=>(if j0.fv = true then b2 (k0 + 1,Y1,Z1,p0,q0,s0,t0,u0,v0,x0,y0,z0,A0,B0,C0,D0,E0,F0,G0,H0,I0,J0,K0,M0,P0,Q0,R0,U0,V0,W0,X0,Y0,Z0,b1,c1,d1,g1,j1,k1,p1,q1,s1,t1,u1,v1,x1,y1,z1,A1,B1,C1,D1,E1,F1,G1,H1,I1,J1,K1,M1,P1,Q1,R1,U1,V1,W1,X1) else (if j0.fA = 0 then b2 (k0 + 1,Y1,Z1,p0,q0,s0,t0,u0,v0,x0,y0,z0,A0,B0,C0,D0,E0,F0,G0,H0,I0,J0,K0,M0,P0,Q0,R0,U0,V0,W0,X0,Y0,Z0,b1,c1,d1,g1,j1,k1,p1,q1,s1,t1,u1,v1,x1,y1,z1,A1,B1,C1,D1,E1,F1,G1,H1,I1,J1,K1,M1,P1,Q1,R1,U1,V1,W1,X1) else (if j2 = 0 then b2 (k0 + 1,Y1,Z1,p0,q0,s0,t0,u0,v0,x0,y0,z0,A0,B0,C0,D0,E0,F0,G0,H0,I0,J0,K0,M0,P0,Q0,R0,U0,V0,W0,X0,Y0,Z0,b1,c1,d1,g1,j1,k1,p1,q1,s1,t1,u1,v1,x1,y1,z1,A1,B1,C1,D1,E1,F1,G1,H1,I1,J1,K1,M1,P1,Q1,R1,U1,V1,W1,X1) else (idx j0.fj a1).bind fun c2=>(idx j0.fJ a2).bind fun s2=>(al_p n s2 j2).bind fun t2=>exc t2 (fun d2=>(chk (Y1 + j0.fA)).bind fun p2=>(chk (Z1 + c2)).bind fun q2=>(al_p n j0.fA (1:Int)).bind fun u2=>exc u2 (fun v2=>(aP_p n v2 d2).bind fun x2=>exc x2 (fun g2=>(bR_p n (⟨(p0,q0,s0,t0,u0,v0,x0,y0),(z0,A0,B0,C0,D0,E0,F0,G0)⟩:Ta) g2).bind fun y2=>exc y2 (fun b0=>(al_p n c2 (1:Int)).bind fun z2=>exc z2 (fun A2=>(al_p n c2 j0.fA).bind fun B2=>exc B2 (fun C2=>(aP_p n A2 C2).bind fun D2=>exc D2 (fun E2=>(bR_p n (⟨(H0,I0,J0,K0,M0,P0,Q0,R0),(U0,V0,W0,X0,Y0,Z0,b1,c1)⟩:Ta) E2).bind fun F2=>exc F2 (fun c0=>(al_p n c2 (1:Int)).bind fun G2=>exc G2 (fun H2=>(aP_p n H2 d2).bind fun I2=>exc I2 (fun J2=>(bR_p n (⟨(d1,g1,j1,k1,p1,q1,s1,t1),(u1,v1,x1,y1,z1,A1,B1,C1)⟩:Ta) J2).bind fun K2=>exc K2 (fun d0=>(aP_p n g2 d2).bind fun M2=>exc M2 (fun P2=>(bR_p n (⟨(D1,E1,F1,G1,H1,I1,J1,K1),(M1,P1,Q1,R1,U1,V1,W1,X1)⟩:Ta) P2).bind fun Q2=>exc Q2 (fun g0=>b2 (k0 + 1,p2,q2,b0.fN.1,b0.fN.2.1,b0.fN.2.2.1,b0.fN.2.2.2.1,b0.fN.2.2.2.2.1,b0.fN.2.2.2.2.2.1,b0.fN.2.2.2.2.2.2.1,b0.fN.2.2.2.2.2.2.2,b0.fD.1,b0.fD.2.1,b0.fD.2.2.1,b0.fD.2.2.2.1,b0.fD.2.2.2.2.1,b0.fD.2.2.2.2.2.1,b0.fD.2.2.2.2.2.2.1,b0.fD.2.2.2.2.2.2.2,c0.fN.1,c0.fN.2.1,c0.fN.2.2.1,c0.fN.2.2.2.1,c0.fN.2.2.2.2.1,c0.fN.2.2.2.2.2.1,c0.fN.2.2.2.2.2.2.1,c0.fN.2.2.2.2.2.2.2,c0.fD.1,c0.fD.2.1,c0.fD.2.2.1,c0.fD.2.2.2.1,c0.fD.2.2.2.2.1,c0.fD.2.2.2.2.2.1,c0.fD.2.2.2.2.2.2.1,c0.fD.2.2.2.2.2.2.2,d0.fN.1,d0.fN.2.1,d0.fN.2.2.1,d0.fN.2.2.2.1,d0.fN.2.2.2.2.1,d0.fN.2.2.2.2.2.1,d0.fN.2.2.2.2.2.2.1,d0.fN.2.2.2.2.2.2.2,d0.fD.1,d0.fD.2.1,d0.fD.2.2.1,d0.fD.2.2.2.1,d0.fD.2.2.2.2.1,d0.fD.2.2.2.2.2.1,d0.fD.2.2.2.2.2.2.1,d0.fD.2.2.2.2.2.2.2,g0.fN.1,g0.fN.2.1,g0.fN.2.2.1,g0.fN.2.2.2.1,g0.fN.2.2.2.2.1,g0.fN.2.2.2.2.2.1,g0.fN.2.2.2.2.2.2.1,g0.fN.2.2.2.2.2.2.2,g0.fD.1,g0.fD.2.1,g0.fD.2.2.1,g0.fD.2.2.2.1,g0.fD.2.2.2.2.1,g0.fD.2.2.2.2.2.1,g0.fD.2.2.2.2.2.2.1,g0.fD.2.2.2.2.2.2.2)) (fun _e935=>none)) (fun _e931=>none)) (fun _e922=>none)) (fun _e918=>none)) (fun _e914=>none)) (fun _e905=>none)) (fun _e901=>none)) (fun _e897=>none)) (fun _e893=>none)) (fun k2=>some (.inl (.error k2)))) (fun _e863=>none)) (fun _e859=>none)) (fun _e831=>none))))) else some (.inr (Y1,Z1,H0,I0,J0,K0,M0,P0,Q0,R0,U0,V0,W0,X0,Y0,Z0,b1,c1,d1,g1,j1,k1,p1,q1,s1,t1,u1,v1,x1,y1,z1,A1,B1,C1,p0,q0,s0,t0,u0,v0,x0,y0,z0,A0,B0,C0,D0,E0,F0,G0,D1,E1,F1,G1,H1,I1,J1,K1,M1,P1,Q1,R1,U1,V1,W1,X1)))
def bw_p (n:Nat) (a0:Td) (a1:Int) (a2:Int):Option (Except Te Tline):=
  (bF_p n a0).bind fun z1=>(if z1 = 0 then (if a1 < 0 then some (.error (⟨(2:Int)⟩:Te)) else (if a0.fj <= a1 then some (.error (⟨(2:Int)⟩:Te)) else (if a2 < 0 then some (.error (⟨(2:Int)⟩:Te)) else (if a0.fh <= a2 then some (.error (⟨(2:Int)⟩:Te)) else (al_p n (0:Int) (1:Int)).bind fun j2=>exc j2 (fun b0=>thn (am (bw_l2 n a0 a1 a2) n (0,0,0,b0.fN.1,b0.fN.2.1,b0.fN.2.2.1,b0.fN.2.2.2.1,b0.fN.2.2.2.2.1,b0.fN.2.2.2.2.2.1,b0.fN.2.2.2.2.2.2.1,b0.fN.2.2.2.2.2.2.2,b0.fD.1,b0.fD.2.1,b0.fD.2.2.1,b0.fD.2.2.2.1,b0.fD.2.2.2.2.1,b0.fD.2.2.2.2.2.1,b0.fD.2.2.2.2.2.2.1,b0.fD.2.2.2.2.2.2.2,b0.fN.1,b0.fN.2.1,b0.fN.2.2.1,b0.fN.2.2.2.1,b0.fN.2.2.2.2.1,b0.fN.2.2.2.2.2.1,b0.fN.2.2.2.2.2.2.1,b0.fN.2.2.2.2.2.2.2,b0.fD.1,b0.fD.2.1,b0.fD.2.2.1,b0.fD.2.2.2.1,b0.fD.2.2.2.2.1,b0.fD.2.2.2.2.2.1,b0.fD.2.2.2.2.2.2.1,b0.fD.2.2.2.2.2.2.2,b0.fN.1,b0.fN.2.1,b0.fN.2.2.1,b0.fN.2.2.2.1,b0.fN.2.2.2.2.1,b0.fN.2.2.2.2.2.1,b0.fN.2.2.2.2.2.2.1,b0.fN.2.2.2.2.2.2.2,b0.fD.1,b0.fD.2.1,b0.fD.2.2.1,b0.fD.2.2.2.1,b0.fD.2.2.2.2.1,b0.fD.2.2.2.2.2.1,b0.fD.2.2.2.2.2.2.1,b0.fD.2.2.2.2.2.2.2,b0.fN.1,b0.fN.2.1,b0.fN.2.2.1,b0.fN.2.2.2.1,b0.fN.2.2.2.2.1,b0.fN.2.2.2.2.2.1,b0.fN.2.2.2.2.2.2.1,b0.fN.2.2.2.2.2.2.2,b0.fD.1,b0.fD.2.1,b0.fD.2.2.1,b0.fD.2.2.2.1,b0.fD.2.2.2.2.1,b0.fD.2.2.2.2.2.1,b0.fD.2.2.2.2.2.2.1,b0.fD.2.2.2.2.2.2.2)) (fun (C1,D1,D0,E0,F0,G0,H0,I0,J0,K0,M0,P0,Q0,R0,U0,V0,W0,X0,Y0,Z0,b1,c1,d1,g1,j1,k1,p1,q1,s1,t1,u1,v1,x1,y1,d0,g0,j0,k0,p0,q0,s0,t0,u0,v0,x0,y0,z0,A0,B0,C0,G1,H1,I1,J1,K1,M1,P1,Q1,R1,U1,V1,W1,X1,Y1,Z1,b2)=>(al_p n C1 (1:Int)).bind fun k2=>exc k2 (fun B1=>(al_p n D1 (1:Int)).bind fun p2=>exc p2 (fun c0=>(cz_p n B1 (⟨(D0,E0,F0,G0,H0,I0,J0,K0),(M0,P0,Q0,R0,U0,V0,W0,X0)⟩:Ta) c0 c0).bind fun c2=>exc c2 (fun A1=>(if A1 = b0 then some (.error (⟨(7:Int)⟩:Te)) else (cz_p n B1 (⟨(Y0,Z0,b1,c1,d1,g1,j1,k1),(p1,q1,s1,t1,u1,v1,x1,y1)⟩:Ta) c0 (⟨(d0,g0,j0,k0,p0,q0,s0,t0),(u0,v0,x0,y0,z0,A0,B0,C0)⟩:Ta)).bind fun d2=>exc d2 (fun g2=>some (.ok (⟨(⟨C1,D1,(⟨(d0,g0,j0,k0,p0,q0,s0,t0),(u0,v0,x0,y0,z0,A0,B0,C0)⟩:Ta),(⟨(D0,E0,F0,G0,H0,I0,J0,K0),(M0,P0,Q0,R0,U0,V0,W0,X0)⟩:Ta),(⟨(Y0,Z0,b1,c1,d1,g1,j1,k1),(p1,q1,s1,t1,u1,v1,x1,y1)⟩:Ta),(⟨(G1,H1,I1,J1,K1,M1,P1,Q1),(R1,U1,V1,W1,X1,Y1,Z1,b2)⟩:Ta)⟩:Tsums),A1,g2⟩:Tline))) (fun _e2219=>none))) (fun E1=>some (.error E1))) (fun _e959=>none)) (fun _e955=>none))) (fun F1=>some (.error F1)))))) else some (.error (⟨z1⟩:Te)))
theorem bw_c (n:Nat) {L w} (hL:hl L w) (a0:Td) {v0_3:Value} (h0_3:Rep.R w L [v0_3] a0.fu) {a1:Int} {a2:Int}  {r:Except Te Tline} (h:bw_p n a0 a1 a2 = some r) :
 Cl 71 #[.agg #[vI a0.fj,vI a0.fh,vI a0.fl,v0_3],vI a1,vI a2] w (aK w (fun (y:Tline) _ u=>u = .agg ((([vI y.fI.fw,vI y.fI.fx]:List Value) ++ ab y.fI.fy ++ ab y.fI.fa ++ ab y.fI.fb ++ ab y.fI.fc ++ ab y.fd ++ ab y.fn)).toArray) (fun e=>.iface 145 (.agg #[vI e.fE])) r):=by
 unfold bw_p at h
 refine BO func71 rfl rfl rfl fun _ cs0 hb0 hp0=>Ac<|RG.bx (Az w) rfl rfl fun w11 d4 E5 b00=>RG.nl [vI 0,vI 0,vW 0,vW 0,vW 0,vW 0,vW 0,vW 0,vW 0,vW 0,vW 0,vW 0,vW 0,vW 0,vW 0,vW 0,vW 0,vW 0,vW 0,vW 0,vW 0,vW 0,vW 0,vW 0,vW 0,vW 0,vW 0,vW 0,vW 0,vW 0,vW 0,vW 0,vW 0,vW 0,vW 0,vW 0,vW 0,vW 0,vW 0,vW 0,vW 0,vW 0,vW 0,vW 0,vW 0,vW 0,vW 0,vW 0,vW 0,vW 0,vW 0,vW 0,vW 0,vW 0,vW 0,vW 0,vW 0,vW 0,vW 0,vW 0,vW 0,vW 0,vW 0,vW 0,vW 0,vW 0,vW 0,vW 0,vW 0,vW 0,vW 0,vW 0,vW 0,vW 0,vW 0,vW 0,vW 0,vW 0,vW 0,vW 0,vW 0,vW 0,vW 0,vW 0,vW 0,vW 0,vW 0,vW 0,vW 0,vW 0,vW 0,vW 0,vW 0,vW 0,vW 0,vW 0,vW 0,vW 0] E5 fun w16 y3 q2 c00=>Aa<|Ac<|Ab (AF rfl (q2.memA .t1))<|bk h fun u3 D8 h=>Bi (vI u3) (bd 118) rfl (e1 rfl) (fun p q=>bF_c n (q2.hL0 hL q) a0 (q2.k0 h0_3 q) D8) rfl<|By (fst:=[]) (cap:=[]) (vs:=[vI u3]) .plain (bd 61) func61 rfl rfl rfl rfl (e1 rfl) rfl fun j9 Z6 M7=>Ac<|Ae rfl<|Ab (FV.neq (i:=u3) (j:=0) rfl rfl)<|Aa<|MX.ifn rfl h (fun j5 h=>?_) (fun j5 h=>?_)
 refine Ar<|MX.fin rfl<|Ap (u:=.tuple #[]) Z6 func61 rfl .nil rfl<|Aa<|Ac<|Ae rfl<|Ab (BK (i:=a1) (j:=0) rfl rfl)<|Ae rfl<|BA (s:=20) rfl h (fun k5 h=>?_) (fun k5 h=>?_)
 refine Au<|Au<|Au<|Au<|Bm rfl rfl<|Ae rfl<|Au<|Au<|Bm rfl rfl<|Ae rfl<|Au<|Au<|Au<|Au<|Bm rfl rfl<|By (fst:=[]) (cap:=[]) (vs:=[.bool true,vI 2]) .plain (bd 47) func47 rfl rfl rfl rfl (e2 rfl rfl) rfl fun q9 R00 P7=>Ac<|Ae rfl<|Aa<|Bb rfl<|Ao<|Ae rfl<|By (fst:=[]) (cap:=[]) (vs:=[vI 2]) .plain (bd 61) func61 rfl rfl rfl rfl (e1 rfl) rfl fun s9 U00 Q7=>Ac<|Ae rfl<|Ab (FV.neqN (i:=2) (j:=0) rfl rfl)<|Aa<|Bb rfl<|Ao<|Ae rfl<|Ab (AO (vs:=[vI 2]) (u:=.agg #[vI 2]) (e1 rfl) (fun p=>by kernel_rfl))<|Ab (BF rfl rfl)<|RG.panic .plain rfl<|AZ Q7 func61<|AZ P7 func47 ?_
 cases h
 exact AZ hp0 func71 ⟨q2.ag,rfl⟩
 refine AH (Ak rfl)<|RG.fg 0 rfl<|AH (AL rfl ((q2.memA .t1) 0 _ rfl))<|AH (FV.geq (i:=a1) (j:=a0.fj) rfl rfl)<|Bv rfl rfl<|Ae rfl<|BA (s:=26) rfl h (fun p5 h=>?_) (fun p5 h=>?_)
 refine Au<|Au<|Bm rfl rfl<|Ae rfl<|Au<|Au<|Au<|Au<|Bm rfl rfl<|By (fst:=[]) (cap:=[]) (vs:=[.bool true,vI 2]) .plain (bd 47) func47 rfl rfl rfl rfl (e2 rfl rfl) rfl fun t9 V00 R7=>Ac<|Ae rfl<|Aa<|Bb rfl<|Ao<|Ae rfl<|By (fst:=[]) (cap:=[]) (vs:=[vI 2]) .plain (bd 61) func61 rfl rfl rfl rfl (e1 rfl) rfl fun u9 W00 U7=>Ac<|Ae rfl<|Ab (FV.neqN (i:=2) (j:=0) rfl rfl)<|Aa<|Bb rfl<|Ao<|Ae rfl<|Ab (AO (vs:=[vI 2]) (u:=.agg #[vI 2]) (e1 rfl) (fun p=>by kernel_rfl))<|Ab (BF rfl rfl)<|RG.panic .plain rfl<|AZ U7 func61<|AZ R7 func47 ?_
 cases h
 exact AZ hp0 func71 ⟨q2.ag,rfl⟩
 refine AH (Ak rfl)<|AH (BK (i:=a2) (j:=0) rfl rfl)<|Bv rfl rfl<|Ae rfl<|BA (s:=30) rfl h (fun q5 h=>?_) (fun q5 h=>?_)
 refine Au<|Au<|Au<|Au<|Bm rfl rfl<|By (fst:=[]) (cap:=[]) (vs:=[.bool true,vI 2]) .plain (bd 47) func47 rfl rfl rfl rfl (e2 rfl rfl) rfl fun v9 X00 V7=>Ac<|Ae rfl<|Aa<|Bb rfl<|Ao<|Ae rfl<|By (fst:=[]) (cap:=[]) (vs:=[vI 2]) .plain (bd 61) func61 rfl rfl rfl rfl (e1 rfl) rfl fun x9 Y00 W7=>Ac<|Ae rfl<|Ab (FV.neqN (i:=2) (j:=0) rfl rfl)<|Aa<|Bb rfl<|Ao<|Ae rfl<|Ab (AO (vs:=[vI 2]) (u:=.agg #[vI 2]) (e1 rfl) (fun p=>by kernel_rfl))<|Ab (BF rfl rfl)<|RG.panic .plain rfl<|AZ W7 func61<|AZ V7 func47 ?_
 cases h
 exact AZ hp0 func71 ⟨q2.ag,rfl⟩
 refine AH (Ak rfl)<|RG.fg 1 rfl<|AH (AL rfl ((q2.memA .t1) 1 _ rfl))<|AH (FV.geq (i:=a2) (j:=a0.fh) rfl rfl)<|Bv rfl rfl<|By (fst:=[]) (cap:=[]) (vs:=[.bool (decide (a0.fh <= a2)),vI 2]) .plain (bd 47) func47 rfl rfl rfl rfl (e2 rfl rfl) rfl fun y9 c7 X7=>Ac<|Ae rfl<|Aa<|AT rfl h (fun s5 h=>?_) (fun s5 h=>?_)
 refine Ao<|Ae rfl<|By (fst:=[]) (cap:=[]) (vs:=[vI 2]) .plain (bd 61) func61 rfl rfl rfl rfl (e1 rfl) rfl fun z9 Z00 Y7=>Ac<|Ae rfl<|Ab (FV.neqN (i:=2) (j:=0) rfl rfl)<|Aa<|Bb rfl<|Ao<|Ae rfl<|Ab (AO (vs:=[vI 2]) (u:=.agg #[vI 2]) (e1 rfl) (fun p=>by kernel_rfl))<|Ab (BF rfl rfl)<|RG.panic .plain rfl<|AZ Y7 func61<|AZ X7 func47 ?_
 cases h
 exact AZ hp0 func71 ⟨q2.ag,rfl⟩
 refine Ar<|MX.fin rfl<|Ap (u:=.tuple #[]) c7 func47 rfl .nil rfl<|Aa<|Ac<|xk h (fun F9 Z3 h=>?_) (fun b0 Z3 h=>?_)
 refine BC (fst:=[]) (cap:=[]) .plain (bd 51) rfl (e2 rfl rfl) (fun p q=>al_c n (q2.hL0 hL q)  Z3) fun w56 X6=>?_
 obtain ⟨W5,A00⟩:=q2.agr X6
 cases h
 exact AZ hp0 func71 ⟨W5.ag,rfl⟩
 refine Bi (.agg ((ab b0)).toArray) (bd 51) rfl (e2 rfl rfl) (fun p q=>AV (al_c n (q2.hL0 hL q)  Z3)) rfl<|RG.nl zL q2 fun w62 B3 X5 B00=>AQ (ab b0) X5 .hd (ai rfl) fun w66 q3 C00=>Aa<|Ac<|Ab (AF rfl (q3.memA .hd))<|Ab (AF rfl (q3.memA .hd))<|Ab (AF rfl (q3.memA .hd))<|Ab (AF rfl (q3.memA .hd))<|Ab (AO (vs:=[.agg ((ab b0)).toArray,.agg ((ab b0)).toArray,.agg ((ab b0)).toArray,.agg ((ab b0)).toArray]) (u:=.agg ((([vI 0,vI 0]:List Value) ++ ab b0 ++ ab b0 ++ ab b0 ++ ab b0)).toArray) (e4 rfl rfl rfl rfl) (fun p=>by kernel_rfl))<|RG.nl [vI 0,vI 0,vW 0,vW 0,vW 0,vW 0,vW 0,vW 0,vW 0,vW 0,vW 0,vW 0,vW 0,vW 0,vW 0,vW 0,vW 0,vW 0,vW 0,vW 0,vW 0,vW 0,vW 0,vW 0,vW 0,vW 0,vW 0,vW 0,vW 0,vW 0,vW 0,vW 0,vW 0,vW 0,vW 0,vW 0,vW 0,vW 0,vW 0,vW 0,vW 0,vW 0,vW 0,vW 0,vW 0,vW 0,vW 0,vW 0,vW 0,vW 0,vW 0,vW 0,vW 0,vW 0,vW 0,vW 0,vW 0,vW 0,vW 0,vW 0,vW 0,vW 0,vW 0,vW 0,vW 0,vW 0] q3 fun w70 C3 Y5 D00=>AQ (([vI 0,vI 0]:List Value) ++ ab b0 ++ ab b0 ++ ab b0 ++ ab b0) Y5 .hd (ai rfl) fun I8 X2 E00=>Aa<|Ai<|Ac<|Ab (AF rfl (X2.memA .t3))<|Ae rfl<|Ae rfl ?_
 obtain ⟨M8,b9,v8,_⟩:=BQ (AS h0_3 X2)
 refine Ab (AO (vs:=[.agg #[vI a0.fj,vI a0.fh,vI a0.fl,v0_3],vI a1,vI a2]) (u:=.agg #[vI a0.fj,vI a0.fh,vI a0.fl,v0_3,vI a1,vI a2]) (e3 rfl rfl rfl) (fun p=>by rw [v8]; try kernel_rfl))<|jE (bd 119) rfl (e1 rfl) (fun p q=>Calls.gives (dU_c n (X2.hL hL q) (⟨a0,a1,a2⟩:Tpoll) (X2.km h0_3 q)) fun (w8:World) (u8:Value) ⟨b0_,hu_,s_⟩=>(⟨b0_,hu_,s_.from q⟩:∃ M2:Nat,u8 = Value.func (.func 158) #[] #[vP M2]/\St I8 w8 [.cells M2 [vI a0.fj,vI a0.fh,vI a0.fl,v0_3,vI a1,vI a2] 179])) rfl fun w83 j01 P00 ⟨M2,t8,Q4⟩=>?_
 subst t8
 have I00:=jc X2 Q4
 refine Aa<|AA<|MX.rangeP (lb:=[vP M2]) rfl (ea X2 Q4) rfl (bd 158) func158 rfl rfl rfl fun w90 G3 H3 P4 C9 U3 J00 E8 g7 b8=>Ac<|AX 0 rfl<|AX 3 rfl<|AR rfl ((aX (U3.memA .t2) 0) 3 _ rfl) ?_
 have s4:=AS h0_3 U3
 have b01:a0.fu.length <= 281474976710656:=Ba s4
 refine Ab (Bg (xs:=a0.fu) underlying44 rfl s4)<|Ae rfl<|Aa<|AA<|tn h fun d01 H7 q4=>MX.lo (α:=Nat × Int × Int × UInt64 × UInt64 × UInt64 × UInt64 × UInt64 × UInt64 × UInt64 × UInt64 × UInt64 × UInt64 × UInt64 × UInt64 × UInt64 × UInt64 × UInt64 × UInt64 × UInt64 × UInt64 × UInt64 × UInt64 × UInt64 × UInt64 × UInt64 × UInt64 × UInt64 × UInt64 × UInt64 × UInt64 × UInt64 × UInt64 × UInt64 × UInt64 × UInt64 × UInt64 × UInt64 × UInt64 × UInt64 × UInt64 × UInt64 × UInt64 × UInt64 × UInt64 × UInt64 × UInt64 × UInt64 × UInt64 × UInt64 × UInt64 × UInt64 × UInt64 × UInt64 × UInt64 × UInt64 × UInt64 × UInt64 × UInt64 × U8) (fun ⟨g2,k2,d2,C1,D1,E1,F1,G1,H1,I1,J1,K1,M1,P1,Q1,R1,U1,V1,W1,Y0,Z0,b1,c1,g1,j1,k1,p1,q1,s1,u1,v1,x1,y1,z1,A1,c0,d0,g0,j0,p0,q0,s0,t0,u0,v0,x0,y0,z0,A0,B0,C0,D0,E0,F0,G0,H0,I0,J0,K0,M0,P0,Q0,R0,U0,V0,W0,X0⟩=>[(0,.func (.yield G3) #[] #[]),(1,vP M2),(10,v0_3),(11,vI ((a0.fu.length:Nat):Int)),(12,vI ((g2:Nat):Int))]) (fun ⟨g2,k2,d2,C1,D1,E1,F1,G1,H1,I1,J1,K1,M1,P1,Q1,R1,U1,V1,W1,Y0,Z0,b1,c1,g1,j1,k1,p1,q1,s1,u1,v1,x1,y1,z1,A1,c0,d0,g0,j0,p0,q0,s0,t0,u0,v0,x0,y0,z0,A0,B0,C0,D0,E0,F0,G0,H0,I0,J0,K0,M0,P0,Q0,R0,U0,V0,W0,X0⟩=>[.obj G3 (lpO P4 .ready none),.obj H3 (.deferred (some [])),.cells M2 [vI a0.fj,vI a0.fh,vI a0.fl,v0_3,vI a1,vI a2] 179,.cells C3 [vI k2,vI d2,vU C1,vU D1,vU E1,vU F1,vU G1,vU H1,vU I1,vU J1,vU K1,vU M1,vU P1,vU Q1,vU R1,vU U1,vU V1,vU W1,vU Y0,vU Z0,vU b1,vU c1,vU g1,vU j1,vU k1,vU p1,vU q1,vU s1,vU u1,vU v1,vU x1,vU y1,vU z1,vU A1,vU c0,vU d0,vU g0,vU j0,vU p0,vU q0,vU s0,vU t0,vU u0,vU v0,vU x0,vU y0,vU z0,vU A0,vU B0,vU C0,vU D0,vU E0,vU F0,vU G0,vU H0,vU I0,vU J0,vU K0,vU M0,vU P0,vU Q0,vU R0,vU U0,vU V0,vU W0,vU X0] 124,.cells B3 (ab b0) 38,.cells y3 [vI 0,vI 0,vW 0,vW 0,vW 0,vW 0,vW 0,vW 0,vW 0,vW 0,vW 0,vW 0,vW 0,vW 0,vW 0,vW 0,vW 0,vW 0,vW 0,vW 0,vW 0,vW 0,vW 0,vW 0,vW 0,vW 0,vW 0,vW 0,vW 0,vW 0,vW 0,vW 0,vW 0,vW 0,vW 0,vW 0,vW 0,vW 0,vW 0,vW 0,vW 0,vW 0,vW 0,vW 0,vW 0,vW 0,vW 0,vW 0,vW 0,vW 0,vW 0,vW 0,vW 0,vW 0,vW 0,vW 0,vW 0,vW 0,vW 0,vW 0,vW 0,vW 0,vW 0,vW 0,vW 0,vW 0,vW 0,vW 0,vW 0,vW 0,vW 0,vW 0,vW 0,vW 0,vW 0,vW 0,vW 0,vW 0,vW 0,vW 0,vW 0,vW 0,vW 0,vW 0,vW 0,vW 0,vW 0,vW 0,vW 0,vW 0,vW 0,vW 0,vW 0,vW 0,vW 0,vW 0,vW 0,vW 0] 126,.cells d4 [vI a0.fj,vI a0.fh,vI a0.fl,v0_3] 46]) (fun ⟨g2,k2,d2,C1,D1,E1,F1,G1,H1,I1,J1,K1,M1,P1,Q1,R1,U1,V1,W1,Y0,Z0,b1,c1,g1,j1,k1,p1,q1,s1,u1,v1,x1,y1,z1,A1,c0,d0,g0,j0,p0,q0,s0,t0,u0,v0,x0,y0,z0,A0,B0,C0,D0,E0,F0,G0,H0,I0,J0,K0,M0,P0,Q0,R0,U0,V0,W0,X0⟩=>(g2,k2,d2,C1,D1,E1,F1,G1,H1,I1,J1,K1,M1,P1,Q1,R1,U1,V1,W1,Y0,Z0,b1,c1,g1,j1,k1,p1,q1,s1,u1,v1,x1,y1,z1,A1,c0,d0,g0,j0,p0,q0,s0,t0,u0,v0,x0,y0,z0,A0,B0,C0,D0,E0,F0,G0,H0,I0,J0,K0,M0,P0,Q0,R0,U0,V0,W0,X0)) (0,0,0,b0.fN.1,b0.fN.2.1,b0.fN.2.2.1,b0.fN.2.2.2.1,b0.fN.2.2.2.2.1,b0.fN.2.2.2.2.2.1,b0.fN.2.2.2.2.2.2.1,b0.fN.2.2.2.2.2.2.2,b0.fD.1,b0.fD.2.1,b0.fD.2.2.1,b0.fD.2.2.2.1,b0.fD.2.2.2.2.1,b0.fD.2.2.2.2.2.1,b0.fD.2.2.2.2.2.2.1,b0.fD.2.2.2.2.2.2.2,b0.fN.1,b0.fN.2.1,b0.fN.2.2.1,b0.fN.2.2.2.1,b0.fN.2.2.2.2.1,b0.fN.2.2.2.2.2.1,b0.fN.2.2.2.2.2.2.1,b0.fN.2.2.2.2.2.2.2,b0.fD.1,b0.fD.2.1,b0.fD.2.2.1,b0.fD.2.2.2.1,b0.fD.2.2.2.2.1,b0.fD.2.2.2.2.2.1,b0.fD.2.2.2.2.2.2.1,b0.fD.2.2.2.2.2.2.2,b0.fN.1,b0.fN.2.1,b0.fN.2.2.1,b0.fN.2.2.2.1,b0.fN.2.2.2.2.1,b0.fN.2.2.2.2.2.1,b0.fN.2.2.2.2.2.2.1,b0.fN.2.2.2.2.2.2.2,b0.fD.1,b0.fD.2.1,b0.fD.2.2.1,b0.fD.2.2.2.1,b0.fD.2.2.2.2.1,b0.fD.2.2.2.2.2.1,b0.fD.2.2.2.2.2.2.1,b0.fD.2.2.2.2.2.2.2,b0.fN.1,b0.fN.2.1,b0.fN.2.2.1,b0.fN.2.2.2.1,b0.fN.2.2.2.2.1,b0.fN.2.2.2.2.2.1,b0.fN.2.2.2.2.2.2.1,b0.fN.2.2.2.2.2.2.2,b0.fD.1,b0.fD.2.1,b0.fD.2.2.1,b0.fD.2.2.2.1,b0.fD.2.2.2.2.1,b0.fD.2.2.2.2.2.1,b0.fD.2.2.2.2.2.2.1,b0.fD.2.2.2.2.2.2.2) H7 U3 ?_
 rintro U8 ⟨g2,k2,d2,C1,D1,E1,F1,G1,H1,I1,J1,K1,M1,P1,Q1,R1,U1,V1,W1,Y0,Z0,b1,c1,g1,j1,k1,p1,q1,s1,u1,v1,x1,y1,z1,A1,c0,d0,g0,j0,p0,q0,s0,t0,u0,v0,x0,y0,z0,A0,B0,C0,D0,E0,F0,G0,H0,I0,J0,K0,M0,P0,Q0,R0,U0,V0,W0,X0⟩ j02 D3 P3 E3 h
 unfold bw_l2 at h
 try dsimp only at h
 refine Ac<|Ab (Bq (i:=g2) (j:=a0.fu.length) rfl rfl)<|Aa<|Ai<|AT rfl h (fun u5 h=>?_) (fun u5 h=>?_)
 refine Ar<|Ai<|AA<|Ac<|bk h fun j2 x8 h=>?_
 obtain ⟨K8,Z8,j7,z7,A9,c8,D7⟩:=Bk (AS h0_3 P3) x8
 obtain ⟨R4,c4,U4,rfl,v4,F3,d8⟩:=ba c8
 refine Ab (Bj 6 g2 rfl j7 rfl rfl z7)<|Ab (AF rfl D7)<|RG.nl [.string ⟨#[]⟩,vI 0,vN,vN,vN,.bool false] P3 fun F01 g4 Z5 H2=>AQ [.string j2.fC,vI j2.fA,R4,c4,U4,.bool j2.fv] Z5 .hd (o6 rfl rfl (AP (Am v4 H2)) (AP (Am F3 H2)) (AP (Am d8 H2)) rfl) fun G01 p4 b3=>Aa<|Ac<|Af rfl<|Aa<|Ai<|Ac<|AX 3 rfl<|AR rfl ((p4.memA .hd) 3 _ rfl) ?_
 have u4:=Am F3 (Tt H2 b3)
 have c01:j2.fJ.length <= 281474976710656:=Ba u4
 refine Ab (Bg (xs:=j2.fJ) underlying40 rfl u4)<|Ae rfl<|Aa<|AA ?_
 obtain ⟨g01,I7,v7⟩:=aq h
 refine MX.lo (α:=Int × Nat) (fun ⟨W2,I2⟩=>[(0,.func (.yield G3) #[] #[]),(1,vP M2),(10,v0_3),(11,vI ((a0.fu.length:Nat):Int)),(12,vI ((g2:Nat):Int)),(4,vP g4),(5,vI W2),(17,c4),(18,vI ((j2.fJ.length:Nat):Int)),(19,vI ((I2:Nat):Int))]) (fun ⟨W2,I2⟩=>[.cells g4 [.string j2.fC,vI j2.fA,R4,c4,U4,.bool j2.fv] 69,.obj G3 (lpO P4 .ready none),.obj H3 (.deferred (some [])),.cells M2 [vI a0.fj,vI a0.fh,vI a0.fl,v0_3,vI a1,vI a2] 179,.cells C3 [vI k2,vI d2,vU C1,vU D1,vU E1,vU F1,vU G1,vU H1,vU I1,vU J1,vU K1,vU M1,vU P1,vU Q1,vU R1,vU U1,vU V1,vU W1,vU Y0,vU Z0,vU b1,vU c1,vU g1,vU j1,vU k1,vU p1,vU q1,vU s1,vU u1,vU v1,vU x1,vU y1,vU z1,vU A1,vU c0,vU d0,vU g0,vU j0,vU p0,vU q0,vU s0,vU t0,vU u0,vU v0,vU x0,vU y0,vU z0,vU A0,vU B0,vU C0,vU D0,vU E0,vU F0,vU G0,vU H0,vU I0,vU J0,vU K0,vU M0,vU P0,vU Q0,vU R0,vU U0,vU V0,vU W0,vU X0] 124,.cells B3 (ab b0) 38,.cells y3 [vI 0,vI 0,vW 0,vW 0,vW 0,vW 0,vW 0,vW 0,vW 0,vW 0,vW 0,vW 0,vW 0,vW 0,vW 0,vW 0,vW 0,vW 0,vW 0,vW 0,vW 0,vW 0,vW 0,vW 0,vW 0,vW 0,vW 0,vW 0,vW 0,vW 0,vW 0,vW 0,vW 0,vW 0,vW 0,vW 0,vW 0,vW 0,vW 0,vW 0,vW 0,vW 0,vW 0,vW 0,vW 0,vW 0,vW 0,vW 0,vW 0,vW 0,vW 0,vW 0,vW 0,vW 0,vW 0,vW 0,vW 0,vW 0,vW 0,vW 0,vW 0,vW 0,vW 0,vW 0,vW 0,vW 0,vW 0,vW 0,vW 0,vW 0,vW 0,vW 0,vW 0,vW 0,vW 0,vW 0,vW 0,vW 0,vW 0,vW 0,vW 0,vW 0,vW 0,vW 0,vW 0,vW 0,vW 0,vW 0,vW 0,vW 0,vW 0,vW 0,vW 0,vW 0,vW 0,vW 0,vW 0,vW 0] 126,.cells d4 [vI a0.fj,vI a0.fh,vI a0.fl,v0_3] 46]) (fun ⟨W2,I2⟩=>(W2,I2)) (0,0) I7 p4 ?_
 rintro V8 ⟨W2,I2⟩ k02 D5 s2 c3 h
 unfold bw_l1 at h
 try dsimp only at h
 refine Ac<|Ab (Bq (i:=I2) (j:=j2.fJ.length) rfl rfl)<|Aa<|Ai<|AT rfl h (fun v5 h=>?_) (fun v5 h=>?_)
 refine Ar<|Ai<|AA<|Ac<|bk h fun V4 y8 h=>?_
 obtain ⟨P8,c9,k7,A7,A5,g8,E7⟩:=Bk (Am F3 (Tt H2 (Tt b3 c3))) y8
 have p7:A5 = [vI V4]:=g8; subst p7
 refine Ab (Bj 1 I2 rfl k7 rfl rfl A7)<|AR rfl (E7 0 _ rfl)<|Af rfl<|Aa<|Ao<|Ae rfl<|Ae rfl<|bk h fun F8 p8 h=>Ab (BE (i:=W2) (j:=V4) rfl rfl p8)<|Af rfl<|Aa<|AC<|Ao<|Ab (Bn (i:=I2) (j:=1) rfl rfl (by omega))<|Ae rfl<|Aa<|D5 (F8,I2 + 1) s2 c3 h
 refine Be rfl ?_
 have h:=v7 _ h
 try dsimp only at h
 refine Ai<|Ac<|AX 5 rfl<|AR rfl ((s2.memA .hd) 5 _ rfl)<|Ae rfl<|RG.ifb (s:=29) rfl h (fun x5 h=>?_) (fun x5 h=>?_)
 refine Au<|Au<|Au<|Bm rfl rfl<|Ae rfl<|Au<|Au<|Bm rfl rfl<|Aa<|Bb rfl<|Be rfl<|Ao<|Ab (Bn (i:=g2) (j:=1) rfl rfl (by omega))<|Ae rfl<|Aa ?_
 obtain ⟨b6,B6⟩:=AI s2 .d1
 exact D3 (g2 + 1,k2,d2,C1,D1,E1,F1,G1,H1,I1,J1,K1,M1,P1,Q1,R1,U1,V1,W1,Y0,Z0,b1,c1,g1,j1,k1,p1,q1,s1,u1,v1,x1,y1,z1,A1,c0,d0,g0,j0,p0,q0,s0,t0,u0,v0,x0,y0,z0,A0,B0,C0,D0,E0,F0,G0,H0,I0,J0,K0,M0,P0,Q0,R0,U0,V0,W0,X0) b6 (Tt E3 (Tt H2 (Tt b3 (Tt c3 B6)))) h
 refine RG.fg 1 rfl<|AH (AL rfl ((s2.memA .hd) 1 _ rfl))<|AH (FV.eql (i:=j2.fA) (j:=0) rfl rfl)<|Bv rfl rfl<|Ae rfl<|BA (s:=34) rfl h (fun y5 h=>?_) (fun y5 h=>?_)
 refine Au<|Au<|Bm rfl rfl<|Aa<|Bb rfl<|Be rfl<|Ao<|Ab (Bn (i:=g2) (j:=1) rfl rfl (by omega))<|Ae rfl<|Aa ?_
 obtain ⟨c6,C6⟩:=AI s2 .d1
 exact D3 (g2 + 1,k2,d2,C1,D1,E1,F1,G1,H1,I1,J1,K1,M1,P1,Q1,R1,U1,V1,W1,Y0,Z0,b1,c1,g1,j1,k1,p1,q1,s1,u1,v1,x1,y1,z1,A1,c0,d0,g0,j0,p0,q0,s0,t0,u0,v0,x0,y0,z0,A0,B0,C0,D0,E0,F0,G0,H0,I0,J0,K0,M0,P0,Q0,R0,U0,V0,W0,X0) c6 (Tt E3 (Tt H2 (Tt b3 (Tt c3 C6)))) h
 refine AH (Ak rfl)<|AH (FV.eql (i:=W2) (j:=0) rfl rfl)<|Bv rfl rfl<|Aa<|AT rfl h (fun z5 h=>?_) (fun z5 h=>?_)
 refine Be rfl<|Ao<|Ab (Bn (i:=g2) (j:=1) rfl rfl (by omega))<|Ae rfl<|Aa ?_
 obtain ⟨d6,D6⟩:=AI s2 .d1
 exact D3 (g2 + 1,k2,d2,C1,D1,E1,F1,G1,H1,I1,J1,K1,M1,P1,Q1,R1,U1,V1,W1,Y0,Z0,b1,c1,g1,j1,k1,p1,q1,s1,u1,v1,x1,y1,z1,A1,c0,d0,g0,j0,p0,q0,s0,t0,u0,v0,x0,y0,z0,A0,B0,C0,D0,E0,F0,G0,H0,I0,J0,K0,M0,P0,Q0,R0,U0,V0,W0,X0) d6 (Tt E3 (Tt H2 (Tt b3 (Tt c3 D6)))) h
 refine Ar<|Ai<|du 18 fun Y1 b2=>Rv 0 Y1 rfl b2 (fun _=>Ak rfl)<|Rv 1 Y1 rfl b2 (fun _=>AU 1 rfl)<|Rx 2 917504 Y1 rfl b2 (AL rfl ((s2.memA .hd) 1 _ rfl))<|Rv 3 Y1 rfl b2 (fun _=>AU 2 rfl)<|Rx 4 917888 Y1 rfl b2 (AL rfl ((s2.memA .hd) 2 _ rfl))<|Rv 5 Y1 rfl b2 (fun _=>AU 4 rfl)<|Rx 6 917888 Y1 rfl b2 (AL rfl ((s2.memA .t3) 4 _ rfl))<|bk h fun k3 z8 h=>?_
 obtain ⟨x7,A8⟩:=aA z8
 have X3:=Tt H2 (Tt b3 c3)
 obtain ⟨Q8,d9,q7,B7,B5,j8,F7⟩:=Bk (Am v4 X3) A8
 have s7:B5 = [vI k3]:=j8; subst s7
 refine Rv 7 Y1 rfl b2 (fun _=>Bj 1 (a1.toNat) rfl q7 rfl x7 B7)<|Rx 8 917504 Y1 rfl b2 (AL rfl (F7 0 _ rfl))<|Rv 9 Y1 rfl b2 (fun _=>AU 3 rfl)<|Rx 10 1007616 Y1 rfl b2 (AL rfl ((s2.memA .hd) 3 _ rfl))<|Rv 11 Y1 rfl b2 (fun _=>AU 5 rfl)<|Rx 12 1007616 Y1 rfl b2 (AL rfl ((s2.memA .t3) 5 _ rfl))<|bk h fun J8 B8 h=>?_
 obtain ⟨y7,C8⟩:=aA B8
 obtain ⟨R8,g9,t7,C7,C5,k8,G7⟩:=Bk (Am F3 X3) C8
 have u7:C5 = [vI J8]:=k8; subst u7
 refine Rv 13 Y1 rfl b2 (fun _=>Bj 1 (a2.toNat) rfl t7 rfl y7 C7)<|Rx 14 983040 Y1 rfl b2 (AL rfl (G7 0 _ rfl))<|Rv 15 Y1 rfl b2 (fun _=>Ak rfl)<|xk h (fun G9 y4 h=>?_) (fun D2 y4 h=>?_)
 cases h
 refine BG 16 131071 917504 (.agg ((ab D2)).toArray) Y1 rfl b2 (bd 51) rfl (e2 rfl rfl) (fun p q=>AV (al_c n (s2.hL0 hL q)  y4)) rfl<|Rv 17 Y1 rfl b2 (fun _=>AO (vs:=[vI j2.fA,vI k3,.agg ((ab D2)).toArray]) (u:=.agg ((([vI j2.fA,vI k3]:List Value) ++ ab D2)).toArray) (e3 rfl rfl rfl) (fun p=>by kernel_rfl))<|BT (i:=18) (rk Y1) (RO.yieldPT (fd:=71) (m' :=524287) (vs:=[.agg ((([vI j2.fA,vI k3]:List Value) ++ ab D2)).toArray]) (sk Y1) rfl rfl .plain rfl (e1 rfl) s2 .t1 E8 rfl rfl rfl (fun _ B9 d7 Z7=>?_))
 refine Ao<|RG.nl [vI 0,vI 0,vW 0,vW 0,vW 0,vW 0,vW 0,vW 0,vW 0,vW 0,vW 0,vW 0,vW 0,vW 0,vW 0,vW 0,vW 0,vW 0] s2 fun I01 X8 g6 E6=>AQ (([vI j2.fA,vI k3]:List Value) ++ ab D2) g6 .hd (ai rfl) fun J01 j6 F6=>Aa<|MX.begin j6 .t2 fun K01 Q3 G6=>AA<|Ac<|AX 0 rfl<|AR rfl ((Q3.memA .t5) 0 _ rfl)<|AX 0 rfl<|AR rfl ((Q3.memA .hd) 0 _ rfl)<|bk h fun y2 q8 h=>Ab (BE (i:=k2) (j:=j2.fA) rfl rfl q8)<|AX 0 rfl<|BU .plain (BD (j:=0) (old:=[vI k2,vI d2,vU C1,vU D1,vU E1,vU F1,vU G1,vU H1,vU I1,vU J1,vU K1,vU M1,vU P1,vU Q1,vU R1,vU U1,vU V1,vU W1,vU Y0,vU Z0,vU b1,vU c1,vU g1,vU j1,vU k1,vU p1,vU q1,vU s1,vU u1,vU v1,vU x1,vU y1,vU z1,vU A1,vU c0,vU d0,vU g0,vU j0,vU p0,vU q0,vU s0,vU t0,vU u0,vU v0,vU x0,vU y0,vU z0,vU A0,vU B0,vU C0,vU D0,vU E0,vU F0,vU G0,vU H0,vU I0,vU J0,vU K0,vU M0,vU P0,vU Q0,vU R0,vU U0,vU V0,vU W0,vU X0]) (news:=[vI y2]) (new' :=[vI y2,vI d2,vU C1,vU D1,vU E1,vU F1,vU G1,vU H1,vU I1,vU J1,vU K1,vU M1,vU P1,vU Q1,vU R1,vU U1,vU V1,vU W1,vU Y0,vU Z0,vU b1,vU c1,vU g1,vU j1,vU k1,vU p1,vU q1,vU s1,vU u1,vU v1,vU x1,vU y1,vU z1,vU A1,vU c0,vU d0,vU g0,vU j0,vU p0,vU q0,vU s0,vU t0,vU u0,vU v0,vU x0,vU y0,vU z0,vU A0,vU B0,vU C0,vU D0,vU E0,vU F0,vU G0,vU H0,vU I0,vU J0,vU K0,vU M0,vU P0,vU Q0,vU R0,vU U0,vU V0,vU W0,vU X0]) Q3 .t5 rfl rfl rfl rfl rfl rfl (o1 rfl) rfl) fun M01 R3 H6=>?_
 refine Aa<|Ac<|AX 1 rfl<|AR rfl ((R3.memA .t5) 1 _ rfl)<|AX 1 rfl<|AR rfl ((R3.memA .hd) 1 _ rfl)<|bk h fun C2 s8 h=>Ab (BE (i:=d2) (j:=k3) rfl rfl s8)<|AX 1 rfl<|BU .plain (BD (j:=1) (old:=[vI y2,vI d2,vU C1,vU D1,vU E1,vU F1,vU G1,vU H1,vU I1,vU J1,vU K1,vU M1,vU P1,vU Q1,vU R1,vU U1,vU V1,vU W1,vU Y0,vU Z0,vU b1,vU c1,vU g1,vU j1,vU k1,vU p1,vU q1,vU s1,vU u1,vU v1,vU x1,vU y1,vU z1,vU A1,vU c0,vU d0,vU g0,vU j0,vU p0,vU q0,vU s0,vU t0,vU u0,vU v0,vU x0,vU y0,vU z0,vU A0,vU B0,vU C0,vU D0,vU E0,vU F0,vU G0,vU H0,vU I0,vU J0,vU K0,vU M0,vU P0,vU Q0,vU R0,vU U0,vU V0,vU W0,vU X0]) (news:=[vI C2]) (new' :=[vI y2,vI C2,vU C1,vU D1,vU E1,vU F1,vU G1,vU H1,vU I1,vU J1,vU K1,vU M1,vU P1,vU Q1,vU R1,vU U1,vU V1,vU W1,vU Y0,vU Z0,vU b1,vU c1,vU g1,vU j1,vU k1,vU p1,vU q1,vU s1,vU u1,vU v1,vU x1,vU y1,vU z1,vU A1,vU c0,vU d0,vU g0,vU j0,vU p0,vU q0,vU s0,vU t0,vU u0,vU v0,vU x0,vU y0,vU z0,vU A0,vU B0,vU C0,vU D0,vU E0,vU F0,vU G0,vU H0,vU I0,vU J0,vU K0,vU M0,vU P0,vU Q0,vU R0,vU U0,vU V0,vU W0,vU X0]) R3 .t5 rfl rfl rfl rfl rfl rfl (o1 rfl) rfl) fun P01 s3 I6=>?_
 refine Aa<|Ai<|du 7 fun J2 g3=>Rv 0 J2 rfl g3 (fun _=>AU 0 rfl)<|Rx 1 164 J2 rfl g3 (AL rfl ((s3.memA .hd) 0 _ rfl))<|xk h (fun H9 z4 h=>?_) (fun W4 z4 h=>?_)
 cases h
 refine BG 2 7 160 (.agg ((ab W4)).toArray) J2 rfl g3 (bd 51) rfl (e2 rfl rfl) (fun p q=>AV (al_c n (s3.hL0 hL q)  z4)) rfl<|Rv 3 J2 rfl g3 (fun _=>AU 2 rfl)<|Rx 4 160 J2 rfl g3 (AW (cs:=(ab D2)) rfl rfl (ae (s3.memA .hd) 2 16))<|xk h (fun I9 A4 h=>?_) (fun x3 A4 h=>?_)
 cases h
 refine BG 5 63 128 (.agg ((ab x3)).toArray) J2 rfl g3 (bd 72) rfl (e2 rfl rfl) (fun p q=>AV (aP_c n (s3.hL0 hL q) W4 D2 A4)) rfl<|BV 6 127 J2 rfl .plain rfl (Ax zL s3) fun Q01 Y8 k6 J6=>Bz 7 255 J2 rfl rfl .plain (Ay (news:=(ab x3)) k6 .hd rfl rfl rfl rfl rfl rfl (ai rfl)) fun R01 Y2 K6=>AM (dk J2)<|Ac<|AX 2 rfl<|Ab (AW (cs:=[vU C1,vU D1,vU E1,vU F1,vU G1,vU H1,vU I1,vU J1,vU K1,vU M1,vU P1,vU Q1,vU R1,vU U1,vU V1,vU W1]) rfl rfl (ae (Y2.memA .t6) 2 16))<|Ab (AF rfl (Y2.memA .hd))<|xk h (fun J9 b4 h=>?_) (fun B1 b4 h=>?_)
 have h:=au h q4
 refine BC (fst:=[]) (cap:=[]) .plain (bd 99) rfl (e2 rfl rfl) (fun p q=>bR_c n (Y2.hL0 hL q) (⟨(C1,D1,E1,F1,G1,H1,I1,J1),(K1,M1,P1,Q1,R1,U1,V1,W1)⟩:Ta) x3 b4) fun U01 Y6=>?_
 obtain ⟨p6,F00⟩:=Y2.agr Y6
 refine AZ Z7 func71<|AZ b8 func158<|PN.take p6 .t4 fun V01 q6 G00=>?_
 obtain ⟨s6,H00⟩:=AI q6 (.a0 (.a0 (.a0 (.a0 .d1))))
 cases h
 exact AZ hp0 func71 ⟨s6.ag,rfl⟩
 refine Bi (.agg ((ab B1)).toArray) (bd 99) rfl (e2 rfl rfl) (fun p q=>AV (bR_c n (Y2.hL0 hL q) (⟨(C1,D1,E1,F1,G1,H1,I1,J1),(K1,M1,P1,Q1,R1,U1,V1,W1)⟩:Ta) x3 b4)) rfl<|AX 2 rfl<|BU .plain (BD (j:=2) (old:=[vI y2,vI C2,vU C1,vU D1,vU E1,vU F1,vU G1,vU H1,vU I1,vU J1,vU K1,vU M1,vU P1,vU Q1,vU R1,vU U1,vU V1,vU W1,vU Y0,vU Z0,vU b1,vU c1,vU g1,vU j1,vU k1,vU p1,vU q1,vU s1,vU u1,vU v1,vU x1,vU y1,vU z1,vU A1,vU c0,vU d0,vU g0,vU j0,vU p0,vU q0,vU s0,vU t0,vU u0,vU v0,vU x0,vU y0,vU z0,vU A0,vU B0,vU C0,vU D0,vU E0,vU F0,vU G0,vU H0,vU I0,vU J0,vU K0,vU M0,vU P0,vU Q0,vU R0,vU U0,vU V0,vU W0,vU X0]) (news:=(ab B1)) (new' :=(([vI y2,vI C2]:List Value) ++ ab B1 ++ ([vU Y0,vU Z0,vU b1,vU c1,vU g1,vU j1,vU k1,vU p1,vU q1,vU s1,vU u1,vU v1,vU x1,vU y1,vU z1,vU A1,vU c0,vU d0,vU g0,vU j0,vU p0,vU q0,vU s0,vU t0,vU u0,vU v0,vU x0,vU y0,vU z0,vU A0,vU B0,vU C0,vU D0,vU E0,vU F0,vU G0,vU H0,vU I0,vU J0,vU K0,vU M0,vU P0,vU Q0,vU R0,vU U0,vU V0,vU W0,vU X0]:List Value))) Y2 .t6 rfl rfl rfl rfl rfl rfl (ai rfl) rfl) fun W01 G2 M6=>?_
 refine Aa<|Ai<|du 13 fun p2 v2=>Rv 0 p2 rfl v2 (fun _=>AU 18 rfl)<|Rx 1 14336 p2 rfl v2 (AW (cs:=[vU Y0,vU Z0,vU b1,vU c1,vU g1,vU j1,vU k1,vU p1,vU q1,vU s1,vU u1,vU v1,vU x1,vU y1,vU z1,vU A1]) rfl rfl (ae (G2.memA .t6) 18 16))<|Rv 2 p2 rfl v2 (fun _=>AU 1 rfl)<|Rx 3 15888 p2 rfl v2 (AL rfl ((G2.memA .t1) 1 _ rfl))<|xk h (fun K9 B4 h=>?_) (fun X4 B4 h=>?_)
 cases h
 refine BG 4 31 15872 (.agg ((ab X4)).toArray) p2 rfl v2 (bd 51) rfl (e2 rfl rfl) (fun p q=>AV (al_c n (G2.hL0 hL q)  B4)) rfl<|Rv 5 p2 rfl v2 (fun _=>AU 1 rfl)<|Rx 6 15872 p2 rfl v2 (AL rfl ((G2.memA .t1) 1 _ rfl))<|Rv 7 p2 rfl v2 (fun _=>AU 0 rfl)<|Rx 8 15872 p2 rfl v2 (AL rfl ((G2.memA .t1) 0 _ rfl))<|xk h (fun M9 C4 h=>?_) (fun Y4 C4 h=>?_)
 cases h
 refine BG 9 1023 15360 (.agg ((ab Y4)).toArray) p2 rfl v2 (bd 51) rfl (e2 rfl rfl) (fun p q=>AV (al_c n (G2.hL0 hL q)  C4)) rfl<|xk h (fun P9 D4 h=>?_) (fun Z4 D4 h=>?_)
 cases h
 refine BG 10 2047 14336 (.agg ((ab Z4)).toArray) p2 rfl v2 (bd 72) rfl (e2 rfl rfl) (fun p q=>AV (aP_c n (G2.hL0 hL q) X4 Y4 D4)) rfl<|xk h (fun Q9 E4 h=>?_) (fun X1 E4 h=>?_)
 cases h
 refine BG 11 4095 12288 (.agg ((ab X1)).toArray) p2 rfl v2 (bd 99) rfl (e2 rfl rfl) (fun p q=>AV (bR_c n (G2.hL0 hL q) (⟨(Y0,Z0,b1,c1,g1,j1,k1,p1),(q1,s1,u1,v1,x1,y1,z1,A1)⟩:Ta) Z4 E4)) rfl<|Rv 12 p2 rfl v2 (fun _=>AU 18 rfl)<|Bz 13 16383 p2 rfl rfl .plain (BD (j:=18) (old:=(([vI y2,vI C2]:List Value) ++ ab B1 ++ ([vU Y0,vU Z0,vU b1,vU c1,vU g1,vU j1,vU k1,vU p1,vU q1,vU s1,vU u1,vU v1,vU x1,vU y1,vU z1,vU A1,vU c0,vU d0,vU g0,vU j0,vU p0,vU q0,vU s0,vU t0,vU u0,vU v0,vU x0,vU y0,vU z0,vU A0,vU B0,vU C0,vU D0,vU E0,vU F0,vU G0,vU H0,vU I0,vU J0,vU K0,vU M0,vU P0,vU Q0,vU R0,vU U0,vU V0,vU W0,vU X0]:List Value))) (news:=(ab X1)) (new' :=(([vI y2,vI C2]:List Value) ++ ab B1 ++ ab X1 ++ ([vU c0,vU d0,vU g0,vU j0,vU p0,vU q0,vU s0,vU t0,vU u0,vU v0,vU x0,vU y0,vU z0,vU A0,vU B0,vU C0,vU D0,vU E0,vU F0,vU G0,vU H0,vU I0,vU J0,vU K0,vU M0,vU P0,vU Q0,vU R0,vU U0,vU V0,vU W0,vU X0]:List Value))) G2 .t6 rfl rfl rfl rfl rfl rfl (ai rfl) rfl) fun Y01 U2 P6=>AM (dk p2)<|Ai<|du 10 fun z2 E2=>Rv 0 z2 rfl E2 (fun _=>AU 34 rfl)<|Rx 1 1792 z2 rfl E2 (AW (cs:=[vU c0,vU d0,vU g0,vU j0,vU p0,vU q0,vU s0,vU t0,vU u0,vU v0,vU x0,vU y0,vU z0,vU A0,vU B0,vU C0]) rfl rfl (ae (U2.memA .t6) 34 16))<|Rv 2 z2 rfl E2 (fun _=>AU 1 rfl)<|Rx 3 1936 z2 rfl E2 (AL rfl ((U2.memA .t1) 1 _ rfl))<|xk h (fun R9 F4 h=>?_) (fun b5 F4 h=>?_)
 cases h
 refine BG 4 31 1920 (.agg ((ab b5)).toArray) z2 rfl E2 (bd 51) rfl (e2 rfl rfl) (fun p q=>AV (al_c n (U2.hL0 hL q)  F4)) rfl<|Rv 5 z2 rfl E2 (fun _=>AU 2 rfl)<|Rx 6 1920 z2 rfl E2 (AW (cs:=(ab D2)) rfl rfl (ae (U2.memA .t1) 2 16))<|xk h (fun U9 G4 h=>?_) (fun c5 G4 h=>?_)
 cases h
 refine BG 7 255 1792 (.agg ((ab c5)).toArray) z2 rfl E2 (bd 72) rfl (e2 rfl rfl) (fun p q=>AV (aP_c n (U2.hL0 hL q) b5 D2 G4)) rfl<|xk h (fun V9 H4 h=>?_) (fun Z1 H4 h=>?_)
 cases h
 refine BG 8 511 1536 (.agg ((ab Z1)).toArray) z2 rfl E2 (bd 99) rfl (e2 rfl rfl) (fun p q=>AV (bR_c n (U2.hL0 hL q) (⟨(c0,d0,g0,j0,p0,q0,s0,t0),(u0,v0,x0,y0,z0,A0,B0,C0)⟩:Ta) c5 H4)) rfl<|Rv 9 z2 rfl E2 (fun _=>AU 34 rfl)<|Bz 10 2047 z2 rfl rfl .plain (BD (j:=34) (old:=(([vI y2,vI C2]:List Value) ++ ab B1 ++ ab X1 ++ ([vU c0,vU d0,vU g0,vU j0,vU p0,vU q0,vU s0,vU t0,vU u0,vU v0,vU x0,vU y0,vU z0,vU A0,vU B0,vU C0,vU D0,vU E0,vU F0,vU G0,vU H0,vU I0,vU J0,vU K0,vU M0,vU P0,vU Q0,vU R0,vU U0,vU V0,vU W0,vU X0]:List Value))) (news:=(ab Z1)) (new' :=(([vI y2,vI C2]:List Value) ++ ab B1 ++ ab X1 ++ ab Z1 ++ ([vU D0,vU E0,vU F0,vU G0,vU H0,vU I0,vU J0,vU K0,vU M0,vU P0,vU Q0,vU R0,vU U0,vU V0,vU W0,vU X0]:List Value))) U2 .t6 rfl rfl rfl rfl rfl rfl (ai rfl) rfl) fun Z01 Z2 Q6=>AM (dk z2)<|du 8 fun F2 Q2=>Rv 0 F2 rfl Q2 (fun _=>AU 50 rfl)<|Rx 1 448 F2 rfl Q2 (AW (cs:=[vU D0,vU E0,vU F0,vU G0,vU H0,vU I0,vU J0,vU K0,vU M0,vU P0,vU Q0,vU R0,vU U0,vU V0,vU W0,vU X0]) rfl rfl (ae (Z2.memA .t6) 50 16))<|Rx 2 480 F2 rfl Q2 (AF rfl (Z2.memA .hd))<|Rv 3 F2 rfl Q2 (fun _=>AU 2 rfl)<|Rx 4 480 F2 rfl Q2 (AW (cs:=(ab D2)) rfl rfl (ae (Z2.memA .t1) 2 16))<|xk h (fun W9 I4 h=>?_) (fun d5 I4 h=>?_)
 cases h
 refine BG 5 63 448 (.agg ((ab d5)).toArray) F2 rfl Q2 (bd 72) rfl (e2 rfl rfl) (fun p q=>AV (aP_c n (Z2.hL0 hL q) x3 D2 I4)) rfl<|xk h (fun X9 J4 h=>?_) (fun c2 J4 h=>?_)
 cases h
 refine BG 6 127 384 (.agg ((ab c2)).toArray) F2 rfl Q2 (bd 99) rfl (e2 rfl rfl) (fun p q=>AV (bR_c n (Z2.hL0 hL q) (⟨(D0,E0,F0,G0,H0,I0,J0,K0),(M0,P0,Q0,R0,U0,V0,W0,X0)⟩:Ta) d5 J4)) rfl<|Rv 7 F2 rfl Q2 (fun _=>AU 50 rfl)<|Bz 8 511 F2 rfl rfl .plain (BD (j:=50) (old:=(([vI y2,vI C2]:List Value) ++ ab B1 ++ ab X1 ++ ab Z1 ++ ([vU D0,vU E0,vU F0,vU G0,vU H0,vU I0,vU J0,vU K0,vU M0,vU P0,vU Q0,vU R0,vU U0,vU V0,vU W0,vU X0]:List Value))) (news:=(ab c2)) (new' :=(([vI y2,vI C2]:List Value) ++ ab B1 ++ ab X1 ++ ab Z1 ++ ab c2)) Z2 .t6 rfl rfl rfl rfl rfl rfl (ai rfl) rfl) fun b02 u6 R6=>AM (dk F2)<|AC<|MX.roundEnd d7 u6 .t3 fun c02 v6 U6=>Rv 19 Y1 rfl b2 (fun _=>Bp rfl)<|AM (dk Y1)<|BI rfl<|Ar<|AC<|Ao<|Ab (Bn (i:=g2) (j:=1) rfl rfl (by omega))<|Ae rfl<|Aa ?_
 obtain ⟨x6,V6⟩:=AI v6 .d3
 exact D3 (g2 + 1,y2,C2,B1.fN.1,B1.fN.2.1,B1.fN.2.2.1,B1.fN.2.2.2.1,B1.fN.2.2.2.2.1,B1.fN.2.2.2.2.2.1,B1.fN.2.2.2.2.2.2.1,B1.fN.2.2.2.2.2.2.2,B1.fD.1,B1.fD.2.1,B1.fD.2.2.1,B1.fD.2.2.2.1,B1.fD.2.2.2.2.1,B1.fD.2.2.2.2.2.1,B1.fD.2.2.2.2.2.2.1,B1.fD.2.2.2.2.2.2.2,X1.fN.1,X1.fN.2.1,X1.fN.2.2.1,X1.fN.2.2.2.1,X1.fN.2.2.2.2.1,X1.fN.2.2.2.2.2.1,X1.fN.2.2.2.2.2.2.1,X1.fN.2.2.2.2.2.2.2,X1.fD.1,X1.fD.2.1,X1.fD.2.2.1,X1.fD.2.2.2.1,X1.fD.2.2.2.2.1,X1.fD.2.2.2.2.2.1,X1.fD.2.2.2.2.2.2.1,X1.fD.2.2.2.2.2.2.2,Z1.fN.1,Z1.fN.2.1,Z1.fN.2.2.1,Z1.fN.2.2.2.1,Z1.fN.2.2.2.2.1,Z1.fN.2.2.2.2.2.1,Z1.fN.2.2.2.2.2.2.1,Z1.fN.2.2.2.2.2.2.2,Z1.fD.1,Z1.fD.2.1,Z1.fD.2.2.1,Z1.fD.2.2.2.1,Z1.fD.2.2.2.2.1,Z1.fD.2.2.2.2.2.1,Z1.fD.2.2.2.2.2.2.1,Z1.fD.2.2.2.2.2.2.2,c2.fN.1,c2.fN.2.1,c2.fN.2.2.1,c2.fN.2.2.2.1,c2.fN.2.2.2.2.1,c2.fN.2.2.2.2.2.1,c2.fN.2.2.2.2.2.2.1,c2.fN.2.2.2.2.2.2.2,c2.fD.1,c2.fD.2.1,c2.fD.2.2.1,c2.fD.2.2.2.1,c2.fD.2.2.2.2.1,c2.fD.2.2.2.2.2.1,c2.fD.2.2.2.2.2.2.1,c2.fD.2.2.2.2.2.2.2) x6 (Tt E3 (Tt X3 (Tt E6 (Tt F6 (Tt G6 (Tt H6 (Tt I6 (Tt J6 (Tt K6 (Tt M6 (Tt P6 (Tt Q6 (Tt R6 (Tt U6 V6)))))))))))))) h
 refine Be rfl ?_
 have h:=aF h q4
 try dsimp only at h
 refine MX.fin rfl<|Ap (u:=.tuple #[]) g7 func158 rfl .nil rfl<|MX.endRange0 P3 .hd (by intro h9; cases h9) fun d02 y6 K00=>?_
 obtain ⟨V2,M00⟩:=AI y6 .d1
 refine AC<|Ac<|Af rfl<|Aa<|Ai<|du 8 fun u2 j3=>Rv 0 u2 rfl j3 (fun _=>AU 0 rfl)<|Rx 1 804 u2 rfl j3 (AL rfl ((V2.memA .t2) 0 _ rfl))<|xk h (fun Y9 K4 h=>?_) (fun p3 K4 h=>?_)
 cases h
 refine BG 2 7 800 (.agg ((ab p3)).toArray) u2 rfl j3 (bd 51) rfl (e2 rfl rfl) (fun p q=>AV (al_c n (V2.hL0 hL q)  K4)) rfl<|Rv 3 u2 rfl j3 (fun _=>AU 1 rfl)<|Rx 4 800 u2 rfl j3 (AL rfl ((V2.memA .t2) 1 _ rfl))<|xk h (fun Z9 M4 h=>?_) (fun R2 M4 h=>?_)
 cases h
 refine BG 5 63 768 (.agg ((ab R2)).toArray) u2 rfl j3 (bd 51) rfl (e2 rfl rfl) (fun p q=>AV (al_c n (V2.hL0 hL q)  M4)) rfl<|RD.mo (α:=Nat × Nat) (fun ⟨z3,A3⟩=>[(6,vP y3),(7,vP B3),(8,vP C3),(11,.func (.func 120) #[] #[]),(105,.agg ((ab p3)).toArray),(108,.agg ((ab R2)).toArray),(12,vP A3),(13,vP z3)]) (fun ⟨z3,A3⟩=>[.cells z3 zL 38,.cells A3 zL 38,.obj H3 (.deferred (some [])),.cells C3 [vI k2,vI d2,vU C1,vU D1,vU E1,vU F1,vU G1,vU H1,vU I1,vU J1,vU K1,vU M1,vU P1,vU Q1,vU R1,vU U1,vU V1,vU W1,vU Y0,vU Z0,vU b1,vU c1,vU g1,vU j1,vU k1,vU p1,vU q1,vU s1,vU u1,vU v1,vU x1,vU y1,vU z1,vU A1,vU c0,vU d0,vU g0,vU j0,vU p0,vU q0,vU s0,vU t0,vU u0,vU v0,vU x0,vU y0,vU z0,vU A0,vU B0,vU C0,vU D0,vU E0,vU F0,vU G0,vU H0,vU I0,vU J0,vU K0,vU M0,vU P0,vU Q0,vU R0,vU U0,vU V0,vU W0,vU X0] 124,.cells B3 (ab b0) 38,.cells y3 [vI 0,vI 0,vW 0,vW 0,vW 0,vW 0,vW 0,vW 0,vW 0,vW 0,vW 0,vW 0,vW 0,vW 0,vW 0,vW 0,vW 0,vW 0,vW 0,vW 0,vW 0,vW 0,vW 0,vW 0,vW 0,vW 0,vW 0,vW 0,vW 0,vW 0,vW 0,vW 0,vW 0,vW 0,vW 0,vW 0,vW 0,vW 0,vW 0,vW 0,vW 0,vW 0,vW 0,vW 0,vW 0,vW 0,vW 0,vW 0,vW 0,vW 0,vW 0,vW 0,vW 0,vW 0,vW 0,vW 0,vW 0,vW 0,vW 0,vW 0,vW 0,vW 0,vW 0,vW 0,vW 0,vW 0,vW 0,vW 0,vW 0,vW 0,vW 0,vW 0,vW 0,vW 0,vW 0,vW 0,vW 0,vW 0,vW 0,vW 0,vW 0,vW 0,vW 0,vW 0,vW 0,vW 0,vW 0,vW 0,vW 0,vW 0,vW 0,vW 0,vW 0,vW 0,vW 0,vW 0,vW 0,vW 0] 126]) V2 2 255 ?_ ?_
 rintro ⟨z3,A3⟩ g02 F5 d00
 try dsimp only
 refine Bz 8 511 u2 rfl rfl .plain (Ay (news:=(ab p3)) F5 .t1 rfl rfl rfl rfl rfl rfl (ai rfl)) fun q01 G5 g00=>Bz 9 1023 u2 rfl rfl .plain (Ay (news:=(ab R2)) G5 .hd rfl rfl rfl rfl rfl rfl (ai rfl)) fun s01 P2 j00=>AM (dk u2)<|Ac<|Ae rfl<|Ab (AF rfl (P2.memA .t1))<|AX 18 rfl<|Ab (AW (cs:=[vU Y0,vU Z0,vU b1,vU c1,vU g1,vU j1,vU k1,vU p1,vU q1,vU s1,vU u1,vU v1,vU x1,vU y1,vU z1,vU A1]) rfl rfl (ae (P2.memA .t3) 18 16))<|Ab (AF rfl (P2.memA .hd))<|Ab (AF rfl (P2.memA .hd))<|xk h (fun D9 Y3 h=>?_) (fun K2 Y3 h=>?_)
 refine BC (fst:=[]) (cap:=[]) .plain (bd 120) rfl (e4 rfl rfl rfl rfl) (fun p q=>cz_c n (P2.hL0 hL q) p3 (⟨(Y0,Z0,b1,c1,g1,j1,k1,p1),(q1,s1,u1,v1,x1,y1,z1,A1)⟩:Ta) R2 R2 Y3) fun t01 W6=>?_
 obtain ⟨H5,k00⟩:=P2.agr W6
 refine PN.take H5 .t2 fun u01 I5 p00=>?_
 obtain ⟨J5,q00⟩:=AI I5 (.a0 (.a0 .d1))
 cases h
 exact AZ hp0 func71 ⟨J5.ag,rfl⟩
 refine Bi (.agg ((ab K2)).toArray) (bd 120) rfl (e4 rfl rfl rfl rfl) (fun p q=>AV (cz_c n (P2.hL0 hL q) p3 (⟨(Y0,Z0,b1,c1,g1,j1,k1,p1),(q1,s1,u1,v1,x1,y1,z1,A1)⟩:Ta) R2 R2 Y3)) rfl<|RG.nl zL P2 fun v01 W8 K5 s00=>AQ (ab K2) K5 .hd (ai rfl) fun x01 A2 t00=>Aa<|Ac<|Ab (AF rfl (A2.memA .hd))<|Ab (AF rfl (A2.memA .t5))<|Ab (FV.eqlV (v:=.agg ((ab K2)).toArray) (u:=.agg ((ab b0)).toArray) rfl rfl (cG K2 b0))<|By (fst:=[]) (cap:=[]) (vs:=[.bool (decide (K2 = b0)),vI 7]) .plain (bd 47) func47 rfl rfl rfl rfl (e2 rfl rfl) rfl fun k9 b7 J7=>Ac<|Ae rfl<|Aa<|AT rfl h (fun g5 h=>?_) (fun g5 h=>?_)
 refine Ao<|Ae rfl<|By (fst:=[]) (cap:=[]) (vs:=[vI 7]) .plain (bd 61) func61 rfl rfl rfl rfl (e1 rfl) rfl fun p9 Q00 K7=>Ac<|Ae rfl<|Ab (FV.neqN (i:=7) (j:=0) rfl rfl)<|Aa<|Bb rfl<|Ao<|Ae rfl<|Ab (AO (vs:=[vI 7]) (u:=.agg #[vI 7]) (e1 rfl) (fun p=>by kernel_rfl))<|Ab (BF rfl rfl)<|RG.panic .plain rfl<|AZ K7 func61<|AZ J7 func47<|PN.take A2 .t3 fun y01 M5 u00=>?_
 obtain ⟨P5,v00⟩:=AI M5 (.a0 (.a0 (.a0 .d1)))
 cases h
 exact AZ hp0 func71 ⟨P5.ag,rfl⟩
 refine Ar<|MX.fin rfl<|Ap (u:=.tuple #[]) b7 func47 rfl .nil rfl<|Aa<|Ai<|du 11 fun x2 B2=>Rx 0 3072 x2 rfl B2 (AF rfl (A2.memA .t4))<|Rx 1 3072 x2 rfl B2 (AF rfl (A2.memA .hd))<|Rv 2 x2 rfl B2 (fun _=>Ak rfl)<|Rx 3 3584 x2 rfl B2 (AF rfl (A2.memA .t2))<|Rv 4 x2 rfl B2 (fun _=>AU 34 rfl)<|Rx 5 3584 x2 rfl B2 (AW (cs:=[vU c0,vU d0,vU g0,vU j0,vU p0,vU q0,vU s0,vU t0,vU u0,vU v0,vU x0,vU y0,vU z0,vU A0,vU B0,vU C0]) rfl rfl (ae (A2.memA .t4) 34 16))<|Rx 6 3584 x2 rfl B2 (AF rfl (A2.memA .t1))<|Rv 7 x2 rfl B2 (fun _=>AU 2 rfl)<|Rx 8 3584 x2 rfl B2 (AW (cs:=[vU C1,vU D1,vU E1,vU F1,vU G1,vU H1,vU I1,vU J1,vU K1,vU M1,vU P1,vU Q1,vU R1,vU U1,vU V1,vU W1]) rfl rfl (ae (A2.memA .t4) 2 16))<|xk h (fun E9 x4 h=>?_) (fun v3 x4 h=>?_)
 cases h
 refine BG 9 1023 3072 (.agg ((ab v3)).toArray) x2 rfl B2 (bd 120) rfl (e4 rfl rfl rfl rfl) (fun p q=>AV (cz_c n (A2.hL0 hL q) p3 (⟨(c0,d0,g0,j0,p0,q0,s0,t0),(u0,v0,x0,y0,z0,A0,B0,C0)⟩:Ta) R2 (⟨(C1,D1,E1,F1,G1,H1,I1,J1),(K1,M1,P1,Q1,R1,U1,V1,W1)⟩:Ta) x4)) rfl<|Rv 10 x2 rfl B2 (fun _=>AO (vs:=[.agg #[vI k2,vI d2,vU C1,vU D1,vU E1,vU F1,vU G1,vU H1,vU I1,vU J1,vU K1,vU M1,vU P1,vU Q1,vU R1,vU U1,vU V1,vU W1,vU Y0,vU Z0,vU b1,vU c1,vU g1,vU j1,vU k1,vU p1,vU q1,vU s1,vU u1,vU v1,vU x1,vU y1,vU z1,vU A1,vU c0,vU d0,vU g0,vU j0,vU p0,vU q0,vU s0,vU t0,vU u0,vU v0,vU x0,vU y0,vU z0,vU A0,vU B0,vU C0,vU D0,vU E0,vU F0,vU G0,vU H0,vU I0,vU J0,vU K0,vU M0,vU P0,vU Q0,vU R0,vU U0,vU V0,vU W0,vU X0],.agg ((ab K2)).toArray,.agg ((ab v3)).toArray]) (u:=.agg ((([vI k2,vI d2,vU C1,vU D1,vU E1,vU F1,vU G1,vU H1,vU I1,vU J1,vU K1,vU M1,vU P1,vU Q1,vU R1,vU U1,vU V1,vU W1,vU Y0,vU Z0,vU b1,vU c1,vU g1,vU j1,vU k1,vU p1,vU q1,vU s1,vU u1,vU v1,vU x1,vU y1,vU z1,vU A1,vU c0,vU d0,vU g0,vU j0,vU p0,vU q0,vU s0,vU t0,vU u0,vU v0,vU x0,vU y0,vU z0,vU A0,vU B0,vU C0,vU D0,vU E0,vU F0,vU G0,vU H0,vU I0,vU J0,vU K0,vU M0,vU P0,vU Q0,vU R0,vU U0,vU V0,vU W0,vU X0]:List Value) ++ ab K2 ++ ab v3)).toArray) (e3 rfl rfl rfl) (fun p=>by kernel_rfl))<|Bz 11 4095 x2 rfl rfl .plain (Ay (news:=(([vI k2,vI d2,vU C1,vU D1,vU E1,vU F1,vU G1,vU H1,vU I1,vU J1,vU K1,vU M1,vU P1,vU Q1,vU R1,vU U1,vU V1,vU W1,vU Y0,vU Z0,vU b1,vU c1,vU g1,vU j1,vU k1,vU p1,vU q1,vU s1,vU u1,vU v1,vU x1,vU y1,vU z1,vU A1,vU c0,vU d0,vU g0,vU j0,vU p0,vU q0,vU s0,vU t0,vU u0,vU v0,vU x0,vU y0,vU z0,vU A0,vU B0,vU C0,vU D0,vU E0,vU F0,vU G0,vU H0,vU I0,vU J0,vU K0,vU M0,vU P0,vU Q0,vU R0,vU U0,vU V0,vU W0,vU X0]:List Value) ++ ab K2 ++ ab v3)) A2 .t6 rfl rfl rfl rfl rfl rfl (ai rfl)) fun z01 Q5 x00=>?_
 refine AM (dk x2)<|Al rfl<|RT.take Q5 .t3 fun A01 R5 y00=>?_
 obtain ⟨k4,z00⟩:=AI R5 (.a0 (.a0 (.a0 .d1)))
 refine Ap hb0 func71 rfl (.cons (.many (cs:=(([vI k2,vI d2,vU C1,vU D1,vU E1,vU F1,vU G1,vU H1,vU I1,vU J1,vU K1,vU M1,vU P1,vU Q1,vU R1,vU U1,vU V1,vU W1,vU Y0,vU Z0,vU b1,vU c1,vU g1,vU j1,vU k1,vU p1,vU q1,vU s1,vU u1,vU v1,vU x1,vU y1,vU z1,vU A1,vU c0,vU d0,vU g0,vU j0,vU p0,vU q0,vU s0,vU t0,vU u0,vU v0,vU x0,vU y0,vU z0,vU A0,vU B0,vU C0,vU D0,vU E0,vU F0,vU G0,vU H0,vU I0,vU J0,vU K0,vU M0,vU P0,vU Q0,vU R0,vU U0,vU V0,vU W0,vU X0]:List Value) ++ ab K2 ++ ab v3)) rfl rfl (k4.memA .t5)) .nil) rfl ?_
 cases h
 exact ⟨k4.ag,fun p q=>aC rfl⟩
 intro j4
 refine BB [6,7] (rk u2) ⟨?_,?_,trivial⟩
 refine BH (m' :=127) (sk u2) rfl .plain rfl (Ax zL V2) fun G8 I3 K3 V3=>BV 7 255 u2 rfl .plain rfl (Ax zL K3) fun H8 J3 M3 W3=>?_
 obtain ⟨U5,z6⟩:=AI M3 (.a0 (.a0 (.a0 (.a1 (.a1 (.a1 .done))))))
 exact j4 (J3,I3) U5 (Tt V3 (Tt W3 z6))
 refine BH (m' :=191) (sk u2) rfl .plain rfl (Ax zL V2) fun H8 J3 M3 W3=>BV 6 255 u2 rfl .plain rfl (Ax zL M3) fun G8 I3 K3 V3=>?_
 obtain ⟨V5,A6⟩:=AI K3 (.a1 (.a0 (.a0 (.a1 (.a1 (.a1 .done))))))
 exact j4 (J3,I3) V5 (Tt W3 (Tt V3 A6))
 refine Ao<|Ae rfl<|Ab (AO (vs:=[vI u3]) (u:=.agg #[vI u3]) (e1 rfl) (fun p=>by kernel_rfl))<|Ab (BF rfl rfl)<|RG.panic .plain rfl<|AZ M7 func61 ?_
 cases h
 exact AZ hp0 func71 ⟨q2.ag,rfl⟩
def dr_p (n:Nat) (a0:Td) (a1:Int) (a2:Int):Option (Except Te Ttold):=
  (bw_p n a0 a1 a2).bind fun j0=>exc j0 (fun b0=>(co_p n b0.fn b0.fd).bind fun k0=>exc k0 (fun c0=>(al_p n b0.fI.fx (1:Int)).bind fun p0=>exc p0 (fun q0=>(aP_p n c0 q0).bind fun s0=>exc s0 (fun t0=>(cD_p n b0.fI.fy t0).bind fun u0=>exc u0 (fun v0=>(al_p n b0.fI.fw (1:Int)).bind fun x0=>exc x0 (fun y0=>(co_p n v0 y0).bind fun z0=>exc z0 (fun A0=>some (.ok (⟨c0,A0⟩:Ttold))) (fun _e66=>none)) (fun _e62=>none)) (fun _e58=>none)) (fun _e54=>none)) (fun _e50=>none)) (fun g0=>some (.error g0))) (fun d0=>some (.error d0))
theorem dr_c (n:Nat) {L w} (hL:hl L w) (a0:Td) {v0_3:Value} (h0_3:Rep.R w L [v0_3] a0.fu) {p0:Nat} (m0:∀ j9 v9,([vI a0.fj,vI a0.fh,vI a0.fl,v0_3]:List Value)[j9]? = some v9 -> w.cell? ((⟨p0,0,none⟩:Addr).add j9) = some v9) {a1:Int} {p1:Nat} (m1:∀ j9 v9,([vI a1]:List Value)[j9]? = some v9 -> w.cell? ((⟨p1,0,none⟩:Addr).add j9) = some v9) {a2:Int} {p2:Nat} (m2:∀ j9 v9,([vI a2]:List Value)[j9]? = some v9 -> w.cell? ((⟨p2,0,none⟩:Addr).add j9) = some v9)  {r:Except Te Ttold} (h:dr_p n a0 a1 a2 = some r) :
 Cl 70 #[.pointer (some ⟨p0,0,none⟩),.pointer (some ⟨p1,0,none⟩),.pointer (some ⟨p2,0,none⟩)] w (aK w (fun (y:Ttold) _ u=>u = .agg ((cB y)).toArray) (fun e=>.iface 145 (.agg #[vI e.fE])) r):=by
 unfold dr_p at h
 refine BO func70 rfl rfl rfl fun _ cs0 hb0 hp0=>Ac<|RG.nl [vW 0,vW 0,vW 0,vW 0,vW 0,vW 0,vW 0,vW 0,vW 0,vW 0,vW 0,vW 0,vW 0,vW 0,vW 0,vW 0,vW 0,vW 0,vW 0,vW 0,vW 0,vW 0,vW 0,vW 0,vW 0,vW 0,vW 0,vW 0,vW 0,vW 0,vW 0,vW 0] (Az w) fun x1 Q0 j0 d1=>Aa<|Ac<|Ab (AF rfl (fun j9 v9 h9=>j0.ag.cell0 (m0 j9 v9 h9)))<|AR rfl ((fun j9 v9 h9=>j0.ag.cell0 (m1 j9 v9 h9)) 0 _ rfl)<|AR rfl ((fun j9 v9 h9=>j0.ag.cell0 (m2 j9 v9 h9)) 0 _ rfl)<|xk h (fun V0 u0 h=>?_) (fun b0 u0 h=>?_)
 refine BC (fst:=[]) (cap:=[]) .plain (bd 71) rfl (e3 rfl rfl rfl) (fun p q=>bw_c n (j0.hL0 hL q) a0 (j0.k0 h0_3 q) u0) fun y1 M0=>?_
 obtain ⟨H0,g1⟩:=j0.agr M0
 cases h
 exact AZ hp0 func70 ⟨H0.ag,rfl⟩
 refine Bi (.agg ((([vI b0.fI.fw,vI b0.fI.fx]:List Value) ++ ab b0.fI.fy ++ ab b0.fI.fa ++ ab b0.fI.fb ++ ab b0.fI.fc ++ ab b0.fd ++ ab b0.fn)).toArray) (bd 71) rfl (e3 rfl rfl rfl) (fun p q=>AV (bw_c n (j0.hL0 hL q) a0 (j0.k0 h0_3 q) u0)) rfl<|RG.nl [vI 0,vI 0,vW 0,vW 0,vW 0,vW 0,vW 0,vW 0,vW 0,vW 0,vW 0,vW 0,vW 0,vW 0,vW 0,vW 0,vW 0,vW 0,vW 0,vW 0,vW 0,vW 0,vW 0,vW 0,vW 0,vW 0,vW 0,vW 0,vW 0,vW 0,vW 0,vW 0,vW 0,vW 0,vW 0,vW 0,vW 0,vW 0,vW 0,vW 0,vW 0,vW 0,vW 0,vW 0,vW 0,vW 0,vW 0,vW 0,vW 0,vW 0,vW 0,vW 0,vW 0,vW 0,vW 0,vW 0,vW 0,vW 0,vW 0,vW 0,vW 0,vW 0,vW 0,vW 0,vW 0,vW 0,vW 0,vW 0,vW 0,vW 0,vW 0,vW 0,vW 0,vW 0,vW 0,vW 0,vW 0,vW 0,vW 0,vW 0,vW 0,vW 0,vW 0,vW 0,vW 0,vW 0,vW 0,vW 0,vW 0,vW 0,vW 0,vW 0,vW 0,vW 0,vW 0,vW 0,vW 0,vW 0] j0 fun z1 R0 I0 j1=>AQ (([vI b0.fI.fw,vI b0.fI.fx]:List Value) ++ ab b0.fI.fy ++ ab b0.fI.fa ++ ab b0.fI.fb ++ ab b0.fI.fc ++ ab b0.fd ++ ab b0.fn) I0 .hd (ai rfl) fun A1 s0 k1=>Aa<|Ac<|AX 82 rfl<|Ab (AW (cs:=(ab b0.fn)) rfl rfl (ae (s0.memA .hd) 82 16))<|AX 66 rfl<|Ab (AW (cs:=(ab b0.fd)) rfl rfl (ae (s0.memA .hd) 66 16))<|xk h (fun W0 v0 h=>?_) (fun q0 v0 h=>?_)
 refine BC (fst:=[]) (cap:=[]) .plain (bd 52) rfl (e2 rfl rfl) (fun p q=>co_c n (s0.hL0 hL q) b0.fn b0.fd v0) fun B1 P0=>?_
 obtain ⟨J0,q1⟩:=s0.agr P0
 cases h
 exact AZ hp0 func70 ⟨J0.ag,rfl⟩
 refine Bi (.agg ((ab q0)).toArray) (bd 52) rfl (e2 rfl rfl) (fun p q=>AV (co_c n (s0.hL0 hL q) b0.fn b0.fd v0)) rfl<|RG.nl zL s0 fun C1 U0 K0 s1=>AQ (ab q0) K0 .hd (ai rfl) fun D1 g0 u1=>Aa<|Ai<|du 17 fun c0 d0=>Rx 0 196608 c0 rfl d0 (AF rfl (g0.memA .hd))<|Rv 1 c0 rfl d0 (fun _=>AU 0 rfl)<|Rv 2 c0 rfl d0 (fun _=>AU 2 rfl)<|Rx 3 246784 c0 rfl d0 (AW (cs:=(ab b0.fI.fy)) rfl rfl (ae (aX (g0.memA .t1) 0) 2 16))<|Rx 4 247296 c0 rfl d0 (AF rfl (g0.memA .hd))<|Rv 5 c0 rfl d0 (fun _=>AU 0 rfl)<|Rv 6 c0 rfl d0 (fun _=>AU 1 rfl)<|Rx 7 247552 c0 rfl d0 (AL rfl ((aX (g0.memA .t1) 0) 1 _ rfl))<|xk h (fun X0 y0 h=>?_) (fun D0 y0 h=>?_)
 cases h
 refine BG 8 511 247296 (.agg ((ab D0)).toArray) c0 rfl d0 (bd 51) rfl (e2 rfl rfl) (fun p q=>AV (al_c n (g0.hL0 hL q)  y0)) rfl<|xk h (fun Y0 z0 h=>?_) (fun E0 z0 h=>?_)
 cases h
 refine BG 9 1023 246784 (.agg ((ab E0)).toArray) c0 rfl d0 (bd 72) rfl (e2 rfl rfl) (fun p q=>AV (aP_c n (g0.hL0 hL q) q0 D0 z0)) rfl<|xk h (fun Z0 A0 h=>?_) (fun F0 A0 h=>?_)
 cases h
 refine BG 10 2047 245760 (.agg ((ab F0)).toArray) c0 rfl d0 (bd 50) rfl (e2 rfl rfl) (fun p q=>AV (cD_c n (g0.hL0 hL q) b0.fI.fy E0 A0)) rfl<|Rv 11 c0 rfl d0 (fun _=>AU 0 rfl)<|Rv 12 c0 rfl d0 (fun _=>AU 0 rfl)<|Rx 13 245760 c0 rfl d0 (AL rfl ((aX (g0.memA .t1) 0) 0 _ rfl))<|xk h (fun b1 B0 h=>?_) (fun G0 B0 h=>?_)
 cases h
 refine BG 14 32767 229376 (.agg ((ab G0)).toArray) c0 rfl d0 (bd 51) rfl (e2 rfl rfl) (fun p q=>AV (al_c n (g0.hL0 hL q)  B0)) rfl<|xk h (fun c1 C0 h=>?_) (fun t0 C0 h=>?_)
 cases h
 refine BG 15 65535 196608 (.agg ((ab t0)).toArray) c0 rfl d0 (bd 52) rfl (e2 rfl rfl) (fun p q=>AV (co_c n (g0.hL0 hL q) F0 G0 C0)) rfl<|Rv 16 c0 rfl d0 (fun _=>AO (vs:=[.agg ((ab q0)).toArray,.agg ((ab t0)).toArray]) (u:=.agg ((ab q0 ++ ab t0)).toArray) (e2 rfl rfl) (fun p=>by kernel_rfl))<|Bz 17 262143 c0 rfl rfl .plain (Ay (news:=(ab q0 ++ ab t0)) g0 .t2 rfl rfl rfl rfl rfl rfl (ai rfl)) fun E1 x0 v1=>AM (dk c0)<|Al rfl<|Ap hb0 func70 rfl (.cons (.many (cs:=(ab q0 ++ ab t0)) rfl rfl (x0.memA .t2)) .nil) rfl ?_
 cases h
 exact ⟨x0.ag,fun p q=>aC rfl⟩
def dB_p (n:Nat) (a0:Td) (a1:Int) (a2:Int):Option (Ta × Ta × Int):=
  (dr_p n a0 a1 a2).bind fun d0=>exc d0 (fun b0=>some (b0.fM,b0.fP,(0:Int))) (fun c0=>some ((⟨(0,0,0,0,0,0,0,0),(0,0,0,0,0,0,0,0)⟩:Ta),(⟨(0,0,0,0,0,0,0,0),(0,0,0,0,0,0,0,0)⟩:Ta),c0.fE))
theorem dB_c (n:Nat) {L w} (hL:hl L w) (a0:Td) {v0_3:Value} (h0_3:Rep.R w L [v0_3] a0.fu) {a1:Int} {a2:Int}  {r:Ta × Ta × Int} (h:dB_p n a0 a1 a2 = some r) :
 Cl 21 #[.agg #[vI a0.fj,vI a0.fh,vI a0.fl,v0_3],vI a1,vI a2] w (ah w fun _ u=>u = .tuple #[.agg ((ab r.1)).toArray,.agg ((ab r.2.1)).toArray,vI r.2.2]):=by
 unfold dB_p at h
 refine AG func21 rfl rfl rfl fun _ cs0 hb0=>Ac<|RG.bx (Az w) rfl rfl fun V2 u0 b1 v2=>RG.bx b1 rfl rfl fun Z2 v0 g1 x2=>RG.bx g1 rfl rfl fun b3 x0 j1 y2=>RG.nl zL j1 fun p3 y0 y1 F2=>RG.nl zL y1 fun q3 z0 z1 G2=>Af rfl<|Aa<|Ac<|Ab (BP (vs:=[]) (us:=[vP u0,vP v0,vP x0]) aj (e3 rfl rfl rfl))<|By (fst:=[]) (cap:=[]) (vs:=[.func (.func 70) #[] #[vP u0,vP v0,vP x0]]) .plain (bd 69) func69 rfl rfl rfl rfl (e1 rfl) rfl fun p2 Y0 U2=>Ac<|RG.nl [vW 0,vW 0,vW 0,vW 0,vW 0,vW 0,vW 0,vW 0,vW 0,vW 0,vW 0,vW 0,vW 0,vW 0,vW 0,vW 0,vW 0,vW 0,vW 0,vW 0,vW 0,vW 0,vW 0,vW 0,vW 0,vW 0,vW 0,vW 0,vW 0,vW 0,vW 0,vW 0] z1 fun u3 A0 D1 J2=>RG.nl [vI 0] D1 fun v3 p0 c0 K2=>Aa<|Ac<|Ab (BP (vs:=[]) (us:=[vP A0,vP p0]) aj (e2 rfl rfl))<|RG.defer (fst:=[]) (cap:=[vP A0,vP p0]) (vs:=[]) rfl .plain rfl aj<|Aa<|Ac ?_
 refine Ae rfl<|xk h (fun q0 R0 h=>?_) (fun b0 R0 h=>?_)
 refine BC (fst:=[]) (cap:=[vP u0,vP v0,vP x0]) .plain (bd 70) rfl aj (fun p q=>dr_c n (c0.hL0 hL q) a0 (c0.k0 h0_3 q) (ao q (c0.memA .t6)) (ao q (c0.memA .t5)) (ao q (c0.memA .t4)) R0) fun x3 Q1=>?_
 obtain ⟨E1,M2⟩:=c0.agr Q1
 refine PN.callD (vs:=[]) (cap:=[vP A0,vP p0]) (bd 117) func117 rfl rfl rfl fun k2 R1 V1=>Ac<|RG.recover1 .plain R1 rfl<|Af rfl<|Aa<|Ac<|Ae rfl<|Ab (FV.neqI underlying20 rfl rfl)<|Aa<|Bb rfl<|Ac<|Ae rfl<|Ab (FV.assertT rfl rfl)<|Ae rfl<|Ab (Ah rfl rfl)<|Ab (Ah rfl rfl)<|RG.nl [vI 0] E1 fun y3 c2 F1 P2=>AQ [vI q0.fE] F1 .hd (o1 rfl) fun z3 G1 Q2=>Af rfl<|Aa<|Ai<|Ac<|Ae rfl<|Ab (Bp rfl)<|Aa<|BI rfl<|Ar<|Ac<|RG.nl [vW 0,vW 0,vW 0,vW 0,vW 0,vW 0,vW 0,vW 0,vW 0,vW 0,vW 0,vW 0,vW 0,vW 0,vW 0,vW 0,vW 0,vW 0,vW 0,vW 0,vW 0,vW 0,vW 0,vW 0,vW 0,vW 0,vW 0,vW 0,vW 0,vW 0,vW 0,vW 0] G1 fun A3 g2 D0 R2=>Aa<|du 3 fun j0 U0=>Rx 0 24 j0 rfl U0 (AF rfl (D0.memA .hd))<|Rv 1 j0 rfl U0 (fun _=>AU 0 rfl)<|RD.mo (α:=Unit) (fun ()=>[(1,vP p0),(19,vI q0.fE)]) (fun ()=>[.cells p0 [vI 0] 54,.cells A0 [vW 0,vW 0,vW 0,vW 0,vW 0,vW 0,vW 0,vW 0,vW 0,vW 0,vW 0,vW 0,vW 0,vW 0,vW 0,vW 0,vW 0,vW 0,vW 0,vW 0,vW 0,vW 0,vW 0,vW 0,vW 0,vW 0,vW 0,vW 0,vW 0,vW 0,vW 0,vW 0] 120,.cells z0 zL 38,.cells y0 zL 38,.cells x0 [vI a2] 3,.cells v0 [vI a1] 3,.cells u0 [vI a0.fj,vI a0.fh,vI a0.fl,v0_3] 46]) D0 1 15 ?_ ?_
 rintro ⟨⟩ B3 c1 q2
 try dsimp only
 refine Bz 4 31 j0 rfl rfl .plain (Ay (news:=[vI q0.fE]) c1 .hd rfl rfl rfl rfl rfl rfl (o1 rfl)) fun W2 H0 s2=>AM (dk j0)<|MX.fin rfl<|RT.leaveD1 V1 func117 rfl .nil<|Ap (u:=.tuple #[.agg #[vW 0,vW 0,vW 0,vW 0,vW 0,vW 0,vW 0,vW 0,vW 0,vW 0,vW 0,vW 0,vW 0,vW 0,vW 0,vW 0,vW 0,vW 0,vW 0,vW 0,vW 0,vW 0,vW 0,vW 0,vW 0,vW 0,vW 0,vW 0,vW 0,vW 0,vW 0,vW 0],vI q0.fE]) Y0 func69 rfl (.cons (.many (cs:=[vW 0,vW 0,vW 0,vW 0,vW 0,vW 0,vW 0,vW 0,vW 0,vW 0,vW 0,vW 0,vW 0,vW 0,vW 0,vW 0,vW 0,vW 0,vW 0,vW 0,vW 0,vW 0,vW 0,vW 0,vW 0,vW 0,vW 0,vW 0,vW 0,vW 0,vW 0,vW 0]) rfl rfl (H0.memA .t1)) (.cons (.one rfl rfl ((H0.memA .hd) 0 _ rfl)) .nil)) rfl<|Ae rfl<|Ab (Ah rfl rfl)<|Ab (Ah rfl rfl)<|RG.nl [vW 0,vW 0,vW 0,vW 0,vW 0,vW 0,vW 0,vW 0,vW 0,vW 0,vW 0,vW 0,vW 0,vW 0,vW 0,vW 0,vW 0,vW 0,vW 0,vW 0,vW 0,vW 0,vW 0,vW 0,vW 0,vW 0,vW 0,vW 0,vW 0,vW 0,vW 0,vW 0] H0 fun X2 Z1 d1 t2=>AQ [vW 0,vW 0,vW 0,vW 0,vW 0,vW 0,vW 0,vW 0,vW 0,vW 0,vW 0,vW 0,vW 0,vW 0,vW 0,vW 0,vW 0,vW 0,vW 0,vW 0,vW 0,vW 0,vW 0,vW 0,vW 0,vW 0,vW 0,vW 0,vW 0,vW 0,vW 0,vW 0] d1 .hd (ai rfl) fun Y2 B0 u2=>Af rfl<|Aa<|Ai<|du 5 fun d0 s0=>Rv 0 d0 rfl s0 (fun _=>AU 0 rfl)<|Rx 1 224 d0 rfl s0 (AW (cs:=zL) rfl rfl (ae (B0.memA .hd) 0 16))<|Rv 2 d0 rfl s0 (fun _=>AU 16 rfl)<|Rv 4 d0 rfl s0 (fun _=>Ak rfl)<|RD.mo (α:=Unit) (fun ()=>[(6,vP y0),(7,vP z0),(8,vI q0.fE),(19,vI q0.fE),(18,.agg zM)]) (fun ()=>[.cells z0 zL 38,.cells y0 zL 38]) B0 2 63 ?_ ?_
 rintro ⟨⟩ C3 k1 z2
 try dsimp only
 refine Bz 6 127 d0 rfl rfl .plain (Ay (news:=zL) k1 .hd rfl rfl rfl rfl rfl rfl (ai rfl)) fun c3 I0 A2=>Rv 7 d0 rfl s0 (fun _=>Bh rfl)<|AM (dk d0)<|Al rfl<|Ap hb0 func21 rfl (.cons (.many (cs:=zL) rfl rfl (I0.memA .t1)) (.cons (.many (cs:=zL) rfl rfl (I0.memA .hd)) (.cons (.tmp rfl) .nil))) rfl ?_
 cases h
 exact I0.gv
 intro V0
 refine BB [3,5] (rk d0) ⟨?_,?_,trivial⟩
 refine RO.val (m' :=31) (sk d0) rfl .plain rfl (AW (cs:=zL) rfl rfl (ae (B0.memA .hd) 16 16))<|Bz 5 63 d0 rfl rfl .plain (Ay (news:=zL) B0 .t4 rfl rfl rfl rfl rfl rfl (ai rfl)) fun W1 E0 M0=>?_
 obtain ⟨p1,H1⟩:=AI E0 (.a3 (.a3 .done))
 exact V0 () p1 (Tt M0 H1)
 refine RO.now (m' :=55) (sk d0) rfl rfl .plain (Ay (news:=zL) B0 .t4 rfl rfl rfl rfl rfl rfl (ai rfl)) fun W1 E0 M0=>Rx 3 192 d0 rfl s0 (AW (cs:=zL) rfl rfl (ae (E0.memA .hd) 16 16)) ?_
 obtain ⟨q1,I1⟩:=AI E0 (.a3 (.a3 .done))
 exact V0 () q1 (Tt M0 I1)
 intro W0
 refine BB [2,3] (rk j0) ⟨?_,?_,trivial⟩
 refine RO.val (m' :=7) (sk j0) rfl .plain rfl (AL rfl ((D0.memA .t1) 0 _ rfl))<|Bz 3 15 j0 rfl rfl .plain (Ay (news:=[vW 0,vW 0,vW 0,vW 0,vW 0,vW 0,vW 0,vW 0,vW 0,vW 0,vW 0,vW 0,vW 0,vW 0,vW 0,vW 0,vW 0,vW 0,vW 0,vW 0,vW 0,vW 0,vW 0,vW 0,vW 0,vW 0,vW 0,vW 0,vW 0,vW 0,vW 0,vW 0]) D0 .t3 rfl rfl rfl rfl rfl rfl (ai rfl)) fun Y1 G0 Q0=>?_
 obtain ⟨s1,J1⟩:=AI G0 .d2
 exact W0 () s1 (Tt Q0 J1)
 refine RO.now (m' :=11) (sk j0) rfl rfl .plain (Ay (news:=[vW 0,vW 0,vW 0,vW 0,vW 0,vW 0,vW 0,vW 0,vW 0,vW 0,vW 0,vW 0,vW 0,vW 0,vW 0,vW 0,vW 0,vW 0,vW 0,vW 0,vW 0,vW 0,vW 0,vW 0,vW 0,vW 0,vW 0,vW 0,vW 0,vW 0,vW 0,vW 0]) D0 .t3 rfl rfl rfl rfl rfl rfl (ai rfl)) fun Y1 G0 Q0=>Rx 2 16 j0 rfl U0 (AL rfl ((G0.memA .t1) 0 _ rfl)) ?_
 obtain ⟨u1,K1⟩:=AI G0 .d2
 exact W0 () u1 (Tt Q0 K1)
 refine RG.callq' (v:=.agg ((cB b0)).toArray) (fst:=[]) (cap:=[vP u0,vP v0,vP x0]) .plain (bd 70) rfl aj (fun p q=>AV (dr_c n (c0.hL0 hL q) a0 (c0.k0 h0_3 q) (ao q (c0.memA .t6)) (ao q (c0.memA .t5)) (ao q (c0.memA .t4)) R0)) rfl<|AQ (cB b0) c0 .t1 (ai rfl) fun d3 v1 B2=>AQ [vI 0] v1 .hd (o1 rfl) fun g3 J0 C2=>Aa<|Al rfl<|RT.callD (vs:=[]) (cap:=[vP A0,vP p0]) (bd 117) func117 rfl rfl rfl fun j2 Z0 U1=>Ac<|RG.recover0 .plain Z0 rfl<|Af rfl<|Aa<|Ac<|Ae rfl<|Ab (FV.neqI0 underlying20 rfl rfl)<|Aa<|BI rfl<|Ar<|MX.fin rfl<|RT.leaveD0 Z0 U1 func117 rfl .nil<|Ap (u:=.tuple #[.agg ((cB b0)).toArray,vI 0]) Y0 func69 rfl (.cons (.many (cs:=(cB b0)) rfl rfl (J0.memA .t1)) (.cons (.one rfl rfl ((J0.memA .hd) 0 _ rfl)) .nil)) rfl<|Ae rfl<|Ab (Ah rfl rfl)<|Ab (Ah rfl rfl)<|RG.nl [vW 0,vW 0,vW 0,vW 0,vW 0,vW 0,vW 0,vW 0,vW 0,vW 0,vW 0,vW 0,vW 0,vW 0,vW 0,vW 0,vW 0,vW 0,vW 0,vW 0,vW 0,vW 0,vW 0,vW 0,vW 0,vW 0,vW 0,vW 0,vW 0,vW 0,vW 0,vW 0] J0 fun j3 b2 x1 D2=>AQ (cB b0) x1 .hd (ai rfl) fun k3 C0 E2=>Af rfl<|Aa<|Ai<|du 5 fun g0 t0=>Rv 0 g0 rfl t0 (fun _=>AU 0 rfl)<|Rx 1 224 g0 rfl t0 (AW (cs:=(ab b0.fM)) rfl rfl (ae (C0.memA .hd) 0 16))<|Rv 2 g0 rfl t0 (fun _=>AU 16 rfl)<|Rv 4 g0 rfl t0 (fun _=>Ak rfl)<|RD.mo (α:=Unit) (fun ()=>[(6,vP y0),(7,vP z0),(8,vI 0),(19,vI 0),(18,.agg ((ab b0.fP)).toArray)]) (fun ()=>[.cells z0 zL 38,.cells y0 (ab b0.fM) 38]) C0 2 63 ?_ ?_
 rintro ⟨⟩ D3 A1 H2
 try dsimp only
 refine Bz 6 127 g0 rfl rfl .plain (Ay (news:=(ab b0.fP)) A1 .hd rfl rfl rfl rfl rfl rfl (ai rfl)) fun s3 K0 I2=>Rv 7 g0 rfl t0 (fun _=>Bh rfl)<|AM (dk g0)<|Al rfl<|Ap hb0 func21 rfl (.cons (.many (cs:=(ab b0.fM)) rfl rfl (K0.memA .t1)) (.cons (.many (cs:=(ab b0.fP)) rfl rfl (K0.memA .hd)) (.cons (.tmp rfl) .nil))) rfl ?_
 cases h
 exact K0.gv
 intro X0
 refine BB [3,5] (rk g0) ⟨?_,?_,trivial⟩
 refine RO.val (m' :=31) (sk g0) rfl .plain rfl (AW (cs:=(ab b0.fP)) rfl rfl (ae (C0.memA .hd) 16 16))<|Bz 5 63 g0 rfl rfl .plain (Ay (news:=(ab b0.fM)) C0 .t4 rfl rfl rfl rfl rfl rfl (ai rfl)) fun X1 F0 P0=>?_
 obtain ⟨B1,M1⟩:=AI F0 (.a3 (.a3 .done))
 exact X0 () B1 (Tt P0 M1)
 refine RO.now (m' :=55) (sk g0) rfl rfl .plain (Ay (news:=(ab b0.fM)) C0 .t4 rfl rfl rfl rfl rfl rfl (ai rfl)) fun X1 F0 P0=>Rx 3 192 g0 rfl t0 (AW (cs:=(ab b0.fP)) rfl rfl (ae (F0.memA .hd) 16 16)) ?_
 obtain ⟨C1,P1⟩:=AI F0 (.a3 (.a3 .done))
 exact X0 () C1 (Tt P0 P1)
def dD_p (n:Nat) (a0:Td) (a1:Int) (a2:Int):Option (Except Te Ta):=
  (bw_p n a0 a1 a2).bind fun q0=>exc q0 (fun b0=>(al_p n b0.fI.fw (1:Int)).bind fun s0=>exc s0 (fun t0=>(aP_p n t0 b0.fI.fc).bind fun u0=>exc u0 (fun v0=>(aP_p n b0.fI.fy b0.fI.fy).bind fun x0=>exc x0 (fun y0=>(cD_p n v0 y0).bind fun z0=>exc z0 (fun c0=>(al_p n (0:Int) (1:Int)).bind fun A0=>exc A0 (fun B0=>(if c0 = B0 then some (.error (⟨(7:Int)⟩:Te)) else (aP_p n b0.fn b0.fn).bind fun C0=>exc C0 (fun D0=>(aP_p n b0.fd c0).bind fun E0=>exc E0 (fun j0=>(co_p n D0 j0).bind fun k0=>exc k0 (fun p0=>some (.ok p0)) (fun _e103=>none)) (fun _e99=>none)) (fun g0=>some (.error g0)))) (fun _e70=>none)) (fun _e56=>none)) (fun _e52=>none)) (fun _e38=>none)) (fun _e34=>none)) (fun d0=>some (.error d0))
theorem dD_c (n:Nat) {L w} (hL:hl L w) (a0:Td) {v0_3:Value} (h0_3:Rep.R w L [v0_3] a0.fu) {p0:Nat} (m0:∀ j9 v9,([vI a0.fj,vI a0.fh,vI a0.fl,v0_3]:List Value)[j9]? = some v9 -> w.cell? ((⟨p0,0,none⟩:Addr).add j9) = some v9) {a1:Int} {p1:Nat} (m1:∀ j9 v9,([vI a1]:List Value)[j9]? = some v9 -> w.cell? ((⟨p1,0,none⟩:Addr).add j9) = some v9) {a2:Int} {p2:Nat} (m2:∀ j9 v9,([vI a2]:List Value)[j9]? = some v9 -> w.cell? ((⟨p2,0,none⟩:Addr).add j9) = some v9)  {r:Except Te Ta} (h:dD_p n a0 a1 a2 = some r) :
 Cl 78 #[.pointer (some ⟨p0,0,none⟩),.pointer (some ⟨p1,0,none⟩),.pointer (some ⟨p2,0,none⟩)] w (aK w (fun (y:Ta) _ u=>u = .agg ((ab y)).toArray) (fun e=>.iface 145 (.agg #[vI e.fE])) r):=by
 unfold dD_p at h
 refine BO func78 rfl rfl rfl fun _ cs0 hb0 hp0=>Ac<|RG.nl zL (Az w) fun q2 x1 g0 R1=>Aa<|Ac<|Ab (AF rfl (fun j9 v9 h9=>g0.ag.cell0 (m0 j9 v9 h9)))<|AR rfl ((fun j9 v9 h9=>g0.ag.cell0 (m1 j9 v9 h9)) 0 _ rfl)<|AR rfl ((fun j9 v9 h9=>g0.ag.cell0 (m2 j9 v9 h9)) 0 _ rfl)<|xk h (fun F1 C0 h=>?_) (fun b0 C0 h=>?_)
 refine BC (fst:=[]) (cap:=[]) .plain (bd 71) rfl (e3 rfl rfl rfl) (fun p q=>bw_c n (g0.hL0 hL q) a0 (g0.k0 h0_3 q) C0) fun s2 k1=>?_
 obtain ⟨Z0,U1⟩:=g0.agr k1
 cases h
 exact AZ hp0 func78 ⟨Z0.ag,rfl⟩
 refine Bi (.agg ((([vI b0.fI.fw,vI b0.fI.fx]:List Value) ++ ab b0.fI.fy ++ ab b0.fI.fa ++ ab b0.fI.fb ++ ab b0.fI.fc ++ ab b0.fd ++ ab b0.fn)).toArray) (bd 71) rfl (e3 rfl rfl rfl) (fun p q=>AV (bw_c n (g0.hL0 hL q) a0 (g0.k0 h0_3 q) C0)) rfl<|RG.nl [vI 0,vI 0,vW 0,vW 0,vW 0,vW 0,vW 0,vW 0,vW 0,vW 0,vW 0,vW 0,vW 0,vW 0,vW 0,vW 0,vW 0,vW 0,vW 0,vW 0,vW 0,vW 0,vW 0,vW 0,vW 0,vW 0,vW 0,vW 0,vW 0,vW 0,vW 0,vW 0,vW 0,vW 0,vW 0,vW 0,vW 0,vW 0,vW 0,vW 0,vW 0,vW 0,vW 0,vW 0,vW 0,vW 0,vW 0,vW 0,vW 0,vW 0,vW 0,vW 0,vW 0,vW 0,vW 0,vW 0,vW 0,vW 0,vW 0,vW 0,vW 0,vW 0,vW 0,vW 0,vW 0,vW 0,vW 0,vW 0,vW 0,vW 0,vW 0,vW 0,vW 0,vW 0,vW 0,vW 0,vW 0,vW 0,vW 0,vW 0,vW 0,vW 0,vW 0,vW 0,vW 0,vW 0,vW 0,vW 0,vW 0,vW 0,vW 0,vW 0,vW 0,vW 0,vW 0,vW 0,vW 0,vW 0] g0 fun u2 y1 b1 V1=>AQ (([vI b0.fI.fw,vI b0.fI.fx]:List Value) ++ ab b0.fI.fy ++ ab b0.fI.fa ++ ab b0.fI.fb ++ ab b0.fI.fc ++ ab b0.fd ++ ab b0.fn) b1 .hd (ai rfl) fun v2 A0 W1=>Aa<|Ai<|du 9 fun d0 s0=>Rv 0 d0 rfl s0 (fun _=>AU 0 rfl)<|Rv 1 d0 rfl s0 (fun _=>AU 0 rfl)<|Rx 2 648 d0 rfl s0 (AL rfl ((aX (A0.memA .hd) 0) 0 _ rfl))<|xk h (fun G1 K0 h=>?_) (fun W0 K0 h=>?_)
 cases h
 refine BG 3 15 640 (.agg ((ab W0)).toArray) d0 rfl s0 (bd 51) rfl (e2 rfl rfl) (fun p q=>AV (al_c n (A0.hL0 hL q)  K0)) rfl<|Rv 4 d0 rfl s0 (fun _=>AU 0 rfl)<|Rv 5 d0 rfl s0 (fun _=>AU 50 rfl)<|Rx 6 640 d0 rfl s0 (AW (cs:=(ab b0.fI.fc)) rfl rfl (ae (aX (A0.memA .hd) 0) 50 16))<|xk h (fun H1 M0 h=>?_) (fun G0 M0 h=>?_)
 cases h
 refine BG 7 255 512 (.agg ((ab G0)).toArray) d0 rfl s0 (bd 72) rfl (e2 rfl rfl) (fun p q=>AV (aP_c n (A0.hL0 hL q) W0 b0.fI.fc M0)) rfl<|BV 8 511 d0 rfl .plain rfl (Ax zL A0) fun x2 z1 c1 X1=>Bz 9 1023 d0 rfl rfl .plain (Ay (news:=(ab G0)) c1 .hd rfl rfl rfl rfl rfl rfl (ai rfl)) fun y2 u0 Y1=>AM (dk d0)<|Ai<|du 10 fun c0 q0=>Rx 0 1280 c0 rfl q0 (AF rfl (u0.memA .hd))<|Rv 1 c0 rfl q0 (fun _=>AU 0 rfl)<|Rv 2 c0 rfl q0 (fun _=>AU 2 rfl)<|Rx 3 1408 c0 rfl q0 (AW (cs:=(ab b0.fI.fy)) rfl rfl (ae (aX (u0.memA .t1) 0) 2 16))<|Rv 4 c0 rfl q0 (fun _=>AU 0 rfl)<|Rv 5 c0 rfl q0 (fun _=>AU 2 rfl)<|Rx 6 1408 c0 rfl q0 (AW (cs:=(ab b0.fI.fy)) rfl rfl (ae (aX (u0.memA .t1) 0) 2 16))<|xk h (fun I1 P0 h=>?_) (fun X0 P0 h=>?_)
 cases h
 refine BG 7 255 1280 (.agg ((ab X0)).toArray) c0 rfl q0 (bd 72) rfl (e2 rfl rfl) (fun p q=>AV (aP_c n (u0.hL0 hL q) b0.fI.fy b0.fI.fy P0)) rfl<|xk h (fun J1 Q0 h=>?_) (fun z0 Q0 h=>?_)
 cases h
 refine BG 8 511 1024 (.agg ((ab z0)).toArray) c0 rfl q0 (bd 50) rfl (e2 rfl rfl) (fun p q=>AV (cD_c n (u0.hL0 hL q) G0 X0 Q0)) rfl<|BV 9 1023 c0 rfl .plain rfl (Ax zL u0) fun z2 A1 d1 Z1=>Bz 10 2047 c0 rfl rfl .plain (Ay (news:=(ab z0)) d1 .hd rfl rfl rfl rfl rfl rfl (ai rfl)) fun A2 j0 b2=>AM (dk c0)<|Ai<|du 3 fun y0 E0=>xk h (fun K1 R0 h=>?_) (fun B0 R0 h=>?_)
 cases h
 refine Rx 0 12 y0 rfl E0 (AF rfl (j0.memA .hd))<|BG 1 3 12 (.agg ((ab B0)).toArray) y0 rfl E0 (bd 51) rfl (e2 rfl rfl) (fun p q=>AV (al_c n (j0.hL0 hL q)  R0)) rfl<|Rv 2 y0 rfl E0 (fun _=>FV.eqlV (v:=.agg ((ab z0)).toArray) (u:=.agg ((ab B0)).toArray) rfl rfl (cG z0 B0))<|BT (i:=3) (rk y0) (RO.enterPT (m' :=15) (fst:=[]) (cap:=[]) (vs:=[.bool (decide (z0 = B0)),vI 7]) (sk y0) rfl rfl .plain (bd 47) func47 rfl rfl rfl rfl (e2 rfl rfl) rfl (fun _ C1 s1 u1=>?_))
 refine Ac<|Ae rfl<|Aa<|AT rfl h (fun Y0 h=>?_) (fun Y0 h=>?_)
 refine Ao<|Ae rfl<|By (fst:=[]) (cap:=[]) (vs:=[vI 7]) .plain (bd 61) func61 rfl rfl rfl rfl (e1 rfl) rfl fun D1 j2 v1=>Ac<|Ae rfl<|Ab (FV.neqN (i:=7) (j:=0) rfl rfl)<|Aa<|Bb rfl<|Ao<|Ae rfl<|Ab (AO (vs:=[vI 7]) (u:=.agg #[vI 7]) (e1 rfl) (fun p=>by kernel_rfl))<|Ab (BF rfl rfl)<|RG.panic .plain rfl<|AZ v1 func61<|AZ u1 func47 ?_
 cases h
 exact AZ hp0 func78 ⟨j0.ag,rfl⟩
 refine Ar<|MX.fin rfl<|Ap (u:=.tuple #[]) s1 func47 rfl .nil rfl<|AM (dk y0)<|Ac<|AX 82 rfl<|Ab (AW (cs:=(ab b0.fn)) rfl rfl (ae (j0.memA .t2) 82 16))<|AX 82 rfl<|Ab (AW (cs:=(ab b0.fn)) rfl rfl (ae (j0.memA .t2) 82 16))<|xk h (fun M1 D0 h=>?_) (fun H0 D0 h=>?_)
 refine BC (fst:=[]) (cap:=[]) .plain (bd 72) rfl (e2 rfl rfl) (fun p q=>aP_c n (j0.hL0 hL q) b0.fn b0.fn D0) fun B2 q1=>?_
 obtain ⟨g1,c2⟩:=j0.agr q1
 cases h
 exact AZ hp0 func78 ⟨g1.ag,rfl⟩
 refine Bi (.agg ((ab H0)).toArray) (bd 72) rfl (e2 rfl rfl) (fun p q=>AV (aP_c n (j0.hL0 hL q) b0.fn b0.fn D0)) rfl<|RG.nl zL j0 fun C2 B1 j1 d2=>AQ (ab H0) j1 .hd (ai rfl) fun D2 v0 g2=>Aa<|Ai<|du 6 fun t0 x0=>Rx 0 96 t0 rfl x0 (AF rfl (v0.memA .hd))<|Rv 1 t0 rfl x0 (fun _=>AU 66 rfl)<|Rx 2 112 t0 rfl x0 (AW (cs:=(ab b0.fd)) rfl rfl (ae (v0.memA .t3) 66 16))<|Rx 3 112 t0 rfl x0 (AF rfl (v0.memA .t1))<|xk h (fun P1 U0 h=>?_) (fun V0 U0 h=>?_)
 cases h
 refine BG 4 31 96 (.agg ((ab V0)).toArray) t0 rfl x0 (bd 72) rfl (e2 rfl rfl) (fun p q=>AV (aP_c n (v0.hL0 hL q) b0.fd z0 U0)) rfl<|xk h (fun E1 J0 h=>?_) (fun F0 J0 h=>?_)
 cases h
 refine BG 5 63 64 (.agg ((ab F0)).toArray) t0 rfl x0 (bd 52) rfl (e2 rfl rfl) (fun p q=>AV (co_c n (v0.hL0 hL q) H0 V0 J0)) rfl<|Bz 6 127 t0 rfl rfl .plain (Ay (news:=(ab F0)) v0 .t4 rfl rfl rfl rfl rfl rfl (ai rfl)) fun k2 I0 Q1=>AM (dk t0)<|Al rfl<|Ap hb0 func78 rfl (.cons (.many (cs:=(ab F0)) rfl rfl (I0.memA .t4)) .nil) rfl ?_
 cases h
 exact ⟨I0.ag,fun p q=>aC rfl⟩

def dM_p (n:Nat) (a0:Td) (a1:Int) (a2:Int):Option (Ta × Int):=
  (dD_p n a0 a1 a2).bind fun c0=>exc c0 (fun d0=>some (d0,(0:Int))) (fun b0=>some ((⟨(0,0,0,0,0,0,0,0),(0,0,0,0,0,0,0,0)⟩:Ta),b0.fE))
theorem dM_c (n:Nat) {L w} (hL:hl L w) (a0:Td) {v0_3:Value} (h0_3:Rep.R w L [v0_3] a0.fu) {a1:Int} {a2:Int}  {r:Ta × Int} (h:dM_p n a0 a1 a2 = some r) :
 Cl 23 #[.agg #[vI a0.fj,vI a0.fh,vI a0.fl,v0_3],vI a1,vI a2] w (ah w fun _ u=>u = .tuple #[.agg ((ab r.1)).toArray,vI r.2]):=by
 unfold dM_p at h
 refine AG func23 rfl rfl rfl fun _ cs0 hb0=>Ac<|RG.bx (Az w) rfl rfl fun R1 j0 I0 D1=>RG.bx I0 rfl rfl fun Z1 p0 Q0 E1=>RG.bx Q0 rfl rfl fun b2 q0 R0 F1=>RG.nl zL R0 fun c2 H0 U0 G1=>Af rfl<|Aa<|Ac<|Ab (BP (vs:=[]) (us:=[vP j0,vP p0,vP q0]) aj (e3 rfl rfl rfl))<|By (fst:=[]) (cap:=[]) (vs:=[.func (.func 78) #[] #[vP j0,vP p0,vP q0]]) .plain (bd 45) func45 rfl rfl rfl rfl (e1 rfl) rfl fun v1 F0 Q1=>Ac<|RG.nl zL U0 fun g2 s0 V0 H1=>RG.nl [vI 0] V0 fun j2 d0 b0 I1=>Aa<|Ac<|Ab (BP (vs:=[]) (us:=[vP s0,vP d0]) aj (e2 rfl rfl))<|RG.defer (fst:=[]) (cap:=[vP s0,vP d0]) (vs:=[]) rfl .plain rfl aj<|Aa<|Ac<|Ae rfl<|xk h (fun u0 A0 h=>?_) (fun g0 A0 h=>?_)
 refine BC (fst:=[]) (cap:=[vP j0,vP p0,vP q0]) .plain (bd 78) rfl aj (fun p q=>dD_c n (b0.hL0 hL q) a0 (b0.k0 h0_3 q) (ao q (b0.memA .t5)) (ao q (b0.memA .t4)) (ao q (b0.memA .t3)) A0) fun k2 c1=>?_
 obtain ⟨W0,J1⟩:=b0.agr c1
 refine PN.callD (vs:=[]) (cap:=[vP s0,vP d0]) (bd 91) func91 rfl rfl rfl fun u1 d1 j1=>Ac<|RG.recover1 .plain d1 rfl<|Af rfl<|Aa<|Ac<|Ae rfl<|Ab (FV.neqI underlying20 rfl rfl)<|Aa<|Bb rfl<|Ac<|Ae rfl<|Ab (FV.assertT rfl rfl)<|Ae rfl<|Ab (Ah rfl rfl)<|Ab (Ah rfl rfl)<|RG.nl [vI 0] W0 fun p2 p1 X0 K1=>AQ [vI u0.fE] X0 .hd (o1 rfl) fun q2 Y0 M1=>Af rfl<|Aa<|Ai<|Ac<|Ae rfl<|Ab (Bp rfl)<|Aa<|BI rfl<|Ar<|Ac<|RG.nl zL Y0 fun s2 q1 t0 P1=>Aa<|du 3 fun c0 B0=>Rx 0 24 c0 rfl B0 (AF rfl (t0.memA .hd))<|Rv 1 c0 rfl B0 (fun _=>AU 0 rfl)<|RD.mo (α:=Unit) (fun ()=>[(1,vP d0),(19,vI u0.fE)]) (fun ()=>[.cells d0 [vI 0] 54,.cells s0 zL 38,.cells H0 zL 38,.cells q0 [vI a2] 3,.cells p0 [vI a1] 3,.cells j0 [vI a0.fj,vI a0.fh,vI a0.fl,v0_3] 46]) t0 1 15 ?_ ?_
 rintro ⟨⟩ u2 J0 x1
 try dsimp only
 refine Bz 4 31 c0 rfl rfl .plain (Ay (news:=[vI u0.fE]) J0 .hd rfl rfl rfl rfl rfl rfl (o1 rfl)) fun U1 x0 y1=>AM (dk c0)<|MX.fin rfl<|RT.leaveD1 j1 func91 rfl .nil<|Ap (u:=.tuple #[.agg zM,vI u0.fE]) F0 func45 rfl (.cons (.many (cs:=zL) rfl rfl (x0.memA .t1)) (.cons (.one rfl rfl ((x0.memA .hd) 0 _ rfl)) .nil)) rfl<|Ab (Ah rfl rfl)<|Ab (Ah rfl rfl)<|AQ zL x0 .t2 (ai rfl) fun V1 D0 z1=>Af rfl<|Aa<|Al rfl<|Ap hb0 func23 rfl (.cons (.many (cs:=zL) rfl rfl (D0.memA .t2)) (.cons (.tmp rfl) .nil)) rfl ?_
 cases h
 exact D0.gv
 intro C0
 refine BB [2,3] (rk c0) ⟨?_,?_,trivial⟩
 refine RO.val (m' :=7) (sk c0) rfl .plain rfl (AL rfl ((t0.memA .t1) 0 _ rfl))<|Bz 3 15 c0 rfl rfl .plain (Ay (news:=zL) t0 .t3 rfl rfl rfl rfl rfl rfl (ai rfl)) fun k1 v0 z0=>?_
 obtain ⟨K0,Z0⟩:=AI v0 .d2
 exact C0 () K0 (Tt z0 Z0)
 refine RO.now (m' :=11) (sk c0) rfl rfl .plain (Ay (news:=zL) t0 .t3 rfl rfl rfl rfl rfl rfl (ai rfl)) fun k1 v0 z0=>Rx 2 16 c0 rfl B0 (AL rfl ((v0.memA .t1) 0 _ rfl)) ?_
 obtain ⟨M0,b1⟩:=AI v0 .d2
 exact C0 () M0 (Tt z0 b1)
 refine RG.callq' (v:=.agg ((ab g0)).toArray) (fst:=[]) (cap:=[vP j0,vP p0,vP q0]) .plain (bd 78) rfl aj (fun p q=>AV (dD_c n (b0.hL0 hL q) a0 (b0.k0 h0_3 q) (ao q (b0.memA .t5)) (ao q (b0.memA .t4)) (ao q (b0.memA .t3)) A0)) rfl<|AQ (ab g0) b0 .t1 (ai rfl) fun W1 P0 A1=>AQ [vI 0] P0 .hd (o1 rfl) fun X1 y0 B1=>Aa<|Al rfl<|RT.callD (vs:=[]) (cap:=[vP s0,vP d0]) (bd 91) func91 rfl rfl rfl fun s1 G0 g1=>Ac<|RG.recover0 .plain G0 rfl<|Af rfl<|Aa<|Ac<|Ae rfl<|Ab (FV.neqI0 underlying20 rfl rfl)<|Aa<|BI rfl<|Ar<|MX.fin rfl<|RT.leaveD0 G0 g1 func91 rfl .nil<|Ap (u:=.tuple #[.agg ((ab g0)).toArray,vI 0]) F0 func45 rfl (.cons (.many (cs:=(ab g0)) rfl rfl (y0.memA .t1)) (.cons (.one rfl rfl ((y0.memA .hd) 0 _ rfl)) .nil)) rfl<|Ab (Ah rfl rfl)<|Ab (Ah rfl rfl)<|AQ (ab g0) y0 .t2 (ai rfl) fun Y1 E0 C1=>Af rfl<|Aa<|Al rfl<|Ap hb0 func23 rfl (.cons (.many (cs:=(ab g0)) rfl rfl (E0.memA .t2)) (.cons (.tmp rfl) .nil)) rfl ?_
 cases h
 exact E0.gv
def bm_p (n:Nat) (a0:Int) (a1:Int):Option Ta:=
  (dG_p n a0 a1).bind fun b0=>some b0.1
theorem bm_c (n:Nat) {L w} (hL:hl L w) {a0:Int} {a1:Int}  {r:Ta} (h:bm_p n a0 a1 = some r) :
 Cl 28 #[vI a0,vI a1] w (ah w fun _ u=>u = .agg ((ab r)).toArray):=by
 unfold bm_p at h
 refine AG func28 rfl rfl rfl fun _ cs0 hb0=>Ac<|RG.nl zL (Az w) fun x0 p0 c0 s0=>Aa<|Ac<|Ae rfl<|Ae rfl<|bk h fun b0 k0 h=>Bi (.tuple #[.agg ((ab b0.1)).toArray,vI b0.2]) (bd 83) rfl (e2 rfl rfl) (fun p q=>dG_c n (c0.hL0 hL q)  k0) rfl<|Ae rfl<|Ab (Ah rfl rfl)<|Ab (Ah rfl rfl)<|RG.nl zL c0 fun y0 q0 j0 t0=>AQ (ab b0.1) j0 .hd (ai rfl) fun z0 d0 u0=>Af rfl<|Aa<|Ac<|Ab (AF rfl (d0.memA .hd))<|AQ (ab b0.1) d0 .t1 (ai rfl) fun A0 g0 v0=>Aa<|Al rfl<|Ap hb0 func28 rfl (.cons (.many (cs:=(ab b0.1)) rfl rfl (g0.memA .t1)) .nil) rfl ?_
 cases h
 exact g0.gv
theorem eY:ElT Tryz.prog 44 69 (Rep.size Tb) 104 (.agg #[.string ⟨#[]⟩,vI 0,vN,vN,vN,.bool false]) [.string ⟨#[]⟩,vI 0,vN,vN,vN,.bool false]:=⟨underlying44,by kernel_rfl,rfl,rfl,rfl,rfl⟩
def cW_p (_n:Nat):Option Td:=
  (kC ⟨#[117]⟩ ⟨#[97]⟩).bind fun c0=>(app ([]:List Tb) ([(⟨c0,(10:Int),([(1:Int)]:List Int),([(2:Int),(8:Int)]:List Int),([]:List Int),false⟩:Tb)]:List Tb)).bind fun k0=>(kC ⟨#[117]⟩ ⟨#[98]⟩).bind fun d0=>(app k0 ([(⟨d0,(10:Int),([(4:Int)]:List Int),([(3:Int),(2:Int)]:List Int),([]:List Int),false⟩:Tb)]:List Tb)).bind fun g0=>(kC ⟨#[117]⟩ ⟨#[99]⟩).bind fun b0=>(app g0 ([(⟨b0,(20:Int),([(2:Int)]:List Int),([(1:Int),(9:Int)]:List Int),([]:List Int),false⟩:Tb)]:List Tb)).bind fun j0=>some (⟨(1:Int),(2:Int),(0:Int),j0⟩:Td)
theorem cW_c (n:Nat) {L w} (hL:hl L w)  {r:Td} (h:cW_p n = some r) :
 Cl 30 #[] w (ah w fun w' u=>∃ (v0_3:Value) (cs0_3:List Value),u = .agg #[vI r.fj,vI r.fh,vI r.fl,v0_3]/\St w w' (aS w.heap.size [(69,Rep.size Tb,v0_3,r.fu.length,cs0_3)])/\Cells w' (bl (aS w.heap.size [(69,Rep.size Tb,v0_3,r.fu.length,cs0_3)]) ++ L) cs0_3 (r.fu:List Tb)):=by
 unfold cW_p at h
 refine AG func30 rfl rfl rfl fun _ cs0 hb0=>Ac<|RG.nl [vI 0,vI 0,vI 0,vN] (Az w) fun q3 E2 C1 Q2=>Aa<|Ac<|Ab (AO (vs:=[vI 1,vI 2]) (u:=.agg #[vI 1,vI 2,vI 0,vN]) (e2 rfl rfl) (fun p=>by kernel_rfl))<|RG.nl [vI 0,vI 0,vI 0,vN] C1 fun B3 H2 G1 U2=>AQ [vI 1,vI 2,vI 0,vN] G1 .hd (ai rfl) fun G3 I1 W2=>Aa<|Ai<|Ac<|Ab (AO (vs:=[vI 10,vI 1,vI 2,vI 8]) (u:=.agg #[vI 10,vI 1,vI 2,vI 8]) (e4 rfl rfl rfl rfl) (fun p=>by kernel_rfl))<|Ab (AO (vs:=[vI 10,vI 4,vI 3,vI 2]) (u:=.agg #[vI 10,vI 4,vI 3,vI 2]) (e4 rfl rfl rfl rfl) (fun p=>by kernel_rfl))<|Ab (AO (vs:=[vI 20,vI 2,vI 1,vI 9]) (u:=.agg #[vI 20,vI 2,vI 1,vI 9]) (e4 rfl rfl rfl rfl) (fun p=>by kernel_rfl))<|Ab (AO (vs:=[.agg #[vI 10,vI 1,vI 2,vI 8],.agg #[vI 10,vI 4,vI 3,vI 2],.agg #[vI 20,vI 2,vI 1,vI 9]]) (u:=.agg #[vI 10,vI 1,vI 2,vI 8,vI 10,vI 4,vI 3,vI 2,vI 20,vI 2,vI 1,vI 9]) (e3 rfl rfl rfl) (fun p=>by kernel_rfl))<|Ae rfl<|Aa<|AA<|MX.loop1<|Ac<|Ab (Bq (i:=0) (j:=3) rfl rfl)<|Aa<|Ai<|Bb rfl<|Ar<|Ai<|AA<|Ac<|Ae rfl<|Ab (FV.idxN (cs:=[vI 10,vI 1,vI 2,vI 8,vI 10,vI 4,vI 3,vI 2,vI 20,vI 2,vI 1,vI 9]) (k:=0) (m:=4) (len:=3) rfl rfl rfl rfl rfl (by omega) rfl)<|RG.nl [vI 0,vI 0,vI 0,vI 0] I1 fun H3 I2 J1 X2=>Af rfl<|AQ [vI 10,vI 1,vI 2,vI 8] J1 .hd (ai rfl) fun I3 D0 Y2=>Aa<|Ao<|AX 3 rfl<|AR rfl ((D0.memA .t1) 3 _ rfl)<|Ae rfl<|Ab (FV.add (i:=97) (j:=0) (r:=97) rfl rfl (by decide)) ?_
 refine Ab (FV.conv (i:=97) underlying3 underlying21 rfl (by decide))<|Ab (FV.convIS (i:=97) (r:=⟨#[97]⟩) underlying21 underlying9 rfl rfl)<|bk h fun c0 y2 h=>Ab (FV.addS y2 rfl rfl)<|Ab (Bc (m:=1) (k:=0) (len:=4) rfl rfl rfl rfl (by omega))<|AR rfl ((D0.memA .hd) 0 _ rfl)<|Ab (Bc (m:=1) (k:=1) (len:=4) rfl rfl rfl rfl (by omega))<|AR rfl ((D0.memA .hd) 1 _ rfl)<|Aj .plain rfl (jA ((1:Int)) (vI 1) D0 aw (e1 rfl)) fun J3 p0 E0 Z2=>Ab (Bc (m:=1) (k:=2) (len:=4) rfl rfl rfl rfl (by omega))<|AR rfl ((E0.memA .t1) 2 _ rfl)<|Ab (Bc (m:=1) (k:=3) (len:=4) rfl rfl rfl rfl (by omega))<|AR rfl ((E0.memA .t1) 3 _ rfl)<|Aj .plain rfl (AN (α:=Int) (xs:=([(2:Int),(8:Int)]:List Int)) (vs:=[vI 2,vI 8]) (ds' :=[vI 2,vI 8]) rfl E0 aw rfl (e2 rfl rfl) (by kernel_rfl) rfl) fun K3 q0 F0 c2=>Ab (AO (vs:=[.string c0,vI 10,(vS p0 1),(vS q0 2)]) (u:=.agg #[.string c0,vI 10,(vS p0 1),(vS q0 2),vN,.bool false]) (e4 rfl rfl rfl rfl) (fun p=>by kernel_rfl)) ?_
 have G0:=Br F0 .t1
 have A1:=Bu (α:=Int) (v:=(vS p0 1)) (xs:=([(1:Int)]:List Int)) G0 L (Bf (α:=Int) F0 .t1 (AD (jC ((1:Int)) (vI 1) E0 L rfl) c2) hL)
 have U0:=Br G0 .hd
 have v1:=Bs G0 .hd
 have p3:=BS (α:=Int) U0 L
 have g3:=Am A1 v1
 refine Aj .plain rfl (AN (α:=Tb) (xs:=([(⟨c0,(10:Int),([(1:Int)]:List Int),([(2:Int),(8:Int)]:List Int),([]:List Int),false⟩:Tb)]:List Tb)) (vs:=[.agg #[.string c0,vI 10,(vS p0 1),(vS q0 2),vN,.bool false]]) (ds' :=[.string c0,vI 10,(vS p0 1),(vS q0 2),vN,.bool false]) rfl U0 eY rfl (e1 rfl) (by kernel_rfl) rfl) fun M3 J2 H0 x1=>?_
 have V0:=H0.nilRow 69 (Rep.size Tb)
 refine bk h fun Z3 C2 h=>RG.doesL .plain rfl (Bo (α:=Tb) (ys:=([(⟨c0,(10:Int),([(1:Int)]:List Int),([(2:Int),(8:Int)]:List Int),([]:List Int),false⟩:Tb)]:List Tb)) C2 V0 (fun _ _=>.hd) eY rfl rfl (AE (cs:=[]) (xs:=([]:List Tb)) V0 L (AK _ _)) (Src.row (α:=Tb) V0 .t1 (AD (AE (cs:=[.string c0,vI 10,(vS p0 1),(vS q0 2),vN,.bool false]) (xs:=(([(⟨c0,(10:Int),([(1:Int)]:List Int),([(2:Int),(8:Int)]:List Int),([]:List Int),false⟩:Tb)]:List Tb):List Tb)) H0 L (Aw (cs:=[.string c0,vI 10,(vS p0 1),(vS q0 2),vN,.bool false]) (ds:=[]) (cx c0 (10:Int) ([(1:Int)]:List Int) (Am A1 (Tt v1 x1)) ([(2:Int),(8:Int)]:List Int) (Am (Bu (α:=Int) (v:=(vS q0 2)) (xs:=([(2:Int),(8:Int)]:List Int)) U0 L (Bf (α:=Int) G0 .hd (AD (AE (cs:=[vI 2,vI 8]) (xs:=(([(2:Int),(8:Int)]:List Int):List Int)) F0 L (Aw (cs:=[vI 2]) (ds:=[vI 8]) rfl (Aw (cs:=[vI 8]) (ds:=[]) rfl (AK _ _)))) (Bs F0 .t1)) hL)) x1) ([]:List Int) (BS (α:=Int) H0 L) false) (AK _ _))) (St.nilRowT H0 69 (Rep.size Tb))))) fun g1 P3 ⟨P2,W0,b3,v2⟩=>AX 3 rfl<|BU .plain (BD (j:=3) (old:=[vI 1,vI 2,vI 0,vN]) (news:=[g1]) (new' :=[vI 1,vI 2,vI 0,g1]) W0 .t3 rfl rfl rfl (St.c1 (α:=Tb) W0 .hd) rfl rfl (o1 (St.o1 (α:=Tb) W0 .hd)) rfl) fun Q3 K1 g2=>Aa<|AC<|Ao<|Ab (FV.add (i:=0) (j:=1) (r:=1) rfl rfl (by decide))<|Ae rfl<|Aa<|MX.again1 ?_
 obtain ⟨M1,j2⟩:=AI K1 (.a0 .d2)
 refine Ac<|Ab (Bq (i:=1) (j:=3) rfl rfl)<|Aa<|Ai<|Bb rfl<|Ar<|Ai<|AA<|Ac<|Ae rfl<|Ab (FV.idxN (cs:=[vI 10,vI 1,vI 2,vI 8,vI 10,vI 4,vI 3,vI 2,vI 20,vI 2,vI 1,vI 9]) (k:=1) (m:=4) (len:=3) rfl rfl rfl rfl rfl (by omega) rfl)<|RG.nl [vI 0,vI 0,vI 0,vI 0] M1 fun R3 K2 P1 k2=>Af rfl<|AQ [vI 10,vI 4,vI 3,vI 2] P1 .hd (ai rfl) fun U3 I0 p2=>Aa<|Ao<|AX 3 rfl<|AR rfl ((I0.memA .t2) 3 _ rfl)<|Ae rfl<|Ab (FV.add (i:=97) (j:=1) (r:=98) rfl rfl (by decide))<|Ab (FV.conv (i:=98) underlying3 underlying21 rfl (by decide))<|Ab (FV.convIS (i:=98) (r:=⟨#[98]⟩) underlying21 underlying9 rfl rfl)<|bk h fun d0 z2 h=>Ab (FV.addS z2 rfl rfl)<|Ab (Bc (m:=1) (k:=0) (len:=4) rfl rfl rfl rfl (by omega))<|AR rfl ((I0.memA .hd) 0 _ rfl)<|Ab (Bc (m:=1) (k:=1) (len:=4) rfl rfl rfl rfl (by omega))<|AR rfl ((I0.memA .hd) 1 _ rfl)<|Aj .plain rfl (jA ((4:Int)) (vI 4) I0 aw (e1 rfl)) fun V3 s0 J0 q2=>Ab (Bc (m:=1) (k:=2) (len:=4) rfl rfl rfl rfl (by omega))<|AR rfl ((J0.memA .t1) 2 _ rfl)<|Ab (Bc (m:=1) (k:=3) (len:=4) rfl rfl rfl rfl (by omega))<|AR rfl ((J0.memA .t1) 3 _ rfl)<|Aj .plain rfl (AN (α:=Int) (xs:=([(3:Int),(2:Int)]:List Int)) (vs:=[vI 3,vI 2]) (ds' :=[vI 3,vI 2]) rfl J0 aw rfl (e2 rfl rfl) (by kernel_rfl) rfl) fun W3 g0 u0 p1=>Ab (AO (vs:=[.string d0,vI 10,(vS s0 1),(vS g0 2)]) (u:=.agg #[.string d0,vI 10,(vS s0 1),(vS g0 2),vN,.bool false]) (e4 rfl rfl rfl rfl) (fun p=>by kernel_rfl)) ?_
 have v0:=Br u0 .t1
 have q1:=Bs u0 .t1
 have y1:=Bu (α:=Int) (v:=(vS s0 1)) (xs:=([(4:Int)]:List Int)) v0 L (Bf (α:=Int) u0 .t1 (AD (jC ((4:Int)) (vI 4) J0 L rfl) p1) hL)
 have K0:=Br v0 .hd
 have X0:=Bs v0 .hd
 have j3:=BS (α:=Int) K0 L
 have c3:=Am y1 X0
 refine Aj .plain rfl (AN (α:=Tb) (xs:=([(⟨d0,(10:Int),([(4:Int)]:List Int),([(3:Int),(2:Int)]:List Int),([]:List Int),false⟩:Tb)]:List Tb)) (vs:=[.agg #[.string d0,vI 10,(vS s0 1),(vS g0 2),vN,.bool false]]) (ds' :=[.string d0,vI 10,(vS s0 1),(vS g0 2),vN,.bool false]) rfl K0 eY rfl (e1 rfl) (by kernel_rfl) rfl) fun s3 D2 x0 Y0=>bk h fun X3 A2 h=>RG.doesL .plain rfl (Bo (α:=Tb) (ys:=([(⟨d0,(10:Int),([(4:Int)]:List Int),([(3:Int),(2:Int)]:List Int),([]:List Int),false⟩:Tb)]:List Tb)) A2 x0 (fun _ _=>.t2) eY rfl rfl (AD v2 (Tt g2 (Tt j2 (Tt k2 (Tt p2 (Tt q2 (Tt p1 (Tt q1 (Tt X0 Y0))))))))) (Src.row (α:=Tb) x0 .hd (AE (cs:=[.string d0,vI 10,(vS s0 1),(vS g0 2),vN,.bool false]) (xs:=(([(⟨d0,(10:Int),([(4:Int)]:List Int),([(3:Int),(2:Int)]:List Int),([]:List Int),false⟩:Tb)]:List Tb):List Tb)) x0 L (Aw (cs:=[.string d0,vI 10,(vS s0 1),(vS g0 2),vN,.bool false]) (ds:=[]) (cx d0 (10:Int) ([(4:Int)]:List Int) (Am y1 (Tt X0 Y0)) ([(3:Int),(2:Int)]:List Int) (Am (Bu (α:=Int) (v:=(vS g0 2)) (xs:=([(3:Int),(2:Int)]:List Int)) K0 L (Bf (α:=Int) v0 .hd (AD (AE (cs:=[vI 3,vI 2]) (xs:=(([(3:Int),(2:Int)]:List Int):List Int)) u0 L (Aw (cs:=[vI 3]) (ds:=[vI 2]) rfl (Aw (cs:=[vI 2]) (ds:=[]) rfl (AK _ _)))) q1) hL)) Y0) ([]:List Int) (BS (α:=Int) x0 L) false) (AK _ _))))) fun d1 u3 ⟨M2,M0,R2,s2⟩=>AX 3 rfl<|BU .plain (BD (j:=3) (old:=[vI 1,vI 2,vI 0,g1]) (news:=[d1]) (new' :=[vI 1,vI 2,vI 0,d1]) M0 .t3 rfl rfl rfl (St.c1 (α:=Tb) M0 .t2) rfl rfl (o1 (St.o1 (α:=Tb) M0 .t2)) rfl) fun v3 D1 Q1=>Aa<|AC<|Ao<|Ab (FV.add (i:=1) (j:=1) (r:=2) rfl rfl (by decide))<|Ae rfl<|Aa<|MX.again1 ?_
 obtain ⟨E1,R1⟩:=AI D1 .d2
 refine Ac<|Ab (Bq (i:=2) (j:=3) rfl rfl)<|Aa<|Ai<|Bb rfl<|Ar<|Ai<|AA<|Ac<|Ae rfl<|Ab (FV.idxN (cs:=[vI 10,vI 1,vI 2,vI 8,vI 10,vI 4,vI 3,vI 2,vI 20,vI 2,vI 1,vI 9]) (k:=2) (m:=4) (len:=3) rfl rfl rfl rfl rfl (by omega) rfl)<|RG.nl [vI 0,vI 0,vI 0,vI 0] E1 fun x3 F2 F1 U1=>Af rfl<|AQ [vI 20,vI 2,vI 1,vI 9] F1 .hd (ai rfl) fun y3 y0 V1=>Aa<|Ao<|AX 3 rfl<|AR rfl ((y0.memA .t2) 3 _ rfl)<|Ae rfl<|Ab (FV.add (i:=97) (j:=2) (r:=99) rfl rfl (by decide))<|Ab (FV.conv (i:=99) underlying3 underlying21 rfl (by decide))<|Ab (FV.convIS (i:=99) (r:=⟨#[99]⟩) underlying21 underlying9 rfl rfl)<|bk h fun b0 x2 h=>Ab (FV.addS x2 rfl rfl)<|Ab (Bc (m:=1) (k:=0) (len:=4) rfl rfl rfl rfl (by omega))<|AR rfl ((y0.memA .hd) 0 _ rfl)<|Ab (Bc (m:=1) (k:=1) (len:=4) rfl rfl rfl rfl (by omega))<|AR rfl ((y0.memA .hd) 1 _ rfl)<|Aj .plain rfl (jA ((2:Int)) (vI 2) y0 aw (e1 rfl)) fun z3 j0 z0 W1=>Ab (Bc (m:=1) (k:=2) (len:=4) rfl rfl rfl rfl (by omega))<|AR rfl ((z0.memA .t1) 2 _ rfl)<|Ab (Bc (m:=1) (k:=3) (len:=4) rfl rfl rfl rfl (by omega))<|AR rfl ((z0.memA .t1) 3 _ rfl)<|Aj .plain rfl (AN (α:=Int) (xs:=([(1:Int),(9:Int)]:List Int)) (vs:=[vI 1,vI 9]) (ds' :=[vI 1,vI 9]) rfl z0 aw rfl (e2 rfl rfl) (by kernel_rfl) rfl) fun A3 k0 A0 s1=>Ab (AO (vs:=[.string b0,vI 20,(vS j0 1),(vS k0 2)]) (u:=.agg #[.string b0,vI 20,(vS j0 1),(vS k0 2),vN,.bool false]) (e4 rfl rfl rfl rfl) (fun p=>by kernel_rfl)) ?_
 have B0:=Br A0 .t1
 have u1:=Bs A0 .t1
 have z1:=Bu (α:=Int) (v:=(vS j0 1)) (xs:=([(2:Int)]:List Int)) B0 L (Bf (α:=Int) A0 .t1 (AD (jC ((2:Int)) (vI 2) z0 L rfl) s1) hL)
 have P0:=Br B0 .hd
 have Z0:=Bs B0 .hd
 have k3:=BS (α:=Int) P0 L
 have d3:=Am z1 Z0
 refine Aj .plain rfl (AN (α:=Tb) (xs:=([(⟨b0,(20:Int),([(2:Int)]:List Int),([(1:Int),(9:Int)]:List Int),([]:List Int),false⟩:Tb)]:List Tb)) (vs:=[.agg #[.string b0,vI 20,(vS j0 1),(vS k0 2),vN,.bool false]]) (ds' :=[.string b0,vI 20,(vS j0 1),(vS k0 2),vN,.bool false]) rfl P0 eY rfl (e1 rfl) (by kernel_rfl) rfl) fun C3 G2 C0 b1=>bk h fun Y3 B2 h=>RG.doesL .plain rfl (Bo (α:=Tb) (ys:=([(⟨b0,(20:Int),([(2:Int)]:List Int),([(1:Int),(9:Int)]:List Int),([]:List Int),false⟩:Tb)]:List Tb)) B2 C0 (fun _ _=>.t2) eY rfl rfl (AD s2 (Tt Q1 (Tt R1 (Tt U1 (Tt V1 (Tt W1 (Tt s1 (Tt u1 (Tt Z0 b1))))))))) (Src.row (α:=Tb) C0 .hd (AE (cs:=[.string b0,vI 20,(vS j0 1),(vS k0 2),vN,.bool false]) (xs:=(([(⟨b0,(20:Int),([(2:Int)]:List Int),([(1:Int),(9:Int)]:List Int),([]:List Int),false⟩:Tb)]:List Tb):List Tb)) C0 L (Aw (cs:=[.string b0,vI 20,(vS j0 1),(vS k0 2),vN,.bool false]) (ds:=[]) (cx b0 (20:Int) ([(2:Int)]:List Int) (Am z1 (Tt Z0 b1)) ([(1:Int),(9:Int)]:List Int) (Am (Bu (α:=Int) (v:=(vS k0 2)) (xs:=([(1:Int),(9:Int)]:List Int)) P0 L (Bf (α:=Int) B0 .hd (AD (AE (cs:=[vI 1,vI 9]) (xs:=(([(1:Int),(9:Int)]:List Int):List Int)) A0 L (Aw (cs:=[vI 1]) (ds:=[vI 9]) rfl (Aw (cs:=[vI 9]) (ds:=[]) rfl (AK _ _)))) u1) hL)) b1) ([]:List Int) (BS (α:=Int) C0 L) false) (AK _ _))))) fun t0 D3 ⟨B1,Q0,V2,u2⟩=>AX 3 rfl<|BU .plain (BD (j:=3) (old:=[vI 1,vI 2,vI 0,d1]) (news:=[t0]) (new' :=[vI 1,vI 2,vI 0,t0]) Q0 .t3 rfl rfl rfl (St.c1 (α:=Tb) Q0 .t2) rfl rfl (o1 (St.o1 (α:=Tb) Q0 .t2)) rfl) fun E3 H1 X1=>Aa<|AC<|Ao<|Ab (FV.add (i:=2) (j:=1) (r:=3) rfl rfl (by decide))<|Ae rfl<|Aa<|MX.again1 ?_
 obtain ⟨R0,Y1⟩:=AI H1 .d2
 refine Ac<|Ab (Bq (i:=3) (j:=3) rfl rfl)<|Aa<|Ai<|BI rfl<|Be rfl<|Ac<|Ab (AF rfl (R0.memA .t1))<|AQ [vI 1,vI 2,vI 0,t0] R0 .t2 (o4 rfl rfl rfl (St.o1 (α:=Tb) R0 .hd)) fun F3 j1 Z1=>Aa<|Al rfl<|Ap (u:=.agg #[vI 1,vI 2,vI 0,t0]) hb0 func30 rfl (.cons (.many (cs:=[vI 1,vI 2,vI 0,t0]) rfl rfl (j1.memA .t2)) .nil) rfl ?_
 obtain ⟨k1,b2⟩:=AI j1 (.a0 .done)
 cases h
 exact ⟨k1.ag,fun p q=>⟨t0,B1,rfl,k1.agree q,Cells.keep0 (AD u2 (Tt X1 (Tt Y1 (Tt Z1 b2)))) q⟩⟩
def aS_l1 (_n:Nat) (a0:List Int) (a1:List Int) (b0:Nat -> Option (Bool ⊕ Unit)):Nat -> Option (Bool ⊕ Unit)
  | i32=>(if i32 < a0.length then (a0[i32]?).bind fun c0=>(a1[i32]?).bind fun d0=>(if c0 = d0 then b0 (i32 + 1) else some (.inl false)) else some (.inr ()))
def aS_p (n:Nat) (a0:List Int) (a1:List Int):Option Bool:=
  (if a0.length = a1.length then thn (am (aS_l1 n a0 a1) n 0) (fun _=>some true) else some false)
theorem aS_c (n:Nat) {L w} (_hL:hl L w) {a0:List Int} {v0_0:Value} (h0_0:Rep.R w L [v0_0] a0) {a1:List Int} {v1_0:Value} (h1_0:Rep.R w L [v1_0] a1)  {r:Bool} (h:aS_p n a0 a1 = some r) :
 Cl 20 #[v0_0,v1_0] w (ah w fun _ u=>u = .bool r):=by
 unfold aS_p at h
 have hS0:=Az w
 refine AG func20 rfl rfl rfl fun _ cs0 hb0=>Ac<|Af rfl<|Aa<|Ai<|Ac<|Ae rfl ?_
 have hl1:a0.length <= 281474976710656:=Ba h0_0
 refine Ab (Bg (xs:=a0) underlying40 rfl h0_0)<|Ae rfl ?_
 have hl2:a1.length <= 281474976710656:=Ba h1_0
 refine Ab (Bg (xs:=a1) underlying40 rfl h1_0)<|Ab (FV.neqN (i:=a0.length) (j:=a1.length) rfl rfl)<|Aa<|MX.ifn rfl h (fun c3 h=>?_) (fun c3 h=>?_)
 refine Ar<|Ai<|Ac<|Ae rfl<|Ab (Bg (xs:=a0) underlying40 rfl h0_0)<|Ae rfl<|Aa<|AA<|tn h fun U0 F0 g0=>MX.lo (α:=Nat) (fun i32=>[(0,v0_0),(1,v1_0),(12,vI ((a0.length:Nat):Int)),(13,vI ((i32:Nat):Int))]) (fun i32=>[]) (fun i32=>i32) 0 F0 hS0 ?_
 rintro P0 i32 V0 u0 d0 v0 h
 unfold aS_l1 at h
 try dsimp only at h
 refine Ac<|Ab (Bq (i:=i32) (j:=a0.length) rfl rfl)<|Aa<|Ai<|AT rfl h (fun p0 h=>?_) (fun p0 h=>?_)
 refine Ar<|Ai<|AA<|Ac<|Ae rfl<|Af rfl<|Aa<|Ai<|du 9 fun b0 c0=>Rv 0 b0 rfl c0 (fun _=>Ak rfl)<|Rv 1 b0 rfl c0 (fun _=>Ak rfl)<|bk h fun j0 I0 h=>?_
 obtain ⟨K0,Q0,x0,B0,s0,G0,D0⟩:=Bk (AS h0_0 d0) I0
 have y0:s0 = [vI j0]:=G0; subst y0
 refine Rv 2 b0 rfl c0 (fun _=>Bj 1 i32 rfl x0 rfl rfl B0)<|Rx 3 256 b0 rfl c0 (AL rfl (D0 0 _ rfl))<|Rv 4 b0 rfl c0 (fun _=>Ak rfl)<|Rv 5 b0 rfl c0 (fun _=>Ak rfl)<|bk h fun k0 J0 h=>?_
 obtain ⟨M0,R0,z0,C0,t0,H0,E0⟩:=Bk (AS h1_0 d0) J0
 have A0:t0 = [vI k0]:=H0; subst A0
 refine Rv 6 b0 rfl c0 (fun _=>Bj 1 i32 rfl z0 rfl rfl C0)<|Rx 7 256 b0 rfl c0 (AL rfl (E0 0 _ rfl))<|Rv 8 b0 rfl c0 (fun _=>FV.neq (i:=j0) (j:=k0) rfl rfl)<|AM (dk b0)<|MX.ifn rfl h (fun q0 h=>?_) (fun q0 h=>?_)
 refine Ar<|AC<|Ao<|Ab (Bn (i:=i32) (j:=1) rfl rfl (by omega))<|Ae rfl<|Aa<|u0 (i32 + 1) d0 v0 h
 refine Ac<|Af rfl<|Aa ?_
 have h:=au h g0
 refine Al rfl<|AY hb0 func20 rfl rfl ?_
 cases h
 exact d0.gv
 refine Be rfl ?_
 have h:=aF h g0
 try dsimp only at h
 refine Ac<|Af rfl<|Aa<|Al rfl<|AY hb0 func20 rfl rfl ?_
 cases h
 exact d0.gv
 refine Ac<|Af rfl<|Aa<|Al rfl<|AY hb0 func20 rfl rfl ?_
 cases h
 exact hS0.gv
def cX_p (n:Nat) (a0:List Int) (a1:Int) (a2:List Int):Option Bool:=
  (aS_p n a0 a2).bind fun y1=>(if y1 = true then some (decide (a1 = 0)) else some false)
theorem cX_c (n:Nat) {L w} (hL:hl L w) {a0:List Int} {v0_0:Value} (h0_0:Rep.R w L [v0_0] a0) {a1:Int} {a2:List Int} {v2_0:Value} (h2_0:Rep.R w L [v2_0] a2) {p2:Nat} (m2:∀ j9 v9,([v2_0]:List Value)[j9]? = some v9 -> w.cell? ((⟨p2,0,none⟩:Addr).add j9) = some v9)  {r:Bool} (h:cX_p n a0 a1 a2 = some r) :
 Cl 84 #[v0_0,vI a1,.pointer (some ⟨p2,0,none⟩)] w (ah w fun _ u=>u = .bool r):=by
 unfold cX_p at h
 have hS0:=Az w
 refine AG func84 rfl rfl rfl fun _ cs0 hb0=>Ac<|Af rfl<|Aa<|Ac<|Ae rfl<|AR rfl ((fun j9 v9 h9=>hS0.ag.cell0 (m2 j9 v9 h9)) 0 _ rfl)<|bk h fun y1 hy1 h=>Bi (.bool y1) (bd 20) rfl (e2 rfl rfl) (fun p q=>aS_c n (hS0.hL0 hL q) (hS0.kd h0_0 q) (hS0.kd h2_0 q) hy1) rfl<|Ae rfl<|RG.ifb (s:=9) rfl h (fun c2 h=>?_) (fun c2 h=>?_)
 refine AH (Ak rfl)<|AH (FV.eql (i:=a1) (j:=0) rfl rfl)<|Bm rfl rfl<|Af rfl<|Aa<|Al rfl<|AY hb0 func84 rfl rfl ?_
 cases h
 exact hS0.gv
 refine Au<|Au<|Bv rfl rfl<|Af rfl<|Aa<|Al rfl<|AY hb0 func84 rfl rfl ?_
 cases h
 exact hS0.gv
theorem dV_c (_n:Nat) {L w} (_hL:hl L w) (a0:List Int) {v0_0:Value} (h0_0:Rep.R w L [v0_0] a0)  :
 Cl 31 #[v0_0] w (ah w fun w' u=>∃ b0:Nat,u = .func (.func 84) #[] #[vP b0]/\St w w' [.cells b0 [v0_0] 40]):=by
 refine AG func31 rfl rfl rfl fun _ cs0 hb0=>Ac<|RG.bx (Az w) rfl (Rep.c1 h0_0) fun g0 b0 c0 d0=>Af rfl<|Aa<|Ac<|Ab (BP (vs:=[]) (us:=[vP b0]) aj (e1 rfl))<|Af rfl<|Aa<|Al rfl<|Ap (u:=.func (.func 84) #[] #[vP b0]) hb0 func31 rfl (.cons (.tmp rfl) .nil) rfl<|⟨c0.ag,fun p q=>⟨b0,rfl,c0.agree q⟩⟩
def cE_p (n:Nat) (a0:Ta) (a1:Int) (a2:Int) (a3:Int):Option Bool:=
  (bm_p n a2 a3).bind fun b0=>(if a0 = b0 then some (decide (a1 = 0)) else some false)
theorem cE_c (n:Nat) {L w} (hL:hl L w) (a0:Ta) {a1:Int} {a2:Int} {p2:Nat} (m2:∀ j9 v9,([vI a2]:List Value)[j9]? = some v9 -> w.cell? ((⟨p2,0,none⟩:Addr).add j9) = some v9) {a3:Int} {p3:Nat} (m3:∀ j9 v9,([vI a3]:List Value)[j9]? = some v9 -> w.cell? ((⟨p3,0,none⟩:Addr).add j9) = some v9)  {r:Bool} (h:cE_p n a0 a1 a2 a3 = some r) :
 Cl 85 #[.agg ((ab a0)).toArray,vI a1,.pointer (some ⟨p2,0,none⟩),.pointer (some ⟨p3,0,none⟩)] w (ah w fun _ u=>u = .bool r):=by
 unfold cE_p at h
 refine AG func85 rfl rfl rfl fun _ cs0 hb0=>Ac<|RG.bx (Az w) rfl rfl fun s0 p0 d0 q0=>Af rfl<|Aa<|Ai<|du 10 fun b0 c0=>Rx 0 1008 b0 rfl c0 (AF rfl (d0.memA .hd))<|Rx 1 1016 b0 rfl c0 (AL rfl ((fun j9 v9 h9=>d0.ag.cell0 (m2 j9 v9 h9)) 0 _ rfl))<|Rx 2 1016 b0 rfl c0 (AL rfl ((fun j9 v9 h9=>d0.ag.cell0 (m3 j9 v9 h9)) 0 _ rfl))<|bk h fun g0 k0 h=>BG 3 15 1008 (.agg ((ab g0)).toArray) b0 rfl c0 (bd 28) rfl (e2 rfl rfl) (fun p q=>bm_c n (d0.hL0 hL q)  k0) rfl<|Rv 4 b0 rfl c0 (fun _=>FV.eqlV (v:=.agg ((ab a0)).toArray) (u:=.agg ((ab g0)).toArray) rfl rfl (cG a0 g0))<|Rv 5 b0 rfl c0 (fun _=>Ak rfl)<|RD.ifd (s:=12) rfl h (fun j0 h=>?_) (fun j0 h=>?_)
 refine RD.vP 6 127 b0 rfl c0 (.yes rfl rfl) (fun _=>Ak rfl) rfl<|RD.vP 7 255 b0 rfl c0 (.yes rfl rfl) (fun _=>FV.eql (i:=a1) (j:=0) rfl rfl) rfl<|Rv 8 b0 rfl c0 (fun _=>BY rfl rfl)<|Rv 9 b0 rfl c0 (fun _=>Bh rfl)<|AM (dk b0)<|Al rfl<|AY hb0 func85 rfl rfl ?_
 cases h
 exact d0.gv
 refine BN 255 2 [(6,13),(7,14)] (F:=[(12,false)]) (U:=[]) b0 c0 (.cons rfl .nil) .nil ?_
 dsimp only [bf,List.map]
 refine Rv 8 b0 rfl c0 (fun _=>Bx rfl rfl)<|Rv 9 b0 rfl c0 (fun _=>Bh rfl)<|AM (dk b0)<|Al rfl<|AY hb0 func85 rfl rfl ?_
 cases h
 exact d0.gv
theorem dT_c (_n:Nat) {L w} (_hL:hl L w) (a0:Int) (a1:Int)  :
 Cl 32 #[vI a0,vI a1] w (ah w fun w' u=>∃ b0 c0:Nat,u = .func (.func 85) #[] #[vP b0,vP c0]/\St w w' [.cells b0 [vI a0] 3,.cells c0 [vI a1] 3]):=by
 refine AG func32 rfl rfl rfl fun _ cs0 hb0=>Ac<|RG.bx (Az w) rfl rfl fun t0 b0 j0 p0=>RG.bx j0 rfl rfl fun u0 c0 k0 q0=>Af rfl<|Aa<|Ac<|Ab (BP (vs:=[]) (us:=[vP b0,vP c0]) aj (e2 rfl rfl))<|Af rfl<|Aa<|Al rfl<|Ap (u:=.func (.func 85) #[] #[vP b0,vP c0]) hb0 func32 rfl (.cons (.tmp rfl) .nil) rfl ?_
 obtain ⟨g0,s0⟩:=AI k0 (.a1 .d0)
 exact ⟨g0.ag,fun p q=>⟨b0,c0,rfl,g0.agree q⟩⟩
def di_p (_n:Nat) (a0:Ta) (a1:Ta) (a2:Int) (a3:Ta) (a4:Ta):Option Bool:=
  (if a0 = a3 then (if a1 = a4 then some (decide (a2 = 0)) else some false) else some false)
theorem di_c (n:Nat) {L w} (_hL:hl L w) (a0:Ta) (a1:Ta) {a2:Int} (a3:Ta) {p3:Nat} (m3:∀ j9 v9,((ab a3):List Value)[j9]? = some v9 -> w.cell? ((⟨p3,0,none⟩:Addr).add j9) = some v9) (a4:Ta) {p4:Nat} (m4:∀ j9 v9,((ab a4):List Value)[j9]? = some v9 -> w.cell? ((⟨p4,0,none⟩:Addr).add j9) = some v9)  {r:Bool} (h:di_p n a0 a1 a2 a3 a4 = some r) :
 Cl 86 #[.agg ((ab a0)).toArray,.agg ((ab a1)).toArray,vI a2,.pointer (some ⟨p3,0,none⟩),.pointer (some ⟨p4,0,none⟩)] w (ah w fun _ u=>u = .bool r):=by
 unfold di_p at h
 refine AG func86 rfl rfl rfl fun _ cs0 hb0=>Ac<|RG.bx (Az w) rfl rfl fun s0 j0 g0 p0=>RG.bx g0 rfl rfl fun t0 k0 b0 q0=>Af rfl<|Aa<|Ac<|Ab (AF rfl (b0.memA .t1))<|Ab (AF rfl (fun j9 v9 h9=>b0.ag.cell0 (m3 j9 v9 h9)))<|Ab (FV.eqlV (v:=.agg ((ab a0)).toArray) (u:=.agg ((ab a3)).toArray) rfl rfl (cG a0 a3))<|Ae rfl<|BA (s:=12) rfl h (fun c0 h=>?_) (fun c0 h=>?_)
 refine AH (AF rfl (b0.memA .hd))<|AH (AF rfl (fun j9 v9 h9=>b0.ag.cell0 (m4 j9 v9 h9)))<|AH (FV.eqlV (v:=.agg ((ab a1)).toArray) (u:=.agg ((ab a4)).toArray) rfl rfl (cG a1 a4))<|Bm rfl rfl<|Ae rfl<|BA (s:=17) rfl h (fun d0 h=>?_) (fun d0 h=>?_)
 refine AH (Ak rfl)<|AH (FV.eql (i:=a2) (j:=0) rfl rfl)<|Bm rfl rfl<|Af rfl<|Aa<|Al rfl<|AY hb0 func86 rfl rfl ?_
 cases h
 exact b0.gv
 refine Au<|Au<|Bv rfl rfl<|Af rfl<|Aa<|Al rfl<|AY hb0 func86 rfl rfl ?_
 cases h
 exact b0.gv
 refine Au<|Au<|Au<|Bv rfl rfl<|Ae rfl<|Au<|Au<|Bv rfl rfl<|Af rfl<|Aa<|Al rfl<|AY hb0 func86 rfl rfl ?_
 cases h
 exact b0.gv
theorem dW_c (_n:Nat) {L w} (_hL:hl L w) (a0:Ta) (a1:Ta)  :
 Cl 33 #[.agg ((ab a0)).toArray,.agg ((ab a1)).toArray] w (ah w fun w' u=>∃ b0 c0:Nat,u = .func (.func 86) #[] #[vP b0,vP c0]/\St w w' [.cells b0 (ab a0) 38,.cells c0 (ab a1) 38]):=by
 refine AG func33 rfl rfl rfl fun _ cs0 hb0=>Ac<|RG.bx (Az w) rfl rfl fun t0 b0 j0 p0=>RG.bx j0 rfl rfl fun u0 c0 k0 q0=>Af rfl<|Aa<|Ac<|Ab (BP (vs:=[]) (us:=[vP b0,vP c0]) aj (e2 rfl rfl))<|Af rfl<|Aa<|Al rfl<|Ap (u:=.func (.func 86) #[] #[vP b0,vP c0]) hb0 func33 rfl (.cons (.tmp rfl) .nil) rfl ?_
 obtain ⟨g0,s0⟩:=AI k0 (.a1 .d0)
 exact ⟨g0.ag,fun p q=>⟨b0,c0,rfl,g0.agree q⟩⟩
theorem jx:ElT Tryz.prog 41 3 (Rep.size Int) 8 (vI 0) [vI 0]:=⟨underlying41,by kernel_rfl,rfl,rfl,rfl,rfl⟩
def cS_p (n:Nat):Option Bool:=
  (cW_p n).bind fun y1=>(bT_p n y1 ([(0:Int),(0:Int),(1:Int)]:List Int) (2:Int) (0:Int)).bind fun j0=>(dB_p n y1 (1:Int) (0:Int)).bind fun A0=>(bT_p n (⟨(0:Int),(0:Int),(0:Int),([(⟨⟨#[97]⟩,(0:Int),([]:List Int),([]:List Int),([]:List Int),false⟩:Tb),(⟨⟨#[98]⟩,(0:Int),([]:List Int),([]:List Int),([]:List Int),false⟩:Tb)]:List Tb)⟩:Td) ([(0:Int),(1:Int)]:List Int) (2:Int) (0:Int)).bind fun B0=>(if j0.2 = 0 then (bm_p n (1:Int) (4:Int)).bind fun k0=>(bm_p n (1:Int) (10:Int)).bind fun p0=>(ai_p n j0.1 ([k0,p0]:List Ta)).bind fun q0=>(if q0 = true then (bm_p n (1:Int) (5:Int)).bind fun s0=>(bN_p n y1 ([(0:Int),(0:Int),(1:Int)]:List Int) (2:Int) (0:Int) s0).bind fun c0=>(cX_p n c0.1 c0.2 ([(0:Int)]:List Int)).bind fun t0=>(if t0 = true then (ce_p n y1 ([(0:Int),(0:Int),(1:Int)]:List Int) (2:Int) (0:Int)).bind fun d0=>(cE_p n d0.1 d0.2 (20:Int) (77:Int)).bind fun u0=>(if u0 = true then (bm_p n (14:Int) (9:Int)).bind fun v0=>(bm_p n (-1:Int) (45:Int)).bind fun x0=>(dB_p n y1 (0:Int) (0:Int)).bind fun b0=>(di_p n b0.1 b0.2.1 b0.2.2 v0 x0).bind fun y0=>(if y0 = true then (dM_p n y1 (0:Int) (0:Int)).bind fun g0=>(cE_p n g0.1 g0.2 (49:Int) (51:Int)).bind fun z0=>(if z0 = true then (if A0.2.2 = 2 then some (decide (B0.2 = 2)) else some false) else some false) else some false) else some false) else some false) else some false) else some false)
theorem cS_c (n:Nat) {L w} (hL:hl L w)  {r:Bool} (h:cS_p n = some r) :
 Cl 6 #[] w (ah w fun _ u=>u = .bool r):=by
 unfold cS_p at h
 have hS0:=Az w
 refine AG func6 rfl rfl rfl fun _ cs0 hb0=>Ac<|Af rfl<|Aa<|Ac<|bk h fun y1 hy1 h=>jE (bd 30) rfl aj (fun p q=>dj (b0:=w.heap.size) (cW_c n (hS0.hL hL q)  hy1) q (Nat.le_trans hS0.ag.size q.size)) rfl fun w2 vu3 hag4 ⟨v9,x2,hu6,s5,F2⟩=>?_
 subst hu6
 have hS7:=eM hS0 s5
 have hT8:=iS hS0 s5
 refine Aj .plain rfl (AN (α:=Int) (xs:=([(0:Int),(0:Int),(1:Int)]:List Int)) (vs:=[vI 0,vI 0,vI 1]) (ds' :=[vI 0,vI 0,vI 1]) rfl hS7 jx rfl (e3 rfl rfl rfl) (by kernel_rfl) rfl) fun p4 d2 G1 B2=>RG.nl [vI 0,vI 0,vI 0,vN] G1 fun s4 G3 H1 Q1=>AQ [vI y1.fj,vI y1.fh,vI y1.fl,v9] H1 .hd (o4 rfl rfl rfl (St.o1 (α:=Tb) H1 .t2)) fun u4 I0 R1=>Af rfl<|Aa<|Ac<|Ab (AF rfl (I0.memA .hd))<|Ae rfl ?_
 have J0:=Br I0 .t2
 have u0:=Bu (α:=Tb) (v:=v9) (xs:=y1.fu) J0 L (Bf (α:=Tb) I0 .t2 (AD (AE (cs:=x2) (xs:=(y1.fu:List Tb)) hS7 L (dF F2)) (Tt B2 (Tt Q1 R1))) hL)
 have b1:=Br J0 .t1
 have p1:=Bs J0 .t1
 have C1:=Bu (α:=Int) (v:=(vS d2 3)) (xs:=([(0:Int),(0:Int),(1:Int)]:List Int)) b1 L (Bf (α:=Int) J0 .t1 (AD (AE (cs:=[vI 0,vI 0,vI 1]) (xs:=(([(0:Int),(0:Int),(1:Int)]:List Int):List Int)) G1 L (Aw (cs:=[vI 0]) (ds:=[vI 0,vI 1]) rfl (Aw (cs:=[vI 0]) (ds:=[vI 1]) rfl (Aw (cs:=[vI 1]) (ds:=[]) rfl (AK _ _))))) (Tt Q1 (Tt R1 (Bs I0 .t2)))) hL)
 refine bk h fun D3 k3 h=>jE (bd 12) rfl (e4 rfl rfl rfl rfl) (fun p q=>bT_c n (b1.hL hL q) y1 (Aq (Am u0 p1) q) (Aq C1 q) k3) rfl fun v4 d4 D2 ⟨V3,hu_,H2⟩=>?_
 subst hu_
 obtain ⟨K0,q1⟩:=b1.agr D2
 refine Ae rfl<|Ab (Ah rfl rfl)<|Ab (Ah rfl rfl)<|Af rfl<|Af rfl<|Aa<|Ac<|Ab (AF rfl (K0.memA .hd))<|bk h fun x0 p3 h=>Bi (.tuple #[.agg ((ab x0.1)).toArray,.agg ((ab x0.2.1)).toArray,vI x0.2.2]) (bd 21) rfl (e3 rfl rfl rfl) (fun p q=>dB_c n (K0.hL0 hL q) y1 (K0.kd (Am u0 (Tt p1 q1)) q) p3) rfl<|Ae rfl<|Ab (Ah rfl rfl)<|Ab (Ah rfl rfl)<|Ab (Ah rfl rfl)<|RG.nl zL K0 fun x4 H3 y2 s1=>RG.nl zL y2 fun y4 I3 z2 u1=>AQ (ab x0.1) z2 .t1 (ai rfl) fun z4 A2 v1=>AQ (ab x0.2.1) A2 .hd (ai rfl) fun A4 I1 x1=>Af rfl<|Aa<|Ac<|Ab (AO (vs:=[.string ⟨#[97]⟩]) (u:=.agg #[.string ⟨#[97]⟩,vI 0,vN,vN,vN,.bool false]) (e1 rfl) (fun p=>by kernel_rfl))<|Ab (AO (vs:=[.string ⟨#[98]⟩]) (u:=.agg #[.string ⟨#[98]⟩,vI 0,vN,vN,vN,.bool false]) (e1 rfl) (fun p=>by kernel_rfl)) ?_
 have Q3:=BS (α:=Int) I1 L
 refine Aj .plain rfl (AN (α:=Tb) (xs:=([(⟨⟨#[97]⟩,(0:Int),([]:List Int),([]:List Int),([]:List Int),false⟩:Tb),(⟨⟨#[98]⟩,(0:Int),([]:List Int),([]:List Int),([]:List Int),false⟩:Tb)]:List Tb)) (vs:=[.agg #[.string ⟨#[97]⟩,vI 0,vN,vN,vN,.bool false],.agg #[.string ⟨#[98]⟩,vI 0,vN,vN,vN,.bool false]]) (ds' :=[.string ⟨#[97]⟩,vI 0,vN,vN,vN,.bool false,.string ⟨#[98]⟩,vI 0,vN,vN,vN,.bool false]) rfl I1 eY rfl (e2 rfl rfl) (by kernel_rfl) rfl) fun B4 Y0 c1 z1=>?_
 have v0:=BS (α:=Int) c1 L
 refine Ab (AO (vs:=[(vS Y0 2)]) (u:=.agg #[vI 0,vI 0,vI 0,(vS Y0 2)]) (e1 rfl) (fun p=>by kernel_rfl))<|Aj .plain rfl (AN (α:=Int) (xs:=([(0:Int),(1:Int)]:List Int)) (vs:=[vI 0,vI 1]) (ds' :=[vI 0,vI 1]) rfl c1 jx rfl (e2 rfl rfl) (by kernel_rfl) rfl) fun C4 g2 M0 R0=>?_
 have P0:=Br M0 .t1
 have U0:=Bs M0 .t1
 have d1:=Br P0 .hd
 have V0:=Bs P0 .hd
 refine bk h fun E3 q3 h=>jE (bd 12) rfl (e4 rfl rfl rfl rfl) (fun p q=>bT_c n (d1.hL hL q) (⟨(0:Int),(0:Int),(0:Int),([(⟨⟨#[97]⟩,(0:Int),([]:List Int),([]:List Int),([]:List Int),false⟩:Tb),(⟨⟨#[98]⟩,(0:Int),([]:List Int),([]:List Int),([]:List Int),false⟩:Tb)]:List Tb)⟩:Td) (Aq (Am (Bu (α:=Tb) (v:=(vS Y0 2)) (xs:=([(⟨⟨#[97]⟩,(0:Int),([]:List Int),([]:List Int),([]:List Int),false⟩:Tb),(⟨⟨#[98]⟩,(0:Int),([]:List Int),([]:List Int),([]:List Int),false⟩:Tb)]:List Tb)) P0 L (Bf (α:=Tb) M0 .t1 (AD (AE (cs:=[.string ⟨#[97]⟩,vI 0,vN,vN,vN,.bool false,.string ⟨#[98]⟩,vI 0,vN,vN,vN,.bool false]) (xs:=(([(⟨⟨#[97]⟩,(0:Int),([]:List Int),([]:List Int),([]:List Int),false⟩:Tb),(⟨⟨#[98]⟩,(0:Int),([]:List Int),([]:List Int),([]:List Int),false⟩:Tb)]:List Tb):List Tb)) c1 L (Aw (cs:=[.string ⟨#[97]⟩,vI 0,vN,vN,vN,.bool false]) (ds:=[.string ⟨#[98]⟩,vI 0,vN,vN,vN,.bool false]) (cx ⟨#[97]⟩ (0:Int) ([]:List Int) v0 ([]:List Int) v0 ([]:List Int) v0 false) (Aw (cs:=[.string ⟨#[98]⟩,vI 0,vN,vN,vN,.bool false]) (ds:=[]) (cx ⟨#[98]⟩ (0:Int) ([]:List Int) v0 ([]:List Int) v0 ([]:List Int) v0 false) (AK _ _)))) R0) hL)) V0) q) (Aq (Bu (α:=Int) (v:=(vS g2 2)) (xs:=([(0:Int),(1:Int)]:List Int)) d1 L (Bf (α:=Int) P0 .hd (AD (AE (cs:=[vI 0,vI 1]) (xs:=(([(0:Int),(1:Int)]:List Int):List Int)) M0 L (Aw (cs:=[vI 0]) (ds:=[vI 1]) rfl (Aw (cs:=[vI 1]) (ds:=[]) rfl (AK _ _)))) U0) hL)) q) q3) rfl fun D4 g4 E2 ⟨W3,hu_,R3⟩=>?_
 subst hu_
 obtain ⟨Q0,A1⟩:=d1.agr E2
 refine Ae rfl<|Ab (Ah rfl rfl)<|Ab (Ah rfl rfl)<|Af rfl<|Af rfl<|Aa<|Ai<|du 57 fun c0 d0=>Rv 0 c0 rfl d0 (fun _=>Ak rfl)<|Rv 1 c0 rfl d0 (fun _=>FV.eql (i:=D3.2) (j:=0) rfl rfl)<|Rv 2 c0 rfl d0 (fun _=>Ak rfl)<|RD.ifd (s:=35) rfl h (fun j2 h=>?_) (fun j2 h=>?_)
 refine RD.vP 3 15 c0 rfl d0 (.yes rfl rfl) (fun _=>Ak rfl) rfl<|bk h fun q0 P2 h=>RD.callq (i:=4) (m' :=31) (W:=144115188075855840) (tk c0) rfl d0 (v:=.agg ((ab q0)).toArray) (fst:=[]) (cap:=[]) (.yes rfl rfl) (bd 28) rfl (e2 rfl rfl) (fun p q=>bm_c n (Q0.hL0 hL q)  P2) rfl<|bk h fun k0 Q2 h=>RD.callq (i:=5) (m' :=63) (W:=144115188075855808) (tk c0) rfl d0 (v:=.agg ((ab k0)).toArray) (fst:=[]) (cap:=[]) (.yes rfl rfl) (bd 28) rfl (e2 rfl rfl) (fun p q=>bm_c n (Q0.hL0 hL q)  Q2) rfl<|BV 6 127 c0 rfl (.yes rfl rfl) rfl (AN (α:=Ta) (xs:=([q0,k0]:List Ta)) (vs:=[.agg ((ab q0)).toArray,.agg ((ab k0)).toArray]) (ds' :=(ab q0 ++ ab k0)) rfl Q0 dU rfl (e2 rfl rfl) (by kernel_rfl) rfl) fun j4 F3 t0 g1=>bk h fun y3 R2 h=>RD.callq (i:=7) (m' :=255) (W:=144115188075855616) (tk c0) rfl d0 (v:=.bool y3) (fst:=[]) (cap:=[]) (.yes rfl rfl) (bd 16) rfl (e2 rfl rfl) (fun p q=>ai_c n (t0.hL0 hL q) (t0.kd (Am H2 (Tt s1 (Tt u1 (Tt v1 (Tt x1 (Tt z1 (Tt R0 (Tt U0 (Tt V0 (Tt A1 g1)))))))))) q) (Aq (St.lend (α:=Ta) (L:=L) t0 .hd (AE (cs:=(ab q0 ++ ab k0)) (xs:=(([q0,k0]:List Ta):List Ta)) t0 L (Aw (cs:=(ab q0)) (ds:=(ab k0)) (br q0.fN q0.fD) (Aw (cs:=(ab k0)) (ds:=[]) (br k0.fN k0.fD) (AK _ _)))) hL) q) R2) rfl<|Rv 8 c0 rfl d0 (fun _=>BY rfl rfl)<|Rv 9 c0 rfl d0 (fun _=>Ak rfl)<|RD.ifb (s:=42) rfl h (fun k2 h=>?_) (fun k2 h=>?_)
 refine RD.val (i:=12) (m' :=5119) (W:=144115188075823104) (tk c0) rfl d0 (.yes rfl rfl) (AF rfl (t0.memA .t3)) rfl<|RD.vP 13 13311 c0 rfl d0 (.yes rfl rfl) (fun _=>Ak rfl) rfl<|BV 10 14335 c0 rfl (.yes rfl rfl) rfl (jA ((0:Int)) (vI 0) t0 aw (e1 rfl)) fun s3 F1 G0 J1=>?_
 have H0:=Br G0 .hd
 have K1:=Bs G0 .hd
 have W1:=Bu (α:=Int) (v:=(vS F1 1)) (xs:=([(0:Int)]:List Int)) H0 L (Bf (α:=Int) G0 .hd (jC ((0:Int)) (vI 0) G0 L rfl) hL)
 refine Bl 11 16383 c0 rfl (.yes rfl rfl) (bd 31) rfl (e1 rfl) (fun p q=>Calls.gives (dV_c n (H0.hL hL q) ([(0:Int)]:List Int) (Aq W1 q)) fun (w8:World) (u8:Value) ⟨b0_,hu_,s_⟩=>(⟨b0_,hu_,s_.from q⟩:∃ z0:Nat,u8 = Value.func (.func 84) #[] #[vP z0]/\St s3 w8 [.cells z0 [(vS F1 1)] 40])) rfl fun k4 X3 J3 ⟨z0,I2,X1⟩=>?_
 subst I2
 have Z0:=ea H0 X1
 have j1:=jc H0 X1
 refine bk h fun c2 U2 h=>RD.callq (i:=14) (m' :=32767) (W:=144115188075823104) (tk c0) rfl d0 (v:=.agg ((ab c2)).toArray) (fst:=[]) (cap:=[]) (.yes rfl rfl) (bd 28) rfl (e2 rfl rfl) (fun p q=>bm_c n (Z0.hL0 hL q)  U2) rfl<|bk h fun E4 V2 h=>?_
 have U1:=Tt p1 (Tt q1 (Tt s1 (Tt u1 (Tt v1 (Tt x1 (Tt z1 (Tt R0 (Tt U0 (Tt V0 (Tt A1 (Tt g1 (Tt J1 (Tt K1 j1)))))))))))))
 have V1:=Tt q1 (Tt s1 (Tt u1 (Tt v1 (Tt x1 (Tt z1 (Tt R0 (Tt U0 (Tt V0 (Tt A1 (Tt g1 (Tt J1 (Tt K1 j1))))))))))))
 refine Bl 15 65535 c0 rfl (.yes rfl rfl) (bd 18) rfl (e5 rfl rfl rfl rfl rfl) (fun p q=>bN_c n (Z0.hL hL q) y1 (Aq (Am u0 U1) q) (Aq (Am C1 V1) q) c2 V2) rfl fun u3 Y3 C2 ⟨U3,hu_,G2⟩=>?_
 subst hu_
 obtain ⟨p0,k1⟩:=Z0.agr C2
 refine RD.vP 16 131071 c0 rfl d0 (.yes rfl rfl) (fun _=>Ah rfl rfl) rfl<|RD.vP 17 262143 c0 rfl d0 (.yes rfl rfl) (fun _=>Ah rfl rfl) rfl<|bk h fun z3 W2 h=>RD.callq (i:=18) (m' :=524287) (W:=144115188075331584) (tk c0) rfl d0 (v:=.bool z3) (fst:=[]) (cap:=[vP z0]) (.yes rfl rfl) (bd 84) rfl (e2 rfl rfl) (fun p q=>cX_c n (p0.hL0 hL q) (p0.kd G2 q) (p0.kd (Am W1 (Tt j1 k1)) q) (ao q (p0.memA .hd)) W2) rfl<|Rv 19 c0 rfl d0 (fun _=>BY rfl rfl)<|Rv 20 c0 rfl d0 (fun _=>Ak rfl)<|RD.ifb (s:=53) rfl h (fun p2 h=>?_) (fun p2 h=>?_)
 refine RD.val (i:=22) (m' :=6291455) (W:=144115188059078656) (tk c0) rfl d0 (.yes rfl rfl) (AF rfl (p0.memA .t4)) rfl<|RD.vP 23 14680063 c0 rfl d0 (.yes rfl rfl) (fun _=>Ak rfl) rfl<|Bl 21 16777215 c0 rfl (.yes rfl rfl) (bd 32) rfl (e2 rfl rfl) (fun p q=>Calls.gives (dT_c n (p0.hL hL q) (20:Int) (77:Int)) fun (w8:World) (u8:Value) ⟨b0_,b1_,hu_,s_⟩=>(⟨b0_,b1_,hu_,s_.from q⟩:∃ A0 B0:Nat,u8 = Value.func (.func 85) #[] #[vP A0,vP B0]/\St u3 w8 [.cells A0 [vI 20] 3,.cells B0 [vI 77] 3])) rfl fun v3 Z3 K3 ⟨A0,B0,J2,Y1⟩=>?_
 subst J2
 have g0:=il p0 Y1
 have M1:=ln p0 Y1
 refine bk h fun D1 X2 h=>?_
 have B1:=Tt U1 (Tt k1 M1)
 refine RD.callq (i:=24) (m' :=33554431) (W:=144115188042301440) (tk c0) rfl d0 (v:=.tuple #[.agg ((ab D1.1)).toArray,vI D1.2]) (fst:=[]) (cap:=[]) (.yes rfl rfl) (bd 14) rfl (e4 rfl rfl rfl rfl) (fun p q=>ce_c n (g0.hL0 hL q) y1 (g0.kd (Am u0 B1) q) (g0.kd (Am C1 (Tt V1 (Tt k1 M1))) q) X2) rfl<|RD.vP 25 67108863 c0 rfl d0 (.yes rfl rfl) (fun _=>Ah rfl rfl) rfl<|RD.vP 26 134217727 c0 rfl d0 (.yes rfl rfl) (fun _=>Ah rfl rfl) rfl<|bk h fun A3 Y2 h=>RD.callq (i:=27) (m' :=268435455) (W:=144115187807420416) (tk c0) rfl d0 (v:=.bool A3) (fst:=[]) (cap:=[vP A0,vP B0]) (.yes rfl rfl) (bd 85) rfl (e2 rfl rfl) (fun p q=>cE_c n (g0.hL0 hL q) D1.1 (ao q (g0.memA .hd)) (ao q (g0.memA .t1)) Y2) rfl<|Rv 28 c0 rfl d0 (fun _=>BY rfl rfl)<|Rv 29 c0 rfl d0 (fun _=>Ak rfl)<|RD.ifb (s:=62) rfl h (fun q2 h=>?_) (fun q2 h=>?_)
 refine bk h fun W0 Z2 h=>RD.callq (i:=30) (m' :=2147483647) (W:=144115177338437632) (tk c0) rfl d0 (v:=.agg ((ab W0)).toArray) (fst:=[]) (cap:=[]) (.yes rfl rfl) (bd 28) rfl (e2 rfl rfl) (fun p q=>bm_c n (g0.hL0 hL q)  Z2) rfl<|bk h fun X0 b3 h=>RD.callq (i:=31) (m' :=4294967295) (W:=144115175190953984) (tk c0) rfl d0 (v:=.agg ((ab X0)).toArray) (fst:=[]) (cap:=[]) (.yes rfl rfl) (bd 28) rfl (e2 rfl rfl) (fun p q=>bm_c n (g0.hL0 hL q)  b3) rfl<|RD.val (i:=33) (m' :=12884901887) (W:=144115170895986688) (tk c0) rfl d0 (.yes rfl rfl) (AF rfl (g0.memA .t6)) rfl<|Bl 32 17179869183 c0 rfl (.yes rfl rfl) (bd 33) rfl (e2 rfl rfl) (fun p q=>Calls.gives (dW_c n (g0.hL hL q) W0 X0) fun (w8:World) (u8:Value) ⟨b0_,b1_,hu_,s_⟩=>(⟨b0_,b1_,hu_,s_.from q⟩:∃ C0 D0:Nat,u8 = Value.func (.func 86) #[] #[vP C0,vP D0]/\St v3 w8 [.cells C0 (ab W0) 38,.cells D0 (ab X0) 38])) rfl fun x3 b4 M3 ⟨C0,D0,K2,Z1⟩=>?_
 subst K2
 have j0:=il g0 Z1
 have P1:=ln g0 Z1
 refine bk h fun y0 c3 h=>RD.callq (i:=34) (m' :=34359738367) (W:=144115153716117504) (tk c0) rfl d0 (v:=.tuple #[.agg ((ab y0.1)).toArray,.agg ((ab y0.2.1)).toArray,vI y0.2.2]) (fst:=[]) (cap:=[]) (.yes rfl rfl) (bd 21) rfl (e3 rfl rfl rfl) (fun p q=>dB_c n (j0.hL0 hL q) y1 (j0.kd (Am u0 (Tt B1 P1)) q) c3) rfl<|RD.vP 35 68719476735 c0 rfl d0 (.yes rfl rfl) (fun _=>Ah rfl rfl) rfl<|RD.vP 36 137438953471 c0 rfl d0 (.yes rfl rfl) (fun _=>Ah rfl rfl) rfl<|RD.vP 37 274877906943 c0 rfl d0 (.yes rfl rfl) (fun _=>Ah rfl rfl) rfl<|bk h fun B3 d3 h=>RD.callq (i:=38) (m' :=549755813887) (W:=144114638320041984) (tk c0) rfl d0 (v:=.bool B3) (fst:=[]) (cap:=[vP C0,vP D0]) (.yes rfl rfl) (bd 86) rfl (e3 rfl rfl rfl) (fun p q=>di_c n (j0.hL0 hL q) y0.1 y0.2.1 W0 (ao q (j0.memA .hd)) X0 (ao q (j0.memA .t1)) d3) rfl<|Rv 39 c0 rfl d0 (fun _=>BY rfl rfl)<|Rv 40 c0 rfl d0 (fun _=>Ak rfl)<|RD.ifb (s:=73) rfl h (fun s2 h=>?_) (fun s2 h=>?_)
 refine RD.val (i:=42) (m' :=6597069766655) (W:=144106391982833664) (tk c0) rfl d0 (.yes rfl rfl) (AF rfl (j0.memA .t8)) rfl<|Bl 41 8796093022207 c0 rfl (.yes rfl rfl) (bd 32) rfl (e2 rfl rfl) (fun p q=>Calls.gives (dT_c n (j0.hL hL q) (49:Int) (51:Int)) fun (w8:World) (u8:Value) ⟨b0_,b1_,hu_,s_⟩=>(⟨b0_,b1_,hu_,s_.from q⟩:∃ E0 F0:Nat,u8 = Value.func (.func 85) #[] #[vP E0,vP F0]/\St x3 w8 [.cells E0 [vI 49] 3,.cells F0 [vI 51] 3])) rfl fun q4 c4 P3 ⟨E0,F0,M2,b2⟩=>?_
 subst M2
 have s0:=il j0 b2
 refine bk h fun E1 g3 h=>RD.callq (i:=43) (m' :=17592186044415) (W:=144097595889811456) (tk c0) rfl d0 (v:=.tuple #[.agg ((ab E1.1)).toArray,vI E1.2]) (fst:=[]) (cap:=[]) (.yes rfl rfl) (bd 23) rfl (e3 rfl rfl rfl) (fun p q=>dM_c n (s0.hL0 hL q) y1 (s0.kd (Am u0 (Tt B1 (Tt P1 (ln j0 b2)))) q) g3) rfl<|RD.vP 44 35184372088831 c0 rfl d0 (.yes rfl rfl) (fun _=>Ah rfl rfl) rfl<|RD.vP 45 70368744177663 c0 rfl d0 (.yes rfl rfl) (fun _=>Ah rfl rfl) rfl<|bk h fun C3 j3 h=>RD.callq (i:=46) (m' :=140737488355327) (W:=143974450587500544) (tk c0) rfl d0 (v:=.bool C3) (fst:=[]) (cap:=[vP E0,vP F0]) (.yes rfl rfl) (bd 85) rfl (e2 rfl rfl) (fun p q=>cE_c n (s0.hL0 hL q) E1.1 (ao q (s0.memA .hd)) (ao q (s0.memA .t1)) j3) rfl<|Rv 47 c0 rfl d0 (fun _=>BY rfl rfl)<|Rv 48 c0 rfl d0 (fun _=>Ak rfl)<|RD.ifb (s:=81) rfl h (fun u2 h=>?_) (fun u2 h=>?_)
 refine RD.vP 49 1125899906842623 c0 rfl d0 (.yes rfl rfl) (fun _=>Ak rfl) rfl<|RD.vP 50 2251799813685247 c0 rfl d0 (.yes rfl rfl) (fun _=>FV.eql (i:=x0.2.2) (j:=2) rfl rfl) rfl<|Rv 51 c0 rfl d0 (fun _=>BY rfl rfl)<|Rv 52 c0 rfl d0 (fun _=>Ak rfl)<|RD.ifd (s:=85) rfl h (fun v2 h=>?_) (fun v2 h=>?_)
 refine RD.vP 53 18014398509481983 c0 rfl d0 (.yes rfl rfl) (fun _=>Ak rfl) rfl<|RD.vP 54 36028797018963967 c0 rfl d0 (.yes rfl rfl) (fun _=>FV.eql (i:=E3.2) (j:=2) rfl rfl) rfl<|Rv 55 c0 rfl d0 (fun _=>BY rfl rfl)<|Rv 56 c0 rfl d0 (fun _=>Bh rfl)<|AM (dk c0)<|Al rfl<|AY hb0 func6 rfl rfl ?_
 cases h
 exact s0.gv
 refine BN 36028797018963967 2 [(53,86),(54,87)] (F:=[(85,false)]) (U:=[]) c0 d0 (.cons rfl .nil) .nil ?_
 dsimp only [bf,List.map]
 refine Rv 55 c0 rfl d0 (fun _=>Bx rfl rfl)<|Rv 56 c0 rfl d0 (fun _=>Bh rfl)<|AM (dk c0)<|Al rfl<|AY hb0 func6 rfl rfl ?_
 cases h
 exact s0.gv
 refine BN 2251799813685247 6 [(49,82),(50,83)] (F:=[(81,false)]) (U:=[]) c0 d0 (.cons rfl .nil) .nil ?_
 dsimp only [bf,List.map]
 refine Rv 51 c0 rfl d0 (fun _=>Bx rfl rfl)<|Rv 52 c0 rfl d0 (fun _=>Ak rfl)<|BN 36028797018963967 2 [(53,86),(54,87)] (F:=[(85,false)]) (U:=[]) c0 d0 (.cons rfl .nil) .nil ?_
 dsimp only [bf,List.map]
 refine Rv 55 c0 rfl d0 (fun _=>Bx rfl rfl)<|Rv 56 c0 rfl d0 (fun _=>Bh rfl)<|AM (dk c0)<|Al rfl<|AY hb0 func6 rfl rfl ?_
 cases h
 exact s0.gv
 refine BN 140737488355327 10 [(41,74),(42,75),(43,76),(44,77),(45,78),(46,79)] (F:=[(73,false)]) (U:=[]) c0 d0 (.cons rfl .nil) .nil ?_
 dsimp only [bf,List.map]
 refine Rv 47 c0 rfl d0 (fun _=>Bx rfl rfl)<|Rv 48 c0 rfl d0 (fun _=>Ak rfl)<|BN 2251799813685247 6 [(49,82),(50,83)] (F:=[(81,false)]) (U:=[]) c0 d0 (.cons rfl .nil) .nil ?_
 dsimp only [bf,List.map]
 refine Rv 51 c0 rfl d0 (fun _=>Bx rfl rfl)<|Rv 52 c0 rfl d0 (fun _=>Ak rfl)<|BN 36028797018963967 2 [(53,86),(54,87)] (F:=[(85,false)]) (U:=[]) c0 d0 (.cons rfl .nil) .nil ?_
 dsimp only [bf,List.map]
 refine Rv 55 c0 rfl d0 (fun _=>Bx rfl rfl)<|Rv 56 c0 rfl d0 (fun _=>Bh rfl)<|AM (dk c0)<|Al rfl<|AY hb0 func6 rfl rfl ?_
 cases h
 exact j0.gv
 refine BN 549755813887 18 [(30,63),(31,64),(32,65),(33,66),(34,67),(35,68),(36,69),(37,70),(38,71)] (F:=[(62,false)]) (U:=[]) c0 d0 (.cons rfl .nil) .nil ?_
 dsimp only [bf,List.map]
 refine Rv 39 c0 rfl d0 (fun _=>Bx rfl rfl)<|Rv 40 c0 rfl d0 (fun _=>Ak rfl)<|BN 140737488355327 10 [(41,74),(42,75),(43,76),(44,77),(45,78),(46,79)] (F:=[(73,false)]) (U:=[]) c0 d0 (.cons rfl .nil) .nil ?_
 dsimp only [bf,List.map]
 refine Rv 47 c0 rfl d0 (fun _=>Bx rfl rfl)<|Rv 48 c0 rfl d0 (fun _=>Ak rfl)<|BN 2251799813685247 6 [(49,82),(50,83)] (F:=[(81,false)]) (U:=[]) c0 d0 (.cons rfl .nil) .nil ?_
 dsimp only [bf,List.map]
 refine Rv 51 c0 rfl d0 (fun _=>Bx rfl rfl)<|Rv 52 c0 rfl d0 (fun _=>Ak rfl)<|BN 36028797018963967 2 [(53,86),(54,87)] (F:=[(85,false)]) (U:=[]) c0 d0 (.cons rfl .nil) .nil ?_
 dsimp only [bf,List.map]
 refine Rv 55 c0 rfl d0 (fun _=>Bx rfl rfl)<|Rv 56 c0 rfl d0 (fun _=>Bh rfl)<|AM (dk c0)<|Al rfl<|AY hb0 func6 rfl rfl ?_
 cases h
 exact g0.gv
 refine BN 268435455 29 [(21,54),(22,55),(23,56),(24,57),(25,58),(26,59),(27,60)] (F:=[(53,false)]) (U:=[]) c0 d0 (.cons rfl .nil) .nil ?_
 dsimp only [bf,List.map]
 refine Rv 28 c0 rfl d0 (fun _=>Bx rfl rfl)<|Rv 29 c0 rfl d0 (fun _=>Ak rfl)<|BN 549755813887 18 [(30,63),(31,64),(32,65),(33,66),(34,67),(35,68),(36,69),(37,70),(38,71)] (F:=[(62,false)]) (U:=[]) c0 d0 (.cons rfl .nil) .nil ?_
 dsimp only [bf,List.map]
 refine Rv 39 c0 rfl d0 (fun _=>Bx rfl rfl)<|Rv 40 c0 rfl d0 (fun _=>Ak rfl)<|BN 140737488355327 10 [(41,74),(42,75),(43,76),(44,77),(45,78),(46,79)] (F:=[(73,false)]) (U:=[]) c0 d0 (.cons rfl .nil) .nil ?_
 dsimp only [bf,List.map]
 refine Rv 47 c0 rfl d0 (fun _=>Bx rfl rfl)<|Rv 48 c0 rfl d0 (fun _=>Ak rfl)<|BN 2251799813685247 6 [(49,82),(50,83)] (F:=[(81,false)]) (U:=[]) c0 d0 (.cons rfl .nil) .nil ?_
 dsimp only [bf,List.map]
 refine Rv 51 c0 rfl d0 (fun _=>Bx rfl rfl)<|Rv 52 c0 rfl d0 (fun _=>Ak rfl)<|BN 36028797018963967 2 [(53,86),(54,87)] (F:=[(85,false)]) (U:=[]) c0 d0 (.cons rfl .nil) .nil ?_
 dsimp only [bf,List.map]
 refine Rv 55 c0 rfl d0 (fun _=>Bx rfl rfl)<|Rv 56 c0 rfl d0 (fun _=>Bh rfl)<|AM (dk c0)<|Al rfl<|AY hb0 func6 rfl rfl ?_
 cases h
 exact p0.gv
 refine BN 524287 38 [(10,43),(11,44),(12,45),(13,46),(14,47),(15,48),(16,49),(17,50),(18,51)] (F:=[(42,false)]) (U:=[]) c0 d0 (.cons rfl .nil) .nil ?_
 dsimp only [bf,List.map]
 refine Rv 19 c0 rfl d0 (fun _=>Bx rfl rfl)<|Rv 20 c0 rfl d0 (fun _=>Ak rfl)<|BN 268435455 29 [(21,54),(22,55),(23,56),(24,57),(25,58),(26,59),(27,60)] (F:=[(53,false)]) (U:=[]) c0 d0 (.cons rfl .nil) .nil ?_
 dsimp only [bf,List.map]
 refine Rv 28 c0 rfl d0 (fun _=>Bx rfl rfl)<|Rv 29 c0 rfl d0 (fun _=>Ak rfl)<|BN 549755813887 18 [(30,63),(31,64),(32,65),(33,66),(34,67),(35,68),(36,69),(37,70),(38,71)] (F:=[(62,false)]) (U:=[]) c0 d0 (.cons rfl .nil) .nil ?_
 dsimp only [bf,List.map]
 refine Rv 39 c0 rfl d0 (fun _=>Bx rfl rfl)<|Rv 40 c0 rfl d0 (fun _=>Ak rfl)<|BN 140737488355327 10 [(41,74),(42,75),(43,76),(44,77),(45,78),(46,79)] (F:=[(73,false)]) (U:=[]) c0 d0 (.cons rfl .nil) .nil ?_
 dsimp only [bf,List.map]
 refine Rv 47 c0 rfl d0 (fun _=>Bx rfl rfl)<|Rv 48 c0 rfl d0 (fun _=>Ak rfl)<|BN 2251799813685247 6 [(49,82),(50,83)] (F:=[(81,false)]) (U:=[]) c0 d0 (.cons rfl .nil) .nil ?_
 dsimp only [bf,List.map]
 refine Rv 51 c0 rfl d0 (fun _=>Bx rfl rfl)<|Rv 52 c0 rfl d0 (fun _=>Ak rfl)<|BN 36028797018963967 2 [(53,86),(54,87)] (F:=[(85,false)]) (U:=[]) c0 d0 (.cons rfl .nil) .nil ?_
 dsimp only [bf,List.map]
 refine Rv 55 c0 rfl d0 (fun _=>Bx rfl rfl)<|Rv 56 c0 rfl d0 (fun _=>Bh rfl)<|AM (dk c0)<|Al rfl<|AY hb0 func6 rfl rfl ?_
 cases h
 exact t0.gv
 refine BN 255 49 [(3,36),(4,37),(5,38),(6,39),(7,40)] (F:=[(35,false)]) (U:=[]) c0 d0 (.cons rfl .nil) .nil ?_
 dsimp only [bf,List.map]
 refine Rv 8 c0 rfl d0 (fun _=>Bx rfl rfl)<|Rv 9 c0 rfl d0 (fun _=>Ak rfl)<|BN 524287 38 [(10,43),(11,44),(12,45),(13,46),(14,47),(15,48),(16,49),(17,50),(18,51)] (F:=[(42,false)]) (U:=[]) c0 d0 (.cons rfl .nil) .nil ?_
 dsimp only [bf,List.map]
 refine Rv 19 c0 rfl d0 (fun _=>Bx rfl rfl)<|Rv 20 c0 rfl d0 (fun _=>Ak rfl)<|BN 268435455 29 [(21,54),(22,55),(23,56),(24,57),(25,58),(26,59),(27,60)] (F:=[(53,false)]) (U:=[]) c0 d0 (.cons rfl .nil) .nil ?_
 dsimp only [bf,List.map]
 refine Rv 28 c0 rfl d0 (fun _=>Bx rfl rfl)<|Rv 29 c0 rfl d0 (fun _=>Ak rfl)<|BN 549755813887 18 [(30,63),(31,64),(32,65),(33,66),(34,67),(35,68),(36,69),(37,70),(38,71)] (F:=[(62,false)]) (U:=[]) c0 d0 (.cons rfl .nil) .nil ?_
 dsimp only [bf,List.map]
 refine Rv 39 c0 rfl d0 (fun _=>Bx rfl rfl)<|Rv 40 c0 rfl d0 (fun _=>Ak rfl)<|BN 140737488355327 10 [(41,74),(42,75),(43,76),(44,77),(45,78),(46,79)] (F:=[(73,false)]) (U:=[]) c0 d0 (.cons rfl .nil) .nil ?_
 dsimp only [bf,List.map]
 refine Rv 47 c0 rfl d0 (fun _=>Bx rfl rfl)<|Rv 48 c0 rfl d0 (fun _=>Ak rfl)<|BN 2251799813685247 6 [(49,82),(50,83)] (F:=[(81,false)]) (U:=[]) c0 d0 (.cons rfl .nil) .nil ?_
 dsimp only [bf,List.map]
 refine Rv 51 c0 rfl d0 (fun _=>Bx rfl rfl)<|Rv 52 c0 rfl d0 (fun _=>Ak rfl)<|BN 36028797018963967 2 [(53,86),(54,87)] (F:=[(85,false)]) (U:=[]) c0 d0 (.cons rfl .nil) .nil ?_
 dsimp only [bf,List.map]
 refine Rv 55 c0 rfl d0 (fun _=>Bx rfl rfl)<|Rv 56 c0 rfl d0 (fun _=>Bh rfl)<|AM (dk c0)<|Al rfl<|AY hb0 func6 rfl rfl ?_
 cases h
 exact Q0.gv
structure Tk where
  fN:UInt8
  fG:List UInt8
  fMore:List (UInt8 × UInt8)
  fLabels:List UInt8
  fK:UInt8
  deriving DecidableEq
instance:Rep Tk:=Rep.via (β:=UInt8 × (List UInt8) × (List (UInt8 × UInt8)) × (List UInt8) × UInt8) fun x=>(x.fN,x.fG,x.fMore,x.fLabels,x.fK)
def ca_p (_n:Nat) (a0:Tk):Option Int:=
  some ((1 + ((a0.fN % (9:UInt8)).toNat):Nat):Int)
theorem ca_c (n:Nat) {L w} (_hL:hl L w) (a0:Tk) {v0_1:Value} (_h0_1:Rep.R w L [v0_1] a0.fG) {v0_2:Value} (_h0_2:Rep.R w L [v0_2] a0.fMore) {v0_3:Value} (_h0_3:Rep.R w L [v0_3] a0.fLabels)  {r:Int} (h:ca_p n a0 = some r) :
 Cl 34 #[.agg #[.int .u8 (a0.fN.toNat:Int),v0_1,v0_2,v0_3,.int .u8 (a0.fK.toNat:Int)]] w (ah w fun _ u=>u = vI r):=by
 unfold ca_p at h
 refine AG func34 rfl rfl rfl fun _ cs0 hb0=>Ac<|RG.bx (Az w) rfl rfl fun j0 c0 b0 d0=>Af rfl<|Aa<|Ac<|AX 0 rfl<|AR rfl ((b0.memA .hd) 0 _ rfl)<|Ab (FV.rem8 (a:=a0.fN) (b:=(9:UInt8)) rfl rfl (by decide)) ?_
 have g0:=(a0.fN % (9:UInt8)).toNat_lt
 refine Ab (FV.convN (i:=(a0.fN % (9:UInt8)).toNat) underlying5 underlying3 rfl (by omega))<|Ab (Bn (i:=1) (j:=(a0.fN % (9:UInt8)).toNat) rfl rfl (by omega))<|Af rfl<|Aa<|Al rfl<|AY hb0 func34 rfl rfl ?_
 cases h
 exact b0.gv
def bK_p (_n:Nat) (a0:Tk) (a1:Int):Option Int:=
  (if a1 < ((a0.fLabels.length:Nat):Int) then (idx a0.fLabels a1).bind fun b0=>some ((b0.toNat:Nat):Int) else some (0:Int))
theorem bK_c (n:Nat) {L w} (_hL:hl L w) (a0:Tk) {v0_1:Value} (_h0_1:Rep.R w L [v0_1] a0.fG) {v0_2:Value} (_h0_2:Rep.R w L [v0_2] a0.fMore) {v0_3:Value} (h0_3:Rep.R w L [v0_3] a0.fLabels) {a1:Int}  {r:Int} (h:bK_p n a0 a1 = some r) :
 Cl 35 #[.agg #[.int .u8 (a0.fN.toNat:Int),v0_1,v0_2,v0_3,.int .u8 (a0.fK.toNat:Int)],vI a1] w (ah w fun _ u=>u = vI r):=by
 unfold bK_p at h
 refine AG func35 rfl rfl rfl fun _ cs0 hb0=>Ac<|RG.bx (Az w) rfl rfl fun E0 z0 b0 B0=>Af rfl<|Aa<|Ai<|Ac<|Ae rfl<|AX 3 rfl<|AR rfl ((b0.memA .hd) 3 _ rfl) ?_
 have c0:=AS h0_3 b0
 have C0:a0.fLabels.length <= 281474976710656:=Ba c0
 refine Ab (Bg (xs:=a0.fLabels) underlying22 rfl c0)<|Ab (BK (i:=a1) (j:=((a0.fLabels.length:Nat):Int)) rfl rfl)<|Aa<|AT rfl h (fun g0 h=>?_) (fun g0 h=>?_)
 refine Ac<|AX 3 rfl<|AR rfl ((b0.memA .hd) 3 _ rfl)<|Ae rfl<|bk h fun d0 v0 h=>?_
 obtain ⟨q0,x0⟩:=aA v0
 obtain ⟨y0,A0,k0,s0,j0,u0,t0⟩:=Bk c0 x0
 have p0:j0 = [.int .u8 (d0.toNat:Int)]:=u0; subst p0
 refine Ab (Bj 1 (a1.toNat) rfl k0 rfl q0 s0)<|AR rfl (t0 0 _ rfl) ?_
 have D0:=d0.toNat_lt
 refine Ab (FV.convN (i:=d0.toNat) underlying5 underlying3 rfl (by omega))<|Af rfl<|Aa<|Al rfl<|AY hb0 func35 rfl rfl ?_
 cases h
 exact b0.gv
 refine Ar<|Ac<|Af rfl<|Aa<|Al rfl<|AY hb0 func35 rfl rfl ?_
 cases h
 exact b0.gv
def bf_l1 (_n:Nat) (a0:List Int) (a1:Int) (d0:Nat -> Option (Bool ⊕ Unit)):Nat -> Option (Bool ⊕ Unit)
  | b0=>(if b0 < a0.length then (a0[b0]?).bind fun c0=>(if c0 < 0 then some (.inl false) else (if a1 <= c0 then some (.inl false) else d0 (b0 + 1))) else some (.inr ()))
def bf_p (n:Nat) (a0:List Int) (a1:Int):Option Bool:=
  thn (am (bf_l1 n a0 a1) n 0) (fun _=>(if 1 <= a0.length then some (decide (a0.length <= 64)) else some false))
theorem bf_c (n:Nat) {L w} (_hL:hl L w) {a0:List Int} {v0_0:Value} (h0_0:Rep.R w L [v0_0] a0) {a1:Int}  {r:Bool} (h:bf_p n a0 a1 = some r) :
 Cl 87 #[v0_0,vI a1] w (ah w fun _ u=>u = .bool r):=by
 unfold bf_p at h
 refine AG func87 rfl rfl rfl fun _ cs0 hb0=>Ac<|Af rfl<|Aa<|Ai<|Ac<|Af rfl<|Aa<|AA<|tn h fun I0 B0 g0=>MX.lo (α:=Nat) (fun b0=>[(0,v0_0),(1,vI a1),(5,vI ((b0:Nat):Int))]) (fun b0=>[]) (fun b0=>b0) 0 B0 (Az w) ?_
 rintro F0 b0 J0 y0 c0 z0 h
 unfold bf_l1 at h
 try dsimp only at h
 refine Ai<|Ac<|Ae rfl<|Ae rfl ?_
 have d0:=AS h0_0 c0
 have H0:a0.length <= 281474976710656:=Ba d0
 refine Ab (Bg (xs:=a0) underlying41 rfl d0)<|Ab (Bq (i:=b0) (j:=a0.length) rfl rfl)<|Aa<|AT rfl h (fun s0 h=>?_) (fun s0 h=>?_)
 refine Ar<|Ai<|AA<|Ac<|Ae rfl<|Ae rfl<|bk h fun j0 D0 h=>?_
 obtain ⟨E0,G0,k0,p0,x0,C0,q0⟩:=Bk d0 D0
 have A0:x0 = [vI j0]:=C0; subst A0
 refine Ab (Bj 1 b0 rfl k0 rfl rfl p0)<|AR rfl (q0 0 _ rfl)<|Ab (BK (i:=j0) (j:=0) rfl rfl)<|Ae rfl<|BA (s:=17) rfl h (fun t0 h=>?_) (fun t0 h=>?_)
 refine Au<|Au<|Au<|Au<|Au<|Au<|Bm rfl rfl<|Aa<|Bb rfl<|Ac<|Af rfl<|Aa ?_
 have h:=au h g0
 refine Al rfl<|AY hb0 func87 rfl rfl ?_
 cases h
 exact c0.gv
 refine AH (Ak rfl)<|AH (Ak rfl)<|AH (Bj 1 b0 rfl k0 rfl rfl p0)<|AH (AL rfl (q0 0 _ rfl))<|AH (Ak rfl)<|AH (FV.geq (i:=j0) (j:=a1) rfl rfl)<|Bv rfl rfl<|Aa<|AT rfl h (fun u0 h=>?_) (fun u0 h=>?_)
 refine Ac<|Af rfl<|Aa ?_
 have h:=au h g0
 refine Al rfl<|AY hb0 func87 rfl rfl ?_
 cases h
 exact c0.gv
 refine Ar<|AC<|Ao<|Ae rfl<|Ab (Bn (i:=b0) (j:=1) rfl rfl (by omega))<|Af rfl<|Aa<|y0 (b0 + 1) c0 z0 h
 refine Be rfl ?_
 have h:=aF h g0
 try dsimp only at h
 refine Ac<|Ae rfl<|Ab (Bg (xs:=a0) underlying41 rfl d0)<|Ab (FV.geqN (i:=a0.length) (j:=1) rfl rfl)<|Ae rfl<|BA (s:=28) rfl h (fun v0 h=>?_) (fun v0 h=>?_)
 refine AH (Ak rfl)<|AH (Bg (xs:=a0) underlying41 rfl d0)<|AH (FV.leqN (i:=a0.length) (j:=64) rfl rfl)<|Bm rfl rfl<|Af rfl<|Aa<|Al rfl<|AY hb0 func87 rfl rfl ?_
 cases h
 exact c0.gv
 refine Au<|Au<|Au<|Bv rfl rfl<|Af rfl<|Aa<|Al rfl<|AY hb0 func87 rfl rfl ?_
 cases h
 exact c0.gv
def bq_l1 (_n:Nat) (a0:List Int) (q0:Int × Nat × (List Int) × (List Int) -> Option (List Int)):Int × Nat × (List Int) × (List Int) -> Option (List Int)
  | (g0,b0,k0,d0)=>(if b0 < a0.length then (a0[b0]?).bind fun c0=>(idx d0 c0).bind fun t0=>jn (fun (y0,p0)=>(idx p0 c0).bind fun u0=>(app k0 ([u0]:List Int)).bind fun v0=>q0 (y0,b0 + 1,v0,p0)) (fun j0=>(if t0 < 0 then (put d0 ((c0.toNat:Nat):Int) g0).bind fun x0=>(chk (g0 + 1)).bind fun s0=>j0 (s0,x0) else j0 (g0,d0))) else some k0)
def bq_p (n:Nat) (a0:List Int):Option ((List Int) × Int):=
  (bf_p n a0 (8:Int)).bind fun y1=>(if y1 = true then Option.bind (am (bq_l1 n a0) n (0,0,([]:List Int),([(-1:Int),(-1:Int),(-1:Int),(-1:Int),(-1:Int),(-1:Int),(-1:Int),(-1:Int)]:List Int))) (fun b0=>some (b0,(0:Int))) else some (([]:List Int),(210:Int)))
theorem bq_c (n:Nat) {L w} (hL:hl L w) {a0:List Int} {v0_0:Value} (h0_0:Rep.R w L [v0_0] a0)  {r:(List Int) × Int} (h:bq_p n a0 = some r) :
 Cl 36 #[v0_0] w (ah w fun w' u=>∃ v0_0:Value,u = .tuple #[v0_0,vI r.2]/\Rep.R w' L [v0_0] r.1):=by
 unfold bq_p at h
 have hS0:=Az w
 refine AG func36 rfl rfl rfl fun _ cs0 hb0=>Ac<|Af rfl<|Af rfl<|Aa<|Ai<|Ac<|Ae rfl<|bk h fun y1 hy1 h=>Bi (.bool y1) (bd 87) rfl (e2 rfl rfl) (fun p q=>bf_c n (hS0.hL0 hL q) (hS0.kd h0_0 q) hy1) rfl<|Ab (Bp rfl)<|Aa<|BW rfl h (fun c2 h=>?_) (fun c2 h=>?_)
 refine Ar<|Ac<|Aj .plain rfl (AN (α:=Int) (xs:=([(-1:Int),(-1:Int),(-1:Int),(-1:Int),(-1:Int),(-1:Int),(-1:Int),(-1:Int)]:List Int)) (vs:=[vI (-1),vI (-1),vI (-1),vI (-1),vI (-1),vI (-1),vI (-1),vI (-1)]) (ds' :=[vI (-1),vI (-1),vI (-1),vI (-1),vI (-1),vI (-1),vI (-1),vI (-1)]) rfl hS0 aw rfl (e8 rfl rfl rfl rfl rfl rfl rfl rfl) (by kernel_rfl) rfl) fun g3 v0 B0 Z2=>Af rfl<|Aa<|Ac<|Af rfl<|Aa<|Ac<|Af rfl<|Aa<|Ai<|Ac<|Af rfl<|Aa<|AA ?_
 have K0:=B0.nilRow 3 (Rep.size Int)
 obtain ⟨d3,p2,Z1⟩:=aq h
 refine MX.lf (α:=Int × Nat × (List Int) × (List Int) × Value × (List Value) × (List Value)) (fun ⟨u0,b0,d0,j0,c0,g0,k0⟩=>[(0,v0_0),(4,(vS v0 8)),(5,vI u0),(6,c0),(7,vI ((b0:Nat):Int))]) (fun ⟨u0,b0,d0,j0,c0,g0,k0⟩=>[rr w 3 Int c0 d0.length g0,rr w 3 Int (vS v0 8) j0.length k0]) (fun ⟨u0,b0,d0,j0,c0,g0,k0⟩ I0=>Cells I0 (bl [rr w 3 Int c0 d0.length g0,rr w 3 Int (vS v0 8) j0.length k0] ++ L) g0 d0/\Cells I0 (bl [rr w 3 Int c0 d0.length g0,rr w 3 Int (vS v0 8) j0.length k0] ++ L) k0 j0) (fun ⟨u0,b0,d0,j0,c0,g0,k0⟩=>(u0,b0,d0,j0)) (0,0,([]:List Int),([(-1:Int),(-1:Int),(-1:Int),(-1:Int),(-1:Int),(-1:Int),(-1:Int),(-1:Int)]:List Int),vN,[],[vI (-1),vI (-1),vI (-1),vI (-1),vI (-1),vI (-1),vI (-1),vI (-1)]) p2 K0 ⟨(AE (cs:=[]) (xs:=([]:List Int)) K0 L (AK _ _)),(AD (AE (cs:=[vI (-1),vI (-1),vI (-1),vI (-1),vI (-1),vI (-1),vI (-1),vI (-1)]) (xs:=(([(-1:Int),(-1:Int),(-1:Int),(-1:Int),(-1:Int),(-1:Int),(-1:Int),(-1:Int)]:List Int):List Int)) B0 L (Aw (cs:=[vI (-1)]) (ds:=[vI (-1),vI (-1),vI (-1),vI (-1),vI (-1),vI (-1),vI (-1)]) rfl (Aw (cs:=[vI (-1)]) (ds:=[vI (-1),vI (-1),vI (-1),vI (-1),vI (-1),vI (-1)]) rfl (Aw (cs:=[vI (-1)]) (ds:=[vI (-1),vI (-1),vI (-1),vI (-1),vI (-1)]) rfl (Aw (cs:=[vI (-1)]) (ds:=[vI (-1),vI (-1),vI (-1),vI (-1)]) rfl (Aw (cs:=[vI (-1)]) (ds:=[vI (-1),vI (-1),vI (-1)]) rfl (Aw (cs:=[vI (-1)]) (ds:=[vI (-1),vI (-1)]) rfl (Aw (cs:=[vI (-1)]) (ds:=[vI (-1)]) rfl (Aw (cs:=[vI (-1)]) (ds:=[]) rfl (AK _ _)))))))))) (St.nilRowT B0 3 (Rep.size Int)))⟩ ?_
 rintro M2 ⟨u0,b0,d0,j0,c0,g0,k0⟩ I0 F1 p0 J1 ⟨R0,E0⟩ h
 unfold bq_l1 at h
 try dsimp only at h
 refine Ai<|Ac<|Ae rfl<|Ae rfl ?_
 have H0:=AS h0_0 p0
 have c3:a0.length <= 281474976710656:=Ba H0
 refine Ab (Bg (xs:=a0) underlying41 rfl H0)<|Ab (Bq (i:=b0) (j:=a0.length) rfl rfl)<|Aa<|AT rfl h (fun v1 h=>?_) (fun v1 h=>?_)
 refine Ar<|Ai<|AA<|Ai<|Ac<|Ae rfl<|Ae rfl<|Ae rfl<|bk h fun y0 g1 h=>?_
 obtain ⟨J2,R2,V0,Y0,z1,q2,b1⟩:=Bk H0 g1
 have R1:z1 = [vI y0]:=q2; subst R1
 refine Ab (Bj 1 b0 rfl V0 rfl rfl Y0)<|AR rfl (b1 0 _ rfl)<|bk h fun k1 z2 h=>?_
 obtain ⟨X0,A2⟩:=aA z2
 obtain ⟨p1,U2,A0,G0,A1,s2,g2⟩:=St.nth (α:=Int) p0 .t1 E0 A2
 obtain ⟨s1,V2,W0⟩:=BJ (α:=Int) p0 .t1 G0
 obtain rfl:p1 = ⟨s1,0,none⟩:=by rw [W0] at A0; cases A0; rfl
 have U1:A1 = [vI k1]:=s2; subst U1
 refine Ab (Bj 1 (y0.toNat) rfl A0 rfl X0 G0)<|AR rfl (g2 0 _ rfl)<|Ab (BK (i:=k1) (j:=0) rfl rfl)<|Aa<|MX.jf (α:=Int × (List Int) × (List Value)) (fun ⟨x0,q0,s0⟩=>[(0,v0_0),(4,(vS v0 8)),(5,vI x0),(6,c0),(7,vI ((b0:Nat):Int))]) (fun ⟨x0,q0,s0⟩=>[rr w 3 Int c0 d0.length g0,rr w 3 Int (vS v0 8) q0.length s0]) (fun ⟨x0,q0,s0⟩ j1=>Cells j1 (bl [rr w 3 Int c0 d0.length g0,rr w 3 Int (vS v0 8) q0.length s0] ++ L) s0 q0) (fun ⟨x0,q0,s0⟩=>(x0,q0)) p0 h ?_ ?_
 rintro ⟨x0,q0,s0⟩ j1 z0 M0 U0 h
 try dsimp only at h
 refine Ao<|Ae rfl<|Ae rfl<|Ae rfl<|Ae rfl ?_
 obtain ⟨K2,W2,V1,d2,B1,t2,j2⟩:=Bk (AS h0_0 z0) g1
 have W1:B1 = [vI y0]:=t2; subst W1
 refine Ab (Bj 1 b0 rfl V1 rfl rfl d2)<|AR rfl (j2 0 _ rfl)<|bk h fun t0 B2 h=>?_
 obtain ⟨b2,C2⟩:=aA B2
 obtain ⟨q1,X2,F0,Z0,C1,u2,k2⟩:=St.nth (α:=Int) z0 .t1 U0 C2
 obtain ⟨u1,Y2,X1⟩:=BJ (α:=Int) z0 .t1 Z0
 obtain rfl:q1 = ⟨u1,0,none⟩:=by rw [X1] at F0; cases F0; rfl
 have Y1:C1 = [vI t0]:=u2; subst Y1
 refine Ab (Bj 1 (y0.toNat) rfl F0 rfl b2 Z0)<|AR rfl (k2 0 _ rfl)<|Aj .plain rfl (jA t0 (vI t0) z0 jx (e1 rfl)) fun j3 Q2 C0 P0=>bk h fun H2 D2 h=>RG.doesL .plain rfl (Bo (α:=Int) (ys:=([t0]:List Int)) D2 C0 (fun _ _=>.t1) jx rfl rfl (AD R0 (Tt M0 P0)) (Src.row (α:=Int) C0 .hd (jC t0 (vI t0) C0 L rfl))) fun G2 k3 ⟨D1,G1,K1,P1⟩=>Af rfl<|Aa<|AC<|Ao<|Ae rfl<|Ab (Bn (i:=b0) (j:=1) rfl rfl (by omega))<|Af rfl<|Aa ?_
 obtain ⟨H1,Q0⟩:=AI G1 .d1
 have c1:=Tt P0 (Tt K1 Q0)
 exact F1 (x0,b0 + 1,H2,q0,G2,D1,s0) H1 (Tt J1 (Tt M0 c1)) ⟨(AD P1 Q0),(AD U0 c1)⟩ h
 intro P2 J0 h
 try dsimp only at h
 refine AT rfl h (fun x1 h=>?_) (fun x1 h=>?_)
 refine Ac<|Ae rfl<|Ae rfl<|Ae rfl<|Ab (Bj 1 b0 rfl V0 rfl rfl Y0)<|AR rfl (b1 0 _ rfl)<|Ae rfl<|Ab (Bj 1 (y0.toNat) rfl A0 rfl X0 G0)<|bk h fun I2 E2 h=>RG.acts' .plain (Acts.set (α:=Int) (i:=y0.toNat) E2 p0 W0 (fun _=>.t1) E0 rfl rfl rfl rfl rfl rfl) fun p3 ⟨E1,I1,M1,Q1⟩=>Aa<|Ao<|Ae rfl<|bk h fun F2 y2 h=>Ab (BE (i:=u0) (j:=1) rfl rfl y2)<|Af rfl<|Aa<|J0 (F2,I2,E1) I1 M1 Q1 h
 refine Ar<|J0 (u0,j0,k0) p0 (Bw _ _) E0 h
 refine Be rfl ?_
 have h:=Z1 _ h
 try dsimp only at h
 refine Ac<|Ae rfl<|Af rfl<|Af rfl<|Aa<|Al rfl ?_
 have D0:=Br p0 .hd
 have b3:=Bs p0 .hd
 have v2:=Bu (α:=Int) (v:=c0) (xs:=d0) D0 L (Bf (α:=Int) p0 .hd R0 hL)
 refine Ap hb0 func36 rfl (.cons (.tmp rfl) (.cons (.tmp rfl) .nil)) rfl ?_
 cases h
 exact ⟨D0.ag,fun p q=>⟨c0,rfl,D0.kd v2 q⟩⟩
 refine Ac<|Af rfl<|Af rfl<|Aa<|Al rfl ?_
 have x2:=BS (α:=Int) hS0 L
 refine Ap hb0 func36 rfl (.cons (.tmp rfl) (.cons (.tmp rfl) .nil)) rfl ?_
 cases h
 exact ⟨hS0.ag,fun p q=>⟨vN,rfl,hS0.kd x2 q⟩⟩
def aj_l1 (_n:Nat) (c0:(List Int) × Int) (g0:Int × Nat -> Option Int):Int × Nat -> Option Int
  | (d0,b0)=>(if b0 < c0.1.length then (c0.1[b0]?).bind fun k0=>(chk (k0 + 1)).bind fun j0=>g0 (max d0 j0,b0 + 1) else some d0)
def aj_l2 (n:Nat) (a0:Tk) (d0:Int × (List Int) -> Option (List Int)):Int × (List Int) -> Option (List Int)
  | (b0,c0)=>(ca_p n a0).bind fun p0=>(if b0 < p0 then (bK_p n a0 b0).bind fun q0=>(bQ q0 ((1 + ((a0.fK % (8:UInt8)).toNat):Nat):Int)).bind fun j0=>(app c0 ([j0]:List Int)).bind fun k0=>(chk (b0 + 1)).bind fun g0=>d0 (g0,k0) else some c0)
def aj_p (n:Nat) (a0:Tk):Option ((List Int) × Int):=
  Option.bind (am (aj_l2 n a0) n (0,([]:List Int))) (fun c0=>(bq_p n c0).bind fun b0=>Option.bind (am (aj_l1 n b0) n (0,0)) (fun d0=>some (b0.1,d0)))
theorem aj_c (n:Nat) {L w} (hL:hl L w) (a0:Tk) {v0_1:Value} (h0_1:Rep.R w L [v0_1] a0.fG) {v0_2:Value} (h0_2:Rep.R w L [v0_2] a0.fMore) {v0_3:Value} (h0_3:Rep.R w L [v0_3] a0.fLabels)  {r:(List Int) × Int} (h:aj_p n a0 = some r) :
 Cl 7 #[.agg #[.int .u8 (a0.fN.toNat:Int),v0_1,v0_2,v0_3,.int .u8 (a0.fK.toNat:Int)]] w (ah w fun w' u=>∃ v0_0:Value,u = .tuple #[v0_0,vI r.2]/\Rep.R w' L [v0_0] r.1):=by
 unfold aj_p at h
 refine AG func7 rfl rfl rfl fun _ cs0 hb0=>Ac<|RG.bx (Az w) rfl rfl fun u2 x0 C0 d2=>Af rfl<|Af rfl<|Aa<|Ac<|Af rfl<|Aa<|Ai<|Ac<|Af rfl<|Aa<|AA ?_
 have D0:=C0.nilRow 3 (Rep.size Int)
 have g2:=St.nilRowT C0 3 (Rep.size Int)
 obtain ⟨q2,C1,y1⟩:=aq h
 refine MX.lf (α:=Int × (List Int) × Value × (List Value)) (fun ⟨q0,j0,p0,s0⟩=>[(1,vP x0),(4,p0),(5,vI q0)]) (fun ⟨q0,j0,p0,s0⟩=>[rr w 3 Int p0 j0.length s0,.cells x0 [.int .u8 (a0.fN.toNat:Int),v0_1,v0_2,v0_3,.int .u8 (a0.fK.toNat:Int)] 25]) (fun ⟨q0,j0,p0,s0⟩ K0=>Cells K0 (bl [rr w 3 Int p0 j0.length s0,.cells x0 [.int .u8 (a0.fN.toNat:Int),v0_1,v0_2,v0_3,.int .u8 (a0.fK.toNat:Int)] 25] ++ L) s0 j0) (fun ⟨q0,j0,p0,s0⟩=>(q0,j0)) (0,([]:List Int),vN,[]) C1 D0 (AE (cs:=[]) (xs:=([]:List Int)) D0 L (AK _ _)) ?_
 rintro X1 ⟨q0,j0,p0,s0⟩ K0 Y0 b0 p1 H0 h
 unfold aj_l2 at h
 try dsimp only at h
 refine Ai<|Ac<|Ae rfl<|Ab (AF rfl (b0.memA .t1))<|bk h fun P0 M1 h=>Bi (vI P0) (bd 34) rfl (e1 rfl) (fun p q=>ca_c n (b0.hL0 hL q) a0 (b0.k0 h0_1 q) (b0.k0 h0_2 q) (b0.k0 h0_3 q) M1) rfl<|Ab (BK (i:=q0) (j:=P0) rfl rfl)<|Aa<|AT rfl h (fun U0 h=>?_) (fun U0 h=>?_)
 refine Ar<|Ai<|AA<|du 11 fun c0 d0=>Rv 0 c0 rfl d0 (fun _=>Ak rfl)<|Rx 1 7688 c0 rfl d0 (AF rfl (b0.memA .t1))<|Rv 2 c0 rfl d0 (fun _=>Ak rfl)<|bk h fun Q0 P1 h=>BG 3 15 7680 (vI Q0) c0 rfl d0 (bd 35) rfl (e2 rfl rfl) (fun p q=>bK_c n (b0.hL0 hL q) a0 (b0.k0 h0_1 q) (b0.k0 h0_2 q) (b0.k0 h0_3 q) P1) rfl<|Rv 4 c0 rfl d0 (fun _=>AU 4 rfl)<|Rx 5 8128 c0 rfl d0 (AL rfl ((b0.memA .t1) 4 _ rfl))<|Rv 6 c0 rfl d0 (fun _=>FV.rem8 (a:=a0.fK) (b:=(8:UInt8)) rfl rfl (by decide)) ?_
 have k2:=(a0.fK % (8:UInt8)).toNat_lt
 refine Rv 7 c0 rfl d0 (fun _=>FV.convN (i:=(a0.fK % (8:UInt8)).toNat) underlying5 underlying3 rfl (by omega))<|Rv 8 c0 rfl d0 (fun _=>Bn (i:=1) (j:=(a0.fK % (8:UInt8)).toNat) rfl rfl (by omega))<|bk h fun t0 H1 h=>Rv 9 c0 rfl d0 (fun _=>FV.remc (i:=Q0) (j:=((1 + ((a0.fK % (8:UInt8)).toNat):Nat):Int)) rfl rfl H1)<|BV 10 2047 c0 rfl .plain rfl (jA t0 (vI t0) b0 jx (e1 rfl)) fun x2 Y1 y0 E0=>bk h fun U1 J1 h=>BT (i:=11) (rk c0) (BL (m' :=4095) (sk c0) rfl rfl .plain rfl (Bo (α:=Int) (ys:=([t0]:List Int)) J1 y0 (fun _ _=>.t1) jx rfl rfl (AD H0 E0) (Src.row (α:=Int) y0 .hd (jC t0 (vI t0) y0 L rfl))) (fun R1 t2 ⟨V0,Z0,j1,s1⟩=>?_))
 refine Rv 12 c0 rfl d0 (fun _=>Bh rfl)<|AM (dk c0)<|AC<|Ao<|Ae rfl<|bk h fun Q1 F1 h=>Ab (BE (i:=q0) (j:=1) rfl rfl F1)<|Af rfl<|Aa ?_
 obtain ⟨b1,F0⟩:=AI Z0 .d1
 exact Y0 (Q1,U1,R1,V0) b1 (Tt p1 (Tt E0 (Tt j1 F0))) (AD s1 F0) h
 refine Be rfl ?_
 have h:=y1 _ h
 try dsimp only at h
 refine Ac<|Ae rfl ?_
 have z0:=Br b0 .hd
 have b2:=Bs b0 .hd
 refine bk h fun B0 K1 h=>jE (bd 36) rfl (e1 rfl) (fun p q=>bq_c n (z0.hL hL q) (Aq (Bu (α:=Int) (v:=p0) (xs:=j0) z0 L (Bf (α:=Int) b0 .hd H0 hL)) q) K1) rfl fun v2 s2 q1 ⟨J0,hu_,D1⟩=>?_
 subst hu_
 obtain ⟨c1,c2⟩:=z0.agr q1
 refine Ae rfl<|Ab (Ah rfl rfl)<|Ab (Ah rfl rfl)<|Af rfl<|Aa<|Ac<|Af rfl<|Aa<|Ai<|Ac<|Af rfl<|Aa<|AA ?_
 obtain ⟨g1,k1⟩:=AI c1 .done
 obtain ⟨p2,B1,x1⟩:=aq h
 refine MX.lo (α:=Int × Nat) (fun ⟨u0,g0⟩=>[(4,J0),(6,vI u0),(7,vI ((g0:Nat):Int))]) (fun ⟨u0,g0⟩=>[]) (fun ⟨u0,g0⟩=>(u0,g0)) (0,0) B1 g1 ?_
 rintro W1 ⟨u0,g0⟩ y2 X0 A0 G0 h
 unfold aj_l1 at h
 try dsimp only at h
 refine Ai<|Ac<|Ae rfl<|Ae rfl ?_
 have v0:=Am D1 (Tt k1 G0)
 have j2:B0.1.length <= 281474976710656:=Ba v0
 refine Ab (Bg (xs:=B0.1) underlying41 rfl v0)<|Ab (Bq (i:=g0) (j:=B0.1.length) rfl rfl)<|Aa<|AT rfl h (fun R0 h=>?_) (fun R0 h=>?_)
 refine Ar<|Ai<|AA<|Ao<|Ae rfl<|Ae rfl<|Ae rfl<|bk h fun M0 I1 h=>?_
 obtain ⟨V1,Z1,u1,z1,W0,E1,A1⟩:=Bk v0 I1
 have v1:W0 = [vI M0]:=E1; subst v1
 refine Ab (Bj 1 g0 rfl u1 rfl rfl z1)<|AR rfl (A1 0 _ rfl)<|bk h fun I0 G1 h=>Ab (BE (i:=M0) (j:=1) rfl rfl G1)<|Ab (FV.max2 (i:=u0) (j:=I0) rfl rfl)<|Af rfl<|Aa<|AC<|Ao<|Ae rfl<|Ab (Bn (i:=g0) (j:=1) rfl rfl (by omega))<|Af rfl<|Aa<|X0 (max u0 I0,g0 + 1) A0 G0 h
 refine Be rfl ?_
 have h:=x1 _ h
 try dsimp only at h
 refine Ac<|Ae rfl<|Ae rfl<|Af rfl<|Af rfl<|Aa<|Al rfl<|Ap hb0 func7 rfl (.cons (.tmp rfl) (.cons (.tmp rfl) .nil)) rfl ?_
 cases h
 exact ⟨A0.ag,fun p q=>⟨J0,rfl,A0.kd v0 q⟩⟩
structure Ti where
  fj:UInt8
  fh:UInt8
  fl:UInt8
  fv:UInt8
  fNums:List UInt8
  deriving DecidableEq
instance:Rep Ti:=Rep.via (β:=UInt8 × UInt8 × UInt8 × UInt8 × (List UInt8)) fun x=>(x.fj,x.fh,x.fl,x.fv,x.fNums)
def aY_p (_n:Nat) (a0:Ti) (a1:Int):Option Int:=
  (if a0.fNums.length = 0 then some (1:Int) else (bQ a1 ((a0.fNums.length:Nat):Int)).bind fun b0=>(idx a0.fNums b0).bind fun c0=>some ((c0.toNat:Nat):Int))
theorem aY_c (n:Nat) {L w} (_hL:hl L w) (a0:Ti) {v0_4:Value} (h0_4:Rep.R w L [v0_4] a0.fNums) {a1:Int}  {r:Int} (h:aY_p n a0 a1 = some r) :
 Cl 37 #[.agg #[.int .u8 (a0.fj.toNat:Int),.int .u8 (a0.fh.toNat:Int),.int .u8 (a0.fl.toNat:Int),.int .u8 (a0.fv.toNat:Int),v0_4],vI a1] w (ah w fun _ u=>u = vI r):=by
 unfold aY_p at h
 refine AG func37 rfl rfl rfl fun _ cs0 hb0=>Ac<|RG.bx (Az w) rfl rfl fun I0 D0 d0 F0=>Af rfl<|Aa<|Ai<|Ac<|AX 4 rfl<|AR rfl ((d0.memA .hd) 4 _ rfl) ?_
 have g0:=AS h0_4 d0
 have G0:a0.fNums.length <= 281474976710656:=Ba g0
 refine Ab (Bg (xs:=a0.fNums) underlying22 rfl g0)<|Ab (BM (i:=a0.fNums.length) (j:=0) rfl rfl)<|Aa<|AT rfl h (fun k0 h=>?_) (fun k0 h=>?_)
 refine Ac<|Af rfl<|Aa<|Al rfl<|AY hb0 func37 rfl rfl ?_
 cases h
 exact d0.gv
 refine Ar<|Ai<|du 11 fun b0 c0=>Rv 0 b0 rfl c0 (fun _=>AU 4 rfl)<|Rx 1 1920 b0 rfl c0 (AL rfl ((d0.memA .hd) 4 _ rfl))<|Rv 2 b0 rfl c0 (fun _=>Ak rfl)<|Rv 3 b0 rfl c0 (fun _=>AU 4 rfl)<|Rx 4 2016 b0 rfl c0 (AL rfl ((d0.memA .hd) 4 _ rfl))<|Rx 5 1984 b0 rfl c0 (Bg (xs:=a0.fNums) underlying22 rfl g0)<|bk h fun B0 y0 h=>Rv 6 b0 rfl c0 (fun _=>FV.remc (i:=a1) (j:=((a0.fNums.length:Nat):Int)) rfl rfl y0)<|bk h fun j0 z0 h=>?_
 obtain ⟨t0,A0⟩:=aA z0
 obtain ⟨C0,E0,q0,u0,p0,x0,v0⟩:=Bk g0 A0
 have s0:p0 = [.int .u8 (j0.toNat:Int)]:=x0; subst s0
 refine Rv 7 b0 rfl c0 (fun _=>Bj 1 (B0.toNat) rfl q0 rfl t0 u0)<|Rx 8 1536 b0 rfl c0 (AL rfl (v0 0 _ rfl)) ?_
 have H0:=j0.toNat_lt
 refine Rv 9 b0 rfl c0 (fun _=>FV.convN (i:=j0.toNat) underlying5 underlying3 rfl (by omega))<|Rv 10 b0 rfl c0 (fun _=>Bh rfl)<|AM (dk b0)<|Al rfl<|AY hb0 func37 rfl rfl ?_
 cases h
 exact d0.gv
def aE_l1 (n:Nat) (a1:Int) (a2:Int) (a0:Ti) (a3:Int) (d0:Int × (List Int) -> Option (List Int)):Int × (List Int) -> Option (List Int)
  | (b0,c0)=>(if b0 < a1 then (chk (a2 + b0)).bind fun j0=>(aY_p n a0 j0).bind fun p0=>(app c0 ([min p0 a3]:List Int)).bind fun k0=>(chk (b0 + 1)).bind fun g0=>d0 (g0,k0) else some c0)
def aE_p (n:Nat) (a0:Ti) (a1:Int) (a2:Int) (a3:Int):Option (List Int):=
  Option.bind (am (aE_l1 n a1 a2 a0 a3) n (0,([]:List Int))) (fun b0=>some b0)
theorem aE_c (n:Nat) {L w} (hL:hl L w) (a0:Ti) {v0_4:Value} (h0_4:Rep.R w L [v0_4] a0.fNums) {a1:Int} {a2:Int} {a3:Int}  {r:List Int} (h:aE_p n a0 a1 a2 a3 = some r) :
 Cl 38 #[.agg #[.int .u8 (a0.fj.toNat:Int),.int .u8 (a0.fh.toNat:Int),.int .u8 (a0.fl.toNat:Int),.int .u8 (a0.fv.toNat:Int),v0_4],vI a1,vI a2,vI a3] w (ah w fun w' u=>∃ v0_0:Value,u = v0_0/\Rep.R w' L [v0_0] r):=by
 unfold aE_p at h
 refine AG func38 rfl rfl rfl fun _ cs0 hb0=>Ac<|RG.bx (Az w) rfl rfl fun p1 q0 u0 c1=>Af rfl<|Aa<|Ac<|Af rfl<|Aa<|Ai<|Ac<|Af rfl<|Aa<|AA ?_
 have v0:=u0.nilRow 3 (Rep.size Int)
 have g1:=St.nilRowT u0 3 (Rep.size Int)
 obtain ⟨j1,K0,J0⟩:=aq h
 refine MX.lf (α:=Int × (List Int) × Value × (List Value)) (fun ⟨g0,c0,b0,j0⟩=>[(1,vI a1),(2,vI a2),(3,vI a3),(4,vP q0),(9,b0),(10,vI g0)]) (fun ⟨g0,c0,b0,j0⟩=>[rr w 3 Int b0 c0.length j0,.cells q0 [.int .u8 (a0.fj.toNat:Int),.int .u8 (a0.fh.toNat:Int),.int .u8 (a0.fl.toNat:Int),.int .u8 (a0.fv.toNat:Int),v0_4] 27]) (fun ⟨g0,c0,b0,j0⟩ A0=>Cells A0 (bl [rr w 3 Int b0 c0.length j0,.cells q0 [.int .u8 (a0.fj.toNat:Int),.int .u8 (a0.fh.toNat:Int),.int .u8 (a0.fl.toNat:Int),.int .u8 (a0.fv.toNat:Int),v0_4] 27] ++ L) j0 c0) (fun ⟨g0,c0,b0,j0⟩=>(g0,c0)) (0,([]:List Int),vN,[]) K0 v0 (AE (cs:=[]) (xs:=([]:List Int)) v0 L (AK _ _)) ?_
 rintro Y0 ⟨g0,c0,b0,j0⟩ A0 D0 p0 G0 z0 h
 unfold aE_l1 at h
 try dsimp only at h
 refine Ai<|Ac<|Ae rfl<|Ae rfl<|Ab (BK (i:=g0) (j:=a1) rfl rfl)<|Aa<|AT rfl h (fun B0 h=>?_) (fun B0 h=>?_)
 refine Ar<|Ai<|AA<|Ao<|Ae rfl<|Ab (AF rfl (p0.memA .t1))<|Ae rfl<|Ae rfl<|bk h fun k1 Q0 h=>Ab (BE (i:=a2) (j:=g0) rfl rfl Q0)<|bk h fun d0 U0 h=>Bi (vI d0) (bd 37) rfl (e2 rfl rfl) (fun p q=>aY_c n (p0.hL0 hL q) a0 (p0.k0 h0_4 q) U0) rfl<|Ae rfl<|Ab (FV.min2 (i:=d0) (j:=a3) rfl rfl)<|Aj .plain rfl (jA (min d0 a3) (vI (min d0 a3)) p0 aw (e1 rfl)) fun q1 Z0 t0 y0=>bk h fun X0 R0 h=>RG.doesL .plain rfl (Bo (α:=Int) (ys:=([min d0 a3]:List Int)) R0 t0 (fun _ _=>.t1) aw rfl rfl (AD z0 y0) (Src.row (α:=Int) t0 .hd (jC (min d0 a3) (vI (min d0 a3)) t0 L rfl))) fun W0 s1 ⟨C0,F0,H0,I0⟩=>Af rfl<|Aa<|AC<|Ao<|Ae rfl<|bk h fun V0 P0 h=>Ab (BE (i:=g0) (j:=1) rfl rfl P0)<|Af rfl<|Aa ?_
 obtain ⟨E0,x0⟩:=AI F0 .d1
 exact D0 (V0,X0,W0,C0) E0 (Tt G0 (Tt y0 (Tt H0 x0))) (AD I0 x0) h
 refine Be rfl ?_
 have h:=J0 _ h
 try dsimp only at h
 refine Ac<|Ae rfl<|Af rfl<|Aa<|Al rfl ?_
 have s0:=Br p0 .hd
 have b1:=Bs p0 .hd
 have M0:=Bu (α:=Int) (v:=b0) (xs:=c0) s0 L (Bf (α:=Int) p0 .hd z0 hL)
 refine AY hb0 func38 rfl rfl ?_
 cases h
 exact ⟨s0.ag,fun p q=>⟨b0,rfl,s0.kd M0 q⟩⟩
end Go.Proofs.YtdolpanbfpjnmaaGreatDoor
