import Derived.Test.YtkhpmhhnolpcnaaGreatDoorVI4
namespace Go.Proofs.YtkhpmhhnolpcnaaGreatDoor
open Go Go.RowKit Tryz
set_option maxRecDepth 4000
set_option maxHeartbeats 4000000

structure Tsums where
  fw:Int
  fx:Int
  fy:Ta
  fa:Ta
  fb:Ta
  fc:Ta
  deriving DecidableEq
instance:Rep Tsums:=Rep.via (β:=Int × Int × Ta × Ta × Ta × Ta) fun x=>(x.fw,x.fx,x.fy,x.fa,x.fb,x.fc)
structure Tline where
  fF:Tsums
  fd:Ta
  fn:Ta
  deriving DecidableEq
instance:Rep Tline:=Rep.via (β:=Tsums × Ta × Ta) fun x=>(x.fF,x.fd,x.fn)
structure T146 where
  fw:Int
  fg:Int
  fy:Ta
  deriving DecidableEq
instance:Rep T146:=Rep.via (β:=Int × Int × Ta) fun x=>(x.fw,x.fg,x.fy)
theorem ex_Ta {a b:Ta} (h0:a.fN.1 = b.fN.1) (h1:a.fN.2.1 = b.fN.2.1) (h2:a.fN.2.2.1 = b.fN.2.2.1) (h3:a.fN.2.2.2.1 = b.fN.2.2.2.1) (h4:a.fN.2.2.2.2.1 = b.fN.2.2.2.2.1) (h5:a.fN.2.2.2.2.2.1 = b.fN.2.2.2.2.2.1) (h6:a.fN.2.2.2.2.2.2.1 = b.fN.2.2.2.2.2.2.1) (h7:a.fN.2.2.2.2.2.2.2 = b.fN.2.2.2.2.2.2.2) (h8:a.fD.1 = b.fD.1) (h9:a.fD.2.1 = b.fD.2.1) (b0:a.fD.2.2.1 = b.fD.2.2.1) (c0:a.fD.2.2.2.1 = b.fD.2.2.2.1) (d0:a.fD.2.2.2.2.1 = b.fD.2.2.2.2.1) (g0:a.fD.2.2.2.2.2.1 = b.fD.2.2.2.2.2.1) (j0:a.fD.2.2.2.2.2.2.1 = b.fD.2.2.2.2.2.2.1) (k0:a.fD.2.2.2.2.2.2.2 = b.fD.2.2.2.2.2.2.2):a = b:=congr (congrArg Ta.mk (jv (a:=a.fN) (b:=b.fN) h0 h1 h2 h3 h4 h5 h6 h7)) (jv (a:=a.fD) (b:=b.fD) h8 h9 b0 c0 d0 g0 j0 k0)
theorem aG (a b:Ta) (p:World):(do eqGuard .eql 42 (.tmp 0) (.tmp 0) (.agg #[vU a.fN.1,vU a.fN.2.1,vU a.fN.2.2.1,vU a.fN.2.2.2.1,vU a.fN.2.2.2.2.1,vU a.fN.2.2.2.2.2.1,vU a.fN.2.2.2.2.2.2.1,vU a.fN.2.2.2.2.2.2.2,vU a.fD.1,vU a.fD.2.1,vU a.fD.2.2.1,vU a.fD.2.2.2.1,vU a.fD.2.2.2.2.1,vU a.fD.2.2.2.2.2.1,vU a.fD.2.2.2.2.2.2.1,vU a.fD.2.2.2.2.2.2.2]) (.agg #[vU b.fN.1,vU b.fN.2.1,vU b.fN.2.2.1,vU b.fN.2.2.2.1,vU b.fN.2.2.2.2.1,vU b.fN.2.2.2.2.2.1,vU b.fN.2.2.2.2.2.2.1,vU b.fN.2.2.2.2.2.2.2,vU b.fD.1,vU b.fD.2.1,vU b.fD.2.2.1,vU b.fD.2.2.2.1,vU b.fD.2.2.2.2.1,vU b.fD.2.2.2.2.2.1,vU b.fD.2.2.2.2.2.2.1,vU b.fD.2.2.2.2.2.2.2]); binOp .eql 42 (.agg #[vU a.fN.1,vU a.fN.2.1,vU a.fN.2.2.1,vU a.fN.2.2.2.1,vU a.fN.2.2.2.2.1,vU a.fN.2.2.2.2.2.1,vU a.fN.2.2.2.2.2.2.1,vU a.fN.2.2.2.2.2.2.2,vU a.fD.1,vU a.fD.2.1,vU a.fD.2.2.1,vU a.fD.2.2.2.1,vU a.fD.2.2.2.2.1,vU a.fD.2.2.2.2.2.1,vU a.fD.2.2.2.2.2.2.1,vU a.fD.2.2.2.2.2.2.2]) (.agg #[vU b.fN.1,vU b.fN.2.1,vU b.fN.2.2.1,vU b.fN.2.2.2.1,vU b.fN.2.2.2.2.1,vU b.fN.2.2.2.2.2.1,vU b.fN.2.2.2.2.2.2.1,vU b.fN.2.2.2.2.2.2.2,vU b.fD.1,vU b.fD.2.1,vU b.fD.2.2.1,vU b.fD.2.2.2.1,vU b.fD.2.2.2.2.1,vU b.fD.2.2.2.2.2.1,vU b.fD.2.2.2.2.2.2.1,vU b.fD.2.2.2.2.2.2.2]):Sem Value).run Tryz.prog p = .ok (.bool (decide (a = b))) p:=
  eqAgg (ks:=[.int .u64,.int .u64,.int .u64,.int .u64,.int .u64,.int .u64,.int .u64,.int .u64,.int .u64,.int .u64,.int .u64,.int .u64,.int .u64,.int .u64,.int .u64,.int .u64]) (xs:=[vU a.fN.1,vU a.fN.2.1,vU a.fN.2.2.1,vU a.fN.2.2.2.1,vU a.fN.2.2.2.2.1,vU a.fN.2.2.2.2.2.1,vU a.fN.2.2.2.2.2.2.1,vU a.fN.2.2.2.2.2.2.2,vU a.fD.1,vU a.fD.2.1,vU a.fD.2.2.1,vU a.fD.2.2.2.1,vU a.fD.2.2.2.2.1,vU a.fD.2.2.2.2.2.1,vU a.fD.2.2.2.2.2.2.1,vU a.fD.2.2.2.2.2.2.2]) (ys:=[vU b.fN.1,vU b.fN.2.1,vU b.fN.2.2.1,vU b.fN.2.2.2.1,vU b.fN.2.2.2.2.1,vU b.fN.2.2.2.2.2.1,vU b.fN.2.2.2.2.2.2.1,vU b.fN.2.2.2.2.2.2.2,vU b.fD.1,vU b.fD.2.1,vU b.fD.2.2.1,vU b.fD.2.2.2.1,vU b.fD.2.2.2.2.1,vU b.fD.2.2.2.2.2.1,vU b.fD.2.2.2.2.2.2.1,vU b.fD.2.2.2.2.2.2.2]) (by kernel_rfl) (by kernel_rfl) (by kernel_rfl) rfl rfl ⟨fun h=>by
    simp only [bA,veq,Bool.and_eq_true,beq_iff_eq,and_true] at h
    obtain ⟨h0,h1,h2,h3,h4,h5,h6,h7,h8,h9,b0,c0,d0,g0,j0,k0⟩:=h
    exact ex_Ta (aw h0) (aw h1) (aw h2) (aw h3) (aw h4) (aw h5) (aw h6) (aw h7) (aw h8) (aw h9) (aw b0) (aw c0) (aw d0) (aw g0) (aw j0) (aw k0),fun h=>by subst h; simp [bA,veq]⟩ _ _ p
def aR_l1 (_n:Nat) (c0:Tb) (g0:Int × Nat -> Option Int):Int × Nat -> Option Int
  | (d0,b0)=>(if b0 < c0.fVotes.length then (c0.fVotes[b0]?).bind fun k0=>(chk (d0 + k0)).bind fun j0=>g0 (j0,b0 + 1) else some d0)
def aR_l2 (n:Nat) (a0:Tf) (a1:Int) (a2:Int) (b2:Nat × Int × Int × UInt64 × UInt64 × UInt64 × UInt64 × UInt64 × UInt64 × UInt64 × UInt64 × UInt64 × UInt64 × UInt64 × UInt64 × UInt64 × UInt64 × UInt64 × UInt64 × UInt64 × UInt64 × UInt64 × UInt64 × UInt64 × UInt64 × UInt64 × UInt64 × UInt64 × UInt64 × UInt64 × UInt64 × UInt64 × UInt64 × UInt64 × UInt64 × UInt64 × UInt64 × UInt64 × UInt64 × UInt64 × UInt64 × UInt64 × UInt64 × UInt64 × UInt64 × UInt64 × UInt64 × UInt64 × UInt64 × UInt64 × UInt64 × UInt64 × UInt64 × UInt64 × UInt64 × UInt64 × UInt64 × UInt64 × UInt64 × U8 -> Option ((Except Tc Tline) ⊕ (Int × Int × UInt64 × UInt64 × UInt64 × UInt64 × UInt64 × UInt64 × UInt64 × UInt64 × UInt64 × UInt64 × UInt64 × UInt64 × UInt64 × UInt64 × UInt64 × UInt64 × UInt64 × UInt64 × UInt64 × UInt64 × UInt64 × UInt64 × UInt64 × UInt64 × UInt64 × UInt64 × UInt64 × UInt64 × UInt64 × UInt64 × UInt64 × UInt64 × UInt64 × UInt64 × UInt64 × UInt64 × UInt64 × UInt64 × UInt64 × UInt64 × UInt64 × UInt64 × UInt64 × UInt64 × UInt64 × UInt64 × UInt64 × UInt64 × UInt64 × UInt64 × UInt64 × UInt64 × UInt64 × UInt64 × UInt64 × UInt64 × U8))):Nat × Int × Int × UInt64 × UInt64 × UInt64 × UInt64 × UInt64 × UInt64 × UInt64 × UInt64 × UInt64 × UInt64 × UInt64 × UInt64 × UInt64 × UInt64 × UInt64 × UInt64 × UInt64 × UInt64 × UInt64 × UInt64 × UInt64 × UInt64 × UInt64 × UInt64 × UInt64 × UInt64 × UInt64 × UInt64 × UInt64 × UInt64 × UInt64 × UInt64 × UInt64 × UInt64 × UInt64 × UInt64 × UInt64 × UInt64 × UInt64 × UInt64 × UInt64 × UInt64 × UInt64 × UInt64 × UInt64 × UInt64 × UInt64 × UInt64 × UInt64 × UInt64 × UInt64 × UInt64 × UInt64 × UInt64 × UInt64 × UInt64 × U8 -> Option ((Except Tc Tline) ⊕ (Int × Int × UInt64 × UInt64 × UInt64 × UInt64 × UInt64 × UInt64 × UInt64 × UInt64 × UInt64 × UInt64 × UInt64 × UInt64 × UInt64 × UInt64 × UInt64 × UInt64 × UInt64 × UInt64 × UInt64 × UInt64 × UInt64 × UInt64 × UInt64 × UInt64 × UInt64 × UInt64 × UInt64 × UInt64 × UInt64 × UInt64 × UInt64 × UInt64 × UInt64 × UInt64 × UInt64 × UInt64 × UInt64 × UInt64 × UInt64 × UInt64 × UInt64 × UInt64 × UInt64 × UInt64 × UInt64 × UInt64 × UInt64 × UInt64 × UInt64 × UInt64 × UInt64 × UInt64 × UInt64 × UInt64 × UInt64 × UInt64 × U8))
  | (k0,Y1,Z1,p0,q0,s0,t0,u0,v0,x0,y0,z0,A0,B0,C0,D0,E0,F0,G0,H0,I0,J0,K0,M0,P0,Q0,R0,U0,V0,W0,X0,Y0,Z0,b1,c1,d1,g1,j1,k1,p1,q1,s1,t1,u1,v1,x1,y1,z1,A1,B1,C1,D1,E1,F1,G1,H1,I1,J1,K1,M1,P1,Q1,R1,U1,V1,W1,X1)=>(if k0 < a0.fu.length then (a0.fu[k0]?).bind fun j0=>Option.bind (ao (aR_l1 n j0) n (0,0)) (fun j2=>(if j0.fv = true then b2 (k0 + 1,Y1,Z1,p0,q0,s0,t0,u0,v0,x0,y0,z0,A0,B0,C0,D0,E0,F0,G0,H0,I0,J0,K0,M0,P0,Q0,R0,U0,V0,W0,X0,Y0,Z0,b1,c1,d1,g1,j1,k1,p1,q1,s1,t1,u1,v1,x1,y1,z1,A1,B1,C1,D1,E1,F1,G1,H1,I1,J1,K1,M1,P1,Q1,R1,U1,V1,W1,X1) else (if j0.fA = 0 then b2 (k0 + 1,Y1,Z1,p0,q0,s0,t0,u0,v0,x0,y0,z0,A0,B0,C0,D0,E0,F0,G0,H0,I0,J0,K0,M0,P0,Q0,R0,U0,V0,W0,X0,Y0,Z0,b1,c1,d1,g1,j1,k1,p1,q1,s1,t1,u1,v1,x1,y1,z1,A1,B1,C1,D1,E1,F1,G1,H1,I1,J1,K1,M1,P1,Q1,R1,U1,V1,W1,X1) else (if j2 = 0 then b2 (k0 + 1,Y1,Z1,p0,q0,s0,t0,u0,v0,x0,y0,z0,A0,B0,C0,D0,E0,F0,G0,H0,I0,J0,K0,M0,P0,Q0,R0,U0,V0,W0,X0,Y0,Z0,b1,c1,d1,g1,j1,k1,p1,q1,s1,t1,u1,v1,x1,y1,z1,A1,B1,C1,D1,E1,F1,G1,H1,I1,J1,K1,M1,P1,Q1,R1,U1,V1,W1,X1) else (idx j0.fj a1).bind fun c2=>(idx j0.fVotes a2).bind fun F2=>(ab_p n F2 j2).bind fun U2=>exc U2 (fun d2=>(chk (Y1 + j0.fA)).bind fun D2=>(chk (Z1 + c2)).bind fun E2=>(ab_p n j0.fA (1:Int)).bind fun V2=>exc V2 (fun W2=>(ak_p n W2 d2).bind fun X2=>exc X2 (fun g2=>(aT_p n (⟨(p0,q0,s0,t0,u0,v0,x0,y0),(z0,A0,B0,C0,D0,E0,F0,G0)⟩:Ta) g2).bind fun Y2=>exc Y2 (fun g0=>(ab_p n c2 (1:Int)).bind fun Z2=>exc Z2 (fun b3=>(ab_p n c2 j0.fA).bind fun c3=>exc c3 (fun d3=>(ak_p n b3 d3).bind fun g3=>exc g3 (fun j3=>(aT_p n (⟨(H0,I0,J0,K0,M0,P0,Q0,R0),(U0,V0,W0,X0,Y0,Z0,b1,c1)⟩:Ta) j3).bind fun G2=>exc G2 (fun b0=>(ab_p n c2 (1:Int)).bind fun H2=>exc H2 (fun I2=>(ak_p n I2 d2).bind fun J2=>exc J2 (fun K2=>(aT_p n (⟨(d1,g1,j1,k1,p1,q1,s1,t1),(u1,v1,x1,y1,z1,A1,B1,C1)⟩:Ta) K2).bind fun M2=>exc M2 (fun c0=>(ak_p n g2 d2).bind fun P2=>exc P2 (fun Q2=>(aT_p n (⟨(D1,E1,F1,G1,H1,I1,J1,K1),(M1,P1,Q1,R1,U1,V1,W1,X1)⟩:Ta) Q2).bind fun R2=>exc R2 (fun d0=>b2 (k0 + 1,D2,E2,g0.fN.1,g0.fN.2.1,g0.fN.2.2.1,g0.fN.2.2.2.1,g0.fN.2.2.2.2.1,g0.fN.2.2.2.2.2.1,g0.fN.2.2.2.2.2.2.1,g0.fN.2.2.2.2.2.2.2,g0.fD.1,g0.fD.2.1,g0.fD.2.2.1,g0.fD.2.2.2.1,g0.fD.2.2.2.2.1,g0.fD.2.2.2.2.2.1,g0.fD.2.2.2.2.2.2.1,g0.fD.2.2.2.2.2.2.2,b0.fN.1,b0.fN.2.1,b0.fN.2.2.1,b0.fN.2.2.2.1,b0.fN.2.2.2.2.1,b0.fN.2.2.2.2.2.1,b0.fN.2.2.2.2.2.2.1,b0.fN.2.2.2.2.2.2.2,b0.fD.1,b0.fD.2.1,b0.fD.2.2.1,b0.fD.2.2.2.1,b0.fD.2.2.2.2.1,b0.fD.2.2.2.2.2.1,b0.fD.2.2.2.2.2.2.1,b0.fD.2.2.2.2.2.2.2,c0.fN.1,c0.fN.2.1,c0.fN.2.2.1,c0.fN.2.2.2.1,c0.fN.2.2.2.2.1,c0.fN.2.2.2.2.2.1,c0.fN.2.2.2.2.2.2.1,c0.fN.2.2.2.2.2.2.2,c0.fD.1,c0.fD.2.1,c0.fD.2.2.1,c0.fD.2.2.2.1,c0.fD.2.2.2.2.1,c0.fD.2.2.2.2.2.1,c0.fD.2.2.2.2.2.2.1,c0.fD.2.2.2.2.2.2.2,d0.fN.1,d0.fN.2.1,d0.fN.2.2.1,d0.fN.2.2.2.1,d0.fN.2.2.2.2.1,d0.fN.2.2.2.2.2.1,d0.fN.2.2.2.2.2.2.1,d0.fN.2.2.2.2.2.2.2,d0.fD.1,d0.fD.2.1,d0.fD.2.2.1,d0.fD.2.2.2.1,d0.fD.2.2.2.2.1,d0.fD.2.2.2.2.2.1,d0.fD.2.2.2.2.2.2.1,d0.fD.2.2.2.2.2.2.2)) (fun u2=>some (.inl (.error u2)))) (fun t2=>some (.inl (.error t2)))) (fun s2=>some (.inl (.error s2)))) (fun q2=>some (.inl (.error q2)))) (fun p2=>some (.inl (.error p2)))) (fun k2=>some (.inl (.error k2)))) (fun C2=>some (.inl (.error C2)))) (fun B2=>some (.inl (.error B2)))) (fun A2=>some (.inl (.error A2)))) (fun z2=>some (.inl (.error z2)))) (fun y2=>some (.inl (.error y2)))) (fun x2=>some (.inl (.error x2)))) (fun v2=>some (.inl (.error v2))))))) else some (.inr (Y1,Z1,H0,I0,J0,K0,M0,P0,Q0,R0,U0,V0,W0,X0,Y0,Z0,b1,c1,d1,g1,j1,k1,p1,q1,s1,t1,u1,v1,x1,y1,z1,A1,B1,C1,p0,q0,s0,t0,u0,v0,x0,y0,z0,A0,B0,C0,D0,E0,F0,G0,D1,E1,F1,G1,H1,I1,J1,K1,M1,P1,Q1,R1,U1,V1,W1,X1)))
def aR_p (n:Nat) (a0:Tf) (a1:Int) (a2:Int):Option (Except Tc Tline):=
  (aE_p n a0).bind fun A1=>(if A1 = 0 then (if a1 < 0 then some (.error (⟨(2:Int)⟩:Tc)) else (if a0.fj <= a1 then some (.error (⟨(2:Int)⟩:Tc)) else (if a2 < 0 then some (.error (⟨(2:Int)⟩:Tc)) else (if a0.fh <= a2 then some (.error (⟨(2:Int)⟩:Tc)) else (ab_p n (0:Int) (1:Int)).bind fun t2=>exc t2 (fun b0=>thn (ao (aR_l2 n a0 a1 a2) n (0,0,0,b0.fN.1,b0.fN.2.1,b0.fN.2.2.1,b0.fN.2.2.2.1,b0.fN.2.2.2.2.1,b0.fN.2.2.2.2.2.1,b0.fN.2.2.2.2.2.2.1,b0.fN.2.2.2.2.2.2.2,b0.fD.1,b0.fD.2.1,b0.fD.2.2.1,b0.fD.2.2.2.1,b0.fD.2.2.2.2.1,b0.fD.2.2.2.2.2.1,b0.fD.2.2.2.2.2.2.1,b0.fD.2.2.2.2.2.2.2,b0.fN.1,b0.fN.2.1,b0.fN.2.2.1,b0.fN.2.2.2.1,b0.fN.2.2.2.2.1,b0.fN.2.2.2.2.2.1,b0.fN.2.2.2.2.2.2.1,b0.fN.2.2.2.2.2.2.2,b0.fD.1,b0.fD.2.1,b0.fD.2.2.1,b0.fD.2.2.2.1,b0.fD.2.2.2.2.1,b0.fD.2.2.2.2.2.1,b0.fD.2.2.2.2.2.2.1,b0.fD.2.2.2.2.2.2.2,b0.fN.1,b0.fN.2.1,b0.fN.2.2.1,b0.fN.2.2.2.1,b0.fN.2.2.2.2.1,b0.fN.2.2.2.2.2.1,b0.fN.2.2.2.2.2.2.1,b0.fN.2.2.2.2.2.2.2,b0.fD.1,b0.fD.2.1,b0.fD.2.2.1,b0.fD.2.2.2.1,b0.fD.2.2.2.2.1,b0.fD.2.2.2.2.2.1,b0.fD.2.2.2.2.2.2.1,b0.fD.2.2.2.2.2.2.2,b0.fN.1,b0.fN.2.1,b0.fN.2.2.1,b0.fN.2.2.2.1,b0.fN.2.2.2.2.1,b0.fN.2.2.2.2.2.1,b0.fN.2.2.2.2.2.2.1,b0.fN.2.2.2.2.2.2.2,b0.fD.1,b0.fD.2.1,b0.fD.2.2.1,b0.fD.2.2.2.1,b0.fD.2.2.2.2.1,b0.fD.2.2.2.2.2.1,b0.fD.2.2.2.2.2.2.1,b0.fD.2.2.2.2.2.2.2)) (fun (C1,D1,D0,E0,F0,G0,H0,I0,J0,K0,M0,P0,Q0,R0,U0,V0,W0,X0,Y0,Z0,b1,c1,d1,g1,j1,k1,p1,q1,s1,t1,u1,v1,x1,y1,d0,g0,j0,k0,p0,q0,s0,t0,u0,v0,x0,y0,z0,A0,B0,C0,J1,K1,M1,P1,Q1,R1,U1,V1,W1,X1,Y1,Z1,b2,c2,d2,g2)=>(ab_p n C1 (1:Int)).bind fun j2=>exc j2 (fun z1=>(ab_p n D1 (1:Int)).bind fun k2=>exc k2 (fun c0=>(bw_p n z1 (⟨(D0,E0,F0,G0,H0,I0,J0,K0),(M0,P0,Q0,R0,U0,V0,W0,X0)⟩:Ta) c0 c0).bind fun p2=>exc p2 (fun B1=>(if B1 = b0 then some (.error (⟨(7:Int)⟩:Tc)) else (bw_p n z1 (⟨(Y0,Z0,b1,c1,d1,g1,j1,k1),(p1,q1,s1,t1,u1,v1,x1,y1)⟩:Ta) c0 (⟨(d0,g0,j0,k0,p0,q0,s0,t0),(u0,v0,x0,y0,z0,A0,B0,C0)⟩:Ta)).bind fun q2=>exc q2 (fun s2=>some (.ok (⟨(⟨C1,D1,(⟨(d0,g0,j0,k0,p0,q0,s0,t0),(u0,v0,x0,y0,z0,A0,B0,C0)⟩:Ta),(⟨(D0,E0,F0,G0,H0,I0,J0,K0),(M0,P0,Q0,R0,U0,V0,W0,X0)⟩:Ta),(⟨(Y0,Z0,b1,c1,d1,g1,j1,k1),(p1,q1,s1,t1,u1,v1,x1,y1)⟩:Ta),(⟨(J1,K1,M1,P1,Q1,R1,U1,V1),(W1,X1,Y1,Z1,b2,c2,d2,g2)⟩:Ta)⟩:Tsums),B1,s2⟩:Tline))) (fun H1=>some (.error H1)))) (fun G1=>some (.error G1))) (fun F1=>some (.error F1))) (fun E1=>some (.error E1)))) (fun I1=>some (.error I1)))))) else some (.error (⟨A1⟩:Tc)))
theorem aR_c (n:Nat) {L w} (hL:hl L w) (a0:Tf) {v0_3:Value} (h0_3:Rep.R w L [v0_3] a0.fu) {a1:Int} {a2:Int}  {r:Except Tc Tline} (h:aR_p n a0 a1 a2 = some r) :
 Cl 47 #[.agg #[vI a0.fj,vI a0.fh,vI a0.fl,v0_3],vI a1,vI a2] w (aD w (fun (y:Tline) _ u=>u = .agg ((([vI y.fF.fw,vI y.fF.fx]:List Value) ++ aa y.fF.fy ++ aa y.fF.fa ++ aa y.fF.fb ++ aa y.fF.fc ++ aa y.fd ++ aa y.fn)).toArray) (fun e=>.iface 116 (.agg #[vI e.fB])) r):=by
 unfold aR_p at h
 refine BF func47 rfl rfl rfl fun _ cs0 hb0 hp0=>Ac<|RG.bx (AB w) rfl rfl fun w11 W4 g7 b05=>RG.nl [vI 0,vI 0,vW 0,vW 0,vW 0,vW 0,vW 0,vW 0,vW 0,vW 0,vW 0,vW 0,vW 0,vW 0,vW 0,vW 0,vW 0,vW 0,vW 0,vW 0,vW 0,vW 0,vW 0,vW 0,vW 0,vW 0,vW 0,vW 0,vW 0,vW 0,vW 0,vW 0,vW 0,vW 0,vW 0,vW 0,vW 0,vW 0,vW 0,vW 0,vW 0,vW 0,vW 0,vW 0,vW 0,vW 0,vW 0,vW 0,vW 0,vW 0,vW 0,vW 0,vW 0,vW 0,vW 0,vW 0,vW 0,vW 0,vW 0,vW 0,vW 0,vW 0,vW 0,vW 0,vW 0,vW 0,vW 0,vW 0,vW 0,vW 0,vW 0,vW 0,vW 0,vW 0,vW 0,vW 0,vW 0,vW 0,vW 0,vW 0,vW 0,vW 0,vW 0,vW 0,vW 0,vW 0,vW 0,vW 0,vW 0,vW 0,vW 0,vW 0,vW 0,vW 0,vW 0,vW 0,vW 0,vW 0] g7 fun w16 D3 E2 c05=>Aa<|Ac<|Ab (AC rfl (E2.memA .t1))<|bk h fun B3 F01 h=>Bi (vI B3) (bd 77) rfl (e1 rfl) (fun p q=>aE_c n (E2.hL0 hL q) a0 (E2.k0 h0_3 q) F01) rfl<|Bk (fst:=[]) (cap:=[]) (vs:=[vI B3]) .plain (bd 53) func53 rfl rfl rfl rfl (e1 rfl) rfl fun B02 j00 R00=>Ac<|Ae rfl<|Ab (FV.neq (i:=B3) (j:=0) rfl rfl)<|Aa<|MX.ifn rfl h (fun B5 h=>?_) (fun B5 h=>?_)
 refine Au<|MX.fin rfl<|Ap (u:=.tuple #[]) j00 func53 rfl .nil rfl<|Aa<|Ac<|Ae rfl<|Ab (FV.lss (i:=a1) (j:=0) rfl rfl)<|Ae rfl<|RG.ifd (s:=20) rfl h (fun D5 h=>?_) (fun D5 h=>?_)
 refine AL<|AL<|AL<|AL<|RG.pt rfl rfl<|Ae rfl<|AL<|AL<|RG.pt rfl rfl<|Ae rfl<|AL<|AL<|AL<|AL<|RG.pt rfl rfl<|Bk (fst:=[]) (cap:=[]) (vs:=[.bool true,vI 2]) .plain (bd 29) func29 rfl rfl rfl rfl (e2 rfl rfl) rfl fun E02 D06 W00=>Ac<|Ae rfl<|Aa<|Be rfl<|Am<|Ae rfl<|Bk (fst:=[]) (cap:=[]) (vs:=[vI 2]) .plain (bd 53) func53 rfl rfl rfl rfl (e1 rfl) rfl fun F02 E06 X00=>Ac<|Ae rfl<|Ab (FV.neqN (i:=2) (j:=0) rfl rfl)<|Aa<|Be rfl<|Am<|Ae rfl<|Ab (AO (vs:=[vI 2]) (u:=.agg #[vI 2]) (e1 rfl) (fun p=>by kernel_rfl))<|Ab (Bw rfl rfl)<|RG.panic .plain rfl<|Aq X00 func53<|Aq W00 func29 ?_
 cases h
 exact Aq hp0 func47 ⟨E2.ag,rfl⟩
 refine AX (Ak rfl)<|RG.fg 0 rfl<|AX (AQ rfl ((E2.memA .t1) 0 _ rfl))<|AX (FV.geq (i:=a1) (j:=a0.fj) rfl rfl)<|RG.pf rfl rfl<|Ae rfl<|RG.ifd (s:=26) rfl h (fun E5 h=>?_) (fun E5 h=>?_)
 refine AL<|AL<|RG.pt rfl rfl<|Ae rfl<|AL<|AL<|AL<|AL<|RG.pt rfl rfl<|Bk (fst:=[]) (cap:=[]) (vs:=[.bool true,vI 2]) .plain (bd 29) func29 rfl rfl rfl rfl (e2 rfl rfl) rfl fun G02 F06 Y00=>Ac<|Ae rfl<|Aa<|Be rfl<|Am<|Ae rfl<|Bk (fst:=[]) (cap:=[]) (vs:=[vI 2]) .plain (bd 53) func53 rfl rfl rfl rfl (e1 rfl) rfl fun H02 G06 Z00=>Ac<|Ae rfl<|Ab (FV.neqN (i:=2) (j:=0) rfl rfl)<|Aa<|Be rfl<|Am<|Ae rfl<|Ab (AO (vs:=[vI 2]) (u:=.agg #[vI 2]) (e1 rfl) (fun p=>by kernel_rfl))<|Ab (Bw rfl rfl)<|RG.panic .plain rfl<|Aq Z00 func53<|Aq Y00 func29 ?_
 cases h
 exact Aq hp0 func47 ⟨E2.ag,rfl⟩
 refine AX (Ak rfl)<|AX (FV.lss (i:=a2) (j:=0) rfl rfl)<|RG.pf rfl rfl<|Ae rfl<|RG.ifd (s:=30) rfl h (fun F5 h=>?_) (fun F5 h=>?_)
 refine AL<|AL<|AL<|AL<|RG.pt rfl rfl<|Bk (fst:=[]) (cap:=[]) (vs:=[.bool true,vI 2]) .plain (bd 29) func29 rfl rfl rfl rfl (e2 rfl rfl) rfl fun I02 H06 b01=>Ac<|Ae rfl<|Aa<|Be rfl<|Am<|Ae rfl<|Bk (fst:=[]) (cap:=[]) (vs:=[vI 2]) .plain (bd 53) func53 rfl rfl rfl rfl (e1 rfl) rfl fun J02 I06 c01=>Ac<|Ae rfl<|Ab (FV.neqN (i:=2) (j:=0) rfl rfl)<|Aa<|Be rfl<|Am<|Ae rfl<|Ab (AO (vs:=[vI 2]) (u:=.agg #[vI 2]) (e1 rfl) (fun p=>by kernel_rfl))<|Ab (Bw rfl rfl)<|RG.panic .plain rfl<|Aq c01 func53<|Aq b01 func29 ?_
 cases h
 exact Aq hp0 func47 ⟨E2.ag,rfl⟩
 refine AX (Ak rfl)<|RG.fg 1 rfl<|AX (AQ rfl ((E2.memA .t1) 1 _ rfl))<|AX (FV.geq (i:=a2) (j:=a0.fh) rfl rfl)<|RG.pf rfl rfl<|Bk (fst:=[]) (cap:=[]) (vs:=[.bool (decide (a0.fh <= a2)),vI 2]) .plain (bd 29) func29 rfl rfl rfl rfl (e2 rfl rfl) rfl fun K02 p00 d01=>Ac<|Ae rfl<|Aa<|AW rfl h (fun G5 h=>?_) (fun G5 h=>?_)
 refine Am<|Ae rfl<|Bk (fst:=[]) (cap:=[]) (vs:=[vI 2]) .plain (bd 53) func53 rfl rfl rfl rfl (e1 rfl) rfl fun M02 J06 g01=>Ac<|Ae rfl<|Ab (FV.neqN (i:=2) (j:=0) rfl rfl)<|Aa<|Be rfl<|Am<|Ae rfl<|Ab (AO (vs:=[vI 2]) (u:=.agg #[vI 2]) (e1 rfl) (fun p=>by kernel_rfl))<|Ab (Bw rfl rfl)<|RG.panic .plain rfl<|Aq g01 func53<|Aq d01 func29 ?_
 cases h
 exact Aq hp0 func47 ⟨E2.ag,rfl⟩
 refine Au<|MX.fin rfl<|Ap (u:=.tuple #[]) p00 func29 rfl .nil rfl<|Aa<|Ac<|xk h (fun e54 E4 h=>?_) (fun b0 E4 h=>?_)
 refine Bo (fst:=[]) (cap:=[]) .plain (bd 33) rfl (e2 rfl rfl) (fun p q=>ab_c n (E2.hL0 hL q)  E4) fun w56 U9=>?_
 obtain ⟨U7,D05⟩:=E2.agr U9
 cases h
 exact Aq hp0 func47 ⟨U7.ag,rfl⟩
 refine Bi (.agg ((aa b0)).toArray) (bd 33) rfl (e2 rfl rfl) (fun p q=>AI (ab_c n (E2.hL0 hL q)  E4)) rfl<|RG.nl zL E2 fun w62 G3 V7 E05=>AS (aa b0) V7 .hd (ah rfl) fun w66 A3 F05=>Aa<|Ac<|Ab (AC rfl (A3.memA .hd))<|Ab (AC rfl (A3.memA .hd))<|Ab (AC rfl (A3.memA .hd))<|Ab (AC rfl (A3.memA .hd))<|Ab (AO (vs:=[.agg ((aa b0)).toArray,.agg ((aa b0)).toArray,.agg ((aa b0)).toArray,.agg ((aa b0)).toArray]) (u:=.agg ((([vI 0,vI 0]:List Value) ++ aa b0 ++ aa b0 ++ aa b0 ++ aa b0)).toArray) (e4 rfl rfl rfl rfl) (fun p=>by kernel_rfl))<|RG.nl [vI 0,vI 0,vW 0,vW 0,vW 0,vW 0,vW 0,vW 0,vW 0,vW 0,vW 0,vW 0,vW 0,vW 0,vW 0,vW 0,vW 0,vW 0,vW 0,vW 0,vW 0,vW 0,vW 0,vW 0,vW 0,vW 0,vW 0,vW 0,vW 0,vW 0,vW 0,vW 0,vW 0,vW 0,vW 0,vW 0,vW 0,vW 0,vW 0,vW 0,vW 0,vW 0,vW 0,vW 0,vW 0,vW 0,vW 0,vW 0,vW 0,vW 0,vW 0,vW 0,vW 0,vW 0,vW 0,vW 0,vW 0,vW 0,vW 0,vW 0,vW 0,vW 0,vW 0,vW 0,vW 0,vW 0] A3 fun w70 H3 W7 G05=>AS (([vI 0,vI 0]:List Value) ++ aa b0 ++ aa b0 ++ aa b0 ++ aa b0) W7 .hd (ah rfl) fun w74 s3 H05=>Aa<|Aj<|Ac<|Ab (AC rfl (s3.memA .t3))<|Ae rfl<|Ae rfl ?_
 obtain ⟨A77,c78,y01,_⟩:=Rep.sl (AT h0_3 s3)
 refine Ab (AO (vs:=[.agg #[vI a0.fj,vI a0.fh,vI a0.fl,v0_3],vI a1,vI a2]) (u:=.agg #[vI a0.fj,vI a0.fh,vI a0.fl,v0_3,vI a1,vI a2]) (e3 rfl rfl rfl) (fun p=>by rw [y01]; try kernel_rfl))<|jE (bd 86) rfl (e1 rfl) (fun p q=>Calls.gives (cH_c n (s3.hL hL q) (⟨a0,a1,a2⟩:Tpoll) (s3.km h0_3 q)) fun (w8:World) (u8:Value) ⟨b0_,hu_,s_⟩=>(⟨b0_,hu_,s_.from q⟩:∃ Y2:Nat,u8 = Value.func (.func 108) #[] #[vP Y2]/\St w74 w8 [.cells Y2 [vI a0.fj,vI a0.fh,vI a0.fl,v0_3,vI a1,vI a2] 144])) rfl fun w83 R06 B06 ⟨Y2,x01,x5⟩=>?_
 subst x01
 have M05:=il s3 x5
 refine Aa<|Ay<|MX.rangeP (lb:=[vP Y2]) rfl (dS s3 x5) rfl (bd 108) func108 rfl rfl rfl fun w90 Q3 U3 v5 R02 p4 Y05 G01 s00 C2=>Ac<|Bg 0 rfl<|Bg 3 rfl<|AU rfl ((aM (p4.memA .t2) 0) 3 _ rfl) ?_
 have q5:=AT h0_3 p4
 have K06:a0.fu.length <= 281474976710656:=Bh q5
 refine Ab (Bl (xs:=a0.fu) underlying33 rfl q5)<|Ae rfl<|Aa<|Ay<|tn h fun P06 P00 y2=>MX.lo (α:=Nat × Int × Int × UInt64 × UInt64 × UInt64 × UInt64 × UInt64 × UInt64 × UInt64 × UInt64 × UInt64 × UInt64 × UInt64 × UInt64 × UInt64 × UInt64 × UInt64 × UInt64 × UInt64 × UInt64 × UInt64 × UInt64 × UInt64 × UInt64 × UInt64 × UInt64 × UInt64 × UInt64 × UInt64 × UInt64 × UInt64 × UInt64 × UInt64 × UInt64 × UInt64 × UInt64 × UInt64 × UInt64 × UInt64 × UInt64 × UInt64 × UInt64 × UInt64 × UInt64 × UInt64 × UInt64 × UInt64 × UInt64 × UInt64 × UInt64 × UInt64 × UInt64 × UInt64 × UInt64 × UInt64 × UInt64 × UInt64 × UInt64 × U8) (fun ⟨z2,B2,k2,C1,D1,E1,F1,G1,H1,I1,J1,K1,M1,P1,Q1,R1,U1,V1,W1,Z0,b1,c1,g1,j1,k1,p1,q1,s1,u1,v1,x1,y1,z1,A1,B1,d0,g0,j0,p0,q0,s0,t0,u0,v0,x0,y0,z0,A0,B0,C0,D0,E0,F0,G0,H0,I0,J0,K0,M0,P0,Q0,R0,U0,V0,W0,X0,Y0⟩=>[(0,.func (.yield Q3) #[] #[]),(1,vP Y2),(10,v0_3),(11,vI ((a0.fu.length:Nat):Int)),(12,vI ((z2:Nat):Int))]) (fun ⟨z2,B2,k2,C1,D1,E1,F1,G1,H1,I1,J1,K1,M1,P1,Q1,R1,U1,V1,W1,Z0,b1,c1,g1,j1,k1,p1,q1,s1,u1,v1,x1,y1,z1,A1,B1,d0,g0,j0,p0,q0,s0,t0,u0,v0,x0,y0,z0,A0,B0,C0,D0,E0,F0,G0,H0,I0,J0,K0,M0,P0,Q0,R0,U0,V0,W0,X0,Y0⟩=>[.obj Q3 (lpO v5 .ready none),.obj U3 (.deferred (some [])),.cells Y2 [vI a0.fj,vI a0.fh,vI a0.fl,v0_3,vI a1,vI a2] 144,.cells H3 [vI B2,vI k2,vU C1,vU D1,vU E1,vU F1,vU G1,vU H1,vU I1,vU J1,vU K1,vU M1,vU P1,vU Q1,vU R1,vU U1,vU V1,vU W1,vU Z0,vU b1,vU c1,vU g1,vU j1,vU k1,vU p1,vU q1,vU s1,vU u1,vU v1,vU x1,vU y1,vU z1,vU A1,vU B1,vU d0,vU g0,vU j0,vU p0,vU q0,vU s0,vU t0,vU u0,vU v0,vU x0,vU y0,vU z0,vU A0,vU B0,vU C0,vU D0,vU E0,vU F0,vU G0,vU H0,vU I0,vU J0,vU K0,vU M0,vU P0,vU Q0,vU R0,vU U0,vU V0,vU W0,vU X0,vU Y0] 102,.cells G3 (aa b0) 42,.cells D3 [vI 0,vI 0,vW 0,vW 0,vW 0,vW 0,vW 0,vW 0,vW 0,vW 0,vW 0,vW 0,vW 0,vW 0,vW 0,vW 0,vW 0,vW 0,vW 0,vW 0,vW 0,vW 0,vW 0,vW 0,vW 0,vW 0,vW 0,vW 0,vW 0,vW 0,vW 0,vW 0,vW 0,vW 0,vW 0,vW 0,vW 0,vW 0,vW 0,vW 0,vW 0,vW 0,vW 0,vW 0,vW 0,vW 0,vW 0,vW 0,vW 0,vW 0,vW 0,vW 0,vW 0,vW 0,vW 0,vW 0,vW 0,vW 0,vW 0,vW 0,vW 0,vW 0,vW 0,vW 0,vW 0,vW 0,vW 0,vW 0,vW 0,vW 0,vW 0,vW 0,vW 0,vW 0,vW 0,vW 0,vW 0,vW 0,vW 0,vW 0,vW 0,vW 0,vW 0,vW 0,vW 0,vW 0,vW 0,vW 0,vW 0,vW 0,vW 0,vW 0,vW 0,vW 0,vW 0,vW 0,vW 0,vW 0] 104,.cells W4 [vI a0.fj,vI a0.fh,vI a0.fl,v0_3] 35]) (fun ⟨z2,B2,k2,C1,D1,E1,F1,G1,H1,I1,J1,K1,M1,P1,Q1,R1,U1,V1,W1,Z0,b1,c1,g1,j1,k1,p1,q1,s1,u1,v1,x1,y1,z1,A1,B1,d0,g0,j0,p0,q0,s0,t0,u0,v0,x0,y0,z0,A0,B0,C0,D0,E0,F0,G0,H0,I0,J0,K0,M0,P0,Q0,R0,U0,V0,W0,X0,Y0⟩=>(z2,B2,k2,C1,D1,E1,F1,G1,H1,I1,J1,K1,M1,P1,Q1,R1,U1,V1,W1,Z0,b1,c1,g1,j1,k1,p1,q1,s1,u1,v1,x1,y1,z1,A1,B1,d0,g0,j0,p0,q0,s0,t0,u0,v0,x0,y0,z0,A0,B0,C0,D0,E0,F0,G0,H0,I0,J0,K0,M0,P0,Q0,R0,U0,V0,W0,X0,Y0)) (0,0,0,b0.fN.1,b0.fN.2.1,b0.fN.2.2.1,b0.fN.2.2.2.1,b0.fN.2.2.2.2.1,b0.fN.2.2.2.2.2.1,b0.fN.2.2.2.2.2.2.1,b0.fN.2.2.2.2.2.2.2,b0.fD.1,b0.fD.2.1,b0.fD.2.2.1,b0.fD.2.2.2.1,b0.fD.2.2.2.2.1,b0.fD.2.2.2.2.2.1,b0.fD.2.2.2.2.2.2.1,b0.fD.2.2.2.2.2.2.2,b0.fN.1,b0.fN.2.1,b0.fN.2.2.1,b0.fN.2.2.2.1,b0.fN.2.2.2.2.1,b0.fN.2.2.2.2.2.1,b0.fN.2.2.2.2.2.2.1,b0.fN.2.2.2.2.2.2.2,b0.fD.1,b0.fD.2.1,b0.fD.2.2.1,b0.fD.2.2.2.1,b0.fD.2.2.2.2.1,b0.fD.2.2.2.2.2.1,b0.fD.2.2.2.2.2.2.1,b0.fD.2.2.2.2.2.2.2,b0.fN.1,b0.fN.2.1,b0.fN.2.2.1,b0.fN.2.2.2.1,b0.fN.2.2.2.2.1,b0.fN.2.2.2.2.2.1,b0.fN.2.2.2.2.2.2.1,b0.fN.2.2.2.2.2.2.2,b0.fD.1,b0.fD.2.1,b0.fD.2.2.1,b0.fD.2.2.2.1,b0.fD.2.2.2.2.1,b0.fD.2.2.2.2.2.1,b0.fD.2.2.2.2.2.2.1,b0.fD.2.2.2.2.2.2.2,b0.fN.1,b0.fN.2.1,b0.fN.2.2.1,b0.fN.2.2.2.1,b0.fN.2.2.2.2.1,b0.fN.2.2.2.2.2.1,b0.fN.2.2.2.2.2.2.1,b0.fN.2.2.2.2.2.2.2,b0.fD.1,b0.fD.2.1,b0.fD.2.2.1,b0.fD.2.2.2.1,b0.fD.2.2.2.2.1,b0.fD.2.2.2.2.2.1,b0.fD.2.2.2.2.2.2.1,b0.fD.2.2.2.2.2.2.2) P00 p4 ?_
 rintro W01 ⟨z2,B2,k2,C1,D1,E1,F1,G1,H1,I1,J1,K1,M1,P1,Q1,R1,U1,V1,W1,Z0,b1,c1,g1,j1,k1,p1,q1,s1,u1,v1,x1,y1,z1,A1,B1,d0,g0,j0,p0,q0,s0,t0,u0,v0,x0,y0,z0,A0,B0,C0,D0,E0,F0,G0,H0,I0,J0,K0,M0,P0,Q0,R0,U0,V0,W0,X0,Y0⟩ C09 I3 g4 J3 h
 unfold aR_l2 at h
 try dsimp only at h
 refine Ac<|Ab (Bn (i:=z2) (j:=a0.fu.length) rfl rfl)<|Aa<|Aj<|AW rfl h (fun H5 h=>?_) (fun H5 h=>?_)
 refine Au<|Aj<|Ay<|Ac<|bk h fun A2 z01 h=>?_
 obtain ⟨P01,v02,t00,E00,P02,j01,I00⟩:=Br (AT h0_3 g4) z01
 obtain ⟨y5,K4,z5,rfl,u5,K3,k01⟩:=iP j01
 refine Ab (Bu 6 z2 rfl t00 rfl rfl E00)<|Ab (AC rfl I00)<|RG.nl [.string ⟨#[]⟩,vI 0,vN,vN,vN,.bool false] g4 fun G08 X4 X7 U2=>AS [.string A2.fC,vI A2.fA,y5,K4,z5,.bool A2.fv] X7 .hd (o6 rfl rfl (AZ (Az u5 U2)) (AZ (Az K3 U2)) (AZ (Az k01 U2)) rfl) fun H08 j5 v3=>Aa<|Ac<|Ag rfl<|Aa<|Aj<|Ac<|Bg 3 rfl<|AU rfl ((j5.memA .hd) 3 _ rfl) ?_
 have s5:=Az K3 (Tt U2 v3)
 have M06:A2.fVotes.length <= 281474976710656:=Bh s5
 refine Ab (Bl (xs:=A2.fVotes) underlying29 rfl s5)<|Ae rfl<|Aa<|Ay ?_
 obtain ⟨Q06,Q00,B00⟩:=ax h
 refine MX.lo (α:=Int × Nat) (fun ⟨q3,V2⟩=>[(0,.func (.yield Q3) #[] #[]),(1,vP Y2),(10,v0_3),(11,vI ((a0.fu.length:Nat):Int)),(12,vI ((z2:Nat):Int)),(4,vP X4),(5,vI q3),(17,K4),(18,vI ((A2.fVotes.length:Nat):Int)),(19,vI ((V2:Nat):Int))]) (fun ⟨q3,V2⟩=>[.cells X4 [.string A2.fC,vI A2.fA,y5,K4,z5,.bool A2.fv] 59,.obj Q3 (lpO v5 .ready none),.obj U3 (.deferred (some [])),.cells Y2 [vI a0.fj,vI a0.fh,vI a0.fl,v0_3,vI a1,vI a2] 144,.cells H3 [vI B2,vI k2,vU C1,vU D1,vU E1,vU F1,vU G1,vU H1,vU I1,vU J1,vU K1,vU M1,vU P1,vU Q1,vU R1,vU U1,vU V1,vU W1,vU Z0,vU b1,vU c1,vU g1,vU j1,vU k1,vU p1,vU q1,vU s1,vU u1,vU v1,vU x1,vU y1,vU z1,vU A1,vU B1,vU d0,vU g0,vU j0,vU p0,vU q0,vU s0,vU t0,vU u0,vU v0,vU x0,vU y0,vU z0,vU A0,vU B0,vU C0,vU D0,vU E0,vU F0,vU G0,vU H0,vU I0,vU J0,vU K0,vU M0,vU P0,vU Q0,vU R0,vU U0,vU V0,vU W0,vU X0,vU Y0] 102,.cells G3 (aa b0) 42,.cells D3 [vI 0,vI 0,vW 0,vW 0,vW 0,vW 0,vW 0,vW 0,vW 0,vW 0,vW 0,vW 0,vW 0,vW 0,vW 0,vW 0,vW 0,vW 0,vW 0,vW 0,vW 0,vW 0,vW 0,vW 0,vW 0,vW 0,vW 0,vW 0,vW 0,vW 0,vW 0,vW 0,vW 0,vW 0,vW 0,vW 0,vW 0,vW 0,vW 0,vW 0,vW 0,vW 0,vW 0,vW 0,vW 0,vW 0,vW 0,vW 0,vW 0,vW 0,vW 0,vW 0,vW 0,vW 0,vW 0,vW 0,vW 0,vW 0,vW 0,vW 0,vW 0,vW 0,vW 0,vW 0,vW 0,vW 0,vW 0,vW 0,vW 0,vW 0,vW 0,vW 0,vW 0,vW 0,vW 0,vW 0,vW 0,vW 0,vW 0,vW 0,vW 0,vW 0,vW 0,vW 0,vW 0,vW 0,vW 0,vW 0,vW 0,vW 0,vW 0,vW 0,vW 0,vW 0,vW 0,vW 0,vW 0,vW 0] 104,.cells W4 [vI a0.fj,vI a0.fh,vI a0.fl,v0_3] 35]) (fun ⟨q3,V2⟩=>(q3,V2)) (0,0) Q00 j5 ?_
 rintro X01 ⟨q3,V2⟩ D09 U5 x2 x3 h
 unfold aR_l1 at h
 try dsimp only at h
 refine Ac<|Ab (Bn (i:=V2) (j:=A2.fVotes.length) rfl rfl)<|Aa<|Aj<|AW rfl h (fun I5 h=>?_) (fun I5 h=>?_)
 refine Au<|Aj<|Ay<|Ac<|bk h fun A5 A01 h=>?_
 obtain ⟨R01,y02,u00,F00,P5,p01,J00⟩:=Br (Az K3 (Tt U2 (Tt v3 x3))) A01
 have v00:P5 = [vI A5]:=p01; subst v00
 refine Ab (Bu 1 V2 rfl u00 rfl rfl F00)<|AU rfl (J00 0 _ rfl)<|Ag rfl<|Aa<|Am<|Ae rfl<|Ae rfl<|bk h fun H01 t01 h=>Ab (BH (i:=q3) (j:=A5) rfl rfl t01)<|Ag rfl<|Aa<|AE<|Am<|Ab (Bp (i:=V2) (j:=1) rfl rfl (by omega))<|Ae rfl<|Aa<|U5 (H01,V2 + 1) x2 x3 h
 refine Bf rfl ?_
 have h:=B00 _ h
 try dsimp only at h
 refine Aj<|Ac<|Bg 5 rfl<|AU rfl ((x2.memA .hd) 5 _ rfl)<|Ae rfl<|RG.ifb (s:=29) rfl h (fun J5 h=>?_) (fun J5 h=>?_)
 refine AL<|AL<|AL<|RG.pt rfl rfl<|Ae rfl<|AL<|AL<|RG.pt rfl rfl<|Aa<|Be rfl<|Bf rfl<|Am<|Ab (Bp (i:=z2) (j:=1) rfl rfl (by omega))<|Ae rfl<|Aa ?_
 obtain ⟨Y7,c9⟩:=AF x2 .d1
 exact I3 (z2 + 1,B2,k2,C1,D1,E1,F1,G1,H1,I1,J1,K1,M1,P1,Q1,R1,U1,V1,W1,Z0,b1,c1,g1,j1,k1,p1,q1,s1,u1,v1,x1,y1,z1,A1,B1,d0,g0,j0,p0,q0,s0,t0,u0,v0,x0,y0,z0,A0,B0,C0,D0,E0,F0,G0,H0,I0,J0,K0,M0,P0,Q0,R0,U0,V0,W0,X0,Y0) Y7 (Tt J3 (Tt U2 (Tt v3 (Tt x3 c9)))) h
 refine RG.fg 1 rfl<|AX (AQ rfl ((x2.memA .hd) 1 _ rfl))<|AX (FV.eql (i:=A2.fA) (j:=0) rfl rfl)<|RG.pf rfl rfl<|Ae rfl<|RG.ifd (s:=34) rfl h (fun K5 h=>?_) (fun K5 h=>?_)
 refine AL<|AL<|RG.pt rfl rfl<|Aa<|Be rfl<|Bf rfl<|Am<|Ab (Bp (i:=z2) (j:=1) rfl rfl (by omega))<|Ae rfl<|Aa ?_
 obtain ⟨Z7,d9⟩:=AF x2 .d1
 exact I3 (z2 + 1,B2,k2,C1,D1,E1,F1,G1,H1,I1,J1,K1,M1,P1,Q1,R1,U1,V1,W1,Z0,b1,c1,g1,j1,k1,p1,q1,s1,u1,v1,x1,y1,z1,A1,B1,d0,g0,j0,p0,q0,s0,t0,u0,v0,x0,y0,z0,A0,B0,C0,D0,E0,F0,G0,H0,I0,J0,K0,M0,P0,Q0,R0,U0,V0,W0,X0,Y0) Z7 (Tt J3 (Tt U2 (Tt v3 (Tt x3 d9)))) h
 refine AX (Ak rfl)<|AX (FV.eql (i:=q3) (j:=0) rfl rfl)<|RG.pf rfl rfl<|Aa<|AW rfl h (fun M5 h=>?_) (fun M5 h=>?_)
 refine Bf rfl<|Am<|Ab (Bp (i:=z2) (j:=1) rfl rfl (by omega))<|Ae rfl<|Aa ?_
 obtain ⟨b8,g9⟩:=AF x2 .d1
 exact I3 (z2 + 1,B2,k2,C1,D1,E1,F1,G1,H1,I1,J1,K1,M1,P1,Q1,R1,U1,V1,W1,Z0,b1,c1,g1,j1,k1,p1,q1,s1,u1,v1,x1,y1,z1,A1,B1,d0,g0,j0,p0,q0,s0,t0,u0,v0,x0,y0,z0,A0,B0,C0,D0,E0,F0,G0,H0,I0,J0,K0,M0,P0,Q0,R0,U0,V0,W0,X0,Y0) b8 (Tt J3 (Tt U2 (Tt v3 (Tt x3 g9)))) h
 refine Au<|Aj<|du 18 fun Y1 j2=>Rv 0 Y1 rfl j2 (fun _=>Ak rfl)<|Rv 1 Y1 rfl j2 (fun _=>AP 1 rfl)<|Rx 2 917504 Y1 rfl j2 (AQ rfl ((x2.memA .hd) 1 _ rfl))<|Rv 3 Y1 rfl j2 (fun _=>AP 2 rfl)<|Rx 4 917888 Y1 rfl j2 (AQ rfl ((x2.memA .hd) 2 _ rfl))<|Rv 5 Y1 rfl j2 (fun _=>AP 4 rfl)<|Rx 6 917888 Y1 rfl j2 (AQ rfl ((x2.memA .t3) 4 _ rfl))<|bk h fun y3 B01 h=>?_
 obtain ⟨C00,C01⟩:=aJ B01
 have u4:=Tt U2 (Tt v3 x3)
 obtain ⟨U01,z02,x00,G00,Q5,q01,K00⟩:=Br (Az u5 u4) C01
 have y00:Q5 = [vI y3]:=q01; subst y00
 refine Rv 7 Y1 rfl j2 (fun _=>Bu 1 (a1.toNat) rfl x00 rfl C00 G00)<|Rx 8 917504 Y1 rfl j2 (AQ rfl (K00 0 _ rfl))<|Rv 9 Y1 rfl j2 (fun _=>AP 3 rfl)<|Rx 10 1007616 Y1 rfl j2 (AQ rfl ((x2.memA .hd) 3 _ rfl))<|Rv 11 Y1 rfl j2 (fun _=>AP 5 rfl)<|Rx 12 1007616 Y1 rfl j2 (AQ rfl ((x2.memA .t3) 5 _ rfl))<|bk h fun M01 D01 h=>?_
 obtain ⟨D00,E01⟩:=aJ D01
 obtain ⟨V01,A02,z00,H00,R5,s01,M00⟩:=Br (Az K3 u4) E01
 have A00:R5 = [vI M01]:=s01; subst A00
 refine Rv 13 Y1 rfl j2 (fun _=>Bu 1 (a2.toNat) rfl z00 rfl D00 H00)<|Rx 14 983040 Y1 rfl j2 (AQ rfl (M00 0 _ rfl))<|Rv 15 Y1 rfl j2 (fun _=>Ak rfl)<|xk h (fun k03 F4 h=>?_) (fun u2 F4 h=>?_)
 have h:=ap h y2
 refine AM (i:=16) (rk Y1) (Bj (fst:=[]) (cap:=[]) rfl .plain (bd 33) rfl (e2 rfl rfl) (fun p q=>ab_c n (x2.hL0 hL q)  F4) (fun J08 V9=>?_))
 obtain ⟨c8,I05⟩:=x2.agr V9
 refine Aq C2 func108<|BE c8 .t2 fun K08 d8 J05=>?_
 obtain ⟨g8,K05⟩:=AF d8 (.a0 (.a0 .d1))
 cases h
 exact Aq hp0 func47 ⟨g8.ag,rfl⟩
 refine BD 16 131071 917504 (.agg ((aa u2)).toArray) Y1 rfl j2 (bd 33) rfl (e2 rfl rfl) (fun p q=>AI (ab_c n (x2.hL0 hL q)  F4)) rfl<|Rv 17 Y1 rfl j2 (fun _=>AO (vs:=[vI A2.fA,vI y3,.agg ((aa u2)).toArray]) (u:=.agg ((([vI A2.fA,vI y3]:List Value) ++ aa u2)).toArray) (e3 rfl rfl rfl) (fun p=>by kernel_rfl))<|AM (i:=18) (rk Y1) (RO.yieldPT (fd:=47) (m' :=524287) (vs:=[.agg ((([vI A2.fA,vI y3]:List Value) ++ aa u2)).toArray]) (sk Y1) rfl rfl .plain rfl (e1 rfl) x2 .t1 G01 rfl rfl rfl (fun _ Q02 q00 F2=>?_))
 refine Am<|RG.nl [vI 0,vI 0,vW 0,vW 0,vW 0,vW 0,vW 0,vW 0,vW 0,vW 0,vW 0,vW 0,vW 0,vW 0,vW 0,vW 0,vW 0,vW 0] x2 fun M08 q02 j8 j9=>AS (([vI A2.fA,vI y3]:List Value) ++ aa u2) j8 .hd (ah rfl) fun P08 k8 k9=>Aa<|MX.begin k8 .t2 fun Q08 j4 p9=>Ay<|Ac<|Bg 0 rfl<|AU rfl ((j4.memA .t5) 0 _ rfl)<|Bg 0 rfl<|AU rfl ((j4.memA .hd) 0 _ rfl)<|bk h fun I2 u01 h=>Ab (BH (i:=B2) (j:=A2.fA) rfl rfl u01)<|Bg 0 rfl<|RG.now .plain (Bs (j:=0) (old:=[vI B2,vI k2,vU C1,vU D1,vU E1,vU F1,vU G1,vU H1,vU I1,vU J1,vU K1,vU M1,vU P1,vU Q1,vU R1,vU U1,vU V1,vU W1,vU Z0,vU b1,vU c1,vU g1,vU j1,vU k1,vU p1,vU q1,vU s1,vU u1,vU v1,vU x1,vU y1,vU z1,vU A1,vU B1,vU d0,vU g0,vU j0,vU p0,vU q0,vU s0,vU t0,vU u0,vU v0,vU x0,vU y0,vU z0,vU A0,vU B0,vU C0,vU D0,vU E0,vU F0,vU G0,vU H0,vU I0,vU J0,vU K0,vU M0,vU P0,vU Q0,vU R0,vU U0,vU V0,vU W0,vU X0,vU Y0]) (news:=[vI I2]) (new' :=[vI I2,vI k2,vU C1,vU D1,vU E1,vU F1,vU G1,vU H1,vU I1,vU J1,vU K1,vU M1,vU P1,vU Q1,vU R1,vU U1,vU V1,vU W1,vU Z0,vU b1,vU c1,vU g1,vU j1,vU k1,vU p1,vU q1,vU s1,vU u1,vU v1,vU x1,vU y1,vU z1,vU A1,vU B1,vU d0,vU g0,vU j0,vU p0,vU q0,vU s0,vU t0,vU u0,vU v0,vU x0,vU y0,vU z0,vU A0,vU B0,vU C0,vU D0,vU E0,vU F0,vU G0,vU H0,vU I0,vU J0,vU K0,vU M0,vU P0,vU Q0,vU R0,vU U0,vU V0,vU W0,vU X0,vU Y0]) j4 .t5 rfl rfl rfl rfl rfl rfl (o1 rfl) rfl) fun R08 k4 q9=>?_
 refine Aa<|Ac<|Bg 1 rfl<|AU rfl ((k4.memA .t5) 1 _ rfl)<|Bg 1 rfl<|AU rfl ((k4.memA .hd) 1 _ rfl)<|bk h fun Q2 v01 h=>Ab (BH (i:=k2) (j:=y3) rfl rfl v01)<|Bg 1 rfl<|RG.now .plain (Bs (j:=1) (old:=[vI I2,vI k2,vU C1,vU D1,vU E1,vU F1,vU G1,vU H1,vU I1,vU J1,vU K1,vU M1,vU P1,vU Q1,vU R1,vU U1,vU V1,vU W1,vU Z0,vU b1,vU c1,vU g1,vU j1,vU k1,vU p1,vU q1,vU s1,vU u1,vU v1,vU x1,vU y1,vU z1,vU A1,vU B1,vU d0,vU g0,vU j0,vU p0,vU q0,vU s0,vU t0,vU u0,vU v0,vU x0,vU y0,vU z0,vU A0,vU B0,vU C0,vU D0,vU E0,vU F0,vU G0,vU H0,vU I0,vU J0,vU K0,vU M0,vU P0,vU Q0,vU R0,vU U0,vU V0,vU W0,vU X0,vU Y0]) (news:=[vI Q2]) (new' :=[vI I2,vI Q2,vU C1,vU D1,vU E1,vU F1,vU G1,vU H1,vU I1,vU J1,vU K1,vU M1,vU P1,vU Q1,vU R1,vU U1,vU V1,vU W1,vU Z0,vU b1,vU c1,vU g1,vU j1,vU k1,vU p1,vU q1,vU s1,vU u1,vU v1,vU x1,vU y1,vU z1,vU A1,vU B1,vU d0,vU g0,vU j0,vU p0,vU q0,vU s0,vU t0,vU u0,vU v0,vU x0,vU y0,vU z0,vU A0,vU B0,vU C0,vU D0,vU E0,vU F0,vU G0,vU H0,vU I0,vU J0,vU K0,vU M0,vU P0,vU Q0,vU R0,vU U0,vU V0,vU W0,vU X0,vU Y0]) k4 .t5 rfl rfl rfl rfl rfl rfl (o1 rfl) rfl) fun U08 J2 s9=>?_
 refine Aa<|Aj<|du 7 fun s2 g3=>Rv 0 s2 rfl g3 (fun _=>AP 0 rfl)<|Rx 1 164 s2 rfl g3 (AQ rfl ((J2.memA .hd) 0 _ rfl))<|xk h (fun p03 M3 h=>?_) (fun R3 M3 h=>?_)
 refine Rv 3 s2 rfl g3 (fun _=>AP 2 rfl)<|Rx 4 160 s2 rfl g3 (AY (cs:=(aa u2)) rfl rfl (ae (J2.memA .hd) 2 16))<|BB [2,6] (rk s2) ⟨?_,?_,trivial⟩
 have h:=ap h y2
 refine Bj (fst:=[]) (cap:=[]) rfl .plain (bd 33) rfl (e2 rfl rfl) (fun p q=>ab_c n (J2.hL0 hL q)  M3) fun V08 W9=>?_
 obtain ⟨p8,P05⟩:=J2.agr W9
 refine Aq F2 func47<|Aq C2 func108<|BE p8 .t3 fun W08 q8 Q05=>?_
 obtain ⟨s8,R05⟩:=AF q8 (.a0 (.a0 (.a0 .d1)))
 cases h
 exact Aq hp0 func47 ⟨s8.ag,rfl⟩
 refine RO.new (m' :=91) (sk s2) rfl .plain rfl (Aw zL J2) fun Y08 s02 k5 U05=>?_
 have h:=ap h y2
 refine AM (i:=2) (rk s2) (Bj (fst:=[]) (cap:=[]) rfl .plain (bd 33) rfl (e2 rfl rfl) (fun p q=>ab_c n (k5.hL0 hL q)  M3) (fun Z08 X9=>?_))
 obtain ⟨t8,V05⟩:=k5.agr X9
 refine Aq F2 func47<|Aq C2 func108<|BE t8 .t4 fun b09 v8 W05=>?_
 obtain ⟨x8,X05⟩:=AF v8 (.a0 (.a0 (.a0 (.a0 .d1))))
 cases h
 exact Aq hp0 func47 ⟨x8.ag,rfl⟩
 refine BD 2 7 160 (.agg ((aa R3)).toArray) s2 rfl g3 (bd 33) rfl (e2 rfl rfl) (fun p q=>AI (ab_c n (J2.hL0 hL q)  M3)) rfl<|Rv 3 s2 rfl g3 (fun _=>AP 2 rfl)<|Rx 4 160 s2 rfl g3 (AY (cs:=(aa u2)) rfl rfl (ae (J2.memA .hd) 2 16))<|xk h (fun q03 P3 h=>?_) (fun z3 P3 h=>?_)
 refine BB [5,6] (rk s2) ⟨?_,?_,trivial⟩
 have h:=ap h y2
 refine Bj (fst:=[]) (cap:=[]) rfl .plain (bd 48) rfl (e2 rfl rfl) (fun p q=>ak_c n (J2.hL0 hL q) R3 u2 P3) fun c09 Y9=>?_
 obtain ⟨y8,Z05⟩:=J2.agr Y9
 refine Aq F2 func47<|Aq C2 func108<|BE y8 .t3 fun d09 z8 b06=>?_
 obtain ⟨A8,c06⟩:=AF z8 (.a0 (.a0 (.a0 .d1)))
 cases h
 exact Aq hp0 func47 ⟨A8.ag,rfl⟩
 refine RO.new (m' :=95) (sk s2) rfl .plain rfl (Aw zL J2) fun g09 t02 p5 d06=>?_
 have h:=ap h y2
 refine AM (i:=5) (rk s2) (Bj (fst:=[]) (cap:=[]) rfl .plain (bd 48) rfl (e2 rfl rfl) (fun p q=>ak_c n (p5.hL0 hL q) R3 u2 P3) (fun j09 Z9=>?_))
 obtain ⟨B8,g06⟩:=p5.agr Z9
 refine Aq F2 func47<|Aq C2 func108<|BE B8 .t4 fun k09 C8 j06=>?_
 obtain ⟨D8,k06⟩:=AF C8 (.a0 (.a0 (.a0 (.a0 .d1))))
 cases h
 exact Aq hp0 func47 ⟨D8.ag,rfl⟩
 refine BD 5 63 128 (.agg ((aa z3)).toArray) s2 rfl g3 (bd 48) rfl (e2 rfl rfl) (fun p q=>AI (ak_c n (J2.hL0 hL q) R3 u2 P3)) rfl<|RD.nu 6 127 s2 rfl .plain rfl (Aw zL J2) fun p09 u02 E8 t9=>By 7 255 s2 rfl rfl .plain (AA (news:=(aa z3)) E8 .hd rfl rfl rfl rfl rfl rfl (ah rfl)) fun q09 u3 u9=>AJ (dk s2)<|Ac<|Bg 2 rfl<|Ab (AY (cs:=[vU C1,vU D1,vU E1,vU F1,vU G1,vU H1,vU I1,vU J1,vU K1,vU M1,vU P1,vU Q1,vU R1,vU U1,vU V1,vU W1]) rfl rfl (ae (u3.memA .t6) 2 16))<|Ab (AC rfl (u3.memA .hd))<|xk h (fun s03 G4 h=>?_) (fun X1 G4 h=>?_)
 have h:=ap h y2
 refine Bo (fst:=[]) (cap:=[]) .plain (bd 73) rfl (e2 rfl rfl) (fun p q=>aT_c n (u3.hL0 hL q) (⟨(C1,D1,E1,F1,G1,H1,I1,J1),(K1,M1,P1,Q1,R1,U1,V1,W1)⟩:Ta) z3 G4) fun s09 b00=>?_
 obtain ⟨F8,p06⟩:=u3.agr b00
 refine Aq F2 func47<|Aq C2 func108<|BE F8 .t4 fun t09 G8 q06=>?_
 obtain ⟨H8,s06⟩:=AF G8 (.a0 (.a0 (.a0 (.a0 .d1))))
 cases h
 exact Aq hp0 func47 ⟨H8.ag,rfl⟩
 refine Bi (.agg ((aa X1)).toArray) (bd 73) rfl (e2 rfl rfl) (fun p q=>AI (aT_c n (u3.hL0 hL q) (⟨(C1,D1,E1,F1,G1,H1,I1,J1),(K1,M1,P1,Q1,R1,U1,V1,W1)⟩:Ta) z3 G4)) rfl<|Bg 2 rfl<|RG.now .plain (Bs (j:=2) (old:=[vI I2,vI Q2,vU C1,vU D1,vU E1,vU F1,vU G1,vU H1,vU I1,vU J1,vU K1,vU M1,vU P1,vU Q1,vU R1,vU U1,vU V1,vU W1,vU Z0,vU b1,vU c1,vU g1,vU j1,vU k1,vU p1,vU q1,vU s1,vU u1,vU v1,vU x1,vU y1,vU z1,vU A1,vU B1,vU d0,vU g0,vU j0,vU p0,vU q0,vU s0,vU t0,vU u0,vU v0,vU x0,vU y0,vU z0,vU A0,vU B0,vU C0,vU D0,vU E0,vU F0,vU G0,vU H0,vU I0,vU J0,vU K0,vU M0,vU P0,vU Q0,vU R0,vU U0,vU V0,vU W0,vU X0,vU Y0]) (news:=(aa X1)) (new' :=(([vI I2,vI Q2]:List Value) ++ aa X1 ++ ([vU Z0,vU b1,vU c1,vU g1,vU j1,vU k1,vU p1,vU q1,vU s1,vU u1,vU v1,vU x1,vU y1,vU z1,vU A1,vU B1,vU d0,vU g0,vU j0,vU p0,vU q0,vU s0,vU t0,vU u0,vU v0,vU x0,vU y0,vU z0,vU A0,vU B0,vU C0,vU D0,vU E0,vU F0,vU G0,vU H0,vU I0,vU J0,vU K0,vU M0,vU P0,vU Q0,vU R0,vU U0,vU V0,vU W0,vU X0,vU Y0]:List Value))) u3 .t6 rfl rfl rfl rfl rfl rfl (ah rfl) rfl) fun u09 d2 v9=>?_
 refine Aa<|Aj<|du 13 fun Z1 p2=>Rv 0 Z1 rfl p2 (fun _=>AP 18 rfl)<|Rx 1 14336 Z1 rfl p2 (AY (cs:=[vU Z0,vU b1,vU c1,vU g1,vU j1,vU k1,vU p1,vU q1,vU s1,vU u1,vU v1,vU x1,vU y1,vU z1,vU A1,vU B1]) rfl rfl (ae (d2.memA .t6) 18 16))<|Rv 2 Z1 rfl p2 (fun _=>AP 1 rfl)<|Rx 3 15888 Z1 rfl p2 (AQ rfl ((d2.memA .t1) 1 _ rfl))<|xk h (fun t03 H4 h=>?_) (fun R4 H4 h=>?_)
 refine Rv 5 Z1 rfl p2 (fun _=>AP 1 rfl)<|Rx 6 15872 Z1 rfl p2 (AQ rfl ((d2.memA .t1) 1 _ rfl))<|Rv 7 Z1 rfl p2 (fun _=>AP 0 rfl)<|Rx 8 15872 Z1 rfl p2 (AQ rfl ((d2.memA .t1) 0 _ rfl)) ?_
 have h:=ap h y2
 refine AM (i:=4) (rk Z1) (Bj (fst:=[]) (cap:=[]) rfl .plain (bd 33) rfl (e2 rfl rfl) (fun p q=>ab_c n (d2.hL0 hL q)  H4) (fun v09 c00=>?_))
 obtain ⟨I8,t06⟩:=d2.agr c00
 refine Aq F2 func47<|Aq C2 func108<|BE I8 .t4 fun x09 J8 u06=>?_
 obtain ⟨K8,v06⟩:=AF J8 (.a0 (.a0 (.a0 (.a0 .d1))))
 cases h
 exact Aq hp0 func47 ⟨K8.ag,rfl⟩
 refine BD 4 31 15872 (.agg ((aa R4)).toArray) Z1 rfl p2 (bd 33) rfl (e2 rfl rfl) (fun p q=>AI (ab_c n (d2.hL0 hL q)  H4)) rfl<|Rv 5 Z1 rfl p2 (fun _=>AP 1 rfl)<|Rx 6 15872 Z1 rfl p2 (AQ rfl ((d2.memA .t1) 1 _ rfl))<|Rv 7 Z1 rfl p2 (fun _=>AP 0 rfl)<|Rx 8 15872 Z1 rfl p2 (AQ rfl ((d2.memA .t1) 0 _ rfl))<|xk h (fun u03 I4 h=>?_) (fun U4 I4 h=>?_)
 have h:=ap h y2
 refine AM (i:=9) (rk Z1) (Bj (fst:=[]) (cap:=[]) rfl .plain (bd 33) rfl (e2 rfl rfl) (fun p q=>ab_c n (d2.hL0 hL q)  I4) (fun y09 d00=>?_))
 obtain ⟨M8,x06⟩:=d2.agr d00
 refine Aq F2 func47<|Aq C2 func108<|BE M8 .t4 fun z09 P8 y06=>?_
 obtain ⟨Q8,z06⟩:=AF P8 (.a0 (.a0 (.a0 (.a0 .d1))))
 cases h
 exact Aq hp0 func47 ⟨Q8.ag,rfl⟩
 refine BD 9 1023 15360 (.agg ((aa U4)).toArray) Z1 rfl p2 (bd 33) rfl (e2 rfl rfl) (fun p q=>AI (ab_c n (d2.hL0 hL q)  I4)) rfl<|xk h (fun v03 J4 h=>?_) (fun V4 J4 h=>?_)
 have h:=ap h y2
 refine AM (i:=10) (rk Z1) (Bj (fst:=[]) (cap:=[]) rfl .plain (bd 48) rfl (e2 rfl rfl) (fun p q=>ak_c n (d2.hL0 hL q) R4 U4 J4) (fun A09 g00=>?_))
 obtain ⟨R8,A06⟩:=d2.agr g00
 refine Aq F2 func47<|Aq C2 func108<|BE R8 .t4 fun U06 V5 x03=>?_
 obtain ⟨W5,y03⟩:=AF V5 (.a0 (.a0 (.a0 (.a0 .d1))))
 cases h
 exact Aq hp0 func47 ⟨W5.ag,rfl⟩
 refine BD 10 2047 14336 (.agg ((aa V4)).toArray) Z1 rfl p2 (bd 48) rfl (e2 rfl rfl) (fun p q=>AI (ak_c n (d2.hL0 hL q) R4 U4 J4)) rfl<|xk h (fun U02 v4 h=>?_) (fun b2 v4 h=>?_)
 have h:=ap h y2
 refine AM (i:=11) (rk Z1) (Bj (fst:=[]) (cap:=[]) rfl .plain (bd 73) rfl (e2 rfl rfl) (fun p q=>aT_c n (d2.hL0 hL q) (⟨(Z0,b1,c1,g1,j1,k1,p1,q1),(s1,u1,v1,x1,y1,z1,A1,B1)⟩:Ta) V4 v4) (fun V06 x9=>?_))
 obtain ⟨X5,z03⟩:=d2.agr x9
 refine Aq F2 func47<|Aq C2 func108<|BE X5 .t4 fun W06 Y5 A03=>?_
 obtain ⟨Z5,B03⟩:=AF Y5 (.a0 (.a0 (.a0 (.a0 .d1))))
 cases h
 exact Aq hp0 func47 ⟨Z5.ag,rfl⟩
 refine BD 11 4095 12288 (.agg ((aa b2)).toArray) Z1 rfl p2 (bd 73) rfl (e2 rfl rfl) (fun p q=>AI (aT_c n (d2.hL0 hL q) (⟨(Z0,b1,c1,g1,j1,k1,p1,q1),(s1,u1,v1,x1,y1,z1,A1,B1)⟩:Ta) V4 v4)) rfl<|Rv 12 Z1 rfl p2 (fun _=>AP 18 rfl)<|By 13 16383 Z1 rfl rfl .plain (Bs (j:=18) (old:=(([vI I2,vI Q2]:List Value) ++ aa X1 ++ ([vU Z0,vU b1,vU c1,vU g1,vU j1,vU k1,vU p1,vU q1,vU s1,vU u1,vU v1,vU x1,vU y1,vU z1,vU A1,vU B1,vU d0,vU g0,vU j0,vU p0,vU q0,vU s0,vU t0,vU u0,vU v0,vU x0,vU y0,vU z0,vU A0,vU B0,vU C0,vU D0,vU E0,vU F0,vU G0,vU H0,vU I0,vU J0,vU K0,vU M0,vU P0,vU Q0,vU R0,vU U0,vU V0,vU W0,vU X0,vU Y0]:List Value))) (news:=(aa b2)) (new' :=(([vI I2,vI Q2]:List Value) ++ aa X1 ++ aa b2 ++ ([vU d0,vU g0,vU j0,vU p0,vU q0,vU s0,vU t0,vU u0,vU v0,vU x0,vU y0,vU z0,vU A0,vU B0,vU C0,vU D0,vU E0,vU F0,vU G0,vU H0,vU I0,vU J0,vU K0,vU M0,vU P0,vU Q0,vU R0,vU U0,vU V0,vU W0,vU X0,vU Y0]:List Value))) d2 .t6 rfl rfl rfl rfl rfl rfl (ah rfl) rfl) fun X06 D2 U8=>AJ (dk Z1)<|Aj<|du 10 fun q2 K2=>Rv 0 q2 rfl K2 (fun _=>AP 34 rfl)<|Rx 1 1792 q2 rfl K2 (AY (cs:=[vU d0,vU g0,vU j0,vU p0,vU q0,vU s0,vU t0,vU u0,vU v0,vU x0,vU y0,vU z0,vU A0,vU B0,vU C0,vU D0]) rfl rfl (ae (D2.memA .t6) 34 16))<|Rv 2 q2 rfl K2 (fun _=>AP 1 rfl)<|Rx 3 1936 q2 rfl K2 (AQ rfl ((D2.memA .t1) 1 _ rfl))<|xk h (fun V02 x4 h=>?_) (fun M4 x4 h=>?_)
 refine Rv 5 q2 rfl K2 (fun _=>AP 2 rfl)<|Rx 6 1920 q2 rfl K2 (AY (cs:=(aa u2)) rfl rfl (ae (D2.memA .t1) 2 16)) ?_
 have h:=ap h y2
 refine AM (i:=4) (rk q2) (Bj (fst:=[]) (cap:=[]) rfl .plain (bd 33) rfl (e2 rfl rfl) (fun p q=>ab_c n (D2.hL0 hL q)  x4) (fun Y06 y9=>?_))
 obtain ⟨b6,C03⟩:=D2.agr y9
 refine Aq F2 func47<|Aq C2 func108<|BE b6 .t4 fun Z06 c6 D03=>?_
 obtain ⟨d6,E03⟩:=AF c6 (.a0 (.a0 (.a0 (.a0 .d1))))
 cases h
 exact Aq hp0 func47 ⟨d6.ag,rfl⟩
 refine BD 4 31 1920 (.agg ((aa M4)).toArray) q2 rfl K2 (bd 33) rfl (e2 rfl rfl) (fun p q=>AI (ab_c n (D2.hL0 hL q)  x4)) rfl<|Rv 5 q2 rfl K2 (fun _=>AP 2 rfl)<|Rx 6 1920 q2 rfl K2 (AY (cs:=(aa u2)) rfl rfl (ae (D2.memA .t1) 2 16))<|xk h (fun W02 y4 h=>?_) (fun P4 y4 h=>?_)
 have h:=ap h y2
 refine AM (i:=7) (rk q2) (Bj (fst:=[]) (cap:=[]) rfl .plain (bd 48) rfl (e2 rfl rfl) (fun p q=>ak_c n (D2.hL0 hL q) M4 u2 y4) (fun b07 z9=>?_))
 obtain ⟨g6,F03⟩:=D2.agr z9
 refine Aq F2 func47<|Aq C2 func108<|BE g6 .t4 fun c07 j6 G03=>?_
 obtain ⟨k6,H03⟩:=AF j6 (.a0 (.a0 (.a0 (.a0 .d1))))
 cases h
 exact Aq hp0 func47 ⟨k6.ag,rfl⟩
 refine BD 7 255 1792 (.agg ((aa P4)).toArray) q2 rfl K2 (bd 48) rfl (e2 rfl rfl) (fun p q=>AI (ak_c n (D2.hL0 hL q) M4 u2 y4)) rfl<|xk h (fun X02 z4 h=>?_) (fun c2 z4 h=>?_)
 have h:=ap h y2
 refine AM (i:=8) (rk q2) (Bj (fst:=[]) (cap:=[]) rfl .plain (bd 73) rfl (e2 rfl rfl) (fun p q=>aT_c n (D2.hL0 hL q) (⟨(d0,g0,j0,p0,q0,s0,t0,u0),(v0,x0,y0,z0,A0,B0,C0,D0)⟩:Ta) P4 z4) (fun d07 A9=>?_))
 obtain ⟨p6,I03⟩:=D2.agr A9
 refine Aq F2 func47<|Aq C2 func108<|BE p6 .t4 fun g07 q6 J03=>?_
 obtain ⟨s6,K03⟩:=AF q6 (.a0 (.a0 (.a0 (.a0 .d1))))
 cases h
 exact Aq hp0 func47 ⟨s6.ag,rfl⟩
 refine BD 8 511 1536 (.agg ((aa c2)).toArray) q2 rfl K2 (bd 73) rfl (e2 rfl rfl) (fun p q=>AI (aT_c n (D2.hL0 hL q) (⟨(d0,g0,j0,p0,q0,s0,t0,u0),(v0,x0,y0,z0,A0,B0,C0,D0)⟩:Ta) P4 z4)) rfl<|Rv 9 q2 rfl K2 (fun _=>AP 34 rfl)<|By 10 2047 q2 rfl rfl .plain (Bs (j:=34) (old:=(([vI I2,vI Q2]:List Value) ++ aa X1 ++ aa b2 ++ ([vU d0,vU g0,vU j0,vU p0,vU q0,vU s0,vU t0,vU u0,vU v0,vU x0,vU y0,vU z0,vU A0,vU B0,vU C0,vU D0,vU E0,vU F0,vU G0,vU H0,vU I0,vU J0,vU K0,vU M0,vU P0,vU Q0,vU R0,vU U0,vU V0,vU W0,vU X0,vU Y0]:List Value))) (news:=(aa c2)) (new' :=(([vI I2,vI Q2]:List Value) ++ aa X1 ++ aa b2 ++ aa c2 ++ ([vU E0,vU F0,vU G0,vU H0,vU I0,vU J0,vU K0,vU M0,vU P0,vU Q0,vU R0,vU U0,vU V0,vU W0,vU X0,vU Y0]:List Value))) D2 .t6 rfl rfl rfl rfl rfl rfl (ah rfl) rfl) fun j07 R2 V8=>AJ (dk q2)<|du 8 fun M2 b3=>Rv 0 M2 rfl b3 (fun _=>AP 50 rfl)<|Rx 1 448 M2 rfl b3 (AY (cs:=[vU E0,vU F0,vU G0,vU H0,vU I0,vU J0,vU K0,vU M0,vU P0,vU Q0,vU R0,vU U0,vU V0,vU W0,vU X0,vU Y0]) rfl rfl (ae (R2.memA .t6) 50 16))<|Rx 2 480 M2 rfl b3 (AC rfl (R2.memA .hd))<|Rv 3 M2 rfl b3 (fun _=>AP 2 rfl)<|Rx 4 480 M2 rfl b3 (AY (cs:=(aa u2)) rfl rfl (ae (R2.memA .t1) 2 16))<|xk h (fun Y02 A4 h=>?_) (fun Q4 A4 h=>?_)
 have h:=ap h y2
 refine AM (i:=5) (rk M2) (Bj (fst:=[]) (cap:=[]) rfl .plain (bd 48) rfl (e2 rfl rfl) (fun p q=>ak_c n (R2.hL0 hL q) z3 u2 A4) (fun k07 B9=>?_))
 obtain ⟨u6,M03⟩:=R2.agr B9
 refine Aq F2 func47<|Aq C2 func108<|BE u6 .t4 fun p07 v6 P03=>?_
 obtain ⟨x6,Q03⟩:=AF v6 (.a0 (.a0 (.a0 (.a0 .d1))))
 cases h
 exact Aq hp0 func47 ⟨x6.ag,rfl⟩
 refine BD 5 63 448 (.agg ((aa Q4)).toArray) M2 rfl b3 (bd 48) rfl (e2 rfl rfl) (fun p q=>AI (ak_c n (R2.hL0 hL q) z3 u2 A4)) rfl<|xk h (fun Z02 B4 h=>?_) (fun g2 B4 h=>?_)
 have h:=ap h y2
 refine AM (i:=6) (rk M2) (Bj (fst:=[]) (cap:=[]) rfl .plain (bd 73) rfl (e2 rfl rfl) (fun p q=>aT_c n (R2.hL0 hL q) (⟨(E0,F0,G0,H0,I0,J0,K0,M0),(P0,Q0,R0,U0,V0,W0,X0,Y0)⟩:Ta) Q4 B4) (fun q07 C9=>?_))
 obtain ⟨y6,R03⟩:=R2.agr C9
 refine Aq F2 func47<|Aq C2 func108<|BE y6 .t4 fun s07 z6 U03=>?_
 obtain ⟨A6,V03⟩:=AF z6 (.a0 (.a0 (.a0 (.a0 .d1))))
 cases h
 exact Aq hp0 func47 ⟨A6.ag,rfl⟩
 refine BD 6 127 384 (.agg ((aa g2)).toArray) M2 rfl b3 (bd 73) rfl (e2 rfl rfl) (fun p q=>AI (aT_c n (R2.hL0 hL q) (⟨(E0,F0,G0,H0,I0,J0,K0,M0),(P0,Q0,R0,U0,V0,W0,X0,Y0)⟩:Ta) Q4 B4)) rfl<|Rv 7 M2 rfl b3 (fun _=>AP 50 rfl)<|By 8 511 M2 rfl rfl .plain (Bs (j:=50) (old:=(([vI I2,vI Q2]:List Value) ++ aa X1 ++ aa b2 ++ aa c2 ++ ([vU E0,vU F0,vU G0,vU H0,vU I0,vU J0,vU K0,vU M0,vU P0,vU Q0,vU R0,vU U0,vU V0,vU W0,vU X0,vU Y0]:List Value))) (news:=(aa g2)) (new' :=(([vI I2,vI Q2]:List Value) ++ aa X1 ++ aa b2 ++ aa c2 ++ aa g2)) R2 .t6 rfl rfl rfl rfl rfl rfl (ah rfl) rfl) fun t07 B6 W8=>AJ (dk M2)<|AE<|MX.roundEnd q00 B6 .t3 fun u07 C6 X8=>AM (i:=19) (rk Y1) (Bd (m' :=1048575) (sk Y1) rfl .plain rfl (FV.not rfl) ?_)
 refine AJ (dk Y1)<|BA rfl<|Au<|AE<|Am<|Ab (Bp (i:=z2) (j:=1) rfl rfl (by omega))<|Ae rfl<|Aa ?_
 obtain ⟨D6,Y8⟩:=AF C6 .d3
 exact I3 (z2 + 1,I2,Q2,X1.fN.1,X1.fN.2.1,X1.fN.2.2.1,X1.fN.2.2.2.1,X1.fN.2.2.2.2.1,X1.fN.2.2.2.2.2.1,X1.fN.2.2.2.2.2.2.1,X1.fN.2.2.2.2.2.2.2,X1.fD.1,X1.fD.2.1,X1.fD.2.2.1,X1.fD.2.2.2.1,X1.fD.2.2.2.2.1,X1.fD.2.2.2.2.2.1,X1.fD.2.2.2.2.2.2.1,X1.fD.2.2.2.2.2.2.2,b2.fN.1,b2.fN.2.1,b2.fN.2.2.1,b2.fN.2.2.2.1,b2.fN.2.2.2.2.1,b2.fN.2.2.2.2.2.1,b2.fN.2.2.2.2.2.2.1,b2.fN.2.2.2.2.2.2.2,b2.fD.1,b2.fD.2.1,b2.fD.2.2.1,b2.fD.2.2.2.1,b2.fD.2.2.2.2.1,b2.fD.2.2.2.2.2.1,b2.fD.2.2.2.2.2.2.1,b2.fD.2.2.2.2.2.2.2,c2.fN.1,c2.fN.2.1,c2.fN.2.2.1,c2.fN.2.2.2.1,c2.fN.2.2.2.2.1,c2.fN.2.2.2.2.2.1,c2.fN.2.2.2.2.2.2.1,c2.fN.2.2.2.2.2.2.2,c2.fD.1,c2.fD.2.1,c2.fD.2.2.1,c2.fD.2.2.2.1,c2.fD.2.2.2.2.1,c2.fD.2.2.2.2.2.1,c2.fD.2.2.2.2.2.2.1,c2.fD.2.2.2.2.2.2.2,g2.fN.1,g2.fN.2.1,g2.fN.2.2.1,g2.fN.2.2.2.1,g2.fN.2.2.2.2.1,g2.fN.2.2.2.2.2.1,g2.fN.2.2.2.2.2.2.1,g2.fN.2.2.2.2.2.2.2,g2.fD.1,g2.fD.2.1,g2.fD.2.2.1,g2.fD.2.2.2.1,g2.fD.2.2.2.2.1,g2.fD.2.2.2.2.2.1,g2.fD.2.2.2.2.2.2.1,g2.fD.2.2.2.2.2.2.2) D6 (Tt J3 (Tt u4 (Tt j9 (Tt k9 (Tt p9 (Tt q9 (Tt s9 (Tt t9 (Tt u9 (Tt v9 (Tt U8 (Tt V8 (Tt W8 (Tt X8 Y8)))))))))))))) h
 refine Bf rfl ?_
 have h:=aH h y2
 try dsimp only at h
 refine MX.fin rfl<|Ap (u:=.tuple #[]) s00 func108 rfl .nil rfl<|MX.endRange0 g4 .hd (by intro h9; cases h9) fun x07 E6 W03=>?_
 obtain ⟨v2,X03⟩:=AF E6 .d1
 refine AE<|Ac<|Ag rfl<|Aa<|Aj<|du 8 fun c0 c3=>Rv 0 c0 rfl c3 (fun _=>AP 0 rfl)<|Rx 1 804 c0 rfl c3 (AQ rfl ((v2.memA .t2) 0 _ rfl))<|xk h (fun b03 j3 h=>?_) (fun p3 j3 h=>?_)
 refine Rv 3 c0 rfl c3 (fun _=>AP 1 rfl)<|Rx 4 800 c0 rfl c3 (AQ rfl ((v2.memA .t2) 1 _ rfl))<|BB [2,6,7] (rk c0) ⟨?_,?_,?_,trivial⟩
 refine Bj (fst:=[]) (cap:=[]) rfl .plain (bd 33) rfl (e2 rfl rfl) (fun p q=>ab_c n (v2.hL0 hL q)  j3) fun y07 D9=>?_
 obtain ⟨F6,Y03⟩:=v2.agr D9
 refine BE F6 .hd fun z07 G6 Z03=>?_
 obtain ⟨H6,b04⟩:=AF G6 .d1
 cases h
 exact Aq hp0 func47 ⟨H6.ag,rfl⟩
 refine RO.new (m' :=91) (sk c0) rfl .plain rfl (Aw zL v2) fun A07 Y01 X3 c04=>BB [2,7] (rk c0) ⟨?_,?_,trivial⟩
 refine Bj (fst:=[]) (cap:=[]) rfl .plain (bd 33) rfl (e2 rfl rfl) (fun p q=>ab_c n (X3.hL0 hL q)  j3) fun B07 E9=>?_
 obtain ⟨I6,d04⟩:=X3.agr E9
 refine BE I6 .t1 fun C07 J6 g04=>?_
 obtain ⟨K6,j04⟩:=AF J6 (.a0 .d1)
 cases h
 exact Aq hp0 func47 ⟨K6.ag,rfl⟩
 refine RO.new (m' :=219) (sk c0) rfl .plain rfl (Aw zL X3) fun D07 Z01 Z4 k04=>AM (i:=2) (rk c0) (Bj (fst:=[]) (cap:=[]) rfl .plain (bd 33) rfl (e2 rfl rfl) (fun p q=>ab_c n (Z4.hL0 hL q)  j3) (fun E07 F9=>?_))
 obtain ⟨M6,p04⟩:=Z4.agr F9
 refine BE M6 .t2 fun F07 P6 q04=>?_
 obtain ⟨Q6,s04⟩:=AF P6 (.a0 (.a0 .d1))
 cases h
 exact Aq hp0 func47 ⟨Q6.ag,rfl⟩
 refine RO.new (m' :=155) (sk c0) rfl .plain rfl (Aw zL v2) fun G07 b02 Y3 t04=>BB [2,6] (rk c0) ⟨?_,?_,trivial⟩
 refine Bj (fst:=[]) (cap:=[]) rfl .plain (bd 33) rfl (e2 rfl rfl) (fun p q=>ab_c n (Y3.hL0 hL q)  j3) fun H07 G9=>?_
 obtain ⟨R6,u04⟩:=Y3.agr G9
 refine BE R6 .t1 fun I07 U6 v04=>?_
 obtain ⟨V6,x04⟩:=AF U6 (.a0 .d1)
 cases h
 exact Aq hp0 func47 ⟨V6.ag,rfl⟩
 refine RO.new (m' :=219) (sk c0) rfl .plain rfl (Aw zL Y3) fun J07 c02 b5 y04=>AM (i:=2) (rk c0) (Bj (fst:=[]) (cap:=[]) rfl .plain (bd 33) rfl (e2 rfl rfl) (fun p q=>ab_c n (b5.hL0 hL q)  j3) (fun K07 H9=>?_))
 obtain ⟨W6,z04⟩:=b5.agr H9
 refine BE W6 .t2 fun M07 X6 A04=>?_
 obtain ⟨Y6,B04⟩:=AF X6 (.a0 (.a0 .d1))
 cases h
 exact Aq hp0 func47 ⟨Y6.ag,rfl⟩
 refine BD 2 7 800 (.agg ((aa p3)).toArray) c0 rfl c3 (bd 33) rfl (e2 rfl rfl) (fun p q=>AI (ab_c n (v2.hL0 hL q)  j3)) rfl<|Rv 3 c0 rfl c3 (fun _=>AP 1 rfl)<|Rx 4 800 c0 rfl c3 (AQ rfl ((v2.memA .t2) 1 _ rfl))<|xk h (fun c03 k3 h=>?_) (fun W2 k3 h=>?_)
 refine BB [5,6,7] (rk c0) ⟨?_,?_,?_,trivial⟩
 refine Bj (fst:=[]) (cap:=[]) rfl .plain (bd 33) rfl (e2 rfl rfl) (fun p q=>ab_c n (v2.hL0 hL q)  k3) fun P07 I9=>?_
 obtain ⟨Z6,C04⟩:=v2.agr I9
 refine BE Z6 .hd fun Q07 b7 D04=>?_
 obtain ⟨c7,E04⟩:=AF b7 .d1
 cases h
 exact Aq hp0 func47 ⟨c7.ag,rfl⟩
 refine RO.new (m' :=95) (sk c0) rfl .plain rfl (Aw zL v2) fun R07 d02 Z3 F04=>BB [5,7] (rk c0) ⟨?_,?_,trivial⟩
 refine Bj (fst:=[]) (cap:=[]) rfl .plain (bd 33) rfl (e2 rfl rfl) (fun p q=>ab_c n (Z3.hL0 hL q)  k3) fun U07 J9=>?_
 obtain ⟨d7,G04⟩:=Z3.agr J9
 refine BE d7 .t1 fun V07 j7 H04=>?_
 obtain ⟨k7,I04⟩:=AF j7 (.a0 .d1)
 cases h
 exact Aq hp0 func47 ⟨k7.ag,rfl⟩
 refine RO.new (m' :=223) (sk c0) rfl .plain rfl (Aw zL Z3) fun W07 g02 c5 J04=>AM (i:=5) (rk c0) (Bj (fst:=[]) (cap:=[]) rfl .plain (bd 33) rfl (e2 rfl rfl) (fun p q=>ab_c n (c5.hL0 hL q)  k3) (fun X07 K9=>?_))
 obtain ⟨p7,K04⟩:=c5.agr K9
 refine BE p7 .t2 fun Y07 q7 M04=>?_
 obtain ⟨s7,P04⟩:=AF q7 (.a0 (.a0 .d1))
 cases h
 exact Aq hp0 func47 ⟨s7.ag,rfl⟩
 refine RO.new (m' :=159) (sk c0) rfl .plain rfl (Aw zL v2) fun Z07 j02 b4 Q04=>BB [5,6] (rk c0) ⟨?_,?_,trivial⟩
 refine Bj (fst:=[]) (cap:=[]) rfl .plain (bd 33) rfl (e2 rfl rfl) (fun p q=>ab_c n (b4.hL0 hL q)  k3) fun b08 M9=>?_
 obtain ⟨t7,R04⟩:=b4.agr M9
 refine BE t7 .t1 fun c08 u7 U04=>?_
 obtain ⟨v7,V04⟩:=AF u7 (.a0 .d1)
 cases h
 exact Aq hp0 func47 ⟨v7.ag,rfl⟩
 refine RO.new (m' :=223) (sk c0) rfl .plain rfl (Aw zL b4) fun d08 k02 d5 W04=>AM (i:=5) (rk c0) (Bj (fst:=[]) (cap:=[]) rfl .plain (bd 33) rfl (e2 rfl rfl) (fun p q=>ab_c n (d5.hL0 hL q)  k3) (fun g08 P9=>?_))
 obtain ⟨x7,X04⟩:=d5.agr P9
 refine BE x7 .t2 fun j08 y7 Y04=>?_
 obtain ⟨z7,Z04⟩:=AF y7 (.a0 (.a0 .d1))
 cases h
 exact Aq hp0 func47 ⟨z7.ag,rfl⟩
 refine BD 5 63 768 (.agg ((aa W2)).toArray) c0 rfl c3 (bd 33) rfl (e2 rfl rfl) (fun p q=>AI (ab_c n (v2.hL0 hL q)  k3)) rfl<|RD.mo (α:=Nat × Nat) (fun ⟨E3,F3⟩=>[(6,vP D3),(7,vP G3),(8,vP H3),(11,.func (.func 87) #[] #[]),(105,.agg ((aa p3)).toArray),(108,.agg ((aa W2)).toArray),(12,vP F3),(13,vP E3)]) (fun ⟨E3,F3⟩=>[.cells E3 zL 42,.cells F3 zL 42,.obj U3 (.deferred (some [])),.cells H3 [vI B2,vI k2,vU C1,vU D1,vU E1,vU F1,vU G1,vU H1,vU I1,vU J1,vU K1,vU M1,vU P1,vU Q1,vU R1,vU U1,vU V1,vU W1,vU Z0,vU b1,vU c1,vU g1,vU j1,vU k1,vU p1,vU q1,vU s1,vU u1,vU v1,vU x1,vU y1,vU z1,vU A1,vU B1,vU d0,vU g0,vU j0,vU p0,vU q0,vU s0,vU t0,vU u0,vU v0,vU x0,vU y0,vU z0,vU A0,vU B0,vU C0,vU D0,vU E0,vU F0,vU G0,vU H0,vU I0,vU J0,vU K0,vU M0,vU P0,vU Q0,vU R0,vU U0,vU V0,vU W0,vU X0,vU Y0] 102,.cells G3 (aa b0) 42,.cells D3 [vI 0,vI 0,vW 0,vW 0,vW 0,vW 0,vW 0,vW 0,vW 0,vW 0,vW 0,vW 0,vW 0,vW 0,vW 0,vW 0,vW 0,vW 0,vW 0,vW 0,vW 0,vW 0,vW 0,vW 0,vW 0,vW 0,vW 0,vW 0,vW 0,vW 0,vW 0,vW 0,vW 0,vW 0,vW 0,vW 0,vW 0,vW 0,vW 0,vW 0,vW 0,vW 0,vW 0,vW 0,vW 0,vW 0,vW 0,vW 0,vW 0,vW 0,vW 0,vW 0,vW 0,vW 0,vW 0,vW 0,vW 0,vW 0,vW 0,vW 0,vW 0,vW 0,vW 0,vW 0,vW 0,vW 0,vW 0,vW 0,vW 0,vW 0,vW 0,vW 0,vW 0,vW 0,vW 0,vW 0,vW 0,vW 0,vW 0,vW 0,vW 0,vW 0,vW 0,vW 0,vW 0,vW 0,vW 0,vW 0,vW 0,vW 0,vW 0,vW 0,vW 0,vW 0,vW 0,vW 0,vW 0,vW 0] 104]) v2 2 255 ?_ ?_
 rintro ⟨E3,F3⟩ B09 A7 d05
 try dsimp only
 refine By 8 511 c0 rfl rfl .plain (AA (news:=(aa p3)) A7 .t1 rfl rfl rfl rfl rfl rfl (ah rfl)) fun p08 B7 g05=>By 9 1023 c0 rfl rfl .plain (AA (news:=(aa W2)) B7 .hd rfl rfl rfl rfl rfl rfl (ah rfl)) fun q08 Z2 j05=>AJ (dk c0)<|Ac<|Ae rfl<|Ab (AC rfl (Z2.memA .t1))<|Bg 18 rfl<|Ab (AY (cs:=[vU Z0,vU b1,vU c1,vU g1,vU j1,vU k1,vU p1,vU q1,vU s1,vU u1,vU v1,vU x1,vU y1,vU z1,vU A1,vU B1]) rfl rfl (ae (Z2.memA .t3) 18 16))<|Ab (AC rfl (Z2.memA .hd))<|Ab (AC rfl (Z2.memA .hd))<|xk h (fun d03 C4 h=>?_) (fun X2 C4 h=>?_)
 refine Bo (fst:=[]) (cap:=[]) .plain (bd 87) rfl (e4 rfl rfl rfl rfl) (fun p q=>bw_c n (Z2.hL0 hL q) p3 (⟨(Z0,b1,c1,g1,j1,k1,p1,q1),(s1,u1,v1,x1,y1,z1,A1,B1)⟩:Ta) W2 W2 C4) fun s08 Q9=>?_
 obtain ⟨C7,k05⟩:=Z2.agr Q9
 refine BE C7 .t2 fun t08 D7 p05=>?_
 obtain ⟨E7,q05⟩:=AF D7 (.a0 (.a0 .d1))
 cases h
 exact Aq hp0 func47 ⟨E7.ag,rfl⟩
 refine Bi (.agg ((aa X2)).toArray) (bd 87) rfl (e4 rfl rfl rfl rfl) (fun p q=>AI (bw_c n (Z2.hL0 hL q) p3 (⟨(Z0,b1,c1,g1,j1,k1,p1,q1),(s1,u1,v1,x1,y1,z1,A1,B1)⟩:Ta) W2 W2 C4)) rfl<|RG.nl zL Z2 fun u08 p02 F7 s05=>AS (aa X2) F7 .hd (ah rfl) fun v08 H2 t05=>Aa<|Ac<|Ab (AC rfl (H2.memA .hd))<|Ab (AC rfl (H2.memA .t5))<|Ab (FV.eqlV (v:=.agg ((aa X2)).toArray) (u:=.agg ((aa b0)).toArray) rfl rfl (aG X2 b0))<|Bk (fst:=[]) (cap:=[]) (vs:=[.bool (decide (X2 = b0)),vI 7]) .plain (bd 29) func29 rfl rfl rfl rfl (e2 rfl rfl) rfl fun C02 k00 U00=>Ac<|Ae rfl<|Aa<|AW rfl h (fun C5 h=>?_) (fun C5 h=>?_)
 refine Am<|Ae rfl<|Bk (fst:=[]) (cap:=[]) (vs:=[vI 7]) .plain (bd 53) func53 rfl rfl rfl rfl (e1 rfl) rfl fun D02 C06 V00=>Ac<|Ae rfl<|Ab (FV.neqN (i:=7) (j:=0) rfl rfl)<|Aa<|Be rfl<|Am<|Ae rfl<|Ab (AO (vs:=[vI 7]) (u:=.agg #[vI 7]) (e1 rfl) (fun p=>by kernel_rfl))<|Ab (Bw rfl rfl)<|RG.panic .plain rfl<|Aq V00 func53<|Aq U00 func29<|BE H2 .t3 fun x08 G7 u05=>?_
 obtain ⟨H7,v05⟩:=AF G7 (.a0 (.a0 (.a0 .d1)))
 cases h
 exact Aq hp0 func47 ⟨H7.ag,rfl⟩
 refine Au<|MX.fin rfl<|Ap (u:=.tuple #[]) k00 func29 rfl .nil rfl<|Aa<|Aj<|du 11 fun G2 P2=>Rx 0 3072 G2 rfl P2 (AC rfl (H2.memA .t4))<|Rx 1 3072 G2 rfl P2 (AC rfl (H2.memA .hd))<|Rv 2 G2 rfl P2 (fun _=>Ak rfl)<|Rx 3 3584 G2 rfl P2 (AC rfl (H2.memA .t2))<|Rv 4 G2 rfl P2 (fun _=>AP 34 rfl)<|Rx 5 3584 G2 rfl P2 (AY (cs:=[vU d0,vU g0,vU j0,vU p0,vU q0,vU s0,vU t0,vU u0,vU v0,vU x0,vU y0,vU z0,vU A0,vU B0,vU C0,vU D0]) rfl rfl (ae (H2.memA .t4) 34 16))<|Rx 6 3584 G2 rfl P2 (AC rfl (H2.memA .t1))<|Rv 7 G2 rfl P2 (fun _=>AP 2 rfl)<|Rx 8 3584 G2 rfl P2 (AY (cs:=[vU C1,vU D1,vU E1,vU F1,vU G1,vU H1,vU I1,vU J1,vU K1,vU M1,vU P1,vU Q1,vU R1,vU U1,vU V1,vU W1]) rfl rfl (ae (H2.memA .t4) 2 16))<|xk h (fun g03 D4 h=>?_) (fun C3 D4 h=>?_)
 refine AM (i:=9) (rk G2) (Bj (fst:=[]) (cap:=[]) rfl .plain (bd 87) rfl (e4 rfl rfl rfl rfl) (fun p q=>bw_c n (H2.hL0 hL q) p3 (⟨(d0,g0,j0,p0,q0,s0,t0,u0),(v0,x0,y0,z0,A0,B0,C0,D0)⟩:Ta) W2 (⟨(C1,D1,E1,F1,G1,H1,I1,J1),(K1,M1,P1,Q1,R1,U1,V1,W1)⟩:Ta) D4) (fun y08 R9=>?_))
 obtain ⟨I7,x05⟩:=H2.agr R9
 refine BE I7 .t3 fun z08 J7 y05=>?_
 obtain ⟨K7,z05⟩:=AF J7 (.a0 (.a0 (.a0 .d1)))
 cases h
 exact Aq hp0 func47 ⟨K7.ag,rfl⟩
 refine BD 9 1023 3072 (.agg ((aa C3)).toArray) G2 rfl P2 (bd 87) rfl (e4 rfl rfl rfl rfl) (fun p q=>AI (bw_c n (H2.hL0 hL q) p3 (⟨(d0,g0,j0,p0,q0,s0,t0,u0),(v0,x0,y0,z0,A0,B0,C0,D0)⟩:Ta) W2 (⟨(C1,D1,E1,F1,G1,H1,I1,J1),(K1,M1,P1,Q1,R1,U1,V1,W1)⟩:Ta) D4)) rfl<|Rv 10 G2 rfl P2 (fun _=>AO (vs:=[.agg #[vI B2,vI k2,vU C1,vU D1,vU E1,vU F1,vU G1,vU H1,vU I1,vU J1,vU K1,vU M1,vU P1,vU Q1,vU R1,vU U1,vU V1,vU W1,vU Z0,vU b1,vU c1,vU g1,vU j1,vU k1,vU p1,vU q1,vU s1,vU u1,vU v1,vU x1,vU y1,vU z1,vU A1,vU B1,vU d0,vU g0,vU j0,vU p0,vU q0,vU s0,vU t0,vU u0,vU v0,vU x0,vU y0,vU z0,vU A0,vU B0,vU C0,vU D0,vU E0,vU F0,vU G0,vU H0,vU I0,vU J0,vU K0,vU M0,vU P0,vU Q0,vU R0,vU U0,vU V0,vU W0,vU X0,vU Y0],.agg ((aa X2)).toArray,.agg ((aa C3)).toArray]) (u:=.agg ((([vI B2,vI k2,vU C1,vU D1,vU E1,vU F1,vU G1,vU H1,vU I1,vU J1,vU K1,vU M1,vU P1,vU Q1,vU R1,vU U1,vU V1,vU W1,vU Z0,vU b1,vU c1,vU g1,vU j1,vU k1,vU p1,vU q1,vU s1,vU u1,vU v1,vU x1,vU y1,vU z1,vU A1,vU B1,vU d0,vU g0,vU j0,vU p0,vU q0,vU s0,vU t0,vU u0,vU v0,vU x0,vU y0,vU z0,vU A0,vU B0,vU C0,vU D0,vU E0,vU F0,vU G0,vU H0,vU I0,vU J0,vU K0,vU M0,vU P0,vU Q0,vU R0,vU U0,vU V0,vU W0,vU X0,vU Y0]:List Value) ++ aa X2 ++ aa C3)).toArray) (e3 rfl rfl rfl) (fun p=>by kernel_rfl))<|By 11 4095 G2 rfl rfl .plain (AA (news:=(([vI B2,vI k2,vU C1,vU D1,vU E1,vU F1,vU G1,vU H1,vU I1,vU J1,vU K1,vU M1,vU P1,vU Q1,vU R1,vU U1,vU V1,vU W1,vU Z0,vU b1,vU c1,vU g1,vU j1,vU k1,vU p1,vU q1,vU s1,vU u1,vU v1,vU x1,vU y1,vU z1,vU A1,vU B1,vU d0,vU g0,vU j0,vU p0,vU q0,vU s0,vU t0,vU u0,vU v0,vU x0,vU y0,vU z0,vU A0,vU B0,vU C0,vU D0,vU E0,vU F0,vU G0,vU H0,vU I0,vU J0,vU K0,vU M0,vU P0,vU Q0,vU R0,vU U0,vU V0,vU W0,vU X0,vU Y0]:List Value) ++ aa X2 ++ aa C3)) H2 .t6 rfl rfl rfl rfl rfl rfl (ah rfl)) fun A08 M7 A05=>?_
 refine AJ (dk G2)<|Ao rfl<|RT.take M7 .t3 fun B08 P7 B05=>?_
 obtain ⟨g5,C05⟩:=AF P7 (.a0 (.a0 (.a0 .d1)))
 refine Ap hb0 func47 rfl (.cons (.many (cs:=(([vI B2,vI k2,vU C1,vU D1,vU E1,vU F1,vU G1,vU H1,vU I1,vU J1,vU K1,vU M1,vU P1,vU Q1,vU R1,vU U1,vU V1,vU W1,vU Z0,vU b1,vU c1,vU g1,vU j1,vU k1,vU p1,vU q1,vU s1,vU u1,vU v1,vU x1,vU y1,vU z1,vU A1,vU B1,vU d0,vU g0,vU j0,vU p0,vU q0,vU s0,vU t0,vU u0,vU v0,vU x0,vU y0,vU z0,vU A0,vU B0,vU C0,vU D0,vU E0,vU F0,vU G0,vU H0,vU I0,vU J0,vU K0,vU M0,vU P0,vU Q0,vU R0,vU U0,vU V0,vU W0,vU X0,vU Y0]:List Value) ++ aa X2 ++ aa C3)) rfl rfl (g5.memA .t5)) .nil) rfl ?_
 cases h
 exact ⟨g5.ag,fun p q=>ay rfl⟩
 intro Y4
 refine BB [6,7] (rk c0) ⟨?_,?_,trivial⟩
 refine RO.new (m' :=127) (sk c0) rfl .plain rfl (Aw zL v2) fun I01 V3 c4 q4=>RD.nu 7 255 c0 rfl .plain rfl (Aw zL c4) fun J01 W3 d4 s4=>?_
 obtain ⟨Q7,Z8⟩:=AF d4 (.a0 (.a0 (.a0 (.a1 (.a1 (.a1 .done))))))
 exact Y4 (W3,V3) Q7 (Tt q4 (Tt s4 Z8))
 refine RO.new (m' :=191) (sk c0) rfl .plain rfl (Aw zL v2) fun J01 W3 d4 s4=>RD.nu 6 255 c0 rfl .plain rfl (Aw zL d4) fun I01 V3 c4 q4=>?_
 obtain ⟨R7,b9⟩:=AF c4 (.a1 (.a0 (.a0 (.a1 (.a1 (.a1 .done))))))
 exact Y4 (W3,V3) R7 (Tt s4 (Tt q4 b9))
 refine Am<|Ae rfl<|Ab (AO (vs:=[vI B3]) (u:=.agg #[vI B3]) (e1 rfl) (fun p=>by kernel_rfl))<|Ab (Bw rfl rfl)<|RG.panic .plain rfl<|Aq R00 func53 ?_
 cases h
 exact Aq hp0 func47 ⟨E2.ag,rfl⟩
def cg_p (n:Nat) (a0:Tf) (a1:Int) (a2:Int):Option (Except Tc Ttold):=
  (aR_p n a0 a1 a2).bind fun t0=>exc t0 (fun b0=>(bb_p n b0.fn b0.fd).bind fun u0=>exc u0 (fun c0=>(ab_p n b0.fF.fx (1:Int)).bind fun v0=>exc v0 (fun x0=>(ak_p n c0 x0).bind fun y0=>exc y0 (fun z0=>(aZ_p n b0.fF.fy z0).bind fun A0=>exc A0 (fun B0=>(ab_p n b0.fF.fw (1:Int)).bind fun C0=>exc C0 (fun D0=>(bb_p n B0 D0).bind fun E0=>exc E0 (fun F0=>some (.ok (⟨c0,F0⟩:Ttold))) (fun s0=>some (.error s0))) (fun q0=>some (.error q0))) (fun p0=>some (.error p0))) (fun k0=>some (.error k0))) (fun j0=>some (.error j0))) (fun g0=>some (.error g0))) (fun d0=>some (.error d0))
theorem cg_c (n:Nat) {L w} (hL:hl L w) (a0:Tf) {v0_3:Value} (h0_3:Rep.R w L [v0_3] a0.fu) {p0:Nat} (m0:∀ j9 v9,([vI a0.fj,vI a0.fh,vI a0.fl,v0_3]:List Value)[j9]? = some v9 -> w.cell? ((⟨p0,0,none⟩:Addr).add j9) = some v9) {a1:Int} {p1:Nat} (m1:∀ j9 v9,([vI a1]:List Value)[j9]? = some v9 -> w.cell? ((⟨p1,0,none⟩:Addr).add j9) = some v9) {a2:Int} {p2:Nat} (m2:∀ j9 v9,([vI a2]:List Value)[j9]? = some v9 -> w.cell? ((⟨p2,0,none⟩:Addr).add j9) = some v9)  {r:Except Tc Ttold} (h:cg_p n a0 a1 a2 = some r) :
 Cl 46 #[.pointer (some ⟨p0,0,none⟩),.pointer (some ⟨p1,0,none⟩),.pointer (some ⟨p2,0,none⟩)] w (aD w (fun (y:Ttold) _ u=>u = .agg ((cn y)).toArray) (fun e=>.iface 116 (.agg #[vI e.fB])) r):=by
 unfold cg_p at h
 refine BF func46 rfl rfl rfl fun _ cs0 hb0 hp0=>Ac<|RG.nl [vW 0,vW 0,vW 0,vW 0,vW 0,vW 0,vW 0,vW 0,vW 0,vW 0,vW 0,vW 0,vW 0,vW 0,vW 0,vW 0,vW 0,vW 0,vW 0,vW 0,vW 0,vW 0,vW 0,vW 0,vW 0,vW 0,vW 0,vW 0,vW 0,vW 0,vW 0,vW 0] (AB w) fun P1 d1 j0 z1=>Aa<|Ac<|Ab (AC rfl (fun j9 v9 h9=>j0.ag.cell0 (m0 j9 v9 h9)))<|AU rfl ((fun j9 v9 h9=>j0.ag.cell0 (m1 j9 v9 h9)) 0 _ rfl)<|AU rfl ((fun j9 v9 h9=>j0.ag.cell0 (m2 j9 v9 h9)) 0 _ rfl)<|xk h (fun k1 u0 h=>?_) (fun d0 u0 h=>?_)
 refine Bo (fst:=[]) (cap:=[]) .plain (bd 47) rfl (e3 rfl rfl rfl) (fun p q=>aR_c n (j0.hL0 hL q) a0 (j0.k0 h0_3 q) u0) fun Q1 V0=>?_
 obtain ⟨H0,A1⟩:=j0.agr V0
 cases h
 exact Aq hp0 func46 ⟨H0.ag,rfl⟩
 refine Bi (.agg ((([vI d0.fF.fw,vI d0.fF.fx]:List Value) ++ aa d0.fF.fy ++ aa d0.fF.fa ++ aa d0.fF.fb ++ aa d0.fF.fc ++ aa d0.fd ++ aa d0.fn)).toArray) (bd 47) rfl (e3 rfl rfl rfl) (fun p q=>AI (aR_c n (j0.hL0 hL q) a0 (j0.k0 h0_3 q) u0)) rfl<|RG.nl [vI 0,vI 0,vW 0,vW 0,vW 0,vW 0,vW 0,vW 0,vW 0,vW 0,vW 0,vW 0,vW 0,vW 0,vW 0,vW 0,vW 0,vW 0,vW 0,vW 0,vW 0,vW 0,vW 0,vW 0,vW 0,vW 0,vW 0,vW 0,vW 0,vW 0,vW 0,vW 0,vW 0,vW 0,vW 0,vW 0,vW 0,vW 0,vW 0,vW 0,vW 0,vW 0,vW 0,vW 0,vW 0,vW 0,vW 0,vW 0,vW 0,vW 0,vW 0,vW 0,vW 0,vW 0,vW 0,vW 0,vW 0,vW 0,vW 0,vW 0,vW 0,vW 0,vW 0,vW 0,vW 0,vW 0,vW 0,vW 0,vW 0,vW 0,vW 0,vW 0,vW 0,vW 0,vW 0,vW 0,vW 0,vW 0,vW 0,vW 0,vW 0,vW 0,vW 0,vW 0,vW 0,vW 0,vW 0,vW 0,vW 0,vW 0,vW 0,vW 0,vW 0,vW 0,vW 0,vW 0,vW 0,vW 0] j0 fun R1 g1 I0 B1=>AS (([vI d0.fF.fw,vI d0.fF.fx]:List Value) ++ aa d0.fF.fy ++ aa d0.fF.fa ++ aa d0.fF.fb ++ aa d0.fF.fc ++ aa d0.fd ++ aa d0.fn) I0 .hd (ah rfl) fun U1 s0 C1=>Aa<|Ac<|Bg 82 rfl<|Ab (AY (cs:=(aa d0.fn)) rfl rfl (ae (s0.memA .hd) 82 16))<|Bg 66 rfl<|Ab (AY (cs:=(aa d0.fd)) rfl rfl (ae (s0.memA .hd) 66 16))<|xk h (fun q1 v0 h=>?_) (fun q0 v0 h=>?_)
 refine Bo (fst:=[]) (cap:=[]) .plain (bd 34) rfl (e2 rfl rfl) (fun p q=>bb_c n (s0.hL0 hL q) d0.fn d0.fd v0) fun V1 W0=>?_
 obtain ⟨J0,D1⟩:=s0.agr W0
 cases h
 exact Aq hp0 func46 ⟨J0.ag,rfl⟩
 refine Bi (.agg ((aa q0)).toArray) (bd 34) rfl (e2 rfl rfl) (fun p q=>AI (bb_c n (s0.hL0 hL q) d0.fn d0.fd v0)) rfl<|RG.nl zL s0 fun W1 j1 K0 E1=>AS (aa q0) K0 .hd (ah rfl) fun X1 g0 F1=>Aa<|Aj<|du 17 fun b0 c0=>Rx 0 196608 b0 rfl c0 (AC rfl (g0.memA .hd))<|Rv 1 b0 rfl c0 (fun _=>AP 0 rfl)<|Rv 2 b0 rfl c0 (fun _=>AP 2 rfl)<|Rx 3 246784 b0 rfl c0 (AY (cs:=(aa d0.fF.fy)) rfl rfl (ae (aM (g0.memA .t1) 0) 2 16))<|Rx 4 247296 b0 rfl c0 (AC rfl (g0.memA .hd))<|Rv 5 b0 rfl c0 (fun _=>AP 0 rfl)<|Rv 6 b0 rfl c0 (fun _=>AP 1 rfl)<|Rx 7 247552 b0 rfl c0 (AQ rfl ((aM (g0.memA .t1) 0) 1 _ rfl))<|xk h (fun s1 x0 h=>?_) (fun C0 x0 h=>?_)
 refine Rv 11 b0 rfl c0 (fun _=>AP 0 rfl)<|Rv 12 b0 rfl c0 (fun _=>AP 0 rfl)<|Rx 13 245760 b0 rfl c0 (AQ rfl ((aM (g0.memA .t1) 0) 0 _ rfl))<|AM (i:=8) (rk b0) (Bj (fst:=[]) (cap:=[]) rfl .plain (bd 33) rfl (e2 rfl rfl) (fun p q=>ab_c n (g0.hL0 hL q)  x0) (fun Y1 X0=>?_))
 obtain ⟨M0,G1⟩:=g0.agr X0
 cases h
 exact Aq hp0 func46 ⟨M0.ag,rfl⟩
 refine BD 8 511 247296 (.agg ((aa C0)).toArray) b0 rfl c0 (bd 33) rfl (e2 rfl rfl) (fun p q=>AI (ab_c n (g0.hL0 hL q)  x0)) rfl<|xk h (fun u1 y0 h=>?_) (fun D0 y0 h=>?_)
 refine Rv 11 b0 rfl c0 (fun _=>AP 0 rfl)<|Rv 12 b0 rfl c0 (fun _=>AP 0 rfl)<|Rx 13 245760 b0 rfl c0 (AQ rfl ((aM (g0.memA .t1) 0) 0 _ rfl))<|AM (i:=9) (rk b0) (Bj (fst:=[]) (cap:=[]) rfl .plain (bd 48) rfl (e2 rfl rfl) (fun p q=>ak_c n (g0.hL0 hL q) q0 C0 y0) (fun Z1 Y0=>?_))
 obtain ⟨P0,H1⟩:=g0.agr Y0
 cases h
 exact Aq hp0 func46 ⟨P0.ag,rfl⟩
 refine BD 9 1023 246784 (.agg ((aa D0)).toArray) b0 rfl c0 (bd 48) rfl (e2 rfl rfl) (fun p q=>AI (ak_c n (g0.hL0 hL q) q0 C0 y0)) rfl<|xk h (fun v1 z0 h=>?_) (fun E0 z0 h=>?_)
 refine Rv 11 b0 rfl c0 (fun _=>AP 0 rfl)<|Rv 12 b0 rfl c0 (fun _=>AP 0 rfl)<|Rx 13 245760 b0 rfl c0 (AQ rfl ((aM (g0.memA .t1) 0) 0 _ rfl))<|AM (i:=10) (rk b0) (Bj (fst:=[]) (cap:=[]) rfl .plain (bd 32) rfl (e2 rfl rfl) (fun p q=>aZ_c n (g0.hL0 hL q) d0.fF.fy D0 z0) (fun b2 Z0=>?_))
 obtain ⟨Q0,I1⟩:=g0.agr Z0
 cases h
 exact Aq hp0 func46 ⟨Q0.ag,rfl⟩
 refine BD 10 2047 245760 (.agg ((aa E0)).toArray) b0 rfl c0 (bd 32) rfl (e2 rfl rfl) (fun p q=>AI (aZ_c n (g0.hL0 hL q) d0.fF.fy D0 z0)) rfl<|Rv 11 b0 rfl c0 (fun _=>AP 0 rfl)<|Rv 12 b0 rfl c0 (fun _=>AP 0 rfl)<|Rx 13 245760 b0 rfl c0 (AQ rfl ((aM (g0.memA .t1) 0) 0 _ rfl))<|xk h (fun x1 A0 h=>?_) (fun F0 A0 h=>?_)
 refine AM (i:=14) (rk b0) (Bj (fst:=[]) (cap:=[]) rfl .plain (bd 33) rfl (e2 rfl rfl) (fun p q=>ab_c n (g0.hL0 hL q)  A0) (fun c2 b1=>?_))
 obtain ⟨R0,J1⟩:=g0.agr b1
 cases h
 exact Aq hp0 func46 ⟨R0.ag,rfl⟩
 refine BD 14 32767 229376 (.agg ((aa F0)).toArray) b0 rfl c0 (bd 33) rfl (e2 rfl rfl) (fun p q=>AI (ab_c n (g0.hL0 hL q)  A0)) rfl<|xk h (fun y1 B0 h=>?_) (fun t0 B0 h=>?_)
 refine AM (i:=15) (rk b0) (Bj (fst:=[]) (cap:=[]) rfl .plain (bd 34) rfl (e2 rfl rfl) (fun p q=>bb_c n (g0.hL0 hL q) E0 F0 B0) (fun d2 c1=>?_))
 obtain ⟨U0,K1⟩:=g0.agr c1
 cases h
 exact Aq hp0 func46 ⟨U0.ag,rfl⟩
 refine BD 15 65535 196608 (.agg ((aa t0)).toArray) b0 rfl c0 (bd 34) rfl (e2 rfl rfl) (fun p q=>AI (bb_c n (g0.hL0 hL q) E0 F0 B0)) rfl<|Rv 16 b0 rfl c0 (fun _=>AO (vs:=[.agg ((aa q0)).toArray,.agg ((aa t0)).toArray]) (u:=.agg ((aa q0 ++ aa t0)).toArray) (e2 rfl rfl) (fun p=>by kernel_rfl))<|By 17 262143 b0 rfl rfl .plain (AA (news:=(aa q0 ++ aa t0)) g0 .t2 rfl rfl rfl rfl rfl rfl (ah rfl)) fun g2 G0 M1=>AJ (dk b0)<|Ao rfl<|Ap hb0 func46 rfl (.cons (.many (cs:=(aa q0 ++ aa t0)) rfl rfl (G0.memA .t2)) .nil) rfl ?_
 cases h
 exact ⟨G0.ag,fun p q=>ay rfl⟩

def cp_p (n:Nat) (a0:Tf) (a1:Int) (a2:Int):Option (Ta × Ta × Int):=
  (cg_p n a0 a1 a2).bind fun d0=>exc d0 (fun b0=>some (b0.fI,b0.fL,(0:Int))) (fun c0=>some ((⟨(0,0,0,0,0,0,0,0),(0,0,0,0,0,0,0,0)⟩:Ta),(⟨(0,0,0,0,0,0,0,0),(0,0,0,0,0,0,0,0)⟩:Ta),c0.fB))
theorem cp_c (n:Nat) {L w} (hL:hl L w) (a0:Tf) {v0_3:Value} (h0_3:Rep.R w L [v0_3] a0.fu) {a1:Int} {a2:Int}  {r:Ta × Ta × Int} (h:cp_p n a0 a1 a2 = some r) :
 Cl 15 #[.agg #[vI a0.fj,vI a0.fh,vI a0.fl,v0_3],vI a1,vI a2] w (aj w fun _ u=>u = .tuple #[.agg ((aa r.1)).toArray,.agg ((aa r.2.1)).toArray,vI r.2.2]):=by
 unfold cp_p at h
 refine AG func15 rfl rfl rfl fun _ cs0 hb0=>Ac<|RG.bx (AB w) rfl rfl fun V2 s0 b1 v2=>RG.bx b1 rfl rfl fun Z2 t0 g1 x2=>RG.bx g1 rfl rfl fun b3 u0 j1 y2=>RG.nl zL j1 fun p3 v0 y1 F2=>RG.nl zL y1 fun q3 x0 z1 G2=>Ag rfl<|Aa<|Ac<|Ab (BG (vs:=[]) (us:=[vP s0,vP t0,vP u0]) ak (e3 rfl rfl rfl))<|Bk (fst:=[]) (cap:=[]) (vs:=[.func (.func 46) #[] #[vP s0,vP t0,vP u0]]) .plain (bd 45) func45 rfl rfl rfl rfl (e1 rfl) rfl fun p2 Y0 U2=>Ac<|RG.nl [vW 0,vW 0,vW 0,vW 0,vW 0,vW 0,vW 0,vW 0,vW 0,vW 0,vW 0,vW 0,vW 0,vW 0,vW 0,vW 0,vW 0,vW 0,vW 0,vW 0,vW 0,vW 0,vW 0,vW 0,vW 0,vW 0,vW 0,vW 0,vW 0,vW 0,vW 0,vW 0] z1 fun u3 y0 D1 J2=>RG.nl [vI 0] D1 fun v3 p0 g0 K2=>Aa<|Ac<|Ab (BG (vs:=[]) (us:=[vP y0,vP p0]) ak (e2 rfl rfl))<|RG.defer (fst:=[]) (cap:=[vP y0,vP p0]) (vs:=[]) rfl .plain rfl ak<|Aa<|Ac ?_
 refine Ae rfl<|xk h (fun q0 R0 h=>?_) (fun b0 R0 h=>?_)
 refine Bo (fst:=[]) (cap:=[vP s0,vP t0,vP u0]) .plain (bd 46) rfl ak (fun p q=>cg_c n (g0.hL0 hL q) a0 (g0.k0 h0_3 q) (ai q (g0.memA .t6)) (ai q (g0.memA .t5)) (ai q (g0.memA .t4)) R0) fun x3 Q1=>?_
 obtain ⟨E1,M2⟩:=g0.agr Q1
 refine PN.callD (vs:=[]) (cap:=[vP y0,vP p0]) (bd 85) func85 rfl rfl rfl fun k2 R1 V1=>Ac<|RG.recover1 .plain R1 rfl<|Ag rfl<|Aa<|Ac<|Ae rfl<|Ab (FV.neqI underlying20 rfl rfl)<|Aa<|Be rfl<|Ac<|Ae rfl<|Ab (FV.assertT rfl rfl)<|Ae rfl<|Ab (Ah rfl rfl)<|Ab (Ah rfl rfl)<|RG.nl [vI 0] E1 fun y3 c2 F1 P2=>AS [vI q0.fB] F1 .hd (o1 rfl) fun z3 G1 Q2=>Ag rfl<|Aa<|Aj<|Ac<|Ae rfl<|Ab (FV.not rfl)<|Aa<|BA rfl<|Au<|Ac<|RG.nl [vW 0,vW 0,vW 0,vW 0,vW 0,vW 0,vW 0,vW 0,vW 0,vW 0,vW 0,vW 0,vW 0,vW 0,vW 0,vW 0,vW 0,vW 0,vW 0,vW 0,vW 0,vW 0,vW 0,vW 0,vW 0,vW 0,vW 0,vW 0,vW 0,vW 0,vW 0,vW 0] G1 fun A3 g2 B0 R2=>Aa<|du 3 fun j0 U0=>Rx 0 24 j0 rfl U0 (AC rfl (B0.memA .hd))<|Rv 1 j0 rfl U0 (fun _=>AP 0 rfl)<|RD.mo (α:=Unit) (fun ()=>[(1,vP p0),(19,vI q0.fB)]) (fun ()=>[.cells p0 [vI 0] 43,.cells y0 [vW 0,vW 0,vW 0,vW 0,vW 0,vW 0,vW 0,vW 0,vW 0,vW 0,vW 0,vW 0,vW 0,vW 0,vW 0,vW 0,vW 0,vW 0,vW 0,vW 0,vW 0,vW 0,vW 0,vW 0,vW 0,vW 0,vW 0,vW 0,vW 0,vW 0,vW 0,vW 0] 98,.cells x0 zL 42,.cells v0 zL 42,.cells u0 [vI a2] 3,.cells t0 [vI a1] 3,.cells s0 [vI a0.fj,vI a0.fh,vI a0.fl,v0_3] 35]) B0 1 15 ?_ ?_
 rintro ⟨⟩ B3 c1 q2
 try dsimp only
 refine By 4 31 j0 rfl rfl .plain (AA (news:=[vI q0.fB]) c1 .hd rfl rfl rfl rfl rfl rfl (o1 rfl)) fun W2 H0 s2=>AJ (dk j0)<|MX.fin rfl<|RT.leaveD1 V1 func85 rfl .nil<|Ap (u:=.tuple #[.agg #[vW 0,vW 0,vW 0,vW 0,vW 0,vW 0,vW 0,vW 0,vW 0,vW 0,vW 0,vW 0,vW 0,vW 0,vW 0,vW 0,vW 0,vW 0,vW 0,vW 0,vW 0,vW 0,vW 0,vW 0,vW 0,vW 0,vW 0,vW 0,vW 0,vW 0,vW 0,vW 0],vI q0.fB]) Y0 func45 rfl (.cons (.many (cs:=[vW 0,vW 0,vW 0,vW 0,vW 0,vW 0,vW 0,vW 0,vW 0,vW 0,vW 0,vW 0,vW 0,vW 0,vW 0,vW 0,vW 0,vW 0,vW 0,vW 0,vW 0,vW 0,vW 0,vW 0,vW 0,vW 0,vW 0,vW 0,vW 0,vW 0,vW 0,vW 0]) rfl rfl (H0.memA .t1)) (.cons (.one rfl rfl ((H0.memA .hd) 0 _ rfl)) .nil)) rfl<|Ae rfl<|Ab (Ah rfl rfl)<|Ab (Ah rfl rfl)<|RG.nl [vW 0,vW 0,vW 0,vW 0,vW 0,vW 0,vW 0,vW 0,vW 0,vW 0,vW 0,vW 0,vW 0,vW 0,vW 0,vW 0,vW 0,vW 0,vW 0,vW 0,vW 0,vW 0,vW 0,vW 0,vW 0,vW 0,vW 0,vW 0,vW 0,vW 0,vW 0,vW 0] H0 fun X2 Z1 d1 t2=>AS [vW 0,vW 0,vW 0,vW 0,vW 0,vW 0,vW 0,vW 0,vW 0,vW 0,vW 0,vW 0,vW 0,vW 0,vW 0,vW 0,vW 0,vW 0,vW 0,vW 0,vW 0,vW 0,vW 0,vW 0,vW 0,vW 0,vW 0,vW 0,vW 0,vW 0,vW 0,vW 0] d1 .hd (ah rfl) fun Y2 z0 u2=>Ag rfl<|Aa<|Aj<|du 5 fun c0 C0=>Rv 0 c0 rfl C0 (fun _=>AP 0 rfl)<|Rx 1 224 c0 rfl C0 (AY (cs:=zL) rfl rfl (ae (z0.memA .hd) 0 16))<|Rv 2 c0 rfl C0 (fun _=>AP 16 rfl)<|Rv 4 c0 rfl C0 (fun _=>Ak rfl)<|RD.mo (α:=Unit) (fun ()=>[(6,vP v0),(7,vP x0),(8,vI q0.fB),(19,vI q0.fB),(18,.agg zM)]) (fun ()=>[.cells x0 zL 42,.cells v0 zL 42]) z0 2 63 ?_ ?_
 rintro ⟨⟩ C3 k1 z2
 try dsimp only
 refine By 6 127 c0 rfl rfl .plain (AA (news:=zL) k1 .hd rfl rfl rfl rfl rfl rfl (ah rfl)) fun c3 I0 A2=>AM (i:=7) (rk c0) (Bd (m' :=255) (sk c0) rfl .plain rfl (Ba rfl) ?_)
 refine AJ (dk c0)<|Ao rfl<|Ap hb0 func15 rfl (.cons (.many (cs:=zL) rfl rfl (I0.memA .t1)) (.cons (.many (cs:=zL) rfl rfl (I0.memA .hd)) (.cons (.tmp rfl) .nil))) rfl ?_
 cases h
 exact I0.gv
 intro V0
 refine BB [3,5] (rk c0) ⟨?_,?_,trivial⟩
 refine Bd (m' :=31) (sk c0) rfl .plain rfl (AY (cs:=zL) rfl rfl (ae (z0.memA .hd) 16 16))<|By 5 63 c0 rfl rfl .plain (AA (news:=zL) z0 .t4 rfl rfl rfl rfl rfl rfl (ah rfl)) fun W1 E0 M0=>?_
 obtain ⟨p1,H1⟩:=AF E0 (.a3 (.a3 .done))
 exact V0 () p1 (Tt M0 H1)
 refine RO.now (m' :=55) (sk c0) rfl rfl .plain (AA (news:=zL) z0 .t4 rfl rfl rfl rfl rfl rfl (ah rfl)) fun W1 E0 M0=>Rx 3 192 c0 rfl C0 (AY (cs:=zL) rfl rfl (ae (E0.memA .hd) 16 16)) ?_
 obtain ⟨q1,I1⟩:=AF E0 (.a3 (.a3 .done))
 exact V0 () q1 (Tt M0 I1)
 intro W0
 refine BB [2,3] (rk j0) ⟨?_,?_,trivial⟩
 refine Bd (m' :=7) (sk j0) rfl .plain rfl (AQ rfl ((B0.memA .t1) 0 _ rfl))<|By 3 15 j0 rfl rfl .plain (AA (news:=[vW 0,vW 0,vW 0,vW 0,vW 0,vW 0,vW 0,vW 0,vW 0,vW 0,vW 0,vW 0,vW 0,vW 0,vW 0,vW 0,vW 0,vW 0,vW 0,vW 0,vW 0,vW 0,vW 0,vW 0,vW 0,vW 0,vW 0,vW 0,vW 0,vW 0,vW 0,vW 0]) B0 .t3 rfl rfl rfl rfl rfl rfl (ah rfl)) fun Y1 G0 Q0=>?_
 obtain ⟨s1,J1⟩:=AF G0 .d2
 exact W0 () s1 (Tt Q0 J1)
 refine RO.now (m' :=11) (sk j0) rfl rfl .plain (AA (news:=[vW 0,vW 0,vW 0,vW 0,vW 0,vW 0,vW 0,vW 0,vW 0,vW 0,vW 0,vW 0,vW 0,vW 0,vW 0,vW 0,vW 0,vW 0,vW 0,vW 0,vW 0,vW 0,vW 0,vW 0,vW 0,vW 0,vW 0,vW 0,vW 0,vW 0,vW 0,vW 0]) B0 .t3 rfl rfl rfl rfl rfl rfl (ah rfl)) fun Y1 G0 Q0=>Rx 2 16 j0 rfl U0 (AQ rfl ((G0.memA .t1) 0 _ rfl)) ?_
 obtain ⟨u1,K1⟩:=AF G0 .d2
 exact W0 () u1 (Tt Q0 K1)
 refine RG.callq' (v:=.agg ((cn b0)).toArray) (fst:=[]) (cap:=[vP s0,vP t0,vP u0]) .plain (bd 46) rfl ak (fun p q=>AI (cg_c n (g0.hL0 hL q) a0 (g0.k0 h0_3 q) (ai q (g0.memA .t6)) (ai q (g0.memA .t5)) (ai q (g0.memA .t4)) R0)) rfl<|AS (cn b0) g0 .t1 (ah rfl) fun d3 v1 B2=>AS [vI 0] v1 .hd (o1 rfl) fun g3 J0 C2=>Aa<|Ao rfl<|RT.callD (vs:=[]) (cap:=[vP y0,vP p0]) (bd 85) func85 rfl rfl rfl fun j2 Z0 U1=>Ac<|RG.recover0 .plain Z0 rfl<|Ag rfl<|Aa<|Ac<|Ae rfl<|Ab (FV.neqI0 underlying20 rfl rfl)<|Aa<|BA rfl<|Au<|MX.fin rfl<|RT.leaveD0 Z0 U1 func85 rfl .nil<|Ap (u:=.tuple #[.agg ((cn b0)).toArray,vI 0]) Y0 func45 rfl (.cons (.many (cs:=(cn b0)) rfl rfl (J0.memA .t1)) (.cons (.one rfl rfl ((J0.memA .hd) 0 _ rfl)) .nil)) rfl<|Ae rfl<|Ab (Ah rfl rfl)<|Ab (Ah rfl rfl)<|RG.nl [vW 0,vW 0,vW 0,vW 0,vW 0,vW 0,vW 0,vW 0,vW 0,vW 0,vW 0,vW 0,vW 0,vW 0,vW 0,vW 0,vW 0,vW 0,vW 0,vW 0,vW 0,vW 0,vW 0,vW 0,vW 0,vW 0,vW 0,vW 0,vW 0,vW 0,vW 0,vW 0] J0 fun j3 b2 x1 D2=>AS (cn b0) x1 .hd (ah rfl) fun k3 A0 E2=>Ag rfl<|Aa<|Aj<|du 5 fun d0 D0=>Rv 0 d0 rfl D0 (fun _=>AP 0 rfl)<|Rx 1 224 d0 rfl D0 (AY (cs:=(aa b0.fI)) rfl rfl (ae (A0.memA .hd) 0 16))<|Rv 2 d0 rfl D0 (fun _=>AP 16 rfl)<|Rv 4 d0 rfl D0 (fun _=>Ak rfl)<|RD.mo (α:=Unit) (fun ()=>[(6,vP v0),(7,vP x0),(8,vI 0),(19,vI 0),(18,.agg ((aa b0.fL)).toArray)]) (fun ()=>[.cells x0 zL 42,.cells v0 (aa b0.fI) 42]) A0 2 63 ?_ ?_
 rintro ⟨⟩ D3 A1 H2
 try dsimp only
 refine By 6 127 d0 rfl rfl .plain (AA (news:=(aa b0.fL)) A1 .hd rfl rfl rfl rfl rfl rfl (ah rfl)) fun s3 K0 I2=>AM (i:=7) (rk d0) (Bd (m' :=255) (sk d0) rfl .plain rfl (Ba rfl) ?_)
 refine AJ (dk d0)<|Ao rfl<|Ap hb0 func15 rfl (.cons (.many (cs:=(aa b0.fI)) rfl rfl (K0.memA .t1)) (.cons (.many (cs:=(aa b0.fL)) rfl rfl (K0.memA .hd)) (.cons (.tmp rfl) .nil))) rfl ?_
 cases h
 exact K0.gv
 intro X0
 refine BB [3,5] (rk d0) ⟨?_,?_,trivial⟩
 refine Bd (m' :=31) (sk d0) rfl .plain rfl (AY (cs:=(aa b0.fL)) rfl rfl (ae (A0.memA .hd) 16 16))<|By 5 63 d0 rfl rfl .plain (AA (news:=(aa b0.fI)) A0 .t4 rfl rfl rfl rfl rfl rfl (ah rfl)) fun X1 F0 P0=>?_
 obtain ⟨B1,M1⟩:=AF F0 (.a3 (.a3 .done))
 exact X0 () B1 (Tt P0 M1)
 refine RO.now (m' :=55) (sk d0) rfl rfl .plain (AA (news:=(aa b0.fI)) A0 .t4 rfl rfl rfl rfl rfl rfl (ah rfl)) fun X1 F0 P0=>Rx 3 192 d0 rfl D0 (AY (cs:=(aa b0.fL)) rfl rfl (ae (F0.memA .hd) 16 16)) ?_
 obtain ⟨C1,P1⟩:=AF F0 (.a3 (.a3 .done))
 exact X0 () C1 (Tt P0 P1)
def ay_l1 (_n:Nat) (a0:List Ta) (a1:List Ta) (c0:Nat -> Option (Bool ⊕ Unit)):Nat -> Option (Bool ⊕ Unit)
  | b0=>(if b0 < a0.length then (a0[b0]?).bind fun d0=>(a1[b0]?).bind fun g0=>(if d0 = g0 then c0 (b0 + 1) else some (.inl false)) else some (.inr ()))
def ay_p (n:Nat) (a0:List Ta) (a1:List Ta):Option Bool:=
  (if a0.length = a1.length then thn (ao (ay_l1 n a0 a1) n 0) (fun _=>some true) else some false)
theorem ay_c (n:Nat) {L w} (_hL:hl L w) {a0:List Ta} {v0_0:Value} (h0_0:Rep.R w L [v0_0] a0) {a1:List Ta} {v1_0:Value} (h1_0:Rep.R w L [v1_0] a1)  {r:Bool} (h:ay_p n a0 a1 = some r) :
 Cl 16 #[v0_0,v1_0] w (aj w fun _ u=>u = .bool r):=by
 unfold ay_p at h
 have hS0:=AB w
 refine AG func16 rfl rfl rfl fun _ cs0 hb0=>Ac<|Ag rfl<|Aa<|Aj<|Ac<|Ae rfl ?_
 have hl1:a0.length <= 281474976710656:=Bh h0_0
 refine Ab (Bl (xs:=a0) underlying46 rfl h0_0)<|Ae rfl ?_
 have hl2:a1.length <= 281474976710656:=Bh h1_0
 refine Ab (Bl (xs:=a1) underlying46 rfl h1_0)<|Ab (FV.neqN (i:=a0.length) (j:=a1.length) rfl rfl)<|Aa<|MX.ifn rfl h (fun c3 h=>?_) (fun c3 h=>?_)
 refine Au<|Aj<|Ac<|Ae rfl<|Ab (Bl (xs:=a0) underlying46 rfl h0_0)<|Ae rfl<|Aa<|Ay<|tn h fun R0 C0 j0=>MX.lo (α:=Nat) (fun b0=>[(0,v0_0),(1,v1_0),(12,vI ((a0.length:Nat):Int)),(13,vI ((b0:Nat):Int))]) (fun b0=>[]) (fun b0=>b0) 0 C0 hS0 ?_
 rintro J0 b0 U0 t0 g0 u0 h
 unfold ay_l1 at h
 try dsimp only at h
 refine Ac<|Ab (Bn (i:=b0) (j:=a0.length) rfl rfl)<|Aa<|Aj<|AW rfl h (fun q0 h=>?_) (fun q0 h=>?_)
 refine Au<|Aj<|Ay<|Ac<|Ae rfl<|Ag rfl<|Aa<|Aj<|du 9 fun c0 d0=>Rv 0 c0 rfl d0 (fun _=>Ak rfl)<|Rv 1 c0 rfl d0 (fun _=>Ak rfl)<|bk h fun k0 F0 h=>?_
 obtain ⟨H0,K0,v0,y0,P0,D0,A0⟩:=Br (AT h0_0 g0) F0
 obtain rfl:=bU D0
 refine Rv 2 c0 rfl d0 (fun _=>Bu 16 b0 rfl v0 rfl rfl y0)<|Rx 3 256 c0 rfl d0 (AC rfl A0)<|Rv 4 c0 rfl d0 (fun _=>Ak rfl)<|Rv 5 c0 rfl d0 (fun _=>Ak rfl)<|bk h fun p0 G0 h=>?_
 obtain ⟨I0,M0,x0,z0,Q0,E0,B0⟩:=Br (AT h1_0 g0) G0
 obtain rfl:=bU E0
 refine Rv 6 c0 rfl d0 (fun _=>Bu 16 b0 rfl x0 rfl rfl z0)<|Rx 7 256 c0 rfl d0 (AC rfl B0)<|Rv 8 c0 rfl d0 (fun _=>FV.neqV (xs:=((aa k0)).toArray) (ys:=((aa p0)).toArray) rfl rfl (by kernel_rfl) (aG k0 p0))<|AJ (dk c0)<|MX.ifn rfl h (fun s0 h=>?_) (fun s0 h=>?_)
 refine Au<|AE<|Am<|Ab (Bp (i:=b0) (j:=1) rfl rfl (by omega))<|Ae rfl<|Aa<|t0 (b0 + 1) g0 u0 h
 refine Ac<|Ag rfl<|Aa ?_
 have h:=ap h j0
 refine Ao rfl<|Bc hb0 func16 rfl rfl ?_
 cases h
 exact g0.gv
 refine Bf rfl ?_
 have h:=aH h j0
 try dsimp only at h
 refine Ac<|Ag rfl<|Aa<|Ao rfl<|Bc hb0 func16 rfl rfl ?_
 cases h
 exact g0.gv
 refine Ac<|Ag rfl<|Aa<|Ao rfl<|Bc hb0 func16 rfl rfl ?_
 cases h
 exact hS0.gv
def bn_l1 (_n:Nat) (a0:List Int) (a1:List Int) (b0:Nat -> Option (Bool ⊕ Unit)):Nat -> Option (Bool ⊕ Unit)
  | i32=>(if i32 < a0.length then (a0[i32]?).bind fun c0=>(a1[i32]?).bind fun d0=>(if c0 = d0 then b0 (i32 + 1) else some (.inl false)) else some (.inr ()))
def bn_p (n:Nat) (a0:List Int) (a1:List Int):Option Bool:=
  (if a0.length = a1.length then thn (ao (bn_l1 n a0 a1) n 0) (fun _=>some true) else some false)
theorem bn_c (n:Nat) {L w} (_hL:hl L w) {a0:List Int} {v0_0:Value} (h0_0:Rep.R w L [v0_0] a0) {a1:List Int} {v1_0:Value} (h1_0:Rep.R w L [v1_0] a1)  {r:Bool} (h:bn_p n a0 a1 = some r) :
 Cl 50 #[v0_0,v1_0] w (aj w fun _ u=>u = .bool r):=by
 unfold bn_p at h
 have hS0:=AB w
 refine AG func50 rfl rfl rfl fun _ cs0 hb0=>Ac<|Ag rfl<|Aa<|Aj<|Ac<|Ae rfl ?_
 have hl1:a0.length <= 281474976710656:=Bh h0_0
 refine Ab (Bl (xs:=a0) underlying29 rfl h0_0)<|Ae rfl ?_
 have hl2:a1.length <= 281474976710656:=Bh h1_0
 refine Ab (Bl (xs:=a1) underlying29 rfl h1_0)<|Ab (FV.neqN (i:=a0.length) (j:=a1.length) rfl rfl)<|Aa<|MX.ifn rfl h (fun c3 h=>?_) (fun c3 h=>?_)
 refine Au<|Aj<|Ac<|Ae rfl<|Ab (Bl (xs:=a0) underlying29 rfl h0_0)<|Ae rfl<|Aa<|Ay<|tn h fun U0 F0 g0=>MX.lo (α:=Nat) (fun i32=>[(0,v0_0),(1,v1_0),(12,vI ((a0.length:Nat):Int)),(13,vI ((i32:Nat):Int))]) (fun i32=>[]) (fun i32=>i32) 0 F0 hS0 ?_
 rintro P0 i32 V0 u0 d0 v0 h
 unfold bn_l1 at h
 try dsimp only at h
 refine Ac<|Ab (Bn (i:=i32) (j:=a0.length) rfl rfl)<|Aa<|Aj<|AW rfl h (fun p0 h=>?_) (fun p0 h=>?_)
 refine Au<|Aj<|Ay<|Ac<|Ae rfl<|Ag rfl<|Aa<|Aj<|du 9 fun b0 c0=>Rv 0 b0 rfl c0 (fun _=>Ak rfl)<|Rv 1 b0 rfl c0 (fun _=>Ak rfl)<|bk h fun j0 I0 h=>?_
 obtain ⟨K0,Q0,x0,B0,s0,G0,D0⟩:=Br (AT h0_0 d0) I0
 have y0:s0 = [vI j0]:=G0; subst y0
 refine Rv 2 b0 rfl c0 (fun _=>Bu 1 i32 rfl x0 rfl rfl B0)<|Rx 3 256 b0 rfl c0 (AQ rfl (D0 0 _ rfl))<|Rv 4 b0 rfl c0 (fun _=>Ak rfl)<|Rv 5 b0 rfl c0 (fun _=>Ak rfl)<|bk h fun k0 J0 h=>?_
 obtain ⟨M0,R0,z0,C0,t0,H0,E0⟩:=Br (AT h1_0 d0) J0
 have A0:t0 = [vI k0]:=H0; subst A0
 refine Rv 6 b0 rfl c0 (fun _=>Bu 1 i32 rfl z0 rfl rfl C0)<|Rx 7 256 b0 rfl c0 (AQ rfl (E0 0 _ rfl))<|Rv 8 b0 rfl c0 (fun _=>FV.neq (i:=j0) (j:=k0) rfl rfl)<|AJ (dk b0)<|MX.ifn rfl h (fun q0 h=>?_) (fun q0 h=>?_)
 refine Au<|AE<|Am<|Ab (Bp (i:=i32) (j:=1) rfl rfl (by omega))<|Ae rfl<|Aa<|u0 (i32 + 1) d0 v0 h
 refine Ac<|Ag rfl<|Aa ?_
 have h:=ap h g0
 refine Ao rfl<|Bc hb0 func50 rfl rfl ?_
 cases h
 exact d0.gv
 refine Bf rfl ?_
 have h:=aH h g0
 try dsimp only at h
 refine Ac<|Ag rfl<|Aa<|Ao rfl<|Bc hb0 func50 rfl rfl ?_
 cases h
 exact d0.gv
 refine Ac<|Ag rfl<|Aa<|Ao rfl<|Bc hb0 func50 rfl rfl ?_
 cases h
 exact hS0.gv
def bQ_p (n:Nat) (a0:List Int) (a1:Int) (a2:List Int):Option Bool:=
  (bn_p n a0 a2).bind fun y1=>(if y1 = true then some (decide (a1 = 0)) else some false)
theorem bQ_c (n:Nat) {L w} (hL:hl L w) {a0:List Int} {v0_0:Value} (h0_0:Rep.R w L [v0_0] a0) {a1:Int} {a2:List Int} {v2_0:Value} (h2_0:Rep.R w L [v2_0] a2) {p2:Nat} (m2:∀ j9 v9,([v2_0]:List Value)[j9]? = some v9 -> w.cell? ((⟨p2,0,none⟩:Addr).add j9) = some v9)  {r:Bool} (h:bQ_p n a0 a1 a2 = some r) :
 Cl 49 #[v0_0,vI a1,.pointer (some ⟨p2,0,none⟩)] w (aj w fun _ u=>u = .bool r):=by
 unfold bQ_p at h
 have hS0:=AB w
 refine AG func49 rfl rfl rfl fun _ cs0 hb0=>Ac<|Ag rfl<|Aa<|Ac<|Ae rfl<|AU rfl ((fun j9 v9 h9=>hS0.ag.cell0 (m2 j9 v9 h9)) 0 _ rfl)<|bk h fun y1 hy1 h=>Bi (.bool y1) (bd 50) rfl (e2 rfl rfl) (fun p q=>bn_c n (hS0.hL0 hL q) (hS0.kd h0_0 q) (hS0.kd h2_0 q) hy1) rfl<|Ae rfl<|RG.ifb (s:=9) rfl h (fun c2 h=>?_) (fun c2 h=>?_)
 refine AX (Ak rfl)<|AX (FV.eql (i:=a1) (j:=0) rfl rfl)<|RG.pt rfl rfl<|Ag rfl<|Aa<|Ao rfl<|Bc hb0 func49 rfl rfl ?_
 cases h
 exact hS0.gv
 refine AL<|AL<|RG.pf rfl rfl<|Ag rfl<|Aa<|Ao rfl<|Bc hb0 func49 rfl rfl ?_
 cases h
 exact hS0.gv
theorem cI_c (_n:Nat) {L w} (_hL:hl L w) (a0:List Int) {v0_0:Value} (h0_0:Rep.R w L [v0_0] a0)  :
 Cl 17 #[v0_0] w (aj w fun w' u=>∃ b0:Nat,u = .func (.func 49) #[] #[vP b0]/\St w w' [.cells b0 [v0_0] 29]):=by
 refine AG func17 rfl rfl rfl fun _ cs0 hb0=>Ac<|RG.bx (AB w) rfl (Rep.c1 h0_0) fun g0 b0 c0 d0=>Ag rfl<|Aa<|Ac<|Ab (BG (vs:=[]) (us:=[vP b0]) ak (e1 rfl))<|Ag rfl<|Aa<|Ao rfl<|Ap (u:=.func (.func 49) #[] #[vP b0]) hb0 func17 rfl (.cons (.tmp rfl) .nil) rfl<|⟨c0.ag,fun p q=>⟨b0,rfl,c0.agree q⟩⟩
def ct_p (n:Nat) (a0:Ta) (a1:Ta):Option (Int × Int):=
  (aC_p n ([a0,a1]:List Ta)).bind fun b0=>(if b0 = true then (aw_p n a0).bind fun c0=>(aw_p n a1).bind fun d0=>(bB_p n c0 d0).bind fun g0=>some (g0,(0:Int)) else some ((0:Int),(20:Int)))
theorem ct_c (n:Nat) {L w} (hL:hl L w) (a0:Ta) (a1:Ta)  {r:Int × Int} (h:ct_p n a0 a1 = some r) :
 Cl 43 #[.agg ((aa a0)).toArray,.agg ((aa a1)).toArray] w (aj w fun _ u=>u = .tuple #[vI r.1,vI r.2]):=by
 unfold ct_p at h
 refine AG func43 rfl rfl rfl fun _ cs0 hb0=>Ac<|RG.bx (AB w) rfl rfl fun u1 M0 v0 W0=>RG.bx v0 rfl rfl fun v1 P0 j0 X0=>Ag rfl<|Ag rfl<|Aa<|Ac<|Ab (AC rfl (j0.memA .t1))<|Ab (AC rfl (j0.memA .hd))<|Bk (fst:=[]) (cap:=[]) (vs:=[.agg ((aa a0)).toArray,.agg ((aa a1)).toArray,.func (.func 82) #[] #[]]) .plain (bd 81) func81 rfl rfl rfl rfl (e3 rfl rfl rfl) rfl fun V0 s0 d1=>Ac<|RG.bx j0 rfl rfl fun x1 Q0 x0 Y0=>RG.bx x0 rfl rfl fun y1 R0 k0 Z0=>Ag rfl<|Ag rfl<|Aa<|Aj<|Ac<|Ab (AC rfl (k0.memA .t1))<|Ab (AC rfl (k0.memA .hd))<|Ai .plain rfl (Bb (α:=Ta) (xs:=([a0,a1]:List Ta)) (vs:=[.agg ((aa a0)).toArray,.agg ((aa a1)).toArray]) (ds' :=(aa a0 ++ aa a1)) rfl k0 cN rfl (e2 rfl rfl) (by kernel_rfl) rfl) fun z1 U0 c0 b1=>bk h fun I0 E0 h=>Bi (.bool I0) (bd 96) rfl (e1 rfl) (fun p q=>aC_c n (c0.hL0 hL q) (Av (St.lend (α:=Ta) (L:=L) c0 .hd (AH (cs:=(aa a0 ++ aa a1)) (xs:=(([a0,a1]:List Ta):List Ta)) c0 L (Ar (cs:=(aa a0)) (ds:=(aa a1)) (aU a0.fN a0.fD) (Ar (cs:=(aa a1)) (ds:=[]) (aU a1.fN a1.fD) (AR _ _)))) hL) q) E0) rfl<|Ab (FV.not rfl)<|Aa<|MX.ifnb rfl h (fun u0 h=>?_) (fun u0 h=>?_)
 refine Au<|Aj<|du 8 fun b0 g0=>Rv 0 b0 rfl g0 (fun _=>Ak rfl)<|Rx 1 244 b0 rfl g0 (AC rfl (c0.memA .t2))<|Rx 3 240 b0 rfl g0 (AC rfl (c0.memA .t1))<|bk h fun J0 F0 h=>Bx 2 15 b0 rfl .plain (bd 91) rfl (e1 rfl) (fun p q=>aw_c n (c0.hL hL q) a0 F0) rfl fun A1 q1 y0 ⟨g1,j1,hu_,A0,B0⟩=>?_
 subst hu_
 obtain ⟨p0,c1⟩:=c0.agr y0
 refine bk h fun K0 G0 h=>Bx 4 31 b0 rfl .plain (bd 91) rfl (e1 rfl) (fun p q=>aw_c n (p0.hL hL q) a1 G0) rfl fun B1 s1 z0 ⟨k1,p1,hu_,C0,D0⟩=>?_
 subst hu_
 obtain ⟨d0,q0⟩:=p0.agr z0
 refine bk h fun t0 H0 h=>BD 5 63 192 (vI t0) b0 rfl g0 (bd 82) rfl (e2 rfl rfl) (fun p q=>bB_c n (d0.hL0 hL q) J0 (d0.kd (Az A0 q0) q) (d0.kd (Az B0 q0) q) K0 (d0.kd C0 q) (d0.kd D0 q) H0) rfl<|Rv 6 b0 rfl g0 (fun _=>Ba rfl)<|Rv 7 b0 rfl g0 (fun _=>Ba rfl)<|AJ (dk b0)<|Ao rfl<|Ap (u:=.tuple #[vI t0,vI 0]) s0 func81 rfl (.cons (.tmp rfl) (.cons (.tmp rfl) .nil)) rfl<|Ab (Ah rfl rfl)<|Ab (Ah rfl rfl)<|Ag rfl<|Ag rfl<|Aa<|Ao rfl<|Ap hb0 func43 rfl (.cons (.tmp rfl) (.cons (.tmp rfl) .nil)) rfl ?_
 cases h
 exact d0.gv
 refine Ac<|Ag rfl<|Aa<|Ac<|Ae rfl<|Ag rfl<|Ag rfl<|Aa<|Ao rfl<|Ap (u:=.tuple #[vI 0,vI 20]) s0 func81 rfl (.cons (.tmp rfl) (.cons (.tmp rfl) .nil)) rfl<|Ab (Ah rfl rfl)<|Ab (Ah rfl rfl)<|Ag rfl<|Ag rfl<|Aa<|Ao rfl<|Ap hb0 func43 rfl (.cons (.tmp rfl) (.cons (.tmp rfl) .nil)) rfl ?_
 cases h
 exact c0.gv
def bW_p (_n:Nat) (a0:Int) (a1:Int):Option (Except Tc Int):=
  (if a1 = 0 then some (.ok a0) else some (.error (⟨a1⟩:Tc)))
theorem bW_c (n:Nat) {L w} (_hL:hl L w) {a0:Int} {a1:Int}  {r:Except Tc Int} (h:bW_p n a0 a1 = some r) :
 Cl 57 #[vI a0,vI a1] w (aD w (fun (y:Int) _ u=>u = vI y) (fun e=>.iface 116 (.agg #[vI e.fB])) r):=by
 unfold bW_p at h
 have hS0:=AB w
 refine BF func57 rfl rfl rfl fun _ cs0 hb0 hp0=>Ac<|Ag rfl<|Aa<|Aj<|Ac<|Ae rfl<|Ab (FV.neq (i:=a1) (j:=0) rfl rfl)<|Aa<|MX.ifn rfl h (fun c1 h=>?_) (fun c1 h=>?_)
 refine Au<|Ac<|Ae rfl<|Ag rfl<|Aa<|Ao rfl<|Bc hb0 func57 rfl rfl ?_
 cases h
 exact ⟨hS0.ag,fun p q=>ay rfl⟩
 refine Am<|Ae rfl<|Ab (AO (vs:=[vI a1]) (u:=.agg #[vI a1]) (e1 rfl) (fun p=>by kernel_rfl))<|Ab (Bw rfl rfl)<|RG.panic .plain rfl ?_
 cases h
 exact Aq hp0 func57 ⟨hS0.ag,rfl⟩
def bE_p (n:Nat) (a0:Tg) (a1:Ta):Option (Except Tc Bool):=
  (aS_p n a0).bind fun g0=>exc g0 (fun j0=>(ct_p n j0 a1).bind fun b0=>(bW_p n b0.1 b0.2).bind fun k0=>exc k0 (fun p0=>some (.ok (decide (0 < p0)))) (fun d0=>some (.error d0))) (fun c0=>some (.error c0))
theorem bE_c (n:Nat) {L w} (hL:hl L w) (a0:Tg) (a1:Ta) {p1:Nat} (m1:∀ j9 v9,((aa a1):List Value)[j9]? = some v9 -> w.cell? ((⟨p1,0,none⟩:Addr).add j9) = some v9)  {r:Except Tc Bool} (h:bE_p n a0 a1 = some r) :
 Cl 56 #[.agg #[vI a0.fG,vI a0.fall],.pointer (some ⟨p1,0,none⟩)] w (aD w (fun (y:Bool) _ u=>u = .bool y) (fun e=>.iface 116 (.agg #[vI e.fB])) r):=by
 unfold bE_p at h
 refine BF func56 rfl rfl rfl fun _ cs0 hb0 hp0=>Ac<|RG.bx (AB w) rfl rfl fun E0 y0 c0 B0=>Ag rfl<|Aa<|Aj<|du 9 fun b0 d0=>Rx 0 506 b0 rfl d0 (AC rfl (c0.memA .hd))<|xk h (fun z0 g0 h=>?_) (fun k0 g0 h=>?_)
 refine Rx 2 504 b0 rfl d0 (AC rfl (fun j9 v9 h9=>c0.ag.cell0 (m1 j9 v9 h9)))<|AM (i:=1) (rk b0) (Bj (fst:=[]) (cap:=[]) rfl .plain (bd 38) rfl (e1 rfl) (fun p q=>aS_c n (c0.hL0 hL q) a0 g0) (fun F0 u0=>?_))
 obtain ⟨s0,C0⟩:=c0.agr u0
 cases h
 exact Aq hp0 func56 ⟨s0.ag,rfl⟩
 refine BD 1 3 504 (.agg ((aa k0)).toArray) b0 rfl d0 (bd 38) rfl (e1 rfl) (fun p q=>AI (aS_c n (c0.hL0 hL q) a0 g0)) rfl<|Rx 2 504 b0 rfl d0 (AC rfl (fun j9 v9 h9=>c0.ag.cell0 (m1 j9 v9 h9)))<|bk h fun p0 x0 h=>BD 3 15 496 (.tuple #[vI p0.1,vI p0.2]) b0 rfl d0 (bd 43) rfl (e2 rfl rfl) (fun p q=>ct_c n (c0.hL0 hL q) k0 a1 x0) rfl<|Rv 4 b0 rfl d0 (fun _=>Ah rfl rfl)<|Rv 5 b0 rfl d0 (fun _=>Ah rfl rfl)<|xk h (fun A0 j0 h=>?_) (fun q0 j0 h=>?_)
 refine AM (i:=6) (rk b0) (Bj (fst:=[]) (cap:=[]) rfl .plain (bd 57) rfl (e2 rfl rfl) (fun p q=>bW_c n (c0.hL0 hL q)  j0) (fun G0 v0=>?_))
 obtain ⟨t0,D0⟩:=c0.agr v0
 cases h
 exact Aq hp0 func56 ⟨t0.ag,rfl⟩
 refine BD 6 127 384 (vI q0) b0 rfl d0 (bd 57) rfl (e2 rfl rfl) (fun p q=>AI (bW_c n (c0.hL0 hL q)  j0)) rfl<|Rv 7 b0 rfl d0 (fun _=>FV.gtr (i:=q0) (j:=0) rfl rfl)<|Rv 8 b0 rfl d0 (fun _=>Ba rfl)<|AJ (dk b0)<|Ao rfl<|Bc hb0 func56 rfl rfl ?_
 cases h
 exact ⟨c0.ag,fun p q=>ay rfl⟩
def bc_l1 (n:Nat) (g0:List Tg) (a4:Ta) (d0:Nat × (List Int) -> Option ((Except Tc (List Int)) ⊕ (List Int))):Nat × (List Int) -> Option ((Except Tc (List Int)) ⊕ (List Int))
  | (b0,c0)=>(if b0 < g0.length then (g0[b0]?).bind fun k0=>(bE_p n k0 a4).bind fun q0=>exc q0 (fun s0=>(if s0 = true then (app c0 ([((b0:Nat):Int)]:List Int)).bind fun p0=>d0 (b0 + 1,p0) else d0 (b0 + 1,c0))) (fun j0=>some (.inl (.error j0))) else some (.inr c0))
def bc_p (n:Nat) (a0:Tf) (a1:List Int) (a2:Int) (a3:Int) (a4:Ta):Option (Except Tc (List Int)):=
  (al_p n a0 a1 a2 a3).bind fun y1=>exc y1 (fun g0=>(cj_p n a4).bind fun b0=>(if b0 = 0 then thn (ao (bc_l1 n g0 a4) n (0,([]:List Int))) (fun d0=>some (.ok d0)) else some (.error (⟨b0⟩:Tc)))) (fun c0=>some (.error c0))
theorem bc_c (n:Nat) {L w} (hL:hl L w) (a0:Tf) {v0_3:Value} (h0_3:Rep.R w L [v0_3] a0.fu) {p0:Nat} (m0:∀ j9 v9,([vI a0.fj,vI a0.fh,vI a0.fl,v0_3]:List Value)[j9]? = some v9 -> w.cell? ((⟨p0,0,none⟩:Addr).add j9) = some v9) {a1:List Int} {v1_0:Value} (h1_0:Rep.R w L [v1_0] a1) {p1:Nat} (m1:∀ j9 v9,([v1_0]:List Value)[j9]? = some v9 -> w.cell? ((⟨p1,0,none⟩:Addr).add j9) = some v9) {a2:Int} {p2:Nat} (m2:∀ j9 v9,([vI a2]:List Value)[j9]? = some v9 -> w.cell? ((⟨p2,0,none⟩:Addr).add j9) = some v9) {a3:Int} {p3:Nat} (m3:∀ j9 v9,([vI a3]:List Value)[j9]? = some v9 -> w.cell? ((⟨p3,0,none⟩:Addr).add j9) = some v9) (a4:Ta) {p4:Nat} (m4:∀ j9 v9,((aa a4):List Value)[j9]? = some v9 -> w.cell? ((⟨p4,0,none⟩:Addr).add j9) = some v9)  {r:Except Tc (List Int)} (h:bc_p n a0 a1 a2 a3 a4 = some r) :
 Cl 52 #[.pointer (some ⟨p0,0,none⟩),.pointer (some ⟨p1,0,none⟩),.pointer (some ⟨p2,0,none⟩),.pointer (some ⟨p3,0,none⟩),.pointer (some ⟨p4,0,none⟩)] w (aD w (fun (y:List Int) w' u=>∃ v0_0:Value,u = v0_0/\Rep.R w' L [v0_0] y) (fun e=>.iface 116 (.agg #[vI e.fB])) r):=by
 unfold bc_p at h
 have hS0:=AB w
 refine BF func52 rfl rfl rfl fun _ cs0 hb0 hp0=>Ac<|Ag rfl<|Aa<|Ac<|Ab (AC rfl (fun j9 v9 h9=>hS0.ag.cell0 (m0 j9 v9 h9)))<|AU rfl ((fun j9 v9 h9=>hS0.ag.cell0 (m1 j9 v9 h9)) 0 _ rfl)<|AU rfl ((fun j9 v9 h9=>hS0.ag.cell0 (m2 j9 v9 h9)) 0 _ rfl)<|AU rfl ((fun j9 v9 h9=>hS0.ag.cell0 (m3 j9 v9 h9)) 0 _ rfl)<|xk h (fun Z1 hy1 h=>?_) (fun u0 hy1 h=>?_)
 refine Bo (fst:=[]) (cap:=[]) .plain (bd 28) rfl (e4 rfl rfl rfl rfl) (fun p q=>al_c n (hS0.hL hL q) a0 (Av h0_3 q) (Av h1_0 q) hy1) fun v2 k1=>?_
 obtain ⟨V0,c2⟩:=hS0.agr k1
 cases h
 exact Aq hp0 func52 ⟨V0.ag,rfl⟩
 refine jE (bd 28) rfl (e4 rfl rfl rfl rfl) (fun p q=>AI (al_c n (hS0.hL hL q) a0 (Av h0_3 q) (Av h1_0 q) hy1)) rfl fun B2 K0 s1 ⟨u2,hu_,A0⟩=>?_
 subst hu_
 obtain ⟨k0,k2⟩:=hS0.agr s1
 refine Ag rfl<|Aa<|Ac<|Ab (AC rfl (fun j9 v9 h9=>k0.ag.cell0 (m4 j9 v9 h9)))<|bk h fun q0 I1 h=>Bi (vI q0) (bd 54) rfl (e1 rfl) (fun p q=>cj_c n (k0.hL0 hL q) a4 I1) rfl<|Bk (fst:=[]) (cap:=[]) (vs:=[vI q0]) .plain (bd 53) func53 rfl rfl rfl rfl (e1 rfl) rfl fun X1 u1 C1=>Ac<|Ae rfl<|Ab (FV.neq (i:=q0) (j:=0) rfl rfl)<|Aa<|MX.ifn rfl h (fun R0 h=>?_) (fun R0 h=>?_)
 refine Au<|MX.fin rfl<|Ap (u:=.tuple #[]) u1 func53 rfl .nil rfl<|Aa<|Ac<|Ae rfl<|Ab (BG (vs:=[]) (us:=[.pointer (some ⟨p4,0,none⟩)]) ak (e1 rfl))<|Bk (fst:=[]) (cap:=[]) (vs:=[K0,.func (.func 56) #[] #[.pointer (some ⟨p4,0,none⟩)]]) .plain (bd 55) func55 rfl rfl rfl rfl (e2 rfl rfl) rfl fun Y1 v1 D1=>Ac<|Ag rfl<|Aa<|Aj<|Ac<|Ae rfl ?_
 have q2:u0.length <= 281474976710656:=Bh A0
 refine Ab (Bl (xs:=u0) underlying74 rfl A0)<|Ae rfl<|Aa<|Ay ?_
 have D0:=k0.nilRow 3 (Rep.size Int)
 refine tn h fun s2 B1 H0=>MX.lf (α:=Nat × (List Int) × Value × (List Value)) (fun ⟨b0,d0,c0,g0⟩=>[(1,.func (.func 56) #[] #[.pointer (some ⟨p4,0,none⟩)]),(4,c0),(7,K0),(8,vI ((u0.length:Nat):Int)),(9,vI ((b0:Nat):Int))]) (fun ⟨b0,d0,c0,g0⟩=>[rr w 3 Int c0 d0.length g0]) (fun ⟨b0,d0,c0,g0⟩ M0=>Cells M0 (bl [rr w 3 Int c0 d0.length g0] ++ L) g0 d0) (fun ⟨b0,d0,c0,g0⟩=>(b0,d0)) (0,([]:List Int),vN,[]) B1 D0 (AH (cs:=[]) (xs:=([]:List Int)) D0 L (AR _ _)) ?_
 rintro Q1 ⟨b0,d0,c0,g0⟩ M0 C0 s0 y0 z0 h
 unfold bc_l1 at h
 try dsimp only at h
 refine Ac<|Ab (Bn (i:=b0) (j:=u0.length) rfl rfl)<|Aa<|Aj<|AW rfl h (fun P0 h=>?_) (fun P0 h=>?_)
 refine Au<|Aj<|Ay<|Ac<|Ae rfl<|bk h fun t0 G1 h=>?_
 obtain ⟨P1,V1,y1,z1,W1,E1,A1⟩:=Br (Az A0 (Tt (St.nilRowT k0 3 (Rep.size Int)) y0)) G1
 obtain rfl:=eD E1
 refine Ab (Bu 2 b0 rfl y1 rfl rfl z1)<|Ab (AC rfl A1)<|RG.nl [vI 0,vI 0] s0 fun x2 R1 W0 E0=>Ag rfl<|AS [vI t0.fG,vI t0.fall] W0 .hd (ah rfl) fun y2 j0 F0=>Aa<|Ac<|Ae rfl<|Ab (AC rfl (j0.memA .hd))<|xk h (fun b2 B0 h=>?_) (fun M1 B0 h=>?_)
 have h:=ap h H0
 refine Bo (fst:=[]) (cap:=[.pointer (some ⟨p4,0,none⟩)]) .plain (bd 56) rfl (e1 rfl) (fun p q=>bE_c n (j0.hL0 hL q) t0 a4 (ai q (fun j9 v9 h9=>j0.ag.cell0 (m4 j9 v9 h9))) B0) fun z2 q1=>?_
 obtain ⟨X0,g2⟩:=j0.agr q1
 refine Aq D1 func55 ?_
 cases h
 exact Aq hp0 func52 ⟨X0.ag,rfl⟩
 refine RG.callq' (v:=.bool M1) (fst:=[]) (cap:=[.pointer (some ⟨p4,0,none⟩)]) .plain (bd 56) rfl (e1 rfl) (fun p q=>AI (bE_c n (j0.hL0 hL q) t0 a4 (ai q (fun j9 v9 h9=>j0.ag.cell0 (m4 j9 v9 h9))) B0)) rfl<|Aa<|MX.ifb rfl h (fun Q0 h=>?_) (fun Q0 h=>?_)
 refine Am<|Ae rfl<|Ae rfl<|Ai .plain rfl (Bb (α:=Int) (xs:=([((b0:Nat):Int)]:List Int)) (vs:=[vI ((b0:Nat):Int)]) (ds' :=[vI ((b0:Nat):Int)]) rfl j0 bp rfl (e1 rfl) (by kernel_rfl) rfl) fun A2 U1 v0 c1=>bk h fun K1 H1 h=>?_
 have I0:=Tt E0 (Tt F0 c1)
 refine RG.doesL .plain rfl (DoesL.app (α:=Int) (ys:=([((b0:Nat):Int)]:List Int)) H1 v0 (fun _ _=>.t2) bp rfl rfl (AN z0 I0) (Src.row (α:=Int) v0 .hd (AH (cs:=[vI ((b0:Nat):Int)]) (xs:=(([((b0:Nat):Int)]:List Int):List Int)) v0 L (Ar (cs:=[vI ((b0:Nat):Int)]) (ds:=[]) rfl (AR _ _))))) fun J1 C2 ⟨U0,Y0,g1,x1⟩=>Ag rfl<|Aa<|AE<|Am<|Ab (Bp (i:=b0) (j:=1) rfl rfl (by omega))<|Ae rfl<|Aa ?_
 obtain ⟨Z0,G0⟩:=AF Y0 .d2
 exact C0 (b0 + 1,K1,J1,U0) Z0 (Tt y0 (Tt I0 (Tt g1 G0))) (AN x1 G0) h
 refine Au<|AE<|Am<|Ab (Bp (i:=b0) (j:=1) rfl rfl (by omega))<|Ae rfl<|Aa ?_
 obtain ⟨b1,j1⟩:=AF j0 .d1
 have J0:=Tt E0 (Tt F0 j1)
 exact C0 (b0 + 1,d0,c0,g0) b1 (Tt y0 J0) (AN z0 J0) h
 refine Bf rfl ?_
 have h:=aH h H0
 try dsimp only at h
 refine Ac<|Ae rfl<|Ag rfl<|Aa<|Ao rfl<|Ap (u:=c0) v1 func55 rfl (.cons (.tmp rfl) .nil) rfl<|Ag rfl<|Aa<|Ao rfl ?_
 have x0:=BI s0 .hd
 have j2:=BJ s0 .hd
 have F1:=BK (α:=Int) (v:=c0) (xs:=d0) x0 L (Bv (α:=Int) s0 .hd z0 hL)
 refine Bc hb0 func52 rfl rfl ?_
 cases h
 exact ⟨x0.ag,fun p q=>ay ⟨c0,rfl,x0.kd F1 q⟩⟩
 refine Am<|Ae rfl<|Ab (AO (vs:=[vI q0]) (u:=.agg #[vI q0]) (e1 rfl) (fun p=>by kernel_rfl))<|Ab (Bw rfl rfl)<|RG.panic .plain rfl<|Aq C1 func53 ?_
 cases h
 exact Aq hp0 func52 ⟨k0.ag,rfl⟩
def cn_p (n:Nat) (a0:Tf) (a1:List Int) (a2:Int) (a3:Int) (a4:Ta):Option ((List Int) × Int):=
  (bc_p n a0 a1 a2 a3 a4).bind fun c0=>exc c0 (fun d0=>some (d0,(0:Int))) (fun b0=>some (([]:List Int),b0.fB))
theorem cn_c (n:Nat) {L w} (hL:hl L w) (a0:Tf) {v0_3:Value} (h0_3:Rep.R w L [v0_3] a0.fu) {a1:List Int} {v1_0:Value} (h1_0:Rep.R w L [v1_0] a1) {a2:Int} {a3:Int} (a4:Ta)  {r:(List Int) × Int} (h:cn_p n a0 a1 a2 a3 a4 = some r) :
 Cl 18 #[.agg #[vI a0.fj,vI a0.fh,vI a0.fl,v0_3],v1_0,vI a2,vI a3,.agg ((aa a4)).toArray] w (aj w fun w' u=>∃ v0_0:Value,u = .tuple #[v0_0,vI r.2]/\Rep.R w' L [v0_0] r.1):=by
 unfold cn_p at h
 refine AG func18 rfl rfl rfl fun _ cs0 hb0=>Ac<|RG.bx (AB w) rfl rfl fun W1 g0 F0 F1=>RG.bx F0 rfl (Rep.c1 (AT h1_0 F0)) fun c2 j0 Q0 G1=>RG.bx Q0 rfl rfl fun d2 k0 R0 H1=>RG.bx R0 rfl rfl fun g2 p0 U0 I1=>RG.bx U0 rfl rfl fun w32 q0 V0 J1=>Ag rfl<|Ag rfl<|Aa<|Ac<|Ab (BG (vs:=[]) (us:=[vP g0,vP j0,vP k0,vP p0,vP q0]) ak (e5 rfl rfl rfl rfl rfl))<|Bk (fst:=[]) (cap:=[]) (vs:=[.func (.func 52) #[] #[vP g0,vP j0,vP k0,vP p0,vP q0]]) .plain (bd 51) func51 rfl rfl rfl rfl (e1 rfl) rfl fun B1 G0 U1=>Ac<|RG.nl [vN] V0 fun j2 s0 W0 K1=>RG.nl [vI 0] W0 fun k2 d0 b0 M1=>Aa<|Ac<|Ab (BG (vs:=[]) (us:=[vP s0,vP d0]) ak (e2 rfl rfl))<|RG.defer (fst:=[]) (cap:=[vP s0,vP d0]) (vs:=[]) rfl .plain rfl ak<|Aa<|Ac ?_
 refine Ae rfl<|xk h (fun u0 B0 h=>?_) (fun v2 B0 h=>?_)
 refine Bo (fst:=[]) (cap:=[vP g0,vP j0,vP k0,vP p0,vP q0]) .plain (bd 52) rfl ak (fun p q=>bc_c n (b0.hL hL q) a0 (b0.km h0_3 q) (ai q (b0.memA .t6)) (b0.km h1_0 q) (ai q (b0.memA .t5)) (ai q (b0.memA .t4)) (ai q (b0.memA .t3)) a4 (ai q (b0.memA .t2)) B0) fun p2 p1=>?_
 obtain ⟨X0,P1⟩:=b0.agr p1
 refine PN.callD (vs:=[]) (cap:=[vP s0,vP d0]) (bd 89) func89 rfl rfl rfl fun A1 q1 u1=>Ac<|RG.recover1 .plain q1 rfl<|Ag rfl<|Aa<|Ac<|Ae rfl<|Ab (FV.neqI underlying20 rfl rfl)<|Aa<|Be rfl<|Ac<|Ae rfl<|Ab (FV.assertT rfl rfl)<|Ae rfl<|Ab (Ah rfl rfl)<|Ab (Ah rfl rfl)<|RG.nl [vI 0] X0 fun q2 y1 Y0 Q1=>AS [vI u0.fB] Y0 .hd (o1 rfl) fun s2 x0 R1=>Ag rfl<|Aa<|Aj<|Ac<|Ae rfl<|Ab (FV.not rfl)<|Aa<|BA rfl<|Au<|Ac<|Ag rfl<|Aa<|du 3 fun c0 C0=>Rv 0 c0 rfl C0 (fun _=>Ak rfl)<|Rv 1 c0 rfl C0 (fun _=>AP 0 rfl)<|RD.mo (α:=Unit) (fun ()=>[(1,vP d0),(19,vI u0.fB)]) (fun ()=>[.cells d0 [vI 0] 43,.cells s0 [vN] 29,.cells q0 (aa a4) 42,.cells p0 [vI a3] 3,.cells k0 [vI a2] 3,.cells j0 [v1_0] 30,.cells g0 [vI a0.fj,vI a0.fh,vI a0.fl,v0_3] 35]) x0 1 15 ?_ ?_
 rintro ⟨⟩ u2 I0 C1
 try dsimp only
 refine By 4 31 c0 rfl rfl .plain (AA (news:=[vI u0.fB]) I0 .hd rfl rfl rfl rfl rfl rfl (o1 rfl)) fun X1 t0 D1=>AJ (dk c0)<|MX.fin rfl<|RT.leaveD1 u1 func89 rfl .nil<|Ap (u:=.tuple #[vN,vI u0.fB]) G0 func51 rfl (.cons (.one rfl rfl ((t0.memA .t1) 0 _ rfl)) (.cons (.one rfl rfl ((t0.memA .hd) 0 _ rfl)) .nil)) rfl<|Ab (Ah rfl rfl)<|Ab (Ah rfl rfl)<|Ag rfl<|Ag rfl<|Aa<|Ao rfl ?_
 have v1:=Rep.nilAt (α:=Int) t0 L
 refine Ap hb0 func18 rfl (.cons (.tmp rfl) (.cons (.tmp rfl) .nil)) rfl ?_
 cases h
 exact ⟨t0.ag,fun p q=>⟨vN,rfl,t0.kd v1 q⟩⟩
 intro E0
 refine BB [2,3] (rk c0) ⟨?_,?_,trivial⟩
 refine Bd (m' :=7) (sk c0) rfl .plain rfl (AQ rfl ((x0.memA .hd) 0 _ rfl))<|By 3 15 c0 rfl rfl .plain (AA (news:=[vN]) x0 .t2 rfl rfl rfl rfl rfl rfl (o1 rfl)) fun x1 y0 z0=>?_
 obtain ⟨J0,Z0⟩:=AF y0 .d1
 exact E0 () J0 (Tt z0 Z0)
 refine RO.now (m' :=11) (sk c0) rfl rfl .plain (AA (news:=[vN]) x0 .t2 rfl rfl rfl rfl rfl rfl (o1 rfl)) fun x1 y0 z0=>Rx 2 16 c0 rfl C0 (AQ rfl ((y0.memA .hd) 0 _ rfl)) ?_
 obtain ⟨K0,b1⟩:=AF y0 .d1
 exact E0 () K0 (Tt z0 b1)
 refine Bq (fst:=[]) (cap:=[vP g0,vP j0,vP k0,vP p0,vP q0]) .plain (bd 52) rfl ak (fun p q=>AI (bc_c n (b0.hL hL q) a0 (b0.km h0_3 q) (ai q (b0.memA .t6)) (b0.km h1_0 q) (ai q (b0.memA .t5)) (ai q (b0.memA .t4)) (ai q (b0.memA .t3)) a4 (ai q (b0.memA .t2)) B0)) rfl fun Y1 D0 k1 ⟨V1,hu_,A0⟩=>?_
 subst hu_
 obtain ⟨M0,E1⟩:=b0.agr k1
 refine RG.now .plain (AA (news:=[D0]) M0 .t1 rfl rfl rfl (Rep.c1 A0) rfl rfl (o1 (AZ A0))) fun Z1 P0 g1=>AS [vI 0] P0 .hd (o1 rfl) fun b2 v0 j1=>Aa<|Ao rfl<|RT.callD (vs:=[]) (cap:=[vP s0,vP d0]) (bd 89) func89 rfl rfl rfl fun z1 H0 s1=>Ac<|RG.recover0 .plain H0 rfl<|Ag rfl<|Aa<|Ac<|Ae rfl<|Ab (FV.neqI0 underlying20 rfl rfl)<|Aa<|BA rfl<|Au<|MX.fin rfl<|RT.leaveD0 H0 s1 func89 rfl .nil<|Ap (u:=.tuple #[D0,vI 0]) G0 func51 rfl (.cons (.one rfl rfl ((v0.memA .t1) 0 _ rfl)) (.cons (.one rfl rfl ((v0.memA .hd) 0 _ rfl)) .nil)) rfl<|Ab (Ah rfl rfl)<|Ab (Ah rfl rfl)<|Ag rfl<|Ag rfl<|Aa<|Ao rfl<|Ap hb0 func18 rfl (.cons (.tmp rfl) (.cons (.tmp rfl) .nil)) rfl ?_
 cases h
 exact ⟨v0.ag,fun p q=>⟨D0,rfl,v0.kd (Az A0 (Tt g1 j1)) q⟩⟩
def bG_p (n:Nat) (a0:Ta) (a1:Int) (a2:Int) (a3:Int):Option Bool:=
  (am_p n a2 a3).bind fun b0=>(if a0 = b0 then some (decide (a1 = 0)) else some false)
theorem bG_c (n:Nat) {L w} (hL:hl L w) (a0:Ta) {a1:Int} {a2:Int} {p2:Nat} (m2:∀ j9 v9,([vI a2]:List Value)[j9]? = some v9 -> w.cell? ((⟨p2,0,none⟩:Addr).add j9) = some v9) {a3:Int} {p3:Nat} (m3:∀ j9 v9,([vI a3]:List Value)[j9]? = some v9 -> w.cell? ((⟨p3,0,none⟩:Addr).add j9) = some v9)  {r:Bool} (h:bG_p n a0 a1 a2 a3 = some r) :
 Cl 58 #[.agg ((aa a0)).toArray,vI a1,.pointer (some ⟨p2,0,none⟩),.pointer (some ⟨p3,0,none⟩)] w (aj w fun _ u=>u = .bool r):=by
 unfold bG_p at h
 refine AG func58 rfl rfl rfl fun _ cs0 hb0=>Ac<|RG.bx (AB w) rfl rfl fun s0 p0 d0 q0=>Ag rfl<|Aa<|Aj<|du 10 fun b0 c0=>Rx 0 1008 b0 rfl c0 (AC rfl (d0.memA .hd))<|Rx 1 1016 b0 rfl c0 (AQ rfl ((fun j9 v9 h9=>d0.ag.cell0 (m2 j9 v9 h9)) 0 _ rfl))<|Rx 2 1016 b0 rfl c0 (AQ rfl ((fun j9 v9 h9=>d0.ag.cell0 (m3 j9 v9 h9)) 0 _ rfl))<|bk h fun g0 k0 h=>BD 3 15 1008 (.agg ((aa g0)).toArray) b0 rfl c0 (bd 12) rfl (e2 rfl rfl) (fun p q=>am_c n (d0.hL0 hL q)  k0) rfl<|Rv 4 b0 rfl c0 (fun _=>FV.eqlV (v:=.agg ((aa a0)).toArray) (u:=.agg ((aa g0)).toArray) rfl rfl (aG a0 g0))<|Rv 5 b0 rfl c0 (fun _=>Ak rfl)<|RD.ifd (s:=12) rfl h (fun j0 h=>?_) (fun j0 h=>?_)
 refine RD.vP 6 127 b0 rfl c0 (.yes rfl rfl) (fun _=>Ak rfl) rfl<|RD.vP 7 255 b0 rfl c0 (.yes rfl rfl) (fun _=>FV.eql (i:=a1) (j:=0) rfl rfl) rfl<|Rv 8 b0 rfl c0 (fun _=>FV.pick_t rfl rfl)<|Rv 9 b0 rfl c0 (fun _=>Ba rfl)<|AJ (dk b0)<|Ao rfl<|Bc hb0 func58 rfl rfl ?_
 cases h
 exact d0.gv
 refine Bz 255 2 [(6,13),(7,14)] (F:=[(12,false)]) (U:=[]) b0 c0 (.cons rfl .nil) .nil ?_
 dsimp only [aQ,List.map]
 refine Rv 8 b0 rfl c0 (fun _=>Bm rfl rfl)<|Rv 9 b0 rfl c0 (fun _=>Ba rfl)<|AJ (dk b0)<|Ao rfl<|Bc hb0 func58 rfl rfl ?_
 cases h
 exact d0.gv
theorem cG_c (_n:Nat) {L w} (_hL:hl L w) (a0:Int) (a1:Int)  :
 Cl 19 #[vI a0,vI a1] w (aj w fun w' u=>∃ b0 c0:Nat,u = .func (.func 58) #[] #[vP b0,vP c0]/\St w w' [.cells b0 [vI a0] 3,.cells c0 [vI a1] 3]):=by
 refine AG func19 rfl rfl rfl fun _ cs0 hb0=>Ac<|RG.bx (AB w) rfl rfl fun t0 b0 j0 p0=>RG.bx j0 rfl rfl fun u0 c0 k0 q0=>Ag rfl<|Aa<|Ac<|Ab (BG (vs:=[]) (us:=[vP b0,vP c0]) ak (e2 rfl rfl))<|Ag rfl<|Aa<|Ao rfl<|Ap (u:=.func (.func 58) #[] #[vP b0,vP c0]) hb0 func19 rfl (.cons (.tmp rfl) .nil) rfl ?_
 obtain ⟨g0,s0⟩:=AF k0 (.a1 .d0)
 exact ⟨g0.ag,fun p q=>⟨b0,c0,rfl,g0.agree q⟩⟩
def bU_p (_n:Nat) (a0:Ta) (a1:Ta) (a2:Int) (a3:Ta) (a4:Ta):Option Bool:=
  (if a0 = a3 then (if a1 = a4 then some (decide (a2 = 0)) else some false) else some false)
theorem bU_c (n:Nat) {L w} (_hL:hl L w) (a0:Ta) (a1:Ta) {a2:Int} (a3:Ta) {p3:Nat} (m3:∀ j9 v9,((aa a3):List Value)[j9]? = some v9 -> w.cell? ((⟨p3,0,none⟩:Addr).add j9) = some v9) (a4:Ta) {p4:Nat} (m4:∀ j9 v9,((aa a4):List Value)[j9]? = some v9 -> w.cell? ((⟨p4,0,none⟩:Addr).add j9) = some v9)  {r:Bool} (h:bU_p n a0 a1 a2 a3 a4 = some r) :
 Cl 59 #[.agg ((aa a0)).toArray,.agg ((aa a1)).toArray,vI a2,.pointer (some ⟨p3,0,none⟩),.pointer (some ⟨p4,0,none⟩)] w (aj w fun _ u=>u = .bool r):=by
 unfold bU_p at h
 refine AG func59 rfl rfl rfl fun _ cs0 hb0=>Ac<|RG.bx (AB w) rfl rfl fun s0 j0 g0 p0=>RG.bx g0 rfl rfl fun t0 k0 b0 q0=>Ag rfl<|Aa<|Ac<|Ab (AC rfl (b0.memA .t1))<|Ab (AC rfl (fun j9 v9 h9=>b0.ag.cell0 (m3 j9 v9 h9)))<|Ab (FV.eqlV (v:=.agg ((aa a0)).toArray) (u:=.agg ((aa a3)).toArray) rfl rfl (aG a0 a3))<|Ae rfl<|RG.ifd (s:=12) rfl h (fun c0 h=>?_) (fun c0 h=>?_)
 refine AX (AC rfl (b0.memA .hd))<|AX (AC rfl (fun j9 v9 h9=>b0.ag.cell0 (m4 j9 v9 h9)))<|AX (FV.eqlV (v:=.agg ((aa a1)).toArray) (u:=.agg ((aa a4)).toArray) rfl rfl (aG a1 a4))<|RG.pt rfl rfl<|Ae rfl<|RG.ifd (s:=17) rfl h (fun d0 h=>?_) (fun d0 h=>?_)
 refine AX (Ak rfl)<|AX (FV.eql (i:=a2) (j:=0) rfl rfl)<|RG.pt rfl rfl<|Ag rfl<|Aa<|Ao rfl<|Bc hb0 func59 rfl rfl ?_
 cases h
 exact b0.gv
 refine AL<|AL<|RG.pf rfl rfl<|Ag rfl<|Aa<|Ao rfl<|Bc hb0 func59 rfl rfl ?_
 cases h
 exact b0.gv
 refine AL<|AL<|AL<|RG.pf rfl rfl<|Ae rfl<|AL<|AL<|RG.pf rfl rfl<|Ag rfl<|Aa<|Ao rfl<|Bc hb0 func59 rfl rfl ?_
 cases h
 exact b0.gv
theorem cJ_c (_n:Nat) {L w} (_hL:hl L w) (a0:Ta) (a1:Ta)  :
 Cl 20 #[.agg ((aa a0)).toArray,.agg ((aa a1)).toArray] w (aj w fun w' u=>∃ b0 c0:Nat,u = .func (.func 59) #[] #[vP b0,vP c0]/\St w w' [.cells b0 (aa a0) 42,.cells c0 (aa a1) 42]):=by
 refine AG func20 rfl rfl rfl fun _ cs0 hb0=>Ac<|RG.bx (AB w) rfl rfl fun t0 b0 j0 p0=>RG.bx j0 rfl rfl fun u0 c0 k0 q0=>Ag rfl<|Aa<|Ac<|Ab (BG (vs:=[]) (us:=[vP b0,vP c0]) ak (e2 rfl rfl))<|Ag rfl<|Aa<|Ao rfl<|Ap (u:=.func (.func 59) #[] #[vP b0,vP c0]) hb0 func20 rfl (.cons (.tmp rfl) .nil) rfl ?_
 obtain ⟨g0,s0⟩:=AF k0 (.a1 .d0)
 exact ⟨g0.ag,fun p q=>⟨b0,c0,rfl,g0.agree q⟩⟩
def cq_p (n:Nat) (a0:Tf) (a1:Int) (a2:Int):Option (Except Tc Ta):=
  (aR_p n a0 a1 a2).bind fun A0=>exc A0 (fun b0=>(ab_p n b0.fF.fw (1:Int)).bind fun F0=>exc F0 (fun G0=>(ak_p n G0 b0.fF.fc).bind fun H0=>exc H0 (fun I0=>(ak_p n b0.fF.fy b0.fF.fy).bind fun J0=>exc J0 (fun K0=>(aZ_p n I0 K0).bind fun M0=>exc M0 (fun c0=>(ab_p n (0:Int) (1:Int)).bind fun v0=>exc v0 (fun x0=>(if c0 = x0 then some (.error (⟨(7:Int)⟩:Tc)) else (ak_p n b0.fn b0.fn).bind fun y0=>exc y0 (fun z0=>(ak_p n b0.fd c0).bind fun B0=>exc B0 (fun C0=>(bb_p n z0 C0).bind fun D0=>exc D0 (fun E0=>some (.ok E0)) (fun p0=>some (.error p0))) (fun j0=>some (.error j0))) (fun g0=>some (.error g0)))) (fun d0=>some (.error d0))) (fun u0=>some (.error u0))) (fun t0=>some (.error t0))) (fun s0=>some (.error s0))) (fun q0=>some (.error q0))) (fun k0=>some (.error k0))
theorem cq_c (n:Nat) {L w} (hL:hl L w) (a0:Tf) {v0_3:Value} (h0_3:Rep.R w L [v0_3] a0.fu) {p0:Nat} (m0:∀ j9 v9,([vI a0.fj,vI a0.fh,vI a0.fl,v0_3]:List Value)[j9]? = some v9 -> w.cell? ((⟨p0,0,none⟩:Addr).add j9) = some v9) {a1:Int} {p1:Nat} (m1:∀ j9 v9,([vI a1]:List Value)[j9]? = some v9 -> w.cell? ((⟨p1,0,none⟩:Addr).add j9) = some v9) {a2:Int} {p2:Nat} (m2:∀ j9 v9,([vI a2]:List Value)[j9]? = some v9 -> w.cell? ((⟨p2,0,none⟩:Addr).add j9) = some v9)  {r:Except Tc Ta} (h:cq_p n a0 a1 a2 = some r) :
 Cl 60 #[.pointer (some ⟨p0,0,none⟩),.pointer (some ⟨p1,0,none⟩),.pointer (some ⟨p2,0,none⟩)] w (aD w (fun (y:Ta) _ u=>u = .agg ((aa y)).toArray) (fun e=>.iface 116 (.agg #[vI e.fB])) r):=by
 unfold cq_p at h
 refine BF func60 rfl rfl rfl fun _ cs0 hb0 hp0=>Ac<|RG.nl zL (AB w) fun E3 j2 v0 U2=>Aa<|Ac<|Ab (AC rfl (fun j9 v9 h9=>v0.ag.cell0 (m0 j9 v9 h9)))<|AU rfl ((fun j9 v9 h9=>v0.ag.cell0 (m1 j9 v9 h9)) 0 _ rfl)<|AU rfl ((fun j9 v9 h9=>v0.ag.cell0 (m2 j9 v9 h9)) 0 _ rfl)<|xk h (fun D2 Q0 h=>?_) (fun b0 Q0 h=>?_)
 refine Bo (fst:=[]) (cap:=[]) .plain (bd 47) rfl (e3 rfl rfl rfl) (fun p q=>aR_c n (v0.hL0 hL q) a0 (v0.k0 h0_3 q) Q0) fun R3 P1=>?_
 obtain ⟨x1,c3⟩:=v0.agr P1
 cases h
 exact Aq hp0 func60 ⟨x1.ag,rfl⟩
 refine Bi (.agg ((([vI b0.fF.fw,vI b0.fF.fx]:List Value) ++ aa b0.fF.fy ++ aa b0.fF.fa ++ aa b0.fF.fb ++ aa b0.fF.fc ++ aa b0.fd ++ aa b0.fn)).toArray) (bd 47) rfl (e3 rfl rfl rfl) (fun p q=>AI (aR_c n (v0.hL0 hL q) a0 (v0.k0 h0_3 q) Q0)) rfl<|RG.nl [vI 0,vI 0,vW 0,vW 0,vW 0,vW 0,vW 0,vW 0,vW 0,vW 0,vW 0,vW 0,vW 0,vW 0,vW 0,vW 0,vW 0,vW 0,vW 0,vW 0,vW 0,vW 0,vW 0,vW 0,vW 0,vW 0,vW 0,vW 0,vW 0,vW 0,vW 0,vW 0,vW 0,vW 0,vW 0,vW 0,vW 0,vW 0,vW 0,vW 0,vW 0,vW 0,vW 0,vW 0,vW 0,vW 0,vW 0,vW 0,vW 0,vW 0,vW 0,vW 0,vW 0,vW 0,vW 0,vW 0,vW 0,vW 0,vW 0,vW 0,vW 0,vW 0,vW 0,vW 0,vW 0,vW 0,vW 0,vW 0,vW 0,vW 0,vW 0,vW 0,vW 0,vW 0,vW 0,vW 0,vW 0,vW 0,vW 0,vW 0,vW 0,vW 0,vW 0,vW 0,vW 0,vW 0,vW 0,vW 0,vW 0,vW 0,vW 0,vW 0,vW 0,vW 0,vW 0,vW 0,vW 0,vW 0] v0 fun U3 q2 y1 d3=>AS (([vI b0.fF.fw,vI b0.fF.fx]:List Value) ++ aa b0.fF.fy ++ aa b0.fF.fa ++ aa b0.fF.fb ++ aa b0.fF.fc ++ aa b0.fd ++ aa b0.fn) y1 .hd (ah rfl) fun V3 j0 g3=>Aa<|Aj<|du 9 fun c0 s0=>Rv 0 c0 rfl s0 (fun _=>AP 0 rfl)<|Rv 1 c0 rfl s0 (fun _=>AP 0 rfl)<|Rx 2 648 c0 rfl s0 (AQ rfl ((aM (j0.memA .hd) 0) 0 _ rfl))<|xk h (fun F2 C0 h=>?_) (fun J0 C0 h=>?_)
 refine Rv 4 c0 rfl s0 (fun _=>AP 0 rfl)<|Rv 5 c0 rfl s0 (fun _=>AP 50 rfl)<|Rx 6 640 c0 rfl s0 (AY (cs:=(aa b0.fF.fc)) rfl rfl (ae (aM (j0.memA .hd) 0) 50 16))<|BB [3,8] (rk c0) ⟨?_,?_,trivial⟩
 refine Bj (fst:=[]) (cap:=[]) rfl .plain (bd 33) rfl (e2 rfl rfl) (fun p q=>ab_c n (j0.hL0 hL q)  C0) fun W3 Q1=>?_
 obtain ⟨z1,j3⟩:=j0.agr Q1
 cases h
 exact Aq hp0 func60 ⟨z1.ag,rfl⟩
 refine RO.new (m' :=375) (sk c0) rfl .plain rfl (Aw zL j0) fun X3 s2 Z0 k3=>AM (i:=3) (rk c0) (Bj (fst:=[]) (cap:=[]) rfl .plain (bd 33) rfl (e2 rfl rfl) (fun p q=>ab_c n (Z0.hL0 hL q)  C0) (fun Y3 R1=>?_))
 obtain ⟨A1,p3⟩:=Z0.agr R1
 cases h
 exact Aq hp0 func60 ⟨A1.ag,rfl⟩
 refine BD 3 15 640 (.agg ((aa J0)).toArray) c0 rfl s0 (bd 33) rfl (e2 rfl rfl) (fun p q=>AI (ab_c n (j0.hL0 hL q)  C0)) rfl<|Rv 4 c0 rfl s0 (fun _=>AP 0 rfl)<|Rv 5 c0 rfl s0 (fun _=>AP 50 rfl)<|Rx 6 640 c0 rfl s0 (AY (cs:=(aa b0.fF.fc)) rfl rfl (ae (aM (j0.memA .hd) 0) 50 16))<|xk h (fun G2 D0 h=>?_) (fun B0 D0 h=>?_)
 refine BB [7,8] (rk c0) ⟨?_,?_,trivial⟩
 refine Bj (fst:=[]) (cap:=[]) rfl .plain (bd 48) rfl (e2 rfl rfl) (fun p q=>ak_c n (j0.hL0 hL q) J0 b0.fF.fc D0) fun Z3 U1=>?_
 obtain ⟨B1,q3⟩:=j0.agr U1
 cases h
 exact Aq hp0 func60 ⟨B1.ag,rfl⟩
 refine RO.new (m' :=383) (sk c0) rfl .plain rfl (Aw zL j0) fun b4 u2 b1 s3=>AM (i:=7) (rk c0) (Bj (fst:=[]) (cap:=[]) rfl .plain (bd 48) rfl (e2 rfl rfl) (fun p q=>ak_c n (b1.hL0 hL q) J0 b0.fF.fc D0) (fun c4 V1=>?_))
 obtain ⟨C1,u3⟩:=b1.agr V1
 cases h
 exact Aq hp0 func60 ⟨C1.ag,rfl⟩
 refine BD 7 255 512 (.agg ((aa B0)).toArray) c0 rfl s0 (bd 48) rfl (e2 rfl rfl) (fun p q=>AI (ak_c n (j0.hL0 hL q) J0 b0.fF.fc D0)) rfl<|RD.nu 8 511 c0 rfl .plain rfl (Aw zL j0) fun d4 v2 D1 v3=>By 9 1023 c0 rfl rfl .plain (AA (news:=(aa B0)) D1 .hd rfl rfl rfl rfl rfl rfl (ah rfl)) fun g4 q0 x3=>AJ (dk c0)<|Aj<|du 10 fun d0 x0=>Rx 0 1280 d0 rfl x0 (AC rfl (q0.memA .hd))<|Rv 1 d0 rfl x0 (fun _=>AP 0 rfl)<|Rv 2 d0 rfl x0 (fun _=>AP 2 rfl)<|Rx 3 1408 d0 rfl x0 (AY (cs:=(aa b0.fF.fy)) rfl rfl (ae (aM (q0.memA .t1) 0) 2 16))<|Rv 4 d0 rfl x0 (fun _=>AP 0 rfl)<|Rv 5 d0 rfl x0 (fun _=>AP 2 rfl)<|Rx 6 1408 d0 rfl x0 (AY (cs:=(aa b0.fF.fy)) rfl rfl (ae (aM (q0.memA .t1) 0) 2 16))<|xk h (fun H2 E0 h=>?_) (fun K0 E0 h=>?_)
 refine BB [7,9] (rk d0) ⟨?_,?_,trivial⟩
 refine Bj (fst:=[]) (cap:=[]) rfl .plain (bd 48) rfl (e2 rfl rfl) (fun p q=>ak_c n (q0.hL0 hL q) b0.fF.fy b0.fF.fy E0) fun j4 W1=>?_
 obtain ⟨E1,y3⟩:=q0.agr W1
 cases h
 exact Aq hp0 func60 ⟨E1.ag,rfl⟩
 refine RO.new (m' :=639) (sk d0) rfl .plain rfl (Aw zL q0) fun k4 x2 c1 z3=>AM (i:=7) (rk d0) (Bj (fst:=[]) (cap:=[]) rfl .plain (bd 48) rfl (e2 rfl rfl) (fun p q=>ak_c n (c1.hL0 hL q) b0.fF.fy b0.fF.fy E0) (fun p4 X1=>?_))
 obtain ⟨F1,A3⟩:=c1.agr X1
 cases h
 exact Aq hp0 func60 ⟨F1.ag,rfl⟩
 refine BD 7 255 1280 (.agg ((aa K0)).toArray) d0 rfl x0 (bd 48) rfl (e2 rfl rfl) (fun p q=>AI (ak_c n (q0.hL0 hL q) b0.fF.fy b0.fF.fy E0)) rfl<|xk h (fun I2 F0 h=>?_) (fun z0 F0 h=>?_)
 refine BB [8,9] (rk d0) ⟨?_,?_,trivial⟩
 refine Bj (fst:=[]) (cap:=[]) rfl .plain (bd 32) rfl (e2 rfl rfl) (fun p q=>aZ_c n (q0.hL0 hL q) B0 K0 F0) fun q4 Y1=>?_
 obtain ⟨G1,J2⟩:=q0.agr Y1
 cases h
 exact Aq hp0 func60 ⟨G1.ag,rfl⟩
 refine RO.new (m' :=767) (sk d0) rfl .plain rfl (Aw zL q0) fun C3 d2 X0 K2=>AM (i:=8) (rk d0) (Bj (fst:=[]) (cap:=[]) rfl .plain (bd 32) rfl (e2 rfl rfl) (fun p q=>aZ_c n (X0.hL0 hL q) B0 K0 F0) (fun D3 H1=>?_))
 obtain ⟨g1,M2⟩:=X0.agr H1
 cases h
 exact Aq hp0 func60 ⟨g1.ag,rfl⟩
 refine BD 8 511 1024 (.agg ((aa z0)).toArray) d0 rfl x0 (bd 32) rfl (e2 rfl rfl) (fun p q=>AI (aZ_c n (q0.hL0 hL q) B0 K0 F0)) rfl<|RD.nu 9 1023 d0 rfl .plain rfl (Aw zL q0) fun F3 g2 j1 P2=>By 10 2047 d0 rfl rfl .plain (AA (news:=(aa z0)) j1 .hd rfl rfl rfl rfl rfl rfl (ah rfl)) fun G3 g0 Q2=>AJ (dk d0)<|Aj<|du 3 fun y0 G0=>xk h (fun A2 M0 h=>?_) (fun H0 M0 h=>?_)
 refine Rx 0 12 y0 rfl G0 (AC rfl (g0.memA .hd))<|AM (i:=1) (rk y0) (Bj (fst:=[]) (cap:=[]) rfl .plain (bd 33) rfl (e2 rfl rfl) (fun p q=>ab_c n (g0.hL0 hL q)  M0) (fun H3 I1=>?_))
 obtain ⟨k1,R2⟩:=g0.agr I1
 cases h
 exact Aq hp0 func60 ⟨k1.ag,rfl⟩
 refine Rx 0 12 y0 rfl G0 (AC rfl (g0.memA .hd))<|BD 1 3 12 (.agg ((aa H0)).toArray) y0 rfl G0 (bd 33) rfl (e2 rfl rfl) (fun p q=>AI (ab_c n (g0.hL0 hL q)  M0)) rfl<|Rv 2 y0 rfl G0 (fun _=>FV.eqlV (v:=.agg ((aa z0)).toArray) (u:=.agg ((aa H0)).toArray) rfl rfl (aG z0 H0))<|AM (i:=3) (rk y0) (RO.enterPT (m' :=15) (fst:=[]) (cap:=[]) (vs:=[.bool (decide (z0 = H0)),vI 7]) (sk y0) rfl rfl .plain (bd 29) func29 rfl rfl rfl rfl (e2 rfl rfl) rfl (fun _ y2 Z1 b2=>?_))
 refine Ac<|Ae rfl<|Aa<|AW rfl h (fun d1 h=>?_) (fun d1 h=>?_)
 refine Am<|Ae rfl<|Bk (fst:=[]) (cap:=[]) (vs:=[vI 7]) .plain (bd 53) func53 rfl rfl rfl rfl (e1 rfl) rfl fun z2 B3 c2=>Ac<|Ae rfl<|Ab (FV.neqN (i:=7) (j:=0) rfl rfl)<|Aa<|Be rfl<|Am<|Ae rfl<|Ab (AO (vs:=[vI 7]) (u:=.agg #[vI 7]) (e1 rfl) (fun p=>by kernel_rfl))<|Ab (Bw rfl rfl)<|RG.panic .plain rfl<|Aq c2 func53<|Aq b2 func29 ?_
 cases h
 exact Aq hp0 func60 ⟨g0.ag,rfl⟩
 refine Au<|MX.fin rfl<|Ap (u:=.tuple #[]) Z1 func29 rfl .nil rfl<|AJ (dk y0)<|Ac<|Bg 82 rfl<|Ab (AY (cs:=(aa b0.fn)) rfl rfl (ae (g0.memA .t2) 82 16))<|Bg 82 rfl<|Ab (AY (cs:=(aa b0.fn)) rfl rfl (ae (g0.memA .t2) 82 16))<|xk h (fun B2 P0 h=>?_) (fun I0 P0 h=>?_)
 refine Bo (fst:=[]) (cap:=[]) .plain (bd 48) rfl (e2 rfl rfl) (fun p q=>ak_c n (g0.hL0 hL q) b0.fn b0.fn P0) fun I3 J1=>?_
 obtain ⟨q1,V2⟩:=g0.agr J1
 cases h
 exact Aq hp0 func60 ⟨q1.ag,rfl⟩
 refine Bi (.agg ((aa I0)).toArray) (bd 48) rfl (e2 rfl rfl) (fun p q=>AI (ak_c n (g0.hL0 hL q) b0.fn b0.fn P0)) rfl<|RG.nl zL g0 fun J3 k2 s1 W2=>AS (aa I0) s1 .hd (ah rfl) fun K3 t0 X2=>Aa<|Aj<|du 6 fun u0 A0=>Rx 0 96 u0 rfl A0 (AC rfl (t0.memA .hd))<|Rv 1 u0 rfl A0 (fun _=>AP 66 rfl)<|Rx 2 112 u0 rfl A0 (AY (cs:=(aa b0.fd)) rfl rfl (ae (t0.memA .t3) 66 16))<|Rx 3 112 u0 rfl A0 (AC rfl (t0.memA .t1))<|xk h (fun C2 R0 h=>?_) (fun V0 R0 h=>?_)
 refine AM (i:=4) (rk u0) (Bj (fst:=[]) (cap:=[]) rfl .plain (bd 48) rfl (e2 rfl rfl) (fun p q=>ak_c n (t0.hL0 hL q) b0.fd z0 R0) (fun M3 K1=>?_))
 obtain ⟨u1,Y2⟩:=t0.agr K1
 cases h
 exact Aq hp0 func60 ⟨u1.ag,rfl⟩
 refine BD 4 31 96 (.agg ((aa V0)).toArray) u0 rfl A0 (bd 48) rfl (e2 rfl rfl) (fun p q=>AI (ak_c n (t0.hL0 hL q) b0.fd z0 R0)) rfl<|xk h (fun E2 U0 h=>?_) (fun W0 U0 h=>?_)
 refine AM (i:=5) (rk u0) (Bj (fst:=[]) (cap:=[]) rfl .plain (bd 34) rfl (e2 rfl rfl) (fun p q=>bb_c n (t0.hL0 hL q) I0 V0 U0) (fun P3 M1=>?_))
 obtain ⟨v1,Z2⟩:=t0.agr M1
 cases h
 exact Aq hp0 func60 ⟨v1.ag,rfl⟩
 refine BD 5 63 64 (.agg ((aa W0)).toArray) u0 rfl A0 (bd 34) rfl (e2 rfl rfl) (fun p q=>AI (bb_c n (t0.hL0 hL q) I0 V0 U0)) rfl<|By 6 127 u0 rfl rfl .plain (AA (news:=(aa W0)) t0 .t4 rfl rfl rfl rfl rfl rfl (ah rfl)) fun Q3 Y0 b3=>AJ (dk u0)<|Ao rfl<|Ap hb0 func60 rfl (.cons (.many (cs:=(aa W0)) rfl rfl (Y0.memA .t4)) .nil) rfl ?_
 cases h
 exact ⟨Y0.ag,fun p q=>ay rfl⟩
def cA_p (n:Nat) (a0:Tf) (a1:Int) (a2:Int):Option (Ta × Int):=
  (cq_p n a0 a1 a2).bind fun c0=>exc c0 (fun d0=>some (d0,(0:Int))) (fun b0=>some ((⟨(0,0,0,0,0,0,0,0),(0,0,0,0,0,0,0,0)⟩:Ta),b0.fB))
theorem cA_c (n:Nat) {L w} (hL:hl L w) (a0:Tf) {v0_3:Value} (h0_3:Rep.R w L [v0_3] a0.fu) {a1:Int} {a2:Int}  {r:Ta × Int} (h:cA_p n a0 a1 a2 = some r) :
 Cl 21 #[.agg #[vI a0.fj,vI a0.fh,vI a0.fl,v0_3],vI a1,vI a2] w (aj w fun _ u=>u = .tuple #[.agg ((aa r.1)).toArray,vI r.2]):=by
 unfold cA_p at h
 refine AG func21 rfl rfl rfl fun _ cs0 hb0=>Ac<|RG.bx (AB w) rfl rfl fun R1 j0 I0 D1=>RG.bx I0 rfl rfl fun Z1 p0 Q0 E1=>RG.bx Q0 rfl rfl fun b2 q0 R0 F1=>RG.nl zL R0 fun c2 H0 U0 G1=>Ag rfl<|Aa<|Ac<|Ab (BG (vs:=[]) (us:=[vP j0,vP p0,vP q0]) ak (e3 rfl rfl rfl))<|Bk (fst:=[]) (cap:=[]) (vs:=[.func (.func 60) #[] #[vP j0,vP p0,vP q0]]) .plain (bd 26) func26 rfl rfl rfl rfl (e1 rfl) rfl fun v1 F0 Q1=>Ac<|RG.nl zL U0 fun g2 s0 V0 H1=>RG.nl [vI 0] V0 fun j2 d0 b0 I1=>Aa<|Ac<|Ab (BG (vs:=[]) (us:=[vP s0,vP d0]) ak (e2 rfl rfl))<|RG.defer (fst:=[]) (cap:=[vP s0,vP d0]) (vs:=[]) rfl .plain rfl ak<|Aa<|Ac<|Ae rfl<|xk h (fun u0 A0 h=>?_) (fun g0 A0 h=>?_)
 refine Bo (fst:=[]) (cap:=[vP j0,vP p0,vP q0]) .plain (bd 60) rfl ak (fun p q=>cq_c n (b0.hL0 hL q) a0 (b0.k0 h0_3 q) (ai q (b0.memA .t5)) (ai q (b0.memA .t4)) (ai q (b0.memA .t3)) A0) fun k2 c1=>?_
 obtain ⟨W0,J1⟩:=b0.agr c1
 refine PN.callD (vs:=[]) (cap:=[vP s0,vP d0]) (bd 64) func64 rfl rfl rfl fun u1 d1 j1=>Ac<|RG.recover1 .plain d1 rfl<|Ag rfl<|Aa<|Ac<|Ae rfl<|Ab (FV.neqI underlying20 rfl rfl)<|Aa<|Be rfl<|Ac<|Ae rfl<|Ab (FV.assertT rfl rfl)<|Ae rfl<|Ab (Ah rfl rfl)<|Ab (Ah rfl rfl)<|RG.nl [vI 0] W0 fun p2 p1 X0 K1=>AS [vI u0.fB] X0 .hd (o1 rfl) fun q2 Y0 M1=>Ag rfl<|Aa<|Aj<|Ac<|Ae rfl<|Ab (FV.not rfl)<|Aa<|BA rfl<|Au<|Ac<|RG.nl zL Y0 fun s2 q1 t0 P1=>Aa<|du 3 fun c0 B0=>Rx 0 24 c0 rfl B0 (AC rfl (t0.memA .hd))<|Rv 1 c0 rfl B0 (fun _=>AP 0 rfl)<|RD.mo (α:=Unit) (fun ()=>[(1,vP d0),(19,vI u0.fB)]) (fun ()=>[.cells d0 [vI 0] 43,.cells s0 zL 42,.cells H0 zL 42,.cells q0 [vI a2] 3,.cells p0 [vI a1] 3,.cells j0 [vI a0.fj,vI a0.fh,vI a0.fl,v0_3] 35]) t0 1 15 ?_ ?_
 rintro ⟨⟩ u2 J0 x1
 try dsimp only
 refine By 4 31 c0 rfl rfl .plain (AA (news:=[vI u0.fB]) J0 .hd rfl rfl rfl rfl rfl rfl (o1 rfl)) fun U1 x0 y1=>AJ (dk c0)<|MX.fin rfl<|RT.leaveD1 j1 func64 rfl .nil<|Ap (u:=.tuple #[.agg zM,vI u0.fB]) F0 func26 rfl (.cons (.many (cs:=zL) rfl rfl (x0.memA .t1)) (.cons (.one rfl rfl ((x0.memA .hd) 0 _ rfl)) .nil)) rfl<|Ab (Ah rfl rfl)<|Ab (Ah rfl rfl)<|AS zL x0 .t2 (ah rfl) fun V1 D0 z1=>Ag rfl<|Aa<|Ao rfl<|Ap hb0 func21 rfl (.cons (.many (cs:=zL) rfl rfl (D0.memA .t2)) (.cons (.tmp rfl) .nil)) rfl ?_
 cases h
 exact D0.gv
 intro C0
 refine BB [2,3] (rk c0) ⟨?_,?_,trivial⟩
 refine Bd (m' :=7) (sk c0) rfl .plain rfl (AQ rfl ((t0.memA .t1) 0 _ rfl))<|By 3 15 c0 rfl rfl .plain (AA (news:=zL) t0 .t3 rfl rfl rfl rfl rfl rfl (ah rfl)) fun k1 v0 z0=>?_
 obtain ⟨K0,Z0⟩:=AF v0 .d2
 exact C0 () K0 (Tt z0 Z0)
 refine RO.now (m' :=11) (sk c0) rfl rfl .plain (AA (news:=zL) t0 .t3 rfl rfl rfl rfl rfl rfl (ah rfl)) fun k1 v0 z0=>Rx 2 16 c0 rfl B0 (AQ rfl ((v0.memA .t1) 0 _ rfl)) ?_
 obtain ⟨M0,b1⟩:=AF v0 .d2
 exact C0 () M0 (Tt z0 b1)
 refine RG.callq' (v:=.agg ((aa g0)).toArray) (fst:=[]) (cap:=[vP j0,vP p0,vP q0]) .plain (bd 60) rfl ak (fun p q=>AI (cq_c n (b0.hL0 hL q) a0 (b0.k0 h0_3 q) (ai q (b0.memA .t5)) (ai q (b0.memA .t4)) (ai q (b0.memA .t3)) A0)) rfl<|AS (aa g0) b0 .t1 (ah rfl) fun W1 P0 A1=>AS [vI 0] P0 .hd (o1 rfl) fun X1 y0 B1=>Aa<|Ao rfl<|RT.callD (vs:=[]) (cap:=[vP s0,vP d0]) (bd 64) func64 rfl rfl rfl fun s1 G0 g1=>Ac<|RG.recover0 .plain G0 rfl<|Ag rfl<|Aa<|Ac<|Ae rfl<|Ab (FV.neqI0 underlying20 rfl rfl)<|Aa<|BA rfl<|Au<|MX.fin rfl<|RT.leaveD0 G0 g1 func64 rfl .nil<|Ap (u:=.tuple #[.agg ((aa g0)).toArray,vI 0]) F0 func26 rfl (.cons (.many (cs:=(aa g0)) rfl rfl (y0.memA .t1)) (.cons (.one rfl rfl ((y0.memA .hd) 0 _ rfl)) .nil)) rfl<|Ab (Ah rfl rfl)<|Ab (Ah rfl rfl)<|AS (aa g0) y0 .t2 (ah rfl) fun Y1 E0 C1=>Ag rfl<|Aa<|Ao rfl<|Ap hb0 func21 rfl (.cons (.many (cs:=(aa g0)) rfl rfl (E0.memA .t2)) (.cons (.tmp rfl) .nil)) rfl ?_
 cases h
 exact E0.gv
theorem iH:ElT Tryz.prog 30 3 (Rep.size Int) 8 (vI 0) [vI 0]:=⟨underlying30,by kernel_rfl,rfl,rfl,rfl,rfl⟩
def bN_p (n:Nat):Option Bool:=
  (bP_p n).bind fun y1=>(bt_p n y1 ([(0:Int),(0:Int),(1:Int)]:List Int) (2:Int) (0:Int)).bind fun j0=>(cp_p n y1 (1:Int) (0:Int)).bind fun A0=>(bt_p n (⟨(0:Int),(0:Int),(0:Int),([(⟨⟨#[97]⟩,(0:Int),([]:List Int),([]:List Int),([]:List Int),false⟩:Tb),(⟨⟨#[98]⟩,(0:Int),([]:List Int),([]:List Int),([]:List Int),false⟩:Tb)]:List Tb)⟩:Tf) ([(0:Int),(1:Int)]:List Int) (2:Int) (0:Int)).bind fun B0=>(if j0.2 = 0 then (am_p n (1:Int) (4:Int)).bind fun k0=>(am_p n (1:Int) (10:Int)).bind fun p0=>(ay_p n j0.1 ([k0,p0]:List Ta)).bind fun q0=>(if q0 = true then (am_p n (1:Int) (5:Int)).bind fun s0=>(cn_p n y1 ([(0:Int),(0:Int),(1:Int)]:List Int) (2:Int) (0:Int) s0).bind fun c0=>(bQ_p n c0.1 c0.2 ([(0:Int)]:List Int)).bind fun t0=>(if t0 = true then (aN_p n y1 ([(0:Int),(0:Int),(1:Int)]:List Int) (2:Int) (0:Int)).bind fun d0=>(bG_p n d0.1 d0.2 (20:Int) (77:Int)).bind fun u0=>(if u0 = true then (am_p n (14:Int) (9:Int)).bind fun v0=>(am_p n (-1:Int) (45:Int)).bind fun x0=>(cp_p n y1 (0:Int) (0:Int)).bind fun b0=>(bU_p n b0.1 b0.2.1 b0.2.2 v0 x0).bind fun y0=>(if y0 = true then (cA_p n y1 (0:Int) (0:Int)).bind fun g0=>(bG_p n g0.1 g0.2 (49:Int) (51:Int)).bind fun z0=>(if z0 = true then (if A0.2.2 = 2 then some (decide (B0.2 = 2)) else some false) else some false) else some false) else some false) else some false) else some false) else some false)
theorem bN_c (n:Nat) {L w} (hL:hl L w)  {r:Bool} (h:bN_p n = some r) :
 Cl 4 #[] w (aj w fun _ u=>u = .bool r):=by
 unfold bN_p at h
 have hS0:=AB w
 refine AG func4 rfl rfl rfl fun _ cs0 hb0=>Ac<|Ag rfl<|Aa<|Ac<|bk h fun y1 hy1 h=>jE (bd 14) rfl ak (fun p q=>eh (b0:=w.heap.size) (bP_c n (hS0.hL hL q)  hy1) q (Nat.le_trans hS0.ag.size q.size)) rfl fun w2 vu3 hag4 ⟨v9,x2,hu6,s5,F2⟩=>?_
 subst hu6
 have hS7:=fT hS0 s5
 have hT8:=jR hS0 s5
 refine Ai .plain rfl (Bb (α:=Int) (xs:=([(0:Int),(0:Int),(1:Int)]:List Int)) (vs:=[vI 0,vI 0,vI 1]) (ds' :=[vI 0,vI 0,vI 1]) rfl hS7 iH rfl (e3 rfl rfl rfl) (by kernel_rfl) rfl) fun p4 d2 G1 B2=>RG.nl [vI 0,vI 0,vI 0,vN] G1 fun s4 G3 H1 Q1=>AS [vI y1.fj,vI y1.fh,vI y1.fl,v9] H1 .hd (o4 rfl rfl rfl (St.o1 (α:=Tb) H1 .t2)) fun u4 I0 R1=>Ag rfl<|Aa<|Ac<|Ab (AC rfl (I0.memA .hd))<|Ae rfl ?_
 have J0:=BI I0 .t2
 have u0:=BK (α:=Tb) (v:=v9) (xs:=y1.fu) J0 L (Bv (α:=Tb) I0 .t2 (AN (AH (cs:=x2) (xs:=(y1.fu:List Tb)) hS7 L (dW F2)) (Tt B2 (Tt Q1 R1))) hL)
 have b1:=BI J0 .t1
 have p1:=BJ J0 .t1
 have C1:=BK (α:=Int) (v:=(vS d2 3)) (xs:=([(0:Int),(0:Int),(1:Int)]:List Int)) b1 L (Bv (α:=Int) J0 .t1 (AN (AH (cs:=[vI 0,vI 0,vI 1]) (xs:=(([(0:Int),(0:Int),(1:Int)]:List Int):List Int)) G1 L (Ar (cs:=[vI 0]) (ds:=[vI 0,vI 1]) rfl (Ar (cs:=[vI 0]) (ds:=[vI 1]) rfl (Ar (cs:=[vI 1]) (ds:=[]) rfl (AR _ _))))) (Tt Q1 (Tt R1 (BJ I0 .t2)))) hL)
 refine bk h fun D3 k3 h=>jE (bd 9) rfl (e4 rfl rfl rfl rfl) (fun p q=>bt_c n (b1.hL hL q) y1 (Av (Az u0 p1) q) (Av C1 q) k3) rfl fun v4 d4 D2 ⟨V3,hu_,H2⟩=>?_
 subst hu_
 obtain ⟨K0,q1⟩:=b1.agr D2
 refine Ae rfl<|Ab (Ah rfl rfl)<|Ab (Ah rfl rfl)<|Ag rfl<|Ag rfl<|Aa<|Ac<|Ab (AC rfl (K0.memA .hd))<|bk h fun x0 p3 h=>Bi (.tuple #[.agg ((aa x0.1)).toArray,.agg ((aa x0.2.1)).toArray,vI x0.2.2]) (bd 15) rfl (e3 rfl rfl rfl) (fun p q=>cp_c n (K0.hL0 hL q) y1 (K0.kd (Az u0 (Tt p1 q1)) q) p3) rfl<|Ae rfl<|Ab (Ah rfl rfl)<|Ab (Ah rfl rfl)<|Ab (Ah rfl rfl)<|RG.nl zL K0 fun x4 H3 y2 s1=>RG.nl zL y2 fun y4 I3 z2 u1=>AS (aa x0.1) z2 .t1 (ah rfl) fun z4 A2 v1=>AS (aa x0.2.1) A2 .hd (ah rfl) fun A4 I1 x1=>Ag rfl<|Aa<|Ac<|Ab (AO (vs:=[.string ⟨#[97]⟩]) (u:=.agg #[.string ⟨#[97]⟩,vI 0,vN,vN,vN,.bool false]) (e1 rfl) (fun p=>by kernel_rfl))<|Ab (AO (vs:=[.string ⟨#[98]⟩]) (u:=.agg #[.string ⟨#[98]⟩,vI 0,vN,vN,vN,.bool false]) (e1 rfl) (fun p=>by kernel_rfl)) ?_
 have Q3:=Rep.nilAt (α:=Int) I1 L
 refine Ai .plain rfl (Bb (α:=Tb) (xs:=([(⟨⟨#[97]⟩,(0:Int),([]:List Int),([]:List Int),([]:List Int),false⟩:Tb),(⟨⟨#[98]⟩,(0:Int),([]:List Int),([]:List Int),([]:List Int),false⟩:Tb)]:List Tb)) (vs:=[.agg #[.string ⟨#[97]⟩,vI 0,vN,vN,vN,.bool false],.agg #[.string ⟨#[98]⟩,vI 0,vN,vN,vN,.bool false]]) (ds' :=[.string ⟨#[97]⟩,vI 0,vN,vN,vN,.bool false,.string ⟨#[98]⟩,vI 0,vN,vN,vN,.bool false]) rfl I1 gq rfl (e2 rfl rfl) (by kernel_rfl) rfl) fun B4 Y0 c1 z1=>?_
 have v0:=Rep.nilAt (α:=Int) c1 L
 refine Ab (AO (vs:=[(vS Y0 2)]) (u:=.agg #[vI 0,vI 0,vI 0,(vS Y0 2)]) (e1 rfl) (fun p=>by kernel_rfl))<|Ai .plain rfl (Bb (α:=Int) (xs:=([(0:Int),(1:Int)]:List Int)) (vs:=[vI 0,vI 1]) (ds' :=[vI 0,vI 1]) rfl c1 iH rfl (e2 rfl rfl) (by kernel_rfl) rfl) fun C4 g2 M0 R0=>?_
 have P0:=BI M0 .t1
 have U0:=BJ M0 .t1
 have d1:=BI P0 .hd
 have V0:=BJ P0 .hd
 refine bk h fun E3 q3 h=>jE (bd 9) rfl (e4 rfl rfl rfl rfl) (fun p q=>bt_c n (d1.hL hL q) (⟨(0:Int),(0:Int),(0:Int),([(⟨⟨#[97]⟩,(0:Int),([]:List Int),([]:List Int),([]:List Int),false⟩:Tb),(⟨⟨#[98]⟩,(0:Int),([]:List Int),([]:List Int),([]:List Int),false⟩:Tb)]:List Tb)⟩:Tf) (Av (Az (BK (α:=Tb) (v:=(vS Y0 2)) (xs:=([(⟨⟨#[97]⟩,(0:Int),([]:List Int),([]:List Int),([]:List Int),false⟩:Tb),(⟨⟨#[98]⟩,(0:Int),([]:List Int),([]:List Int),([]:List Int),false⟩:Tb)]:List Tb)) P0 L (Bv (α:=Tb) M0 .t1 (AN (AH (cs:=[.string ⟨#[97]⟩,vI 0,vN,vN,vN,.bool false,.string ⟨#[98]⟩,vI 0,vN,vN,vN,.bool false]) (xs:=(([(⟨⟨#[97]⟩,(0:Int),([]:List Int),([]:List Int),([]:List Int),false⟩:Tb),(⟨⟨#[98]⟩,(0:Int),([]:List Int),([]:List Int),([]:List Int),false⟩:Tb)]:List Tb):List Tb)) c1 L (Ar (cs:=[.string ⟨#[97]⟩,vI 0,vN,vN,vN,.bool false]) (ds:=[.string ⟨#[98]⟩,vI 0,vN,vN,vN,.bool false]) (gr ⟨#[97]⟩ (0:Int) ([]:List Int) v0 ([]:List Int) v0 ([]:List Int) v0 false) (Ar (cs:=[.string ⟨#[98]⟩,vI 0,vN,vN,vN,.bool false]) (ds:=[]) (gr ⟨#[98]⟩ (0:Int) ([]:List Int) v0 ([]:List Int) v0 ([]:List Int) v0 false) (AR _ _)))) R0) hL)) V0) q) (Av (BK (α:=Int) (v:=(vS g2 2)) (xs:=([(0:Int),(1:Int)]:List Int)) d1 L (Bv (α:=Int) P0 .hd (AN (AH (cs:=[vI 0,vI 1]) (xs:=(([(0:Int),(1:Int)]:List Int):List Int)) M0 L (Ar (cs:=[vI 0]) (ds:=[vI 1]) rfl (Ar (cs:=[vI 1]) (ds:=[]) rfl (AR _ _)))) U0) hL)) q) q3) rfl fun D4 g4 E2 ⟨W3,hu_,R3⟩=>?_
 subst hu_
 obtain ⟨Q0,A1⟩:=d1.agr E2
 refine Ae rfl<|Ab (Ah rfl rfl)<|Ab (Ah rfl rfl)<|Ag rfl<|Ag rfl<|Aa<|Aj<|du 57 fun c0 d0=>Rv 0 c0 rfl d0 (fun _=>Ak rfl)<|Rv 1 c0 rfl d0 (fun _=>FV.eql (i:=D3.2) (j:=0) rfl rfl)<|Rv 2 c0 rfl d0 (fun _=>Ak rfl)<|RD.ifd (s:=35) rfl h (fun j2 h=>?_) (fun j2 h=>?_)
 refine RD.vP 3 15 c0 rfl d0 (.yes rfl rfl) (fun _=>Ak rfl) rfl<|bk h fun q0 P2 h=>RD.callq (i:=4) (m' :=31) (W:=144115188075855840) (tk c0) rfl d0 (v:=.agg ((aa q0)).toArray) (fst:=[]) (cap:=[]) (.yes rfl rfl) (bd 12) rfl (e2 rfl rfl) (fun p q=>am_c n (Q0.hL0 hL q)  P2) rfl<|bk h fun k0 Q2 h=>RD.callq (i:=5) (m' :=63) (W:=144115188075855808) (tk c0) rfl d0 (v:=.agg ((aa k0)).toArray) (fst:=[]) (cap:=[]) (.yes rfl rfl) (bd 12) rfl (e2 rfl rfl) (fun p q=>am_c n (Q0.hL0 hL q)  Q2) rfl<|RD.nu 6 127 c0 rfl (.yes rfl rfl) rfl (Bb (α:=Ta) (xs:=([q0,k0]:List Ta)) (vs:=[.agg ((aa q0)).toArray,.agg ((aa k0)).toArray]) (ds' :=(aa q0 ++ aa k0)) rfl Q0 cN rfl (e2 rfl rfl) (by kernel_rfl) rfl) fun j4 F3 t0 g1=>bk h fun y3 R2 h=>RD.callq (i:=7) (m' :=255) (W:=144115188075855616) (tk c0) rfl d0 (v:=.bool y3) (fst:=[]) (cap:=[]) (.yes rfl rfl) (bd 16) rfl (e2 rfl rfl) (fun p q=>ay_c n (t0.hL0 hL q) (t0.kd (Az H2 (Tt s1 (Tt u1 (Tt v1 (Tt x1 (Tt z1 (Tt R0 (Tt U0 (Tt V0 (Tt A1 g1)))))))))) q) (Av (St.lend (α:=Ta) (L:=L) t0 .hd (AH (cs:=(aa q0 ++ aa k0)) (xs:=(([q0,k0]:List Ta):List Ta)) t0 L (Ar (cs:=(aa q0)) (ds:=(aa k0)) (aU q0.fN q0.fD) (Ar (cs:=(aa k0)) (ds:=[]) (aU k0.fN k0.fD) (AR _ _)))) hL) q) R2) rfl<|Rv 8 c0 rfl d0 (fun _=>FV.pick_t rfl rfl)<|Rv 9 c0 rfl d0 (fun _=>Ak rfl)<|RD.ifb (s:=42) rfl h (fun k2 h=>?_) (fun k2 h=>?_)
 refine RD.val (i:=12) (m' :=5119) (W:=144115188075823104) (tk c0) rfl d0 (.yes rfl rfl) (AC rfl (t0.memA .t3)) rfl<|RD.vP 13 13311 c0 rfl d0 (.yes rfl rfl) (fun _=>Ak rfl) rfl<|RD.nu 10 14335 c0 rfl (.yes rfl rfl) rfl (jA ((0:Int)) (vI 0) t0 bp (e1 rfl)) fun s3 F1 G0 J1=>?_
 have H0:=BI G0 .hd
 have K1:=BJ G0 .hd
 have W1:=BK (α:=Int) (v:=(vS F1 1)) (xs:=([(0:Int)]:List Int)) H0 L (Bv (α:=Int) G0 .hd (jC ((0:Int)) (vI 0) G0 L rfl) hL)
 refine Bx 11 16383 c0 rfl (.yes rfl rfl) (bd 17) rfl (e1 rfl) (fun p q=>Calls.gives (cI_c n (H0.hL hL q) ([(0:Int)]:List Int) (Av W1 q)) fun (w8:World) (u8:Value) ⟨b0_,hu_,s_⟩=>(⟨b0_,hu_,s_.from q⟩:∃ z0:Nat,u8 = Value.func (.func 49) #[] #[vP z0]/\St s3 w8 [.cells z0 [(vS F1 1)] 29])) rfl fun k4 X3 J3 ⟨z0,I2,X1⟩=>?_
 subst I2
 have Z0:=dS H0 X1
 have j1:=il H0 X1
 refine bk h fun c2 U2 h=>RD.callq (i:=14) (m' :=32767) (W:=144115188075823104) (tk c0) rfl d0 (v:=.agg ((aa c2)).toArray) (fst:=[]) (cap:=[]) (.yes rfl rfl) (bd 12) rfl (e2 rfl rfl) (fun p q=>am_c n (Z0.hL0 hL q)  U2) rfl<|bk h fun E4 V2 h=>?_
 have U1:=Tt p1 (Tt q1 (Tt s1 (Tt u1 (Tt v1 (Tt x1 (Tt z1 (Tt R0 (Tt U0 (Tt V0 (Tt A1 (Tt g1 (Tt J1 (Tt K1 j1)))))))))))))
 have V1:=Tt q1 (Tt s1 (Tt u1 (Tt v1 (Tt x1 (Tt z1 (Tt R0 (Tt U0 (Tt V0 (Tt A1 (Tt g1 (Tt J1 (Tt K1 j1))))))))))))
 refine Bx 15 65535 c0 rfl (.yes rfl rfl) (bd 18) rfl (e5 rfl rfl rfl rfl rfl) (fun p q=>cn_c n (Z0.hL hL q) y1 (Av (Az u0 U1) q) (Av (Az C1 V1) q) c2 V2) rfl fun u3 Y3 C2 ⟨U3,hu_,G2⟩=>?_
 subst hu_
 obtain ⟨p0,k1⟩:=Z0.agr C2
 refine RD.vP 16 131071 c0 rfl d0 (.yes rfl rfl) (fun _=>Ah rfl rfl) rfl<|RD.vP 17 262143 c0 rfl d0 (.yes rfl rfl) (fun _=>Ah rfl rfl) rfl<|bk h fun z3 W2 h=>RD.callq (i:=18) (m' :=524287) (W:=144115188075331584) (tk c0) rfl d0 (v:=.bool z3) (fst:=[]) (cap:=[vP z0]) (.yes rfl rfl) (bd 49) rfl (e2 rfl rfl) (fun p q=>bQ_c n (p0.hL0 hL q) (p0.kd G2 q) (p0.kd (Az W1 (Tt j1 k1)) q) (ai q (p0.memA .hd)) W2) rfl<|Rv 19 c0 rfl d0 (fun _=>FV.pick_t rfl rfl)<|Rv 20 c0 rfl d0 (fun _=>Ak rfl)<|RD.ifb (s:=53) rfl h (fun p2 h=>?_) (fun p2 h=>?_)
 refine RD.val (i:=22) (m' :=6291455) (W:=144115188059078656) (tk c0) rfl d0 (.yes rfl rfl) (AC rfl (p0.memA .t4)) rfl<|RD.vP 23 14680063 c0 rfl d0 (.yes rfl rfl) (fun _=>Ak rfl) rfl<|Bx 21 16777215 c0 rfl (.yes rfl rfl) (bd 19) rfl (e2 rfl rfl) (fun p q=>Calls.gives (cG_c n (p0.hL hL q) (20:Int) (77:Int)) fun (w8:World) (u8:Value) ⟨b0_,b1_,hu_,s_⟩=>(⟨b0_,b1_,hu_,s_.from q⟩:∃ A0 B0:Nat,u8 = Value.func (.func 58) #[] #[vP A0,vP B0]/\St u3 w8 [.cells A0 [vI 20] 3,.cells B0 [vI 77] 3])) rfl fun v3 Z3 K3 ⟨A0,B0,J2,Y1⟩=>?_
 subst J2
 have g0:=fR p0 Y1
 have M1:=jT p0 Y1
 refine bk h fun D1 X2 h=>?_
 have B1:=Tt U1 (Tt k1 M1)
 refine RD.callq (i:=24) (m' :=33554431) (W:=144115188042301440) (tk c0) rfl d0 (v:=.tuple #[.agg ((aa D1.1)).toArray,vI D1.2]) (fst:=[]) (cap:=[]) (.yes rfl rfl) (bd 8) rfl (e4 rfl rfl rfl rfl) (fun p q=>aN_c n (g0.hL0 hL q) y1 (g0.kd (Az u0 B1) q) (g0.kd (Az C1 (Tt V1 (Tt k1 M1))) q) X2) rfl<|RD.vP 25 67108863 c0 rfl d0 (.yes rfl rfl) (fun _=>Ah rfl rfl) rfl<|RD.vP 26 134217727 c0 rfl d0 (.yes rfl rfl) (fun _=>Ah rfl rfl) rfl<|bk h fun A3 Y2 h=>RD.callq (i:=27) (m' :=268435455) (W:=144115187807420416) (tk c0) rfl d0 (v:=.bool A3) (fst:=[]) (cap:=[vP A0,vP B0]) (.yes rfl rfl) (bd 58) rfl (e2 rfl rfl) (fun p q=>bG_c n (g0.hL0 hL q) D1.1 (ai q (g0.memA .hd)) (ai q (g0.memA .t1)) Y2) rfl<|Rv 28 c0 rfl d0 (fun _=>FV.pick_t rfl rfl)<|Rv 29 c0 rfl d0 (fun _=>Ak rfl)<|RD.ifb (s:=62) rfl h (fun q2 h=>?_) (fun q2 h=>?_)
 refine bk h fun W0 Z2 h=>RD.callq (i:=30) (m' :=2147483647) (W:=144115177338437632) (tk c0) rfl d0 (v:=.agg ((aa W0)).toArray) (fst:=[]) (cap:=[]) (.yes rfl rfl) (bd 12) rfl (e2 rfl rfl) (fun p q=>am_c n (g0.hL0 hL q)  Z2) rfl<|bk h fun X0 b3 h=>RD.callq (i:=31) (m' :=4294967295) (W:=144115175190953984) (tk c0) rfl d0 (v:=.agg ((aa X0)).toArray) (fst:=[]) (cap:=[]) (.yes rfl rfl) (bd 12) rfl (e2 rfl rfl) (fun p q=>am_c n (g0.hL0 hL q)  b3) rfl<|RD.val (i:=33) (m' :=12884901887) (W:=144115170895986688) (tk c0) rfl d0 (.yes rfl rfl) (AC rfl (g0.memA .t6)) rfl<|Bx 32 17179869183 c0 rfl (.yes rfl rfl) (bd 20) rfl (e2 rfl rfl) (fun p q=>Calls.gives (cJ_c n (g0.hL hL q) W0 X0) fun (w8:World) (u8:Value) ⟨b0_,b1_,hu_,s_⟩=>(⟨b0_,b1_,hu_,s_.from q⟩:∃ C0 D0:Nat,u8 = Value.func (.func 59) #[] #[vP C0,vP D0]/\St v3 w8 [.cells C0 (aa W0) 42,.cells D0 (aa X0) 42])) rfl fun x3 b4 M3 ⟨C0,D0,K2,Z1⟩=>?_
 subst K2
 have j0:=fR g0 Z1
 have P1:=jT g0 Z1
 refine bk h fun y0 c3 h=>RD.callq (i:=34) (m' :=34359738367) (W:=144115153716117504) (tk c0) rfl d0 (v:=.tuple #[.agg ((aa y0.1)).toArray,.agg ((aa y0.2.1)).toArray,vI y0.2.2]) (fst:=[]) (cap:=[]) (.yes rfl rfl) (bd 15) rfl (e3 rfl rfl rfl) (fun p q=>cp_c n (j0.hL0 hL q) y1 (j0.kd (Az u0 (Tt B1 P1)) q) c3) rfl<|RD.vP 35 68719476735 c0 rfl d0 (.yes rfl rfl) (fun _=>Ah rfl rfl) rfl<|RD.vP 36 137438953471 c0 rfl d0 (.yes rfl rfl) (fun _=>Ah rfl rfl) rfl<|RD.vP 37 274877906943 c0 rfl d0 (.yes rfl rfl) (fun _=>Ah rfl rfl) rfl<|bk h fun B3 d3 h=>RD.callq (i:=38) (m' :=549755813887) (W:=144114638320041984) (tk c0) rfl d0 (v:=.bool B3) (fst:=[]) (cap:=[vP C0,vP D0]) (.yes rfl rfl) (bd 59) rfl (e3 rfl rfl rfl) (fun p q=>bU_c n (j0.hL0 hL q) y0.1 y0.2.1 W0 (ai q (j0.memA .hd)) X0 (ai q (j0.memA .t1)) d3) rfl<|Rv 39 c0 rfl d0 (fun _=>FV.pick_t rfl rfl)<|Rv 40 c0 rfl d0 (fun _=>Ak rfl)<|RD.ifb (s:=73) rfl h (fun s2 h=>?_) (fun s2 h=>?_)
 refine RD.val (i:=42) (m' :=6597069766655) (W:=144106391982833664) (tk c0) rfl d0 (.yes rfl rfl) (AC rfl (j0.memA .t8)) rfl<|Bx 41 8796093022207 c0 rfl (.yes rfl rfl) (bd 19) rfl (e2 rfl rfl) (fun p q=>Calls.gives (cG_c n (j0.hL hL q) (49:Int) (51:Int)) fun (w8:World) (u8:Value) ⟨b0_,b1_,hu_,s_⟩=>(⟨b0_,b1_,hu_,s_.from q⟩:∃ E0 F0:Nat,u8 = Value.func (.func 58) #[] #[vP E0,vP F0]/\St x3 w8 [.cells E0 [vI 49] 3,.cells F0 [vI 51] 3])) rfl fun q4 c4 P3 ⟨E0,F0,M2,b2⟩=>?_
 subst M2
 have s0:=fR j0 b2
 refine bk h fun E1 g3 h=>RD.callq (i:=43) (m' :=17592186044415) (W:=144097595889811456) (tk c0) rfl d0 (v:=.tuple #[.agg ((aa E1.1)).toArray,vI E1.2]) (fst:=[]) (cap:=[]) (.yes rfl rfl) (bd 21) rfl (e3 rfl rfl rfl) (fun p q=>cA_c n (s0.hL0 hL q) y1 (s0.kd (Az u0 (Tt B1 (Tt P1 (jT j0 b2)))) q) g3) rfl<|RD.vP 44 35184372088831 c0 rfl d0 (.yes rfl rfl) (fun _=>Ah rfl rfl) rfl<|RD.vP 45 70368744177663 c0 rfl d0 (.yes rfl rfl) (fun _=>Ah rfl rfl) rfl<|bk h fun C3 j3 h=>RD.callq (i:=46) (m' :=140737488355327) (W:=143974450587500544) (tk c0) rfl d0 (v:=.bool C3) (fst:=[]) (cap:=[vP E0,vP F0]) (.yes rfl rfl) (bd 58) rfl (e2 rfl rfl) (fun p q=>bG_c n (s0.hL0 hL q) E1.1 (ai q (s0.memA .hd)) (ai q (s0.memA .t1)) j3) rfl<|Rv 47 c0 rfl d0 (fun _=>FV.pick_t rfl rfl)<|Rv 48 c0 rfl d0 (fun _=>Ak rfl)<|RD.ifb (s:=81) rfl h (fun u2 h=>?_) (fun u2 h=>?_)
 refine RD.vP 49 1125899906842623 c0 rfl d0 (.yes rfl rfl) (fun _=>Ak rfl) rfl<|RD.vP 50 2251799813685247 c0 rfl d0 (.yes rfl rfl) (fun _=>FV.eql (i:=x0.2.2) (j:=2) rfl rfl) rfl<|Rv 51 c0 rfl d0 (fun _=>FV.pick_t rfl rfl)<|Rv 52 c0 rfl d0 (fun _=>Ak rfl)<|RD.ifd (s:=85) rfl h (fun v2 h=>?_) (fun v2 h=>?_)
 refine RD.vP 53 18014398509481983 c0 rfl d0 (.yes rfl rfl) (fun _=>Ak rfl) rfl<|RD.vP 54 36028797018963967 c0 rfl d0 (.yes rfl rfl) (fun _=>FV.eql (i:=E3.2) (j:=2) rfl rfl) rfl<|Rv 55 c0 rfl d0 (fun _=>FV.pick_t rfl rfl)<|Rv 56 c0 rfl d0 (fun _=>Ba rfl)<|AJ (dk c0)<|Ao rfl<|Bc hb0 func4 rfl rfl ?_
 cases h
 exact s0.gv
 refine Bz 36028797018963967 2 [(53,86),(54,87)] (F:=[(85,false)]) (U:=[]) c0 d0 (.cons rfl .nil) .nil ?_
 dsimp only [aQ,List.map]
 refine Rv 55 c0 rfl d0 (fun _=>Bm rfl rfl)<|Rv 56 c0 rfl d0 (fun _=>Ba rfl)<|AJ (dk c0)<|Ao rfl<|Bc hb0 func4 rfl rfl ?_
 cases h
 exact s0.gv
 refine Bz 2251799813685247 6 [(49,82),(50,83)] (F:=[(81,false)]) (U:=[]) c0 d0 (.cons rfl .nil) .nil ?_
 dsimp only [aQ,List.map]
 refine Rv 51 c0 rfl d0 (fun _=>Bm rfl rfl)<|Rv 52 c0 rfl d0 (fun _=>Ak rfl)<|Bz 36028797018963967 2 [(53,86),(54,87)] (F:=[(85,false)]) (U:=[]) c0 d0 (.cons rfl .nil) .nil ?_
 dsimp only [aQ,List.map]
 refine Rv 55 c0 rfl d0 (fun _=>Bm rfl rfl)<|Rv 56 c0 rfl d0 (fun _=>Ba rfl)<|AJ (dk c0)<|Ao rfl<|Bc hb0 func4 rfl rfl ?_
 cases h
 exact s0.gv
 refine Bz 140737488355327 10 [(41,74),(42,75),(43,76),(44,77),(45,78),(46,79)] (F:=[(73,false)]) (U:=[]) c0 d0 (.cons rfl .nil) .nil ?_
 dsimp only [aQ,List.map]
 refine Rv 47 c0 rfl d0 (fun _=>Bm rfl rfl)<|Rv 48 c0 rfl d0 (fun _=>Ak rfl)<|Bz 2251799813685247 6 [(49,82),(50,83)] (F:=[(81,false)]) (U:=[]) c0 d0 (.cons rfl .nil) .nil ?_
 dsimp only [aQ,List.map]
 refine Rv 51 c0 rfl d0 (fun _=>Bm rfl rfl)<|Rv 52 c0 rfl d0 (fun _=>Ak rfl)<|Bz 36028797018963967 2 [(53,86),(54,87)] (F:=[(85,false)]) (U:=[]) c0 d0 (.cons rfl .nil) .nil ?_
 dsimp only [aQ,List.map]
 refine Rv 55 c0 rfl d0 (fun _=>Bm rfl rfl)<|Rv 56 c0 rfl d0 (fun _=>Ba rfl)<|AJ (dk c0)<|Ao rfl<|Bc hb0 func4 rfl rfl ?_
 cases h
 exact j0.gv
 refine Bz 549755813887 18 [(30,63),(31,64),(32,65),(33,66),(34,67),(35,68),(36,69),(37,70),(38,71)] (F:=[(62,false)]) (U:=[]) c0 d0 (.cons rfl .nil) .nil ?_
 dsimp only [aQ,List.map]
 refine Rv 39 c0 rfl d0 (fun _=>Bm rfl rfl)<|Rv 40 c0 rfl d0 (fun _=>Ak rfl)<|Bz 140737488355327 10 [(41,74),(42,75),(43,76),(44,77),(45,78),(46,79)] (F:=[(73,false)]) (U:=[]) c0 d0 (.cons rfl .nil) .nil ?_
 dsimp only [aQ,List.map]
 refine Rv 47 c0 rfl d0 (fun _=>Bm rfl rfl)<|Rv 48 c0 rfl d0 (fun _=>Ak rfl)<|Bz 2251799813685247 6 [(49,82),(50,83)] (F:=[(81,false)]) (U:=[]) c0 d0 (.cons rfl .nil) .nil ?_
 dsimp only [aQ,List.map]
 refine Rv 51 c0 rfl d0 (fun _=>Bm rfl rfl)<|Rv 52 c0 rfl d0 (fun _=>Ak rfl)<|Bz 36028797018963967 2 [(53,86),(54,87)] (F:=[(85,false)]) (U:=[]) c0 d0 (.cons rfl .nil) .nil ?_
 dsimp only [aQ,List.map]
 refine Rv 55 c0 rfl d0 (fun _=>Bm rfl rfl)<|Rv 56 c0 rfl d0 (fun _=>Ba rfl)<|AJ (dk c0)<|Ao rfl<|Bc hb0 func4 rfl rfl ?_
 cases h
 exact g0.gv
 refine Bz 268435455 29 [(21,54),(22,55),(23,56),(24,57),(25,58),(26,59),(27,60)] (F:=[(53,false)]) (U:=[]) c0 d0 (.cons rfl .nil) .nil ?_
 dsimp only [aQ,List.map]
 refine Rv 28 c0 rfl d0 (fun _=>Bm rfl rfl)<|Rv 29 c0 rfl d0 (fun _=>Ak rfl)<|Bz 549755813887 18 [(30,63),(31,64),(32,65),(33,66),(34,67),(35,68),(36,69),(37,70),(38,71)] (F:=[(62,false)]) (U:=[]) c0 d0 (.cons rfl .nil) .nil ?_
 dsimp only [aQ,List.map]
 refine Rv 39 c0 rfl d0 (fun _=>Bm rfl rfl)<|Rv 40 c0 rfl d0 (fun _=>Ak rfl)<|Bz 140737488355327 10 [(41,74),(42,75),(43,76),(44,77),(45,78),(46,79)] (F:=[(73,false)]) (U:=[]) c0 d0 (.cons rfl .nil) .nil ?_
 dsimp only [aQ,List.map]
 refine Rv 47 c0 rfl d0 (fun _=>Bm rfl rfl)<|Rv 48 c0 rfl d0 (fun _=>Ak rfl)<|Bz 2251799813685247 6 [(49,82),(50,83)] (F:=[(81,false)]) (U:=[]) c0 d0 (.cons rfl .nil) .nil ?_
 dsimp only [aQ,List.map]
 refine Rv 51 c0 rfl d0 (fun _=>Bm rfl rfl)<|Rv 52 c0 rfl d0 (fun _=>Ak rfl)<|Bz 36028797018963967 2 [(53,86),(54,87)] (F:=[(85,false)]) (U:=[]) c0 d0 (.cons rfl .nil) .nil ?_
 dsimp only [aQ,List.map]
 refine Rv 55 c0 rfl d0 (fun _=>Bm rfl rfl)<|Rv 56 c0 rfl d0 (fun _=>Ba rfl)<|AJ (dk c0)<|Ao rfl<|Bc hb0 func4 rfl rfl ?_
 cases h
 exact p0.gv
 refine Bz 524287 38 [(10,43),(11,44),(12,45),(13,46),(14,47),(15,48),(16,49),(17,50),(18,51)] (F:=[(42,false)]) (U:=[]) c0 d0 (.cons rfl .nil) .nil ?_
 dsimp only [aQ,List.map]
 refine Rv 19 c0 rfl d0 (fun _=>Bm rfl rfl)<|Rv 20 c0 rfl d0 (fun _=>Ak rfl)<|Bz 268435455 29 [(21,54),(22,55),(23,56),(24,57),(25,58),(26,59),(27,60)] (F:=[(53,false)]) (U:=[]) c0 d0 (.cons rfl .nil) .nil ?_
 dsimp only [aQ,List.map]
 refine Rv 28 c0 rfl d0 (fun _=>Bm rfl rfl)<|Rv 29 c0 rfl d0 (fun _=>Ak rfl)<|Bz 549755813887 18 [(30,63),(31,64),(32,65),(33,66),(34,67),(35,68),(36,69),(37,70),(38,71)] (F:=[(62,false)]) (U:=[]) c0 d0 (.cons rfl .nil) .nil ?_
 dsimp only [aQ,List.map]
 refine Rv 39 c0 rfl d0 (fun _=>Bm rfl rfl)<|Rv 40 c0 rfl d0 (fun _=>Ak rfl)<|Bz 140737488355327 10 [(41,74),(42,75),(43,76),(44,77),(45,78),(46,79)] (F:=[(73,false)]) (U:=[]) c0 d0 (.cons rfl .nil) .nil ?_
 dsimp only [aQ,List.map]
 refine Rv 47 c0 rfl d0 (fun _=>Bm rfl rfl)<|Rv 48 c0 rfl d0 (fun _=>Ak rfl)<|Bz 2251799813685247 6 [(49,82),(50,83)] (F:=[(81,false)]) (U:=[]) c0 d0 (.cons rfl .nil) .nil ?_
 dsimp only [aQ,List.map]
 refine Rv 51 c0 rfl d0 (fun _=>Bm rfl rfl)<|Rv 52 c0 rfl d0 (fun _=>Ak rfl)<|Bz 36028797018963967 2 [(53,86),(54,87)] (F:=[(85,false)]) (U:=[]) c0 d0 (.cons rfl .nil) .nil ?_
 dsimp only [aQ,List.map]
 refine Rv 55 c0 rfl d0 (fun _=>Bm rfl rfl)<|Rv 56 c0 rfl d0 (fun _=>Ba rfl)<|AJ (dk c0)<|Ao rfl<|Bc hb0 func4 rfl rfl ?_
 cases h
 exact t0.gv
 refine Bz 255 49 [(3,36),(4,37),(5,38),(6,39),(7,40)] (F:=[(35,false)]) (U:=[]) c0 d0 (.cons rfl .nil) .nil ?_
 dsimp only [aQ,List.map]
 refine Rv 8 c0 rfl d0 (fun _=>Bm rfl rfl)<|Rv 9 c0 rfl d0 (fun _=>Ak rfl)<|Bz 524287 38 [(10,43),(11,44),(12,45),(13,46),(14,47),(15,48),(16,49),(17,50),(18,51)] (F:=[(42,false)]) (U:=[]) c0 d0 (.cons rfl .nil) .nil ?_
 dsimp only [aQ,List.map]
 refine Rv 19 c0 rfl d0 (fun _=>Bm rfl rfl)<|Rv 20 c0 rfl d0 (fun _=>Ak rfl)<|Bz 268435455 29 [(21,54),(22,55),(23,56),(24,57),(25,58),(26,59),(27,60)] (F:=[(53,false)]) (U:=[]) c0 d0 (.cons rfl .nil) .nil ?_
 dsimp only [aQ,List.map]
 refine Rv 28 c0 rfl d0 (fun _=>Bm rfl rfl)<|Rv 29 c0 rfl d0 (fun _=>Ak rfl)<|Bz 549755813887 18 [(30,63),(31,64),(32,65),(33,66),(34,67),(35,68),(36,69),(37,70),(38,71)] (F:=[(62,false)]) (U:=[]) c0 d0 (.cons rfl .nil) .nil ?_
 dsimp only [aQ,List.map]
 refine Rv 39 c0 rfl d0 (fun _=>Bm rfl rfl)<|Rv 40 c0 rfl d0 (fun _=>Ak rfl)<|Bz 140737488355327 10 [(41,74),(42,75),(43,76),(44,77),(45,78),(46,79)] (F:=[(73,false)]) (U:=[]) c0 d0 (.cons rfl .nil) .nil ?_
 dsimp only [aQ,List.map]
 refine Rv 47 c0 rfl d0 (fun _=>Bm rfl rfl)<|Rv 48 c0 rfl d0 (fun _=>Ak rfl)<|Bz 2251799813685247 6 [(49,82),(50,83)] (F:=[(81,false)]) (U:=[]) c0 d0 (.cons rfl .nil) .nil ?_
 dsimp only [aQ,List.map]
 refine Rv 51 c0 rfl d0 (fun _=>Bm rfl rfl)<|Rv 52 c0 rfl d0 (fun _=>Ak rfl)<|Bz 36028797018963967 2 [(53,86),(54,87)] (F:=[(85,false)]) (U:=[]) c0 d0 (.cons rfl .nil) .nil ?_
 dsimp only [aQ,List.map]
 refine Rv 55 c0 rfl d0 (fun _=>Bm rfl rfl)<|Rv 56 c0 rfl d0 (fun _=>Ba rfl)<|AJ (dk c0)<|Ao rfl<|Bc hb0 func4 rfl rfl ?_
 cases h
 exact Q0.gv
structure Ti where
  fN:UInt8
  fJ:List UInt8
  fMore:List (UInt8 × UInt8)
  fLabels:List UInt8
  fK:UInt8
  deriving DecidableEq
instance:Rep Ti:=Rep.via (β:=UInt8 × (List UInt8) × (List (UInt8 × UInt8)) × (List UInt8) × UInt8) fun x=>(x.fN,x.fJ,x.fMore,x.fLabels,x.fK)
def bp_p (_n:Nat) (a0:Ti):Option Int:=
  some ((1 + ((a0.fN % (9:UInt8)).toNat):Nat):Int)
theorem bp_c (n:Nat) {L w} (_hL:hl L w) (a0:Ti) {v0_1:Value} (_h0_1:Rep.R w L [v0_1] a0.fJ) {v0_2:Value} (_h0_2:Rep.R w L [v0_2] a0.fMore) {v0_3:Value} (_h0_3:Rep.R w L [v0_3] a0.fLabels)  {r:Int} (h:bp_p n a0 = some r) :
 Cl 22 #[.agg #[.int .u8 (a0.fN.toNat:Int),v0_1,v0_2,v0_3,.int .u8 (a0.fK.toNat:Int)]] w (aj w fun _ u=>u = vI r):=by
 unfold bp_p at h
 refine AG func22 rfl rfl rfl fun _ cs0 hb0=>Ac<|RG.bx (AB w) rfl rfl fun j0 c0 b0 d0=>Ag rfl<|Aa<|Ac<|Bg 0 rfl<|AU rfl ((b0.memA .hd) 0 _ rfl)<|Ab (FV.rem8 (a:=a0.fN) (b:=(9:UInt8)) rfl rfl (by decide)) ?_
 have g0:=(a0.fN % (9:UInt8)).toNat_lt
 refine Ab (FV.convN (i:=(a0.fN % (9:UInt8)).toNat) underlying5 underlying3 rfl (by omega))<|Ab (Bp (i:=1) (j:=(a0.fN % (9:UInt8)).toNat) rfl rfl (by omega))<|Ag rfl<|Aa<|Ao rfl<|Bc hb0 func22 rfl rfl ?_
 cases h
 exact b0.gv
def aX_p (_n:Nat) (a0:Ti) (a1:Int):Option Int:=
  (if a1 < ((a0.fLabels.length:Nat):Int) then (idx a0.fLabels a1).bind fun b0=>some ((b0.toNat:Nat):Int) else some (0:Int))
theorem aX_c (n:Nat) {L w} (_hL:hl L w) (a0:Ti) {v0_1:Value} (_h0_1:Rep.R w L [v0_1] a0.fJ) {v0_2:Value} (_h0_2:Rep.R w L [v0_2] a0.fMore) {v0_3:Value} (h0_3:Rep.R w L [v0_3] a0.fLabels) {a1:Int}  {r:Int} (h:aX_p n a0 a1 = some r) :
 Cl 23 #[.agg #[.int .u8 (a0.fN.toNat:Int),v0_1,v0_2,v0_3,.int .u8 (a0.fK.toNat:Int)],vI a1] w (aj w fun _ u=>u = vI r):=by
 unfold aX_p at h
 refine AG func23 rfl rfl rfl fun _ cs0 hb0=>Ac<|RG.bx (AB w) rfl rfl fun E0 z0 b0 B0=>Ag rfl<|Aa<|Aj<|Ac<|Ae rfl<|Bg 3 rfl<|AU rfl ((b0.memA .hd) 3 _ rfl) ?_
 have c0:=AT h0_3 b0
 have C0:a0.fLabels.length <= 281474976710656:=Bh c0
 refine Ab (Bl (xs:=a0.fLabels) underlying22 rfl c0)<|Ab (FV.lss (i:=a1) (j:=((a0.fLabels.length:Nat):Int)) rfl rfl)<|Aa<|AW rfl h (fun g0 h=>?_) (fun g0 h=>?_)
 refine Ac<|Bg 3 rfl<|AU rfl ((b0.memA .hd) 3 _ rfl)<|Ae rfl<|bk h fun d0 v0 h=>?_
 obtain ⟨q0,x0⟩:=aJ v0
 obtain ⟨y0,A0,k0,s0,j0,u0,t0⟩:=Br c0 x0
 have p0:j0 = [.int .u8 (d0.toNat:Int)]:=u0; subst p0
 refine Ab (Bu 1 (a1.toNat) rfl k0 rfl q0 s0)<|AU rfl (t0 0 _ rfl) ?_
 have D0:=d0.toNat_lt
 refine Ab (FV.convN (i:=d0.toNat) underlying5 underlying3 rfl (by omega))<|Ag rfl<|Aa<|Ao rfl<|Bc hb0 func23 rfl rfl ?_
 cases h
 exact b0.gv
 refine Au<|Ac<|Ag rfl<|Aa<|Ao rfl<|Bc hb0 func23 rfl rfl ?_
 cases h
 exact b0.gv
def aI_l1 (_n:Nat) (a0:List Int) (a1:Int) (d0:Nat -> Option (Bool ⊕ Unit)):Nat -> Option (Bool ⊕ Unit)
  | b0=>(if b0 < a0.length then (a0[b0]?).bind fun c0=>(if c0 < 0 then some (.inl false) else (if a1 <= c0 then some (.inl false) else d0 (b0 + 1))) else some (.inr ()))
def aI_p (n:Nat) (a0:List Int) (a1:Int):Option Bool:=
  thn (ao (aI_l1 n a0 a1) n 0) (fun _=>(if 1 <= a0.length then some (decide (a0.length <= 64)) else some false))
theorem aI_c (n:Nat) {L w} (_hL:hl L w) {a0:List Int} {v0_0:Value} (h0_0:Rep.R w L [v0_0] a0) {a1:Int}  {r:Bool} (h:aI_p n a0 a1 = some r) :
 Cl 61 #[v0_0,vI a1] w (aj w fun _ u=>u = .bool r):=by
 unfold aI_p at h
 refine AG func61 rfl rfl rfl fun _ cs0 hb0=>Ac<|Ag rfl<|Aa<|Aj<|Ac<|Ag rfl<|Aa<|Ay<|tn h fun I0 B0 g0=>MX.lo (α:=Nat) (fun b0=>[(0,v0_0),(1,vI a1),(5,vI ((b0:Nat):Int))]) (fun b0=>[]) (fun b0=>b0) 0 B0 (AB w) ?_
 rintro F0 b0 J0 y0 c0 z0 h
 unfold aI_l1 at h
 try dsimp only at h
 refine Aj<|Ac<|Ae rfl<|Ae rfl ?_
 have d0:=AT h0_0 c0
 have H0:a0.length <= 281474976710656:=Bh d0
 refine Ab (Bl (xs:=a0) underlying30 rfl d0)<|Ab (Bn (i:=b0) (j:=a0.length) rfl rfl)<|Aa<|AW rfl h (fun s0 h=>?_) (fun s0 h=>?_)
 refine Au<|Aj<|Ay<|Ac<|Ae rfl<|Ae rfl<|bk h fun j0 D0 h=>?_
 obtain ⟨E0,G0,k0,p0,x0,C0,q0⟩:=Br d0 D0
 have A0:x0 = [vI j0]:=C0; subst A0
 refine Ab (Bu 1 b0 rfl k0 rfl rfl p0)<|AU rfl (q0 0 _ rfl)<|Ab (FV.lss (i:=j0) (j:=0) rfl rfl)<|Ae rfl<|RG.ifd (s:=17) rfl h (fun t0 h=>?_) (fun t0 h=>?_)
 refine AL<|AL<|AL<|AL<|AL<|AL<|RG.pt rfl rfl<|Aa<|Be rfl<|Ac<|Ag rfl<|Aa ?_
 have h:=ap h g0
 refine Ao rfl<|Bc hb0 func61 rfl rfl ?_
 cases h
 exact c0.gv
 refine AX (Ak rfl)<|AX (Ak rfl)<|AX (Bu 1 b0 rfl k0 rfl rfl p0)<|AX (AQ rfl (q0 0 _ rfl))<|AX (Ak rfl)<|AX (FV.geq (i:=j0) (j:=a1) rfl rfl)<|RG.pf rfl rfl<|Aa<|AW rfl h (fun u0 h=>?_) (fun u0 h=>?_)
 refine Ac<|Ag rfl<|Aa ?_
 have h:=ap h g0
 refine Ao rfl<|Bc hb0 func61 rfl rfl ?_
 cases h
 exact c0.gv
 refine Au<|AE<|Am<|Ae rfl<|Ab (Bp (i:=b0) (j:=1) rfl rfl (by omega))<|Ag rfl<|Aa<|y0 (b0 + 1) c0 z0 h
 refine Bf rfl ?_
 have h:=aH h g0
 try dsimp only at h
 refine Ac<|Ae rfl<|Ab (Bl (xs:=a0) underlying30 rfl d0)<|Ab (FV.geqN (i:=a0.length) (j:=1) rfl rfl)<|Ae rfl<|RG.ifd (s:=28) rfl h (fun v0 h=>?_) (fun v0 h=>?_)
 refine AX (Ak rfl)<|AX (Bl (xs:=a0) underlying30 rfl d0)<|AX (FV.leqN (i:=a0.length) (j:=64) rfl rfl)<|RG.pt rfl rfl<|Ag rfl<|Aa<|Ao rfl<|Bc hb0 func61 rfl rfl ?_
 cases h
 exact c0.gv
 refine AL<|AL<|AL<|RG.pf rfl rfl<|Ag rfl<|Aa<|Ao rfl<|Bc hb0 func61 rfl rfl ?_
 cases h
 exact c0.gv
def aL_l1 (_n:Nat) (a0:List Int) (q0:Int × Nat × (List Int) × (List Int) -> Option (List Int)):Int × Nat × (List Int) × (List Int) -> Option (List Int)
  | (g0,b0,k0,d0)=>(if b0 < a0.length then (a0[b0]?).bind fun c0=>(idx d0 c0).bind fun t0=>jn (fun (y0,p0)=>(idx p0 c0).bind fun u0=>(app k0 ([u0]:List Int)).bind fun v0=>q0 (y0,b0 + 1,v0,p0)) (fun j0=>(if t0 < 0 then (put d0 ((c0.toNat:Nat):Int) g0).bind fun x0=>(chk (g0 + 1)).bind fun s0=>j0 (s0,x0) else j0 (g0,d0))) else some k0)
def aL_p (n:Nat) (a0:List Int):Option ((List Int) × Int):=
  (aI_p n a0 (8:Int)).bind fun y1=>(if y1 = true then Option.bind (ao (aL_l1 n a0) n (0,0,([]:List Int),([(-1:Int),(-1:Int),(-1:Int),(-1:Int),(-1:Int),(-1:Int),(-1:Int),(-1:Int)]:List Int))) (fun b0=>some (b0,(0:Int))) else some (([]:List Int),(210:Int)))
theorem aL_c (n:Nat) {L w} (hL:hl L w) {a0:List Int} {v0_0:Value} (h0_0:Rep.R w L [v0_0] a0)  {r:(List Int) × Int} (h:aL_p n a0 = some r) :
 Cl 24 #[v0_0] w (aj w fun w' u=>∃ v0_0:Value,u = .tuple #[v0_0,vI r.2]/\Rep.R w' L [v0_0] r.1):=by
 unfold aL_p at h
 have hS0:=AB w
 refine AG func24 rfl rfl rfl fun _ cs0 hb0=>Ac<|Ag rfl<|Ag rfl<|Aa<|Aj<|Ac<|Ae rfl<|bk h fun y1 hy1 h=>Bi (.bool y1) (bd 61) rfl (e2 rfl rfl) (fun p q=>aI_c n (hS0.hL0 hL q) (hS0.kd h0_0 q) hy1) rfl<|Ab (FV.not rfl)<|Aa<|MX.ifnb rfl h (fun c2 h=>?_) (fun c2 h=>?_)
 refine Au<|Ac<|Ai .plain rfl (Bb (α:=Int) (xs:=([(-1:Int),(-1:Int),(-1:Int),(-1:Int),(-1:Int),(-1:Int),(-1:Int),(-1:Int)]:List Int)) (vs:=[vI (-1),vI (-1),vI (-1),vI (-1),vI (-1),vI (-1),vI (-1),vI (-1)]) (ds' :=[vI (-1),vI (-1),vI (-1),vI (-1),vI (-1),vI (-1),vI (-1),vI (-1)]) rfl hS0 bp rfl (e8 rfl rfl rfl rfl rfl rfl rfl rfl) (by kernel_rfl) rfl) fun g3 v0 B0 Z2=>Ag rfl<|Aa<|Ac<|Ag rfl<|Aa<|Ac<|Ag rfl<|Aa<|Aj<|Ac<|Ag rfl<|Aa<|Ay ?_
 have K0:=B0.nilRow 3 (Rep.size Int)
 obtain ⟨d3,p2,Z1⟩:=ax h
 refine MX.lf (α:=Int × Nat × (List Int) × (List Int) × Value × (List Value) × (List Value)) (fun ⟨u0,b0,d0,j0,c0,g0,k0⟩=>[(0,v0_0),(4,(vS v0 8)),(5,vI u0),(6,c0),(7,vI ((b0:Nat):Int))]) (fun ⟨u0,b0,d0,j0,c0,g0,k0⟩=>[rr w 3 Int c0 d0.length g0,rr w 3 Int (vS v0 8) j0.length k0]) (fun ⟨u0,b0,d0,j0,c0,g0,k0⟩ I0=>Cells I0 (bl [rr w 3 Int c0 d0.length g0,rr w 3 Int (vS v0 8) j0.length k0] ++ L) g0 d0/\Cells I0 (bl [rr w 3 Int c0 d0.length g0,rr w 3 Int (vS v0 8) j0.length k0] ++ L) k0 j0) (fun ⟨u0,b0,d0,j0,c0,g0,k0⟩=>(u0,b0,d0,j0)) (0,0,([]:List Int),([(-1:Int),(-1:Int),(-1:Int),(-1:Int),(-1:Int),(-1:Int),(-1:Int),(-1:Int)]:List Int),vN,[],[vI (-1),vI (-1),vI (-1),vI (-1),vI (-1),vI (-1),vI (-1),vI (-1)]) p2 K0 ⟨(AH (cs:=[]) (xs:=([]:List Int)) K0 L (AR _ _)),(AN (AH (cs:=[vI (-1),vI (-1),vI (-1),vI (-1),vI (-1),vI (-1),vI (-1),vI (-1)]) (xs:=(([(-1:Int),(-1:Int),(-1:Int),(-1:Int),(-1:Int),(-1:Int),(-1:Int),(-1:Int)]:List Int):List Int)) B0 L (Ar (cs:=[vI (-1)]) (ds:=[vI (-1),vI (-1),vI (-1),vI (-1),vI (-1),vI (-1),vI (-1)]) rfl (Ar (cs:=[vI (-1)]) (ds:=[vI (-1),vI (-1),vI (-1),vI (-1),vI (-1),vI (-1)]) rfl (Ar (cs:=[vI (-1)]) (ds:=[vI (-1),vI (-1),vI (-1),vI (-1),vI (-1)]) rfl (Ar (cs:=[vI (-1)]) (ds:=[vI (-1),vI (-1),vI (-1),vI (-1)]) rfl (Ar (cs:=[vI (-1)]) (ds:=[vI (-1),vI (-1),vI (-1)]) rfl (Ar (cs:=[vI (-1)]) (ds:=[vI (-1),vI (-1)]) rfl (Ar (cs:=[vI (-1)]) (ds:=[vI (-1)]) rfl (Ar (cs:=[vI (-1)]) (ds:=[]) rfl (AR _ _)))))))))) (St.nilRowT B0 3 (Rep.size Int)))⟩ ?_
 rintro M2 ⟨u0,b0,d0,j0,c0,g0,k0⟩ I0 F1 p0 J1 ⟨R0,E0⟩ h
 unfold aL_l1 at h
 try dsimp only at h
 refine Aj<|Ac<|Ae rfl<|Ae rfl ?_
 have H0:=AT h0_0 p0
 have c3:a0.length <= 281474976710656:=Bh H0
 refine Ab (Bl (xs:=a0) underlying30 rfl H0)<|Ab (Bn (i:=b0) (j:=a0.length) rfl rfl)<|Aa<|AW rfl h (fun v1 h=>?_) (fun v1 h=>?_)
 refine Au<|Aj<|Ay<|Aj<|Ac<|Ae rfl<|Ae rfl<|Ae rfl<|bk h fun y0 g1 h=>?_
 obtain ⟨J2,R2,V0,Y0,z1,q2,b1⟩:=Br H0 g1
 have R1:z1 = [vI y0]:=q2; subst R1
 refine Ab (Bu 1 b0 rfl V0 rfl rfl Y0)<|AU rfl (b1 0 _ rfl)<|bk h fun k1 z2 h=>?_
 obtain ⟨X0,A2⟩:=aJ z2
 obtain ⟨p1,U2,A0,G0,A1,s2,g2⟩:=St.nth (α:=Int) p0 .t1 E0 A2
 obtain ⟨s1,V2,W0⟩:=BC (α:=Int) p0 .t1 G0
 obtain rfl:p1 = ⟨s1,0,none⟩:=by rw [W0] at A0; cases A0; rfl
 have U1:A1 = [vI k1]:=s2; subst U1
 refine Ab (Bu 1 (y0.toNat) rfl A0 rfl X0 G0)<|AU rfl (g2 0 _ rfl)<|Ab (FV.lss (i:=k1) (j:=0) rfl rfl)<|Aa<|MX.jf (α:=Int × (List Int) × (List Value)) (fun ⟨x0,q0,s0⟩=>[(0,v0_0),(4,(vS v0 8)),(5,vI x0),(6,c0),(7,vI ((b0:Nat):Int))]) (fun ⟨x0,q0,s0⟩=>[rr w 3 Int c0 d0.length g0,rr w 3 Int (vS v0 8) q0.length s0]) (fun ⟨x0,q0,s0⟩ j1=>Cells j1 (bl [rr w 3 Int c0 d0.length g0,rr w 3 Int (vS v0 8) q0.length s0] ++ L) s0 q0) (fun ⟨x0,q0,s0⟩=>(x0,q0)) p0 h ?_ ?_
 rintro ⟨x0,q0,s0⟩ j1 z0 M0 U0 h
 try dsimp only at h
 refine Am<|Ae rfl<|Ae rfl<|Ae rfl<|Ae rfl ?_
 obtain ⟨K2,W2,V1,d2,B1,t2,j2⟩:=Br (AT h0_0 z0) g1
 have W1:B1 = [vI y0]:=t2; subst W1
 refine Ab (Bu 1 b0 rfl V1 rfl rfl d2)<|AU rfl (j2 0 _ rfl)<|bk h fun t0 B2 h=>?_
 obtain ⟨b2,C2⟩:=aJ B2
 obtain ⟨q1,X2,F0,Z0,C1,u2,k2⟩:=St.nth (α:=Int) z0 .t1 U0 C2
 obtain ⟨u1,Y2,X1⟩:=BC (α:=Int) z0 .t1 Z0
 obtain rfl:q1 = ⟨u1,0,none⟩:=by rw [X1] at F0; cases F0; rfl
 have Y1:C1 = [vI t0]:=u2; subst Y1
 refine Ab (Bu 1 (y0.toNat) rfl F0 rfl b2 Z0)<|AU rfl (k2 0 _ rfl)<|Ai .plain rfl (jA t0 (vI t0) z0 iH (e1 rfl)) fun j3 Q2 C0 P0=>bk h fun H2 D2 h=>RG.doesL .plain rfl (DoesL.app (α:=Int) (ys:=([t0]:List Int)) D2 C0 (fun _ _=>.t1) iH rfl rfl (AN R0 (Tt M0 P0)) (Src.row (α:=Int) C0 .hd (jC t0 (vI t0) C0 L rfl))) fun G2 k3 ⟨D1,G1,K1,P1⟩=>Ag rfl<|Aa<|AE<|Am<|Ae rfl<|Ab (Bp (i:=b0) (j:=1) rfl rfl (by omega))<|Ag rfl<|Aa ?_
 obtain ⟨H1,Q0⟩:=AF G1 .d1
 have c1:=Tt P0 (Tt K1 Q0)
 exact F1 (x0,b0 + 1,H2,q0,G2,D1,s0) H1 (Tt J1 (Tt M0 c1)) ⟨(AN P1 Q0),(AN U0 c1)⟩ h
 intro P2 J0 h
 try dsimp only at h
 refine AW rfl h (fun x1 h=>?_) (fun x1 h=>?_)
 refine Ac<|Ae rfl<|Ae rfl<|Ae rfl<|Ab (Bu 1 b0 rfl V0 rfl rfl Y0)<|AU rfl (b1 0 _ rfl)<|Ae rfl<|Ab (Bu 1 (y0.toNat) rfl A0 rfl X0 G0)<|bk h fun I2 E2 h=>RG.acts' .plain (Acts.set (α:=Int) (i:=y0.toNat) E2 p0 W0 (fun _=>.t1) E0 rfl rfl rfl rfl rfl rfl) fun p3 ⟨E1,I1,M1,Q1⟩=>Aa<|Am<|Ae rfl<|bk h fun F2 y2 h=>Ab (BH (i:=u0) (j:=1) rfl rfl y2)<|Ag rfl<|Aa<|J0 (F2,I2,E1) I1 M1 Q1 h
 refine Au<|J0 (u0,j0,k0) p0 (Tr.refl _ _) E0 h
 refine Bf rfl ?_
 have h:=Z1 _ h
 try dsimp only at h
 refine Ac<|Ae rfl<|Ag rfl<|Ag rfl<|Aa<|Ao rfl ?_
 have D0:=BI p0 .hd
 have b3:=BJ p0 .hd
 have v2:=BK (α:=Int) (v:=c0) (xs:=d0) D0 L (Bv (α:=Int) p0 .hd R0 hL)
 refine Ap hb0 func24 rfl (.cons (.tmp rfl) (.cons (.tmp rfl) .nil)) rfl ?_
 cases h
 exact ⟨D0.ag,fun p q=>⟨c0,rfl,D0.kd v2 q⟩⟩
 refine Ac<|Ag rfl<|Ag rfl<|Aa<|Ao rfl ?_
 have x2:=Rep.nilAt (α:=Int) hS0 L
 refine Ap hb0 func24 rfl (.cons (.tmp rfl) (.cons (.tmp rfl) .nil)) rfl ?_
 cases h
 exact ⟨hS0.ag,fun p q=>⟨vN,rfl,hS0.kd x2 q⟩⟩
end Go.Proofs.YtkhpmhhnolpcnaaGreatDoor
