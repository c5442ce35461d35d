import Derived.Test.YtkhpmhhnolpcnaaGreatDoorVI2
namespace Go.Proofs.YtkhpmhhnolpcnaaGreatDoor
open Go Go.RowKit Tryz
set_option maxRecDepth 4000
set_option maxHeartbeats 4000000

def az_l1 (n:Nat) (a0:List UInt64) (a1:List UInt64) (j0:UInt64 × Int × (List UInt64) -> Option (UInt64 × (List UInt64))):UInt64 × Int × (List UInt64) -> Option (UInt64 × (List UInt64))
  | (d0,b0,c0)=>(if 0 <= b0 then (idx a0 b0).bind fun p0=>(a1[0]?).bind fun q0=>(ax_p n d0 p0 q0).bind fun g0=>(idx c0 b0).bind fun _x169=>(put c0 ((b0.toNat:Nat):Int) g0.1).bind fun s0=>(chk (b0 - 1)).bind fun k0=>j0 (g0.2,k0,s0) else some (d0,c0))
def az_l2 (n:Nat) (a1:List UInt64) (p0:(List UInt64) × Int × (List UInt64) -> Option ((List UInt64) × (List UInt64))):(List UInt64) × Int × (List UInt64) -> Option ((List UInt64) × (List UInt64))
  | (c0,b0,d0)=>(if 0 <= b0 then (bY_p n a1 b0).bind fun k0=>(bh_p n c0 k0).bind fun z0=>jn (fun (v0,x0)=>(chk (b0 - 1)).bind fun s0=>p0 (v0,s0,x0)) (fun g0=>(if 0 <= z0 then (bA_p n c0 k0).bind fun A0=>(ao_p n false A0).bind fun B0=>(fY b0 64).bind fun j0=>(idx d0 j0).bind fun u0=>(dj b0 64).bind fun t0=>(dK t0).bind fun q0=>(put d0 ((j0.toNat:Nat):Int) (u0 ||| (shlU (1:UInt64) q0))).bind fun y0=>g0 (B0.fo,y0) else g0 (c0,d0))) else some (d0,c0))
def az_p (n:Nat) (a0:List UInt64) (a1:List UInt64):Option ((List UInt64) × (List UInt64)):=
  (mk ((a0.length:Nat):Int) (0:UInt64)).bind fun b0=>(if a1.length = 1 then Option.bind (ao (az_l1 n a0 a1) n (0,((a0.length:Nat):Int) - 1,b0)) (fun (d0,g0)=>(ao_p n false ([d0]:List UInt64)).bind fun p0=>some (g0,p0.fo)) else (ci_p n a0).bind fun q0=>(ci_p n a1).bind fun s0=>(chk (q0 - s0)).bind fun c0=>Option.bind (ao (az_l2 n a1) n (a0,c0,b0)) (fun (k0,j0)=>some (k0,j0)))
theorem az_c (n:Nat) {L w} (hL:hl L w) {a0:List UInt64} {v0_0:Value} (h0_0:Rep.R w L [v0_0] a0) {a1:List UInt64} {v1_0:Value} (h1_0:Rep.R w L [v1_0] a1)  {r:(List UInt64) × (List UInt64)} (h:az_p n a0 a1 = some r) :
 Cl 110 #[v0_0,v1_0] w (aj w fun w' u=>∃ v0_0 v1_0:Value,u = .tuple #[v0_0,v1_0]/\Rep.R w' L [v0_0] r.1/\Rep.R w' L [v1_0] r.2):=by
 unfold az_p at h
 refine AG func110 rfl rfl rfl fun _ cs0 hb0=>Ac<|Ag rfl<|Ag rfl<|Aa<|Ac<|Ae rfl ?_
 have hl1:a0.length <= 281474976710656:=Bh h0_0
 refine Ab (Bl (xs:=a0) underlying120 rfl h0_0)<|bk h fun g1 E1 h=>Ai .plain rfl (Does.mk (α:=UInt64) E1 (AB w) cC rfl) fun g5 c0 t0 Q4=>?_
 have u1:=AH (cs:=(List.replicate ((a0.length:Nat):Int).toNat [vW 0]).flatten) (xs:=g1) t0 L (Cells.mk E1 rfl)
 refine Ag rfl<|Aa<|Aj<|Ac<|Ae rfl ?_
 have A1:=AT h1_0 t0
 have R4:a1.length <= 281474976710656:=Bh A1
 refine Ab (Bl (xs:=a1) underlying120 rfl A1)<|Ab (FV.eqlN (i:=a1.length) (j:=1) rfl rfl)<|Aa<|AW rfl h (fun b2 h=>?_) (fun b2 h=>?_)
 refine Ac<|Ag rfl<|Aa<|Aj<|Ac<|Ae rfl<|Ab (Bl (xs:=a0) underlying120 rfl (AT h0_0 t0))<|Ab (FV.subI (i:=((a0.length:Nat):Int)) (j:=1) rfl rfl (by omega))<|Ag rfl<|Aa<|Ay ?_
 obtain ⟨V4,u3,b3⟩:=ax h
 refine MX.lf (α:=UInt64 × Int × (List UInt64) × (List Value)) (fun ⟨g0,q0,z0,B0⟩=>[(0,v0_0),(1,v1_0),(4,(.slice (some ⟨c0,0,none⟩) ((a0.length:Nat):Int).toNat ((a0.length:Nat):Int).toNat)),(6,vU g0),(7,vI q0)]) (fun ⟨g0,q0,z0,B0⟩=>[rr w 38 UInt64 (.slice (some ⟨c0,0,none⟩) ((a0.length:Nat):Int).toNat ((a0.length:Nat):Int).toNat) z0.length B0]) (fun ⟨g0,q0,z0,B0⟩ H1=>Cells H1 (bl [rr w 38 UInt64 (.slice (some ⟨c0,0,none⟩) ((a0.length:Nat):Int).toNat ((a0.length:Nat):Int).toNat) z0.length B0] ++ L) B0 z0) (fun ⟨g0,q0,z0,B0⟩=>(g0,q0,z0)) (0,((a0.length:Nat):Int) - 1,g1,(List.replicate ((a0.length:Nat):Int).toNat [vW 0]).flatten) u3 t0 u1 ?_
 rintro E4 ⟨g0,q0,z0,B0⟩ H1 t2 C0 z2 V0 h
 unfold az_l1 at h
 try dsimp only at h
 refine Aj<|Ac<|Ae rfl<|Ab (FV.geq (i:=q0) (j:=0) rfl rfl)<|Aa<|AW rfl h (fun Z1 h=>?_) (fun Z1 h=>?_)
 refine Au<|Aj<|Ay<|du 15 fun b0 d0=>Rv 0 b0 rfl d0 (fun _=>Ak rfl)<|Rv 1 b0 rfl d0 (fun _=>Ak rfl)<|Rv 2 b0 rfl d0 (fun _=>Ak rfl)<|Rv 3 b0 rfl d0 (fun _=>Ak rfl)<|Rv 4 b0 rfl d0 (fun _=>Ak rfl)<|bk h fun I1 P3 h=>?_
 obtain ⟨d3,Q3⟩:=aJ P3
 obtain ⟨C4,H4,U2,j3,g2,x3,q3⟩:=Br (AT h0_0 C0) Q3
 have V2:g2 = [vU I1]:=x3; subst V2
 refine Rv 5 b0 rfl d0 (fun _=>Bu 1 (q0.toNat) rfl U2 rfl d3 j3)<|Rx 6 130048 b0 rfl d0 (AQ rfl (q3 0 _ rfl))<|Rv 7 b0 rfl d0 (fun _=>Ak rfl)<|bk h fun J1 R3 h=>?_
 obtain ⟨D4,I4,W2,k3,j2,y3,s3⟩:=Br (AT h1_0 C0) R3
 have X2:j2 = [vU J1]:=y3; subst X2
 refine Rv 8 b0 rfl d0 (fun _=>Bu 1 0 rfl W2 rfl rfl k3)<|Rx 9 130048 b0 rfl d0 (AQ rfl (s3 0 _ rfl))<|bk h fun j1 b4 h=>BD 10 2047 129024 (.tuple #[vU j1.1,vU j1.2]) b0 rfl d0 (bd 123) rfl (e3 rfl rfl rfl) (fun p q=>ax_c n (C0.hL0 hL q) g0 I1 J1 b4) rfl<|Rv 11 b0 rfl d0 (fun _=>Ak rfl)<|Rv 12 b0 rfl d0 (fun _=>Ah rfl rfl)<|Rv 13 b0 rfl d0 (fun _=>Ah rfl rfl)<|bk h fun y4 U3 h=>?_
 obtain ⟨g3,V3⟩:=aJ U3
 obtain ⟨U1,J4,X0,z1,k2,z3,U4⟩:=St.nth (α:=UInt64) C0 .hd V0 V3
 obtain ⟨W1,K4,v1⟩:=BC (α:=UInt64) C0 .hd z1
 obtain rfl:U1 = ⟨W1,0,none⟩:=by rw [v1] at X0; cases X0; rfl
 have Y2:k2 = [vU y4]:=z3; subst Y2
 refine Rv 14 b0 rfl d0 (fun _=>Bu 1 (q0.toNat) rfl X0 rfl g3 z1)<|bk h fun z4 Y3 h=>AM (i:=15) (rk b0) (RO.acts (m' :=65535) (sk b0) rfl rfl .plain (Acts.set (α:=UInt64) (i:=q0.toNat) Y3 C0 v1 (fun _=>.hd) V0 rfl rfl rfl rfl rfl rfl) (fun j5 ⟨p2,v2,A2,P2⟩=>?_))
 refine AM (i:=16) (rk b0) (Bd (m' :=131071) (sk b0) rfl .plain rfl (Ba rfl) ?_)
 refine AJ (dk b0)<|AE<|Am<|Ae rfl<|bk h fun t4 H3 h=>Ab (FV.subc (i:=q0) (j:=1) rfl rfl H3)<|Ag rfl<|Aa<|t2 (j1.2,t4,z4,p2) v2 (Tt z2 A2) P2 h
 refine Bf rfl ?_
 have h:=b3 _ h
 try dsimp only at h
 refine Ac<|Ae rfl<|Ae rfl<|Ai .plain rfl (jA g0 (vU g0) C0 cC (e1 rfl)) fun k5 X1 I0 B2=>?_
 have Q0:=BI I0 .hd
 have C2:=BJ I0 .hd
 refine bk h fun B4 c4 h=>jE (bd 115) rfl (e2 rfl rfl) (fun p q=>ao_c n (Q0.hL hL q) (Av (BK (α:=UInt64) (v:=(vS X1 1)) (xs:=([g0]:List UInt64)) Q0 L (Bv (α:=UInt64) I0 .hd (jC g0 (vU g0) I0 L rfl) hL)) q) c4) rfl fun p5 Z4 I2 ⟨F1,hu_,A3⟩=>?_
 subst hu_
 obtain ⟨R0,D2⟩:=Q0.agr I2
 refine Ab (FV.field1 (cs:=[.bool B4.fe,F1]) (off:=1) (m:=1) rfl rfl rfl rfl)<|Ag rfl<|Ag rfl<|Aa<|Ao rfl ?_
 have J0:=BI R0 .hd
 have E2:=BJ R0 .hd
 have B3:=BK (α:=UInt64) (v:=(.slice (some ⟨c0,0,none⟩) ((a0.length:Nat):Int).toNat ((a0.length:Nat):Int).toNat)) (xs:=z0) J0 L (Bv (α:=UInt64) R0 .hd (AN V0 (Tt B2 (Tt C2 D2))) hL)
 refine Ap hb0 func110 rfl (.cons (.tmp rfl) (.cons (.tmp rfl) .nil)) rfl ?_
 cases h
 exact ⟨J0.ag,fun p q=>⟨(.slice (some ⟨c0,0,none⟩) ((a0.length:Nat):Int).toNat ((a0.length:Nat):Int).toNat),F1,rfl,J0.kd B3 q,J0.kd (Az A3 E2) q⟩⟩
 refine Au<|Ac<|Ae rfl<|Ag rfl<|Aa<|Aj<|Ac<|Ae rfl<|bk h fun M1 d4 h=>Bi (vI M1) (bd 124) rfl (e1 rfl) (fun p q=>ci_c n (t0.hL0 hL q) (t0.k0 h0_0 q) d4) rfl<|Ae rfl<|bk h fun P1 g4 h=>Bi (vI P1) (bd 124) rfl (e1 rfl) (fun p q=>ci_c n (t0.hL0 hL q) (t0.k0 h1_0 q) g4) rfl<|bk h fun u4 I3 h=>Ab (FV.subc (i:=M1) (j:=P1) rfl rfl I3)<|Ag rfl<|Aa<|Ay ?_
 obtain ⟨W4,v3,c3⟩:=ax h
 refine MX.lf (α:=(List UInt64) × Int × (List UInt64) × Value × (List Value)) (fun ⟨F0,s0,p0,A0,x0⟩=>[(1,v1_0),(4,(.slice (some ⟨c0,0,none⟩) ((a0.length:Nat):Int).toNat ((a0.length:Nat):Int).toNat)),(5,A0),(8,vI s0)]) (fun ⟨F0,s0,p0,A0,x0⟩=>[rr w 38 UInt64 (.slice (some ⟨c0,0,none⟩) ((a0.length:Nat):Int).toNat ((a0.length:Nat):Int).toNat) p0.length x0]) (fun ⟨F0,s0,p0,A0,x0⟩ c1=>Rep.R c1 (bl [rr w 38 UInt64 (.slice (some ⟨c0,0,none⟩) ((a0.length:Nat):Int).toNat ((a0.length:Nat):Int).toNat) p0.length x0] ++ L) [A0] F0/\Cells c1 (bl [rr w 38 UInt64 (.slice (some ⟨c0,0,none⟩) ((a0.length:Nat):Int).toNat ((a0.length:Nat):Int).toNat) p0.length x0] ++ L) x0 p0) (fun ⟨F0,s0,p0,A0,x0⟩=>(F0,s0,p0)) (a0,u4,g1,v0_0,(List.replicate ((a0.length:Nat):Int).toNat [vW 0]).flatten) v3 t0 ⟨(AT h0_0 t0),u1⟩ ?_
 rintro F4 ⟨F0,s0,p0,A0,x0⟩ c1 u2 H0 F2 ⟨C1,W0⟩ h
 unfold az_l2 at h
 try dsimp only at h
 refine Aj<|Ac<|Ae rfl<|Ab (FV.geq (i:=s0) (j:=0) rfl rfl)<|Aa<|AW rfl h (fun c2 h=>?_) (fun c2 h=>?_)
 refine Au<|Aj<|Ay<|Ac<|Ae rfl<|Ae rfl<|bk h fun v5 j4 h=>jE (bd 125) rfl (e2 rfl rfl) (fun p q=>bY_c n (H0.hL hL q) (H0.km h1_0 q) j4) rfl fun q5 b5 J2 ⟨X4,hu_,D1⟩=>?_
 subst hu_
 obtain ⟨D0,M0⟩:=H0.agr J2
 refine Ag rfl<|Aa<|Ac<|Ae rfl<|Ae rfl<|bk h fun Q1 k4 h=>?_
 have Z0:=Az C1 M0
 refine Bi (vI Q1) (bd 126) rfl (e2 rfl rfl) (fun p q=>bh_c n (D0.hL0 hL q) (D0.kd Z0 q) (D0.kd D1 q) k4) rfl<|Ab (FV.geq (i:=Q1) (j:=0) rfl rfl)<|Aa<|MX.jf (α:=(List UInt64) × (List UInt64) × Value × (List Value)) (fun ⟨G0,v0,E0,y0⟩=>[(1,v1_0),(4,(.slice (some ⟨c0,0,none⟩) ((a0.length:Nat):Int).toNat ((a0.length:Nat):Int).toNat)),(5,E0),(8,vI s0)]) (fun ⟨G0,v0,E0,y0⟩=>[rr w 38 UInt64 (.slice (some ⟨c0,0,none⟩) ((a0.length:Nat):Int).toNat ((a0.length:Nat):Int).toNat) v0.length y0]) (fun ⟨G0,v0,E0,y0⟩ d1=>Rep.R d1 (bl [rr w 38 UInt64 (.slice (some ⟨c0,0,none⟩) ((a0.length:Nat):Int).toNat ((a0.length:Nat):Int).toNat) v0.length y0] ++ L) [E0] G0/\Cells d1 (bl [rr w 38 UInt64 (.slice (some ⟨c0,0,none⟩) ((a0.length:Nat):Int).toNat ((a0.length:Nat):Int).toNat) v0.length y0] ++ L) y0 v0) (fun ⟨G0,v0,E0,y0⟩=>(G0,v0)) D0 h ?_ ?_
 rintro ⟨G0,v0,E0,y0⟩ d1 x2 G2 ⟨C3,Q2⟩ h
 try dsimp only at h
 refine AE<|Am<|Ae rfl<|bk h fun v4 J3 h=>Ab (FV.subc (i:=s0) (j:=1) rfl rfl J3)<|Ag rfl<|Aa<|u2 (G0,v4,v0,E0,y0) x2 (Tt F2 (Tt M0 G2)) ⟨C3,Q2⟩ h
 intro G4 k1 h
 try dsimp only at h
 refine AW rfl h (fun d2 h=>?_) (fun d2 h=>?_)
 refine Ac<|Ae rfl<|Ae rfl<|bk h fun x5 p4 h=>jE (bd 127) rfl (e2 rfl rfl) (fun p q=>bA_c n (D0.hL hL q) (Av Z0 q) (Av D1 q) p4) rfl fun s5 c5 K2 ⟨Y4,hu_,D3⟩=>?_
 subst hu_
 obtain ⟨p1,q1⟩:=D0.agr K2
 refine bk h fun R1 q4 h=>jE (bd 115) rfl (e2 rfl rfl) (fun p q=>ao_c n (p1.hL hL q) (Av D3 q) q4) rfl fun t5 d5 M2 ⟨G1,hu_,E3⟩=>?_
 subst hu_
 obtain ⟨U0,s1⟩:=p1.agr M2
 refine Ab (FV.field1 (cs:=[.bool R1.fe,G1]) (off:=1) (m:=1) rfl rfl rfl rfl)<|Ag rfl<|Aa<|du 10 fun j0 u0=>Rv 0 j0 rfl u0 (fun _=>Ak rfl)<|Rv 1 j0 rfl u0 (fun _=>Ak rfl)<|bk h fun b1 K3 h=>Rv 2 j0 rfl u0 (fun _=>FV.quoc (i:=s0) (j:=64) rfl rfl K3)<|bk h fun K1 W3 h=>?_
 obtain ⟨y1,X3⟩:=aJ W3
 have B1:=AN W0 (Tt M0 (Tt q1 s1))
 obtain ⟨V1,M4,P0,Y0,q2,F3,t3⟩:=St.nth (α:=UInt64) U0 .hd B1 X3
 obtain ⟨Y1,P4,x1⟩:=BC (α:=UInt64) U0 .hd Y0
 obtain rfl:V1 = ⟨Y1,0,none⟩:=by rw [x1] at P0; cases P0; rfl
 have Z2:q2 = [vU K1]:=F3; subst Z2
 refine Rv 3 j0 rfl u0 (fun _=>Bu 1 (b1.toNat) rfl P0 rfl y1 Y0)<|Rx 4 1792 j0 rfl u0 (AQ rfl (t3 0 _ rfl))<|Rv 5 j0 rfl u0 (fun _=>Ak rfl)<|bk h fun x4 M3 h=>Rv 6 j0 rfl u0 (fun _=>FV.remc (i:=s0) (j:=64) rfl rfl M3)<|bk h fun s4 p3 h=>Rv 7 j0 rfl u0 (fun _=>FV.shlI (a:=(1:UInt64)) (i:=x4) rfl rfl p3)<|Rv 8 j0 rfl u0 (fun _=>FV.orU (a:=K1) (b:=shlU (1:UInt64) s4) rfl rfl)<|Rv 9 j0 rfl u0 (fun _=>Bu 1 (b1.toNat) rfl P0 rfl y1 Y0)<|bk h fun A4 Z3 h=>AM (i:=10) (rk j0) (RO.acts (m' :=2047) (sk j0) rfl rfl .plain (Acts.set (α:=UInt64) (i:=b1.toNat) Z3 U0 x1 (fun _=>.hd) B1 rfl rfl rfl rfl rfl rfl) (fun u5 ⟨s2,y2,t1,R2⟩=>?_))
 refine AJ (dk j0)<|k1 (R1.fo,A4,G1,s2) y2 (Tt q1 (Tt s1 t1)) ⟨(Az E3 t1),R2⟩ h
 refine Au<|k1 (F0,p0,A0,x0) D0 (Tr.refl _ _) ⟨Z0,(AN W0 M0)⟩ h
 refine Bf rfl ?_
 have h:=c3 _ h
 try dsimp only at h
 refine Ac<|Ae rfl<|Ae rfl<|Ag rfl<|Ag rfl<|Aa<|Ao rfl ?_
 have K0:=BI H0 .hd
 have H2:=BJ H0 .hd
 have G3:=BK (α:=UInt64) (v:=(.slice (some ⟨c0,0,none⟩) ((a0.length:Nat):Int).toNat ((a0.length:Nat):Int).toNat)) (xs:=p0) K0 L (Bv (α:=UInt64) H0 .hd W0 hL)
 refine Ap hb0 func110 rfl (.cons (.tmp rfl) (.cons (.tmp rfl) .nil)) rfl ?_
 cases h
 exact ⟨K0.ag,fun p q=>⟨(.slice (some ⟨c0,0,none⟩) ((a0.length:Nat):Int).toNat ((a0.length:Nat):Int).toNat),A0,rfl,K0.kd G3 q,K0.kd (Az C1 H2) q⟩⟩
def av_l1 (n:Nat) (d0:(List UInt64) × (List UInt64) -> Option (List UInt64)):(List UInt64) × (List UInt64) -> Option (List UInt64)
  | (c0,b0)=>(if 0 < b0.length then (az_p n c0 b0).bind fun g0=>d0 (b0,g0.2) else some c0)
def av_p (n:Nat) (a0:Te) (a1:Te):Option Te:=
  Option.bind (ao (av_l1 n) n (a0.fo,a1.fo)) (fun b0=>some (⟨false,b0⟩:Te))
theorem av_c (n:Nat) {L w} (hL:hl L w) (a0:Te) {v0_1:Value} (h0_1:Rep.R w L [v0_1] a0.fo) (a1:Te) {v1_1:Value} (h1_1:Rep.R w L [v1_1] a1.fo)  {r:Te} (h:av_p n a0 a1 = some r) :
 Cl 93 #[.agg #[.bool a0.fe,v0_1],.agg #[.bool a1.fe,v1_1]] w (aj w fun w' u=>∃ v0_1:Value,u = .agg #[.bool r.fe,v0_1]/\Rep.R w' L [v0_1] r.fo):=by
 unfold av_p at h
 refine AG func93 rfl rfl rfl fun _ cs0 hb0=>Ac<|RG.bx (AB w) rfl rfl fun s1 W0 C0 Z0=>RG.bx C0 rfl rfl fun u1 X0 D0 b1=>RG.nl [.bool false,vN] D0 fun v1 p0 t0 c1=>Aa<|Aj<|du 6 fun d0 j0=>Rv 0 d0 rfl j0 (fun _=>AP 1 rfl)<|Rx 1 48 d0 rfl j0 (AQ rfl ((t0.memA .t2) 1 _ rfl))<|Rv 2 d0 rfl j0 (fun _=>AP 1 rfl)<|Rx 3 32 d0 rfl j0 (AQ rfl ((t0.memA .t1) 1 _ rfl))<|Rv 4 d0 rfl j0 (fun _=>Ba rfl)<|Rv 5 d0 rfl j0 (fun _=>Ba rfl)<|AJ (dk d0)<|Aj<|Ay ?_
 obtain ⟨u0,d1⟩:=AF t0 (.a0 .done)
 obtain ⟨k1,J0,I0⟩:=ax h
 refine MX.lf (α:=(List UInt64) × (List UInt64) × Value × Value) (fun ⟨k0,c0,b0,g0⟩=>[(4,vP p0),(5,b0),(6,g0)]) (fun ⟨k0,c0,b0,g0⟩=>[.cells p0 [.bool false,vN] 122]) (fun ⟨k0,c0,b0,g0⟩ y0=>Rep.R y0 (bl [.cells p0 [.bool false,vN] 122] ++ L) [b0] k0/\Rep.R y0 (bl [.cells p0 [.bool false,vN] 122] ++ L) [g0] c0) (fun ⟨k0,c0,b0,g0⟩=>(k0,c0)) (a0.fo,a1.fo,v0_1,v1_1) J0 u0 ⟨(AT h0_1 u0),(AT h1_1 u0)⟩ ?_
 rintro V0 ⟨k0,c0,b0,g0⟩ y0 B0 v0 F0 ⟨q0,s0⟩ h
 unfold av_l1 at h
 try dsimp only at h
 refine Aj<|Ac<|Ae rfl ?_
 have g1:c0.length <= 281474976710656:=Bh s0
 refine Ab (Bl (xs:=c0) underlying120 rfl s0)<|Ab (FV.gtrN (i:=c0.length) (j:=0) rfl rfl)<|Aa<|AW rfl h (fun A0 h=>?_) (fun A0 h=>?_)
 refine Au<|Ay<|Ac<|Ae rfl<|Ae rfl<|bk h fun R0 P0 h=>jE (bd 110) rfl (e2 rfl rfl) (fun p q=>az_c n (v0.hL hL q) (Av q0 q) (Av s0 q) P0) rfl fun x1 q1 H0 ⟨p1,Q0,hu_,j1,K0⟩=>?_
 subst hu_
 obtain ⟨E0,z0⟩:=v0.agr H0
 refine Ae rfl<|Ab (Ah rfl rfl)<|Ab (Ah rfl rfl)<|Ag rfl<|Ag rfl<|Aa<|Am<|Ae rfl<|Ae rfl<|Ag rfl<|Ag rfl<|Aa<|AE<|B0 (c0,R0.2,g0,Q0) E0 (Tt F0 z0) ⟨(Az s0 z0),K0⟩ h
 refine Bf rfl ?_
 have h:=I0 _ h
 try dsimp only at h
 refine Ac<|Ae rfl ?_
 obtain ⟨U0,Y0,M0,_⟩:=Rep.sl q0
 refine Ab (AO (vs:=[b0]) (u:=.agg #[.bool false,b0]) (e1 rfl) (fun p=>by rw [M0]; try kernel_rfl))<|AS [.bool false,b0] v0 .hd (o2 rfl (AZ q0)) fun y1 x0 G0=>Aa<|Ao rfl<|Ap hb0 func93 rfl (.cons (.many (cs:=[.bool false,b0]) rfl rfl (x0.memA .hd)) .nil) rfl ?_
 cases h
 exact ⟨x0.ag,fun p q=>⟨b0,rfl,x0.kd (Az q0 G0) q⟩⟩
def aV_p (n:Nat) (a0:Te):Option Te:=
  (ao_p n (!a0.fe) a0.fo).bind fun b0=>some b0
theorem aV_c (n:Nat) {L w} (hL:hl L w) (a0:Te) {v0_1:Value} (h0_1:Rep.R w L [v0_1] a0.fo)  {r:Te} (h:aV_p n a0 = some r) :
 Cl 98 #[.agg #[.bool a0.fe,v0_1]] w (aj w fun w' u=>∃ v0_1:Value,u = .agg #[.bool r.fe,v0_1]/\Rep.R w' L [v0_1] r.fo):=by
 unfold aV_p at h
 refine AG func98 rfl rfl rfl fun _ cs0 hb0=>Ac<|RG.bx (AB w) rfl rfl fun B0 u0 k0 x0=>RG.nl [.bool false,vN] k0 fun C0 v0 b0 y0=>Aa<|Ac<|Bg 0 rfl<|AU rfl ((b0.memA .t1) 0 _ rfl)<|Ab (FV.not rfl)<|Bg 1 rfl<|AU rfl ((b0.memA .t1) 1 _ rfl)<|bk h fun j0 t0 h=>jE (bd 115) rfl (e2 rfl rfl) (fun p q=>ao_c n (b0.hL hL q) (b0.km h0_1 q) t0) rfl fun D0 A0 s0 ⟨d0,hu_,g0⟩=>?_
 subst hu_
 obtain ⟨p0,z0⟩:=b0.agr s0
 refine AS [.bool j0.fe,d0] p0 .hd (o2 rfl (AZ g0)) fun E0 c0 q0=>Aa<|Ao rfl<|Ap hb0 func98 rfl (.cons (.many (cs:=[.bool j0.fe,d0]) rfl rfl (c0.memA .hd)) .nil) rfl ?_
 cases h
 exact ⟨c0.ag,fun p q=>⟨d0,rfl,c0.kd (Az g0 q0) q⟩⟩
def bL_l1 (_n:Nat) (xs4:List UInt64) (xs7:List UInt64) (k0:UInt64 × Nat × (List UInt64) -> Option ((List UInt64) × UInt64)):UInt64 × Nat × (List UInt64) -> Option ((List UInt64) × UInt64)
  | (g0,b0,c0)=>(if b0 < xs4.length then (xs4[b0]?).bind fun q0=>jn (fun p0=>(add64 q0 p0 g0).bind fun j0=>(c0[b0]?).bind fun _x199=>(put c0 ((b0:Nat):Int) j0.1).bind fun t0=>k0 (j0.2,b0 + 1,t0)) (fun d0=>(if b0 < xs7.length then (xs7[b0]?).bind fun s0=>d0 s0 else d0 (0:UInt64))) else some (c0,g0))
def bL_p (n:Nat) (a0:List UInt64) (a1:List UInt64):Option (List UInt64):=
  jn (fun (xs4,xs7)=>(mk ((xs4.length + 1:Nat):Int) (0:UInt64)).bind fun g0=>Option.bind (ao (bL_l1 n xs4 xs7) n (0,0,g0)) (fun (c0,d0)=>(c0[xs4.length]?).bind fun _x229=>(put c0 ((xs4.length:Nat):Int) d0).bind fun j0=>some j0)) (fun b0=>(if a0.length < a1.length then b0 (a1,a0) else b0 (a0,a1)))
theorem bL_c (n:Nat) {L w} (hL:hl L w) {a0:List UInt64} {v0_0:Value} (h0_0:Rep.R w L [v0_0] a0) {a1:List UInt64} {v1_0:Value} (h1_0:Rep.R w L [v1_0] a1)  {r:List UInt64} (h:bL_p n a0 a1 = some r) :
 Cl 145 #[v0_0,v1_0] w (aj w fun w' u=>∃ v0_0:Value,u = v0_0/\Rep.R w' L [v0_0] r):=by
 unfold bL_p at h
 have hS0:=AB w
 refine AG func145 rfl rfl rfl fun _ cs0 hb0=>Ac<|Ag rfl<|Aa<|Aj<|Ac<|Ae rfl ?_
 have hl1:a0.length <= 281474976710656:=Bh h0_0
 refine Ab (Bl (xs:=a0) underlying120 rfl h0_0)<|Ae rfl ?_
 have hl2:a1.length <= 281474976710656:=Bh h1_0
 refine Ab (Bl (xs:=a1) underlying120 rfl h1_0)<|Ab (Bn (i:=a0.length) (j:=a1.length) rfl rfl)<|Aa<|MX.jf (α:=(List UInt64) × (List UInt64) × Value × Value) (fun ⟨xs4,xs7,v5,v8⟩=>[(0,v5),(1,v8)]) (fun ⟨xs4,xs7,v5,v8⟩=>[]) (fun ⟨xs4,xs7,v5,v8⟩ wx9=>Rep.R wx9 (bl [] ++ L) [v5] xs4/\Rep.R wx9 (bl [] ++ L) [v8] xs7) (fun ⟨xs4,xs7,v5,v8⟩=>(xs4,xs7)) hS0 h ?_ ?_
 rintro ⟨xs4,xs7,v5,v8⟩ wx9 q1 D2 ⟨hr6,hr9⟩ h
 try dsimp only at h
 refine Ac<|Ae rfl ?_
 have G2:xs4.length <= 281474976710656:=Bh hr6
 refine Ab (Bl (xs:=xs4) underlying120 rfl hr6)<|Ab (Bp (i:=xs4.length) (j:=1) rfl rfl (by omega))<|bk h fun R0 M0 h=>Ai .plain rfl (Does.mk (α:=UInt64) M0 q1 cC rfl) fun M2 j0 E0 s0=>Ag rfl<|Aa<|Ac<|Ag rfl<|Aa<|Aj<|Ac<|Ae rfl<|Ab (Bl (xs:=xs4) underlying120 rfl (Az hr6 s0))<|Ae rfl<|Aa<|Ay ?_
 obtain ⟨K2,J1,E1⟩:=ax h
 refine MX.lf (α:=UInt64 × Nat × (List UInt64) × (List Value)) (fun ⟨g0,b0,c0,d0⟩=>[(0,v5),(1,v8),(5,(.slice (some ⟨j0,0,none⟩) ((xs4.length + 1:Nat):Int).toNat ((xs4.length + 1:Nat):Int).toNat)),(6,vU g0),(21,v5),(22,vI ((xs4.length:Nat):Int)),(23,vI ((b0:Nat):Int))]) (fun ⟨g0,b0,c0,d0⟩=>[rr w 38 UInt64 (.slice (some ⟨j0,0,none⟩) ((xs4.length + 1:Nat):Int).toNat ((xs4.length + 1:Nat):Int).toNat) c0.length d0]) (fun ⟨g0,b0,c0,d0⟩ P0=>Cells P0 (bl [rr w 38 UInt64 (.slice (some ⟨j0,0,none⟩) ((xs4.length + 1:Nat):Int).toNat ((xs4.length + 1:Nat):Int).toNat) c0.length d0] ++ L) d0 c0) (fun ⟨g0,b0,c0,d0⟩=>(g0,b0,c0)) (0,0,R0,(List.replicate ((xs4.length + 1:Nat):Int).toNat [vW 0]).flatten) J1 E0 (AH (cs:=(List.replicate ((xs4.length + 1:Nat):Int).toNat [vW 0]).flatten) (xs:=R0) E0 L (Cells.mk M0 rfl)) ?_
 rintro t2 ⟨g0,b0,c0,d0⟩ P0 p1 k0 q0 x0 h
 unfold bL_l1 at h
 try dsimp only at h
 refine Ac<|Ab (Bn (i:=b0) (j:=xs4.length) rfl rfl)<|Aa<|Aj<|AW rfl h (fun Y0 h=>?_) (fun Y0 h=>?_)
 refine Au<|Aj<|Ay<|Ac<|Ae rfl<|bk h fun B0 U1 h=>?_
 obtain ⟨p2,v2,y1,F1,c1,K1,H1⟩:=Br (Az hr6 (Tt s0 q0)) U1
 have z1:c1 = [vU B0]:=K1; subst z1
 refine Ab (Bu 1 b0 rfl y1 rfl rfl F1)<|AU rfl (H1 0 _ rfl)<|Ag rfl<|Ag rfl<|Aa<|Ac<|Ag rfl<|Aa<|Aj<|Ac<|Ae rfl<|Ae rfl ?_
 have A0:=Az hr9 (Tt s0 q0)
 have H2:xs7.length <= 281474976710656:=Bh A0
 refine Ab (Bl (xs:=xs7) underlying120 rfl A0)<|Ab (Bn (i:=b0) (j:=xs7.length) rfl rfl)<|Aa<|MX.jo (α:=UInt64) (fun p0=>[(0,v5),(1,v8),(5,(.slice (some ⟨j0,0,none⟩) ((xs4.length + 1:Nat):Int).toNat ((xs4.length + 1:Nat):Int).toNat)),(6,vU g0),(21,v5),(22,vI ((xs4.length:Nat):Int)),(23,vI ((b0:Nat):Int)),(7,vI ((b0:Nat):Int)),(8,vU B0),(9,vU p0)]) (fun p0=>[rr w 38 UInt64 (.slice (some ⟨j0,0,none⟩) ((xs4.length + 1:Nat):Int).toNat ((xs4.length + 1:Nat):Int).toNat) c0.length d0]) (fun p0=>p0) k0 h ?_ ?_
 rintro p0 R2 t0 F0 h
 try dsimp only at h
 refine Am<|Ae rfl<|Ae rfl<|Ae rfl<|Ae rfl<|Ae rfl<|bk h fun k2 b2 h=>Ab (FV.add64 (a:=B0) (b:=p0) (c:=g0) func141 rfl rfl rfl rfl rfl rfl rfl b2)<|Ae rfl<|Ab (Ah rfl rfl)<|Ab (Ah rfl rfl)<|bk h fun c2 V1 h=>?_
 have K0:=AN x0 F0
 obtain ⟨U0,x2,y0,I0,d1,M1,I2⟩:=St.nth (α:=UInt64) t0 .hd K0 V1
 obtain ⟨W0,y2,G0⟩:=BC (α:=UInt64) t0 .hd I0
 obtain rfl:U0 = ⟨W0,0,none⟩:=by rw [G0] at y0; cases y0; rfl
 have A1:d1 = [vU c2]:=M1; subst A1
 refine Ab (Bu 1 b0 rfl y0 rfl rfl I0)<|bk h fun g2 Y1 h=>RG.acts' .plain (Acts.set (α:=UInt64) (i:=b0) Y1 t0 G0 (fun _=>.hd) K0 rfl rfl rfl rfl rfl rfl) fun P2 ⟨g1,s1,u1,v1⟩=>Ag rfl<|Aa<|AE<|Am<|Ab (Bp (i:=b0) (j:=1) rfl rfl (by omega))<|Ae rfl<|Aa<|p1 (k2.2,b0 + 1,g2,g1) s1 (Tt q0 (Tt F0 u1)) v1 h
 intro u2 D0 h
 try dsimp only at h
 refine AW rfl h (fun Z0 h=>?_) (fun Z0 h=>?_)
 refine Am<|Ae rfl<|Ae rfl<|bk h fun Q0 W1 h=>?_
 obtain ⟨q2,z2,B1,G1,j1,P1,I1⟩:=Br A0 W1
 have C1:j1 = [vU Q0]:=P1; subst C1
 refine Ab (Bu 1 b0 rfl B1 rfl rfl G1)<|AU rfl (I1 0 _ rfl)<|Ag rfl<|Aa<|D0 Q0 k0 (Tr.refl _ _) h
 refine Au<|D0 (0:UInt64) k0 (Tr.refl _ _) h
 refine Bf rfl ?_
 have h:=E1 _ h
 try dsimp only at h
 refine Ac<|Ae rfl<|Ae rfl<|Ab (Bl (xs:=xs4) underlying120 rfl (Az hr6 (Tt s0 q0)))<|Ae rfl<|bk h fun d2 X1 h=>?_
 obtain ⟨V0,A2,z0,J0,k1,Q1,J2⟩:=St.nth (α:=UInt64) k0 .hd x0 X1
 obtain ⟨X0,B2,H0⟩:=BC (α:=UInt64) k0 .hd J0
 obtain rfl:V0 = ⟨X0,0,none⟩:=by rw [H0] at z0; cases z0; rfl
 have D1:k1 = [vU d2]:=Q1; subst D1
 refine Ab (Bu 1 (xs4.length) rfl z0 rfl rfl J0)<|bk h fun j2 Z1 h=>RG.acts' .plain (Acts.set (α:=UInt64) (i:=xs4.length) Z1 k0 H0 (fun _=>.hd) x0 rfl rfl rfl rfl rfl rfl) fun Q2 ⟨C2,u0,E2,x1⟩=>Aa<|Ac<|Ae rfl<|Ag rfl<|Aa<|Ao rfl ?_
 have v0:=BI u0 .hd
 have F2:=BJ u0 .hd
 have R1:=BK (α:=UInt64) (v:=(.slice (some ⟨j0,0,none⟩) ((xs4.length + 1:Nat):Int).toNat ((xs4.length + 1:Nat):Int).toNat)) (xs:=j2) v0 L (Bv (α:=UInt64) u0 .hd x1 hL)
 refine Bc hb0 func145 rfl rfl ?_
 cases h
 exact ⟨v0.ag,fun p q=>⟨(.slice (some ⟨j0,0,none⟩) ((xs4.length + 1:Nat):Int).toNat ((xs4.length + 1:Nat):Int).toNat),rfl,v0.kd R1 q⟩⟩
 intro s2 C0 h
 try dsimp only at h
 refine AW rfl h (fun b1 h=>?_) (fun b1 h=>?_)
 refine Am<|Ae rfl<|Ae rfl<|Ag rfl<|Ag rfl<|Aa<|C0 (a1,a0,v1_0,v0_0) hS0 (Tr.refl _ _) ⟨h1_0,h0_0⟩ h
 refine Au<|C0 (a0,a1,v0_0,v1_0) hS0 (Tr.refl _ _) ⟨h0_0,h1_0⟩ h
def bg_p (n:Nat) (a0:Te) (a1:Te):Option Te:=
  (if (a0.fe == a1.fe) = true then (bL_p n a0.fo a1.fo).bind fun j0=>(ao_p n a0.fe j0).bind fun k0=>some k0 else (bh_p n a0.fo a1.fo).bind fun p0=>jn (fun (_q58,d0,c0,g0)=>(bA_p n g0 d0).bind fun q0=>(ao_p n c0 q0).bind fun s0=>some s0) (fun b0=>(if p0 < 0 then b0 (a0.fe,a0.fo,a1.fe,a1.fo) else b0 (a1.fe,a1.fo,a0.fe,a0.fo))))
theorem bg_c (n:Nat) {L w} (hL:hl L w) (a0:Te) {v0_1:Value} (h0_1:Rep.R w L [v0_1] a0.fo) (a1:Te) {v1_1:Value} (h1_1:Rep.R w L [v1_1] a1.fo)  {r:Te} (h:bg_p n a0 a1 = some r) :
 Cl 128 #[.agg #[.bool a0.fe,v0_1],.agg #[.bool a1.fe,v1_1]] w (aj w fun w' u=>∃ v0_1:Value,u = .agg #[.bool r.fe,v0_1]/\Rep.R w' L [v0_1] r.fo):=by
 unfold bg_p at h
 refine AG func128 rfl rfl rfl fun _ cs0 hb0=>Ac<|RG.bx (AB w) rfl rfl fun Y1 y0 X0 F1=>RG.bx X0 rfl rfl fun Z1 z0 Y0 G1=>RG.nl [.bool false,vN] Y0 fun b2 A0 b0 H1=>Aa<|Aj<|Ac<|Bg 0 rfl<|AU rfl ((b0.memA .t2) 0 _ rfl)<|Bg 0 rfl<|AU rfl ((b0.memA .t1) 0 _ rfl)<|Ab (FV.eqlB (a:=a0.fe) (b:=a1.fe) underlying4 rfl rfl)<|Aa<|MX.ifb rfl h (fun V0 h=>?_) (fun V0 h=>?_)
 refine Aj<|du 8 fun c0 s0=>Rv 0 c0 rfl s0 (fun _=>AP 0 rfl)<|Rx 1 384 c0 rfl s0 (AQ rfl ((b0.memA .t2) 0 _ rfl))<|Rv 2 c0 rfl s0 (fun _=>AP 1 rfl)<|Rx 3 448 c0 rfl s0 (AQ rfl ((b0.memA .t2) 1 _ rfl))<|Rv 4 c0 rfl s0 (fun _=>AP 1 rfl)<|Rx 5 448 c0 rfl s0 (AQ rfl ((b0.memA .t1) 1 _ rfl))<|bk h fun u2 z1 h=>Bx 6 127 c0 rfl .plain (bd 145) rfl (e2 rfl rfl) (fun p q=>bL_c n (b0.hL hL q) (b0.km h0_1 q) (b0.km h1_1 q) z1) rfl fun c2 U1 k1 ⟨Q1,hu_,u1⟩=>?_
 subst hu_
 obtain ⟨I0,I1⟩:=b0.agr k1
 refine bk h fun Q0 A1 h=>Bx 7 255 c0 rfl .plain (bd 115) rfl (e2 rfl rfl) (fun p q=>ao_c n (I0.hL hL q) (Av u1 q) A1) rfl fun d2 V1 p1 ⟨E0,hu_,M0⟩=>?_
 subst hu_
 obtain ⟨Z0,J1⟩:=I0.agr p1
 refine By 8 511 c0 rfl rfl .plain (AA (news:=[.bool Q0.fe,E0]) Z0 .hd rfl rfl rfl rfl rfl rfl (o2 rfl (AZ M0))) fun g2 C0 d1=>AJ (dk c0)<|Ao rfl<|Ap hb0 func128 rfl (.cons (.many (cs:=[.bool Q0.fe,E0]) rfl rfl (C0.memA .hd)) .nil) rfl ?_
 cases h
 exact ⟨C0.ag,fun p q=>⟨E0,rfl,C0.kd (Az M0 d1) q⟩⟩
 refine Au<|Aj<|Ac<|Bg 1 rfl<|AU rfl ((b0.memA .t2) 1 _ rfl)<|Bg 1 rfl<|AU rfl ((b0.memA .t1) 1 _ rfl)<|bk h fun R0 B1 h=>Bi (vI R0) (bd 126) rfl (e2 rfl rfl) (fun p q=>bh_c n (b0.hL0 hL q) (b0.k0 h0_1 q) (b0.k0 h1_1 q) B1) rfl<|Ab (FV.lss (i:=R0) (j:=0) rfl rfl)<|Aa<|MX.jf (α:=Bool × (List UInt64) × Bool × (List UInt64) × Value × Value) (fun ⟨g0,u0,j0,v0,p0,q0⟩=>[(2,vP y0),(3,vP z0),(4,vP A0)]) (fun ⟨g0,u0,j0,v0,p0,q0⟩=>[.cells A0 [.bool false,vN] 122,.cells z0 [.bool g0,p0] 122,.cells y0 [.bool j0,q0] 122]) (fun ⟨g0,u0,j0,v0,p0,q0⟩ G0=>Rep.R G0 (bl [.cells A0 [.bool false,vN] 122,.cells z0 [.bool g0,p0] 122,.cells y0 [.bool j0,q0] 122] ++ L) [p0] u0/\Rep.R G0 (bl [.cells A0 [.bool false,vN] 122,.cells z0 [.bool g0,p0] 122,.cells y0 [.bool j0,q0] 122] ++ L) [q0] v0) (fun ⟨g0,u0,j0,v0,p0,q0⟩=>(g0,u0,j0,v0)) b0 h ?_ ?_
 rintro ⟨g0,u0,j0,v0,p0,q0⟩ G0 x0 K1 ⟨v1,x1⟩ h
 try dsimp only at h
 refine Aj<|du 8 fun d0 t0=>Rv 0 d0 rfl t0 (fun _=>AP 0 rfl)<|Rx 1 384 d0 rfl t0 (AQ rfl ((x0.memA .t2) 0 _ rfl))<|Rv 2 d0 rfl t0 (fun _=>AP 1 rfl)<|Rx 3 448 d0 rfl t0 (AQ rfl ((x0.memA .t2) 1 _ rfl))<|Rv 4 d0 rfl t0 (fun _=>AP 1 rfl)<|Rx 5 448 d0 rfl t0 (AQ rfl ((x0.memA .t1) 1 _ rfl))<|bk h fun v2 C1 h=>Bx 6 127 d0 rfl .plain (bd 127) rfl (e2 rfl rfl) (fun p q=>bA_c n (x0.hL hL q) (Av x1 q) (Av v1 q) C1) rfl fun j2 W1 q1 ⟨R1,hu_,y1⟩=>?_
 subst hu_
 obtain ⟨J0,M1⟩:=x0.agr q1
 refine bk h fun U0 D1 h=>Bx 7 255 d0 rfl .plain (bd 115) rfl (e2 rfl rfl) (fun p q=>ao_c n (J0.hL hL q) (Av y1 q) D1) rfl fun k2 X1 s1 ⟨F0,hu_,P0⟩=>?_
 subst hu_
 obtain ⟨b1,P1⟩:=J0.agr s1
 refine By 8 511 d0 rfl rfl .plain (AA (news:=[.bool U0.fe,F0]) b1 .hd rfl rfl rfl rfl rfl rfl (o2 rfl (AZ P0))) fun p2 D0 g1=>AJ (dk d0)<|Ao rfl<|Ap hb0 func128 rfl (.cons (.many (cs:=[.bool U0.fe,F0]) rfl rfl (D0.memA .hd)) .nil) rfl ?_
 cases h
 exact ⟨D0.ag,fun p q=>⟨F0,rfl,D0.kd (Az P0 g1) q⟩⟩
 intro E1 H0 h
 try dsimp only at h
 refine AW rfl h (fun W0 h=>?_) (fun W0 h=>?_)
 refine Am<|Ab (AC rfl (b0.memA .t1))<|Ab (AC rfl (b0.memA .t2))<|AS [.bool a1.fe,v1_1] b0 .t2 (o2 rfl (AZ (AT h1_1 b0))) fun q2 K0 j1=>AS [.bool a0.fe,v0_1] K0 .t1 (o2 rfl (AZ (AT h0_1 K0))) fun s2 B0 c1=>Aa<|H0 (a0.fe,a0.fo,a1.fe,a1.fo,v0_1,v1_1) B0 (Tt j1 c1) ⟨(AT h0_1 B0),(AT h1_1 B0)⟩ h
 refine Au<|H0 (a1.fe,a1.fo,a0.fe,a0.fo,v1_1,v0_1) b0 (Tr.refl _ _) ⟨(AT h1_1 b0),(AT h0_1 b0)⟩ h
def bZ_p (n:Nat) (a0:Te) (a1:Te):Option Te:=
  (aV_p n a1).bind fun b0=>(bg_p n a0 b0).bind fun c0=>some c0
theorem bZ_c (n:Nat) {L w} (hL:hl L w) (a0:Te) {v0_1:Value} (h0_1:Rep.R w L [v0_1] a0.fo) (a1:Te) {v1_1:Value} (h1_1:Rep.R w L [v1_1] a1.fo)  {r:Te} (h:bZ_p n a0 a1 = some r) :
 Cl 111 #[.agg #[.bool a0.fe,v0_1],.agg #[.bool a1.fe,v1_1]] w (aj w fun w' u=>∃ v0_1:Value,u = .agg #[.bool r.fe,v0_1]/\Rep.R w' L [v0_1] r.fo):=by
 unfold bZ_p at h
 refine AG func111 rfl rfl rfl fun _ cs0 hb0=>Ac<|RG.bx (AB w) rfl rfl fun R0 D0 s0 G0=>RG.bx s0 rfl rfl fun U0 E0 t0 H0=>RG.nl [.bool false,vN] t0 fun V0 F0 c0 I0=>Aa<|Aj<|du 4 fun b0 p0=>Rx 0 24 b0 rfl p0 (AC rfl (c0.memA .t2))<|Rx 1 28 b0 rfl p0 (AC rfl (c0.memA .t1))<|bk h fun C0 A0 h=>Bx 2 7 b0 rfl .plain (bd 98) rfl (e1 rfl) (fun p q=>aV_c n (c0.hL hL q) a1 (c0.km h1_1 q) A0) rfl fun W0 P0 x0 ⟨M0,hu_,z0⟩=>?_
 subst hu_
 obtain ⟨d0,J0⟩:=c0.agr x0
 refine bk h fun q0 B0 h=>Bx 3 15 b0 rfl .plain (bd 128) rfl (e2 rfl rfl) (fun p q=>bg_c n (d0.hL hL q) a0 (d0.km h0_1 q) C0 (Av z0 q) B0) rfl fun X0 Q0 y0 ⟨j0,hu_,k0⟩=>?_
 subst hu_
 obtain ⟨u0,K0⟩:=d0.agr y0
 refine By 4 31 b0 rfl rfl .plain (AA (news:=[.bool q0.fe,j0]) u0 .hd rfl rfl rfl rfl rfl rfl (o2 rfl (AZ k0))) fun Y0 g0 v0=>AJ (dk b0)<|Ao rfl<|Ap hb0 func111 rfl (.cons (.many (cs:=[.bool q0.fe,j0]) rfl rfl (g0.memA .hd)) .nil) rfl ?_
 cases h
 exact ⟨g0.ag,fun p q=>⟨j0,rfl,g0.kd (Az k0 v0) q⟩⟩
def bJ_p (n:Nat) (a0:Te) (a1:Te):Option Int:=
  (bZ_p n a0 a1).bind fun b0=>(bK_p n b0).bind fun c0=>some c0
theorem bJ_c (n:Nat) {L w} (hL:hl L w) (a0:Te) {v0_1:Value} (h0_1:Rep.R w L [v0_1] a0.fo) (a1:Te) {v1_1:Value} (h1_1:Rep.R w L [v1_1] a1.fo)  {r:Int} (h:bJ_p n a0 a1 = some r) :
 Cl 94 #[.agg #[.bool a0.fe,v0_1],.agg #[.bool a1.fe,v1_1]] w (aj w fun _ u=>u = vI r):=by
 unfold bJ_p at h
 refine AG func94 rfl rfl rfl fun _ cs0 hb0=>Ac<|RG.bx (AB w) rfl rfl fun B0 t0 d0 v0=>RG.bx d0 rfl rfl fun C0 u0 b0 x0=>Ag rfl<|Aa<|Ac<|Ab (AC rfl (b0.memA .t1))<|Ab (AC rfl (b0.memA .hd))<|bk h fun q0 k0 h=>jE (bd 111) rfl (e2 rfl rfl) (fun p q=>bZ_c n (b0.hL hL q) a0 (b0.km h0_1 q) a1 (b0.km h1_1 q) k0) rfl fun D0 A0 g0 ⟨z0,hu_,j0⟩=>?_
 subst hu_
 obtain ⟨c0,y0⟩:=b0.agr g0
 refine bk h fun s0 p0 h=>Bi (vI s0) (bd 92) rfl (e1 rfl) (fun p q=>bK_c n (c0.hL0 hL q) q0 (c0.kd j0 q) p0) rfl<|Ag rfl<|Aa<|Ao rfl<|Bc hb0 func94 rfl rfl ?_
 cases h
 exact c0.gv
def cj_p (n:Nat) (a0:Ta):Option Int:=
  (cB_p n (1:Int)).bind fun c0=>(aw_p n a0).bind fun b0=>(bK_p n b0.fp).bind fun d0=>(if d0 <= 0 then some (20:Int) else (av_p n b0.ft b0.fp).bind fun g0=>(bJ_p n g0 c0).bind fun j0=>(if j0 = 0 then some (0:Int) else some (20:Int)))
theorem cj_c (n:Nat) {L w} (hL:hl L w) (a0:Ta)  {r:Int} (h:cj_p n a0 = some r) :
 Cl 54 #[.agg ((aa a0)).toArray] w (aj w fun _ u=>u = vI r):=by
 unfold cj_p at h
 refine AG func54 rfl rfl rfl fun _ cs0 hb0=>Ac<|RG.bx (AB w) rfl rfl fun y1 g1 t0 p1=>Ag rfl<|Aa<|Ac<|bk h fun B0 W0 h=>jE (bd 90) rfl (e1 rfl) (fun p q=>cB_c n (t0.hL hL q)  W0) rfl fun z1 u1 Q0 ⟨c1,hu_,x0⟩=>?_
 subst hu_
 obtain ⟨G0,q1⟩:=t0.agr Q0
 refine RG.nl [.bool false,vN] G0 fun A1 j1 H0 u0=>AS [.bool B0.fe,c1] H0 .hd (o2 rfl (AZ (Az x0 u0))) fun B1 p0 K0=>Aa<|Ac<|Ab (AC rfl (p0.memA .t1))<|bk h fun g0 X0 h=>jE (bd 91) rfl (e1 rfl) (fun p q=>aw_c n (p0.hL hL q) a0 X0) rfl fun C1 v1 R0 ⟨A0,s0,hu_,y0,z0⟩=>?_
 subst hu_
 obtain ⟨I0,M0⟩:=p0.agr R0
 refine RG.nl [.bool false,vN,.bool false,vN] I0 fun D1 k1 J0 k0=>AS [.bool g0.ft.fe,A0,.bool g0.fp.fe,s0] J0 .hd (o4 rfl (AZ (Az y0 k0)) rfl (AZ (Az z0 k0))) fun E1 d0 q0=>Aa<|Aj<|Aj<|du 14 fun b0 c0=>Rv 0 b0 rfl c0 (fun _=>AP 2 rfl)<|Rx 1 16380 b0 rfl c0 (AY (cs:=[.bool g0.fp.fe,s0]) rfl rfl (ae (d0.memA .hd) 2 2))<|bk h fun C0 Y0 h=>?_
 have v0:=Az z0 (Tt k0 q0)
 refine BD 2 7 16376 (vI C0) b0 rfl c0 (bd 92) rfl (e1 rfl) (fun p q=>bK_c n (d0.hL0 hL q) g0.fp (d0.kd v0 q) Y0) rfl<|Rv 3 b0 rfl c0 (fun _=>FV.leq (i:=C0) (j:=0) rfl rfl)<|Rv 4 b0 rfl c0 (fun _=>Ak rfl)<|RD.ifd (s:=12) rfl h (fun E0 h=>?_) (fun E0 h=>?_)
 refine Bz 8191 1 [(5,13),(6,14),(7,15),(8,16),(9,17),(10,18),(11,19),(12,20)] (F:=[(12,true)]) (U:=[]) b0 c0 (.cons rfl .nil) .nil ?_
 dsimp only [aQ,List.map]
 refine Rv 13 b0 rfl c0 (fun _=>FV.pick_t rfl rfl)<|AJ (dk b0)<|Be rfl<|Ac<|Ag rfl<|Aa<|Ao rfl<|Bc hb0 func54 rfl rfl ?_
 cases h
 exact d0.gv
 refine RD.vP 5 63 b0 rfl c0 (.yes rfl rfl) (fun _=>AP 0 rfl) rfl<|RD.val (i:=6) (m' :=127) (W:=14848) (tk b0) rfl c0 (.yes rfl rfl) (AY (cs:=[.bool g0.ft.fe,A0]) rfl rfl (ae (d0.memA .hd) 0 2)) rfl<|RD.vP 7 255 b0 rfl c0 (.yes rfl rfl) (fun _=>AP 2 rfl) rfl<|RD.val (i:=8) (m' :=511) (W:=14848) (tk b0) rfl c0 (.yes rfl rfl) (AY (cs:=[.bool g0.fp.fe,s0]) rfl rfl (ae (d0.memA .hd) 2 2)) rfl<|RD.val (i:=10) (m' :=1535) (W:=14336) (tk b0) rfl c0 (.yes rfl rfl) (AC rfl (d0.memA .t1)) rfl<|bk h fun d1 Z0 h=>Bx 9 2047 b0 rfl (.yes rfl rfl) (bd 93) rfl (e2 rfl rfl) (fun p q=>av_c n (d0.hL hL q) g0.ft (Av (Az y0 (Tt k0 q0)) q) g0.fp (Av v0 q) Z0) rfl fun F1 x1 U0 ⟨s1,hu_,V0⟩=>?_
 subst hu_
 obtain ⟨j0,P0⟩:=d0.agr U0
 refine bk h fun D0 b1 h=>RD.callq (i:=11) (m' :=4095) (W:=12288) (tk b0) rfl c0 (v:=vI D0) (fst:=[]) (cap:=[]) (.yes rfl rfl) (bd 94) rfl (e2 rfl rfl) (fun p q=>bJ_c n (j0.hL0 hL q) d1 (j0.kd V0 q) B0 (j0.kd (Az x0 (Tt u0 (Tt K0 (Tt M0 (Tt k0 (Tt q0 P0)))))) q) b1) rfl<|RD.vP 12 8191 b0 rfl c0 (.yes rfl rfl) (fun _=>FV.neq (i:=D0) (j:=0) rfl rfl) rfl<|Rv 13 b0 rfl c0 (fun _=>Bm rfl rfl)<|AJ (dk b0)<|MX.ifn rfl h (fun F0 h=>?_) (fun F0 h=>?_)
 refine Au<|Ac<|Ag rfl<|Aa<|Ao rfl<|Bc hb0 func54 rfl rfl ?_
 cases h
 exact j0.gv
 refine Ac<|Ag rfl<|Aa<|Ao rfl<|Bc hb0 func54 rfl rfl ?_
 cases h
 exact j0.gv
def co_p (n:Nat) (a0:Ta):Option Bool:=
  (cj_p n a0).bind fun b0=>some (decide (b0 = 0))
theorem co_c (n:Nat) {L w} (hL:hl L w) (a0:Ta)  {r:Bool} (h:co_p n a0 = some r) :
 Cl 113 #[.agg ((aa a0)).toArray] w (aj w fun _ u=>u = .bool r):=by
 unfold co_p at h
 refine AG func113 rfl rfl rfl fun _ cs0 hb0=>Ac<|RG.bx (AB w) rfl rfl fun k0 g0 b0 j0=>Ag rfl<|Aa<|Ac<|Ab (AC rfl (b0.memA .hd))<|bk h fun c0 d0 h=>Bi (vI c0) (bd 54) rfl (e1 rfl) (fun p q=>cj_c n (b0.hL0 hL q) a0 d0) rfl<|Ab (FV.eql (i:=c0) (j:=0) rfl rfl)<|Ag rfl<|Aa<|Ao rfl<|Bc hb0 func113 rfl rfl ?_
 cases h
 exact b0.gv
theorem na {w:World} {L:List Nat} {cs:List Value} {x:U8} (h:Rep.R w L cs x):cs = [vU x.1,vU x.2.1,vU x.2.2.1,vU x.2.2.2.1,vU x.2.2.2.2.1,vU x.2.2.2.2.2.1,vU x.2.2.2.2.2.2.1,vU x.2.2.2.2.2.2.2]:=by
  obtain ⟨c0,r0,rfl,h0,h⟩:=h
  have e0:c0 = [vU x.1]:=h0; subst e0
  obtain ⟨c1,r1,rfl,h1,h⟩:=h
  have e1:c1 = [vU x.2.1]:=h1; subst e1
  obtain ⟨c2,r2,rfl,h2,h⟩:=h
  have e2:c2 = [vU x.2.2.1]:=h2; subst e2
  obtain ⟨c3,r3,rfl,h3,h⟩:=h
  have e3:c3 = [vU x.2.2.2.1]:=h3; subst e3
  obtain ⟨c4,r4,rfl,h4,h⟩:=h
  have e4:c4 = [vU x.2.2.2.2.1]:=h4; subst e4
  obtain ⟨c5,r5,rfl,h5,h⟩:=h
  have e5:c5 = [vU x.2.2.2.2.2.1]:=h5; subst e5
  obtain ⟨c6,r6,rfl,h6,h⟩:=h
  have e6:c6 = [vU x.2.2.2.2.2.2.1]:=h6; subst e6
  have e7:r6 = [vU x.2.2.2.2.2.2.2]:=h; subst e7
  rfl
theorem mP {w:World} {L:List Nat} (a0:UInt64) (a1:UInt64) (a2:UInt64) (a3:UInt64) (a4:UInt64) (a5:UInt64) (a6:UInt64) (a7:UInt64):Rep.R w L [vU a0,vU a1,vU a2,vU a3,vU a4,vU a5,vU a6,vU a7] ((a0,a1,a2,a3,a4,a5,a6,a7):U8):=⟨[vU a0],[vU a1,vU a2,vU a3,vU a4,vU a5,vU a6,vU a7],rfl,rfl,⟨[vU a1],[vU a2,vU a3,vU a4,vU a5,vU a6,vU a7],rfl,rfl,⟨[vU a2],[vU a3,vU a4,vU a5,vU a6,vU a7],rfl,rfl,⟨[vU a3],[vU a4,vU a5,vU a6,vU a7],rfl,rfl,⟨[vU a4],[vU a5,vU a6,vU a7],rfl,rfl,⟨[vU a5],[vU a6,vU a7],rfl,rfl,⟨[vU a6],[vU a7],rfl,rfl,rfl⟩⟩⟩⟩⟩⟩⟩
theorem bU {w:World} {L:List Nat} {cs:List Value} {x:Ta} (h:Rep.R w L cs x):cs = [vU x.fN.1,vU x.fN.2.1,vU x.fN.2.2.1,vU x.fN.2.2.2.1,vU x.fN.2.2.2.2.1,vU x.fN.2.2.2.2.2.1,vU x.fN.2.2.2.2.2.2.1,vU x.fN.2.2.2.2.2.2.2,vU x.fD.1,vU x.fD.2.1,vU x.fD.2.2.1,vU x.fD.2.2.2.1,vU x.fD.2.2.2.2.1,vU x.fD.2.2.2.2.2.1,vU x.fD.2.2.2.2.2.2.1,vU x.fD.2.2.2.2.2.2.2]:=by
  obtain ⟨c0,r0,rfl,h0,h⟩:=h
  obtain rfl:=na (x:=x.fN) h0
  obtain rfl:=na (x:=x.fD) h
  rfl
theorem aU {w:World} {L:List Nat} (a0:U8) (a1:U8):Rep.R w L [vU a0.1,vU a0.2.1,vU a0.2.2.1,vU a0.2.2.2.1,vU a0.2.2.2.2.1,vU a0.2.2.2.2.2.1,vU a0.2.2.2.2.2.2.1,vU a0.2.2.2.2.2.2.2,vU a1.1,vU a1.2.1,vU a1.2.2.1,vU a1.2.2.2.1,vU a1.2.2.2.2.1,vU a1.2.2.2.2.2.1,vU a1.2.2.2.2.2.2.1,vU a1.2.2.2.2.2.2.2] (⟨a0,a1⟩:Ta):=⟨[vU a0.1,vU a0.2.1,vU a0.2.2.1,vU a0.2.2.2.1,vU a0.2.2.2.2.1,vU a0.2.2.2.2.2.1,vU a0.2.2.2.2.2.2.1,vU a0.2.2.2.2.2.2.2],[vU a1.1,vU a1.2.1,vU a1.2.2.1,vU a1.2.2.2.1,vU a1.2.2.2.2.1,vU a1.2.2.2.2.2.1,vU a1.2.2.2.2.2.2.1,vU a1.2.2.2.2.2.2.2],rfl,mP a0.1 a0.2.1 a0.2.2.1 a0.2.2.2.1 a0.2.2.2.2.1 a0.2.2.2.2.2.1 a0.2.2.2.2.2.2.1 a0.2.2.2.2.2.2.2,mP a1.1 a1.2.1 a1.2.2.1 a1.2.2.2.1 a1.2.2.2.2.1 a1.2.2.2.2.2.1 a1.2.2.2.2.2.2.1 a1.2.2.2.2.2.2.2⟩
def aC_l1 (n:Nat) (a0:List Ta) (c0:Nat -> Option (Bool ⊕ Unit)):Nat -> Option (Bool ⊕ Unit)
  | b0=>(if b0 < a0.length then (a0[b0]?).bind fun d0=>(co_p n d0).bind fun g0=>(if g0 = true then c0 (b0 + 1) else some (.inl false)) else some (.inr ()))
def aC_p (n:Nat) (a0:List Ta):Option Bool:=
  thn (ao (aC_l1 n a0) n 0) (fun _=>some true)
theorem aC_c (n:Nat) {L w} (hL:hl L w) {a0:List Ta} {v0_0:Value} (h0_0:Rep.R w L [v0_0] a0)  {r:Bool} (h:aC_p n a0 = some r) :
 Cl 96 #[v0_0] w (aj w fun _ u=>u = .bool r):=by
 unfold aC_p at h
 refine AG func96 rfl rfl rfl fun _ cs0 hb0=>Ac<|Ag rfl<|Aa<|Ac<|Ag rfl<|Aa<|Ac<|Ae rfl<|Ae rfl<|Bk (fst:=[]) (cap:=[]) (vs:=[.func (.func 113) #[] #[],v0_0]) .plain (bd 114) func114 rfl rfl rfl rfl (e2 rfl rfl) rfl fun cs2 hb1 hp3=>Ac<|Ag rfl<|Aa<|Aj<|Ac<|Ae rfl ?_
 have hl4:a0.length <= 281474976710656:=Bh h0_0
 refine Ab (Bl (xs:=a0) underlying46 rfl h0_0)<|Ae rfl<|Aa<|Ay<|tn h fun P0 C0 g0=>MX.lo (α:=Nat) (fun b0=>[(0,.func (.func 113) #[] #[]),(7,v0_0),(8,vI ((a0.length:Nat):Int)),(9,vI ((b0:Nat):Int))]) (fun b0=>[]) (fun b0=>b0) 0 C0 (AB w) ?_
 rintro I0 b0 U0 q0 d0 u0 h
 unfold aC_l1 at h
 try dsimp only at h
 refine Ac<|Ab (Bn (i:=b0) (j:=a0.length) rfl rfl)<|Aa<|Aj<|AW rfl h (fun k0 h=>?_) (fun k0 h=>?_)
 refine Au<|Aj<|Ay<|Ac<|bk h fun j0 E0 h=>?_
 obtain ⟨H0,K0,z0,A0,M0,D0,B0⟩:=Br (AT h0_0 d0) E0
 obtain rfl:=bU D0
 refine Ab (Bu 16 b0 rfl z0 rfl rfl A0)<|Ab (AC rfl B0)<|RG.nl zL d0 fun Q0 J0 s0 v0=>AS (aa j0) s0 .hd (ah rfl) fun R0 c0 x0=>Aa<|Ac<|Ae rfl<|Ab (AC rfl (c0.memA .hd))<|bk h fun G0 F0 h=>Bi (.bool G0) (bd 113) rfl (e1 rfl) (fun p q=>co_c n (c0.hL0 hL q) j0 F0) rfl<|Ab (FV.not rfl)<|Aa<|MX.ifnb rfl h (fun p0 h=>?_) (fun p0 h=>?_)
 refine Au<|AE<|Am<|Ab (Bp (i:=b0) (j:=1) rfl rfl (by omega))<|Ae rfl<|Aa ?_
 obtain ⟨t0,y0⟩:=AF c0 .done
 exact q0 (b0 + 1) t0 (Tt u0 (Tt v0 (Tt x0 y0))) h
 refine Ac<|Ag rfl<|Aa ?_
 have h:=ap h g0
 refine Ao rfl<|Ap (u:=.bool false) hb1 func114 rfl (.cons (.tmp rfl) .nil) rfl<|Ag rfl<|Aa<|Ao rfl<|Bc hb0 func96 rfl rfl ?_
 cases h
 exact c0.gv
 refine Bf rfl ?_
 have h:=aH h g0
 try dsimp only at h
 refine Ac<|Ag rfl<|Aa<|Ao rfl<|Ap (u:=.bool true) hb1 func114 rfl (.cons (.tmp rfl) .nil) rfl<|Ag rfl<|Aa<|Ao rfl<|Bc hb0 func96 rfl rfl ?_
 cases h
 exact d0.gv
def aA_p (n:Nat) (a0:Td):Option Td:=
  (aV_p n a0.ft).bind fun b0=>some (⟨b0,a0.fp⟩:Td)
theorem aA_c (n:Nat) {L w} (hL:hl L w) (a0:Td) {v0_1:Value} (h0_1:Rep.R w L [v0_1] a0.ft.fo) {v0_3:Value} (h0_3:Rep.R w L [v0_3] a0.fp.fo)  {r:Td} (h:aA_p n a0 = some r) :
 Cl 70 #[.agg #[.bool a0.ft.fe,v0_1,.bool a0.fp.fe,v0_3]] w (aj w fun w' u=>∃ v0_1 v0_3:Value,u = .agg #[.bool r.ft.fe,v0_1,.bool r.fp.fe,v0_3]/\Rep.R w' L [v0_1] r.ft.fo/\Rep.R w' L [v0_3] r.fp.fo):=by
 unfold aA_p at h
 refine AG func70 rfl rfl rfl fun _ cs0 hb0=>Ac<|RG.bx (AB w) rfl rfl fun M0 D0 u0 H0=>RG.nl [.bool false,vN,.bool false,vN] u0 fun P0 E0 c0 I0=>Aa<|Aj<|du 6 fun b0 d0=>Rv 0 b0 rfl d0 (fun _=>AP 0 rfl)<|Rx 1 100 b0 rfl d0 (AY (cs:=[.bool a0.ft.fe,v0_1]) rfl rfl (ae (c0.memA .t1) 0 2))<|Rv 3 b0 rfl d0 (fun _=>AP 2 rfl)<|Rx 4 96 b0 rfl d0 (AY (cs:=[.bool a0.fp.fe,v0_3]) rfl rfl (ae (c0.memA .t1) 2 2))<|bk h fun p0 A0 h=>Bx 2 31 b0 rfl .plain (bd 98) rfl (e1 rfl) (fun p q=>aV_c n (c0.hL hL q) a0.ft (c0.km h0_1 q) A0) rfl fun Q0 K0 x0 ⟨g0,hu_,q0⟩=>?_
 subst hu_
 obtain ⟨s0,J0⟩:=c0.agr x0
 obtain ⟨B0,F0,y0,_⟩:=Rep.sl q0
 have t0:=AT h0_3 s0
 obtain ⟨C0,G0,z0,_⟩:=Rep.sl t0
 refine Rv 5 b0 rfl d0 (fun _=>AO (vs:=[.agg #[.bool p0.fe,g0],.agg #[.bool a0.fp.fe,v0_3]]) (u:=.agg #[.bool p0.fe,g0,.bool a0.fp.fe,v0_3]) (e2 rfl rfl) (fun p=>by rw [y0,z0]; try kernel_rfl))<|By 6 127 b0 rfl rfl .plain (AA (news:=[.bool p0.fe,g0,.bool a0.fp.fe,v0_3]) s0 .hd rfl rfl rfl rfl rfl rfl (o4 rfl (AZ q0) rfl (AZ t0))) fun R0 j0 v0=>AJ (dk b0)<|Ao rfl<|Ap hb0 func70 rfl (.cons (.many (cs:=[.bool p0.fe,g0,.bool a0.fp.fe,v0_3]) rfl rfl (j0.memA .hd)) .nil) rfl ?_
 cases h
 exact ⟨j0.ag,fun p q=>⟨g0,v0_3,rfl,j0.kd (Az q0 v0) q,j0.k0 h0_3 q⟩⟩
def cb_p (_n:Nat) (a0:UInt64) (a1:UInt64):Option (UInt64 × UInt64):=
  (some (((shrU a0 32) * (a1 &&& (4294967295:UInt64))) + (shrU ((a0 &&& (4294967295:UInt64)) * (a1 &&& (4294967295:UInt64))) 32))).bind fun u1=>(some (shrU ((u1 &&& (4294967295:UInt64)) + ((a0 &&& (4294967295:UInt64)) * (shrU a1 32))) 32)).bind fun u2=>some ((((shrU a0 32) * (shrU a1 32)) + (shrU u1 32)) + u2,a0 * a1)
theorem cb_c (n:Nat) {L w} (_hL:hl L w) (a0:UInt64) (a1:UInt64)  {r:UInt64 × UInt64} (h:cb_p n a0 a1 = some r) :
 Cl 140 #[vU a0,vU a1] w (aj w fun _ u=>u = .tuple #[vU r.1,vU r.2]):=by
 unfold cb_p at h
 have hS0:=AB w
 refine AG func140 rfl rfl rfl fun _ cs0 hb0=>Ac<|Ag rfl<|Ag rfl<|Aa<|Ac<|Ae rfl<|Ab (FV.andU (a:=a0) (b:=(4294967295:UInt64)) rfl rfl)<|Ag rfl<|Aa<|Ac<|Ae rfl<|Ab (FV.shrU (a:=a0) (j:=32) rfl rfl)<|Ag rfl<|Aa<|Ac<|Ae rfl<|Ab (FV.andU (a:=a1) (b:=(4294967295:UInt64)) rfl rfl)<|Ag rfl<|Aa<|Ac<|Ae rfl<|Ab (FV.shrU (a:=a1) (j:=32) rfl rfl)<|Ag rfl<|Aa<|Ac<|Ae rfl<|Ae rfl<|Ab (FV.mulU (a:=a0 &&& (4294967295:UInt64)) (b:=a1 &&& (4294967295:UInt64)) rfl rfl)<|Ag rfl<|Aa<|Ac<|Ae rfl<|Ae rfl<|Ab (FV.mulU (a:=shrU a0 32) (b:=a1 &&& (4294967295:UInt64)) rfl rfl)<|Ae rfl<|Ab (FV.shrU (a:=(a0 &&& (4294967295:UInt64)) * (a1 &&& (4294967295:UInt64))) (j:=32) rfl rfl)<|bk h fun u1 hu1 h=>Ab (FV.as (FV.addU (a:=(shrU a0 32) * (a1 &&& (4294967295:UInt64))) (b:=shrU ((a0 &&& (4294967295:UInt64)) * (a1 &&& (4294967295:UInt64))) 32) rfl rfl) (congrArg (fun z:UInt64=>Value.int .u64 (z.toNat:Int)) (Option.some.inj hu1)))<|Ag rfl<|Aa<|Ac<|Ae rfl<|Ab (FV.andU (a:=u1) (b:=(4294967295:UInt64)) rfl rfl)<|Ag rfl<|Aa<|Ac<|Ae rfl<|Ab (FV.shrU (a:=u1) (j:=32) rfl rfl)<|Ag rfl<|Aa<|Ac<|Ae rfl<|Ae rfl<|Ae rfl ?_
 refine Ab (FV.mulU (a:=a0 &&& (4294967295:UInt64)) (b:=shrU a1 32) rfl rfl)<|Ab (FV.addU (a:=u1 &&& (4294967295:UInt64)) (b:=(a0 &&& (4294967295:UInt64)) * (shrU a1 32)) rfl rfl)<|Ag rfl<|Aa<|Ac<|Ae rfl<|Ae rfl<|Ab (FV.mulU (a:=shrU a0 32) (b:=shrU a1 32) rfl rfl)<|Ae rfl<|Ab (FV.addU (a:=(shrU a0 32) * (shrU a1 32)) (b:=shrU u1 32) rfl rfl)<|Ae rfl<|bk h fun u2 hu2 h=>Ab (FV.as (FV.shrU (a:=(u1 &&& (4294967295:UInt64)) + ((a0 &&& (4294967295:UInt64)) * (shrU a1 32))) (j:=32) rfl rfl) (congrArg (fun z:UInt64=>Value.int .u64 (z.toNat:Int)) (Option.some.inj hu2)))<|Ab (FV.addU (a:=((shrU a0 32) * (shrU a1 32)) + (shrU u1 32)) (b:=u2) rfl rfl)<|Ag rfl<|Aa<|Ac<|Ae rfl<|Ae rfl<|Ab (FV.mulU (a:=a0) (b:=a1) rfl rfl)<|Ag rfl<|Aa<|Ao rfl<|Ap hb0 func140 rfl (.cons (.tmp rfl) (.cons (.tmp rfl) .nil)) rfl ?_
 cases h
 exact hS0.gv
def aF_l1 (n:Nat) (a1:List UInt64) (s0:UInt64) (d0:Nat) (q0:UInt64 × Nat × (List UInt64) -> Option ((List UInt64) × UInt64)):UInt64 × Nat × (List UInt64) -> Option ((List UInt64) × UInt64)
  | (g0,b0,c0)=>(if b0 < a1.length then (a1[b0]?).bind fun t0=>(cb_p n s0 t0).bind fun j0=>(c0[d0 + b0]?).bind fun u0=>(add64 u0 j0.2 (0:UInt64)).bind fun k0=>(add64 k0.1 g0 (0:UInt64)).bind fun p0=>(put c0 ((d0 + b0:Nat):Int) p0.1).bind fun v0=>q0 ((j0.1 + k0.2) + p0.2,b0 + 1,v0) else some (c0,g0))
def aF_l2 (n:Nat) (a0:List UInt64) (a1:List UInt64) (g0:Nat × (List UInt64) -> Option (List UInt64)):Nat × (List UInt64) -> Option (List UInt64)
  | (b0,c0)=>(if b0 < a0.length then (a0[b0]?).bind fun k0=>Option.bind (ao (aF_l1 n a1 k0 b0) n (0,0,c0)) (fun (d0,j0)=>(d0[b0 + a1.length]?).bind fun _x490=>(put d0 ((b0 + a1.length:Nat):Int) j0).bind fun p0=>g0 (b0 + 1,p0)) else some c0)
def aF_p (n:Nat) (a0:List UInt64) (a1:List UInt64):Option (List UInt64):=
  (mk ((a0.length + a1.length:Nat):Int) (0:UInt64)).bind fun b0=>Option.bind (ao (aF_l2 n a0 a1) n (0,b0)) (fun c0=>some c0)
theorem aF_c (n:Nat) {L w} (hL:hl L w) {a0:List UInt64} {v0_0:Value} (h0_0:Rep.R w L [v0_0] a0) {a1:List UInt64} {v1_0:Value} (h1_0:Rep.R w L [v1_0] a1)  {r:List UInt64} (h:aF_p n a0 a1 = some r) :
 Cl 120 #[v0_0,v1_0] w (aj w fun w' u=>∃ v0_0:Value,u = v0_0/\Rep.R w' L [v0_0] r):=by
 unfold aF_p at h
 refine AG func120 rfl rfl rfl fun _ cs0 hb0=>Ac<|Ag rfl<|Aa<|Ac<|Ae rfl ?_
 have hl1:a0.length <= 281474976710656:=Bh h0_0
 refine Ab (Bl (xs:=a0) underlying120 rfl h0_0)<|Ae rfl ?_
 have hl2:a1.length <= 281474976710656:=Bh h1_0
 refine Ab (Bl (xs:=a1) underlying120 rfl h1_0)<|Ab (Bp (i:=a0.length) (j:=a1.length) rfl rfl (by omega))<|bk h fun R0 J0 h=>Ai .plain rfl (Does.mk (α:=UInt64) J0 (AB w) cC rfl) fun Q2 j0 z0 I2=>Ag rfl<|Aa<|Aj<|Ac<|Ae rfl<|Ab (Bl (xs:=a0) underlying120 rfl (AT h0_0 z0))<|Ae rfl<|Aa<|Ay ?_
 obtain ⟨M2,U1,I1⟩:=ax h
 refine MX.lf (α:=Nat × (List UInt64) × (List Value)) (fun ⟨b0,d0,k0⟩=>[(1,v1_0),(5,(.slice (some ⟨j0,0,none⟩) ((a0.length + a1.length:Nat):Int).toNat ((a0.length + a1.length:Nat):Int).toNat)),(22,v0_0),(23,vI ((a0.length:Nat):Int)),(24,vI ((b0:Nat):Int))]) (fun ⟨b0,d0,k0⟩=>[rr w 38 UInt64 (.slice (some ⟨j0,0,none⟩) ((a0.length + a1.length:Nat):Int).toNat ((a0.length + a1.length:Nat):Int).toNat) d0.length k0]) (fun ⟨b0,d0,k0⟩ K0=>Cells K0 (bl [rr w 38 UInt64 (.slice (some ⟨j0,0,none⟩) ((a0.length + a1.length:Nat):Int).toNat ((a0.length + a1.length:Nat):Int).toNat) d0.length k0] ++ L) k0 d0) (fun ⟨b0,d0,k0⟩=>(b0,d0)) (0,R0,(List.replicate ((a0.length + a1.length:Nat):Int).toNat [vW 0]).flatten) U1 z0 (AH (cs:=(List.replicate ((a0.length + a1.length:Nat):Int).toNat [vW 0]).flatten) (xs:=R0) z0 L (Cells.mk J0 rfl)) ?_
 rintro A2 ⟨b0,d0,k0⟩ K0 q1 t0 x1 F0 h
 unfold aF_l2 at h
 try dsimp only at h
 refine Ac<|Ab (Bn (i:=b0) (j:=a0.length) rfl rfl)<|Aa<|Aj<|AW rfl h (fun Z0 h=>?_) (fun Z0 h=>?_)
 refine Au<|Aj<|Ay<|Ac<|Ae rfl<|bk h fun D0 c2 h=>?_
 obtain ⟨y2,C2,C1,K1,c1,W1,P1⟩:=Br (AT h0_0 t0) c2
 have D1:c1 = [vU D0]:=W1; subst D1
 refine Ab (Bu 1 b0 rfl C1 rfl rfl K1)<|AU rfl (P1 0 _ rfl)<|Ag rfl<|Ag rfl<|Aa<|Ac<|Ag rfl<|Aa<|Aj<|Ac<|Ae rfl<|Ab (Bl (xs:=a1) underlying120 rfl (AT h1_0 t0))<|Ae rfl<|Aa<|Ay ?_
 obtain ⟨P2,V1,J1⟩:=ax h
 refine MX.lf (α:=UInt64 × Nat × (List UInt64) × (List Value)) (fun ⟨s0,c0,p0,q0⟩=>[(1,v1_0),(5,(.slice (some ⟨j0,0,none⟩) ((a0.length + a1.length:Nat):Int).toNat ((a0.length + a1.length:Nat):Int).toNat)),(22,v0_0),(23,vI ((a0.length:Nat):Int)),(24,vI ((b0:Nat):Int)),(6,vI ((b0:Nat):Int)),(7,vU D0),(8,vU s0),(29,v1_0),(30,vI ((a1.length:Nat):Int)),(31,vI ((c0:Nat):Int))]) (fun ⟨s0,c0,p0,q0⟩=>[rr w 38 UInt64 (.slice (some ⟨j0,0,none⟩) ((a0.length + a1.length:Nat):Int).toNat ((a0.length + a1.length:Nat):Int).toNat) p0.length q0]) (fun ⟨s0,c0,p0,q0⟩ M0=>Cells M0 (bl [rr w 38 UInt64 (.slice (some ⟨j0,0,none⟩) ((a0.length + a1.length:Nat):Int).toNat ((a0.length + a1.length:Nat):Int).toNat) p0.length q0] ++ L) q0 p0) (fun ⟨s0,c0,p0,q0⟩=>(s0,c0,p0)) (0,0,d0,k0) V1 t0 F0 ?_
 rintro B2 ⟨s0,c0,p0,q0⟩ M0 s1 g0 E0 v0 h
 unfold aF_l1 at h
 try dsimp only at h
 refine Ac<|Ab (Bn (i:=c0) (j:=a1.length) rfl rfl)<|Aa<|Aj<|AW rfl h (fun b1 h=>?_) (fun b1 h=>?_)
 refine Au<|Aj<|Ay<|Ac<|Ae rfl<|bk h fun P0 d2 h=>?_
 obtain ⟨z2,D2,E1,M1,d1,X1,Q1⟩:=Br (AT h1_0 g0) d2
 have F1:d1 = [vU P0]:=X1; subst F1
 refine Ab (Bu 1 c0 rfl E1 rfl rfl M1)<|AU rfl (Q1 0 _ rfl)<|Ag rfl<|Ag rfl<|Aa<|Ac<|Ae rfl<|Ae rfl<|bk h fun u0 q2 h=>Bi (.tuple #[vU u0.1,vU u0.2]) (bd 140) rfl (e2 rfl rfl) (fun p q=>cb_c n (g0.hL0 hL q) D0 P0 q2) rfl<|Ae rfl<|Ab (Ah rfl rfl)<|Ab (Ah rfl rfl)<|Ag rfl<|Ag rfl<|Aa<|Ac<|Ae rfl<|Ae rfl<|Ae rfl<|Ab (Bp (i:=b0) (j:=c0) rfl rfl (by omega))<|bk h fun Q0 g2 h=>?_
 obtain ⟨V0,E2,x0,C0,g1,Y1,R1⟩:=St.nth (α:=UInt64) g0 .hd v0 g2
 obtain ⟨X0,F2,G0⟩:=BC (α:=UInt64) g0 .hd C0
 obtain rfl:V0 = ⟨X0,0,none⟩:=by rw [G0] at x0; cases x0; rfl
 have G1:g1 = [vU Q0]:=Y1; subst G1
 refine Ab (Bu 1 (b0 + c0) rfl x0 rfl rfl C0)<|AU rfl (R1 0 _ rfl)<|Ae rfl<|bk h fun y0 s2 h=>Ab (FV.add64 (a:=Q0) (b:=u0.2) (c:=(0:UInt64)) func141 rfl rfl rfl rfl rfl rfl rfl s2)<|Ae rfl<|Ab (Ah rfl rfl)<|Ab (Ah rfl rfl)<|Ag rfl<|Ag rfl<|Aa<|Ac<|Ae rfl<|Ae rfl<|bk h fun U0 t2 h=>Ab (FV.add64 (a:=y0.1) (b:=s0) (c:=(0:UInt64)) func141 rfl rfl rfl rfl rfl rfl rfl t2)<|Ae rfl<|Ab (Ah rfl rfl)<|Ab (Ah rfl rfl)<|Ag rfl<|Ag rfl<|Aa<|Am<|Ae rfl<|Ae rfl<|Ae rfl<|Ab (Bp (i:=b0) (j:=c0) rfl rfl (by omega))<|Ae rfl<|Ae rfl<|Ae rfl<|Ab (FV.addU (a:=u0.1) (b:=y0.2) rfl rfl)<|Ae rfl<|Ab (FV.addU (a:=u0.1 + y0.2) (b:=U0.2) rfl rfl)<|Ab (Bu 1 (b0 + c0) rfl x0 rfl rfl C0)<|bk h fun v2 k2 h=>RG.acts' .plain (Acts.set (α:=UInt64) (i:=b0 + c0) k2 g0 G0 (fun _=>.hd) v0 rfl rfl rfl rfl rfl rfl) fun R2 ⟨j1,u1,y1,A1⟩=>Ag rfl<|Aa<|AE<|Am<|Ab (Bp (i:=c0) (j:=1) rfl rfl (by omega))<|Ae rfl<|Aa<|s1 ((u0.1 + y0.2) + U0.2,c0 + 1,v2,j1) u1 (Tt E0 y1) A1 h
 refine Bf rfl ?_
 have h:=J1 _ h
 try dsimp only at h
 refine Am<|Ae rfl<|Ae rfl<|Ae rfl<|Ab (Bl (xs:=a1) underlying120 rfl (AT h1_0 g0))<|Ab (Bp (i:=b0) (j:=a1.length) rfl rfl (by omega))<|Ae rfl<|bk h fun u2 j2 h=>?_
 obtain ⟨W0,G2,B0,I0,k1,Z1,K2⟩:=St.nth (α:=UInt64) g0 .hd v0 j2
 obtain ⟨Y0,H2,H0⟩:=BC (α:=UInt64) g0 .hd I0
 obtain rfl:W0 = ⟨Y0,0,none⟩:=by rw [H0] at B0; cases B0; rfl
 have H1:k1 = [vU u2]:=Z1; subst H1
 refine Ab (Bu 1 (b0 + a1.length) rfl B0 rfl rfl I0)<|bk h fun x2 p2 h=>RG.acts' .plain (Acts.set (α:=UInt64) (i:=b0 + a1.length) p2 g0 H0 (fun _=>.hd) v0 rfl rfl rfl rfl rfl rfl) fun U2 ⟨p1,v1,z1,B1⟩=>Aa<|AE<|Am<|Ab (Bp (i:=b0) (j:=1) rfl rfl (by omega))<|Ae rfl<|Aa<|q1 (b0 + 1,x2,p1) v1 (Tt x1 (Tt E0 z1)) B1 h
 refine Bf rfl ?_
 have h:=I1 _ h
 try dsimp only at h
 refine Ac<|Ae rfl<|Ag rfl<|Aa<|Ao rfl ?_
 have A0:=BI t0 .hd
 have J2:=BJ t0 .hd
 have b2:=BK (α:=UInt64) (v:=(.slice (some ⟨j0,0,none⟩) ((a0.length + a1.length:Nat):Int).toNat ((a0.length + a1.length:Nat):Int).toNat)) (xs:=d0) A0 L (Bv (α:=UInt64) t0 .hd F0 hL)
 refine Bc hb0 func120 rfl rfl ?_
 cases h
 exact ⟨A0.ag,fun p q=>⟨(.slice (some ⟨j0,0,none⟩) ((a0.length + a1.length:Nat):Int).toNat ((a0.length + a1.length:Nat):Int).toNat),rfl,A0.kd b2 q⟩⟩
def aq_p (n:Nat) (a0:Te) (a1:Te):Option Te:=
  (aF_p n a0.fo a1.fo).bind fun b0=>(ao_p n (!(a0.fe == a1.fe)) b0).bind fun c0=>some c0
theorem aq_c (n:Nat) {L w} (hL:hl L w) (a0:Te) {v0_1:Value} (h0_1:Rep.R w L [v0_1] a0.fo) (a1:Te) {v1_1:Value} (h1_1:Rep.R w L [v1_1] a1.fo)  {r:Te} (h:aq_p n a0 a1 = some r) :
 Cl 105 #[.agg #[.bool a0.fe,v0_1],.agg #[.bool a1.fe,v1_1]] w (aj w fun w' u=>∃ v0_1:Value,u = .agg #[.bool r.fe,v0_1]/\Rep.R w' L [v0_1] r.fo):=by
 unfold aq_p at h
 refine AG func105 rfl rfl rfl fun _ cs0 hb0=>Ac<|RG.bx (AB w) rfl rfl fun Q0 C0 s0 F0=>RG.bx s0 rfl rfl fun R0 D0 t0 G0=>RG.nl [.bool false,vN] t0 fun U0 E0 d0 H0=>Aa<|Aj<|du 11 fun b0 c0=>Rv 0 b0 rfl c0 (fun _=>AP 0 rfl)<|Rx 1 3088 b0 rfl c0 (AQ rfl ((d0.memA .t2) 0 _ rfl))<|Rv 2 b0 rfl c0 (fun _=>AP 0 rfl)<|Rx 3 3088 b0 rfl c0 (AQ rfl ((d0.memA .t1) 0 _ rfl))<|Rv 4 b0 rfl c0 (fun _=>FV.neqB (a:=a0.fe) (b:=a1.fe) underlying4 rfl rfl)<|Rv 5 b0 rfl c0 (fun _=>AP 1 rfl)<|Rx 6 3584 b0 rfl c0 (AQ rfl ((d0.memA .t2) 1 _ rfl))<|Rv 7 b0 rfl c0 (fun _=>AP 1 rfl)<|Rx 8 3584 b0 rfl c0 (AQ rfl ((d0.memA .t1) 1 _ rfl))<|bk h fun Y0 A0 h=>Bx 9 1023 b0 rfl .plain (bd 120) rfl (e2 rfl rfl) (fun p q=>aF_c n (d0.hL hL q) (d0.km h0_1 q) (d0.km h1_1 q) A0) rfl fun V0 M0 x0 ⟨K0,hu_,z0⟩=>?_
 subst hu_
 obtain ⟨k0,I0⟩:=d0.agr x0
 refine bk h fun q0 B0 h=>Bx 10 2047 b0 rfl .plain (bd 115) rfl (e2 rfl rfl) (fun p q=>ao_c n (k0.hL hL q) (Av z0 q) B0) rfl fun W0 P0 y0 ⟨j0,hu_,p0⟩=>?_
 subst hu_
 obtain ⟨u0,J0⟩:=k0.agr y0
 refine By 11 4095 b0 rfl rfl .plain (AA (news:=[.bool q0.fe,j0]) u0 .hd rfl rfl rfl rfl rfl rfl (o2 rfl (AZ p0))) fun X0 g0 v0=>AJ (dk b0)<|Ao rfl<|Ap hb0 func105 rfl (.cons (.many (cs:=[.bool q0.fe,j0]) rfl rfl (g0.memA .hd)) .nil) rfl ?_
 cases h
 exact ⟨g0.ag,fun p q=>⟨j0,rfl,g0.kd (Az p0 v0) q⟩⟩
def bB_p (n:Nat) (a0:Td) (a1:Td):Option Int:=
  (aq_p n a0.ft a1.fp).bind fun b0=>(aq_p n a1.ft a0.fp).bind fun c0=>(bJ_p n b0 c0).bind fun d0=>some d0
theorem bB_c (n:Nat) {L w} (hL:hl L w) (a0:Td) {v0_1:Value} (h0_1:Rep.R w L [v0_1] a0.ft.fo) {v0_3:Value} (h0_3:Rep.R w L [v0_3] a0.fp.fo) (a1:Td) {v1_1:Value} (h1_1:Rep.R w L [v1_1] a1.ft.fo) {v1_3:Value} (h1_3:Rep.R w L [v1_3] a1.fp.fo)  {r:Int} (h:bB_p n a0 a1 = some r) :
 Cl 82 #[.agg #[.bool a0.ft.fe,v0_1,.bool a0.fp.fe,v0_3],.agg #[.bool a1.ft.fe,v1_1,.bool a1.fp.fe,v1_3]] w (aj w fun _ u=>u = vI r):=by
 unfold bB_p at h
 refine AG func82 rfl rfl rfl fun _ cs0 hb0=>Ac<|RG.bx (AB w) rfl rfl fun M0 C0 k0 E0=>RG.bx k0 rfl rfl fun P0 D0 d0 F0=>Ag rfl<|Aa<|Aj<|du 12 fun b0 c0=>Rv 0 b0 rfl c0 (fun _=>AP 0 rfl)<|Rx 1 3600 b0 rfl c0 (AY (cs:=[.bool a0.ft.fe,v0_1]) rfl rfl (ae (d0.memA .t1) 0 2))<|Rv 2 b0 rfl c0 (fun _=>AP 2 rfl)<|Rx 3 3600 b0 rfl c0 (AY (cs:=[.bool a1.fp.fe,v1_3]) rfl rfl (ae (d0.memA .hd) 2 2))<|Rv 5 b0 rfl c0 (fun _=>AP 0 rfl)<|Rx 6 3584 b0 rfl c0 (AY (cs:=[.bool a1.ft.fe,v1_1]) rfl rfl (ae (d0.memA .hd) 0 2))<|Rv 7 b0 rfl c0 (fun _=>AP 2 rfl)<|Rx 8 3584 b0 rfl c0 (AY (cs:=[.bool a0.fp.fe,v0_3]) rfl rfl (ae (d0.memA .t1) 2 2))<|bk h fun z0 v0 h=>Bx 4 511 b0 rfl .plain (bd 105) rfl (e2 rfl rfl) (fun p q=>aq_c n (d0.hL hL q) a0.ft (d0.km h0_1 q) a1.fp (d0.km h1_3 q) v0) rfl fun Q0 J0 q0 ⟨H0,hu_,t0⟩=>?_
 subst hu_
 obtain ⟨g0,G0⟩:=d0.agr q0
 refine bk h fun A0 x0 h=>Bx 9 1023 b0 rfl .plain (bd 105) rfl (e2 rfl rfl) (fun p q=>aq_c n (g0.hL hL q) a1.ft (g0.km h1_1 q) a0.fp (g0.km h0_3 q) x0) rfl fun R0 K0 s0 ⟨I0,hu_,u0⟩=>?_
 subst hu_
 obtain ⟨j0,p0⟩:=g0.agr s0
 refine bk h fun B0 y0 h=>BD 10 2047 2048 (vI B0) b0 rfl c0 (bd 94) rfl (e2 rfl rfl) (fun p q=>bJ_c n (j0.hL0 hL q) z0 (j0.kd (Az t0 p0) q) A0 (j0.kd u0 q) y0) rfl<|Rv 11 b0 rfl c0 (fun _=>Ba rfl)<|AJ (dk b0)<|Ao rfl<|Bc hb0 func82 rfl rfl ?_
 cases h
 exact j0.gv
def bS_p (n:Nat) (a0:Td) (a1:Td):Option Td:=
  (bB_p n a0 a1).bind fun b0=>(if b0 <= 0 then some a0 else some a1)
theorem bS_c (n:Nat) {L w} (hL:hl L w) (a0:Td) {v0_1:Value} (h0_1:Rep.R w L [v0_1] a0.ft.fo) {v0_3:Value} (h0_3:Rep.R w L [v0_3] a0.fp.fo) (a1:Td) {v1_1:Value} (h1_1:Rep.R w L [v1_1] a1.ft.fo) {v1_3:Value} (h1_3:Rep.R w L [v1_3] a1.fp.fo)  {r:Td} (h:bS_p n a0 a1 = some r) :
 Cl 97 #[.agg #[.bool a0.ft.fe,v0_1,.bool a0.fp.fe,v0_3],.agg #[.bool a1.ft.fe,v1_1,.bool a1.fp.fe,v1_3]] w (aj w fun w' u=>∃ v0_1 v0_3:Value,u = .agg #[.bool r.ft.fe,v0_1,.bool r.fp.fe,v0_3]/\Rep.R w' L [v0_1] r.ft.fo/\Rep.R w' L [v0_3] r.fp.fo):=by
 unfold bS_p at h
 refine AG func97 rfl rfl rfl fun _ cs0 hb0=>Ac<|RG.bx (AB w) rfl rfl fun C0 t0 p0 x0=>RG.bx p0 rfl rfl fun D0 u0 q0 y0=>RG.nl [.bool false,vN,.bool false,vN] q0 fun E0 v0 b0 z0=>Aa<|Aj<|Ac<|Ab (AC rfl (b0.memA .t2))<|Ab (AC rfl (b0.memA .t1))<|bk h fun g0 s0 h=>Bi (vI g0) (bd 82) rfl (e2 rfl rfl) (fun p q=>bB_c n (b0.hL0 hL q) a0 (b0.k0 h0_1 q) (b0.k0 h0_3 q) a1 (b0.k0 h1_1 q) (b0.k0 h1_3 q) s0) rfl<|Ab (FV.leq (i:=g0) (j:=0) rfl rfl)<|Aa<|AW rfl h (fun j0 h=>?_) (fun j0 h=>?_)
 refine Ac<|Ab (AC rfl (b0.memA .t2))<|AS [.bool a0.ft.fe,v0_1,.bool a0.fp.fe,v0_3] b0 .hd (o4 rfl (AZ (AT h0_1 b0)) rfl (AZ (AT h0_3 b0))) fun F0 c0 A0=>Aa<|Ao rfl<|Ap hb0 func97 rfl (.cons (.many (cs:=[.bool a0.ft.fe,v0_1,.bool a0.fp.fe,v0_3]) rfl rfl (c0.memA .hd)) .nil) rfl ?_
 cases h
 exact ⟨c0.ag,fun p q=>⟨v0_1,v0_3,rfl,c0.k0 h0_1 q,c0.k0 h0_3 q⟩⟩
 refine Au<|Ac<|Ab (AC rfl (b0.memA .t1))<|AS [.bool a1.ft.fe,v1_1,.bool a1.fp.fe,v1_3] b0 .hd (o4 rfl (AZ (AT h1_1 b0)) rfl (AZ (AT h1_3 b0))) fun G0 d0 B0=>Aa<|Ao rfl<|Ap hb0 func97 rfl (.cons (.many (cs:=[.bool a1.ft.fe,v1_1,.bool a1.fp.fe,v1_3]) rfl rfl (d0.memA .hd)) .nil) rfl ?_
 cases h
 exact ⟨d0.ag,fun p q=>⟨v1_1,v1_3,rfl,d0.k0 h1_1 q,d0.k0 h1_3 q⟩⟩
def bM_p (n:Nat) (a0:Td) (a1:Td):Option Td:=
  (aA_p n a0).bind fun b0=>(aA_p n a1).bind fun c0=>(bS_p n b0 c0).bind fun d0=>(aA_p n d0).bind fun g0=>some g0
theorem bM_c (n:Nat) {L w} (hL:hl L w) (a0:Td) {v0_1:Value} (h0_1:Rep.R w L [v0_1] a0.ft.fo) {v0_3:Value} (h0_3:Rep.R w L [v0_3] a0.fp.fo) (a1:Td) {v1_1:Value} (h1_1:Rep.R w L [v1_1] a1.ft.fo) {v1_3:Value} (h1_3:Rep.R w L [v1_3] a1.fp.fo)  {r:Td} (h:bM_p n a0 a1 = some r) :
 Cl 69 #[.agg #[.bool a0.ft.fe,v0_1,.bool a0.fp.fe,v0_3],.agg #[.bool a1.ft.fe,v1_1,.bool a1.fp.fe,v1_3]] w (aj w fun w' u=>∃ v0_1 v0_3:Value,u = .agg #[.bool r.ft.fe,v0_1,.bool r.fp.fe,v0_3]/\Rep.R w' L [v0_1] r.ft.fo/\Rep.R w' L [v0_3] r.fp.fo):=by
 unfold bM_p at h
 refine AG func69 rfl rfl rfl fun _ cs0 hb0=>Ac<|RG.bx (AB w) rfl rfl fun D1 Y0 z0 c1=>RG.bx z0 rfl rfl fun E1 Z0 A0 d1=>RG.nl [.bool false,vN,.bool false,vN] A0 fun F1 b1 c0 g1=>Aa<|Aj<|du 6 fun b0 y0=>Rx 0 122 b0 rfl y0 (AC rfl (c0.memA .t2))<|Rx 2 120 b0 rfl y0 (AC rfl (c0.memA .t1))<|bk h fun V0 P0 h=>Bx 1 7 b0 rfl .plain (bd 70) rfl (e1 rfl) (fun p q=>aA_c n (c0.hL hL q) a0 (c0.km h0_1 q) (c0.km h0_3 q) P0) rfl fun G1 z1 C0 ⟨q1,s1,hu_,G0,H0⟩=>?_
 subst hu_
 obtain ⟨d0,j1⟩:=c0.agr C0
 refine bk h fun W0 Q0 h=>Bx 3 15 b0 rfl .plain (bd 70) rfl (e1 rfl) (fun p q=>aA_c n (d0.hL hL q) a1 (d0.km h1_1 q) (d0.km h1_3 q) Q0) rfl fun H1 A1 D0 ⟨u1,v1,hu_,I0,J0⟩=>?_
 subst hu_
 obtain ⟨q0,t0⟩:=d0.agr D0
 refine bk h fun X0 R0 h=>Bx 4 31 b0 rfl .plain (bd 97) rfl (e2 rfl rfl) (fun p q=>bS_c n (q0.hL hL q) V0 (Av (Az G0 t0) q) (Av (Az H0 t0) q) W0 (Av I0 q) (Av J0 q) R0) rfl fun I1 B1 E0 ⟨x1,y1,hu_,K0,M0⟩=>?_
 subst hu_
 obtain ⟨s0,k1⟩:=q0.agr E0
 refine bk h fun j0 U0 h=>Bx 5 63 b0 rfl .plain (bd 70) rfl (e1 rfl) (fun p q=>aA_c n (s0.hL hL q) X0 (Av K0 q) (Av M0 q) U0) rfl fun J1 C1 F0 ⟨k0,p0,hu_,v0,x0⟩=>?_
 subst hu_
 obtain ⟨B0,p1⟩:=s0.agr F0
 refine By 6 127 b0 rfl rfl .plain (AA (news:=[.bool j0.ft.fe,k0,.bool j0.fp.fe,p0]) B0 .hd rfl rfl rfl rfl rfl rfl (o4 rfl (AZ v0) rfl (AZ x0))) fun K1 g0 u0=>AJ (dk b0)<|Ao rfl<|Ap hb0 func69 rfl (.cons (.many (cs:=[.bool j0.ft.fe,k0,.bool j0.fp.fe,p0]) rfl rfl (g0.memA .hd)) .nil) rfl ?_
 cases h
 exact ⟨g0.ag,fun p q=>⟨k0,p0,rfl,g0.kd (Az v0 u0) q,g0.kd (Az x0 u0) q⟩⟩
def cw_p (n:Nat) (a0:Td) (_a1:Td):Option Td:=
  (aA_p n a0).bind fun b0=>(bM_p n a0 b0).bind fun c0=>some c0
theorem cw_c (n:Nat) {L w} (hL:hl L w) (a0:Td) {v0_1:Value} (h0_1:Rep.R w L [v0_1] a0.ft.fo) {v0_3:Value} (h0_3:Rep.R w L [v0_3] a0.fp.fo) (a1:Td) {v1_1:Value} (_h1_1:Rep.R w L [v1_1] a1.ft.fo) {v1_3:Value} (_h1_3:Rep.R w L [v1_3] a1.fp.fo)  {r:Td} (h:cw_p n a0 a1 = some r) :
 Cl 68 #[.agg #[.bool a0.ft.fe,v0_1,.bool a0.fp.fe,v0_3],.agg #[.bool a1.ft.fe,v1_1,.bool a1.fp.fe,v1_3]] w (aj w fun w' u=>∃ v0_1 v0_3:Value,u = .agg #[.bool r.ft.fe,v0_1,.bool r.fp.fe,v0_3]/\Rep.R w' L [v0_1] r.ft.fo/\Rep.R w' L [v0_3] r.fp.fo):=by
 unfold cw_p at h
 refine AG func68 rfl rfl rfl fun _ cs0 hb0=>Ac<|RG.bx (AB w) rfl rfl fun X0 G0 v0 J0=>RG.bx v0 rfl rfl fun Y0 H0 x0 K0=>RG.nl [.bool false,vN,.bool false,vN] x0 fun Z0 I0 b0 M0=>Aa<|Aj<|du 4 fun c0 u0=>Rx 0 24 c0 rfl u0 (AC rfl (b0.memA .t2))<|Rx 1 28 c0 rfl u0 (AC rfl (b0.memA .t2))<|bk h fun F0 D0 h=>Bx 2 7 c0 rfl .plain (bd 70) rfl (e1 rfl) (fun p q=>aA_c n (b0.hL hL q) a0 (b0.km h0_1 q) (b0.km h0_3 q) D0) rfl fun b1 V0 z0 ⟨R0,U0,hu_,B0,C0⟩=>?_
 subst hu_
 obtain ⟨d0,P0⟩:=b0.agr z0
 refine bk h fun j0 E0 h=>Bx 3 15 c0 rfl .plain (bd 69) rfl (e2 rfl rfl) (fun p q=>bM_c n (d0.hL hL q) a0 (d0.km h0_1 q) (d0.km h0_3 q) F0 (Av B0 q) (Av C0 q) E0) rfl fun c1 W0 A0 ⟨k0,p0,hu_,s0,t0⟩=>?_
 subst hu_
 obtain ⟨y0,Q0⟩:=d0.agr A0
 refine By 4 31 c0 rfl rfl .plain (AA (news:=[.bool j0.ft.fe,k0,.bool j0.fp.fe,p0]) y0 .hd rfl rfl rfl rfl rfl rfl (o4 rfl (AZ s0) rfl (AZ t0))) fun d1 g0 q0=>AJ (dk c0)<|Ao rfl<|Ap hb0 func68 rfl (.cons (.many (cs:=[.bool j0.ft.fe,k0,.bool j0.fp.fe,p0]) rfl rfl (g0.memA .hd)) .nil) rfl ?_
 cases h
 exact ⟨g0.ag,fun p q=>⟨k0,p0,rfl,g0.kd (Az s0 q0) q,g0.kd (Az t0 q0) q⟩⟩
theorem cN:ElT Tryz.prog 46 42 (Rep.size Ta) 128 (.agg zM) zL:=⟨underlying46,by kernel_rfl,rfl,rfl,rfl,rfl⟩
def cC_p (n:Nat) (a0:Ta):Option (Ta × Int):=
  (aC_p n ([a0,a0]:List Ta)).bind fun d0=>(if d0 = true then (aw_p n a0).bind fun g0=>(aw_p n a0).bind fun j0=>(cw_p n g0 j0).bind fun k0=>(aH_p n k0 (0:Int)).bind fun b0=>some (b0.1,b0.2) else (aH_p n (⟨(⟨false,([]:List UInt64)⟩:Te),(⟨false,([]:List UInt64)⟩:Te)⟩:Td) (20:Int)).bind fun c0=>some (c0.1,c0.2))
theorem cC_c (n:Nat) {L w} (hL:hl L w) (a0:Ta)  {r:Ta × Int} (h:cC_p n a0 = some r) :
 Cl 31 #[.agg ((aa a0)).toArray] w (aj w fun _ u=>u = .tuple #[.agg ((aa r.1)).toArray,vI r.2]):=by
 unfold cC_p at h
 refine AG func31 rfl rfl rfl fun _ cs0 hb0=>Ac<|RG.bx (AB w) rfl rfl fun b2 q1 I0 C1=>RG.nl zL I0 fun c2 s1 p0 D1=>Ag rfl<|Aa<|Ac<|Ab (AC rfl (p0.memA .t1))<|Ab (AC rfl (p0.memA .t1))<|Bk (fst:=[]) (cap:=[]) (vs:=[.agg ((aa a0)).toArray,.agg ((aa a0)).toArray,.func (.func 68) #[] #[]]) .plain (bd 67) func67 rfl rfl rfl rfl (e3 rfl rfl rfl) rfl fun A1 E0 Q1=>Ac<|RG.bx p0 rfl rfl fun d2 u1 J0 E1=>RG.bx J0 rfl rfl fun g2 v1 K0 F1=>RG.nl [.bool false,vN,.bool false,vN] K0 fun j2 x1 q0 G1=>Ag rfl<|Aa<|Aj<|Ac<|Ab (AC rfl (q0.memA .t2))<|Ab (AC rfl (q0.memA .t1))<|Ai .plain rfl (Bb (α:=Ta) (xs:=([a0,a0]:List Ta)) (vs:=[.agg ((aa a0)).toArray,.agg ((aa a0)).toArray]) (ds' :=(aa a0 ++ aa a0)) rfl q0 cN rfl (e2 rfl rfl) (by kernel_rfl) rfl) fun k2 y1 c0 H1=>bk h fun j1 Y0 h=>Bi (.bool j1) (bd 96) rfl (e1 rfl) (fun p q=>aC_c n (c0.hL0 hL q) (Av (St.lend (α:=Ta) (L:=L) c0 .hd (AH (cs:=(aa a0 ++ aa a0)) (xs:=(([a0,a0]:List Ta):List Ta)) c0 L (Ar (cs:=(aa a0)) (ds:=(aa a0)) (aU a0.fN a0.fD) (Ar (cs:=(aa a0)) (ds:=[]) (aU a0.fN a0.fD) (AR _ _)))) hL) q) Y0) rfl<|Ab (FV.not rfl)<|Aa<|MX.ifnb rfl h (fun H0 h=>?_) (fun H0 h=>?_)
 refine Au<|Aj<|du 6 fun b0 t0=>Rv 0 b0 rfl t0 (fun _=>Ak rfl)<|Rx 1 244 b0 rfl t0 (AC rfl (c0.memA .t3))<|Rx 3 240 b0 rfl t0 (AC rfl (c0.memA .t2))<|bk h fun k1 Z0 h=>Bx 2 15 b0 rfl .plain (bd 91) rfl (e1 rfl) (fun p q=>aw_c n (c0.hL hL q) a0 Z0) rfl fun p2 X1 P0 ⟨R1,U1,hu_,U0,V0⟩=>?_
 subst hu_
 obtain ⟨x0,I1⟩:=c0.agr P0
 refine bk h fun p1 b1 h=>Bx 4 31 b0 rfl .plain (bd 91) rfl (e1 rfl) (fun p q=>aw_c n (x0.hL hL q) a0 b1) rfl fun q2 Y1 Q0 ⟨V1,W1,hu_,W0,X0⟩=>?_
 subst hu_
 obtain ⟨y0,C0⟩:=x0.agr Q0
 refine bk h fun d0 c1 h=>Bx 5 63 b0 rfl .plain (bd 68) rfl (e2 rfl rfl) (fun p q=>cw_c n (y0.hL hL q) k1 (Av (Az U0 C0) q) (Av (Az V0 C0) q) p1 (Av W0 q) (Av X0 q) c1) rfl fun s2 Z1 R0 ⟨u0,v0,hu_,F0,G0⟩=>?_
 subst hu_
 obtain ⟨M0,J1⟩:=y0.agr R0
 refine By 6 127 b0 rfl rfl .plain (AA (news:=[.bool d0.ft.fe,u0,.bool d0.fp.fe,v0]) M0 .t1 rfl rfl rfl rfl rfl rfl (o4 rfl (AZ F0) rfl (AZ G0))) fun u2 g0 D0=>AM (i:=7) (rk b0) (Bd (m' :=255) (sk b0) rfl .plain rfl (Ba rfl) ?_)
 refine AJ (dk b0)<|Ao rfl<|Ap (u:=.tuple #[.agg #[.bool d0.ft.fe,u0,.bool d0.fp.fe,v0],vI 0]) E0 func67 rfl (.cons (.many (cs:=[.bool d0.ft.fe,u0,.bool d0.fp.fe,v0]) rfl rfl (g0.memA .t1)) (.cons (.tmp rfl) .nil)) rfl<|Ab (Ah rfl rfl)<|Ab (Ah rfl rfl)<|bk h fun j0 d1 h=>Bi (.tuple #[.agg ((aa j0.1)).toArray,vI j0.2]) (bd 66) rfl (e2 rfl rfl) (fun p q=>aH_c n (g0.hL0 hL q) d0 (g0.kd (Az F0 D0) q) (g0.kd (Az G0 D0) q) d1) rfl<|Ab (Ah rfl rfl)<|Ab (Ah rfl rfl)<|AS (aa j0.1) g0 .t4 (ah rfl) fun v2 z0 K1=>Ag rfl<|Aa<|Ao rfl<|Ap hb0 func31 rfl (.cons (.many (cs:=(aa j0.1)) rfl rfl (z0.memA .t4)) (.cons (.tmp rfl) .nil)) rfl ?_
 cases h
 exact z0.gv
 refine Ac<|RG.nl [.bool false,vN,.bool false,vN] c0 fun x2 z1 A0 M1=>Aa<|Ac<|Ab (AC rfl (A0.memA .hd))<|AS [.bool false,vN,.bool false,vN] A0 .t2 (ah rfl) fun y2 s0 P1=>Ag rfl<|Aa<|Ao rfl<|Ap (u:=.tuple #[.agg #[.bool false,vN,.bool false,vN],vI 20]) E0 func67 rfl (.cons (.many (cs:=[.bool false,vN,.bool false,vN]) rfl rfl (s0.memA .t2)) (.cons (.tmp rfl) .nil)) rfl<|Ab (Ah rfl rfl)<|Ab (Ah rfl rfl)<|bk h fun k0 g1 h=>Bi (.tuple #[.agg ((aa k0.1)).toArray,vI k0.2]) (bd 66) rfl (e2 rfl rfl) (fun p q=>aH_c n (s0.hL0 hL q) (⟨(⟨false,([]:List UInt64)⟩:Te),(⟨false,([]:List UInt64)⟩:Te)⟩:Td) (Av (Rep.nilSlice _ _) q) (Av (Rep.nilSlice _ _) q) g1) rfl<|Ab (Ah rfl rfl)<|Ab (Ah rfl rfl)<|AS (aa k0.1) s0 .t5 (ah rfl) fun z2 B0 B1=>Ag rfl<|Aa<|Ao rfl<|Ap hb0 func31 rfl (.cons (.many (cs:=(aa k0.1)) rfl rfl (B0.memA .t5)) (.cons (.tmp rfl) .nil)) rfl ?_
 cases h
 exact B0.gv
def bs_p (n:Nat) (a0:Te) (a1:Te):Option (Te × Te):=
  (az_p n a0.fo a1.fo).bind fun c0=>(ao_p n (!(a0.fe == a1.fe)) c0.1).bind fun d0=>(ao_p n a0.fe c0.2).bind fun b0=>(if b0.fe = true then (bg_p n b0 (⟨false,a1.fo⟩:Te)).bind fun j0=>(bg_p n d0 (⟨(!a1.fe),([(1:UInt64)]:List UInt64)⟩:Te)).bind fun g0=>some (g0,j0) else some (d0,b0))
theorem bs_c (n:Nat) {L w} (hL:hl L w) (a0:Te) {v0_1:Value} (h0_1:Rep.R w L [v0_1] a0.fo) (a1:Te) {v1_1:Value} (h1_1:Rep.R w L [v1_1] a1.fo)  {r:Te × Te} (h:bs_p n a0 a1 = some r) :
 Cl 121 #[.agg #[.bool a0.fe,v0_1],.agg #[.bool a1.fe,v1_1]] w (aj w fun w' u=>∃ v0_1 v1_1:Value,u = .tuple #[.agg #[.bool r.1.fe,v0_1],.agg #[.bool r.2.fe,v1_1]]/\Rep.R w' L [v0_1] r.1.fo/\Rep.R w' L [v1_1] r.2.fo):=by
 unfold bs_p at h
 refine AG func121 rfl rfl rfl fun _ cs0 hb0=>Ac<|RG.bx (AB w) rfl rfl fun x3 R2 K1 X2=>RG.bx K1 rfl rfl fun B3 U2 R1 Y2=>RG.nl [.bool false,vN] R1 fun C3 J0 U1 Z2=>RG.nl [.bool false,vN] U1 fun E3 K0 p0 b3=>Aa<|Ac<|Bg 1 rfl<|AU rfl ((p0.memA .t3) 1 _ rfl)<|Bg 1 rfl<|AU rfl ((p0.memA .t2) 1 _ rfl)<|bk h fun W3 G2 h=>jE (bd 110) rfl (e2 rfl rfl) (fun p q=>az_c n (p0.hL hL q) (p0.km h0_1 q) (p0.km h1_1 q) G2) rfl fun F3 k3 u2 ⟨d3,g3,hu_,C2,D2⟩=>?_
 subst hu_
 obtain ⟨D0,c3⟩:=p0.agr u2
 refine Ae rfl<|Ab (Ah rfl rfl)<|Ab (Ah rfl rfl)<|Ag rfl<|Ag rfl<|Aa<|Aj<|du 11 fun b0 d0=>Rv 0 b0 rfl d0 (fun _=>AP 0 rfl)<|Rx 1 7248 b0 rfl d0 (AQ rfl ((D0.memA .t3) 0 _ rfl))<|Rv 2 b0 rfl d0 (fun _=>AP 0 rfl)<|Rx 3 7248 b0 rfl d0 (AQ rfl ((D0.memA .t2) 0 _ rfl))<|Rv 4 b0 rfl d0 (fun _=>FV.neqB (a:=a0.fe) (b:=a1.fe) underlying4 rfl rfl)<|Rv 5 b0 rfl d0 (fun _=>Ak rfl)<|Rv 7 b0 rfl d0 (fun _=>AP 0 rfl)<|Rx 8 7168 b0 rfl d0 (AQ rfl ((D0.memA .t3) 0 _ rfl))<|Rv 9 b0 rfl d0 (fun _=>Ak rfl)<|bk h fun x0 H2 h=>Bx 6 1023 b0 rfl .plain (bd 115) rfl (e2 rfl rfl) (fun p q=>ao_c n (D0.hL hL q) (Av C2 q) H2) rfl fun G3 p3 v2 ⟨t0,hu_,G0⟩=>?_
 subst hu_
 obtain ⟨s1,p2⟩:=D0.agr v2
 refine bk h fun y0 I2 h=>Bx 10 2047 b0 rfl .plain (bd 115) rfl (e2 rfl rfl) (fun p q=>ao_c n (s1.hL hL q) (Av (Az D2 p2) q) I2) rfl fun H3 q3 x2 ⟨u0,hu_,X0⟩=>?_
 subst hu_
 obtain ⟨Y1,F0⟩:=s1.agr x2
 refine By 11 4095 b0 rfl rfl .plain (AA (news:=[.bool x0.fe,t0]) Y1 .t1 rfl rfl rfl rfl rfl rfl (o2 rfl (AZ (Az G0 F0)))) fun I3 Z1 k0=>By 12 8191 b0 rfl rfl .plain (AA (news:=[.bool y0.fe,u0]) Z1 .hd rfl rfl rfl rfl rfl rfl (o2 rfl (AZ (Az X0 k0)))) fun J3 c0 q0=>AJ (dk b0)<|Aj<|Ac<|Bg 0 rfl<|AU rfl ((c0.memA .hd) 0 _ rfl)<|Aa<|MX.ifb rfl h (fun I1 h=>?_) (fun I1 h=>?_)
 refine Ac<|Bg 1 rfl<|AU rfl ((c0.memA .t2) 1 _ rfl) ?_
 obtain ⟨P2,W2,E2,_⟩:=Rep.sl (AT h1_1 c0)
 refine Ab (AO (vs:=[v1_1]) (u:=.agg #[.bool false,v1_1]) (e1 rfl) (fun p=>by rw [E2]; try kernel_rfl))<|RG.nl [.bool false,vN] c0 fun K3 V2 u1 C1=>AS [.bool false,v1_1] u1 .hd (o2 rfl (AZ (AT h1_1 u1))) fun M3 E0 D1=>Aa<|Ac<|Ab (AC rfl (E0.memA .t1))<|Ab (AC rfl (E0.memA .hd))<|bk h fun I0 J2 h=>jE (bd 128) rfl (e2 rfl rfl) (fun p q=>bg_c n (E0.hL hL q) y0 (Av (Az X0 (Tt k0 (Tt q0 (Tt C1 D1)))) q) (⟨false,a1.fo⟩:Te) (E0.km h1_1 q) J2) rfl fun P3 s3 y2 ⟨v0,hu_,j1⟩=>?_
 subst hu_
 obtain ⟨b2,q2⟩:=E0.agr y2
 refine AS [.bool I0.fe,v0] b2 .t1 (o2 rfl (AZ j1)) fun Q3 v1 d1=>Aa<|Ac<|Bg 0 rfl<|AU rfl ((v1.memA .t3) 0 _ rfl)<|Ab (FV.not rfl)<|Ai .plain rfl (jA ((1:UInt64)) (vW 1) v1 cC (e1 rfl)) fun R3 M0 x1 g1=>Ab (AO (vs:=[.bool (!a1.fe),(vS M0 1)]) (u:=.agg #[.bool (!a1.fe),(vS M0 1)]) (e2 rfl rfl) (fun p=>by kernel_rfl))<|RG.nl [.bool false,vN] x1 fun u3 Q2 q1 R0=>AS [.bool (!a1.fe),(vS M0 1)] q1 .hd (o2 rfl (St.o1 (α:=UInt64) q1 .t1)) fun v3 z0 U0=>Aa<|Am<|Ab (AC rfl (z0.memA .t4))<|Ab (AC rfl (z0.memA .hd)) ?_
 have Y0:=BI z0 .t1
 have Z0:=BJ z0 .t1
 refine bk h fun H0 F2 h=>jE (bd 128) rfl (e2 rfl rfl) (fun p q=>bg_c n (Y0.hL hL q) x0 (Av (Az G0 (Tt F0 (Tt k0 (Tt q0 (Tt C1 (Tt D1 (Tt q2 (Tt d1 (Tt g1 (Tt R0 (Tt U0 Z0))))))))))) q) (⟨(!a1.fe),([(1:UInt64)]:List UInt64)⟩:Te) (Av (BK (α:=UInt64) (v:=(vS M0 1)) (xs:=([(1:UInt64)]:List UInt64)) Y0 L (Bv (α:=UInt64) z0 .t1 (AN (jC ((1:UInt64)) (vW 1) x1 L rfl) (Tt R0 U0)) hL)) q) F2) rfl fun y3 j3 s2 ⟨s0,hu_,W0⟩=>?_
 subst hu_
 obtain ⟨J1,y1⟩:=Y0.agr s2
 refine AS [.bool H0.fe,s0] J1 .t3 (o2 rfl (AZ W0)) fun z3 A0 V0=>Aa<|Aj<|du 2 fun g0 G1=>Rx 0 12 g0 rfl G1 (AC rfl (A0.memA .t3))<|RD.mo (α:=Unit) (fun ()=>[(4,vP J0),(5,vP K0),(46,.agg #[.bool I0.fe,v0])]) (fun ()=>[.cells K0 [.bool I0.fe,v0] 122,.cells J0 [.bool H0.fe,s0] 122]) A0 1 7 ?_ ?_
 rintro ⟨⟩ U3 M1 z1
 try dsimp only
 refine By 3 15 g0 rfl rfl .plain (AA (news:=[.bool I0.fe,v0]) M1 .hd rfl rfl rfl rfl rfl rfl (o2 rfl (AZ (Az j1 (Tt d1 (Tt g1 (Tt R0 (Tt U0 (Tt Z0 (Tt y1 (Tt V0 z1))))))))))) fun A3 B0 c2=>AJ (dk g0)<|Ao rfl<|Ap hb0 func121 rfl (.cons (.many (cs:=[.bool H0.fe,s0]) rfl rfl (B0.memA .t1)) (.cons (.many (cs:=[.bool I0.fe,v0]) rfl rfl (B0.memA .hd)) .nil)) rfl ?_
 cases h
 have E1:=Tt V0 (Tt z1 c2)
 exact ⟨B0.ag,fun p q=>⟨s0,v0,rfl,B0.kd (Az W0 E1) q,B0.kd (Az j1 (Tt d1 (Tt g1 (Tt R0 (Tt U0 (Tt Z0 (Tt y1 E1))))))) q⟩⟩
 intro k1
 refine BB [1,2] (rk g0) ⟨?_,?_,trivial⟩
 refine Bd (m' :=3) (sk g0) rfl .plain rfl (AC rfl (A0.memA .t2)) ?_
 have A2:=Az W0 V0
 refine By 2 7 g0 rfl rfl .plain (AA (news:=[.bool H0.fe,s0]) A0 .t3 rfl rfl rfl rfl rfl rfl (o2 rfl (AZ A2))) fun M2 Q0 c1=>?_
 obtain ⟨P1,d2⟩:=AF Q0 (.a2 (.a2 .done))
 exact k1 () P1 (Tt c1 d2)
 refine RO.now (m' :=5) (sk g0) rfl rfl .plain (AA (news:=[.bool H0.fe,s0]) A0 .t3 rfl rfl rfl rfl rfl rfl (o2 rfl (AZ (Az W0 V0)))) fun M2 Q0 c1=>Rx 1 8 g0 rfl G1 (AC rfl (Q0.memA .t2)) ?_
 obtain ⟨Q1,g2⟩:=AF Q0 (.a2 (.a2 .done))
 exact k1 () Q1 (Tt c1 g2)
 refine Au<|Aj<|du 2 fun j0 H1=>Rx 0 12 j0 rfl H1 (AC rfl (c0.memA .t1))<|RD.mo (α:=Unit) (fun ()=>[(4,vP J0),(5,vP K0),(46,.agg #[.bool y0.fe,u0])]) (fun ()=>[.cells K0 [.bool y0.fe,u0] 122,.cells J0 [.bool x0.fe,t0] 122]) c0 1 7 ?_ ?_
 rintro ⟨⟩ V3 V1 A1
 try dsimp only
 have F1:=Tt k0 (Tt q0 A1)
 refine By 3 15 j0 rfl rfl .plain (AA (news:=[.bool y0.fe,u0]) V1 .hd rfl rfl rfl rfl rfl rfl (o2 rfl (AZ (Az X0 F1)))) fun D3 C0 B1=>AJ (dk j0)<|Ao rfl<|Ap hb0 func121 rfl (.cons (.many (cs:=[.bool x0.fe,t0]) rfl rfl (C0.memA .t1)) (.cons (.many (cs:=[.bool y0.fe,u0]) rfl rfl (C0.memA .hd)) .nil)) rfl ?_
 cases h
 exact ⟨C0.ag,fun p q=>⟨t0,u0,rfl,C0.kd (Az G0 (Tt F0 (Tt k0 (Tt q0 (Tt A1 B1))))) q,C0.kd (Az X0 (Tt F1 B1)) q⟩⟩
 intro p1
 refine BB [1,2] (rk j0) ⟨?_,?_,trivial⟩
 refine Bd (m' :=3) (sk j0) rfl .plain rfl (AC rfl (c0.memA .hd)) ?_
 have B2:=Tt F0 (Tt k0 q0)
 have z2:=Az G0 B2
 refine By 2 7 j0 rfl rfl .plain (AA (news:=[.bool x0.fe,t0]) c0 .t1 rfl rfl rfl rfl rfl rfl (o2 rfl (AZ z2))) fun K2 P0 b1=>?_
 obtain ⟨W1,j2⟩:=AF P0 (.a0 (.a0 .done))
 exact p1 () W1 (Tt b1 j2)
 refine RO.now (m' :=5) (sk j0) rfl rfl .plain (AA (news:=[.bool x0.fe,t0]) c0 .t1 rfl rfl rfl rfl rfl rfl (o2 rfl (AZ (Az G0 (Tt F0 (Tt k0 q0)))))) fun K2 P0 b1=>Rx 1 8 j0 rfl H1 (AC rfl (P0.memA .hd)) ?_
 obtain ⟨X1,k2⟩:=AF P0 (.a0 (.a0 .done))
 exact p1 () X1 (Tt b1 k2)
def br_p (n:Nat) (a0:Te) (a1:Te):Option Td:=
  (av_p n a0 a1).bind fun c0=>(bs_p n a0 c0).bind fun d0=>(bs_p n a1 c0).bind fun b0=>(if b0.1.fe = true then (aV_p n d0.1).bind fun g0=>(aV_p n b0.1).bind fun j0=>some (⟨g0,j0⟩:Td) else some (⟨d0.1,b0.1⟩:Td))
theorem br_c (n:Nat) {L w} (hL:hl L w) (a0:Te) {v0_1:Value} (h0_1:Rep.R w L [v0_1] a0.fo) (a1:Te) {v1_1:Value} (h1_1:Rep.R w L [v1_1] a1.fo)  {r:Td} (h:br_p n a0 a1 = some r) :
 Cl 106 #[.agg #[.bool a0.fe,v0_1],.agg #[.bool a1.fe,v1_1]] w (aj w fun w' u=>∃ v0_1 v0_3:Value,u = .agg #[.bool r.ft.fe,v0_1,.bool r.fp.fe,v0_3]/\Rep.R w' L [v0_1] r.ft.fo/\Rep.R w' L [v0_3] r.fp.fo):=by
 unfold br_p at h
 refine AG func106 rfl rfl rfl fun _ cs0 hb0=>Ac<|RG.bx (AB w) rfl rfl fun k3 D2 z1 U2=>RG.bx z1 rfl rfl fun x3 E2 C1 V2=>RG.nl [.bool false,vN,.bool false,vN] C1 fun y3 F2 j0 W2=>Aa<|Ac<|Ab (AC rfl (j0.memA .t2))<|Ab (AC rfl (j0.memA .t1))<|bk h fun X0 q2 h=>jE (bd 93) rfl (e2 rfl rfl) (fun p q=>av_c n (j0.hL hL q) a0 (j0.km h0_1 q) a1 (j0.km h1_1 q) q2) rfl fun z3 b3 W1 ⟨v2,hu_,W0⟩=>?_
 subst hu_
 obtain ⟨D1,X2⟩:=j0.agr W1
 refine RG.nl [.bool false,vN] D1 fun A3 G2 E1 J0=>AS [.bool X0.fe,v2] E1 .hd (o2 rfl (AZ (Az W0 J0))) fun B3 t0 d1=>Aa<|Ac<|Ab (AC rfl (t0.memA .t3))<|Ab (AC rfl (t0.memA .hd))<|bk h fun d0 s2 h=>jE (bd 121) rfl (e2 rfl rfl) (fun p q=>bs_c n (t0.hL hL q) a0 (t0.km h0_1 q) X0 (Av (Az W0 (Tt J0 d1)) q) s2) rfl fun C3 c3 X1 ⟨q0,x2,hu_,F0,Z1⟩=>?_
 subst hu_
 obtain ⟨F1,R1⟩:=t0.agr X1
 refine Ae rfl<|Ab (Ah rfl rfl)<|Ab (Ah rfl rfl)<|RG.nl [.bool false,vN] F1 fun D3 H2 G1 K0=>RG.nl [.bool false,vN] G1 fun E3 I2 H1 M0=>AS [.bool d0.1.fe,q0] H1 .t1 (o2 rfl (AZ (Az F0 (Tt K0 M0)))) fun F3 I1 g1=>?_
 have R0:=Tt K0 (Tt M0 g1)
 refine AS [.bool d0.2.fe,x2] I1 .hd (o2 rfl (AZ (Az Z1 R0))) fun G3 u0 P0=>Aa<|Ac<|Ab (AC rfl (u0.memA .t4))<|Ab (AC rfl (u0.memA .t2))<|bk h fun g0 u2 h=>jE (bd 121) rfl (e2 rfl rfl) (fun p q=>bs_c n (u0.hL hL q) a1 (u0.km h1_1 q) X0 (Av (Az W0 (Tt J0 (Tt d1 (Tt R1 (Tt K0 (Tt M0 (Tt g1 P0))))))) q) u2) rfl fun H3 d3 Y1 ⟨s0,y2,hu_,G0,b2⟩=>?_
 subst hu_
 obtain ⟨J1,j1⟩:=u0.agr Y1
 refine Ae rfl<|Ab (Ah rfl rfl)<|Ab (Ah rfl rfl)<|RG.nl [.bool false,vN] J1 fun I3 J2 K1 C0=>RG.nl [.bool false,vN] K1 fun J3 K2 M1 D0=>AS [.bool g0.1.fe,s0] M1 .t1 (o2 rfl (AZ (Az G0 (Tt C0 D0)))) fun K3 P1 Q0=>?_
 have E0:=Tt C0 (Tt D0 Q0)
 refine AS [.bool g0.2.fe,y2] P1 .hd (o2 rfl (AZ (Az b2 E0))) fun g3 b0 v0=>Aa<|Aj<|Ac<|Bg 0 rfl<|AU rfl ((b0.memA .t1) 0 _ rfl)<|Aa<|MX.ifb rfl h (fun y1 h=>?_) (fun y1 h=>?_)
 refine du 4 fun c0 x1=>Rx 0 58 c0 rfl x1 (AC rfl (b0.memA .t3))<|Rx 2 56 c0 rfl x1 (AC rfl (b0.memA .t1))<|bk h fun x0 k2 h=>Bx 1 7 c0 rfl .plain (bd 98) rfl (e1 rfl) (fun p q=>aV_c n (b0.hL hL q) d0.1 (Av (Az F0 (Tt R0 (Tt P0 (Tt j1 (Tt C0 (Tt D0 (Tt Q0 v0))))))) q) k2) rfl fun j3 Y2 U1 ⟨k0,hu_,U0⟩=>?_
 subst hu_
 obtain ⟨Y0,Q1⟩:=b0.agr U1
 refine bk h fun y0 p2 h=>Bx 3 15 c0 rfl .plain (bd 98) rfl (e1 rfl) (fun p q=>aV_c n (Y0.hL hL q) g0.1 (Av (Az G0 (Tt E0 (Tt v0 Q1))) q) p2) rfl fun p3 Z2 V1 ⟨p0,hu_,V0⟩=>?_
 subst hu_
 obtain ⟨A1,Z0⟩:=Y0.agr V1
 refine By 4 31 c0 rfl rfl .plain (AA (news:=[.bool x0.fe,k0]) A1 .t3 rfl rfl rfl rfl rfl rfl (o2 rfl (AZ (Az U0 Z0)))) fun q3 B1 B0=>By 5 63 c0 rfl rfl .plain (AA (news:=[.bool y0.fe,p0]) B1 .t1 rfl rfl rfl rfl rfl rfl (o2 rfl (AZ (Az V0 B0)))) fun s3 H0 I0=>AJ (dk c0)<|Ac<|Ab (AC rfl (H0.memA .t3))<|Ab (AC rfl (H0.memA .t1)) ?_
 have u1:=Tt Z0 (Tt B0 I0)
 have k1:=Az U0 u1
 obtain ⟨z2,M2,c2,_⟩:=Rep.sl k1
 have p1:=Az V0 (Tt B0 I0)
 obtain ⟨A2,P2,d2,_⟩:=Rep.sl p1
 refine Ab (AO (vs:=[.agg #[.bool x0.fe,k0],.agg #[.bool y0.fe,p0]]) (u:=.agg #[.bool x0.fe,k0,.bool y0.fe,p0]) (e2 rfl rfl) (fun p=>by rw [c2,d2]; try kernel_rfl))<|AS [.bool x0.fe,k0,.bool y0.fe,p0] H0 .t5 (o4 rfl (AZ k1) rfl (AZ p1)) fun u3 z0 b1=>Aa<|Ao rfl<|Ap hb0 func106 rfl (.cons (.many (cs:=[.bool x0.fe,k0,.bool y0.fe,p0]) rfl rfl (z0.memA .t5)) .nil) rfl ?_
 cases h
 exact ⟨z0.ag,fun p q=>⟨k0,p0,rfl,z0.kd (Az U0 (Tt u1 b1)) q,z0.kd (Az V0 (Tt B0 (Tt I0 b1))) q⟩⟩
 refine Au<|Ac<|Ab (AC rfl (b0.memA .t3))<|Ab (AC rfl (b0.memA .t1)) ?_
 have v1:=Tt R0 (Tt P0 (Tt j1 (Tt C0 (Tt D0 (Tt Q0 v0)))))
 have q1:=Az F0 v1
 obtain ⟨B2,Q2,g2,_⟩:=Rep.sl q1
 have s1:=Az G0 (Tt E0 v0)
 obtain ⟨C2,R2,j2,_⟩:=Rep.sl s1
 refine Ab (AO (vs:=[.agg #[.bool d0.1.fe,q0],.agg #[.bool g0.1.fe,s0]]) (u:=.agg #[.bool d0.1.fe,q0,.bool g0.1.fe,s0]) (e2 rfl rfl) (fun p=>by rw [g2,j2]; try kernel_rfl))<|AS [.bool d0.1.fe,q0,.bool g0.1.fe,s0] b0 .t5 (o4 rfl (AZ q1) rfl (AZ s1)) fun v3 A0 c1=>Aa<|Ao rfl<|Ap hb0 func106 rfl (.cons (.many (cs:=[.bool d0.1.fe,q0,.bool g0.1.fe,s0]) rfl rfl (A0.memA .t5)) .nil) rfl ?_
 cases h
 exact ⟨A0.ag,fun p q=>⟨q0,s0,rfl,A0.kd (Az F0 (Tt v1 c1)) q,A0.kd (Az G0 (Tt E0 (Tt v0 c1))) q⟩⟩
def bC_p (n:Nat) (a0:Td) (a1:Td):Option Td:=
  (aq_p n a0.ft a1.fp).bind fun b0=>(aq_p n a1.ft a0.fp).bind fun c0=>(bg_p n b0 c0).bind fun d0=>(aq_p n a0.fp a1.fp).bind fun g0=>(br_p n d0 g0).bind fun j0=>some j0
theorem bC_c (n:Nat) {L w} (hL:hl L w) (a0:Td) {v0_1:Value} (h0_1:Rep.R w L [v0_1] a0.ft.fo) {v0_3:Value} (h0_3:Rep.R w L [v0_3] a0.fp.fo) (a1:Td) {v1_1:Value} (h1_1:Rep.R w L [v1_1] a1.ft.fo) {v1_3:Value} (h1_3:Rep.R w L [v1_3] a1.fp.fo)  {r:Td} (h:bC_p n a0 a1 = some r) :
 Cl 116 #[.agg #[.bool a0.ft.fe,v0_1,.bool a0.fp.fe,v0_3],.agg #[.bool a1.ft.fe,v1_1,.bool a1.fp.fe,v1_3]] w (aj w fun w' u=>∃ v0_1 v0_3:Value,u = .agg #[.bool r.ft.fe,v0_1,.bool r.fp.fe,v0_3]/\Rep.R w' L [v0_1] r.ft.fo/\Rep.R w' L [v0_3] r.fp.fo):=by
 unfold bC_p at h
 refine AG func116 rfl rfl rfl fun _ cs0 hb0=>Ac<|RG.bx (AB w) rfl rfl fun F1 c1 z0 j1=>RG.bx z0 rfl rfl fun G1 d1 A0 k1=>RG.nl [.bool false,vN,.bool false,vN] A0 fun H1 g1 d0 p1=>Aa<|Aj<|du 17 fun b0 c0=>Rv 0 b0 rfl c0 (fun _=>AP 0 rfl)<|Rx 1 230928 b0 rfl c0 (AY (cs:=[.bool a0.ft.fe,v0_1]) rfl rfl (ae (d0.memA .t2) 0 2))<|Rv 2 b0 rfl c0 (fun _=>AP 2 rfl)<|Rx 3 230928 b0 rfl c0 (AY (cs:=[.bool a1.fp.fe,v1_3]) rfl rfl (ae (d0.memA .t1) 2 2))<|Rv 5 b0 rfl c0 (fun _=>AP 0 rfl)<|Rx 6 230912 b0 rfl c0 (AY (cs:=[.bool a1.ft.fe,v1_1]) rfl rfl (ae (d0.memA .t1) 0 2))<|Rv 7 b0 rfl c0 (fun _=>AP 2 rfl)<|Rx 8 230912 b0 rfl c0 (AY (cs:=[.bool a0.fp.fe,v0_3]) rfl rfl (ae (d0.memA .t2) 2 2))<|Rv 11 b0 rfl c0 (fun _=>AP 2 rfl)<|Rx 12 229376 b0 rfl c0 (AY (cs:=[.bool a0.fp.fe,v0_3]) rfl rfl (ae (d0.memA .t2) 2 2))<|Rv 13 b0 rfl c0 (fun _=>AP 2 rfl)<|Rx 14 229376 b0 rfl c0 (AY (cs:=[.bool a1.fp.fe,v1_3]) rfl rfl (ae (d0.memA .t1) 2 2))<|bk h fun X0 Q0 h=>Bx 4 31231 b0 rfl .plain (bd 105) rfl (e2 rfl rfl) (fun p q=>aq_c n (d0.hL hL q) a0.ft (d0.km h0_1 q) a1.fp (d0.km h1_3 q) Q0) rfl fun I1 A1 E0 ⟨v1,hu_,J0⟩=>?_
 subst hu_
 obtain ⟨g0,q1⟩:=d0.agr E0
 refine bk h fun Y0 R0 h=>Bx 9 31743 b0 rfl .plain (bd 105) rfl (e2 rfl rfl) (fun p q=>aq_c n (g0.hL hL q) a1.ft (g0.km h1_1 q) a0.fp (g0.km h0_3 q) R0) rfl fun J1 B1 F0 ⟨x1,hu_,K0⟩=>?_
 subst hu_
 obtain ⟨t0,C0⟩:=g0.agr F0
 refine bk h fun Z0 U0 h=>Bx 10 32767 b0 rfl .plain (bd 128) rfl (e2 rfl rfl) (fun p q=>bg_c n (t0.hL hL q) X0 (Av (Az J0 C0) q) Y0 (Av K0 q) U0) rfl fun K1 C1 G0 ⟨y1,hu_,M0⟩=>?_
 subst hu_
 obtain ⟨j0,s1⟩:=t0.agr G0
 refine bk h fun b1 V0 h=>Bx 15 65535 b0 rfl .plain (bd 105) rfl (e2 rfl rfl) (fun p q=>aq_c n (j0.hL hL q) a0.fp (j0.km h0_3 q) a1.fp (j0.km h1_3 q) V0) rfl fun M1 D1 H0 ⟨z1,hu_,P0⟩=>?_
 subst hu_
 obtain ⟨u0,D0⟩:=j0.agr H0
 refine bk h fun p0 W0 h=>Bx 16 131071 b0 rfl .plain (bd 106) rfl (e2 rfl rfl) (fun p q=>br_c n (u0.hL hL q) Z0 (Av (Az M0 D0) q) b1 (Av P0 q) W0) rfl fun P1 E1 I0 ⟨q0,s0,hu_,x0,y0⟩=>?_
 subst hu_
 obtain ⟨B0,u1⟩:=u0.agr I0
 refine By 17 262143 b0 rfl rfl .plain (AA (news:=[.bool p0.ft.fe,q0,.bool p0.fp.fe,s0]) B0 .hd rfl rfl rfl rfl rfl rfl (o4 rfl (AZ x0) rfl (AZ y0))) fun Q1 k0 v0=>AJ (dk b0)<|Ao rfl<|Ap hb0 func116 rfl (.cons (.many (cs:=[.bool p0.ft.fe,q0,.bool p0.fp.fe,s0]) rfl rfl (k0.memA .hd)) .nil) rfl ?_
 cases h
 exact ⟨k0.ag,fun p q=>⟨q0,s0,rfl,k0.kd (Az x0 v0) q,k0.kd (Az y0 v0) q⟩⟩
def bV_p (n:Nat) (a0:Td) (a1:Td):Option Td:=
  (aA_p n a1).bind fun b0=>(bC_p n a0 b0).bind fun c0=>some c0
theorem bV_c (n:Nat) {L w} (hL:hl L w) (a0:Td) {v0_1:Value} (h0_1:Rep.R w L [v0_1] a0.ft.fo) {v0_3:Value} (h0_3:Rep.R w L [v0_3] a0.fp.fo) (a1:Td) {v1_1:Value} (h1_1:Rep.R w L [v1_1] a1.ft.fo) {v1_3:Value} (h1_3:Rep.R w L [v1_3] a1.fp.fo)  {r:Td} (h:bV_p n a0 a1 = some r) :
 Cl 99 #[.agg #[.bool a0.ft.fe,v0_1,.bool a0.fp.fe,v0_3],.agg #[.bool a1.ft.fe,v1_1,.bool a1.fp.fe,v1_3]] w (aj w fun w' u=>∃ v0_1 v0_3:Value,u = .agg #[.bool r.ft.fe,v0_1,.bool r.fp.fe,v0_3]/\Rep.R w' L [v0_1] r.ft.fo/\Rep.R w' L [v0_3] r.fp.fo):=by
 unfold bV_p at h
 refine AG func99 rfl rfl rfl fun _ cs0 hb0=>Ac<|RG.bx (AB w) rfl rfl fun X0 G0 v0 J0=>RG.bx v0 rfl rfl fun Y0 H0 x0 K0=>RG.nl [.bool false,vN,.bool false,vN] x0 fun Z0 I0 b0 M0=>Aa<|Aj<|du 4 fun c0 u0=>Rx 0 24 c0 rfl u0 (AC rfl (b0.memA .t2))<|Rx 1 28 c0 rfl u0 (AC rfl (b0.memA .t1))<|bk h fun F0 D0 h=>Bx 2 7 c0 rfl .plain (bd 70) rfl (e1 rfl) (fun p q=>aA_c n (b0.hL hL q) a1 (b0.km h1_1 q) (b0.km h1_3 q) D0) rfl fun b1 V0 z0 ⟨R0,U0,hu_,B0,C0⟩=>?_
 subst hu_
 obtain ⟨d0,P0⟩:=b0.agr z0
 refine bk h fun j0 E0 h=>Bx 3 15 c0 rfl .plain (bd 116) rfl (e2 rfl rfl) (fun p q=>bC_c n (d0.hL hL q) a0 (d0.km h0_1 q) (d0.km h0_3 q) F0 (Av B0 q) (Av C0 q) E0) rfl fun c1 W0 A0 ⟨k0,p0,hu_,s0,t0⟩=>?_
 subst hu_
 obtain ⟨y0,Q0⟩:=d0.agr A0
 refine By 4 31 c0 rfl rfl .plain (AA (news:=[.bool j0.ft.fe,k0,.bool j0.fp.fe,p0]) y0 .hd rfl rfl rfl rfl rfl rfl (o4 rfl (AZ s0) rfl (AZ t0))) fun d1 g0 q0=>AJ (dk c0)<|Ao rfl<|Ap hb0 func99 rfl (.cons (.many (cs:=[.bool j0.ft.fe,k0,.bool j0.fp.fe,p0]) rfl rfl (g0.memA .hd)) .nil) rfl ?_
 cases h
 exact ⟨g0.ag,fun p q=>⟨k0,p0,rfl,g0.kd (Az s0 q0) q,g0.kd (Az t0 q0) q⟩⟩
def cx_p (n:Nat) (a0:Ta) (a1:Ta):Option (Ta × Int):=
  (aC_p n ([a0,a1]:List Ta)).bind fun d0=>(if d0 = true then (aw_p n a0).bind fun g0=>(aw_p n a1).bind fun j0=>(bV_p n g0 j0).bind fun k0=>(aH_p n k0 (0:Int)).bind fun c0=>some (c0.1,c0.2) else (aH_p n (⟨(⟨false,([]:List UInt64)⟩:Te),(⟨false,([]:List UInt64)⟩:Te)⟩:Td) (20:Int)).bind fun b0=>some (b0.1,b0.2))
theorem cx_c (n:Nat) {L w} (hL:hl L w) (a0:Ta) (a1:Ta)  {r:Ta × Int} (h:cx_p n a0 a1 = some r) :
 Cl 71 #[.agg ((aa a0)).toArray,.agg ((aa a1)).toArray] w (aj w fun _ u=>u = .tuple #[.agg ((aa r.1)).toArray,vI r.2]):=by
 unfold cx_p at h
 refine AG func71 rfl rfl rfl fun _ cs0 hb0=>Ac<|RG.bx (AB w) rfl rfl fun j2 s1 I0 F1=>RG.bx I0 rfl rfl fun k2 u1 J0 G1=>RG.nl zL J0 fun p2 v1 q0 H1=>Ag rfl<|Aa<|Ac<|Ab (AC rfl (q0.memA .t2))<|Ab (AC rfl (q0.memA .t1))<|Bk (fst:=[]) (cap:=[]) (vs:=[.agg ((aa a0)).toArray,.agg ((aa a1)).toArray,.func (.func 99) #[] #[]]) .plain (bd 67) func67 rfl rfl rfl rfl (e3 rfl rfl rfl) rfl fun C1 E0 V1=>Ac<|RG.bx q0 rfl rfl fun q2 x1 K0 I1=>RG.bx K0 rfl rfl fun s2 y1 M0 J1=>RG.nl [.bool false,vN,.bool false,vN] M0 fun u2 z1 s0 K1=>Ag rfl<|Aa<|Aj<|Ac<|Ab (AC rfl (s0.memA .t2))<|Ab (AC rfl (s0.memA .t1))<|Ai .plain rfl (Bb (α:=Ta) (xs:=([a0,a1]:List Ta)) (vs:=[.agg ((aa a0)).toArray,.agg ((aa a1)).toArray]) (ds' :=(aa a0 ++ aa a1)) rfl s0 cN rfl (e2 rfl rfl) (by kernel_rfl) rfl) fun v2 A1 c0 M1=>?_
 refine bk h fun k1 b1 h=>Bi (.bool k1) (bd 96) rfl (e1 rfl) (fun p q=>aC_c n (c0.hL0 hL q) (Av (St.lend (α:=Ta) (L:=L) c0 .hd (AH (cs:=(aa a0 ++ aa a1)) (xs:=(([a0,a1]:List Ta):List Ta)) c0 L (Ar (cs:=(aa a0)) (ds:=(aa a1)) (aU a0.fN a0.fD) (Ar (cs:=(aa a1)) (ds:=[]) (aU a1.fN a1.fD) (AR _ _)))) hL) q) b1) rfl<|Ab (FV.not rfl)<|Aa<|MX.ifnb rfl h (fun H0 h=>?_) (fun H0 h=>?_)
 refine Au<|Aj<|du 6 fun b0 t0=>Rv 0 b0 rfl t0 (fun _=>Ak rfl)<|Rx 1 244 b0 rfl t0 (AC rfl (c0.memA .t3))<|Rx 3 240 b0 rfl t0 (AC rfl (c0.memA .t2))<|bk h fun p1 c1 h=>Bx 2 15 b0 rfl .plain (bd 91) rfl (e1 rfl) (fun p q=>aw_c n (c0.hL hL q) a0 c1) rfl fun x2 b2 Q0 ⟨W1,X1,hu_,V0,W0⟩=>?_
 subst hu_
 obtain ⟨y0,P1⟩:=c0.agr Q0
 refine bk h fun q1 d1 h=>Bx 4 31 b0 rfl .plain (bd 91) rfl (e1 rfl) (fun p q=>aw_c n (y0.hL hL q) a1 d1) rfl fun y2 c2 R0 ⟨Y1,Z1,hu_,X0,Y0⟩=>?_
 subst hu_
 obtain ⟨z0,C0⟩:=y0.agr R0
 refine bk h fun d0 g1 h=>Bx 5 63 b0 rfl .plain (bd 99) rfl (e2 rfl rfl) (fun p q=>bV_c n (z0.hL hL q) p1 (Av (Az V0 C0) q) (Av (Az W0 C0) q) q1 (Av X0 q) (Av Y0 q) g1) rfl fun z2 d2 U0 ⟨u0,v0,hu_,F0,G0⟩=>?_
 subst hu_
 obtain ⟨P0,Q1⟩:=z0.agr U0
 refine By 6 127 b0 rfl rfl .plain (AA (news:=[.bool d0.ft.fe,u0,.bool d0.fp.fe,v0]) P0 .t1 rfl rfl rfl rfl rfl rfl (o4 rfl (AZ F0) rfl (AZ G0))) fun A2 g0 D0=>AM (i:=7) (rk b0) (Bd (m' :=255) (sk b0) rfl .plain rfl (Ba rfl) ?_)
 refine AJ (dk b0)<|Ao rfl<|Ap (u:=.tuple #[.agg #[.bool d0.ft.fe,u0,.bool d0.fp.fe,v0],vI 0]) E0 func67 rfl (.cons (.many (cs:=[.bool d0.ft.fe,u0,.bool d0.fp.fe,v0]) rfl rfl (g0.memA .t1)) (.cons (.tmp rfl) .nil)) rfl<|Ab (Ah rfl rfl)<|Ab (Ah rfl rfl)<|bk h fun k0 j1 h=>Bi (.tuple #[.agg ((aa k0.1)).toArray,vI k0.2]) (bd 66) rfl (e2 rfl rfl) (fun p q=>aH_c n (g0.hL0 hL q) d0 (g0.kd (Az F0 D0) q) (g0.kd (Az G0 D0) q) j1) rfl<|Ab (Ah rfl rfl)<|Ab (Ah rfl rfl)<|AS (aa k0.1) g0 .t4 (ah rfl) fun B2 A0 R1=>Ag rfl<|Aa<|Ao rfl<|Ap hb0 func71 rfl (.cons (.many (cs:=(aa k0.1)) rfl rfl (A0.memA .t4)) (.cons (.tmp rfl) .nil)) rfl ?_
 cases h
 exact A0.gv
 refine Ac<|RG.nl [.bool false,vN,.bool false,vN] c0 fun C2 B1 B0 U1=>Aa<|Ac<|Ab (AC rfl (B0.memA .hd))<|AS [.bool false,vN,.bool false,vN] B0 .t2 (ah rfl) fun D2 p0 D1=>Ag rfl<|Aa<|Ao rfl<|Ap (u:=.tuple #[.agg #[.bool false,vN,.bool false,vN],vI 20]) E0 func67 rfl (.cons (.many (cs:=[.bool false,vN,.bool false,vN]) rfl rfl (p0.memA .t2)) (.cons (.tmp rfl) .nil)) rfl<|Ab (Ah rfl rfl)<|Ab (Ah rfl rfl)<|bk h fun j0 Z0 h=>Bi (.tuple #[.agg ((aa j0.1)).toArray,vI j0.2]) (bd 66) rfl (e2 rfl rfl) (fun p q=>aH_c n (p0.hL0 hL q) (⟨(⟨false,([]:List UInt64)⟩:Te),(⟨false,([]:List UInt64)⟩:Te)⟩:Td) (Av (Rep.nilSlice _ _) q) (Av (Rep.nilSlice _ _) q) Z0) rfl<|Ab (Ah rfl rfl)<|Ab (Ah rfl rfl)<|AS (aa j0.1) p0 .t5 (ah rfl) fun g2 x0 E1=>Ag rfl<|Aa<|Ao rfl<|Ap hb0 func71 rfl (.cons (.many (cs:=(aa j0.1)) rfl rfl (x0.memA .t5)) (.cons (.tmp rfl) .nil)) rfl ?_
 cases h
 exact x0.gv
def aZ_p (n:Nat) (a0:Ta) (a1:Ta):Option (Except Tc Ta):=
  (cx_p n a0 a1).bind fun b0=>(ae_p n b0.1 b0.2).bind fun d0=>exc d0 (fun g0=>some (.ok g0)) (fun c0=>some (.error c0))
theorem aZ_c (n:Nat) {L w} (hL:hl L w) (a0:Ta) (a1:Ta)  {r:Except Tc Ta} (h:aZ_p n a0 a1 = some r) :
 Cl 32 #[.agg ((aa a0)).toArray,.agg ((aa a1)).toArray] w (aD w (fun (y:Ta) _ u=>u = .agg ((aa y)).toArray) (fun e=>.iface 116 (.agg #[vI e.fB])) r):=by
 unfold aZ_p at h
 refine BF func32 rfl rfl rfl fun _ cs0 hb0 hp0=>Ac<|RG.bx (AB w) rfl rfl fun E0 u0 k0 z0=>RG.bx k0 rfl rfl fun F0 v0 p0 A0=>RG.nl zL p0 fun G0 x0 b0 B0=>Aa<|Ac<|Ab (AC rfl (b0.memA .t2))<|Ab (AC rfl (b0.memA .t1))<|bk h fun c0 t0 h=>Bi (.tuple #[.agg ((aa c0.1)).toArray,vI c0.2]) (bd 71) rfl (e2 rfl rfl) (fun p q=>cx_c n (b0.hL0 hL q) a0 a1 t0) rfl<|Ab (Ah rfl rfl)<|Ab (Ah rfl rfl)<|xk h (fun y0 d0 h=>?_) (fun g0 d0 h=>?_)
 refine Bo (fst:=[]) (cap:=[]) .plain (bd 30) rfl (e2 rfl rfl) (fun p q=>ae_c n (b0.hL0 hL q) c0.1 d0) fun H0 s0=>?_
 obtain ⟨q0,C0⟩:=b0.agr s0
 cases h
 exact Aq hp0 func32 ⟨q0.ag,rfl⟩
 refine Bi (.agg ((aa g0)).toArray) (bd 30) rfl (e2 rfl rfl) (fun p q=>AI (ae_c n (b0.hL0 hL q) c0.1 d0)) rfl<|AS (aa g0) b0 .hd (ah rfl) fun I0 j0 D0=>Aa<|Ao rfl<|Ap hb0 func32 rfl (.cons (.many (cs:=(aa g0)) rfl rfl (j0.memA .hd)) .nil) rfl ?_
 cases h
 exact ⟨j0.ag,fun p q=>ay rfl⟩

theorem jv {a b:U8} (h0:a.1 = b.1) (h1:a.2.1 = b.2.1) (h2:a.2.2.1 = b.2.2.1) (h3:a.2.2.2.1 = b.2.2.2.1) (h4:a.2.2.2.2.1 = b.2.2.2.2.1) (h5:a.2.2.2.2.2.1 = b.2.2.2.2.2.1) (h6:a.2.2.2.2.2.2.1 = b.2.2.2.2.2.2.1) (h7:a.2.2.2.2.2.2.2 = b.2.2.2.2.2.2.2):a = b:=Prod.ext h0 (Prod.ext h1 (Prod.ext h2 (Prod.ext h3 (Prod.ext h4 (Prod.ext h5 (Prod.ext h6 (h7)))))))
theorem kA (a b:U8) (p:World):(do eqGuard .eql 40 (.tmp 0) (.tmp 0) (.agg #[vU a.1,vU a.2.1,vU a.2.2.1,vU a.2.2.2.1,vU a.2.2.2.2.1,vU a.2.2.2.2.2.1,vU a.2.2.2.2.2.2.1,vU a.2.2.2.2.2.2.2]) (.agg #[vU b.1,vU b.2.1,vU b.2.2.1,vU b.2.2.2.1,vU b.2.2.2.2.1,vU b.2.2.2.2.2.1,vU b.2.2.2.2.2.2.1,vU b.2.2.2.2.2.2.2]); binOp .eql 40 (.agg #[vU a.1,vU a.2.1,vU a.2.2.1,vU a.2.2.2.1,vU a.2.2.2.2.1,vU a.2.2.2.2.2.1,vU a.2.2.2.2.2.2.1,vU a.2.2.2.2.2.2.2]) (.agg #[vU b.1,vU b.2.1,vU b.2.2.1,vU b.2.2.2.1,vU b.2.2.2.2.1,vU b.2.2.2.2.2.1,vU b.2.2.2.2.2.2.1,vU b.2.2.2.2.2.2.2]):Sem Value).run Tryz.prog p = .ok (.bool (decide (a = b))) p:=
  eqAgg (ks:=[.int .u64,.int .u64,.int .u64,.int .u64,.int .u64,.int .u64,.int .u64,.int .u64]) (xs:=[vU a.1,vU a.2.1,vU a.2.2.1,vU a.2.2.2.1,vU a.2.2.2.2.1,vU a.2.2.2.2.2.1,vU a.2.2.2.2.2.2.1,vU a.2.2.2.2.2.2.2]) (ys:=[vU b.1,vU b.2.1,vU b.2.2.1,vU b.2.2.2.1,vU b.2.2.2.2.1,vU b.2.2.2.2.2.1,vU b.2.2.2.2.2.2.1,vU b.2.2.2.2.2.2.2]) (by kernel_rfl) (by kernel_rfl) (by kernel_rfl) rfl rfl ⟨fun h=>by
    simp only [bA,veq,Bool.and_eq_true,beq_iff_eq,and_true] at h
    obtain ⟨h0,h1,h2,h3,h4,h5,h6,h7⟩:=h
    exact jv (aw h0) (aw h1) (aw h2) (aw h3) (aw h4) (aw h5) (aw h6) (aw h7),fun h=>by subst h; simp [bA,veq]⟩ _ _ p
def cD_p (n:Nat) (a0:U8) (a1:U8):Option (Ta × Int):=
  (if a1 = (0,0,0,0,0,0,0,0) then some ((⟨(0,0,0,0,0,0,0,0),(0,0,0,0,0,0,0,0)⟩:Ta),(7:Int)) else (bm_p n a0).bind fun c0=>(bm_p n a1).bind fun d0=>(br_p n c0 d0).bind fun g0=>(bf_p n g0).bind fun b0=>some (b0.1,b0.2))
theorem cD_c (n:Nat) {L w} (hL:hl L w) (a0:U8) (a1:U8)  {r:Ta × Int} (h:cD_p n a0 a1 = some r) :
 Cl 83 #[.agg ((am a0)).toArray,.agg ((am a1)).toArray] w (aj w fun _ u=>u = .tuple #[.agg ((aa r.1)).toArray,vI r.2]):=by
 unfold cD_p at h
 refine AG func83 rfl rfl rfl fun _ cs0 hb0=>Ac<|RG.bx (AB w) rfl rfl fun s1 P0 u0 U0=>RG.bx u0 rfl rfl fun u1 Q0 v0 V0=>RG.nl zL v0 fun v1 R0 c0 W0=>Ag rfl<|Aa<|Aj<|Ac<|Ab (AC rfl (c0.memA .t1))<|Ab (AO (vs:=[]) (u:=.agg zQ) ak (fun p=>by kernel_rfl))<|Ab (FV.eqlV (v:=.agg ((am a1)).toArray) (u:=.agg zQ) rfl rfl (kA a1 (0,0,0,0,0,0,0,0)))<|Aa<|AW rfl h (fun t0 h=>?_) (fun t0 h=>?_)
 refine Ac<|Ab (AO (vs:=[]) (u:=.agg zM) ak (fun p=>by kernel_rfl))<|AS zL c0 .hd (ah rfl) fun x1 k0 X0=>Ag rfl<|Aa<|Ao rfl<|Ap hb0 func83 rfl (.cons (.many (cs:=zL) rfl rfl (k0.memA .hd)) (.cons (.tmp rfl) .nil)) rfl ?_
 cases h
 exact k0.gv
 refine Au<|Aj<|du 8 fun b0 d0=>Rx 0 1018 b0 rfl d0 (AC rfl (c0.memA .t2))<|Rx 2 1016 b0 rfl d0 (AC rfl (c0.memA .t1))<|bk h fun J0 F0 h=>Bx 1 7 b0 rfl .plain (bd 107) rfl (e1 rfl) (fun p q=>bm_c n (c0.hL hL q) a0 F0) rfl fun w32 k1 y0 ⟨c1,hu_,B0⟩=>?_
 subst hu_
 obtain ⟨p0,Y0⟩:=c0.agr y0
 refine bk h fun K0 G0 h=>Bx 3 15 b0 rfl .plain (bd 107) rfl (e1 rfl) (fun p q=>bm_c n (p0.hL hL q) a1 G0) rfl fun y1 p1 z0 ⟨d1,hu_,C0⟩=>?_
 subst hu_
 obtain ⟨q0,x0⟩:=p0.agr z0
 refine bk h fun M0 H0 h=>Bx 4 31 b0 rfl .plain (bd 106) rfl (e2 rfl rfl) (fun p q=>br_c n (q0.hL hL q) J0 (Av (Az B0 x0) q) K0 (Av C0 q) H0) rfl fun z1 q1 A0 ⟨g1,j1,hu_,D0,E0⟩=>?_
 subst hu_
 obtain ⟨g0,Z0⟩:=q0.agr A0
 refine bk h fun j0 I0 h=>BD 5 63 960 (.tuple #[.agg ((aa j0.1)).toArray,vI j0.2]) b0 rfl d0 (bd 95) rfl (e1 rfl) (fun p q=>bf_c n (g0.hL0 hL q) M0 (g0.kd D0 q) (g0.kd E0 q) I0) rfl<|Rv 6 b0 rfl d0 (fun _=>Ah rfl rfl)<|Rv 7 b0 rfl d0 (fun _=>Ah rfl rfl)<|By 8 511 b0 rfl rfl .plain (AA (news:=(aa j0.1)) g0 .hd rfl rfl rfl rfl rfl rfl (ah rfl)) fun A1 s0 b1=>AM (i:=9) (rk b0) (Bd (m' :=1023) (sk b0) rfl .plain rfl (Ba rfl) ?_)
 refine AJ (dk b0)<|Ao rfl<|Ap hb0 func83 rfl (.cons (.many (cs:=(aa j0.1)) rfl rfl (s0.memA .hd)) (.cons (.tmp rfl) .nil)) rfl ?_
 cases h
 exact s0.gv
def cu_p (n:Nat) (a0:Int) (a1:Int):Option (Ta × Int):=
  (cr_p n a0).bind fun c0=>(cr_p n a1).bind fun d0=>(cD_p n c0 d0).bind fun b0=>some (b0.1,b0.2)
theorem cu_c (n:Nat) {L w} (hL:hl L w) {a0:Int} {a1:Int}  {r:Ta × Int} (h:cu_p n a0 a1 = some r) :
 Cl 44 #[vI a0,vI a1] w (aj w fun _ u=>u = .tuple #[.agg ((aa r.1)).toArray,vI r.2]):=by
 unfold cu_p at h
 refine AG func44 rfl rfl rfl fun _ cs0 hb0=>Ac<|RG.nl zL (AB w) fun v0 s0 b0 t0=>Ag rfl<|Aa<|Ac<|Ae rfl<|bk h fun g0 k0 h=>Bi (.agg ((am g0)).toArray) (bd 84) rfl (e1 rfl) (fun p q=>cr_c n (b0.hL0 hL q)  k0) rfl<|Ae rfl<|bk h fun j0 p0 h=>Bi (.agg ((am j0)).toArray) (bd 84) rfl (e1 rfl) (fun p q=>cr_c n (b0.hL0 hL q)  p0) rfl<|bk h fun c0 q0 h=>Bi (.tuple #[.agg ((aa c0.1)).toArray,vI c0.2]) (bd 83) rfl (e2 rfl rfl) (fun p q=>cD_c n (b0.hL0 hL q) g0 j0 q0) rfl<|Ab (Ah rfl rfl)<|Ab (Ah rfl rfl)<|AS (aa c0.1) b0 .hd (ah rfl) fun x0 d0 u0=>Ag rfl<|Aa<|Ao rfl<|Ap hb0 func44 rfl (.cons (.many (cs:=(aa c0.1)) rfl rfl (d0.memA .hd)) (.cons (.tmp rfl) .nil)) rfl ?_
 cases h
 exact d0.gv
def ab_p (n:Nat) (a0:Int) (a1:Int):Option (Except Tc Ta):=
  (cu_p n a0 a1).bind fun b0=>(ae_p n b0.1 b0.2).bind fun d0=>exc d0 (fun g0=>some (.ok g0)) (fun c0=>some (.error c0))
theorem ab_c (n:Nat) {L w} (hL:hl L w) {a0:Int} {a1:Int}  {r:Except Tc Ta} (h:ab_p n a0 a1 = some r) :
 Cl 33 #[vI a0,vI a1] w (aD w (fun (y:Ta) _ u=>u = .agg ((aa y)).toArray) (fun e=>.iface 116 (.agg #[vI e.fB])) r):=by
 unfold ab_p at h
 refine BF func33 rfl rfl rfl fun _ cs0 hb0 hp0=>Ac<|RG.nl zL (AB w) fun y0 s0 b0 u0=>Aa<|Ac<|Ae rfl<|Ae rfl<|bk h fun c0 q0 h=>Bi (.tuple #[.agg ((aa c0.1)).toArray,vI c0.2]) (bd 44) rfl (e2 rfl rfl) (fun p q=>cu_c n (b0.hL0 hL q)  q0) rfl<|Ab (Ah rfl rfl)<|Ab (Ah rfl rfl)<|xk h (fun t0 d0 h=>?_) (fun g0 d0 h=>?_)
 refine Bo (fst:=[]) (cap:=[]) .plain (bd 30) rfl (e2 rfl rfl) (fun p q=>ae_c n (b0.hL0 hL q) c0.1 d0) fun z0 p0=>?_
 obtain ⟨k0,v0⟩:=b0.agr p0
 cases h
 exact Aq hp0 func33 ⟨k0.ag,rfl⟩
 refine Bi (.agg ((aa g0)).toArray) (bd 30) rfl (e2 rfl rfl) (fun p q=>AI (ae_c n (b0.hL0 hL q) c0.1 d0)) rfl<|AS (aa g0) b0 .hd (ah rfl) fun A0 j0 x0=>Aa<|Ao rfl<|Ap hb0 func33 rfl (.cons (.many (cs:=(aa g0)) rfl rfl (j0.memA .hd)) .nil) rfl ?_
 cases h
 exact ⟨j0.ag,fun p q=>ay rfl⟩
def bD_p (n:Nat) (a0:Td) (a1:Td):Option Td:=
  (aq_p n a0.ft a1.fp).bind fun b0=>(aq_p n a0.fp a1.ft).bind fun c0=>(br_p n b0 c0).bind fun d0=>some d0
theorem bD_c (n:Nat) {L w} (hL:hl L w) (a0:Td) {v0_1:Value} (h0_1:Rep.R w L [v0_1] a0.ft.fo) {v0_3:Value} (h0_3:Rep.R w L [v0_3] a0.fp.fo) (a1:Td) {v1_1:Value} (h1_1:Rep.R w L [v1_1] a1.ft.fo) {v1_3:Value} (h1_3:Rep.R w L [v1_3] a1.fp.fo)  {r:Td} (h:bD_p n a0 a1 = some r) :
 Cl 100 #[.agg #[.bool a0.ft.fe,v0_1,.bool a0.fp.fe,v0_3],.agg #[.bool a1.ft.fe,v1_1,.bool a1.fp.fe,v1_3]] w (aj w fun w' u=>∃ v0_1 v0_3:Value,u = .agg #[.bool r.ft.fe,v0_1,.bool r.fp.fe,v0_3]/\Rep.R w' L [v0_1] r.ft.fo/\Rep.R w' L [v0_3] r.fp.fo):=by
 unfold bD_p at h
 refine AG func100 rfl rfl rfl fun _ cs0 hb0=>Ac<|RG.bx (AB w) rfl rfl fun g1 M0 x0 R0=>RG.bx x0 rfl rfl fun j1 P0 y0 U0=>RG.nl [.bool false,vN,.bool false,vN] y0 fun k1 Q0 c0 V0=>Aa<|Aj<|du 11 fun b0 d0=>Rv 0 b0 rfl d0 (fun _=>AP 0 rfl)<|Rx 1 3600 b0 rfl d0 (AY (cs:=[.bool a0.ft.fe,v0_1]) rfl rfl (ae (c0.memA .t2) 0 2))<|Rv 2 b0 rfl d0 (fun _=>AP 2 rfl)<|Rx 3 3600 b0 rfl d0 (AY (cs:=[.bool a1.fp.fe,v1_3]) rfl rfl (ae (c0.memA .t1) 2 2))<|Rv 5 b0 rfl d0 (fun _=>AP 2 rfl)<|Rx 6 3584 b0 rfl d0 (AY (cs:=[.bool a0.fp.fe,v0_3]) rfl rfl (ae (c0.memA .t2) 2 2))<|Rv 7 b0 rfl d0 (fun _=>AP 0 rfl)<|Rx 8 3584 b0 rfl d0 (AY (cs:=[.bool a1.ft.fe,v1_1]) rfl rfl (ae (c0.memA .t1) 0 2))<|bk h fun J0 G0 h=>Bx 4 511 b0 rfl .plain (bd 105) rfl (e2 rfl rfl) (fun p q=>aq_c n (c0.hL hL q) a0.ft (c0.km h0_1 q) a1.fp (c0.km h1_3 q) G0) rfl fun p1 b1 B0 ⟨Y0,hu_,E0⟩=>?_
 subst hu_
 obtain ⟨g0,W0⟩:=c0.agr B0
 refine bk h fun K0 H0 h=>Bx 9 1023 b0 rfl .plain (bd 105) rfl (e2 rfl rfl) (fun p q=>aq_c n (g0.hL hL q) a0.fp (g0.km h0_3 q) a1.ft (g0.km h1_1 q) H0) rfl fun q1 c1 C0 ⟨Z0,hu_,F0⟩=>?_
 subst hu_
 obtain ⟨s0,A0⟩:=g0.agr C0
 refine bk h fun k0 I0 h=>Bx 10 2047 b0 rfl .plain (bd 106) rfl (e2 rfl rfl) (fun p q=>br_c n (s0.hL hL q) J0 (Av (Az E0 A0) q) K0 (Av F0 q) I0) rfl fun s1 d1 D0 ⟨p0,q0,hu_,u0,v0⟩=>?_
 subst hu_
 obtain ⟨z0,X0⟩:=s0.agr D0
 refine By 11 4095 b0 rfl rfl .plain (AA (news:=[.bool k0.ft.fe,p0,.bool k0.fp.fe,q0]) z0 .hd rfl rfl rfl rfl rfl rfl (o4 rfl (AZ u0) rfl (AZ v0))) fun u1 j0 t0=>AJ (dk b0)<|Ao rfl<|Ap hb0 func100 rfl (.cons (.many (cs:=[.bool k0.ft.fe,p0,.bool k0.fp.fe,q0]) rfl rfl (j0.memA .hd)) .nil) rfl ?_
 cases h
 exact ⟨j0.ag,fun p q=>⟨p0,q0,rfl,j0.kd (Az u0 t0) q,j0.kd (Az v0 t0) q⟩⟩
def cy_p (n:Nat) (a0:Ta) (a1:Ta):Option (Ta × Int):=
  (aC_p n ([a0,a1]:List Ta)).bind fun s0=>(if s0 = true then (if a1.fN = (0,0,0,0,0,0,0,0) then some ((⟨(0,0,0,0,0,0,0,0),(0,0,0,0,0,0,0,0)⟩:Ta),(7:Int)) else (aC_p n ([a0,a1]:List Ta)).bind fun t0=>(if t0 = true then (aw_p n a0).bind fun u0=>(aw_p n a1).bind fun v0=>(bD_p n u0 v0).bind fun x0=>(aH_p n x0 (0:Int)).bind fun b0=>some (b0.1,b0.2) else (aH_p n (⟨(⟨false,([]:List UInt64)⟩:Te),(⟨false,([]:List UInt64)⟩:Te)⟩:Td) (20:Int)).bind fun c0=>some (c0.1,c0.2))) else (aC_p n ([a0,a1]:List Ta)).bind fun j0=>(if j0 = true then (aw_p n a0).bind fun k0=>(aw_p n a1).bind fun p0=>(bD_p n k0 p0).bind fun q0=>(aH_p n q0 (0:Int)).bind fun d0=>some (d0.1,d0.2) else (aH_p n (⟨(⟨false,([]:List UInt64)⟩:Te),(⟨false,([]:List UInt64)⟩:Te)⟩:Td) (20:Int)).bind fun g0=>some (g0.1,g0.2)))
theorem cy_c (n:Nat) {L w} (hL:hl L w) (a0:Ta) (a1:Ta)  {r:Ta × Int} (h:cy_p n a0 a1 = some r) :
 Cl 72 #[.agg ((aa a0)).toArray,.agg ((aa a1)).toArray] w (aj w fun _ u=>u = .tuple #[.agg ((aa r.1)).toArray,vI r.2]):=by
 unfold cy_p at h
 refine AG func72 rfl rfl rfl fun _ cs0 hb0=>Ac<|RG.bx (AB w) rfl rfl fun t4 K2 z1 q3=>RG.bx z1 rfl rfl fun D4 P2 C1 y3=>RG.nl zL C1 fun K4 R2 B0 D3=>Ag rfl<|Aa<|Aj<|Ac<|Ab (AC rfl (B0.memA .t2))<|Ab (AC rfl (B0.memA .t1))<|Ai .plain rfl (Bb (α:=Ta) (xs:=([a0,a1]:List Ta)) (vs:=[.agg ((aa a0)).toArray,.agg ((aa a1)).toArray]) (ds' :=(aa a0 ++ aa a1)) rfl B0 cN rfl (e2 rfl rfl) (by kernel_rfl) rfl) fun M4 U2 b0 E3=>bk h fun C2 s2 h=>Bi (.bool C2) (bd 96) rfl (e1 rfl) (fun p q=>aC_c n (b0.hL0 hL q) (Av (St.lend (α:=Ta) (L:=L) b0 .hd (AH (cs:=(aa a0 ++ aa a1)) (xs:=(([a0,a1]:List Ta):List Ta)) b0 L (Ar (cs:=(aa a0)) (ds:=(aa a1)) (aU a0.fN a0.fD) (Ar (cs:=(aa a1)) (ds:=[]) (aU a1.fN a1.fD) (AR _ _)))) hL) q) s2) rfl<|Ae rfl<|RG.ifb (s:=10) rfl h (fun v1 h=>?_) (fun v1 h=>?_)
 refine RG.fg 0 rfl<|AX (AY (cs:=(am a1.fN)) rfl rfl (ae (b0.memA .t2) 0 8))<|AX (AO (vs:=[]) (u:=.agg zQ) ak (fun p=>by kernel_rfl))<|AX (FV.eqlV (v:=.agg ((am a1.fN)).toArray) (u:=.agg zQ) rfl rfl (kA a1.fN (0,0,0,0,0,0,0,0)))<|RG.pt rfl rfl<|Aa<|AW rfl h (fun x1 h=>?_) (fun x1 h=>?_)
 refine Ac<|Ab (AO (vs:=[]) (u:=.agg zM) ak (fun p=>by kernel_rfl))<|AS zL b0 .t1 (ah rfl) fun P4 W0 F3=>Ag rfl<|Aa<|Ao rfl<|Ap hb0 func72 rfl (.cons (.many (cs:=zL) rfl rfl (W0.memA .t1)) (.cons (.tmp rfl) .nil)) rfl ?_
 cases h
 exact W0.gv
 refine Au<|Ac<|Ab (AC rfl (b0.memA .t3))<|Ab (AC rfl (b0.memA .t2))<|Bk (fst:=[]) (cap:=[]) (vs:=[.agg ((aa a0)).toArray,.agg ((aa a1)).toArray,.func (.func 100) #[] #[]]) .plain (bd 67) func67 rfl rfl rfl rfl (e3 rfl rfl rfl) rfl fun b3 j1 Q3=>Ac<|RG.bx b0 rfl rfl fun Q4 V2 E1 G3=>RG.bx E1 rfl rfl fun R4 W2 F1 H3=>RG.nl [.bool false,vN,.bool false,vN] F1 fun U4 X2 C0 I3=>Ag rfl<|Aa<|Aj<|Ac<|Ab (AC rfl (C0.memA .t2))<|Ab (AC rfl (C0.memA .t1))<|Ai .plain rfl (Bb (α:=Ta) (xs:=([a0,a1]:List Ta)) (vs:=[.agg ((aa a0)).toArray,.agg ((aa a1)).toArray]) (ds' :=(aa a0 ++ aa a1)) rfl C0 cN rfl (e2 rfl rfl) (by kernel_rfl) rfl) fun V4 Y2 j0 J3=>bk h fun D2 u2 h=>Bi (.bool D2) (bd 96) rfl (e1 rfl) (fun p q=>aC_c n (j0.hL0 hL q) (Av (St.lend (α:=Ta) (L:=L) j0 .hd (AH (cs:=(aa a0 ++ aa a1)) (xs:=(([a0,a1]:List Ta):List Ta)) j0 L (Ar (cs:=(aa a0)) (ds:=(aa a1)) (aU a0.fN a0.fD) (Ar (cs:=(aa a1)) (ds:=[]) (aU a1.fN a1.fD) (AR _ _)))) hL) q) u2) rfl<|Ab (FV.not rfl)<|Aa<|MX.ifnb rfl h (fun y1 h=>?_) (fun y1 h=>?_)
 refine Au<|Aj<|du 6 fun d0 E0=>Rv 0 d0 rfl E0 (fun _=>Ak rfl)<|Rx 1 244 d0 rfl E0 (AC rfl (j0.memA .t3))<|Rx 3 240 d0 rfl E0 (AC rfl (j0.memA .t2))<|bk h fun E2 v2 h=>Bx 2 15 d0 rfl .plain (bd 91) rfl (e1 rfl) (fun p q=>aw_c n (j0.hL hL q) a0 v2) rfl fun W4 j4 K1 ⟨X3,Y3,hu_,W1,X1⟩=>?_
 subst hu_
 obtain ⟨X0,K3⟩:=j0.agr K1
 refine bk h fun F2 x2 h=>Bx 4 31 d0 rfl .plain (bd 91) rfl (e1 rfl) (fun p q=>aw_c n (X0.hL hL q) a1 x2) rfl fun X4 k4 M1 ⟨Z3,b4,hu_,Y1,Z1⟩=>?_
 subst hu_
 obtain ⟨Y0,c1⟩:=X0.agr M1
 refine bk h fun p0 y2 h=>Bx 5 63 d0 rfl .plain (bd 100) rfl (e2 rfl rfl) (fun p q=>bD_c n (Y0.hL hL q) E2 (Av (Az W1 c1) q) (Av (Az X1 c1) q) F2 (Av Y1 q) (Av Z1 q) y2) rfl fun Y4 p4 P1 ⟨H0,I0,hu_,q1,s1⟩=>?_
 subst hu_
 obtain ⟨G1,M3⟩:=Y0.agr P1
 refine By 6 127 d0 rfl rfl .plain (AA (news:=[.bool p0.ft.fe,H0,.bool p0.fp.fe,I0]) G1 .t1 rfl rfl rfl rfl rfl rfl (o4 rfl (AZ q1) rfl (AZ s1))) fun Z4 s0 d1=>AM (i:=7) (rk d0) (Bd (m' :=255) (sk d0) rfl .plain rfl (Ba rfl) ?_)
 refine AJ (dk d0)<|Ao rfl<|Ap (u:=.tuple #[.agg #[.bool p0.ft.fe,H0,.bool p0.fp.fe,I0],vI 0]) j1 func67 rfl (.cons (.many (cs:=[.bool p0.ft.fe,H0,.bool p0.fp.fe,I0]) rfl rfl (s0.memA .t1)) (.cons (.tmp rfl) .nil)) rfl<|Ab (Ah rfl rfl)<|Ab (Ah rfl rfl)<|bk h fun t0 b2 h=>Bi (.tuple #[.agg ((aa t0.1)).toArray,vI t0.2]) (bd 66) rfl (e2 rfl rfl) (fun p q=>aH_c n (s0.hL0 hL q) p0 (s0.kd (Az q1 d1) q) (s0.kd (Az s1 d1) q) b2) rfl<|Ab (Ah rfl rfl)<|Ab (Ah rfl rfl)<|AS (aa t0.1) s0 .t5 (ah rfl) fun q4 J0 c3=>Ag rfl<|Aa<|Ao rfl<|Ap hb0 func72 rfl (.cons (.many (cs:=(aa t0.1)) rfl rfl (J0.memA .t5)) (.cons (.tmp rfl) .nil)) rfl ?_
 cases h
 exact J0.gv
 refine Ac<|RG.nl [.bool false,vN,.bool false,vN] j0 fun s4 G2 K0 d3=>Aa<|Ac<|Ab (AC rfl (K0.memA .hd))<|AS [.bool false,vN,.bool false,vN] K0 .t2 (ah rfl) fun u4 y0 g3=>Ag rfl<|Aa<|Ao rfl<|Ap (u:=.tuple #[.agg #[.bool false,vN,.bool false,vN],vI 20]) j1 func67 rfl (.cons (.many (cs:=[.bool false,vN,.bool false,vN]) rfl rfl (y0.memA .t2)) (.cons (.tmp rfl) .nil)) rfl<|Ab (Ah rfl rfl)<|Ab (Ah rfl rfl)<|bk h fun u0 c2 h=>Bi (.tuple #[.agg ((aa u0.1)).toArray,vI u0.2]) (bd 66) rfl (e2 rfl rfl) (fun p q=>aH_c n (y0.hL0 hL q) (⟨(⟨false,([]:List UInt64)⟩:Te),(⟨false,([]:List UInt64)⟩:Te)⟩:Td) (Av (Rep.nilSlice _ _) q) (Av (Rep.nilSlice _ _) q) c2) rfl<|Ab (Ah rfl rfl)<|Ab (Ah rfl rfl)<|AS (aa u0.1) y0 .t6 (ah rfl) fun v4 M0 j3=>Ag rfl<|Aa<|Ao rfl<|Ap hb0 func72 rfl (.cons (.many (cs:=(aa u0.1)) rfl rfl (M0.memA .t6)) (.cons (.tmp rfl) .nil)) rfl ?_
 cases h
 exact M0.gv
 refine AL<|AL<|AL<|AL<|RG.pf rfl rfl<|Aa<|BA rfl<|Au<|Ac<|Ab (AC rfl (b0.memA .t3))<|Ab (AC rfl (b0.memA .t2))<|Bk (fst:=[]) (cap:=[]) (vs:=[.agg ((aa a0)).toArray,.agg ((aa a1)).toArray,.func (.func 100) #[] #[]]) .plain (bd 67) func67 rfl rfl rfl rfl (e3 rfl rfl rfl) rfl fun Z2 g1 P3=>Ac<|RG.bx b0 rfl rfl fun x4 H2 A1 k3=>RG.bx A1 rfl rfl fun y4 I2 B1 p3=>RG.nl [.bool false,vN,.bool false,vN] B1 fun z4 J2 z0 s3=>Ag rfl<|Aa<|Aj<|Ac<|Ab (AC rfl (z0.memA .t2))<|Ab (AC rfl (z0.memA .t1))<|Ai .plain rfl (Bb (α:=Ta) (xs:=([a0,a1]:List Ta)) (vs:=[.agg ((aa a0)).toArray,.agg ((aa a1)).toArray]) (ds' :=(aa a0 ++ aa a1)) rfl z0 cN rfl (e2 rfl rfl) (by kernel_rfl) rfl) fun A4 M2 g0 u3=>bk h fun z2 d2 h=>Bi (.bool z2) (bd 96) rfl (e1 rfl) (fun p q=>aC_c n (g0.hL0 hL q) (Av (St.lend (α:=Ta) (L:=L) g0 .hd (AH (cs:=(aa a0 ++ aa a1)) (xs:=(([a0,a1]:List Ta):List Ta)) g0 L (Ar (cs:=(aa a0)) (ds:=(aa a1)) (aU a0.fN a0.fD) (Ar (cs:=(aa a1)) (ds:=[]) (aU a1.fN a1.fD) (AR _ _)))) hL) q) d2) rfl<|Ab (FV.not rfl)<|Aa<|MX.ifnb rfl h (fun u1 h=>?_) (fun u1 h=>?_)
 refine Au<|Aj<|du 6 fun c0 D0=>Rv 0 c0 rfl D0 (fun _=>Ak rfl)<|Rx 1 244 c0 rfl D0 (AC rfl (g0.memA .t3))<|Rx 3 240 c0 rfl D0 (AC rfl (g0.memA .t2))<|bk h fun A2 g2 h=>Bx 2 15 c0 rfl .plain (bd 91) rfl (e1 rfl) (fun p q=>aw_c n (g0.hL hL q) a0 g2) rfl fun B4 c4 H1 ⟨R3,U3,hu_,Q1,R1⟩=>?_
 subst hu_
 obtain ⟨P0,v3⟩:=g0.agr H1
 refine bk h fun B2 j2 h=>Bx 4 31 c0 rfl .plain (bd 91) rfl (e1 rfl) (fun p q=>aw_c n (P0.hL hL q) a1 j2) rfl fun C4 d4 I1 ⟨V3,W3,hu_,U1,V1⟩=>?_
 subst hu_
 obtain ⟨Q0,Z0⟩:=P0.agr I1
 refine bk h fun k0 k2 h=>Bx 5 63 c0 rfl .plain (bd 100) rfl (e2 rfl rfl) (fun p q=>bD_c n (Q0.hL hL q) A2 (Av (Az Q1 Z0) q) (Av (Az R1 Z0) q) B2 (Av U1 q) (Av V1 q) k2) rfl fun E4 g4 J1 ⟨F0,G0,hu_,k1,p1⟩=>?_
 subst hu_
 obtain ⟨D1,x3⟩:=Q0.agr J1
 refine By 6 127 c0 rfl rfl .plain (AA (news:=[.bool k0.ft.fe,F0,.bool k0.fp.fe,G0]) D1 .t1 rfl rfl rfl rfl rfl rfl (o4 rfl (AZ k1) rfl (AZ p1))) fun F4 q0 b1=>AM (i:=7) (rk c0) (Bd (m' :=255) (sk c0) rfl .plain rfl (Ba rfl) ?_)
 refine AJ (dk c0)<|Ao rfl<|Ap (u:=.tuple #[.agg #[.bool k0.ft.fe,F0,.bool k0.fp.fe,G0],vI 0]) g1 func67 rfl (.cons (.many (cs:=[.bool k0.ft.fe,F0,.bool k0.fp.fe,G0]) rfl rfl (q0.memA .t1)) (.cons (.tmp rfl) .nil)) rfl<|Ab (Ah rfl rfl)<|Ab (Ah rfl rfl)<|bk h fun v0 p2 h=>Bi (.tuple #[.agg ((aa v0.1)).toArray,vI v0.2]) (bd 66) rfl (e2 rfl rfl) (fun p q=>aH_c n (q0.hL0 hL q) k0 (q0.kd (Az k1 b1) q) (q0.kd (Az p1 b1) q) p2) rfl<|Ab (Ah rfl rfl)<|Ab (Ah rfl rfl)<|AS (aa v0.1) q0 .t5 (ah rfl) fun G4 R0 z3=>Ag rfl<|Aa<|Ao rfl<|Ap hb0 func72 rfl (.cons (.many (cs:=(aa v0.1)) rfl rfl (R0.memA .t5)) (.cons (.tmp rfl) .nil)) rfl ?_
 cases h
 exact R0.gv
 refine Ac<|RG.nl [.bool false,vN,.bool false,vN] g0 fun H4 Q2 U0 A3=>Aa<|Ac<|Ab (AC rfl (U0.memA .hd))<|AS [.bool false,vN,.bool false,vN] U0 .t2 (ah rfl) fun I4 A0 B3=>Ag rfl<|Aa<|Ao rfl<|Ap (u:=.tuple #[.agg #[.bool false,vN,.bool false,vN],vI 20]) g1 func67 rfl (.cons (.many (cs:=[.bool false,vN,.bool false,vN]) rfl rfl (A0.memA .t2)) (.cons (.tmp rfl) .nil)) rfl<|Ab (Ah rfl rfl)<|Ab (Ah rfl rfl)<|bk h fun x0 q2 h=>Bi (.tuple #[.agg ((aa x0.1)).toArray,vI x0.2]) (bd 66) rfl (e2 rfl rfl) (fun p q=>aH_c n (A0.hL0 hL q) (⟨(⟨false,([]:List UInt64)⟩:Te),(⟨false,([]:List UInt64)⟩:Te)⟩:Td) (Av (Rep.nilSlice _ _) q) (Av (Rep.nilSlice _ _) q) q2) rfl<|Ab (Ah rfl rfl)<|Ab (Ah rfl rfl)<|AS (aa x0.1) A0 .t6 (ah rfl) fun J4 V0 C3=>Ag rfl<|Aa<|Ao rfl<|Ap hb0 func72 rfl (.cons (.many (cs:=(aa x0.1)) rfl rfl (V0.memA .t6)) (.cons (.tmp rfl) .nil)) rfl ?_
 cases h
 exact V0.gv
def bb_p (n:Nat) (a0:Ta) (a1:Ta):Option (Except Tc Ta):=
  (cy_p n a0 a1).bind fun b0=>(ae_p n b0.1 b0.2).bind fun d0=>exc d0 (fun g0=>some (.ok g0)) (fun c0=>some (.error c0))
theorem bb_c (n:Nat) {L w} (hL:hl L w) (a0:Ta) (a1:Ta)  {r:Except Tc Ta} (h:bb_p n a0 a1 = some r) :
 Cl 34 #[.agg ((aa a0)).toArray,.agg ((aa a1)).toArray] w (aD w (fun (y:Ta) _ u=>u = .agg ((aa y)).toArray) (fun e=>.iface 116 (.agg #[vI e.fB])) r):=by
 unfold bb_p at h
 refine BF func34 rfl rfl rfl fun _ cs0 hb0 hp0=>Ac<|RG.bx (AB w) rfl rfl fun E0 u0 k0 z0=>RG.bx k0 rfl rfl fun F0 v0 p0 A0=>RG.nl zL p0 fun G0 x0 b0 B0=>Aa<|Ac<|Ab (AC rfl (b0.memA .t2))<|Ab (AC rfl (b0.memA .t1))<|bk h fun c0 t0 h=>Bi (.tuple #[.agg ((aa c0.1)).toArray,vI c0.2]) (bd 72) rfl (e2 rfl rfl) (fun p q=>cy_c n (b0.hL0 hL q) a0 a1 t0) rfl<|Ab (Ah rfl rfl)<|Ab (Ah rfl rfl)<|xk h (fun y0 d0 h=>?_) (fun g0 d0 h=>?_)
 refine Bo (fst:=[]) (cap:=[]) .plain (bd 30) rfl (e2 rfl rfl) (fun p q=>ae_c n (b0.hL0 hL q) c0.1 d0) fun H0 s0=>?_
 obtain ⟨q0,C0⟩:=b0.agr s0
 cases h
 exact Aq hp0 func34 ⟨q0.ag,rfl⟩
 refine Bi (.agg ((aa g0)).toArray) (bd 30) rfl (e2 rfl rfl) (fun p q=>AI (ae_c n (b0.hL0 hL q) c0.1 d0)) rfl<|AS (aa g0) b0 .hd (ah rfl) fun I0 j0 D0=>Aa<|Ao rfl<|Ap hb0 func34 rfl (.cons (.many (cs:=(aa g0)) rfl rfl (j0.memA .hd)) .nil) rfl ?_
 cases h
 exact ⟨j0.ag,fun p q=>ay rfl⟩
def cz_p (n:Nat) (a0:Ta) (a1:Ta):Option (Ta × Int):=
  (aC_p n ([a0,a1]:List Ta)).bind fun d0=>(if d0 = true then (aw_p n a0).bind fun g0=>(aw_p n a1).bind fun j0=>(bC_p n g0 j0).bind fun k0=>(aH_p n k0 (0:Int)).bind fun c0=>some (c0.1,c0.2) else (aH_p n (⟨(⟨false,([]:List UInt64)⟩:Te),(⟨false,([]:List UInt64)⟩:Te)⟩:Td) (20:Int)).bind fun b0=>some (b0.1,b0.2))
theorem cz_c (n:Nat) {L w} (hL:hl L w) (a0:Ta) (a1:Ta)  {r:Ta × Int} (h:cz_p n a0 a1 = some r) :
 Cl 101 #[.agg ((aa a0)).toArray,.agg ((aa a1)).toArray] w (aj w fun _ u=>u = .tuple #[.agg ((aa r.1)).toArray,vI r.2]):=by
 unfold cz_p at h
 refine AG func101 rfl rfl rfl fun _ cs0 hb0=>Ac<|RG.bx (AB w) rfl rfl fun j2 s1 I0 F1=>RG.bx I0 rfl rfl fun k2 u1 J0 G1=>RG.nl zL J0 fun p2 v1 q0 H1=>Ag rfl<|Aa<|Ac<|Ab (AC rfl (q0.memA .t2))<|Ab (AC rfl (q0.memA .t1))<|Bk (fst:=[]) (cap:=[]) (vs:=[.agg ((aa a0)).toArray,.agg ((aa a1)).toArray,.func (.func 116) #[] #[]]) .plain (bd 67) func67 rfl rfl rfl rfl (e3 rfl rfl rfl) rfl fun C1 E0 V1=>Ac<|RG.bx q0 rfl rfl fun q2 x1 K0 I1=>RG.bx K0 rfl rfl fun s2 y1 M0 J1=>RG.nl [.bool false,vN,.bool false,vN] M0 fun u2 z1 s0 K1=>Ag rfl<|Aa<|Aj<|Ac<|Ab (AC rfl (s0.memA .t2))<|Ab (AC rfl (s0.memA .t1))<|Ai .plain rfl (Bb (α:=Ta) (xs:=([a0,a1]:List Ta)) (vs:=[.agg ((aa a0)).toArray,.agg ((aa a1)).toArray]) (ds' :=(aa a0 ++ aa a1)) rfl s0 cN rfl (e2 rfl rfl) (by kernel_rfl) rfl) fun v2 A1 c0 M1=>?_
 refine bk h fun k1 b1 h=>Bi (.bool k1) (bd 96) rfl (e1 rfl) (fun p q=>aC_c n (c0.hL0 hL q) (Av (St.lend (α:=Ta) (L:=L) c0 .hd (AH (cs:=(aa a0 ++ aa a1)) (xs:=(([a0,a1]:List Ta):List Ta)) c0 L (Ar (cs:=(aa a0)) (ds:=(aa a1)) (aU a0.fN a0.fD) (Ar (cs:=(aa a1)) (ds:=[]) (aU a1.fN a1.fD) (AR _ _)))) hL) q) b1) rfl<|Ab (FV.not rfl)<|Aa<|MX.ifnb rfl h (fun H0 h=>?_) (fun H0 h=>?_)
 refine Au<|Aj<|du 6 fun b0 t0=>Rv 0 b0 rfl t0 (fun _=>Ak rfl)<|Rx 1 244 b0 rfl t0 (AC rfl (c0.memA .t3))<|Rx 3 240 b0 rfl t0 (AC rfl (c0.memA .t2))<|bk h fun p1 c1 h=>Bx 2 15 b0 rfl .plain (bd 91) rfl (e1 rfl) (fun p q=>aw_c n (c0.hL hL q) a0 c1) rfl fun x2 b2 Q0 ⟨W1,X1,hu_,V0,W0⟩=>?_
 subst hu_
 obtain ⟨y0,P1⟩:=c0.agr Q0
 refine bk h fun q1 d1 h=>Bx 4 31 b0 rfl .plain (bd 91) rfl (e1 rfl) (fun p q=>aw_c n (y0.hL hL q) a1 d1) rfl fun y2 c2 R0 ⟨Y1,Z1,hu_,X0,Y0⟩=>?_
 subst hu_
 obtain ⟨z0,C0⟩:=y0.agr R0
 refine bk h fun d0 g1 h=>Bx 5 63 b0 rfl .plain (bd 116) rfl (e2 rfl rfl) (fun p q=>bC_c n (z0.hL hL q) p1 (Av (Az V0 C0) q) (Av (Az W0 C0) q) q1 (Av X0 q) (Av Y0 q) g1) rfl fun z2 d2 U0 ⟨u0,v0,hu_,F0,G0⟩=>?_
 subst hu_
 obtain ⟨P0,Q1⟩:=z0.agr U0
 refine By 6 127 b0 rfl rfl .plain (AA (news:=[.bool d0.ft.fe,u0,.bool d0.fp.fe,v0]) P0 .t1 rfl rfl rfl rfl rfl rfl (o4 rfl (AZ F0) rfl (AZ G0))) fun A2 g0 D0=>AM (i:=7) (rk b0) (Bd (m' :=255) (sk b0) rfl .plain rfl (Ba rfl) ?_)
 refine AJ (dk b0)<|Ao rfl<|Ap (u:=.tuple #[.agg #[.bool d0.ft.fe,u0,.bool d0.fp.fe,v0],vI 0]) E0 func67 rfl (.cons (.many (cs:=[.bool d0.ft.fe,u0,.bool d0.fp.fe,v0]) rfl rfl (g0.memA .t1)) (.cons (.tmp rfl) .nil)) rfl<|Ab (Ah rfl rfl)<|Ab (Ah rfl rfl)<|bk h fun k0 j1 h=>Bi (.tuple #[.agg ((aa k0.1)).toArray,vI k0.2]) (bd 66) rfl (e2 rfl rfl) (fun p q=>aH_c n (g0.hL0 hL q) d0 (g0.kd (Az F0 D0) q) (g0.kd (Az G0 D0) q) j1) rfl<|Ab (Ah rfl rfl)<|Ab (Ah rfl rfl)<|AS (aa k0.1) g0 .t4 (ah rfl) fun B2 A0 R1=>Ag rfl<|Aa<|Ao rfl<|Ap hb0 func101 rfl (.cons (.many (cs:=(aa k0.1)) rfl rfl (A0.memA .t4)) (.cons (.tmp rfl) .nil)) rfl ?_
 cases h
 exact A0.gv
 refine Ac<|RG.nl [.bool false,vN,.bool false,vN] c0 fun C2 B1 B0 U1=>Aa<|Ac<|Ab (AC rfl (B0.memA .hd))<|AS [.bool false,vN,.bool false,vN] B0 .t2 (ah rfl) fun D2 p0 D1=>Ag rfl<|Aa<|Ao rfl<|Ap (u:=.tuple #[.agg #[.bool false,vN,.bool false,vN],vI 20]) E0 func67 rfl (.cons (.many (cs:=[.bool false,vN,.bool false,vN]) rfl rfl (p0.memA .t2)) (.cons (.tmp rfl) .nil)) rfl<|Ab (Ah rfl rfl)<|Ab (Ah rfl rfl)<|bk h fun j0 Z0 h=>Bi (.tuple #[.agg ((aa j0.1)).toArray,vI j0.2]) (bd 66) rfl (e2 rfl rfl) (fun p q=>aH_c n (p0.hL0 hL q) (⟨(⟨false,([]:List UInt64)⟩:Te),(⟨false,([]:List UInt64)⟩:Te)⟩:Td) (Av (Rep.nilSlice _ _) q) (Av (Rep.nilSlice _ _) q) Z0) rfl<|Ab (Ah rfl rfl)<|Ab (Ah rfl rfl)<|AS (aa j0.1) p0 .t5 (ah rfl) fun g2 x0 E1=>Ag rfl<|Aa<|Ao rfl<|Ap hb0 func101 rfl (.cons (.many (cs:=(aa j0.1)) rfl rfl (x0.memA .t5)) (.cons (.tmp rfl) .nil)) rfl ?_
 cases h
 exact x0.gv
def aT_p (n:Nat) (a0:Ta) (a1:Ta):Option (Except Tc Ta):=
  (cz_p n a0 a1).bind fun b0=>(ae_p n b0.1 b0.2).bind fun d0=>exc d0 (fun g0=>some (.ok g0)) (fun c0=>some (.error c0))
theorem aT_c (n:Nat) {L w} (hL:hl L w) (a0:Ta) (a1:Ta)  {r:Except Tc Ta} (h:aT_p n a0 a1 = some r) :
 Cl 73 #[.agg ((aa a0)).toArray,.agg ((aa a1)).toArray] w (aD w (fun (y:Ta) _ u=>u = .agg ((aa y)).toArray) (fun e=>.iface 116 (.agg #[vI e.fB])) r):=by
 unfold aT_p at h
 refine BF func73 rfl rfl rfl fun _ cs0 hb0 hp0=>Ac<|RG.bx (AB w) rfl rfl fun E0 u0 k0 z0=>RG.bx k0 rfl rfl fun F0 v0 p0 A0=>RG.nl zL p0 fun G0 x0 b0 B0=>Aa<|Ac<|Ab (AC rfl (b0.memA .t2))<|Ab (AC rfl (b0.memA .t1))<|bk h fun c0 t0 h=>Bi (.tuple #[.agg ((aa c0.1)).toArray,vI c0.2]) (bd 101) rfl (e2 rfl rfl) (fun p q=>cz_c n (b0.hL0 hL q) a0 a1 t0) rfl<|Ab (Ah rfl rfl)<|Ab (Ah rfl rfl)<|xk h (fun y0 d0 h=>?_) (fun g0 d0 h=>?_)
 refine Bo (fst:=[]) (cap:=[]) .plain (bd 30) rfl (e2 rfl rfl) (fun p q=>ae_c n (b0.hL0 hL q) c0.1 d0) fun H0 s0=>?_
 obtain ⟨q0,C0⟩:=b0.agr s0
 cases h
 exact Aq hp0 func73 ⟨q0.ag,rfl⟩
 refine Bi (.agg ((aa g0)).toArray) (bd 30) rfl (e2 rfl rfl) (fun p q=>AI (ae_c n (b0.hL0 hL q) c0.1 d0)) rfl<|AS (aa g0) b0 .hd (ah rfl) fun I0 j0 D0=>Aa<|Ao rfl<|Ap hb0 func73 rfl (.cons (.many (cs:=(aa g0)) rfl rfl (j0.memA .hd)) .nil) rfl ?_
 cases h
 exact ⟨j0.ag,fun p q=>ay rfl⟩
def bv_l1 (n:Nat) (a0:List Ta) (D0:Nat × U16 -> Option ((Except Tc Ta) ⊕ (U16))):Nat × U16 -> Option ((Except Tc Ta) ⊕ (U16))
  | (c0,d0,g0,j0,k0,p0,q0,s0,t0,u0,v0,x0,y0,z0,A0,B0,C0)=>(if c0 < a0.length then (a0[c0]?).bind fun F0=>(aT_p n (⟨(d0,g0,j0,k0,p0,q0,s0,t0),(u0,v0,x0,y0,z0,A0,B0,C0)⟩:Ta) F0).bind fun G0=>exc G0 (fun b0=>D0 (c0 + 1,b0.fN.1,b0.fN.2.1,b0.fN.2.2.1,b0.fN.2.2.2.1,b0.fN.2.2.2.2.1,b0.fN.2.2.2.2.2.1,b0.fN.2.2.2.2.2.2.1,b0.fN.2.2.2.2.2.2.2,b0.fD.1,b0.fD.2.1,b0.fD.2.2.1,b0.fD.2.2.2.1,b0.fD.2.2.2.2.1,b0.fD.2.2.2.2.2.1,b0.fD.2.2.2.2.2.2.1,b0.fD.2.2.2.2.2.2.2)) (fun E0=>some (.inl (.error E0))) else some (.inr (d0,g0,j0,k0,p0,q0,s0,t0,u0,v0,x0,y0,z0,A0,B0,C0)))
def bv_p (n:Nat) (a0:List Ta):Option (Except Tc Ta):=
  (ab_p n (0:Int) (1:Int)).bind fun D0=>exc D0 (fun b0=>thn (ao (bv_l1 n a0) n (0,b0.fN.1,b0.fN.2.1,b0.fN.2.2.1,b0.fN.2.2.2.1,b0.fN.2.2.2.2.1,b0.fN.2.2.2.2.2.1,b0.fN.2.2.2.2.2.2.1,b0.fN.2.2.2.2.2.2.2,b0.fD.1,b0.fD.2.1,b0.fD.2.2.1,b0.fD.2.2.2.1,b0.fD.2.2.2.2.1,b0.fD.2.2.2.2.2.1,b0.fD.2.2.2.2.2.2.1,b0.fD.2.2.2.2.2.2.2)) (fun (d0,g0,j0,k0,p0,q0,s0,t0,u0,v0,x0,y0,z0,A0,B0,C0)=>some (.ok (⟨(d0,g0,j0,k0,p0,q0,s0,t0),(u0,v0,x0,y0,z0,A0,B0,C0)⟩:Ta)))) (fun c0=>some (.error c0))
theorem bv_c (n:Nat) {L w} (hL:hl L w) {a0:List Ta} {v0_0:Value} (h0_0:Rep.R w L [v0_0] a0)  {r:Except Tc Ta} (h:bv_p n a0 = some r) :
 Cl 35 #[v0_0] w (aD w (fun (y:Ta) _ u=>u = .agg ((aa y)).toArray) (fun e=>.iface 116 (.agg #[vI e.fB])) r):=by
 unfold bv_p at h
 refine BF func35 rfl rfl rfl fun _ cs0 hb0 hp0=>Ac<|RG.nl zL (AB w) fun X1 K0 F0 K1=>Aa<|Ac<|xk h (fun J1 H0 h=>?_) (fun c0 H0 h=>?_)
 refine Bo (fst:=[]) (cap:=[]) .plain (bd 33) rfl (e2 rfl rfl) (fun p q=>ab_c n (F0.hL0 hL q)  H0) fun g2 v1=>?_
 obtain ⟨c1,Q1⟩:=F0.agr v1
 cases h
 exact Aq hp0 func35 ⟨c1.ag,rfl⟩
 refine Bi (.agg ((aa c0)).toArray) (bd 33) rfl (e2 rfl rfl) (fun p q=>AI (ab_c n (F0.hL0 hL q)  H0)) rfl<|RG.nl zL F0 fun j2 M0 g1 R1=>AS (aa c0) g1 .hd (ah rfl) fun k2 Q0 U1=>Aa<|Aj<|Ac<|Ae rfl ?_
 have U0:=AT h0_0 Q0
 have V1:a0.length <= 281474976710656:=Bh U0
 refine Ab (Bl (xs:=a0) underlying46 rfl U0)<|Ae rfl<|Aa<|Ay<|tn h fun W1 A1 R0=>MX.lo (α:=Nat × U16) (fun ⟨d0,g0,j0,k0,p0,q0,s0,t0,u0,v0,x0,y0,z0,A0,B0,C0,D0⟩=>[(2,vP K0),(3,vP M0),(7,v0_0),(8,vI ((a0.length:Nat):Int)),(9,vI ((d0:Nat):Int))]) (fun ⟨d0,g0,j0,k0,p0,q0,s0,t0,u0,v0,x0,y0,z0,A0,B0,C0,D0⟩=>[.cells M0 [vU g0,vU j0,vU k0,vU p0,vU q0,vU s0,vU t0,vU u0,vU v0,vU x0,vU y0,vU z0,vU A0,vU B0,vU C0,vU D0] 42,.cells K0 zL 42]) (fun ⟨d0,g0,j0,k0,p0,q0,s0,t0,u0,v0,x0,y0,z0,A0,B0,C0,D0⟩=>(d0,g0,j0,k0,p0,q0,s0,t0,u0,v0,x0,y0,z0,A0,B0,C0,D0)) (0,c0.fN.1,c0.fN.2.1,c0.fN.2.2.1,c0.fN.2.2.2.1,c0.fN.2.2.2.2.1,c0.fN.2.2.2.2.2.1,c0.fN.2.2.2.2.2.2.1,c0.fN.2.2.2.2.2.2.2,c0.fD.1,c0.fD.2.1,c0.fD.2.2.1,c0.fD.2.2.2.1,c0.fD.2.2.2.2.1,c0.fD.2.2.2.2.2.1,c0.fD.2.2.2.2.2.2.1,c0.fD.2.2.2.2.2.2.2) A1 Q0 ?_
 rintro E1 ⟨d0,g0,j0,k0,p0,q0,s0,t0,u0,v0,x0,y0,z0,A0,B0,C0,D0⟩ p2 W0 G0 j1 h
 unfold bv_l1 at h
 try dsimp only at h
 refine Ac<|Ab (Bn (i:=d0) (j:=a0.length) rfl rfl)<|Aa<|Aj<|AW rfl h (fun V0 h=>?_) (fun V0 h=>?_)
 refine Au<|Aj<|Ay<|Ac<|bk h fun J0 C1 h=>?_
 obtain ⟨D1,G1,x1,y1,H1,B1,z1⟩:=Br (AT h0_0 G0) C1
 obtain rfl:=bU B1
 refine Ab (Bu 16 d0 rfl x1 rfl rfl y1)<|Ab (AC rfl z1)<|RG.nl zL G0 fun Y1 F1 X0 k1=>AS (aa J0) X0 .hd (ah rfl) fun Z1 E0 p1=>Aa<|Am<|Ab (AC rfl (E0.memA .t1))<|Ab (AC rfl (E0.memA .hd))<|xk h (fun I1 I0 h=>?_) (fun b0 I0 h=>?_)
 have h:=ap h R0
 refine Bo (fst:=[]) (cap:=[]) .plain (bd 73) rfl (e2 rfl rfl) (fun p q=>aT_c n (E0.hL0 hL q) (⟨(g0,j0,k0,p0,q0,s0,t0,u0),(v0,x0,y0,z0,A0,B0,C0,D0)⟩:Ta) J0 I0) fun b2 u1=>?_
 obtain ⟨Y0,M1⟩:=E0.agr u1
 cases h
 exact Aq hp0 func35 ⟨Y0.ag,rfl⟩
 refine Bi (.agg ((aa b0)).toArray) (bd 73) rfl (e2 rfl rfl) (fun p q=>AI (aT_c n (E0.hL0 hL q) (⟨(g0,j0,k0,p0,q0,s0,t0,u0),(v0,x0,y0,z0,A0,B0,C0,D0)⟩:Ta) J0 I0)) rfl<|AS (aa b0) E0 .t1 (ah rfl) fun c2 Z0 q1=>Aa<|AE<|Am<|Ab (Bp (i:=d0) (j:=1) rfl rfl (by omega))<|Ae rfl<|Aa ?_
 obtain ⟨b1,s1⟩:=AF Z0 .d1
 exact W0 (d0 + 1,b0.fN.1,b0.fN.2.1,b0.fN.2.2.1,b0.fN.2.2.2.1,b0.fN.2.2.2.2.1,b0.fN.2.2.2.2.2.1,b0.fN.2.2.2.2.2.2.1,b0.fN.2.2.2.2.2.2.2,b0.fD.1,b0.fD.2.1,b0.fD.2.2.1,b0.fD.2.2.2.1,b0.fD.2.2.2.2.1,b0.fD.2.2.2.2.2.1,b0.fD.2.2.2.2.2.2.1,b0.fD.2.2.2.2.2.2.2) b1 (Tt j1 (Tt k1 (Tt p1 (Tt q1 s1)))) h
 refine Bf rfl ?_
 have h:=aH h R0
 try dsimp only at h
 refine Ac<|Ab (AC rfl (G0.memA .hd))<|AS [vU g0,vU j0,vU k0,vU p0,vU q0,vU s0,vU t0,vU u0,vU v0,vU x0,vU y0,vU z0,vU A0,vU B0,vU C0,vU D0] G0 .t1 (ah rfl) fun d2 P0 P1=>Aa<|Ao rfl<|Ap hb0 func35 rfl (.cons (.many (cs:=[vU g0,vU j0,vU k0,vU p0,vU q0,vU s0,vU t0,vU u0,vU v0,vU x0,vU y0,vU z0,vU A0,vU B0,vU C0,vU D0]) rfl rfl (P0.memA .t1)) .nil) rfl ?_
 cases h
 exact ⟨P0.ag,fun p q=>ay rfl⟩
def ar_l1 (n:Nat) (j0:List Tg) (d0:Int) (p0:Int) (q0:Nat × (List Ta) -> Option ((Except Tc Ta) ⊕ (List Ta))):Nat × (List Ta) -> Option ((Except Tc Ta) ⊕ (List Ta))
  | (c0,g0)=>(if c0 < j0.length then (j0[c0]?).bind fun b0=>(ab_p n b0.fG d0).bind fun A0=>exc A0 (fun B0=>(chk (b0.fall - b0.fG)).bind fun x0=>(chk (p0 - d0)).bind fun y0=>(ab_p n x0 y0).bind fun C0=>exc C0 (fun D0=>(aZ_p n B0 D0).bind fun E0=>exc E0 (fun F0=>(cC_p n F0).bind fun k0=>(ae_p n k0.1 k0.2).bind fun G0=>exc G0 (fun H0=>(app g0 ([H0]:List Ta)).bind fun z0=>q0 (c0 + 1,z0)) (fun v0=>some (.inl (.error v0)))) (fun u0=>some (.inl (.error u0)))) (fun t0=>some (.inl (.error t0)))) (fun s0=>(chk (b0.fall - b0.fG)).bind fun _s325=>(chk (p0 - d0)).bind fun _s326=>some (.inl (.error s0))) else some (.inr g0))
def ar_l2 (_n:Nat) (d0:List Tg) (k0:Nat × Int × Int -> Option (Int × Int)):Nat × Int × Int -> Option (Int × Int)
  | (b0,g0,j0)=>(if b0 < d0.length then (d0[b0]?).bind fun c0=>(chk (g0 + c0.fG)).bind fun p0=>(chk (j0 + c0.fall)).bind fun q0=>k0 (b0 + 1,p0,q0) else some (g0,j0))
def ar_p (n:Nat) (a0:Tf) (a1:List Int) (a2:Int) (a3:Int):Option (Except Tc Ta):=
  (al_p n a0 a1 a2 a3).bind fun s0=>exc s0 (fun c0=>Option.bind (ao (ar_l2 n c0) n (0,0,0)) (fun (b0,d0)=>(if b0 = 0 then some (.error (⟨(7:Int)⟩:Tc)) else (if b0 = d0 then some (.error (⟨(7:Int)⟩:Tc)) else thn (ao (ar_l1 n c0 b0 d0) n (0,([]:List Ta))) (fun q0=>(bv_p n q0).bind fun t0=>exc t0 (fun u0=>(ab_p n (2:Int) (1:Int)).bind fun v0=>exc v0 (fun x0=>(bb_p n u0 x0).bind fun y0=>exc y0 (fun z0=>some (.ok z0)) (fun p0=>some (.error p0))) (fun k0=>some (.error k0))) (fun j0=>some (.error j0))))))) (fun g0=>some (.error g0))
theorem ar_c (n:Nat) {L w} (hL:hl L w) (a0:Tf) {v0_3:Value} (h0_3:Rep.R w L [v0_3] a0.fu) {p0:Nat} (m0:∀ j9 v9,([vI a0.fj,vI a0.fh,vI a0.fl,v0_3]:List Value)[j9]? = some v9 -> w.cell? ((⟨p0,0,none⟩:Addr).add j9) = some v9) {a1:List Int} {v1_0:Value} (h1_0:Rep.R w L [v1_0] a1) {p1:Nat} (m1:∀ j9 v9,([v1_0]:List Value)[j9]? = some v9 -> w.cell? ((⟨p1,0,none⟩:Addr).add j9) = some v9) {a2:Int} {p2:Nat} (m2:∀ j9 v9,([vI a2]:List Value)[j9]? = some v9 -> w.cell? ((⟨p2,0,none⟩:Addr).add j9) = some v9) {a3:Int} {p3:Nat} (m3:∀ j9 v9,([vI a3]:List Value)[j9]? = some v9 -> w.cell? ((⟨p3,0,none⟩:Addr).add j9) = some v9)  {r:Except Tc Ta} (h:ar_p n a0 a1 a2 a3 = some r) :
 Cl 27 #[.pointer (some ⟨p0,0,none⟩),.pointer (some ⟨p1,0,none⟩),.pointer (some ⟨p2,0,none⟩),.pointer (some ⟨p3,0,none⟩)] w (aD w (fun (y:Ta) _ u=>u = .agg ((aa y)).toArray) (fun e=>.iface 116 (.agg #[vI e.fB])) r):=by
 unfold ar_p at h
 refine BF func27 rfl rfl rfl fun _ cs0 hb0 hp0=>Ac<|RG.nl zL (AB w) fun V4 C0 q0 t4=>Aa<|Ac<|Ab (AC rfl (fun j9 v9 h9=>q0.ag.cell0 (m0 j9 v9 h9)))<|AU rfl ((fun j9 v9 h9=>q0.ag.cell0 (m1 j9 v9 h9)) 0 _ rfl)<|AU rfl ((fun j9 v9 h9=>q0.ag.cell0 (m2 j9 v9 h9)) 0 _ rfl)<|AU rfl ((fun j9 v9 h9=>q0.ag.cell0 (m3 j9 v9 h9)) 0 _ rfl)<|xk h (fun c4 U0 h=>?_) (fun A0 U0 h=>?_)
 refine Bo (fst:=[]) (cap:=[]) .plain (bd 28) rfl (e4 rfl rfl rfl rfl) (fun p q=>al_c n (q0.hL hL q) a0 (q0.km h0_3 q) (q0.km h1_0 q) U0) fun b5 E2=>?_
 obtain ⟨U1,u4⟩:=q0.agr E2
 cases h
 exact Aq hp0 func27 ⟨U1.ag,rfl⟩
 refine jE (bd 28) rfl (e4 rfl rfl rfl rfl) (fun p q=>AI (al_c n (q0.hL hL q) a0 (q0.km h0_3 q) (q0.km h1_0 q) U0)) rfl fun c5 j1 F2 ⟨U4,hu_,I0⟩=>?_
 subst hu_
 obtain ⟨V1,v4⟩:=q0.agr F2
 refine Ag rfl<|Aa<|Ac<|RG.nl [vI 0,vI 0] V1 fun d5 D0 X1 H0=>Aa<|Aj<|Ac<|Ae rfl ?_
 have B1:=Az I0 H0
 have I4:A0.length <= 281474976710656:=Bh B1
 refine Ab (Bl (xs:=A0) underlying74 rfl B1)<|Ae rfl<|Aa<|Ay ?_
 obtain ⟨J4,c3,W2⟩:=ax h
 refine MX.lo (α:=Nat × Int × Int) (fun ⟨u0,j0,g0⟩=>[(4,vP C0),(5,j1),(6,vP D0),(17,j1),(18,vI ((A0.length:Nat):Int)),(19,vI ((u0:Nat):Int))]) (fun ⟨u0,j0,g0⟩=>[.cells D0 [vI j0,vI g0] 77,.cells C0 zL 42]) (fun ⟨u0,j0,g0⟩=>(u0,j0,g0)) (0,0,0) c3 X1 ?_
 rintro J3 ⟨u0,j0,g0⟩ A5 K1 v0 G0 h
 unfold ar_l2 at h
 try dsimp only at h
 refine Ac<|Ab (Bn (i:=u0) (j:=A0.length) rfl rfl)<|Aa<|Aj<|AW rfl h (fun F1 h=>?_) (fun F1 h=>?_)
 refine Au<|Aj<|Ay<|Ac<|bk h fun J0 B3 h=>?_
 obtain ⟨H3,R3,U2,X2,V3,s3,Z2⟩:=Br (Az I0 (Tt H0 G0)) B3
 obtain rfl:=eD s3
 refine Ab (Bu 2 u0 rfl U2 rfl rfl X2)<|Ab (AC rfl Z2)<|RG.nl [vI 0,vI 0] v0 fun W4 M3 P1 u2=>AS [vI J0.fG,vI J0.fall] P1 .hd (ah rfl) fun X4 M0 v2=>Aa<|Ac<|Bg 0 rfl<|AU rfl ((M0.memA .t1) 0 _ rfl)<|Bg 0 rfl<|AU rfl ((M0.memA .hd) 0 _ rfl)<|bk h fun F0 u3 h=>Ab (BH (i:=j0) (j:=J0.fG) rfl rfl u3)<|Bg 0 rfl<|RG.now .plain (Bs (j:=0) (old:=[vI j0,vI g0]) (news:=[vI F0]) (new' :=[vI F0,vI g0]) M0 .t1 rfl rfl rfl rfl rfl rfl (o1 rfl) rfl) fun Y4 P0 x2=>Aa<|Am<|Bg 1 rfl<|AU rfl ((P0.memA .t1) 1 _ rfl)<|Bg 1 rfl<|AU rfl ((P0.memA .hd) 1 _ rfl)<|bk h fun g1 v3 h=>Ab (BH (i:=g0) (j:=J0.fall) rfl rfl v3)<|Bg 1 rfl<|RG.now .plain (Bs (j:=1) (old:=[vI F0,vI g0]) (news:=[vI g1]) (new' :=[vI F0,vI g1]) P0 .t1 rfl rfl rfl rfl rfl rfl (o1 rfl) rfl) fun Z4 Q1 y2=>Aa<|AE<|Am<|Ab (Bp (i:=u0) (j:=1) rfl rfl (by omega))<|Ae rfl<|Aa ?_
 obtain ⟨R1,z2⟩:=AF Q1 .d1
 exact K1 (u0 + 1,F0,g1) R1 (Tt G0 (Tt u2 (Tt v2 (Tt x2 (Tt y2 z2))))) h
 refine Bf rfl ?_
 have h:=W2 _ h
 try dsimp only at h
 refine Ac<|Bg 0 rfl<|AU rfl ((v0.memA .hd) 0 _ rfl)<|Ab (FV.eql (i:=j0) (j:=0) rfl rfl)<|Ae rfl<|RG.ifd (s:=39) rfl h (fun G1 h=>?_) (fun G1 h=>?_)
 refine AL<|AL<|AL<|AL<|AL<|RG.pt rfl rfl<|Bk (fst:=[]) (cap:=[]) (vs:=[.bool true,vI 7]) .plain (bd 29) func29 rfl rfl rfl rfl (e2 rfl rfl) rfl fun W3 F4 g3=>Ac<|Ae rfl<|Aa<|Be rfl<|Am<|Ae rfl<|Bk (fst:=[]) (cap:=[]) (vs:=[vI 7]) .plain (bd 53) func53 rfl rfl rfl rfl (e1 rfl) rfl fun X3 G4 j3=>Ac<|Ae rfl<|Ab (FV.neqN (i:=7) (j:=0) rfl rfl)<|Aa<|Be rfl<|Am<|Ae rfl<|Ab (AO (vs:=[vI 7]) (u:=.agg #[vI 7]) (e1 rfl) (fun p=>by kernel_rfl))<|Ab (Bw rfl rfl)<|RG.panic .plain rfl<|Aq j3 func53<|Aq g3 func29 ?_
 cases h
 exact Aq hp0 func27 ⟨v0.ag,rfl⟩
 refine RG.fg 0 rfl<|AX (AQ rfl ((v0.memA .hd) 0 _ rfl))<|RG.fg 1 rfl<|AX (AQ rfl ((v0.memA .hd) 1 _ rfl))<|AX (FV.eql (i:=j0) (j:=g0) rfl rfl)<|RG.pf rfl rfl<|Bk (fst:=[]) (cap:=[]) (vs:=[.bool (decide (j0 = g0)),vI 7]) .plain (bd 29) func29 rfl rfl rfl rfl (e2 rfl rfl) rfl fun Y3 Q2 k3=>Ac<|Ae rfl<|Aa<|AW rfl h (fun H1 h=>?_) (fun H1 h=>?_)
 refine Am<|Ae rfl<|Bk (fst:=[]) (cap:=[]) (vs:=[vI 7]) .plain (bd 53) func53 rfl rfl rfl rfl (e1 rfl) rfl fun Z3 H4 q3=>Ac<|Ae rfl<|Ab (FV.neqN (i:=7) (j:=0) rfl rfl)<|Aa<|Be rfl<|Am<|Ae rfl<|Ab (AO (vs:=[vI 7]) (u:=.agg #[vI 7]) (e1 rfl) (fun p=>by kernel_rfl))<|Ab (Bw rfl rfl)<|RG.panic .plain rfl<|Aq q3 func53<|Aq k3 func29 ?_
 cases h
 exact Aq hp0 func27 ⟨v0.ag,rfl⟩
 refine Au<|MX.fin rfl<|Ap (u:=.tuple #[]) Q2 func29 rfl .nil rfl<|Aa<|Ac<|Ag rfl<|Aa<|Aj<|Ac<|Ae rfl<|Ab (Bl (xs:=A0) underlying74 rfl (Az I0 (Tt H0 G0)))<|Ae rfl<|Aa<|Ay ?_
 have x1:=v0.nilRow 42 (Rep.size Ta)
 refine tn h fun K4 d3 E0=>MX.lf (α:=Nat × (List Ta) × Value × (List Value)) (fun ⟨s0,x0,z0,y0⟩=>[(4,vP C0),(6,vP D0),(9,z0),(47,j1),(48,vI ((A0.length:Nat):Int)),(49,vI ((s0:Nat):Int))]) (fun ⟨s0,x0,z0,y0⟩=>[rr w 42 Ta z0 x0.length y0,.cells D0 [vI j0,vI g0] 77,.cells C0 zL 42]) (fun ⟨s0,x0,z0,y0⟩ D1=>Cells D1 (bl [rr w 42 Ta z0 x0.length y0,.cells D0 [vI j0,vI g0] 77,.cells C0 zL 42] ++ L) y0 x0) (fun ⟨s0,x0,z0,y0⟩=>(s0,x0)) (0,([]:List Ta),vN,[]) d3 x1 (AH (cs:=[]) (xs:=([]:List Ta)) x1 L (AR _ _)) ?_
 rintro K3 ⟨s0,x0,z0,y0⟩ D1 M1 k0 z1 R0 h
 unfold ar_l1 at h
 try dsimp only at h
 refine Ac<|Ab (Bn (i:=s0) (j:=A0.length) rfl rfl)<|Aa<|Aj<|AW rfl h (fun I1 h=>?_) (fun I1 h=>?_)
 refine Au<|Aj<|Ay<|Ac<|bk h fun B0 C3 h=>?_
 obtain ⟨I3,U3,V2,Y2,b4,t3,b3⟩:=Br (Az I0 (Tt H0 (Tt G0 (Tt (St.nilRowT v0 42 (Rep.size Ta)) z1)))) C3
 obtain rfl:=eD t3
 refine Ab (Bu 2 s0 rfl V2 rfl rfl Y2)<|Ab (AC rfl b3)<|RG.nl [vI 0,vI 0] k0 fun g5 P3 W1 A2=>AS [vI B0.fG,vI B0.fall] W1 .hd (ah rfl) fun j5 d0 B2=>Aa<|du 23 fun b0 c0=>Rv 0 b0 rfl c0 (fun _=>Ak rfl)<|Rv 1 b0 rfl c0 (fun _=>AP 0 rfl)<|Rx 2 33488928 b0 rfl c0 (AQ rfl ((d0.memA .hd) 0 _ rfl))<|Rv 3 b0 rfl c0 (fun _=>AP 0 rfl)<|Rx 4 33488928 b0 rfl c0 (AQ rfl ((d0.memA .t2) 0 _ rfl))<|xk h (fun d4 V0 h=>?_) (fun k1 V0 h=>?_)
 refine Rv 6 b0 rfl c0 (fun _=>AP 1 rfl)<|Rx 7 33489920 b0 rfl c0 (AQ rfl ((d0.memA .hd) 1 _ rfl))<|Rv 8 b0 rfl c0 (fun _=>AP 0 rfl)<|Rx 9 33489920 b0 rfl c0 (AQ rfl ((d0.memA .hd) 0 _ rfl))<|bk h fun M4 x3 h=>Rv 10 b0 rfl c0 (fun _=>FV.subc (i:=B0.fall) (j:=B0.fG) rfl rfl x3)<|Rv 11 b0 rfl c0 (fun _=>AP 1 rfl)<|Rx 12 33521664 b0 rfl c0 (AQ rfl ((d0.memA .t2) 1 _ rfl))<|Rv 13 b0 rfl c0 (fun _=>AP 0 rfl)<|Rx 14 33521664 b0 rfl c0 (AQ rfl ((d0.memA .t2) 0 _ rfl))<|bk h fun P4 y3 h=>Rv 15 b0 rfl c0 (fun _=>FV.subc (i:=g0) (j:=j0) rfl rfl y3) ?_
 have h:=ap h E0
 refine AM (i:=5) (rk b0) (Bj (fst:=[]) (cap:=[]) rfl .plain (bd 33) rfl (e2 rfl rfl) (fun p q=>ab_c n (d0.hL0 hL q)  V0) (fun k5 G2=>?_))
 obtain ⟨Y1,x4⟩:=d0.agr G2
 cases h
 exact Aq hp0 func27 ⟨Y1.ag,rfl⟩
 refine BD 5 63 33488896 (.agg ((aa k1)).toArray) b0 rfl c0 (bd 33) rfl (e2 rfl rfl) (fun p q=>AI (ab_c n (d0.hL0 hL q)  V0)) rfl<|Rv 6 b0 rfl c0 (fun _=>AP 1 rfl)<|Rx 7 33489920 b0 rfl c0 (AQ rfl ((d0.memA .hd) 1 _ rfl))<|Rv 8 b0 rfl c0 (fun _=>AP 0 rfl)<|Rx 9 33489920 b0 rfl c0 (AQ rfl ((d0.memA .hd) 0 _ rfl))<|bk h fun Q4 z3 h=>Rv 10 b0 rfl c0 (fun _=>FV.subc (i:=B0.fall) (j:=B0.fG) rfl rfl z3)<|Rv 11 b0 rfl c0 (fun _=>AP 1 rfl)<|Rx 12 33521664 b0 rfl c0 (AQ rfl ((d0.memA .t2) 1 _ rfl))<|Rv 13 b0 rfl c0 (fun _=>AP 0 rfl)<|Rx 14 33521664 b0 rfl c0 (AQ rfl ((d0.memA .t2) 0 _ rfl))<|bk h fun R4 A3 h=>Rv 15 b0 rfl c0 (fun _=>FV.subc (i:=g0) (j:=j0) rfl rfl A3)<|xk h (fun g4 W0 h=>?_) (fun q1 W0 h=>?_)
 have h:=ap h E0
 refine AM (i:=16) (rk b0) (Bj (fst:=[]) (cap:=[]) rfl .plain (bd 33) rfl (e2 rfl rfl) (fun p q=>ab_c n (d0.hL0 hL q)  W0) (fun p5 H2=>?_))
 obtain ⟨Z1,y4⟩:=d0.agr H2
 cases h
 exact Aq hp0 func27 ⟨Z1.ag,rfl⟩
 refine BD 16 131071 33423360 (.agg ((aa q1)).toArray) b0 rfl c0 (bd 33) rfl (e2 rfl rfl) (fun p q=>AI (ab_c n (d0.hL0 hL q)  W0)) rfl<|xk h (fun j4 X0 h=>?_) (fun E1 X0 h=>?_)
 have h:=ap h E0
 refine AM (i:=17) (rk b0) (Bj (fst:=[]) (cap:=[]) rfl .plain (bd 32) rfl (e2 rfl rfl) (fun p q=>aZ_c n (d0.hL0 hL q) k1 q1 X0) (fun q5 I2=>?_))
 obtain ⟨b2,z4⟩:=d0.agr I2
 cases h
 exact Aq hp0 func27 ⟨b2.ag,rfl⟩
 refine BD 17 262143 33292288 (.agg ((aa E1)).toArray) b0 rfl c0 (bd 32) rfl (e2 rfl rfl) (fun p q=>AI (aZ_c n (d0.hL0 hL q) k1 q1 X0)) rfl<|bk h fun K0 E3 h=>BD 18 524287 33030144 (.tuple #[.agg ((aa K0.1)).toArray,vI K0.2]) b0 rfl c0 (bd 31) rfl (e1 rfl) (fun p q=>cC_c n (d0.hL0 hL q) E1 E3) rfl<|Rv 19 b0 rfl c0 (fun _=>Ah rfl rfl)<|Rv 20 b0 rfl c0 (fun _=>Ah rfl rfl)<|xk h (fun k4 Y0 h=>?_) (fun t0 Y0 h=>?_)
 have h:=ap h E0
 refine AM (i:=21) (rk b0) (Bj (fst:=[]) (cap:=[]) rfl .plain (bd 30) rfl (e2 rfl rfl) (fun p q=>ae_c n (d0.hL0 hL q) K0.1 Y0) (fun s5 J2=>?_))
 obtain ⟨c2,A4⟩:=d0.agr J2
 cases h
 exact Aq hp0 func27 ⟨c2.ag,rfl⟩
 refine BD 21 4194303 29360128 (.agg ((aa t0)).toArray) b0 rfl c0 (bd 30) rfl (e2 rfl rfl) (fun p q=>AI (ae_c n (d0.hL0 hL q) K0.1 Y0)) rfl<|RD.nu 22 8388607 b0 rfl .plain rfl (Bb (α:=Ta) (xs:=([t0]:List Ta)) (vs:=[.agg ((aa t0)).toArray]) (ds' :=(aa t0)) rfl d0 cN rfl (e1 rfl) (by kernel_rfl) rfl) fun t5 Q3 Q0 C2=>bk h fun G3 D3 h=>?_
 have C1:=Tt A2 (Tt B2 C2)
 refine AM (i:=23) (rk b0) (RO.doesL (m' :=16777215) (sk b0) rfl rfl .plain rfl (DoesL.app (α:=Ta) (ys:=([t0]:List Ta)) D3 Q0 (fun _ _=>.t2) cN rfl rfl (AN R0 C1) (Src.row (α:=Ta) Q0 .hd (AH (cs:=(aa t0)) (xs:=(([t0]:List Ta):List Ta)) Q0 L (Ar (cs:=(aa t0)) (ds:=[]) (aU t0.fN t0.fD) (AR _ _))))) (fun F3 u5 ⟨J1,g2,D2,R2⟩=>?_))
 refine AM (i:=24) (rk b0) (Bd (m' :=33554431) (sk b0) rfl .plain rfl (Ba rfl) ?_)
 refine AJ (dk b0)<|AE<|Am<|Ab (Bp (i:=s0) (j:=1) rfl rfl (by omega))<|Ae rfl<|Aa ?_
 obtain ⟨j2,A1⟩:=AF g2 .d2
 exact M1 (s0 + 1,G3,F3,J1) j2 (Tt z1 (Tt C1 (Tt D2 A1))) (AN R2 A1) h
 refine Bf rfl ?_
 have h:=aH h E0
 try dsimp only at h
 refine Ac<|Ae rfl<|xk h (fun p4 Z0 h=>?_) (fun s1 Z0 h=>?_)
 refine Bo (fst:=[]) (cap:=[]) .plain (bd 35) rfl (e1 rfl) (fun p q=>bv_c n (k0.hL0 hL q) (Av (St.lend (α:=Ta) (L:=L) k0 .hd R0 hL) q) Z0) fun v5 K2=>?_
 obtain ⟨k2,B4⟩:=k0.agr K2
 cases h
 exact Aq hp0 func27 ⟨k2.ag,rfl⟩
 refine Bi (.agg ((aa s1)).toArray) (bd 35) rfl (e1 rfl) (fun p q=>AI (bv_c n (k0.hL0 hL q) (Av (St.lend (α:=Ta) (L:=L) k0 .hd R0 hL) q) Z0)) rfl<|xk h (fun q4 b1 h=>?_) (fun u1 b1 h=>?_)
 refine Bo (fst:=[]) (cap:=[]) .plain (bd 33) rfl (e2 rfl rfl) (fun p q=>ab_c n (k0.hL0 hL q)  b1) fun x5 M2=>?_
 obtain ⟨q2,C4⟩:=k0.agr M2
 cases h
 exact Aq hp0 func27 ⟨q2.ag,rfl⟩
 refine Bi (.agg ((aa u1)).toArray) (bd 33) rfl (e2 rfl rfl) (fun p q=>AI (ab_c n (k0.hL0 hL q)  b1)) rfl<|xk h (fun s4 c1 h=>?_) (fun v1 c1 h=>?_)
 refine Bo (fst:=[]) (cap:=[]) .plain (bd 34) rfl (e2 rfl rfl) (fun p q=>bb_c n (k0.hL0 hL q) s1 u1 c1) fun y5 P2=>?_
 obtain ⟨s2,D4⟩:=k0.agr P2
 cases h
 exact Aq hp0 func27 ⟨s2.ag,rfl⟩
 refine Bi (.agg ((aa v1)).toArray) (bd 34) rfl (e2 rfl rfl) (fun p q=>AI (bb_c n (k0.hL0 hL q) s1 u1 c1)) rfl<|AS (aa v1) k0 .t2 (ah rfl) fun z5 y1 E4=>Aa<|Ao rfl<|Ap hb0 func27 rfl (.cons (.many (cs:=(aa v1)) rfl rfl (y1.memA .t2)) .nil) rfl ?_
 cases h
 exact ⟨y1.ag,fun p q=>ay rfl⟩
def aN_p (n:Nat) (a0:Tf) (a1:List Int) (a2:Int) (a3:Int):Option (Ta × Int):=
  (ar_p n a0 a1 a2 a3).bind fun c0=>exc c0 (fun d0=>some (d0,(0:Int))) (fun b0=>some ((⟨(0,0,0,0,0,0,0,0),(0,0,0,0,0,0,0,0)⟩:Ta),b0.fB))
theorem aN_c (n:Nat) {L w} (hL:hl L w) (a0:Tf) {v0_3:Value} (h0_3:Rep.R w L [v0_3] a0.fu) {a1:List Int} {v1_0:Value} (h1_0:Rep.R w L [v1_0] a1) {a2:Int} {a3:Int}  {r:Ta × Int} (h:aN_p n a0 a1 a2 a3 = some r) :
 Cl 8 #[.agg #[vI a0.fj,vI a0.fh,vI a0.fl,v0_3],v1_0,vI a2,vI a3] w (aj w fun _ u=>u = .tuple #[.agg ((aa r.1)).toArray,vI r.2]):=by
 unfold aN_p at h
 refine AG func8 rfl rfl rfl fun _ cs0 hb0=>Ac<|RG.bx (AB w) rfl rfl fun X1 j0 E0 F1=>RG.bx E0 rfl (Rep.c1 (AT h1_0 E0)) fun j2 p0 R0 H1=>RG.bx R0 rfl rfl fun k2 q0 U0 I1=>RG.bx U0 rfl rfl fun p2 s0 V0 J1=>RG.nl zL V0 fun w32 J0 W0 K1=>Ag rfl<|Aa<|Ac<|Ab (BG (vs:=[]) (us:=[vP j0,vP p0,vP q0,vP s0]) ak (e4 rfl rfl rfl rfl))<|Bk (fst:=[]) (cap:=[]) (vs:=[.func (.func 27) #[] #[vP j0,vP p0,vP q0,vP s0]]) .plain (bd 26) func26 rfl rfl rfl rfl (e1 rfl) rfl fun z1 H0 W1=>Ac<|RG.nl zL W0 fun q2 t0 X0 M1=>RG.nl [vI 0] X0 fun s2 d0 b0 P1=>Aa<|Ac<|Ab (BG (vs:=[]) (us:=[vP t0,vP d0]) ak (e2 rfl rfl))<|RG.defer (fst:=[]) (cap:=[vP t0,vP d0]) (vs:=[]) rfl .plain rfl ak<|Aa<|Ac ?_
 refine Ae rfl<|xk h (fun v0 B0 h=>?_) (fun g0 B0 h=>?_)
 refine Bo (fst:=[]) (cap:=[vP j0,vP p0,vP q0,vP s0]) .plain (bd 27) rfl ak (fun p q=>ar_c n (b0.hL0 hL q) a0 (b0.k0 h0_3 q) (ai q (b0.memA .t6)) (b0.k0 h1_0 q) (ai q (b0.memA .t5)) (ai q (b0.memA .t4)) (ai q (b0.memA .t3)) B0) fun u2 j1=>?_
 obtain ⟨Y0,Q1⟩:=b0.agr j1
 refine PN.callD (vs:=[]) (cap:=[vP t0,vP d0]) (bd 64) func64 rfl rfl rfl fun y1 k1 q1=>Ac<|RG.recover1 .plain k1 rfl<|Ag rfl<|Aa<|Ac<|Ae rfl<|Ab (FV.neqI underlying20 rfl rfl)<|Aa<|Be rfl<|Ac<|Ae rfl<|Ab (FV.assertT rfl rfl)<|Ae rfl<|Ab (Ah rfl rfl)<|Ab (Ah rfl rfl)<|RG.nl [vI 0] Y0 fun v2 u1 Z0 R1=>AS [vI v0.fB] Z0 .hd (o1 rfl) fun x2 b1 U1=>Ag rfl<|Aa<|Aj<|Ac<|Ae rfl<|Ab (FV.not rfl)<|Aa<|BA rfl<|Au<|Ac<|RG.nl zL b1 fun y2 v1 u0 V1=>Aa<|du 3 fun c0 C0=>Rx 0 24 c0 rfl C0 (AC rfl (u0.memA .hd))<|Rv 1 c0 rfl C0 (fun _=>AP 0 rfl)<|RD.mo (α:=Unit) (fun ()=>[(1,vP d0),(19,vI v0.fB)]) (fun ()=>[.cells d0 [vI 0] 43,.cells t0 zL 42,.cells J0 zL 42,.cells s0 [vI a3] 3,.cells q0 [vI a2] 3,.cells p0 [v1_0] 30,.cells j0 [vI a0.fj,vI a0.fh,vI a0.fl,v0_3] 35]) u0 1 15 ?_ ?_
 rintro ⟨⟩ z2 K0 A1
 try dsimp only
 refine By 4 31 c0 rfl rfl .plain (AA (news:=[vI v0.fB]) K0 .hd rfl rfl rfl rfl rfl rfl (o1 rfl)) fun Y1 y0 B1=>AJ (dk c0)<|MX.fin rfl<|RT.leaveD1 q1 func64 rfl .nil<|Ap (u:=.tuple #[.agg zM,vI v0.fB]) H0 func26 rfl (.cons (.many (cs:=zL) rfl rfl (y0.memA .t1)) (.cons (.one rfl rfl ((y0.memA .hd) 0 _ rfl)) .nil)) rfl<|Ab (Ah rfl rfl)<|Ab (Ah rfl rfl)<|AS zL y0 .t2 (ah rfl) fun Z1 F0 C1=>Ag rfl<|Aa<|Ao rfl<|Ap hb0 func8 rfl (.cons (.many (cs:=zL) rfl rfl (F0.memA .t2)) (.cons (.tmp rfl) .nil)) rfl ?_
 cases h
 exact F0.gv
 intro D0
 refine BB [2,3] (rk c0) ⟨?_,?_,trivial⟩
 refine Bd (m' :=7) (sk c0) rfl .plain rfl (AQ rfl ((u0.memA .t1) 0 _ rfl))<|By 3 15 c0 rfl rfl .plain (AA (news:=zL) u0 .t3 rfl rfl rfl rfl rfl rfl (ah rfl)) fun s1 x0 A0=>?_
 obtain ⟨M0,d1⟩:=AF x0 .d2
 exact D0 () M0 (Tt A0 d1)
 refine RO.now (m' :=11) (sk c0) rfl rfl .plain (AA (news:=zL) u0 .t3 rfl rfl rfl rfl rfl rfl (ah rfl)) fun s1 x0 A0=>Rx 2 16 c0 rfl C0 (AQ rfl ((x0.memA .t1) 0 _ rfl)) ?_
 obtain ⟨P0,g1⟩:=AF x0 .d2
 exact D0 () P0 (Tt A0 g1)
 refine RG.callq' (v:=.agg ((aa g0)).toArray) (fst:=[]) (cap:=[vP j0,vP p0,vP q0,vP s0]) .plain (bd 27) rfl ak (fun p q=>AI (ar_c n (b0.hL0 hL q) a0 (b0.k0 h0_3 q) (ai q (b0.memA .t6)) (b0.k0 h1_0 q) (ai q (b0.memA .t5)) (ai q (b0.memA .t4)) (ai q (b0.memA .t3)) B0)) rfl<|AS (aa g0) b0 .t1 (ah rfl) fun b2 Q0 D1=>AS [vI 0] Q0 .hd (o1 rfl) fun c2 z0 E1=>Aa<|Ao rfl<|RT.callD (vs:=[]) (cap:=[vP t0,vP d0]) (bd 64) func64 rfl rfl rfl fun x1 I0 p1=>Ac<|RG.recover0 .plain I0 rfl<|Ag rfl<|Aa<|Ac<|Ae rfl<|Ab (FV.neqI0 underlying20 rfl rfl)<|Aa<|BA rfl<|Au<|MX.fin rfl<|RT.leaveD0 I0 p1 func64 rfl .nil<|Ap (u:=.tuple #[.agg ((aa g0)).toArray,vI 0]) H0 func26 rfl (.cons (.many (cs:=(aa g0)) rfl rfl (z0.memA .t1)) (.cons (.one rfl rfl ((z0.memA .hd) 0 _ rfl)) .nil)) rfl<|Ab (Ah rfl rfl)<|Ab (Ah rfl rfl)<|AS (aa g0) z0 .t2 (ah rfl) fun g2 G0 G1=>Ag rfl<|Aa<|Ao rfl<|Ap hb0 func8 rfl (.cons (.many (cs:=(aa g0)) rfl rfl (G0.memA .t2)) (.cons (.tmp rfl) .nil)) rfl ?_
 cases h
 exact G0.gv
def aS_p (n:Nat) (a0:Tg):Option (Except Tc Ta):=
  (if a0.fall = 0 then (ab_p n (0:Int) (1:Int)).bind fun d0=>exc d0 (fun g0=>some (.ok g0)) (fun b0=>some (.error b0)) else (ab_p n a0.fG a0.fall).bind fun j0=>exc j0 (fun k0=>some (.ok k0)) (fun c0=>some (.error c0)))
theorem aS_c (n:Nat) {L w} (hL:hl L w) (a0:Tg)  {r:Except Tc Ta} (h:aS_p n a0 = some r) :
 Cl 38 #[.agg #[vI a0.fG,vI a0.fall]] w (aD w (fun (y:Ta) _ u=>u = .agg ((aa y)).toArray) (fun e=>.iface 116 (.agg #[vI e.fB])) r):=by
 unfold aS_p at h
 refine BF func38 rfl rfl rfl fun _ cs0 hb0 hp0=>Ac<|RG.bx (AB w) rfl rfl fun I0 y0 s0 C0=>RG.nl zL s0 fun J0 z0 b0 D0=>Aa<|Aj<|Ac<|Bg 1 rfl<|AU rfl ((b0.memA .t1) 1 _ rfl)<|Ab (FV.eql (i:=a0.fall) (j:=0) rfl rfl)<|Aa<|AW rfl h (fun q0 h=>?_) (fun q0 h=>?_)
 refine Ac<|xk h (fun A0 c0 h=>?_) (fun g0 c0 h=>?_)
 refine Bo (fst:=[]) (cap:=[]) .plain (bd 33) rfl (e2 rfl rfl) (fun p q=>ab_c n (b0.hL0 hL q)  c0) fun K0 v0=>?_
 obtain ⟨t0,E0⟩:=b0.agr v0
 cases h
 exact Aq hp0 func38 ⟨t0.ag,rfl⟩
 refine Bi (.agg ((aa g0)).toArray) (bd 33) rfl (e2 rfl rfl) (fun p q=>AI (ab_c n (b0.hL0 hL q)  c0)) rfl<|AS (aa g0) b0 .hd (ah rfl) fun M0 k0 F0=>Aa<|Ao rfl<|Ap hb0 func38 rfl (.cons (.many (cs:=(aa g0)) rfl rfl (k0.memA .hd)) .nil) rfl ?_
 cases h
 exact ⟨k0.ag,fun p q=>ay rfl⟩
 refine Au<|Ac<|Bg 0 rfl<|AU rfl ((b0.memA .t1) 0 _ rfl)<|Bg 1 rfl<|AU rfl ((b0.memA .t1) 1 _ rfl)<|xk h (fun B0 d0 h=>?_) (fun j0 d0 h=>?_)
 refine Bo (fst:=[]) (cap:=[]) .plain (bd 33) rfl (e2 rfl rfl) (fun p q=>ab_c n (b0.hL0 hL q)  d0) fun P0 x0=>?_
 obtain ⟨u0,G0⟩:=b0.agr x0
 cases h
 exact Aq hp0 func38 ⟨u0.ag,rfl⟩
 refine Bi (.agg ((aa j0)).toArray) (bd 33) rfl (e2 rfl rfl) (fun p q=>AI (ab_c n (b0.hL0 hL q)  d0)) rfl<|AS (aa j0) b0 .hd (ah rfl) fun Q0 p0 H0=>Aa<|Ao rfl<|Ap hb0 func38 rfl (.cons (.many (cs:=(aa j0)) rfl rfl (p0.memA .hd)) .nil) rfl ?_
 cases h
 exact ⟨p0.ag,fun p q=>ay rfl⟩
def aQ_l1 (n:Nat) (d0:List Tg) (g0:Nat × (List Ta) -> Option ((Except Tc (List Ta)) ⊕ (List Ta))):Nat × (List Ta) -> Option ((Except Tc (List Ta)) ⊕ (List Ta))
  | (b0,c0)=>(if b0 < d0.length then (d0[b0]?).bind fun k0=>(aS_p n k0).bind fun q0=>exc q0 (fun s0=>(app c0 ([s0]:List Ta)).bind fun p0=>g0 (b0 + 1,p0)) (fun j0=>some (.inl (.error j0))) else some (.inr c0))
def aQ_p (n:Nat) (a0:Tf) (a1:List Int) (a2:Int) (a3:Int):Option (Except Tc (List Ta)):=
  (al_p n a0 a1 a2 a3).bind fun y1=>exc y1 (fun d0=>thn (ao (aQ_l1 n d0) n (0,([]:List Ta))) (fun c0=>some (.ok c0))) (fun b0=>some (.error b0))
theorem aQ_c (n:Nat) {L w} (hL:hl L w) (a0:Tf) {v0_3:Value} (h0_3:Rep.R w L [v0_3] a0.fu) {p0:Nat} (m0:∀ j9 v9,([vI a0.fj,vI a0.fh,vI a0.fl,v0_3]:List Value)[j9]? = some v9 -> w.cell? ((⟨p0,0,none⟩:Addr).add j9) = some v9) {a1:List Int} {v1_0:Value} (h1_0:Rep.R w L [v1_0] a1) {p1:Nat} (m1:∀ j9 v9,([v1_0]:List Value)[j9]? = some v9 -> w.cell? ((⟨p1,0,none⟩:Addr).add j9) = some v9) {a2:Int} {p2:Nat} (m2:∀ j9 v9,([vI a2]:List Value)[j9]? = some v9 -> w.cell? ((⟨p2,0,none⟩:Addr).add j9) = some v9) {a3:Int} {p3:Nat} (m3:∀ j9 v9,([vI a3]:List Value)[j9]? = some v9 -> w.cell? ((⟨p3,0,none⟩:Addr).add j9) = some v9)  {r:Except Tc (List Ta)} (h:aQ_p n a0 a1 a2 a3 = some r) :
 Cl 37 #[.pointer (some ⟨p0,0,none⟩),.pointer (some ⟨p1,0,none⟩),.pointer (some ⟨p2,0,none⟩),.pointer (some ⟨p3,0,none⟩)] w (aD w (fun (y:List Ta) w' u=>∃ v0_0:Value,u = v0_0/\Rep.R w' L [v0_0] y) (fun e=>.iface 116 (.agg #[vI e.fB])) r):=by
 unfold aQ_p at h
 have hS0:=AB w
 refine BF func37 rfl rfl rfl fun _ cs0 hb0 hp0=>Ac<|Ag rfl<|Aa<|Aj<|Ac<|Ab (AC rfl (fun j9 v9 h9=>hS0.ag.cell0 (m0 j9 v9 h9)))<|AU rfl ((fun j9 v9 h9=>hS0.ag.cell0 (m1 j9 v9 h9)) 0 _ rfl)<|AU rfl ((fun j9 v9 h9=>hS0.ag.cell0 (m2 j9 v9 h9)) 0 _ rfl)<|AU rfl ((fun j9 v9 h9=>hS0.ag.cell0 (m3 j9 v9 h9)) 0 _ rfl)<|xk h (fun G1 hy1 h=>?_) (fun t0 hy1 h=>?_)
 refine Bo (fst:=[]) (cap:=[]) .plain (bd 28) rfl (e4 rfl rfl rfl rfl) (fun p q=>al_c n (hS0.hL hL q) a0 (Av h0_3 q) (Av h1_0 q) hy1) fun U1 Y0=>?_
 obtain ⟨K0,I1⟩:=hS0.agr Y0
 cases h
 exact Aq hp0 func37 ⟨K0.ag,rfl⟩
 refine jE (bd 28) rfl (e4 rfl rfl rfl rfl) (fun p q=>AI (al_c n (hS0.hL hL q) a0 (Av h0_3 q) (Av h1_0 q) hy1)) rfl fun b2 y1 b1 ⟨R1,hu_,x0⟩=>?_
 subst hu_
 obtain ⟨z0,M1⟩:=hS0.agr b1
 have P1:t0.length <= 281474976710656:=Bh x0
 refine Ab (Bl (xs:=t0) underlying74 rfl x0)<|Ae rfl<|Aa<|Ay ?_
 have A0:=z0.nilRow 42 (Rep.size Ta)
 refine tn h fun Q1 k1 E0=>MX.lf (α:=Nat × (List Ta) × Value × (List Value)) (fun ⟨b0,g0,d0,j0⟩=>[(4,d0),(11,y1),(12,vI ((t0.length:Nat):Int)),(13,vI ((b0:Nat):Int))]) (fun ⟨b0,g0,d0,j0⟩=>[rr w 42 Ta d0 g0.length j0]) (fun ⟨b0,g0,d0,j0⟩ G0=>Cells G0 (bl [rr w 42 Ta d0 g0.length j0] ++ L) j0 g0) (fun ⟨b0,g0,d0,j0⟩=>(b0,g0)) (0,([]:List Ta),vN,[]) k1 A0 (AH (cs:=[]) (xs:=([]:List Ta)) A0 L (AR _ _)) ?_
 rintro B1 ⟨b0,g0,d0,j0⟩ G0 J0 q0 B0 D0 h
 unfold aQ_l1 at h
 try dsimp only at h
 refine Ac<|Ab (Bn (i:=b0) (j:=t0.length) rfl rfl)<|Aa<|Aj<|AW rfl h (fun H0 h=>?_) (fun H0 h=>?_)
 refine Au<|Aj<|Ay<|Ac<|bk h fun s0 u1 h=>?_
 obtain ⟨A1,E1,d1,g1,F1,q1,j1⟩:=Br (Az x0 (Tt (St.nilRowT z0 42 (Rep.size Ta)) B0)) u1
 obtain rfl:=eD q1
 refine Ab (Bu 2 b0 rfl d1 rfl rfl g1)<|Ab (AC rfl j1)<|RG.nl [vI 0,vI 0] q0 fun V1 C1 M0 U0=>AS [vI s0.fG,vI s0.fall] M0 .hd (ah rfl) fun W1 k0 V0=>Aa<|Am<|Ae rfl<|Ab (AC rfl (k0.memA .hd))<|xk h (fun H1 y0 h=>?_) (fun c0 y0 h=>?_)
 have h:=ap h E0
 refine Bo (fst:=[]) (cap:=[]) .plain (bd 38) rfl (e1 rfl) (fun p q=>aS_c n (k0.hL0 hL q) s0 y0) fun X1 Z0=>?_
 obtain ⟨P0,J1⟩:=k0.agr Z0
 cases h
 exact Aq hp0 func37 ⟨P0.ag,rfl⟩
 refine Bi (.agg ((aa c0)).toArray) (bd 38) rfl (e1 rfl) (fun p q=>AI (aS_c n (k0.hL0 hL q) s0 y0)) rfl<|Ai .plain rfl (Bb (α:=Ta) (xs:=([c0]:List Ta)) (vs:=[.agg ((aa c0)).toArray]) (ds' :=(aa c0)) rfl k0 cN rfl (e1 rfl) (by kernel_rfl) rfl) fun Y1 D1 u0 W0=>bk h fun z1 v1 h=>?_
 have F0:=Tt U0 (Tt V0 W0)
 refine RG.doesL .plain rfl (DoesL.app (α:=Ta) (ys:=([c0]:List Ta)) v1 u0 (fun _ _=>.t2) cN rfl rfl (AN D0 F0) (Src.row (α:=Ta) u0 .hd (AH (cs:=(aa c0)) (xs:=(([c0]:List Ta):List Ta)) u0 L (Ar (cs:=(aa c0)) (ds:=[]) (aU c0.fN c0.fD) (AR _ _))))) fun x1 Z1 ⟨I0,Q0,X0,c1⟩=>Ag rfl<|Aa<|AE<|Am<|Ab (Bp (i:=b0) (j:=1) rfl rfl (by omega))<|Ae rfl<|Aa ?_
 obtain ⟨R0,C0⟩:=AF Q0 .d2
 exact J0 (b0 + 1,z1,x1,I0) R0 (Tt B0 (Tt F0 (Tt X0 C0))) (AN c1 C0) h
 refine Bf rfl ?_
 have h:=aH h E0
 try dsimp only at h
 refine Ac<|Ae rfl<|Ag rfl<|Aa<|Ao rfl ?_
 have v0:=BI q0 .hd
 have K1:=BJ q0 .hd
 have s1:=BK (α:=Ta) (v:=d0) (xs:=g0) v0 L (Bv (α:=Ta) q0 .hd D0 hL)
 refine Bc hb0 func37 rfl rfl ?_
 cases h
 exact ⟨v0.ag,fun p q=>ay ⟨d0,rfl,v0.kd s1 q⟩⟩
def bt_p (n:Nat) (a0:Tf) (a1:List Int) (a2:Int) (a3:Int):Option ((List Ta) × Int):=
  (aQ_p n a0 a1 a2 a3).bind fun c0=>exc c0 (fun d0=>some (d0,(0:Int))) (fun b0=>some (([]:List Ta),b0.fB))
theorem bt_c (n:Nat) {L w} (hL:hl L w) (a0:Tf) {v0_3:Value} (h0_3:Rep.R w L [v0_3] a0.fu) {a1:List Int} {v1_0:Value} (h1_0:Rep.R w L [v1_0] a1) {a2:Int} {a3:Int}  {r:(List Ta) × Int} (h:bt_p n a0 a1 a2 a3 = some r) :
 Cl 9 #[.agg #[vI a0.fj,vI a0.fh,vI a0.fl,v0_3],v1_0,vI a2,vI a3] w (aj w fun w' u=>∃ v0_0:Value,u = .tuple #[v0_0,vI r.2]/\Rep.R w' L [v0_0] r.1):=by
 unfold bt_p at h
 refine AG func9 rfl rfl rfl fun _ cs0 hb0=>Ac<|RG.bx (AB w) rfl rfl fun R1 g0 E0 D1=>RG.bx E0 rfl (Rep.c1 (AT h1_0 E0)) fun Y1 j0 P0 E1=>RG.bx P0 rfl rfl fun Z1 k0 Q0 F1=>RG.bx Q0 rfl rfl fun b2 p0 R0 G1=>Ag rfl<|Ag rfl<|Aa<|Ac<|Ab (BG (vs:=[]) (us:=[vP g0,vP j0,vP k0,vP p0]) ak (e4 rfl rfl rfl rfl))<|Bk (fst:=[]) (cap:=[]) (vs:=[.func (.func 37) #[] #[vP g0,vP j0,vP k0,vP p0]]) .plain (bd 36) func36 rfl rfl rfl rfl (e1 rfl) rfl fun z1 F0 P1=>Ac<|RG.nl [vN] R0 fun c2 q0 U0 H1=>RG.nl [vI 0] U0 fun d2 d0 b0 I1=>Aa<|Ac<|Ab (BG (vs:=[]) (us:=[vP q0,vP d0]) ak (e2 rfl rfl))<|RG.defer (fst:=[]) (cap:=[vP q0,vP d0]) (vs:=[]) rfl .plain rfl ak<|Aa<|Ac<|Ae rfl<|xk h (fun t0 A0 h=>?_) (fun q2 A0 h=>?_)
 refine Bo (fst:=[]) (cap:=[vP g0,vP j0,vP k0,vP p0]) .plain (bd 37) rfl ak (fun p q=>aQ_c n (b0.hL hL q) a0 (b0.km h0_3 q) (ai q (b0.memA .t5)) (b0.km h1_0 q) (ai q (b0.memA .t4)) (ai q (b0.memA .t3)) (ai q (b0.memA .t2)) A0) fun g2 j1=>?_
 obtain ⟨V0,J1⟩:=b0.agr j1
 refine PN.callD (vs:=[]) (cap:=[vP q0,vP d0]) (bd 74) func74 rfl rfl rfl fun y1 k1 q1=>Ac<|RG.recover1 .plain k1 rfl<|Ag rfl<|Aa<|Ac<|Ae rfl<|Ab (FV.neqI underlying20 rfl rfl)<|Aa<|Be rfl<|Ac<|Ae rfl<|Ab (FV.assertT rfl rfl)<|Ae rfl<|Ab (Ah rfl rfl)<|Ab (Ah rfl rfl)<|RG.nl [vI 0] V0 fun j2 v1 W0 K1=>AS [vI t0.fB] W0 .hd (o1 rfl) fun k2 v0 M1=>Ag rfl<|Aa<|Aj<|Ac<|Ae rfl<|Ab (FV.not rfl)<|Aa<|BA rfl<|Au<|Ac<|Ag rfl<|Aa<|du 3 fun c0 B0=>Rv 0 c0 rfl B0 (fun _=>Ak rfl)<|Rv 1 c0 rfl B0 (fun _=>AP 0 rfl)<|RD.mo (α:=Unit) (fun ()=>[(1,vP d0),(19,vI t0.fB)]) (fun ()=>[.cells d0 [vI 0] 43,.cells q0 [vN] 46,.cells p0 [vI a3] 3,.cells k0 [vI a2] 3,.cells j0 [v1_0] 30,.cells g0 [vI a0.fj,vI a0.fh,vI a0.fl,v0_3] 35]) v0 1 15 ?_ ?_
 rintro ⟨⟩ p2 H0 A1
 try dsimp only
 refine By 4 31 c0 rfl rfl .plain (AA (news:=[vI t0.fB]) H0 .hd rfl rfl rfl rfl rfl rfl (o1 rfl)) fun U1 s0 B1=>AJ (dk c0)<|MX.fin rfl<|RT.leaveD1 q1 func74 rfl .nil<|Ap (u:=.tuple #[vN,vI t0.fB]) F0 func36 rfl (.cons (.one rfl rfl ((s0.memA .t1) 0 _ rfl)) (.cons (.one rfl rfl ((s0.memA .hd) 0 _ rfl)) .nil)) rfl<|Ab (Ah rfl rfl)<|Ab (Ah rfl rfl)<|Ag rfl<|Ag rfl<|Aa<|Ao rfl ?_
 have s1:=Rep.nilAt (α:=Ta) s0 L
 refine Ap hb0 func9 rfl (.cons (.tmp rfl) (.cons (.tmp rfl) .nil)) rfl ?_
 cases h
 exact ⟨s0.ag,fun p q=>⟨vN,rfl,s0.kd s1 q⟩⟩
 intro D0
 refine BB [2,3] (rk c0) ⟨?_,?_,trivial⟩
 refine Bd (m' :=7) (sk c0) rfl .plain rfl (AQ rfl ((v0.memA .hd) 0 _ rfl))<|By 3 15 c0 rfl rfl .plain (AA (news:=[vN]) v0 .t2 rfl rfl rfl rfl rfl rfl (o1 rfl)) fun u1 x0 y0=>?_
 obtain ⟨I0,X0⟩:=AF x0 .d1
 exact D0 () I0 (Tt y0 X0)
 refine RO.now (m' :=11) (sk c0) rfl rfl .plain (AA (news:=[vN]) v0 .t2 rfl rfl rfl rfl rfl rfl (o1 rfl)) fun u1 x0 y0=>Rx 2 16 c0 rfl B0 (AQ rfl ((x0.memA .hd) 0 _ rfl)) ?_
 obtain ⟨J0,Y0⟩:=AF x0 .d1
 exact D0 () J0 (Tt y0 Y0)
 refine Bq (fst:=[]) (cap:=[vP g0,vP j0,vP k0,vP p0]) .plain (bd 37) rfl ak (fun p q=>AI (aQ_c n (b0.hL hL q) a0 (b0.km h0_3 q) (ai q (b0.memA .t5)) (b0.km h1_0 q) (ai q (b0.memA .t4)) (ai q (b0.memA .t3)) (ai q (b0.memA .t2)) A0)) rfl fun V1 C0 g1 ⟨Q1,hu_,z0⟩=>?_
 subst hu_
 obtain ⟨K0,C1⟩:=b0.agr g1
 refine RG.now .plain (AA (news:=[C0]) K0 .t1 rfl rfl rfl (Rep.c1 z0) rfl rfl (o1 (AZ z0))) fun W1 M0 Z0=>AS [vI 0] M0 .hd (o1 rfl) fun X1 u0 b1=>Aa<|Ao rfl<|RT.callD (vs:=[]) (cap:=[vP q0,vP d0]) (bd 74) func74 rfl rfl rfl fun x1 G0 p1=>Ac<|RG.recover0 .plain G0 rfl<|Ag rfl<|Aa<|Ac<|Ae rfl<|Ab (FV.neqI0 underlying20 rfl rfl)<|Aa<|BA rfl<|Au<|MX.fin rfl<|RT.leaveD0 G0 p1 func74 rfl .nil<|Ap (u:=.tuple #[C0,vI 0]) F0 func36 rfl (.cons (.one rfl rfl ((u0.memA .t1) 0 _ rfl)) (.cons (.one rfl rfl ((u0.memA .hd) 0 _ rfl)) .nil)) rfl<|Ab (Ah rfl rfl)<|Ab (Ah rfl rfl)<|Ag rfl<|Ag rfl<|Aa<|Ao rfl<|Ap hb0 func9 rfl (.cons (.tmp rfl) (.cons (.tmp rfl) .nil)) rfl ?_
 cases h
 exact ⟨u0.ag,fun p q=>⟨C0,rfl,u0.kd (Az z0 (Tt Z0 b1)) q⟩⟩
def am_p (n:Nat) (a0:Int) (a1:Int):Option Ta:=
  (cu_p n a0 a1).bind fun b0=>some b0.1
theorem am_c (n:Nat) {L w} (hL:hl L w) {a0:Int} {a1:Int}  {r:Ta} (h:am_p n a0 a1 = some r) :
 Cl 12 #[vI a0,vI a1] w (aj w fun _ u=>u = .agg ((aa r)).toArray):=by
 unfold am_p at h
 refine AG func12 rfl rfl rfl fun _ cs0 hb0=>Ac<|RG.nl zL (AB w) fun x0 p0 c0 s0=>Aa<|Ac<|Ae rfl<|Ae rfl<|bk h fun b0 k0 h=>Bi (.tuple #[.agg ((aa b0.1)).toArray,vI b0.2]) (bd 44) rfl (e2 rfl rfl) (fun p q=>cu_c n (c0.hL0 hL q)  k0) rfl<|Ae rfl<|Ab (Ah rfl rfl)<|Ab (Ah rfl rfl)<|RG.nl zL c0 fun y0 q0 j0 t0=>AS (aa b0.1) j0 .hd (ah rfl) fun z0 d0 u0=>Ag rfl<|Aa<|Ac<|Ab (AC rfl (d0.memA .hd))<|AS (aa b0.1) d0 .t1 (ah rfl) fun A0 g0 v0=>Aa<|Ao rfl<|Ap hb0 func12 rfl (.cons (.many (cs:=(aa b0.1)) rfl rfl (g0.memA .t1)) .nil) rfl ?_
 cases h
 exact g0.gv
theorem gq:ElT Tryz.prog 33 59 (Rep.size Tb) 104 (.agg #[.string ⟨#[]⟩,vI 0,vN,vN,vN,.bool false]) [.string ⟨#[]⟩,vI 0,vN,vN,vN,.bool false]:=⟨underlying33,by kernel_rfl,rfl,rfl,rfl,rfl⟩
def bP_p (_n:Nat):Option Tf:=
  (jI ⟨#[117]⟩ ⟨#[97]⟩).bind fun c0=>(app ([]:List Tb) ([(⟨c0,(10:Int),([(1:Int)]:List Int),([(2:Int),(8:Int)]:List Int),([]:List Int),false⟩:Tb)]:List Tb)).bind fun k0=>(jI ⟨#[117]⟩ ⟨#[98]⟩).bind fun d0=>(app k0 ([(⟨d0,(10:Int),([(4:Int)]:List Int),([(3:Int),(2:Int)]:List Int),([]:List Int),false⟩:Tb)]:List Tb)).bind fun g0=>(jI ⟨#[117]⟩ ⟨#[99]⟩).bind fun b0=>(app g0 ([(⟨b0,(20:Int),([(2:Int)]:List Int),([(1:Int),(9:Int)]:List Int),([]:List Int),false⟩:Tb)]:List Tb)).bind fun j0=>some (⟨(1:Int),(2:Int),(0:Int),j0⟩:Tf)
theorem bP_c (n:Nat) {L w} (hL:hl L w)  {r:Tf} (h:bP_p n = some r) :
 Cl 14 #[] w (aj w fun w' u=>∃ (v0_3:Value) (cs0_3:List Value),u = .agg #[vI r.fj,vI r.fh,vI r.fl,v0_3]/\St w w' (aO w.heap.size [(59,Rep.size Tb,v0_3,r.fu.length,cs0_3)])/\Cells w' (bl (aO w.heap.size [(59,Rep.size Tb,v0_3,r.fu.length,cs0_3)]) ++ L) cs0_3 (r.fu:List Tb)):=by
 unfold bP_p at h
 refine AG func14 rfl rfl rfl fun _ cs0 hb0=>Ac<|RG.nl [vI 0,vI 0,vI 0,vN] (AB w) fun q3 E2 C1 Q2=>Aa<|Ac<|Ab (AO (vs:=[vI 1,vI 2]) (u:=.agg #[vI 1,vI 2,vI 0,vN]) (e2 rfl rfl) (fun p=>by kernel_rfl))<|RG.nl [vI 0,vI 0,vI 0,vN] C1 fun B3 H2 G1 U2=>AS [vI 1,vI 2,vI 0,vN] G1 .hd (ah rfl) fun G3 I1 W2=>Aa<|Aj<|Ac<|Ab (AO (vs:=[vI 10,vI 1,vI 2,vI 8]) (u:=.agg #[vI 10,vI 1,vI 2,vI 8]) (e4 rfl rfl rfl rfl) (fun p=>by kernel_rfl))<|Ab (AO (vs:=[vI 10,vI 4,vI 3,vI 2]) (u:=.agg #[vI 10,vI 4,vI 3,vI 2]) (e4 rfl rfl rfl rfl) (fun p=>by kernel_rfl))<|Ab (AO (vs:=[vI 20,vI 2,vI 1,vI 9]) (u:=.agg #[vI 20,vI 2,vI 1,vI 9]) (e4 rfl rfl rfl rfl) (fun p=>by kernel_rfl))<|Ab (AO (vs:=[.agg #[vI 10,vI 1,vI 2,vI 8],.agg #[vI 10,vI 4,vI 3,vI 2],.agg #[vI 20,vI 2,vI 1,vI 9]]) (u:=.agg #[vI 10,vI 1,vI 2,vI 8,vI 10,vI 4,vI 3,vI 2,vI 20,vI 2,vI 1,vI 9]) (e3 rfl rfl rfl) (fun p=>by kernel_rfl))<|Ae rfl<|Aa<|Ay<|MX.loop1<|Ac<|Ab (Bn (i:=0) (j:=3) rfl rfl)<|Aa<|Aj<|Be rfl<|Au<|Aj<|Ay<|Ac<|Ae rfl<|Ab (FV.idxN (cs:=[vI 10,vI 1,vI 2,vI 8,vI 10,vI 4,vI 3,vI 2,vI 20,vI 2,vI 1,vI 9]) (k:=0) (m:=4) (len:=3) rfl rfl rfl rfl rfl (by omega) rfl)<|RG.nl [vI 0,vI 0,vI 0,vI 0] I1 fun H3 I2 J1 X2=>Ag rfl<|AS [vI 10,vI 1,vI 2,vI 8] J1 .hd (ah rfl) fun I3 D0 Y2=>Aa<|Am<|Bg 3 rfl<|AU rfl ((D0.memA .t1) 3 _ rfl)<|Ae rfl<|Ab (FV.add (i:=97) (j:=0) (r:=97) rfl rfl (by decide)) ?_
 refine Ab (FV.conv (i:=97) underlying3 underlying21 rfl (by decide))<|Ab (FV.convIS (i:=97) (r:=⟨#[97]⟩) underlying21 underlying9 rfl rfl)<|bk h fun c0 y2 h=>Ab (FV.addS y2 rfl rfl)<|Ab (AV (m:=1) (k:=0) (len:=4) rfl rfl rfl rfl (by omega))<|AU rfl ((D0.memA .hd) 0 _ rfl)<|Ab (AV (m:=1) (k:=1) (len:=4) rfl rfl rfl rfl (by omega))<|AU rfl ((D0.memA .hd) 1 _ rfl)<|Ai .plain rfl (jA ((1:Int)) (vI 1) D0 bp (e1 rfl)) fun J3 p0 E0 Z2=>Ab (AV (m:=1) (k:=2) (len:=4) rfl rfl rfl rfl (by omega))<|AU rfl ((E0.memA .t1) 2 _ rfl)<|Ab (AV (m:=1) (k:=3) (len:=4) rfl rfl rfl rfl (by omega))<|AU rfl ((E0.memA .t1) 3 _ rfl)<|Ai .plain rfl (Bb (α:=Int) (xs:=([(2:Int),(8:Int)]:List Int)) (vs:=[vI 2,vI 8]) (ds' :=[vI 2,vI 8]) rfl E0 bp rfl (e2 rfl rfl) (by kernel_rfl) rfl) fun K3 q0 F0 c2=>Ab (AO (vs:=[.string c0,vI 10,(vS p0 1),(vS q0 2)]) (u:=.agg #[.string c0,vI 10,(vS p0 1),(vS q0 2),vN,.bool false]) (e4 rfl rfl rfl rfl) (fun p=>by kernel_rfl)) ?_
 have G0:=BI F0 .t1
 have A1:=BK (α:=Int) (v:=(vS p0 1)) (xs:=([(1:Int)]:List Int)) G0 L (Bv (α:=Int) F0 .t1 (AN (jC ((1:Int)) (vI 1) E0 L rfl) c2) hL)
 have U0:=BI G0 .hd
 have v1:=BJ G0 .hd
 have p3:=Rep.nilAt (α:=Int) U0 L
 have g3:=Az A1 v1
 refine Ai .plain rfl (Bb (α:=Tb) (xs:=([(⟨c0,(10:Int),([(1:Int)]:List Int),([(2:Int),(8:Int)]:List Int),([]:List Int),false⟩:Tb)]:List Tb)) (vs:=[.agg #[.string c0,vI 10,(vS p0 1),(vS q0 2),vN,.bool false]]) (ds' :=[.string c0,vI 10,(vS p0 1),(vS q0 2),vN,.bool false]) rfl U0 gq rfl (e1 rfl) (by kernel_rfl) rfl) fun M3 J2 H0 x1=>?_
 have V0:=H0.nilRow 59 (Rep.size Tb)
 refine bk h fun Z3 C2 h=>RG.doesL .plain rfl (DoesL.app (α:=Tb) (ys:=([(⟨c0,(10:Int),([(1:Int)]:List Int),([(2:Int),(8:Int)]:List Int),([]:List Int),false⟩:Tb)]:List Tb)) C2 V0 (fun _ _=>.hd) gq rfl rfl (AH (cs:=[]) (xs:=([]:List Tb)) V0 L (AR _ _)) (Src.row (α:=Tb) V0 .t1 (AN (AH (cs:=[.string c0,vI 10,(vS p0 1),(vS q0 2),vN,.bool false]) (xs:=(([(⟨c0,(10:Int),([(1:Int)]:List Int),([(2:Int),(8:Int)]:List Int),([]:List Int),false⟩:Tb)]:List Tb):List Tb)) H0 L (Ar (cs:=[.string c0,vI 10,(vS p0 1),(vS q0 2),vN,.bool false]) (ds:=[]) (gr c0 (10:Int) ([(1:Int)]:List Int) (Az A1 (Tt v1 x1)) ([(2:Int),(8:Int)]:List Int) (Az (BK (α:=Int) (v:=(vS q0 2)) (xs:=([(2:Int),(8:Int)]:List Int)) U0 L (Bv (α:=Int) G0 .hd (AN (AH (cs:=[vI 2,vI 8]) (xs:=(([(2:Int),(8:Int)]:List Int):List Int)) F0 L (Ar (cs:=[vI 2]) (ds:=[vI 8]) rfl (Ar (cs:=[vI 8]) (ds:=[]) rfl (AR _ _)))) (BJ F0 .t1)) hL)) x1) ([]:List Int) (Rep.nilAt (α:=Int) H0 L) false) (AR _ _))) (St.nilRowT H0 59 (Rep.size Tb))))) fun g1 P3 ⟨P2,W0,b3,v2⟩=>Bg 3 rfl<|RG.now .plain (Bs (j:=3) (old:=[vI 1,vI 2,vI 0,vN]) (news:=[g1]) (new' :=[vI 1,vI 2,vI 0,g1]) W0 .t3 rfl rfl rfl (St.c1 (α:=Tb) W0 .hd) rfl rfl (o1 (St.o1 (α:=Tb) W0 .hd)) rfl) fun Q3 K1 g2=>Aa<|AE<|Am<|Ab (FV.add (i:=0) (j:=1) (r:=1) rfl rfl (by decide))<|Ae rfl<|Aa<|MX.again1 ?_
 obtain ⟨M1,j2⟩:=AF K1 (.a0 .d2)
 refine Ac<|Ab (Bn (i:=1) (j:=3) rfl rfl)<|Aa<|Aj<|Be rfl<|Au<|Aj<|Ay<|Ac<|Ae rfl<|Ab (FV.idxN (cs:=[vI 10,vI 1,vI 2,vI 8,vI 10,vI 4,vI 3,vI 2,vI 20,vI 2,vI 1,vI 9]) (k:=1) (m:=4) (len:=3) rfl rfl rfl rfl rfl (by omega) rfl)<|RG.nl [vI 0,vI 0,vI 0,vI 0] M1 fun R3 K2 P1 k2=>Ag rfl<|AS [vI 10,vI 4,vI 3,vI 2] P1 .hd (ah rfl) fun U3 I0 p2=>Aa<|Am<|Bg 3 rfl<|AU rfl ((I0.memA .t2) 3 _ rfl)<|Ae rfl<|Ab (FV.add (i:=97) (j:=1) (r:=98) rfl rfl (by decide))<|Ab (FV.conv (i:=98) underlying3 underlying21 rfl (by decide))<|Ab (FV.convIS (i:=98) (r:=⟨#[98]⟩) underlying21 underlying9 rfl rfl)<|bk h fun d0 z2 h=>Ab (FV.addS z2 rfl rfl)<|Ab (AV (m:=1) (k:=0) (len:=4) rfl rfl rfl rfl (by omega))<|AU rfl ((I0.memA .hd) 0 _ rfl)<|Ab (AV (m:=1) (k:=1) (len:=4) rfl rfl rfl rfl (by omega))<|AU rfl ((I0.memA .hd) 1 _ rfl)<|Ai .plain rfl (jA ((4:Int)) (vI 4) I0 bp (e1 rfl)) fun V3 s0 J0 q2=>Ab (AV (m:=1) (k:=2) (len:=4) rfl rfl rfl rfl (by omega))<|AU rfl ((J0.memA .t1) 2 _ rfl)<|Ab (AV (m:=1) (k:=3) (len:=4) rfl rfl rfl rfl (by omega))<|AU rfl ((J0.memA .t1) 3 _ rfl)<|Ai .plain rfl (Bb (α:=Int) (xs:=([(3:Int),(2:Int)]:List Int)) (vs:=[vI 3,vI 2]) (ds' :=[vI 3,vI 2]) rfl J0 bp rfl (e2 rfl rfl) (by kernel_rfl) rfl) fun W3 g0 u0 p1=>Ab (AO (vs:=[.string d0,vI 10,(vS s0 1),(vS g0 2)]) (u:=.agg #[.string d0,vI 10,(vS s0 1),(vS g0 2),vN,.bool false]) (e4 rfl rfl rfl rfl) (fun p=>by kernel_rfl)) ?_
 have v0:=BI u0 .t1
 have q1:=BJ u0 .t1
 have y1:=BK (α:=Int) (v:=(vS s0 1)) (xs:=([(4:Int)]:List Int)) v0 L (Bv (α:=Int) u0 .t1 (AN (jC ((4:Int)) (vI 4) J0 L rfl) p1) hL)
 have K0:=BI v0 .hd
 have X0:=BJ v0 .hd
 have j3:=Rep.nilAt (α:=Int) K0 L
 have c3:=Az y1 X0
 refine Ai .plain rfl (Bb (α:=Tb) (xs:=([(⟨d0,(10:Int),([(4:Int)]:List Int),([(3:Int),(2:Int)]:List Int),([]:List Int),false⟩:Tb)]:List Tb)) (vs:=[.agg #[.string d0,vI 10,(vS s0 1),(vS g0 2),vN,.bool false]]) (ds' :=[.string d0,vI 10,(vS s0 1),(vS g0 2),vN,.bool false]) rfl K0 gq rfl (e1 rfl) (by kernel_rfl) rfl) fun s3 D2 x0 Y0=>bk h fun X3 A2 h=>RG.doesL .plain rfl (DoesL.app (α:=Tb) (ys:=([(⟨d0,(10:Int),([(4:Int)]:List Int),([(3:Int),(2:Int)]:List Int),([]:List Int),false⟩:Tb)]:List Tb)) A2 x0 (fun _ _=>.t2) gq rfl rfl (AN v2 (Tt g2 (Tt j2 (Tt k2 (Tt p2 (Tt q2 (Tt p1 (Tt q1 (Tt X0 Y0))))))))) (Src.row (α:=Tb) x0 .hd (AH (cs:=[.string d0,vI 10,(vS s0 1),(vS g0 2),vN,.bool false]) (xs:=(([(⟨d0,(10:Int),([(4:Int)]:List Int),([(3:Int),(2:Int)]:List Int),([]:List Int),false⟩:Tb)]:List Tb):List Tb)) x0 L (Ar (cs:=[.string d0,vI 10,(vS s0 1),(vS g0 2),vN,.bool false]) (ds:=[]) (gr d0 (10:Int) ([(4:Int)]:List Int) (Az y1 (Tt X0 Y0)) ([(3:Int),(2:Int)]:List Int) (Az (BK (α:=Int) (v:=(vS g0 2)) (xs:=([(3:Int),(2:Int)]:List Int)) K0 L (Bv (α:=Int) v0 .hd (AN (AH (cs:=[vI 3,vI 2]) (xs:=(([(3:Int),(2:Int)]:List Int):List Int)) u0 L (Ar (cs:=[vI 3]) (ds:=[vI 2]) rfl (Ar (cs:=[vI 2]) (ds:=[]) rfl (AR _ _)))) q1) hL)) Y0) ([]:List Int) (Rep.nilAt (α:=Int) x0 L) false) (AR _ _))))) fun d1 u3 ⟨M2,M0,R2,s2⟩=>Bg 3 rfl<|RG.now .plain (Bs (j:=3) (old:=[vI 1,vI 2,vI 0,g1]) (news:=[d1]) (new' :=[vI 1,vI 2,vI 0,d1]) M0 .t3 rfl rfl rfl (St.c1 (α:=Tb) M0 .t2) rfl rfl (o1 (St.o1 (α:=Tb) M0 .t2)) rfl) fun v3 D1 Q1=>Aa<|AE<|Am<|Ab (FV.add (i:=1) (j:=1) (r:=2) rfl rfl (by decide))<|Ae rfl<|Aa<|MX.again1 ?_
 obtain ⟨E1,R1⟩:=AF D1 .d2
 refine Ac<|Ab (Bn (i:=2) (j:=3) rfl rfl)<|Aa<|Aj<|Be rfl<|Au<|Aj<|Ay<|Ac<|Ae rfl<|Ab (FV.idxN (cs:=[vI 10,vI 1,vI 2,vI 8,vI 10,vI 4,vI 3,vI 2,vI 20,vI 2,vI 1,vI 9]) (k:=2) (m:=4) (len:=3) rfl rfl rfl rfl rfl (by omega) rfl)<|RG.nl [vI 0,vI 0,vI 0,vI 0] E1 fun x3 F2 F1 U1=>Ag rfl<|AS [vI 20,vI 2,vI 1,vI 9] F1 .hd (ah rfl) fun y3 y0 V1=>Aa<|Am<|Bg 3 rfl<|AU rfl ((y0.memA .t2) 3 _ rfl)<|Ae rfl<|Ab (FV.add (i:=97) (j:=2) (r:=99) rfl rfl (by decide))<|Ab (FV.conv (i:=99) underlying3 underlying21 rfl (by decide))<|Ab (FV.convIS (i:=99) (r:=⟨#[99]⟩) underlying21 underlying9 rfl rfl)<|bk h fun b0 x2 h=>Ab (FV.addS x2 rfl rfl)<|Ab (AV (m:=1) (k:=0) (len:=4) rfl rfl rfl rfl (by omega))<|AU rfl ((y0.memA .hd) 0 _ rfl)<|Ab (AV (m:=1) (k:=1) (len:=4) rfl rfl rfl rfl (by omega))<|AU rfl ((y0.memA .hd) 1 _ rfl)<|Ai .plain rfl (jA ((2:Int)) (vI 2) y0 bp (e1 rfl)) fun z3 j0 z0 W1=>Ab (AV (m:=1) (k:=2) (len:=4) rfl rfl rfl rfl (by omega))<|AU rfl ((z0.memA .t1) 2 _ rfl)<|Ab (AV (m:=1) (k:=3) (len:=4) rfl rfl rfl rfl (by omega))<|AU rfl ((z0.memA .t1) 3 _ rfl)<|Ai .plain rfl (Bb (α:=Int) (xs:=([(1:Int),(9:Int)]:List Int)) (vs:=[vI 1,vI 9]) (ds' :=[vI 1,vI 9]) rfl z0 bp rfl (e2 rfl rfl) (by kernel_rfl) rfl) fun A3 k0 A0 s1=>Ab (AO (vs:=[.string b0,vI 20,(vS j0 1),(vS k0 2)]) (u:=.agg #[.string b0,vI 20,(vS j0 1),(vS k0 2),vN,.bool false]) (e4 rfl rfl rfl rfl) (fun p=>by kernel_rfl)) ?_
 have B0:=BI A0 .t1
 have u1:=BJ A0 .t1
 have z1:=BK (α:=Int) (v:=(vS j0 1)) (xs:=([(2:Int)]:List Int)) B0 L (Bv (α:=Int) A0 .t1 (AN (jC ((2:Int)) (vI 2) z0 L rfl) s1) hL)
 have P0:=BI B0 .hd
 have Z0:=BJ B0 .hd
 have k3:=Rep.nilAt (α:=Int) P0 L
 have d3:=Az z1 Z0
 refine Ai .plain rfl (Bb (α:=Tb) (xs:=([(⟨b0,(20:Int),([(2:Int)]:List Int),([(1:Int),(9:Int)]:List Int),([]:List Int),false⟩:Tb)]:List Tb)) (vs:=[.agg #[.string b0,vI 20,(vS j0 1),(vS k0 2),vN,.bool false]]) (ds' :=[.string b0,vI 20,(vS j0 1),(vS k0 2),vN,.bool false]) rfl P0 gq rfl (e1 rfl) (by kernel_rfl) rfl) fun C3 G2 C0 b1=>bk h fun Y3 B2 h=>RG.doesL .plain rfl (DoesL.app (α:=Tb) (ys:=([(⟨b0,(20:Int),([(2:Int)]:List Int),([(1:Int),(9:Int)]:List Int),([]:List Int),false⟩:Tb)]:List Tb)) B2 C0 (fun _ _=>.t2) gq rfl rfl (AN s2 (Tt Q1 (Tt R1 (Tt U1 (Tt V1 (Tt W1 (Tt s1 (Tt u1 (Tt Z0 b1))))))))) (Src.row (α:=Tb) C0 .hd (AH (cs:=[.string b0,vI 20,(vS j0 1),(vS k0 2),vN,.bool false]) (xs:=(([(⟨b0,(20:Int),([(2:Int)]:List Int),([(1:Int),(9:Int)]:List Int),([]:List Int),false⟩:Tb)]:List Tb):List Tb)) C0 L (Ar (cs:=[.string b0,vI 20,(vS j0 1),(vS k0 2),vN,.bool false]) (ds:=[]) (gr b0 (20:Int) ([(2:Int)]:List Int) (Az z1 (Tt Z0 b1)) ([(1:Int),(9:Int)]:List Int) (Az (BK (α:=Int) (v:=(vS k0 2)) (xs:=([(1:Int),(9:Int)]:List Int)) P0 L (Bv (α:=Int) B0 .hd (AN (AH (cs:=[vI 1,vI 9]) (xs:=(([(1:Int),(9:Int)]:List Int):List Int)) A0 L (Ar (cs:=[vI 1]) (ds:=[vI 9]) rfl (Ar (cs:=[vI 9]) (ds:=[]) rfl (AR _ _)))) u1) hL)) b1) ([]:List Int) (Rep.nilAt (α:=Int) C0 L) false) (AR _ _))))) fun t0 D3 ⟨B1,Q0,V2,u2⟩=>Bg 3 rfl<|RG.now .plain (Bs (j:=3) (old:=[vI 1,vI 2,vI 0,d1]) (news:=[t0]) (new' :=[vI 1,vI 2,vI 0,t0]) Q0 .t3 rfl rfl rfl (St.c1 (α:=Tb) Q0 .t2) rfl rfl (o1 (St.o1 (α:=Tb) Q0 .t2)) rfl) fun E3 H1 X1=>Aa<|AE<|Am<|Ab (FV.add (i:=2) (j:=1) (r:=3) rfl rfl (by decide))<|Ae rfl<|Aa<|MX.again1 ?_
 obtain ⟨R0,Y1⟩:=AF H1 .d2
 refine Ac<|Ab (Bn (i:=3) (j:=3) rfl rfl)<|Aa<|Aj<|BA rfl<|Bf rfl<|Ac<|Ab (AC rfl (R0.memA .t1))<|AS [vI 1,vI 2,vI 0,t0] R0 .t2 (o4 rfl rfl rfl (St.o1 (α:=Tb) R0 .hd)) fun F3 j1 Z1=>Aa<|Ao rfl<|Ap (u:=.agg #[vI 1,vI 2,vI 0,t0]) hb0 func14 rfl (.cons (.many (cs:=[vI 1,vI 2,vI 0,t0]) rfl rfl (j1.memA .t2)) .nil) rfl ?_
 obtain ⟨k1,b2⟩:=AF j1 (.a0 .done)
 cases h
 exact ⟨k1.ag,fun p q=>⟨t0,B1,rfl,k1.agree q,Cells.keep0 (AN u2 (Tt X1 (Tt Y1 (Tt Z1 b2)))) q⟩⟩
structure Ttold where
  fI:Ta
  fL:Ta
  deriving DecidableEq
instance:Rep Ttold:=Rep.via (β:=Ta × Ta) fun x=>(x.fI,x.fL)
def cn (x:Ttold):List Value:=[vU x.fI.fN.1,vU x.fI.fN.2.1,vU x.fI.fN.2.2.1,vU x.fI.fN.2.2.2.1,vU x.fI.fN.2.2.2.2.1,vU x.fI.fN.2.2.2.2.2.1,vU x.fI.fN.2.2.2.2.2.2.1,vU x.fI.fN.2.2.2.2.2.2.2,vU x.fI.fD.1,vU x.fI.fD.2.1,vU x.fI.fD.2.2.1,vU x.fI.fD.2.2.2.1,vU x.fI.fD.2.2.2.2.1,vU x.fI.fD.2.2.2.2.2.1,vU x.fI.fD.2.2.2.2.2.2.1,vU x.fI.fD.2.2.2.2.2.2.2,vU x.fL.fN.1,vU x.fL.fN.2.1,vU x.fL.fN.2.2.1,vU x.fL.fN.2.2.2.1,vU x.fL.fN.2.2.2.2.1,vU x.fL.fN.2.2.2.2.2.1,vU x.fL.fN.2.2.2.2.2.2.1,vU x.fL.fN.2.2.2.2.2.2.2,vU x.fL.fD.1,vU x.fL.fD.2.1,vU x.fL.fD.2.2.1,vU x.fL.fD.2.2.2.1,vU x.fL.fD.2.2.2.2.1,vU x.fL.fD.2.2.2.2.2.1,vU x.fL.fD.2.2.2.2.2.2.1,vU x.fL.fD.2.2.2.2.2.2.2]
def ck_p (n:Nat) (a0:Td) (a1:Td):Option Td:=
  (aq_p n a0.ft a1.ft).bind fun b0=>(aq_p n a0.fp a1.fp).bind fun c0=>(br_p n b0 c0).bind fun d0=>some d0
theorem ck_c (n:Nat) {L w} (hL:hl L w) (a0:Td) {v0_1:Value} (h0_1:Rep.R w L [v0_1] a0.ft.fo) {v0_3:Value} (h0_3:Rep.R w L [v0_3] a0.fp.fo) (a1:Td) {v1_1:Value} (h1_1:Rep.R w L [v1_1] a1.ft.fo) {v1_3:Value} (h1_3:Rep.R w L [v1_3] a1.fp.fo)  {r:Td} (h:ck_p n a0 a1 = some r) :
 Cl 109 #[.agg #[.bool a0.ft.fe,v0_1,.bool a0.fp.fe,v0_3],.agg #[.bool a1.ft.fe,v1_1,.bool a1.fp.fe,v1_3]] w (aj w fun w' u=>∃ v0_1 v0_3:Value,u = .agg #[.bool r.ft.fe,v0_1,.bool r.fp.fe,v0_3]/\Rep.R w' L [v0_1] r.ft.fo/\Rep.R w' L [v0_3] r.fp.fo):=by
 unfold ck_p at h
 refine AG func109 rfl rfl rfl fun _ cs0 hb0=>Ac<|RG.bx (AB w) rfl rfl fun g1 M0 x0 R0=>RG.bx x0 rfl rfl fun j1 P0 y0 U0=>RG.nl [.bool false,vN,.bool false,vN] y0 fun k1 Q0 c0 V0=>Aa<|Aj<|du 11 fun b0 d0=>Rv 0 b0 rfl d0 (fun _=>AP 0 rfl)<|Rx 1 3600 b0 rfl d0 (AY (cs:=[.bool a0.ft.fe,v0_1]) rfl rfl (ae (c0.memA .t2) 0 2))<|Rv 2 b0 rfl d0 (fun _=>AP 0 rfl)<|Rx 3 3600 b0 rfl d0 (AY (cs:=[.bool a1.ft.fe,v1_1]) rfl rfl (ae (c0.memA .t1) 0 2))<|Rv 5 b0 rfl d0 (fun _=>AP 2 rfl)<|Rx 6 3584 b0 rfl d0 (AY (cs:=[.bool a0.fp.fe,v0_3]) rfl rfl (ae (c0.memA .t2) 2 2))<|Rv 7 b0 rfl d0 (fun _=>AP 2 rfl)<|Rx 8 3584 b0 rfl d0 (AY (cs:=[.bool a1.fp.fe,v1_3]) rfl rfl (ae (c0.memA .t1) 2 2))<|bk h fun J0 G0 h=>Bx 4 511 b0 rfl .plain (bd 105) rfl (e2 rfl rfl) (fun p q=>aq_c n (c0.hL hL q) a0.ft (c0.km h0_1 q) a1.ft (c0.km h1_1 q) G0) rfl fun p1 b1 B0 ⟨Y0,hu_,E0⟩=>?_
 subst hu_
 obtain ⟨g0,W0⟩:=c0.agr B0
 refine bk h fun K0 H0 h=>Bx 9 1023 b0 rfl .plain (bd 105) rfl (e2 rfl rfl) (fun p q=>aq_c n (g0.hL hL q) a0.fp (g0.km h0_3 q) a1.fp (g0.km h1_3 q) H0) rfl fun q1 c1 C0 ⟨Z0,hu_,F0⟩=>?_
 subst hu_
 obtain ⟨s0,A0⟩:=g0.agr C0
 refine bk h fun k0 I0 h=>Bx 10 2047 b0 rfl .plain (bd 106) rfl (e2 rfl rfl) (fun p q=>br_c n (s0.hL hL q) J0 (Av (Az E0 A0) q) K0 (Av F0 q) I0) rfl fun s1 d1 D0 ⟨p0,q0,hu_,u0,v0⟩=>?_
 subst hu_
 obtain ⟨z0,X0⟩:=s0.agr D0
 refine By 11 4095 b0 rfl rfl .plain (AA (news:=[.bool k0.ft.fe,p0,.bool k0.fp.fe,q0]) z0 .hd rfl rfl rfl rfl rfl rfl (o4 rfl (AZ u0) rfl (AZ v0))) fun u1 j0 t0=>AJ (dk b0)<|Ao rfl<|Ap hb0 func109 rfl (.cons (.many (cs:=[.bool k0.ft.fe,p0,.bool k0.fp.fe,q0]) rfl rfl (j0.memA .hd)) .nil) rfl ?_
 cases h
 exact ⟨j0.ag,fun p q=>⟨p0,q0,rfl,j0.kd (Az u0 t0) q,j0.kd (Az v0 t0) q⟩⟩
def cF_p (n:Nat) (a0:Ta) (a1:Ta):Option (Ta × Int):=
  (aC_p n ([a0,a1]:List Ta)).bind fun d0=>(if d0 = true then (aw_p n a0).bind fun g0=>(aw_p n a1).bind fun j0=>(ck_p n g0 j0).bind fun k0=>(aH_p n k0 (0:Int)).bind fun c0=>some (c0.1,c0.2) else (aH_p n (⟨(⟨false,([]:List UInt64)⟩:Te),(⟨false,([]:List UInt64)⟩:Te)⟩:Td) (20:Int)).bind fun b0=>some (b0.1,b0.2))
theorem cF_c (n:Nat) {L w} (hL:hl L w) (a0:Ta) (a1:Ta)  {r:Ta × Int} (h:cF_p n a0 a1 = some r) :
 Cl 88 #[.agg ((aa a0)).toArray,.agg ((aa a1)).toArray] w (aj w fun _ u=>u = .tuple #[.agg ((aa r.1)).toArray,vI r.2]):=by
 unfold cF_p at h
 refine AG func88 rfl rfl rfl fun _ cs0 hb0=>Ac<|RG.bx (AB w) rfl rfl fun j2 s1 I0 F1=>RG.bx I0 rfl rfl fun k2 u1 J0 G1=>RG.nl zL J0 fun p2 v1 q0 H1=>Ag rfl<|Aa<|Ac<|Ab (AC rfl (q0.memA .t2))<|Ab (AC rfl (q0.memA .t1))<|Bk (fst:=[]) (cap:=[]) (vs:=[.agg ((aa a0)).toArray,.agg ((aa a1)).toArray,.func (.func 109) #[] #[]]) .plain (bd 67) func67 rfl rfl rfl rfl (e3 rfl rfl rfl) rfl fun C1 E0 V1=>Ac<|RG.bx q0 rfl rfl fun q2 x1 K0 I1=>RG.bx K0 rfl rfl fun s2 y1 M0 J1=>RG.nl [.bool false,vN,.bool false,vN] M0 fun u2 z1 s0 K1=>Ag rfl<|Aa<|Aj<|Ac<|Ab (AC rfl (s0.memA .t2))<|Ab (AC rfl (s0.memA .t1))<|Ai .plain rfl (Bb (α:=Ta) (xs:=([a0,a1]:List Ta)) (vs:=[.agg ((aa a0)).toArray,.agg ((aa a1)).toArray]) (ds' :=(aa a0 ++ aa a1)) rfl s0 cN rfl (e2 rfl rfl) (by kernel_rfl) rfl) fun v2 A1 c0 M1=>?_
 refine bk h fun k1 b1 h=>Bi (.bool k1) (bd 96) rfl (e1 rfl) (fun p q=>aC_c n (c0.hL0 hL q) (Av (St.lend (α:=Ta) (L:=L) c0 .hd (AH (cs:=(aa a0 ++ aa a1)) (xs:=(([a0,a1]:List Ta):List Ta)) c0 L (Ar (cs:=(aa a0)) (ds:=(aa a1)) (aU a0.fN a0.fD) (Ar (cs:=(aa a1)) (ds:=[]) (aU a1.fN a1.fD) (AR _ _)))) hL) q) b1) rfl<|Ab (FV.not rfl)<|Aa<|MX.ifnb rfl h (fun H0 h=>?_) (fun H0 h=>?_)
 refine Au<|Aj<|du 6 fun b0 t0=>Rv 0 b0 rfl t0 (fun _=>Ak rfl)<|Rx 1 244 b0 rfl t0 (AC rfl (c0.memA .t3))<|Rx 3 240 b0 rfl t0 (AC rfl (c0.memA .t2))<|bk h fun p1 c1 h=>Bx 2 15 b0 rfl .plain (bd 91) rfl (e1 rfl) (fun p q=>aw_c n (c0.hL hL q) a0 c1) rfl fun x2 b2 Q0 ⟨W1,X1,hu_,V0,W0⟩=>?_
 subst hu_
 obtain ⟨y0,P1⟩:=c0.agr Q0
 refine bk h fun q1 d1 h=>Bx 4 31 b0 rfl .plain (bd 91) rfl (e1 rfl) (fun p q=>aw_c n (y0.hL hL q) a1 d1) rfl fun y2 c2 R0 ⟨Y1,Z1,hu_,X0,Y0⟩=>?_
 subst hu_
 obtain ⟨z0,C0⟩:=y0.agr R0
 refine bk h fun d0 g1 h=>Bx 5 63 b0 rfl .plain (bd 109) rfl (e2 rfl rfl) (fun p q=>ck_c n (z0.hL hL q) p1 (Av (Az V0 C0) q) (Av (Az W0 C0) q) q1 (Av X0 q) (Av Y0 q) g1) rfl fun z2 d2 U0 ⟨u0,v0,hu_,F0,G0⟩=>?_
 subst hu_
 obtain ⟨P0,Q1⟩:=z0.agr U0
 refine By 6 127 b0 rfl rfl .plain (AA (news:=[.bool d0.ft.fe,u0,.bool d0.fp.fe,v0]) P0 .t1 rfl rfl rfl rfl rfl rfl (o4 rfl (AZ F0) rfl (AZ G0))) fun A2 g0 D0=>AM (i:=7) (rk b0) (Bd (m' :=255) (sk b0) rfl .plain rfl (Ba rfl) ?_)
 refine AJ (dk b0)<|Ao rfl<|Ap (u:=.tuple #[.agg #[.bool d0.ft.fe,u0,.bool d0.fp.fe,v0],vI 0]) E0 func67 rfl (.cons (.many (cs:=[.bool d0.ft.fe,u0,.bool d0.fp.fe,v0]) rfl rfl (g0.memA .t1)) (.cons (.tmp rfl) .nil)) rfl<|Ab (Ah rfl rfl)<|Ab (Ah rfl rfl)<|bk h fun k0 j1 h=>Bi (.tuple #[.agg ((aa k0.1)).toArray,vI k0.2]) (bd 66) rfl (e2 rfl rfl) (fun p q=>aH_c n (g0.hL0 hL q) d0 (g0.kd (Az F0 D0) q) (g0.kd (Az G0 D0) q) j1) rfl<|Ab (Ah rfl rfl)<|Ab (Ah rfl rfl)<|AS (aa k0.1) g0 .t4 (ah rfl) fun B2 A0 R1=>Ag rfl<|Aa<|Ao rfl<|Ap hb0 func88 rfl (.cons (.many (cs:=(aa k0.1)) rfl rfl (A0.memA .t4)) (.cons (.tmp rfl) .nil)) rfl ?_
 cases h
 exact A0.gv
 refine Ac<|RG.nl [.bool false,vN,.bool false,vN] c0 fun C2 B1 B0 U1=>Aa<|Ac<|Ab (AC rfl (B0.memA .hd))<|AS [.bool false,vN,.bool false,vN] B0 .t2 (ah rfl) fun D2 p0 D1=>Ag rfl<|Aa<|Ao rfl<|Ap (u:=.tuple #[.agg #[.bool false,vN,.bool false,vN],vI 20]) E0 func67 rfl (.cons (.many (cs:=[.bool false,vN,.bool false,vN]) rfl rfl (p0.memA .t2)) (.cons (.tmp rfl) .nil)) rfl<|Ab (Ah rfl rfl)<|Ab (Ah rfl rfl)<|bk h fun j0 Z0 h=>Bi (.tuple #[.agg ((aa j0.1)).toArray,vI j0.2]) (bd 66) rfl (e2 rfl rfl) (fun p q=>aH_c n (p0.hL0 hL q) (⟨(⟨false,([]:List UInt64)⟩:Te),(⟨false,([]:List UInt64)⟩:Te)⟩:Td) (Av (Rep.nilSlice _ _) q) (Av (Rep.nilSlice _ _) q) Z0) rfl<|Ab (Ah rfl rfl)<|Ab (Ah rfl rfl)<|AS (aa j0.1) p0 .t5 (ah rfl) fun g2 x0 E1=>Ag rfl<|Aa<|Ao rfl<|Ap hb0 func88 rfl (.cons (.many (cs:=(aa j0.1)) rfl rfl (x0.memA .t5)) (.cons (.tmp rfl) .nil)) rfl ?_
 cases h
 exact x0.gv
def ak_p (n:Nat) (a0:Ta) (a1:Ta):Option (Except Tc Ta):=
  (cF_p n a0 a1).bind fun b0=>(ae_p n b0.1 b0.2).bind fun d0=>exc d0 (fun g0=>some (.ok g0)) (fun c0=>some (.error c0))
theorem ak_c (n:Nat) {L w} (hL:hl L w) (a0:Ta) (a1:Ta)  {r:Except Tc Ta} (h:ak_p n a0 a1 = some r) :
 Cl 48 #[.agg ((aa a0)).toArray,.agg ((aa a1)).toArray] w (aD w (fun (y:Ta) _ u=>u = .agg ((aa y)).toArray) (fun e=>.iface 116 (.agg #[vI e.fB])) r):=by
 unfold ak_p at h
 refine BF func48 rfl rfl rfl fun _ cs0 hb0 hp0=>Ac<|RG.bx (AB w) rfl rfl fun E0 u0 k0 z0=>RG.bx k0 rfl rfl fun F0 v0 p0 A0=>RG.nl zL p0 fun G0 x0 b0 B0=>Aa<|Ac<|Ab (AC rfl (b0.memA .t2))<|Ab (AC rfl (b0.memA .t1))<|bk h fun c0 t0 h=>Bi (.tuple #[.agg ((aa c0.1)).toArray,vI c0.2]) (bd 88) rfl (e2 rfl rfl) (fun p q=>cF_c n (b0.hL0 hL q) a0 a1 t0) rfl<|Ab (Ah rfl rfl)<|Ab (Ah rfl rfl)<|xk h (fun y0 d0 h=>?_) (fun g0 d0 h=>?_)
 refine Bo (fst:=[]) (cap:=[]) .plain (bd 30) rfl (e2 rfl rfl) (fun p q=>ae_c n (b0.hL0 hL q) c0.1 d0) fun H0 s0=>?_
 obtain ⟨q0,C0⟩:=b0.agr s0
 cases h
 exact Aq hp0 func48 ⟨q0.ag,rfl⟩
 refine Bi (.agg ((aa g0)).toArray) (bd 30) rfl (e2 rfl rfl) (fun p q=>AI (ae_c n (b0.hL0 hL q) c0.1 d0)) rfl<|AS (aa g0) b0 .hd (ah rfl) fun I0 j0 D0=>Aa<|Ao rfl<|Ap hb0 func48 rfl (.cons (.many (cs:=(aa g0)) rfl rfl (j0.memA .hd)) .nil) rfl ?_
 cases h
 exact ⟨j0.ag,fun p q=>ay rfl⟩
structure Tpoll where
  fE:Tf
  fG:Int
  fparty:Int
  deriving DecidableEq
instance:Rep Tpoll:=Rep.via (β:=Tf × Int × Int) fun x=>(x.fE,x.fG,x.fparty)
theorem cH_c (_n:Nat) {L w} (_hL:hl L w) (a0:Tpoll) {v0_3:Value} (_h0_3:Rep.R w L [v0_3] a0.fE.fu)  :
 Cl 86 #[.agg #[vI a0.fE.fj,vI a0.fE.fh,vI a0.fE.fl,v0_3,vI a0.fG,vI a0.fparty]] w (aj w fun w' u=>∃ b0:Nat,u = .func (.func 108) #[] #[vP b0]/\St w w' [.cells b0 [vI a0.fE.fj,vI a0.fE.fh,vI a0.fE.fl,v0_3,vI a0.fG,vI a0.fparty] 144]):=by
 refine AG func86 rfl rfl rfl fun _ cs0 hb0=>Ac<|RG.bx (AB w) rfl rfl fun g0 b0 c0 d0=>Ag rfl<|Aa<|Ac<|Ab (BG (vs:=[]) (us:=[vP b0]) ak (e1 rfl))<|Ag rfl<|Aa<|Ao rfl<|Ap (u:=.func (.func 108) #[] #[vP b0]) hb0 func86 rfl (.cons (.tmp rfl) .nil) rfl<|⟨c0.ag,fun p q=>⟨b0,rfl,c0.agree q⟩⟩
def bw_p (n:Nat) (a0:Ta) (a1:Ta) (a2:Ta) (a3:Ta):Option (Except Tc Ta):=
  (ak_p n a0 a1).bind fun g0=>exc g0 (fun j0=>(ak_p n a2 a3).bind fun k0=>exc k0 (fun p0=>(aZ_p n j0 p0).bind fun q0=>exc q0 (fun s0=>some (.ok s0)) (fun d0=>some (.error d0))) (fun c0=>some (.error c0))) (fun b0=>some (.error b0))
theorem bw_c (n:Nat) {L w} (hL:hl L w) (a0:Ta) (a1:Ta) (a2:Ta) (a3:Ta)  {r:Except Tc Ta} (h:bw_p n a0 a1 a2 a3 = some r) :
 Cl 87 #[.agg ((aa a0)).toArray,.agg ((aa a1)).toArray,.agg ((aa a2)).toArray,.agg ((aa a3)).toArray] w (aD w (fun (y:Ta) _ u=>u = .agg ((aa y)).toArray) (fun e=>.iface 116 (.agg #[vI e.fB])) r):=by
 unfold bw_p at h
 refine BF func87 rfl rfl rfl fun _ cs0 hb0 hp0=>Ac<|RG.bx (AB w) rfl rfl fun p1 H0 v0 V0=>RG.bx v0 rfl rfl fun q1 I0 x0 W0=>RG.bx x0 rfl rfl fun s1 J0 y0 X0=>RG.bx y0 rfl rfl fun u1 K0 z0 Y0=>RG.nl zL z0 fun v1 M0 d0 Z0=>Aa<|Ac<|Ab (AC rfl (d0.memA .t4))<|Ab (AC rfl (d0.memA .t3))<|xk h (fun Q0 k0 h=>?_) (fun j0 k0 h=>?_)
 refine Bo (fst:=[]) (cap:=[]) .plain (bd 48) rfl (e2 rfl rfl) (fun p q=>ak_c n (d0.hL0 hL q) a0 a1 k0) fun x1 E0=>?_
 obtain ⟨A0,b1⟩:=d0.agr E0
 cases h
 exact Aq hp0 func87 ⟨A0.ag,rfl⟩
 refine Bi (.agg ((aa j0)).toArray) (bd 48) rfl (e2 rfl rfl) (fun p q=>AI (ak_c n (d0.hL0 hL q) a0 a1 k0)) rfl<|RG.nl zL d0 fun y1 P0 B0 c1=>AS (aa j0) B0 .hd (ah rfl) fun z1 b0 d1=>Aa<|Aj<|du 5 fun c0 g0=>Rx 0 48 c0 rfl g0 (AC rfl (b0.memA .hd))<|Rx 1 56 c0 rfl g0 (AC rfl (b0.memA .t3))<|Rx 2 56 c0 rfl g0 (AC rfl (b0.memA .t2))<|xk h (fun R0 p0 h=>?_) (fun s0 p0 h=>?_)
 refine AM (i:=3) (rk c0) (Bj (fst:=[]) (cap:=[]) rfl .plain (bd 48) rfl (e2 rfl rfl) (fun p q=>ak_c n (b0.hL0 hL q) a2 a3 p0) (fun A1 F0=>?_))
 obtain ⟨C0,g1⟩:=b0.agr F0
 cases h
 exact Aq hp0 func87 ⟨C0.ag,rfl⟩
 refine BD 3 15 48 (.agg ((aa s0)).toArray) c0 rfl g0 (bd 48) rfl (e2 rfl rfl) (fun p q=>AI (ak_c n (b0.hL0 hL q) a2 a3 p0)) rfl<|xk h (fun U0 q0 h=>?_) (fun t0 q0 h=>?_)
 refine AM (i:=4) (rk c0) (Bj (fst:=[]) (cap:=[]) rfl .plain (bd 32) rfl (e2 rfl rfl) (fun p q=>aZ_c n (b0.hL0 hL q) j0 s0 q0) (fun B1 G0=>?_))
 obtain ⟨D0,j1⟩:=b0.agr G0
 cases h
 exact Aq hp0 func87 ⟨D0.ag,rfl⟩
 refine BD 4 31 32 (.agg ((aa t0)).toArray) c0 rfl g0 (bd 32) rfl (e2 rfl rfl) (fun p q=>AI (aZ_c n (b0.hL0 hL q) j0 s0 q0)) rfl<|By 5 63 c0 rfl rfl .plain (AA (news:=(aa t0)) b0 .t1 rfl rfl rfl rfl rfl rfl (ah rfl)) fun C1 u0 k1=>AJ (dk c0)<|Ao rfl<|Ap hb0 func87 rfl (.cons (.many (cs:=(aa t0)) rfl rfl (u0.memA .t1)) .nil) rfl ?_
 cases h
 exact ⟨u0.ag,fun p q=>ay rfl⟩
end Go.Proofs.YtkhpmhhnolpcnaaGreatDoor
