import Derived.Test.YtkommhmbkbhmlaaGreatVT8
namespace Go.Proofs.YtkommhmbkbhmlaaGreat
open Go Go.RowKit Tryz
set_option maxRecDepth 4000
set_option maxHeartbeats 4000000

def au_l1 (n:Nat) (a0:List Int) (g0:Int) (a1:List Int) (p0:(List Int) × Int × (List Int) -> Option ((List Int) × (List Int))):(List Int) × Int × (List Int) -> Option ((List Int) × (List Int))
  | (k0,c0,b0)=>(if 0 <= c0 then (idx a0 g0).bind fun x0=>(bA c0).bind fun q0=>(de (shrS x0 q0) 2).bind fun t0=>(aP_p n k0 t0).bind fun d0=>(aB_p n d0 a1).bind fun C0=>jn (fun (z0,A0)=>(chk (c0 - 1)).bind fun u0=>p0 (z0,u0,A0)) (fun j0=>(if 0 <= C0 then (ak_p n d0 a1).bind fun D0=>(idx b0 g0).bind fun y0=>(bA c0).bind fun s0=>(chk (y0 + (shlS 1 s0))).bind fun v0=>(put b0 ((g0.toNat:Nat):Int) v0).bind fun B0=>j0 (D0,B0) else j0 (d0,b0))) else some (k0,b0))
def au_l2 (n:Nat) (a0:List Int) (a1:List Int) (g0:(List Int) × Int × (List Int) -> Option ((List Int) × (List Int))):(List Int) × Int × (List Int) -> Option ((List Int) × (List Int))
  | (c0,b0,d0)=>(if 0 <= b0 then Option.bind (au (au_l1 n a0 b0 a1) n (c0,31,d0)) (fun (k0,p0)=>(chk (b0 - 1)).bind fun j0=>g0 (k0,j0,p0)) else some (d0,c0))
def au_p (n:Nat) (a0:List Int) (a1:List Int):Option ((List Int) × (List Int)):=
  (if ((a0.length:Nat):Int) <= (((a1.length:Nat):Int) - 1) then (app ([]:List Int) a0).bind fun g0=>some (([]:List Int),g0) else (mk (((a0.length:Nat):Int) - (((a1.length:Nat):Int) - 1)) (0:Int)).bind fun b0=>(cut a0 (((a0.length:Nat):Int) - (((a1.length:Nat):Int) - 1)) (a0.length:Int)).bind fun j0=>(app ([]:List Int) j0).bind fun k0=>Option.bind (au (au_l2 n a0 a1) n (k0,((b0.length:Nat):Int) - 1,b0)) (fun (d0,c0)=>(aw_p n d0).bind fun p0=>some (p0,c0)))
theorem au_c (n:Nat) {L w} (hL:hl L w) {a0:List Int} {v0_0:Value} (h0_0:Rep.R w L [v0_0] a0) {a1:List Int} {v1_0:Value} (h1_0:Rep.R w L [v1_0] a1)  {r:(List Int) × (List Int)} (h:au_p n a0 a1 = some r) :
 Cl 184 #[v0_0,v1_0] w (ak w fun w' u=>∃ v0_0 v1_0:Value,u = .tuple #[v0_0,v1_0]/\Rep.R w' L [v0_0] r.1/\Rep.R w' L [v1_0] r.2):=by
 unfold au_p at h
 have hS0:=AM w
 refine AN func184 rfl rfl rfl fun _ cs0 hb0=>Ae<|Ai rfl<|Ai rfl<|Aa<|Ae<|Ac rfl ?_
 have hl1:a1.length <= 281474976710656:=AT h1_0
 refine Ab (AY (xs:=a1) underlying140 rfl h1_0)<|Ab (FV.subI (i:=((a1.length:Nat):Int)) (j:=1) rfl rfl (by omega))<|Ai rfl<|Aa<|Aj<|Ae<|Ac rfl ?_
 have hl2:a0.length <= 281474976710656:=AT h0_0
 refine Ab (AY (xs:=a0) underlying140 rfl h0_0)<|Ac rfl<|Ab (FV.leq (i:=((a0.length:Nat):Int)) (j:=((a1.length:Nat):Int) - 1) rfl rfl)<|Aa<|AS rfl h (fun c3 h=>?_) (fun c3 h=>?_)
 refine Ae<|Ak .plain rfl (jB Int hS0 bb) fun C4 V3 M0 g4=>Ac rfl<|bk h fun G3 p3 h=>BD .plain rfl (AR (α:=Int) (ys:=a0) p3 M0 (fun _ _=>.hd) bb rfl rfl (jD Int M0 L) (Src.rep (AL h0_0 M0))) fun D1 H4 ⟨c4,J0,j4,u2⟩=>Ai rfl<|Ai rfl<|Aa<|Ax rfl ?_
 have s4:=BC (α:=Int) J0 L
 have E0:=Bz J0 .hd
 have k4:=BA J0 .hd
 have V2:=BB (α:=Int) (v:=D1) (xs:=G3) E0 L (Bj (α:=Int) J0 .hd u2 hL)
 refine Ap hb0 func184 rfl (.cons (.tmp rfl) (.cons (.tmp rfl) .nil)) rfl ?_
 cases h
 exact ⟨E0.ag,fun w9 hw9=>⟨vN,D1,rfl,E0.kd (BC (α:=Int) E0 L) hw9,E0.kd V2 hw9⟩⟩
 refine Aw<|Ae<|Ac rfl<|Ab (AY (xs:=a0) underlying140 rfl h0_0)<|Ac rfl<|Ab (FV.subI (i:=((a0.length:Nat):Int)) (j:=((a1.length:Nat):Int) - 1) rfl rfl (by omega))<|bk h fun G0 C1 h=>Ak .plain rfl (Does.mk (α:=Int) C1 hS0 bb rfl) fun I4 c0 j1 p4=>Ai rfl<|Aa<|Ae<|Ak .plain rfl (jB Int j1 bb) fun J4 W3 U0 g2=>Ac rfl<|Ac rfl ?_
 have z1:=AL h0_0 U0
 refine Ab (AY (xs:=a0) underlying140 rfl z1)<|Ac rfl<|Ab (FV.subI (i:=((a0.length:Nat):Int)) (j:=((a1.length:Nat):Int) - 1) rfl rfl (by omega))<|bk h fun I3 s3 h=>RG.valE .plain rfl (FV.cutL (α:=Int) s3 rfl rfl z1 ⟨_,rfl⟩ rfl) fun B4 W2=>bk h fun G1 t3 h=>BD .plain rfl (AR (α:=Int) (ys:=I3) t3 U0 (fun _ _=>.hd) bb rfl rfl (jD Int U0 L) (Src.rep W2)) fun E1 K4 ⟨d4,F0,j2,v2⟩=>Ai rfl<|Aa<|Aj<|Ae<|Ac rfl ?_
 have q4:G0.length <= 4294967296:=St.rowLe (α:=Int) F0 .t1
 obtain ⟨P3,b4,A2⟩:=St.rowV (α:=Int) F0 .t1
 refine Ab (FV.lenV underlying140 rfl A2)<|Ab (FV.subI (i:=((G0.length:Nat):Int)) (j:=1) rfl rfl (by omega))<|Ai rfl<|Aa<|AC ?_
 have k1:=Bz F0 .hd
 obtain ⟨t4,J2,B2⟩:=ap h
 refine MX.lf (α:=(List Int) × Int × (List Int) × Value × (List Value)) (fun ⟨B0,b0,g0,y0,u0⟩=>[(0,v0_0),(1,v1_0),(7,(.slice (some ⟨c0,0,none⟩) (((a0.length:Nat):Int) - (((a1.length:Nat):Int) - 1)).toNat (((a0.length:Nat):Int) - (((a1.length:Nat):Int) - 1)).toNat)),(8,y0),(9,vI b0)]) (fun ⟨B0,b0,g0,y0,u0⟩=>[rr w 3 Int (.slice (some ⟨c0,0,none⟩) (((a0.length:Nat):Int) - (((a1.length:Nat):Int) - 1)).toNat (((a0.length:Nat):Int) - (((a1.length:Nat):Int) - 1)).toNat) g0.length u0]) (fun ⟨B0,b0,g0,y0,u0⟩ Z0=>Rep.R Z0 (bl [rr w 3 Int (.slice (some ⟨c0,0,none⟩) (((a0.length:Nat):Int) - (((a1.length:Nat):Int) - 1)).toNat (((a0.length:Nat):Int) - (((a1.length:Nat):Int) - 1)).toNat) g0.length u0] ++ L) [y0] B0/\Cells Z0 (bl [rr w 3 Int (.slice (some ⟨c0,0,none⟩) (((a0.length:Nat):Int) - (((a1.length:Nat):Int) - 1)).toNat (((a0.length:Nat):Int) - (((a1.length:Nat):Int) - 1)).toNat) g0.length u0] ++ L) u0 g0) (fun ⟨B0,b0,g0,y0,u0⟩=>(B0,b0,g0)) (G1,((G0.length:Nat):Int) - 1,G0,E1,(List.replicate (((a0.length:Nat):Int) - (((a1.length:Nat):Int) - 1)).toNat [vI 0]).flatten) J2 k1 ⟨(BB (α:=Int) (v:=E1) (xs:=G1) k1 L (Bj (α:=Int) F0 .hd v2 hL)),(Ar (Az (cs:=(List.replicate (((a0.length:Nat):Int) - (((a1.length:Nat):Int) - 1)).toNat [vI 0]).flatten) (xs:=G0) j1 L (Cells.mk C1 rfl)) (Tt g2 (Tt j2 (BA F0 .hd))))⟩ ?_
 rintro Q3 ⟨B0,b0,g0,y0,u0⟩ Z0 V1 H0 Z1 ⟨A1,u1⟩ h
 unfold au_l2 at h
 try dsimp only at h
 refine Aj<|Ae<|Ac rfl<|Ab (FV.geq (i:=b0) (j:=0) rfl rfl)<|Aa<|AS rfl h (fun K1 h=>?_) (fun K1 h=>?_)
 refine Aw<|Aj<|AC<|Ae<|Ai rfl<|Aa<|AC ?_
 obtain ⟨u4,K2,C2⟩:=ap h
 refine MX.lf (α:=(List Int) × Int × (List Int) × Value × (List Value)) (fun ⟨C0,p0,j0,z0,q0⟩=>[(0,v0_0),(1,v1_0),(7,(.slice (some ⟨c0,0,none⟩) (((a0.length:Nat):Int) - (((a1.length:Nat):Int) - 1)).toNat (((a0.length:Nat):Int) - (((a1.length:Nat):Int) - 1)).toNat)),(8,z0),(9,vI b0),(10,vI p0)]) (fun ⟨C0,p0,j0,z0,q0⟩=>[rr w 3 Int (.slice (some ⟨c0,0,none⟩) (((a0.length:Nat):Int) - (((a1.length:Nat):Int) - 1)).toNat (((a0.length:Nat):Int) - (((a1.length:Nat):Int) - 1)).toNat) j0.length q0]) (fun ⟨C0,p0,j0,z0,q0⟩ b1=>Rep.R b1 (bl [rr w 3 Int (.slice (some ⟨c0,0,none⟩) (((a0.length:Nat):Int) - (((a1.length:Nat):Int) - 1)).toNat (((a0.length:Nat):Int) - (((a1.length:Nat):Int) - 1)).toNat) j0.length q0] ++ L) [z0] C0/\Cells b1 (bl [rr w 3 Int (.slice (some ⟨c0,0,none⟩) (((a0.length:Nat):Int) - (((a1.length:Nat):Int) - 1)).toNat (((a0.length:Nat):Int) - (((a1.length:Nat):Int) - 1)).toNat) j0.length q0] ++ L) q0 j0) (fun ⟨C0,p0,j0,z0,q0⟩=>(C0,p0,j0)) (B0,31,g0,y0,u0) K2 H0 ⟨A1,u1⟩ ?_
 rintro R3 ⟨C0,p0,j0,z0,q0⟩ b1 W1 I0 p1 ⟨B1,W0⟩ h
 unfold au_l1 at h
 try dsimp only at h
 refine Aj<|Ae<|Ac rfl<|Ab (FV.geq (i:=p0) (j:=0) rfl rfl)<|Aa<|AS rfl h (fun M1 h=>?_) (fun M1 h=>?_)
 refine Aw<|Aj<|AC<|Ae<|Ac rfl<|Ac rfl<|Ac rfl<|bk h fun d1 d3 h=>?_
 obtain ⟨D2,g3⟩:=aV d3
 obtain ⟨M3,X3,x2,E2,Q1,M2,H2⟩:=Bl (AL h0_0 I0) g3
 have y2:Q1 = [vI d1]:=M2; subst y2
 refine Ab (Bx 1 (b0.toNat) rfl x2 rfl D2 E2)<|Bo rfl (H2 0 _ rfl)<|Ac rfl<|bk h fun z3 F2 h=>Ab (FV.shrSI (i:=d1) (q:=p0) rfl rfl F2)<|bk h fun v4 X2 h=>Ab (FV.remc (i:=shrS d1 z3) (j:=2) rfl rfl X2)<|bk h fun J3 u3 h=>jE (bd 204) rfl (e2 rfl rfl) (fun w9 hw9=>aP_c n (I0.hL hL hw9) (Af B1 hw9) u3) rfl fun D4 D3 k2 ⟨y4,hu_,Y0⟩=>?_
 subst hu_
 obtain ⟨x0,V0⟩:=I0.agr k2
 refine Ai rfl<|Aa<|Ae<|Ac rfl<|Ac rfl<|bk h fun H1 v3 h=>Bi (vI H1) (bd 175) rfl (e2 rfl rfl) (fun w9 hw9=>aB_c n (x0.hL0 hL hw9) (x0.kd Y0 hw9) (x0.k0 h1_0 hw9) v3) rfl<|Ab (FV.geq (i:=H1) (j:=0) rfl rfl)<|Aa<|MX.jf (α:=(List Int) × (List Int) × Value × (List Value)) (fun ⟨D0,t0,A0,v0⟩=>[(0,v0_0),(1,v1_0),(7,(.slice (some ⟨c0,0,none⟩) (((a0.length:Nat):Int) - (((a1.length:Nat):Int) - 1)).toNat (((a0.length:Nat):Int) - (((a1.length:Nat):Int) - 1)).toNat)),(8,A0),(9,vI b0),(10,vI p0)]) (fun ⟨D0,t0,A0,v0⟩=>[rr w 3 Int (.slice (some ⟨c0,0,none⟩) (((a0.length:Nat):Int) - (((a1.length:Nat):Int) - 1)).toNat (((a0.length:Nat):Int) - (((a1.length:Nat):Int) - 1)).toNat) t0.length v0]) (fun ⟨D0,t0,A0,v0⟩ c1=>Rep.R c1 (bl [rr w 3 Int (.slice (some ⟨c0,0,none⟩) (((a0.length:Nat):Int) - (((a1.length:Nat):Int) - 1)).toNat (((a0.length:Nat):Int) - (((a1.length:Nat):Int) - 1)).toNat) t0.length v0] ++ L) [A0] D0/\Cells c1 (bl [rr w 3 Int (.slice (some ⟨c0,0,none⟩) (((a0.length:Nat):Int) - (((a1.length:Nat):Int) - 1)).toNat (((a0.length:Nat):Int) - (((a1.length:Nat):Int) - 1)).toNat) t0.length v0] ++ L) v0 t0) (fun ⟨D0,t0,A0,v0⟩=>(D0,t0)) x0 h ?_ ?_
 rintro ⟨D0,t0,A0,v0⟩ c1 X1 b2 ⟨P2,s2⟩ h
 try dsimp only at h
 refine AF<|Aq<|Ac rfl<|bk h fun B3 Y2 h=>Ab (FV.subc (i:=p0) (j:=1) rfl rfl Y2)<|Ai rfl<|Aa<|W1 (D0,B3,t0,A0,v0) X1 (Tt p1 (Tt V0 b2)) ⟨P2,s2⟩ h
 intro U3 g1 h
 try dsimp only at h
 refine AS rfl h (fun P1 h=>?_) (fun P1 h=>?_)
 refine Ae<|Ac rfl<|Ac rfl<|bk h fun K3 x3 h=>jE (bd 176) rfl (e2 rfl rfl) (fun w9 hw9=>ak_c n (x0.hL hL hw9) (Af Y0 hw9) (x0.km h1_0 hw9) x3) rfl fun E4 E3 p2 ⟨z4,hu_,Q2⟩=>?_
 subst hu_
 obtain ⟨P0,q1⟩:=x0.agr p2
 refine Ai rfl<|Aa<|du 10 fun d0 s0=>Rv 0 d0 rfl s0 (fun _=>Av rfl)<|Rv 1 d0 rfl s0 (fun _=>Av rfl)<|Rv 2 d0 rfl s0 (fun _=>Av rfl)<|Rv 3 d0 rfl s0 (fun _=>Av rfl)<|bk h fun F1 j3 h=>?_
 obtain ⟨x1,k3⟩:=aV j3
 have y1:=Ar W0 (Tt V0 q1)
 obtain ⟨I1,Y3,K0,X0,R1,R2,I2⟩:=St.nth (α:=Int) P0 .hd y1 k3
 obtain ⟨J1,Z3,v1⟩:=St.nthOwn (α:=Int) P0 .hd X0
 obtain rfl:I1 = ⟨J1,0,none⟩:=by rw [v1] at K0; cases K0; rfl
 have z2:R1 = [vI F1]:=R2; subst z2
 refine Rv 4 d0 rfl s0 (fun _=>Bx 1 (b0.toNat) rfl K0 rfl x1 X0)<|Rx 5 1792 d0 rfl s0 (Bm rfl (I2 0 _ rfl))<|Rv 6 d0 rfl s0 (fun _=>Av rfl)<|bk h fun A3 G2 h=>Rv 7 d0 rfl s0 (fun _=>FV.shlSI (i:=1) (q:=p0) rfl rfl G2)<|bk h fun x4 Z2 h=>Rv 8 d0 rfl s0 (fun _=>FV.addc (i:=F1) (j:=shlS 1 A3) rfl rfl Z2)<|Rv 9 d0 rfl s0 (fun _=>Bx 1 (b0.toNat) rfl K0 rfl x1 X0)<|bk h fun H3 q3 h=>BF (i:=10) (rk d0) (RO.acts (m' :=2047) (sk d0) rfl rfl .plain (Acts.set (α:=Int) (i:=b0.toNat) q3 P0 v1 (fun _=>.hd) y1 rfl rfl rfl rfl rfl rfl) (fun F4 ⟨U1,Y1,s1,t2⟩=>?_))
 refine AK (dk d0)<|g1 (K3,H3,E3,U1) Y1 (Tt q1 s1) ⟨(Ah Q2 s1),t2⟩ h
 refine Aw<|g1 (J3,j0,D3,q0) x0 (BJ _ _) ⟨Y0,(Ar W0 V0)⟩ h
 refine Bc rfl ?_
 have h:=C2 _ h
 try dsimp only at h
 refine AF<|Aq<|Ac rfl<|bk h fun C3 b3 h=>Ab (FV.subc (i:=b0) (j:=1) rfl rfl b3)<|Ai rfl<|Aa<|V1 (C0,C3,j0,z0,q0) I0 (Tt Z1 p1) ⟨B1,W0⟩ h
 refine Bc rfl ?_
 have h:=B2 _ h
 try dsimp only at h
 refine Ae<|Ac rfl ?_
 have Q0:=Bz H0 .hd
 have c2:=BA H0 .hd
 refine bk h fun M4 y3 h=>jE (bd 181) rfl (e1 rfl) (fun w9 hw9=>aw_c n (Q0.hL hL hw9) (Af (BB (α:=Int) (v:=(.slice (some ⟨c0,0,none⟩) (((a0.length:Nat):Int) - (((a1.length:Nat):Int) - 1)).toNat (((a0.length:Nat):Int) - (((a1.length:Nat):Int) - 1)).toNat)) (xs:=g0) Q0 L (Bj (α:=Int) H0 .hd u1 hL)) hw9) y3) rfl fun G4 F3 q2 ⟨A4,hu_,U2⟩=>?_
 subst hu_
 obtain ⟨R0,d2⟩:=Q0.agr q2
 refine Ac rfl<|Ai rfl<|Ai rfl<|Aa<|Ax rfl<|Ap hb0 func184 rfl (.cons (.tmp rfl) (.cons (.tmp rfl) .nil)) rfl ?_
 cases h
 exact ⟨R0.ag,fun w9 hw9=>⟨F3,y0,rfl,R0.kd U2 hw9,R0.kd (Ah A1 (Tt c2 d2)) hw9⟩⟩
def aM_l1 (n:Nat) (d0:(List Int) × (List Int) -> Option (List Int)):(List Int) × (List Int) -> Option (List Int)
  | (c0,b0)=>(if 0 < b0.length then (au_p n c0 b0).bind fun g0=>d0 (b0,g0.2) else some c0)
def aM_p (n:Nat) (a0:Te) (a1:Te):Option Te:=
  Option.bind (au (aM_l1 n) n (a0.fD,a1.fD)) (fun b0=>some (⟨false,b0⟩:Te))
theorem aM_c (n:Nat) {L w} (hL:hl L w) (a0:Te) {v0_1:Value} (h0_1:Rep.R w L [v0_1] a0.fD) (a1:Te) {v1_1:Value} (h1_1:Rep.R w L [v1_1] a1.fD)  {r:Te} (h:aM_p n a0 a1 = some r) :
 Cl 157 #[.agg #[.bool a0.fc,v0_1],.agg #[.bool a1.fc,v1_1]] w (ak w fun w' u=>∃ v0_1:Value,u = .agg #[.bool r.fc,v0_1]/\Rep.R w' L [v0_1] r.fD):=by
 unfold aM_p at h
 refine AN func157 rfl rfl rfl fun _ cs0 hb0=>Ae<|RG.bx (AM w) rfl rfl fun s1 W0 C0 Z0=>RG.bx C0 rfl rfl fun u1 X0 D0 b1=>RG.nl [.bool false,vN] D0 fun v1 p0 t0 c1=>Aa<|Aj<|du 6 fun d0 j0=>Rv 0 d0 rfl j0 (fun _=>Bp 1 rfl)<|Rx 1 48 d0 rfl j0 (Bm rfl ((t0.memA .t2) 1 _ rfl))<|Rv 2 d0 rfl j0 (fun _=>Bp 1 rfl)<|Rx 3 32 d0 rfl j0 (Bm rfl ((t0.memA .t1) 1 _ rfl))<|Rv 4 d0 rfl j0 (fun _=>Bg rfl)<|Rv 5 d0 rfl j0 (fun _=>Bg rfl)<|AK (dk d0)<|Aj<|AC ?_
 obtain ⟨u0,d1⟩:=AD t0 (.a0 .done)
 obtain ⟨k1,J0,I0⟩:=ap h
 refine MX.lf (α:=(List Int) × (List Int) × Value × Value) (fun ⟨k0,c0,b0,g0⟩=>[(4,vP p0),(5,b0),(6,g0)]) (fun ⟨k0,c0,b0,g0⟩=>[.cells p0 [.bool false,vN] 142]) (fun ⟨k0,c0,b0,g0⟩ y0=>Rep.R y0 (bl [.cells p0 [.bool false,vN] 142] ++ L) [b0] k0/\Rep.R y0 (bl [.cells p0 [.bool false,vN] 142] ++ L) [g0] c0) (fun ⟨k0,c0,b0,g0⟩=>(k0,c0)) (a0.fD,a1.fD,v0_1,v1_1) J0 u0 ⟨(AL h0_1 u0),(AL h1_1 u0)⟩ ?_
 rintro V0 ⟨k0,c0,b0,g0⟩ y0 B0 v0 F0 ⟨q0,s0⟩ h
 unfold aM_l1 at h
 try dsimp only at h
 refine Aj<|Ae<|Ac rfl ?_
 have g1:c0.length <= 281474976710656:=AT s0
 refine Ab (AY (xs:=c0) underlying140 rfl s0)<|Ab (FV.gtrN (i:=c0.length) (j:=0) rfl rfl)<|Aa<|AS rfl h (fun A0 h=>?_) (fun A0 h=>?_)
 refine Aw<|AC<|Ae<|Ac rfl<|Ac rfl<|bk h fun R0 P0 h=>jE (bd 184) rfl (e2 rfl rfl) (fun w9 hw9=>au_c n (v0.hL hL hw9) (Af q0 hw9) (Af s0 hw9) P0) rfl fun x1 q1 H0 ⟨p1,Q0,hu_,j1,K0⟩=>?_
 subst hu_
 obtain ⟨E0,z0⟩:=v0.agr H0
 refine Ac rfl<|Ab (Ag rfl rfl)<|Ab (Ag rfl rfl)<|Ai rfl<|Ai rfl<|Aa<|Aq<|Ac rfl<|Ac rfl<|Ai rfl<|Ai rfl<|Aa<|AF<|B0 (c0,R0.2,g0,Q0) E0 (Tt F0 z0) ⟨(Ah s0 z0),K0⟩ h
 refine Bc rfl ?_
 have h:=I0 _ h
 try dsimp only at h
 refine Ae<|Ac rfl ?_
 obtain ⟨U0,Y0,M0,_⟩:=Rep.sl q0
 refine Ab (AQ (vs:=[b0]) (u:=.agg #[.bool false,b0]) (e1 rfl) (fun w9=>by rw [M0]; try kernel_rfl))<|AO [.bool false,b0] v0 .hd (o2 rfl (AE q0)) fun y1 x0 G0=>Aa<|Ax rfl<|Ap hb0 func157 rfl (.cons (.many (cs:=[.bool false,b0]) rfl rfl (x0.memA .hd)) .nil) rfl ?_
 cases h
 exact ⟨x0.ag,fun w9 hw9=>⟨b0,rfl,x0.kd (Ah q0 G0) hw9⟩⟩
def bj_p (n:Nat) (a0:Te):Option Te:=
  (ac_p n (!a0.fc) a0.fD).bind fun b0=>some b0
theorem bj_c (n:Nat) {L w} (hL:hl L w) (a0:Te) {v0_1:Value} (h0_1:Rep.R w L [v0_1] a0.fD)  {r:Te} (h:bj_p n a0 = some r) :
 Cl 158 #[.agg #[.bool a0.fc,v0_1]] w (ak w fun w' u=>∃ v0_1:Value,u = .agg #[.bool r.fc,v0_1]/\Rep.R w' L [v0_1] r.fD):=by
 unfold bj_p at h
 refine AN func158 rfl rfl rfl fun _ cs0 hb0=>Ae<|RG.bx (AM w) rfl rfl fun B0 u0 k0 x0=>RG.nl [.bool false,vN] k0 fun C0 v0 b0 y0=>Aa<|Ae<|Bn 0 rfl<|Bo rfl ((b0.memA .t1) 0 _ rfl)<|Ab (FV.not rfl)<|Bn 1 rfl<|Bo rfl ((b0.memA .t1) 1 _ rfl)<|bk h fun j0 t0 h=>jE (bd 178) rfl (e2 rfl rfl) (fun w9 hw9=>ac_c n (b0.hL hL hw9) (b0.km h0_1 hw9) t0) rfl fun D0 A0 s0 ⟨d0,hu_,g0⟩=>?_
 subst hu_
 obtain ⟨p0,z0⟩:=b0.agr s0
 refine AO [.bool j0.fc,d0] p0 .hd (o2 rfl (AE g0)) fun E0 c0 q0=>Aa<|Ax rfl<|Ap hb0 func158 rfl (.cons (.many (cs:=[.bool j0.fc,d0]) rfl rfl (c0.memA .hd)) .nil) rfl ?_
 cases h
 exact ⟨c0.ag,fun w9 hw9=>⟨d0,rfl,c0.kd (Ah g0 q0) hw9⟩⟩
def bz_l1 (_n:Nat) (a0:List Int) (a1:List Int) (g0:Int × Int × (List Int) -> Option (List Int)):Int × Int × (List Int) -> Option (List Int)
  | (c0,b0,d0)=>(if b0 < ((a0.length:Nat):Int) then (idx a0 b0).bind fun C0=>(chk (c0 + C0)).bind fun k0=>jn (fun q0=>(de q0 4294967296).bind fun s0=>(app d0 ([s0]:List Int)).bind fun F0=>(eS q0 4294967296).bind fun t0=>(chk (b0 + 1)).bind fun u0=>g0 (t0,u0,F0)) (fun j0=>(if b0 < ((a1.length:Nat):Int) then (idx a1 b0).bind fun D0=>(chk (k0 + D0)).bind fun v0=>j0 v0 else j0 k0)) else (if b0 < ((a1.length:Nat):Int) then (idx a1 b0).bind fun E0=>(chk (c0 + E0)).bind fun p0=>(de p0 4294967296).bind fun x0=>(app d0 ([x0]:List Int)).bind fun G0=>(eS p0 4294967296).bind fun y0=>g0 (y0,b0 + 1,G0) else (if 0 < c0 then (de c0 4294967296).bind fun z0=>(app d0 ([z0]:List Int)).bind fun H0=>(eS c0 4294967296).bind fun A0=>(chk (b0 + 1)).bind fun B0=>g0 (A0,B0,H0) else some d0)))
def bz_p (n:Nat) (a0:List Int) (a1:List Int):Option (List Int):=
  Option.bind (au (bz_l1 n a0 a1) n (0,0,([]:List Int))) (fun b0=>some b0)
theorem bz_c (n:Nat) {L w} (hL:hl L w) {a0:List Int} {v0_0:Value} (h0_0:Rep.R w L [v0_0] a0) {a1:List Int} {v1_0:Value} (h1_0:Rep.R w L [v1_0] a1)  {r:List Int} (h:bz_p n a0 a1 = some r) :
 Cl 183 #[v0_0,v1_0] w (ak w fun w' u=>∃ v0_0:Value,u = v0_0/\Rep.R w' L [v0_0] r):=by
 unfold bz_p at h
 have hS0:=AM w
 refine AN func183 rfl rfl rfl fun _ cs0 hb0=>Ae<|Ai rfl<|Aa<|Ae<|Ai rfl<|Aa<|Ae<|Ai rfl<|Aa<|Aj<|Ae<|Ai rfl<|Aa<|AC ?_
 have I0:=hS0.nilRow 3 (Rep.size Int)
 have B3:=St.nilRowT hS0 3 (Rep.size Int)
 obtain ⟨G3,j2,U1⟩:=ap h
 refine MX.lf (α:=Int × Int × (List Int) × Value × (List Value)) (fun ⟨g0,b0,j0,d0,k0⟩=>[(0,v0_0),(1,v1_0),(5,d0),(6,vI g0),(7,vI b0)]) (fun ⟨g0,b0,j0,d0,k0⟩=>[rr w 3 Int d0 j0.length k0]) (fun ⟨g0,b0,j0,d0,k0⟩ X0=>Cells X0 (bl [rr w 3 Int d0 j0.length k0] ++ L) k0 j0) (fun ⟨g0,b0,j0,d0,k0⟩=>(g0,b0,j0)) (0,0,([]:List Int),vN,[]) j2 I0 (Az (cs:=[]) (xs:=([]:List Int)) I0 L (AA _ _)) ?_
 rintro s3 ⟨g0,b0,j0,d0,k0⟩ X0 A0 c0 F0 y0 h
 unfold bz_l1 at h
 try dsimp only at h
 refine Aj<|Ae<|Ac rfl<|Ac rfl ?_
 have u0:=AL h0_0 c0
 have D3:a0.length <= 281474976710656:=AT u0
 refine Ab (AY (xs:=a0) underlying140 rfl u0)<|Ab (FV.lss (i:=b0) (j:=((a0.length:Nat):Int)) rfl rfl)<|Ac rfl<|RG.ifd (s:=12) rfl h (fun x0 h=>?_) (fun x0 h=>?_)
 refine Al<|Al<|Al<|Al<|RG.pt rfl rfl<|Ac rfl<|Al<|Al<|RG.pt rfl rfl<|Aa<|Ba rfl<|Aw<|Aj<|AC<|Aj<|Ae<|Ac rfl<|Ac rfl<|Ab (AY (xs:=a0) underlying140 rfl u0)<|Ab (FV.lss (i:=b0) (j:=((a0.length:Nat):Int)) rfl rfl)<|Aa<|MX.cond_kt rfl (decide_eq_true x0)<|Aq<|Ac rfl<|Ac rfl<|Ac rfl<|bk h fun Y0 F2 h=>?_
 obtain ⟨V1,G2⟩:=aV F2
 obtain ⟨k3,y3,J1,Y1,j1,k2,c2⟩:=Bl u0 G2
 have K1:j1 = [vI Y0]:=k2; subst K1
 refine Ab (Bx 1 (b0.toNat) rfl J1 rfl V1 Y1)<|Bo rfl (c2 0 _ rfl)<|bk h fun V0 t2 h=>Ab (FV.addc (i:=g0) (j:=Y0) rfl rfl t2)<|Ai rfl<|Aa<|Aj<|Ae<|Ac rfl<|Ac rfl ?_
 have G0:=AL h1_0 c0
 have E3:a1.length <= 281474976710656:=AT G0
 refine Ab (AY (xs:=a1) underlying140 rfl G0)<|Ab (FV.lss (i:=b0) (j:=((a1.length:Nat):Int)) rfl rfl)<|Aa<|MX.jo (α:=Int) (fun t0=>[(0,v0_0),(1,v1_0),(5,d0),(6,vI t0),(7,vI b0)]) (fun t0=>[rr w 3 Int d0 j0.length k0]) (fun t0=>t0) c0 h ?_ ?_
 rintro t0 Q3 v1 J0 h
 try dsimp only at h
 refine Ae<|Ac rfl<|Ac rfl<|bk h fun p0 u2 h=>Ab (FV.remc (i:=t0) (j:=4294967296) rfl rfl u2)<|Ak .plain rfl (jA p0 (vI p0) v1 bb (e1 rfl)) fun H3 u3 B0 K0=>bk h fun d3 M2 h=>BD .plain rfl (AR (α:=Int) (ys:=([p0]:List Int)) M2 B0 (fun _ _=>.t1) bb rfl rfl (Ar y0 (Tt J0 K0)) (Bd (α:=Int) B0 .hd (jC p0 (vI p0) B0 L rfl))) fun Z2 I3 ⟨k1,x1,D1,G1⟩=>Ai rfl<|Aa<|Aq<|Ac rfl<|bk h fun R2 v2 h=>Ab (FV.quoc (i:=t0) (j:=4294967296) rfl rfl v2)<|Ai rfl<|Aa<|AF<|Aq<|Ac rfl<|bk h fun U2 x2 h=>Ab (FV.addc (i:=b0) (j:=1) rfl rfl x2)<|Ai rfl<|Aa ?_
 obtain ⟨y1,M0⟩:=AD x1 .d1
 exact A0 (R2,U2,d3,Z2,k1) y1 (Tt F0 (Tt J0 (Tt K0 (Tt D1 M0)))) (Ar G1 M0) h
 intro t3 H0 h
 try dsimp only at h
 refine AS rfl h (fun c1 h=>?_) (fun c1 h=>?_)
 refine Aq<|Ac rfl<|Ac rfl<|Ac rfl<|bk h fun Z0 H2 h=>?_
 obtain ⟨W1,I2⟩:=aV H2
 obtain ⟨p3,z3,M1,Z1,p1,p2,d2⟩:=Bl G0 I2
 have P1:p1 = [vI Z0]:=p2; subst P1
 refine Ab (Bx 1 (b0.toNat) rfl M1 rfl W1 Z1)<|Bo rfl (d2 0 _ rfl)<|bk h fun V2 y2 h=>Ab (FV.addc (i:=V0) (j:=Z0) rfl rfl y2)<|Ai rfl<|Aa<|H0 V2 c0 (BJ _ _) h
 refine Aw<|H0 V0 c0 (BJ _ _) h
 refine AV (Av rfl)<|AV (Av rfl) ?_
 have v0:=AL h1_0 c0
 have F3:a1.length <= 281474976710656:=AT v0
 refine AV (AY (xs:=a1) underlying140 rfl v0)<|AV (FV.lss (i:=b0) (j:=((a1.length:Nat):Int)) rfl rfl)<|Br rfl rfl<|Ac rfl<|RG.ifd (s:=18) rfl h (fun z0 h=>?_) (fun z0 h=>?_)
 refine Al<|Al<|RG.pt rfl rfl<|Aa<|Ba rfl<|Aw<|Aj<|AC<|Aj<|Ae<|Ac rfl<|Ac rfl<|Ab (AY (xs:=a0) underlying140 rfl u0)<|Ab (FV.lss (i:=b0) (j:=((a0.length:Nat):Int)) rfl rfl)<|Aa<|MX.cond_kf rfl (decide_eq_false x0)<|Aw<|Aj<|Ae<|Ac rfl<|Ac rfl<|Ab (AY (xs:=a1) underlying140 rfl v0)<|Ab (FV.lss (i:=b0) (j:=((a1.length:Nat):Int)) rfl rfl)<|Aa<|MX.cond_kt rfl (decide_eq_true z0)<|Aq<|Ac rfl<|Ac rfl<|Ac rfl<|bk h fun b1 J2 h=>?_
 obtain ⟨X1,K2⟩:=aV J2
 obtain ⟨q3,A3,Q1,b2,q1,q2,g2⟩:=Bl v0 K2
 have R1:q1 = [vI b1]:=q2; subst R1
 refine Ab (Bx 1 (b0.toNat) rfl Q1 rfl X1 b2)<|Bo rfl (g2 0 _ rfl)<|bk h fun W0 z2 h=>Ab (FV.addc (i:=g0) (j:=b1) rfl rfl z2)<|Ai rfl<|Aa<|Ae<|Ac rfl<|Ac rfl<|bk h fun q0 A2 h=>Ab (FV.remc (i:=W0) (j:=4294967296) rfl rfl A2)<|Ak .plain rfl (jA q0 (vI q0) c0 bb (e1 rfl)) fun J3 v3 C0 P0=>bk h fun g3 P2 h=>BD .plain rfl (AR (α:=Int) (ys:=([q0]:List Int)) P2 C0 (fun _ _=>.t1) bb rfl rfl (Ar y0 P0) (Bd (α:=Int) C0 .hd (jC q0 (vI q0) C0 L rfl))) fun b3 K3 ⟨s1,z1,E1,H1⟩=>Ai rfl<|Aa<|Aq<|Ac rfl<|bk h fun W2 B2 h=>Ab (FV.quoc (i:=W0) (j:=4294967296) rfl rfl B2)<|Ai rfl<|Aa<|AF<|Aq<|Ac rfl<|Ab (FV.addI (i:=b0) (j:=1) rfl rfl (by omega))<|Ai rfl<|Aa ?_
 obtain ⟨A1,Q0⟩:=AD z1 .d1
 exact A0 (W2,b0 + 1,g3,b3,s1) A1 (Tt F0 (Tt P0 (Tt E1 Q0))) (Ar H1 Q0) h
 refine AV (Av rfl)<|AV (FV.gtr (i:=g0) (j:=0) rfl rfl)<|Br rfl rfl<|Aa<|AS rfl h (fun g1 h=>?_) (fun g1 h=>?_)
 refine Aw<|Aj<|AC<|Aj<|Ae<|Ac rfl<|Ac rfl<|Ab (AY (xs:=a0) underlying140 rfl u0)<|Ab (FV.lss (i:=b0) (j:=((a0.length:Nat):Int)) rfl rfl)<|Aa<|MX.cond_kf rfl (decide_eq_false x0)<|Aw<|Aj<|Ae<|Ac rfl<|Ac rfl<|Ab (AY (xs:=a1) underlying140 rfl v0)<|Ab (FV.lss (i:=b0) (j:=((a1.length:Nat):Int)) rfl rfl)<|Aa<|MX.cond_kf rfl (decide_eq_false z0)<|Aw<|Ae<|Ac rfl<|Ac rfl<|bk h fun s0 C2 h=>Ab (FV.remc (i:=g0) (j:=4294967296) rfl rfl C2)<|Ak .plain rfl (jA s0 (vI s0) c0 bb (e1 rfl)) fun M3 x3 D0 R0=>bk h fun j3 Q2 h=>BD .plain rfl (AR (α:=Int) (ys:=([s0]:List Int)) Q2 D0 (fun _ _=>.t1) bb rfl rfl (Ar y0 R0) (Bd (α:=Int) D0 .hd (jC s0 (vI s0) D0 L rfl))) fun c3 P3 ⟨u1,B1,F1,I1⟩=>Ai rfl<|Aa<|Aq<|Ac rfl<|bk h fun X2 D2 h=>Ab (FV.quoc (i:=g0) (j:=4294967296) rfl rfl D2)<|Ai rfl<|Aa<|AF<|Aq<|Ac rfl<|bk h fun Y2 E2 h=>Ab (FV.addc (i:=b0) (j:=1) rfl rfl E2)<|Ai rfl<|Aa ?_
 obtain ⟨C1,U0⟩:=AD B1 .d1
 exact A0 (X2,Y2,j3,c3,u1) C1 (Tt F0 (Tt R0 (Tt F1 U0))) (Ar I1 U0) h
 refine Bc rfl ?_
 have h:=U1 _ h
 try dsimp only at h
 refine Ae<|Ac rfl<|Ai rfl<|Aa<|Ax rfl ?_
 have E0:=Bz c0 .hd
 have C3:=BA c0 .hd
 have s2:=BB (α:=Int) (v:=d0) (xs:=j0) E0 L (Bj (α:=Int) c0 .hd y0 hL)
 refine Bq hb0 func183 rfl rfl ?_
 cases h
 exact ⟨E0.ag,fun w9 hw9=>⟨d0,rfl,E0.kd s2 hw9⟩⟩
def bn_p (n:Nat) (a0:Te) (a1:Te):Option Te:=
  (if (a0.fc == a1.fc) = true then (bz_p n a0.fD a1.fD).bind fun b0=>(ac_p n a0.fc b0).bind fun c0=>some c0 else (aB_p n a0.fD a1.fD).bind fun d0=>(if 0 <= d0 then (ak_p n a0.fD a1.fD).bind fun g0=>(ac_p n a0.fc g0).bind fun j0=>some j0 else (ak_p n a1.fD a0.fD).bind fun k0=>(ac_p n a1.fc k0).bind fun p0=>some p0))
theorem bn_c (n:Nat) {L w} (hL:hl L w) (a0:Te) {v0_1:Value} (h0_1:Rep.R w L [v0_1] a0.fD) (a1:Te) {v1_1:Value} (h1_1:Rep.R w L [v1_1] a1.fD)  {r:Te} (h:bn_p n a0 a1 = some r) :
 Cl 154 #[.agg #[.bool a0.fc,v0_1],.agg #[.bool a1.fc,v1_1]] w (ak w fun w' u=>∃ v0_1:Value,u = .agg #[.bool r.fc,v0_1]/\Rep.R w' L [v0_1] r.fD):=by
 unfold bn_p at h
 refine AN func154 rfl rfl rfl fun _ cs0 hb0=>Ae<|RG.bx (AM w) rfl rfl fun b2 A1 M0 D1=>RG.bx M0 rfl rfl fun c2 B1 P0 E1=>RG.nl [.bool false,vN] P0 fun d2 C1 b0 F1=>Aa<|Aj<|Ae<|Bn 0 rfl<|Bo rfl ((b0.memA .t2) 0 _ rfl)<|Bn 0 rfl<|Bo rfl ((b0.memA .t1) 0 _ rfl)<|Ab (FV.eqlB (a:=a0.fc) (b:=a1.fc) underlying4 rfl rfl)<|Aa<|MX.ifb rfl h (fun J0 h=>?_) (fun J0 h=>?_)
 refine Aj<|du 8 fun c0 j0=>Rv 0 c0 rfl j0 (fun _=>Bp 0 rfl)<|Rx 1 384 c0 rfl j0 (Bm rfl ((b0.memA .t2) 0 _ rfl))<|Rv 2 c0 rfl j0 (fun _=>Bp 1 rfl)<|Rx 3 448 c0 rfl j0 (Bm rfl ((b0.memA .t2) 1 _ rfl))<|Rv 4 c0 rfl j0 (fun _=>Bp 1 rfl)<|Rx 5 448 c0 rfl j0 (Bm rfl ((b0.memA .t1) 1 _ rfl))<|bk h fun y2 q1 h=>AX 6 127 c0 rfl .plain (bd 183) rfl (e2 rfl rfl) (fun w9 hw9=>bz_c n (b0.hL hL hw9) (b0.km h0_1 hw9) (b0.km h1_1 hw9) q1) rfl fun g2 U1 Y0 ⟨P1,hu_,j1⟩=>?_
 subst hu_
 obtain ⟨z0,G1⟩:=b0.agr Y0
 refine bk h fun F0 s1 h=>AX 7 255 c0 rfl .plain (bd 178) rfl (e2 rfl rfl) (fun w9 hw9=>ac_c n (z0.hL hL hw9) (Af j1 hw9) s1) rfl fun j2 V1 Z0 ⟨v0,hu_,C0⟩=>?_
 subst hu_
 obtain ⟨Q0,H1⟩:=z0.agr Z0
 refine Bw 8 511 c0 rfl rfl .plain (AG (news:=[.bool F0.fc,v0]) Q0 .hd rfl rfl rfl rfl rfl rfl (o2 rfl (AE C0))) fun k2 s0 V0=>AK (dk c0)<|Ax rfl<|Ap hb0 func154 rfl (.cons (.many (cs:=[.bool F0.fc,v0]) rfl rfl (s0.memA .hd)) .nil) rfl ?_
 cases h
 exact ⟨s0.ag,fun w9 hw9=>⟨v0,rfl,s0.kd (Ah C0 V0) hw9⟩⟩
 refine Aw<|Aj<|Ae<|Bn 1 rfl<|Bo rfl ((b0.memA .t2) 1 _ rfl)<|Bn 1 rfl<|Bo rfl ((b0.memA .t1) 1 _ rfl)<|bk h fun G0 u1 h=>Bi (vI G0) (bd 175) rfl (e2 rfl rfl) (fun w9 hw9=>aB_c n (b0.hL0 hL hw9) (b0.k0 h0_1 hw9) (b0.k0 h1_1 hw9) u1) rfl<|Ab (FV.geq (i:=G0) (j:=0) rfl rfl)<|Aa<|AS rfl h (fun K0 h=>?_) (fun K0 h=>?_)
 refine Aj<|du 8 fun d0 p0=>Rv 0 d0 rfl p0 (fun _=>Bp 0 rfl)<|Rx 1 384 d0 rfl p0 (Bm rfl ((b0.memA .t2) 0 _ rfl))<|Rv 2 d0 rfl p0 (fun _=>Bp 1 rfl)<|Rx 3 448 d0 rfl p0 (Bm rfl ((b0.memA .t2) 1 _ rfl))<|Rv 4 d0 rfl p0 (fun _=>Bp 1 rfl)<|Rx 5 448 d0 rfl p0 (Bm rfl ((b0.memA .t1) 1 _ rfl))<|bk h fun z2 v1 h=>AX 6 127 d0 rfl .plain (bd 176) rfl (e2 rfl rfl) (fun w9 hw9=>ak_c n (b0.hL hL hw9) (b0.km h0_1 hw9) (b0.km h1_1 hw9) v1) rfl fun p2 W1 b1 ⟨Q1,hu_,k1⟩=>?_
 subst hu_
 obtain ⟨A0,I1⟩:=b0.agr b1
 refine bk h fun H0 x1 h=>AX 7 255 d0 rfl .plain (bd 178) rfl (e2 rfl rfl) (fun w9 hw9=>ac_c n (A0.hL hL hw9) (Af k1 hw9) x1) rfl fun q2 X1 c1 ⟨x0,hu_,D0⟩=>?_
 subst hu_
 obtain ⟨R0,J1⟩:=A0.agr c1
 refine Bw 8 511 d0 rfl rfl .plain (AG (news:=[.bool H0.fc,x0]) R0 .hd rfl rfl rfl rfl rfl rfl (o2 rfl (AE D0))) fun s2 t0 W0=>AK (dk d0)<|Ax rfl<|Ap hb0 func154 rfl (.cons (.many (cs:=[.bool H0.fc,x0]) rfl rfl (t0.memA .hd)) .nil) rfl ?_
 cases h
 exact ⟨t0.ag,fun w9 hw9=>⟨x0,rfl,t0.kd (Ah D0 W0) hw9⟩⟩
 refine Aw<|Aj<|du 8 fun g0 q0=>Rv 0 g0 rfl q0 (fun _=>Bp 0 rfl)<|Rx 1 384 g0 rfl q0 (Bm rfl ((b0.memA .t1) 0 _ rfl))<|Rv 2 g0 rfl q0 (fun _=>Bp 1 rfl)<|Rx 3 448 g0 rfl q0 (Bm rfl ((b0.memA .t1) 1 _ rfl))<|Rv 4 g0 rfl q0 (fun _=>Bp 1 rfl)<|Rx 5 448 g0 rfl q0 (Bm rfl ((b0.memA .t2) 1 _ rfl))<|bk h fun A2 y1 h=>AX 6 127 g0 rfl .plain (bd 176) rfl (e2 rfl rfl) (fun w9 hw9=>ak_c n (b0.hL hL hw9) (b0.km h1_1 hw9) (b0.km h0_1 hw9) y1) rfl fun u2 Y1 d1 ⟨R1,hu_,p1⟩=>?_
 subst hu_
 obtain ⟨B0,K1⟩:=b0.agr d1
 refine bk h fun I0 z1 h=>AX 7 255 g0 rfl .plain (bd 178) rfl (e2 rfl rfl) (fun w9 hw9=>ac_c n (B0.hL hL hw9) (Af p1 hw9) z1) rfl fun v2 Z1 g1 ⟨y0,hu_,E0⟩=>?_
 subst hu_
 obtain ⟨U0,M1⟩:=B0.agr g1
 refine Bw 8 511 g0 rfl rfl .plain (AG (news:=[.bool I0.fc,y0]) U0 .hd rfl rfl rfl rfl rfl rfl (o2 rfl (AE E0))) fun x2 u0 X0=>AK (dk g0)<|Ax rfl<|Ap hb0 func154 rfl (.cons (.many (cs:=[.bool I0.fc,y0]) rfl rfl (u0.memA .hd)) .nil) rfl ?_
 cases h
 exact ⟨u0.ag,fun w9 hw9=>⟨y0,rfl,u0.kd (Ah E0 X0) hw9⟩⟩
def bV_p (n:Nat) (a0:Te) (a1:Te):Option Te:=
  (bj_p n a1).bind fun b0=>(bn_p n a0 b0).bind fun c0=>some c0
theorem bV_c (n:Nat) {L w} (hL:hl L w) (a0:Te) {v0_1:Value} (h0_1:Rep.R w L [v0_1] a0.fD) (a1:Te) {v1_1:Value} (h1_1:Rep.R w L [v1_1] a1.fD)  {r:Te} (h:bV_p n a0 a1 = some r) :
 Cl 185 #[.agg #[.bool a0.fc,v0_1],.agg #[.bool a1.fc,v1_1]] w (ak w fun w' u=>∃ v0_1:Value,u = .agg #[.bool r.fc,v0_1]/\Rep.R w' L [v0_1] r.fD):=by
 unfold bV_p at h
 refine AN func185 rfl rfl rfl fun _ cs0 hb0=>Ae<|RG.bx (AM w) rfl rfl fun R0 D0 s0 G0=>RG.bx s0 rfl rfl fun U0 E0 t0 H0=>RG.nl [.bool false,vN] t0 fun V0 F0 c0 I0=>Aa<|Aj<|du 4 fun b0 p0=>Rx 0 24 b0 rfl p0 (Au rfl (c0.memA .t2))<|Rx 1 28 b0 rfl p0 (Au rfl (c0.memA .t1))<|bk h fun C0 A0 h=>AX 2 7 b0 rfl .plain (bd 158) rfl (e1 rfl) (fun w9 hw9=>bj_c n (c0.hL hL hw9) a1 (c0.km h1_1 hw9) A0) rfl fun W0 P0 x0 ⟨M0,hu_,z0⟩=>?_
 subst hu_
 obtain ⟨d0,J0⟩:=c0.agr x0
 refine bk h fun q0 B0 h=>AX 3 15 b0 rfl .plain (bd 154) rfl (e2 rfl rfl) (fun w9 hw9=>bn_c n (d0.hL hL hw9) a0 (d0.km h0_1 hw9) C0 (Af z0 hw9) B0) rfl fun X0 Q0 y0 ⟨j0,hu_,k0⟩=>?_
 subst hu_
 obtain ⟨u0,K0⟩:=d0.agr y0
 refine Bw 4 31 b0 rfl rfl .plain (AG (news:=[.bool q0.fc,j0]) u0 .hd rfl rfl rfl rfl rfl rfl (o2 rfl (AE k0))) fun Y0 g0 v0=>AK (dk b0)<|Ax rfl<|Ap hb0 func185 rfl (.cons (.many (cs:=[.bool q0.fc,j0]) rfl rfl (g0.memA .hd)) .nil) rfl ?_
 cases h
 exact ⟨g0.ag,fun w9 hw9=>⟨j0,rfl,g0.kd (Ah k0 v0) hw9⟩⟩
def aT_p (n:Nat) (a0:Te) (a1:Te):Option (Te × Te):=
  (au_p n a0.fD a1.fD).bind fun g0=>(ac_p n (!(a0.fc == a1.fc)) g0.1).bind fun b0=>(ac_p n a0.fc g0.2).bind fun c0=>(if c0.fc = true then (bn_p n c0 (⟨false,a1.fD⟩:Te)).bind fun d0=>(if a1.fc = true then (aS_p n (1:Int)).bind fun j0=>(bn_p n b0 j0).bind fun k0=>some (k0,d0) else (aS_p n (1:Int)).bind fun p0=>(bV_p n b0 p0).bind fun q0=>some (q0,d0)) else some (b0,c0))
theorem aT_c (n:Nat) {L w} (hL:hl L w) (a0:Te) {v0_1:Value} (h0_1:Rep.R w L [v0_1] a0.fD) (a1:Te) {v1_1:Value} (h1_1:Rep.R w L [v1_1] a1.fD)  {r:Te × Te} (h:aT_p n a0 a1 = some r) :
 Cl 177 #[.agg #[.bool a0.fc,v0_1],.agg #[.bool a1.fc,v1_1]] w (ak w fun w' u=>∃ v0_1 v1_1:Value,u = .tuple #[.agg #[.bool r.1.fc,v0_1],.agg #[.bool r.2.fc,v1_1]]/\Rep.R w' L [v0_1] r.1.fD/\Rep.R w' L [v1_1] r.2.fD):=by
 unfold aT_p at h
 refine AN func177 rfl rfl rfl fun _ cs0 hb0=>Ae<|RG.bx (AM w) rfl rfl fun k6 H5 Q3 J5=>RG.bx Q3 rfl rfl fun p6 c2 R3 K5=>RG.nl [.bool false,vN] R3 fun z6 G0 Y3 P5=>RG.nl [.bool false,vN] Y3 fun A6 H0 z1 Q5=>Aa<|Ae<|Bn 1 rfl<|Bo rfl ((z1.memA .t3) 1 _ rfl)<|Bn 1 rfl<|Bo rfl ((z1.memA .t2) 1 _ rfl)<|bk h fun P6 v5 h=>jE (bd 184) rfl (e2 rfl rfl) (fun w9 hw9=>au_c n (z1.hL hL hw9) (z1.km h0_1 hw9) (z1.km h1_1 hw9) v5) rfl fun B6 g6 b5 ⟨W5,X5,hu_,R1,B0⟩=>?_
 subst hu_
 obtain ⟨Z0,R5⟩:=z1.agr b5
 refine Ac rfl<|Ab (Ag rfl rfl)<|Ab (Ag rfl rfl)<|Ai rfl<|Ai rfl<|Aa<|Aj<|du 13 fun b0 V0=>Rv 0 b0 rfl V0 (fun _=>Bp 0 rfl)<|Rx 1 25680 b0 rfl V0 (Bm rfl ((Z0.memA .t3) 0 _ rfl))<|Rv 2 b0 rfl V0 (fun _=>Bp 0 rfl)<|Rx 3 25680 b0 rfl V0 (Bm rfl ((Z0.memA .t2) 0 _ rfl))<|Rv 4 b0 rfl V0 (fun _=>FV.neqB (a:=a0.fc) (b:=a1.fc) underlying4 rfl rfl)<|Rv 5 b0 rfl V0 (fun _=>Av rfl)<|Rv 7 b0 rfl V0 (fun _=>Bp 0 rfl)<|Rx 8 25600 b0 rfl V0 (Bm rfl ((Z0.memA .t3) 0 _ rfl))<|Rv 9 b0 rfl V0 (fun _=>Av rfl)<|bk h fun Y0 U1 h=>bk h fun y1 D0 h=>RD.mf (α:=Value × Value × Nat × Nat) (fun ⟨E0,M0,k1,p1⟩=>[(3,vP c2),(4,vP G0),(5,vP H0),(24,.agg #[.bool Y0.fc,E0]),(28,.agg #[.bool y1.fc,M0]),(8,vP p1),(9,vP k1)]) (fun ⟨E0,M0,k1,p1⟩=>[.cells k1 [.bool false,vN] 142,.cells p1 [.bool false,vN] 142,.cells H0 [.bool false,vN] 142,.cells G0 [.bool false,vN] 142,.cells c2 [.bool a1.fc,v1_1] 142]) (fun ⟨E0,M0,k1,p1⟩ J2=>Rep.R J2 (bl [.cells k1 [.bool false,vN] 142,.cells p1 [.bool false,vN] 142,.cells H0 [.bool false,vN] 142,.cells G0 [.bool false,vN] 142,.cells c2 [.bool a1.fc,v1_1] 142] ++ L) [E0] Y0.fD/\Rep.R J2 (bl [.cells k1 [.bool false,vN] 142,.cells p1 [.bool false,vN] 142,.cells H0 [.bool false,vN] 142,.cells G0 [.bool false,vN] 142,.cells c2 [.bool a1.fc,v1_1] 142] ++ L) [M0] y1.fD) Z0 2 8191 ?_ ?_
 rintro ⟨E0,M0,k1,p1⟩ J2 U3 M5 ⟨C1,s2⟩
 try dsimp only
 refine Bw 13 16383 b0 rfl rfl .plain (AG (news:=[.bool Y0.fc,E0]) U3 .t1 rfl rfl rfl rfl rfl rfl (o2 rfl (AE C1))) fun q6 V3 s1=>Bw 14 32767 b0 rfl rfl .plain (AG (news:=[.bool y1.fc,M0]) V3 .hd rfl rfl rfl rfl rfl rfl (o2 rfl (AE (Ah s2 s1)))) fun s6 x0 A1=>AK (dk b0)<|Aj<|Ae<|Bn 0 rfl<|Bo rfl ((x0.memA .hd) 0 _ rfl)<|Aa<|MX.ifb rfl h (fun M3 h=>?_) (fun M3 h=>?_)
 refine Ae<|Ab (Au rfl (x0.memA .hd))<|Bn 1 rfl<|Bo rfl ((x0.memA .t4) 1 _ rfl) ?_
 obtain ⟨G5,I5,q5,_⟩:=Rep.sl (AL h1_1 x0)
 refine Ab (AQ (vs:=[v1_1]) (u:=.agg #[.bool false,v1_1]) (e1 rfl) (fun w9=>by rw [q5]; try kernel_rfl))<|bk h fun x1 s5 h=>jE (bd 154) rfl (e2 rfl rfl) (fun w9 hw9=>bn_c n (x0.hL hL hw9) y1 (Af (Ah s2 (Tt s1 A1)) hw9) (⟨false,a1.fD⟩:Te) (x0.km h1_1 hw9) s5) rfl fun t6 Y5 V4 ⟨W0,hu_,Q1⟩=>?_
 subst hu_
 obtain ⟨W3,U2⟩:=x0.agr V4
 refine AO [.bool x1.fc,W0] W3 .hd (o2 rfl (AE Q1)) fun u6 q1 B1=>Aa<|Ae<|Bn 0 rfl<|Bo rfl ((q1.memA .t4) 0 _ rfl)<|Aa<|MX.ifb rfl h (fun P3 h=>?_) (fun P3 h=>?_)
 refine du 3 fun V1 z5=>Rx 0 12 V1 rfl z5 (Au rfl (q1.memA .t1))<|bk h fun E5 t5 h=>AX 1 3 V1 rfl .plain (bd 149) rfl (e1 rfl) (fun w9 hw9=>aS_c n (q1.hL hL hw9)  t5) rfl fun v6 Z5 W4 ⟨U5,hu_,k5⟩=>?_
 subst hu_
 obtain ⟨Q2,z2⟩:=q1.agr W4
 refine bk h fun Z1 u5 h=>AX 2 7 V1 rfl .plain (bd 154) rfl (e2 rfl rfl) (fun w9 hw9=>bn_c n (Q2.hL hL hw9) Y0 (Af (Ah C1 (Tt s1 (Tt A1 (Tt U2 (Tt B1 z2))))) hw9) E5 (Af k5 hw9) u5) rfl fun x6 b6 X4 ⟨E1,hu_,u2⟩=>?_
 subst hu_
 obtain ⟨X3,V2⟩:=Q2.agr X4
 refine Bw 3 15 V1 rfl rfl .plain (AG (news:=[.bool Z1.fc,E1]) X3 .t1 rfl rfl rfl rfl rfl rfl (o2 rfl (AE u2))) fun y6 H1 p2=>AK (dk V1)<|Aj<|du 2 fun b1 I3=>Rx 0 12 b1 rfl I3 (Au rfl (H1.memA .t1))<|RD.mo (α:=Unit) (fun ()=>[(4,vP G0),(5,vP H0),(45,.agg #[.bool x1.fc,W0])]) (fun ()=>[.cells H0 [.bool false,vN] 142,.cells G0 [.bool Z1.fc,E1] 142]) H1 1 7 ?_ ?_
 rintro ⟨⟩ J6 Z3 W2
 try dsimp only
 refine Bw 3 15 b1 rfl rfl .plain (AG (news:=[.bool x1.fc,W0]) Z3 .hd rfl rfl rfl rfl rfl rfl (o2 rfl (AE (Ah Q1 (Tt B1 (Tt z2 (Tt V2 (Tt p2 W2)))))))) fun C6 I1 H4=>AK (dk b1)<|Ax rfl<|Ap hb0 func177 rfl (.cons (.many (cs:=[.bool Z1.fc,E1]) rfl rfl (I1.memA .t1)) (.cons (.many (cs:=[.bool x1.fc,W0]) rfl rfl (I1.memA .hd)) .nil)) rfl ?_
 cases h
 have v3:=Tt p2 (Tt W2 H4)
 exact ⟨I1.ag,fun w9 hw9=>⟨E1,W0,rfl,I1.kd (Ah u2 v3) hw9,I1.kd (Ah Q1 (Tt B1 (Tt z2 (Tt V2 v3)))) hw9⟩⟩
 intro K2
 refine AW [1,2] (rk b1) ⟨?_,?_,trivial⟩
 refine AU (m' :=3) (sk b1) rfl .plain rfl (Au rfl (H1.memA .hd)) ?_
 have d5:=Ah u2 p2
 refine Bw 2 7 b1 rfl rfl .plain (AG (news:=[.bool Z1.fc,E1]) H1 .t3 rfl rfl rfl rfl rfl rfl (o2 rfl (AE d5))) fun B5 d2 A2=>?_
 obtain ⟨b4,I4⟩:=AD d2 (.a2 (.a2 .done))
 exact K2 () b4 (Tt A2 I4)
 refine RO.now (m' :=5) (sk b1) rfl rfl .plain (AG (news:=[.bool Z1.fc,E1]) H1 .t3 rfl rfl rfl rfl rfl rfl (o2 rfl (AE (Ah u2 p2)))) fun B5 d2 A2=>Rx 1 8 b1 rfl I3 (Au rfl (d2.memA .hd)) ?_
 obtain ⟨c4,J4⟩:=AD d2 (.a2 (.a2 .done))
 exact K2 () c4 (Tt A2 J4)
 refine du 3 fun W1 A5=>Rx 0 12 W1 rfl A5 (Au rfl (q1.memA .t1))<|bk h fun F5 x5 h=>AX 1 3 W1 rfl .plain (bd 149) rfl (e1 rfl) (fun w9 hw9=>aS_c n (q1.hL hL hw9)  x5) rfl fun D6 c6 Y4 ⟨V5,hu_,p5⟩=>?_
 subst hu_
 obtain ⟨R2,B2⟩:=q1.agr Y4
 refine bk h fun b2 y5 h=>AX 2 7 W1 rfl .plain (bd 185) rfl (e2 rfl rfl) (fun w9 hw9=>bV_c n (R2.hL hL hw9) Y0 (Af (Ah C1 (Tt s1 (Tt A1 (Tt U2 (Tt B1 B2))))) hw9) F5 (Af p5 hw9) y5) rfl fun E6 d6 Z4 ⟨F1,hu_,v2⟩=>?_
 subst hu_
 obtain ⟨d4,X2⟩:=R2.agr Z4
 refine Bw 3 15 W1 rfl rfl .plain (AG (news:=[.bool b2.fc,F1]) d4 .t1 rfl rfl rfl rfl rfl rfl (o2 rfl (AE v2))) fun F6 J1 q2=>AK (dk W1)<|Aj<|du 2 fun c1 J3=>Rx 0 12 c1 rfl J3 (Au rfl (J1.memA .t1))<|RD.mo (α:=Unit) (fun ()=>[(4,vP G0),(5,vP H0),(45,.agg #[.bool x1.fc,W0])]) (fun ()=>[.cells H0 [.bool false,vN] 142,.cells G0 [.bool b2.fc,F1] 142]) J1 1 7 ?_ ?_
 rintro ⟨⟩ K6 g4 Y2
 try dsimp only
 refine Bw 3 15 c1 rfl rfl .plain (AG (news:=[.bool x1.fc,W0]) g4 .hd rfl rfl rfl rfl rfl rfl (o2 rfl (AE (Ah Q1 (Tt B1 (Tt B2 (Tt X2 (Tt q2 Y2)))))))) fun H6 K1 K4=>AK (dk c1)<|Ax rfl<|Ap hb0 func177 rfl (.cons (.many (cs:=[.bool b2.fc,F1]) rfl rfl (K1.memA .t1)) (.cons (.many (cs:=[.bool x1.fc,W0]) rfl rfl (K1.memA .hd)) .nil)) rfl ?_
 cases h
 have x3:=Tt q2 (Tt Y2 K4)
 exact ⟨K1.ag,fun w9 hw9=>⟨F1,W0,rfl,K1.kd (Ah v2 x3) hw9,K1.kd (Ah Q1 (Tt B1 (Tt B2 (Tt X2 x3)))) hw9⟩⟩
 intro M2
 refine AW [1,2] (rk c1) ⟨?_,?_,trivial⟩
 refine AU (m' :=3) (sk c1) rfl .plain rfl (Au rfl (J1.memA .hd)) ?_
 have g5:=Ah v2 q2
 refine Bw 2 7 c1 rfl rfl .plain (AG (news:=[.bool b2.fc,F1]) J1 .t3 rfl rfl rfl rfl rfl rfl (o2 rfl (AE g5))) fun C5 j2 C2=>?_
 obtain ⟨j4,M4⟩:=AD j2 (.a2 (.a2 .done))
 exact M2 () j4 (Tt C2 M4)
 refine RO.now (m' :=5) (sk c1) rfl rfl .plain (AG (news:=[.bool b2.fc,F1]) J1 .t3 rfl rfl rfl rfl rfl rfl (o2 rfl (AE (Ah v2 q2)))) fun C5 j2 C2=>Rx 1 8 c1 rfl J3 (Au rfl (j2.memA .hd)) ?_
 obtain ⟨k4,P4⟩:=AD j2 (.a2 (.a2 .done))
 exact M2 () k4 (Tt C2 P4)
 refine Aw<|Aj<|du 2 fun d1 K3=>Rx 0 12 d1 rfl K3 (Au rfl (x0.memA .t1))<|RD.mo (α:=Unit) (fun ()=>[(4,vP G0),(5,vP H0),(45,.agg #[.bool y1.fc,M0])]) (fun ()=>[.cells H0 [.bool false,vN] 142,.cells G0 [.bool Y0.fc,E0] 142]) x0 1 7 ?_ ?_
 rintro ⟨⟩ M6 p4 Q4
 try dsimp only
 have G2:=Tt s1 (Tt A1 Q4)
 refine Bw 3 15 d1 rfl rfl .plain (AG (news:=[.bool y1.fc,M0]) p4 .hd rfl rfl rfl rfl rfl rfl (o2 rfl (AE (Ah s2 G2)))) fun I6 M1 Z2=>AK (dk d1)<|Ax rfl<|Ap hb0 func177 rfl (.cons (.many (cs:=[.bool Y0.fc,E0]) rfl rfl (M1.memA .t1)) (.cons (.many (cs:=[.bool y1.fc,M0]) rfl rfl (M1.memA .hd)) .nil)) rfl ?_
 cases h
 exact ⟨M1.ag,fun w9 hw9=>⟨E0,M0,rfl,M1.kd (Ah C1 (Tt G2 Z2)) hw9,M1.kd (Ah s2 (Tt G2 Z2)) hw9⟩⟩
 intro P2
 refine AW [1,2] (rk d1) ⟨?_,?_,trivial⟩
 refine AU (m' :=3) (sk d1) rfl .plain rfl (Au rfl (x0.memA .hd)) ?_
 have j5:=Ah C1 (Tt s1 A1)
 refine Bw 2 7 d1 rfl rfl .plain (AG (news:=[.bool Y0.fc,E0]) x0 .t3 rfl rfl rfl rfl rfl rfl (o2 rfl (AE j5))) fun D5 k2 D2=>?_
 obtain ⟨q4,R4⟩:=AD k2 (.a2 (.a2 .done))
 exact P2 () q4 (Tt D2 R4)
 refine RO.now (m' :=5) (sk d1) rfl rfl .plain (AG (news:=[.bool Y0.fc,E0]) x0 .t3 rfl rfl rfl rfl rfl rfl (o2 rfl (AE (Ah C1 (Tt s1 A1))))) fun D5 k2 D2=>Rx 1 8 d1 rfl K3 (Au rfl (k2.memA .hd)) ?_
 obtain ⟨s4,U4⟩:=AD k2 (.a2 (.a2 .done))
 exact P2 () s4 (Tt D2 U4)
 intro v0
 refine AW [6,11,12] (rk b0) ⟨?_,?_,?_,trivial⟩
 refine RO.call (m' :=1023) (fst:=[]) (cap:=[]) (sk b0) rfl .plain (bd 178) rfl (e2 rfl rfl) (fun w9 hw9=>ac_c n (Z0.hL hL hw9) (Af R1 hw9) U1) rfl fun G6 j6 c5 ⟨G1,hu_,D1⟩=>?_
 subst hu_
 obtain ⟨g2,z0⟩:=Z0.agr c5
 refine AW [10,11,12] (rk b0) ⟨?_,?_,?_,trivial⟩
 have v1:=Ah B0 z0
 refine RO.call (m' :=2047) (fst:=[]) (cap:=[]) (sk b0) rfl .plain (bd 178) rfl (e2 rfl rfl) (fun w9 hw9=>ac_c n (g2.hL hL hw9) (Af v1 hw9) D0) rfl fun y2 x2 Q0 ⟨P0,hu_,K0⟩=>?_
 subst hu_
 obtain ⟨I0,J0⟩:=g2.agr Q0
 refine AW [11,12] (rk b0) ⟨?_,?_,trivial⟩
 refine Bv (m' :=4095) (sk b0) rfl .plain rfl (Ay [.bool false,vN] I0) fun j1 p0 j0 d0=>RD.nu 12 8191 b0 rfl .plain rfl (Ay [.bool false,vN] j0) fun g1 k0 g0 c0=>?_
 obtain ⟨u4,b3⟩:=AD g0 (.a0 (.a0 (.a0 (.a0 (.a0 .done)))))
 have y3:=Tt J0 (Tt d0 (Tt c0 b3))
 exact v0 (G1,P0,k0,p0) u4 (Tt z0 y3) ⟨(Ah D1 y3),(Ah K0 (Tt d0 (Tt c0 b3)))⟩
 refine Bv (m' :=6143) (sk b0) rfl .plain rfl (Ay [.bool false,vN] I0) fun g1 k0 g0 c0=>RD.nu 11 8191 b0 rfl .plain rfl (Ay [.bool false,vN] g0) fun j1 p0 j0 d0=>?_
 obtain ⟨v4,c3⟩:=AD j0 (.a1 (.a0 (.a0 (.a0 (.a0 .done)))))
 have z3:=Tt J0 (Tt c0 (Tt d0 c3))
 exact v0 (G1,P0,k0,p0) v4 (Tt z0 z3) ⟨(Ah D1 z3),(Ah K0 (Tt c0 (Tt d0 c3)))⟩
 refine Bv (m' :=3071) (sk b0) rfl .plain rfl (Ay [.bool false,vN] g2) fun j1 p0 j0 d0=>AW [10,12] (rk b0) ⟨?_,?_,trivial⟩
 have v1:=Ah B0 (Tt z0 d0)
 refine RO.call (m' :=4095) (fst:=[]) (cap:=[]) (sk b0) rfl .plain (bd 178) rfl (e2 rfl rfl) (fun w9 hw9=>ac_c n (j0.hL hL hw9) (Af v1 hw9) D0) rfl fun y2 x2 Q0 ⟨P0,hu_,K0⟩=>?_
 subst hu_
 obtain ⟨I0,J0⟩:=j0.agr Q0
 refine RD.nu 12 8191 b0 rfl .plain rfl (Ay [.bool false,vN] I0) fun g1 k0 g0 c0=>?_
 obtain ⟨x4,d3⟩:=AD g0 (.a0 (.a0 (.a0 (.a0 (.a0 .done)))))
 have A3:=Tt d0 (Tt J0 (Tt c0 d3))
 exact v0 (G1,P0,k0,p0) x4 (Tt z0 A3) ⟨(Ah D1 A3),(Ah K0 (Tt c0 d3))⟩
 refine Bv (m' :=7167) (sk b0) rfl .plain rfl (Ay [.bool false,vN] j0) fun g1 k0 g0 c0=>?_
 have u0:=Tt z0 (Tt d0 c0)
 have R0:=Ah B0 u0
 refine AX 10 8191 b0 rfl .plain (bd 178) rfl (e2 rfl rfl) (fun w9 hw9=>ac_c n (g0.hL hL hw9) (Af R0 hw9) D0) rfl fun Y1 X1 A0 ⟨F0,hu_,C0⟩=>?_
 subst hu_
 obtain ⟨y0,t0⟩:=g0.agr A0
 obtain ⟨y4,g3⟩:=AD y0 (.a0 (.a0 (.a0 (.a0 (.a0 .done)))))
 have B3:=Tt d0 (Tt c0 (Tt t0 g3))
 exact v0 (G1,F0,k0,p0) y4 (Tt z0 B3) ⟨(Ah D1 B3),(Ah C0 g3)⟩
 refine Bv (m' :=5119) (sk b0) rfl .plain rfl (Ay [.bool false,vN] g2) fun g1 k0 g0 c0=>AW [10,11] (rk b0) ⟨?_,?_,trivial⟩
 have v1:=Ah B0 (Tt z0 c0)
 refine RO.call (m' :=6143) (fst:=[]) (cap:=[]) (sk b0) rfl .plain (bd 178) rfl (e2 rfl rfl) (fun w9 hw9=>ac_c n (g0.hL hL hw9) (Af v1 hw9) D0) rfl fun y2 x2 Q0 ⟨P0,hu_,K0⟩=>?_
 subst hu_
 obtain ⟨I0,J0⟩:=g0.agr Q0
 refine RD.nu 11 8191 b0 rfl .plain rfl (Ay [.bool false,vN] I0) fun j1 p0 j0 d0=>?_
 obtain ⟨z4,j3⟩:=AD j0 (.a1 (.a0 (.a0 (.a0 (.a0 .done)))))
 have C3:=Tt c0 (Tt J0 (Tt d0 j3))
 exact v0 (G1,P0,k0,p0) z4 (Tt z0 C3) ⟨(Ah D1 C3),(Ah K0 (Tt d0 j3))⟩
 refine Bv (m' :=7167) (sk b0) rfl .plain rfl (Ay [.bool false,vN] g0) fun j1 p0 j0 d0=>?_
 have u0:=Tt z0 (Tt c0 d0)
 have R0:=Ah B0 u0
 refine AX 10 8191 b0 rfl .plain (bd 178) rfl (e2 rfl rfl) (fun w9 hw9=>ac_c n (j0.hL hL hw9) (Af R0 hw9) D0) rfl fun Y1 X1 A0 ⟨F0,hu_,C0⟩=>?_
 subst hu_
 obtain ⟨y0,t0⟩:=j0.agr A0
 obtain ⟨A4,k3⟩:=AD y0 (.a1 (.a0 (.a0 (.a0 (.a0 .done)))))
 have D3:=Tt c0 (Tt d0 (Tt t0 k3))
 exact v0 (G1,F0,k0,p0) A4 (Tt z0 D3) ⟨(Ah D1 D3),(Ah C0 k3)⟩
 refine Bv (m' :=3007) (sk b0) rfl .plain rfl (Ay [.bool false,vN] Z0) fun j1 p0 j0 d0=>AW [6,12] (rk b0) ⟨?_,?_,trivial⟩
 have P1:=Ah R1 d0
 refine RO.call (m' :=3071) (fst:=[]) (cap:=[]) (sk b0) rfl .plain (bd 178) rfl (e2 rfl rfl) (fun w9 hw9=>ac_c n (j0.hL hL hw9) (Af P1 hw9) U1) rfl fun I2 H2 u1 ⟨X0,hu_,U0⟩=>?_
 subst hu_
 obtain ⟨q0,s0⟩:=j0.agr u1
 refine AW [10,12] (rk b0) ⟨?_,?_,trivial⟩
 have v1:=Ah B0 (Tt d0 s0)
 refine RO.call (m' :=4095) (fst:=[]) (cap:=[]) (sk b0) rfl .plain (bd 178) rfl (e2 rfl rfl) (fun w9 hw9=>ac_c n (q0.hL hL hw9) (Af v1 hw9) D0) rfl fun y2 x2 Q0 ⟨P0,hu_,K0⟩=>?_
 subst hu_
 obtain ⟨I0,J0⟩:=q0.agr Q0
 refine RD.nu 12 8191 b0 rfl .plain rfl (Ay [.bool false,vN] I0) fun g1 k0 g0 c0=>?_
 obtain ⟨B4,p3⟩:=AD g0 (.a0 (.a0 (.a0 (.a0 (.a0 .done)))))
 have E3:=Tt J0 (Tt c0 p3)
 exact v0 (X0,P0,k0,p0) B4 (Tt d0 (Tt s0 E3)) ⟨(Ah U0 E3),(Ah K0 (Tt c0 p3))⟩
 refine Bv (m' :=7167) (sk b0) rfl .plain rfl (Ay [.bool false,vN] q0) fun g1 k0 g0 c0=>?_
 have u0:=Tt d0 (Tt s0 c0)
 have R0:=Ah B0 u0
 refine AX 10 8191 b0 rfl .plain (bd 178) rfl (e2 rfl rfl) (fun w9 hw9=>ac_c n (g0.hL hL hw9) (Af R0 hw9) D0) rfl fun Y1 X1 A0 ⟨F0,hu_,C0⟩=>?_
 subst hu_
 obtain ⟨y0,t0⟩:=g0.agr A0
 obtain ⟨C4,q3⟩:=AD y0 (.a0 (.a0 (.a0 (.a0 (.a0 .done)))))
 have F3:=Tt c0 (Tt t0 q3)
 exact v0 (X0,F0,k0,p0) C4 (Tt d0 (Tt s0 F3)) ⟨(Ah U0 F3),(Ah C0 q3)⟩
 refine Bv (m' :=7103) (sk b0) rfl .plain rfl (Ay [.bool false,vN] j0) fun g1 k0 g0 c0=>?_
 have P1:=Ah R1 (Tt d0 c0)
 refine AX 6 7167 b0 rfl .plain (bd 178) rfl (e2 rfl rfl) (fun w9 hw9=>ac_c n (g0.hL hL hw9) (Af P1 hw9) U1) rfl fun I2 H2 u1 ⟨X0,hu_,U0⟩=>?_
 subst hu_
 obtain ⟨q0,s0⟩:=g0.agr u1
 have u0:=Tt d0 (Tt c0 s0)
 have R0:=Ah B0 u0
 refine AX 10 8191 b0 rfl .plain (bd 178) rfl (e2 rfl rfl) (fun w9 hw9=>ac_c n (q0.hL hL hw9) (Af R0 hw9) D0) rfl fun Y1 X1 A0 ⟨F0,hu_,C0⟩=>?_
 subst hu_
 obtain ⟨y0,t0⟩:=q0.agr A0
 obtain ⟨D4,E2⟩:=AD y0 (.a0 (.a0 (.a0 (.a0 (.a0 .done)))))
 exact v0 (X0,F0,k0,p0) D4 (Tt u0 (Tt t0 E2)) ⟨(Ah U0 (Tt t0 E2)),(Ah C0 E2)⟩
 refine Bv (m' :=5055) (sk b0) rfl .plain rfl (Ay [.bool false,vN] Z0) fun g1 k0 g0 c0=>AW [6,11] (rk b0) ⟨?_,?_,trivial⟩
 have P1:=Ah R1 c0
 refine RO.call (m' :=5119) (fst:=[]) (cap:=[]) (sk b0) rfl .plain (bd 178) rfl (e2 rfl rfl) (fun w9 hw9=>ac_c n (g0.hL hL hw9) (Af P1 hw9) U1) rfl fun I2 H2 u1 ⟨X0,hu_,U0⟩=>?_
 subst hu_
 obtain ⟨q0,s0⟩:=g0.agr u1
 refine AW [10,11] (rk b0) ⟨?_,?_,trivial⟩
 refine RO.call (m' :=6143) (fst:=[]) (cap:=[]) (sk b0) rfl .plain (bd 178) rfl (e2 rfl rfl) (fun w9 hw9=>ac_c n (q0.hL hL hw9) (Af (Ah B0 (Tt c0 s0)) hw9) D0) rfl fun y2 x2 Q0 ⟨P0,hu_,K0⟩=>?_
 subst hu_
 obtain ⟨I0,J0⟩:=q0.agr Q0
 refine RD.nu 11 8191 b0 rfl .plain rfl (Ay [.bool false,vN] I0) fun j1 p0 j0 d0=>?_
 obtain ⟨E4,s3⟩:=AD j0 (.a1 (.a0 (.a0 (.a0 (.a0 .done)))))
 have G3:=Tt J0 (Tt d0 s3)
 exact v0 (X0,P0,k0,p0) E4 (Tt c0 (Tt s0 G3)) ⟨(Ah U0 G3),(Ah K0 (Tt d0 s3))⟩
 refine Bv (m' :=7167) (sk b0) rfl .plain rfl (Ay [.bool false,vN] q0) fun j1 p0 j0 d0=>?_
 have u0:=Tt c0 (Tt s0 d0)
 have R0:=Ah B0 u0
 refine AX 10 8191 b0 rfl .plain (bd 178) rfl (e2 rfl rfl) (fun w9 hw9=>ac_c n (j0.hL hL hw9) (Af R0 hw9) D0) rfl fun Y1 X1 A0 ⟨F0,hu_,C0⟩=>?_
 subst hu_
 obtain ⟨y0,t0⟩:=j0.agr A0
 obtain ⟨F4,u3⟩:=AD y0 (.a1 (.a0 (.a0 (.a0 (.a0 .done)))))
 have H3:=Tt d0 (Tt t0 u3)
 exact v0 (X0,F0,k0,p0) F4 (Tt c0 (Tt s0 H3)) ⟨(Ah U0 H3),(Ah C0 u3)⟩
 refine Bv (m' :=7103) (sk b0) rfl .plain rfl (Ay [.bool false,vN] g0) fun j1 p0 j0 d0=>AX 6 7167 b0 rfl .plain (bd 178) rfl (e2 rfl rfl) (fun w9 hw9=>ac_c n (j0.hL hL hw9) (Af (Ah R1 (Tt c0 d0)) hw9) U1) rfl fun I2 H2 u1 ⟨X0,hu_,U0⟩=>?_
 subst hu_
 obtain ⟨q0,s0⟩:=j0.agr u1
 have u0:=Tt c0 (Tt d0 s0)
 refine AX 10 8191 b0 rfl .plain (bd 178) rfl (e2 rfl rfl) (fun w9 hw9=>ac_c n (q0.hL hL hw9) (Af (Ah B0 u0) hw9) D0) rfl fun Y1 X1 A0 ⟨F0,hu_,C0⟩=>?_
 subst hu_
 obtain ⟨y0,t0⟩:=q0.agr A0
 obtain ⟨G4,F2⟩:=AD y0 (.a1 (.a0 (.a0 (.a0 (.a0 .done)))))
 exact v0 (X0,F0,k0,p0) G4 (Tt u0 (Tt t0 F2)) ⟨(Ah U0 (Tt t0 F2)),(Ah C0 F2)⟩
def bg_p (n:Nat) (a0:Te) (a1:Te):Option Tg:=
  (aM_p n a0 a1).bind fun b0=>jn (fun (d0,g0)=>(aT_p n a0 (⟨d0,g0⟩:Te)).bind fun k0=>(aT_p n a1 (⟨d0,g0⟩:Te)).bind fun p0=>some (⟨k0.1,p0.1⟩:Tg)) (fun c0=>(if a1.fc = true then (bj_p n b0).bind fun j0=>c0 (j0.fc,j0.fD) else c0 (b0.fc,b0.fD)))
theorem bg_c (n:Nat) {L w} (hL:hl L w) (a0:Te) {v0_1:Value} (h0_1:Rep.R w L [v0_1] a0.fD) (a1:Te) {v1_1:Value} (h1_1:Rep.R w L [v1_1] a1.fD)  {r:Tg} (h:bg_p n a0 a1 = some r) :
 Cl 148 #[.agg #[.bool a0.fc,v0_1],.agg #[.bool a1.fc,v1_1]] w (ak w fun w' u=>∃ v0_1 v0_3:Value,u = .agg #[.bool r.fN.fc,v0_1,.bool r.fD.fc,v0_3]/\Rep.R w' L [v0_1] r.fN.fD/\Rep.R w' L [v0_3] r.fD.fD):=by
 unfold bg_p at h
 refine AN func148 rfl rfl rfl fun _ cs0 hb0=>Ae<|RG.bx (AM w) rfl rfl fun M2 y0 z1 B2=>RG.bx z1 rfl rfl fun X2 z0 C1 C2=>RG.nl [.bool false,vN,.bool false,vN] C1 fun Y2 A0 g0 D2=>Aa<|Ae<|Ab (Au rfl (g0.memA .t2))<|Ab (Au rfl (g0.memA .t1))<|bk h fun x0 c2 h=>jE (bd 157) rfl (e2 rfl rfl) (fun w9 hw9=>aM_c n (g0.hL hL hw9) a0 (g0.km h0_1 hw9) a1 (g0.km h1_1 hw9) c2) rfl fun Z2 H2 R1 ⟨q1,hu_,M0⟩=>?_
 subst hu_
 obtain ⟨D1,E2⟩:=g0.agr R1
 refine RG.nl [.bool false,vN] D1 fun b3 B0 E1 G0=>AO [.bool x0.fc,q1] E1 .hd (o2 rfl (AE (Ah M0 G0))) fun c3 j0 X0=>Aa<|Aj<|Ae<|Bn 0 rfl<|Bo rfl ((j0.memA .t2) 0 _ rfl)<|Aa<|MX.jf (α:=Bool × (List Int) × Value) (fun ⟨b0,c0,d0⟩=>[(2,vP y0),(3,vP z0),(4,vP A0),(5,vP B0)]) (fun ⟨b0,c0,d0⟩=>[.cells B0 [.bool b0,d0] 142,.cells A0 [.bool false,vN,.bool false,vN] 144,.cells z0 [.bool a1.fc,v1_1] 142,.cells y0 [.bool a0.fc,v0_1] 142]) (fun ⟨b0,c0,d0⟩ s1=>Rep.R s1 (bl [.cells B0 [.bool b0,d0] 142,.cells A0 [.bool false,vN,.bool false,vN] 144,.cells z0 [.bool a1.fc,v1_1] 142,.cells y0 [.bool a0.fc,v0_1] 142] ++ L) [d0] c0) (fun ⟨b0,c0,d0⟩=>(b0,c0)) j0 h ?_ ?_
 rintro ⟨b0,c0,d0⟩ s1 t0 F2 k1 h
 try dsimp only at h
 refine Ae<|Ab (Au rfl (t0.memA .t3))<|Ab (Au rfl (t0.memA .hd))<|bk h fun q0 d2 h=>jE (bd 177) rfl (e2 rfl rfl) (fun w9 hw9=>aT_c n (t0.hL hL hw9) a0 (t0.km h0_1 hw9) (⟨b0,c0⟩:Te) (Af k1 hw9) d2) rfl fun d3 I2 U1 ⟨p0,k2,hu_,P0,X1⟩=>?_
 subst hu_
 obtain ⟨F1,P1⟩:=t0.agr U1
 refine Ac rfl<|Ab (Ag rfl rfl)<|Ab (Ag rfl rfl)<|RG.nl [.bool false,vN] F1 fun g3 x2 G1 H0=>RG.nl [.bool false,vN] G1 fun j3 y2 H1 I0=>AO [.bool q0.1.fc,p0] H1 .t1 (o2 rfl (AE (Ah P0 (Tt H0 I0)))) fun k3 I1 Y0=>?_
 have g1:=Tt H0 (Tt I0 Y0)
 refine AO [.bool q0.2.fc,k2] I1 .hd (o2 rfl (AE (Ah X1 g1))) fun p3 u0 Z0=>Aa<|Ae<|Ab (Au rfl (u0.memA .t4))<|Ab (Au rfl (u0.memA .t2))<|bk h fun s0 g2 h=>jE (bd 177) rfl (e2 rfl rfl) (fun w9 hw9=>aT_c n (u0.hL hL hw9) a1 (u0.km h1_1 hw9) (⟨b0,c0⟩:Te) (Af (Ah k1 (Tt P1 (Tt H0 (Tt I0 (Tt Y0 Z0))))) hw9) g2) rfl fun q3 J2 V1 ⟨k0,j2,hu_,K0,W1⟩=>?_
 subst hu_
 obtain ⟨J1,K1⟩:=u0.agr V1
 refine Ac rfl<|Ab (Ag rfl rfl)<|Ab (Ag rfl rfl)<|RG.nl [.bool false,vN] J1 fun K2 u2 v1 D0=>RG.nl [.bool false,vN] v1 fun P2 v2 x1 E0=>AO [.bool s0.1.fc,k0] x1 .t1 (o2 rfl (AE (Ah K0 (Tt D0 E0)))) fun Q2 y1 U0=>?_
 have J0:=Tt D0 (Tt E0 U0)
 refine AO [.bool s0.2.fc,j2] y1 .hd (o2 rfl (AE (Ah W1 J0))) fun R2 C0 F0=>Aa<|Ae<|Ab (Au rfl (C0.memA .t3))<|Ab (Au rfl (C0.memA .t1)) ?_
 have d1:=Tt g1 (Tt Z0 (Tt K1 (Tt D0 (Tt E0 (Tt U0 F0)))))
 have b1:=Ah P0 d1
 obtain ⟨p2,z2,Y1,_⟩:=Rep.sl b1
 have c1:=Ah K0 (Tt J0 F0)
 obtain ⟨q2,A2,Z1,_⟩:=Rep.sl c1
 refine Ab (AQ (vs:=[.agg #[.bool q0.1.fc,p0],.agg #[.bool s0.1.fc,k0]]) (u:=.agg #[.bool q0.1.fc,p0,.bool s0.1.fc,k0]) (e2 rfl rfl) (fun w9=>by rw [Y1,Z1]; try kernel_rfl))<|AO [.bool q0.1.fc,p0,.bool s0.1.fc,k0] C0 .t5 (o4 rfl (AE b1) rfl (AE c1)) fun U2 v0 V0=>Aa<|Ax rfl<|Ap hb0 func148 rfl (.cons (.many (cs:=[.bool q0.1.fc,p0,.bool s0.1.fc,k0]) rfl rfl (v0.memA .t5)) .nil) rfl ?_
 cases h
 exact ⟨v0.ag,fun w9 hw9=>⟨p0,k0,rfl,v0.kd (Ah P0 (Tt d1 V0)) hw9,v0.kd (Ah K0 (Tt J0 (Tt F0 V0))) hw9⟩⟩
 intro s2 R0 h
 try dsimp only at h
 refine MX.ifb rfl h (fun u1 h=>?_) (fun u1 h=>?_)
 refine Aq<|Ab (Au rfl (j0.memA .hd))<|bk h fun Q0 b2 h=>jE (bd 158) rfl (e1 rfl) (fun w9 hw9=>bj_c n (j0.hL hL hw9) x0 (Af (Ah M0 (Tt G0 X0)) hw9) b2) rfl fun V2 G2 Q1 ⟨p1,hu_,j1⟩=>?_
 subst hu_
 obtain ⟨A1,M1⟩:=j0.agr Q1
 refine AO [.bool Q0.fc,p1] A1 .hd (o2 rfl (AE j1)) fun W2 B1 W0=>Aa<|R0 (Q0.fc,Q0.fD,p1) B1 (Tt M1 W0) (Ah j1 W0) h
 refine Aw<|R0 (x0.fc,x0.fD,q1) j0 (BJ _ _) (Ah M0 (Tt G0 X0)) h
def aN_l1 (_n:Nat) (a0:U8) (g0:Nat × (List Int) -> Option (List Int)):Nat × (List Int) -> Option (List Int)
  | (b0,c0)=>(if b0 < 8 then (([a0.1,a0.2.1,a0.2.2.1,a0.2.2.2.1,a0.2.2.2.2.1,a0.2.2.2.2.2.1,a0.2.2.2.2.2.2.1,a0.2.2.2.2.2.2.2]:List UInt64)[b0]?).bind fun d0=>(app c0 ([aD (d0 % (4294967296:UInt64)),aD (d0 / (4294967296:UInt64))]:List Int)).bind fun j0=>g0 (b0 + 1,j0) else some c0)
def aN_p (n:Nat) (a0:U8):Option (List Int):=
  Option.bind (au (aN_l1 n a0) n (0,([]:List Int))) (fun b0=>some b0)
theorem aN_c (n:Nat) {L w} (hL:hl L w) (a0:U8)  {r:List Int} (h:aN_p n a0 = some r) :
 Cl 180 #[.agg ((aj a0)).toArray] w (ak w fun w' u=>∃ v0_0:Value,u = v0_0/\Rep.R w' L [v0_0] r):=by
 unfold aN_p at h
 refine AN func180 rfl rfl rfl fun _ cs0 hb0=>Ae<|RG.bx (AM w) rfl rfl fun j1 s0 x0 Z0=>Ai rfl<|Aa<|Ae<|Ai rfl<|Aa<|Aj<|Ae<|Ai rfl<|Aa<|AC ?_
 have y0:=x0.nilRow 3 (Rep.size Int)
 have b1:=St.nilRowT x0 3 (Rep.size Int)
 obtain ⟨c1,P0,M0⟩:=ap h
 refine MX.lf (α:=Nat × (List Int) × Value × (List Value)) (fun ⟨d0,k0,j0,p0⟩=>[(1,vP s0),(3,j0),(4,vI ((d0:Nat):Int))]) (fun ⟨d0,k0,j0,p0⟩=>[rr w 3 Int j0 k0.length p0,.cells s0 (aj a0) 32]) (fun ⟨d0,k0,j0,p0⟩ C0=>Cells C0 (bl [rr w 3 Int j0 k0.length p0,.cells s0 (aj a0) 32] ++ L) p0 k0) (fun ⟨d0,k0,j0,p0⟩=>(d0,k0)) (0,([]:List Int),vN,[]) P0 y0 (Az (cs:=[]) (xs:=([]:List Int)) y0 L (AA _ _)) ?_
 rintro W0 ⟨d0,k0,j0,p0⟩ C0 F0 q0 J0 B0 h
 unfold aN_l1 at h
 try dsimp only at h
 refine Aj<|Ae<|Ac rfl<|Ab (Bb (i:=d0) (j:=8) rfl rfl)<|Aa<|AS rfl h (fun D0 h=>?_) (fun D0 h=>?_)
 refine Aw<|Aj<|AC<|du 12 fun c0 g0=>Rv 0 c0 rfl g0 (fun _=>Av rfl)<|Rv 1 c0 rfl g0 (fun _=>Av rfl)<|bk h fun b0 t0 h=>Rv 2 c0 rfl g0 (fun _=>Be (m:=1) (k:=d0) (len:=8) rfl rfl rfl rfl (bB t0 rfl))<|Rx 3 14384 c0 rfl g0 (Bm rfl ((aT (p:=⟨s0,0,none⟩) (cs:=([a0.1,a0.2.1,a0.2.2.1,a0.2.2.2.1,a0.2.2.2.2.1,a0.2.2.2.2.2.1,a0.2.2.2.2.2.2.1,a0.2.2.2.2.2.2.2]:List UInt64).map (fun z9:UInt64=>(vU z9:Value)) ++ []) (i:=d0) (q0.memA .t1) (bD (fun z9:UInt64=>(vU z9:Value)) t0)) 0 _ rfl))<|Rv 4 c0 rfl g0 (fun _=>FV.remU (a:=b0) (b:=(4294967296:UInt64)) rfl rfl (by decide))<|Rv 5 c0 rfl g0 (fun _=>FV.convUI (a:=b0 % (4294967296:UInt64)) underlying30 underlying3 rfl)<|Rv 6 c0 rfl g0 (fun _=>Av rfl)<|Rv 7 c0 rfl g0 (fun _=>Be (m:=1) (k:=d0) (len:=8) rfl rfl rfl rfl (bB t0 rfl))<|Rx 8 15872 c0 rfl g0 (Bm rfl ((aT (p:=⟨s0,0,none⟩) (cs:=([a0.1,a0.2.1,a0.2.2.1,a0.2.2.2.1,a0.2.2.2.2.1,a0.2.2.2.2.2.1,a0.2.2.2.2.2.2.1,a0.2.2.2.2.2.2.2]:List UInt64).map (fun z9:UInt64=>(vU z9:Value)) ++ []) (i:=d0) (q0.memA .t1) (bD (fun z9:UInt64=>(vU z9:Value)) t0)) 0 _ rfl))<|Rv 9 c0 rfl g0 (fun _=>FV.quoU (a:=b0) (b:=(4294967296:UInt64)) rfl rfl (by decide))<|Rv 10 c0 rfl g0 (fun _=>FV.convUI (a:=b0 / (4294967296:UInt64)) underlying30 underlying3 rfl)<|RD.nu 11 4095 c0 rfl .plain rfl (AB (α:=Int) (xs:=([aD (b0 % (4294967296:UInt64)),aD (b0 / (4294967296:UInt64))]:List Int)) (vs:=[vI (aD (b0 % (4294967296:UInt64))),vI (aD (b0 / (4294967296:UInt64)))]) (ds' :=[vI (aD (b0 % (4294967296:UInt64))),vI (aD (b0 / (4294967296:UInt64)))]) rfl q0 bb rfl (e2 rfl rfl) (by kernel_rfl) rfl) fun k1 X0 v0 A0=>bk h fun V0 R0 h=>BF (i:=12) (rk c0) (Bs (m' :=8191) (sk c0) rfl rfl .plain rfl (AR (α:=Int) (ys:=([aD (b0 % (4294967296:UInt64)),aD (b0 / (4294967296:UInt64))]:List Int)) R0 v0 (fun _ _=>.t1) bb rfl rfl (Ar B0 A0) (Bd (α:=Int) v0 .hd (Az (cs:=[vI (aD (b0 % (4294967296:UInt64))),vI (aD (b0 / (4294967296:UInt64)))]) (xs:=(([aD (b0 % (4294967296:UInt64)),aD (b0 / (4294967296:UInt64))]:List Int):List Int)) v0 L (Ao (cs:=[vI (aD (b0 % (4294967296:UInt64)))]) (ds:=[vI (aD (b0 / (4294967296:UInt64)))]) rfl (Ao (cs:=[vI (aD (b0 / (4294967296:UInt64)))]) (ds:=[]) rfl (AA _ _)))))) (fun U0 g1 ⟨E0,G0,I0,K0⟩=>?_))
 refine Rv 13 c0 rfl g0 (fun _=>Bg rfl)<|AK (dk c0)<|AF<|Aq<|Ac rfl<|Ab (Bf (i:=d0) (j:=1) rfl rfl (by omega))<|Ai rfl<|Aa ?_
 obtain ⟨H0,z0⟩:=AD G0 .d1
 exact F0 (d0 + 1,V0,U0,E0) H0 (Tt J0 (Tt A0 (Tt I0 z0))) (Ar K0 z0) h
 refine Bc rfl ?_
 have h:=M0 _ h
 try dsimp only at h
 refine Ae<|Ac rfl<|Ai rfl<|Aa<|Ax rfl ?_
 have u0:=Bz q0 .hd
 have Y0:=BA q0 .hd
 have Q0:=BB (α:=Int) (v:=j0) (xs:=k0) u0 L (Bj (α:=Int) q0 .hd B0 hL)
 refine Bq hb0 func180 rfl rfl ?_
 cases h
 exact ⟨u0.ag,fun w9 hw9=>⟨j0,rfl,u0.kd Q0 hw9⟩⟩
def bD_p (n:Nat) (a0:U8):Option Te:=
  (aN_p n a0).bind fun c0=>(if a0.2.2.2.2.2.2.2 < (9223372036854775808:UInt64) then (ac_p n false c0).bind fun g0=>some g0 else (mk 17 (0:Int)).bind fun b0=>(b0[16]?).bind fun _x49=>(put b0 ((16:Nat):Int) (1:Int)).bind fun d0=>(aw_p n c0).bind fun j0=>(ak_p n d0 j0).bind fun k0=>(ac_p n true k0).bind fun p0=>some p0)
theorem bD_c (n:Nat) {L w} (hL:hl L w) (a0:U8)  {r:Te} (h:bD_p n a0 = some r) :
 Cl 152 #[.agg ((aj a0)).toArray] w (ak w fun w' u=>∃ v0_1:Value,u = .agg #[.bool r.fc,v0_1]/\Rep.R w' L [v0_1] r.fD):=by
 unfold bD_p at h
 refine AN func152 rfl rfl rfl fun _ cs0 hb0=>Ae<|RG.bx (AM w) rfl rfl fun g2 D1 J0 J1=>RG.nl [.bool false,vN] J0 fun j2 E1 c0 K1=>Aa<|Ae<|Ab (Au rfl (c0.memA .t1))<|bk h fun A2 u1 h=>jE (bd 180) rfl (e1 rfl) (fun w9 hw9=>aN_c n (c0.hL hL hw9) a0 u1) rfl fun k2 Y1 W0 ⟨V1,hu_,A0⟩=>?_
 subst hu_
 obtain ⟨b0,M1⟩:=c0.agr W0
 refine Ai rfl<|Aa<|Aj<|Ae<|Ab (Be (m:=1) (k:=7) (len:=8) rfl rfl rfl rfl (by omega))<|Bo rfl ((b0.memA .t1) 7 _ rfl)<|Ab (FV.lssU (a:=a0.2.2.2.2.2.2.2) (b:=(9223372036854775808:UInt64)) rfl rfl)<|Aa<|AS rfl h (fun H0 h=>?_) (fun H0 h=>?_)
 refine Ae<|Ac rfl<|bk h fun D0 v1 h=>jE (bd 178) rfl (e2 rfl rfl) (fun w9 hw9=>ac_c n (b0.hL hL hw9) (Af A0 hw9) v1) rfl fun p2 Z1 X0 ⟨s0,hu_,B0⟩=>?_
 subst hu_
 obtain ⟨K0,P1⟩:=b0.agr X0
 refine AO [.bool D0.fc,s0] K0 .hd (o2 rfl (AE B0)) fun q2 d0 Q0=>Aa<|Ax rfl<|Ap hb0 func152 rfl (.cons (.many (cs:=[.bool D0.fc,s0]) rfl rfl (d0.memA .hd)) .nil) rfl ?_
 cases h
 exact ⟨d0.ag,fun w9 hw9=>⟨s0,rfl,d0.kd (Ah B0 Q0) hw9⟩⟩
 refine Aw<|Ae<|bk h fun z2 q1 h=>RG.doesH .plain rfl (Does.mkH (α:=Int) (L:=L) q1 b0 bb rfl (fun _ _=>rfl)) fun A1 s2 ⟨H1,g0,R0,x0⟩=>Ai rfl<|Aa<|Ae<|Ac rfl<|bk h fun B1 p1 h=>?_
 obtain ⟨F0,F1,q0,z0,I0,g1,U1⟩:=St.nth (α:=Int) g0 .hd x0 p1
 obtain ⟨G0,G1,y0⟩:=St.nthOwn (α:=Int) g0 .hd z0
 obtain rfl:F0 = ⟨G0,0,none⟩:=by rw [y0] at q0; cases q0; rfl
 have d1:I0 = [vI B1]:=g1; subst d1
 refine Ab (Bx 1 16 rfl q0 rfl rfl z0)<|bk h fun C1 s1 h=>RG.acts' .plain (Acts.set (α:=Int) (i:=16) s1 g0 y0 (fun _=>.hd) x0 rfl rfl rfl rfl rfl rfl) fun t2 ⟨I1,u0,U0,c1⟩=>Aa<|Ae<|Ac rfl<|Ac rfl<|bk h fun B2 x1 h=>jE (bd 181) rfl (e1 rfl) (fun w9 hw9=>aw_c n (u0.hL hL hw9) (Af (Ah A0 (Tt R0 U0)) hw9) x1) rfl fun u2 b2 Y0 ⟨W1,hu_,j1⟩=>?_
 subst hu_
 obtain ⟨j0,V0⟩:=u0.agr Y0
 have k0:=Bz j0 .hd
 refine bk h fun C2 y1 h=>jE (bd 176) rfl (e2 rfl rfl) (fun w9 hw9=>ak_c n (k0.hL hL hw9) (Af (BB (α:=Int) (v:=A1) (xs:=C1) k0 L (Bj (α:=Int) j0 .hd (Ar c1 V0) hL)) hw9) (Af (Ah j1 (BA j0 .hd)) hw9) y1) rfl fun v2 c2 Z0 ⟨X1,hu_,k1⟩=>?_
 subst hu_
 obtain ⟨v0,Q1⟩:=k0.agr Z0
 refine bk h fun E0 z1 h=>jE (bd 178) rfl (e2 rfl rfl) (fun w9 hw9=>ac_c n (v0.hL hL hw9) (Af k1 hw9) z1) rfl fun x2 d2 b1 ⟨t0,hu_,C0⟩=>?_
 subst hu_
 obtain ⟨M0,R1⟩:=v0.agr b1
 refine AO [.bool E0.fc,t0] M0 .hd (o2 rfl (AE C0)) fun y2 p0 P0=>Aa<|Ax rfl<|Ap hb0 func152 rfl (.cons (.many (cs:=[.bool E0.fc,t0]) rfl rfl (p0.memA .hd)) .nil) rfl ?_
 cases h
 exact ⟨p0.ag,fun w9 hw9=>⟨t0,rfl,p0.kd (Ah C0 P0) hw9⟩⟩
def bA_p (n:Nat) (a0:U8) (a1:U8):Option (Ta × Int):=
  (if a1 = (0,0,0,0,0,0,0,0) then some ((⟨(0,0,0,0,0,0,0,0),(0,0,0,0,0,0,0,0)⟩:Ta),(7:Int)) else (bD_p n a0).bind fun c0=>(bD_p n a1).bind fun d0=>(bg_p n c0 d0).bind fun g0=>(bJ_p n g0).bind fun b0=>some (b0.1,b0.2))
theorem bA_c (n:Nat) {L w} (hL:hl L w) (a0:U8) (a1:U8)  {r:Ta × Int} (h:bA_p n a0 a1 = some r) :
 Cl 155 #[.agg ((aj a0)).toArray,.agg ((aj a1)).toArray] w (ak w fun _ u=>u = .tuple #[.agg ((aa r.1)).toArray,vI r.2]):=by
 unfold bA_p at h
 refine AN func155 rfl rfl rfl fun _ cs0 hb0=>Ae<|RG.bx (AM w) rfl rfl fun s1 P0 u0 U0=>RG.bx u0 rfl rfl fun u1 Q0 v0 V0=>RG.nl zL v0 fun v1 R0 c0 W0=>Ai rfl<|Aa<|Aj<|Ae<|Ab (Au rfl (c0.memA .t1))<|Ab (AQ (vs:=[]) (u:=.agg zQ) ar (fun w9=>by kernel_rfl))<|Ab (FV.eqlV (v:=.agg ((aj a1)).toArray) (u:=.agg zQ) rfl rfl (je a1 (0,0,0,0,0,0,0,0)))<|Aa<|AS rfl h (fun t0 h=>?_) (fun t0 h=>?_)
 refine Ae<|Ab (AQ (vs:=[]) (u:=.agg zM) ar (fun w9=>by kernel_rfl))<|AO zL c0 .hd (ai rfl) fun x1 k0 X0=>Ai rfl<|Aa<|Ax rfl<|Ap hb0 func155 rfl (.cons (.many (cs:=zL) rfl rfl (k0.memA .hd)) (.cons (.tmp rfl) .nil)) rfl ?_
 cases h
 exact k0.gv
 refine Aw<|Aj<|du 8 fun b0 d0=>Rx 0 1018 b0 rfl d0 (Au rfl (c0.memA .t2))<|Rx 2 1016 b0 rfl d0 (Au rfl (c0.memA .t1))<|bk h fun J0 F0 h=>AX 1 7 b0 rfl .plain (bd 152) rfl (e1 rfl) (fun w9 hw9=>bD_c n (c0.hL hL hw9) a0 F0) rfl fun w32 k1 y0 ⟨c1,hu_,B0⟩=>?_
 subst hu_
 obtain ⟨p0,Y0⟩:=c0.agr y0
 refine bk h fun K0 G0 h=>AX 3 15 b0 rfl .plain (bd 152) rfl (e1 rfl) (fun w9 hw9=>bD_c n (p0.hL hL hw9) a1 G0) rfl fun y1 p1 z0 ⟨d1,hu_,C0⟩=>?_
 subst hu_
 obtain ⟨q0,x0⟩:=p0.agr z0
 refine bk h fun M0 H0 h=>AX 4 31 b0 rfl .plain (bd 148) rfl (e2 rfl rfl) (fun w9 hw9=>bg_c n (q0.hL hL hw9) J0 (Af (Ah B0 x0) hw9) K0 (Af C0 hw9) H0) rfl fun z1 q1 A0 ⟨g1,j1,hu_,D0,E0⟩=>?_
 subst hu_
 obtain ⟨g0,Z0⟩:=q0.agr A0
 refine bk h fun j0 I0 h=>RD.cq 5 63 960 (.tuple #[.agg ((aa j0.1)).toArray,vI j0.2]) b0 rfl d0 (bd 96) rfl (e1 rfl) (fun w9 hw9=>bJ_c n (g0.hL0 hL hw9) M0 (g0.kd D0 hw9) (g0.kd E0 hw9) I0) rfl<|Rv 6 b0 rfl d0 (fun _=>Ag rfl rfl)<|Rv 7 b0 rfl d0 (fun _=>Ag rfl rfl)<|Bw 8 511 b0 rfl rfl .plain (AG (news:=(aa j0.1)) g0 .hd rfl rfl rfl rfl rfl rfl (ai rfl)) fun A1 s0 b1=>Rv 9 b0 rfl d0 (fun _=>Bg rfl)<|AK (dk b0)<|Ax rfl<|Ap hb0 func155 rfl (.cons (.many (cs:=(aa j0.1)) rfl rfl (s0.memA .hd)) (.cons (.tmp rfl) .nil)) rfl ?_
 cases h
 exact s0.gv
def bB_p (n:Nat) (a0:U8) (a1:U8):Option Ta:=
  (bA_p n a0 a1).bind fun b0=>(if b0.2 = 0 then some b0.1 else (aV_p n (1:Int)).bind fun c0=>(bA_p n a0 c0).bind fun d0=>some d0.1)
theorem bB_c (n:Nat) {L w} (hL:hl L w) (a0:U8) (a1:U8)  {r:Ta} (h:bB_p n a0 a1 = some r) :
 Cl 112 #[.agg ((aj a0)).toArray,.agg ((aj a1)).toArray] w (ak w fun _ u=>u = .agg ((aa r)).toArray):=by
 unfold bB_p at h
 refine AN func112 rfl rfl rfl fun _ cs0 hb0=>Ae<|RG.bx (AM w) rfl rfl fun R0 C0 v0 G0=>RG.bx v0 rfl rfl fun U0 D0 x0 H0=>RG.nl zL x0 fun V0 E0 k0 I0=>Aa<|Ae<|Ab (Au rfl (k0.memA .t2))<|Ab (Au rfl (k0.memA .t1))<|bk h fun g0 z0 h=>Bi (.tuple #[.agg ((aa g0.1)).toArray,vI g0.2]) (bd 155) rfl (e2 rfl rfl) (fun w9 hw9=>bA_c n (k0.hL0 hL hw9) a0 a1 z0) rfl<|Ac rfl<|Ab (Ag rfl rfl)<|Ab (Ag rfl rfl)<|RG.nl zL k0 fun W0 F0 y0 J0=>AO (aa g0.1) y0 .hd (ai rfl) fun X0 c0 K0=>Ai rfl<|Aa<|Aj<|Ae<|Ac rfl<|Ab (BM (i:=g0.2) (j:=0) rfl rfl)<|Aa<|MX.ifn rfl h (fun u0 h=>?_) (fun u0 h=>?_)
 refine Aw<|Ae<|Ab (Au rfl (c0.memA .hd))<|AO (aa g0.1) c0 .t1 (ai rfl) fun Y0 p0 M0=>Aa<|Ax rfl<|Ap hb0 func112 rfl (.cons (.many (cs:=(aa g0.1)) rfl rfl (p0.memA .t1)) .nil) rfl ?_
 cases h
 exact p0.gv
 refine du 6 fun b0 d0=>Rx 0 124 b0 rfl d0 (Au rfl (c0.memA .t3))<|bk h fun t0 A0 h=>RD.cq 1 3 124 (.agg ((aj t0)).toArray) b0 rfl d0 (bd 113) rfl (e1 rfl) (fun w9 hw9=>aV_c n (c0.hL0 hL hw9)  A0) rfl<|bk h fun j0 B0 h=>RD.cq 2 7 120 (.tuple #[.agg ((aa j0.1)).toArray,vI j0.2]) b0 rfl d0 (bd 155) rfl (e2 rfl rfl) (fun w9 hw9=>bA_c n (c0.hL0 hL hw9) a0 t0 B0) rfl<|Rv 3 b0 rfl d0 (fun _=>Av rfl)<|Rv 4 b0 rfl d0 (fun _=>Ag rfl rfl)<|Rv 5 b0 rfl d0 (fun _=>Ag rfl rfl)<|Bw 6 127 b0 rfl rfl .plain (AG (news:=(aa j0.1)) c0 .hd rfl rfl rfl rfl rfl rfl (ai rfl)) fun Z0 q0 P0=>AK (dk b0)<|Ae<|Ab (Au rfl (q0.memA .hd))<|AO (aa j0.1) q0 .t1 (ai rfl) fun b1 s0 Q0=>Aa<|Ax rfl<|Ap hb0 func112 rfl (.cons (.many (cs:=(aa j0.1)) rfl rfl (s0.memA .t1)) .nil) rfl ?_
 cases h
 exact s0.gv
structure Tf where
  fN:Tj
  fD:Tj
  deriving DecidableEq
instance:Rep Tf:=Rep.via (β:=Tj × Tj) fun x=>(x.fN,x.fD)
def aX_p (n:Nat) (a0:Tf):Option Ta:=
  (aI_p n a0.fD).bind fun b0=>jn (fun u0=>(aI_p n a0.fN).bind fun p0=>(de p0 1000).bind fun d0=>(aV_p n d0).bind fun q0=>(de u0 24).bind fun g0=>(chk (1 + g0)).bind fun j0=>(aV_p n j0).bind fun s0=>(bB_p n q0 s0).bind fun t0=>some t0) (fun c0=>(if b0 < 0 then (chk (-b0)).bind fun k0=>c0 k0 else c0 b0))
theorem aX_c (n:Nat) {L w} (hL:hl L w) (a0:Tf) {v0_1:Value} (h0_1:Rep.R w L [v0_1] a0.fN.fBits) {v0_4:Value} (h0_4:Rep.R w L [v0_4] a0.fD.fBits)  {r:Ta} (h:aX_p n a0 = some r) :
 Cl 42 #[.agg #[.bool a0.fN.fc,v0_1,.int .u32 (a0.fN.fo.toNat:Int),.bool a0.fD.fc,v0_4,.int .u32 (a0.fD.fo.toNat:Int)]] w (ak w fun _ u=>u = .agg ((aa r)).toArray):=by
 unfold aX_p at h
 refine AN func42 rfl rfl rfl fun _ cs0 hb0=>Ae<|RG.bx (AM w) rfl rfl fun X0 p0 z0 P0=>RG.nl zL z0 fun Y0 q0 c0 Q0=>Aa<|Ae<|Bn 3 rfl<|Ab (AZ (cs:=[.bool a0.fD.fc,v0_4,.int .u32 (a0.fD.fo.toNat:Int)]) rfl rfl (ah (c0.memA .t1) 3 3))<|bk h fun g0 E0 h=>Bi (vI g0) (bd 111) rfl (e1 rfl) (fun w9 hw9=>aI_c n (c0.hL0 hL hw9) a0.fD (c0.k0 h0_4 hw9) E0) rfl<|Ai rfl<|Aa<|Aj<|Ae<|Ac rfl<|Ab (FV.lss (i:=g0) (j:=0) rfl rfl)<|Aa<|MX.jo (α:=Int) (fun d0=>[(1,vP p0),(2,vP q0),(3,vI d0)]) (fun d0=>[.cells q0 zL 34,.cells p0 [.bool a0.fN.fc,v0_1,.int .u32 (a0.fN.fo.toNat:Int),.bool a0.fD.fc,v0_4,.int .u32 (a0.fD.fo.toNat:Int)] 79]) (fun d0=>d0) c0 h ?_ ?_
 rintro d0 b1 b0 R0 h
 try dsimp only at h
 refine Ae<|Bn 0 rfl<|Ab (AZ (cs:=[.bool a0.fN.fc,v0_1,.int .u32 (a0.fN.fo.toNat:Int)]) rfl rfl (ah (b0.memA .t1) 0 3))<|bk h fun u0 F0 h=>Bi (vI u0) (bd 111) rfl (e1 rfl) (fun w9 hw9=>aI_c n (b0.hL0 hL hw9) a0.fN (b0.k0 h0_1 hw9) F0) rfl<|bk h fun V0 A0 h=>Ab (FV.remc (i:=u0) (j:=1000) rfl rfl A0)<|bk h fun v0 G0 h=>Bi (.agg ((aj v0)).toArray) (bd 113) rfl (e1 rfl) (fun w9 hw9=>aV_c n (b0.hL0 hL hw9)  G0) rfl<|Ac rfl<|bk h fun J0 B0 h=>Ab (FV.remc (i:=d0) (j:=24) rfl rfl B0)<|bk h fun W0 C0 h=>Ab (FV.addc (i:=1) (j:=J0) rfl rfl C0)<|bk h fun x0 H0 h=>Bi (.agg ((aj x0)).toArray) (bd 113) rfl (e1 rfl) (fun w9 hw9=>aV_c n (b0.hL0 hL hw9)  H0) rfl<|bk h fun j0 I0 h=>Bi (.agg ((aa j0)).toArray) (bd 112) rfl (e2 rfl rfl) (fun w9 hw9=>bB_c n (b0.hL0 hL hw9) v0 x0 I0) rfl<|AO (aa j0) b0 .hd (ai rfl) fun Z0 t0 U0=>Aa<|Ax rfl<|Ap hb0 func42 rfl (.cons (.many (cs:=(aa j0)) rfl rfl (t0.memA .hd)) .nil) rfl ?_
 cases h
 exact t0.gv
 intro M0 s0 h
 try dsimp only at h
 refine AS rfl h (fun y0 h=>?_) (fun y0 h=>?_)
 refine Aq<|Ac rfl<|bk h fun K0 D0 h=>Ab (FV.negc (i:=g0) rfl D0)<|Ai rfl<|Aa<|s0 K0 c0 (BJ _ _) h
 refine Aw<|s0 g0 c0 (BJ _ _) h
def cj_p (n:Nat) (a0:Ta):Option Bool:=
  (bH_p n a0).bind fun b0=>some (decide (b0 = 0))
theorem cj_c (n:Nat) {L w} (hL:hl L w) (a0:Ta)  {r:Bool} (h:cj_p n a0 = some r) :
 Cl 160 #[.agg ((aa a0)).toArray] w (ak w fun _ u=>u = .bool r):=by
 unfold cj_p at h
 refine AN func160 rfl rfl rfl fun _ cs0 hb0=>Ae<|RG.bx (AM w) rfl rfl fun k0 g0 b0 j0=>Ai rfl<|Aa<|Ae<|Ab (Au rfl (b0.memA .hd))<|bk h fun c0 d0 h=>Bi (vI c0) (bd 65) rfl (e1 rfl) (fun w9 hw9=>bH_c n (b0.hL0 hL hw9) a0 d0) rfl<|Ab (FV.eql (i:=c0) (j:=0) rfl rfl)<|Ai rfl<|Aa<|Ax rfl<|Bq hb0 func160 rfl rfl ?_
 cases h
 exact b0.gv
def aW_l1 (n:Nat) (a0:List Ta) (c0:Nat -> Option (Bool ⊕ Unit)):Nat -> Option (Bool ⊕ Unit)
  | b0=>(if b0 < a0.length then (a0[b0]?).bind fun d0=>(cj_p n d0).bind fun g0=>(if g0 = true then c0 (b0 + 1) else some (.inl false)) else some (.inr ()))
def aW_p (n:Nat) (a0:List Ta):Option Bool:=
  thn (au (aW_l1 n a0) n 0) (fun _=>some true)
theorem aW_c (n:Nat) {L w} (hL:hl L w) {a0:List Ta} {v0_0:Value} (h0_0:Rep.R w L [v0_0] a0)  {r:Bool} (h:aW_p n a0 = some r) :
 Cl 126 #[v0_0] w (ak w fun _ u=>u = .bool r):=by
 unfold aW_p at h
 refine AN func126 rfl rfl rfl fun _ cs0 hb0=>Ae<|Ai rfl<|Aa<|Ae<|Ai rfl<|Aa<|Ae<|Ac rfl<|Ac rfl<|Bu (fst:=[]) (cap:=[]) (vs:=[.func (.func 160) #[] #[],v0_0]) .plain (bd 161) func161 rfl rfl rfl rfl (e2 rfl rfl) rfl fun cs2 hb1 hp3=>Ae<|Ai rfl<|Aa<|Aj<|Ae<|Ac rfl ?_
 have hl4:a0.length <= 281474976710656:=AT h0_0
 refine Ab (AY (xs:=a0) underlying51 rfl h0_0)<|Ac rfl<|Aa<|AC<|tn h fun P0 C0 g0=>MX.lo (α:=Nat) (fun b0=>[(0,.func (.func 160) #[] #[]),(7,v0_0),(8,vI ((a0.length:Nat):Int)),(9,vI ((b0:Nat):Int))]) (fun b0=>[]) (fun b0=>b0) 0 C0 (AM w) ?_
 rintro I0 b0 U0 q0 d0 u0 h
 unfold aW_l1 at h
 try dsimp only at h
 refine Ae<|Ab (Bb (i:=b0) (j:=a0.length) rfl rfl)<|Aa<|Aj<|AS rfl h (fun k0 h=>?_) (fun k0 h=>?_)
 refine Aw<|Aj<|AC<|Ae<|bk h fun j0 E0 h=>?_
 obtain ⟨H0,K0,z0,A0,M0,D0,B0⟩:=Bl (AL h0_0 d0) E0
 obtain rfl:=df D0
 refine Ab (Bx 16 b0 rfl z0 rfl rfl A0)<|Ab (Au rfl B0)<|RG.nl zL d0 fun Q0 J0 s0 v0=>AO (aa j0) s0 .hd (ai rfl) fun R0 c0 x0=>Aa<|Ae<|Ac rfl<|Ab (Au rfl (c0.memA .hd))<|bk h fun G0 F0 h=>Bi (.bool G0) (bd 160) rfl (e1 rfl) (fun w9 hw9=>cj_c n (c0.hL0 hL hw9) j0 F0) rfl<|Ab (FV.not rfl)<|Aa<|MX.ifnb rfl h (fun p0 h=>?_) (fun p0 h=>?_)
 refine Aw<|AF<|Aq<|Ab (Bf (i:=b0) (j:=1) rfl rfl (by omega))<|Ac rfl<|Aa ?_
 obtain ⟨t0,y0⟩:=AD c0 .done
 exact q0 (b0 + 1) t0 (Tt u0 (Tt v0 (Tt x0 y0))) h
 refine Ae<|Ai rfl<|Aa ?_
 have h:=bO h g0
 refine Ax rfl<|Ap (u:=.bool false) hb1 func161 rfl (.cons (.tmp rfl) .nil) rfl<|Ai rfl<|Aa<|Ax rfl<|Bq hb0 func126 rfl rfl ?_
 cases h
 exact c0.gv
 refine Bc rfl ?_
 have h:=bG h g0
 try dsimp only at h
 refine Ae<|Ai rfl<|Aa<|Ax rfl<|Ap (u:=.bool true) hb1 func161 rfl (.cons (.tmp rfl) .nil) rfl<|Ai rfl<|Aa<|Ax rfl<|Bq hb0 func126 rfl rfl ?_
 cases h
 exact d0.gv
def bW_l1 (n:Nat) (a0:List Ta) (p0:Nat × Bool × (List UInt64) × Bool × (List UInt64) -> Option (Bool × (List UInt64) × Bool × (List UInt64))):Nat × Bool × (List UInt64) × Bool × (List UInt64) -> Option (Bool × (List UInt64) × Bool × (List UInt64))
  | (c0,d0,j0,g0,k0)=>(if c0 < a0.length then (a0[c0]?).bind fun q0=>(ai_p n q0).bind fun s0=>(aa_p n (⟨(⟨d0,j0⟩:Td),(⟨g0,k0⟩:Td)⟩:Tc) s0).bind fun b0=>p0 (c0 + 1,b0.fh.fc,b0.fh.fj,b0.fe.fc,b0.fe.fj) else some (d0,j0,g0,k0))
def bW_p (n:Nat) (a0:List Ta):Option (Ta × Int):=
  (if 400 < a0.length then some ((⟨(0,0,0,0,0,0,0,0),(0,0,0,0,0,0,0,0)⟩:Ta),(3:Int)) else (aW_p n a0).bind fun p0=>(if p0 = true then (av_p n (0:Int)).bind fun b0=>Option.bind (au (bW_l1 n a0) n (0,b0.fh.fc,b0.fh.fj,b0.fe.fc,b0.fe.fj)) (fun (d0,j0,g0,k0)=>(ab_p n (⟨(⟨d0,j0⟩:Td),(⟨g0,k0⟩:Td)⟩:Tc)).bind fun c0=>some (c0.1,c0.2)) else some ((⟨(0,0,0,0,0,0,0,0),(0,0,0,0,0,0,0,0)⟩:Ta),(20:Int))))
theorem bW_c (n:Nat) {L w} (hL:hl L w) {a0:List Ta} {v0_0:Value} (h0_0:Rep.R w L [v0_0] a0)  {r:Ta × Int} (h:bW_p n a0 = some r) :
 Cl 56 #[v0_0] w (ak w fun _ u=>u = .tuple #[.agg ((aa r.1)).toArray,vI r.2]):=by
 unfold bW_p at h
 refine AN func56 rfl rfl rfl fun _ cs0 hb0=>Ae<|RG.nl zL (AM w) fun H2 y0 s0 u2=>Ai rfl<|Aa<|Aj<|Ae<|Ac rfl ?_
 have Q0:=AL h0_0 s0
 have A2:a0.length <= 281474976710656:=AT Q0
 refine Ab (AY (xs:=a0) underlying51 rfl Q0)<|Ab (FV.gtrN (i:=a0.length) (j:=400) rfl rfl)<|Aa<|AS rfl h (fun p1 h=>?_) (fun p1 h=>?_)
 refine Ae<|Ab (AQ (vs:=[]) (u:=.agg zM) ar (fun w9=>by kernel_rfl))<|AO zL s0 .hd (ai rfl) fun I2 H0 v2=>Ai rfl<|Aa<|Ax rfl<|Ap hb0 func56 rfl (.cons (.many (cs:=zL) rfl rfl (H0.memA .hd)) (.cons (.tmp rfl) .nil)) rfl ?_
 cases h
 exact H0.gv
 refine Aw<|Aj<|Ae<|Ac rfl<|bk h fun j2 b2 h=>Bi (.bool j2) (bd 126) rfl (e1 rfl) (fun w9 hw9=>aW_c n (s0.hL0 hL hw9) (s0.k0 h0_0 hw9) b2) rfl<|Ab (FV.not rfl)<|Aa<|MX.ifnb rfl h (fun s1 h=>?_) (fun s1 h=>?_)
 refine Aw<|Ae<|bk h fun x0 d2 h=>jE (bd 71) rfl (e1 rfl) (fun w9 hw9=>av_c n (s0.hL hL hw9)  d2) rfl fun V2 G2 J1 ⟨g1,j1,hu_,X0,Y0⟩=>?_
 subst hu_
 obtain ⟨A1,z2⟩:=s0.agr J1
 refine RG.nl [.bool false,vN,.bool false,vN] A1 fun W2 z0 B1 B0=>AO [.bool x0.fh.fc,g1,.bool x0.fe.fc,j1] B1 .hd (o4 rfl (AE (Ah X0 B0)) rfl (AE (Ah Y0 B0))) fun X2 M0 P0=>Aa<|Aj<|Ae<|Ac rfl<|Ab (AY (xs:=a0) underlying51 rfl (AL h0_0 M0))<|Ac rfl<|Aa<|AC ?_
 obtain ⟨B2,R1,M1⟩:=ap h
 refine MX.lf (α:=Nat × Bool × (List UInt64) × Bool × (List UInt64) × Value × Value) (fun ⟨b0,c0,p0,d0,q0,g0,j0⟩=>[(2,vP y0),(4,vP z0),(16,v0_0),(17,vI ((a0.length:Nat):Int)),(18,vI ((b0:Nat):Int))]) (fun ⟨b0,c0,p0,d0,q0,g0,j0⟩=>[.cells z0 [.bool c0,g0,.bool d0,j0] 109,.cells y0 zL 34]) (fun ⟨b0,c0,p0,d0,q0,g0,j0⟩ G0=>Rep.R G0 (bl [.cells z0 [.bool c0,g0,.bool d0,j0] 109,.cells y0 zL 34] ++ L) [g0] p0/\Rep.R G0 (bl [.cells z0 [.bool c0,g0,.bool d0,j0] 109,.cells y0 zL 34] ++ L) [j0] q0) (fun ⟨b0,c0,p0,d0,q0,g0,j0⟩=>(b0,c0,p0,d0,q0)) (0,x0.fh.fc,x0.fh.fj,x0.fe.fc,x0.fe.fj,g1,j1) R1 M0 ⟨(Ah X0 (Tt B0 P0)),(Ah Y0 (Tt B0 P0))⟩ ?_
 rintro p2 ⟨b0,c0,p0,d0,q0,g0,j0⟩ G0 u1 t0 C1 ⟨R0,U0⟩ h
 unfold bW_l1 at h
 try dsimp only at h
 refine Ae<|Ab (Bb (i:=b0) (j:=a0.length) rfl rfl)<|Aa<|Aj<|AS rfl h (fun q1 h=>?_) (fun q1 h=>?_)
 refine Aw<|Aj<|AC<|Ae<|bk h fun k1 X1 h=>?_
 obtain ⟨k2,s2,K1,P1,t2,U1,Q1⟩:=Bl (AL h0_0 t0) X1
 obtain rfl:=df U1
 refine Ab (Bx 16 b0 rfl K1 rfl rfl P1)<|Ab (Au rfl Q1)<|RG.nl zL t0 fun J2 q2 v1 D1=>AO (aa k1) v1 .hd (ai rfl) fun K2 A0 E1=>Aa<|du 4 fun u0 Z0=>Rx 0 24 u0 rfl Z0 (Au rfl (A0.memA .t1))<|Rx 1 28 u0 rfl Z0 (Au rfl (A0.memA .hd))<|bk h fun g2 Y1 h=>AX 2 7 u0 rfl .plain (bd 68) rfl (e1 rfl) (fun w9 hw9=>ai_c n (A0.hL hL hw9) k1 Y1) rfl fun M2 E2 H1 ⟨C2,D2,hu_,V1,W1⟩=>?_
 subst hu_
 obtain ⟨I0,F1⟩:=A0.agr H1
 refine bk h fun v0 Z1 h=>?_
 have F0:=Tt D1 (Tt E1 F1)
 refine AX 3 15 u0 rfl .plain (bd 81) rfl (e2 rfl rfl) (fun w9 hw9=>aa_c n (I0.hL hL hw9) (⟨(⟨c0,p0⟩:Td),(⟨d0,q0⟩:Td)⟩:Tc) (Af (Ah R0 F0) hw9) (Af (Ah U0 F0) hw9) g2 (Af V1 hw9) (Af W1 hw9) Z1) rfl fun P2 F2 I1 ⟨b1,c1,hu_,V0,W0⟩=>?_
 subst hu_
 obtain ⟨x1,G1⟩:=I0.agr I1
 refine Bw 4 31 u0 rfl rfl .plain (AG (news:=[.bool v0.fh.fc,b1,.bool v0.fe.fc,c1]) x1 .t1 rfl rfl rfl rfl rfl rfl (o4 rfl (AE V0) rfl (AE W0))) fun Q2 y1 D0=>AK (dk u0)<|AF<|Aq<|Ab (Bf (i:=b0) (j:=1) rfl rfl (by omega))<|Ac rfl<|Aa ?_
 obtain ⟨z1,E0⟩:=AD y1 .d1
 exact u1 (b0 + 1,v0.fh.fc,v0.fh.fj,v0.fe.fc,v0.fe.fj,b1,c1) z1 (Tt C1 (Tt F0 (Tt G1 (Tt D0 E0)))) ⟨(Ah V0 (Tt D0 E0)),(Ah W0 (Tt D0 E0))⟩ h
 refine Bc rfl ?_
 have h:=M1 _ h
 try dsimp only at h
 refine Ae<|Ab (Au rfl (t0.memA .hd))<|bk h fun C0 c2 h=>Bi (.tuple #[.agg ((aa C0.1)).toArray,vI C0.2]) (bd 77) rfl (e1 rfl) (fun w9 hw9=>ab_c n (t0.hL0 hL hw9) (⟨(⟨c0,p0⟩:Td),(⟨d0,q0⟩:Td)⟩:Tc) (t0.kd R0 hw9) (t0.kd U0 hw9) c2) rfl<|Ab (Ag rfl rfl)<|Ab (Ag rfl rfl)<|AO (aa C0.1) t0 .t1 (ai rfl) fun R2 J0 x2=>Ai rfl<|Aa<|Ax rfl<|Ap hb0 func56 rfl (.cons (.many (cs:=(aa C0.1)) rfl rfl (J0.memA .t1)) (.cons (.tmp rfl) .nil)) rfl ?_
 cases h
 exact J0.gv
 refine Ae<|Ab (AQ (vs:=[]) (u:=.agg zM) ar (fun w9=>by kernel_rfl))<|AO zL s0 .hd (ai rfl) fun U2 K0 y2=>Ai rfl<|Aa<|Ax rfl<|Ap hb0 func56 rfl (.cons (.many (cs:=zL) rfl rfl (K0.memA .hd)) (.cons (.tmp rfl) .nil)) rfl ?_
 cases h
 exact K0.gv
def bN_p (n:Nat) (a0:Tc) (a1:Int):Option (Ta × Int):=
  (if a1 = 0 then (ab_p n a0).bind fun b0=>some (b0.1,b0.2) else some ((⟨(0,0,0,0,0,0,0,0),(0,0,0,0,0,0,0,0)⟩:Ta),a1))
theorem bN_c (n:Nat) {L w} (hL:hl L w) (a0:Tc) {v0_1:Value} (h0_1:Rep.R w L [v0_1] a0.fh.fj) {v0_3:Value} (h0_3:Rep.R w L [v0_3] a0.fe.fj) {a1:Int}  {r:Ta × Int} (h:bN_p n a0 a1 = some r) :
 Cl 122 #[.agg #[.bool a0.fh.fc,v0_1,.bool a0.fe.fc,v0_3],vI a1] w (ak w fun _ u=>u = .tuple #[.agg ((aa r.1)).toArray,vI r.2]):=by
 unfold bN_p at h
 refine AN func122 rfl rfl rfl fun _ cs0 hb0=>Ae<|RG.bx (AM w) rfl rfl fun z0 s0 p0 u0=>RG.nl zL p0 fun A0 t0 b0 v0=>Ai rfl<|Aa<|Aj<|Ae<|Ac rfl<|Ab (BM (i:=a1) (j:=0) rfl rfl)<|Aa<|MX.ifn rfl h (fun j0 h=>?_) (fun j0 h=>?_)
 refine Aw<|Ae<|Ab (Au rfl (b0.memA .t1))<|bk h fun c0 q0 h=>Bi (.tuple #[.agg ((aa c0.1)).toArray,vI c0.2]) (bd 77) rfl (e1 rfl) (fun w9 hw9=>ab_c n (b0.hL0 hL hw9) a0 (b0.k0 h0_1 hw9) (b0.k0 h0_3 hw9) q0) rfl<|Ab (Ag rfl rfl)<|Ab (Ag rfl rfl)<|AO (aa c0.1) b0 .hd (ai rfl) fun B0 d0 x0=>Ai rfl<|Aa<|Ax rfl<|Ap hb0 func122 rfl (.cons (.many (cs:=(aa c0.1)) rfl rfl (d0.memA .hd)) (.cons (.tmp rfl) .nil)) rfl ?_
 cases h
 exact d0.gv
 refine Ae<|Ab (AQ (vs:=[]) (u:=.agg zM) ar (fun w9=>by kernel_rfl))<|Ac rfl<|AO zL b0 .hd (ai rfl) fun C0 g0 y0=>Ai rfl<|Aa<|Ax rfl<|Ap hb0 func122 rfl (.cons (.many (cs:=zL) rfl rfl (g0.memA .hd)) (.cons (.tmp rfl) .nil)) rfl ?_
 cases h
 exact g0.gv
def cA_p (n:Nat) (a0:Ta) (a1:Ta):Option (Ta × Int):=
  (aW_p n ([a0,a1]:List Ta)).bind fun s0=>(if s0 = true then (if a1.fN = (0,0,0,0,0,0,0,0) then some ((⟨(0,0,0,0,0,0,0,0),(0,0,0,0,0,0,0,0)⟩:Ta),(7:Int)) else (aW_p n ([a0,a1]:List Ta)).bind fun t0=>(if t0 = true then (ai_p n a0).bind fun u0=>(ai_p n a1).bind fun v0=>(aZ_p n u0 v0).bind fun x0=>(bN_p n x0 (0:Int)).bind fun b0=>some (b0.1,b0.2) else (bN_p n (⟨(⟨false,([]:List UInt64)⟩:Td),(⟨false,([]:List UInt64)⟩:Td)⟩:Tc) (20:Int)).bind fun c0=>some (c0.1,c0.2))) else (aW_p n ([a0,a1]:List Ta)).bind fun j0=>(if j0 = true then (ai_p n a0).bind fun k0=>(ai_p n a1).bind fun p0=>(aZ_p n k0 p0).bind fun q0=>(bN_p n q0 (0:Int)).bind fun d0=>some (d0.1,d0.2) else (bN_p n (⟨(⟨false,([]:List UInt64)⟩:Td),(⟨false,([]:List UInt64)⟩:Td)⟩:Tc) (20:Int)).bind fun g0=>some (g0.1,g0.2)))
theorem cA_c (n:Nat) {L w} (hL:hl L w) (a0:Ta) (a1:Ta)  {r:Ta × Int} (h:cA_p n a0 a1 = some r) :
 Cl 57 #[.agg ((aa a0)).toArray,.agg ((aa a1)).toArray] w (ak w fun _ u=>u = .tuple #[.agg ((aa r.1)).toArray,vI r.2]):=by
 unfold cA_p at h
 refine AN func57 rfl rfl rfl fun _ cs0 hb0=>Ae<|RG.bx (AM w) rfl rfl fun t4 K2 z1 q3=>RG.bx z1 rfl rfl fun D4 P2 C1 y3=>RG.nl zL C1 fun K4 R2 D0 D3=>Ai rfl<|Aa<|Aj<|Ae<|Ab (Au rfl (D0.memA .t2))<|Ab (Au rfl (D0.memA .t1))<|Ak .plain rfl (AB (α:=Ta) (xs:=([a0,a1]:List Ta)) (vs:=[.agg ((aa a0)).toArray,.agg ((aa a1)).toArray]) (ds' :=(aa a0 ++ aa a1)) rfl D0 az rfl (e2 rfl rfl) (by kernel_rfl) rfl) fun M4 U2 b0 E3=>bk h fun C2 s2 h=>Bi (.bool C2) (bd 126) rfl (e1 rfl) (fun w9 hw9=>aW_c n (b0.hL0 hL hw9) (Af (St.lend (α:=Ta) (L:=L) b0 .hd (Az (cs:=(aa a0 ++ aa a1)) (xs:=(([a0,a1]:List Ta):List Ta)) b0 L (Ao (cs:=(aa a0)) (ds:=(aa a1)) (am a0.fN a0.fD) (Ao (cs:=(aa a1)) (ds:=[]) (am a1.fN a1.fD) (AA _ _)))) hL) hw9) s2) rfl<|Ac rfl<|RG.ifb (s:=10) rfl h (fun v1 h=>?_) (fun v1 h=>?_)
 refine RG.fg 0 rfl<|AV (AZ (cs:=(aj a1.fN)) rfl rfl (ah (b0.memA .t2) 0 8))<|AV (AQ (vs:=[]) (u:=.agg zQ) ar (fun w9=>by kernel_rfl))<|AV (FV.eqlV (v:=.agg ((aj a1.fN)).toArray) (u:=.agg zQ) rfl rfl (je a1.fN (0,0,0,0,0,0,0,0)))<|RG.pt rfl rfl<|Aa<|AS rfl h (fun x1 h=>?_) (fun x1 h=>?_)
 refine Ae<|Ab (AQ (vs:=[]) (u:=.agg zM) ar (fun w9=>by kernel_rfl))<|AO zL b0 .t1 (ai rfl) fun P4 W0 F3=>Ai rfl<|Aa<|Ax rfl<|Ap hb0 func57 rfl (.cons (.many (cs:=zL) rfl rfl (W0.memA .t1)) (.cons (.tmp rfl) .nil)) rfl ?_
 cases h
 exact W0.gv
 refine Aw<|Ae<|Ab (Au rfl (b0.memA .t3))<|Ab (Au rfl (b0.memA .t2))<|Bu (fst:=[]) (cap:=[]) (vs:=[.agg ((aa a0)).toArray,.agg ((aa a1)).toArray,.func (.func 90) #[] #[]]) .plain (bd 123) func123 rfl rfl rfl rfl (e3 rfl rfl rfl) rfl fun b3 j1 Q3=>Ae<|RG.bx b0 rfl rfl fun Q4 V2 E1 G3=>RG.bx E1 rfl rfl fun R4 W2 F1 H3=>RG.nl [.bool false,vN,.bool false,vN] F1 fun U4 X2 E0 I3=>Ai rfl<|Aa<|Aj<|Ae<|Ab (Au rfl (E0.memA .t2))<|Ab (Au rfl (E0.memA .t1))<|Ak .plain rfl (AB (α:=Ta) (xs:=([a0,a1]:List Ta)) (vs:=[.agg ((aa a0)).toArray,.agg ((aa a1)).toArray]) (ds' :=(aa a0 ++ aa a1)) rfl E0 az rfl (e2 rfl rfl) (by kernel_rfl) rfl) fun V4 Y2 j0 J3=>bk h fun D2 u2 h=>Bi (.bool D2) (bd 126) rfl (e1 rfl) (fun w9 hw9=>aW_c n (j0.hL0 hL hw9) (Af (St.lend (α:=Ta) (L:=L) j0 .hd (Az (cs:=(aa a0 ++ aa a1)) (xs:=(([a0,a1]:List Ta):List Ta)) j0 L (Ao (cs:=(aa a0)) (ds:=(aa a1)) (am a0.fN a0.fD) (Ao (cs:=(aa a1)) (ds:=[]) (am a1.fN a1.fD) (AA _ _)))) hL) hw9) u2) rfl<|Ab (FV.not rfl)<|Aa<|MX.ifnb rfl h (fun y1 h=>?_) (fun y1 h=>?_)
 refine Aw<|Aj<|du 6 fun d0 u0=>Rv 0 d0 rfl u0 (fun _=>Av rfl)<|Rx 1 244 d0 rfl u0 (Au rfl (j0.memA .t3))<|Rx 3 240 d0 rfl u0 (Au rfl (j0.memA .t2))<|bk h fun E2 v2 h=>AX 2 15 d0 rfl .plain (bd 68) rfl (e1 rfl) (fun w9 hw9=>ai_c n (j0.hL hL hw9) a0 v2) rfl fun W4 j4 K1 ⟨X3,Y3,hu_,W1,X1⟩=>?_
 subst hu_
 obtain ⟨X0,K3⟩:=j0.agr K1
 refine bk h fun F2 x2 h=>AX 4 31 d0 rfl .plain (bd 68) rfl (e1 rfl) (fun w9 hw9=>ai_c n (X0.hL hL hw9) a1 x2) rfl fun X4 k4 M1 ⟨Z3,b4,hu_,Y1,Z1⟩=>?_
 subst hu_
 obtain ⟨Y0,c1⟩:=X0.agr M1
 refine bk h fun p0 y2 h=>AX 5 63 d0 rfl .plain (bd 90) rfl (e2 rfl rfl) (fun w9 hw9=>aZ_c n (Y0.hL hL hw9) E2 (Af (Ah W1 c1) hw9) (Af (Ah X1 c1) hw9) F2 (Af Y1 hw9) (Af Z1 hw9) y2) rfl fun Y4 p4 P1 ⟨H0,I0,hu_,q1,s1⟩=>?_
 subst hu_
 obtain ⟨G1,M3⟩:=Y0.agr P1
 refine Bw 6 127 d0 rfl rfl .plain (AG (news:=[.bool p0.fh.fc,H0,.bool p0.fe.fc,I0]) G1 .t1 rfl rfl rfl rfl rfl rfl (o4 rfl (AE q1) rfl (AE s1))) fun Z4 s0 d1=>Rv 7 d0 rfl u0 (fun _=>Bg rfl)<|AK (dk d0)<|Ax rfl<|Ap (u:=.tuple #[.agg #[.bool p0.fh.fc,H0,.bool p0.fe.fc,I0],vI 0]) j1 func123 rfl (.cons (.many (cs:=[.bool p0.fh.fc,H0,.bool p0.fe.fc,I0]) rfl rfl (s0.memA .t1)) (.cons (.tmp rfl) .nil)) rfl<|Ab (Ag rfl rfl)<|Ab (Ag rfl rfl)<|bk h fun v0 b2 h=>Bi (.tuple #[.agg ((aa v0.1)).toArray,vI v0.2]) (bd 122) rfl (e2 rfl rfl) (fun w9 hw9=>bN_c n (s0.hL0 hL hw9) p0 (s0.kd (Ah q1 d1) hw9) (s0.kd (Ah s1 d1) hw9) b2) rfl<|Ab (Ag rfl rfl)<|Ab (Ag rfl rfl)<|AO (aa v0.1) s0 .t5 (ai rfl) fun q4 J0 c3=>Ai rfl<|Aa<|Ax rfl<|Ap hb0 func57 rfl (.cons (.many (cs:=(aa v0.1)) rfl rfl (J0.memA .t5)) (.cons (.tmp rfl) .nil)) rfl ?_
 cases h
 exact J0.gv
 refine Ae<|RG.nl [.bool false,vN,.bool false,vN] j0 fun s4 G2 K0 d3=>Aa<|Ae<|Ab (Au rfl (K0.memA .hd))<|AO [.bool false,vN,.bool false,vN] K0 .t2 (ai rfl) fun u4 A0 g3=>Ai rfl<|Aa<|Ax rfl<|Ap (u:=.tuple #[.agg #[.bool false,vN,.bool false,vN],vI 20]) j1 func123 rfl (.cons (.many (cs:=[.bool false,vN,.bool false,vN]) rfl rfl (A0.memA .t2)) (.cons (.tmp rfl) .nil)) rfl<|Ab (Ag rfl rfl)<|Ab (Ag rfl rfl)<|bk h fun x0 c2 h=>Bi (.tuple #[.agg ((aa x0.1)).toArray,vI x0.2]) (bd 122) rfl (e2 rfl rfl) (fun w9 hw9=>bN_c n (A0.hL0 hL hw9) (⟨(⟨false,([]:List UInt64)⟩:Td),(⟨false,([]:List UInt64)⟩:Td)⟩:Tc) (Af (Rep.nilSlice _ _) hw9) (Af (Rep.nilSlice _ _) hw9) c2) rfl<|Ab (Ag rfl rfl)<|Ab (Ag rfl rfl)<|AO (aa x0.1) A0 .t6 (ai rfl) fun v4 M0 j3=>Ai rfl<|Aa<|Ax rfl<|Ap hb0 func57 rfl (.cons (.many (cs:=(aa x0.1)) rfl rfl (M0.memA .t6)) (.cons (.tmp rfl) .nil)) rfl ?_
 cases h
 exact M0.gv
 refine Al<|Al<|Al<|Al<|Br rfl rfl<|Aa<|BH rfl<|Aw<|Ae<|Ab (Au rfl (b0.memA .t3))<|Ab (Au rfl (b0.memA .t2))<|Bu (fst:=[]) (cap:=[]) (vs:=[.agg ((aa a0)).toArray,.agg ((aa a1)).toArray,.func (.func 90) #[] #[]]) .plain (bd 123) func123 rfl rfl rfl rfl (e3 rfl rfl rfl) rfl fun Z2 g1 P3=>Ae<|RG.bx b0 rfl rfl fun x4 H2 A1 k3=>RG.bx A1 rfl rfl fun y4 I2 B1 p3=>RG.nl [.bool false,vN,.bool false,vN] B1 fun z4 J2 B0 s3=>Ai rfl<|Aa<|Aj<|Ae<|Ab (Au rfl (B0.memA .t2))<|Ab (Au rfl (B0.memA .t1))<|Ak .plain rfl (AB (α:=Ta) (xs:=([a0,a1]:List Ta)) (vs:=[.agg ((aa a0)).toArray,.agg ((aa a1)).toArray]) (ds' :=(aa a0 ++ aa a1)) rfl B0 az rfl (e2 rfl rfl) (by kernel_rfl) rfl) fun A4 M2 g0 u3=>bk h fun z2 d2 h=>Bi (.bool z2) (bd 126) rfl (e1 rfl) (fun w9 hw9=>aW_c n (g0.hL0 hL hw9) (Af (St.lend (α:=Ta) (L:=L) g0 .hd (Az (cs:=(aa a0 ++ aa a1)) (xs:=(([a0,a1]:List Ta):List Ta)) g0 L (Ao (cs:=(aa a0)) (ds:=(aa a1)) (am a0.fN a0.fD) (Ao (cs:=(aa a1)) (ds:=[]) (am a1.fN a1.fD) (AA _ _)))) hL) hw9) d2) rfl<|Ab (FV.not rfl)<|Aa<|MX.ifnb rfl h (fun u1 h=>?_) (fun u1 h=>?_)
 refine Aw<|Aj<|du 6 fun c0 t0=>Rv 0 c0 rfl t0 (fun _=>Av rfl)<|Rx 1 244 c0 rfl t0 (Au rfl (g0.memA .t3))<|Rx 3 240 c0 rfl t0 (Au rfl (g0.memA .t2))<|bk h fun A2 g2 h=>AX 2 15 c0 rfl .plain (bd 68) rfl (e1 rfl) (fun w9 hw9=>ai_c n (g0.hL hL hw9) a0 g2) rfl fun B4 c4 H1 ⟨R3,U3,hu_,Q1,R1⟩=>?_
 subst hu_
 obtain ⟨P0,v3⟩:=g0.agr H1
 refine bk h fun B2 j2 h=>AX 4 31 c0 rfl .plain (bd 68) rfl (e1 rfl) (fun w9 hw9=>ai_c n (P0.hL hL hw9) a1 j2) rfl fun C4 d4 I1 ⟨V3,W3,hu_,U1,V1⟩=>?_
 subst hu_
 obtain ⟨Q0,Z0⟩:=P0.agr I1
 refine bk h fun k0 k2 h=>AX 5 63 c0 rfl .plain (bd 90) rfl (e2 rfl rfl) (fun w9 hw9=>aZ_c n (Q0.hL hL hw9) A2 (Af (Ah Q1 Z0) hw9) (Af (Ah R1 Z0) hw9) B2 (Af U1 hw9) (Af V1 hw9) k2) rfl fun E4 g4 J1 ⟨F0,G0,hu_,k1,p1⟩=>?_
 subst hu_
 obtain ⟨D1,x3⟩:=Q0.agr J1
 refine Bw 6 127 c0 rfl rfl .plain (AG (news:=[.bool k0.fh.fc,F0,.bool k0.fe.fc,G0]) D1 .t1 rfl rfl rfl rfl rfl rfl (o4 rfl (AE k1) rfl (AE p1))) fun F4 q0 b1=>Rv 7 c0 rfl t0 (fun _=>Bg rfl)<|AK (dk c0)<|Ax rfl<|Ap (u:=.tuple #[.agg #[.bool k0.fh.fc,F0,.bool k0.fe.fc,G0],vI 0]) g1 func123 rfl (.cons (.many (cs:=[.bool k0.fh.fc,F0,.bool k0.fe.fc,G0]) rfl rfl (q0.memA .t1)) (.cons (.tmp rfl) .nil)) rfl<|Ab (Ag rfl rfl)<|Ab (Ag rfl rfl)<|bk h fun y0 p2 h=>Bi (.tuple #[.agg ((aa y0.1)).toArray,vI y0.2]) (bd 122) rfl (e2 rfl rfl) (fun w9 hw9=>bN_c n (q0.hL0 hL hw9) k0 (q0.kd (Ah k1 b1) hw9) (q0.kd (Ah p1 b1) hw9) p2) rfl<|Ab (Ag rfl rfl)<|Ab (Ag rfl rfl)<|AO (aa y0.1) q0 .t5 (ai rfl) fun G4 R0 z3=>Ai rfl<|Aa<|Ax rfl<|Ap hb0 func57 rfl (.cons (.many (cs:=(aa y0.1)) rfl rfl (R0.memA .t5)) (.cons (.tmp rfl) .nil)) rfl ?_
 cases h
 exact R0.gv
 refine Ae<|RG.nl [.bool false,vN,.bool false,vN] g0 fun H4 Q2 U0 A3=>Aa<|Ae<|Ab (Au rfl (U0.memA .hd))<|AO [.bool false,vN,.bool false,vN] U0 .t2 (ai rfl) fun I4 C0 B3=>Ai rfl<|Aa<|Ax rfl<|Ap (u:=.tuple #[.agg #[.bool false,vN,.bool false,vN],vI 20]) g1 func123 rfl (.cons (.many (cs:=[.bool false,vN,.bool false,vN]) rfl rfl (C0.memA .t2)) (.cons (.tmp rfl) .nil)) rfl<|Ab (Ag rfl rfl)<|Ab (Ag rfl rfl)<|bk h fun z0 q2 h=>Bi (.tuple #[.agg ((aa z0.1)).toArray,vI z0.2]) (bd 122) rfl (e2 rfl rfl) (fun w9 hw9=>bN_c n (C0.hL0 hL hw9) (⟨(⟨false,([]:List UInt64)⟩:Td),(⟨false,([]:List UInt64)⟩:Td)⟩:Tc) (Af (Rep.nilSlice _ _) hw9) (Af (Rep.nilSlice _ _) hw9) q2) rfl<|Ab (Ag rfl rfl)<|Ab (Ag rfl rfl)<|AO (aa z0.1) C0 .t6 (ai rfl) fun J4 V0 C3=>Ai rfl<|Aa<|Ax rfl<|Ap hb0 func57 rfl (.cons (.many (cs:=(aa z0.1)) rfl rfl (V0.memA .t6)) (.cons (.tmp rfl) .nil)) rfl ?_
 cases h
 exact V0.gv

structure Ti where
  fL:List Tf
  deriving DecidableEq
instance:Rep Ti:=Rep.via (β:=(List Tf)) fun x=>x.fL
theorem op_Tj {w:World} {L:List Nat} {cs:List Value} {x:Tj} (h:Rep.R w L cs x):∃ v1:Value,cs = [.bool x.fc,v1,.int .u32 (x.fo.toNat:Int)]/\Rep.R w L [v1] x.fBits:=by
  obtain ⟨c0,r0,rfl,h0,h⟩:=h
  have e0:c0 = [.bool x.fc]:=h0; subst e0
  obtain ⟨c1,r1,rfl,h1,h⟩:=h
  obtain ⟨v1,rfl,kv1⟩:=dQ (xs:=x.fBits) h1
  have e2:r1 = [.int .u32 (x.fo.toNat:Int)]:=h; subst e2
  exact ⟨v1,rfl,kv1⟩
theorem op_Tf {w:World} {L:List Nat} {cs:List Value} {x:Tf} (h:Rep.R w L cs x):∃ v1 v4:Value,cs = [.bool x.fN.fc,v1,.int .u32 (x.fN.fo.toNat:Int),.bool x.fD.fc,v4,.int .u32 (x.fD.fo.toNat:Int)]/\Rep.R w L [v1] x.fN.fBits/\Rep.R w L [v4] x.fD.fBits:=by
  obtain ⟨c0,r0,rfl,h0,h⟩:=h
  obtain ⟨v1,rfl,kv1⟩:=op_Tj (x:=x.fN) h0
  obtain ⟨v4,rfl,kv4⟩:=op_Tj (x:=x.fD) h
  exact ⟨v1,v4,rfl,kv1,kv4⟩
def aj_l1 (n:Nat) (c0:List Ta) (g0:Nat × (List Ta) -> Option (List Ta)):Nat × (List Ta) -> Option (List Ta)
  | (b0,d0)=>(if b0 < c0.length then (ah_p n (1:Int) ((c0.length:Nat):Int)).bind fun k0=>(app d0 ([k0]:List Ta)).bind fun j0=>g0 (b0 + 1,j0) else some d0)
def aj_l2 (n:Nat) (g0:List Tf) (s0:Nat × (List (List Tb)) × (List Ta) × (List Ta) × (List Ta) -> Option (Bool ⊕ ((List Ta) × (List Ta) × (List Ta) × (List (List Tb))))):Nat × (List (List Tb)) × (List Ta) × (List Ta) × (List Ta) -> Option (Bool ⊕ ((List Ta) × (List Ta) × (List Ta) × (List (List Tb))))
  | (c0,j0,k0,p0,q0)=>(if c0 < g0.length then (g0[c0]?).bind fun t0=>(aX_p n t0).bind fun b0=>(app q0 ([b0]:List Ta)).bind fun u0=>(app ([b0]:List Ta) p0).bind fun v0=>(app k0 ([b0,b0]:List Ta)).bind fun x0=>(cp_p n b0).bind fun d0=>(if d0.2 = 0 then (az_p n d0.1).bind fun z0=>(if z0 = 0 then (app j0 ([d0.1]:List (List Tb))).bind fun y0=>s0 (c0 + 1,y0,x0,v0,u0) else some (.inl false)) else some (.inl false)) else some (.inr (q0,p0,k0,j0)))
def aj_p (n:Nat) (a0:Ti):Option Bool:=
  (bK_p n).bind fun z0=>(if z0 = true then (cut a0.fL 0 ((min a0.fL.length 8:Nat):Int)).bind fun t0=>thn (au (aj_l2 n t0) n (0,([]:List (List Tb)),([]:List Ta),([]:List Ta),([]:List Ta))) (fun (b0,x0,v0,u0)=>(if b0.length = 0 then (aF_p n b0).bind fun d0=>(bt_p n d0.1 d0.2 (4:Int)).bind fun A0=>some A0 else Option.bind (au (aj_l1 n b0) n (0,([]:List Ta))) (fun y0=>(aF_p n b0).bind fun c0=>(bs_p n c0.1).bind fun g0=>(bW_p n b0).bind fun j0=>(ah_p n ((b0.length:Nat):Int) (1:Int)).bind fun B0=>(cA_p n j0.1 B0).bind fun k0=>(if c0.2 = 0 then (if g0.2 = 0 then (if j0.2 = 0 then (if k0.2 = 0 then (if g0.1 = k0.1 then (az_p n c0.1).bind fun C0=>(if C0 = 0 then (aF_p n x0).bind fun p0=>(am_p n p0.1 p0.2 c0.1).bind fun D0=>(if D0 = true then (aF_p n v0).bind fun q0=>(am_p n q0.1 q0.2 c0.1).bind fun E0=>(if E0 = true then (ax_p n u0 y0).bind fun s0=>(am_p n s0.1 s0.2 c0.1).bind fun F0=>some F0 else some false) else some false) else some false) else some false) else some false) else some false) else some false) else some false)))) else some false)
theorem aj_c (n:Nat) {L w} (hL:hl L w) (a0:Ti) {v0_0:Value} (h0_0:Rep.R w L [v0_0] a0.fL)  {r:Bool} (h:aj_p n a0 = some r) :
 Cl 10 #[.agg #[v0_0]] w (ak w fun _ u=>u = .bool r):=by
 unfold aj_p at h
 refine AN func10 rfl rfl rfl fun _ cs0 hb0=>Ae<|RG.bx (AM w) rfl rfl fun w11 b14 j5 j0b=>Ai rfl<|Aa<|Aj<|Ae<|bk h fun y15 F09 h=>Bi (.bool y15) (bd 12) rfl ar (fun p q=>bK_c n (j5.hL0 hL q)  F09) rfl<|Ab (FV.not rfl)<|Aa<|MX.ifnb rfl h (fun c16 h=>?_) (fun c16 h=>?_)
 refine Aw<|Ae<|Ai rfl<|Ai rfl<|Ai rfl<|Aa<|Ae<|Ai rfl<|Aa<|Aj<|Ae<|Bn 0 rfl<|Bo rfl ((j5.memA .hd) 0 _ rfl)<|Bn 0 rfl<|Bo rfl ((j5.memA .hd) 0 _ rfl) ?_
 have D01:=AL h0_0 j5
 have v0b:a0.fL.length <= 281474976710656:=AT D01
 refine Ab (AY (xs:=a0.fL) underlying64 rfl D01)<|Ab (FV.min2N (i:=a0.fL.length) (j:=8) rfl rfl)<|bk h fun G0 B09 h=>RG.valE .plain rfl (FV.cutL (α:=Tf) B09 rfl rfl D01 rfl ⟨_,rfl⟩) fun I0 H01=>?_
 have x0b:G0.length <= 281474976710656:=AT H01
 refine Ab (AY (xs:=G0) underlying64 rfl H01)<|Ac rfl<|Aa<|AC ?_
 have I8:=j5.nilRow 34 (Rep.size Ta)
 have J8:=I8.nilRow 34 (Rep.size Ta)
 have Q02:=St.nilRowT I8 34 (Rep.size Ta)
 have K8:=J8.nilRow 34 (Rep.size Ta)
 have R02:=St.nilRowT J8 34 (Rep.size Ta)
 have H02:=K8.nilRow 24 (Rep.size (List Tb))
 have B9:=St.nilRowT K8 24 (Rep.size (List Tb))
 obtain ⟨j07,v7⟩:=AD H02 (.a0 (.a0 (.a0 (.a0 .done))))
 have R04:=Tt R02 (Tt B9 v7)
 refine tn h fun z0b d09 C01=>MX.lf (α:=Nat × (List (List Tb)) × (List Ta) × (List Ta) × (List Ta) × Value × (List Value) × Value × (List Value) × Value × (List Value) × Value × (List Value)) (fun ⟨C0,t0,u0,s0,z0,p0,v0,g0,x0,j0,y0,k0,A0⟩=>[(3,k0),(4,j0),(5,g0),(6,p0),(29,I0),(30,vI ((G0.length:Nat):Int)),(31,vI ((C0:Nat):Int))]) (fun ⟨C0,t0,u0,s0,z0,p0,v0,g0,x0,j0,y0,k0,A0⟩=>[rr w 24 (List Tb) p0 t0.length v0,rr w 34 Ta g0 u0.length x0,rr w 34 Ta j0 s0.length y0,rr w 34 Ta k0 z0.length A0]) (fun ⟨C0,t0,u0,s0,z0,p0,v0,g0,x0,j0,y0,k0,A0⟩ M5=>Cells M5 (bl [rr w 24 (List Tb) p0 t0.length v0,rr w 34 Ta g0 u0.length x0,rr w 34 Ta j0 s0.length y0,rr w 34 Ta k0 z0.length A0] ++ L) v0 t0/\Cells M5 (bl [rr w 24 (List Tb) p0 t0.length v0,rr w 34 Ta g0 u0.length x0,rr w 34 Ta j0 s0.length y0,rr w 34 Ta k0 z0.length A0] ++ L) x0 u0/\Cells M5 (bl [rr w 24 (List Tb) p0 t0.length v0,rr w 34 Ta g0 u0.length x0,rr w 34 Ta j0 s0.length y0,rr w 34 Ta k0 z0.length A0] ++ L) y0 s0/\Cells M5 (bl [rr w 24 (List Tb) p0 t0.length v0,rr w 34 Ta g0 u0.length x0,rr w 34 Ta j0 s0.length y0,rr w 34 Ta k0 z0.length A0] ++ L) A0 z0) (fun ⟨C0,t0,u0,s0,z0,p0,v0,g0,x0,j0,y0,k0,A0⟩=>(C0,t0,u0,s0,z0)) (0,([]:List (List Tb)),([]:List Ta),([]:List Ta),([]:List Ta),vN,[],vN,[],vN,[],vN,[]) d09 j07 ⟨(Ar (Az (cs:=[]) (xs:=([]:List (List Tb))) H02 L (AA _ _)) v7),(Ar (Az (cs:=[]) (xs:=([]:List Ta)) K8 L (AA _ _)) (Tt B9 v7)),(Ar (Az (cs:=[]) (xs:=([]:List Ta)) J8 L (AA _ _)) R04),(Ar (Az (cs:=[]) (xs:=([]:List Ta)) I8 L (AA _ _)) (Tt Q02 R04))⟩ ?_
 rintro K0a ⟨C0,t0,u0,s0,z0,p0,v0,g0,x0,j0,y0,k0,A0⟩ M5 R06 E2 U02 ⟨K03,M03,H1,B1⟩ h
 unfold aj_l2 at h
 try dsimp only at h
 refine Ae<|Ab (Bb (i:=C0) (j:=G0.length) rfl rfl)<|Aa<|Aj<|AS rfl h (fun y06 h=>?_) (fun y06 h=>?_)
 refine Aw<|Aj<|AC<|Ae<|bk h fun B6 A09 h=>?_
 obtain ⟨F0a,Y0a,R08,Y08,g0b,k09,Z08⟩:=Bl (Ah H01 (Tt (St.nilRowT j5 34 (Rep.size Ta)) (Tt Q02 (Tt R02 (Tt B9 (Tt v7 U02)))))) A09
 obtain ⟨g0a,j0a,rfl,t05,u05⟩:=op_Tf k09
 refine Ab (Bx 6 C0 rfl R08 rfl rfl Y08)<|Ab (Au rfl Z08)<|RG.nl [.bool false,vN,.int .u32 0,.bool false,vN,.int .u32 0] E2 fun V0b Q0a k07 b1=>AO [.bool B6.fN.fc,g0a,.int .u32 (B6.fN.fo.toNat:Int),.bool B6.fD.fc,j0a,.int .u32 (B6.fD.fo.toNat:Int)] k07 .hd (o6 rfl (AE (Ah t05 b1)) rfl rfl (AE (Ah u05 b1)) rfl) fun W0b U5 p1=>Aa<|Ae<|Ab (Au rfl (U5.memA .hd))<|bk h fun b0 G09 h=>Bi (.agg ((aa b0)).toArray) (bd 42) rfl (e1 rfl) (fun p q=>aX_c n (U5.hL0 hL q) B6 (U5.kd (Ah t05 (Tt b1 p1)) q) (U5.kd (Ah u05 (Tt b1 p1)) q) G09) rfl<|RG.nl zL U5 fun X0b q0 p07 s1=>AO (aa b0) p07 .hd (ai rfl) fun Y0b D0 u1=>Aa<|Aj<|du 3 fun c0 j4=>Rv 0 c0 rfl j4 (fun _=>Av rfl)<|Rv 6 c0 rfl j4 (fun _=>Av rfl)<|Rv 8 c0 rfl j4 (fun _=>Av rfl)<|bk h fun K0 D1 h=>bk h fun X1 K1 h=>RD.mf (α:=Value × (List Value) × Value × (List Value) × Value × (List Value)) (fun ⟨W4,Z3,k3,C2,p3,D2⟩=>[(3,k0),(4,j0),(5,g0),(6,p0),(29,I0),(30,vI ((G0.length:Nat):Int)),(31,vI ((C0:Nat):Int)),(9,vP q0),(45,g0),(48,W4),(40,p3),(44,k3)]) (fun ⟨W4,Z3,k3,C2,p3,D2⟩=>[rr w 34 Ta W4 (([b0,b0]:List Ta).length) Z3,rr w 34 Ta k3 X1.length C2,.cells q0 (aa b0) 34,rr w 24 (List Tb) p0 t0.length v0,rr w 34 Ta g0 u0.length x0,rr w 34 Ta j0 s0.length y0,rr w 34 Ta p3 K0.length D2]) (fun ⟨W4,Z3,k3,C2,p3,D2⟩ Z7=>Cells Z7 (bl [rr w 34 Ta W4 (([b0,b0]:List Ta).length) Z3,rr w 34 Ta k3 X1.length C2,.cells q0 (aa b0) 34,rr w 24 (List Tb) p0 t0.length v0,rr w 34 Ta g0 u0.length x0,rr w 34 Ta j0 s0.length y0,rr w 34 Ta p3 K0.length D2] ++ L) Z3 (([b0,b0]:List Ta):List Ta)/\Cells Z7 (bl [rr w 34 Ta W4 (([b0,b0]:List Ta).length) Z3,rr w 34 Ta k3 X1.length C2,.cells q0 (aa b0) 34,rr w 24 (List Tb) p0 t0.length v0,rr w 34 Ta g0 u0.length x0,rr w 34 Ta j0 s0.length y0,rr w 34 Ta p3 K0.length D2] ++ L) C2 (X1:List Ta)/\Cells Z7 (bl [rr w 34 Ta W4 (([b0,b0]:List Ta).length) Z3,rr w 34 Ta k3 X1.length C2,.cells q0 (aa b0) 34,rr w 24 (List Tb) p0 t0.length v0,rr w 34 Ta g0 u0.length x0,rr w 34 Ta j0 s0.length y0,rr w 34 Ta p3 K0.length D2] ++ L) D2 (K0:List Ta)) D0 4 4095 ?_ ?_
 rintro ⟨W4,Z3,k3,C2,p3,D2⟩ Z7 M02 p03 ⟨I08,J08,K08⟩
 try dsimp only
 refine bk h fun x0a C09 h=>?_
 have U04:=Tt b1 (Tt p1 (Tt s1 (Tt u1 p03)))
 refine BF (i:=12) (rk c0) (Bs (m' :=8191) (sk c0) rfl rfl .plain rfl (AR (α:=Ta) (ys:=([b0,b0]:List Ta)) C09 M02 (fun _ _=>.t4) az rfl rfl (Ar M03 U04) (Bd (α:=Ta) M02 .hd I08)) (fun k0a Z0b ⟨M06,d9,M7,M08⟩=>?_))
 refine Rv 13 c0 rfl j4 (fun _=>Bg rfl)<|Rv 14 c0 rfl j4 (fun _=>Bg rfl)<|Rv 15 c0 rfl j4 (fun _=>Bg rfl)<|AK (dk c0)<|Ae<|Ab (Au rfl (d9.memA .t2))<|bk h fun b8 H09 h=>jE (bd 14) rfl (e1 rfl) (fun p q=>cp_c n (d9.hL hL q) b0 H09) rfl fun b0c F0b C08 ⟨Y7,hu_,I01⟩=>?_
 subst hu_
 obtain ⟨q6,q03⟩:=d9.agr C08
 refine Ac rfl<|Ab (Ag rfl rfl)<|Ab (Ag rfl rfl)<|Ai rfl<|Ai rfl<|Aa<|Aj<|Ae<|Ac rfl<|Ab (BM (i:=b8.2) (j:=0) rfl rfl)<|Ac rfl<|RG.ifn (s:=57) rfl h (fun z06 h=>?_) (fun z06 h=>?_)
 refine AV (Av rfl)<|bk h fun t06 I09 h=>BK (v:=vI t06) (fst:=[]) (cap:=[]) (.yes rfl rfl) (bd 16) rfl (e1 rfl) (fun p q=>az_c n (q6.hL0 hL q) (q6.kd I01 q) I09) rfl<|AV (BM (i:=t06) (j:=0) rfl rfl)<|Br rfl rfl<|Aa<|MX.ifn rfl h (fun A06 h=>?_) (fun A06 h=>?_)
 refine Aw<|Aq<|Ac rfl<|Ac rfl ?_
 obtain ⟨G0a,Z0a,z09,_⟩:=Rep.sl I01
 refine Ak .plain rfl (AB (α:=List Tb) (xs:=([b8.1]:List (List Tb))) (vs:=[Y7]) (ds' :=[Y7]) rfl q6 iY rfl (e1 rfl) (by rw [z09]; try kernel_rfl) rfl) fun c0c R0a g9 s00=>bk h fun y0a D09 h=>BD .plain rfl (AR (α:=List Tb) (ys:=([b8.1]:List (List Tb))) D09 g9 (fun _ _=>.t4) iY rfl rfl (Ar K03 (Tt U04 (Tt M7 (Tt q03 s00)))) (Bd (α:=List Tb) g9 .hd (Az (cs:=[Y7]) (xs:=(([b8.1]:List (List Tb)):List (List Tb))) g9 L (Ao (cs:=[Y7]) (ds:=[]) (Ah I01 s00) (AA _ _))))) fun p0a d0c ⟨P06,q07,u08,P08⟩=>Ai rfl<|Aa<|AF<|Aq<|Ab (Bf (i:=C0) (j:=1) rfl rfl (by omega))<|Ac rfl<|Aa ?_
 obtain ⟨s07,s03⟩:=AD q07 (.a4 (.a4 (.a2 .d4)))
 have X7:=Tt q03 (Tt s00 (Tt u08 s03))
 exact R06 (C0 + 1,y0a,x0a,X1,K0,p0a,P06,k0a,M06,k3,C2,p3,D2) s07 (Tt U02 (Tt b1 (Tt p1 (Tt s1 (Tt u1 (Tt p03 (Tt M7 X7))))))) ⟨(Ar P08 s03),(Ar M08 X7),(Ar J08 (Tt M7 X7)),(Ar K08 (Tt M7 X7))⟩ h
 refine Ae<|Ai rfl<|Aa ?_
 have h:=bO h C01
 refine Ax rfl<|Bq hb0 func10 rfl rfl ?_
 cases h
 exact q6.gv
 refine Al<|Al<|Al<|RG.pt rfl rfl<|Aa<|Ba rfl<|Ae<|Ai rfl<|Aa ?_
 have h:=bO h C01
 refine Ax rfl<|Bq hb0 func10 rfl rfl ?_
 cases h
 exact q6.gv
 intro G1
 refine RD.mf (α:=Value × (List Value) × Value × (List Value)) (fun ⟨z5,d5,j3,B2⟩=>[(3,k0),(4,j0),(5,g0),(6,p0),(29,I0),(30,vI ((G0.length:Nat):Int)),(31,vI ((C0:Nat):Int)),(9,vP q0),(43,j0),(45,g0),(40,j3),(42,z5),(46,.agg ((aa b0)).toArray),(47,.agg ((aa b0)).toArray)]) (fun ⟨z5,d5,j3,B2⟩=>[rr w 34 Ta z5 (([b0]:List Ta).length) d5,.cells q0 (aa b0) 34,rr w 24 (List Tb) p0 t0.length v0,rr w 34 Ta g0 u0.length x0,rr w 34 Ta j0 s0.length y0,rr w 34 Ta j3 K0.length B2]) (fun ⟨z5,d5,j3,B2⟩ c02=>Cells c02 (bl [rr w 34 Ta z5 (([b0]:List Ta).length) d5,.cells q0 (aa b0) 34,rr w 24 (List Tb) p0 t0.length v0,rr w 34 Ta g0 u0.length x0,rr w 34 Ta j0 s0.length y0,rr w 34 Ta j3 K0.length B2] ++ L) d5 (([b0]:List Ta):List Ta)/\Cells c02 (bl [rr w 34 Ta z5 (([b0]:List Ta).length) d5,.cells q0 (aa b0) 34,rr w 24 (List Tb) p0 t0.length v0,rr w 34 Ta g0 u0.length x0,rr w 34 Ta j0 s0.length y0,rr w 34 Ta j3 K0.length B2] ++ L) B2 (K0:List Ta)) D0 6 1919 ?_ ?_
 rintro ⟨z5,d5,j3,B2⟩ c02 c9 K7 ⟨I04,J04⟩
 try dsimp only
 refine AW [7,11] (rk c0) ⟨?_,?_,trivial⟩
 have J1:=Tt b1 (Tt p1 (Tt s1 (Tt u1 K7)))
 have z1:=Ar H1 J1
 refine Bs (m' :=2047) (sk c0) rfl rfl .plain rfl (AR (α:=Ta) (ys:=s0) K1 c9 (fun _ _=>.hd) az rfl rfl I04 (Bd (α:=Ta) c9 .t4 z1)) fun A1 Q1 ⟨x1,v1,c1,y1⟩=>RD.nu 11 4095 c0 rfl .plain rfl (AB (α:=Ta) (xs:=([b0,b0]:List Ta)) (vs:=[.agg ((aa b0)).toArray,.agg ((aa b0)).toArray]) (ds' :=(aa b0 ++ aa b0)) rfl v1 az rfl (e2 rfl rfl) (by kernel_rfl) rfl) fun I1 Z0 J0 F0=>?_
 have q1:=Az (cs:=(aa b0 ++ aa b0)) (xs:=(([b0,b0]:List Ta):List Ta)) J0 L (Ao (cs:=(aa b0)) (ds:=(aa b0)) (am b0.fN b0.fD) (Ao (cs:=(aa b0)) (ds:=[]) (am b0.fN b0.fD) (AA _ _)))
 exact G1 ((vS Z0 2),(aa b0 ++ aa b0),A1,x1,j3,B2) J0 (Tt K7 (Tt c1 F0)) ⟨q1,(Ar y1 F0),(Ar J04 (Tt c1 F0))⟩
 refine Bv (m' :=3967) (sk c0) rfl .plain rfl (AB (α:=Ta) (xs:=([b0,b0]:List Ta)) (vs:=[.agg ((aa b0)).toArray,.agg ((aa b0)).toArray]) (ds' :=(aa b0 ++ aa b0)) rfl c9 az rfl (e2 rfl rfl) (by kernel_rfl) rfl) fun I1 Z0 J0 F0=>?_
 have q1:=Az (cs:=(aa b0 ++ aa b0)) (xs:=(([b0,b0]:List Ta):List Ta)) J0 L (Ao (cs:=(aa b0)) (ds:=(aa b0)) (am b0.fN b0.fD) (Ao (cs:=(aa b0)) (ds:=[]) (am b0.fN b0.fD) (AA _ _)))
 have J1:=Tt b1 (Tt p1 (Tt s1 (Tt u1 (Tt K7 F0))))
 have z1:=Ar H1 J1
 have E01:=Ar I04 F0
 refine BF (i:=7) (rk c0) (Bs (m' :=4095) (sk c0) rfl rfl .plain rfl (AR (α:=Ta) (ys:=s0) K1 J0 (fun _ _=>.t1) az rfl rfl E01 (Bd (α:=Ta) J0 .t5 z1)) (fun A6 A05 ⟨R5,W5,F2,x6⟩=>?_))
 exact G1 ((vS Z0 2),(aa b0 ++ aa b0),A6,R5,j3,B2) W5 (Tt K7 (Tt F0 F2)) ⟨(Ar q1 F2),x6,(Ar J04 (Tt F0 F2))⟩
 intro H6
 refine RD.mf (α:=Value × (List Value) × Value × (List Value)) (fun ⟨g3,A2,y5,c5⟩=>[(3,k0),(4,j0),(5,g0),(6,p0),(29,I0),(30,vI ((G0.length:Nat):Int)),(31,vI ((C0:Nat):Int)),(9,vP q0),(37,k0),(43,j0),(45,g0),(39,y5),(41,.agg ((aa b0)).toArray),(48,g3)]) (fun ⟨g3,A2,y5,c5⟩=>[rr w 34 Ta g3 (([b0,b0]:List Ta).length) A2,rr w 34 Ta y5 (([b0]:List Ta).length) c5,.cells q0 (aa b0) 34,rr w 24 (List Tb) p0 t0.length v0,rr w 34 Ta g0 u0.length x0,rr w 34 Ta j0 s0.length y0,rr w 34 Ta k0 z0.length A0]) (fun ⟨g3,A2,y5,c5⟩ b02=>Cells b02 (bl [rr w 34 Ta g3 (([b0,b0]:List Ta).length) A2,rr w 34 Ta y5 (([b0]:List Ta).length) c5,.cells q0 (aa b0) 34,rr w 24 (List Tb) p0 t0.length v0,rr w 34 Ta g0 u0.length x0,rr w 34 Ta j0 s0.length y0,rr w 34 Ta k0 z0.length A0] ++ L) A2 (([b0,b0]:List Ta):List Ta)/\Cells b02 (bl [rr w 34 Ta g3 (([b0,b0]:List Ta).length) A2,rr w 34 Ta y5 (([b0]:List Ta).length) c5,.cells q0 (aa b0) 34,rr w 24 (List Tb) p0 t0.length v0,rr w 34 Ta g0 u0.length x0,rr w 34 Ta j0 s0.length y0,rr w 34 Ta k0 z0.length A0] ++ L) c5 (([b0]:List Ta):List Ta)) D0 7 3927 ?_ ?_
 rintro ⟨g3,A2,y5,c5⟩ b02 b9 J7 ⟨G04,H04⟩
 try dsimp only
 refine AW [3,5] (rk c0) ⟨?_,?_,trivial⟩
 have U0:=Tt b1 (Tt p1 (Tt s1 (Tt u1 J7)))
 have j1:=Ar B1 U0
 refine Bs (m' :=3935) (sk c0) rfl rfl .plain rfl (AR (α:=Ta) (ys:=([b0]:List Ta)) D1 b9 (fun _ _=>.t6) az rfl rfl j1 (Bd (α:=Ta) b9 .t1 H04)) fun Y0 F1 ⟨W0,R0,P0,X0⟩=>RD.nu 5 3967 c0 rfl .plain rfl (AB (α:=Ta) (xs:=([b0]:List Ta)) (vs:=[.agg ((aa b0)).toArray]) (ds' :=(aa b0)) rfl R0 az rfl (e1 rfl) (by kernel_rfl) rfl) fun C1 V0 B0 E0=>?_
 have Q0:=Az (cs:=(aa b0)) (xs:=(([b0]:List Ta):List Ta)) B0 L (Ao (cs:=(aa b0)) (ds:=[]) (am b0.fN b0.fD) (AA _ _))
 have J1:=Tt U0 (Tt P0 E0)
 have z1:=Ar H1 J1
 refine BF (i:=7) (rk c0) (Bs (m' :=4095) (sk c0) rfl rfl .plain rfl (AR (α:=Ta) (ys:=s0) K1 B0 (fun _ _=>.hd) az rfl rfl Q0 (Bd (α:=Ta) B0 .t6 z1)) (fun A1 Q1 ⟨x1,v1,c1,y1⟩=>?_))
 obtain ⟨t07,t00⟩:=AD v1 (.a1 (.a0 .d1))
 have V04:=Tt P0 (Tt E0 (Tt c1 t00))
 exact G1 (g3,A2,A1,x1,Y0,W0) t07 (Tt J7 V04) ⟨(Ar G04 V04),(Ar y1 t00),(Ar X0 (Tt E0 (Tt c1 t00)))⟩
 refine Bv (m' :=3959) (sk c0) rfl .plain rfl (AB (α:=Ta) (xs:=([b0]:List Ta)) (vs:=[.agg ((aa b0)).toArray]) (ds' :=(aa b0)) rfl b9 az rfl (e1 rfl) (by kernel_rfl) rfl) fun C1 V0 B0 E0=>?_
 have Q0:=Az (cs:=(aa b0)) (xs:=(([b0]:List Ta):List Ta)) B0 L (Ao (cs:=(aa b0)) (ds:=[]) (am b0.fN b0.fD) (AA _ _))
 have b09:=Ar H04 E0
 have y6:=Tt b1 (Tt p1 (Tt s1 (Tt u1 (Tt J7 E0))))
 have c09:=Ar B1 y6
 refine BF (i:=3) (rk c0) (Bs (m' :=3967) (sk c0) rfl rfl .plain rfl (AR (α:=Ta) (ys:=([b0]:List Ta)) D1 B0 (fun _ _=>.t7) az rfl rfl c09 (Bd (α:=Ta) B0 .t2 b09)) (fun K01 s0a ⟨d8,V5,s5,d01⟩=>?_))
 have G2:=Ar H1 (Tt y6 s5)
 have z1:=Ar Q0 s5
 refine BF (i:=7) (rk c0) (Bs (m' :=4095) (sk c0) rfl rfl .plain rfl (AR (α:=Ta) (ys:=s0) K1 V5 (fun _ _=>.hd) az rfl rfl z1 (Bd (α:=Ta) V5 .t6 G2)) (fun A1 Q1 ⟨x1,v1,c1,y1⟩=>?_))
 obtain ⟨u07,u00⟩:=AD v1 (.a1 (.a0 .d1))
 have W04:=Tt E0 (Tt s5 (Tt c1 u00))
 exact G1 (g3,A2,A1,x1,K01,d8) u07 (Tt J7 W04) ⟨(Ar G04 W04),(Ar y1 u00),(Ar d01 (Tt c1 u00))⟩
 intro g8
 refine RD.mf (α:=Value × (List Value) × Value × (List Value)) (fun ⟨V4,Y3,x5,b5⟩=>[(3,k0),(4,j0),(5,g0),(6,p0),(29,I0),(30,vI ((G0.length:Nat):Int)),(31,vI ((C0:Nat):Int)),(9,vP q0),(37,k0),(43,j0),(45,g0),(39,x5),(42,V4),(46,.agg ((aa b0)).toArray),(47,.agg ((aa b0)).toArray)]) (fun ⟨V4,Y3,x5,b5⟩=>[rr w 34 Ta V4 (([b0]:List Ta).length) Y3,rr w 34 Ta x5 (([b0]:List Ta).length) b5,.cells q0 (aa b0) 34,rr w 24 (List Tb) p0 t0.length v0,rr w 34 Ta g0 u0.length x0,rr w 34 Ta j0 s0.length y0,rr w 34 Ta k0 z0.length A0]) (fun ⟨V4,Y3,x5,b5⟩ Z01=>Cells Z01 (bl [rr w 34 Ta V4 (([b0]:List Ta).length) Y3,rr w 34 Ta x5 (([b0]:List Ta).length) b5,.cells q0 (aa b0) 34,rr w 24 (List Tb) p0 t0.length v0,rr w 34 Ta g0 u0.length x0,rr w 34 Ta j0 s0.length y0,rr w 34 Ta k0 z0.length A0] ++ L) Y3 (([b0]:List Ta):List Ta)/\Cells Z01 (bl [rr w 34 Ta V4 (([b0]:List Ta).length) Y3,rr w 34 Ta x5 (([b0]:List Ta).length) b5,.cells q0 (aa b0) 34,rr w 24 (List Tb) p0 t0.length v0,rr w 34 Ta g0 u0.length x0,rr w 34 Ta j0 s0.length y0,rr w 34 Ta k0 z0.length A0] ++ L) b5 (([b0]:List Ta):List Ta)) D0 7 1911 ?_ ?_
 rintro ⟨V4,Y3,x5,b5⟩ Z01 Z8 I7 ⟨E04,F04⟩
 try dsimp only
 refine AW [3,11] (rk c0) ⟨?_,?_,trivial⟩
 have U0:=Tt b1 (Tt p1 (Tt s1 (Tt u1 I7)))
 have j1:=Ar B1 U0
 refine Bs (m' :=1919) (sk c0) rfl rfl .plain rfl (AR (α:=Ta) (ys:=([b0]:List Ta)) D1 Z8 (fun _ _=>.t6) az rfl rfl j1 (Bd (α:=Ta) Z8 .t1 F04)) fun Y0 F1 ⟨W0,R0,P0,X0⟩=>?_
 obtain ⟨v07,v00⟩:=AD R0 (.a0 .d1)
 exact H6 (V4,Y3,Y0,W0) v07 (Tt I7 (Tt P0 v00)) ⟨(Ar E04 (Tt P0 v00)),(Ar X0 v00)⟩
 refine Bv (m' :=3959) (sk c0) rfl .plain rfl (AB (α:=Ta) (xs:=([b0,b0]:List Ta)) (vs:=[.agg ((aa b0)).toArray,.agg ((aa b0)).toArray]) (ds' :=(aa b0 ++ aa b0)) rfl Z8 az rfl (e2 rfl rfl) (by kernel_rfl) rfl) fun I1 Z0 J0 F0=>?_
 have q1:=Az (cs:=(aa b0 ++ aa b0)) (xs:=(([b0,b0]:List Ta):List Ta)) J0 L (Ao (cs:=(aa b0)) (ds:=(aa b0)) (am b0.fN b0.fD) (Ao (cs:=(aa b0)) (ds:=[]) (am b0.fN b0.fD) (AA _ _)))
 have y6:=Tt b1 (Tt p1 (Tt s1 (Tt u1 (Tt I7 F0))))
 refine BF (i:=3) (rk c0) (Bs (m' :=3967) (sk c0) rfl rfl .plain rfl (AR (α:=Ta) (ys:=([b0]:List Ta)) D1 J0 (fun _ _=>.t7) az rfl rfl (Ar B1 y6) (Bd (α:=Ta) J0 .t2 (Ar F04 F0))) (fun K01 s0a ⟨d8,V5,s5,d01⟩=>?_))
 have G2:=Ar H1 (Tt y6 s5)
 have z1:=Ar E04 (Tt F0 s5)
 refine BF (i:=7) (rk c0) (Bs (m' :=4095) (sk c0) rfl rfl .plain rfl (AR (α:=Ta) (ys:=s0) K1 V5 (fun _ _=>.t1) az rfl rfl z1 (Bd (α:=Ta) V5 .t6 G2)) (fun A1 Q1 ⟨x1,v1,c1,y1⟩=>?_))
 obtain ⟨x07,x00⟩:=AD v1 (.a0 (.a0 .d1))
 have X04:=Tt s5 (Tt c1 x00)
 exact G1 ((vS Z0 2),(aa b0 ++ aa b0),A1,x1,K01,d8) x07 (Tt I7 (Tt F0 X04)) ⟨(Ar q1 X04),(Ar y1 x00),(Ar d01 (Tt c1 x00))⟩
 intro I6
 refine RD.mf (α:=Value × (List Value)) (fun ⟨U4,X3⟩=>[(3,k0),(4,j0),(5,g0),(6,p0),(29,I0),(30,vI ((G0.length:Nat):Int)),(31,vI ((C0:Nat):Int)),(9,vP q0),(43,j0),(45,g0),(40,U4),(41,.agg ((aa b0)).toArray),(46,.agg ((aa b0)).toArray),(47,.agg ((aa b0)).toArray)]) (fun ⟨U4,X3⟩=>[.cells q0 (aa b0) 34,rr w 24 (List Tb) p0 t0.length v0,rr w 34 Ta g0 u0.length x0,rr w 34 Ta j0 s0.length y0,rr w 34 Ta U4 K0.length X3]) (fun ⟨U4,X3⟩ q06=>Cells q06 (bl [.cells q0 (aa b0) 34,rr w 24 (List Tb) p0 t0.length v0,rr w 34 Ta g0 u0.length x0,rr w 34 Ta j0 s0.length y0,rr w 34 Ta U4 K0.length X3] ++ L) X3 (K0:List Ta)) D0 7 1887 ?_ ?_
 rintro ⟨U4,X3⟩ q06 K02 q00 D04
 try dsimp only
 refine AW [5,11] (rk c0) ⟨?_,?_,trivial⟩
 refine Bv (m' :=1919) (sk c0) rfl .plain rfl (AB (α:=Ta) (xs:=([b0]:List Ta)) (vs:=[.agg ((aa b0)).toArray]) (ds' :=(aa b0)) rfl K02 az rfl (e1 rfl) (by kernel_rfl) rfl) fun C1 V0 B0 E0=>?_
 have Q0:=Az (cs:=(aa b0)) (xs:=(([b0]:List Ta):List Ta)) B0 L (Ao (cs:=(aa b0)) (ds:=[]) (am b0.fN b0.fD) (AA _ _))
 exact H6 ((vS V0 1),(aa b0),U4,X3) B0 (Tt q00 E0) ⟨Q0,(Ar D04 E0)⟩
 refine Bv (m' :=3935) (sk c0) rfl .plain rfl (AB (α:=Ta) (xs:=([b0,b0]:List Ta)) (vs:=[.agg ((aa b0)).toArray,.agg ((aa b0)).toArray]) (ds' :=(aa b0 ++ aa b0)) rfl K02 az rfl (e2 rfl rfl) (by kernel_rfl) rfl) fun I1 Z0 J0 F0=>?_
 have q1:=Az (cs:=(aa b0 ++ aa b0)) (xs:=(([b0,b0]:List Ta):List Ta)) J0 L (Ao (cs:=(aa b0)) (ds:=(aa b0)) (am b0.fN b0.fD) (Ao (cs:=(aa b0)) (ds:=[]) (am b0.fN b0.fD) (AA _ _)))
 refine RD.nu 5 3967 c0 rfl .plain rfl (AB (α:=Ta) (xs:=([b0]:List Ta)) (vs:=[.agg ((aa b0)).toArray]) (ds' :=(aa b0)) rfl J0 az rfl (e1 rfl) (by kernel_rfl) rfl) fun C1 V0 B0 E0=>?_
 have Q0:=Az (cs:=(aa b0)) (xs:=(([b0]:List Ta):List Ta)) B0 L (Ao (cs:=(aa b0)) (ds:=[]) (am b0.fN b0.fD) (AA _ _))
 have J1:=Tt b1 (Tt p1 (Tt s1 (Tt u1 (Tt q00 (Tt F0 E0)))))
 have z1:=Ar H1 J1
 refine BF (i:=7) (rk c0) (Bs (m' :=4095) (sk c0) rfl rfl .plain rfl (AR (α:=Ta) (ys:=s0) K1 B0 (fun _ _=>.hd) az rfl rfl Q0 (Bd (α:=Ta) B0 .t5 z1)) (fun A1 Q1 ⟨x1,v1,c1,y1⟩=>?_))
 obtain ⟨y07,t03⟩:=AD v1 (.a1 .d0)
 have F01:=Tt E0 (Tt c1 t03)
 exact G1 ((vS Z0 2),(aa b0 ++ aa b0),A1,x1,U4,X3) y07 (Tt q00 (Tt F0 F01)) ⟨(Ar q1 F01),(Ar y1 t03),(Ar D04 (Tt F0 F01))⟩
 intro J6
 refine RD.mf (α:=Value × (List Value) × Value × (List Value)) (fun ⟨R4,W3,d3,z2⟩=>[(3,k0),(4,j0),(5,g0),(6,p0),(29,I0),(30,vI ((G0.length:Nat):Int)),(31,vI ((C0:Nat):Int)),(9,vP q0),(43,j0),(45,g0),(40,d3),(42,R4),(47,.agg ((aa b0)).toArray)]) (fun ⟨R4,W3,d3,z2⟩=>[rr w 34 Ta R4 (([b0]:List Ta).length) W3,.cells q0 (aa b0) 34,rr w 24 (List Tb) p0 t0.length v0,rr w 34 Ta g0 u0.length x0,rr w 34 Ta j0 s0.length y0,rr w 34 Ta d3 K0.length z2]) (fun ⟨R4,W3,d3,z2⟩ Y01=>Cells Y01 (bl [rr w 34 Ta R4 (([b0]:List Ta).length) W3,.cells q0 (aa b0) 34,rr w 24 (List Tb) p0 t0.length v0,rr w 34 Ta g0 u0.length x0,rr w 34 Ta j0 s0.length y0,rr w 34 Ta d3 K0.length z2] ++ L) W3 (([b0]:List Ta):List Ta)/\Cells Y01 (bl [rr w 34 Ta R4 (([b0]:List Ta).length) W3,.cells q0 (aa b0) 34,rr w 24 (List Tb) p0 t0.length v0,rr w 34 Ta g0 u0.length x0,rr w 34 Ta j0 s0.length y0,rr w 34 Ta d3 K0.length z2] ++ L) z2 (K0:List Ta)) D0 7 1407 ?_ ?_
 rintro ⟨R4,W3,d3,z2⟩ Y01 p7 p00 ⟨B04,C04⟩
 try dsimp only
 refine AW [7,9] (rk c0) ⟨?_,?_,trivial⟩
 have J1:=Tt b1 (Tt p1 (Tt s1 (Tt u1 p00)))
 have z1:=Ar H1 J1
 refine Bs (m' :=1535) (sk c0) rfl rfl .plain rfl (AR (α:=Ta) (ys:=s0) K1 p7 (fun _ _=>.hd) az rfl rfl B04 (Bd (α:=Ta) p7 .t4 z1)) fun A1 Q1 ⟨x1,v1,c1,y1⟩=>BF (i:=9) (rk c0) (AU (m' :=2047) (sk c0) rfl .plain rfl (Au rfl (v1.memA .t1)) ?_)
 refine RD.nu 11 4095 c0 rfl .plain rfl (AB (α:=Ta) (xs:=([b0,b0]:List Ta)) (vs:=[.agg ((aa b0)).toArray,.agg ((aa b0)).toArray]) (ds' :=(aa b0 ++ aa b0)) rfl v1 az rfl (e2 rfl rfl) (by kernel_rfl) rfl) fun I1 Z0 J0 F0=>?_
 have q1:=Az (cs:=(aa b0 ++ aa b0)) (xs:=(([b0,b0]:List Ta):List Ta)) J0 L (Ao (cs:=(aa b0)) (ds:=(aa b0)) (am b0.fN b0.fD) (Ao (cs:=(aa b0)) (ds:=[]) (am b0.fN b0.fD) (AA _ _)))
 exact G1 ((vS Z0 2),(aa b0 ++ aa b0),A1,x1,d3,z2) J0 (Tt p00 (Tt c1 F0)) ⟨q1,(Ar y1 F0),(Ar C04 (Tt c1 F0))⟩
 refine AU (m' :=1919) (sk c0) rfl .plain rfl (Au rfl (p7.memA .t1))<|H6 (R4,W3,d3,z2) p7 p00 ⟨B04,C04⟩
 intro j8
 refine RD.mf (α:=Value × (List Value) × Value × (List Value)) (fun ⟨Q4,V3,c3,y2⟩=>[(3,k0),(4,j0),(5,g0),(6,p0),(29,I0),(30,vI ((G0.length:Nat):Int)),(31,vI ((C0:Nat):Int)),(9,vP q0),(43,j0),(45,g0),(40,c3),(42,Q4),(46,.agg ((aa b0)).toArray)]) (fun ⟨Q4,V3,c3,y2⟩=>[rr w 34 Ta Q4 (([b0]:List Ta).length) V3,.cells q0 (aa b0) 34,rr w 24 (List Tb) p0 t0.length v0,rr w 34 Ta g0 u0.length x0,rr w 34 Ta j0 s0.length y0,rr w 34 Ta c3 K0.length y2]) (fun ⟨Q4,V3,c3,y2⟩ X01=>Cells X01 (bl [rr w 34 Ta Q4 (([b0]:List Ta).length) V3,.cells q0 (aa b0) 34,rr w 24 (List Tb) p0 t0.length v0,rr w 34 Ta g0 u0.length x0,rr w 34 Ta j0 s0.length y0,rr w 34 Ta c3 K0.length y2] ++ L) V3 (([b0]:List Ta):List Ta)/\Cells X01 (bl [rr w 34 Ta Q4 (([b0]:List Ta).length) V3,.cells q0 (aa b0) 34,rr w 24 (List Tb) p0 t0.length v0,rr w 34 Ta g0 u0.length x0,rr w 34 Ta j0 s0.length y0,rr w 34 Ta c3 K0.length y2] ++ L) y2 (K0:List Ta)) D0 7 895 ?_ ?_
 rintro ⟨Q4,V3,c3,y2⟩ X01 k7 k00 ⟨z04,A04⟩
 try dsimp only
 refine AW [7,10] (rk c0) ⟨?_,?_,trivial⟩
 have J1:=Tt b1 (Tt p1 (Tt s1 (Tt u1 k00)))
 have z1:=Ar H1 J1
 refine Bs (m' :=1023) (sk c0) rfl rfl .plain rfl (AR (α:=Ta) (ys:=s0) K1 k7 (fun _ _=>.hd) az rfl rfl z04 (Bd (α:=Ta) k7 .t4 z1)) fun A1 Q1 ⟨x1,v1,c1,y1⟩=>BF (i:=10) (rk c0) (AU (m' :=2047) (sk c0) rfl .plain rfl (Au rfl (v1.memA .t1)) ?_)
 refine RD.nu 11 4095 c0 rfl .plain rfl (AB (α:=Ta) (xs:=([b0,b0]:List Ta)) (vs:=[.agg ((aa b0)).toArray,.agg ((aa b0)).toArray]) (ds' :=(aa b0 ++ aa b0)) rfl v1 az rfl (e2 rfl rfl) (by kernel_rfl) rfl) fun I1 Z0 J0 F0=>?_
 have q1:=Az (cs:=(aa b0 ++ aa b0)) (xs:=(([b0,b0]:List Ta):List Ta)) J0 L (Ao (cs:=(aa b0)) (ds:=(aa b0)) (am b0.fN b0.fD) (Ao (cs:=(aa b0)) (ds:=[]) (am b0.fN b0.fD) (AA _ _)))
 exact G1 ((vS Z0 2),(aa b0 ++ aa b0),A1,x1,c3,y2) J0 (Tt k00 (Tt c1 F0)) ⟨q1,(Ar y1 F0),(Ar A04 (Tt c1 F0))⟩
 refine AU (m' :=1919) (sk c0) rfl .plain rfl (Au rfl (k7.memA .t1))<|H6 (Q4,V3,c3,y2) k7 k00 ⟨z04,A04⟩
 intro k8
 refine RD.mf (α:=Value × (List Value) × Value × (List Value)) (fun ⟨Z2,v2,b3,x2⟩=>[(3,k0),(4,j0),(5,g0),(6,p0),(29,I0),(30,vI ((G0.length:Nat):Int)),(31,vI ((C0:Nat):Int)),(9,vP q0),(45,g0),(40,b3),(44,Z2)]) (fun ⟨Z2,v2,b3,x2⟩=>[rr w 34 Ta Z2 X1.length v2,.cells q0 (aa b0) 34,rr w 24 (List Tb) p0 t0.length v0,rr w 34 Ta g0 u0.length x0,rr w 34 Ta j0 s0.length y0,rr w 34 Ta b3 K0.length x2]) (fun ⟨Z2,v2,b3,x2⟩ W01=>Cells W01 (bl [rr w 34 Ta Z2 X1.length v2,.cells q0 (aa b0) 34,rr w 24 (List Tb) p0 t0.length v0,rr w 34 Ta g0 u0.length x0,rr w 34 Ta j0 s0.length y0,rr w 34 Ta b3 K0.length x2] ++ L) v2 (X1:List Ta)/\Cells W01 (bl [rr w 34 Ta Z2 X1.length v2,.cells q0 (aa b0) 34,rr w 24 (List Tb) p0 t0.length v0,rr w 34 Ta g0 u0.length x0,rr w 34 Ta j0 s0.length y0,rr w 34 Ta b3 K0.length x2] ++ L) x2 (K0:List Ta)) D0 7 511 ?_ ?_
 rintro ⟨Z2,v2,b3,x2⟩ W01 J5 k03 ⟨x04,y04⟩
 try dsimp only
 refine AW [9,10] (rk c0) ⟨?_,?_,trivial⟩
 refine AU (m' :=1023) (sk c0) rfl .plain rfl (Au rfl (J5.memA .t1))<|BF (i:=10) (rk c0) (AU (m' :=2047) (sk c0) rfl .plain rfl (Au rfl (J5.memA .t1)) ?_)
 refine RD.nu 11 4095 c0 rfl .plain rfl (AB (α:=Ta) (xs:=([b0,b0]:List Ta)) (vs:=[.agg ((aa b0)).toArray,.agg ((aa b0)).toArray]) (ds' :=(aa b0 ++ aa b0)) rfl J5 az rfl (e2 rfl rfl) (by kernel_rfl) rfl) fun I1 Z0 J0 F0=>?_
 have q1:=Az (cs:=(aa b0 ++ aa b0)) (xs:=(([b0,b0]:List Ta):List Ta)) J0 L (Ao (cs:=(aa b0)) (ds:=(aa b0)) (am b0.fN b0.fD) (Ao (cs:=(aa b0)) (ds:=[]) (am b0.fN b0.fD) (AA _ _)))
 exact G1 ((vS Z0 2),(aa b0 ++ aa b0),Z2,v2,b3,x2) J0 (Tt k03 F0) ⟨q1,(Ar x04 F0),(Ar y04 F0)⟩
 refine AU (m' :=1535) (sk c0) rfl .plain rfl (Au rfl (J5.memA .t1))<|BF (i:=9) (rk c0) (AU (m' :=2047) (sk c0) rfl .plain rfl (Au rfl (J5.memA .t1)) ?_)
 refine RD.nu 11 4095 c0 rfl .plain rfl (AB (α:=Ta) (xs:=([b0,b0]:List Ta)) (vs:=[.agg ((aa b0)).toArray,.agg ((aa b0)).toArray]) (ds' :=(aa b0 ++ aa b0)) rfl J5 az rfl (e2 rfl rfl) (by kernel_rfl) rfl) fun I1 Z0 J0 F0=>?_
 have q1:=Az (cs:=(aa b0 ++ aa b0)) (xs:=(([b0,b0]:List Ta):List Ta)) J0 L (Ao (cs:=(aa b0)) (ds:=(aa b0)) (am b0.fN b0.fD) (Ao (cs:=(aa b0)) (ds:=[]) (am b0.fN b0.fD) (AA _ _)))
 exact G1 ((vS Z0 2),(aa b0 ++ aa b0),Z2,v2,b3,x2) J0 (Tt k03 F0) ⟨q1,(Ar x04 F0),(Ar y04 F0)⟩
 intro U06
 refine RD.mf (α:=Value × (List Value)) (fun ⟨P4,U3⟩=>[(3,k0),(4,j0),(5,g0),(6,p0),(29,I0),(30,vI ((G0.length:Nat):Int)),(31,vI ((C0:Nat):Int)),(9,vP q0),(37,k0),(43,j0),(45,g0),(38,.agg ((aa b0)).toArray),(41,.agg ((aa b0)).toArray),(48,P4)]) (fun ⟨P4,U3⟩=>[rr w 34 Ta P4 (([b0,b0]:List Ta).length) U3,.cells q0 (aa b0) 34,rr w 24 (List Tb) p0 t0.length v0,rr w 34 Ta g0 u0.length x0,rr w 34 Ta j0 s0.length y0,rr w 34 Ta k0 z0.length A0]) (fun ⟨P4,U3⟩ p06=>Cells p06 (bl [rr w 34 Ta P4 (([b0,b0]:List Ta).length) U3,.cells q0 (aa b0) 34,rr w 24 (List Tb) p0 t0.length v0,rr w 34 Ta g0 u0.length x0,rr w 34 Ta j0 s0.length y0,rr w 34 Ta k0 z0.length A0] ++ L) U3 (([b0,b0]:List Ta):List Ta)) D0 8 3923 ?_ ?_
 rintro ⟨P4,U3⟩ p06 J02 j00 v04
 try dsimp only
 refine AW [2,5] (rk c0) ⟨?_,?_,trivial⟩
 refine Bv (m' :=3927) (sk c0) rfl .plain rfl (AB (α:=Ta) (xs:=([b0]:List Ta)) (vs:=[.agg ((aa b0)).toArray]) (ds' :=(aa b0)) rfl J02 az rfl (e1 rfl) (by kernel_rfl) rfl) fun E1 k1 H0 M0=>?_
 have g1:=Az (cs:=(aa b0)) (xs:=(([b0]:List Ta):List Ta)) H0 L (Ao (cs:=(aa b0)) (ds:=[]) (am b0.fN b0.fD) (AA _ _))
 obtain ⟨z07,y00⟩:=AD H0 (.a1 .d0)
 exact g8 (P4,U3,(vS k1 1),(aa b0)) z07 (Tt j00 (Tt M0 y00)) ⟨(Ar v04 (Tt M0 y00)),(Ar g1 y00)⟩
 refine Bv (m' :=3955) (sk c0) rfl .plain rfl (AB (α:=Ta) (xs:=([b0]:List Ta)) (vs:=[.agg ((aa b0)).toArray]) (ds' :=(aa b0)) rfl J02 az rfl (e1 rfl) (by kernel_rfl) rfl) fun C1 V0 B0 E0=>?_
 have Q0:=Az (cs:=(aa b0)) (xs:=(([b0]:List Ta):List Ta)) B0 L (Ao (cs:=(aa b0)) (ds:=[]) (am b0.fN b0.fD) (AA _ _))
 refine RD.nu 2 3959 c0 rfl .plain rfl (AB (α:=Ta) (xs:=([b0]:List Ta)) (vs:=[.agg ((aa b0)).toArray]) (ds' :=(aa b0)) rfl B0 az rfl (e1 rfl) (by kernel_rfl) rfl) fun E1 k1 H0 M0=>?_
 have g1:=Az (cs:=(aa b0)) (xs:=(([b0]:List Ta):List Ta)) H0 L (Ao (cs:=(aa b0)) (ds:=[]) (am b0.fN b0.fD) (AA _ _))
 have U0:=Tt b1 (Tt p1 (Tt s1 (Tt u1 (Tt j00 (Tt E0 M0)))))
 have j1:=Ar B1 U0
 refine BF (i:=3) (rk c0) (Bs (m' :=3967) (sk c0) rfl rfl .plain rfl (AR (α:=Ta) (ys:=([b0]:List Ta)) D1 H0 (fun _ _=>.t7) az rfl rfl j1 (Bd (α:=Ta) H0 .hd g1)) (fun Y0 F1 ⟨W0,R0,P0,X0⟩=>?_))
 have G2:=Ar H1 (Tt U0 P0)
 have z1:=Ar Q0 (Tt M0 P0)
 refine BF (i:=7) (rk c0) (Bs (m' :=4095) (sk c0) rfl rfl .plain rfl (AR (α:=Ta) (ys:=s0) K1 R0 (fun _ _=>.t1) az rfl rfl z1 (Bd (α:=Ta) R0 .t6 G2)) (fun A1 Q1 ⟨x1,v1,c1,y1⟩=>?_))
 obtain ⟨A07,z00⟩:=AD v1 (.a2 .d1)
 have Y04:=Tt E0 (Tt M0 (Tt P0 (Tt c1 z00)))
 exact G1 (P4,U3,A1,x1,Y0,W0) A07 (Tt j00 Y04) ⟨(Ar v04 Y04),(Ar y1 z00),(Ar X0 (Tt c1 z00))⟩
 intro p8
 refine RD.mf (α:=Value × (List Value) × Value × (List Value)) (fun ⟨Y2,u2,M4,R3⟩=>[(3,k0),(4,j0),(5,g0),(6,p0),(29,I0),(30,vI ((G0.length:Nat):Int)),(31,vI ((C0:Nat):Int)),(9,vP q0),(37,k0),(43,j0),(45,g0),(39,M4),(48,Y2)]) (fun ⟨Y2,u2,M4,R3⟩=>[rr w 34 Ta Y2 (([b0,b0]:List Ta).length) u2,rr w 34 Ta M4 (([b0]:List Ta).length) R3,.cells q0 (aa b0) 34,rr w 24 (List Tb) p0 t0.length v0,rr w 34 Ta g0 u0.length x0,rr w 34 Ta j0 s0.length y0,rr w 34 Ta k0 z0.length A0]) (fun ⟨Y2,u2,M4,R3⟩ V01=>Cells V01 (bl [rr w 34 Ta Y2 (([b0,b0]:List Ta).length) u2,rr w 34 Ta M4 (([b0]:List Ta).length) R3,.cells q0 (aa b0) 34,rr w 24 (List Tb) p0 t0.length v0,rr w 34 Ta g0 u0.length x0,rr w 34 Ta j0 s0.length y0,rr w 34 Ta k0 z0.length A0] ++ L) u2 (([b0,b0]:List Ta):List Ta)/\Cells V01 (bl [rr w 34 Ta Y2 (([b0,b0]:List Ta).length) u2,rr w 34 Ta M4 (([b0]:List Ta).length) R3,.cells q0 (aa b0) 34,rr w 24 (List Tb) p0 t0.length v0,rr w 34 Ta g0 u0.length x0,rr w 34 Ta j0 s0.length y0,rr w 34 Ta k0 z0.length A0] ++ L) R3 (([b0]:List Ta):List Ta)) D0 8 3911 ?_ ?_
 rintro ⟨Y2,u2,M4,R3⟩ V01 j7 g00 ⟨t04,u04⟩
 try dsimp only
 refine AW [3,4] (rk c0) ⟨?_,?_,trivial⟩
 have U0:=Tt b1 (Tt p1 (Tt s1 (Tt u1 g00)))
 have j1:=Ar B1 U0
 refine Bs (m' :=3919) (sk c0) rfl rfl .plain rfl (AR (α:=Ta) (ys:=([b0]:List Ta)) D1 j7 (fun _ _=>.t6) az rfl rfl j1 (Bd (α:=Ta) j7 .t1 u04)) fun Y0 F1 ⟨W0,R0,P0,X0⟩=>BF (i:=4) (rk c0) (AU (m' :=3935) (sk c0) rfl .plain rfl (Au rfl (R0.memA .t2)) ?_)
 refine RD.nu 5 3967 c0 rfl .plain rfl (AB (α:=Ta) (xs:=([b0]:List Ta)) (vs:=[.agg ((aa b0)).toArray]) (ds' :=(aa b0)) rfl R0 az rfl (e1 rfl) (by kernel_rfl) rfl) fun C1 V0 B0 E0=>?_
 have Q0:=Az (cs:=(aa b0)) (xs:=(([b0]:List Ta):List Ta)) B0 L (Ao (cs:=(aa b0)) (ds:=[]) (am b0.fN b0.fD) (AA _ _))
 have J1:=Tt U0 (Tt P0 E0)
 have z1:=Ar H1 J1
 refine BF (i:=7) (rk c0) (Bs (m' :=4095) (sk c0) rfl rfl .plain rfl (AR (α:=Ta) (ys:=s0) K1 B0 (fun _ _=>.hd) az rfl rfl Q0 (Bd (α:=Ta) B0 .t6 z1)) (fun A1 Q1 ⟨x1,v1,c1,y1⟩=>?_))
 obtain ⟨B07,A00⟩:=AD v1 (.a1 (.a0 .d1))
 have Z04:=Tt P0 (Tt E0 (Tt c1 A00))
 exact G1 (Y2,u2,A1,x1,Y0,W0) B07 (Tt g00 Z04) ⟨(Ar t04 Z04),(Ar y1 A00),(Ar X0 (Tt E0 (Tt c1 A00)))⟩
 refine AU (m' :=3927) (sk c0) rfl .plain rfl (Au rfl (j7.memA .t2))<|g8 (Y2,u2,M4,R3) j7 g00 ⟨t04,u04⟩
 intro d02
 refine RD.mf (α:=Value × (List Value)) (fun ⟨v5,Z4⟩=>[(3,k0),(4,j0),(5,g0),(6,p0),(29,I0),(30,vI ((G0.length:Nat):Int)),(31,vI ((C0:Nat):Int)),(9,vP q0),(37,k0),(43,j0),(45,g0),(38,.agg ((aa b0)).toArray),(42,v5),(46,.agg ((aa b0)).toArray),(47,.agg ((aa b0)).toArray)]) (fun ⟨v5,Z4⟩=>[rr w 34 Ta v5 (([b0]:List Ta).length) Z4,.cells q0 (aa b0) 34,rr w 24 (List Tb) p0 t0.length v0,rr w 34 Ta g0 u0.length x0,rr w 34 Ta j0 s0.length y0,rr w 34 Ta k0 z0.length A0]) (fun ⟨v5,Z4⟩ k06=>Cells k06 (bl [rr w 34 Ta v5 (([b0]:List Ta).length) Z4,.cells q0 (aa b0) 34,rr w 24 (List Tb) p0 t0.length v0,rr w 34 Ta g0 u0.length x0,rr w 34 Ta j0 s0.length y0,rr w 34 Ta k0 z0.length A0] ++ L) Z4 (([b0]:List Ta):List Ta)) D0 8 1907 ?_ ?_
 rintro ⟨v5,Z4⟩ k06 I02 d00 s04
 try dsimp only
 refine AW [2,11] (rk c0) ⟨?_,?_,trivial⟩
 refine Bv (m' :=1911) (sk c0) rfl .plain rfl (AB (α:=Ta) (xs:=([b0]:List Ta)) (vs:=[.agg ((aa b0)).toArray]) (ds' :=(aa b0)) rfl I02 az rfl (e1 rfl) (by kernel_rfl) rfl) fun E1 k1 H0 M0=>?_
 have g1:=Az (cs:=(aa b0)) (xs:=(([b0]:List Ta):List Ta)) H0 L (Ao (cs:=(aa b0)) (ds:=[]) (am b0.fN b0.fD) (AA _ _))
 obtain ⟨C07,B00⟩:=AD H0 (.a1 .d0)
 exact I6 (v5,Z4,(vS k1 1),(aa b0)) C07 (Tt d00 (Tt M0 B00)) ⟨(Ar s04 (Tt M0 B00)),(Ar g1 B00)⟩
 refine Bv (m' :=3955) (sk c0) rfl .plain rfl (AB (α:=Ta) (xs:=([b0,b0]:List Ta)) (vs:=[.agg ((aa b0)).toArray,.agg ((aa b0)).toArray]) (ds' :=(aa b0 ++ aa b0)) rfl I02 az rfl (e2 rfl rfl) (by kernel_rfl) rfl) fun I1 Z0 J0 F0=>?_
 have q1:=Az (cs:=(aa b0 ++ aa b0)) (xs:=(([b0,b0]:List Ta):List Ta)) J0 L (Ao (cs:=(aa b0)) (ds:=(aa b0)) (am b0.fN b0.fD) (Ao (cs:=(aa b0)) (ds:=[]) (am b0.fN b0.fD) (AA _ _)))
 refine RD.nu 2 3959 c0 rfl .plain rfl (AB (α:=Ta) (xs:=([b0]:List Ta)) (vs:=[.agg ((aa b0)).toArray]) (ds' :=(aa b0)) rfl J0 az rfl (e1 rfl) (by kernel_rfl) rfl) fun E1 k1 H0 M0=>?_
 have g1:=Az (cs:=(aa b0)) (xs:=(([b0]:List Ta):List Ta)) H0 L (Ao (cs:=(aa b0)) (ds:=[]) (am b0.fN b0.fD) (AA _ _))
 have U0:=Tt b1 (Tt p1 (Tt s1 (Tt u1 (Tt d00 (Tt F0 M0)))))
 have j1:=Ar B1 U0
 refine BF (i:=3) (rk c0) (Bs (m' :=3967) (sk c0) rfl rfl .plain rfl (AR (α:=Ta) (ys:=([b0]:List Ta)) D1 H0 (fun _ _=>.t7) az rfl rfl j1 (Bd (α:=Ta) H0 .hd g1)) (fun Y0 F1 ⟨W0,R0,P0,X0⟩=>?_))
 have G2:=Ar H1 (Tt U0 P0)
 have j09:=Tt F0 (Tt M0 P0)
 have E01:=Ar s04 j09
 refine BF (i:=7) (rk c0) (Bs (m' :=4095) (sk c0) rfl rfl .plain rfl (AR (α:=Ta) (ys:=s0) K1 R0 (fun _ _=>.t2) az rfl rfl E01 (Bd (α:=Ta) R0 .t6 G2)) (fun A6 A05 ⟨R5,W5,F2,x6⟩=>?_))
 obtain ⟨D07,C00⟩:=AD W5 .d1
 have b05:=Tt M0 (Tt P0 (Tt F2 C00))
 exact G1 ((vS Z0 2),(aa b0 ++ aa b0),A6,R5,Y0,W0) D07 (Tt d00 (Tt F0 b05)) ⟨(Ar q1 b05),(Ar x6 C00),(Ar X0 (Tt F2 C00))⟩
 intro K6
 refine RD.mf (α:=Value × (List Value)) (fun ⟨K4,Q3⟩=>[(3,k0),(4,j0),(5,g0),(6,p0),(29,I0),(30,vI ((G0.length:Nat):Int)),(31,vI ((C0:Nat):Int)),(9,vP q0),(37,k0),(43,j0),(45,g0),(39,K4),(41,.agg ((aa b0)).toArray),(46,.agg ((aa b0)).toArray),(47,.agg ((aa b0)).toArray)]) (fun ⟨K4,Q3⟩=>[rr w 34 Ta K4 (([b0]:List Ta).length) Q3,.cells q0 (aa b0) 34,rr w 24 (List Tb) p0 t0.length v0,rr w 34 Ta g0 u0.length x0,rr w 34 Ta j0 s0.length y0,rr w 34 Ta k0 z0.length A0]) (fun ⟨K4,Q3⟩ j06=>Cells j06 (bl [rr w 34 Ta K4 (([b0]:List Ta).length) Q3,.cells q0 (aa b0) 34,rr w 24 (List Tb) p0 t0.length v0,rr w 34 Ta g0 u0.length x0,rr w 34 Ta j0 s0.length y0,rr w 34 Ta k0 z0.length A0] ++ L) Q3 (([b0]:List Ta):List Ta)) D0 8 1879 ?_ ?_
 rintro ⟨K4,Q3⟩ j06 g7 H7 B01
 try dsimp only
 refine AW [3,5,11] (rk c0) ⟨?_,?_,?_,trivial⟩
 have U0:=Tt b1 (Tt p1 (Tt s1 (Tt u1 H7)))
 have j1:=Ar B1 U0
 refine Bs (m' :=1887) (sk c0) rfl rfl .plain rfl (AR (α:=Ta) (ys:=([b0]:List Ta)) D1 g7 (fun _ _=>.t5) az rfl rfl j1 (Bd (α:=Ta) g7 .hd B01)) fun Y0 F1 ⟨W0,R0,P0,X0⟩=>?_
 obtain ⟨E07,u03⟩:=AD R0 .d1
 exact J6 (Y0,W0) E07 (Tt H7 (Tt P0 u03)) (Ar X0 u03)
 refine Bv (m' :=1911) (sk c0) rfl .plain rfl (AB (α:=Ta) (xs:=([b0]:List Ta)) (vs:=[.agg ((aa b0)).toArray]) (ds' :=(aa b0)) rfl g7 az rfl (e1 rfl) (by kernel_rfl) rfl) fun C1 V0 B0 E0=>?_
 have Q0:=Az (cs:=(aa b0)) (xs:=(([b0]:List Ta):List Ta)) B0 L (Ao (cs:=(aa b0)) (ds:=[]) (am b0.fN b0.fD) (AA _ _))
 exact I6 ((vS V0 1),(aa b0),K4,Q3) B0 (Tt H7 E0) ⟨Q0,(Ar B01 E0)⟩
 refine Bv (m' :=3927) (sk c0) rfl .plain rfl (AB (α:=Ta) (xs:=([b0,b0]:List Ta)) (vs:=[.agg ((aa b0)).toArray,.agg ((aa b0)).toArray]) (ds' :=(aa b0 ++ aa b0)) rfl g7 az rfl (e2 rfl rfl) (by kernel_rfl) rfl) fun I1 Z0 J0 F0=>?_
 have q1:=Az (cs:=(aa b0 ++ aa b0)) (xs:=(([b0,b0]:List Ta):List Ta)) J0 L (Ao (cs:=(aa b0)) (ds:=(aa b0)) (am b0.fN b0.fD) (Ao (cs:=(aa b0)) (ds:=[]) (am b0.fN b0.fD) (AA _ _)))
 exact g8 ((vS Z0 2),(aa b0 ++ aa b0),K4,Q3) J0 (Tt H7 F0) ⟨q1,(Ar B01 F0)⟩
 intro M6
 refine RD.mf (α:=Value × (List Value)) (fun ⟨J4,P3⟩=>[(3,k0),(4,j0),(5,g0),(6,p0),(29,I0),(30,vI ((G0.length:Nat):Int)),(31,vI ((C0:Nat):Int)),(9,vP q0),(43,j0),(45,g0),(40,J4),(46,.agg ((aa b0)).toArray),(47,.agg ((aa b0)).toArray)]) (fun ⟨J4,P3⟩=>[.cells q0 (aa b0) 34,rr w 24 (List Tb) p0 t0.length v0,rr w 34 Ta g0 u0.length x0,rr w 34 Ta j0 s0.length y0,rr w 34 Ta J4 K0.length P3]) (fun ⟨J4,P3⟩ g06=>Cells g06 (bl [.cells q0 (aa b0) 34,rr w 24 (List Tb) p0 t0.length v0,rr w 34 Ta g0 u0.length x0,rr w 34 Ta j0 s0.length y0,rr w 34 Ta J4 K0.length P3] ++ L) P3 (K0:List Ta)) D0 8 1871 ?_ ?_
 rintro ⟨J4,P3⟩ g06 Y8 c00 q04
 try dsimp only
 refine AW [4,11] (rk c0) ⟨?_,?_,trivial⟩
 refine AU (m' :=1887) (sk c0) rfl .plain rfl (Au rfl (Y8.memA .hd))<|J6 (J4,P3) Y8 c00 q04
 refine Bv (m' :=3919) (sk c0) rfl .plain rfl (AB (α:=Ta) (xs:=([b0,b0]:List Ta)) (vs:=[.agg ((aa b0)).toArray,.agg ((aa b0)).toArray]) (ds' :=(aa b0 ++ aa b0)) rfl Y8 az rfl (e2 rfl rfl) (by kernel_rfl) rfl) fun I1 Z0 J0 F0=>?_
 have q1:=Az (cs:=(aa b0 ++ aa b0)) (xs:=(([b0,b0]:List Ta):List Ta)) J0 L (Ao (cs:=(aa b0)) (ds:=(aa b0)) (am b0.fN b0.fD) (Ao (cs:=(aa b0)) (ds:=[]) (am b0.fN b0.fD) (AA _ _)))
 refine BF (i:=4) (rk c0) (AU (m' :=3935) (sk c0) rfl .plain rfl (Au rfl (J0.memA .t1)) ?_)
 refine RD.nu 5 3967 c0 rfl .plain rfl (AB (α:=Ta) (xs:=([b0]:List Ta)) (vs:=[.agg ((aa b0)).toArray]) (ds' :=(aa b0)) rfl J0 az rfl (e1 rfl) (by kernel_rfl) rfl) fun C1 V0 B0 E0=>?_
 have Q0:=Az (cs:=(aa b0)) (xs:=(([b0]:List Ta):List Ta)) B0 L (Ao (cs:=(aa b0)) (ds:=[]) (am b0.fN b0.fD) (AA _ _))
 have J1:=Tt b1 (Tt p1 (Tt s1 (Tt u1 (Tt c00 (Tt F0 E0)))))
 have z1:=Ar H1 J1
 refine BF (i:=7) (rk c0) (Bs (m' :=4095) (sk c0) rfl rfl .plain rfl (AR (α:=Ta) (ys:=s0) K1 B0 (fun _ _=>.hd) az rfl rfl Q0 (Bd (α:=Ta) B0 .t5 z1)) (fun A1 Q1 ⟨x1,v1,c1,y1⟩=>?_))
 obtain ⟨F07,v03⟩:=AD v1 (.a1 .d0)
 have G01:=Tt E0 (Tt c1 v03)
 exact G1 ((vS Z0 2),(aa b0 ++ aa b0),A1,x1,J4,P3) F07 (Tt c00 (Tt F0 G01)) ⟨(Ar q1 G01),(Ar y1 v03),(Ar q04 (Tt F0 G01))⟩
 intro q8
 refine RD.mf (α:=Value × (List Value) × Value × (List Value)) (fun ⟨X2,s2,I4,M3⟩=>[(3,k0),(4,j0),(5,g0),(6,p0),(29,I0),(30,vI ((G0.length:Nat):Int)),(31,vI ((C0:Nat):Int)),(9,vP q0),(37,k0),(43,j0),(45,g0),(39,I4),(42,X2),(47,.agg ((aa b0)).toArray)]) (fun ⟨X2,s2,I4,M3⟩=>[rr w 34 Ta X2 (([b0]:List Ta).length) s2,rr w 34 Ta I4 (([b0]:List Ta).length) M3,.cells q0 (aa b0) 34,rr w 24 (List Tb) p0 t0.length v0,rr w 34 Ta g0 u0.length x0,rr w 34 Ta j0 s0.length y0,rr w 34 Ta k0 z0.length A0]) (fun ⟨X2,s2,I4,M3⟩ U01=>Cells U01 (bl [rr w 34 Ta X2 (([b0]:List Ta).length) s2,rr w 34 Ta I4 (([b0]:List Ta).length) M3,.cells q0 (aa b0) 34,rr w 24 (List Tb) p0 t0.length v0,rr w 34 Ta g0 u0.length x0,rr w 34 Ta j0 s0.length y0,rr w 34 Ta k0 z0.length A0] ++ L) s2 (([b0]:List Ta):List Ta)/\Cells U01 (bl [rr w 34 Ta X2 (([b0]:List Ta).length) s2,rr w 34 Ta I4 (([b0]:List Ta).length) M3,.cells q0 (aa b0) 34,rr w 24 (List Tb) p0 t0.length v0,rr w 34 Ta g0 u0.length x0,rr w 34 Ta j0 s0.length y0,rr w 34 Ta k0 z0.length A0] ++ L) M3 (([b0]:List Ta):List Ta)) D0 8 1399 ?_ ?_
 rintro ⟨X2,s2,I4,M3⟩ U01 d7 b00 ⟨k04,p04⟩
 try dsimp only
 refine AW [3,9] (rk c0) ⟨?_,?_,trivial⟩
 have U0:=Tt b1 (Tt p1 (Tt s1 (Tt u1 b00)))
 have j1:=Ar B1 U0
 refine Bs (m' :=1407) (sk c0) rfl rfl .plain rfl (AR (α:=Ta) (ys:=([b0]:List Ta)) D1 d7 (fun _ _=>.t6) az rfl rfl j1 (Bd (α:=Ta) d7 .t1 p04)) fun Y0 F1 ⟨W0,R0,P0,X0⟩=>?_
 obtain ⟨G07,D00⟩:=AD R0 (.a0 .d1)
 exact j8 (X2,s2,Y0,W0) G07 (Tt b00 (Tt P0 D00)) ⟨(Ar k04 (Tt P0 D00)),(Ar X0 D00)⟩
 refine AU (m' :=1911) (sk c0) rfl .plain rfl (Au rfl (d7.memA .t2))<|I6 (X2,s2,I4,M3) d7 b00 ⟨k04,p04⟩
 intro s8
 refine RD.mf (α:=Value × (List Value)) (fun ⟨H4,K3⟩=>[(3,k0),(4,j0),(5,g0),(6,p0),(29,I0),(30,vI ((G0.length:Nat):Int)),(31,vI ((C0:Nat):Int)),(9,vP q0),(43,j0),(45,g0),(40,H4),(41,.agg ((aa b0)).toArray),(47,.agg ((aa b0)).toArray)]) (fun ⟨H4,K3⟩=>[.cells q0 (aa b0) 34,rr w 24 (List Tb) p0 t0.length v0,rr w 34 Ta g0 u0.length x0,rr w 34 Ta j0 s0.length y0,rr w 34 Ta H4 K0.length K3]) (fun ⟨H4,K3⟩ d06=>Cells d06 (bl [.cells q0 (aa b0) 34,rr w 24 (List Tb) p0 t0.length v0,rr w 34 Ta g0 u0.length x0,rr w 34 Ta j0 s0.length y0,rr w 34 Ta H4 K0.length K3] ++ L) K3 (K0:List Ta)) D0 8 1375 ?_ ?_
 rintro ⟨H4,K3⟩ d06 X8 j03 j04
 try dsimp only
 refine AW [5,9] (rk c0) ⟨?_,?_,trivial⟩
 refine Bv (m' :=1407) (sk c0) rfl .plain rfl (AB (α:=Ta) (xs:=([b0]:List Ta)) (vs:=[.agg ((aa b0)).toArray]) (ds' :=(aa b0)) rfl X8 az rfl (e1 rfl) (by kernel_rfl) rfl) fun C1 V0 B0 E0=>?_
 have Q0:=Az (cs:=(aa b0)) (xs:=(([b0]:List Ta):List Ta)) B0 L (Ao (cs:=(aa b0)) (ds:=[]) (am b0.fN b0.fD) (AA _ _))
 exact j8 ((vS V0 1),(aa b0),H4,K3) B0 (Tt j03 E0) ⟨Q0,(Ar j04 E0)⟩
 refine AU (m' :=1887) (sk c0) rfl .plain rfl (Au rfl (X8.memA .hd))<|J6 (H4,K3) X8 j03 j04
 intro t8
 refine RD.mf (α:=Value × (List Value) × Value × (List Value)) (fun ⟨W2,q2,G4,J3⟩=>[(3,k0),(4,j0),(5,g0),(6,p0),(29,I0),(30,vI ((G0.length:Nat):Int)),(31,vI ((C0:Nat):Int)),(9,vP q0),(37,k0),(43,j0),(45,g0),(39,G4),(42,W2),(46,.agg ((aa b0)).toArray)]) (fun ⟨W2,q2,G4,J3⟩=>[rr w 34 Ta W2 (([b0]:List Ta).length) q2,rr w 34 Ta G4 (([b0]:List Ta).length) J3,.cells q0 (aa b0) 34,rr w 24 (List Tb) p0 t0.length v0,rr w 34 Ta g0 u0.length x0,rr w 34 Ta j0 s0.length y0,rr w 34 Ta k0 z0.length A0]) (fun ⟨W2,q2,G4,J3⟩ R01=>Cells R01 (bl [rr w 34 Ta W2 (([b0]:List Ta).length) q2,rr w 34 Ta G4 (([b0]:List Ta).length) J3,.cells q0 (aa b0) 34,rr w 24 (List Tb) p0 t0.length v0,rr w 34 Ta g0 u0.length x0,rr w 34 Ta j0 s0.length y0,rr w 34 Ta k0 z0.length A0] ++ L) q2 (([b0]:List Ta):List Ta)/\Cells R01 (bl [rr w 34 Ta W2 (([b0]:List Ta).length) q2,rr w 34 Ta G4 (([b0]:List Ta).length) J3,.cells q0 (aa b0) 34,rr w 24 (List Tb) p0 t0.length v0,rr w 34 Ta g0 u0.length x0,rr w 34 Ta j0 s0.length y0,rr w 34 Ta k0 z0.length A0] ++ L) J3 (([b0]:List Ta):List Ta)) D0 8 887 ?_ ?_
 rintro ⟨W2,q2,G4,J3⟩ R01 c7 Z9 ⟨d04,g04⟩
 try dsimp only
 refine AW [3,10] (rk c0) ⟨?_,?_,trivial⟩
 have U0:=Tt b1 (Tt p1 (Tt s1 (Tt u1 Z9)))
 have j1:=Ar B1 U0
 refine Bs (m' :=895) (sk c0) rfl rfl .plain rfl (AR (α:=Ta) (ys:=([b0]:List Ta)) D1 c7 (fun _ _=>.t6) az rfl rfl j1 (Bd (α:=Ta) c7 .t1 g04)) fun Y0 F1 ⟨W0,R0,P0,X0⟩=>?_
 obtain ⟨H07,E00⟩:=AD R0 (.a0 .d1)
 exact k8 (W2,q2,Y0,W0) H07 (Tt Z9 (Tt P0 E00)) ⟨(Ar d04 (Tt P0 E00)),(Ar X0 E00)⟩
 refine AU (m' :=1911) (sk c0) rfl .plain rfl (Au rfl (c7.memA .t2))<|I6 (W2,q2,G4,J3) c7 Z9 ⟨d04,g04⟩
 intro v8
 refine RD.mf (α:=Value × (List Value)) (fun ⟨F4,I3⟩=>[(3,k0),(4,j0),(5,g0),(6,p0),(29,I0),(30,vI ((G0.length:Nat):Int)),(31,vI ((C0:Nat):Int)),(9,vP q0),(43,j0),(45,g0),(40,F4),(41,.agg ((aa b0)).toArray),(46,.agg ((aa b0)).toArray)]) (fun ⟨F4,I3⟩=>[.cells q0 (aa b0) 34,rr w 24 (List Tb) p0 t0.length v0,rr w 34 Ta g0 u0.length x0,rr w 34 Ta j0 s0.length y0,rr w 34 Ta F4 K0.length I3]) (fun ⟨F4,I3⟩ c06=>Cells c06 (bl [.cells q0 (aa b0) 34,rr w 24 (List Tb) p0 t0.length v0,rr w 34 Ta g0 u0.length x0,rr w 34 Ta j0 s0.length y0,rr w 34 Ta F4 K0.length I3] ++ L) I3 (K0:List Ta)) D0 8 863 ?_ ?_
 rintro ⟨F4,I3⟩ c06 W8 g03 c04
 try dsimp only
 refine AW [5,10] (rk c0) ⟨?_,?_,trivial⟩
 refine Bv (m' :=895) (sk c0) rfl .plain rfl (AB (α:=Ta) (xs:=([b0]:List Ta)) (vs:=[.agg ((aa b0)).toArray]) (ds' :=(aa b0)) rfl W8 az rfl (e1 rfl) (by kernel_rfl) rfl) fun C1 V0 B0 E0=>?_
 have Q0:=Az (cs:=(aa b0)) (xs:=(([b0]:List Ta):List Ta)) B0 L (Ao (cs:=(aa b0)) (ds:=[]) (am b0.fN b0.fD) (AA _ _))
 exact k8 ((vS V0 1),(aa b0),F4,I3) B0 (Tt g03 E0) ⟨Q0,(Ar c04 E0)⟩
 refine AU (m' :=1887) (sk c0) rfl .plain rfl (Au rfl (W8.memA .hd))<|J6 (F4,I3) W8 g03 c04
 intro x8
 refine RD.mf (α:=Value × (List Value) × Value × (List Value)) (fun ⟨V2,p2,W1,U1⟩=>[(3,k0),(4,j0),(5,g0),(6,p0),(29,I0),(30,vI ((G0.length:Nat):Int)),(31,vI ((C0:Nat):Int)),(9,vP q0),(43,j0),(45,g0),(40,W1),(42,V2)]) (fun ⟨V2,p2,W1,U1⟩=>[rr w 34 Ta V2 (([b0]:List Ta).length) p2,.cells q0 (aa b0) 34,rr w 24 (List Tb) p0 t0.length v0,rr w 34 Ta g0 u0.length x0,rr w 34 Ta j0 s0.length y0,rr w 34 Ta W1 K0.length U1]) (fun ⟨V2,p2,W1,U1⟩ Q01=>Cells Q01 (bl [rr w 34 Ta V2 (([b0]:List Ta).length) p2,.cells q0 (aa b0) 34,rr w 24 (List Tb) p0 t0.length v0,rr w 34 Ta g0 u0.length x0,rr w 34 Ta j0 s0.length y0,rr w 34 Ta W1 K0.length U1] ++ L) p2 (([b0]:List Ta):List Ta)/\Cells Q01 (bl [rr w 34 Ta V2 (([b0]:List Ta).length) p2,.cells q0 (aa b0) 34,rr w 24 (List Tb) p0 t0.length v0,rr w 34 Ta g0 u0.length x0,rr w 34 Ta j0 s0.length y0,rr w 34 Ta W1 K0.length U1] ++ L) U1 (K0:List Ta)) D0 8 383 ?_ ?_
 rintro ⟨V2,p2,W1,U1⟩ Q01 I5 G7 ⟨z01,A01⟩
 try dsimp only
 refine AW [7,9,10] (rk c0) ⟨?_,?_,?_,trivial⟩
 have z1:=Ar H1 (Tt b1 (Tt p1 (Tt s1 (Tt u1 G7))))
 refine Bs (m' :=511) (sk c0) rfl rfl .plain rfl (AR (α:=Ta) (ys:=s0) K1 I5 (fun _ _=>.hd) az rfl rfl z01 (Bd (α:=Ta) I5 .t4 z1)) fun A1 Q1 ⟨x1,v1,c1,y1⟩=>U06 (A1,x1,W1,U1) v1 (Tt G7 c1) ⟨y1,(Ar A01 c1)⟩
 refine AU (m' :=895) (sk c0) rfl .plain rfl (Au rfl (I5.memA .t1))<|k8 (V2,p2,W1,U1) I5 G7 ⟨z01,A01⟩
 refine AU (m' :=1407) (sk c0) rfl .plain rfl (Au rfl (I5.memA .t1))<|j8 (V2,p2,W1,U1) I5 G7 ⟨z01,A01⟩
 intro g02
 refine RD.mf (α:=Value × (List Value)) (fun ⟨E4,H3⟩=>[(3,k0),(4,j0),(5,g0),(6,p0),(29,I0),(30,vI ((G0.length:Nat):Int)),(31,vI ((C0:Nat):Int)),(9,vP q0),(37,k0),(43,j0),(45,g0),(41,.agg ((aa b0)).toArray),(48,E4)]) (fun ⟨E4,H3⟩=>[rr w 34 Ta E4 (([b0,b0]:List Ta).length) H3,.cells q0 (aa b0) 34,rr w 24 (List Tb) p0 t0.length v0,rr w 34 Ta g0 u0.length x0,rr w 34 Ta j0 s0.length y0,rr w 34 Ta k0 z0.length A0]) (fun ⟨E4,H3⟩ b06=>Cells b06 (bl [rr w 34 Ta E4 (([b0,b0]:List Ta).length) H3,.cells q0 (aa b0) 34,rr w 24 (List Tb) p0 t0.length v0,rr w 34 Ta g0 u0.length x0,rr w 34 Ta j0 s0.length y0,rr w 34 Ta k0 z0.length A0] ++ L) H3 (([b0,b0]:List Ta):List Ta)) D0 9 3921 ?_ ?_
 rintro ⟨E4,H3⟩ b06 V8 Y9 b04
 try dsimp only
 refine AW [1,5] (rk c0) ⟨?_,?_,trivial⟩
 refine AU (m' :=3923) (sk c0) rfl .plain rfl (Au rfl (V8.memA .t1))<|p8 (E4,H3) V8 Y9 b04
 refine Bv (m' :=3953) (sk c0) rfl .plain rfl (AB (α:=Ta) (xs:=([b0]:List Ta)) (vs:=[.agg ((aa b0)).toArray]) (ds' :=(aa b0)) rfl V8 az rfl (e1 rfl) (by kernel_rfl) rfl) fun C1 V0 B0 E0=>?_
 have Q0:=Az (cs:=(aa b0)) (xs:=(([b0]:List Ta):List Ta)) B0 L (Ao (cs:=(aa b0)) (ds:=[]) (am b0.fN b0.fD) (AA _ _))
 refine Rx 1 61580 c0 rfl j4 (Au rfl (B0.memA .t2))<|RD.nu 2 3959 c0 rfl .plain rfl (AB (α:=Ta) (xs:=([b0]:List Ta)) (vs:=[.agg ((aa b0)).toArray]) (ds' :=(aa b0)) rfl B0 az rfl (e1 rfl) (by kernel_rfl) rfl) fun E1 k1 H0 M0=>?_
 have g1:=Az (cs:=(aa b0)) (xs:=(([b0]:List Ta):List Ta)) H0 L (Ao (cs:=(aa b0)) (ds:=[]) (am b0.fN b0.fD) (AA _ _))
 have U0:=Tt b1 (Tt p1 (Tt s1 (Tt u1 (Tt Y9 (Tt E0 M0)))))
 have j1:=Ar B1 U0
 refine BF (i:=3) (rk c0) (Bs (m' :=3967) (sk c0) rfl rfl .plain rfl (AR (α:=Ta) (ys:=([b0]:List Ta)) D1 H0 (fun _ _=>.t7) az rfl rfl j1 (Bd (α:=Ta) H0 .hd g1)) (fun Y0 F1 ⟨W0,R0,P0,X0⟩=>?_))
 have G2:=Ar H1 (Tt U0 P0)
 refine BF (i:=7) (rk c0) (Bs (m' :=4095) (sk c0) rfl rfl .plain rfl (AR (α:=Ta) (ys:=s0) K1 R0 (fun _ _=>.t1) az rfl rfl (Ar Q0 (Tt M0 P0)) (Bd (α:=Ta) R0 .t6 G2)) (fun A1 Q1 ⟨x1,v1,c1,y1⟩=>?_))
 obtain ⟨I07,F00⟩:=AD v1 (.a2 .d1)
 have c05:=Tt E0 (Tt M0 (Tt P0 (Tt c1 F00)))
 exact G1 (E4,H3,A1,x1,Y0,W0) I07 (Tt Y9 c05) ⟨(Ar b04 c05),(Ar y1 F00),(Ar X0 (Tt c1 F00))⟩
 intro j02
 refine RD.mf (α:=Value × (List Value)) (fun ⟨D4,G3⟩=>[(3,k0),(4,j0),(5,g0),(6,p0),(29,I0),(30,vI ((G0.length:Nat):Int)),(31,vI ((C0:Nat):Int)),(9,vP q0),(37,k0),(43,j0),(45,g0),(38,.agg ((aa b0)).toArray),(48,D4)]) (fun ⟨D4,G3⟩=>[rr w 34 Ta D4 (([b0,b0]:List Ta).length) G3,.cells q0 (aa b0) 34,rr w 24 (List Tb) p0 t0.length v0,rr w 34 Ta g0 u0.length x0,rr w 34 Ta j0 s0.length y0,rr w 34 Ta k0 z0.length A0]) (fun ⟨D4,G3⟩ Z05=>Cells Z05 (bl [rr w 34 Ta D4 (([b0,b0]:List Ta).length) G3,.cells q0 (aa b0) 34,rr w 24 (List Tb) p0 t0.length v0,rr w 34 Ta g0 u0.length x0,rr w 34 Ta j0 s0.length y0,rr w 34 Ta k0 z0.length A0] ++ L) G3 (([b0,b0]:List Ta):List Ta)) D0 9 3907 ?_ ?_
 rintro ⟨D4,G3⟩ Z05 U8 d03 Z03
 try dsimp only
 refine AW [2,4] (rk c0) ⟨?_,?_,trivial⟩
 refine Bv (m' :=3911) (sk c0) rfl .plain rfl (AB (α:=Ta) (xs:=([b0]:List Ta)) (vs:=[.agg ((aa b0)).toArray]) (ds' :=(aa b0)) rfl U8 az rfl (e1 rfl) (by kernel_rfl) rfl) fun E1 k1 H0 M0=>?_
 have g1:=Az (cs:=(aa b0)) (xs:=(([b0]:List Ta):List Ta)) H0 L (Ao (cs:=(aa b0)) (ds:=[]) (am b0.fN b0.fD) (AA _ _))
 obtain ⟨J07,G00⟩:=AD H0 (.a1 .d0)
 exact d02 (D4,G3,(vS k1 1),(aa b0)) J07 (Tt d03 (Tt M0 G00)) ⟨(Ar Z03 (Tt M0 G00)),(Ar g1 G00)⟩
 refine AU (m' :=3923) (sk c0) rfl .plain rfl (Au rfl (U8.memA .t1))<|p8 (D4,G3) U8 d03 Z03
 intro k02
 refine RD.mf (α:=Value × (List Value)) (fun ⟨u5,Y4⟩=>[(3,k0),(4,j0),(5,g0),(6,p0),(29,I0),(30,vI ((G0.length:Nat):Int)),(31,vI ((C0:Nat):Int)),(9,vP q0),(37,k0),(43,j0),(45,g0),(42,u5),(46,.agg ((aa b0)).toArray),(47,.agg ((aa b0)).toArray)]) (fun ⟨u5,Y4⟩=>[rr w 34 Ta u5 (([b0]:List Ta).length) Y4,.cells q0 (aa b0) 34,rr w 24 (List Tb) p0 t0.length v0,rr w 34 Ta g0 u0.length x0,rr w 34 Ta j0 s0.length y0,rr w 34 Ta k0 z0.length A0]) (fun ⟨u5,Y4⟩ Y05=>Cells Y05 (bl [rr w 34 Ta u5 (([b0]:List Ta).length) Y4,.cells q0 (aa b0) 34,rr w 24 (List Tb) p0 t0.length v0,rr w 34 Ta g0 u0.length x0,rr w 34 Ta j0 s0.length y0,rr w 34 Ta k0 z0.length A0] ++ L) Y4 (([b0]:List Ta):List Ta)) D0 9 1905 ?_ ?_
 rintro ⟨u5,Y4⟩ Y05 R8 X9 Y03
 try dsimp only
 refine AW [1,11] (rk c0) ⟨?_,?_,trivial⟩
 refine AU (m' :=1907) (sk c0) rfl .plain rfl (Au rfl (R8.memA .t1))<|K6 (u5,Y4) R8 X9 Y03
 refine Bv (m' :=3953) (sk c0) rfl .plain rfl (AB (α:=Ta) (xs:=([b0,b0]:List Ta)) (vs:=[.agg ((aa b0)).toArray,.agg ((aa b0)).toArray]) (ds' :=(aa b0 ++ aa b0)) rfl R8 az rfl (e2 rfl rfl) (by kernel_rfl) rfl) fun I1 Z0 J0 F0=>?_
 have q1:=Az (cs:=(aa b0 ++ aa b0)) (xs:=(([b0,b0]:List Ta):List Ta)) J0 L (Ao (cs:=(aa b0)) (ds:=(aa b0)) (am b0.fN b0.fD) (Ao (cs:=(aa b0)) (ds:=[]) (am b0.fN b0.fD) (AA _ _)))
 refine Rx 1 61580 c0 rfl j4 (Au rfl (J0.memA .t2))<|RD.nu 2 3959 c0 rfl .plain rfl (AB (α:=Ta) (xs:=([b0]:List Ta)) (vs:=[.agg ((aa b0)).toArray]) (ds' :=(aa b0)) rfl J0 az rfl (e1 rfl) (by kernel_rfl) rfl) fun E1 k1 H0 M0=>?_
 have g1:=Az (cs:=(aa b0)) (xs:=(([b0]:List Ta):List Ta)) H0 L (Ao (cs:=(aa b0)) (ds:=[]) (am b0.fN b0.fD) (AA _ _))
 have U0:=Tt b1 (Tt p1 (Tt s1 (Tt u1 (Tt X9 (Tt F0 M0)))))
 have j1:=Ar B1 U0
 refine BF (i:=3) (rk c0) (Bs (m' :=3967) (sk c0) rfl rfl .plain rfl (AR (α:=Ta) (ys:=([b0]:List Ta)) D1 H0 (fun _ _=>.t7) az rfl rfl j1 (Bd (α:=Ta) H0 .hd g1)) (fun Y0 F1 ⟨W0,R0,P0,X0⟩=>?_))
 refine BF (i:=7) (rk c0) (Bs (m' :=4095) (sk c0) rfl rfl .plain rfl (AR (α:=Ta) (ys:=s0) K1 R0 (fun _ _=>.t2) az rfl rfl (Ar Y03 (Tt F0 (Tt M0 P0))) (Bd (α:=Ta) R0 .t6 (Ar H1 (Tt U0 P0)))) (fun A6 A05 ⟨R5,W5,F2,x6⟩=>?_))
 obtain ⟨K07,H00⟩:=AD W5 .d1
 have d05:=Tt M0 (Tt P0 (Tt F2 H00))
 exact G1 ((vS Z0 2),(aa b0 ++ aa b0),A6,R5,Y0,W0) K07 (Tt X9 (Tt F0 d05)) ⟨(Ar q1 d05),(Ar x6 H00),(Ar X0 (Tt F2 H00))⟩
 intro y8
 refine RD.mo (α:=Unit) (fun ()=>[(3,k0),(4,j0),(5,g0),(6,p0),(29,I0),(30,vI ((G0.length:Nat):Int)),(31,vI ((C0:Nat):Int)),(9,vP q0),(37,k0),(43,j0),(45,g0),(38,.agg ((aa b0)).toArray),(41,.agg ((aa b0)).toArray),(46,.agg ((aa b0)).toArray),(47,.agg ((aa b0)).toArray)]) (fun ()=>[.cells q0 (aa b0) 34,rr w 24 (List Tb) p0 t0.length v0,rr w 34 Ta g0 u0.length x0,rr w 34 Ta j0 s0.length y0,rr w 34 Ta k0 z0.length A0]) D0 9 1875 ?_ ?_
 rintro ⟨⟩ V0c Q8 W9
 try dsimp only
 refine AW [2,5,11] (rk c0) ⟨?_,?_,?_,trivial⟩
 refine Bv (m' :=1879) (sk c0) rfl .plain rfl (AB (α:=Ta) (xs:=([b0]:List Ta)) (vs:=[.agg ((aa b0)).toArray]) (ds' :=(aa b0)) rfl Q8 az rfl (e1 rfl) (by kernel_rfl) rfl) fun E1 k1 H0 M0=>?_
 have g1:=Az (cs:=(aa b0)) (xs:=(([b0]:List Ta):List Ta)) H0 L (Ao (cs:=(aa b0)) (ds:=[]) (am b0.fN b0.fD) (AA _ _))
 exact M6 ((vS k1 1),(aa b0)) H0 (Tt W9 M0) g1
 refine Bv (m' :=1907) (sk c0) rfl .plain rfl (AB (α:=Ta) (xs:=([b0]:List Ta)) (vs:=[.agg ((aa b0)).toArray]) (ds' :=(aa b0)) rfl Q8 az rfl (e1 rfl) (by kernel_rfl) rfl) fun C1 V0 B0 E0=>?_
 have Q0:=Az (cs:=(aa b0)) (xs:=(([b0]:List Ta):List Ta)) B0 L (Ao (cs:=(aa b0)) (ds:=[]) (am b0.fN b0.fD) (AA _ _))
 exact K6 ((vS V0 1),(aa b0)) B0 (Tt W9 E0) Q0
 refine Bv (m' :=3923) (sk c0) rfl .plain rfl (AB (α:=Ta) (xs:=([b0,b0]:List Ta)) (vs:=[.agg ((aa b0)).toArray,.agg ((aa b0)).toArray]) (ds' :=(aa b0 ++ aa b0)) rfl Q8 az rfl (e2 rfl rfl) (by kernel_rfl) rfl) fun I1 Z0 J0 F0=>?_
 have q1:=Az (cs:=(aa b0 ++ aa b0)) (xs:=(([b0,b0]:List Ta):List Ta)) J0 L (Ao (cs:=(aa b0)) (ds:=(aa b0)) (am b0.fN b0.fD) (Ao (cs:=(aa b0)) (ds:=[]) (am b0.fN b0.fD) (AA _ _)))
 exact p8 ((vS Z0 2),(aa b0 ++ aa b0)) J0 (Tt W9 F0) q1
 intro P6
 refine RD.mf (α:=Value × (List Value)) (fun ⟨C4,F3⟩=>[(3,k0),(4,j0),(5,g0),(6,p0),(29,I0),(30,vI ((G0.length:Nat):Int)),(31,vI ((C0:Nat):Int)),(9,vP q0),(37,k0),(43,j0),(45,g0),(39,C4),(46,.agg ((aa b0)).toArray),(47,.agg ((aa b0)).toArray)]) (fun ⟨C4,F3⟩=>[rr w 34 Ta C4 (([b0]:List Ta).length) F3,.cells q0 (aa b0) 34,rr w 24 (List Tb) p0 t0.length v0,rr w 34 Ta g0 u0.length x0,rr w 34 Ta j0 s0.length y0,rr w 34 Ta k0 z0.length A0]) (fun ⟨C4,F3⟩ X05=>Cells X05 (bl [rr w 34 Ta C4 (([b0]:List Ta).length) F3,.cells q0 (aa b0) 34,rr w 24 (List Tb) p0 t0.length v0,rr w 34 Ta g0 u0.length x0,rr w 34 Ta j0 s0.length y0,rr w 34 Ta k0 z0.length A0] ++ L) F3 (([b0]:List Ta):List Ta)) D0 9 1863 ?_ ?_
 rintro ⟨C4,F3⟩ X05 p6 F7 y01
 try dsimp only
 refine AW [3,4,11] (rk c0) ⟨?_,?_,?_,trivial⟩
 have U0:=Tt b1 (Tt p1 (Tt s1 (Tt u1 F7)))
 have j1:=Ar B1 U0
 refine Bs (m' :=1871) (sk c0) rfl rfl .plain rfl (AR (α:=Ta) (ys:=([b0]:List Ta)) D1 p6 (fun _ _=>.t5) az rfl rfl j1 (Bd (α:=Ta) p6 .hd y01)) fun Y0 F1 ⟨W0,R0,P0,X0⟩=>?_
 obtain ⟨M07,x03⟩:=AD R0 .d1
 exact q8 (Y0,W0) M07 (Tt F7 (Tt P0 x03)) (Ar X0 x03)
 refine AU (m' :=1879) (sk c0) rfl .plain rfl (Au rfl (p6.memA .t1))<|M6 (C4,F3) p6 F7 y01
 refine Bv (m' :=3911) (sk c0) rfl .plain rfl (AB (α:=Ta) (xs:=([b0,b0]:List Ta)) (vs:=[.agg ((aa b0)).toArray,.agg ((aa b0)).toArray]) (ds' :=(aa b0 ++ aa b0)) rfl p6 az rfl (e2 rfl rfl) (by kernel_rfl) rfl) fun I1 Z0 J0 F0=>?_
 have q1:=Az (cs:=(aa b0 ++ aa b0)) (xs:=(([b0,b0]:List Ta):List Ta)) J0 L (Ao (cs:=(aa b0)) (ds:=(aa b0)) (am b0.fN b0.fD) (Ao (cs:=(aa b0)) (ds:=[]) (am b0.fN b0.fD) (AA _ _)))
 exact d02 ((vS Z0 2),(aa b0 ++ aa b0),C4,F3) J0 (Tt F7 F0) ⟨q1,(Ar y01 F0)⟩
 intro z8
 refine RD.mf (α:=Value × (List Value)) (fun ⟨B4,E3⟩=>[(3,k0),(4,j0),(5,g0),(6,p0),(29,I0),(30,vI ((G0.length:Nat):Int)),(31,vI ((C0:Nat):Int)),(9,vP q0),(37,k0),(43,j0),(45,g0),(38,.agg ((aa b0)).toArray),(42,B4),(47,.agg ((aa b0)).toArray)]) (fun ⟨B4,E3⟩=>[rr w 34 Ta B4 (([b0]:List Ta).length) E3,.cells q0 (aa b0) 34,rr w 24 (List Tb) p0 t0.length v0,rr w 34 Ta g0 u0.length x0,rr w 34 Ta j0 s0.length y0,rr w 34 Ta k0 z0.length A0]) (fun ⟨B4,E3⟩ W05=>Cells W05 (bl [rr w 34 Ta B4 (([b0]:List Ta).length) E3,.cells q0 (aa b0) 34,rr w 24 (List Tb) p0 t0.length v0,rr w 34 Ta g0 u0.length x0,rr w 34 Ta j0 s0.length y0,rr w 34 Ta k0 z0.length A0] ++ L) E3 (([b0]:List Ta):List Ta)) D0 9 1395 ?_ ?_
 rintro ⟨B4,E3⟩ W05 P8 c03 X03
 try dsimp only
 refine AW [2,9] (rk c0) ⟨?_,?_,trivial⟩
 refine Bv (m' :=1399) (sk c0) rfl .plain rfl (AB (α:=Ta) (xs:=([b0]:List Ta)) (vs:=[.agg ((aa b0)).toArray]) (ds' :=(aa b0)) rfl P8 az rfl (e1 rfl) (by kernel_rfl) rfl) fun E1 k1 H0 M0=>?_
 have g1:=Az (cs:=(aa b0)) (xs:=(([b0]:List Ta):List Ta)) H0 L (Ao (cs:=(aa b0)) (ds:=[]) (am b0.fN b0.fD) (AA _ _))
 obtain ⟨P07,I00⟩:=AD H0 (.a1 .d0)
 exact s8 (B4,E3,(vS k1 1),(aa b0)) P07 (Tt c03 (Tt M0 I00)) ⟨(Ar X03 (Tt M0 I00)),(Ar g1 I00)⟩
 refine AU (m' :=1907) (sk c0) rfl .plain rfl (Au rfl (P8.memA .t1))<|K6 (B4,E3) P8 c03 X03
 intro A8
 refine RD.mf (α:=Value × (List Value)) (fun ⟨A4,D3⟩=>[(3,k0),(4,j0),(5,g0),(6,p0),(29,I0),(30,vI ((G0.length:Nat):Int)),(31,vI ((C0:Nat):Int)),(9,vP q0),(37,k0),(43,j0),(45,g0),(39,A4),(41,.agg ((aa b0)).toArray),(47,.agg ((aa b0)).toArray)]) (fun ⟨A4,D3⟩=>[rr w 34 Ta A4 (([b0]:List Ta).length) D3,.cells q0 (aa b0) 34,rr w 24 (List Tb) p0 t0.length v0,rr w 34 Ta g0 u0.length x0,rr w 34 Ta j0 s0.length y0,rr w 34 Ta k0 z0.length A0]) (fun ⟨A4,D3⟩ V05=>Cells V05 (bl [rr w 34 Ta A4 (([b0]:List Ta).length) D3,.cells q0 (aa b0) 34,rr w 24 (List Tb) p0 t0.length v0,rr w 34 Ta g0 u0.length x0,rr w 34 Ta j0 s0.length y0,rr w 34 Ta k0 z0.length A0] ++ L) D3 (([b0]:List Ta):List Ta)) D0 9 1367 ?_ ?_
 rintro ⟨A4,D3⟩ V05 k6 E7 x01
 try dsimp only
 refine AW [3,5,9] (rk c0) ⟨?_,?_,?_,trivial⟩
 have U0:=Tt b1 (Tt p1 (Tt s1 (Tt u1 E7)))
 have j1:=Ar B1 U0
 refine Bs (m' :=1375) (sk c0) rfl rfl .plain rfl (AR (α:=Ta) (ys:=([b0]:List Ta)) D1 k6 (fun _ _=>.t5) az rfl rfl j1 (Bd (α:=Ta) k6 .hd x01)) fun Y0 F1 ⟨W0,R0,P0,X0⟩=>?_
 obtain ⟨Q07,y03⟩:=AD R0 .d1
 exact t8 (Y0,W0) Q07 (Tt E7 (Tt P0 y03)) (Ar X0 y03)
 refine Bv (m' :=1399) (sk c0) rfl .plain rfl (AB (α:=Ta) (xs:=([b0]:List Ta)) (vs:=[.agg ((aa b0)).toArray]) (ds' :=(aa b0)) rfl k6 az rfl (e1 rfl) (by kernel_rfl) rfl) fun C1 V0 B0 E0=>?_
 have Q0:=Az (cs:=(aa b0)) (xs:=(([b0]:List Ta):List Ta)) B0 L (Ao (cs:=(aa b0)) (ds:=[]) (am b0.fN b0.fD) (AA _ _))
 exact s8 ((vS V0 1),(aa b0),A4,D3) B0 (Tt E7 E0) ⟨Q0,(Ar x01 E0)⟩
 refine AU (m' :=1879) (sk c0) rfl .plain rfl (Au rfl (k6.memA .t1))<|M6 (A4,D3) k6 E7 x01
 intro B8
 refine RD.mf (α:=Value × (List Value)) (fun ⟨z4,C3⟩=>[(3,k0),(4,j0),(5,g0),(6,p0),(29,I0),(30,vI ((G0.length:Nat):Int)),(31,vI ((C0:Nat):Int)),(9,vP q0),(43,j0),(45,g0),(40,z4),(47,.agg ((aa b0)).toArray)]) (fun ⟨z4,C3⟩=>[.cells q0 (aa b0) 34,rr w 24 (List Tb) p0 t0.length v0,rr w 34 Ta g0 u0.length x0,rr w 34 Ta j0 s0.length y0,rr w 34 Ta z4 K0.length C3]) (fun ⟨z4,C3⟩ U05=>Cells U05 (bl [.cells q0 (aa b0) 34,rr w 24 (List Tb) p0 t0.length v0,rr w 34 Ta g0 u0.length x0,rr w 34 Ta j0 s0.length y0,rr w 34 Ta z4 K0.length C3] ++ L) C3 (K0:List Ta)) D0 9 1359 ?_ ?_
 rintro ⟨z4,C3⟩ U05 b7 b03 W03
 try dsimp only
 refine AW [4,9] (rk c0) ⟨?_,?_,trivial⟩
 refine AU (m' :=1375) (sk c0) rfl .plain rfl (Au rfl (b7.memA .hd))<|t8 (z4,C3) b7 b03 W03
 refine AU (m' :=1871) (sk c0) rfl .plain rfl (Au rfl (b7.memA .hd))<|q8 (z4,C3) b7 b03 W03
 intro p02
 refine RD.mf (α:=Value × (List Value)) (fun ⟨y4,B3⟩=>[(3,k0),(4,j0),(5,g0),(6,p0),(29,I0),(30,vI ((G0.length:Nat):Int)),(31,vI ((C0:Nat):Int)),(9,vP q0),(37,k0),(43,j0),(45,g0),(38,.agg ((aa b0)).toArray),(42,y4),(46,.agg ((aa b0)).toArray)]) (fun ⟨y4,B3⟩=>[rr w 34 Ta y4 (([b0]:List Ta).length) B3,.cells q0 (aa b0) 34,rr w 24 (List Tb) p0 t0.length v0,rr w 34 Ta g0 u0.length x0,rr w 34 Ta j0 s0.length y0,rr w 34 Ta k0 z0.length A0]) (fun ⟨y4,B3⟩ R05=>Cells R05 (bl [rr w 34 Ta y4 (([b0]:List Ta).length) B3,.cells q0 (aa b0) 34,rr w 24 (List Tb) p0 t0.length v0,rr w 34 Ta g0 u0.length x0,rr w 34 Ta j0 s0.length y0,rr w 34 Ta k0 z0.length A0] ++ L) B3 (([b0]:List Ta):List Ta)) D0 9 883 ?_ ?_
 rintro ⟨y4,B3⟩ R05 M8 Z02 V03
 try dsimp only
 refine AW [2,10] (rk c0) ⟨?_,?_,trivial⟩
 refine Bv (m' :=887) (sk c0) rfl .plain rfl (AB (α:=Ta) (xs:=([b0]:List Ta)) (vs:=[.agg ((aa b0)).toArray]) (ds' :=(aa b0)) rfl M8 az rfl (e1 rfl) (by kernel_rfl) rfl) fun E1 k1 H0 M0=>?_
 have g1:=Az (cs:=(aa b0)) (xs:=(([b0]:List Ta):List Ta)) H0 L (Ao (cs:=(aa b0)) (ds:=[]) (am b0.fN b0.fD) (AA _ _))
 obtain ⟨R07,J00⟩:=AD H0 (.a1 .d0)
 exact v8 (y4,B3,(vS k1 1),(aa b0)) R07 (Tt Z02 (Tt M0 J00)) ⟨(Ar V03 (Tt M0 J00)),(Ar g1 J00)⟩
 refine AU (m' :=1907) (sk c0) rfl .plain rfl (Au rfl (M8.memA .t1))<|K6 (y4,B3) M8 Z02 V03
 intro C8
 refine RD.mf (α:=Value × (List Value)) (fun ⟨x4,A3⟩=>[(3,k0),(4,j0),(5,g0),(6,p0),(29,I0),(30,vI ((G0.length:Nat):Int)),(31,vI ((C0:Nat):Int)),(9,vP q0),(37,k0),(43,j0),(45,g0),(39,x4),(41,.agg ((aa b0)).toArray),(46,.agg ((aa b0)).toArray)]) (fun ⟨x4,A3⟩=>[rr w 34 Ta x4 (([b0]:List Ta).length) A3,.cells q0 (aa b0) 34,rr w 24 (List Tb) p0 t0.length v0,rr w 34 Ta g0 u0.length x0,rr w 34 Ta j0 s0.length y0,rr w 34 Ta k0 z0.length A0]) (fun ⟨x4,A3⟩ Q05=>Cells Q05 (bl [rr w 34 Ta x4 (([b0]:List Ta).length) A3,.cells q0 (aa b0) 34,rr w 24 (List Tb) p0 t0.length v0,rr w 34 Ta g0 u0.length x0,rr w 34 Ta j0 s0.length y0,rr w 34 Ta k0 z0.length A0] ++ L) A3 (([b0]:List Ta):List Ta)) D0 9 855 ?_ ?_
 rintro ⟨x4,A3⟩ Q05 j6 D7 v01
 try dsimp only
 refine AW [3,5,10] (rk c0) ⟨?_,?_,?_,trivial⟩
 have U0:=Tt b1 (Tt p1 (Tt s1 (Tt u1 D7)))
 have j1:=Ar B1 U0
 refine Bs (m' :=863) (sk c0) rfl rfl .plain rfl (AR (α:=Ta) (ys:=([b0]:List Ta)) D1 j6 (fun _ _=>.t5) az rfl rfl j1 (Bd (α:=Ta) j6 .hd v01)) fun Y0 F1 ⟨W0,R0,P0,X0⟩=>?_
 obtain ⟨U07,z03⟩:=AD R0 .d1
 exact x8 (Y0,W0) U07 (Tt D7 (Tt P0 z03)) (Ar X0 z03)
 refine Bv (m' :=887) (sk c0) rfl .plain rfl (AB (α:=Ta) (xs:=([b0]:List Ta)) (vs:=[.agg ((aa b0)).toArray]) (ds' :=(aa b0)) rfl j6 az rfl (e1 rfl) (by kernel_rfl) rfl) fun C1 V0 B0 E0=>?_
 have Q0:=Az (cs:=(aa b0)) (xs:=(([b0]:List Ta):List Ta)) B0 L (Ao (cs:=(aa b0)) (ds:=[]) (am b0.fN b0.fD) (AA _ _))
 exact v8 ((vS V0 1),(aa b0),x4,A3) B0 (Tt D7 E0) ⟨Q0,(Ar v01 E0)⟩
 refine AU (m' :=1879) (sk c0) rfl .plain rfl (Au rfl (j6.memA .t1))<|M6 (x4,A3) j6 D7 v01
 intro D8
 refine RD.mf (α:=Value × (List Value)) (fun ⟨v4,z3⟩=>[(3,k0),(4,j0),(5,g0),(6,p0),(29,I0),(30,vI ((G0.length:Nat):Int)),(31,vI ((C0:Nat):Int)),(9,vP q0),(43,j0),(45,g0),(40,v4),(46,.agg ((aa b0)).toArray)]) (fun ⟨v4,z3⟩=>[.cells q0 (aa b0) 34,rr w 24 (List Tb) p0 t0.length v0,rr w 34 Ta g0 u0.length x0,rr w 34 Ta j0 s0.length y0,rr w 34 Ta v4 K0.length z3]) (fun ⟨v4,z3⟩ P05=>Cells P05 (bl [.cells q0 (aa b0) 34,rr w 24 (List Tb) p0 t0.length v0,rr w 34 Ta g0 u0.length x0,rr w 34 Ta j0 s0.length y0,rr w 34 Ta v4 K0.length z3] ++ L) z3 (K0:List Ta)) D0 9 847 ?_ ?_
 rintro ⟨v4,z3⟩ P05 Z6 Y02 U03
 try dsimp only
 refine AW [4,10] (rk c0) ⟨?_,?_,trivial⟩
 refine AU (m' :=863) (sk c0) rfl .plain rfl (Au rfl (Z6.memA .hd))<|x8 (v4,z3) Z6 Y02 U03
 refine AU (m' :=1871) (sk c0) rfl .plain rfl (Au rfl (Z6.memA .hd))<|q8 (v4,z3) Z6 Y02 U03
 intro q02
 refine RD.mf (α:=Value × (List Value) × Value × (List Value)) (fun ⟨V1,R1,U2,k2⟩=>[(3,k0),(4,j0),(5,g0),(6,p0),(29,I0),(30,vI ((G0.length:Nat):Int)),(31,vI ((C0:Nat):Int)),(9,vP q0),(37,k0),(43,j0),(45,g0),(39,U2),(42,V1)]) (fun ⟨V1,R1,U2,k2⟩=>[rr w 34 Ta V1 (([b0]:List Ta).length) R1,rr w 34 Ta U2 (([b0]:List Ta).length) k2,.cells q0 (aa b0) 34,rr w 24 (List Tb) p0 t0.length v0,rr w 34 Ta g0 u0.length x0,rr w 34 Ta j0 s0.length y0,rr w 34 Ta k0 z0.length A0]) (fun ⟨V1,R1,U2,k2⟩ P01=>Cells P01 (bl [rr w 34 Ta V1 (([b0]:List Ta).length) R1,rr w 34 Ta U2 (([b0]:List Ta).length) k2,.cells q0 (aa b0) 34,rr w 24 (List Tb) p0 t0.length v0,rr w 34 Ta g0 u0.length x0,rr w 34 Ta j0 s0.length y0,rr w 34 Ta k0 z0.length A0] ++ L) R1 (([b0]:List Ta):List Ta)/\Cells P01 (bl [rr w 34 Ta V1 (([b0]:List Ta).length) R1,rr w 34 Ta U2 (([b0]:List Ta).length) k2,.cells q0 (aa b0) 34,rr w 24 (List Tb) p0 t0.length v0,rr w 34 Ta g0 u0.length x0,rr w 34 Ta j0 s0.length y0,rr w 34 Ta k0 z0.length A0] ++ L) k2 (([b0]:List Ta):List Ta)) D0 9 375 ?_ ?_
 rintro ⟨V1,R1,U2,k2⟩ P01 H5 C7 ⟨t01,u01⟩
 try dsimp only
 refine AW [3,9,10] (rk c0) ⟨?_,?_,?_,trivial⟩
 have U0:=Tt b1 (Tt p1 (Tt s1 (Tt u1 C7)))
 have j1:=Ar B1 U0
 refine Bs (m' :=383) (sk c0) rfl rfl .plain rfl (AR (α:=Ta) (ys:=([b0]:List Ta)) D1 H5 (fun _ _=>.t6) az rfl rfl j1 (Bd (α:=Ta) H5 .t1 u01)) fun Y0 F1 ⟨W0,R0,P0,X0⟩=>?_
 obtain ⟨V07,K00⟩:=AD R0 (.a0 .d1)
 exact g02 (V1,R1,Y0,W0) V07 (Tt C7 (Tt P0 K00)) ⟨(Ar t01 (Tt P0 K00)),(Ar X0 K00)⟩
 refine AU (m' :=887) (sk c0) rfl .plain rfl (Au rfl (H5.memA .t2))<|v8 (V1,R1,U2,k2) H5 C7 ⟨t01,u01⟩
 refine AU (m' :=1399) (sk c0) rfl .plain rfl (Au rfl (H5.memA .t2))<|s8 (V1,R1,U2,k2) H5 C7 ⟨t01,u01⟩
 intro s02
 refine RD.mf (α:=Value × (List Value)) (fun ⟨R2,j2⟩=>[(3,k0),(4,j0),(5,g0),(6,p0),(29,I0),(30,vI ((G0.length:Nat):Int)),(31,vI ((C0:Nat):Int)),(9,vP q0),(43,j0),(45,g0),(40,R2),(41,.agg ((aa b0)).toArray)]) (fun ⟨R2,j2⟩=>[.cells q0 (aa b0) 34,rr w 24 (List Tb) p0 t0.length v0,rr w 34 Ta g0 u0.length x0,rr w 34 Ta j0 s0.length y0,rr w 34 Ta R2 K0.length j2]) (fun ⟨R2,j2⟩ M05=>Cells M05 (bl [.cells q0 (aa b0) 34,rr w 24 (List Tb) p0 t0.length v0,rr w 34 Ta g0 u0.length x0,rr w 34 Ta j0 s0.length y0,rr w 34 Ta R2 K0.length j2] ++ L) j2 (K0:List Ta)) D0 9 351 ?_ ?_
 rintro ⟨R2,j2⟩ M05 g6 V9 s01
 try dsimp only
 refine AW [5,9,10] (rk c0) ⟨?_,?_,?_,trivial⟩
 refine Bv (m' :=383) (sk c0) rfl .plain rfl (AB (α:=Ta) (xs:=([b0]:List Ta)) (vs:=[.agg ((aa b0)).toArray]) (ds' :=(aa b0)) rfl g6 az rfl (e1 rfl) (by kernel_rfl) rfl) fun C1 V0 B0 E0=>?_
 have Q0:=Az (cs:=(aa b0)) (xs:=(([b0]:List Ta):List Ta)) B0 L (Ao (cs:=(aa b0)) (ds:=[]) (am b0.fN b0.fD) (AA _ _))
 exact g02 ((vS V0 1),(aa b0),R2,j2) B0 (Tt V9 E0) ⟨Q0,(Ar s01 E0)⟩
 refine AU (m' :=863) (sk c0) rfl .plain rfl (Au rfl (g6.memA .hd))<|x8 (R2,j2) g6 V9 s01
 refine AU (m' :=1375) (sk c0) rfl .plain rfl (Au rfl (g6.memA .hd))<|t8 (R2,j2) g6 V9 s01
 intro t02
 refine RD.mf (α:=Value × (List Value)) (fun ⟨u4,y3⟩=>[(3,k0),(4,j0),(5,g0),(6,p0),(29,I0),(30,vI ((G0.length:Nat):Int)),(31,vI ((C0:Nat):Int)),(9,vP q0),(37,k0),(43,j0),(45,g0),(48,u4)]) (fun ⟨u4,y3⟩=>[rr w 34 Ta u4 (([b0,b0]:List Ta).length) y3,.cells q0 (aa b0) 34,rr w 24 (List Tb) p0 t0.length v0,rr w 34 Ta g0 u0.length x0,rr w 34 Ta j0 s0.length y0,rr w 34 Ta k0 z0.length A0]) (fun ⟨u4,y3⟩ K05=>Cells K05 (bl [rr w 34 Ta u4 (([b0,b0]:List Ta).length) y3,.cells q0 (aa b0) 34,rr w 24 (List Tb) p0 t0.length v0,rr w 34 Ta g0 u0.length x0,rr w 34 Ta j0 s0.length y0,rr w 34 Ta k0 z0.length A0] ++ L) y3 (([b0,b0]:List Ta):List Ta)) D0 10 3905 ?_ ?_
 rintro ⟨u4,y3⟩ K05 Y6 X02 R03
 try dsimp only
 refine AW [1,4] (rk c0) ⟨?_,?_,trivial⟩
 refine AU (m' :=3907) (sk c0) rfl .plain rfl (Au rfl (Y6.memA .t1))<|k02 (u4,y3) Y6 X02 R03
 refine AU (m' :=3921) (sk c0) rfl .plain rfl (Au rfl (Y6.memA .t1))<|j02 (u4,y3) Y6 X02 R03
 intro V06
 refine RD.mo (α:=Unit) (fun ()=>[(3,k0),(4,j0),(5,g0),(6,p0),(29,I0),(30,vI ((G0.length:Nat):Int)),(31,vI ((C0:Nat):Int)),(9,vP q0),(37,k0),(43,j0),(45,g0),(41,.agg ((aa b0)).toArray),(46,.agg ((aa b0)).toArray),(47,.agg ((aa b0)).toArray)]) (fun ()=>[.cells q0 (aa b0) 34,rr w 24 (List Tb) p0 t0.length v0,rr w 34 Ta g0 u0.length x0,rr w 34 Ta j0 s0.length y0,rr w 34 Ta k0 z0.length A0]) D0 10 1873 ?_ ?_
 rintro ⟨⟩ U0c X6 U9
 try dsimp only
 refine AW [1,5,11] (rk c0) ⟨?_,?_,?_,trivial⟩
 refine AU (m' :=1875) (sk c0) rfl .plain rfl (Au rfl (X6.memA .hd))<|P6 () X6 U9
 refine Bv (m' :=1905) (sk c0) rfl .plain rfl (AB (α:=Ta) (xs:=([b0]:List Ta)) (vs:=[.agg ((aa b0)).toArray]) (ds' :=(aa b0)) rfl X6 az rfl (e1 rfl) (by kernel_rfl) rfl) fun C1 V0 B0 E0=>?_
 have Q0:=Az (cs:=(aa b0)) (xs:=(([b0]:List Ta):List Ta)) B0 L (Ao (cs:=(aa b0)) (ds:=[]) (am b0.fN b0.fD) (AA _ _))
 exact y8 ((vS V0 1),(aa b0)) B0 (Tt U9 E0) Q0
 refine Bv (m' :=3921) (sk c0) rfl .plain rfl (AB (α:=Ta) (xs:=([b0,b0]:List Ta)) (vs:=[.agg ((aa b0)).toArray,.agg ((aa b0)).toArray]) (ds' :=(aa b0 ++ aa b0)) rfl X6 az rfl (e2 rfl rfl) (by kernel_rfl) rfl) fun I1 Z0 J0 F0=>?_
 have q1:=Az (cs:=(aa b0 ++ aa b0)) (xs:=(([b0,b0]:List Ta):List Ta)) J0 L (Ao (cs:=(aa b0)) (ds:=(aa b0)) (am b0.fN b0.fD) (Ao (cs:=(aa b0)) (ds:=[]) (am b0.fN b0.fD) (AA _ _)))
 exact j02 ((vS Z0 2),(aa b0 ++ aa b0)) J0 (Tt U9 F0) q1
 intro E8
 refine RD.mo (α:=Unit) (fun ()=>[(3,k0),(4,j0),(5,g0),(6,p0),(29,I0),(30,vI ((G0.length:Nat):Int)),(31,vI ((C0:Nat):Int)),(9,vP q0),(37,k0),(43,j0),(45,g0),(38,.agg ((aa b0)).toArray),(46,.agg ((aa b0)).toArray),(47,.agg ((aa b0)).toArray)]) (fun ()=>[.cells q0 (aa b0) 34,rr w 24 (List Tb) p0 t0.length v0,rr w 34 Ta g0 u0.length x0,rr w 34 Ta j0 s0.length y0,rr w 34 Ta k0 z0.length A0]) D0 10 1859 ?_ ?_
 rintro ⟨⟩ R0c W6 R9
 try dsimp only
 refine AW [2,4,11] (rk c0) ⟨?_,?_,?_,trivial⟩
 refine Bv (m' :=1863) (sk c0) rfl .plain rfl (AB (α:=Ta) (xs:=([b0]:List Ta)) (vs:=[.agg ((aa b0)).toArray]) (ds' :=(aa b0)) rfl W6 az rfl (e1 rfl) (by kernel_rfl) rfl) fun E1 k1 H0 M0=>?_
 have g1:=Az (cs:=(aa b0)) (xs:=(([b0]:List Ta):List Ta)) H0 L (Ao (cs:=(aa b0)) (ds:=[]) (am b0.fN b0.fD) (AA _ _))
 exact z8 ((vS k1 1),(aa b0)) H0 (Tt R9 M0) g1
 refine AU (m' :=1875) (sk c0) rfl .plain rfl (Au rfl (W6.memA .hd))<|P6 () W6 R9
 refine Bv (m' :=3907) (sk c0) rfl .plain rfl (AB (α:=Ta) (xs:=([b0,b0]:List Ta)) (vs:=[.agg ((aa b0)).toArray,.agg ((aa b0)).toArray]) (ds' :=(aa b0 ++ aa b0)) rfl W6 az rfl (e2 rfl rfl) (by kernel_rfl) rfl) fun I1 Z0 J0 F0=>?_
 have q1:=Az (cs:=(aa b0 ++ aa b0)) (xs:=(([b0,b0]:List Ta):List Ta)) J0 L (Ao (cs:=(aa b0)) (ds:=(aa b0)) (am b0.fN b0.fD) (Ao (cs:=(aa b0)) (ds:=[]) (am b0.fN b0.fD) (AA _ _)))
 exact k02 ((vS Z0 2),(aa b0 ++ aa b0)) J0 (Tt R9 F0) q1
 intro F8
 refine RD.mf (α:=Value × (List Value)) (fun ⟨s4,x3⟩=>[(3,k0),(4,j0),(5,g0),(6,p0),(29,I0),(30,vI ((G0.length:Nat):Int)),(31,vI ((C0:Nat):Int)),(9,vP q0),(37,k0),(43,j0),(45,g0),(42,s4),(47,.agg ((aa b0)).toArray)]) (fun ⟨s4,x3⟩=>[rr w 34 Ta s4 (([b0]:List Ta).length) x3,.cells q0 (aa b0) 34,rr w 24 (List Tb) p0 t0.length v0,rr w 34 Ta g0 u0.length x0,rr w 34 Ta j0 s0.length y0,rr w 34 Ta k0 z0.length A0]) (fun ⟨s4,x3⟩ J05=>Cells J05 (bl [rr w 34 Ta s4 (([b0]:List Ta).length) x3,.cells q0 (aa b0) 34,rr w 24 (List Tb) p0 t0.length v0,rr w 34 Ta g0 u0.length x0,rr w 34 Ta j0 s0.length y0,rr w 34 Ta k0 z0.length A0] ++ L) x3 (([b0]:List Ta):List Ta)) D0 10 1393 ?_ ?_
 rintro ⟨s4,x3⟩ J05 V6 W02 Q03
 try dsimp only
 refine AW [1,9] (rk c0) ⟨?_,?_,trivial⟩
 refine AU (m' :=1395) (sk c0) rfl .plain rfl (Au rfl (V6.memA .t1))<|A8 (s4,x3) V6 W02 Q03
 refine AU (m' :=1905) (sk c0) rfl .plain rfl (Au rfl (V6.memA .t1))<|y8 (s4,x3) V6 W02 Q03
 intro u02
 refine RD.mo (α:=Unit) (fun ()=>[(3,k0),(4,j0),(5,g0),(6,p0),(29,I0),(30,vI ((G0.length:Nat):Int)),(31,vI ((C0:Nat):Int)),(9,vP q0),(37,k0),(43,j0),(45,g0),(38,.agg ((aa b0)).toArray),(41,.agg ((aa b0)).toArray),(47,.agg ((aa b0)).toArray)]) (fun ()=>[.cells q0 (aa b0) 34,rr w 24 (List Tb) p0 t0.length v0,rr w 34 Ta g0 u0.length x0,rr w 34 Ta j0 s0.length y0,rr w 34 Ta k0 z0.length A0]) D0 10 1363 ?_ ?_
 rintro ⟨⟩ Q0c U6 Q9
 try dsimp only
 refine AW [2,5,9] (rk c0) ⟨?_,?_,?_,trivial⟩
 refine Bv (m' :=1367) (sk c0) rfl .plain rfl (AB (α:=Ta) (xs:=([b0]:List Ta)) (vs:=[.agg ((aa b0)).toArray]) (ds' :=(aa b0)) rfl U6 az rfl (e1 rfl) (by kernel_rfl) rfl) fun E1 k1 H0 M0=>?_
 have g1:=Az (cs:=(aa b0)) (xs:=(([b0]:List Ta):List Ta)) H0 L (Ao (cs:=(aa b0)) (ds:=[]) (am b0.fN b0.fD) (AA _ _))
 exact B8 ((vS k1 1),(aa b0)) H0 (Tt Q9 M0) g1
 refine Bv (m' :=1395) (sk c0) rfl .plain rfl (AB (α:=Ta) (xs:=([b0]:List Ta)) (vs:=[.agg ((aa b0)).toArray]) (ds' :=(aa b0)) rfl U6 az rfl (e1 rfl) (by kernel_rfl) rfl) fun C1 V0 B0 E0=>?_
 have Q0:=Az (cs:=(aa b0)) (xs:=(([b0]:List Ta):List Ta)) B0 L (Ao (cs:=(aa b0)) (ds:=[]) (am b0.fN b0.fD) (AA _ _))
 exact A8 ((vS V0 1),(aa b0)) B0 (Tt Q9 E0) Q0
 refine AU (m' :=1875) (sk c0) rfl .plain rfl (Au rfl (U6.memA .hd))<|P6 () U6 Q9
 intro G8
 refine RD.mf (α:=Value × (List Value)) (fun ⟨q4,v3⟩=>[(3,k0),(4,j0),(5,g0),(6,p0),(29,I0),(30,vI ((G0.length:Nat):Int)),(31,vI ((C0:Nat):Int)),(9,vP q0),(37,k0),(43,j0),(45,g0),(39,q4),(47,.agg ((aa b0)).toArray)]) (fun ⟨q4,v3⟩=>[rr w 34 Ta q4 (([b0]:List Ta).length) v3,.cells q0 (aa b0) 34,rr w 24 (List Tb) p0 t0.length v0,rr w 34 Ta g0 u0.length x0,rr w 34 Ta j0 s0.length y0,rr w 34 Ta k0 z0.length A0]) (fun ⟨q4,v3⟩ I05=>Cells I05 (bl [rr w 34 Ta q4 (([b0]:List Ta).length) v3,.cells q0 (aa b0) 34,rr w 24 (List Tb) p0 t0.length v0,rr w 34 Ta g0 u0.length x0,rr w 34 Ta j0 s0.length y0,rr w 34 Ta k0 z0.length A0] ++ L) v3 (([b0]:List Ta):List Ta)) D0 10 1351 ?_ ?_
 rintro ⟨q4,v3⟩ I05 G5 B7 q01
 try dsimp only
 refine AW [3,4,9] (rk c0) ⟨?_,?_,?_,trivial⟩
 have U0:=Tt b1 (Tt p1 (Tt s1 (Tt u1 B7)))
 have j1:=Ar B1 U0
 refine Bs (m' :=1359) (sk c0) rfl rfl .plain rfl (AR (α:=Ta) (ys:=([b0]:List Ta)) D1 G5 (fun _ _=>.t5) az rfl rfl j1 (Bd (α:=Ta) G5 .hd q01)) fun Y0 F1 ⟨W0,R0,P0,X0⟩=>?_
 obtain ⟨W07,A03⟩:=AD R0 .d1
 exact p02 (Y0,W0) W07 (Tt B7 (Tt P0 A03)) (Ar X0 A03)
 refine AU (m' :=1367) (sk c0) rfl .plain rfl (Au rfl (G5.memA .t1))<|B8 (q4,v3) G5 B7 q01
 refine AU (m' :=1863) (sk c0) rfl .plain rfl (Au rfl (G5.memA .t1))<|z8 (q4,v3) G5 B7 q01
 intro v02
 refine RD.mf (α:=Value × (List Value)) (fun ⟨p4,u3⟩=>[(3,k0),(4,j0),(5,g0),(6,p0),(29,I0),(30,vI ((G0.length:Nat):Int)),(31,vI ((C0:Nat):Int)),(9,vP q0),(37,k0),(43,j0),(45,g0),(42,p4),(46,.agg ((aa b0)).toArray)]) (fun ⟨p4,u3⟩=>[rr w 34 Ta p4 (([b0]:List Ta).length) u3,.cells q0 (aa b0) 34,rr w 24 (List Tb) p0 t0.length v0,rr w 34 Ta g0 u0.length x0,rr w 34 Ta j0 s0.length y0,rr w 34 Ta k0 z0.length A0]) (fun ⟨p4,u3⟩ H05=>Cells H05 (bl [rr w 34 Ta p4 (([b0]:List Ta).length) u3,.cells q0 (aa b0) 34,rr w 24 (List Tb) p0 t0.length v0,rr w 34 Ta g0 u0.length x0,rr w 34 Ta j0 s0.length y0,rr w 34 Ta k0 z0.length A0] ++ L) u3 (([b0]:List Ta):List Ta)) D0 10 881 ?_ ?_
 rintro ⟨p4,u3⟩ H05 R6 V02 P03
 try dsimp only
 refine AW [1,10] (rk c0) ⟨?_,?_,trivial⟩
 refine AU (m' :=883) (sk c0) rfl .plain rfl (Au rfl (R6.memA .t1))<|C8 (p4,u3) R6 V02 P03
 refine AU (m' :=1905) (sk c0) rfl .plain rfl (Au rfl (R6.memA .t1))<|y8 (p4,u3) R6 V02 P03
 intro x02
 refine RD.mo (α:=Unit) (fun ()=>[(3,k0),(4,j0),(5,g0),(6,p0),(29,I0),(30,vI ((G0.length:Nat):Int)),(31,vI ((C0:Nat):Int)),(9,vP q0),(37,k0),(43,j0),(45,g0),(38,.agg ((aa b0)).toArray),(41,.agg ((aa b0)).toArray),(46,.agg ((aa b0)).toArray)]) (fun ()=>[.cells q0 (aa b0) 34,rr w 24 (List Tb) p0 t0.length v0,rr w 34 Ta g0 u0.length x0,rr w 34 Ta j0 s0.length y0,rr w 34 Ta k0 z0.length A0]) D0 10 851 ?_ ?_
 rintro ⟨⟩ P0c Q6 P9
 try dsimp only
 refine AW [2,5,10] (rk c0) ⟨?_,?_,?_,trivial⟩
 refine Bv (m' :=855) (sk c0) rfl .plain rfl (AB (α:=Ta) (xs:=([b0]:List Ta)) (vs:=[.agg ((aa b0)).toArray]) (ds' :=(aa b0)) rfl Q6 az rfl (e1 rfl) (by kernel_rfl) rfl) fun E1 k1 H0 M0=>?_
 have g1:=Az (cs:=(aa b0)) (xs:=(([b0]:List Ta):List Ta)) H0 L (Ao (cs:=(aa b0)) (ds:=[]) (am b0.fN b0.fD) (AA _ _))
 exact D8 ((vS k1 1),(aa b0)) H0 (Tt P9 M0) g1
 refine Bv (m' :=883) (sk c0) rfl .plain rfl (AB (α:=Ta) (xs:=([b0]:List Ta)) (vs:=[.agg ((aa b0)).toArray]) (ds' :=(aa b0)) rfl Q6 az rfl (e1 rfl) (by kernel_rfl) rfl) fun C1 V0 B0 E0=>?_
 have Q0:=Az (cs:=(aa b0)) (xs:=(([b0]:List Ta):List Ta)) B0 L (Ao (cs:=(aa b0)) (ds:=[]) (am b0.fN b0.fD) (AA _ _))
 exact C8 ((vS V0 1),(aa b0)) B0 (Tt P9 E0) Q0
 refine AU (m' :=1875) (sk c0) rfl .plain rfl (Au rfl (Q6.memA .hd))<|P6 () Q6 P9
 intro H8
 refine RD.mf (α:=Value × (List Value)) (fun ⟨k4,s3⟩=>[(3,k0),(4,j0),(5,g0),(6,p0),(29,I0),(30,vI ((G0.length:Nat):Int)),(31,vI ((C0:Nat):Int)),(9,vP q0),(37,k0),(43,j0),(45,g0),(39,k4),(46,.agg ((aa b0)).toArray)]) (fun ⟨k4,s3⟩=>[rr w 34 Ta k4 (([b0]:List Ta).length) s3,.cells q0 (aa b0) 34,rr w 24 (List Tb) p0 t0.length v0,rr w 34 Ta g0 u0.length x0,rr w 34 Ta j0 s0.length y0,rr w 34 Ta k0 z0.length A0]) (fun ⟨k4,s3⟩ G05=>Cells G05 (bl [rr w 34 Ta k4 (([b0]:List Ta).length) s3,.cells q0 (aa b0) 34,rr w 24 (List Tb) p0 t0.length v0,rr w 34 Ta g0 u0.length x0,rr w 34 Ta j0 s0.length y0,rr w 34 Ta k0 z0.length A0] ++ L) s3 (([b0]:List Ta):List Ta)) D0 10 839 ?_ ?_
 rintro ⟨k4,s3⟩ G05 F5 A7 p01
 try dsimp only
 refine AW [3,4,10] (rk c0) ⟨?_,?_,?_,trivial⟩
 have U0:=Tt b1 (Tt p1 (Tt s1 (Tt u1 A7)))
 have j1:=Ar B1 U0
 refine Bs (m' :=847) (sk c0) rfl rfl .plain rfl (AR (α:=Ta) (ys:=([b0]:List Ta)) D1 F5 (fun _ _=>.t5) az rfl rfl j1 (Bd (α:=Ta) F5 .hd p01)) fun Y0 F1 ⟨W0,R0,P0,X0⟩=>?_
 obtain ⟨X07,B03⟩:=AD R0 .d1
 exact q02 (Y0,W0) X07 (Tt A7 (Tt P0 B03)) (Ar X0 B03)
 refine AU (m' :=855) (sk c0) rfl .plain rfl (Au rfl (F5.memA .t1))<|D8 (k4,s3) F5 A7 p01
 refine AU (m' :=1863) (sk c0) rfl .plain rfl (Au rfl (F5.memA .t1))<|z8 (k4,s3) F5 A7 p01
 intro y02
 refine RD.mf (α:=Value × (List Value)) (fun ⟨Q2,g2⟩=>[(3,k0),(4,j0),(5,g0),(6,p0),(29,I0),(30,vI ((G0.length:Nat):Int)),(31,vI ((C0:Nat):Int)),(9,vP q0),(37,k0),(43,j0),(45,g0),(38,.agg ((aa b0)).toArray),(42,Q2)]) (fun ⟨Q2,g2⟩=>[rr w 34 Ta Q2 (([b0]:List Ta).length) g2,.cells q0 (aa b0) 34,rr w 24 (List Tb) p0 t0.length v0,rr w 34 Ta g0 u0.length x0,rr w 34 Ta j0 s0.length y0,rr w 34 Ta k0 z0.length A0]) (fun ⟨Q2,g2⟩ F05=>Cells F05 (bl [rr w 34 Ta Q2 (([b0]:List Ta).length) g2,.cells q0 (aa b0) 34,rr w 24 (List Tb) p0 t0.length v0,rr w 34 Ta g0 u0.length x0,rr w 34 Ta j0 s0.length y0,rr w 34 Ta k0 z0.length A0] ++ L) g2 (([b0]:List Ta):List Ta)) D0 10 371 ?_ ?_
 rintro ⟨Q2,g2⟩ F05 d6 M9 k01
 try dsimp only
 refine AW [2,9,10] (rk c0) ⟨?_,?_,?_,trivial⟩
 refine Bv (m' :=375) (sk c0) rfl .plain rfl (AB (α:=Ta) (xs:=([b0]:List Ta)) (vs:=[.agg ((aa b0)).toArray]) (ds' :=(aa b0)) rfl d6 az rfl (e1 rfl) (by kernel_rfl) rfl) fun E1 k1 H0 M0=>?_
 have g1:=Az (cs:=(aa b0)) (xs:=(([b0]:List Ta):List Ta)) H0 L (Ao (cs:=(aa b0)) (ds:=[]) (am b0.fN b0.fD) (AA _ _))
 obtain ⟨Y07,M00⟩:=AD H0 (.a1 .d0)
 exact s02 (Q2,g2,(vS k1 1),(aa b0)) Y07 (Tt M9 (Tt M0 M00)) ⟨(Ar k01 (Tt M0 M00)),(Ar g1 M00)⟩
 refine AU (m' :=883) (sk c0) rfl .plain rfl (Au rfl (d6.memA .t1))<|C8 (Q2,g2) d6 M9 k01
 refine AU (m' :=1395) (sk c0) rfl .plain rfl (Au rfl (d6.memA .t1))<|A8 (Q2,g2) d6 M9 k01
 intro z02
 refine RD.mf (α:=Value × (List Value)) (fun ⟨P2,d2⟩=>[(3,k0),(4,j0),(5,g0),(6,p0),(29,I0),(30,vI ((G0.length:Nat):Int)),(31,vI ((C0:Nat):Int)),(9,vP q0),(37,k0),(43,j0),(45,g0),(39,P2),(41,.agg ((aa b0)).toArray)]) (fun ⟨P2,d2⟩=>[rr w 34 Ta P2 (([b0]:List Ta).length) d2,.cells q0 (aa b0) 34,rr w 24 (List Tb) p0 t0.length v0,rr w 34 Ta g0 u0.length x0,rr w 34 Ta j0 s0.length y0,rr w 34 Ta k0 z0.length A0]) (fun ⟨P2,d2⟩ E05=>Cells E05 (bl [rr w 34 Ta P2 (([b0]:List Ta).length) d2,.cells q0 (aa b0) 34,rr w 24 (List Tb) p0 t0.length v0,rr w 34 Ta g0 u0.length x0,rr w 34 Ta j0 s0.length y0,rr w 34 Ta k0 z0.length A0] ++ L) d2 (([b0]:List Ta):List Ta)) D0 10 343 ?_ ?_
 rintro ⟨P2,d2⟩ E05 q5 v6 W7
 try dsimp only
 refine AW [3,5,9,10] (rk c0) ⟨?_,?_,?_,?_,trivial⟩
 have U0:=Tt b1 (Tt p1 (Tt s1 (Tt u1 v6)))
 have j1:=Ar B1 U0
 refine Bs (m' :=351) (sk c0) rfl rfl .plain rfl (AR (α:=Ta) (ys:=([b0]:List Ta)) D1 q5 (fun _ _=>.t5) az rfl rfl j1 (Bd (α:=Ta) q5 .hd W7)) fun Y0 F1 ⟨W0,R0,P0,X0⟩=>?_
 obtain ⟨Z07,C03⟩:=AD R0 .d1
 exact t02 (Y0,W0) Z07 (Tt v6 (Tt P0 C03)) (Ar X0 C03)
 refine Bv (m' :=375) (sk c0) rfl .plain rfl (AB (α:=Ta) (xs:=([b0]:List Ta)) (vs:=[.agg ((aa b0)).toArray]) (ds' :=(aa b0)) rfl q5 az rfl (e1 rfl) (by kernel_rfl) rfl) fun C1 V0 B0 E0=>?_
 have Q0:=Az (cs:=(aa b0)) (xs:=(([b0]:List Ta):List Ta)) B0 L (Ao (cs:=(aa b0)) (ds:=[]) (am b0.fN b0.fD) (AA _ _))
 exact s02 ((vS V0 1),(aa b0),P2,d2) B0 (Tt v6 E0) ⟨Q0,(Ar W7 E0)⟩
 refine AU (m' :=855) (sk c0) rfl .plain rfl (Au rfl (q5.memA .t1))<|D8 (P2,d2) q5 v6 W7
 refine AU (m' :=1367) (sk c0) rfl .plain rfl (Au rfl (q5.memA .t1))<|B8 (P2,d2) q5 v6 W7
 intro A02
 refine RD.mf (α:=Value × (List Value)) (fun ⟨M2,c2⟩=>[(3,k0),(4,j0),(5,g0),(6,p0),(29,I0),(30,vI ((G0.length:Nat):Int)),(31,vI ((C0:Nat):Int)),(9,vP q0),(43,j0),(45,g0),(40,M2)]) (fun ⟨M2,c2⟩=>[.cells q0 (aa b0) 34,rr w 24 (List Tb) p0 t0.length v0,rr w 34 Ta g0 u0.length x0,rr w 34 Ta j0 s0.length y0,rr w 34 Ta M2 K0.length c2]) (fun ⟨M2,c2⟩ D05=>Cells D05 (bl [.cells q0 (aa b0) 34,rr w 24 (List Tb) p0 t0.length v0,rr w 34 Ta g0 u0.length x0,rr w 34 Ta j0 s0.length y0,rr w 34 Ta M2 K0.length c2] ++ L) c2 (K0:List Ta)) D0 10 335 ?_ ?_
 rintro ⟨M2,c2⟩ D05 E5 K9 j01
 try dsimp only
 refine AW [4,9,10] (rk c0) ⟨?_,?_,?_,trivial⟩
 refine AU (m' :=351) (sk c0) rfl .plain rfl (Au rfl (E5.memA .hd))<|t02 (M2,c2) E5 K9 j01
 refine AU (m' :=847) (sk c0) rfl .plain rfl (Au rfl (E5.memA .hd))<|q02 (M2,c2) E5 K9 j01
 refine AU (m' :=1359) (sk c0) rfl .plain rfl (Au rfl (E5.memA .hd))<|p02 (M2,c2) E5 K9 j01
 intro W06
 refine RD.mo (α:=Unit) (fun ()=>[(3,k0),(4,j0),(5,g0),(6,p0),(29,I0),(30,vI ((G0.length:Nat):Int)),(31,vI ((C0:Nat):Int)),(9,vP q0),(37,k0),(43,j0),(45,g0),(46,.agg ((aa b0)).toArray),(47,.agg ((aa b0)).toArray)]) (fun ()=>[.cells q0 (aa b0) 34,rr w 24 (List Tb) p0 t0.length v0,rr w 34 Ta g0 u0.length x0,rr w 34 Ta j0 s0.length y0,rr w 34 Ta k0 z0.length A0]) D0 11 1857 ?_ ?_
 rintro ⟨⟩ M0c c6 J9
 try dsimp only
 refine AW [1,4,11] (rk c0) ⟨?_,?_,?_,trivial⟩
 refine AU (m' :=1859) (sk c0) rfl .plain rfl (Au rfl (c6.memA .hd))<|F8 () c6 J9
 refine AU (m' :=1873) (sk c0) rfl .plain rfl (Au rfl (c6.memA .hd))<|E8 () c6 J9
 refine Bv (m' :=3905) (sk c0) rfl .plain rfl (AB (α:=Ta) (xs:=([b0,b0]:List Ta)) (vs:=[.agg ((aa b0)).toArray,.agg ((aa b0)).toArray]) (ds' :=(aa b0 ++ aa b0)) rfl c6 az rfl (e2 rfl rfl) (by kernel_rfl) rfl) fun I1 Z0 J0 F0=>V06 ((vS Z0 2),(aa b0 ++ aa b0)) J0 (Tt J9 F0) (Az (cs:=(aa b0 ++ aa b0)) (xs:=(([b0,b0]:List Ta):List Ta)) J0 L (Ao (cs:=(aa b0)) (ds:=(aa b0)) (am b0.fN b0.fD) (Ao (cs:=(aa b0)) (ds:=[]) (am b0.fN b0.fD) (AA _ _))))
 intro B02
 refine RD.mo (α:=Unit) (fun ()=>[(3,k0),(4,j0),(5,g0),(6,p0),(29,I0),(30,vI ((G0.length:Nat):Int)),(31,vI ((C0:Nat):Int)),(9,vP q0),(37,k0),(43,j0),(45,g0),(41,.agg ((aa b0)).toArray),(47,.agg ((aa b0)).toArray)]) (fun ()=>[.cells q0 (aa b0) 34,rr w 24 (List Tb) p0 t0.length v0,rr w 34 Ta g0 u0.length x0,rr w 34 Ta j0 s0.length y0,rr w 34 Ta k0 z0.length A0]) D0 11 1361 ?_ ?_
 rintro ⟨⟩ K0c b6 I9
 try dsimp only
 refine AW [1,5,9] (rk c0) ⟨?_,?_,?_,trivial⟩
 refine AU (m' :=1363) (sk c0) rfl .plain rfl (Au rfl (b6.memA .hd))<|G8 () b6 I9
 refine Bv (m' :=1393) (sk c0) rfl .plain rfl (AB (α:=Ta) (xs:=([b0]:List Ta)) (vs:=[.agg ((aa b0)).toArray]) (ds' :=(aa b0)) rfl b6 az rfl (e1 rfl) (by kernel_rfl) rfl) fun C1 V0 B0 E0=>?_
 have Q0:=Az (cs:=(aa b0)) (xs:=(([b0]:List Ta):List Ta)) B0 L (Ao (cs:=(aa b0)) (ds:=[]) (am b0.fN b0.fD) (AA _ _))
 exact u02 ((vS V0 1),(aa b0)) B0 (Tt I9 E0) Q0
 refine AU (m' :=1873) (sk c0) rfl .plain rfl (Au rfl (b6.memA .hd))<|E8 () b6 I9
 intro C02
 refine RD.mo (α:=Unit) (fun ()=>[(3,k0),(4,j0),(5,g0),(6,p0),(29,I0),(30,vI ((G0.length:Nat):Int)),(31,vI ((C0:Nat):Int)),(9,vP q0),(37,k0),(43,j0),(45,g0),(38,.agg ((aa b0)).toArray),(47,.agg ((aa b0)).toArray)]) (fun ()=>[.cells q0 (aa b0) 34,rr w 24 (List Tb) p0 t0.length v0,rr w 34 Ta g0 u0.length x0,rr w 34 Ta j0 s0.length y0,rr w 34 Ta k0 z0.length A0]) D0 11 1347 ?_ ?_
 rintro ⟨⟩ J0c Z5 H9
 try dsimp only
 refine AW [2,4,9] (rk c0) ⟨?_,?_,?_,trivial⟩
 refine Bv (m' :=1351) (sk c0) rfl .plain rfl (AB (α:=Ta) (xs:=([b0]:List Ta)) (vs:=[.agg ((aa b0)).toArray]) (ds' :=(aa b0)) rfl Z5 az rfl (e1 rfl) (by kernel_rfl) rfl) fun E1 k1 H0 M0=>?_
 have g1:=Az (cs:=(aa b0)) (xs:=(([b0]:List Ta):List Ta)) H0 L (Ao (cs:=(aa b0)) (ds:=[]) (am b0.fN b0.fD) (AA _ _))
 exact v02 ((vS k1 1),(aa b0)) H0 (Tt H9 M0) g1
 refine AU (m' :=1363) (sk c0) rfl .plain rfl (Au rfl (Z5.memA .hd))<|G8 () Z5 H9
 refine AU (m' :=1859) (sk c0) rfl .plain rfl (Au rfl (Z5.memA .hd))<|F8 () Z5 H9
 intro D02
 refine RD.mo (α:=Unit) (fun ()=>[(3,k0),(4,j0),(5,g0),(6,p0),(29,I0),(30,vI ((G0.length:Nat):Int)),(31,vI ((C0:Nat):Int)),(9,vP q0),(37,k0),(43,j0),(45,g0),(41,.agg ((aa b0)).toArray),(46,.agg ((aa b0)).toArray)]) (fun ()=>[.cells q0 (aa b0) 34,rr w 24 (List Tb) p0 t0.length v0,rr w 34 Ta g0 u0.length x0,rr w 34 Ta j0 s0.length y0,rr w 34 Ta k0 z0.length A0]) D0 11 849 ?_ ?_
 rintro ⟨⟩ I0c Y5 G9
 try dsimp only
 refine AW [1,5,10] (rk c0) ⟨?_,?_,?_,trivial⟩
 refine AU (m' :=851) (sk c0) rfl .plain rfl (Au rfl (Y5.memA .hd))<|H8 () Y5 G9
 refine Bv (m' :=881) (sk c0) rfl .plain rfl (AB (α:=Ta) (xs:=([b0]:List Ta)) (vs:=[.agg ((aa b0)).toArray]) (ds' :=(aa b0)) rfl Y5 az rfl (e1 rfl) (by kernel_rfl) rfl) fun C1 V0 B0 E0=>?_
 have Q0:=Az (cs:=(aa b0)) (xs:=(([b0]:List Ta):List Ta)) B0 L (Ao (cs:=(aa b0)) (ds:=[]) (am b0.fN b0.fD) (AA _ _))
 exact x02 ((vS V0 1),(aa b0)) B0 (Tt G9 E0) Q0
 refine AU (m' :=1873) (sk c0) rfl .plain rfl (Au rfl (Y5.memA .hd))<|E8 () Y5 G9
 intro E02
 refine RD.mo (α:=Unit) (fun ()=>[(3,k0),(4,j0),(5,g0),(6,p0),(29,I0),(30,vI ((G0.length:Nat):Int)),(31,vI ((C0:Nat):Int)),(9,vP q0),(37,k0),(43,j0),(45,g0),(38,.agg ((aa b0)).toArray),(46,.agg ((aa b0)).toArray)]) (fun ()=>[.cells q0 (aa b0) 34,rr w 24 (List Tb) p0 t0.length v0,rr w 34 Ta g0 u0.length x0,rr w 34 Ta j0 s0.length y0,rr w 34 Ta k0 z0.length A0]) D0 11 835 ?_ ?_
 rintro ⟨⟩ H0c X5 F9
 try dsimp only
 refine AW [2,4,10] (rk c0) ⟨?_,?_,?_,trivial⟩
 refine Bv (m' :=839) (sk c0) rfl .plain rfl (AB (α:=Ta) (xs:=([b0]:List Ta)) (vs:=[.agg ((aa b0)).toArray]) (ds' :=(aa b0)) rfl X5 az rfl (e1 rfl) (by kernel_rfl) rfl) fun E1 k1 H0 M0=>?_
 have g1:=Az (cs:=(aa b0)) (xs:=(([b0]:List Ta):List Ta)) H0 L (Ao (cs:=(aa b0)) (ds:=[]) (am b0.fN b0.fD) (AA _ _))
 exact y02 ((vS k1 1),(aa b0)) H0 (Tt F9 M0) g1
 refine AU (m' :=851) (sk c0) rfl .plain rfl (Au rfl (X5.memA .hd))<|H8 () X5 F9
 refine AU (m' :=1859) (sk c0) rfl .plain rfl (Au rfl (X5.memA .hd))<|F8 () X5 F9
 intro F02
 refine RD.mf (α:=Value × (List Value)) (fun ⟨K2,b2⟩=>[(3,k0),(4,j0),(5,g0),(6,p0),(29,I0),(30,vI ((G0.length:Nat):Int)),(31,vI ((C0:Nat):Int)),(9,vP q0),(37,k0),(43,j0),(45,g0),(42,K2)]) (fun ⟨K2,b2⟩=>[rr w 34 Ta K2 (([b0]:List Ta).length) b2,.cells q0 (aa b0) 34,rr w 24 (List Tb) p0 t0.length v0,rr w 34 Ta g0 u0.length x0,rr w 34 Ta j0 s0.length y0,rr w 34 Ta k0 z0.length A0]) (fun ⟨K2,b2⟩ C05=>Cells C05 (bl [rr w 34 Ta K2 (([b0]:List Ta).length) b2,.cells q0 (aa b0) 34,rr w 24 (List Tb) p0 t0.length v0,rr w 34 Ta g0 u0.length x0,rr w 34 Ta j0 s0.length y0,rr w 34 Ta k0 z0.length A0] ++ L) b2 (([b0]:List Ta):List Ta)) D0 11 369 ?_ ?_
 rintro ⟨K2,b2⟩ C05 D5 E9 g01
 try dsimp only
 refine AW [1,9,10] (rk c0) ⟨?_,?_,?_,trivial⟩
 refine AU (m' :=371) (sk c0) rfl .plain rfl (Au rfl (D5.memA .t1))<|z02 (K2,b2) D5 E9 g01
 refine AU (m' :=881) (sk c0) rfl .plain rfl (Au rfl (D5.memA .t1))<|x02 (K2,b2) D5 E9 g01
 refine AU (m' :=1393) (sk c0) rfl .plain rfl (Au rfl (D5.memA .t1))<|u02 (K2,b2) D5 E9 g01
 intro X06
 refine RD.mo (α:=Unit) (fun ()=>[(3,k0),(4,j0),(5,g0),(6,p0),(29,I0),(30,vI ((G0.length:Nat):Int)),(31,vI ((C0:Nat):Int)),(9,vP q0),(37,k0),(43,j0),(45,g0),(38,.agg ((aa b0)).toArray),(41,.agg ((aa b0)).toArray)]) (fun ()=>[.cells q0 (aa b0) 34,rr w 24 (List Tb) p0 t0.length v0,rr w 34 Ta g0 u0.length x0,rr w 34 Ta j0 s0.length y0,rr w 34 Ta k0 z0.length A0]) D0 11 339 ?_ ?_
 rintro ⟨⟩ G0c C5 z7
 try dsimp only
 refine AW [2,5,9,10] (rk c0) ⟨?_,?_,?_,?_,trivial⟩
 refine Bv (m' :=343) (sk c0) rfl .plain rfl (AB (α:=Ta) (xs:=([b0]:List Ta)) (vs:=[.agg ((aa b0)).toArray]) (ds' :=(aa b0)) rfl C5 az rfl (e1 rfl) (by kernel_rfl) rfl) fun E1 k1 H0 M0=>?_
 have g1:=Az (cs:=(aa b0)) (xs:=(([b0]:List Ta):List Ta)) H0 L (Ao (cs:=(aa b0)) (ds:=[]) (am b0.fN b0.fD) (AA _ _))
 exact A02 ((vS k1 1),(aa b0)) H0 (Tt z7 M0) g1
 refine Bv (m' :=371) (sk c0) rfl .plain rfl (AB (α:=Ta) (xs:=([b0]:List Ta)) (vs:=[.agg ((aa b0)).toArray]) (ds' :=(aa b0)) rfl C5 az rfl (e1 rfl) (by kernel_rfl) rfl) fun C1 V0 B0 E0=>?_
 have Q0:=Az (cs:=(aa b0)) (xs:=(([b0]:List Ta):List Ta)) B0 L (Ao (cs:=(aa b0)) (ds:=[]) (am b0.fN b0.fD) (AA _ _))
 exact z02 ((vS V0 1),(aa b0)) B0 (Tt z7 E0) Q0
 refine AU (m' :=851) (sk c0) rfl .plain rfl (Au rfl (C5.memA .hd))<|H8 () C5 z7
 refine AU (m' :=1363) (sk c0) rfl .plain rfl (Au rfl (C5.memA .hd))<|G8 () C5 z7
 intro G02
 refine RD.mf (α:=Value × (List Value)) (fun ⟨J2,Z1⟩=>[(3,k0),(4,j0),(5,g0),(6,p0),(29,I0),(30,vI ((G0.length:Nat):Int)),(31,vI ((C0:Nat):Int)),(9,vP q0),(37,k0),(43,j0),(45,g0),(39,J2)]) (fun ⟨J2,Z1⟩=>[rr w 34 Ta J2 (([b0]:List Ta).length) Z1,.cells q0 (aa b0) 34,rr w 24 (List Tb) p0 t0.length v0,rr w 34 Ta g0 u0.length x0,rr w 34 Ta j0 s0.length y0,rr w 34 Ta k0 z0.length A0]) (fun ⟨J2,Z1⟩ B05=>Cells B05 (bl [rr w 34 Ta J2 (([b0]:List Ta).length) Z1,.cells q0 (aa b0) 34,rr w 24 (List Tb) p0 t0.length v0,rr w 34 Ta g0 u0.length x0,rr w 34 Ta j0 s0.length y0,rr w 34 Ta k0 z0.length A0] ++ L) Z1 (([b0]:List Ta):List Ta)) D0 11 327 ?_ ?_
 rintro ⟨J2,Z1⟩ B05 b4 u6 V7
 try dsimp only
 refine AW [3,4,9,10] (rk c0) ⟨?_,?_,?_,?_,trivial⟩
 refine Bs (m' :=335) (sk c0) rfl rfl .plain rfl (AR (α:=Ta) (ys:=([b0]:List Ta)) D1 b4 (fun _ _=>.t5) az rfl rfl (Ar B1 (Tt b1 (Tt p1 (Tt s1 (Tt u1 u6))))) (Bd (α:=Ta) b4 .hd V7)) fun Y0 F1 ⟨W0,R0,P0,X0⟩=>?_
 obtain ⟨b08,D03⟩:=AD R0 .d1
 exact W06 (Y0,W0) b08 (Tt u6 (Tt P0 D03)) (Ar X0 D03)
 refine AU (m' :=343) (sk c0) rfl .plain rfl (Au rfl (b4.memA .t1))<|A02 (J2,Z1) b4 u6 V7
 refine AU (m' :=839) (sk c0) rfl .plain rfl (Au rfl (b4.memA .t1))<|y02 (J2,Z1) b4 u6 V7
 refine AU (m' :=1351) (sk c0) rfl .plain rfl (Au rfl (b4.memA .t1))<|v02 (J2,Z1) b4 u6 V7
 intro Y06
 refine RD.mo (α:=Unit) (fun ()=>[(3,k0),(4,j0),(5,g0),(6,p0),(29,I0),(30,vI ((G0.length:Nat):Int)),(31,vI ((C0:Nat):Int)),(9,vP q0),(37,k0),(43,j0),(45,g0),(47,.agg ((aa b0)).toArray)]) (fun ()=>[.cells q0 (aa b0) 34,rr w 24 (List Tb) p0 t0.length v0,rr w 34 Ta g0 u0.length x0,rr w 34 Ta j0 s0.length y0,rr w 34 Ta k0 z0.length A0]) D0 12 1345 ?_ ?_
 rintro ⟨⟩ F0c B5 D9
 try dsimp only
 refine AW [1,4,9] (rk c0) ⟨?_,?_,?_,trivial⟩
 refine AU (m' :=1347) (sk c0) rfl .plain rfl (Au rfl (B5.memA .hd))<|D02 () B5 D9
 refine AU (m' :=1361) (sk c0) rfl .plain rfl (Au rfl (B5.memA .hd))<|C02 () B5 D9
 refine AU (m' :=1857) (sk c0) rfl .plain rfl (Au rfl (B5.memA .hd))<|B02 () B5 D9
 intro Z06
 refine RD.mo (α:=Unit) (fun ()=>[(3,k0),(4,j0),(5,g0),(6,p0),(29,I0),(30,vI ((G0.length:Nat):Int)),(31,vI ((C0:Nat):Int)),(9,vP q0),(37,k0),(43,j0),(45,g0),(46,.agg ((aa b0)).toArray)]) (fun ()=>[.cells q0 (aa b0) 34,rr w 24 (List Tb) p0 t0.length v0,rr w 34 Ta g0 u0.length x0,rr w 34 Ta j0 s0.length y0,rr w 34 Ta k0 z0.length A0]) D0 12 833 ?_ ?_
 rintro ⟨⟩ E0c A5 C9
 try dsimp only
 refine AW [1,4,10] (rk c0) ⟨?_,?_,?_,trivial⟩
 refine AU (m' :=835) (sk c0) rfl .plain rfl (Au rfl (A5.memA .hd))<|F02 () A5 C9
 refine AU (m' :=849) (sk c0) rfl .plain rfl (Au rfl (A5.memA .hd))<|E02 () A5 C9
 refine AU (m' :=1857) (sk c0) rfl .plain rfl (Au rfl (A5.memA .hd))<|B02 () A5 C9
 intro b07
 refine RD.mo (α:=Unit) (fun ()=>[(3,k0),(4,j0),(5,g0),(6,p0),(29,I0),(30,vI ((G0.length:Nat):Int)),(31,vI ((C0:Nat):Int)),(9,vP q0),(37,k0),(43,j0),(45,g0),(41,.agg ((aa b0)).toArray)]) (fun ()=>[.cells q0 (aa b0) 34,rr w 24 (List Tb) p0 t0.length v0,rr w 34 Ta g0 u0.length x0,rr w 34 Ta j0 s0.length y0,rr w 34 Ta k0 z0.length A0]) D0 12 337 ?_ ?_
 rintro ⟨⟩ D0c p5 y7
 try dsimp only
 refine AW [1,5,9,10] (rk c0) ⟨?_,?_,?_,?_,trivial⟩
 refine AU (m' :=339) (sk c0) rfl .plain rfl (Au rfl (p5.memA .hd))<|G02 () p5 y7
 refine Bv (m' :=369) (sk c0) rfl .plain rfl (AB (α:=Ta) (xs:=([b0]:List Ta)) (vs:=[.agg ((aa b0)).toArray]) (ds' :=(aa b0)) rfl p5 az rfl (e1 rfl) (by kernel_rfl) rfl) fun C1 V0 B0 E0=>X06 ((vS V0 1),(aa b0)) B0 (Tt y7 E0) (Az (cs:=(aa b0)) (xs:=(([b0]:List Ta):List Ta)) B0 L (Ao (cs:=(aa b0)) (ds:=[]) (am b0.fN b0.fD) (AA _ _)))
 refine AU (m' :=849) (sk c0) rfl .plain rfl (Au rfl (p5.memA .hd))<|E02 () p5 y7
 refine AU (m' :=1361) (sk c0) rfl .plain rfl (Au rfl (p5.memA .hd))<|C02 () p5 y7
 intro c07
 refine RD.mo (α:=Unit) (fun ()=>[(3,k0),(4,j0),(5,g0),(6,p0),(29,I0),(30,vI ((G0.length:Nat):Int)),(31,vI ((C0:Nat):Int)),(9,vP q0),(37,k0),(43,j0),(45,g0),(38,.agg ((aa b0)).toArray)]) (fun ()=>[.cells q0 (aa b0) 34,rr w 24 (List Tb) p0 t0.length v0,rr w 34 Ta g0 u0.length x0,rr w 34 Ta j0 s0.length y0,rr w 34 Ta k0 z0.length A0]) D0 12 323 ?_ ?_
 rintro ⟨⟩ C0c k5 x7
 try dsimp only
 refine AW [2,4,9,10] (rk c0) ⟨?_,?_,?_,?_,trivial⟩
 refine Bv (m' :=327) (sk c0) rfl .plain rfl (AB (α:=Ta) (xs:=([b0]:List Ta)) (vs:=[.agg ((aa b0)).toArray]) (ds' :=(aa b0)) rfl k5 az rfl (e1 rfl) (by kernel_rfl) rfl) fun E1 k1 H0 M0=>Y06 ((vS k1 1),(aa b0)) H0 (Tt x7 M0) (Az (cs:=(aa b0)) (xs:=(([b0]:List Ta):List Ta)) H0 L (Ao (cs:=(aa b0)) (ds:=[]) (am b0.fN b0.fD) (AA _ _)))
 refine AU (m' :=339) (sk c0) rfl .plain rfl (Au rfl (k5.memA .hd))<|G02 () k5 x7
 refine AU (m' :=835) (sk c0) rfl .plain rfl (Au rfl (k5.memA .hd))<|F02 () k5 x7
 refine AU (m' :=1347) (sk c0) rfl .plain rfl (Au rfl (k5.memA .hd))<|D02 () k5 x7
 intro d07
 refine AW [1,4,9,10] (rk c0) ⟨?_,?_,?_,?_,trivial⟩
 refine AU (m' :=323) (sk c0) rfl .plain rfl (Au rfl (D0.memA .hd)) ?_
 obtain ⟨c08,v08⟩:=AD D0 (.a0 .d1)
 exact d07 () c08 v08
 refine AU (m' :=337) (sk c0) rfl .plain rfl (Au rfl (D0.memA .hd)) ?_
 obtain ⟨d08,x08⟩:=AD D0 (.a0 .d1)
 exact c07 () d08 x08
 refine AU (m' :=833) (sk c0) rfl .plain rfl (Au rfl (D0.memA .hd)) ?_
 obtain ⟨g08,y08⟩:=AD D0 (.a0 .d1)
 exact b07 () g08 y08
 refine AU (m' :=1345) (sk c0) rfl .plain rfl (Au rfl (D0.memA .hd)) ?_
 obtain ⟨j08,z08⟩:=AD D0 (.a0 .d1)
 exact Z06 () j08 z08
 refine Bc rfl ?_
 have h:=bG h C01
 try dsimp only at h
 refine Aj<|Ae<|Ac rfl ?_
 have y0b:z0.length <= 4294967296:=St.rowLe (α:=Ta) E2 .t3
 obtain ⟨H0a,b0b,U08⟩:=St.rowV (α:=Ta) E2 .t3
 refine Ab (FV.lenV underlying51 rfl U08)<|Ab (FV.eqlN (i:=z0.length) (j:=0) rfl rfl)<|Aa<|AS rfl h (fun B06 h=>?_) (fun B06 h=>?_)
 refine Ae<|jE (bd 22) rfl (e1 rfl) (fun p q=>BN (cC_c n (E2.hL hL q) (4:Int)) fun (w8:World) (u8:Value) ⟨b0_,hu_,s_⟩=>(⟨b0_,hu_,s_.from q⟩:∃ D6:Nat,u8 = Value.func (.func 82) #[] #[vP D6]/\St M5 w8 [.cells D6 [vI 4] 27])) rfl fun g0c G0b q0b ⟨D6,u09,v05⟩=>?_
 subst u09
 have j9:=aX E2 v05
 refine Ac rfl ?_
 have k9:=Bz j9 .t4
 have k0b:=BA j9 .t4
 refine bk h fun W0c J09 h=>jE (bd 26) rfl (e1 rfl) (fun p q=>aF_c n (k9.hL hL q) (Af (BB (α:=Ta) (v:=k0) (xs:=z0) k9 L (Bj (α:=Ta) j9 .t4 (Ar B1 (bW E2 v05)) hL)) q) J09) rfl fun j0c H0b D08 ⟨B0b,hu_,p09⟩=>?_
 subst hu_
 obtain ⟨q7,p0b⟩:=k9.agr D08
 refine Ab (Ag rfl rfl)<|Ab (Ag rfl rfl)<|bk h fun B0a K09 h=>BK (v:=.bool B0a) (fst:=[]) (cap:=[vP D6]) .plain (bd 82) rfl (e2 rfl rfl) (fun p q=>bt_c n (q7.hL0 hL q) (q7.kd p09 q) (aG q (q7.memA .hd)) K09) rfl<|Ai rfl<|Aa<|Ax rfl<|Bq hb0 func10 rfl rfl ?_
 cases h
 exact q7.gv
 refine Aw<|Ae<|Ai rfl<|Aa<|Aj<|Ae<|Ac rfl ?_
 obtain ⟨I0a,c0b,V08⟩:=St.rowV (α:=Ta) E2 .t3
 refine Ab (FV.lenV underlying51 rfl V08)<|Ac rfl<|Aa<|AC ?_
 have P02:=E2.nilRow 34 (Rep.size Ta)
 have E03:=St.nilRowT E2 34 (Rep.size Ta)
 obtain ⟨A0b,g09,X08⟩:=ap h
 refine MX.lf (α:=Nat × (List Ta) × Value × (List Value)) (fun ⟨H2,q3,X4,g5⟩=>[(3,k0),(4,j0),(5,g0),(6,p0),(12,X4),(77,vI ((z0.length:Nat):Int)),(78,vI ((H2:Nat):Int))]) (fun ⟨H2,q3,X4,g5⟩=>[rr w 34 Ta X4 q3.length g5,rr w 24 (List Tb) p0 t0.length v0,rr w 34 Ta g0 u0.length x0,rr w 34 Ta j0 s0.length y0,rr w 34 Ta k0 z0.length A0]) (fun ⟨H2,q3,X4,g5⟩ s06=>Cells s06 (bl [rr w 34 Ta X4 q3.length g5,rr w 24 (List Tb) p0 t0.length v0,rr w 34 Ta g0 u0.length x0,rr w 34 Ta j0 s0.length y0,rr w 34 Ta k0 z0.length A0] ++ L) g5 q3) (fun ⟨H2,q3,X4,g5⟩=>(H2,q3)) (0,([]:List Ta),vN,[]) g09 P02 (Az (cs:=[]) (xs:=([]:List Ta)) P02 L (AA _ _)) ?_
 rintro M0a ⟨H2,q3,X4,g5⟩ s06 g07 K5 P00 K04 h
 unfold aj_l1 at h
 try dsimp only at h
 refine Ae<|Ab (Bb (i:=H2) (j:=z0.length) rfl rfl)<|Aa<|Aj<|AS rfl h (fun C06 h=>?_) (fun C06 h=>?_)
 refine Aw<|Aj<|AC<|Aq<|Ac rfl<|Ac rfl ?_
 obtain ⟨J0a,d0b,W08⟩:=St.rowV (α:=Ta) K5 .t4
 refine Ab (FV.lenV underlying51 rfl W08)<|bk h fun Y1 M09 h=>Bi (.agg ((aa Y1)).toArray) (bd 15) rfl (e2 rfl rfl) (fun p q=>ah_c n (K5.hL0 hL q)  M09) rfl<|Ak .plain rfl (AB (α:=Ta) (xs:=([Y1]:List Ta)) (vs:=[.agg ((aa Y1)).toArray]) (ds' :=(aa Y1)) rfl K5 az rfl (e1 rfl) (by kernel_rfl) rfl) fun k0c U0a p9 F03=>bk h fun z0a E09 h=>BD .plain rfl (AR (α:=Ta) (ys:=([Y1]:List Ta)) E09 p9 (fun _ _=>.t1) az rfl rfl (Ar K04 F03) (Bd (α:=Ta) p9 .hd (Az (cs:=(aa Y1)) (xs:=(([Y1]:List Ta):List Ta)) p9 L (Ao (cs:=(aa Y1)) (ds:=[]) (am Y1.fN Y1.fD) (AA _ _))))) fun q0a p0c ⟨Q06,k08,A08,Q08⟩=>Ai rfl<|Aa<|AF<|Aq<|Ab (Bf (i:=H2) (j:=1) rfl rfl (by omega))<|Ac rfl<|Aa ?_
 obtain ⟨p08,G03⟩:=AD k08 .d1
 exact g07 (H2 + 1,z0a,q0a,Q06) p08 (Tt P00 (Tt F03 (Tt A08 G03))) (Ar Q08 G03) h
 refine Bc rfl ?_
 have h:=X08 _ h
 try dsimp only at h
 refine Ae<|Ac rfl ?_
 have q9:=Bz K5 .t4
 have H03:=BA K5 .t4
 have J01:=BB (α:=Ta) (v:=k0) (xs:=z0) q9 L (Bj (α:=Ta) K5 .t4 (Ar B1 (Tt E03 P00)) hL)
 refine bk h fun c8 P09 h=>jE (bd 26) rfl (e1 rfl) (fun p q=>aF_c n (q9.hL hL q) (Af J01 q) P09) rfl fun q0c I0b E08 ⟨M01,hu_,z6⟩=>?_
 subst hu_
 obtain ⟨s9,Q00⟩:=q9.agr E08
 refine Ac rfl<|Ab (Ag rfl rfl)<|Ab (Ag rfl rfl)<|Ai rfl<|Ai rfl<|Aa<|Ae<|Ac rfl<|bk h fun P5 Q09 h=>Bi (.tuple #[.agg ((aa P5.1)).toArray,vI P5.2]) (bd 19) rfl (e1 rfl) (fun p q=>bs_c n (s9.hL0 hL q) (s9.kd z6 q) Q09) rfl<|Ac rfl<|Ab (Ag rfl rfl)<|Ab (Ag rfl rfl)<|RG.nl zL s9 fun s0c V0a q08 P7=>AO (aa P5.1) q08 .hd (ai rfl) fun t0c t9 Q7=>Ai rfl<|Aa<|Ae<|Ac rfl<|bk h fun C6 R09 h=>?_
 have g05:=Tt Q00 (Tt P7 Q7)
 refine Bi (.tuple #[.agg ((aa C6.1)).toArray,vI C6.2]) (bd 56) rfl (e1 rfl) (fun p q=>bW_c n (t9.hL0 hL q) (t9.kd (Ah J01 g05) q) R09) rfl<|Ac rfl<|Ab (Ag rfl rfl)<|Ab (Ag rfl rfl)<|RG.nl zL t9 fun u0c W0a s08 R7=>AO (aa C6.1) s08 .hd (ai rfl) fun v0c s7 U7=>Ai rfl<|Aa<|Aj<|du 9 fun P1 I2=>Rx 0 1776 P1 rfl I2 (Au rfl (s7.memA .hd))<|Rv 1 P1 rfl I2 (fun _=>Av rfl)<|Rx 2 1784 P1 rfl I2 (AY (xs:=z0) underlying51 rfl (Ah J01 (Tt g05 (Tt R7 U7))))<|bk h fun u06 U09 h=>RD.cq 3 15 1776 (.agg ((aa u06)).toArray) P1 rfl I2 (bd 15) rfl (e2 rfl rfl) (fun p q=>ah_c n (s7.hL0 hL q)  U09) rfl<|bk h fun Q5 V09 h=>RD.cq 4 31 1760 (.tuple #[.agg ((aa Q5.1)).toArray,vI Q5.2]) P1 rfl I2 (bd 57) rfl (e2 rfl rfl) (fun p q=>cA_c n (s7.hL0 hL q) C6.1 u06 V09) rfl<|Rv 5 P1 rfl I2 (fun _=>Av rfl)<|Rv 6 P1 rfl I2 (fun _=>Ag rfl rfl)<|Rv 7 P1 rfl I2 (fun _=>Ag rfl rfl)<|RD.nu 8 511 P1 rfl .plain rfl (Ay zL s7) fun x0c X0a t08 R00=>Bw 9 1023 P1 rfl rfl .plain (AG (news:=(aa Q5.1)) t08 .hd rfl rfl rfl rfl rfl rfl (ai rfl)) fun t0a M1 U00=>Rv 10 P1 rfl I2 (fun _=>Bg rfl)<|AK (dk P1)<|Aj<|Aq<|Ac rfl<|Ab (FV.eql (i:=c8.2) (j:=0) rfl rfl)<|Ac rfl<|RG.ifd (s:=112) rfl h (fun D06 h=>?_) (fun D06 h=>?_)
 refine AV (Av rfl)<|AV (FV.eql (i:=P5.2) (j:=0) rfl rfl)<|RG.pt rfl rfl<|Ac rfl<|RG.ifd (s:=116) rfl h (fun E06 h=>?_) (fun E06 h=>?_)
 refine AV (Av rfl)<|AV (FV.eql (i:=C6.2) (j:=0) rfl rfl)<|RG.pt rfl rfl<|Ac rfl<|RG.ifd (s:=120) rfl h (fun F06 h=>?_) (fun F06 h=>?_)
 refine AV (Av rfl)<|AV (FV.eql (i:=Q5.2) (j:=0) rfl rfl)<|RG.pt rfl rfl<|Ac rfl<|RG.ifd (s:=124) rfl h (fun G06 h=>?_) (fun G06 h=>?_)
 refine AV (Au rfl (M1.memA .t2))<|AV (Au rfl (M1.memA .hd))<|AV (FV.eqlV (v:=.agg ((aa P5.1)).toArray) (u:=.agg ((aa Q5.1)).toArray) rfl rfl (eO P5.1 Q5.1))<|RG.pt rfl rfl<|Ac rfl<|RG.ifd (s:=129) rfl h (fun H06 h=>?_) (fun H06 h=>?_)
 refine AV (Av rfl)<|bk h fun v06 W09 h=>?_
 have j05:=Tt P7 (Tt Q7 (Tt R7 (Tt U7 (Tt R00 U00))))
 have M04:=Ah z6 j05
 refine BK (v:=vI v06) (fst:=[]) (cap:=[]) (.yes rfl rfl) (bd 16) rfl (e1 rfl) (fun p q=>az_c n (M1.hL0 hL q) (M1.kd M04 q) W09) rfl<|AV (FV.eql (i:=v06) (j:=0) rfl rfl)<|RG.pt rfl rfl<|Ac rfl<|RG.ifd (s:=134) rfl h (fun I06 h=>?_) (fun I06 h=>?_)
 refine AV (Av rfl)<|AJ (fst:=[]) (cap:=[]) (.yes rfl rfl) (bd 28) rfl (e1 rfl) (fun p q=>BN (bC_c n (M1.hL hL q) c8.1 (Af M04 q)) fun (w8:World) (u8:Value) ⟨b0_,hu_,s_⟩=>(⟨b0_,hu_,s_.from q⟩:∃ E6:Nat,u8 = Value.func (.func 91) #[] #[vP E6]/\St t0a w8 [.cells E6 [M01] 24])) rfl fun y0c J0b s0b ⟨E6,v09,x05⟩=>?_
 subst v09
 have u9:=aX M1 x05
 have V00:=bW M1 x05
 refine AV (Av rfl) ?_
 have k05:=Tt E03 (Tt P00 (Tt H03 (Tt Q00 (Tt P7 (Tt Q7 (Tt R7 (Tt U7 (Tt R00 (Tt U00 V00)))))))))
 have v9:=Bz u9 .t7
 have W00:=BA u9 .t7
 refine bk h fun X0c X09 h=>AJ (fst:=[]) (cap:=[]) (.yes rfl rfl) (bd 26) rfl (e1 rfl) (fun p q=>aF_c n (v9.hL hL q) (Af (BB (α:=Ta) (v:=j0) (xs:=s0) v9 L (Bj (α:=Ta) u9 .t7 (Ar H1 k05) hL)) q) X09) rfl fun u0a K0b F08 ⟨C0b,hu_,q09⟩=>?_
 subst hu_
 obtain ⟨c4,X00⟩:=v9.agr F08
 refine AV (Ag rfl rfl)<|AV (Ag rfl rfl)<|bk h fun C0a Y09 h=>?_
 have p05:=Tt j05 (Tt V00 (Tt W00 X00))
 have P04:=Ah z6 p05
 refine BK (v:=.bool C0a) (fst:=[]) (cap:=[vP E6]) (.yes rfl rfl) (bd 91) rfl (e2 rfl rfl) (fun p q=>am_c n (c4.hL0 hL q) (c4.kd q09 q) (c4.kd P04 q) (aG q (c4.memA .hd)) Y09) rfl<|RG.pt rfl rfl<|Ac rfl<|RG.ifb (s:=143) rfl h (fun J06 h=>?_) (fun J06 h=>?_)
 refine AV (Av rfl)<|AJ (fst:=[]) (cap:=[]) (.yes rfl rfl) (bd 28) rfl (e1 rfl) (fun p q=>BN (bC_c n (c4.hL hL q) c8.1 (Af P04 q)) fun (w8:World) (u8:Value) ⟨b0_,hu_,s_⟩=>(⟨b0_,hu_,s_.from q⟩:∃ F6:Nat,u8 = Value.func (.func 91) #[] #[vP F6]/\St u0a w8 [.cells F6 [M01] 24])) rfl fun z0c M0b t0b ⟨F6,x09,y05⟩=>?_
 subst x09
 have x9:=aX c4 y05
 have Y00:=bW c4 y05
 refine AV (Av rfl) ?_
 have q05:=Tt k05 (Tt W00 (Tt X00 Y00))
 have y9:=Bz x9 .t7
 have Z00:=BA x9 .t7
 refine bk h fun Y0c Z09 h=>AJ (fst:=[]) (cap:=[]) (.yes rfl rfl) (bd 26) rfl (e1 rfl) (fun p q=>aF_c n (y9.hL hL q) (Af (BB (α:=Ta) (v:=g0) (xs:=u0) y9 L (Bj (α:=Ta) x9 .t7 (Ar M03 q05) hL)) q) Z09) rfl fun v0a P0b G08 ⟨D0b,hu_,s09⟩=>?_
 subst hu_
 obtain ⟨g4,b01⟩:=y9.agr G08
 refine AV (Ag rfl rfl)<|AV (Ag rfl rfl)<|bk h fun D0a b0a h=>?_
 have s05:=Tt p05 (Tt Y00 (Tt Z00 b01))
 have Q04:=Ah z6 s05
 refine BK (v:=.bool D0a) (fst:=[]) (cap:=[vP F6]) (.yes rfl rfl) (bd 91) rfl (e2 rfl rfl) (fun p q=>am_c n (g4.hL0 hL q) (g4.kd s09 q) (g4.kd Q04 q) (aG q (g4.memA .hd)) b0a) rfl<|RG.pt rfl rfl<|Ac rfl<|RG.ifb (s:=152) rfl h (fun K06 h=>?_) (fun K06 h=>?_)
 refine AV (Av rfl)<|AJ (fst:=[]) (cap:=[]) (.yes rfl rfl) (bd 28) rfl (e1 rfl) (fun p q=>BN (bC_c n (g4.hL hL q) c8.1 (Af Q04 q)) fun (w8:World) (u8:Value) ⟨b0_,hu_,s_⟩=>(⟨b0_,hu_,s_.from q⟩:∃ G6:Nat,u8 = Value.func (.func 91) #[] #[vP G6]/\St v0a w8 [.cells G6 [M01] 24])) rfl fun A0c Q0b u0b ⟨G6,y09,z05⟩=>?_
 subst y09
 have z9:=aX g4 z05
 have c01:=bW g4 z05
 refine AV (Av rfl)<|AV (Av rfl) ?_
 have u7:=Bz z9 .t7
 have I03:=BA z9 .t7
 have A9:=Bz u7 .t6
 have J03:=BA u7 .t6
 refine bk h fun Z0c c0a h=>AJ (fst:=[]) (cap:=[]) (.yes rfl rfl) (bd 31) rfl (e2 rfl rfl) (fun p q=>ax_c n (A9.hL hL q) (Af (Ah (BB (α:=List Tb) (v:=p0) (xs:=t0) u7 L (Bj (α:=List Tb) z9 .t7 (Ar K03 (Tt q05 (Tt Z00 (Tt b01 c01)))) hL)) J03) q) (Af (BB (α:=Ta) (v:=X4) (xs:=q3) A9 L (Bj (α:=Ta) u7 .t6 (Ar K04 (Tt H03 (Tt Q00 (Tt P7 (Tt Q7 (Tt R7 (Tt U7 (Tt R00 (Tt U00 (Tt V00 (Tt W00 (Tt X00 (Tt Y00 (Tt Z00 (Tt b01 (Tt c01 I03)))))))))))))))) hL)) q) c0a) rfl fun B0c R0b H08 ⟨E0b,hu_,t09⟩=>?_
 subst hu_
 obtain ⟨s6,B08⟩:=A9.agr H08
 refine AV (Ag rfl rfl)<|AV (Ag rfl rfl)<|bk h fun E0a d0a h=>BK (v:=.bool E0a) (fst:=[]) (cap:=[vP G6]) (.yes rfl rfl) (bd 91) rfl (e2 rfl rfl) (fun p q=>am_c n (s6.hL0 hL q) (s6.kd t09 q) (s6.kd (Ah z6 (Tt s05 (Tt c01 (Tt I03 (Tt J03 B08))))) q) (aG q (s6.memA .hd)) d0a) rfl<|RG.pt rfl rfl<|Ai rfl<|Aa<|Ax rfl<|Bq hb0 func10 rfl rfl ?_
 cases h
 exact s6.gv
 refine Al<|Al<|Al<|Al<|Al<|Al<|Al<|Al<|Br rfl rfl<|Ai rfl<|Aa<|Ax rfl<|Bq hb0 func10 rfl rfl ?_
 cases h
 exact g4.gv
 refine Al<|Al<|Al<|Al<|Al<|Al<|Al<|Br rfl rfl<|Ac rfl<|Al<|Al<|Al<|Al<|Al<|Al<|Al<|Al<|Br rfl rfl<|Ai rfl<|Aa<|Ax rfl<|Bq hb0 func10 rfl rfl ?_
 cases h
 exact c4.gv
 refine Al<|Al<|Al<|Al<|Al<|Al<|Al<|Br rfl rfl<|Ac rfl<|Al<|Al<|Al<|Al<|Al<|Al<|Al<|Br rfl rfl<|Ac rfl<|Al<|Al<|Al<|Al<|Al<|Al<|Al<|Al<|Br rfl rfl<|Ai rfl<|Aa<|Ax rfl<|Bq hb0 func10 rfl rfl ?_
 cases h
 exact M1.gv
 refine Al<|Al<|Al<|Br rfl rfl<|Ac rfl<|Al<|Al<|Al<|Al<|Al<|Al<|Al<|Br rfl rfl<|Ac rfl<|Al<|Al<|Al<|Al<|Al<|Al<|Al<|Br rfl rfl<|Ac rfl<|Al<|Al<|Al<|Al<|Al<|Al<|Al<|Al<|Br rfl rfl<|Ai rfl<|Aa<|Ax rfl<|Bq hb0 func10 rfl rfl ?_
 cases h
 exact M1.gv
 refine Al<|Al<|Al<|Br rfl rfl<|Ac rfl<|Al<|Al<|Al<|Br rfl rfl<|Ac rfl<|Al<|Al<|Al<|Al<|Al<|Al<|Al<|Br rfl rfl<|Ac rfl<|Al<|Al<|Al<|Al<|Al<|Al<|Al<|Br rfl rfl<|Ac rfl<|Al<|Al<|Al<|Al<|Al<|Al<|Al<|Al<|Br rfl rfl<|Ai rfl<|Aa<|Ax rfl<|Bq hb0 func10 rfl rfl ?_
 cases h
 exact M1.gv
 refine Al<|Al<|Br rfl rfl<|Ac rfl<|Al<|Al<|Al<|Br rfl rfl<|Ac rfl<|Al<|Al<|Al<|Br rfl rfl<|Ac rfl<|Al<|Al<|Al<|Al<|Al<|Al<|Al<|Br rfl rfl<|Ac rfl<|Al<|Al<|Al<|Al<|Al<|Al<|Al<|Br rfl rfl<|Ac rfl<|Al<|Al<|Al<|Al<|Al<|Al<|Al<|Al<|Br rfl rfl<|Ai rfl<|Aa<|Ax rfl<|Bq hb0 func10 rfl rfl ?_
 cases h
 exact M1.gv
 refine Al<|Al<|Br rfl rfl<|Ac rfl<|Al<|Al<|Br rfl rfl<|Ac rfl<|Al<|Al<|Al<|Br rfl rfl<|Ac rfl<|Al<|Al<|Al<|Br rfl rfl<|Ac rfl<|Al<|Al<|Al<|Al<|Al<|Al<|Al<|Br rfl rfl<|Ac rfl<|Al<|Al<|Al<|Al<|Al<|Al<|Al<|Br rfl rfl<|Ac rfl<|Al<|Al<|Al<|Al<|Al<|Al<|Al<|Al<|Br rfl rfl<|Ai rfl<|Aa<|Ax rfl<|Bq hb0 func10 rfl rfl ?_
 cases h
 exact M1.gv
 refine Al<|Al<|Br rfl rfl<|Ac rfl<|Al<|Al<|Br rfl rfl<|Ac rfl<|Al<|Al<|Br rfl rfl<|Ac rfl<|Al<|Al<|Al<|Br rfl rfl<|Ac rfl<|Al<|Al<|Al<|Br rfl rfl<|Ac rfl<|Al<|Al<|Al<|Al<|Al<|Al<|Al<|Br rfl rfl<|Ac rfl<|Al<|Al<|Al<|Al<|Al<|Al<|Al<|Br rfl rfl<|Ac rfl<|Al<|Al<|Al<|Al<|Al<|Al<|Al<|Al<|Br rfl rfl<|Ai rfl<|Aa<|Ax rfl<|Bq hb0 func10 rfl rfl ?_
 cases h
 exact M1.gv
 refine Ae<|Ai rfl<|Aa<|Ax rfl<|Bq hb0 func10 rfl rfl ?_
 cases h
 exact j5.gv
end Go.Proofs.YtkommhmbkbhmlaaGreat
