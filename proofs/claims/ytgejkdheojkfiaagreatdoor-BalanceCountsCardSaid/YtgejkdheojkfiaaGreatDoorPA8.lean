/- Functions of the program, and what they give: part 8. -/
import Derived.Test.YtgejkdheojkfiaaGreatDoorPA7
namespace Go.Proofs.YtgejkdheojkfiaaGreatDoor
open Go Go.RowKit
set_option maxRecDepth 4000
set_option maxHeartbeats 4000000

def tb164_15:List (Nat × Nat × Nat):=[(0,2305843009213693952,128),(0,4611686018427387904,512),(0,9223372036854775808,128),(0,18446744073709551616,512),(12,36893488147419103232,27670116110564327424),(16,73786976294838206464,36893488147419103232),(0,147573952589676412928,1024),(64,295147905179352825856,147573952589676412928),(160,590295810358705651712,368934881474191032320),(511,1180591620717411303424,6917529027641081856),(1023,0,1770887431076116955136)]
theorem body192:bodyB Tryz.prog 192 = true:=by kernel_rfl
def aq_l1 (n:Nat) (a0:List Int) (g0:Int) (a1:List Int) (p0:(List Int) × Int × (List Int) -> Option ((List Int) × (List Int))):(List Int) × Int × (List Int) -> Option ((List Int) × (List Int))
  | (k0,c0,b0)=>(if 0 <= c0 then (idx a0 g0).bind fun x0=>(natOf c0).bind fun q0=>(remI (shrS x0 q0) 2).bind fun t0=>(bb_p n k0 t0).bind fun d0=>(aC_p n d0 a1).bind fun C0=>jn (fun (z0,A0)=>(chk (c0 - 1)).bind fun u0=>p0 (z0,u0,A0)) (fun j0=>(if 0 <= C0 then (ar_p n d0 a1).bind fun D0=>(idx b0 g0).bind fun y0=>(natOf c0).bind fun s0=>(chk (y0 + (shlS 1 s0))).bind fun v0=>(put b0 ((g0.toNat:Nat):Int) v0).bind fun B0=>j0 (D0,B0) else j0 (d0,b0))) else some (k0,b0))
def aq_l2 (n:Nat) (a0:List Int) (a1:List Int) (g0:(List Int) × Int × (List Int) -> Option ((List Int) × (List Int))):(List Int) × Int × (List Int) -> Option ((List Int) × (List Int))
  | (c0,b0,d0)=>(if 0 <= b0 then Option.bind (loopF (aq_l1 n a0 b0 a1) n (c0,31,d0)) (fun (k0,p0)=>(chk (b0 - 1)).bind fun j0=>g0 (k0,j0,p0)) else some (d0,c0))
def aq_p (n:Nat) (a0:List Int) (a1:List Int):Option ((List Int) × (List Int)):=
  (if ((a0.length:Nat):Int) <= (((a1.length:Nat):Int) - 1) then (app ([]:List Int) a0).bind fun g0=>some (([]:List Int),g0) else (mk (((a0.length:Nat):Int) - (((a1.length:Nat):Int) - 1)) (0:Int)).bind fun b0=>(cut a0 (((a0.length:Nat):Int) - (((a1.length:Nat):Int) - 1)) (a0.length:Int)).bind fun j0=>(app ([]:List Int) j0).bind fun k0=>Option.bind (loopF (aq_l2 n a0 a1) n (k0,((b0.length:Nat):Int) - 1,b0)) (fun (d0,c0)=>(aF_p n d0).bind fun p0=>some (p0,c0)))
theorem aq_c (n:Nat) (L:List Nat) (w:World) (hL:∀ b ∈ L,b < w.heap.size) {a0:List Int} {v0_0:Value} (h0_0:Rep.R w L [v0_0] a0) {a1:List Int} {v1_0:Value} (h1_0:Rep.R w L [v1_0] a1)  {r:(List Int) × (List Int)} (h:aq_p n a0 a1 = some r) :
    Calls Tryz.prog 164 #[v0_0,v1_0] w (Gives w fun w' u=>∃ v0_0 v1_0:Value,u = .tuple #[v0_0,v1_0]/\Rep.R w' L [v0_0] r.1/\Rep.R w' L [v1_0] r.2):=by
 unfold aq_p at h
 have hS0:=AB w
 refine AF Tryz.func164 rfl rfl rfl fun _ cs0 hb0=>Ac<|Af rfl<|Af rfl<|Aa<|Ac<|Ae rfl ?_
 have hl1:a1.length <= 281474976710656:=AY h1_0
 refine Ab (Bc (xs:=a1) Tryz.underlying45 rfl h1_0)<|Ab (FV.subI (i:=((a1.length:Nat):Int)) (j:=1) rfl rfl (by omega))<|Af rfl<|Aa<|Aj<|Ac<|Ae rfl ?_
 have hl2:a0.length <= 281474976710656:=AY h0_0
 refine Ab (Bc (xs:=a0) Tryz.underlying45 rfl h0_0)<|Ae rfl<|Ab (FV.leq (i:=((a0.length:Nat):Int)) (j:=((a1.length:Nat):Int) - 1) rfl rfl)<|Aa<|AS rfl h (fun c3 h=>?_) (fun c3 h=>?_)
 refine Ac<|Ak .plain rfl (AE (α:=Int) (xs:=([]:List Int)) (vs:=[]) (ds' :=[]) rfl hS0 el45 rfl evs_nil (by kernel_rfl) rfl) fun C4 V3 M0 g4=>Ae rfl<|bk h fun G3 p3 h=>RG.doesL .plain rfl (AW (α:=Int) (ys:=a0) p3 M0 (fun _ _=>.hd) el45 rfl rfl (Ax (cs:=[]) (xs:=(([]:List Int):List Int)) M0 L (AD _ _)) (BG (AO h0_0 M0))) fun D1 H4 ⟨c4,J0,j4,u2⟩=>Af rfl<|Af rfl<|Aa<|Al rfl ?_
 have s4:=Rep.nilAt (α:=Int) J0 L
 have E0:=By J0 .hd
 have k4:=Bz J0 .hd
 have V2:=BA (α:=Int) (v:=D1) (xs:=G3) E0 L (Bj (α:=Int) J0 .hd u2 hL)
 refine Ap hb0 Tryz.func164 rfl (.cons (.tmp rfl) (.cons (.tmp rfl) .nil)) rfl ?_
 cases h
 exact ⟨E0.ag,fun w9 hw9=>⟨vN,D1,rfl,E0.kd (Rep.nilAt (α:=Int) E0 L) hw9,E0.kd V2 hw9⟩⟩
 refine Aq<|Ac<|Ae rfl<|Ab (Bc (xs:=a0) Tryz.underlying45 rfl h0_0)<|Ae rfl<|Ab (FV.subI (i:=((a0.length:Nat):Int)) (j:=((a1.length:Nat):Int) - 1) rfl rfl (by omega))<|bk h fun G0 C1 h=>Ak .plain rfl (Does.mk (α:=Int) C1 hS0 el45 rfl) fun I4 c0 j1 p4=>Af rfl<|Aa<|Ac<|Ak .plain rfl (AE (α:=Int) (xs:=([]:List Int)) (vs:=[]) (ds' :=[]) rfl j1 el45 rfl evs_nil (by kernel_rfl) rfl) fun J4 W3 U0 g2=>Ae rfl<|Ae rfl ?_
 have z1:=AO h0_0 U0
 refine Ab (Bc (xs:=a0) Tryz.underlying45 rfl z1)<|Ae rfl<|Ab (FV.subI (i:=((a0.length:Nat):Int)) (j:=((a1.length:Nat):Int) - 1) rfl rfl (by omega))<|bk h fun I3 s3 h=>RG.valE .plain rfl (FV.cutL (α:=Int) s3 (by kernel_rfl) rfl z1 ⟨_,rfl⟩ rfl) fun B4 W2=>bk h fun G1 t3 h=>RG.doesL .plain rfl (AW (α:=Int) (ys:=I3) t3 U0 (fun _ _=>.hd) el45 rfl rfl (Ax (cs:=[]) (xs:=(([]:List Int):List Int)) U0 L (AD _ _)) (BG W2)) fun E1 K4 ⟨d4,F0,j2,v2⟩=>Af rfl<|Aa<|Aj<|Ac<|Ae rfl ?_
 have q4:G0.length <= 4294967296:=St.rowLe (α:=Int) F0 .t1
 obtain ⟨P3,b4,A2⟩:=St.rowV (α:=Int) F0 .t1
 refine Ab (FV.lenV Tryz.underlying45 rfl A2)<|Ab (FV.subI (i:=((G0.length:Nat):Int)) (j:=1) rfl rfl (by omega))<|Af rfl<|Aa<|Ay ?_
 have k1:=By F0 .hd
 obtain ⟨t4,J2,B2⟩:=bind_in2 h
 refine MX.lf (α:=(List Int) × Int × (List Int) × Value × (List Value)) (fun ⟨B0,b0,g0,y0,u0⟩=>[(0,v0_0),(1,v1_0),(7,(.slice (some ⟨c0,0,none⟩) (((a0.length:Nat):Int) - (((a1.length:Nat):Int) - 1)).toNat (((a0.length:Nat):Int) - (((a1.length:Nat):Int) - 1)).toNat)),(8,y0),(9,vI b0)]) (fun ⟨B0,b0,g0,y0,u0⟩=>[.row w.heap.size 3 (Rep.size Int) (.slice (some ⟨c0,0,none⟩) (((a0.length:Nat):Int) - (((a1.length:Nat):Int) - 1)).toNat (((a0.length:Nat):Int) - (((a1.length:Nat):Int) - 1)).toNat) g0.length u0]) (fun ⟨B0,b0,g0,y0,u0⟩ Z0=>Rep.R Z0 (bl [.row w.heap.size 3 (Rep.size Int) (.slice (some ⟨c0,0,none⟩) (((a0.length:Nat):Int) - (((a1.length:Nat):Int) - 1)).toNat (((a0.length:Nat):Int) - (((a1.length:Nat):Int) - 1)).toNat) g0.length u0] ++ L) [y0] B0/\Cells Z0 (bl [.row w.heap.size 3 (Rep.size Int) (.slice (some ⟨c0,0,none⟩) (((a0.length:Nat):Int) - (((a1.length:Nat):Int) - 1)).toNat (((a0.length:Nat):Int) - (((a1.length:Nat):Int) - 1)).toNat) g0.length u0] ++ L) u0 g0) (fun ⟨B0,b0,g0,y0,u0⟩=>(B0,b0,g0)) (G1,((G0.length:Nat):Int) - 1,G0,E1,(List.replicate (((a0.length:Nat):Int) - (((a1.length:Nat):Int) - 1)).toNat [vI 0]).flatten) J2 k1 ⟨(BA (α:=Int) (v:=E1) (xs:=G1) k1 L (Bj (α:=Int) F0 .hd v2 hL)),(Au (Ax (cs:=(List.replicate (((a0.length:Nat):Int) - (((a1.length:Nat):Int) - 1)).toNat [vI 0]).flatten) (xs:=G0) j1 L (Cells.mk C1 rfl)) (Tt g2 (Tt j2 (Bz F0 .hd))))⟩ ?_
 rintro Q3 ⟨B0,b0,g0,y0,u0⟩ Z0 V1 H0 Z1 ⟨A1,u1⟩ h
 unfold aq_l2 at h
 try dsimp only at h
 refine Aj<|Ac<|Ae rfl<|Ab (FV.geq (i:=b0) (j:=0) rfl rfl)<|Aa<|AS rfl h (fun K1 h=>?_) (fun K1 h=>?_)
 refine Aq<|Aj<|Ay<|Ac<|Af rfl<|Aa<|Ay ?_
 obtain ⟨u4,K2,C2⟩:=bind_in2 h
 refine MX.lf (α:=(List Int) × Int × (List Int) × Value × (List Value)) (fun ⟨C0,p0,j0,z0,q0⟩=>[(0,v0_0),(1,v1_0),(7,(.slice (some ⟨c0,0,none⟩) (((a0.length:Nat):Int) - (((a1.length:Nat):Int) - 1)).toNat (((a0.length:Nat):Int) - (((a1.length:Nat):Int) - 1)).toNat)),(8,z0),(9,vI b0),(10,vI p0)]) (fun ⟨C0,p0,j0,z0,q0⟩=>[.row w.heap.size 3 (Rep.size Int) (.slice (some ⟨c0,0,none⟩) (((a0.length:Nat):Int) - (((a1.length:Nat):Int) - 1)).toNat (((a0.length:Nat):Int) - (((a1.length:Nat):Int) - 1)).toNat) j0.length q0]) (fun ⟨C0,p0,j0,z0,q0⟩ b1=>Rep.R b1 (bl [.row w.heap.size 3 (Rep.size Int) (.slice (some ⟨c0,0,none⟩) (((a0.length:Nat):Int) - (((a1.length:Nat):Int) - 1)).toNat (((a0.length:Nat):Int) - (((a1.length:Nat):Int) - 1)).toNat) j0.length q0] ++ L) [z0] C0/\Cells b1 (bl [.row w.heap.size 3 (Rep.size Int) (.slice (some ⟨c0,0,none⟩) (((a0.length:Nat):Int) - (((a1.length:Nat):Int) - 1)).toNat (((a0.length:Nat):Int) - (((a1.length:Nat):Int) - 1)).toNat) j0.length q0] ++ L) q0 j0) (fun ⟨C0,p0,j0,z0,q0⟩=>(C0,p0,j0)) (B0,31,g0,y0,u0) K2 H0 ⟨A1,u1⟩ ?_
 rintro R3 ⟨C0,p0,j0,z0,q0⟩ b1 W1 I0 p1 ⟨B1,W0⟩ h
 unfold aq_l1 at h
 try dsimp only at h
 refine Aj<|Ac<|Ae rfl<|Ab (FV.geq (i:=p0) (j:=0) rfl rfl)<|Aa<|AS rfl h (fun M1 h=>?_) (fun M1 h=>?_)
 refine Aq<|Aj<|Ay<|Ac<|Ae rfl<|Ae rfl<|Ae rfl<|bk h fun d1 d3 h=>?_
 obtain ⟨D2,g3⟩:=idx_in d3
 obtain ⟨M3,X3,x2,E2,Q1,M2,H2⟩:=Bl (AO h0_0 I0) g3
 have y2:Q1 = [vI d1]:=M2; subst y2
 refine Ab (Bm 1 (b0.toNat) rfl x2 rfl D2 E2)<|AP rfl (H2 0 _ rfl)<|Ae rfl<|bk h fun z3 F2 h=>Ab (FV.shrSI (i:=d1) (q:=p0) rfl rfl F2)<|bk h fun v4 X2 h=>Ab (FV.remc (i:=shrS d1 z3) (j:=2) rfl rfl X2)<|bk h fun J3 u3 h=>AZ (fst:=[]) (cap:=[]) .plain body192 rfl (e2 rfl rfl) (fun w9 hw9=>bb_c n _ w9 (I0.hL hL hw9) (Ar B1 hw9) u3) rfl fun D4 D3 k2 ⟨y4,hu_,Y0⟩=>?_
 subst hu_
 obtain ⟨x0,V0⟩:=I0.agr k2
 refine Af rfl<|Aa<|Ac<|Ae rfl<|Ae rfl<|bk h fun H1 v3 h=>Bi (vI H1) body166 rfl (e2 rfl rfl) (fun w9 hw9=>aC_c n _ w9 (x0.hL0 hL hw9) (x0.kd Y0 hw9) (x0.k0 h1_0 hw9) v3) rfl<|Ab (FV.geq (i:=H1) (j:=0) rfl rfl)<|Aa<|MX.jf (α:=(List Int) × (List Int) × Value × (List Value)) (fun ⟨D0,t0,A0,v0⟩=>[(0,v0_0),(1,v1_0),(7,(.slice (some ⟨c0,0,none⟩) (((a0.length:Nat):Int) - (((a1.length:Nat):Int) - 1)).toNat (((a0.length:Nat):Int) - (((a1.length:Nat):Int) - 1)).toNat)),(8,A0),(9,vI b0),(10,vI p0)]) (fun ⟨D0,t0,A0,v0⟩=>[.row w.heap.size 3 (Rep.size Int) (.slice (some ⟨c0,0,none⟩) (((a0.length:Nat):Int) - (((a1.length:Nat):Int) - 1)).toNat (((a0.length:Nat):Int) - (((a1.length:Nat):Int) - 1)).toNat) t0.length v0]) (fun ⟨D0,t0,A0,v0⟩ c1=>Rep.R c1 (bl [.row w.heap.size 3 (Rep.size Int) (.slice (some ⟨c0,0,none⟩) (((a0.length:Nat):Int) - (((a1.length:Nat):Int) - 1)).toNat (((a0.length:Nat):Int) - (((a1.length:Nat):Int) - 1)).toNat) t0.length v0] ++ L) [A0] D0/\Cells c1 (bl [.row w.heap.size 3 (Rep.size Int) (.slice (some ⟨c0,0,none⟩) (((a0.length:Nat):Int) - (((a1.length:Nat):Int) - 1)).toNat (((a0.length:Nat):Int) - (((a1.length:Nat):Int) - 1)).toNat) t0.length v0] ++ L) v0 t0) (fun ⟨D0,t0,A0,v0⟩=>(D0,t0)) x0 h ?_ ?_
 rintro ⟨D0,t0,A0,v0⟩ c1 X1 b2 ⟨P2,s2⟩ h
 try dsimp only at h
 refine AA<|Av<|Ae rfl<|bk h fun B3 Y2 h=>Ab (FV.subc (i:=p0) (j:=1) rfl rfl Y2)<|Af rfl<|Aa<|W1 (D0,B3,t0,A0,v0) X1 (Tt p1 (Tt V0 b2)) ⟨P2,s2⟩ h
 intro U3 g1 h
 try dsimp only at h
 refine AS rfl h (fun P1 h=>?_) (fun P1 h=>?_)
 refine Ac<|Ae rfl<|Ae rfl<|bk h fun K3 x3 h=>AZ (fst:=[]) (cap:=[]) .plain body162 rfl (e2 rfl rfl) (fun w9 hw9=>ar_c n _ w9 (x0.hL hL hw9) (Ar Y0 hw9) (x0.km h1_0 hw9) x3) rfl fun E4 E3 p2 ⟨z4,hu_,Q2⟩=>?_
 subst hu_
 obtain ⟨P0,q1⟩:=x0.agr p2
 refine Af rfl<|Aa<|dt 10 tb164_15 fun d0 s0=>Ag 0 1 d0 rfl s0 (fun _=>Ai rfl) rfl<|Ag 1 3 d0 rfl s0 (fun _=>Ai rfl) rfl<|Ag 2 7 d0 rfl s0 (fun _=>Ai rfl) rfl<|Ag 3 15 d0 rfl s0 (fun _=>Ai rfl) rfl<|bk h fun F1 j3 h=>?_
 obtain ⟨x1,k3⟩:=idx_in j3
 have y1:=Au W0 (Tt V0 q1)
 obtain ⟨I1,Y3,K0,X0,R1,R2,I2⟩:=St.nth (α:=Int) P0 .hd y1 k3
 obtain ⟨J1,Z3,v1⟩:=BU (α:=Int) P0 .hd X0
 obtain rfl:I1 = ⟨J1,0,none⟩:=by rw [v1] at K0; cases K0; rfl
 have z2:R1 = [vI F1]:=R2; subst z2
 refine Ag 4 31 d0 rfl s0 (fun _=>Bm 1 (b0.toNat) rfl K0 rfl x1 X0) rfl<|AG 5 63 1792 d0 rfl s0 (AL rfl (I2 0 _ rfl)) rfl<|Ag 6 127 d0 rfl s0 (fun _=>Ai rfl) rfl<|bk h fun A3 G2 h=>Ag 7 255 d0 rfl s0 (fun _=>FV.shlSI (i:=1) (q:=p0) rfl rfl G2) rfl<|bk h fun x4 Z2 h=>Ag 8 511 d0 rfl s0 (fun _=>BL (i:=F1) (j:=shlS 1 A3) rfl rfl Z2) rfl<|Ag 9 1023 d0 rfl s0 (fun _=>Bm 1 (b0.toNat) rfl K0 rfl x1 X0) rfl<|bk h fun H3 q3 h=>Be (i:=10) (rk d0) (RO.acts (m' :=2047) (sk d0) rfl rfl .plain (Acts.set (α:=Int) (i:=b0.toNat) q3 P0 v1 (fun _=>.hd) y1 rfl rfl rfl rfl rfl (by kernel_rfl)) (fun F4 ⟨U1,Y1,s1,t2⟩=>?_))
 refine AM (dk d0)<|g1 (K3,H3,E3,U1) Y1 (Tt q1 s1) ⟨(Ao Q2 s1),t2⟩ h
 refine Aq<|g1 (J3,j0,D3,q0) x0 (Bv _ _) ⟨Y0,(Au W0 V0)⟩ h
 refine Ba rfl ?_
 have h:=C2 _ h
 try dsimp only at h
 refine AA<|Av<|Ae rfl<|bk h fun C3 b3 h=>Ab (FV.subc (i:=b0) (j:=1) rfl rfl b3)<|Af rfl<|Aa<|V1 (C0,C3,j0,z0,q0) I0 (Tt Z1 p1) ⟨B1,W0⟩ h
 refine Ba rfl ?_
 have h:=B2 _ h
 try dsimp only at h
 refine Ac<|Ae rfl ?_
 have Q0:=By H0 .hd
 have c2:=Bz H0 .hd
 refine bk h fun M4 y3 h=>AZ (fst:=[]) (cap:=[]) .plain body163 rfl (e1 rfl) (fun w9 hw9=>aF_c n _ w9 (Q0.hL hL hw9) (Ar (BA (α:=Int) (v:=(.slice (some ⟨c0,0,none⟩) (((a0.length:Nat):Int) - (((a1.length:Nat):Int) - 1)).toNat (((a0.length:Nat):Int) - (((a1.length:Nat):Int) - 1)).toNat)) (xs:=g0) Q0 L (Bj (α:=Int) H0 .hd u1 hL)) hw9) y3) rfl fun G4 F3 q2 ⟨A4,hu_,U2⟩=>?_
 subst hu_
 obtain ⟨R0,d2⟩:=Q0.agr q2
 refine Ae rfl<|Af rfl<|Af rfl<|Aa<|Al rfl<|Ap hb0 Tryz.func164 rfl (.cons (.tmp rfl) (.cons (.tmp rfl) .nil)) rfl ?_
 cases h
 exact ⟨R0.ag,fun w9 hw9=>⟨F3,y0,rfl,R0.kd U2 hw9,R0.kd (Ao A1 (Tt c2 d2)) hw9⟩⟩
def tb130_1:List (Nat × Nat × Nat):=[(0,512,4),(1,1024,512),(0,2048,8),(4,4096,2048),(3,32,1024),(31,64,4096)]
theorem body164:bodyB Tryz.prog 164 = true:=by kernel_rfl
def aS_l1 (n:Nat) (d0:(List Int) × (List Int) -> Option (List Int)):(List Int) × (List Int) -> Option (List Int)
  | (c0,b0)=>(if 0 < b0.length then (aq_p n c0 b0).bind fun g0=>d0 (b0,g0.2) else some c0)
def aS_p (n:Nat) (a0:Td) (a1:Td):Option Td:=
  Option.bind (loopF (aS_l1 n) n (a0.fD,a1.fD)) (fun b0=>some (⟨false,b0⟩:Td))
theorem aS_c (n:Nat) (L:List Nat) (w:World) (hL:∀ b ∈ L,b < w.heap.size) (a0:Td) {v0_1:Value} (h0_1:Rep.R w L [v0_1] a0.fD) (a1:Td) {v1_1:Value} (h1_1:Rep.R w L [v1_1] a1.fD)  {r:Td} (h:aS_p n a0 a1 = some r) :
    Calls Tryz.prog 130 #[.agg #[.bool a0.fc,v0_1],.agg #[.bool a1.fc,v1_1]] w (Gives w fun w' u=>∃ v0_1:Value,u = .agg #[.bool r.fc,v0_1]/\Rep.R w' L [v0_1] r.fD):=by
 unfold aS_p at h
 refine AF Tryz.func130 rfl rfl rfl fun _ cs0 hb0=>Ac<|RG.bx (AB w) rfl rfl fun s1 W0 C0 Z0=>RG.bx C0 rfl rfl fun u1 X0 D0 b1=>RG.nl [.bool false,vN] D0 fun v1 p0 t0 c1=>Aa<|Aj<|dt 6 tb130_1 fun d0 j0=>Ag 0 1 d0 rfl j0 (fun _=>Bd 1 rfl) rfl<|AG 1 3 48 d0 rfl j0 (AL rfl ((t0.memA .t2) 1 _ rfl)) rfl<|Ag 2 7 d0 rfl j0 (fun _=>Bd 1 rfl) rfl<|AG 3 15 32 d0 rfl j0 (AL rfl ((t0.memA .t1) 1 _ rfl)) rfl<|Ag 4 31 d0 rfl j0 (fun _=>AU rfl) rfl<|Ag 5 63 d0 rfl j0 (fun _=>AU rfl) rfl<|AM (dk d0)<|Aj<|Ay ?_
 obtain ⟨u0,d1⟩:=AI t0 (.a0 .done)
 obtain ⟨k1,J0,I0⟩:=bind_in2 h
 refine MX.lf (α:=(List Int) × (List Int) × Value × Value) (fun ⟨k0,c0,b0,g0⟩=>[(4,vP p0),(5,b0),(6,g0)]) (fun ⟨k0,c0,b0,g0⟩=>[.cells p0 [.bool false,vN] 134]) (fun ⟨k0,c0,b0,g0⟩ y0=>Rep.R y0 (bl [.cells p0 [.bool false,vN] 134] ++ L) [b0] k0/\Rep.R y0 (bl [.cells p0 [.bool false,vN] 134] ++ L) [g0] c0) (fun ⟨k0,c0,b0,g0⟩=>(k0,c0)) (a0.fD,a1.fD,v0_1,v1_1) J0 u0 ⟨(AO h0_1 u0),(AO h1_1 u0)⟩ ?_
 rintro V0 ⟨k0,c0,b0,g0⟩ y0 B0 v0 F0 ⟨q0,s0⟩ h
 unfold aS_l1 at h
 try dsimp only at h
 refine Aj<|Ac<|Ae rfl ?_
 have g1:c0.length <= 281474976710656:=AY s0
 refine Ab (Bc (xs:=c0) Tryz.underlying45 rfl s0)<|Ab (FV.gtrN (i:=c0.length) (j:=0) rfl rfl)<|Aa<|AS rfl h (fun A0 h=>?_) (fun A0 h=>?_)
 refine Aq<|Ay<|Ac<|Ae rfl<|Ae rfl<|bk h fun R0 P0 h=>AZ (fst:=[]) (cap:=[]) .plain body164 rfl (e2 rfl rfl) (fun w9 hw9=>aq_c n _ w9 (v0.hL hL hw9) (Ar q0 hw9) (Ar s0 hw9) P0) rfl fun x1 q1 H0 ⟨p1,Q0,hu_,j1,K0⟩=>?_
 subst hu_
 obtain ⟨E0,z0⟩:=v0.agr H0
 refine Ae rfl<|Ab (Ah rfl rfl)<|Ab (Ah rfl rfl)<|Af rfl<|Af rfl<|Aa<|Av<|Ae rfl<|Ae rfl<|Af rfl<|Af rfl<|Aa<|AA<|B0 (c0,R0.2,g0,Q0) E0 (Tt F0 z0) ⟨(Ao s0 z0),K0⟩ h
 refine Ba rfl ?_
 have h:=I0 _ h
 try dsimp only at h
 refine Ac<|Ae rfl ?_
 obtain ⟨U0,Y0,M0,_⟩:=BV q0
 refine Ab (AX (vs:=[b0]) (u:=.agg #[.bool false,b0]) (e1 rfl) (fun w9=>by rw [M0]; try kernel_rfl))<|AQ [.bool false,b0] v0 .hd (o2 rfl (AR q0)) fun y1 x0 G0=>Aa<|Al rfl<|Ap hb0 Tryz.func130 rfl (.cons (.many (cs:=[.bool false,b0]) (by kernel_rfl) rfl (x0.memA .hd)) .nil) rfl ?_
 cases h
 exact ⟨x0.ag,fun w9 hw9=>⟨b0,rfl,x0.kd (Ao q0 G0) hw9⟩⟩
def ab_p (n:Nat) (a0:Bool) (a1:List Int):Option Td:=
  (aF_p n a1).bind fun b0=>(if a0 = true then some (⟨(decide (0 < b0.length)),b0⟩:Td) else some (⟨false,b0⟩:Td))
theorem ab_c (n:Nat) (L:List Nat) (w:World) (hL:∀ b ∈ L,b < w.heap.size) {a0:Bool} {a1:List Int} {v1_0:Value} (h1_0:Rep.R w L [v1_0] a1)  {r:Td} (h:ab_p n a0 a1 = some r) :
    Calls Tryz.prog 161 #[.bool a0,v1_0] w (Gives w fun w' u=>∃ v0_1:Value,u = .agg #[.bool r.fc,v0_1]/\Rep.R w' L [v0_1] r.fD):=by
 unfold ab_p at h
 refine AF Tryz.func161 rfl rfl rfl fun _ cs0 hb0=>Ac<|RG.nl [.bool false,vN] (AB w) fun I0 B0 g0 E0=>Aa<|Ac<|Ae rfl<|bk h fun d0 y0 h=>AZ (fst:=[]) (cap:=[]) .plain body163 rfl (e1 rfl) (fun w9 hw9=>aF_c n _ w9 (g0.hL hL hw9) (g0.km h1_0 hw9) y0) rfl fun J0 b0 u0 ⟨H0,hu_,c0⟩=>?_
 subst hu_
 obtain ⟨p0,F0⟩:=g0.agr u0
 refine Af rfl<|Aa<|Ac<|Ae rfl<|Ae rfl<|RG.ifb (s:=8) rfl h (fun q0 h=>?_) (fun q0 h=>?_)
 refine AJ (Ai rfl) ?_
 have G0:d0.length <= 281474976710656:=AY c0
 refine AJ (Bc (xs:=d0) Tryz.underlying45 rfl c0)<|AJ (FV.gtrN (i:=d0.length) (j:=0) rfl rfl)<|Br rfl rfl<|Ae rfl ?_
 obtain ⟨z0,C0,v0,_⟩:=BV c0
 refine Ab (AX (vs:=[.bool (decide (0 < d0.length)),b0]) (u:=.agg #[.bool (decide (0 < d0.length)),b0]) (e2 rfl rfl) (fun w9=>by rw [v0]; try kernel_rfl))<|AQ [.bool (decide (0 < d0.length)),b0] p0 .hd (o2 rfl (AR c0)) fun K0 j0 s0=>Aa<|Al rfl<|Ap hb0 Tryz.func161 rfl (.cons (.many (cs:=[.bool (decide (0 < d0.length)),b0]) (by kernel_rfl) rfl (j0.memA .hd)) .nil) rfl ?_
 cases h
 exact ⟨j0.ag,fun w9 hw9=>⟨b0,rfl,j0.kd (Ao c0 s0) hw9⟩⟩
 refine Aw<|Aw<|Aw<|Bx rfl rfl<|Ae rfl ?_
 obtain ⟨A0,D0,x0,_⟩:=BV c0
 refine Ab (AX (vs:=[.bool false,b0]) (u:=.agg #[.bool false,b0]) (e2 rfl rfl) (fun w9=>by rw [x0]; try kernel_rfl))<|AQ [.bool false,b0] p0 .hd (o2 rfl (AR c0)) fun M0 k0 t0=>Aa<|Al rfl<|Ap hb0 Tryz.func161 rfl (.cons (.many (cs:=[.bool false,b0]) (by kernel_rfl) rfl (k0.memA .hd)) .nil) rfl ?_
 cases h
 exact ⟨k0.ag,fun w9 hw9=>⟨b0,rfl,k0.kd (Ao c0 t0) hw9⟩⟩
theorem body161:bodyB Tryz.prog 161 = true:=by kernel_rfl
def bR_p (n:Nat) (a0:Td):Option Td:=
  (ab_p n (!a0.fc) a0.fD).bind fun b0=>some b0
theorem bR_c (n:Nat) (L:List Nat) (w:World) (hL:∀ b ∈ L,b < w.heap.size) (a0:Td) {v0_1:Value} (h0_1:Rep.R w L [v0_1] a0.fD)  {r:Td} (h:bR_p n a0 = some r) :
    Calls Tryz.prog 136 #[.agg #[.bool a0.fc,v0_1]] w (Gives w fun w' u=>∃ v0_1:Value,u = .agg #[.bool r.fc,v0_1]/\Rep.R w' L [v0_1] r.fD):=by
 unfold bR_p at h
 refine AF Tryz.func136 rfl rfl rfl fun _ cs0 hb0=>Ac<|RG.bx (AB w) rfl rfl fun B0 u0 k0 x0=>RG.nl [.bool false,vN] k0 fun C0 v0 b0 y0=>Aa<|Ac<|AV 0 rfl<|AP rfl ((b0.memA .t1) 0 _ rfl)<|Ab (Bo rfl)<|AV 1 rfl<|AP rfl ((b0.memA .t1) 1 _ rfl)<|bk h fun j0 t0 h=>AZ (fst:=[]) (cap:=[]) .plain body161 rfl (e2 rfl rfl) (fun w9 hw9=>ab_c n _ w9 (b0.hL hL hw9) (b0.km h0_1 hw9) t0) rfl fun D0 A0 s0 ⟨d0,hu_,g0⟩=>?_
 subst hu_
 obtain ⟨p0,z0⟩:=b0.agr s0
 refine AQ [.bool j0.fc,d0] p0 .hd (o2 rfl (AR g0)) fun E0 c0 q0=>Aa<|Al rfl<|Ap hb0 Tryz.func136 rfl (.cons (.many (cs:=[.bool j0.fc,d0]) (by kernel_rfl) rfl (c0.memA .hd)) .nil) rfl ?_
 cases h
 exact ⟨c0.ag,fun w9 hw9=>⟨d0,rfl,c0.kd (Ao g0 q0) hw9⟩⟩
def ce_l1 (_n:Nat) (a0:List Int) (a1:List Int) (g0:Int × Int × (List Int) -> Option (List Int)):Int × Int × (List Int) -> Option (List Int)
  | (c0,b0,d0)=>(if b0 < ((a0.length:Nat):Int) then (idx a0 b0).bind fun C0=>(chk (c0 + C0)).bind fun k0=>jn (fun q0=>(remI q0 4294967296).bind fun s0=>(app d0 ([s0]:List Int)).bind fun F0=>(quoI q0 4294967296).bind fun t0=>(chk (b0 + 1)).bind fun u0=>g0 (t0,u0,F0)) (fun j0=>(if b0 < ((a1.length:Nat):Int) then (idx a1 b0).bind fun D0=>(chk (k0 + D0)).bind fun v0=>j0 v0 else j0 k0)) else (if b0 < ((a1.length:Nat):Int) then (idx a1 b0).bind fun E0=>(chk (c0 + E0)).bind fun p0=>(remI p0 4294967296).bind fun x0=>(app d0 ([x0]:List Int)).bind fun G0=>(quoI p0 4294967296).bind fun y0=>g0 (y0,b0 + 1,G0) else (if 0 < c0 then (remI c0 4294967296).bind fun z0=>(app d0 ([z0]:List Int)).bind fun H0=>(quoI c0 4294967296).bind fun A0=>(chk (b0 + 1)).bind fun B0=>g0 (A0,B0,H0) else some d0)))
def ce_p (n:Nat) (a0:List Int) (a1:List Int):Option (List Int):=
  Option.bind (loopF (ce_l1 n a0 a1) n (0,0,([]:List Int))) (fun b0=>some b0)
theorem ce_c (n:Nat) (L:List Nat) (w:World) (hL:∀ b ∈ L,b < w.heap.size) {a0:List Int} {v0_0:Value} (h0_0:Rep.R w L [v0_0] a0) {a1:List Int} {v1_0:Value} (h1_0:Rep.R w L [v1_0] a1)  {r:List Int} (h:ce_p n a0 a1 = some r) :
    Calls Tryz.prog 168 #[v0_0,v1_0] w (Gives w fun w' u=>∃ v0_0:Value,u = v0_0/\Rep.R w' L [v0_0] r):=by
 unfold ce_p at h
 have hS0:=AB w
 refine AF Tryz.func168 rfl rfl rfl fun _ cs0 hb0=>Ac<|Af rfl<|Aa<|Ac<|Af rfl<|Aa<|Ac<|Af rfl<|Aa<|Aj<|Ac<|Af rfl<|Aa<|Ay ?_
 have I0:=hS0.nilRow 3 (Rep.size Int)
 have B3:=St.nilRowT hS0 3 (Rep.size Int)
 obtain ⟨G3,j2,U1⟩:=bind_in2 h
 refine MX.lf (α:=Int × Int × (List Int) × Value × (List Value)) (fun ⟨g0,b0,j0,d0,k0⟩=>[(0,v0_0),(1,v1_0),(5,d0),(6,vI g0),(7,vI b0)]) (fun ⟨g0,b0,j0,d0,k0⟩=>[.row w.heap.size 3 (Rep.size Int) d0 j0.length k0]) (fun ⟨g0,b0,j0,d0,k0⟩ X0=>Cells X0 (bl [.row w.heap.size 3 (Rep.size Int) d0 j0.length k0] ++ L) k0 j0) (fun ⟨g0,b0,j0,d0,k0⟩=>(g0,b0,j0)) (0,0,([]:List Int),vN,[]) j2 I0 (Ax (cs:=[]) (xs:=([]:List Int)) I0 L (AD _ _)) ?_
 rintro s3 ⟨g0,b0,j0,d0,k0⟩ X0 A0 c0 F0 y0 h
 unfold ce_l1 at h
 try dsimp only at h
 refine Aj<|Ac<|Ae rfl<|Ae rfl ?_
 have u0:=AO h0_0 c0
 have D3:a0.length <= 281474976710656:=AY u0
 refine Ab (Bc (xs:=a0) Tryz.underlying45 rfl u0)<|Ab (BR (i:=b0) (j:=((a0.length:Nat):Int)) rfl rfl)<|Ae rfl<|BE (s:=12) rfl h (fun x0 h=>?_) (fun x0 h=>?_)
 refine Aw<|Aw<|Aw<|Aw<|Br rfl rfl<|Ae rfl<|Aw<|Aw<|Br rfl rfl<|Aa<|Bk rfl<|Aq<|Aj<|Ay<|Aj<|Ac<|Ae rfl<|Ae rfl<|Ab (Bc (xs:=a0) Tryz.underlying45 rfl u0)<|Ab (BR (i:=b0) (j:=((a0.length:Nat):Int)) rfl rfl)<|Aa<|MX.cond_kt rfl (decide_eq_true x0)<|Av<|Ae rfl<|Ae rfl<|Ae rfl<|bk h fun Y0 F2 h=>?_
 obtain ⟨V1,G2⟩:=idx_in F2
 obtain ⟨k3,y3,J1,Y1,j1,k2,c2⟩:=Bl u0 G2
 have K1:j1 = [vI Y0]:=k2; subst K1
 refine Ab (Bm 1 (b0.toNat) rfl J1 rfl V1 Y1)<|AP rfl (c2 0 _ rfl)<|bk h fun V0 t2 h=>Ab (BL (i:=g0) (j:=Y0) rfl rfl t2)<|Af rfl<|Aa<|Aj<|Ac<|Ae rfl<|Ae rfl ?_
 have G0:=AO h1_0 c0
 have E3:a1.length <= 281474976710656:=AY G0
 refine Ab (Bc (xs:=a1) Tryz.underlying45 rfl G0)<|Ab (BR (i:=b0) (j:=((a1.length:Nat):Int)) rfl rfl)<|Aa<|MX.jo (α:=Int) (fun t0=>[(0,v0_0),(1,v1_0),(5,d0),(6,vI t0),(7,vI b0)]) (fun t0=>[.row w.heap.size 3 (Rep.size Int) d0 j0.length k0]) (fun t0=>t0) c0 h ?_ ?_
 rintro t0 Q3 v1 J0 h
 try dsimp only at h
 refine Ac<|Ae rfl<|Ae rfl<|bk h fun p0 u2 h=>Ab (FV.remc (i:=t0) (j:=4294967296) rfl rfl u2)<|Ak .plain rfl (AE (α:=Int) (xs:=([p0]:List Int)) (vs:=[vI p0]) (ds' :=[vI p0]) rfl v1 el45 rfl (e1 rfl) (by kernel_rfl) rfl) fun H3 u3 B0 K0=>bk h fun d3 M2 h=>RG.doesL .plain rfl (AW (α:=Int) (ys:=([p0]:List Int)) M2 B0 (fun _ _=>.t1) el45 rfl rfl (Au y0 (Tt J0 K0)) (Src.row (α:=Int) B0 .hd (Ax (cs:=[vI p0]) (xs:=(([p0]:List Int):List Int)) B0 L (Am (cs:=[vI p0]) (ds:=[]) rfl (AD _ _))))) fun Z2 I3 ⟨k1,x1,D1,G1⟩=>Af rfl<|Aa<|Av<|Ae rfl<|bk h fun R2 v2 h=>Ab (FV.quoc (i:=t0) (j:=4294967296) rfl rfl v2)<|Af rfl<|Aa<|AA<|Av<|Ae rfl<|bk h fun U2 x2 h=>Ab (BL (i:=b0) (j:=1) rfl rfl x2)<|Af rfl<|Aa ?_
 obtain ⟨y1,M0⟩:=AI x1 .d1
 exact A0 (R2,U2,d3,Z2,k1) y1 (Tt F0 (Tt J0 (Tt K0 (Tt D1 M0)))) (Au G1 M0) h
 intro t3 H0 h
 try dsimp only at h
 refine AS rfl h (fun c1 h=>?_) (fun c1 h=>?_)
 refine Av<|Ae rfl<|Ae rfl<|Ae rfl<|bk h fun Z0 H2 h=>?_
 obtain ⟨W1,I2⟩:=idx_in H2
 obtain ⟨p3,z3,M1,Z1,p1,p2,d2⟩:=Bl G0 I2
 have P1:p1 = [vI Z0]:=p2; subst P1
 refine Ab (Bm 1 (b0.toNat) rfl M1 rfl W1 Z1)<|AP rfl (d2 0 _ rfl)<|bk h fun V2 y2 h=>Ab (BL (i:=V0) (j:=Z0) rfl rfl y2)<|Af rfl<|Aa<|H0 V2 c0 (Bv _ _) h
 refine Aq<|H0 V0 c0 (Bv _ _) h
 refine AJ (Ai rfl)<|AJ (Ai rfl) ?_
 have v0:=AO h1_0 c0
 have F3:a1.length <= 281474976710656:=AY v0
 refine AJ (Bc (xs:=a1) Tryz.underlying45 rfl v0)<|AJ (BR (i:=b0) (j:=((a1.length:Nat):Int)) rfl rfl)<|Bx rfl rfl<|Ae rfl<|BE (s:=18) rfl h (fun z0 h=>?_) (fun z0 h=>?_)
 refine Aw<|Aw<|Br rfl rfl<|Aa<|Bk rfl<|Aq<|Aj<|Ay<|Aj<|Ac<|Ae rfl<|Ae rfl<|Ab (Bc (xs:=a0) Tryz.underlying45 rfl u0)<|Ab (BR (i:=b0) (j:=((a0.length:Nat):Int)) rfl rfl)<|Aa<|MX.cond_kf rfl (decide_eq_false x0)<|Aq<|Aj<|Ac<|Ae rfl<|Ae rfl<|Ab (Bc (xs:=a1) Tryz.underlying45 rfl v0)<|Ab (BR (i:=b0) (j:=((a1.length:Nat):Int)) rfl rfl)<|Aa<|MX.cond_kt rfl (decide_eq_true z0)<|Av<|Ae rfl<|Ae rfl<|Ae rfl<|bk h fun b1 J2 h=>?_
 obtain ⟨X1,K2⟩:=idx_in J2
 obtain ⟨q3,A3,Q1,b2,q1,q2,g2⟩:=Bl v0 K2
 have R1:q1 = [vI b1]:=q2; subst R1
 refine Ab (Bm 1 (b0.toNat) rfl Q1 rfl X1 b2)<|AP rfl (g2 0 _ rfl)<|bk h fun W0 z2 h=>Ab (BL (i:=g0) (j:=b1) rfl rfl z2)<|Af rfl<|Aa<|Ac<|Ae rfl<|Ae rfl<|bk h fun q0 A2 h=>Ab (FV.remc (i:=W0) (j:=4294967296) rfl rfl A2)<|Ak .plain rfl (AE (α:=Int) (xs:=([q0]:List Int)) (vs:=[vI q0]) (ds' :=[vI q0]) rfl c0 el45 rfl (e1 rfl) (by kernel_rfl) rfl) fun J3 v3 C0 P0=>bk h fun g3 P2 h=>RG.doesL .plain rfl (AW (α:=Int) (ys:=([q0]:List Int)) P2 C0 (fun _ _=>.t1) el45 rfl rfl (Au y0 P0) (Src.row (α:=Int) C0 .hd (Ax (cs:=[vI q0]) (xs:=(([q0]:List Int):List Int)) C0 L (Am (cs:=[vI q0]) (ds:=[]) rfl (AD _ _))))) fun b3 K3 ⟨s1,z1,E1,H1⟩=>Af rfl<|Aa<|Av<|Ae rfl<|bk h fun W2 B2 h=>Ab (FV.quoc (i:=W0) (j:=4294967296) rfl rfl B2)<|Af rfl<|Aa<|AA<|Av<|Ae rfl<|Ab (FV.addI (i:=b0) (j:=1) rfl rfl (by omega))<|Af rfl<|Aa ?_
 obtain ⟨A1,Q0⟩:=AI z1 .d1
 exact A0 (W2,b0 + 1,g3,b3,s1) A1 (Tt F0 (Tt P0 (Tt E1 Q0))) (Au H1 Q0) h
 refine AJ (Ai rfl)<|AJ (FV.gtr (i:=g0) (j:=0) rfl rfl)<|Bx rfl rfl<|Aa<|AS rfl h (fun g1 h=>?_) (fun g1 h=>?_)
 refine Aq<|Aj<|Ay<|Aj<|Ac<|Ae rfl<|Ae rfl<|Ab (Bc (xs:=a0) Tryz.underlying45 rfl u0)<|Ab (BR (i:=b0) (j:=((a0.length:Nat):Int)) rfl rfl)<|Aa<|MX.cond_kf rfl (decide_eq_false x0)<|Aq<|Aj<|Ac<|Ae rfl<|Ae rfl<|Ab (Bc (xs:=a1) Tryz.underlying45 rfl v0)<|Ab (BR (i:=b0) (j:=((a1.length:Nat):Int)) rfl rfl)<|Aa<|MX.cond_kf rfl (decide_eq_false z0)<|Aq<|Ac<|Ae rfl<|Ae rfl<|bk h fun s0 C2 h=>Ab (FV.remc (i:=g0) (j:=4294967296) rfl rfl C2)<|Ak .plain rfl (AE (α:=Int) (xs:=([s0]:List Int)) (vs:=[vI s0]) (ds' :=[vI s0]) rfl c0 el45 rfl (e1 rfl) (by kernel_rfl) rfl) fun M3 x3 D0 R0=>bk h fun j3 Q2 h=>RG.doesL .plain rfl (AW (α:=Int) (ys:=([s0]:List Int)) Q2 D0 (fun _ _=>.t1) el45 rfl rfl (Au y0 R0) (Src.row (α:=Int) D0 .hd (Ax (cs:=[vI s0]) (xs:=(([s0]:List Int):List Int)) D0 L (Am (cs:=[vI s0]) (ds:=[]) rfl (AD _ _))))) fun c3 P3 ⟨u1,B1,F1,I1⟩=>Af rfl<|Aa<|Av<|Ae rfl<|bk h fun X2 D2 h=>Ab (FV.quoc (i:=g0) (j:=4294967296) rfl rfl D2)<|Af rfl<|Aa<|AA<|Av<|Ae rfl<|bk h fun Y2 E2 h=>Ab (BL (i:=b0) (j:=1) rfl rfl E2)<|Af rfl<|Aa ?_
 obtain ⟨C1,U0⟩:=AI B1 .d1
 exact A0 (X2,Y2,j3,c3,u1) C1 (Tt F0 (Tt R0 (Tt F1 U0))) (Au I1 U0) h
 refine Ba rfl ?_
 have h:=U1 _ h
 try dsimp only at h
 refine Ac<|Ae rfl<|Af rfl<|Aa<|Al rfl ?_
 have E0:=By c0 .hd
 have C3:=Bz c0 .hd
 have s2:=BA (α:=Int) (v:=d0) (xs:=j0) E0 L (Bj (α:=Int) c0 .hd y0 hL)
 refine AT hb0 Tryz.func168 rfl rfl ?_
 cases h
 exact ⟨E0.ag,fun w9 hw9=>⟨d0,rfl,E0.kd s2 hw9⟩⟩
def tb139_2:List (Nat × Nat × Nat):=[(0,1024,4),(1,2048,1024),(0,4096,4),(4,8192,4096),(0,16384,8),(16,32768,16384),(40,65536,40960),(66,131072,67584),(255,0,131088)]
def tb139_4:List (Nat × Nat × Nat):=[(0,16777216,4),(1,33554432,16777216),(0,67108864,4),(4,134217728,67108864),(0,268435456,8),(16,536870912,268435456),(40,1073741824,671088640),(66,2147483648,1107296256),(255,0,2147483664)]
def tb139_5:List (Nat × Nat × Nat):=[(0,4294967296,8),(1,8589934592,4294967296),(0,17179869184,8),(4,34359738368,17179869184),(0,68719476736,4),(16,137438953472,68719476736),(40,274877906944,171798691840),(66,549755813888,283467841536),(255,0,549755813904)]
theorem body168:bodyB Tryz.prog 168 = true:=by kernel_rfl
def bS_p (n:Nat) (a0:Td) (a1:Td):Option Td:=
  (if (a0.fc == a1.fc) = true then (ce_p n a0.fD a1.fD).bind fun b0=>(ab_p n a0.fc b0).bind fun c0=>some c0 else (aC_p n a0.fD a1.fD).bind fun d0=>(if 0 <= d0 then (ar_p n a0.fD a1.fD).bind fun g0=>(ab_p n a0.fc g0).bind fun j0=>some j0 else (ar_p n a1.fD a0.fD).bind fun k0=>(ab_p n a1.fc k0).bind fun p0=>some p0))
theorem bS_c (n:Nat) (L:List Nat) (w:World) (hL:∀ b ∈ L,b < w.heap.size) (a0:Td) {v0_1:Value} (h0_1:Rep.R w L [v0_1] a0.fD) (a1:Td) {v1_1:Value} (h1_1:Rep.R w L [v1_1] a1.fD)  {r:Td} (h:bS_p n a0 a1 = some r) :
    Calls Tryz.prog 139 #[.agg #[.bool a0.fc,v0_1],.agg #[.bool a1.fc,v1_1]] w (Gives w fun w' u=>∃ v0_1:Value,u = .agg #[.bool r.fc,v0_1]/\Rep.R w' L [v0_1] r.fD):=by
 unfold bS_p at h
 refine AF Tryz.func139 rfl rfl rfl fun _ cs0 hb0=>Ac<|RG.bx (AB w) rfl rfl fun b2 A1 M0 D1=>RG.bx M0 rfl rfl fun c2 B1 P0 E1=>RG.nl [.bool false,vN] P0 fun d2 C1 b0 F1=>Aa<|Aj<|Ac<|AV 0 rfl<|AP rfl ((b0.memA .t2) 0 _ rfl)<|AV 0 rfl<|AP rfl ((b0.memA .t1) 0 _ rfl)<|Ab (FV.eqlB (a:=a0.fc) (b:=a1.fc) Tryz.underlying4 rfl rfl)<|Aa<|MX.ifb rfl h (fun J0 h=>?_) (fun J0 h=>?_)
 refine Aj<|dt 8 tb139_2 fun c0 j0=>Ag 0 1 c0 rfl j0 (fun _=>Bd 0 rfl) rfl<|AG 1 3 384 c0 rfl j0 (AL rfl ((b0.memA .t2) 0 _ rfl)) rfl<|Ag 2 7 c0 rfl j0 (fun _=>Bd 1 rfl) rfl<|AG 3 15 448 c0 rfl j0 (AL rfl ((b0.memA .t2) 1 _ rfl)) rfl<|Ag 4 31 c0 rfl j0 (fun _=>Bd 1 rfl) rfl<|AG 5 63 448 c0 rfl j0 (AL rfl ((b0.memA .t1) 1 _ rfl)) rfl<|bk h fun y2 q1 h=>BB 6 127 c0 rfl .plain body168 rfl (e2 rfl rfl) (fun w9 hw9=>ce_c n _ w9 (b0.hL hL hw9) (b0.km h0_1 hw9) (b0.km h1_1 hw9) q1) rfl fun g2 U1 Y0 ⟨P1,hu_,j1⟩=>?_
 subst hu_
 obtain ⟨z0,G1⟩:=b0.agr Y0
 refine bk h fun F0 s1 h=>BB 7 255 c0 rfl .plain body161 rfl (e2 rfl rfl) (fun w9 hw9=>ab_c n _ w9 (z0.hL hL hw9) (Ar j1 hw9) s1) rfl fun j2 V1 Z0 ⟨v0,hu_,C0⟩=>?_
 subst hu_
 obtain ⟨Q0,H1⟩:=z0.agr Z0
 refine BJ 8 511 c0 rfl rfl .plain (AH (news:=[.bool F0.fc,v0]) Q0 .hd rfl rfl rfl rfl rfl rfl (o2 rfl (AR C0))) fun k2 s0 V0=>AM (dk c0)<|Al rfl<|Ap hb0 Tryz.func139 rfl (.cons (.many (cs:=[.bool F0.fc,v0]) (by kernel_rfl) rfl (s0.memA .hd)) .nil) rfl ?_
 cases h
 exact ⟨s0.ag,fun w9 hw9=>⟨v0,rfl,s0.kd (Ao C0 V0) hw9⟩⟩
 refine Aq<|Aj<|Ac<|AV 1 rfl<|AP rfl ((b0.memA .t2) 1 _ rfl)<|AV 1 rfl<|AP rfl ((b0.memA .t1) 1 _ rfl)<|bk h fun G0 u1 h=>Bi (vI G0) body166 rfl (e2 rfl rfl) (fun w9 hw9=>aC_c n _ w9 (b0.hL0 hL hw9) (b0.k0 h0_1 hw9) (b0.k0 h1_1 hw9) u1) rfl<|Ab (FV.geq (i:=G0) (j:=0) rfl rfl)<|Aa<|AS rfl h (fun K0 h=>?_) (fun K0 h=>?_)
 refine Aj<|dt 8 tb139_4 fun d0 p0=>Ag 0 1 d0 rfl p0 (fun _=>Bd 0 rfl) rfl<|AG 1 3 384 d0 rfl p0 (AL rfl ((b0.memA .t2) 0 _ rfl)) rfl<|Ag 2 7 d0 rfl p0 (fun _=>Bd 1 rfl) rfl<|AG 3 15 448 d0 rfl p0 (AL rfl ((b0.memA .t2) 1 _ rfl)) rfl<|Ag 4 31 d0 rfl p0 (fun _=>Bd 1 rfl) rfl<|AG 5 63 448 d0 rfl p0 (AL rfl ((b0.memA .t1) 1 _ rfl)) rfl<|bk h fun z2 v1 h=>BB 6 127 d0 rfl .plain body162 rfl (e2 rfl rfl) (fun w9 hw9=>ar_c n _ w9 (b0.hL hL hw9) (b0.km h0_1 hw9) (b0.km h1_1 hw9) v1) rfl fun p2 W1 b1 ⟨Q1,hu_,k1⟩=>?_
 subst hu_
 obtain ⟨A0,I1⟩:=b0.agr b1
 refine bk h fun H0 x1 h=>BB 7 255 d0 rfl .plain body161 rfl (e2 rfl rfl) (fun w9 hw9=>ab_c n _ w9 (A0.hL hL hw9) (Ar k1 hw9) x1) rfl fun q2 X1 c1 ⟨x0,hu_,D0⟩=>?_
 subst hu_
 obtain ⟨R0,J1⟩:=A0.agr c1
 refine BJ 8 511 d0 rfl rfl .plain (AH (news:=[.bool H0.fc,x0]) R0 .hd rfl rfl rfl rfl rfl rfl (o2 rfl (AR D0))) fun s2 t0 W0=>AM (dk d0)<|Al rfl<|Ap hb0 Tryz.func139 rfl (.cons (.many (cs:=[.bool H0.fc,x0]) (by kernel_rfl) rfl (t0.memA .hd)) .nil) rfl ?_
 cases h
 exact ⟨t0.ag,fun w9 hw9=>⟨x0,rfl,t0.kd (Ao D0 W0) hw9⟩⟩
 refine Aq<|Aj<|dt 8 tb139_5 fun g0 q0=>Ag 0 1 g0 rfl q0 (fun _=>Bd 0 rfl) rfl<|AG 1 3 384 g0 rfl q0 (AL rfl ((b0.memA .t1) 0 _ rfl)) rfl<|Ag 2 7 g0 rfl q0 (fun _=>Bd 1 rfl) rfl<|AG 3 15 448 g0 rfl q0 (AL rfl ((b0.memA .t1) 1 _ rfl)) rfl<|Ag 4 31 g0 rfl q0 (fun _=>Bd 1 rfl) rfl<|AG 5 63 448 g0 rfl q0 (AL rfl ((b0.memA .t2) 1 _ rfl)) rfl<|bk h fun A2 y1 h=>BB 6 127 g0 rfl .plain body162 rfl (e2 rfl rfl) (fun w9 hw9=>ar_c n _ w9 (b0.hL hL hw9) (b0.km h1_1 hw9) (b0.km h0_1 hw9) y1) rfl fun u2 Y1 d1 ⟨R1,hu_,p1⟩=>?_
 subst hu_
 obtain ⟨B0,K1⟩:=b0.agr d1
 refine bk h fun I0 z1 h=>BB 7 255 g0 rfl .plain body161 rfl (e2 rfl rfl) (fun w9 hw9=>ab_c n _ w9 (B0.hL hL hw9) (Ar p1 hw9) z1) rfl fun v2 Z1 g1 ⟨y0,hu_,E0⟩=>?_
 subst hu_
 obtain ⟨U0,M1⟩:=B0.agr g1
 refine BJ 8 511 g0 rfl rfl .plain (AH (news:=[.bool I0.fc,y0]) U0 .hd rfl rfl rfl rfl rfl rfl (o2 rfl (AR E0))) fun x2 u0 X0=>AM (dk g0)<|Al rfl<|Ap hb0 Tryz.func139 rfl (.cons (.many (cs:=[.bool I0.fc,y0]) (by kernel_rfl) rfl (u0.memA .hd)) .nil) rfl ?_
 cases h
 exact ⟨u0.ag,fun w9 hw9=>⟨y0,rfl,u0.kd (Ao E0 X0) hw9⟩⟩
def aT_p (n:Nat) (a0:Int):Option Td:=
  jn (fun u16=>(ab_p n (decide (a0 < 0)) ([i64of (u16 % (4294967296:UInt64)),i64of (u16 / (4294967296:UInt64))]:List Int)).bind fun c0=>some c0) (fun b0=>(if a0 < 0 then b0 (-(u64of a0)) else b0 (u64of a0)))
theorem aT_c (n:Nat) (L:List Nat) (w:World) (hL:∀ b ∈ L,b < w.heap.size) {a0:Int}  {r:Td} (h:aT_p n a0 = some r) :
    Calls Tryz.prog 152 #[vI a0] w (Gives w fun w' u=>∃ v0_1:Value,u = .agg #[.bool r.fc,v0_1]/\Rep.R w' L [v0_1] r.fD):=by
 unfold aT_p at h
 refine AF Tryz.func152 rfl rfl rfl fun _ cs0 hb0=>Ac<|RG.nl [.bool false,vN] (AB w) fun I0 k0 c0 C0=>Aa<|Ac<|Ae rfl<|Ab (BR (i:=a0) (j:=0) rfl rfl)<|Af rfl<|Aa<|Ac<|Ae rfl<|Ab (FV.convU (i:=a0) Tryz.underlying3 Tryz.underlying33 rfl)<|Af rfl<|Aa<|Aj<|Ac<|Ae rfl<|Aa<|MX.jo (α:=UInt64) (fun u16=>[(2,vP k0),(3,.bool (decide (a0 < 0))),(4,vU u16)]) (fun u16=>[.cells k0 [.bool false,vN] 134]) (fun u16=>u16) c0 h ?_ ?_
 rintro u16 P0 v0 D0 h
 try dsimp only at h
 refine Ac<|Ae rfl<|Ae rfl<|Ab (FV.remU (a:=u16) (b:=(4294967296:UInt64)) rfl rfl (by decide))<|Ab (FV.convUI (a:=u16 % (4294967296:UInt64)) Tryz.underlying33 Tryz.underlying3 rfl)<|Ae rfl<|Ab (FV.quoU (a:=u16) (b:=(4294967296:UInt64)) rfl rfl (by decide))<|Ab (FV.convUI (a:=u16 / (4294967296:UInt64)) Tryz.underlying33 Tryz.underlying3 rfl)<|Ak .plain rfl (AE (α:=Int) (xs:=([i64of (u16 % (4294967296:UInt64)),i64of (u16 / (4294967296:UInt64))]:List Int)) (vs:=[vI (i64of (u16 % (4294967296:UInt64))),vI (i64of (u16 / (4294967296:UInt64)))]) (ds' :=[vI (i64of (u16 % (4294967296:UInt64))),vI (i64of (u16 / (4294967296:UInt64)))]) rfl v0 el45 rfl (e2 rfl rfl) (by kernel_rfl) rfl) fun J0 t0 b0 E0=>?_
 have d0:=By b0 .hd
 have F0:=Bz b0 .hd
 refine bk h fun s0 A0 h=>AZ (fst:=[]) (cap:=[]) .plain body161 rfl (e2 rfl rfl) (fun w9 hw9=>ab_c n _ w9 (d0.hL hL hw9) (Ar (BA (α:=Int) (v:=(vS t0 2)) (xs:=([i64of (u16 % (4294967296:UInt64)),i64of (u16 / (4294967296:UInt64))]:List Int)) d0 L (Bj (α:=Int) b0 .hd (Ax (cs:=[vI (i64of (u16 % (4294967296:UInt64))),vI (i64of (u16 / (4294967296:UInt64)))]) (xs:=(([i64of (u16 % (4294967296:UInt64)),i64of (u16 / (4294967296:UInt64))]:List Int):List Int)) b0 L (Am (cs:=[vI (i64of (u16 % (4294967296:UInt64)))]) (ds:=[vI (i64of (u16 / (4294967296:UInt64)))]) rfl (Am (cs:=[vI (i64of (u16 / (4294967296:UInt64)))]) (ds:=[]) rfl (AD _ _)))) hL)) hw9) A0) rfl fun K0 H0 z0 ⟨j0,hu_,q0⟩=>?_
 subst hu_
 obtain ⟨x0,G0⟩:=d0.agr z0
 refine AQ [.bool s0.fc,j0] x0 .hd (o2 rfl (AR q0)) fun M0 g0 y0=>Aa<|Al rfl<|Ap hb0 Tryz.func152 rfl (.cons (.many (cs:=[.bool s0.fc,j0]) (by kernel_rfl) rfl (g0.memA .hd)) .nil) rfl ?_
 cases h
 exact ⟨g0.ag,fun w9 hw9=>⟨j0,rfl,g0.kd (Ao q0 y0) hw9⟩⟩
 intro B0 p0 h
 try dsimp only at h
 refine AS rfl h (fun u0 h=>?_) (fun u0 h=>?_)
 refine Av<|Ae rfl<|Ab (FV.negU (a:=u64of a0) rfl)<|Af rfl<|Aa<|p0 (-(u64of a0)) c0 (Bv _ _) h
 refine Aq<|p0 (u64of a0) c0 (Bv _ _) h
def tb165_1:List (Nat × Nat × Nat):=[(0,32,4),(0,64,8),(2,128,64),(5,256,160),(15,0,272)]
theorem body136:bodyB Tryz.prog 136 = true:=by kernel_rfl
theorem body139:bodyB Tryz.prog 139 = true:=by kernel_rfl
def cD_p (n:Nat) (a0:Td) (a1:Td):Option Td:=
  (bR_p n a1).bind fun b0=>(bS_p n a0 b0).bind fun c0=>some c0
theorem cD_c (n:Nat) (L:List Nat) (w:World) (hL:∀ b ∈ L,b < w.heap.size) (a0:Td) {v0_1:Value} (h0_1:Rep.R w L [v0_1] a0.fD) (a1:Td) {v1_1:Value} (h1_1:Rep.R w L [v1_1] a1.fD)  {r:Td} (h:cD_p n a0 a1 = some r) :
    Calls Tryz.prog 165 #[.agg #[.bool a0.fc,v0_1],.agg #[.bool a1.fc,v1_1]] w (Gives w fun w' u=>∃ v0_1:Value,u = .agg #[.bool r.fc,v0_1]/\Rep.R w' L [v0_1] r.fD):=by
 unfold cD_p at h
 refine AF Tryz.func165 rfl rfl rfl fun _ cs0 hb0=>Ac<|RG.bx (AB w) rfl rfl fun R0 D0 s0 G0=>RG.bx s0 rfl rfl fun U0 E0 t0 H0=>RG.nl [.bool false,vN] t0 fun V0 F0 c0 I0=>Aa<|Aj<|dt 4 tb165_1 fun b0 p0=>AG 0 1 24 b0 rfl p0 (AK rfl (c0.memA .t2)) rfl<|AG 1 3 28 b0 rfl p0 (AK rfl (c0.memA .t1)) rfl<|bk h fun C0 A0 h=>BB 2 7 b0 rfl .plain body136 rfl (e1 rfl) (fun w9 hw9=>bR_c n _ w9 (c0.hL hL hw9) a1 (c0.km h1_1 hw9) A0) rfl fun W0 P0 x0 ⟨M0,hu_,z0⟩=>?_
 subst hu_
 obtain ⟨d0,J0⟩:=c0.agr x0
 refine bk h fun q0 B0 h=>BB 3 15 b0 rfl .plain body139 rfl (e2 rfl rfl) (fun w9 hw9=>bS_c n _ w9 (d0.hL hL hw9) a0 (d0.km h0_1 hw9) C0 (Ar z0 hw9) B0) rfl fun X0 Q0 y0 ⟨j0,hu_,k0⟩=>?_
 subst hu_
 obtain ⟨u0,K0⟩:=d0.agr y0
 refine BJ 4 31 b0 rfl rfl .plain (AH (news:=[.bool q0.fc,j0]) u0 .hd rfl rfl rfl rfl rfl rfl (o2 rfl (AR k0))) fun Y0 g0 v0=>AM (dk b0)<|Al rfl<|Ap hb0 Tryz.func165 rfl (.cons (.many (cs:=[.bool q0.fc,j0]) (by kernel_rfl) rfl (g0.memA .hd)) .nil) rfl ?_
 cases h
 exact ⟨g0.ag,fun w9 hw9=>⟨j0,rfl,g0.kd (Ao k0 v0) hw9⟩⟩
def tb167_2:List (Nat × Nat × Nat):=[(0,262144,4),(1,524288,262144),(0,1048576,8),(4,2097152,1048576),(10,4194304,2621440),(0,8388608,64),(48,16777216,12582912),(0,33554432,4),(128,67108864,33554432),(0,134217728,128),(832,268435456,201326592),(0,256,0),(0,512,0),(7295,0,16777472),(16383,0,268435968)]
def tb167_6:List (Nat × Nat × Nat):=[(0,274877906944,256),(0,549755813888,0),(3,1099511627776,824633720832),(7,0,1099511628032)]
def tb167_8:List (Nat × Nat × Nat):=[(0,17592186044416,256),(0,35184372088832,512),(1,0,17592186044432),(7,0,35184372088864)]
def tb167_7:List (Nat × Nat × Nat):=[(0,2199023255552,256),(0,4398046511104,0),(3,8796093022208,6597069766656),(7,0,8796093022464)]
theorem body152:bodyB Tryz.prog 152 = true:=by kernel_rfl
theorem body165:bodyB Tryz.prog 165 = true:=by kernel_rfl
def bh_p (n:Nat) (a0:Td) (a1:Td):Option (Td × Td):=
  (aq_p n a0.fD a1.fD).bind fun g0=>(ab_p n (!(a0.fc == a1.fc)) g0.1).bind fun b0=>(ab_p n a0.fc g0.2).bind fun c0=>(if c0.fc = true then (bS_p n c0 (⟨false,a1.fD⟩:Td)).bind fun d0=>(if a1.fc = true then (aT_p n (1:Int)).bind fun j0=>(bS_p n b0 j0).bind fun k0=>some (k0,d0) else (aT_p n (1:Int)).bind fun p0=>(cD_p n b0 p0).bind fun q0=>some (q0,d0)) else some (b0,c0))
theorem bh_c (n:Nat) (L:List Nat) (w:World) (hL:∀ b ∈ L,b < w.heap.size) (a0:Td) {v0_1:Value} (h0_1:Rep.R w L [v0_1] a0.fD) (a1:Td) {v1_1:Value} (h1_1:Rep.R w L [v1_1] a1.fD)  {r:Td × Td} (h:bh_p n a0 a1 = some r) :
    Calls Tryz.prog 167 #[.agg #[.bool a0.fc,v0_1],.agg #[.bool a1.fc,v1_1]] w (Gives w fun w' u=>∃ v0_1 v1_1:Value,u = .tuple #[.agg #[.bool r.1.fc,v0_1],.agg #[.bool r.2.fc,v1_1]]/\Rep.R w' L [v0_1] r.1.fD/\Rep.R w' L [v1_1] r.2.fD):=by
 unfold bh_p at h
 refine AF Tryz.func167 rfl rfl rfl fun _ cs0 hb0=>Ac<|RG.bx (AB w) rfl rfl fun k6 H5 Q3 J5=>RG.bx Q3 rfl rfl fun p6 c2 R3 K5=>RG.nl [.bool false,vN] R3 fun z6 G0 Y3 P5=>RG.nl [.bool false,vN] Y3 fun A6 H0 z1 Q5=>Aa<|Ac<|AV 1 rfl<|AP rfl ((z1.memA .t3) 1 _ rfl)<|AV 1 rfl<|AP rfl ((z1.memA .t2) 1 _ rfl)<|bk h fun P6 v5 h=>AZ (fst:=[]) (cap:=[]) .plain body164 rfl (e2 rfl rfl) (fun w9 hw9=>aq_c n _ w9 (z1.hL hL hw9) (z1.km h0_1 hw9) (z1.km h1_1 hw9) v5) rfl fun B6 g6 b5 ⟨W5,X5,hu_,R1,B0⟩=>?_
 subst hu_
 obtain ⟨Z0,R5⟩:=z1.agr b5
 refine Ae rfl<|Ab (Ah rfl rfl)<|Ab (Ah rfl rfl)<|Af rfl<|Af rfl<|Aa<|Aj<|dt 13 tb167_2 fun b0 V0=>Ag 0 1 b0 rfl V0 (fun _=>Bd 0 rfl) rfl<|AG 1 3 25680 b0 rfl V0 (AL rfl ((Z0.memA .t3) 0 _ rfl)) rfl<|Ag 2 7 b0 rfl V0 (fun _=>Bd 0 rfl) rfl<|AG 3 15 25680 b0 rfl V0 (AL rfl ((Z0.memA .t2) 0 _ rfl)) rfl<|Ag 4 31 b0 rfl V0 (fun _=>FV.neqB (a:=a0.fc) (b:=a1.fc) Tryz.underlying4 rfl rfl) rfl<|Ag 5 63 b0 rfl V0 (fun _=>Ai rfl) rfl<|Ag 7 191 b0 rfl V0 (fun _=>Bd 0 rfl) rfl<|AG 8 447 25600 b0 rfl V0 (AL rfl ((Z0.memA .t3) 0 _ rfl)) rfl<|Ag 9 959 b0 rfl V0 (fun _=>Ai rfl) rfl<|bk h fun Y0 U1 h=>bk h fun y1 D0 h=>RD.mf (α:=Value × Value × Nat × Nat) (fun ⟨E0,M0,k1,p1⟩=>[(3,vP c2),(4,vP G0),(5,vP H0),(24,.agg #[.bool Y0.fc,E0]),(28,.agg #[.bool y1.fc,M0]),(8,vP p1),(9,vP k1)]) (fun ⟨E0,M0,k1,p1⟩=>[.cells k1 [.bool false,vN] 134,.cells p1 [.bool false,vN] 134,.cells H0 [.bool false,vN] 134,.cells G0 [.bool false,vN] 134,.cells c2 [.bool a1.fc,v1_1] 134]) (fun ⟨E0,M0,k1,p1⟩ J2=>Rep.R J2 (bl [.cells k1 [.bool false,vN] 134,.cells p1 [.bool false,vN] 134,.cells H0 [.bool false,vN] 134,.cells G0 [.bool false,vN] 134,.cells c2 [.bool a1.fc,v1_1] 134] ++ L) [E0] Y0.fD/\Rep.R J2 (bl [.cells k1 [.bool false,vN] 134,.cells p1 [.bool false,vN] 134,.cells H0 [.bool false,vN] 134,.cells G0 [.bool false,vN] 134,.cells c2 [.bool a1.fc,v1_1] 134] ++ L) [M0] y1.fD) Z0 2 8191 ?_ ?_
 rintro ⟨E0,M0,k1,p1⟩ J2 U3 M5 ⟨C1,s2⟩
 try dsimp only
 refine BJ 13 16383 b0 rfl rfl .plain (AH (news:=[.bool Y0.fc,E0]) U3 .t1 rfl rfl rfl rfl rfl rfl (o2 rfl (AR C1))) fun q6 V3 s1=>BJ 14 32767 b0 rfl rfl .plain (AH (news:=[.bool y1.fc,M0]) V3 .hd rfl rfl rfl rfl rfl rfl (o2 rfl (AR (Ao s2 s1)))) fun s6 x0 A1=>AM (dk b0)<|Aj<|Ac<|AV 0 rfl<|AP rfl ((x0.memA .hd) 0 _ rfl)<|Aa<|MX.ifb rfl h (fun M3 h=>?_) (fun M3 h=>?_)
 refine Ac<|Ab (AK rfl (x0.memA .hd))<|AV 1 rfl<|AP rfl ((x0.memA .t4) 1 _ rfl) ?_
 obtain ⟨G5,I5,q5,_⟩:=BV (AO h1_1 x0)
 refine Ab (AX (vs:=[v1_1]) (u:=.agg #[.bool false,v1_1]) (e1 rfl) (fun w9=>by rw [q5]; try kernel_rfl))<|bk h fun x1 s5 h=>AZ (fst:=[]) (cap:=[]) .plain body139 rfl (e2 rfl rfl) (fun w9 hw9=>bS_c n _ w9 (x0.hL hL hw9) y1 (Ar (Ao s2 (Tt s1 A1)) hw9) (⟨false,a1.fD⟩:Td) (x0.km h1_1 hw9) s5) rfl fun t6 Y5 V4 ⟨W0,hu_,Q1⟩=>?_
 subst hu_
 obtain ⟨W3,U2⟩:=x0.agr V4
 refine AQ [.bool x1.fc,W0] W3 .hd (o2 rfl (AR Q1)) fun u6 q1 B1=>Aa<|Ac<|AV 0 rfl<|AP rfl ((q1.memA .t4) 0 _ rfl)<|Aa<|MX.ifb rfl h (fun P3 h=>?_) (fun P3 h=>?_)
 refine dt 3 tb167_6 fun V1 z5=>AG 0 1 12 V1 rfl z5 (AK rfl (q1.memA .t1)) rfl<|bk h fun E5 t5 h=>BB 1 3 V1 rfl .plain body152 rfl (e1 rfl) (fun w9 hw9=>aT_c n _ w9 (q1.hL hL hw9)  t5) rfl fun v6 Z5 W4 ⟨U5,hu_,k5⟩=>?_
 subst hu_
 obtain ⟨Q2,z2⟩:=q1.agr W4
 refine bk h fun Z1 u5 h=>BB 2 7 V1 rfl .plain body139 rfl (e2 rfl rfl) (fun w9 hw9=>bS_c n _ w9 (Q2.hL hL hw9) Y0 (Ar (Ao C1 (Tt s1 (Tt A1 (Tt U2 (Tt B1 z2))))) hw9) E5 (Ar k5 hw9) u5) rfl fun x6 b6 X4 ⟨E1,hu_,u2⟩=>?_
 subst hu_
 obtain ⟨X3,V2⟩:=Q2.agr X4
 refine BJ 3 15 V1 rfl rfl .plain (AH (news:=[.bool Z1.fc,E1]) X3 .t1 rfl rfl rfl rfl rfl rfl (o2 rfl (AR u2))) fun y6 H1 p2=>AM (dk V1)<|Aj<|dt 2 tb167_8 fun b1 I3=>AG 0 1 12 b1 rfl I3 (AK rfl (H1.memA .t1)) rfl<|RD.mo (α:=Unit) (fun ()=>[(4,vP G0),(5,vP H0),(45,.agg #[.bool x1.fc,W0])]) (fun ()=>[.cells H0 [.bool false,vN] 134,.cells G0 [.bool Z1.fc,E1] 134]) H1 1 7 ?_ ?_
 rintro ⟨⟩ J6 Z3 W2
 try dsimp only
 refine BJ 3 15 b1 rfl rfl .plain (AH (news:=[.bool x1.fc,W0]) Z3 .hd rfl rfl rfl rfl rfl rfl (o2 rfl (AR (Ao Q1 (Tt B1 (Tt z2 (Tt V2 (Tt p2 W2)))))))) fun C6 I1 H4=>AM (dk b1)<|Al rfl<|Ap hb0 Tryz.func167 rfl (.cons (.many (cs:=[.bool Z1.fc,E1]) (by kernel_rfl) rfl (I1.memA .t1)) (.cons (.many (cs:=[.bool x1.fc,W0]) (by kernel_rfl) rfl (I1.memA .hd)) .nil)) rfl ?_
 cases h
 have v3:=Tt p2 (Tt W2 H4)
 exact ⟨I1.ag,fun w9 hw9=>⟨E1,W0,rfl,I1.kd (Ao u2 v3) hw9,I1.kd (Ao Q1 (Tt B1 (Tt z2 (Tt V2 v3)))) hw9⟩⟩
 intro K2
 refine Bn [1,2] (rk b1) ⟨?_,?_,trivial⟩
 refine Bq (m' :=3) (sk b1) rfl .plain rfl (AK rfl (H1.memA .hd)) ?_
 have d5:=Ao u2 p2
 refine BJ 2 7 b1 rfl rfl .plain (AH (news:=[.bool Z1.fc,E1]) H1 .t3 rfl rfl rfl rfl rfl rfl (o2 rfl (AR d5))) fun B5 d2 A2=>?_
 obtain ⟨b4,I4⟩:=AI d2 (.a2 (.a2 .done))
 exact K2 () b4 (Tt A2 I4)
 refine RO.now (m' :=5) (sk b1) rfl rfl .plain (AH (news:=[.bool Z1.fc,E1]) H1 .t3 rfl rfl rfl rfl rfl rfl (o2 rfl (AR (Ao u2 p2)))) fun B5 d2 A2=>AG 1 7 8 b1 rfl I3 (AK rfl (d2.memA .hd)) rfl ?_
 obtain ⟨c4,J4⟩:=AI d2 (.a2 (.a2 .done))
 exact K2 () c4 (Tt A2 J4)
 refine dt 3 tb167_7 fun W1 A5=>AG 0 1 12 W1 rfl A5 (AK rfl (q1.memA .t1)) rfl<|bk h fun F5 x5 h=>BB 1 3 W1 rfl .plain body152 rfl (e1 rfl) (fun w9 hw9=>aT_c n _ w9 (q1.hL hL hw9)  x5) rfl fun D6 c6 Y4 ⟨V5,hu_,p5⟩=>?_
 subst hu_
 obtain ⟨R2,B2⟩:=q1.agr Y4
 refine bk h fun b2 y5 h=>BB 2 7 W1 rfl .plain body165 rfl (e2 rfl rfl) (fun w9 hw9=>cD_c n _ w9 (R2.hL hL hw9) Y0 (Ar (Ao C1 (Tt s1 (Tt A1 (Tt U2 (Tt B1 B2))))) hw9) F5 (Ar p5 hw9) y5) rfl fun E6 d6 Z4 ⟨F1,hu_,v2⟩=>?_
 subst hu_
 obtain ⟨d4,X2⟩:=R2.agr Z4
 refine BJ 3 15 W1 rfl rfl .plain (AH (news:=[.bool b2.fc,F1]) d4 .t1 rfl rfl rfl rfl rfl rfl (o2 rfl (AR v2))) fun F6 J1 q2=>AM (dk W1)<|Aj<|dt 2 tb167_8 fun c1 J3=>AG 0 1 12 c1 rfl J3 (AK rfl (J1.memA .t1)) rfl<|RD.mo (α:=Unit) (fun ()=>[(4,vP G0),(5,vP H0),(45,.agg #[.bool x1.fc,W0])]) (fun ()=>[.cells H0 [.bool false,vN] 134,.cells G0 [.bool b2.fc,F1] 134]) J1 1 7 ?_ ?_
 rintro ⟨⟩ K6 g4 Y2
 try dsimp only
 refine BJ 3 15 c1 rfl rfl .plain (AH (news:=[.bool x1.fc,W0]) g4 .hd rfl rfl rfl rfl rfl rfl (o2 rfl (AR (Ao Q1 (Tt B1 (Tt B2 (Tt X2 (Tt q2 Y2)))))))) fun H6 K1 K4=>AM (dk c1)<|Al rfl<|Ap hb0 Tryz.func167 rfl (.cons (.many (cs:=[.bool b2.fc,F1]) (by kernel_rfl) rfl (K1.memA .t1)) (.cons (.many (cs:=[.bool x1.fc,W0]) (by kernel_rfl) rfl (K1.memA .hd)) .nil)) rfl ?_
 cases h
 have x3:=Tt q2 (Tt Y2 K4)
 exact ⟨K1.ag,fun w9 hw9=>⟨F1,W0,rfl,K1.kd (Ao v2 x3) hw9,K1.kd (Ao Q1 (Tt B1 (Tt B2 (Tt X2 x3)))) hw9⟩⟩
 intro M2
 refine Bn [1,2] (rk c1) ⟨?_,?_,trivial⟩
 refine Bq (m' :=3) (sk c1) rfl .plain rfl (AK rfl (J1.memA .hd)) ?_
 have g5:=Ao v2 q2
 refine BJ 2 7 c1 rfl rfl .plain (AH (news:=[.bool b2.fc,F1]) J1 .t3 rfl rfl rfl rfl rfl rfl (o2 rfl (AR g5))) fun C5 j2 C2=>?_
 obtain ⟨j4,M4⟩:=AI j2 (.a2 (.a2 .done))
 exact M2 () j4 (Tt C2 M4)
 refine RO.now (m' :=5) (sk c1) rfl rfl .plain (AH (news:=[.bool b2.fc,F1]) J1 .t3 rfl rfl rfl rfl rfl rfl (o2 rfl (AR (Ao v2 q2)))) fun C5 j2 C2=>AG 1 7 8 c1 rfl J3 (AK rfl (j2.memA .hd)) rfl ?_
 obtain ⟨k4,P4⟩:=AI j2 (.a2 (.a2 .done))
 exact M2 () k4 (Tt C2 P4)
 refine Aq<|Aj<|dt 2 tb167_8 fun d1 K3=>AG 0 1 12 d1 rfl K3 (AK rfl (x0.memA .t1)) rfl<|RD.mo (α:=Unit) (fun ()=>[(4,vP G0),(5,vP H0),(45,.agg #[.bool y1.fc,M0])]) (fun ()=>[.cells H0 [.bool false,vN] 134,.cells G0 [.bool Y0.fc,E0] 134]) x0 1 7 ?_ ?_
 rintro ⟨⟩ M6 p4 Q4
 try dsimp only
 have G2:=Tt s1 (Tt A1 Q4)
 refine BJ 3 15 d1 rfl rfl .plain (AH (news:=[.bool y1.fc,M0]) p4 .hd rfl rfl rfl rfl rfl rfl (o2 rfl (AR (Ao s2 G2)))) fun I6 M1 Z2=>AM (dk d1)<|Al rfl<|Ap hb0 Tryz.func167 rfl (.cons (.many (cs:=[.bool Y0.fc,E0]) (by kernel_rfl) rfl (M1.memA .t1)) (.cons (.many (cs:=[.bool y1.fc,M0]) (by kernel_rfl) rfl (M1.memA .hd)) .nil)) rfl ?_
 cases h
 exact ⟨M1.ag,fun w9 hw9=>⟨E0,M0,rfl,M1.kd (Ao C1 (Tt G2 Z2)) hw9,M1.kd (Ao s2 (Tt G2 Z2)) hw9⟩⟩
 intro P2
 refine Bn [1,2] (rk d1) ⟨?_,?_,trivial⟩
 refine Bq (m' :=3) (sk d1) rfl .plain rfl (AK rfl (x0.memA .hd)) ?_
 have j5:=Ao C1 (Tt s1 A1)
 refine BJ 2 7 d1 rfl rfl .plain (AH (news:=[.bool Y0.fc,E0]) x0 .t3 rfl rfl rfl rfl rfl rfl (o2 rfl (AR j5))) fun D5 k2 D2=>?_
 obtain ⟨q4,R4⟩:=AI k2 (.a2 (.a2 .done))
 exact P2 () q4 (Tt D2 R4)
 refine RO.now (m' :=5) (sk d1) rfl rfl .plain (AH (news:=[.bool Y0.fc,E0]) x0 .t3 rfl rfl rfl rfl rfl rfl (o2 rfl (AR (Ao C1 (Tt s1 A1))))) fun D5 k2 D2=>AG 1 7 8 d1 rfl K3 (AK rfl (k2.memA .hd)) rfl ?_
 obtain ⟨s4,U4⟩:=AI k2 (.a2 (.a2 .done))
 exact P2 () s4 (Tt D2 U4)
 intro v0
 refine Bn [6,11,12] (rk b0) ⟨?_,?_,?_,trivial⟩
 refine RO.call (m' :=1023) (fst:=[]) (cap:=[]) (sk b0) rfl .plain body161 rfl (e2 rfl rfl) (fun w9 hw9=>ab_c n _ w9 (Z0.hL hL hw9) (Ar R1 hw9) U1) rfl fun G6 j6 c5 ⟨G1,hu_,D1⟩=>?_
 subst hu_
 obtain ⟨g2,z0⟩:=Z0.agr c5
 refine Bn [10,11,12] (rk b0) ⟨?_,?_,?_,trivial⟩
 have v1:=Ao B0 z0
 refine RO.call (m' :=2047) (fst:=[]) (cap:=[]) (sk b0) rfl .plain body161 rfl (e2 rfl rfl) (fun w9 hw9=>ab_c n _ w9 (g2.hL hL hw9) (Ar v1 hw9) D0) rfl fun y2 x2 Q0 ⟨P0,hu_,K0⟩=>?_
 subst hu_
 obtain ⟨I0,J0⟩:=g2.agr Q0
 refine Bn [11,12] (rk b0) ⟨?_,?_,trivial⟩
 refine BI (m' :=4095) (sk b0) rfl .plain rfl (AC [.bool false,vN] I0) fun j1 p0 j0 d0=>BS 12 8191 b0 rfl .plain rfl (AC [.bool false,vN] j0) fun g1 k0 g0 c0=>?_
 obtain ⟨u4,b3⟩:=AI g0 (.a0 (.a0 (.a0 (.a0 (.a0 .done)))))
 have y3:=Tt J0 (Tt d0 (Tt c0 b3))
 exact v0 (G1,P0,k0,p0) u4 (Tt z0 y3) ⟨(Ao D1 y3),(Ao K0 (Tt d0 (Tt c0 b3)))⟩
 refine BI (m' :=6143) (sk b0) rfl .plain rfl (AC [.bool false,vN] I0) fun g1 k0 g0 c0=>BS 11 8191 b0 rfl .plain rfl (AC [.bool false,vN] g0) fun j1 p0 j0 d0=>?_
 obtain ⟨v4,c3⟩:=AI j0 (.a1 (.a0 (.a0 (.a0 (.a0 .done)))))
 have z3:=Tt J0 (Tt c0 (Tt d0 c3))
 exact v0 (G1,P0,k0,p0) v4 (Tt z0 z3) ⟨(Ao D1 z3),(Ao K0 (Tt c0 (Tt d0 c3)))⟩
 refine BI (m' :=3071) (sk b0) rfl .plain rfl (AC [.bool false,vN] g2) fun j1 p0 j0 d0=>Bn [10,12] (rk b0) ⟨?_,?_,trivial⟩
 have v1:=Ao B0 (Tt z0 d0)
 refine RO.call (m' :=4095) (fst:=[]) (cap:=[]) (sk b0) rfl .plain body161 rfl (e2 rfl rfl) (fun w9 hw9=>ab_c n _ w9 (j0.hL hL hw9) (Ar v1 hw9) D0) rfl fun y2 x2 Q0 ⟨P0,hu_,K0⟩=>?_
 subst hu_
 obtain ⟨I0,J0⟩:=j0.agr Q0
 refine BS 12 8191 b0 rfl .plain rfl (AC [.bool false,vN] I0) fun g1 k0 g0 c0=>?_
 obtain ⟨x4,d3⟩:=AI g0 (.a0 (.a0 (.a0 (.a0 (.a0 .done)))))
 have A3:=Tt d0 (Tt J0 (Tt c0 d3))
 exact v0 (G1,P0,k0,p0) x4 (Tt z0 A3) ⟨(Ao D1 A3),(Ao K0 (Tt c0 d3))⟩
 refine BI (m' :=7167) (sk b0) rfl .plain rfl (AC [.bool false,vN] j0) fun g1 k0 g0 c0=>?_
 have u0:=Tt z0 (Tt d0 c0)
 have R0:=Ao B0 u0
 refine BB 10 8191 b0 rfl .plain body161 rfl (e2 rfl rfl) (fun w9 hw9=>ab_c n _ w9 (g0.hL hL hw9) (Ar R0 hw9) D0) rfl fun Y1 X1 A0 ⟨F0,hu_,C0⟩=>?_
 subst hu_
 obtain ⟨y0,t0⟩:=g0.agr A0
 obtain ⟨y4,g3⟩:=AI y0 (.a0 (.a0 (.a0 (.a0 (.a0 .done)))))
 have B3:=Tt d0 (Tt c0 (Tt t0 g3))
 exact v0 (G1,F0,k0,p0) y4 (Tt z0 B3) ⟨(Ao D1 B3),(Ao C0 g3)⟩
 refine BI (m' :=5119) (sk b0) rfl .plain rfl (AC [.bool false,vN] g2) fun g1 k0 g0 c0=>Bn [10,11] (rk b0) ⟨?_,?_,trivial⟩
 have v1:=Ao B0 (Tt z0 c0)
 refine RO.call (m' :=6143) (fst:=[]) (cap:=[]) (sk b0) rfl .plain body161 rfl (e2 rfl rfl) (fun w9 hw9=>ab_c n _ w9 (g0.hL hL hw9) (Ar v1 hw9) D0) rfl fun y2 x2 Q0 ⟨P0,hu_,K0⟩=>?_
 subst hu_
 obtain ⟨I0,J0⟩:=g0.agr Q0
 refine BS 11 8191 b0 rfl .plain rfl (AC [.bool false,vN] I0) fun j1 p0 j0 d0=>?_
 obtain ⟨z4,j3⟩:=AI j0 (.a1 (.a0 (.a0 (.a0 (.a0 .done)))))
 have C3:=Tt c0 (Tt J0 (Tt d0 j3))
 exact v0 (G1,P0,k0,p0) z4 (Tt z0 C3) ⟨(Ao D1 C3),(Ao K0 (Tt d0 j3))⟩
 refine BI (m' :=7167) (sk b0) rfl .plain rfl (AC [.bool false,vN] g0) fun j1 p0 j0 d0=>?_
 have u0:=Tt z0 (Tt c0 d0)
 have R0:=Ao B0 u0
 refine BB 10 8191 b0 rfl .plain body161 rfl (e2 rfl rfl) (fun w9 hw9=>ab_c n _ w9 (j0.hL hL hw9) (Ar R0 hw9) D0) rfl fun Y1 X1 A0 ⟨F0,hu_,C0⟩=>?_
 subst hu_
 obtain ⟨y0,t0⟩:=j0.agr A0
 obtain ⟨A4,k3⟩:=AI y0 (.a1 (.a0 (.a0 (.a0 (.a0 .done)))))
 have D3:=Tt c0 (Tt d0 (Tt t0 k3))
 exact v0 (G1,F0,k0,p0) A4 (Tt z0 D3) ⟨(Ao D1 D3),(Ao C0 k3)⟩
 refine BI (m' :=3007) (sk b0) rfl .plain rfl (AC [.bool false,vN] Z0) fun j1 p0 j0 d0=>Bn [6,12] (rk b0) ⟨?_,?_,trivial⟩
 have P1:=Ao R1 d0
 refine RO.call (m' :=3071) (fst:=[]) (cap:=[]) (sk b0) rfl .plain body161 rfl (e2 rfl rfl) (fun w9 hw9=>ab_c n _ w9 (j0.hL hL hw9) (Ar P1 hw9) U1) rfl fun I2 H2 u1 ⟨X0,hu_,U0⟩=>?_
 subst hu_
 obtain ⟨q0,s0⟩:=j0.agr u1
 refine Bn [10,12] (rk b0) ⟨?_,?_,trivial⟩
 have v1:=Ao B0 (Tt d0 s0)
 refine RO.call (m' :=4095) (fst:=[]) (cap:=[]) (sk b0) rfl .plain body161 rfl (e2 rfl rfl) (fun w9 hw9=>ab_c n _ w9 (q0.hL hL hw9) (Ar v1 hw9) D0) rfl fun y2 x2 Q0 ⟨P0,hu_,K0⟩=>?_
 subst hu_
 obtain ⟨I0,J0⟩:=q0.agr Q0
 refine BS 12 8191 b0 rfl .plain rfl (AC [.bool false,vN] I0) fun g1 k0 g0 c0=>?_
 obtain ⟨B4,p3⟩:=AI g0 (.a0 (.a0 (.a0 (.a0 (.a0 .done)))))
 have E3:=Tt J0 (Tt c0 p3)
 exact v0 (X0,P0,k0,p0) B4 (Tt d0 (Tt s0 E3)) ⟨(Ao U0 E3),(Ao K0 (Tt c0 p3))⟩
 refine BI (m' :=7167) (sk b0) rfl .plain rfl (AC [.bool false,vN] q0) fun g1 k0 g0 c0=>?_
 have u0:=Tt d0 (Tt s0 c0)
 have R0:=Ao B0 u0
 refine BB 10 8191 b0 rfl .plain body161 rfl (e2 rfl rfl) (fun w9 hw9=>ab_c n _ w9 (g0.hL hL hw9) (Ar R0 hw9) D0) rfl fun Y1 X1 A0 ⟨F0,hu_,C0⟩=>?_
 subst hu_
 obtain ⟨y0,t0⟩:=g0.agr A0
 obtain ⟨C4,q3⟩:=AI y0 (.a0 (.a0 (.a0 (.a0 (.a0 .done)))))
 have F3:=Tt c0 (Tt t0 q3)
 exact v0 (X0,F0,k0,p0) C4 (Tt d0 (Tt s0 F3)) ⟨(Ao U0 F3),(Ao C0 q3)⟩
 refine BI (m' :=7103) (sk b0) rfl .plain rfl (AC [.bool false,vN] j0) fun g1 k0 g0 c0=>?_
 have P1:=Ao R1 (Tt d0 c0)
 refine BB 6 7167 b0 rfl .plain body161 rfl (e2 rfl rfl) (fun w9 hw9=>ab_c n _ w9 (g0.hL hL hw9) (Ar P1 hw9) U1) rfl fun I2 H2 u1 ⟨X0,hu_,U0⟩=>?_
 subst hu_
 obtain ⟨q0,s0⟩:=g0.agr u1
 have u0:=Tt d0 (Tt c0 s0)
 have R0:=Ao B0 u0
 refine BB 10 8191 b0 rfl .plain body161 rfl (e2 rfl rfl) (fun w9 hw9=>ab_c n _ w9 (q0.hL hL hw9) (Ar R0 hw9) D0) rfl fun Y1 X1 A0 ⟨F0,hu_,C0⟩=>?_
 subst hu_
 obtain ⟨y0,t0⟩:=q0.agr A0
 obtain ⟨D4,E2⟩:=AI y0 (.a0 (.a0 (.a0 (.a0 (.a0 .done)))))
 exact v0 (X0,F0,k0,p0) D4 (Tt u0 (Tt t0 E2)) ⟨(Ao U0 (Tt t0 E2)),(Ao C0 E2)⟩
 refine BI (m' :=5055) (sk b0) rfl .plain rfl (AC [.bool false,vN] Z0) fun g1 k0 g0 c0=>Bn [6,11] (rk b0) ⟨?_,?_,trivial⟩
 have P1:=Ao R1 c0
 refine RO.call (m' :=5119) (fst:=[]) (cap:=[]) (sk b0) rfl .plain body161 rfl (e2 rfl rfl) (fun w9 hw9=>ab_c n _ w9 (g0.hL hL hw9) (Ar P1 hw9) U1) rfl fun I2 H2 u1 ⟨X0,hu_,U0⟩=>?_
 subst hu_
 obtain ⟨q0,s0⟩:=g0.agr u1
 refine Bn [10,11] (rk b0) ⟨?_,?_,trivial⟩
 refine RO.call (m' :=6143) (fst:=[]) (cap:=[]) (sk b0) rfl .plain body161 rfl (e2 rfl rfl) (fun w9 hw9=>ab_c n _ w9 (q0.hL hL hw9) (Ar (Ao B0 (Tt c0 s0)) hw9) D0) rfl fun y2 x2 Q0 ⟨P0,hu_,K0⟩=>?_
 subst hu_
 obtain ⟨I0,J0⟩:=q0.agr Q0
 refine BS 11 8191 b0 rfl .plain rfl (AC [.bool false,vN] I0) fun j1 p0 j0 d0=>?_
 obtain ⟨E4,s3⟩:=AI j0 (.a1 (.a0 (.a0 (.a0 (.a0 .done)))))
 have G3:=Tt J0 (Tt d0 s3)
 exact v0 (X0,P0,k0,p0) E4 (Tt c0 (Tt s0 G3)) ⟨(Ao U0 G3),(Ao K0 (Tt d0 s3))⟩
 refine BI (m' :=7167) (sk b0) rfl .plain rfl (AC [.bool false,vN] q0) fun j1 p0 j0 d0=>?_
 have u0:=Tt c0 (Tt s0 d0)
 have R0:=Ao B0 u0
 refine BB 10 8191 b0 rfl .plain body161 rfl (e2 rfl rfl) (fun w9 hw9=>ab_c n _ w9 (j0.hL hL hw9) (Ar R0 hw9) D0) rfl fun Y1 X1 A0 ⟨F0,hu_,C0⟩=>?_
 subst hu_
 obtain ⟨y0,t0⟩:=j0.agr A0
 obtain ⟨F4,u3⟩:=AI y0 (.a1 (.a0 (.a0 (.a0 (.a0 .done)))))
 have H3:=Tt d0 (Tt t0 u3)
 exact v0 (X0,F0,k0,p0) F4 (Tt c0 (Tt s0 H3)) ⟨(Ao U0 H3),(Ao C0 u3)⟩
 refine BI (m' :=7103) (sk b0) rfl .plain rfl (AC [.bool false,vN] g0) fun j1 p0 j0 d0=>BB 6 7167 b0 rfl .plain body161 rfl (e2 rfl rfl) (fun w9 hw9=>ab_c n _ w9 (j0.hL hL hw9) (Ar (Ao R1 (Tt c0 d0)) hw9) U1) rfl fun I2 H2 u1 ⟨X0,hu_,U0⟩=>?_
 subst hu_
 obtain ⟨q0,s0⟩:=j0.agr u1
 have u0:=Tt c0 (Tt d0 s0)
 refine BB 10 8191 b0 rfl .plain body161 rfl (e2 rfl rfl) (fun w9 hw9=>ab_c n _ w9 (q0.hL hL hw9) (Ar (Ao B0 u0) hw9) D0) rfl fun Y1 X1 A0 ⟨F0,hu_,C0⟩=>?_
 subst hu_
 obtain ⟨y0,t0⟩:=q0.agr A0
 obtain ⟨G4,F2⟩:=AI y0 (.a1 (.a0 (.a0 (.a0 (.a0 .done)))))
 exact v0 (X0,F0,k0,p0) G4 (Tt u0 (Tt t0 F2)) ⟨(Ao U0 (Tt t0 F2)),(Ao C0 F2)⟩
theorem body130:bodyB Tryz.prog 130 = true:=by kernel_rfl
theorem body167:bodyB Tryz.prog 167 = true:=by kernel_rfl
def bN_p (n:Nat) (a0:Td) (a1:Td):Option Tm:=
  (aS_p n a0 a1).bind fun b0=>jn (fun (d0,g0)=>(bh_p n a0 (⟨d0,g0⟩:Td)).bind fun k0=>(bh_p n a1 (⟨d0,g0⟩:Td)).bind fun p0=>some (⟨k0.1,p0.1⟩:Tm)) (fun c0=>(if a1.fc = true then (bR_p n b0).bind fun j0=>c0 (j0.fc,j0.fD) else c0 (b0.fc,b0.fD)))
theorem bN_c (n:Nat) (L:List Nat) (w:World) (hL:∀ b ∈ L,b < w.heap.size) (a0:Td) {v0_1:Value} (h0_1:Rep.R w L [v0_1] a0.fD) (a1:Td) {v1_1:Value} (h1_1:Rep.R w L [v1_1] a1.fD)  {r:Tm} (h:bN_p n a0 a1 = some r) :
    Calls Tryz.prog 138 #[.agg #[.bool a0.fc,v0_1],.agg #[.bool a1.fc,v1_1]] w (Gives w fun w' u=>∃ v0_1 v0_3:Value,u = .agg #[.bool r.fN.fc,v0_1,.bool r.fD.fc,v0_3]/\Rep.R w' L [v0_1] r.fN.fD/\Rep.R w' L [v0_3] r.fD.fD):=by
 unfold bN_p at h
 refine AF Tryz.func138 rfl rfl rfl fun _ cs0 hb0=>Ac<|RG.bx (AB w) rfl rfl fun M2 y0 z1 B2=>RG.bx z1 rfl rfl fun X2 z0 C1 C2=>RG.nl [.bool false,vN,.bool false,vN] C1 fun Y2 A0 g0 D2=>Aa<|Ac<|Ab (AK rfl (g0.memA .t2))<|Ab (AK rfl (g0.memA .t1))<|bk h fun x0 c2 h=>AZ (fst:=[]) (cap:=[]) .plain body130 rfl (e2 rfl rfl) (fun w9 hw9=>aS_c n _ w9 (g0.hL hL hw9) a0 (g0.km h0_1 hw9) a1 (g0.km h1_1 hw9) c2) rfl fun Z2 H2 R1 ⟨q1,hu_,M0⟩=>?_
 subst hu_
 obtain ⟨D1,E2⟩:=g0.agr R1
 refine RG.nl [.bool false,vN] D1 fun b3 B0 E1 G0=>AQ [.bool x0.fc,q1] E1 .hd (o2 rfl (AR (Ao M0 G0))) fun c3 j0 X0=>Aa<|Aj<|Ac<|AV 0 rfl<|AP rfl ((j0.memA .t2) 0 _ rfl)<|Aa<|MX.jf (α:=Bool × (List Int) × Value) (fun ⟨b0,c0,d0⟩=>[(2,vP y0),(3,vP z0),(4,vP A0),(5,vP B0)]) (fun ⟨b0,c0,d0⟩=>[.cells B0 [.bool b0,d0] 134,.cells A0 [.bool false,vN,.bool false,vN] 136,.cells z0 [.bool a1.fc,v1_1] 134,.cells y0 [.bool a0.fc,v0_1] 134]) (fun ⟨b0,c0,d0⟩ s1=>Rep.R s1 (bl [.cells B0 [.bool b0,d0] 134,.cells A0 [.bool false,vN,.bool false,vN] 136,.cells z0 [.bool a1.fc,v1_1] 134,.cells y0 [.bool a0.fc,v0_1] 134] ++ L) [d0] c0) (fun ⟨b0,c0,d0⟩=>(b0,c0)) j0 h ?_ ?_
 rintro ⟨b0,c0,d0⟩ s1 t0 F2 k1 h
 try dsimp only at h
 refine Ac<|Ab (AK rfl (t0.memA .t3))<|Ab (AK rfl (t0.memA .hd))<|bk h fun q0 d2 h=>AZ (fst:=[]) (cap:=[]) .plain body167 rfl (e2 rfl rfl) (fun w9 hw9=>bh_c n _ w9 (t0.hL hL hw9) a0 (t0.km h0_1 hw9) (⟨b0,c0⟩:Td) (Ar k1 hw9) d2) rfl fun d3 I2 U1 ⟨p0,k2,hu_,P0,X1⟩=>?_
 subst hu_
 obtain ⟨F1,P1⟩:=t0.agr U1
 refine Ae rfl<|Ab (Ah rfl rfl)<|Ab (Ah rfl rfl)<|RG.nl [.bool false,vN] F1 fun g3 x2 G1 H0=>RG.nl [.bool false,vN] G1 fun j3 y2 H1 I0=>AQ [.bool q0.1.fc,p0] H1 .t1 (o2 rfl (AR (Ao P0 (Tt H0 I0)))) fun k3 I1 Y0=>?_
 have g1:=Tt H0 (Tt I0 Y0)
 refine AQ [.bool q0.2.fc,k2] I1 .hd (o2 rfl (AR (Ao X1 g1))) fun p3 u0 Z0=>Aa<|Ac<|Ab (AK rfl (u0.memA .t4))<|Ab (AK rfl (u0.memA .t2))<|bk h fun s0 g2 h=>AZ (fst:=[]) (cap:=[]) .plain body167 rfl (e2 rfl rfl) (fun w9 hw9=>bh_c n _ w9 (u0.hL hL hw9) a1 (u0.km h1_1 hw9) (⟨b0,c0⟩:Td) (Ar (Ao k1 (Tt P1 (Tt H0 (Tt I0 (Tt Y0 Z0))))) hw9) g2) rfl fun q3 J2 V1 ⟨k0,j2,hu_,K0,W1⟩=>?_
 subst hu_
 obtain ⟨J1,K1⟩:=u0.agr V1
 refine Ae rfl<|Ab (Ah rfl rfl)<|Ab (Ah rfl rfl)<|RG.nl [.bool false,vN] J1 fun K2 u2 v1 D0=>RG.nl [.bool false,vN] v1 fun P2 v2 x1 E0=>AQ [.bool s0.1.fc,k0] x1 .t1 (o2 rfl (AR (Ao K0 (Tt D0 E0)))) fun Q2 y1 U0=>?_
 have J0:=Tt D0 (Tt E0 U0)
 refine AQ [.bool s0.2.fc,j2] y1 .hd (o2 rfl (AR (Ao W1 J0))) fun R2 C0 F0=>Aa<|Ac<|Ab (AK rfl (C0.memA .t3))<|Ab (AK rfl (C0.memA .t1)) ?_
 have d1:=Tt g1 (Tt Z0 (Tt K1 (Tt D0 (Tt E0 (Tt U0 F0)))))
 have b1:=Ao P0 d1
 obtain ⟨p2,z2,Y1,_⟩:=BV b1
 have c1:=Ao K0 (Tt J0 F0)
 obtain ⟨q2,A2,Z1,_⟩:=BV c1
 refine Ab (AX (vs:=[.agg #[.bool q0.1.fc,p0],.agg #[.bool s0.1.fc,k0]]) (u:=.agg #[.bool q0.1.fc,p0,.bool s0.1.fc,k0]) (e2 rfl rfl) (fun w9=>by rw [Y1,Z1]; try kernel_rfl))<|AQ [.bool q0.1.fc,p0,.bool s0.1.fc,k0] C0 .t5 (o4 rfl (AR b1) rfl (AR c1)) fun U2 v0 V0=>Aa<|Al rfl<|Ap hb0 Tryz.func138 rfl (.cons (.many (cs:=[.bool q0.1.fc,p0,.bool s0.1.fc,k0]) (by kernel_rfl) rfl (v0.memA .t5)) .nil) rfl ?_
 cases h
 exact ⟨v0.ag,fun w9 hw9=>⟨p0,k0,rfl,v0.kd (Ao P0 (Tt d1 V0)) hw9,v0.kd (Ao K0 (Tt J0 (Tt F0 V0))) hw9⟩⟩
 intro s2 R0 h
 try dsimp only at h
 refine MX.ifb rfl h (fun u1 h=>?_) (fun u1 h=>?_)
 refine Av<|Ab (AK rfl (j0.memA .hd))<|bk h fun Q0 b2 h=>AZ (fst:=[]) (cap:=[]) .plain body136 rfl (e1 rfl) (fun w9 hw9=>bR_c n _ w9 (j0.hL hL hw9) x0 (Ar (Ao M0 (Tt G0 X0)) hw9) b2) rfl fun V2 G2 Q1 ⟨p1,hu_,j1⟩=>?_
 subst hu_
 obtain ⟨A1,M1⟩:=j0.agr Q1
 refine AQ [.bool Q0.fc,p1] A1 .hd (o2 rfl (AR j1)) fun W2 B1 W0=>Aa<|R0 (Q0.fc,Q0.fD,p1) B1 (Tt M1 W0) (Ao j1 W0) h
 refine Aq<|R0 (x0.fc,x0.fD,q1) j0 (Bv _ _) (Ao M0 (Tt G0 X0)) h
theorem body138:bodyB Tryz.prog 138 = true:=by kernel_rfl
def ct_p (n:Nat) (a0:Int) (a1:Int):Option Tm:=
  (aT_p n a0).bind fun b0=>(aT_p n a1).bind fun c0=>(bN_p n b0 c0).bind fun d0=>some d0
theorem ct_c (n:Nat) (L:List Nat) (w:World) (hL:∀ b ∈ L,b < w.heap.size) {a0:Int} {a1:Int}  {r:Tm} (h:ct_p n a0 a1 = some r) :
    Calls Tryz.prog 115 #[vI a0,vI a1] w (Gives w fun w' u=>∃ v0_1 v0_3:Value,u = .agg #[.bool r.fN.fc,v0_1,.bool r.fD.fc,v0_3]/\Rep.R w' L [v0_1] r.fN.fD/\Rep.R w' L [v0_3] r.fD.fD):=by
 unfold ct_p at h
 refine AF Tryz.func115 rfl rfl rfl fun _ cs0 hb0=>Ac<|RG.nl [.bool false,vN,.bool false,vN] (AB w) fun V0 H0 j0 I0=>Aa<|Ac<|Ae rfl<|bk h fun F0 C0 h=>AZ (fst:=[]) (cap:=[]) .plain body152 rfl (e1 rfl) (fun w9 hw9=>aT_c n _ w9 (j0.hL hL hw9)  C0) rfl fun W0 Q0 x0 ⟨M0,hu_,A0⟩=>?_
 subst hu_
 obtain ⟨k0,J0⟩:=j0.agr x0
 refine Ae rfl<|bk h fun G0 D0 h=>AZ (fst:=[]) (cap:=[]) .plain body152 rfl (e1 rfl) (fun w9 hw9=>aT_c n _ w9 (k0.hL hL hw9)  D0) rfl fun X0 R0 y0 ⟨P0,hu_,B0⟩=>?_
 subst hu_
 obtain ⟨p0,v0⟩:=k0.agr y0
 refine bk h fun c0 E0 h=>AZ (fst:=[]) (cap:=[]) .plain body138 rfl (e2 rfl rfl) (fun w9 hw9=>bN_c n _ w9 (p0.hL hL hw9) F0 (Ar (Ao A0 v0) hw9) G0 (Ar B0 hw9) E0) rfl fun Y0 U0 z0 ⟨d0,g0,hu_,s0,t0⟩=>?_
 subst hu_
 obtain ⟨u0,K0⟩:=p0.agr z0
 refine AQ [.bool c0.fN.fc,d0,.bool c0.fD.fc,g0] u0 .hd (o4 rfl (AR s0) rfl (AR t0)) fun Z0 b0 q0=>Aa<|Al rfl<|Ap hb0 Tryz.func115 rfl (.cons (.many (cs:=[.bool c0.fN.fc,d0,.bool c0.fD.fc,g0]) (by kernel_rfl) rfl (b0.memA .hd)) .nil) rfl ?_
 cases h
 exact ⟨b0.ag,fun w9 hw9=>⟨d0,g0,rfl,b0.kd (Ao s0 q0) hw9,b0.kd (Ao t0 q0) hw9⟩⟩
theorem body92:bodyB Tryz.prog 92 = true:=by kernel_rfl
theorem body115:bodyB Tryz.prog 115 = true:=by kernel_rfl
def cG_p (n:Nat) (a0:Int) (a1:Int):Option (Ta × Int):=
  (if a1 = 0 then some ((⟨((0:UInt64),(0:UInt64),(0:UInt64),(0:UInt64),(0:UInt64),(0:UInt64),(0:UInt64),(0:UInt64)),((0:UInt64),(0:UInt64),(0:UInt64),(0:UInt64),(0:UInt64),(0:UInt64),(0:UInt64),(0:UInt64))⟩:Ta),(7:Int)) else (ct_p n a0 a1).bind fun c0=>(cq_p n c0).bind fun b0=>some (b0.1,b0.2))
theorem cG_c (n:Nat) (L:List Nat) (w:World) (hL:∀ b ∈ L,b < w.heap.size) {a0:Int} {a1:Int}  {r:Ta × Int} (h:cG_p n a0 a1 = some r) :
    Calls Tryz.prog 77 #[vI a0,vI a1] w (Gives w fun _ u=>u = .tuple #[.agg ((cs_Ta r.1)).toArray,vI r.2]):=by
 unfold cG_p at h
 refine AF Tryz.func77 rfl rfl rfl fun _ cs0 hb0=>Ac<|RG.nl zL (AB w) fun F0 x0 d0 y0=>Af rfl<|Aa<|Aj<|Ac<|Ae rfl<|Ab (FV.eql (i:=a1) (j:=0) rfl rfl)<|Aa<|AS rfl h (fun k0 h=>?_) (fun k0 h=>?_)
 refine Ac<|Ab (AX (vs:=[]) (u:=.agg zM) evs_nil (fun w9=>by kernel_rfl))<|AQ zL d0 .hd (onesB rfl) fun G0 g0 z0=>Af rfl<|Aa<|Al rfl<|Ap hb0 Tryz.func77 rfl (.cons (.many (cs:=zL) (by kernel_rfl) rfl (g0.memA .hd)) (.cons (.tmp rfl) .nil)) rfl ?_
 cases h
 exact g0.gv
 refine Aq<|Ac<|Ae rfl<|Ae rfl<|bk h fun v0 t0 h=>AZ (fst:=[]) (cap:=[]) .plain body115 rfl (e2 rfl rfl) (fun w9 hw9=>ct_c n _ w9 (d0.hL hL hw9)  t0) rfl fun H0 E0 p0 ⟨C0,D0,hu_,q0,s0⟩=>?_
 subst hu_
 obtain ⟨b0,A0⟩:=d0.agr p0
 refine bk h fun c0 u0 h=>Bi (.tuple #[.agg ((cs_Ta c0.1)).toArray,vI c0.2]) body92 rfl (e1 rfl) (fun w9 hw9=>cq_c n _ w9 (b0.hL0 hL hw9) v0 (b0.kd q0 hw9) (b0.kd s0 hw9) u0) rfl<|Ab (Ah rfl rfl)<|Ab (Ah rfl rfl)<|AQ (cs_Ta c0.1) b0 .hd (onesB rfl) fun I0 j0 B0=>Af rfl<|Aa<|Al rfl<|Ap hb0 Tryz.func77 rfl (.cons (.many (cs:=(cs_Ta c0.1)) (by kernel_rfl) rfl (j0.memA .hd)) (.cons (.tmp rfl) .nil)) rfl ?_
 cases h
 exact j0.gv
theorem body77:bodyB Tryz.prog 77 = true:=by kernel_rfl
def bI_p (n:Nat) (a0:Int) (a1:Int):Option Ta:=
  (cG_p n a0 a1).bind fun b0=>some b0.1
theorem bI_c (n:Nat) (L:List Nat) (w:World) (hL:∀ b ∈ L,b < w.heap.size) {a0:Int} {a1:Int}  {r:Ta} (h:bI_p n a0 a1 = some r) :
    Calls Tryz.prog 35 #[vI a0,vI a1] w (Gives w fun _ u=>u = .agg ((cs_Ta r)).toArray):=by
 unfold bI_p at h
 refine AF Tryz.func35 rfl rfl rfl fun _ cs0 hb0=>Ac<|RG.nl zL (AB w) fun x0 p0 c0 s0=>Aa<|Ac<|Ae rfl<|Ae rfl<|bk h fun b0 k0 h=>Bi (.tuple #[.agg ((cs_Ta b0.1)).toArray,vI b0.2]) body77 rfl (e2 rfl rfl) (fun w9 hw9=>cG_c n _ w9 (c0.hL0 hL hw9)  k0) rfl<|Ae rfl<|Ab (Ah rfl rfl)<|Ab (Ah rfl rfl)<|RG.nl zL c0 fun y0 q0 j0 t0=>AQ (cs_Ta b0.1) j0 .hd (onesB rfl) fun z0 d0 u0=>Af rfl<|Aa<|Ac<|Ab (AK rfl (d0.memA .hd))<|AQ (cs_Ta b0.1) d0 .t1 (onesB rfl) fun A0 g0 v0=>Aa<|Al rfl<|Ap hb0 Tryz.func35 rfl (.cons (.many (cs:=(cs_Ta b0.1)) (by kernel_rfl) rfl (g0.memA .t1)) .nil) rfl ?_
 cases h
 exact g0.gv
def ay_l1 (n:Nat) (a0:Tc) (d0:Int × Int -> Option Int):Int × Int -> Option Int
  | (c0,b0)=>(bC_p n a0).bind fun p0=>(if b0 < p0 then (idx a0.fo b0).bind fun k0=>(chk (c0 + k0.fv)).bind fun g0=>(chk (b0 + 1)).bind fun j0=>d0 (g0,j0) else some c0)
def ay_p (n:Nat) (a0:Tc):Option Int:=
  Option.bind (loopF (ay_l1 n a0) n (0,0)) (fun b0=>some b0)
theorem ay_c (n:Nat) (L:List Nat) (w:World) (hL:∀ b ∈ L,b < w.heap.size) (a0:Tc) {v0_3:Value} (h0_3:Rep.R w L [v0_3] a0.fo)  {r:Int} (h:ay_p n a0 = some r) :
    Calls Tryz.prog 56 #[.agg #[vI a0.fe,vI a0.fh,vI a0.fj,v0_3]] w (Gives w fun _ u=>u = vI r):=by
 unfold ay_p at h
 refine AF Tryz.func56 rfl rfl rfl fun _ cs0 hb0=>Ac<|RG.bx (AB w) rfl rfl fun c1 g0 s0 R0=>Af rfl<|Aa<|Ac<|Af rfl<|Aa<|Aj<|Ac<|Af rfl<|Aa<|Ay ?_
 obtain ⟨X0,A0,v0⟩:=bind_in2 h
 refine MX.lo (α:=Int × Int) (fun ⟨d0,b0⟩=>[(1,vP g0),(3,vI d0),(4,vI b0)]) (fun ⟨d0,b0⟩=>[.cells g0 [vI a0.fe,vI a0.fh,vI a0.fj,v0_3] 44]) (fun ⟨d0,b0⟩=>(d0,b0)) (0,0) A0 s0 ?_
 rintro M0 ⟨d0,b0⟩ d1 q0 c0 t0 h
 unfold ay_l1 at h
 try dsimp only at h
 refine Aj<|Ac<|Ae rfl<|Ab (AK rfl (c0.memA .hd))<|bk h fun j0 G0 h=>Bi (vI j0) body60 rfl (e1 rfl) (fun w9 hw9=>bC_c n _ w9 (c0.hL0 hL hw9) a0 (c0.k0 h0_3 hw9) G0) rfl<|Ab (BR (i:=b0) (j:=j0) rfl rfl)<|Aa<|AS rfl h (fun p0 h=>?_) (fun p0 h=>?_)
 refine Aq<|Aj<|Ay<|Av<|Ae rfl<|AV 3 rfl<|AP rfl ((c0.memA .hd) 3 _ rfl)<|Ae rfl<|bk h fun J0 E0 h=>?_
 obtain ⟨x0,F0⟩:=idx_in E0
 obtain ⟨K0,P0,u0,y0,Q0,B0,z0⟩:=Bl (AO h0_3 c0) F0
 obtain ⟨Y0,Z0,b1,rfl,U0,V0,W0⟩:=op_Tb B0
 refine Ab (Bm 6 (b0.toNat) rfl u0 rfl x0 y0)<|AV 1 rfl<|AP rfl (z0 1 _ rfl)<|bk h fun H0 C0 h=>Ab (BL (i:=d0) (j:=J0.fv) rfl rfl C0)<|Af rfl<|Aa<|AA<|Av<|Ae rfl<|bk h fun I0 D0 h=>Ab (BL (i:=b0) (j:=1) rfl rfl D0)<|Af rfl<|Aa<|q0 (H0,I0) c0 t0 h
 refine Ba rfl ?_
 have h:=v0 _ h
 try dsimp only at h
 refine Ac<|Ae rfl<|Af rfl<|Aa<|Al rfl<|AT hb0 Tryz.func56 rfl rfl ?_
 cases h
 exact c0.gv
theorem body35:bodyB Tryz.prog 35 = true:=by kernel_rfl
theorem body56:bodyB Tryz.prog 56 = true:=by kernel_rfl
def bE_p (n:Nat) (a0:Tc) (a1:Int):Option (Ta × Int):=
  (aV_p n a0 a1).bind fun b0=>(if b0 = 0 then (ay_p n a0).bind fun c0=>(bI_p n c0 a1).bind fun d0=>some (d0,(0:Int)) else some ((⟨((0:UInt64),(0:UInt64),(0:UInt64),(0:UInt64),(0:UInt64),(0:UInt64),(0:UInt64),(0:UInt64)),((0:UInt64),(0:UInt64),(0:UInt64),(0:UInt64),(0:UInt64),(0:UInt64),(0:UInt64),(0:UInt64))⟩:Ta),b0))
theorem bE_c (n:Nat) (L:List Nat) (w:World) (hL:∀ b ∈ L,b < w.heap.size) (a0:Tc) {v0_3:Value} (h0_3:Rep.R w L [v0_3] a0.fo) {a1:Int}  {r:Ta × Int} (h:bE_p n a0 a1 = some r) :
    Calls Tryz.prog 16 #[.agg #[vI a0.fe,vI a0.fh,vI a0.fj,v0_3],vI a1] w (Gives w fun _ u=>u = .tuple #[.agg ((cs_Ta r.1)).toArray,vI r.2]):=by
 unfold bE_p at h
 refine AF Tryz.func16 rfl rfl rfl fun _ cs0 hb0=>Ac<|RG.bx (AB w) rfl rfl fun D0 x0 q0 z0=>RG.nl zL q0 fun E0 y0 b0 A0=>Af rfl<|Aa<|Aj<|Ac<|Ab (AK rfl (b0.memA .t1))<|Ae rfl<|bk h fun j0 s0 h=>Bi (vI j0) body55 rfl (e2 rfl rfl) (fun w9 hw9=>aV_c n _ w9 (b0.hL0 hL hw9) a0 (b0.k0 h0_3 hw9) s0) rfl<|Af rfl<|Aa<|Ac<|Ae rfl<|Ab (FV.neq (i:=j0) (j:=0) rfl rfl)<|Aa<|MX.ifn rfl h (fun p0 h=>?_) (fun p0 h=>?_)
 refine Aq<|Ac<|Ab (AK rfl (b0.memA .t1))<|bk h fun v0 t0 h=>Bi (vI v0) body56 rfl (e1 rfl) (fun w9 hw9=>ay_c n _ w9 (b0.hL0 hL hw9) a0 (b0.k0 h0_3 hw9) t0) rfl<|Ae rfl<|bk h fun c0 u0 h=>Bi (.agg ((cs_Ta c0)).toArray) body35 rfl (e2 rfl rfl) (fun w9 hw9=>bI_c n _ w9 (b0.hL0 hL hw9)  u0) rfl<|AQ (cs_Ta c0) b0 .hd (onesB rfl) fun F0 d0 B0=>Af rfl<|Aa<|Al rfl<|Ap hb0 Tryz.func16 rfl (.cons (.many (cs:=(cs_Ta c0)) (by kernel_rfl) rfl (d0.memA .hd)) (.cons (.tmp rfl) .nil)) rfl ?_
 cases h
 exact d0.gv
 refine Ac<|Ab (AX (vs:=[]) (u:=.agg zM) evs_nil (fun w9=>by kernel_rfl))<|Ae rfl<|AQ zL b0 .hd (onesB rfl) fun G0 g0 C0=>Af rfl<|Aa<|Al rfl<|Ap hb0 Tryz.func16 rfl (.cons (.many (cs:=zL) (by kernel_rfl) rfl (g0.memA .hd)) (.cons (.tmp rfl) .nil)) rfl ?_
 cases h
 exact g0.gv
def tb57_1:List (Nat × Nat × Nat):=[(0,16,1),(0,32,2),(3,64,48),(0,128,4),(12,256,192)]
def cw_p (n:Nat) (a0:Tc) (a1:Int) (a2:List Int):Option (Except Tf Bool):=
  (am_p n a0 a1).bind fun y3=>exc y3 (fun d0=>(ah_p n d0 a2).bind fun g0=>exc g0 (fun _y26=>some (.ok true)) (fun c0=>some (.error c0))) (fun b0=>some (.error b0))
theorem cw_c (n:Nat) (L:List Nat) (w:World) (hL:∀ b ∈ L,b < w.heap.size) (a0:Tc) {v0_3:Value} (h0_3:Rep.R w L [v0_3] a0.fo) {p0:Nat} (m0:∀ j9 v9,([vI a0.fe,vI a0.fh,vI a0.fj,v0_3]:List Value)[j9]? = some v9 -> w.cell? ((⟨p0,0,none⟩:Addr).add j9) = some v9) {a1:Int} {p1:Nat} (m1:∀ j9 v9,([vI a1]:List Value)[j9]? = some v9 -> w.cell? ((⟨p1,0,none⟩:Addr).add j9) = some v9) {a2:List Int} {v2_0:Value} (h2_0:Rep.R w L [v2_0] a2) {p2:Nat} (m2:∀ j9 v9,([v2_0]:List Value)[j9]? = some v9 -> w.cell? ((⟨p2,0,none⟩:Addr).add j9) = some v9)  {r:Except Tf Bool} (h:cw_p n a0 a1 a2 = some r) :
    Calls Tryz.prog 57 #[.pointer (some ⟨p0,0,none⟩),.pointer (some ⟨p1,0,none⟩),.pointer (some ⟨p2,0,none⟩)] w (PGives w (fun (y:Bool) _ u=>u = .bool y) (fun e=>.iface 120 (.agg #[vI e.fA])) r):=by
 unfold cw_p at h
 have hS0:=AB w
 refine MX.startP Tryz.func57 rfl rfl rfl fun _ cs0 hb0 hp0=>Ac<|Af rfl<|Aa<|Aj<|dt 5 tb57_1 fun kt1 kp2=>AG 0 1 20 kt1 rfl kp2 (AK rfl (fun j9 v9 h9=>hS0.ag.cell0 (m0 j9 v9 h9))) rfl<|AG 1 3 20 kt1 rfl kp2 (AL rfl ((fun j9 v9 h9=>hS0.ag.cell0 (m1 j9 v9 h9)) 0 _ rfl)) rfl<|xk h (fun v0 hy3 h=>?_) (fun g0 hy3 h=>?_)
 refine AG 3 11 16 kt1 rfl kp2 (AL rfl ((fun j9 v9 h9=>hS0.ag.cell0 (m2 j9 v9 h9)) 0 _ rfl)) rfl<|Be (i:=2) (rk kt1) (RO.callE (fst:=[]) (cap:=[]) rfl .plain body38 rfl (e2 rfl rfl) (fun w9 hw9=>am_c n _ w9 (hS0.hL hL hw9) a0 (Ar h0_3 hw9) hy3) (fun D0 s0=>?_))
 obtain ⟨j0,y0⟩:=hS0.agr s0
 cases h
 exact Bf hp0 Tryz.func57 ⟨j0.ag,rfl⟩
 refine AG 3 11 16 kt1 rfl kp2 (AL rfl ((fun j9 v9 h9=>hS0.ag.cell0 (m2 j9 v9 h9)) 0 _ rfl)) rfl<|BB 2 15 kt1 rfl .plain body38 rfl (e2 rfl rfl) (fun w9 hw9=>Bb (am_c n _ w9 (hS0.hL hL hw9) a0 (Ar h0_3 hw9) hy3)) rfl fun E0 C0 t0 ⟨B0,hu_,d0⟩=>?_
 subst hu_
 obtain ⟨b0,z0⟩:=hS0.agr t0
 refine xk h (fun x0 c0 h=>?_) (fun G0 c0 h=>?_)
 refine Be (i:=4) (rk kt1) (RO.callE (fst:=[]) (cap:=[]) rfl .plain body58 rfl (e2 rfl rfl) (fun w9 hw9=>ah_c n _ w9 (b0.hL0 hL hw9) g0 (b0.kd d0 hw9) (b0.k0 h2_0 hw9) c0) (fun F0 u0=>?_))
 obtain ⟨q0,A0⟩:=b0.agr u0
 cases h
 exact Bf hp0 Tryz.func57 ⟨q0.ag,rfl⟩
 refine BT 4 31 0 (.tuple #[]) kt1 rfl kp2 body58 rfl (e2 rfl rfl) (fun w9 hw9=>Bb (ah_c n _ w9 (b0.hL0 hL hw9) g0 (b0.kd d0 hw9) (b0.k0 h2_0 hw9) c0)) rfl<|AM (dk kt1)<|Ac<|Af rfl<|Aa<|Al rfl<|AT hb0 Tryz.func57 rfl rfl ?_
 cases h
 exact ⟨b0.ag,fun w9 hw9=>okOf_in rfl⟩
theorem body57:bodyB Tryz.prog 57 = true:=by kernel_rfl
def cy_p (n:Nat) (a0:Tc) (a1:List Int) (a2:Int):Option Int:=
  (cw_p n a0 a2 a1).bind fun c0=>exc c0 (fun _y41=>some (0:Int)) (fun b0=>some b0.fA)
theorem cy_c (n:Nat) (L:List Nat) (w:World) (hL:∀ b ∈ L,b < w.heap.size) (a0:Tc) {v0_3:Value} (h0_3:Rep.R w L [v0_3] a0.fo) {a1:List Int} {v1_0:Value} (h1_0:Rep.R w L [v1_0] a1) {a2:Int}  {r:Int} (h:cy_p n a0 a1 a2 = some r) :
    Calls Tryz.prog 17 #[.agg #[vI a0.fe,vI a0.fh,vI a0.fj,v0_3],v1_0,vI a2] w (Gives w fun _ u=>u = vI r):=by
 unfold cy_p at h
 refine AF Tryz.func17 rfl rfl rfl fun _ cs0 hb0=>Ac<|RG.bx (AB w) rfl rfl fun G1 g0 D0 x1=>RG.bx D0 rfl (Rep.c1 (AO h1_0 D0)) fun K1 j0 K0 y1=>RG.bx K0 rfl rfl fun M1 p0 M0 z1=>Af rfl<|Aa<|Ac<|Ab (BN (vs:=[]) (us:=[vP g0,vP p0,vP j0]) evs_nil (e3 rfl rfl rfl))<|BM (fst:=[]) (cap:=[]) (vs:=[.func (.func 57) #[] #[vP g0,vP p0,vP j0]]) .plain body44 Tryz.func44 rfl rfl rfl rfl (e1 rfl) rfl fun p1 E0 F1=>Ac<|RG.nl [.bool false] M0 fun P1 q0 P0 A1=>RG.nl [vI 0] P0 fun Q1 d0 b0 B1=>Aa<|Ac<|Ab (BN (vs:=[]) (us:=[vP q0,vP d0]) evs_nil (e2 rfl rfl))<|RG.defer (fst:=[]) (cap:=[vP q0,vP d0]) (vs:=[]) rfl .plain rfl evs_nil<|Aa<|Ac<|Ae rfl<|xk h (fun s0 z0 h=>?_) (fun B0 z0 h=>?_)
 refine BH (fst:=[]) (cap:=[vP g0,vP p0,vP j0]) .plain body57 rfl evs_nil (fun w9 hw9=>cw_c n _ w9 (b0.hL0 hL hw9) a0 (b0.k0 h0_3 hw9) (mem_keep hw9 (b0.memA .t4)) (mem_keep hw9 (b0.memA .t2)) (b0.k0 h1_0 hw9) (mem_keep hw9 (b0.memA .t3)) z0) fun R1 W0=>?_
 obtain ⟨Q0,C1⟩:=b0.agr W0
 refine PN.callD (vs:=[]) (cap:=[vP q0,vP d0]) body100 Tryz.func100 rfl rfl rfl fun k1 X0 Z0=>Ac<|RG.recover1 .plain X0 rfl<|Af rfl<|Aa<|Ac<|Ae rfl<|Ab (FV.neqI Tryz.underlying20 rfl rfl)<|Aa<|Bk rfl<|Ac<|Ae rfl<|Ab (FV.assertT (by kernel_rfl) rfl)<|Ae rfl<|Ab (Ah rfl rfl)<|Ab (Ah rfl rfl)<|RG.nl [vI 0] Q0 fun U1 g1 R0 D1=>AQ [vI s0.fA] R0 .hd (o1 rfl) fun V1 t0 E1=>Af rfl<|Aa<|Aj<|Ac<|Ae rfl<|Ab (Bo rfl)<|Aa<|BF rfl<|Aq<|Ac<|Af rfl<|Aa<|dt 3 tb100_6 fun c0 A0=>Ag 0 1 c0 rfl A0 (fun _=>Ai rfl) rfl<|Ag 1 3 c0 rfl A0 (fun _=>Bd 0 rfl) rfl<|RD.mo (α:=Unit) (fun ()=>[(1,vP d0),(19,vI s0.fA)]) (fun ()=>[.cells d0 [vI 0] 51,.cells q0 [.bool false] 4,.cells p0 [vI a2] 3,.cells j0 [v1_0] 46,.cells g0 [vI a0.fe,vI a0.fh,vI a0.fj,v0_3] 44]) t0 1 15 ?_ ?_
 rintro ⟨⟩ W1 G0 q1
 try dsimp only
 refine BJ 4 31 c0 rfl rfl .plain (AH (news:=[vI s0.fA]) G0 .hd rfl rfl rfl rfl rfl rfl (o1 rfl)) fun H1 v0 s1=>AM (dk c0)<|MX.fin rfl<|RT.leaveD1 Z0 Tryz.func100 rfl .nil<|Ap (u:=.tuple #[.bool false,vI s0.fA]) E0 Tryz.func44 rfl (.cons (.one (by kernel_rfl) rfl ((v0.memA .t1) 0 _ rfl)) (.cons (.one (by kernel_rfl) rfl ((v0.memA .hd) 0 _ rfl)) .nil)) rfl<|Ae rfl<|Ab (Ah rfl rfl)<|Ab (Ah rfl rfl)<|Af rfl<|Af rfl<|Aa<|Ac<|Ae rfl<|Af rfl<|Aa<|Al rfl<|AT hb0 Tryz.func17 rfl rfl ?_
 cases h
 exact v0.gv
 intro C0
 refine Bn [2,3] (rk c0) ⟨?_,?_,trivial⟩
 refine Bq (m' :=7) (sk c0) rfl .plain rfl (AL rfl ((t0.memA .hd) 0 _ rfl))<|BJ 3 15 c0 rfl rfl .plain (AH (news:=[.bool false]) t0 .t2 rfl rfl rfl rfl rfl rfl (o1 rfl)) fun b1 u0 y0=>?_
 obtain ⟨H0,U0⟩:=AI u0 .d1
 exact C0 () H0 (Tt y0 U0)
 refine RO.now (m' :=11) (sk c0) rfl rfl .plain (AH (news:=[.bool false]) t0 .t2 rfl rfl rfl rfl rfl rfl (o1 rfl)) fun b1 u0 y0=>AG 2 15 16 c0 rfl A0 (AL rfl ((u0.memA .hd) 0 _ rfl)) rfl ?_
 obtain ⟨I0,V0⟩:=AI u0 .d1
 exact C0 () I0 (Tt y0 V0)
 refine RG.callq' (v:=.bool B0) (fst:=[]) (cap:=[vP g0,vP p0,vP j0]) .plain body57 rfl evs_nil (fun w9 hw9=>Bb (cw_c n _ w9 (b0.hL0 hL hw9) a0 (b0.k0 h0_3 hw9) (mem_keep hw9 (b0.memA .t4)) (mem_keep hw9 (b0.memA .t2)) (b0.k0 h1_0 hw9) (mem_keep hw9 (b0.memA .t3)) z0)) rfl<|AQ [.bool B0] b0 .t1 (o1 rfl) fun I1 J0 u1=>AQ [vI 0] J0 .hd (o1 rfl) fun J1 x0 v1=>Aa<|Al rfl<|RT.callD (vs:=[]) (cap:=[vP q0,vP d0]) body100 Tryz.func100 rfl rfl rfl fun j1 F0 Y0=>Ac<|RG.recover0 .plain F0 rfl<|Af rfl<|Aa<|Ac<|Ae rfl<|Ab (FV.neqI0 Tryz.underlying20 rfl rfl)<|Aa<|BF rfl<|Aq<|MX.fin rfl<|RT.leaveD0 F0 Y0 Tryz.func100 rfl .nil<|Ap (u:=.tuple #[.bool B0,vI 0]) E0 Tryz.func44 rfl (.cons (.one (by kernel_rfl) rfl ((x0.memA .t1) 0 _ rfl)) (.cons (.one (by kernel_rfl) rfl ((x0.memA .hd) 0 _ rfl)) .nil)) rfl<|Ae rfl<|Ab (Ah rfl rfl)<|Ab (Ah rfl rfl)<|Af rfl<|Af rfl<|Aa<|Ac<|Ae rfl<|Af rfl<|Aa<|Al rfl<|AT hb0 Tryz.func17 rfl rfl ?_
 cases h
 exact x0.gv
theorem body14:bodyB Tryz.prog 14 = true:=by kernel_rfl
def aP_l1 (n:Nat) (a2:Int) (u0:(List Int) × Int) (d0:Int) (g0:Int × (List Ta) -> Option (List Ta)):Int × (List Ta) -> Option (List Ta)
  | (b0,c0)=>(if b0 < a2 then (idx u0.1 b0).bind fun q0=>(chk (q0 * a2)).bind fun j0=>(chk (j0 - d0)).bind fun k0=>(bI_p n k0 d0).bind fun t0=>(app c0 ([t0]:List Ta)).bind fun s0=>(chk (b0 + 1)).bind fun p0=>g0 (p0,s0) else some c0)
def aP_p (n:Nat) (a0:Tc) (a1:List Int) (a2:Int):Option ((List Ta) × Int):=
  (ap_p n a0 a1 a2).bind fun b0=>(if b0.2 = 0 then (ay_p n a0).bind fun c0=>(if c0 = 0 then some (([]:List Ta),(7:Int)) else Option.bind (loopF (aP_l1 n a2 b0 c0) n (0,([]:List Ta))) (fun d0=>some (d0,(0:Int)))) else some (([]:List Ta),b0.2))
theorem aP_c (n:Nat) (L:List Nat) (w:World) (hL:∀ b ∈ L,b < w.heap.size) (a0:Tc) {v0_3:Value} (h0_3:Rep.R w L [v0_3] a0.fo) {a1:List Int} {v1_0:Value} (h1_0:Rep.R w L [v1_0] a1) {a2:Int}  {r:(List Ta) × Int} (h:aP_p n a0 a1 a2 = some r) :
    Calls Tryz.prog 21 #[.agg #[vI a0.fe,vI a0.fh,vI a0.fj,v0_3],v1_0,vI a2] w (Gives w fun w' u=>∃ v0_0:Value,u = .tuple #[v0_0,vI r.2]/\Rep.R w' L [v0_0] r.1):=by
 unfold aP_p at h
 refine AF Tryz.func21 rfl rfl rfl fun _ cs0 hb0=>Ac<|RG.bx (AB w) rfl rfl fun b2 P1 s0 U1=>Af rfl<|Af rfl<|Aa<|Ac<|Ab (AK rfl (s0.memA .hd))<|Ae rfl<|Ae rfl<|bk h fun J1 C1 h=>AZ (fst:=[]) (cap:=[]) .plain body14 rfl (e3 rfl rfl rfl) (fun w9 hw9=>ap_c n _ w9 (s0.hL hL hw9) a0 (s0.km h0_3 hw9) (s0.km h1_0 hw9) C1) rfl fun g2 Z1 U0 ⟨H1,hu_,q1⟩=>?_
 subst hu_
 obtain ⟨b0,W1⟩:=s0.agr U0
 refine Ae rfl<|Ab (Ah rfl rfl)<|Ab (Ah rfl rfl)<|Af rfl<|Af rfl<|Aa<|Aj<|Ac<|Ae rfl<|Ab (FV.neq (i:=J1.2) (j:=0) rfl rfl)<|Aa<|MX.ifn rfl h (fun G0 h=>?_) (fun G0 h=>?_)
 refine Aq<|Ac<|Ab (AK rfl (b0.memA .hd))<|bk h fun t0 D1 h=>Bi (vI t0) body56 rfl (e1 rfl) (fun w9 hw9=>ay_c n _ w9 (b0.hL0 hL hw9) a0 (b0.k0 h0_3 hw9) D1) rfl<|Af rfl<|Aa<|Aj<|Ac<|Ae rfl<|Ab (FV.eql (i:=t0) (j:=0) rfl rfl)<|Aa<|AS rfl h (fun H0 h=>?_) (fun H0 h=>?_)
 refine Ac<|Af rfl<|Af rfl<|Aa<|Al rfl ?_
 have s1:=Rep.nilAt (α:=Ta) b0 L
 refine Ap hb0 Tryz.func21 rfl (.cons (.tmp rfl) (.cons (.tmp rfl) .nil)) rfl ?_
 cases h
 exact ⟨b0.ag,fun w9 hw9=>⟨vN,rfl,b0.kd s1 hw9⟩⟩
 refine Aq<|Ac<|Af rfl<|Aa<|Aj<|Ac<|Af rfl<|Aa<|Ay ?_
 have x0:=b0.nilRow 37 (Rep.size Ta)
 obtain ⟨M0,y0⟩:=AI x0 (.a0 .done)
 obtain ⟨X1,g1,Y0⟩:=bind_in2 h
 refine MX.lf (α:=Int × (List Ta) × Value × (List Value)) (fun ⟨j0,g0,d0,p0⟩=>[(2,vI a2),(8,H1),(10,vI t0),(11,d0),(12,vI j0)]) (fun ⟨j0,g0,d0,p0⟩=>[.row w.heap.size 37 (Rep.size Ta) d0 g0.length p0]) (fun ⟨j0,g0,d0,p0⟩ D0=>Cells D0 (bl [.row w.heap.size 37 (Rep.size Ta) d0 g0.length p0] ++ L) p0 g0) (fun ⟨j0,g0,d0,p0⟩=>(j0,g0)) (0,([]:List Ta),vN,[]) g1 M0 (Au (Ax (cs:=[]) (xs:=([]:List Ta)) x0 L (AD _ _)) y0) ?_
 rintro M1 ⟨j0,g0,d0,p0⟩ D0 K0 q0 z0 C0 h
 unfold aP_l1 at h
 try dsimp only at h
 refine Aj<|Ac<|Ae rfl<|Ae rfl<|Ab (BR (i:=j0) (j:=a2) rfl rfl)<|Aa<|AS rfl h (fun F0 h=>?_) (fun F0 h=>?_)
 refine Aq<|Aj<|Ay<|Av<|Ae rfl<|Ae rfl<|Ae rfl<|bk h fun E0 y1 h=>?_
 obtain ⟨Z0,z1⟩:=idx_in y1
 obtain ⟨K1,R1,W0,b1,I0,j1,c1⟩:=Bl (Ao q1 (Tt (St.nilRowT b0 37 (Rep.size Ta)) (Tt y0 z0))) z1
 have X0:I0 = [vI E0]:=j1; subst X0
 refine Ab (Bm 1 (j0.toNat) rfl W0 rfl Z0 b1)<|AP rfl (c1 0 _ rfl)<|Ae rfl<|bk h fun E1 u1 h=>Ab (FV.mulc (i:=E0) (j:=a2) rfl rfl u1)<|Ae rfl<|bk h fun Y1 v1 h=>Ab (FV.subc (i:=E1) (j:=t0) rfl rfl v1)<|Ae rfl<|bk h fun c0 B1 h=>Bi (.agg ((cs_Ta c0)).toArray) body35 rfl (e2 rfl rfl) (fun w9 hw9=>bI_c n _ w9 (q0.hL0 hL hw9)  B1) rfl<|Ak .plain rfl (AE (α:=Ta) (xs:=([c0]:List Ta)) (vs:=[.agg ((cs_Ta c0)).toArray]) (ds' :=(cs_Ta c0)) rfl q0 el63 rfl (e1 rfl) (by kernel_rfl) rfl) fun c2 Q1 u0 A0=>bk h fun I1 A1 h=>RG.doesL .plain rfl (AW (α:=Ta) (ys:=([c0]:List Ta)) A1 u0 (fun _ _=>.t1) el63 rfl rfl (Au C0 A0) (Src.row (α:=Ta) u0 .hd (Ax (cs:=(cs_Ta c0)) (xs:=(([c0]:List Ta):List Ta)) u0 L (Am (cs:=(cs_Ta c0)) (ds:=[]) (mk_Ta c0.fN c0.fD) (AD _ _))))) fun G1 d2 ⟨J0,P0,R0,V0⟩=>Af rfl<|Aa<|AA<|Av<|Ae rfl<|bk h fun F1 x1 h=>Ab (BL (i:=j0) (j:=1) rfl rfl x1)<|Af rfl<|Aa ?_
 obtain ⟨Q0,B0⟩:=AI P0 .d1
 exact K0 (F1,I1,G1,J0) Q0 (Tt z0 (Tt A0 (Tt R0 B0))) (Au V0 B0) h
 refine Ba rfl ?_
 have h:=Y0 _ h
 try dsimp only at h
 refine Ac<|Ae rfl<|Af rfl<|Af rfl<|Aa<|Al rfl ?_
 have v0:=By q0 .hd
 have V1:=Bz q0 .hd
 have k1:=BA (α:=Ta) (v:=d0) (xs:=g0) v0 L (Bj (α:=Ta) q0 .hd C0 hL)
 refine Ap hb0 Tryz.func21 rfl (.cons (.tmp rfl) (.cons (.tmp rfl) .nil)) rfl ?_
 cases h
 exact ⟨v0.ag,fun w9 hw9=>⟨d0,rfl,v0.kd k1 hw9⟩⟩
 refine Ac<|Ae rfl<|Af rfl<|Af rfl<|Aa<|Al rfl ?_
 have p1:=Rep.nilAt (α:=Ta) b0 L
 refine Ap hb0 Tryz.func21 rfl (.cons (.tmp rfl) (.cons (.tmp rfl) .nil)) rfl ?_
 cases h
 exact ⟨b0.ag,fun w9 hw9=>⟨vN,rfl,b0.kd p1 hw9⟩⟩
def tb23_7:List (Nat × Nat × Nat):=[(0,1073741824,256),(1,2147483648,1073741824),(2,4294967296,2147483648),(0,8589934592,256),(8,17179869184,8589934592),(16,34359738368,17179869184),(7,2048,4294967296),(127,4096,34359738368)]
def tb23_11:List (Nat × Nat × Nat):=[(0,2199023255552,2048),(0,4398046511104,256),(0,8796093022208,8192),(6,17592186044416,13194139533312),(8,35184372088832,17592186044416),(17,70368744177664,37383395344384),(0,140737488355328,4096),(0,281474976710656,256),(0,562949953421312,8192),(384,1125899906842624,844424930131968),(512,2251799813685248,1125899906842624),(1088,4503599627370496,2392537302040576),(63,2048,70368744177664),(8191,4096,4503599627370496)]
def az_l1 (_n:Nat) (a2:Int) (p0:(List Int) × Int) (j0:Int × Int × Int -> Option (Int × Int)):Int × Int × Int -> Option (Int × Int)
  | (d0,g0,b0)=>(if b0 < a2 then (idx p0.1 b0).bind fun c0=>(chk (b0 + 1)).bind fun k0=>j0 (min d0 c0,max g0 c0,k0) else some (g0,d0))
def az_p (n:Nat) (a0:Tc) (a1:List Int) (a2:Int):Option (Ta × Int):=
  (ap_p n a0 a1 a2).bind fun b0=>(if b0.2 = 0 then (ay_p n a0).bind fun d0=>(if d0 = 0 then some ((⟨((0:UInt64),(0:UInt64),(0:UInt64),(0:UInt64),(0:UInt64),(0:UInt64),(0:UInt64),(0:UInt64)),((0:UInt64),(0:UInt64),(0:UInt64),(0:UInt64),(0:UInt64),(0:UInt64),(0:UInt64),(0:UInt64))⟩:Ta),(7:Int)) else (b0.1[0]?).bind fun c0=>Option.bind (loopF (az_l1 n a2 b0) n (c0,c0,1)) (fun (q0,p0)=>(chk (q0 - p0)).bind fun g0=>(chk (g0 * a2)).bind fun j0=>(bI_p n j0 d0).bind fun k0=>some (k0,(0:Int)))) else some ((⟨((0:UInt64),(0:UInt64),(0:UInt64),(0:UInt64),(0:UInt64),(0:UInt64),(0:UInt64),(0:UInt64)),((0:UInt64),(0:UInt64),(0:UInt64),(0:UInt64),(0:UInt64),(0:UInt64),(0:UInt64),(0:UInt64))⟩:Ta),b0.2))
theorem az_c (n:Nat) (L:List Nat) (w:World) (hL:∀ b ∈ L,b < w.heap.size) (a0:Tc) {v0_3:Value} (h0_3:Rep.R w L [v0_3] a0.fo) {a1:List Int} {v1_0:Value} (h1_0:Rep.R w L [v1_0] a1) {a2:Int}  {r:Ta × Int} (h:az_p n a0 a1 a2 = some r) :
    Calls Tryz.prog 23 #[.agg #[vI a0.fe,vI a0.fh,vI a0.fj,v0_3],v1_0,vI a2] w (Gives w fun _ u=>u = .tuple #[.agg ((cs_Ta r.1)).toArray,vI r.2]):=by
 unfold az_p at h
 refine AF Tryz.func23 rfl rfl rfl fun _ cs0 hb0=>Ac<|RG.bx (AB w) rfl rfl fun c2 K1 Y0 U1=>RG.nl zL Y0 fun j2 A0 t0 V1=>Af rfl<|Aa<|Ac<|Ab (AK rfl (t0.memA .t1))<|Ae rfl<|Ae rfl<|bk h fun G1 B1 h=>AZ (fst:=[]) (cap:=[]) .plain body14 rfl (e3 rfl rfl rfl) (fun w9 hw9=>ap_c n _ w9 (t0.hL hL hw9) a0 (t0.km h0_3 hw9) (t0.km h1_0 hw9) B1) rfl fun k2 b2 c1 ⟨F1,hu_,P0⟩=>?_
 subst hu_
 obtain ⟨s0,W1⟩:=t0.agr c1
 refine Ae rfl<|Ab (Ah rfl rfl)<|Ab (Ah rfl rfl)<|Af rfl<|Af rfl<|Aa<|Aj<|Ac<|Ae rfl<|Ab (FV.neq (i:=G1.2) (j:=0) rfl rfl)<|Aa<|MX.ifn rfl h (fun R0 h=>?_) (fun R0 h=>?_)
 refine Aq<|Ac<|Ab (AK rfl (s0.memA .t1))<|bk h fun z0 C1 h=>Bi (vI z0) body56 rfl (e1 rfl) (fun w9 hw9=>ay_c n _ w9 (s0.hL0 hL hw9) a0 (s0.k0 h0_3 hw9) C1) rfl<|Af rfl<|Aa<|Aj<|Ac<|Ae rfl<|Ab (FV.eql (i:=z0) (j:=0) rfl rfl)<|Aa<|AS rfl h (fun U0 h=>?_) (fun U0 h=>?_)
 refine Ac<|Ab (AX (vs:=[]) (u:=.agg zM) evs_nil (fun w9=>by kernel_rfl))<|AQ zL s0 .hd (onesB rfl) fun p2 D0 X1=>Af rfl<|Aa<|Al rfl<|Ap hb0 Tryz.func23 rfl (.cons (.many (cs:=zL) (by kernel_rfl) rfl (D0.memA .hd)) (.cons (.tmp rfl) .nil)) rfl ?_
 cases h
 exact D0.gv
 refine Aq<|Aj<|dt 8 tb23_7 fun d0 j0=>Ag 0 1 d0 rfl j0 (fun _=>Ai rfl) rfl<|bk h fun x0 z1 h=>?_
 obtain ⟨I1,P1,G0,J0,W0,q1,M0⟩:=Bl P0 z1
 have g1:W0 = [vI x0]:=q1; subst g1
 refine Ag 1 3 d0 rfl j0 (fun _=>Bm 1 0 rfl G0 rfl rfl J0) rfl<|AG 2 7 192 d0 rfl j0 (AL rfl (M0 0 _ rfl)) rfl<|Ag 3 15 d0 rfl j0 (fun _=>Ai rfl) rfl<|Ag 4 31 d0 rfl j0 (fun _=>Bm 1 0 rfl G0 rfl rfl J0) rfl<|AG 5 63 128 d0 rfl j0 (AL rfl (M0 0 _ rfl)) rfl<|Ag 6 127 d0 rfl j0 (fun _=>AU rfl) rfl<|Ag 7 255 d0 rfl j0 (fun _=>AU rfl) rfl<|AM (dk d0)<|Aj<|Ac<|Af rfl<|Aa<|Ay ?_
 obtain ⟨Z0,b1⟩:=AI s0 (.a0 .done)
 obtain ⟨Y1,k1,j1⟩:=bind_in2 h
 refine MX.lo (α:=Int × Int × Int) (fun ⟨p0,q0,g0⟩=>[(2,vI a2),(6,vP A0),(8,F1),(10,vI z0),(11,vI p0),(12,vI q0),(13,vI g0)]) (fun ⟨p0,q0,g0⟩=>[.cells A0 zL 37]) (fun ⟨p0,q0,g0⟩=>(p0,q0,g0)) (x0,x0,1) k1 Z0 ?_
 rintro J1 ⟨p0,q0,g0⟩ q2 X0 v0 E0 h
 unfold az_l1 at h
 try dsimp only at h
 refine Aj<|Ac<|Ae rfl<|Ae rfl<|Ab (BR (i:=g0) (j:=a2) rfl rfl)<|Aa<|AS rfl h (fun Q0 h=>?_) (fun Q0 h=>?_)
 refine Aq<|Aj<|Ay<|dt 14 tb23_11 fun b0 c0=>Ag 0 1 b0 rfl c0 (fun _=>Ai rfl) rfl<|Ag 1 3 b0 rfl c0 (fun _=>Ai rfl) rfl<|Ag 2 7 b0 rfl c0 (fun _=>Ai rfl) rfl<|bk h fun u0 x1 h=>?_
 obtain ⟨H0,y1⟩:=idx_in x1
 obtain ⟨H1,M1,F0,I0,V0,p1,K0⟩:=Bl (Ao P0 (Tt b1 E0)) y1
 have d1:V0 = [vI u0]:=p1; subst d1
 refine Ag 3 15 b0 rfl c0 (fun _=>Bm 1 (g0.toNat) rfl F0 rfl H0 I0) rfl<|AG 4 31 12320 b0 rfl c0 (AL rfl (K0 0 _ rfl)) rfl<|Ag 5 63 b0 rfl c0 (fun _=>FV.min2 (i:=p0) (j:=u0) rfl rfl) rfl<|Ag 6 127 b0 rfl c0 (fun _=>Ai rfl) rfl<|Ag 7 255 b0 rfl c0 (fun _=>Ai rfl) rfl<|Ag 8 511 b0 rfl c0 (fun _=>Ai rfl) rfl<|Ag 9 1023 b0 rfl c0 (fun _=>Bm 1 (g0.toNat) rfl F0 rfl H0 I0) rfl<|AG 10 2047 10240 b0 rfl c0 (AL rfl (K0 0 _ rfl)) rfl<|Ag 11 4095 b0 rfl c0 (fun _=>FV.max2 (i:=q0) (j:=u0) rfl rfl) rfl<|Ag 12 8191 b0 rfl c0 (fun _=>AU rfl) rfl<|Ag 13 16383 b0 rfl c0 (fun _=>AU rfl) rfl<|AM (dk b0)<|AA<|Av<|Ae rfl<|bk h fun D1 s1 h=>Ab (BL (i:=g0) (j:=1) rfl rfl s1)<|Af rfl<|Aa<|X0 (min p0 u0,max q0 u0,D1) v0 E0 h
 refine Ba rfl ?_
 have h:=j1 _ h
 try dsimp only at h
 refine Ac<|Ae rfl<|Ae rfl<|bk h fun E1 u1 h=>Ab (FV.subc (i:=q0) (j:=p0) rfl rfl u1)<|Ae rfl<|bk h fun Z1 v1 h=>Ab (FV.mulc (i:=E1) (j:=a2) rfl rfl v1)<|Ae rfl<|bk h fun y0 A1 h=>Bi (.agg ((cs_Ta y0)).toArray) body35 rfl (e2 rfl rfl) (fun w9 hw9=>bI_c n _ w9 (v0.hL0 hL hw9)  A1) rfl<|AQ (cs_Ta y0) v0 .hd (onesB rfl) fun d2 B0 Q1=>Af rfl<|Aa<|Al rfl<|Ap hb0 Tryz.func23 rfl (.cons (.many (cs:=(cs_Ta y0)) (by kernel_rfl) rfl (B0.memA .hd)) (.cons (.tmp rfl) .nil)) rfl ?_
 cases h
 exact B0.gv
 refine Ac<|Ab (AX (vs:=[]) (u:=.agg zM) evs_nil (fun w9=>by kernel_rfl))<|Ae rfl<|AQ zL s0 .hd (onesB rfl) fun g2 C0 R1=>Af rfl<|Aa<|Al rfl<|Ap hb0 Tryz.func23 rfl (.cons (.many (cs:=zL) (by kernel_rfl) rfl (C0.memA .hd)) (.cons (.tmp rfl) .nil)) rfl ?_
 cases h
 exact C0.gv
def tb24_6:List (Nat × Nat × Nat):=[(0,131072,1),(0,262144,32),(3,524288,393216),(4,1048576,524288),(0,2097152,2),(0,4194304,32),(48,8388608,6291456),(64,16777216,8388608),(136,33554432,17825792)]
def aN_l1 (_n:Nat) (a0:List Ta) (a1:List Ta) (c0:Nat -> Option (Bool ⊕ Unit)):Nat -> Option (Bool ⊕ Unit)
  | b0=>(if b0 < a0.length then (a0[b0]?).bind fun d0=>(a1[b0]?).bind fun g0=>(if d0 = g0 then c0 (b0 + 1) else some (.inl false)) else some (.inr ()))
def aN_p (n:Nat) (a0:List Ta) (a1:List Ta):Option Bool:=
  (if a0.length = a1.length then thn (loopF (aN_l1 n a0 a1) n 0) (fun _=>some true) else some false)
theorem aN_c (n:Nat) (L:List Nat) (w:World) (_hL:∀ b ∈ L,b < w.heap.size) {a0:List Ta} {v0_0:Value} (h0_0:Rep.R w L [v0_0] a0) {a1:List Ta} {v1_0:Value} (h1_0:Rep.R w L [v1_0] a1)  {r:Bool} (h:aN_p n a0 a1 = some r) :
    Calls Tryz.prog 24 #[v0_0,v1_0] w (Gives w fun _ u=>u = .bool r):=by
 unfold aN_p at h
 have hS0:=AB w
 refine AF Tryz.func24 rfl rfl rfl fun _ cs0 hb0=>Ac<|Af rfl<|Aa<|Aj<|Ac<|Ae rfl ?_
 have hl1:a0.length <= 281474976710656:=AY h0_0
 refine Ab (Bc (xs:=a0) Tryz.underlying63 rfl h0_0)<|Ae rfl ?_
 have hl2:a1.length <= 281474976710656:=AY h1_0
 refine Ab (Bc (xs:=a1) Tryz.underlying63 rfl h1_0)<|Ab (FV.neqN (i:=a0.length) (j:=a1.length) rfl rfl)<|Aa<|MX.ifn rfl h (fun c3 h=>?_) (fun c3 h=>?_)
 refine Aq<|Aj<|Ac<|Af rfl<|Aa<|Ay<|tn h fun U0 D0 j0=>MX.lo (α:=Nat) (fun b0=>[(0,v0_0),(1,v1_0),(5,vI ((b0:Nat):Int))]) (fun b0=>[]) (fun b0=>b0) 0 D0 hS0 ?_
 rintro K0 b0 V0 u0 g0 v0 h
 unfold aN_l1 at h
 try dsimp only at h
 refine Aj<|Ac<|Ae rfl<|Ae rfl ?_
 have k0:=AO h0_0 g0
 refine Ab (Bc (xs:=a0) Tryz.underlying63 rfl k0)<|Ab (Bu (i:=b0) (j:=a0.length) rfl rfl)<|Aa<|AS rfl h (fun s0 h=>?_) (fun s0 h=>?_)
 refine Aq<|Aj<|Ay<|Aj<|dt 9 tb24_6 fun c0 d0=>Ag 0 1 c0 rfl d0 (fun _=>Ai rfl) rfl<|Ag 1 3 c0 rfl d0 (fun _=>Ai rfl) rfl<|bk h fun p0 G0 h=>?_
 obtain ⟨I0,M0,x0,z0,Q0,E0,B0⟩:=Bl k0 G0
 obtain rfl:=op_Ta E0
 refine Ag 2 7 c0 rfl d0 (fun _=>Bm 16 b0 rfl x0 rfl rfl z0) rfl<|AG 3 15 256 c0 rfl d0 (AK rfl B0) rfl<|Ag 4 31 c0 rfl d0 (fun _=>Ai rfl) rfl<|Ag 5 63 c0 rfl d0 (fun _=>Ai rfl) rfl<|bk h fun q0 H0 h=>?_
 obtain ⟨J0,P0,y0,A0,R0,F0,C0⟩:=Bl (AO h1_0 g0) H0
 obtain rfl:=op_Ta F0
 refine Ag 6 127 c0 rfl d0 (fun _=>Bm 16 b0 rfl y0 rfl rfl A0) rfl<|AG 7 255 256 c0 rfl d0 (AK rfl C0) rfl<|Ag 8 511 c0 rfl d0 (fun _=>FV.neqV (xs:=((cs_Ta p0)).toArray) (ys:=((cs_Ta q0)).toArray) rfl rfl (by kernel_rfl) (eqlD_37 p0 q0)) rfl<|AM (dk c0)<|MX.ifn rfl h (fun t0 h=>?_) (fun t0 h=>?_)
 refine Aq<|AA<|Av<|Ae rfl<|Ab (Bw (i:=b0) (j:=1) rfl rfl (by omega))<|Af rfl<|Aa<|u0 (b0 + 1) g0 v0 h
 refine Ac<|Af rfl<|Aa ?_
 have h:=thn_inl h j0
 refine Al rfl<|AT hb0 Tryz.func24 rfl rfl ?_
 cases h
 exact g0.gv
 refine Ba rfl ?_
 have h:=thn_inr h j0
 try dsimp only at h
 refine Ac<|Af rfl<|Aa<|Al rfl<|AT hb0 Tryz.func24 rfl rfl ?_
 cases h
 exact g0.gv
 refine Ac<|Af rfl<|Aa<|Al rfl<|AT hb0 Tryz.func24 rfl rfl ?_
 cases h
 exact hS0.gv
end Go.Proofs.YtgejkdheojkfiaaGreatDoor
