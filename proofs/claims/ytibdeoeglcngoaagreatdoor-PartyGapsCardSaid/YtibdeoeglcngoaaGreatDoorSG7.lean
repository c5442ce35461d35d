import Derived.Test.YtibdeoeglcngoaaGreatDoorSG6
namespace Go.Proofs.YtibdeoeglcngoaaGreatDoor
open Go Go.RowKit Tryz
set_option maxRecDepth 4000
set_option maxHeartbeats 4000000

def ae_l1 (_n:Nat) (q0:(List (List Int)) × Int) (E0:(List Int) × Int) (u0:Int × Int × Int × Nat -> Option (Bool ⊕ (Int × Int × Int))):Int × Int × Int × Nat -> Option (Bool ⊕ (Int × Int × Int))
  | (s0,t0,g0,b0)=>(if b0 < q0.1.length then (q0.1[b0]?).bind fun k0=>(if k0.length = 2 then (k0[0]?).bind fun c0=>(k0[1]?).bind fun d0=>(chk (c0 + d0)).bind fun v0=>(chk (s0 + v0)).bind fun x0=>(chk (c0 - d0)).bind fun y0=>(chk (t0 + y0)).bind fun z0=>(E0.1[b0]?).bind fun p0=>jn (fun F0=>u0 (x0,z0,F0,b0 + 1)) (fun j0=>(if p0 = 0 then (chk (c0 + d0)).bind fun A0=>(chk (g0 + A0)).bind fun B0=>j0 B0 else (if p0 = 1 then (chk (c0 + d0)).bind fun C0=>(chk (g0 - C0)).bind fun D0=>j0 D0 else j0 g0))) else some (.inl false)) else some (.inr (s0,t0,g0)))
def ae_l2 (_n:Nat) (p0:Tf) (g0:Nat × (List Tc) -> Option (List Tc)):Nat × (List Tc) -> Option (List Tc)
  | (c0,d0)=>(if c0 < p0.ft.length then (d0[c0]?).bind fun b0=>(cut b0.fVotes 0 2).bind fun j0=>(put d0 ((c0:Nat):Int) (⟨b0.fv,b0.fx,b0.fh,j0,b0.fB,b0.fu⟩:Tc)).bind fun k0=>g0 (c0 + 1,k0) else some d0)
def ae_p (n:Nat) (a0:Tj) (a1:Ti):Option Bool:=
  (bw_p n).bind fun u0=>(if u0 = true then (ab_p n a0).bind fun b0=>(aQ_p n a1 ((b0.1.length:Nat):Int)).bind fun c0=>Option.bind (ap (ae_l2 n c0) n (0,c0.ft)) (fun d0=>(ca_p n (⟨c0.fh,(2:Int),c0.fe,d0⟩:Tf) b0.1 b0.2).bind fun g0=>(bp_p n (⟨c0.fh,(2:Int),c0.fe,d0⟩:Tf) b0.1 b0.2).bind fun j0=>(if g0.2 = 0 then (if j0.2 = 0 then (if ((g0.1.length:Nat):Int) = b0.2 then (if ((j0.1.length:Nat):Int) = b0.2 then thn (ap (ae_l1 n g0 j0) n (0,0,0,0)) (fun (p0,x0,y0)=>(bD_p n (⟨c0.fh,(2:Int),c0.fe,d0⟩:Tf) b0.1 b0.2 (0:Int) (1:Int)).bind fun k0=>(if p0 = 0 then some (decide (k0.2 = 7)) else (chk (2 * x0)).bind fun q0=>(chk (q0 - y0)).bind fun s0=>(chk (2 * p0)).bind fun t0=>(aD_p n k0.1 k0.2 s0 t0).bind fun v0=>some v0)) else some false) else some false) else some false) else some false)) else some false)
theorem ae_c (n:Nat) {L w} (hL:hl L w) (a0:Tj) {v0_1:Value} (h0_1:Rep.R w L [v0_1] a0.fB) {v0_2:Value} (h0_2:Rep.R w L [v0_2] a0.fMore) {v0_3:Value} (h0_3:Rep.R w L [v0_3] a0.fLabels) (a1:Ti) {v1_4:Value} (h1_4:Rep.R w L [v1_4] a1.fNums)  {r:Bool} (h:ae_p n a0 a1 = some r) :
 Cl 4 #[.agg #[.int .u8 (a0.fN.toNat:Int),v0_1,v0_2,v0_3,.int .u8 (a0.fK.toNat:Int)],.agg #[.int .u8 (a1.fh.toNat:Int),.int .u8 (a1.fc.toNat:Int),.int .u8 (a1.fe.toNat:Int),.int .u8 (a1.fu.toNat:Int),v1_4]] w (aj w fun _ u=>u = .bool r):=by
 unfold ae_p at h
 refine AC func4 rfl rfl rfl fun _ cs0 hb0=>Ae<|RG.bx (Ay w) rfl rfl fun M6 E5 p3 X5=>RG.bx p3 rfl rfl fun P6 F5 H0 Y5=>Ag rfl<|Aa<|Ak<|Ae<|bk h fun t5 P4 h=>Bg (.bool t5) (bd 10) rfl ah (fun p q=>bw_c n (H0.hL0 hL q)  P4) rfl<|Ac (FV.not rfl)<|Aa<|MX.ifnb rfl h (fun M2 h=>?_) (fun M2 h=>?_)
 refine Ap<|Ae<|Ac (AE rfl (H0.memA .t1))<|bk h fun P0 R4 h=>jE (bd 21) rfl (e1 rfl) (fun p q=>ab_c n (H0.hL hL q) a0 (H0.km h0_1 q) (H0.km h0_2 q) (H0.km h0_3 q) R4) rfl fun U6 I6 B3 ⟨X1,hu_,X0⟩=>?_
 subst hu_
 obtain ⟨R0,Z5⟩:=H0.agr B3
 refine Af rfl<|Ac (Ai rfl rfl)<|Ac (Ai rfl rfl)<|Ag rfl<|Ag rfl<|Aa<|Ae<|Ac (AE rfl (R0.memA .hd))<|Af rfl ?_
 have s6:P0.1.length <= 281474976710656:=AX X0
 refine Ac (Bd (xs:=P0.1) underlying39 rfl X0)<|bk h fun c0 V4 h=>jE (bd 22) rfl (e2 rfl rfl) (fun p q=>bt (b0:=w.heap.size) (aQ_c n (R0.hL hL q) a1 (R0.km h1_4 q) V4) q (Nat.le_trans R0.ag.size q.size)) rfl fun w32 J6 g6 ⟨F0,b2,E4,v2,D3⟩=>?_
 subst E4
 have c2:=bP R0 v2
 have j2:=cU R0 v2
 refine RG.nl [vI 0,vI 0,vI 0,vN] c2 fun W6 K0 d2 K1=>AU [vI c0.fh,vI c0.fc,vI c0.fe,F0] d2 .hd (o4 rfl rfl rfl (St.o1 (α:=Tc) d2 .t1)) fun X6 u3 M1=>Aa<|Ae<|Bl 1 rfl<|RG.now .plain (BA (j:=1) (old:=[vI c0.fh,vI c0.fc,vI c0.fe,F0]) (news:=[vI 2]) (new' :=[vI c0.fh,vI 2,vI c0.fe,F0]) u3 .hd rfl rfl rfl rfl rfl rfl (o1 rfl) rfl) fun Z6 k1 P1=>Aa<|Ak<|Ae<|Bl 3 rfl<|AO rfl ((k1.memA .hd) 3 _ rfl) ?_
 have u6:c0.ft.length <= 4294967296:=St.rowLe (α:=Tc) k1 .t1
 obtain ⟨A5,R5,M3⟩:=St.rowV (α:=Tc) k1 .t1
 refine Ac (FV.lenV underlying35 rfl M3)<|Af rfl<|Aa<|Au ?_
 obtain ⟨q3,G1⟩:=AN k1 (.a0 (.a0 .done))
 obtain ⟨A6,X3,P3⟩:=ar h
 refine MX.lf (α:=Nat × (List Tc) × (List Value)) (fun ⟨g0,p0,M0⟩=>[(5,X1),(6,vI P0.2),(7,vP K0),(33,vI ((c0.ft.length:Nat):Int)),(34,vI ((g0:Nat):Int))]) (fun ⟨g0,p0,M0⟩=>[.cells K0 [vI c0.fh,vI 2,vI c0.fe,F0] 37,rr w 63 Tc F0 p0.length M0]) (fun ⟨g0,p0,M0⟩ H2=>Cells H2 (bl [.cells K0 [vI c0.fh,vI 2,vI c0.fe,F0] 37,rr w 63 Tc F0 p0.length M0] ++ L) M0 p0) (fun ⟨g0,p0,M0⟩=>(g0,p0)) (0,c0.ft,b2) X3 q3 (AK (AD (cs:=b2) (xs:=(c0.ft:List Tc)) c2 L (bu D3)) (Tt K1 (Tt M1 (Tt P1 G1)))) ?_
 rintro B5 ⟨g0,p0,M0⟩ H2 j3 y0 H1 q1 h
 unfold ae_l2 at h
 try dsimp only at h
 refine Ae<|Ac (Bk (i:=g0) (j:=c0.ft.length) rfl rfl)<|Aa<|Ak<|AL rfl h (fun K2 h=>?_) (fun K2 h=>?_)
 refine Ap<|Ak<|Au<|Ae<|Af rfl<|Ag rfl<|Aa<|du 12 fun d0 j0=>Rv 0 d0 rfl j0 (fun _=>Bn 3 rfl)<|Rx 1 7168 d0 rfl j0 (AV rfl ((y0.memA .hd) 3 _ rfl))<|Rv 2 d0 rfl j0 (fun _=>Aj rfl)<|Rv 3 d0 rfl j0 (fun _=>Bn 3 rfl)<|Rx 4 8128 d0 rfl j0 (AV rfl ((y0.memA .hd) 3 _ rfl))<|Rv 5 d0 rfl j0 (fun _=>Aj rfl)<|bk h fun x0 u2 h=>?_
 obtain ⟨I2,H5,s1,Q1,U5,Z3,U3⟩:=St.nth (α:=Tc) y0 .t1 q1 u2
 obtain ⟨J2,I5,k2⟩:=Bs (α:=Tc) y0 .t1 Q1
 obtain rfl:I2 = ⟨J2,0,none⟩:=by rw [k2] at s1; cases s1; rfl
 obtain ⟨C6,D6,E6,rfl,x6,b4,y6⟩:=fX Z3
 refine Rv 6 d0 rfl j0 (fun _=>Bf 6 g0 rfl s1 rfl rfl Q1)<|Rv 7 d0 rfl j0 (fun _=>Bn 3 rfl)<|Rx 8 7680 d0 rfl j0 (AV rfl (U3 3 _ rfl))<|bk h fun q5 K4 h=>RD.valE (i:=9) (m' :=1023) (W:=7168) (tk d0) rfl j0 .plain rfl (FV.cutL (α:=Int) K4 rfl rfl b4 rfl ⟨_,rfl⟩) fun C2 U1=>Rv 10 d0 rfl j0 (fun _=>Bf 6 g0 rfl s1 rfl rfl Q1)<|Rv 11 d0 rfl j0 (fun _=>Bn 3 rfl) ?_
 obtain ⟨J5,F3,k6,V5,c4,v6,E3⟩:=St.nthAt (α:=Tc) y0 .t1 q1 u2 k2
 obtain ⟨D2,k5,E2,rfl,d4,z6,g4⟩:=fX c4
 refine bk h fun s5 M4 h=>By (i:=12) (rk d0) (RO.acts (m' :=8191) (sk d0) rfl rfl .plain (Acts.setPart (α:=Tc) (i:=g0) (tot:=3) (ds:=[.string x0.fv,vI x0.fx,D2,k5,E2,.bool x0.fu]) (news:=[C2]) (full:=[.string x0.fv,vI x0.fx,D2,C2,E2,.bool x0.fu]) M4 y0 F3 (fun _=>.t1) q1 E3 rfl rfl rfl rfl rfl (Rep.c1 U1) (gO x0.fv x0.fx x0.fh d4 q5 U1 x0.fB g4 x0.fu) rfl (o1 (Be U1))) (fun Q6 ⟨b3,s3,x3,C3⟩=>?_))
 refine AG (dk d0)<|Ax<|Ao<|Ac (Bh (i:=g0) (j:=1) rfl rfl (by omega))<|Af rfl<|Aa<|j3 (g0 + 1,s5,b3) s3 (Tt H1 x3) C3 h
 refine AT rfl ?_
 have h:=P3 _ h
 try dsimp only at h
 refine Ae<|Ac (AE rfl (y0.memA .hd))<|Af rfl<|Af rfl ?_
 have E1:=St.delS y0 .t1
 have g2:=St.delT y0 .t1
 have V1:=Rep.at_ (α:=Tc) (v:=F0) (xs:=p0) E1 L (Bv (α:=Tc) y0 .t1 q1 hL)
 refine bk h fun I0 Q4 h=>?_
 have q2:=Tt j2 (Tt K1 (Tt M1 (Tt P1 (Tt G1 (Tt H1 g2)))))
 refine jE (bd 23) rfl (e3 rfl rfl rfl) (fun p q=>ca_c n (E1.hL hL q) (⟨c0.fh,(2:Int),c0.fe,p0⟩:Tf) (Av V1 q) (Av (AA X0 q2) q) Q4) rfl fun R6 G6 z3 ⟨F2,hu_,t2⟩=>?_
 subst hu_
 obtain ⟨F1,I1⟩:=E1.agr z3
 refine Af rfl<|Ac (Ai rfl rfl)<|Ac (Ai rfl rfl)<|Ag rfl<|Ag rfl<|Aa<|Ae<|Ac (AE rfl (F1.memA .hd))<|Af rfl<|Af rfl<|bk h fun C1 U4 h=>jE (bd 24) rfl (e3 rfl rfl rfl) (fun p q=>bp_c n (F1.hL hL q) (⟨c0.fh,(2:Int),c0.fe,p0⟩:Tf) (Av (AA V1 I1) q) (Av (AA X0 (Tt q2 I1)) q) U4) rfl fun V6 H6 A3 ⟨G2,hu_,W1⟩=>?_
 subst hu_
 obtain ⟨V0,J1⟩:=F1.agr A3
 refine Af rfl<|Ac (Ai rfl rfl)<|Ac (Ai rfl rfl)<|Ag rfl<|Ag rfl<|Aa<|Ak<|Ae<|Af rfl<|Ac (FV.neq (i:=I0.2) (j:=0) rfl rfl)<|Af rfl<|RG.ifn (s:=66) rfl h (fun P2 h=>?_) (fun P2 h=>?_)
 refine AZ (Aj rfl)<|AZ (FV.neq (i:=C1.2) (j:=0) rfl rfl)<|RG.pf rfl rfl<|Af rfl<|RG.ifn (s:=70) rfl h (fun Q2 h=>?_) (fun Q2 h=>?_)
 refine AZ (Aj rfl) ?_
 have R1:=AA t2 J1
 have p6:I0.1.length <= 281474976710656:=AX R1
 refine AZ (Bd (xs:=I0.1) underlying64 rfl R1)<|AZ (Aj rfl)<|AZ (FV.neq (i:=((I0.1.length:Nat):Int)) (j:=P0.2) rfl rfl)<|RG.pf rfl rfl<|Af rfl<|RG.ifn (s:=76) rfl h (fun R2 h=>?_) (fun R2 h=>?_)
 refine AZ (Aj rfl) ?_
 have q6:C1.1.length <= 281474976710656:=AX W1
 refine AZ (Bd (xs:=C1.1) underlying38 rfl W1)<|AZ (Aj rfl)<|AZ (FV.neq (i:=((C1.1.length:Nat):Int)) (j:=P0.2) rfl rfl)<|RG.pf rfl rfl<|Aa<|MX.ifn rfl h (fun U2 h=>?_) (fun U2 h=>?_)
 refine Ap<|Ae<|Ag rfl<|Ag rfl<|Ag rfl<|Aa<|Ak<|Ae<|Af rfl<|Ac (Bd (xs:=I0.1) underlying64 rfl R1)<|Af rfl<|Aa<|Au<|tn h fun B6 Y3 p2=>MX.lo (α:=Int × Int × Int × Nat) (fun ⟨J0,Q0,G0,q0⟩=>[(5,X1),(6,vI P0.2),(7,vP K0),(11,G2),(13,vI J0),(14,vI Q0),(15,vI G0),(82,F2),(83,vI ((I0.1.length:Nat):Int)),(84,vI ((q0:Nat):Int))]) (fun ⟨J0,Q0,G0,q0⟩=>[.cells K0 [vI c0.fh,vI 2,vI c0.fe,F0] 37]) (fun ⟨J0,Q0,G0,q0⟩=>(J0,Q0,G0,q0)) (0,0,0,0) Y3 V0 ?_
 rintro C5 ⟨J0,Q0,G0,q0⟩ c7 k3 z0 p1 h
 unfold ae_l1 at h
 try dsimp only at h
 refine Ae<|Ac (Bk (i:=q0) (j:=I0.1.length) rfl rfl)<|Aa<|Ak<|AL rfl h (fun V2 h=>?_) (fun V2 h=>?_)
 refine Ap<|Ak<|Au<|Ae<|Af rfl<|bk h fun Y1 G4 h=>?_
 obtain ⟨v5,K5,G3,Q3,W5,j4,V3⟩:=Bm (AA t2 (Tt J1 p1)) G4
 obtain ⟨F6,rfl,B1⟩:=bn j4
 refine Ac (Bf 1 q0 rfl G3 rfl rfl Q3)<|AO rfl (V3 0 _ rfl)<|Ag rfl<|Ag rfl<|Aa<|Ak<|Ae<|Af rfl ?_
 have t6:Y1.length <= 281474976710656:=AX B1
 refine Ac (Bd (xs:=Y1) underlying38 rfl B1)<|Ac (FV.neqN (i:=Y1.length) (j:=2) rfl rfl)<|Aa<|MX.ifn rfl h (fun W2 h=>?_) (fun W2 h=>?_)
 refine Ap<|Ak<|du 10 fun s0 A0=>Rv 0 s0 rfl A0 (fun _=>Aj rfl)<|Rv 1 s0 rfl A0 (fun _=>Aj rfl)<|bk h fun Y0 H4 h=>?_
 obtain ⟨x5,M5,u1,x1,c3,k4,z1⟩:=Bm B1 H4
 have H3:c3 = [vI Y0]:=k4; subst H3
 refine Rv 2 s0 rfl A0 (fun _=>Bf 1 0 rfl u1 rfl rfl x1)<|Rx 3 896 s0 rfl A0 (AV rfl (z1 0 _ rfl))<|Rv 4 s0 rfl A0 (fun _=>Aj rfl)<|bk h fun Z0 I4 h=>?_
 obtain ⟨y5,P5,v1,y1,d3,p4,A1⟩:=Bm B1 I4
 have I3:d3 = [vI Z0]:=p4; subst I3
 refine Rv 5 s0 rfl A0 (fun _=>Bf 1 1 rfl v1 rfl rfl y1)<|Rx 6 896 s0 rfl A0 (AV rfl (A1 0 _ rfl))<|bk h fun Y4 s4 h=>Rv 7 s0 rfl A0 (fun _=>Br (i:=Y0) (j:=Z0) rfl rfl s4)<|bk h fun x2 t4 h=>Rv 8 s0 rfl A0 (fun _=>Br (i:=J0) (j:=Y4) rfl rfl t4)<|Rv 9 s0 rfl A0 (fun _=>Ba rfl)<|AG (dk s0)<|Ak<|du 10 fun t0 B0=>Rv 0 t0 rfl B0 (fun _=>Aj rfl)<|Rv 1 t0 rfl B0 (fun _=>Aj rfl)<|Rv 2 t0 rfl B0 (fun _=>Bf 1 0 rfl u1 rfl rfl x1)<|Rx 3 896 t0 rfl B0 (AV rfl (z1 0 _ rfl))<|Rv 4 t0 rfl B0 (fun _=>Aj rfl)<|Rv 5 t0 rfl B0 (fun _=>Bf 1 1 rfl v1 rfl rfl y1)<|Rx 6 896 t0 rfl B0 (AV rfl (A1 0 _ rfl))<|bk h fun Z4 u4 h=>Rv 7 t0 rfl B0 (fun _=>FV.subc (i:=Y0) (j:=Z0) rfl rfl u4)<|bk h fun y2 v4 h=>Rv 8 t0 rfl B0 (fun _=>Br (i:=Q0) (j:=Z4) rfl rfl v4)<|Rv 9 t0 rfl B0 (fun _=>Ba rfl)<|AG (dk t0)<|Ae<|Af rfl<|Af rfl<|bk h fun Z1 J4 h=>?_
 obtain ⟨z5,Q5,J3,R3,g3,q4,W3⟩:=Bm (AA W1 p1) J4
 have K3:g3 = [vI Z1]:=q4; subst K3
 refine Ac (Bf 1 q0 rfl J3 rfl rfl R3)<|AO rfl (W3 0 _ rfl)<|Aa<|Au<|Ae<|Ac (FV.eql (i:=Z1) (j:=0) rfl rfl)<|Ag rfl<|Aa<|MX.jo (α:=Int) (fun U0=>[(5,X1),(6,vI P0.2),(7,vP K0),(11,G2),(13,vI x2),(14,vI y2),(15,vI U0),(82,F2),(83,vI ((I0.1.length:Nat):Int)),(84,vI ((q0:Nat):Int))]) (fun U0=>[.cells K0 [vI c0.fh,vI 2,vI c0.fe,F0] 37]) (fun U0=>U0) z0 h ?_ ?_
 rintro U0 d7 t3 y3 h
 try dsimp only at h
 refine Ax<|Ax<|Ao<|Ac (Bh (i:=q0) (j:=1) rfl rfl (by omega))<|Af rfl<|Aa<|k3 (x2,y2,U0,q0 + 1) t3 (Tt p1 y3) h
 intro D5 D1 h
 try dsimp only at h
 refine AL rfl h (fun X2 h=>?_) (fun X2 h=>?_)
 refine du 10 fun u0 C0=>Rv 0 u0 rfl C0 (fun _=>Aj rfl)<|Rv 1 u0 rfl C0 (fun _=>Aj rfl)<|Rv 2 u0 rfl C0 (fun _=>Bf 1 0 rfl u1 rfl rfl x1)<|Rx 3 896 u0 rfl C0 (AV rfl (z1 0 _ rfl))<|Rv 4 u0 rfl C0 (fun _=>Aj rfl)<|Rv 5 u0 rfl C0 (fun _=>Bf 1 1 rfl v1 rfl rfl y1)<|Rx 6 896 u0 rfl C0 (AV rfl (A1 0 _ rfl))<|bk h fun b5 x4 h=>Rv 7 u0 rfl C0 (fun _=>Br (i:=Y0) (j:=Z0) rfl rfl x4)<|bk h fun c5 y4 h=>Rv 8 u0 rfl C0 (fun _=>Br (i:=G0) (j:=b5) rfl rfl y4)<|Rv 9 u0 rfl C0 (fun _=>Ba rfl)<|AG (dk u0)<|D1 c5 z0 (Tr.refl _ _) h
 refine Ae<|Ac (FV.eql (i:=Z1) (j:=1) rfl rfl)<|Ag rfl<|Aa<|AL rfl h (fun Y2 h=>?_) (fun Y2 h=>?_)
 refine du 10 fun v0 D0=>Rv 0 v0 rfl D0 (fun _=>Aj rfl)<|Rv 1 v0 rfl D0 (fun _=>Aj rfl)<|Rv 2 v0 rfl D0 (fun _=>Bf 1 0 rfl u1 rfl rfl x1)<|Rx 3 896 v0 rfl D0 (AV rfl (z1 0 _ rfl))<|Rv 4 v0 rfl D0 (fun _=>Aj rfl)<|Rv 5 v0 rfl D0 (fun _=>Bf 1 1 rfl v1 rfl rfl y1)<|Rx 6 896 v0 rfl D0 (AV rfl (A1 0 _ rfl))<|bk h fun d5 z4 h=>Rv 7 v0 rfl D0 (fun _=>Br (i:=Y0) (j:=Z0) rfl rfl z4)<|bk h fun g5 A4 h=>Rv 8 v0 rfl D0 (fun _=>FV.subc (i:=G0) (j:=d5) rfl rfl A4)<|Rv 9 v0 rfl D0 (fun _=>Ba rfl)<|AG (dk v0)<|D1 g5 z0 (Tr.refl _ _) h
 refine Ap<|D1 G0 z0 (Tr.refl _ _) h
 refine Ae<|Ag rfl<|Aa ?_
 have h:=aw h p2
 refine Am rfl<|AY hb0 func4 rfl rfl ?_
 cases h
 exact z0.gv
 refine AT rfl ?_
 have h:=aD h p2
 try dsimp only at h
 refine Ae<|Ac (AE rfl (z0.memA .hd))<|Af rfl<|Af rfl<|bk h fun b1 W4 h=>?_
 have s2:=Tt I1 (Tt J1 p1)
 refine Bg (.tuple #[.agg ((aa b1.1)).toArray,vI b1.2]) (bd 12) rfl (e5 rfl rfl rfl rfl rfl) (fun p q=>bD_c n (z0.hL0 hL q) (⟨c0.fh,(2:Int),c0.fe,p0⟩:Tf) (z0.kd (AA V1 s2) q) (z0.kd (AA X0 (Tt j2 (Tt K1 (Tt M1 (Tt P1 (Tt G1 (Tt H1 (Tt g2 s2)))))))) q) W4) rfl<|Af rfl<|Ac (Ai rfl rfl)<|Ac (Ai rfl rfl)<|RG.nl zL z0 fun Y6 G5 v3 b6=>AU (aa b1.1) v3 .hd (ao rfl) fun p5 W0 c6=>Ag rfl<|Aa<|Ak<|Ae<|Af rfl<|Ac (FV.eql (i:=J0) (j:=0) rfl rfl)<|Aa<|AL rfl h (fun Z2 h=>?_) (fun Z2 h=>?_)
 refine Ae<|Af rfl<|Ac (FV.eql (i:=b1.2) (j:=7) rfl rfl)<|Ag rfl<|Aa<|Am rfl<|AY hb0 func4 rfl rfl ?_
 cases h
 exact W0.gv
 refine Ap<|Ak<|du 11 fun k0 E0=>Rv 0 k0 rfl E0 (fun _=>Aj rfl)<|bk h fun j5 B4 h=>Rv 1 k0 rfl E0 (fun _=>FV.mulc (i:=2) (j:=Q0) rfl rfl B4)<|Rv 2 k0 rfl E0 (fun _=>Aj rfl)<|bk h fun z2 C4 h=>Rv 3 k0 rfl E0 (fun _=>FV.subc (i:=j5) (j:=G0) rfl rfl C4)<|Rv 4 k0 rfl E0 (fun _=>Aj rfl)<|bk h fun A2 D4 h=>Rv 5 k0 rfl E0 (fun _=>FV.mulc (i:=2) (j:=J0) rfl rfl D4)<|Rx 7 1536 k0 rfl E0 (AE rfl (W0.memA .hd))<|Rv 8 k0 rfl E0 (fun _=>Aj rfl)<|BC 6 511 k0 rfl .plain (bd 25) rfl (e2 rfl rfl) (fun p q=>Calls.gives (cb_c n (W0.hL hL q) z2 A2) fun (w8:World) (u8:Value) ⟨b0_,b1_,hu_,s_⟩=>(⟨b0_,b1_,hu_,s_.from q⟩:∃ d1 g1:Nat,u8 = Value.func (.func 77) #[] #[vP d1,vP g1]/\St p5 w8 [.cells d1 [vI z2] 3,.cells g1 [vI A2] 3])) rfl fun b7 K6 j6 ⟨d1,g1,F4,B2⟩=>?_
 subst F4
 have j1:=cJ W0 B2
 have d6:=eS W0 B2
 refine bk h fun u5 X4 h=>RD.callq (i:=9) (m' :=1023) (W:=1024) (tk k0) rfl E0 (v:=.bool u5) (fst:=[]) (cap:=[vP d1,vP g1]) .plain (bd 77) rfl (e2 rfl rfl) (fun p q=>aD_c n (j1.hL0 hL q) b1.1 (ae q (j1.memA .hd)) (ae q (j1.memA .t1)) X4) rfl<|Rv 10 k0 rfl E0 (fun _=>Ba rfl)<|AG (dk k0)<|Am rfl<|AY hb0 func4 rfl rfl ?_
 cases h
 exact j1.gv
 refine Ae<|Ag rfl<|Aa<|Am rfl<|AY hb0 func4 rfl rfl ?_
 cases h
 exact V0.gv
 refine AH<|AH<|AH<|AH<|RG.pt rfl rfl<|Aa<|Bu rfl<|Ae<|Ag rfl<|Aa<|Am rfl<|AY hb0 func4 rfl rfl ?_
 cases h
 exact V0.gv
 refine AH<|AH<|AH<|AH<|RG.pt rfl rfl<|Af rfl<|AH<|AH<|AH<|AH<|RG.pt rfl rfl<|Aa<|Bu rfl<|Ae<|Ag rfl<|Aa<|Am rfl<|AY hb0 func4 rfl rfl ?_
 cases h
 exact V0.gv
 refine AH<|AH<|RG.pt rfl rfl<|Af rfl<|AH<|AH<|AH<|AH<|RG.pt rfl rfl<|Af rfl<|AH<|AH<|AH<|AH<|RG.pt rfl rfl<|Aa<|Bu rfl<|Ae<|Ag rfl<|Aa<|Am rfl<|AY hb0 func4 rfl rfl ?_
 cases h
 exact V0.gv
 refine Ae<|Ag rfl<|Aa<|Am rfl<|AY hb0 func4 rfl rfl ?_
 cases h
 exact H0.gv
end Go.Proofs.YtibdeoeglcngoaaGreatDoor
