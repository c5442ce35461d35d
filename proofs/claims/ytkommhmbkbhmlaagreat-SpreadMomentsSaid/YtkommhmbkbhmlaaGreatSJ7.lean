import Derived.Test.YtkommhmbkbhmlaaGreatSJ3
namespace Go.Proofs.YtkommhmbkbhmlaaGreat
open Go Go.RowKit Tryz
set_option maxRecDepth 4000
set_option maxHeartbeats 4000000

theorem me:ElT Tryz.prog 57 24 (Rep.size (Lb Ta)) 24 vN [vN]:=⟨underlying57,by kernel_rfl,rfl,rfl,rfl,rfl⟩
theorem gA:ElT Tryz.prog 51 34 (Rep.size Tb) 128 (.agg zM) zL:=⟨underlying51,by kernel_rfl,rfl,rfl,rfl,rfl⟩
def bb_l1 (n:Nat) (a0:Lb Ta) (M0:Td) (g0:Nat × Ua × Ua × Ua × Ua × Ua × Ua × Ua × Ua × Ua × Ua × Ua × Ua × Ua × Ua × Ua × Ua × Bool × (Lb Ua) × Bool × (Lb Ua) -> Oa (U16)):Nat × Ua × Ua × Ua × Ua × Ua × Ua × Ua × Ua × Ua × Ua × Ua × Ua × Ua × Ua × Ua × Ua × Bool × (Lb Ua) × Bool × (Lb Ua) -> Oa (U16)
  | (d0,p0,q0,s0,t0,u0,v0,x0,y0,z0,A0,B0,C0,D0,E0,F0,G0,j0,H0,k0,I0)=>(if d0 < a0.length then (a0[d0]?).bind fun b0=>(bn_p n b0).bind fun J0=>(aa_p n (⟨(⟨j0,H0⟩:Tg),(⟨k0,I0⟩:Tg)⟩:Td) J0).bind fun c0=>(aN_p n c0 M0).bind fun K0=>(if 0 <= K0 then some (b0.fm.fN.1,b0.fm.fN.2.1,b0.fm.fN.2.2.1,b0.fm.fN.2.2.2.1,b0.fm.fN.2.2.2.2.1,b0.fm.fN.2.2.2.2.2.1,b0.fm.fN.2.2.2.2.2.2.1,b0.fm.fN.2.2.2.2.2.2.2,b0.fm.fD.1,b0.fm.fD.2.1,b0.fm.fD.2.2.1,b0.fm.fD.2.2.2.1,b0.fm.fD.2.2.2.2.1,b0.fm.fD.2.2.2.2.2.1,b0.fm.fD.2.2.2.2.2.2.1,b0.fm.fD.2.2.2.2.2.2.2) else g0 (d0 + 1,b0.fm.fN.1,b0.fm.fN.2.1,b0.fm.fN.2.2.1,b0.fm.fN.2.2.2.1,b0.fm.fN.2.2.2.2.1,b0.fm.fN.2.2.2.2.2.1,b0.fm.fN.2.2.2.2.2.2.1,b0.fm.fN.2.2.2.2.2.2.2,b0.fm.fD.1,b0.fm.fD.2.1,b0.fm.fD.2.2.1,b0.fm.fD.2.2.2.1,b0.fm.fD.2.2.2.2.1,b0.fm.fD.2.2.2.2.2.1,b0.fm.fD.2.2.2.2.2.2.1,b0.fm.fD.2.2.2.2.2.2.2,c0.fj.fc,c0.fj.fk,c0.fh.fc,c0.fh.fk)) else some (p0,q0,s0,t0,u0,v0,x0,y0,z0,A0,B0,C0,D0,E0,F0,G0))
def bb_p (n:Nat) (a0:Lb Ta) (a1:Tb):Oa (Tb × Int):=
  (ar_p n ([a0]:Lb (Lb Ta)) ([a1]:Lb Tb)).bind fun d0=>(if d0 = 0 then (ak_p n a1).bind fun c0=>(aW_p n c0.fj).bind fun F0=>(if F0 <= 0 then some ((⟨(0,0,0,0,0,0,0,0),(0,0,0,0,0,0,0,0)⟩:Tb),(2:Int)) else (aL_p n (1:Int)).bind fun G0=>(aN_p n c0 G0).bind fun H0=>(if 0 < H0 then some ((⟨(0,0,0,0,0,0,0,0),(0,0,0,0,0,0,0,0)⟩:Tb),(2:Int)) else (aL_p n (0:Int)).bind fun b0=>jn (fun (j0,k0,p0,q0,s0,t0,u0,v0,x0,y0,z0,A0,B0,C0,D0,E0)=>some ((⟨(j0,k0,p0,q0,s0,t0,u0,v0),(x0,y0,z0,A0,B0,C0,D0,E0)⟩:Tb),(0:Int))) (fun g0=>Option.bind (ao (bb_l1 n a0 c0) n (0,0,0,0,0,0,0,0,0,0,0,0,0,0,0,0,0,b0.fj.fc,b0.fj.fk,b0.fh.fc,b0.fh.fk)) (g0)))) else some ((⟨(0,0,0,0,0,0,0,0),(0,0,0,0,0,0,0,0)⟩:Tb),d0))
theorem bb_c (n:Nat) {L w} (hL:hl L w) {a0:Lb Ta} {v0_0:Vc} (h0_0:Rep.R w L [v0_0] a0) (a1:Tb)  {r:Tb × Int} (h:bb_p n a0 a1 = some r) :
 Cl 21 #[v0_0,.agg ((ab a1)).toArray] w (aj w fun _ u=>u = .tuple #[.agg ((ab r.1)).toArray,vI r.2]):=by
 unfold bb_p at h
 refine AM func21 I I I fun _ cs0 hb0=>Ae<|RG.bx (AL w) I I fun d6 z5 b4 F5=>RG.nl zL b4 fun s6 P0 d3 H5=>Ah I<|Aa<|MX.scope<|Aj<|Ae<|Ac I ?_
 obtain ⟨u5,D5,V4,_⟩:=Bl (AH h0_0 d3)
 refine Ao .plain I (AW (α:=Lb Ta) (xs:=([a0]:Lb (Lb Ta))) (vs:=[v0_0]) (ds' :=[v0_0]) I d3 me I (e1 I) (by rw [V4]; try kernel_rfl) I) fun t6 A5 p2 I5=>Ab (Az I (p2.memA .t2))<|Ao .plain I (AW (α:=Tb) (xs:=([a1]:Lb Tb)) (vs:=[.agg ((ab a1)).toArray]) (ds' :=(ab a1)) I p2 gA I (e1 I) (by kernel_rfl) I) fun w32 B5 k1 B4=>bk h fun K3 Y4 h=>Bd (vI K3) (bd 63) I (e2 I I) (fun w9 hw9=>ar_c n (k1.hL0 hL hw9) (Af (St.lend (α:=Lb Ta) (L:=L) k1 .t1 (AR (AI (cs:=[v0_0]) (xs:=(([a0]:Lb (Lb Ta)):Lb (Lb Ta))) p2 L (AE (cs:=[v0_0]) (ds:=[]) (AH h0_0 p2) (AT _ _))) B4) hL) hw9) (Af (St.lend (α:=Tb) (L:=L) k1 .hd (AI (cs:=(ab a1)) (xs:=(([a1]:Lb Tb):Lb Tb)) k1 L (AE (cs:=(ab a1)) (ds:=[]) (ci a1.fN a1.fD) (AT _ _))) hL) hw9) Y4) I<|Ah I<|Aa<|Ae<|Ac I<|Ab (BA (i:=K3) (j:=0) I I)<|Aa<|BI I h (fun U3 h=>?_) (fun U3 h=>?_)
 refine Aq<|Ae<|Ab (Az I (k1.memA .t3))<|bk h fun g0 Z4 h=>jE (bd 68) I (e1 I) (fun w9 hw9=>ak_c n (k1.hL hL hw9) a1 Z4) I fun u6 X5 E4 ⟨z1,X1,hu_,A2,U2⟩=>?_
 subst hu_
 obtain ⟨u4,J5⟩:=k1.agr E4
 refine RG.nl [.bool false,vN,.bool false,vN] u4 fun v6 b1 v4 v2=>AQ [.bool g0.fj.fc,z1,.bool g0.fh.fc,X1] v4 .hd (o4 I (Ay (Ag A2 v2)) I (Ay (Ag U2 v2))) fun x6 B1 u3=>Aa<|Aj<|Aj<|du 10 fun k0 I0=>Rv 0 k0 I I0 (fun _=>Bg 0 I)<|Rx 1 1020 k0 I I0 (AN (cs:=[.bool g0.fj.fc,z1]) I I (ac (B1.memA .hd) 0 2))<|bk h fun M3 b5 h=>RD.cq 2 7 1016 (vI M3) k0 I I0 (bd 67) I (e1 I) (fun w9 hw9=>aW_c n (B1.hL0 hL hw9) g0.fj (B1.kd (Ag A2 (Tt v2 u3)) hw9) b5) I<|Rv 3 k0 I I0 (fun _=>FV.leq (i:=M3) (j:=0) I I)<|Rv 4 k0 I I0 (fun _=>Al I)<|RD.ifd (s:=27) I h (fun V3 h=>?_) (fun V3 h=>?_)
 refine BF 511 1 [(5,28),(6,29),(7,30),(8,31)] (F:=[(27,true)]) (U:=[]) k0 I0 (.cons I .nil) .nil ?_
 dsimp only [aO,List.map]
 refine Rv 9 k0 I I0 (fun _=>BT I I)<|AK (dk k0)<|AG I<|Ae<|Ab (AS (vs:=[]) (u:=.agg zM) am (fun w9=>by kernel_rfl))<|AQ zL B1 .t3 (ai I) fun y6 g3 K5=>Ah I<|Aa<|Ar I<|Au hb0 func21 I (.cons (.many (cs:=zL) I I (g3.memA .t3)) (.cons (.tmp I) .nil)) I ?_
 cases h
 exact g3.gv
 refine RD.val (i:=5) (m' :=63) (W:=896) (tk k0) I I0 (.yes I I) (Az I (B1.memA .hd)) I<|bk h fun s5 c5 h=>AX 6 127 k0 I (.yes I I) (bd 71) I (e1 I) (fun w9 hw9=>aL_c n (B1.hL hL hw9)  c5) I fun z6 Y5 F4 ⟨V5,W5,hu_,R4,U4⟩=>?_
 subst hu_
 obtain ⟨p1,C4⟩:=B1.agr F4
 refine bk h fun P3 d5 h=>?_
 have P2:=Tt v2 (Tt u3 C4)
 refine RD.callq (i:=7) (m' :=255) (W:=768) (tk k0) I I0 (v:=vI P3) (fst:=[]) (cap:=[]) (.yes I I) (bd 69) I (e2 I I) (fun w9 hw9=>aN_c n (p1.hL0 hL hw9) g0 (p1.kd (Ag A2 P2) hw9) (p1.kd (Ag U2 P2) hw9) s5 (p1.kd R4 hw9) (p1.kd U4 hw9) d5) I<|BR 8 511 k0 I I0 (.yes I I) (fun _=>FV.gtr (i:=P3) (j:=0) I I) I<|Rv 9 k0 I I0 (fun _=>Br I I)<|AK (dk k0)<|AV I h (fun W3 h=>?_) (fun W3 h=>?_)
 refine Ae<|Ab (AS (vs:=[]) (u:=.agg zM) am (fun w9=>by kernel_rfl))<|AQ zL p1 .t3 (ai I) fun A6 j3 M5=>Ah I<|Aa<|Ar I<|Au hb0 func21 I (.cons (.many (cs:=zL) I I (j3.memA .t3)) (.cons (.tmp I) .nil)) I ?_
 cases h
 exact j3.gv
 refine Aq<|Ae<|bk h fun c2 g5 h=>jE (bd 71) I (e1 I) (fun w9 hw9=>aL_c n (p1.hL hL hw9)  g5) I fun B6 Z5 G4 ⟨F3,G3,hu_,C3,D3⟩=>?_
 subst hu_
 obtain ⟨x4,D4⟩:=p1.agr G4
 refine Ab (AS (vs:=[]) (u:=.agg zM) am (fun w9=>by kernel_rfl))<|RG.nl [.bool false,vN,.bool false,vN] x4 fun D6 Z0 y4 x2=>RG.nl zL y4 fun b6 M0 Y3 q2=>AQ [.bool c2.fj.fc,F3,.bool c2.fh.fc,G3] Y3 .t1 (o4 I (Ay (Ag C3 (Tt x2 q2))) I (Ay (Ag D3 (Tt x2 q2)))) fun c6 Z3 q3=>AQ zL Z3 .hd (ai I) fun g6 C2 s3=>Aa<|Aj<|MX.label<|Aj<|Ae<|Ac I ?_
 have x3:=AH h0_0 C2
 have R5:=AY x3
 refine Ab (Ba (xs:=a0) underlying24 I x3)<|Ac I<|Aa<|Av<|MX.xo (α:=U16) 0 (fun ⟨C1,D1,E1,F1,G1,H1,I1,J1,K1,M1,P1,Q1,R1,U1,V1,W1⟩=>[(4,vP P0),(9,vP M0)]) (fun ⟨C1,D1,E1,F1,G1,H1,I1,J1,K1,M1,P1,Q1,R1,U1,V1,W1⟩=>[.cells M0 [vU C1,vU D1,vU E1,vU F1,vU G1,vU H1,vU I1,vU J1,vU K1,vU M1,vU P1,vU Q1,vU R1,vU U1,vU V1,vU W1] 34,.cells P0 zL 34]) (fun ⟨C1,D1,E1,F1,G1,H1,I1,J1,K1,M1,P1,Q1,R1,U1,V1,W1⟩=>(C1,D1,E1,F1,G1,H1,I1,J1,K1,M1,P1,Q1,R1,U1,V1,W1)) C2 I h ?_ ?_
 rintro ⟨C1,D1,E1,F1,G1,H1,I1,J1,K1,M1,P1,Q1,R1,U1,V1,W1⟩ E6 k3 P5 h
 try dsimp only at h
 refine Ae<|Ab (Az I (k3.memA .hd))<|AQ [vU C1,vU D1,vU E1,vU F1,vU G1,vU H1,vU I1,vU J1,vU K1,vU M1,vU P1,vU Q1,vU R1,vU U1,vU V1,vU W1] k3 .t1 (ai I) fun C6 p3 Q5=>Ah I<|Aa<|Ar I<|Au hb0 func21 I (.cons (.many (cs:=[vU C1,vU D1,vU E1,vU F1,vU G1,vU H1,vU I1,vU J1,vU K1,vU M1,vU P1,vU Q1,vU R1,vU U1,vU V1,vU W1]) I I (p3.memA .t1)) (.cons (.tmp I) .nil)) I ?_
 cases h
 exact p3.gv
 intro x5 b3 h
 try dsimp only at h
 obtain ⟨c4,s2⟩:=AB C2 (.a0 (.a0 (.a0 (.a2 .done))))
 have A3:=Tt x2 (Tt q2 (Tt q3 (Tt s3 s2)))
 obtain ⟨U5,K4,v3⟩:=ap h
 refine BP (α:=Nat × Ua × Ua × Ua × Ua × Ua × Ua × Ua × Ua × Ua × Ua × Ua × Ua × Ua × Ua × Ua × Ua × Bool × (Lb Ua) × Bool × (Lb Ua) × Vc × Vc) (fun ⟨H0,p0,q0,s0,t0,u0,v0,x0,y0,z0,A0,B0,C0,D0,E0,F0,G0,J0,X0,K0,Y0,u1,v1⟩=>[(4,vP P0),(7,vP b1),(8,vP Z0),(9,vP M0),(36,v0_0),(37,vn a0.length),(38,vn H0)]) (fun ⟨H0,p0,q0,s0,t0,u0,v0,x0,y0,z0,A0,B0,C0,D0,E0,F0,G0,J0,X0,K0,Y0,u1,v1⟩=>[.cells M0 [vU p0,vU q0,vU s0,vU t0,vU u0,vU v0,vU x0,vU y0,vU z0,vU A0,vU B0,vU C0,vU D0,vU E0,vU F0,vU G0] 34,.cells Z0 [.bool J0,u1,.bool K0,v1] 109,.cells b1 [.bool g0.fj.fc,z1,.bool g0.fh.fc,X1] 109,.cells P0 zL 34]) (fun ⟨H0,p0,q0,s0,t0,u0,v0,x0,y0,z0,A0,B0,C0,D0,E0,F0,G0,J0,X0,K0,Y0,u1,v1⟩ X2=>Rep.R X2 (bl [.cells M0 [vU p0,vU q0,vU s0,vU t0,vU u0,vU v0,vU x0,vU y0,vU z0,vU A0,vU B0,vU C0,vU D0,vU E0,vU F0,vU G0] 34,.cells Z0 [.bool J0,u1,.bool K0,v1] 109,.cells b1 [.bool g0.fj.fc,z1,.bool g0.fh.fc,X1] 109,.cells P0 zL 34] ++ L) [u1] X0/\Rep.R X2 (bl [.cells M0 [vU p0,vU q0,vU s0,vU t0,vU u0,vU v0,vU x0,vU y0,vU z0,vU A0,vU B0,vU C0,vU D0,vU E0,vU F0,vU G0] 34,.cells Z0 [.bool J0,u1,.bool K0,v1] 109,.cells b1 [.bool g0.fj.fc,z1,.bool g0.fh.fc,X1] 109,.cells P0 zL 34] ++ L) [v1] Y0) (fun ⟨H0,p0,q0,s0,t0,u0,v0,x0,y0,z0,A0,B0,C0,D0,E0,F0,G0,J0,X0,K0,Y0,u1,v1⟩=>(H0,p0,q0,s0,t0,u0,v0,x0,y0,z0,A0,B0,C0,D0,E0,F0,G0,J0,X0,K0,Y0)) (0,0,0,0,0,0,0,0,0,0,0,0,0,0,0,0,0,c2.fj.fc,c2.fj.fk,c2.fh.fc,c2.fh.fk,F3,G3) K4 c4 ⟨(Ag C3 A3),(Ag D3 A3)⟩ ?_
 rintro v5 ⟨H0,p0,q0,s0,t0,u0,v0,x0,y0,z0,A0,B0,C0,D0,E0,F0,G0,J0,X0,K0,Y0,u1,v1⟩ X2 X3 D2 u2 ⟨Q2,R2⟩ h
 unfold bb_l1 at h
 try dsimp only at h
 refine Ae<|Ab (AU (i:=H0) (j:=a0.length) I I)<|Aa<|Aj<|AV I h (fun Q3 h=>?_) (fun Q3 h=>?_)
 refine Aq<|Aj<|Av<|Ae<|bk h fun b0 W4 h=>?_
 obtain ⟨t5,C5,H4,I4,E5,M4,J4⟩:=Bh (AH h0_0 D2) W4
 obtain rfl:=aF M4
 refine Ab (Be 32 H0 I H4 I I I4)<|Ab (Az I J4)<|RG.nl [vW 0,vW 0,vW 0,vW 0,vW 0,vW 0,vW 0,vW 0,vW 0,vW 0,vW 0,vW 0,vW 0,vW 0,vW 0,vW 0,vW 0,vW 0,vW 0,vW 0,vW 0,vW 0,vW 0,vW 0,vW 0,vW 0,vW 0,vW 0,vW 0,vW 0,vW 0,vW 0] D2 fun j6 y5 d4 Y1=>AQ (av b0) d4 .hd (ai I) fun k6 c1 Z1=>Aa<|Aj<|du 6 fun c0 B2=>Rx 0 200 c0 I B2 (Az I (c1.memA .t2))<|Rx 1 204 c0 I B2 (Az I (c1.memA .hd))<|Rv 4 c0 I B2 (fun _=>Bg 0 I)<|bk h fun Z2 E3 h=>bk h fun d0 V2 h=>RD.mf (α:=Vc × Vc) (fun ⟨x1,y1⟩=>[(4,vP P0),(7,vP b1),(8,vP Z0),(9,vP M0),(36,v0_0),(37,vn a0.length),(38,vn H0),(47,.agg ((ab b0.fm)).toArray)]) (fun ⟨x1,y1⟩=>[.cells M0 [vU p0,vU q0,vU s0,vU t0,vU u0,vU v0,vU x0,vU y0,vU z0,vU A0,vU B0,vU C0,vU D0,vU E0,vU F0,vU G0] 34,.cells Z0 [.bool d0.fj.fc,x1,.bool d0.fh.fc,y1] 109,.cells b1 [.bool g0.fj.fc,z1,.bool g0.fh.fc,X1] 109,.cells P0 zL 34]) (fun ⟨x1,y1⟩ Y2=>Rep.R Y2 (bl [.cells M0 [vU p0,vU q0,vU s0,vU t0,vU u0,vU v0,vU x0,vU y0,vU z0,vU A0,vU B0,vU C0,vU D0,vU E0,vU F0,vU G0] 34,.cells Z0 [.bool d0.fj.fc,x1,.bool d0.fh.fc,y1] 109,.cells b1 [.bool g0.fj.fc,z1,.bool g0.fh.fc,X1] 109,.cells P0 zL 34] ++ L) [x1] d0.fj.fk/\Rep.R Y2 (bl [.cells M0 [vU p0,vU q0,vU s0,vU t0,vU u0,vU v0,vU x0,vU y0,vU z0,vU A0,vU B0,vU C0,vU D0,vU E0,vU F0,vU G0] 34,.cells Z0 [.bool d0.fj.fc,x1,.bool d0.fh.fc,y1] 109,.cells b1 [.bool g0.fj.fc,z1,.bool g0.fh.fc,X1] 109,.cells P0 zL 34] ++ L) [y1] d0.fh.fk) c1 1 127 ?_ ?_
 rintro ⟨x1,y1⟩ Y2 g4 E2 ⟨P4,Q4⟩
 try dsimp only
 refine BB 7 255 c0 I I .plain (AC (news:=(ab b0.fm)) g4 .hd I I I I I I (ai I)) fun p6 W0 g2=>AK (dk c0)<|Ae<|Ab (Az I (W0.memA .t1))<|Ab (Az I (W0.memA .t2))<|bk h fun J3 X4 h=>?_
 have y3:=Ag P4 g2
 have z3:=Ag Q4 g2
 have B3:=Tt P2 (Tt D4 (Tt x2 (Tt q2 (Tt q3 (Tt s3 (Tt s2 (Tt u2 (Tt Y1 (Tt Z1 (Tt E2 g2))))))))))
 refine Bd (vI J3) (bd 69) I (e2 I I) (fun w9 hw9=>aN_c n (W0.hL0 hL hw9) d0 (W0.kd y3 hw9) (W0.kd z3 hw9) g0 (W0.kd (Ag A2 B3) hw9) (W0.kd (Ag U2 B3) hw9) X4) I<|Ab (FV.geq (i:=J3) (j:=0) I I)<|Aa<|AV I h (fun R3 h=>?_) (fun R3 h=>?_)
 refine AZ I ?_
 have h:=v3 _ h
 try dsimp only at h
 obtain ⟨j4,z4⟩:=AB W0 (.a0 .d2)
 exact b3 (b0.fm.fN.1,b0.fm.fN.2.1,b0.fm.fN.2.2.1,b0.fm.fN.2.2.2.1,b0.fm.fN.2.2.2.2.1,b0.fm.fN.2.2.2.2.2.1,b0.fm.fN.2.2.2.2.2.2.1,b0.fm.fN.2.2.2.2.2.2.2,b0.fm.fD.1,b0.fm.fD.2.1,b0.fm.fD.2.2.1,b0.fm.fD.2.2.2.1,b0.fm.fD.2.2.2.2.1,b0.fm.fD.2.2.2.2.2.1,b0.fm.fD.2.2.2.2.2.2.1,b0.fm.fD.2.2.2.2.2.2.2) j4 (Tt s2 (Tt u2 (Tt Y1 (Tt Z1 (Tt E2 (Tt g2 z4)))))) h
 refine Aq<|Ax<|Am<|Ab (Bc (i:=H0) (j:=1) I I (by omega))<|Ac I<|Aa<|X3 (H0 + 1,b0.fm.fN.1,b0.fm.fN.2.1,b0.fm.fN.2.2.1,b0.fm.fN.2.2.2.1,b0.fm.fN.2.2.2.2.1,b0.fm.fN.2.2.2.2.2.1,b0.fm.fN.2.2.2.2.2.2.1,b0.fm.fN.2.2.2.2.2.2.2,b0.fm.fD.1,b0.fm.fD.2.1,b0.fm.fD.2.2.1,b0.fm.fD.2.2.2.1,b0.fm.fD.2.2.2.2.1,b0.fm.fD.2.2.2.2.2.1,b0.fm.fD.2.2.2.2.2.2.1,b0.fm.fD.2.2.2.2.2.2.2,d0.fj.fc,d0.fj.fk,d0.fh.fc,d0.fh.fk,x1,y1) W0 (Tt u2 (Tt Y1 (Tt Z1 (Tt E2 g2)))) ⟨y3,z3⟩ h
 intro k2
 refine BJ [2,5] (rk c0) ⟨?_,?_,trivial⟩
 refine BX (m' :=23) (fst:=[]) (cap:=[]) (sk c0) I .plain (bd 66) I (e1 I) (fun w9 hw9=>bn_c n (c1.hL hL hw9) b0 E3) I fun q5 p5 J2 ⟨j5,k5,hu_,y2,z2⟩=>?_
 subst hu_
 obtain ⟨g1,q1⟩:=c1.agr J2
 refine BJ [3,5] (rk c0) ⟨?_,?_,trivial⟩
 have s1:=Tt Y1 (Tt Z1 q1)
 have K2:=Ag Q2 s1
 have M2:=Ag R2 s1
 refine BX (m' :=31) (fst:=[]) (cap:=[]) (sk c0) I .plain (bd 81) I (e2 I I) (fun w9 hw9=>aa_c n (g1.hL hL hw9) (⟨(⟨J0,X0⟩:Tg),(⟨K0,Y0⟩:Tg)⟩:Td) (Af K2 hw9) (Af M2 hw9) Z2 (Af y2 hw9) (Af z2 hw9) V2) I fun I3 H3 j2 ⟨U0,V0,hu_,Q0,R0⟩=>?_
 subst hu_
 obtain ⟨A1,b2⟩:=g1.agr j2
 refine BJ [5,6] (rk c0) ⟨?_,?_,trivial⟩
 refine BV (m' :=63) (sk c0) I .plain I (AN (cs:=(ab b0.fm)) I I (ac (A1.memA .hd) 0 16))<|BB 6 127 c0 I I .plain (AC (news:=[.bool d0.fj.fc,U0,.bool d0.fh.fc,V0]) A1 .t2 I I I I I I (o4 I (Ay Q0) I (Ay R0))) fun W2 j1 j0=>?_
 obtain ⟨k4,F2⟩:=AB j1 .d1
 exact k2 (U0,V0) k4 (Tt q1 (Tt b2 (Tt j0 F2))) ⟨(Ag Q0 (Tt j0 F2)),(Ag R0 (Tt j0 F2))⟩
 refine RO.now (m' :=95) (sk c0) I I .plain (AC (news:=[.bool d0.fj.fc,U0,.bool d0.fh.fc,V0]) A1 .t2 I I I I I I (o4 I (Ay Q0) I (Ay R0))) fun W2 j1 j0=>Rx 5 128 c0 I B2 (AN (cs:=(ab b0.fm)) I I (ac (j1.memA .hd) 0 16)) ?_
 obtain ⟨p4,G2⟩:=AB j1 .d1
 exact k2 (U0,V0) p4 (Tt q1 (Tt b2 (Tt j0 G2))) ⟨(Ag Q0 (Tt j0 G2)),(Ag R0 (Tt j0 G2))⟩
 refine BV (m' :=55) (sk c0) I .plain I (AN (cs:=(ab b0.fm)) I I (ac (g1.memA .hd) 0 16)) ?_
 have s1:=Tt Y1 (Tt Z1 q1)
 have K2:=Ag Q2 s1
 have M2:=Ag R2 s1
 refine AX 3 63 c0 I .plain (bd 81) I (e2 I I) (fun w9 hw9=>aa_c n (g1.hL hL hw9) (⟨(⟨J0,X0⟩:Tg),(⟨K0,Y0⟩:Tg)⟩:Td) (Af K2 hw9) (Af M2 hw9) Z2 (Af y2 hw9) (Af z2 hw9) V2) I fun I3 H3 j2 ⟨U0,V0,hu_,Q0,R0⟩=>?_
 subst hu_
 obtain ⟨A1,b2⟩:=g1.agr j2
 refine BB 6 127 c0 I I .plain (AC (news:=[.bool d0.fj.fc,U0,.bool d0.fh.fc,V0]) A1 .t2 I I I I I I (o4 I (Ay Q0) I (Ay R0))) fun W2 j1 j0=>?_
 obtain ⟨q4,H2⟩:=AB j1 .d1
 exact k2 (U0,V0) q4 (Tt q1 (Tt b2 (Tt j0 H2))) ⟨(Ag Q0 (Tt j0 H2)),(Ag R0 (Tt j0 H2))⟩
 refine BV (m' :=51) (sk c0) I .plain I (AN (cs:=(ab b0.fm)) I I (ac (c1.memA .hd) 0 16))<|AX 2 55 c0 I .plain (bd 66) I (e1 I) (fun w9 hw9=>bn_c n (c1.hL hL hw9) b0 E3) I fun q5 p5 J2 ⟨j5,k5,hu_,y2,z2⟩=>?_
 subst hu_
 obtain ⟨g1,q1⟩:=c1.agr J2
 have s1:=Tt Y1 (Tt Z1 q1)
 refine AX 3 63 c0 I .plain (bd 81) I (e2 I I) (fun w9 hw9=>aa_c n (g1.hL hL hw9) (⟨(⟨J0,X0⟩:Tg),(⟨K0,Y0⟩:Tg)⟩:Td) (Af (Ag Q2 s1) hw9) (Af (Ag R2 s1) hw9) Z2 (Af y2 hw9) (Af z2 hw9) V2) I fun I3 H3 j2 ⟨U0,V0,hu_,Q0,R0⟩=>?_
 subst hu_
 obtain ⟨A1,b2⟩:=g1.agr j2
 refine BB 6 127 c0 I I .plain (AC (news:=[.bool d0.fj.fc,U0,.bool d0.fh.fc,V0]) A1 .t2 I I I I I I (o4 I (Ay Q0) I (Ay R0))) fun W2 j1 j0=>?_
 obtain ⟨s4,I2⟩:=AB j1 .d1
 exact k2 (U0,V0) s4 (Tt q1 (Tt b2 (Tt j0 I2))) ⟨(Ag Q0 (Tt j0 I2)),(Ag R0 (Tt j0 I2))⟩
 refine AZ I ?_
 have h:=v3 _ h
 try dsimp only at h
 obtain ⟨t4,A4⟩:=AB D2 (.a0 .d2)
 exact b3 (p0,q0,s0,t0,u0,v0,x0,y0,z0,A0,B0,C0,D0,E0,F0,G0) t4 (Tt s2 (Tt u2 A4)) h
 refine Ae<|Ab (AS (vs:=[]) (u:=.agg zM) am (fun w9=>by kernel_rfl))<|Ac I<|AQ zL k1 .t2 (ai I) fun q6 c3 G5=>Ah I<|Aa<|Ar I<|Au hb0 func21 I (.cons (.many (cs:=zL) I I (c3.memA .t2)) (.cons (.tmp I) .nil)) I ?_
 cases h
 exact c3.gv
def cF_p (_n:Nat) (a0:Lb Ta) (a1:Int) (a2:Int):Oa Bool:=
  (if a0.length = 0 then some (decide (a1 = a2)) else some false)
theorem cF_c (n:Nat) {L w} (_hL:hl L w) {a0:Lb Ta} {v0_0:Vc} (h0_0:Rep.R w L [v0_0] a0) {a1:Int} {a2:Int} {p2:Nat} (m2:∀ j9 v9,([vI a2]:Lb Vc)[j9]? = some v9 -> w.cell? ((⟨p2,0,none⟩:Addr).add j9) = some v9)  {r:Bool} (h:cF_p n a0 a1 a2 = some r) :
 Cl 82 #[v0_0,vI a1,.pointer (some ⟨p2,0,none⟩)] w (aj w fun _ u=>u = .bool r):=by
 unfold cF_p at h
 have hS0:=AL w
 refine AM func82 I I I fun _ cs0 hb0=>Ae<|Ah I<|Aa<|Ae<|Ac I ?_
 have hl1:=AY h0_0
 refine Ab (Ba (xs:=a0) underlying24 I h0_0)<|Ab (FV.eqlN (i:=a0.length) (j:=0) I I)<|Ac I<|RG.ifd (s:=9) I h (fun c2 h=>?_) (fun c2 h=>?_)
 refine AJ (Al I)<|AJ (Bp I ((fun j9 v9 h9=>hS0.ag.cell0 (m2 j9 v9 h9)) 0 _ I))<|AJ (FV.eql (i:=a1) (j:=a2) I I)<|Bk I I<|Ah I<|Aa<|Ar I<|Bb hb0 func82 I I ?_
 cases h
 exact hS0.gv
 refine Ap<|Ap<|Ap<|Bs I I<|Ah I<|Aa<|Ar I<|Bb hb0 func82 I I ?_
 cases h
 exact hS0.gv
theorem dl_c (_n:Nat) {L w} (_hL:hl L w) (a0:Int)  :
 Cl 22 #[vI a0] w (aj w fun w' u=>∃ b0:Nat,u = .func (.func 82) #[] #[vP b0]/\St w w' [.cells b0 [vI a0] 27]):=by
 refine AM func22 I I I fun _ cs0 hb0=>Ae<|RG.bx (AL w) I I fun g0 b0 c0 d0=>Ah I<|Aa<|Ae<|Ab (FV.makeFunc (vs:=[]) (us:=[vP b0]) am (e1 I))<|Ah I<|Aa<|Ar I<|Au (u:=.func (.func 82) #[] #[vP b0]) hb0 func22 I (.cons (.tmp I) .nil) I<|⟨c0.ag,fun w9 hw9=>⟨b0,I,c0.agree hw9⟩⟩
def bP_p (n:Nat) (a0:Ua):Oa Int:=
  (cq_p n a0).bind fun y1=>some y1
theorem bP_c (n:Nat) {L w} (hL:hl L w) (a0:Ua)  {r:Int} (h:bP_p n a0 = some r) :
 Cl 174 #[vU a0] w (aj w fun _ u=>u = vI r):=by
 unfold bP_p at h
 have hS0:=AL w
 refine AM func174 I I I fun _ cs0 hb0=>Ae<|Ah I<|Aa<|Aj<|Bz I<|Aq<|Ae<|Ac I<|bk h fun y1 hy1 h=>Bd (vI y1) (bd 203) I (e1 I) (fun w9 hw9=>cq_c n (hS0.hL0 hL hw9) a0 hy1) I<|Ah I<|Aa<|Ar I<|Bb hb0 func174 I I ?_
 cases h
 exact hS0.gv
def aj_p (n:Nat) (a0:Ta) (a1:Ta):Oa Int:=
  (ak_p n a0.fm).bind fun b0=>(ak_p n a1.fm).bind fun c0=>(aN_p n b0 c0).bind fun d0=>some d0
theorem aj_c (n:Nat) {L w} (hL:hl L w) (a0:Ta) (a1:Ta)  {r:Int} (h:aj_p n a0 a1 = some r) :
 Cl 144 #[.agg ((av a0)).toArray,.agg ((av a1)).toArray] w (aj w fun _ u=>u = vI r):=by
 unfold aj_p at h
 refine AM func144 I I I fun _ cs0 hb0=>Ae<|RG.bx (AL w) I I fun U0 E0 p0 G0=>RG.bx p0 I I fun V0 F0 g0 H0=>Ah I<|Aa<|Aj<|du 8 fun b0 d0=>Rv 0 b0 I d0 (fun _=>Bg 0 I)<|Rx 1 228 b0 I d0 (AN (cs:=(ab a0.fm)) I I (ac (g0.memA .t1) 0 16))<|Rv 3 b0 I d0 (fun _=>Bg 0 I)<|Rx 4 224 b0 I d0 (AN (cs:=(ab a1.fm)) I I (ac (g0.memA .hd) 0 16))<|bk h fun B0 y0 h=>AX 2 31 b0 I .plain (bd 68) I (e1 I) (fun w9 hw9=>ak_c n (g0.hL hL hw9) a0.fm y0) I fun W0 Q0 q0 ⟨J0,K0,hu_,t0,u0⟩=>?_
 subst hu_
 obtain ⟨j0,I0⟩:=g0.agr q0
 refine bk h fun C0 z0 h=>AX 5 63 b0 I .plain (bd 68) I (e1 I) (fun w9 hw9=>ak_c n (j0.hL hL hw9) a1.fm z0) I fun X0 R0 s0 ⟨M0,P0,hu_,v0,x0⟩=>?_
 subst hu_
 obtain ⟨c0,k0⟩:=j0.agr s0
 refine bk h fun D0 A0 h=>RD.cq 6 127 128 (vI D0) b0 I d0 (bd 69) I (e2 I I) (fun w9 hw9=>aN_c n (c0.hL0 hL hw9) B0 (c0.kd (Ag t0 k0) hw9) (c0.kd (Ag u0 k0) hw9) C0 (c0.kd v0 hw9) (c0.kd x0 hw9) A0) I<|Rv 7 b0 I d0 (fun _=>Bj I)<|AK (dk b0)<|Ar I<|Bb hb0 func144 I I ?_
 cases h
 exact c0.gv
theorem op_Tg {w:World} {L:Lb Nat} {cs:Lb Vc} {x:Tg} (h:Rep.R w L cs x):∃ v1:Vc,cs = [.bool x.fc,v1]/\Rep.R w L [v1] x.fk:=by
  obtain ⟨c0,r0,rfl,h0,h⟩:=h
  have e0:c0 = [.bool x.fc]:=h0; subst e0
  obtain ⟨v1,rfl,kv1⟩:=cY (xs:=x.fk) h
  exact ⟨v1,I,kv1⟩
theorem mk_Tg {w:World} {L:Lb Nat} (a0:Bool) (a1:Lb Ua) {u1:Vc} (h1:Rep.R w L [u1] a1):Rep.R w L [.bool a0,u1] (⟨a0,a1⟩:Tg):=⟨[.bool a0],[u1],rfl,rfl,h1⟩
theorem cQ {w:World} {L:Lb Nat} {cs:Lb Vc} {x:Td} (h:Rep.R w L cs x):∃ v1 v3:Vc,cs = [.bool x.fj.fc,v1,.bool x.fh.fc,v3]/\Rep.R w L [v1] x.fj.fk/\Rep.R w L [v3] x.fh.fk:=by
  obtain ⟨c0,r0,rfl,h0,h⟩:=h
  obtain ⟨v1,rfl,kv1⟩:=op_Tg (x:=x.fj) h0
  obtain ⟨v3,rfl,kv3⟩:=op_Tg (x:=x.fh) h
  exact ⟨v1,v3,I,kv1,kv3⟩
theorem cG {w:World} {L:Lb Nat} (a0:Tg) {u1:Vc} (h1:Rep.R w L [u1] a0.fk) (a1:Tg) {u3:Vc} (h3:Rep.R w L [u3] a1.fk):Rep.R w L [.bool a0.fc,u1,.bool a1.fc,u3] (⟨a0,a1⟩:Td):=⟨[.bool a0.fc,u1],[.bool a1.fc,u3],rfl,mk_Tg a0.fc a0.fk h1,mk_Tg a1.fc a1.fk h3⟩
instance:Enc Tb:=⟨fun a=>.agg #[vU a.fN.1,vU a.fN.2.1,vU a.fN.2.2.1,vU a.fN.2.2.2.1,vU a.fN.2.2.2.2.1,vU a.fN.2.2.2.2.2.1,vU a.fN.2.2.2.2.2.2.1,vU a.fN.2.2.2.2.2.2.2,vU a.fD.1,vU a.fD.2.1,vU a.fD.2.2.1,vU a.fD.2.2.2.1,vU a.fD.2.2.2.2.1,vU a.fD.2.2.2.2.2.1,vU a.fD.2.2.2.2.2.2.1,vU a.fD.2.2.2.2.2.2.2]⟩
theorem ar:KeyAt Tryz.prog 34 Tb:=⟨fun q a w=>by kernel_rfl,⟨_,underlying34,fun a b=>rfl⟩,fun a b w9=>
  eqOp (ks:=[.int .u64,.int .u64,.int .u64,.int .u64,.int .u64,.int .u64,.int .u64,.int .u64,.int .u64,.int .u64,.int .u64,.int .u64,.int .u64,.int .u64,.int .u64,.int .u64]) (xs:=[vU a.fN.1,vU a.fN.2.1,vU a.fN.2.2.1,vU a.fN.2.2.2.1,vU a.fN.2.2.2.2.1,vU a.fN.2.2.2.2.2.1,vU a.fN.2.2.2.2.2.2.1,vU a.fN.2.2.2.2.2.2.2,vU a.fD.1,vU a.fD.2.1,vU a.fD.2.2.1,vU a.fD.2.2.2.1,vU a.fD.2.2.2.2.1,vU a.fD.2.2.2.2.2.1,vU a.fD.2.2.2.2.2.2.1,vU a.fD.2.2.2.2.2.2.2]) (ys:=[vU b.fN.1,vU b.fN.2.1,vU b.fN.2.2.1,vU b.fN.2.2.2.1,vU b.fN.2.2.2.2.1,vU b.fN.2.2.2.2.2.1,vU b.fN.2.2.2.2.2.2.1,vU b.fN.2.2.2.2.2.2.2,vU b.fD.1,vU b.fD.2.1,vU b.fD.2.2.1,vU b.fD.2.2.2.1,vU b.fD.2.2.2.2.1,vU b.fD.2.2.2.2.2.1,vU b.fD.2.2.2.2.2.2.1,vU b.fD.2.2.2.2.2.2.2]) (by kernel_rfl) (by kernel_rfl) I I ⟨fun h=>by
    simp only [bn,veq,Bool.and_eq_true,beq_iff_eq,and_true] at h
    obtain ⟨h0,h1,h2,h3,h4,h5,h6,h7,h8,h9,b0,c0,d0,g0,j0,k0⟩:=h
    exact ni (ah h0) (ah h1) (ah h2) (ah h3) (ah h4) (ah h5) (ah h6) (ah h7) (ah h8) (ah h9) (ah b0) (ah c0) (ah d0) (ah g0) (ah j0) (ah k0),fun h=>by subst h; simp [bn,veq]⟩ w9,fun a=>by simp [Instr.sameBits,Enc.enc]⟩
def dj (n:Nat) (c0:Tb × Td) (g0:(Lb Ta) × Bool -> Oa ((Lb Ta) × Int)):(Lb Ta) × Bool -> Oa ((Lb Ta) × Int)
  | (p0,j0)=>(ac_p n c0.2).bind fun d0=>jn (fun k0=>(app p0 ([(⟨c0.1,d0.1⟩:Ta)]:Lb Ta)).bind fun q0=>g0 (q0,k0)) (fun b0=>(if d0.2 = 0 then b0 j0 else b0 true))
def cU_l1 (n:Nat) (a0:Lb Ta) (q0:Td) (g0:Nat × Bool × (Lb (Tb × Td)) -> Oa ((Lb (Tb × Td)) × Bool)):Nat × Bool × (Lb (Tb × Td)) -> Oa ((Lb (Tb × Td)) × Bool)
  | (c0,j0,b0)=>(if c0 < a0.length then (a0[c0]?).bind fun k0=>(ak_p n k0.fm).bind fun s0=>(aa_p n q0 s0).bind fun t0=>(bn_p n k0).bind fun p0=>(ac_p n t0).bind fun d0=>(if d0.2 = 0 then ew (bD b0 d0.1) (g0 (c0 + 1,j0,aC b0 d0.1 p0)) (fun u0=>(aa_p n p0 u0).bind fun v0=>g0 (c0 + 1,j0,aC b0 d0.1 v0)) else g0 (c0 + 1,true,b0)) else some (b0,j0))
def cU_p (n:Nat) (a0:Lb Ta) (a1:Tb):Oa ((Lb Ta) × Int):=
  (ar_p n ([a0]:Lb (Lb Ta)) ([a1]:Lb Tb)).bind fun d0=>(if d0 = 0 then (ak_p n a1).bind fun p0=>Option.bind (ao (cU_l1 n a0 p0) n (0,false,([]:Lb (Tb × Td)))) (fun (b0,g0)=>(if 400 < b0.length then some (([]:Lb Ta),(3:Int)) else mloop (fun (c0,j0)=>(if j0 = true then some (([]:Lb Ta),(6:Int)) else (bP_p n (ae ((c0.length:Nat):Int))).bind fun q0=>(gM (fun x9 y9=>aj_p n x9 y9) q0 c0).bind fun k0=>some (k0,(0:Int)))) (dj n) n b0 (([]:Lb Ta),g0))) else some (([]:Lb Ta),d0))
theorem cU_c (n:Nat) {L w} (hL:hl L w) {a0:Lb Ta} {v0_0:Vc} (h0_0:Rep.R w L [v0_0] a0) (a1:Tb)  {r:(Lb Ta) × Int} (h:cU_p n a0 a1 = some r) :
 Cl 23 #[v0_0,.agg ((ab a1)).toArray] w (aj w fun w' u=>∃ v0_0:Vc,u = .tuple #[v0_0,vI r.2]/\Rep.R w' L [v0_0] r.1):=by
 unfold cU_p at h
 refine AM func23 I I I fun _ cs0 hb0=>Ae<|RG.bx (AL w) I I fun g8 H0 v2 E7=>Ah I<|Ah I<|Aa<|Aj<|Ae<|Ac I ?_
 obtain ⟨M6,q7,c6,_⟩:=Bl (AH h0_0 v2)
 refine Ao .plain I (AW (α:=Lb Ta) (xs:=([a0]:Lb (Lb Ta))) (vs:=[v0_0]) (ds' :=[v0_0]) I v2 me I (e1 I) (by rw [c6]; try kernel_rfl) I) fun j8 I0 k1 F7=>Ab (Az I (k1.memA .t1))<|Ao .plain I (AW (α:=Tb) (xs:=([a1]:Lb Tb)) (vs:=[.agg ((ab a1)).toArray]) (ds' :=(ab a1)) I k1 gA I (e1 I) (by kernel_rfl) I) fun k8 J0 z0 E4=>bk h fun D3 k6 h=>Bd (vI D3) (bd 63) I (e2 I I) (fun w9 hw9=>ar_c n (z0.hL0 hL hw9) (Af (St.lend (α:=Lb Ta) (L:=L) z0 .t1 (AR (AI (cs:=[v0_0]) (xs:=(([a0]:Lb (Lb Ta)):Lb (Lb Ta))) k1 L (AE (cs:=[v0_0]) (ds:=[]) (AH h0_0 k1) (AT _ _))) E4) hL) hw9) (Af (St.lend (α:=Tb) (L:=L) z0 .hd (AI (cs:=(ab a1)) (xs:=(([a1]:Lb Tb):Lb Tb)) z0 L (AE (cs:=(ab a1)) (ds:=[]) (ci a1.fN a1.fD) (AT _ _))) hL) hw9) k6) I<|Ah I<|Aa<|Ae<|Ac I<|Ab (BA (i:=D3) (j:=0) I I)<|Aa<|BI I h (fun F3 h=>?_) (fun F3 h=>?_)
 refine Aq<|Ae<|Ac I<|Ab (Az I (z0.memA .t2))<|bk h fun E0 p6 h=>jE (bd 68) I (e1 I) (fun w9 hw9=>ak_c n (z0.hL hL hw9) a1 p6) I fun p8 Y7 d5 ⟨z1,A1,hu_,K5,Q5⟩=>?_
 subst hu_
 obtain ⟨Q3,G7⟩:=z0.agr d5
 refine Ab (FV.makeFunc (vs:=[.agg #[.bool E0.fj.fc,z1,.bool E0.fh.fc,A1]]) (us:=[]) (e1 I) am)<|BE (fst:=[]) (cap:=[]) (vs:=[v0_0,.func (.func 81) #[.agg #[.bool E0.fj.fc,z1,.bool E0.fh.fc,A1]] #[]]) .plain (bd 83) func83 I I I I (e2 I I) I fun x7 Z1 P7=>Ae<|Ah I<|Ah I<|Aa<|Ae<|Ao .plain I (Does.makeMap (κ:=Tb) (ν:=Lb Vc) Q3) fun C8 b0 z2 F4=>Ab (AS (vs:=[.map (some b0)]) (u:=.agg #[.map (some b0),.bool false]) (e1 I) (fun w9=>by kernel_rfl))<|RG.bx z2 I I fun K8 t0 A2 J2=>Ah I<|Aa<|Aj<|Ae<|Ac I ?_
 have V2:=AH h0_0 A2
 have J7:=AY V2
 refine Ab (Ba (xs:=a0) underlying24 I V2)<|Ac I<|Aa<|Av ?_
 obtain ⟨V7,H5,y5⟩:=ap h
 refine BP (α:=Nat × Bool × (Lb (Tb × Td)) × (Lb (Tb × Lb Vc))) (fun ⟨p0,u0,y0,c0⟩=>[(1,.func (.func 81) #[.agg #[.bool E0.fj.fc,z1,.bool E0.fh.fc,A1]] #[]),(6,vP t0),(12,v0_0),(13,vn a0.length),(14,vn p0)]) (fun ⟨p0,u0,y0,c0⟩=>[.cells t0 [.map (some b0),.bool u0] 126,.obj b0 (aA c0),rr w 34 Tb (vS J0 1) (([a1]:Lb Tb).length) (ab a1),rr w 24 (Lb Ta) (vS I0 1) (([a0]:Lb (Lb Ta)).length) [v0_0],.cells H0 (ab a1) 34]) (fun ⟨p0,u0,y0,c0⟩ B3=>MR B3 (bl [.cells t0 [.map (some b0),.bool u0] 126,.obj b0 (aA c0),rr w 34 Tb (vS J0 1) (([a1]:Lb Tb).length) (ab a1),rr w 24 (Lb Ta) (vS I0 1) (([a0]:Lb (Lb Ta)).length) [v0_0],.cells H0 (ab a1) 34] ++ L) c0 y0) (fun ⟨p0,u0,y0,c0⟩=>(p0,u0,y0)) (0,false,([]:Lb (Tb × Td)),([]:Lb (Tb × Lb Vc))) H5 A2 (BO (MR.at_ (Z:=([]:Lb (Tb × Lb Vc))) (M:=([]:Lb (Tb × Td))) z2 L trivial) J2) ?_
 rintro R6 ⟨p0,u0,y0,c0⟩ B3 F1 B0 u1 P0 h
 unfold cU_l1 at h
 try dsimp only at h
 refine Ae<|Ab (AU (i:=p0) (j:=a0.length) I I)<|Aa<|Aj<|AV I h (fun G3 h=>?_) (fun G3 h=>?_)
 refine Aq<|Aj<|Av<|Ae<|bk h fun E1 d6 h=>?_
 obtain ⟨P6,s7,v5,A5,v7,J5,D5⟩:=Bh (AH h0_0 B0) d6
 obtain rfl:=aF J5
 refine Ab (Be 32 p0 I v5 I I A5)<|Ab (Az I D5)<|RG.nl [vW 0,vW 0,vW 0,vW 0,vW 0,vW 0,vW 0,vW 0,vW 0,vW 0,vW 0,vW 0,vW 0,vW 0,vW 0,vW 0,vW 0,vW 0,vW 0,vW 0,vW 0,vW 0,vW 0,vW 0,vW 0,vW 0,vW 0,vW 0,vW 0,vW 0,vW 0,vW 0] B0 fun q8 W6 R3 P1=>AQ (av E1) R3 .hd (ai I) fun s8 p1 Q1=>Aa<|du 8 fun q0 c1=>Rv 0 q0 I c1 (fun _=>Al I)<|Rv 1 q0 I c1 (fun _=>Al I)<|Rv 2 q0 I c1 (fun _=>Bg 0 I)<|Rx 3 432 q0 I c1 (AN (cs:=(ab E1.fm)) I I (ac (p1.memA .hd) 0 16))<|Rx 6 384 q0 I c1 (Az I (p1.memA .hd))<|bk h fun K6 q6 h=>AX 4 95 q0 I .plain (bd 68) I (e1 I) (fun w9 hw9=>ak_c n (p1.hL hL hw9) E1.fm q6) I fun u8 Z7 g5 ⟨W7,X7,hu_,M5,P5⟩=>?_
 subst hu_
 obtain ⟨x2,R1⟩:=p1.agr g5
 refine bk h fun k2 s6 h=>?_
 have W2:=Tt F4 (Tt J2 (Tt u1 (Tt P1 (Tt Q1 R1))))
 refine BK (i:=5) (rk q0) (BX (m' :=127) (fst:=[.agg #[.bool E0.fj.fc,z1,.bool E0.fh.fc,A1]]) (cap:=[]) (sk q0) I .plain (bd 81) I (e1 I) (fun w9 hw9=>aa_c n (x2.hL hL hw9) E0 (Af (Ag K5 W2) hw9) (Af (Ag Q5 W2) hw9) K6 (Af M5 hw9) (Af P5 hw9) s6) I (fun v8 b8 j5 ⟨A6,B6,hu_,R5,U5⟩=>?_))
 subst hu_
 obtain ⟨y2,E2⟩:=x2.agr j5
 refine bk h fun j0 t6 h=>AX 7 255 q0 I .plain (bd 66) I (e1 I) (fun w9 hw9=>bn_c n (y2.hL hL hw9) E1 t6) I fun x8 c8 k5 ⟨g1,j1,hu_,k3,p3⟩=>?_
 subst hu_
 obtain ⟨U3,U1⟩:=y2.agr k5
 refine BK (i:=8) (rk q0) (RO.enterPT (m' :=511) (fst:=[]) (cap:=[]) (vs:=[vP t0,.agg #[.bool k2.fj.fc,A6,.bool k2.fh.fc,B6],.agg #[.bool j0.fj.fc,g1,.bool j0.fh.fc,j1]]) (sk q0) I I .plain (bd 86) func86 I I I I (e3 I I I) I (fun _ y7 b2 M7=>?_))
 refine Ae<|RG.bx U3 I I fun y8 X6 V3 Y0=>RG.bx V3 I I fun z8 Y6 U0 Z0=>Aa<|Ae<|Ab (Az I (U0.memA .t1))<|bk h fun d0 u6 h=>?_
 have X2:=Tt U1 (Tt Y0 Z0)
 refine Bd (.tuple #[.agg ((ab d0.1)).toArray,vI d0.2]) (bd 77) I (e1 I) (fun w9 hw9=>ac_c n (U0.hL0 hL hw9) k2 (U0.kd (Ag R5 X2) hw9) (U0.kd (Ag U5 X2) hw9) u6) I<|Ac I<|Ab (Ai I I)<|Ab (Ai I I)<|RG.nl zL U0 fun A8 Z6 W3 v1=>AQ (ab d0.1) W3 .hd (ai I) fun B8 V0 x1=>Ah I<|Aa<|Aj<|Ae<|Ac I<|Ab (BA (i:=d0.2) (j:=0) I I)<|Aa<|BI I h (fun H3 h=>?_) (fun H3 h=>?_)
 refine Aq<|du 6 fun A0 Q0=>Rv 0 A0 I Q0 (fun _=>Al I)<|Rv 1 A0 I Q0 (fun _=>By I)<|Rv 2 A0 I Q0 (fun _=>Bg 0 I)<|Rx 3 64 A0 I Q0 (Bp I ((V0.memA .t4) 0 _ I))<|Rx 4 64 A0 I Q0 (Az I (V0.memA .hd))<|Rx 5 64 A0 I Q0 (Az I (V0.memA .t1))<|BK (i:=6) (rk A0) (RO.enterPT (m' :=127) (fst:=[]) (cap:=[]) (vs:=[.map (some b0),.agg ((ab d0.1)).toArray,.agg #[.bool j0.fj.fc,g1,.bool j0.fh.fc,j1]]) (sk A0) I I .plain (bd 88) func88 I I I I (e3 I I I) I (fun _ z7 R2 Q7=>?_))
 refine Ae<|RG.bx V0 I I fun D8 b7 X3 V1=>RG.bx X3 I I fun E8 c7 W0 W1=>Aa<|Aj<|Ae<|Ac I<|Ab (Az I (W0.memA .t1)) ?_
 have g2:=Tt P1 (Tt Q1 (Tt R1 (Tt E2 (Tt U1 (Tt Y0 (Tt Z0 (Tt v1 (Tt x1 (Tt V1 W1)))))))))
 have E5:=BO P0 g2
 rcases MR.get d0.1 E5 with ⟨d2,j2⟩ | ⟨A7,p2,j2,d2,V5⟩
 have h:=dp h d2
 refine Ab (FV.lookupK (kv:=d0.1) (q:=false) ar W0 .t7 underlying124 (z:=.agg #[.bool false,vN,.bool false,vN]) I I I (.inl ⟨j2,I,I⟩))<|Ac I<|Ab (Ai I I)<|Ab (Ai I I)<|RG.nl [.bool false,vN,.bool false,vN] W0 fun F8 g7 Y3 F2=>AQ [.bool false,vN,.bool false,vN] Y3 .hd (ai I) fun G8 G1 G2=>Ah I<|Aa<|Ae<|Ac I<|Aa<|Bz I<|Aq<|Am<|Ac I<|Ab (Az I (G1.memA .t2))<|Ab (Az I (G1.memA .t1)) ?_
 have Y2:=Tt g2 (Tt F2 G2)
 have Z2:=Tt Y0 (Tt Z0 (Tt v1 (Tt x1 (Tt V1 (Tt W1 (Tt F2 G2))))))
 refine RG.now .plain (BL (kv:=d0.1) (vv:=[.bool j0.fj.fc,g1,.bool j0.fh.fc,j1]) ar G1 .t8 underlying124 I I I) fun H8 Z3 H2=>Aa<|MX.fin I<|Au (u:=.tuple #[]) R2 func88 I .nil I<|AK (dk A0)<|MX.fin I<|Au (u:=.tuple #[]) b2 func86 I .nil I<|AK (dk q0)<|Ax<|Am<|Ab (Bc (i:=p0) (j:=1) I I (by omega))<|Ac I<|Aa ?_
 obtain ⟨b4,I2⟩:=AB Z3 .d7
 exact F1 (p0 + 1,u0,aC y0 d0.1 j0,(aC c0 d0.1 [.bool j0.fj.fc,g1,.bool j0.fh.fc,j1])) b4 (Tt u1 (Tt Y2 (Tt H2 I2))) (BO (MR.set (k:=d0.1) (c:=[.bool j0.fj.fc,g1,.bool j0.fh.fc,j1]) (y:=j0) (cG j0.fj (Ag k3 Z2) j0.fh (Ag p3 Z2)) (BO P0 Y2)) (Tt H2 I2)) h
 have h:=cZ h d2
 obtain ⟨C6,D6,rfl,q3,s3⟩:=cQ V5
 refine Ab (FV.lookupK (kv:=d0.1) (q:=true) ar W0 .t7 underlying124 (z:=.agg #[.bool false,vN,.bool false,vN]) I I I (.inr ⟨_,j2,I,I⟩))<|Ac I<|Ab (Ai I I)<|Ab (Ai I I)<|RG.nl [.bool false,vN,.bool false,vN] W0 fun I8 j7 c4 M0=>AQ [.bool p2.fj.fc,C6,.bool p2.fh.fc,D6] c4 .hd (o4 I (Ay (Ag q3 M0)) I (Ay (Ag s3 M0))) fun J8 q1 y1=>Ah I<|Aa<|Ae<|Ac I<|Aa<|AG I<|Am<|Ab (Az I (q1.memA .t1))<|Ab (Az I (q1.memA .hd))<|bk h fun x0 v6 h=>?_
 have b3:=Tt Y0 (Tt Z0 (Tt v1 (Tt x1 (Tt V1 (Tt W1 (Tt M0 y1))))))
 refine jE (bd 81) I (e2 I I) (fun w9 hw9=>aa_c n (q1.hL hL hw9) j0 (Af (Ag k3 b3) hw9) (Af (Ag p3 b3) hw9) p2 (Af (Ag q3 (Tt M0 y1)) hw9) (Af (Ag s3 (Tt M0 y1)) hw9) v6) I fun M8 d8 p5 ⟨B1,C1,hu_,u3,v3⟩=>?_
 subst hu_
 obtain ⟨g4,G4⟩:=q1.agr p5
 refine AQ [.bool x0.fj.fc,B1,.bool x0.fh.fc,C1] g4 .t1 (o4 I (Ay u3) I (Ay v3)) fun P8 H1 X1=>Aa<|Am<|Ac I<|Ab (Az I (H1.memA .t2))<|Ab (Az I (H1.memA .t1)) ?_
 have c3:=Tt g2 (Tt M0 (Tt y1 (Tt G4 X1)))
 refine RG.now .plain (BL (kv:=d0.1) (vv:=[.bool x0.fj.fc,B1,.bool x0.fh.fc,C1]) ar H1 .t8 underlying124 I I I) fun Q8 j4 K2=>Aa<|MX.fin I<|Au (u:=.tuple #[]) R2 func88 I .nil I<|AK (dk A0)<|MX.fin I<|Au (u:=.tuple #[]) b2 func86 I .nil I<|AK (dk q0)<|Ax<|Am<|Ab (Bc (i:=p0) (j:=1) I I (by omega))<|Ac I<|Aa ?_
 obtain ⟨k4,M2⟩:=AB j4 .d7
 exact F1 (p0 + 1,u0,aC y0 d0.1 x0,(aC c0 d0.1 [.bool x0.fj.fc,B1,.bool x0.fh.fc,C1])) k4 (Tt u1 (Tt c3 (Tt K2 M2))) (BO (MR.set (k:=d0.1) (c:=[.bool x0.fj.fc,B1,.bool x0.fh.fc,C1]) (y:=x0) (cG x0.fj (Ag u3 X1) x0.fh (Ag v3 X1)) (BO P0 c3)) (Tt K2 M2)) h
 refine Ae<|Ac I<|Ab (By I)<|Bm 1 I<|RG.now .plain (BU (j:=1) (old:=[.map (some b0),.bool u0]) (news:=[.bool true]) (new' :=[.map (some b0),.bool true]) V0 .t4 I I I I I I (o1 I) I) fun R8 p4 H4=>Aa<|Ar I<|Au (u:=.tuple #[]) b2 func86 I .nil I<|AK (dk q0)<|Ax<|Am<|Ab (Bc (i:=p0) (j:=1) I I (by omega))<|Ac I<|Aa ?_
 obtain ⟨q4,I4⟩:=AB p4 .d4
 have g3:=Tt P1 (Tt Q1 (Tt R1 (Tt E2 (Tt U1 (Tt Y0 (Tt Z0 (Tt v1 (Tt x1 (Tt H4 I4)))))))))
 exact F1 (p0 + 1,true,y0,c0) q4 (Tt u1 g3) (BO P0 g3) h
 refine AZ I ?_
 have h:=y5 _ h
 try dsimp only at h
 refine Ae<|Ac I<|BE (fst:=[]) (cap:=[]) (vs:=[vP t0]) .plain (bd 87) func87 I I I I (e1 I) I fun B7 c2 R7=>Ae<|Ah I<|Ah I<|Aa<|Aj<|Ae<|Ac I<|Ab (By I)<|Bm 0 I<|Bf I ((B0.memA .hd) 0 _ I)<|Ab (FV.as (FV.len_map (D:=c0) B0 .t1 underlying124 I) (congrArg (fun n9:Nat=>Value.int .i64 (n9:Int)) (MR.len P0)))<|Ab (FV.gtrN (i:=y0.length) (j:=400) I I)<|Aa<|AV I h (fun I3 h=>?_) (fun I3 h=>?_)
 refine Ae<|Ah I<|Ah I<|Aa<|Ar I<|Au (u:=.tuple #[vN,vI 3]) c2 func87 I (.cons (.tmp I) (.cons (.tmp I) .nil)) I<|Ab (Ai I I)<|Ab (Ai I I)<|Ah I<|Ah I<|Aa<|Ar I<|Au (u:=.tuple #[vN,vI 3]) Z1 func83 I (.cons (.tmp I) (.cons (.tmp I) .nil)) I<|Ab (Ai I I)<|Ab (Ai I I)<|Ah I<|Ah I<|Aa<|Ar I ?_
 have W5:=Bo (α:=Ta) B0 L
 refine Au hb0 func23 I (.cons (.tmp I) (.cons (.tmp I) .nil)) I ?_
 cases h
 exact ⟨B0.ag,fun w9 hw9=>⟨vN,I,B0.kd W5 hw9⟩⟩
 refine Aq<|Ae<|Ah I<|Aa<|Aj<|Ae<|Ac I<|Ab (By I)<|Bm 0 I<|Bf I ((B0.memA .hd) 0 _ I)<|Ao .plain I (Does.range (D:=c0) B0 .t1 underlying124 I) fun H6 K0 B2 J4=>Aa<|Av ?_
 have C2:=B2.nilRow 37 (Rep.size Ta)
 refine MX.mloop (α:=(Lb Ta) × Bool × Vc × (Lb Vc) × (Array Nat)) (fun ⟨v0,C0,s0,F0,D0⟩=>[(0,vP t0),(4,s0),(19,vP K0)]) (fun A3 ⟨v0,C0,s0,F0,D0⟩ D1=>St w D1 [rr w 37 Ta s0 v0.length F0,.obj K0 (aD b0 c0.length D0),.cells t0 [.map (some b0),.bool C0] 126,.obj b0 (aA c0),rr w 34 Tb (vS J0 1) (([a1]:Lb Tb).length) (ab a1),rr w 24 (Lb Ta) (vS I0 1) (([a0]:Lb (Lb Ta)).length) [v0_0],.cells H0 (ab a1) 34]/\Tr H6 [rr w 37 Ta vN (([]:Lb Ta).length) [],.obj K0 (aD b0 c0.length #[]),.cells t0 [.map (some b0),.bool u0] 126,.obj b0 (aA c0),rr w 34 Tb (vS J0 1) (([a1]:Lb Tb).length) (ab a1),rr w 24 (Lb Ta) (vS I0 1) (([a0]:Lb (Lb Ta)).length) [v0_0],.cells H0 (ab a1) 34] D1 [rr w 37 Ta s0 v0.length F0,.obj K0 (aD b0 c0.length D0),.cells t0 [.map (some b0),.bool C0] 126,.obj b0 (aA c0),rr w 34 Tb (vS J0 1) (([a1]:Lb Tb).length) (ab a1),rr w 24 (Lb Ta) (vS I0 1) (([a0]:Lb (Lb Ta)).length) [v0_0],.cells H0 (ab a1) 34]/\Cells D1 (bl [rr w 37 Ta s0 v0.length F0,.obj K0 (aD b0 c0.length D0),.cells t0 [.map (some b0),.bool C0] 126,.obj b0 (aA c0),rr w 34 Tb (vS J0 1) (([a1]:Lb Tb).length) (ab a1),rr w 24 (Lb Ta) (vS I0 1) (([a0]:Lb (Lb Ta)).length) [v0_0],.cells H0 (ab a1) 34] ++ L) F0 v0/\left y0 D0 = A3) (fun ⟨v0,C0,s0,F0,D0⟩=>(v0,C0)) (([]:Lb Ta),u0,vN,[],#[]) h ⟨rfl,rfl,rfl,trivial⟩ ⟨C2,BM _ _,(AI (cs:=[]) (xs:=([]:Lb Ta)) C2 L (AT _ _)),(cT _)⟩ ?_
 rintro A3 ⟨v0,C0,s0,F0,D0⟩ D1 U6 P3 ⟨s4,P2,U2,B5⟩ F5 u5
 refine Ae<|RG.nextR (W:=c0) (BO P0 (Tt J4 (Tt (BW B2 37 (Rep.size Ta)) P2))) s4 .t3 (fun _=>.t1) I I B5 (fun U8 G5 G0 K4=>?_) (fun V8 z3 g0 C7 z6 z5 X5 I5 C5 D2 M4=>?_)
 have h:=F5 G5
 try dsimp only at h
 refine Ab (Ai I I)<|Aa<|Aj<|Bz I<|AZ I<|Aj<|Ae<|Ac I<|Ab (By I)<|Bm 1 I<|Bf I ((G0.memA .t2) 1 _ I)<|Aa<|MX.ifb I h (fun J3 h=>?_) (fun J3 h=>?_)
 refine Ae<|Ah I<|Ah I<|Aa<|Ar I<|Au (u:=.tuple #[vN,vI 6]) c2 func87 I (.cons (.tmp I) (.cons (.tmp I) .nil)) I<|Ab (Ai I I)<|Ab (Ai I I)<|Ah I<|Ah I<|Aa<|Ar I<|Au (u:=.tuple #[vN,vI 6]) Z1 func83 I (.cons (.tmp I) (.cons (.tmp I) .nil)) I<|Ab (Ai I I)<|Ab (Ai I I)<|Ah I<|Ah I<|Aa<|Ar I ?_
 have Y5:=Bo (α:=Ta) G0 L
 refine Au hb0 func23 I (.cons (.tmp I) (.cons (.tmp I) .nil)) I ?_
 cases h
 exact ⟨G0.ag,fun w9 hw9=>⟨vN,I,G0.kd Y5 hw9⟩⟩
 refine Aq<|Ae<|Ac I<|BE (fst:=[]) (cap:=[]) (vs:=[s0,.func (.func 144) #[] #[]]) .plain (bd 143) func143 I I I I (e2 I I) I fun D7 q5 U7=>Ae<|Ac I ?_
 have K7:v0.length <= 4294967296:=St.rowLe (α:=Ta) G0 .hd
 obtain ⟨Q6,u7,x5⟩:=St.rowV (α:=Ta) G0 .hd
 refine Ab (FV.lenV underlying24 I x5)<|Ah I<|Aa<|Am<|Ac I<|Ac I<|Ac I<|Ab (FV.convU (i:=((v0.length:Nat):Int)) underlying3 underlying193 I)<|bk h fun E3 x6 h=>Bd (vI E3) (bd 174) I (e1 I) (fun w9 hw9=>bP_c n (G0.hL0 hL hw9) (ae ((v0.length:Nat):Int)) x6) I<|Ac I<|bk h fun C3 g6 h=>RG.sort (enc:=av) (ρ:=Tryz.srt173_ren) (c:=(fun x9 y9=>aj_p n x9 y9)) (li:=E3) g6 I (fun _ _ _ _ h9=>aF h9) (fun w9 L9 z9=>aW (w:=w9) (L:=L9) z9.fm z9.fP) Tryz.srt173 (fun w9=>Tryz.isAgg37 w9) (fun w9=>Tryz.sizeOf37 w9) (enters_of func144 I I) (fun x9 y9 r9 w9 h9=>aj_c n (L:=[]) (w:=w9) (fun _ h8=>nomatch h8) x9 y9 h9) .plain (bd 173) I (e5 I I I I I) I G0 (AR U2 K4) .hd fun I6 s1 H7=>Aa<|MX.fin I<|Au (u:=.tuple #[]) q5 func143 I .nil I<|Aa<|Ae<|Ac I<|Ah I<|Ah I<|Aa<|Ar I<|Au (u:=.tuple #[s0,vI 0]) c2 func87 I (.cons (.tmp I) (.cons (.tmp I) .nil)) I<|Ab (Ai I I)<|Ab (Ai I I)<|Ah I<|Ah I<|Aa<|Ar I<|Au (u:=.tuple #[s0,vI 0]) Z1 func83 I (.cons (.tmp I) (.cons (.tmp I) .nil)) I<|Ab (Ai I I)<|Ab (Ai I I)<|Ah I<|Ah I<|Aa<|Ar I ?_
 have I1:=Bu s1 .hd
 have I7:=Bv s1 .hd
 have Z5:=Bw (α:=Ta) (v:=s0) (xs:=C3) I1 L (Bi (α:=Ta) s1 .hd (AI s1 L (bS (α:=Ta) (enc:=av) (fun w9 L9 z9=>aW (w:=w9) (L:=L9) z9.fm z9.fP) I6 _ C3)) hL)
 refine Au hb0 func23 I (.cons (.tmp I) (.cons (.tmp I) .nil)) I ?_
 cases h
 exact ⟨I1.ag,fun w9 hw9=>⟨s0,I,I1.kd Z5 hw9⟩⟩
 obtain ⟨E6,F6,rfl,x3,y3⟩:=cQ X5
 have h:=u5 _ _ I5
 unfold dj at h
 try dsimp only at h
 refine Ab (Ai I I)<|Aa<|Aj<|AG I<|Aq<|Av<|Ae<|Ab (FV.entry (D:=c0) D2 .t3 .t1 z5 I)<|Ab (Ai I I)<|Ab (Ai I I)<|RG.nl zL D2 fun W8 q2 u4 P4=>RG.nl [.bool false,vN,.bool false,vN] u4 fun X8 k7 v4 Q4=>AQ (ab g0.1) v4 .t1 (ai I) fun Y8 x4 R4=>?_
 have b1:=Tt M4 (Tt P4 (Tt Q4 R4))
 refine AQ [.bool g0.2.fj.fc,E6,.bool g0.2.fh.fc,F6] x4 .hd (o4 I (Ay (Ag x3 b1)) I (Ay (Ag y3 b1))) fun Z8 X0 Y1=>Aa<|Ae<|Ab (Az I (X0.memA .hd))<|bk h fun k0 y6 h=>Bd (.tuple #[.agg ((ab k0.1)).toArray,vI k0.2]) (bd 77) I (e1 I) (fun w9 hw9=>ac_c n (X0.hL0 hL hw9) g0.2 (X0.kd (Ag x3 (Tt b1 Y1)) hw9) (X0.kd (Ag y3 (Tt b1 Y1)) hw9) y6) I<|Ac I<|Ab (Ai I I)<|Ab (Ai I I)<|RG.nl zL X0 fun b9 s2 y4 U4=>AQ (ab k0.1) y4 .hd (ai I) fun c9 J1 V4=>Ah I<|Aa<|Aj<|Ae<|Ac I<|Ab (BA (i:=k0.2) (j:=0) I I)<|Aa<|MX.jo (α:=Bool) (fun R0=>[(0,vP t0),(4,s0),(19,vP K0),(5,vP q2),(7,vP s2)]) (fun R0=>[.cells s2 (ab k0.1) 34,.cells q2 (ab g0.1) 34,rr w 37 Ta s0 v0.length F0,.obj K0 (aD b0 c0.length (D0.push z3)),.cells t0 [.map (some b0),.bool R0] 126,.obj b0 (aA c0),rr w 34 Tb (vS J0 1) (([a1]:Lb Tb).length) (ab a1),rr w 24 (Lb Ta) (vS I0 1) (([a0]:Lb (Lb Ta)).length) [v0_0],.cells H0 (ab a1) 34]) (fun R0=>R0) J1 h ?_ ?_
 rintro R0 k9 K1 W4 h
 try dsimp only at h
 refine Am<|Ac I<|Ab (Az I (K1.memA .t1))<|Ab (Az I (K1.memA .hd))<|Ab (AS (vs:=[.agg ((ab g0.1)).toArray,.agg ((ab k0.1)).toArray]) (u:=.agg ((ab g0.1 ++ ab k0.1)).toArray) (e2 I I) (fun w9=>by kernel_rfl))<|Ao .plain I (AW (α:=Ta) (xs:=([(⟨g0.1,k0.1⟩:Ta)]:Lb Ta)) (vs:=[.agg ((ab g0.1 ++ ab k0.1)).toArray]) (ds' :=(ab g0.1 ++ ab k0.1)) I K1 cW I (e1 I) (by kernel_rfl) I) fun d9 p7 M1 X4=>bk h fun J6 j6 h=>?_
 have j3:=Tt b1 (Tt Y1 (Tt U4 (Tt V4 (Tt W4 X4))))
 refine BD .plain I (Bn (α:=Ta) (ys:=([(⟨g0.1,k0.1⟩:Ta)]:Lb Ta)) j6 M1 (fun _ _=>.t3) cW I I (AR U2 j3) (BH (α:=Ta) M1 .hd (AI (cs:=(ab g0.1 ++ ab k0.1)) (xs:=(([(⟨g0.1,k0.1⟩:Ta)]:Lb Ta):Lb Ta)) M1 L (AE (cs:=(ab g0.1 ++ ab k0.1)) (ds:=[]) (aW g0.1 k0.1) (AT _ _))))) fun G6 g9 ⟨M3,z4,Y4,s5⟩=>Ah I<|Aa<|Ax ?_
 obtain ⟨A4,Q2⟩:=AB z4 .d3
 exact P3 z6 (J6,R0,G6,M3,(D0.push z3)) _ _ ⟨I,I,I,trivial⟩ ⟨A4,(Tt P2 (Tt j3 (Tt Y4 Q2))),(AR s5 Q2),C5⟩ h
 intro V6 u2 h
 try dsimp only at h
 refine BI I h (fun K3 h=>?_) (fun K3 h=>?_)
 refine Aq ?_
 obtain ⟨B4,Z4⟩:=AB J1 (.a0 .d1)
 exact u2 C0 B4 Z4 h
 refine Am<|Ac I<|Ab (By I)<|Bm 1 I<|RG.now .plain (BU (j:=1) (old:=[.map (some b0),.bool C0]) (news:=[.bool true]) (new' :=[.map (some b0),.bool true]) J1 .t5 I I I I I I (o1 I) I) fun j9 C4 b5=>Aa ?_
 obtain ⟨D4,c5⟩:=AB C4 (.a0 .d1)
 exact u2 true D4 (Tt b5 c5) h
 refine Ae<|Ac I<|Ah I<|Ah I<|Aa<|Ar I ?_
 have b6:=Bo (α:=Ta) z0 L
 refine Au hb0 func23 I (.cons (.tmp I) (.cons (.tmp I) .nil)) I ?_
 cases h
 exact ⟨z0.ag,fun w9 hw9=>⟨vN,I,z0.kd b6 hw9⟩⟩
theorem br:ElT Tryz.prog 63 5 (Rep.size UInt8) 1 (.int .u8 0) [.int .u8 0]:=⟨underlying63,by kernel_rfl,rfl,rfl,rfl,rfl⟩
def cP_l1 (_n:Nat) (a0:Td) (g0:Nat × (Lb UInt8) -> Oa (Lb UInt8)):Nat × (Lb UInt8) -> Oa (Lb UInt8)
  | (c0,d0)=>(if c0 < a0.fh.fk.length then (a0.fh.fk[c0]?).bind fun b0=>(app d0 ([aq (shrU b0 0)]:Lb UInt8)).bind fun j0=>(app j0 ([aq (shrU b0 8)]:Lb UInt8)).bind fun k0=>(app k0 ([aq (shrU b0 16)]:Lb UInt8)).bind fun p0=>(app p0 ([aq (shrU b0 24)]:Lb UInt8)).bind fun q0=>(app q0 ([aq (shrU b0 32)]:Lb UInt8)).bind fun s0=>(app s0 ([aq (shrU b0 40)]:Lb UInt8)).bind fun t0=>(app t0 ([aq (shrU b0 48)]:Lb UInt8)).bind fun u0=>(app u0 ([aq (shrU b0 56)]:Lb UInt8)).bind fun v0=>g0 (c0 + 1,v0) else some d0)
def cP_l2 (_n:Nat) (a0:Td) (g0:Nat × (Lb UInt8) -> Oa (Lb UInt8)):Nat × (Lb UInt8) -> Oa (Lb UInt8)
  | (c0,d0)=>(if c0 < a0.fj.fk.length then (a0.fj.fk[c0]?).bind fun b0=>(app d0 ([aq (shrU b0 0)]:Lb UInt8)).bind fun j0=>(app j0 ([aq (shrU b0 8)]:Lb UInt8)).bind fun k0=>(app k0 ([aq (shrU b0 16)]:Lb UInt8)).bind fun p0=>(app p0 ([aq (shrU b0 24)]:Lb UInt8)).bind fun q0=>(app q0 ([aq (shrU b0 32)]:Lb UInt8)).bind fun s0=>(app s0 ([aq (shrU b0 40)]:Lb UInt8)).bind fun t0=>(app t0 ([aq (shrU b0 48)]:Lb UInt8)).bind fun u0=>(app u0 ([aq (shrU b0 56)]:Lb UInt8)).bind fun v0=>g0 (c0 + 1,v0) else some d0)
def cP_p (n:Nat) (a0:Td):Oa ByteArray:=
  (app ([]:Lb UInt8) ([bU ((a0.fj.fk.length:Nat):Int)]:Lb UInt8)).bind fun d0=>Option.bind (ao (cP_l2 n a0) n (0,d0)) (fun g0=>(app g0 ([bU ((a0.fh.fk.length:Nat):Int)]:Lb UInt8)).bind fun j0=>Option.bind (ao (cP_l1 n a0) n (0,j0)) (fun b0=>(if a0.fj.fc = true then (app b0 ([45]:Lb UInt8)).bind fun c0=>some (bstr c0) else some (bstr b0))))
theorem cP_c (n:Nat) {L w} (_hL:hl L w) (a0:Td) {v0_1:Vc} (h0_1:Rep.R w L [v0_1] a0.fj.fk) {v0_3:Vc} (h0_3:Rep.R w L [v0_3] a0.fh.fk)  {r:ByteArray} (h:cP_p n a0 = some r) :
 Cl 85 #[.agg #[.bool a0.fj.fc,v0_1,.bool a0.fh.fc,v0_3]] w (aj w fun _ u=>u = .string r):=by
 unfold cP_p at h
 refine AM func85 I I I fun _ cs0 hb0=>Ae<|RG.bx (AL w) I I fun P7 u0 x0 d7=>Ah I<|Aa<|Ae<|Ah I<|Aa<|Aj<|Ae<|Bm 0 I<|Bm 1 I<|Bf I ((eG (x0.memA .hd) 0) 1 _ I)<|Bm 2 I<|Bm 1 I<|Bf I ((eG (x0.memA .hd) 2) 1 _ I) ?_
 have Z0:=AH h0_1 x0
 obtain ⟨R5,D6,X4,_⟩:=Bl Z0
 obtain ⟨U5,E6,Y4,_⟩:=Bl (AH h0_3 x0)
 refine Ab (AS (vs:=[v0_1,v0_3]) (u:=.agg #[v0_1,v0_3]) (e2 I I) (fun w9=>by rw [X4,Y4]; try kernel_rfl))<|Ac I<|Aa<|Av<|MX.loop1<|Ae<|Ab (AU (i:=0) (j:=2) I I)<|Aa<|Aj<|AG I<|Aq<|Aj<|Av<|Ae<|Ab (FV.idx1 (cs:=[v0_1,v0_3]) (k:=0) (m:=1) (len:=2) I I I I I (by omega) I)<|Ah I<|Aa<|Ae<|Ac I<|Ac I ?_
 have p7:=AY Z0
 refine Ab (Ba (xs:=a0.fj.fk) underlying105 I Z0)<|Ab (FV.convU8 (i:=((a0.fj.fk.length:Nat):Int)) underlying3 underlying5 I)<|Ao .plain I (AW (α:=UInt8) (xs:=([bU ((a0.fj.fk.length:Nat):Int)]:Lb UInt8)) (vs:=[.int .u8 ((bU ((a0.fj.fk.length:Nat):Int)).toNat:Int)]) (ds' :=[.int .u8 ((bU ((a0.fj.fk.length:Nat):Int)).toNat:Int)]) I x0 br I (e1 I) (by kernel_rfl) I) fun Q7 b6 A0 g7=>?_
 have B0:=A0.nilRow 5 (Rep.size UInt8)
 refine bk h fun K5 d5 h=>BD .plain I (Bn (α:=UInt8) (ys:=([bU ((a0.fj.fk.length:Nat):Int)]:Lb UInt8)) d5 B0 (fun _ _=>.hd) br I I (AI (cs:=[]) (xs:=([]:Lb UInt8)) B0 L (AT _ _)) (BH (α:=UInt8) B0 .t1 (AR (AI (cs:=[.int .u8 ((bU ((a0.fj.fk.length:Nat):Int)).toNat:Int)]) (xs:=(([bU ((a0.fj.fk.length:Nat):Int)]:Lb UInt8):Lb UInt8)) A0 L (AE (cs:=[.int .u8 ((bU ((a0.fj.fk.length:Nat):Int)).toNat:Int)]) (ds:=[]) I (AT _ _))) (BW A0 5 (Rep.size UInt8))))) fun G5 R7 ⟨t2,c1,j7,d4⟩=>Ah I<|Aa<|Ae<|Ac I<|Ab (Ba (xs:=a0.fj.fk) underlying105 I (AH h0_1 c1))<|Ac I<|Aa<|Av ?_
 obtain ⟨C2,A3⟩:=AB c1 (.a0 .d1)
 obtain ⟨s7,R4,I4⟩:=ap h
 refine BP (α:=Nat × (Lb UInt8) × Vc × (Lb Vc)) (fun ⟨d0,k0,s0,p0⟩=>[(1,vP u0),(3,s0),(15,.agg #[v0_1,v0_3]),(16,vI 0),(25,v0_1),(26,vn a0.fj.fk.length),(27,vn d0)]) (fun ⟨d0,k0,s0,p0⟩=>[rr w 5 UInt8 s0 k0.length p0,.cells u0 [.bool a0.fj.fc,v0_1,.bool a0.fh.fc,v0_3] 109]) (fun ⟨d0,k0,s0,p0⟩ g2=>Cells g2 (bl [rr w 5 UInt8 s0 k0.length p0,.cells u0 [.bool a0.fj.fc,v0_1,.bool a0.fh.fc,v0_3] 109] ++ L) p0 k0) (fun ⟨d0,k0,s0,p0⟩=>(d0,k0)) (0,K5,G5,t2) R4 C2 (AR d4 A3) ?_
 rintro X5 ⟨d0,k0,s0,p0⟩ g2 z2 y0 B3 c2 h
 unfold cP_l2 at h
 try dsimp only at h
 refine Ae<|Ab (AU (i:=d0) (j:=a0.fj.fk.length) I I)<|Aa<|Aj<|AV I h (fun p2 h=>?_) (fun p2 h=>?_)
 refine Aq<|Aj<|Av<|Ae<|bk h fun b0 Z4 h=>?_
 obtain ⟨V5,F6,E4,K4,s2,V4,P4⟩:=Bh (AH h0_1 y0) Z4
 have F4:s2 = [vU b0]:=V4; subst F4
 refine Ab (Be 1 d0 I E4 I I K4)<|Bf I (P4 0 _ I)<|Ah I<|Aa<|Ae<|Ac I<|Aa<|Av<|MX.loop1<|Ae<|Ab (AU (i:=0) (j:=8) I I)<|Aa<|Aj<|AG I<|Aq<|Aj<|Av<|Ae<|Ac I<|Ah I<|Aa<|Am<|Ac I<|Ac I<|Ac I<|Ab (FV.mul (i:=8) (j:=0) (r:=0) I I (by decide))<|Ab (FV.shrU (a:=b0) (j:=0) I I)<|Ab (FV.conv8 (a:=shrU b0 0) underlying30 underlying5 I)<|Ao .plain I (AW (α:=UInt8) (xs:=([aq (shrU b0 0)]:Lb UInt8)) (vs:=[.int .u8 ((aq (shrU b0 0)).toNat:Int)]) (ds' :=[.int .u8 ((aq (shrU b0 0)).toNat:Int)]) I y0 br I (e1 I) (by kernel_rfl) I) fun U7 c6 C0 k1=>bk h fun R8 g5 h=>BD .plain I (Bn (α:=UInt8) (ys:=([aq (shrU b0 0)]:Lb UInt8)) g5 C0 (fun _ _=>.t1) br I I (AR c2 k1) (BH (α:=UInt8) C0 .hd (AI (cs:=[.int .u8 ((aq (shrU b0 0)).toNat:Int)]) (xs:=(([aq (shrU b0 0)]:Lb UInt8):Lb UInt8)) C0 L (AE (cs:=[.int .u8 ((aq (shrU b0 0)).toNat:Int)]) (ds:=[]) I (AT _ _))))) fun v7 V7 ⟨I6,D2,C3,c4⟩=>Ah I<|Aa<|Ax<|Am<|Ab (BN (i:=0) (j:=1) (r:=1) I I (by decide))<|Ac I<|Aa<|Bq ?_
 obtain ⟨E2,p1⟩:=AB D2 .d1
 refine Ae<|Ab (AU (i:=1) (j:=8) I I)<|Aa<|Aj<|AG I<|Aq<|Aj<|Av<|Ae<|Ac I<|Ah I<|Aa<|Am<|Ac I<|Ac I<|Ac I<|Ab (FV.mul (i:=8) (j:=1) (r:=8) I I (by decide))<|Ab (FV.shrU (a:=b0) (j:=8) I I)<|Ab (FV.conv8 (a:=shrU b0 8) underlying30 underlying5 I)<|Ao .plain I (AW (α:=UInt8) (xs:=([aq (shrU b0 8)]:Lb UInt8)) (vs:=[.int .u8 ((aq (shrU b0 8)).toNat:Int)]) (ds' :=[.int .u8 ((aq (shrU b0 8)).toNat:Int)]) I E2 br I (e1 I) (by kernel_rfl) I) fun W7 d6 D0 q1=>bk h fun U8 j5 h=>BD .plain I (Bn (α:=UInt8) (ys:=([aq (shrU b0 8)]:Lb UInt8)) j5 D0 (fun _ _=>.t1) br I I (AR c4 (Tt p1 q1)) (BH (α:=UInt8) D0 .hd (AI (cs:=[.int .u8 ((aq (shrU b0 8)).toNat:Int)]) (xs:=(([aq (shrU b0 8)]:Lb UInt8):Lb UInt8)) D0 L (AE (cs:=[.int .u8 ((aq (shrU b0 8)).toNat:Int)]) (ds:=[]) I (AT _ _))))) fun x7 X7 ⟨J6,F2,D3,g4⟩=>Ah I<|Aa<|Ax<|Am<|Ab (BN (i:=1) (j:=1) (r:=2) I I (by decide))<|Ac I<|Aa<|Bq ?_
 obtain ⟨G2,s1⟩:=AB F2 .d1
 refine Ae<|Ab (AU (i:=2) (j:=8) I I)<|Aa<|Aj<|AG I<|Aq<|Aj<|Av<|Ae<|Ac I<|Ah I<|Aa<|Am<|Ac I<|Ac I<|Ac I<|Ab (FV.mul (i:=8) (j:=2) (r:=16) I I (by decide))<|Ab (FV.shrU (a:=b0) (j:=16) I I)<|Ab (FV.conv8 (a:=shrU b0 16) underlying30 underlying5 I)<|Ao .plain I (AW (α:=UInt8) (xs:=([aq (shrU b0 16)]:Lb UInt8)) (vs:=[.int .u8 ((aq (shrU b0 16)).toNat:Int)]) (ds' :=[.int .u8 ((aq (shrU b0 16)).toNat:Int)]) I G2 br I (e1 I) (by kernel_rfl) I) fun Y7 g6 E0 u1=>bk h fun V8 k5 h=>BD .plain I (Bn (α:=UInt8) (ys:=([aq (shrU b0 16)]:Lb UInt8)) k5 E0 (fun _ _=>.t1) br I I (AR g4 (Tt s1 u1)) (BH (α:=UInt8) E0 .hd (AI (cs:=[.int .u8 ((aq (shrU b0 16)).toNat:Int)]) (xs:=(([aq (shrU b0 16)]:Lb UInt8):Lb UInt8)) E0 L (AE (cs:=[.int .u8 ((aq (shrU b0 16)).toNat:Int)]) (ds:=[]) I (AT _ _))))) fun y7 Z7 ⟨K6,H2,E3,j4⟩=>Ah I<|Aa<|Ax<|Am<|Ab (BN (i:=2) (j:=1) (r:=3) I I (by decide))<|Ac I<|Aa<|Bq ?_
 obtain ⟨I2,v1⟩:=AB H2 .d1
 refine Ae<|Ab (AU (i:=3) (j:=8) I I)<|Aa<|Aj<|AG I<|Aq<|Aj<|Av<|Ae<|Ac I<|Ah I<|Aa<|Am<|Ac I<|Ac I<|Ac I<|Ab (FV.mul (i:=8) (j:=3) (r:=24) I I (by decide))<|Ab (FV.shrU (a:=b0) (j:=24) I I)<|Ab (FV.conv8 (a:=shrU b0 24) underlying30 underlying5 I)<|Ao .plain I (AW (α:=UInt8) (xs:=([aq (shrU b0 24)]:Lb UInt8)) (vs:=[.int .u8 ((aq (shrU b0 24)).toNat:Int)]) (ds' :=[.int .u8 ((aq (shrU b0 24)).toNat:Int)]) I I2 br I (e1 I) (by kernel_rfl) I) fun b8 j6 F0 x1=>bk h fun W8 p5 h=>BD .plain I (Bn (α:=UInt8) (ys:=([aq (shrU b0 24)]:Lb UInt8)) p5 F0 (fun _ _=>.t1) br I I (AR j4 (Tt v1 x1)) (BH (α:=UInt8) F0 .hd (AI (cs:=[.int .u8 ((aq (shrU b0 24)).toNat:Int)]) (xs:=(([aq (shrU b0 24)]:Lb UInt8):Lb UInt8)) F0 L (AE (cs:=[.int .u8 ((aq (shrU b0 24)).toNat:Int)]) (ds:=[]) I (AT _ _))))) fun z7 c8 ⟨M6,J2,F3,k4⟩=>Ah I<|Aa<|Ax<|Am<|Ab (BN (i:=3) (j:=1) (r:=4) I I (by decide))<|Ac I<|Aa<|Bq ?_
 obtain ⟨K2,y1⟩:=AB J2 .d1
 refine Ae<|Ab (AU (i:=4) (j:=8) I I)<|Aa<|Aj<|AG I<|Aq<|Aj<|Av<|Ae<|Ac I<|Ah I<|Aa<|Am<|Ac I<|Ac I<|Ac I<|Ab (FV.mul (i:=8) (j:=4) (r:=32) I I (by decide))<|Ab (FV.shrU (a:=b0) (j:=32) I I)<|Ab (FV.conv8 (a:=shrU b0 32) underlying30 underlying5 I)<|Ao .plain I (AW (α:=UInt8) (xs:=([aq (shrU b0 32)]:Lb UInt8)) (vs:=[.int .u8 ((aq (shrU b0 32)).toNat:Int)]) (ds' :=[.int .u8 ((aq (shrU b0 32)).toNat:Int)]) I K2 br I (e1 I) (by kernel_rfl) I) fun d8 k6 G0 z1=>bk h fun X8 q5 h=>BD .plain I (Bn (α:=UInt8) (ys:=([aq (shrU b0 32)]:Lb UInt8)) q5 G0 (fun _ _=>.t1) br I I (AR k4 (Tt y1 z1)) (BH (α:=UInt8) G0 .hd (AI (cs:=[.int .u8 ((aq (shrU b0 32)).toNat:Int)]) (xs:=(([aq (shrU b0 32)]:Lb UInt8):Lb UInt8)) G0 L (AE (cs:=[.int .u8 ((aq (shrU b0 32)).toNat:Int)]) (ds:=[]) I (AT _ _))))) fun A7 g8 ⟨P6,M2,G3,p4⟩=>Ah I<|Aa<|Ax<|Am<|Ab (BN (i:=4) (j:=1) (r:=5) I I (by decide))<|Ac I<|Aa<|Bq ?_
 obtain ⟨P2,A1⟩:=AB M2 .d1
 refine Ae<|Ab (AU (i:=5) (j:=8) I I)<|Aa<|Aj<|AG I<|Aq<|Aj<|Av<|Ae<|Ac I<|Ah I<|Aa<|Am<|Ac I<|Ac I<|Ac I<|Ab (FV.mul (i:=8) (j:=5) (r:=40) I I (by decide))<|Ab (FV.shrU (a:=b0) (j:=40) I I)<|Ab (FV.conv8 (a:=shrU b0 40) underlying30 underlying5 I)<|Ao .plain I (AW (α:=UInt8) (xs:=([aq (shrU b0 40)]:Lb UInt8)) (vs:=[.int .u8 ((aq (shrU b0 40)).toNat:Int)]) (ds' :=[.int .u8 ((aq (shrU b0 40)).toNat:Int)]) I P2 br I (e1 I) (by kernel_rfl) I) fun j8 p6 H0 B1=>bk h fun Y8 s5 h=>BD .plain I (Bn (α:=UInt8) (ys:=([aq (shrU b0 40)]:Lb UInt8)) s5 H0 (fun _ _=>.t1) br I I (AR p4 (Tt A1 B1)) (BH (α:=UInt8) H0 .hd (AI (cs:=[.int .u8 ((aq (shrU b0 40)).toNat:Int)]) (xs:=(([aq (shrU b0 40)]:Lb UInt8):Lb UInt8)) H0 L (AE (cs:=[.int .u8 ((aq (shrU b0 40)).toNat:Int)]) (ds:=[]) I (AT _ _))))) fun B7 k8 ⟨Q6,Q2,H3,q4⟩=>Ah I<|Aa<|Ax<|Am<|Ab (BN (i:=5) (j:=1) (r:=6) I I (by decide))<|Ac I<|Aa<|Bq ?_
 obtain ⟨R2,C1⟩:=AB Q2 .d1
 refine Ae<|Ab (AU (i:=6) (j:=8) I I)<|Aa<|Aj<|AG I<|Aq<|Aj<|Av<|Ae<|Ac I<|Ah I<|Aa<|Am<|Ac I<|Ac I<|Ac I<|Ab (FV.mul (i:=8) (j:=6) (r:=48) I I (by decide))<|Ab (FV.shrU (a:=b0) (j:=48) I I)<|Ab (FV.conv8 (a:=shrU b0 48) underlying30 underlying5 I)<|Ao .plain I (AW (α:=UInt8) (xs:=([aq (shrU b0 48)]:Lb UInt8)) (vs:=[.int .u8 ((aq (shrU b0 48)).toNat:Int)]) (ds' :=[.int .u8 ((aq (shrU b0 48)).toNat:Int)]) I R2 br I (e1 I) (by kernel_rfl) I) fun p8 q6 I0 D1=>bk h fun Z8 t5 h=>BD .plain I (Bn (α:=UInt8) (ys:=([aq (shrU b0 48)]:Lb UInt8)) t5 I0 (fun _ _=>.t1) br I I (AR q4 (Tt C1 D1)) (BH (α:=UInt8) I0 .hd (AI (cs:=[.int .u8 ((aq (shrU b0 48)).toNat:Int)]) (xs:=(([aq (shrU b0 48)]:Lb UInt8):Lb UInt8)) I0 L (AE (cs:=[.int .u8 ((aq (shrU b0 48)).toNat:Int)]) (ds:=[]) I (AT _ _))))) fun C7 q8 ⟨R6,U2,I3,s4⟩=>Ah I<|Aa<|Ax<|Am<|Ab (BN (i:=6) (j:=1) (r:=7) I I (by decide))<|Ac I<|Aa<|Bq ?_
 obtain ⟨V2,E1⟩:=AB U2 .d1
 refine Ae<|Ab (AU (i:=7) (j:=8) I I)<|Aa<|Aj<|AG I<|Aq<|Aj<|Av<|Ae<|Ac I<|Ah I<|Aa<|Am<|Ac I<|Ac I<|Ac I<|Ab (FV.mul (i:=8) (j:=7) (r:=56) I I (by decide))<|Ab (FV.shrU (a:=b0) (j:=56) I I)<|Ab (FV.conv8 (a:=shrU b0 56) underlying30 underlying5 I)<|Ao .plain I (AW (α:=UInt8) (xs:=([aq (shrU b0 56)]:Lb UInt8)) (vs:=[.int .u8 ((aq (shrU b0 56)).toNat:Int)]) (ds' :=[.int .u8 ((aq (shrU b0 56)).toNat:Int)]) I V2 br I (e1 I) (by kernel_rfl) I) fun s8 s6 J0 F1=>bk h fun M5 u5 h=>BD .plain I (Bn (α:=UInt8) (ys:=([aq (shrU b0 56)]:Lb UInt8)) u5 J0 (fun _ _=>.t1) br I I (AR s4 (Tt E1 F1)) (BH (α:=UInt8) J0 .hd (AI (cs:=[.int .u8 ((aq (shrU b0 56)).toNat:Int)]) (xs:=(([aq (shrU b0 56)]:Lb UInt8):Lb UInt8)) J0 L (AE (cs:=[.int .u8 ((aq (shrU b0 56)).toNat:Int)]) (ds:=[]) I (AT _ _))))) fun H5 t8 ⟨u2,W2,J3,t4⟩=>Ah I<|Aa<|Ax<|Am<|Ab (BN (i:=7) (j:=1) (r:=8) I I (by decide))<|Ac I<|Aa<|Bq ?_
 obtain ⟨X2,G1⟩:=AB W2 .d1
 refine Ae<|Ab (AU (i:=8) (j:=8) I I)<|Aa<|Aj<|Bz I<|AZ I<|Ax<|Am<|Ab (Bc (i:=d0) (j:=1) I I (by omega))<|Ac I<|Aa<|z2 (d0 + 1,M5,H5,u2) X2 (Tt B3 (Tt k1 (Tt C3 (Tt p1 (Tt q1 (Tt D3 (Tt s1 (Tt u1 (Tt E3 (Tt v1 (Tt x1 (Tt F3 (Tt y1 (Tt z1 (Tt G3 (Tt A1 (Tt B1 (Tt H3 (Tt C1 (Tt D1 (Tt I3 (Tt E1 (Tt F1 (Tt J3 G1)))))))))))))))))))))))) (AR t4 G1) h
 refine AZ I ?_
 have h:=I4 _ h
 try dsimp only at h
 refine Ax<|Am<|Ab (BN (i:=0) (j:=1) (r:=1) I I (by decide))<|Ac I<|Aa<|Bq<|Ae<|Ab (AU (i:=1) (j:=2) I I)<|Aa<|Aj<|AG I<|Aq<|Aj<|Av<|Ae<|Ab (FV.idx1 (cs:=[v0_1,v0_3]) (k:=1) (m:=1) (len:=2) I I I I I (by omega) I)<|Ah I<|Aa<|Ae<|Ac I<|Ac I ?_
 have d2:=AH h0_3 y0
 have q7:=AY d2
 refine Ab (Ba (xs:=a0.fh.fk) underlying105 I d2)<|Ab (FV.convU8 (i:=((a0.fh.fk.length:Nat):Int)) underlying3 underlying5 I)<|Ao .plain I (AW (α:=UInt8) (xs:=([bU ((a0.fh.fk.length:Nat):Int)]:Lb UInt8)) (vs:=[.int .u8 ((bU ((a0.fh.fk.length:Nat):Int)).toNat:Int)]) (ds' :=[.int .u8 ((bU ((a0.fh.fk.length:Nat):Int)).toNat:Int)]) I y0 br I (e1 I) (by kernel_rfl) I) fun v8 t6 K0 K3=>bk h fun P5 v5 h=>BD .plain I (Bn (α:=UInt8) (ys:=([bU ((a0.fh.fk.length:Nat):Int)]:Lb UInt8)) v5 K0 (fun _ _=>.t1) br I I (AR c2 K3) (BH (α:=UInt8) K0 .hd (AI (cs:=[.int .u8 ((bU ((a0.fh.fk.length:Nat):Int)).toNat:Int)]) (xs:=(([bU ((a0.fh.fk.length:Nat):Int)]:Lb UInt8):Lb UInt8)) K0 L (AE (cs:=[.int .u8 ((bU ((a0.fh.fk.length:Nat):Int)).toNat:Int)]) (ds:=[]) I (AT _ _))))) fun I5 x8 ⟨v2,g1,k7,u4⟩=>Ah I<|Aa<|Ae<|Ac I<|Ab (Ba (xs:=a0.fh.fk) underlying105 I (AH h0_3 g1))<|Ac I<|Aa<|Av ?_
 obtain ⟨Y2,M3⟩:=AB g1 .d1
 obtain ⟨t7,U4,J4⟩:=ap h
 refine BP (α:=Nat × (Lb UInt8) × Vc × (Lb Vc)) (fun ⟨g0,j0,t0,q0⟩=>[(1,vP u0),(3,t0),(15,.agg #[v0_1,v0_3]),(16,vI 1),(25,v0_3),(26,vn a0.fh.fk.length),(27,vn g0)]) (fun ⟨g0,j0,t0,q0⟩=>[rr w 5 UInt8 t0 j0.length q0,.cells u0 [.bool a0.fj.fc,v0_1,.bool a0.fh.fc,v0_3] 109]) (fun ⟨g0,j0,t0,q0⟩ j2=>Cells j2 (bl [rr w 5 UInt8 t0 j0.length q0,.cells u0 [.bool a0.fj.fc,v0_1,.bool a0.fh.fc,v0_3] 109] ++ L) q0 j0) (fun ⟨g0,j0,t0,q0⟩=>(g0,j0)) (0,P5,I5,v2) U4 Y2 (AR u4 M3) ?_
 rintro Y5 ⟨g0,j0,t0,q0⟩ j2 A2 v0 P3 Y0 h
 unfold cP_l1 at h
 try dsimp only at h
 refine Ae<|Ab (AU (i:=g0) (j:=a0.fh.fk.length) I I)<|Aa<|Aj<|AV I h (fun q2 h=>?_) (fun q2 h=>?_)
 refine Aq<|Aj<|Av<|Ae<|bk h fun c0 b5 h=>?_
 obtain ⟨W5,G6,G4,M4,x2,W4,Q4⟩:=Bh (AH h0_3 v0) b5
 have H4:x2 = [vU c0]:=W4; subst H4
 refine Ab (Be 1 g0 I G4 I I M4)<|Bf I (Q4 0 _ I)<|Ah I<|Aa<|Ae<|Ac I<|Aa<|Av<|MX.loop1<|Ae<|Ab (AU (i:=0) (j:=8) I I)<|Aa<|Aj<|AG I<|Aq<|Aj<|Av<|Ae<|Ac I<|Ah I<|Aa<|Am<|Ac I<|Ac I<|Ac I<|Ab (FV.mul (i:=8) (j:=0) (r:=0) I I (by decide))<|Ab (FV.shrU (a:=c0) (j:=0) I I)<|Ab (FV.conv8 (a:=shrU c0 0) underlying30 underlying5 I)<|Ao .plain I (AW (α:=UInt8) (xs:=([aq (shrU c0 0)]:Lb UInt8)) (vs:=[.int .u8 ((aq (shrU c0 0)).toNat:Int)]) (ds' :=[.int .u8 ((aq (shrU c0 0)).toNat:Int)]) I v0 br I (e1 I) (by kernel_rfl) I) fun y8 u6 M0 H1=>bk h fun b9 x5 h=>BD .plain I (Bn (α:=UInt8) (ys:=([aq (shrU c0 0)]:Lb UInt8)) x5 M0 (fun _ _=>.t1) br I I (AR Y0 H1) (BH (α:=UInt8) M0 .hd (AI (cs:=[.int .u8 ((aq (shrU c0 0)).toNat:Int)]) (xs:=(([aq (shrU c0 0)]:Lb UInt8):Lb UInt8)) M0 L (AE (cs:=[.int .u8 ((aq (shrU c0 0)).toNat:Int)]) (ds:=[]) I (AT _ _))))) fun D7 z8 ⟨U6,Z2,Q3,v4⟩=>Ah I<|Aa<|Ax<|Am<|Ab (BN (i:=0) (j:=1) (r:=1) I I (by decide))<|Ac I<|Aa<|Bq ?_
 obtain ⟨b3,I1⟩:=AB Z2 .d1
 refine Ae<|Ab (AU (i:=1) (j:=8) I I)<|Aa<|Aj<|AG I<|Aq<|Aj<|Av<|Ae<|Ac I<|Ah I<|Aa<|Am<|Ac I<|Ac I<|Ac I<|Ab (FV.mul (i:=8) (j:=1) (r:=8) I I (by decide))<|Ab (FV.shrU (a:=c0) (j:=8) I I)<|Ab (FV.conv8 (a:=shrU c0 8) underlying30 underlying5 I)<|Ao .plain I (AW (α:=UInt8) (xs:=([aq (shrU c0 8)]:Lb UInt8)) (vs:=[.int .u8 ((aq (shrU c0 8)).toNat:Int)]) (ds' :=[.int .u8 ((aq (shrU c0 8)).toNat:Int)]) I b3 br I (e1 I) (by kernel_rfl) I) fun A8 v6 P0 J1=>bk h fun c9 y5 h=>BD .plain I (Bn (α:=UInt8) (ys:=([aq (shrU c0 8)]:Lb UInt8)) y5 P0 (fun _ _=>.t1) br I I (AR v4 (Tt I1 J1)) (BH (α:=UInt8) P0 .hd (AI (cs:=[.int .u8 ((aq (shrU c0 8)).toNat:Int)]) (xs:=(([aq (shrU c0 8)]:Lb UInt8):Lb UInt8)) P0 L (AE (cs:=[.int .u8 ((aq (shrU c0 8)).toNat:Int)]) (ds:=[]) I (AT _ _))))) fun E7 B8 ⟨V6,c3,R3,x4⟩=>Ah I<|Aa<|Ax<|Am<|Ab (BN (i:=1) (j:=1) (r:=2) I I (by decide))<|Ac I<|Aa<|Bq ?_
 obtain ⟨d3,K1⟩:=AB c3 .d1
 refine Ae<|Ab (AU (i:=2) (j:=8) I I)<|Aa<|Aj<|AG I<|Aq<|Aj<|Av<|Ae<|Ac I<|Ah I<|Aa<|Am<|Ac I<|Ac I<|Ac I<|Ab (FV.mul (i:=8) (j:=2) (r:=16) I I (by decide))<|Ab (FV.shrU (a:=c0) (j:=16) I I)<|Ab (FV.conv8 (a:=shrU c0 16) underlying30 underlying5 I)<|Ao .plain I (AW (α:=UInt8) (xs:=([aq (shrU c0 16)]:Lb UInt8)) (vs:=[.int .u8 ((aq (shrU c0 16)).toNat:Int)]) (ds' :=[.int .u8 ((aq (shrU c0 16)).toNat:Int)]) I d3 br I (e1 I) (by kernel_rfl) I) fun C8 x6 Q0 M1=>bk h fun d9 z5 h=>BD .plain I (Bn (α:=UInt8) (ys:=([aq (shrU c0 16)]:Lb UInt8)) z5 Q0 (fun _ _=>.t1) br I I (AR x4 (Tt K1 M1)) (BH (α:=UInt8) Q0 .hd (AI (cs:=[.int .u8 ((aq (shrU c0 16)).toNat:Int)]) (xs:=(([aq (shrU c0 16)]:Lb UInt8):Lb UInt8)) Q0 L (AE (cs:=[.int .u8 ((aq (shrU c0 16)).toNat:Int)]) (ds:=[]) I (AT _ _))))) fun F7 D8 ⟨W6,g3,U3,y4⟩=>Ah I<|Aa<|Ax<|Am<|Ab (BN (i:=2) (j:=1) (r:=3) I I (by decide))<|Ac I<|Aa<|Bq ?_
 obtain ⟨j3,P1⟩:=AB g3 .d1
 refine Ae<|Ab (AU (i:=3) (j:=8) I I)<|Aa<|Aj<|AG I<|Aq<|Aj<|Av<|Ae<|Ac I<|Ah I<|Aa<|Am<|Ac I<|Ac I<|Ac I<|Ab (FV.mul (i:=8) (j:=3) (r:=24) I I (by decide))<|Ab (FV.shrU (a:=c0) (j:=24) I I)<|Ab (FV.conv8 (a:=shrU c0 24) underlying30 underlying5 I)<|Ao .plain I (AW (α:=UInt8) (xs:=([aq (shrU c0 24)]:Lb UInt8)) (vs:=[.int .u8 ((aq (shrU c0 24)).toNat:Int)]) (ds' :=[.int .u8 ((aq (shrU c0 24)).toNat:Int)]) I j3 br I (e1 I) (by kernel_rfl) I) fun E8 y6 R0 Q1=>bk h fun g9 A5 h=>BD .plain I (Bn (α:=UInt8) (ys:=([aq (shrU c0 24)]:Lb UInt8)) A5 R0 (fun _ _=>.t1) br I I (AR y4 (Tt P1 Q1)) (BH (α:=UInt8) R0 .hd (AI (cs:=[.int .u8 ((aq (shrU c0 24)).toNat:Int)]) (xs:=(([aq (shrU c0 24)]:Lb UInt8):Lb UInt8)) R0 L (AE (cs:=[.int .u8 ((aq (shrU c0 24)).toNat:Int)]) (ds:=[]) I (AT _ _))))) fun G7 F8 ⟨X6,k3,V3,z4⟩=>Ah I<|Aa<|Ax<|Am<|Ab (BN (i:=3) (j:=1) (r:=4) I I (by decide))<|Ac I<|Aa<|Bq ?_
 obtain ⟨p3,R1⟩:=AB k3 .d1
 refine Ae<|Ab (AU (i:=4) (j:=8) I I)<|Aa<|Aj<|AG I<|Aq<|Aj<|Av<|Ae<|Ac I<|Ah I<|Aa<|Am<|Ac I<|Ac I<|Ac I<|Ab (FV.mul (i:=8) (j:=4) (r:=32) I I (by decide))<|Ab (FV.shrU (a:=c0) (j:=32) I I)<|Ab (FV.conv8 (a:=shrU c0 32) underlying30 underlying5 I)<|Ao .plain I (AW (α:=UInt8) (xs:=([aq (shrU c0 32)]:Lb UInt8)) (vs:=[.int .u8 ((aq (shrU c0 32)).toNat:Int)]) (ds' :=[.int .u8 ((aq (shrU c0 32)).toNat:Int)]) I p3 br I (e1 I) (by kernel_rfl) I) fun G8 z6 U0 U1=>bk h fun j9 B5 h=>BD .plain I (Bn (α:=UInt8) (ys:=([aq (shrU c0 32)]:Lb UInt8)) B5 U0 (fun _ _=>.t1) br I I (AR z4 (Tt R1 U1)) (BH (α:=UInt8) U0 .hd (AI (cs:=[.int .u8 ((aq (shrU c0 32)).toNat:Int)]) (xs:=(([aq (shrU c0 32)]:Lb UInt8):Lb UInt8)) U0 L (AE (cs:=[.int .u8 ((aq (shrU c0 32)).toNat:Int)]) (ds:=[]) I (AT _ _))))) fun H7 H8 ⟨Y6,q3,W3,A4⟩=>Ah I<|Aa<|Ax<|Am<|Ab (BN (i:=4) (j:=1) (r:=5) I I (by decide))<|Ac I<|Aa<|Bq ?_
 obtain ⟨s3,V1⟩:=AB q3 .d1
 refine Ae<|Ab (AU (i:=5) (j:=8) I I)<|Aa<|Aj<|AG I<|Aq<|Aj<|Av<|Ae<|Ac I<|Ah I<|Aa<|Am<|Ac I<|Ac I<|Ac I<|Ab (FV.mul (i:=8) (j:=5) (r:=40) I I (by decide))<|Ab (FV.shrU (a:=c0) (j:=40) I I)<|Ab (FV.conv8 (a:=shrU c0 40) underlying30 underlying5 I)<|Ao .plain I (AW (α:=UInt8) (xs:=([aq (shrU c0 40)]:Lb UInt8)) (vs:=[.int .u8 ((aq (shrU c0 40)).toNat:Int)]) (ds' :=[.int .u8 ((aq (shrU c0 40)).toNat:Int)]) I s3 br I (e1 I) (by kernel_rfl) I) fun I8 A6 V0 W1=>bk h fun k9 C5 h=>BD .plain I (Bn (α:=UInt8) (ys:=([aq (shrU c0 40)]:Lb UInt8)) C5 V0 (fun _ _=>.t1) br I I (AR A4 (Tt V1 W1)) (BH (α:=UInt8) V0 .hd (AI (cs:=[.int .u8 ((aq (shrU c0 40)).toNat:Int)]) (xs:=(([aq (shrU c0 40)]:Lb UInt8):Lb UInt8)) V0 L (AE (cs:=[.int .u8 ((aq (shrU c0 40)).toNat:Int)]) (ds:=[]) I (AT _ _))))) fun I7 J8 ⟨Z6,t3,X3,B4⟩=>Ah I<|Aa<|Ax<|Am<|Ab (BN (i:=5) (j:=1) (r:=6) I I (by decide))<|Ac I<|Aa<|Bq ?_
 obtain ⟨u3,X1⟩:=AB t3 .d1
 refine Ae<|Ab (AU (i:=6) (j:=8) I I)<|Aa<|Aj<|AG I<|Aq<|Aj<|Av<|Ae<|Ac I<|Ah I<|Aa<|Am<|Ac I<|Ac I<|Ac I<|Ab (FV.mul (i:=8) (j:=6) (r:=48) I I (by decide))<|Ab (FV.shrU (a:=c0) (j:=48) I I)<|Ab (FV.conv8 (a:=shrU c0 48) underlying30 underlying5 I)<|Ao .plain I (AW (α:=UInt8) (xs:=([aq (shrU c0 48)]:Lb UInt8)) (vs:=[.int .u8 ((aq (shrU c0 48)).toNat:Int)]) (ds' :=[.int .u8 ((aq (shrU c0 48)).toNat:Int)]) I u3 br I (e1 I) (by kernel_rfl) I) fun K8 B6 W0 Y1=>bk h fun p9 D5 h=>BD .plain I (Bn (α:=UInt8) (ys:=([aq (shrU c0 48)]:Lb UInt8)) D5 W0 (fun _ _=>.t1) br I I (AR B4 (Tt X1 Y1)) (BH (α:=UInt8) W0 .hd (AI (cs:=[.int .u8 ((aq (shrU c0 48)).toNat:Int)]) (xs:=(([aq (shrU c0 48)]:Lb UInt8):Lb UInt8)) W0 L (AE (cs:=[.int .u8 ((aq (shrU c0 48)).toNat:Int)]) (ds:=[]) I (AT _ _))))) fun J7 M8 ⟨b7,v3,Y3,C4⟩=>Ah I<|Aa<|Ax<|Am<|Ab (BN (i:=6) (j:=1) (r:=7) I I (by decide))<|Ac I<|Aa<|Bq ?_
 obtain ⟨x3,Z1⟩:=AB v3 .d1
 refine Ae<|Ab (AU (i:=7) (j:=8) I I)<|Aa<|Aj<|AG I<|Aq<|Aj<|Av<|Ae<|Ac I<|Ah I<|Aa<|Am<|Ac I<|Ac I<|Ac I<|Ab (FV.mul (i:=8) (j:=7) (r:=56) I I (by decide))<|Ab (FV.shrU (a:=c0) (j:=56) I I)<|Ab (FV.conv8 (a:=shrU c0 56) underlying30 underlying5 I)<|Ao .plain I (AW (α:=UInt8) (xs:=([aq (shrU c0 56)]:Lb UInt8)) (vs:=[.int .u8 ((aq (shrU c0 56)).toNat:Int)]) (ds' :=[.int .u8 ((aq (shrU c0 56)).toNat:Int)]) I x3 br I (e1 I) (by kernel_rfl) I) fun P8 C6 X0 b2=>bk h fun Q5 E5 h=>BD .plain I (Bn (α:=UInt8) (ys:=([aq (shrU c0 56)]:Lb UInt8)) E5 X0 (fun _ _=>.t1) br I I (AR C4 (Tt Z1 b2)) (BH (α:=UInt8) X0 .hd (AI (cs:=[.int .u8 ((aq (shrU c0 56)).toNat:Int)]) (xs:=(([aq (shrU c0 56)]:Lb UInt8):Lb UInt8)) X0 L (AE (cs:=[.int .u8 ((aq (shrU c0 56)).toNat:Int)]) (ds:=[]) I (AT _ _))))) fun F5 Q8 ⟨y2,y3,Z3,D4⟩=>Ah I<|Aa<|Ax<|Am<|Ab (BN (i:=7) (j:=1) (r:=8) I I (by decide))<|Ac I<|Aa<|Bq ?_
 obtain ⟨B2,j1⟩:=AB y3 .d1
 refine Ae<|Ab (AU (i:=8) (j:=8) I I)<|Aa<|Aj<|Bz I<|AZ I<|Ax<|Am<|Ab (Bc (i:=g0) (j:=1) I I (by omega))<|Ac I<|Aa<|A2 (g0 + 1,Q5,F5,y2) B2 (Tt P3 (Tt H1 (Tt Q3 (Tt I1 (Tt J1 (Tt R3 (Tt K1 (Tt M1 (Tt U3 (Tt P1 (Tt Q1 (Tt V3 (Tt R1 (Tt U1 (Tt W3 (Tt V1 (Tt W1 (Tt X3 (Tt X1 (Tt Y1 (Tt Y3 (Tt Z1 (Tt b2 (Tt Z3 j1)))))))))))))))))))))))) (AR D4 j1) h
 refine AZ I ?_
 have h:=J4 _ h
 try dsimp only at h
 refine Ax<|Am<|Ab (BN (i:=1) (j:=1) (r:=2) I I (by decide))<|Ac I<|Aa<|Bq<|Ae<|Ab (AU (i:=2) (j:=2) I I)<|Aa<|Aj<|Bz I<|AZ I<|Aj<|Ae<|Bm 0 I<|Bm 0 I<|Bf I ((eG (v0.memA .t1) 0) 0 _ I)<|Aa<|MX.ifb I h (fun k2 h=>?_) (fun k2 h=>?_)
 refine Am<|Ac I<|Ao .plain I (jA 45 (.int .u8 45) v0 br (e1 I)) fun K7 Z5 z0 z3=>bk h fun J5 c5 h=>BD .plain I (Bn (α:=UInt8) (ys:=([45]:Lb UInt8)) c5 z0 (fun _ _=>.t1) br I I (AR Y0 z3) (BH (α:=UInt8) z0 .hd (jC 45 (.int .u8 45) z0 L I))) fun u7 M7 ⟨H6,b1,c7,b4⟩=>Ah I<|Aa<|Ae<|Ac I<|Ab (FV.bytesS (xs:=J5) underlying63 underlying9 underlying5 I (BH (α:=UInt8) b1 .t1 b4))<|Ah I<|Aa<|Ar I<|Bb hb0 func85 I I ?_
 cases h
 exact b1.gv
 refine Aq<|Ae<|Ac I<|Ab (FV.bytesS (xs:=j0) underlying63 underlying9 underlying5 I (BH (α:=UInt8) v0 .hd Y0))<|Ah I<|Aa<|Ar I<|Bb hb0 func85 I I ?_
 cases h
 exact v0.gv

def cQ_l1 (n:Nat) (a1:Lb Ta) (t0:Ta) (k0:Nat × (Lb (ByteArray × Bool)) × Bool × (Lb (Tb × Td)) -> Oa ((Lb (ByteArray × Bool)) × Bool × (Lb (Tb × Td)))):Nat × (Lb (ByteArray × Bool)) × Bool × (Lb (Tb × Td)) -> Oa ((Lb (ByteArray × Bool)) × Bool × (Lb (Tb × Td)))
  | (c0,g0,p0,b0)=>(if c0 < a1.length then (a1[c0]?).bind fun u0=>(ak_p n t0.fm).bind fun x0=>(ak_p n u0.fm).bind fun y0=>(aa_p n x0 y0).bind fun q0=>(ac_p n q0).bind fun z0=>jn (fun j0=>(bn_p n t0).bind fun A0=>(bn_p n u0).bind fun B0=>(ax_p n A0 B0).bind fun v0=>(ac_p n q0).bind fun d0=>(if d0.2 = 0 then ew (bD b0 d0.1) (k0 (c0 + 1,j0,p0,aC b0 d0.1 v0)) (fun C0=>(aa_p n v0 C0).bind fun D0=>k0 (c0 + 1,j0,p0,aC b0 d0.1 D0)) else k0 (c0 + 1,j0,true,b0))) (fun s0=>(if z0.2 = 0 then s0 g0 else (cP_p n q0).bind fun E0=>s0 (aC g0 E0 true))) else some (g0,p0,b0))
def cX (n:Nat) (c0:Tb × Td) (g0:(Lb Ta) × Bool -> Oa ((Lb Ta) × Int)):(Lb Ta) × Bool -> Oa ((Lb Ta) × Int)
  | (p0,j0)=>(ac_p n c0.2).bind fun d0=>jn (fun k0=>(app p0 ([(⟨c0.1,d0.1⟩:Ta)]:Lb Ta)).bind fun q0=>g0 (q0,k0)) (fun b0=>(if d0.2 = 0 then b0 j0 else b0 true))
def cQ_l2 (n:Nat) (a0:Lb Ta) (a1:Lb Ta) (p0:Nat × (Lb (ByteArray × Bool)) × Bool × (Lb (Tb × Td)) -> Oa ((Lb (Tb × Td)) × (Lb (ByteArray × Bool)) × Bool)):Nat × (Lb (ByteArray × Bool)) × Bool × (Lb (Tb × Td)) -> Oa ((Lb (Tb × Td)) × (Lb (ByteArray × Bool)) × Bool)
  | (b0,c0,g0,d0)=>(if b0 < a0.length then (a0[b0]?).bind fun s0=>Option.bind (ao (cQ_l1 n a1 s0) n (0,c0,g0,d0)) (fun (j0,q0,k0)=>p0 (b0 + 1,j0,q0,k0)) else some (d0,c0,g0))
def cQ_p (n:Nat) (a0:Lb Ta) (a1:Lb Ta):Oa ((Lb Ta) × Int):=
  (ar_p n ([a0,a1]:Lb (Lb Ta)) ([]:Lb Tb)).bind fun d0=>(if d0 = 0 then Option.bind (ao (cQ_l2 n a0 a1) n (0,([]:Lb (ByteArray × Bool)),false,([]:Lb (Tb × Td)))) (fun (b0,g0,j0)=>(chk (((b0.length:Nat):Int) + ((g0.length:Nat):Int))).bind fun p0=>(if 400 < p0 then some (([]:Lb Ta),(3:Int)) else (if 400 < b0.length then some (([]:Lb Ta),(3:Int)) else mloop (fun (c0,k0)=>(if k0 = true then some (([]:Lb Ta),(6:Int)) else (bP_p n (ae ((c0.length:Nat):Int))).bind fun s0=>(gM (fun x9 y9=>aj_p n x9 y9) s0 c0).bind fun q0=>some (q0,(0:Int)))) (cX n) n b0 (([]:Lb Ta),j0)))) else some (([]:Lb Ta),d0))
theorem cQ_c (n:Nat) {L w} (hL:hl L w) {a0:Lb Ta} {v0_0:Vc} (h0_0:Rep.R w L [v0_0] a0) {a1:Lb Ta} {v1_0:Vc} (h1_0:Rep.R w L [v1_0] a1)  {r:(Lb Ta) × Int} (h:cQ_p n a0 a1 = some r) :
 Cl 24 #[v0_0,v1_0] w (aj w fun w' u=>∃ v0_0:Vc,u = .tuple #[v0_0,vI r.2]/\Rep.R w' L [v0_0] r.1):=by
 unfold cQ_p at h
 refine AM func24 I I I fun _ cs0 hb0=>Ae<|Ah I<|Ah I<|Aa<|Aj<|Ae<|Ac I<|Ac I ?_
 obtain ⟨A11,c12,A00,_⟩:=Bl h0_0
 obtain ⟨A14,c15,B00,_⟩:=Bl h1_0
 refine Ao .plain I (AW (α:=Lb Ta) (xs:=([a0,a1]:Lb (Lb Ta))) (vs:=[v0_0,v1_0]) (ds' :=[v0_0,v1_0]) I (AL w) me I (e2 I I) (by rw [A00,B00]; try kernel_rfl) I) fun w17 I0 p1 z02=>bk h fun k6 U00 h=>Bd (vI k6) (bd 63) I (e2 I I) (fun w9 hw9=>ar_c n (p1.hL0 hL hw9) (Af (St.lend (α:=Lb Ta) (L:=L) p1 .hd (AI (cs:=[v0_0,v1_0]) (xs:=(([a0,a1]:Lb (Lb Ta)):Lb (Lb Ta))) p1 L (AE (cs:=[v0_0]) (ds:=[v1_0]) (AH h0_0 p1) (AE (cs:=[v1_0]) (ds:=[]) (AH h1_0 p1) (AT _ _)))) hL) hw9) (Af (Rep.nilSlice _ _) hw9) U00) I<|Ah I<|Aa<|Ae<|Ac I<|Ab (BA (i:=k6) (j:=0) I I)<|Aa<|BI I h (fun A6 h=>?_) (fun A6 h=>?_)
 refine Aq<|Ae<|Ao .plain I (Does.makeMap (κ:=Tb) (ν:=Lb Vc) p1) fun w27 b0 V4 I02=>Ab (AS (vs:=[.map (some b0)]) (u:=.agg #[.map (some b0),.bool false]) (e1 I) (fun w9=>by kernel_rfl))<|RG.bx V4 I I fun w33 c0 R7 U8=>RG.nl [.pointer none] R7 fun w38 x0 U7 V8=>AQ [vP c0] U7 .hd (o1 I) fun w42 V7 W8=>Aa<|Ae<|Ao .plain I (Does.makeMap (κ:=ByteArray) (ν:=Bool) V7) fun w46 d0 W7 X8=>RG.nl [.map none] W7 fun w51 D0 X7 Y8=>AQ [.map (some d0)] X7 .hd (o1 I) fun w55 W4 Z8=>Aa<|Aj<|Ae<|Ac I<|Ac I<|BE (fst:=[]) (cap:=[]) (vs:=[v0_0,v1_0]) .plain (bd 84) func84 I I I I (e2 I I) I fun x02 u9 W02=>Ae<|RG.bx W4 I (Rep.c1 (AH h0_0 W4)) fun w63 q0 X4 b9=>?_
 refine RG.bx X4 I (Rep.c1 (AH h1_0 X4)) fun w69 k0 Y7 c9=>Ah I<|Aa<|Ae<|Ab (FV.makeFunc (vs:=[]) (us:=[vP q0,vP k0]) am (e2 I I))<|Ah I<|Aa<|Ar I<|Au (u:=.func (.func 142) #[] #[vP q0,vP k0]) u9 func84 I (.cons (.tmp I) .nil) I<|Aa<|Av<|MX.rangeP (lb:=[vP q0,vP k0]) I Y7 I (bd 142) func142 I I I fun w73 b1 H0 A1 y02 d4 d9 V00 v9 X02=>Ae<|Bf I ((d4.memA .t3) 0 _ I) ?_
 have v5:=AH h0_0 d4
 have M02:=AY v5
 refine Ab (Ba (xs:=a0) underlying24 I v5)<|Ac I<|Aa<|Av ?_
 obtain ⟨Y02,W9,F9⟩:=ap h
 refine BP (α:=Nat × (Lb (ByteArray × Bool)) × Bool × (Lb (Tb × Td)) × (Lb (Tb × Lb Vc))) (fun ⟨U0,u0,g1,V0,g0⟩=>[(0,.func (.yield b1) #[] #[]),(2,vP k0),(8,v0_0),(9,vn a0.length),(10,vn U0)]) (fun ⟨U0,u0,g1,V0,g0⟩=>[.obj b1 (lpO A1 .ready none),.obj H0 (.deferred (some [])),.cells k0 [v1_0] 24,.cells q0 [v0_0] 24,.cells D0 [.map (some d0)] 127,.obj d0 (aA (u0:Lb (ByteArray × Bool))),.cells x0 [vP c0] 122,.cells c0 [.map (some b0),.bool g1] 126,.obj b0 (aA g0),rr w 24 (Lb Ta) (vS I0 2) (([a0,a1]:Lb (Lb Ta)).length) [v0_0,v1_0]]) (fun ⟨U0,u0,g1,V0,g0⟩ c6=>MR c6 (bl [.obj b1 (lpO A1 .ready none),.obj H0 (.deferred (some [])),.cells k0 [v1_0] 24,.cells q0 [v0_0] 24,.cells D0 [.map (some d0)] 127,.obj d0 (aA (u0:Lb (ByteArray × Bool))),.cells x0 [vP c0] 122,.cells c0 [.map (some b0),.bool g1] 126,.obj b0 (aA g0),rr w 24 (Lb Ta) (vS I0 2) (([a0,a1]:Lb (Lb Ta)).length) [v0_0,v1_0]] ++ L) g0 V0) (fun ⟨U0,u0,g1,V0,g0⟩=>(U0,u0,g1,V0)) (0,([]:Lb (ByteArray × Bool)),false,([]:Lb (Tb × Td)),([]:Lb (Tb × Lb Vc))) W9 d4 (BO (MR.at_ (Z:=([]:Lb (Tb × Lb Vc))) (M:=([]:Lb (Tb × Td))) V4 L trivial) (Tt U8 (Tt V8 (Tt W8 (Tt X8 (Tt Y8 (Tt Z8 (Tt b9 (Tt c9 d9))))))))) ?_
 rintro E01 ⟨U0,u0,g1,V0,g0⟩ c6 C6 K3 Z7 z4 h
 unfold cQ_l2 at h
 try dsimp only at h
 refine Ae<|Ab (AU (i:=U0) (j:=a0.length) I I)<|Aa<|Aj<|AV I h (fun p6 h=>?_) (fun p6 h=>?_)
 refine Aq<|Aj<|Av<|Ae<|bk h fun p0 C00 h=>?_
 obtain ⟨A01,Z01,C9,I9,g02,Z9,P9⟩:=Bh (AH h0_0 K3) C00
 obtain rfl:=aF Z9
 refine Ab (Be 32 U0 I C9 I I I9)<|Ab (Az I P9)<|RG.nl [vW 0,vW 0,vW 0,vW 0,vW 0,vW 0,vW 0,vW 0,vW 0,vW 0,vW 0,vW 0,vW 0,vW 0,vW 0,vW 0,vW 0,vW 0,vW 0,vW 0,vW 0,vW 0,vW 0,vW 0,vW 0,vW 0,vW 0,vW 0,vW 0,vW 0,vW 0,vW 0] K3 fun t03 D1 E6 Y4=>AQ (av p0) E6 .hd (ai I) fun u03 M3 Z4=>Aa<|Ae<|Bf I ((M3.memA .t3) 0 _ I) ?_
 have s5:=AH h1_0 M3
 have J02:=AY s5
 refine Ab (Ba (xs:=a1) underlying24 I s5)<|Ac I<|Aa<|Av ?_
 obtain ⟨Z02,X9,G9⟩:=ap h
 refine BP (α:=Nat × (Lb (ByteArray × Bool)) × Bool × (Lb (Tb × Td)) × (Lb (Tb × Lb Vc))) (fun ⟨F0,G0,A0,W0,v0⟩=>[(0,.func (.yield b1) #[] #[]),(2,vP k0),(8,v0_0),(9,vn a0.length),(10,vn U0),(5,vP D1),(14,v1_0),(15,vn a1.length),(16,vn F0)]) (fun ⟨F0,G0,A0,W0,v0⟩=>[.cells D1 (av p0) 37,.obj b1 (lpO A1 .ready none),.obj H0 (.deferred (some [])),.cells k0 [v1_0] 24,.cells q0 [v0_0] 24,.cells D0 [.map (some d0)] 127,.obj d0 (aA (G0:Lb (ByteArray × Bool))),.cells x0 [vP c0] 122,.cells c0 [.map (some b0),.bool A0] 126,.obj b0 (aA v0),rr w 24 (Lb Ta) (vS I0 2) (([a0,a1]:Lb (Lb Ta)).length) [v0_0,v1_0]]) (fun ⟨F0,G0,A0,W0,v0⟩ d6=>MR d6 (bl [.cells D1 (av p0) 37,.obj b1 (lpO A1 .ready none),.obj H0 (.deferred (some [])),.cells k0 [v1_0] 24,.cells q0 [v0_0] 24,.cells D0 [.map (some d0)] 127,.obj d0 (aA (G0:Lb (ByteArray × Bool))),.cells x0 [vP c0] 122,.cells c0 [.map (some b0),.bool A0] 126,.obj b0 (aA v0),rr w 24 (Lb Ta) (vS I0 2) (([a0,a1]:Lb (Lb Ta)).length) [v0_0,v1_0]] ++ L) v0 W0) (fun ⟨F0,G0,A0,W0,v0⟩=>(F0,G0,A0,W0)) (0,u0,g1,V0,g0) X9 M3 (BO z4 (Tt Y4 Z4)) ?_
 rintro F01 ⟨F0,G0,A0,W0,v0⟩ d6 J3 P3 c3 P2 h
 unfold cQ_l1 at h
 try dsimp only at h
 refine Ae<|Ab (AU (i:=F0) (j:=a1.length) I I)<|Aa<|Aj<|AV I h (fun q6 h=>?_) (fun q6 h=>?_)
 refine Aq<|Aj<|Av<|Ae<|bk h fun s0 D00 h=>?_
 obtain ⟨C01,c02,D9,J9,j02,b00,Q9⟩:=Bh (AH h1_0 P3) D00
 obtain rfl:=aF b00
 refine Ab (Be 32 F0 I D9 I I J9)<|Ab (Az I Q9)<|RG.nl [vW 0,vW 0,vW 0,vW 0,vW 0,vW 0,vW 0,vW 0,vW 0,vW 0,vW 0,vW 0,vW 0,vW 0,vW 0,vW 0,vW 0,vW 0,vW 0,vW 0,vW 0,vW 0,vW 0,vW 0,vW 0,vW 0,vW 0,vW 0,vW 0,vW 0,vW 0,vW 0] P3 fun x03 X2 F6 g3=>AQ (av s0) F6 .hd (ai I) fun y03 Z2 j3=>Aa<|Ae<|Ac I<|Ab (Az I (Z2.memA .t1))<|Ab (Az I (Z2.memA .hd))<|RG.yieldP (fd:=24) (vs:=[.agg ((av p0)).toArray,.agg ((av s0)).toArray]) .plain I (e2 I I) Z2 .t2 V00 I I I fun k02 q4 P02=>Ae<|RG.nl [vW 0,vW 0,vW 0,vW 0,vW 0,vW 0,vW 0,vW 0,vW 0,vW 0,vW 0,vW 0,vW 0,vW 0,vW 0,vW 0,vW 0,vW 0,vW 0,vW 0,vW 0,vW 0,vW 0,vW 0,vW 0,vW 0,vW 0,vW 0,vW 0,vW 0,vW 0,vW 0] Z2 fun z03 K1 G6 k3=>AQ (av p0) G6 .hd (ai I) fun A03 H6 p3=>Aa<|Am<|RG.nl [vW 0,vW 0,vW 0,vW 0,vW 0,vW 0,vW 0,vW 0,vW 0,vW 0,vW 0,vW 0,vW 0,vW 0,vW 0,vW 0,vW 0,vW 0,vW 0,vW 0,vW 0,vW 0,vW 0,vW 0,vW 0,vW 0,vW 0,vW 0,vW 0,vW 0,vW 0,vW 0] H6 fun B03 M1 I6 q3=>AQ (av s0) I6 .hd (ai I) fun C03 J6 s3=>Aa<|MX.begin J6 .t4 fun D03 P1 u3=>Av<|Aj<|du 8 fun j0 B3=>Rv 0 j0 I B3 (fun _=>Bg 0 I)<|Rx 1 356 j0 I B3 (AN (cs:=(ab p0.fm)) I I (ac (P1.memA .t1) 0 16))<|Rv 3 j0 I B3 (fun _=>Bg 0 I)<|Rx 4 352 j0 I B3 (AN (cs:=(ab s0.fm)) I I (ac (P1.memA .hd) 0 16))<|bk h fun G3 Q5 h=>bk h fun H3 y4 h=>?_
 refine bk h fun K0 A3 h=>RD.mf (α:=Vc × Vc × Nat) (fun ⟨B1,C1,j1⟩=>[(7,vP x0),(8,vP D0),(9,vP K1),(10,vP M1),(36,.agg #[.bool K0.fj.fc,B1,.bool K0.fh.fc,C1]),(11,vP j1)]) (fun ⟨B1,C1,j1⟩=>[.cells j1 [.bool false,vN,.bool false,vN] 109,.cells M1 (av s0) 37,.cells K1 (av p0) 37,.cells X2 (av s0) 37,.cells D1 (av p0) 37,.obj b1 (lpO A1 .busy none),.obj H0 (.deferred (some [])),.cells k0 [v1_0] 24,.cells q0 [v0_0] 24,.cells D0 [.map (some d0)] 127,.obj d0 (aA (G0:Lb (ByteArray × Bool))),.cells x0 [vP c0] 122,.cells c0 [.map (some b0),.bool A0] 126,.obj b0 (aA v0),rr w 24 (Lb Ta) (vS I0 2) (([a0,a1]:Lb (Lb Ta)).length) [v0_0,v1_0]]) (fun ⟨B1,C1,j1⟩ D4=>Rep.R D4 (bl [.cells j1 [.bool false,vN,.bool false,vN] 109,.cells M1 (av s0) 37,.cells K1 (av p0) 37,.cells X2 (av s0) 37,.cells D1 (av p0) 37,.obj b1 (lpO A1 .busy none),.obj H0 (.deferred (some [])),.cells k0 [v1_0] 24,.cells q0 [v0_0] 24,.cells D0 [.map (some d0)] 127,.obj d0 (aA (G0:Lb (ByteArray × Bool))),.cells x0 [vP c0] 122,.cells c0 [.map (some b0),.bool A0] 126,.obj b0 (aA v0),rr w 24 (Lb Ta) (vS I0 2) (([a0,a1]:Lb (Lb Ta)).length) [v0_0,v1_0]] ++ L) [B1] K0.fj.fk/\Rep.R D4 (bl [.cells j1 [.bool false,vN,.bool false,vN] 109,.cells M1 (av s0) 37,.cells K1 (av p0) 37,.cells X2 (av s0) 37,.cells D1 (av p0) 37,.obj b1 (lpO A1 .busy none),.obj H0 (.deferred (some [])),.cells k0 [v1_0] 24,.cells q0 [v0_0] 24,.cells D0 [.map (some d0)] 127,.obj d0 (aA (G0:Lb (ByteArray × Bool))),.cells x0 [vP c0] 122,.cells c0 [.map (some b0),.bool A0] 126,.obj b0 (aA v0),rr w 24 (Lb Ta) (vS I0 2) (([a0,a1]:Lb (Lb Ta)).length) [v0_0,v1_0]] ++ L) [C1] K0.fh.fk) P1 1 255 ?_ ?_
 rintro ⟨B1,C1,j1⟩ D4 M6 v3 ⟨y3,z3⟩
 try dsimp only
 refine BB 8 511 j0 I I .plain (AC (news:=[.bool K0.fj.fc,B1,.bool K0.fh.fc,C1]) M6 .hd I I I I I I (o4 I (Ay y3) I (Ay z3))) fun F03 j2 z1=>AK (dk j0)<|Aj<|Ae<|Ab (Az I (j2.memA .hd))<|bk h fun I3 G00 h=>Bd (.tuple #[.agg ((ab I3.1)).toArray,vI I3.2]) (bd 77) I (e1 I) (fun w9 hw9=>ac_c n (j2.hL0 hL hw9) K0 (j2.kd (Ag y3 z1) hw9) (j2.kd (Ag z3 z1) hw9) G00) I<|Ac I<|Ab (Ai I I)<|Ab (Ai I I)<|RG.nl zL j2 fun G03 J01 P6 V1=>AQ (ab I3.1) P6 .hd (ai I) fun H03 y1 W1=>Ah I<|Aa<|Ae<|Ac I<|Ab (BA (i:=I3.2) (j:=0) I I)<|Aa<|MX.jo (α:=(Lb (ByteArray × Bool))) (fun v1=>[(7,vP x0),(9,vP K1),(10,vP M1),(11,vP j1)]) (fun v1=>[.cells j1 [.bool K0.fj.fc,B1,.bool K0.fh.fc,C1] 109,.cells M1 (av s0) 37,.cells K1 (av p0) 37,.cells X2 (av s0) 37,.cells D1 (av p0) 37,.obj b1 (lpO A1 .busy none),.obj H0 (.deferred (some [])),.cells k0 [v1_0] 24,.cells q0 [v0_0] 24,.cells D0 [.map (some d0)] 127,.obj d0 (aA (v1:Lb (ByteArray × Bool))),.cells x0 [vP c0] 122,.cells c0 [.map (some b0),.bool A0] 126,.obj b0 (aA v0),rr w 24 (Lb Ta) (vS I0 2) (([a0,a1]:Lb (Lb Ta)).length) [v0_0,v1_0]]) (fun v1=>v1) y1 h ?_ ?_
 rintro v1 Z04 R1 x2 h
 try dsimp only at h
 refine du 7 fun P0 C3=>Rx 0 128 P0 I C3 (Bp I ((R1.memA .t11) 0 _ I))<|Rx 1 128 P0 I C3 (Az I (R1.memA .hd))<|Rx 2 232 P0 I C3 (Az I (R1.memA .t2))<|Rx 4 224 P0 I C3 (Az I (R1.memA .t1))<|bk h fun x01 H00 h=>AX 3 31 P0 I .plain (bd 66) I (e1 I) (fun w9 hw9=>bn_c n (R1.hL hL hw9) p0 H00) I fun I03 k03 j9 ⟨b03,c03,hu_,g00,j00⟩=>?_
 subst hu_
 obtain ⟨K4,y2⟩:=R1.agr j9
 refine bk h fun y01 I00 h=>AX 5 63 P0 I .plain (bd 66) I (e1 I) (fun w9 hw9=>bn_c n (K4.hL hL hw9) s0 I00) I fun J03 p03 k9 ⟨d03,g03,hu_,k00,p00⟩=>?_
 subst hu_
 obtain ⟨M4,G1⟩:=K4.agr k9
 refine bk h fun B0 J00 h=>AX 6 127 P0 I .plain (bd 80) I (e2 I I) (fun w9 hw9=>ax_c n (M4.hL hL hw9) x01 (Af (Ag g00 G1) hw9) (Af (Ag j00 G1) hw9) y01 (Af k00 hw9) (Af p00 hw9) J00) I fun K03 q03 p9 ⟨V2,W2,hu_,F5,G5⟩=>?_
 subst hu_
 obtain ⟨Q6,z2⟩:=M4.agr p9
 refine BK (i:=7) (rk P0) (RO.enterPT (m' :=255) (fst:=[]) (cap:=[]) (vs:=[vP c0,.agg #[.bool K0.fj.fc,B1,.bool K0.fh.fc,C1],.agg #[.bool B0.fj.fc,V2,.bool B0.fh.fc,W2]]) (sk P0) I I .plain (bd 86) func86 I I I I (e3 I I I) I (fun _ p02 s4 Q02=>?_))
 refine Ae<|RG.bx Q6 I I fun M03 K01 R6 H1=>RG.bx R6 I I fun P03 M01 k2 I1=>Aa<|Ae<|Ab (Az I (k2.memA .t1))<|bk h fun t0 K00 h=>?_
 have x5:=Tt z1 (Tt V1 (Tt W1 (Tt x2 (Tt y2 (Tt G1 (Tt z2 (Tt H1 I1)))))))
 refine Bd (.tuple #[.agg ((ab t0.1)).toArray,vI t0.2]) (bd 77) I (e1 I) (fun w9 hw9=>ac_c n (k2.hL0 hL hw9) K0 (k2.kd (Ag y3 x5) hw9) (k2.kd (Ag z3 x5) hw9) K00) I<|Ac I<|Ab (Ai I I)<|Ab (Ai I I)<|RG.nl zL k2 fun Q03 P01 U6 X1=>AQ (ab t0.1) U6 .hd (ai I) fun R03 p2 Y1=>Ah I<|Aa<|Aj<|Ae<|Ac I<|Ab (BA (i:=t0.2) (j:=0) I I)<|Aa<|BI I h (fun s6 h=>?_) (fun s6 h=>?_)
 refine Aq<|du 6 fun Y0 c2=>Rv 0 Y0 I c2 (fun _=>Al I)<|Rv 1 Y0 I c2 (fun _=>By I)<|Rv 2 Y0 I c2 (fun _=>Bg 0 I)<|Rx 3 64 Y0 I c2 (Bp I ((p2.memA (.tl (.tl (.tl (.tl (.tl (.tl (.tl (.tl (.tl (.tl (.tl (.tl (.tl (.tl (.tl .hd)))))))))))))))) 0 _ I))<|Rx 4 64 Y0 I c2 (Az I (p2.memA .hd))<|Rx 5 64 Y0 I c2 (Az I (p2.memA .t1))<|BK (i:=6) (rk Y0) (RO.enterPT (m' :=127) (fst:=[]) (cap:=[]) (vs:=[.map (some b0),.agg ((ab t0.1)).toArray,.agg #[.bool B0.fj.fc,V2,.bool B0.fh.fc,W2]]) (sk Y0) I I .plain (bd 88) func88 I I I I (e3 I I I) I (fun _ q02 p5 R02=>?_))
 refine Ae<|RG.bx p2 I I fun U03 Q01 V6 A2=>RG.bx V6 I I fun V03 R01 q2 B2=>Aa<|Aj<|Ae<|Ac I<|Ab (Az I (q2.memA .t1)) ?_
 have x4:=Tt g3 (Tt j3 (Tt k3 (Tt p3 (Tt q3 (Tt s3 (Tt u3 (Tt v3 (Tt z1 (Tt V1 (Tt W1 (Tt x2 (Tt y2 (Tt G1 (Tt z2 (Tt H1 (Tt I1 (Tt X1 (Tt Y1 (Tt A2 B2)))))))))))))))))))
 have R9:=BO P2 x4
 rcases MR.get t0.1 R9 with ⟨v4,A4⟩ | ⟨s02,E4,A4,v4,q00⟩
 have h:=dp h v4
 refine Ab (FV.lookupK (kv:=t0.1) (q:=false) ar q2 (.tl (.tl (.tl (.tl (.tl (.tl (.tl (.tl (.tl (.tl (.tl (.tl (.tl (.tl (.tl (.tl (.tl (.tl .hd)))))))))))))))))) underlying124 (z:=.agg #[.bool false,vN,.bool false,vN]) I I I (.inl ⟨A4,I,I⟩))<|Ac I<|Ab (Ai I I)<|Ab (Ai I I)<|RG.nl [.bool false,vN,.bool false,vN] q2 fun W03 U01 W6 g4=>AQ [.bool false,vN,.bool false,vN] W6 .hd (ai I) fun X03 Q3 j4=>Ah I<|Aa<|Ae<|Ac I<|Aa<|Bz I<|Aq<|Am<|Ac I<|Ab (Az I (Q3.memA .t2))<|Ab (Az I (Q3.memA .t1)) ?_
 have y5:=Tt H1 (Tt I1 (Tt X1 (Tt Y1 (Tt A2 (Tt B2 (Tt g4 j4))))))
 refine RG.now .plain (BL (kv:=t0.1) (vv:=[.bool B0.fj.fc,V2,.bool B0.fh.fc,W2]) ar Q3 (.tl (.tl (.tl (.tl (.tl (.tl (.tl (.tl (.tl (.tl (.tl (.tl (.tl (.tl (.tl (.tl (.tl (.tl (.tl .hd))))))))))))))))))) underlying124 I I I) fun Y03 X6 c8=>Aa<|MX.fin I<|Au (u:=.tuple #[]) p5 func88 I .nil I<|AK (dk Y0)<|MX.fin I<|Au (u:=.tuple #[]) s4 func86 I .nil I<|AK (dk P0)<|Ax<|MX.roundEnd q4 X6 .t11 fun Z03 Y6 d8=>Ab (Bx I)<|Aa<|Bz I<|Aq<|Ax<|Am<|Ab (Bc (i:=F0) (j:=1) I I (by omega))<|Ac I<|Aa ?_
 obtain ⟨Z6,g8⟩:=AB Y6 .d10
 have z5:=Tt c8 (Tt d8 g8)
 exact J3 (F0 + 1,v1,A0,aC W0 t0.1 B0,(aC v0 t0.1 [.bool B0.fj.fc,V2,.bool B0.fh.fc,W2])) Z6 (Tt c3 (Tt g3 (Tt j3 (Tt k3 (Tt p3 (Tt q3 (Tt s3 (Tt u3 (Tt v3 (Tt z1 (Tt V1 (Tt W1 (Tt x2 (Tt y2 (Tt G1 (Tt z2 (Tt H1 (Tt I1 (Tt X1 (Tt Y1 (Tt A2 (Tt B2 (Tt g4 (Tt j4 z5)))))))))))))))))))))))) (BO (MR.set (k:=t0.1) (c:=[.bool B0.fj.fc,V2,.bool B0.fh.fc,W2]) (y:=B0) (cG B0.fj (Ag F5 y5) B0.fh (Ag G5 y5)) (BO P2 (Tt x4 (Tt g4 j4)))) z5) h
 have h:=cZ h v4
 obtain ⟨d01,g01,rfl,H5,I5⟩:=cQ q00
 refine Ab (FV.lookupK (kv:=t0.1) (q:=true) ar q2 (.tl (.tl (.tl (.tl (.tl (.tl (.tl (.tl (.tl (.tl (.tl (.tl (.tl (.tl (.tl (.tl (.tl (.tl .hd)))))))))))))))))) underlying124 (z:=.agg #[.bool false,vN,.bool false,vN]) I I I (.inr ⟨_,A4,I,I⟩))<|Ac I<|Ab (Ai I I)<|Ab (Ai I I)<|RG.nl [.bool false,vN,.bool false,vN] q2 fun b04 V01 b7 J1=>AQ [.bool E4.fj.fc,d01,.bool E4.fh.fc,g01] b7 .hd (o4 I (Ay (Ag H5 J1)) I (Ay (Ag I5 J1))) fun c04 b3 C2=>Ah I<|Aa<|Ae<|Ac I<|Aa<|AG I<|Am<|Ab (Az I (b3.memA .t1))<|Ab (Az I (b3.memA .hd))<|bk h fun R0 M00 h=>?_
 have A5:=Tt H1 (Tt I1 (Tt X1 (Tt Y1 (Tt A2 (Tt B2 (Tt J1 C2))))))
 refine jE (bd 81) I (e2 I I) (fun w9 hw9=>aa_c n (b3.hL hL hw9) B0 (Af (Ag F5 A5) hw9) (Af (Ag G5 A5) hw9) E4 (Af (Ag H5 (Tt J1 C2)) hw9) (Af (Ag I5 (Tt J1 C2)) hw9) M00) I fun d04 s03 q9 ⟨D3,E3,hu_,J5,K5⟩=>?_
 subst hu_
 obtain ⟨c7,b5⟩:=b3.agr q9
 refine AQ [.bool R0.fj.fc,D3,.bool R0.fh.fc,E3] c7 .t1 (o4 I (Ay J5) I (Ay K5)) fun g04 R3 x3=>Aa<|Am<|Ac I<|Ab (Az I (R3.memA .t2))<|Ab (Az I (R3.memA .t1))<|RG.now .plain (BL (kv:=t0.1) (vv:=[.bool R0.fj.fc,D3,.bool R0.fh.fc,E3]) ar R3 (.tl (.tl (.tl (.tl (.tl (.tl (.tl (.tl (.tl (.tl (.tl (.tl (.tl (.tl (.tl (.tl (.tl (.tl (.tl .hd))))))))))))))))))) underlying124 I I I) fun j04 g7 j8=>Aa<|MX.fin I<|Au (u:=.tuple #[]) p5 func88 I .nil I<|AK (dk Y0)<|MX.fin I<|Au (u:=.tuple #[]) s4 func86 I .nil I<|AK (dk P0)<|Ax<|MX.roundEnd q4 g7 .t11 fun k04 j7 k8=>Ab (Bx I)<|Aa<|Bz I<|Aq<|Ax<|Am<|Ab (Bc (i:=F0) (j:=1) I I (by omega))<|Ac I<|Aa ?_
 obtain ⟨k7,p8⟩:=AB j7 .d10
 have B5:=Tt j8 (Tt k8 p8)
 exact J3 (F0 + 1,v1,A0,aC W0 t0.1 R0,(aC v0 t0.1 [.bool R0.fj.fc,D3,.bool R0.fh.fc,E3])) k7 (Tt c3 (Tt g3 (Tt j3 (Tt k3 (Tt p3 (Tt q3 (Tt s3 (Tt u3 (Tt v3 (Tt z1 (Tt V1 (Tt W1 (Tt x2 (Tt y2 (Tt G1 (Tt z2 (Tt H1 (Tt I1 (Tt X1 (Tt Y1 (Tt A2 (Tt B2 (Tt J1 (Tt C2 (Tt b5 (Tt x3 B5)))))))))))))))))))))))))) (BO (MR.set (k:=t0.1) (c:=[.bool R0.fj.fc,D3,.bool R0.fh.fc,E3]) (y:=R0) (cG R0.fj (Ag J5 x3) R0.fh (Ag K5 x3)) (BO P2 (Tt x4 (Tt J1 (Tt C2 (Tt b5 x3)))))) B5) h
 refine Ae<|Ac I<|Ab (By I)<|Bm 1 I<|RG.now .plain (BU (j:=1) (old:=[.map (some b0),.bool A0]) (news:=[.bool true]) (new' :=[.map (some b0),.bool true]) p2 (.tl (.tl (.tl (.tl (.tl (.tl (.tl (.tl (.tl (.tl (.tl (.tl (.tl (.tl (.tl .hd))))))))))))))) I I I I I I (o1 I) I) fun p04 p7 q8=>Aa<|Ar I<|Au (u:=.tuple #[]) s4 func86 I .nil I<|AK (dk P0)<|Ax<|MX.roundEnd q4 p7 .t8 fun q04 q7 s8=>Ab (Bx I)<|Aa<|Bz I<|Aq<|Ax<|Am<|Ab (Bc (i:=F0) (j:=1) I I (by omega))<|Ac I<|Aa ?_
 obtain ⟨s7,u8⟩:=AB q7 .d7
 have C5:=Tt g3 (Tt j3 (Tt k3 (Tt p3 (Tt q3 (Tt s3 (Tt u3 (Tt v3 (Tt z1 (Tt V1 (Tt W1 (Tt x2 (Tt y2 (Tt G1 (Tt z2 (Tt H1 (Tt I1 (Tt X1 (Tt Y1 (Tt q8 (Tt s8 u8))))))))))))))))))))
 exact J3 (F0 + 1,v1,true,W0,v0) s7 (Tt c3 C5) (BO P2 C5) h
 intro G01 I4 h
 try dsimp only at h
 refine BI I h (fun u6 h=>?_) (fun u6 h=>?_)
 refine Aq ?_
 obtain ⟨u7,v8⟩:=AB y1 .d1
 exact I4 G0 u7 v8 h
 refine du 3 fun Q2 B4=>Rx 0 8 Q2 I B4 (Bp I ((y1.memA .t10) 0 _ I))<|Rx 1 12 Q2 I B4 (Az I (y1.memA .t1))<|bk h fun F4 P00 h=>?_
 have D5:=Tt z1 (Tt V1 W1)
 refine RD.cq 2 7 8 (.string F4) Q2 I B4 (bd 85) I (e1 I) (fun w9 hw9=>cP_c n (y1.hL0 hL hw9) K0 (y1.kd (Ag y3 D5) hw9) (y1.kd (Ag z3 D5) hw9) P00) I<|BB 3 15 Q2 I I .plain (Acts.mapUpdate (kv:=F4) (vv:=true) y1 .t11 underlying127 underlying9 I I I I) fun s04 v7 x8=>AK (dk Q2) ?_
 obtain ⟨x7,y8⟩:=AB v7 .d1
 exact I4 (aC G0 F4 true) x7 (Tt x8 y8) h
 intro Y2
 refine BJ [2,7] (rk j0) ⟨?_,?_,trivial⟩
 refine BX (m' :=31) (fst:=[]) (cap:=[]) (sk j0) I .plain (bd 68) I (e1 I) (fun w9 hw9=>ak_c n (P1.hL hL hw9) p0.fm Q5) I fun s01 q01 p4 ⟨Y00,Z00,hu_,I2,J2⟩=>?_
 subst hu_
 obtain ⟨Q1,u2⟩:=P1.agr p4
 refine BJ [5,7] (rk j0) ⟨?_,?_,trivial⟩
 refine BX (m' :=63) (fst:=[]) (cap:=[]) (sk j0) I .plain (bd 68) I (e1 I) (fun w9 hw9=>ak_c n (Q1.hL hL hw9) s0.fm y4) I fun Z5 X5 D2 ⟨V5,W5,hu_,Z1,b2⟩=>?_
 subst hu_
 obtain ⟨k1,E0⟩:=Q1.agr D2
 refine BJ [6,7] (rk j0) ⟨?_,?_,trivial⟩
 have F2:=Ag I2 E0
 have G2:=Ag J2 E0
 refine BX (m' :=127) (fst:=[]) (cap:=[]) (sk j0) I .plain (bd 81) I (e2 I I) (fun w9 hw9=>aa_c n (k1.hL hL hw9) G3 (Af F2 hw9) (Af G2 hw9) H3 (Af Z1 hw9) (Af b2 hw9) A3) I fun b6 Y5 E2 ⟨R2,U2,hu_,K2,M2⟩=>?_
 subst hu_
 obtain ⟨g2,v2⟩:=k1.agr E2
 refine RD.nu 7 255 j0 I .plain I (Aw [.bool false,vN,.bool false,vN] g2) fun C4 E1 X0 z0=>Y2 (R2,U2,E1) X0 (Tt u2 (Tt E0 (Tt v2 z0))) ⟨(Ag K2 z0),(Ag M2 z0)⟩
 refine RO.new (m' :=191) (sk j0) I .plain I (Aw [.bool false,vN,.bool false,vN] k1) fun C4 E1 X0 z0=>?_
 have F2:=Ag I2 (Tt E0 z0)
 have G2:=Ag J2 (Tt E0 z0)
 refine AX 6 255 j0 I .plain (bd 81) I (e2 I I) (fun w9 hw9=>aa_c n (X0.hL hL hw9) G3 (Af F2 hw9) (Af G2 hw9) H3 (Af (Ag Z1 z0) hw9) (Af (Ag b2 z0) hw9) A3) I fun E03 j03 g9 ⟨b01,c01,hu_,c00,d00⟩=>?_
 subst hu_
 obtain ⟨K6,b8⟩:=X0.agr g9
 exact Y2 (b01,c01,E1) K6 (Tt u2 (Tt E0 (Tt z0 b8))) ⟨c00,d00⟩
 refine RO.new (m' :=159) (sk j0) I .plain I (Aw [.bool false,vN,.bool false,vN] Q1) fun C4 E1 X0 z0=>AX 5 191 j0 I .plain (bd 68) I (e1 I) (fun w9 hw9=>ak_c n (X0.hL hL hw9) s0.fm y4) I fun Z5 X5 D2 ⟨V5,W5,hu_,Z1,b2⟩=>?_
 subst hu_
 obtain ⟨k1,E0⟩:=X0.agr D2
 have F2:=Ag I2 (Tt z0 E0)
 have G2:=Ag J2 (Tt z0 E0)
 refine AX 6 255 j0 I .plain (bd 81) I (e2 I I) (fun w9 hw9=>aa_c n (k1.hL hL hw9) G3 (Af F2 hw9) (Af G2 hw9) H3 (Af Z1 hw9) (Af b2 hw9) A3) I fun b6 Y5 E2 ⟨R2,U2,hu_,K2,M2⟩=>?_
 subst hu_
 obtain ⟨g2,v2⟩:=k1.agr E2
 exact Y2 (R2,U2,E1) g2 (Tt u2 (Tt z0 (Tt E0 v2))) ⟨K2,M2⟩
 refine RO.new (m' :=155) (sk j0) I .plain I (Aw [.bool false,vN,.bool false,vN] P1) fun C4 E1 X0 z0=>AX 2 159 j0 I .plain (bd 68) I (e1 I) (fun w9 hw9=>ak_c n (X0.hL hL hw9) p0.fm Q5) I fun s01 q01 p4 ⟨Y00,Z00,hu_,I2,J2⟩=>?_
 subst hu_
 obtain ⟨Q1,u2⟩:=X0.agr p4
 refine AX 5 191 j0 I .plain (bd 68) I (e1 I) (fun w9 hw9=>ak_c n (Q1.hL hL hw9) s0.fm y4) I fun Z5 X5 D2 ⟨V5,W5,hu_,Z1,b2⟩=>?_
 subst hu_
 obtain ⟨k1,E0⟩:=Q1.agr D2
 refine AX 6 255 j0 I .plain (bd 81) I (e2 I I) (fun w9 hw9=>aa_c n (k1.hL hL hw9) G3 (Af (Ag I2 E0) hw9) (Af (Ag J2 E0) hw9) H3 (Af Z1 hw9) (Af b2 hw9) A3) I fun b6 Y5 E2 ⟨R2,U2,hu_,K2,M2⟩=>?_
 subst hu_
 obtain ⟨g2,v2⟩:=k1.agr E2
 exact Y2 (R2,U2,E1) g2 (Tt z0 (Tt u2 (Tt E0 v2))) ⟨K2,M2⟩
 refine AZ I ?_
 have h:=G9 _ h
 try dsimp only at h
 refine Ax<|Am<|Ab (Bc (i:=U0) (j:=1) I I (by omega))<|Ac I<|Aa ?_
 obtain ⟨y7,c5⟩:=AB P3 .d1
 exact C6 (U0 + 1,G0,A0,W0,v0) y7 (Tt Z7 (Tt Y4 (Tt Z4 (Tt c3 c5)))) (BO P2 c5) h
 refine AZ I ?_
 have h:=F9 _ h
 try dsimp only at h
 refine MX.fin rfl<|Au (u:=.tuple #[]) v9 func142 rfl .nil rfl<|MX.endRange0 K3 .hd (by intro h9; cases h9) fun t04 z7 d5=>?_
 obtain ⟨M0,g5⟩:=AB z7 .d1
 refine Ax<|Aj<|Aj<|du 9 fun Z0 q1=>Rx 0 478 Z0 I q1 (Bp I ((M0.memA .t5) 0 _ I))<|Rv 1 Z0 I q1 (fun _=>By I)<|Rv 2 Z0 I q1 (fun _=>Bg 0 I)<|Rx 3 464 Z0 I q1 (Bp I ((M0.memA .t6) 0 _ I)) ?_
 have u5:=BO z4 (Tt d5 g5)
 refine Rx 4 448 Z0 I q1 (FV.as (FV.len_map (D:=g0) M0 .t7 underlying124 I) (congrArg (fun n9:Nat=>Value.int .i64 (n9:Int)) (MR.len u5)))<|Rx 5 448 Z0 I q1 (Bp I ((M0.memA .t3) 0 _ I))<|Rx 6 384 Z0 I q1 (FV.len_map (D:=u0) M0 .t4 underlying127 I)<|bk h fun X00 z00 h=>Rv 7 Z0 I q1 (fun _=>FV.addc (i:=((V0.length:Nat):Int)) (j:=((u0.length:Nat):Int)) I I z00)<|Rv 8 Z0 I q1 (fun _=>FV.gtr (i:=X00) (j:=400) I I)<|AK (dk Z0)<|AV I h (fun v6 h=>?_) (fun v6 h=>?_)
 refine Ae<|Ah I<|Ah I<|Aa<|Ar I<|RT.take M0 .hd fun u04 A7 A02=>?_
 obtain ⟨U3,B02⟩:=AB A7 .d1
 have s00:=Bo (α:=Ta) U3 L
 refine Au hb0 func24 I (.cons (.tmp I) (.cons (.tmp I) .nil)) I ?_
 cases h
 exact ⟨U3.ag,fun w9 hw9=>⟨vN,I,U3.kd s00 hw9⟩⟩
 refine Aq<|Ae<|Bf I ((M0.memA .t5) 0 _ I)<|BE (fst:=[]) (cap:=[]) (vs:=[vP c0]) .plain (bd 87) func87 I I I I (e1 I) I fun t02 u4 U02=>Ae<|Ah I<|Ah I<|Aa<|Aj<|Ae<|Ac I<|Ab (By I)<|Bm 0 I<|Bf I ((M0.memA .t6) 0 _ I)<|Ab (FV.as (FV.len_map (D:=g0) M0 .t7 underlying124 I) (congrArg (fun n9:Nat=>Value.int .i64 (n9:Int)) (MR.len u5)))<|Ab (FV.gtrN (i:=V0.length) (j:=400) I I)<|Aa<|AV I h (fun x6 h=>?_) (fun x6 h=>?_)
 refine Ae<|Ah I<|Ah I<|Aa<|Ar I<|Au (u:=.tuple #[vN,vI 3]) u4 func87 I (.cons (.tmp I) (.cons (.tmp I) .nil)) I<|Ab (Ai I I)<|Ab (Ai I I)<|Ah I<|Ah I<|Aa<|Ar I<|RT.take M0 .hd fun v04 B7 C02=>?_
 obtain ⟨V3,D02⟩:=AB B7 .d1
 have t00:=Bo (α:=Ta) V3 L
 refine Au hb0 func24 I (.cons (.tmp I) (.cons (.tmp I) .nil)) I ?_
 cases h
 exact ⟨V3.ag,fun w9 hw9=>⟨vN,I,V3.kd t00 hw9⟩⟩
 refine Aq<|Ae<|Ah I<|Aa<|Aj<|Ae<|Ac I<|Ab (By I)<|Bm 0 I<|Bf I ((M0.memA .t6) 0 _ I)<|Ao .plain I (Does.range (D:=g0) M0 .t7 underlying124 I) fun t01 F1 P4 z8=>Aa<|Av ?_
 have Q4:=P4.nilRow 37 (Rep.size Ta)
 refine MX.mloop (α:=(Lb Ta) × Bool × Vc × (Lb Vc) × (Array Nat)) (fun ⟨Q0,s1,J0,x1,u1⟩=>[(0,vP c0),(4,J0),(19,vP F1)]) (fun U5 ⟨Q0,s1,J0,x1,u1⟩ F3=>St w F3 [rr w 37 Ta J0 Q0.length x1,.obj F1 (aD b0 g0.length u1),.obj H0 (.deferred (some [])),.cells k0 [v1_0] 24,.cells q0 [v0_0] 24,.cells D0 [.map (some d0)] 127,.obj d0 (aA (u0:Lb (ByteArray × Bool))),.cells x0 [vP c0] 122,.cells c0 [.map (some b0),.bool s1] 126,.obj b0 (aA g0),rr w 24 (Lb Ta) (vS I0 2) (([a0,a1]:Lb (Lb Ta)).length) [v0_0,v1_0]]/\Tr t01 [rr w 37 Ta vN (([]:Lb Ta).length) [],.obj F1 (aD b0 g0.length #[]),.obj H0 (.deferred (some [])),.cells k0 [v1_0] 24,.cells q0 [v0_0] 24,.cells D0 [.map (some d0)] 127,.obj d0 (aA (u0:Lb (ByteArray × Bool))),.cells x0 [vP c0] 122,.cells c0 [.map (some b0),.bool g1] 126,.obj b0 (aA g0),rr w 24 (Lb Ta) (vS I0 2) (([a0,a1]:Lb (Lb Ta)).length) [v0_0,v1_0]] F3 [rr w 37 Ta J0 Q0.length x1,.obj F1 (aD b0 g0.length u1),.obj H0 (.deferred (some [])),.cells k0 [v1_0] 24,.cells q0 [v0_0] 24,.cells D0 [.map (some d0)] 127,.obj d0 (aA (u0:Lb (ByteArray × Bool))),.cells x0 [vP c0] 122,.cells c0 [.map (some b0),.bool s1] 126,.obj b0 (aA g0),rr w 24 (Lb Ta) (vS I0 2) (([a0,a1]:Lb (Lb Ta)).length) [v0_0,v1_0]]/\Cells F3 (bl [rr w 37 Ta J0 Q0.length x1,.obj F1 (aD b0 g0.length u1),.obj H0 (.deferred (some [])),.cells k0 [v1_0] 24,.cells q0 [v0_0] 24,.cells D0 [.map (some d0)] 127,.obj d0 (aA (u0:Lb (ByteArray × Bool))),.cells x0 [vP c0] 122,.cells c0 [.map (some b0),.bool s1] 126,.obj b0 (aA g0),rr w 24 (Lb Ta) (vS I0 2) (([a0,a1]:Lb (Lb Ta)).length) [v0_0,v1_0]] ++ L) x1 Q0/\left V0 u1 = U5) (fun ⟨Q0,s1,J0,x1,u1⟩=>(Q0,s1)) (([]:Lb Ta),g1,vN,[],#[]) h ⟨rfl,rfl,rfl,trivial⟩ ⟨Q4,BM _ _,(AI (cs:=[]) (xs:=([]:Lb Ta)) Q4 L (AT _ _)),(cT _)⟩ ?_
 rintro U5 ⟨Q0,s1,J0,x1,u1⟩ F3 H01 D6 ⟨C7,j5,q5,K9⟩ U9 B9
 refine Ae<|RG.nextR (W:=g0) (BO z4 (Tt d5 (Tt g5 (Tt z8 (Tt (BW P4 37 (Rep.size Ta)) j5))))) C7 .t9 (fun _=>.t1) I I K9 (fun x04 V9 U1 A8=>?_) (fun y04 R5 y0 u02 W00 H9 u00 Y9 M9 R4 B8=>?_)
 have h:=U9 V9
 try dsimp only at h
 refine Ab (Ai I I)<|Aa<|Aj<|Bz I<|AZ I<|Aj<|Ae<|Ac I<|Ab (By I)<|Bm 1 I<|Bf I ((U1.memA .t8) 1 _ I)<|Aa<|MX.ifb I h (fun y6 h=>?_) (fun y6 h=>?_)
 refine Ae<|Ah I<|Ah I<|Aa<|Ar I<|Au (u:=.tuple #[vN,vI 6]) u4 func87 I (.cons (.tmp I) (.cons (.tmp I) .nil)) I<|Ab (Ai I I)<|Ab (Ai I I)<|Ah I<|Ah I<|Aa<|Ar I<|RT.take U1 .t2 fun z04 D7 E02=>?_
 obtain ⟨W3,F02⟩:=AB D7 (.a0 (.a0 .d1))
 have v00:=Bo (α:=Ta) W3 L
 refine Au hb0 func24 I (.cons (.tmp I) (.cons (.tmp I) .nil)) I ?_
 cases h
 exact ⟨W3.ag,fun w9 hw9=>⟨vN,I,W3.kd v00 hw9⟩⟩
 refine Aq<|Ae<|Ac I<|BE (fst:=[]) (cap:=[]) (vs:=[J0,.func (.func 144) #[] #[]]) .plain (bd 143) func143 I I I I (e2 I I) I fun v02 s9 V02=>Ae<|Ac I ?_
 have K02:Q0.length <= 4294967296:=St.rowLe (α:=Ta) U1 .hd
 obtain ⟨D01,d02,E9⟩:=St.rowV (α:=Ta) U1 .hd
 refine Ab (FV.lenV underlying24 I E9)<|Ah I<|Aa<|Am<|Ac I<|Ac I<|Ac I<|Ab (FV.convU (i:=((Q0.length:Nat):Int)) underlying3 underlying193 I)<|bk h fun j6 Q00 h=>Bd (vI j6) (bd 174) I (e1 I) (fun w9 hw9=>bP_c n (U1.hL0 hL hw9) (ae ((Q0.length:Nat):Int)) Q00) I<|Ac I<|bk h fun g6 E00 h=>RG.sort (enc:=av) (ρ:=Tryz.srt173_ren) (c:=(fun x9 y9=>aj_p n x9 y9)) (li:=j6) E00 I (fun _ _ _ _ h9=>aF h9) (fun w9 L9 z9=>aW (w:=w9) (L:=L9) z9.fm z9.fP) Tryz.srt173 (fun w9=>Tryz.isAgg37 w9) (fun w9=>Tryz.sizeOf37 w9) (enters_of func144 I I) (fun x9 y9 r9 w9 h9=>aj_c n (L:=[]) (w:=w9) (fun _ h8=>nomatch h8) x9 y9 h9) .plain (bd 173) I (e5 I I I I I) I U1 (AR q5 A8) .hd fun u01 U4 G02=>Aa<|MX.fin I<|Au (u:=.tuple #[]) s9 func143 I .nil I<|Aa<|Ae<|Ac I<|Ah I<|Ah I<|Aa<|Ar I<|Au (u:=.tuple #[J0,vI 0]) u4 func87 I (.cons (.tmp I) (.cons (.tmp I) .nil)) I<|Ab (Ai I I)<|Ab (Ai I I)<|Ah I<|Ah I<|Aa<|Ar I<|RT.take U4 .t2 fun A04 E7 C8=>?_
 obtain ⟨X3,D8⟩:=AB E7 (.a0 (.a0 .d1))
 have Y3:=Bu X3 .hd
 have H02:=Bv X3 .hd
 have x00:=Bw (α:=Ta) (v:=J0) (xs:=g6) Y3 L (Bi (α:=Ta) X3 .hd (AR (AI U4 L (bS (α:=Ta) (enc:=av) (fun w9 L9 z9=>aW (w:=w9) (L:=L9) z9.fm z9.fP) u01 _ g6)) (Tt C8 D8)) hL)
 refine Au hb0 func24 I (.cons (.tmp I) (.cons (.tmp I) .nil)) I ?_
 cases h
 exact ⟨Y3.ag,fun w9 hw9=>⟨J0,I,Y3.kd x00 hw9⟩⟩
 obtain ⟨j01,k01,rfl,M5,P5⟩:=cQ u00
 have h:=B9 _ _ Y9
 unfold cX at h
 try dsimp only at h
 refine Ab (Ai I I)<|Aa<|Aj<|AG I<|Aq<|Av<|Ae<|Ab (FV.entry (D:=g0) R4 .t9 .t1 H9 I)<|Ab (Ai I I)<|Ab (Ai I I)<|RG.nl zL R4 fun B04 G4 F7 E8=>RG.nl [.bool false,vN,.bool false,vN] F7 fun C04 W01 G7 F8=>AQ (ab y0.1) G7 .t1 (ai I) fun D04 H7 G8=>?_
 have H2:=Tt B8 (Tt E8 (Tt F8 G8))
 refine AQ [.bool y0.2.fj.fc,j01,.bool y0.2.fh.fc,k01] H7 .hd (o4 I (Ay (Ag M5 H2)) I (Ay (Ag P5 H2))) fun E04 s2 k4=>Aa<|Ae<|Ab (Az I (s2.memA .hd))<|bk h fun C0 R00 h=>Bd (.tuple #[.agg ((ab C0.1)).toArray,vI C0.2]) (bd 77) I (e1 I) (fun w9 hw9=>ac_c n (s2.hL0 hL hw9) y0.2 (s2.kd (Ag M5 (Tt H2 k4)) hw9) (s2.kd (Ag P5 (Tt H2 k4)) hw9) R00) I<|Ac I<|Ab (Ai I I)<|Ab (Ai I I)<|RG.nl zL s2 fun F04 H4 I7 H8=>AQ (ab C0.1) I7 .hd (ai I) fun G04 Z3 I8=>Ah I<|Aa<|Aj<|Ae<|Ac I<|Ab (BA (i:=C0.2) (j:=0) I I)<|Aa<|MX.jo (α:=Bool) (fun d2=>[(0,vP c0),(4,J0),(19,vP F1),(5,vP G4),(7,vP H4)]) (fun d2=>[.cells H4 (ab C0.1) 34,.cells G4 (ab y0.1) 34,rr w 37 Ta J0 Q0.length x1,.obj F1 (aD b0 g0.length (u1.push R5)),.obj H0 (.deferred (some [])),.cells k0 [v1_0] 24,.cells q0 [v0_0] 24,.cells D0 [.map (some d0)] 127,.obj d0 (aA (u0:Lb (ByteArray × Bool))),.cells x0 [vP c0] 122,.cells c0 [.map (some b0),.bool d2] 126,.obj b0 (aA g0),rr w 24 (Lb Ta) (vS I0 2) (([a0,a1]:Lb (Lb Ta)).length) [v0_0,v1_0]]) (fun d2=>d2) Z3 h ?_ ?_
 rintro d2 b05 b4 J8 h
 try dsimp only at h
 refine Am<|Ac I<|Ab (Az I (b4.memA .t1))<|Ab (Az I (b4.memA .hd))<|Ab (AS (vs:=[.agg ((ab y0.1)).toArray,.agg ((ab C0.1)).toArray]) (u:=.agg ((ab y0.1 ++ ab C0.1)).toArray) (e2 I I) (fun w9=>by kernel_rfl))<|Ao .plain I (AW (α:=Ta) (xs:=([(⟨y0.1,C0.1⟩:Ta)]:Lb Ta)) (vs:=[.agg ((ab y0.1 ++ ab C0.1)).toArray]) (ds' :=(ab y0.1 ++ ab C0.1)) I b4 cW I (e1 I) (by kernel_rfl) I) fun H04 X01 c4 K8=>bk h fun v01 F00 h=>?_
 have E5:=Tt H2 (Tt k4 (Tt H8 (Tt I8 (Tt J8 K8))))
 refine BD .plain I (Bn (α:=Ta) (ys:=([(⟨y0.1,C0.1⟩:Ta)]:Lb Ta)) F00 c4 (fun _ _=>.t3) cW I I (AR q5 E5) (BH (α:=Ta) c4 .hd (AI (cs:=(ab y0.1 ++ ab C0.1)) (xs:=(([(⟨y0.1,C0.1⟩:Ta)]:Lb Ta):Lb Ta)) c4 L (AE (cs:=(ab y0.1 ++ ab C0.1)) (ds:=[]) (aW y0.1 C0.1) (AT _ _))))) fun p01 I04 ⟨B6,J7,M8,A9⟩=>Ah I<|Aa<|Ax ?_
 obtain ⟨K7,k5⟩:=AB J7 .d3
 exact D6 W00 (v01,d2,p01,B6,(u1.push R5)) _ _ ⟨I,I,I,trivial⟩ ⟨K7,(Tt j5 (Tt E5 (Tt M8 k5))),(AR A9 k5),M9⟩ h
 intro I01 J4 h
 try dsimp only at h
 refine BI I h (fun z6 h=>?_) (fun z6 h=>?_)
 refine Aq ?_
 obtain ⟨M7,P8⟩:=AB Z3 (.a0 .d1)
 exact J4 s1 M7 P8 h
 refine Am<|Ac I<|Ab (By I)<|Bm 1 I<|RG.now .plain (BU (j:=1) (old:=[.map (some b0),.bool s1]) (news:=[.bool true]) (new' :=[.map (some b0),.bool true]) Z3 .t11 I I I I I I (o1 I) I) fun J04 P7 Q8=>Aa ?_
 obtain ⟨Q7,R8⟩:=AB P7 (.a0 .d1)
 exact J4 true Q7 (Tt Q8 R8) h
 refine Ae<|Ac I<|Ah I<|Ah I<|Aa<|Ar I ?_
 have y00:=Bo (α:=Ta) p1 L
 refine Au hb0 func24 I (.cons (.tmp I) (.cons (.tmp I) .nil)) I ?_
 cases h
 exact ⟨p1.ag,fun w9 hw9=>⟨vN,I,p1.kd y00 hw9⟩⟩
def bG (n:Nat) (d0:Tb × Td) (c0:Bool × (Lb Ua) × Bool × (Lb Ua) -> Oa (Tb × Int)):Bool × (Lb Ua) × Bool × (Lb Ua) -> Oa (Tb × Int)
  | (g0,k0,j0,p0)=>(aW_p n d0.2.fj).bind fun q0=>(if 0 < q0 then (aa_p n (⟨(⟨g0,k0⟩:Tg),(⟨j0,p0⟩:Tg)⟩:Td) d0.2).bind fun b0=>c0 (b0.fj.fc,b0.fj.fk,b0.fh.fc,b0.fh.fk) else c0 (g0,k0,j0,p0))
def aQ_l1 (n:Nat) (a1:Lb Ta) (g0:Nat × (Lb (Tb × Td)) -> Oa (Lb (Tb × Td))):Nat × (Lb (Tb × Td)) -> Oa (Lb (Tb × Td))
  | (c0,b0)=>(if c0 < a1.length then (a1[c0]?).bind fun d0=>(bn_p n d0).bind fun k0=>(bW_p n k0).bind fun j0=>ew (bD b0 d0.fm) (g0 (c0 + 1,aC b0 d0.fm j0)) (fun p0=>(aa_p n j0 p0).bind fun q0=>g0 (c0 + 1,aC b0 d0.fm q0)) else some b0)
def aQ_l2 (n:Nat) (a0:Lb Ta) (g0:Nat × (Lb (Tb × Td)) -> Oa (Lb (Tb × Td))):Nat × (Lb (Tb × Td)) -> Oa (Lb (Tb × Td))
  | (c0,b0)=>(if c0 < a0.length then (a0[c0]?).bind fun d0=>(bn_p n d0).bind fun j0=>ew (bD b0 d0.fm) (g0 (c0 + 1,aC b0 d0.fm j0)) (fun k0=>(aa_p n j0 k0).bind fun p0=>g0 (c0 + 1,aC b0 d0.fm p0)) else some b0)
def aQ_p (n:Nat) (a0:Lb Ta) (a1:Lb Ta):Oa (Tb × Int):=
  (ar_p n ([a0,a1]:Lb (Lb Ta)) ([]:Lb Tb)).bind fun c0=>(if c0 = 0 then Option.bind (ao (aQ_l2 n a0) n (0,([]:Lb (Tb × Td)))) (fun g0=>Option.bind (ao (aQ_l1 n a1) n (0,g0)) (fun j0=>(aL_p n (0:Int)).bind fun b0=>mloop (fun (k0,q0,p0,s0)=>(ac_p n (⟨(⟨k0,q0⟩:Tg),(⟨p0,s0⟩:Tg)⟩:Td)).bind fun d0=>some (d0.1,d0.2)) (bG n) n j0 (b0.fj.fc,b0.fj.fk,b0.fh.fc,b0.fh.fk))) else some ((⟨(0,0,0,0,0,0,0,0),(0,0,0,0,0,0,0,0)⟩:Tb),c0))
theorem aQ_c (n:Nat) {L w} (hL:hl L w) {a0:Lb Ta} {v0_0:Vc} (h0_0:Rep.R w L [v0_0] a0) {a1:Lb Ta} {v1_0:Vc} (h1_0:Rep.R w L [v1_0] a1)  {r:Tb × Int} (h:aQ_p n a0 a1 = some r) :
 Cl 25 #[v0_0,v1_0] w (aj w fun _ u=>u = .tuple #[.agg ((ab r.1)).toArray,vI r.2]):=by
 unfold aQ_p at h
 refine AM func25 I I I fun _ cs0 hb0=>Ae<|RG.nl zL (AL w) fun P8 p0 K1 p8=>Ah I<|Aa<|Aj<|Ae<|Ac I<|Ac I ?_
 obtain ⟨v7,U7,M6,_⟩:=Bl (AH h0_0 K1)
 obtain ⟨x7,V7,P6,_⟩:=Bl (AH h1_0 K1)
 refine Ao .plain I (AW (α:=Lb Ta) (xs:=([a0,a1]:Lb (Lb Ta))) (vs:=[v0_0,v1_0]) (ds' :=[v0_0,v1_0]) I K1 me I (e2 I I) (by rw [M6,P6]; try kernel_rfl) I) fun Q8 D7 M0 q8=>bk h fun B4 V6 h=>Bd (vI B4) (bd 63) I (e2 I I) (fun w9 hw9=>ar_c n (M0.hL0 hL hw9) (Af (St.lend (α:=Lb Ta) (L:=L) M0 .hd (AI (cs:=[v0_0,v1_0]) (xs:=(([a0,a1]:Lb (Lb Ta)):Lb (Lb Ta))) M0 L (AE (cs:=[v0_0]) (ds:=[v1_0]) (AH h0_0 M0) (AE (cs:=[v1_0]) (ds:=[]) (AH h1_0 M0) (AT _ _)))) hL) hw9) (Af (Rep.nilSlice _ _) hw9) V6) I<|Ah I<|Aa<|Ae<|Ac I<|Ab (BA (i:=B4) (j:=0) I I)<|Aa<|BI I h (fun E4 h=>?_) (fun E4 h=>?_)
 refine Aq<|Ae<|Ao .plain I (Does.makeMap (κ:=Tb) (ν:=Lb Vc) M0) fun b9 c0 P1 s8=>Ah I<|Aa<|Aj<|Ae<|Ac I ?_
 have y3:=AH h0_0 P1
 have u8:=AY y3
 refine Ab (Ba (xs:=a0) underlying24 I y3)<|Ac I<|Aa<|Av ?_
 obtain ⟨M4,D5⟩:=AB P1 (.a0 .d1)
 obtain ⟨z8,B6,j6⟩:=ap h
 refine BP (α:=Nat × (Lb (Tb × Td)) × (Lb (Tb × Lb Vc))) (fun ⟨q0,B0,y0⟩=>[(1,v1_0),(4,vP p0),(7,.map (some c0)),(24,v0_0),(25,vn a0.length),(26,vn q0)]) (fun ⟨q0,B0,y0⟩=>[.obj c0 (aA y0),.cells p0 zL 34]) (fun ⟨q0,B0,y0⟩ z4=>MR z4 (bl [.obj c0 (aA y0),.cells p0 zL 34] ++ L) y0 B0) (fun ⟨q0,B0,y0⟩=>(q0,B0)) (0,([]:Lb (Tb × Td)),([]:Lb (Tb × Lb Vc))) B6 M4 (BO (MR.at_ (Z:=([]:Lb (Tb × Lb Vc))) (M:=([]:Lb (Tb × Td))) P1 L trivial) D5) ?_
 rintro A7 ⟨q0,B0,y0⟩ z4 F2 c1 P2 x1 h
 unfold aQ_l2 at h
 try dsimp only at h
 refine Ae<|Ab (AU (i:=q0) (j:=a0.length) I I)<|Aa<|Aj<|AV I h (fun D4 h=>?_) (fun D4 h=>?_)
 refine Aq<|Aj<|Av<|Ae<|bk h fun d0 Q6 h=>?_
 obtain ⟨y7,W7,d6,q6,Y7,E6,u6⟩:=Bh (AH h0_0 c1) Q6
 obtain rfl:=aF E6
 refine Ab (Be 32 q0 I d6 I I q6)<|Ab (Az I u6)<|RG.nl [vW 0,vW 0,vW 0,vW 0,vW 0,vW 0,vW 0,vW 0,vW 0,vW 0,vW 0,vW 0,vW 0,vW 0,vW 0,vW 0,vW 0,vW 0,vW 0,vW 0,vW 0,vW 0,vW 0,vW 0,vW 0,vW 0,vW 0,vW 0,vW 0,vW 0,vW 0,vW 0] c1 fun R8 E7 P4 E5=>AQ (av d0) P4 .hd (ai I) fun U8 g1 F5=>Aa<|du 5 fun D0 z1=>Rv 0 D0 I z1 (fun _=>Al I)<|Rv 1 D0 I z1 (fun _=>Bg 0 I)<|Rx 2 32 D0 I z1 (AN (cs:=(ab d0.fm)) I I (ac (g1.memA .hd) 0 16))<|Rx 3 48 D0 I z1 (Az I (g1.memA .hd))<|bk h fun j0 U6 h=>AX 4 31 D0 I .plain (bd 66) I (e1 I) (fun w9 hw9=>bn_c n (g1.hL hL hw9) d0 U6) I fun V8 D8 V5 ⟨B1,C1,hu_,M3,P3⟩=>?_
 subst hu_
 obtain ⟨Q4,G5⟩:=g1.agr V5
 refine BK (i:=5) (rk D0) (RO.enterPT (m' :=63) (fst:=[]) (cap:=[]) (vs:=[.map (some c0),.agg ((ab d0.fm)).toArray,.agg #[.bool j0.fj.fc,B1,.bool j0.fh.fc,C1]]) (sk D0) I I .plain (bd 88) func88 I I I I (e3 I I I) I (fun _ Z7 s3 x8=>?_))
 refine Ae<|RG.bx Q4 I I fun W8 F7 R4 Y1=>RG.bx R4 I I fun X8 G7 X0 Z1=>Aa<|Aj<|Ae<|Ac I<|Ab (Az I (X0.memA .t1)) ?_
 have u2:=Tt E5 (Tt F5 (Tt G5 (Tt Y1 Z1)))
 have v6:=BO x1 u2
 rcases MR.get d0.fm v6 with ⟨q2,z2⟩ | ⟨b8,D2,z2,q2,F6⟩
 have h:=dp h q2
 refine Ab (FV.lookupK (kv:=d0.fm) (q:=false) ar X0 .t3 underlying124 (z:=.agg #[.bool false,vN,.bool false,vN]) I I I (.inl ⟨z2,I,I⟩))<|Ac I<|Ab (Ai I I)<|Ab (Ai I I)<|RG.nl [.bool false,vN,.bool false,vN] X0 fun Y8 H7 U4 Q2=>AQ [.bool false,vN,.bool false,vN] U4 .hd (ai I) fun Z8 M1 R2=>Ah I<|Aa<|Ae<|Ac I<|Aa<|Bz I<|Aq<|Am<|Ac I<|Ab (Az I (M1.memA .t2))<|Ab (Az I (M1.memA .t1)) ?_
 have A3:=Tt u2 (Tt Q2 R2)
 have B3:=Tt Y1 (Tt Z1 (Tt Q2 R2))
 refine RG.now .plain (BL (kv:=d0.fm) (vv:=[.bool j0.fj.fc,B1,.bool j0.fh.fc,C1]) ar M1 .t4 underlying124 I I I) fun c9 V4 U2=>Aa<|MX.fin I<|Au (u:=.tuple #[]) s3 func88 I .nil I<|AK (dk D0)<|Ax<|Am<|Ab (Bc (i:=q0) (j:=1) I I (by omega))<|Ac I<|Aa ?_
 obtain ⟨W4,V2⟩:=AB V4 .d4
 exact F2 (q0 + 1,aC B0 d0.fm j0,(aC y0 d0.fm [.bool j0.fj.fc,B1,.bool j0.fh.fc,C1])) W4 (Tt P2 (Tt A3 (Tt U2 V2))) (BO (MR.set (k:=d0.fm) (c:=[.bool j0.fj.fc,B1,.bool j0.fh.fc,C1]) (y:=j0) (cG j0.fj (Ag M3 B3) j0.fh (Ag P3 B3)) (BO x1 A3)) (Tt U2 V2)) h
 have h:=cZ h q2
 obtain ⟨j7,k7,rfl,Q3,R3⟩:=cQ F6
 refine Ab (FV.lookupK (kv:=d0.fm) (q:=true) ar X0 .t3 underlying124 (z:=.agg #[.bool false,vN,.bool false,vN]) I I I (.inr ⟨_,z2,I,I⟩))<|Ac I<|Ab (Ai I I)<|Ab (Ai I I)<|RG.nl [.bool false,vN,.bool false,vN] X0 fun d9 I7 X4 R0=>AQ [.bool D2.fj.fc,j7,.bool D2.fh.fc,k7] X4 .hd (o4 I (Ay (Ag Q3 R0)) I (Ay (Ag R3 R0))) fun g9 j1 s1=>Ah I<|Aa<|Ae<|Ac I<|Aa<|AG I<|Am<|Ab (Az I (j1.memA .t1))<|Ab (Az I (j1.memA .hd))<|bk h fun t0 W6 h=>?_
 have C3:=Tt Y1 (Tt Z1 (Tt R0 s1))
 refine jE (bd 81) I (e2 I I) (fun w9 hw9=>aa_c n (j1.hL hL hw9) j0 (Af (Ag M3 C3) hw9) (Af (Ag P3 C3) hw9) D2 (Af (Ag Q3 (Tt R0 s1)) hw9) (Af (Ag R3 (Tt R0 s1)) hw9) W6) I fun j9 E8 W5 ⟨D1,E1,hu_,U3,V3⟩=>?_
 subst hu_
 obtain ⟨Y4,H5⟩:=j1.agr W5
 refine AQ [.bool t0.fj.fc,D1,.bool t0.fh.fc,E1] Y4 .t1 (o4 I (Ay U3) I (Ay V3)) fun k9 Q1 b2=>Aa<|Am<|Ac I<|Ab (Az I (Q1.memA .t2))<|Ab (Az I (Q1.memA .t1)) ?_
 have D3:=Tt u2 (Tt R0 (Tt s1 (Tt H5 b2)))
 refine RG.now .plain (BL (kv:=d0.fm) (vv:=[.bool t0.fj.fc,D1,.bool t0.fh.fc,E1]) ar Q1 .t4 underlying124 I I I) fun p9 Z4 W2=>Aa<|MX.fin I<|Au (u:=.tuple #[]) s3 func88 I .nil I<|AK (dk D0)<|Ax<|Am<|Ab (Bc (i:=q0) (j:=1) I I (by omega))<|Ac I<|Aa ?_
 obtain ⟨b5,X2⟩:=AB Z4 .d4
 exact F2 (q0 + 1,aC B0 d0.fm t0,(aC y0 d0.fm [.bool t0.fj.fc,D1,.bool t0.fh.fc,E1])) b5 (Tt P2 (Tt D3 (Tt W2 X2))) (BO (MR.set (k:=d0.fm) (c:=[.bool t0.fj.fc,D1,.bool t0.fh.fc,E1]) (y:=t0) (cG t0.fj (Ag U3 b2) t0.fh (Ag V3 b2)) (BO x1 D3)) (Tt W2 X2)) h
 refine AZ I ?_
 have h:=j6 _ h
 try dsimp only at h
 refine Aj<|Ae<|Ac I ?_
 have x3:=AH h1_0 c1
 have v8:=AY x3
 refine Ab (Ba (xs:=a1) underlying24 I x3)<|Ac I<|Aa<|Av ?_
 obtain ⟨A8,C6,k6⟩:=ap h
 refine BP (α:=Nat × (Lb (Tb × Td)) × (Lb (Tb × Lb Vc))) (fun ⟨s0,C0,b0⟩=>[(4,vP p0),(7,.map (some c0)),(37,v1_0),(38,vn a1.length),(39,vn s0)]) (fun ⟨s0,C0,b0⟩=>[.obj c0 (aA b0),.cells p0 zL 34]) (fun ⟨s0,C0,b0⟩ A4=>MR A4 (bl [.obj c0 (aA b0),.cells p0 zL 34] ++ L) b0 C0) (fun ⟨s0,C0,b0⟩=>(s0,C0)) (0,B0,y0) C6 c1 x1 ?_
 rintro B7 ⟨s0,C0,b0⟩ A4 G2 k1 Y2 y1 h
 unfold aQ_l1 at h
 try dsimp only at h
 refine Ae<|Ab (AU (i:=s0) (j:=a1.length) I I)<|Aa<|Aj<|AV I h (fun F4 h=>?_) (fun F4 h=>?_)
 refine Aq<|Aj<|Av<|Ae<|bk h fun g0 R6 h=>?_
 obtain ⟨z7,X7,g6,s6,c8,G6,x6⟩:=Bh (AH h1_0 k1) R6
 obtain rfl:=aF G6
 refine Ab (Be 32 s0 I g6 I I s6)<|Ab (Az I x6)<|RG.nl [vW 0,vW 0,vW 0,vW 0,vW 0,vW 0,vW 0,vW 0,vW 0,vW 0,vW 0,vW 0,vW 0,vW 0,vW 0,vW 0,vW 0,vW 0,vW 0,vW 0,vW 0,vW 0,vW 0,vW 0,vW 0,vW 0,vW 0,vW 0,vW 0,vW 0,vW 0,vW 0] k1 fun q9 J7 c5 I5=>AQ (av g0) c5 .hd (ai I) fun s9 p1 J5=>Aa<|du 6 fun z0 A1=>Rv 0 z0 I A1 (fun _=>Al I)<|Rv 1 z0 I A1 (fun _=>Bg 0 I)<|Rx 2 64 z0 I A1 (AN (cs:=(ab g0.fm)) I I (ac (p1.memA .hd) 0 16))<|Rx 3 112 z0 I A1 (Az I (p1.memA .hd))<|bk h fun u7 X6 h=>AX 4 31 z0 I .plain (bd 66) I (e1 I) (fun w9 hw9=>bn_c n (p1.hL hL hw9) g0 X6) I fun t9 F8 X5 ⟨B8,C8,hu_,H6,I6⟩=>?_
 subst hu_
 obtain ⟨J2,K5⟩:=p1.agr X5
 refine bk h fun k0 Y6 h=>AX 5 63 z0 I .plain (bd 89) I (e1 I) (fun w9 hw9=>bW_c n (J2.hL hL hw9) u7 (Af H6 hw9) (Af I6 hw9) Y6) I fun u9 G8 Y5 ⟨F1,G1,hu_,W3,X3⟩=>?_
 subst hu_
 obtain ⟨d5,M5⟩:=J2.agr Y5
 refine BK (i:=6) (rk z0) (RO.enterPT (m' :=127) (fst:=[]) (cap:=[]) (vs:=[.map (some c0),.agg ((ab g0.fm)).toArray,.agg #[.bool k0.fj.fc,F1,.bool k0.fh.fc,G1]]) (sk z0) I I .plain (bd 88) func88 I I I I (e3 I I I) I (fun _ d8 u3 y8=>?_))
 refine Ae<|RG.bx d5 I I fun v9 K7 g5 c2=>RG.bx g5 I I fun x9 M7 Y0 d2=>Aa<|Aj<|Ae<|Ac I<|Ab (Az I (Y0.memA .t1)) ?_
 have v2:=Tt I5 (Tt J5 (Tt K5 (Tt M5 (Tt c2 d2))))
 have y6:=BO y1 v2
 rcases MR.get g0.fm y6 with ⟨s2,A2⟩ | ⟨g8,E2,A2,s2,J6⟩
 have h:=dp h s2
 refine Ab (FV.lookupK (kv:=g0.fm) (q:=false) ar Y0 .t3 underlying124 (z:=.agg #[.bool false,vN,.bool false,vN]) I I I (.inl ⟨A2,I,I⟩))<|Ac I<|Ab (Ai I I)<|Ab (Ai I I)<|RG.nl [.bool false,vN,.bool false,vN] Y0 fun y9 P7 j5 Z2=>AQ [.bool false,vN,.bool false,vN] j5 .hd (ai I) fun z9 R1 b3=>Ah I<|Aa<|Ae<|Ac I<|Aa<|Bz I<|Aq<|Am<|Ac I<|Ab (Az I (R1.memA .t2))<|Ab (Az I (R1.memA .t1)) ?_
 have E3:=Tt v2 (Tt Z2 b3)
 have F3:=Tt c2 (Tt d2 (Tt Z2 b3))
 refine RG.now .plain (BL (kv:=g0.fm) (vv:=[.bool k0.fj.fc,F1,.bool k0.fh.fc,G1]) ar R1 .t4 underlying124 I I I) fun A9 k5 c3=>Aa<|MX.fin I<|Au (u:=.tuple #[]) u3 func88 I .nil I<|AK (dk z0)<|Ax<|Am<|Ab (Bc (i:=s0) (j:=1) I I (by omega))<|Ac I<|Aa ?_
 obtain ⟨p5,d3⟩:=AB k5 .d4
 exact G2 (s0 + 1,aC C0 g0.fm k0,(aC b0 g0.fm [.bool k0.fj.fc,F1,.bool k0.fh.fc,G1])) p5 (Tt Y2 (Tt E3 (Tt c3 d3))) (BO (MR.set (k:=g0.fm) (c:=[.bool k0.fj.fc,F1,.bool k0.fh.fc,G1]) (y:=k0) (cG k0.fj (Ag W3 F3) k0.fh (Ag X3 F3)) (BO y1 E3)) (Tt c3 d3)) h
 have h:=cZ h s2
 obtain ⟨p7,q7,rfl,Y3,Z3⟩:=cQ J6
 refine Ab (FV.lookupK (kv:=g0.fm) (q:=true) ar Y0 .t3 underlying124 (z:=.agg #[.bool false,vN,.bool false,vN]) I I I (.inr ⟨_,A2,I,I⟩))<|Ac I<|Ab (Ai I I)<|Ab (Ai I I)<|RG.nl [.bool false,vN,.bool false,vN] Y0 fun B9 Q7 q5 U0=>AQ [.bool E2.fj.fc,p7,.bool E2.fh.fc,q7] q5 .hd (o4 I (Ay (Ag Y3 U0)) I (Ay (Ag Z3 U0))) fun C9 q1 u1=>Ah I<|Aa<|Ae<|Ac I<|Aa<|AG I<|Am<|Ab (Az I (q1.memA .t1))<|Ab (Az I (q1.memA .hd))<|bk h fun u0 Z6 h=>?_
 have G3:=Tt c2 (Tt d2 (Tt U0 u1))
 refine jE (bd 81) I (e2 I I) (fun w9 hw9=>aa_c n (q1.hL hL hw9) k0 (Af (Ag W3 G3) hw9) (Af (Ag X3 G3) hw9) E2 (Af (Ag Y3 (Tt U0 u1)) hw9) (Af (Ag Z3 (Tt U0 u1)) hw9) Z6) I fun D9 H8 Z5 ⟨H1,I1,hu_,b4,c4⟩=>?_
 subst hu_
 obtain ⟨s5,P5⟩:=q1.agr Z5
 refine AQ [.bool u0.fj.fc,H1,.bool u0.fh.fc,I1] s5 .t1 (o4 I (Ay b4) I (Ay c4)) fun E9 U1 g2=>Aa<|Am<|Ac I<|Ab (Az I (U1.memA .t2))<|Ab (Az I (U1.memA .t1)) ?_
 have H3:=Tt v2 (Tt U0 (Tt u1 (Tt P5 g2)))
 refine RG.now .plain (BL (kv:=g0.fm) (vv:=[.bool u0.fj.fc,H1,.bool u0.fh.fc,I1]) ar U1 .t4 underlying124 I I I) fun F9 t5 g3=>Aa<|MX.fin I<|Au (u:=.tuple #[]) u3 func88 I .nil I<|AK (dk z0)<|Ax<|Am<|Ab (Bc (i:=s0) (j:=1) I I (by omega))<|Ac I<|Aa ?_
 obtain ⟨u5,j3⟩:=AB t5 .d4
 exact G2 (s0 + 1,aC C0 g0.fm u0,(aC b0 g0.fm [.bool u0.fj.fc,H1,.bool u0.fh.fc,I1])) u5 (Tt Y2 (Tt H3 (Tt g3 j3))) (BO (MR.set (k:=g0.fm) (c:=[.bool u0.fj.fc,H1,.bool u0.fh.fc,I1]) (y:=u0) (cG u0.fj (Ag b4 g2) u0.fh (Ag c4 g2)) (BO y1 H3)) (Tt g3 j3)) h
 refine AZ I ?_
 have h:=k6 _ h
 try dsimp only at h
 refine Ae<|bk h fun K0 b7 h=>jE (bd 71) I (e1 I) (fun w9 hw9=>aL_c n (k1.hL hL hw9)  b7) I fun G9 I8 b6 ⟨B2,C2,hu_,g4,j4⟩=>?_
 subst hu_
 obtain ⟨v5,Q5⟩:=k1.agr b6
 refine RG.nl [.bool false,vN,.bool false,vN] v5 fun H9 P0 x5 v1=>AQ [.bool K0.fj.fc,B2,.bool K0.fh.fc,C2] x5 .hd (o4 I (Ay (Ag g4 v1)) I (Ay (Ag j4 v1))) fun I9 y5 k3=>Aa<|Aj<|Ae<|Ac I<|Ao .plain I (Does.range (D:=b0) y5 .t1 underlying124 I) fun t7 Q0 z5 p3=>Aa<|Av ?_
 have I3:=Tt v1 (Tt k3 p3)
 refine MX.mloop (α:=Bool × (Lb Ua) × Bool × (Lb Ua) × (Array Nat) × Vc × Vc) (fun ⟨v0,I0,x0,J0,A0,E0,F0⟩=>[(4,vP p0),(12,vP P0),(53,vP Q0)]) (fun s4 ⟨v0,I0,x0,J0,A0,E0,F0⟩ b1=>St w b1 [.obj Q0 (aD c0 b0.length A0),.cells P0 [.bool v0,E0,.bool x0,F0] 109,.obj c0 (aA b0),.cells p0 zL 34]/\Tr t7 [.obj Q0 (aD c0 b0.length #[]),.cells P0 [.bool K0.fj.fc,B2,.bool K0.fh.fc,C2] 109,.obj c0 (aA b0),.cells p0 zL 34] b1 [.obj Q0 (aD c0 b0.length A0),.cells P0 [.bool v0,E0,.bool x0,F0] 109,.obj c0 (aA b0),.cells p0 zL 34]/\left C0 A0 = s4/\Rep.R b1 (bl [.obj Q0 (aD c0 b0.length A0),.cells P0 [.bool v0,E0,.bool x0,F0] 109,.obj c0 (aA b0),.cells p0 zL 34] ++ L) [E0] I0/\Rep.R b1 (bl [.obj Q0 (aD c0 b0.length A0),.cells P0 [.bool v0,E0,.bool x0,F0] 109,.obj c0 (aA b0),.cells p0 zL 34] ++ L) [F0] J0) (fun ⟨v0,I0,x0,J0,A0,E0,F0⟩=>(v0,I0,x0,J0)) (K0.fj.fc,K0.fj.fk,K0.fh.fc,K0.fh.fk,#[],B2,C2) h ⟨rfl,rfl,rfl,trivial⟩ ⟨z5,BM _ _,(cT _),(Ag g4 I3),(Ag j4 I3)⟩ ?_
 rintro s4 ⟨v0,I0,x0,J0,A0,E0,F0⟩ b1 C7 H2 ⟨A5,j2,t6,x2,y2⟩ z6 c6
 refine Ae<|RG.nextR (W:=b0) (BO y1 (Tt Q5 (Tt v1 (Tt k3 (Tt p3 j2))))) A5 .t2 (fun _=>.hd) I I t6 (fun J9 A6 Z0 q3=>?_) (fun K9 q4 W0 j8 u4 p6 K6 D6 v3 K2 k2=>?_)
 have h:=z6 A6
 try dsimp only at h
 refine Ab (Ai I I)<|Aa<|Aj<|Bz I<|AZ I<|Ae<|Ab (Az I (Z0.memA .t1))<|bk h fun J1 c7 h=>Bd (.tuple #[.agg ((ab J1.1)).toArray,vI J1.2]) (bd 77) I (e1 I) (fun w9 hw9=>ac_c n (Z0.hL0 hL hw9) (⟨(⟨v0,I0⟩:Tg),(⟨x0,J0⟩:Tg)⟩:Td) (Z0.kd (Ag x2 q3) hw9) (Z0.kd (Ag y2 q3) hw9) c7) I<|Ab (Ai I I)<|Ab (Ai I I)<|AQ (ab J1.1) Z0 .t3 (ai I) fun M9 M2 t8=>Ah I<|Aa<|Ar I<|Au hb0 func25 I (.cons (.many (cs:=(ab J1.1)) I I (M2.memA .t3)) (.cons (.tmp I) .nil)) I ?_
 cases h
 exact M2.gv
 obtain ⟨y4,s7,rfl,k4,p4⟩:=cQ K6
 have h:=c6 _ _ D6
 unfold bG at h
 try dsimp only at h
 refine Ab (Ai I I)<|Aa<|Aj<|AG I<|Aq<|Av<|Ae<|Ab (FV.entry (D:=b0) K2 .t2 .hd p6 I)<|Ab (Ai I I)<|RG.nl [.bool false,vN,.bool false,vN] K2 fun P9 R7 B5 p2=>AQ [.bool W0.2.fj.fc,y4,.bool W0.2.fh.fc,s7] B5 .hd (o4 I (Ay (Ag k4 (Tt k2 p2))) I (Ay (Ag p4 (Tt k2 p2)))) fun Q9 G0 R5=>Aa<|Ae<|Bm 0 I<|Ab (AN (cs:=[.bool W0.2.fj.fc,y4]) I I (ac (G0.memA .hd) 0 2))<|bk h fun C4 d7 h=>?_
 have H0:=Tt k2 (Tt p2 R5)
 have z3:=Ag k4 H0
 refine Bd (vI C4) (bd 67) I (e1 I) (fun w9 hw9=>aW_c n (G0.hL0 hL hw9) W0.2.fj (G0.kd z3 hw9) d7) I<|Ab (FV.gtr (i:=C4) (j:=0) I I)<|Aa<|AV I h (fun G4 h=>?_) (fun G4 h=>?_)
 refine Am<|Ab (Az I (G0.memA .t2))<|Ab (Az I (G0.memA .hd))<|bk h fun V0 g7 h=>jE (bd 81) I (e2 I I) (fun w9 hw9=>aa_c n (G0.hL hL hw9) (⟨(⟨v0,I0⟩:Tg),(⟨x0,J0⟩:Tg)⟩:Td) (Af (Ag x2 H0) hw9) (Af (Ag y2 H0) hw9) W0.2 (Af z3 hw9) (Af (Ag p4 H0) hw9) g7) I fun R9 J8 U5 ⟨v4,x4,hu_,J3,K3⟩=>?_
 subst hu_
 obtain ⟨H4,C5⟩:=G0.agr U5
 refine AQ [.bool V0.fj.fc,v4,.bool V0.fh.fc,x4] H4 .t2 (o4 I (Ay J3) I (Ay K3)) fun K8 I4 V1=>Aa<|Ax ?_
 obtain ⟨J4,W1⟩:=AB I4 .d1
 exact H2 u4 (V0.fj.fc,V0.fj.fk,V0.fh.fc,V0.fh.fk,(A0.push q4),v4,x4) _ _ ⟨I,I,I,trivial⟩ ⟨J4,(Tt j2 (Tt H0 (Tt C5 (Tt V1 W1)))),v3,(Ag J3 (Tt V1 W1)),(Ag K3 (Tt V1 W1))⟩ h
 refine Aq<|Ax ?_
 obtain ⟨K4,X1⟩:=AB G0 .d1
 exact H2 u4 (v0,I0,x0,J0,(A0.push q4),E0,F0) _ _ ⟨I,I,I,trivial⟩ ⟨K4,(Tt j2 (Tt H0 X1)),v3,(Ag x2 (Tt H0 X1)),(Ag y2 (Tt H0 X1))⟩ h
 refine Ae<|Ab (AS (vs:=[]) (u:=.agg zM) am (fun w9=>by kernel_rfl))<|Ac I<|AQ zL M0 .t1 (ai I) fun M8 I2 k8=>Ah I<|Aa<|Ar I<|Au hb0 func25 I (.cons (.many (cs:=zL) I I (I2.memA .t1)) (.cons (.tmp I) .nil)) I ?_
 cases h
 exact I2.gv
def cW_p (n:Nat) (a0:Td) (a1:Td):Oa Td:=
  (aP_p n a0.fj a1.fh).bind fun b0=>(aP_p n a0.fh a1.fj).bind fun c0=>(cj_p n b0 c0).bind fun d0=>some d0
theorem cW_c (n:Nat) {L w} (hL:hl L w) (a0:Td) {v0_1:Vc} (h0_1:Rep.R w L [v0_1] a0.fj.fk) {v0_3:Vc} (h0_3:Rep.R w L [v0_3] a0.fh.fk) (a1:Td) {v1_1:Vc} (h1_1:Rep.R w L [v1_1] a1.fj.fk) {v1_3:Vc} (h1_3:Rep.R w L [v1_3] a1.fh.fk)  {r:Td} (h:cW_p n a0 a1 = some r) :
 Cl 90 #[.agg #[.bool a0.fj.fc,v0_1,.bool a0.fh.fc,v0_3],.agg #[.bool a1.fj.fc,v1_1,.bool a1.fh.fc,v1_3]] w (aj w fun w' u=>∃ v0_1 v0_3:Vc,u = .agg #[.bool r.fj.fc,v0_1,.bool r.fh.fc,v0_3]/\Rep.R w' L [v0_1] r.fj.fk/\Rep.R w' L [v0_3] r.fh.fk):=by
 unfold cW_p at h
 refine AM func90 I I I fun _ cs0 hb0=>Ae<|RG.bx (AL w) I I fun g1 M0 x0 R0=>RG.bx x0 I I fun j1 P0 y0 U0=>RG.nl [.bool false,vN,.bool false,vN] y0 fun k1 Q0 c0 V0=>Aa<|Aj<|du 11 fun b0 d0=>Rv 0 b0 I d0 (fun _=>Bg 0 I)<|Rx 1 3600 b0 I d0 (AN (cs:=[.bool a0.fj.fc,v0_1]) I I (ac (c0.memA .t2) 0 2))<|Rv 2 b0 I d0 (fun _=>Bg 2 I)<|Rx 3 3600 b0 I d0 (AN (cs:=[.bool a1.fh.fc,v1_3]) I I (ac (c0.memA .t1) 2 2))<|Rv 5 b0 I d0 (fun _=>Bg 2 I)<|Rx 6 3584 b0 I d0 (AN (cs:=[.bool a0.fh.fc,v0_3]) I I (ac (c0.memA .t2) 2 2))<|Rv 7 b0 I d0 (fun _=>Bg 0 I)<|Rx 8 3584 b0 I d0 (AN (cs:=[.bool a1.fj.fc,v1_1]) I I (ac (c0.memA .t1) 0 2))<|bk h fun J0 G0 h=>AX 4 511 b0 I .plain (bd 136) I (e2 I I) (fun w9 hw9=>aP_c n (c0.hL hL hw9) a0.fj (c0.km h0_1 hw9) a1.fh (c0.km h1_3 hw9) G0) I fun p1 b1 B0 ⟨Y0,hu_,E0⟩=>?_
 subst hu_
 obtain ⟨g0,W0⟩:=c0.agr B0
 refine bk h fun K0 H0 h=>AX 9 1023 b0 I .plain (bd 136) I (e2 I I) (fun w9 hw9=>aP_c n (g0.hL hL hw9) a0.fh (g0.km h0_3 hw9) a1.fj (g0.km h1_1 hw9) H0) I fun q1 c1 C0 ⟨Z0,hu_,F0⟩=>?_
 subst hu_
 obtain ⟨s0,A0⟩:=g0.agr C0
 refine bk h fun k0 I0 h=>AX 10 2047 b0 I .plain (bd 140) I (e2 I I) (fun w9 hw9=>cj_c n (s0.hL hL hw9) J0 (Af (Ag E0 A0) hw9) K0 (Af F0 hw9) I0) I fun s1 d1 D0 ⟨p0,q0,hu_,u0,v0⟩=>?_
 subst hu_
 obtain ⟨z0,X0⟩:=s0.agr D0
 refine BB 11 4095 b0 I I .plain (AC (news:=[.bool k0.fj.fc,p0,.bool k0.fh.fc,q0]) z0 .hd I I I I I I (o4 I (Ay u0) I (Ay v0))) fun u1 j0 t0=>AK (dk b0)<|Ar I<|Au hb0 func90 I (.cons (.many (cs:=[.bool k0.fj.fc,p0,.bool k0.fh.fc,q0]) I I (j0.memA .hd)) .nil) I ?_
 cases h
 exact ⟨j0.ag,fun w9 hw9=>⟨p0,q0,I,j0.kd (Ag u0 t0) hw9,j0.kd (Ag v0 t0) hw9⟩⟩
def di (n:Nat) (c0:Tb × Td) (g0:(Lb Ta) × Bool -> Oa ((Lb Ta) × Int)):(Lb Ta) × Bool -> Oa ((Lb Ta) × Int)
  | (p0,j0)=>(ac_p n c0.2).bind fun d0=>jn (fun k0=>(app p0 ([(⟨c0.1,d0.1⟩:Ta)]:Lb Ta)).bind fun q0=>g0 (q0,k0)) (fun b0=>(if d0.2 = 0 then b0 j0 else b0 true))
def cI_l1 (n:Nat) (a0:Lb Tb) (j0:Td) (g0:Nat × (Lb (Tb × Td)) -> Oa (Lb (Tb × Td))):Nat × (Lb (Tb × Td)) -> Oa (Lb (Tb × Td))
  | (c0,b0)=>(if c0 < a0.length then (a0[c0]?).bind fun d0=>ew (bD b0 d0) (g0 (c0 + 1,aC b0 d0 j0)) (fun k0=>(aa_p n j0 k0).bind fun p0=>g0 (c0 + 1,aC b0 d0 p0)) else some b0)
def cI_p (n:Nat) (a0:Lb Tb):Oa ((Lb Ta) × Int):=
  (if 400 < a0.length then some (([]:Lb Ta),(3:Int)) else (ar_p n ([]:Lb (Lb Ta)) a0).bind fun y4=>(if y4 = 0 then (if a0.length = 0 then some (([]:Lb Ta),(4:Int)) else (aL_p n (1:Int)).bind fun j0=>(aL_p n ((a0.length:Nat):Int)).bind fun k0=>(cW_p n j0 k0).bind fun p0=>Option.bind (ao (cI_l1 n a0 p0) n (0,([]:Lb (Tb × Td)))) (fun b0=>(if 400 < b0.length then some (([]:Lb Ta),(3:Int)) else mloop (fun (c0,d0)=>(if d0 = true then some (([]:Lb Ta),(6:Int)) else (bP_p n (ae ((c0.length:Nat):Int))).bind fun q0=>(gM (fun x9 y9=>aj_p n x9 y9) q0 c0).bind fun g0=>some (g0,(0:Int)))) (di n) n b0 (([]:Lb Ta),false)))) else some (([]:Lb Ta),y4)))
theorem cI_c (n:Nat) {L w} (hL:hl L w) {a0:Lb Tb} {v0_0:Vc} (h0_0:Rep.R w L [v0_0] a0)  {r:(Lb Ta) × Int} (h:cI_p n a0 = some r) :
 Cl 26 #[v0_0] w (aj w fun w' u=>∃ v0_0:Vc,u = .tuple #[v0_0,vI r.2]/\Rep.R w' L [v0_0] r.1):=by
 unfold cI_p at h
 have hS0:=AL w
 refine AM func26 I I I fun _ cs0 hb0=>Ae<|Ah I<|Ah I<|Aa<|Aj<|Ae<|Ac I ?_
 have hl1:=AY h0_0
 refine Ab (Ba (xs:=a0) underlying51 I h0_0)<|Ab (FV.gtrN (i:=a0.length) (j:=400) I I)<|Aa<|AV I h (fun c2 h=>?_) (fun c2 h=>?_)
 refine Ae<|Ah I<|Ah I<|Aa<|Ar I ?_
 have hr3:=Bo (α:=Ta) hS0 L
 refine Au hb0 func26 I (.cons (.tmp I) (.cons (.tmp I) .nil)) I ?_
 cases h
 exact ⟨hS0.ag,fun w9 hw9=>⟨vN,I,hS0.kd hr3 hw9⟩⟩
 refine Aq<|Aj<|Ae<|Ac I<|bk h fun y4 hy4 h=>Bd (vI y4) (bd 63) I (e2 I I) (fun w9 hw9=>ar_c n (hS0.hL0 hL hw9) (Af (Rep.nilSlice _ _) hw9) (hS0.kd h0_0 hw9) hy4) I<|Ah I<|Aa<|Ae<|Ac I<|Ab (BA (i:=y4) (j:=0) I I)<|Aa<|BI I h (fun c5 h=>?_) (fun c5 h=>?_)
 refine Aq<|Aj<|Ae<|Ac I<|Ab (Ba (xs:=a0) underlying51 I h0_0)<|Ab (FV.eqlN (i:=a0.length) (j:=0) I I)<|Aa<|AV I h (fun c6 h=>?_) (fun c6 h=>?_)
 refine Ae<|Ah I<|Ah I<|Aa<|Ar I ?_
 have hr7:=Bo (α:=Ta) hS0 L
 refine Au hb0 func26 I (.cons (.tmp I) (.cons (.tmp I) .nil)) I ?_
 cases h
 exact ⟨hS0.ag,fun w9 hw9=>⟨vN,I,hS0.kd hr7 hw9⟩⟩
 refine Aq<|Ae<|Ao .plain I (Does.makeMap (κ:=Tb) (ν:=Lb Vc) hS0) fun P6 c0 P1 v6=>?_
 have y5:=MR.at_ (Z:=([]:Lb (Tb × Lb Vc))) (M:=([]:Lb (Tb × Td))) P1 L trivial
 refine Ab (AS (vs:=[.map (some c0)]) (u:=.agg #[.map (some c0),.bool false]) (e1 I) (fun w9=>by kernel_rfl))<|RG.bx P1 I I fun Q6 x0 Q1 F3=>Ah I<|Aa<|Ae<|bk h fun I5 p5 h=>jE (bd 71) I (e1 I) (fun w9 hw9=>aL_c n (Q1.hL hL hw9)  p5) I fun R6 I6 k4 ⟨E6,F6,hu_,P4,R4⟩=>?_
 subst hu_
 obtain ⟨g1,G3⟩:=Q1.agr k4
 refine Ac I<|Ab (Ba (xs:=a0) underlying51 I (AH h0_0 g1))<|bk h fun J5 q5 h=>jE (bd 71) I (e1 I) (fun w9 hw9=>aL_c n (g1.hL hL hw9)  q5) I fun Z6 J6 p4 ⟨G6,H6,hu_,W4,X4⟩=>?_
 subst hu_
 obtain ⟨R1,v1⟩:=g1.agr p4
 refine bk h fun b0 u5 h=>jE (bd 90) I (e2 I I) (fun w9 hw9=>cW_c n (R1.hL hL hw9) I5 (Af (Ag P4 v1) hw9) (Af (Ag R4 v1) hw9) J5 (Af W4 hw9) (Af X4 hw9) u5) I fun q7 M6 s4 ⟨s0,t0,hu_,E1,F1⟩=>?_
 subst hu_
 obtain ⟨q3,M3⟩:=R1.agr s4
 refine RG.nl [.bool false,vN,.bool false,vN] q3 fun s7 D0 s3 P0=>AQ [.bool b0.fj.fc,s0,.bool b0.fh.fc,t0] s3 .hd (o4 I (Ay (Ag E1 P0)) I (Ay (Ag F1 P0))) fun t7 X1 y1=>Aa<|Aj<|Ae<|Ac I<|Ab (Ba (xs:=a0) underlying51 I (AH h0_0 X1))<|Ac I<|Aa<|Av ?_
 obtain ⟨D6,K4,B4⟩:=ap h
 refine BP (α:=Nat × (Lb (Tb × Td)) × (Lb (Tb × Lb Vc))) (fun ⟨q0,y0,d0⟩=>[(5,vP x0),(6,vP D0),(28,v0_0),(29,vn a0.length),(30,vn q0)]) (fun ⟨q0,y0,d0⟩=>[.cells D0 [.bool b0.fj.fc,s0,.bool b0.fh.fc,t0] 109,.cells x0 [.map (some c0),.bool false] 126,.obj c0 (aA d0)]) (fun ⟨q0,y0,d0⟩ J2=>MR J2 (bl [.cells D0 [.bool b0.fj.fc,s0,.bool b0.fh.fc,t0] 109,.cells x0 [.map (some c0),.bool false] 126,.obj c0 (aA d0)] ++ L) d0 y0) (fun ⟨q0,y0,d0⟩=>(q0,y0)) (0,([]:Lb (Tb × Td)),([]:Lb (Tb × Lb Vc))) K4 X1 (BO y5 (Tt F3 (Tt G3 (Tt v1 (Tt M3 (Tt P0 y1)))))) ?_
 rintro P5 ⟨q0,y0,d0⟩ J2 K1 A0 X0 R0 h
 unfold cI_l1 at h
 try dsimp only at h
 refine Ae<|Ab (AU (i:=q0) (j:=a0.length) I I)<|Aa<|Aj<|AV I h (fun P2 h=>?_) (fun P2 h=>?_)
 refine Aq<|Aj<|Av<|Ae<|bk h fun p0 g5 h=>?_
 obtain ⟨K5,d6,z4,D4,j6,Q4,G4⟩:=Bh (AH h0_0 A0) g5
 obtain rfl:=dh Q4
 refine Ab (Be 16 q0 I z4 I I D4)<|Ab (Az I G4)<|RG.nl zL A0 fun U6 U5 X2 Y1=>AQ (ab p0) X2 .hd (ai I) fun V6 U0 Z1=>Aa<|du 6 fun z0 I0=>Rv 0 z0 I I0 (fun _=>Al I)<|Rv 1 z0 I I0 (fun _=>By I)<|Rv 2 z0 I I0 (fun _=>Bg 0 I)<|Rx 3 64 z0 I I0 (Bp I ((U0.memA .t2) 0 _ I))<|Rx 4 64 z0 I I0 (Az I (U0.memA .hd))<|Rx 5 64 z0 I I0 (Az I (U0.memA .t1))<|BK (i:=6) (rk z0) (RO.enterPT (m' :=127) (fst:=[]) (cap:=[]) (vs:=[.map (some c0),.agg ((ab p0)).toArray,.agg #[.bool b0.fj.fc,s0,.bool b0.fh.fc,t0]]) (sk z0) I I .plain (bd 88) func88 I I I I (e3 I I I) I (fun _ k6 u2 A6=>?_))
 refine Ae<|RG.bx U0 I I fun W6 V5 Y2 b2=>RG.bx Y2 I I fun X6 W5 K0 d2=>Aa<|Aj<|Ae<|Ac I<|Ab (Az I (K0.memA .t1)) ?_
 have C1:=Tt Y1 (Tt Z1 (Tt b2 d2))
 have H4:=BO R0 C1
 rcases MR.get p0 H4 with ⟨B1,G1⟩ | ⟨p6,H1,G1,B1,U4⟩
 have h:=dp h B1
 refine Ab (FV.lookupK (kv:=p0) (q:=false) ar K0 .t5 underlying124 (z:=.agg #[.bool false,vN,.bool false,vN]) I I I (.inl ⟨G1,I,I⟩))<|Ac I<|Ab (Ai I I)<|Ab (Ai I I)<|RG.nl [.bool false,vN,.bool false,vN] K0 fun Y6 X5 Z2 H3=>AQ [.bool false,vN,.bool false,vN] Z2 .hd (ai I) fun b7 j1 I3=>Ah I<|Aa<|Ae<|Ac I<|Aa<|Bz I<|Aq<|Am<|Ac I<|Ab (Az I (j1.memA .t2))<|Ab (Az I (j1.memA .t1)) ?_
 have D1:=Tt C1 (Tt H3 I3)
 have x2:=Tt P0 (Tt y1 (Tt X0 D1))
 refine RG.now .plain (BL (kv:=p0) (vv:=[.bool b0.fj.fc,s0,.bool b0.fh.fc,t0]) ar j1 .t6 underlying124 I I I) fun c7 b3 g2=>Aa<|MX.fin I<|Au (u:=.tuple #[]) u2 func88 I .nil I<|AK (dk z0)<|Ax<|Am<|Ab (Bc (i:=q0) (j:=1) I I (by omega))<|Ac I<|Aa ?_
 obtain ⟨c3,j2⟩:=AB b3 .d4
 exact K1 (q0 + 1,aC y0 p0 b0,(aC d0 p0 [.bool b0.fj.fc,s0,.bool b0.fh.fc,t0])) c3 (Tt X0 (Tt D1 (Tt g2 j2))) (BO (MR.set (k:=p0) (c:=[.bool b0.fj.fc,s0,.bool b0.fh.fc,t0]) (y:=b0) (cG b0.fj (Ag E1 x2) b0.fh (Ag F1 x2)) (BO R0 D1)) (Tt g2 j2)) h
 have h:=cZ h B1
 obtain ⟨A5,B5,rfl,B2,C2⟩:=cQ U4
 refine Ab (FV.lookupK (kv:=p0) (q:=true) ar K0 .t5 underlying124 (z:=.agg #[.bool false,vN,.bool false,vN]) I I I (.inr ⟨_,G1,I,I⟩))<|Ac I<|Ab (Ai I I)<|Ab (Ai I I)<|RG.nl [.bool false,vN,.bool false,vN] K0 fun d7 Y5 g3 H0=>AQ [.bool H1.fj.fc,A5,.bool H1.fh.fc,B5] g3 .hd (o4 I (Ay (Ag B2 H0)) I (Ay (Ag C2 H0))) fun g7 V0 Y0=>Ah I<|Aa<|Ae<|Ac I<|Aa<|AG I<|Am<|Ab (Az I (V0.memA .t1))<|Ab (Az I (V0.memA .hd))<|bk h fun v0 s5 h=>?_
 have y2:=Tt P0 (Tt y1 (Tt X0 (Tt Y1 (Tt Z1 (Tt b2 (Tt d2 (Tt H0 Y0)))))))
 refine jE (bd 81) I (e2 I I) (fun w9 hw9=>aa_c n (V0.hL hL hw9) b0 (Af (Ag E1 y2) hw9) (Af (Ag F1 y2) hw9) H1 (Af (Ag B2 (Tt H0 Y0)) hw9) (Af (Ag C2 (Tt H0 Y0)) hw9) s5) I fun j7 K6 q4 ⟨Z0,b1,hu_,D2,E2⟩=>?_
 subst hu_
 obtain ⟨j3,J3⟩:=V0.agr q4
 refine AQ [.bool v0.fj.fc,Z0,.bool v0.fh.fc,b1] j3 .t1 (o4 I (Ay D2) I (Ay E2)) fun k7 k1 x1=>Aa<|Am<|Ac I<|Ab (Az I (k1.memA .t2))<|Ab (Az I (k1.memA .t1)) ?_
 have z2:=Tt C1 (Tt H0 (Tt Y0 (Tt J3 x1)))
 refine RG.now .plain (BL (kv:=p0) (vv:=[.bool v0.fj.fc,Z0,.bool v0.fh.fc,b1]) ar k1 .t6 underlying124 I I I) fun p7 k3 k2=>Aa<|MX.fin I<|Au (u:=.tuple #[]) u2 func88 I .nil I<|AK (dk z0)<|Ax<|Am<|Ab (Bc (i:=q0) (j:=1) I I (by omega))<|Ac I<|Aa ?_
 obtain ⟨p3,p2⟩:=AB k3 .d4
 exact K1 (q0 + 1,aC y0 p0 v0,(aC d0 p0 [.bool v0.fj.fc,Z0,.bool v0.fh.fc,b1])) p3 (Tt X0 (Tt z2 (Tt k2 p2))) (BO (MR.set (k:=p0) (c:=[.bool v0.fj.fc,Z0,.bool v0.fh.fc,b1]) (y:=v0) (cG v0.fj (Ag D2 x1) v0.fh (Ag E2 x1)) (BO R0 z2)) (Tt k2 p2)) h
 refine AZ I ?_
 have h:=B4 _ h
 try dsimp only at h
 refine Ae<|Ac I<|BE (fst:=[]) (cap:=[]) (vs:=[vP x0]) .plain (bd 87) func87 I I I I (e1 I) I fun q6 A1 B6=>Ae<|Ah I<|Ah I<|Aa<|Aj<|Ae<|Ac I<|Ab (By I)<|Bm 0 I<|Bf I ((A0.memA .t1) 0 _ I)<|Ab (FV.as (FV.len_map (D:=d0) A0 .t2 underlying124 I) (congrArg (fun n9:Nat=>Value.int .i64 (n9:Int)) (MR.len R0)))<|Ab (FV.gtrN (i:=y0.length) (j:=400) I I)<|Aa<|AV I h (fun Q2 h=>?_) (fun Q2 h=>?_)
 refine Ae<|Ah I<|Ah I<|Aa<|Ar I<|Au (u:=.tuple #[vN,vI 3]) A1 func87 I (.cons (.tmp I) (.cons (.tmp I) .nil)) I<|Ab (Ai I I)<|Ab (Ai I I)<|Ah I<|Ah I<|Aa<|Ar I ?_
 have V4:=Bo (α:=Ta) A0 L
 refine Au hb0 func26 I (.cons (.tmp I) (.cons (.tmp I) .nil)) I ?_
 cases h
 exact ⟨A0.ag,fun w9 hw9=>⟨vN,I,A0.kd V4 hw9⟩⟩
 refine Aq<|Ae<|Ah I<|Aa<|Aj<|Ae<|Ac I<|Ab (By I)<|Bm 0 I<|Bf I ((A0.memA .t1) 0 _ I)<|Ao .plain I (Does.range (D:=d0) A0 .t2 underlying124 I) fun F5 G0 U1 K3=>Aa<|Av ?_
 have V1:=U1.nilRow 37 (Rep.size Ta)
 refine MX.mloop (α:=(Lb Ta) × Bool × Vc × (Lb Vc) × (Array Nat)) (fun ⟨u0,B0,k0,E0,C0⟩=>[(0,vP x0),(4,k0),(19,vP G0)]) (fun I2 ⟨u0,B0,k0,E0,C0⟩ c1=>St w c1 [rr w 37 Ta k0 u0.length E0,.obj G0 (aD c0 d0.length C0),.cells D0 [.bool b0.fj.fc,s0,.bool b0.fh.fc,t0] 109,.cells x0 [.map (some c0),.bool B0] 126,.obj c0 (aA d0)]/\Tr F5 [rr w 37 Ta vN (([]:Lb Ta).length) [],.obj G0 (aD c0 d0.length #[]),.cells D0 [.bool b0.fj.fc,s0,.bool b0.fh.fc,t0] 109,.cells x0 [.map (some c0),.bool false] 126,.obj c0 (aA d0)] c1 [rr w 37 Ta k0 u0.length E0,.obj G0 (aD c0 d0.length C0),.cells D0 [.bool b0.fj.fc,s0,.bool b0.fh.fc,t0] 109,.cells x0 [.map (some c0),.bool B0] 126,.obj c0 (aA d0)]/\Cells c1 (bl [rr w 37 Ta k0 u0.length E0,.obj G0 (aD c0 d0.length C0),.cells D0 [.bool b0.fj.fc,s0,.bool b0.fh.fc,t0] 109,.cells x0 [.map (some c0),.bool B0] 126,.obj c0 (aA d0)] ++ L) E0 u0/\left y0 C0 = I2) (fun ⟨u0,B0,k0,E0,C0⟩=>(u0,B0)) (([]:Lb Ta),false,vN,[],#[]) h ⟨rfl,rfl,rfl,trivial⟩ ⟨V1,BM _ _,(AI (cs:=[]) (xs:=([]:Lb Ta)) V1 L (AT _ _)),(cT _)⟩ ?_
 rintro I2 ⟨u0,B0,k0,E0,C0⟩ c1 Q5 W2 ⟨u3,q2,v2,E4⟩ I4 x4
 refine Ae<|RG.nextR (W:=d0) (BO R0 (Tt K3 (Tt (BW U1 37 (Rep.size Ta)) q2))) u3 .t4 (fun _=>.t1) I I E4 (fun u7 J4 F0 P3=>?_) (fun v7 H2 g0 s6 z5 C4 Y4 M4 F4 W1 Q3=>?_)
 have h:=I4 J4
 try dsimp only at h
 refine Ab (Ai I I)<|Aa<|Aj<|Bz I<|AZ I<|Aj<|Ae<|Ac I<|Ab (By I)<|Bm 1 I<|Bf I ((F0.memA .t3) 1 _ I)<|Aa<|MX.ifb I h (fun R2 h=>?_) (fun R2 h=>?_)
 refine Ae<|Ah I<|Ah I<|Aa<|Ar I<|Au (u:=.tuple #[vN,vI 6]) A1 func87 I (.cons (.tmp I) (.cons (.tmp I) .nil)) I<|Ab (Ai I I)<|Ab (Ai I I)<|Ah I<|Ah I<|Aa<|Ar I ?_
 have Z4:=Bo (α:=Ta) F0 L
 refine Au hb0 func26 I (.cons (.tmp I) (.cons (.tmp I) .nil)) I ?_
 cases h
 exact ⟨F0.ag,fun w9 hw9=>⟨vN,I,F0.kd Z4 hw9⟩⟩
 refine Aq<|Ae<|Ac I<|BE (fst:=[]) (cap:=[]) (vs:=[k0,.func (.func 144) #[] #[]]) .plain (bd 143) func143 I I I I (e2 I I) I fun u6 u4 C6=>Ae<|Ac I ?_
 have z6:u0.length <= 4294967296:=St.rowLe (α:=Ta) F0 .hd
 obtain ⟨M5,g6,A4⟩:=St.rowV (α:=Ta) F0 .hd
 refine Ab (FV.lenV underlying24 I A4)<|Ah I<|Aa<|Am<|Ac I<|Ac I<|Ac I<|Ab (FV.convU (i:=((u0.length:Nat):Int)) underlying3 underlying193 I)<|bk h fun M2 v5 h=>Bd (vI M2) (bd 174) I (e1 I) (fun w9 hw9=>bP_c n (F0.hL0 hL hw9) (ae ((u0.length:Nat):Int)) v5) I<|Ac I<|bk h fun K2 j5 h=>RG.sort (enc:=av) (ρ:=Tryz.srt173_ren) (c:=(fun x9 y9=>aj_p n x9 y9)) (li:=M2) j5 I (fun _ _ _ _ h9=>aF h9) (fun w9 L9 z9=>aW (w:=w9) (L:=L9) z9.fm z9.fP) Tryz.srt173 (fun w9=>Tryz.isAgg37 w9) (fun w9=>Tryz.sizeOf37 w9) (enters_of func144 I I) (fun x9 y9 r9 w9 h9=>aj_c n (L:=[]) (w:=w9) (fun _ h8=>nomatch h8) x9 y9 h9) .plain (bd 173) I (e5 I I I I I) I F0 (AR v2 P3) .hd fun G5 W0 x6=>Aa<|MX.fin I<|Au (u:=.tuple #[]) u4 func143 I .nil I<|Aa<|Ae<|Ac I<|Ah I<|Ah I<|Aa<|Ar I<|Au (u:=.tuple #[k0,vI 0]) A1 func87 I (.cons (.tmp I) (.cons (.tmp I) .nil)) I<|Ab (Ai I I)<|Ab (Ai I I)<|Ah I<|Ah I<|Aa<|Ar I ?_
 have p1:=Bu W0 .hd
 have y6:=Bv W0 .hd
 have b5:=Bw (α:=Ta) (v:=k0) (xs:=K2) p1 L (Bi (α:=Ta) W0 .hd (AI W0 L (bS (α:=Ta) (enc:=av) (fun w9 L9 z9=>aW (w:=w9) (L:=L9) z9.fm z9.fP) G5 _ K2)) hL)
 refine Au hb0 func26 I (.cons (.tmp I) (.cons (.tmp I) .nil)) I ?_
 cases h
 exact ⟨p1.ag,fun w9 hw9=>⟨k0,I,p1.kd b5 hw9⟩⟩
 obtain ⟨C5,D5,rfl,F2,G2⟩:=cQ Y4
 have h:=x4 _ _ M4
 unfold di at h
 try dsimp only at h
 refine Ab (Ai I I)<|Aa<|Aj<|AG I<|Aq<|Av<|Ae<|Ab (FV.entry (D:=d0) W1 .t4 .t1 C4 I)<|Ab (Ai I I)<|Ab (Ai I I)<|RG.nl zL W1 fun x7 I1 v3 R3=>RG.nl [.bool false,vN,.bool false,vN] v3 fun y7 Z5 x3 U3=>AQ (ab g0.1) x3 .t1 (ai I) fun z7 y3 V3=>?_
 have Q0:=Tt Q3 (Tt R3 (Tt U3 V3))
 refine AQ [.bool g0.2.fj.fc,C5,.bool g0.2.fh.fc,D5] y3 .hd (o4 I (Ay (Ag F2 Q0)) I (Ay (Ag G2 Q0))) fun A7 M0 z1=>Aa<|Ae<|Ab (Az I (M0.memA .hd))<|bk h fun j0 x5 h=>Bd (.tuple #[.agg ((ab j0.1)).toArray,vI j0.2]) (bd 77) I (e1 I) (fun w9 hw9=>ac_c n (M0.hL0 hL hw9) g0.2 (M0.kd (Ag F2 (Tt Q0 z1)) hw9) (M0.kd (Ag G2 (Tt Q0 z1)) hw9) x5) I<|Ac I<|Ab (Ai I I)<|Ab (Ai I I)<|RG.nl zL M0 fun B7 J1 z3 W3=>AQ (ab j0.1) z3 .hd (ai I) fun C7 q1 X3=>Ah I<|Aa<|Aj<|Ae<|Ac I<|Ab (BA (i:=j0.2) (j:=0) I I)<|Aa<|MX.jo (α:=Bool) (fun J0=>[(0,vP x0),(4,k0),(19,vP G0),(5,vP I1),(7,vP J1)]) (fun J0=>[.cells J1 (ab j0.1) 34,.cells I1 (ab g0.1) 34,rr w 37 Ta k0 u0.length E0,.obj G0 (aD c0 d0.length (C0.push H2)),.cells D0 [.bool b0.fj.fc,s0,.bool b0.fh.fc,t0] 109,.cells x0 [.map (some c0),.bool J0] 126,.obj c0 (aA d0)]) (fun J0=>J0) q1 h ?_ ?_
 rintro J0 G7 s1 Y3 h
 try dsimp only at h
 refine Am<|Ac I<|Ab (Az I (s1.memA .t1))<|Ab (Az I (s1.memA .hd))<|Ab (AS (vs:=[.agg ((ab g0.1)).toArray,.agg ((ab j0.1)).toArray]) (u:=.agg ((ab g0.1 ++ ab j0.1)).toArray) (e2 I I) (fun w9=>by kernel_rfl))<|Ao .plain I (AW (α:=Ta) (xs:=([(⟨g0.1,j0.1⟩:Ta)]:Lb Ta)) (vs:=[.agg ((ab g0.1 ++ ab j0.1)).toArray]) (ds' :=(ab g0.1 ++ ab j0.1)) I s1 cW I (e1 I) (by kernel_rfl) I) fun D7 b6 u1 Z3=>bk h fun H5 k5 h=>?_
 have A2:=Tt Q0 (Tt z1 (Tt W3 (Tt X3 (Tt Y3 Z3))))
 refine BD .plain I (Bn (α:=Ta) (ys:=([(⟨g0.1,j0.1⟩:Ta)]:Lb Ta)) k5 u1 (fun _ _=>.t3) cW I I (AR v2 A2) (BH (α:=Ta) u1 .hd (AI (cs:=(ab g0.1 ++ ab j0.1)) (xs:=(([(⟨g0.1,j0.1⟩:Ta)]:Lb Ta):Lb Ta)) u1 L (AE (cs:=(ab g0.1 ++ ab j0.1)) (ds:=[]) (aW g0.1 j0.1) (AT _ _))))) fun E5 E7 ⟨V2,A3,b4,v4⟩=>Ah I<|Aa<|Ax ?_
 obtain ⟨B3,s2⟩:=AB A3 .d3
 exact W2 z5 (H5,J0,E5,V2,(C0.push H2)) _ _ ⟨I,I,I,trivial⟩ ⟨B3,(Tt q2 (Tt A2 (Tt b4 s2))),(AR v4 s2),F4⟩ h
 intro R5 M1 h
 try dsimp only at h
 refine BI I h (fun U2 h=>?_) (fun U2 h=>?_)
 refine Aq ?_
 obtain ⟨C3,c4⟩:=AB q1 (.a0 .d1)
 exact M1 B0 C3 c4 h
 refine Am<|Ac I<|Ab (By I)<|Bm 1 I<|RG.now .plain (BU (j:=1) (old:=[.map (some c0),.bool B0]) (news:=[.bool true]) (new' :=[.map (some c0),.bool true]) q1 .t6 I I I I I I (o1 I) I) fun F7 D3 g4=>Aa ?_
 obtain ⟨E3,j4⟩:=AB D3 (.a0 .d1)
 exact M1 true E3 (Tt g4 j4) h
 refine Ae<|Ac I<|Ah I<|Ah I<|Aa<|Ar I ?_
 have d5:=Bo (α:=Ta) hS0 L
 refine Au hb0 func26 I (.cons (.tmp I) (.cons (.tmp I) .nil)) I ?_
 cases h
 exact ⟨hS0.ag,fun w9 hw9=>⟨vN,I,hS0.kd d5 hw9⟩⟩

def bR_l1 (n:Nat) (a0:Lb Ta) (a1:Tb) (z0:Nat × Bool × (Lb Ua) × Bool × (Lb Ua) × Bool × (Lb Ua) × Bool × (Lb Ua) -> Oa (Bool × (Lb Ua) × Bool × (Lb Ua) × Bool × (Lb Ua) × Bool × (Lb Ua))):Nat × Bool × (Lb Ua) × Bool × (Lb Ua) × Bool × (Lb Ua) × Bool × (Lb Ua) -> Oa (Bool × (Lb Ua) × Bool × (Lb Ua) × Bool × (Lb Ua) × Bool × (Lb Ua))
  | (q0,s0,v0,t0,x0,b0,d0,c0,g0)=>(if q0 < a0.length then (a0[q0]?).bind fun u0=>(ak_p n u0.fm).bind fun I0=>(ak_p n a1).bind fun J0=>(aN_p n I0 J0).bind fun y0=>jn (fun (A0,E0,B0,F0,C0,G0,D0,H0)=>z0 (q0 + 1,A0,E0,B0,F0,C0,G0,D0,H0)) (fun p0=>(if y0 < 0 then (bn_p n u0).bind fun K0=>(aa_p n (⟨(⟨b0,d0⟩:Tg),(⟨c0,g0⟩:Tg)⟩:Td) K0).bind fun j0=>p0 (s0,v0,t0,x0,j0.fj.fc,j0.fj.fk,j0.fh.fc,j0.fh.fk) else (if y0 = 0 then (bn_p n u0).bind fun k0=>p0 (k0.fj.fc,k0.fj.fk,k0.fh.fc,k0.fh.fk,b0,d0,c0,g0) else p0 (s0,v0,t0,x0,b0,d0,c0,g0)))) else some (b0,d0,c0,g0,s0,v0,t0,x0))
def bR_p (n:Nat) (a0:Lb Ta) (a1:Tb):Oa (Tb × Tb × Int):=
  (ar_p n ([a0]:Lb (Lb Ta)) ([a1]:Lb Tb)).bind fun d0=>(if d0 = 0 then (aL_p n (0:Int)).bind fun b0=>(aL_p n (0:Int)).bind fun c0=>Option.bind (ao (bR_l1 n a0 a1) n (0,c0.fj.fc,c0.fj.fk,c0.fh.fc,c0.fh.fk,b0.fj.fc,b0.fj.fk,b0.fh.fc,b0.fh.fk)) (fun (q0,v0,s0,x0,k0,t0,p0,u0)=>(ac_p n (⟨(⟨q0,v0⟩:Tg),(⟨s0,x0⟩:Tg)⟩:Td)).bind fun g0=>(ac_p n (⟨(⟨k0,t0⟩:Tg),(⟨p0,u0⟩:Tg)⟩:Td)).bind fun j0=>(if g0.2 = 0 then (if j0.2 = 0 then some (g0.1,j0.1,(0:Int)) else some ((⟨(0,0,0,0,0,0,0,0),(0,0,0,0,0,0,0,0)⟩:Tb),(⟨(0,0,0,0,0,0,0,0),(0,0,0,0,0,0,0,0)⟩:Tb),(6:Int))) else some ((⟨(0,0,0,0,0,0,0,0),(0,0,0,0,0,0,0,0)⟩:Tb),(⟨(0,0,0,0,0,0,0,0),(0,0,0,0,0,0,0,0)⟩:Tb),(6:Int)))) else some ((⟨(0,0,0,0,0,0,0,0),(0,0,0,0,0,0,0,0)⟩:Tb),(⟨(0,0,0,0,0,0,0,0),(0,0,0,0,0,0,0,0)⟩:Tb),d0))
theorem bR_c (n:Nat) {L w} (hL:hl L w) {a0:Lb Ta} {v0_0:Vc} (h0_0:Rep.R w L [v0_0] a0) (a1:Tb)  {r:Tb × Tb × Int} (h:bR_p n a0 a1 = some r) :
 Cl 27 #[v0_0,.agg ((ab a1)).toArray] w (aj w fun _ u=>u = .tuple #[.agg ((ab r.1)).toArray,.agg ((ab r.2.1)).toArray,vI r.2.2]):=by
 unfold bR_p at h
 refine AM func27 I I I fun _ cs0 hb0=>Ae<|RG.bx (AL w) I I fun D7 g0 X3 J6=>RG.nl zL X3 fun E7 b0 Y3 K6=>RG.nl zL Y3 fun G7 c0 J2 Q6=>Ah I<|Aa<|Aj<|Ae<|Ac I ?_
 obtain ⟨z6,G6,U5,_⟩:=Bl (AH h0_0 J2)
 refine Ao .plain I (AW (α:=Lb Ta) (xs:=([a0]:Lb (Lb Ta))) (vs:=[v0_0]) (ds' :=[v0_0]) I J2 me I (e1 I) (by rw [U5]; try kernel_rfl) I) fun H7 D6 H1 V6=>Ab (Az I (H1.memA .t3))<|Ao .plain I (AW (α:=Tb) (xs:=([a1]:Lb Tb)) (vs:=[.agg ((ab a1)).toArray]) (ds' :=(ab a1)) I H1 gA I (e1 I) (by kernel_rfl) I) fun J7 E6 B0 W4=>bk h fun D2 W5 h=>Bd (vI D2) (bd 63) I (e2 I I) (fun w9 hw9=>ar_c n (B0.hL0 hL hw9) (Af (St.lend (α:=Lb Ta) (L:=L) B0 .t1 (AR (AI (cs:=[v0_0]) (xs:=(([a0]:Lb (Lb Ta)):Lb (Lb Ta))) H1 L (AE (cs:=[v0_0]) (ds:=[]) (AH h0_0 H1) (AT _ _))) W4) hL) hw9) (Af (St.lend (α:=Tb) (L:=L) B0 .hd (AI (cs:=(ab a1)) (xs:=(([a1]:Lb Tb):Lb Tb)) B0 L (AE (cs:=(ab a1)) (ds:=[]) (ci a1.fN a1.fD) (AT _ _))) hL) hw9) W5) I<|Ah I<|Aa<|Ae<|Ac I<|Ab (BA (i:=D2) (j:=0) I I)<|Aa<|BI I h (fun M3 h=>?_) (fun M3 h=>?_)
 refine Aq<|Ae<|bk h fun s1 X5 h=>jE (bd 71) I (e1 I) (fun w9 hw9=>aL_c n (B0.hL hL hw9)  X5) I fun M7 v7 p5 ⟨D3,E3,hu_,k3,p3⟩=>?_
 subst hu_
 obtain ⟨K2,Y6⟩:=B0.agr p5
 refine bk h fun u1 c6 h=>jE (bd 71) I (e1 I) (fun w9 hw9=>aL_c n (K2.hL hL hw9)  c6) I fun W7 z7 u5 ⟨F3,G3,hu_,u3,v3⟩=>?_
 subst hu_
 obtain ⟨z4,x2⟩:=K2.agr u5
 refine RG.nl [.bool false,vN,.bool false,vN] z4 fun d8 u0 J4 Z2=>RG.nl [.bool false,vN,.bool false,vN] J4 fun q8 v0 M4 b3=>?_
 have j3:=Tt x2 (Tt Z2 b3)
 refine AQ [.bool s1.fj.fc,D3,.bool s1.fh.fc,E3] M4 .t1 (o4 I (Ay (Ag k3 j3)) I (Ay (Ag p3 j3))) fun s8 P4 j5=>?_
 have z2:=Tt Z2 (Tt b3 j5)
 refine AQ [.bool u1.fj.fc,F3,.bool u1.fh.fc,G3] P4 .hd (o4 I (Ay (Ag u3 z2)) I (Ay (Ag v3 z2))) fun t8 Q2 k5=>Aa<|Aj<|Ae<|Ac I ?_
 have c3:=AH h0_0 Q2
 have g7:=AY c3
 refine Ab (Ba (xs:=a0) underlying24 I c3)<|Ac I<|Aa<|Av ?_
 obtain ⟨s4,Z4⟩:=AB Q2 (.a0 (.a0 .d2))
 have X1:=Tt z2 (Tt k5 Z4)
 obtain ⟨j7,D5,A5⟩:=ap h
 refine BP (α:=Nat × Bool × (Lb Ua) × Bool × (Lb Ua) × Bool × (Lb Ua) × Bool × (Lb Ua) × Vc × Vc × Vc × Vc) (fun ⟨C0,q0,W0,s0,X0,k0,U0,p0,V0,x0,y0,z0,A0⟩=>[(3,vP g0),(4,vP b0),(5,vP c0),(8,vP u0),(9,vP v0),(28,v0_0),(29,vn a0.length),(30,vn C0)]) (fun ⟨C0,q0,W0,s0,X0,k0,U0,p0,V0,x0,y0,z0,A0⟩=>[.cells v0 [.bool q0,x0,.bool s0,y0] 109,.cells u0 [.bool k0,z0,.bool p0,A0] 109,.cells c0 zL 34,.cells b0 zL 34,.cells g0 (ab a1) 34]) (fun ⟨C0,q0,W0,s0,X0,k0,U0,p0,V0,x0,y0,z0,A0⟩ A1=>Rep.R A1 (bl [.cells v0 [.bool q0,x0,.bool s0,y0] 109,.cells u0 [.bool k0,z0,.bool p0,A0] 109,.cells c0 zL 34,.cells b0 zL 34,.cells g0 (ab a1) 34] ++ L) [x0] W0/\Rep.R A1 (bl [.cells v0 [.bool q0,x0,.bool s0,y0] 109,.cells u0 [.bool k0,z0,.bool p0,A0] 109,.cells c0 zL 34,.cells b0 zL 34,.cells g0 (ab a1) 34] ++ L) [y0] X0/\Rep.R A1 (bl [.cells v0 [.bool q0,x0,.bool s0,y0] 109,.cells u0 [.bool k0,z0,.bool p0,A0] 109,.cells c0 zL 34,.cells b0 zL 34,.cells g0 (ab a1) 34] ++ L) [z0] U0/\Rep.R A1 (bl [.cells v0 [.bool q0,x0,.bool s0,y0] 109,.cells u0 [.bool k0,z0,.bool p0,A0] 109,.cells c0 zL 34,.cells b0 zL 34,.cells g0 (ab a1) 34] ++ L) [A0] V0) (fun ⟨C0,q0,W0,s0,X0,k0,U0,p0,V0,x0,y0,z0,A0⟩=>(C0,q0,W0,s0,X0,k0,U0,p0,V0)) (0,u1.fj.fc,u1.fj.fk,u1.fh.fc,u1.fh.fk,s1.fj.fc,s1.fj.fk,s1.fh.fc,s1.fh.fk,F3,G3,D3,E3) D5 s4 ⟨(Ag u3 X1),(Ag v3 X1),(Ag k3 (Tt x2 X1)),(Ag p3 (Tt x2 X1))⟩ ?_
 rintro B6 ⟨C0,q0,W0,s0,X0,k0,U0,p0,V0,x0,y0,z0,A0⟩ A1 W3 b1 b5 ⟨A2,B2,Z1,b2⟩ h
 unfold bR_l1 at h
 try dsimp only at h
 refine Ae<|Ab (AU (i:=C0) (j:=a0.length) I I)<|Aa<|Aj<|AV I h (fun P3 h=>?_) (fun P3 h=>?_)
 refine Aq<|Aj<|Av<|Ae<|bk h fun C1 V5 h=>?_
 obtain ⟨A6,H6,z5,B5,I6,E5,C5⟩:=Bh (AH h0_0 b1) V5
 obtain rfl:=aF E5
 refine Ab (Be 32 C0 I z5 I I B5)<|Ab (Az I C5)<|RG.nl [vW 0,vW 0,vW 0,vW 0,vW 0,vW 0,vW 0,vW 0,vW 0,vW 0,vW 0,vW 0,vW 0,vW 0,vW 0,vW 0,vW 0,vW 0,vW 0,vW 0,vW 0,vW 0,vW 0,vW 0,vW 0,vW 0,vW 0,vW 0,vW 0,vW 0,vW 0,vW 0] b1 fun P7 F6 u4 M1=>AQ (av C1) u4 .hd (ai I) fun Q7 K1 P1=>Aa<|Aj<|du 7 fun Z0 z1=>Rv 0 Z0 I z1 (fun _=>Bg 0 I)<|Rx 1 116 Z0 I z1 (AN (cs:=(ab C1.fm)) I I (ac (K1.memA .hd) 0 16))<|Rx 3 112 Z0 I z1 (Az I (K1.memA .t5))<|bk h fun v6 Y5 h=>AX 2 15 Z0 I .plain (bd 68) I (e1 I) (fun w9 hw9=>ak_c n (K1.hL hL hw9) C1.fm Y5) I fun R7 x7 q5 ⟨k7,p7,hu_,F5,G5⟩=>?_
 subst hu_
 obtain ⟨M2,Q1⟩:=K1.agr q5
 refine bk h fun x6 Z5 h=>AX 4 31 Z0 I .plain (bd 68) I (e1 I) (fun w9 hw9=>ak_c n (M2.hL hL hw9) a1 Z5) I fun U7 y7 s5 ⟨q7,s7,hu_,H5,I5⟩=>?_
 subst hu_
 obtain ⟨j0,p1⟩:=M2.agr s5
 refine bk h fun E2 b6 h=>RD.cq 5 63 64 (vI E2) Z0 I z1 (bd 69) I (e2 I I) (fun w9 hw9=>aN_c n (j0.hL0 hL hw9) v6 (j0.kd (Ag F5 p1) hw9) (j0.kd (Ag G5 p1) hw9) x6 (j0.kd H5 hw9) (j0.kd I5 hw9) b6) I<|Rv 6 Z0 I z1 (fun _=>Bj I)<|AK (dk Z0)<|Av<|Ae<|Ac I<|Ab (FV.lss (i:=E2) (j:=0) I I)<|Ah I<|Aa<|MX.jf (α:=Bool × (Lb Ua) × Bool × (Lb Ua) × Bool × (Lb Ua) × Bool × (Lb Ua) × Vc × Vc × Vc × Vc) (fun ⟨E0,c1,F0,g1,G0,j1,H0,k1,I0,J0,K0,M0⟩=>[(3,vP g0),(4,vP b0),(5,vP c0),(8,vP u0),(9,vP v0),(28,v0_0),(29,vn a0.length),(30,vn C0)]) (fun ⟨E0,c1,F0,g1,G0,j1,H0,k1,I0,J0,K0,M0⟩=>[.cells v0 [.bool E0,I0,.bool F0,J0] 109,.cells u0 [.bool G0,K0,.bool H0,M0] 109,.cells c0 zL 34,.cells b0 zL 34,.cells g0 (ab a1) 34]) (fun ⟨E0,c1,F0,g1,G0,j1,H0,k1,I0,J0,K0,M0⟩ B1=>Rep.R B1 (bl [.cells v0 [.bool E0,I0,.bool F0,J0] 109,.cells u0 [.bool G0,K0,.bool H0,M0] 109,.cells c0 zL 34,.cells b0 zL 34,.cells g0 (ab a1) 34] ++ L) [I0] c1/\Rep.R B1 (bl [.cells v0 [.bool E0,I0,.bool F0,J0] 109,.cells u0 [.bool G0,K0,.bool H0,M0] 109,.cells c0 zL 34,.cells b0 zL 34,.cells g0 (ab a1) 34] ++ L) [J0] g1/\Rep.R B1 (bl [.cells v0 [.bool E0,I0,.bool F0,J0] 109,.cells u0 [.bool G0,K0,.bool H0,M0] 109,.cells c0 zL 34,.cells b0 zL 34,.cells g0 (ab a1) 34] ++ L) [K0] j1/\Rep.R B1 (bl [.cells v0 [.bool E0,I0,.bool F0,J0] 109,.cells u0 [.bool G0,K0,.bool H0,M0] 109,.cells c0 zL 34,.cells b0 zL 34,.cells g0 (ab a1) 34] ++ L) [M0] k1) (fun ⟨E0,c1,F0,g1,G0,j1,H0,k1,I0,J0,K0,M0⟩=>(E0,c1,F0,g1,G0,j1,H0,k1)) j0 h ?_ ?_
 rintro ⟨E0,c1,F0,g1,G0,j1,H0,k1,I0,J0,K0,M0⟩ B1 A4 g5 ⟨J5,K5,M5,P5⟩ h
 try dsimp only at h
 refine Ax<|Ax<|Am<|Ab (Bc (i:=C0) (j:=1) I I (by omega))<|Ac I<|Aa<|W3 (C0 + 1,E0,c1,F0,g1,G0,j1,H0,k1,I0,J0,K0,M0) A4 (Tt b5 (Tt M1 (Tt P1 (Tt Q1 (Tt p1 g5))))) ⟨J5,K5,M5,P5⟩ h
 intro C6 c2 h
 try dsimp only at h
 refine AV I h (fun Q3 h=>?_) (fun Q3 h=>?_)
 refine du 4 fun q1 B3=>Rx 0 24 q1 I B3 (Az I (j0.memA .t2))<|Rx 1 28 q1 I B3 (Az I (j0.memA .hd))<|bk h fun y6 d6 h=>AX 2 7 q1 I .plain (bd 66) I (e1 I) (fun w9 hw9=>bn_c n (j0.hL hL hw9) C1 d6) I fun X7 A7 v5 ⟨t7,u7,hu_,Q5,R5⟩=>?_
 subst hu_
 obtain ⟨P2,R2⟩:=j0.agr v5
 refine bk h fun v1 g6 h=>?_
 have y2:=Tt M1 (Tt P1 (Tt Q1 (Tt p1 R2)))
 refine AX 3 15 q1 I .plain (bd 81) I (e2 I I) (fun w9 hw9=>aa_c n (P2.hL hL hw9) (⟨(⟨k0,U0⟩:Tg),(⟨p0,V0⟩:Tg)⟩:Td) (Af (Ag Z1 y2) hw9) (Af (Ag b2 y2) hw9) y6 (Af Q5 hw9) (Af R5 hw9) g6) I fun Y7 B7 x5 ⟨H3,I3,hu_,q3,s3⟩=>?_
 subst hu_
 obtain ⟨B4,U2⟩:=P2.agr x5
 refine BB 4 31 q1 I I .plain (AC (news:=[.bool v1.fj.fc,H3,.bool v1.fh.fc,I3]) B4 .t2 I I I I I I (o4 I (Ay q3) I (Ay s3))) fun Z7 C4 R1=>AK (dk q1) ?_
 obtain ⟨D4,U1⟩:=AB C4 .d1
 have d3:=Tt y2 (Tt U2 (Tt R1 U1))
 exact c2 (q0,W0,s0,X0,v1.fj.fc,v1.fj.fk,v1.fh.fc,v1.fh.fk,x0,y0,H3,I3) D4 (Tt R2 (Tt U2 (Tt R1 U1))) ⟨(Ag A2 d3),(Ag B2 d3),(Ag q3 (Tt R1 U1)),(Ag s3 (Tt R1 U1))⟩ h
 refine Ae<|Ac I<|Ab (FV.eql (i:=E2) (j:=0) I I)<|Ah I<|Aa<|AV I h (fun R3 h=>?_) (fun R3 h=>?_)
 refine Am<|Ab (Az I (j0.memA .hd))<|bk h fun x1 j6 h=>jE (bd 66) I (e1 I) (fun w9 hw9=>bn_c n (j0.hL hL hw9) C1 j6) I fun b8 C7 y5 ⟨J3,K3,hu_,x3,y3⟩=>?_
 subst hu_
 obtain ⟨E4,V2⟩:=j0.agr y5
 refine AQ [.bool x1.fj.fc,J3,.bool x1.fh.fc,K3] E4 .t1 (o4 I (Ay x3) I (Ay y3)) fun c8 F4 V1=>Aa ?_
 obtain ⟨G4,W1⟩:=AB F4 .d1
 have g3:=Tt M1 (Tt P1 (Tt Q1 (Tt p1 (Tt V2 (Tt V1 W1)))))
 exact c2 (x1.fj.fc,x1.fj.fk,x1.fh.fc,x1.fh.fk,k0,U0,p0,V0,J3,K3,z0,A0) G4 (Tt V2 (Tt V1 W1)) ⟨(Ag x3 (Tt V1 W1)),(Ag y3 (Tt V1 W1)),(Ag Z1 g3),(Ag b2 g3)⟩ h
 refine Aq ?_
 obtain ⟨H4,W2⟩:=AB j0 .d1
 have Y1:=Tt M1 (Tt P1 (Tt Q1 (Tt p1 W2)))
 exact c2 (q0,W0,s0,X0,k0,U0,p0,V0,x0,y0,z0,A0) H4 W2 ⟨(Ag A2 Y1),(Ag B2 Y1),(Ag Z1 Y1),(Ag b2 Y1)⟩ h
 refine AZ I ?_
 have h:=A5 _ h
 try dsimp only at h
 refine Ae<|Ab (Az I (b1.memA .t1))<|bk h fun t0 k6 h=>Bd (.tuple #[.agg ((ab t0.1)).toArray,vI t0.2]) (bd 77) I (e1 I) (fun w9 hw9=>ac_c n (b1.hL0 hL hw9) (⟨(⟨k0,U0⟩:Tg),(⟨p0,V0⟩:Tg)⟩:Td) (b1.kd Z1 hw9) (b1.kd b2 hw9) k6) I<|Ac I<|Ab (Ai I I)<|Ab (Ai I I)<|RG.nl zL b1 fun g8 D1 I4 X2=>AQ (ab t0.1) I4 .hd (ai I) fun j8 y1 Y2=>Ah I<|Aa<|Ae<|Ab (Az I (y1.memA .t1))<|bk h fun Y0 p6 h=>Bd (.tuple #[.agg ((ab Y0.1)).toArray,vI Y0.2]) (bd 77) I (e1 I) (fun w9 hw9=>ac_c n (y1.hL0 hL hw9) (⟨(⟨q0,W0⟩:Tg),(⟨s0,X0⟩:Tg)⟩:Td) (y1.kd (Ag A2 (Tt X2 Y2)) hw9) (y1.kd (Ag B2 (Tt X2 Y2)) hw9) p6) I<|Ac I<|Ab (Ai I I)<|Ab (Ai I I)<|RG.nl zL y1 fun k8 E1 K4 c7=>AQ (ab Y0.1) K4 .hd (ai I) fun p8 d0 d7=>Ah I<|Aa<|Aj<|Ae<|Ac I<|Ab (BA (i:=t0.2) (j:=0) I I)<|Ac I<|RG.ifn (s:=65) I h (fun U3 h=>?_) (fun U3 h=>?_)
 refine AJ (Al I)<|AJ (BA (i:=Y0.2) (j:=0) I I)<|Bs I I<|Aa<|BI I h (fun V3 h=>?_) (fun V3 h=>?_)
 refine Aq<|Aj<|du 2 fun R0 C3=>Rx 0 28 R0 I C3 (Az I (d0.memA .t1))<|RD.mo (α:=Unit) (fun ()=>[(4,vP b0),(5,vP c0),(6,vI t0.2),(72,.agg ((ab Y0.1)).toArray)]) (fun ()=>[.cells c0 zL 34,.cells b0 (ab t0.1) 34]) d0 2 7 ?_ ?_
 rintro ⟨⟩ u8 Z3 M6
 try dsimp only
 refine BB 3 15 R0 I I .plain (AC (news:=(ab Y0.1)) Z3 .hd I I I I I I (ai I)) fun F7 g2 P6=>BK (i:=4) (rk R0) (BV (m' :=31) (sk R0) I .plain I (Bj I) ?_)
 refine AK (dk R0)<|Ar I<|Au hb0 func27 I (.cons (.many (cs:=(ab t0.1)) I I (g2.memA .t1)) (.cons (.many (cs:=(ab Y0.1)) I I (g2.memA .hd)) (.cons (.tmp I) .nil))) I ?_
 cases h
 exact g2.gv
 intro F2
 refine BJ [1,2] (rk R0) ⟨?_,?_,trivial⟩
 refine BV (m' :=3) (sk R0) I .plain I (Az I (d0.memA .hd))<|BB 2 7 R0 I I .plain (AC (news:=(ab t0.1)) d0 .t5 I I I I I I (ai I)) fun q6 F1 q2=>?_
 obtain ⟨b4,Q4⟩:=AB F1 (.a4 (.a4 .done))
 exact F2 () b4 (Tt q2 Q4)
 refine RO.now (m' :=5) (sk R0) I I .plain (AC (news:=(ab t0.1)) d0 .t5 I I I I I I (ai I)) fun q6 F1 q2=>Rx 1 24 R0 I C3 (Az I (F1.memA .hd)) ?_
 obtain ⟨c4,R4⟩:=AB F1 (.a4 (.a4 .done))
 exact F2 () c4 (Tt q2 R4)
 refine Aj<|du 2 fun P0 z3=>Rx 0 28 P0 I z3 (Az I (d0.memA .t5))<|RD.mo (α:=Unit) (fun ()=>[(4,vP b0),(5,vP c0),(13,vP D1),(6,vI t0.2),(14,vP E1),(70,.agg zM)]) (fun ()=>[.cells E1 (ab Y0.1) 34,.cells D1 (ab t0.1) 34,.cells c0 zL 34,.cells b0 zL 34]) d0 2 7 ?_ ?_
 rintro ⟨⟩ v8 d4 R6
 try dsimp only
 refine BB 3 15 P0 I I .plain (AC (news:=zL) d4 .t2 I I I I I I (ai I)) fun I7 j2 U6=>BK (i:=4) (rk P0) (BV (m' :=31) (sk P0) I .plain I (Bj I) ?_)
 refine AK (dk P0)<|Ar I<|Au hb0 func27 I (.cons (.many (cs:=zL) I I (j2.memA .t3)) (.cons (.many (cs:=zL) I I (j2.memA .t2)) (.cons (.tmp I) .nil))) I ?_
 cases h
 exact j2.gv
 intro G2
 refine BJ [1,2] (rk P0) ⟨?_,?_,trivial⟩
 refine BV (m' :=3) (sk P0) I .plain I (Az I (d0.memA .t4))<|BB 2 7 P0 I I .plain (AC (news:=zL) d0 .t5 I I I I I I (ai I)) fun s6 G1 s2=>?_
 obtain ⟨g4,U4⟩:=AB G1 (.a0 (.a0 (.a2 (.a2 .done))))
 exact G2 () g4 (Tt s2 U4)
 refine RO.now (m' :=5) (sk P0) I I .plain (AC (news:=zL) d0 .t5 I I I I I I (ai I)) fun s6 G1 s2=>Rx 1 24 P0 I z3 (Az I (G1.memA .t4)) ?_
 obtain ⟨j4,V4⟩:=AB G1 (.a0 (.a0 (.a2 (.a2 .done))))
 exact G2 () j4 (Tt s2 V4)
 refine Ap<|Ap<|Bk I I<|Aa<|AG I<|Aj<|du 2 fun Q0 A3=>Rx 0 28 Q0 I A3 (Az I (d0.memA .t5))<|RD.mo (α:=Unit) (fun ()=>[(4,vP b0),(5,vP c0),(13,vP D1),(6,vI t0.2),(14,vP E1),(70,.agg zM)]) (fun ()=>[.cells E1 (ab Y0.1) 34,.cells D1 (ab t0.1) 34,.cells c0 zL 34,.cells b0 zL 34]) d0 2 7 ?_ ?_
 rintro ⟨⟩ x8 k4 W6
 try dsimp only
 refine BB 3 15 Q0 I I .plain (AC (news:=zL) k4 .t2 I I I I I I (ai I)) fun K7 k2 X6=>BK (i:=4) (rk Q0) (BV (m' :=31) (sk Q0) I .plain I (Bj I) ?_)
 refine AK (dk Q0)<|Ar I<|Au hb0 func27 I (.cons (.many (cs:=zL) I I (k2.memA .t3)) (.cons (.many (cs:=zL) I I (k2.memA .t2)) (.cons (.tmp I) .nil))) I ?_
 cases h
 exact k2.gv
 intro H2
 refine BJ [1,2] (rk Q0) ⟨?_,?_,trivial⟩
 refine BV (m' :=3) (sk Q0) I .plain I (Az I (d0.memA .t4))<|BB 2 7 Q0 I I .plain (AC (news:=zL) d0 .t5 I I I I I I (ai I)) fun t6 I1 u2=>?_
 obtain ⟨p4,X4⟩:=AB I1 (.a0 (.a0 (.a2 (.a2 .done))))
 exact H2 () p4 (Tt u2 X4)
 refine RO.now (m' :=5) (sk Q0) I I .plain (AC (news:=zL) d0 .t5 I I I I I I (ai I)) fun t6 I1 u2=>Rx 1 24 Q0 I A3 (Az I (I1.memA .t4)) ?_
 obtain ⟨q4,Y4⟩:=AB I1 (.a0 (.a0 (.a2 (.a2 .done))))
 exact H2 () q4 (Tt u2 Y4)
 refine Aj<|du 3 fun D0 C2=>Rx 0 56 D0 I C2 (Az I (B0.memA .t3))<|Rv 2 D0 I C2 (fun _=>Al I)<|RD.mo (α:=Unit) (fun ()=>[(0,v0_0),(3,vP g0),(4,vP b0),(5,vP c0),(6,vI 0),(25,vI D2),(24,.agg zM)]) (fun ()=>[.cells c0 zL 34,.cells b0 zL 34,.cells g0 (ab a1) 34]) B0 2 15 ?_ ?_
 rintro ⟨⟩ y8 v4 Z6
 try dsimp only
 refine BB 4 31 D0 I I .plain (AC (news:=zL) v4 .hd I I I I I I (ai I)) fun V7 p2 b7=>BK (i:=5) (rk D0) (BV (m' :=63) (sk D0) I .plain I (Bj I) ?_)
 refine AK (dk D0)<|Ar I<|Au hb0 func27 I (.cons (.many (cs:=zL) I I (p2.memA .t1)) (.cons (.many (cs:=zL) I I (p2.memA .hd)) (.cons (.tmp I) .nil))) I ?_
 cases h
 exact p2.gv
 intro I2
 refine BJ [1,3] (rk D0) ⟨?_,?_,trivial⟩
 refine BV (m' :=7) (sk D0) I .plain I (Az I (B0.memA .t2))<|BB 3 15 D0 I I .plain (AC (news:=zL) B0 .t3 I I I I I I (ai I)) fun u6 J1 v2=>?_
 obtain ⟨x4,c5⟩:=AB J1 .d2
 exact I2 () x4 (Tt v2 c5)
 refine RO.now (m' :=13) (sk D0) I I .plain (AC (news:=zL) B0 .t3 I I I I I I (ai I)) fun u6 J1 v2=>Rx 1 48 D0 I C2 (Az I (J1.memA .t2)) ?_
 obtain ⟨y4,d5⟩:=AB J1 .d2
 exact I2 () y4 (Tt v2 d5)
theorem ex_Ta {a b:Ta} (h0:a.fm.fN.1 = b.fm.fN.1) (h1:a.fm.fN.2.1 = b.fm.fN.2.1) (h2:a.fm.fN.2.2.1 = b.fm.fN.2.2.1) (h3:a.fm.fN.2.2.2.1 = b.fm.fN.2.2.2.1) (h4:a.fm.fN.2.2.2.2.1 = b.fm.fN.2.2.2.2.1) (h5:a.fm.fN.2.2.2.2.2.1 = b.fm.fN.2.2.2.2.2.1) (h6:a.fm.fN.2.2.2.2.2.2.1 = b.fm.fN.2.2.2.2.2.2.1) (h7:a.fm.fN.2.2.2.2.2.2.2 = b.fm.fN.2.2.2.2.2.2.2) (h8:a.fm.fD.1 = b.fm.fD.1) (h9:a.fm.fD.2.1 = b.fm.fD.2.1) (b0:a.fm.fD.2.2.1 = b.fm.fD.2.2.1) (c0:a.fm.fD.2.2.2.1 = b.fm.fD.2.2.2.1) (d0:a.fm.fD.2.2.2.2.1 = b.fm.fD.2.2.2.2.1) (g0:a.fm.fD.2.2.2.2.2.1 = b.fm.fD.2.2.2.2.2.1) (j0:a.fm.fD.2.2.2.2.2.2.1 = b.fm.fD.2.2.2.2.2.2.1) (k0:a.fm.fD.2.2.2.2.2.2.2 = b.fm.fD.2.2.2.2.2.2.2) (p0:a.fP.fN.1 = b.fP.fN.1) (q0:a.fP.fN.2.1 = b.fP.fN.2.1) (s0:a.fP.fN.2.2.1 = b.fP.fN.2.2.1) (t0:a.fP.fN.2.2.2.1 = b.fP.fN.2.2.2.1) (u0:a.fP.fN.2.2.2.2.1 = b.fP.fN.2.2.2.2.1) (v0:a.fP.fN.2.2.2.2.2.1 = b.fP.fN.2.2.2.2.2.1) (x0:a.fP.fN.2.2.2.2.2.2.1 = b.fP.fN.2.2.2.2.2.2.1) (y0:a.fP.fN.2.2.2.2.2.2.2 = b.fP.fN.2.2.2.2.2.2.2) (z0:a.fP.fD.1 = b.fP.fD.1) (A0:a.fP.fD.2.1 = b.fP.fD.2.1) (B0:a.fP.fD.2.2.1 = b.fP.fD.2.2.1) (C0:a.fP.fD.2.2.2.1 = b.fP.fD.2.2.2.1) (D0:a.fP.fD.2.2.2.2.1 = b.fP.fD.2.2.2.2.1) (E0:a.fP.fD.2.2.2.2.2.1 = b.fP.fD.2.2.2.2.2.1) (F0:a.fP.fD.2.2.2.2.2.2.1 = b.fP.fD.2.2.2.2.2.2.1) (G0:a.fP.fD.2.2.2.2.2.2.2 = b.fP.fD.2.2.2.2.2.2.2):a = b:=congr (congrArg Ta.mk (ni (a:=a.fm) (b:=b.fm) h0 h1 h2 h3 h4 h5 h6 h7 h8 h9 b0 c0 d0 g0 j0 k0)) (ni (a:=a.fP) (b:=b.fP) p0 q0 s0 t0 u0 v0 x0 y0 z0 A0 B0 C0 D0 E0 F0 G0)
theorem eqlD_37 (a b:Ta) (w9:World):(do eqGuard .eql 37 (.tmp 0) (.tmp 0) (.agg #[vU a.fm.fN.1,vU a.fm.fN.2.1,vU a.fm.fN.2.2.1,vU a.fm.fN.2.2.2.1,vU a.fm.fN.2.2.2.2.1,vU a.fm.fN.2.2.2.2.2.1,vU a.fm.fN.2.2.2.2.2.2.1,vU a.fm.fN.2.2.2.2.2.2.2,vU a.fm.fD.1,vU a.fm.fD.2.1,vU a.fm.fD.2.2.1,vU a.fm.fD.2.2.2.1,vU a.fm.fD.2.2.2.2.1,vU a.fm.fD.2.2.2.2.2.1,vU a.fm.fD.2.2.2.2.2.2.1,vU a.fm.fD.2.2.2.2.2.2.2,vU a.fP.fN.1,vU a.fP.fN.2.1,vU a.fP.fN.2.2.1,vU a.fP.fN.2.2.2.1,vU a.fP.fN.2.2.2.2.1,vU a.fP.fN.2.2.2.2.2.1,vU a.fP.fN.2.2.2.2.2.2.1,vU a.fP.fN.2.2.2.2.2.2.2,vU a.fP.fD.1,vU a.fP.fD.2.1,vU a.fP.fD.2.2.1,vU a.fP.fD.2.2.2.1,vU a.fP.fD.2.2.2.2.1,vU a.fP.fD.2.2.2.2.2.1,vU a.fP.fD.2.2.2.2.2.2.1,vU a.fP.fD.2.2.2.2.2.2.2]) (.agg #[vU b.fm.fN.1,vU b.fm.fN.2.1,vU b.fm.fN.2.2.1,vU b.fm.fN.2.2.2.1,vU b.fm.fN.2.2.2.2.1,vU b.fm.fN.2.2.2.2.2.1,vU b.fm.fN.2.2.2.2.2.2.1,vU b.fm.fN.2.2.2.2.2.2.2,vU b.fm.fD.1,vU b.fm.fD.2.1,vU b.fm.fD.2.2.1,vU b.fm.fD.2.2.2.1,vU b.fm.fD.2.2.2.2.1,vU b.fm.fD.2.2.2.2.2.1,vU b.fm.fD.2.2.2.2.2.2.1,vU b.fm.fD.2.2.2.2.2.2.2,vU b.fP.fN.1,vU b.fP.fN.2.1,vU b.fP.fN.2.2.1,vU b.fP.fN.2.2.2.1,vU b.fP.fN.2.2.2.2.1,vU b.fP.fN.2.2.2.2.2.1,vU b.fP.fN.2.2.2.2.2.2.1,vU b.fP.fN.2.2.2.2.2.2.2,vU b.fP.fD.1,vU b.fP.fD.2.1,vU b.fP.fD.2.2.1,vU b.fP.fD.2.2.2.1,vU b.fP.fD.2.2.2.2.1,vU b.fP.fD.2.2.2.2.2.1,vU b.fP.fD.2.2.2.2.2.2.1,vU b.fP.fD.2.2.2.2.2.2.2]); binOp .eql 37 (.agg #[vU a.fm.fN.1,vU a.fm.fN.2.1,vU a.fm.fN.2.2.1,vU a.fm.fN.2.2.2.1,vU a.fm.fN.2.2.2.2.1,vU a.fm.fN.2.2.2.2.2.1,vU a.fm.fN.2.2.2.2.2.2.1,vU a.fm.fN.2.2.2.2.2.2.2,vU a.fm.fD.1,vU a.fm.fD.2.1,vU a.fm.fD.2.2.1,vU a.fm.fD.2.2.2.1,vU a.fm.fD.2.2.2.2.1,vU a.fm.fD.2.2.2.2.2.1,vU a.fm.fD.2.2.2.2.2.2.1,vU a.fm.fD.2.2.2.2.2.2.2,vU a.fP.fN.1,vU a.fP.fN.2.1,vU a.fP.fN.2.2.1,vU a.fP.fN.2.2.2.1,vU a.fP.fN.2.2.2.2.1,vU a.fP.fN.2.2.2.2.2.1,vU a.fP.fN.2.2.2.2.2.2.1,vU a.fP.fN.2.2.2.2.2.2.2,vU a.fP.fD.1,vU a.fP.fD.2.1,vU a.fP.fD.2.2.1,vU a.fP.fD.2.2.2.1,vU a.fP.fD.2.2.2.2.1,vU a.fP.fD.2.2.2.2.2.1,vU a.fP.fD.2.2.2.2.2.2.1,vU a.fP.fD.2.2.2.2.2.2.2]) (.agg #[vU b.fm.fN.1,vU b.fm.fN.2.1,vU b.fm.fN.2.2.1,vU b.fm.fN.2.2.2.1,vU b.fm.fN.2.2.2.2.1,vU b.fm.fN.2.2.2.2.2.1,vU b.fm.fN.2.2.2.2.2.2.1,vU b.fm.fN.2.2.2.2.2.2.2,vU b.fm.fD.1,vU b.fm.fD.2.1,vU b.fm.fD.2.2.1,vU b.fm.fD.2.2.2.1,vU b.fm.fD.2.2.2.2.1,vU b.fm.fD.2.2.2.2.2.1,vU b.fm.fD.2.2.2.2.2.2.1,vU b.fm.fD.2.2.2.2.2.2.2,vU b.fP.fN.1,vU b.fP.fN.2.1,vU b.fP.fN.2.2.1,vU b.fP.fN.2.2.2.1,vU b.fP.fN.2.2.2.2.1,vU b.fP.fN.2.2.2.2.2.1,vU b.fP.fN.2.2.2.2.2.2.1,vU b.fP.fN.2.2.2.2.2.2.2,vU b.fP.fD.1,vU b.fP.fD.2.1,vU b.fP.fD.2.2.1,vU b.fP.fD.2.2.2.1,vU b.fP.fD.2.2.2.2.1,vU b.fP.fD.2.2.2.2.2.1,vU b.fP.fD.2.2.2.2.2.2.1,vU b.fP.fD.2.2.2.2.2.2.2]):Sem Vc).run Tryz.prog w9 = .ok (.bool (decide (a = b))) w9:=
  pF (ks:=[.int .u64,.int .u64,.int .u64,.int .u64,.int .u64,.int .u64,.int .u64,.int .u64,.int .u64,.int .u64,.int .u64,.int .u64,.int .u64,.int .u64,.int .u64,.int .u64,.int .u64,.int .u64,.int .u64,.int .u64,.int .u64,.int .u64,.int .u64,.int .u64,.int .u64,.int .u64,.int .u64,.int .u64,.int .u64,.int .u64,.int .u64,.int .u64]) (xs:=[vU a.fm.fN.1,vU a.fm.fN.2.1,vU a.fm.fN.2.2.1,vU a.fm.fN.2.2.2.1,vU a.fm.fN.2.2.2.2.1,vU a.fm.fN.2.2.2.2.2.1,vU a.fm.fN.2.2.2.2.2.2.1,vU a.fm.fN.2.2.2.2.2.2.2,vU a.fm.fD.1,vU a.fm.fD.2.1,vU a.fm.fD.2.2.1,vU a.fm.fD.2.2.2.1,vU a.fm.fD.2.2.2.2.1,vU a.fm.fD.2.2.2.2.2.1,vU a.fm.fD.2.2.2.2.2.2.1,vU a.fm.fD.2.2.2.2.2.2.2,vU a.fP.fN.1,vU a.fP.fN.2.1,vU a.fP.fN.2.2.1,vU a.fP.fN.2.2.2.1,vU a.fP.fN.2.2.2.2.1,vU a.fP.fN.2.2.2.2.2.1,vU a.fP.fN.2.2.2.2.2.2.1,vU a.fP.fN.2.2.2.2.2.2.2,vU a.fP.fD.1,vU a.fP.fD.2.1,vU a.fP.fD.2.2.1,vU a.fP.fD.2.2.2.1,vU a.fP.fD.2.2.2.2.1,vU a.fP.fD.2.2.2.2.2.1,vU a.fP.fD.2.2.2.2.2.2.1,vU a.fP.fD.2.2.2.2.2.2.2]) (ys:=[vU b.fm.fN.1,vU b.fm.fN.2.1,vU b.fm.fN.2.2.1,vU b.fm.fN.2.2.2.1,vU b.fm.fN.2.2.2.2.1,vU b.fm.fN.2.2.2.2.2.1,vU b.fm.fN.2.2.2.2.2.2.1,vU b.fm.fN.2.2.2.2.2.2.2,vU b.fm.fD.1,vU b.fm.fD.2.1,vU b.fm.fD.2.2.1,vU b.fm.fD.2.2.2.1,vU b.fm.fD.2.2.2.2.1,vU b.fm.fD.2.2.2.2.2.1,vU b.fm.fD.2.2.2.2.2.2.1,vU b.fm.fD.2.2.2.2.2.2.2,vU b.fP.fN.1,vU b.fP.fN.2.1,vU b.fP.fN.2.2.1,vU b.fP.fN.2.2.2.1,vU b.fP.fN.2.2.2.2.1,vU b.fP.fN.2.2.2.2.2.1,vU b.fP.fN.2.2.2.2.2.2.1,vU b.fP.fN.2.2.2.2.2.2.2,vU b.fP.fD.1,vU b.fP.fD.2.1,vU b.fP.fD.2.2.1,vU b.fP.fD.2.2.2.1,vU b.fP.fD.2.2.2.2.1,vU b.fP.fD.2.2.2.2.2.1,vU b.fP.fD.2.2.2.2.2.2.1,vU b.fP.fD.2.2.2.2.2.2.2]) (by kernel_rfl) (by kernel_rfl) (by kernel_rfl) I I ⟨fun h=>by
    simp only [bn,veq,Bool.and_eq_true,beq_iff_eq,and_true] at h
    obtain ⟨h0,h1,h2,h3,h4,h5,h6,h7,h8,h9,b0,c0,d0,g0,j0,k0,p0,q0,s0,t0,u0,v0,x0,y0,z0,A0,B0,C0,D0,E0,F0,G0⟩:=h
    exact ex_Ta (ah h0) (ah h1) (ah h2) (ah h3) (ah h4) (ah h5) (ah h6) (ah h7) (ah h8) (ah h9) (ah b0) (ah c0) (ah d0) (ah g0) (ah j0) (ah k0) (ah p0) (ah q0) (ah s0) (ah t0) (ah u0) (ah v0) (ah x0) (ah y0) (ah z0) (ah A0) (ah B0) (ah C0) (ah D0) (ah E0) (ah F0) (ah G0),fun h=>by subst h; simp [bn,veq]⟩ _ _ w9
def cZ_p (_n:Nat) (a0:Ta) (a1:Ta):Oa Bool:=
  some (decide (a0 = a1))
theorem cZ_c (n:Nat) {L w} (_hL:hl L w) (a0:Ta) (a1:Ta)  {r:Bool} (h:cZ_p n a0 a1 = some r) :
 Cl 73 #[.agg ((av a0)).toArray,.agg ((av a1)).toArray] w (aj w fun _ u=>u = .bool r):=by
 unfold cZ_p at h
 refine AM func73 I I I fun _ cs0 hb0=>Ae<|RG.bx (AL w) I I fun p0 d0 c0 j0=>RG.bx c0 I I fun q0 g0 b0 k0=>Ah I<|Aa<|Ae<|Ab (Az I (b0.memA .t1))<|Ab (Az I (b0.memA .hd))<|Ab (FV.eqlV (v:=.agg ((av a0)).toArray) (u:=.agg ((av a1)).toArray) I I (eqlD_37 a0 a1))<|Ah I<|Aa<|Ar I<|Bb hb0 func73 I I ?_
 cases h
 exact b0.gv
def cX_l1 (n:Nat) (a0:Lb Ta) (a1:Lb Ta) (c0:Nat -> Oa (Bool ⊕ Unit)):Nat -> Oa (Bool ⊕ Unit)
  | b0=>(if b0 < a0.length then (a0[b0]?).bind fun d0=>(a1[b0]?).bind fun g0=>(cZ_p n d0 g0).bind fun j0=>(if j0 = true then c0 (b0 + 1) else some (.inl false)) else some (.inr ()))
def cX_p (n:Nat) (a0:Lb Ta) (a1:Lb Ta):Oa Bool:=
  (if a0.length = a1.length then thn (ao (cX_l1 n a0 a1) n 0) (fun _=>some true) else some false)
theorem cX_c (n:Nat) {L w} (hL:hl L w) {a0:Lb Ta} {v0_0:Vc} (h0_0:Rep.R w L [v0_0] a0) {a1:Lb Ta} {v1_0:Vc} (h1_0:Rep.R w L [v1_0] a1)  {r:Bool} (h:cX_p n a0 a1 = some r) :
 Cl 17 #[v0_0,v1_0] w (aj w fun _ u=>u = .bool r):=by
 unfold cX_p at h
 have hS0:=AL w
 refine AM func17 I I I fun _ cs0 hb0=>Ae<|Ah I<|Aa<|Ae<|Ac I<|Ac I<|BE (fst:=[]) (cap:=[]) (vs:=[v0_0,v1_0,.func (.func 73) #[] #[]]) .plain (bd 72) func72 I I I I (e3 I I I) I fun cs2 hb1 hp3=>Ae<|Ah I<|Aa<|Aj<|Ae<|Ac I ?_
 have hl4:=AY h0_0
 refine Ab (Ba (xs:=a0) underlying24 I h0_0)<|Ac I ?_
 have hl5:=AY h1_0
 refine Ab (Ba (xs:=a1) underlying24 I h1_0)<|Ab (FV.neqN (i:=a0.length) (j:=a1.length) I I)<|Aa<|BI I h (fun c6 h=>?_) (fun c6 h=>?_)
 refine Aq<|Aj<|Ae<|Ac I<|Ab (Ba (xs:=a0) underlying24 I h0_0)<|Ac I<|Aa<|Av<|tn h fun k1 K0 j0=>MX.lo (α:=Nat) (fun b0=>[(1,v1_0),(2,.func (.func 73) #[] #[]),(15,v0_0),(16,vn a0.length),(17,vn b0)]) (fun b0=>[]) (fun b0=>b0) 0 K0 hS0 ?_
 rintro Y0 b0 v1 t0 d0 y0 h
 unfold cX_l1 at h
 try dsimp only at h
 refine Ae<|Ab (AU (i:=b0) (j:=a0.length) I I)<|Aa<|Aj<|AV I h (fun q0 h=>?_) (fun q0 h=>?_)
 refine Aq<|Aj<|Av<|Ae<|Ac I<|bk h fun k0 Q0 h=>?_
 obtain ⟨W0,c1,E0,G0,g1,M0,I0⟩:=Bh (AH h0_0 d0) Q0
 obtain rfl:=aF M0
 refine Ab (Be 32 b0 I E0 I I G0)<|Ab (Az I I0)<|RG.nl [vW 0,vW 0,vW 0,vW 0,vW 0,vW 0,vW 0,vW 0,vW 0,vW 0,vW 0,vW 0,vW 0,vW 0,vW 0,vW 0,vW 0,vW 0,vW 0,vW 0,vW 0,vW 0,vW 0,vW 0,vW 0,vW 0,vW 0,vW 0,vW 0,vW 0,vW 0,vW 0] d0 fun p1 Z0 u0 z0=>Ah I<|AQ (av k0) u0 .hd (ai I) fun q1 g0 A0=>Aa<|Ae<|Ac I<|Ac I<|bk h fun p0 R0 h=>?_
 obtain ⟨X0,d1,F0,H0,j1,P0,J0⟩:=Bh (AH h1_0 g0) R0
 obtain rfl:=aF P0
 refine Ab (Be 32 b0 I F0 I I H0)<|Ab (Az I J0)<|RG.nl [vW 0,vW 0,vW 0,vW 0,vW 0,vW 0,vW 0,vW 0,vW 0,vW 0,vW 0,vW 0,vW 0,vW 0,vW 0,vW 0,vW 0,vW 0,vW 0,vW 0,vW 0,vW 0,vW 0,vW 0,vW 0,vW 0,vW 0,vW 0,vW 0,vW 0,vW 0,vW 0] g0 fun s1 b1 v0 B0=>AQ (av p0) v0 .hd (ai I) fun u1 c0 C0=>Aa<|Ae<|Ac I<|Ab (Az I (c0.memA .t1))<|Ab (Az I (c0.memA .hd))<|bk h fun V0 U0 h=>Bd (.bool V0) (bd 73) I (e2 I I) (fun w9 hw9=>cZ_c n (c0.hL0 hL hw9) k0 p0 U0) I<|Ab (Bx I)<|Aa<|MX.ifnb I h (fun s0 h=>?_) (fun s0 h=>?_)
 refine Aq<|Ax<|Am<|Ab (Bc (i:=b0) (j:=1) I I (by omega))<|Ac I<|Aa ?_
 obtain ⟨x0,D0⟩:=AB c0 .done
 exact t0 (b0 + 1) x0 (Tt y0 (Tt z0 (Tt A0 (Tt B0 (Tt C0 D0))))) h
 refine Ae<|Ah I<|Aa ?_
 have h:=aH h j0
 refine Ar I<|Au (u:=.bool false) hb1 func72 I (.cons (.tmp I) .nil) I<|Ah I<|Aa<|Ar I<|Bb hb0 func17 I I ?_
 cases h
 exact c0.gv
 refine AZ I ?_
 have h:=bc h j0
 try dsimp only at h
 refine Ae<|Ah I<|Aa<|Ar I<|Au (u:=.bool true) hb1 func72 I (.cons (.tmp I) .nil) I<|Ah I<|Aa<|Ar I<|Bb hb0 func17 I I ?_
 cases h
 exact d0.gv
 refine Ae<|Ah I<|Aa<|Ar I<|Au (u:=.bool false) hb1 func72 I (.cons (.tmp I) .nil) I<|Ah I<|Aa<|Ar I<|Bb hb0 func17 I I ?_
 cases h
 exact hS0.gv
def bh_p (n:Nat) (a0:Lb Ta) (a1:Int) (a2:Lb Ta):Oa Bool:=
  (cX_p n a0 a2).bind fun y1=>(if y1 = true then some (decide (a1 = 0)) else some false)
theorem bh_c (n:Nat) {L w} (hL:hl L w) {a0:Lb Ta} {v0_0:Vc} (h0_0:Rep.R w L [v0_0] a0) {a1:Int} {a2:Lb Ta} {v2_0:Vc} (h2_0:Rep.R w L [v2_0] a2) {p2:Nat} (m2:∀ j9 v9,([v2_0]:Lb Vc)[j9]? = some v9 -> w.cell? ((⟨p2,0,none⟩:Addr).add j9) = some v9)  {r:Bool} (h:bh_p n a0 a1 a2 = some r) :
 Cl 91 #[v0_0,vI a1,.pointer (some ⟨p2,0,none⟩)] w (aj w fun _ u=>u = .bool r):=by
 unfold bh_p at h
 have hS0:=AL w
 refine AM func91 I I I fun _ cs0 hb0=>Ae<|Ah I<|Aa<|Ae<|Ac I<|Bf I ((fun j9 v9 h9=>hS0.ag.cell0 (m2 j9 v9 h9)) 0 _ I)<|bk h fun y1 hy1 h=>Bd (.bool y1) (bd 17) I (e2 I I) (fun w9 hw9=>cX_c n (hS0.hL0 hL hw9) (hS0.kd h0_0 hw9) (hS0.kd h2_0 hw9) hy1) I<|Ac I<|RG.ifb (s:=9) I h (fun c2 h=>?_) (fun c2 h=>?_)
 refine AJ (Al I)<|AJ (FV.eql (i:=a1) (j:=0) I I)<|Bk I I<|Ah I<|Aa<|Ar I<|Bb hb0 func91 I I ?_
 cases h
 exact hS0.gv
 refine Ap<|Ap<|Bs I I<|Ah I<|Aa<|Ar I<|Bb hb0 func91 I I ?_
 cases h
 exact hS0.gv
theorem cM_c (_n:Nat) {L w} (_hL:hl L w) (a0:Lb Ta) {v0_0:Vc} (h0_0:Rep.R w L [v0_0] a0)  :
 Cl 28 #[v0_0] w (aj w fun w' u=>∃ b0:Nat,u = .func (.func 91) #[] #[vP b0]/\St w w' [.cells b0 [v0_0] 24]):=by
 refine AM func28 I I I fun _ cs0 hb0=>Ae<|RG.bx (AL w) I (Rep.c1 h0_0) fun g0 b0 c0 d0=>Ah I<|Aa<|Ae<|Ab (FV.makeFunc (vs:=[]) (us:=[vP b0]) am (e1 I))<|Ah I<|Aa<|Ar I<|Au (u:=.func (.func 91) #[] #[vP b0]) hb0 func28 I (.cons (.tmp I) .nil) I<|⟨c0.ag,fun w9 hw9=>⟨b0,I,c0.agree hw9⟩⟩
def de (n:Nat) (c0:Tb × Td) (g0:(Lb Ta) × Bool -> Oa ((Lb Ta) × Int)):(Lb Ta) × Bool -> Oa ((Lb Ta) × Int)
  | (p0,j0)=>(ac_p n c0.2).bind fun d0=>jn (fun k0=>(app p0 ([(⟨c0.1,d0.1⟩:Ta)]:Lb Ta)).bind fun q0=>g0 (q0,k0)) (fun b0=>(if d0.2 = 0 then b0 j0 else b0 true))
def cJ_l1 (n:Nat) (a0:Lb Ta) (q0:Td) (g0:Nat × Bool × (Lb (Tb × Td)) -> Oa ((Lb (Tb × Td)) × Bool)):Nat × Bool × (Lb (Tb × Td)) -> Oa ((Lb (Tb × Td)) × Bool)
  | (c0,j0,b0)=>(if c0 < a0.length then (a0[c0]?).bind fun k0=>(ak_p n k0.fm).bind fun s0=>(ax_p n q0 s0).bind fun t0=>(bn_p n k0).bind fun p0=>(ac_p n t0).bind fun d0=>(if d0.2 = 0 then ew (bD b0 d0.1) (g0 (c0 + 1,j0,aC b0 d0.1 p0)) (fun u0=>(aa_p n p0 u0).bind fun v0=>g0 (c0 + 1,j0,aC b0 d0.1 v0)) else g0 (c0 + 1,true,b0)) else some (b0,j0))
def cJ_p (n:Nat) (a0:Lb Ta) (a1:Tb):Oa ((Lb Ta) × Int):=
  (ar_p n ([a0]:Lb (Lb Ta)) ([a1]:Lb Tb)).bind fun d0=>(if d0 = 0 then (ak_p n a1).bind fun p0=>Option.bind (ao (cJ_l1 n a0 p0) n (0,false,([]:Lb (Tb × Td)))) (fun (b0,g0)=>(if 400 < b0.length then some (([]:Lb Ta),(3:Int)) else mloop (fun (c0,j0)=>(if j0 = true then some (([]:Lb Ta),(6:Int)) else (bP_p n (ae ((c0.length:Nat):Int))).bind fun q0=>(gM (fun x9 y9=>aj_p n x9 y9) q0 c0).bind fun k0=>some (k0,(0:Int)))) (de n) n b0 (([]:Lb Ta),g0))) else some (([]:Lb Ta),d0))
theorem cJ_c (n:Nat) {L w} (hL:hl L w) {a0:Lb Ta} {v0_0:Vc} (h0_0:Rep.R w L [v0_0] a0) (a1:Tb)  {r:(Lb Ta) × Int} (h:cJ_p n a0 a1 = some r) :
 Cl 29 #[v0_0,.agg ((ab a1)).toArray] w (aj w fun w' u=>∃ v0_0:Vc,u = .tuple #[v0_0,vI r.2]/\Rep.R w' L [v0_0] r.1):=by
 unfold cJ_p at h
 refine AM func29 I I I fun _ cs0 hb0=>Ae<|RG.bx (AL w) I I fun g8 H0 v2 E7=>Ah I<|Ah I<|Aa<|Aj<|Ae<|Ac I ?_
 obtain ⟨M6,q7,c6,_⟩:=Bl (AH h0_0 v2)
 refine Ao .plain I (AW (α:=Lb Ta) (xs:=([a0]:Lb (Lb Ta))) (vs:=[v0_0]) (ds' :=[v0_0]) I v2 me I (e1 I) (by rw [c6]; try kernel_rfl) I) fun j8 I0 k1 F7=>Ab (Az I (k1.memA .t1))<|Ao .plain I (AW (α:=Tb) (xs:=([a1]:Lb Tb)) (vs:=[.agg ((ab a1)).toArray]) (ds' :=(ab a1)) I k1 gA I (e1 I) (by kernel_rfl) I) fun k8 J0 z0 E4=>bk h fun D3 k6 h=>Bd (vI D3) (bd 63) I (e2 I I) (fun w9 hw9=>ar_c n (z0.hL0 hL hw9) (Af (St.lend (α:=Lb Ta) (L:=L) z0 .t1 (AR (AI (cs:=[v0_0]) (xs:=(([a0]:Lb (Lb Ta)):Lb (Lb Ta))) k1 L (AE (cs:=[v0_0]) (ds:=[]) (AH h0_0 k1) (AT _ _))) E4) hL) hw9) (Af (St.lend (α:=Tb) (L:=L) z0 .hd (AI (cs:=(ab a1)) (xs:=(([a1]:Lb Tb):Lb Tb)) z0 L (AE (cs:=(ab a1)) (ds:=[]) (ci a1.fN a1.fD) (AT _ _))) hL) hw9) k6) I<|Ah I<|Aa<|Ae<|Ac I<|Ab (BA (i:=D3) (j:=0) I I)<|Aa<|BI I h (fun F3 h=>?_) (fun F3 h=>?_)
 refine Aq<|Ae<|Ac I<|Ab (Az I (z0.memA .t2))<|bk h fun E0 p6 h=>jE (bd 68) I (e1 I) (fun w9 hw9=>ak_c n (z0.hL hL hw9) a1 p6) I fun p8 Y7 d5 ⟨z1,A1,hu_,K5,Q5⟩=>?_
 subst hu_
 obtain ⟨Q3,G7⟩:=z0.agr d5
 refine Ab (FV.makeFunc (vs:=[.agg #[.bool E0.fj.fc,z1,.bool E0.fh.fc,A1]]) (us:=[]) (e1 I) am)<|BE (fst:=[]) (cap:=[]) (vs:=[v0_0,.func (.func 80) #[.agg #[.bool E0.fj.fc,z1,.bool E0.fh.fc,A1]] #[]]) .plain (bd 83) func83 I I I I (e2 I I) I fun x7 Z1 P7=>Ae<|Ah I<|Ah I<|Aa<|Ae<|Ao .plain I (Does.makeMap (κ:=Tb) (ν:=Lb Vc) Q3) fun C8 b0 z2 F4=>Ab (AS (vs:=[.map (some b0)]) (u:=.agg #[.map (some b0),.bool false]) (e1 I) (fun w9=>by kernel_rfl))<|RG.bx z2 I I fun K8 t0 A2 J2=>Ah I<|Aa<|Aj<|Ae<|Ac I ?_
 have V2:=AH h0_0 A2
 have J7:=AY V2
 refine Ab (Ba (xs:=a0) underlying24 I V2)<|Ac I<|Aa<|Av ?_
 obtain ⟨V7,H5,y5⟩:=ap h
 refine BP (α:=Nat × Bool × (Lb (Tb × Td)) × (Lb (Tb × Lb Vc))) (fun ⟨p0,u0,y0,c0⟩=>[(1,.func (.func 80) #[.agg #[.bool E0.fj.fc,z1,.bool E0.fh.fc,A1]] #[]),(6,vP t0),(12,v0_0),(13,vn a0.length),(14,vn p0)]) (fun ⟨p0,u0,y0,c0⟩=>[.cells t0 [.map (some b0),.bool u0] 126,.obj b0 (aA c0),rr w 34 Tb (vS J0 1) (([a1]:Lb Tb).length) (ab a1),rr w 24 (Lb Ta) (vS I0 1) (([a0]:Lb (Lb Ta)).length) [v0_0],.cells H0 (ab a1) 34]) (fun ⟨p0,u0,y0,c0⟩ B3=>MR B3 (bl [.cells t0 [.map (some b0),.bool u0] 126,.obj b0 (aA c0),rr w 34 Tb (vS J0 1) (([a1]:Lb Tb).length) (ab a1),rr w 24 (Lb Ta) (vS I0 1) (([a0]:Lb (Lb Ta)).length) [v0_0],.cells H0 (ab a1) 34] ++ L) c0 y0) (fun ⟨p0,u0,y0,c0⟩=>(p0,u0,y0)) (0,false,([]:Lb (Tb × Td)),([]:Lb (Tb × Lb Vc))) H5 A2 (BO (MR.at_ (Z:=([]:Lb (Tb × Lb Vc))) (M:=([]:Lb (Tb × Td))) z2 L trivial) J2) ?_
 rintro R6 ⟨p0,u0,y0,c0⟩ B3 F1 B0 u1 P0 h
 unfold cJ_l1 at h
 try dsimp only at h
 refine Ae<|Ab (AU (i:=p0) (j:=a0.length) I I)<|Aa<|Aj<|AV I h (fun G3 h=>?_) (fun G3 h=>?_)
 refine Aq<|Aj<|Av<|Ae<|bk h fun E1 d6 h=>?_
 obtain ⟨P6,s7,v5,A5,v7,J5,D5⟩:=Bh (AH h0_0 B0) d6
 obtain rfl:=aF J5
 refine Ab (Be 32 p0 I v5 I I A5)<|Ab (Az I D5)<|RG.nl [vW 0,vW 0,vW 0,vW 0,vW 0,vW 0,vW 0,vW 0,vW 0,vW 0,vW 0,vW 0,vW 0,vW 0,vW 0,vW 0,vW 0,vW 0,vW 0,vW 0,vW 0,vW 0,vW 0,vW 0,vW 0,vW 0,vW 0,vW 0,vW 0,vW 0,vW 0,vW 0] B0 fun q8 W6 R3 P1=>AQ (av E1) R3 .hd (ai I) fun s8 p1 Q1=>Aa<|du 8 fun q0 c1=>Rv 0 q0 I c1 (fun _=>Al I)<|Rv 1 q0 I c1 (fun _=>Al I)<|Rv 2 q0 I c1 (fun _=>Bg 0 I)<|Rx 3 432 q0 I c1 (AN (cs:=(ab E1.fm)) I I (ac (p1.memA .hd) 0 16))<|Rx 6 384 q0 I c1 (Az I (p1.memA .hd))<|bk h fun K6 q6 h=>AX 4 95 q0 I .plain (bd 68) I (e1 I) (fun w9 hw9=>ak_c n (p1.hL hL hw9) E1.fm q6) I fun u8 Z7 g5 ⟨W7,X7,hu_,M5,P5⟩=>?_
 subst hu_
 obtain ⟨x2,R1⟩:=p1.agr g5
 refine bk h fun k2 s6 h=>?_
 have W2:=Tt F4 (Tt J2 (Tt u1 (Tt P1 (Tt Q1 R1))))
 refine BK (i:=5) (rk q0) (BX (m' :=127) (fst:=[.agg #[.bool E0.fj.fc,z1,.bool E0.fh.fc,A1]]) (cap:=[]) (sk q0) I .plain (bd 80) I (e1 I) (fun w9 hw9=>ax_c n (x2.hL hL hw9) E0 (Af (Ag K5 W2) hw9) (Af (Ag Q5 W2) hw9) K6 (Af M5 hw9) (Af P5 hw9) s6) I (fun v8 b8 j5 ⟨A6,B6,hu_,R5,U5⟩=>?_))
 subst hu_
 obtain ⟨y2,E2⟩:=x2.agr j5
 refine bk h fun j0 t6 h=>AX 7 255 q0 I .plain (bd 66) I (e1 I) (fun w9 hw9=>bn_c n (y2.hL hL hw9) E1 t6) I fun x8 c8 k5 ⟨g1,j1,hu_,k3,p3⟩=>?_
 subst hu_
 obtain ⟨U3,U1⟩:=y2.agr k5
 refine BK (i:=8) (rk q0) (RO.enterPT (m' :=511) (fst:=[]) (cap:=[]) (vs:=[vP t0,.agg #[.bool k2.fj.fc,A6,.bool k2.fh.fc,B6],.agg #[.bool j0.fj.fc,g1,.bool j0.fh.fc,j1]]) (sk q0) I I .plain (bd 86) func86 I I I I (e3 I I I) I (fun _ y7 b2 M7=>?_))
 refine Ae<|RG.bx U3 I I fun y8 X6 V3 Y0=>RG.bx V3 I I fun z8 Y6 U0 Z0=>Aa<|Ae<|Ab (Az I (U0.memA .t1))<|bk h fun d0 u6 h=>?_
 have X2:=Tt U1 (Tt Y0 Z0)
 refine Bd (.tuple #[.agg ((ab d0.1)).toArray,vI d0.2]) (bd 77) I (e1 I) (fun w9 hw9=>ac_c n (U0.hL0 hL hw9) k2 (U0.kd (Ag R5 X2) hw9) (U0.kd (Ag U5 X2) hw9) u6) I<|Ac I<|Ab (Ai I I)<|Ab (Ai I I)<|RG.nl zL U0 fun A8 Z6 W3 v1=>AQ (ab d0.1) W3 .hd (ai I) fun B8 V0 x1=>Ah I<|Aa<|Aj<|Ae<|Ac I<|Ab (BA (i:=d0.2) (j:=0) I I)<|Aa<|BI I h (fun H3 h=>?_) (fun H3 h=>?_)
 refine Aq<|du 6 fun A0 Q0=>Rv 0 A0 I Q0 (fun _=>Al I)<|Rv 1 A0 I Q0 (fun _=>By I)<|Rv 2 A0 I Q0 (fun _=>Bg 0 I)<|Rx 3 64 A0 I Q0 (Bp I ((V0.memA .t4) 0 _ I))<|Rx 4 64 A0 I Q0 (Az I (V0.memA .hd))<|Rx 5 64 A0 I Q0 (Az I (V0.memA .t1))<|BK (i:=6) (rk A0) (RO.enterPT (m' :=127) (fst:=[]) (cap:=[]) (vs:=[.map (some b0),.agg ((ab d0.1)).toArray,.agg #[.bool j0.fj.fc,g1,.bool j0.fh.fc,j1]]) (sk A0) I I .plain (bd 88) func88 I I I I (e3 I I I) I (fun _ z7 R2 Q7=>?_))
 refine Ae<|RG.bx V0 I I fun D8 b7 X3 V1=>RG.bx X3 I I fun E8 c7 W0 W1=>Aa<|Aj<|Ae<|Ac I<|Ab (Az I (W0.memA .t1)) ?_
 have g2:=Tt P1 (Tt Q1 (Tt R1 (Tt E2 (Tt U1 (Tt Y0 (Tt Z0 (Tt v1 (Tt x1 (Tt V1 W1)))))))))
 have E5:=BO P0 g2
 rcases MR.get d0.1 E5 with ⟨d2,j2⟩ | ⟨A7,p2,j2,d2,V5⟩
 have h:=dp h d2
 refine Ab (FV.lookupK (kv:=d0.1) (q:=false) ar W0 .t7 underlying124 (z:=.agg #[.bool false,vN,.bool false,vN]) I I I (.inl ⟨j2,I,I⟩))<|Ac I<|Ab (Ai I I)<|Ab (Ai I I)<|RG.nl [.bool false,vN,.bool false,vN] W0 fun F8 g7 Y3 F2=>AQ [.bool false,vN,.bool false,vN] Y3 .hd (ai I) fun G8 G1 G2=>Ah I<|Aa<|Ae<|Ac I<|Aa<|Bz I<|Aq<|Am<|Ac I<|Ab (Az I (G1.memA .t2))<|Ab (Az I (G1.memA .t1)) ?_
 have Y2:=Tt g2 (Tt F2 G2)
 have Z2:=Tt Y0 (Tt Z0 (Tt v1 (Tt x1 (Tt V1 (Tt W1 (Tt F2 G2))))))
 refine RG.now .plain (BL (kv:=d0.1) (vv:=[.bool j0.fj.fc,g1,.bool j0.fh.fc,j1]) ar G1 .t8 underlying124 I I I) fun H8 Z3 H2=>Aa<|MX.fin I<|Au (u:=.tuple #[]) R2 func88 I .nil I<|AK (dk A0)<|MX.fin I<|Au (u:=.tuple #[]) b2 func86 I .nil I<|AK (dk q0)<|Ax<|Am<|Ab (Bc (i:=p0) (j:=1) I I (by omega))<|Ac I<|Aa ?_
 obtain ⟨b4,I2⟩:=AB Z3 .d7
 exact F1 (p0 + 1,u0,aC y0 d0.1 j0,(aC c0 d0.1 [.bool j0.fj.fc,g1,.bool j0.fh.fc,j1])) b4 (Tt u1 (Tt Y2 (Tt H2 I2))) (BO (MR.set (k:=d0.1) (c:=[.bool j0.fj.fc,g1,.bool j0.fh.fc,j1]) (y:=j0) (cG j0.fj (Ag k3 Z2) j0.fh (Ag p3 Z2)) (BO P0 Y2)) (Tt H2 I2)) h
 have h:=cZ h d2
 obtain ⟨C6,D6,rfl,q3,s3⟩:=cQ V5
 refine Ab (FV.lookupK (kv:=d0.1) (q:=true) ar W0 .t7 underlying124 (z:=.agg #[.bool false,vN,.bool false,vN]) I I I (.inr ⟨_,j2,I,I⟩))<|Ac I<|Ab (Ai I I)<|Ab (Ai I I)<|RG.nl [.bool false,vN,.bool false,vN] W0 fun I8 j7 c4 M0=>AQ [.bool p2.fj.fc,C6,.bool p2.fh.fc,D6] c4 .hd (o4 I (Ay (Ag q3 M0)) I (Ay (Ag s3 M0))) fun J8 q1 y1=>Ah I<|Aa<|Ae<|Ac I<|Aa<|AG I<|Am<|Ab (Az I (q1.memA .t1))<|Ab (Az I (q1.memA .hd))<|bk h fun x0 v6 h=>?_
 have b3:=Tt Y0 (Tt Z0 (Tt v1 (Tt x1 (Tt V1 (Tt W1 (Tt M0 y1))))))
 refine jE (bd 81) I (e2 I I) (fun w9 hw9=>aa_c n (q1.hL hL hw9) j0 (Af (Ag k3 b3) hw9) (Af (Ag p3 b3) hw9) p2 (Af (Ag q3 (Tt M0 y1)) hw9) (Af (Ag s3 (Tt M0 y1)) hw9) v6) I fun M8 d8 p5 ⟨B1,C1,hu_,u3,v3⟩=>?_
 subst hu_
 obtain ⟨g4,G4⟩:=q1.agr p5
 refine AQ [.bool x0.fj.fc,B1,.bool x0.fh.fc,C1] g4 .t1 (o4 I (Ay u3) I (Ay v3)) fun P8 H1 X1=>Aa<|Am<|Ac I<|Ab (Az I (H1.memA .t2))<|Ab (Az I (H1.memA .t1)) ?_
 have c3:=Tt g2 (Tt M0 (Tt y1 (Tt G4 X1)))
 refine RG.now .plain (BL (kv:=d0.1) (vv:=[.bool x0.fj.fc,B1,.bool x0.fh.fc,C1]) ar H1 .t8 underlying124 I I I) fun Q8 j4 K2=>Aa<|MX.fin I<|Au (u:=.tuple #[]) R2 func88 I .nil I<|AK (dk A0)<|MX.fin I<|Au (u:=.tuple #[]) b2 func86 I .nil I<|AK (dk q0)<|Ax<|Am<|Ab (Bc (i:=p0) (j:=1) I I (by omega))<|Ac I<|Aa ?_
 obtain ⟨k4,M2⟩:=AB j4 .d7
 exact F1 (p0 + 1,u0,aC y0 d0.1 x0,(aC c0 d0.1 [.bool x0.fj.fc,B1,.bool x0.fh.fc,C1])) k4 (Tt u1 (Tt c3 (Tt K2 M2))) (BO (MR.set (k:=d0.1) (c:=[.bool x0.fj.fc,B1,.bool x0.fh.fc,C1]) (y:=x0) (cG x0.fj (Ag u3 X1) x0.fh (Ag v3 X1)) (BO P0 c3)) (Tt K2 M2)) h
 refine Ae<|Ac I<|Ab (By I)<|Bm 1 I<|RG.now .plain (BU (j:=1) (old:=[.map (some b0),.bool u0]) (news:=[.bool true]) (new' :=[.map (some b0),.bool true]) V0 .t4 I I I I I I (o1 I) I) fun R8 p4 H4=>Aa<|Ar I<|Au (u:=.tuple #[]) b2 func86 I .nil I<|AK (dk q0)<|Ax<|Am<|Ab (Bc (i:=p0) (j:=1) I I (by omega))<|Ac I<|Aa ?_
 obtain ⟨q4,I4⟩:=AB p4 .d4
 have g3:=Tt P1 (Tt Q1 (Tt R1 (Tt E2 (Tt U1 (Tt Y0 (Tt Z0 (Tt v1 (Tt x1 (Tt H4 I4)))))))))
 exact F1 (p0 + 1,true,y0,c0) q4 (Tt u1 g3) (BO P0 g3) h
 refine AZ I ?_
 have h:=y5 _ h
 try dsimp only at h
 refine Ae<|Ac I<|BE (fst:=[]) (cap:=[]) (vs:=[vP t0]) .plain (bd 87) func87 I I I I (e1 I) I fun B7 c2 R7=>Ae<|Ah I<|Ah I<|Aa<|Aj<|Ae<|Ac I<|Ab (By I)<|Bm 0 I<|Bf I ((B0.memA .hd) 0 _ I)<|Ab (FV.as (FV.len_map (D:=c0) B0 .t1 underlying124 I) (congrArg (fun n9:Nat=>Value.int .i64 (n9:Int)) (MR.len P0)))<|Ab (FV.gtrN (i:=y0.length) (j:=400) I I)<|Aa<|AV I h (fun I3 h=>?_) (fun I3 h=>?_)
 refine Ae<|Ah I<|Ah I<|Aa<|Ar I<|Au (u:=.tuple #[vN,vI 3]) c2 func87 I (.cons (.tmp I) (.cons (.tmp I) .nil)) I<|Ab (Ai I I)<|Ab (Ai I I)<|Ah I<|Ah I<|Aa<|Ar I<|Au (u:=.tuple #[vN,vI 3]) Z1 func83 I (.cons (.tmp I) (.cons (.tmp I) .nil)) I<|Ab (Ai I I)<|Ab (Ai I I)<|Ah I<|Ah I<|Aa<|Ar I ?_
 have W5:=Bo (α:=Ta) B0 L
 refine Au hb0 func29 I (.cons (.tmp I) (.cons (.tmp I) .nil)) I ?_
 cases h
 exact ⟨B0.ag,fun w9 hw9=>⟨vN,I,B0.kd W5 hw9⟩⟩
 refine Aq<|Ae<|Ah I<|Aa<|Aj<|Ae<|Ac I<|Ab (By I)<|Bm 0 I<|Bf I ((B0.memA .hd) 0 _ I)<|Ao .plain I (Does.range (D:=c0) B0 .t1 underlying124 I) fun H6 K0 B2 J4=>Aa<|Av ?_
 have C2:=B2.nilRow 37 (Rep.size Ta)
 refine MX.mloop (α:=(Lb Ta) × Bool × Vc × (Lb Vc) × (Array Nat)) (fun ⟨v0,C0,s0,F0,D0⟩=>[(0,vP t0),(4,s0),(19,vP K0)]) (fun A3 ⟨v0,C0,s0,F0,D0⟩ D1=>St w D1 [rr w 37 Ta s0 v0.length F0,.obj K0 (aD b0 c0.length D0),.cells t0 [.map (some b0),.bool C0] 126,.obj b0 (aA c0),rr w 34 Tb (vS J0 1) (([a1]:Lb Tb).length) (ab a1),rr w 24 (Lb Ta) (vS I0 1) (([a0]:Lb (Lb Ta)).length) [v0_0],.cells H0 (ab a1) 34]/\Tr H6 [rr w 37 Ta vN (([]:Lb Ta).length) [],.obj K0 (aD b0 c0.length #[]),.cells t0 [.map (some b0),.bool u0] 126,.obj b0 (aA c0),rr w 34 Tb (vS J0 1) (([a1]:Lb Tb).length) (ab a1),rr w 24 (Lb Ta) (vS I0 1) (([a0]:Lb (Lb Ta)).length) [v0_0],.cells H0 (ab a1) 34] D1 [rr w 37 Ta s0 v0.length F0,.obj K0 (aD b0 c0.length D0),.cells t0 [.map (some b0),.bool C0] 126,.obj b0 (aA c0),rr w 34 Tb (vS J0 1) (([a1]:Lb Tb).length) (ab a1),rr w 24 (Lb Ta) (vS I0 1) (([a0]:Lb (Lb Ta)).length) [v0_0],.cells H0 (ab a1) 34]/\Cells D1 (bl [rr w 37 Ta s0 v0.length F0,.obj K0 (aD b0 c0.length D0),.cells t0 [.map (some b0),.bool C0] 126,.obj b0 (aA c0),rr w 34 Tb (vS J0 1) (([a1]:Lb Tb).length) (ab a1),rr w 24 (Lb Ta) (vS I0 1) (([a0]:Lb (Lb Ta)).length) [v0_0],.cells H0 (ab a1) 34] ++ L) F0 v0/\left y0 D0 = A3) (fun ⟨v0,C0,s0,F0,D0⟩=>(v0,C0)) (([]:Lb Ta),u0,vN,[],#[]) h ⟨rfl,rfl,rfl,trivial⟩ ⟨C2,BM _ _,(AI (cs:=[]) (xs:=([]:Lb Ta)) C2 L (AT _ _)),(cT _)⟩ ?_
 rintro A3 ⟨v0,C0,s0,F0,D0⟩ D1 U6 P3 ⟨s4,P2,U2,B5⟩ F5 u5
 refine Ae<|RG.nextR (W:=c0) (BO P0 (Tt J4 (Tt (BW B2 37 (Rep.size Ta)) P2))) s4 .t3 (fun _=>.t1) I I B5 (fun U8 G5 G0 K4=>?_) (fun V8 z3 g0 C7 z6 z5 X5 I5 C5 D2 M4=>?_)
 have h:=F5 G5
 try dsimp only at h
 refine Ab (Ai I I)<|Aa<|Aj<|Bz I<|AZ I<|Aj<|Ae<|Ac I<|Ab (By I)<|Bm 1 I<|Bf I ((G0.memA .t2) 1 _ I)<|Aa<|MX.ifb I h (fun J3 h=>?_) (fun J3 h=>?_)
 refine Ae<|Ah I<|Ah I<|Aa<|Ar I<|Au (u:=.tuple #[vN,vI 6]) c2 func87 I (.cons (.tmp I) (.cons (.tmp I) .nil)) I<|Ab (Ai I I)<|Ab (Ai I I)<|Ah I<|Ah I<|Aa<|Ar I<|Au (u:=.tuple #[vN,vI 6]) Z1 func83 I (.cons (.tmp I) (.cons (.tmp I) .nil)) I<|Ab (Ai I I)<|Ab (Ai I I)<|Ah I<|Ah I<|Aa<|Ar I ?_
 have Y5:=Bo (α:=Ta) G0 L
 refine Au hb0 func29 I (.cons (.tmp I) (.cons (.tmp I) .nil)) I ?_
 cases h
 exact ⟨G0.ag,fun w9 hw9=>⟨vN,I,G0.kd Y5 hw9⟩⟩
 refine Aq<|Ae<|Ac I<|BE (fst:=[]) (cap:=[]) (vs:=[s0,.func (.func 144) #[] #[]]) .plain (bd 143) func143 I I I I (e2 I I) I fun D7 q5 U7=>Ae<|Ac I ?_
 have K7:v0.length <= 4294967296:=St.rowLe (α:=Ta) G0 .hd
 obtain ⟨Q6,u7,x5⟩:=St.rowV (α:=Ta) G0 .hd
 refine Ab (FV.lenV underlying24 I x5)<|Ah I<|Aa<|Am<|Ac I<|Ac I<|Ac I<|Ab (FV.convU (i:=((v0.length:Nat):Int)) underlying3 underlying193 I)<|bk h fun E3 x6 h=>Bd (vI E3) (bd 174) I (e1 I) (fun w9 hw9=>bP_c n (G0.hL0 hL hw9) (ae ((v0.length:Nat):Int)) x6) I<|Ac I<|bk h fun C3 g6 h=>RG.sort (enc:=av) (ρ:=Tryz.srt173_ren) (c:=(fun x9 y9=>aj_p n x9 y9)) (li:=E3) g6 I (fun _ _ _ _ h9=>aF h9) (fun w9 L9 z9=>aW (w:=w9) (L:=L9) z9.fm z9.fP) Tryz.srt173 (fun w9=>Tryz.isAgg37 w9) (fun w9=>Tryz.sizeOf37 w9) (enters_of func144 I I) (fun x9 y9 r9 w9 h9=>aj_c n (L:=[]) (w:=w9) (fun _ h8=>nomatch h8) x9 y9 h9) .plain (bd 173) I (e5 I I I I I) I G0 (AR U2 K4) .hd fun I6 s1 H7=>Aa<|MX.fin I<|Au (u:=.tuple #[]) q5 func143 I .nil I<|Aa<|Ae<|Ac I<|Ah I<|Ah I<|Aa<|Ar I<|Au (u:=.tuple #[s0,vI 0]) c2 func87 I (.cons (.tmp I) (.cons (.tmp I) .nil)) I<|Ab (Ai I I)<|Ab (Ai I I)<|Ah I<|Ah I<|Aa<|Ar I<|Au (u:=.tuple #[s0,vI 0]) Z1 func83 I (.cons (.tmp I) (.cons (.tmp I) .nil)) I<|Ab (Ai I I)<|Ab (Ai I I)<|Ah I<|Ah I<|Aa<|Ar I ?_
 have I1:=Bu s1 .hd
 have I7:=Bv s1 .hd
 have Z5:=Bw (α:=Ta) (v:=s0) (xs:=C3) I1 L (Bi (α:=Ta) s1 .hd (AI s1 L (bS (α:=Ta) (enc:=av) (fun w9 L9 z9=>aW (w:=w9) (L:=L9) z9.fm z9.fP) I6 _ C3)) hL)
 refine Au hb0 func29 I (.cons (.tmp I) (.cons (.tmp I) .nil)) I ?_
 cases h
 exact ⟨I1.ag,fun w9 hw9=>⟨s0,I,I1.kd Z5 hw9⟩⟩
 obtain ⟨E6,F6,rfl,x3,y3⟩:=cQ X5
 have h:=u5 _ _ I5
 unfold de at h
 try dsimp only at h
 refine Ab (Ai I I)<|Aa<|Aj<|AG I<|Aq<|Av<|Ae<|Ab (FV.entry (D:=c0) D2 .t3 .t1 z5 I)<|Ab (Ai I I)<|Ab (Ai I I)<|RG.nl zL D2 fun W8 q2 u4 P4=>RG.nl [.bool false,vN,.bool false,vN] u4 fun X8 k7 v4 Q4=>AQ (ab g0.1) v4 .t1 (ai I) fun Y8 x4 R4=>?_
 have b1:=Tt M4 (Tt P4 (Tt Q4 R4))
 refine AQ [.bool g0.2.fj.fc,E6,.bool g0.2.fh.fc,F6] x4 .hd (o4 I (Ay (Ag x3 b1)) I (Ay (Ag y3 b1))) fun Z8 X0 Y1=>Aa<|Ae<|Ab (Az I (X0.memA .hd))<|bk h fun k0 y6 h=>Bd (.tuple #[.agg ((ab k0.1)).toArray,vI k0.2]) (bd 77) I (e1 I) (fun w9 hw9=>ac_c n (X0.hL0 hL hw9) g0.2 (X0.kd (Ag x3 (Tt b1 Y1)) hw9) (X0.kd (Ag y3 (Tt b1 Y1)) hw9) y6) I<|Ac I<|Ab (Ai I I)<|Ab (Ai I I)<|RG.nl zL X0 fun b9 s2 y4 U4=>AQ (ab k0.1) y4 .hd (ai I) fun c9 J1 V4=>Ah I<|Aa<|Aj<|Ae<|Ac I<|Ab (BA (i:=k0.2) (j:=0) I I)<|Aa<|MX.jo (α:=Bool) (fun R0=>[(0,vP t0),(4,s0),(19,vP K0),(5,vP q2),(7,vP s2)]) (fun R0=>[.cells s2 (ab k0.1) 34,.cells q2 (ab g0.1) 34,rr w 37 Ta s0 v0.length F0,.obj K0 (aD b0 c0.length (D0.push z3)),.cells t0 [.map (some b0),.bool R0] 126,.obj b0 (aA c0),rr w 34 Tb (vS J0 1) (([a1]:Lb Tb).length) (ab a1),rr w 24 (Lb Ta) (vS I0 1) (([a0]:Lb (Lb Ta)).length) [v0_0],.cells H0 (ab a1) 34]) (fun R0=>R0) J1 h ?_ ?_
 rintro R0 k9 K1 W4 h
 try dsimp only at h
 refine Am<|Ac I<|Ab (Az I (K1.memA .t1))<|Ab (Az I (K1.memA .hd))<|Ab (AS (vs:=[.agg ((ab g0.1)).toArray,.agg ((ab k0.1)).toArray]) (u:=.agg ((ab g0.1 ++ ab k0.1)).toArray) (e2 I I) (fun w9=>by kernel_rfl))<|Ao .plain I (AW (α:=Ta) (xs:=([(⟨g0.1,k0.1⟩:Ta)]:Lb Ta)) (vs:=[.agg ((ab g0.1 ++ ab k0.1)).toArray]) (ds' :=(ab g0.1 ++ ab k0.1)) I K1 cW I (e1 I) (by kernel_rfl) I) fun d9 p7 M1 X4=>bk h fun J6 j6 h=>?_
 have j3:=Tt b1 (Tt Y1 (Tt U4 (Tt V4 (Tt W4 X4))))
 refine BD .plain I (Bn (α:=Ta) (ys:=([(⟨g0.1,k0.1⟩:Ta)]:Lb Ta)) j6 M1 (fun _ _=>.t3) cW I I (AR U2 j3) (BH (α:=Ta) M1 .hd (AI (cs:=(ab g0.1 ++ ab k0.1)) (xs:=(([(⟨g0.1,k0.1⟩:Ta)]:Lb Ta):Lb Ta)) M1 L (AE (cs:=(ab g0.1 ++ ab k0.1)) (ds:=[]) (aW g0.1 k0.1) (AT _ _))))) fun G6 g9 ⟨M3,z4,Y4,s5⟩=>Ah I<|Aa<|Ax ?_
 obtain ⟨A4,Q2⟩:=AB z4 .d3
 exact P3 z6 (J6,R0,G6,M3,(D0.push z3)) _ _ ⟨I,I,I,trivial⟩ ⟨A4,(Tt P2 (Tt j3 (Tt Y4 Q2))),(AR s5 Q2),C5⟩ h
 intro V6 u2 h
 try dsimp only at h
 refine BI I h (fun K3 h=>?_) (fun K3 h=>?_)
 refine Aq ?_
 obtain ⟨B4,Z4⟩:=AB J1 (.a0 .d1)
 exact u2 C0 B4 Z4 h
 refine Am<|Ac I<|Ab (By I)<|Bm 1 I<|RG.now .plain (BU (j:=1) (old:=[.map (some b0),.bool C0]) (news:=[.bool true]) (new' :=[.map (some b0),.bool true]) J1 .t5 I I I I I I (o1 I) I) fun j9 C4 b5=>Aa ?_
 obtain ⟨D4,c5⟩:=AB C4 (.a0 .d1)
 exact u2 true D4 (Tt b5 c5) h
 refine Ae<|Ac I<|Ah I<|Ah I<|Aa<|Ar I ?_
 have b6:=Bo (α:=Ta) z0 L
 refine Au hb0 func29 I (.cons (.tmp I) (.cons (.tmp I) .nil)) I ?_
 cases h
 exact ⟨z0.ag,fun w9 hw9=>⟨vN,I,z0.kd b6 hw9⟩⟩
def bp_p (n:Nat) (a0:Tb) (a1:Int) (a2:Int) (a3:Int):Oa Bool:=
  (ai_p n a2 a3).bind fun b0=>(if a0 = b0 then some (decide (a1 = 0)) else some false)
theorem bp_c (n:Nat) {L w} (hL:hl L w) (a0:Tb) {a1:Int} {a2:Int} {p2:Nat} (m2:∀ j9 v9,([vI a2]:Lb Vc)[j9]? = some v9 -> w.cell? ((⟨p2,0,none⟩:Addr).add j9) = some v9) {a3:Int} {p3:Nat} (m3:∀ j9 v9,([vI a3]:Lb Vc)[j9]? = some v9 -> w.cell? ((⟨p3,0,none⟩:Addr).add j9) = some v9)  {r:Bool} (h:bp_p n a0 a1 a2 a3 = some r) :
 Cl 92 #[.agg ((ab a0)).toArray,vI a1,.pointer (some ⟨p2,0,none⟩),.pointer (some ⟨p3,0,none⟩)] w (aj w fun _ u=>u = .bool r):=by
 unfold bp_p at h
 refine AM func92 I I I fun _ cs0 hb0=>Ae<|RG.bx (AL w) I I fun s0 p0 d0 q0=>Ah I<|Aa<|Aj<|du 10 fun b0 c0=>Rx 0 1008 b0 I c0 (Az I (d0.memA .hd))<|Rx 1 1016 b0 I c0 (Bp I ((fun j9 v9 h9=>d0.ag.cell0 (m2 j9 v9 h9)) 0 _ I))<|Rx 2 1016 b0 I c0 (Bp I ((fun j9 v9 h9=>d0.ag.cell0 (m3 j9 v9 h9)) 0 _ I))<|bk h fun g0 k0 h=>RD.cq 3 15 1008 (.agg ((ab g0)).toArray) b0 I c0 (bd 15) I (e2 I I) (fun w9 hw9=>ai_c n (d0.hL0 hL hw9)  k0) I<|Rv 4 b0 I c0 (fun _=>FV.eqlV (v:=.agg ((ab a0)).toArray) (u:=.agg ((ab g0)).toArray) I I (cn a0 g0))<|Rv 5 b0 I c0 (fun _=>Al I)<|RD.ifd (s:=12) I h (fun j0 h=>?_) (fun j0 h=>?_)
 refine BR 6 127 b0 I c0 (.yes I I) (fun _=>Al I) I<|BR 7 255 b0 I c0 (.yes I I) (fun _=>FV.eql (i:=a1) (j:=0) I I) I<|Rv 8 b0 I c0 (fun _=>BT I I)<|Rv 9 b0 I c0 (fun _=>Bj I)<|AK (dk b0)<|Ar I<|Bb hb0 func92 I I ?_
 cases h
 exact d0.gv
 refine BF 255 2 [(6,13),(7,14)] (F:=[(12,false)]) (U:=[]) b0 c0 (.cons I .nil) .nil ?_
 dsimp only [aO,List.map]
 refine Rv 8 b0 I c0 (fun _=>Br I I)<|Rv 9 b0 I c0 (fun _=>Bj I)<|AK (dk b0)<|Ar I<|Bb hb0 func92 I I ?_
 cases h
 exact d0.gv
theorem cR_c (_n:Nat) {L w} (_hL:hl L w) (a0:Int) (a1:Int)  :
 Cl 30 #[vI a0,vI a1] w (aj w fun w' u=>∃ b0 c0:Nat,u = .func (.func 92) #[] #[vP b0,vP c0]/\St w w' [.cells b0 [vI a0] 3,.cells c0 [vI a1] 3]):=by
 refine AM func30 I I I fun _ cs0 hb0=>Ae<|RG.bx (AL w) I I fun t0 b0 j0 p0=>RG.bx j0 I I fun u0 c0 k0 q0=>Ah I<|Aa<|Ae<|Ab (FV.makeFunc (vs:=[]) (us:=[vP b0,vP c0]) am (e2 I I))<|Ah I<|Aa<|Ar I<|Au (u:=.func (.func 92) #[] #[vP b0,vP c0]) hb0 func30 I (.cons (.tmp I) .nil) I ?_
 obtain ⟨g0,s0⟩:=AB k0 (.a1 .d0)
 exact ⟨g0.ag,fun w9 hw9=>⟨b0,c0,I,g0.agree hw9⟩⟩
def df_p (n:Nat) (a0:Tb):Oa Bool:=
  (ak_p n a0).bind fun b0=>(aW_p n b0.fj).bind fun c0=>some (decide (c0 < 0))
theorem df_c (n:Nat) {L w} (hL:hl L w) (a0:Tb)  {r:Bool} (h:df_p n a0 = some r) :
 Cl 94 #[.agg ((ab a0)).toArray] w (aj w fun _ u=>u = .bool r):=by
 unfold df_p at h
 refine AM func94 I I I fun _ cs0 hb0=>Ae<|RG.bx (AL w) I I fun A0 u0 b0 v0=>Ah I<|Aa<|Ae<|Ab (Az I (b0.memA .hd))<|bk h fun d0 p0 h=>jE (bd 68) I (e1 I) (fun w9 hw9=>ak_c n (b0.hL hL hw9) a0 p0) I fun B0 z0 j0 ⟨s0,t0,hu_,k0,y0⟩=>?_
 subst hu_
 obtain ⟨c0,x0⟩:=b0.agr j0
 refine Ab (FV.fieldN (cs:=[.bool d0.fj.fc,s0,.bool d0.fh.fc,t0]) (off:=0) (m:=2) I I I I)<|bk h fun g0 q0 h=>Bd (vI g0) (bd 67) I (e1 I) (fun w9 hw9=>aW_c n (c0.hL0 hL hw9) d0.fj (c0.kd k0 hw9) q0) I<|Ab (FV.lss (i:=g0) (j:=0) I I)<|Ah I<|Aa<|Ar I<|Bb hb0 func94 I I ?_
 cases h
 exact c0.gv

def bG_l1 (n:Nat) (j0:Lb Ta) (p0:Td) (g0:Nat × (Lb (Tb × Td)) -> Oa (Lb (Tb × Td))):Nat × (Lb (Tb × Td)) -> Oa (Lb (Tb × Td))
  | (c0,b0)=>(if c0 < j0.length then (j0[c0]?).bind fun d0=>(bn_p n d0).bind fun q0=>(ax_p n q0 p0).bind fun k0=>ew (bD b0 d0.fm) (g0 (c0 + 1,aC b0 d0.fm k0)) (fun s0=>(aa_p n k0 s0).bind fun t0=>g0 (c0 + 1,aC b0 d0.fm t0)) else some b0)
def dF (n:Nat) (c0:Tb × Td) (g0:(Lb Ta) × Bool -> Oa ((Lb Ta) × Int)):(Lb Ta) × Bool -> Oa ((Lb Ta) × Int)
  | (p0,j0)=>(ac_p n c0.2).bind fun d0=>jn (fun k0=>(app p0 ([(⟨c0.1,d0.1⟩:Ta)]:Lb Ta)).bind fun q0=>g0 (q0,k0)) (fun b0=>(if d0.2 = 0 then b0 j0 else b0 true))
def bG_l2 (n:Nat) (a0:Lb (Lb Ta)) (a1:Lb Tb) (d0:Nat × (Lb (Tb × Td)) -> Oa (Lb (Tb × Td))):Nat × (Lb (Tb × Td)) -> Oa (Lb (Tb × Td))
  | (b0,c0)=>(if b0 < a0.length then (a0[b0]?).bind fun k0=>(a1[b0]?).bind fun p0=>(ak_p n p0).bind fun g0=>(aW_p n g0.fj).bind fun q0=>(if q0 = 0 then d0 (b0 + 1,c0) else Option.bind (ao (bG_l1 n k0 g0) n (0,c0)) (fun j0=>d0 (b0 + 1,j0))) else some c0)
def bG_l3 (n:Nat) (a1:Lb Tb) (p0:Nat × Bool × (Lb Ua) × Bool × (Lb Ua) -> Oa (Bool × (Lb Ua) × Bool × (Lb Ua))):Nat × Bool × (Lb Ua) × Bool × (Lb Ua) -> Oa (Bool × (Lb Ua) × Bool × (Lb Ua))
  | (c0,d0,j0,g0,k0)=>(if c0 < a1.length then (a1[c0]?).bind fun q0=>(ak_p n q0).bind fun s0=>(aa_p n (⟨(⟨d0,j0⟩:Tg),(⟨g0,k0⟩:Tg)⟩:Td) s0).bind fun b0=>p0 (c0 + 1,b0.fj.fc,b0.fj.fk,b0.fh.fc,b0.fh.fk) else some (d0,j0,g0,k0))
def bG_l4 (n:Nat) (j0:Lb Ta) (p0:Td) (g0:Nat × (Lb (Tb × Td)) -> Oa (Lb (Tb × Td))):Nat × (Lb (Tb × Td)) -> Oa (Lb (Tb × Td))
  | (c0,b0)=>(if c0 < j0.length then (j0[c0]?).bind fun d0=>(bn_p n d0).bind fun q0=>(ax_p n q0 p0).bind fun k0=>ew (bD b0 d0.fm) (g0 (c0 + 1,aC b0 d0.fm k0)) (fun s0=>(aa_p n k0 s0).bind fun t0=>g0 (c0 + 1,aC b0 d0.fm t0)) else some b0)
def dK (n:Nat) (c0:Tb × Td) (g0:(Lb Ta) × Bool -> Oa ((Lb Ta) × Int)):(Lb Ta) × Bool -> Oa ((Lb Ta) × Int)
  | (p0,j0)=>(ac_p n c0.2).bind fun d0=>jn (fun k0=>(app p0 ([(⟨c0.1,d0.1⟩:Ta)]:Lb Ta)).bind fun q0=>g0 (q0,k0)) (fun b0=>(if d0.2 = 0 then b0 j0 else b0 true))
def bG_l5 (n:Nat) (a0:Lb (Lb Ta)) (a1:Lb Tb) (d0:Nat × (Lb (Tb × Td)) -> Oa (Lb (Tb × Td))):Nat × (Lb (Tb × Td)) -> Oa (Lb (Tb × Td))
  | (b0,c0)=>(if b0 < a0.length then (a0[b0]?).bind fun k0=>(a1[b0]?).bind fun p0=>(ak_p n p0).bind fun g0=>(aW_p n g0.fj).bind fun q0=>(if q0 = 0 then d0 (b0 + 1,c0) else Option.bind (ao (bG_l4 n k0 g0) n (0,c0)) (fun j0=>d0 (b0 + 1,j0))) else some c0)
def bG_l6 (n:Nat) (a1:Lb Tb) (p0:Nat × Bool × (Lb Ua) × Bool × (Lb Ua) -> Oa (Bool × (Lb Ua) × Bool × (Lb Ua))):Nat × Bool × (Lb Ua) × Bool × (Lb Ua) -> Oa (Bool × (Lb Ua) × Bool × (Lb Ua))
  | (c0,d0,j0,g0,k0)=>(if c0 < a1.length then (a1[c0]?).bind fun q0=>(ak_p n q0).bind fun s0=>(aa_p n (⟨(⟨d0,j0⟩:Tg),(⟨g0,k0⟩:Tg)⟩:Td) s0).bind fun b0=>p0 (c0 + 1,b0.fj.fc,b0.fj.fk,b0.fh.fc,b0.fh.fk) else some (d0,j0,g0,k0))
def bG_l7 (n:Nat) (a1:Lb Tb) (a0:Lb (Lb Ta)) (g0:Nat -> Oa (((Lb Ta) × Int) ⊕ Unit)):Nat -> Oa (((Lb Ta) × Int) ⊕ Unit)
  | i32=>(if i32 < a1.length then (a1[i32]?).bind fun q0=>(df_p n q0).bind fun z0=>(if z0 = true then ((if 0 <= i32 then some (([]:Lb Ta),(2:Int)) else (aL_p n (0:Int)).bind fun b0=>Option.bind (ao (bG_l3 n a1) n (0,b0.fj.fc,b0.fj.fk,b0.fh.fc,b0.fh.fk)) (fun (k0,t0,p0,u0)=>(aL_p n (1:Int)).bind fun x0=>(aN_p n (⟨(⟨k0,t0⟩:Tg),(⟨p0,u0⟩:Tg)⟩:Td) x0).bind fun y0=>(if y0 = 0 then Option.bind (ao (bG_l2 n a0 a1) n (0,([]:Lb (Tb × Td)))) (fun c0=>(if 400 < c0.length then some (([]:Lb Ta),(3:Int)) else mloop (fun (d0,j0)=>(if j0 = true then some (([]:Lb Ta),(6:Int)) else (bP_p n (ae ((d0.length:Nat):Int))).bind fun v0=>(gM (fun x9 y9=>aj_p n x9 y9) v0 d0).bind fun s0=>some (s0,(0:Int)))) (dF n) n c0 (([]:Lb Ta),false))) else some (([]:Lb Ta),(2:Int)))))).map .inl else g0 (i32 + 1)) else some (.inr ()))
def bG_p (n:Nat) (a0:Lb (Lb Ta)) (a1:Lb Tb):Oa ((Lb Ta) × Int):=
  (if 40 < a0.length then some (([]:Lb Ta),(3:Int)) else (if 40 < a1.length then some (([]:Lb Ta),(3:Int)) else (ar_p n a0 a1).bind fun y7=>(if y7 = 0 then (if a0.length = a1.length then thn (ao (bG_l7 n a1 a0) n 0) (fun _=>(if 0 <= (-1) then some (([]:Lb Ta),(2:Int)) else (aL_p n (0:Int)).bind fun b0=>Option.bind (ao (bG_l6 n a1) n (0,b0.fj.fc,b0.fj.fk,b0.fh.fc,b0.fh.fk)) (fun (g0,p0,j0,q0)=>(aL_p n (1:Int)).bind fun t0=>(aN_p n (⟨(⟨g0,p0⟩:Tg),(⟨j0,q0⟩:Tg)⟩:Td) t0).bind fun u0=>(if u0 = 0 then Option.bind (ao (bG_l5 n a0 a1) n (0,([]:Lb (Tb × Td)))) (fun c0=>(if 400 < c0.length then some (([]:Lb Ta),(3:Int)) else mloop (fun (d0,k0)=>(if k0 = true then some (([]:Lb Ta),(6:Int)) else (bP_p n (ae ((d0.length:Nat):Int))).bind fun v0=>(gM (fun x9 y9=>aj_p n x9 y9) v0 d0).bind fun s0=>some (s0,(0:Int)))) (dK n) n c0 (([]:Lb Ta),false))) else some (([]:Lb Ta),(2:Int)))))) else some (([]:Lb Ta),(2:Int))) else some (([]:Lb Ta),y7))))
theorem bG_c (n:Nat) {L w} (hL:hl L w) {a0:Lb (Lb Ta)} {v0_0:Vc} (h0_0:Rep.R w L [v0_0] a0) {a1:Lb Tb} {v1_0:Vc} (h1_0:Rep.R w L [v1_0] a1)  {r:(Lb Ta) × Int} (h:bG_p n a0 a1 = some r) :
 Cl 31 #[v0_0,v1_0] w (aj w fun w' u=>∃ v0_0:Vc,u = .tuple #[v0_0,vI r.2]/\Rep.R w' L [v0_0] r.1):=by
 unfold bG_p at h
 have hS0:=AL w
 refine AM func31 I I I fun _ cs0 hb0=>Ae<|Ah I<|Ah I<|Aa<|Aj<|Ae<|Ac I ?_
 have hl1:=AY h0_0
 refine Ab (Ba (xs:=a0) underlying57 I h0_0)<|Ab (FV.gtrN (i:=a0.length) (j:=40) I I)<|Ac I<|RG.ifd (s:=16) I h (fun c2 h=>?_) (fun c2 h=>?_)
 refine Ap<|Ap<|Ap<|Bk I I<|Aa<|AG I<|Ae<|Ah I<|Ah I<|Aa<|Ar I ?_
 have hr3:=Bo (α:=Ta) hS0 L
 refine Au hb0 func31 I (.cons (.tmp I) (.cons (.tmp I) .nil)) I ?_
 cases h
 exact ⟨hS0.ag,fun w9 hw9=>⟨vN,I,hS0.kd hr3 hw9⟩⟩
 refine AJ (Al I) ?_
 have hl4:=AY h1_0
 refine AJ (Ba (xs:=a1) underlying51 I h1_0)<|AJ (FV.gtrN (i:=a1.length) (j:=40) I I)<|Bs I I<|Aa<|AV I h (fun c5 h=>?_) (fun c5 h=>?_)
 refine Ae<|Ah I<|Ah I<|Aa<|Ar I ?_
 have hr6:=Bo (α:=Ta) hS0 L
 refine Au hb0 func31 I (.cons (.tmp I) (.cons (.tmp I) .nil)) I ?_
 cases h
 exact ⟨hS0.ag,fun w9 hw9=>⟨vN,I,hS0.kd hr6 hw9⟩⟩
 refine Aq<|Aj<|Ae<|Ac I<|Ac I<|bk h fun y7 hy7 h=>Bd (vI y7) (bd 63) I (e2 I I) (fun w9 hw9=>ar_c n (hS0.hL0 hL hw9) (hS0.kd h0_0 hw9) (hS0.kd h1_0 hw9) hy7) I<|Ah I<|Aa<|Ae<|Ac I<|Ab (BA (i:=y7) (j:=0) I I)<|Aa<|BI I h (fun c8 h=>?_) (fun c8 h=>?_)
 refine Aq<|Aj<|Ae<|Ac I<|Ab (Ba (xs:=a0) underlying57 I h0_0)<|Ac I<|Ab (Ba (xs:=a1) underlying51 I h1_0)<|Ab (FV.neqN (i:=a0.length) (j:=a1.length) I I)<|Ac I<|RG.ifn (s:=32) I h (fun c9 h=>?_) (fun c9 h=>?_)
 refine AJ (Al I)<|BE (fst:=[]) (cap:=[]) (vs:=[v1_0,.func (.func 94) #[] #[]]) (.yes I I) (bd 93) func93 I I I I (e2 I I) I fun J09 c7 K0a=>Ae<|Ah I<|Aa<|Ae<|Ac I<|Ac I<|BE (fst:=[]) (cap:=[]) (vs:=[v1_0,.func (.func 94) #[] #[]]) .plain (bd 146) func146 I I I I (e2 I I) I fun P09 d7 M0a=>Ae<|Ah I<|Aa<|Aj<|Ae<|Ac I<|Ab (Ba (xs:=a1) underlying51 I h1_0)<|Ac I<|Aa<|Av<|tn h fun o38 v05 q7=>MX.lo (α:=Nat) (fun i32=>[(0,v1_0),(1,.func (.func 94) #[] #[]),(7,vn a1.length),(8,vn i32)]) (fun i32=>[]) (fun i32=>i32) 0 v05 hS0 ?_
 rintro J40 i32 t0e d00 W0 K02 h
 unfold bG_l7 at h
 try dsimp only at h
 refine Ae<|Ab (AU (i:=i32) (j:=a1.length) I I)<|Aa<|Aj<|AV I h (fun R9 h=>?_) (fun R9 h=>?_)
 refine Aq<|Aj<|Av<|Ae<|Ac I<|Ah I<|Aa<|Ae<|Ac I<|Ac I<|Ac I<|bk h fun x43 I06 h=>?_
 obtain ⟨A44,c45,j04,G04,t0a,y06,b05⟩:=Bh (AH h1_0 W0) I06
 obtain rfl:=dh y06
 refine Ab (Be 16 i32 I j04 I I G04)<|Ab (Az I b05)<|bk h fun y52 A07 h=>Bd (.bool y52) (bd 94) I (e1 I) (fun w9 hw9=>df_c n (W0.hL0 hL hw9) x43 A07) I<|Aa<|MX.ifb I h (fun U9 h=>?_) (fun U9 h=>?_)
 refine Ae<|Ac I<|Ah I<|Aa ?_
 have h:=ig h q7
 refine Ar I<|Au (u:=vn i32) d7 func146 I (.cons (.tmp I) .nil) I<|Ab (FV.geqN (i:=i32) (j:=0) I I)<|Ah I<|Aa<|Ar I<|Au (u:=.bool (decide (0 <= i32))) c7 func93 I (.cons (.tmp I) .nil) I<|Bs I I<|Ac I<|RG.ifd (s:=36) I h (fun V9 h=>?_) (fun V9 h=>?_)
 refine Ap<|Ap<|Ap<|Ap<|Ap<|Bk I I<|Aa<|AG I<|Ae<|Ah I<|Ah I<|Aa<|Ar I ?_
 have z06:=Bo (α:=Ta) W0 L
 refine Au hb0 func31 I (.cons (.tmp I) (.cons (.tmp I) .nil)) I ?_
 cases h
 exact ⟨W0.ag,fun w9 hw9=>⟨vN,I,W0.kd z06 hw9⟩⟩
 refine AJ (Al I)<|BE (fst:=[]) (cap:=[]) (vs:=[v1_0,.func (.func 68) #[] #[]]) (.yes I I) (bd 95) func95 I I I I (e2 I I) I fun u0a K03 Y0a=>Ae<|RG.nl [.bool false,vN,.bool false,vN] W0 fun w60 I2 b6 E0a=>Aa<|Ae<|bk h fun u2 B07 h=>jE (bd 71) I (e1 I) (fun w9 hw9=>aL_c n (b6.hL hL hw9)  B07) I fun w65 X0b G03 ⟨Q8,R8,hu_,B8,C8⟩=>?_
 subst hu_
 obtain ⟨P01,F0a⟩:=b6.agr G03
 refine RG.nl [.bool false,vN,.bool false,vN] P01 fun w75 J2 Q01 g3=>AQ [.bool u2.fj.fc,Q8,.bool u2.fh.fc,R8] Q01 .hd (o4 I (Ay (Ag B8 g3)) I (Ay (Ag C8 g3))) fun w81 c6 b7=>Aa<|Aj<|Ae<|Ac I<|Ab (Ba (xs:=a1) underlying51 I (AH h1_0 c6))<|Ac I<|Aa<|Av ?_
 obtain ⟨c0b,q05,q04⟩:=ap h
 refine BP (α:=Nat × Bool × (Lb Ua) × Bool × (Lb Ua) × Vc × Vc) (fun ⟨p1,B0,K1,C0,M1,X0,Y0⟩=>[(1,.func (.func 68) #[] #[]),(4,vP I2),(5,vP J2),(9,v1_0),(10,vn a1.length),(11,vn p1)]) (fun ⟨p1,B0,K1,C0,M1,X0,Y0⟩=>[.cells J2 [.bool B0,X0,.bool C0,Y0] 109,.cells I2 [.bool false,vN,.bool false,vN] 109]) (fun ⟨p1,B0,K1,C0,M1,X0,Y0⟩ g5=>Rep.R g5 (bl [.cells J2 [.bool B0,X0,.bool C0,Y0] 109,.cells I2 [.bool false,vN,.bool false,vN] 109] ++ L) [X0] K1/\Rep.R g5 (bl [.cells J2 [.bool B0,X0,.bool C0,Y0] 109,.cells I2 [.bool false,vN,.bool false,vN] 109] ++ L) [Y0] M1) (fun ⟨p1,B0,K1,C0,M1,X0,Y0⟩=>(p1,B0,K1,C0,M1)) (0,u2.fj.fc,u2.fj.fk,u2.fh.fc,u2.fh.fk,Q8,R8) q05 c6 ⟨(Ag B8 (Tt g3 b7)),(Ag C8 (Tt g3 b7))⟩ ?_
 rintro M08 ⟨p1,B0,K1,C0,M1,X0,Y0⟩ g5 Z9 P2 v02 ⟨P4,Q4⟩ h
 unfold bG_l3 at h
 try dsimp only at h
 refine Ae<|Ab (AU (i:=p1) (j:=a1.length) I I)<|Aa<|Aj<|AV I h (fun E9 h=>?_) (fun E9 h=>?_)
 refine Aq<|Aj<|Av<|Ae<|bk h fun Z8 E06 h=>?_
 obtain ⟨B08,D09,Z03,C04,b0a,V05,V04⟩:=Bh (AH h1_0 P2) E06
 obtain rfl:=dh V05
 refine Ab (Be 16 p1 I Z03 I I C04)<|Ab (Az I V04)<|RG.nl zL P2 fun g0d k09 Y00 D02=>AQ (ab Z8) Y00 .hd (ai I) fun j0d U2 E02=>Aa<|du 5 fun W1 Z4=>Rx 0 48 W1 I Z4 (Az I (U2.memA .t1))<|Rv 1 W1 I Z4 (fun _=>Al I)<|Rx 2 56 W1 I Z4 (Az I (U2.memA .hd))<|bk h fun q08 j07 h=>AX 3 15 W1 I .plain (bd 68) I (e1 I) (fun w9 hw9=>ak_c n (U2.hL hL hw9) Z8 j07) I fun k0d M0b z03 ⟨x0b,y0b,hu_,W05,X05⟩=>?_
 subst hu_
 obtain ⟨Q5,F02⟩:=U2.agr z03
 refine bk h fun s2 k07 h=>?_
 have J4:=Tt D02 (Tt E02 F02)
 refine AX 4 31 W1 I .plain (bd 81) I (e2 I I) (fun w9 hw9=>aa_c n (Q5.hL hL hw9) (⟨(⟨B0,K1⟩:Tg),(⟨C0,M1⟩:Tg)⟩:Td) (Af (Ag P4 J4) hw9) (Af (Ag Q4 J4) hw9) q08 (Af W05 hw9) (Af X05 hw9) k07) I fun p0d P0b A03 ⟨M8,P8,hu_,j8,k8⟩=>?_
 subst hu_
 obtain ⟨Z00,G02⟩:=Q5.agr A03
 refine BB 5 63 W1 I I .plain (AC (news:=[.bool s2.fj.fc,M8,.bool s2.fh.fc,P8]) Z00 .t1 I I I I I I (o4 I (Ay j8) I (Ay k8))) fun q0d b01 x4=>AK (dk W1)<|Ax<|Am<|Ab (Bc (i:=p1) (j:=1) I I (by omega))<|Ac I<|Aa ?_
 obtain ⟨c01,y4⟩:=AB b01 .d1
 exact Z9 (p1 + 1,s2.fj.fc,s2.fj.fk,s2.fh.fc,s2.fh.fk,M8,P8) c01 (Tt v02 (Tt J4 (Tt G02 (Tt x4 y4)))) ⟨(Ag j8 (Tt x4 y4)),(Ag k8 (Tt x4 y4))⟩ h
 refine AZ I ?_
 have h:=q04 _ h
 try dsimp only at h
 refine Ae<|Ab (Az I (P2.memA .hd))<|AQ [.bool B0,X0,.bool C0,Y0] P2 .t1 (o4 I (Ay P4) I (Ay Q4)) fun s0d Y3 F6=>Aa<|Ar I<|Au (u:=.agg #[.bool B0,X0,.bool C0,Y0]) K03 func95 I (.cons (.many (cs:=[.bool B0,X0,.bool C0,Y0]) I I (Y3.memA .t1)) .nil) I<|bk h fun s08 p07 h=>AA (fst:=[]) (cap:=[]) (.yes I I) (bd 71) I (e1 I) (fun w9 hw9=>aL_c n (Y3.hL hL hw9)  p07) I fun t0d Q0b B03 ⟨z0b,A0b,hu_,Y05,Z05⟩=>?_
 subst hu_
 obtain ⟨x1,G6⟩:=Y3.agr B03
 refine bk h fun p9 q07 h=>BG (v:=vI p9) (fst:=[]) (cap:=[]) (.yes I I) (bd 69) I (e2 I I) (fun w9 hw9=>aN_c n (x1.hL0 hL hw9) (⟨(⟨B0,K1⟩:Tg),(⟨C0,M1⟩:Tg)⟩:Td) (x1.kd (Ag P4 (Tt F6 G6)) hw9) (x1.kd (Ag Q4 (Tt F6 G6)) hw9) s08 (x1.kd Y05 hw9) (x1.kd Z05 hw9) q07) I<|AJ (BA (i:=p9) (j:=0) I I)<|Bs I I<|Aa<|BI I h (fun H9 h=>?_) (fun H9 h=>?_)
 refine Aq<|Ae<|Ao .plain I (Does.makeMap (κ:=Tb) (ν:=Lb Vc) x1) fun u0d c0 R5 B0a=>Ab (AS (vs:=[.map (some c0)]) (u:=.agg #[.map (some c0),.bool false]) (e1 I) (fun w9=>by kernel_rfl))<|RG.bx R5 I I fun v0d v0 U5 H02=>Ah I<|Aa<|Aj<|Ae<|Ac I<|Ab (Ba (xs:=a0) underlying57 I (AH h0_0 U5))<|Ac I<|Aa<|Av ?_
 obtain ⟨g00,R01⟩:=AB U5 (.a0 (.a0 .done))
 obtain ⟨Z0a,k05,k04⟩:=ap h
 refine BP (α:=Nat × (Lb (Tb × Td)) × (Lb (Tb × Lb Vc))) (fun ⟨x0,c1,d0⟩=>[(1,v1_0),(7,vP v0),(46,v0_0),(47,vn a0.length),(48,vn x0)]) (fun ⟨x0,c1,d0⟩=>[.cells v0 [.map (some c0),.bool false] 126,.obj c0 (aA d0)]) (fun ⟨x0,c1,d0⟩ U8=>MR U8 (bl [.cells v0 [.map (some c0),.bool false] 126,.obj c0 (aA d0)] ++ L) d0 c1) (fun ⟨x0,c1,d0⟩=>(x0,c1)) (0,([]:Lb (Tb × Td)),([]:Lb (Tb × Lb Vc))) k05 g00 (BO (MR.at_ (Z:=([]:Lb (Tb × Lb Vc))) (M:=([]:Lb (Tb × Td))) R5 L trivial) (Tt H02 R01)) ?_
 rintro H08 ⟨x0,c1,d0⟩ U8 x5 U0 d6 p3 h
 unfold bG_l2 at h
 try dsimp only at h
 refine Ae<|Ab (AU (i:=x0) (j:=a0.length) I I)<|Aa<|Aj<|AV I h (fun t9 h=>?_) (fun t9 h=>?_)
 refine Aq<|Aj<|Av<|Ae<|Ac I<|bk h fun I3 A06 h=>?_
 obtain ⟨v08,y09,U03,y04,K09,z05,M04⟩:=Bh (AH h0_0 U0) A06
 obtain ⟨E07,rfl,K7⟩:=cY z05
 refine Ab (Be 1 x0 I U03 I I y04)<|Bf I (M04 0 _ I)<|Ah I<|Ah I<|Aa<|Ae<|Ac I<|Ac I<|bk h fun Z07 B06 h=>?_
 obtain ⟨x08,z09,V03,z04,M09,A05,P04⟩:=Bh (AH h1_0 U0) B06
 obtain rfl:=dh A05
 refine Ab (Be 16 x0 I V03 I I z04)<|Ab (Az I P04)<|bk h fun C1 Q06 h=>jE (bd 68) I (e1 I) (fun w9 hw9=>ak_c n (U0.hL hL hw9) Z07 Q06) I fun Y0b D0b p03 ⟨v3,b5,hu_,M4,M7⟩=>?_
 subst hu_
 obtain ⟨j00,g6⟩:=U0.agr p03
 refine RG.nl [.bool false,vN,.bool false,vN] j00 fun Z0b K3 k00 Z1=>AQ [.bool C1.fj.fc,v3,.bool C1.fh.fc,b5] k00 .hd (o4 I (Ay (Ag M4 Z1)) I (Ay (Ag M7 Z1))) fun b0c v2 X2=>Aa<|Aj<|Ae<|Bm 0 I<|Ab (AN (cs:=[.bool C1.fj.fc,v3]) I I (ac (v2.memA .hd) 0 2))<|bk h fun g9 R06 h=>Bd (vI g9) (bd 67) I (e1 I) (fun w9 hw9=>aW_c n (v2.hL0 hL hw9) C1.fj (v2.kd (Ag M4 (Tt Z1 X2)) hw9) R06) I<|Ab (FV.eql (i:=g9) (j:=0) I I)<|Aa<|AV I h (fun u9 h=>?_) (fun u9 h=>?_)
 refine AZ I<|Am<|Ab (Bc (i:=x0) (j:=1) I I (by omega))<|Ac I<|Aa ?_
 obtain ⟨p00,U01⟩:=AB v2 .d1
 have u7:=Tt g6 (Tt Z1 (Tt X2 U01))
 exact x5 (x0 + 1,c1,d0) p00 (Tt d6 u7) (BO p3 u7) h
 refine Aq<|Ae<|Ac I ?_
 have j3:=Tt g6 (Tt Z1 X2)
 have s7:=Ag K7 j3
 have G0a:=AY s7
 refine Ab (Ba (xs:=I3) underlying24 I s7)<|Ac I<|Aa<|Av ?_
 obtain ⟨b0b,p05,p04⟩:=ap h
 refine BP (α:=Nat × (Lb (Tb × Td)) × (Lb (Tb × Lb Vc))) (fun ⟨J0,s1,j1⟩=>[(1,v1_0),(7,vP v0),(46,v0_0),(47,vn a0.length),(48,vn x0),(10,vP K3),(62,E07),(63,vn I3.length),(64,vn J0)]) (fun ⟨J0,s1,j1⟩=>[.cells K3 [.bool C1.fj.fc,v3,.bool C1.fh.fc,b5] 109,.cells v0 [.map (some c0),.bool false] 126,.obj c0 (aA j1)]) (fun ⟨J0,s1,j1⟩ V8=>MR V8 (bl [.cells K3 [.bool C1.fj.fc,v3,.bool C1.fh.fc,b5] 109,.cells v0 [.map (some c0),.bool false] 126,.obj c0 (aA j1)] ++ L) j1 s1) (fun ⟨J0,s1,j1⟩=>(J0,s1)) (0,c1,d0) p05 v2 (BO p3 j3) ?_
 rintro I08 ⟨J0,s1,j1⟩ V8 y5 D5 C2 q3 h
 unfold bG_l1 at h
 try dsimp only at h
 refine Ae<|Ab (AU (i:=J0) (j:=I3.length) I I)<|Aa<|Aj<|AV I h (fun v9 h=>?_) (fun v9 h=>?_)
 refine Aq<|Aj<|Av<|Ae<|bk h fun p0 C06 h=>?_
 obtain ⟨y08,A09,W03,A04,Q09,B05,Q04⟩:=Bh (Ag K7 (Tt j3 C2)) C06
 obtain rfl:=aF B05
 refine Ab (Be 32 J0 I W03 I I A04)<|Ab (Az I Q04)<|RG.nl [vW 0,vW 0,vW 0,vW 0,vW 0,vW 0,vW 0,vW 0,vW 0,vW 0,vW 0,vW 0,vW 0,vW 0,vW 0,vW 0,vW 0,vW 0,vW 0,vW 0,vW 0,vW 0,vW 0,vW 0,vW 0,vW 0,vW 0,vW 0,vW 0,vW 0,vW 0,vW 0] D5 fun c0c X08 q00 j6=>AQ (av p0) q00 .hd (ai I) fun d0c X1 k6=>Aa<|du 10 fun z0 I1=>Rv 0 z0 I I1 (fun _=>Al I)<|Rv 1 z0 I I1 (fun _=>By I)<|Rv 2 z0 I I1 (fun _=>Bg 0 I)<|Rx 3 1024 z0 I I1 (Bp I ((X1.memA .t2) 0 _ I))<|Rv 4 z0 I I1 (fun _=>Bg 0 I)<|Rx 5 1024 z0 I I1 (AN (cs:=(ab p0.fm)) I I (ac (X1.memA .hd) 0 16))<|Rx 6 1664 z0 I I1 (Az I (X1.memA .hd))<|Rx 8 1536 z0 I I1 (Az I (X1.memA .t1))<|bk h fun j08 U06 h=>AX 7 511 z0 I .plain (bd 66) I (e1 I) (fun w9 hw9=>bn_c n (X1.hL hL hw9) p0 U06) I fun g0c E0b q03 ⟨p0b,q0b,hu_,C05,D05⟩=>?_
 subst hu_
 obtain ⟨E5,p6⟩:=X1.agr q03
 refine bk h fun H0 V06 h=>?_
 have v7:=Tt Z1 (Tt X2 (Tt C2 (Tt j6 (Tt k6 p6))))
 refine AX 9 1023 z0 I .plain (bd 80) I (e2 I I) (fun w9 hw9=>ax_c n (E5.hL hL hw9) j08 (Af C05 hw9) (Af D05 hw9) C1 (Af (Ag M4 v7) hw9) (Af (Ag M7 v7) hw9) V06) I fun j0c F0b s03 ⟨x3,y3,hu_,P7,Q7⟩=>?_
 subst hu_
 obtain ⟨s00,V01⟩:=E5.agr s03
 refine BK (i:=10) (rk z0) (RO.enterPT (m' :=2047) (fst:=[]) (cap:=[]) (vs:=[.map (some c0),.agg ((ab p0.fm)).toArray,.agg #[.bool H0.fj.fc,x3,.bool H0.fh.fc,y3]]) (sk z0) I I .plain (bd 88) func88 I I I I (e3 I I I) I (fun _ R09 g7 P0a=>?_))
 refine Ae<|RG.bx s00 I I fun k0c Y08 t00 p4=>RG.bx t00 I I fun p0c Z08 x2 q4=>Aa<|Aj<|Ae<|Ac I<|Ab (Az I (x2.memA .t1)) ?_
 have H4:=Tt j6 (Tt k6 (Tt p6 (Tt V01 (Tt p4 q4))))
 have R04:=BO q3 H4
 rcases MR.get p0.fm R04 with ⟨F4,W4⟩ | ⟨U09,k5,W4,F4,E05⟩
 have h:=dp h F4
 refine Ab (FV.lookupK (kv:=p0.fm) (q:=false) ar x2 .t5 underlying124 (z:=.agg #[.bool false,vN,.bool false,vN]) I I I (.inl ⟨W4,I,I⟩))<|Ac I<|Ab (Ai I I)<|Ab (Ai I I)<|RG.nl [.bool false,vN,.bool false,vN] x2 fun q0c b09 u00 q6=>AQ [.bool false,vN,.bool false,vN] u00 .hd (ai I) fun s0c P3 s6=>Ah I<|Aa<|Ae<|Ac I<|Aa<|Bz I<|Aq<|Am<|Ac I<|Ab (Az I (P3.memA .t2))<|Ab (Az I (P3.memA .t1)) ?_
 have x7:=Tt H4 (Tt q6 s6)
 have z7:=Tt p4 (Tt q4 (Tt q6 s6))
 refine RG.now .plain (BL (kv:=p0.fm) (vv:=[.bool H0.fj.fc,x3,.bool H0.fh.fc,y3]) ar P3 .t6 underlying124 I I I) fun t0c v00 u6=>Aa<|MX.fin I<|Au (u:=.tuple #[]) g7 func88 I .nil I<|AK (dk z0)<|Ax<|Am<|Ab (Bc (i:=J0) (j:=1) I I (by omega))<|Ac I<|Aa ?_
 obtain ⟨x00,v6⟩:=AB v00 .d4
 exact y5 (J0 + 1,aC s1 p0.fm H0,(aC j1 p0.fm [.bool H0.fj.fc,x3,.bool H0.fh.fc,y3])) x00 (Tt C2 (Tt x7 (Tt u6 v6))) (BO (MR.set (k:=p0.fm) (c:=[.bool H0.fj.fc,x3,.bool H0.fh.fc,y3]) (y:=H0) (cG H0.fj (Ag P7 z7) H0.fh (Ag Q7 z7)) (BO q3 x7)) (Tt u6 v6)) h
 have h:=cZ h F4
 obtain ⟨F07,G07,rfl,R7,U7⟩:=cQ E05
 refine Ab (FV.lookupK (kv:=p0.fm) (q:=true) ar x2 .t5 underlying124 (z:=.agg #[.bool false,vN,.bool false,vN]) I I I (.inr ⟨_,W4,I,I⟩))<|Ac I<|Ab (Ai I I)<|Ab (Ai I I)<|RG.nl [.bool false,vN,.bool false,vN] x2 fun u0c c09 y00 b2=>AQ [.bool k5.fj.fc,F07,.bool k5.fh.fc,G07] y00 .hd (o4 I (Ay (Ag R7 b2)) I (Ay (Ag U7 b2))) fun v0c K2 Y2=>Ah I<|Aa<|Ae<|Ac I<|Aa<|AG I<|Am<|Ab (Az I (K2.memA .t1))<|Ab (Az I (K2.memA .hd))<|bk h fun Q0 W06 h=>?_
 have A7:=Tt p4 (Tt q4 (Tt b2 Y2))
 refine jE (bd 81) I (e2 I I) (fun w9 hw9=>aa_c n (K2.hL hL hw9) H0 (Af (Ag P7 A7) hw9) (Af (Ag Q7 A7) hw9) k5 (Af (Ag R7 (Tt b2 Y2)) hw9) (Af (Ag U7 (Tt b2 Y2)) hw9) W06) I fun x0c G0b t03 ⟨z3,A3,hu_,V7,W7⟩=>?_
 subst hu_
 obtain ⟨z00,W01⟩:=K2.agr t03
 refine AQ [.bool Q0.fj.fc,z3,.bool Q0.fh.fc,A3] z00 .t1 (o4 I (Ay V7) I (Ay W7)) fun y0c Q3 s4=>Aa<|Am<|Ac I<|Ab (Az I (Q3.memA .t2))<|Ab (Az I (Q3.memA .t1)) ?_
 have B7:=Tt H4 (Tt b2 (Tt Y2 (Tt W01 s4)))
 refine RG.now .plain (BL (kv:=p0.fm) (vv:=[.bool Q0.fj.fc,z3,.bool Q0.fh.fc,A3]) ar Q3 .t6 underlying124 I I I) fun z0c A00 x6=>Aa<|MX.fin I<|Au (u:=.tuple #[]) g7 func88 I .nil I<|AK (dk z0)<|Ax<|Am<|Ab (Bc (i:=J0) (j:=1) I I (by omega))<|Ac I<|Aa ?_
 obtain ⟨B00,y6⟩:=AB A00 .d4
 exact y5 (J0 + 1,aC s1 p0.fm Q0,(aC j1 p0.fm [.bool Q0.fj.fc,z3,.bool Q0.fh.fc,A3])) B00 (Tt C2 (Tt B7 (Tt x6 y6))) (BO (MR.set (k:=p0.fm) (c:=[.bool Q0.fj.fc,z3,.bool Q0.fh.fc,A3]) (y:=Q0) (cG Q0.fj (Ag V7 s4) Q0.fh (Ag W7 s4)) (BO q3 B7)) (Tt x6 y6)) h
 refine AZ I ?_
 have h:=p04 _ h
 try dsimp only at h
 refine Ax<|Am<|Ab (Bc (i:=x0) (j:=1) I I (by omega))<|Ac I<|Aa ?_
 obtain ⟨C00,z6⟩:=AB D5 .d1
 exact x5 (x0 + 1,s1,j1) C00 (Tt d6 (Tt j3 (Tt C2 z6))) (BO q3 z6) h
 refine AZ I ?_
 have h:=k04 _ h
 try dsimp only at h
 refine Ae<|Ac I<|BE (fst:=[]) (cap:=[]) (vs:=[vP v0]) .plain (bd 87) func87 I I I I (e1 I) I fun V09 D4 Q0a=>Ae<|Ah I<|Ah I<|Aa<|Aj<|Ae<|Ac I<|Ab (By I)<|Bm 0 I<|Bf I ((U0.memA .hd) 0 _ I)<|Ab (FV.as (FV.len_map (D:=d0) U0 .t1 underlying124 I) (congrArg (fun n9:Nat=>Value.int .i64 (n9:Int)) (MR.len p3)))<|Ab (FV.gtrN (i:=c1.length) (j:=400) I I)<|Aa<|AV I h (fun A9 h=>?_) (fun A9 h=>?_)
 refine Ae<|Ah I<|Ah I<|Aa<|Ar I<|Au (u:=.tuple #[vN,vI 3]) D4 func87 I (.cons (.tmp I) (.cons (.tmp I) .nil)) I<|Ab (Ai I I)<|Ab (Ai I I)<|Ah I<|Ah I<|Aa<|Ar I ?_
 have F05:=Bo (α:=Ta) U0 L
 refine Au hb0 func31 I (.cons (.tmp I) (.cons (.tmp I) .nil)) I ?_
 cases h
 exact ⟨U0.ag,fun w9 hw9=>⟨vN,I,U0.kd F05 hw9⟩⟩
 refine Aq<|Ae<|Ah I<|Aa<|Aj<|Ae<|Ac I<|Ab (By I)<|Bm 0 I<|Bf I ((U0.memA .hd) 0 _ I)<|Ao .plain I (Does.range (D:=d0) U0 .t1 underlying124 I) fun V07 R1 F5 X01=>Aa<|Av ?_
 have G5:=F5.nilRow 37 (Rep.size Ta)
 refine MX.mloop (α:=(Lb Ta) × Bool × Vc × (Lb Vc) × (Array Nat)) (fun ⟨M0,y1,F0,E1,A1⟩=>[(0,vP v0),(4,F0),(19,vP R1)]) (fun F8 ⟨M0,y1,F0,E1,A1⟩ G3=>St w G3 [rr w 37 Ta F0 M0.length E1,.obj R1 (aD c0 d0.length A1),.cells v0 [.map (some c0),.bool y1] 126,.obj c0 (aA d0)]/\Tr V07 [rr w 37 Ta vN (([]:Lb Ta).length) [],.obj R1 (aD c0 d0.length #[]),.cells v0 [.map (some c0),.bool false] 126,.obj c0 (aA d0)] G3 [rr w 37 Ta F0 M0.length E1,.obj R1 (aD c0 d0.length A1),.cells v0 [.map (some c0),.bool y1] 126,.obj c0 (aA d0)]/\Cells G3 (bl [rr w 37 Ta F0 M0.length E1,.obj R1 (aD c0 d0.length A1),.cells v0 [.map (some c0),.bool y1] 126,.obj c0 (aA d0)] ++ L) E1 M0/\left c1 A1 = F8) (fun ⟨M0,y1,F0,E1,A1⟩=>(M0,y1)) (([]:Lb Ta),false,vN,[],#[]) h ⟨rfl,rfl,rfl,trivial⟩ ⟨G5,BM _ _,(AI (cs:=[]) (xs:=([]:Lb Ta)) G5 L (AT _ _)),(cT _)⟩ ?_
 rintro F8 ⟨M0,y1,F0,E1,A1⟩ G3 J08 Y9 ⟨D00,A6,k7,H04⟩ c05 Q03
 refine Ae<|RG.nextR (W:=d0) (BO p3 (Tt X01 (Tt (BW F5 37 (Rep.size Ta)) A6))) D00 .t3 (fun _=>.t1) I I H04 (fun A0c d05 G1 Y01=>?_) (fun B0c D8 j0 W09 C07 v04 G05 x05 I04 H5 Z01=>?_)
 have h:=c05 d05
 try dsimp only at h
 refine Ab (Ai I I)<|Aa<|Aj<|Bz I<|AZ I<|Aj<|Ae<|Ac I<|Ab (By I)<|Bm 1 I<|Bf I ((G1.memA .t2) 1 _ I)<|Aa<|MX.ifb I h (fun B9 h=>?_) (fun B9 h=>?_)
 refine Ae<|Ah I<|Ah I<|Aa<|Ar I<|Au (u:=.tuple #[vN,vI 6]) D4 func87 I (.cons (.tmp I) (.cons (.tmp I) .nil)) I<|Ab (Ai I I)<|Ab (Ai I I)<|Ah I<|Ah I<|Aa<|Ar I ?_
 have H05:=Bo (α:=Ta) G1 L
 refine Au hb0 func31 I (.cons (.tmp I) (.cons (.tmp I) .nil)) I ?_
 cases h
 exact ⟨G1.ag,fun w9 hw9=>⟨vN,I,G1.kd H05 hw9⟩⟩
 refine Aq<|Ae<|Ac I<|BE (fst:=[]) (cap:=[]) (vs:=[F0,.func (.func 144) #[] #[]]) .plain (bd 143) func143 I I I I (e2 I I) I fun X09 H03 R0a=>Ae<|Ac I ?_
 have H0a:M0.length <= 4294967296:=St.rowLe (α:=Ta) G1 .hd
 obtain ⟨z08,B09,X03⟩:=St.rowV (α:=Ta) G1 .hd
 refine Ab (FV.lenV underlying24 I X03)<|Ah I<|Aa<|Am<|Ac I<|Ac I<|Ac I<|Ab (FV.convU (i:=((M0.length:Nat):Int)) underlying3 underlying193 I)<|bk h fun j9 X06 h=>Bd (vI j9) (bd 174) I (e1 I) (fun w9 hw9=>bP_c n (G1.hL0 hL hw9) (ae ((M0.length:Nat):Int)) X06) I<|Ac I<|bk h fun b9 J06 h=>RG.sort (enc:=av) (ρ:=Tryz.srt173_ren) (c:=(fun x9 y9=>aj_p n x9 y9)) (li:=j9) J06 I (fun _ _ _ _ h9=>aF h9) (fun w9 L9 z9=>aW (w:=w9) (L:=L9) z9.fm z9.fP) Tryz.srt173 (fun w9=>Tryz.isAgg37 w9) (fun w9=>Tryz.sizeOf37 w9) (enters_of func144 I I) (fun x9 y9 r9 w9 h9=>aj_c n (L:=[]) (w:=w9) (fun _ h8=>nomatch h8) x9 y9 h9) .plain (bd 173) I (e5 I I I I I) I G1 (AR k7 Y01) .hd fun W07 M2 v0a=>Aa<|MX.fin I<|Au (u:=.tuple #[]) H03 func143 I .nil I<|Aa<|Ae<|Ac I<|Ah I<|Ah I<|Aa<|Ar I<|Au (u:=.tuple #[F0,vI 0]) D4 func87 I (.cons (.tmp I) (.cons (.tmp I) .nil)) I<|Ab (Ai I I)<|Ab (Ai I I)<|Ah I<|Ah I<|Aa<|Ar I ?_
 have R3:=Bu M2 .hd
 have x0a:=Bv M2 .hd
 have I05:=Bw (α:=Ta) (v:=F0) (xs:=b9) R3 L (Bi (α:=Ta) M2 .hd (AI M2 L (bS (α:=Ta) (enc:=av) (fun w9 L9 z9=>aW (w:=w9) (L:=L9) z9.fm z9.fP) W07 _ b9)) hL)
 refine Au hb0 func31 I (.cons (.tmp I) (.cons (.tmp I) .nil)) I ?_
 cases h
 exact ⟨R3.ag,fun w9 hw9=>⟨F0,I,R3.kd I05 hw9⟩⟩
 obtain ⟨H07,I07,rfl,X7,Y7⟩:=cQ G05
 have h:=Q03 _ _ x05
 unfold dF at h
 try dsimp only at h
 refine Ab (Ai I I)<|Aa<|Aj<|AG I<|Aq<|Av<|Ae<|Ab (FV.entry (D:=d0) H5 .t3 .t1 v04 I)<|Ab (Ai I I)<|Ab (Ai I I)<|RG.nl zL H5 fun C0c q5 E00 b02=>RG.nl [.bool false,vN,.bool false,vN] E00 fun D0c d09 F00 c02=>AQ (ab j0.1) F00 .t1 (ai I) fun E0c G00 d02=>?_
 have E2:=Tt Z01 (Tt b02 (Tt c02 d02))
 refine AQ [.bool j0.2.fj.fc,H07,.bool j0.2.fh.fc,I07] G00 .hd (o4 I (Ay (Ag X7 E2)) I (Ay (Ag Y7 E2))) fun F0c y2 t4=>Aa<|Ae<|Ab (Az I (y2.memA .hd))<|bk h fun s0 Y06 h=>Bd (.tuple #[.agg ((ab s0.1)).toArray,vI s0.2]) (bd 77) I (e1 I) (fun w9 hw9=>ac_c n (y2.hL0 hL hw9) j0.2 (y2.kd (Ag X7 (Tt E2 t4)) hw9) (y2.kd (Ag Y7 (Tt E2 t4)) hw9) Y06) I<|Ac I<|Ab (Ai I I)<|Ab (Ai I I)<|RG.nl zL y2 fun G0c s5 H00 g02=>AQ (ab s0.1) H00 .hd (ai I) fun H0c U3 j02=>Ah I<|Aa<|Aj<|Ae<|Ac I<|Ab (BA (i:=s0.2) (j:=0) I I)<|Aa<|MX.jo (α:=Bool) (fun j2=>[(0,vP v0),(4,F0),(19,vP R1),(5,vP q5),(7,vP s5)]) (fun j2=>[.cells s5 (ab s0.1) 34,.cells q5 (ab j0.1) 34,rr w 37 Ta F0 M0.length E1,.obj R1 (aD c0 d0.length (A1.push D8)),.cells v0 [.map (some c0),.bool j2] 126,.obj c0 (aA d0)]) (fun j2=>j2) U3 h ?_ ?_
 rintro j2 s0e V3 k02 h
 try dsimp only at h
 refine Am<|Ac I<|Ab (Az I (V3.memA .t1))<|Ab (Az I (V3.memA .hd))<|Ab (AS (vs:=[.agg ((ab j0.1)).toArray,.agg ((ab s0.1)).toArray]) (u:=.agg ((ab j0.1 ++ ab s0.1)).toArray) (e2 I I) (fun w9=>by kernel_rfl))<|Ao .plain I (AW (α:=Ta) (xs:=([(⟨j0.1,s0.1⟩:Ta)]:Lb Ta)) (vs:=[.agg ((ab j0.1 ++ ab s0.1)).toArray]) (ds' :=(ab j0.1 ++ ab s0.1)) I V3 cW I (e1 I) (by kernel_rfl) I) fun I0c g09 W3 p02=>bk h fun d08 K06 h=>?_
 have C7:=Tt E2 (Tt t4 (Tt g02 (Tt j02 (Tt k02 p02))))
 refine BD .plain I (Bn (α:=Ta) (ys:=([(⟨j0.1,s0.1⟩:Ta)]:Lb Ta)) K06 W3 (fun _ _=>.t3) cW I I (AR k7 C7) (BH (α:=Ta) W3 .hd (AI (cs:=(ab j0.1 ++ ab s0.1)) (xs:=(([(⟨j0.1,s0.1⟩:Ta)]:Lb Ta):Lb Ta)) W3 L (AE (cs:=(ab j0.1 ++ ab s0.1)) (ds:=[]) (aW j0.1 s0.1) (AT _ _))))) fun J07 J0c ⟨W9,I00,q02,M03⟩=>Ah I<|Aa<|Ax ?_
 obtain ⟨J00,B6⟩:=AB I00 .d3
 exact Y9 C07 (d08,j2,J07,W9,(A1.push D8)) _ _ ⟨I,I,I,trivial⟩ ⟨J00,(Tt A6 (Tt C7 (Tt q02 B6))),(AR M03 B6),I04⟩ h
 intro K08 z5 h
 try dsimp only at h
 refine BI I h (fun C9 h=>?_) (fun C9 h=>?_)
 refine Aq ?_
 obtain ⟨K00,s02⟩:=AB U3 (.a0 .d1)
 exact z5 y1 K00 s02 h
 refine Am<|Ac I<|Ab (By I)<|Bm 1 I<|RG.now .plain (BU (j:=1) (old:=[.map (some c0),.bool y1]) (news:=[.bool true]) (new' :=[.map (some c0),.bool true]) U3 .t5 I I I I I I (o1 I) I) fun K0c M00 t02=>Aa ?_
 obtain ⟨P00,u02⟩:=AB M00 (.a0 .d1)
 exact z5 true P00 (Tt t02 u02) h
 refine Ae<|Ah I<|Ah I<|Aa<|Ar I ?_
 have J05:=Bo (α:=Ta) x1 L
 refine Au hb0 func31 I (.cons (.tmp I) (.cons (.tmp I) .nil)) I ?_
 cases h
 exact ⟨x1.ag,fun w9 hw9=>⟨vN,I,x1.kd J05 hw9⟩⟩
 refine Aq<|Ax<|Am<|Ab (Bc (i:=i32) (j:=1) I I (by omega))<|Ac I<|Aa<|d00 (i32 + 1) W0 K02 h
 refine AZ I ?_
 have h:=bc h q7
 try dsimp only at h
 refine Ae<|Ah I<|Aa<|Ar I<|Au (u:=vI (-1)) d7 func146 I (.cons (.tmp I) .nil) I<|Ab (FV.geq (i:=(-1)) (j:=0) I I)<|Ah I<|Aa<|Ar I<|Au (u:=.bool (decide (0 <= (-1)))) c7 func93 I (.cons (.tmp I) .nil) I<|Bs I I<|Ac I<|RG.ifd (s:=36) I h (fun D9 h=>?_) (fun D9 h=>?_)
 refine Ap<|Ap<|Ap<|Ap<|Ap<|Bk I I<|Aa<|AG I<|Ae<|Ah I<|Ah I<|Aa<|Ar I ?_
 have K05:=Bo (α:=Ta) W0 L
 refine Au hb0 func31 I (.cons (.tmp I) (.cons (.tmp I) .nil)) I ?_
 cases h
 exact ⟨W0.ag,fun w9 hw9=>⟨vN,I,W0.kd K05 hw9⟩⟩
 refine AJ (Al I)<|BE (fst:=[]) (cap:=[]) (vs:=[v1_0,.func (.func 68) #[] #[]]) (.yes I I) (bd 95) func95 I I I I (e2 I I) I fun Y09 I03 U0a=>Ae<|RG.nl [.bool false,vN,.bool false,vN] W0 fun M0c G2 I5 y0a=>Aa<|Ae<|bk h fun p2 Z06 h=>jE (bd 71) I (e1 I) (fun w9 hw9=>aL_c n (I5.hL hL hw9)  Z06) I fun P0c H0b u03 ⟨H8,I8,hu_,Z7,b8⟩=>?_
 subst hu_
 obtain ⟨Q00,z0a⟩:=I5.agr u03
 refine RG.nl [.bool false,vN,.bool false,vN] Q00 fun Q0c H2 R00 Z2=>AQ [.bool p2.fj.fc,H8,.bool p2.fh.fc,I8] R00 .hd (o4 I (Ay (Ag Z7 Z2)) I (Ay (Ag b8 Z2))) fun R0c J5 C6=>Aa<|Aj<|Ae<|Ac I<|Ab (Ba (xs:=a1) underlying51 I (AH h1_0 J5))<|Ac I<|Aa<|Av ?_
 obtain ⟨d0b,s05,s04⟩:=ap h
 refine BP (α:=Nat × Bool × (Lb Ua) × Bool × (Lb Ua) × Vc × Vc) (fun ⟨q1,D0,P1,E0,Q1,Z0,b1⟩=>[(1,.func (.func 68) #[] #[]),(4,vP G2),(5,vP H2),(9,v1_0),(10,vn a1.length),(11,vn q1)]) (fun ⟨q1,D0,P1,E0,Q1,Z0,b1⟩=>[.cells H2 [.bool D0,Z0,.bool E0,b1] 109,.cells G2 [.bool false,vN,.bool false,vN] 109]) (fun ⟨q1,D0,P1,E0,Q1,Z0,b1⟩ j5=>Rep.R j5 (bl [.cells H2 [.bool D0,Z0,.bool E0,b1] 109,.cells G2 [.bool false,vN,.bool false,vN] 109] ++ L) [Z0] P1/\Rep.R j5 (bl [.cells H2 [.bool D0,Z0,.bool E0,b1] 109,.cells G2 [.bool false,vN,.bool false,vN] 109] ++ L) [b1] Q1) (fun ⟨q1,D0,P1,E0,Q1,Z0,b1⟩=>(q1,D0,P1,E0,Q1)) (0,p2.fj.fc,p2.fj.fk,p2.fh.fc,p2.fh.fk,H8,I8) s05 J5 ⟨(Ag Z7 (Tt Z2 C6)),(Ag b8 (Tt Z2 C6))⟩ ?_
 rintro P08 ⟨q1,D0,P1,E0,Q1,Z0,b1⟩ j5 b00 Q2 x02 ⟨R4,U4⟩ h
 unfold bG_l6 at h
 try dsimp only at h
 refine Ae<|Ab (AU (i:=q1) (j:=a1.length) I I)<|Aa<|Aj<|AV I h (fun F9 h=>?_) (fun F9 h=>?_)
 refine Aq<|Aj<|Av<|Ae<|bk h fun Y8 D06 h=>?_
 obtain ⟨A08,C09,Y03,B04,Z09,M05,U04⟩:=Bh (AH h1_0 Q2) D06
 obtain rfl:=dh M05
 refine Ab (Be 16 q1 I Y03 I I B04)<|Ab (Az I U04)<|RG.nl zL Q2 fun U0c j09 U00 y02=>AQ (ab Y8) U00 .hd (ai I) fun V0c R2 z02=>Aa<|du 5 fun V1 Y4=>Rx 0 48 V1 I Y4 (Az I (R2.memA .t1))<|Rv 1 V1 I Y4 (fun _=>Al I)<|Rx 2 56 V1 I Y4 (Az I (R2.memA .hd))<|bk h fun k08 b07 h=>AX 3 15 V1 I .plain (bd 68) I (e1 I) (fun w9 hw9=>ak_c n (R2.hL hL hw9) Y8 b07) I fun W0c I0b v03 ⟨s0b,t0b,hu_,P05,Q05⟩=>?_
 subst hu_
 obtain ⟨K5,A02⟩:=R2.agr v03
 refine bk h fun q2 c07 h=>?_
 have I4:=Tt y02 (Tt z02 A02)
 refine AX 4 31 V1 I .plain (bd 81) I (e2 I I) (fun w9 hw9=>aa_c n (K5.hL hL hw9) (⟨(⟨D0,P1⟩:Tg),(⟨E0,Q1⟩:Tg)⟩:Td) (Af (Ag R4 I4) hw9) (Af (Ag U4 I4) hw9) k08 (Af P05 hw9) (Af Q05 hw9) c07) I fun X0c J0b x03 ⟨J8,K8,hu_,d8,g8⟩=>?_
 subst hu_
 obtain ⟨V00,B02⟩:=K5.agr x03
 refine BB 5 63 V1 I I .plain (AC (news:=[.bool q2.fj.fc,J8,.bool q2.fh.fc,K8]) V00 .t1 I I I I I I (o4 I (Ay d8) I (Ay g8))) fun Y0c W00 u4=>AK (dk V1)<|Ax<|Am<|Ab (Bc (i:=q1) (j:=1) I I (by omega))<|Ac I<|Aa ?_
 obtain ⟨X00,v4⟩:=AB W00 .d1
 exact b00 (q1 + 1,q2.fj.fc,q2.fj.fk,q2.fh.fc,q2.fh.fk,J8,K8) X00 (Tt x02 (Tt I4 (Tt B02 (Tt u4 v4)))) ⟨(Ag d8 (Tt u4 v4)),(Ag g8 (Tt u4 v4))⟩ h
 refine AZ I ?_
 have h:=s04 _ h
 try dsimp only at h
 refine Ae<|Ab (Az I (Q2.memA .hd))<|AQ [.bool D0,Z0,.bool E0,b1] Q2 .t1 (o4 I (Ay R4) I (Ay U4)) fun Z0c X3 D6=>Aa<|Ar I<|Au (u:=.agg #[.bool D0,Z0,.bool E0,b1]) I03 func95 I (.cons (.many (cs:=[.bool D0,Z0,.bool E0,b1]) I I (X3.memA .t1)) .nil) I<|bk h fun p08 d07 h=>AA (fst:=[]) (cap:=[]) (.yes I I) (bd 71) I (e1 I) (fun w9 hw9=>aL_c n (X3.hL hL hw9)  d07) I fun b0d K0b y03 ⟨u0b,v0b,hu_,R05,U05⟩=>?_
 subst hu_
 obtain ⟨v1,E6⟩:=X3.agr y03
 refine bk h fun k9 g07 h=>BG (v:=vI k9) (fst:=[]) (cap:=[]) (.yes I I) (bd 69) I (e2 I I) (fun w9 hw9=>aN_c n (v1.hL0 hL hw9) (⟨(⟨D0,P1⟩:Tg),(⟨E0,Q1⟩:Tg)⟩:Td) (v1.kd (Ag R4 (Tt D6 E6)) hw9) (v1.kd (Ag U4 (Tt D6 E6)) hw9) p08 (v1.kd R05 hw9) (v1.kd U05 hw9) g07) I<|AJ (BA (i:=k9) (j:=0) I I)<|Bs I I<|Aa<|BI I h (fun G9 h=>?_) (fun G9 h=>?_)
 refine Aq<|Ae<|Ao .plain I (Does.makeMap (κ:=Tb) (ν:=Lb Vc) v1) fun c0d b0 M5 A0a=>Ab (AS (vs:=[.map (some b0)]) (u:=.agg #[.map (some b0),.bool false]) (e1 I) (fun w9=>by kernel_rfl))<|RG.bx M5 I I fun d0d u0 P5 C02=>Ah I<|Aa<|Aj<|Ae<|Ac I<|Ab (Ba (xs:=a0) underlying57 I (AH h0_0 P5))<|Ac I<|Aa<|Av ?_
 obtain ⟨d01,I02⟩:=AB P5 (.a0 (.a0 .done))
 obtain ⟨g0b,t05,t04⟩:=ap h
 refine BP (α:=Nat × (Lb (Tb × Td)) × (Lb (Tb × Lb Vc))) (fun ⟨y0,g1,g0⟩=>[(1,v1_0),(7,vP u0),(46,v0_0),(47,vn a0.length),(48,vn y0)]) (fun ⟨y0,g1,g0⟩=>[.cells u0 [.map (some b0),.bool false] 126,.obj b0 (aA g0)]) (fun ⟨y0,g1,g0⟩ W8=>MR W8 (bl [.cells u0 [.map (some b0),.bool false] 126,.obj b0 (aA g0)] ++ L) g0 g1) (fun ⟨y0,g1,g0⟩=>(y0,g1)) (0,([]:Lb (Tb × Td)),([]:Lb (Tb × Lb Vc))) t05 d01 (BO (MR.at_ (Z:=([]:Lb (Tb × Lb Vc))) (M:=([]:Lb (Tb × Td))) M5 L trivial) (Tt C02 I02)) ?_
 rintro Q08 ⟨y0,g1,g0⟩ W8 A5 V0 H6 s3 h
 unfold bG_l5 at h
 try dsimp only at h
 refine Ae<|Ab (AU (i:=y0) (j:=a0.length) I I)<|Aa<|Aj<|AV I h (fun I9 h=>?_) (fun I9 h=>?_)
 refine Aq<|Aj<|Av<|Ae<|Ac I<|bk h fun J3 F06 h=>?_
 obtain ⟨C08,E09,b04,D04,c0a,b06,W04⟩:=Bh (AH h0_0 V0) F06
 obtain ⟨K07,rfl,p8⟩:=cY b06
 refine Ab (Be 1 y0 I b04 I I D04)<|Bf I (W04 0 _ I)<|Ah I<|Ah I<|Aa<|Ae<|Ac I<|Ac I<|bk h fun b08 G06 h=>?_
 obtain ⟨D08,F09,c04,E04,d0a,c06,X04⟩:=Bh (AH h1_0 V0) G06
 obtain rfl:=dh c06
 refine Ab (Be 16 y0 I c04 I I E04)<|Ab (Az I X04)<|bk h fun D1 s07 h=>jE (bd 68) I (e1 I) (fun w9 hw9=>ak_c n (V0.hL hL hw9) b08 s07) I fun x0d R0b C03 ⟨B3,d5,hu_,V4,q8⟩=>?_
 subst hu_
 obtain ⟨g01,I6⟩:=V0.agr C03
 refine RG.nl [.bool false,vN,.bool false,vN] g01 fun y0d M3 j01 d2=>AQ [.bool D1.fj.fc,B3,.bool D1.fh.fc,d5] j01 .hd (o4 I (Ay (Ag V4 d2)) I (Ay (Ag q8 d2))) fun z0d z2 b3=>Aa<|Aj<|Ae<|Bm 0 I<|Ab (AN (cs:=[.bool D1.fj.fc,B3]) I I (ac (z2.memA .hd) 0 2))<|bk h fun q9 t07 h=>Bd (vI q9) (bd 67) I (e1 I) (fun w9 hw9=>aW_c n (z2.hL0 hL hw9) D1.fj (z2.kd (Ag V4 (Tt d2 b3)) hw9) t07) I<|Ab (FV.eql (i:=q9) (j:=0) I I)<|Aa<|AV I h (fun J9 h=>?_) (fun J9 h=>?_)
 refine AZ I<|Am<|Ab (Bc (i:=y0) (j:=1) I I (by omega))<|Ac I<|Aa ?_
 obtain ⟨k01,J02⟩:=AB z2 .d1
 have D7:=Tt I6 (Tt d2 (Tt b3 J02))
 exact A5 (y0 + 1,g1,g0) k01 (Tt H6 D7) (BO s3 D7) h
 refine Aq<|Ae<|Ac I ?_
 have k3:=Tt I6 (Tt d2 b3)
 have t7:=Ag p8 k3
 have I0a:=AY t7
 refine Ab (Ba (xs:=J3) underlying24 I t7)<|Ac I<|Aa<|Av ?_
 obtain ⟨j0b,u05,u04⟩:=ap h
 refine BP (α:=Nat × (Lb (Tb × Td)) × (Lb (Tb × Lb Vc))) (fun ⟨K0,u1,k1⟩=>[(1,v1_0),(7,vP u0),(46,v0_0),(47,vn a0.length),(48,vn y0),(10,vP M3),(62,K07),(63,vn J3.length),(64,vn K0)]) (fun ⟨K0,u1,k1⟩=>[.cells M3 [.bool D1.fj.fc,B3,.bool D1.fh.fc,d5] 109,.cells u0 [.map (some b0),.bool false] 126,.obj b0 (aA k1)]) (fun ⟨K0,u1,k1⟩ X8=>MR X8 (bl [.cells M3 [.bool D1.fj.fc,B3,.bool D1.fh.fc,d5] 109,.cells u0 [.map (some b0),.bool false] 126,.obj b0 (aA k1)] ++ L) k1 u1) (fun ⟨K0,u1,k1⟩=>(K0,u1)) (0,g1,g0) u05 z2 (BO s3 k3) ?_
 rintro R08 ⟨K0,u1,k1⟩ X8 B5 V5 D2 u3 h
 unfold bG_l4 at h
 try dsimp only at h
 refine Ae<|Ab (AU (i:=K0) (j:=J3.length) I I)<|Aa<|Aj<|AV I h (fun K9 h=>?_) (fun K9 h=>?_)
 refine Aq<|Aj<|Av<|Ae<|bk h fun q0 H06 h=>?_
 obtain ⟨E08,G09,d04,F04,g0a,d06,Y04⟩:=Bh (Ag p8 (Tt k3 D2)) H06
 obtain rfl:=aF d06
 refine Ab (Be 32 K0 I d04 I I F04)<|Ab (Az I Y04)<|RG.nl [vW 0,vW 0,vW 0,vW 0,vW 0,vW 0,vW 0,vW 0,vW 0,vW 0,vW 0,vW 0,vW 0,vW 0,vW 0,vW 0,vW 0,vW 0,vW 0,vW 0,vW 0,vW 0,vW 0,vW 0,vW 0,vW 0,vW 0,vW 0,vW 0,vW 0,vW 0,vW 0] V5 fun A0d p09 p01 J6=>AQ (av q0) p01 .hd (ai I) fun B0d Y1 K6=>Aa<|du 10 fun A0 J1=>Rv 0 A0 I J1 (fun _=>Al I)<|Rv 1 A0 I J1 (fun _=>By I)<|Rv 2 A0 I J1 (fun _=>Bg 0 I)<|Rx 3 1024 A0 I J1 (Bp I ((Y1.memA .t2) 0 _ I))<|Rv 4 A0 I J1 (fun _=>Bg 0 I)<|Rx 5 1024 A0 I J1 (AN (cs:=(ab q0.fm)) I I (ac (Y1.memA .hd) 0 16))<|Rx 6 1664 A0 I J1 (Az I (Y1.memA .hd))<|Rx 8 1536 A0 I J1 (Az I (Y1.memA .t1))<|bk h fun t08 u07 h=>AX 7 511 A0 I .plain (bd 66) I (e1 I) (fun w9 hw9=>bn_c n (Y1.hL hL hw9) q0 u07) I fun C0d U0b D03 ⟨B0b,C0b,hu_,g06,j06⟩=>?_
 subst hu_
 obtain ⟨W5,M6⟩:=Y1.agr D03
 refine bk h fun I0 v07 h=>?_
 have E7:=Tt d2 (Tt b3 (Tt D2 (Tt J6 (Tt K6 M6))))
 refine AX 9 1023 A0 I .plain (bd 80) I (e2 I I) (fun w9 hw9=>ax_c n (W5.hL hL hw9) t08 (Af g06 hw9) (Af j06 hw9) D1 (Af (Ag V4 E7) hw9) (Af (Ag q8 E7) hw9) v07) I fun D0d V0b E03 ⟨C3,D3,hu_,s8,t8⟩=>?_
 subst hu_
 obtain ⟨q01,M02⟩:=W5.agr E03
 refine BK (i:=10) (rk A0) (RO.enterPT (m' :=2047) (fst:=[]) (cap:=[]) (vs:=[.map (some b0),.agg ((ab q0.fm)).toArray,.agg #[.bool I0.fj.fc,C3,.bool I0.fh.fc,D3]]) (sk A0) I I .plain (bd 88) func88 I I I I (e3 I I I) I (fun _ j0a j7 V0a=>?_))
 refine Ae<|RG.bx q01 I I fun E0d q09 s01 z4=>RG.bx s01 I I fun F0d s09 A2 A4=>Aa<|Aj<|Ae<|Ac I<|Ab (Az I (A2.memA .t1)) ?_
 have K4:=Tt J6 (Tt K6 (Tt M6 (Tt M02 (Tt z4 A4))))
 have Z04:=BO u3 K4
 rcases MR.get q0.fm Z04 with ⟨G4,X4⟩ | ⟨k0a,p5,X4,G4,k06⟩
 have h:=dp h G4
 refine Ab (FV.lookupK (kv:=q0.fm) (q:=false) ar A2 .t5 underlying124 (z:=.agg #[.bool false,vN,.bool false,vN]) I I I (.inl ⟨X4,I,I⟩))<|Ac I<|Ab (Ai I I)<|Ab (Ai I I)<|RG.nl [.bool false,vN,.bool false,vN] A2 fun G0d t09 t01 P6=>AQ [.bool false,vN,.bool false,vN] t01 .hd (ai I) fun H0d Z3 Q6=>Ah I<|Aa<|Ae<|Ac I<|Aa<|Bz I<|Aq<|Am<|Ac I<|Ab (Az I (Z3.memA .t2))<|Ab (Az I (Z3.memA .t1)) ?_
 have F7:=Tt K4 (Tt P6 Q6)
 have G7:=Tt z4 (Tt A4 (Tt P6 Q6))
 refine RG.now .plain (BL (kv:=q0.fm) (vv:=[.bool I0.fj.fc,C3,.bool I0.fh.fc,D3]) ar Z3 .t6 underlying124 I I I) fun I0d u01 R6=>Aa<|MX.fin I<|Au (u:=.tuple #[]) j7 func88 I .nil I<|AK (dk A0)<|Ax<|Am<|Ab (Bc (i:=K0) (j:=1) I I (by omega))<|Ac I<|Aa ?_
 obtain ⟨v01,U6⟩:=AB u01 .d4
 exact B5 (K0 + 1,aC u1 q0.fm I0,(aC k1 q0.fm [.bool I0.fj.fc,C3,.bool I0.fh.fc,D3])) v01 (Tt D2 (Tt F7 (Tt R6 U6))) (BO (MR.set (k:=q0.fm) (c:=[.bool I0.fj.fc,C3,.bool I0.fh.fc,D3]) (y:=I0) (cG I0.fj (Ag s8 G7) I0.fh (Ag t8 G7)) (BO u3 F7)) (Tt R6 U6)) h
 have h:=cZ h G4
 obtain ⟨M07,P07,rfl,u8,v8⟩:=cQ k06
 refine Ab (FV.lookupK (kv:=q0.fm) (q:=true) ar A2 .t5 underlying124 (z:=.agg #[.bool false,vN,.bool false,vN]) I I I (.inr ⟨_,X4,I,I⟩))<|Ac I<|Ab (Ai I I)<|Ab (Ai I I)<|RG.nl [.bool false,vN,.bool false,vN] A2 fun J0d u09 x01 g2=>AQ [.bool p5.fj.fc,M07,.bool p5.fh.fc,P07] x01 .hd (o4 I (Ay (Ag u8 g2)) I (Ay (Ag v8 g2))) fun K0d V2 c3=>Ah I<|Aa<|Ae<|Ac I<|Aa<|AG I<|Am<|Ab (Az I (V2.memA .t1))<|Ab (Az I (V2.memA .hd))<|bk h fun R0 x07 h=>?_
 have H7:=Tt z4 (Tt A4 (Tt g2 c3))
 refine jE (bd 81) I (e2 I I) (fun w9 hw9=>aa_c n (V2.hL hL hw9) I0 (Af (Ag s8 H7) hw9) (Af (Ag t8 H7) hw9) p5 (Af (Ag u8 (Tt g2 c3)) hw9) (Af (Ag v8 (Tt g2 c3)) hw9) x07) I fun M0d W0b F03 ⟨E3,F3,hu_,x8,y8⟩=>?_
 subst hu_
 obtain ⟨y01,P02⟩:=V2.agr F03
 refine AQ [.bool R0.fj.fc,E3,.bool R0.fh.fc,F3] y01 .t1 (o4 I (Ay x8) I (Ay y8)) fun P0d b4 B4=>Aa<|Am<|Ac I<|Ab (Az I (b4.memA .t2))<|Ab (Az I (b4.memA .t1)) ?_
 have I7:=Tt K4 (Tt g2 (Tt c3 (Tt P02 B4)))
 refine RG.now .plain (BL (kv:=q0.fm) (vv:=[.bool R0.fj.fc,E3,.bool R0.fh.fc,F3]) ar b4 .t6 underlying124 I I I) fun Q0d z01 V6=>Aa<|MX.fin I<|Au (u:=.tuple #[]) j7 func88 I .nil I<|AK (dk A0)<|Ax<|Am<|Ab (Bc (i:=K0) (j:=1) I I (by omega))<|Ac I<|Aa ?_
 obtain ⟨A01,W6⟩:=AB z01 .d4
 exact B5 (K0 + 1,aC u1 q0.fm R0,(aC k1 q0.fm [.bool R0.fj.fc,E3,.bool R0.fh.fc,F3])) A01 (Tt D2 (Tt I7 (Tt V6 W6))) (BO (MR.set (k:=q0.fm) (c:=[.bool R0.fj.fc,E3,.bool R0.fh.fc,F3]) (y:=R0) (cG R0.fj (Ag x8 B4) R0.fh (Ag y8 B4)) (BO u3 I7)) (Tt V6 W6)) h
 refine AZ I ?_
 have h:=u04 _ h
 try dsimp only at h
 refine Ax<|Am<|Ab (Bc (i:=y0) (j:=1) I I (by omega))<|Ac I<|Aa ?_
 obtain ⟨B01,X6⟩:=AB V5 .d1
 exact A5 (y0 + 1,u1,k1) B01 (Tt H6 (Tt k3 (Tt D2 X6))) (BO u3 X6) h
 refine AZ I ?_
 have h:=t04 _ h
 try dsimp only at h
 refine Ae<|Ac I<|BE (fst:=[]) (cap:=[]) (vs:=[vP u0]) .plain (bd 87) func87 I I I I (e1 I) I fun p0a E4 W0a=>Ae<|Ah I<|Ah I<|Aa<|Aj<|Ae<|Ac I<|Ab (By I)<|Bm 0 I<|Bf I ((V0.memA .hd) 0 _ I)<|Ab (FV.as (FV.len_map (D:=g0) V0 .t1 underlying124 I) (congrArg (fun n9:Nat=>Value.int .i64 (n9:Int)) (MR.len s3)))<|Ab (FV.gtrN (i:=g1.length) (j:=400) I I)<|Aa<|AV I h (fun M9 h=>?_) (fun M9 h=>?_)
 refine Ae<|Ah I<|Ah I<|Aa<|Ar I<|Au (u:=.tuple #[vN,vI 3]) E4 func87 I (.cons (.tmp I) (.cons (.tmp I) .nil)) I<|Ab (Ai I I)<|Ab (Ai I I)<|Ah I<|Ah I<|Aa<|Ar I ?_
 have p06:=Bo (α:=Ta) V0 L
 refine Au hb0 func31 I (.cons (.tmp I) (.cons (.tmp I) .nil)) I ?_
 cases h
 exact ⟨V0.ag,fun w9 hw9=>⟨vN,I,V0.kd p06 hw9⟩⟩
 refine Aq<|Ae<|Ah I<|Aa<|Aj<|Ae<|Ac I<|Ab (By I)<|Bm 0 I<|Bf I ((V0.memA .hd) 0 _ I)<|Ao .plain I (Does.range (D:=g0) V0 .t1 underlying124 I) fun X07 U1 X5 Q02=>Aa<|Av ?_
 have Y5:=X5.nilRow 37 (Rep.size Ta)
 refine MX.mloop (α:=(Lb Ta) × Bool × Vc × (Lb Vc) × (Array Nat)) (fun ⟨P0,z1,G0,F1,B1⟩=>[(0,vP u0),(4,G0),(19,vP U1)]) (fun G8 ⟨P0,z1,G0,F1,B1⟩ H3=>St w H3 [rr w 37 Ta G0 P0.length F1,.obj U1 (aD b0 g0.length B1),.cells u0 [.map (some b0),.bool z1] 126,.obj b0 (aA g0)]/\Tr X07 [rr w 37 Ta vN (([]:Lb Ta).length) [],.obj U1 (aD b0 g0.length #[]),.cells u0 [.map (some b0),.bool false] 126,.obj b0 (aA g0)] H3 [rr w 37 Ta G0 P0.length F1,.obj U1 (aD b0 g0.length B1),.cells u0 [.map (some b0),.bool z1] 126,.obj b0 (aA g0)]/\Cells H3 (bl [rr w 37 Ta G0 P0.length F1,.obj U1 (aD b0 g0.length B1),.cells u0 [.map (some b0),.bool z1] 126,.obj b0 (aA g0)] ++ L) F1 P0/\left g1 B1 = G8) (fun ⟨P0,z1,G0,F1,B1⟩=>(P0,z1)) (([]:Lb Ta),false,vN,[],#[]) h ⟨rfl,rfl,rfl,trivial⟩ ⟨Y5,BM _ _,(AI (cs:=[]) (xs:=([]:Lb Ta)) Y5 L (AT _ _)),(cT _)⟩ ?_
 rintro G8 ⟨P0,z1,G0,F1,B1⟩ H3 U08 c00 ⟨C01,Y6,p7,J04⟩ g05 R03
 refine Ae<|RG.nextR (W:=g0) (BO s3 (Tt Q02 (Tt (BW X5 37 (Rep.size Ta)) Y6))) C01 .t3 (fun _=>.t1) I I J04 (fun R0d j05 H1 R02=>?_) (fun U0d E8 k0 q0a D07 x04 q06 y05 K04 Z5 U02=>?_)
 have h:=g05 j05
 try dsimp only at h
 refine Ab (Ai I I)<|Aa<|Aj<|Bz I<|AZ I<|Aj<|Ae<|Ac I<|Ab (By I)<|Bm 1 I<|Bf I ((H1.memA .t2) 1 _ I)<|Aa<|MX.ifb I h (fun P9 h=>?_) (fun P9 h=>?_)
 refine Ae<|Ah I<|Ah I<|Aa<|Ar I<|Au (u:=.tuple #[vN,vI 6]) E4 func87 I (.cons (.tmp I) (.cons (.tmp I) .nil)) I<|Ab (Ai I I)<|Ab (Ai I I)<|Ah I<|Ah I<|Aa<|Ar I ?_
 have s06:=Bo (α:=Ta) H1 L
 refine Au hb0 func31 I (.cons (.tmp I) (.cons (.tmp I) .nil)) I ?_
 cases h
 exact ⟨H1.ag,fun w9 hw9=>⟨vN,I,H1.kd s06 hw9⟩⟩
 refine Aq<|Ae<|Ac I<|BE (fst:=[]) (cap:=[]) (vs:=[G0,.func (.func 144) #[] #[]]) .plain (bd 143) func143 I I I I (e2 I I) I fun s0a J03 X0a=>Ae<|Ac I ?_
 have J0a:P0.length <= 4294967296:=St.rowLe (α:=Ta) H1 .hd
 obtain ⟨F08,H09,g04⟩:=St.rowV (α:=Ta) H1 .hd
 refine Ab (FV.lenV underlying24 I g04)<|Ah I<|Aa<|Am<|Ac I<|Ac I<|Ac I<|Ab (FV.convU (i:=((P0.length:Nat):Int)) underlying3 underlying193 I)<|bk h fun s9 y07 h=>Bd (vI s9) (bd 174) I (e1 I) (fun w9 hw9=>bP_c n (H1.hL0 hL hw9) (ae ((P0.length:Nat):Int)) y07) I<|Ac I<|bk h fun d9 M06 h=>RG.sort (enc:=av) (ρ:=Tryz.srt173_ren) (c:=(fun x9 y9=>aj_p n x9 y9)) (li:=s9) M06 I (fun _ _ _ _ h9=>aF h9) (fun w9 L9 z9=>aW (w:=w9) (L:=L9) z9.fm z9.fP) Tryz.srt173 (fun w9=>Tryz.isAgg37 w9) (fun w9=>Tryz.sizeOf37 w9) (enters_of func144 I I) (fun x9 y9 r9 w9 h9=>aj_c n (L:=[]) (w:=w9) (fun _ h8=>nomatch h8) x9 y9 h9) .plain (bd 173) I (e5 I I I I I) I H1 (AR p7 R02) .hd fun Y07 W2 C0a=>Aa<|MX.fin I<|Au (u:=.tuple #[]) J03 func143 I .nil I<|Aa<|Ae<|Ac I<|Ah I<|Ah I<|Aa<|Ar I<|Au (u:=.tuple #[G0,vI 0]) E4 func87 I (.cons (.tmp I) (.cons (.tmp I) .nil)) I<|Ab (Ai I I)<|Ab (Ai I I)<|Ah I<|Ah I<|Aa<|Ar I ?_
 have c4:=Bu W2 .hd
 have D0a:=Bv W2 .hd
 have t06:=Bw (α:=Ta) (v:=G0) (xs:=d9) c4 L (Bi (α:=Ta) W2 .hd (AI W2 L (bS (α:=Ta) (enc:=av) (fun w9 L9 z9=>aW (w:=w9) (L:=L9) z9.fm z9.fP) Y07 _ d9)) hL)
 refine Au hb0 func31 I (.cons (.tmp I) (.cons (.tmp I) .nil)) I ?_
 cases h
 exact ⟨c4.ag,fun w9 hw9=>⟨G0,I,c4.kd t06 hw9⟩⟩
 obtain ⟨Q07,R07,rfl,z8,A8⟩:=cQ q06
 have h:=R03 _ _ y05
 unfold dK at h
 try dsimp only at h
 refine Ab (Ai I I)<|Aa<|Aj<|AG I<|Aq<|Av<|Ae<|Ab (FV.entry (D:=g0) Z5 .t3 .t1 x04 I)<|Ab (Ai I I)<|Ab (Ai I I)<|RG.nl zL Z5 fun V0d u5 D01 V02=>RG.nl [.bool false,vN,.bool false,vN] D01 fun W0d v09 E01 W02=>AQ (ab k0.1) E01 .t1 (ai I) fun X0d F01 X02=>?_
 have F2:=Tt U02 (Tt V02 (Tt W02 X02))
 refine AQ [.bool k0.2.fj.fc,Q07,.bool k0.2.fh.fc,R07] F01 .hd (o4 I (Ay (Ag z8 F2)) I (Ay (Ag A8 F2))) fun Y0d B2 C4=>Aa<|Ae<|Ab (Az I (B2.memA .hd))<|bk h fun t0 z07 h=>Bd (.tuple #[.agg ((ab t0.1)).toArray,vI t0.2]) (bd 77) I (e1 I) (fun w9 hw9=>ac_c n (B2.hL0 hL hw9) k0.2 (B2.kd (Ag z8 (Tt F2 C4)) hw9) (B2.kd (Ag A8 (Tt F2 C4)) hw9) z07) I<|Ac I<|Ab (Ai I I)<|Ab (Ai I I)<|RG.nl zL B2 fun Z0d v5 G01 Y02=>AQ (ab t0.1) G01 .hd (ai I) fun b0e g4 Z02=>Ah I<|Aa<|Aj<|Ae<|Ac I<|Ab (BA (i:=t0.2) (j:=0) I I)<|Aa<|MX.jo (α:=Bool) (fun k2=>[(0,vP u0),(4,G0),(19,vP U1),(5,vP u5),(7,vP v5)]) (fun k2=>[.cells v5 (ab t0.1) 34,.cells u5 (ab k0.1) 34,rr w 37 Ta G0 P0.length F1,.obj U1 (aD b0 g0.length (B1.push E8)),.cells u0 [.map (some b0),.bool k2] 126,.obj b0 (aA g0)]) (fun k2=>k2) g4 h ?_ ?_
 rintro k2 u0e j4 b03 h
 try dsimp only at h
 refine Am<|Ac I<|Ab (Az I (j4.memA .t1))<|Ab (Az I (j4.memA .hd))<|Ab (AS (vs:=[.agg ((ab k0.1)).toArray,.agg ((ab t0.1)).toArray]) (u:=.agg ((ab k0.1 ++ ab t0.1)).toArray) (e2 I I) (fun w9=>by kernel_rfl))<|Ao .plain I (AW (α:=Ta) (xs:=([(⟨k0.1,t0.1⟩:Ta)]:Lb Ta)) (vs:=[.agg ((ab k0.1 ++ ab t0.1)).toArray]) (ds' :=(ab k0.1 ++ ab t0.1)) I j4 cW I (e1 I) (by kernel_rfl) I) fun c0e x09 k4 c03=>bk h fun g08 P06 h=>?_
 have J7:=Tt F2 (Tt C4 (Tt Y02 (Tt Z02 (Tt b03 c03))))
 refine BD .plain I (Bn (α:=Ta) (ys:=([(⟨k0.1,t0.1⟩:Ta)]:Lb Ta)) P06 k4 (fun _ _=>.t3) cW I I (AR p7 J7) (BH (α:=Ta) k4 .hd (AI (cs:=(ab k0.1 ++ ab t0.1)) (xs:=(([(⟨k0.1,t0.1⟩:Ta)]:Lb Ta):Lb Ta)) k4 L (AE (cs:=(ab k0.1 ++ ab t0.1)) (ds:=[]) (aW k0.1 t0.1) (AT _ _))))) fun U07 d0e ⟨X9,H01,d03,P03⟩=>Ah I<|Aa<|Ax ?_
 obtain ⟨I01,Z6⟩:=AB H01 .d3
 exact c00 D07 (g08,k2,U07,X9,(B1.push E8)) _ _ ⟨I,I,I,trivial⟩ ⟨I01,(Tt Y6 (Tt J7 (Tt d03 Z6))),(AR P03 Z6),K04⟩ h
 intro V08 C5 h
 try dsimp only at h
 refine BI I h (fun Q9 h=>?_) (fun Q9 h=>?_)
 refine Aq ?_
 obtain ⟨J01,g03⟩:=AB g4 (.a0 .d1)
 exact C5 z1 J01 g03 h
 refine Am<|Ac I<|Ab (By I)<|Bm 1 I<|RG.now .plain (BU (j:=1) (old:=[.map (some b0),.bool z1]) (news:=[.bool true]) (new' :=[.map (some b0),.bool true]) g4 .t5 I I I I I I (o1 I) I) fun g0e K01 j03=>Aa ?_
 obtain ⟨M01,k03⟩:=AB K01 (.a0 .d1)
 exact C5 true M01 (Tt j03 k03) h
 refine Ae<|Ah I<|Ah I<|Aa<|Ar I ?_
 have u06:=Bo (α:=Ta) v1 L
 refine Au hb0 func31 I (.cons (.tmp I) (.cons (.tmp I) .nil)) I ?_
 cases h
 exact ⟨v1.ag,fun w9 hw9=>⟨vN,I,v1.kd u06 hw9⟩⟩
 refine Ap<|Ap<|Bk I I<|Ac I<|Ap<|Ap<|Ap<|Ap<|Ap<|Bk I I<|Aa<|AG I<|Ae<|Ah I<|Ah I<|Aa<|Ar I ?_
 have v06:=Bo (α:=Ta) hS0 L
 refine Au hb0 func31 I (.cons (.tmp I) (.cons (.tmp I) .nil)) I ?_
 cases h
 exact ⟨hS0.ag,fun w9 hw9=>⟨vN,I,hS0.kd v06 hw9⟩⟩
 refine Ae<|Ac I<|Ah I<|Ah I<|Aa<|Ar I ?_
 have x06:=Bo (α:=Ta) hS0 L
 refine Au hb0 func31 I (.cons (.tmp I) (.cons (.tmp I) .nil)) I ?_
 cases h
 exact ⟨hS0.ag,fun w9 hw9=>⟨vN,I,hS0.kd x06 hw9⟩⟩
end Go.Proofs.YtkommhmbkbhmlaaGreat
