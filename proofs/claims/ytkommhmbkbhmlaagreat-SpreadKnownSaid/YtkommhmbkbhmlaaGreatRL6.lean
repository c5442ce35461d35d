import Derived.Test.YtkommhmbkbhmlaaGreatRL4
namespace Go.Proofs.YtkommhmbkbhmlaaGreat
open Go Go.RowKit Tryz
set_option maxRecDepth 4000
set_option maxHeartbeats 4000000

def aA_l1 (n:Nat) (a1:List Tb) (t0:Tb) (k0:Nat × (List (ByteArray × Bool)) × Bool × (List (Ta × Tc)) -> Oa ((List (ByteArray × Bool)) × Bool × (List (Ta × Tc)))):Nat × (List (ByteArray × Bool)) × Bool × (List (Ta × Tc)) -> Oa ((List (ByteArray × Bool)) × Bool × (List (Ta × Tc)))
  | (c0,g0,p0,b0)=>(if c0 < a1.length then (a1[c0]?).bind fun u0=>(am_p n t0.fm).bind fun x0=>(am_p n u0.fm).bind fun y0=>(ae_p n x0 y0).bind fun q0=>(ak_p n q0).bind fun z0=>jn (fun j0=>(aK_p n t0).bind fun A0=>(aK_p n u0).bind fun B0=>(aw_p n A0 B0).bind fun v0=>(ak_p n q0).bind fun d0=>(if d0.2 = 0 then dh (bc b0 d0.1) (k0 (c0 + 1,j0,p0,aB b0 d0.1 v0)) (fun C0=>(ae_p n v0 C0).bind fun D0=>k0 (c0 + 1,j0,p0,aB b0 d0.1 D0)) else k0 (c0 + 1,j0,true,b0))) (fun s0=>(if z0.2 = 0 then s0 g0 else (bI_p n q0).bind fun E0=>s0 (aB g0 E0 true))) else some (g0,p0,b0))
def cy (n:Nat) (c0:Ta × Tc) (g0:(List Tb) × Bool -> Oa ((List Tb) × Int)):(List Tb) × Bool -> Oa ((List Tb) × Int)
  | (p0,j0)=>(ak_p n c0.2).bind fun d0=>jn (fun k0=>(app p0 ([(⟨c0.1,d0.1⟩:Tb)]:List Tb)).bind fun q0=>g0 (q0,k0)) (fun b0=>(if d0.2 = 0 then b0 j0 else b0 true))
def aA_l2 (n:Nat) (a0:List Tb) (a1:List Tb) (p0:Nat × (List (ByteArray × Bool)) × Bool × (List (Ta × Tc)) -> Oa ((List (Ta × Tc)) × (List (ByteArray × Bool)) × Bool)):Nat × (List (ByteArray × Bool)) × Bool × (List (Ta × Tc)) -> Oa ((List (Ta × Tc)) × (List (ByteArray × Bool)) × Bool)
  | (b0,c0,g0,d0)=>(if b0 < a0.length then (a0[b0]?).bind fun s0=>Option.bind (az (aA_l1 n a1 s0) n (0,c0,g0,d0)) (fun (j0,q0,k0)=>p0 (b0 + 1,j0,q0,k0)) else some (d0,c0,g0))
def aA_p (n:Nat) (a0:List Tb) (a1:List Tb):Oa ((List Tb) × Int):=
  (aq_p n ([a0,a1]:List (List Tb)) ([]:List Ta)).bind fun d0=>(if d0 = 0 then Option.bind (az (aA_l2 n a0 a1) n (0,([]:List (ByteArray × Bool)),false,([]:List (Ta × Tc)))) (fun (b0,g0,j0)=>(chk (((b0.length:Nat):Int) + ((g0.length:Nat):Int))).bind fun p0=>(if 400 < p0 then some (([]:List Tb),(3:Int)) else (if 400 < b0.length then some (([]:List Tb),(3:Int)) else mloop (fun (c0,k0)=>(if k0 = true then some (([]:List Tb),(6:Int)) else (aQ_p n (ai ((c0.length:Nat):Int))).bind fun s0=>(de (fun x9 y9=>aj_p n x9 y9) s0 c0).bind fun q0=>some (q0,(0:Int)))) (cy n) n b0 (([]:List Tb),j0)))) else some (([]:List Tb),d0))
theorem aA_c (n:Nat) {L w} (hL:hl L w) {a0:List Tb} {v0_0:Vc} (h0_0:Rep.R w L [v0_0] a0) {a1:List Tb} {v1_0:Vc} (h1_0:Rep.R w L [v1_0] a1)  {r:(List Tb) × Int} (h:aA_p n a0 a1 = some r) :
 Cl 24 #[v0_0,v1_0] w (ar w fun w' u=>∃ v0_0:Vc,u = .tuple #[v0_0,vI r.2]/\Rep.R w' L [v0_0] r.1):=by
 unfold aA_p at h
 refine AT func24 I I I fun _ cs0 hb0=>Af<|Ai I<|Ai I<|Aa<|Ak<|Af<|Ae I<|Ae I ?_
 obtain ⟨A11,c12,F00,_⟩:=BD h0_0
 obtain ⟨A14,c15,G00,_⟩:=BD h1_0
 refine Am .plain I (AG (α:=List Tb) (xs:=([a0,a1]:List (List Tb))) (vs:=[v0_0,v1_0]) (ds' :=[v0_0,v1_0]) I (AS w) bW I (e2 I I) (by rw [F00,G00]; try kernel_rfl) I) fun w17 I0 p1 E02=>bk h fun k6 Z00 h=>Bo (vI k6) (bd 63) I (e2 I I) (fun w9 hw9=>aq_c n (p1.hL0 hL hw9) (Ah (St.lend (α:=List Tb) (L:=L) p1 .hd (AC (cs:=[v0_0,v1_0]) (xs:=(([a0,a1]:List (List Tb)):List (List Tb))) p1 L (Ao (cs:=[v0_0]) (ds:=[v1_0]) (AO h0_0 p1) (Ao (cs:=[v1_0]) (ds:=[]) (AO h1_0 p1) (AH _ _)))) hL) hw9) (Ah (Rep.nilSlice _ _) hw9) Z00) I<|Ai I<|Aa<|Af<|Ae I<|Ab (BM (i:=k6) (j:=0) I I)<|Aa<|MX.ifn I h (fun A6 h=>?_) (fun A6 h=>?_)
 refine Ar<|Af<|Am .plain I (Does.makeMap (κ:=Ta) (ν:=List Vc) p1) fun w27 b0 J4 Q02=>Ab (AI (vs:=[.map (some b0)]) (u:=.agg #[.map (some b0),.bool false]) (e1 I) (fun w9=>by kernel_rfl))<|RG.bx J4 I I fun w33 c0 R7 W8=>RG.nl [.pointer none] R7 fun w38 x0 U7 X8=>AQ [vP c0] U7 .hd (o1 I) fun w42 V7 Y8=>Aa<|Af<|Am .plain I (Does.makeMap (κ:=ByteArray) (ν:=Bool) V7) fun w46 d0 W7 Z8=>RG.nl [.map none] W7 fun w51 D0 X7 b9=>AQ [.map (some d0)] X7 .hd (o1 I) fun w55 K4 c9=>Aa<|Ak<|Af<|Ae I<|Ae I<|Bs (fst:=[]) (cap:=[]) (vs:=[v0_0,v1_0]) .plain (bd 84) func84 I I I I (e2 I I) I fun C02 A9 c03=>Af<|RG.bx K4 I (Rep.c1 (AO h0_0 K4)) fun w63 q0 M4 d9=>?_
 refine RG.bx M4 I (Rep.c1 (AO h1_0 M4)) fun w69 k0 Y7 g9=>Ai I<|Aa<|Af<|Ab (FV.makeFunc (vs:=[]) (us:=[vP q0,vP k0]) ao (e2 I I))<|Ai I<|Aa<|Au I<|Aq (u:=.func (.func 142) #[] #[vP q0,vP k0]) A9 func84 I (.cons (.tmp I) .nil) I<|Aa<|Aw<|MX.rangeP (lb:=[vP q0,vP k0]) I Y7 I (bd 142) func142 I I I fun w73 b1 H0 z1 D02 G3 j9 b01 B9 d03=>Af<|BH I ((G3.memA .t3) 0 _ I) ?_
 have y5:=AO h0_0 G3
 have V02:=Bg y5
 refine Ab (Bh (xs:=a0) underlying24 I y5)<|Ae I<|Aa<|Aw ?_
 obtain ⟨g03,X9,H9⟩:=aw h
 refine MX.lf (α:=Nat × (List (ByteArray × Bool)) × Bool × (List (Ta × Tc)) × (List (Ta × List Vc))) (fun ⟨U0,u0,g1,V0,g0⟩=>[(0,.func (.yield b1) #[] #[]),(2,vP k0),(8,v0_0),(9,vn a0.length),(10,vn U0)]) (fun ⟨U0,u0,g1,V0,g0⟩=>[.obj b1 (lpO z1 .ready none),.obj H0 (.deferred (some [])),.cells k0 [v1_0] 24,.cells q0 [v0_0] 24,.cells D0 [.map (some d0)] 127,.obj d0 (ay (u0:List (ByteArray × Bool))),.cells x0 [vP c0] 122,.cells c0 [.map (some b0),.bool g1] 126,.obj b0 (ay g0),rr w 24 (List Tb) (vS I0 2) (([a0,a1]:List (List Tb)).length) [v0_0,v1_0]]) (fun ⟨U0,u0,g1,V0,g0⟩ c6=>MR c6 (bl [.obj b1 (lpO z1 .ready none),.obj H0 (.deferred (some [])),.cells k0 [v1_0] 24,.cells q0 [v0_0] 24,.cells D0 [.map (some d0)] 127,.obj d0 (ay (u0:List (ByteArray × Bool))),.cells x0 [vP c0] 122,.cells c0 [.map (some b0),.bool g1] 126,.obj b0 (ay g0),rr w 24 (List Tb) (vS I0 2) (([a0,a1]:List (List Tb)).length) [v0_0,v1_0]] ++ L) g0 V0) (fun ⟨U0,u0,g1,V0,g0⟩=>(U0,u0,g1,V0)) (0,([]:List (ByteArray × Bool)),false,([]:List (Ta × Tc)),([]:List (Ta × List Vc))) X9 G3 (BE (MR.at_ (Z:=([]:List (Ta × List Vc))) (M:=([]:List (Ta × Tc))) J4 L trivial) (Tt W8 (Tt X8 (Tt Y8 (Tt Z8 (Tt b9 (Tt c9 (Tt d9 (Tt g9 j9))))))))) ?_
 rintro J01 ⟨U0,u0,g1,V0,g0⟩ c6 C6 q3 Z7 Q5 h
 unfold aA_l2 at h
 try dsimp only at h
 refine Af<|Ab (AY (i:=U0) (j:=a0.length) I I)<|Aa<|Ak<|Bb I h (fun p6 h=>?_) (fun p6 h=>?_)
 refine Ar<|Ak<|Aw<|Af<|bk h fun p0 H00 h=>?_
 obtain ⟨F01,j02,E9,K9,s02,b00,R9⟩:=Bv (AO h0_0 q3) H00
 obtain rfl:=aY b00
 refine Ab (BJ 32 U0 I E9 I I K9)<|Ab (AF I R9)<|RG.nl [vW 0,vW 0,vW 0,vW 0,vW 0,vW 0,vW 0,vW 0,vW 0,vW 0,vW 0,vW 0,vW 0,vW 0,vW 0,vW 0,vW 0,vW 0,vW 0,vW 0,vW 0,vW 0,vW 0,vW 0,vW 0,vW 0,vW 0,vW 0,vW 0,vW 0,vW 0,vW 0] q3 fun z03 C1 E6 P4=>AQ (aA p0) E6 .hd (ak I) fun A03 s3 Q4=>Aa<|Af<|BH I ((s3.memA .t3) 0 _ I) ?_
 have q5:=AO h1_0 s3
 have R02:=Bg q5
 refine Ab (Bh (xs:=a1) underlying24 I q5)<|Ae I<|Aa<|Aw ?_
 obtain ⟨j03,Y9,I9⟩:=aw h
 refine MX.lf (α:=Nat × (List (ByteArray × Bool)) × Bool × (List (Ta × Tc)) × (List (Ta × List Vc))) (fun ⟨F0,G0,A0,W0,v0⟩=>[(0,.func (.yield b1) #[] #[]),(2,vP k0),(8,v0_0),(9,vn a0.length),(10,vn U0),(5,vP C1),(14,v1_0),(15,vn a1.length),(16,vn F0)]) (fun ⟨F0,G0,A0,W0,v0⟩=>[.cells C1 (aA p0) 37,.obj b1 (lpO z1 .ready none),.obj H0 (.deferred (some [])),.cells k0 [v1_0] 24,.cells q0 [v0_0] 24,.cells D0 [.map (some d0)] 127,.obj d0 (ay (G0:List (ByteArray × Bool))),.cells x0 [vP c0] 122,.cells c0 [.map (some b0),.bool A0] 126,.obj b0 (ay v0),rr w 24 (List Tb) (vS I0 2) (([a0,a1]:List (List Tb)).length) [v0_0,v1_0]]) (fun ⟨F0,G0,A0,W0,v0⟩ d6=>MR d6 (bl [.cells C1 (aA p0) 37,.obj b1 (lpO z1 .ready none),.obj H0 (.deferred (some [])),.cells k0 [v1_0] 24,.cells q0 [v0_0] 24,.cells D0 [.map (some d0)] 127,.obj d0 (ay (G0:List (ByteArray × Bool))),.cells x0 [vP c0] 122,.cells c0 [.map (some b0),.bool A0] 126,.obj b0 (ay v0),rr w 24 (List Tb) (vS I0 2) (([a0,a1]:List (List Tb)).length) [v0_0,v1_0]] ++ L) v0 W0) (fun ⟨F0,G0,A0,W0,v0⟩=>(F0,G0,A0,W0)) (0,u0,g1,V0,g0) Y9 s3 (BE Q5 (Tt P4 Q4)) ?_
 rintro K01 ⟨F0,G0,A0,W0,v0⟩ d6 p3 u3 P2 p4 h
 unfold aA_l1 at h
 try dsimp only at h
 refine Af<|Ab (AY (i:=F0) (j:=a1.length) I I)<|Aa<|Ak<|Bb I h (fun q6 h=>?_) (fun q6 h=>?_)
 refine Ar<|Ak<|Aw<|Af<|bk h fun s0 I00 h=>?_
 obtain ⟨H01,p02,F9,M9,t02,c00,U9⟩:=Bv (AO h1_0 u3) I00
 obtain rfl:=aY c00
 refine Ab (BJ 32 F0 I F9 I I M9)<|Ab (AF I U9)<|RG.nl [vW 0,vW 0,vW 0,vW 0,vW 0,vW 0,vW 0,vW 0,vW 0,vW 0,vW 0,vW 0,vW 0,vW 0,vW 0,vW 0,vW 0,vW 0,vW 0,vW 0,vW 0,vW 0,vW 0,vW 0,vW 0,vW 0,vW 0,vW 0,vW 0,vW 0,vW 0,vW 0] u3 fun B03 I2 F6 R4=>AQ (aA s0) F6 .hd (ak I) fun C03 K2 U4=>Aa<|Af<|Ae I<|Ab (AF I (K2.memA .t1))<|Ab (AF I (K2.memA .hd))<|RG.yieldP (fd:=24) (vs:=[.agg ((aA p0)).toArray,.agg ((aA s0)).toArray]) .plain I (e2 I I) K2 .t2 b01 I I I fun u02 V3 W02=>Af<|RG.nl [vW 0,vW 0,vW 0,vW 0,vW 0,vW 0,vW 0,vW 0,vW 0,vW 0,vW 0,vW 0,vW 0,vW 0,vW 0,vW 0,vW 0,vW 0,vW 0,vW 0,vW 0,vW 0,vW 0,vW 0,vW 0,vW 0,vW 0,vW 0,vW 0,vW 0,vW 0,vW 0] K2 fun E03 F1 G6 V4=>AQ (aA p0) G6 .hd (ak I) fun F03 H6 W4=>Aa<|Ap<|RG.nl [vW 0,vW 0,vW 0,vW 0,vW 0,vW 0,vW 0,vW 0,vW 0,vW 0,vW 0,vW 0,vW 0,vW 0,vW 0,vW 0,vW 0,vW 0,vW 0,vW 0,vW 0,vW 0,vW 0,vW 0,vW 0,vW 0,vW 0,vW 0,vW 0,vW 0,vW 0,vW 0] H6 fun G03 G1 I6 X4=>AQ (aA s0) I6 .hd (ak I) fun H03 J6 Y4=>Aa<|MX.begin J6 .t4 fun I03 H1 Z4=>Aw<|Ak<|du 8 fun j0 X2=>Rv 0 j0 I X2 (fun _=>Bw 0 I)<|Rx 1 356 j0 I X2 (AZ (cs:=(aa p0.fm)) I I (aj (H1.memA .t1) 0 16))<|Rv 3 j0 I X2 (fun _=>Bw 0 I)<|Rx 4 352 j0 I X2 (AZ (cs:=(aa s0.fm)) I I (aj (H1.memA .hd) 0 16))<|bk h fun g3 P5 h=>bk h fun j3 k4 h=>?_
 refine bk h fun K0 W2 h=>RD.mf (α:=Vc × Vc × Nat) (fun ⟨A1,B1,j1⟩=>[(7,vP x0),(8,vP D0),(9,vP F1),(10,vP G1),(36,.agg #[.bool K0.fh.fc,A1,.bool K0.fe.fc,B1]),(11,vP j1)]) (fun ⟨A1,B1,j1⟩=>[.cells j1 [.bool false,vN,.bool false,vN] 109,.cells G1 (aA s0) 37,.cells F1 (aA p0) 37,.cells I2 (aA s0) 37,.cells C1 (aA p0) 37,.obj b1 (lpO z1 .busy none),.obj H0 (.deferred (some [])),.cells k0 [v1_0] 24,.cells q0 [v0_0] 24,.cells D0 [.map (some d0)] 127,.obj d0 (ay (G0:List (ByteArray × Bool))),.cells x0 [vP c0] 122,.cells c0 [.map (some b0),.bool A0] 126,.obj b0 (ay v0),rr w 24 (List Tb) (vS I0 2) (([a0,a1]:List (List Tb)).length) [v0_0,v1_0]]) (fun ⟨A1,B1,j1⟩ v4=>Rep.R v4 (bl [.cells j1 [.bool false,vN,.bool false,vN] 109,.cells G1 (aA s0) 37,.cells F1 (aA p0) 37,.cells I2 (aA s0) 37,.cells C1 (aA p0) 37,.obj b1 (lpO z1 .busy none),.obj H0 (.deferred (some [])),.cells k0 [v1_0] 24,.cells q0 [v0_0] 24,.cells D0 [.map (some d0)] 127,.obj d0 (ay (G0:List (ByteArray × Bool))),.cells x0 [vP c0] 122,.cells c0 [.map (some b0),.bool A0] 126,.obj b0 (ay v0),rr w 24 (List Tb) (vS I0 2) (([a0,a1]:List (List Tb)).length) [v0_0,v1_0]] ++ L) [A1] K0.fh.fj/\Rep.R v4 (bl [.cells j1 [.bool false,vN,.bool false,vN] 109,.cells G1 (aA s0) 37,.cells F1 (aA p0) 37,.cells I2 (aA s0) 37,.cells C1 (aA p0) 37,.obj b1 (lpO z1 .busy none),.obj H0 (.deferred (some [])),.cells k0 [v1_0] 24,.cells q0 [v0_0] 24,.cells D0 [.map (some d0)] 127,.obj d0 (ay (G0:List (ByteArray × Bool))),.cells x0 [vP c0] 122,.cells c0 [.map (some b0),.bool A0] 126,.obj b0 (ay v0),rr w 24 (List Tb) (vS I0 2) (([a0,a1]:List (List Tb)).length) [v0_0,v1_0]] ++ L) [B1] K0.fe.fj) H1 1 255 ?_ ?_
 rintro ⟨A1,B1,j1⟩ v4 M6 b5 ⟨G5,H5⟩
 try dsimp only
 refine BF 8 511 j0 I I .plain (AJ (news:=[.bool K0.fh.fc,A1,.bool K0.fe.fc,B1]) M6 .hd I I I I I I (o4 I (AE G5) I (AE H5))) fun K03 V1 Q2=>AN (dk j0)<|Ak<|Af<|Ab (AF I (V1.memA .hd))<|bk h fun k3 M00 h=>?_
 have Z3:=Ag G5 Q2
 have b4:=Ag H5 Q2
 refine Bo (.tuple #[.agg ((aa k3.1)).toArray,vI k3.2]) (bd 77) I (e1 I) (fun w9 hw9=>ak_c n (V1.hL0 hL hw9) K0 (V1.kd Z3 hw9) (V1.kd b4 hw9) M00) I<|Ae I<|Ab (Ac I I)<|Ab (Ac I I)<|RG.nl zL V1 fun M03 R01 P6 d2=>AQ (aa k3.1) P6 .hd (ak I) fun P03 y1 g2=>Ai I<|Aa<|Af<|Ae I<|Ab (BM (i:=k3.2) (j:=0) I I)<|Aa<|MX.jo (α:=(List (ByteArray × Bool))) (fun v1=>[(7,vP x0),(9,vP F1),(10,vP G1),(11,vP j1)]) (fun v1=>[.cells j1 [.bool K0.fh.fc,A1,.bool K0.fe.fc,B1] 109,.cells G1 (aA s0) 37,.cells F1 (aA p0) 37,.cells I2 (aA s0) 37,.cells C1 (aA p0) 37,.obj b1 (lpO z1 .busy none),.obj H0 (.deferred (some [])),.cells k0 [v1_0] 24,.cells q0 [v0_0] 24,.cells D0 [.map (some d0)] 127,.obj d0 (ay (v1:List (ByteArray × Bool))),.cells x0 [vP c0] 122,.cells c0 [.map (some b0),.bool A0] 126,.obj b0 (ay v0),rr w 24 (List Tb) (vS I0 2) (([a0,a1]:List (List Tb)).length) [v0_0,v1_0]]) (fun v1=>v1) y1 h ?_ ?_
 rintro v1 j05 J1 H3 h
 try dsimp only at h
 refine du 7 fun P0 Y2=>Rx 0 128 P0 I Y2 (Bx I ((J1.memA .t11) 0 _ I))<|Rx 1 128 P0 I Y2 (AF I (J1.memA .hd))<|Rx 2 232 P0 I Y2 (AF I (J1.memA .t2))<|Rx 4 224 P0 I Y2 (AF I (J1.memA .t1))<|bk h fun C01 P00 h=>AU 3 31 P0 I .plain (bd 66) I (e1 I) (fun w9 hw9=>aK_c n (J1.hL hL hw9) p0 P00) I fun Q03 u03 p9 ⟨k03,p03,hu_,j00,k00⟩=>?_
 subst hu_
 obtain ⟨D4,I3⟩:=J1.agr p9
 refine bk h fun D01 Q00 h=>AU 5 63 P0 I .plain (bd 66) I (e1 I) (fun w9 hw9=>aK_c n (D4.hL hL hw9) s0 Q00) I fun R03 v03 q9 ⟨q03,s03,hu_,p00,q00⟩=>?_
 subst hu_
 obtain ⟨E4,j2⟩:=D4.agr q9
 refine bk h fun B0 R00 h=>AU 6 127 P0 I .plain (bd 80) I (e2 I I) (fun w9 hw9=>aw_c n (E4.hL hL hw9) C01 (Ah (Ag j00 j2) hw9) (Ah (Ag k00 j2) hw9) D01 (Ah p00 hw9) (Ah q00 hw9) R00) I fun U03 x03 s9 ⟨G2,H2,hu_,I5,J5⟩=>?_
 subst hu_
 obtain ⟨Q6,J3⟩:=E4.agr s9
 refine BK (i:=7) (rk P0) (RO.enterPT (m' :=255) (fst:=[]) (cap:=[]) (vs:=[vP c0,.agg #[.bool K0.fh.fc,A1,.bool K0.fe.fc,B1],.agg #[.bool B0.fh.fc,G2,.bool B0.fe.fc,H2]]) (sk P0) I I .plain (bd 86) func86 I I I I (e3 I I I) I (fun _ v02 W3 X02=>?_))
 refine Af<|RG.bx Q6 I I fun V03 U01 R6 k2=>RG.bx R6 I I fun W03 V01 W1 p2=>Aa<|Af<|Ab (AF I (W1.memA .t1))<|bk h fun t0 U00 h=>?_
 have z5:=Tt d2 (Tt g2 (Tt H3 (Tt I3 (Tt j2 (Tt J3 (Tt k2 p2))))))
 refine Bo (.tuple #[.agg ((aa t0.1)).toArray,vI t0.2]) (bd 77) I (e1 I) (fun w9 hw9=>ak_c n (W1.hL0 hL hw9) K0 (W1.kd (Ag Z3 z5) hw9) (W1.kd (Ag b4 z5) hw9) U00) I<|Ae I<|Ab (Ac I I)<|Ab (Ac I I)<|RG.nl zL W1 fun X03 W01 U6 R2=>AQ (aa t0.1) U6 .hd (ak I) fun Y03 X1 U2=>Ai I<|Aa<|Ak<|Af<|Ae I<|Ab (BM (i:=t0.2) (j:=0) I I)<|Aa<|MX.ifn I h (fun s6 h=>?_) (fun s6 h=>?_)
 refine Ar<|du 6 fun Y0 Q1=>Rv 0 Y0 I Q1 (fun _=>Aj I)<|Rv 1 Y0 I Q1 (fun _=>Bf I)<|Rv 2 Y0 I Q1 (fun _=>Bw 0 I)<|Rx 3 64 Y0 I Q1 (Bx I ((X1.memA (.tl (.tl (.tl (.tl (.tl (.tl (.tl (.tl (.tl (.tl (.tl (.tl (.tl (.tl (.tl .hd)))))))))))))))) 0 _ I))<|Rx 4 64 Y0 I Q1 (AF I (X1.memA .hd))<|Rx 5 64 Y0 I Q1 (AF I (X1.memA .t1))<|BK (i:=6) (rk Y0) (RO.enterPT (m' :=127) (fst:=[]) (cap:=[]) (vs:=[.map (some b0),.agg ((aa t0.1)).toArray,.agg #[.bool B0.fh.fc,G2,.bool B0.fe.fc,H2]]) (sk Y0) I I .plain (bd 88) func88 I I I I (e3 I I I) I (fun _ x02 k5 Y02=>?_))
 refine Af<|RG.bx X1 I I fun Z03 X01 V6 K3=>RG.bx V6 I I fun b04 Y01 Y1 M3=>Aa<|Ak<|Af<|Ae I<|Ab (AF I (Y1.memA .t1)) ?_
 have g4:=Tt R4 (Tt U4 (Tt V4 (Tt W4 (Tt X4 (Tt Y4 (Tt Z4 (Tt b5 (Tt Q2 (Tt d2 (Tt g2 (Tt H3 (Tt I3 (Tt j2 (Tt J3 (Tt k2 (Tt p2 (Tt R2 (Tt U2 (Tt K3 M3)))))))))))))))))))
 have c4:=BE p4 g4
 rcases MR.get t0.1 c4 with ⟨Y3,q4⟩ | ⟨y02,x4,q4,Y3,s00⟩
 have h:=cw h Y3
 refine Ab (FV.lookupK (kv:=t0.1) (q:=false) au Y1 (.tl (.tl (.tl (.tl (.tl (.tl (.tl (.tl (.tl (.tl (.tl (.tl (.tl (.tl (.tl (.tl (.tl (.tl .hd)))))))))))))))))) underlying124 (z:=.agg #[.bool false,vN,.bool false,vN]) I I I (.inl ⟨q4,I,I⟩))<|Ae I<|Ab (Ac I I)<|Ab (Ac I I)<|RG.nl [.bool false,vN,.bool false,vN] Y1 fun c04 Z01 W6 P3=>AQ [.bool false,vN,.bool false,vN] W6 .hd (ak I) fun d04 v3 Q3=>Ai I<|Aa<|Af<|Ae I<|Aa<|BG I<|Ar<|Ap<|Ae I<|Ab (AF I (v3.memA .t2))<|Ab (AF I (v3.memA .t1)) ?_
 have A5:=Tt k2 (Tt p2 (Tt R2 (Tt U2 (Tt K3 (Tt M3 (Tt P3 Q3))))))
 refine RG.now .plain (BA (kv:=t0.1) (vv:=[.bool B0.fh.fc,G2,.bool B0.fe.fc,H2]) au v3 (.tl (.tl (.tl (.tl (.tl (.tl (.tl (.tl (.tl (.tl (.tl (.tl (.tl (.tl (.tl (.tl (.tl (.tl (.tl .hd))))))))))))))))))) underlying124 I I I) fun g04 X6 c8=>Aa<|MX.fin I<|Aq (u:=.tuple #[]) k5 func88 I .nil I<|AN (dk Y0)<|MX.fin I<|Aq (u:=.tuple #[]) W3 func86 I .nil I<|AN (dk P0)<|Ay<|MX.roundEnd V3 X6 .t11 fun j04 Y6 d8=>Ab (BC I)<|Aa<|BG I<|Ar<|Ay<|Ap<|Ab (Bj (i:=F0) (j:=1) I I (by omega))<|Ae I<|Aa ?_
 obtain ⟨Z6,g8⟩:=AA Y6 .d10
 have B5:=Tt c8 (Tt d8 g8)
 exact p3 (F0 + 1,v1,A0,aB W0 t0.1 B0,(aB v0 t0.1 [.bool B0.fh.fc,G2,.bool B0.fe.fc,H2])) Z6 (Tt P2 (Tt g4 (Tt P3 (Tt Q3 B5)))) (BE (MR.set (k:=t0.1) (c:=[.bool B0.fh.fc,G2,.bool B0.fe.fc,H2]) (y:=B0) (bT B0.fh (Ag I5 A5) B0.fe (Ag J5 A5)) (BE c4 (Tt P3 Q3))) B5) h
 have h:=ct h Y3
 obtain ⟨q01,s01,rfl,t00,u00⟩:=cp s00
 refine Ab (FV.lookupK (kv:=t0.1) (q:=true) au Y1 (.tl (.tl (.tl (.tl (.tl (.tl (.tl (.tl (.tl (.tl (.tl (.tl (.tl (.tl (.tl (.tl (.tl (.tl .hd)))))))))))))))))) underlying124 (z:=.agg #[.bool false,vN,.bool false,vN]) I I I (.inr ⟨_,q4,I,I⟩))<|Ae I<|Ab (Ac I I)<|Ab (Ac I I)<|RG.nl [.bool false,vN,.bool false,vN] Y1 fun k04 b02 b7 q2=>?_
 have s5:=Ag t00 q2
 have u5:=Ag u00 q2
 refine AQ [.bool x4.fh.fc,q01,.bool x4.fe.fc,s01] b7 .hd (o4 I (AE s5) I (AE u5)) fun p04 M2 s2=>Ai I<|Aa<|Af<|Ae I<|Aa<|AW I<|Ap<|Ab (AF I (M2.memA .t1))<|Ab (AF I (M2.memA .hd))<|bk h fun R0 V00 h=>?_
 have C5:=Tt k2 (Tt p2 (Tt R2 (Tt U2 (Tt K3 (Tt M3 (Tt q2 s2))))))
 refine jE (bd 81) I (e2 I I) (fun w9 hw9=>ae_c n (M2.hL hL hw9) B0 (Ah (Ag I5 C5) hw9) (Ah (Ag J5 C5) hw9) x4 (Ah (Ag s5 s2) hw9) (Ah (Ag u5 s2) hw9) V00) I fun q04 y03 u9 ⟨Z2,b3,hu_,K5,M5⟩=>?_
 subst hu_
 obtain ⟨c7,c5⟩:=M2.agr u9
 refine AQ [.bool R0.fh.fc,Z2,.bool R0.fe.fc,b3] c7 .t1 (o4 I (AE K5) I (AE M5)) fun s04 x3 V2=>Aa<|Ap<|Ae I<|Ab (AF I (x3.memA .t2))<|Ab (AF I (x3.memA .t1))<|RG.now .plain (BA (kv:=t0.1) (vv:=[.bool R0.fh.fc,Z2,.bool R0.fe.fc,b3]) au x3 (.tl (.tl (.tl (.tl (.tl (.tl (.tl (.tl (.tl (.tl (.tl (.tl (.tl (.tl (.tl (.tl (.tl (.tl (.tl .hd))))))))))))))))))) underlying124 I I I) fun t04 g7 j8=>Aa<|MX.fin I<|Aq (u:=.tuple #[]) k5 func88 I .nil I<|AN (dk Y0)<|MX.fin I<|Aq (u:=.tuple #[]) W3 func86 I .nil I<|AN (dk P0)<|Ay<|MX.roundEnd V3 g7 .t11 fun u04 j7 k8=>Ab (BC I)<|Aa<|BG I<|Ar<|Ay<|Ap<|Ab (Bj (i:=F0) (j:=1) I I (by omega))<|Ae I<|Aa ?_
 obtain ⟨k7,p8⟩:=AA j7 .d10
 have D5:=Tt j8 (Tt k8 p8)
 exact p3 (F0 + 1,v1,A0,aB W0 t0.1 R0,(aB v0 t0.1 [.bool R0.fh.fc,Z2,.bool R0.fe.fc,b3])) k7 (Tt P2 (Tt g4 (Tt q2 (Tt s2 (Tt c5 (Tt V2 D5)))))) (BE (MR.set (k:=t0.1) (c:=[.bool R0.fh.fc,Z2,.bool R0.fe.fc,b3]) (y:=R0) (bT R0.fh (Ag K5 V2) R0.fe (Ag M5 V2)) (BE c4 (Tt q2 (Tt s2 (Tt c5 V2))))) D5) h
 refine Af<|Ae I<|Ab (Bf I)<|BB 1 I<|RG.now .plain (BL (j:=1) (old:=[.map (some b0),.bool A0]) (news:=[.bool true]) (new' :=[.map (some b0),.bool true]) X1 (.tl (.tl (.tl (.tl (.tl (.tl (.tl (.tl (.tl (.tl (.tl (.tl (.tl (.tl (.tl .hd))))))))))))))) I I I I I I (o1 I) I) fun v04 p7 q8=>Aa<|Au I<|Aq (u:=.tuple #[]) W3 func86 I .nil I<|AN (dk P0)<|Ay<|MX.roundEnd V3 p7 .t8 fun x04 q7 s8=>Ab (BC I)<|Aa<|BG I<|Ar<|Ay<|Ap<|Ab (Bj (i:=F0) (j:=1) I I (by omega))<|Ae I<|Aa ?_
 obtain ⟨s7,u8⟩:=AA q7 .d7
 have E5:=Tt R4 (Tt U4 (Tt V4 (Tt W4 (Tt X4 (Tt Y4 (Tt Z4 (Tt b5 (Tt Q2 (Tt d2 (Tt g2 (Tt H3 (Tt I3 (Tt j2 (Tt J3 (Tt k2 (Tt p2 (Tt R2 (Tt U2 (Tt q8 (Tt s8 u8))))))))))))))))))))
 exact p3 (F0 + 1,v1,true,W0,v0) s7 (Tt P2 E5) (BE p4 E5) h
 intro M01 B4 h
 try dsimp only at h
 refine MX.ifn I h (fun u6 h=>?_) (fun u6 h=>?_)
 refine Ar ?_
 obtain ⟨u7,v8⟩:=AA y1 .d1
 exact B4 G0 u7 v8 h
 refine du 3 fun D2 s4=>Rx 0 8 D2 I s4 (Bx I ((y1.memA .t10) 0 _ I))<|Rx 1 12 D2 I s4 (AF I (y1.memA .t1))<|bk h fun y4 W00 h=>RD.cq 2 7 8 (.string y4) D2 I s4 (bd 85) I (e1 I) (fun w9 hw9=>bI_c n (y1.hL0 hL hw9) K0 (y1.kd (Ag Z3 (Tt d2 g2)) hw9) (y1.kd (Ag b4 (Tt d2 g2)) hw9) W00) I<|BF 3 15 D2 I I .plain (Acts.mapUpdate (kv:=y4) (vv:=true) y1 .t11 underlying127 underlying9 I I I I) fun y04 v7 x8=>AN (dk D2) ?_
 obtain ⟨x7,y8⟩:=AA v7 .d1
 exact B4 (aB G0 y4 true) x7 (Tt x8 y8) h
 intro J2
 refine BO [2,7] (rk j0) ⟨?_,?_,trivial⟩
 refine RO.call (m' :=31) (fst:=[]) (cap:=[]) (sk j0) I .plain (bd 68) I (e1 I) (fun w9 hw9=>am_c n (H1.hL hL hw9) p0.fm P5) I fun y01 x01 U3 ⟨g01,j01,hu_,z2,A2⟩=>?_
 subst hu_
 obtain ⟨I1,b2⟩:=H1.agr U3
 refine BO [5,7] (rk j0) ⟨?_,?_,trivial⟩
 refine RO.call (m' :=63) (fst:=[]) (cap:=[]) (sk j0) I .plain (bd 68) I (e1 I) (fun w9 hw9=>am_c n (I1.hL hL hw9) s0.fm k4) I fun Z5 X5 u2 ⟨V5,W5,hu_,M1,P1⟩=>?_
 subst hu_
 obtain ⟨k1,E0⟩:=I1.agr u2
 refine BO [6,7] (rk j0) ⟨?_,?_,trivial⟩
 have x2:=Ag z2 E0
 have y2:=Ag A2 E0
 refine RO.call (m' :=127) (fst:=[]) (cap:=[]) (sk j0) I .plain (bd 81) I (e2 I I) (fun w9 hw9=>ae_c n (k1.hL hL hw9) g3 (Ah x2 hw9) (Ah y2 hw9) j3 (Ah M1 hw9) (Ah P1 hw9) W2) I fun b6 Y5 v2 ⟨E2,F2,hu_,B2,C2⟩=>?_
 subst hu_
 obtain ⟨U1,c2⟩:=k1.agr v2
 refine RD.nu 7 255 j0 I .plain I (AB [.bool false,vN,.bool false,vN] U1) fun u4 D1 X0 z0=>J2 (E2,F2,D1) X0 (Tt b2 (Tt E0 (Tt c2 z0))) ⟨(Ag B2 z0),(Ag C2 z0)⟩
 refine RO.new (m' :=191) (sk j0) I .plain I (AB [.bool false,vN,.bool false,vN] k1) fun u4 D1 X0 z0=>?_
 have x2:=Ag z2 (Tt E0 z0)
 have y2:=Ag A2 (Tt E0 z0)
 refine AU 6 255 j0 I .plain (bd 81) I (e2 I I) (fun w9 hw9=>ae_c n (X0.hL hL hw9) g3 (Ah x2 hw9) (Ah y2 hw9) j3 (Ah (Ag M1 z0) hw9) (Ah (Ag P1 z0) hw9) W2) I fun J03 t03 k9 ⟨k01,p01,hu_,d00,g00⟩=>?_
 subst hu_
 obtain ⟨K6,b8⟩:=X0.agr k9
 exact J2 (k01,p01,D1) K6 (Tt b2 (Tt E0 (Tt z0 b8))) ⟨d00,g00⟩
 refine RO.new (m' :=159) (sk j0) I .plain I (AB [.bool false,vN,.bool false,vN] I1) fun u4 D1 X0 z0=>AU 5 191 j0 I .plain (bd 68) I (e1 I) (fun w9 hw9=>am_c n (X0.hL hL hw9) s0.fm k4) I fun Z5 X5 u2 ⟨V5,W5,hu_,M1,P1⟩=>?_
 subst hu_
 obtain ⟨k1,E0⟩:=X0.agr u2
 have x2:=Ag z2 (Tt z0 E0)
 have y2:=Ag A2 (Tt z0 E0)
 refine AU 6 255 j0 I .plain (bd 81) I (e2 I I) (fun w9 hw9=>ae_c n (k1.hL hL hw9) g3 (Ah x2 hw9) (Ah y2 hw9) j3 (Ah M1 hw9) (Ah P1 hw9) W2) I fun b6 Y5 v2 ⟨E2,F2,hu_,B2,C2⟩=>?_
 subst hu_
 obtain ⟨U1,c2⟩:=k1.agr v2
 exact J2 (E2,F2,D1) U1 (Tt b2 (Tt z0 (Tt E0 c2))) ⟨B2,C2⟩
 refine RO.new (m' :=155) (sk j0) I .plain I (AB [.bool false,vN,.bool false,vN] H1) fun u4 D1 X0 z0=>AU 2 159 j0 I .plain (bd 68) I (e1 I) (fun w9 hw9=>am_c n (X0.hL hL hw9) p0.fm P5) I fun y01 x01 U3 ⟨g01,j01,hu_,z2,A2⟩=>?_
 subst hu_
 obtain ⟨I1,b2⟩:=X0.agr U3
 refine AU 5 191 j0 I .plain (bd 68) I (e1 I) (fun w9 hw9=>am_c n (I1.hL hL hw9) s0.fm k4) I fun Z5 X5 u2 ⟨V5,W5,hu_,M1,P1⟩=>?_
 subst hu_
 obtain ⟨k1,E0⟩:=I1.agr u2
 refine AU 6 255 j0 I .plain (bd 81) I (e2 I I) (fun w9 hw9=>ae_c n (k1.hL hL hw9) g3 (Ah (Ag z2 E0) hw9) (Ah (Ag A2 E0) hw9) j3 (Ah M1 hw9) (Ah P1 hw9) W2) I fun b6 Y5 v2 ⟨E2,F2,hu_,B2,C2⟩=>?_
 subst hu_
 obtain ⟨U1,c2⟩:=k1.agr v2
 exact J2 (E2,F2,D1) U1 (Tt z0 (Tt b2 (Tt E0 c2))) ⟨B2,C2⟩
 refine Bd I ?_
 have h:=I9 _ h
 try dsimp only at h
 refine Ay<|Ap<|Ab (Bj (i:=U0) (j:=1) I I (by omega))<|Ae I<|Aa ?_
 obtain ⟨y7,d5⟩:=AA u3 .d1
 exact C6 (U0 + 1,G0,A0,W0,v0) y7 (Tt Z7 (Tt P4 (Tt Q4 (Tt P2 d5)))) (BE p4 d5) h
 refine Bd I ?_
 have h:=H9 _ h
 try dsimp only at h
 refine MX.fin rfl<|Aq (u:=.tuple #[]) B9 func142 rfl .nil rfl<|MX.endRange0 q3 .hd (by intro h9; cases h9) fun z04 z7 z8=>?_
 obtain ⟨M0,A8⟩:=AA z7 .d1
 refine Ay<|Ak<|Ak<|du 9 fun Z0 q1=>Rx 0 478 Z0 I q1 (Bx I ((M0.memA .t5) 0 _ I))<|Rv 1 Z0 I q1 (fun _=>Bf I)<|Rv 2 Z0 I q1 (fun _=>Bw 0 I)<|Rx 3 464 Z0 I q1 (Bx I ((M0.memA .t6) 0 _ I)) ?_
 have d4:=BE Q5 (Tt z8 A8)
 refine Rx 4 448 Z0 I q1 (FV.as (FV.len_map (D:=g0) M0 .t7 underlying124 I) (congrArg (fun n9:Nat=>Value.int .i64 (n9:Int)) (MR.len d4)))<|Rx 5 448 Z0 I q1 (Bx I ((M0.memA .t3) 0 _ I))<|Rx 6 384 Z0 I q1 (FV.len_map (D:=u0) M0 .t4 underlying127 I)<|bk h fun d01 E00 h=>Rv 7 Z0 I q1 (fun _=>FV.addc (i:=((V0.length:Nat):Int)) (j:=((u0.length:Nat):Int)) I I E00)<|Rv 8 Z0 I q1 (fun _=>FV.gtr (i:=d01) (j:=400) I I)<|AN (dk Z0)<|Bb I h (fun v6 h=>?_) (fun v6 h=>?_)
 refine Af<|Ai I<|Ai I<|Aa<|Au I<|RT.take M0 .hd fun A04 A7 F02=>?_
 obtain ⟨y3,G02⟩:=AA A7 .d1
 have v00:=Bq (α:=Tb) y3 L
 refine Aq hb0 func24 I (.cons (.tmp I) (.cons (.tmp I) .nil)) I ?_
 cases h
 exact ⟨y3.ag,fun w9 hw9=>⟨vN,I,y3.kd v00 hw9⟩⟩
 refine Ar<|Af<|BH I ((M0.memA .t5) 0 _ I)<|Bs (fst:=[]) (cap:=[]) (vs:=[vP c0]) .plain (bd 87) func87 I I I I (e1 I) I fun z02 X3 Z02=>Af<|Ai I<|Ai I<|Aa<|Ak<|Af<|Ae I<|Ab (Bf I)<|BB 0 I<|BH I ((M0.memA .t6) 0 _ I)<|Ab (FV.as (FV.len_map (D:=g0) M0 .t7 underlying124 I) (congrArg (fun n9:Nat=>Value.int .i64 (n9:Int)) (MR.len d4)))<|Ab (FV.gtrN (i:=V0.length) (j:=400) I I)<|Aa<|Bb I h (fun x6 h=>?_) (fun x6 h=>?_)
 refine Af<|Ai I<|Ai I<|Aa<|Au I<|Aq (u:=.tuple #[vN,vI 3]) X3 func87 I (.cons (.tmp I) (.cons (.tmp I) .nil)) I<|Ab (Ac I I)<|Ab (Ac I I)<|Ai I<|Ai I<|Aa<|Au I<|RT.take M0 .hd fun B04 B7 H02=>?_
 obtain ⟨z3,I02⟩:=AA B7 .d1
 have x00:=Bq (α:=Tb) z3 L
 refine Aq hb0 func24 I (.cons (.tmp I) (.cons (.tmp I) .nil)) I ?_
 cases h
 exact ⟨z3.ag,fun w9 hw9=>⟨vN,I,z3.kd x00 hw9⟩⟩
 refine Ar<|Af<|Ai I<|Aa<|Ak<|Af<|Ae I<|Ab (Bf I)<|BB 0 I<|BH I ((M0.memA .t6) 0 _ I)<|Am .plain I (Does.range (D:=g0) M0 .t7 underlying124 I) fun z01 E1 F4 B8=>Aa<|Aw ?_
 have G4:=F4.nilRow 37 (Rep.size Tb)
 refine MX.mloop (α:=(List Tb) × Bool × Vc × (List Vc) × (Array Nat)) (fun ⟨Q0,s1,J0,x1,u1⟩=>[(0,vP c0),(4,J0),(19,vP E1)]) (fun U5 ⟨Q0,s1,J0,x1,u1⟩ c3=>St w c3 [rr w 37 Tb J0 Q0.length x1,.obj E1 (aC b0 g0.length u1),.obj H0 (.deferred (some [])),.cells k0 [v1_0] 24,.cells q0 [v0_0] 24,.cells D0 [.map (some d0)] 127,.obj d0 (ay (u0:List (ByteArray × Bool))),.cells x0 [vP c0] 122,.cells c0 [.map (some b0),.bool s1] 126,.obj b0 (ay g0),rr w 24 (List Tb) (vS I0 2) (([a0,a1]:List (List Tb)).length) [v0_0,v1_0]]/\Tr z01 [rr w 37 Tb vN (([]:List Tb).length) [],.obj E1 (aC b0 g0.length #[]),.obj H0 (.deferred (some [])),.cells k0 [v1_0] 24,.cells q0 [v0_0] 24,.cells D0 [.map (some d0)] 127,.obj d0 (ay (u0:List (ByteArray × Bool))),.cells x0 [vP c0] 122,.cells c0 [.map (some b0),.bool g1] 126,.obj b0 (ay g0),rr w 24 (List Tb) (vS I0 2) (([a0,a1]:List (List Tb)).length) [v0_0,v1_0]] c3 [rr w 37 Tb J0 Q0.length x1,.obj E1 (aC b0 g0.length u1),.obj H0 (.deferred (some [])),.cells k0 [v1_0] 24,.cells q0 [v0_0] 24,.cells D0 [.map (some d0)] 127,.obj d0 (ay (u0:List (ByteArray × Bool))),.cells x0 [vP c0] 122,.cells c0 [.map (some b0),.bool s1] 126,.obj b0 (ay g0),rr w 24 (List Tb) (vS I0 2) (([a0,a1]:List (List Tb)).length) [v0_0,v1_0]]/\Cells c3 (bl [rr w 37 Tb J0 Q0.length x1,.obj E1 (aC b0 g0.length u1),.obj H0 (.deferred (some [])),.cells k0 [v1_0] 24,.cells q0 [v0_0] 24,.cells D0 [.map (some d0)] 127,.obj d0 (ay (u0:List (ByteArray × Bool))),.cells x0 [vP c0] 122,.cells c0 [.map (some b0),.bool s1] 126,.obj b0 (ay g0),rr w 24 (List Tb) (vS I0 2) (([a0,a1]:List (List Tb)).length) [v0_0,v1_0]] ++ L) x1 Q0/\left V0 u1 = U5) (fun ⟨Q0,s1,J0,x1,u1⟩=>(Q0,s1)) (([]:List Tb),g1,vN,[],#[]) h ⟨rfl,rfl,rfl,trivial⟩ ⟨G4,Tr.refl _ _,(AC (cs:=[]) (xs:=([]:List Tb)) G4 L (AH _ _)),(cn _)⟩ ?_
 rintro U5 ⟨Q0,s1,J0,x1,u1⟩ c3 P01 D6 ⟨C7,g5,p5,P9⟩ V9 D9
 refine Af<|RG.nextR (W:=g0) (BE d4 (Tt B8 (Tt (St.nilRowT F4 37 (Rep.size Tb)) g5))) C7 .t9 (fun _=>.t1) I I P9 (fun C04 W9 K1 C8=>?_) (fun D04 R5 y0 A02 c01 J9 y00 Z9 Q9 H4 D8=>?_)
 have h:=V9 W9
 try dsimp only at h
 refine Ab (Ac I I)<|Aa<|Ak<|BG I<|Bd I<|Ak<|Af<|Ae I<|Ab (Bf I)<|BB 1 I<|BH I ((K1.memA .t8) 1 _ I)<|Aa<|MX.ifb I h (fun y6 h=>?_) (fun y6 h=>?_)
 refine Af<|Ai I<|Ai I<|Aa<|Au I<|Aq (u:=.tuple #[vN,vI 6]) X3 func87 I (.cons (.tmp I) (.cons (.tmp I) .nil)) I<|Ab (Ac I I)<|Ab (Ac I I)<|Ai I<|Ai I<|Aa<|Au I<|RT.take K1 .t2 fun E04 D7 J02=>?_
 obtain ⟨A3,K02⟩:=AA D7 (.a0 (.a0 .d1))
 have z00:=Bq (α:=Tb) A3 L
 refine Aq hb0 func24 I (.cons (.tmp I) (.cons (.tmp I) .nil)) I ?_
 cases h
 exact ⟨A3.ag,fun w9 hw9=>⟨vN,I,A3.kd z00 hw9⟩⟩
 refine Ar<|Af<|Ae I<|Bs (fst:=[]) (cap:=[]) (vs:=[J0,.func (.func 144) #[] #[]]) .plain (bd 143) func143 I I I I (e2 I I) I fun B02 v9 b03=>Af<|Ae I ?_
 have U02:Q0.length <= 4294967296:=St.rowLe (α:=Tb) K1 .hd
 obtain ⟨I01,q02,G9⟩:=St.rowV (α:=Tb) K1 .hd
 refine Ab (FV.lenV underlying24 I G9)<|Ai I<|Aa<|Ap<|Ae I<|Ae I<|Ae I<|Ab (FV.convU (i:=((Q0.length:Nat):Int)) underlying3 underlying193 I)<|bk h fun j6 X00 h=>Bo (vI j6) (bd 174) I (e1 I) (fun w9 hw9=>aQ_c n (K1.hL0 hL hw9) (ai ((Q0.length:Nat):Int)) X00) I<|Ae I<|bk h fun g6 J00 h=>RG.sort (enc:=aA) (ρ:=Tryz.srt173_ren) (c:=(fun x9 y9=>aj_p n x9 y9)) (li:=j6) J00 I (fun _ _ _ _ h9=>aY h9) (fun w9 L9 z9=>bg (w:=w9) (L:=L9) z9.fm z9.fP) Tryz.srt173 (fun w9=>Tryz.isAgg37 w9) (fun w9=>Tryz.sizeOf37 w9) (enters_of func144 I I) (fun x9 y9 r9 w9 h9=>aj_c n (L:=[]) (w:=w9) (fun _ h8=>nomatch h8) x9 y9 h9) .plain (bd 173) I (e5 I I I I I) I K1 (AK p5 C8) .hd fun A01 I4 M02=>Aa<|MX.fin I<|Aq (u:=.tuple #[]) v9 func143 I .nil I<|Aa<|Af<|Ae I<|Ai I<|Ai I<|Aa<|Au I<|Aq (u:=.tuple #[J0,vI 0]) X3 func87 I (.cons (.tmp I) (.cons (.tmp I) .nil)) I<|Ab (Ac I I)<|Ab (Ac I I)<|Ai I<|Ai I<|Aa<|Au I<|RT.take I4 .t2 fun F04 E7 E8=>?_
 obtain ⟨B3,F8⟩:=AA E7 (.a0 (.a0 .d1))
 have C3:=Bl B3 .hd
 have P02:=Bm B3 .hd
 have A00:=Bn (α:=Tb) (v:=J0) (xs:=g6) C3 L (Ba (α:=Tb) B3 .hd (AK (AC I4 L (bp (α:=Tb) (enc:=aA) (fun w9 L9 z9=>bg (w:=w9) (L:=L9) z9.fm z9.fP) A01 _ g6)) (Tt E8 F8)) hL)
 refine Aq hb0 func24 I (.cons (.tmp I) (.cons (.tmp I) .nil)) I ?_
 cases h
 exact ⟨C3.ag,fun w9 hw9=>⟨J0,I,C3.kd A00 hw9⟩⟩
 obtain ⟨t01,u01,rfl,B00,C00⟩:=cp y00
 have h:=D9 _ _ Z9
 unfold cy at h
 try dsimp only at h
 refine Ab (Ac I I)<|Aa<|Ak<|AW I<|Ar<|Aw<|Af<|Ab (FV.entry (D:=g0) H4 .t9 .t1 J9 I)<|Ab (Ac I I)<|Ab (Ac I I)<|RG.nl zL H4 fun G04 z4 F7 G8=>RG.nl [.bool false,vN,.bool false,vN] F7 fun H04 c02 G7 H8=>AQ (aa y0.1) G7 .t1 (ak I) fun I04 H7 I8=>?_
 have j4:=Tt D8 (Tt G8 (Tt H8 I8))
 have v5:=Ag B00 j4
 have x5:=Ag C00 j4
 refine AQ [.bool y0.2.fh.fc,t01,.bool y0.2.fe.fc,u01] H7 .hd (o4 I (AE v5) I (AE x5)) fun J04 Z1 R3=>Aa<|Af<|Ab (AF I (Z1.memA .hd))<|bk h fun C0 Y00 h=>Bo (.tuple #[.agg ((aa C0.1)).toArray,vI C0.2]) (bd 77) I (e1 I) (fun w9 hw9=>ak_c n (Z1.hL0 hL hw9) y0.2 (Z1.kd (Ag v5 R3) hw9) (Z1.kd (Ag x5 R3) hw9) Y00) I<|Ae I<|Ab (Ac I I)<|Ab (Ac I I)<|RG.nl zL Z1 fun K04 A4 I7 J8=>AQ (aa C0.1) I7 .hd (ak I) fun M04 D3 K8=>Ai I<|Aa<|Ak<|Af<|Ae I<|Ab (BM (i:=C0.2) (j:=0) I I)<|Aa<|MX.jo (α:=Bool) (fun R1=>[(0,vP c0),(4,J0),(19,vP E1),(5,vP z4),(7,vP A4)]) (fun R1=>[.cells A4 (aa C0.1) 34,.cells z4 (aa y0.1) 34,rr w 37 Tb J0 Q0.length x1,.obj E1 (aC b0 g0.length (u1.push R5)),.obj H0 (.deferred (some [])),.cells k0 [v1_0] 24,.cells q0 [v0_0] 24,.cells D0 [.map (some d0)] 127,.obj d0 (ay (u0:List (ByteArray × Bool))),.cells x0 [vP c0] 122,.cells c0 [.map (some b0),.bool R1] 126,.obj b0 (ay g0),rr w 24 (List Tb) (vS I0 2) (([a0,a1]:List (List Tb)).length) [v0_0,v1_0]]) (fun R1=>R1) D3 h ?_ ?_
 rintro R1 k05 E3 M8 h
 try dsimp only at h
 refine Ap<|Ae I<|Ab (AF I (E3.memA .t1))<|Ab (AF I (E3.memA .hd))<|Ab (AI (vs:=[.agg ((aa y0.1)).toArray,.agg ((aa C0.1)).toArray]) (u:=.agg ((aa y0.1 ++ aa C0.1)).toArray) (e2 I I) (fun w9=>by kernel_rfl))<|Am .plain I (AG (α:=Tb) (xs:=([(⟨y0.1,C0.1⟩:Tb)]:List Tb)) (vs:=[.agg ((aa y0.1 ++ aa C0.1)).toArray]) (ds' :=(aa y0.1 ++ aa C0.1)) I E3 dq I (e1 I) (by kernel_rfl) I) fun P04 d02 F3 P8=>bk h fun B01 K00 h=>?_
 have F5:=Tt j4 (Tt R3 (Tt J8 (Tt K8 (Tt M8 P8))))
 refine BN .plain I (Bz (α:=Tb) (ys:=([(⟨y0.1,C0.1⟩:Tb)]:List Tb)) K00 F3 (fun _ _=>.t3) dq I I (AK p5 F5) (Src.row (α:=Tb) F3 .hd (AC (cs:=(aa y0.1 ++ aa C0.1)) (xs:=(([(⟨y0.1,C0.1⟩:Tb)]:List Tb):List Tb)) F3 L (Ao (cs:=(aa y0.1 ++ aa C0.1)) (ds:=[]) (bg y0.1 C0.1) (AH _ _))))) fun v01 Q04 ⟨B6,J7,Q8,C9⟩=>Ai I<|Aa<|Ay ?_
 obtain ⟨K7,j5⟩:=AA J7 .d3
 exact D6 c01 (B01,R1,v01,B6,(u1.push R5)) _ _ ⟨I,I,I,trivial⟩ ⟨K7,(Tt g5 (Tt F5 (Tt Q8 j5))),(AK C9 j5),Q9⟩ h
 intro Q01 C4 h
 try dsimp only at h
 refine MX.ifn I h (fun z6 h=>?_) (fun z6 h=>?_)
 refine Ar ?_
 obtain ⟨M7,R8⟩:=AA D3 (.a0 .d1)
 exact C4 s1 M7 R8 h
 refine Ap<|Ae I<|Ab (Bf I)<|BB 1 I<|RG.now .plain (BL (j:=1) (old:=[.map (some b0),.bool s1]) (news:=[.bool true]) (new' :=[.map (some b0),.bool true]) D3 .t11 I I I I I I (o1 I) I) fun R04 P7 U8=>Aa ?_
 obtain ⟨Q7,V8⟩:=AA P7 (.a0 .d1)
 exact C4 true Q7 (Tt U8 V8) h
 refine Af<|Ae I<|Ai I<|Ai I<|Aa<|Au I ?_
 have D00:=Bq (α:=Tb) p1 L
 refine Aq hb0 func24 I (.cons (.tmp I) (.cons (.tmp I) .nil)) I ?_
 cases h
 exact ⟨p1.ag,fun w9 hw9=>⟨vN,I,p1.kd D00 hw9⟩⟩
def bQ (n:Nat) (d0:Ta × Tc) (c0:Bool × (List Ua) × Bool × (List Ua) -> Oa (Ta × Int)):Bool × (List Ua) × Bool × (List Ua) -> Oa (Ta × Int)
  | (g0,k0,j0,p0)=>(aI_p n d0.2.fh).bind fun q0=>(if 0 < q0 then (ae_p n (⟨(⟨g0,k0⟩:Td),(⟨j0,p0⟩:Td)⟩:Tc) d0.2).bind fun b0=>c0 (b0.fh.fc,b0.fh.fj,b0.fe.fc,b0.fe.fj) else c0 (g0,k0,j0,p0))
def au_l1 (n:Nat) (a1:List Tb) (g0:Nat × (List (Ta × Tc)) -> Oa (List (Ta × Tc))):Nat × (List (Ta × Tc)) -> Oa (List (Ta × Tc))
  | (c0,b0)=>(if c0 < a1.length then (a1[c0]?).bind fun d0=>(aK_p n d0).bind fun k0=>(bp_p n k0).bind fun j0=>dh (bc b0 d0.fm) (g0 (c0 + 1,aB b0 d0.fm j0)) (fun p0=>(ae_p n j0 p0).bind fun q0=>g0 (c0 + 1,aB b0 d0.fm q0)) else some b0)
def au_l2 (n:Nat) (a0:List Tb) (g0:Nat × (List (Ta × Tc)) -> Oa (List (Ta × Tc))):Nat × (List (Ta × Tc)) -> Oa (List (Ta × Tc))
  | (c0,b0)=>(if c0 < a0.length then (a0[c0]?).bind fun d0=>(aK_p n d0).bind fun j0=>dh (bc b0 d0.fm) (g0 (c0 + 1,aB b0 d0.fm j0)) (fun k0=>(ae_p n j0 k0).bind fun p0=>g0 (c0 + 1,aB b0 d0.fm p0)) else some b0)
def au_p (n:Nat) (a0:List Tb) (a1:List Tb):Oa (Ta × Int):=
  (aq_p n ([a0,a1]:List (List Tb)) ([]:List Ta)).bind fun c0=>(if c0 = 0 then Option.bind (az (au_l2 n a0) n (0,([]:List (Ta × Tc)))) (fun g0=>Option.bind (az (au_l1 n a1) n (0,g0)) (fun j0=>(aB_p n (0:Int)).bind fun b0=>mloop (fun (k0,q0,p0,s0)=>(ak_p n (⟨(⟨k0,q0⟩:Td),(⟨p0,s0⟩:Td)⟩:Tc)).bind fun d0=>some (d0.1,d0.2)) (bQ n) n j0 (b0.fh.fc,b0.fh.fj,b0.fe.fc,b0.fe.fj))) else some ((⟨(0,0,0,0,0,0,0,0),(0,0,0,0,0,0,0,0)⟩:Ta),c0))
theorem au_c (n:Nat) {L w} (hL:hl L w) {a0:List Tb} {v0_0:Vc} (h0_0:Rep.R w L [v0_0] a0) {a1:List Tb} {v1_0:Vc} (h1_0:Rep.R w L [v1_0] a1)  {r:Ta × Int} (h:au_p n a0 a1 = some r) :
 Cl 25 #[v0_0,v1_0] w (ar w fun _ u=>u = .tuple #[.agg ((aa r.1)).toArray,vI r.2]):=by
 unfold au_p at h
 refine AT func25 I I I fun _ cs0 hb0=>Af<|RG.nl zL (AS w) fun U8 p0 M1 u8=>Ai I<|Aa<|Ak<|Af<|Ae I<|Ae I ?_
 obtain ⟨A7,Y7,U6,_⟩:=BD (AO h0_0 M1)
 obtain ⟨B7,Z7,V6,_⟩:=BD (AO h1_0 M1)
 refine Am .plain I (AG (α:=List Tb) (xs:=([a0,a1]:List (List Tb))) (vs:=[v0_0,v1_0]) (ds' :=[v0_0,v1_0]) I M1 bW I (e2 I I) (by rw [U6,V6]; try kernel_rfl) I) fun V8 H7 K0 v8=>bk h fun B4 Z6 h=>Bo (vI B4) (bd 63) I (e2 I I) (fun w9 hw9=>aq_c n (K0.hL0 hL hw9) (Ah (St.lend (α:=List Tb) (L:=L) K0 .hd (AC (cs:=[v0_0,v1_0]) (xs:=(([a0,a1]:List (List Tb)):List (List Tb))) K0 L (Ao (cs:=[v0_0]) (ds:=[v1_0]) (AO h0_0 K0) (Ao (cs:=[v1_0]) (ds:=[]) (AO h1_0 K0) (AH _ _)))) hL) hw9) (Ah (Rep.nilSlice _ _) hw9) Z6) I<|Ai I<|Aa<|Af<|Ae I<|Ab (BM (i:=B4) (j:=0) I I)<|Aa<|MX.ifn I h (fun E4 h=>?_) (fun E4 h=>?_)
 refine Ar<|Af<|Am .plain I (Does.makeMap (κ:=Ta) (ν:=List Vc) K0) fun g9 c0 Q1 x8=>Ai I<|Aa<|Ak<|Af<|Ae I ?_
 have D3:=AO h0_0 Q1
 have z8:=Bg D3
 refine Ab (Bh (xs:=a0) underlying24 I D3)<|Ae I<|Aa<|Aw ?_
 obtain ⟨K4,D5⟩:=AA Q1 (.a0 .d1)
 obtain ⟨D8,x6,d6⟩:=aw h
 refine MX.lf (α:=Nat × (List (Ta × Tc)) × (List (Ta × List Vc))) (fun ⟨q0,B0,y0⟩=>[(1,v1_0),(4,vP p0),(7,.map (some c0)),(24,v0_0),(25,vn a0.length),(26,vn q0)]) (fun ⟨q0,B0,y0⟩=>[.obj c0 (ay y0),.cells p0 zL 34]) (fun ⟨q0,B0,y0⟩ z4=>MR z4 (bl [.obj c0 (ay y0),.cells p0 zL 34] ++ L) y0 B0) (fun ⟨q0,B0,y0⟩=>(q0,B0)) (0,([]:List (Ta × Tc)),([]:List (Ta × List Vc))) x6 K4 (BE (MR.at_ (Z:=([]:List (Ta × List Vc))) (M:=([]:List (Ta × Tc))) Q1 L trivial) D5) ?_
 rintro E7 ⟨q0,B0,y0⟩ z4 P2 g1 Y2 k4 h
 unfold au_l2 at h
 try dsimp only at h
 refine Af<|Ab (AY (i:=q0) (j:=a0.length) I I)<|Aa<|Ak<|Bb I h (fun D4 h=>?_) (fun D4 h=>?_)
 refine Ar<|Ak<|Aw<|Af<|bk h fun d0 W6 h=>?_
 obtain ⟨C7,b8,b6,k6,d8,A6,s6⟩:=Bv (AO h0_0 g1) W6
 obtain rfl:=aY A6
 refine Ab (BJ 32 q0 I b6 I I k6)<|Ab (AF I s6)<|RG.nl [vW 0,vW 0,vW 0,vW 0,vW 0,vW 0,vW 0,vW 0,vW 0,vW 0,vW 0,vW 0,vW 0,vW 0,vW 0,vW 0,vW 0,vW 0,vW 0,vW 0,vW 0,vW 0,vW 0,vW 0,vW 0,vW 0,vW 0,vW 0,vW 0,vW 0,vW 0,vW 0] g1 fun W8 I7 M4 E5=>AQ (aA d0) M4 .hd (ak I) fun X8 j1 F5=>Aa<|du 5 fun D0 A1=>Rv 0 D0 I A1 (fun _=>Aj I)<|Rv 1 D0 I A1 (fun _=>Bw 0 I)<|Rx 2 32 D0 I A1 (AZ (cs:=(aa d0.fm)) I I (aj (j1.memA .hd) 0 16))<|Rx 3 48 D0 I A1 (AF I (j1.memA .hd))<|bk h fun j0 Y6 h=>AU 4 31 D0 I .plain (bd 66) I (e1 I) (fun w9 hw9=>aK_c n (j1.hL hL hw9) d0 Y6) I fun Y8 H8 Q5 ⟨C1,D1,hu_,U3,V3⟩=>?_
 subst hu_
 obtain ⟨P4,G5⟩:=j1.agr Q5
 refine BK (i:=5) (rk D0) (RO.enterPT (m' :=63) (fst:=[]) (cap:=[]) (vs:=[.map (some c0),.agg ((aa d0.fm)).toArray,.agg #[.bool j0.fh.fc,C1,.bool j0.fe.fc,D1]]) (sk D0) I I .plain (bd 88) func88 I I I I (e3 I I I) I (fun _ g8 x3 B8=>?_))
 refine Af<|RG.bx P4 I I fun Z8 J7 Q4 Y1=>RG.bx Q4 I I fun b9 K7 U0 Z1=>Aa<|Ak<|Af<|Ae I<|Ab (AF I (U0.memA .t1)) ?_
 have B2:=Tt E5 (Tt F5 (Tt G5 (Tt Y1 Z1)))
 have y2:=BE k4 B2
 rcases MR.get d0.fm y2 with ⟨v2,G2⟩ | ⟨j8,K2,G2,v2,B6⟩
 have h:=cw h v2
 refine Ab (FV.lookupK (kv:=d0.fm) (q:=false) au U0 .t3 underlying124 (z:=.agg #[.bool false,vN,.bool false,vN]) I I I (.inl ⟨G2,I,I⟩))<|Ae I<|Ab (Ac I I)<|Ab (Ac I I)<|RG.nl [.bool false,vN,.bool false,vN] U0 fun c9 M7 R4 b2=>AQ [.bool false,vN,.bool false,vN] R4 .hd (ak I) fun d9 P1 c2=>Ai I<|Aa<|Af<|Ae I<|Aa<|BG I<|Ar<|Ap<|Ae I<|Ab (AF I (P1.memA .t2))<|Ab (AF I (P1.memA .t1)) ?_
 have M3:=Tt Y1 (Tt Z1 (Tt b2 c2))
 refine RG.now .plain (BA (kv:=d0.fm) (vv:=[.bool j0.fh.fc,C1,.bool j0.fe.fc,D1]) au P1 .t4 underlying124 I I I) fun j9 U4 Z2=>Aa<|MX.fin I<|Aq (u:=.tuple #[]) x3 func88 I .nil I<|AN (dk D0)<|Ay<|Ap<|Ab (Bj (i:=q0) (j:=1) I I (by omega))<|Ae I<|Aa ?_
 obtain ⟨V4,b3⟩:=AA U4 .d4
 exact P2 (q0 + 1,aB B0 d0.fm j0,(aB y0 d0.fm [.bool j0.fh.fc,C1,.bool j0.fe.fc,D1])) V4 (Tt Y2 (Tt B2 (Tt b2 (Tt c2 (Tt Z2 b3))))) (BE (MR.set (k:=d0.fm) (c:=[.bool j0.fh.fc,C1,.bool j0.fe.fc,D1]) (y:=j0) (bT j0.fh (Ag U3 M3) j0.fe (Ag V3 M3)) (BE y2 (Tt b2 c2))) (Tt Z2 b3)) h
 have h:=ct h v2
 obtain ⟨s7,t7,rfl,C6,D6⟩:=cp B6
 refine Ab (FV.lookupK (kv:=d0.fm) (q:=true) au U0 .t3 underlying124 (z:=.agg #[.bool false,vN,.bool false,vN]) I I I (.inr ⟨_,G2,I,I⟩))<|Ae I<|Ab (Ac I I)<|Ab (Ac I I)<|RG.nl [.bool false,vN,.bool false,vN] U0 fun k9 P7 W4 X0=>?_
 have A3:=Ag C6 X0
 have B3:=Ag D6 X0
 refine AQ [.bool K2.fh.fc,s7,.bool K2.fe.fc,t7] W4 .hd (o4 I (AE A3) I (AE B3)) fun p9 k1 Y0=>Ai I<|Aa<|Af<|Ae I<|Aa<|AW I<|Ap<|Ab (AF I (k1.memA .t1))<|Ab (AF I (k1.memA .hd))<|bk h fun t0 b7 h=>?_
 have P3:=Tt Y1 (Tt Z1 (Tt X0 Y0))
 refine jE (bd 81) I (e2 I I) (fun w9 hw9=>ae_c n (k1.hL hL hw9) j0 (Ah (Ag U3 P3) hw9) (Ah (Ag V3 P3) hw9) K2 (Ah (Ag A3 Y0) hw9) (Ah (Ag B3 Y0) hw9) b7) I fun q9 I8 R5 ⟨E1,F1,hu_,W3,X3⟩=>?_
 subst hu_
 obtain ⟨X4,c3⟩:=k1.agr R5
 refine AQ [.bool t0.fh.fc,E1,.bool t0.fe.fc,F1] X4 .t1 (o4 I (AE W3) I (AE X3)) fun s9 R1 u1=>Aa<|Ap<|Ae I<|Ab (AF I (R1.memA .t2))<|Ab (AF I (R1.memA .t1))<|RG.now .plain (BA (kv:=d0.fm) (vv:=[.bool t0.fh.fc,E1,.bool t0.fe.fc,F1]) au R1 .t4 underlying124 I I I) fun t9 Y4 d3=>Aa<|MX.fin I<|Aq (u:=.tuple #[]) x3 func88 I .nil I<|AN (dk D0)<|Ay<|Ap<|Ab (Bj (i:=q0) (j:=1) I I (by omega))<|Ae I<|Aa ?_
 obtain ⟨Z4,g3⟩:=AA Y4 .d4
 exact P2 (q0 + 1,aB B0 d0.fm t0,(aB y0 d0.fm [.bool t0.fh.fc,E1,.bool t0.fe.fc,F1])) Z4 (Tt Y2 (Tt B2 (Tt X0 (Tt Y0 (Tt c3 (Tt u1 (Tt d3 g3))))))) (BE (MR.set (k:=d0.fm) (c:=[.bool t0.fh.fc,E1,.bool t0.fe.fc,F1]) (y:=t0) (bT t0.fh (Ag W3 u1) t0.fe (Ag X3 u1)) (BE y2 (Tt X0 (Tt Y0 (Tt c3 u1))))) (Tt d3 g3)) h
 refine Bd I ?_
 have h:=d6 _ h
 try dsimp only at h
 refine Ak<|Af<|Ae I ?_
 have C3:=AO h1_0 g1
 have A8:=Bg C3
 refine Ab (Bh (xs:=a1) underlying24 I C3)<|Ae I<|Aa<|Aw ?_
 obtain ⟨E8,y6,g6⟩:=aw h
 refine MX.lf (α:=Nat × (List (Ta × Tc)) × (List (Ta × List Vc))) (fun ⟨s0,C0,b0⟩=>[(4,vP p0),(7,.map (some c0)),(37,v1_0),(38,vn a1.length),(39,vn s0)]) (fun ⟨s0,C0,b0⟩=>[.obj c0 (ay b0),.cells p0 zL 34]) (fun ⟨s0,C0,b0⟩ A4=>MR A4 (bl [.obj c0 (ay b0),.cells p0 zL 34] ++ L) b0 C0) (fun ⟨s0,C0,b0⟩=>(s0,C0)) (0,B0,y0) y6 g1 k4 ?_
 rintro F7 ⟨s0,C0,b0⟩ A4 Q2 p1 j3 p4 h
 unfold au_l1 at h
 try dsimp only at h
 refine Af<|Ab (AY (i:=s0) (j:=a1.length) I I)<|Aa<|Ak<|Bb I h (fun F4 h=>?_) (fun F4 h=>?_)
 refine Ar<|Ak<|Aw<|Af<|bk h fun g0 X6 h=>?_
 obtain ⟨D7,c8,c6,p6,k8,E6,t6⟩:=Bv (AO h1_0 p1) X6
 obtain rfl:=aY E6
 refine Ab (BJ 32 s0 I c6 I I p6)<|Ab (AF I t6)<|RG.nl [vW 0,vW 0,vW 0,vW 0,vW 0,vW 0,vW 0,vW 0,vW 0,vW 0,vW 0,vW 0,vW 0,vW 0,vW 0,vW 0,vW 0,vW 0,vW 0,vW 0,vW 0,vW 0,vW 0,vW 0,vW 0,vW 0,vW 0,vW 0,vW 0,vW 0,vW 0,vW 0] p1 fun u9 Q7 b5 H5=>AQ (aA g0) b5 .hd (ak I) fun v9 q1 I5=>Aa<|du 6 fun z0 B1=>Rv 0 z0 I B1 (fun _=>Aj I)<|Rv 1 z0 I B1 (fun _=>Bw 0 I)<|Rx 2 64 z0 I B1 (AZ (cs:=(aa g0.fm)) I I (aj (q1.memA .hd) 0 16))<|Rx 3 112 z0 I B1 (AF I (q1.memA .hd))<|bk h fun z7 c7 h=>AU 4 31 z0 I .plain (bd 66) I (e1 I) (fun w9 hw9=>aK_c n (q1.hL hL hw9) g0 c7) I fun x9 J8 U5 ⟨F8,G8,hu_,F6,G6⟩=>?_
 subst hu_
 obtain ⟨V2,J5⟩:=q1.agr U5
 refine bk h fun k0 d7 h=>AU 5 63 z0 I .plain (bd 89) I (e1 I) (fun w9 hw9=>bp_c n (V2.hL hL hw9) z7 (Ah F6 hw9) (Ah G6 hw9) d7) I fun y9 K8 V5 ⟨G1,H1,hu_,Y3,Z3⟩=>?_
 subst hu_
 obtain ⟨c5,K5⟩:=V2.agr V5
 refine BK (i:=6) (rk z0) (RO.enterPT (m' :=127) (fst:=[]) (cap:=[]) (vs:=[.map (some c0),.agg ((aa g0.fm)).toArray,.agg #[.bool k0.fh.fc,G1,.bool k0.fe.fc,H1]]) (sk z0) I I .plain (bd 88) func88 I I I I (e3 I I I) I (fun _ p8 y3 C8=>?_))
 refine Af<|RG.bx c5 I I fun z9 R7 d5 d2=>RG.bx d5 I I fun A9 U7 V0 g2=>Aa<|Ak<|Af<|Ae I<|Ab (AF I (V0.memA .t1)) ?_
 have C2:=Tt H5 (Tt I5 (Tt J5 (Tt K5 (Tt d2 g2))))
 have z2:=BE p4 C2
 rcases MR.get g0.fm z2 with ⟨x2,H2⟩ | ⟨q8,M2,H2,x2,H6⟩
 have h:=cw h x2
 refine Ab (FV.lookupK (kv:=g0.fm) (q:=false) au V0 .t3 underlying124 (z:=.agg #[.bool false,vN,.bool false,vN]) I I I (.inl ⟨H2,I,I⟩))<|Ae I<|Ab (Ac I I)<|Ab (Ac I I)<|RG.nl [.bool false,vN,.bool false,vN] V0 fun B9 V7 g5 j2=>AQ [.bool false,vN,.bool false,vN] g5 .hd (ak I) fun C9 U1 k2=>Ai I<|Aa<|Af<|Ae I<|Aa<|BG I<|Ar<|Ap<|Ae I<|Ab (AF I (U1.memA .t2))<|Ab (AF I (U1.memA .t1)) ?_
 have Q3:=Tt d2 (Tt g2 (Tt j2 k2))
 refine RG.now .plain (BA (kv:=g0.fm) (vv:=[.bool k0.fh.fc,G1,.bool k0.fe.fc,H1]) au U1 .t4 underlying124 I I I) fun D9 j5 k3=>Aa<|MX.fin I<|Aq (u:=.tuple #[]) y3 func88 I .nil I<|AN (dk z0)<|Ay<|Ap<|Ab (Bj (i:=s0) (j:=1) I I (by omega))<|Ae I<|Aa ?_
 obtain ⟨k5,p3⟩:=AA j5 .d4
 exact Q2 (s0 + 1,aB C0 g0.fm k0,(aB b0 g0.fm [.bool k0.fh.fc,G1,.bool k0.fe.fc,H1])) k5 (Tt j3 (Tt C2 (Tt j2 (Tt k2 (Tt k3 p3))))) (BE (MR.set (k:=g0.fm) (c:=[.bool k0.fh.fc,G1,.bool k0.fe.fc,H1]) (y:=k0) (bT k0.fh (Ag Y3 Q3) k0.fe (Ag Z3 Q3)) (BE z2 (Tt j2 k2))) (Tt k3 p3)) h
 have h:=ct h x2
 obtain ⟨u7,v7,rfl,I6,J6⟩:=cp H6
 refine Ab (FV.lookupK (kv:=g0.fm) (q:=true) au V0 .t3 underlying124 (z:=.agg #[.bool false,vN,.bool false,vN]) I I I (.inr ⟨_,H2,I,I⟩))<|Ae I<|Ab (Ac I I)<|Ab (Ac I I)<|RG.nl [.bool false,vN,.bool false,vN] V0 fun E9 W7 p5 Z0=>?_
 have E3:=Ag I6 Z0
 have F3:=Ag J6 Z0
 refine AQ [.bool M2.fh.fc,u7,.bool M2.fe.fc,v7] p5 .hd (o4 I (AE E3) I (AE F3)) fun F9 s1 b1=>Ai I<|Aa<|Af<|Ae I<|Aa<|AW I<|Ap<|Ab (AF I (s1.memA .t1))<|Ab (AF I (s1.memA .hd))<|bk h fun u0 g7 h=>?_
 have R3:=Tt d2 (Tt g2 (Tt Z0 b1))
 refine jE (bd 81) I (e2 I I) (fun w9 hw9=>ae_c n (s1.hL hL hw9) k0 (Ah (Ag Y3 R3) hw9) (Ah (Ag Z3 R3) hw9) M2 (Ah (Ag E3 b1) hw9) (Ah (Ag F3 b1) hw9) g7) I fun G9 M8 W5 ⟨I1,J1,hu_,b4,c4⟩=>?_
 subst hu_
 obtain ⟨q5,q3⟩:=s1.agr W5
 refine AQ [.bool u0.fh.fc,I1,.bool u0.fe.fc,J1] q5 .t1 (o4 I (AE b4) I (AE c4)) fun H9 V1 v1=>Aa<|Ap<|Ae I<|Ab (AF I (V1.memA .t2))<|Ab (AF I (V1.memA .t1))<|RG.now .plain (BA (kv:=g0.fm) (vv:=[.bool u0.fh.fc,I1,.bool u0.fe.fc,J1]) au V1 .t4 underlying124 I I I) fun I9 s5 s3=>Aa<|MX.fin I<|Aq (u:=.tuple #[]) y3 func88 I .nil I<|AN (dk z0)<|Ay<|Ap<|Ab (Bj (i:=s0) (j:=1) I I (by omega))<|Ae I<|Aa ?_
 obtain ⟨t5,u3⟩:=AA s5 .d4
 exact Q2 (s0 + 1,aB C0 g0.fm u0,(aB b0 g0.fm [.bool u0.fh.fc,I1,.bool u0.fe.fc,J1])) t5 (Tt j3 (Tt C2 (Tt Z0 (Tt b1 (Tt q3 (Tt v1 (Tt s3 u3))))))) (BE (MR.set (k:=g0.fm) (c:=[.bool u0.fh.fc,I1,.bool u0.fe.fc,J1]) (y:=u0) (bT u0.fh (Ag b4 v1) u0.fe (Ag c4 v1)) (BE z2 (Tt Z0 (Tt b1 (Tt q3 v1))))) (Tt s3 u3)) h
 refine Bd I ?_
 have h:=g6 _ h
 try dsimp only at h
 refine Af<|bk h fun J0 j7 h=>jE (bd 71) I (e1 I) (fun w9 hw9=>aB_c n (p1.hL hL hw9)  j7) I fun J9 P8 X5 ⟨I2,J2,hu_,K6,M6⟩=>?_
 subst hu_
 obtain ⟨u5,M5⟩:=p1.agr X5
 refine RG.nl [.bool false,vN,.bool false,vN] u5 fun K9 M0 v5 p2=>?_
 have G3:=Ag K6 p2
 have H3:=Ag M6 p2
 refine AQ [.bool J0.fh.fc,I2,.bool J0.fe.fc,J2] v5 .hd (o4 I (AE G3) I (AE H3)) fun M9 x5 q2=>Aa<|Ak<|Af<|Ae I<|Am .plain I (Does.range (D:=b0) x5 .t1 underlying124 I) fun y7 P0 y5 s2=>Aa<|Aw<|MX.mloop (α:=Bool × (List Ua) × Bool × (List Ua) × (Array Nat) × Vc × Vc) (fun ⟨v0,H0,x0,I0,A0,E0,F0⟩=>[(4,vP p0),(12,vP M0),(53,vP P0)]) (fun s4 ⟨v0,H0,x0,I0,A0,E0,F0⟩ c1=>St w c1 [.obj P0 (aC c0 b0.length A0),.cells M0 [.bool v0,E0,.bool x0,F0] 109,.obj c0 (ay b0),.cells p0 zL 34]/\Tr y7 [.obj P0 (aC c0 b0.length #[]),.cells M0 [.bool J0.fh.fc,I2,.bool J0.fe.fc,J2] 109,.obj c0 (ay b0),.cells p0 zL 34] c1 [.obj P0 (aC c0 b0.length A0),.cells M0 [.bool v0,E0,.bool x0,F0] 109,.obj c0 (ay b0),.cells p0 zL 34]/\left C0 A0 = s4/\Rep.R c1 (bl [.obj P0 (aC c0 b0.length A0),.cells M0 [.bool v0,E0,.bool x0,F0] 109,.obj c0 (ay b0),.cells p0 zL 34] ++ L) [E0] H0/\Rep.R c1 (bl [.obj P0 (aC c0 b0.length A0),.cells M0 [.bool v0,E0,.bool x0,F0] 109,.obj c0 (ay b0),.cells p0 zL 34] ++ L) [F0] I0) (fun ⟨v0,H0,x0,I0,A0,E0,F0⟩=>(v0,H0,x0,I0)) (J0.fh.fc,J0.fh.fj,J0.fe.fc,J0.fe.fj,#[],I2,J2) h ⟨rfl,rfl,rfl,trivial⟩ ⟨y5,Tr.refl _ _,(cn _),(Ag G3 (Tt q2 s2)),(Ag H3 (Tt q2 s2))⟩ ?_
 rintro s4 ⟨v0,H0,x0,I0,A0,E0,F0⟩ c1 G7 R2 ⟨z5,u2,q6,E2,F2⟩ u6 Z5
 refine Af<|RG.nextR (W:=b0) (BE p4 (Tt M5 (Tt p2 (Tt q2 (Tt s2 u2))))) z5 .t2 (fun _=>.hd) I I q6 (fun P9 v6 W0 v3=>?_) (fun Q9 q4 R0 s8 u4 j6 P6 z6 z3 W2 x1=>?_)
 have h:=u6 v6
 try dsimp only at h
 refine Ab (Ac I I)<|Aa<|Ak<|BG I<|Bd I<|Af<|Ab (AF I (W0.memA .t1))<|bk h fun K1 k7 h=>Bo (.tuple #[.agg ((aa K1.1)).toArray,vI K1.2]) (bd 77) I (e1 I) (fun w9 hw9=>ak_c n (W0.hL0 hL hw9) (⟨(⟨v0,H0⟩:Td),(⟨x0,I0⟩:Td)⟩:Tc) (W0.kd (Ag E2 v3) hw9) (W0.kd (Ag F2 v3) hw9) k7) I<|Ab (Ac I I)<|Ab (Ac I I)<|AQ (aa K1.1) W0 .t3 (ak I) fun R9 X2 y8=>Ai I<|Aa<|Au I<|Aq hb0 func25 I (.cons (.many (cs:=(aa K1.1)) I I (X2.memA .t3)) (.cons (.tmp I) .nil)) I ?_
 cases h
 exact X2.gv
 obtain ⟨v4,x7,rfl,Q6,R6⟩:=cp P6
 have h:=Z5 _ _ z6
 unfold bQ at h
 try dsimp only at h
 refine Ab (Ac I I)<|Aa<|Ak<|AW I<|Ar<|Aw<|Af<|Ab (FV.entry (D:=b0) W2 .t2 .hd j6 I)<|Ab (Ac I I)<|RG.nl [.bool false,vN,.bool false,vN] W2 fun U9 X7 A5 y1=>?_
 have I3:=Ag Q6 (Tt x1 y1)
 have J3:=Ag R6 (Tt x1 y1)
 refine AQ [.bool R0.2.fh.fc,v4,.bool R0.2.fe.fc,x7] A5 .hd (o4 I (AE I3) I (AE J3)) fun V9 G0 z1=>Aa<|Af<|BB 0 I<|Ab (AZ (cs:=[.bool R0.2.fh.fc,v4]) I I (aj (G0.memA .hd) 0 2))<|bk h fun C4 p7 h=>?_
 have K3:=Ag I3 z1
 refine Bo (vI C4) (bd 67) I (e1 I) (fun w9 hw9=>aI_c n (G0.hL0 hL hw9) R0.2.fh (G0.kd K3 hw9) p7) I<|Ab (FV.gtr (i:=C4) (j:=0) I I)<|Aa<|Bb I h (fun G4 h=>?_) (fun G4 h=>?_)
 refine Ap<|Ab (AF I (G0.memA .t2))<|Ab (AF I (G0.memA .hd))<|bk h fun Q0 q7 h=>?_
 have D2:=Tt x1 (Tt y1 z1)
 refine jE (bd 81) I (e2 I I) (fun w9 hw9=>ae_c n (G0.hL hL hw9) (⟨(⟨v0,H0⟩:Td),(⟨x0,I0⟩:Td)⟩:Tc) (Ah (Ag E2 D2) hw9) (Ah (Ag F2 D2) hw9) R0.2 (Ah K3 hw9) (Ah (Ag J3 z1) hw9) q7) I fun W9 Q8 Y5 ⟨x4,y4,hu_,g4,j4⟩=>?_
 subst hu_
 obtain ⟨B5,P5⟩:=G0.agr Y5
 refine AQ [.bool Q0.fh.fc,x4,.bool Q0.fe.fc,y4] B5 .t2 (o4 I (AE g4) I (AE j4)) fun X9 H4 W1=>Aa<|Ay ?_
 obtain ⟨I4,X1⟩:=AA H4 .d1
 exact R2 u4 (Q0.fh.fc,Q0.fh.fj,Q0.fe.fc,Q0.fe.fj,(A0.push q4),x4,y4) _ _ ⟨I,I,I,trivial⟩ ⟨I4,(Tt u2 (Tt D2 (Tt P5 (Tt W1 X1)))),z3,(Ag g4 (Tt W1 X1)),(Ag j4 (Tt W1 X1))⟩ h
 refine Ar<|Ay ?_
 obtain ⟨J4,C5⟩:=AA G0 .d1
 have A2:=Tt x1 (Tt y1 (Tt z1 C5))
 exact R2 u4 (v0,H0,x0,I0,(A0.push q4),E0,F0) _ _ ⟨I,I,I,trivial⟩ ⟨J4,(Tt u2 A2),z3,(Ag E2 A2),(Ag F2 A2)⟩ h
 refine Af<|Ab (AI (vs:=[]) (u:=.agg zM) ao (fun w9=>by kernel_rfl))<|Ae I<|AQ zL K0 .t1 (ak I) fun R8 U2 t8=>Ai I<|Aa<|Au I<|Aq hb0 func25 I (.cons (.many (cs:=zL) I I (U2.memA .t1)) (.cons (.tmp I) .nil)) I ?_
 cases h
 exact U2.gv
def br_p (n:Nat) (a0:Tc) (a1:Tc):Oa Tc:=
  (aD_p n a0.fh a1.fe).bind fun b0=>(aD_p n a0.fe a1.fh).bind fun c0=>(aZ_p n b0 c0).bind fun d0=>some d0
theorem br_c (n:Nat) {L w} (hL:hl L w) (a0:Tc) {v0_1:Vc} (h0_1:Rep.R w L [v0_1] a0.fh.fj) {v0_3:Vc} (h0_3:Rep.R w L [v0_3] a0.fe.fj) (a1:Tc) {v1_1:Vc} (h1_1:Rep.R w L [v1_1] a1.fh.fj) {v1_3:Vc} (h1_3:Rep.R w L [v1_3] a1.fe.fj)  {r:Tc} (h:br_p n a0 a1 = some r) :
 Cl 90 #[.agg #[.bool a0.fh.fc,v0_1,.bool a0.fe.fc,v0_3],.agg #[.bool a1.fh.fc,v1_1,.bool a1.fe.fc,v1_3]] w (ar w fun w' u=>∃ v0_1 v0_3:Vc,u = .agg #[.bool r.fh.fc,v0_1,.bool r.fe.fc,v0_3]/\Rep.R w' L [v0_1] r.fh.fj/\Rep.R w' L [v0_3] r.fe.fj):=by
 unfold br_p at h
 refine AT func90 I I I fun _ cs0 hb0=>Af<|RG.bx (AS w) I I fun g1 M0 x0 R0=>RG.bx x0 I I fun j1 P0 y0 U0=>RG.nl [.bool false,vN,.bool false,vN] y0 fun k1 Q0 c0 V0=>Aa<|Ak<|du 11 fun b0 d0=>Rv 0 b0 I d0 (fun _=>Bw 0 I)<|Rx 1 3600 b0 I d0 (AZ (cs:=[.bool a0.fh.fc,v0_1]) I I (aj (c0.memA .t2) 0 2))<|Rv 2 b0 I d0 (fun _=>Bw 2 I)<|Rx 3 3600 b0 I d0 (AZ (cs:=[.bool a1.fe.fc,v1_3]) I I (aj (c0.memA .t1) 2 2))<|Rv 5 b0 I d0 (fun _=>Bw 2 I)<|Rx 6 3584 b0 I d0 (AZ (cs:=[.bool a0.fe.fc,v0_3]) I I (aj (c0.memA .t2) 2 2))<|Rv 7 b0 I d0 (fun _=>Bw 0 I)<|Rx 8 3584 b0 I d0 (AZ (cs:=[.bool a1.fh.fc,v1_1]) I I (aj (c0.memA .t1) 0 2))<|bk h fun J0 G0 h=>AU 4 511 b0 I .plain (bd 136) I (e2 I I) (fun w9 hw9=>aD_c n (c0.hL hL hw9) a0.fh (c0.km h0_1 hw9) a1.fe (c0.km h1_3 hw9) G0) I fun p1 b1 B0 ⟨Y0,hu_,E0⟩=>?_
 subst hu_
 obtain ⟨g0,W0⟩:=c0.agr B0
 refine bk h fun K0 H0 h=>AU 9 1023 b0 I .plain (bd 136) I (e2 I I) (fun w9 hw9=>aD_c n (g0.hL hL hw9) a0.fe (g0.km h0_3 hw9) a1.fh (g0.km h1_1 hw9) H0) I fun q1 c1 C0 ⟨Z0,hu_,F0⟩=>?_
 subst hu_
 obtain ⟨s0,A0⟩:=g0.agr C0
 refine bk h fun k0 I0 h=>AU 10 2047 b0 I .plain (bd 140) I (e2 I I) (fun w9 hw9=>aZ_c n (s0.hL hL hw9) J0 (Ah (Ag E0 A0) hw9) K0 (Ah F0 hw9) I0) I fun s1 d1 D0 ⟨p0,q0,hu_,u0,v0⟩=>?_
 subst hu_
 obtain ⟨z0,X0⟩:=s0.agr D0
 refine BF 11 4095 b0 I I .plain (AJ (news:=[.bool k0.fh.fc,p0,.bool k0.fe.fc,q0]) z0 .hd I I I I I I (o4 I (AE u0) I (AE v0))) fun u1 j0 t0=>AN (dk b0)<|Au I<|Aq hb0 func90 I (.cons (.many (cs:=[.bool k0.fh.fc,p0,.bool k0.fe.fc,q0]) I I (j0.memA .hd)) .nil) I ?_
 cases h
 exact ⟨j0.ag,fun w9 hw9=>⟨p0,q0,I,j0.kd (Ag u0 t0) hw9,j0.kd (Ag v0 t0) hw9⟩⟩
def cr (n:Nat) (c0:Ta × Tc) (g0:(List Tb) × Bool -> Oa ((List Tb) × Int)):(List Tb) × Bool -> Oa ((List Tb) × Int)
  | (p0,j0)=>(ak_p n c0.2).bind fun d0=>jn (fun k0=>(app p0 ([(⟨c0.1,d0.1⟩:Tb)]:List Tb)).bind fun q0=>g0 (q0,k0)) (fun b0=>(if d0.2 = 0 then b0 j0 else b0 true))
def aM_l1 (n:Nat) (a0:List Ta) (j0:Tc) (g0:Nat × (List (Ta × Tc)) -> Oa (List (Ta × Tc))):Nat × (List (Ta × Tc)) -> Oa (List (Ta × Tc))
  | (c0,b0)=>(if c0 < a0.length then (a0[c0]?).bind fun d0=>dh (bc b0 d0) (g0 (c0 + 1,aB b0 d0 j0)) (fun k0=>(ae_p n j0 k0).bind fun p0=>g0 (c0 + 1,aB b0 d0 p0)) else some b0)
def aM_p (n:Nat) (a0:List Ta):Oa ((List Tb) × Int):=
  (if 400 < a0.length then some (([]:List Tb),(3:Int)) else (aq_p n ([]:List (List Tb)) a0).bind fun y4=>(if y4 = 0 then (if a0.length = 0 then some (([]:List Tb),(4:Int)) else (aB_p n (1:Int)).bind fun j0=>(aB_p n ((a0.length:Nat):Int)).bind fun k0=>(br_p n j0 k0).bind fun p0=>Option.bind (az (aM_l1 n a0 p0) n (0,([]:List (Ta × Tc)))) (fun b0=>(if 400 < b0.length then some (([]:List Tb),(3:Int)) else mloop (fun (c0,d0)=>(if d0 = true then some (([]:List Tb),(6:Int)) else (aQ_p n (ai ((c0.length:Nat):Int))).bind fun q0=>(de (fun x9 y9=>aj_p n x9 y9) q0 c0).bind fun g0=>some (g0,(0:Int)))) (cr n) n b0 (([]:List Tb),false)))) else some (([]:List Tb),y4)))
theorem aM_c (n:Nat) {L w} (hL:hl L w) {a0:List Ta} {v0_0:Vc} (h0_0:Rep.R w L [v0_0] a0)  {r:(List Tb) × Int} (h:aM_p n a0 = some r) :
 Cl 26 #[v0_0] w (ar w fun w' u=>∃ v0_0:Vc,u = .tuple #[v0_0,vI r.2]/\Rep.R w' L [v0_0] r.1):=by
 unfold aM_p at h
 have hS0:=AS w
 refine AT func26 I I I fun _ cs0 hb0=>Af<|Ai I<|Ai I<|Aa<|Ak<|Af<|Ae I ?_
 have hl1:=Bg h0_0
 refine Ab (Bh (xs:=a0) underlying51 I h0_0)<|Ab (FV.gtrN (i:=a0.length) (j:=400) I I)<|Aa<|Bb I h (fun c2 h=>?_) (fun c2 h=>?_)
 refine Af<|Ai I<|Ai I<|Aa<|Au I ?_
 have hr3:=Bq (α:=Tb) hS0 L
 refine Aq hb0 func26 I (.cons (.tmp I) (.cons (.tmp I) .nil)) I ?_
 cases h
 exact ⟨hS0.ag,fun w9 hw9=>⟨vN,I,hS0.kd hr3 hw9⟩⟩
 refine Ar<|Ak<|Af<|Ae I<|bk h fun y4 hy4 h=>Bo (vI y4) (bd 63) I (e2 I I) (fun w9 hw9=>aq_c n (hS0.hL0 hL hw9) (Ah (Rep.nilSlice _ _) hw9) (hS0.kd h0_0 hw9) hy4) I<|Ai I<|Aa<|Af<|Ae I<|Ab (BM (i:=y4) (j:=0) I I)<|Aa<|MX.ifn I h (fun c5 h=>?_) (fun c5 h=>?_)
 refine Ar<|Ak<|Af<|Ae I<|Ab (Bh (xs:=a0) underlying51 I h0_0)<|Ab (FV.eqlN (i:=a0.length) (j:=0) I I)<|Aa<|Bb I h (fun c6 h=>?_) (fun c6 h=>?_)
 refine Af<|Ai I<|Ai I<|Aa<|Au I ?_
 have hr7:=Bq (α:=Tb) hS0 L
 refine Aq hb0 func26 I (.cons (.tmp I) (.cons (.tmp I) .nil)) I ?_
 cases h
 exact ⟨hS0.ag,fun w9 hw9=>⟨vN,I,hS0.kd hr7 hw9⟩⟩
 refine Ar<|Af<|Am .plain I (Does.makeMap (κ:=Ta) (ν:=List Vc) hS0) fun V6 c0 X1 A6=>?_
 have C5:=MR.at_ (Z:=([]:List (Ta × List Vc))) (M:=([]:List (Ta × Tc))) X1 L trivial
 refine Ab (AI (vs:=[.map (some c0)]) (u:=.agg #[.map (some c0),.bool false]) (e1 I) (fun w9=>by kernel_rfl))<|RG.bx X1 I I fun W6 x0 Y1 H3=>Ai I<|Aa<|Af<|bk h fun P5 v5 h=>jE (bd 71) I (e1 I) (fun w9 hw9=>aB_c n (Y1.hL hL hw9)  v5) I fun X6 P6 j4 ⟨I6,J6,hu_,K4,P4⟩=>?_
 subst hu_
 obtain ⟨b1,I3⟩:=Y1.agr j4
 refine Ae I<|Ab (Bh (xs:=a0) underlying51 I (AO h0_0 b1))<|bk h fun Q5 x5 h=>jE (bd 71) I (e1 I) (fun w9 hw9=>aB_c n (b1.hL hL hw9)  x5) I fun j7 Q6 k4 ⟨K6,M6,hu_,W4,X4⟩=>?_
 subst hu_
 obtain ⟨Z1,A1⟩:=b1.agr k4
 refine bk h fun b0 z5 h=>jE (bd 90) I (e2 I I) (fun w9 hw9=>br_c n (Z1.hL hL hw9) P5 (Ah (Ag K4 A1) hw9) (Ah (Ag P4 A1) hw9) Q5 (Ah W4 hw9) (Ah X4 hw9) z5) I fun v7 U6 q4 ⟨s0,t0,hu_,Y4,Z4⟩=>?_
 subst hu_
 obtain ⟨u3,K3⟩:=Z1.agr q4
 refine RG.nl [.bool false,vN,.bool false,vN] u3 fun x7 D0 v3 B1=>?_
 have H1:=Ag Y4 B1
 have I1:=Ag Z4 B1
 refine AQ [.bool b0.fh.fc,s0,.bool b0.fe.fc,t0] v3 .hd (o4 I (AE H1) I (AE I1)) fun z7 j2 C1=>Aa<|Ak<|Af<|Ae I<|Ab (Bh (xs:=a0) underlying51 I (AO h0_0 j2))<|Ae I<|Aa<|Aw ?_
 obtain ⟨H6,I4,A4⟩:=aw h
 refine MX.lf (α:=Nat × (List (Ta × Tc)) × (List (Ta × List Vc))) (fun ⟨q0,y0,d0⟩=>[(5,vP x0),(6,vP D0),(28,v0_0),(29,vn a0.length),(30,vn q0)]) (fun ⟨q0,y0,d0⟩=>[.cells D0 [.bool b0.fh.fc,s0,.bool b0.fe.fc,t0] 109,.cells x0 [.map (some c0),.bool false] 126,.obj c0 (ay d0)]) (fun ⟨q0,y0,d0⟩ M2=>MR M2 (bl [.cells D0 [.bool b0.fh.fc,s0,.bool b0.fe.fc,t0] 109,.cells x0 [.map (some c0),.bool false] 126,.obj c0 (ay d0)] ++ L) d0 y0) (fun ⟨q0,y0,d0⟩=>(q0,y0)) (0,([]:List (Ta × Tc)),([]:List (Ta × List Vc))) I4 j2 (BE C5 (Tt H3 (Tt I3 (Tt A1 (Tt K3 (Tt B1 C1)))))) ?_
 rintro V5 ⟨q0,y0,d0⟩ M2 V1 A0 V0 M1 h
 unfold aM_l1 at h
 try dsimp only at h
 refine Af<|Ab (AY (i:=q0) (j:=a0.length) I I)<|Aa<|Ak<|Bb I h (fun R2 h=>?_) (fun R2 h=>?_)
 refine Ar<|Ak<|Aw<|Af<|bk h fun p0 q5 h=>?_
 obtain ⟨R5,p6,x4,C4,s6,M4,F4⟩:=Bv (AO h0_0 A0) q5
 obtain rfl:=dH M4
 refine Ab (BJ 16 q0 I x4 I I C4)<|Ab (AF I F4)<|RG.nl zL A0 fun Y6 Y5 Z2 s1=>AQ (aa p0) Z2 .hd (ak I) fun Z6 Q0 u1=>Aa<|du 6 fun z0 H0=>Rv 0 z0 I H0 (fun _=>Aj I)<|Rv 1 z0 I H0 (fun _=>Bf I)<|Rv 2 z0 I H0 (fun _=>Bw 0 I)<|Rx 3 64 z0 I H0 (Bx I ((Q0.memA .t2) 0 _ I))<|Rx 4 64 z0 I H0 (AF I (Q0.memA .hd))<|Rx 5 64 z0 I H0 (AF I (Q0.memA .t1))<|BK (i:=6) (rk z0) (RO.enterPT (m' :=127) (fst:=[]) (cap:=[]) (vs:=[.map (some c0),.agg ((aa p0)).toArray,.agg #[.bool b0.fh.fc,s0,.bool b0.fe.fc,t0]]) (sk z0) I I .plain (bd 88) func88 I I I I (e3 I I I) I (fun _ u6 y2 E6=>?_))
 refine Af<|RG.bx Q0 I I fun b7 Z5 b3 v1=>RG.bx b3 I I fun c7 b6 J0 x1=>Aa<|Ak<|Af<|Ae I<|Ab (AF I (J0.memA .t1)) ?_
 have J1:=Tt s1 (Tt u1 (Tt v1 x1))
 have G1:=BE M1 J1
 rcases MR.get p0 G1 with ⟨F1,P1⟩ | ⟨v6,Q1,P1,F1,Q4⟩
 have h:=cw h F1
 refine Ab (FV.lookupK (kv:=p0) (q:=false) au J0 .t5 underlying124 (z:=.agg #[.bool false,vN,.bool false,vN]) I I I (.inl ⟨P1,I,I⟩))<|Ae I<|Ab (Ac I I)<|Ab (Ac I I)<|RG.nl [.bool false,vN,.bool false,vN] J0 fun d7 d6 c3 y1=>AQ [.bool false,vN,.bool false,vN] c3 .hd (ak I) fun g7 c1 z1=>Ai I<|Aa<|Af<|Ae I<|Aa<|BG I<|Ar<|Ap<|Ae I<|Ab (AF I (c1.memA .t2))<|Ab (AF I (c1.memA .t1)) ?_
 have E2:=Tt C1 (Tt V0 (Tt s1 (Tt u1 (Tt v1 (Tt x1 (Tt y1 z1))))))
 refine RG.now .plain (BA (kv:=p0) (vv:=[.bool b0.fh.fc,s0,.bool b0.fe.fc,t0]) au c1 .t6 underlying124 I I I) fun k7 g3 k2=>Aa<|MX.fin I<|Aq (u:=.tuple #[]) y2 func88 I .nil I<|AN (dk z0)<|Ay<|Ap<|Ab (Bj (i:=q0) (j:=1) I I (by omega))<|Ae I<|Aa ?_
 obtain ⟨j3,p2⟩:=AA g3 .d4
 exact V1 (q0 + 1,aB y0 p0 b0,(aB d0 p0 [.bool b0.fh.fc,s0,.bool b0.fe.fc,t0])) j3 (Tt V0 (Tt J1 (Tt y1 (Tt z1 (Tt k2 p2))))) (BE (MR.set (k:=p0) (c:=[.bool b0.fh.fc,s0,.bool b0.fe.fc,t0]) (y:=b0) (bT b0.fh (Ag H1 E2) b0.fe (Ag I1 E2)) (BE G1 (Tt y1 z1))) (Tt k2 p2)) h
 have h:=ct h F1
 obtain ⟨E5,F5,rfl,R4,U4⟩:=cp Q4
 refine Ab (FV.lookupK (kv:=p0) (q:=true) au J0 .t5 underlying124 (z:=.agg #[.bool false,vN,.bool false,vN]) I I I (.inr ⟨_,P1,I,I⟩))<|Ae I<|Ab (Ac I I)<|Ab (Ac I I)<|RG.nl [.bool false,vN,.bool false,vN] J0 fun p7 g6 k3 M0=>?_
 have A2:=Ag R4 M0
 have B2:=Ag U4 M0
 refine AQ [.bool Q1.fh.fc,E5,.bool Q1.fe.fc,F5] k3 .hd (o4 I (AE A2) I (AE B2)) fun q7 R0 P0=>Ai I<|Aa<|Af<|Ae I<|Aa<|AW I<|Ap<|Ab (AF I (R0.memA .t1))<|Ab (AF I (R0.memA .hd))<|bk h fun v0 y5 h=>?_
 have F2:=Tt C1 (Tt V0 (Tt s1 (Tt u1 (Tt v1 (Tt x1 (Tt M0 P0))))))
 refine jE (bd 81) I (e2 I I) (fun w9 hw9=>ae_c n (R0.hL hL hw9) b0 (Ah (Ag H1 F2) hw9) (Ah (Ag I1 F2) hw9) Q1 (Ah (Ag A2 P0) hw9) (Ah (Ag B2 P0) hw9) y5) I fun s7 R6 p4 ⟨X0,Y0,hu_,H2,I2⟩=>?_
 subst hu_
 obtain ⟨p3,q2⟩:=R0.agr p4
 refine AQ [.bool v0.fh.fc,X0,.bool v0.fe.fc,Y0] p3 .t1 (o4 I (AE H2) I (AE I2)) fun t7 g1 W0=>Aa<|Ap<|Ae I<|Ab (AF I (g1.memA .t2))<|Ab (AF I (g1.memA .t1))<|RG.now .plain (BA (kv:=p0) (vv:=[.bool v0.fh.fc,X0,.bool v0.fe.fc,Y0]) au g1 .t6 underlying124 I I I) fun u7 q3 s2=>Aa<|MX.fin I<|Aq (u:=.tuple #[]) y2 func88 I .nil I<|AN (dk z0)<|Ay<|Ap<|Ab (Bj (i:=q0) (j:=1) I I (by omega))<|Ae I<|Aa ?_
 obtain ⟨s3,u2⟩:=AA q3 .d4
 exact V1 (q0 + 1,aB y0 p0 v0,(aB d0 p0 [.bool v0.fh.fc,X0,.bool v0.fe.fc,Y0])) s3 (Tt V0 (Tt J1 (Tt M0 (Tt P0 (Tt q2 (Tt W0 (Tt s2 u2))))))) (BE (MR.set (k:=p0) (c:=[.bool v0.fh.fc,X0,.bool v0.fe.fc,Y0]) (y:=v0) (bT v0.fh (Ag H2 W0) v0.fe (Ag I2 W0)) (BE G1 (Tt M0 (Tt P0 (Tt q2 W0))))) (Tt s2 u2)) h
 refine Bd I ?_
 have h:=A4 _ h
 try dsimp only at h
 refine Af<|Ae I<|Bs (fst:=[]) (cap:=[]) (vs:=[vP x0]) .plain (bd 87) func87 I I I I (e1 I) I fun x6 E1 F6=>Af<|Ai I<|Ai I<|Aa<|Ak<|Af<|Ae I<|Ab (Bf I)<|BB 0 I<|BH I ((A0.memA .t1) 0 _ I)<|Ab (FV.as (FV.len_map (D:=d0) A0 .t2 underlying124 I) (congrArg (fun n9:Nat=>Value.int .i64 (n9:Int)) (MR.len M1)))<|Ab (FV.gtrN (i:=y0.length) (j:=400) I I)<|Aa<|Bb I h (fun U2 h=>?_) (fun U2 h=>?_)
 refine Af<|Ai I<|Ai I<|Aa<|Au I<|Aq (u:=.tuple #[vN,vI 3]) E1 func87 I (.cons (.tmp I) (.cons (.tmp I) .nil)) I<|Ab (Ac I I)<|Ab (Ac I I)<|Ai I<|Ai I<|Aa<|Au I ?_
 have V4:=Bq (α:=Tb) A0 L
 refine Aq hb0 func26 I (.cons (.tmp I) (.cons (.tmp I) .nil)) I ?_
 cases h
 exact ⟨A0.ag,fun w9 hw9=>⟨vN,I,A0.kd V4 hw9⟩⟩
 refine Ar<|Af<|Ai I<|Aa<|Ak<|Af<|Ae I<|Ab (Bf I)<|BB 0 I<|BH I ((A0.memA .t1) 0 _ I)<|Am .plain I (Does.range (D:=d0) A0 .t2 underlying124 I) fun J5 G0 b2 J3=>Aa<|Aw ?_
 have d2:=b2.nilRow 37 (Rep.size Tb)
 refine MX.mloop (α:=(List Tb) × Bool × Vc × (List Vc) × (Array Nat)) (fun ⟨u0,B0,k0,E0,C0⟩=>[(0,vP x0),(4,k0),(19,vP G0)]) (fun K2 ⟨u0,B0,k0,E0,C0⟩ Z0=>St w Z0 [rr w 37 Tb k0 u0.length E0,.obj G0 (aC c0 d0.length C0),.cells D0 [.bool b0.fh.fc,s0,.bool b0.fe.fc,t0] 109,.cells x0 [.map (some c0),.bool B0] 126,.obj c0 (ay d0)]/\Tr J5 [rr w 37 Tb vN (([]:List Tb).length) [],.obj G0 (aC c0 d0.length #[]),.cells D0 [.bool b0.fh.fc,s0,.bool b0.fe.fc,t0] 109,.cells x0 [.map (some c0),.bool false] 126,.obj c0 (ay d0)] Z0 [rr w 37 Tb k0 u0.length E0,.obj G0 (aC c0 d0.length C0),.cells D0 [.bool b0.fh.fc,s0,.bool b0.fe.fc,t0] 109,.cells x0 [.map (some c0),.bool B0] 126,.obj c0 (ay d0)]/\Cells Z0 (bl [rr w 37 Tb k0 u0.length E0,.obj G0 (aC c0 d0.length C0),.cells D0 [.bool b0.fh.fc,s0,.bool b0.fe.fc,t0] 109,.cells x0 [.map (some c0),.bool B0] 126,.obj c0 (ay d0)] ++ L) E0 u0/\left y0 C0 = K2) (fun ⟨u0,B0,k0,E0,C0⟩=>(u0,B0)) (([]:List Tb),false,vN,[],#[]) h ⟨rfl,rfl,rfl,trivial⟩ ⟨d2,Tr.refl _ _,(AC (cs:=[]) (xs:=([]:List Tb)) d2 L (AH _ _)),(cn _)⟩ ?_
 rintro K2 ⟨u0,B0,k0,E0,C0⟩ Z0 W5 Y2 ⟨x3,v2,z2,D4⟩ G4 v4
 refine Af<|RG.nextR (W:=d0) (BE M1 (Tt J3 (Tt (St.nilRowT b2 37 (Rep.size Tb)) v2))) x3 .t4 (fun _=>.t1) I I D4 (fun y7 H4 F0 M3=>?_) (fun A7 J2 g0 y6 D5 B4 b5 J4 E4 g2 P3=>?_)
 have h:=G4 H4
 try dsimp only at h
 refine Ab (Ac I I)<|Aa<|Ak<|BG I<|Bd I<|Ak<|Af<|Ae I<|Ab (Bf I)<|BB 1 I<|BH I ((F0.memA .t3) 1 _ I)<|Aa<|MX.ifb I h (fun V2 h=>?_) (fun V2 h=>?_)
 refine Af<|Ai I<|Ai I<|Aa<|Au I<|Aq (u:=.tuple #[vN,vI 6]) E1 func87 I (.cons (.tmp I) (.cons (.tmp I) .nil)) I<|Ab (Ac I I)<|Ab (Ac I I)<|Ai I<|Ai I<|Aa<|Au I ?_
 have d5:=Bq (α:=Tb) F0 L
 refine Aq hb0 func26 I (.cons (.tmp I) (.cons (.tmp I) .nil)) I ?_
 cases h
 exact ⟨F0.ag,fun w9 hw9=>⟨vN,I,F0.kd d5 hw9⟩⟩
 refine Ar<|Af<|Ae I<|Bs (fst:=[]) (cap:=[]) (vs:=[k0,.func (.func 144) #[] #[]]) .plain (bd 143) func143 I I I I (e2 I I) I fun z6 s4 G6=>Af<|Ae I ?_
 have D6:u0.length <= 4294967296:=St.rowLe (α:=Tb) F0 .hd
 obtain ⟨U5,q6,z4⟩:=St.rowV (α:=Tb) F0 .hd
 refine Ab (FV.lenV underlying24 I z4)<|Ai I<|Aa<|Ap<|Ae I<|Ae I<|Ae I<|Ab (FV.convU (i:=((u0.length:Nat):Int)) underlying3 underlying193 I)<|bk h fun Q2 A5 h=>Bo (vI Q2) (bd 174) I (e1 I) (fun w9 hw9=>aQ_c n (F0.hL0 hL hw9) (ai ((u0.length:Nat):Int)) A5) I<|Ae I<|bk h fun P2 s5 h=>RG.sort (enc:=aA) (ρ:=Tryz.srt173_ren) (c:=(fun x9 y9=>aj_p n x9 y9)) (li:=Q2) s5 I (fun _ _ _ _ h9=>aY h9) (fun w9 L9 z9=>bg (w:=w9) (L:=L9) z9.fm z9.fP) Tryz.srt173 (fun w9=>Tryz.isAgg37 w9) (fun w9=>Tryz.sizeOf37 w9) (enters_of func144 I I) (fun x9 y9 r9 w9 h9=>aj_c n (L:=[]) (w:=w9) (fun _ h8=>nomatch h8) x9 y9 h9) .plain (bd 173) I (e5 I I I I I) I F0 (AK z2 M3) .hd fun K5 U0 B6=>Aa<|MX.fin I<|Aq (u:=.tuple #[]) s4 func143 I .nil I<|Aa<|Af<|Ae I<|Ai I<|Ai I<|Aa<|Au I<|Aq (u:=.tuple #[k0,vI 0]) E1 func87 I (.cons (.tmp I) (.cons (.tmp I) .nil)) I<|Ab (Ac I I)<|Ab (Ac I I)<|Ai I<|Ai I<|Aa<|Au I ?_
 have j1:=Bl U0 .hd
 have C6:=Bm U0 .hd
 have g5:=Bn (α:=Tb) (v:=k0) (xs:=P2) j1 L (Ba (α:=Tb) U0 .hd (AC U0 L (bp (α:=Tb) (enc:=aA) (fun w9 L9 z9=>bg (w:=w9) (L:=L9) z9.fm z9.fP) K5 _ P2)) hL)
 refine Aq hb0 func26 I (.cons (.tmp I) (.cons (.tmp I) .nil)) I ?_
 cases h
 exact ⟨j1.ag,fun w9 hw9=>⟨k0,I,j1.kd g5 hw9⟩⟩
 obtain ⟨G5,H5,rfl,j5,k5⟩:=cp b5
 have h:=v4 _ _ J4
 unfold cr at h
 try dsimp only at h
 refine Ab (Ac I I)<|Aa<|Ak<|AW I<|Ar<|Aw<|Af<|Ab (FV.entry (D:=d0) g2 .t4 .t1 B4 I)<|Ab (Ac I I)<|Ab (Ac I I)<|RG.nl zL g2 fun B7 R1 y3 Q3=>RG.nl [.bool false,vN,.bool false,vN] y3 fun C7 j6 z3 R3=>AQ (aa g0.1) z3 .t1 (ak I) fun D7 A3 U3=>?_
 have K1:=Tt P3 (Tt Q3 (Tt R3 U3))
 have C2:=Ag j5 K1
 have D2:=Ag k5 K1
 refine AQ [.bool g0.2.fh.fc,G5,.bool g0.2.fe.fc,H5] A3 .hd (o4 I (AE C2) I (AE D2)) fun E7 K0 D1=>Aa<|Af<|Ab (AF I (K0.memA .hd))<|bk h fun j0 B5 h=>Bo (.tuple #[.agg ((aa j0.1)).toArray,vI j0.2]) (bd 77) I (e1 I) (fun w9 hw9=>ak_c n (K0.hL0 hL hw9) g0.2 (K0.kd (Ag C2 D1) hw9) (K0.kd (Ag D2 D1) hw9) B5) I<|Ae I<|Ab (Ac I I)<|Ab (Ac I I)<|RG.nl zL K0 fun F7 U1 B3 V3=>AQ (aa j0.1) B3 .hd (ak I) fun G7 k1 W3=>Ai I<|Aa<|Ak<|Af<|Ae I<|Ab (BM (i:=j0.2) (j:=0) I I)<|Aa<|MX.jo (α:=Bool) (fun I0=>[(0,vP x0),(4,k0),(19,vP G0),(5,vP R1),(7,vP U1)]) (fun I0=>[.cells U1 (aa j0.1) 34,.cells R1 (aa g0.1) 34,rr w 37 Tb k0 u0.length E0,.obj G0 (aC c0 d0.length (C0.push J2)),.cells D0 [.bool b0.fh.fc,s0,.bool b0.fe.fc,t0] 109,.cells x0 [.map (some c0),.bool I0] 126,.obj c0 (ay d0)]) (fun I0=>I0) k1 h ?_ ?_
 rintro I0 K7 p1 X3 h
 try dsimp only at h
 refine Ap<|Ae I<|Ab (AF I (p1.memA .t1))<|Ab (AF I (p1.memA .hd))<|Ab (AI (vs:=[.agg ((aa g0.1)).toArray,.agg ((aa j0.1)).toArray]) (u:=.agg ((aa g0.1 ++ aa j0.1)).toArray) (e2 I I) (fun w9=>by kernel_rfl))<|Am .plain I (AG (α:=Tb) (xs:=([(⟨g0.1,j0.1⟩:Tb)]:List Tb)) (vs:=[.agg ((aa g0.1 ++ aa j0.1)).toArray]) (ds' :=(aa g0.1 ++ aa j0.1)) I p1 dq I (e1 I) (by kernel_rfl) I) fun H7 k6 q1 Y3=>bk h fun M5 u5 h=>?_
 have G2:=Tt K1 (Tt D1 (Tt V3 (Tt W3 (Tt X3 Y3))))
 refine BN .plain I (Bz (α:=Tb) (ys:=([(⟨g0.1,j0.1⟩:Tb)]:List Tb)) u5 q1 (fun _ _=>.t3) dq I I (AK z2 G2) (Src.row (α:=Tb) q1 .hd (AC (cs:=(aa g0.1 ++ aa j0.1)) (xs:=(([(⟨g0.1,j0.1⟩:Tb)]:List Tb):List Tb)) q1 L (Ao (cs:=(aa g0.1 ++ aa j0.1)) (ds:=[]) (bg g0.1 j0.1) (AH _ _))))) fun I5 I7 ⟨X2,C3,Z3,u4⟩=>Ai I<|Aa<|Ay ?_
 obtain ⟨D3,x2⟩:=AA C3 .d3
 exact Y2 D5 (M5,I0,I5,X2,(C0.push J2)) _ _ ⟨I,I,I,trivial⟩ ⟨D3,(Tt v2 (Tt G2 (Tt Z3 x2))),(AK u4 x2),E4⟩ h
 intro X5 W1 h
 try dsimp only at h
 refine MX.ifn I h (fun W2 h=>?_) (fun W2 h=>?_)
 refine Ar ?_
 obtain ⟨E3,b4⟩:=AA k1 (.a0 .d1)
 exact W1 B0 E3 b4 h
 refine Ap<|Ae I<|Ab (Bf I)<|BB 1 I<|RG.now .plain (BL (j:=1) (old:=[.map (some c0),.bool B0]) (news:=[.bool true]) (new' :=[.map (some c0),.bool true]) k1 .t6 I I I I I I (o1 I) I) fun J7 F3 c4=>Aa ?_
 obtain ⟨G3,g4⟩:=AA F3 (.a0 .d1)
 exact W1 true G3 (Tt c4 g4) h
 refine Af<|Ae I<|Ai I<|Ai I<|Aa<|Au I ?_
 have p5:=Bq (α:=Tb) hS0 L
 refine Aq hb0 func26 I (.cons (.tmp I) (.cons (.tmp I) .nil)) I ?_
 cases h
 exact ⟨hS0.ag,fun w9 hw9=>⟨vN,I,hS0.kd p5 hw9⟩⟩

def bv_l1 (n:Nat) (a0:List Tb) (a1:Ta) (z0:Nat × Bool × (List Ua) × Bool × (List Ua) × Bool × (List Ua) × Bool × (List Ua) -> Oa (Bool × (List Ua) × Bool × (List Ua) × Bool × (List Ua) × Bool × (List Ua))):Nat × Bool × (List Ua) × Bool × (List Ua) × Bool × (List Ua) × Bool × (List Ua) -> Oa (Bool × (List Ua) × Bool × (List Ua) × Bool × (List Ua) × Bool × (List Ua))
  | (q0,s0,v0,t0,x0,b0,d0,c0,g0)=>(if q0 < a0.length then (a0[q0]?).bind fun u0=>(am_p n u0.fm).bind fun I0=>(am_p n a1).bind fun J0=>(aG_p n I0 J0).bind fun y0=>jn (fun (A0,E0,B0,F0,C0,G0,D0,H0)=>z0 (q0 + 1,A0,E0,B0,F0,C0,G0,D0,H0)) (fun p0=>(if y0 < 0 then (aK_p n u0).bind fun K0=>(ae_p n (⟨(⟨b0,d0⟩:Td),(⟨c0,g0⟩:Td)⟩:Tc) K0).bind fun j0=>p0 (s0,v0,t0,x0,j0.fh.fc,j0.fh.fj,j0.fe.fc,j0.fe.fj) else (if y0 = 0 then (aK_p n u0).bind fun k0=>p0 (k0.fh.fc,k0.fh.fj,k0.fe.fc,k0.fe.fj,b0,d0,c0,g0) else p0 (s0,v0,t0,x0,b0,d0,c0,g0)))) else some (b0,d0,c0,g0,s0,v0,t0,x0))
def bv_p (n:Nat) (a0:List Tb) (a1:Ta):Oa (Ta × Ta × Int):=
  (aq_p n ([a0]:List (List Tb)) ([a1]:List Ta)).bind fun d0=>(if d0 = 0 then (aB_p n (0:Int)).bind fun b0=>(aB_p n (0:Int)).bind fun c0=>Option.bind (az (bv_l1 n a0 a1) n (0,c0.fh.fc,c0.fh.fj,c0.fe.fc,c0.fe.fj,b0.fh.fc,b0.fh.fj,b0.fe.fc,b0.fe.fj)) (fun (q0,v0,s0,x0,k0,t0,p0,u0)=>(ak_p n (⟨(⟨q0,v0⟩:Td),(⟨s0,x0⟩:Td)⟩:Tc)).bind fun g0=>(ak_p n (⟨(⟨k0,t0⟩:Td),(⟨p0,u0⟩:Td)⟩:Tc)).bind fun j0=>(if g0.2 = 0 then (if j0.2 = 0 then some (g0.1,j0.1,(0:Int)) else some ((⟨(0,0,0,0,0,0,0,0),(0,0,0,0,0,0,0,0)⟩:Ta),(⟨(0,0,0,0,0,0,0,0),(0,0,0,0,0,0,0,0)⟩:Ta),(6:Int))) else some ((⟨(0,0,0,0,0,0,0,0),(0,0,0,0,0,0,0,0)⟩:Ta),(⟨(0,0,0,0,0,0,0,0),(0,0,0,0,0,0,0,0)⟩:Ta),(6:Int)))) else some ((⟨(0,0,0,0,0,0,0,0),(0,0,0,0,0,0,0,0)⟩:Ta),(⟨(0,0,0,0,0,0,0,0),(0,0,0,0,0,0,0,0)⟩:Ta),d0))
theorem bv_c (n:Nat) {L w} (hL:hl L w) {a0:List Tb} {v0_0:Vc} (h0_0:Rep.R w L [v0_0] a0) (a1:Ta)  {r:Ta × Ta × Int} (h:bv_p n a0 a1 = some r) :
 Cl 27 #[v0_0,.agg ((aa a1)).toArray] w (ar w fun _ u=>u = .tuple #[.agg ((aa r.1)).toArray,.agg ((aa r.2.1)).toArray,vI r.2.2]):=by
 unfold bv_p at h
 refine AT func27 I I I fun _ cs0 hb0=>Af<|RG.bx (AS w) I I fun H7 g0 Z3 Q6=>RG.nl zL Z3 fun I7 b0 b4 R6=>RG.nl zL b4 fun K7 c0 I2 W6=>Ai I<|Aa<|Ak<|Af<|Ae I ?_
 obtain ⟨D6,K6,Y5,_⟩:=BD (AO h0_0 I2)
 refine Am .plain I (AG (α:=List Tb) (xs:=([a0]:List (List Tb))) (vs:=[v0_0]) (ds' :=[v0_0]) I I2 bW I (e1 I) (by rw [Y5]; try kernel_rfl) I) fun M7 H6 H1 Z6=>Ab (AF I (H1.memA .t3))<|Am .plain I (AG (α:=Ta) (xs:=([a1]:List Ta)) (vs:=[.agg ((aa a1)).toArray]) (ds' :=(aa a1)) I H1 bq I (e1 I) (by kernel_rfl) I) fun Q7 I6 B0 Y4=>bk h fun C2 b6 h=>Bo (vI C2) (bd 63) I (e2 I I) (fun w9 hw9=>aq_c n (B0.hL0 hL hw9) (Ah (St.lend (α:=List Tb) (L:=L) B0 .t1 (AK (AC (cs:=[v0_0]) (xs:=(([a0]:List (List Tb)):List (List Tb))) H1 L (Ao (cs:=[v0_0]) (ds:=[]) (AO h0_0 H1) (AH _ _))) Y4) hL) hw9) (Ah (St.lend (α:=Ta) (L:=L) B0 .hd (AC (cs:=(aa a1)) (xs:=(([a1]:List Ta):List Ta)) B0 L (Ao (cs:=(aa a1)) (ds:=[]) (aG a1.fN a1.fD) (AH _ _))) hL) hw9) b6) I<|Ai I<|Aa<|Af<|Ae I<|Ab (BM (i:=C2) (j:=0) I I)<|Aa<|MX.ifn I h (fun Q3 h=>?_) (fun Q3 h=>?_)
 refine Ar<|Af<|bk h fun s1 c6 h=>jE (bd 71) I (e1 I) (fun w9 hw9=>aB_c n (B0.hL hL hw9)  c6) I fun U7 A7 p5 ⟨F3,G3,hu_,H5,K5⟩=>?_
 subst hu_
 obtain ⟨J2,d7⟩:=B0.agr p5
 refine bk h fun u1 k6 h=>jE (bd 71) I (e1 I) (fun w9 hw9=>aB_c n (J2.hL hL hw9)  k6) I fun b8 D7 u5 ⟨H3,I3,hu_,W5,X5⟩=>?_
 subst hu_
 obtain ⟨B4,k5⟩:=J2.agr u5
 refine RG.nl [.bool false,vN,.bool false,vN] B4 fun p8 u0 M4 Y2=>RG.nl [.bool false,vN,.bool false,vN] M4 fun v8 v0 Q4 Z2=>?_
 have u3:=Tt k5 (Tt Y2 Z2)
 have c3:=Ag H5 u3
 have d3:=Ag K5 u3
 refine AQ [.bool s1.fh.fc,F3,.bool s1.fe.fc,G3] Q4 .t1 (o4 I (AE c3) I (AE d3)) fun x8 R4 b3=>?_
 have v3:=Tt Y2 (Tt Z2 b3)
 have g3:=Ag W5 v3
 have j3:=Ag X5 v3
 refine AQ [.bool u1.fh.fc,H3,.bool u1.fe.fc,I3] R4 .hd (o4 I (AE g3) I (AE j3)) fun y8 P2 x2=>Aa<|Ak<|Af<|Ae I ?_
 have k3:=AO h0_0 P2
 have q7:=Bg k3
 refine Ab (Bh (xs:=a0) underlying24 I k3)<|Ae I<|Aa<|Aw ?_
 obtain ⟨v4,u2⟩:=AA P2 (.a0 (.a0 .d2))
 have p3:=Tt b3 (Tt x2 u2)
 obtain ⟨s7,D5,A5⟩:=aw h
 refine MX.lf (α:=Nat × Bool × (List Ua) × Bool × (List Ua) × Bool × (List Ua) × Bool × (List Ua) × Vc × Vc × Vc × Vc) (fun ⟨C0,q0,W0,s0,X0,k0,U0,p0,V0,x0,y0,z0,A0⟩=>[(3,vP g0),(4,vP b0),(5,vP c0),(8,vP u0),(9,vP v0),(28,v0_0),(29,vn a0.length),(30,vn C0)]) (fun ⟨C0,q0,W0,s0,X0,k0,U0,p0,V0,x0,y0,z0,A0⟩=>[.cells v0 [.bool q0,x0,.bool s0,y0] 109,.cells u0 [.bool k0,z0,.bool p0,A0] 109,.cells c0 zL 34,.cells b0 zL 34,.cells g0 (aa a1) 34]) (fun ⟨C0,q0,W0,s0,X0,k0,U0,p0,V0,x0,y0,z0,A0⟩ A1=>Rep.R A1 (bl [.cells v0 [.bool q0,x0,.bool s0,y0] 109,.cells u0 [.bool k0,z0,.bool p0,A0] 109,.cells c0 zL 34,.cells b0 zL 34,.cells g0 (aa a1) 34] ++ L) [x0] W0/\Rep.R A1 (bl [.cells v0 [.bool q0,x0,.bool s0,y0] 109,.cells u0 [.bool k0,z0,.bool p0,A0] 109,.cells c0 zL 34,.cells b0 zL 34,.cells g0 (aa a1) 34] ++ L) [y0] X0/\Rep.R A1 (bl [.cells v0 [.bool q0,x0,.bool s0,y0] 109,.cells u0 [.bool k0,z0,.bool p0,A0] 109,.cells c0 zL 34,.cells b0 zL 34,.cells g0 (aa a1) 34] ++ L) [z0] U0/\Rep.R A1 (bl [.cells v0 [.bool q0,x0,.bool s0,y0] 109,.cells u0 [.bool k0,z0,.bool p0,A0] 109,.cells c0 zL 34,.cells b0 zL 34,.cells g0 (aa a1) 34] ++ L) [A0] V0) (fun ⟨C0,q0,W0,s0,X0,k0,U0,p0,V0,x0,y0,z0,A0⟩=>(C0,q0,W0,s0,X0,k0,U0,p0,V0)) (0,u1.fh.fc,u1.fh.fj,u1.fe.fc,u1.fe.fj,s1.fh.fc,s1.fh.fj,s1.fe.fc,s1.fe.fj,H3,I3,F3,G3) D5 v4 ⟨(Ag g3 (Tt x2 u2)),(Ag j3 (Tt x2 u2)),(Ag c3 p3),(Ag d3 p3)⟩ ?_
 rintro F6 ⟨C0,q0,W0,s0,X0,k0,U0,p0,V0,x0,y0,z0,A0⟩ A1 Y3 b1 c5 ⟨z2,A2,Y1,Z1⟩ h
 unfold bv_l1 at h
 try dsimp only at h
 refine Af<|Ab (AY (i:=C0) (j:=a0.length) I I)<|Aa<|Ak<|Bb I h (fun R3 h=>?_) (fun R3 h=>?_)
 refine Ar<|Ak<|Aw<|Af<|bk h fun C1 Z5 h=>?_
 obtain ⟨E6,M6,z5,B5,P6,E5,C5⟩:=Bv (AO h0_0 b1) Z5
 obtain rfl:=aY E5
 refine Ab (BJ 32 C0 I z5 I I B5)<|Ab (AF I C5)<|RG.nl [vW 0,vW 0,vW 0,vW 0,vW 0,vW 0,vW 0,vW 0,vW 0,vW 0,vW 0,vW 0,vW 0,vW 0,vW 0,vW 0,vW 0,vW 0,vW 0,vW 0,vW 0,vW 0,vW 0,vW 0,vW 0,vW 0,vW 0,vW 0,vW 0,vW 0,vW 0,vW 0] b1 fun V7 J6 x4 M1=>AQ (aA C1) x4 .hd (ak I) fun W7 K1 P1=>Aa<|Ak<|du 7 fun Z0 z1=>Rv 0 Z0 I z1 (fun _=>Bw 0 I)<|Rx 1 116 Z0 I z1 (AZ (cs:=(aa C1.fm)) I I (aj (K1.memA .hd) 0 16))<|Rx 3 112 Z0 I z1 (AF I (K1.memA .t5))<|bk h fun A6 d6 h=>AU 2 15 Z0 I .plain (bd 68) I (e1 I) (fun w9 hw9=>am_c n (K1.hL hL hw9) C1.fm d6) I fun X7 B7 q5 ⟨t7,u7,hu_,F5,G5⟩=>?_
 subst hu_
 obtain ⟨K2,Q1⟩:=K1.agr q5
 refine bk h fun B6 g6 h=>AU 4 31 Z0 I .plain (bd 68) I (e1 I) (fun w9 hw9=>am_c n (K2.hL hL hw9) a1 g6) I fun Y7 C7 s5 ⟨v7,x7,hu_,I5,J5⟩=>?_
 subst hu_
 obtain ⟨j0,p1⟩:=K2.agr s5
 refine bk h fun D2 j6 h=>RD.cq 5 63 64 (vI D2) Z0 I z1 (bd 69) I (e2 I I) (fun w9 hw9=>aG_c n (j0.hL0 hL hw9) A6 (j0.kd (Ag F5 p1) hw9) (j0.kd (Ag G5 p1) hw9) B6 (j0.kd I5 hw9) (j0.kd J5 hw9) j6) I<|Rv 6 Z0 I z1 (fun _=>Bk I)<|AN (dk Z0)<|Aw<|Af<|Ae I<|Ab (FV.lss (i:=D2) (j:=0) I I)<|Ai I<|Aa<|MX.jf (α:=Bool × (List Ua) × Bool × (List Ua) × Bool × (List Ua) × Bool × (List Ua) × Vc × Vc × Vc × Vc) (fun ⟨E0,c1,F0,g1,G0,j1,H0,k1,I0,J0,K0,M0⟩=>[(3,vP g0),(4,vP b0),(5,vP c0),(8,vP u0),(9,vP v0),(28,v0_0),(29,vn a0.length),(30,vn C0)]) (fun ⟨E0,c1,F0,g1,G0,j1,H0,k1,I0,J0,K0,M0⟩=>[.cells v0 [.bool E0,I0,.bool F0,J0] 109,.cells u0 [.bool G0,K0,.bool H0,M0] 109,.cells c0 zL 34,.cells b0 zL 34,.cells g0 (aa a1) 34]) (fun ⟨E0,c1,F0,g1,G0,j1,H0,k1,I0,J0,K0,M0⟩ B1=>Rep.R B1 (bl [.cells v0 [.bool E0,I0,.bool F0,J0] 109,.cells u0 [.bool G0,K0,.bool H0,M0] 109,.cells c0 zL 34,.cells b0 zL 34,.cells g0 (aa a1) 34] ++ L) [I0] c1/\Rep.R B1 (bl [.cells v0 [.bool E0,I0,.bool F0,J0] 109,.cells u0 [.bool G0,K0,.bool H0,M0] 109,.cells c0 zL 34,.cells b0 zL 34,.cells g0 (aa a1) 34] ++ L) [J0] g1/\Rep.R B1 (bl [.cells v0 [.bool E0,I0,.bool F0,J0] 109,.cells u0 [.bool G0,K0,.bool H0,M0] 109,.cells c0 zL 34,.cells b0 zL 34,.cells g0 (aa a1) 34] ++ L) [K0] j1/\Rep.R B1 (bl [.cells v0 [.bool E0,I0,.bool F0,J0] 109,.cells u0 [.bool G0,K0,.bool H0,M0] 109,.cells c0 zL 34,.cells b0 zL 34,.cells g0 (aa a1) 34] ++ L) [M0] k1) (fun ⟨E0,c1,F0,g1,G0,j1,H0,k1,I0,J0,K0,M0⟩=>(E0,c1,F0,g1,G0,j1,H0,k1)) j0 h ?_ ?_
 rintro ⟨E0,c1,F0,g1,G0,j1,H0,k1,I0,J0,K0,M0⟩ B1 C4 j5 ⟨M5,P5,Q5,R5⟩ h
 try dsimp only at h
 refine Ay<|Ay<|Ap<|Ab (Bj (i:=C0) (j:=1) I I (by omega))<|Ae I<|Aa<|Y3 (C0 + 1,E0,c1,F0,g1,G0,j1,H0,k1,I0,J0,K0,M0) C4 (Tt c5 (Tt M1 (Tt P1 (Tt Q1 (Tt p1 j5))))) ⟨M5,P5,Q5,R5⟩ h
 intro G6 b2 h
 try dsimp only at h
 refine Bb I h (fun U3 h=>?_) (fun U3 h=>?_)
 refine du 4 fun q1 D3=>Rx 0 24 q1 I D3 (AF I (j0.memA .t2))<|Rx 1 28 q1 I D3 (AF I (j0.memA .hd))<|bk h fun C6 p6 h=>AU 2 7 q1 I .plain (bd 66) I (e1 I) (fun w9 hw9=>aK_c n (j0.hL hL hw9) C1 p6) I fun c8 E7 v5 ⟨y7,z7,hu_,U5,V5⟩=>?_
 subst hu_
 obtain ⟨M2,Q2⟩:=j0.agr v5
 refine bk h fun v1 q6 h=>?_
 have y2:=Tt M1 (Tt P1 (Tt Q1 (Tt p1 Q2)))
 refine AU 3 15 q1 I .plain (bd 81) I (e2 I I) (fun w9 hw9=>ae_c n (M2.hL hL hw9) (⟨(⟨k0,U0⟩:Td),(⟨p0,V0⟩:Td)⟩:Tc) (Ah (Ag Y1 y2) hw9) (Ah (Ag Z1 y2) hw9) C6 (Ah U5 hw9) (Ah V5 hw9) q6) I fun d8 F7 x5 ⟨J3,K3,hu_,x3,y3⟩=>?_
 subst hu_
 obtain ⟨D4,R2⟩:=M2.agr x5
 refine BF 4 31 q1 I I .plain (AJ (news:=[.bool v1.fh.fc,J3,.bool v1.fe.fc,K3]) D4 .t2 I I I I I I (o4 I (AE x3) I (AE y3))) fun g8 E4 R1=>AN (dk q1) ?_
 obtain ⟨F4,U1⟩:=AA E4 .d1
 have q3:=Tt y2 (Tt R2 (Tt R1 U1))
 exact b2 (q0,W0,s0,X0,v1.fh.fc,v1.fh.fj,v1.fe.fc,v1.fe.fj,x0,y0,J3,K3) F4 (Tt Q2 (Tt R2 (Tt R1 U1))) ⟨(Ag z2 q3),(Ag A2 q3),(Ag x3 (Tt R1 U1)),(Ag y3 (Tt R1 U1))⟩ h
 refine Af<|Ae I<|Ab (FV.eql (i:=D2) (j:=0) I I)<|Ai I<|Aa<|Bb I h (fun V3 h=>?_) (fun V3 h=>?_)
 refine Ap<|Ab (AF I (j0.memA .hd))<|bk h fun x1 s6 h=>jE (bd 66) I (e1 I) (fun w9 hw9=>aK_c n (j0.hL hL hw9) C1 s6) I fun j8 G7 y5 ⟨M3,P3,hu_,z3,A3⟩=>?_
 subst hu_
 obtain ⟨G4,U2⟩:=j0.agr y5
 refine AQ [.bool x1.fh.fc,M3,.bool x1.fe.fc,P3] G4 .t1 (o4 I (AE z3) I (AE A3)) fun k8 H4 V1=>Aa ?_
 obtain ⟨I4,W1⟩:=AA H4 .d1
 have s3:=Tt M1 (Tt P1 (Tt Q1 (Tt p1 (Tt U2 (Tt V1 W1)))))
 exact b2 (x1.fh.fc,x1.fh.fj,x1.fe.fc,x1.fe.fj,k0,U0,p0,V0,M3,P3,z0,A0) I4 (Tt U2 (Tt V1 W1)) ⟨(Ag z3 (Tt V1 W1)),(Ag A3 (Tt V1 W1)),(Ag Y1 s3),(Ag Z1 s3)⟩ h
 refine Ar ?_
 obtain ⟨J4,V2⟩:=AA j0 .d1
 have X1:=Tt M1 (Tt P1 (Tt Q1 (Tt p1 V2)))
 exact b2 (q0,W0,s0,X0,k0,U0,p0,V0,x0,y0,z0,A0) J4 V2 ⟨(Ag z2 X1),(Ag A2 X1),(Ag Y1 X1),(Ag Z1 X1)⟩ h
 refine Bd I ?_
 have h:=A5 _ h
 try dsimp only at h
 refine Af<|Ab (AF I (b1.memA .t1))<|bk h fun t0 t6 h=>Bo (.tuple #[.agg ((aa t0.1)).toArray,vI t0.2]) (bd 77) I (e1 I) (fun w9 hw9=>ak_c n (b1.hL0 hL hw9) (⟨(⟨k0,U0⟩:Td),(⟨p0,V0⟩:Td)⟩:Tc) (b1.kd Y1 hw9) (b1.kd Z1 hw9) t6) I<|Ae I<|Ab (Ac I I)<|Ab (Ac I I)<|RG.nl zL b1 fun q8 D1 K4 W2=>AQ (aa t0.1) K4 .hd (ak I) fun s8 y1 X2=>Ai I<|Aa<|Af<|Ab (AF I (y1.memA .t1))<|bk h fun Y0 u6 h=>Bo (.tuple #[.agg ((aa Y0.1)).toArray,vI Y0.2]) (bd 77) I (e1 I) (fun w9 hw9=>ak_c n (y1.hL0 hL hw9) (⟨(⟨q0,W0⟩:Td),(⟨s0,X0⟩:Td)⟩:Tc) (y1.kd (Ag z2 (Tt W2 X2)) hw9) (y1.kd (Ag A2 (Tt W2 X2)) hw9) u6) I<|Ae I<|Ab (Ac I I)<|Ab (Ac I I)<|RG.nl zL y1 fun t8 E1 P4 k7=>AQ (aa Y0.1) P4 .hd (ak I) fun u8 d0 p7=>Ai I<|Aa<|Ak<|Af<|Ae I<|Ab (BM (i:=t0.2) (j:=0) I I)<|Ae I<|RG.ifn (s:=65) I h (fun W3 h=>?_) (fun W3 h=>?_)
 refine Ax (Aj I)<|Ax (BM (i:=Y0.2) (j:=0) I I)<|Bp I I<|Aa<|MX.ifn I h (fun X3 h=>?_) (fun X3 h=>?_)
 refine Ar<|Ak<|du 2 fun R0 E3=>Rx 0 28 R0 I E3 (AF I (d0.memA .t1))<|RD.mo (α:=Unit) (fun ()=>[(4,vP b0),(5,vP c0),(6,vI t0.2),(72,.agg ((aa Y0.1)).toArray)]) (fun ()=>[.cells c0 zL 34,.cells b0 (aa t0.1) 34]) d0 2 7 ?_ ?_
 rintro ⟨⟩ z8 c4 U6
 try dsimp only
 refine BF 3 15 R0 I I .plain (AJ (news:=(aa Y0.1)) c4 .hd I I I I I I (ak I)) fun J7 c2 V6=>BK (i:=4) (rk R0) (RO.val (m' :=31) (sk R0) I .plain I (Bk I) ?_)
 refine AN (dk R0)<|Au I<|Aq hb0 func27 I (.cons (.many (cs:=(aa t0.1)) I I (c2.memA .t1)) (.cons (.many (cs:=(aa Y0.1)) I I (c2.memA .hd)) (.cons (.tmp I) .nil))) I ?_
 cases h
 exact c2.gv
 intro E2
 refine BO [1,2] (rk R0) ⟨?_,?_,trivial⟩
 refine RO.val (m' :=3) (sk R0) I .plain I (AF I (d0.memA .hd))<|BF 2 7 R0 I I .plain (AJ (news:=(aa t0.1)) d0 .t5 I I I I I I (ak I)) fun v6 F1 p2=>?_
 obtain ⟨d4,U4⟩:=AA F1 (.a4 (.a4 .done))
 exact E2 () d4 (Tt p2 U4)
 refine RO.now (m' :=5) (sk R0) I I .plain (AJ (news:=(aa t0.1)) d0 .t5 I I I I I I (ak I)) fun v6 F1 p2=>Rx 1 24 R0 I E3 (AF I (F1.memA .hd)) ?_
 obtain ⟨g4,V4⟩:=AA F1 (.a4 (.a4 .done))
 exact E2 () g4 (Tt p2 V4)
 refine Ak<|du 2 fun P0 B3=>Rx 0 28 P0 I B3 (AF I (d0.memA .t5))<|RD.mo (α:=Unit) (fun ()=>[(4,vP b0),(5,vP c0),(13,vP D1),(6,vI t0.2),(14,vP E1),(70,.agg zM)]) (fun ()=>[.cells E1 (aa Y0.1) 34,.cells D1 (aa t0.1) 34,.cells c0 zL 34,.cells b0 zL 34]) d0 2 7 ?_ ?_
 rintro ⟨⟩ A8 j4 X6
 try dsimp only
 refine BF 3 15 P0 I I .plain (AJ (news:=zL) j4 .t2 I I I I I I (ak I)) fun P7 g2 Y6=>BK (i:=4) (rk P0) (RO.val (m' :=31) (sk P0) I .plain I (Bk I) ?_)
 refine AN (dk P0)<|Au I<|Aq hb0 func27 I (.cons (.many (cs:=zL) I I (g2.memA .t3)) (.cons (.many (cs:=zL) I I (g2.memA .t2)) (.cons (.tmp I) .nil))) I ?_
 cases h
 exact g2.gv
 intro F2
 refine BO [1,2] (rk P0) ⟨?_,?_,trivial⟩
 refine RO.val (m' :=3) (sk P0) I .plain I (AF I (d0.memA .t4))<|BF 2 7 P0 I I .plain (AJ (news:=zL) d0 .t5 I I I I I I (ak I)) fun x6 G1 q2=>?_
 obtain ⟨k4,W4⟩:=AA G1 (.a0 (.a0 (.a2 (.a2 .done))))
 exact F2 () k4 (Tt q2 W4)
 refine RO.now (m' :=5) (sk P0) I I .plain (AJ (news:=zL) d0 .t5 I I I I I I (ak I)) fun x6 G1 q2=>Rx 1 24 P0 I B3 (AF I (G1.memA .t4)) ?_
 obtain ⟨p4,X4⟩:=AA G1 (.a0 (.a0 (.a2 (.a2 .done))))
 exact F2 () p4 (Tt q2 X4)
 refine Av<|Av<|RG.pt I I<|Aa<|AW I<|Ak<|du 2 fun Q0 C3=>Rx 0 28 Q0 I C3 (AF I (d0.memA .t5))<|RD.mo (α:=Unit) (fun ()=>[(4,vP b0),(5,vP c0),(13,vP D1),(6,vI t0.2),(14,vP E1),(70,.agg zM)]) (fun ()=>[.cells E1 (aa Y0.1) 34,.cells D1 (aa t0.1) 34,.cells c0 zL 34,.cells b0 zL 34]) d0 2 7 ?_ ?_
 rintro ⟨⟩ B8 q4 b7
 try dsimp only
 refine BF 3 15 Q0 I I .plain (AJ (news:=zL) q4 .t2 I I I I I I (ak I)) fun R7 j2 c7=>BK (i:=4) (rk Q0) (RO.val (m' :=31) (sk Q0) I .plain I (Bk I) ?_)
 refine AN (dk Q0)<|Au I<|Aq hb0 func27 I (.cons (.many (cs:=zL) I I (j2.memA .t3)) (.cons (.many (cs:=zL) I I (j2.memA .t2)) (.cons (.tmp I) .nil))) I ?_
 cases h
 exact j2.gv
 intro G2
 refine BO [1,2] (rk Q0) ⟨?_,?_,trivial⟩
 refine RO.val (m' :=3) (sk Q0) I .plain I (AF I (d0.memA .t4))<|BF 2 7 Q0 I I .plain (AJ (news:=zL) d0 .t5 I I I I I I (ak I)) fun y6 I1 s2=>?_
 obtain ⟨s4,Z4⟩:=AA I1 (.a0 (.a0 (.a2 (.a2 .done))))
 exact G2 () s4 (Tt s2 Z4)
 refine RO.now (m' :=5) (sk Q0) I I .plain (AJ (news:=zL) d0 .t5 I I I I I I (ak I)) fun y6 I1 s2=>Rx 1 24 Q0 I C3 (AF I (I1.memA .t4)) ?_
 obtain ⟨u4,b5⟩:=AA I1 (.a0 (.a0 (.a2 (.a2 .done))))
 exact G2 () u4 (Tt s2 b5)
 refine Ak<|du 3 fun D0 B2=>Rx 0 56 D0 I B2 (AF I (B0.memA .t3))<|Rv 2 D0 I B2 (fun _=>Aj I)<|RD.mo (α:=Unit) (fun ()=>[(0,v0_0),(3,vP g0),(4,vP b0),(5,vP c0),(6,vI 0),(25,vI C2),(24,.agg zM)]) (fun ()=>[.cells c0 zL 34,.cells b0 zL 34,.cells g0 (aa a1) 34]) B0 2 15 ?_ ?_
 rintro ⟨⟩ C8 y4 g7
 try dsimp only
 refine BF 4 31 D0 I I .plain (AJ (news:=zL) y4 .hd I I I I I I (ak I)) fun Z7 k2 j7=>BK (i:=5) (rk D0) (RO.val (m' :=63) (sk D0) I .plain I (Bk I) ?_)
 refine AN (dk D0)<|Au I<|Aq hb0 func27 I (.cons (.many (cs:=zL) I I (k2.memA .t1)) (.cons (.many (cs:=zL) I I (k2.memA .hd)) (.cons (.tmp I) .nil))) I ?_
 cases h
 exact k2.gv
 intro H2
 refine BO [1,3] (rk D0) ⟨?_,?_,trivial⟩
 refine RO.val (m' :=7) (sk D0) I .plain I (AF I (B0.memA .t2))<|BF 3 15 D0 I I .plain (AJ (news:=zL) B0 .t3 I I I I I I (ak I)) fun z6 J1 v2=>?_
 obtain ⟨z4,d5⟩:=AA J1 .d2
 exact H2 () z4 (Tt v2 d5)
 refine RO.now (m' :=13) (sk D0) I I .plain (AJ (news:=zL) B0 .t3 I I I I I I (ak I)) fun z6 J1 v2=>Rx 1 48 D0 I B2 (AF I (J1.memA .t2)) ?_
 obtain ⟨A4,g5⟩:=AA J1 .d2
 exact H2 () A4 (Tt v2 g5)
theorem ex_Tb {a b:Tb} (h0:a.fm.fN.1 = b.fm.fN.1) (h1:a.fm.fN.2.1 = b.fm.fN.2.1) (h2:a.fm.fN.2.2.1 = b.fm.fN.2.2.1) (h3:a.fm.fN.2.2.2.1 = b.fm.fN.2.2.2.1) (h4:a.fm.fN.2.2.2.2.1 = b.fm.fN.2.2.2.2.1) (h5:a.fm.fN.2.2.2.2.2.1 = b.fm.fN.2.2.2.2.2.1) (h6:a.fm.fN.2.2.2.2.2.2.1 = b.fm.fN.2.2.2.2.2.2.1) (h7:a.fm.fN.2.2.2.2.2.2.2 = b.fm.fN.2.2.2.2.2.2.2) (h8:a.fm.fD.1 = b.fm.fD.1) (h9:a.fm.fD.2.1 = b.fm.fD.2.1) (b0:a.fm.fD.2.2.1 = b.fm.fD.2.2.1) (c0:a.fm.fD.2.2.2.1 = b.fm.fD.2.2.2.1) (d0:a.fm.fD.2.2.2.2.1 = b.fm.fD.2.2.2.2.1) (g0:a.fm.fD.2.2.2.2.2.1 = b.fm.fD.2.2.2.2.2.1) (j0:a.fm.fD.2.2.2.2.2.2.1 = b.fm.fD.2.2.2.2.2.2.1) (k0:a.fm.fD.2.2.2.2.2.2.2 = b.fm.fD.2.2.2.2.2.2.2) (p0:a.fP.fN.1 = b.fP.fN.1) (q0:a.fP.fN.2.1 = b.fP.fN.2.1) (s0:a.fP.fN.2.2.1 = b.fP.fN.2.2.1) (t0:a.fP.fN.2.2.2.1 = b.fP.fN.2.2.2.1) (u0:a.fP.fN.2.2.2.2.1 = b.fP.fN.2.2.2.2.1) (v0:a.fP.fN.2.2.2.2.2.1 = b.fP.fN.2.2.2.2.2.1) (x0:a.fP.fN.2.2.2.2.2.2.1 = b.fP.fN.2.2.2.2.2.2.1) (y0:a.fP.fN.2.2.2.2.2.2.2 = b.fP.fN.2.2.2.2.2.2.2) (z0:a.fP.fD.1 = b.fP.fD.1) (A0:a.fP.fD.2.1 = b.fP.fD.2.1) (B0:a.fP.fD.2.2.1 = b.fP.fD.2.2.1) (C0:a.fP.fD.2.2.2.1 = b.fP.fD.2.2.2.1) (D0:a.fP.fD.2.2.2.2.1 = b.fP.fD.2.2.2.2.1) (E0:a.fP.fD.2.2.2.2.2.1 = b.fP.fD.2.2.2.2.2.1) (F0:a.fP.fD.2.2.2.2.2.2.1 = b.fP.fD.2.2.2.2.2.2.1) (G0:a.fP.fD.2.2.2.2.2.2.2 = b.fP.fD.2.2.2.2.2.2.2):a = b:=congr (congrArg Tb.mk (jU (a:=a.fm) (b:=b.fm) h0 h1 h2 h3 h4 h5 h6 h7 h8 h9 b0 c0 d0 g0 j0 k0)) (jU (a:=a.fP) (b:=b.fP) p0 q0 s0 t0 u0 v0 x0 y0 z0 A0 B0 C0 D0 E0 F0 G0)
theorem eqlD_37 (a b:Tb) (w9:World):(do eqGuard .eql 37 (.tmp 0) (.tmp 0) (.agg #[vU a.fm.fN.1,vU a.fm.fN.2.1,vU a.fm.fN.2.2.1,vU a.fm.fN.2.2.2.1,vU a.fm.fN.2.2.2.2.1,vU a.fm.fN.2.2.2.2.2.1,vU a.fm.fN.2.2.2.2.2.2.1,vU a.fm.fN.2.2.2.2.2.2.2,vU a.fm.fD.1,vU a.fm.fD.2.1,vU a.fm.fD.2.2.1,vU a.fm.fD.2.2.2.1,vU a.fm.fD.2.2.2.2.1,vU a.fm.fD.2.2.2.2.2.1,vU a.fm.fD.2.2.2.2.2.2.1,vU a.fm.fD.2.2.2.2.2.2.2,vU a.fP.fN.1,vU a.fP.fN.2.1,vU a.fP.fN.2.2.1,vU a.fP.fN.2.2.2.1,vU a.fP.fN.2.2.2.2.1,vU a.fP.fN.2.2.2.2.2.1,vU a.fP.fN.2.2.2.2.2.2.1,vU a.fP.fN.2.2.2.2.2.2.2,vU a.fP.fD.1,vU a.fP.fD.2.1,vU a.fP.fD.2.2.1,vU a.fP.fD.2.2.2.1,vU a.fP.fD.2.2.2.2.1,vU a.fP.fD.2.2.2.2.2.1,vU a.fP.fD.2.2.2.2.2.2.1,vU a.fP.fD.2.2.2.2.2.2.2]) (.agg #[vU b.fm.fN.1,vU b.fm.fN.2.1,vU b.fm.fN.2.2.1,vU b.fm.fN.2.2.2.1,vU b.fm.fN.2.2.2.2.1,vU b.fm.fN.2.2.2.2.2.1,vU b.fm.fN.2.2.2.2.2.2.1,vU b.fm.fN.2.2.2.2.2.2.2,vU b.fm.fD.1,vU b.fm.fD.2.1,vU b.fm.fD.2.2.1,vU b.fm.fD.2.2.2.1,vU b.fm.fD.2.2.2.2.1,vU b.fm.fD.2.2.2.2.2.1,vU b.fm.fD.2.2.2.2.2.2.1,vU b.fm.fD.2.2.2.2.2.2.2,vU b.fP.fN.1,vU b.fP.fN.2.1,vU b.fP.fN.2.2.1,vU b.fP.fN.2.2.2.1,vU b.fP.fN.2.2.2.2.1,vU b.fP.fN.2.2.2.2.2.1,vU b.fP.fN.2.2.2.2.2.2.1,vU b.fP.fN.2.2.2.2.2.2.2,vU b.fP.fD.1,vU b.fP.fD.2.1,vU b.fP.fD.2.2.1,vU b.fP.fD.2.2.2.1,vU b.fP.fD.2.2.2.2.1,vU b.fP.fD.2.2.2.2.2.1,vU b.fP.fD.2.2.2.2.2.2.1,vU b.fP.fD.2.2.2.2.2.2.2]); binOp .eql 37 (.agg #[vU a.fm.fN.1,vU a.fm.fN.2.1,vU a.fm.fN.2.2.1,vU a.fm.fN.2.2.2.1,vU a.fm.fN.2.2.2.2.1,vU a.fm.fN.2.2.2.2.2.1,vU a.fm.fN.2.2.2.2.2.2.1,vU a.fm.fN.2.2.2.2.2.2.2,vU a.fm.fD.1,vU a.fm.fD.2.1,vU a.fm.fD.2.2.1,vU a.fm.fD.2.2.2.1,vU a.fm.fD.2.2.2.2.1,vU a.fm.fD.2.2.2.2.2.1,vU a.fm.fD.2.2.2.2.2.2.1,vU a.fm.fD.2.2.2.2.2.2.2,vU a.fP.fN.1,vU a.fP.fN.2.1,vU a.fP.fN.2.2.1,vU a.fP.fN.2.2.2.1,vU a.fP.fN.2.2.2.2.1,vU a.fP.fN.2.2.2.2.2.1,vU a.fP.fN.2.2.2.2.2.2.1,vU a.fP.fN.2.2.2.2.2.2.2,vU a.fP.fD.1,vU a.fP.fD.2.1,vU a.fP.fD.2.2.1,vU a.fP.fD.2.2.2.1,vU a.fP.fD.2.2.2.2.1,vU a.fP.fD.2.2.2.2.2.1,vU a.fP.fD.2.2.2.2.2.2.1,vU a.fP.fD.2.2.2.2.2.2.2]) (.agg #[vU b.fm.fN.1,vU b.fm.fN.2.1,vU b.fm.fN.2.2.1,vU b.fm.fN.2.2.2.1,vU b.fm.fN.2.2.2.2.1,vU b.fm.fN.2.2.2.2.2.1,vU b.fm.fN.2.2.2.2.2.2.1,vU b.fm.fN.2.2.2.2.2.2.2,vU b.fm.fD.1,vU b.fm.fD.2.1,vU b.fm.fD.2.2.1,vU b.fm.fD.2.2.2.1,vU b.fm.fD.2.2.2.2.1,vU b.fm.fD.2.2.2.2.2.1,vU b.fm.fD.2.2.2.2.2.2.1,vU b.fm.fD.2.2.2.2.2.2.2,vU b.fP.fN.1,vU b.fP.fN.2.1,vU b.fP.fN.2.2.1,vU b.fP.fN.2.2.2.1,vU b.fP.fN.2.2.2.2.1,vU b.fP.fN.2.2.2.2.2.1,vU b.fP.fN.2.2.2.2.2.2.1,vU b.fP.fN.2.2.2.2.2.2.2,vU b.fP.fD.1,vU b.fP.fD.2.1,vU b.fP.fD.2.2.1,vU b.fP.fD.2.2.2.1,vU b.fP.fD.2.2.2.2.1,vU b.fP.fD.2.2.2.2.2.1,vU b.fP.fD.2.2.2.2.2.2.1,vU b.fP.fD.2.2.2.2.2.2.2]):Sem Vc).run Tryz.prog w9 = .ok (.bool (decide (a = b))) w9:=
  lh (ks:=[.int .u64,.int .u64,.int .u64,.int .u64,.int .u64,.int .u64,.int .u64,.int .u64,.int .u64,.int .u64,.int .u64,.int .u64,.int .u64,.int .u64,.int .u64,.int .u64,.int .u64,.int .u64,.int .u64,.int .u64,.int .u64,.int .u64,.int .u64,.int .u64,.int .u64,.int .u64,.int .u64,.int .u64,.int .u64,.int .u64,.int .u64,.int .u64]) (xs:=[vU a.fm.fN.1,vU a.fm.fN.2.1,vU a.fm.fN.2.2.1,vU a.fm.fN.2.2.2.1,vU a.fm.fN.2.2.2.2.1,vU a.fm.fN.2.2.2.2.2.1,vU a.fm.fN.2.2.2.2.2.2.1,vU a.fm.fN.2.2.2.2.2.2.2,vU a.fm.fD.1,vU a.fm.fD.2.1,vU a.fm.fD.2.2.1,vU a.fm.fD.2.2.2.1,vU a.fm.fD.2.2.2.2.1,vU a.fm.fD.2.2.2.2.2.1,vU a.fm.fD.2.2.2.2.2.2.1,vU a.fm.fD.2.2.2.2.2.2.2,vU a.fP.fN.1,vU a.fP.fN.2.1,vU a.fP.fN.2.2.1,vU a.fP.fN.2.2.2.1,vU a.fP.fN.2.2.2.2.1,vU a.fP.fN.2.2.2.2.2.1,vU a.fP.fN.2.2.2.2.2.2.1,vU a.fP.fN.2.2.2.2.2.2.2,vU a.fP.fD.1,vU a.fP.fD.2.1,vU a.fP.fD.2.2.1,vU a.fP.fD.2.2.2.1,vU a.fP.fD.2.2.2.2.1,vU a.fP.fD.2.2.2.2.2.1,vU a.fP.fD.2.2.2.2.2.2.1,vU a.fP.fD.2.2.2.2.2.2.2]) (ys:=[vU b.fm.fN.1,vU b.fm.fN.2.1,vU b.fm.fN.2.2.1,vU b.fm.fN.2.2.2.1,vU b.fm.fN.2.2.2.2.1,vU b.fm.fN.2.2.2.2.2.1,vU b.fm.fN.2.2.2.2.2.2.1,vU b.fm.fN.2.2.2.2.2.2.2,vU b.fm.fD.1,vU b.fm.fD.2.1,vU b.fm.fD.2.2.1,vU b.fm.fD.2.2.2.1,vU b.fm.fD.2.2.2.2.1,vU b.fm.fD.2.2.2.2.2.1,vU b.fm.fD.2.2.2.2.2.2.1,vU b.fm.fD.2.2.2.2.2.2.2,vU b.fP.fN.1,vU b.fP.fN.2.1,vU b.fP.fN.2.2.1,vU b.fP.fN.2.2.2.1,vU b.fP.fN.2.2.2.2.1,vU b.fP.fN.2.2.2.2.2.1,vU b.fP.fN.2.2.2.2.2.2.1,vU b.fP.fN.2.2.2.2.2.2.2,vU b.fP.fD.1,vU b.fP.fD.2.1,vU b.fP.fD.2.2.1,vU b.fP.fD.2.2.2.1,vU b.fP.fD.2.2.2.2.1,vU b.fP.fD.2.2.2.2.2.1,vU b.fP.fD.2.2.2.2.2.2.1,vU b.fP.fD.2.2.2.2.2.2.2]) (by kernel_rfl) (by kernel_rfl) (by kernel_rfl) I I ⟨fun h=>by
    simp only [aW,veq,Bool.and_eq_true,beq_iff_eq,and_true] at h
    obtain ⟨h0,h1,h2,h3,h4,h5,h6,h7,h8,h9,b0,c0,d0,g0,j0,k0,p0,q0,s0,t0,u0,v0,x0,y0,z0,A0,B0,C0,D0,E0,F0,G0⟩:=h
    exact ex_Tb (ac h0) (ac h1) (ac h2) (ac h3) (ac h4) (ac h5) (ac h6) (ac h7) (ac h8) (ac h9) (ac b0) (ac c0) (ac d0) (ac g0) (ac j0) (ac k0) (ac p0) (ac q0) (ac s0) (ac t0) (ac u0) (ac v0) (ac x0) (ac y0) (ac z0) (ac A0) (ac B0) (ac C0) (ac D0) (ac E0) (ac F0) (ac G0),fun h=>by subst h; simp [aW,veq]⟩ _ _ w9
def bN_p (_n:Nat) (a0:Tb) (a1:Tb):Oa Bool:=
  some (decide (a0 = a1))
theorem bN_c (n:Nat) {L w} (_hL:hl L w) (a0:Tb) (a1:Tb)  {r:Bool} (h:bN_p n a0 a1 = some r) :
 Cl 73 #[.agg ((aA a0)).toArray,.agg ((aA a1)).toArray] w (ar w fun _ u=>u = .bool r):=by
 unfold bN_p at h
 refine AT func73 I I I fun _ cs0 hb0=>Af<|RG.bx (AS w) I I fun p0 d0 c0 j0=>RG.bx c0 I I fun q0 g0 b0 k0=>Ai I<|Aa<|Af<|Ab (AF I (b0.memA .t1))<|Ab (AF I (b0.memA .hd))<|Ab (FV.eqlV (v:=.agg ((aA a0)).toArray) (u:=.agg ((aA a1)).toArray) I I (eqlD_37 a0 a1))<|Ai I<|Aa<|Au I<|By hb0 func73 I I ?_
 cases h
 exact b0.gv
def bc_l1 (n:Nat) (a0:List Tb) (a1:List Tb) (c0:Nat -> Oa (Bool ⊕ Unit)):Nat -> Oa (Bool ⊕ Unit)
  | b0=>(if b0 < a0.length then (a0[b0]?).bind fun d0=>(a1[b0]?).bind fun g0=>(bN_p n d0 g0).bind fun j0=>(if j0 = true then c0 (b0 + 1) else some (.inl false)) else some (.inr ()))
def bc_p (n:Nat) (a0:List Tb) (a1:List Tb):Oa Bool:=
  (if a0.length = a1.length then thn (az (bc_l1 n a0 a1) n 0) (fun _=>some true) else some false)
theorem bc_c (n:Nat) {L w} (hL:hl L w) {a0:List Tb} {v0_0:Vc} (h0_0:Rep.R w L [v0_0] a0) {a1:List Tb} {v1_0:Vc} (h1_0:Rep.R w L [v1_0] a1)  {r:Bool} (h:bc_p n a0 a1 = some r) :
 Cl 17 #[v0_0,v1_0] w (ar w fun _ u=>u = .bool r):=by
 unfold bc_p at h
 have hS0:=AS w
 refine AT func17 I I I fun _ cs0 hb0=>Af<|Ai I<|Aa<|Af<|Ae I<|Ae I<|Bs (fst:=[]) (cap:=[]) (vs:=[v0_0,v1_0,.func (.func 73) #[] #[]]) .plain (bd 72) func72 I I I I (e3 I I I) I fun cs2 hb1 hp3=>Af<|Ai I<|Aa<|Ak<|Af<|Ae I ?_
 have hl4:=Bg h0_0
 refine Ab (Bh (xs:=a0) underlying24 I h0_0)<|Ae I ?_
 have hl5:=Bg h1_0
 refine Ab (Bh (xs:=a1) underlying24 I h1_0)<|Ab (FV.neqN (i:=a0.length) (j:=a1.length) I I)<|Aa<|MX.ifn I h (fun c6 h=>?_) (fun c6 h=>?_)
 refine Ar<|Ak<|Af<|Ae I<|Ab (Bh (xs:=a0) underlying24 I h0_0)<|Ae I<|Aa<|Aw<|tn h fun k1 K0 j0=>MX.lo (α:=Nat) (fun b0=>[(1,v1_0),(2,.func (.func 73) #[] #[]),(15,v0_0),(16,vn a0.length),(17,vn b0)]) (fun b0=>[]) (fun b0=>b0) 0 K0 hS0 ?_
 rintro Y0 b0 v1 t0 d0 y0 h
 unfold bc_l1 at h
 try dsimp only at h
 refine Af<|Ab (AY (i:=b0) (j:=a0.length) I I)<|Aa<|Ak<|Bb I h (fun q0 h=>?_) (fun q0 h=>?_)
 refine Ar<|Ak<|Aw<|Af<|Ae I<|bk h fun k0 Q0 h=>?_
 obtain ⟨W0,c1,E0,G0,g1,M0,I0⟩:=Bv (AO h0_0 d0) Q0
 obtain rfl:=aY M0
 refine Ab (BJ 32 b0 I E0 I I G0)<|Ab (AF I I0)<|RG.nl [vW 0,vW 0,vW 0,vW 0,vW 0,vW 0,vW 0,vW 0,vW 0,vW 0,vW 0,vW 0,vW 0,vW 0,vW 0,vW 0,vW 0,vW 0,vW 0,vW 0,vW 0,vW 0,vW 0,vW 0,vW 0,vW 0,vW 0,vW 0,vW 0,vW 0,vW 0,vW 0] d0 fun p1 Z0 u0 z0=>Ai I<|AQ (aA k0) u0 .hd (ak I) fun q1 g0 A0=>Aa<|Af<|Ae I<|Ae I<|bk h fun p0 R0 h=>?_
 obtain ⟨X0,d1,F0,H0,j1,P0,J0⟩:=Bv (AO h1_0 g0) R0
 obtain rfl:=aY P0
 refine Ab (BJ 32 b0 I F0 I I H0)<|Ab (AF I J0)<|RG.nl [vW 0,vW 0,vW 0,vW 0,vW 0,vW 0,vW 0,vW 0,vW 0,vW 0,vW 0,vW 0,vW 0,vW 0,vW 0,vW 0,vW 0,vW 0,vW 0,vW 0,vW 0,vW 0,vW 0,vW 0,vW 0,vW 0,vW 0,vW 0,vW 0,vW 0,vW 0,vW 0] g0 fun s1 b1 v0 B0=>AQ (aA p0) v0 .hd (ak I) fun u1 c0 C0=>Aa<|Af<|Ae I<|Ab (AF I (c0.memA .t1))<|Ab (AF I (c0.memA .hd))<|bk h fun V0 U0 h=>Bo (.bool V0) (bd 73) I (e2 I I) (fun w9 hw9=>bN_c n (c0.hL0 hL hw9) k0 p0 U0) I<|Ab (BC I)<|Aa<|MX.ifnb I h (fun s0 h=>?_) (fun s0 h=>?_)
 refine Ar<|Ay<|Ap<|Ab (Bj (i:=b0) (j:=1) I I (by omega))<|Ae I<|Aa ?_
 obtain ⟨x0,D0⟩:=AA c0 .done
 exact t0 (b0 + 1) x0 (Tt y0 (Tt z0 (Tt A0 (Tt B0 (Tt C0 D0))))) h
 refine Af<|Ai I<|Aa ?_
 have h:=dy h j0
 refine Au I<|Aq (u:=.bool false) hb1 func72 I (.cons (.tmp I) .nil) I<|Ai I<|Aa<|Au I<|By hb0 func17 I I ?_
 cases h
 exact c0.gv
 refine Bd I ?_
 have h:=cx h j0
 try dsimp only at h
 refine Af<|Ai I<|Aa<|Au I<|Aq (u:=.bool true) hb1 func72 I (.cons (.tmp I) .nil) I<|Ai I<|Aa<|Au I<|By hb0 func17 I I ?_
 cases h
 exact d0.gv
 refine Af<|Ai I<|Aa<|Au I<|Aq (u:=.bool false) hb1 func72 I (.cons (.tmp I) .nil) I<|Ai I<|Aa<|Au I<|By hb0 func17 I I ?_
 cases h
 exact hS0.gv
def av_p (n:Nat) (a0:List Tb) (a1:Int) (a2:List Tb):Oa Bool:=
  (bc_p n a0 a2).bind fun y1=>(if y1 = true then some (decide (a1 = 0)) else some false)
theorem av_c (n:Nat) {L w} (hL:hl L w) {a0:List Tb} {v0_0:Vc} (h0_0:Rep.R w L [v0_0] a0) {a1:Int} {a2:List Tb} {v2_0:Vc} (h2_0:Rep.R w L [v2_0] a2) {p2:Nat} (m2:∀ j9 v9,([v2_0]:List Vc)[j9]? = some v9 -> w.cell? ((⟨p2,0,none⟩:Addr).add j9) = some v9)  {r:Bool} (h:av_p n a0 a1 a2 = some r) :
 Cl 91 #[v0_0,vI a1,.pointer (some ⟨p2,0,none⟩)] w (ar w fun _ u=>u = .bool r):=by
 unfold av_p at h
 have hS0:=AS w
 refine AT func91 I I I fun _ cs0 hb0=>Af<|Ai I<|Aa<|Af<|Ae I<|BH I ((fun j9 v9 h9=>hS0.ag.cell0 (m2 j9 v9 h9)) 0 _ I)<|bk h fun y1 hy1 h=>Bo (.bool y1) (bd 17) I (e2 I I) (fun w9 hw9=>bc_c n (hS0.hL0 hL hw9) (hS0.kd h0_0 hw9) (hS0.kd h2_0 hw9) hy1) I<|Ae I<|RG.ifb (s:=9) I h (fun c2 h=>?_) (fun c2 h=>?_)
 refine Ax (Aj I)<|Ax (FV.eql (i:=a1) (j:=0) I I)<|RG.pt I I<|Ai I<|Aa<|Au I<|By hb0 func91 I I ?_
 cases h
 exact hS0.gv
 refine Av<|Av<|Bp I I<|Ai I<|Aa<|Au I<|By hb0 func91 I I ?_
 cases h
 exact hS0.gv
theorem aW_c (_n:Nat) {L w} (_hL:hl L w) (a0:List Tb) {v0_0:Vc} (h0_0:Rep.R w L [v0_0] a0)  :
 Cl 28 #[v0_0] w (ar w fun w' u=>∃ b0:Nat,u = .func (.func 91) #[] #[vP b0]/\St w w' [.cells b0 [v0_0] 24]):=by
 refine AT func28 I I I fun _ cs0 hb0=>Af<|RG.bx (AS w) I (Rep.c1 h0_0) fun g0 b0 c0 d0=>Ai I<|Aa<|Af<|Ab (FV.makeFunc (vs:=[]) (us:=[vP b0]) ao (e1 I))<|Ai I<|Aa<|Au I<|Aq (u:=.func (.func 91) #[] #[vP b0]) hb0 func28 I (.cons (.tmp I) .nil) I<|⟨c0.ag,fun w9 hw9=>⟨b0,I,c0.agree hw9⟩⟩
def cA (n:Nat) (c0:Ta × Tc) (g0:(List Tb) × Bool -> Oa ((List Tb) × Int)):(List Tb) × Bool -> Oa ((List Tb) × Int)
  | (p0,j0)=>(ak_p n c0.2).bind fun d0=>jn (fun k0=>(app p0 ([(⟨c0.1,d0.1⟩:Tb)]:List Tb)).bind fun q0=>g0 (q0,k0)) (fun b0=>(if d0.2 = 0 then b0 j0 else b0 true))
def aU_l1 (n:Nat) (a0:List Tb) (q0:Tc) (g0:Nat × Bool × (List (Ta × Tc)) -> Oa ((List (Ta × Tc)) × Bool)):Nat × Bool × (List (Ta × Tc)) -> Oa ((List (Ta × Tc)) × Bool)
  | (c0,j0,b0)=>(if c0 < a0.length then (a0[c0]?).bind fun k0=>(am_p n k0.fm).bind fun s0=>(aw_p n q0 s0).bind fun t0=>(aK_p n k0).bind fun p0=>(ak_p n t0).bind fun d0=>(if d0.2 = 0 then dh (bc b0 d0.1) (g0 (c0 + 1,j0,aB b0 d0.1 p0)) (fun u0=>(ae_p n p0 u0).bind fun v0=>g0 (c0 + 1,j0,aB b0 d0.1 v0)) else g0 (c0 + 1,true,b0)) else some (b0,j0))
def aU_p (n:Nat) (a0:List Tb) (a1:Ta):Oa ((List Tb) × Int):=
  (aq_p n ([a0]:List (List Tb)) ([a1]:List Ta)).bind fun d0=>(if d0 = 0 then (am_p n a1).bind fun p0=>Option.bind (az (aU_l1 n a0 p0) n (0,false,([]:List (Ta × Tc)))) (fun (b0,g0)=>(if 400 < b0.length then some (([]:List Tb),(3:Int)) else mloop (fun (c0,j0)=>(if j0 = true then some (([]:List Tb),(6:Int)) else (aQ_p n (ai ((c0.length:Nat):Int))).bind fun q0=>(de (fun x9 y9=>aj_p n x9 y9) q0 c0).bind fun k0=>some (k0,(0:Int)))) (cA n) n b0 (([]:List Tb),g0))) else some (([]:List Tb),d0))
theorem aU_c (n:Nat) {L w} (hL:hl L w) {a0:List Tb} {v0_0:Vc} (h0_0:Rep.R w L [v0_0] a0) (a1:Ta)  {r:(List Tb) × Int} (h:aU_p n a0 a1 = some r) :
 Cl 29 #[v0_0,.agg ((aa a1)).toArray] w (ar w fun w' u=>∃ v0_0:Vc,u = .tuple #[v0_0,vI r.2]/\Rep.R w' L [v0_0] r.1):=by
 unfold aU_p at h
 refine AT func29 I I I fun _ cs0 hb0=>Af<|RG.bx (AS w) I I fun k8 H0 z2 G7=>Ai I<|Ai I<|Aa<|Ak<|Af<|Ae I ?_
 obtain ⟨Q6,u7,g6,_⟩:=BD (AO h0_0 z2)
 refine Am .plain I (AG (α:=List Tb) (xs:=([a0]:List (List Tb))) (vs:=[v0_0]) (ds' :=[v0_0]) I z2 bW I (e1 I) (by rw [g6]; try kernel_rfl) I) fun p8 I0 j1 H7=>Ab (AF I (j1.memA .t1))<|Am .plain I (AG (α:=Ta) (xs:=([a1]:List Ta)) (vs:=[.agg ((aa a1)).toArray]) (ds' :=(aa a1)) I j1 bq I (e1 I) (by kernel_rfl) I) fun q8 J0 z0 E4=>bk h fun D3 q6 h=>Bo (vI D3) (bd 63) I (e2 I I) (fun w9 hw9=>aq_c n (z0.hL0 hL hw9) (Ah (St.lend (α:=List Tb) (L:=L) z0 .t1 (AK (AC (cs:=[v0_0]) (xs:=(([a0]:List (List Tb)):List (List Tb))) j1 L (Ao (cs:=[v0_0]) (ds:=[]) (AO h0_0 j1) (AH _ _))) E4) hL) hw9) (Ah (St.lend (α:=Ta) (L:=L) z0 .hd (AC (cs:=(aa a1)) (xs:=(([a1]:List Ta):List Ta)) z0 L (Ao (cs:=(aa a1)) (ds:=[]) (aG a1.fN a1.fD) (AH _ _))) hL) hw9) q6) I<|Ai I<|Aa<|Af<|Ae I<|Ab (BM (i:=D3) (j:=0) I I)<|Aa<|MX.ifn I h (fun F3 h=>?_) (fun F3 h=>?_)
 refine Ar<|Af<|Ae I<|Ab (AF I (z0.memA .t2))<|bk h fun E0 s6 h=>jE (bd 68) I (e1 I) (fun w9 hw9=>am_c n (z0.hL hL hw9) a1 s6) I fun s8 b8 c5 ⟨z1,A1,hu_,I5,M5⟩=>?_
 subst hu_
 obtain ⟨Q3,I7⟩:=z0.agr c5
 refine Ab (FV.makeFunc (vs:=[.agg #[.bool E0.fh.fc,z1,.bool E0.fe.fc,A1]]) (us:=[]) (e1 I) ao)<|Bs (fst:=[]) (cap:=[]) (vs:=[v0_0,.func (.func 80) #[.agg #[.bool E0.fh.fc,z1,.bool E0.fe.fc,A1]] #[]]) .plain (bd 83) func83 I I I I (e2 I I) I fun z7 b2 R7=>Af<|Ai I<|Ai I<|Aa<|Af<|Am .plain I (Does.makeMap (κ:=Ta) (ν:=List Vc) Q3) fun E8 b0 C2 F4=>Ab (AI (vs:=[.map (some b0)]) (u:=.agg #[.map (some b0),.bool false]) (e1 I) (fun w9=>by kernel_rfl))<|RG.bx C2 I I fun Q8 t0 D2 P2=>Ai I<|Aa<|Ak<|Af<|Ae I ?_
 have Z2:=AO h0_0 D2
 have M7:=Bg Z2
 refine Ab (Bh (xs:=a0) underlying24 I Z2)<|Ae I<|Aa<|Aw ?_
 obtain ⟨X7,F5,x5⟩:=aw h
 refine MX.lf (α:=Nat × Bool × (List (Ta × Tc)) × (List (Ta × List Vc))) (fun ⟨p0,u0,y0,c0⟩=>[(1,.func (.func 80) #[.agg #[.bool E0.fh.fc,z1,.bool E0.fe.fc,A1]] #[]),(6,vP t0),(12,v0_0),(13,vn a0.length),(14,vn p0)]) (fun ⟨p0,u0,y0,c0⟩=>[.cells t0 [.map (some b0),.bool u0] 126,.obj b0 (ay c0),rr w 34 Ta (vS J0 1) (([a1]:List Ta).length) (aa a1),rr w 24 (List Tb) (vS I0 1) (([a0]:List (List Tb)).length) [v0_0],.cells H0 (aa a1) 34]) (fun ⟨p0,u0,y0,c0⟩ B3=>MR B3 (bl [.cells t0 [.map (some b0),.bool u0] 126,.obj b0 (ay c0),rr w 34 Ta (vS J0 1) (([a1]:List Ta).length) (aa a1),rr w 24 (List Tb) (vS I0 1) (([a0]:List (List Tb)).length) [v0_0],.cells H0 (aa a1) 34] ++ L) c0 y0) (fun ⟨p0,u0,y0,c0⟩=>(p0,u0,y0)) (0,false,([]:List (Ta × Tc)),([]:List (Ta × List Vc))) F5 D2 (BE (MR.at_ (Z:=([]:List (Ta × List Vc))) (M:=([]:List (Ta × Tc))) C2 L trivial) P2) ?_
 rintro V6 ⟨p0,u0,y0,c0⟩ B3 F1 B0 s1 y1 h
 unfold aU_l1 at h
 try dsimp only at h
 refine Af<|Ab (AY (i:=p0) (j:=a0.length) I I)<|Aa<|Ak<|Bb I h (fun G3 h=>?_) (fun G3 h=>?_)
 refine Ar<|Ak<|Aw<|Af<|bk h fun E1 j6 h=>?_
 obtain ⟨R6,v7,u5,z5,y7,H5,C5⟩:=Bv (AO h0_0 B0) j6
 obtain rfl:=aY H5
 refine Ab (BJ 32 p0 I u5 I I z5)<|Ab (AF I C5)<|RG.nl [vW 0,vW 0,vW 0,vW 0,vW 0,vW 0,vW 0,vW 0,vW 0,vW 0,vW 0,vW 0,vW 0,vW 0,vW 0,vW 0,vW 0,vW 0,vW 0,vW 0,vW 0,vW 0,vW 0,vW 0,vW 0,vW 0,vW 0,vW 0,vW 0,vW 0,vW 0,vW 0] B0 fun u8 Y6 R3 P1=>AQ (aA E1) R3 .hd (ak I) fun v8 k1 Q1=>Aa<|du 8 fun q0 b1=>Rv 0 q0 I b1 (fun _=>Aj I)<|Rv 1 q0 I b1 (fun _=>Aj I)<|Rv 2 q0 I b1 (fun _=>Bw 0 I)<|Rx 3 432 q0 I b1 (AZ (cs:=(aa E1.fm)) I I (aj (k1.memA .hd) 0 16))<|Rx 6 384 q0 I b1 (AF I (k1.memA .hd))<|bk h fun P6 t6 h=>AU 4 95 q0 I .plain (bd 68) I (e1 I) (fun w9 hw9=>am_c n (k1.hL hL hw9) E1.fm t6) I fun x8 c8 d5 ⟨Y7,Z7,hu_,J5,K5⟩=>?_
 subst hu_
 obtain ⟨A2,R1⟩:=k1.agr d5
 refine bk h fun s2 u6 h=>?_
 have g3:=Tt F4 (Tt P2 (Tt s1 (Tt P1 (Tt Q1 R1))))
 refine BK (i:=5) (rk q0) (RO.call (m' :=127) (fst:=[.agg #[.bool E0.fh.fc,z1,.bool E0.fe.fc,A1]]) (cap:=[]) (sk q0) I .plain (bd 80) I (e1 I) (fun w9 hw9=>aw_c n (A2.hL hL hw9) E0 (Ah (Ag I5 g3) hw9) (Ah (Ag M5 g3) hw9) P6 (Ah J5 hw9) (Ah K5 hw9) u6) I (fun y8 d8 g5 ⟨C6,D6,hu_,P5,Q5⟩=>?_))
 subst hu_
 obtain ⟨B2,H2⟩:=A2.agr g5
 refine bk h fun j0 v6 h=>AU 7 255 q0 I .plain (bd 66) I (e1 I) (fun w9 hw9=>aK_c n (B2.hL hL hw9) E1 v6) I fun z8 g8 j5 ⟨c1,g1,hu_,u3,v3⟩=>?_
 subst hu_
 obtain ⟨U3,U1⟩:=B2.agr j5
 refine BK (i:=8) (rk q0) (RO.enterPT (m' :=511) (fst:=[]) (cap:=[]) (vs:=[vP t0,.agg #[.bool s2.fh.fc,C6,.bool s2.fe.fc,D6],.agg #[.bool j0.fh.fc,c1,.bool j0.fe.fc,g1]]) (sk q0) I I .plain (bd 86) func86 I I I I (e3 I I I) I (fun _ A7 c2 Q7=>?_))
 refine Af<|RG.bx U3 I I fun A8 Z6 V3 W0=>RG.bx V3 I I fun B8 b7 Q0 X0=>Aa<|Af<|Ab (AF I (Q0.memA .t1))<|bk h fun d0 x6 h=>?_
 have j3:=Tt U1 (Tt W0 X0)
 refine Bo (.tuple #[.agg ((aa d0.1)).toArray,vI d0.2]) (bd 77) I (e1 I) (fun w9 hw9=>ak_c n (Q0.hL0 hL hw9) s2 (Q0.kd (Ag P5 j3) hw9) (Q0.kd (Ag Q5 j3) hw9) x6) I<|Ae I<|Ab (Ac I I)<|Ab (Ac I I)<|RG.nl zL Q0 fun C8 c7 W3 u1=>AQ (aa d0.1) W3 .hd (ak I) fun D8 R0 v1=>Ai I<|Aa<|Ak<|Af<|Ae I<|Ab (BM (i:=d0.2) (j:=0) I I)<|Aa<|MX.ifn I h (fun H3 h=>?_) (fun H3 h=>?_)
 refine Ar<|du 6 fun A0 M0=>Rv 0 A0 I M0 (fun _=>Aj I)<|Rv 1 A0 I M0 (fun _=>Bf I)<|Rv 2 A0 I M0 (fun _=>Bw 0 I)<|Rx 3 64 A0 I M0 (Bx I ((R0.memA .t4) 0 _ I))<|Rx 4 64 A0 I M0 (AF I (R0.memA .hd))<|Rx 5 64 A0 I M0 (AF I (R0.memA .t1))<|BK (i:=6) (rk A0) (RO.enterPT (m' :=127) (fst:=[]) (cap:=[]) (vs:=[.map (some b0),.agg ((aa d0.1)).toArray,.agg #[.bool j0.fh.fc,c1,.bool j0.fe.fc,g1]]) (sk A0) I I .plain (bd 88) func88 I I I I (e3 I I I) I (fun _ B7 V2 U7=>?_))
 refine Af<|RG.bx R0 I I fun F8 g7 X3 V1=>RG.bx X3 I I fun G8 j7 U0 W1=>Aa<|Ak<|Af<|Ae I<|Ab (AF I (U0.memA .t1)) ?_
 have k2:=Tt P1 (Tt Q1 (Tt R1 (Tt H2 (Tt U1 (Tt W0 (Tt X0 (Tt u1 (Tt v1 (Tt V1 W1)))))))))
 have j2:=BE y1 k2
 rcases MR.get d0.1 j2 with ⟨g2,q2⟩ | ⟨C7,u2,q2,g2,R5⟩
 have h:=cw h g2
 refine Ab (FV.lookupK (kv:=d0.1) (q:=false) au U0 .t7 underlying124 (z:=.agg #[.bool false,vN,.bool false,vN]) I I I (.inl ⟨q2,I,I⟩))<|Ae I<|Ab (Ac I I)<|Ab (Ac I I)<|RG.nl [.bool false,vN,.bool false,vN] U0 fun H8 k7 Y3 X1=>AQ [.bool false,vN,.bool false,vN] Y3 .hd (ak I) fun I8 G1 Y1=>Ai I<|Aa<|Af<|Ae I<|Aa<|BG I<|Ar<|Ap<|Ae I<|Ab (AF I (G1.memA .t2))<|Ab (AF I (G1.memA .t1)) ?_
 have k3:=Tt W0 (Tt X0 (Tt u1 (Tt v1 (Tt V1 (Tt W1 (Tt X1 Y1))))))
 refine RG.now .plain (BA (kv:=d0.1) (vv:=[.bool j0.fh.fc,c1,.bool j0.fe.fc,g1]) au G1 .t8 underlying124 I I I) fun J8 Z3 I2=>Aa<|MX.fin I<|Aq (u:=.tuple #[]) V2 func88 I .nil I<|AN (dk A0)<|MX.fin I<|Aq (u:=.tuple #[]) c2 func86 I .nil I<|AN (dk q0)<|Ay<|Ap<|Ab (Bj (i:=p0) (j:=1) I I (by omega))<|Ae I<|Aa ?_
 obtain ⟨b4,J2⟩:=AA Z3 .d7
 exact F1 (p0 + 1,u0,aB y0 d0.1 j0,(aB c0 d0.1 [.bool j0.fh.fc,c1,.bool j0.fe.fc,g1])) b4 (Tt s1 (Tt k2 (Tt X1 (Tt Y1 (Tt I2 J2))))) (BE (MR.set (k:=d0.1) (c:=[.bool j0.fh.fc,c1,.bool j0.fe.fc,g1]) (y:=j0) (bT j0.fh (Ag u3 k3) j0.fe (Ag v3 k3)) (BE j2 (Tt X1 Y1))) (Tt I2 J2)) h
 have h:=ct h g2
 obtain ⟨E6,F6,rfl,U5,V5⟩:=cp R5
 refine Ab (FV.lookupK (kv:=d0.1) (q:=true) au U0 .t7 underlying124 (z:=.agg #[.bool false,vN,.bool false,vN]) I I I (.inr ⟨_,q2,I,I⟩))<|Ae I<|Ab (Ac I I)<|Ab (Ac I I)<|RG.nl [.bool false,vN,.bool false,vN] U0 fun K8 p7 c4 Y0=>?_
 have X2:=Ag U5 Y0
 have Y2:=Ag V5 Y0
 refine AQ [.bool u2.fh.fc,E6,.bool u2.fe.fc,F6] c4 .hd (o4 I (AE X2) I (AE Y2)) fun M8 p1 Z0=>Ai I<|Aa<|Af<|Ae I<|Aa<|AW I<|Ap<|Ab (AF I (p1.memA .t1))<|Ab (AF I (p1.memA .hd))<|bk h fun x0 y6 h=>?_
 have p3:=Tt W0 (Tt X0 (Tt u1 (Tt v1 (Tt V1 (Tt W1 (Tt Y0 Z0))))))
 refine jE (bd 81) I (e2 I I) (fun w9 hw9=>ae_c n (p1.hL hL hw9) j0 (Ah (Ag u3 p3) hw9) (Ah (Ag v3 p3) hw9) u2 (Ah (Ag X2 Z0) hw9) (Ah (Ag Y2 Z0) hw9) y6) I fun P8 j8 k5 ⟨B1,C1,hu_,x3,y3⟩=>?_
 subst hu_
 obtain ⟨g4,K2⟩:=p1.agr k5
 refine AQ [.bool x0.fh.fc,B1,.bool x0.fe.fc,C1] g4 .t1 (o4 I (AE x3) I (AE y3)) fun R8 H1 x1=>Aa<|Ap<|Ae I<|Ab (AF I (H1.memA .t2))<|Ab (AF I (H1.memA .t1))<|RG.now .plain (BA (kv:=d0.1) (vv:=[.bool x0.fh.fc,B1,.bool x0.fe.fc,C1]) au H1 .t8 underlying124 I I I) fun U8 j4 M2=>Aa<|MX.fin I<|Aq (u:=.tuple #[]) V2 func88 I .nil I<|AN (dk A0)<|MX.fin I<|Aq (u:=.tuple #[]) c2 func86 I .nil I<|AN (dk q0)<|Ay<|Ap<|Ab (Bj (i:=p0) (j:=1) I I (by omega))<|Ae I<|Aa ?_
 obtain ⟨k4,Q2⟩:=AA j4 .d7
 exact F1 (p0 + 1,u0,aB y0 d0.1 x0,(aB c0 d0.1 [.bool x0.fh.fc,B1,.bool x0.fe.fc,C1])) k4 (Tt s1 (Tt k2 (Tt Y0 (Tt Z0 (Tt K2 (Tt x1 (Tt M2 Q2))))))) (BE (MR.set (k:=d0.1) (c:=[.bool x0.fh.fc,B1,.bool x0.fe.fc,C1]) (y:=x0) (bT x0.fh (Ag x3 x1) x0.fe (Ag y3 x1)) (BE j2 (Tt Y0 (Tt Z0 (Tt K2 x1))))) (Tt M2 Q2)) h
 refine Af<|Ae I<|Ab (Bf I)<|BB 1 I<|RG.now .plain (BL (j:=1) (old:=[.map (some b0),.bool u0]) (news:=[.bool true]) (new' :=[.map (some b0),.bool true]) R0 .t4 I I I I I I (o1 I) I) fun V8 p4 G4=>Aa<|Au I<|Aq (u:=.tuple #[]) c2 func86 I .nil I<|AN (dk q0)<|Ay<|Ap<|Ab (Bj (i:=p0) (j:=1) I I (by omega))<|Ae I<|Aa ?_
 obtain ⟨q4,H4⟩:=AA p4 .d4
 have q3:=Tt P1 (Tt Q1 (Tt R1 (Tt H2 (Tt U1 (Tt W0 (Tt X0 (Tt u1 (Tt v1 (Tt G4 H4)))))))))
 exact F1 (p0 + 1,true,y0,c0) q4 (Tt s1 q3) (BE y1 q3) h
 refine Bd I ?_
 have h:=x5 _ h
 try dsimp only at h
 refine Af<|Ae I<|Bs (fst:=[]) (cap:=[]) (vs:=[vP t0]) .plain (bd 87) func87 I I I I (e1 I) I fun D7 d2 V7=>Af<|Ai I<|Ai I<|Aa<|Ak<|Af<|Ae I<|Ab (Bf I)<|BB 0 I<|BH I ((B0.memA .hd) 0 _ I)<|Ab (FV.as (FV.len_map (D:=c0) B0 .t1 underlying124 I) (congrArg (fun n9:Nat=>Value.int .i64 (n9:Int)) (MR.len y1)))<|Ab (FV.gtrN (i:=y0.length) (j:=400) I I)<|Aa<|Bb I h (fun I3 h=>?_) (fun I3 h=>?_)
 refine Af<|Ai I<|Ai I<|Aa<|Au I<|Aq (u:=.tuple #[vN,vI 3]) d2 func87 I (.cons (.tmp I) (.cons (.tmp I) .nil)) I<|Ab (Ac I I)<|Ab (Ac I I)<|Ai I<|Ai I<|Aa<|Au I<|Aq (u:=.tuple #[vN,vI 3]) b2 func83 I (.cons (.tmp I) (.cons (.tmp I) .nil)) I<|Ab (Ac I I)<|Ab (Ac I I)<|Ai I<|Ai I<|Aa<|Au I ?_
 have W5:=Bq (α:=Tb) B0 L
 refine Aq hb0 func29 I (.cons (.tmp I) (.cons (.tmp I) .nil)) I ?_
 cases h
 exact ⟨B0.ag,fun w9 hw9=>⟨vN,I,B0.kd W5 hw9⟩⟩
 refine Ar<|Af<|Ai I<|Aa<|Ak<|Af<|Ae I<|Ab (Bf I)<|BB 0 I<|BH I ((B0.memA .hd) 0 _ I)<|Am .plain I (Does.range (D:=c0) B0 .t1 underlying124 I) fun J6 K0 E2 I4=>Aa<|Aw ?_
 have F2:=E2.nilRow 37 (Rep.size Tb)
 refine MX.mloop (α:=(List Tb) × Bool × Vc × (List Vc) × (Array Nat)) (fun ⟨v0,C0,s0,F0,D0⟩=>[(0,vP t0),(4,s0),(19,vP K0)]) (fun A3 ⟨v0,C0,s0,F0,D0⟩ D1=>St w D1 [rr w 37 Tb s0 v0.length F0,.obj K0 (aC b0 c0.length D0),.cells t0 [.map (some b0),.bool C0] 126,.obj b0 (ay c0),rr w 34 Ta (vS J0 1) (([a1]:List Ta).length) (aa a1),rr w 24 (List Tb) (vS I0 1) (([a0]:List (List Tb)).length) [v0_0],.cells H0 (aa a1) 34]/\Tr J6 [rr w 37 Tb vN (([]:List Tb).length) [],.obj K0 (aC b0 c0.length #[]),.cells t0 [.map (some b0),.bool u0] 126,.obj b0 (ay c0),rr w 34 Ta (vS J0 1) (([a1]:List Ta).length) (aa a1),rr w 24 (List Tb) (vS I0 1) (([a0]:List (List Tb)).length) [v0_0],.cells H0 (aa a1) 34] D1 [rr w 37 Tb s0 v0.length F0,.obj K0 (aC b0 c0.length D0),.cells t0 [.map (some b0),.bool C0] 126,.obj b0 (ay c0),rr w 34 Ta (vS J0 1) (([a1]:List Ta).length) (aa a1),rr w 24 (List Tb) (vS I0 1) (([a0]:List (List Tb)).length) [v0_0],.cells H0 (aa a1) 34]/\Cells D1 (bl [rr w 37 Tb s0 v0.length F0,.obj K0 (aC b0 c0.length D0),.cells t0 [.map (some b0),.bool C0] 126,.obj b0 (ay c0),rr w 34 Ta (vS J0 1) (([a1]:List Ta).length) (aa a1),rr w 24 (List Tb) (vS I0 1) (([a0]:List (List Tb)).length) [v0_0],.cells H0 (aa a1) 34] ++ L) F0 v0/\left y0 D0 = A3) (fun ⟨v0,C0,s0,F0,D0⟩=>(v0,C0)) (([]:List Tb),u0,vN,[],#[]) h ⟨rfl,rfl,rfl,trivial⟩ ⟨F2,Tr.refl _ _,(AC (cs:=[]) (xs:=([]:List Tb)) F2 L (AH _ _)),(cn _)⟩ ?_
 rintro A3 ⟨v0,C0,s0,F0,D0⟩ D1 W6 P3 ⟨s4,R2,W2,A5⟩ D5 s5
 refine Af<|RG.nextR (W:=c0) (BE y1 (Tt I4 (Tt (St.nilRowT E2 37 (Rep.size Tb)) R2))) s4 .t3 (fun _=>.t1) I I A5 (fun W8 E5 G0 J4=>?_) (fun X8 z3 g0 E7 B6 y5 X5 G5 B5 G2 K4=>?_)
 have h:=D5 E5
 try dsimp only at h
 refine Ab (Ac I I)<|Aa<|Ak<|BG I<|Bd I<|Ak<|Af<|Ae I<|Ab (Bf I)<|BB 1 I<|BH I ((G0.memA .t2) 1 _ I)<|Aa<|MX.ifb I h (fun J3 h=>?_) (fun J3 h=>?_)
 refine Af<|Ai I<|Ai I<|Aa<|Au I<|Aq (u:=.tuple #[vN,vI 6]) d2 func87 I (.cons (.tmp I) (.cons (.tmp I) .nil)) I<|Ab (Ac I I)<|Ab (Ac I I)<|Ai I<|Ai I<|Aa<|Au I<|Aq (u:=.tuple #[vN,vI 6]) b2 func83 I (.cons (.tmp I) (.cons (.tmp I) .nil)) I<|Ab (Ac I I)<|Ab (Ac I I)<|Ai I<|Ai I<|Aa<|Au I ?_
 have Y5:=Bq (α:=Tb) G0 L
 refine Aq hb0 func29 I (.cons (.tmp I) (.cons (.tmp I) .nil)) I ?_
 cases h
 exact ⟨G0.ag,fun w9 hw9=>⟨vN,I,G0.kd Y5 hw9⟩⟩
 refine Ar<|Af<|Ae I<|Bs (fst:=[]) (cap:=[]) (vs:=[s0,.func (.func 144) #[] #[]]) .plain (bd 143) func143 I I I I (e2 I I) I fun F7 p5 W7=>Af<|Ae I ?_
 have P7:v0.length <= 4294967296:=St.rowLe (α:=Tb) G0 .hd
 obtain ⟨U6,x7,v5⟩:=St.rowV (α:=Tb) G0 .hd
 refine Ab (FV.lenV underlying24 I v5)<|Ai I<|Aa<|Ap<|Ae I<|Ae I<|Ae I<|Ab (FV.convU (i:=((v0.length:Nat):Int)) underlying3 underlying193 I)<|bk h fun E3 z6 h=>Bo (vI E3) (bd 174) I (e1 I) (fun w9 hw9=>aQ_c n (G0.hL0 hL hw9) (ai ((v0.length:Nat):Int)) z6) I<|Ae I<|bk h fun C3 k6 h=>RG.sort (enc:=aA) (ρ:=Tryz.srt173_ren) (c:=(fun x9 y9=>aj_p n x9 y9)) (li:=E3) k6 I (fun _ _ _ _ h9=>aY h9) (fun w9 L9 z9=>bg (w:=w9) (L:=L9) z9.fm z9.fP) Tryz.srt173 (fun w9=>Tryz.isAgg37 w9) (fun w9=>Tryz.sizeOf37 w9) (enters_of func144 I I) (fun x9 y9 r9 w9 h9=>aj_c n (L:=[]) (w:=w9) (fun _ h8=>nomatch h8) x9 y9 h9) .plain (bd 173) I (e5 I I I I I) I G0 (AK W2 J4) .hd fun K6 q1 J7=>Aa<|MX.fin I<|Aq (u:=.tuple #[]) p5 func143 I .nil I<|Aa<|Af<|Ae I<|Ai I<|Ai I<|Aa<|Au I<|Aq (u:=.tuple #[s0,vI 0]) d2 func87 I (.cons (.tmp I) (.cons (.tmp I) .nil)) I<|Ab (Ac I I)<|Ab (Ac I I)<|Ai I<|Ai I<|Aa<|Au I<|Aq (u:=.tuple #[s0,vI 0]) b2 func83 I (.cons (.tmp I) (.cons (.tmp I) .nil)) I<|Ab (Ac I I)<|Ab (Ac I I)<|Ai I<|Ai I<|Aa<|Au I ?_
 have I1:=Bl q1 .hd
 have K7:=Bm q1 .hd
 have Z5:=Bn (α:=Tb) (v:=s0) (xs:=C3) I1 L (Ba (α:=Tb) q1 .hd (AC q1 L (bp (α:=Tb) (enc:=aA) (fun w9 L9 z9=>bg (w:=w9) (L:=L9) z9.fm z9.fP) K6 _ C3)) hL)
 refine Aq hb0 func29 I (.cons (.tmp I) (.cons (.tmp I) .nil)) I ?_
 cases h
 exact ⟨I1.ag,fun w9 hw9=>⟨s0,I,I1.kd Z5 hw9⟩⟩
 obtain ⟨G6,H6,rfl,b6,c6⟩:=cp X5
 have h:=s5 _ _ G5
 unfold cA at h
 try dsimp only at h
 refine Ab (Ac I I)<|Aa<|Ak<|AW I<|Ar<|Aw<|Af<|Ab (FV.entry (D:=c0) G2 .t3 .t1 y5 I)<|Ab (Ac I I)<|Ab (Ac I I)<|RG.nl zL G2 fun Y8 v2 u4 M4=>RG.nl [.bool false,vN,.bool false,vN] u4 fun Z8 q7 v4 P4=>AQ (aa g0.1) v4 .t1 (ak I) fun b9 x4 Q4=>?_
 have p2:=Tt K4 (Tt M4 (Tt P4 Q4))
 have b3:=Ag b6 p2
 have c3:=Ag c6 p2
 refine AQ [.bool g0.2.fh.fc,G6,.bool g0.2.fe.fc,H6] x4 .hd (o4 I (AE b3) I (AE c3)) fun c9 V0 Z1=>Aa<|Af<|Ab (AF I (V0.memA .hd))<|bk h fun k0 A6 h=>Bo (.tuple #[.agg ((aa k0.1)).toArray,vI k0.2]) (bd 77) I (e1 I) (fun w9 hw9=>ak_c n (V0.hL0 hL hw9) g0.2 (V0.kd (Ag b3 Z1) hw9) (V0.kd (Ag c3 Z1) hw9) A6) I<|Ae I<|Ab (Ac I I)<|Ab (Ac I I)<|RG.nl zL V0 fun d9 x2 y4 R4=>AQ (aa k0.1) y4 .hd (ak I) fun g9 J1 U4=>Ai I<|Aa<|Ak<|Af<|Ae I<|Ab (BM (i:=k0.2) (j:=0) I I)<|Aa<|MX.jo (α:=Bool) (fun P0=>[(0,vP t0),(4,s0),(19,vP K0),(5,vP v2),(7,vP x2)]) (fun P0=>[.cells x2 (aa k0.1) 34,.cells v2 (aa g0.1) 34,rr w 37 Tb s0 v0.length F0,.obj K0 (aC b0 c0.length (D0.push z3)),.cells t0 [.map (some b0),.bool P0] 126,.obj b0 (ay c0),rr w 34 Ta (vS J0 1) (([a1]:List Ta).length) (aa a1),rr w 24 (List Tb) (vS I0 1) (([a0]:List (List Tb)).length) [v0_0],.cells H0 (aa a1) 34]) (fun P0=>P0) J1 h ?_ ?_
 rintro P0 q9 K1 V4 h
 try dsimp only at h
 refine Ap<|Ae I<|Ab (AF I (K1.memA .t1))<|Ab (AF I (K1.memA .hd))<|Ab (AI (vs:=[.agg ((aa g0.1)).toArray,.agg ((aa k0.1)).toArray]) (u:=.agg ((aa g0.1 ++ aa k0.1)).toArray) (e2 I I) (fun w9=>by kernel_rfl))<|Am .plain I (AG (α:=Tb) (xs:=([(⟨g0.1,k0.1⟩:Tb)]:List Tb)) (vs:=[.agg ((aa g0.1 ++ aa k0.1)).toArray]) (ds' :=(aa g0.1 ++ aa k0.1)) I K1 dq I (e1 I) (by kernel_rfl) I) fun j9 s7 M1 W4=>bk h fun M6 p6 h=>?_
 have s3:=Tt p2 (Tt Z1 (Tt R4 (Tt U4 (Tt V4 W4))))
 refine BN .plain I (Bz (α:=Tb) (ys:=([(⟨g0.1,k0.1⟩:Tb)]:List Tb)) p6 M1 (fun _ _=>.t3) dq I I (AK W2 s3) (Src.row (α:=Tb) M1 .hd (AC (cs:=(aa g0.1 ++ aa k0.1)) (xs:=(([(⟨g0.1,k0.1⟩:Tb)]:List Tb):List Tb)) M1 L (Ao (cs:=(aa g0.1 ++ aa k0.1)) (ds:=[]) (bg g0.1 k0.1) (AH _ _))))) fun I6 k9 ⟨M3,z4,X4,q5⟩=>Ai I<|Aa<|Ay ?_
 obtain ⟨A4,U2⟩:=AA z4 .d3
 exact P3 B6 (M6,P0,I6,M3,(D0.push z3)) _ _ ⟨I,I,I,trivial⟩ ⟨A4,(Tt R2 (Tt s3 (Tt X4 U2))),(AK q5 U2),B5⟩ h
 intro X6 y2 h
 try dsimp only at h
 refine MX.ifn I h (fun K3 h=>?_) (fun K3 h=>?_)
 refine Ar ?_
 obtain ⟨B4,Y4⟩:=AA J1 (.a0 .d1)
 exact y2 C0 B4 Y4 h
 refine Ap<|Ae I<|Ab (Bf I)<|BB 1 I<|RG.now .plain (BL (j:=1) (old:=[.map (some b0),.bool C0]) (news:=[.bool true]) (new' :=[.map (some b0),.bool true]) J1 .t5 I I I I I I (o1 I) I) fun p9 C4 Z4=>Aa ?_
 obtain ⟨D4,b5⟩:=AA C4 (.a0 .d1)
 exact y2 true D4 (Tt Z4 b5) h
 refine Af<|Ae I<|Ai I<|Ai I<|Aa<|Au I ?_
 have d6:=Bq (α:=Tb) z0 L
 refine Aq hb0 func29 I (.cons (.tmp I) (.cons (.tmp I) .nil)) I ?_
 cases h
 exact ⟨z0.ag,fun w9 hw9=>⟨vN,I,z0.kd d6 hw9⟩⟩
def ar_p (n:Nat) (a0:Ta) (a1:Int) (a2:Int) (a3:Int):Oa Bool:=
  (ac_p n a2 a3).bind fun b0=>(if a0 = b0 then some (decide (a1 = 0)) else some false)
theorem ar_c (n:Nat) {L w} (hL:hl L w) (a0:Ta) {a1:Int} {a2:Int} {p2:Nat} (m2:∀ j9 v9,([vI a2]:List Vc)[j9]? = some v9 -> w.cell? ((⟨p2,0,none⟩:Addr).add j9) = some v9) {a3:Int} {p3:Nat} (m3:∀ j9 v9,([vI a3]:List Vc)[j9]? = some v9 -> w.cell? ((⟨p3,0,none⟩:Addr).add j9) = some v9)  {r:Bool} (h:ar_p n a0 a1 a2 a3 = some r) :
 Cl 92 #[.agg ((aa a0)).toArray,vI a1,.pointer (some ⟨p2,0,none⟩),.pointer (some ⟨p3,0,none⟩)] w (ar w fun _ u=>u = .bool r):=by
 unfold ar_p at h
 refine AT func92 I I I fun _ cs0 hb0=>Af<|RG.bx (AS w) I I fun s0 p0 d0 q0=>Ai I<|Aa<|Ak<|du 10 fun b0 c0=>Rx 0 1008 b0 I c0 (AF I (d0.memA .hd))<|Rx 1 1016 b0 I c0 (Bx I ((fun j9 v9 h9=>d0.ag.cell0 (m2 j9 v9 h9)) 0 _ I))<|Rx 2 1016 b0 I c0 (Bx I ((fun j9 v9 h9=>d0.ag.cell0 (m3 j9 v9 h9)) 0 _ I))<|bk h fun g0 k0 h=>RD.cq 3 15 1008 (.agg ((aa g0)).toArray) b0 I c0 (bd 15) I (e2 I I) (fun w9 hw9=>ac_c n (d0.hL0 hL hw9)  k0) I<|Rv 4 b0 I c0 (fun _=>FV.eqlV (v:=.agg ((aa a0)).toArray) (u:=.agg ((aa g0)).toArray) I I (fw a0 g0))<|Rv 5 b0 I c0 (fun _=>Aj I)<|RD.ifd (s:=12) I h (fun j0 h=>?_) (fun j0 h=>?_)
 refine AX 6 127 b0 I c0 (.yes I I) (fun _=>Aj I) I<|AX 7 255 b0 I c0 (.yes I I) (fun _=>FV.eql (i:=a1) (j:=0) I I) I<|Rv 8 b0 I c0 (fun _=>Bc I I)<|Rv 9 b0 I c0 (fun _=>Bk I)<|AN (dk b0)<|Au I<|By hb0 func92 I I ?_
 cases h
 exact d0.gv
 refine Bu 255 2 [(6,13),(7,14)] (F:=[(12,false)]) (U:=[]) b0 c0 (.cons I .nil) .nil ?_
 dsimp only [aQ,List.map]
 refine Rv 8 b0 I c0 (fun _=>Be I I)<|Rv 9 b0 I c0 (fun _=>Bk I)<|AN (dk b0)<|Au I<|By hb0 func92 I I ?_
 cases h
 exact d0.gv
theorem ba_c (_n:Nat) {L w} (_hL:hl L w) (a0:Int) (a1:Int)  :
 Cl 30 #[vI a0,vI a1] w (ar w fun w' u=>∃ b0 c0:Nat,u = .func (.func 92) #[] #[vP b0,vP c0]/\St w w' [.cells b0 [vI a0] 3,.cells c0 [vI a1] 3]):=by
 refine AT func30 I I I fun _ cs0 hb0=>Af<|RG.bx (AS w) I I fun t0 b0 j0 p0=>RG.bx j0 I I fun u0 c0 k0 q0=>Ai I<|Aa<|Af<|Ab (FV.makeFunc (vs:=[]) (us:=[vP b0,vP c0]) ao (e2 I I))<|Ai I<|Aa<|Au I<|Aq (u:=.func (.func 92) #[] #[vP b0,vP c0]) hb0 func30 I (.cons (.tmp I) .nil) I ?_
 obtain ⟨g0,s0⟩:=AA k0 (.a1 .d0)
 exact ⟨g0.ag,fun w9 hw9=>⟨b0,c0,I,g0.agree hw9⟩⟩
def bR_p (n:Nat) (a0:Ta):Oa Bool:=
  (am_p n a0).bind fun b0=>(aI_p n b0.fh).bind fun c0=>some (decide (c0 < 0))
theorem bR_c (n:Nat) {L w} (hL:hl L w) (a0:Ta)  {r:Bool} (h:bR_p n a0 = some r) :
 Cl 94 #[.agg ((aa a0)).toArray] w (ar w fun _ u=>u = .bool r):=by
 unfold bR_p at h
 refine AT func94 I I I fun _ cs0 hb0=>Af<|RG.bx (AS w) I I fun A0 u0 b0 v0=>Ai I<|Aa<|Af<|Ab (AF I (b0.memA .hd))<|bk h fun d0 p0 h=>jE (bd 68) I (e1 I) (fun w9 hw9=>am_c n (b0.hL hL hw9) a0 p0) I fun B0 z0 j0 ⟨s0,t0,hu_,k0,y0⟩=>?_
 subst hu_
 obtain ⟨c0,x0⟩:=b0.agr j0
 refine Ab (FV.fieldN (cs:=[.bool d0.fh.fc,s0,.bool d0.fe.fc,t0]) (off:=0) (m:=2) I I I I)<|bk h fun g0 q0 h=>Bo (vI g0) (bd 67) I (e1 I) (fun w9 hw9=>aI_c n (c0.hL0 hL hw9) d0.fh (c0.kd k0 hw9) q0) I<|Ab (FV.lss (i:=g0) (j:=0) I I)<|Ai I<|Aa<|Au I<|By hb0 func94 I I ?_
 cases h
 exact c0.gv
end Go.Proofs.YtkommhmbkbhmlaaGreat
