import Derived.Test.YtkommhmbkbhmlaaGreatVT4
namespace Go.Proofs.YtkommhmbkbhmlaaGreat
open Go Go.RowKit Tryz
set_option maxRecDepth 4000
set_option maxHeartbeats 4000000

def bY_l1 (n:Nat) (a1:List Tb) (t0:Tb) (k0:Nat × (List (ByteArray × Bool)) × Bool × (List (Ta × Tc)) -> Option ((List (ByteArray × Bool)) × Bool × (List (Ta × Tc)))):Nat × (List (ByteArray × Bool)) × Bool × (List (Ta × Tc)) -> Option ((List (ByteArray × Bool)) × Bool × (List (Ta × Tc)))
  | (c0,g0,p0,b0)=>(if c0 < a1.length then (a1[c0]?).bind fun u0=>(ai_p n t0.fl).bind fun x0=>(ai_p n u0.fl).bind fun y0=>(aa_p n x0 y0).bind fun q0=>(ab_p n q0).bind fun z0=>jn (fun j0=>(aJ_p n t0).bind fun A0=>(aJ_p n u0).bind fun B0=>(ao_p n A0 B0).bind fun v0=>(ab_p n q0).bind fun d0=>(if d0.2 = 0 then dn (bf b0 d0.1) (k0 (c0 + 1,j0,p0,aC b0 d0.1 v0)) (fun C0=>(aa_p n v0 C0).bind fun D0=>k0 (c0 + 1,j0,p0,aC b0 d0.1 D0)) else k0 (c0 + 1,j0,true,b0))) (fun s0=>(if z0.2 = 0 then s0 g0 else (bX_p n q0).bind fun E0=>s0 (aC g0 E0 true))) else some (g0,p0,b0))
def cC (n:Nat) (c0:Ta × Tc) (g0:(List Tb) × Bool -> Option ((List Tb) × Int)):(List Tb) × Bool -> Option ((List Tb) × Int)
  | (p0,j0)=>(ab_p n c0.2).bind fun d0=>jn (fun k0=>(app p0 ([(⟨c0.1,d0.1⟩:Tb)]:List Tb)).bind fun q0=>g0 (q0,k0)) (fun b0=>(if d0.2 = 0 then b0 j0 else b0 true))
def bY_l2 (n:Nat) (a0:List Tb) (a1:List Tb) (p0:Nat × (List (ByteArray × Bool)) × Bool × (List (Ta × Tc)) -> Option ((List (Ta × Tc)) × (List (ByteArray × Bool)) × Bool)):Nat × (List (ByteArray × Bool)) × Bool × (List (Ta × Tc)) -> Option ((List (Ta × Tc)) × (List (ByteArray × Bool)) × Bool)
  | (b0,c0,g0,d0)=>(if b0 < a0.length then (a0[b0]?).bind fun s0=>Option.bind (au (bY_l1 n a1 s0) n (0,c0,g0,d0)) (fun (j0,q0,k0)=>p0 (b0 + 1,j0,q0,k0)) else some (d0,c0,g0))
def bY_p (n:Nat) (a0:List Tb) (a1:List Tb):Option ((List Tb) × Int):=
  (al_p n ([a0,a1]:List (List Tb)) ([]:List Ta)).bind fun d0=>(if d0 = 0 then Option.bind (au (bY_l2 n a0 a1) n (0,([]:List (ByteArray × Bool)),false,([]:List (Ta × Tc)))) (fun (b0,g0,j0)=>(chk (((b0.length:Nat):Int) + ((g0.length:Nat):Int))).bind fun p0=>(if 400 < p0 then some (([]:List Tb),(3:Int)) else (if 400 < b0.length then some (([]:List Tb),(3:Int)) else mloop (fun (c0,k0)=>(if k0 = true then some (([]:List Tb),(6:Int)) else (aR_p n (ac ((c0.length:Nat):Int))).bind fun s0=>(dD (fun x9 y9=>ae_p n x9 y9) s0 c0).bind fun q0=>some (q0,(0:Int)))) (cC n) n b0 (([]:List Tb),j0)))) else some (([]:List Tb),d0))
theorem bY_c (n:Nat) {L w} (hL:hl L w) {a0:List Tb} {v0_0:Value} (h0_0:Rep.R w L [v0_0] a0) {a1:List Tb} {v1_0:Value} (h1_0:Rep.R w L [v1_0] a1)  {r:(List Tb) × Int} (h:bY_p n a0 a1 = some r) :
 Cl 24 #[v0_0,v1_0] w (ak w fun w' u=>∃ v0_0:Value,u = .tuple #[v0_0,vI r.2]/\Rep.R w' L [v0_0] r.1):=by
 unfold bY_p at h
 refine AN func24 rfl rfl rfl fun _ cs0 hb0=>Ae<|Ai rfl<|Ai rfl<|Aa<|Aj<|Ae<|Ac rfl<|Ac rfl ?_
 obtain ⟨A11,c12,A00,_⟩:=Rep.sl h0_0
 obtain ⟨A14,c15,B00,_⟩:=Rep.sl h1_0
 refine Ak .plain rfl (AB (α:=List Tb) (xs:=([a0,a1]:List (List Tb))) (vs:=[v0_0,v1_0]) (ds' :=[v0_0,v1_0]) rfl (AM w) iY rfl (e2 rfl rfl) (by rw [A00,B00]; try kernel_rfl) rfl) fun w17 I0 p1 z02=>bk h fun k6 U00 h=>Bi (vI k6) (bd 63) rfl (e2 rfl rfl) (fun w9 hw9=>al_c n (p1.hL0 hL hw9) (Af (St.lend (α:=List Tb) (L:=L) p1 .hd (Az (cs:=[v0_0,v1_0]) (xs:=(([a0,a1]:List (List Tb)):List (List Tb))) p1 L (Ao (cs:=[v0_0]) (ds:=[v1_0]) (AL h0_0 p1) (Ao (cs:=[v1_0]) (ds:=[]) (AL h1_0 p1) (AA _ _)))) hL) hw9) (Af (Rep.nilSlice _ _) hw9) U00) rfl<|Ai rfl<|Aa<|Ae<|Ac rfl<|Ab (BM (i:=k6) (j:=0) rfl rfl)<|Aa<|MX.ifn rfl h (fun A6 h=>?_) (fun A6 h=>?_)
 refine Aw<|Ae<|Ak .plain rfl (Does.makeMap (κ:=Ta) (ν:=List Value) p1) fun w27 b0 V4 I02=>Ab (AQ (vs:=[.map (some b0)]) (u:=.agg #[.map (some b0),.bool false]) (e1 rfl) (fun w9=>by kernel_rfl))<|RG.bx V4 rfl rfl fun w33 c0 R7 U8=>RG.nl [.pointer none] R7 fun w38 x0 U7 V8=>AO [vP c0] U7 .hd (o1 rfl) fun w42 V7 W8=>Aa<|Ae<|Ak .plain rfl (Does.makeMap (κ:=ByteArray) (ν:=Bool) V7) fun w46 d0 W7 X8=>RG.nl [.map none] W7 fun w51 D0 X7 Y8=>AO [.map (some d0)] X7 .hd (o1 rfl) fun w55 W4 Z8=>Aa<|Aj<|Ae<|Ac rfl<|Ac rfl<|Bu (fst:=[]) (cap:=[]) (vs:=[v0_0,v1_0]) .plain (bd 84) func84 rfl rfl rfl rfl (e2 rfl rfl) rfl fun x02 u9 W02=>Ae<|RG.bx W4 rfl (Rep.c1 (AL h0_0 W4)) fun w63 q0 X4 b9=>?_
 refine RG.bx X4 rfl (Rep.c1 (AL h1_0 X4)) fun w69 k0 Y7 c9=>Ai rfl<|Aa<|Ae<|Ab (FV.makeFunc (vs:=[]) (us:=[vP q0,vP k0]) ar (e2 rfl rfl))<|Ai rfl<|Aa<|Ax rfl<|Ap (u:=.func (.func 142) #[] #[vP q0,vP k0]) u9 func84 rfl (.cons (.tmp rfl) .nil) rfl<|Aa<|AC<|MX.rangeP (lb:=[vP q0,vP k0]) rfl Y7 rfl (bd 142) func142 rfl rfl rfl fun w73 b1 H0 A1 y02 d4 d9 V00 v9 X02=>Ae<|Bo rfl ((d4.memA .t3) 0 _ rfl) ?_
 have v5:=AL h0_0 d4
 have M02:a0.length <= 281474976710656:=AT v5
 refine Ab (AY (xs:=a0) underlying24 rfl v5)<|Ac rfl<|Aa<|AC ?_
 obtain ⟨Y02,W9,F9⟩:=ap h
 refine MX.lf (α:=Nat × (List (ByteArray × Bool)) × Bool × (List (Ta × Tc)) × (List (Ta × List Value))) (fun ⟨U0,u0,g1,V0,g0⟩=>[(0,.func (.yield b1) #[] #[]),(2,vP k0),(8,v0_0),(9,vI ((a0.length:Nat):Int)),(10,vI ((U0:Nat):Int))]) (fun ⟨U0,u0,g1,V0,g0⟩=>[.obj b1 (lpO A1 .ready none),.obj H0 (.deferred (some [])),.cells k0 [v1_0] 24,.cells q0 [v0_0] 24,.cells D0 [.map (some d0)] 127,.obj d0 (ax (u0:List (ByteArray × Bool))),.cells x0 [vP c0] 122,.cells c0 [.map (some b0),.bool g1] 126,.obj b0 (ax g0),rr w 24 (List Tb) (vS I0 2) (([a0,a1]:List (List Tb)).length) [v0_0,v1_0]]) (fun ⟨U0,u0,g1,V0,g0⟩ c6=>MR c6 (bl [.obj b1 (lpO A1 .ready none),.obj H0 (.deferred (some [])),.cells k0 [v1_0] 24,.cells q0 [v0_0] 24,.cells D0 [.map (some d0)] 127,.obj d0 (ax (u0:List (ByteArray × Bool))),.cells x0 [vP c0] 122,.cells c0 [.map (some b0),.bool g1] 126,.obj b0 (ax g0),rr w 24 (List Tb) (vS I0 2) (([a0,a1]:List (List Tb)).length) [v0_0,v1_0]] ++ L) g0 V0) (fun ⟨U0,u0,g1,V0,g0⟩=>(U0,u0,g1,V0)) (0,([]:List (ByteArray × Bool)),false,([]:List (Ta × Tc)),([]:List (Ta × List Value))) W9 d4 (BG (MR.at_ (Z:=([]:List (Ta × List Value))) (M:=([]:List (Ta × Tc))) V4 L trivial) (Tt U8 (Tt V8 (Tt W8 (Tt X8 (Tt Y8 (Tt Z8 (Tt b9 (Tt c9 d9))))))))) ?_
 rintro E01 ⟨U0,u0,g1,V0,g0⟩ c6 C6 K3 Z7 z4 h
 unfold bY_l2 at h
 try dsimp only at h
 refine Ae<|Ab (Bb (i:=U0) (j:=a0.length) rfl rfl)<|Aa<|Aj<|AS rfl h (fun p6 h=>?_) (fun p6 h=>?_)
 refine Aw<|Aj<|AC<|Ae<|bk h fun p0 C00 h=>?_
 obtain ⟨A01,Z01,C9,I9,g02,Z9,P9⟩:=Bl (AL h0_0 K3) C00
 obtain rfl:=ba Z9
 refine Ab (Bx 32 U0 rfl C9 rfl rfl I9)<|Ab (Au rfl P9)<|RG.nl [vW 0,vW 0,vW 0,vW 0,vW 0,vW 0,vW 0,vW 0,vW 0,vW 0,vW 0,vW 0,vW 0,vW 0,vW 0,vW 0,vW 0,vW 0,vW 0,vW 0,vW 0,vW 0,vW 0,vW 0,vW 0,vW 0,vW 0,vW 0,vW 0,vW 0,vW 0,vW 0] K3 fun t03 D1 E6 Y4=>AO (aA p0) E6 .hd (ai rfl) fun u03 M3 Z4=>Aa<|Ae<|Bo rfl ((M3.memA .t3) 0 _ rfl) ?_
 have s5:=AL h1_0 M3
 have J02:a1.length <= 281474976710656:=AT s5
 refine Ab (AY (xs:=a1) underlying24 rfl s5)<|Ac rfl<|Aa<|AC ?_
 obtain ⟨Z02,X9,G9⟩:=ap h
 refine MX.lf (α:=Nat × (List (ByteArray × Bool)) × Bool × (List (Ta × Tc)) × (List (Ta × List Value))) (fun ⟨F0,G0,A0,W0,v0⟩=>[(0,.func (.yield b1) #[] #[]),(2,vP k0),(8,v0_0),(9,vI ((a0.length:Nat):Int)),(10,vI ((U0:Nat):Int)),(5,vP D1),(14,v1_0),(15,vI ((a1.length:Nat):Int)),(16,vI ((F0:Nat):Int))]) (fun ⟨F0,G0,A0,W0,v0⟩=>[.cells D1 (aA p0) 37,.obj b1 (lpO A1 .ready none),.obj H0 (.deferred (some [])),.cells k0 [v1_0] 24,.cells q0 [v0_0] 24,.cells D0 [.map (some d0)] 127,.obj d0 (ax (G0:List (ByteArray × Bool))),.cells x0 [vP c0] 122,.cells c0 [.map (some b0),.bool A0] 126,.obj b0 (ax v0),rr w 24 (List Tb) (vS I0 2) (([a0,a1]:List (List Tb)).length) [v0_0,v1_0]]) (fun ⟨F0,G0,A0,W0,v0⟩ d6=>MR d6 (bl [.cells D1 (aA p0) 37,.obj b1 (lpO A1 .ready none),.obj H0 (.deferred (some [])),.cells k0 [v1_0] 24,.cells q0 [v0_0] 24,.cells D0 [.map (some d0)] 127,.obj d0 (ax (G0:List (ByteArray × Bool))),.cells x0 [vP c0] 122,.cells c0 [.map (some b0),.bool A0] 126,.obj b0 (ax v0),rr w 24 (List Tb) (vS I0 2) (([a0,a1]:List (List Tb)).length) [v0_0,v1_0]] ++ L) v0 W0) (fun ⟨F0,G0,A0,W0,v0⟩=>(F0,G0,A0,W0)) (0,u0,g1,V0,g0) X9 M3 (BG z4 (Tt Y4 Z4)) ?_
 rintro F01 ⟨F0,G0,A0,W0,v0⟩ d6 J3 P3 c3 P2 h
 unfold bY_l1 at h
 try dsimp only at h
 refine Ae<|Ab (Bb (i:=F0) (j:=a1.length) rfl rfl)<|Aa<|Aj<|AS rfl h (fun q6 h=>?_) (fun q6 h=>?_)
 refine Aw<|Aj<|AC<|Ae<|bk h fun s0 D00 h=>?_
 obtain ⟨C01,c02,D9,J9,j02,b00,Q9⟩:=Bl (AL h1_0 P3) D00
 obtain rfl:=ba b00
 refine Ab (Bx 32 F0 rfl D9 rfl rfl J9)<|Ab (Au rfl Q9)<|RG.nl [vW 0,vW 0,vW 0,vW 0,vW 0,vW 0,vW 0,vW 0,vW 0,vW 0,vW 0,vW 0,vW 0,vW 0,vW 0,vW 0,vW 0,vW 0,vW 0,vW 0,vW 0,vW 0,vW 0,vW 0,vW 0,vW 0,vW 0,vW 0,vW 0,vW 0,vW 0,vW 0] P3 fun x03 X2 F6 g3=>AO (aA s0) F6 .hd (ai rfl) fun y03 Z2 j3=>Aa<|Ae<|Ac rfl<|Ab (Au rfl (Z2.memA .t1))<|Ab (Au rfl (Z2.memA .hd))<|RG.yieldP (fd:=24) (vs:=[.agg ((aA p0)).toArray,.agg ((aA s0)).toArray]) .plain rfl (e2 rfl rfl) Z2 .t2 V00 rfl rfl rfl fun k02 q4 P02=>Ae<|RG.nl [vW 0,vW 0,vW 0,vW 0,vW 0,vW 0,vW 0,vW 0,vW 0,vW 0,vW 0,vW 0,vW 0,vW 0,vW 0,vW 0,vW 0,vW 0,vW 0,vW 0,vW 0,vW 0,vW 0,vW 0,vW 0,vW 0,vW 0,vW 0,vW 0,vW 0,vW 0,vW 0] Z2 fun z03 K1 G6 k3=>AO (aA p0) G6 .hd (ai rfl) fun A03 H6 p3=>Aa<|Aq<|RG.nl [vW 0,vW 0,vW 0,vW 0,vW 0,vW 0,vW 0,vW 0,vW 0,vW 0,vW 0,vW 0,vW 0,vW 0,vW 0,vW 0,vW 0,vW 0,vW 0,vW 0,vW 0,vW 0,vW 0,vW 0,vW 0,vW 0,vW 0,vW 0,vW 0,vW 0,vW 0,vW 0] H6 fun B03 M1 I6 q3=>AO (aA s0) I6 .hd (ai rfl) fun C03 J6 s3=>Aa<|MX.begin J6 .t4 fun D03 P1 u3=>AC<|Aj<|du 8 fun j0 B3=>Rv 0 j0 rfl B3 (fun _=>Bp 0 rfl)<|Rx 1 356 j0 rfl B3 (AZ (cs:=(aa p0.fl)) rfl rfl (ah (P1.memA .t1) 0 16))<|Rv 3 j0 rfl B3 (fun _=>Bp 0 rfl)<|Rx 4 352 j0 rfl B3 (AZ (cs:=(aa s0.fl)) rfl rfl (ah (P1.memA .hd) 0 16))<|bk h fun G3 Q5 h=>bk h fun H3 y4 h=>?_
 refine bk h fun K0 A3 h=>RD.mf (α:=Value × Value × Nat) (fun ⟨B1,C1,j1⟩=>[(7,vP x0),(8,vP D0),(9,vP K1),(10,vP M1),(36,.agg #[.bool K0.fh.fc,B1,.bool K0.fe.fc,C1]),(11,vP j1)]) (fun ⟨B1,C1,j1⟩=>[.cells j1 [.bool false,vN,.bool false,vN] 109,.cells M1 (aA s0) 37,.cells K1 (aA p0) 37,.cells X2 (aA s0) 37,.cells D1 (aA p0) 37,.obj b1 (lpO A1 .busy none),.obj H0 (.deferred (some [])),.cells k0 [v1_0] 24,.cells q0 [v0_0] 24,.cells D0 [.map (some d0)] 127,.obj d0 (ax (G0:List (ByteArray × Bool))),.cells x0 [vP c0] 122,.cells c0 [.map (some b0),.bool A0] 126,.obj b0 (ax v0),rr w 24 (List Tb) (vS I0 2) (([a0,a1]:List (List Tb)).length) [v0_0,v1_0]]) (fun ⟨B1,C1,j1⟩ D4=>Rep.R D4 (bl [.cells j1 [.bool false,vN,.bool false,vN] 109,.cells M1 (aA s0) 37,.cells K1 (aA p0) 37,.cells X2 (aA s0) 37,.cells D1 (aA p0) 37,.obj b1 (lpO A1 .busy none),.obj H0 (.deferred (some [])),.cells k0 [v1_0] 24,.cells q0 [v0_0] 24,.cells D0 [.map (some d0)] 127,.obj d0 (ax (G0:List (ByteArray × Bool))),.cells x0 [vP c0] 122,.cells c0 [.map (some b0),.bool A0] 126,.obj b0 (ax v0),rr w 24 (List Tb) (vS I0 2) (([a0,a1]:List (List Tb)).length) [v0_0,v1_0]] ++ L) [B1] K0.fh.fj/\Rep.R D4 (bl [.cells j1 [.bool false,vN,.bool false,vN] 109,.cells M1 (aA s0) 37,.cells K1 (aA p0) 37,.cells X2 (aA s0) 37,.cells D1 (aA p0) 37,.obj b1 (lpO A1 .busy none),.obj H0 (.deferred (some [])),.cells k0 [v1_0] 24,.cells q0 [v0_0] 24,.cells D0 [.map (some d0)] 127,.obj d0 (ax (G0:List (ByteArray × Bool))),.cells x0 [vP c0] 122,.cells c0 [.map (some b0),.bool A0] 126,.obj b0 (ax v0),rr w 24 (List Tb) (vS I0 2) (([a0,a1]:List (List Tb)).length) [v0_0,v1_0]] ++ L) [C1] K0.fe.fj) P1 1 255 ?_ ?_
 rintro ⟨B1,C1,j1⟩ D4 M6 v3 ⟨y3,z3⟩
 try dsimp only
 refine Bw 8 511 j0 rfl rfl .plain (AG (news:=[.bool K0.fh.fc,B1,.bool K0.fe.fc,C1]) M6 .hd rfl rfl rfl rfl rfl rfl (o4 rfl (AE y3) rfl (AE z3))) fun F03 j2 z1=>AK (dk j0)<|Aj<|Ae<|Ab (Au rfl (j2.memA .hd))<|bk h fun I3 G00 h=>Bi (.tuple #[.agg ((aa I3.1)).toArray,vI I3.2]) (bd 77) rfl (e1 rfl) (fun w9 hw9=>ab_c n (j2.hL0 hL hw9) K0 (j2.kd (Ah y3 z1) hw9) (j2.kd (Ah z3 z1) hw9) G00) rfl<|Ac rfl<|Ab (Ag rfl rfl)<|Ab (Ag rfl rfl)<|RG.nl zL j2 fun G03 J01 P6 V1=>AO (aa I3.1) P6 .hd (ai rfl) fun H03 y1 W1=>Ai rfl<|Aa<|Ae<|Ac rfl<|Ab (BM (i:=I3.2) (j:=0) rfl rfl)<|Aa<|MX.jo (α:=(List (ByteArray × Bool))) (fun v1=>[(7,vP x0),(9,vP K1),(10,vP M1),(11,vP j1)]) (fun v1=>[.cells j1 [.bool K0.fh.fc,B1,.bool K0.fe.fc,C1] 109,.cells M1 (aA s0) 37,.cells K1 (aA p0) 37,.cells X2 (aA s0) 37,.cells D1 (aA p0) 37,.obj b1 (lpO A1 .busy none),.obj H0 (.deferred (some [])),.cells k0 [v1_0] 24,.cells q0 [v0_0] 24,.cells D0 [.map (some d0)] 127,.obj d0 (ax (v1:List (ByteArray × Bool))),.cells x0 [vP c0] 122,.cells c0 [.map (some b0),.bool A0] 126,.obj b0 (ax v0),rr w 24 (List Tb) (vS I0 2) (([a0,a1]:List (List Tb)).length) [v0_0,v1_0]]) (fun v1=>v1) y1 h ?_ ?_
 rintro v1 Z04 R1 x2 h
 try dsimp only at h
 refine du 7 fun P0 C3=>Rx 0 128 P0 rfl C3 (Bm rfl ((R1.memA .t11) 0 _ rfl))<|Rx 1 128 P0 rfl C3 (Au rfl (R1.memA .hd))<|Rx 2 232 P0 rfl C3 (Au rfl (R1.memA .t2))<|Rx 4 224 P0 rfl C3 (Au rfl (R1.memA .t1))<|bk h fun x01 H00 h=>AX 3 31 P0 rfl .plain (bd 66) rfl (e1 rfl) (fun w9 hw9=>aJ_c n (R1.hL hL hw9) p0 H00) rfl fun I03 k03 j9 ⟨b03,c03,hu_,g00,j00⟩=>?_
 subst hu_
 obtain ⟨K4,y2⟩:=R1.agr j9
 refine bk h fun y01 I00 h=>AX 5 63 P0 rfl .plain (bd 66) rfl (e1 rfl) (fun w9 hw9=>aJ_c n (K4.hL hL hw9) s0 I00) rfl fun J03 p03 k9 ⟨d03,g03,hu_,k00,p00⟩=>?_
 subst hu_
 obtain ⟨M4,G1⟩:=K4.agr k9
 refine bk h fun B0 J00 h=>AX 6 127 P0 rfl .plain (bd 80) rfl (e2 rfl rfl) (fun w9 hw9=>ao_c n (M4.hL hL hw9) x01 (Af (Ah g00 G1) hw9) (Af (Ah j00 G1) hw9) y01 (Af k00 hw9) (Af p00 hw9) J00) rfl fun K03 q03 p9 ⟨V2,W2,hu_,F5,G5⟩=>?_
 subst hu_
 obtain ⟨Q6,z2⟩:=M4.agr p9
 refine BF (i:=7) (rk P0) (RO.enterPT (m' :=255) (fst:=[]) (cap:=[]) (vs:=[vP c0,.agg #[.bool K0.fh.fc,B1,.bool K0.fe.fc,C1],.agg #[.bool B0.fh.fc,V2,.bool B0.fe.fc,W2]]) (sk P0) rfl rfl .plain (bd 86) func86 rfl rfl rfl rfl (e3 rfl rfl rfl) rfl (fun _ p02 s4 Q02=>?_))
 refine Ae<|RG.bx Q6 rfl rfl fun M03 K01 R6 H1=>RG.bx R6 rfl rfl fun P03 M01 k2 I1=>Aa<|Ae<|Ab (Au rfl (k2.memA .t1))<|bk h fun t0 K00 h=>?_
 have x5:=Tt z1 (Tt V1 (Tt W1 (Tt x2 (Tt y2 (Tt G1 (Tt z2 (Tt H1 I1)))))))
 refine Bi (.tuple #[.agg ((aa t0.1)).toArray,vI t0.2]) (bd 77) rfl (e1 rfl) (fun w9 hw9=>ab_c n (k2.hL0 hL hw9) K0 (k2.kd (Ah y3 x5) hw9) (k2.kd (Ah z3 x5) hw9) K00) rfl<|Ac rfl<|Ab (Ag rfl rfl)<|Ab (Ag rfl rfl)<|RG.nl zL k2 fun Q03 P01 U6 X1=>AO (aa t0.1) U6 .hd (ai rfl) fun R03 p2 Y1=>Ai rfl<|Aa<|Aj<|Ae<|Ac rfl<|Ab (BM (i:=t0.2) (j:=0) rfl rfl)<|Aa<|MX.ifn rfl h (fun s6 h=>?_) (fun s6 h=>?_)
 refine Aw<|du 6 fun Y0 c2=>Rv 0 Y0 rfl c2 (fun _=>Av rfl)<|Rv 1 Y0 rfl c2 (fun _=>Bk rfl)<|Rv 2 Y0 rfl c2 (fun _=>Bp 0 rfl)<|Rx 3 64 Y0 rfl c2 (Bm rfl ((p2.memA (.tl (.tl (.tl (.tl (.tl (.tl (.tl (.tl (.tl (.tl (.tl (.tl (.tl (.tl (.tl .hd)))))))))))))))) 0 _ rfl))<|Rx 4 64 Y0 rfl c2 (Au rfl (p2.memA .hd))<|Rx 5 64 Y0 rfl c2 (Au rfl (p2.memA .t1))<|BF (i:=6) (rk Y0) (RO.enterPT (m' :=127) (fst:=[]) (cap:=[]) (vs:=[.map (some b0),.agg ((aa t0.1)).toArray,.agg #[.bool B0.fh.fc,V2,.bool B0.fe.fc,W2]]) (sk Y0) rfl rfl .plain (bd 88) func88 rfl rfl rfl rfl (e3 rfl rfl rfl) rfl (fun _ q02 p5 R02=>?_))
 refine Ae<|RG.bx p2 rfl rfl fun U03 Q01 V6 A2=>RG.bx V6 rfl rfl fun V03 R01 q2 B2=>Aa<|Aj<|Ae<|Ac rfl<|Ab (Au rfl (q2.memA .t1)) ?_
 have x4:=Tt g3 (Tt j3 (Tt k3 (Tt p3 (Tt q3 (Tt s3 (Tt u3 (Tt v3 (Tt z1 (Tt V1 (Tt W1 (Tt x2 (Tt y2 (Tt G1 (Tt z2 (Tt H1 (Tt I1 (Tt X1 (Tt Y1 (Tt A2 B2)))))))))))))))))))
 have R9:=BG P2 x4
 rcases MR.get t0.1 R9 with ⟨v4,A4⟩ | ⟨s02,E4,A4,v4,q00⟩
 have h:=cB h v4
 refine Ab (FV.lookupK (kv:=t0.1) (q:=false) aq q2 (.tl (.tl (.tl (.tl (.tl (.tl (.tl (.tl (.tl (.tl (.tl (.tl (.tl (.tl (.tl (.tl (.tl (.tl .hd)))))))))))))))))) underlying124 (z:=.agg #[.bool false,vN,.bool false,vN]) rfl rfl rfl (.inl ⟨A4,rfl,rfl⟩))<|Ac rfl<|Ab (Ag rfl rfl)<|Ab (Ag rfl rfl)<|RG.nl [.bool false,vN,.bool false,vN] q2 fun W03 U01 W6 g4=>AO [.bool false,vN,.bool false,vN] W6 .hd (ai rfl) fun X03 Q3 j4=>Ai rfl<|Aa<|Ae<|Ac rfl<|Aa<|BH rfl<|Aw<|Aq<|Ac rfl<|Ab (Au rfl (Q3.memA .t2))<|Ab (Au rfl (Q3.memA .t1)) ?_
 have y5:=Tt H1 (Tt I1 (Tt X1 (Tt Y1 (Tt A2 (Tt B2 (Tt g4 j4))))))
 refine RG.now .plain (BE (kv:=t0.1) (vv:=[.bool B0.fh.fc,V2,.bool B0.fe.fc,W2]) aq Q3 (.tl (.tl (.tl (.tl (.tl (.tl (.tl (.tl (.tl (.tl (.tl (.tl (.tl (.tl (.tl (.tl (.tl (.tl (.tl .hd))))))))))))))))))) underlying124 rfl rfl rfl) fun Y03 X6 c8=>Aa<|MX.fin rfl<|Ap (u:=.tuple #[]) p5 func88 rfl .nil rfl<|AK (dk Y0)<|MX.fin rfl<|Ap (u:=.tuple #[]) s4 func86 rfl .nil rfl<|AK (dk P0)<|AF<|MX.roundEnd q4 X6 .t11 fun Z03 Y6 d8=>Ab (FV.not rfl)<|Aa<|BH rfl<|Aw<|AF<|Aq<|Ab (Bf (i:=F0) (j:=1) rfl rfl (by omega))<|Ac rfl<|Aa ?_
 obtain ⟨Z6,g8⟩:=AD Y6 .d10
 have z5:=Tt c8 (Tt d8 g8)
 exact J3 (F0 + 1,v1,A0,aC W0 t0.1 B0,(aC v0 t0.1 [.bool B0.fh.fc,V2,.bool B0.fe.fc,W2])) Z6 (Tt c3 (Tt g3 (Tt j3 (Tt k3 (Tt p3 (Tt q3 (Tt s3 (Tt u3 (Tt v3 (Tt z1 (Tt V1 (Tt W1 (Tt x2 (Tt y2 (Tt G1 (Tt z2 (Tt H1 (Tt I1 (Tt X1 (Tt Y1 (Tt A2 (Tt B2 (Tt g4 (Tt j4 z5)))))))))))))))))))))))) (BG (MR.set (k:=t0.1) (c:=[.bool B0.fh.fc,V2,.bool B0.fe.fc,W2]) (y:=B0) (cb B0.fh (Ah F5 y5) B0.fe (Ah G5 y5)) (BG P2 (Tt x4 (Tt g4 j4)))) z5) h
 have h:=cG h v4
 obtain ⟨d01,g01,rfl,H5,I5⟩:=cr q00
 refine Ab (FV.lookupK (kv:=t0.1) (q:=true) aq q2 (.tl (.tl (.tl (.tl (.tl (.tl (.tl (.tl (.tl (.tl (.tl (.tl (.tl (.tl (.tl (.tl (.tl (.tl .hd)))))))))))))))))) underlying124 (z:=.agg #[.bool false,vN,.bool false,vN]) rfl rfl rfl (.inr ⟨_,A4,rfl,rfl⟩))<|Ac rfl<|Ab (Ag rfl rfl)<|Ab (Ag rfl rfl)<|RG.nl [.bool false,vN,.bool false,vN] q2 fun b04 V01 b7 J1=>AO [.bool E4.fh.fc,d01,.bool E4.fe.fc,g01] b7 .hd (o4 rfl (AE (Ah H5 J1)) rfl (AE (Ah I5 J1))) fun c04 b3 C2=>Ai rfl<|Aa<|Ae<|Ac rfl<|Aa<|Ba rfl<|Aq<|Ab (Au rfl (b3.memA .t1))<|Ab (Au rfl (b3.memA .hd))<|bk h fun R0 M00 h=>?_
 have A5:=Tt H1 (Tt I1 (Tt X1 (Tt Y1 (Tt A2 (Tt B2 (Tt J1 C2))))))
 refine jE (bd 81) rfl (e2 rfl rfl) (fun w9 hw9=>aa_c n (b3.hL hL hw9) B0 (Af (Ah F5 A5) hw9) (Af (Ah G5 A5) hw9) E4 (Af (Ah H5 (Tt J1 C2)) hw9) (Af (Ah I5 (Tt J1 C2)) hw9) M00) rfl fun d04 s03 q9 ⟨D3,E3,hu_,J5,K5⟩=>?_
 subst hu_
 obtain ⟨c7,b5⟩:=b3.agr q9
 refine AO [.bool R0.fh.fc,D3,.bool R0.fe.fc,E3] c7 .t1 (o4 rfl (AE J5) rfl (AE K5)) fun g04 R3 x3=>Aa<|Aq<|Ac rfl<|Ab (Au rfl (R3.memA .t2))<|Ab (Au rfl (R3.memA .t1))<|RG.now .plain (BE (kv:=t0.1) (vv:=[.bool R0.fh.fc,D3,.bool R0.fe.fc,E3]) aq R3 (.tl (.tl (.tl (.tl (.tl (.tl (.tl (.tl (.tl (.tl (.tl (.tl (.tl (.tl (.tl (.tl (.tl (.tl (.tl .hd))))))))))))))))))) underlying124 rfl rfl rfl) fun j04 g7 j8=>Aa<|MX.fin rfl<|Ap (u:=.tuple #[]) p5 func88 rfl .nil rfl<|AK (dk Y0)<|MX.fin rfl<|Ap (u:=.tuple #[]) s4 func86 rfl .nil rfl<|AK (dk P0)<|AF<|MX.roundEnd q4 g7 .t11 fun k04 j7 k8=>Ab (FV.not rfl)<|Aa<|BH rfl<|Aw<|AF<|Aq<|Ab (Bf (i:=F0) (j:=1) rfl rfl (by omega))<|Ac rfl<|Aa ?_
 obtain ⟨k7,p8⟩:=AD j7 .d10
 have B5:=Tt j8 (Tt k8 p8)
 exact J3 (F0 + 1,v1,A0,aC W0 t0.1 R0,(aC v0 t0.1 [.bool R0.fh.fc,D3,.bool R0.fe.fc,E3])) k7 (Tt c3 (Tt g3 (Tt j3 (Tt k3 (Tt p3 (Tt q3 (Tt s3 (Tt u3 (Tt v3 (Tt z1 (Tt V1 (Tt W1 (Tt x2 (Tt y2 (Tt G1 (Tt z2 (Tt H1 (Tt I1 (Tt X1 (Tt Y1 (Tt A2 (Tt B2 (Tt J1 (Tt C2 (Tt b5 (Tt x3 B5)))))))))))))))))))))))))) (BG (MR.set (k:=t0.1) (c:=[.bool R0.fh.fc,D3,.bool R0.fe.fc,E3]) (y:=R0) (cb R0.fh (Ah J5 x3) R0.fe (Ah K5 x3)) (BG P2 (Tt x4 (Tt J1 (Tt C2 (Tt b5 x3)))))) B5) h
 refine Ae<|Ac rfl<|Ab (Bk rfl)<|Bn 1 rfl<|RG.now .plain (BL (j:=1) (old:=[.map (some b0),.bool A0]) (news:=[.bool true]) (new' :=[.map (some b0),.bool true]) p2 (.tl (.tl (.tl (.tl (.tl (.tl (.tl (.tl (.tl (.tl (.tl (.tl (.tl (.tl (.tl .hd))))))))))))))) rfl rfl rfl rfl rfl rfl (o1 rfl) rfl) fun p04 p7 q8=>Aa<|Ax rfl<|Ap (u:=.tuple #[]) s4 func86 rfl .nil rfl<|AK (dk P0)<|AF<|MX.roundEnd q4 p7 .t8 fun q04 q7 s8=>Ab (FV.not rfl)<|Aa<|BH rfl<|Aw<|AF<|Aq<|Ab (Bf (i:=F0) (j:=1) rfl rfl (by omega))<|Ac rfl<|Aa ?_
 obtain ⟨s7,u8⟩:=AD q7 .d7
 have C5:=Tt g3 (Tt j3 (Tt k3 (Tt p3 (Tt q3 (Tt s3 (Tt u3 (Tt v3 (Tt z1 (Tt V1 (Tt W1 (Tt x2 (Tt y2 (Tt G1 (Tt z2 (Tt H1 (Tt I1 (Tt X1 (Tt Y1 (Tt q8 (Tt s8 u8))))))))))))))))))))
 exact J3 (F0 + 1,v1,true,W0,v0) s7 (Tt c3 C5) (BG P2 C5) h
 intro G01 I4 h
 try dsimp only at h
 refine MX.ifn rfl h (fun u6 h=>?_) (fun u6 h=>?_)
 refine Aw ?_
 obtain ⟨u7,v8⟩:=AD y1 .d1
 exact I4 G0 u7 v8 h
 refine du 3 fun Q2 B4=>Rx 0 8 Q2 rfl B4 (Bm rfl ((y1.memA .t10) 0 _ rfl))<|Rx 1 12 Q2 rfl B4 (Au rfl (y1.memA .t1))<|bk h fun F4 P00 h=>?_
 have D5:=Tt z1 (Tt V1 W1)
 refine RD.cq 2 7 8 (.string F4) Q2 rfl B4 (bd 85) rfl (e1 rfl) (fun w9 hw9=>bX_c n (y1.hL0 hL hw9) K0 (y1.kd (Ah y3 D5) hw9) (y1.kd (Ah z3 D5) hw9) P00) rfl<|Bw 3 15 Q2 rfl rfl .plain (Acts.mapUpdate (kv:=F4) (vv:=true) y1 .t11 underlying127 underlying9 rfl rfl rfl rfl) fun s04 v7 x8=>AK (dk Q2) ?_
 obtain ⟨x7,y8⟩:=AD v7 .d1
 exact I4 (aC G0 F4 true) x7 (Tt x8 y8) h
 intro Y2
 refine AW [2,7] (rk j0) ⟨?_,?_,trivial⟩
 refine RO.call (m' :=31) (fst:=[]) (cap:=[]) (sk j0) rfl .plain (bd 68) rfl (e1 rfl) (fun w9 hw9=>ai_c n (P1.hL hL hw9) p0.fl Q5) rfl fun s01 q01 p4 ⟨Y00,Z00,hu_,I2,J2⟩=>?_
 subst hu_
 obtain ⟨Q1,u2⟩:=P1.agr p4
 refine AW [5,7] (rk j0) ⟨?_,?_,trivial⟩
 refine RO.call (m' :=63) (fst:=[]) (cap:=[]) (sk j0) rfl .plain (bd 68) rfl (e1 rfl) (fun w9 hw9=>ai_c n (Q1.hL hL hw9) s0.fl y4) rfl fun Z5 X5 D2 ⟨V5,W5,hu_,Z1,b2⟩=>?_
 subst hu_
 obtain ⟨k1,E0⟩:=Q1.agr D2
 refine AW [6,7] (rk j0) ⟨?_,?_,trivial⟩
 have F2:=Ah I2 E0
 have G2:=Ah J2 E0
 refine RO.call (m' :=127) (fst:=[]) (cap:=[]) (sk j0) rfl .plain (bd 81) rfl (e2 rfl rfl) (fun w9 hw9=>aa_c n (k1.hL hL hw9) G3 (Af F2 hw9) (Af G2 hw9) H3 (Af Z1 hw9) (Af b2 hw9) A3) rfl fun b6 Y5 E2 ⟨R2,U2,hu_,K2,M2⟩=>?_
 subst hu_
 obtain ⟨g2,v2⟩:=k1.agr E2
 refine RD.nu 7 255 j0 rfl .plain rfl (Ay [.bool false,vN,.bool false,vN] g2) fun C4 E1 X0 z0=>Y2 (R2,U2,E1) X0 (Tt u2 (Tt E0 (Tt v2 z0))) ⟨(Ah K2 z0),(Ah M2 z0)⟩
 refine Bv (m' :=191) (sk j0) rfl .plain rfl (Ay [.bool false,vN,.bool false,vN] k1) fun C4 E1 X0 z0=>?_
 have F2:=Ah I2 (Tt E0 z0)
 have G2:=Ah J2 (Tt E0 z0)
 refine AX 6 255 j0 rfl .plain (bd 81) rfl (e2 rfl rfl) (fun w9 hw9=>aa_c n (X0.hL hL hw9) G3 (Af F2 hw9) (Af G2 hw9) H3 (Af (Ah Z1 z0) hw9) (Af (Ah b2 z0) hw9) A3) rfl fun E03 j03 g9 ⟨b01,c01,hu_,c00,d00⟩=>?_
 subst hu_
 obtain ⟨K6,b8⟩:=X0.agr g9
 exact Y2 (b01,c01,E1) K6 (Tt u2 (Tt E0 (Tt z0 b8))) ⟨c00,d00⟩
 refine Bv (m' :=159) (sk j0) rfl .plain rfl (Ay [.bool false,vN,.bool false,vN] Q1) fun C4 E1 X0 z0=>AX 5 191 j0 rfl .plain (bd 68) rfl (e1 rfl) (fun w9 hw9=>ai_c n (X0.hL hL hw9) s0.fl y4) rfl fun Z5 X5 D2 ⟨V5,W5,hu_,Z1,b2⟩=>?_
 subst hu_
 obtain ⟨k1,E0⟩:=X0.agr D2
 have F2:=Ah I2 (Tt z0 E0)
 have G2:=Ah J2 (Tt z0 E0)
 refine AX 6 255 j0 rfl .plain (bd 81) rfl (e2 rfl rfl) (fun w9 hw9=>aa_c n (k1.hL hL hw9) G3 (Af F2 hw9) (Af G2 hw9) H3 (Af Z1 hw9) (Af b2 hw9) A3) rfl fun b6 Y5 E2 ⟨R2,U2,hu_,K2,M2⟩=>?_
 subst hu_
 obtain ⟨g2,v2⟩:=k1.agr E2
 exact Y2 (R2,U2,E1) g2 (Tt u2 (Tt z0 (Tt E0 v2))) ⟨K2,M2⟩
 refine Bv (m' :=155) (sk j0) rfl .plain rfl (Ay [.bool false,vN,.bool false,vN] P1) fun C4 E1 X0 z0=>AX 2 159 j0 rfl .plain (bd 68) rfl (e1 rfl) (fun w9 hw9=>ai_c n (X0.hL hL hw9) p0.fl Q5) rfl fun s01 q01 p4 ⟨Y00,Z00,hu_,I2,J2⟩=>?_
 subst hu_
 obtain ⟨Q1,u2⟩:=X0.agr p4
 refine AX 5 191 j0 rfl .plain (bd 68) rfl (e1 rfl) (fun w9 hw9=>ai_c n (Q1.hL hL hw9) s0.fl y4) rfl fun Z5 X5 D2 ⟨V5,W5,hu_,Z1,b2⟩=>?_
 subst hu_
 obtain ⟨k1,E0⟩:=Q1.agr D2
 refine AX 6 255 j0 rfl .plain (bd 81) rfl (e2 rfl rfl) (fun w9 hw9=>aa_c n (k1.hL hL hw9) G3 (Af (Ah I2 E0) hw9) (Af (Ah J2 E0) hw9) H3 (Af Z1 hw9) (Af b2 hw9) A3) rfl fun b6 Y5 E2 ⟨R2,U2,hu_,K2,M2⟩=>?_
 subst hu_
 obtain ⟨g2,v2⟩:=k1.agr E2
 exact Y2 (R2,U2,E1) g2 (Tt z0 (Tt u2 (Tt E0 v2))) ⟨K2,M2⟩
 refine Bc rfl ?_
 have h:=G9 _ h
 try dsimp only at h
 refine AF<|Aq<|Ab (Bf (i:=U0) (j:=1) rfl rfl (by omega))<|Ac rfl<|Aa ?_
 obtain ⟨y7,c5⟩:=AD P3 .d1
 exact C6 (U0 + 1,G0,A0,W0,v0) y7 (Tt Z7 (Tt Y4 (Tt Z4 (Tt c3 c5)))) (BG P2 c5) h
 refine Bc rfl ?_
 have h:=F9 _ h
 try dsimp only at h
 refine MX.fin rfl<|Ap (u:=.tuple #[]) v9 func142 rfl .nil rfl<|MX.endRange0 K3 .hd (by intro h9; cases h9) fun t04 z7 d5=>?_
 obtain ⟨M0,g5⟩:=AD z7 .d1
 refine AF<|Aj<|Aj<|du 9 fun Z0 q1=>Rx 0 478 Z0 rfl q1 (Bm rfl ((M0.memA .t5) 0 _ rfl))<|Rv 1 Z0 rfl q1 (fun _=>Bk rfl)<|Rv 2 Z0 rfl q1 (fun _=>Bp 0 rfl)<|Rx 3 464 Z0 rfl q1 (Bm rfl ((M0.memA .t6) 0 _ rfl)) ?_
 have u5:=BG z4 (Tt d5 g5)
 refine Rx 4 448 Z0 rfl q1 (FV.as (FV.len_map (D:=g0) M0 .t7 underlying124 rfl) (congrArg (fun n9:Nat=>Value.int .i64 (n9:Int)) (MR.len u5)))<|Rx 5 448 Z0 rfl q1 (Bm rfl ((M0.memA .t3) 0 _ rfl))<|Rx 6 384 Z0 rfl q1 (FV.len_map (D:=u0) M0 .t4 underlying127 rfl)<|bk h fun X00 z00 h=>Rv 7 Z0 rfl q1 (fun _=>FV.addc (i:=((V0.length:Nat):Int)) (j:=((u0.length:Nat):Int)) rfl rfl z00)<|Rv 8 Z0 rfl q1 (fun _=>FV.gtr (i:=X00) (j:=400) rfl rfl)<|AK (dk Z0)<|AS rfl h (fun v6 h=>?_) (fun v6 h=>?_)
 refine Ae<|Ai rfl<|Ai rfl<|Aa<|Ax rfl<|RT.take M0 .hd fun u04 A7 A02=>?_
 obtain ⟨U3,B02⟩:=AD A7 .d1
 have s00:=BC (α:=Tb) U3 L
 refine Ap hb0 func24 rfl (.cons (.tmp rfl) (.cons (.tmp rfl) .nil)) rfl ?_
 cases h
 exact ⟨U3.ag,fun w9 hw9=>⟨vN,rfl,U3.kd s00 hw9⟩⟩
 refine Aw<|Ae<|Bo rfl ((M0.memA .t5) 0 _ rfl)<|Bu (fst:=[]) (cap:=[]) (vs:=[vP c0]) .plain (bd 87) func87 rfl rfl rfl rfl (e1 rfl) rfl fun t02 u4 U02=>Ae<|Ai rfl<|Ai rfl<|Aa<|Aj<|Ae<|Ac rfl<|Ab (Bk rfl)<|Bn 0 rfl<|Bo rfl ((M0.memA .t6) 0 _ rfl)<|Ab (FV.as (FV.len_map (D:=g0) M0 .t7 underlying124 rfl) (congrArg (fun n9:Nat=>Value.int .i64 (n9:Int)) (MR.len u5)))<|Ab (FV.gtrN (i:=V0.length) (j:=400) rfl rfl)<|Aa<|AS rfl h (fun x6 h=>?_) (fun x6 h=>?_)
 refine Ae<|Ai rfl<|Ai rfl<|Aa<|Ax rfl<|Ap (u:=.tuple #[vN,vI 3]) u4 func87 rfl (.cons (.tmp rfl) (.cons (.tmp rfl) .nil)) rfl<|Ab (Ag rfl rfl)<|Ab (Ag rfl rfl)<|Ai rfl<|Ai rfl<|Aa<|Ax rfl<|RT.take M0 .hd fun v04 B7 C02=>?_
 obtain ⟨V3,D02⟩:=AD B7 .d1
 have t00:=BC (α:=Tb) V3 L
 refine Ap hb0 func24 rfl (.cons (.tmp rfl) (.cons (.tmp rfl) .nil)) rfl ?_
 cases h
 exact ⟨V3.ag,fun w9 hw9=>⟨vN,rfl,V3.kd t00 hw9⟩⟩
 refine Aw<|Ae<|Ai rfl<|Aa<|Aj<|Ae<|Ac rfl<|Ab (Bk rfl)<|Bn 0 rfl<|Bo rfl ((M0.memA .t6) 0 _ rfl)<|Ak .plain rfl (Does.range (D:=g0) M0 .t7 underlying124 rfl) fun t01 F1 P4 z8=>Aa<|AC ?_
 have Q4:=P4.nilRow 37 (Rep.size Tb)
 refine MX.mloop (α:=(List Tb) × Bool × Value × (List Value) × (Array Nat)) (fun ⟨Q0,s1,J0,x1,u1⟩=>[(0,vP c0),(4,J0),(19,vP F1)]) (fun U5 ⟨Q0,s1,J0,x1,u1⟩ F3=>St w F3 [rr w 37 Tb J0 Q0.length x1,.obj F1 (aF b0 g0.length u1),.obj H0 (.deferred (some [])),.cells k0 [v1_0] 24,.cells q0 [v0_0] 24,.cells D0 [.map (some d0)] 127,.obj d0 (ax (u0:List (ByteArray × Bool))),.cells x0 [vP c0] 122,.cells c0 [.map (some b0),.bool s1] 126,.obj b0 (ax g0),rr w 24 (List Tb) (vS I0 2) (([a0,a1]:List (List Tb)).length) [v0_0,v1_0]]/\Tr t01 [rr w 37 Tb vN (([]:List Tb).length) [],.obj F1 (aF b0 g0.length #[]),.obj H0 (.deferred (some [])),.cells k0 [v1_0] 24,.cells q0 [v0_0] 24,.cells D0 [.map (some d0)] 127,.obj d0 (ax (u0:List (ByteArray × Bool))),.cells x0 [vP c0] 122,.cells c0 [.map (some b0),.bool g1] 126,.obj b0 (ax g0),rr w 24 (List Tb) (vS I0 2) (([a0,a1]:List (List Tb)).length) [v0_0,v1_0]] F3 [rr w 37 Tb J0 Q0.length x1,.obj F1 (aF b0 g0.length u1),.obj H0 (.deferred (some [])),.cells k0 [v1_0] 24,.cells q0 [v0_0] 24,.cells D0 [.map (some d0)] 127,.obj d0 (ax (u0:List (ByteArray × Bool))),.cells x0 [vP c0] 122,.cells c0 [.map (some b0),.bool s1] 126,.obj b0 (ax g0),rr w 24 (List Tb) (vS I0 2) (([a0,a1]:List (List Tb)).length) [v0_0,v1_0]]/\Cells F3 (bl [rr w 37 Tb J0 Q0.length x1,.obj F1 (aF b0 g0.length u1),.obj H0 (.deferred (some [])),.cells k0 [v1_0] 24,.cells q0 [v0_0] 24,.cells D0 [.map (some d0)] 127,.obj d0 (ax (u0:List (ByteArray × Bool))),.cells x0 [vP c0] 122,.cells c0 [.map (some b0),.bool s1] 126,.obj b0 (ax g0),rr w 24 (List Tb) (vS I0 2) (([a0,a1]:List (List Tb)).length) [v0_0,v1_0]] ++ L) x1 Q0/\left V0 u1 = U5) (fun ⟨Q0,s1,J0,x1,u1⟩=>(Q0,s1)) (([]:List Tb),g1,vN,[],#[]) h ⟨rfl,rfl,rfl,trivial⟩ ⟨Q4,BJ _ _,(Az (cs:=[]) (xs:=([]:List Tb)) Q4 L (AA _ _)),(cj _)⟩ ?_
 rintro U5 ⟨Q0,s1,J0,x1,u1⟩ F3 H01 D6 ⟨C7,j5,q5,K9⟩ U9 B9
 refine Ae<|RG.nextR (W:=g0) (BG z4 (Tt d5 (Tt g5 (Tt z8 (Tt (St.nilRowT P4 37 (Rep.size Tb)) j5))))) C7 .t9 (fun _=>.t1) rfl rfl K9 (fun x04 V9 U1 A8=>?_) (fun y04 R5 y0 u02 W00 H9 u00 Y9 M9 R4 B8=>?_)
 have h:=U9 V9
 try dsimp only at h
 refine Ab (Ag rfl rfl)<|Aa<|Aj<|BH rfl<|Bc rfl<|Aj<|Ae<|Ac rfl<|Ab (Bk rfl)<|Bn 1 rfl<|Bo rfl ((U1.memA .t8) 1 _ rfl)<|Aa<|MX.ifb rfl h (fun y6 h=>?_) (fun y6 h=>?_)
 refine Ae<|Ai rfl<|Ai rfl<|Aa<|Ax rfl<|Ap (u:=.tuple #[vN,vI 6]) u4 func87 rfl (.cons (.tmp rfl) (.cons (.tmp rfl) .nil)) rfl<|Ab (Ag rfl rfl)<|Ab (Ag rfl rfl)<|Ai rfl<|Ai rfl<|Aa<|Ax rfl<|RT.take U1 .t2 fun z04 D7 E02=>?_
 obtain ⟨W3,F02⟩:=AD D7 (.a0 (.a0 .d1))
 have v00:=BC (α:=Tb) W3 L
 refine Ap hb0 func24 rfl (.cons (.tmp rfl) (.cons (.tmp rfl) .nil)) rfl ?_
 cases h
 exact ⟨W3.ag,fun w9 hw9=>⟨vN,rfl,W3.kd v00 hw9⟩⟩
 refine Aw<|Ae<|Ac rfl<|Bu (fst:=[]) (cap:=[]) (vs:=[J0,.func (.func 144) #[] #[]]) .plain (bd 143) func143 rfl rfl rfl rfl (e2 rfl rfl) rfl fun v02 s9 V02=>Ae<|Ac rfl ?_
 have K02:Q0.length <= 4294967296:=St.rowLe (α:=Tb) U1 .hd
 obtain ⟨D01,d02,E9⟩:=St.rowV (α:=Tb) U1 .hd
 refine Ab (FV.lenV underlying24 rfl E9)<|Ai rfl<|Aa<|Aq<|Ac rfl<|Ac rfl<|Ac rfl<|Ab (FV.convU (i:=((Q0.length:Nat):Int)) underlying3 underlying193 rfl)<|bk h fun j6 Q00 h=>Bi (vI j6) (bd 174) rfl (e1 rfl) (fun w9 hw9=>aR_c n (U1.hL0 hL hw9) (ac ((Q0.length:Nat):Int)) Q00) rfl<|Ac rfl<|bk h fun g6 E00 h=>RG.sort (enc:=aA) (ρ:=Tryz.srt173_ren) (c:=(fun x9 y9=>ae_p n x9 y9)) (li:=j6) E00 rfl (fun _ _ _ _ h9=>ba h9) (fun w9 L9 z9=>bz (w:=w9) (L:=L9) z9.fl z9.fP) Tryz.srt173 (fun w9=>Tryz.isAgg37 w9) (fun w9=>Tryz.sizeOf37 w9) (enters_of func144 rfl rfl) (fun x9 y9 r9 w9 h9=>ae_c n (L:=[]) (w:=w9) (fun _ h8=>nomatch h8) x9 y9 h9) .plain (bd 173) rfl (e5 rfl rfl rfl rfl rfl) rfl U1 (Ar q5 A8) .hd fun u01 U4 G02=>Aa<|MX.fin rfl<|Ap (u:=.tuple #[]) s9 func143 rfl .nil rfl<|Aa<|Ae<|Ac rfl<|Ai rfl<|Ai rfl<|Aa<|Ax rfl<|Ap (u:=.tuple #[J0,vI 0]) u4 func87 rfl (.cons (.tmp rfl) (.cons (.tmp rfl) .nil)) rfl<|Ab (Ag rfl rfl)<|Ab (Ag rfl rfl)<|Ai rfl<|Ai rfl<|Aa<|Ax rfl<|RT.take U4 .t2 fun A04 E7 C8=>?_
 obtain ⟨X3,D8⟩:=AD E7 (.a0 (.a0 .d1))
 have Y3:=Bz X3 .hd
 have H02:=BA X3 .hd
 have x00:=BB (α:=Tb) (v:=J0) (xs:=g6) Y3 L (Bj (α:=Tb) X3 .hd (Ar (Az U4 L (bv (α:=Tb) (enc:=aA) (fun w9 L9 z9=>bz (w:=w9) (L:=L9) z9.fl z9.fP) u01 _ g6)) (Tt C8 D8)) hL)
 refine Ap hb0 func24 rfl (.cons (.tmp rfl) (.cons (.tmp rfl) .nil)) rfl ?_
 cases h
 exact ⟨Y3.ag,fun w9 hw9=>⟨J0,rfl,Y3.kd x00 hw9⟩⟩
 obtain ⟨j01,k01,rfl,M5,P5⟩:=cr u00
 have h:=B9 _ _ Y9
 unfold cC at h
 try dsimp only at h
 refine Ab (Ag rfl rfl)<|Aa<|Aj<|Ba rfl<|Aw<|AC<|Ae<|Ab (FV.entry (D:=g0) R4 .t9 .t1 H9 rfl)<|Ab (Ag rfl rfl)<|Ab (Ag rfl rfl)<|RG.nl zL R4 fun B04 G4 F7 E8=>RG.nl [.bool false,vN,.bool false,vN] F7 fun C04 W01 G7 F8=>AO (aa y0.1) G7 .t1 (ai rfl) fun D04 H7 G8=>?_
 have H2:=Tt B8 (Tt E8 (Tt F8 G8))
 refine AO [.bool y0.2.fh.fc,j01,.bool y0.2.fe.fc,k01] H7 .hd (o4 rfl (AE (Ah M5 H2)) rfl (AE (Ah P5 H2))) fun E04 s2 k4=>Aa<|Ae<|Ab (Au rfl (s2.memA .hd))<|bk h fun C0 R00 h=>Bi (.tuple #[.agg ((aa C0.1)).toArray,vI C0.2]) (bd 77) rfl (e1 rfl) (fun w9 hw9=>ab_c n (s2.hL0 hL hw9) y0.2 (s2.kd (Ah M5 (Tt H2 k4)) hw9) (s2.kd (Ah P5 (Tt H2 k4)) hw9) R00) rfl<|Ac rfl<|Ab (Ag rfl rfl)<|Ab (Ag rfl rfl)<|RG.nl zL s2 fun F04 H4 I7 H8=>AO (aa C0.1) I7 .hd (ai rfl) fun G04 Z3 I8=>Ai rfl<|Aa<|Aj<|Ae<|Ac rfl<|Ab (BM (i:=C0.2) (j:=0) rfl rfl)<|Aa<|MX.jo (α:=Bool) (fun d2=>[(0,vP c0),(4,J0),(19,vP F1),(5,vP G4),(7,vP H4)]) (fun d2=>[.cells H4 (aa C0.1) 34,.cells G4 (aa y0.1) 34,rr w 37 Tb J0 Q0.length x1,.obj F1 (aF b0 g0.length (u1.push R5)),.obj H0 (.deferred (some [])),.cells k0 [v1_0] 24,.cells q0 [v0_0] 24,.cells D0 [.map (some d0)] 127,.obj d0 (ax (u0:List (ByteArray × Bool))),.cells x0 [vP c0] 122,.cells c0 [.map (some b0),.bool d2] 126,.obj b0 (ax g0),rr w 24 (List Tb) (vS I0 2) (([a0,a1]:List (List Tb)).length) [v0_0,v1_0]]) (fun d2=>d2) Z3 h ?_ ?_
 rintro d2 b05 b4 J8 h
 try dsimp only at h
 refine Aq<|Ac rfl<|Ab (Au rfl (b4.memA .t1))<|Ab (Au rfl (b4.memA .hd))<|Ab (AQ (vs:=[.agg ((aa y0.1)).toArray,.agg ((aa C0.1)).toArray]) (u:=.agg ((aa y0.1 ++ aa C0.1)).toArray) (e2 rfl rfl) (fun w9=>by kernel_rfl))<|Ak .plain rfl (AB (α:=Tb) (xs:=([(⟨y0.1,C0.1⟩:Tb)]:List Tb)) (vs:=[.agg ((aa y0.1 ++ aa C0.1)).toArray]) (ds' :=(aa y0.1 ++ aa C0.1)) rfl b4 ek rfl (e1 rfl) (by kernel_rfl) rfl) fun H04 X01 c4 K8=>bk h fun v01 F00 h=>?_
 have E5:=Tt H2 (Tt k4 (Tt H8 (Tt I8 (Tt J8 K8))))
 refine BD .plain rfl (AR (α:=Tb) (ys:=([(⟨y0.1,C0.1⟩:Tb)]:List Tb)) F00 c4 (fun _ _=>.t3) ek rfl rfl (Ar q5 E5) (Bd (α:=Tb) c4 .hd (Az (cs:=(aa y0.1 ++ aa C0.1)) (xs:=(([(⟨y0.1,C0.1⟩:Tb)]:List Tb):List Tb)) c4 L (Ao (cs:=(aa y0.1 ++ aa C0.1)) (ds:=[]) (bz y0.1 C0.1) (AA _ _))))) fun p01 I04 ⟨B6,J7,M8,A9⟩=>Ai rfl<|Aa<|AF ?_
 obtain ⟨K7,k5⟩:=AD J7 .d3
 exact D6 W00 (v01,d2,p01,B6,(u1.push R5)) _ _ ⟨rfl,rfl,rfl,trivial⟩ ⟨K7,(Tt j5 (Tt E5 (Tt M8 k5))),(Ar A9 k5),M9⟩ h
 intro I01 J4 h
 try dsimp only at h
 refine MX.ifn rfl h (fun z6 h=>?_) (fun z6 h=>?_)
 refine Aw ?_
 obtain ⟨M7,P8⟩:=AD Z3 (.a0 .d1)
 exact J4 s1 M7 P8 h
 refine Aq<|Ac rfl<|Ab (Bk rfl)<|Bn 1 rfl<|RG.now .plain (BL (j:=1) (old:=[.map (some b0),.bool s1]) (news:=[.bool true]) (new' :=[.map (some b0),.bool true]) Z3 .t11 rfl rfl rfl rfl rfl rfl (o1 rfl) rfl) fun J04 P7 Q8=>Aa ?_
 obtain ⟨Q7,R8⟩:=AD P7 (.a0 .d1)
 exact J4 true Q7 (Tt Q8 R8) h
 refine Ae<|Ac rfl<|Ai rfl<|Ai rfl<|Aa<|Ax rfl ?_
 have y00:=BC (α:=Tb) p1 L
 refine Ap hb0 func24 rfl (.cons (.tmp rfl) (.cons (.tmp rfl) .nil)) rfl ?_
 cases h
 exact ⟨p1.ag,fun w9 hw9=>⟨vN,rfl,p1.kd y00 hw9⟩⟩
def bQ (n:Nat) (d0:Ta × Tc) (c0:Bool × (List UInt64) × Bool × (List UInt64) -> Option (Ta × Int)):Bool × (List UInt64) × Bool × (List UInt64) -> Option (Ta × Int)
  | (g0,k0,j0,p0)=>(aG_p n d0.2.fh).bind fun q0=>(if 0 < q0 then (aa_p n (⟨(⟨g0,k0⟩:Td),(⟨j0,p0⟩:Td)⟩:Tc) d0.2).bind fun b0=>c0 (b0.fh.fc,b0.fh.fj,b0.fe.fc,b0.fe.fj) else c0 (g0,k0,j0,p0))
def br_l1 (n:Nat) (a1:List Tb) (g0:Nat × (List (Ta × Tc)) -> Option (List (Ta × Tc))):Nat × (List (Ta × Tc)) -> Option (List (Ta × Tc))
  | (c0,b0)=>(if c0 < a1.length then (a1[c0]?).bind fun d0=>(aJ_p n d0).bind fun k0=>(bF_p n k0).bind fun j0=>dn (bf b0 d0.fl) (g0 (c0 + 1,aC b0 d0.fl j0)) (fun p0=>(aa_p n j0 p0).bind fun q0=>g0 (c0 + 1,aC b0 d0.fl q0)) else some b0)
def br_l2 (n:Nat) (a0:List Tb) (g0:Nat × (List (Ta × Tc)) -> Option (List (Ta × Tc))):Nat × (List (Ta × Tc)) -> Option (List (Ta × Tc))
  | (c0,b0)=>(if c0 < a0.length then (a0[c0]?).bind fun d0=>(aJ_p n d0).bind fun j0=>dn (bf b0 d0.fl) (g0 (c0 + 1,aC b0 d0.fl j0)) (fun k0=>(aa_p n j0 k0).bind fun p0=>g0 (c0 + 1,aC b0 d0.fl p0)) else some b0)
def br_p (n:Nat) (a0:List Tb) (a1:List Tb):Option (Ta × Int):=
  (al_p n ([a0,a1]:List (List Tb)) ([]:List Ta)).bind fun c0=>(if c0 = 0 then Option.bind (au (br_l2 n a0) n (0,([]:List (Ta × Tc)))) (fun g0=>Option.bind (au (br_l1 n a1) n (0,g0)) (fun j0=>(av_p n (0:Int)).bind fun b0=>mloop (fun (k0,q0,p0,s0)=>(ab_p n (⟨(⟨k0,q0⟩:Td),(⟨p0,s0⟩:Td)⟩:Tc)).bind fun d0=>some (d0.1,d0.2)) (bQ n) n j0 (b0.fh.fc,b0.fh.fj,b0.fe.fc,b0.fe.fj))) else some ((⟨(0,0,0,0,0,0,0,0),(0,0,0,0,0,0,0,0)⟩:Ta),c0))
theorem br_c (n:Nat) {L w} (hL:hl L w) {a0:List Tb} {v0_0:Value} (h0_0:Rep.R w L [v0_0] a0) {a1:List Tb} {v1_0:Value} (h1_0:Rep.R w L [v1_0] a1)  {r:Ta × Int} (h:br_p n a0 a1 = some r) :
 Cl 25 #[v0_0,v1_0] w (ak w fun _ u=>u = .tuple #[.agg ((aa r.1)).toArray,vI r.2]):=by
 unfold br_p at h
 refine AN func25 rfl rfl rfl fun _ cs0 hb0=>Ae<|RG.nl zL (AM w) fun P8 p0 K1 p8=>Ai rfl<|Aa<|Aj<|Ae<|Ac rfl<|Ac rfl ?_
 obtain ⟨v7,U7,M6,_⟩:=Rep.sl (AL h0_0 K1)
 obtain ⟨x7,V7,P6,_⟩:=Rep.sl (AL h1_0 K1)
 refine Ak .plain rfl (AB (α:=List Tb) (xs:=([a0,a1]:List (List Tb))) (vs:=[v0_0,v1_0]) (ds' :=[v0_0,v1_0]) rfl K1 iY rfl (e2 rfl rfl) (by rw [M6,P6]; try kernel_rfl) rfl) fun Q8 D7 M0 q8=>bk h fun B4 V6 h=>Bi (vI B4) (bd 63) rfl (e2 rfl rfl) (fun w9 hw9=>al_c n (M0.hL0 hL hw9) (Af (St.lend (α:=List Tb) (L:=L) M0 .hd (Az (cs:=[v0_0,v1_0]) (xs:=(([a0,a1]:List (List Tb)):List (List Tb))) M0 L (Ao (cs:=[v0_0]) (ds:=[v1_0]) (AL h0_0 M0) (Ao (cs:=[v1_0]) (ds:=[]) (AL h1_0 M0) (AA _ _)))) hL) hw9) (Af (Rep.nilSlice _ _) hw9) V6) rfl<|Ai rfl<|Aa<|Ae<|Ac rfl<|Ab (BM (i:=B4) (j:=0) rfl rfl)<|Aa<|MX.ifn rfl h (fun E4 h=>?_) (fun E4 h=>?_)
 refine Aw<|Ae<|Ak .plain rfl (Does.makeMap (κ:=Ta) (ν:=List Value) M0) fun b9 c0 P1 s8=>Ai rfl<|Aa<|Aj<|Ae<|Ac rfl ?_
 have y3:=AL h0_0 P1
 have u8:a0.length <= 281474976710656:=AT y3
 refine Ab (AY (xs:=a0) underlying24 rfl y3)<|Ac rfl<|Aa<|AC ?_
 obtain ⟨M4,D5⟩:=AD P1 (.a0 .d1)
 obtain ⟨z8,B6,j6⟩:=ap h
 refine MX.lf (α:=Nat × (List (Ta × Tc)) × (List (Ta × List Value))) (fun ⟨q0,B0,y0⟩=>[(1,v1_0),(4,vP p0),(7,.map (some c0)),(24,v0_0),(25,vI ((a0.length:Nat):Int)),(26,vI ((q0:Nat):Int))]) (fun ⟨q0,B0,y0⟩=>[.obj c0 (ax y0),.cells p0 zL 34]) (fun ⟨q0,B0,y0⟩ z4=>MR z4 (bl [.obj c0 (ax y0),.cells p0 zL 34] ++ L) y0 B0) (fun ⟨q0,B0,y0⟩=>(q0,B0)) (0,([]:List (Ta × Tc)),([]:List (Ta × List Value))) B6 M4 (BG (MR.at_ (Z:=([]:List (Ta × List Value))) (M:=([]:List (Ta × Tc))) P1 L trivial) D5) ?_
 rintro A7 ⟨q0,B0,y0⟩ z4 F2 c1 P2 x1 h
 unfold br_l2 at h
 try dsimp only at h
 refine Ae<|Ab (Bb (i:=q0) (j:=a0.length) rfl rfl)<|Aa<|Aj<|AS rfl h (fun D4 h=>?_) (fun D4 h=>?_)
 refine Aw<|Aj<|AC<|Ae<|bk h fun d0 Q6 h=>?_
 obtain ⟨y7,W7,d6,q6,Y7,E6,u6⟩:=Bl (AL h0_0 c1) Q6
 obtain rfl:=ba E6
 refine Ab (Bx 32 q0 rfl d6 rfl rfl q6)<|Ab (Au rfl u6)<|RG.nl [vW 0,vW 0,vW 0,vW 0,vW 0,vW 0,vW 0,vW 0,vW 0,vW 0,vW 0,vW 0,vW 0,vW 0,vW 0,vW 0,vW 0,vW 0,vW 0,vW 0,vW 0,vW 0,vW 0,vW 0,vW 0,vW 0,vW 0,vW 0,vW 0,vW 0,vW 0,vW 0] c1 fun R8 E7 P4 E5=>AO (aA d0) P4 .hd (ai rfl) fun U8 g1 F5=>Aa<|du 5 fun D0 z1=>Rv 0 D0 rfl z1 (fun _=>Av rfl)<|Rv 1 D0 rfl z1 (fun _=>Bp 0 rfl)<|Rx 2 32 D0 rfl z1 (AZ (cs:=(aa d0.fl)) rfl rfl (ah (g1.memA .hd) 0 16))<|Rx 3 48 D0 rfl z1 (Au rfl (g1.memA .hd))<|bk h fun j0 U6 h=>AX 4 31 D0 rfl .plain (bd 66) rfl (e1 rfl) (fun w9 hw9=>aJ_c n (g1.hL hL hw9) d0 U6) rfl fun V8 D8 V5 ⟨B1,C1,hu_,M3,P3⟩=>?_
 subst hu_
 obtain ⟨Q4,G5⟩:=g1.agr V5
 refine BF (i:=5) (rk D0) (RO.enterPT (m' :=63) (fst:=[]) (cap:=[]) (vs:=[.map (some c0),.agg ((aa d0.fl)).toArray,.agg #[.bool j0.fh.fc,B1,.bool j0.fe.fc,C1]]) (sk D0) rfl rfl .plain (bd 88) func88 rfl rfl rfl rfl (e3 rfl rfl rfl) rfl (fun _ Z7 s3 x8=>?_))
 refine Ae<|RG.bx Q4 rfl rfl fun W8 F7 R4 Y1=>RG.bx R4 rfl rfl fun X8 G7 X0 Z1=>Aa<|Aj<|Ae<|Ac rfl<|Ab (Au rfl (X0.memA .t1)) ?_
 have u2:=Tt E5 (Tt F5 (Tt G5 (Tt Y1 Z1)))
 have v6:=BG x1 u2
 rcases MR.get d0.fl v6 with ⟨q2,z2⟩ | ⟨b8,D2,z2,q2,F6⟩
 have h:=cB h q2
 refine Ab (FV.lookupK (kv:=d0.fl) (q:=false) aq X0 .t3 underlying124 (z:=.agg #[.bool false,vN,.bool false,vN]) rfl rfl rfl (.inl ⟨z2,rfl,rfl⟩))<|Ac rfl<|Ab (Ag rfl rfl)<|Ab (Ag rfl rfl)<|RG.nl [.bool false,vN,.bool false,vN] X0 fun Y8 H7 U4 Q2=>AO [.bool false,vN,.bool false,vN] U4 .hd (ai rfl) fun Z8 M1 R2=>Ai rfl<|Aa<|Ae<|Ac rfl<|Aa<|BH rfl<|Aw<|Aq<|Ac rfl<|Ab (Au rfl (M1.memA .t2))<|Ab (Au rfl (M1.memA .t1)) ?_
 have A3:=Tt u2 (Tt Q2 R2)
 have B3:=Tt Y1 (Tt Z1 (Tt Q2 R2))
 refine RG.now .plain (BE (kv:=d0.fl) (vv:=[.bool j0.fh.fc,B1,.bool j0.fe.fc,C1]) aq M1 .t4 underlying124 rfl rfl rfl) fun c9 V4 U2=>Aa<|MX.fin rfl<|Ap (u:=.tuple #[]) s3 func88 rfl .nil rfl<|AK (dk D0)<|AF<|Aq<|Ab (Bf (i:=q0) (j:=1) rfl rfl (by omega))<|Ac rfl<|Aa ?_
 obtain ⟨W4,V2⟩:=AD V4 .d4
 exact F2 (q0 + 1,aC B0 d0.fl j0,(aC y0 d0.fl [.bool j0.fh.fc,B1,.bool j0.fe.fc,C1])) W4 (Tt P2 (Tt A3 (Tt U2 V2))) (BG (MR.set (k:=d0.fl) (c:=[.bool j0.fh.fc,B1,.bool j0.fe.fc,C1]) (y:=j0) (cb j0.fh (Ah M3 B3) j0.fe (Ah P3 B3)) (BG x1 A3)) (Tt U2 V2)) h
 have h:=cG h q2
 obtain ⟨j7,k7,rfl,Q3,R3⟩:=cr F6
 refine Ab (FV.lookupK (kv:=d0.fl) (q:=true) aq X0 .t3 underlying124 (z:=.agg #[.bool false,vN,.bool false,vN]) rfl rfl rfl (.inr ⟨_,z2,rfl,rfl⟩))<|Ac rfl<|Ab (Ag rfl rfl)<|Ab (Ag rfl rfl)<|RG.nl [.bool false,vN,.bool false,vN] X0 fun d9 I7 X4 R0=>AO [.bool D2.fh.fc,j7,.bool D2.fe.fc,k7] X4 .hd (o4 rfl (AE (Ah Q3 R0)) rfl (AE (Ah R3 R0))) fun g9 j1 s1=>Ai rfl<|Aa<|Ae<|Ac rfl<|Aa<|Ba rfl<|Aq<|Ab (Au rfl (j1.memA .t1))<|Ab (Au rfl (j1.memA .hd))<|bk h fun t0 W6 h=>?_
 have C3:=Tt Y1 (Tt Z1 (Tt R0 s1))
 refine jE (bd 81) rfl (e2 rfl rfl) (fun w9 hw9=>aa_c n (j1.hL hL hw9) j0 (Af (Ah M3 C3) hw9) (Af (Ah P3 C3) hw9) D2 (Af (Ah Q3 (Tt R0 s1)) hw9) (Af (Ah R3 (Tt R0 s1)) hw9) W6) rfl fun j9 E8 W5 ⟨D1,E1,hu_,U3,V3⟩=>?_
 subst hu_
 obtain ⟨Y4,H5⟩:=j1.agr W5
 refine AO [.bool t0.fh.fc,D1,.bool t0.fe.fc,E1] Y4 .t1 (o4 rfl (AE U3) rfl (AE V3)) fun k9 Q1 b2=>Aa<|Aq<|Ac rfl<|Ab (Au rfl (Q1.memA .t2))<|Ab (Au rfl (Q1.memA .t1)) ?_
 have D3:=Tt u2 (Tt R0 (Tt s1 (Tt H5 b2)))
 refine RG.now .plain (BE (kv:=d0.fl) (vv:=[.bool t0.fh.fc,D1,.bool t0.fe.fc,E1]) aq Q1 .t4 underlying124 rfl rfl rfl) fun p9 Z4 W2=>Aa<|MX.fin rfl<|Ap (u:=.tuple #[]) s3 func88 rfl .nil rfl<|AK (dk D0)<|AF<|Aq<|Ab (Bf (i:=q0) (j:=1) rfl rfl (by omega))<|Ac rfl<|Aa ?_
 obtain ⟨b5,X2⟩:=AD Z4 .d4
 exact F2 (q0 + 1,aC B0 d0.fl t0,(aC y0 d0.fl [.bool t0.fh.fc,D1,.bool t0.fe.fc,E1])) b5 (Tt P2 (Tt D3 (Tt W2 X2))) (BG (MR.set (k:=d0.fl) (c:=[.bool t0.fh.fc,D1,.bool t0.fe.fc,E1]) (y:=t0) (cb t0.fh (Ah U3 b2) t0.fe (Ah V3 b2)) (BG x1 D3)) (Tt W2 X2)) h
 refine Bc rfl ?_
 have h:=j6 _ h
 try dsimp only at h
 refine Aj<|Ae<|Ac rfl ?_
 have x3:=AL h1_0 c1
 have v8:a1.length <= 281474976710656:=AT x3
 refine Ab (AY (xs:=a1) underlying24 rfl x3)<|Ac rfl<|Aa<|AC ?_
 obtain ⟨A8,C6,k6⟩:=ap h
 refine MX.lf (α:=Nat × (List (Ta × Tc)) × (List (Ta × List Value))) (fun ⟨s0,C0,b0⟩=>[(4,vP p0),(7,.map (some c0)),(37,v1_0),(38,vI ((a1.length:Nat):Int)),(39,vI ((s0:Nat):Int))]) (fun ⟨s0,C0,b0⟩=>[.obj c0 (ax b0),.cells p0 zL 34]) (fun ⟨s0,C0,b0⟩ A4=>MR A4 (bl [.obj c0 (ax b0),.cells p0 zL 34] ++ L) b0 C0) (fun ⟨s0,C0,b0⟩=>(s0,C0)) (0,B0,y0) C6 c1 x1 ?_
 rintro B7 ⟨s0,C0,b0⟩ A4 G2 k1 Y2 y1 h
 unfold br_l1 at h
 try dsimp only at h
 refine Ae<|Ab (Bb (i:=s0) (j:=a1.length) rfl rfl)<|Aa<|Aj<|AS rfl h (fun F4 h=>?_) (fun F4 h=>?_)
 refine Aw<|Aj<|AC<|Ae<|bk h fun g0 R6 h=>?_
 obtain ⟨z7,X7,g6,s6,c8,G6,x6⟩:=Bl (AL h1_0 k1) R6
 obtain rfl:=ba G6
 refine Ab (Bx 32 s0 rfl g6 rfl rfl s6)<|Ab (Au rfl x6)<|RG.nl [vW 0,vW 0,vW 0,vW 0,vW 0,vW 0,vW 0,vW 0,vW 0,vW 0,vW 0,vW 0,vW 0,vW 0,vW 0,vW 0,vW 0,vW 0,vW 0,vW 0,vW 0,vW 0,vW 0,vW 0,vW 0,vW 0,vW 0,vW 0,vW 0,vW 0,vW 0,vW 0] k1 fun q9 J7 c5 I5=>AO (aA g0) c5 .hd (ai rfl) fun s9 p1 J5=>Aa<|du 6 fun z0 A1=>Rv 0 z0 rfl A1 (fun _=>Av rfl)<|Rv 1 z0 rfl A1 (fun _=>Bp 0 rfl)<|Rx 2 64 z0 rfl A1 (AZ (cs:=(aa g0.fl)) rfl rfl (ah (p1.memA .hd) 0 16))<|Rx 3 112 z0 rfl A1 (Au rfl (p1.memA .hd))<|bk h fun u7 X6 h=>AX 4 31 z0 rfl .plain (bd 66) rfl (e1 rfl) (fun w9 hw9=>aJ_c n (p1.hL hL hw9) g0 X6) rfl fun t9 F8 X5 ⟨B8,C8,hu_,H6,I6⟩=>?_
 subst hu_
 obtain ⟨J2,K5⟩:=p1.agr X5
 refine bk h fun k0 Y6 h=>AX 5 63 z0 rfl .plain (bd 89) rfl (e1 rfl) (fun w9 hw9=>bF_c n (J2.hL hL hw9) u7 (Af H6 hw9) (Af I6 hw9) Y6) rfl fun u9 G8 Y5 ⟨F1,G1,hu_,W3,X3⟩=>?_
 subst hu_
 obtain ⟨d5,M5⟩:=J2.agr Y5
 refine BF (i:=6) (rk z0) (RO.enterPT (m' :=127) (fst:=[]) (cap:=[]) (vs:=[.map (some c0),.agg ((aa g0.fl)).toArray,.agg #[.bool k0.fh.fc,F1,.bool k0.fe.fc,G1]]) (sk z0) rfl rfl .plain (bd 88) func88 rfl rfl rfl rfl (e3 rfl rfl rfl) rfl (fun _ d8 u3 y8=>?_))
 refine Ae<|RG.bx d5 rfl rfl fun v9 K7 g5 c2=>RG.bx g5 rfl rfl fun x9 M7 Y0 d2=>Aa<|Aj<|Ae<|Ac rfl<|Ab (Au rfl (Y0.memA .t1)) ?_
 have v2:=Tt I5 (Tt J5 (Tt K5 (Tt M5 (Tt c2 d2))))
 have y6:=BG y1 v2
 rcases MR.get g0.fl y6 with ⟨s2,A2⟩ | ⟨g8,E2,A2,s2,J6⟩
 have h:=cB h s2
 refine Ab (FV.lookupK (kv:=g0.fl) (q:=false) aq Y0 .t3 underlying124 (z:=.agg #[.bool false,vN,.bool false,vN]) rfl rfl rfl (.inl ⟨A2,rfl,rfl⟩))<|Ac rfl<|Ab (Ag rfl rfl)<|Ab (Ag rfl rfl)<|RG.nl [.bool false,vN,.bool false,vN] Y0 fun y9 P7 j5 Z2=>AO [.bool false,vN,.bool false,vN] j5 .hd (ai rfl) fun z9 R1 b3=>Ai rfl<|Aa<|Ae<|Ac rfl<|Aa<|BH rfl<|Aw<|Aq<|Ac rfl<|Ab (Au rfl (R1.memA .t2))<|Ab (Au rfl (R1.memA .t1)) ?_
 have E3:=Tt v2 (Tt Z2 b3)
 have F3:=Tt c2 (Tt d2 (Tt Z2 b3))
 refine RG.now .plain (BE (kv:=g0.fl) (vv:=[.bool k0.fh.fc,F1,.bool k0.fe.fc,G1]) aq R1 .t4 underlying124 rfl rfl rfl) fun A9 k5 c3=>Aa<|MX.fin rfl<|Ap (u:=.tuple #[]) u3 func88 rfl .nil rfl<|AK (dk z0)<|AF<|Aq<|Ab (Bf (i:=s0) (j:=1) rfl rfl (by omega))<|Ac rfl<|Aa ?_
 obtain ⟨p5,d3⟩:=AD k5 .d4
 exact G2 (s0 + 1,aC C0 g0.fl k0,(aC b0 g0.fl [.bool k0.fh.fc,F1,.bool k0.fe.fc,G1])) p5 (Tt Y2 (Tt E3 (Tt c3 d3))) (BG (MR.set (k:=g0.fl) (c:=[.bool k0.fh.fc,F1,.bool k0.fe.fc,G1]) (y:=k0) (cb k0.fh (Ah W3 F3) k0.fe (Ah X3 F3)) (BG y1 E3)) (Tt c3 d3)) h
 have h:=cG h s2
 obtain ⟨p7,q7,rfl,Y3,Z3⟩:=cr J6
 refine Ab (FV.lookupK (kv:=g0.fl) (q:=true) aq Y0 .t3 underlying124 (z:=.agg #[.bool false,vN,.bool false,vN]) rfl rfl rfl (.inr ⟨_,A2,rfl,rfl⟩))<|Ac rfl<|Ab (Ag rfl rfl)<|Ab (Ag rfl rfl)<|RG.nl [.bool false,vN,.bool false,vN] Y0 fun B9 Q7 q5 U0=>AO [.bool E2.fh.fc,p7,.bool E2.fe.fc,q7] q5 .hd (o4 rfl (AE (Ah Y3 U0)) rfl (AE (Ah Z3 U0))) fun C9 q1 u1=>Ai rfl<|Aa<|Ae<|Ac rfl<|Aa<|Ba rfl<|Aq<|Ab (Au rfl (q1.memA .t1))<|Ab (Au rfl (q1.memA .hd))<|bk h fun u0 Z6 h=>?_
 have G3:=Tt c2 (Tt d2 (Tt U0 u1))
 refine jE (bd 81) rfl (e2 rfl rfl) (fun w9 hw9=>aa_c n (q1.hL hL hw9) k0 (Af (Ah W3 G3) hw9) (Af (Ah X3 G3) hw9) E2 (Af (Ah Y3 (Tt U0 u1)) hw9) (Af (Ah Z3 (Tt U0 u1)) hw9) Z6) rfl fun D9 H8 Z5 ⟨H1,I1,hu_,b4,c4⟩=>?_
 subst hu_
 obtain ⟨s5,P5⟩:=q1.agr Z5
 refine AO [.bool u0.fh.fc,H1,.bool u0.fe.fc,I1] s5 .t1 (o4 rfl (AE b4) rfl (AE c4)) fun E9 U1 g2=>Aa<|Aq<|Ac rfl<|Ab (Au rfl (U1.memA .t2))<|Ab (Au rfl (U1.memA .t1)) ?_
 have H3:=Tt v2 (Tt U0 (Tt u1 (Tt P5 g2)))
 refine RG.now .plain (BE (kv:=g0.fl) (vv:=[.bool u0.fh.fc,H1,.bool u0.fe.fc,I1]) aq U1 .t4 underlying124 rfl rfl rfl) fun F9 t5 g3=>Aa<|MX.fin rfl<|Ap (u:=.tuple #[]) u3 func88 rfl .nil rfl<|AK (dk z0)<|AF<|Aq<|Ab (Bf (i:=s0) (j:=1) rfl rfl (by omega))<|Ac rfl<|Aa ?_
 obtain ⟨u5,j3⟩:=AD t5 .d4
 exact G2 (s0 + 1,aC C0 g0.fl u0,(aC b0 g0.fl [.bool u0.fh.fc,H1,.bool u0.fe.fc,I1])) u5 (Tt Y2 (Tt H3 (Tt g3 j3))) (BG (MR.set (k:=g0.fl) (c:=[.bool u0.fh.fc,H1,.bool u0.fe.fc,I1]) (y:=u0) (cb u0.fh (Ah b4 g2) u0.fe (Ah c4 g2)) (BG y1 H3)) (Tt g3 j3)) h
 refine Bc rfl ?_
 have h:=k6 _ h
 try dsimp only at h
 refine Ae<|bk h fun K0 b7 h=>jE (bd 71) rfl (e1 rfl) (fun w9 hw9=>av_c n (k1.hL hL hw9)  b7) rfl fun G9 I8 b6 ⟨B2,C2,hu_,g4,j4⟩=>?_
 subst hu_
 obtain ⟨v5,Q5⟩:=k1.agr b6
 refine RG.nl [.bool false,vN,.bool false,vN] v5 fun H9 P0 x5 v1=>AO [.bool K0.fh.fc,B2,.bool K0.fe.fc,C2] x5 .hd (o4 rfl (AE (Ah g4 v1)) rfl (AE (Ah j4 v1))) fun I9 y5 k3=>Aa<|Aj<|Ae<|Ac rfl<|Ak .plain rfl (Does.range (D:=b0) y5 .t1 underlying124 rfl) fun t7 Q0 z5 p3=>Aa<|AC ?_
 have I3:=Tt v1 (Tt k3 p3)
 refine MX.mloop (α:=Bool × (List UInt64) × Bool × (List UInt64) × (Array Nat) × Value × Value) (fun ⟨v0,I0,x0,J0,A0,E0,F0⟩=>[(4,vP p0),(12,vP P0),(53,vP Q0)]) (fun s4 ⟨v0,I0,x0,J0,A0,E0,F0⟩ b1=>St w b1 [.obj Q0 (aF c0 b0.length A0),.cells P0 [.bool v0,E0,.bool x0,F0] 109,.obj c0 (ax b0),.cells p0 zL 34]/\Tr t7 [.obj Q0 (aF c0 b0.length #[]),.cells P0 [.bool K0.fh.fc,B2,.bool K0.fe.fc,C2] 109,.obj c0 (ax b0),.cells p0 zL 34] b1 [.obj Q0 (aF c0 b0.length A0),.cells P0 [.bool v0,E0,.bool x0,F0] 109,.obj c0 (ax b0),.cells p0 zL 34]/\left C0 A0 = s4/\Rep.R b1 (bl [.obj Q0 (aF c0 b0.length A0),.cells P0 [.bool v0,E0,.bool x0,F0] 109,.obj c0 (ax b0),.cells p0 zL 34] ++ L) [E0] I0/\Rep.R b1 (bl [.obj Q0 (aF c0 b0.length A0),.cells P0 [.bool v0,E0,.bool x0,F0] 109,.obj c0 (ax b0),.cells p0 zL 34] ++ L) [F0] J0) (fun ⟨v0,I0,x0,J0,A0,E0,F0⟩=>(v0,I0,x0,J0)) (K0.fh.fc,K0.fh.fj,K0.fe.fc,K0.fe.fj,#[],B2,C2) h ⟨rfl,rfl,rfl,trivial⟩ ⟨z5,BJ _ _,(cj _),(Ah g4 I3),(Ah j4 I3)⟩ ?_
 rintro s4 ⟨v0,I0,x0,J0,A0,E0,F0⟩ b1 C7 H2 ⟨A5,j2,t6,x2,y2⟩ z6 c6
 refine Ae<|RG.nextR (W:=b0) (BG y1 (Tt Q5 (Tt v1 (Tt k3 (Tt p3 j2))))) A5 .t2 (fun _=>.hd) rfl rfl t6 (fun J9 A6 Z0 q3=>?_) (fun K9 q4 W0 j8 u4 p6 K6 D6 v3 K2 k2=>?_)
 have h:=z6 A6
 try dsimp only at h
 refine Ab (Ag rfl rfl)<|Aa<|Aj<|BH rfl<|Bc rfl<|Ae<|Ab (Au rfl (Z0.memA .t1))<|bk h fun J1 c7 h=>Bi (.tuple #[.agg ((aa J1.1)).toArray,vI J1.2]) (bd 77) rfl (e1 rfl) (fun w9 hw9=>ab_c n (Z0.hL0 hL hw9) (⟨(⟨v0,I0⟩:Td),(⟨x0,J0⟩:Td)⟩:Tc) (Z0.kd (Ah x2 q3) hw9) (Z0.kd (Ah y2 q3) hw9) c7) rfl<|Ab (Ag rfl rfl)<|Ab (Ag rfl rfl)<|AO (aa J1.1) Z0 .t3 (ai rfl) fun M9 M2 t8=>Ai rfl<|Aa<|Ax rfl<|Ap hb0 func25 rfl (.cons (.many (cs:=(aa J1.1)) rfl rfl (M2.memA .t3)) (.cons (.tmp rfl) .nil)) rfl ?_
 cases h
 exact M2.gv
 obtain ⟨y4,s7,rfl,k4,p4⟩:=cr K6
 have h:=c6 _ _ D6
 unfold bQ at h
 try dsimp only at h
 refine Ab (Ag rfl rfl)<|Aa<|Aj<|Ba rfl<|Aw<|AC<|Ae<|Ab (FV.entry (D:=b0) K2 .t2 .hd p6 rfl)<|Ab (Ag rfl rfl)<|RG.nl [.bool false,vN,.bool false,vN] K2 fun P9 R7 B5 p2=>AO [.bool W0.2.fh.fc,y4,.bool W0.2.fe.fc,s7] B5 .hd (o4 rfl (AE (Ah k4 (Tt k2 p2))) rfl (AE (Ah p4 (Tt k2 p2)))) fun Q9 G0 R5=>Aa<|Ae<|Bn 0 rfl<|Ab (AZ (cs:=[.bool W0.2.fh.fc,y4]) rfl rfl (ah (G0.memA .hd) 0 2))<|bk h fun C4 d7 h=>?_
 have H0:=Tt k2 (Tt p2 R5)
 have z3:=Ah k4 H0
 refine Bi (vI C4) (bd 67) rfl (e1 rfl) (fun w9 hw9=>aG_c n (G0.hL0 hL hw9) W0.2.fh (G0.kd z3 hw9) d7) rfl<|Ab (FV.gtr (i:=C4) (j:=0) rfl rfl)<|Aa<|AS rfl h (fun G4 h=>?_) (fun G4 h=>?_)
 refine Aq<|Ab (Au rfl (G0.memA .t2))<|Ab (Au rfl (G0.memA .hd))<|bk h fun V0 g7 h=>jE (bd 81) rfl (e2 rfl rfl) (fun w9 hw9=>aa_c n (G0.hL hL hw9) (⟨(⟨v0,I0⟩:Td),(⟨x0,J0⟩:Td)⟩:Tc) (Af (Ah x2 H0) hw9) (Af (Ah y2 H0) hw9) W0.2 (Af z3 hw9) (Af (Ah p4 H0) hw9) g7) rfl fun R9 J8 U5 ⟨v4,x4,hu_,J3,K3⟩=>?_
 subst hu_
 obtain ⟨H4,C5⟩:=G0.agr U5
 refine AO [.bool V0.fh.fc,v4,.bool V0.fe.fc,x4] H4 .t2 (o4 rfl (AE J3) rfl (AE K3)) fun K8 I4 V1=>Aa<|AF ?_
 obtain ⟨J4,W1⟩:=AD I4 .d1
 exact H2 u4 (V0.fh.fc,V0.fh.fj,V0.fe.fc,V0.fe.fj,(A0.push q4),v4,x4) _ _ ⟨rfl,rfl,rfl,trivial⟩ ⟨J4,(Tt j2 (Tt H0 (Tt C5 (Tt V1 W1)))),v3,(Ah J3 (Tt V1 W1)),(Ah K3 (Tt V1 W1))⟩ h
 refine Aw<|AF ?_
 obtain ⟨K4,X1⟩:=AD G0 .d1
 exact H2 u4 (v0,I0,x0,J0,(A0.push q4),E0,F0) _ _ ⟨rfl,rfl,rfl,trivial⟩ ⟨K4,(Tt j2 (Tt H0 X1)),v3,(Ah x2 (Tt H0 X1)),(Ah y2 (Tt H0 X1))⟩ h
 refine Ae<|Ab (AQ (vs:=[]) (u:=.agg zM) ar (fun w9=>by kernel_rfl))<|Ac rfl<|AO zL M0 .t1 (ai rfl) fun M8 I2 k8=>Ai rfl<|Aa<|Ax rfl<|Ap hb0 func25 rfl (.cons (.many (cs:=zL) rfl rfl (I2.memA .t1)) (.cons (.tmp rfl) .nil)) rfl ?_
 cases h
 exact I2.gv
def aZ_p (n:Nat) (a0:Tc) (a1:Tc):Option Tc:=
  (ay_p n a0.fh a1.fe).bind fun b0=>(ay_p n a0.fe a1.fh).bind fun c0=>(bh_p n b0 c0).bind fun d0=>some d0
theorem aZ_c (n:Nat) {L w} (hL:hl L w) (a0:Tc) {v0_1:Value} (h0_1:Rep.R w L [v0_1] a0.fh.fj) {v0_3:Value} (h0_3:Rep.R w L [v0_3] a0.fe.fj) (a1:Tc) {v1_1:Value} (h1_1:Rep.R w L [v1_1] a1.fh.fj) {v1_3:Value} (h1_3:Rep.R w L [v1_3] a1.fe.fj)  {r:Tc} (h:aZ_p n a0 a1 = some r) :
 Cl 90 #[.agg #[.bool a0.fh.fc,v0_1,.bool a0.fe.fc,v0_3],.agg #[.bool a1.fh.fc,v1_1,.bool a1.fe.fc,v1_3]] w (ak w fun w' u=>∃ v0_1 v0_3:Value,u = .agg #[.bool r.fh.fc,v0_1,.bool r.fe.fc,v0_3]/\Rep.R w' L [v0_1] r.fh.fj/\Rep.R w' L [v0_3] r.fe.fj):=by
 unfold aZ_p at h
 refine AN func90 rfl rfl rfl fun _ cs0 hb0=>Ae<|RG.bx (AM w) rfl rfl fun g1 M0 x0 R0=>RG.bx x0 rfl rfl fun j1 P0 y0 U0=>RG.nl [.bool false,vN,.bool false,vN] y0 fun k1 Q0 c0 V0=>Aa<|Aj<|du 11 fun b0 d0=>Rv 0 b0 rfl d0 (fun _=>Bp 0 rfl)<|Rx 1 3600 b0 rfl d0 (AZ (cs:=[.bool a0.fh.fc,v0_1]) rfl rfl (ah (c0.memA .t2) 0 2))<|Rv 2 b0 rfl d0 (fun _=>Bp 2 rfl)<|Rx 3 3600 b0 rfl d0 (AZ (cs:=[.bool a1.fe.fc,v1_3]) rfl rfl (ah (c0.memA .t1) 2 2))<|Rv 5 b0 rfl d0 (fun _=>Bp 2 rfl)<|Rx 6 3584 b0 rfl d0 (AZ (cs:=[.bool a0.fe.fc,v0_3]) rfl rfl (ah (c0.memA .t2) 2 2))<|Rv 7 b0 rfl d0 (fun _=>Bp 0 rfl)<|Rx 8 3584 b0 rfl d0 (AZ (cs:=[.bool a1.fh.fc,v1_1]) rfl rfl (ah (c0.memA .t1) 0 2))<|bk h fun J0 G0 h=>AX 4 511 b0 rfl .plain (bd 136) rfl (e2 rfl rfl) (fun w9 hw9=>ay_c n (c0.hL hL hw9) a0.fh (c0.km h0_1 hw9) a1.fe (c0.km h1_3 hw9) G0) rfl fun p1 b1 B0 ⟨Y0,hu_,E0⟩=>?_
 subst hu_
 obtain ⟨g0,W0⟩:=c0.agr B0
 refine bk h fun K0 H0 h=>AX 9 1023 b0 rfl .plain (bd 136) rfl (e2 rfl rfl) (fun w9 hw9=>ay_c n (g0.hL hL hw9) a0.fe (g0.km h0_3 hw9) a1.fh (g0.km h1_1 hw9) H0) rfl fun q1 c1 C0 ⟨Z0,hu_,F0⟩=>?_
 subst hu_
 obtain ⟨s0,A0⟩:=g0.agr C0
 refine bk h fun k0 I0 h=>AX 10 2047 b0 rfl .plain (bd 140) rfl (e2 rfl rfl) (fun w9 hw9=>bh_c n (s0.hL hL hw9) J0 (Af (Ah E0 A0) hw9) K0 (Af F0 hw9) I0) rfl fun s1 d1 D0 ⟨p0,q0,hu_,u0,v0⟩=>?_
 subst hu_
 obtain ⟨z0,X0⟩:=s0.agr D0
 refine Bw 11 4095 b0 rfl rfl .plain (AG (news:=[.bool k0.fh.fc,p0,.bool k0.fe.fc,q0]) z0 .hd rfl rfl rfl rfl rfl rfl (o4 rfl (AE u0) rfl (AE v0))) fun u1 j0 t0=>AK (dk b0)<|Ax rfl<|Ap hb0 func90 rfl (.cons (.many (cs:=[.bool k0.fh.fc,p0,.bool k0.fe.fc,q0]) rfl rfl (j0.memA .hd)) .nil) rfl ?_
 cases h
 exact ⟨j0.ag,fun w9 hw9=>⟨p0,q0,rfl,j0.kd (Ah u0 t0) hw9,j0.kd (Ah v0 t0) hw9⟩⟩
def cF (n:Nat) (c0:Ta × Tc) (g0:(List Tb) × Bool -> Option ((List Tb) × Int)):(List Tb) × Bool -> Option ((List Tb) × Int)
  | (p0,j0)=>(ab_p n c0.2).bind fun d0=>jn (fun k0=>(app p0 ([(⟨c0.1,d0.1⟩:Tb)]:List Tb)).bind fun q0=>g0 (q0,k0)) (fun b0=>(if d0.2 = 0 then b0 j0 else b0 true))
def aF_l1 (n:Nat) (a0:List Ta) (j0:Tc) (g0:Nat × (List (Ta × Tc)) -> Option (List (Ta × Tc))):Nat × (List (Ta × Tc)) -> Option (List (Ta × Tc))
  | (c0,b0)=>(if c0 < a0.length then (a0[c0]?).bind fun d0=>dn (bf b0 d0) (g0 (c0 + 1,aC b0 d0 j0)) (fun k0=>(aa_p n j0 k0).bind fun p0=>g0 (c0 + 1,aC b0 d0 p0)) else some b0)
def aF_p (n:Nat) (a0:List Ta):Option ((List Tb) × Int):=
  (if 400 < a0.length then some (([]:List Tb),(3:Int)) else (al_p n ([]:List (List Tb)) a0).bind fun y4=>(if y4 = 0 then (if a0.length = 0 then some (([]:List Tb),(4:Int)) else (av_p n (1:Int)).bind fun j0=>(av_p n ((a0.length:Nat):Int)).bind fun k0=>(aZ_p n j0 k0).bind fun p0=>Option.bind (au (aF_l1 n a0 p0) n (0,([]:List (Ta × Tc)))) (fun b0=>(if 400 < b0.length then some (([]:List Tb),(3:Int)) else mloop (fun (c0,d0)=>(if d0 = true then some (([]:List Tb),(6:Int)) else (aR_p n (ac ((c0.length:Nat):Int))).bind fun q0=>(dD (fun x9 y9=>ae_p n x9 y9) q0 c0).bind fun g0=>some (g0,(0:Int)))) (cF n) n b0 (([]:List Tb),false)))) else some (([]:List Tb),y4)))
theorem aF_c (n:Nat) {L w} (hL:hl L w) {a0:List Ta} {v0_0:Value} (h0_0:Rep.R w L [v0_0] a0)  {r:(List Tb) × Int} (h:aF_p n a0 = some r) :
 Cl 26 #[v0_0] w (ak w fun w' u=>∃ v0_0:Value,u = .tuple #[v0_0,vI r.2]/\Rep.R w' L [v0_0] r.1):=by
 unfold aF_p at h
 have hS0:=AM w
 refine AN func26 rfl rfl rfl fun _ cs0 hb0=>Ae<|Ai rfl<|Ai rfl<|Aa<|Aj<|Ae<|Ac rfl ?_
 have hl1:a0.length <= 281474976710656:=AT h0_0
 refine Ab (AY (xs:=a0) underlying51 rfl h0_0)<|Ab (FV.gtrN (i:=a0.length) (j:=400) rfl rfl)<|Aa<|AS rfl h (fun c2 h=>?_) (fun c2 h=>?_)
 refine Ae<|Ai rfl<|Ai rfl<|Aa<|Ax rfl ?_
 have hr3:=BC (α:=Tb) hS0 L
 refine Ap hb0 func26 rfl (.cons (.tmp rfl) (.cons (.tmp rfl) .nil)) rfl ?_
 cases h
 exact ⟨hS0.ag,fun w9 hw9=>⟨vN,rfl,hS0.kd hr3 hw9⟩⟩
 refine Aw<|Aj<|Ae<|Ac rfl<|bk h fun y4 hy4 h=>Bi (vI y4) (bd 63) rfl (e2 rfl rfl) (fun w9 hw9=>al_c n (hS0.hL0 hL hw9) (Af (Rep.nilSlice _ _) hw9) (hS0.kd h0_0 hw9) hy4) rfl<|Ai rfl<|Aa<|Ae<|Ac rfl<|Ab (BM (i:=y4) (j:=0) rfl rfl)<|Aa<|MX.ifn rfl h (fun c5 h=>?_) (fun c5 h=>?_)
 refine Aw<|Aj<|Ae<|Ac rfl<|Ab (AY (xs:=a0) underlying51 rfl h0_0)<|Ab (FV.eqlN (i:=a0.length) (j:=0) rfl rfl)<|Aa<|AS rfl h (fun c6 h=>?_) (fun c6 h=>?_)
 refine Ae<|Ai rfl<|Ai rfl<|Aa<|Ax rfl ?_
 have hr7:=BC (α:=Tb) hS0 L
 refine Ap hb0 func26 rfl (.cons (.tmp rfl) (.cons (.tmp rfl) .nil)) rfl ?_
 cases h
 exact ⟨hS0.ag,fun w9 hw9=>⟨vN,rfl,hS0.kd hr7 hw9⟩⟩
 refine Aw<|Ae<|Ak .plain rfl (Does.makeMap (κ:=Ta) (ν:=List Value) hS0) fun P6 c0 P1 v6=>?_
 have y5:=MR.at_ (Z:=([]:List (Ta × List Value))) (M:=([]:List (Ta × Tc))) P1 L trivial
 refine Ab (AQ (vs:=[.map (some c0)]) (u:=.agg #[.map (some c0),.bool false]) (e1 rfl) (fun w9=>by kernel_rfl))<|RG.bx P1 rfl rfl fun Q6 x0 Q1 F3=>Ai rfl<|Aa<|Ae<|bk h fun I5 p5 h=>jE (bd 71) rfl (e1 rfl) (fun w9 hw9=>av_c n (Q1.hL hL hw9)  p5) rfl fun R6 I6 k4 ⟨E6,F6,hu_,P4,R4⟩=>?_
 subst hu_
 obtain ⟨g1,G3⟩:=Q1.agr k4
 refine Ac rfl<|Ab (AY (xs:=a0) underlying51 rfl (AL h0_0 g1))<|bk h fun J5 q5 h=>jE (bd 71) rfl (e1 rfl) (fun w9 hw9=>av_c n (g1.hL hL hw9)  q5) rfl fun Z6 J6 p4 ⟨G6,H6,hu_,W4,X4⟩=>?_
 subst hu_
 obtain ⟨R1,v1⟩:=g1.agr p4
 refine bk h fun b0 u5 h=>jE (bd 90) rfl (e2 rfl rfl) (fun w9 hw9=>aZ_c n (R1.hL hL hw9) I5 (Af (Ah P4 v1) hw9) (Af (Ah R4 v1) hw9) J5 (Af W4 hw9) (Af X4 hw9) u5) rfl fun q7 M6 s4 ⟨s0,t0,hu_,E1,F1⟩=>?_
 subst hu_
 obtain ⟨q3,M3⟩:=R1.agr s4
 refine RG.nl [.bool false,vN,.bool false,vN] q3 fun s7 D0 s3 P0=>AO [.bool b0.fh.fc,s0,.bool b0.fe.fc,t0] s3 .hd (o4 rfl (AE (Ah E1 P0)) rfl (AE (Ah F1 P0))) fun t7 X1 y1=>Aa<|Aj<|Ae<|Ac rfl<|Ab (AY (xs:=a0) underlying51 rfl (AL h0_0 X1))<|Ac rfl<|Aa<|AC ?_
 obtain ⟨D6,K4,B4⟩:=ap h
 refine MX.lf (α:=Nat × (List (Ta × Tc)) × (List (Ta × List Value))) (fun ⟨q0,y0,d0⟩=>[(5,vP x0),(6,vP D0),(28,v0_0),(29,vI ((a0.length:Nat):Int)),(30,vI ((q0:Nat):Int))]) (fun ⟨q0,y0,d0⟩=>[.cells D0 [.bool b0.fh.fc,s0,.bool b0.fe.fc,t0] 109,.cells x0 [.map (some c0),.bool false] 126,.obj c0 (ax d0)]) (fun ⟨q0,y0,d0⟩ J2=>MR J2 (bl [.cells D0 [.bool b0.fh.fc,s0,.bool b0.fe.fc,t0] 109,.cells x0 [.map (some c0),.bool false] 126,.obj c0 (ax d0)] ++ L) d0 y0) (fun ⟨q0,y0,d0⟩=>(q0,y0)) (0,([]:List (Ta × Tc)),([]:List (Ta × List Value))) K4 X1 (BG y5 (Tt F3 (Tt G3 (Tt v1 (Tt M3 (Tt P0 y1)))))) ?_
 rintro P5 ⟨q0,y0,d0⟩ J2 K1 A0 X0 R0 h
 unfold aF_l1 at h
 try dsimp only at h
 refine Ae<|Ab (Bb (i:=q0) (j:=a0.length) rfl rfl)<|Aa<|Aj<|AS rfl h (fun P2 h=>?_) (fun P2 h=>?_)
 refine Aw<|Aj<|AC<|Ae<|bk h fun p0 g5 h=>?_
 obtain ⟨K5,d6,z4,D4,j6,Q4,G4⟩:=Bl (AL h0_0 A0) g5
 obtain rfl:=df Q4
 refine Ab (Bx 16 q0 rfl z4 rfl rfl D4)<|Ab (Au rfl G4)<|RG.nl zL A0 fun U6 U5 X2 Y1=>AO (aa p0) X2 .hd (ai rfl) fun V6 U0 Z1=>Aa<|du 6 fun z0 I0=>Rv 0 z0 rfl I0 (fun _=>Av rfl)<|Rv 1 z0 rfl I0 (fun _=>Bk rfl)<|Rv 2 z0 rfl I0 (fun _=>Bp 0 rfl)<|Rx 3 64 z0 rfl I0 (Bm rfl ((U0.memA .t2) 0 _ rfl))<|Rx 4 64 z0 rfl I0 (Au rfl (U0.memA .hd))<|Rx 5 64 z0 rfl I0 (Au rfl (U0.memA .t1))<|BF (i:=6) (rk z0) (RO.enterPT (m' :=127) (fst:=[]) (cap:=[]) (vs:=[.map (some c0),.agg ((aa p0)).toArray,.agg #[.bool b0.fh.fc,s0,.bool b0.fe.fc,t0]]) (sk z0) rfl rfl .plain (bd 88) func88 rfl rfl rfl rfl (e3 rfl rfl rfl) rfl (fun _ k6 u2 A6=>?_))
 refine Ae<|RG.bx U0 rfl rfl fun W6 V5 Y2 b2=>RG.bx Y2 rfl rfl fun X6 W5 K0 d2=>Aa<|Aj<|Ae<|Ac rfl<|Ab (Au rfl (K0.memA .t1)) ?_
 have C1:=Tt Y1 (Tt Z1 (Tt b2 d2))
 have H4:=BG R0 C1
 rcases MR.get p0 H4 with ⟨B1,G1⟩ | ⟨p6,H1,G1,B1,U4⟩
 have h:=cB h B1
 refine Ab (FV.lookupK (kv:=p0) (q:=false) aq K0 .t5 underlying124 (z:=.agg #[.bool false,vN,.bool false,vN]) rfl rfl rfl (.inl ⟨G1,rfl,rfl⟩))<|Ac rfl<|Ab (Ag rfl rfl)<|Ab (Ag rfl rfl)<|RG.nl [.bool false,vN,.bool false,vN] K0 fun Y6 X5 Z2 H3=>AO [.bool false,vN,.bool false,vN] Z2 .hd (ai rfl) fun b7 j1 I3=>Ai rfl<|Aa<|Ae<|Ac rfl<|Aa<|BH rfl<|Aw<|Aq<|Ac rfl<|Ab (Au rfl (j1.memA .t2))<|Ab (Au rfl (j1.memA .t1)) ?_
 have D1:=Tt C1 (Tt H3 I3)
 have x2:=Tt P0 (Tt y1 (Tt X0 D1))
 refine RG.now .plain (BE (kv:=p0) (vv:=[.bool b0.fh.fc,s0,.bool b0.fe.fc,t0]) aq j1 .t6 underlying124 rfl rfl rfl) fun c7 b3 g2=>Aa<|MX.fin rfl<|Ap (u:=.tuple #[]) u2 func88 rfl .nil rfl<|AK (dk z0)<|AF<|Aq<|Ab (Bf (i:=q0) (j:=1) rfl rfl (by omega))<|Ac rfl<|Aa ?_
 obtain ⟨c3,j2⟩:=AD b3 .d4
 exact K1 (q0 + 1,aC y0 p0 b0,(aC d0 p0 [.bool b0.fh.fc,s0,.bool b0.fe.fc,t0])) c3 (Tt X0 (Tt D1 (Tt g2 j2))) (BG (MR.set (k:=p0) (c:=[.bool b0.fh.fc,s0,.bool b0.fe.fc,t0]) (y:=b0) (cb b0.fh (Ah E1 x2) b0.fe (Ah F1 x2)) (BG R0 D1)) (Tt g2 j2)) h
 have h:=cG h B1
 obtain ⟨A5,B5,rfl,B2,C2⟩:=cr U4
 refine Ab (FV.lookupK (kv:=p0) (q:=true) aq K0 .t5 underlying124 (z:=.agg #[.bool false,vN,.bool false,vN]) rfl rfl rfl (.inr ⟨_,G1,rfl,rfl⟩))<|Ac rfl<|Ab (Ag rfl rfl)<|Ab (Ag rfl rfl)<|RG.nl [.bool false,vN,.bool false,vN] K0 fun d7 Y5 g3 H0=>AO [.bool H1.fh.fc,A5,.bool H1.fe.fc,B5] g3 .hd (o4 rfl (AE (Ah B2 H0)) rfl (AE (Ah C2 H0))) fun g7 V0 Y0=>Ai rfl<|Aa<|Ae<|Ac rfl<|Aa<|Ba rfl<|Aq<|Ab (Au rfl (V0.memA .t1))<|Ab (Au rfl (V0.memA .hd))<|bk h fun v0 s5 h=>?_
 have y2:=Tt P0 (Tt y1 (Tt X0 (Tt Y1 (Tt Z1 (Tt b2 (Tt d2 (Tt H0 Y0)))))))
 refine jE (bd 81) rfl (e2 rfl rfl) (fun w9 hw9=>aa_c n (V0.hL hL hw9) b0 (Af (Ah E1 y2) hw9) (Af (Ah F1 y2) hw9) H1 (Af (Ah B2 (Tt H0 Y0)) hw9) (Af (Ah C2 (Tt H0 Y0)) hw9) s5) rfl fun j7 K6 q4 ⟨Z0,b1,hu_,D2,E2⟩=>?_
 subst hu_
 obtain ⟨j3,J3⟩:=V0.agr q4
 refine AO [.bool v0.fh.fc,Z0,.bool v0.fe.fc,b1] j3 .t1 (o4 rfl (AE D2) rfl (AE E2)) fun k7 k1 x1=>Aa<|Aq<|Ac rfl<|Ab (Au rfl (k1.memA .t2))<|Ab (Au rfl (k1.memA .t1)) ?_
 have z2:=Tt C1 (Tt H0 (Tt Y0 (Tt J3 x1)))
 refine RG.now .plain (BE (kv:=p0) (vv:=[.bool v0.fh.fc,Z0,.bool v0.fe.fc,b1]) aq k1 .t6 underlying124 rfl rfl rfl) fun p7 k3 k2=>Aa<|MX.fin rfl<|Ap (u:=.tuple #[]) u2 func88 rfl .nil rfl<|AK (dk z0)<|AF<|Aq<|Ab (Bf (i:=q0) (j:=1) rfl rfl (by omega))<|Ac rfl<|Aa ?_
 obtain ⟨p3,p2⟩:=AD k3 .d4
 exact K1 (q0 + 1,aC y0 p0 v0,(aC d0 p0 [.bool v0.fh.fc,Z0,.bool v0.fe.fc,b1])) p3 (Tt X0 (Tt z2 (Tt k2 p2))) (BG (MR.set (k:=p0) (c:=[.bool v0.fh.fc,Z0,.bool v0.fe.fc,b1]) (y:=v0) (cb v0.fh (Ah D2 x1) v0.fe (Ah E2 x1)) (BG R0 z2)) (Tt k2 p2)) h
 refine Bc rfl ?_
 have h:=B4 _ h
 try dsimp only at h
 refine Ae<|Ac rfl<|Bu (fst:=[]) (cap:=[]) (vs:=[vP x0]) .plain (bd 87) func87 rfl rfl rfl rfl (e1 rfl) rfl fun q6 A1 B6=>Ae<|Ai rfl<|Ai rfl<|Aa<|Aj<|Ae<|Ac rfl<|Ab (Bk rfl)<|Bn 0 rfl<|Bo rfl ((A0.memA .t1) 0 _ rfl)<|Ab (FV.as (FV.len_map (D:=d0) A0 .t2 underlying124 rfl) (congrArg (fun n9:Nat=>Value.int .i64 (n9:Int)) (MR.len R0)))<|Ab (FV.gtrN (i:=y0.length) (j:=400) rfl rfl)<|Aa<|AS rfl h (fun Q2 h=>?_) (fun Q2 h=>?_)
 refine Ae<|Ai rfl<|Ai rfl<|Aa<|Ax rfl<|Ap (u:=.tuple #[vN,vI 3]) A1 func87 rfl (.cons (.tmp rfl) (.cons (.tmp rfl) .nil)) rfl<|Ab (Ag rfl rfl)<|Ab (Ag rfl rfl)<|Ai rfl<|Ai rfl<|Aa<|Ax rfl ?_
 have V4:=BC (α:=Tb) A0 L
 refine Ap hb0 func26 rfl (.cons (.tmp rfl) (.cons (.tmp rfl) .nil)) rfl ?_
 cases h
 exact ⟨A0.ag,fun w9 hw9=>⟨vN,rfl,A0.kd V4 hw9⟩⟩
 refine Aw<|Ae<|Ai rfl<|Aa<|Aj<|Ae<|Ac rfl<|Ab (Bk rfl)<|Bn 0 rfl<|Bo rfl ((A0.memA .t1) 0 _ rfl)<|Ak .plain rfl (Does.range (D:=d0) A0 .t2 underlying124 rfl) fun F5 G0 U1 K3=>Aa<|AC ?_
 have V1:=U1.nilRow 37 (Rep.size Tb)
 refine MX.mloop (α:=(List Tb) × Bool × Value × (List Value) × (Array Nat)) (fun ⟨u0,B0,k0,E0,C0⟩=>[(0,vP x0),(4,k0),(19,vP G0)]) (fun I2 ⟨u0,B0,k0,E0,C0⟩ c1=>St w c1 [rr w 37 Tb k0 u0.length E0,.obj G0 (aF c0 d0.length C0),.cells D0 [.bool b0.fh.fc,s0,.bool b0.fe.fc,t0] 109,.cells x0 [.map (some c0),.bool B0] 126,.obj c0 (ax d0)]/\Tr F5 [rr w 37 Tb vN (([]:List Tb).length) [],.obj G0 (aF c0 d0.length #[]),.cells D0 [.bool b0.fh.fc,s0,.bool b0.fe.fc,t0] 109,.cells x0 [.map (some c0),.bool false] 126,.obj c0 (ax d0)] c1 [rr w 37 Tb k0 u0.length E0,.obj G0 (aF c0 d0.length C0),.cells D0 [.bool b0.fh.fc,s0,.bool b0.fe.fc,t0] 109,.cells x0 [.map (some c0),.bool B0] 126,.obj c0 (ax d0)]/\Cells c1 (bl [rr w 37 Tb k0 u0.length E0,.obj G0 (aF c0 d0.length C0),.cells D0 [.bool b0.fh.fc,s0,.bool b0.fe.fc,t0] 109,.cells x0 [.map (some c0),.bool B0] 126,.obj c0 (ax d0)] ++ L) E0 u0/\left y0 C0 = I2) (fun ⟨u0,B0,k0,E0,C0⟩=>(u0,B0)) (([]:List Tb),false,vN,[],#[]) h ⟨rfl,rfl,rfl,trivial⟩ ⟨V1,BJ _ _,(Az (cs:=[]) (xs:=([]:List Tb)) V1 L (AA _ _)),(cj _)⟩ ?_
 rintro I2 ⟨u0,B0,k0,E0,C0⟩ c1 Q5 W2 ⟨u3,q2,v2,E4⟩ I4 x4
 refine Ae<|RG.nextR (W:=d0) (BG R0 (Tt K3 (Tt (St.nilRowT U1 37 (Rep.size Tb)) q2))) u3 .t4 (fun _=>.t1) rfl rfl E4 (fun u7 J4 F0 P3=>?_) (fun v7 H2 g0 s6 z5 C4 Y4 M4 F4 W1 Q3=>?_)
 have h:=I4 J4
 try dsimp only at h
 refine Ab (Ag rfl rfl)<|Aa<|Aj<|BH rfl<|Bc rfl<|Aj<|Ae<|Ac rfl<|Ab (Bk rfl)<|Bn 1 rfl<|Bo rfl ((F0.memA .t3) 1 _ rfl)<|Aa<|MX.ifb rfl h (fun R2 h=>?_) (fun R2 h=>?_)
 refine Ae<|Ai rfl<|Ai rfl<|Aa<|Ax rfl<|Ap (u:=.tuple #[vN,vI 6]) A1 func87 rfl (.cons (.tmp rfl) (.cons (.tmp rfl) .nil)) rfl<|Ab (Ag rfl rfl)<|Ab (Ag rfl rfl)<|Ai rfl<|Ai rfl<|Aa<|Ax rfl ?_
 have Z4:=BC (α:=Tb) F0 L
 refine Ap hb0 func26 rfl (.cons (.tmp rfl) (.cons (.tmp rfl) .nil)) rfl ?_
 cases h
 exact ⟨F0.ag,fun w9 hw9=>⟨vN,rfl,F0.kd Z4 hw9⟩⟩
 refine Aw<|Ae<|Ac rfl<|Bu (fst:=[]) (cap:=[]) (vs:=[k0,.func (.func 144) #[] #[]]) .plain (bd 143) func143 rfl rfl rfl rfl (e2 rfl rfl) rfl fun u6 u4 C6=>Ae<|Ac rfl ?_
 have z6:u0.length <= 4294967296:=St.rowLe (α:=Tb) F0 .hd
 obtain ⟨M5,g6,A4⟩:=St.rowV (α:=Tb) F0 .hd
 refine Ab (FV.lenV underlying24 rfl A4)<|Ai rfl<|Aa<|Aq<|Ac rfl<|Ac rfl<|Ac rfl<|Ab (FV.convU (i:=((u0.length:Nat):Int)) underlying3 underlying193 rfl)<|bk h fun M2 v5 h=>Bi (vI M2) (bd 174) rfl (e1 rfl) (fun w9 hw9=>aR_c n (F0.hL0 hL hw9) (ac ((u0.length:Nat):Int)) v5) rfl<|Ac rfl<|bk h fun K2 j5 h=>RG.sort (enc:=aA) (ρ:=Tryz.srt173_ren) (c:=(fun x9 y9=>ae_p n x9 y9)) (li:=M2) j5 rfl (fun _ _ _ _ h9=>ba h9) (fun w9 L9 z9=>bz (w:=w9) (L:=L9) z9.fl z9.fP) Tryz.srt173 (fun w9=>Tryz.isAgg37 w9) (fun w9=>Tryz.sizeOf37 w9) (enters_of func144 rfl rfl) (fun x9 y9 r9 w9 h9=>ae_c n (L:=[]) (w:=w9) (fun _ h8=>nomatch h8) x9 y9 h9) .plain (bd 173) rfl (e5 rfl rfl rfl rfl rfl) rfl F0 (Ar v2 P3) .hd fun G5 W0 x6=>Aa<|MX.fin rfl<|Ap (u:=.tuple #[]) u4 func143 rfl .nil rfl<|Aa<|Ae<|Ac rfl<|Ai rfl<|Ai rfl<|Aa<|Ax rfl<|Ap (u:=.tuple #[k0,vI 0]) A1 func87 rfl (.cons (.tmp rfl) (.cons (.tmp rfl) .nil)) rfl<|Ab (Ag rfl rfl)<|Ab (Ag rfl rfl)<|Ai rfl<|Ai rfl<|Aa<|Ax rfl ?_
 have p1:=Bz W0 .hd
 have y6:=BA W0 .hd
 have b5:=BB (α:=Tb) (v:=k0) (xs:=K2) p1 L (Bj (α:=Tb) W0 .hd (Az W0 L (bv (α:=Tb) (enc:=aA) (fun w9 L9 z9=>bz (w:=w9) (L:=L9) z9.fl z9.fP) G5 _ K2)) hL)
 refine Ap hb0 func26 rfl (.cons (.tmp rfl) (.cons (.tmp rfl) .nil)) rfl ?_
 cases h
 exact ⟨p1.ag,fun w9 hw9=>⟨k0,rfl,p1.kd b5 hw9⟩⟩
 obtain ⟨C5,D5,rfl,F2,G2⟩:=cr Y4
 have h:=x4 _ _ M4
 unfold cF at h
 try dsimp only at h
 refine Ab (Ag rfl rfl)<|Aa<|Aj<|Ba rfl<|Aw<|AC<|Ae<|Ab (FV.entry (D:=d0) W1 .t4 .t1 C4 rfl)<|Ab (Ag rfl rfl)<|Ab (Ag rfl rfl)<|RG.nl zL W1 fun x7 I1 v3 R3=>RG.nl [.bool false,vN,.bool false,vN] v3 fun y7 Z5 x3 U3=>AO (aa g0.1) x3 .t1 (ai rfl) fun z7 y3 V3=>?_
 have Q0:=Tt Q3 (Tt R3 (Tt U3 V3))
 refine AO [.bool g0.2.fh.fc,C5,.bool g0.2.fe.fc,D5] y3 .hd (o4 rfl (AE (Ah F2 Q0)) rfl (AE (Ah G2 Q0))) fun A7 M0 z1=>Aa<|Ae<|Ab (Au rfl (M0.memA .hd))<|bk h fun j0 x5 h=>Bi (.tuple #[.agg ((aa j0.1)).toArray,vI j0.2]) (bd 77) rfl (e1 rfl) (fun w9 hw9=>ab_c n (M0.hL0 hL hw9) g0.2 (M0.kd (Ah F2 (Tt Q0 z1)) hw9) (M0.kd (Ah G2 (Tt Q0 z1)) hw9) x5) rfl<|Ac rfl<|Ab (Ag rfl rfl)<|Ab (Ag rfl rfl)<|RG.nl zL M0 fun B7 J1 z3 W3=>AO (aa j0.1) z3 .hd (ai rfl) fun C7 q1 X3=>Ai rfl<|Aa<|Aj<|Ae<|Ac rfl<|Ab (BM (i:=j0.2) (j:=0) rfl rfl)<|Aa<|MX.jo (α:=Bool) (fun J0=>[(0,vP x0),(4,k0),(19,vP G0),(5,vP I1),(7,vP J1)]) (fun J0=>[.cells J1 (aa j0.1) 34,.cells I1 (aa g0.1) 34,rr w 37 Tb k0 u0.length E0,.obj G0 (aF c0 d0.length (C0.push H2)),.cells D0 [.bool b0.fh.fc,s0,.bool b0.fe.fc,t0] 109,.cells x0 [.map (some c0),.bool J0] 126,.obj c0 (ax d0)]) (fun J0=>J0) q1 h ?_ ?_
 rintro J0 G7 s1 Y3 h
 try dsimp only at h
 refine Aq<|Ac rfl<|Ab (Au rfl (s1.memA .t1))<|Ab (Au rfl (s1.memA .hd))<|Ab (AQ (vs:=[.agg ((aa g0.1)).toArray,.agg ((aa j0.1)).toArray]) (u:=.agg ((aa g0.1 ++ aa j0.1)).toArray) (e2 rfl rfl) (fun w9=>by kernel_rfl))<|Ak .plain rfl (AB (α:=Tb) (xs:=([(⟨g0.1,j0.1⟩:Tb)]:List Tb)) (vs:=[.agg ((aa g0.1 ++ aa j0.1)).toArray]) (ds' :=(aa g0.1 ++ aa j0.1)) rfl s1 ek rfl (e1 rfl) (by kernel_rfl) rfl) fun D7 b6 u1 Z3=>bk h fun H5 k5 h=>?_
 have A2:=Tt Q0 (Tt z1 (Tt W3 (Tt X3 (Tt Y3 Z3))))
 refine BD .plain rfl (AR (α:=Tb) (ys:=([(⟨g0.1,j0.1⟩:Tb)]:List Tb)) k5 u1 (fun _ _=>.t3) ek rfl rfl (Ar v2 A2) (Bd (α:=Tb) u1 .hd (Az (cs:=(aa g0.1 ++ aa j0.1)) (xs:=(([(⟨g0.1,j0.1⟩:Tb)]:List Tb):List Tb)) u1 L (Ao (cs:=(aa g0.1 ++ aa j0.1)) (ds:=[]) (bz g0.1 j0.1) (AA _ _))))) fun E5 E7 ⟨V2,A3,b4,v4⟩=>Ai rfl<|Aa<|AF ?_
 obtain ⟨B3,s2⟩:=AD A3 .d3
 exact W2 z5 (H5,J0,E5,V2,(C0.push H2)) _ _ ⟨rfl,rfl,rfl,trivial⟩ ⟨B3,(Tt q2 (Tt A2 (Tt b4 s2))),(Ar v4 s2),F4⟩ h
 intro R5 M1 h
 try dsimp only at h
 refine MX.ifn rfl h (fun U2 h=>?_) (fun U2 h=>?_)
 refine Aw ?_
 obtain ⟨C3,c4⟩:=AD q1 (.a0 .d1)
 exact M1 B0 C3 c4 h
 refine Aq<|Ac rfl<|Ab (Bk rfl)<|Bn 1 rfl<|RG.now .plain (BL (j:=1) (old:=[.map (some c0),.bool B0]) (news:=[.bool true]) (new' :=[.map (some c0),.bool true]) q1 .t6 rfl rfl rfl rfl rfl rfl (o1 rfl) rfl) fun F7 D3 g4=>Aa ?_
 obtain ⟨E3,j4⟩:=AD D3 (.a0 .d1)
 exact M1 true E3 (Tt g4 j4) h
 refine Ae<|Ac rfl<|Ai rfl<|Ai rfl<|Aa<|Ax rfl ?_
 have d5:=BC (α:=Tb) hS0 L
 refine Ap hb0 func26 rfl (.cons (.tmp rfl) (.cons (.tmp rfl) .nil)) rfl ?_
 cases h
 exact ⟨hS0.ag,fun w9 hw9=>⟨vN,rfl,hS0.kd d5 hw9⟩⟩

def ci_l1 (n:Nat) (a0:List Tb) (a1:Ta) (z0:Nat × Bool × (List UInt64) × Bool × (List UInt64) × Bool × (List UInt64) × Bool × (List UInt64) -> Option (Bool × (List UInt64) × Bool × (List UInt64) × Bool × (List UInt64) × Bool × (List UInt64))):Nat × Bool × (List UInt64) × Bool × (List UInt64) × Bool × (List UInt64) × Bool × (List UInt64) -> Option (Bool × (List UInt64) × Bool × (List UInt64) × Bool × (List UInt64) × Bool × (List UInt64))
  | (q0,s0,v0,t0,x0,b0,d0,c0,g0)=>(if q0 < a0.length then (a0[q0]?).bind fun u0=>(ai_p n u0.fl).bind fun I0=>(ai_p n a1).bind fun J0=>(aC_p n I0 J0).bind fun y0=>jn (fun (A0,E0,B0,F0,C0,G0,D0,H0)=>z0 (q0 + 1,A0,E0,B0,F0,C0,G0,D0,H0)) (fun p0=>(if y0 < 0 then (aJ_p n u0).bind fun K0=>(aa_p n (⟨(⟨b0,d0⟩:Td),(⟨c0,g0⟩:Td)⟩:Tc) K0).bind fun j0=>p0 (s0,v0,t0,x0,j0.fh.fc,j0.fh.fj,j0.fe.fc,j0.fe.fj) else (if y0 = 0 then (aJ_p n u0).bind fun k0=>p0 (k0.fh.fc,k0.fh.fj,k0.fe.fc,k0.fe.fj,b0,d0,c0,g0) else p0 (s0,v0,t0,x0,b0,d0,c0,g0)))) else some (b0,d0,c0,g0,s0,v0,t0,x0))
def ci_p (n:Nat) (a0:List Tb) (a1:Ta):Option (Ta × Ta × Int):=
  (al_p n ([a0]:List (List Tb)) ([a1]:List Ta)).bind fun d0=>(if d0 = 0 then (av_p n (0:Int)).bind fun b0=>(av_p n (0:Int)).bind fun c0=>Option.bind (au (ci_l1 n a0 a1) n (0,c0.fh.fc,c0.fh.fj,c0.fe.fc,c0.fe.fj,b0.fh.fc,b0.fh.fj,b0.fe.fc,b0.fe.fj)) (fun (q0,v0,s0,x0,k0,t0,p0,u0)=>(ab_p n (⟨(⟨q0,v0⟩:Td),(⟨s0,x0⟩:Td)⟩:Tc)).bind fun g0=>(ab_p n (⟨(⟨k0,t0⟩:Td),(⟨p0,u0⟩:Td)⟩:Tc)).bind fun j0=>(if g0.2 = 0 then (if j0.2 = 0 then some (g0.1,j0.1,(0:Int)) else some ((⟨(0,0,0,0,0,0,0,0),(0,0,0,0,0,0,0,0)⟩:Ta),(⟨(0,0,0,0,0,0,0,0),(0,0,0,0,0,0,0,0)⟩:Ta),(6:Int))) else some ((⟨(0,0,0,0,0,0,0,0),(0,0,0,0,0,0,0,0)⟩:Ta),(⟨(0,0,0,0,0,0,0,0),(0,0,0,0,0,0,0,0)⟩:Ta),(6:Int)))) else some ((⟨(0,0,0,0,0,0,0,0),(0,0,0,0,0,0,0,0)⟩:Ta),(⟨(0,0,0,0,0,0,0,0),(0,0,0,0,0,0,0,0)⟩:Ta),d0))
theorem ci_c (n:Nat) {L w} (hL:hl L w) {a0:List Tb} {v0_0:Value} (h0_0:Rep.R w L [v0_0] a0) (a1:Ta)  {r:Ta × Ta × Int} (h:ci_p n a0 a1 = some r) :
 Cl 27 #[v0_0,.agg ((aa a1)).toArray] w (ak w fun _ u=>u = .tuple #[.agg ((aa r.1)).toArray,.agg ((aa r.2.1)).toArray,vI r.2.2]):=by
 unfold ci_p at h
 refine AN func27 rfl rfl rfl fun _ cs0 hb0=>Ae<|RG.bx (AM w) rfl rfl fun D7 g0 X3 J6=>RG.nl zL X3 fun E7 b0 Y3 K6=>RG.nl zL Y3 fun G7 c0 P2 Q6=>Ai rfl<|Aa<|Aj<|Ae<|Ac rfl ?_
 obtain ⟨z6,G6,U5,_⟩:=Rep.sl (AL h0_0 P2)
 refine Ak .plain rfl (AB (α:=List Tb) (xs:=([a0]:List (List Tb))) (vs:=[v0_0]) (ds' :=[v0_0]) rfl P2 iY rfl (e1 rfl) (by rw [U5]; try kernel_rfl) rfl) fun H7 D6 H1 V6=>Ab (Au rfl (H1.memA .t3))<|Ak .plain rfl (AB (α:=Ta) (xs:=([a1]:List Ta)) (vs:=[.agg ((aa a1)).toArray]) (ds' :=(aa a1)) rfl H1 az rfl (e1 rfl) (by kernel_rfl) rfl) fun J7 E6 B0 W4=>bk h fun G2 W5 h=>Bi (vI G2) (bd 63) rfl (e2 rfl rfl) (fun w9 hw9=>al_c n (B0.hL0 hL hw9) (Af (St.lend (α:=List Tb) (L:=L) B0 .t1 (Ar (Az (cs:=[v0_0]) (xs:=(([a0]:List (List Tb)):List (List Tb))) H1 L (Ao (cs:=[v0_0]) (ds:=[]) (AL h0_0 H1) (AA _ _))) W4) hL) hw9) (Af (St.lend (α:=Ta) (L:=L) B0 .hd (Az (cs:=(aa a1)) (xs:=(([a1]:List Ta):List Ta)) B0 L (Ao (cs:=(aa a1)) (ds:=[]) (am a1.fN a1.fD) (AA _ _))) hL) hw9) W5) rfl<|Ai rfl<|Aa<|Ae<|Ac rfl<|Ab (BM (i:=G2) (j:=0) rfl rfl)<|Aa<|MX.ifn rfl h (fun M3 h=>?_) (fun M3 h=>?_)
 refine Aw<|Ae<|bk h fun s1 X5 h=>jE (bd 71) rfl (e1 rfl) (fun w9 hw9=>av_c n (B0.hL hL hw9)  X5) rfl fun M7 v7 p5 ⟨D3,E3,hu_,s3,u3⟩=>?_
 subst hu_
 obtain ⟨Q2,Y6⟩:=B0.agr p5
 refine bk h fun u1 c6 h=>jE (bd 71) rfl (e1 rfl) (fun w9 hw9=>av_c n (Q2.hL hL hw9)  c6) rfl fun W7 z7 u5 ⟨F3,G3,hu_,y3,z3⟩=>?_
 subst hu_
 obtain ⟨z4,y2⟩:=Q2.agr u5
 refine RG.nl [.bool false,vN,.bool false,vN] z4 fun d8 u0 J4 d3=>RG.nl [.bool false,vN,.bool false,vN] J4 fun q8 v0 M4 g3=>?_
 have q3:=Tt y2 (Tt d3 g3)
 refine AO [.bool s1.fh.fc,D3,.bool s1.fe.fc,E3] M4 .t1 (o4 rfl (AE (Ah s3 q3)) rfl (AE (Ah u3 q3))) fun s8 P4 j5=>?_
 have A2:=Tt d3 (Tt g3 j5)
 refine AO [.bool u1.fh.fc,F3,.bool u1.fe.fc,G3] P4 .hd (o4 rfl (AE (Ah y3 A2)) rfl (AE (Ah z3 A2))) fun t8 V2 k5=>Aa<|Aj<|Ae<|Ac rfl ?_
 have j3:=AL h0_0 V2
 have g7:a0.length <= 281474976710656:=AT j3
 refine Ab (AY (xs:=a0) underlying24 rfl j3)<|Ac rfl<|Aa<|AC ?_
 obtain ⟨s4,Z4⟩:=AD V2 (.a0 (.a0 .d2))
 have X1:=Tt A2 (Tt k5 Z4)
 obtain ⟨j7,D5,A5⟩:=ap h
 refine MX.lf (α:=Nat × Bool × (List UInt64) × Bool × (List UInt64) × Bool × (List UInt64) × Bool × (List UInt64) × Value × Value × Value × Value) (fun ⟨C0,q0,W0,s0,X0,k0,P0,p0,Q0,x0,y0,z0,A0⟩=>[(3,vP g0),(4,vP b0),(5,vP c0),(8,vP u0),(9,vP v0),(28,v0_0),(29,vI ((a0.length:Nat):Int)),(30,vI ((C0:Nat):Int))]) (fun ⟨C0,q0,W0,s0,X0,k0,P0,p0,Q0,x0,y0,z0,A0⟩=>[.cells v0 [.bool q0,x0,.bool s0,y0] 109,.cells u0 [.bool k0,z0,.bool p0,A0] 109,.cells c0 zL 34,.cells b0 zL 34,.cells g0 (aa a1) 34]) (fun ⟨C0,q0,W0,s0,X0,k0,P0,p0,Q0,x0,y0,z0,A0⟩ A1=>Rep.R A1 (bl [.cells v0 [.bool q0,x0,.bool s0,y0] 109,.cells u0 [.bool k0,z0,.bool p0,A0] 109,.cells c0 zL 34,.cells b0 zL 34,.cells g0 (aa a1) 34] ++ L) [x0] W0/\Rep.R A1 (bl [.cells v0 [.bool q0,x0,.bool s0,y0] 109,.cells u0 [.bool k0,z0,.bool p0,A0] 109,.cells c0 zL 34,.cells b0 zL 34,.cells g0 (aa a1) 34] ++ L) [y0] X0/\Rep.R A1 (bl [.cells v0 [.bool q0,x0,.bool s0,y0] 109,.cells u0 [.bool k0,z0,.bool p0,A0] 109,.cells c0 zL 34,.cells b0 zL 34,.cells g0 (aa a1) 34] ++ L) [z0] P0/\Rep.R A1 (bl [.cells v0 [.bool q0,x0,.bool s0,y0] 109,.cells u0 [.bool k0,z0,.bool p0,A0] 109,.cells c0 zL 34,.cells b0 zL 34,.cells g0 (aa a1) 34] ++ L) [A0] Q0) (fun ⟨C0,q0,W0,s0,X0,k0,P0,p0,Q0,x0,y0,z0,A0⟩=>(C0,q0,W0,s0,X0,k0,P0,p0,Q0)) (0,u1.fh.fc,u1.fh.fj,u1.fe.fc,u1.fe.fj,s1.fh.fc,s1.fh.fj,s1.fe.fc,s1.fe.fj,F3,G3,D3,E3) D5 s4 ⟨(Ah y3 X1),(Ah z3 X1),(Ah s3 (Tt y2 X1)),(Ah u3 (Tt y2 X1))⟩ ?_
 rintro B6 ⟨C0,q0,W0,s0,X0,k0,P0,p0,Q0,x0,y0,z0,A0⟩ A1 W3 b1 b5 ⟨B2,C2,Z1,b2⟩ h
 unfold ci_l1 at h
 try dsimp only at h
 refine Ae<|Ab (Bb (i:=C0) (j:=a0.length) rfl rfl)<|Aa<|Aj<|AS rfl h (fun P3 h=>?_) (fun P3 h=>?_)
 refine Aw<|Aj<|AC<|Ae<|bk h fun C1 V5 h=>?_
 obtain ⟨A6,H6,z5,B5,I6,E5,C5⟩:=Bl (AL h0_0 b1) V5
 obtain rfl:=ba E5
 refine Ab (Bx 32 C0 rfl z5 rfl rfl B5)<|Ab (Au rfl C5)<|RG.nl [vW 0,vW 0,vW 0,vW 0,vW 0,vW 0,vW 0,vW 0,vW 0,vW 0,vW 0,vW 0,vW 0,vW 0,vW 0,vW 0,vW 0,vW 0,vW 0,vW 0,vW 0,vW 0,vW 0,vW 0,vW 0,vW 0,vW 0,vW 0,vW 0,vW 0,vW 0,vW 0] b1 fun P7 F6 u4 M1=>AO (aA C1) u4 .hd (ai rfl) fun Q7 K1 P1=>Aa<|Aj<|du 7 fun Z0 z1=>Rv 0 Z0 rfl z1 (fun _=>Bp 0 rfl)<|Rx 1 116 Z0 rfl z1 (AZ (cs:=(aa C1.fl)) rfl rfl (ah (K1.memA .hd) 0 16))<|Rx 3 112 Z0 rfl z1 (Au rfl (K1.memA .t5))<|bk h fun v6 Y5 h=>AX 2 15 Z0 rfl .plain (bd 68) rfl (e1 rfl) (fun w9 hw9=>ai_c n (K1.hL hL hw9) C1.fl Y5) rfl fun R7 x7 q5 ⟨k7,p7,hu_,F5,G5⟩=>?_
 subst hu_
 obtain ⟨R2,Q1⟩:=K1.agr q5
 refine bk h fun x6 Z5 h=>AX 4 31 Z0 rfl .plain (bd 68) rfl (e1 rfl) (fun w9 hw9=>ai_c n (R2.hL hL hw9) a1 Z5) rfl fun U7 y7 s5 ⟨q7,s7,hu_,H5,I5⟩=>?_
 subst hu_
 obtain ⟨j0,p1⟩:=R2.agr s5
 refine bk h fun H2 b6 h=>RD.cq 5 63 64 (vI H2) Z0 rfl z1 (bd 69) rfl (e2 rfl rfl) (fun w9 hw9=>aC_c n (j0.hL0 hL hw9) v6 (j0.kd (Ah F5 p1) hw9) (j0.kd (Ah G5 p1) hw9) x6 (j0.kd H5 hw9) (j0.kd I5 hw9) b6) rfl<|Rv 6 Z0 rfl z1 (fun _=>Bg rfl)<|AK (dk Z0)<|AC<|Ae<|Ac rfl<|Ab (FV.lss (i:=H2) (j:=0) rfl rfl)<|Ai rfl<|Aa<|MX.jf (α:=Bool × (List UInt64) × Bool × (List UInt64) × Bool × (List UInt64) × Bool × (List UInt64) × Value × Value × Value × Value) (fun ⟨D0,c1,E0,g1,F0,j1,G0,k1,H0,I0,J0,K0⟩=>[(3,vP g0),(4,vP b0),(5,vP c0),(8,vP u0),(9,vP v0),(28,v0_0),(29,vI ((a0.length:Nat):Int)),(30,vI ((C0:Nat):Int))]) (fun ⟨D0,c1,E0,g1,F0,j1,G0,k1,H0,I0,J0,K0⟩=>[.cells v0 [.bool D0,H0,.bool E0,I0] 109,.cells u0 [.bool F0,J0,.bool G0,K0] 109,.cells c0 zL 34,.cells b0 zL 34,.cells g0 (aa a1) 34]) (fun ⟨D0,c1,E0,g1,F0,j1,G0,k1,H0,I0,J0,K0⟩ B1=>Rep.R B1 (bl [.cells v0 [.bool D0,H0,.bool E0,I0] 109,.cells u0 [.bool F0,J0,.bool G0,K0] 109,.cells c0 zL 34,.cells b0 zL 34,.cells g0 (aa a1) 34] ++ L) [H0] c1/\Rep.R B1 (bl [.cells v0 [.bool D0,H0,.bool E0,I0] 109,.cells u0 [.bool F0,J0,.bool G0,K0] 109,.cells c0 zL 34,.cells b0 zL 34,.cells g0 (aa a1) 34] ++ L) [I0] g1/\Rep.R B1 (bl [.cells v0 [.bool D0,H0,.bool E0,I0] 109,.cells u0 [.bool F0,J0,.bool G0,K0] 109,.cells c0 zL 34,.cells b0 zL 34,.cells g0 (aa a1) 34] ++ L) [J0] j1/\Rep.R B1 (bl [.cells v0 [.bool D0,H0,.bool E0,I0] 109,.cells u0 [.bool F0,J0,.bool G0,K0] 109,.cells c0 zL 34,.cells b0 zL 34,.cells g0 (aa a1) 34] ++ L) [K0] k1) (fun ⟨D0,c1,E0,g1,F0,j1,G0,k1,H0,I0,J0,K0⟩=>(D0,c1,E0,g1,F0,j1,G0,k1)) j0 h ?_ ?_
 rintro ⟨D0,c1,E0,g1,F0,j1,G0,k1,H0,I0,J0,K0⟩ B1 A4 g5 ⟨J5,K5,M5,P5⟩ h
 try dsimp only at h
 refine AF<|AF<|Aq<|Ab (Bf (i:=C0) (j:=1) rfl rfl (by omega))<|Ac rfl<|Aa<|W3 (C0 + 1,D0,c1,E0,g1,F0,j1,G0,k1,H0,I0,J0,K0) A4 (Tt b5 (Tt M1 (Tt P1 (Tt Q1 (Tt p1 g5))))) ⟨J5,K5,M5,P5⟩ h
 intro C6 g2 h
 try dsimp only at h
 refine AS rfl h (fun Q3 h=>?_) (fun Q3 h=>?_)
 refine du 4 fun q1 C3=>Rx 0 24 q1 rfl C3 (Au rfl (j0.memA .t2))<|Rx 1 28 q1 rfl C3 (Au rfl (j0.memA .hd))<|bk h fun y6 d6 h=>AX 2 7 q1 rfl .plain (bd 66) rfl (e1 rfl) (fun w9 hw9=>aJ_c n (j0.hL hL hw9) C1 d6) rfl fun X7 A7 v5 ⟨t7,u7,hu_,Q5,R5⟩=>?_
 subst hu_
 obtain ⟨U2,W2⟩:=j0.agr v5
 refine bk h fun v1 g6 h=>?_
 have z2:=Tt M1 (Tt P1 (Tt Q1 (Tt p1 W2)))
 refine AX 3 15 q1 rfl .plain (bd 81) rfl (e2 rfl rfl) (fun w9 hw9=>aa_c n (U2.hL hL hw9) (⟨(⟨k0,P0⟩:Td),(⟨p0,Q0⟩:Td)⟩:Tc) (Af (Ah Z1 z2) hw9) (Af (Ah b2 z2) hw9) y6 (Af Q5 hw9) (Af R5 hw9) g6) rfl fun Y7 B7 x5 ⟨H3,I3,hu_,v3,x3⟩=>?_
 subst hu_
 obtain ⟨B4,X2⟩:=U2.agr x5
 refine Bw 4 31 q1 rfl rfl .plain (AG (news:=[.bool v1.fh.fc,H3,.bool v1.fe.fc,I3]) B4 .t2 rfl rfl rfl rfl rfl rfl (o4 rfl (AE v3) rfl (AE x3))) fun Z7 C4 R1=>AK (dk q1) ?_
 obtain ⟨D4,U1⟩:=AD C4 .d1
 have k3:=Tt z2 (Tt X2 (Tt R1 U1))
 exact g2 (q0,W0,s0,X0,v1.fh.fc,v1.fh.fj,v1.fe.fc,v1.fe.fj,x0,y0,H3,I3) D4 (Tt W2 (Tt X2 (Tt R1 U1))) ⟨(Ah B2 k3),(Ah C2 k3),(Ah v3 (Tt R1 U1)),(Ah x3 (Tt R1 U1))⟩ h
 refine Ae<|Ac rfl<|Ab (FV.eql (i:=H2) (j:=0) rfl rfl)<|Ai rfl<|Aa<|AS rfl h (fun R3 h=>?_) (fun R3 h=>?_)
 refine Aq<|Ab (Au rfl (j0.memA .hd))<|bk h fun x1 j6 h=>jE (bd 66) rfl (e1 rfl) (fun w9 hw9=>aJ_c n (j0.hL hL hw9) C1 j6) rfl fun b8 C7 y5 ⟨J3,K3,hu_,A3,B3⟩=>?_
 subst hu_
 obtain ⟨E4,Y2⟩:=j0.agr y5
 refine AO [.bool x1.fh.fc,J3,.bool x1.fe.fc,K3] E4 .t1 (o4 rfl (AE A3) rfl (AE B3)) fun c8 F4 V1=>Aa ?_
 obtain ⟨G4,W1⟩:=AD F4 .d1
 have p3:=Tt M1 (Tt P1 (Tt Q1 (Tt p1 (Tt Y2 (Tt V1 W1)))))
 exact g2 (x1.fh.fc,x1.fh.fj,x1.fe.fc,x1.fe.fj,k0,P0,p0,Q0,J3,K3,z0,A0) G4 (Tt Y2 (Tt V1 W1)) ⟨(Ah A3 (Tt V1 W1)),(Ah B3 (Tt V1 W1)),(Ah Z1 p3),(Ah b2 p3)⟩ h
 refine Aw ?_
 obtain ⟨H4,Z2⟩:=AD j0 .d1
 have Y1:=Tt M1 (Tt P1 (Tt Q1 (Tt p1 Z2)))
 exact g2 (q0,W0,s0,X0,k0,P0,p0,Q0,x0,y0,z0,A0) H4 Z2 ⟨(Ah B2 Y1),(Ah C2 Y1),(Ah Z1 Y1),(Ah b2 Y1)⟩ h
 refine Bc rfl ?_
 have h:=A5 _ h
 try dsimp only at h
 refine Ae<|Ab (Au rfl (b1.memA .t1))<|bk h fun t0 k6 h=>Bi (.tuple #[.agg ((aa t0.1)).toArray,vI t0.2]) (bd 77) rfl (e1 rfl) (fun w9 hw9=>ab_c n (b1.hL0 hL hw9) (⟨(⟨k0,P0⟩:Td),(⟨p0,Q0⟩:Td)⟩:Tc) (b1.kd Z1 hw9) (b1.kd b2 hw9) k6) rfl<|Ac rfl<|Ab (Ag rfl rfl)<|Ab (Ag rfl rfl)<|RG.nl zL b1 fun g8 D1 I4 b3=>AO (aa t0.1) I4 .hd (ai rfl) fun j8 y1 c3=>Ai rfl<|Aa<|Ae<|Ab (Au rfl (y1.memA .t1))<|bk h fun Y0 p6 h=>Bi (.tuple #[.agg ((aa Y0.1)).toArray,vI Y0.2]) (bd 77) rfl (e1 rfl) (fun w9 hw9=>ab_c n (y1.hL0 hL hw9) (⟨(⟨q0,W0⟩:Td),(⟨s0,X0⟩:Td)⟩:Tc) (y1.kd (Ah B2 (Tt b3 c3)) hw9) (y1.kd (Ah C2 (Tt b3 c3)) hw9) p6) rfl<|Ac rfl<|Ab (Ag rfl rfl)<|Ab (Ag rfl rfl)<|RG.nl zL y1 fun k8 E1 K4 c7=>AO (aa Y0.1) K4 .hd (ai rfl) fun p8 d0 d7=>Ai rfl<|Aa<|Aj<|Ae<|Ac rfl<|Ab (BM (i:=t0.2) (j:=0) rfl rfl)<|Ac rfl<|RG.ifn (s:=65) rfl h (fun U3 h=>?_) (fun U3 h=>?_)
 refine AV (Av rfl)<|AV (BM (i:=Y0.2) (j:=0) rfl rfl)<|Br rfl rfl<|Aa<|MX.ifn rfl h (fun V3 h=>?_) (fun V3 h=>?_)
 refine Aw<|Aj<|du 2 fun V0 F2=>Rx 0 28 V0 rfl F2 (Au rfl (d0.memA .t1))<|RD.mo (α:=Unit) (fun ()=>[(4,vP b0),(5,vP c0),(6,vI t0.2),(72,.agg ((aa Y0.1)).toArray)]) (fun ()=>[.cells c0 zL 34,.cells b0 (aa t0.1) 34]) d0 2 7 ?_ ?_
 rintro ⟨⟩ u8 Z3 M6
 try dsimp only
 refine Bw 3 15 V0 rfl rfl .plain (AG (news:=(aa Y0.1)) Z3 .hd rfl rfl rfl rfl rfl rfl (ai rfl)) fun F7 j2 P6=>Rv 4 V0 rfl F2 (fun _=>Bg rfl)<|AK (dk V0)<|Ax rfl<|Ap hb0 func27 rfl (.cons (.many (cs:=(aa t0.1)) rfl rfl (j2.memA .t1)) (.cons (.many (cs:=(aa Y0.1)) rfl rfl (j2.memA .hd)) (.cons (.tmp rfl) .nil))) rfl ?_
 cases h
 exact j2.gv
 intro I2
 refine AW [1,2] (rk V0) ⟨?_,?_,trivial⟩
 refine AU (m' :=3) (sk V0) rfl .plain rfl (Au rfl (d0.memA .hd))<|Bw 2 7 V0 rfl rfl .plain (AG (news:=(aa t0.1)) d0 .t5 rfl rfl rfl rfl rfl rfl (ai rfl)) fun q6 F1 s2=>?_
 obtain ⟨b4,Q4⟩:=AD F1 (.a4 (.a4 .done))
 exact I2 () b4 (Tt s2 Q4)
 refine RO.now (m' :=5) (sk V0) rfl rfl .plain (AG (news:=(aa t0.1)) d0 .t5 rfl rfl rfl rfl rfl rfl (ai rfl)) fun q6 F1 s2=>Rx 1 24 V0 rfl F2 (Au rfl (F1.memA .hd)) ?_
 obtain ⟨c4,R4⟩:=AD F1 (.a4 (.a4 .done))
 exact I2 () c4 (Tt s2 R4)
 refine Aj<|du 2 fun R0 D2=>Rx 0 28 R0 rfl D2 (Au rfl (d0.memA .t5))<|RD.mo (α:=Unit) (fun ()=>[(4,vP b0),(5,vP c0),(13,vP D1),(6,vI t0.2),(14,vP E1),(70,.agg zM)]) (fun ()=>[.cells E1 (aa Y0.1) 34,.cells D1 (aa t0.1) 34,.cells c0 zL 34,.cells b0 zL 34]) d0 2 7 ?_ ?_
 rintro ⟨⟩ v8 d4 R6
 try dsimp only
 refine Bw 3 15 R0 rfl rfl .plain (AG (news:=zL) d4 .t2 rfl rfl rfl rfl rfl rfl (ai rfl)) fun I7 k2 U6=>Rv 4 R0 rfl D2 (fun _=>Bg rfl)<|AK (dk R0)<|Ax rfl<|Ap hb0 func27 rfl (.cons (.many (cs:=zL) rfl rfl (k2.memA .t3)) (.cons (.many (cs:=zL) rfl rfl (k2.memA .t2)) (.cons (.tmp rfl) .nil))) rfl ?_
 cases h
 exact k2.gv
 intro J2
 refine AW [1,2] (rk R0) ⟨?_,?_,trivial⟩
 refine AU (m' :=3) (sk R0) rfl .plain rfl (Au rfl (d0.memA .t4))<|Bw 2 7 R0 rfl rfl .plain (AG (news:=zL) d0 .t5 rfl rfl rfl rfl rfl rfl (ai rfl)) fun s6 G1 u2=>?_
 obtain ⟨g4,U4⟩:=AD G1 (.a0 (.a0 (.a2 (.a2 .done))))
 exact J2 () g4 (Tt u2 U4)
 refine RO.now (m' :=5) (sk R0) rfl rfl .plain (AG (news:=zL) d0 .t5 rfl rfl rfl rfl rfl rfl (ai rfl)) fun s6 G1 u2=>Rx 1 24 R0 rfl D2 (Au rfl (G1.memA .t4)) ?_
 obtain ⟨j4,V4⟩:=AD G1 (.a0 (.a0 (.a2 (.a2 .done))))
 exact J2 () j4 (Tt u2 V4)
 refine Al<|Al<|RG.pt rfl rfl<|Aa<|Ba rfl<|Aj<|du 2 fun U0 E2=>Rx 0 28 U0 rfl E2 (Au rfl (d0.memA .t5))<|RD.mo (α:=Unit) (fun ()=>[(4,vP b0),(5,vP c0),(13,vP D1),(6,vI t0.2),(14,vP E1),(70,.agg zM)]) (fun ()=>[.cells E1 (aa Y0.1) 34,.cells D1 (aa t0.1) 34,.cells c0 zL 34,.cells b0 zL 34]) d0 2 7 ?_ ?_
 rintro ⟨⟩ x8 k4 W6
 try dsimp only
 refine Bw 3 15 U0 rfl rfl .plain (AG (news:=zL) k4 .t2 rfl rfl rfl rfl rfl rfl (ai rfl)) fun K7 p2 X6=>Rv 4 U0 rfl E2 (fun _=>Bg rfl)<|AK (dk U0)<|Ax rfl<|Ap hb0 func27 rfl (.cons (.many (cs:=zL) rfl rfl (p2.memA .t3)) (.cons (.many (cs:=zL) rfl rfl (p2.memA .t2)) (.cons (.tmp rfl) .nil))) rfl ?_
 cases h
 exact p2.gv
 intro K2
 refine AW [1,2] (rk U0) ⟨?_,?_,trivial⟩
 refine AU (m' :=3) (sk U0) rfl .plain rfl (Au rfl (d0.memA .t4))<|Bw 2 7 U0 rfl rfl .plain (AG (news:=zL) d0 .t5 rfl rfl rfl rfl rfl rfl (ai rfl)) fun t6 I1 v2=>?_
 obtain ⟨p4,X4⟩:=AD I1 (.a0 (.a0 (.a2 (.a2 .done))))
 exact K2 () p4 (Tt v2 X4)
 refine RO.now (m' :=5) (sk U0) rfl rfl .plain (AG (news:=zL) d0 .t5 rfl rfl rfl rfl rfl rfl (ai rfl)) fun t6 I1 v2=>Rx 1 24 U0 rfl E2 (Au rfl (I1.memA .t4)) ?_
 obtain ⟨q4,Y4⟩:=AD I1 (.a0 (.a0 (.a2 (.a2 .done))))
 exact K2 () q4 (Tt v2 Y4)
 refine Aj<|du 3 fun M0 c2=>Rx 0 56 M0 rfl c2 (Au rfl (B0.memA .t3))<|Rv 2 M0 rfl c2 (fun _=>Av rfl)<|RD.mo (α:=Unit) (fun ()=>[(0,v0_0),(3,vP g0),(4,vP b0),(5,vP c0),(6,vI 0),(25,vI G2),(24,.agg zM)]) (fun ()=>[.cells c0 zL 34,.cells b0 zL 34,.cells g0 (aa a1) 34]) B0 2 15 ?_ ?_
 rintro ⟨⟩ y8 v4 Z6
 try dsimp only
 refine Bw 4 31 M0 rfl rfl .plain (AG (news:=zL) v4 .hd rfl rfl rfl rfl rfl rfl (ai rfl)) fun V7 q2 b7=>Rv 5 M0 rfl c2 (fun _=>Bg rfl)<|AK (dk M0)<|Ax rfl<|Ap hb0 func27 rfl (.cons (.many (cs:=zL) rfl rfl (q2.memA .t1)) (.cons (.many (cs:=zL) rfl rfl (q2.memA .hd)) (.cons (.tmp rfl) .nil))) rfl ?_
 cases h
 exact q2.gv
 intro M2
 refine AW [1,3] (rk M0) ⟨?_,?_,trivial⟩
 refine AU (m' :=7) (sk M0) rfl .plain rfl (Au rfl (B0.memA .t2))<|Bw 3 15 M0 rfl rfl .plain (AG (news:=zL) B0 .t3 rfl rfl rfl rfl rfl rfl (ai rfl)) fun u6 J1 x2=>?_
 obtain ⟨x4,c5⟩:=AD J1 .d2
 exact M2 () x4 (Tt x2 c5)
 refine RO.now (m' :=13) (sk M0) rfl rfl .plain (AG (news:=zL) B0 .t3 rfl rfl rfl rfl rfl rfl (ai rfl)) fun u6 J1 x2=>Rx 1 48 M0 rfl c2 (Au rfl (J1.memA .t2)) ?_
 obtain ⟨y4,d5⟩:=AD J1 .d2
 exact M2 () y4 (Tt x2 d5)
theorem ex_Tb {a b:Tb} (h0:a.fl.fN.1 = b.fl.fN.1) (h1:a.fl.fN.2.1 = b.fl.fN.2.1) (h2:a.fl.fN.2.2.1 = b.fl.fN.2.2.1) (h3:a.fl.fN.2.2.2.1 = b.fl.fN.2.2.2.1) (h4:a.fl.fN.2.2.2.2.1 = b.fl.fN.2.2.2.2.1) (h5:a.fl.fN.2.2.2.2.2.1 = b.fl.fN.2.2.2.2.2.1) (h6:a.fl.fN.2.2.2.2.2.2.1 = b.fl.fN.2.2.2.2.2.2.1) (h7:a.fl.fN.2.2.2.2.2.2.2 = b.fl.fN.2.2.2.2.2.2.2) (h8:a.fl.fD.1 = b.fl.fD.1) (h9:a.fl.fD.2.1 = b.fl.fD.2.1) (b0:a.fl.fD.2.2.1 = b.fl.fD.2.2.1) (c0:a.fl.fD.2.2.2.1 = b.fl.fD.2.2.2.1) (d0:a.fl.fD.2.2.2.2.1 = b.fl.fD.2.2.2.2.1) (g0:a.fl.fD.2.2.2.2.2.1 = b.fl.fD.2.2.2.2.2.1) (j0:a.fl.fD.2.2.2.2.2.2.1 = b.fl.fD.2.2.2.2.2.2.1) (k0:a.fl.fD.2.2.2.2.2.2.2 = b.fl.fD.2.2.2.2.2.2.2) (p0:a.fP.fN.1 = b.fP.fN.1) (q0:a.fP.fN.2.1 = b.fP.fN.2.1) (s0:a.fP.fN.2.2.1 = b.fP.fN.2.2.1) (t0:a.fP.fN.2.2.2.1 = b.fP.fN.2.2.2.1) (u0:a.fP.fN.2.2.2.2.1 = b.fP.fN.2.2.2.2.1) (v0:a.fP.fN.2.2.2.2.2.1 = b.fP.fN.2.2.2.2.2.1) (x0:a.fP.fN.2.2.2.2.2.2.1 = b.fP.fN.2.2.2.2.2.2.1) (y0:a.fP.fN.2.2.2.2.2.2.2 = b.fP.fN.2.2.2.2.2.2.2) (z0:a.fP.fD.1 = b.fP.fD.1) (A0:a.fP.fD.2.1 = b.fP.fD.2.1) (B0:a.fP.fD.2.2.1 = b.fP.fD.2.2.1) (C0:a.fP.fD.2.2.2.1 = b.fP.fD.2.2.2.1) (D0:a.fP.fD.2.2.2.2.1 = b.fP.fD.2.2.2.2.1) (E0:a.fP.fD.2.2.2.2.2.1 = b.fP.fD.2.2.2.2.2.1) (F0:a.fP.fD.2.2.2.2.2.2.1 = b.fP.fD.2.2.2.2.2.2.1) (G0:a.fP.fD.2.2.2.2.2.2.2 = b.fP.fD.2.2.2.2.2.2.2):a = b:=congr (congrArg Tb.mk (lE (a:=a.fl) (b:=b.fl) h0 h1 h2 h3 h4 h5 h6 h7 h8 h9 b0 c0 d0 g0 j0 k0)) (lE (a:=a.fP) (b:=b.fP) p0 q0 s0 t0 u0 v0 x0 y0 z0 A0 B0 C0 D0 E0 F0 G0)
theorem eqlD_37 (a b:Tb) (w9:World):(do eqGuard .eql 37 (.tmp 0) (.tmp 0) (.agg #[vU a.fl.fN.1,vU a.fl.fN.2.1,vU a.fl.fN.2.2.1,vU a.fl.fN.2.2.2.1,vU a.fl.fN.2.2.2.2.1,vU a.fl.fN.2.2.2.2.2.1,vU a.fl.fN.2.2.2.2.2.2.1,vU a.fl.fN.2.2.2.2.2.2.2,vU a.fl.fD.1,vU a.fl.fD.2.1,vU a.fl.fD.2.2.1,vU a.fl.fD.2.2.2.1,vU a.fl.fD.2.2.2.2.1,vU a.fl.fD.2.2.2.2.2.1,vU a.fl.fD.2.2.2.2.2.2.1,vU a.fl.fD.2.2.2.2.2.2.2,vU a.fP.fN.1,vU a.fP.fN.2.1,vU a.fP.fN.2.2.1,vU a.fP.fN.2.2.2.1,vU a.fP.fN.2.2.2.2.1,vU a.fP.fN.2.2.2.2.2.1,vU a.fP.fN.2.2.2.2.2.2.1,vU a.fP.fN.2.2.2.2.2.2.2,vU a.fP.fD.1,vU a.fP.fD.2.1,vU a.fP.fD.2.2.1,vU a.fP.fD.2.2.2.1,vU a.fP.fD.2.2.2.2.1,vU a.fP.fD.2.2.2.2.2.1,vU a.fP.fD.2.2.2.2.2.2.1,vU a.fP.fD.2.2.2.2.2.2.2]) (.agg #[vU b.fl.fN.1,vU b.fl.fN.2.1,vU b.fl.fN.2.2.1,vU b.fl.fN.2.2.2.1,vU b.fl.fN.2.2.2.2.1,vU b.fl.fN.2.2.2.2.2.1,vU b.fl.fN.2.2.2.2.2.2.1,vU b.fl.fN.2.2.2.2.2.2.2,vU b.fl.fD.1,vU b.fl.fD.2.1,vU b.fl.fD.2.2.1,vU b.fl.fD.2.2.2.1,vU b.fl.fD.2.2.2.2.1,vU b.fl.fD.2.2.2.2.2.1,vU b.fl.fD.2.2.2.2.2.2.1,vU b.fl.fD.2.2.2.2.2.2.2,vU b.fP.fN.1,vU b.fP.fN.2.1,vU b.fP.fN.2.2.1,vU b.fP.fN.2.2.2.1,vU b.fP.fN.2.2.2.2.1,vU b.fP.fN.2.2.2.2.2.1,vU b.fP.fN.2.2.2.2.2.2.1,vU b.fP.fN.2.2.2.2.2.2.2,vU b.fP.fD.1,vU b.fP.fD.2.1,vU b.fP.fD.2.2.1,vU b.fP.fD.2.2.2.1,vU b.fP.fD.2.2.2.2.1,vU b.fP.fD.2.2.2.2.2.1,vU b.fP.fD.2.2.2.2.2.2.1,vU b.fP.fD.2.2.2.2.2.2.2]); binOp .eql 37 (.agg #[vU a.fl.fN.1,vU a.fl.fN.2.1,vU a.fl.fN.2.2.1,vU a.fl.fN.2.2.2.1,vU a.fl.fN.2.2.2.2.1,vU a.fl.fN.2.2.2.2.2.1,vU a.fl.fN.2.2.2.2.2.2.1,vU a.fl.fN.2.2.2.2.2.2.2,vU a.fl.fD.1,vU a.fl.fD.2.1,vU a.fl.fD.2.2.1,vU a.fl.fD.2.2.2.1,vU a.fl.fD.2.2.2.2.1,vU a.fl.fD.2.2.2.2.2.1,vU a.fl.fD.2.2.2.2.2.2.1,vU a.fl.fD.2.2.2.2.2.2.2,vU a.fP.fN.1,vU a.fP.fN.2.1,vU a.fP.fN.2.2.1,vU a.fP.fN.2.2.2.1,vU a.fP.fN.2.2.2.2.1,vU a.fP.fN.2.2.2.2.2.1,vU a.fP.fN.2.2.2.2.2.2.1,vU a.fP.fN.2.2.2.2.2.2.2,vU a.fP.fD.1,vU a.fP.fD.2.1,vU a.fP.fD.2.2.1,vU a.fP.fD.2.2.2.1,vU a.fP.fD.2.2.2.2.1,vU a.fP.fD.2.2.2.2.2.1,vU a.fP.fD.2.2.2.2.2.2.1,vU a.fP.fD.2.2.2.2.2.2.2]) (.agg #[vU b.fl.fN.1,vU b.fl.fN.2.1,vU b.fl.fN.2.2.1,vU b.fl.fN.2.2.2.1,vU b.fl.fN.2.2.2.2.1,vU b.fl.fN.2.2.2.2.2.1,vU b.fl.fN.2.2.2.2.2.2.1,vU b.fl.fN.2.2.2.2.2.2.2,vU b.fl.fD.1,vU b.fl.fD.2.1,vU b.fl.fD.2.2.1,vU b.fl.fD.2.2.2.1,vU b.fl.fD.2.2.2.2.1,vU b.fl.fD.2.2.2.2.2.1,vU b.fl.fD.2.2.2.2.2.2.1,vU b.fl.fD.2.2.2.2.2.2.2,vU b.fP.fN.1,vU b.fP.fN.2.1,vU b.fP.fN.2.2.1,vU b.fP.fN.2.2.2.1,vU b.fP.fN.2.2.2.2.1,vU b.fP.fN.2.2.2.2.2.1,vU b.fP.fN.2.2.2.2.2.2.1,vU b.fP.fN.2.2.2.2.2.2.2,vU b.fP.fD.1,vU b.fP.fD.2.1,vU b.fP.fD.2.2.1,vU b.fP.fD.2.2.2.1,vU b.fP.fD.2.2.2.2.1,vU b.fP.fD.2.2.2.2.2.1,vU b.fP.fD.2.2.2.2.2.2.1,vU b.fP.fD.2.2.2.2.2.2.2]):Sem Value).run Tryz.prog w9 = .ok (.bool (decide (a = b))) w9:=
  mM (ks:=[.int .u64,.int .u64,.int .u64,.int .u64,.int .u64,.int .u64,.int .u64,.int .u64,.int .u64,.int .u64,.int .u64,.int .u64,.int .u64,.int .u64,.int .u64,.int .u64,.int .u64,.int .u64,.int .u64,.int .u64,.int .u64,.int .u64,.int .u64,.int .u64,.int .u64,.int .u64,.int .u64,.int .u64,.int .u64,.int .u64,.int .u64,.int .u64]) (xs:=[vU a.fl.fN.1,vU a.fl.fN.2.1,vU a.fl.fN.2.2.1,vU a.fl.fN.2.2.2.1,vU a.fl.fN.2.2.2.2.1,vU a.fl.fN.2.2.2.2.2.1,vU a.fl.fN.2.2.2.2.2.2.1,vU a.fl.fN.2.2.2.2.2.2.2,vU a.fl.fD.1,vU a.fl.fD.2.1,vU a.fl.fD.2.2.1,vU a.fl.fD.2.2.2.1,vU a.fl.fD.2.2.2.2.1,vU a.fl.fD.2.2.2.2.2.1,vU a.fl.fD.2.2.2.2.2.2.1,vU a.fl.fD.2.2.2.2.2.2.2,vU a.fP.fN.1,vU a.fP.fN.2.1,vU a.fP.fN.2.2.1,vU a.fP.fN.2.2.2.1,vU a.fP.fN.2.2.2.2.1,vU a.fP.fN.2.2.2.2.2.1,vU a.fP.fN.2.2.2.2.2.2.1,vU a.fP.fN.2.2.2.2.2.2.2,vU a.fP.fD.1,vU a.fP.fD.2.1,vU a.fP.fD.2.2.1,vU a.fP.fD.2.2.2.1,vU a.fP.fD.2.2.2.2.1,vU a.fP.fD.2.2.2.2.2.1,vU a.fP.fD.2.2.2.2.2.2.1,vU a.fP.fD.2.2.2.2.2.2.2]) (ys:=[vU b.fl.fN.1,vU b.fl.fN.2.1,vU b.fl.fN.2.2.1,vU b.fl.fN.2.2.2.1,vU b.fl.fN.2.2.2.2.1,vU b.fl.fN.2.2.2.2.2.1,vU b.fl.fN.2.2.2.2.2.2.1,vU b.fl.fN.2.2.2.2.2.2.2,vU b.fl.fD.1,vU b.fl.fD.2.1,vU b.fl.fD.2.2.1,vU b.fl.fD.2.2.2.1,vU b.fl.fD.2.2.2.2.1,vU b.fl.fD.2.2.2.2.2.1,vU b.fl.fD.2.2.2.2.2.2.1,vU b.fl.fD.2.2.2.2.2.2.2,vU b.fP.fN.1,vU b.fP.fN.2.1,vU b.fP.fN.2.2.1,vU b.fP.fN.2.2.2.1,vU b.fP.fN.2.2.2.2.1,vU b.fP.fN.2.2.2.2.2.1,vU b.fP.fN.2.2.2.2.2.2.1,vU b.fP.fN.2.2.2.2.2.2.2,vU b.fP.fD.1,vU b.fP.fD.2.1,vU b.fP.fD.2.2.1,vU b.fP.fD.2.2.2.1,vU b.fP.fD.2.2.2.2.1,vU b.fP.fD.2.2.2.2.2.1,vU b.fP.fD.2.2.2.2.2.2.1,vU b.fP.fD.2.2.2.2.2.2.2]) (by kernel_rfl) (by kernel_rfl) (by kernel_rfl) rfl rfl ⟨fun h=>by
    simp only [aZ,veq,Bool.and_eq_true,beq_iff_eq,and_true] at h
    obtain ⟨h0,h1,h2,h3,h4,h5,h6,h7,h8,h9,b0,c0,d0,g0,j0,k0,p0,q0,s0,t0,u0,v0,x0,y0,z0,A0,B0,C0,D0,E0,F0,G0⟩:=h
    exact ex_Tb (ae h0) (ae h1) (ae h2) (ae h3) (ae h4) (ae h5) (ae h6) (ae h7) (ae h8) (ae h9) (ae b0) (ae c0) (ae d0) (ae g0) (ae j0) (ae k0) (ae p0) (ae q0) (ae s0) (ae t0) (ae u0) (ae v0) (ae x0) (ae y0) (ae z0) (ae A0) (ae B0) (ae C0) (ae D0) (ae E0) (ae F0) (ae G0),fun h=>by subst h; simp [aZ,veq]⟩ _ _ w9
def cq_p (_n:Nat) (a0:Tb) (a1:Tb):Option Bool:=
  some (decide (a0 = a1))
theorem cq_c (n:Nat) {L w} (_hL:hl L w) (a0:Tb) (a1:Tb)  {r:Bool} (h:cq_p n a0 a1 = some r) :
 Cl 73 #[.agg ((aA a0)).toArray,.agg ((aA a1)).toArray] w (ak w fun _ u=>u = .bool r):=by
 unfold cq_p at h
 refine AN func73 rfl rfl rfl fun _ cs0 hb0=>Ae<|RG.bx (AM w) rfl rfl fun p0 d0 c0 j0=>RG.bx c0 rfl rfl fun q0 g0 b0 k0=>Ai rfl<|Aa<|Ae<|Ab (Au rfl (b0.memA .t1))<|Ab (Au rfl (b0.memA .hd))<|Ab (FV.eqlV (v:=.agg ((aA a0)).toArray) (u:=.agg ((aA a1)).toArray) rfl rfl (eqlD_37 a0 a1))<|Ai rfl<|Aa<|Ax rfl<|Bq hb0 func73 rfl rfl ?_
 cases h
 exact b0.gv
def bL_l1 (n:Nat) (a0:List Tb) (a1:List Tb) (c0:Nat -> Option (Bool ⊕ Unit)):Nat -> Option (Bool ⊕ Unit)
  | b0=>(if b0 < a0.length then (a0[b0]?).bind fun d0=>(a1[b0]?).bind fun g0=>(cq_p n d0 g0).bind fun j0=>(if j0 = true then c0 (b0 + 1) else some (.inl false)) else some (.inr ()))
def bL_p (n:Nat) (a0:List Tb) (a1:List Tb):Option Bool:=
  (if a0.length = a1.length then thn (au (bL_l1 n a0 a1) n 0) (fun _=>some true) else some false)
theorem bL_c (n:Nat) {L w} (hL:hl L w) {a0:List Tb} {v0_0:Value} (h0_0:Rep.R w L [v0_0] a0) {a1:List Tb} {v1_0:Value} (h1_0:Rep.R w L [v1_0] a1)  {r:Bool} (h:bL_p n a0 a1 = some r) :
 Cl 17 #[v0_0,v1_0] w (ak w fun _ u=>u = .bool r):=by
 unfold bL_p at h
 have hS0:=AM w
 refine AN func17 rfl rfl rfl fun _ cs0 hb0=>Ae<|Ai rfl<|Aa<|Ae<|Ac rfl<|Ac rfl<|Bu (fst:=[]) (cap:=[]) (vs:=[v0_0,v1_0,.func (.func 73) #[] #[]]) .plain (bd 72) func72 rfl rfl rfl rfl (e3 rfl rfl rfl) rfl fun cs2 hb1 hp3=>Ae<|Ai rfl<|Aa<|Aj<|Ae<|Ac rfl ?_
 have hl4:a0.length <= 281474976710656:=AT h0_0
 refine Ab (AY (xs:=a0) underlying24 rfl h0_0)<|Ac rfl ?_
 have hl5:a1.length <= 281474976710656:=AT h1_0
 refine Ab (AY (xs:=a1) underlying24 rfl h1_0)<|Ab (FV.neqN (i:=a0.length) (j:=a1.length) rfl rfl)<|Aa<|MX.ifn rfl h (fun c6 h=>?_) (fun c6 h=>?_)
 refine Aw<|Aj<|Ae<|Ac rfl<|Ab (AY (xs:=a0) underlying24 rfl h0_0)<|Ac rfl<|Aa<|AC<|tn h fun k1 K0 j0=>MX.lo (α:=Nat) (fun b0=>[(1,v1_0),(2,.func (.func 73) #[] #[]),(15,v0_0),(16,vI ((a0.length:Nat):Int)),(17,vI ((b0:Nat):Int))]) (fun b0=>[]) (fun b0=>b0) 0 K0 hS0 ?_
 rintro Y0 b0 v1 t0 d0 y0 h
 unfold bL_l1 at h
 try dsimp only at h
 refine Ae<|Ab (Bb (i:=b0) (j:=a0.length) rfl rfl)<|Aa<|Aj<|AS rfl h (fun q0 h=>?_) (fun q0 h=>?_)
 refine Aw<|Aj<|AC<|Ae<|Ac rfl<|bk h fun k0 Q0 h=>?_
 obtain ⟨W0,c1,E0,G0,g1,M0,I0⟩:=Bl (AL h0_0 d0) Q0
 obtain rfl:=ba M0
 refine Ab (Bx 32 b0 rfl E0 rfl rfl G0)<|Ab (Au rfl I0)<|RG.nl [vW 0,vW 0,vW 0,vW 0,vW 0,vW 0,vW 0,vW 0,vW 0,vW 0,vW 0,vW 0,vW 0,vW 0,vW 0,vW 0,vW 0,vW 0,vW 0,vW 0,vW 0,vW 0,vW 0,vW 0,vW 0,vW 0,vW 0,vW 0,vW 0,vW 0,vW 0,vW 0] d0 fun p1 Z0 u0 z0=>Ai rfl<|AO (aA k0) u0 .hd (ai rfl) fun q1 g0 A0=>Aa<|Ae<|Ac rfl<|Ac rfl<|bk h fun p0 R0 h=>?_
 obtain ⟨X0,d1,F0,H0,j1,P0,J0⟩:=Bl (AL h1_0 g0) R0
 obtain rfl:=ba P0
 refine Ab (Bx 32 b0 rfl F0 rfl rfl H0)<|Ab (Au rfl J0)<|RG.nl [vW 0,vW 0,vW 0,vW 0,vW 0,vW 0,vW 0,vW 0,vW 0,vW 0,vW 0,vW 0,vW 0,vW 0,vW 0,vW 0,vW 0,vW 0,vW 0,vW 0,vW 0,vW 0,vW 0,vW 0,vW 0,vW 0,vW 0,vW 0,vW 0,vW 0,vW 0,vW 0] g0 fun s1 b1 v0 B0=>AO (aA p0) v0 .hd (ai rfl) fun u1 c0 C0=>Aa<|Ae<|Ac rfl<|Ab (Au rfl (c0.memA .t1))<|Ab (Au rfl (c0.memA .hd))<|bk h fun V0 U0 h=>Bi (.bool V0) (bd 73) rfl (e2 rfl rfl) (fun w9 hw9=>cq_c n (c0.hL0 hL hw9) k0 p0 U0) rfl<|Ab (FV.not rfl)<|Aa<|MX.ifnb rfl h (fun s0 h=>?_) (fun s0 h=>?_)
 refine Aw<|AF<|Aq<|Ab (Bf (i:=b0) (j:=1) rfl rfl (by omega))<|Ac rfl<|Aa ?_
 obtain ⟨x0,D0⟩:=AD c0 .done
 exact t0 (b0 + 1) x0 (Tt y0 (Tt z0 (Tt A0 (Tt B0 (Tt C0 D0))))) h
 refine Ae<|Ai rfl<|Aa ?_
 have h:=bO h j0
 refine Ax rfl<|Ap (u:=.bool false) hb1 func72 rfl (.cons (.tmp rfl) .nil) rfl<|Ai rfl<|Aa<|Ax rfl<|Bq hb0 func17 rfl rfl ?_
 cases h
 exact c0.gv
 refine Bc rfl ?_
 have h:=bG h j0
 try dsimp only at h
 refine Ae<|Ai rfl<|Aa<|Ax rfl<|Ap (u:=.bool true) hb1 func72 rfl (.cons (.tmp rfl) .nil) rfl<|Ai rfl<|Aa<|Ax rfl<|Bq hb0 func17 rfl rfl ?_
 cases h
 exact d0.gv
 refine Ae<|Ai rfl<|Aa<|Ax rfl<|Ap (u:=.bool false) hb1 func72 rfl (.cons (.tmp rfl) .nil) rfl<|Ai rfl<|Aa<|Ax rfl<|Bq hb0 func17 rfl rfl ?_
 cases h
 exact hS0.gv
def am_p (n:Nat) (a0:List Tb) (a1:Int) (a2:List Tb):Option Bool:=
  (bL_p n a0 a2).bind fun y1=>(if y1 = true then some (decide (a1 = 0)) else some false)
theorem am_c (n:Nat) {L w} (hL:hl L w) {a0:List Tb} {v0_0:Value} (h0_0:Rep.R w L [v0_0] a0) {a1:Int} {a2:List Tb} {v2_0:Value} (h2_0:Rep.R w L [v2_0] a2) {p2:Nat} (m2:∀ j9 v9,([v2_0]:List Value)[j9]? = some v9 -> w.cell? ((⟨p2,0,none⟩:Addr).add j9) = some v9)  {r:Bool} (h:am_p n a0 a1 a2 = some r) :
 Cl 91 #[v0_0,vI a1,.pointer (some ⟨p2,0,none⟩)] w (ak w fun _ u=>u = .bool r):=by
 unfold am_p at h
 have hS0:=AM w
 refine AN func91 rfl rfl rfl fun _ cs0 hb0=>Ae<|Ai rfl<|Aa<|Ae<|Ac rfl<|Bo rfl ((fun j9 v9 h9=>hS0.ag.cell0 (m2 j9 v9 h9)) 0 _ rfl)<|bk h fun y1 hy1 h=>Bi (.bool y1) (bd 17) rfl (e2 rfl rfl) (fun w9 hw9=>bL_c n (hS0.hL0 hL hw9) (hS0.kd h0_0 hw9) (hS0.kd h2_0 hw9) hy1) rfl<|Ac rfl<|RG.ifb (s:=9) rfl h (fun c2 h=>?_) (fun c2 h=>?_)
 refine AV (Av rfl)<|AV (FV.eql (i:=a1) (j:=0) rfl rfl)<|RG.pt rfl rfl<|Ai rfl<|Aa<|Ax rfl<|Bq hb0 func91 rfl rfl ?_
 cases h
 exact hS0.gv
 refine Al<|Al<|Br rfl rfl<|Ai rfl<|Aa<|Ax rfl<|Bq hb0 func91 rfl rfl ?_
 cases h
 exact hS0.gv
theorem bC_c (_n:Nat) {L w} (_hL:hl L w) (a0:List Tb) {v0_0:Value} (h0_0:Rep.R w L [v0_0] a0)  :
 Cl 28 #[v0_0] w (ak w fun w' u=>∃ b0:Nat,u = .func (.func 91) #[] #[vP b0]/\St w w' [.cells b0 [v0_0] 24]):=by
 refine AN func28 rfl rfl rfl fun _ cs0 hb0=>Ae<|RG.bx (AM w) rfl (Rep.c1 h0_0) fun g0 b0 c0 d0=>Ai rfl<|Aa<|Ae<|Ab (FV.makeFunc (vs:=[]) (us:=[vP b0]) ar (e1 rfl))<|Ai rfl<|Aa<|Ax rfl<|Ap (u:=.func (.func 91) #[] #[vP b0]) hb0 func28 rfl (.cons (.tmp rfl) .nil) rfl<|⟨c0.ag,fun w9 hw9=>⟨b0,rfl,c0.agree hw9⟩⟩
def cD (n:Nat) (c0:Ta × Tc) (g0:(List Tb) × Bool -> Option ((List Tb) × Int)):(List Tb) × Bool -> Option ((List Tb) × Int)
  | (p0,j0)=>(ab_p n c0.2).bind fun d0=>jn (fun k0=>(app p0 ([(⟨c0.1,d0.1⟩:Tb)]:List Tb)).bind fun q0=>g0 (q0,k0)) (fun b0=>(if d0.2 = 0 then b0 j0 else b0 true))
def bQ_l1 (n:Nat) (a0:List Tb) (q0:Tc) (g0:Nat × Bool × (List (Ta × Tc)) -> Option ((List (Ta × Tc)) × Bool)):Nat × Bool × (List (Ta × Tc)) -> Option ((List (Ta × Tc)) × Bool)
  | (c0,j0,b0)=>(if c0 < a0.length then (a0[c0]?).bind fun k0=>(ai_p n k0.fl).bind fun s0=>(ao_p n q0 s0).bind fun t0=>(aJ_p n k0).bind fun p0=>(ab_p n t0).bind fun d0=>(if d0.2 = 0 then dn (bf b0 d0.1) (g0 (c0 + 1,j0,aC b0 d0.1 p0)) (fun u0=>(aa_p n p0 u0).bind fun v0=>g0 (c0 + 1,j0,aC b0 d0.1 v0)) else g0 (c0 + 1,true,b0)) else some (b0,j0))
def bQ_p (n:Nat) (a0:List Tb) (a1:Ta):Option ((List Tb) × Int):=
  (al_p n ([a0]:List (List Tb)) ([a1]:List Ta)).bind fun d0=>(if d0 = 0 then (ai_p n a1).bind fun p0=>Option.bind (au (bQ_l1 n a0 p0) n (0,false,([]:List (Ta × Tc)))) (fun (b0,g0)=>(if 400 < b0.length then some (([]:List Tb),(3:Int)) else mloop (fun (c0,j0)=>(if j0 = true then some (([]:List Tb),(6:Int)) else (aR_p n (ac ((c0.length:Nat):Int))).bind fun q0=>(dD (fun x9 y9=>ae_p n x9 y9) q0 c0).bind fun k0=>some (k0,(0:Int)))) (cD n) n b0 (([]:List Tb),g0))) else some (([]:List Tb),d0))
theorem bQ_c (n:Nat) {L w} (hL:hl L w) {a0:List Tb} {v0_0:Value} (h0_0:Rep.R w L [v0_0] a0) (a1:Ta)  {r:(List Tb) × Int} (h:bQ_p n a0 a1 = some r) :
 Cl 29 #[v0_0,.agg ((aa a1)).toArray] w (ak w fun w' u=>∃ v0_0:Value,u = .tuple #[v0_0,vI r.2]/\Rep.R w' L [v0_0] r.1):=by
 unfold bQ_p at h
 refine AN func29 rfl rfl rfl fun _ cs0 hb0=>Ae<|RG.bx (AM w) rfl rfl fun g8 H0 v2 E7=>Ai rfl<|Ai rfl<|Aa<|Aj<|Ae<|Ac rfl ?_
 obtain ⟨M6,q7,c6,_⟩:=Rep.sl (AL h0_0 v2)
 refine Ak .plain rfl (AB (α:=List Tb) (xs:=([a0]:List (List Tb))) (vs:=[v0_0]) (ds' :=[v0_0]) rfl v2 iY rfl (e1 rfl) (by rw [c6]; try kernel_rfl) rfl) fun j8 I0 k1 F7=>Ab (Au rfl (k1.memA .t1))<|Ak .plain rfl (AB (α:=Ta) (xs:=([a1]:List Ta)) (vs:=[.agg ((aa a1)).toArray]) (ds' :=(aa a1)) rfl k1 az rfl (e1 rfl) (by kernel_rfl) rfl) fun k8 J0 z0 E4=>bk h fun D3 k6 h=>Bi (vI D3) (bd 63) rfl (e2 rfl rfl) (fun w9 hw9=>al_c n (z0.hL0 hL hw9) (Af (St.lend (α:=List Tb) (L:=L) z0 .t1 (Ar (Az (cs:=[v0_0]) (xs:=(([a0]:List (List Tb)):List (List Tb))) k1 L (Ao (cs:=[v0_0]) (ds:=[]) (AL h0_0 k1) (AA _ _))) E4) hL) hw9) (Af (St.lend (α:=Ta) (L:=L) z0 .hd (Az (cs:=(aa a1)) (xs:=(([a1]:List Ta):List Ta)) z0 L (Ao (cs:=(aa a1)) (ds:=[]) (am a1.fN a1.fD) (AA _ _))) hL) hw9) k6) rfl<|Ai rfl<|Aa<|Ae<|Ac rfl<|Ab (BM (i:=D3) (j:=0) rfl rfl)<|Aa<|MX.ifn rfl h (fun F3 h=>?_) (fun F3 h=>?_)
 refine Aw<|Ae<|Ac rfl<|Ab (Au rfl (z0.memA .t2))<|bk h fun E0 p6 h=>jE (bd 68) rfl (e1 rfl) (fun w9 hw9=>ai_c n (z0.hL hL hw9) a1 p6) rfl fun p8 Y7 d5 ⟨z1,A1,hu_,K5,Q5⟩=>?_
 subst hu_
 obtain ⟨Q3,G7⟩:=z0.agr d5
 refine Ab (FV.makeFunc (vs:=[.agg #[.bool E0.fh.fc,z1,.bool E0.fe.fc,A1]]) (us:=[]) (e1 rfl) ar)<|Bu (fst:=[]) (cap:=[]) (vs:=[v0_0,.func (.func 80) #[.agg #[.bool E0.fh.fc,z1,.bool E0.fe.fc,A1]] #[]]) .plain (bd 83) func83 rfl rfl rfl rfl (e2 rfl rfl) rfl fun x7 Z1 P7=>Ae<|Ai rfl<|Ai rfl<|Aa<|Ae<|Ak .plain rfl (Does.makeMap (κ:=Ta) (ν:=List Value) Q3) fun C8 b0 z2 F4=>Ab (AQ (vs:=[.map (some b0)]) (u:=.agg #[.map (some b0),.bool false]) (e1 rfl) (fun w9=>by kernel_rfl))<|RG.bx z2 rfl rfl fun K8 t0 A2 J2=>Ai rfl<|Aa<|Aj<|Ae<|Ac rfl ?_
 have V2:=AL h0_0 A2
 have J7:a0.length <= 281474976710656:=AT V2
 refine Ab (AY (xs:=a0) underlying24 rfl V2)<|Ac rfl<|Aa<|AC ?_
 obtain ⟨V7,H5,y5⟩:=ap h
 refine MX.lf (α:=Nat × Bool × (List (Ta × Tc)) × (List (Ta × List Value))) (fun ⟨p0,u0,y0,c0⟩=>[(1,.func (.func 80) #[.agg #[.bool E0.fh.fc,z1,.bool E0.fe.fc,A1]] #[]),(6,vP t0),(12,v0_0),(13,vI ((a0.length:Nat):Int)),(14,vI ((p0:Nat):Int))]) (fun ⟨p0,u0,y0,c0⟩=>[.cells t0 [.map (some b0),.bool u0] 126,.obj b0 (ax c0),rr w 34 Ta (vS J0 1) (([a1]:List Ta).length) (aa a1),rr w 24 (List Tb) (vS I0 1) (([a0]:List (List Tb)).length) [v0_0],.cells H0 (aa a1) 34]) (fun ⟨p0,u0,y0,c0⟩ B3=>MR B3 (bl [.cells t0 [.map (some b0),.bool u0] 126,.obj b0 (ax c0),rr w 34 Ta (vS J0 1) (([a1]:List Ta).length) (aa a1),rr w 24 (List Tb) (vS I0 1) (([a0]:List (List Tb)).length) [v0_0],.cells H0 (aa a1) 34] ++ L) c0 y0) (fun ⟨p0,u0,y0,c0⟩=>(p0,u0,y0)) (0,false,([]:List (Ta × Tc)),([]:List (Ta × List Value))) H5 A2 (BG (MR.at_ (Z:=([]:List (Ta × List Value))) (M:=([]:List (Ta × Tc))) z2 L trivial) J2) ?_
 rintro R6 ⟨p0,u0,y0,c0⟩ B3 F1 B0 u1 P0 h
 unfold bQ_l1 at h
 try dsimp only at h
 refine Ae<|Ab (Bb (i:=p0) (j:=a0.length) rfl rfl)<|Aa<|Aj<|AS rfl h (fun G3 h=>?_) (fun G3 h=>?_)
 refine Aw<|Aj<|AC<|Ae<|bk h fun E1 d6 h=>?_
 obtain ⟨P6,s7,v5,A5,v7,J5,D5⟩:=Bl (AL h0_0 B0) d6
 obtain rfl:=ba J5
 refine Ab (Bx 32 p0 rfl v5 rfl rfl A5)<|Ab (Au rfl D5)<|RG.nl [vW 0,vW 0,vW 0,vW 0,vW 0,vW 0,vW 0,vW 0,vW 0,vW 0,vW 0,vW 0,vW 0,vW 0,vW 0,vW 0,vW 0,vW 0,vW 0,vW 0,vW 0,vW 0,vW 0,vW 0,vW 0,vW 0,vW 0,vW 0,vW 0,vW 0,vW 0,vW 0] B0 fun q8 W6 R3 P1=>AO (aA E1) R3 .hd (ai rfl) fun s8 p1 Q1=>Aa<|du 8 fun q0 c1=>Rv 0 q0 rfl c1 (fun _=>Av rfl)<|Rv 1 q0 rfl c1 (fun _=>Av rfl)<|Rv 2 q0 rfl c1 (fun _=>Bp 0 rfl)<|Rx 3 432 q0 rfl c1 (AZ (cs:=(aa E1.fl)) rfl rfl (ah (p1.memA .hd) 0 16))<|Rx 6 384 q0 rfl c1 (Au rfl (p1.memA .hd))<|bk h fun K6 q6 h=>AX 4 95 q0 rfl .plain (bd 68) rfl (e1 rfl) (fun w9 hw9=>ai_c n (p1.hL hL hw9) E1.fl q6) rfl fun u8 Z7 g5 ⟨W7,X7,hu_,M5,P5⟩=>?_
 subst hu_
 obtain ⟨x2,R1⟩:=p1.agr g5
 refine bk h fun k2 s6 h=>?_
 have W2:=Tt F4 (Tt J2 (Tt u1 (Tt P1 (Tt Q1 R1))))
 refine BF (i:=5) (rk q0) (RO.call (m' :=127) (fst:=[.agg #[.bool E0.fh.fc,z1,.bool E0.fe.fc,A1]]) (cap:=[]) (sk q0) rfl .plain (bd 80) rfl (e1 rfl) (fun w9 hw9=>ao_c n (x2.hL hL hw9) E0 (Af (Ah K5 W2) hw9) (Af (Ah Q5 W2) hw9) K6 (Af M5 hw9) (Af P5 hw9) s6) rfl (fun v8 b8 j5 ⟨A6,B6,hu_,R5,U5⟩=>?_))
 subst hu_
 obtain ⟨y2,E2⟩:=x2.agr j5
 refine bk h fun j0 t6 h=>AX 7 255 q0 rfl .plain (bd 66) rfl (e1 rfl) (fun w9 hw9=>aJ_c n (y2.hL hL hw9) E1 t6) rfl fun x8 c8 k5 ⟨g1,j1,hu_,k3,p3⟩=>?_
 subst hu_
 obtain ⟨U3,U1⟩:=y2.agr k5
 refine BF (i:=8) (rk q0) (RO.enterPT (m' :=511) (fst:=[]) (cap:=[]) (vs:=[vP t0,.agg #[.bool k2.fh.fc,A6,.bool k2.fe.fc,B6],.agg #[.bool j0.fh.fc,g1,.bool j0.fe.fc,j1]]) (sk q0) rfl rfl .plain (bd 86) func86 rfl rfl rfl rfl (e3 rfl rfl rfl) rfl (fun _ y7 b2 M7=>?_))
 refine Ae<|RG.bx U3 rfl rfl fun y8 X6 V3 Y0=>RG.bx V3 rfl rfl fun z8 Y6 U0 Z0=>Aa<|Ae<|Ab (Au rfl (U0.memA .t1))<|bk h fun d0 u6 h=>?_
 have X2:=Tt U1 (Tt Y0 Z0)
 refine Bi (.tuple #[.agg ((aa d0.1)).toArray,vI d0.2]) (bd 77) rfl (e1 rfl) (fun w9 hw9=>ab_c n (U0.hL0 hL hw9) k2 (U0.kd (Ah R5 X2) hw9) (U0.kd (Ah U5 X2) hw9) u6) rfl<|Ac rfl<|Ab (Ag rfl rfl)<|Ab (Ag rfl rfl)<|RG.nl zL U0 fun A8 Z6 W3 v1=>AO (aa d0.1) W3 .hd (ai rfl) fun B8 V0 x1=>Ai rfl<|Aa<|Aj<|Ae<|Ac rfl<|Ab (BM (i:=d0.2) (j:=0) rfl rfl)<|Aa<|MX.ifn rfl h (fun H3 h=>?_) (fun H3 h=>?_)
 refine Aw<|du 6 fun A0 Q0=>Rv 0 A0 rfl Q0 (fun _=>Av rfl)<|Rv 1 A0 rfl Q0 (fun _=>Bk rfl)<|Rv 2 A0 rfl Q0 (fun _=>Bp 0 rfl)<|Rx 3 64 A0 rfl Q0 (Bm rfl ((V0.memA .t4) 0 _ rfl))<|Rx 4 64 A0 rfl Q0 (Au rfl (V0.memA .hd))<|Rx 5 64 A0 rfl Q0 (Au rfl (V0.memA .t1))<|BF (i:=6) (rk A0) (RO.enterPT (m' :=127) (fst:=[]) (cap:=[]) (vs:=[.map (some b0),.agg ((aa d0.1)).toArray,.agg #[.bool j0.fh.fc,g1,.bool j0.fe.fc,j1]]) (sk A0) rfl rfl .plain (bd 88) func88 rfl rfl rfl rfl (e3 rfl rfl rfl) rfl (fun _ z7 R2 Q7=>?_))
 refine Ae<|RG.bx V0 rfl rfl fun D8 b7 X3 V1=>RG.bx X3 rfl rfl fun E8 c7 W0 W1=>Aa<|Aj<|Ae<|Ac rfl<|Ab (Au rfl (W0.memA .t1)) ?_
 have g2:=Tt P1 (Tt Q1 (Tt R1 (Tt E2 (Tt U1 (Tt Y0 (Tt Z0 (Tt v1 (Tt x1 (Tt V1 W1)))))))))
 have E5:=BG P0 g2
 rcases MR.get d0.1 E5 with ⟨d2,j2⟩ | ⟨A7,p2,j2,d2,V5⟩
 have h:=cB h d2
 refine Ab (FV.lookupK (kv:=d0.1) (q:=false) aq W0 .t7 underlying124 (z:=.agg #[.bool false,vN,.bool false,vN]) rfl rfl rfl (.inl ⟨j2,rfl,rfl⟩))<|Ac rfl<|Ab (Ag rfl rfl)<|Ab (Ag rfl rfl)<|RG.nl [.bool false,vN,.bool false,vN] W0 fun F8 g7 Y3 F2=>AO [.bool false,vN,.bool false,vN] Y3 .hd (ai rfl) fun G8 G1 G2=>Ai rfl<|Aa<|Ae<|Ac rfl<|Aa<|BH rfl<|Aw<|Aq<|Ac rfl<|Ab (Au rfl (G1.memA .t2))<|Ab (Au rfl (G1.memA .t1)) ?_
 have Y2:=Tt g2 (Tt F2 G2)
 have Z2:=Tt Y0 (Tt Z0 (Tt v1 (Tt x1 (Tt V1 (Tt W1 (Tt F2 G2))))))
 refine RG.now .plain (BE (kv:=d0.1) (vv:=[.bool j0.fh.fc,g1,.bool j0.fe.fc,j1]) aq G1 .t8 underlying124 rfl rfl rfl) fun H8 Z3 H2=>Aa<|MX.fin rfl<|Ap (u:=.tuple #[]) R2 func88 rfl .nil rfl<|AK (dk A0)<|MX.fin rfl<|Ap (u:=.tuple #[]) b2 func86 rfl .nil rfl<|AK (dk q0)<|AF<|Aq<|Ab (Bf (i:=p0) (j:=1) rfl rfl (by omega))<|Ac rfl<|Aa ?_
 obtain ⟨b4,I2⟩:=AD Z3 .d7
 exact F1 (p0 + 1,u0,aC y0 d0.1 j0,(aC c0 d0.1 [.bool j0.fh.fc,g1,.bool j0.fe.fc,j1])) b4 (Tt u1 (Tt Y2 (Tt H2 I2))) (BG (MR.set (k:=d0.1) (c:=[.bool j0.fh.fc,g1,.bool j0.fe.fc,j1]) (y:=j0) (cb j0.fh (Ah k3 Z2) j0.fe (Ah p3 Z2)) (BG P0 Y2)) (Tt H2 I2)) h
 have h:=cG h d2
 obtain ⟨C6,D6,rfl,q3,s3⟩:=cr V5
 refine Ab (FV.lookupK (kv:=d0.1) (q:=true) aq W0 .t7 underlying124 (z:=.agg #[.bool false,vN,.bool false,vN]) rfl rfl rfl (.inr ⟨_,j2,rfl,rfl⟩))<|Ac rfl<|Ab (Ag rfl rfl)<|Ab (Ag rfl rfl)<|RG.nl [.bool false,vN,.bool false,vN] W0 fun I8 j7 c4 M0=>AO [.bool p2.fh.fc,C6,.bool p2.fe.fc,D6] c4 .hd (o4 rfl (AE (Ah q3 M0)) rfl (AE (Ah s3 M0))) fun J8 q1 y1=>Ai rfl<|Aa<|Ae<|Ac rfl<|Aa<|Ba rfl<|Aq<|Ab (Au rfl (q1.memA .t1))<|Ab (Au rfl (q1.memA .hd))<|bk h fun x0 v6 h=>?_
 have b3:=Tt Y0 (Tt Z0 (Tt v1 (Tt x1 (Tt V1 (Tt W1 (Tt M0 y1))))))
 refine jE (bd 81) rfl (e2 rfl rfl) (fun w9 hw9=>aa_c n (q1.hL hL hw9) j0 (Af (Ah k3 b3) hw9) (Af (Ah p3 b3) hw9) p2 (Af (Ah q3 (Tt M0 y1)) hw9) (Af (Ah s3 (Tt M0 y1)) hw9) v6) rfl fun M8 d8 p5 ⟨B1,C1,hu_,u3,v3⟩=>?_
 subst hu_
 obtain ⟨g4,G4⟩:=q1.agr p5
 refine AO [.bool x0.fh.fc,B1,.bool x0.fe.fc,C1] g4 .t1 (o4 rfl (AE u3) rfl (AE v3)) fun P8 H1 X1=>Aa<|Aq<|Ac rfl<|Ab (Au rfl (H1.memA .t2))<|Ab (Au rfl (H1.memA .t1)) ?_
 have c3:=Tt g2 (Tt M0 (Tt y1 (Tt G4 X1)))
 refine RG.now .plain (BE (kv:=d0.1) (vv:=[.bool x0.fh.fc,B1,.bool x0.fe.fc,C1]) aq H1 .t8 underlying124 rfl rfl rfl) fun Q8 j4 K2=>Aa<|MX.fin rfl<|Ap (u:=.tuple #[]) R2 func88 rfl .nil rfl<|AK (dk A0)<|MX.fin rfl<|Ap (u:=.tuple #[]) b2 func86 rfl .nil rfl<|AK (dk q0)<|AF<|Aq<|Ab (Bf (i:=p0) (j:=1) rfl rfl (by omega))<|Ac rfl<|Aa ?_
 obtain ⟨k4,M2⟩:=AD j4 .d7
 exact F1 (p0 + 1,u0,aC y0 d0.1 x0,(aC c0 d0.1 [.bool x0.fh.fc,B1,.bool x0.fe.fc,C1])) k4 (Tt u1 (Tt c3 (Tt K2 M2))) (BG (MR.set (k:=d0.1) (c:=[.bool x0.fh.fc,B1,.bool x0.fe.fc,C1]) (y:=x0) (cb x0.fh (Ah u3 X1) x0.fe (Ah v3 X1)) (BG P0 c3)) (Tt K2 M2)) h
 refine Ae<|Ac rfl<|Ab (Bk rfl)<|Bn 1 rfl<|RG.now .plain (BL (j:=1) (old:=[.map (some b0),.bool u0]) (news:=[.bool true]) (new' :=[.map (some b0),.bool true]) V0 .t4 rfl rfl rfl rfl rfl rfl (o1 rfl) rfl) fun R8 p4 H4=>Aa<|Ax rfl<|Ap (u:=.tuple #[]) b2 func86 rfl .nil rfl<|AK (dk q0)<|AF<|Aq<|Ab (Bf (i:=p0) (j:=1) rfl rfl (by omega))<|Ac rfl<|Aa ?_
 obtain ⟨q4,I4⟩:=AD p4 .d4
 have g3:=Tt P1 (Tt Q1 (Tt R1 (Tt E2 (Tt U1 (Tt Y0 (Tt Z0 (Tt v1 (Tt x1 (Tt H4 I4)))))))))
 exact F1 (p0 + 1,true,y0,c0) q4 (Tt u1 g3) (BG P0 g3) h
 refine Bc rfl ?_
 have h:=y5 _ h
 try dsimp only at h
 refine Ae<|Ac rfl<|Bu (fst:=[]) (cap:=[]) (vs:=[vP t0]) .plain (bd 87) func87 rfl rfl rfl rfl (e1 rfl) rfl fun B7 c2 R7=>Ae<|Ai rfl<|Ai rfl<|Aa<|Aj<|Ae<|Ac rfl<|Ab (Bk rfl)<|Bn 0 rfl<|Bo rfl ((B0.memA .hd) 0 _ rfl)<|Ab (FV.as (FV.len_map (D:=c0) B0 .t1 underlying124 rfl) (congrArg (fun n9:Nat=>Value.int .i64 (n9:Int)) (MR.len P0)))<|Ab (FV.gtrN (i:=y0.length) (j:=400) rfl rfl)<|Aa<|AS rfl h (fun I3 h=>?_) (fun I3 h=>?_)
 refine Ae<|Ai rfl<|Ai rfl<|Aa<|Ax rfl<|Ap (u:=.tuple #[vN,vI 3]) c2 func87 rfl (.cons (.tmp rfl) (.cons (.tmp rfl) .nil)) rfl<|Ab (Ag rfl rfl)<|Ab (Ag rfl rfl)<|Ai rfl<|Ai rfl<|Aa<|Ax rfl<|Ap (u:=.tuple #[vN,vI 3]) Z1 func83 rfl (.cons (.tmp rfl) (.cons (.tmp rfl) .nil)) rfl<|Ab (Ag rfl rfl)<|Ab (Ag rfl rfl)<|Ai rfl<|Ai rfl<|Aa<|Ax rfl ?_
 have W5:=BC (α:=Tb) B0 L
 refine Ap hb0 func29 rfl (.cons (.tmp rfl) (.cons (.tmp rfl) .nil)) rfl ?_
 cases h
 exact ⟨B0.ag,fun w9 hw9=>⟨vN,rfl,B0.kd W5 hw9⟩⟩
 refine Aw<|Ae<|Ai rfl<|Aa<|Aj<|Ae<|Ac rfl<|Ab (Bk rfl)<|Bn 0 rfl<|Bo rfl ((B0.memA .hd) 0 _ rfl)<|Ak .plain rfl (Does.range (D:=c0) B0 .t1 underlying124 rfl) fun H6 K0 B2 J4=>Aa<|AC ?_
 have C2:=B2.nilRow 37 (Rep.size Tb)
 refine MX.mloop (α:=(List Tb) × Bool × Value × (List Value) × (Array Nat)) (fun ⟨v0,C0,s0,F0,D0⟩=>[(0,vP t0),(4,s0),(19,vP K0)]) (fun A3 ⟨v0,C0,s0,F0,D0⟩ D1=>St w D1 [rr w 37 Tb s0 v0.length F0,.obj K0 (aF b0 c0.length D0),.cells t0 [.map (some b0),.bool C0] 126,.obj b0 (ax c0),rr w 34 Ta (vS J0 1) (([a1]:List Ta).length) (aa a1),rr w 24 (List Tb) (vS I0 1) (([a0]:List (List Tb)).length) [v0_0],.cells H0 (aa a1) 34]/\Tr H6 [rr w 37 Tb vN (([]:List Tb).length) [],.obj K0 (aF b0 c0.length #[]),.cells t0 [.map (some b0),.bool u0] 126,.obj b0 (ax c0),rr w 34 Ta (vS J0 1) (([a1]:List Ta).length) (aa a1),rr w 24 (List Tb) (vS I0 1) (([a0]:List (List Tb)).length) [v0_0],.cells H0 (aa a1) 34] D1 [rr w 37 Tb s0 v0.length F0,.obj K0 (aF b0 c0.length D0),.cells t0 [.map (some b0),.bool C0] 126,.obj b0 (ax c0),rr w 34 Ta (vS J0 1) (([a1]:List Ta).length) (aa a1),rr w 24 (List Tb) (vS I0 1) (([a0]:List (List Tb)).length) [v0_0],.cells H0 (aa a1) 34]/\Cells D1 (bl [rr w 37 Tb s0 v0.length F0,.obj K0 (aF b0 c0.length D0),.cells t0 [.map (some b0),.bool C0] 126,.obj b0 (ax c0),rr w 34 Ta (vS J0 1) (([a1]:List Ta).length) (aa a1),rr w 24 (List Tb) (vS I0 1) (([a0]:List (List Tb)).length) [v0_0],.cells H0 (aa a1) 34] ++ L) F0 v0/\left y0 D0 = A3) (fun ⟨v0,C0,s0,F0,D0⟩=>(v0,C0)) (([]:List Tb),u0,vN,[],#[]) h ⟨rfl,rfl,rfl,trivial⟩ ⟨C2,BJ _ _,(Az (cs:=[]) (xs:=([]:List Tb)) C2 L (AA _ _)),(cj _)⟩ ?_
 rintro A3 ⟨v0,C0,s0,F0,D0⟩ D1 U6 P3 ⟨s4,P2,U2,B5⟩ F5 u5
 refine Ae<|RG.nextR (W:=c0) (BG P0 (Tt J4 (Tt (St.nilRowT B2 37 (Rep.size Tb)) P2))) s4 .t3 (fun _=>.t1) rfl rfl B5 (fun U8 G5 G0 K4=>?_) (fun V8 z3 g0 C7 z6 z5 X5 I5 C5 D2 M4=>?_)
 have h:=F5 G5
 try dsimp only at h
 refine Ab (Ag rfl rfl)<|Aa<|Aj<|BH rfl<|Bc rfl<|Aj<|Ae<|Ac rfl<|Ab (Bk rfl)<|Bn 1 rfl<|Bo rfl ((G0.memA .t2) 1 _ rfl)<|Aa<|MX.ifb rfl h (fun J3 h=>?_) (fun J3 h=>?_)
 refine Ae<|Ai rfl<|Ai rfl<|Aa<|Ax rfl<|Ap (u:=.tuple #[vN,vI 6]) c2 func87 rfl (.cons (.tmp rfl) (.cons (.tmp rfl) .nil)) rfl<|Ab (Ag rfl rfl)<|Ab (Ag rfl rfl)<|Ai rfl<|Ai rfl<|Aa<|Ax rfl<|Ap (u:=.tuple #[vN,vI 6]) Z1 func83 rfl (.cons (.tmp rfl) (.cons (.tmp rfl) .nil)) rfl<|Ab (Ag rfl rfl)<|Ab (Ag rfl rfl)<|Ai rfl<|Ai rfl<|Aa<|Ax rfl ?_
 have Y5:=BC (α:=Tb) G0 L
 refine Ap hb0 func29 rfl (.cons (.tmp rfl) (.cons (.tmp rfl) .nil)) rfl ?_
 cases h
 exact ⟨G0.ag,fun w9 hw9=>⟨vN,rfl,G0.kd Y5 hw9⟩⟩
 refine Aw<|Ae<|Ac rfl<|Bu (fst:=[]) (cap:=[]) (vs:=[s0,.func (.func 144) #[] #[]]) .plain (bd 143) func143 rfl rfl rfl rfl (e2 rfl rfl) rfl fun D7 q5 U7=>Ae<|Ac rfl ?_
 have K7:v0.length <= 4294967296:=St.rowLe (α:=Tb) G0 .hd
 obtain ⟨Q6,u7,x5⟩:=St.rowV (α:=Tb) G0 .hd
 refine Ab (FV.lenV underlying24 rfl x5)<|Ai rfl<|Aa<|Aq<|Ac rfl<|Ac rfl<|Ac rfl<|Ab (FV.convU (i:=((v0.length:Nat):Int)) underlying3 underlying193 rfl)<|bk h fun E3 x6 h=>Bi (vI E3) (bd 174) rfl (e1 rfl) (fun w9 hw9=>aR_c n (G0.hL0 hL hw9) (ac ((v0.length:Nat):Int)) x6) rfl<|Ac rfl<|bk h fun C3 g6 h=>RG.sort (enc:=aA) (ρ:=Tryz.srt173_ren) (c:=(fun x9 y9=>ae_p n x9 y9)) (li:=E3) g6 rfl (fun _ _ _ _ h9=>ba h9) (fun w9 L9 z9=>bz (w:=w9) (L:=L9) z9.fl z9.fP) Tryz.srt173 (fun w9=>Tryz.isAgg37 w9) (fun w9=>Tryz.sizeOf37 w9) (enters_of func144 rfl rfl) (fun x9 y9 r9 w9 h9=>ae_c n (L:=[]) (w:=w9) (fun _ h8=>nomatch h8) x9 y9 h9) .plain (bd 173) rfl (e5 rfl rfl rfl rfl rfl) rfl G0 (Ar U2 K4) .hd fun I6 s1 H7=>Aa<|MX.fin rfl<|Ap (u:=.tuple #[]) q5 func143 rfl .nil rfl<|Aa<|Ae<|Ac rfl<|Ai rfl<|Ai rfl<|Aa<|Ax rfl<|Ap (u:=.tuple #[s0,vI 0]) c2 func87 rfl (.cons (.tmp rfl) (.cons (.tmp rfl) .nil)) rfl<|Ab (Ag rfl rfl)<|Ab (Ag rfl rfl)<|Ai rfl<|Ai rfl<|Aa<|Ax rfl<|Ap (u:=.tuple #[s0,vI 0]) Z1 func83 rfl (.cons (.tmp rfl) (.cons (.tmp rfl) .nil)) rfl<|Ab (Ag rfl rfl)<|Ab (Ag rfl rfl)<|Ai rfl<|Ai rfl<|Aa<|Ax rfl ?_
 have I1:=Bz s1 .hd
 have I7:=BA s1 .hd
 have Z5:=BB (α:=Tb) (v:=s0) (xs:=C3) I1 L (Bj (α:=Tb) s1 .hd (Az s1 L (bv (α:=Tb) (enc:=aA) (fun w9 L9 z9=>bz (w:=w9) (L:=L9) z9.fl z9.fP) I6 _ C3)) hL)
 refine Ap hb0 func29 rfl (.cons (.tmp rfl) (.cons (.tmp rfl) .nil)) rfl ?_
 cases h
 exact ⟨I1.ag,fun w9 hw9=>⟨s0,rfl,I1.kd Z5 hw9⟩⟩
 obtain ⟨E6,F6,rfl,x3,y3⟩:=cr X5
 have h:=u5 _ _ I5
 unfold cD at h
 try dsimp only at h
 refine Ab (Ag rfl rfl)<|Aa<|Aj<|Ba rfl<|Aw<|AC<|Ae<|Ab (FV.entry (D:=c0) D2 .t3 .t1 z5 rfl)<|Ab (Ag rfl rfl)<|Ab (Ag rfl rfl)<|RG.nl zL D2 fun W8 q2 u4 P4=>RG.nl [.bool false,vN,.bool false,vN] u4 fun X8 k7 v4 Q4=>AO (aa g0.1) v4 .t1 (ai rfl) fun Y8 x4 R4=>?_
 have b1:=Tt M4 (Tt P4 (Tt Q4 R4))
 refine AO [.bool g0.2.fh.fc,E6,.bool g0.2.fe.fc,F6] x4 .hd (o4 rfl (AE (Ah x3 b1)) rfl (AE (Ah y3 b1))) fun Z8 X0 Y1=>Aa<|Ae<|Ab (Au rfl (X0.memA .hd))<|bk h fun k0 y6 h=>Bi (.tuple #[.agg ((aa k0.1)).toArray,vI k0.2]) (bd 77) rfl (e1 rfl) (fun w9 hw9=>ab_c n (X0.hL0 hL hw9) g0.2 (X0.kd (Ah x3 (Tt b1 Y1)) hw9) (X0.kd (Ah y3 (Tt b1 Y1)) hw9) y6) rfl<|Ac rfl<|Ab (Ag rfl rfl)<|Ab (Ag rfl rfl)<|RG.nl zL X0 fun b9 s2 y4 U4=>AO (aa k0.1) y4 .hd (ai rfl) fun c9 J1 V4=>Ai rfl<|Aa<|Aj<|Ae<|Ac rfl<|Ab (BM (i:=k0.2) (j:=0) rfl rfl)<|Aa<|MX.jo (α:=Bool) (fun R0=>[(0,vP t0),(4,s0),(19,vP K0),(5,vP q2),(7,vP s2)]) (fun R0=>[.cells s2 (aa k0.1) 34,.cells q2 (aa g0.1) 34,rr w 37 Tb s0 v0.length F0,.obj K0 (aF b0 c0.length (D0.push z3)),.cells t0 [.map (some b0),.bool R0] 126,.obj b0 (ax c0),rr w 34 Ta (vS J0 1) (([a1]:List Ta).length) (aa a1),rr w 24 (List Tb) (vS I0 1) (([a0]:List (List Tb)).length) [v0_0],.cells H0 (aa a1) 34]) (fun R0=>R0) J1 h ?_ ?_
 rintro R0 k9 K1 W4 h
 try dsimp only at h
 refine Aq<|Ac rfl<|Ab (Au rfl (K1.memA .t1))<|Ab (Au rfl (K1.memA .hd))<|Ab (AQ (vs:=[.agg ((aa g0.1)).toArray,.agg ((aa k0.1)).toArray]) (u:=.agg ((aa g0.1 ++ aa k0.1)).toArray) (e2 rfl rfl) (fun w9=>by kernel_rfl))<|Ak .plain rfl (AB (α:=Tb) (xs:=([(⟨g0.1,k0.1⟩:Tb)]:List Tb)) (vs:=[.agg ((aa g0.1 ++ aa k0.1)).toArray]) (ds' :=(aa g0.1 ++ aa k0.1)) rfl K1 ek rfl (e1 rfl) (by kernel_rfl) rfl) fun d9 p7 M1 X4=>bk h fun J6 j6 h=>?_
 have j3:=Tt b1 (Tt Y1 (Tt U4 (Tt V4 (Tt W4 X4))))
 refine BD .plain rfl (AR (α:=Tb) (ys:=([(⟨g0.1,k0.1⟩:Tb)]:List Tb)) j6 M1 (fun _ _=>.t3) ek rfl rfl (Ar U2 j3) (Bd (α:=Tb) M1 .hd (Az (cs:=(aa g0.1 ++ aa k0.1)) (xs:=(([(⟨g0.1,k0.1⟩:Tb)]:List Tb):List Tb)) M1 L (Ao (cs:=(aa g0.1 ++ aa k0.1)) (ds:=[]) (bz g0.1 k0.1) (AA _ _))))) fun G6 g9 ⟨M3,z4,Y4,s5⟩=>Ai rfl<|Aa<|AF ?_
 obtain ⟨A4,Q2⟩:=AD z4 .d3
 exact P3 z6 (J6,R0,G6,M3,(D0.push z3)) _ _ ⟨rfl,rfl,rfl,trivial⟩ ⟨A4,(Tt P2 (Tt j3 (Tt Y4 Q2))),(Ar s5 Q2),C5⟩ h
 intro V6 u2 h
 try dsimp only at h
 refine MX.ifn rfl h (fun K3 h=>?_) (fun K3 h=>?_)
 refine Aw ?_
 obtain ⟨B4,Z4⟩:=AD J1 (.a0 .d1)
 exact u2 C0 B4 Z4 h
 refine Aq<|Ac rfl<|Ab (Bk rfl)<|Bn 1 rfl<|RG.now .plain (BL (j:=1) (old:=[.map (some b0),.bool C0]) (news:=[.bool true]) (new' :=[.map (some b0),.bool true]) J1 .t5 rfl rfl rfl rfl rfl rfl (o1 rfl) rfl) fun j9 C4 b5=>Aa ?_
 obtain ⟨D4,c5⟩:=AD C4 (.a0 .d1)
 exact u2 true D4 (Tt b5 c5) h
 refine Ae<|Ac rfl<|Ai rfl<|Ai rfl<|Aa<|Ax rfl ?_
 have b6:=BC (α:=Tb) z0 L
 refine Ap hb0 func29 rfl (.cons (.tmp rfl) (.cons (.tmp rfl) .nil)) rfl ?_
 cases h
 exact ⟨z0.ag,fun w9 hw9=>⟨vN,rfl,z0.kd b6 hw9⟩⟩
def aK_p (n:Nat) (a0:Ta) (a1:Int) (a2:Int) (a3:Int):Option Bool:=
  (ah_p n a2 a3).bind fun b0=>(if a0 = b0 then some (decide (a1 = 0)) else some false)
theorem aK_c (n:Nat) {L w} (hL:hl L w) (a0:Ta) {a1:Int} {a2:Int} {p2:Nat} (m2:∀ j9 v9,([vI a2]:List Value)[j9]? = some v9 -> w.cell? ((⟨p2,0,none⟩:Addr).add j9) = some v9) {a3:Int} {p3:Nat} (m3:∀ j9 v9,([vI a3]:List Value)[j9]? = some v9 -> w.cell? ((⟨p3,0,none⟩:Addr).add j9) = some v9)  {r:Bool} (h:aK_p n a0 a1 a2 a3 = some r) :
 Cl 92 #[.agg ((aa a0)).toArray,vI a1,.pointer (some ⟨p2,0,none⟩),.pointer (some ⟨p3,0,none⟩)] w (ak w fun _ u=>u = .bool r):=by
 unfold aK_p at h
 refine AN func92 rfl rfl rfl fun _ cs0 hb0=>Ae<|RG.bx (AM w) rfl rfl fun s0 p0 d0 q0=>Ai rfl<|Aa<|Aj<|du 10 fun b0 c0=>Rx 0 1008 b0 rfl c0 (Au rfl (d0.memA .hd))<|Rx 1 1016 b0 rfl c0 (Bm rfl ((fun j9 v9 h9=>d0.ag.cell0 (m2 j9 v9 h9)) 0 _ rfl))<|Rx 2 1016 b0 rfl c0 (Bm rfl ((fun j9 v9 h9=>d0.ag.cell0 (m3 j9 v9 h9)) 0 _ rfl))<|bk h fun g0 k0 h=>RD.cq 3 15 1008 (.agg ((aa g0)).toArray) b0 rfl c0 (bd 15) rfl (e2 rfl rfl) (fun w9 hw9=>ah_c n (d0.hL0 hL hw9)  k0) rfl<|Rv 4 b0 rfl c0 (fun _=>FV.eqlV (v:=.agg ((aa a0)).toArray) (u:=.agg ((aa g0)).toArray) rfl rfl (eO a0 g0))<|Rv 5 b0 rfl c0 (fun _=>Av rfl)<|RD.ifd (s:=12) rfl h (fun j0 h=>?_) (fun j0 h=>?_)
 refine RD.vP 6 127 b0 rfl c0 (.yes rfl rfl) (fun _=>Av rfl) rfl<|RD.vP 7 255 b0 rfl c0 (.yes rfl rfl) (fun _=>FV.eql (i:=a1) (j:=0) rfl rfl) rfl<|Rv 8 b0 rfl c0 (fun _=>FV.pick_t rfl rfl)<|Rv 9 b0 rfl c0 (fun _=>Bg rfl)<|AK (dk b0)<|Ax rfl<|Bq hb0 func92 rfl rfl ?_
 cases h
 exact d0.gv
 refine By 255 2 [(6,13),(7,14)] (F:=[(12,false)]) (U:=[]) b0 c0 (.cons rfl .nil) .nil ?_
 dsimp only [aO,List.map]
 refine Rv 8 b0 rfl c0 (fun _=>Bh rfl rfl)<|Rv 9 b0 rfl c0 (fun _=>Bg rfl)<|AK (dk b0)<|Ax rfl<|Bq hb0 func92 rfl rfl ?_
 cases h
 exact d0.gv
theorem bZ_c (_n:Nat) {L w} (_hL:hl L w) (a0:Int) (a1:Int)  :
 Cl 30 #[vI a0,vI a1] w (ak w fun w' u=>∃ b0 c0:Nat,u = .func (.func 92) #[] #[vP b0,vP c0]/\St w w' [.cells b0 [vI a0] 3,.cells c0 [vI a1] 3]):=by
 refine AN func30 rfl rfl rfl fun _ cs0 hb0=>Ae<|RG.bx (AM w) rfl rfl fun t0 b0 j0 p0=>RG.bx j0 rfl rfl fun u0 c0 k0 q0=>Ai rfl<|Aa<|Ae<|Ab (FV.makeFunc (vs:=[]) (us:=[vP b0,vP c0]) ar (e2 rfl rfl))<|Ai rfl<|Aa<|Ax rfl<|Ap (u:=.func (.func 92) #[] #[vP b0,vP c0]) hb0 func30 rfl (.cons (.tmp rfl) .nil) rfl ?_
 obtain ⟨g0,s0⟩:=AD k0 (.a1 .d0)
 exact ⟨g0.ag,fun w9 hw9=>⟨b0,c0,rfl,g0.agree hw9⟩⟩
def ct_p (n:Nat) (a0:Ta):Option Bool:=
  (ai_p n a0).bind fun b0=>(aG_p n b0.fh).bind fun c0=>some (decide (c0 < 0))
theorem ct_c (n:Nat) {L w} (hL:hl L w) (a0:Ta)  {r:Bool} (h:ct_p n a0 = some r) :
 Cl 94 #[.agg ((aa a0)).toArray] w (ak w fun _ u=>u = .bool r):=by
 unfold ct_p at h
 refine AN func94 rfl rfl rfl fun _ cs0 hb0=>Ae<|RG.bx (AM w) rfl rfl fun A0 u0 b0 v0=>Ai rfl<|Aa<|Ae<|Ab (Au rfl (b0.memA .hd))<|bk h fun d0 p0 h=>jE (bd 68) rfl (e1 rfl) (fun w9 hw9=>ai_c n (b0.hL hL hw9) a0 p0) rfl fun B0 z0 j0 ⟨s0,t0,hu_,k0,y0⟩=>?_
 subst hu_
 obtain ⟨c0,x0⟩:=b0.agr j0
 refine Ab (FV.fieldN (cs:=[.bool d0.fh.fc,s0,.bool d0.fe.fc,t0]) (off:=0) (m:=2) rfl rfl rfl rfl)<|bk h fun g0 q0 h=>Bi (vI g0) (bd 67) rfl (e1 rfl) (fun w9 hw9=>aG_c n (c0.hL0 hL hw9) d0.fh (c0.kd k0 hw9) q0) rfl<|Ab (FV.lss (i:=g0) (j:=0) rfl rfl)<|Ai rfl<|Aa<|Ax rfl<|Bq hb0 func94 rfl rfl ?_
 cases h
 exact c0.gv
end Go.Proofs.YtkommhmbkbhmlaaGreat
