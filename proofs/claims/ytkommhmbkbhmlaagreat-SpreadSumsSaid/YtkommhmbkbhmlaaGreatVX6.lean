import Derived.Test.YtkommhmbkbhmlaaGreatVX4
namespace Go.Proofs.YtkommhmbkbhmlaaGreat
open Go Go.RowKit Tryz
set_option maxRecDepth 4000
set_option maxHeartbeats 4000000

def bp_l1 (n:Nat) (a1:Lb Ta) (t0:Ta) (k0:Nat × (Lb (ByteArray × Bool)) × Bool × (Lb (Tb × Td)) -> Oa ((Lb (ByteArray × Bool)) × Bool × (Lb (Tb × Td)))):Nat × (Lb (ByteArray × Bool)) × Bool × (Lb (Tb × Td)) -> Oa ((Lb (ByteArray × Bool)) × Bool × (Lb (Tb × Td)))
  | (c0,g0,p0,b0)=>(if c0 < a1.length then (a1[c0]?).bind fun u0=>(al_p n t0.fm).bind fun x0=>(al_p n u0.fm).bind fun y0=>(ab_p n x0 y0).bind fun q0=>(ac_p n q0).bind fun z0=>jn (fun j0=>(bb_p n t0).bind fun A0=>(bb_p n u0).bind fun B0=>(av_p n A0 B0).bind fun v0=>(ac_p n q0).bind fun d0=>(if d0.2 = 0 then dI (br b0 d0.1) (k0 (c0 + 1,j0,p0,aC b0 d0.1 v0)) (fun C0=>(ab_p n v0 C0).bind fun D0=>k0 (c0 + 1,j0,p0,aC b0 d0.1 D0)) else k0 (c0 + 1,j0,true,b0))) (fun s0=>(if z0.2 = 0 then s0 g0 else (bX_p n q0).bind fun E0=>s0 (aC g0 E0 true))) else some (g0,p0,b0))
def cP (n:Nat) (c0:Tb × Td) (g0:(Lb Ta) × Bool -> Oa ((Lb Ta) × Int)):(Lb Ta) × Bool -> Oa ((Lb Ta) × Int)
  | (p0,j0)=>(ac_p n c0.2).bind fun d0=>jn (fun k0=>(app p0 ([(⟨c0.1,d0.1⟩:Ta)]:Lb Ta)).bind fun q0=>g0 (q0,k0)) (fun b0=>(if d0.2 = 0 then b0 j0 else b0 true))
def bp_l2 (n:Nat) (a0:Lb Ta) (a1:Lb Ta) (p0:Nat × (Lb (ByteArray × Bool)) × Bool × (Lb (Tb × Td)) -> Oa ((Lb (Tb × Td)) × (Lb (ByteArray × Bool)) × Bool)):Nat × (Lb (ByteArray × Bool)) × Bool × (Lb (Tb × Td)) -> Oa ((Lb (Tb × Td)) × (Lb (ByteArray × Bool)) × Bool)
  | (b0,c0,g0,d0)=>(if b0 < a0.length then (a0[b0]?).bind fun s0=>Option.bind (ao (bp_l1 n a1 s0) n (0,c0,g0,d0)) (fun (j0,q0,k0)=>p0 (b0 + 1,j0,q0,k0)) else some (d0,c0,g0))
def bp_p (n:Nat) (a0:Lb Ta) (a1:Lb Ta):Oa ((Lb Ta) × Int):=
  (au_p n ([a0,a1]:Lb (Lb Ta)) ([]:Lb Tb)).bind fun d0=>(if d0 = 0 then Option.bind (ao (bp_l2 n a0 a1) n (0,([]:Lb (ByteArray × Bool)),false,([]:Lb (Tb × Td)))) (fun (b0,g0,j0)=>(chk (((b0.length:Nat):Int) + ((g0.length:Nat):Int))).bind fun p0=>(if 400 < p0 then some (([]:Lb Ta),(3:Int)) else (if 400 < b0.length then some (([]:Lb Ta),(3:Int)) else mloop (fun (c0,k0)=>(if k0 = true then some (([]:Lb Ta),(6:Int)) else (bq_p n (ac ((c0.length:Nat):Int))).bind fun s0=>(dK (fun x9 y9=>ah_p n x9 y9) s0 c0).bind fun q0=>some (q0,(0:Int)))) (cP n) n b0 (([]:Lb Ta),j0)))) else some (([]:Lb Ta),d0))
theorem bp_c (n:Nat) {L w} (hL:hl L w) {a0:Lb Ta} {v0_0:Vc} (h0_0:Rep.R w L [v0_0] a0) {a1:Lb Ta} {v1_0:Vc} (h1_0:Rep.R w L [v1_0] a1)  {r:(Lb Ta) × Int} (h:bp_p n a0 a1 = some r) :
 Cl 24 #[v0_0,v1_0] w (aj w fun w' u=>∃ v0_0:Vc,u = .tuple #[v0_0,vI r.2]/\Rep.R w' L [v0_0] r.1):=by
 unfold bp_p at h
 refine AL func24 I I I fun _ cs0 hb0=>Ae<|Ag I<|Ag I<|Aa<|Aj<|Ae<|Ac I<|Ac I ?_
 obtain ⟨A11,c12,A00,_⟩:=Bi h0_0
 obtain ⟨A14,c15,B00,_⟩:=Bi h1_0
 refine Ao .plain I (AV (α:=Lb Ta) (xs:=([a0,a1]:Lb (Lb Ta))) (vs:=[v0_0,v1_0]) (ds' :=[v0_0,v1_0]) I (AK w) mc I (e2 I I) (by rw [A00,B00]; try kernel_rfl) I) fun w17 I0 p1 z02=>bk h fun k6 U00 h=>Bj (vI k6) (bd 63) I (e2 I I) (fun w9 hw9=>au_c n (p1.hL0 hL hw9) (Ah (St.lend (α:=Lb Ta) (L:=L) p1 .hd (AJ (cs:=[v0_0,v1_0]) (xs:=(([a0,a1]:Lb (Lb Ta)):Lb (Lb Ta))) p1 L (AC (cs:=[v0_0]) (ds:=[v1_0]) (AG h0_0 p1) (AC (cs:=[v1_0]) (ds:=[]) (AG h1_0 p1) (AR _ _)))) hL) hw9) (Ah (Rep.nilSlice _ _) hw9) U00) I<|Ag I<|Aa<|Ae<|Ac I<|Ab (BB (i:=k6) (j:=0) I I)<|Aa<|BI I h (fun A6 h=>?_) (fun A6 h=>?_)
 refine Aq<|Ae<|Ao .plain I (Does.makeMap (κ:=Tb) (ν:=Lb Vc) p1) fun w27 b0 V4 I02=>Ab (AS (vs:=[.map (some b0)]) (u:=.agg #[.map (some b0),.bool false]) (e1 I) (fun w9=>by kernel_rfl))<|RG.bx V4 I I fun w33 c0 R7 U8=>RG.nl [.pointer none] R7 fun w38 x0 U7 V8=>AT [vP c0] U7 .hd (o1 I) fun w42 V7 W8=>Aa<|Ae<|Ao .plain I (Does.makeMap (κ:=ByteArray) (ν:=Bool) V7) fun w46 d0 W7 X8=>RG.nl [.map none] W7 fun w51 D0 X7 Y8=>AT [.map (some d0)] X7 .hd (o1 I) fun w55 W4 Z8=>Aa<|Aj<|Ae<|Ac I<|Ac I<|BD (fst:=[]) (cap:=[]) (vs:=[v0_0,v1_0]) .plain (bd 84) func84 I I I I (e2 I I) I fun x02 u9 W02=>Ae<|RG.bx W4 I (Rep.c1 (AG h0_0 W4)) fun w63 q0 X4 b9=>?_
 refine RG.bx X4 I (Rep.c1 (AG h1_0 X4)) fun w69 k0 Y7 c9=>Ag I<|Aa<|Ae<|Ab (FV.makeFunc (vs:=[]) (us:=[vP q0,vP k0]) ap (e2 I I))<|Ag I<|Aa<|Ar I<|Au (u:=.func (.func 142) #[] #[vP q0,vP k0]) u9 func84 I (.cons (.tmp I) .nil) I<|Aa<|Av<|MX.rangeP (lb:=[vP q0,vP k0]) I Y7 I (bd 142) func142 I I I fun w73 b1 H0 A1 y02 d4 d9 V00 v9 X02=>Ae<|Bd I ((d4.memA .t3) 0 _ I) ?_
 have v5:=AG h0_0 d4
 have M02:=AX v5
 refine Ab (AY (xs:=a0) underlying24 I v5)<|Ac I<|Aa<|Av ?_
 obtain ⟨Y02,W9,F9⟩:=am h
 refine BR (α:=Nat × (Lb (ByteArray × Bool)) × Bool × (Lb (Tb × Td)) × (Lb (Tb × Lb Vc))) (fun ⟨U0,u0,g1,V0,g0⟩=>[(0,.func (.yield b1) #[] #[]),(2,vP k0),(8,v0_0),(9,vn a0.length),(10,vn U0)]) (fun ⟨U0,u0,g1,V0,g0⟩=>[.obj b1 (lpO A1 .ready none),.obj H0 (.deferred (some [])),.cells k0 [v1_0] 24,.cells q0 [v0_0] 24,.cells D0 [.map (some d0)] 127,.obj d0 (ay (u0:Lb (ByteArray × Bool))),.cells x0 [vP c0] 122,.cells c0 [.map (some b0),.bool g1] 126,.obj b0 (ay g0),rr w 24 (Lb Ta) (vS I0 2) (([a0,a1]:Lb (Lb Ta)).length) [v0_0,v1_0]]) (fun ⟨U0,u0,g1,V0,g0⟩ c6=>MR c6 (bl [.obj b1 (lpO A1 .ready none),.obj H0 (.deferred (some [])),.cells k0 [v1_0] 24,.cells q0 [v0_0] 24,.cells D0 [.map (some d0)] 127,.obj d0 (ay (u0:Lb (ByteArray × Bool))),.cells x0 [vP c0] 122,.cells c0 [.map (some b0),.bool g1] 126,.obj b0 (ay g0),rr w 24 (Lb Ta) (vS I0 2) (([a0,a1]:Lb (Lb Ta)).length) [v0_0,v1_0]] ++ L) g0 V0) (fun ⟨U0,u0,g1,V0,g0⟩=>(U0,u0,g1,V0)) (0,([]:Lb (ByteArray × Bool)),false,([]:Lb (Tb × Td)),([]:Lb (Tb × Lb Vc))) W9 d4 (BM (MR.at_ (Z:=([]:Lb (Tb × Lb Vc))) (M:=([]:Lb (Tb × Td))) V4 L trivial) (Tt U8 (Tt V8 (Tt W8 (Tt X8 (Tt Y8 (Tt Z8 (Tt b9 (Tt c9 d9))))))))) ?_
 rintro E01 ⟨U0,u0,g1,V0,g0⟩ c6 C6 K3 Z7 z4 h
 unfold bp_l2 at h
 try dsimp only at h
 refine Ae<|Ab (AU (i:=U0) (j:=a0.length) I I)<|Aa<|Aj<|AW I h (fun p6 h=>?_) (fun p6 h=>?_)
 refine Aq<|Aj<|Av<|Ae<|bk h fun p0 C00 h=>?_
 obtain ⟨A01,Z01,C9,I9,g02,Z9,P9⟩:=Be (AG h0_0 K3) C00
 obtain rfl:=aF Z9
 refine Ab (Bf 32 U0 I C9 I I I9)<|Ab (AA I P9)<|RG.nl [vW 0,vW 0,vW 0,vW 0,vW 0,vW 0,vW 0,vW 0,vW 0,vW 0,vW 0,vW 0,vW 0,vW 0,vW 0,vW 0,vW 0,vW 0,vW 0,vW 0,vW 0,vW 0,vW 0,vW 0,vW 0,vW 0,vW 0,vW 0,vW 0,vW 0,vW 0,vW 0] K3 fun t03 D1 E6 Y4=>AT (av p0) E6 .hd (ai I) fun u03 M3 Z4=>Aa<|Ae<|Bd I ((M3.memA .t3) 0 _ I) ?_
 have s5:=AG h1_0 M3
 have J02:=AX s5
 refine Ab (AY (xs:=a1) underlying24 I s5)<|Ac I<|Aa<|Av ?_
 obtain ⟨Z02,X9,G9⟩:=am h
 refine BR (α:=Nat × (Lb (ByteArray × Bool)) × Bool × (Lb (Tb × Td)) × (Lb (Tb × Lb Vc))) (fun ⟨F0,G0,A0,W0,v0⟩=>[(0,.func (.yield b1) #[] #[]),(2,vP k0),(8,v0_0),(9,vn a0.length),(10,vn U0),(5,vP D1),(14,v1_0),(15,vn a1.length),(16,vn F0)]) (fun ⟨F0,G0,A0,W0,v0⟩=>[.cells D1 (av p0) 37,.obj b1 (lpO A1 .ready none),.obj H0 (.deferred (some [])),.cells k0 [v1_0] 24,.cells q0 [v0_0] 24,.cells D0 [.map (some d0)] 127,.obj d0 (ay (G0:Lb (ByteArray × Bool))),.cells x0 [vP c0] 122,.cells c0 [.map (some b0),.bool A0] 126,.obj b0 (ay v0),rr w 24 (Lb Ta) (vS I0 2) (([a0,a1]:Lb (Lb Ta)).length) [v0_0,v1_0]]) (fun ⟨F0,G0,A0,W0,v0⟩ d6=>MR d6 (bl [.cells D1 (av p0) 37,.obj b1 (lpO A1 .ready none),.obj H0 (.deferred (some [])),.cells k0 [v1_0] 24,.cells q0 [v0_0] 24,.cells D0 [.map (some d0)] 127,.obj d0 (ay (G0:Lb (ByteArray × Bool))),.cells x0 [vP c0] 122,.cells c0 [.map (some b0),.bool A0] 126,.obj b0 (ay v0),rr w 24 (Lb Ta) (vS I0 2) (([a0,a1]:Lb (Lb Ta)).length) [v0_0,v1_0]] ++ L) v0 W0) (fun ⟨F0,G0,A0,W0,v0⟩=>(F0,G0,A0,W0)) (0,u0,g1,V0,g0) X9 M3 (BM z4 (Tt Y4 Z4)) ?_
 rintro F01 ⟨F0,G0,A0,W0,v0⟩ d6 J3 P3 c3 P2 h
 unfold bp_l1 at h
 try dsimp only at h
 refine Ae<|Ab (AU (i:=F0) (j:=a1.length) I I)<|Aa<|Aj<|AW I h (fun q6 h=>?_) (fun q6 h=>?_)
 refine Aq<|Aj<|Av<|Ae<|bk h fun s0 D00 h=>?_
 obtain ⟨C01,c02,D9,J9,j02,b00,Q9⟩:=Be (AG h1_0 P3) D00
 obtain rfl:=aF b00
 refine Ab (Bf 32 F0 I D9 I I J9)<|Ab (AA I Q9)<|RG.nl [vW 0,vW 0,vW 0,vW 0,vW 0,vW 0,vW 0,vW 0,vW 0,vW 0,vW 0,vW 0,vW 0,vW 0,vW 0,vW 0,vW 0,vW 0,vW 0,vW 0,vW 0,vW 0,vW 0,vW 0,vW 0,vW 0,vW 0,vW 0,vW 0,vW 0,vW 0,vW 0] P3 fun x03 X2 F6 g3=>AT (av s0) F6 .hd (ai I) fun y03 Z2 j3=>Aa<|Ae<|Ac I<|Ab (AA I (Z2.memA .t1))<|Ab (AA I (Z2.memA .hd))<|RG.yieldP (fd:=24) (vs:=[.agg ((av p0)).toArray,.agg ((av s0)).toArray]) .plain I (e2 I I) Z2 .t2 V00 I I I fun k02 q4 P02=>Ae<|RG.nl [vW 0,vW 0,vW 0,vW 0,vW 0,vW 0,vW 0,vW 0,vW 0,vW 0,vW 0,vW 0,vW 0,vW 0,vW 0,vW 0,vW 0,vW 0,vW 0,vW 0,vW 0,vW 0,vW 0,vW 0,vW 0,vW 0,vW 0,vW 0,vW 0,vW 0,vW 0,vW 0] Z2 fun z03 K1 G6 k3=>AT (av p0) G6 .hd (ai I) fun A03 H6 p3=>Aa<|Am<|RG.nl [vW 0,vW 0,vW 0,vW 0,vW 0,vW 0,vW 0,vW 0,vW 0,vW 0,vW 0,vW 0,vW 0,vW 0,vW 0,vW 0,vW 0,vW 0,vW 0,vW 0,vW 0,vW 0,vW 0,vW 0,vW 0,vW 0,vW 0,vW 0,vW 0,vW 0,vW 0,vW 0] H6 fun B03 M1 I6 q3=>AT (av s0) I6 .hd (ai I) fun C03 J6 s3=>Aa<|MX.begin J6 .t4 fun D03 P1 u3=>Av<|Aj<|du 8 fun j0 B3=>Rv 0 j0 I B3 (fun _=>Bh 0 I)<|Rx 1 356 j0 I B3 (AQ (cs:=(ab p0.fm)) I I (ae (P1.memA .t1) 0 16))<|Rv 3 j0 I B3 (fun _=>Bh 0 I)<|Rx 4 352 j0 I B3 (AQ (cs:=(ab s0.fm)) I I (ae (P1.memA .hd) 0 16))<|bk h fun G3 Q5 h=>bk h fun H3 y4 h=>?_
 refine bk h fun K0 A3 h=>RD.mf (α:=Vc × Vc × Nat) (fun ⟨B1,C1,j1⟩=>[(7,vP x0),(8,vP D0),(9,vP K1),(10,vP M1),(36,.agg #[.bool K0.fj.fc,B1,.bool K0.fh.fc,C1]),(11,vP j1)]) (fun ⟨B1,C1,j1⟩=>[.cells j1 [.bool false,vN,.bool false,vN] 109,.cells M1 (av s0) 37,.cells K1 (av p0) 37,.cells X2 (av s0) 37,.cells D1 (av p0) 37,.obj b1 (lpO A1 .busy none),.obj H0 (.deferred (some [])),.cells k0 [v1_0] 24,.cells q0 [v0_0] 24,.cells D0 [.map (some d0)] 127,.obj d0 (ay (G0:Lb (ByteArray × Bool))),.cells x0 [vP c0] 122,.cells c0 [.map (some b0),.bool A0] 126,.obj b0 (ay v0),rr w 24 (Lb Ta) (vS I0 2) (([a0,a1]:Lb (Lb Ta)).length) [v0_0,v1_0]]) (fun ⟨B1,C1,j1⟩ D4=>Rep.R D4 (bl [.cells j1 [.bool false,vN,.bool false,vN] 109,.cells M1 (av s0) 37,.cells K1 (av p0) 37,.cells X2 (av s0) 37,.cells D1 (av p0) 37,.obj b1 (lpO A1 .busy none),.obj H0 (.deferred (some [])),.cells k0 [v1_0] 24,.cells q0 [v0_0] 24,.cells D0 [.map (some d0)] 127,.obj d0 (ay (G0:Lb (ByteArray × Bool))),.cells x0 [vP c0] 122,.cells c0 [.map (some b0),.bool A0] 126,.obj b0 (ay v0),rr w 24 (Lb Ta) (vS I0 2) (([a0,a1]:Lb (Lb Ta)).length) [v0_0,v1_0]] ++ L) [B1] K0.fj.fk/\Rep.R D4 (bl [.cells j1 [.bool false,vN,.bool false,vN] 109,.cells M1 (av s0) 37,.cells K1 (av p0) 37,.cells X2 (av s0) 37,.cells D1 (av p0) 37,.obj b1 (lpO A1 .busy none),.obj H0 (.deferred (some [])),.cells k0 [v1_0] 24,.cells q0 [v0_0] 24,.cells D0 [.map (some d0)] 127,.obj d0 (ay (G0:Lb (ByteArray × Bool))),.cells x0 [vP c0] 122,.cells c0 [.map (some b0),.bool A0] 126,.obj b0 (ay v0),rr w 24 (Lb Ta) (vS I0 2) (([a0,a1]:Lb (Lb Ta)).length) [v0_0,v1_0]] ++ L) [C1] K0.fh.fk) P1 1 255 ?_ ?_
 rintro ⟨B1,C1,j1⟩ D4 M6 v3 ⟨y3,z3⟩
 try dsimp only
 refine BC 8 511 j0 I I .plain (AD (news:=[.bool K0.fj.fc,B1,.bool K0.fh.fc,C1]) M6 .hd I I I I I I (o4 I (Az y3) I (Az z3))) fun F03 j2 z1=>AN (dk j0)<|Aj<|Ae<|Ab (AA I (j2.memA .hd))<|bk h fun I3 G00 h=>Bj (.tuple #[.agg ((ab I3.1)).toArray,vI I3.2]) (bd 77) I (e1 I) (fun w9 hw9=>ac_c n (j2.hL0 hL hw9) K0 (j2.kd (Af y3 z1) hw9) (j2.kd (Af z3 z1) hw9) G00) I<|Ac I<|Ab (Ai I I)<|Ab (Ai I I)<|RG.nl zL j2 fun G03 J01 P6 V1=>AT (ab I3.1) P6 .hd (ai I) fun H03 y1 W1=>Ag I<|Aa<|Ae<|Ac I<|Ab (BB (i:=I3.2) (j:=0) I I)<|Aa<|MX.jo (α:=(Lb (ByteArray × Bool))) (fun v1=>[(7,vP x0),(9,vP K1),(10,vP M1),(11,vP j1)]) (fun v1=>[.cells j1 [.bool K0.fj.fc,B1,.bool K0.fh.fc,C1] 109,.cells M1 (av s0) 37,.cells K1 (av p0) 37,.cells X2 (av s0) 37,.cells D1 (av p0) 37,.obj b1 (lpO A1 .busy none),.obj H0 (.deferred (some [])),.cells k0 [v1_0] 24,.cells q0 [v0_0] 24,.cells D0 [.map (some d0)] 127,.obj d0 (ay (v1:Lb (ByteArray × Bool))),.cells x0 [vP c0] 122,.cells c0 [.map (some b0),.bool A0] 126,.obj b0 (ay v0),rr w 24 (Lb Ta) (vS I0 2) (([a0,a1]:Lb (Lb Ta)).length) [v0_0,v1_0]]) (fun v1=>v1) y1 h ?_ ?_
 rintro v1 Z04 R1 x2 h
 try dsimp only at h
 refine du 7 fun P0 C3=>Rx 0 128 P0 I C3 (Bn I ((R1.memA .t11) 0 _ I))<|Rx 1 128 P0 I C3 (AA I (R1.memA .hd))<|Rx 2 232 P0 I C3 (AA I (R1.memA .t2))<|Rx 4 224 P0 I C3 (AA I (R1.memA .t1))<|bk h fun x01 H00 h=>AZ 3 31 P0 I .plain (bd 66) I (e1 I) (fun w9 hw9=>bb_c n (R1.hL hL hw9) p0 H00) I fun I03 k03 j9 ⟨b03,c03,hu_,g00,j00⟩=>?_
 subst hu_
 obtain ⟨K4,y2⟩:=R1.agr j9
 refine bk h fun y01 I00 h=>AZ 5 63 P0 I .plain (bd 66) I (e1 I) (fun w9 hw9=>bb_c n (K4.hL hL hw9) s0 I00) I fun J03 p03 k9 ⟨d03,g03,hu_,k00,p00⟩=>?_
 subst hu_
 obtain ⟨M4,G1⟩:=K4.agr k9
 refine bk h fun B0 J00 h=>AZ 6 127 P0 I .plain (bd 80) I (e2 I I) (fun w9 hw9=>av_c n (M4.hL hL hw9) x01 (Ah (Af g00 G1) hw9) (Ah (Af j00 G1) hw9) y01 (Ah k00 hw9) (Ah p00 hw9) J00) I fun K03 q03 p9 ⟨V2,W2,hu_,F5,G5⟩=>?_
 subst hu_
 obtain ⟨Q6,z2⟩:=M4.agr p9
 refine BJ (i:=7) (rk P0) (RO.enterPT (m' :=255) (fst:=[]) (cap:=[]) (vs:=[vP c0,.agg #[.bool K0.fj.fc,B1,.bool K0.fh.fc,C1],.agg #[.bool B0.fj.fc,V2,.bool B0.fh.fc,W2]]) (sk P0) I I .plain (bd 86) func86 I I I I (e3 I I I) I (fun _ p02 s4 Q02=>?_))
 refine Ae<|RG.bx Q6 I I fun M03 K01 R6 H1=>RG.bx R6 I I fun P03 M01 k2 I1=>Aa<|Ae<|Ab (AA I (k2.memA .t1))<|bk h fun t0 K00 h=>?_
 have x5:=Tt z1 (Tt V1 (Tt W1 (Tt x2 (Tt y2 (Tt G1 (Tt z2 (Tt H1 I1)))))))
 refine Bj (.tuple #[.agg ((ab t0.1)).toArray,vI t0.2]) (bd 77) I (e1 I) (fun w9 hw9=>ac_c n (k2.hL0 hL hw9) K0 (k2.kd (Af y3 x5) hw9) (k2.kd (Af z3 x5) hw9) K00) I<|Ac I<|Ab (Ai I I)<|Ab (Ai I I)<|RG.nl zL k2 fun Q03 P01 U6 X1=>AT (ab t0.1) U6 .hd (ai I) fun R03 p2 Y1=>Ag I<|Aa<|Aj<|Ae<|Ac I<|Ab (BB (i:=t0.2) (j:=0) I I)<|Aa<|BI I h (fun s6 h=>?_) (fun s6 h=>?_)
 refine Aq<|du 6 fun Y0 c2=>Rv 0 Y0 I c2 (fun _=>Al I)<|Rv 1 Y0 I c2 (fun _=>Bu I)<|Rv 2 Y0 I c2 (fun _=>Bh 0 I)<|Rx 3 64 Y0 I c2 (Bn I ((p2.memA (.tl (.tl (.tl (.tl (.tl (.tl (.tl (.tl (.tl (.tl (.tl (.tl (.tl (.tl (.tl .hd)))))))))))))))) 0 _ I))<|Rx 4 64 Y0 I c2 (AA I (p2.memA .hd))<|Rx 5 64 Y0 I c2 (AA I (p2.memA .t1))<|BJ (i:=6) (rk Y0) (RO.enterPT (m' :=127) (fst:=[]) (cap:=[]) (vs:=[.map (some b0),.agg ((ab t0.1)).toArray,.agg #[.bool B0.fj.fc,V2,.bool B0.fh.fc,W2]]) (sk Y0) I I .plain (bd 88) func88 I I I I (e3 I I I) I (fun _ q02 p5 R02=>?_))
 refine Ae<|RG.bx p2 I I fun U03 Q01 V6 A2=>RG.bx V6 I I fun V03 R01 q2 B2=>Aa<|Aj<|Ae<|Ac I<|Ab (AA I (q2.memA .t1)) ?_
 have x4:=Tt g3 (Tt j3 (Tt k3 (Tt p3 (Tt q3 (Tt s3 (Tt u3 (Tt v3 (Tt z1 (Tt V1 (Tt W1 (Tt x2 (Tt y2 (Tt G1 (Tt z2 (Tt H1 (Tt I1 (Tt X1 (Tt Y1 (Tt A2 B2)))))))))))))))))))
 have R9:=BM P2 x4
 rcases MR.get t0.1 R9 with ⟨v4,A4⟩ | ⟨s02,E4,A4,v4,q00⟩
 have h:=cQ h v4
 refine Ab (FV.lookupK (kv:=t0.1) (q:=false) ar q2 (.tl (.tl (.tl (.tl (.tl (.tl (.tl (.tl (.tl (.tl (.tl (.tl (.tl (.tl (.tl (.tl (.tl (.tl .hd)))))))))))))))))) underlying124 (z:=.agg #[.bool false,vN,.bool false,vN]) I I I (.inl ⟨A4,I,I⟩))<|Ac I<|Ab (Ai I I)<|Ab (Ai I I)<|RG.nl [.bool false,vN,.bool false,vN] q2 fun W03 U01 W6 g4=>AT [.bool false,vN,.bool false,vN] W6 .hd (ai I) fun X03 Q3 j4=>Ag I<|Aa<|Ae<|Ac I<|Aa<|Bv I<|Aq<|Am<|Ac I<|Ab (AA I (Q3.memA .t2))<|Ab (AA I (Q3.memA .t1)) ?_
 have y5:=Tt H1 (Tt I1 (Tt X1 (Tt Y1 (Tt A2 (Tt B2 (Tt g4 j4))))))
 refine RG.now .plain (BK (kv:=t0.1) (vv:=[.bool B0.fj.fc,V2,.bool B0.fh.fc,W2]) ar Q3 (.tl (.tl (.tl (.tl (.tl (.tl (.tl (.tl (.tl (.tl (.tl (.tl (.tl (.tl (.tl (.tl (.tl (.tl (.tl .hd))))))))))))))))))) underlying124 I I I) fun Y03 X6 c8=>Aa<|MX.fin I<|Au (u:=.tuple #[]) p5 func88 I .nil I<|AN (dk Y0)<|MX.fin I<|Au (u:=.tuple #[]) s4 func86 I .nil I<|AN (dk P0)<|Aw<|MX.roundEnd q4 X6 .t11 fun Z03 Y6 d8=>Ab (Bz I)<|Aa<|Bv I<|Aq<|Aw<|Am<|Ab (Bc (i:=F0) (j:=1) I I (by omega))<|Ac I<|Aa ?_
 obtain ⟨Z6,g8⟩:=AB Y6 .d10
 have z5:=Tt c8 (Tt d8 g8)
 exact J3 (F0 + 1,v1,A0,aC W0 t0.1 B0,(aC v0 t0.1 [.bool B0.fj.fc,V2,.bool B0.fh.fc,W2])) Z6 (Tt c3 (Tt g3 (Tt j3 (Tt k3 (Tt p3 (Tt q3 (Tt s3 (Tt u3 (Tt v3 (Tt z1 (Tt V1 (Tt W1 (Tt x2 (Tt y2 (Tt G1 (Tt z2 (Tt H1 (Tt I1 (Tt X1 (Tt Y1 (Tt A2 (Tt B2 (Tt g4 (Tt j4 z5)))))))))))))))))))))))) (BM (MR.set (k:=t0.1) (c:=[.bool B0.fj.fc,V2,.bool B0.fh.fc,W2]) (y:=B0) (ck B0.fj (Af F5 y5) B0.fh (Af G5 y5)) (BM P2 (Tt x4 (Tt g4 j4)))) z5) h
 have h:=cN h v4
 obtain ⟨d01,g01,rfl,H5,I5⟩:=cF q00
 refine Ab (FV.lookupK (kv:=t0.1) (q:=true) ar q2 (.tl (.tl (.tl (.tl (.tl (.tl (.tl (.tl (.tl (.tl (.tl (.tl (.tl (.tl (.tl (.tl (.tl (.tl .hd)))))))))))))))))) underlying124 (z:=.agg #[.bool false,vN,.bool false,vN]) I I I (.inr ⟨_,A4,I,I⟩))<|Ac I<|Ab (Ai I I)<|Ab (Ai I I)<|RG.nl [.bool false,vN,.bool false,vN] q2 fun b04 V01 b7 J1=>AT [.bool E4.fj.fc,d01,.bool E4.fh.fc,g01] b7 .hd (o4 I (Az (Af H5 J1)) I (Az (Af I5 J1))) fun c04 b3 C2=>Ag I<|Aa<|Ae<|Ac I<|Aa<|AE I<|Am<|Ab (AA I (b3.memA .t1))<|Ab (AA I (b3.memA .hd))<|bk h fun R0 M00 h=>?_
 have A5:=Tt H1 (Tt I1 (Tt X1 (Tt Y1 (Tt A2 (Tt B2 (Tt J1 C2))))))
 refine jE (bd 81) I (e2 I I) (fun w9 hw9=>ab_c n (b3.hL hL hw9) B0 (Ah (Af F5 A5) hw9) (Ah (Af G5 A5) hw9) E4 (Ah (Af H5 (Tt J1 C2)) hw9) (Ah (Af I5 (Tt J1 C2)) hw9) M00) I fun d04 s03 q9 ⟨D3,E3,hu_,J5,K5⟩=>?_
 subst hu_
 obtain ⟨c7,b5⟩:=b3.agr q9
 refine AT [.bool R0.fj.fc,D3,.bool R0.fh.fc,E3] c7 .t1 (o4 I (Az J5) I (Az K5)) fun g04 R3 x3=>Aa<|Am<|Ac I<|Ab (AA I (R3.memA .t2))<|Ab (AA I (R3.memA .t1))<|RG.now .plain (BK (kv:=t0.1) (vv:=[.bool R0.fj.fc,D3,.bool R0.fh.fc,E3]) ar R3 (.tl (.tl (.tl (.tl (.tl (.tl (.tl (.tl (.tl (.tl (.tl (.tl (.tl (.tl (.tl (.tl (.tl (.tl (.tl .hd))))))))))))))))))) underlying124 I I I) fun j04 g7 j8=>Aa<|MX.fin I<|Au (u:=.tuple #[]) p5 func88 I .nil I<|AN (dk Y0)<|MX.fin I<|Au (u:=.tuple #[]) s4 func86 I .nil I<|AN (dk P0)<|Aw<|MX.roundEnd q4 g7 .t11 fun k04 j7 k8=>Ab (Bz I)<|Aa<|Bv I<|Aq<|Aw<|Am<|Ab (Bc (i:=F0) (j:=1) I I (by omega))<|Ac I<|Aa ?_
 obtain ⟨k7,p8⟩:=AB j7 .d10
 have B5:=Tt j8 (Tt k8 p8)
 exact J3 (F0 + 1,v1,A0,aC W0 t0.1 R0,(aC v0 t0.1 [.bool R0.fj.fc,D3,.bool R0.fh.fc,E3])) k7 (Tt c3 (Tt g3 (Tt j3 (Tt k3 (Tt p3 (Tt q3 (Tt s3 (Tt u3 (Tt v3 (Tt z1 (Tt V1 (Tt W1 (Tt x2 (Tt y2 (Tt G1 (Tt z2 (Tt H1 (Tt I1 (Tt X1 (Tt Y1 (Tt A2 (Tt B2 (Tt J1 (Tt C2 (Tt b5 (Tt x3 B5)))))))))))))))))))))))))) (BM (MR.set (k:=t0.1) (c:=[.bool R0.fj.fc,D3,.bool R0.fh.fc,E3]) (y:=R0) (ck R0.fj (Af J5 x3) R0.fh (Af K5 x3)) (BM P2 (Tt x4 (Tt J1 (Tt C2 (Tt b5 x3)))))) B5) h
 refine Ae<|Ac I<|Ab (Bu I)<|Bk 1 I<|RG.now .plain (BS (j:=1) (old:=[.map (some b0),.bool A0]) (news:=[.bool true]) (new' :=[.map (some b0),.bool true]) p2 (.tl (.tl (.tl (.tl (.tl (.tl (.tl (.tl (.tl (.tl (.tl (.tl (.tl (.tl (.tl .hd))))))))))))))) I I I I I I (o1 I) I) fun p04 p7 q8=>Aa<|Ar I<|Au (u:=.tuple #[]) s4 func86 I .nil I<|AN (dk P0)<|Aw<|MX.roundEnd q4 p7 .t8 fun q04 q7 s8=>Ab (Bz I)<|Aa<|Bv I<|Aq<|Aw<|Am<|Ab (Bc (i:=F0) (j:=1) I I (by omega))<|Ac I<|Aa ?_
 obtain ⟨s7,u8⟩:=AB q7 .d7
 have C5:=Tt g3 (Tt j3 (Tt k3 (Tt p3 (Tt q3 (Tt s3 (Tt u3 (Tt v3 (Tt z1 (Tt V1 (Tt W1 (Tt x2 (Tt y2 (Tt G1 (Tt z2 (Tt H1 (Tt I1 (Tt X1 (Tt Y1 (Tt q8 (Tt s8 u8))))))))))))))))))))
 exact J3 (F0 + 1,v1,true,W0,v0) s7 (Tt c3 C5) (BM P2 C5) h
 intro G01 I4 h
 try dsimp only at h
 refine BI I h (fun u6 h=>?_) (fun u6 h=>?_)
 refine Aq ?_
 obtain ⟨u7,v8⟩:=AB y1 .d1
 exact I4 G0 u7 v8 h
 refine du 3 fun Q2 B4=>Rx 0 8 Q2 I B4 (Bn I ((y1.memA .t10) 0 _ I))<|Rx 1 12 Q2 I B4 (AA I (y1.memA .t1))<|bk h fun F4 P00 h=>?_
 have D5:=Tt z1 (Tt V1 W1)
 refine RD.cq 2 7 8 (.string F4) Q2 I B4 (bd 85) I (e1 I) (fun w9 hw9=>bX_c n (y1.hL0 hL hw9) K0 (y1.kd (Af y3 D5) hw9) (y1.kd (Af z3 D5) hw9) P00) I<|BC 3 15 Q2 I I .plain (Acts.mapUpdate (kv:=F4) (vv:=true) y1 .t11 underlying127 underlying9 I I I I) fun s04 v7 x8=>AN (dk Q2) ?_
 obtain ⟨x7,y8⟩:=AB v7 .d1
 exact I4 (aC G0 F4 true) x7 (Tt x8 y8) h
 intro Y2
 refine BN [2,7] (rk j0) ⟨?_,?_,trivial⟩
 refine RO.call (m' :=31) (fst:=[]) (cap:=[]) (sk j0) I .plain (bd 68) I (e1 I) (fun w9 hw9=>al_c n (P1.hL hL hw9) p0.fm Q5) I fun s01 q01 p4 ⟨Y00,Z00,hu_,I2,J2⟩=>?_
 subst hu_
 obtain ⟨Q1,u2⟩:=P1.agr p4
 refine BN [5,7] (rk j0) ⟨?_,?_,trivial⟩
 refine RO.call (m' :=63) (fst:=[]) (cap:=[]) (sk j0) I .plain (bd 68) I (e1 I) (fun w9 hw9=>al_c n (Q1.hL hL hw9) s0.fm y4) I fun Z5 X5 D2 ⟨V5,W5,hu_,Z1,b2⟩=>?_
 subst hu_
 obtain ⟨k1,E0⟩:=Q1.agr D2
 refine BN [6,7] (rk j0) ⟨?_,?_,trivial⟩
 have F2:=Af I2 E0
 have G2:=Af J2 E0
 refine RO.call (m' :=127) (fst:=[]) (cap:=[]) (sk j0) I .plain (bd 81) I (e2 I I) (fun w9 hw9=>ab_c n (k1.hL hL hw9) G3 (Ah F2 hw9) (Ah G2 hw9) H3 (Ah Z1 hw9) (Ah b2 hw9) A3) I fun b6 Y5 E2 ⟨R2,U2,hu_,K2,M2⟩=>?_
 subst hu_
 obtain ⟨g2,v2⟩:=k1.agr E2
 refine RD.nu 7 255 j0 I .plain I (Ax [.bool false,vN,.bool false,vN] g2) fun C4 E1 X0 z0=>Y2 (R2,U2,E1) X0 (Tt u2 (Tt E0 (Tt v2 z0))) ⟨(Af K2 z0),(Af M2 z0)⟩
 refine RO.new (m' :=191) (sk j0) I .plain I (Ax [.bool false,vN,.bool false,vN] k1) fun C4 E1 X0 z0=>?_
 have F2:=Af I2 (Tt E0 z0)
 have G2:=Af J2 (Tt E0 z0)
 refine AZ 6 255 j0 I .plain (bd 81) I (e2 I I) (fun w9 hw9=>ab_c n (X0.hL hL hw9) G3 (Ah F2 hw9) (Ah G2 hw9) H3 (Ah (Af Z1 z0) hw9) (Ah (Af b2 z0) hw9) A3) I fun E03 j03 g9 ⟨b01,c01,hu_,c00,d00⟩=>?_
 subst hu_
 obtain ⟨K6,b8⟩:=X0.agr g9
 exact Y2 (b01,c01,E1) K6 (Tt u2 (Tt E0 (Tt z0 b8))) ⟨c00,d00⟩
 refine RO.new (m' :=159) (sk j0) I .plain I (Ax [.bool false,vN,.bool false,vN] Q1) fun C4 E1 X0 z0=>AZ 5 191 j0 I .plain (bd 68) I (e1 I) (fun w9 hw9=>al_c n (X0.hL hL hw9) s0.fm y4) I fun Z5 X5 D2 ⟨V5,W5,hu_,Z1,b2⟩=>?_
 subst hu_
 obtain ⟨k1,E0⟩:=X0.agr D2
 have F2:=Af I2 (Tt z0 E0)
 have G2:=Af J2 (Tt z0 E0)
 refine AZ 6 255 j0 I .plain (bd 81) I (e2 I I) (fun w9 hw9=>ab_c n (k1.hL hL hw9) G3 (Ah F2 hw9) (Ah G2 hw9) H3 (Ah Z1 hw9) (Ah b2 hw9) A3) I fun b6 Y5 E2 ⟨R2,U2,hu_,K2,M2⟩=>?_
 subst hu_
 obtain ⟨g2,v2⟩:=k1.agr E2
 exact Y2 (R2,U2,E1) g2 (Tt u2 (Tt z0 (Tt E0 v2))) ⟨K2,M2⟩
 refine RO.new (m' :=155) (sk j0) I .plain I (Ax [.bool false,vN,.bool false,vN] P1) fun C4 E1 X0 z0=>AZ 2 159 j0 I .plain (bd 68) I (e1 I) (fun w9 hw9=>al_c n (X0.hL hL hw9) p0.fm Q5) I fun s01 q01 p4 ⟨Y00,Z00,hu_,I2,J2⟩=>?_
 subst hu_
 obtain ⟨Q1,u2⟩:=X0.agr p4
 refine AZ 5 191 j0 I .plain (bd 68) I (e1 I) (fun w9 hw9=>al_c n (Q1.hL hL hw9) s0.fm y4) I fun Z5 X5 D2 ⟨V5,W5,hu_,Z1,b2⟩=>?_
 subst hu_
 obtain ⟨k1,E0⟩:=Q1.agr D2
 refine AZ 6 255 j0 I .plain (bd 81) I (e2 I I) (fun w9 hw9=>ab_c n (k1.hL hL hw9) G3 (Ah (Af I2 E0) hw9) (Ah (Af J2 E0) hw9) H3 (Ah Z1 hw9) (Ah b2 hw9) A3) I fun b6 Y5 E2 ⟨R2,U2,hu_,K2,M2⟩=>?_
 subst hu_
 obtain ⟨g2,v2⟩:=k1.agr E2
 exact Y2 (R2,U2,E1) g2 (Tt z0 (Tt u2 (Tt E0 v2))) ⟨K2,M2⟩
 refine Ba I ?_
 have h:=G9 _ h
 try dsimp only at h
 refine Aw<|Am<|Ab (Bc (i:=U0) (j:=1) I I (by omega))<|Ac I<|Aa ?_
 obtain ⟨y7,c5⟩:=AB P3 .d1
 exact C6 (U0 + 1,G0,A0,W0,v0) y7 (Tt Z7 (Tt Y4 (Tt Z4 (Tt c3 c5)))) (BM P2 c5) h
 refine Ba I ?_
 have h:=F9 _ h
 try dsimp only at h
 refine MX.fin rfl<|Au (u:=.tuple #[]) v9 func142 rfl .nil rfl<|MX.endRange0 K3 .hd (by intro h9; cases h9) fun t04 z7 d5=>?_
 obtain ⟨M0,g5⟩:=AB z7 .d1
 refine Aw<|Aj<|Aj<|du 9 fun Z0 q1=>Rx 0 478 Z0 I q1 (Bn I ((M0.memA .t5) 0 _ I))<|Rv 1 Z0 I q1 (fun _=>Bu I)<|Rv 2 Z0 I q1 (fun _=>Bh 0 I)<|Rx 3 464 Z0 I q1 (Bn I ((M0.memA .t6) 0 _ I)) ?_
 have u5:=BM z4 (Tt d5 g5)
 refine Rx 4 448 Z0 I q1 (FV.as (FV.len_map (D:=g0) M0 .t7 underlying124 I) (congrArg (fun n9:Nat=>Value.int .i64 (n9:Int)) (MR.len u5)))<|Rx 5 448 Z0 I q1 (Bn I ((M0.memA .t3) 0 _ I))<|Rx 6 384 Z0 I q1 (FV.len_map (D:=u0) M0 .t4 underlying127 I)<|bk h fun X00 z00 h=>Rv 7 Z0 I q1 (fun _=>FV.addc (i:=((V0.length:Nat):Int)) (j:=((u0.length:Nat):Int)) I I z00)<|Rv 8 Z0 I q1 (fun _=>FV.gtr (i:=X00) (j:=400) I I)<|AN (dk Z0)<|AW I h (fun v6 h=>?_) (fun v6 h=>?_)
 refine Ae<|Ag I<|Ag I<|Aa<|Ar I<|RT.take M0 .hd fun u04 A7 A02=>?_
 obtain ⟨U3,B02⟩:=AB A7 .d1
 have s00:=Bm (α:=Ta) U3 L
 refine Au hb0 func24 I (.cons (.tmp I) (.cons (.tmp I) .nil)) I ?_
 cases h
 exact ⟨U3.ag,fun w9 hw9=>⟨vN,I,U3.kd s00 hw9⟩⟩
 refine Aq<|Ae<|Bd I ((M0.memA .t5) 0 _ I)<|BD (fst:=[]) (cap:=[]) (vs:=[vP c0]) .plain (bd 87) func87 I I I I (e1 I) I fun t02 u4 U02=>Ae<|Ag I<|Ag I<|Aa<|Aj<|Ae<|Ac I<|Ab (Bu I)<|Bk 0 I<|Bd I ((M0.memA .t6) 0 _ I)<|Ab (FV.as (FV.len_map (D:=g0) M0 .t7 underlying124 I) (congrArg (fun n9:Nat=>Value.int .i64 (n9:Int)) (MR.len u5)))<|Ab (FV.gtrN (i:=V0.length) (j:=400) I I)<|Aa<|AW I h (fun x6 h=>?_) (fun x6 h=>?_)
 refine Ae<|Ag I<|Ag I<|Aa<|Ar I<|Au (u:=.tuple #[vN,vI 3]) u4 func87 I (.cons (.tmp I) (.cons (.tmp I) .nil)) I<|Ab (Ai I I)<|Ab (Ai I I)<|Ag I<|Ag I<|Aa<|Ar I<|RT.take M0 .hd fun v04 B7 C02=>?_
 obtain ⟨V3,D02⟩:=AB B7 .d1
 have t00:=Bm (α:=Ta) V3 L
 refine Au hb0 func24 I (.cons (.tmp I) (.cons (.tmp I) .nil)) I ?_
 cases h
 exact ⟨V3.ag,fun w9 hw9=>⟨vN,I,V3.kd t00 hw9⟩⟩
 refine Aq<|Ae<|Ag I<|Aa<|Aj<|Ae<|Ac I<|Ab (Bu I)<|Bk 0 I<|Bd I ((M0.memA .t6) 0 _ I)<|Ao .plain I (Does.range (D:=g0) M0 .t7 underlying124 I) fun t01 F1 P4 z8=>Aa<|Av ?_
 have Q4:=P4.nilRow 37 (Rep.size Ta)
 refine MX.mloop (α:=(Lb Ta) × Bool × Vc × (Lb Vc) × (Array Nat)) (fun ⟨Q0,s1,J0,x1,u1⟩=>[(0,vP c0),(4,J0),(19,vP F1)]) (fun U5 ⟨Q0,s1,J0,x1,u1⟩ F3=>St w F3 [rr w 37 Ta J0 Q0.length x1,.obj F1 (aD b0 g0.length u1),.obj H0 (.deferred (some [])),.cells k0 [v1_0] 24,.cells q0 [v0_0] 24,.cells D0 [.map (some d0)] 127,.obj d0 (ay (u0:Lb (ByteArray × Bool))),.cells x0 [vP c0] 122,.cells c0 [.map (some b0),.bool s1] 126,.obj b0 (ay g0),rr w 24 (Lb Ta) (vS I0 2) (([a0,a1]:Lb (Lb Ta)).length) [v0_0,v1_0]]/\Tr t01 [rr w 37 Ta vN (([]:Lb Ta).length) [],.obj F1 (aD b0 g0.length #[]),.obj H0 (.deferred (some [])),.cells k0 [v1_0] 24,.cells q0 [v0_0] 24,.cells D0 [.map (some d0)] 127,.obj d0 (ay (u0:Lb (ByteArray × Bool))),.cells x0 [vP c0] 122,.cells c0 [.map (some b0),.bool g1] 126,.obj b0 (ay g0),rr w 24 (Lb Ta) (vS I0 2) (([a0,a1]:Lb (Lb Ta)).length) [v0_0,v1_0]] F3 [rr w 37 Ta J0 Q0.length x1,.obj F1 (aD b0 g0.length u1),.obj H0 (.deferred (some [])),.cells k0 [v1_0] 24,.cells q0 [v0_0] 24,.cells D0 [.map (some d0)] 127,.obj d0 (ay (u0:Lb (ByteArray × Bool))),.cells x0 [vP c0] 122,.cells c0 [.map (some b0),.bool s1] 126,.obj b0 (ay g0),rr w 24 (Lb Ta) (vS I0 2) (([a0,a1]:Lb (Lb Ta)).length) [v0_0,v1_0]]/\Cells F3 (bl [rr w 37 Ta J0 Q0.length x1,.obj F1 (aD b0 g0.length u1),.obj H0 (.deferred (some [])),.cells k0 [v1_0] 24,.cells q0 [v0_0] 24,.cells D0 [.map (some d0)] 127,.obj d0 (ay (u0:Lb (ByteArray × Bool))),.cells x0 [vP c0] 122,.cells c0 [.map (some b0),.bool s1] 126,.obj b0 (ay g0),rr w 24 (Lb Ta) (vS I0 2) (([a0,a1]:Lb (Lb Ta)).length) [v0_0,v1_0]] ++ L) x1 Q0/\left V0 u1 = U5) (fun ⟨Q0,s1,J0,x1,u1⟩=>(Q0,s1)) (([]:Lb Ta),g1,vN,[],#[]) h ⟨rfl,rfl,rfl,trivial⟩ ⟨Q4,BO _ _,(AJ (cs:=[]) (xs:=([]:Lb Ta)) Q4 L (AR _ _)),(cE _)⟩ ?_
 rintro U5 ⟨Q0,s1,J0,x1,u1⟩ F3 H01 D6 ⟨C7,j5,q5,K9⟩ U9 B9
 refine Ae<|RG.nextR (W:=g0) (BM z4 (Tt d5 (Tt g5 (Tt z8 (Tt (BT P4 37 (Rep.size Ta)) j5))))) C7 .t9 (fun _=>.t1) I I K9 (fun x04 V9 U1 A8=>?_) (fun y04 R5 y0 u02 W00 H9 u00 Y9 M9 R4 B8=>?_)
 have h:=U9 V9
 try dsimp only at h
 refine Ab (Ai I I)<|Aa<|Aj<|Bv I<|Ba I<|Aj<|Ae<|Ac I<|Ab (Bu I)<|Bk 1 I<|Bd I ((U1.memA .t8) 1 _ I)<|Aa<|MX.ifb I h (fun y6 h=>?_) (fun y6 h=>?_)
 refine Ae<|Ag I<|Ag I<|Aa<|Ar I<|Au (u:=.tuple #[vN,vI 6]) u4 func87 I (.cons (.tmp I) (.cons (.tmp I) .nil)) I<|Ab (Ai I I)<|Ab (Ai I I)<|Ag I<|Ag I<|Aa<|Ar I<|RT.take U1 .t2 fun z04 D7 E02=>?_
 obtain ⟨W3,F02⟩:=AB D7 (.a0 (.a0 .d1))
 have v00:=Bm (α:=Ta) W3 L
 refine Au hb0 func24 I (.cons (.tmp I) (.cons (.tmp I) .nil)) I ?_
 cases h
 exact ⟨W3.ag,fun w9 hw9=>⟨vN,I,W3.kd v00 hw9⟩⟩
 refine Aq<|Ae<|Ac I<|BD (fst:=[]) (cap:=[]) (vs:=[J0,.func (.func 144) #[] #[]]) .plain (bd 143) func143 I I I I (e2 I I) I fun v02 s9 V02=>Ae<|Ac I ?_
 have K02:Q0.length <= 4294967296:=St.rowLe (α:=Ta) U1 .hd
 obtain ⟨D01,d02,E9⟩:=St.rowV (α:=Ta) U1 .hd
 refine Ab (FV.lenV underlying24 I E9)<|Ag I<|Aa<|Am<|Ac I<|Ac I<|Ac I<|Ab (FV.convU (i:=((Q0.length:Nat):Int)) underlying3 underlying193 I)<|bk h fun j6 Q00 h=>Bj (vI j6) (bd 174) I (e1 I) (fun w9 hw9=>bq_c n (U1.hL0 hL hw9) (ac ((Q0.length:Nat):Int)) Q00) I<|Ac I<|bk h fun g6 E00 h=>RG.sort (enc:=av) (ρ:=Tryz.srt173_ren) (c:=(fun x9 y9=>ah_p n x9 y9)) (li:=j6) E00 I (fun _ _ _ _ h9=>aF h9) (fun w9 L9 z9=>aS (w:=w9) (L:=L9) z9.fm z9.fP) Tryz.srt173 (fun w9=>Tryz.isAgg37 w9) (fun w9=>Tryz.sizeOf37 w9) (enters_of func144 I I) (fun x9 y9 r9 w9 h9=>ah_c n (L:=[]) (w:=w9) (fun _ h8=>nomatch h8) x9 y9 h9) .plain (bd 173) I (e5 I I I I I) I U1 (AO q5 A8) .hd fun u01 U4 G02=>Aa<|MX.fin I<|Au (u:=.tuple #[]) s9 func143 I .nil I<|Aa<|Ae<|Ac I<|Ag I<|Ag I<|Aa<|Ar I<|Au (u:=.tuple #[J0,vI 0]) u4 func87 I (.cons (.tmp I) (.cons (.tmp I) .nil)) I<|Ab (Ai I I)<|Ab (Ai I I)<|Ag I<|Ag I<|Aa<|Ar I<|RT.take U4 .t2 fun A04 E7 C8=>?_
 obtain ⟨X3,D8⟩:=AB E7 (.a0 (.a0 .d1))
 have Y3:=Bw X3 .hd
 have H02:=Bx X3 .hd
 have x00:=By (α:=Ta) (v:=J0) (xs:=g6) Y3 L (Bg (α:=Ta) X3 .hd (AO (AJ U4 L (bF (α:=Ta) (enc:=av) (fun w9 L9 z9=>aS (w:=w9) (L:=L9) z9.fm z9.fP) u01 _ g6)) (Tt C8 D8)) hL)
 refine Au hb0 func24 I (.cons (.tmp I) (.cons (.tmp I) .nil)) I ?_
 cases h
 exact ⟨Y3.ag,fun w9 hw9=>⟨J0,I,Y3.kd x00 hw9⟩⟩
 obtain ⟨j01,k01,rfl,M5,P5⟩:=cF u00
 have h:=B9 _ _ Y9
 unfold cP at h
 try dsimp only at h
 refine Ab (Ai I I)<|Aa<|Aj<|AE I<|Aq<|Av<|Ae<|Ab (FV.entry (D:=g0) R4 .t9 .t1 H9 I)<|Ab (Ai I I)<|Ab (Ai I I)<|RG.nl zL R4 fun B04 G4 F7 E8=>RG.nl [.bool false,vN,.bool false,vN] F7 fun C04 W01 G7 F8=>AT (ab y0.1) G7 .t1 (ai I) fun D04 H7 G8=>?_
 have H2:=Tt B8 (Tt E8 (Tt F8 G8))
 refine AT [.bool y0.2.fj.fc,j01,.bool y0.2.fh.fc,k01] H7 .hd (o4 I (Az (Af M5 H2)) I (Az (Af P5 H2))) fun E04 s2 k4=>Aa<|Ae<|Ab (AA I (s2.memA .hd))<|bk h fun C0 R00 h=>Bj (.tuple #[.agg ((ab C0.1)).toArray,vI C0.2]) (bd 77) I (e1 I) (fun w9 hw9=>ac_c n (s2.hL0 hL hw9) y0.2 (s2.kd (Af M5 (Tt H2 k4)) hw9) (s2.kd (Af P5 (Tt H2 k4)) hw9) R00) I<|Ac I<|Ab (Ai I I)<|Ab (Ai I I)<|RG.nl zL s2 fun F04 H4 I7 H8=>AT (ab C0.1) I7 .hd (ai I) fun G04 Z3 I8=>Ag I<|Aa<|Aj<|Ae<|Ac I<|Ab (BB (i:=C0.2) (j:=0) I I)<|Aa<|MX.jo (α:=Bool) (fun d2=>[(0,vP c0),(4,J0),(19,vP F1),(5,vP G4),(7,vP H4)]) (fun d2=>[.cells H4 (ab C0.1) 34,.cells G4 (ab y0.1) 34,rr w 37 Ta J0 Q0.length x1,.obj F1 (aD b0 g0.length (u1.push R5)),.obj H0 (.deferred (some [])),.cells k0 [v1_0] 24,.cells q0 [v0_0] 24,.cells D0 [.map (some d0)] 127,.obj d0 (ay (u0:Lb (ByteArray × Bool))),.cells x0 [vP c0] 122,.cells c0 [.map (some b0),.bool d2] 126,.obj b0 (ay g0),rr w 24 (Lb Ta) (vS I0 2) (([a0,a1]:Lb (Lb Ta)).length) [v0_0,v1_0]]) (fun d2=>d2) Z3 h ?_ ?_
 rintro d2 b05 b4 J8 h
 try dsimp only at h
 refine Am<|Ac I<|Ab (AA I (b4.memA .t1))<|Ab (AA I (b4.memA .hd))<|Ab (AS (vs:=[.agg ((ab y0.1)).toArray,.agg ((ab C0.1)).toArray]) (u:=.agg ((ab y0.1 ++ ab C0.1)).toArray) (e2 I I) (fun w9=>by kernel_rfl))<|Ao .plain I (AV (α:=Ta) (xs:=([(⟨y0.1,C0.1⟩:Ta)]:Lb Ta)) (vs:=[.agg ((ab y0.1 ++ ab C0.1)).toArray]) (ds' :=(ab y0.1 ++ ab C0.1)) I b4 cJ I (e1 I) (by kernel_rfl) I) fun H04 X01 c4 K8=>bk h fun v01 F00 h=>?_
 have E5:=Tt H2 (Tt k4 (Tt H8 (Tt I8 (Tt J8 K8))))
 refine BA .plain I (Bl (α:=Ta) (ys:=([(⟨y0.1,C0.1⟩:Ta)]:Lb Ta)) F00 c4 (fun _ _=>.t3) cJ I I (AO q5 E5) (BH (α:=Ta) c4 .hd (AJ (cs:=(ab y0.1 ++ ab C0.1)) (xs:=(([(⟨y0.1,C0.1⟩:Ta)]:Lb Ta):Lb Ta)) c4 L (AC (cs:=(ab y0.1 ++ ab C0.1)) (ds:=[]) (aS y0.1 C0.1) (AR _ _))))) fun p01 I04 ⟨B6,J7,M8,A9⟩=>Ag I<|Aa<|Aw ?_
 obtain ⟨K7,k5⟩:=AB J7 .d3
 exact D6 W00 (v01,d2,p01,B6,(u1.push R5)) _ _ ⟨I,I,I,trivial⟩ ⟨K7,(Tt j5 (Tt E5 (Tt M8 k5))),(AO A9 k5),M9⟩ h
 intro I01 J4 h
 try dsimp only at h
 refine BI I h (fun z6 h=>?_) (fun z6 h=>?_)
 refine Aq ?_
 obtain ⟨M7,P8⟩:=AB Z3 (.a0 .d1)
 exact J4 s1 M7 P8 h
 refine Am<|Ac I<|Ab (Bu I)<|Bk 1 I<|RG.now .plain (BS (j:=1) (old:=[.map (some b0),.bool s1]) (news:=[.bool true]) (new' :=[.map (some b0),.bool true]) Z3 .t11 I I I I I I (o1 I) I) fun J04 P7 Q8=>Aa ?_
 obtain ⟨Q7,R8⟩:=AB P7 (.a0 .d1)
 exact J4 true Q7 (Tt Q8 R8) h
 refine Ae<|Ac I<|Ag I<|Ag I<|Aa<|Ar I ?_
 have y00:=Bm (α:=Ta) p1 L
 refine Au hb0 func24 I (.cons (.tmp I) (.cons (.tmp I) .nil)) I ?_
 cases h
 exact ⟨p1.ag,fun w9 hw9=>⟨vN,I,p1.kd y00 hw9⟩⟩
def bU (n:Nat) (d0:Tb × Td) (c0:Bool × (Lb Ua) × Bool × (Lb Ua) -> Oa (Tb × Int)):Bool × (Lb Ua) × Bool × (Lb Ua) -> Oa (Tb × Int)
  | (g0,k0,j0,p0)=>(aY_p n d0.2.fj).bind fun q0=>(if 0 < q0 then (ab_p n (⟨(⟨g0,k0⟩:Tf),(⟨j0,p0⟩:Tf)⟩:Td) d0.2).bind fun b0=>c0 (b0.fj.fc,b0.fj.fk,b0.fh.fc,b0.fh.fk) else c0 (g0,k0,j0,p0))
def bS_l1 (n:Nat) (a1:Lb Ta) (g0:Nat × (Lb (Tb × Td)) -> Oa (Lb (Tb × Td))):Nat × (Lb (Tb × Td)) -> Oa (Lb (Tb × Td))
  | (c0,b0)=>(if c0 < a1.length then (a1[c0]?).bind fun d0=>(bb_p n d0).bind fun k0=>(ck_p n k0).bind fun j0=>dI (br b0 d0.fm) (g0 (c0 + 1,aC b0 d0.fm j0)) (fun p0=>(ab_p n j0 p0).bind fun q0=>g0 (c0 + 1,aC b0 d0.fm q0)) else some b0)
def bS_l2 (n:Nat) (a0:Lb Ta) (g0:Nat × (Lb (Tb × Td)) -> Oa (Lb (Tb × Td))):Nat × (Lb (Tb × Td)) -> Oa (Lb (Tb × Td))
  | (c0,b0)=>(if c0 < a0.length then (a0[c0]?).bind fun d0=>(bb_p n d0).bind fun j0=>dI (br b0 d0.fm) (g0 (c0 + 1,aC b0 d0.fm j0)) (fun k0=>(ab_p n j0 k0).bind fun p0=>g0 (c0 + 1,aC b0 d0.fm p0)) else some b0)
def bS_p (n:Nat) (a0:Lb Ta) (a1:Lb Ta):Oa (Tb × Int):=
  (au_p n ([a0,a1]:Lb (Lb Ta)) ([]:Lb Tb)).bind fun c0=>(if c0 = 0 then Option.bind (ao (bS_l2 n a0) n (0,([]:Lb (Tb × Td)))) (fun g0=>Option.bind (ao (bS_l1 n a1) n (0,g0)) (fun j0=>(aI_p n (0:Int)).bind fun b0=>mloop (fun (k0,q0,p0,s0)=>(ac_p n (⟨(⟨k0,q0⟩:Tf),(⟨p0,s0⟩:Tf)⟩:Td)).bind fun d0=>some (d0.1,d0.2)) (bU n) n j0 (b0.fj.fc,b0.fj.fk,b0.fh.fc,b0.fh.fk))) else some ((⟨(0,0,0,0,0,0,0,0),(0,0,0,0,0,0,0,0)⟩:Tb),c0))
theorem bS_c (n:Nat) {L w} (hL:hl L w) {a0:Lb Ta} {v0_0:Vc} (h0_0:Rep.R w L [v0_0] a0) {a1:Lb Ta} {v1_0:Vc} (h1_0:Rep.R w L [v1_0] a1)  {r:Tb × Int} (h:bS_p n a0 a1 = some r) :
 Cl 25 #[v0_0,v1_0] w (aj w fun _ u=>u = .tuple #[.agg ((ab r.1)).toArray,vI r.2]):=by
 unfold bS_p at h
 refine AL func25 I I I fun _ cs0 hb0=>Ae<|RG.nl zL (AK w) fun P8 p0 K1 p8=>Ag I<|Aa<|Aj<|Ae<|Ac I<|Ac I ?_
 obtain ⟨v7,U7,M6,_⟩:=Bi (AG h0_0 K1)
 obtain ⟨x7,V7,P6,_⟩:=Bi (AG h1_0 K1)
 refine Ao .plain I (AV (α:=Lb Ta) (xs:=([a0,a1]:Lb (Lb Ta))) (vs:=[v0_0,v1_0]) (ds' :=[v0_0,v1_0]) I K1 mc I (e2 I I) (by rw [M6,P6]; try kernel_rfl) I) fun Q8 D7 M0 q8=>bk h fun B4 V6 h=>Bj (vI B4) (bd 63) I (e2 I I) (fun w9 hw9=>au_c n (M0.hL0 hL hw9) (Ah (St.lend (α:=Lb Ta) (L:=L) M0 .hd (AJ (cs:=[v0_0,v1_0]) (xs:=(([a0,a1]:Lb (Lb Ta)):Lb (Lb Ta))) M0 L (AC (cs:=[v0_0]) (ds:=[v1_0]) (AG h0_0 M0) (AC (cs:=[v1_0]) (ds:=[]) (AG h1_0 M0) (AR _ _)))) hL) hw9) (Ah (Rep.nilSlice _ _) hw9) V6) I<|Ag I<|Aa<|Ae<|Ac I<|Ab (BB (i:=B4) (j:=0) I I)<|Aa<|BI I h (fun E4 h=>?_) (fun E4 h=>?_)
 refine Aq<|Ae<|Ao .plain I (Does.makeMap (κ:=Tb) (ν:=Lb Vc) M0) fun b9 c0 P1 s8=>Ag I<|Aa<|Aj<|Ae<|Ac I ?_
 have y3:=AG h0_0 P1
 have u8:=AX y3
 refine Ab (AY (xs:=a0) underlying24 I y3)<|Ac I<|Aa<|Av ?_
 obtain ⟨M4,D5⟩:=AB P1 (.a0 .d1)
 obtain ⟨z8,B6,j6⟩:=am h
 refine BR (α:=Nat × (Lb (Tb × Td)) × (Lb (Tb × Lb Vc))) (fun ⟨q0,B0,y0⟩=>[(1,v1_0),(4,vP p0),(7,.map (some c0)),(24,v0_0),(25,vn a0.length),(26,vn q0)]) (fun ⟨q0,B0,y0⟩=>[.obj c0 (ay y0),.cells p0 zL 34]) (fun ⟨q0,B0,y0⟩ z4=>MR z4 (bl [.obj c0 (ay y0),.cells p0 zL 34] ++ L) y0 B0) (fun ⟨q0,B0,y0⟩=>(q0,B0)) (0,([]:Lb (Tb × Td)),([]:Lb (Tb × Lb Vc))) B6 M4 (BM (MR.at_ (Z:=([]:Lb (Tb × Lb Vc))) (M:=([]:Lb (Tb × Td))) P1 L trivial) D5) ?_
 rintro A7 ⟨q0,B0,y0⟩ z4 F2 c1 P2 x1 h
 unfold bS_l2 at h
 try dsimp only at h
 refine Ae<|Ab (AU (i:=q0) (j:=a0.length) I I)<|Aa<|Aj<|AW I h (fun D4 h=>?_) (fun D4 h=>?_)
 refine Aq<|Aj<|Av<|Ae<|bk h fun d0 Q6 h=>?_
 obtain ⟨y7,W7,d6,q6,Y7,E6,u6⟩:=Be (AG h0_0 c1) Q6
 obtain rfl:=aF E6
 refine Ab (Bf 32 q0 I d6 I I q6)<|Ab (AA I u6)<|RG.nl [vW 0,vW 0,vW 0,vW 0,vW 0,vW 0,vW 0,vW 0,vW 0,vW 0,vW 0,vW 0,vW 0,vW 0,vW 0,vW 0,vW 0,vW 0,vW 0,vW 0,vW 0,vW 0,vW 0,vW 0,vW 0,vW 0,vW 0,vW 0,vW 0,vW 0,vW 0,vW 0] c1 fun R8 E7 P4 E5=>AT (av d0) P4 .hd (ai I) fun U8 g1 F5=>Aa<|du 5 fun D0 z1=>Rv 0 D0 I z1 (fun _=>Al I)<|Rv 1 D0 I z1 (fun _=>Bh 0 I)<|Rx 2 32 D0 I z1 (AQ (cs:=(ab d0.fm)) I I (ae (g1.memA .hd) 0 16))<|Rx 3 48 D0 I z1 (AA I (g1.memA .hd))<|bk h fun j0 U6 h=>AZ 4 31 D0 I .plain (bd 66) I (e1 I) (fun w9 hw9=>bb_c n (g1.hL hL hw9) d0 U6) I fun V8 D8 V5 ⟨B1,C1,hu_,M3,P3⟩=>?_
 subst hu_
 obtain ⟨Q4,G5⟩:=g1.agr V5
 refine BJ (i:=5) (rk D0) (RO.enterPT (m' :=63) (fst:=[]) (cap:=[]) (vs:=[.map (some c0),.agg ((ab d0.fm)).toArray,.agg #[.bool j0.fj.fc,B1,.bool j0.fh.fc,C1]]) (sk D0) I I .plain (bd 88) func88 I I I I (e3 I I I) I (fun _ Z7 s3 x8=>?_))
 refine Ae<|RG.bx Q4 I I fun W8 F7 R4 Y1=>RG.bx R4 I I fun X8 G7 X0 Z1=>Aa<|Aj<|Ae<|Ac I<|Ab (AA I (X0.memA .t1)) ?_
 have u2:=Tt E5 (Tt F5 (Tt G5 (Tt Y1 Z1)))
 have v6:=BM x1 u2
 rcases MR.get d0.fm v6 with ⟨q2,z2⟩ | ⟨b8,D2,z2,q2,F6⟩
 have h:=cQ h q2
 refine Ab (FV.lookupK (kv:=d0.fm) (q:=false) ar X0 .t3 underlying124 (z:=.agg #[.bool false,vN,.bool false,vN]) I I I (.inl ⟨z2,I,I⟩))<|Ac I<|Ab (Ai I I)<|Ab (Ai I I)<|RG.nl [.bool false,vN,.bool false,vN] X0 fun Y8 H7 U4 Q2=>AT [.bool false,vN,.bool false,vN] U4 .hd (ai I) fun Z8 M1 R2=>Ag I<|Aa<|Ae<|Ac I<|Aa<|Bv I<|Aq<|Am<|Ac I<|Ab (AA I (M1.memA .t2))<|Ab (AA I (M1.memA .t1)) ?_
 have A3:=Tt u2 (Tt Q2 R2)
 have B3:=Tt Y1 (Tt Z1 (Tt Q2 R2))
 refine RG.now .plain (BK (kv:=d0.fm) (vv:=[.bool j0.fj.fc,B1,.bool j0.fh.fc,C1]) ar M1 .t4 underlying124 I I I) fun c9 V4 U2=>Aa<|MX.fin I<|Au (u:=.tuple #[]) s3 func88 I .nil I<|AN (dk D0)<|Aw<|Am<|Ab (Bc (i:=q0) (j:=1) I I (by omega))<|Ac I<|Aa ?_
 obtain ⟨W4,V2⟩:=AB V4 .d4
 exact F2 (q0 + 1,aC B0 d0.fm j0,(aC y0 d0.fm [.bool j0.fj.fc,B1,.bool j0.fh.fc,C1])) W4 (Tt P2 (Tt A3 (Tt U2 V2))) (BM (MR.set (k:=d0.fm) (c:=[.bool j0.fj.fc,B1,.bool j0.fh.fc,C1]) (y:=j0) (ck j0.fj (Af M3 B3) j0.fh (Af P3 B3)) (BM x1 A3)) (Tt U2 V2)) h
 have h:=cN h q2
 obtain ⟨j7,k7,rfl,Q3,R3⟩:=cF F6
 refine Ab (FV.lookupK (kv:=d0.fm) (q:=true) ar X0 .t3 underlying124 (z:=.agg #[.bool false,vN,.bool false,vN]) I I I (.inr ⟨_,z2,I,I⟩))<|Ac I<|Ab (Ai I I)<|Ab (Ai I I)<|RG.nl [.bool false,vN,.bool false,vN] X0 fun d9 I7 X4 R0=>AT [.bool D2.fj.fc,j7,.bool D2.fh.fc,k7] X4 .hd (o4 I (Az (Af Q3 R0)) I (Az (Af R3 R0))) fun g9 j1 s1=>Ag I<|Aa<|Ae<|Ac I<|Aa<|AE I<|Am<|Ab (AA I (j1.memA .t1))<|Ab (AA I (j1.memA .hd))<|bk h fun t0 W6 h=>?_
 have C3:=Tt Y1 (Tt Z1 (Tt R0 s1))
 refine jE (bd 81) I (e2 I I) (fun w9 hw9=>ab_c n (j1.hL hL hw9) j0 (Ah (Af M3 C3) hw9) (Ah (Af P3 C3) hw9) D2 (Ah (Af Q3 (Tt R0 s1)) hw9) (Ah (Af R3 (Tt R0 s1)) hw9) W6) I fun j9 E8 W5 ⟨D1,E1,hu_,U3,V3⟩=>?_
 subst hu_
 obtain ⟨Y4,H5⟩:=j1.agr W5
 refine AT [.bool t0.fj.fc,D1,.bool t0.fh.fc,E1] Y4 .t1 (o4 I (Az U3) I (Az V3)) fun k9 Q1 b2=>Aa<|Am<|Ac I<|Ab (AA I (Q1.memA .t2))<|Ab (AA I (Q1.memA .t1)) ?_
 have D3:=Tt u2 (Tt R0 (Tt s1 (Tt H5 b2)))
 refine RG.now .plain (BK (kv:=d0.fm) (vv:=[.bool t0.fj.fc,D1,.bool t0.fh.fc,E1]) ar Q1 .t4 underlying124 I I I) fun p9 Z4 W2=>Aa<|MX.fin I<|Au (u:=.tuple #[]) s3 func88 I .nil I<|AN (dk D0)<|Aw<|Am<|Ab (Bc (i:=q0) (j:=1) I I (by omega))<|Ac I<|Aa ?_
 obtain ⟨b5,X2⟩:=AB Z4 .d4
 exact F2 (q0 + 1,aC B0 d0.fm t0,(aC y0 d0.fm [.bool t0.fj.fc,D1,.bool t0.fh.fc,E1])) b5 (Tt P2 (Tt D3 (Tt W2 X2))) (BM (MR.set (k:=d0.fm) (c:=[.bool t0.fj.fc,D1,.bool t0.fh.fc,E1]) (y:=t0) (ck t0.fj (Af U3 b2) t0.fh (Af V3 b2)) (BM x1 D3)) (Tt W2 X2)) h
 refine Ba I ?_
 have h:=j6 _ h
 try dsimp only at h
 refine Aj<|Ae<|Ac I ?_
 have x3:=AG h1_0 c1
 have v8:=AX x3
 refine Ab (AY (xs:=a1) underlying24 I x3)<|Ac I<|Aa<|Av ?_
 obtain ⟨A8,C6,k6⟩:=am h
 refine BR (α:=Nat × (Lb (Tb × Td)) × (Lb (Tb × Lb Vc))) (fun ⟨s0,C0,b0⟩=>[(4,vP p0),(7,.map (some c0)),(37,v1_0),(38,vn a1.length),(39,vn s0)]) (fun ⟨s0,C0,b0⟩=>[.obj c0 (ay b0),.cells p0 zL 34]) (fun ⟨s0,C0,b0⟩ A4=>MR A4 (bl [.obj c0 (ay b0),.cells p0 zL 34] ++ L) b0 C0) (fun ⟨s0,C0,b0⟩=>(s0,C0)) (0,B0,y0) C6 c1 x1 ?_
 rintro B7 ⟨s0,C0,b0⟩ A4 G2 k1 Y2 y1 h
 unfold bS_l1 at h
 try dsimp only at h
 refine Ae<|Ab (AU (i:=s0) (j:=a1.length) I I)<|Aa<|Aj<|AW I h (fun F4 h=>?_) (fun F4 h=>?_)
 refine Aq<|Aj<|Av<|Ae<|bk h fun g0 R6 h=>?_
 obtain ⟨z7,X7,g6,s6,c8,G6,x6⟩:=Be (AG h1_0 k1) R6
 obtain rfl:=aF G6
 refine Ab (Bf 32 s0 I g6 I I s6)<|Ab (AA I x6)<|RG.nl [vW 0,vW 0,vW 0,vW 0,vW 0,vW 0,vW 0,vW 0,vW 0,vW 0,vW 0,vW 0,vW 0,vW 0,vW 0,vW 0,vW 0,vW 0,vW 0,vW 0,vW 0,vW 0,vW 0,vW 0,vW 0,vW 0,vW 0,vW 0,vW 0,vW 0,vW 0,vW 0] k1 fun q9 J7 c5 I5=>AT (av g0) c5 .hd (ai I) fun s9 p1 J5=>Aa<|du 6 fun z0 A1=>Rv 0 z0 I A1 (fun _=>Al I)<|Rv 1 z0 I A1 (fun _=>Bh 0 I)<|Rx 2 64 z0 I A1 (AQ (cs:=(ab g0.fm)) I I (ae (p1.memA .hd) 0 16))<|Rx 3 112 z0 I A1 (AA I (p1.memA .hd))<|bk h fun u7 X6 h=>AZ 4 31 z0 I .plain (bd 66) I (e1 I) (fun w9 hw9=>bb_c n (p1.hL hL hw9) g0 X6) I fun t9 F8 X5 ⟨B8,C8,hu_,H6,I6⟩=>?_
 subst hu_
 obtain ⟨J2,K5⟩:=p1.agr X5
 refine bk h fun k0 Y6 h=>AZ 5 63 z0 I .plain (bd 89) I (e1 I) (fun w9 hw9=>ck_c n (J2.hL hL hw9) u7 (Ah H6 hw9) (Ah I6 hw9) Y6) I fun u9 G8 Y5 ⟨F1,G1,hu_,W3,X3⟩=>?_
 subst hu_
 obtain ⟨d5,M5⟩:=J2.agr Y5
 refine BJ (i:=6) (rk z0) (RO.enterPT (m' :=127) (fst:=[]) (cap:=[]) (vs:=[.map (some c0),.agg ((ab g0.fm)).toArray,.agg #[.bool k0.fj.fc,F1,.bool k0.fh.fc,G1]]) (sk z0) I I .plain (bd 88) func88 I I I I (e3 I I I) I (fun _ d8 u3 y8=>?_))
 refine Ae<|RG.bx d5 I I fun v9 K7 g5 c2=>RG.bx g5 I I fun x9 M7 Y0 d2=>Aa<|Aj<|Ae<|Ac I<|Ab (AA I (Y0.memA .t1)) ?_
 have v2:=Tt I5 (Tt J5 (Tt K5 (Tt M5 (Tt c2 d2))))
 have y6:=BM y1 v2
 rcases MR.get g0.fm y6 with ⟨s2,A2⟩ | ⟨g8,E2,A2,s2,J6⟩
 have h:=cQ h s2
 refine Ab (FV.lookupK (kv:=g0.fm) (q:=false) ar Y0 .t3 underlying124 (z:=.agg #[.bool false,vN,.bool false,vN]) I I I (.inl ⟨A2,I,I⟩))<|Ac I<|Ab (Ai I I)<|Ab (Ai I I)<|RG.nl [.bool false,vN,.bool false,vN] Y0 fun y9 P7 j5 Z2=>AT [.bool false,vN,.bool false,vN] j5 .hd (ai I) fun z9 R1 b3=>Ag I<|Aa<|Ae<|Ac I<|Aa<|Bv I<|Aq<|Am<|Ac I<|Ab (AA I (R1.memA .t2))<|Ab (AA I (R1.memA .t1)) ?_
 have E3:=Tt v2 (Tt Z2 b3)
 have F3:=Tt c2 (Tt d2 (Tt Z2 b3))
 refine RG.now .plain (BK (kv:=g0.fm) (vv:=[.bool k0.fj.fc,F1,.bool k0.fh.fc,G1]) ar R1 .t4 underlying124 I I I) fun A9 k5 c3=>Aa<|MX.fin I<|Au (u:=.tuple #[]) u3 func88 I .nil I<|AN (dk z0)<|Aw<|Am<|Ab (Bc (i:=s0) (j:=1) I I (by omega))<|Ac I<|Aa ?_
 obtain ⟨p5,d3⟩:=AB k5 .d4
 exact G2 (s0 + 1,aC C0 g0.fm k0,(aC b0 g0.fm [.bool k0.fj.fc,F1,.bool k0.fh.fc,G1])) p5 (Tt Y2 (Tt E3 (Tt c3 d3))) (BM (MR.set (k:=g0.fm) (c:=[.bool k0.fj.fc,F1,.bool k0.fh.fc,G1]) (y:=k0) (ck k0.fj (Af W3 F3) k0.fh (Af X3 F3)) (BM y1 E3)) (Tt c3 d3)) h
 have h:=cN h s2
 obtain ⟨p7,q7,rfl,Y3,Z3⟩:=cF J6
 refine Ab (FV.lookupK (kv:=g0.fm) (q:=true) ar Y0 .t3 underlying124 (z:=.agg #[.bool false,vN,.bool false,vN]) I I I (.inr ⟨_,A2,I,I⟩))<|Ac I<|Ab (Ai I I)<|Ab (Ai I I)<|RG.nl [.bool false,vN,.bool false,vN] Y0 fun B9 Q7 q5 U0=>AT [.bool E2.fj.fc,p7,.bool E2.fh.fc,q7] q5 .hd (o4 I (Az (Af Y3 U0)) I (Az (Af Z3 U0))) fun C9 q1 u1=>Ag I<|Aa<|Ae<|Ac I<|Aa<|AE I<|Am<|Ab (AA I (q1.memA .t1))<|Ab (AA I (q1.memA .hd))<|bk h fun u0 Z6 h=>?_
 have G3:=Tt c2 (Tt d2 (Tt U0 u1))
 refine jE (bd 81) I (e2 I I) (fun w9 hw9=>ab_c n (q1.hL hL hw9) k0 (Ah (Af W3 G3) hw9) (Ah (Af X3 G3) hw9) E2 (Ah (Af Y3 (Tt U0 u1)) hw9) (Ah (Af Z3 (Tt U0 u1)) hw9) Z6) I fun D9 H8 Z5 ⟨H1,I1,hu_,b4,c4⟩=>?_
 subst hu_
 obtain ⟨s5,P5⟩:=q1.agr Z5
 refine AT [.bool u0.fj.fc,H1,.bool u0.fh.fc,I1] s5 .t1 (o4 I (Az b4) I (Az c4)) fun E9 U1 g2=>Aa<|Am<|Ac I<|Ab (AA I (U1.memA .t2))<|Ab (AA I (U1.memA .t1)) ?_
 have H3:=Tt v2 (Tt U0 (Tt u1 (Tt P5 g2)))
 refine RG.now .plain (BK (kv:=g0.fm) (vv:=[.bool u0.fj.fc,H1,.bool u0.fh.fc,I1]) ar U1 .t4 underlying124 I I I) fun F9 t5 g3=>Aa<|MX.fin I<|Au (u:=.tuple #[]) u3 func88 I .nil I<|AN (dk z0)<|Aw<|Am<|Ab (Bc (i:=s0) (j:=1) I I (by omega))<|Ac I<|Aa ?_
 obtain ⟨u5,j3⟩:=AB t5 .d4
 exact G2 (s0 + 1,aC C0 g0.fm u0,(aC b0 g0.fm [.bool u0.fj.fc,H1,.bool u0.fh.fc,I1])) u5 (Tt Y2 (Tt H3 (Tt g3 j3))) (BM (MR.set (k:=g0.fm) (c:=[.bool u0.fj.fc,H1,.bool u0.fh.fc,I1]) (y:=u0) (ck u0.fj (Af b4 g2) u0.fh (Af c4 g2)) (BM y1 H3)) (Tt g3 j3)) h
 refine Ba I ?_
 have h:=k6 _ h
 try dsimp only at h
 refine Ae<|bk h fun K0 b7 h=>jE (bd 71) I (e1 I) (fun w9 hw9=>aI_c n (k1.hL hL hw9)  b7) I fun G9 I8 b6 ⟨B2,C2,hu_,g4,j4⟩=>?_
 subst hu_
 obtain ⟨v5,Q5⟩:=k1.agr b6
 refine RG.nl [.bool false,vN,.bool false,vN] v5 fun H9 P0 x5 v1=>AT [.bool K0.fj.fc,B2,.bool K0.fh.fc,C2] x5 .hd (o4 I (Az (Af g4 v1)) I (Az (Af j4 v1))) fun I9 y5 k3=>Aa<|Aj<|Ae<|Ac I<|Ao .plain I (Does.range (D:=b0) y5 .t1 underlying124 I) fun t7 Q0 z5 p3=>Aa<|Av ?_
 have I3:=Tt v1 (Tt k3 p3)
 refine MX.mloop (α:=Bool × (Lb Ua) × Bool × (Lb Ua) × (Array Nat) × Vc × Vc) (fun ⟨v0,I0,x0,J0,A0,E0,F0⟩=>[(4,vP p0),(12,vP P0),(53,vP Q0)]) (fun s4 ⟨v0,I0,x0,J0,A0,E0,F0⟩ b1=>St w b1 [.obj Q0 (aD c0 b0.length A0),.cells P0 [.bool v0,E0,.bool x0,F0] 109,.obj c0 (ay b0),.cells p0 zL 34]/\Tr t7 [.obj Q0 (aD c0 b0.length #[]),.cells P0 [.bool K0.fj.fc,B2,.bool K0.fh.fc,C2] 109,.obj c0 (ay b0),.cells p0 zL 34] b1 [.obj Q0 (aD c0 b0.length A0),.cells P0 [.bool v0,E0,.bool x0,F0] 109,.obj c0 (ay b0),.cells p0 zL 34]/\left C0 A0 = s4/\Rep.R b1 (bl [.obj Q0 (aD c0 b0.length A0),.cells P0 [.bool v0,E0,.bool x0,F0] 109,.obj c0 (ay b0),.cells p0 zL 34] ++ L) [E0] I0/\Rep.R b1 (bl [.obj Q0 (aD c0 b0.length A0),.cells P0 [.bool v0,E0,.bool x0,F0] 109,.obj c0 (ay b0),.cells p0 zL 34] ++ L) [F0] J0) (fun ⟨v0,I0,x0,J0,A0,E0,F0⟩=>(v0,I0,x0,J0)) (K0.fj.fc,K0.fj.fk,K0.fh.fc,K0.fh.fk,#[],B2,C2) h ⟨rfl,rfl,rfl,trivial⟩ ⟨z5,BO _ _,(cE _),(Af g4 I3),(Af j4 I3)⟩ ?_
 rintro s4 ⟨v0,I0,x0,J0,A0,E0,F0⟩ b1 C7 H2 ⟨A5,j2,t6,x2,y2⟩ z6 c6
 refine Ae<|RG.nextR (W:=b0) (BM y1 (Tt Q5 (Tt v1 (Tt k3 (Tt p3 j2))))) A5 .t2 (fun _=>.hd) I I t6 (fun J9 A6 Z0 q3=>?_) (fun K9 q4 W0 j8 u4 p6 K6 D6 v3 K2 k2=>?_)
 have h:=z6 A6
 try dsimp only at h
 refine Ab (Ai I I)<|Aa<|Aj<|Bv I<|Ba I<|Ae<|Ab (AA I (Z0.memA .t1))<|bk h fun J1 c7 h=>Bj (.tuple #[.agg ((ab J1.1)).toArray,vI J1.2]) (bd 77) I (e1 I) (fun w9 hw9=>ac_c n (Z0.hL0 hL hw9) (⟨(⟨v0,I0⟩:Tf),(⟨x0,J0⟩:Tf)⟩:Td) (Z0.kd (Af x2 q3) hw9) (Z0.kd (Af y2 q3) hw9) c7) I<|Ab (Ai I I)<|Ab (Ai I I)<|AT (ab J1.1) Z0 .t3 (ai I) fun M9 M2 t8=>Ag I<|Aa<|Ar I<|Au hb0 func25 I (.cons (.many (cs:=(ab J1.1)) I I (M2.memA .t3)) (.cons (.tmp I) .nil)) I ?_
 cases h
 exact M2.gv
 obtain ⟨y4,s7,rfl,k4,p4⟩:=cF K6
 have h:=c6 _ _ D6
 unfold bU at h
 try dsimp only at h
 refine Ab (Ai I I)<|Aa<|Aj<|AE I<|Aq<|Av<|Ae<|Ab (FV.entry (D:=b0) K2 .t2 .hd p6 I)<|Ab (Ai I I)<|RG.nl [.bool false,vN,.bool false,vN] K2 fun P9 R7 B5 p2=>AT [.bool W0.2.fj.fc,y4,.bool W0.2.fh.fc,s7] B5 .hd (o4 I (Az (Af k4 (Tt k2 p2))) I (Az (Af p4 (Tt k2 p2)))) fun Q9 G0 R5=>Aa<|Ae<|Bk 0 I<|Ab (AQ (cs:=[.bool W0.2.fj.fc,y4]) I I (ae (G0.memA .hd) 0 2))<|bk h fun C4 d7 h=>?_
 have H0:=Tt k2 (Tt p2 R5)
 have z3:=Af k4 H0
 refine Bj (vI C4) (bd 67) I (e1 I) (fun w9 hw9=>aY_c n (G0.hL0 hL hw9) W0.2.fj (G0.kd z3 hw9) d7) I<|Ab (FV.gtr (i:=C4) (j:=0) I I)<|Aa<|AW I h (fun G4 h=>?_) (fun G4 h=>?_)
 refine Am<|Ab (AA I (G0.memA .t2))<|Ab (AA I (G0.memA .hd))<|bk h fun V0 g7 h=>jE (bd 81) I (e2 I I) (fun w9 hw9=>ab_c n (G0.hL hL hw9) (⟨(⟨v0,I0⟩:Tf),(⟨x0,J0⟩:Tf)⟩:Td) (Ah (Af x2 H0) hw9) (Ah (Af y2 H0) hw9) W0.2 (Ah z3 hw9) (Ah (Af p4 H0) hw9) g7) I fun R9 J8 U5 ⟨v4,x4,hu_,J3,K3⟩=>?_
 subst hu_
 obtain ⟨H4,C5⟩:=G0.agr U5
 refine AT [.bool V0.fj.fc,v4,.bool V0.fh.fc,x4] H4 .t2 (o4 I (Az J3) I (Az K3)) fun K8 I4 V1=>Aa<|Aw ?_
 obtain ⟨J4,W1⟩:=AB I4 .d1
 exact H2 u4 (V0.fj.fc,V0.fj.fk,V0.fh.fc,V0.fh.fk,(A0.push q4),v4,x4) _ _ ⟨I,I,I,trivial⟩ ⟨J4,(Tt j2 (Tt H0 (Tt C5 (Tt V1 W1)))),v3,(Af J3 (Tt V1 W1)),(Af K3 (Tt V1 W1))⟩ h
 refine Aq<|Aw ?_
 obtain ⟨K4,X1⟩:=AB G0 .d1
 exact H2 u4 (v0,I0,x0,J0,(A0.push q4),E0,F0) _ _ ⟨I,I,I,trivial⟩ ⟨K4,(Tt j2 (Tt H0 X1)),v3,(Af x2 (Tt H0 X1)),(Af y2 (Tt H0 X1))⟩ h
 refine Ae<|Ab (AS (vs:=[]) (u:=.agg zM) ap (fun w9=>by kernel_rfl))<|Ac I<|AT zL M0 .t1 (ai I) fun M8 I2 k8=>Ag I<|Aa<|Ar I<|Au hb0 func25 I (.cons (.many (cs:=zL) I I (I2.memA .t1)) (.cons (.tmp I) .nil)) I ?_
 cases h
 exact I2.gv
def cR_p (n:Nat) (a0:Td) (a1:Td):Oa Td:=
  (aN_p n a0.fj a1.fh).bind fun b0=>(aN_p n a0.fh a1.fj).bind fun c0=>(ca_p n b0 c0).bind fun d0=>some d0
theorem cR_c (n:Nat) {L w} (hL:hl L w) (a0:Td) {v0_1:Vc} (h0_1:Rep.R w L [v0_1] a0.fj.fk) {v0_3:Vc} (h0_3:Rep.R w L [v0_3] a0.fh.fk) (a1:Td) {v1_1:Vc} (h1_1:Rep.R w L [v1_1] a1.fj.fk) {v1_3:Vc} (h1_3:Rep.R w L [v1_3] a1.fh.fk)  {r:Td} (h:cR_p n a0 a1 = some r) :
 Cl 90 #[.agg #[.bool a0.fj.fc,v0_1,.bool a0.fh.fc,v0_3],.agg #[.bool a1.fj.fc,v1_1,.bool a1.fh.fc,v1_3]] w (aj w fun w' u=>∃ v0_1 v0_3:Vc,u = .agg #[.bool r.fj.fc,v0_1,.bool r.fh.fc,v0_3]/\Rep.R w' L [v0_1] r.fj.fk/\Rep.R w' L [v0_3] r.fh.fk):=by
 unfold cR_p at h
 refine AL func90 I I I fun _ cs0 hb0=>Ae<|RG.bx (AK w) I I fun g1 M0 x0 R0=>RG.bx x0 I I fun j1 P0 y0 U0=>RG.nl [.bool false,vN,.bool false,vN] y0 fun k1 Q0 c0 V0=>Aa<|Aj<|du 11 fun b0 d0=>Rv 0 b0 I d0 (fun _=>Bh 0 I)<|Rx 1 3600 b0 I d0 (AQ (cs:=[.bool a0.fj.fc,v0_1]) I I (ae (c0.memA .t2) 0 2))<|Rv 2 b0 I d0 (fun _=>Bh 2 I)<|Rx 3 3600 b0 I d0 (AQ (cs:=[.bool a1.fh.fc,v1_3]) I I (ae (c0.memA .t1) 2 2))<|Rv 5 b0 I d0 (fun _=>Bh 2 I)<|Rx 6 3584 b0 I d0 (AQ (cs:=[.bool a0.fh.fc,v0_3]) I I (ae (c0.memA .t2) 2 2))<|Rv 7 b0 I d0 (fun _=>Bh 0 I)<|Rx 8 3584 b0 I d0 (AQ (cs:=[.bool a1.fj.fc,v1_1]) I I (ae (c0.memA .t1) 0 2))<|bk h fun J0 G0 h=>AZ 4 511 b0 I .plain (bd 136) I (e2 I I) (fun w9 hw9=>aN_c n (c0.hL hL hw9) a0.fj (c0.km h0_1 hw9) a1.fh (c0.km h1_3 hw9) G0) I fun p1 b1 B0 ⟨Y0,hu_,E0⟩=>?_
 subst hu_
 obtain ⟨g0,W0⟩:=c0.agr B0
 refine bk h fun K0 H0 h=>AZ 9 1023 b0 I .plain (bd 136) I (e2 I I) (fun w9 hw9=>aN_c n (g0.hL hL hw9) a0.fh (g0.km h0_3 hw9) a1.fj (g0.km h1_1 hw9) H0) I fun q1 c1 C0 ⟨Z0,hu_,F0⟩=>?_
 subst hu_
 obtain ⟨s0,A0⟩:=g0.agr C0
 refine bk h fun k0 I0 h=>AZ 10 2047 b0 I .plain (bd 140) I (e2 I I) (fun w9 hw9=>ca_c n (s0.hL hL hw9) J0 (Ah (Af E0 A0) hw9) K0 (Ah F0 hw9) I0) I fun s1 d1 D0 ⟨p0,q0,hu_,u0,v0⟩=>?_
 subst hu_
 obtain ⟨z0,X0⟩:=s0.agr D0
 refine BC 11 4095 b0 I I .plain (AD (news:=[.bool k0.fj.fc,p0,.bool k0.fh.fc,q0]) z0 .hd I I I I I I (o4 I (Az u0) I (Az v0))) fun u1 j0 t0=>AN (dk b0)<|Ar I<|Au hb0 func90 I (.cons (.many (cs:=[.bool k0.fj.fc,p0,.bool k0.fh.fc,q0]) I I (j0.memA .hd)) .nil) I ?_
 cases h
 exact ⟨j0.ag,fun w9 hw9=>⟨p0,q0,I,j0.kd (Af u0 t0) hw9,j0.kd (Af v0 t0) hw9⟩⟩
def cO (n:Nat) (c0:Tb × Td) (g0:(Lb Ta) × Bool -> Oa ((Lb Ta) × Int)):(Lb Ta) × Bool -> Oa ((Lb Ta) × Int)
  | (p0,j0)=>(ac_p n c0.2).bind fun d0=>jn (fun k0=>(app p0 ([(⟨c0.1,d0.1⟩:Ta)]:Lb Ta)).bind fun q0=>g0 (q0,k0)) (fun b0=>(if d0.2 = 0 then b0 j0 else b0 true))
def cC_l1 (n:Nat) (a0:Lb Tb) (j0:Td) (g0:Nat × (Lb (Tb × Td)) -> Oa (Lb (Tb × Td))):Nat × (Lb (Tb × Td)) -> Oa (Lb (Tb × Td))
  | (c0,b0)=>(if c0 < a0.length then (a0[c0]?).bind fun d0=>dI (br b0 d0) (g0 (c0 + 1,aC b0 d0 j0)) (fun k0=>(ab_p n j0 k0).bind fun p0=>g0 (c0 + 1,aC b0 d0 p0)) else some b0)
def cC_p (n:Nat) (a0:Lb Tb):Oa ((Lb Ta) × Int):=
  (if 400 < a0.length then some (([]:Lb Ta),(3:Int)) else (au_p n ([]:Lb (Lb Ta)) a0).bind fun y4=>(if y4 = 0 then (if a0.length = 0 then some (([]:Lb Ta),(4:Int)) else (aI_p n (1:Int)).bind fun j0=>(aI_p n ((a0.length:Nat):Int)).bind fun k0=>(cR_p n j0 k0).bind fun p0=>Option.bind (ao (cC_l1 n a0 p0) n (0,([]:Lb (Tb × Td)))) (fun b0=>(if 400 < b0.length then some (([]:Lb Ta),(3:Int)) else mloop (fun (c0,d0)=>(if d0 = true then some (([]:Lb Ta),(6:Int)) else (bq_p n (ac ((c0.length:Nat):Int))).bind fun q0=>(dK (fun x9 y9=>ah_p n x9 y9) q0 c0).bind fun g0=>some (g0,(0:Int)))) (cO n) n b0 (([]:Lb Ta),false)))) else some (([]:Lb Ta),y4)))
theorem cC_c (n:Nat) {L w} (hL:hl L w) {a0:Lb Tb} {v0_0:Vc} (h0_0:Rep.R w L [v0_0] a0)  {r:(Lb Ta) × Int} (h:cC_p n a0 = some r) :
 Cl 26 #[v0_0] w (aj w fun w' u=>∃ v0_0:Vc,u = .tuple #[v0_0,vI r.2]/\Rep.R w' L [v0_0] r.1):=by
 unfold cC_p at h
 have hS0:=AK w
 refine AL func26 I I I fun _ cs0 hb0=>Ae<|Ag I<|Ag I<|Aa<|Aj<|Ae<|Ac I ?_
 have hl1:=AX h0_0
 refine Ab (AY (xs:=a0) underlying51 I h0_0)<|Ab (FV.gtrN (i:=a0.length) (j:=400) I I)<|Aa<|AW I h (fun c2 h=>?_) (fun c2 h=>?_)
 refine Ae<|Ag I<|Ag I<|Aa<|Ar I ?_
 have hr3:=Bm (α:=Ta) hS0 L
 refine Au hb0 func26 I (.cons (.tmp I) (.cons (.tmp I) .nil)) I ?_
 cases h
 exact ⟨hS0.ag,fun w9 hw9=>⟨vN,I,hS0.kd hr3 hw9⟩⟩
 refine Aq<|Aj<|Ae<|Ac I<|bk h fun y4 hy4 h=>Bj (vI y4) (bd 63) I (e2 I I) (fun w9 hw9=>au_c n (hS0.hL0 hL hw9) (Ah (Rep.nilSlice _ _) hw9) (hS0.kd h0_0 hw9) hy4) I<|Ag I<|Aa<|Ae<|Ac I<|Ab (BB (i:=y4) (j:=0) I I)<|Aa<|BI I h (fun c5 h=>?_) (fun c5 h=>?_)
 refine Aq<|Aj<|Ae<|Ac I<|Ab (AY (xs:=a0) underlying51 I h0_0)<|Ab (FV.eqlN (i:=a0.length) (j:=0) I I)<|Aa<|AW I h (fun c6 h=>?_) (fun c6 h=>?_)
 refine Ae<|Ag I<|Ag I<|Aa<|Ar I ?_
 have hr7:=Bm (α:=Ta) hS0 L
 refine Au hb0 func26 I (.cons (.tmp I) (.cons (.tmp I) .nil)) I ?_
 cases h
 exact ⟨hS0.ag,fun w9 hw9=>⟨vN,I,hS0.kd hr7 hw9⟩⟩
 refine Aq<|Ae<|Ao .plain I (Does.makeMap (κ:=Tb) (ν:=Lb Vc) hS0) fun P6 c0 P1 v6=>?_
 have y5:=MR.at_ (Z:=([]:Lb (Tb × Lb Vc))) (M:=([]:Lb (Tb × Td))) P1 L trivial
 refine Ab (AS (vs:=[.map (some c0)]) (u:=.agg #[.map (some c0),.bool false]) (e1 I) (fun w9=>by kernel_rfl))<|RG.bx P1 I I fun Q6 x0 Q1 F3=>Ag I<|Aa<|Ae<|bk h fun I5 p5 h=>jE (bd 71) I (e1 I) (fun w9 hw9=>aI_c n (Q1.hL hL hw9)  p5) I fun R6 I6 k4 ⟨E6,F6,hu_,P4,R4⟩=>?_
 subst hu_
 obtain ⟨g1,G3⟩:=Q1.agr k4
 refine Ac I<|Ab (AY (xs:=a0) underlying51 I (AG h0_0 g1))<|bk h fun J5 q5 h=>jE (bd 71) I (e1 I) (fun w9 hw9=>aI_c n (g1.hL hL hw9)  q5) I fun Z6 J6 p4 ⟨G6,H6,hu_,W4,X4⟩=>?_
 subst hu_
 obtain ⟨R1,v1⟩:=g1.agr p4
 refine bk h fun b0 u5 h=>jE (bd 90) I (e2 I I) (fun w9 hw9=>cR_c n (R1.hL hL hw9) I5 (Ah (Af P4 v1) hw9) (Ah (Af R4 v1) hw9) J5 (Ah W4 hw9) (Ah X4 hw9) u5) I fun q7 M6 s4 ⟨s0,t0,hu_,E1,F1⟩=>?_
 subst hu_
 obtain ⟨q3,M3⟩:=R1.agr s4
 refine RG.nl [.bool false,vN,.bool false,vN] q3 fun s7 D0 s3 P0=>AT [.bool b0.fj.fc,s0,.bool b0.fh.fc,t0] s3 .hd (o4 I (Az (Af E1 P0)) I (Az (Af F1 P0))) fun t7 X1 y1=>Aa<|Aj<|Ae<|Ac I<|Ab (AY (xs:=a0) underlying51 I (AG h0_0 X1))<|Ac I<|Aa<|Av ?_
 obtain ⟨D6,K4,B4⟩:=am h
 refine BR (α:=Nat × (Lb (Tb × Td)) × (Lb (Tb × Lb Vc))) (fun ⟨q0,y0,d0⟩=>[(5,vP x0),(6,vP D0),(28,v0_0),(29,vn a0.length),(30,vn q0)]) (fun ⟨q0,y0,d0⟩=>[.cells D0 [.bool b0.fj.fc,s0,.bool b0.fh.fc,t0] 109,.cells x0 [.map (some c0),.bool false] 126,.obj c0 (ay d0)]) (fun ⟨q0,y0,d0⟩ J2=>MR J2 (bl [.cells D0 [.bool b0.fj.fc,s0,.bool b0.fh.fc,t0] 109,.cells x0 [.map (some c0),.bool false] 126,.obj c0 (ay d0)] ++ L) d0 y0) (fun ⟨q0,y0,d0⟩=>(q0,y0)) (0,([]:Lb (Tb × Td)),([]:Lb (Tb × Lb Vc))) K4 X1 (BM y5 (Tt F3 (Tt G3 (Tt v1 (Tt M3 (Tt P0 y1)))))) ?_
 rintro P5 ⟨q0,y0,d0⟩ J2 K1 A0 X0 R0 h
 unfold cC_l1 at h
 try dsimp only at h
 refine Ae<|Ab (AU (i:=q0) (j:=a0.length) I I)<|Aa<|Aj<|AW I h (fun P2 h=>?_) (fun P2 h=>?_)
 refine Aq<|Aj<|Av<|Ae<|bk h fun p0 g5 h=>?_
 obtain ⟨K5,d6,z4,D4,j6,Q4,G4⟩:=Be (AG h0_0 A0) g5
 obtain rfl:=dp Q4
 refine Ab (Bf 16 q0 I z4 I I D4)<|Ab (AA I G4)<|RG.nl zL A0 fun U6 U5 X2 Y1=>AT (ab p0) X2 .hd (ai I) fun V6 U0 Z1=>Aa<|du 6 fun z0 I0=>Rv 0 z0 I I0 (fun _=>Al I)<|Rv 1 z0 I I0 (fun _=>Bu I)<|Rv 2 z0 I I0 (fun _=>Bh 0 I)<|Rx 3 64 z0 I I0 (Bn I ((U0.memA .t2) 0 _ I))<|Rx 4 64 z0 I I0 (AA I (U0.memA .hd))<|Rx 5 64 z0 I I0 (AA I (U0.memA .t1))<|BJ (i:=6) (rk z0) (RO.enterPT (m' :=127) (fst:=[]) (cap:=[]) (vs:=[.map (some c0),.agg ((ab p0)).toArray,.agg #[.bool b0.fj.fc,s0,.bool b0.fh.fc,t0]]) (sk z0) I I .plain (bd 88) func88 I I I I (e3 I I I) I (fun _ k6 u2 A6=>?_))
 refine Ae<|RG.bx U0 I I fun W6 V5 Y2 b2=>RG.bx Y2 I I fun X6 W5 K0 d2=>Aa<|Aj<|Ae<|Ac I<|Ab (AA I (K0.memA .t1)) ?_
 have C1:=Tt Y1 (Tt Z1 (Tt b2 d2))
 have H4:=BM R0 C1
 rcases MR.get p0 H4 with ⟨B1,G1⟩ | ⟨p6,H1,G1,B1,U4⟩
 have h:=cQ h B1
 refine Ab (FV.lookupK (kv:=p0) (q:=false) ar K0 .t5 underlying124 (z:=.agg #[.bool false,vN,.bool false,vN]) I I I (.inl ⟨G1,I,I⟩))<|Ac I<|Ab (Ai I I)<|Ab (Ai I I)<|RG.nl [.bool false,vN,.bool false,vN] K0 fun Y6 X5 Z2 H3=>AT [.bool false,vN,.bool false,vN] Z2 .hd (ai I) fun b7 j1 I3=>Ag I<|Aa<|Ae<|Ac I<|Aa<|Bv I<|Aq<|Am<|Ac I<|Ab (AA I (j1.memA .t2))<|Ab (AA I (j1.memA .t1)) ?_
 have D1:=Tt C1 (Tt H3 I3)
 have x2:=Tt P0 (Tt y1 (Tt X0 D1))
 refine RG.now .plain (BK (kv:=p0) (vv:=[.bool b0.fj.fc,s0,.bool b0.fh.fc,t0]) ar j1 .t6 underlying124 I I I) fun c7 b3 g2=>Aa<|MX.fin I<|Au (u:=.tuple #[]) u2 func88 I .nil I<|AN (dk z0)<|Aw<|Am<|Ab (Bc (i:=q0) (j:=1) I I (by omega))<|Ac I<|Aa ?_
 obtain ⟨c3,j2⟩:=AB b3 .d4
 exact K1 (q0 + 1,aC y0 p0 b0,(aC d0 p0 [.bool b0.fj.fc,s0,.bool b0.fh.fc,t0])) c3 (Tt X0 (Tt D1 (Tt g2 j2))) (BM (MR.set (k:=p0) (c:=[.bool b0.fj.fc,s0,.bool b0.fh.fc,t0]) (y:=b0) (ck b0.fj (Af E1 x2) b0.fh (Af F1 x2)) (BM R0 D1)) (Tt g2 j2)) h
 have h:=cN h B1
 obtain ⟨A5,B5,rfl,B2,C2⟩:=cF U4
 refine Ab (FV.lookupK (kv:=p0) (q:=true) ar K0 .t5 underlying124 (z:=.agg #[.bool false,vN,.bool false,vN]) I I I (.inr ⟨_,G1,I,I⟩))<|Ac I<|Ab (Ai I I)<|Ab (Ai I I)<|RG.nl [.bool false,vN,.bool false,vN] K0 fun d7 Y5 g3 H0=>AT [.bool H1.fj.fc,A5,.bool H1.fh.fc,B5] g3 .hd (o4 I (Az (Af B2 H0)) I (Az (Af C2 H0))) fun g7 V0 Y0=>Ag I<|Aa<|Ae<|Ac I<|Aa<|AE I<|Am<|Ab (AA I (V0.memA .t1))<|Ab (AA I (V0.memA .hd))<|bk h fun v0 s5 h=>?_
 have y2:=Tt P0 (Tt y1 (Tt X0 (Tt Y1 (Tt Z1 (Tt b2 (Tt d2 (Tt H0 Y0)))))))
 refine jE (bd 81) I (e2 I I) (fun w9 hw9=>ab_c n (V0.hL hL hw9) b0 (Ah (Af E1 y2) hw9) (Ah (Af F1 y2) hw9) H1 (Ah (Af B2 (Tt H0 Y0)) hw9) (Ah (Af C2 (Tt H0 Y0)) hw9) s5) I fun j7 K6 q4 ⟨Z0,b1,hu_,D2,E2⟩=>?_
 subst hu_
 obtain ⟨j3,J3⟩:=V0.agr q4
 refine AT [.bool v0.fj.fc,Z0,.bool v0.fh.fc,b1] j3 .t1 (o4 I (Az D2) I (Az E2)) fun k7 k1 x1=>Aa<|Am<|Ac I<|Ab (AA I (k1.memA .t2))<|Ab (AA I (k1.memA .t1)) ?_
 have z2:=Tt C1 (Tt H0 (Tt Y0 (Tt J3 x1)))
 refine RG.now .plain (BK (kv:=p0) (vv:=[.bool v0.fj.fc,Z0,.bool v0.fh.fc,b1]) ar k1 .t6 underlying124 I I I) fun p7 k3 k2=>Aa<|MX.fin I<|Au (u:=.tuple #[]) u2 func88 I .nil I<|AN (dk z0)<|Aw<|Am<|Ab (Bc (i:=q0) (j:=1) I I (by omega))<|Ac I<|Aa ?_
 obtain ⟨p3,p2⟩:=AB k3 .d4
 exact K1 (q0 + 1,aC y0 p0 v0,(aC d0 p0 [.bool v0.fj.fc,Z0,.bool v0.fh.fc,b1])) p3 (Tt X0 (Tt z2 (Tt k2 p2))) (BM (MR.set (k:=p0) (c:=[.bool v0.fj.fc,Z0,.bool v0.fh.fc,b1]) (y:=v0) (ck v0.fj (Af D2 x1) v0.fh (Af E2 x1)) (BM R0 z2)) (Tt k2 p2)) h
 refine Ba I ?_
 have h:=B4 _ h
 try dsimp only at h
 refine Ae<|Ac I<|BD (fst:=[]) (cap:=[]) (vs:=[vP x0]) .plain (bd 87) func87 I I I I (e1 I) I fun q6 A1 B6=>Ae<|Ag I<|Ag I<|Aa<|Aj<|Ae<|Ac I<|Ab (Bu I)<|Bk 0 I<|Bd I ((A0.memA .t1) 0 _ I)<|Ab (FV.as (FV.len_map (D:=d0) A0 .t2 underlying124 I) (congrArg (fun n9:Nat=>Value.int .i64 (n9:Int)) (MR.len R0)))<|Ab (FV.gtrN (i:=y0.length) (j:=400) I I)<|Aa<|AW I h (fun Q2 h=>?_) (fun Q2 h=>?_)
 refine Ae<|Ag I<|Ag I<|Aa<|Ar I<|Au (u:=.tuple #[vN,vI 3]) A1 func87 I (.cons (.tmp I) (.cons (.tmp I) .nil)) I<|Ab (Ai I I)<|Ab (Ai I I)<|Ag I<|Ag I<|Aa<|Ar I ?_
 have V4:=Bm (α:=Ta) A0 L
 refine Au hb0 func26 I (.cons (.tmp I) (.cons (.tmp I) .nil)) I ?_
 cases h
 exact ⟨A0.ag,fun w9 hw9=>⟨vN,I,A0.kd V4 hw9⟩⟩
 refine Aq<|Ae<|Ag I<|Aa<|Aj<|Ae<|Ac I<|Ab (Bu I)<|Bk 0 I<|Bd I ((A0.memA .t1) 0 _ I)<|Ao .plain I (Does.range (D:=d0) A0 .t2 underlying124 I) fun F5 G0 U1 K3=>Aa<|Av ?_
 have V1:=U1.nilRow 37 (Rep.size Ta)
 refine MX.mloop (α:=(Lb Ta) × Bool × Vc × (Lb Vc) × (Array Nat)) (fun ⟨u0,B0,k0,E0,C0⟩=>[(0,vP x0),(4,k0),(19,vP G0)]) (fun I2 ⟨u0,B0,k0,E0,C0⟩ c1=>St w c1 [rr w 37 Ta k0 u0.length E0,.obj G0 (aD c0 d0.length C0),.cells D0 [.bool b0.fj.fc,s0,.bool b0.fh.fc,t0] 109,.cells x0 [.map (some c0),.bool B0] 126,.obj c0 (ay d0)]/\Tr F5 [rr w 37 Ta vN (([]:Lb Ta).length) [],.obj G0 (aD c0 d0.length #[]),.cells D0 [.bool b0.fj.fc,s0,.bool b0.fh.fc,t0] 109,.cells x0 [.map (some c0),.bool false] 126,.obj c0 (ay d0)] c1 [rr w 37 Ta k0 u0.length E0,.obj G0 (aD c0 d0.length C0),.cells D0 [.bool b0.fj.fc,s0,.bool b0.fh.fc,t0] 109,.cells x0 [.map (some c0),.bool B0] 126,.obj c0 (ay d0)]/\Cells c1 (bl [rr w 37 Ta k0 u0.length E0,.obj G0 (aD c0 d0.length C0),.cells D0 [.bool b0.fj.fc,s0,.bool b0.fh.fc,t0] 109,.cells x0 [.map (some c0),.bool B0] 126,.obj c0 (ay d0)] ++ L) E0 u0/\left y0 C0 = I2) (fun ⟨u0,B0,k0,E0,C0⟩=>(u0,B0)) (([]:Lb Ta),false,vN,[],#[]) h ⟨rfl,rfl,rfl,trivial⟩ ⟨V1,BO _ _,(AJ (cs:=[]) (xs:=([]:Lb Ta)) V1 L (AR _ _)),(cE _)⟩ ?_
 rintro I2 ⟨u0,B0,k0,E0,C0⟩ c1 Q5 W2 ⟨u3,q2,v2,E4⟩ I4 x4
 refine Ae<|RG.nextR (W:=d0) (BM R0 (Tt K3 (Tt (BT U1 37 (Rep.size Ta)) q2))) u3 .t4 (fun _=>.t1) I I E4 (fun u7 J4 F0 P3=>?_) (fun v7 H2 g0 s6 z5 C4 Y4 M4 F4 W1 Q3=>?_)
 have h:=I4 J4
 try dsimp only at h
 refine Ab (Ai I I)<|Aa<|Aj<|Bv I<|Ba I<|Aj<|Ae<|Ac I<|Ab (Bu I)<|Bk 1 I<|Bd I ((F0.memA .t3) 1 _ I)<|Aa<|MX.ifb I h (fun R2 h=>?_) (fun R2 h=>?_)
 refine Ae<|Ag I<|Ag I<|Aa<|Ar I<|Au (u:=.tuple #[vN,vI 6]) A1 func87 I (.cons (.tmp I) (.cons (.tmp I) .nil)) I<|Ab (Ai I I)<|Ab (Ai I I)<|Ag I<|Ag I<|Aa<|Ar I ?_
 have Z4:=Bm (α:=Ta) F0 L
 refine Au hb0 func26 I (.cons (.tmp I) (.cons (.tmp I) .nil)) I ?_
 cases h
 exact ⟨F0.ag,fun w9 hw9=>⟨vN,I,F0.kd Z4 hw9⟩⟩
 refine Aq<|Ae<|Ac I<|BD (fst:=[]) (cap:=[]) (vs:=[k0,.func (.func 144) #[] #[]]) .plain (bd 143) func143 I I I I (e2 I I) I fun u6 u4 C6=>Ae<|Ac I ?_
 have z6:u0.length <= 4294967296:=St.rowLe (α:=Ta) F0 .hd
 obtain ⟨M5,g6,A4⟩:=St.rowV (α:=Ta) F0 .hd
 refine Ab (FV.lenV underlying24 I A4)<|Ag I<|Aa<|Am<|Ac I<|Ac I<|Ac I<|Ab (FV.convU (i:=((u0.length:Nat):Int)) underlying3 underlying193 I)<|bk h fun M2 v5 h=>Bj (vI M2) (bd 174) I (e1 I) (fun w9 hw9=>bq_c n (F0.hL0 hL hw9) (ac ((u0.length:Nat):Int)) v5) I<|Ac I<|bk h fun K2 j5 h=>RG.sort (enc:=av) (ρ:=Tryz.srt173_ren) (c:=(fun x9 y9=>ah_p n x9 y9)) (li:=M2) j5 I (fun _ _ _ _ h9=>aF h9) (fun w9 L9 z9=>aS (w:=w9) (L:=L9) z9.fm z9.fP) Tryz.srt173 (fun w9=>Tryz.isAgg37 w9) (fun w9=>Tryz.sizeOf37 w9) (enters_of func144 I I) (fun x9 y9 r9 w9 h9=>ah_c n (L:=[]) (w:=w9) (fun _ h8=>nomatch h8) x9 y9 h9) .plain (bd 173) I (e5 I I I I I) I F0 (AO v2 P3) .hd fun G5 W0 x6=>Aa<|MX.fin I<|Au (u:=.tuple #[]) u4 func143 I .nil I<|Aa<|Ae<|Ac I<|Ag I<|Ag I<|Aa<|Ar I<|Au (u:=.tuple #[k0,vI 0]) A1 func87 I (.cons (.tmp I) (.cons (.tmp I) .nil)) I<|Ab (Ai I I)<|Ab (Ai I I)<|Ag I<|Ag I<|Aa<|Ar I ?_
 have p1:=Bw W0 .hd
 have y6:=Bx W0 .hd
 have b5:=By (α:=Ta) (v:=k0) (xs:=K2) p1 L (Bg (α:=Ta) W0 .hd (AJ W0 L (bF (α:=Ta) (enc:=av) (fun w9 L9 z9=>aS (w:=w9) (L:=L9) z9.fm z9.fP) G5 _ K2)) hL)
 refine Au hb0 func26 I (.cons (.tmp I) (.cons (.tmp I) .nil)) I ?_
 cases h
 exact ⟨p1.ag,fun w9 hw9=>⟨k0,I,p1.kd b5 hw9⟩⟩
 obtain ⟨C5,D5,rfl,F2,G2⟩:=cF Y4
 have h:=x4 _ _ M4
 unfold cO at h
 try dsimp only at h
 refine Ab (Ai I I)<|Aa<|Aj<|AE I<|Aq<|Av<|Ae<|Ab (FV.entry (D:=d0) W1 .t4 .t1 C4 I)<|Ab (Ai I I)<|Ab (Ai I I)<|RG.nl zL W1 fun x7 I1 v3 R3=>RG.nl [.bool false,vN,.bool false,vN] v3 fun y7 Z5 x3 U3=>AT (ab g0.1) x3 .t1 (ai I) fun z7 y3 V3=>?_
 have Q0:=Tt Q3 (Tt R3 (Tt U3 V3))
 refine AT [.bool g0.2.fj.fc,C5,.bool g0.2.fh.fc,D5] y3 .hd (o4 I (Az (Af F2 Q0)) I (Az (Af G2 Q0))) fun A7 M0 z1=>Aa<|Ae<|Ab (AA I (M0.memA .hd))<|bk h fun j0 x5 h=>Bj (.tuple #[.agg ((ab j0.1)).toArray,vI j0.2]) (bd 77) I (e1 I) (fun w9 hw9=>ac_c n (M0.hL0 hL hw9) g0.2 (M0.kd (Af F2 (Tt Q0 z1)) hw9) (M0.kd (Af G2 (Tt Q0 z1)) hw9) x5) I<|Ac I<|Ab (Ai I I)<|Ab (Ai I I)<|RG.nl zL M0 fun B7 J1 z3 W3=>AT (ab j0.1) z3 .hd (ai I) fun C7 q1 X3=>Ag I<|Aa<|Aj<|Ae<|Ac I<|Ab (BB (i:=j0.2) (j:=0) I I)<|Aa<|MX.jo (α:=Bool) (fun J0=>[(0,vP x0),(4,k0),(19,vP G0),(5,vP I1),(7,vP J1)]) (fun J0=>[.cells J1 (ab j0.1) 34,.cells I1 (ab g0.1) 34,rr w 37 Ta k0 u0.length E0,.obj G0 (aD c0 d0.length (C0.push H2)),.cells D0 [.bool b0.fj.fc,s0,.bool b0.fh.fc,t0] 109,.cells x0 [.map (some c0),.bool J0] 126,.obj c0 (ay d0)]) (fun J0=>J0) q1 h ?_ ?_
 rintro J0 G7 s1 Y3 h
 try dsimp only at h
 refine Am<|Ac I<|Ab (AA I (s1.memA .t1))<|Ab (AA I (s1.memA .hd))<|Ab (AS (vs:=[.agg ((ab g0.1)).toArray,.agg ((ab j0.1)).toArray]) (u:=.agg ((ab g0.1 ++ ab j0.1)).toArray) (e2 I I) (fun w9=>by kernel_rfl))<|Ao .plain I (AV (α:=Ta) (xs:=([(⟨g0.1,j0.1⟩:Ta)]:Lb Ta)) (vs:=[.agg ((ab g0.1 ++ ab j0.1)).toArray]) (ds' :=(ab g0.1 ++ ab j0.1)) I s1 cJ I (e1 I) (by kernel_rfl) I) fun D7 b6 u1 Z3=>bk h fun H5 k5 h=>?_
 have A2:=Tt Q0 (Tt z1 (Tt W3 (Tt X3 (Tt Y3 Z3))))
 refine BA .plain I (Bl (α:=Ta) (ys:=([(⟨g0.1,j0.1⟩:Ta)]:Lb Ta)) k5 u1 (fun _ _=>.t3) cJ I I (AO v2 A2) (BH (α:=Ta) u1 .hd (AJ (cs:=(ab g0.1 ++ ab j0.1)) (xs:=(([(⟨g0.1,j0.1⟩:Ta)]:Lb Ta):Lb Ta)) u1 L (AC (cs:=(ab g0.1 ++ ab j0.1)) (ds:=[]) (aS g0.1 j0.1) (AR _ _))))) fun E5 E7 ⟨V2,A3,b4,v4⟩=>Ag I<|Aa<|Aw ?_
 obtain ⟨B3,s2⟩:=AB A3 .d3
 exact W2 z5 (H5,J0,E5,V2,(C0.push H2)) _ _ ⟨I,I,I,trivial⟩ ⟨B3,(Tt q2 (Tt A2 (Tt b4 s2))),(AO v4 s2),F4⟩ h
 intro R5 M1 h
 try dsimp only at h
 refine BI I h (fun U2 h=>?_) (fun U2 h=>?_)
 refine Aq ?_
 obtain ⟨C3,c4⟩:=AB q1 (.a0 .d1)
 exact M1 B0 C3 c4 h
 refine Am<|Ac I<|Ab (Bu I)<|Bk 1 I<|RG.now .plain (BS (j:=1) (old:=[.map (some c0),.bool B0]) (news:=[.bool true]) (new' :=[.map (some c0),.bool true]) q1 .t6 I I I I I I (o1 I) I) fun F7 D3 g4=>Aa ?_
 obtain ⟨E3,j4⟩:=AB D3 (.a0 .d1)
 exact M1 true E3 (Tt g4 j4) h
 refine Ae<|Ac I<|Ag I<|Ag I<|Aa<|Ar I ?_
 have d5:=Bm (α:=Ta) hS0 L
 refine Au hb0 func26 I (.cons (.tmp I) (.cons (.tmp I) .nil)) I ?_
 cases h
 exact ⟨hS0.ag,fun w9 hw9=>⟨vN,I,hS0.kd d5 hw9⟩⟩

def cP_l1 (n:Nat) (a0:Lb Ta) (a1:Tb) (z0:Nat × Bool × (Lb Ua) × Bool × (Lb Ua) × Bool × (Lb Ua) × Bool × (Lb Ua) -> Oa (Bool × (Lb Ua) × Bool × (Lb Ua) × Bool × (Lb Ua) × Bool × (Lb Ua))):Nat × Bool × (Lb Ua) × Bool × (Lb Ua) × Bool × (Lb Ua) × Bool × (Lb Ua) -> Oa (Bool × (Lb Ua) × Bool × (Lb Ua) × Bool × (Lb Ua) × Bool × (Lb Ua))
  | (q0,s0,v0,t0,x0,b0,d0,c0,g0)=>(if q0 < a0.length then (a0[q0]?).bind fun u0=>(al_p n u0.fm).bind fun I0=>(al_p n a1).bind fun J0=>(aK_p n I0 J0).bind fun y0=>jn (fun (A0,E0,B0,F0,C0,G0,D0,H0)=>z0 (q0 + 1,A0,E0,B0,F0,C0,G0,D0,H0)) (fun p0=>(if y0 < 0 then (bb_p n u0).bind fun K0=>(ab_p n (⟨(⟨b0,d0⟩:Tf),(⟨c0,g0⟩:Tf)⟩:Td) K0).bind fun j0=>p0 (s0,v0,t0,x0,j0.fj.fc,j0.fj.fk,j0.fh.fc,j0.fh.fk) else (if y0 = 0 then (bb_p n u0).bind fun k0=>p0 (k0.fj.fc,k0.fj.fk,k0.fh.fc,k0.fh.fk,b0,d0,c0,g0) else p0 (s0,v0,t0,x0,b0,d0,c0,g0)))) else some (b0,d0,c0,g0,s0,v0,t0,x0))
def cP_p (n:Nat) (a0:Lb Ta) (a1:Tb):Oa (Tb × Tb × Int):=
  (au_p n ([a0]:Lb (Lb Ta)) ([a1]:Lb Tb)).bind fun d0=>(if d0 = 0 then (aI_p n (0:Int)).bind fun b0=>(aI_p n (0:Int)).bind fun c0=>Option.bind (ao (cP_l1 n a0 a1) n (0,c0.fj.fc,c0.fj.fk,c0.fh.fc,c0.fh.fk,b0.fj.fc,b0.fj.fk,b0.fh.fc,b0.fh.fk)) (fun (q0,v0,s0,x0,k0,t0,p0,u0)=>(ac_p n (⟨(⟨q0,v0⟩:Tf),(⟨s0,x0⟩:Tf)⟩:Td)).bind fun g0=>(ac_p n (⟨(⟨k0,t0⟩:Tf),(⟨p0,u0⟩:Tf)⟩:Td)).bind fun j0=>(if g0.2 = 0 then (if j0.2 = 0 then some (g0.1,j0.1,(0:Int)) else some ((⟨(0,0,0,0,0,0,0,0),(0,0,0,0,0,0,0,0)⟩:Tb),(⟨(0,0,0,0,0,0,0,0),(0,0,0,0,0,0,0,0)⟩:Tb),(6:Int))) else some ((⟨(0,0,0,0,0,0,0,0),(0,0,0,0,0,0,0,0)⟩:Tb),(⟨(0,0,0,0,0,0,0,0),(0,0,0,0,0,0,0,0)⟩:Tb),(6:Int)))) else some ((⟨(0,0,0,0,0,0,0,0),(0,0,0,0,0,0,0,0)⟩:Tb),(⟨(0,0,0,0,0,0,0,0),(0,0,0,0,0,0,0,0)⟩:Tb),d0))
theorem cP_c (n:Nat) {L w} (hL:hl L w) {a0:Lb Ta} {v0_0:Vc} (h0_0:Rep.R w L [v0_0] a0) (a1:Tb)  {r:Tb × Tb × Int} (h:cP_p n a0 a1 = some r) :
 Cl 27 #[v0_0,.agg ((ab a1)).toArray] w (aj w fun _ u=>u = .tuple #[.agg ((ab r.1)).toArray,.agg ((ab r.2.1)).toArray,vI r.2.2]):=by
 unfold cP_p at h
 refine AL func27 I I I fun _ cs0 hb0=>Ae<|RG.bx (AK w) I I fun D7 g0 X3 J6=>RG.nl zL X3 fun E7 b0 Y3 K6=>RG.nl zL Y3 fun G7 c0 J2 Q6=>Ag I<|Aa<|Aj<|Ae<|Ac I ?_
 obtain ⟨z6,G6,U5,_⟩:=Bi (AG h0_0 J2)
 refine Ao .plain I (AV (α:=Lb Ta) (xs:=([a0]:Lb (Lb Ta))) (vs:=[v0_0]) (ds' :=[v0_0]) I J2 mc I (e1 I) (by rw [U5]; try kernel_rfl) I) fun H7 D6 H1 V6=>Ab (AA I (H1.memA .t3))<|Ao .plain I (AV (α:=Tb) (xs:=([a1]:Lb Tb)) (vs:=[.agg ((ab a1)).toArray]) (ds' :=(ab a1)) I H1 iZ I (e1 I) (by kernel_rfl) I) fun J7 E6 B0 W4=>bk h fun D2 W5 h=>Bj (vI D2) (bd 63) I (e2 I I) (fun w9 hw9=>au_c n (B0.hL0 hL hw9) (Ah (St.lend (α:=Lb Ta) (L:=L) B0 .t1 (AO (AJ (cs:=[v0_0]) (xs:=(([a0]:Lb (Lb Ta)):Lb (Lb Ta))) H1 L (AC (cs:=[v0_0]) (ds:=[]) (AG h0_0 H1) (AR _ _))) W4) hL) hw9) (Ah (St.lend (α:=Tb) (L:=L) B0 .hd (AJ (cs:=(ab a1)) (xs:=(([a1]:Lb Tb):Lb Tb)) B0 L (AC (cs:=(ab a1)) (ds:=[]) (dn a1.fN a1.fD) (AR _ _))) hL) hw9) W5) I<|Ag I<|Aa<|Ae<|Ac I<|Ab (BB (i:=D2) (j:=0) I I)<|Aa<|BI I h (fun M3 h=>?_) (fun M3 h=>?_)
 refine Aq<|Ae<|bk h fun s1 X5 h=>jE (bd 71) I (e1 I) (fun w9 hw9=>aI_c n (B0.hL hL hw9)  X5) I fun M7 v7 p5 ⟨D3,E3,hu_,k3,p3⟩=>?_
 subst hu_
 obtain ⟨K2,Y6⟩:=B0.agr p5
 refine bk h fun u1 c6 h=>jE (bd 71) I (e1 I) (fun w9 hw9=>aI_c n (K2.hL hL hw9)  c6) I fun W7 z7 u5 ⟨F3,G3,hu_,u3,v3⟩=>?_
 subst hu_
 obtain ⟨z4,x2⟩:=K2.agr u5
 refine RG.nl [.bool false,vN,.bool false,vN] z4 fun d8 u0 J4 Z2=>RG.nl [.bool false,vN,.bool false,vN] J4 fun q8 v0 M4 b3=>?_
 have j3:=Tt x2 (Tt Z2 b3)
 refine AT [.bool s1.fj.fc,D3,.bool s1.fh.fc,E3] M4 .t1 (o4 I (Az (Af k3 j3)) I (Az (Af p3 j3))) fun s8 P4 j5=>?_
 have z2:=Tt Z2 (Tt b3 j5)
 refine AT [.bool u1.fj.fc,F3,.bool u1.fh.fc,G3] P4 .hd (o4 I (Az (Af u3 z2)) I (Az (Af v3 z2))) fun t8 Q2 k5=>Aa<|Aj<|Ae<|Ac I ?_
 have c3:=AG h0_0 Q2
 have g7:=AX c3
 refine Ab (AY (xs:=a0) underlying24 I c3)<|Ac I<|Aa<|Av ?_
 obtain ⟨s4,Z4⟩:=AB Q2 (.a0 (.a0 .d2))
 have X1:=Tt z2 (Tt k5 Z4)
 obtain ⟨j7,D5,A5⟩:=am h
 refine BR (α:=Nat × Bool × (Lb Ua) × Bool × (Lb Ua) × Bool × (Lb Ua) × Bool × (Lb Ua) × Vc × Vc × Vc × Vc) (fun ⟨C0,q0,W0,s0,X0,k0,U0,p0,V0,x0,y0,z0,A0⟩=>[(3,vP g0),(4,vP b0),(5,vP c0),(8,vP u0),(9,vP v0),(28,v0_0),(29,vn a0.length),(30,vn C0)]) (fun ⟨C0,q0,W0,s0,X0,k0,U0,p0,V0,x0,y0,z0,A0⟩=>[.cells v0 [.bool q0,x0,.bool s0,y0] 109,.cells u0 [.bool k0,z0,.bool p0,A0] 109,.cells c0 zL 34,.cells b0 zL 34,.cells g0 (ab a1) 34]) (fun ⟨C0,q0,W0,s0,X0,k0,U0,p0,V0,x0,y0,z0,A0⟩ A1=>Rep.R A1 (bl [.cells v0 [.bool q0,x0,.bool s0,y0] 109,.cells u0 [.bool k0,z0,.bool p0,A0] 109,.cells c0 zL 34,.cells b0 zL 34,.cells g0 (ab a1) 34] ++ L) [x0] W0/\Rep.R A1 (bl [.cells v0 [.bool q0,x0,.bool s0,y0] 109,.cells u0 [.bool k0,z0,.bool p0,A0] 109,.cells c0 zL 34,.cells b0 zL 34,.cells g0 (ab a1) 34] ++ L) [y0] X0/\Rep.R A1 (bl [.cells v0 [.bool q0,x0,.bool s0,y0] 109,.cells u0 [.bool k0,z0,.bool p0,A0] 109,.cells c0 zL 34,.cells b0 zL 34,.cells g0 (ab a1) 34] ++ L) [z0] U0/\Rep.R A1 (bl [.cells v0 [.bool q0,x0,.bool s0,y0] 109,.cells u0 [.bool k0,z0,.bool p0,A0] 109,.cells c0 zL 34,.cells b0 zL 34,.cells g0 (ab a1) 34] ++ L) [A0] V0) (fun ⟨C0,q0,W0,s0,X0,k0,U0,p0,V0,x0,y0,z0,A0⟩=>(C0,q0,W0,s0,X0,k0,U0,p0,V0)) (0,u1.fj.fc,u1.fj.fk,u1.fh.fc,u1.fh.fk,s1.fj.fc,s1.fj.fk,s1.fh.fc,s1.fh.fk,F3,G3,D3,E3) D5 s4 ⟨(Af u3 X1),(Af v3 X1),(Af k3 (Tt x2 X1)),(Af p3 (Tt x2 X1))⟩ ?_
 rintro B6 ⟨C0,q0,W0,s0,X0,k0,U0,p0,V0,x0,y0,z0,A0⟩ A1 W3 b1 b5 ⟨A2,B2,Z1,b2⟩ h
 unfold cP_l1 at h
 try dsimp only at h
 refine Ae<|Ab (AU (i:=C0) (j:=a0.length) I I)<|Aa<|Aj<|AW I h (fun P3 h=>?_) (fun P3 h=>?_)
 refine Aq<|Aj<|Av<|Ae<|bk h fun C1 V5 h=>?_
 obtain ⟨A6,H6,z5,B5,I6,E5,C5⟩:=Be (AG h0_0 b1) V5
 obtain rfl:=aF E5
 refine Ab (Bf 32 C0 I z5 I I B5)<|Ab (AA I C5)<|RG.nl [vW 0,vW 0,vW 0,vW 0,vW 0,vW 0,vW 0,vW 0,vW 0,vW 0,vW 0,vW 0,vW 0,vW 0,vW 0,vW 0,vW 0,vW 0,vW 0,vW 0,vW 0,vW 0,vW 0,vW 0,vW 0,vW 0,vW 0,vW 0,vW 0,vW 0,vW 0,vW 0] b1 fun P7 F6 u4 M1=>AT (av C1) u4 .hd (ai I) fun Q7 K1 P1=>Aa<|Aj<|du 7 fun Z0 z1=>Rv 0 Z0 I z1 (fun _=>Bh 0 I)<|Rx 1 116 Z0 I z1 (AQ (cs:=(ab C1.fm)) I I (ae (K1.memA .hd) 0 16))<|Rx 3 112 Z0 I z1 (AA I (K1.memA .t5))<|bk h fun v6 Y5 h=>AZ 2 15 Z0 I .plain (bd 68) I (e1 I) (fun w9 hw9=>al_c n (K1.hL hL hw9) C1.fm Y5) I fun R7 x7 q5 ⟨k7,p7,hu_,F5,G5⟩=>?_
 subst hu_
 obtain ⟨M2,Q1⟩:=K1.agr q5
 refine bk h fun x6 Z5 h=>AZ 4 31 Z0 I .plain (bd 68) I (e1 I) (fun w9 hw9=>al_c n (M2.hL hL hw9) a1 Z5) I fun U7 y7 s5 ⟨q7,s7,hu_,H5,I5⟩=>?_
 subst hu_
 obtain ⟨j0,p1⟩:=M2.agr s5
 refine bk h fun E2 b6 h=>RD.cq 5 63 64 (vI E2) Z0 I z1 (bd 69) I (e2 I I) (fun w9 hw9=>aK_c n (j0.hL0 hL hw9) v6 (j0.kd (Af F5 p1) hw9) (j0.kd (Af G5 p1) hw9) x6 (j0.kd H5 hw9) (j0.kd I5 hw9) b6) I<|Rv 6 Z0 I z1 (fun _=>Bo I)<|AN (dk Z0)<|Av<|Ae<|Ac I<|Ab (FV.lss (i:=E2) (j:=0) I I)<|Ag I<|Aa<|MX.jf (α:=Bool × (Lb Ua) × Bool × (Lb Ua) × Bool × (Lb Ua) × Bool × (Lb Ua) × Vc × Vc × Vc × Vc) (fun ⟨E0,c1,F0,g1,G0,j1,H0,k1,I0,J0,K0,M0⟩=>[(3,vP g0),(4,vP b0),(5,vP c0),(8,vP u0),(9,vP v0),(28,v0_0),(29,vn a0.length),(30,vn C0)]) (fun ⟨E0,c1,F0,g1,G0,j1,H0,k1,I0,J0,K0,M0⟩=>[.cells v0 [.bool E0,I0,.bool F0,J0] 109,.cells u0 [.bool G0,K0,.bool H0,M0] 109,.cells c0 zL 34,.cells b0 zL 34,.cells g0 (ab a1) 34]) (fun ⟨E0,c1,F0,g1,G0,j1,H0,k1,I0,J0,K0,M0⟩ B1=>Rep.R B1 (bl [.cells v0 [.bool E0,I0,.bool F0,J0] 109,.cells u0 [.bool G0,K0,.bool H0,M0] 109,.cells c0 zL 34,.cells b0 zL 34,.cells g0 (ab a1) 34] ++ L) [I0] c1/\Rep.R B1 (bl [.cells v0 [.bool E0,I0,.bool F0,J0] 109,.cells u0 [.bool G0,K0,.bool H0,M0] 109,.cells c0 zL 34,.cells b0 zL 34,.cells g0 (ab a1) 34] ++ L) [J0] g1/\Rep.R B1 (bl [.cells v0 [.bool E0,I0,.bool F0,J0] 109,.cells u0 [.bool G0,K0,.bool H0,M0] 109,.cells c0 zL 34,.cells b0 zL 34,.cells g0 (ab a1) 34] ++ L) [K0] j1/\Rep.R B1 (bl [.cells v0 [.bool E0,I0,.bool F0,J0] 109,.cells u0 [.bool G0,K0,.bool H0,M0] 109,.cells c0 zL 34,.cells b0 zL 34,.cells g0 (ab a1) 34] ++ L) [M0] k1) (fun ⟨E0,c1,F0,g1,G0,j1,H0,k1,I0,J0,K0,M0⟩=>(E0,c1,F0,g1,G0,j1,H0,k1)) j0 h ?_ ?_
 rintro ⟨E0,c1,F0,g1,G0,j1,H0,k1,I0,J0,K0,M0⟩ B1 A4 g5 ⟨J5,K5,M5,P5⟩ h
 try dsimp only at h
 refine Aw<|Aw<|Am<|Ab (Bc (i:=C0) (j:=1) I I (by omega))<|Ac I<|Aa<|W3 (C0 + 1,E0,c1,F0,g1,G0,j1,H0,k1,I0,J0,K0,M0) A4 (Tt b5 (Tt M1 (Tt P1 (Tt Q1 (Tt p1 g5))))) ⟨J5,K5,M5,P5⟩ h
 intro C6 c2 h
 try dsimp only at h
 refine AW I h (fun Q3 h=>?_) (fun Q3 h=>?_)
 refine du 4 fun q1 B3=>Rx 0 24 q1 I B3 (AA I (j0.memA .t2))<|Rx 1 28 q1 I B3 (AA I (j0.memA .hd))<|bk h fun y6 d6 h=>AZ 2 7 q1 I .plain (bd 66) I (e1 I) (fun w9 hw9=>bb_c n (j0.hL hL hw9) C1 d6) I fun X7 A7 v5 ⟨t7,u7,hu_,Q5,R5⟩=>?_
 subst hu_
 obtain ⟨P2,R2⟩:=j0.agr v5
 refine bk h fun v1 g6 h=>?_
 have y2:=Tt M1 (Tt P1 (Tt Q1 (Tt p1 R2)))
 refine AZ 3 15 q1 I .plain (bd 81) I (e2 I I) (fun w9 hw9=>ab_c n (P2.hL hL hw9) (⟨(⟨k0,U0⟩:Tf),(⟨p0,V0⟩:Tf)⟩:Td) (Ah (Af Z1 y2) hw9) (Ah (Af b2 y2) hw9) y6 (Ah Q5 hw9) (Ah R5 hw9) g6) I fun Y7 B7 x5 ⟨H3,I3,hu_,q3,s3⟩=>?_
 subst hu_
 obtain ⟨B4,U2⟩:=P2.agr x5
 refine BC 4 31 q1 I I .plain (AD (news:=[.bool v1.fj.fc,H3,.bool v1.fh.fc,I3]) B4 .t2 I I I I I I (o4 I (Az q3) I (Az s3))) fun Z7 C4 R1=>AN (dk q1) ?_
 obtain ⟨D4,U1⟩:=AB C4 .d1
 have d3:=Tt y2 (Tt U2 (Tt R1 U1))
 exact c2 (q0,W0,s0,X0,v1.fj.fc,v1.fj.fk,v1.fh.fc,v1.fh.fk,x0,y0,H3,I3) D4 (Tt R2 (Tt U2 (Tt R1 U1))) ⟨(Af A2 d3),(Af B2 d3),(Af q3 (Tt R1 U1)),(Af s3 (Tt R1 U1))⟩ h
 refine Ae<|Ac I<|Ab (FV.eql (i:=E2) (j:=0) I I)<|Ag I<|Aa<|AW I h (fun R3 h=>?_) (fun R3 h=>?_)
 refine Am<|Ab (AA I (j0.memA .hd))<|bk h fun x1 j6 h=>jE (bd 66) I (e1 I) (fun w9 hw9=>bb_c n (j0.hL hL hw9) C1 j6) I fun b8 C7 y5 ⟨J3,K3,hu_,x3,y3⟩=>?_
 subst hu_
 obtain ⟨E4,V2⟩:=j0.agr y5
 refine AT [.bool x1.fj.fc,J3,.bool x1.fh.fc,K3] E4 .t1 (o4 I (Az x3) I (Az y3)) fun c8 F4 V1=>Aa ?_
 obtain ⟨G4,W1⟩:=AB F4 .d1
 have g3:=Tt M1 (Tt P1 (Tt Q1 (Tt p1 (Tt V2 (Tt V1 W1)))))
 exact c2 (x1.fj.fc,x1.fj.fk,x1.fh.fc,x1.fh.fk,k0,U0,p0,V0,J3,K3,z0,A0) G4 (Tt V2 (Tt V1 W1)) ⟨(Af x3 (Tt V1 W1)),(Af y3 (Tt V1 W1)),(Af Z1 g3),(Af b2 g3)⟩ h
 refine Aq ?_
 obtain ⟨H4,W2⟩:=AB j0 .d1
 have Y1:=Tt M1 (Tt P1 (Tt Q1 (Tt p1 W2)))
 exact c2 (q0,W0,s0,X0,k0,U0,p0,V0,x0,y0,z0,A0) H4 W2 ⟨(Af A2 Y1),(Af B2 Y1),(Af Z1 Y1),(Af b2 Y1)⟩ h
 refine Ba I ?_
 have h:=A5 _ h
 try dsimp only at h
 refine Ae<|Ab (AA I (b1.memA .t1))<|bk h fun t0 k6 h=>Bj (.tuple #[.agg ((ab t0.1)).toArray,vI t0.2]) (bd 77) I (e1 I) (fun w9 hw9=>ac_c n (b1.hL0 hL hw9) (⟨(⟨k0,U0⟩:Tf),(⟨p0,V0⟩:Tf)⟩:Td) (b1.kd Z1 hw9) (b1.kd b2 hw9) k6) I<|Ac I<|Ab (Ai I I)<|Ab (Ai I I)<|RG.nl zL b1 fun g8 D1 I4 X2=>AT (ab t0.1) I4 .hd (ai I) fun j8 y1 Y2=>Ag I<|Aa<|Ae<|Ab (AA I (y1.memA .t1))<|bk h fun Y0 p6 h=>Bj (.tuple #[.agg ((ab Y0.1)).toArray,vI Y0.2]) (bd 77) I (e1 I) (fun w9 hw9=>ac_c n (y1.hL0 hL hw9) (⟨(⟨q0,W0⟩:Tf),(⟨s0,X0⟩:Tf)⟩:Td) (y1.kd (Af A2 (Tt X2 Y2)) hw9) (y1.kd (Af B2 (Tt X2 Y2)) hw9) p6) I<|Ac I<|Ab (Ai I I)<|Ab (Ai I I)<|RG.nl zL y1 fun k8 E1 K4 c7=>AT (ab Y0.1) K4 .hd (ai I) fun p8 d0 d7=>Ag I<|Aa<|Aj<|Ae<|Ac I<|Ab (BB (i:=t0.2) (j:=0) I I)<|Ac I<|RG.ifn (s:=65) I h (fun U3 h=>?_) (fun U3 h=>?_)
 refine AM (Al I)<|AM (BB (i:=Y0.2) (j:=0) I I)<|Bs I I<|Aa<|BI I h (fun V3 h=>?_) (fun V3 h=>?_)
 refine Aq<|Aj<|du 2 fun R0 C3=>Rx 0 28 R0 I C3 (AA I (d0.memA .t1))<|RD.mo (α:=Unit) (fun ()=>[(4,vP b0),(5,vP c0),(6,vI t0.2),(72,.agg ((ab Y0.1)).toArray)]) (fun ()=>[.cells c0 zL 34,.cells b0 (ab t0.1) 34]) d0 2 7 ?_ ?_
 rintro ⟨⟩ u8 Z3 M6
 try dsimp only
 refine BC 3 15 R0 I I .plain (AD (news:=(ab Y0.1)) Z3 .hd I I I I I I (ai I)) fun F7 g2 P6=>BJ (i:=4) (rk R0) (RO.val (m' :=31) (sk R0) I .plain I (Bo I) ?_)
 refine AN (dk R0)<|Ar I<|Au hb0 func27 I (.cons (.many (cs:=(ab t0.1)) I I (g2.memA .t1)) (.cons (.many (cs:=(ab Y0.1)) I I (g2.memA .hd)) (.cons (.tmp I) .nil))) I ?_
 cases h
 exact g2.gv
 intro F2
 refine BN [1,2] (rk R0) ⟨?_,?_,trivial⟩
 refine RO.val (m' :=3) (sk R0) I .plain I (AA I (d0.memA .hd))<|BC 2 7 R0 I I .plain (AD (news:=(ab t0.1)) d0 .t5 I I I I I I (ai I)) fun q6 F1 q2=>?_
 obtain ⟨b4,Q4⟩:=AB F1 (.a4 (.a4 .done))
 exact F2 () b4 (Tt q2 Q4)
 refine RO.now (m' :=5) (sk R0) I I .plain (AD (news:=(ab t0.1)) d0 .t5 I I I I I I (ai I)) fun q6 F1 q2=>Rx 1 24 R0 I C3 (AA I (F1.memA .hd)) ?_
 obtain ⟨c4,R4⟩:=AB F1 (.a4 (.a4 .done))
 exact F2 () c4 (Tt q2 R4)
 refine Aj<|du 2 fun P0 z3=>Rx 0 28 P0 I z3 (AA I (d0.memA .t5))<|RD.mo (α:=Unit) (fun ()=>[(4,vP b0),(5,vP c0),(13,vP D1),(6,vI t0.2),(14,vP E1),(70,.agg zM)]) (fun ()=>[.cells E1 (ab Y0.1) 34,.cells D1 (ab t0.1) 34,.cells c0 zL 34,.cells b0 zL 34]) d0 2 7 ?_ ?_
 rintro ⟨⟩ v8 d4 R6
 try dsimp only
 refine BC 3 15 P0 I I .plain (AD (news:=zL) d4 .t2 I I I I I I (ai I)) fun I7 j2 U6=>BJ (i:=4) (rk P0) (RO.val (m' :=31) (sk P0) I .plain I (Bo I) ?_)
 refine AN (dk P0)<|Ar I<|Au hb0 func27 I (.cons (.many (cs:=zL) I I (j2.memA .t3)) (.cons (.many (cs:=zL) I I (j2.memA .t2)) (.cons (.tmp I) .nil))) I ?_
 cases h
 exact j2.gv
 intro G2
 refine BN [1,2] (rk P0) ⟨?_,?_,trivial⟩
 refine RO.val (m' :=3) (sk P0) I .plain I (AA I (d0.memA .t4))<|BC 2 7 P0 I I .plain (AD (news:=zL) d0 .t5 I I I I I I (ai I)) fun s6 G1 s2=>?_
 obtain ⟨g4,U4⟩:=AB G1 (.a0 (.a0 (.a2 (.a2 .done))))
 exact G2 () g4 (Tt s2 U4)
 refine RO.now (m' :=5) (sk P0) I I .plain (AD (news:=zL) d0 .t5 I I I I I I (ai I)) fun s6 G1 s2=>Rx 1 24 P0 I z3 (AA I (G1.memA .t4)) ?_
 obtain ⟨j4,V4⟩:=AB G1 (.a0 (.a0 (.a2 (.a2 .done))))
 exact G2 () j4 (Tt s2 V4)
 refine Ap<|Ap<|Br I I<|Aa<|AE I<|Aj<|du 2 fun Q0 A3=>Rx 0 28 Q0 I A3 (AA I (d0.memA .t5))<|RD.mo (α:=Unit) (fun ()=>[(4,vP b0),(5,vP c0),(13,vP D1),(6,vI t0.2),(14,vP E1),(70,.agg zM)]) (fun ()=>[.cells E1 (ab Y0.1) 34,.cells D1 (ab t0.1) 34,.cells c0 zL 34,.cells b0 zL 34]) d0 2 7 ?_ ?_
 rintro ⟨⟩ x8 k4 W6
 try dsimp only
 refine BC 3 15 Q0 I I .plain (AD (news:=zL) k4 .t2 I I I I I I (ai I)) fun K7 k2 X6=>BJ (i:=4) (rk Q0) (RO.val (m' :=31) (sk Q0) I .plain I (Bo I) ?_)
 refine AN (dk Q0)<|Ar I<|Au hb0 func27 I (.cons (.many (cs:=zL) I I (k2.memA .t3)) (.cons (.many (cs:=zL) I I (k2.memA .t2)) (.cons (.tmp I) .nil))) I ?_
 cases h
 exact k2.gv
 intro H2
 refine BN [1,2] (rk Q0) ⟨?_,?_,trivial⟩
 refine RO.val (m' :=3) (sk Q0) I .plain I (AA I (d0.memA .t4))<|BC 2 7 Q0 I I .plain (AD (news:=zL) d0 .t5 I I I I I I (ai I)) fun t6 I1 u2=>?_
 obtain ⟨p4,X4⟩:=AB I1 (.a0 (.a0 (.a2 (.a2 .done))))
 exact H2 () p4 (Tt u2 X4)
 refine RO.now (m' :=5) (sk Q0) I I .plain (AD (news:=zL) d0 .t5 I I I I I I (ai I)) fun t6 I1 u2=>Rx 1 24 Q0 I A3 (AA I (I1.memA .t4)) ?_
 obtain ⟨q4,Y4⟩:=AB I1 (.a0 (.a0 (.a2 (.a2 .done))))
 exact H2 () q4 (Tt u2 Y4)
 refine Aj<|du 3 fun D0 C2=>Rx 0 56 D0 I C2 (AA I (B0.memA .t3))<|Rv 2 D0 I C2 (fun _=>Al I)<|RD.mo (α:=Unit) (fun ()=>[(0,v0_0),(3,vP g0),(4,vP b0),(5,vP c0),(6,vI 0),(25,vI D2),(24,.agg zM)]) (fun ()=>[.cells c0 zL 34,.cells b0 zL 34,.cells g0 (ab a1) 34]) B0 2 15 ?_ ?_
 rintro ⟨⟩ y8 v4 Z6
 try dsimp only
 refine BC 4 31 D0 I I .plain (AD (news:=zL) v4 .hd I I I I I I (ai I)) fun V7 p2 b7=>BJ (i:=5) (rk D0) (RO.val (m' :=63) (sk D0) I .plain I (Bo I) ?_)
 refine AN (dk D0)<|Ar I<|Au hb0 func27 I (.cons (.many (cs:=zL) I I (p2.memA .t1)) (.cons (.many (cs:=zL) I I (p2.memA .hd)) (.cons (.tmp I) .nil))) I ?_
 cases h
 exact p2.gv
 intro I2
 refine BN [1,3] (rk D0) ⟨?_,?_,trivial⟩
 refine RO.val (m' :=7) (sk D0) I .plain I (AA I (B0.memA .t2))<|BC 3 15 D0 I I .plain (AD (news:=zL) B0 .t3 I I I I I I (ai I)) fun u6 J1 v2=>?_
 obtain ⟨x4,c5⟩:=AB J1 .d2
 exact I2 () x4 (Tt v2 c5)
 refine RO.now (m' :=13) (sk D0) I I .plain (AD (news:=zL) B0 .t3 I I I I I I (ai I)) fun u6 J1 v2=>Rx 1 48 D0 I C2 (AA I (J1.memA .t2)) ?_
 obtain ⟨y4,d5⟩:=AB J1 .d2
 exact I2 () y4 (Tt v2 d5)
theorem ex_Ta {a b:Ta} (h0:a.fm.fN.1 = b.fm.fN.1) (h1:a.fm.fN.2.1 = b.fm.fN.2.1) (h2:a.fm.fN.2.2.1 = b.fm.fN.2.2.1) (h3:a.fm.fN.2.2.2.1 = b.fm.fN.2.2.2.1) (h4:a.fm.fN.2.2.2.2.1 = b.fm.fN.2.2.2.2.1) (h5:a.fm.fN.2.2.2.2.2.1 = b.fm.fN.2.2.2.2.2.1) (h6:a.fm.fN.2.2.2.2.2.2.1 = b.fm.fN.2.2.2.2.2.2.1) (h7:a.fm.fN.2.2.2.2.2.2.2 = b.fm.fN.2.2.2.2.2.2.2) (h8:a.fm.fD.1 = b.fm.fD.1) (h9:a.fm.fD.2.1 = b.fm.fD.2.1) (b0:a.fm.fD.2.2.1 = b.fm.fD.2.2.1) (c0:a.fm.fD.2.2.2.1 = b.fm.fD.2.2.2.1) (d0:a.fm.fD.2.2.2.2.1 = b.fm.fD.2.2.2.2.1) (g0:a.fm.fD.2.2.2.2.2.1 = b.fm.fD.2.2.2.2.2.1) (j0:a.fm.fD.2.2.2.2.2.2.1 = b.fm.fD.2.2.2.2.2.2.1) (k0:a.fm.fD.2.2.2.2.2.2.2 = b.fm.fD.2.2.2.2.2.2.2) (p0:a.fP.fN.1 = b.fP.fN.1) (q0:a.fP.fN.2.1 = b.fP.fN.2.1) (s0:a.fP.fN.2.2.1 = b.fP.fN.2.2.1) (t0:a.fP.fN.2.2.2.1 = b.fP.fN.2.2.2.1) (u0:a.fP.fN.2.2.2.2.1 = b.fP.fN.2.2.2.2.1) (v0:a.fP.fN.2.2.2.2.2.1 = b.fP.fN.2.2.2.2.2.1) (x0:a.fP.fN.2.2.2.2.2.2.1 = b.fP.fN.2.2.2.2.2.2.1) (y0:a.fP.fN.2.2.2.2.2.2.2 = b.fP.fN.2.2.2.2.2.2.2) (z0:a.fP.fD.1 = b.fP.fD.1) (A0:a.fP.fD.2.1 = b.fP.fD.2.1) (B0:a.fP.fD.2.2.1 = b.fP.fD.2.2.1) (C0:a.fP.fD.2.2.2.1 = b.fP.fD.2.2.2.1) (D0:a.fP.fD.2.2.2.2.1 = b.fP.fD.2.2.2.2.1) (E0:a.fP.fD.2.2.2.2.2.1 = b.fP.fD.2.2.2.2.2.1) (F0:a.fP.fD.2.2.2.2.2.2.1 = b.fP.fD.2.2.2.2.2.2.1) (G0:a.fP.fD.2.2.2.2.2.2.2 = b.fP.fD.2.2.2.2.2.2.2):a = b:=congr (congrArg Ta.mk (mY (a:=a.fm) (b:=b.fm) h0 h1 h2 h3 h4 h5 h6 h7 h8 h9 b0 c0 d0 g0 j0 k0)) (mY (a:=a.fP) (b:=b.fP) p0 q0 s0 t0 u0 v0 x0 y0 z0 A0 B0 C0 D0 E0 F0 G0)
theorem mt (a b:Ta) (w9:World):(do eqGuard .eql 37 (.tmp 0) (.tmp 0) (.agg #[vU a.fm.fN.1,vU a.fm.fN.2.1,vU a.fm.fN.2.2.1,vU a.fm.fN.2.2.2.1,vU a.fm.fN.2.2.2.2.1,vU a.fm.fN.2.2.2.2.2.1,vU a.fm.fN.2.2.2.2.2.2.1,vU a.fm.fN.2.2.2.2.2.2.2,vU a.fm.fD.1,vU a.fm.fD.2.1,vU a.fm.fD.2.2.1,vU a.fm.fD.2.2.2.1,vU a.fm.fD.2.2.2.2.1,vU a.fm.fD.2.2.2.2.2.1,vU a.fm.fD.2.2.2.2.2.2.1,vU a.fm.fD.2.2.2.2.2.2.2,vU a.fP.fN.1,vU a.fP.fN.2.1,vU a.fP.fN.2.2.1,vU a.fP.fN.2.2.2.1,vU a.fP.fN.2.2.2.2.1,vU a.fP.fN.2.2.2.2.2.1,vU a.fP.fN.2.2.2.2.2.2.1,vU a.fP.fN.2.2.2.2.2.2.2,vU a.fP.fD.1,vU a.fP.fD.2.1,vU a.fP.fD.2.2.1,vU a.fP.fD.2.2.2.1,vU a.fP.fD.2.2.2.2.1,vU a.fP.fD.2.2.2.2.2.1,vU a.fP.fD.2.2.2.2.2.2.1,vU a.fP.fD.2.2.2.2.2.2.2]) (.agg #[vU b.fm.fN.1,vU b.fm.fN.2.1,vU b.fm.fN.2.2.1,vU b.fm.fN.2.2.2.1,vU b.fm.fN.2.2.2.2.1,vU b.fm.fN.2.2.2.2.2.1,vU b.fm.fN.2.2.2.2.2.2.1,vU b.fm.fN.2.2.2.2.2.2.2,vU b.fm.fD.1,vU b.fm.fD.2.1,vU b.fm.fD.2.2.1,vU b.fm.fD.2.2.2.1,vU b.fm.fD.2.2.2.2.1,vU b.fm.fD.2.2.2.2.2.1,vU b.fm.fD.2.2.2.2.2.2.1,vU b.fm.fD.2.2.2.2.2.2.2,vU b.fP.fN.1,vU b.fP.fN.2.1,vU b.fP.fN.2.2.1,vU b.fP.fN.2.2.2.1,vU b.fP.fN.2.2.2.2.1,vU b.fP.fN.2.2.2.2.2.1,vU b.fP.fN.2.2.2.2.2.2.1,vU b.fP.fN.2.2.2.2.2.2.2,vU b.fP.fD.1,vU b.fP.fD.2.1,vU b.fP.fD.2.2.1,vU b.fP.fD.2.2.2.1,vU b.fP.fD.2.2.2.2.1,vU b.fP.fD.2.2.2.2.2.1,vU b.fP.fD.2.2.2.2.2.2.1,vU b.fP.fD.2.2.2.2.2.2.2]); binOp .eql 37 (.agg #[vU a.fm.fN.1,vU a.fm.fN.2.1,vU a.fm.fN.2.2.1,vU a.fm.fN.2.2.2.1,vU a.fm.fN.2.2.2.2.1,vU a.fm.fN.2.2.2.2.2.1,vU a.fm.fN.2.2.2.2.2.2.1,vU a.fm.fN.2.2.2.2.2.2.2,vU a.fm.fD.1,vU a.fm.fD.2.1,vU a.fm.fD.2.2.1,vU a.fm.fD.2.2.2.1,vU a.fm.fD.2.2.2.2.1,vU a.fm.fD.2.2.2.2.2.1,vU a.fm.fD.2.2.2.2.2.2.1,vU a.fm.fD.2.2.2.2.2.2.2,vU a.fP.fN.1,vU a.fP.fN.2.1,vU a.fP.fN.2.2.1,vU a.fP.fN.2.2.2.1,vU a.fP.fN.2.2.2.2.1,vU a.fP.fN.2.2.2.2.2.1,vU a.fP.fN.2.2.2.2.2.2.1,vU a.fP.fN.2.2.2.2.2.2.2,vU a.fP.fD.1,vU a.fP.fD.2.1,vU a.fP.fD.2.2.1,vU a.fP.fD.2.2.2.1,vU a.fP.fD.2.2.2.2.1,vU a.fP.fD.2.2.2.2.2.1,vU a.fP.fD.2.2.2.2.2.2.1,vU a.fP.fD.2.2.2.2.2.2.2]) (.agg #[vU b.fm.fN.1,vU b.fm.fN.2.1,vU b.fm.fN.2.2.1,vU b.fm.fN.2.2.2.1,vU b.fm.fN.2.2.2.2.1,vU b.fm.fN.2.2.2.2.2.1,vU b.fm.fN.2.2.2.2.2.2.1,vU b.fm.fN.2.2.2.2.2.2.2,vU b.fm.fD.1,vU b.fm.fD.2.1,vU b.fm.fD.2.2.1,vU b.fm.fD.2.2.2.1,vU b.fm.fD.2.2.2.2.1,vU b.fm.fD.2.2.2.2.2.1,vU b.fm.fD.2.2.2.2.2.2.1,vU b.fm.fD.2.2.2.2.2.2.2,vU b.fP.fN.1,vU b.fP.fN.2.1,vU b.fP.fN.2.2.1,vU b.fP.fN.2.2.2.1,vU b.fP.fN.2.2.2.2.1,vU b.fP.fN.2.2.2.2.2.1,vU b.fP.fN.2.2.2.2.2.2.1,vU b.fP.fN.2.2.2.2.2.2.2,vU b.fP.fD.1,vU b.fP.fD.2.1,vU b.fP.fD.2.2.1,vU b.fP.fD.2.2.2.1,vU b.fP.fD.2.2.2.2.1,vU b.fP.fD.2.2.2.2.2.1,vU b.fP.fD.2.2.2.2.2.2.1,vU b.fP.fD.2.2.2.2.2.2.2]):Sem Vc).run Tryz.prog w9 = .ok (.bool (decide (a = b))) w9:=
  oS (ks:=[.int .u64,.int .u64,.int .u64,.int .u64,.int .u64,.int .u64,.int .u64,.int .u64,.int .u64,.int .u64,.int .u64,.int .u64,.int .u64,.int .u64,.int .u64,.int .u64,.int .u64,.int .u64,.int .u64,.int .u64,.int .u64,.int .u64,.int .u64,.int .u64,.int .u64,.int .u64,.int .u64,.int .u64,.int .u64,.int .u64,.int .u64,.int .u64]) (xs:=[vU a.fm.fN.1,vU a.fm.fN.2.1,vU a.fm.fN.2.2.1,vU a.fm.fN.2.2.2.1,vU a.fm.fN.2.2.2.2.1,vU a.fm.fN.2.2.2.2.2.1,vU a.fm.fN.2.2.2.2.2.2.1,vU a.fm.fN.2.2.2.2.2.2.2,vU a.fm.fD.1,vU a.fm.fD.2.1,vU a.fm.fD.2.2.1,vU a.fm.fD.2.2.2.1,vU a.fm.fD.2.2.2.2.1,vU a.fm.fD.2.2.2.2.2.1,vU a.fm.fD.2.2.2.2.2.2.1,vU a.fm.fD.2.2.2.2.2.2.2,vU a.fP.fN.1,vU a.fP.fN.2.1,vU a.fP.fN.2.2.1,vU a.fP.fN.2.2.2.1,vU a.fP.fN.2.2.2.2.1,vU a.fP.fN.2.2.2.2.2.1,vU a.fP.fN.2.2.2.2.2.2.1,vU a.fP.fN.2.2.2.2.2.2.2,vU a.fP.fD.1,vU a.fP.fD.2.1,vU a.fP.fD.2.2.1,vU a.fP.fD.2.2.2.1,vU a.fP.fD.2.2.2.2.1,vU a.fP.fD.2.2.2.2.2.1,vU a.fP.fD.2.2.2.2.2.2.1,vU a.fP.fD.2.2.2.2.2.2.2]) (ys:=[vU b.fm.fN.1,vU b.fm.fN.2.1,vU b.fm.fN.2.2.1,vU b.fm.fN.2.2.2.1,vU b.fm.fN.2.2.2.2.1,vU b.fm.fN.2.2.2.2.2.1,vU b.fm.fN.2.2.2.2.2.2.1,vU b.fm.fN.2.2.2.2.2.2.2,vU b.fm.fD.1,vU b.fm.fD.2.1,vU b.fm.fD.2.2.1,vU b.fm.fD.2.2.2.1,vU b.fm.fD.2.2.2.2.1,vU b.fm.fD.2.2.2.2.2.1,vU b.fm.fD.2.2.2.2.2.2.1,vU b.fm.fD.2.2.2.2.2.2.2,vU b.fP.fN.1,vU b.fP.fN.2.1,vU b.fP.fN.2.2.1,vU b.fP.fN.2.2.2.1,vU b.fP.fN.2.2.2.2.1,vU b.fP.fN.2.2.2.2.2.1,vU b.fP.fN.2.2.2.2.2.2.1,vU b.fP.fN.2.2.2.2.2.2.2,vU b.fP.fD.1,vU b.fP.fD.2.1,vU b.fP.fD.2.2.1,vU b.fP.fD.2.2.2.1,vU b.fP.fD.2.2.2.2.1,vU b.fP.fD.2.2.2.2.2.1,vU b.fP.fD.2.2.2.2.2.2.1,vU b.fP.fD.2.2.2.2.2.2.2]) (by kernel_rfl) (by kernel_rfl) (by kernel_rfl) I I ⟨fun h=>by
    simp only [bb,veq,Bool.and_eq_true,beq_iff_eq,and_true] at h
    obtain ⟨h0,h1,h2,h3,h4,h5,h6,h7,h8,h9,b0,c0,d0,g0,j0,k0,p0,q0,s0,t0,u0,v0,x0,y0,z0,A0,B0,C0,D0,E0,F0,G0⟩:=h
    exact ex_Ta (ah h0) (ah h1) (ah h2) (ah h3) (ah h4) (ah h5) (ah h6) (ah h7) (ah h8) (ah h9) (ah b0) (ah c0) (ah d0) (ah g0) (ah j0) (ah k0) (ah p0) (ah q0) (ah s0) (ah t0) (ah u0) (ah v0) (ah x0) (ah y0) (ah z0) (ah A0) (ah B0) (ah C0) (ah D0) (ah E0) (ah F0) (ah G0),fun h=>by subst h; simp [bb,veq]⟩ _ _ w9
def cV_p (_n:Nat) (a0:Ta) (a1:Ta):Oa Bool:=
  some (decide (a0 = a1))
theorem cV_c (n:Nat) {L w} (_hL:hl L w) (a0:Ta) (a1:Ta)  {r:Bool} (h:cV_p n a0 a1 = some r) :
 Cl 73 #[.agg ((av a0)).toArray,.agg ((av a1)).toArray] w (aj w fun _ u=>u = .bool r):=by
 unfold cV_p at h
 refine AL func73 I I I fun _ cs0 hb0=>Ae<|RG.bx (AK w) I I fun p0 d0 c0 j0=>RG.bx c0 I I fun q0 g0 b0 k0=>Ag I<|Aa<|Ae<|Ab (AA I (b0.memA .t1))<|Ab (AA I (b0.memA .hd))<|Ab (FV.eqlV (v:=.agg ((av a0)).toArray) (u:=.agg ((av a1)).toArray) I I (mt a0 a1))<|Ag I<|Aa<|Ar I<|Bb hb0 func73 I I ?_
 cases h
 exact b0.gv
def cT_l1 (n:Nat) (a0:Lb Ta) (a1:Lb Ta) (c0:Nat -> Oa (Bool ⊕ Unit)):Nat -> Oa (Bool ⊕ Unit)
  | b0=>(if b0 < a0.length then (a0[b0]?).bind fun d0=>(a1[b0]?).bind fun g0=>(cV_p n d0 g0).bind fun j0=>(if j0 = true then c0 (b0 + 1) else some (.inl false)) else some (.inr ()))
def cT_p (n:Nat) (a0:Lb Ta) (a1:Lb Ta):Oa Bool:=
  (if a0.length = a1.length then thn (ao (cT_l1 n a0 a1) n 0) (fun _=>some true) else some false)
theorem cT_c (n:Nat) {L w} (hL:hl L w) {a0:Lb Ta} {v0_0:Vc} (h0_0:Rep.R w L [v0_0] a0) {a1:Lb Ta} {v1_0:Vc} (h1_0:Rep.R w L [v1_0] a1)  {r:Bool} (h:cT_p n a0 a1 = some r) :
 Cl 17 #[v0_0,v1_0] w (aj w fun _ u=>u = .bool r):=by
 unfold cT_p at h
 have hS0:=AK w
 refine AL func17 I I I fun _ cs0 hb0=>Ae<|Ag I<|Aa<|Ae<|Ac I<|Ac I<|BD (fst:=[]) (cap:=[]) (vs:=[v0_0,v1_0,.func (.func 73) #[] #[]]) .plain (bd 72) func72 I I I I (e3 I I I) I fun cs2 hb1 hp3=>Ae<|Ag I<|Aa<|Aj<|Ae<|Ac I ?_
 have hl4:=AX h0_0
 refine Ab (AY (xs:=a0) underlying24 I h0_0)<|Ac I ?_
 have hl5:=AX h1_0
 refine Ab (AY (xs:=a1) underlying24 I h1_0)<|Ab (FV.neqN (i:=a0.length) (j:=a1.length) I I)<|Aa<|BI I h (fun c6 h=>?_) (fun c6 h=>?_)
 refine Aq<|Aj<|Ae<|Ac I<|Ab (AY (xs:=a0) underlying24 I h0_0)<|Ac I<|Aa<|Av<|tn h fun k1 K0 j0=>MX.lo (α:=Nat) (fun b0=>[(1,v1_0),(2,.func (.func 73) #[] #[]),(15,v0_0),(16,vn a0.length),(17,vn b0)]) (fun b0=>[]) (fun b0=>b0) 0 K0 hS0 ?_
 rintro Y0 b0 v1 t0 d0 y0 h
 unfold cT_l1 at h
 try dsimp only at h
 refine Ae<|Ab (AU (i:=b0) (j:=a0.length) I I)<|Aa<|Aj<|AW I h (fun q0 h=>?_) (fun q0 h=>?_)
 refine Aq<|Aj<|Av<|Ae<|Ac I<|bk h fun k0 Q0 h=>?_
 obtain ⟨W0,c1,E0,G0,g1,M0,I0⟩:=Be (AG h0_0 d0) Q0
 obtain rfl:=aF M0
 refine Ab (Bf 32 b0 I E0 I I G0)<|Ab (AA I I0)<|RG.nl [vW 0,vW 0,vW 0,vW 0,vW 0,vW 0,vW 0,vW 0,vW 0,vW 0,vW 0,vW 0,vW 0,vW 0,vW 0,vW 0,vW 0,vW 0,vW 0,vW 0,vW 0,vW 0,vW 0,vW 0,vW 0,vW 0,vW 0,vW 0,vW 0,vW 0,vW 0,vW 0] d0 fun p1 Z0 u0 z0=>Ag I<|AT (av k0) u0 .hd (ai I) fun q1 g0 A0=>Aa<|Ae<|Ac I<|Ac I<|bk h fun p0 R0 h=>?_
 obtain ⟨X0,d1,F0,H0,j1,P0,J0⟩:=Be (AG h1_0 g0) R0
 obtain rfl:=aF P0
 refine Ab (Bf 32 b0 I F0 I I H0)<|Ab (AA I J0)<|RG.nl [vW 0,vW 0,vW 0,vW 0,vW 0,vW 0,vW 0,vW 0,vW 0,vW 0,vW 0,vW 0,vW 0,vW 0,vW 0,vW 0,vW 0,vW 0,vW 0,vW 0,vW 0,vW 0,vW 0,vW 0,vW 0,vW 0,vW 0,vW 0,vW 0,vW 0,vW 0,vW 0] g0 fun s1 b1 v0 B0=>AT (av p0) v0 .hd (ai I) fun u1 c0 C0=>Aa<|Ae<|Ac I<|Ab (AA I (c0.memA .t1))<|Ab (AA I (c0.memA .hd))<|bk h fun V0 U0 h=>Bj (.bool V0) (bd 73) I (e2 I I) (fun w9 hw9=>cV_c n (c0.hL0 hL hw9) k0 p0 U0) I<|Ab (Bz I)<|Aa<|MX.ifnb I h (fun s0 h=>?_) (fun s0 h=>?_)
 refine Aq<|Aw<|Am<|Ab (Bc (i:=b0) (j:=1) I I (by omega))<|Ac I<|Aa ?_
 obtain ⟨x0,D0⟩:=AB c0 .done
 exact t0 (b0 + 1) x0 (Tt y0 (Tt z0 (Tt A0 (Tt B0 (Tt C0 D0))))) h
 refine Ae<|Ag I<|Aa ?_
 have h:=aX h j0
 refine Ar I<|Au (u:=.bool false) hb1 func72 I (.cons (.tmp I) .nil) I<|Ag I<|Aa<|Ar I<|Bb hb0 func17 I I ?_
 cases h
 exact c0.gv
 refine Ba I ?_
 have h:=bq h j0
 try dsimp only at h
 refine Ae<|Ag I<|Aa<|Ar I<|Au (u:=.bool true) hb1 func72 I (.cons (.tmp I) .nil) I<|Ag I<|Aa<|Ar I<|Bb hb0 func17 I I ?_
 cases h
 exact d0.gv
 refine Ae<|Ag I<|Aa<|Ar I<|Au (u:=.bool false) hb1 func72 I (.cons (.tmp I) .nil) I<|Ag I<|Aa<|Ar I<|Bb hb0 func17 I I ?_
 cases h
 exact hS0.gv
def aZ_p (n:Nat) (a0:Lb Ta) (a1:Int) (a2:Lb Ta):Oa Bool:=
  (cT_p n a0 a2).bind fun y1=>(if y1 = true then some (decide (a1 = 0)) else some false)
theorem aZ_c (n:Nat) {L w} (hL:hl L w) {a0:Lb Ta} {v0_0:Vc} (h0_0:Rep.R w L [v0_0] a0) {a1:Int} {a2:Lb Ta} {v2_0:Vc} (h2_0:Rep.R w L [v2_0] a2) {p2:Nat} (m2:∀ j9 v9,([v2_0]:Lb Vc)[j9]? = some v9 -> w.cell? ((⟨p2,0,none⟩:Addr).add j9) = some v9)  {r:Bool} (h:aZ_p n a0 a1 a2 = some r) :
 Cl 91 #[v0_0,vI a1,.pointer (some ⟨p2,0,none⟩)] w (aj w fun _ u=>u = .bool r):=by
 unfold aZ_p at h
 have hS0:=AK w
 refine AL func91 I I I fun _ cs0 hb0=>Ae<|Ag I<|Aa<|Ae<|Ac I<|Bd I ((fun j9 v9 h9=>hS0.ag.cell0 (m2 j9 v9 h9)) 0 _ I)<|bk h fun y1 hy1 h=>Bj (.bool y1) (bd 17) I (e2 I I) (fun w9 hw9=>cT_c n (hS0.hL0 hL hw9) (hS0.kd h0_0 hw9) (hS0.kd h2_0 hw9) hy1) I<|Ac I<|RG.ifb (s:=9) I h (fun c2 h=>?_) (fun c2 h=>?_)
 refine AM (Al I)<|AM (FV.eql (i:=a1) (j:=0) I I)<|Br I I<|Ag I<|Aa<|Ar I<|Bb hb0 func91 I I ?_
 cases h
 exact hS0.gv
 refine Ap<|Ap<|Bs I I<|Ag I<|Aa<|Ar I<|Bb hb0 func91 I I ?_
 cases h
 exact hS0.gv
theorem cI_c (_n:Nat) {L w} (_hL:hl L w) (a0:Lb Ta) {v0_0:Vc} (h0_0:Rep.R w L [v0_0] a0)  :
 Cl 28 #[v0_0] w (aj w fun w' u=>∃ b0:Nat,u = .func (.func 91) #[] #[vP b0]/\St w w' [.cells b0 [v0_0] 24]):=by
 refine AL func28 I I I fun _ cs0 hb0=>Ae<|RG.bx (AK w) I (Rep.c1 h0_0) fun g0 b0 c0 d0=>Ag I<|Aa<|Ae<|Ab (FV.makeFunc (vs:=[]) (us:=[vP b0]) ap (e1 I))<|Ag I<|Aa<|Ar I<|Au (u:=.func (.func 91) #[] #[vP b0]) hb0 func28 I (.cons (.tmp I) .nil) I<|⟨c0.ag,fun w9 hw9=>⟨b0,I,c0.agree hw9⟩⟩
def cL (n:Nat) (c0:Tb × Td) (g0:(Lb Ta) × Bool -> Oa ((Lb Ta) × Int)):(Lb Ta) × Bool -> Oa ((Lb Ta) × Int)
  | (p0,j0)=>(ac_p n c0.2).bind fun d0=>jn (fun k0=>(app p0 ([(⟨c0.1,d0.1⟩:Ta)]:Lb Ta)).bind fun q0=>g0 (q0,k0)) (fun b0=>(if d0.2 = 0 then b0 j0 else b0 true))
def aJ_l1 (n:Nat) (a0:Lb Ta) (q0:Td) (g0:Nat × Bool × (Lb (Tb × Td)) -> Oa ((Lb (Tb × Td)) × Bool)):Nat × Bool × (Lb (Tb × Td)) -> Oa ((Lb (Tb × Td)) × Bool)
  | (c0,j0,b0)=>(if c0 < a0.length then (a0[c0]?).bind fun k0=>(al_p n k0.fm).bind fun s0=>(av_p n q0 s0).bind fun t0=>(bb_p n k0).bind fun p0=>(ac_p n t0).bind fun d0=>(if d0.2 = 0 then dI (br b0 d0.1) (g0 (c0 + 1,j0,aC b0 d0.1 p0)) (fun u0=>(ab_p n p0 u0).bind fun v0=>g0 (c0 + 1,j0,aC b0 d0.1 v0)) else g0 (c0 + 1,true,b0)) else some (b0,j0))
def aJ_p (n:Nat) (a0:Lb Ta) (a1:Tb):Oa ((Lb Ta) × Int):=
  (au_p n ([a0]:Lb (Lb Ta)) ([a1]:Lb Tb)).bind fun d0=>(if d0 = 0 then (al_p n a1).bind fun p0=>Option.bind (ao (aJ_l1 n a0 p0) n (0,false,([]:Lb (Tb × Td)))) (fun (b0,g0)=>(if 400 < b0.length then some (([]:Lb Ta),(3:Int)) else mloop (fun (c0,j0)=>(if j0 = true then some (([]:Lb Ta),(6:Int)) else (bq_p n (ac ((c0.length:Nat):Int))).bind fun q0=>(dK (fun x9 y9=>ah_p n x9 y9) q0 c0).bind fun k0=>some (k0,(0:Int)))) (cL n) n b0 (([]:Lb Ta),g0))) else some (([]:Lb Ta),d0))
theorem aJ_c (n:Nat) {L w} (hL:hl L w) {a0:Lb Ta} {v0_0:Vc} (h0_0:Rep.R w L [v0_0] a0) (a1:Tb)  {r:(Lb Ta) × Int} (h:aJ_p n a0 a1 = some r) :
 Cl 29 #[v0_0,.agg ((ab a1)).toArray] w (aj w fun w' u=>∃ v0_0:Vc,u = .tuple #[v0_0,vI r.2]/\Rep.R w' L [v0_0] r.1):=by
 unfold aJ_p at h
 refine AL func29 I I I fun _ cs0 hb0=>Ae<|RG.bx (AK w) I I fun g8 H0 v2 E7=>Ag I<|Ag I<|Aa<|Aj<|Ae<|Ac I ?_
 obtain ⟨M6,q7,c6,_⟩:=Bi (AG h0_0 v2)
 refine Ao .plain I (AV (α:=Lb Ta) (xs:=([a0]:Lb (Lb Ta))) (vs:=[v0_0]) (ds' :=[v0_0]) I v2 mc I (e1 I) (by rw [c6]; try kernel_rfl) I) fun j8 I0 k1 F7=>Ab (AA I (k1.memA .t1))<|Ao .plain I (AV (α:=Tb) (xs:=([a1]:Lb Tb)) (vs:=[.agg ((ab a1)).toArray]) (ds' :=(ab a1)) I k1 iZ I (e1 I) (by kernel_rfl) I) fun k8 J0 z0 E4=>bk h fun D3 k6 h=>Bj (vI D3) (bd 63) I (e2 I I) (fun w9 hw9=>au_c n (z0.hL0 hL hw9) (Ah (St.lend (α:=Lb Ta) (L:=L) z0 .t1 (AO (AJ (cs:=[v0_0]) (xs:=(([a0]:Lb (Lb Ta)):Lb (Lb Ta))) k1 L (AC (cs:=[v0_0]) (ds:=[]) (AG h0_0 k1) (AR _ _))) E4) hL) hw9) (Ah (St.lend (α:=Tb) (L:=L) z0 .hd (AJ (cs:=(ab a1)) (xs:=(([a1]:Lb Tb):Lb Tb)) z0 L (AC (cs:=(ab a1)) (ds:=[]) (dn a1.fN a1.fD) (AR _ _))) hL) hw9) k6) I<|Ag I<|Aa<|Ae<|Ac I<|Ab (BB (i:=D3) (j:=0) I I)<|Aa<|BI I h (fun F3 h=>?_) (fun F3 h=>?_)
 refine Aq<|Ae<|Ac I<|Ab (AA I (z0.memA .t2))<|bk h fun E0 p6 h=>jE (bd 68) I (e1 I) (fun w9 hw9=>al_c n (z0.hL hL hw9) a1 p6) I fun p8 Y7 d5 ⟨z1,A1,hu_,K5,Q5⟩=>?_
 subst hu_
 obtain ⟨Q3,G7⟩:=z0.agr d5
 refine Ab (FV.makeFunc (vs:=[.agg #[.bool E0.fj.fc,z1,.bool E0.fh.fc,A1]]) (us:=[]) (e1 I) ap)<|BD (fst:=[]) (cap:=[]) (vs:=[v0_0,.func (.func 80) #[.agg #[.bool E0.fj.fc,z1,.bool E0.fh.fc,A1]] #[]]) .plain (bd 83) func83 I I I I (e2 I I) I fun x7 Z1 P7=>Ae<|Ag I<|Ag I<|Aa<|Ae<|Ao .plain I (Does.makeMap (κ:=Tb) (ν:=Lb Vc) Q3) fun C8 b0 z2 F4=>Ab (AS (vs:=[.map (some b0)]) (u:=.agg #[.map (some b0),.bool false]) (e1 I) (fun w9=>by kernel_rfl))<|RG.bx z2 I I fun K8 t0 A2 J2=>Ag I<|Aa<|Aj<|Ae<|Ac I ?_
 have V2:=AG h0_0 A2
 have J7:=AX V2
 refine Ab (AY (xs:=a0) underlying24 I V2)<|Ac I<|Aa<|Av ?_
 obtain ⟨V7,H5,y5⟩:=am h
 refine BR (α:=Nat × Bool × (Lb (Tb × Td)) × (Lb (Tb × Lb Vc))) (fun ⟨p0,u0,y0,c0⟩=>[(1,.func (.func 80) #[.agg #[.bool E0.fj.fc,z1,.bool E0.fh.fc,A1]] #[]),(6,vP t0),(12,v0_0),(13,vn a0.length),(14,vn p0)]) (fun ⟨p0,u0,y0,c0⟩=>[.cells t0 [.map (some b0),.bool u0] 126,.obj b0 (ay c0),rr w 34 Tb (vS J0 1) (([a1]:Lb Tb).length) (ab a1),rr w 24 (Lb Ta) (vS I0 1) (([a0]:Lb (Lb Ta)).length) [v0_0],.cells H0 (ab a1) 34]) (fun ⟨p0,u0,y0,c0⟩ B3=>MR B3 (bl [.cells t0 [.map (some b0),.bool u0] 126,.obj b0 (ay c0),rr w 34 Tb (vS J0 1) (([a1]:Lb Tb).length) (ab a1),rr w 24 (Lb Ta) (vS I0 1) (([a0]:Lb (Lb Ta)).length) [v0_0],.cells H0 (ab a1) 34] ++ L) c0 y0) (fun ⟨p0,u0,y0,c0⟩=>(p0,u0,y0)) (0,false,([]:Lb (Tb × Td)),([]:Lb (Tb × Lb Vc))) H5 A2 (BM (MR.at_ (Z:=([]:Lb (Tb × Lb Vc))) (M:=([]:Lb (Tb × Td))) z2 L trivial) J2) ?_
 rintro R6 ⟨p0,u0,y0,c0⟩ B3 F1 B0 u1 P0 h
 unfold aJ_l1 at h
 try dsimp only at h
 refine Ae<|Ab (AU (i:=p0) (j:=a0.length) I I)<|Aa<|Aj<|AW I h (fun G3 h=>?_) (fun G3 h=>?_)
 refine Aq<|Aj<|Av<|Ae<|bk h fun E1 d6 h=>?_
 obtain ⟨P6,s7,v5,A5,v7,J5,D5⟩:=Be (AG h0_0 B0) d6
 obtain rfl:=aF J5
 refine Ab (Bf 32 p0 I v5 I I A5)<|Ab (AA I D5)<|RG.nl [vW 0,vW 0,vW 0,vW 0,vW 0,vW 0,vW 0,vW 0,vW 0,vW 0,vW 0,vW 0,vW 0,vW 0,vW 0,vW 0,vW 0,vW 0,vW 0,vW 0,vW 0,vW 0,vW 0,vW 0,vW 0,vW 0,vW 0,vW 0,vW 0,vW 0,vW 0,vW 0] B0 fun q8 W6 R3 P1=>AT (av E1) R3 .hd (ai I) fun s8 p1 Q1=>Aa<|du 8 fun q0 c1=>Rv 0 q0 I c1 (fun _=>Al I)<|Rv 1 q0 I c1 (fun _=>Al I)<|Rv 2 q0 I c1 (fun _=>Bh 0 I)<|Rx 3 432 q0 I c1 (AQ (cs:=(ab E1.fm)) I I (ae (p1.memA .hd) 0 16))<|Rx 6 384 q0 I c1 (AA I (p1.memA .hd))<|bk h fun K6 q6 h=>AZ 4 95 q0 I .plain (bd 68) I (e1 I) (fun w9 hw9=>al_c n (p1.hL hL hw9) E1.fm q6) I fun u8 Z7 g5 ⟨W7,X7,hu_,M5,P5⟩=>?_
 subst hu_
 obtain ⟨x2,R1⟩:=p1.agr g5
 refine bk h fun k2 s6 h=>?_
 have W2:=Tt F4 (Tt J2 (Tt u1 (Tt P1 (Tt Q1 R1))))
 refine BJ (i:=5) (rk q0) (RO.call (m' :=127) (fst:=[.agg #[.bool E0.fj.fc,z1,.bool E0.fh.fc,A1]]) (cap:=[]) (sk q0) I .plain (bd 80) I (e1 I) (fun w9 hw9=>av_c n (x2.hL hL hw9) E0 (Ah (Af K5 W2) hw9) (Ah (Af Q5 W2) hw9) K6 (Ah M5 hw9) (Ah P5 hw9) s6) I (fun v8 b8 j5 ⟨A6,B6,hu_,R5,U5⟩=>?_))
 subst hu_
 obtain ⟨y2,E2⟩:=x2.agr j5
 refine bk h fun j0 t6 h=>AZ 7 255 q0 I .plain (bd 66) I (e1 I) (fun w9 hw9=>bb_c n (y2.hL hL hw9) E1 t6) I fun x8 c8 k5 ⟨g1,j1,hu_,k3,p3⟩=>?_
 subst hu_
 obtain ⟨U3,U1⟩:=y2.agr k5
 refine BJ (i:=8) (rk q0) (RO.enterPT (m' :=511) (fst:=[]) (cap:=[]) (vs:=[vP t0,.agg #[.bool k2.fj.fc,A6,.bool k2.fh.fc,B6],.agg #[.bool j0.fj.fc,g1,.bool j0.fh.fc,j1]]) (sk q0) I I .plain (bd 86) func86 I I I I (e3 I I I) I (fun _ y7 b2 M7=>?_))
 refine Ae<|RG.bx U3 I I fun y8 X6 V3 Y0=>RG.bx V3 I I fun z8 Y6 U0 Z0=>Aa<|Ae<|Ab (AA I (U0.memA .t1))<|bk h fun d0 u6 h=>?_
 have X2:=Tt U1 (Tt Y0 Z0)
 refine Bj (.tuple #[.agg ((ab d0.1)).toArray,vI d0.2]) (bd 77) I (e1 I) (fun w9 hw9=>ac_c n (U0.hL0 hL hw9) k2 (U0.kd (Af R5 X2) hw9) (U0.kd (Af U5 X2) hw9) u6) I<|Ac I<|Ab (Ai I I)<|Ab (Ai I I)<|RG.nl zL U0 fun A8 Z6 W3 v1=>AT (ab d0.1) W3 .hd (ai I) fun B8 V0 x1=>Ag I<|Aa<|Aj<|Ae<|Ac I<|Ab (BB (i:=d0.2) (j:=0) I I)<|Aa<|BI I h (fun H3 h=>?_) (fun H3 h=>?_)
 refine Aq<|du 6 fun A0 Q0=>Rv 0 A0 I Q0 (fun _=>Al I)<|Rv 1 A0 I Q0 (fun _=>Bu I)<|Rv 2 A0 I Q0 (fun _=>Bh 0 I)<|Rx 3 64 A0 I Q0 (Bn I ((V0.memA .t4) 0 _ I))<|Rx 4 64 A0 I Q0 (AA I (V0.memA .hd))<|Rx 5 64 A0 I Q0 (AA I (V0.memA .t1))<|BJ (i:=6) (rk A0) (RO.enterPT (m' :=127) (fst:=[]) (cap:=[]) (vs:=[.map (some b0),.agg ((ab d0.1)).toArray,.agg #[.bool j0.fj.fc,g1,.bool j0.fh.fc,j1]]) (sk A0) I I .plain (bd 88) func88 I I I I (e3 I I I) I (fun _ z7 R2 Q7=>?_))
 refine Ae<|RG.bx V0 I I fun D8 b7 X3 V1=>RG.bx X3 I I fun E8 c7 W0 W1=>Aa<|Aj<|Ae<|Ac I<|Ab (AA I (W0.memA .t1)) ?_
 have g2:=Tt P1 (Tt Q1 (Tt R1 (Tt E2 (Tt U1 (Tt Y0 (Tt Z0 (Tt v1 (Tt x1 (Tt V1 W1)))))))))
 have E5:=BM P0 g2
 rcases MR.get d0.1 E5 with ⟨d2,j2⟩ | ⟨A7,p2,j2,d2,V5⟩
 have h:=cQ h d2
 refine Ab (FV.lookupK (kv:=d0.1) (q:=false) ar W0 .t7 underlying124 (z:=.agg #[.bool false,vN,.bool false,vN]) I I I (.inl ⟨j2,I,I⟩))<|Ac I<|Ab (Ai I I)<|Ab (Ai I I)<|RG.nl [.bool false,vN,.bool false,vN] W0 fun F8 g7 Y3 F2=>AT [.bool false,vN,.bool false,vN] Y3 .hd (ai I) fun G8 G1 G2=>Ag I<|Aa<|Ae<|Ac I<|Aa<|Bv I<|Aq<|Am<|Ac I<|Ab (AA I (G1.memA .t2))<|Ab (AA I (G1.memA .t1)) ?_
 have Y2:=Tt g2 (Tt F2 G2)
 have Z2:=Tt Y0 (Tt Z0 (Tt v1 (Tt x1 (Tt V1 (Tt W1 (Tt F2 G2))))))
 refine RG.now .plain (BK (kv:=d0.1) (vv:=[.bool j0.fj.fc,g1,.bool j0.fh.fc,j1]) ar G1 .t8 underlying124 I I I) fun H8 Z3 H2=>Aa<|MX.fin I<|Au (u:=.tuple #[]) R2 func88 I .nil I<|AN (dk A0)<|MX.fin I<|Au (u:=.tuple #[]) b2 func86 I .nil I<|AN (dk q0)<|Aw<|Am<|Ab (Bc (i:=p0) (j:=1) I I (by omega))<|Ac I<|Aa ?_
 obtain ⟨b4,I2⟩:=AB Z3 .d7
 exact F1 (p0 + 1,u0,aC y0 d0.1 j0,(aC c0 d0.1 [.bool j0.fj.fc,g1,.bool j0.fh.fc,j1])) b4 (Tt u1 (Tt Y2 (Tt H2 I2))) (BM (MR.set (k:=d0.1) (c:=[.bool j0.fj.fc,g1,.bool j0.fh.fc,j1]) (y:=j0) (ck j0.fj (Af k3 Z2) j0.fh (Af p3 Z2)) (BM P0 Y2)) (Tt H2 I2)) h
 have h:=cN h d2
 obtain ⟨C6,D6,rfl,q3,s3⟩:=cF V5
 refine Ab (FV.lookupK (kv:=d0.1) (q:=true) ar W0 .t7 underlying124 (z:=.agg #[.bool false,vN,.bool false,vN]) I I I (.inr ⟨_,j2,I,I⟩))<|Ac I<|Ab (Ai I I)<|Ab (Ai I I)<|RG.nl [.bool false,vN,.bool false,vN] W0 fun I8 j7 c4 M0=>AT [.bool p2.fj.fc,C6,.bool p2.fh.fc,D6] c4 .hd (o4 I (Az (Af q3 M0)) I (Az (Af s3 M0))) fun J8 q1 y1=>Ag I<|Aa<|Ae<|Ac I<|Aa<|AE I<|Am<|Ab (AA I (q1.memA .t1))<|Ab (AA I (q1.memA .hd))<|bk h fun x0 v6 h=>?_
 have b3:=Tt Y0 (Tt Z0 (Tt v1 (Tt x1 (Tt V1 (Tt W1 (Tt M0 y1))))))
 refine jE (bd 81) I (e2 I I) (fun w9 hw9=>ab_c n (q1.hL hL hw9) j0 (Ah (Af k3 b3) hw9) (Ah (Af p3 b3) hw9) p2 (Ah (Af q3 (Tt M0 y1)) hw9) (Ah (Af s3 (Tt M0 y1)) hw9) v6) I fun M8 d8 p5 ⟨B1,C1,hu_,u3,v3⟩=>?_
 subst hu_
 obtain ⟨g4,G4⟩:=q1.agr p5
 refine AT [.bool x0.fj.fc,B1,.bool x0.fh.fc,C1] g4 .t1 (o4 I (Az u3) I (Az v3)) fun P8 H1 X1=>Aa<|Am<|Ac I<|Ab (AA I (H1.memA .t2))<|Ab (AA I (H1.memA .t1)) ?_
 have c3:=Tt g2 (Tt M0 (Tt y1 (Tt G4 X1)))
 refine RG.now .plain (BK (kv:=d0.1) (vv:=[.bool x0.fj.fc,B1,.bool x0.fh.fc,C1]) ar H1 .t8 underlying124 I I I) fun Q8 j4 K2=>Aa<|MX.fin I<|Au (u:=.tuple #[]) R2 func88 I .nil I<|AN (dk A0)<|MX.fin I<|Au (u:=.tuple #[]) b2 func86 I .nil I<|AN (dk q0)<|Aw<|Am<|Ab (Bc (i:=p0) (j:=1) I I (by omega))<|Ac I<|Aa ?_
 obtain ⟨k4,M2⟩:=AB j4 .d7
 exact F1 (p0 + 1,u0,aC y0 d0.1 x0,(aC c0 d0.1 [.bool x0.fj.fc,B1,.bool x0.fh.fc,C1])) k4 (Tt u1 (Tt c3 (Tt K2 M2))) (BM (MR.set (k:=d0.1) (c:=[.bool x0.fj.fc,B1,.bool x0.fh.fc,C1]) (y:=x0) (ck x0.fj (Af u3 X1) x0.fh (Af v3 X1)) (BM P0 c3)) (Tt K2 M2)) h
 refine Ae<|Ac I<|Ab (Bu I)<|Bk 1 I<|RG.now .plain (BS (j:=1) (old:=[.map (some b0),.bool u0]) (news:=[.bool true]) (new' :=[.map (some b0),.bool true]) V0 .t4 I I I I I I (o1 I) I) fun R8 p4 H4=>Aa<|Ar I<|Au (u:=.tuple #[]) b2 func86 I .nil I<|AN (dk q0)<|Aw<|Am<|Ab (Bc (i:=p0) (j:=1) I I (by omega))<|Ac I<|Aa ?_
 obtain ⟨q4,I4⟩:=AB p4 .d4
 have g3:=Tt P1 (Tt Q1 (Tt R1 (Tt E2 (Tt U1 (Tt Y0 (Tt Z0 (Tt v1 (Tt x1 (Tt H4 I4)))))))))
 exact F1 (p0 + 1,true,y0,c0) q4 (Tt u1 g3) (BM P0 g3) h
 refine Ba I ?_
 have h:=y5 _ h
 try dsimp only at h
 refine Ae<|Ac I<|BD (fst:=[]) (cap:=[]) (vs:=[vP t0]) .plain (bd 87) func87 I I I I (e1 I) I fun B7 c2 R7=>Ae<|Ag I<|Ag I<|Aa<|Aj<|Ae<|Ac I<|Ab (Bu I)<|Bk 0 I<|Bd I ((B0.memA .hd) 0 _ I)<|Ab (FV.as (FV.len_map (D:=c0) B0 .t1 underlying124 I) (congrArg (fun n9:Nat=>Value.int .i64 (n9:Int)) (MR.len P0)))<|Ab (FV.gtrN (i:=y0.length) (j:=400) I I)<|Aa<|AW I h (fun I3 h=>?_) (fun I3 h=>?_)
 refine Ae<|Ag I<|Ag I<|Aa<|Ar I<|Au (u:=.tuple #[vN,vI 3]) c2 func87 I (.cons (.tmp I) (.cons (.tmp I) .nil)) I<|Ab (Ai I I)<|Ab (Ai I I)<|Ag I<|Ag I<|Aa<|Ar I<|Au (u:=.tuple #[vN,vI 3]) Z1 func83 I (.cons (.tmp I) (.cons (.tmp I) .nil)) I<|Ab (Ai I I)<|Ab (Ai I I)<|Ag I<|Ag I<|Aa<|Ar I ?_
 have W5:=Bm (α:=Ta) B0 L
 refine Au hb0 func29 I (.cons (.tmp I) (.cons (.tmp I) .nil)) I ?_
 cases h
 exact ⟨B0.ag,fun w9 hw9=>⟨vN,I,B0.kd W5 hw9⟩⟩
 refine Aq<|Ae<|Ag I<|Aa<|Aj<|Ae<|Ac I<|Ab (Bu I)<|Bk 0 I<|Bd I ((B0.memA .hd) 0 _ I)<|Ao .plain I (Does.range (D:=c0) B0 .t1 underlying124 I) fun H6 K0 B2 J4=>Aa<|Av ?_
 have C2:=B2.nilRow 37 (Rep.size Ta)
 refine MX.mloop (α:=(Lb Ta) × Bool × Vc × (Lb Vc) × (Array Nat)) (fun ⟨v0,C0,s0,F0,D0⟩=>[(0,vP t0),(4,s0),(19,vP K0)]) (fun A3 ⟨v0,C0,s0,F0,D0⟩ D1=>St w D1 [rr w 37 Ta s0 v0.length F0,.obj K0 (aD b0 c0.length D0),.cells t0 [.map (some b0),.bool C0] 126,.obj b0 (ay c0),rr w 34 Tb (vS J0 1) (([a1]:Lb Tb).length) (ab a1),rr w 24 (Lb Ta) (vS I0 1) (([a0]:Lb (Lb Ta)).length) [v0_0],.cells H0 (ab a1) 34]/\Tr H6 [rr w 37 Ta vN (([]:Lb Ta).length) [],.obj K0 (aD b0 c0.length #[]),.cells t0 [.map (some b0),.bool u0] 126,.obj b0 (ay c0),rr w 34 Tb (vS J0 1) (([a1]:Lb Tb).length) (ab a1),rr w 24 (Lb Ta) (vS I0 1) (([a0]:Lb (Lb Ta)).length) [v0_0],.cells H0 (ab a1) 34] D1 [rr w 37 Ta s0 v0.length F0,.obj K0 (aD b0 c0.length D0),.cells t0 [.map (some b0),.bool C0] 126,.obj b0 (ay c0),rr w 34 Tb (vS J0 1) (([a1]:Lb Tb).length) (ab a1),rr w 24 (Lb Ta) (vS I0 1) (([a0]:Lb (Lb Ta)).length) [v0_0],.cells H0 (ab a1) 34]/\Cells D1 (bl [rr w 37 Ta s0 v0.length F0,.obj K0 (aD b0 c0.length D0),.cells t0 [.map (some b0),.bool C0] 126,.obj b0 (ay c0),rr w 34 Tb (vS J0 1) (([a1]:Lb Tb).length) (ab a1),rr w 24 (Lb Ta) (vS I0 1) (([a0]:Lb (Lb Ta)).length) [v0_0],.cells H0 (ab a1) 34] ++ L) F0 v0/\left y0 D0 = A3) (fun ⟨v0,C0,s0,F0,D0⟩=>(v0,C0)) (([]:Lb Ta),u0,vN,[],#[]) h ⟨rfl,rfl,rfl,trivial⟩ ⟨C2,BO _ _,(AJ (cs:=[]) (xs:=([]:Lb Ta)) C2 L (AR _ _)),(cE _)⟩ ?_
 rintro A3 ⟨v0,C0,s0,F0,D0⟩ D1 U6 P3 ⟨s4,P2,U2,B5⟩ F5 u5
 refine Ae<|RG.nextR (W:=c0) (BM P0 (Tt J4 (Tt (BT B2 37 (Rep.size Ta)) P2))) s4 .t3 (fun _=>.t1) I I B5 (fun U8 G5 G0 K4=>?_) (fun V8 z3 g0 C7 z6 z5 X5 I5 C5 D2 M4=>?_)
 have h:=F5 G5
 try dsimp only at h
 refine Ab (Ai I I)<|Aa<|Aj<|Bv I<|Ba I<|Aj<|Ae<|Ac I<|Ab (Bu I)<|Bk 1 I<|Bd I ((G0.memA .t2) 1 _ I)<|Aa<|MX.ifb I h (fun J3 h=>?_) (fun J3 h=>?_)
 refine Ae<|Ag I<|Ag I<|Aa<|Ar I<|Au (u:=.tuple #[vN,vI 6]) c2 func87 I (.cons (.tmp I) (.cons (.tmp I) .nil)) I<|Ab (Ai I I)<|Ab (Ai I I)<|Ag I<|Ag I<|Aa<|Ar I<|Au (u:=.tuple #[vN,vI 6]) Z1 func83 I (.cons (.tmp I) (.cons (.tmp I) .nil)) I<|Ab (Ai I I)<|Ab (Ai I I)<|Ag I<|Ag I<|Aa<|Ar I ?_
 have Y5:=Bm (α:=Ta) G0 L
 refine Au hb0 func29 I (.cons (.tmp I) (.cons (.tmp I) .nil)) I ?_
 cases h
 exact ⟨G0.ag,fun w9 hw9=>⟨vN,I,G0.kd Y5 hw9⟩⟩
 refine Aq<|Ae<|Ac I<|BD (fst:=[]) (cap:=[]) (vs:=[s0,.func (.func 144) #[] #[]]) .plain (bd 143) func143 I I I I (e2 I I) I fun D7 q5 U7=>Ae<|Ac I ?_
 have K7:v0.length <= 4294967296:=St.rowLe (α:=Ta) G0 .hd
 obtain ⟨Q6,u7,x5⟩:=St.rowV (α:=Ta) G0 .hd
 refine Ab (FV.lenV underlying24 I x5)<|Ag I<|Aa<|Am<|Ac I<|Ac I<|Ac I<|Ab (FV.convU (i:=((v0.length:Nat):Int)) underlying3 underlying193 I)<|bk h fun E3 x6 h=>Bj (vI E3) (bd 174) I (e1 I) (fun w9 hw9=>bq_c n (G0.hL0 hL hw9) (ac ((v0.length:Nat):Int)) x6) I<|Ac I<|bk h fun C3 g6 h=>RG.sort (enc:=av) (ρ:=Tryz.srt173_ren) (c:=(fun x9 y9=>ah_p n x9 y9)) (li:=E3) g6 I (fun _ _ _ _ h9=>aF h9) (fun w9 L9 z9=>aS (w:=w9) (L:=L9) z9.fm z9.fP) Tryz.srt173 (fun w9=>Tryz.isAgg37 w9) (fun w9=>Tryz.sizeOf37 w9) (enters_of func144 I I) (fun x9 y9 r9 w9 h9=>ah_c n (L:=[]) (w:=w9) (fun _ h8=>nomatch h8) x9 y9 h9) .plain (bd 173) I (e5 I I I I I) I G0 (AO U2 K4) .hd fun I6 s1 H7=>Aa<|MX.fin I<|Au (u:=.tuple #[]) q5 func143 I .nil I<|Aa<|Ae<|Ac I<|Ag I<|Ag I<|Aa<|Ar I<|Au (u:=.tuple #[s0,vI 0]) c2 func87 I (.cons (.tmp I) (.cons (.tmp I) .nil)) I<|Ab (Ai I I)<|Ab (Ai I I)<|Ag I<|Ag I<|Aa<|Ar I<|Au (u:=.tuple #[s0,vI 0]) Z1 func83 I (.cons (.tmp I) (.cons (.tmp I) .nil)) I<|Ab (Ai I I)<|Ab (Ai I I)<|Ag I<|Ag I<|Aa<|Ar I ?_
 have I1:=Bw s1 .hd
 have I7:=Bx s1 .hd
 have Z5:=By (α:=Ta) (v:=s0) (xs:=C3) I1 L (Bg (α:=Ta) s1 .hd (AJ s1 L (bF (α:=Ta) (enc:=av) (fun w9 L9 z9=>aS (w:=w9) (L:=L9) z9.fm z9.fP) I6 _ C3)) hL)
 refine Au hb0 func29 I (.cons (.tmp I) (.cons (.tmp I) .nil)) I ?_
 cases h
 exact ⟨I1.ag,fun w9 hw9=>⟨s0,I,I1.kd Z5 hw9⟩⟩
 obtain ⟨E6,F6,rfl,x3,y3⟩:=cF X5
 have h:=u5 _ _ I5
 unfold cL at h
 try dsimp only at h
 refine Ab (Ai I I)<|Aa<|Aj<|AE I<|Aq<|Av<|Ae<|Ab (FV.entry (D:=c0) D2 .t3 .t1 z5 I)<|Ab (Ai I I)<|Ab (Ai I I)<|RG.nl zL D2 fun W8 q2 u4 P4=>RG.nl [.bool false,vN,.bool false,vN] u4 fun X8 k7 v4 Q4=>AT (ab g0.1) v4 .t1 (ai I) fun Y8 x4 R4=>?_
 have b1:=Tt M4 (Tt P4 (Tt Q4 R4))
 refine AT [.bool g0.2.fj.fc,E6,.bool g0.2.fh.fc,F6] x4 .hd (o4 I (Az (Af x3 b1)) I (Az (Af y3 b1))) fun Z8 X0 Y1=>Aa<|Ae<|Ab (AA I (X0.memA .hd))<|bk h fun k0 y6 h=>Bj (.tuple #[.agg ((ab k0.1)).toArray,vI k0.2]) (bd 77) I (e1 I) (fun w9 hw9=>ac_c n (X0.hL0 hL hw9) g0.2 (X0.kd (Af x3 (Tt b1 Y1)) hw9) (X0.kd (Af y3 (Tt b1 Y1)) hw9) y6) I<|Ac I<|Ab (Ai I I)<|Ab (Ai I I)<|RG.nl zL X0 fun b9 s2 y4 U4=>AT (ab k0.1) y4 .hd (ai I) fun c9 J1 V4=>Ag I<|Aa<|Aj<|Ae<|Ac I<|Ab (BB (i:=k0.2) (j:=0) I I)<|Aa<|MX.jo (α:=Bool) (fun R0=>[(0,vP t0),(4,s0),(19,vP K0),(5,vP q2),(7,vP s2)]) (fun R0=>[.cells s2 (ab k0.1) 34,.cells q2 (ab g0.1) 34,rr w 37 Ta s0 v0.length F0,.obj K0 (aD b0 c0.length (D0.push z3)),.cells t0 [.map (some b0),.bool R0] 126,.obj b0 (ay c0),rr w 34 Tb (vS J0 1) (([a1]:Lb Tb).length) (ab a1),rr w 24 (Lb Ta) (vS I0 1) (([a0]:Lb (Lb Ta)).length) [v0_0],.cells H0 (ab a1) 34]) (fun R0=>R0) J1 h ?_ ?_
 rintro R0 k9 K1 W4 h
 try dsimp only at h
 refine Am<|Ac I<|Ab (AA I (K1.memA .t1))<|Ab (AA I (K1.memA .hd))<|Ab (AS (vs:=[.agg ((ab g0.1)).toArray,.agg ((ab k0.1)).toArray]) (u:=.agg ((ab g0.1 ++ ab k0.1)).toArray) (e2 I I) (fun w9=>by kernel_rfl))<|Ao .plain I (AV (α:=Ta) (xs:=([(⟨g0.1,k0.1⟩:Ta)]:Lb Ta)) (vs:=[.agg ((ab g0.1 ++ ab k0.1)).toArray]) (ds' :=(ab g0.1 ++ ab k0.1)) I K1 cJ I (e1 I) (by kernel_rfl) I) fun d9 p7 M1 X4=>bk h fun J6 j6 h=>?_
 have j3:=Tt b1 (Tt Y1 (Tt U4 (Tt V4 (Tt W4 X4))))
 refine BA .plain I (Bl (α:=Ta) (ys:=([(⟨g0.1,k0.1⟩:Ta)]:Lb Ta)) j6 M1 (fun _ _=>.t3) cJ I I (AO U2 j3) (BH (α:=Ta) M1 .hd (AJ (cs:=(ab g0.1 ++ ab k0.1)) (xs:=(([(⟨g0.1,k0.1⟩:Ta)]:Lb Ta):Lb Ta)) M1 L (AC (cs:=(ab g0.1 ++ ab k0.1)) (ds:=[]) (aS g0.1 k0.1) (AR _ _))))) fun G6 g9 ⟨M3,z4,Y4,s5⟩=>Ag I<|Aa<|Aw ?_
 obtain ⟨A4,Q2⟩:=AB z4 .d3
 exact P3 z6 (J6,R0,G6,M3,(D0.push z3)) _ _ ⟨I,I,I,trivial⟩ ⟨A4,(Tt P2 (Tt j3 (Tt Y4 Q2))),(AO s5 Q2),C5⟩ h
 intro V6 u2 h
 try dsimp only at h
 refine BI I h (fun K3 h=>?_) (fun K3 h=>?_)
 refine Aq ?_
 obtain ⟨B4,Z4⟩:=AB J1 (.a0 .d1)
 exact u2 C0 B4 Z4 h
 refine Am<|Ac I<|Ab (Bu I)<|Bk 1 I<|RG.now .plain (BS (j:=1) (old:=[.map (some b0),.bool C0]) (news:=[.bool true]) (new' :=[.map (some b0),.bool true]) J1 .t5 I I I I I I (o1 I) I) fun j9 C4 b5=>Aa ?_
 obtain ⟨D4,c5⟩:=AB C4 (.a0 .d1)
 exact u2 true D4 (Tt b5 c5) h
 refine Ae<|Ac I<|Ag I<|Ag I<|Aa<|Ar I ?_
 have b6:=Bm (α:=Ta) z0 L
 refine Au hb0 func29 I (.cons (.tmp I) (.cons (.tmp I) .nil)) I ?_
 cases h
 exact ⟨z0.ag,fun w9 hw9=>⟨vN,I,z0.kd b6 hw9⟩⟩
def bc_p (n:Nat) (a0:Tb) (a1:Int) (a2:Int) (a3:Int):Oa Bool:=
  (ai_p n a2 a3).bind fun b0=>(if a0 = b0 then some (decide (a1 = 0)) else some false)
theorem bc_c (n:Nat) {L w} (hL:hl L w) (a0:Tb) {a1:Int} {a2:Int} {p2:Nat} (m2:∀ j9 v9,([vI a2]:Lb Vc)[j9]? = some v9 -> w.cell? ((⟨p2,0,none⟩:Addr).add j9) = some v9) {a3:Int} {p3:Nat} (m3:∀ j9 v9,([vI a3]:Lb Vc)[j9]? = some v9 -> w.cell? ((⟨p3,0,none⟩:Addr).add j9) = some v9)  {r:Bool} (h:bc_p n a0 a1 a2 a3 = some r) :
 Cl 92 #[.agg ((ab a0)).toArray,vI a1,.pointer (some ⟨p2,0,none⟩),.pointer (some ⟨p3,0,none⟩)] w (aj w fun _ u=>u = .bool r):=by
 unfold bc_p at h
 refine AL func92 I I I fun _ cs0 hb0=>Ae<|RG.bx (AK w) I I fun s0 p0 d0 q0=>Ag I<|Aa<|Aj<|du 10 fun b0 c0=>Rx 0 1008 b0 I c0 (AA I (d0.memA .hd))<|Rx 1 1016 b0 I c0 (Bn I ((fun j9 v9 h9=>d0.ag.cell0 (m2 j9 v9 h9)) 0 _ I))<|Rx 2 1016 b0 I c0 (Bn I ((fun j9 v9 h9=>d0.ag.cell0 (m3 j9 v9 h9)) 0 _ I))<|bk h fun g0 k0 h=>RD.cq 3 15 1008 (.agg ((ab g0)).toArray) b0 I c0 (bd 15) I (e2 I I) (fun w9 hw9=>ai_c n (d0.hL0 hL hw9)  k0) I<|Rv 4 b0 I c0 (fun _=>FV.eqlV (v:=.agg ((ab a0)).toArray) (u:=.agg ((ab g0)).toArray) I I (gH a0 g0))<|Rv 5 b0 I c0 (fun _=>Al I)<|RD.ifd (s:=12) I h (fun j0 h=>?_) (fun j0 h=>?_)
 refine BQ 6 127 b0 I c0 (.yes I I) (fun _=>Al I) I<|BQ 7 255 b0 I c0 (.yes I I) (fun _=>FV.eql (i:=a1) (j:=0) I I) I<|Rv 8 b0 I c0 (fun _=>BU I I)<|Rv 9 b0 I c0 (fun _=>Bo I)<|AN (dk b0)<|Ar I<|Bb hb0 func92 I I ?_
 cases h
 exact d0.gv
 refine BF 255 2 [(6,13),(7,14)] (F:=[(12,false)]) (U:=[]) b0 c0 (.cons I .nil) .nil ?_
 dsimp only [aO,List.map]
 refine Rv 8 b0 I c0 (fun _=>Bq I I)<|Rv 9 b0 I c0 (fun _=>Bo I)<|AN (dk b0)<|Ar I<|Bb hb0 func92 I I ?_
 cases h
 exact d0.gv
theorem cL_c (_n:Nat) {L w} (_hL:hl L w) (a0:Int) (a1:Int)  :
 Cl 30 #[vI a0,vI a1] w (aj w fun w' u=>∃ b0 c0:Nat,u = .func (.func 92) #[] #[vP b0,vP c0]/\St w w' [.cells b0 [vI a0] 3,.cells c0 [vI a1] 3]):=by
 refine AL func30 I I I fun _ cs0 hb0=>Ae<|RG.bx (AK w) I I fun t0 b0 j0 p0=>RG.bx j0 I I fun u0 c0 k0 q0=>Ag I<|Aa<|Ae<|Ab (FV.makeFunc (vs:=[]) (us:=[vP b0,vP c0]) ap (e2 I I))<|Ag I<|Aa<|Ar I<|Au (u:=.func (.func 92) #[] #[vP b0,vP c0]) hb0 func30 I (.cons (.tmp I) .nil) I ?_
 obtain ⟨g0,s0⟩:=AB k0 (.a1 .d0)
 exact ⟨g0.ag,fun w9 hw9=>⟨b0,c0,I,g0.agree hw9⟩⟩
def cY_p (n:Nat) (a0:Tb):Oa Bool:=
  (al_p n a0).bind fun b0=>(aY_p n b0.fj).bind fun c0=>some (decide (c0 < 0))
theorem cY_c (n:Nat) {L w} (hL:hl L w) (a0:Tb)  {r:Bool} (h:cY_p n a0 = some r) :
 Cl 94 #[.agg ((ab a0)).toArray] w (aj w fun _ u=>u = .bool r):=by
 unfold cY_p at h
 refine AL func94 I I I fun _ cs0 hb0=>Ae<|RG.bx (AK w) I I fun A0 u0 b0 v0=>Ag I<|Aa<|Ae<|Ab (AA I (b0.memA .hd))<|bk h fun d0 p0 h=>jE (bd 68) I (e1 I) (fun w9 hw9=>al_c n (b0.hL hL hw9) a0 p0) I fun B0 z0 j0 ⟨s0,t0,hu_,k0,y0⟩=>?_
 subst hu_
 obtain ⟨c0,x0⟩:=b0.agr j0
 refine Ab (FV.fieldN (cs:=[.bool d0.fj.fc,s0,.bool d0.fh.fc,t0]) (off:=0) (m:=2) I I I I)<|bk h fun g0 q0 h=>Bj (vI g0) (bd 67) I (e1 I) (fun w9 hw9=>aY_c n (c0.hL0 hL hw9) d0.fj (c0.kd k0 hw9) q0) I<|Ab (FV.lss (i:=g0) (j:=0) I I)<|Ag I<|Aa<|Ar I<|Bb hb0 func94 I I ?_
 cases h
 exact c0.gv
end Go.Proofs.YtkommhmbkbhmlaaGreat
