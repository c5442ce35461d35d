import Derived.Test.YtfccehcnajelgaaGreatDoorUB4
namespace Go.Proofs.YtfccehcnajelgaaGreatDoor
open Go Go.RowKit Tryz
set_option maxRecDepth 4000
set_option maxHeartbeats 4000000

def bD_l1 (n:Nat) (a0:List Ta) (a1:Te) (a2:List Int) (a3:Int) (d0:Nat × (List Bool) -> Option (List Bool)):Nat × (List Bool) -> Option (List Bool)
  | (b0,c0)=>(if b0 < a0.length then (a0[b0]?).bind fun g0=>(cS_p n (⟨a1,a2,a3⟩:Tm) g0).bind fun k0=>(app c0 ([k0]:List Bool)).bind fun j0=>d0 (b0 + 1,j0) else some c0)
def bD_p (n:Nat) (a0:List Ta) (a1:Te) (a2:List Int) (a3:Int):Option ((List Bool) × Int):=
  (cb_p n a1 a2 a3).bind fun k0=>(aC_p n k0).bind fun p0=>exc p0 (fun _y64=>(a9_p n ((a2.length:Nat):Int) a0).bind fun g0=>(aC_p n g0).bind fun j0=>exc j0 (fun _y1303=>Option.bind (ah (bD_l1 n a0 a1 a2 a3) n (0,([]:List Bool))) (fun d0=>some (d0,(0:Int)))) (fun b0=>some (([]:List Bool),b0.fF))) (fun c0=>some (([]:List Bool),c0.fF))
theorem bD_c (n:Nat) {L w} (hL:hl L w) {a0:List Ta} {v0_0:Value} (h0_0:Rep.R w L [v0_0] a0) (a1:Te) {v1_3:Value} (h1_3:Rep.R w L [v1_3] a1.fm) {a2:List Int} {v2_0:Value} (h2_0:Rep.R w L [v2_0] a2) {a3:Int} (hG0:Glob 0 tab0 w)  {r:(List Bool) × Int} (h:bD_p n a0 a1 a2 a3 = some r) :
 Cl 25 #[v0_0,.agg #[vI a1.fh,vI a1.fe,vI a1.fj,v1_3],v2_0,vI a3] w (ae w fun w' u=>∃ v0_0:Value,u = .tuple #[v0_0,vI r.2]/\Rep.R w' L [v0_0] r.1):=by
 unfold bD_p at h
 refine AF func25 rfl rfl rfl fun _ cs0 hb0=>Ae<|RG.bx (AC w) rfl rfl fun J4 I0 R0 Z3=>Af rfl<|Af rfl<|Aa<|Ae<|Ac rfl<|Ab (AK rfl (R0.memA .hd))<|Ac rfl<|Ac rfl<|BH (fst:=[]) (cap:=[]) (vs:=[v0_0,.agg #[vI a1.fh,vI a1.fe,vI a1.fj,v1_3],v2_0,vI a3,.func (.func 70) #[] #[]]) .plain (bd 69) func69 rfl rfl rfl rfl (e5 rfl rfl rfl rfl rfl) rfl fun R3 Z0 G4=>Ae<|RG.bx R0 rfl (Rep.c1 (AM h0_0 R0)) fun R4 A0 Q1 g4=>RG.bx Q1 rfl rfl fun U4 u0 v1 q4=>RG.bx v1 rfl (Rep.c1 (AM h2_0 v1)) fun d5 v0 b2 u4=>RG.bx b2 rfl rfl fun g5 x0 c2 v4=>RG.bx c2 rfl rfl fun j5 y0 g2 x4=>?_
 refine Af rfl<|Af rfl<|Aa<|Ae<|Ab (FV.makeFunc (vs:=[]) (us:=[vP u0,vP v0,vP x0,vP A0,vP y0]) am (e5 rfl rfl rfl rfl rfl))<|BH (fst:=[]) (cap:=[]) (vs:=[.func (.func 109) #[] #[vP u0,vP v0,vP x0,vP A0,vP y0]]) .plain (bd 108) func108 rfl rfl rfl rfl (e1 rfl) rfl fun V3 b1 H4=>Ae<|RG.nl [vN] g2 fun k5 p0 j2 y4=>RG.nl [vI 0] j2 fun p5 g0 b0 z4=>Aa<|Ae<|Ab (FV.makeFunc (vs:=[]) (us:=[vP p0,vP g0]) am (e2 rfl rfl))<|RG.defer (fst:=[]) (cap:=[vP p0,vP g0]) (vs:=[]) rfl .plain rfl am<|Aa<|Ae<|Ac rfl<|BH (fst:=[]) (cap:=[vP u0,vP v0,vP x0,vP A0,vP y0]) (vs:=[]) .plain (bd 109) func109 rfl rfl rfl rfl am rfl fun W3 G2 C1=>Ae<|Af rfl<|Aa<|Ae<|Ab (AK rfl (b0.memA .t5))<|AL rfl ((b0.memA .t4) 0 _ rfl)<|AL rfl ((b0.memA .t3) 0 _ rfl)<|bk h fun z3 q3 h=>Bk (vI z3) (bd 95) rfl (e3 rfl rfl rfl) (fun p q=>cb_c n (b0.hL0 hL q) a1 (b0.k0 h1_3 q) (b0.k0 h2_0 q) q3) rfl<|xk h (fun D0 j1 h=>?_) (fun z5 j1 h=>?_)
 refine BQ (fst:=[]) (cap:=[]) .plain (bd 94) rfl (e1 rfl) (fun p q=>aC_c n (b0.hL0 hL q)  j1) fun q5 F2=>?_
 obtain ⟨k2,A4⟩:=b0.agr F2
 refine BD C1 func109<|PN.callD (vs:=[]) (cap:=[vP p0,vP g0]) (bd 148) func148 rfl rfl rfl fun Q3 J2 U2=>Ae<|RG.recover1 .plain J2 rfl<|Af rfl<|Aa<|Ae<|Ac rfl<|Ab (FV.neqI underlying20 rfl rfl)<|Aa<|AZ rfl<|Ae<|Ac rfl<|Ab (FV.assertT rfl rfl)<|Ac rfl<|Ab (Aj rfl rfl)<|Ab (Aj rfl rfl)<|RG.nl [vI 0] k2 fun s5 H3 p2 B4=>AX [vI D0.fF] p2 .hd (o1 rfl) fun u5 P0 C4=>Af rfl<|Aa<|Ai<|Ae<|Ac rfl<|Ab (Bp rfl)<|Aa<|BA rfl<|Ap<|Ae<|Af rfl<|Aa<|du 3 fun s0 p1=>Rv 0 s0 rfl p1 (fun _=>Ah rfl)<|Rv 1 s0 rfl p1 (fun _=>Be 0 rfl)<|RD.mo (α:=Unit) (fun ()=>[(1,vP g0),(19,vI D0.fF)]) (fun ()=>[.cells g0 [vI 0] 35,.cells p0 [vN] 72,.cells y0 [.func (.func 70) #[] #[]] 138,.cells x0 [vI a3] 3,.cells v0 [v2_0] 53,.cells u0 [vI a1.fh,vI a1.fe,vI a1.fj,v1_3] 58,.cells A0 [v0_0] 30,.cells I0 [vI a1.fh,vI a1.fe,vI a1.fj,v1_3] 58]) P0 1 15 ?_ ?_
 rintro ⟨⟩ v5 I1 X3
 try dsimp only
 refine BB 4 31 s0 rfl rfl .plain (AD (news:=[vI D0.fF]) I1 .hd rfl rfl rfl rfl rfl rfl (o1 rfl)) fun K4 E0 Y3=>AR (dk s0)<|MX.fin rfl<|RT.leaveD1 U2 func148 rfl .nil<|Ar (u:=.tuple #[vN,vI D0.fF]) b1 func108 rfl (.cons (.one rfl rfl ((E0.memA .t1) 0 _ rfl)) (.cons (.one rfl rfl ((E0.memA .hd) 0 _ rfl)) .nil)) rfl<|Ab (Aj rfl rfl)<|Ab (Aj rfl rfl)<|Af rfl<|Af rfl<|Aa<|Ak rfl<|Ar (u:=.tuple #[vN,vI D0.fF]) Z0 func69 rfl (.cons (.tmp rfl) (.cons (.tmp rfl) .nil)) rfl<|Ab (Aj rfl rfl)<|Ab (Aj rfl rfl)<|Af rfl<|Af rfl<|Aa<|Ak rfl ?_
 have X2:=Rep.nilAt (α:=Bool) E0 L
 refine Ar hb0 func25 rfl (.cons (.tmp rfl) (.cons (.tmp rfl) .nil)) rfl ?_
 cases h
 exact ⟨E0.ag,fun p q=>⟨vN,rfl,E0.kd X2 q⟩⟩
 intro q1
 refine By [2,3] (rk s0) ⟨?_,?_,trivial⟩
 refine RO.val (m' :=7) (sk s0) rfl .plain rfl (AN rfl ((P0.memA .hd) 0 _ rfl))<|BB 3 15 s0 rfl rfl .plain (AD (news:=[vN]) P0 .t2 rfl rfl rfl rfl rfl rfl (o1 rfl)) fun v3 M0 Y0=>?_
 obtain ⟨J1,q2⟩:=AH M0 .d1
 exact q1 () J1 (Tt Y0 q2)
 refine RO.now (m' :=11) (sk s0) rfl rfl .plain (AD (news:=[vN]) P0 .t2 rfl rfl rfl rfl rfl rfl (o1 rfl)) fun v3 M0 Y0=>Rx 2 16 s0 rfl p1 (AN rfl ((M0.memA .hd) 0 _ rfl)) ?_
 obtain ⟨K1,s2⟩:=AH M0 .d1
 exact q1 () K1 (Tt Y0 s2)
 refine Bk (.tuple #[]) (bd 94) rfl (e1 rfl) (fun p q=>BC (aC_c n (b0.hL0 hL q)  j1)) rfl<|Aa<|Ae<|AL rfl ((b0.memA .t4) 0 _ rfl) ?_
 have A1:=AM h2_0 b0
 have E4:a2.length <= 281474976710656:=AS A1
 refine Ab (AW (xs:=a2) underlying53 rfl A1)<|AL rfl ((b0.memA .t6) 0 _ rfl)<|bk h fun y3 k3 h=>Bk (vI y3) (bd 13) rfl (e2 rfl rfl) (fun p q=>a9_c n (b0.hL0 hL q) (b0.k0 h0_0 q) k3) rfl<|xk h (fun C0 g1 h=>?_) (fun y5 g1 h=>?_)
 refine BQ (fst:=[]) (cap:=[]) .plain (bd 94) rfl (e1 rfl) (fun p q=>aC_c n (b0.hL0 hL q)  g1) fun M4 E2=>?_
 obtain ⟨M1,b4⟩:=b0.agr E2
 refine BD C1 func109<|PN.callD (vs:=[]) (cap:=[vP p0,vP g0]) (bd 148) func148 rfl rfl rfl fun I3 H2 P2=>Ae<|RG.recover1 .plain H2 rfl<|Af rfl<|Aa<|Ae<|Ac rfl<|Ab (FV.neqI underlying20 rfl rfl)<|Aa<|AZ rfl<|Ae<|Ac rfl<|Ab (FV.assertT rfl rfl)<|Ac rfl<|Ab (Aj rfl rfl)<|Ab (Aj rfl rfl)<|RG.nl [vI 0] M1 fun P4 E3 P1 c4=>AX [vI C0.fF] P1 .hd (o1 rfl) fun Q4 J0 d4=>Af rfl<|Aa<|Ai<|Ae<|Ac rfl<|Ab (Bp rfl)<|Aa<|BA rfl<|Ap<|Ae<|Af rfl<|Aa<|du 3 fun q0 k1=>Rv 0 q0 rfl k1 (fun _=>Ah rfl)<|Rv 1 q0 rfl k1 (fun _=>Be 0 rfl)<|RD.mo (α:=Unit) (fun ()=>[(1,vP g0),(19,vI C0.fF)]) (fun ()=>[.cells g0 [vI 0] 35,.cells p0 [vN] 72,.cells y0 [.func (.func 70) #[] #[]] 138,.cells x0 [vI a3] 3,.cells v0 [v2_0] 53,.cells u0 [vI a1.fh,vI a1.fe,vI a1.fj,v1_3] 58,.cells A0 [v0_0] 30,.cells I0 [vI a1.fh,vI a1.fe,vI a1.fj,v1_3] 58]) J0 1 15 ?_ ?_
 rintro ⟨⟩ x5 R1 j4
 try dsimp only
 refine BB 4 31 q0 rfl rfl .plain (AD (news:=[vI C0.fF]) R1 .hd rfl rfl rfl rfl rfl rfl (o1 rfl)) fun V4 F0 k4=>AR (dk q0)<|MX.fin rfl<|RT.leaveD1 P2 func148 rfl .nil<|Ar (u:=.tuple #[vN,vI C0.fF]) b1 func108 rfl (.cons (.one rfl rfl ((F0.memA .t1) 0 _ rfl)) (.cons (.one rfl rfl ((F0.memA .hd) 0 _ rfl)) .nil)) rfl<|Ab (Aj rfl rfl)<|Ab (Aj rfl rfl)<|Af rfl<|Af rfl<|Aa<|Ak rfl<|Ar (u:=.tuple #[vN,vI C0.fF]) Z0 func69 rfl (.cons (.tmp rfl) (.cons (.tmp rfl) .nil)) rfl<|Ab (Aj rfl rfl)<|Ab (Aj rfl rfl)<|Af rfl<|Af rfl<|Aa<|Ak rfl ?_
 have Y2:=Rep.nilAt (α:=Bool) F0 L
 refine Ar hb0 func25 rfl (.cons (.tmp rfl) (.cons (.tmp rfl) .nil)) rfl ?_
 cases h
 exact ⟨F0.ag,fun p q=>⟨vN,rfl,F0.kd Y2 q⟩⟩
 intro s1
 refine By [2,3] (rk q0) ⟨?_,?_,trivial⟩
 refine RO.val (m' :=7) (sk q0) rfl .plain rfl (AN rfl ((J0.memA .hd) 0 _ rfl))<|BB 3 15 q0 rfl rfl .plain (AD (news:=[vN]) J0 .t2 rfl rfl rfl rfl rfl rfl (o1 rfl)) fun u3 K0 X0=>?_
 obtain ⟨U1,u2⟩:=AH K0 .d1
 exact s1 () U1 (Tt X0 u2)
 refine RO.now (m' :=11) (sk q0) rfl rfl .plain (AD (news:=[vN]) J0 .t2 rfl rfl rfl rfl rfl rfl (o1 rfl)) fun u3 K0 X0=>Rx 2 16 q0 rfl k1 (AN rfl ((K0.memA .hd) 0 _ rfl)) ?_
 obtain ⟨V1,v2⟩:=AH K0 .d1
 exact s1 () V1 (Tt X0 v2)
 refine Bk (.tuple #[]) (bd 94) rfl (e1 rfl) (fun p q=>BC (aC_c n (b0.hL0 hL q)  g1)) rfl<|Aa<|Ai<|Ae<|AL rfl ((b0.memA .t6) 0 _ rfl) ?_
 have B1:=AM h0_0 b0
 have F4:a0.length <= 281474976710656:=AS B1
 refine Ab (AW (xs:=a0) underlying30 rfl B1)<|Ac rfl<|Aa<|Au ?_
 have U0:=b0.nilRow 4 (Rep.size Bool)
 have p4:=BJ b0 4 (Rep.size Bool)
 have u1:=U0.nilRow 4 (Rep.size Bool)
 have D4:=AB (cs:=[]) (xs:=([]:List Bool)) u1 L (AG _ _)
 obtain ⟨I4,W2,M2⟩:=ao h
 refine MX.lf (α:=Nat × (List Bool) × Value × (List Value)) (fun ⟨j0,t0,c0,B0⟩=>[(0,vP u0),(1,vP v0),(2,vP x0),(4,vP y0),(5,c0),(18,v0_0),(19,vI ((a0.length:Nat):Int)),(20,vI ((j0:Nat):Int))]) (fun ⟨j0,t0,c0,B0⟩=>[rr w 4 Bool vN (([]:List Bool).length) [],rr w 4 Bool c0 t0.length B0,.cells g0 [vI 0] 35,.cells p0 [vN] 72,.cells y0 [.func (.func 70) #[] #[]] 138,.cells x0 [vI a3] 3,.cells v0 [v2_0] 53,.cells u0 [vI a1.fh,vI a1.fe,vI a1.fj,v1_3] 58,.cells A0 [v0_0] 30,.cells I0 [vI a1.fh,vI a1.fe,vI a1.fj,v1_3] 58]) (fun ⟨j0,t0,c0,B0⟩ E1=>Cells E1 (bl [rr w 4 Bool vN (([]:List Bool).length) [],rr w 4 Bool c0 t0.length B0,.cells g0 [vI 0] 35,.cells p0 [vN] 72,.cells y0 [.func (.func 70) #[] #[]] 138,.cells x0 [vI a3] 3,.cells v0 [v2_0] 53,.cells u0 [vI a1.fh,vI a1.fe,vI a1.fj,v1_3] 58,.cells A0 [v0_0] 30,.cells I0 [vI a1.fh,vI a1.fe,vI a1.fj,v1_3] 58] ++ L) B0 t0) (fun ⟨j0,t0,c0,B0⟩=>(j0,t0)) (0,([]:List Bool),vN,[]) W2 u1 (Ay (AB (cs:=[]) (xs:=([]:List Bool)) U0 L (AG _ _)) (BJ U0 4 (Rep.size Bool))) ?_
 rintro D3 ⟨j0,t0,c0,B0⟩ E1 H1 G0 x2 y1 h
 unfold bD_l1 at h
 try dsimp only at h
 refine Ae<|Ab (Bj (i:=j0) (j:=a0.length) rfl rfl)<|Aa<|Ai<|AO rfl h (fun F1 h=>?_) (fun F1 h=>?_)
 refine Ap<|Ai<|Au<|Ae<|bk h fun Q0 g3 h=>?_
 obtain ⟨A3,J3,K2,Q2,U3,Z2,V2⟩:=Bg (AM h0_0 G0) g3
 obtain rfl:=bw Z2
 refine Ab (Bi 3 j0 rfl K2 rfl rfl Q2)<|Ab (AK rfl V2)<|RG.nl [.string ⟨#[]⟩,vI 0,vW 0] G0 fun W4 F3 W1 y2=>AX [.string Q0.ft,vI Q0.fE,vU Q0.fm] W1 .hd (aq rfl) fun X4 d0 z2=>Aa<|Am<|Ac rfl<|AL rfl ((d0.memA .t5) 0 _ rfl)<|Ab (AK rfl (d0.memA .t8))<|AL rfl ((d0.memA .t7) 0 _ rfl)<|AL rfl ((d0.memA .t6) 0 _ rfl) ?_
 obtain ⟨B3,K3,c3,_⟩:=BI (AM h1_3 d0)
 obtain ⟨C3,M3,d3,_⟩:=BI (AM h2_0 d0)
 refine Ab (AU (vs:=[.agg #[vI a1.fh,vI a1.fe,vI a1.fj,v1_3],v2_0,vI a3]) (u:=.agg #[vI a1.fh,vI a1.fe,vI a1.fj,v1_3,v2_0,vI a3]) (e3 rfl rfl rfl) (fun p=>by rw [c3,d3]; try kernel_rfl))<|Ab (AK rfl (d0.memA .hd))<|bk h fun z0 p3 h=>Bk (.bool z0) (bd 70) rfl (e2 rfl rfl) (fun p q=>cS_c n (d0.hL0 hL q) (⟨a1,a2,a3⟩:Tm) (d0.k0 h1_3 q) (d0.k0 h2_0 q) Q0 (hG0.keep (d0.ag.trans q)) p3) rfl<|Ao .plain rfl (jA z0 (.bool z0) d0 gp (e1 rfl)) fun Y4 G3 V0 A2=>bk h fun x3 j3 h=>?_
 have D1:=Tt y2 (Tt z2 A2)
 refine BR .plain rfl (Bh (α:=Bool) (ys:=([z0]:List Bool)) j3 V0 (fun _ _=>.t3) gp rfl rfl (Ay y1 D1) (BN (α:=Bool) V0 .hd (jC z0 (.bool z0) V0 L rfl))) fun s3 Z4 ⟨G1,X1,B2,I2⟩=>Af rfl<|Aa<|Aw<|Am<|Ab (Bf (i:=j0) (j:=1) rfl rfl (by omega))<|Ac rfl<|Aa ?_
 obtain ⟨Y1,x1⟩:=AH X1 .d2
 exact H1 (j0 + 1,x3,s3,G1) Y1 (Tt x2 (Tt D1 (Tt B2 x1))) (Ay I2 x1) h
 refine AV rfl ?_
 have h:=M2 _ h
 try dsimp only at h
 refine Ae<|Ac rfl<|Af rfl<|Aa<|Ak rfl<|Ar (u:=c0) G2 func109 rfl (.cons (.tmp rfl) .nil) rfl<|RG.now .plain (AD (news:=[c0]) G0 .t3 rfl rfl rfl (St.c1 (α:=Bool) G0 .t1) rfl rfl (o1 (St.o1 (α:=Bool) G0 .t1))) fun b5 Z1 C2=>AX [vI 0] Z1 .t2 (o1 rfl) fun c5 H0 D2=>Aa<|Ak rfl<|RT.callD (vs:=[]) (cap:=[vP p0,vP g0]) (bd 148) func148 rfl rfl rfl fun P3 z1 R2=>Ae<|RG.recover0 .plain z1 rfl<|Af rfl<|Aa<|Ae<|Ac rfl<|Ab (FV.neqI0 underlying20 rfl rfl)<|Aa<|BA rfl<|Ap<|MX.fin rfl<|RT.leaveD0 z1 R2 func148 rfl .nil<|Ar (u:=.tuple #[c0,vI 0]) b1 func108 rfl (.cons (.one rfl rfl ((H0.memA .t3) 0 _ rfl)) (.cons (.one rfl rfl ((H0.memA .t2) 0 _ rfl)) .nil)) rfl<|Ab (Aj rfl rfl)<|Ab (Aj rfl rfl)<|Af rfl<|Af rfl<|Aa<|Ak rfl<|Ar (u:=.tuple #[c0,vI 0]) Z0 func69 rfl (.cons (.tmp rfl) (.cons (.tmp rfl) .nil)) rfl<|Ab (Aj rfl rfl)<|Ab (Aj rfl rfl)<|Af rfl<|Af rfl<|Aa<|Ak rfl ?_
 have W0:=Bq H0 .t1
 have s4:=Br H0 .t1
 have b3:=Bs (α:=Bool) (v:=c0) (xs:=t0) W0 L (Ba (α:=Bool) H0 .t1 (Ay y1 (Tt C2 D2)) hL)
 refine Ar hb0 func25 rfl (.cons (.tmp rfl) (.cons (.tmp rfl) .nil)) rfl ?_
 cases h
 exact ⟨W0.ag,fun p q=>⟨c0,rfl,W0.kd b3 q⟩⟩
theorem ex_Tb {a b:Tb} (h0:a.fN.1 = b.fN.1) (h1:a.fN.2.1 = b.fN.2.1) (h2:a.fN.2.2.1 = b.fN.2.2.1) (h3:a.fN.2.2.2.1 = b.fN.2.2.2.1) (h4:a.fN.2.2.2.2.1 = b.fN.2.2.2.2.1) (h5:a.fN.2.2.2.2.2.1 = b.fN.2.2.2.2.2.1) (h6:a.fN.2.2.2.2.2.2.1 = b.fN.2.2.2.2.2.2.1) (h7:a.fN.2.2.2.2.2.2.2 = b.fN.2.2.2.2.2.2.2) (h8:a.fD.1 = b.fD.1) (h9:a.fD.2.1 = b.fD.2.1) (b0:a.fD.2.2.1 = b.fD.2.2.1) (c0:a.fD.2.2.2.1 = b.fD.2.2.2.1) (d0:a.fD.2.2.2.2.1 = b.fD.2.2.2.2.1) (g0:a.fD.2.2.2.2.2.1 = b.fD.2.2.2.2.2.1) (j0:a.fD.2.2.2.2.2.2.1 = b.fD.2.2.2.2.2.2.1) (k0:a.fD.2.2.2.2.2.2.2 = b.fD.2.2.2.2.2.2.2):a = b:=congr (congrArg Tb.mk (kU (a:=a.fN) (b:=b.fN) h0 h1 h2 h3 h4 h5 h6 h7)) (kU (a:=a.fD) (b:=b.fD) h8 h9 b0 c0 d0 g0 j0 k0)
theorem jr (a b:Tb) (p:World):(do eqGuard .eql 42 (.tmp 0) (.tmp 0) (.agg #[vU a.fN.1,vU a.fN.2.1,vU a.fN.2.2.1,vU a.fN.2.2.2.1,vU a.fN.2.2.2.2.1,vU a.fN.2.2.2.2.2.1,vU a.fN.2.2.2.2.2.2.1,vU a.fN.2.2.2.2.2.2.2,vU a.fD.1,vU a.fD.2.1,vU a.fD.2.2.1,vU a.fD.2.2.2.1,vU a.fD.2.2.2.2.1,vU a.fD.2.2.2.2.2.1,vU a.fD.2.2.2.2.2.2.1,vU a.fD.2.2.2.2.2.2.2]) (.agg #[vU b.fN.1,vU b.fN.2.1,vU b.fN.2.2.1,vU b.fN.2.2.2.1,vU b.fN.2.2.2.2.1,vU b.fN.2.2.2.2.2.1,vU b.fN.2.2.2.2.2.2.1,vU b.fN.2.2.2.2.2.2.2,vU b.fD.1,vU b.fD.2.1,vU b.fD.2.2.1,vU b.fD.2.2.2.1,vU b.fD.2.2.2.2.1,vU b.fD.2.2.2.2.2.1,vU b.fD.2.2.2.2.2.2.1,vU b.fD.2.2.2.2.2.2.2]); binOp .eql 42 (.agg #[vU a.fN.1,vU a.fN.2.1,vU a.fN.2.2.1,vU a.fN.2.2.2.1,vU a.fN.2.2.2.2.1,vU a.fN.2.2.2.2.2.1,vU a.fN.2.2.2.2.2.2.1,vU a.fN.2.2.2.2.2.2.2,vU a.fD.1,vU a.fD.2.1,vU a.fD.2.2.1,vU a.fD.2.2.2.1,vU a.fD.2.2.2.2.1,vU a.fD.2.2.2.2.2.1,vU a.fD.2.2.2.2.2.2.1,vU a.fD.2.2.2.2.2.2.2]) (.agg #[vU b.fN.1,vU b.fN.2.1,vU b.fN.2.2.1,vU b.fN.2.2.2.1,vU b.fN.2.2.2.2.1,vU b.fN.2.2.2.2.2.1,vU b.fN.2.2.2.2.2.2.1,vU b.fN.2.2.2.2.2.2.2,vU b.fD.1,vU b.fD.2.1,vU b.fD.2.2.1,vU b.fD.2.2.2.1,vU b.fD.2.2.2.2.1,vU b.fD.2.2.2.2.2.1,vU b.fD.2.2.2.2.2.2.1,vU b.fD.2.2.2.2.2.2.2]):Sem Value).run Tryz.prog p = .ok (.bool (decide (a = b))) p:=
  eqAgg (ks:=[.int .u64,.int .u64,.int .u64,.int .u64,.int .u64,.int .u64,.int .u64,.int .u64,.int .u64,.int .u64,.int .u64,.int .u64,.int .u64,.int .u64,.int .u64,.int .u64]) (xs:=[vU a.fN.1,vU a.fN.2.1,vU a.fN.2.2.1,vU a.fN.2.2.2.1,vU a.fN.2.2.2.2.1,vU a.fN.2.2.2.2.2.1,vU a.fN.2.2.2.2.2.2.1,vU a.fN.2.2.2.2.2.2.2,vU a.fD.1,vU a.fD.2.1,vU a.fD.2.2.1,vU a.fD.2.2.2.1,vU a.fD.2.2.2.2.1,vU a.fD.2.2.2.2.2.1,vU a.fD.2.2.2.2.2.2.1,vU a.fD.2.2.2.2.2.2.2]) (ys:=[vU b.fN.1,vU b.fN.2.1,vU b.fN.2.2.1,vU b.fN.2.2.2.1,vU b.fN.2.2.2.2.1,vU b.fN.2.2.2.2.2.1,vU b.fN.2.2.2.2.2.2.1,vU b.fN.2.2.2.2.2.2.2,vU b.fD.1,vU b.fD.2.1,vU b.fD.2.2.1,vU b.fD.2.2.2.1,vU b.fD.2.2.2.2.1,vU b.fD.2.2.2.2.2.1,vU b.fD.2.2.2.2.2.2.1,vU b.fD.2.2.2.2.2.2.2]) (by kernel_rfl) (by kernel_rfl) (by kernel_rfl) rfl rfl ⟨fun h=>by
    simp only [bI,veq,Bool.and_eq_true,beq_iff_eq,and_true] at h
    obtain ⟨h0,h1,h2,h3,h4,h5,h6,h7,h8,h9,b0,c0,d0,g0,j0,k0⟩:=h
    exact ex_Tb (aw h0) (aw h1) (aw h2) (aw h3) (aw h4) (aw h5) (aw h6) (aw h7) (aw h8) (aw h9) (aw b0) (aw c0) (aw d0) (aw g0) (aw j0) (aw k0),fun h=>by subst h; simp [bI,veq]⟩ _ _ p
def ae_l1 (_n:Nat) (a0:List Tb) (a1:List Tb) (c0:Nat -> Option (Bool ⊕ Unit)):Nat -> Option (Bool ⊕ Unit)
  | b0=>(if b0 < a0.length then (a0[b0]?).bind fun d0=>(a1[b0]?).bind fun g0=>(if d0 = g0 then c0 (b0 + 1) else some (.inl false)) else some (.inr ()))
def ae_p (n:Nat) (a0:List Tb) (a1:List Tb):Option Bool:=
  (if a0.length = a1.length then thn (ah (ae_l1 n a0 a1) n 0) (fun _=>some true) else some false)
theorem ae_c (n:Nat) {L w} (_hL:hl L w) {a0:List Tb} {v0_0:Value} (h0_0:Rep.R w L [v0_0] a0) {a1:List Tb} {v1_0:Value} (h1_0:Rep.R w L [v1_0] a1)  {r:Bool} (h:ae_p n a0 a1 = some r) :
 Cl 28 #[v0_0,v1_0] w (ae w fun _ u=>u = .bool r):=by
 unfold ae_p at h
 have hS0:=AC w
 refine AF func28 rfl rfl rfl fun _ cs0 hb0=>Ae<|Af rfl<|Aa<|Ai<|Ae<|Ac rfl ?_
 have hl1:a0.length <= 281474976710656:=AS h0_0
 refine Ab (AW (xs:=a0) underlying60 rfl h0_0)<|Ac rfl ?_
 have hl2:a1.length <= 281474976710656:=AS h1_0
 refine Ab (AW (xs:=a1) underlying60 rfl h1_0)<|Ab (FV.neqN (i:=a0.length) (j:=a1.length) rfl rfl)<|Aa<|MX.ifn rfl h (fun c3 h=>?_) (fun c3 h=>?_)
 refine Ap<|Ai<|Ae<|Ac rfl<|Ab (AW (xs:=a0) underlying60 rfl h0_0)<|Ac rfl<|Aa<|Au<|tn h fun R0 C0 j0=>BT (α:=Nat) (fun b0=>[(0,v0_0),(1,v1_0),(12,vI ((a0.length:Nat):Int)),(13,vI ((b0:Nat):Int))]) (fun b0=>[]) (fun b0=>b0) 0 C0 hS0 ?_
 rintro J0 b0 U0 t0 g0 u0 h
 unfold ae_l1 at h
 try dsimp only at h
 refine Ae<|Ab (Bj (i:=b0) (j:=a0.length) rfl rfl)<|Aa<|Ai<|AO rfl h (fun q0 h=>?_) (fun q0 h=>?_)
 refine Ap<|Ai<|Au<|Ae<|Ac rfl<|Af rfl<|Aa<|Ai<|du 9 fun c0 d0=>Rv 0 c0 rfl d0 (fun _=>Ah rfl)<|Rv 1 c0 rfl d0 (fun _=>Ah rfl)<|bk h fun k0 F0 h=>?_
 obtain ⟨H0,K0,v0,y0,P0,D0,A0⟩:=Bg (AM h0_0 g0) F0
 obtain rfl:=kI D0
 refine Rv 2 c0 rfl d0 (fun _=>Bi 16 b0 rfl v0 rfl rfl y0)<|Rx 3 256 c0 rfl d0 (AK rfl A0)<|Rv 4 c0 rfl d0 (fun _=>Ah rfl)<|Rv 5 c0 rfl d0 (fun _=>Ah rfl)<|bk h fun p0 G0 h=>?_
 obtain ⟨I0,M0,x0,z0,Q0,E0,B0⟩:=Bg (AM h1_0 g0) G0
 obtain rfl:=kI E0
 refine Rv 6 c0 rfl d0 (fun _=>Bi 16 b0 rfl x0 rfl rfl z0)<|Rx 7 256 c0 rfl d0 (AK rfl B0)<|Rv 8 c0 rfl d0 (fun _=>FV.neqV (xs:=((ac k0)).toArray) (ys:=((ac p0)).toArray) rfl rfl (by kernel_rfl) (jr k0 p0))<|AR (dk c0)<|MX.ifn rfl h (fun s0 h=>?_) (fun s0 h=>?_)
 refine Ap<|Aw<|Am<|Ab (Bf (i:=b0) (j:=1) rfl rfl (by omega))<|Ac rfl<|Aa<|t0 (b0 + 1) g0 u0 h
 refine Ae<|Af rfl<|Aa ?_
 have h:=ap h j0
 refine Ak rfl<|AQ hb0 func28 rfl rfl ?_
 cases h
 exact g0.gv
 refine AV rfl ?_
 have h:=aA h j0
 try dsimp only at h
 refine Ae<|Af rfl<|Aa<|Ak rfl<|AQ hb0 func28 rfl rfl ?_
 cases h
 exact g0.gv
 refine Ae<|Af rfl<|Aa<|Ak rfl<|AQ hb0 func28 rfl rfl ?_
 cases h
 exact hS0.gv
def ay_l1 (_n:Nat) (a0:List UInt64) (a1:List UInt64) (b0:Nat -> Option (Bool ⊕ Unit)):Nat -> Option (Bool ⊕ Unit)
  | i32=>(if i32 < a0.length then (a0[i32]?).bind fun c0=>(a1[i32]?).bind fun d0=>(if c0 = d0 then b0 (i32 + 1) else some (.inl false)) else some (.inr ()))
def ay_p (n:Nat) (a0:List UInt64) (a1:List UInt64):Option Bool:=
  (if a0.length = a1.length then thn (ah (ay_l1 n a0 a1) n 0) (fun _=>some true) else some false)
theorem ay_c (n:Nat) {L w} (_hL:hl L w) {a0:List UInt64} {v0_0:Value} (h0_0:Rep.R w L [v0_0] a0) {a1:List UInt64} {v1_0:Value} (h1_0:Rep.R w L [v1_0] a1)  {r:Bool} (h:ay_p n a0 a1 = some r) :
 Cl 35 #[v0_0,v1_0] w (ae w fun _ u=>u = .bool r):=by
 unfold ay_p at h
 have hS0:=AC w
 refine AF func35 rfl rfl rfl fun _ cs0 hb0=>Ae<|Af rfl<|Aa<|Ai<|Ae<|Ac rfl ?_
 have hl1:a0.length <= 281474976710656:=AS h0_0
 refine Ab (AW (xs:=a0) underlying75 rfl h0_0)<|Ac rfl ?_
 have hl2:a1.length <= 281474976710656:=AS h1_0
 refine Ab (AW (xs:=a1) underlying75 rfl h1_0)<|Ab (FV.neqN (i:=a0.length) (j:=a1.length) rfl rfl)<|Aa<|MX.ifn rfl h (fun c3 h=>?_) (fun c3 h=>?_)
 refine Ap<|Ai<|Ae<|Ac rfl<|Ab (AW (xs:=a0) underlying75 rfl h0_0)<|Ac rfl<|Aa<|Au<|tn h fun U0 F0 g0=>BT (α:=Nat) (fun i32=>[(0,v0_0),(1,v1_0),(12,vI ((a0.length:Nat):Int)),(13,vI ((i32:Nat):Int))]) (fun i32=>[]) (fun i32=>i32) 0 F0 hS0 ?_
 rintro P0 i32 V0 u0 d0 v0 h
 unfold ay_l1 at h
 try dsimp only at h
 refine Ae<|Ab (Bj (i:=i32) (j:=a0.length) rfl rfl)<|Aa<|Ai<|AO rfl h (fun p0 h=>?_) (fun p0 h=>?_)
 refine Ap<|Ai<|Au<|Ae<|Ac rfl<|Af rfl<|Aa<|Ai<|du 9 fun b0 c0=>Rv 0 b0 rfl c0 (fun _=>Ah rfl)<|Rv 1 b0 rfl c0 (fun _=>Ah rfl)<|bk h fun j0 I0 h=>?_
 obtain ⟨K0,Q0,x0,B0,s0,G0,D0⟩:=Bg (AM h0_0 d0) I0
 have y0:s0 = [vU j0]:=G0; subst y0
 refine Rv 2 b0 rfl c0 (fun _=>Bi 1 i32 rfl x0 rfl rfl B0)<|Rx 3 256 b0 rfl c0 (AN rfl (D0 0 _ rfl))<|Rv 4 b0 rfl c0 (fun _=>Ah rfl)<|Rv 5 b0 rfl c0 (fun _=>Ah rfl)<|bk h fun k0 J0 h=>?_
 obtain ⟨M0,R0,z0,C0,t0,H0,E0⟩:=Bg (AM h1_0 d0) J0
 have A0:t0 = [vU k0]:=H0; subst A0
 refine Rv 6 b0 rfl c0 (fun _=>Bi 1 i32 rfl z0 rfl rfl C0)<|Rx 7 256 b0 rfl c0 (AN rfl (E0 0 _ rfl))<|Rv 8 b0 rfl c0 (fun _=>FV.neqU (a:=j0) (b:=k0) rfl rfl)<|AR (dk b0)<|MX.ifn rfl h (fun q0 h=>?_) (fun q0 h=>?_)
 refine Ap<|Aw<|Am<|Ab (Bf (i:=i32) (j:=1) rfl rfl (by omega))<|Ac rfl<|Aa<|u0 (i32 + 1) d0 v0 h
 refine Ae<|Af rfl<|Aa ?_
 have h:=ap h g0
 refine Ak rfl<|AQ hb0 func35 rfl rfl ?_
 cases h
 exact d0.gv
 refine AV rfl ?_
 have h:=aA h g0
 try dsimp only at h
 refine Ae<|Af rfl<|Aa<|Ak rfl<|AQ hb0 func35 rfl rfl ?_
 cases h
 exact d0.gv
 refine Ae<|Af rfl<|Aa<|Ak rfl<|AQ hb0 func35 rfl rfl ?_
 cases h
 exact hS0.gv
theorem eE:ElT Tryz.prog 56 96 (Rep.size Tc) 104 (.agg #[.string ⟨#[]⟩,vI 0,vN,vN,vN,.bool false]) [.string ⟨#[]⟩,vI 0,vN,vN,vN,.bool false]:=⟨underlying56,by kernel_rfl,rfl,rfl,rfl,rfl⟩
theorem jY:ElT Tryz.prog 30 65 (Rep.size Ta) 32 (.agg #[.string ⟨#[]⟩,vI 0,vW 0]) [.string ⟨#[]⟩,vI 0,vW 0]:=⟨underlying30,by kernel_rfl,rfl,rfl,rfl,rfl⟩
def cP_p (_n:Nat):Option (Te × (List Ta)):=
  (app ([]:List Tc) ([(⟨⟨#[97]⟩,(10:Int),([]:List Int),([]:List Int),([]:List Int),false⟩:Tc)]:List Tc)).bind fun c0=>(app c0 ([(⟨⟨#[98]⟩,(20:Int),([]:List Int),([]:List Int),([]:List Int),false⟩:Tc)]:List Tc)).bind fun d0=>(app d0 ([(⟨⟨#[99]⟩,(30:Int),([]:List Int),([]:List Int),([]:List Int),false⟩:Tc)]:List Tc)).bind fun g0=>(app g0 ([(⟨⟨#[100]⟩,(40:Int),([]:List Int),([]:List Int),([]:List Int),false⟩:Tc)]:List Tc)).bind fun b0=>some ((⟨(0:Int),(0:Int),(0:Int),b0⟩:Te),([(⟨⟨#[88]⟩,(3:Int),7⟩:Ta),(⟨⟨#[89]⟩,(1:Int),12⟩:Ta)]:List Ta))
theorem cP_c (n:Nat) {L w} (_hL:hl L w)  {r:Te × (List Ta)} (h:cP_p n = some r) :
 Cl 38 #[] w (ae w fun w' u=>∃ (v0_3 v1_0:Value) (cs0_3 cs1_0:List Value),u = .tuple #[.agg #[vI r.1.fh,vI r.1.fe,vI r.1.fj,v0_3],v1_0]/\St w w' (aJ w.heap.size [(96,Rep.size Tc,v0_3,r.1.fm.length,cs0_3),(65,Rep.size Ta,v1_0,r.2.length,cs1_0)])/\Cells w' (bl (aJ w.heap.size [(96,Rep.size Tc,v0_3,r.1.fm.length,cs0_3),(65,Rep.size Ta,v1_0,r.2.length,cs1_0)]) ++ L) cs0_3 (r.1.fm:List Tc)/\Cells w' (bl (aJ w.heap.size [(96,Rep.size Tc,v0_3,r.1.fm.length,cs0_3),(65,Rep.size Ta,v1_0,r.2.length,cs1_0)]) ++ L) cs1_0 (r.2:List Ta)):=by
 unfold cP_p at h
 refine AF func38 rfl rfl rfl fun _ cs0 hb0=>Ae<|RG.nl [vI 0,vI 0,vI 0,vN] (AC w) fun q2 H1 U0 W1=>Af rfl<|Aa<|Ae<|RG.nl [vI 0,vI 0,vI 0,vN] U0 fun x2 I1 q0 X1=>Aa<|Ai<|Ae<|Ab (AU (vs:=[.string ⟨#[97]⟩,.string ⟨#[98]⟩,.string ⟨#[99]⟩,.string ⟨#[100]⟩]) (u:=.agg #[.string ⟨#[97]⟩,.string ⟨#[98]⟩,.string ⟨#[99]⟩,.string ⟨#[100]⟩]) (e4 rfl rfl rfl rfl) (fun p=>by kernel_rfl))<|Ac rfl<|Aa<|Au<|MX.loop1<|Ae<|Ab (Bj (i:=0) (j:=4) rfl rfl)<|Aa<|Ai<|AZ rfl<|Ap<|Ai<|Au<|Ae<|Ac rfl<|Ab (FV.idx1 (cs:=[.string ⟨#[97]⟩,.string ⟨#[98]⟩,.string ⟨#[99]⟩,.string ⟨#[100]⟩]) (k:=0) (m:=1) (len:=4) rfl rfl rfl rfl rfl (by omega) rfl)<|Af rfl<|Af rfl<|Aa<|Am<|AT 3 rfl<|AL rfl ((q0.memA .hd) 3 _ rfl)<|Ac rfl<|Ac rfl<|Ab (FV.add (i:=0) (j:=1) (r:=1) rfl rfl (by decide))<|Ab (FV.mul (i:=10) (j:=1) (r:=10) rfl rfl (by decide))<|Ab (AU (vs:=[.string ⟨#[97]⟩,vI 10]) (u:=.agg #[.string ⟨#[97]⟩,vI 10,vN,vN,vN,.bool false]) (e2 rfl rfl) (fun p=>by kernel_rfl)) ?_
 have d2:=Rep.nilAt (α:=Int) q0 L
 refine Ao .plain rfl (AJ (α:=Tc) (xs:=([(⟨⟨#[97]⟩,(10:Int),([]:List Int),([]:List Int),([]:List Int),false⟩:Tc)]:List Tc)) (vs:=[.agg #[.string ⟨#[97]⟩,vI 10,vN,vN,vN,.bool false]]) (ds' :=[.string ⟨#[97]⟩,vI 10,vN,vN,vN,.bool false]) rfl q0 eE rfl (e1 rfl) (by kernel_rfl) rfl) fun y2 J1 c0 Y1=>?_
 have A0:=Rep.nilAt (α:=Int) c0 L
 have s0:=c0.nilRow 96 (Rep.size Tc)
 refine bk h fun J2 E1 h=>BR .plain rfl (Bh (α:=Tc) (ys:=([(⟨⟨#[97]⟩,(10:Int),([]:List Int),([]:List Int),([]:List Int),false⟩:Tc)]:List Tc)) E1 s0 (fun _ _=>.hd) eE rfl rfl (AB (cs:=[]) (xs:=([]:List Tc)) s0 L (AG _ _)) (BN (α:=Tc) s0 .t1 (Ay (AB (cs:=[.string ⟨#[97]⟩,vI 10,vN,vN,vN,.bool false]) (xs:=(([(⟨⟨#[97]⟩,(10:Int),([]:List Int),([]:List Int),([]:List Int),false⟩:Tc)]:List Tc):List Tc)) c0 L (Ax (cs:=[.string ⟨#[97]⟩,vI 10,vN,vN,vN,.bool false]) (ds:=[]) (cR ⟨#[97]⟩ (10:Int) ([]:List Int) A0 ([]:List Int) A0 ([]:List Int) A0 false) (AG _ _))) (BJ c0 96 (Rep.size Tc))))) fun E0 z2 ⟨Q1,t0,Z1,A1⟩=>AT 3 rfl<|RG.now .plain (BM (j:=3) (old:=[vI 0,vI 0,vI 0,vN]) (news:=[E0]) (new' :=[vI 0,vI 0,vI 0,E0]) t0 .t2 rfl rfl rfl (St.c1 (α:=Tc) t0 .hd) rfl rfl (o1 (St.o1 (α:=Tc) t0 .hd)) rfl) fun A2 V0 g1=>Aa<|Aw<|Am<|Ab (FV.add (i:=0) (j:=1) (r:=1) rfl rfl (by decide))<|Ac rfl<|Aa<|MX.again1 ?_
 obtain ⟨u0,j1⟩:=AH V0 (.a0 .d1)
 refine Ae<|Ab (Bj (i:=1) (j:=4) rfl rfl)<|Aa<|Ai<|AZ rfl<|Ap<|Ai<|Au<|Ae<|Ac rfl<|Ab (FV.idx1 (cs:=[.string ⟨#[97]⟩,.string ⟨#[98]⟩,.string ⟨#[99]⟩,.string ⟨#[100]⟩]) (k:=1) (m:=1) (len:=4) rfl rfl rfl rfl rfl (by omega) rfl)<|Af rfl<|Af rfl<|Aa<|Am<|AT 3 rfl<|AL rfl ((u0.memA .t1) 3 _ rfl)<|Ac rfl<|Ac rfl<|Ab (FV.add (i:=1) (j:=1) (r:=2) rfl rfl (by decide))<|Ab (FV.mul (i:=10) (j:=2) (r:=20) rfl rfl (by decide))<|Ab (AU (vs:=[.string ⟨#[98]⟩,vI 20]) (u:=.agg #[.string ⟨#[98]⟩,vI 20,vN,vN,vN,.bool false]) (e2 rfl rfl) (fun p=>by kernel_rfl)) ?_
 have g2:=Rep.nilAt (α:=Int) u0 L
 refine Ao .plain rfl (AJ (α:=Tc) (xs:=([(⟨⟨#[98]⟩,(20:Int),([]:List Int),([]:List Int),([]:List Int),false⟩:Tc)]:List Tc)) (vs:=[.agg #[.string ⟨#[98]⟩,vI 20,vN,vN,vN,.bool false]]) (ds' :=[.string ⟨#[98]⟩,vI 20,vN,vN,vN,.bool false]) rfl u0 eE rfl (e1 rfl) (by kernel_rfl) rfl) fun B2 K1 d0 k1=>?_
 have B0:=Rep.nilAt (α:=Int) d0 L
 refine bk h fun K2 F1 h=>BR .plain rfl (Bh (α:=Tc) (ys:=([(⟨⟨#[98]⟩,(20:Int),([]:List Int),([]:List Int),([]:List Int),false⟩:Tc)]:List Tc)) F1 d0 (fun _ _=>.t1) eE rfl rfl (Ay A1 (Tt g1 (Tt j1 k1))) (BN (α:=Tc) d0 .hd (AB (cs:=[.string ⟨#[98]⟩,vI 20,vN,vN,vN,.bool false]) (xs:=(([(⟨⟨#[98]⟩,(20:Int),([]:List Int),([]:List Int),([]:List Int),false⟩:Tc)]:List Tc):List Tc)) d0 L (Ax (cs:=[.string ⟨#[98]⟩,vI 20,vN,vN,vN,.bool false]) (ds:=[]) (cR ⟨#[98]⟩ (20:Int) ([]:List Int) B0 ([]:List Int) B0 ([]:List Int) B0 false) (AG _ _))))) fun F0 C2 ⟨R1,v0,b2,B1⟩=>AT 3 rfl<|RG.now .plain (BM (j:=3) (old:=[vI 0,vI 0,vI 0,E0]) (news:=[F0]) (new' :=[vI 0,vI 0,vI 0,F0]) v0 .t2 rfl rfl rfl (St.c1 (α:=Tc) v0 .t1) rfl rfl (o1 (St.o1 (α:=Tc) v0 .t1)) rfl) fun D2 W0 p1=>Aa<|Aw<|Am<|Ab (FV.add (i:=1) (j:=1) (r:=2) rfl rfl (by decide))<|Ac rfl<|Aa<|MX.again1 ?_
 obtain ⟨x0,q1⟩:=AH W0 .d1
 refine Ae<|Ab (Bj (i:=2) (j:=4) rfl rfl)<|Aa<|Ai<|AZ rfl<|Ap<|Ai<|Au<|Ae<|Ac rfl<|Ab (FV.idx1 (cs:=[.string ⟨#[97]⟩,.string ⟨#[98]⟩,.string ⟨#[99]⟩,.string ⟨#[100]⟩]) (k:=2) (m:=1) (len:=4) rfl rfl rfl rfl rfl (by omega) rfl)<|Af rfl<|Af rfl<|Aa<|Am<|AT 3 rfl<|AL rfl ((x0.memA .t1) 3 _ rfl)<|Ac rfl<|Ac rfl<|Ab (FV.add (i:=2) (j:=1) (r:=3) rfl rfl (by decide))<|Ab (FV.mul (i:=10) (j:=3) (r:=30) rfl rfl (by decide))<|Ab (AU (vs:=[.string ⟨#[99]⟩,vI 30]) (u:=.agg #[.string ⟨#[99]⟩,vI 30,vN,vN,vN,.bool false]) (e2 rfl rfl) (fun p=>by kernel_rfl)) ?_
 have j2:=Rep.nilAt (α:=Int) x0 L
 refine Ao .plain rfl (AJ (α:=Tc) (xs:=([(⟨⟨#[99]⟩,(30:Int),([]:List Int),([]:List Int),([]:List Int),false⟩:Tc)]:List Tc)) (vs:=[.agg #[.string ⟨#[99]⟩,vI 30,vN,vN,vN,.bool false]]) (ds' :=[.string ⟨#[99]⟩,vI 30,vN,vN,vN,.bool false]) rfl x0 eE rfl (e1 rfl) (by kernel_rfl) rfl) fun E2 M1 g0 s1=>?_
 have C0:=Rep.nilAt (α:=Int) g0 L
 refine bk h fun M2 G1 h=>BR .plain rfl (Bh (α:=Tc) (ys:=([(⟨⟨#[99]⟩,(30:Int),([]:List Int),([]:List Int),([]:List Int),false⟩:Tc)]:List Tc)) G1 g0 (fun _ _=>.t1) eE rfl rfl (Ay B1 (Tt p1 (Tt q1 s1))) (BN (α:=Tc) g0 .hd (AB (cs:=[.string ⟨#[99]⟩,vI 30,vN,vN,vN,.bool false]) (xs:=(([(⟨⟨#[99]⟩,(30:Int),([]:List Int),([]:List Int),([]:List Int),false⟩:Tc)]:List Tc):List Tc)) g0 L (Ax (cs:=[.string ⟨#[99]⟩,vI 30,vN,vN,vN,.bool false]) (ds:=[]) (cR ⟨#[99]⟩ (30:Int) ([]:List Int) C0 ([]:List Int) C0 ([]:List Int) C0 false) (AG _ _))))) fun G0 F2 ⟨U1,y0,c2,C1⟩=>AT 3 rfl<|RG.now .plain (BM (j:=3) (old:=[vI 0,vI 0,vI 0,F0]) (news:=[G0]) (new' :=[vI 0,vI 0,vI 0,G0]) y0 .t2 rfl rfl rfl (St.c1 (α:=Tc) y0 .t1) rfl rfl (o1 (St.o1 (α:=Tc) y0 .t1)) rfl) fun G2 X0 u1=>Aa<|Aw<|Am<|Ab (FV.add (i:=2) (j:=1) (r:=3) rfl rfl (by decide))<|Ac rfl<|Aa<|MX.again1 ?_
 obtain ⟨z0,v1⟩:=AH X0 .d1
 refine Ae<|Ab (Bj (i:=3) (j:=4) rfl rfl)<|Aa<|Ai<|AZ rfl<|Ap<|Ai<|Au<|Ae<|Ac rfl<|Ab (FV.idx1 (cs:=[.string ⟨#[97]⟩,.string ⟨#[98]⟩,.string ⟨#[99]⟩,.string ⟨#[100]⟩]) (k:=3) (m:=1) (len:=4) rfl rfl rfl rfl rfl (by omega) rfl)<|Af rfl<|Af rfl<|Aa<|Am<|AT 3 rfl<|AL rfl ((z0.memA .t1) 3 _ rfl)<|Ac rfl<|Ac rfl<|Ab (FV.add (i:=3) (j:=1) (r:=4) rfl rfl (by decide))<|Ab (FV.mul (i:=10) (j:=4) (r:=40) rfl rfl (by decide))<|Ab (AU (vs:=[.string ⟨#[100]⟩,vI 40]) (u:=.agg #[.string ⟨#[100]⟩,vI 40,vN,vN,vN,.bool false]) (e2 rfl rfl) (fun p=>by kernel_rfl)) ?_
 have k2:=Rep.nilAt (α:=Int) z0 L
 refine Ao .plain rfl (AJ (α:=Tc) (xs:=([(⟨⟨#[100]⟩,(40:Int),([]:List Int),([]:List Int),([]:List Int),false⟩:Tc)]:List Tc)) (vs:=[.agg #[.string ⟨#[100]⟩,vI 40,vN,vN,vN,.bool false]]) (ds' :=[.string ⟨#[100]⟩,vI 40,vN,vN,vN,.bool false]) rfl z0 eE rfl (e1 rfl) (by kernel_rfl) rfl) fun H2 P1 j0 x1=>?_
 have D0:=Rep.nilAt (α:=Int) j0 L
 refine bk h fun I2 D1 h=>BR .plain rfl (Bh (α:=Tc) (ys:=([(⟨⟨#[100]⟩,(40:Int),([]:List Int),([]:List Int),([]:List Int),false⟩:Tc)]:List Tc)) D1 j0 (fun _ _=>.t1) eE rfl rfl (Ay C1 (Tt u1 (Tt v1 x1))) (BN (α:=Tc) j0 .hd (AB (cs:=[.string ⟨#[100]⟩,vI 40,vN,vN,vN,.bool false]) (xs:=(([(⟨⟨#[100]⟩,(40:Int),([]:List Int),([]:List Int),([]:List Int),false⟩:Tc)]:List Tc):List Tc)) j0 L (Ax (cs:=[.string ⟨#[100]⟩,vI 40,vN,vN,vN,.bool false]) (ds:=[]) (cR ⟨#[100]⟩ (40:Int) ([]:List Int) D0 ([]:List Int) D0 ([]:List Int) D0 false) (AG _ _))))) fun b0 p2 ⟨Q0,k0,V1,y1⟩=>AT 3 rfl<|RG.now .plain (BM (j:=3) (old:=[vI 0,vI 0,vI 0,G0]) (news:=[b0]) (new' :=[vI 0,vI 0,vI 0,b0]) k0 .t2 rfl rfl rfl (St.c1 (α:=Tc) k0 .t1) rfl rfl (o1 (St.o1 (α:=Tc) k0 .t1)) rfl) fun s2 R0 Y0=>Aa<|Aw<|Am<|Ab (FV.add (i:=3) (j:=1) (r:=4) rfl rfl (by decide))<|Ac rfl<|Aa<|MX.again1 ?_
 obtain ⟨I0,Z0⟩:=AH R0 .d1
 refine Ae<|Ab (Bj (i:=4) (j:=4) rfl rfl)<|Aa<|Ai<|BA rfl<|AV rfl<|Ae<|Ab (AK rfl (I0.memA .t1))<|Ab (AU (vs:=[.string ⟨#[88]⟩,vI 3,vW 7]) (u:=.agg #[.string ⟨#[88]⟩,vI 3,vW 7]) (e3 rfl rfl rfl) (fun p=>by kernel_rfl))<|Ab (AU (vs:=[.string ⟨#[89]⟩,vI 1,vW 12]) (u:=.agg #[.string ⟨#[89]⟩,vI 1,vW 12]) (e3 rfl rfl rfl) (fun p=>by kernel_rfl))<|Ao .plain rfl (AJ (α:=Ta) (xs:=([(⟨⟨#[88]⟩,(3:Int),7⟩:Ta),(⟨⟨#[89]⟩,(1:Int),12⟩:Ta)]:List Ta)) (vs:=[.agg #[.string ⟨#[88]⟩,vI 3,vW 7],.agg #[.string ⟨#[89]⟩,vI 1,vW 12]]) (ds' :=[.string ⟨#[88]⟩,vI 3,vW 7,.string ⟨#[89]⟩,vI 1,vW 12]) rfl I0 jY rfl (e2 rfl rfl) (by kernel_rfl) rfl) fun u2 H0 p0 b1=>?_
 have z1:=AB (cs:=[.string ⟨#[88]⟩,vI 3,vW 7,.string ⟨#[89]⟩,vI 1,vW 12]) (xs:=(([(⟨⟨#[88]⟩,(3:Int),7⟩:Ta),(⟨⟨#[89]⟩,(1:Int),12⟩:Ta)]:List Ta):List Ta)) p0 L (Ax (cs:=[.string ⟨#[88]⟩,vI 3,vW 7]) (ds:=[.string ⟨#[89]⟩,vI 1,vW 12]) (eD ⟨#[88]⟩ (3:Int) (7:UInt64)) (Ax (cs:=[.string ⟨#[89]⟩,vI 1,vW 12]) (ds:=[]) (eD ⟨#[89]⟩ (1:Int) (12:UInt64)) (AG _ _)))
 refine AX [vI 0,vI 0,vI 0,b0] p0 .t3 (o4 rfl rfl rfl (St.o1 (α:=Tc) p0 .t1)) fun v2 J0 M0=>Af rfl<|Aa<|Ak rfl<|Ar (u:=.tuple #[.agg #[vI 0,vI 0,vI 0,b0],(vS H0 2)]) hb0 func38 rfl (.cons (.many (cs:=[vI 0,vI 0,vI 0,b0]) rfl rfl (J0.memA .t3)) (.cons (.tmp rfl) .nil)) rfl ?_
 obtain ⟨K0,P0⟩:=AH J0 (.a1 (.a0 .done))
 cases h
 exact ⟨K0.ag,fun p q=>⟨b0,(vS H0 2),Q0,[.string ⟨#[88]⟩,vI 3,vW 7,.string ⟨#[89]⟩,vI 1,vW 12],rfl,K0.agree q,Cells.keep0 (Ay y1 (Tt Y0 (Tt Z0 (Tt b1 (Tt M0 P0))))) q,Cells.keep0 (Ay z1 (Tt M0 P0)) q⟩⟩
def aK_l1 (_n:Nat) (a0:List Bool) (a1:List Bool) (b0:Nat -> Option (Bool ⊕ Unit)):Nat -> Option (Bool ⊕ Unit)
  | i32=>(if i32 < a0.length then (a0[i32]?).bind fun c0=>(a1[i32]?).bind fun d0=>(if (c0 == d0) = true then b0 (i32 + 1) else some (.inl false)) else some (.inr ()))
def aK_p (n:Nat) (a0:List Bool) (a1:List Bool):Option Bool:=
  (if a0.length = a1.length then thn (ah (aK_l1 n a0 a1) n 0) (fun _=>some true) else some false)
theorem aK_c (n:Nat) {L w} (_hL:hl L w) {a0:List Bool} {v0_0:Value} (h0_0:Rep.R w L [v0_0] a0) {a1:List Bool} {v1_0:Value} (h1_0:Rep.R w L [v1_0] a1)  {r:Bool} (h:aK_p n a0 a1 = some r) :
 Cl 33 #[v0_0,v1_0] w (ae w fun _ u=>u = .bool r):=by
 unfold aK_p at h
 have hS0:=AC w
 refine AF func33 rfl rfl rfl fun _ cs0 hb0=>Ae<|Af rfl<|Aa<|Ai<|Ae<|Ac rfl ?_
 have hl1:a0.length <= 281474976710656:=AS h0_0
 refine Ab (AW (xs:=a0) underlying72 rfl h0_0)<|Ac rfl ?_
 have hl2:a1.length <= 281474976710656:=AS h1_0
 refine Ab (AW (xs:=a1) underlying72 rfl h1_0)<|Ab (FV.neqN (i:=a0.length) (j:=a1.length) rfl rfl)<|Aa<|MX.ifn rfl h (fun c3 h=>?_) (fun c3 h=>?_)
 refine Ap<|Ai<|Ae<|Ac rfl<|Ab (AW (xs:=a0) underlying72 rfl h0_0)<|Ac rfl<|Aa<|Au<|tn h fun U0 F0 g0=>BT (α:=Nat) (fun i32=>[(0,v0_0),(1,v1_0),(12,vI ((a0.length:Nat):Int)),(13,vI ((i32:Nat):Int))]) (fun i32=>[]) (fun i32=>i32) 0 F0 hS0 ?_
 rintro P0 i32 V0 u0 d0 v0 h
 unfold aK_l1 at h
 try dsimp only at h
 refine Ae<|Ab (Bj (i:=i32) (j:=a0.length) rfl rfl)<|Aa<|Ai<|AO rfl h (fun p0 h=>?_) (fun p0 h=>?_)
 refine Ap<|Ai<|Au<|Ae<|Ac rfl<|Af rfl<|Aa<|Ai<|du 9 fun b0 c0=>Rv 0 b0 rfl c0 (fun _=>Ah rfl)<|Rv 1 b0 rfl c0 (fun _=>Ah rfl)<|bk h fun j0 I0 h=>?_
 obtain ⟨K0,Q0,x0,B0,s0,G0,D0⟩:=Bg (AM h0_0 d0) I0
 have y0:s0 = [.bool j0]:=G0; subst y0
 refine Rv 2 b0 rfl c0 (fun _=>Bi 1 i32 rfl x0 rfl rfl B0)<|Rx 3 256 b0 rfl c0 (AN rfl (D0 0 _ rfl))<|Rv 4 b0 rfl c0 (fun _=>Ah rfl)<|Rv 5 b0 rfl c0 (fun _=>Ah rfl)<|bk h fun k0 J0 h=>?_
 obtain ⟨M0,R0,z0,C0,t0,H0,E0⟩:=Bg (AM h1_0 d0) J0
 have A0:t0 = [.bool k0]:=H0; subst A0
 refine Rv 6 b0 rfl c0 (fun _=>Bi 1 i32 rfl z0 rfl rfl C0)<|Rx 7 256 b0 rfl c0 (AN rfl (E0 0 _ rfl))<|Rv 8 b0 rfl c0 (fun _=>FV.neqB (a:=j0) (b:=k0) underlying4 rfl rfl)<|AR (dk b0)<|BU rfl h (fun q0 h=>?_) (fun q0 h=>?_)
 refine Ap<|Aw<|Am<|Ab (Bf (i:=i32) (j:=1) rfl rfl (by omega))<|Ac rfl<|Aa<|u0 (i32 + 1) d0 v0 h
 refine Ae<|Af rfl<|Aa ?_
 have h:=ap h g0
 refine Ak rfl<|AQ hb0 func33 rfl rfl ?_
 cases h
 exact d0.gv
 refine AV rfl ?_
 have h:=aA h g0
 try dsimp only at h
 refine Ae<|Af rfl<|Aa<|Ak rfl<|AQ hb0 func33 rfl rfl ?_
 cases h
 exact d0.gv
 refine Ae<|Af rfl<|Aa<|Ak rfl<|AQ hb0 func33 rfl rfl ?_
 cases h
 exact hS0.gv
def cI_p (n:Nat) (a0:List Bool) (a1:Int) (a2:List Bool):Option Bool:=
  (aK_p n a0 a2).bind fun y1=>(if y1 = true then some (decide (a1 = 0)) else some false)
theorem cI_c (n:Nat) {L w} (hL:hl L w) {a0:List Bool} {v0_0:Value} (h0_0:Rep.R w L [v0_0] a0) {a1:Int} {a2:List Bool} {v2_0:Value} (h2_0:Rep.R w L [v2_0] a2) {p2:Nat} (m2:∀ j9 v9,([v2_0]:List Value)[j9]? = some v9 -> w.cell? ((⟨p2,0,none⟩:Addr).add j9) = some v9)  {r:Bool} (h:cI_p n a0 a1 a2 = some r) :
 Cl 84 #[v0_0,vI a1,.pointer (some ⟨p2,0,none⟩)] w (ae w fun _ u=>u = .bool r):=by
 unfold cI_p at h
 have hS0:=AC w
 refine AF func84 rfl rfl rfl fun _ cs0 hb0=>Ae<|Af rfl<|Aa<|Ae<|Ac rfl<|AL rfl ((fun j9 v9 h9=>hS0.ag.cell0 (m2 j9 v9 h9)) 0 _ rfl)<|bk h fun y1 hy1 h=>Bk (.bool y1) (bd 33) rfl (e2 rfl rfl) (fun p q=>aK_c n (hS0.hL0 hL q) (hS0.kd h0_0 q) (hS0.kd h2_0 q) hy1) rfl<|Ac rfl<|RG.ifb (s:=9) rfl h (fun c2 h=>?_) (fun c2 h=>?_)
 refine Az (Ah rfl)<|Az (FV.eql (i:=a1) (j:=0) rfl rfl)<|Bl rfl rfl<|Af rfl<|Aa<|Ak rfl<|AQ hb0 func84 rfl rfl ?_
 cases h
 exact hS0.gv
 refine Al<|Al<|Bn rfl rfl<|Af rfl<|Aa<|Ak rfl<|AQ hb0 func84 rfl rfl ?_
 cases h
 exact hS0.gv
theorem dH_c (_n:Nat) {L w} (_hL:hl L w) (a0:List Bool) {v0_0:Value} (h0_0:Rep.R w L [v0_0] a0)  :
 Cl 40 #[v0_0] w (ae w fun w' u=>∃ b0:Nat,u = .func (.func 84) #[] #[vP b0]/\St w w' [.cells b0 [v0_0] 72]):=by
 refine AF func40 rfl rfl rfl fun _ cs0 hb0=>Ae<|RG.bx (AC w) rfl (Rep.c1 h0_0) fun g0 b0 c0 d0=>Af rfl<|Aa<|Ae<|Ab (FV.makeFunc (vs:=[]) (us:=[vP b0]) am (e1 rfl))<|Af rfl<|Aa<|Ak rfl<|Ar (u:=.func (.func 84) #[] #[vP b0]) hb0 func40 rfl (.cons (.tmp rfl) .nil) rfl<|⟨c0.ag,fun p q=>⟨b0,rfl,c0.agree q⟩⟩
def cB_p (n:Nat) (a0:Tb) (a1:Int) (a2:Int) (a3:Int):Option Bool:=
  (cr_p n a2 a3).bind fun b0=>(if a0 = b0 then some (decide (a1 = 0)) else some false)
theorem cB_c (n:Nat) {L w} (hL:hl L w) (a0:Tb) {a1:Int} {a2:Int} {p2:Nat} (m2:∀ j9 v9,([vI a2]:List Value)[j9]? = some v9 -> w.cell? ((⟨p2,0,none⟩:Addr).add j9) = some v9) {a3:Int} {p3:Nat} (m3:∀ j9 v9,([vI a3]:List Value)[j9]? = some v9 -> w.cell? ((⟨p3,0,none⟩:Addr).add j9) = some v9)  {r:Bool} (h:cB_p n a0 a1 a2 a3 = some r) :
 Cl 85 #[.agg ((ac a0)).toArray,vI a1,.pointer (some ⟨p2,0,none⟩),.pointer (some ⟨p3,0,none⟩)] w (ae w fun _ u=>u = .bool r):=by
 unfold cB_p at h
 refine AF func85 rfl rfl rfl fun _ cs0 hb0=>Ae<|RG.bx (AC w) rfl rfl fun s0 p0 d0 q0=>Af rfl<|Aa<|Ai<|du 10 fun b0 c0=>Rx 0 1008 b0 rfl c0 (AK rfl (d0.memA .hd))<|Rx 1 1016 b0 rfl c0 (AN rfl ((fun j9 v9 h9=>d0.ag.cell0 (m2 j9 v9 h9)) 0 _ rfl))<|Rx 2 1016 b0 rfl c0 (AN rfl ((fun j9 v9 h9=>d0.ag.cell0 (m3 j9 v9 h9)) 0 _ rfl))<|bk h fun g0 k0 h=>RD.cq 3 15 1008 (.agg ((ac g0)).toArray) b0 rfl c0 (bd 20) rfl (e2 rfl rfl) (fun p q=>cr_c n (d0.hL0 hL q)  k0) rfl<|Rv 4 b0 rfl c0 (fun _=>FV.eqlV (v:=.agg ((ac a0)).toArray) (u:=.agg ((ac g0)).toArray) rfl rfl (jr a0 g0))<|Rv 5 b0 rfl c0 (fun _=>Ah rfl)<|RD.ifd (s:=12) rfl h (fun j0 h=>?_) (fun j0 h=>?_)
 refine RD.vP 6 127 b0 rfl c0 (.yes rfl rfl) (fun _=>Ah rfl) rfl<|RD.vP 7 255 b0 rfl c0 (.yes rfl rfl) (fun _=>FV.eql (i:=a1) (j:=0) rfl rfl) rfl<|Rv 8 b0 rfl c0 (fun _=>BP rfl rfl)<|Rv 9 b0 rfl c0 (fun _=>Bm rfl)<|AR (dk b0)<|Ak rfl<|AQ hb0 func85 rfl rfl ?_
 cases h
 exact d0.gv
 refine Bz 255 2 [(6,13),(7,14)] (F:=[(12,false)]) (U:=[]) b0 c0 (.cons rfl .nil) .nil ?_
 dsimp only [aP,List.map]
 refine Rv 8 b0 rfl c0 (fun _=>Bc rfl rfl)<|Rv 9 b0 rfl c0 (fun _=>Bm rfl)<|AR (dk b0)<|Ak rfl<|AQ hb0 func85 rfl rfl ?_
 cases h
 exact d0.gv
theorem dF_c (_n:Nat) {L w} (_hL:hl L w) (a0:Int) (a1:Int)  :
 Cl 41 #[vI a0,vI a1] w (ae w fun w' u=>∃ b0 c0:Nat,u = .func (.func 85) #[] #[vP b0,vP c0]/\St w w' [.cells b0 [vI a0] 3,.cells c0 [vI a1] 3]):=by
 refine AF func41 rfl rfl rfl fun _ cs0 hb0=>Ae<|RG.bx (AC w) rfl rfl fun t0 b0 j0 p0=>RG.bx j0 rfl rfl fun u0 c0 k0 q0=>Af rfl<|Aa<|Ae<|Ab (FV.makeFunc (vs:=[]) (us:=[vP b0,vP c0]) am (e2 rfl rfl))<|Af rfl<|Aa<|Ak rfl<|Ar (u:=.func (.func 85) #[] #[vP b0,vP c0]) hb0 func41 rfl (.cons (.tmp rfl) .nil) rfl ?_
 obtain ⟨g0,s0⟩:=AH k0 (.a1 .d0)
 exact ⟨g0.ag,fun p q=>⟨b0,c0,rfl,g0.agree q⟩⟩
theorem kf:ElT Tryz.prog 53 3 (Rep.size Int) 8 (vI 0) [vI 0]:=⟨underlying53,by kernel_rfl,rfl,rfl,rfl,rfl⟩
def cN_p (n:Nat):Option Bool:=
  (cP_p n).bind fun y1=>(cut y1.2 0 1).bind fun q0=>(bs_p n q0 y1.1 ([(0:Int),(0:Int),(1:Int),(1:Int)]:List Int) (2:Int)).bind fun b0=>(aO_p n y1.2 y1.1 ([(0:Int),(0:Int),(1:Int),(1:Int)]:List Int) (2:Int)).bind fun j0=>(cQ_p n (0:UInt64) (0:UInt64)).bind fun B0=>(bD_p n y1.2 y1.1 ([(0:Int),(0:Int),(1:Int),(1:Int)]:List Int) (2:Int)).bind fun c0=>(cI_p n c0.1 c0.2 ([false,true]:List Bool)).bind fun s0=>(if s0 = true then (if b0.2 = 0 then (if b0.1.length = 1 then (b0.1[0]?).bind fun k0=>(ay_p n k0 ([(3:UInt64),(4:UInt64)]:List UInt64)).bind fun t0=>(if t0 = true then (if j0.2 = 0 then (cr_p n (1:Int) (2:Int)).bind fun u0=>(cr_p n (1:Int) (1:Int)).bind fun v0=>(ae_p n j0.1 ([u0,v0]:List Tb)).bind fun x0=>(if x0 = true then (cm_p n y1.2 y1.1 ([(0:Int),(0:Int),(1:Int),(1:Int)]:List Int) (2:Int)).bind fun d0=>(cB_p n d0.1 d0.2 (5:Int) (8:Int)).bind fun y0=>(if y0 = true then (cQ_p n (7:UInt64) (12:UInt64)).bind fun g0=>(cB_p n g0.1 g0.2 (1:Int) (4:Int)).bind fun z0=>(if z0 = true then (if B0.2 = 7 then (cut y1.2 1 (y1.2.length:Int)).bind fun p0=>(a9_p n (3:Int) p0).bind fun A0=>some (decide (A0 = 270)) else some false) else some false) else some false) else some false) else some false) else some false) else some false) else some false) else some false)
theorem cN_c (n:Nat) {L w} (hL:hl L w) (hG0:Glob 0 tab0 w)  {r:Bool} (h:cN_p n = some r) :
 Cl 10 #[] w (ae w fun _ u=>u = .bool r):=by
 unfold cN_p at h
 have hS0:=AC w
 refine AF func10 rfl rfl rfl fun _ cs0 hb0=>Ae<|Af rfl<|Aa<|Ae<|bk h fun y1 hy1 h=>jE (bd 38) rfl am (fun p q=>lj (b0:=w.heap.size) (cP_c n (hS0.hL hL q)  hy1) q (Nat.le_trans hS0.ag.size q.size)) rfl fun w2 vu3 hag4 ⟨v9,u3,d2,g2,hu6,s5,y2,z2⟩=>?_
 subst hu6
 have hS7:=mK hS0 s5
 have hT8:=own_tr2 hS0 s5
 refine Ac rfl<|Ab (Aj rfl rfl)<|Ab (Aj rfl rfl)<|RG.nl [vI 0,vI 0,vI 0,vN] hS7 fun v4 I3 x1 p2=>AX [vI y1.1.fh,vI y1.1.fe,vI y1.1.fj,v9] x1 .hd (o4 rfl rfl rfl (St.o1 (α:=Tc) x1 .t1)) fun x4 j2 q2=>Af rfl<|Aa<|Ae<|Ao .plain rfl (AJ (α:=Int) (xs:=([(0:Int),(0:Int),(1:Int),(1:Int)]:List Int)) (vs:=[vI 0,vI 0,vI 1,vI 1]) (ds' :=[vI 0,vI 0,vI 1,vI 1]) rfl j2 kf rfl (e4 rfl rfl rfl rfl) (by kernel_rfl) rfl) fun y4 Q1 Q0 s2=>Af rfl<|Aa<|Ai<|du 10 fun j0 t0=>Rv 0 j0 rfl t0 (fun _=>Ah rfl) ?_
 have G1:=Tt p2 (Tt q2 s2)
 have z0:=Bq Q0 .t3
 have B1:=Br Q0 .t3
 have H0:=Bs (α:=Ta) (v:=u3) (xs:=y1.2) z0 L (Ba (α:=Ta) Q0 .t3 (Ay (AB (cs:=g2) (xs:=(y1.2:List Ta)) hS7 L (fT z2)) G1) hL)
 refine bk h fun G4 U2 h=>RD.vE 1 3 j0 rfl t0 .plain (FV.cutP (α:=Ta) U2 rfl rfl H0 rfl ⟨_,rfl⟩) rfl fun Y3 H2=>Rx 2 1008 j0 rfl t0 (AK rfl (z0.memA .t1))<|Rv 3 j0 rfl t0 (fun _=>Ah rfl) ?_
 have R0:=Bq z0 .t2
 have p1:=Br z0 .t2
 have b1:=Bs (α:=Tc) (v:=v9) (xs:=y1.1.fm) R0 L (Ba (α:=Tc) z0 .t2 (Ay (AB (cs:=d2) (xs:=(y1.1.fm:List Tc)) hS7 L (fT y2)) (Tt G1 B1)) hL)
 have U0:=Bq R0 .hd
 have B0:=Br R0 .hd
 have c1:=Bs (α:=Int) (v:=(vS Q1 4)) (xs:=([(0:Int),(0:Int),(1:Int),(1:Int)]:List Int)) U0 L (Ba (α:=Int) R0 .hd (Ay (AB (cs:=[vI 0,vI 0,vI 1,vI 1]) (xs:=(([(0:Int),(0:Int),(1:Int),(1:Int)]:List Int):List Int)) Q0 L (Ax (cs:=[vI 0]) (ds:=[vI 0,vI 1,vI 1]) rfl (Ax (cs:=[vI 0]) (ds:=[vI 1,vI 1]) rfl (Ax (cs:=[vI 1]) (ds:=[vI 1]) rfl (Ax (cs:=[vI 1]) (ds:=[]) rfl (AG _ _)))))) (Tt B1 p1)) hL)
 refine bk h fun d1 p3 h=>Bu 4 31 j0 rfl .plain (bd 24) rfl (e4 rfl rfl rfl rfl) (fun p q=>bs_c n (U0.hL hL q) (Av (Aq H2 (Tt p1 B0)) q) y1.1 (Av (Aq b1 B0) q) (Av c1 q) (hG0.keep (U0.ag.trans q)) p3) rfl fun z4 k4 v2 ⟨Z3,hu_,I2⟩=>?_
 subst hu_
 obtain ⟨V0,C0⟩:=U0.agr v2
 refine Rv 5 j0 rfl t0 (fun _=>Ah rfl)<|Rv 6 j0 rfl t0 (fun _=>Aj rfl rfl)<|Rv 7 j0 rfl t0 (fun _=>Aj rfl rfl)<|Rv 8 j0 rfl t0 (fun _=>Bm rfl)<|Rv 9 j0 rfl t0 (fun _=>Bm rfl)<|AR (dk j0)<|Ae<|Ac rfl<|Ab (AK rfl (V0.memA .hd))<|Ac rfl<|bk h fun E3 q3 h=>?_
 have H1:=Tt p1 (Tt B0 C0)
 refine jE (bd 19) rfl (e4 rfl rfl rfl rfl) (fun p q=>aO_c n (V0.hL hL q) (Av (Aq H0 H1) q) y1.1 (Av (Aq b1 (Tt B0 C0)) q) (Av (Aq c1 C0) q) (hG0.keep (V0.ag.trans q)) q3) rfl fun A4 p4 x2 ⟨b4,hu_,J2⟩=>?_
 subst hu_
 obtain ⟨z1,Z0⟩:=V0.agr x2
 refine Ac rfl<|Ab (Aj rfl rfl)<|Ab (Aj rfl rfl)<|Af rfl<|Af rfl<|Aa<|Ae<|bk h fun g1 s3 h=>Bk (.tuple #[.agg ((ac g1.1)).toArray,vI g1.2]) (bd 15) rfl (e2 rfl rfl) (fun p q=>cQ_c n (z1.hL0 hL q) (0:UInt64) (0:UInt64) s3) rfl<|Ac rfl<|Ab (Aj rfl rfl)<|Ab (Aj rfl rfl)<|RG.nl zL z1 fun B4 J3 k2 D0=>AX (ac g1.1) k2 .hd (aq rfl) fun C4 A1 E0=>Af rfl<|Aa<|Ai<|du 64 fun c0 d0=>Rv 2 c0 rfl d0 (fun _=>Ah rfl)<|Rx 3 18446744073709551584 c0 rfl d0 (AK rfl (A1.memA .t1))<|Rv 4 c0 rfl d0 (fun _=>Ah rfl)<|BV 0 29 c0 rfl .plain rfl (AJ (α:=Bool) (xs:=([false,true]:List Bool)) (vs:=[.bool false,.bool true]) (ds' :=[.bool false,.bool true]) rfl A1 gp rfl (e2 rfl rfl) (by kernel_rfl) rfl) fun y3 v1 W0 F0=>?_
 have X0:=Bq W0 .hd
 have G0:=Br W0 .hd
 have I1:=Bs (α:=Bool) (v:=(vS v1 2)) (xs:=([false,true]:List Bool)) X0 L (Ba (α:=Bool) W0 .hd (AB (cs:=[.bool false,.bool true]) (xs:=(([false,true]:List Bool):List Bool)) W0 L (Ax (cs:=[.bool false]) (ds:=[.bool true]) rfl (Ax (cs:=[.bool true]) (ds:=[]) rfl (AG _ _)))) hL)
 refine Bu 1 31 c0 rfl .plain (bd 40) rfl (e1 rfl) (fun p q=>Calls.gives (dH_c n (X0.hL hL q) ([false,true]:List Bool) (Av I1 q)) fun (w8:World) (u8:Value) ⟨b0_,hu_,s_⟩=>(⟨b0_,hu_,s_.from q⟩:∃ P0:Nat,u8 = Value.func (.func 84) #[] #[vP P0]/\St y3 w8 [.cells P0 [(vS v1 2)] 72])) rfl fun D4 c4 P3 ⟨P0,K2,J1⟩=>?_
 subst K2
 have j1:=ee X0 J1
 have x0:=iW X0 J1
 refine bk h fun H4 V2 h=>?_
 have C1:=Tt H1 (Tt Z0 (Tt D0 (Tt E0 (Tt F0 (Tt G0 x0)))))
 have D1:=Tt B0 (Tt C0 (Tt Z0 (Tt D0 (Tt E0 (Tt F0 (Tt G0 x0))))))
 have E1:=Tt C0 (Tt Z0 (Tt D0 (Tt E0 (Tt F0 (Tt G0 x0)))))
 refine Bu 5 63 c0 rfl .plain (bd 25) rfl (e4 rfl rfl rfl rfl) (fun p q=>bD_c n (j1.hL hL q) (Av (Aq H0 C1) q) y1.1 (Av (Aq b1 D1) q) (Av (Aq c1 E1) q) (hG0.keep (j1.ag.trans q)) V2) rfl fun q4 d4 u2 ⟨V3,hu_,D2⟩=>?_
 subst hu_
 obtain ⟨v0,y0⟩:=j1.agr u2
 refine Rv 6 c0 rfl d0 (fun _=>Aj rfl rfl)<|Rv 7 c0 rfl d0 (fun _=>Aj rfl rfl)<|bk h fun z3 W2 h=>RD.callq (i:=8) (m' :=511) (W:=18446744073709551104) (tk c0) rfl d0 (v:=.bool z3) (fst:=[]) (cap:=[vP P0]) .plain (bd 84) rfl (e2 rfl rfl) (fun p q=>cI_c n (v0.hL0 hL q) (v0.kd D2 q) (v0.kd (Aq I1 (Tt x0 y0)) q) (aD q (v0.memA .hd)) W2) rfl<|Rv 9 c0 rfl d0 (fun _=>Ah rfl)<|RD.ifb (s:=43) rfl h (fun R1 h=>?_) (fun R1 h=>?_)
 refine RD.vP 10 2047 c0 rfl d0 (.yes rfl rfl) (fun _=>Ah rfl) rfl<|RD.vP 11 4095 c0 rfl d0 (.yes rfl rfl) (fun _=>FV.eql (i:=d1.2) (j:=0) rfl rfl) rfl<|Rv 12 c0 rfl d0 (fun _=>BP rfl rfl)<|Rv 13 c0 rfl d0 (fun _=>Ah rfl)<|RD.ifd (s:=47) rfl h (fun U1 h=>?_) (fun U1 h=>?_)
 refine RD.vP 14 32767 c0 rfl d0 (.yes rfl rfl) (fun _=>Ah rfl) rfl ?_
 have q1:=Aq I2 (Tt Z0 (Tt D0 (Tt E0 (Tt F0 (Tt G0 (Tt x0 y0))))))
 have U3:d1.1.length <= 281474976710656:=AS q1
 refine RD.val (i:=15) (m' :=65535) (W:=18446744073709486080) (tk c0) rfl d0 (.yes rfl rfl) (AW (xs:=d1.1) underlying69 rfl q1) rfl<|RD.vP 16 131071 c0 rfl d0 (.yes rfl rfl) (fun _=>BF (i:=d1.1.length) (j:=1) rfl rfl) rfl<|Rv 17 c0 rfl d0 (fun _=>BP rfl rfl)<|Rv 18 c0 rfl d0 (fun _=>Ah rfl)<|RD.ifd (s:=52) rfl h (fun V1 h=>?_) (fun V1 h=>?_)
 refine RD.vP 19 1048575 c0 rfl d0 (.yes rfl rfl) (fun _=>Ah rfl) rfl<|bk h fun E4 Q2 h=>?_
 obtain ⟨F3,K3,A2,B2,M3,E2,C2⟩:=Bg q1 Q2
 obtain ⟨W3,rfl,F2⟩:=bc E2
 refine RD.vP 20 2097151 c0 rfl d0 (.yes rfl rfl) (fun _=>Bi 1 0 rfl A2 rfl rfl B2) rfl<|RD.val (i:=21) (m' :=4194303) (W:=18446744073701163008) (tk c0) rfl d0 (.yes rfl rfl) (AN rfl (C2 0 _ rfl)) rfl<|BV 22 8388607 c0 rfl (.yes rfl rfl) rfl (AJ (α:=UInt64) (xs:=([(3:UInt64),(4:UInt64)]:List UInt64)) (vs:=[vW 3,vW 4]) (ds' :=[vW 3,vW 4]) rfl v0 cT rfl (e2 rfl rfl) (by kernel_rfl) rfl) fun s4 G3 p0 A0=>bk h fun A3 X2 h=>RD.callq (i:=23) (m' :=16777215) (W:=18446744073692774400) (tk c0) rfl d0 (v:=.bool A3) (fst:=[]) (cap:=[]) (.yes rfl rfl) (bd 35) rfl (e2 rfl rfl) (fun p q=>ay_c n (p0.hL0 hL q) (p0.kd (Aq F2 A0) q) (Av (St.lend (α:=UInt64) (L:=L) p0 .hd (AB (cs:=[vW 3,vW 4]) (xs:=(([(3:UInt64),(4:UInt64)]:List UInt64):List UInt64)) p0 L (Ax (cs:=[vW 3]) (ds:=[vW 4]) rfl (Ax (cs:=[vW 4]) (ds:=[]) rfl (AG _ _)))) hL) q) X2) rfl<|Rv 24 c0 rfl d0 (fun _=>BP rfl rfl)<|Rv 25 c0 rfl d0 (fun _=>Ah rfl)<|RD.ifb (s:=59) rfl h (fun W1 h=>?_) (fun W1 h=>?_)
 refine RD.vP 26 134217727 c0 rfl d0 (.yes rfl rfl) (fun _=>Ah rfl) rfl<|RD.vP 27 268435455 c0 rfl d0 (.yes rfl rfl) (fun _=>FV.eql (i:=E3.2) (j:=0) rfl rfl) rfl<|Rv 28 c0 rfl d0 (fun _=>BP rfl rfl)<|Rv 29 c0 rfl d0 (fun _=>Ah rfl)<|RD.ifd (s:=63) rfl h (fun X1 h=>?_) (fun X1 h=>?_)
 refine RD.vP 30 2147483647 c0 rfl d0 (.yes rfl rfl) (fun _=>Ah rfl) rfl<|bk h fun u0 Y2 h=>RD.callq (i:=31) (m' :=4294967295) (W:=18446744069414584320) (tk c0) rfl d0 (v:=.agg ((ac u0)).toArray) (fst:=[]) (cap:=[]) (.yes rfl rfl) (bd 20) rfl (e2 rfl rfl) (fun p q=>cr_c n (p0.hL0 hL q)  Y2) rfl<|bk h fun k0 Z2 h=>RD.callq (i:=32) (m' :=8589934591) (W:=18446744065119617024) (tk c0) rfl d0 (v:=.agg ((ac k0)).toArray) (fst:=[]) (cap:=[]) (.yes rfl rfl) (bd 20) rfl (e2 rfl rfl) (fun p q=>cr_c n (p0.hL0 hL q)  Z2) rfl<|BV 33 17179869183 c0 rfl (.yes rfl rfl) rfl (AJ (α:=Tb) (xs:=([u0,k0]:List Tb)) (vs:=[.agg ((ac u0)).toArray,.agg ((ac k0)).toArray]) (ds' :=(ac u0 ++ ac k0)) rfl p0 im rfl (e2 rfl rfl) (by kernel_rfl) rfl) fun v3 H3 q0 Y0=>bk h fun B3 b3 h=>RD.callq (i:=34) (m' :=34359738367) (W:=18446744039349813248) (tk c0) rfl d0 (v:=.bool B3) (fst:=[]) (cap:=[]) (.yes rfl rfl) (bd 28) rfl (e2 rfl rfl) (fun p q=>ae_c n (q0.hL0 hL q) (q0.kd (Aq J2 (Tt D0 (Tt E0 (Tt F0 (Tt G0 (Tt x0 (Tt y0 (Tt A0 Y0)))))))) q) (Av (St.lend (α:=Tb) (L:=L) q0 .hd (AB (cs:=(ac u0 ++ ac k0)) (xs:=(([u0,k0]:List Tb):List Tb)) q0 L (Ax (cs:=(ac u0)) (ds:=(ac k0)) (ct u0.fN u0.fD) (Ax (cs:=(ac k0)) (ds:=[]) (ct k0.fN k0.fD) (AG _ _)))) hL) q) b3) rfl<|Rv 35 c0 rfl d0 (fun _=>BP rfl rfl)<|Rv 36 c0 rfl d0 (fun _=>Ah rfl)<|RD.ifb (s:=70) rfl h (fun Y1 h=>?_) (fun Y1 h=>?_)
 refine RD.vP 38 412316860415 c0 rfl d0 (.yes rfl rfl) (fun _=>Ah rfl) rfl<|RD.val (i:=39) (m' :=962072674303) (W:=18446741874686296064) (tk c0) rfl d0 (.yes rfl rfl) (AK rfl (q0.memA .t4)) rfl<|RD.vP 40 2061584302079 c0 rfl d0 (.yes rfl rfl) (fun _=>Ah rfl) rfl<|Bu 37 2199023255551 c0 rfl (.yes rfl rfl) (bd 41) rfl (e2 rfl rfl) (fun p q=>Calls.gives (dF_c n (q0.hL hL q) (5:Int) (8:Int)) fun (w8:World) (u8:Value) ⟨b0_,b1_,hu_,s_⟩=>(⟨b0_,b1_,hu_,s_.from q⟩:∃ I0 J0:Nat,u8 = Value.func (.func 85) #[] #[vP I0,vP J0]/\St v3 w8 [.cells I0 [vI 5] 3,.cells J0 [vI 8] 3])) rfl fun x3 g4 Q3 ⟨I0,J0,M2,K1⟩=>?_
 subst M2
 have g0:=kE q0 K1
 have k1:=oo q0 K1
 refine bk h fun s1 c3 h=>?_
 have F1:=Tt C1 (Tt y0 (Tt A0 (Tt Y0 k1)))
 refine RD.callq (i:=41) (m' :=4398046511103) (W:=18446739675663040512) (tk c0) rfl d0 (v:=.tuple #[.agg ((ac s1.1)).toArray,vI s1.2]) (fst:=[]) (cap:=[]) (.yes rfl rfl) (bd 23) rfl (e4 rfl rfl rfl rfl) (fun p q=>cm_c n (g0.hL0 hL q) (g0.kd (Aq H0 F1) q) y1.1 (g0.kd (Aq b1 (Tt D1 (Tt y0 (Tt A0 (Tt Y0 k1))))) q) (g0.kd (Aq c1 (Tt E1 (Tt y0 (Tt A0 (Tt Y0 k1))))) q) (hG0.keep (g0.ag.trans q)) c3) rfl<|RD.vP 42 8796093022207 c0 rfl d0 (.yes rfl rfl) (fun _=>Aj rfl rfl) rfl<|RD.vP 43 17592186044415 c0 rfl d0 (.yes rfl rfl) (fun _=>Aj rfl rfl) rfl<|bk h fun C3 d3 h=>RD.callq (i:=44) (m' :=35184372088831) (W:=18446708889337462784) (tk c0) rfl d0 (v:=.bool C3) (fst:=[]) (cap:=[vP I0,vP J0]) (.yes rfl rfl) (bd 85) rfl (e2 rfl rfl) (fun p q=>cB_c n (g0.hL0 hL q) s1.1 (aD q (g0.memA .hd)) (aD q (g0.memA .t1)) d3) rfl<|Rv 45 c0 rfl d0 (fun _=>BP rfl rfl)<|Rv 46 c0 rfl d0 (fun _=>Ah rfl)<|RD.ifb (s:=80) rfl h (fun Z1 h=>?_) (fun Z1 h=>?_)
 refine Bu 47 281474976710655 c0 rfl (.yes rfl rfl) (bd 41) rfl (e2 rfl rfl) (fun p q=>Calls.gives (dF_c n (g0.hL hL q) (1:Int) (4:Int)) fun (w8:World) (u8:Value) ⟨b0_,b1_,hu_,s_⟩=>(⟨b0_,b1_,hu_,s_.from q⟩:∃ K0 M0:Nat,u8 = Value.func (.func 85) #[] #[vP K0,vP M0]/\St x3 w8 [.cells K0 [vI 1] 3,.cells M0 [vI 4] 3])) rfl fun u4 j4 R3 ⟨K0,M0,P2,M1⟩=>?_
 subst P2
 have s0:=kE g0 M1
 refine bk h fun u1 g3 h=>RD.callq (i:=48) (m' :=562949953421311) (W:=18446181123756130304) (tk c0) rfl d0 (v:=.tuple #[.agg ((ac u1.1)).toArray,vI u1.2]) (fst:=[]) (cap:=[]) (.yes rfl rfl) (bd 15) rfl (e2 rfl rfl) (fun p q=>cQ_c n (s0.hL0 hL q) (7:UInt64) (12:UInt64) g3) rfl<|RD.vP 49 1125899906842623 c0 rfl d0 (.yes rfl rfl) (fun _=>Aj rfl rfl) rfl<|RD.vP 50 2251799813685247 c0 rfl d0 (.yes rfl rfl) (fun _=>Aj rfl rfl) rfl<|bk h fun D3 j3 h=>RD.callq (i:=51) (m' :=4503599627370495) (W:=18442240474082181120) (tk c0) rfl d0 (v:=.bool D3) (fst:=[]) (cap:=[vP K0,vP M0]) (.yes rfl rfl) (bd 85) rfl (e2 rfl rfl) (fun p q=>cB_c n (s0.hL0 hL q) u1.1 (aD q (s0.memA .hd)) (aD q (s0.memA .t1)) j3) rfl<|Rv 52 c0 rfl d0 (fun _=>BP rfl rfl)<|Rv 53 c0 rfl d0 (fun _=>Ah rfl)<|RD.ifb (s:=87) rfl h (fun b2 h=>?_) (fun b2 h=>?_)
 refine RD.vP 54 36028797018963967 c0 rfl d0 (.yes rfl rfl) (fun _=>Ah rfl) rfl<|RD.vP 55 72057594037927935 c0 rfl d0 (.yes rfl rfl) (fun _=>FV.eql (i:=g1.2) (j:=7) rfl rfl) rfl<|Rv 56 c0 rfl d0 (fun _=>BP rfl rfl)<|Rv 57 c0 rfl d0 (fun _=>Ah rfl)<|RD.ifd (s:=91) rfl h (fun c2 h=>?_) (fun c2 h=>?_)
 refine RD.vP 58 576460752303423487 c0 rfl d0 (.yes rfl rfl) (fun _=>Ah rfl) rfl<|bk h fun F4 R2 h=>RD.vE 59 1152921504606846975 c0 rfl d0 (.yes rfl rfl) (FV.cutP (α:=Ta) R2 rfl rfl (Aq H0 (Tt F1 (oo g0 M1))) ⟨_,rfl⟩ rfl) rfl fun X3 G2=>bk h fun P1 k3 h=>RD.callq (i:=60) (m' :=2305843009213693951) (W:=16140901064495857664) (tk c0) rfl d0 (v:=vI P1) (fst:=[]) (cap:=[]) (.yes rfl rfl) (bd 13) rfl (e2 rfl rfl) (fun p q=>a9_c n (s0.hL0 hL q) (s0.kd G2 q) k3) rfl<|RD.vP 61 4611686018427387903 c0 rfl d0 (.yes rfl rfl) (fun _=>FV.eql (i:=P1) (j:=270) rfl rfl) rfl<|Rv 62 c0 rfl d0 (fun _=>BP rfl rfl)<|Rv 63 c0 rfl d0 (fun _=>Bm rfl)<|AR (dk c0)<|Ak rfl<|AQ hb0 func10 rfl rfl ?_
 cases h
 exact s0.gv
 refine Bz 4611686018427387903 2 [(58,92),(59,93),(60,94),(61,95)] (F:=[(91,false)]) (U:=[]) c0 d0 (.cons rfl .nil) .nil ?_
 dsimp only [aP,List.map]
 refine Rv 62 c0 rfl d0 (fun _=>Bc rfl rfl)<|Rv 63 c0 rfl d0 (fun _=>Bm rfl)<|AR (dk c0)<|Ak rfl<|AQ hb0 func10 rfl rfl ?_
 cases h
 exact s0.gv
 refine Bz 72057594037927935 8 [(54,88),(55,89)] (F:=[(87,false)]) (U:=[]) c0 d0 (.cons rfl .nil) .nil ?_
 dsimp only [aP,List.map]
 refine Rv 56 c0 rfl d0 (fun _=>Bc rfl rfl)<|Rv 57 c0 rfl d0 (fun _=>Ah rfl)<|Bz 4611686018427387903 2 [(58,92),(59,93),(60,94),(61,95)] (F:=[(91,false)]) (U:=[]) c0 d0 (.cons rfl .nil) .nil ?_
 dsimp only [aP,List.map]
 refine Rv 62 c0 rfl d0 (fun _=>Bc rfl rfl)<|Rv 63 c0 rfl d0 (fun _=>Bm rfl)<|AR (dk c0)<|Ak rfl<|AQ hb0 func10 rfl rfl ?_
 cases h
 exact s0.gv
 refine Bz 4503599627370495 12 [(47,81),(48,82),(49,83),(50,84),(51,85)] (F:=[(80,false)]) (U:=[]) c0 d0 (.cons rfl .nil) .nil ?_
 dsimp only [aP,List.map]
 refine Rv 52 c0 rfl d0 (fun _=>Bc rfl rfl)<|Rv 53 c0 rfl d0 (fun _=>Ah rfl)<|Bz 72057594037927935 8 [(54,88),(55,89)] (F:=[(87,false)]) (U:=[]) c0 d0 (.cons rfl .nil) .nil ?_
 dsimp only [aP,List.map]
 refine Rv 56 c0 rfl d0 (fun _=>Bc rfl rfl)<|Rv 57 c0 rfl d0 (fun _=>Ah rfl)<|Bz 4611686018427387903 2 [(58,92),(59,93),(60,94),(61,95)] (F:=[(91,false)]) (U:=[]) c0 d0 (.cons rfl .nil) .nil ?_
 dsimp only [aP,List.map]
 refine Rv 62 c0 rfl d0 (fun _=>Bc rfl rfl)<|Rv 63 c0 rfl d0 (fun _=>Bm rfl)<|AR (dk c0)<|Ak rfl<|AQ hb0 func10 rfl rfl ?_
 cases h
 exact g0.gv
 refine Bz 35184372088831 19 [(37,71),(38,72),(39,73),(40,74),(41,75),(42,76),(43,77),(44,78)] (F:=[(70,false)]) (U:=[]) c0 d0 (.cons rfl .nil) .nil ?_
 dsimp only [aP,List.map]
 refine Rv 45 c0 rfl d0 (fun _=>Bc rfl rfl)<|Rv 46 c0 rfl d0 (fun _=>Ah rfl)<|Bz 4503599627370495 12 [(47,81),(48,82),(49,83),(50,84),(51,85)] (F:=[(80,false)]) (U:=[]) c0 d0 (.cons rfl .nil) .nil ?_
 dsimp only [aP,List.map]
 refine Rv 52 c0 rfl d0 (fun _=>Bc rfl rfl)<|Rv 53 c0 rfl d0 (fun _=>Ah rfl)<|Bz 72057594037927935 8 [(54,88),(55,89)] (F:=[(87,false)]) (U:=[]) c0 d0 (.cons rfl .nil) .nil ?_
 dsimp only [aP,List.map]
 refine Rv 56 c0 rfl d0 (fun _=>Bc rfl rfl)<|Rv 57 c0 rfl d0 (fun _=>Ah rfl)<|Bz 4611686018427387903 2 [(58,92),(59,93),(60,94),(61,95)] (F:=[(91,false)]) (U:=[]) c0 d0 (.cons rfl .nil) .nil ?_
 dsimp only [aP,List.map]
 refine Rv 62 c0 rfl d0 (fun _=>Bc rfl rfl)<|Rv 63 c0 rfl d0 (fun _=>Bm rfl)<|AR (dk c0)<|Ak rfl<|AQ hb0 func10 rfl rfl ?_
 cases h
 exact q0.gv
 refine Bz 34359738367 29 [(30,64),(31,65),(32,66),(33,67),(34,68)] (F:=[(63,false)]) (U:=[]) c0 d0 (.cons rfl .nil) .nil ?_
 dsimp only [aP,List.map]
 refine Rv 35 c0 rfl d0 (fun _=>Bc rfl rfl)<|Rv 36 c0 rfl d0 (fun _=>Ah rfl)<|Bz 35184372088831 19 [(37,71),(38,72),(39,73),(40,74),(41,75),(42,76),(43,77),(44,78)] (F:=[(70,false)]) (U:=[]) c0 d0 (.cons rfl .nil) .nil ?_
 dsimp only [aP,List.map]
 refine Rv 45 c0 rfl d0 (fun _=>Bc rfl rfl)<|Rv 46 c0 rfl d0 (fun _=>Ah rfl)<|Bz 4503599627370495 12 [(47,81),(48,82),(49,83),(50,84),(51,85)] (F:=[(80,false)]) (U:=[]) c0 d0 (.cons rfl .nil) .nil ?_
 dsimp only [aP,List.map]
 refine Rv 52 c0 rfl d0 (fun _=>Bc rfl rfl)<|Rv 53 c0 rfl d0 (fun _=>Ah rfl)<|Bz 72057594037927935 8 [(54,88),(55,89)] (F:=[(87,false)]) (U:=[]) c0 d0 (.cons rfl .nil) .nil ?_
 dsimp only [aP,List.map]
 refine Rv 56 c0 rfl d0 (fun _=>Bc rfl rfl)<|Rv 57 c0 rfl d0 (fun _=>Ah rfl)<|Bz 4611686018427387903 2 [(58,92),(59,93),(60,94),(61,95)] (F:=[(91,false)]) (U:=[]) c0 d0 (.cons rfl .nil) .nil ?_
 dsimp only [aP,List.map]
 refine Rv 62 c0 rfl d0 (fun _=>Bc rfl rfl)<|Rv 63 c0 rfl d0 (fun _=>Bm rfl)<|AR (dk c0)<|Ak rfl<|AQ hb0 func10 rfl rfl ?_
 cases h
 exact p0.gv
 refine Bz 268435455 36 [(26,60),(27,61)] (F:=[(59,false)]) (U:=[]) c0 d0 (.cons rfl .nil) .nil ?_
 dsimp only [aP,List.map]
 refine Rv 28 c0 rfl d0 (fun _=>Bc rfl rfl)<|Rv 29 c0 rfl d0 (fun _=>Ah rfl)<|Bz 34359738367 29 [(30,64),(31,65),(32,66),(33,67),(34,68)] (F:=[(63,false)]) (U:=[]) c0 d0 (.cons rfl .nil) .nil ?_
 dsimp only [aP,List.map]
 refine Rv 35 c0 rfl d0 (fun _=>Bc rfl rfl)<|Rv 36 c0 rfl d0 (fun _=>Ah rfl)<|Bz 35184372088831 19 [(37,71),(38,72),(39,73),(40,74),(41,75),(42,76),(43,77),(44,78)] (F:=[(70,false)]) (U:=[]) c0 d0 (.cons rfl .nil) .nil ?_
 dsimp only [aP,List.map]
 refine Rv 45 c0 rfl d0 (fun _=>Bc rfl rfl)<|Rv 46 c0 rfl d0 (fun _=>Ah rfl)<|Bz 4503599627370495 12 [(47,81),(48,82),(49,83),(50,84),(51,85)] (F:=[(80,false)]) (U:=[]) c0 d0 (.cons rfl .nil) .nil ?_
 dsimp only [aP,List.map]
 refine Rv 52 c0 rfl d0 (fun _=>Bc rfl rfl)<|Rv 53 c0 rfl d0 (fun _=>Ah rfl)<|Bz 72057594037927935 8 [(54,88),(55,89)] (F:=[(87,false)]) (U:=[]) c0 d0 (.cons rfl .nil) .nil ?_
 dsimp only [aP,List.map]
 refine Rv 56 c0 rfl d0 (fun _=>Bc rfl rfl)<|Rv 57 c0 rfl d0 (fun _=>Ah rfl)<|Bz 4611686018427387903 2 [(58,92),(59,93),(60,94),(61,95)] (F:=[(91,false)]) (U:=[]) c0 d0 (.cons rfl .nil) .nil ?_
 dsimp only [aP,List.map]
 refine Rv 62 c0 rfl d0 (fun _=>Bc rfl rfl)<|Rv 63 c0 rfl d0 (fun _=>Bm rfl)<|AR (dk c0)<|Ak rfl<|AQ hb0 func10 rfl rfl ?_
 cases h
 exact p0.gv
 refine Bz 16777215 40 [(19,53),(20,54),(21,55),(22,56),(23,57)] (F:=[(52,false)]) (U:=[]) c0 d0 (.cons rfl .nil) .nil ?_
 dsimp only [aP,List.map]
 refine Rv 24 c0 rfl d0 (fun _=>Bc rfl rfl)<|Rv 25 c0 rfl d0 (fun _=>Ah rfl)<|Bz 268435455 36 [(26,60),(27,61)] (F:=[(59,false)]) (U:=[]) c0 d0 (.cons rfl .nil) .nil ?_
 dsimp only [aP,List.map]
 refine Rv 28 c0 rfl d0 (fun _=>Bc rfl rfl)<|Rv 29 c0 rfl d0 (fun _=>Ah rfl)<|Bz 34359738367 29 [(30,64),(31,65),(32,66),(33,67),(34,68)] (F:=[(63,false)]) (U:=[]) c0 d0 (.cons rfl .nil) .nil ?_
 dsimp only [aP,List.map]
 refine Rv 35 c0 rfl d0 (fun _=>Bc rfl rfl)<|Rv 36 c0 rfl d0 (fun _=>Ah rfl)<|Bz 35184372088831 19 [(37,71),(38,72),(39,73),(40,74),(41,75),(42,76),(43,77),(44,78)] (F:=[(70,false)]) (U:=[]) c0 d0 (.cons rfl .nil) .nil ?_
 dsimp only [aP,List.map]
 refine Rv 45 c0 rfl d0 (fun _=>Bc rfl rfl)<|Rv 46 c0 rfl d0 (fun _=>Ah rfl)<|Bz 4503599627370495 12 [(47,81),(48,82),(49,83),(50,84),(51,85)] (F:=[(80,false)]) (U:=[]) c0 d0 (.cons rfl .nil) .nil ?_
 dsimp only [aP,List.map]
 refine Rv 52 c0 rfl d0 (fun _=>Bc rfl rfl)<|Rv 53 c0 rfl d0 (fun _=>Ah rfl)<|Bz 72057594037927935 8 [(54,88),(55,89)] (F:=[(87,false)]) (U:=[]) c0 d0 (.cons rfl .nil) .nil ?_
 dsimp only [aP,List.map]
 refine Rv 56 c0 rfl d0 (fun _=>Bc rfl rfl)<|Rv 57 c0 rfl d0 (fun _=>Ah rfl)<|Bz 4611686018427387903 2 [(58,92),(59,93),(60,94),(61,95)] (F:=[(91,false)]) (U:=[]) c0 d0 (.cons rfl .nil) .nil ?_
 dsimp only [aP,List.map]
 refine Rv 62 c0 rfl d0 (fun _=>Bc rfl rfl)<|Rv 63 c0 rfl d0 (fun _=>Bm rfl)<|AR (dk c0)<|Ak rfl<|AQ hb0 func10 rfl rfl ?_
 cases h
 exact v0.gv
 refine Bz 131071 47 [(14,48),(15,49),(16,50)] (F:=[(47,false)]) (U:=[]) c0 d0 (.cons rfl .nil) .nil ?_
 dsimp only [aP,List.map]
 refine Rv 17 c0 rfl d0 (fun _=>Bc rfl rfl)<|Rv 18 c0 rfl d0 (fun _=>Ah rfl)<|Bz 16777215 40 [(19,53),(20,54),(21,55),(22,56),(23,57)] (F:=[(52,false)]) (U:=[]) c0 d0 (.cons rfl .nil) .nil ?_
 dsimp only [aP,List.map]
 refine Rv 24 c0 rfl d0 (fun _=>Bc rfl rfl)<|Rv 25 c0 rfl d0 (fun _=>Ah rfl)<|Bz 268435455 36 [(26,60),(27,61)] (F:=[(59,false)]) (U:=[]) c0 d0 (.cons rfl .nil) .nil ?_
 dsimp only [aP,List.map]
 refine Rv 28 c0 rfl d0 (fun _=>Bc rfl rfl)<|Rv 29 c0 rfl d0 (fun _=>Ah rfl)<|Bz 34359738367 29 [(30,64),(31,65),(32,66),(33,67),(34,68)] (F:=[(63,false)]) (U:=[]) c0 d0 (.cons rfl .nil) .nil ?_
 dsimp only [aP,List.map]
 refine Rv 35 c0 rfl d0 (fun _=>Bc rfl rfl)<|Rv 36 c0 rfl d0 (fun _=>Ah rfl)<|Bz 35184372088831 19 [(37,71),(38,72),(39,73),(40,74),(41,75),(42,76),(43,77),(44,78)] (F:=[(70,false)]) (U:=[]) c0 d0 (.cons rfl .nil) .nil ?_
 dsimp only [aP,List.map]
 refine Rv 45 c0 rfl d0 (fun _=>Bc rfl rfl)<|Rv 46 c0 rfl d0 (fun _=>Ah rfl)<|Bz 4503599627370495 12 [(47,81),(48,82),(49,83),(50,84),(51,85)] (F:=[(80,false)]) (U:=[]) c0 d0 (.cons rfl .nil) .nil ?_
 dsimp only [aP,List.map]
 refine Rv 52 c0 rfl d0 (fun _=>Bc rfl rfl)<|Rv 53 c0 rfl d0 (fun _=>Ah rfl)<|Bz 72057594037927935 8 [(54,88),(55,89)] (F:=[(87,false)]) (U:=[]) c0 d0 (.cons rfl .nil) .nil ?_
 dsimp only [aP,List.map]
 refine Rv 56 c0 rfl d0 (fun _=>Bc rfl rfl)<|Rv 57 c0 rfl d0 (fun _=>Ah rfl)<|Bz 4611686018427387903 2 [(58,92),(59,93),(60,94),(61,95)] (F:=[(91,false)]) (U:=[]) c0 d0 (.cons rfl .nil) .nil ?_
 dsimp only [aP,List.map]
 refine Rv 62 c0 rfl d0 (fun _=>Bc rfl rfl)<|Rv 63 c0 rfl d0 (fun _=>Bm rfl)<|AR (dk c0)<|Ak rfl<|AQ hb0 func10 rfl rfl ?_
 cases h
 exact v0.gv
 refine Bz 4095 52 [(10,44),(11,45)] (F:=[(43,false)]) (U:=[]) c0 d0 (.cons rfl .nil) .nil ?_
 dsimp only [aP,List.map]
 refine Rv 12 c0 rfl d0 (fun _=>Bc rfl rfl)<|Rv 13 c0 rfl d0 (fun _=>Ah rfl)<|Bz 131071 47 [(14,48),(15,49),(16,50)] (F:=[(47,false)]) (U:=[]) c0 d0 (.cons rfl .nil) .nil ?_
 dsimp only [aP,List.map]
 refine Rv 17 c0 rfl d0 (fun _=>Bc rfl rfl)<|Rv 18 c0 rfl d0 (fun _=>Ah rfl)<|Bz 16777215 40 [(19,53),(20,54),(21,55),(22,56),(23,57)] (F:=[(52,false)]) (U:=[]) c0 d0 (.cons rfl .nil) .nil ?_
 dsimp only [aP,List.map]
 refine Rv 24 c0 rfl d0 (fun _=>Bc rfl rfl)<|Rv 25 c0 rfl d0 (fun _=>Ah rfl)<|Bz 268435455 36 [(26,60),(27,61)] (F:=[(59,false)]) (U:=[]) c0 d0 (.cons rfl .nil) .nil ?_
 dsimp only [aP,List.map]
 refine Rv 28 c0 rfl d0 (fun _=>Bc rfl rfl)<|Rv 29 c0 rfl d0 (fun _=>Ah rfl)<|Bz 34359738367 29 [(30,64),(31,65),(32,66),(33,67),(34,68)] (F:=[(63,false)]) (U:=[]) c0 d0 (.cons rfl .nil) .nil ?_
 dsimp only [aP,List.map]
 refine Rv 35 c0 rfl d0 (fun _=>Bc rfl rfl)<|Rv 36 c0 rfl d0 (fun _=>Ah rfl)<|Bz 35184372088831 19 [(37,71),(38,72),(39,73),(40,74),(41,75),(42,76),(43,77),(44,78)] (F:=[(70,false)]) (U:=[]) c0 d0 (.cons rfl .nil) .nil ?_
 dsimp only [aP,List.map]
 refine Rv 45 c0 rfl d0 (fun _=>Bc rfl rfl)<|Rv 46 c0 rfl d0 (fun _=>Ah rfl)<|Bz 4503599627370495 12 [(47,81),(48,82),(49,83),(50,84),(51,85)] (F:=[(80,false)]) (U:=[]) c0 d0 (.cons rfl .nil) .nil ?_
 dsimp only [aP,List.map]
 refine Rv 52 c0 rfl d0 (fun _=>Bc rfl rfl)<|Rv 53 c0 rfl d0 (fun _=>Ah rfl)<|Bz 72057594037927935 8 [(54,88),(55,89)] (F:=[(87,false)]) (U:=[]) c0 d0 (.cons rfl .nil) .nil ?_
 dsimp only [aP,List.map]
 refine Rv 56 c0 rfl d0 (fun _=>Bc rfl rfl)<|Rv 57 c0 rfl d0 (fun _=>Ah rfl)<|Bz 4611686018427387903 2 [(58,92),(59,93),(60,94),(61,95)] (F:=[(91,false)]) (U:=[]) c0 d0 (.cons rfl .nil) .nil ?_
 dsimp only [aP,List.map]
 refine Rv 62 c0 rfl d0 (fun _=>Bc rfl rfl)<|Rv 63 c0 rfl d0 (fun _=>Bm rfl)<|AR (dk c0)<|Ak rfl<|AQ hb0 func10 rfl rfl ?_
 cases h
 exact v0.gv
structure Tp where
  fL:List (UInt16 × UInt16)
  deriving DecidableEq
instance:Rep Tp:=Rep.via (β:=(List (UInt16 × UInt16))) fun x=>x.fL
theorem op_A102 {w:World} {L:List Nat} {cs:List Value} {x:UInt16 × UInt16} (h:Rep.R w L cs x):cs = [.int .u16 (x.1.toNat:Int),.int .u16 (x.2.toNat:Int)]:=by
  obtain ⟨c0,r0,rfl,h0,h⟩:=h
  have e0:c0 = [.int .u16 (x.1.toNat:Int)]:=h0; subst e0
  have e1:r0 = [.int .u16 (x.2.toNat:Int)]:=h; subst e1
  rfl
theorem nz:ElT Tryz.prog 46 5 (Rep.size UInt8) 1 (.int .u8 0) [.int .u8 0]:=⟨underlying46,by kernel_rfl,rfl,rfl,rfl,rfl⟩
def aS_l1 (_n:Nat) (a0:Tp) (a1:Int) (g0:Nat × (List Ta) -> Option (List Ta)):Nat × (List Ta) -> Option (List Ta)
  | (b0,c0)=>(if b0 < a0.fL.length then (if b0 < 6 then (a0.fL[b0]?).bind fun d0=>(aT a1).bind fun k0=>(jX (ab ((d0.2.toNat:Nat):Int)) (shlU (1:UInt64) k0)).bind fun j0=>(if j0 = (0:UInt64) then (jl ⟨#[99]⟩ (iY ([ax ((97 + b0:Nat):Int)]:List UInt8))).bind fun p0=>(app c0 ([(⟨p0,((d0.1.toNat % 10:Nat):Int),1⟩:Ta)]:List Ta)).bind fun s0=>g0 (b0 + 1,s0) else (jl ⟨#[99]⟩ (iY ([ax ((97 + b0:Nat):Int)]:List UInt8))).bind fun q0=>(app c0 ([(⟨q0,((d0.1.toNat % 10:Nat):Int),j0⟩:Ta)]:List Ta)).bind fun t0=>g0 (b0 + 1,t0)) else some c0) else some c0)
def aS_p (n:Nat) (a0:Tp) (a1:Int):Option (List Ta):=
  jn (fun c0=>some c0) (fun b0=>Option.bind (ah (aS_l1 n a0 a1) n (0,([]:List Ta))) (b0))
theorem aS_c (n:Nat) {L w} (hL:hl L w) (a0:Tp) {v0_0:Value} (h0_0:Rep.R w L [v0_0] a0.fL) {a1:Int}  {r:List Ta} (h:aS_p n a0 a1 = some r) :
 Cl 11 #[.agg #[v0_0],vI a1] w (ae w fun w' u=>∃ v0_0:Value,u = v0_0/\Rep.R w' L [v0_0] r):=by
 unfold aS_p at h
 refine AF func11 rfl rfl rfl fun _ cs0 hb0=>Ae<|RG.bx (AC w) rfl rfl fun M2 F0 Y0 D2=>Af rfl<|Aa<|Ae<|Af rfl<|Aa<|Ai<|Ae<|Af rfl<|Aa<|Au ?_
 have G0:=Y0.nilRow 65 (Rep.size Ta)
 have E2:=BJ Y0 65 (Rep.size Ta)
 have J1:=AB (cs:=[]) (xs:=([]:List Ta)) G0 L (AG _ _)
 refine MX.xf (α:=(List Ta) × Value × (List Value)) 0 (fun ⟨B0,z0,C0⟩=>[(5,z0)]) (fun ⟨B0,z0,C0⟩=>[rr w 65 Ta z0 B0.length C0]) (fun ⟨B0,z0,C0⟩ s1=>Cells s1 (bl [rr w 65 Ta z0 B0.length C0] ++ L) C0 B0) (fun ⟨B0,z0,C0⟩=>B0) G0 rfl h ?_ ?_
 rintro ⟨B0,z0,C0⟩ s1 H0 F2 K1 h
 try dsimp only at h
 refine Ae<|Ac rfl<|Af rfl<|Aa<|Ak rfl ?_
 have I0:=Bq H0 .hd
 have G2:=Br H0 .hd
 have U1:=Bs (α:=Ta) (v:=z0) (xs:=B0) I0 L (Ba (α:=Ta) H0 .hd K1 hL)
 refine AQ hb0 func11 rfl rfl ?_
 cases h
 exact ⟨I0.ag,fun p q=>⟨z0,rfl,I0.kd U1 q⟩⟩
 intro u2 W0 h
 try dsimp only at h
 obtain ⟨K2,R1,q1⟩:=ao h
 refine MX.lf (α:=Nat × (List Ta) × Value × (List Value)) (fun ⟨b0,v0,A0,x0⟩=>[(1,vI a1),(2,vP F0),(5,A0),(6,vI ((b0:Nat):Int))]) (fun ⟨b0,v0,A0,x0⟩=>[rr w 65 Ta A0 v0.length x0,.cells F0 [v0_0] 24]) (fun ⟨b0,v0,A0,x0⟩ u1=>Cells u1 (bl [rr w 65 Ta A0 v0.length x0,.cells F0 [v0_0] 24] ++ L) x0 v0) (fun ⟨b0,v0,A0,x0⟩=>(b0,v0)) (0,([]:List Ta),vN,[]) R1 G0 J1 ?_
 rintro v2 ⟨b0,v0,A0,x0⟩ u1 X0 y0 D0 E0 h
 unfold aS_l1 at h
 try dsimp only at h
 refine Ai<|Ae<|Ac rfl<|AT 0 rfl<|AL rfl ((y0.memA .t1) 0 _ rfl) ?_
 have U0:=AM h0_0 y0
 have H2:a0.fL.length <= 281474976710656:=AS U0
 refine Ab (AW (xs:=a0.fL) underlying22 rfl U0)<|Ab (Bj (i:=b0) (j:=a0.fL.length) rfl rfl)<|Ac rfl<|Bv (s:=13) rfl h (fun v1 h=>?_) (fun v1 h=>?_)
 refine Az (Ah rfl)<|Az (Bj (i:=b0) (j:=6) rfl rfl)<|Bl rfl rfl<|Aa<|AO rfl h (fun x1 h=>?_) (fun x1 h=>?_)
 refine Ap<|Ai<|Au<|Ai<|du 11 fun p0 q0=>Rv 0 p0 rfl q0 (fun _=>Be 0 rfl)<|Rx 1 1656 p0 rfl q0 (AN rfl ((y0.memA .t1) 0 _ rfl))<|Rv 2 p0 rfl q0 (fun _=>Ah rfl)<|bk h fun c0 Z1 h=>?_
 obtain ⟨s2,B2,Q0,R0,C2,V1,V0⟩:=Bg U0 Z1
 obtain rfl:=op_A102 V1
 refine Rv 3 p0 rfl q0 (fun _=>Bi 2 b0 rfl Q0 rfl rfl R0)<|Rv 4 p0 rfl q0 (fun _=>Bd (m:=1) (k:=1) (len:=2) rfl rfl rfl rfl (by omega))<|Rx 5 1600 p0 rfl q0 (AN rfl (V0 1 _ rfl))<|Rv 6 p0 rfl q0 (fun _=>FV.convU (i:=((c0.2.toNat:Nat):Int)) underlying101 underlying28 rfl)<|Rv 7 p0 rfl q0 (fun _=>Ah rfl)<|bk h fun g2 Q1 h=>Rv 8 p0 rfl q0 (fun _=>FV.shlI (a:=(1:UInt64)) (i:=a1) rfl rfl Q1)<|bk h fun s0 W1 h=>Rv 9 p0 rfl q0 (fun _=>FV.remV (a:=ab ((c0.2.toNat:Nat):Int)) (b:=shlU (1:UInt64) g2) rfl rfl W1)<|Rv 10 p0 rfl q0 (fun _=>Bm rfl)<|AR (dk p0)<|Ai<|Ae<|Ac rfl<|Ab (FV.eqlU (a:=s0) (b:=(0:UInt64)) rfl rfl)<|Aa<|AO rfl h (fun y1 h=>?_) (fun y1 h=>?_)
 refine Am<|Af rfl<|Aa<|du 18 fun d0 j0=>Rv 0 d0 rfl j0 (fun _=>Ah rfl)<|Rv 1 d0 rfl j0 (fun _=>Ah rfl)<|Rv 2 d0 rfl j0 (fun _=>Bf (i:=97) (j:=b0) rfl rfl (by omega))<|Rv 3 d0 rfl j0 (fun _=>FV.convU8 (i:=((97 + b0:Nat):Int)) underlying3 underlying5 rfl)<|Rv 7 d0 rfl j0 (fun _=>Be 0 rfl)<|Rx 8 1014784 d0 rfl j0 (AN rfl ((y0.memA .t1) 0 _ rfl))<|Rv 9 d0 rfl j0 (fun _=>Ah rfl)<|Rv 10 d0 rfl j0 (fun _=>Bi 2 b0 rfl Q0 rfl rfl R0)<|Rv 11 d0 rfl j0 (fun _=>Bd (m:=1) (k:=0) (len:=2) rfl rfl rfl rfl (by omega))<|Rx 12 1007616 d0 rfl j0 (AN rfl (V0 0 _ rfl)) ?_
 have I2:=c0.1.toNat_lt
 refine Rv 13 d0 rfl j0 (fun _=>FV.convN (i:=c0.1.toNat) underlying101 underlying3 rfl (by omega))<|Rv 14 d0 rfl j0 (fun _=>FV.remN (i:=c0.1.toNat) (j:=10) rfl rfl rfl)<|Rv 15 d0 rfl j0 (fun _=>Ah rfl)<|BV 4 65439 d0 rfl .plain rfl (AJ (α:=UInt8) (xs:=([ax ((97 + b0:Nat):Int)]:List UInt8)) (vs:=[.int .u8 ((ax ((97 + b0:Nat):Int)).toNat:Int)]) (ds' :=[.int .u8 ((ax ((97 + b0:Nat):Int)).toNat:Int)]) rfl y0 nz rfl (e1 rfl) (by kernel_rfl) rfl) fun P2 x2 J0 Z0=>Rx 5 983104 d0 rfl j0 (FV.bytesS (xs:=([ax ((97 + b0:Nat):Int)]:List UInt8)) underlying46 underlying9 underlying5 rfl (BN (α:=UInt8) J0 .hd (AB (cs:=[.int .u8 ((ax ((97 + b0:Nat):Int)).toNat:Int)]) (xs:=(([ax ((97 + b0:Nat):Int)]:List UInt8):List UInt8)) J0 L (Ax (cs:=[.int .u8 ((ax ((97 + b0:Nat):Int)).toNat:Int)]) (ds:=[]) rfl (AG _ _)))))<|bk h fun t0 X1 h=>Rv 6 d0 rfl j0 (fun _=>FV.addS X1 rfl rfl)<|Rv 16 d0 rfl j0 (fun _=>AU (vs:=[.string t0,vI ((c0.1.toNat % 10:Nat):Int),vW 1]) (u:=.agg #[.string t0,vI ((c0.1.toNat % 10:Nat):Int),vW 1]) (e3 rfl rfl rfl) (fun p=>by kernel_rfl))<|BV 17 262143 d0 rfl .plain rfl (AJ (α:=Ta) (xs:=([(⟨t0,((c0.1.toNat % 10:Nat):Int),1⟩:Ta)]:List Ta)) (vs:=[.agg #[.string t0,vI ((c0.1.toNat % 10:Nat):Int),vW 1]]) (ds' :=[.string t0,vI ((c0.1.toNat % 10:Nat):Int),vW 1]) rfl J0 jY rfl (e1 rfl) (by kernel_rfl) rfl) fun Q2 y2 K0 b1=>bk h fun p2 b2 h=>BS (i:=18) (rk d0) (BK (m' :=524287) (sk d0) rfl rfl .plain rfl (Bh (α:=Ta) (ys:=([(⟨t0,((c0.1.toNat % 10:Nat):Int),1⟩:Ta)]:List Ta)) b2 K0 (fun _ _=>.t2) jY rfl rfl (Ay E0 (Tt Z0 b1)) (BN (α:=Ta) K0 .hd (AB (cs:=[.string t0,vI ((c0.1.toNat % 10:Nat):Int),vW 1]) (xs:=(([(⟨t0,((c0.1.toNat % 10:Nat):Int),1⟩:Ta)]:List Ta):List Ta)) K0 L (Ax (cs:=[.string t0,vI ((c0.1.toNat % 10:Nat):Int),vW 1]) (ds:=[]) (eD t0 ((c0.1.toNat % 10:Nat):Int) (1:UInt64)) (AG _ _))))) (fun j2 R2 ⟨z1,B1,H1,M1⟩=>?_))
 refine Rv 19 d0 rfl j0 (fun _=>Bm rfl)<|AR (dk d0)<|Aw<|Am<|Ac rfl<|Ab (Bf (i:=b0) (j:=1) rfl rfl (by omega))<|Af rfl<|Aa ?_
 obtain ⟨C1,c1⟩:=AH B1 .d2
 exact X0 (b0 + 1,p2,j2,z1) C1 (Tt D0 (Tt Z0 (Tt b1 (Tt H1 c1)))) (Ay M1 c1) h
 refine Ap<|du 18 fun g0 k0=>Rv 0 g0 rfl k0 (fun _=>Ah rfl)<|Rv 1 g0 rfl k0 (fun _=>Ah rfl)<|Rv 2 g0 rfl k0 (fun _=>Bf (i:=97) (j:=b0) rfl rfl (by omega))<|Rv 3 g0 rfl k0 (fun _=>FV.convU8 (i:=((97 + b0:Nat):Int)) underlying3 underlying5 rfl)<|Rv 7 g0 rfl k0 (fun _=>Be 0 rfl)<|Rx 8 1014784 g0 rfl k0 (AN rfl ((y0.memA .t1) 0 _ rfl))<|Rv 9 g0 rfl k0 (fun _=>Ah rfl)<|Rv 10 g0 rfl k0 (fun _=>Bi 2 b0 rfl Q0 rfl rfl R0)<|Rv 11 g0 rfl k0 (fun _=>Bd (m:=1) (k:=0) (len:=2) rfl rfl rfl rfl (by omega))<|Rx 12 1007616 g0 rfl k0 (AN rfl (V0 0 _ rfl)) ?_
 have J2:=c0.1.toNat_lt
 refine Rv 13 g0 rfl k0 (fun _=>FV.convN (i:=c0.1.toNat) underlying101 underlying3 rfl (by omega))<|Rv 14 g0 rfl k0 (fun _=>FV.remN (i:=c0.1.toNat) (j:=10) rfl rfl rfl)<|Rv 15 g0 rfl k0 (fun _=>Ah rfl)<|BV 4 65439 g0 rfl .plain rfl (AJ (α:=UInt8) (xs:=([ax ((97 + b0:Nat):Int)]:List UInt8)) (vs:=[.int .u8 ((ax ((97 + b0:Nat):Int)).toNat:Int)]) (ds' :=[.int .u8 ((ax ((97 + b0:Nat):Int)).toNat:Int)]) rfl y0 nz rfl (e1 rfl) (by kernel_rfl) rfl) fun U2 z2 M0 d1=>Rx 5 983104 g0 rfl k0 (FV.bytesS (xs:=([ax ((97 + b0:Nat):Int)]:List UInt8)) underlying46 underlying9 underlying5 rfl (BN (α:=UInt8) M0 .hd (AB (cs:=[.int .u8 ((ax ((97 + b0:Nat):Int)).toNat:Int)]) (xs:=(([ax ((97 + b0:Nat):Int)]:List UInt8):List UInt8)) M0 L (Ax (cs:=[.int .u8 ((ax ((97 + b0:Nat):Int)).toNat:Int)]) (ds:=[]) rfl (AG _ _)))))<|bk h fun u0 Y1 h=>Rv 6 g0 rfl k0 (fun _=>FV.addS Y1 rfl rfl)<|Rv 16 g0 rfl k0 (fun _=>AU (vs:=[.string u0,vI ((c0.1.toNat % 10:Nat):Int),vU s0]) (u:=.agg #[.string u0,vI ((c0.1.toNat % 10:Nat):Int),vU s0]) (e3 rfl rfl rfl) (fun p=>by kernel_rfl))<|BV 17 262143 g0 rfl .plain rfl (AJ (α:=Ta) (xs:=([(⟨u0,((c0.1.toNat % 10:Nat):Int),s0⟩:Ta)]:List Ta)) (vs:=[.agg #[.string u0,vI ((c0.1.toNat % 10:Nat):Int),vU s0]]) (ds' :=[.string u0,vI ((c0.1.toNat % 10:Nat):Int),vU s0]) rfl M0 jY rfl (e1 rfl) (by kernel_rfl) rfl) fun V2 A2 P0 g1=>bk h fun q2 c2 h=>BS (i:=18) (rk g0) (BK (m' :=524287) (sk g0) rfl rfl .plain rfl (Bh (α:=Ta) (ys:=([(⟨u0,((c0.1.toNat % 10:Nat):Int),s0⟩:Ta)]:List Ta)) c2 P0 (fun _ _=>.t2) jY rfl rfl (Ay E0 (Tt d1 g1)) (BN (α:=Ta) P0 .hd (AB (cs:=[.string u0,vI ((c0.1.toNat % 10:Nat):Int),vU s0]) (xs:=(([(⟨u0,((c0.1.toNat % 10:Nat):Int),s0⟩:Ta)]:List Ta):List Ta)) P0 L (Ax (cs:=[.string u0,vI ((c0.1.toNat % 10:Nat):Int),vU s0]) (ds:=[]) (eD u0 ((c0.1.toNat % 10:Nat):Int) s0) (AG _ _))))) (fun k2 W2 ⟨A1,D1,I1,P1⟩=>?_))
 refine Rv 19 g0 rfl k0 (fun _=>Bm rfl)<|AR (dk g0)<|Aw<|Am<|Ac rfl<|Ab (Bf (i:=b0) (j:=1) rfl rfl (by omega))<|Af rfl<|Aa ?_
 obtain ⟨E1,j1⟩:=AH D1 .d2
 exact X0 (b0 + 1,q2,k2,A1) E1 (Tt D0 (Tt d1 (Tt g1 (Tt I1 j1)))) (Ay P1 j1) h
 refine AV rfl ?_
 have h:=q1 _ h
 try dsimp only at h
 obtain ⟨F1,k1⟩:=AH y0 (.a0 .done)
 exact W0 (v0,A0,x0) F1 (Tt D0 k1) (Ay E0 k1) h
 refine Al<|Al<|Bn rfl rfl<|Aa<|BA rfl<|AV rfl ?_
 have h:=q1 _ h
 try dsimp only at h
 obtain ⟨G1,p1⟩:=AH y0 (.a0 .done)
 exact W0 (v0,A0,x0) G1 (Tt D0 p1) (Ay E0 p1) h
structure TBend where
  fJ:UInt8
  fAt:UInt8
  fN:Int
  ft:ByteArray
  deriving DecidableEq
instance:Rep TBend:=Rep.via (β:=UInt8 × UInt8 × Int × ByteArray) fun x=>(x.fJ,x.fAt,x.fN,x.ft)
def bj_l1 (_n:Nat) (a0:TBend) (d0:Nat × (List Ta) -> Option (List Ta)):Nat × (List Ta) -> Option (List Ta)
  | (b0,c0)=>(if b0 < ((a0.fAt % (22:UInt8)).toNat) then (jl ⟨#[109,111,114,101]⟩ (iY ([ax ((97 + b0:Nat):Int)]:List UInt8))).bind fun g0=>(app c0 ([(⟨g0,(0:Int),1⟩:Ta)]:List Ta)).bind fun j0=>d0 (b0 + 1,j0) else some c0)
def bj_p (n:Nat) (a0:TBend) (a1:List Ta):Option (List Ta):=
  (app ([]:List Ta) a1).bind fun j0=>jn (fun b0=>(if b0.length = 0 then some b0 else (bH ((a0.fAt.toNat:Nat):Int) ((b0.length:Nat):Int)).bind fun d0=>(idx b0 d0).bind fun c0=>(if ((a0.fJ % (5:UInt8)).toNat) = 0 then (gm a0.ft 0 ((min a0.ft.size 30:Nat):Int)).bind fun k0=>(put b0 ((d0.toNat:Nat):Int) (⟨k0,c0.fE,c0.fm⟩:Ta)).bind fun q0=>some q0 else (if ((a0.fJ % (5:UInt8)).toNat) = 1 then (put b0 ((d0.toNat:Nat):Int) (⟨c0.ft,a0.fN,c0.fm⟩:Ta)).bind fun s0=>some s0 else (if ((a0.fJ % (5:UInt8)).toNat) = 2 then (put b0 ((d0.toNat:Nat):Int) (⟨c0.ft,c0.fE,ab a0.fN⟩:Ta)).bind fun t0=>some t0 else (if ((a0.fJ % (5:UInt8)).toNat) = 3 then (b0[0]?).bind fun p0=>(put b0 ((d0.toNat:Nat):Int) (⟨p0.ft,c0.fE,c0.fm⟩:Ta)).bind fun u0=>some u0 else some b0)))))) (fun g0=>(if ((a0.fJ % (5:UInt8)).toNat) = 4 then Option.bind (ah (bj_l1 n a0) n (0,j0)) (fun v0=>g0 v0) else g0 j0))
theorem bj_c (n:Nat) {L w} (hL:hl L w) (a0:TBend) {a1:List Ta} {v1_0:Value} (h1_0:Rep.R w L [v1_0] a1)  {r:List Ta} (h:bj_p n a0 a1 = some r) :
 Cl 12 #[.agg #[.int .u8 (a0.fJ.toNat:Int),.int .u8 (a0.fAt.toNat:Int),vI a0.fN,.string a0.ft],v1_0] w (ae w fun w' u=>∃ v0_0:Value,u = v0_0/\Rep.R w' L [v0_0] r):=by
 unfold bj_p at h
 refine AF func12 rfl rfl rfl fun _ cs0 hb0=>Ae<|RG.bx (AC w) rfl rfl fun M4 v0 b1 Z3=>Af rfl<|Aa<|Ae<|Af rfl<|Aa<|Ae<|Ac rfl<|Ac rfl ?_
 have C0:=b1.nilRow 65 (Rep.size Ta)
 have d4:=BJ b1 65 (Rep.size Ta)
 refine bk h fun y1 Y2 h=>BR .plain rfl (Bh (α:=Ta) (ys:=a1) Y2 C0 (fun _ _=>.hd) jY rfl rfl (AB (cs:=[]) (xs:=([]:List Ta)) C0 L (AG _ _)) (Src.rep (AM h1_0 C0))) fun u1 R4 ⟨Y0,A0,t4,k1⟩=>Af rfl<|Aa<|Ai<|Ae<|AT 0 rfl<|AL rfl ((A0.memA .t1) 0 _ rfl)<|Ab (FV.rem8 (a:=a0.fJ) (b:=(5:UInt8)) rfl rfl (by decide))<|Ab (BF (i:=(a0.fJ % (5:UInt8)).toNat) (j:=4) rfl rfl)<|Aa<|MX.jf (α:=(List Ta) × Value × (List Value)) (fun ⟨j0,d0,u0⟩=>[(2,vP v0),(5,d0)]) (fun ⟨j0,d0,u0⟩=>[rr w 65 Ta d0 j0.length u0,.cells v0 [.int .u8 (a0.fJ.toNat:Int),.int .u8 (a0.fAt.toNat:Int),vI a0.fN,.string a0.ft] 26]) (fun ⟨j0,d0,u0⟩ v1=>Cells v1 (bl [rr w 65 Ta d0 j0.length u0,.cells v0 [.int .u8 (a0.fJ.toNat:Int),.int .u8 (a0.fAt.toNat:Int),vI a0.fN,.string a0.ft] 26] ++ L) u0 j0) (fun ⟨j0,d0,u0⟩=>j0) A0 h ?_ ?_
 rintro ⟨j0,d0,u0⟩ v1 c0 b4 k0 h
 try dsimp only at h
 refine Ai<|Ae<|Ac rfl ?_
 have C4:j0.length <= 4294967296:=St.rowLe (α:=Ta) c0 .hd
 obtain ⟨t3,A3,j2⟩:=St.rowV (α:=Ta) c0 .hd
 refine Ab (FV.lenV underlying30 rfl j2)<|Ab (BF (i:=j0.length) (j:=0) rfl rfl)<|Aa<|AO rfl h (fun D1 h=>?_) (fun D1 h=>?_)
 refine Ae<|Ac rfl<|Af rfl<|Aa<|Ak rfl ?_
 have B0:=Bq c0 .hd
 have c4:=Br c0 .hd
 have B2:=Bs (α:=Ta) (v:=d0) (xs:=j0) B0 L (Ba (α:=Ta) c0 .hd k0 hL)
 refine AQ hb0 func12 rfl rfl ?_
 cases h
 exact ⟨B0.ag,fun p q=>⟨d0,rfl,B0.kd B2 q⟩⟩
 refine Ap<|Ae<|Ac rfl<|AT 1 rfl<|AL rfl ((c0.memA .t1) 1 _ rfl) ?_
 have I4:=a0.fAt.toNat_lt
 refine Ab (FV.convN (i:=a0.fAt.toNat) underlying5 underlying3 rfl (by omega))<|Ac rfl ?_
 obtain ⟨u3,B3,k2⟩:=St.rowV (α:=Ta) c0 .hd
 refine Ab (FV.lenV underlying30 rfl k2)<|bk h fun z0 Q2 h=>Ab (FV.remc (i:=((a0.fAt.toNat:Nat):Int)) (j:=((j0.length:Nat):Int)) rfl rfl Q2)<|bk h fun b0 V2 h=>?_
 obtain ⟨y2,y0⟩:=aG V2
 obtain ⟨z1,C3,U0,q1,K3,C2,D4⟩:=St.nth (α:=Ta) c0 .hd k0 y0
 obtain ⟨B1,D3,x0⟩:=BL (α:=Ta) c0 .hd q1
 obtain rfl:z1 = ⟨B1,0,none⟩:=by rw [x0] at U0; cases U0; rfl
 obtain rfl:=bw C2
 refine Ab (Bi 3 (z0.toNat) rfl U0 rfl y2 q1)<|Af rfl<|Aa<|Ai<|Ae<|AT 0 rfl<|AL rfl ((c0.memA .t1) 0 _ rfl)<|Ab (FV.rem8 (a:=a0.fJ) (b:=(5:UInt8)) rfl rfl (by decide))<|Aa<|Au<|Ae<|Ab (BF (i:=(a0.fJ % (5:UInt8)).toNat) (j:=0) rfl rfl)<|Af rfl<|Aa<|AO rfl h (fun E1 h=>?_) (fun E1 h=>?_)
 refine Am<|Ac rfl<|AT 3 rfl<|AL rfl ((c0.memA .t1) 3 _ rfl)<|AT 3 rfl<|AL rfl ((c0.memA .t1) 3 _ rfl)<|Ab (Bx underlying9 rfl)<|Ab (FV.min2N (i:=a0.ft.size) (j:=30) rfl rfl)<|bk h fun W0 R2 h=>Ab (FV.strCut R2 underlying9 rfl rfl ⟨_,rfl⟩)<|Ab (BW rfl)<|AT 0 rfl ?_
 obtain ⟨E3,p2,y4,M3,D2,E4,Z1⟩:=St.nthAt (α:=Ta) c0 .hd k0 y0 x0
 obtain rfl:=bw D2
 refine bk h fun j3 X2 h=>RG.acts' .plain (Acts.setPart (α:=Ta) (i:=z0.toNat) (tot:=0) (ds:=[.string b0.ft,vI b0.fE,vU b0.fm]) (news:=[.string W0]) (full:=[.string W0,vI b0.fE,vU b0.fm]) X2 c0 p2 (fun _=>.hd) k0 Z1 rfl rfl rfl rfl rfl rfl (eD W0 b0.fE b0.fm) rfl (o1 rfl)) fun P4 ⟨P3,D0,g4,U1⟩=>Aa<|Aw<|Ae<|Ac rfl<|Af rfl<|Aa<|Ak rfl ?_
 have E0:=Bq D0 .hd
 have j4:=Br D0 .hd
 have E2:=Bs (α:=Ta) (v:=d0) (xs:=j3) E0 L (Ba (α:=Ta) D0 .hd U1 hL)
 refine AQ hb0 func12 rfl rfl ?_
 cases h
 exact ⟨E0.ag,fun p q=>⟨d0,rfl,E0.kd E2 q⟩⟩
 refine Ae<|Ab (BF (i:=(a0.fJ % (5:UInt8)).toNat) (j:=1) rfl rfl)<|Af rfl<|Aa<|AO rfl h (fun F1 h=>?_) (fun F1 h=>?_)
 refine Am<|Ac rfl<|AT 2 rfl<|AL rfl ((c0.memA .t1) 2 _ rfl)<|Ab (BW rfl)<|AT 1 rfl ?_
 obtain ⟨F3,q2,z4,Q3,F2,F4,b2⟩:=St.nthAt (α:=Ta) c0 .hd k0 y0 x0
 obtain rfl:=bw F2
 refine bk h fun k3 Z2 h=>RG.acts' .plain (Acts.setPart (α:=Ta) (i:=z0.toNat) (tot:=1) (ds:=[.string b0.ft,vI b0.fE,vU b0.fm]) (news:=[vI a0.fN]) (full:=[.string b0.ft,vI a0.fN,vU b0.fm]) Z2 c0 q2 (fun _=>.hd) k0 b2 rfl rfl rfl rfl rfl rfl (eD b0.ft a0.fN b0.fm) rfl (o1 rfl)) fun Q4 ⟨R3,F0,k4,V1⟩=>Aa<|Aw<|Ae<|Ac rfl<|Af rfl<|Aa<|Ak rfl ?_
 have G0:=Bq F0 .hd
 have p4:=Br F0 .hd
 have G2:=Bs (α:=Ta) (v:=d0) (xs:=k3) G0 L (Ba (α:=Ta) F0 .hd V1 hL)
 refine AQ hb0 func12 rfl rfl ?_
 cases h
 exact ⟨G0.ag,fun p q=>⟨d0,rfl,G0.kd G2 q⟩⟩
 refine Ae<|Ab (BF (i:=(a0.fJ % (5:UInt8)).toNat) (j:=2) rfl rfl)<|Af rfl<|Aa<|AO rfl h (fun G1 h=>?_) (fun G1 h=>?_)
 refine Am<|Ac rfl<|AT 2 rfl<|AL rfl ((c0.memA .t1) 2 _ rfl)<|Ab (FV.convU (i:=a0.fN) underlying3 underlying28 rfl)<|Ab (BW rfl)<|AT 2 rfl ?_
 obtain ⟨G3,s2,A4,U3,H2,G4,c2⟩:=St.nthAt (α:=Ta) c0 .hd k0 y0 x0
 obtain rfl:=bw H2
 refine bk h fun p3 b3 h=>RG.acts' .plain (Acts.setPart (α:=Ta) (i:=z0.toNat) (tot:=2) (ds:=[.string b0.ft,vI b0.fE,vU b0.fm]) (news:=[vW ((ab a0.fN).toNat:Int)]) (full:=[.string b0.ft,vI b0.fE,vW ((ab a0.fN).toNat:Int)]) b3 c0 s2 (fun _=>.hd) k0 c2 rfl rfl rfl rfl rfl rfl (eD b0.ft b0.fE (ab a0.fN)) rfl (o1 rfl)) fun U4 ⟨V3,H0,q4,W1⟩=>Aa<|Aw<|Ae<|Ac rfl<|Af rfl<|Aa<|Ak rfl ?_
 have I0:=Bq H0 .hd
 have s4:=Br H0 .hd
 have I2:=Bs (α:=Ta) (v:=d0) (xs:=p3) I0 L (Ba (α:=Ta) H0 .hd W1 hL)
 refine AQ hb0 func12 rfl rfl ?_
 cases h
 exact ⟨I0.ag,fun p q=>⟨d0,rfl,I0.kd I2 q⟩⟩
 refine Ae<|Ab (BF (i:=(a0.fJ % (5:UInt8)).toNat) (j:=3) rfl rfl)<|Af rfl<|Aa<|AO rfl h (fun H1 h=>?_) (fun H1 h=>?_)
 refine Am<|Ac rfl<|Ac rfl<|bk h fun X0 W2 h=>?_
 obtain ⟨A1,H3,V0,s1,W3,J2,z2⟩:=St.nth (α:=Ta) c0 .hd k0 W2
 obtain ⟨C1,I3,u2⟩:=BL (α:=Ta) c0 .hd s1
 obtain rfl:A1 = ⟨C1,0,none⟩:=by rw [u2] at V0; cases V0; rfl
 obtain rfl:=bw J2
 refine Ab (Bi 3 0 rfl V0 rfl rfl s1)<|AT 0 rfl<|AL rfl (z2 0 _ rfl)<|Ab (BW rfl)<|AT 0 rfl ?_
 obtain ⟨J3,v2,B4,X3,K2,H4,g2⟩:=St.nthAt (α:=Ta) c0 .hd k0 y0 x0
 obtain rfl:=bw K2
 refine bk h fun q3 c3 h=>RG.acts' .plain (Acts.setPart (α:=Ta) (i:=z0.toNat) (tot:=0) (ds:=[.string b0.ft,vI b0.fE,vU b0.fm]) (news:=[.string X0.ft]) (full:=[.string X0.ft,vI b0.fE,vU b0.fm]) c3 c0 v2 (fun _=>.hd) k0 g2 rfl rfl rfl rfl rfl rfl (eD X0.ft b0.fE b0.fm) rfl (o1 rfl)) fun V4 ⟨Y3,J0,u4,X1⟩=>Aa<|Aw<|Ae<|Ac rfl<|Af rfl<|Aa<|Ak rfl ?_
 have K0:=Bq J0 .hd
 have v4:=Br J0 .hd
 have M2:=Bs (α:=Ta) (v:=d0) (xs:=q3) K0 L (Ba (α:=Ta) J0 .hd X1 hL)
 refine AQ hb0 func12 rfl rfl ?_
 cases h
 exact ⟨K0.ag,fun p q=>⟨d0,rfl,K0.kd M2 q⟩⟩
 refine Ap<|Aw<|Ae<|Ac rfl<|Af rfl<|Aa<|Ak rfl ?_
 have M0:=Bq c0 .hd
 have x4:=Br c0 .hd
 have P2:=Bs (α:=Ta) (v:=d0) (xs:=j0) M0 L (Ba (α:=Ta) c0 .hd k0 hL)
 refine AQ hb0 func12 rfl rfl ?_
 cases h
 exact ⟨M0.ag,fun p q=>⟨d0,rfl,M0.kd P2 q⟩⟩
 intro v3 Z0 h
 try dsimp only at h
 refine AO rfl h (fun I1 h=>?_) (fun I1 h=>?_)
 refine Ae<|Af rfl<|Aa<|Au ?_
 obtain ⟨K4,A2,x2⟩:=ao h
 refine MX.lf (α:=Nat × (List Ta) × Value × (List Value)) (fun ⟨g0,q0,t0,s0⟩=>[(2,vP v0),(5,t0),(6,vI ((g0:Nat):Int))]) (fun ⟨g0,q0,t0,s0⟩=>[rr w 65 Ta t0 q0.length s0,.cells v0 [.int .u8 (a0.fJ.toNat:Int),.int .u8 (a0.fAt.toNat:Int),vI a0.fN,.string a0.ft] 26]) (fun ⟨g0,q0,t0,s0⟩ x1=>Cells x1 (bl [rr w 65 Ta t0 q0.length s0,.cells v0 [.int .u8 (a0.fJ.toNat:Int),.int .u8 (a0.fAt.toNat:Int),vI a0.fN,.string a0.ft] 26] ++ L) s0 q0) (fun ⟨g0,q0,t0,s0⟩=>(g0,q0)) (0,y1,u1,Y0) A2 A0 k1 ?_
 rintro x3 ⟨g0,q0,t0,s0⟩ x1 M1 P0 c1 p1 h
 unfold bj_l1 at h
 try dsimp only at h
 refine Ai<|Ae<|Ac rfl<|AT 1 rfl<|AL rfl ((P0.memA .t1) 1 _ rfl)<|Ab (FV.rem8 (a:=a0.fAt) (b:=(22:UInt8)) rfl rfl (by decide)) ?_
 have J4:=(a0.fAt % (22:UInt8)).toNat_lt
 refine Ab (FV.convN (i:=(a0.fAt % (22:UInt8)).toNat) underlying5 underlying3 rfl (by omega))<|Ab (Bj (i:=g0) (j:=(a0.fAt % (22:UInt8)).toNat) rfl rfl)<|Aa<|AO rfl h (fun J1 h=>?_) (fun J1 h=>?_)
 refine Ap<|Ai<|Au<|Am<|Ac rfl<|Ac rfl<|Ab (Bf (i:=97) (j:=g0) rfl rfl (by omega))<|Ab (FV.convU8 (i:=((97 + g0:Nat):Int)) underlying3 underlying5 rfl)<|Ao .plain rfl (AJ (α:=UInt8) (xs:=([ax ((97 + g0:Nat):Int)]:List UInt8)) (vs:=[.int .u8 ((ax ((97 + g0:Nat):Int)).toNat:Int)]) (ds' :=[.int .u8 ((ax ((97 + g0:Nat):Int)).toNat:Int)]) rfl P0 nz rfl (e1 rfl) (by kernel_rfl) rfl) fun W4 y3 Q0 d1=>Ab (FV.bytesS (xs:=([ax ((97 + g0:Nat):Int)]:List UInt8)) underlying46 underlying9 underlying5 rfl (BN (α:=UInt8) Q0 .hd (AB (cs:=[.int .u8 ((ax ((97 + g0:Nat):Int)).toNat:Int)]) (xs:=(([ax ((97 + g0:Nat):Int)]:List UInt8):List UInt8)) Q0 L (Ax (cs:=[.int .u8 ((ax ((97 + g0:Nat):Int)).toNat:Int)]) (ds:=[]) rfl (AG _ _)))))<|bk h fun p0 U2 h=>Ab (FV.addS U2 rfl rfl)<|Ab (AU (vs:=[.string p0,vW 1]) (u:=.agg #[.string p0,vI 0,vW 1]) (e2 rfl rfl) (fun p=>by kernel_rfl))<|Ao .plain rfl (AJ (α:=Ta) (xs:=([(⟨p0,(0:Int),1⟩:Ta)]:List Ta)) (vs:=[.agg #[.string p0,vI 0,vW 1]]) (ds' :=[.string p0,vI 0,vW 1]) rfl Q0 jY rfl (e1 rfl) (by kernel_rfl) rfl) fun X4 z3 R0 g1=>bk h fun s3 d3 h=>BR .plain rfl (Bh (α:=Ta) (ys:=([(⟨p0,(0:Int),1⟩:Ta)]:List Ta)) d3 R0 (fun _ _=>.t2) jY rfl rfl (Ay p1 (Tt d1 g1)) (BN (α:=Ta) R0 .hd (AB (cs:=[.string p0,vI 0,vW 1]) (xs:=(([(⟨p0,(0:Int),1⟩:Ta)]:List Ta):List Ta)) R0 L (Ax (cs:=[.string p0,vI 0,vW 1]) (ds:=[]) (eD p0 (0:Int) (1:UInt64)) (AG _ _))))) fun g3 Y4 ⟨K1,P1,R1,Y1⟩=>Af rfl<|Aa<|Aw<|Am<|Ac rfl<|Ab (Bf (i:=g0) (j:=1) rfl rfl (by omega))<|Af rfl<|Aa ?_
 obtain ⟨Q1,j1⟩:=AH P1 .d2
 exact M1 (g0 + 1,s3,g3,K1) Q1 (Tt c1 (Tt d1 (Tt g1 (Tt R1 j1)))) (Ay Y1 j1) h
 refine AV rfl ?_
 have h:=x2 _ h
 try dsimp only at h
 exact Z0 (q0,t0,s0) P0 c1 p1 h
 refine Ap<|Z0 (y1,u1,Y0) A0 (Bw _ _) k1 h
structure Tk where
  fN:UInt8
  fI:List UInt8
  fMore:List (UInt8 × UInt8)
  fLabels:List UInt8
  fK:UInt8
  deriving DecidableEq
instance:Rep Tk:=Rep.via (β:=UInt8 × (List UInt8) × (List (UInt8 × UInt8)) × (List UInt8) × UInt8) fun x=>(x.fN,x.fI,x.fMore,x.fLabels,x.fK)
def cg_p (_n:Nat) (a0:Tk):Option Int:=
  some ((1 + ((a0.fN % (9:UInt8)).toNat):Nat):Int)
theorem cg_c (n:Nat) {L w} (_hL:hl L w) (a0:Tk) {v0_1:Value} (_h0_1:Rep.R w L [v0_1] a0.fI) {v0_2:Value} (_h0_2:Rep.R w L [v0_2] a0.fMore) {v0_3:Value} (_h0_3:Rep.R w L [v0_3] a0.fLabels)  {r:Int} (h:cg_p n a0 = some r) :
 Cl 49 #[.agg #[.int .u8 (a0.fN.toNat:Int),v0_1,v0_2,v0_3,.int .u8 (a0.fK.toNat:Int)]] w (ae w fun _ u=>u = vI r):=by
 unfold cg_p at h
 refine AF func49 rfl rfl rfl fun _ cs0 hb0=>Ae<|RG.bx (AC w) rfl rfl fun j0 c0 b0 d0=>Af rfl<|Aa<|Ae<|AT 0 rfl<|AL rfl ((b0.memA .hd) 0 _ rfl)<|Ab (FV.rem8 (a:=a0.fN) (b:=(9:UInt8)) rfl rfl (by decide)) ?_
 have g0:=(a0.fN % (9:UInt8)).toNat_lt
 refine Ab (FV.convN (i:=(a0.fN % (9:UInt8)).toNat) underlying5 underlying3 rfl (by omega))<|Ab (Bf (i:=1) (j:=(a0.fN % (9:UInt8)).toNat) rfl rfl (by omega))<|Af rfl<|Aa<|Ak rfl<|AQ hb0 func49 rfl rfl ?_
 cases h
 exact b0.gv
def bR_p (_n:Nat) (a0:Tk) (a1:Int):Option Int:=
  (if a1 < ((a0.fLabels.length:Nat):Int) then (idx a0.fLabels a1).bind fun b0=>some ((b0.toNat:Nat):Int) else some (0:Int))
theorem bR_c (n:Nat) {L w} (_hL:hl L w) (a0:Tk) {v0_1:Value} (_h0_1:Rep.R w L [v0_1] a0.fI) {v0_2:Value} (_h0_2:Rep.R w L [v0_2] a0.fMore) {v0_3:Value} (h0_3:Rep.R w L [v0_3] a0.fLabels) {a1:Int}  {r:Int} (h:bR_p n a0 a1 = some r) :
 Cl 50 #[.agg #[.int .u8 (a0.fN.toNat:Int),v0_1,v0_2,v0_3,.int .u8 (a0.fK.toNat:Int)],vI a1] w (ae w fun _ u=>u = vI r):=by
 unfold bR_p at h
 refine AF func50 rfl rfl rfl fun _ cs0 hb0=>Ae<|RG.bx (AC w) rfl rfl fun E0 z0 b0 B0=>Af rfl<|Aa<|Ai<|Ae<|Ac rfl<|AT 3 rfl<|AL rfl ((b0.memA .hd) 3 _ rfl) ?_
 have c0:=AM h0_3 b0
 have C0:a0.fLabels.length <= 281474976710656:=AS c0
 refine Ab (AW (xs:=a0.fLabels) underlying46 rfl c0)<|Ab (BO (i:=a1) (j:=((a0.fLabels.length:Nat):Int)) rfl rfl)<|Aa<|AO rfl h (fun g0 h=>?_) (fun g0 h=>?_)
 refine Ae<|AT 3 rfl<|AL rfl ((b0.memA .hd) 3 _ rfl)<|Ac rfl<|bk h fun d0 v0 h=>?_
 obtain ⟨q0,x0⟩:=aG v0
 obtain ⟨y0,A0,k0,s0,j0,u0,t0⟩:=Bg c0 x0
 have p0:j0 = [.int .u8 (d0.toNat:Int)]:=u0; subst p0
 refine Ab (Bi 1 (a1.toNat) rfl k0 rfl q0 s0)<|AL rfl (t0 0 _ rfl) ?_
 have D0:=d0.toNat_lt
 refine Ab (FV.convN (i:=d0.toNat) underlying5 underlying3 rfl (by omega))<|Af rfl<|Aa<|Ak rfl<|AQ hb0 func50 rfl rfl ?_
 cases h
 exact b0.gv
 refine Ap<|Ae<|Af rfl<|Aa<|Ak rfl<|AQ hb0 func50 rfl rfl ?_
 cases h
 exact b0.gv
def bp_l1 (_n:Nat) (a0:List Int) (a1:Int) (d0:Nat -> Option (Bool ⊕ Unit)):Nat -> Option (Bool ⊕ Unit)
  | b0=>(if b0 < a0.length then (a0[b0]?).bind fun c0=>(if c0 < 0 then some (.inl false) else (if a1 <= c0 then some (.inl false) else d0 (b0 + 1))) else some (.inr ()))
def bp_p (n:Nat) (a0:List Int) (a1:Int):Option Bool:=
  thn (ah (bp_l1 n a0 a1) n 0) (fun _=>(if 1 <= a0.length then some (decide (a0.length <= 64)) else some false))
theorem bp_c (n:Nat) {L w} (_hL:hl L w) {a0:List Int} {v0_0:Value} (h0_0:Rep.R w L [v0_0] a0) {a1:Int}  {r:Bool} (h:bp_p n a0 a1 = some r) :
 Cl 91 #[v0_0,vI a1] w (ae w fun _ u=>u = .bool r):=by
 unfold bp_p at h
 refine AF func91 rfl rfl rfl fun _ cs0 hb0=>Ae<|Af rfl<|Aa<|Ai<|Ae<|Af rfl<|Aa<|Au<|tn h fun I0 B0 g0=>BT (α:=Nat) (fun b0=>[(0,v0_0),(1,vI a1),(5,vI ((b0:Nat):Int))]) (fun b0=>[]) (fun b0=>b0) 0 B0 (AC w) ?_
 rintro F0 b0 J0 y0 c0 z0 h
 unfold bp_l1 at h
 try dsimp only at h
 refine Ai<|Ae<|Ac rfl<|Ac rfl ?_
 have d0:=AM h0_0 c0
 have H0:a0.length <= 281474976710656:=AS d0
 refine Ab (AW (xs:=a0) underlying53 rfl d0)<|Ab (Bj (i:=b0) (j:=a0.length) rfl rfl)<|Aa<|AO rfl h (fun s0 h=>?_) (fun s0 h=>?_)
 refine Ap<|Ai<|Au<|Ae<|Ac rfl<|Ac rfl<|bk h fun j0 D0 h=>?_
 obtain ⟨E0,G0,k0,p0,x0,C0,q0⟩:=Bg d0 D0
 have A0:x0 = [vI j0]:=C0; subst A0
 refine Ab (Bi 1 b0 rfl k0 rfl rfl p0)<|AL rfl (q0 0 _ rfl)<|Ab (BO (i:=j0) (j:=0) rfl rfl)<|Ac rfl<|Bv (s:=17) rfl h (fun t0 h=>?_) (fun t0 h=>?_)
 refine Al<|Al<|Al<|Al<|Al<|Al<|Bl rfl rfl<|Aa<|AZ rfl<|Ae<|Af rfl<|Aa ?_
 have h:=ap h g0
 refine Ak rfl<|AQ hb0 func91 rfl rfl ?_
 cases h
 exact c0.gv
 refine Az (Ah rfl)<|Az (Ah rfl)<|Az (Bi 1 b0 rfl k0 rfl rfl p0)<|Az (AN rfl (q0 0 _ rfl))<|Az (Ah rfl)<|Az (FV.geq (i:=j0) (j:=a1) rfl rfl)<|Bn rfl rfl<|Aa<|AO rfl h (fun u0 h=>?_) (fun u0 h=>?_)
 refine Ae<|Af rfl<|Aa ?_
 have h:=ap h g0
 refine Ak rfl<|AQ hb0 func91 rfl rfl ?_
 cases h
 exact c0.gv
 refine Ap<|Aw<|Am<|Ac rfl<|Ab (Bf (i:=b0) (j:=1) rfl rfl (by omega))<|Af rfl<|Aa<|y0 (b0 + 1) c0 z0 h
 refine AV rfl ?_
 have h:=aA h g0
 try dsimp only at h
 refine Ae<|Ac rfl<|Ab (AW (xs:=a0) underlying53 rfl d0)<|Ab (FV.geqN (i:=a0.length) (j:=1) rfl rfl)<|Ac rfl<|Bv (s:=28) rfl h (fun v0 h=>?_) (fun v0 h=>?_)
 refine Az (Ah rfl)<|Az (AW (xs:=a0) underlying53 rfl d0)<|Az (FV.leqN (i:=a0.length) (j:=64) rfl rfl)<|Bl rfl rfl<|Af rfl<|Aa<|Ak rfl<|AQ hb0 func91 rfl rfl ?_
 cases h
 exact c0.gv
 refine Al<|Al<|Al<|Bn rfl rfl<|Af rfl<|Aa<|Ak rfl<|AQ hb0 func91 rfl rfl ?_
 cases h
 exact c0.gv

theorem ay:ElT Tryz.prog 52 3 (Rep.size Int) 8 (vI 0) [vI 0]:=⟨underlying52,by kernel_rfl,rfl,rfl,rfl,rfl⟩
def bw_l1 (_n:Nat) (a0:List Int) (q0:Int × Nat × (List Int) × (List Int) -> Option (List Int)):Int × Nat × (List Int) × (List Int) -> Option (List Int)
  | (g0,b0,k0,d0)=>(if b0 < a0.length then (a0[b0]?).bind fun c0=>(idx d0 c0).bind fun t0=>jn (fun (y0,p0)=>(idx p0 c0).bind fun u0=>(app k0 ([u0]:List Int)).bind fun v0=>q0 (y0,b0 + 1,v0,p0)) (fun j0=>(if t0 < 0 then (put d0 ((c0.toNat:Nat):Int) g0).bind fun x0=>(chk (g0 + 1)).bind fun s0=>j0 (s0,x0) else j0 (g0,d0))) else some k0)
def bw_p (n:Nat) (a0:List Int):Option ((List Int) × Int):=
  (bp_p n a0 (8:Int)).bind fun y1=>(if y1 = true then Option.bind (ah (bw_l1 n a0) n (0,0,([]:List Int),([(-1:Int),(-1:Int),(-1:Int),(-1:Int),(-1:Int),(-1:Int),(-1:Int),(-1:Int)]:List Int))) (fun b0=>some (b0,(0:Int))) else some (([]:List Int),(210:Int)))
theorem bw_c (n:Nat) {L w} (hL:hl L w) {a0:List Int} {v0_0:Value} (h0_0:Rep.R w L [v0_0] a0)  {r:(List Int) × Int} (h:bw_p n a0 = some r) :
 Cl 51 #[v0_0] w (ae w fun w' u=>∃ v0_0:Value,u = .tuple #[v0_0,vI r.2]/\Rep.R w' L [v0_0] r.1):=by
 unfold bw_p at h
 have hS0:=AC w
 refine AF func51 rfl rfl rfl fun _ cs0 hb0=>Ae<|Af rfl<|Af rfl<|Aa<|Ai<|Ae<|Ac rfl<|bk h fun y1 hy1 h=>Bk (.bool y1) (bd 91) rfl (e2 rfl rfl) (fun p q=>bp_c n (hS0.hL0 hL q) (hS0.kd h0_0 q) hy1) rfl<|Ab (Bp rfl)<|Aa<|BU rfl h (fun c2 h=>?_) (fun c2 h=>?_)
 refine Ap<|Ae<|Ao .plain rfl (AJ (α:=Int) (xs:=([(-1:Int),(-1:Int),(-1:Int),(-1:Int),(-1:Int),(-1:Int),(-1:Int),(-1:Int)]:List Int)) (vs:=[vI (-1),vI (-1),vI (-1),vI (-1),vI (-1),vI (-1),vI (-1),vI (-1)]) (ds' :=[vI (-1),vI (-1),vI (-1),vI (-1),vI (-1),vI (-1),vI (-1),vI (-1)]) rfl hS0 ay rfl (e8 rfl rfl rfl rfl rfl rfl rfl rfl) (by kernel_rfl) rfl) fun g3 v0 B0 Z2=>Af rfl<|Aa<|Ae<|Af rfl<|Aa<|Ae<|Af rfl<|Aa<|Ai<|Ae<|Af rfl<|Aa<|Au ?_
 have K0:=B0.nilRow 3 (Rep.size Int)
 obtain ⟨d3,p2,Z1⟩:=ao h
 refine MX.lf (α:=Int × Nat × (List Int) × (List Int) × Value × (List Value) × (List Value)) (fun ⟨u0,b0,d0,j0,c0,g0,k0⟩=>[(0,v0_0),(4,(vS v0 8)),(5,vI u0),(6,c0),(7,vI ((b0:Nat):Int))]) (fun ⟨u0,b0,d0,j0,c0,g0,k0⟩=>[rr w 3 Int c0 d0.length g0,rr w 3 Int (vS v0 8) j0.length k0]) (fun ⟨u0,b0,d0,j0,c0,g0,k0⟩ I0=>Cells I0 (bl [rr w 3 Int c0 d0.length g0,rr w 3 Int (vS v0 8) j0.length k0] ++ L) g0 d0/\Cells I0 (bl [rr w 3 Int c0 d0.length g0,rr w 3 Int (vS v0 8) j0.length k0] ++ L) k0 j0) (fun ⟨u0,b0,d0,j0,c0,g0,k0⟩=>(u0,b0,d0,j0)) (0,0,([]:List Int),([(-1:Int),(-1:Int),(-1:Int),(-1:Int),(-1:Int),(-1:Int),(-1:Int),(-1:Int)]:List Int),vN,[],[vI (-1),vI (-1),vI (-1),vI (-1),vI (-1),vI (-1),vI (-1),vI (-1)]) p2 K0 ⟨(AB (cs:=[]) (xs:=([]:List Int)) K0 L (AG _ _)),(Ay (AB (cs:=[vI (-1),vI (-1),vI (-1),vI (-1),vI (-1),vI (-1),vI (-1),vI (-1)]) (xs:=(([(-1:Int),(-1:Int),(-1:Int),(-1:Int),(-1:Int),(-1:Int),(-1:Int),(-1:Int)]:List Int):List Int)) B0 L (Ax (cs:=[vI (-1)]) (ds:=[vI (-1),vI (-1),vI (-1),vI (-1),vI (-1),vI (-1),vI (-1)]) rfl (Ax (cs:=[vI (-1)]) (ds:=[vI (-1),vI (-1),vI (-1),vI (-1),vI (-1),vI (-1)]) rfl (Ax (cs:=[vI (-1)]) (ds:=[vI (-1),vI (-1),vI (-1),vI (-1),vI (-1)]) rfl (Ax (cs:=[vI (-1)]) (ds:=[vI (-1),vI (-1),vI (-1),vI (-1)]) rfl (Ax (cs:=[vI (-1)]) (ds:=[vI (-1),vI (-1),vI (-1)]) rfl (Ax (cs:=[vI (-1)]) (ds:=[vI (-1),vI (-1)]) rfl (Ax (cs:=[vI (-1)]) (ds:=[vI (-1)]) rfl (Ax (cs:=[vI (-1)]) (ds:=[]) rfl (AG _ _)))))))))) (BJ B0 3 (Rep.size Int)))⟩ ?_
 rintro M2 ⟨u0,b0,d0,j0,c0,g0,k0⟩ I0 F1 p0 J1 ⟨R0,E0⟩ h
 unfold bw_l1 at h
 try dsimp only at h
 refine Ai<|Ae<|Ac rfl<|Ac rfl ?_
 have H0:=AM h0_0 p0
 have c3:a0.length <= 281474976710656:=AS H0
 refine Ab (AW (xs:=a0) underlying53 rfl H0)<|Ab (Bj (i:=b0) (j:=a0.length) rfl rfl)<|Aa<|AO rfl h (fun v1 h=>?_) (fun v1 h=>?_)
 refine Ap<|Ai<|Au<|Ai<|Ae<|Ac rfl<|Ac rfl<|Ac rfl<|bk h fun y0 g1 h=>?_
 obtain ⟨J2,R2,V0,Y0,z1,q2,b1⟩:=Bg H0 g1
 have R1:z1 = [vI y0]:=q2; subst R1
 refine Ab (Bi 1 b0 rfl V0 rfl rfl Y0)<|AL rfl (b1 0 _ rfl)<|bk h fun k1 z2 h=>?_
 obtain ⟨X0,A2⟩:=aG z2
 obtain ⟨p1,U2,A0,G0,A1,s2,g2⟩:=St.nth (α:=Int) p0 .t1 E0 A2
 obtain ⟨s1,V2,W0⟩:=BL (α:=Int) p0 .t1 G0
 obtain rfl:p1 = ⟨s1,0,none⟩:=by rw [W0] at A0; cases A0; rfl
 have U1:A1 = [vI k1]:=s2; subst U1
 refine Ab (Bi 1 (y0.toNat) rfl A0 rfl X0 G0)<|AL rfl (g2 0 _ rfl)<|Ab (BO (i:=k1) (j:=0) rfl rfl)<|Aa<|MX.jf (α:=Int × (List Int) × (List Value)) (fun ⟨x0,q0,s0⟩=>[(0,v0_0),(4,(vS v0 8)),(5,vI x0),(6,c0),(7,vI ((b0:Nat):Int))]) (fun ⟨x0,q0,s0⟩=>[rr w 3 Int c0 d0.length g0,rr w 3 Int (vS v0 8) q0.length s0]) (fun ⟨x0,q0,s0⟩ j1=>Cells j1 (bl [rr w 3 Int c0 d0.length g0,rr w 3 Int (vS v0 8) q0.length s0] ++ L) s0 q0) (fun ⟨x0,q0,s0⟩=>(x0,q0)) p0 h ?_ ?_
 rintro ⟨x0,q0,s0⟩ j1 z0 M0 U0 h
 try dsimp only at h
 refine Am<|Ac rfl<|Ac rfl<|Ac rfl<|Ac rfl ?_
 obtain ⟨K2,W2,V1,d2,B1,t2,j2⟩:=Bg (AM h0_0 z0) g1
 have W1:B1 = [vI y0]:=t2; subst W1
 refine Ab (Bi 1 b0 rfl V1 rfl rfl d2)<|AL rfl (j2 0 _ rfl)<|bk h fun t0 B2 h=>?_
 obtain ⟨b2,C2⟩:=aG B2
 obtain ⟨q1,X2,F0,Z0,C1,u2,k2⟩:=St.nth (α:=Int) z0 .t1 U0 C2
 obtain ⟨u1,Y2,X1⟩:=BL (α:=Int) z0 .t1 Z0
 obtain rfl:q1 = ⟨u1,0,none⟩:=by rw [X1] at F0; cases F0; rfl
 have Y1:C1 = [vI t0]:=u2; subst Y1
 refine Ab (Bi 1 (y0.toNat) rfl F0 rfl b2 Z0)<|AL rfl (k2 0 _ rfl)<|Ao .plain rfl (jA t0 (vI t0) z0 kf (e1 rfl)) fun j3 Q2 C0 P0=>bk h fun H2 D2 h=>BR .plain rfl (Bh (α:=Int) (ys:=([t0]:List Int)) D2 C0 (fun _ _=>.t1) kf rfl rfl (Ay R0 (Tt M0 P0)) (BN (α:=Int) C0 .hd (jC t0 (vI t0) C0 L rfl))) fun G2 k3 ⟨D1,G1,K1,P1⟩=>Af rfl<|Aa<|Aw<|Am<|Ac rfl<|Ab (Bf (i:=b0) (j:=1) rfl rfl (by omega))<|Af rfl<|Aa ?_
 obtain ⟨H1,Q0⟩:=AH G1 .d1
 have c1:=Tt P0 (Tt K1 Q0)
 exact F1 (x0,b0 + 1,H2,q0,G2,D1,s0) H1 (Tt J1 (Tt M0 c1)) ⟨(Ay P1 Q0),(Ay U0 c1)⟩ h
 intro P2 J0 h
 try dsimp only at h
 refine AO rfl h (fun x1 h=>?_) (fun x1 h=>?_)
 refine Ae<|Ac rfl<|Ac rfl<|Ac rfl<|Ab (Bi 1 b0 rfl V0 rfl rfl Y0)<|AL rfl (b1 0 _ rfl)<|Ac rfl<|Ab (Bi 1 (y0.toNat) rfl A0 rfl X0 G0)<|bk h fun I2 E2 h=>RG.acts' .plain (Acts.set (α:=Int) (i:=y0.toNat) E2 p0 W0 (fun _=>.t1) E0 rfl rfl rfl rfl rfl rfl) fun p3 ⟨E1,I1,M1,Q1⟩=>Aa<|Am<|Ac rfl<|bk h fun F2 y2 h=>Ab (BE (i:=u0) (j:=1) rfl rfl y2)<|Af rfl<|Aa<|J0 (F2,I2,E1) I1 M1 Q1 h
 refine Ap<|J0 (u0,j0,k0) p0 (Bw _ _) E0 h
 refine AV rfl ?_
 have h:=Z1 _ h
 try dsimp only at h
 refine Ae<|Ac rfl<|Af rfl<|Af rfl<|Aa<|Ak rfl ?_
 have D0:=Bq p0 .hd
 have b3:=Br p0 .hd
 have v2:=Bs (α:=Int) (v:=c0) (xs:=d0) D0 L (Ba (α:=Int) p0 .hd R0 hL)
 refine Ar hb0 func51 rfl (.cons (.tmp rfl) (.cons (.tmp rfl) .nil)) rfl ?_
 cases h
 exact ⟨D0.ag,fun p q=>⟨c0,rfl,D0.kd v2 q⟩⟩
 refine Ae<|Af rfl<|Af rfl<|Aa<|Ak rfl ?_
 have x2:=Rep.nilAt (α:=Int) hS0 L
 refine Ar hb0 func51 rfl (.cons (.tmp rfl) (.cons (.tmp rfl) .nil)) rfl ?_
 cases h
 exact ⟨hS0.ag,fun p q=>⟨vN,rfl,hS0.kd x2 q⟩⟩
def ai_l1 (_n:Nat) (c0:(List Int) × Int) (g0:Int × Nat -> Option Int):Int × Nat -> Option Int
  | (d0,b0)=>(if b0 < c0.1.length then (c0.1[b0]?).bind fun k0=>(chk (k0 + 1)).bind fun j0=>g0 (max d0 j0,b0 + 1) else some d0)
def ai_l2 (n:Nat) (a0:Tk) (d0:Int × (List Int) -> Option (List Int)):Int × (List Int) -> Option (List Int)
  | (b0,c0)=>(cg_p n a0).bind fun p0=>(if b0 < p0 then (bR_p n a0 b0).bind fun q0=>(bH q0 ((1 + ((a0.fK % (8:UInt8)).toNat):Nat):Int)).bind fun j0=>(app c0 ([j0]:List Int)).bind fun k0=>(chk (b0 + 1)).bind fun g0=>d0 (g0,k0) else some c0)
def ai_p (n:Nat) (a0:Tk):Option ((List Int) × Int):=
  Option.bind (ah (ai_l2 n a0) n (0,([]:List Int))) (fun c0=>(bw_p n c0).bind fun b0=>Option.bind (ah (ai_l1 n b0) n (0,0)) (fun d0=>some (b0.1,d0)))
theorem ai_c (n:Nat) {L w} (hL:hl L w) (a0:Tk) {v0_1:Value} (h0_1:Rep.R w L [v0_1] a0.fI) {v0_2:Value} (h0_2:Rep.R w L [v0_2] a0.fMore) {v0_3:Value} (h0_3:Rep.R w L [v0_3] a0.fLabels)  {r:(List Int) × Int} (h:ai_p n a0 = some r) :
 Cl 17 #[.agg #[.int .u8 (a0.fN.toNat:Int),v0_1,v0_2,v0_3,.int .u8 (a0.fK.toNat:Int)]] w (ae w fun w' u=>∃ v0_0:Value,u = .tuple #[v0_0,vI r.2]/\Rep.R w' L [v0_0] r.1):=by
 unfold ai_p at h
 refine AF func17 rfl rfl rfl fun _ cs0 hb0=>Ae<|RG.bx (AC w) rfl rfl fun u2 x0 C0 d2=>Af rfl<|Af rfl<|Aa<|Ae<|Af rfl<|Aa<|Ai<|Ae<|Af rfl<|Aa<|Au ?_
 have D0:=C0.nilRow 3 (Rep.size Int)
 have g2:=BJ C0 3 (Rep.size Int)
 obtain ⟨q2,C1,y1⟩:=ao h
 refine MX.lf (α:=Int × (List Int) × Value × (List Value)) (fun ⟨q0,j0,p0,s0⟩=>[(1,vP x0),(4,p0),(5,vI q0)]) (fun ⟨q0,j0,p0,s0⟩=>[rr w 3 Int p0 j0.length s0,.cells x0 [.int .u8 (a0.fN.toNat:Int),v0_1,v0_2,v0_3,.int .u8 (a0.fK.toNat:Int)] 49]) (fun ⟨q0,j0,p0,s0⟩ K0=>Cells K0 (bl [rr w 3 Int p0 j0.length s0,.cells x0 [.int .u8 (a0.fN.toNat:Int),v0_1,v0_2,v0_3,.int .u8 (a0.fK.toNat:Int)] 49] ++ L) s0 j0) (fun ⟨q0,j0,p0,s0⟩=>(q0,j0)) (0,([]:List Int),vN,[]) C1 D0 (AB (cs:=[]) (xs:=([]:List Int)) D0 L (AG _ _)) ?_
 rintro X1 ⟨q0,j0,p0,s0⟩ K0 Y0 b0 p1 H0 h
 unfold ai_l2 at h
 try dsimp only at h
 refine Ai<|Ae<|Ac rfl<|Ab (AK rfl (b0.memA .t1))<|bk h fun P0 M1 h=>Bk (vI P0) (bd 49) rfl (e1 rfl) (fun p q=>cg_c n (b0.hL0 hL q) a0 (b0.k0 h0_1 q) (b0.k0 h0_2 q) (b0.k0 h0_3 q) M1) rfl<|Ab (BO (i:=q0) (j:=P0) rfl rfl)<|Aa<|AO rfl h (fun U0 h=>?_) (fun U0 h=>?_)
 refine Ap<|Ai<|Au<|du 11 fun c0 d0=>Rv 0 c0 rfl d0 (fun _=>Ah rfl)<|Rx 1 7688 c0 rfl d0 (AK rfl (b0.memA .t1))<|Rv 2 c0 rfl d0 (fun _=>Ah rfl)<|bk h fun Q0 P1 h=>RD.cq 3 15 7680 (vI Q0) c0 rfl d0 (bd 50) rfl (e2 rfl rfl) (fun p q=>bR_c n (b0.hL0 hL q) a0 (b0.k0 h0_1 q) (b0.k0 h0_2 q) (b0.k0 h0_3 q) P1) rfl<|Rv 4 c0 rfl d0 (fun _=>Be 4 rfl)<|Rx 5 8128 c0 rfl d0 (AN rfl ((b0.memA .t1) 4 _ rfl))<|Rv 6 c0 rfl d0 (fun _=>FV.rem8 (a:=a0.fK) (b:=(8:UInt8)) rfl rfl (by decide)) ?_
 have k2:=(a0.fK % (8:UInt8)).toNat_lt
 refine Rv 7 c0 rfl d0 (fun _=>FV.convN (i:=(a0.fK % (8:UInt8)).toNat) underlying5 underlying3 rfl (by omega))<|Rv 8 c0 rfl d0 (fun _=>Bf (i:=1) (j:=(a0.fK % (8:UInt8)).toNat) rfl rfl (by omega))<|bk h fun t0 H1 h=>Rv 9 c0 rfl d0 (fun _=>FV.remc (i:=Q0) (j:=((1 + ((a0.fK % (8:UInt8)).toNat):Nat):Int)) rfl rfl H1)<|BV 10 2047 c0 rfl .plain rfl (jA t0 (vI t0) b0 kf (e1 rfl)) fun x2 Y1 y0 E0=>bk h fun U1 J1 h=>BS (i:=11) (rk c0) (BK (m' :=4095) (sk c0) rfl rfl .plain rfl (Bh (α:=Int) (ys:=([t0]:List Int)) J1 y0 (fun _ _=>.t1) kf rfl rfl (Ay H0 E0) (BN (α:=Int) y0 .hd (jC t0 (vI t0) y0 L rfl))) (fun R1 t2 ⟨V0,Z0,j1,s1⟩=>?_))
 refine Rv 12 c0 rfl d0 (fun _=>Bm rfl)<|AR (dk c0)<|Aw<|Am<|Ac rfl<|bk h fun Q1 F1 h=>Ab (BE (i:=q0) (j:=1) rfl rfl F1)<|Af rfl<|Aa ?_
 obtain ⟨b1,F0⟩:=AH Z0 .d1
 exact Y0 (Q1,U1,R1,V0) b1 (Tt p1 (Tt E0 (Tt j1 F0))) (Ay s1 F0) h
 refine AV rfl ?_
 have h:=y1 _ h
 try dsimp only at h
 refine Ae<|Ac rfl ?_
 have z0:=Bq b0 .hd
 have b2:=Br b0 .hd
 refine bk h fun B0 K1 h=>jE (bd 51) rfl (e1 rfl) (fun p q=>bw_c n (z0.hL hL q) (Av (Bs (α:=Int) (v:=p0) (xs:=j0) z0 L (Ba (α:=Int) b0 .hd H0 hL)) q) K1) rfl fun v2 s2 q1 ⟨J0,hu_,D1⟩=>?_
 subst hu_
 obtain ⟨c1,c2⟩:=z0.agr q1
 refine Ac rfl<|Ab (Aj rfl rfl)<|Ab (Aj rfl rfl)<|Af rfl<|Aa<|Ae<|Af rfl<|Aa<|Ai<|Ae<|Af rfl<|Aa<|Au ?_
 obtain ⟨g1,k1⟩:=AH c1 .done
 obtain ⟨p2,B1,x1⟩:=ao h
 refine BT (α:=Int × Nat) (fun ⟨u0,g0⟩=>[(4,J0),(6,vI u0),(7,vI ((g0:Nat):Int))]) (fun ⟨u0,g0⟩=>[]) (fun ⟨u0,g0⟩=>(u0,g0)) (0,0) B1 g1 ?_
 rintro W1 ⟨u0,g0⟩ y2 X0 A0 G0 h
 unfold ai_l1 at h
 try dsimp only at h
 refine Ai<|Ae<|Ac rfl<|Ac rfl ?_
 have v0:=Aq D1 (Tt k1 G0)
 have j2:B0.1.length <= 281474976710656:=AS v0
 refine Ab (AW (xs:=B0.1) underlying53 rfl v0)<|Ab (Bj (i:=g0) (j:=B0.1.length) rfl rfl)<|Aa<|AO rfl h (fun R0 h=>?_) (fun R0 h=>?_)
 refine Ap<|Ai<|Au<|Am<|Ac rfl<|Ac rfl<|Ac rfl<|bk h fun M0 I1 h=>?_
 obtain ⟨V1,Z1,u1,z1,W0,E1,A1⟩:=Bg v0 I1
 have v1:W0 = [vI M0]:=E1; subst v1
 refine Ab (Bi 1 g0 rfl u1 rfl rfl z1)<|AL rfl (A1 0 _ rfl)<|bk h fun I0 G1 h=>Ab (BE (i:=M0) (j:=1) rfl rfl G1)<|Ab (FV.max2 (i:=u0) (j:=I0) rfl rfl)<|Af rfl<|Aa<|Aw<|Am<|Ac rfl<|Ab (Bf (i:=g0) (j:=1) rfl rfl (by omega))<|Af rfl<|Aa<|X0 (max u0 I0,g0 + 1) A0 G0 h
 refine AV rfl ?_
 have h:=x1 _ h
 try dsimp only at h
 refine Ae<|Ac rfl<|Ac rfl<|Af rfl<|Af rfl<|Aa<|Ak rfl<|Ar hb0 func17 rfl (.cons (.tmp rfl) (.cons (.tmp rfl) .nil)) rfl ?_
 cases h
 exact ⟨A0.ag,fun p q=>⟨J0,rfl,A0.kd v0 q⟩⟩
structure Tj where
  fh:UInt8
  fe:UInt8
  fj:UInt8
  fv:UInt8
  fNums:List UInt8
  deriving DecidableEq
instance:Rep Tj:=Rep.via (β:=UInt8 × UInt8 × UInt8 × UInt8 × (List UInt8)) fun x=>(x.fh,x.fe,x.fj,x.fv,x.fNums)
def bf_p (_n:Nat) (a0:Tj) (a1:Int):Option Int:=
  (if a0.fNums.length = 0 then some (1:Int) else (bH a1 ((a0.fNums.length:Nat):Int)).bind fun b0=>(idx a0.fNums b0).bind fun c0=>some ((c0.toNat:Nat):Int))
theorem bf_c (n:Nat) {L w} (_hL:hl L w) (a0:Tj) {v0_4:Value} (h0_4:Rep.R w L [v0_4] a0.fNums) {a1:Int}  {r:Int} (h:bf_p n a0 a1 = some r) :
 Cl 52 #[.agg #[.int .u8 (a0.fh.toNat:Int),.int .u8 (a0.fe.toNat:Int),.int .u8 (a0.fj.toNat:Int),.int .u8 (a0.fv.toNat:Int),v0_4],vI a1] w (ae w fun _ u=>u = vI r):=by
 unfold bf_p at h
 refine AF func52 rfl rfl rfl fun _ cs0 hb0=>Ae<|RG.bx (AC w) rfl rfl fun I0 D0 d0 F0=>Af rfl<|Aa<|Ai<|Ae<|AT 4 rfl<|AL rfl ((d0.memA .hd) 4 _ rfl) ?_
 have g0:=AM h0_4 d0
 have G0:a0.fNums.length <= 281474976710656:=AS g0
 refine Ab (AW (xs:=a0.fNums) underlying46 rfl g0)<|Ab (BF (i:=a0.fNums.length) (j:=0) rfl rfl)<|Aa<|AO rfl h (fun k0 h=>?_) (fun k0 h=>?_)
 refine Ae<|Af rfl<|Aa<|Ak rfl<|AQ hb0 func52 rfl rfl ?_
 cases h
 exact d0.gv
 refine Ap<|Ai<|du 11 fun b0 c0=>Rv 0 b0 rfl c0 (fun _=>Be 4 rfl)<|Rx 1 1920 b0 rfl c0 (AN rfl ((d0.memA .hd) 4 _ rfl))<|Rv 2 b0 rfl c0 (fun _=>Ah rfl)<|Rv 3 b0 rfl c0 (fun _=>Be 4 rfl)<|Rx 4 2016 b0 rfl c0 (AN rfl ((d0.memA .hd) 4 _ rfl))<|Rx 5 1984 b0 rfl c0 (AW (xs:=a0.fNums) underlying46 rfl g0)<|bk h fun B0 y0 h=>Rv 6 b0 rfl c0 (fun _=>FV.remc (i:=a1) (j:=((a0.fNums.length:Nat):Int)) rfl rfl y0)<|bk h fun j0 z0 h=>?_
 obtain ⟨t0,A0⟩:=aG z0
 obtain ⟨C0,E0,q0,u0,p0,x0,v0⟩:=Bg g0 A0
 have s0:p0 = [.int .u8 (j0.toNat:Int)]:=x0; subst s0
 refine Rv 7 b0 rfl c0 (fun _=>Bi 1 (B0.toNat) rfl q0 rfl t0 u0)<|Rx 8 1536 b0 rfl c0 (AN rfl (v0 0 _ rfl)) ?_
 have H0:=j0.toNat_lt
 refine Rv 9 b0 rfl c0 (fun _=>FV.convN (i:=j0.toNat) underlying5 underlying3 rfl (by omega))<|Rv 10 b0 rfl c0 (fun _=>Bm rfl)<|AR (dk b0)<|Ak rfl<|AQ hb0 func52 rfl rfl ?_
 cases h
 exact d0.gv
def aH_l1 (n:Nat) (a1:Int) (a2:Int) (a0:Tj) (a3:Int) (d0:Int × (List Int) -> Option (List Int)):Int × (List Int) -> Option (List Int)
  | (b0,c0)=>(if b0 < a1 then (chk (a2 + b0)).bind fun j0=>(bf_p n a0 j0).bind fun p0=>(app c0 ([min p0 a3]:List Int)).bind fun k0=>(chk (b0 + 1)).bind fun g0=>d0 (g0,k0) else some c0)
def aH_p (n:Nat) (a0:Tj) (a1:Int) (a2:Int) (a3:Int):Option (List Int):=
  Option.bind (ah (aH_l1 n a1 a2 a0 a3) n (0,([]:List Int))) (fun b0=>some b0)
theorem aH_c (n:Nat) {L w} (hL:hl L w) (a0:Tj) {v0_4:Value} (h0_4:Rep.R w L [v0_4] a0.fNums) {a1:Int} {a2:Int} {a3:Int}  {r:List Int} (h:aH_p n a0 a1 a2 a3 = some r) :
 Cl 53 #[.agg #[.int .u8 (a0.fh.toNat:Int),.int .u8 (a0.fe.toNat:Int),.int .u8 (a0.fj.toNat:Int),.int .u8 (a0.fv.toNat:Int),v0_4],vI a1,vI a2,vI a3] w (ae w fun w' u=>∃ v0_0:Value,u = v0_0/\Rep.R w' L [v0_0] r):=by
 unfold aH_p at h
 refine AF func53 rfl rfl rfl fun _ cs0 hb0=>Ae<|RG.bx (AC w) rfl rfl fun p1 q0 u0 c1=>Af rfl<|Aa<|Ae<|Af rfl<|Aa<|Ai<|Ae<|Af rfl<|Aa<|Au ?_
 have v0:=u0.nilRow 3 (Rep.size Int)
 have g1:=BJ u0 3 (Rep.size Int)
 obtain ⟨j1,K0,J0⟩:=ao h
 refine MX.lf (α:=Int × (List Int) × Value × (List Value)) (fun ⟨g0,c0,b0,j0⟩=>[(1,vI a1),(2,vI a2),(3,vI a3),(4,vP q0),(9,b0),(10,vI g0)]) (fun ⟨g0,c0,b0,j0⟩=>[rr w 3 Int b0 c0.length j0,.cells q0 [.int .u8 (a0.fh.toNat:Int),.int .u8 (a0.fe.toNat:Int),.int .u8 (a0.fj.toNat:Int),.int .u8 (a0.fv.toNat:Int),v0_4] 51]) (fun ⟨g0,c0,b0,j0⟩ A0=>Cells A0 (bl [rr w 3 Int b0 c0.length j0,.cells q0 [.int .u8 (a0.fh.toNat:Int),.int .u8 (a0.fe.toNat:Int),.int .u8 (a0.fj.toNat:Int),.int .u8 (a0.fv.toNat:Int),v0_4] 51] ++ L) j0 c0) (fun ⟨g0,c0,b0,j0⟩=>(g0,c0)) (0,([]:List Int),vN,[]) K0 v0 (AB (cs:=[]) (xs:=([]:List Int)) v0 L (AG _ _)) ?_
 rintro Y0 ⟨g0,c0,b0,j0⟩ A0 D0 p0 G0 z0 h
 unfold aH_l1 at h
 try dsimp only at h
 refine Ai<|Ae<|Ac rfl<|Ac rfl<|Ab (BO (i:=g0) (j:=a1) rfl rfl)<|Aa<|AO rfl h (fun B0 h=>?_) (fun B0 h=>?_)
 refine Ap<|Ai<|Au<|Am<|Ac rfl<|Ab (AK rfl (p0.memA .t1))<|Ac rfl<|Ac rfl<|bk h fun k1 Q0 h=>Ab (BE (i:=a2) (j:=g0) rfl rfl Q0)<|bk h fun d0 U0 h=>Bk (vI d0) (bd 52) rfl (e2 rfl rfl) (fun p q=>bf_c n (p0.hL0 hL q) a0 (p0.k0 h0_4 q) U0) rfl<|Ac rfl<|Ab (FV.min2 (i:=d0) (j:=a3) rfl rfl)<|Ao .plain rfl (jA (min d0 a3) (vI (min d0 a3)) p0 ay (e1 rfl)) fun q1 Z0 t0 y0=>bk h fun X0 R0 h=>BR .plain rfl (Bh (α:=Int) (ys:=([min d0 a3]:List Int)) R0 t0 (fun _ _=>.t1) ay rfl rfl (Ay z0 y0) (BN (α:=Int) t0 .hd (jC (min d0 a3) (vI (min d0 a3)) t0 L rfl))) fun W0 s1 ⟨C0,F0,H0,I0⟩=>Af rfl<|Aa<|Aw<|Am<|Ac rfl<|bk h fun V0 P0 h=>Ab (BE (i:=g0) (j:=1) rfl rfl P0)<|Af rfl<|Aa ?_
 obtain ⟨E0,x0⟩:=AH F0 .d1
 exact D0 (V0,X0,W0,C0) E0 (Tt G0 (Tt y0 (Tt H0 x0))) (Ay I0 x0) h
 refine AV rfl ?_
 have h:=J0 _ h
 try dsimp only at h
 refine Ae<|Ac rfl<|Af rfl<|Aa<|Ak rfl ?_
 have s0:=Bq p0 .hd
 have b1:=Br p0 .hd
 have M0:=Bs (α:=Int) (v:=b0) (xs:=c0) s0 L (Ba (α:=Int) p0 .hd z0 hL)
 refine AQ hb0 func53 rfl rfl ?_
 cases h
 exact ⟨s0.ag,fun p q=>⟨b0,rfl,s0.kd M0 q⟩⟩
def ac_l1 (n:Nat) (a0:Tj) (t0:Int) (d0:Nat × (List Int) -> Option (List Int)):Nat × (List Int) -> Option (List Int)
  | (b0,c0)=>(if b0 < ((a0.fj % (3:UInt8)).toNat) then (chk (9 * t0)).bind fun g0=>(chk (g0 + 7)).bind fun j0=>(chk (j0 + ((b0:Nat):Int))).bind fun k0=>(bf_p n a0 k0).bind fun s0=>(bH s0 3).bind fun p0=>(app c0 ([p0]:List Int)).bind fun q0=>d0 (b0 + 1,q0) else some c0)
def ac_l2 (_n:Nat) (a0:Tj) (d0:Nat × (List Tc) -> Option (List Tc)):Nat × (List Tc) -> Option (List Tc)
  | (b0,c0)=>(if b0 < ((a0.fv % (2:UInt8)).toNat) then (mk (((a0.fh % (3:UInt8)).toNat:Nat):Int) (0:Int)).bind fun g0=>(mk (((a0.fe % (4:UInt8)).toNat:Nat):Int) (0:Int)).bind fun j0=>(mk (((a0.fj % (3:UInt8)).toNat:Nat):Int) (0:Int)).bind fun k0=>(app c0 ([(⟨⟨#[115,101,97]⟩,(0:Int),g0,j0,k0,true⟩:Tc)]:List Tc)).bind fun p0=>d0 (b0 + 1,p0) else some c0)
def ac_l3 (n:Nat) (a1:Int) (a0:Tj) (g0:Int × (List Tc) -> Option (List Tc)):Int × (List Tc) -> Option (List Tc)
  | (b0,c0)=>(if b0 < a1 then (bH b0 26).bind fun j0=>(chk (97 + j0)).bind fun k0=>(cG b0 26).bind fun p0=>(bH p0 26).bind fun q0=>(chk (97 + q0)).bind fun s0=>(chk (9 * b0)).bind fun t0=>(bf_p n a0 t0).bind fun d0=>(jl ⟨#[117]⟩ (iY ([ax k0,ax s0]:List UInt8))).bind fun u0=>(chk (9 * b0)).bind fun v0=>(chk (v0 + 1)).bind fun x0=>(aH_p n a0 (((a0.fh % (3:UInt8)).toNat:Nat):Int) x0 d0).bind fun D0=>(chk (9 * b0)).bind fun y0=>(chk (y0 + 3)).bind fun z0=>(aH_p n a0 (((a0.fe % (4:UInt8)).toNat:Nat):Int) z0 (255:Int)).bind fun E0=>Option.bind (ah (ac_l1 n a0 b0) n (0,([]:List Int))) (fun B0=>(app c0 ([(⟨u0,d0,D0,E0,B0,false⟩:Tc)]:List Tc)).bind fun C0=>(chk (b0 + 1)).bind fun A0=>g0 (A0,C0)) else some c0)
def ac_p (n:Nat) (a0:Tj) (a1:Int):Option Te:=
  Option.bind (ah (ac_l3 n a1 a0) n (0,([]:List Tc))) (fun c0=>Option.bind (ah (ac_l2 n a0) n (0,c0)) (fun b0=>some (⟨(((a0.fh % (3:UInt8)).toNat:Nat):Int),(((a0.fe % (4:UInt8)).toNat:Nat):Int),(((a0.fj % (3:UInt8)).toNat:Nat):Int),b0⟩:Te)))
theorem ac_c (n:Nat) {L w} (hL:hl L w) (a0:Tj) {v0_4:Value} (h0_4:Rep.R w L [v0_4] a0.fNums) {a1:Int}  {r:Te} (h:ac_p n a0 a1 = some r) :
 Cl 18 #[.agg #[.int .u8 (a0.fh.toNat:Int),.int .u8 (a0.fe.toNat:Int),.int .u8 (a0.fj.toNat:Int),.int .u8 (a0.fv.toNat:Int),v0_4],vI a1] w (ae w fun w' u=>∃ (v0_3:Value) (cs0_3:List Value),u = .agg #[vI r.fh,vI r.fe,vI r.fj,v0_3]/\St w w' (aJ w.heap.size [(96,Rep.size Tc,v0_3,r.fm.length,cs0_3)])/\Cells w' (bl (aJ w.heap.size [(96,Rep.size Tc,v0_3,r.fm.length,cs0_3)]) ++ L) cs0_3 (r.fm:List Tc)):=by
 unfold ac_p at h
 refine AF func18 rfl rfl rfl fun _ cs0 hb0=>Ae<|RG.bx (AC w) rfl rfl fun p8 t0 H4 I7=>RG.nl [vI 0,vI 0,vI 0,vN] H4 fun x8 u0 W1 J7=>Aa<|Ae<|AT 0 rfl<|AL rfl ((W1.memA .t1) 0 _ rfl)<|Ab (FV.rem8 (a:=a0.fh) (b:=(3:UInt8)) rfl rfl (by decide)) ?_
 have U7:=(a0.fh % (3:UInt8)).toNat_lt
 refine Ab (FV.convN (i:=(a0.fh % (3:UInt8)).toNat) underlying5 underlying3 rfl (by omega))<|AT 1 rfl<|AL rfl ((W1.memA .t1) 1 _ rfl)<|Ab (FV.rem8 (a:=a0.fe) (b:=(4:UInt8)) rfl rfl (by decide)) ?_
 have V7:=(a0.fe % (4:UInt8)).toNat_lt
 refine Ab (FV.convN (i:=(a0.fe % (4:UInt8)).toNat) underlying5 underlying3 rfl (by omega))<|AT 2 rfl<|AL rfl ((W1.memA .t1) 2 _ rfl)<|Ab (FV.rem8 (a:=a0.fj) (b:=(3:UInt8)) rfl rfl (by decide)) ?_
 have W7:=(a0.fj % (3:UInt8)).toNat_lt
 refine Ab (FV.convN (i:=(a0.fj % (3:UInt8)).toNat) underlying5 underlying3 rfl (by omega))<|Ab (AU (vs:=[vI (((a0.fh % (3:UInt8)).toNat:Nat):Int),vI (((a0.fe % (4:UInt8)).toNat:Nat):Int),vI (((a0.fj % (3:UInt8)).toNat:Nat):Int)]) (u:=.agg #[vI (((a0.fh % (3:UInt8)).toNat:Nat):Int),vI (((a0.fe % (4:UInt8)).toNat:Nat):Int),vI (((a0.fj % (3:UInt8)).toNat:Nat):Int),vN]) (e3 rfl rfl rfl) (fun p=>by kernel_rfl))<|RG.nl [vI 0,vI 0,vI 0,vN] W1 fun y8 v0 I4 K7=>AX [vI (((a0.fh % (3:UInt8)).toNat:Nat):Int),vI (((a0.fe % (4:UInt8)).toNat:Nat):Int),vI (((a0.fj % (3:UInt8)).toNat:Nat):Int),vN] I4 .hd (aq rfl) fun z8 g3 M7=>Aa<|Ai<|Ae<|Af rfl<|Aa<|Au ?_
 have y2:=g3.nilRow 96 (Rep.size Tc)
 have P7:=BJ g3 96 (Rep.size Tc)
 have j3:=y2.nilRow 96 (Rep.size Tc)
 have Q7:=AB (cs:=[]) (xs:=([]:List Tc)) j3 L (AG _ _)
 obtain ⟨Y7,P5,J5⟩:=ao h
 refine MX.lf (α:=Int × (List Tc) × Value × (List Value)) (fun ⟨z0,Y0,y0,Z0⟩=>[(1,vI a1),(2,vP t0),(4,vP u0),(5,vP v0),(6,vI z0)]) (fun ⟨z0,Y0,y0,Z0⟩=>[rr w 96 Tc vN (([]:List Tc).length) [],rr w 96 Tc y0 Y0.length Z0,.cells v0 [vI (((a0.fh % (3:UInt8)).toNat:Nat):Int),vI (((a0.fe % (4:UInt8)).toNat:Nat):Int),vI (((a0.fj % (3:UInt8)).toNat:Nat):Int),y0] 58,.cells u0 [vI 0,vI 0,vI 0,vN] 58,.cells t0 [.int .u8 (a0.fh.toNat:Int),.int .u8 (a0.fe.toNat:Int),.int .u8 (a0.fj.toNat:Int),.int .u8 (a0.fv.toNat:Int),v0_4] 51]) (fun ⟨z0,Y0,y0,Z0⟩ c4=>Cells c4 (bl [rr w 96 Tc vN (([]:List Tc).length) [],rr w 96 Tc y0 Y0.length Z0,.cells v0 [vI (((a0.fh % (3:UInt8)).toNat:Nat):Int),vI (((a0.fe % (4:UInt8)).toNat:Nat):Int),vI (((a0.fj % (3:UInt8)).toNat:Nat):Int),y0] 58,.cells u0 [vI 0,vI 0,vI 0,vN] 58,.cells t0 [.int .u8 (a0.fh.toNat:Int),.int .u8 (a0.fe.toNat:Int),.int .u8 (a0.fj.toNat:Int),.int .u8 (a0.fv.toNat:Int),v0_4] 51] ++ L) Z0 Y0) (fun ⟨z0,Y0,y0,Z0⟩=>(z0,Y0)) (0,([]:List Tc),vN,[]) P5 j3 (Ay (AB (cs:=[]) (xs:=([]:List Tc)) y2 L (AG _ _)) (BJ y2 96 (Rep.size Tc))) ?_
 rintro t7 ⟨z0,Y0,y0,Z0⟩ c4 y4 I1 d5 E3 h
 unfold ac_l3 at h
 try dsimp only at h
 refine Ai<|Ae<|Ac rfl<|Ac rfl<|Ab (BO (i:=z0) (j:=a1) rfl rfl)<|Aa<|AO rfl h (fun p4 h=>?_) (fun p4 h=>?_)
 refine Ap<|Ai<|Au<|Ai<|du 18 fun c0 q0=>Rv 0 c0 rfl q0 (fun _=>Ah rfl)<|bk h fun H6 R5 h=>Rv 1 c0 rfl q0 (fun _=>FV.remc (i:=z0) (j:=26) rfl rfl R5)<|bk h fun D0 U5 h=>Rv 2 c0 rfl q0 (fun _=>BE (i:=97) (j:=H6) rfl rfl U5)<|Rv 3 c0 rfl q0 (fun _=>FV.convU8 (i:=D0) underlying3 underlying5 rfl)<|Rv 4 c0 rfl q0 (fun _=>Ah rfl)<|bk h fun I6 V5 h=>Rv 5 c0 rfl q0 (fun _=>FV.quoc (i:=z0) (j:=26) rfl rfl V5)<|bk h fun J6 W5 h=>Rv 6 c0 rfl q0 (fun _=>FV.remc (i:=I6) (j:=26) rfl rfl W5)<|bk h fun s0 X5 h=>Rv 7 c0 rfl q0 (fun _=>BE (i:=97) (j:=J6) rfl rfl X5)<|Rv 8 c0 rfl q0 (fun _=>FV.convU8 (i:=s0) underlying3 underlying5 rfl)<|Rx 12 360448 c0 rfl q0 (AK rfl (I1.memA .t4))<|Rv 13 c0 rfl q0 (fun _=>Ah rfl)<|bk h fun b8 Y5 h=>Rv 14 c0 rfl q0 (fun _=>FV.mulc (i:=9) (j:=z0) rfl rfl Y5)<|bk h fun g0 D6 h=>RD.cq 15 61951 327680 (vI g0) c0 rfl q0 (bd 52) rfl (e2 rfl rfl) (fun p q=>bf_c n (I1.hL0 hL q) a0 (I1.k0 h0_4 q) D6) rfl<|bk h fun j0 Z3 h=>RD.mo (α:=Nat) (fun G1=>[(1,vI a1),(2,vP t0),(4,vP u0),(5,vP v0),(6,vI z0),(44,.agg #[.string j0,vI g0,vN,vN,vN,.bool false]),(7,vP G1)]) (fun G1=>[.cells G1 [.string ⟨#[]⟩,vI 0,vN,vN,vN,.bool false] 96,rr w 96 Tc vN (([]:List Tc).length) [],rr w 96 Tc y0 Y0.length Z0,.cells v0 [vI (((a0.fh % (3:UInt8)).toNat:Nat):Int),vI (((a0.fe % (4:UInt8)).toNat:Nat):Int),vI (((a0.fj % (3:UInt8)).toNat:Nat):Int),y0] 58,.cells u0 [vI 0,vI 0,vI 0,vN] 58,.cells t0 [.int .u8 (a0.fh.toNat:Int),.int .u8 (a0.fe.toNat:Int),.int .u8 (a0.fj.toNat:Int),.int .u8 (a0.fv.toNat:Int),v0_4] 51]) I1 1 262143 ?_ ?_
 rintro G1 M8 J4 g5
 try dsimp only
 refine BB 18 524287 c0 rfl rfl .plain (AD (news:=[.string j0,vI g0,vN,vN,vN,.bool false]) J4 .hd rfl rfl rfl rfl rfl rfl (aq rfl)) fun A8 Q1 j5=>AR (dk c0)<|Ae<|Ab (AK rfl (Q1.memA .t5))<|AT 0 rfl<|AL rfl ((Q1.memA .t3) 0 _ rfl)<|Ac rfl<|bk h fun K6 Z5 h=>Ab (FV.mulc (i:=9) (j:=z0) rfl rfl Z5)<|bk h fun c8 b6 h=>Ab (BE (i:=K6) (j:=1) rfl rfl b6)<|AT 1 rfl<|AL rfl ((Q1.memA .hd) 1 _ rfl)<|bk h fun q2 E6 h=>jE (bd 53) rfl (e4 rfl rfl rfl rfl) (fun p q=>aH_c n (Q1.hL hL q) a0 (Q1.km h0_4 q) E6) rfl fun B8 W0 v5 ⟨j8,hu_,b2⟩=>?_
 subst hu_
 obtain ⟨K4,k5⟩:=Q1.agr v5
 refine AT 2 rfl<|RG.now .plain (BM (j:=2) (old:=[.string j0,vI g0,vN,vN,vN,.bool false]) (news:=[W0]) (new' :=[.string j0,vI g0,W0,vN,vN,.bool false]) K4 .hd rfl rfl rfl (Rep.c1 b2) rfl rfl (o1 (AY b2)) rfl) fun C8 R1 v3=>Aa<|Ae<|Ab (AK rfl (R1.memA .t5))<|AT 1 rfl<|AL rfl ((R1.memA .t3) 1 _ rfl)<|Ac rfl<|bk h fun M6 c6 h=>Ab (FV.mulc (i:=9) (j:=z0) rfl rfl c6)<|bk h fun d8 d6 h=>Ab (BE (i:=M6) (j:=3) rfl rfl d6)<|bk h fun s2 F6 h=>jE (bd 53) rfl (e4 rfl rfl rfl rfl) (fun p q=>aH_c n (R1.hL hL q) a0 (R1.km h0_4 q) F6) rfl fun D8 A1 x5 ⟨k8,hu_,c2⟩=>?_
 subst hu_
 obtain ⟨M4,x3⟩:=R1.agr x5
 refine AT 3 rfl<|RG.now .plain (BM (j:=3) (old:=[.string j0,vI g0,W0,vN,vN,.bool false]) (news:=[A1]) (new' :=[.string j0,vI g0,W0,A1,vN,.bool false]) M4 .hd rfl rfl rfl (Rep.c1 c2) rfl rfl (o1 (AY c2)) rfl) fun E8 k3 R2=>Aa<|Ai<|Ae<|Af rfl<|Aa<|Au ?_
 have p3:=k3.nilRow 3 (Rep.size Int)
 have U2:=BJ k3 3 (Rep.size Int)
 obtain ⟨Z7,Q5,K5⟩:=ao h
 refine MX.lf (α:=Nat × (List Int) × Value × (List Value)) (fun ⟨y1,Q0,K0,H1⟩=>[(1,vI a1),(2,vP t0),(4,vP u0),(5,vP v0),(6,vI z0),(7,vP G1),(8,vI ((y1:Nat):Int))]) (fun ⟨y1,Q0,K0,H1⟩=>[rr w 3 Int K0 Q0.length H1,.cells G1 [.string j0,vI g0,W0,A1,K0,.bool false] 96,rr w 96 Tc vN (([]:List Tc).length) [],rr w 96 Tc y0 Y0.length Z0,.cells v0 [vI (((a0.fh % (3:UInt8)).toNat:Nat):Int),vI (((a0.fe % (4:UInt8)).toNat:Nat):Int),vI (((a0.fj % (3:UInt8)).toNat:Nat):Int),y0] 58,.cells u0 [vI 0,vI 0,vI 0,vN] 58,.cells t0 [.int .u8 (a0.fh.toNat:Int),.int .u8 (a0.fe.toNat:Int),.int .u8 (a0.fj.toNat:Int),.int .u8 (a0.fv.toNat:Int),v0_4] 51]) (fun ⟨y1,Q0,K0,H1⟩ d4=>Cells d4 (bl [rr w 3 Int K0 Q0.length H1,.cells G1 [.string j0,vI g0,W0,A1,K0,.bool false] 96,rr w 96 Tc vN (([]:List Tc).length) [],rr w 96 Tc y0 Y0.length Z0,.cells v0 [vI (((a0.fh % (3:UInt8)).toNat:Nat):Int),vI (((a0.fe % (4:UInt8)).toNat:Nat):Int),vI (((a0.fj % (3:UInt8)).toNat:Nat):Int),y0] 58,.cells u0 [vI 0,vI 0,vI 0,vN] 58,.cells t0 [.int .u8 (a0.fh.toNat:Int),.int .u8 (a0.fe.toNat:Int),.int .u8 (a0.fj.toNat:Int),.int .u8 (a0.fv.toNat:Int),v0_4] 51] ++ L) H1 Q0) (fun ⟨y1,Q0,K0,H1⟩=>(y1,Q0)) (0,([]:List Int),vN,[]) Q5 p3 (AB (cs:=[]) (xs:=([]:List Int)) p3 L (AG _ _)) ?_
 rintro u7 ⟨y1,Q0,K0,H1⟩ d4 z4 b1 Y1 F3 h
 unfold ac_l1 at h
 try dsimp only at h
 refine Ai<|Ae<|Ac rfl<|AT 2 rfl<|AL rfl ((b1.memA .t4) 2 _ rfl)<|Ab (Bj (i:=y1) (j:=(a0.fj % (3:UInt8)).toNat) rfl rfl)<|Aa<|AO rfl h (fun q4 h=>?_) (fun q4 h=>?_)
 refine Ap<|Ai<|Au<|du 11 fun x0 g1=>Rv 0 x0 rfl g1 (fun _=>Be 4 rfl)<|Rx 1 14336 x0 rfl g1 (AN rfl ((b1.memA .t1) 4 _ rfl))<|Rx 2 16128 x0 rfl g1 (AK rfl (b1.memA .t6))<|Rv 3 x0 rfl g1 (fun _=>Ah rfl)<|bk h fun P6 g6 h=>Rv 4 x0 rfl g1 (fun _=>FV.mulc (i:=9) (j:=z0) rfl rfl g6)<|bk h fun Q6 j6 h=>Rv 5 x0 rfl g1 (fun _=>BE (i:=P6) (j:=7) rfl rfl j6)<|Rv 6 x0 rfl g1 (fun _=>Ah rfl)<|bk h fun g8 k6 h=>Rv 7 x0 rfl g1 (fun _=>BE (i:=Q6) (j:=((y1:Nat):Int)) rfl rfl k6)<|bk h fun g4 G6 h=>RD.cq 8 511 15872 (vI g4) x0 rfl g1 (bd 52) rfl (e2 rfl rfl) (fun p q=>bf_c n (b1.hL0 hL q) a0 (b1.k0 h0_4 q) G6) rfl<|bk h fun K1 p6 h=>Rv 9 x0 rfl g1 (fun _=>FV.remc (i:=g4) (j:=3) rfl rfl p6)<|BV 10 2047 x0 rfl .plain rfl (jA K1 (vI K1) b1 ay (e1 rfl)) fun F8 x7 A2 y3=>bk h fun X6 B6 h=>BS (i:=11) (rk x0) (BK (m' :=4095) (sk x0) rfl rfl .plain rfl (Bh (α:=Int) (ys:=([K1]:List Int)) B6 A2 (fun _ _=>.t1) ay rfl rfl (Ay F3 y3) (BN (α:=Int) A2 .hd (jC K1 (vI K1) A2 L rfl))) (fun X2 G8 ⟨u4,B2,p5,D5⟩=>?_))
 refine Rv 12 x0 rfl g1 (fun _=>Be 4 rfl)<|BB 13 16383 x0 rfl rfl .plain (BM (j:=4) (old:=[.string j0,vI g0,W0,A1,K0,.bool false]) (news:=[X2]) (new' :=[.string j0,vI g0,W0,A1,X2,.bool false]) B2 .t2 rfl rfl rfl (St.c1 (α:=Int) B2 .t1) rfl rfl (o1 (St.o1 (α:=Int) B2 .t1)) rfl) fun H8 P4 z3=>AR (dk x0)<|Aw<|Am<|Ac rfl<|Ab (Bf (i:=y1) (j:=1) rfl rfl (by omega))<|Af rfl<|Aa ?_
 obtain ⟨Q4,A3⟩:=AH P4 .d1
 exact z4 (y1 + 1,X6,X2,u4) Q4 (Tt Y1 (Tt y3 (Tt p5 (Tt z3 A3)))) (Ay D5 (Tt z3 A3)) h
 refine AV rfl ?_
 have h:=K5 _ h
 try dsimp only at h
 refine Am<|AT 3 rfl<|AL rfl ((b1.memA .t4) 3 _ rfl)<|Ab (AK rfl (b1.memA .t1)) ?_
 have q3:=Bq b1 .hd
 have V2:=Br b1 .hd
 have Y3:=Bs (α:=Int) (v:=K0) (xs:=Q0) q3 L (Ba (α:=Int) b1 .hd F3 hL)
 have Q3:=Tt v3 (Tt x3 (Tt R2 (Tt U2 (Tt Y1 V2))))
 have R3:=Tt R2 (Tt U2 (Tt Y1 V2))
 obtain ⟨k7,F7,x6,_⟩:=BI (Aq b2 Q3)
 obtain ⟨p7,G7,y6,_⟩:=BI (Aq c2 R3)
 obtain ⟨q7,H7,z6,_⟩:=BI Y3
 refine Ao .plain rfl (AJ (α:=Tc) (xs:=([(⟨j0,g0,q2,s2,Q0,false⟩:Tc)]:List Tc)) (vs:=[.agg #[.string j0,vI g0,W0,A1,K0,.bool false]]) (ds' :=[.string j0,vI g0,W0,A1,K0,.bool false]) rfl q3 eE rfl (e1 rfl) (by rw [x6,y6,z6]; try kernel_rfl) rfl) fun I8 y7 C2 Z1=>bk h fun Y6 C6 h=>?_
 have U3:=Tt g5 (Tt j5 (Tt k5 (Tt v3 (Tt x3 (Tt R2 (Tt U2 (Tt Y1 (Tt V2 Z1))))))))
 refine BR .plain rfl (Bh (α:=Tc) (ys:=([(⟨j0,g0,q2,s2,Q0,false⟩:Tc)]:List Tc)) C6 C2 (fun _ _=>.t3) eE rfl rfl (Ay E3 U3) (BN (α:=Tc) C2 .hd (AB (cs:=[.string j0,vI g0,W0,A1,K0,.bool false]) (xs:=(([(⟨j0,g0,q2,s2,Q0,false⟩:Tc)]:List Tc):List Tc)) C2 L (Ax (cs:=[.string j0,vI g0,W0,A1,K0,.bool false]) (ds:=[]) (cR j0 g0 q2 (Aq b2 (Tt Q3 Z1)) s2 (Aq c2 (Tt R3 Z1)) Q0 (Aq Y3 Z1) false) (AG _ _))))) fun Y2 J8 ⟨v4,D2,q5,E5⟩=>AT 3 rfl<|RG.now .plain (BM (j:=3) (old:=[vI (((a0.fh % (3:UInt8)).toNat:Nat):Int),vI (((a0.fe % (4:UInt8)).toNat:Nat):Int),vI (((a0.fj % (3:UInt8)).toNat:Nat):Int),y0]) (news:=[Y2]) (new' :=[vI (((a0.fh % (3:UInt8)).toNat:Nat):Int),vI (((a0.fe % (4:UInt8)).toNat:Nat):Int),vI (((a0.fj % (3:UInt8)).toNat:Nat):Int),Y2]) D2 .t4 rfl rfl rfl (St.c1 (α:=Tc) D2 .t3) rfl rfl (o1 (St.o1 (α:=Tc) D2 .t3)) rfl) fun K8 R4 B3=>Aa<|Aw<|Am<|Ac rfl<|bk h fun R6 q6 h=>Ab (BE (i:=z0) (j:=1) rfl rfl q6)<|Af rfl<|Aa ?_
 obtain ⟨U4,C3⟩:=AH R4 .d2
 exact y4 (R6,Y6,Y2,v4) U4 (Tt d5 (Tt U3 (Tt q5 (Tt B3 C3)))) (Ay E5 (Tt B3 C3)) h
 intro Z2
 refine By [9,17] (rk c0) ⟨?_,?_,trivial⟩
 refine BG (m' :=62463) (sk c0) rfl .plain rfl (AJ (α:=UInt8) (xs:=([ax D0,ax s0]:List UInt8)) (vs:=[.int .u8 ((ax D0).toNat:Int),.int .u8 ((ax s0).toNat:Int)]) (ds' :=[.int .u8 ((ax D0).toNat:Int),.int .u8 ((ax s0).toNat:Int)]) rfl I1 nz rfl (e2 rfl rfl) (by kernel_rfl) rfl) fun U6 j4 J1 P2=>?_
 have C5:=AB (cs:=[.int .u8 ((ax D0).toNat:Int),.int .u8 ((ax s0).toNat:Int)]) (xs:=(([ax D0,ax s0]:List UInt8):List UInt8)) J1 L (Ax (cs:=[.int .u8 ((ax D0).toNat:Int)]) (ds:=[.int .u8 ((ax s0).toNat:Int)]) rfl (Ax (cs:=[.int .u8 ((ax s0).toNat:Int)]) (ds:=[]) rfl (AG _ _)))
 refine Rx 10 329728 c0 rfl q0 (FV.bytesS (xs:=([ax D0,ax s0]:List UInt8)) underlying46 underlying9 underlying5 rfl (BN (α:=UInt8) J1 .hd C5))<|Rv 11 c0 rfl q0 (fun _=>FV.addS Z3 rfl rfl)<|Rv 16 c0 rfl q0 (fun _=>AU (vs:=[.string j0,vI g0]) (u:=.agg #[.string j0,vI g0,vN,vN,vN,.bool false]) (e2 rfl rfl) (fun p=>by kernel_rfl))<|BV 17 262143 c0 rfl .plain rfl (AE [.string ⟨#[]⟩,vI 0,vN,vN,vN,.bool false] J1) fun V6 u2 z2 Q2=>?_
 obtain ⟨V4,s5⟩:=AH z2 (.a0 .d1)
 exact Z2 u2 V4 (Tt P2 (Tt Q2 s5))
 refine BG (m' :=193023) (sk c0) rfl .plain rfl (AE [.string ⟨#[]⟩,vI 0,vN,vN,vN,.bool false] I1) fun V6 u2 z2 Q2=>BV 9 193535 c0 rfl .plain rfl (AJ (α:=UInt8) (xs:=([ax D0,ax s0]:List UInt8)) (vs:=[.int .u8 ((ax D0).toNat:Int),.int .u8 ((ax s0).toNat:Int)]) (ds' :=[.int .u8 ((ax D0).toNat:Int),.int .u8 ((ax s0).toNat:Int)]) rfl z2 nz rfl (e2 rfl rfl) (by kernel_rfl) rfl) fun U6 j4 J1 P2=>Rx 10 329728 c0 rfl q0 (FV.bytesS (xs:=([ax D0,ax s0]:List UInt8)) underlying46 underlying9 underlying5 rfl (BN (α:=UInt8) J1 .hd (AB (cs:=[.int .u8 ((ax D0).toNat:Int),.int .u8 ((ax s0).toNat:Int)]) (xs:=(([ax D0,ax s0]:List UInt8):List UInt8)) J1 L (Ax (cs:=[.int .u8 ((ax D0).toNat:Int)]) (ds:=[.int .u8 ((ax s0).toNat:Int)]) rfl (Ax (cs:=[.int .u8 ((ax s0).toNat:Int)]) (ds:=[]) rfl (AG _ _))))))<|Rv 11 c0 rfl q0 (fun _=>FV.addS Z3 rfl rfl)<|Rv 16 c0 rfl q0 (fun _=>AU (vs:=[.string j0,vI g0]) (u:=.agg #[.string j0,vI g0,vN,vN,vN,.bool false]) (e2 rfl rfl) (fun p=>by kernel_rfl)) ?_
 obtain ⟨W4,u5⟩:=AH J1 .d1
 exact Z2 u2 W4 (Tt Q2 (Tt P2 u5))
 refine AV rfl ?_
 have h:=J5 _ h
 try dsimp only at h
 refine Ai<|Ae<|Af rfl<|Aa<|Au ?_
 obtain ⟨X7,M5,I5⟩:=ao h
 refine MX.lf (α:=Nat × (List Tc) × Value × (List Value)) (fun ⟨x1,X0,p0,R0⟩=>[(2,vP t0),(4,vP u0),(5,vP v0),(9,vI ((x1:Nat):Int))]) (fun ⟨x1,X0,p0,R0⟩=>[rr w 96 Tc vN (([]:List Tc).length) [],rr w 96 Tc p0 X0.length R0,.cells v0 [vI (((a0.fh % (3:UInt8)).toNat:Nat):Int),vI (((a0.fe % (4:UInt8)).toNat:Nat):Int),vI (((a0.fj % (3:UInt8)).toNat:Nat):Int),p0] 58,.cells u0 [vI 0,vI 0,vI 0,vN] 58,.cells t0 [.int .u8 (a0.fh.toNat:Int),.int .u8 (a0.fe.toNat:Int),.int .u8 (a0.fj.toNat:Int),.int .u8 (a0.fv.toNat:Int),v0_4] 51]) (fun ⟨x1,X0,p0,R0⟩ b4=>Cells b4 (bl [rr w 96 Tc vN (([]:List Tc).length) [],rr w 96 Tc p0 X0.length R0,.cells v0 [vI (((a0.fh % (3:UInt8)).toNat:Nat):Int),vI (((a0.fe % (4:UInt8)).toNat:Nat):Int),vI (((a0.fj % (3:UInt8)).toNat:Nat):Int),p0] 58,.cells u0 [vI 0,vI 0,vI 0,vN] 58,.cells t0 [.int .u8 (a0.fh.toNat:Int),.int .u8 (a0.fe.toNat:Int),.int .u8 (a0.fj.toNat:Int),.int .u8 (a0.fv.toNat:Int),v0_4] 51] ++ L) R0 X0) (fun ⟨x1,X0,p0,R0⟩=>(x1,X0)) (0,Y0,y0,Z0) M5 I1 E3 ?_
 rintro s7 ⟨x1,X0,p0,R0⟩ b4 x4 U0 X4 D3 h
 unfold ac_l2 at h
 try dsimp only at h
 refine Ai<|Ae<|Ac rfl<|AT 3 rfl<|AL rfl ((U0.memA .t4) 3 _ rfl)<|Ab (FV.rem8 (a:=a0.fv) (b:=(2:UInt8)) rfl rfl (by decide)) ?_
 have R7:=(a0.fv % (2:UInt8)).toNat_lt
 refine Ab (FV.convN (i:=(a0.fv % (2:UInt8)).toNat) underlying5 underlying3 rfl (by omega))<|Ab (Bj (i:=x1) (j:=(a0.fv % (2:UInt8)).toNat) rfl rfl)<|Aa<|AO rfl h (fun k4 h=>?_) (fun k4 h=>?_)
 refine Ap<|Ai<|Au<|du 13 fun b0 z1=>Rv 0 b0 rfl z1 (fun _=>Be 3 rfl)<|Rx 1 57344 b0 rfl z1 (AN rfl ((U0.memA .t2) 3 _ rfl))<|Rv 2 b0 rfl z1 (fun _=>Be 0 rfl)<|Rx 3 63504 b0 rfl z1 (AN rfl ((U0.memA .t2) 0 _ rfl))<|Rv 5 b0 rfl z1 (fun _=>Be 1 rfl)<|Rx 6 63616 b0 rfl z1 (AN rfl ((U0.memA .t2) 1 _ rfl))<|Rv 8 b0 rfl z1 (fun _=>Be 2 rfl)<|Rx 9 64512 b0 rfl z1 (AN rfl ((U0.memA .t2) 2 _ rfl))<|bk h fun H0 s1 h=>bk h fun I0 u1 h=>bk h fun J0 v1 h=>RD.mf (α:=Value × (List Value) × Value × (List Value) × Value × (List Value)) (fun ⟨E0,B1,F0,C1,G0,D1⟩=>[(2,vP t0),(4,vP u0),(5,vP v0),(9,vI ((x1:Nat):Int)),(97,p0),(100,G0),(103,F0),(106,E0)]) (fun ⟨E0,B1,F0,C1,G0,D1⟩=>[rr w 3 Int E0 J0.length B1,rr w 3 Int F0 I0.length C1,rr w 3 Int G0 H0.length D1,rr w 96 Tc vN (([]:List Tc).length) [],rr w 96 Tc p0 X0.length R0,.cells v0 [vI (((a0.fh % (3:UInt8)).toNat:Nat):Int),vI (((a0.fe % (4:UInt8)).toNat:Nat):Int),vI (((a0.fj % (3:UInt8)).toNat:Nat):Int),p0] 58,.cells u0 [vI 0,vI 0,vI 0,vN] 58,.cells t0 [.int .u8 (a0.fh.toNat:Int),.int .u8 (a0.fe.toNat:Int),.int .u8 (a0.fj.toNat:Int),.int .u8 (a0.fv.toNat:Int),v0_4] 51]) (fun ⟨E0,B1,F0,C1,G0,D1⟩ p2=>Cells p2 (bl [rr w 3 Int E0 J0.length B1,rr w 3 Int F0 I0.length C1,rr w 3 Int G0 H0.length D1,rr w 96 Tc vN (([]:List Tc).length) [],rr w 96 Tc p0 X0.length R0,.cells v0 [vI (((a0.fh % (3:UInt8)).toNat:Nat):Int),vI (((a0.fe % (4:UInt8)).toNat:Nat):Int),vI (((a0.fj % (3:UInt8)).toNat:Nat):Int),p0] 58,.cells u0 [vI 0,vI 0,vI 0,vN] 58,.cells t0 [.int .u8 (a0.fh.toNat:Int),.int .u8 (a0.fe.toNat:Int),.int .u8 (a0.fj.toNat:Int),.int .u8 (a0.fv.toNat:Int),v0_4] 51] ++ L) B1 (J0:List Int)/\Cells p2 (bl [rr w 3 Int E0 J0.length B1,rr w 3 Int F0 I0.length C1,rr w 3 Int G0 H0.length D1,rr w 96 Tc vN (([]:List Tc).length) [],rr w 96 Tc p0 X0.length R0,.cells v0 [vI (((a0.fh % (3:UInt8)).toNat:Nat):Int),vI (((a0.fe % (4:UInt8)).toNat:Nat):Int),vI (((a0.fj % (3:UInt8)).toNat:Nat):Int),p0] 58,.cells u0 [vI 0,vI 0,vI 0,vN] 58,.cells t0 [.int .u8 (a0.fh.toNat:Int),.int .u8 (a0.fe.toNat:Int),.int .u8 (a0.fj.toNat:Int),.int .u8 (a0.fv.toNat:Int),v0_4] 51] ++ L) C1 (I0:List Int)/\Cells p2 (bl [rr w 3 Int E0 J0.length B1,rr w 3 Int F0 I0.length C1,rr w 3 Int G0 H0.length D1,rr w 96 Tc vN (([]:List Tc).length) [],rr w 96 Tc p0 X0.length R0,.cells v0 [vI (((a0.fh % (3:UInt8)).toNat:Nat):Int),vI (((a0.fe % (4:UInt8)).toNat:Nat):Int),vI (((a0.fj % (3:UInt8)).toNat:Nat):Int),p0] 58,.cells u0 [vI 0,vI 0,vI 0,vN] 58,.cells t0 [.int .u8 (a0.fh.toNat:Int),.int .u8 (a0.fe.toNat:Int),.int .u8 (a0.fj.toNat:Int),.int .u8 (a0.fv.toNat:Int),v0_4] 51] ++ L) D1 (H0:List Int)) U0 5 2047 ?_ ?_
 rintro ⟨E0,B1,F0,C1,G0,D1⟩ p2 P1 Y4 ⟨y5,z5,A5⟩
 try dsimp only
 obtain ⟨Z6,z7,F5⟩:=St.rowV (α:=Int) P1 .t2
 obtain ⟨b7,A7,G5⟩:=St.rowV (α:=Int) P1 .t1
 obtain ⟨c7,B7,H5⟩:=St.rowV (α:=Int) P1 .hd
 refine Rv 11 b0 rfl z1 (fun _=>AU (vs:=[.string ⟨#[115,101,97]⟩,.bool true,G0,F0,E0]) (u:=.agg #[.string ⟨#[115,101,97]⟩,vI 0,G0,F0,E0,.bool true]) (e5 rfl rfl rfl rfl rfl) (fun p=>by rw [F5,G5,H5]; try kernel_rfl)) ?_
 have U1:=Bq P1 .t2
 have E2:=Br P1 .t2
 have V3:=Bs (α:=Int) (v:=G0) (xs:=H0) U1 L (Ba (α:=Int) P1 .t2 A5 hL)
 have V1:=Bq U1 .t1
 have F2:=Br U1 .t1
 have W3:=Bs (α:=Int) (v:=F0) (xs:=I0) V1 L (Ba (α:=Int) U1 .t1 (Ay z5 E2) hL)
 have b3:=Bq V1 .hd
 have X1:=Br V1 .hd
 have X3:=Bs (α:=Int) (v:=E0) (xs:=J0) b3 L (Ba (α:=Int) V1 .hd (Ay y5 (Tt E2 F2)) hL)
 obtain ⟨d7,C7,s6,_⟩:=BI (Aq V3 (Tt F2 X1))
 obtain ⟨g7,D7,u6,_⟩:=BI (Aq W3 X1)
 obtain ⟨j7,E7,v6,_⟩:=BI X3
 refine BV 12 8191 b0 rfl .plain rfl (AJ (α:=Tc) (xs:=([(⟨⟨#[115,101,97]⟩,(0:Int),H0,I0,J0,true⟩:Tc)]:List Tc)) (vs:=[.agg #[.string ⟨#[115,101,97]⟩,vI 0,G0,F0,E0,.bool true]]) (ds' :=[.string ⟨#[115,101,97]⟩,vI 0,G0,F0,E0,.bool true]) rfl b3 eE rfl (e1 rfl) (by rw [s6,u6,v6]; try kernel_rfl) rfl) fun q8 v7 v2 G2=>?_
 have G3:=Tt F2 (Tt X1 G2)
 refine bk h fun W6 A6 h=>?_
 have H3:=Tt Y4 (Tt E2 G3)
 refine BS (i:=13) (rk b0) (BK (m' :=16383) (sk b0) rfl rfl .plain rfl (Bh (α:=Tc) (ys:=([(⟨⟨#[115,101,97]⟩,(0:Int),H0,I0,J0,true⟩:Tc)]:List Tc)) A6 v2 (fun _ _=>.t2) eE rfl rfl (Ay D3 H3) (BN (α:=Tc) v2 .hd (AB (cs:=[.string ⟨#[115,101,97]⟩,vI 0,G0,F0,E0,.bool true]) (xs:=(([(⟨⟨#[115,101,97]⟩,(0:Int),H0,I0,J0,true⟩:Tc)]:List Tc):List Tc)) v2 L (Ax (cs:=[.string ⟨#[115,101,97]⟩,vI 0,G0,F0,E0,.bool true]) (ds:=[]) (cR ⟨#[115,101,97]⟩ (0:Int) H0 (Aq V3 G3) I0 (Aq W3 (Tt X1 G2)) J0 (Aq X3 G2) true) (AG _ _))))) (fun W2 s8 ⟨s4,x2,Z4,B5⟩=>?_))
 refine Rv 14 b0 rfl z1 (fun _=>Be 3 rfl)<|BB 15 65535 b0 rfl rfl .plain (BM (j:=3) (old:=[vI (((a0.fh % (3:UInt8)).toNat:Nat):Int),vI (((a0.fe % (4:UInt8)).toNat:Nat):Int),vI (((a0.fj % (3:UInt8)).toNat:Nat):Int),p0]) (news:=[W2]) (new' :=[vI (((a0.fh % (3:UInt8)).toNat:Nat):Int),vI (((a0.fe % (4:UInt8)).toNat:Nat):Int),vI (((a0.fj % (3:UInt8)).toNat:Nat):Int),W2]) x2 .t3 rfl rfl rfl (St.c1 (α:=Tc) x2 .t2) rfl rfl (o1 (St.o1 (α:=Tc) x2 .t2)) rfl) fun t8 A4 s3=>AR (dk b0)<|Aw<|Am<|Ac rfl<|Ab (Bf (i:=x1) (j:=1) rfl rfl (by omega))<|Af rfl<|Aa ?_
 obtain ⟨B4,u3⟩:=AH A4 .d1
 exact x4 (x1 + 1,W6,W2,s4) B4 (Tt X4 (Tt H3 (Tt Z4 (Tt s3 u3)))) (Ay B5 (Tt s3 u3)) h
 intro M1
 refine By [4,7,10] (rk b0) ⟨?_,?_,?_,trivial⟩
 refine BG (m' :=895) (sk b0) rfl .plain rfl (Does.mk (α:=Int) s1 U0 ay rfl) fun g2 j1 A0 V0=>?_
 have E1:=AB (cs:=(List.replicate (((a0.fh % (3:UInt8)).toNat:Nat):Int).toNat [vI 0]).flatten) (xs:=H0) A0 L (Cells.mk s1 rfl)
 refine By [7,10] (rk b0) ⟨?_,?_,trivial⟩
 refine BG (m' :=1023) (sk b0) rfl .plain rfl (Does.mk (α:=Int) u1 A0 ay rfl) fun j2 k1 B0 M0=>?_
 have F1:=AB (cs:=(List.replicate (((a0.fe % (4:UInt8)).toNat:Nat):Int).toNat [vI 0]).flatten) (xs:=I0) B0 L (Cells.mk u1 rfl)
 refine BV 10 2047 b0 rfl .plain rfl (Does.mk (α:=Int) v1 B0 ay rfl) fun k2 p1 C0 P0=>?_
 have q1:=AB (cs:=(List.replicate (((a0.fj % (3:UInt8)).toNat:Nat):Int).toNat [vI 0]).flatten) (xs:=J0) C0 L (Cells.mk v1 rfl)
 exact M1 ((.slice (some ⟨p1,0,none⟩) (((a0.fj % (3:UInt8)).toNat:Nat):Int).toNat (((a0.fj % (3:UInt8)).toNat:Nat):Int).toNat),(List.replicate (((a0.fj % (3:UInt8)).toNat:Nat):Int).toNat [vI 0]).flatten,(.slice (some ⟨k1,0,none⟩) (((a0.fe % (4:UInt8)).toNat:Nat):Int).toNat (((a0.fe % (4:UInt8)).toNat:Nat):Int).toNat),(List.replicate (((a0.fe % (4:UInt8)).toNat:Nat):Int).toNat [vI 0]).flatten,(.slice (some ⟨j1,0,none⟩) (((a0.fh % (3:UInt8)).toNat:Nat):Int).toNat (((a0.fh % (3:UInt8)).toNat:Nat):Int).toNat),(List.replicate (((a0.fh % (3:UInt8)).toNat:Nat):Int).toNat [vI 0]).flatten) C0 (Tt V0 (Tt M0 P0)) ⟨q1,(Ay F1 P0),(Ay E1 (Tt M0 P0))⟩
 refine BG (m' :=1919) (sk b0) rfl .plain rfl (Does.mk (α:=Int) v1 A0 ay rfl) fun k2 p1 C0 P0=>?_
 have q1:=AB (cs:=(List.replicate (((a0.fj % (3:UInt8)).toNat:Nat):Int).toNat [vI 0]).flatten) (xs:=J0) C0 L (Cells.mk v1 rfl)
 refine BV 7 2047 b0 rfl .plain rfl (Does.mk (α:=Int) u1 C0 ay rfl) fun j2 k1 B0 M0=>?_
 have F1:=AB (cs:=(List.replicate (((a0.fe % (4:UInt8)).toNat:Nat):Int).toNat [vI 0]).flatten) (xs:=I0) B0 L (Cells.mk u1 rfl)
 obtain ⟨C4,H2⟩:=AH B0 (.a1 .d0)
 have I3:=Tt P0 (Tt M0 H2)
 exact M1 ((.slice (some ⟨p1,0,none⟩) (((a0.fj % (3:UInt8)).toNat:Nat):Int).toNat (((a0.fj % (3:UInt8)).toNat:Nat):Int).toNat),(List.replicate (((a0.fj % (3:UInt8)).toNat:Nat):Int).toNat [vI 0]).flatten,(.slice (some ⟨k1,0,none⟩) (((a0.fe % (4:UInt8)).toNat:Nat):Int).toNat (((a0.fe % (4:UInt8)).toNat:Nat):Int).toNat),(List.replicate (((a0.fe % (4:UInt8)).toNat:Nat):Int).toNat [vI 0]).flatten,(.slice (some ⟨j1,0,none⟩) (((a0.fh % (3:UInt8)).toNat:Nat):Int).toNat (((a0.fh % (3:UInt8)).toNat:Nat):Int).toNat),(List.replicate (((a0.fh % (3:UInt8)).toNat:Nat):Int).toNat [vI 0]).flatten) C4 (Tt V0 I3) ⟨(Ay q1 (Tt M0 H2)),(Ay F1 H2),(Ay E1 I3)⟩
 refine BG (m' :=1007) (sk b0) rfl .plain rfl (Does.mk (α:=Int) u1 U0 ay rfl) fun j2 k1 B0 M0=>?_
 have F1:=AB (cs:=(List.replicate (((a0.fe % (4:UInt8)).toNat:Nat):Int).toNat [vI 0]).flatten) (xs:=I0) B0 L (Cells.mk u1 rfl)
 refine By [4,10] (rk b0) ⟨?_,?_,trivial⟩
 refine BG (m' :=1023) (sk b0) rfl .plain rfl (Does.mk (α:=Int) s1 B0 ay rfl) fun g2 j1 A0 V0=>?_
 have E1:=AB (cs:=(List.replicate (((a0.fh % (3:UInt8)).toNat:Nat):Int).toNat [vI 0]).flatten) (xs:=H0) A0 L (Cells.mk s1 rfl)
 refine BV 10 2047 b0 rfl .plain rfl (Does.mk (α:=Int) v1 A0 ay rfl) fun k2 p1 C0 P0=>?_
 have q1:=AB (cs:=(List.replicate (((a0.fj % (3:UInt8)).toNat:Nat):Int).toNat [vI 0]).flatten) (xs:=J0) C0 L (Cells.mk v1 rfl)
 obtain ⟨D4,I2⟩:=AH C0 (.a0 (.a1 .d0))
 have J3:=Tt V0 (Tt P0 I2)
 exact M1 ((.slice (some ⟨p1,0,none⟩) (((a0.fj % (3:UInt8)).toNat:Nat):Int).toNat (((a0.fj % (3:UInt8)).toNat:Nat):Int).toNat),(List.replicate (((a0.fj % (3:UInt8)).toNat:Nat):Int).toNat [vI 0]).flatten,(.slice (some ⟨k1,0,none⟩) (((a0.fe % (4:UInt8)).toNat:Nat):Int).toNat (((a0.fe % (4:UInt8)).toNat:Nat):Int).toNat),(List.replicate (((a0.fe % (4:UInt8)).toNat:Nat):Int).toNat [vI 0]).flatten,(.slice (some ⟨j1,0,none⟩) (((a0.fh % (3:UInt8)).toNat:Nat):Int).toNat (((a0.fh % (3:UInt8)).toNat:Nat):Int).toNat),(List.replicate (((a0.fh % (3:UInt8)).toNat:Nat):Int).toNat [vI 0]).flatten) D4 (Tt M0 J3) ⟨(Ay q1 I2),(Ay F1 J3),(Ay E1 (Tt P0 I2))⟩
 refine BG (m' :=2031) (sk b0) rfl .plain rfl (Does.mk (α:=Int) v1 B0 ay rfl) fun k2 p1 C0 P0=>?_
 have q1:=AB (cs:=(List.replicate (((a0.fj % (3:UInt8)).toNat:Nat):Int).toNat [vI 0]).flatten) (xs:=J0) C0 L (Cells.mk v1 rfl)
 refine BV 4 2047 b0 rfl .plain rfl (Does.mk (α:=Int) s1 C0 ay rfl) fun g2 j1 A0 V0=>?_
 have E1:=AB (cs:=(List.replicate (((a0.fh % (3:UInt8)).toNat:Nat):Int).toNat [vI 0]).flatten) (xs:=H0) A0 L (Cells.mk s1 rfl)
 obtain ⟨E4,J2⟩:=AH A0 (.a1 (.a1 .d0))
 have K3:=Tt P0 (Tt V0 J2)
 exact M1 ((.slice (some ⟨p1,0,none⟩) (((a0.fj % (3:UInt8)).toNat:Nat):Int).toNat (((a0.fj % (3:UInt8)).toNat:Nat):Int).toNat),(List.replicate (((a0.fj % (3:UInt8)).toNat:Nat):Int).toNat [vI 0]).flatten,(.slice (some ⟨k1,0,none⟩) (((a0.fe % (4:UInt8)).toNat:Nat):Int).toNat (((a0.fe % (4:UInt8)).toNat:Nat):Int).toNat),(List.replicate (((a0.fe % (4:UInt8)).toNat:Nat):Int).toNat [vI 0]).flatten,(.slice (some ⟨j1,0,none⟩) (((a0.fh % (3:UInt8)).toNat:Nat):Int).toNat (((a0.fh % (3:UInt8)).toNat:Nat):Int).toNat),(List.replicate (((a0.fh % (3:UInt8)).toNat:Nat):Int).toNat [vI 0]).flatten) E4 (Tt M0 K3) ⟨(Ay q1 (Tt V0 J2)),(Ay F1 K3),(Ay E1 J2)⟩
 refine BG (m' :=1903) (sk b0) rfl .plain rfl (Does.mk (α:=Int) v1 U0 ay rfl) fun k2 p1 C0 P0=>?_
 have q1:=AB (cs:=(List.replicate (((a0.fj % (3:UInt8)).toNat:Nat):Int).toNat [vI 0]).flatten) (xs:=J0) C0 L (Cells.mk v1 rfl)
 refine By [4,7] (rk b0) ⟨?_,?_,trivial⟩
 refine BG (m' :=1919) (sk b0) rfl .plain rfl (Does.mk (α:=Int) s1 C0 ay rfl) fun g2 j1 A0 V0=>?_
 have E1:=AB (cs:=(List.replicate (((a0.fh % (3:UInt8)).toNat:Nat):Int).toNat [vI 0]).flatten) (xs:=H0) A0 L (Cells.mk s1 rfl)
 refine BV 7 2047 b0 rfl .plain rfl (Does.mk (α:=Int) u1 A0 ay rfl) fun j2 k1 B0 M0=>?_
 have F1:=AB (cs:=(List.replicate (((a0.fe % (4:UInt8)).toNat:Nat):Int).toNat [vI 0]).flatten) (xs:=I0) B0 L (Cells.mk u1 rfl)
 obtain ⟨F4,K2⟩:=AH B0 (.a2 .d0)
 have M3:=Tt V0 (Tt M0 K2)
 exact M1 ((.slice (some ⟨p1,0,none⟩) (((a0.fj % (3:UInt8)).toNat:Nat):Int).toNat (((a0.fj % (3:UInt8)).toNat:Nat):Int).toNat),(List.replicate (((a0.fj % (3:UInt8)).toNat:Nat):Int).toNat [vI 0]).flatten,(.slice (some ⟨k1,0,none⟩) (((a0.fe % (4:UInt8)).toNat:Nat):Int).toNat (((a0.fe % (4:UInt8)).toNat:Nat):Int).toNat),(List.replicate (((a0.fe % (4:UInt8)).toNat:Nat):Int).toNat [vI 0]).flatten,(.slice (some ⟨j1,0,none⟩) (((a0.fh % (3:UInt8)).toNat:Nat):Int).toNat (((a0.fh % (3:UInt8)).toNat:Nat):Int).toNat),(List.replicate (((a0.fh % (3:UInt8)).toNat:Nat):Int).toNat [vI 0]).flatten) F4 (Tt P0 M3) ⟨(Ay q1 M3),(Ay F1 K2),(Ay E1 (Tt M0 K2))⟩
 refine BG (m' :=2031) (sk b0) rfl .plain rfl (Does.mk (α:=Int) u1 C0 ay rfl) fun j2 k1 B0 M0=>BV 4 2047 b0 rfl .plain rfl (Does.mk (α:=Int) s1 B0 ay rfl) fun g2 j1 A0 V0=>?_
 obtain ⟨G4,M2⟩:=AH A0 (.a2 (.a1 .d0))
 have P3:=Tt M0 (Tt V0 M2)
 exact M1 ((.slice (some ⟨p1,0,none⟩) (((a0.fj % (3:UInt8)).toNat:Nat):Int).toNat (((a0.fj % (3:UInt8)).toNat:Nat):Int).toNat),(List.replicate (((a0.fj % (3:UInt8)).toNat:Nat):Int).toNat [vI 0]).flatten,(.slice (some ⟨k1,0,none⟩) (((a0.fe % (4:UInt8)).toNat:Nat):Int).toNat (((a0.fe % (4:UInt8)).toNat:Nat):Int).toNat),(List.replicate (((a0.fe % (4:UInt8)).toNat:Nat):Int).toNat [vI 0]).flatten,(.slice (some ⟨j1,0,none⟩) (((a0.fh % (3:UInt8)).toNat:Nat):Int).toNat (((a0.fh % (3:UInt8)).toNat:Nat):Int).toNat),(List.replicate (((a0.fh % (3:UInt8)).toNat:Nat):Int).toNat [vI 0]).flatten) G4 (Tt P0 P3) ⟨(Ay q1 P3),(Ay (AB (cs:=(List.replicate (((a0.fe % (4:UInt8)).toNat:Nat):Int).toNat [vI 0]).flatten) (xs:=I0) B0 L (Cells.mk u1 rfl)) (Tt V0 M2)),(Ay (AB (cs:=(List.replicate (((a0.fh % (3:UInt8)).toNat:Nat):Int).toNat [vI 0]).flatten) (xs:=H0) A0 L (Cells.mk s1 rfl)) M2)⟩
 refine AV rfl ?_
 have h:=I5 _ h
 try dsimp only at h
 refine Ae<|Ab (AK rfl (U0.memA .t2))<|AX [vI (((a0.fh % (3:UInt8)).toNat:Nat):Int),vI (((a0.fe % (4:UInt8)).toNat:Nat):Int),vI (((a0.fj % (3:UInt8)).toNat:Nat):Int),p0] U0 .t3 (o4 rfl rfl rfl (St.o1 (α:=Tc) U0 .t1)) fun v8 c3 b5=>Aa<|Ak rfl<|Ar (u:=.agg #[vI (((a0.fh % (3:UInt8)).toNat:Nat):Int),vI (((a0.fe % (4:UInt8)).toNat:Nat):Int),vI (((a0.fj % (3:UInt8)).toNat:Nat):Int),p0]) hb0 func18 rfl (.cons (.many (cs:=[vI (((a0.fh % (3:UInt8)).toNat:Nat):Int),vI (((a0.fe % (4:UInt8)).toNat:Nat):Int),vI (((a0.fj % (3:UInt8)).toNat:Nat):Int),p0]) rfl rfl (c3.memA .t3)) .nil) rfl ?_
 obtain ⟨d3,c5⟩:=AH c3 (.a1 .done)
 cases h
 exact ⟨d3.ag,fun p q=>⟨p0,R0,rfl,d3.agree q,Cells.keep0 (Ay D3 (Tt b5 c5)) q⟩⟩
structure Tl where
  fJ:UInt8
  fAt:UInt8
  fN:Int
  deriving DecidableEq
instance:Rep Tl:=Rep.via (β:=UInt8 × UInt8 × Int) fun x=>(x.fJ,x.fAt,x.fN)
def cn_p (_n:Nat) (a0:Tl) (a1:Te):Option Te:=
  (app ([]:List Tc) a1.fm).bind fun c0=>(if c0.length = 0 then some (⟨a1.fh,a1.fe,a1.fj,c0⟩:Te) else (bH ((a0.fAt.toNat:Nat):Int) ((c0.length:Nat):Int)).bind fun d0=>(idx c0 d0).bind fun b0=>(if ((a0.fJ % (7:UInt8)).toNat) = 0 then (put c0 ((d0.toNat:Nat):Int) (⟨b0.ft,a0.fN,b0.fh,b0.fM,b0.fI,b0.fv⟩:Tc)).bind fun j0=>some (⟨a1.fh,a1.fe,a1.fj,j0⟩:Te) else (if ((a0.fJ % (7:UInt8)).toNat) = 1 then (app ([a0.fN]:List Int) b0.fM).bind fun p0=>(put c0 ((d0.toNat:Nat):Int) (⟨b0.ft,b0.fx,b0.fh,p0,b0.fI,b0.fv⟩:Tc)).bind fun q0=>some (⟨a1.fh,a1.fe,a1.fj,q0⟩:Te) else (if ((a0.fJ % (7:UInt8)).toNat) = 2 then (app ([]:List Int) b0.fh).bind fun k0=>(app k0 ([a0.fN]:List Int)).bind fun s0=>(put c0 ((d0.toNat:Nat):Int) (⟨b0.ft,b0.fx,s0,b0.fM,b0.fI,b0.fv⟩:Tc)).bind fun t0=>some (⟨a1.fh,a1.fe,a1.fj,t0⟩:Te) else (if ((a0.fJ % (7:UInt8)).toNat) = 3 then (put c0 ((d0.toNat:Nat):Int) (⟨b0.ft,b0.fx,b0.fh,b0.fM,b0.fI,(!b0.fv)⟩:Tc)).bind fun u0=>some (⟨a1.fh,a1.fe,a1.fj,u0⟩:Te) else (if ((a0.fJ % (7:UInt8)).toNat) = 4 then (c0[0]?).bind fun g0=>(put c0 ((d0.toNat:Nat):Int) (⟨g0.ft,b0.fx,b0.fh,b0.fM,b0.fI,b0.fv⟩:Tc)).bind fun v0=>some (⟨a1.fh,a1.fe,a1.fj,v0⟩:Te) else (if ((a0.fJ % (7:UInt8)).toNat) = 5 then some (⟨a1.fh,a1.fe,a0.fN,c0⟩:Te) else (put c0 ((d0.toNat:Nat):Int) (⟨b0.ft,b0.fx,b0.fh,b0.fM,([a0.fN]:List Int),b0.fv⟩:Tc)).bind fun x0=>some (⟨a1.fh,a1.fe,a1.fj,x0⟩:Te))))))))
theorem cn_c (n:Nat) {L w} (hL:hl L w) (a0:Tl) (a1:Te) {v1_3:Value} (h1_3:Rep.R w L [v1_3] a1.fm)  {r:Te} (h:cn_p n a0 a1 = some r) :
 Cl 29 #[.agg #[.int .u8 (a0.fJ.toNat:Int),.int .u8 (a0.fAt.toNat:Int),vI a0.fN],.agg #[vI a1.fh,vI a1.fe,vI a1.fj,v1_3]] w (ae w fun w' u=>∃ v0_3:Value,u = .agg #[vI r.fh,vI r.fe,vI r.fj,v0_3]/\Rep.R w' L [v0_3] r.fm):=by
 unfold cn_p at h
 refine AF func29 rfl rfl rfl fun _ cs0 hb0=>Ae<|RG.bx (AC w) rfl rfl fun w11 z8 Y4 v9=>RG.bx Y4 rfl rfl fun w16 A8 Z4 z9=>RG.nl [vI 0,vI 0,vI 0,vN] Z4 fun w21 V1 P3 A9=>Aa<|Ae<|Ab (AK rfl (P3.memA .t1))<|RG.nl [vI 0,vI 0,vI 0,vN] P3 fun w26 W1 R3 K9=>AX [vI a1.fh,vI a1.fe,vI a1.fj,v1_3] R3 .hd (o4 rfl rfl rfl (AY (AM h1_3 R3))) fun w31 F5 M9=>Aa<|Ae<|Ao .plain rfl (jB Tc F5 eE) fun w35 B8 k2 P9=>AT 3 rfl<|AL rfl ((k2.memA .t3) 3 _ rfl)<|bk h fun s1 Z7 h=>BR .plain rfl (Bh (α:=Tc) (ys:=a1.fm) Z7 k2 (fun _ _=>.hd) eE rfl rfl (jD Tc k2 L) (Src.rep (AM h1_3 k2))) fun j0 w42 ⟨v2,V2,Q9,K0⟩=>AT 3 rfl<|RG.now .plain (BM (j:=3) (old:=[vI a1.fh,vI a1.fe,vI a1.fj,v1_3]) (news:=[j0]) (new' :=[vI a1.fh,vI a1.fe,vI a1.fj,j0]) V2 .t1 rfl rfl rfl (St.c1 (α:=Tc) V2 .hd) rfl rfl (o1 (St.o1 (α:=Tc) V2 .hd)) rfl) fun w49 q0 J0=>?_
 refine Aa<|Ai<|Ae<|AT 3 rfl<|AL rfl ((q0.memA .t1) 3 _ rfl) ?_
 have b00:s1.length <= 4294967296:=St.rowLe (α:=Tc) q0 .hd
 obtain ⟨v8,J8,F6⟩:=St.rowV (α:=Tc) q0 .hd
 refine Ab (FV.lenV underlying56 rfl F6)<|Ab (BF (i:=s1.length) (j:=0) rfl rfl)<|Aa<|AO rfl h (fun W4 h=>?_) (fun W4 h=>?_)
 refine Ae<|Ab (AK rfl (q0.memA .t1))<|AX [vI a1.fh,vI a1.fe,vI a1.fj,j0] q0 .t2 (o4 rfl rfl rfl (St.o1 (α:=Tc) q0 .hd)) fun w57 W2 X5=>Aa<|Ak rfl ?_
 have p2:=Bq W2 .hd
 have R9:=Br W2 .hd
 have E7:=Bs (α:=Tc) (v:=j0) (xs:=s1) p2 L (Ba (α:=Tc) W2 .hd (Ay K0 (Tt J0 X5)) hL)
 refine Ar hb0 func29 rfl (.cons (.many (cs:=[vI a1.fh,vI a1.fe,vI a1.fj,j0]) rfl rfl (p2.memA .t1)) .nil) rfl ?_
 cases h
 exact ⟨p2.ag,fun p q=>⟨j0,rfl,p2.kd E7 q⟩⟩
 refine Ap<|Ai<|du 11 fun M0 X0=>Rv 0 M0 rfl X0 (fun _=>Be 3 rfl)<|Rx 1 1536 M0 rfl X0 (AN rfl ((q0.memA .t1) 3 _ rfl))<|Rv 2 M0 rfl X0 (fun _=>Be 1 rfl)<|Rx 3 1808 M0 rfl X0 (AN rfl ((q0.memA .t4) 1 _ rfl)) ?_
 have z00:=a0.fAt.toNat_lt
 refine Rv 4 M0 rfl X0 (fun _=>FV.convN (i:=a0.fAt.toNat) underlying5 underlying3 rfl (by omega))<|Rv 5 M0 rfl X0 (fun _=>Be 3 rfl)<|Rx 6 1920 M0 rfl X0 (AN rfl ((q0.memA .t1) 3 _ rfl)) ?_
 obtain ⟨x8,K8,G6⟩:=St.rowV (α:=Tc) q0 .hd
 refine Rx 7 1792 M0 rfl X0 (FV.lenV underlying56 rfl G6)<|bk h fun p1 J7 h=>Rv 8 M0 rfl X0 (fun _=>FV.remc (i:=((a0.fAt.toNat:Nat):Int)) (j:=((s1.length:Nat):Int)) rfl rfl J7)<|bk h fun c0 M7 h=>?_
 obtain ⟨I6,I0⟩:=aG M7
 have k1:=Ay K0 J0
 obtain ⟨K4,M8,A3,Z3,q9,G7,q2⟩:=St.nth (α:=Tc) q0 .hd k1 I0
 obtain ⟨K3,P8,H0⟩:=BL (α:=Tc) q0 .hd Z3
 obtain rfl:K4 = ⟨K3,0,none⟩:=by rw [H0] at A3; cases A3; rfl
 obtain ⟨v86,v87,v88,rfl,d1,H7,y00⟩:=bm G7
 refine Rv 9 M0 rfl X0 (fun _=>Bi 6 (p1.toNat) rfl A3 rfl I6 Z3)<|Rv 10 M0 rfl X0 (fun _=>Bm rfl)<|AR (dk M0)<|Ai<|Ae<|AT 0 rfl<|AL rfl ((q0.memA .t4) 0 _ rfl)<|Ab (FV.rem8 (a:=a0.fJ) (b:=(7:UInt8)) rfl rfl (by decide))<|Aa<|Au<|Ae<|Ab (BF (i:=(a0.fJ % (7:UInt8)).toNat) (j:=0) rfl rfl)<|Af rfl<|Aa<|AO rfl h (fun X4 h=>?_) (fun X4 h=>?_)
 refine Am<|Ac rfl<|AT 2 rfl<|AL rfl ((q0.memA .t4) 2 _ rfl)<|Ab (BW rfl)<|AT 1 rfl ?_
 obtain ⟨Q8,H6,Z9,s9,I7,p00,y6⟩:=St.nthAt (α:=Tc) q0 .hd k1 I0 H0
 obtain ⟨p4,q4,s4,rfl,P6,Q6,R6⟩:=bm I7
 refine bk h fun j8 P7 h=>RG.acts' .plain (Acts.setPart (α:=Tc) (i:=p1.toNat) (tot:=1) (ds:=[.string c0.ft,vI c0.fx,p4,q4,s4,.bool c0.fv]) (news:=[vI a0.fN]) (full:=[.string c0.ft,vI a0.fN,p4,q4,s4,.bool c0.fv]) P7 q0 H6 (fun _=>.hd) k1 y6 rfl rfl rfl rfl rfl rfl (cR c0.ft a0.fN c0.fh P6 c0.fM Q6 c0.fI R6 c0.fv) rfl (o1 rfl)) fun G00 ⟨R8,x2,t9,Y5⟩=>Aa<|Aw<|Ae<|Ab (AK rfl (x2.memA .t1))<|AX [vI a1.fh,vI a1.fe,vI a1.fj,j0] x2 .t2 (o4 rfl rfl rfl (St.o1 (α:=Tc) x2 .hd)) fun I00 y2 G5=>Aa<|Ak rfl ?_
 have X1:=Bq y2 .hd
 have u9:=Br y2 .hd
 have U6:=Bs (α:=Tc) (v:=j0) (xs:=j8) X1 L (Ba (α:=Tc) y2 .hd (Ay Y5 G5) hL)
 refine Ar hb0 func29 rfl (.cons (.many (cs:=[vI a1.fh,vI a1.fe,vI a1.fj,j0]) rfl rfl (X1.memA .t1)) .nil) rfl ?_
 cases h
 exact ⟨X1.ag,fun p q=>⟨j0,rfl,X1.kd U6 q⟩⟩
 refine Ae<|Ab (BF (i:=(a0.fJ % (7:UInt8)).toNat) (j:=1) rfl rfl)<|Af rfl<|Aa<|AO rfl h (fun P4 h=>?_) (fun P4 h=>?_)
 refine du 8 fun G0 g1=>Rv 0 G0 rfl g1 (fun _=>Ah rfl)<|Rv 1 G0 rfl g1 (fun _=>Be 2 rfl)<|Rx 2 3848 G0 rfl g1 (AN rfl ((q0.memA .t4) 2 _ rfl))<|Rv 4 G0 rfl g1 (fun _=>Ah rfl)<|Rv 5 G0 rfl g1 (fun _=>BW rfl)<|Rv 6 G0 rfl g1 (fun _=>Be 3 rfl)<|Rx 7 3840 G0 rfl g1 (AN rfl (q2 3 _ rfl))<|BV 3 255 G0 rfl .plain rfl (jA a0.fN (vI a0.fN) q0 ay (e1 rfl)) fun J00 y8 M3 U3=>bk h fun H4 Q7 h=>BS (i:=8) (rk G0) (BK (m' :=511) (sk G0) rfl rfl .plain rfl (Bh (α:=Int) (ys:=c0.fM) Q7 M3 (fun _ _=>.hd) ay rfl rfl (jC a0.fN (vI a0.fN) M3 L rfl) (Src.rep (Aq H7 U3))) (fun E3 K00 ⟨U8,z2,H5,Z5⟩=>?_))
 refine Rv 9 G0 rfl g1 (fun _=>BW rfl)<|Rv 10 G0 rfl g1 (fun _=>Be 3 rfl) ?_
 have A2:=Bq z2 .hd
 have B3:=Bs (α:=Int) (v:=E3) (xs:=H4) A2 L (Ba (α:=Int) z2 .hd Z5 hL)
 have b4:=Ay K0 (Tt J0 (Tt U3 (Tt H5 (Br z2 .hd))))
 obtain ⟨C8,z6,U9,V8,V6,c00,s6⟩:=St.nthAt (α:=Tc) A2 .hd b4 I0 H0
 obtain ⟨u4,b8,v4,rfl,W6,q00,X6⟩:=bm V6
 refine bk h fun k8 R7 h=>BS (i:=11) (rk G0) (RO.acts (m' :=4095) (sk G0) rfl rfl .plain (Acts.setPart (α:=Tc) (i:=p1.toNat) (tot:=3) (ds:=[.string c0.ft,vI c0.fx,u4,b8,v4,.bool c0.fv]) (news:=[E3]) (full:=[.string c0.ft,vI c0.fx,u4,E3,v4,.bool c0.fv]) R7 A2 z6 (fun _=>.hd) b4 s6 rfl rfl rfl rfl rfl (Rep.c1 B3) (cR c0.ft c0.fx c0.fh W6 H4 B3 c0.fI X6 c0.fv) rfl (o1 (AY B3))) (fun M00 ⟨W8,B2,x9,b6⟩=>?_))
 refine AR (dk G0)<|Aw<|Ae<|Ab (AK rfl (B2.memA .t1))<|AX [vI a1.fh,vI a1.fe,vI a1.fj,j0] B2 .t2 (o4 rfl rfl rfl (St.o1 (α:=Tc) B2 .hd)) fun Q00 C2 I5=>Aa<|Ak rfl ?_
 have Y1:=Bq C2 .hd
 have y9:=Br C2 .hd
 have Y6:=Bs (α:=Tc) (v:=j0) (xs:=k8) Y1 L (Ba (α:=Tc) C2 .hd (Ay b6 I5) hL)
 refine Ar hb0 func29 rfl (.cons (.many (cs:=[vI a1.fh,vI a1.fe,vI a1.fj,j0]) rfl rfl (Y1.memA .t1)) .nil) rfl ?_
 cases h
 exact ⟨Y1.ag,fun p q=>⟨j0,rfl,Y1.kd Y6 q⟩⟩
 refine Ae<|Ab (BF (i:=(a0.fJ % (7:UInt8)).toNat) (j:=2) rfl rfl)<|Af rfl<|Aa<|AO rfl h (fun Q4 h=>?_) (fun Q4 h=>?_)
 refine du 6 fun b0 Z0=>Rv 0 b0 rfl Z0 (fun _=>Ah rfl)<|Rv 2 b0 rfl Z0 (fun _=>Ah rfl)<|Rv 3 b0 rfl Z0 (fun _=>BW rfl)<|Rv 4 b0 rfl Z0 (fun _=>Be 2 rfl)<|Rv 7 b0 rfl Z0 (fun _=>Be 2 rfl)<|bk h fun s2 z0 h=>RD.mf (α:=Value × (List Value) × Value × (List Value)) (fun ⟨D1,x1,E1,y1⟩=>[(4,vP V1),(5,vP W1),(59,.pointer (some (Addr.add ⟨K3,0,none⟩ (p1.toNat * 6)))),(65,E1),(68,D1)]) (fun ⟨D1,x1,E1,y1⟩=>[rr w 3 Int D1 (([a0.fN]:List Int).length) x1,rr w 3 Int E1 s2.length y1,rr w 96 Tc j0 s1.length v2,.cells W1 [vI a1.fh,vI a1.fe,vI a1.fj,j0] 58,.cells V1 [vI 0,vI 0,vI 0,vN] 58]) (fun ⟨D1,x1,E1,y1⟩ I3=>Cells I3 (bl [rr w 3 Int D1 (([a0.fN]:List Int).length) x1,rr w 3 Int E1 s2.length y1,rr w 96 Tc j0 s1.length v2,.cells W1 [vI a1.fh,vI a1.fe,vI a1.fj,j0] 58,.cells V1 [vI 0,vI 0,vI 0,vN] 58] ++ L) x1 (([a0.fN]:List Int):List Int)/\Cells I3 (bl [rr w 3 Int D1 (([a0.fN]:List Int).length) x1,rr w 3 Int E1 s2.length y1,rr w 96 Tc j0 s1.length v2,.cells W1 [vI a1.fh,vI a1.fe,vI a1.fj,j0] 58,.cells V1 [vI 0,vI 0,vI 0,vN] 58] ++ L) y1 (s2:List Int)) q0 4 1023 ?_ ?_
 rintro ⟨D1,x1,E1,y1⟩ I3 Q3 J5 ⟨c6,d6⟩
 try dsimp only
 refine bk h fun I4 U7 h=>BS (i:=10) (rk b0) (BK (m' :=2047) (sk b0) rfl rfl .plain rfl (Bh (α:=Int) (ys:=([a0.fN]:List Int)) U7 Q3 (fun _ _=>.t1) ay rfl rfl d6 (BN (α:=Int) Q3 .hd c6)) (fun F3 U00 ⟨X8,D2,K5,g6⟩=>?_))
 refine Rv 11 b0 rfl Z0 (fun _=>BW rfl)<|Rv 12 b0 rfl Z0 (fun _=>Be 2 rfl) ?_
 have E2:=Bq D2 .t1
 have C3:=Bs (α:=Int) (v:=F3) (xs:=I4) E2 L (Ba (α:=Int) D2 .t1 g6 hL)
 have c4:=Ay K0 (Tt J0 (Tt J5 (Tt K5 (Br D2 .t1))))
 obtain ⟨D8,A6,V9,Y8,Z6,d00,t6⟩:=St.nthAt (α:=Tc) E2 .t1 c4 I0 H0
 obtain ⟨c8,x4,y4,rfl,s00,b7,c7⟩:=bm Z6
 refine bk h fun p8 V7 h=>BS (i:=13) (rk b0) (RO.acts (m' :=16383) (sk b0) rfl rfl .plain (Acts.setPart (α:=Tc) (i:=p1.toNat) (tot:=2) (ds:=[.string c0.ft,vI c0.fx,c8,x4,y4,.bool c0.fv]) (news:=[F3]) (full:=[.string c0.ft,vI c0.fx,F3,x4,y4,.bool c0.fv]) V7 E2 A6 (fun _=>.t1) c4 t6 rfl rfl rfl rfl rfl (Rep.c1 C3) (cR c0.ft c0.fx I4 C3 c0.fM b7 c0.fI c7 c0.fv) rfl (o1 (AY C3))) (fun V00 ⟨Z8,F2,B9,j6⟩=>?_))
 refine AR (dk b0)<|Aw<|Ae<|Ab (AK rfl (F2.memA .t2))<|AX [vI a1.fh,vI a1.fe,vI a1.fj,j0] F2 .t3 (o4 rfl rfl rfl (St.o1 (α:=Tc) F2 .t1)) fun W00 G2 M5=>Aa<|Ak rfl ?_
 have Z1:=Bq G2 .t1
 have C9:=Br G2 .t1
 have d7:=Bs (α:=Tc) (v:=j0) (xs:=p8) Z1 L (Ba (α:=Tc) G2 .t1 (Ay j6 M5) hL)
 refine Ar hb0 func29 rfl (.cons (.many (cs:=[vI a1.fh,vI a1.fe,vI a1.fj,j0]) rfl rfl (Z1.memA .t2)) .nil) rfl ?_
 cases h
 exact ⟨Z1.ag,fun p q=>⟨j0,rfl,Z1.kd d7 q⟩⟩
 intro x0
 refine By [1,5,8] (rk b0) ⟨?_,?_,?_,trivial⟩
 refine BG (m' :=159) (sk b0) rfl .plain rfl (jB Int q0 ay) fun F1 u1 p0 k0=>?_
 have v0:=jD Int p0 L
 refine By [5,8] (rk b0) ⟨?_,?_,trivial⟩
 have M1:=Ay K0 (Tt J0 k0)
 obtain ⟨G1,J1,K1,H1,V0,U0,I1⟩:=St.nthAt (α:=Tc) p0 .t1 M1 I0 H0
 obtain ⟨G3,Q1,R1,rfl,W0,B1,P1⟩:=bm V0
 refine RO.val (m' :=191) (sk b0) rfl .plain rfl (AN rfl (U0 2 _ rfl))<|By [6,8] (rk b0) ⟨?_,?_,trivial⟩
 refine BK (m' :=255) (sk b0) rfl rfl .plain rfl (Bh (α:=Int) (ys:=c0.fh) z0 p0 (fun _ _=>.hd) ay rfl rfl v0 (Src.rep W0)) fun C1 H3 ⟨v1,j1,z1,A1⟩=>BS (i:=8) (rk b0) (RO.val (m' :=511) (sk b0) rfl .plain rfl (AN rfl ((j1.memA .t5) 2 _ rfl)) ?_)
 refine BV 9 1023 b0 rfl .plain rfl (jA a0.fN (vI a0.fN) j1 ay (e1 rfl)) fun B0 s0 g0 d0=>?_
 have t0:=jC a0.fN (vI a0.fN) g0 L rfl
 obtain ⟨b5,X2⟩:=AH g0 (.a0 (.a0 (.a0 (.a0 (.a0 .done)))))
 exact x0 ((vS s0 1),[vI a0.fN],C1,v1) b5 (Tt k0 (Tt z1 (Tt d0 X2))) ⟨(Ay t0 X2),(Ay A1 (Tt d0 X2))⟩
 refine RO.val (m' :=447) (sk b0) rfl .plain rfl (AN rfl ((p0.memA .t5) 2 _ rfl))<|By [6,9] (rk b0) ⟨?_,?_,trivial⟩
 refine BK (m' :=511) (sk b0) rfl rfl .plain rfl (Bh (α:=Int) (ys:=c0.fh) z0 p0 (fun _ _=>.hd) ay rfl rfl v0 (Src.rep W0)) fun C1 H3 ⟨v1,j1,z1,A1⟩=>BV 9 1023 b0 rfl .plain rfl (jA a0.fN (vI a0.fN) j1 ay (e1 rfl)) fun B0 s0 g0 d0=>?_
 have t0:=jC a0.fN (vI a0.fN) g0 L rfl
 obtain ⟨c5,Y2⟩:=AH g0 (.a0 (.a0 (.a0 (.a0 (.a0 .done)))))
 exact x0 ((vS s0 1),[vI a0.fN],C1,v1) c5 (Tt k0 (Tt z1 (Tt d0 Y2))) ⟨(Ay t0 Y2),(Ay A1 (Tt d0 Y2))⟩
 refine BG (m' :=959) (sk b0) rfl .plain rfl (jA a0.fN (vI a0.fN) p0 ay (e1 rfl)) fun B0 s0 g0 d0=>?_
 have t0:=jC a0.fN (vI a0.fN) g0 L rfl
 have u0:=Aq W0 d0
 have b1:=Ay v0 d0
 refine BS (i:=6) (rk b0) (BK (m' :=1023) (sk b0) rfl rfl .plain rfl (Bh (α:=Int) (ys:=c0.fh) z0 g0 (fun _ _=>.t1) ay rfl rfl b1 (Src.rep u0)) (fun Y0 U1 ⟨P0,Q0,D0,R0⟩=>?_))
 obtain ⟨d5,Z2⟩:=AH Q0 (.a0 (.a0 (.a0 (.a0 (.a0 .done)))))
 exact x0 ((vS s0 1),[vI a0.fN],Y0,P0) d5 (Tt k0 (Tt d0 (Tt D0 Z2))) ⟨(Ay t0 (Tt D0 Z2)),(Ay R0 Z2)⟩
 refine RO.val (m' :=415) (sk b0) rfl .plain rfl (AN rfl ((p0.memA .t5) 2 _ rfl))<|By [5,9] (rk b0) ⟨?_,?_,trivial⟩
 have M1:=Ay K0 (Tt J0 k0)
 obtain ⟨G1,J1,K1,H1,V0,U0,I1⟩:=St.nthAt (α:=Tc) p0 .t1 M1 I0 H0
 obtain ⟨G3,Q1,R1,rfl,W0,B1,P1⟩:=bm V0
 refine RO.val (m' :=447) (sk b0) rfl .plain rfl (AN rfl (U0 2 _ rfl))<|By [6,9] (rk b0) ⟨?_,?_,trivial⟩
 refine BK (m' :=511) (sk b0) rfl rfl .plain rfl (Bh (α:=Int) (ys:=c0.fh) z0 p0 (fun _ _=>.hd) ay rfl rfl v0 (Src.rep W0)) fun C1 H3 ⟨v1,j1,z1,A1⟩=>BV 9 1023 b0 rfl .plain rfl (jA a0.fN (vI a0.fN) j1 ay (e1 rfl)) fun B0 s0 g0 d0=>?_
 have t0:=jC a0.fN (vI a0.fN) g0 L rfl
 obtain ⟨g5,b3⟩:=AH g0 (.a0 (.a0 (.a0 (.a0 (.a0 .done)))))
 exact x0 ((vS s0 1),[vI a0.fN],C1,v1) g5 (Tt k0 (Tt z1 (Tt d0 b3))) ⟨(Ay t0 b3),(Ay A1 (Tt d0 b3))⟩
 refine BG (m' :=959) (sk b0) rfl .plain rfl (jA a0.fN (vI a0.fN) p0 ay (e1 rfl)) fun B0 s0 g0 d0=>?_
 have t0:=jC a0.fN (vI a0.fN) g0 L rfl
 have u0:=Aq W0 d0
 have b1:=Ay v0 d0
 refine BS (i:=6) (rk b0) (BK (m' :=1023) (sk b0) rfl rfl .plain rfl (Bh (α:=Int) (ys:=c0.fh) z0 g0 (fun _ _=>.t1) ay rfl rfl b1 (Src.rep u0)) (fun Y0 U1 ⟨P0,Q0,D0,R0⟩=>?_))
 obtain ⟨j5,c3⟩:=AH Q0 (.a0 (.a0 (.a0 (.a0 (.a0 .done)))))
 exact x0 ((vS s0 1),[vI a0.fN],Y0,P0) j5 (Tt k0 (Tt d0 (Tt D0 c3))) ⟨(Ay t0 (Tt D0 c3)),(Ay R0 c3)⟩
 refine BG (m' :=927) (sk b0) rfl .plain rfl (jA a0.fN (vI a0.fN) p0 ay (e1 rfl)) fun B0 s0 g0 d0=>?_
 have t0:=jC a0.fN (vI a0.fN) g0 L rfl
 have M6:=Tt J0 (Tt k0 d0)
 have K6:=Ay K0 M6
 obtain ⟨G1,J1,K1,H1,V0,U0,I1⟩:=St.nthAt (α:=Tc) g0 .t2 K6 I0 H0
 obtain ⟨Q1,R1,g8,rfl,B1,P1,F7⟩:=bm V0
 refine Rx 5 15424 b0 rfl Z0 (AN rfl (U0 2 _ rfl)) ?_
 have u0:=Ay v0 d0
 refine BS (i:=6) (rk b0) (BK (m' :=1023) (sk b0) rfl rfl .plain rfl (Bh (α:=Int) (ys:=c0.fh) z0 g0 (fun _ _=>.t1) ay rfl rfl u0 (Src.rep B1)) (fun F0 q1 ⟨C0,A0,y0,E0⟩=>?_))
 obtain ⟨k5,d3⟩:=AH A0 (.a0 (.a0 (.a0 (.a0 (.a0 .done)))))
 exact x0 ((vS s0 1),[vI a0.fN],F0,C0) k5 (Tt k0 (Tt d0 (Tt y0 d3))) ⟨(Ay t0 (Tt y0 d3)),(Ay E0 d3)⟩
 refine RO.val (m' :=189) (sk b0) rfl .plain rfl (AN rfl (q2 2 _ rfl))<|By [1,8] (rk b0) ⟨?_,?_,trivial⟩
 refine BG (m' :=191) (sk b0) rfl .plain rfl (jB Int q0 ay) fun F1 u1 p0 k0=>?_
 have v0:=jD Int p0 L
 refine By [6,8] (rk b0) ⟨?_,?_,trivial⟩
 have u0:=Aq d1 k0
 refine BK (m' :=255) (sk b0) rfl rfl .plain rfl (Bh (α:=Int) (ys:=c0.fh) z0 p0 (fun _ _=>.hd) ay rfl rfl v0 (Src.rep u0)) fun F0 q1 ⟨C0,A0,y0,E0⟩=>BS (i:=8) (rk b0) (RO.val (m' :=511) (sk b0) rfl .plain rfl (AN rfl ((A0.memA .t5) 2 _ rfl)) ?_)
 refine BV 9 1023 b0 rfl .plain rfl (jA a0.fN (vI a0.fN) A0 ay (e1 rfl)) fun B0 s0 g0 d0=>?_
 have t0:=jC a0.fN (vI a0.fN) g0 L rfl
 obtain ⟨p5,g3⟩:=AH g0 (.a0 (.a0 (.a0 (.a0 (.a0 .done)))))
 exact x0 ((vS s0 1),[vI a0.fN],F0,C0) p5 (Tt k0 (Tt y0 (Tt d0 g3))) ⟨(Ay t0 g3),(Ay E0 (Tt d0 g3))⟩
 refine RO.val (m' :=447) (sk b0) rfl .plain rfl (AN rfl ((p0.memA .t5) 2 _ rfl))<|By [6,9] (rk b0) ⟨?_,?_,trivial⟩
 have u0:=Aq d1 k0
 refine BK (m' :=511) (sk b0) rfl rfl .plain rfl (Bh (α:=Int) (ys:=c0.fh) z0 p0 (fun _ _=>.hd) ay rfl rfl v0 (Src.rep u0)) fun F0 q1 ⟨C0,A0,y0,E0⟩=>BV 9 1023 b0 rfl .plain rfl (jA a0.fN (vI a0.fN) A0 ay (e1 rfl)) fun B0 s0 g0 d0=>?_
 have t0:=jC a0.fN (vI a0.fN) g0 L rfl
 obtain ⟨q5,j3⟩:=AH g0 (.a0 (.a0 (.a0 (.a0 (.a0 .done)))))
 exact x0 ((vS s0 1),[vI a0.fN],F0,C0) q5 (Tt k0 (Tt y0 (Tt d0 j3))) ⟨(Ay t0 j3),(Ay E0 (Tt d0 j3))⟩
 refine BG (m' :=959) (sk b0) rfl .plain rfl (jA a0.fN (vI a0.fN) p0 ay (e1 rfl)) fun B0 s0 g0 d0=>?_
 have t0:=jC a0.fN (vI a0.fN) g0 L rfl
 have u0:=Aq d1 (Tt k0 d0)
 have b1:=Ay v0 d0
 refine BS (i:=6) (rk b0) (BK (m' :=1023) (sk b0) rfl rfl .plain rfl (Bh (α:=Int) (ys:=c0.fh) z0 g0 (fun _ _=>.t1) ay rfl rfl b1 (Src.rep u0)) (fun Y0 U1 ⟨P0,Q0,D0,R0⟩=>?_))
 obtain ⟨s5,k3⟩:=AH Q0 (.a0 (.a0 (.a0 (.a0 (.a0 .done)))))
 exact x0 ((vS s0 1),[vI a0.fN],Y0,P0) s5 (Tt k0 (Tt d0 (Tt D0 k3))) ⟨(Ay t0 (Tt D0 k3)),(Ay R0 k3)⟩
 refine RO.val (m' :=445) (sk b0) rfl .plain rfl (AN rfl ((q0.memA .t4) 2 _ rfl))<|By [1,9] (rk b0) ⟨?_,?_,trivial⟩
 refine BG (m' :=447) (sk b0) rfl .plain rfl (jB Int q0 ay) fun F1 u1 p0 k0=>?_
 have v0:=jD Int p0 L
 refine By [6,9] (rk b0) ⟨?_,?_,trivial⟩
 have u0:=Aq d1 k0
 refine BK (m' :=511) (sk b0) rfl rfl .plain rfl (Bh (α:=Int) (ys:=c0.fh) z0 p0 (fun _ _=>.hd) ay rfl rfl v0 (Src.rep u0)) fun F0 q1 ⟨C0,A0,y0,E0⟩=>BV 9 1023 b0 rfl .plain rfl (jA a0.fN (vI a0.fN) A0 ay (e1 rfl)) fun B0 s0 g0 d0=>?_
 have t0:=jC a0.fN (vI a0.fN) g0 L rfl
 obtain ⟨u5,p3⟩:=AH g0 (.a0 (.a0 (.a0 (.a0 (.a0 .done)))))
 exact x0 ((vS s0 1),[vI a0.fN],F0,C0) u5 (Tt k0 (Tt y0 (Tt d0 p3))) ⟨(Ay t0 p3),(Ay E0 (Tt d0 p3))⟩
 refine BG (m' :=959) (sk b0) rfl .plain rfl (jA a0.fN (vI a0.fN) p0 ay (e1 rfl)) fun B0 s0 g0 d0=>?_
 have t0:=jC a0.fN (vI a0.fN) g0 L rfl
 have u0:=Aq d1 (Tt k0 d0)
 have b1:=Ay v0 d0
 refine BS (i:=6) (rk b0) (BK (m' :=1023) (sk b0) rfl rfl .plain rfl (Bh (α:=Int) (ys:=c0.fh) z0 g0 (fun _ _=>.t1) ay rfl rfl b1 (Src.rep u0)) (fun Y0 U1 ⟨P0,Q0,D0,R0⟩=>?_))
 obtain ⟨v5,q3⟩:=AH Q0 (.a0 (.a0 (.a0 (.a0 (.a0 .done)))))
 exact x0 ((vS s0 1),[vI a0.fN],Y0,P0) v5 (Tt k0 (Tt d0 (Tt D0 q3))) ⟨(Ay t0 (Tt D0 q3)),(Ay R0 q3)⟩
 refine BG (m' :=957) (sk b0) rfl .plain rfl (jA a0.fN (vI a0.fN) q0 ay (e1 rfl)) fun B0 s0 g0 d0=>?_
 have t0:=jC a0.fN (vI a0.fN) g0 L rfl
 refine BV 1 959 b0 rfl .plain rfl (jB Int g0 ay) fun F1 u1 p0 k0=>?_
 have v0:=jD Int p0 L
 have u0:=Aq d1 (Tt d0 k0)
 refine BS (i:=6) (rk b0) (BK (m' :=1023) (sk b0) rfl rfl .plain rfl (Bh (α:=Int) (ys:=c0.fh) z0 p0 (fun _ _=>.hd) ay rfl rfl v0 (Src.rep u0)) (fun F0 q1 ⟨C0,A0,y0,E0⟩=>?_))
 obtain ⟨x5,V3⟩:=AH A0 (.a1 (.a0 (.a0 (.a0 (.a0 .done)))))
 have g4:=Tt k0 (Tt y0 V3)
 exact x0 ((vS s0 1),[vI a0.fN],F0,C0) x5 (Tt d0 g4) ⟨(Ay t0 g4),(Ay E0 V3)⟩
 refine RO.val (m' :=413) (sk b0) rfl .plain rfl (AN rfl ((q0.memA .t4) 2 _ rfl))<|By [1,5,9] (rk b0) ⟨?_,?_,?_,trivial⟩
 refine BG (m' :=415) (sk b0) rfl .plain rfl (jB Int q0 ay) fun F1 u1 p0 k0=>?_
 have v0:=jD Int p0 L
 refine By [5,9] (rk b0) ⟨?_,?_,trivial⟩
 have M1:=Ay K0 (Tt J0 k0)
 obtain ⟨G1,J1,K1,H1,V0,U0,I1⟩:=St.nthAt (α:=Tc) p0 .t1 M1 I0 H0
 obtain ⟨G3,Q1,R1,rfl,W0,B1,P1⟩:=bm V0
 refine RO.val (m' :=447) (sk b0) rfl .plain rfl (AN rfl (U0 2 _ rfl))<|By [6,9] (rk b0) ⟨?_,?_,trivial⟩
 refine BK (m' :=511) (sk b0) rfl rfl .plain rfl (Bh (α:=Int) (ys:=c0.fh) z0 p0 (fun _ _=>.hd) ay rfl rfl v0 (Src.rep W0)) fun C1 H3 ⟨v1,j1,z1,A1⟩=>BV 9 1023 b0 rfl .plain rfl (jA a0.fN (vI a0.fN) j1 ay (e1 rfl)) fun B0 s0 g0 d0=>?_
 have t0:=jC a0.fN (vI a0.fN) g0 L rfl
 obtain ⟨y5,s3⟩:=AH g0 (.a0 (.a0 (.a0 (.a0 (.a0 .done)))))
 exact x0 ((vS s0 1),[vI a0.fN],C1,v1) y5 (Tt k0 (Tt z1 (Tt d0 s3))) ⟨(Ay t0 s3),(Ay A1 (Tt d0 s3))⟩
 refine BG (m' :=959) (sk b0) rfl .plain rfl (jA a0.fN (vI a0.fN) p0 ay (e1 rfl)) fun B0 s0 g0 d0=>?_
 have t0:=jC a0.fN (vI a0.fN) g0 L rfl
 have u0:=Aq W0 d0
 have b1:=Ay v0 d0
 refine BS (i:=6) (rk b0) (BK (m' :=1023) (sk b0) rfl rfl .plain rfl (Bh (α:=Int) (ys:=c0.fh) z0 g0 (fun _ _=>.t1) ay rfl rfl b1 (Src.rep u0)) (fun Y0 U1 ⟨P0,Q0,D0,R0⟩=>?_))
 obtain ⟨z5,u3⟩:=AH Q0 (.a0 (.a0 (.a0 (.a0 (.a0 .done)))))
 exact x0 ((vS s0 1),[vI a0.fN],Y0,P0) z5 (Tt k0 (Tt d0 (Tt D0 u3))) ⟨(Ay t0 (Tt D0 u3)),(Ay R0 u3)⟩
 refine BG (m' :=927) (sk b0) rfl .plain rfl (jA a0.fN (vI a0.fN) p0 ay (e1 rfl)) fun B0 s0 g0 d0=>?_
 have t0:=jC a0.fN (vI a0.fN) g0 L rfl
 obtain ⟨G1,J1,K1,H1,V0,U0,I1⟩:=St.nthAt (α:=Tc) g0 .t2 (Ay K0 (Tt J0 (Tt k0 d0))) I0 H0
 obtain ⟨Q1,R1,g8,rfl,B1,P1,F7⟩:=bm V0
 refine Rx 5 15424 b0 rfl Z0 (AN rfl (U0 2 _ rfl)) ?_
 have u0:=Ay v0 d0
 refine BS (i:=6) (rk b0) (BK (m' :=1023) (sk b0) rfl rfl .plain rfl (Bh (α:=Int) (ys:=c0.fh) z0 g0 (fun _ _=>.t1) ay rfl rfl u0 (Src.rep B1)) (fun F0 q1 ⟨C0,A0,y0,E0⟩=>?_))
 obtain ⟨A5,v3⟩:=AH A0 (.a0 (.a0 (.a0 (.a0 (.a0 .done)))))
 exact x0 ((vS s0 1),[vI a0.fN],F0,C0) A5 (Tt k0 (Tt d0 (Tt y0 v3))) ⟨(Ay t0 (Tt y0 v3)),(Ay E0 v3)⟩
 refine RO.val (m' :=445) (sk b0) rfl .plain rfl (AN rfl (q2 2 _ rfl))<|By [1,9] (rk b0) ⟨?_,?_,trivial⟩
 refine BG (m' :=447) (sk b0) rfl .plain rfl (jB Int q0 ay) fun F1 u1 p0 k0=>?_
 have v0:=jD Int p0 L
 refine By [6,9] (rk b0) ⟨?_,?_,trivial⟩
 have u0:=Aq d1 k0
 refine BK (m' :=511) (sk b0) rfl rfl .plain rfl (Bh (α:=Int) (ys:=c0.fh) z0 p0 (fun _ _=>.hd) ay rfl rfl v0 (Src.rep u0)) fun F0 q1 ⟨C0,A0,y0,E0⟩=>BV 9 1023 b0 rfl .plain rfl (jA a0.fN (vI a0.fN) A0 ay (e1 rfl)) fun B0 s0 g0 d0=>?_
 have t0:=jC a0.fN (vI a0.fN) g0 L rfl
 obtain ⟨B5,x3⟩:=AH g0 (.a0 (.a0 (.a0 (.a0 (.a0 .done)))))
 exact x0 ((vS s0 1),[vI a0.fN],F0,C0) B5 (Tt k0 (Tt y0 (Tt d0 x3))) ⟨(Ay t0 x3),(Ay E0 (Tt d0 x3))⟩
 refine BG (m' :=959) (sk b0) rfl .plain rfl (jA a0.fN (vI a0.fN) p0 ay (e1 rfl)) fun B0 s0 g0 d0=>?_
 have t0:=jC a0.fN (vI a0.fN) g0 L rfl
 have u0:=Aq d1 (Tt k0 d0)
 refine BS (i:=6) (rk b0) (BK (m' :=1023) (sk b0) rfl rfl .plain rfl (Bh (α:=Int) (ys:=c0.fh) z0 g0 (fun _ _=>.t1) ay rfl rfl (Ay v0 d0) (Src.rep u0)) (fun Y0 U1 ⟨P0,Q0,D0,R0⟩=>?_))
 obtain ⟨C5,y3⟩:=AH Q0 (.a0 (.a0 (.a0 (.a0 (.a0 .done)))))
 exact x0 ((vS s0 1),[vI a0.fN],Y0,P0) C5 (Tt k0 (Tt d0 (Tt D0 y3))) ⟨(Ay t0 (Tt D0 y3)),(Ay R0 y3)⟩
 refine BG (m' :=957) (sk b0) rfl .plain rfl (jA a0.fN (vI a0.fN) q0 ay (e1 rfl)) fun B0 s0 g0 d0=>?_
 have t0:=jC a0.fN (vI a0.fN) g0 L rfl
 refine BV 1 959 b0 rfl .plain rfl (jB Int g0 ay) fun F1 u1 p0 k0=>?_
 have v0:=jD Int p0 L
 have u0:=Aq d1 (Tt d0 k0)
 refine BS (i:=6) (rk b0) (BK (m' :=1023) (sk b0) rfl rfl .plain rfl (Bh (α:=Int) (ys:=c0.fh) z0 p0 (fun _ _=>.hd) ay rfl rfl v0 (Src.rep u0)) (fun F0 q1 ⟨C0,A0,y0,E0⟩=>?_))
 obtain ⟨D5,W3⟩:=AH A0 (.a1 (.a0 (.a0 (.a0 (.a0 .done)))))
 have j4:=Tt k0 (Tt y0 W3)
 exact x0 ((vS s0 1),[vI a0.fN],F0,C0) D5 (Tt d0 j4) ⟨(Ay t0 j4),(Ay E0 W3)⟩
 refine BG (m' :=925) (sk b0) rfl .plain rfl (jA a0.fN (vI a0.fN) q0 ay (e1 rfl)) fun B0 s0 g0 d0=>?_
 have t0:=jC a0.fN (vI a0.fN) g0 L rfl
 obtain ⟨G1,J1,K1,H1,V0,U0,I1⟩:=St.nthAt (α:=Tc) g0 .t1 (Ay K0 (Tt J0 d0)) I0 H0
 obtain ⟨G3,Q1,R1,rfl,W0,B1,P1⟩:=bm V0
 refine Rx 5 15424 b0 rfl Z0 (AN rfl (U0 2 _ rfl))<|BV 1 959 b0 rfl .plain rfl (jB Int g0 ay) fun F1 u1 p0 k0=>BS (i:=6) (rk b0) (BK (m' :=1023) (sk b0) rfl rfl .plain rfl (Bh (α:=Int) (ys:=c0.fh) z0 p0 (fun _ _=>.hd) ay rfl rfl (jD Int p0 L) (Src.rep (Aq W0 k0))) (fun F0 q1 ⟨C0,A0,y0,E0⟩=>?_))
 obtain ⟨E5,X3⟩:=AH A0 (.a1 (.a0 (.a0 (.a0 (.a0 .done)))))
 have k4:=Tt k0 (Tt y0 X3)
 exact x0 ((vS s0 1),[vI a0.fN],F0,C0) E5 (Tt d0 k4) ⟨(Ay t0 k4),(Ay E0 X3)⟩
 refine Ae<|Ab (BF (i:=(a0.fJ % (7:UInt8)).toNat) (j:=3) rfl rfl)<|Af rfl<|Aa<|AO rfl h (fun R4 h=>?_) (fun R4 h=>?_)
 refine Am<|Ac rfl<|Ac rfl<|Ab (BW rfl)<|AT 5 rfl<|AL rfl (q2 5 _ rfl)<|Ab (Bp rfl)<|Ab (BW rfl)<|AT 5 rfl ?_
 obtain ⟨E8,B6,W9,b9,g7,g00,u6⟩:=St.nthAt (α:=Tc) q0 .hd k1 I0 H0
 obtain ⟨z4,A4,B4,rfl,j7,k7,p7⟩:=bm g7
 refine bk h fun q8 W7 h=>RG.acts' .plain (Acts.setPart (α:=Tc) (i:=p1.toNat) (tot:=5) (ds:=[.string c0.ft,vI c0.fx,z4,A4,B4,.bool c0.fv]) (news:=[.bool (!c0.fv)]) (full:=[.string c0.ft,vI c0.fx,z4,A4,B4,.bool (!c0.fv)]) W7 q0 B6 (fun _=>.hd) k1 u6 rfl rfl rfl rfl rfl rfl (cR c0.ft c0.fx c0.fh j7 c0.fM k7 c0.fI p7 (!c0.fv)) rfl (o1 rfl)) fun X00 ⟨c9,H2,D9,k6⟩=>Aa<|Aw<|Ae<|Ab (AK rfl (H2.memA .t1))<|AX [vI a1.fh,vI a1.fe,vI a1.fj,j0] H2 .t2 (o4 rfl rfl rfl (St.o1 (α:=Tc) H2 .hd)) fun Y00 I2 P5=>Aa<|Ak rfl ?_
 have b2:=Bq I2 .hd
 have E9:=Br I2 .hd
 have q7:=Bs (α:=Tc) (v:=j0) (xs:=q8) b2 L (Ba (α:=Tc) I2 .hd (Ay k6 P5) hL)
 refine Ar hb0 func29 rfl (.cons (.many (cs:=[vI a1.fh,vI a1.fe,vI a1.fj,j0]) rfl rfl (b2.memA .t1)) .nil) rfl ?_
 cases h
 exact ⟨b2.ag,fun p q=>⟨j0,rfl,b2.kd q7 q⟩⟩
 refine Ae<|Ab (BF (i:=(a0.fJ % (7:UInt8)).toNat) (j:=4) rfl rfl)<|Af rfl<|Aa<|AO rfl h (fun U4 h=>?_) (fun U4 h=>?_)
 refine Am<|Ac rfl<|AT 3 rfl<|AL rfl ((q0.memA .t1) 3 _ rfl)<|bk h fun J3 K7 h=>?_
 obtain ⟨J4,F8,z3,Y3,d9,s7,J6⟩:=St.nth (α:=Tc) q0 .hd k1 K7
 obtain ⟨M4,G8,C6⟩:=BL (α:=Tc) q0 .hd Y3
 obtain rfl:J4 = ⟨M4,0,none⟩:=by rw [C6] at z3; cases z3; rfl
 obtain ⟨A00,B00,C00,rfl,t00,u00,v00⟩:=bm s7
 refine Ab (Bi 6 0 rfl z3 rfl rfl Y3)<|AT 0 rfl<|AL rfl (J6 0 _ rfl)<|Ab (BW rfl)<|AT 0 rfl ?_
 obtain ⟨H8,D6,X9,g9,t7,j00,v6⟩:=St.nthAt (α:=Tc) q0 .hd k1 I0 H0
 obtain ⟨C4,D4,E4,rfl,u7,v7,x7⟩:=bm t7
 refine bk h fun s8 X7 h=>RG.acts' .plain (Acts.setPart (α:=Tc) (i:=p1.toNat) (tot:=0) (ds:=[.string c0.ft,vI c0.fx,C4,D4,E4,.bool c0.fv]) (news:=[.string J3.ft]) (full:=[.string J3.ft,vI c0.fx,C4,D4,E4,.bool c0.fv]) X7 q0 D6 (fun _=>.hd) k1 v6 rfl rfl rfl rfl rfl rfl (cR J3.ft c0.fx c0.fh u7 c0.fM v7 c0.fI x7 c0.fv) rfl (o1 rfl)) fun Z00 ⟨j9,J2,F9,p6⟩=>Aa<|Aw<|Ae<|Ab (AK rfl (J2.memA .t1))<|AX [vI a1.fh,vI a1.fe,vI a1.fj,j0] J2 .t2 (o4 rfl rfl rfl (St.o1 (α:=Tc) J2 .hd)) fun b01 K2 Q5=>Aa<|Ak rfl ?_
 have c2:=Bq K2 .hd
 have G9:=Br K2 .hd
 have y7:=Bs (α:=Tc) (v:=j0) (xs:=s8) c2 L (Ba (α:=Tc) K2 .hd (Ay p6 Q5) hL)
 refine Ar hb0 func29 rfl (.cons (.many (cs:=[vI a1.fh,vI a1.fe,vI a1.fj,j0]) rfl rfl (c2.memA .t1)) .nil) rfl ?_
 cases h
 exact ⟨c2.ag,fun p q=>⟨j0,rfl,c2.kd y7 q⟩⟩
 refine Ae<|Ab (BF (i:=(a0.fJ % (7:UInt8)).toNat) (j:=5) rfl rfl)<|Af rfl<|Aa<|AO rfl h (fun V4 h=>?_) (fun V4 h=>?_)
 refine Am<|AT 2 rfl<|AL rfl ((q0.memA .t4) 2 _ rfl)<|AT 2 rfl<|RG.now .plain (BM (j:=2) (old:=[vI a1.fh,vI a1.fe,vI a1.fj,j0]) (news:=[vI a0.fN]) (new' :=[vI a1.fh,vI a1.fe,vI a0.fN,j0]) q0 .t1 rfl rfl rfl rfl rfl rfl (o1 rfl) rfl) fun c01 M2 R5=>Aa<|Aw<|Ae<|Ab (AK rfl (M2.memA .t1))<|AX [vI a1.fh,vI a1.fe,vI a0.fN,j0] M2 .t2 (o4 rfl rfl rfl (St.o1 (α:=Tc) M2 .hd)) fun d01 P2 U5=>Aa<|Ak rfl ?_
 have d2:=Bq P2 .hd
 have H9:=Br P2 .hd
 have z7:=Bs (α:=Tc) (v:=j0) (xs:=s1) d2 L (Ba (α:=Tc) P2 .hd (Ay K0 (Tt J0 (Tt R5 U5))) hL)
 refine Ar hb0 func29 rfl (.cons (.many (cs:=[vI a1.fh,vI a1.fe,vI a0.fN,j0]) rfl rfl (d2.memA .t1)) .nil) rfl ?_
 cases h
 exact ⟨d2.ag,fun p q=>⟨j0,rfl,d2.kd z7 q⟩⟩
 refine Am<|Ac rfl<|AT 2 rfl<|AL rfl ((q0.memA .t4) 2 _ rfl)<|Ao .plain rfl (jA a0.fN (vI a0.fN) q0 ay (e1 rfl)) fun g01 u2 g2 V5=>Ab (BW rfl)<|AT 4 rfl ?_
 have Q2:=Bq g2 .hd
 have D3:=Bs (α:=Int) (v:=(vS u2 1)) (xs:=([a0.fN]:List Int)) Q2 L (Ba (α:=Int) g2 .hd (jC a0.fN (vI a0.fN) g2 L rfl) hL)
 have d4:=Ay K0 (Tt J0 (Tt V5 (Br g2 .hd)))
 obtain ⟨I8,E6,Y9,k9,A7,k00,x6⟩:=St.nthAt (α:=Tc) Q2 .hd d4 I0 H0
 obtain ⟨F4,G4,d8,rfl,B7,C7,x00⟩:=bm A7
 refine bk h fun t8 Y7 h=>RG.acts' .plain (Acts.setPart (α:=Tc) (i:=p1.toNat) (tot:=4) (ds:=[.string c0.ft,vI c0.fx,F4,G4,d8,.bool c0.fv]) (news:=[(vS u2 1)]) (full:=[.string c0.ft,vI c0.fx,F4,G4,(vS u2 1),.bool c0.fv]) Y7 Q2 E6 (fun _=>.hd) d4 x6 rfl rfl rfl rfl rfl (Rep.c1 D3) (cR c0.ft c0.fx c0.fh B7 c0.fM C7 ([a0.fN]:List Int) D3 c0.fv) rfl (o1 (AY D3))) fun j01 ⟨p9,R2,I9,q6⟩=>Aa<|Aw<|Ae<|Ab (AK rfl (R2.memA .t1))<|AX [vI a1.fh,vI a1.fe,vI a1.fj,j0] R2 .t2 (o4 rfl rfl rfl (St.o1 (α:=Tc) R2 .hd)) fun k01 U2 W5=>Aa<|Ak rfl ?_
 have j2:=Bq U2 .hd
 have J9:=Br U2 .hd
 have D7:=Bs (α:=Tc) (v:=j0) (xs:=t8) j2 L (Ba (α:=Tc) U2 .hd (Ay q6 W5) hL)
 refine Ar hb0 func29 rfl (.cons (.many (cs:=[vI a1.fh,vI a1.fe,vI a1.fj,j0]) rfl rfl (j2.memA .t1)) .nil) rfl ?_
 cases h
 exact ⟨j2.ag,fun p q=>⟨j0,rfl,j2.kd D7 q⟩⟩
def co_p (_n:Nat) (a0:Tl) (a1:List Int):Option (List Int):=
  (app ([]:List Int) a1).bind fun b0=>(if ((a0.fJ % (4:UInt8)).toNat) = 0 then (bH ((a0.fAt.toNat:Nat):Int) ((b0.length:Nat):Int)).bind fun c0=>(idx b0 c0).bind fun _x37=>(put b0 ((c0.toNat:Nat):Int) a0.fN).bind fun d0=>some d0 else (if ((a0.fJ % (4:UInt8)).toNat) = 1 then (app b0 ([a0.fN]:List Int)).bind fun g0=>some g0 else (if ((a0.fJ % (4:UInt8)).toNat) = 2 then (cut b0 0 (((b0.length:Nat):Int) - 1)).bind fun j0=>some j0 else some b0)))
theorem co_c (n:Nat) {L w} (hL:hl L w) (a0:Tl) {a1:List Int} {v1_0:Value} (h1_0:Rep.R w L [v1_0] a1)  {r:List Int} (h:co_p n a0 a1 = some r) :
 Cl 30 #[.agg #[.int .u8 (a0.fJ.toNat:Int),.int .u8 (a0.fAt.toNat:Int),vI a0.fN],v1_0] w (ae w fun w' u=>∃ v0_0:Value,u = v0_0/\Rep.R w' L [v0_0] r):=by
 unfold co_p at h
 refine AF func30 rfl rfl rfl fun _ cs0 hb0=>Ae<|RG.bx (AC w) rfl rfl fun d2 B1 A0 K1=>Af rfl<|Aa<|Ae<|Af rfl<|Aa<|Ae<|Ac rfl<|Ac rfl ?_
 have p0:=A0.nilRow 3 (Rep.size Int)
 have M1:=BJ A0 3 (Rep.size Int)
 refine bk h fun g0 k1 h=>BR .plain rfl (Bh (α:=Int) (ys:=a1) k1 p0 (fun _ _=>.hd) kf rfl rfl (AB (cs:=[]) (xs:=([]:List Int)) p0 L (AG _ _)) (Src.rep (AM h1_0 p0))) fun k0 g2 ⟨H1,b0,P1,j0⟩=>Af rfl<|Aa<|Ai<|Ae<|AT 0 rfl<|AL rfl ((b0.memA .t1) 0 _ rfl)<|Ab (FV.rem8 (a:=a0.fJ) (b:=(4:UInt8)) rfl rfl (by decide))<|Aa<|Au<|Ae<|Ab (BF (i:=(a0.fJ % (4:UInt8)).toNat) (j:=0) rfl rfl)<|Af rfl<|Aa<|AO rfl h (fun H0 h=>?_) (fun H0 h=>?_)
 refine du 10 fun c0 d0=>Rv 0 c0 rfl d0 (fun _=>Ah rfl)<|Rv 1 c0 rfl d0 (fun _=>Be 1 rfl)<|Rx 2 1608 c0 rfl d0 (AN rfl ((b0.memA .t1) 1 _ rfl)) ?_
 have c2:=a0.fAt.toNat_lt
 refine Rv 3 c0 rfl d0 (fun _=>FV.convN (i:=a0.fAt.toNat) underlying5 underlying3 rfl (by omega))<|Rv 4 c0 rfl d0 (fun _=>Ah rfl) ?_
 have Y1:g0.length <= 4294967296:=St.rowLe (α:=Int) b0 .hd
 obtain ⟨z1,D1,R0⟩:=St.rowV (α:=Int) b0 .hd
 refine Rx 5 1600 c0 rfl d0 (FV.lenV underlying53 rfl R0)<|bk h fun D0 d1 h=>Rv 6 c0 rfl d0 (fun _=>FV.remc (i:=((a0.fAt.toNat:Nat):Int)) (j:=((g0.length:Nat):Int)) rfl rfl d1)<|Rv 7 c0 rfl d0 (fun _=>Be 2 rfl)<|Rx 8 1536 c0 rfl d0 (AN rfl ((b0.memA .t1) 2 _ rfl))<|bk h fun v1 g1 h=>?_
 obtain ⟨W0,j1⟩:=aG g1
 obtain ⟨F0,E1,z0,C0,K0,X0,b2⟩:=St.nth (α:=Int) b0 .hd j0 j1
 obtain ⟨G0,F1,B0⟩:=BL (α:=Int) b0 .hd C0
 obtain rfl:F0 = ⟨G0,0,none⟩:=by rw [B0] at z0; cases z0; rfl
 have U0:K0 = [vI v1]:=X0; subst U0
 refine Rv 9 c0 rfl d0 (fun _=>Bi 1 (D0.toNat) rfl z0 rfl W0 C0)<|bk h fun x1 p1 h=>BS (i:=10) (rk c0) (RO.acts (m' :=2047) (sk c0) rfl rfl .plain (Acts.set (α:=Int) (i:=D0.toNat) p1 b0 B0 (fun _=>.hd) j0 rfl rfl rfl rfl rfl rfl) (fun j2 ⟨I1,q0,Q1,P0⟩=>?_))
 refine AR (dk c0)<|Aw<|Ae<|Ac rfl<|Af rfl<|Aa<|Ak rfl ?_
 have s0:=Bq q0 .hd
 have R1:=Br q0 .hd
 have Y0:=Bs (α:=Int) (v:=k0) (xs:=x1) s0 L (Ba (α:=Int) q0 .hd P0 hL)
 refine AQ hb0 func30 rfl rfl ?_
 cases h
 exact ⟨s0.ag,fun p q=>⟨k0,rfl,s0.kd Y0 q⟩⟩
 refine Ae<|Ab (BF (i:=(a0.fJ % (4:UInt8)).toNat) (j:=1) rfl rfl)<|Af rfl<|Aa<|AO rfl h (fun I0 h=>?_) (fun I0 h=>?_)
 refine Am<|Ac rfl<|AT 2 rfl<|AL rfl ((b0.memA .t1) 2 _ rfl)<|Ao .plain rfl (jA a0.fN (vI a0.fN) b0 kf (e1 rfl)) fun k2 C1 t0 M0=>bk h fun y1 q1 h=>BR .plain rfl (Bh (α:=Int) (ys:=([a0.fN]:List Int)) q1 t0 (fun _ _=>.t1) kf rfl rfl (Ay j0 M0) (BN (α:=Int) t0 .hd (jC a0.fN (vI a0.fN) t0 L rfl))) fun E0 p2 ⟨J1,u0,U1,Q0⟩=>Af rfl<|Aa<|Aw<|Ae<|Ac rfl<|Af rfl<|Aa<|Ak rfl ?_
 have v0:=Bq u0 .t1
 have V1:=Br u0 .t1
 have Z0:=Bs (α:=Int) (v:=E0) (xs:=y1) v0 L (Ba (α:=Int) u0 .t1 Q0 hL)
 refine AQ hb0 func30 rfl rfl ?_
 cases h
 exact ⟨v0.ag,fun p q=>⟨E0,rfl,v0.kd Z0 q⟩⟩
 refine Ae<|Ab (BF (i:=(a0.fJ % (4:UInt8)).toNat) (j:=2) rfl rfl)<|Af rfl<|Aa<|AO rfl h (fun J0 h=>?_) (fun J0 h=>?_)
 refine Am<|Ac rfl<|Ac rfl ?_
 have Z1:g0.length <= 4294967296:=St.rowLe (α:=Int) b0 .hd
 obtain ⟨A1,G1,V0⟩:=St.rowV (α:=Int) b0 .hd
 refine Ab (FV.lenV underlying53 rfl V0)<|Ab (FV.subI (i:=((g0.length:Nat):Int)) (j:=1) rfl rfl (by omega)) ?_
 have x0:=Bq b0 .hd
 have W1:=Br b0 .hd
 refine bk h fun q2 s1 h=>RG.valE .plain rfl (FV.cutL (α:=Int) s1 rfl rfl (Bs (α:=Int) (v:=k0) (xs:=g0) x0 L (Ba (α:=Int) b0 .hd j0 hL)) rfl ⟨_,rfl⟩) fun u1 b1=>Af rfl<|Aa<|Aw<|Ae<|Ac rfl<|Af rfl<|Aa<|Ak rfl<|AQ hb0 func30 rfl rfl ?_
 cases h
 exact ⟨x0.ag,fun p q=>⟨u1,rfl,x0.kd b1 q⟩⟩
 refine Ap<|Aw<|Ae<|Ac rfl<|Af rfl<|Aa<|Ak rfl ?_
 have y0:=Bq b0 .hd
 have X1:=Br b0 .hd
 have c1:=Bs (α:=Int) (v:=k0) (xs:=g0) y0 L (Ba (α:=Int) b0 .hd j0 hL)
 refine AQ hb0 func30 rfl rfl ?_
 cases h
 exact ⟨y0.ag,fun p q=>⟨k0,rfl,y0.kd c1 q⟩⟩
def bG_l1 (_n:Nat) (a0:ByteArray) (c0:Int -> Option (Bool ⊕ Unit)):Int -> Option (Bool ⊕ Unit)
  | b0=>(if b0 < ((a0.size:Nat):Int) then (fV a0 b0).bind fun g0=>(if g0.toNat < 32 then some (.inl false) else (fV a0 b0).bind fun j0=>(if 126 < j0.toNat then some (.inl false) else (chk (b0 + 1)).bind fun d0=>c0 d0)) else some (.inr ()))
def bG_p (n:Nat) (a0:ByteArray):Option Bool:=
  thn (ah (bG_l1 n a0) n 0) (fun _=>(if 1 <= a0.size then some (decide (a0.size <= 24)) else some false))
theorem bG_c (n:Nat) {L w} (_hL:hl L w) {a0:ByteArray}  {r:Bool} (h:bG_p n a0 = some r) :
 Cl 43 #[.string a0] w (ae w fun _ u=>u = .bool r):=by
 unfold bG_p at h
 refine AF func43 rfl rfl rfl fun _ cs0 hb0=>Ae<|Af rfl<|Aa<|Ai<|Ae<|Af rfl<|Aa<|Au<|tn h fun G0 v0 d0=>BT (α:=Int) (fun b0=>[(0,.string a0),(3,vI b0)]) (fun b0=>[]) (fun b0=>b0) 0 v0 (AC w) ?_
 rintro F0 b0 H0 q0 c0 s0 h
 unfold bG_l1 at h
 try dsimp only at h
 refine Ai<|Ae<|Ac rfl<|Ac rfl<|Ab (Bx underlying9 rfl)<|Ab (BO (i:=b0) (j:=((a0.size:Nat):Int)) rfl rfl)<|Aa<|AO rfl h (fun g0 h=>?_) (fun g0 h=>?_)
 refine Ap<|Ai<|Au<|Ae<|Ac rfl<|Ac rfl<|bk h fun D0 A0 h=>?_
 obtain ⟨t0,y0⟩:=bX A0
 refine Ab (FV.strAt (k:=b0.toNat) underlying9 rfl rfl t0 y0)<|Ab (Bj (i:=D0.toNat) (j:=32) rfl rfl)<|Ac rfl<|Bv (s:=14) rfl h (fun j0 h=>?_) (fun j0 h=>?_)
 refine Al<|Al<|Al<|Al<|Bl rfl rfl<|Aa<|AZ rfl<|Ae<|Af rfl<|Aa ?_
 have h:=ap h d0
 refine Ak rfl<|AQ hb0 func43 rfl rfl ?_
 cases h
 exact c0.gv
 refine Az (Ah rfl)<|Az (Ah rfl)<|bk h fun E0 B0 h=>?_
 obtain ⟨u0,z0⟩:=bX B0
 refine Az (FV.strAt (k:=b0.toNat) underlying9 rfl rfl u0 z0)<|Az (FV.gtrN (i:=E0.toNat) (j:=126) rfl rfl)<|Bn rfl rfl<|Aa<|AO rfl h (fun k0 h=>?_) (fun k0 h=>?_)
 refine Ae<|Af rfl<|Aa ?_
 have h:=ap h d0
 refine Ak rfl<|AQ hb0 func43 rfl rfl ?_
 cases h
 exact c0.gv
 refine Ap<|Aw<|Am<|Ac rfl<|bk h fun C0 x0 h=>Ab (BE (i:=b0) (j:=1) rfl rfl x0)<|Af rfl<|Aa<|q0 C0 c0 s0 h
 refine AV rfl ?_
 have h:=aA h d0
 try dsimp only at h
 refine Ae<|Ac rfl<|Ab (Bx underlying9 rfl)<|Ab (FV.geqN (i:=a0.size) (j:=1) rfl rfl)<|Ac rfl<|Bv (s:=23) rfl h (fun p0 h=>?_) (fun p0 h=>?_)
 refine Az (Ah rfl)<|Az (Bx underlying9 rfl)<|Az (FV.leqN (i:=a0.size) (j:=24) rfl rfl)<|Bl rfl rfl<|Af rfl<|Aa<|Ak rfl<|AQ hb0 func43 rfl rfl ?_
 cases h
 exact c0.gv
 refine Al<|Al<|Al<|Bn rfl rfl<|Af rfl<|Aa<|Ak rfl<|AQ hb0 func43 rfl rfl ?_
 cases h
 exact c0.gv
def bM_p (_n:Nat) (a0:UInt64) (a1:Int):Option Bool:=
  (aT a1).bind fun k1=>some (decide (((shrU a0 k1) % (2:UInt64)) = (1:UInt64)))
theorem bM_c (n:Nat) {L w} (_hL:hl L w) (a0:UInt64) {a1:Int}  {r:Bool} (h:bM_p n a0 a1 = some r) :
 Cl 44 #[vU a0,vI a1] w (ae w fun _ u=>u = .bool r):=by
 unfold bM_p at h
 have hS0:=AC w
 refine AF func44 rfl rfl rfl fun _ cs0 hb0=>Ae<|Af rfl<|Aa<|Ae<|Ac rfl<|Ac rfl<|bk h fun k1 hk1 h=>Ab (FV.shrI (a:=a0) (i:=a1) rfl rfl hk1)<|Ab (FV.remU (a:=shrU a0 k1) (b:=(2:UInt64)) rfl rfl (by decide))<|Ab (FV.eqlU (a:=(shrU a0 k1) % (2:UInt64)) (b:=(1:UInt64)) rfl rfl)<|Af rfl<|Aa<|Ak rfl<|AQ hb0 func44 rfl rfl ?_
 cases h
 exact hS0.gv
end Go.Proofs.YtfccehcnajelgaaGreatDoor
