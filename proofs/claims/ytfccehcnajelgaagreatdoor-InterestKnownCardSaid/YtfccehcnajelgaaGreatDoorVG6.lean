import Derived.Test.YtfccehcnajelgaaGreatDoorVG4
namespace Go.Proofs.YtfccehcnajelgaaGreatDoor
open Go Go.RowKit Tryz
set_option maxRecDepth 4000
set_option maxHeartbeats 4000000

def az_l1 (n:Nat) (a0:List Ta) (a1:Tg) (a2:List Int) (a3:Int) (d0:Nat × (List Bool) -> Option (List Bool)):Nat × (List Bool) -> Option (List Bool)
  | (b0,c0)=>(if b0 < a0.length then (a0[b0]?).bind fun g0=>(bt_p n (⟨a1,a2,a3⟩:Th) g0).bind fun k0=>(app c0 ([k0]:List Bool)).bind fun j0=>d0 (b0 + 1,j0) else some c0)
def az_p (n:Nat) (a0:List Ta) (a1:Tg) (a2:List Int) (a3:Int):Option ((List Bool) × Int):=
  (bj_p n a1 a2 a3).bind fun k0=>(aj_p n k0).bind fun p0=>exc p0 (fun _y64=>(aa_p n ((a2.length:Nat):Int) a0).bind fun g0=>(aj_p n g0).bind fun j0=>exc j0 (fun _y1303=>Option.bind (au (az_l1 n a0 a1 a2 a3) n (0,([]:List Bool))) (fun d0=>some (d0,(0:Int)))) (fun b0=>some (([]:List Bool),b0.ft))) (fun c0=>some (([]:List Bool),c0.ft))
theorem az_c (n:Nat) {L w} (hL:hl L w) {a0:List Ta} {v0_0:Value} (h0_0:Rep.R w L [v0_0] a0) (a1:Tg) {v1_3:Value} (h1_3:Rep.R w L [v1_3] a1.fm) {a2:List Int} {v2_0:Value} (h2_0:Rep.R w L [v2_0] a2) {a3:Int} (hG0:Glob 0 tab0 w)  {r:(List Bool) × Int} (h:az_p n a0 a1 a2 a3 = some r) :
 Cl 25 #[v0_0,.agg #[vI a1.fl,vI a1.fh,vI a1.fj,v1_3],v2_0,vI a3] w (ac w fun w' u=>∃ v0_0:Value,u = .tuple #[v0_0,vI r.2]/\Rep.R w' L [v0_0] r.1):=by
 unfold az_p at h
 refine AF func25 rfl rfl rfl fun _ cs0 hb0=>Ac<|RG.bx (AB w) rfl rfl fun J4 I0 R0 Z3=>Ah rfl<|Ah rfl<|Aa<|Ac<|Ae rfl<|Ab (AH rfl (R0.memA .hd))<|Ae rfl<|Ae rfl<|Bq (fst:=[]) (cap:=[]) (vs:=[v0_0,.agg #[vI a1.fl,vI a1.fh,vI a1.fj,v1_3],v2_0,vI a3,.func (.func 70) #[] #[]]) .plain (bd 69) func69 rfl rfl rfl rfl (e5 rfl rfl rfl rfl rfl) rfl fun R3 Z0 G4=>Ac<|RG.bx R0 rfl (Rep.c1 (AK h0_0 R0)) fun R4 A0 Q1 g4=>RG.bx Q1 rfl rfl fun U4 u0 v1 q4=>RG.bx v1 rfl (Rep.c1 (AK h2_0 v1)) fun d5 v0 b2 u4=>RG.bx b2 rfl rfl fun g5 x0 c2 v4=>RG.bx c2 rfl rfl fun j5 y0 g2 x4=>?_
 refine Ah rfl<|Ah rfl<|Aa<|Ac<|Ab (FV.makeFunc (vs:=[]) (us:=[vP u0,vP v0,vP x0,vP A0,vP y0]) ah (e5 rfl rfl rfl rfl rfl))<|Bq (fst:=[]) (cap:=[]) (vs:=[.func (.func 109) #[] #[vP u0,vP v0,vP x0,vP A0,vP y0]]) .plain (bd 108) func108 rfl rfl rfl rfl (e1 rfl) rfl fun V3 b1 H4=>Ac<|RG.nl [vN] g2 fun k5 p0 j2 y4=>RG.nl [vI 0] j2 fun p5 g0 b0 z4=>Aa<|Ac<|Ab (FV.makeFunc (vs:=[]) (us:=[vP p0,vP g0]) ah (e2 rfl rfl))<|RG.defer (fst:=[]) (cap:=[vP p0,vP g0]) (vs:=[]) rfl .plain rfl ah<|Aa<|Ac<|Ae rfl<|Bq (fst:=[]) (cap:=[vP u0,vP v0,vP x0,vP A0,vP y0]) (vs:=[]) .plain (bd 109) func109 rfl rfl rfl rfl ah rfl fun W3 G2 C1=>Ac<|Ah rfl<|Aa<|Ac<|Ab (AH rfl (b0.memA .t5))<|AS rfl ((b0.memA .t4) 0 _ rfl)<|AS rfl ((b0.memA .t3) 0 _ rfl)<|bk h fun z3 q3 h=>AY (vI z3) (bd 95) rfl (e3 rfl rfl rfl) (fun p q=>bj_c n (b0.hL0 hL q) a1 (b0.k0 h1_3 q) (b0.k0 h2_0 q) q3) rfl<|xk h (fun D0 j1 h=>?_) (fun z5 j1 h=>?_)
 refine Bv (fst:=[]) (cap:=[]) .plain (bd 94) rfl (e1 rfl) (fun p q=>aj_c n (b0.hL0 hL q)  j1) fun q5 F2=>?_
 obtain ⟨k2,A4⟩:=b0.agr F2
 refine Bk C1 func109<|PN.callD (vs:=[]) (cap:=[vP p0,vP g0]) (bd 148) func148 rfl rfl rfl fun Q3 J2 U2=>Ac<|RG.recover1 .plain J2 rfl<|Ah rfl<|Aa<|Ac<|Ae rfl<|Ab (FV.neqI underlying20 rfl rfl)<|Aa<|Bb rfl<|Ac<|Ae rfl<|Ab (FV.assertT rfl rfl)<|Ae rfl<|Ab (Ag rfl rfl)<|Ab (Ag rfl rfl)<|RG.nl [vI 0] k2 fun s5 H3 p2 B4=>AR [vI D0.ft] p2 .hd (o1 rfl) fun u5 P0 C4=>Ah rfl<|Aa<|Aj<|Ac<|Ae rfl<|Ab (BC rfl)<|Aa<|Bj rfl<|Aq<|Ac<|Ah rfl<|Aa<|du 3 fun s0 p1=>Rv 0 s0 rfl p1 (fun _=>Ai rfl)<|Rv 1 s0 rfl p1 (fun _=>Bn 0 rfl)<|RD.mo (α:=Unit) (fun ()=>[(1,vP g0),(19,vI D0.ft)]) (fun ()=>[.cells g0 [vI 0] 35,.cells p0 [vN] 72,.cells y0 [.func (.func 70) #[] #[]] 138,.cells x0 [vI a3] 3,.cells v0 [v2_0] 53,.cells u0 [vI a1.fl,vI a1.fh,vI a1.fj,v1_3] 58,.cells A0 [v0_0] 30,.cells I0 [vI a1.fl,vI a1.fh,vI a1.fj,v1_3] 58]) P0 1 15 ?_ ?_
 rintro ⟨⟩ v5 I1 X3
 try dsimp only
 refine BB 4 31 s0 rfl rfl .plain (Az (news:=[vI D0.ft]) I1 .hd rfl rfl rfl rfl rfl rfl (o1 rfl)) fun K4 E0 Y3=>AI (dk s0)<|MX.fin rfl<|RT.leaveD1 U2 func148 rfl .nil<|Au (u:=.tuple #[vN,vI D0.ft]) b1 func108 rfl (.cons (.one rfl rfl ((E0.memA .t1) 0 _ rfl)) (.cons (.one rfl rfl ((E0.memA .hd) 0 _ rfl)) .nil)) rfl<|Ab (Ag rfl rfl)<|Ab (Ag rfl rfl)<|Ah rfl<|Ah rfl<|Aa<|Ao rfl<|Au (u:=.tuple #[vN,vI D0.ft]) Z0 func69 rfl (.cons (.tmp rfl) (.cons (.tmp rfl) .nil)) rfl<|Ab (Ag rfl rfl)<|Ab (Ag rfl rfl)<|Ah rfl<|Ah rfl<|Aa<|Ao rfl ?_
 have X2:=BA (α:=Bool) E0 L
 refine Au hb0 func25 rfl (.cons (.tmp rfl) (.cons (.tmp rfl) .nil)) rfl ?_
 cases h
 exact ⟨E0.ag,fun p q=>⟨vN,rfl,E0.kd X2 q⟩⟩
 intro q1
 refine RD.each [2,3] (rk s0) ⟨?_,?_,trivial⟩
 refine RO.val (m' :=7) (sk s0) rfl .plain rfl (AW rfl ((P0.memA .hd) 0 _ rfl))<|BB 3 15 s0 rfl rfl .plain (Az (news:=[vN]) P0 .t2 rfl rfl rfl rfl rfl rfl (o1 rfl)) fun v3 M0 Y0=>?_
 obtain ⟨J1,q2⟩:=AQ M0 .d1
 exact q1 () J1 (Tt Y0 q2)
 refine RO.now (m' :=11) (sk s0) rfl rfl .plain (Az (news:=[vN]) P0 .t2 rfl rfl rfl rfl rfl rfl (o1 rfl)) fun v3 M0 Y0=>Rx 2 16 s0 rfl p1 (AW rfl ((M0.memA .hd) 0 _ rfl)) ?_
 obtain ⟨K1,s2⟩:=AQ M0 .d1
 exact q1 () K1 (Tt Y0 s2)
 refine AY (.tuple #[]) (bd 94) rfl (e1 rfl) (fun p q=>Be (aj_c n (b0.hL0 hL q)  j1)) rfl<|Aa<|Ac<|AS rfl ((b0.memA .t4) 0 _ rfl) ?_
 have A1:=AK h2_0 b0
 have E4:a2.length <= 281474976710656:=AZ A1
 refine Ab (Bd (xs:=a2) underlying53 rfl A1)<|AS rfl ((b0.memA .t6) 0 _ rfl)<|bk h fun y3 k3 h=>AY (vI y3) (bd 13) rfl (e2 rfl rfl) (fun p q=>aa_c n (b0.hL0 hL q) (b0.k0 h0_0 q) k3) rfl<|xk h (fun C0 g1 h=>?_) (fun y5 g1 h=>?_)
 refine Bv (fst:=[]) (cap:=[]) .plain (bd 94) rfl (e1 rfl) (fun p q=>aj_c n (b0.hL0 hL q)  g1) fun M4 E2=>?_
 obtain ⟨M1,b4⟩:=b0.agr E2
 refine Bk C1 func109<|PN.callD (vs:=[]) (cap:=[vP p0,vP g0]) (bd 148) func148 rfl rfl rfl fun I3 H2 P2=>Ac<|RG.recover1 .plain H2 rfl<|Ah rfl<|Aa<|Ac<|Ae rfl<|Ab (FV.neqI underlying20 rfl rfl)<|Aa<|Bb rfl<|Ac<|Ae rfl<|Ab (FV.assertT rfl rfl)<|Ae rfl<|Ab (Ag rfl rfl)<|Ab (Ag rfl rfl)<|RG.nl [vI 0] M1 fun P4 E3 P1 c4=>AR [vI C0.ft] P1 .hd (o1 rfl) fun Q4 J0 d4=>Ah rfl<|Aa<|Aj<|Ac<|Ae rfl<|Ab (BC rfl)<|Aa<|Bj rfl<|Aq<|Ac<|Ah rfl<|Aa<|du 3 fun q0 k1=>Rv 0 q0 rfl k1 (fun _=>Ai rfl)<|Rv 1 q0 rfl k1 (fun _=>Bn 0 rfl)<|RD.mo (α:=Unit) (fun ()=>[(1,vP g0),(19,vI C0.ft)]) (fun ()=>[.cells g0 [vI 0] 35,.cells p0 [vN] 72,.cells y0 [.func (.func 70) #[] #[]] 138,.cells x0 [vI a3] 3,.cells v0 [v2_0] 53,.cells u0 [vI a1.fl,vI a1.fh,vI a1.fj,v1_3] 58,.cells A0 [v0_0] 30,.cells I0 [vI a1.fl,vI a1.fh,vI a1.fj,v1_3] 58]) J0 1 15 ?_ ?_
 rintro ⟨⟩ x5 R1 j4
 try dsimp only
 refine BB 4 31 q0 rfl rfl .plain (Az (news:=[vI C0.ft]) R1 .hd rfl rfl rfl rfl rfl rfl (o1 rfl)) fun V4 F0 k4=>AI (dk q0)<|MX.fin rfl<|RT.leaveD1 P2 func148 rfl .nil<|Au (u:=.tuple #[vN,vI C0.ft]) b1 func108 rfl (.cons (.one rfl rfl ((F0.memA .t1) 0 _ rfl)) (.cons (.one rfl rfl ((F0.memA .hd) 0 _ rfl)) .nil)) rfl<|Ab (Ag rfl rfl)<|Ab (Ag rfl rfl)<|Ah rfl<|Ah rfl<|Aa<|Ao rfl<|Au (u:=.tuple #[vN,vI C0.ft]) Z0 func69 rfl (.cons (.tmp rfl) (.cons (.tmp rfl) .nil)) rfl<|Ab (Ag rfl rfl)<|Ab (Ag rfl rfl)<|Ah rfl<|Ah rfl<|Aa<|Ao rfl ?_
 have Y2:=BA (α:=Bool) F0 L
 refine Au hb0 func25 rfl (.cons (.tmp rfl) (.cons (.tmp rfl) .nil)) rfl ?_
 cases h
 exact ⟨F0.ag,fun p q=>⟨vN,rfl,F0.kd Y2 q⟩⟩
 intro s1
 refine RD.each [2,3] (rk q0) ⟨?_,?_,trivial⟩
 refine RO.val (m' :=7) (sk q0) rfl .plain rfl (AW rfl ((J0.memA .hd) 0 _ rfl))<|BB 3 15 q0 rfl rfl .plain (Az (news:=[vN]) J0 .t2 rfl rfl rfl rfl rfl rfl (o1 rfl)) fun u3 K0 X0=>?_
 obtain ⟨U1,u2⟩:=AQ K0 .d1
 exact s1 () U1 (Tt X0 u2)
 refine RO.now (m' :=11) (sk q0) rfl rfl .plain (Az (news:=[vN]) J0 .t2 rfl rfl rfl rfl rfl rfl (o1 rfl)) fun u3 K0 X0=>Rx 2 16 q0 rfl k1 (AW rfl ((K0.memA .hd) 0 _ rfl)) ?_
 obtain ⟨V1,v2⟩:=AQ K0 .d1
 exact s1 () V1 (Tt X0 v2)
 refine AY (.tuple #[]) (bd 94) rfl (e1 rfl) (fun p q=>Be (aj_c n (b0.hL0 hL q)  g1)) rfl<|Aa<|Aj<|Ac<|AS rfl ((b0.memA .t6) 0 _ rfl) ?_
 have B1:=AK h0_0 b0
 have F4:a0.length <= 281474976710656:=AZ B1
 refine Ab (Bd (xs:=a0) underlying30 rfl B1)<|Ae rfl<|Aa<|Av ?_
 have U0:=b0.nilRow 4 (Rep.size Bool)
 have p4:=St.nilRowT b0 4 (Rep.size Bool)
 have u1:=U0.nilRow 4 (Rep.size Bool)
 have D4:=AG (cs:=[]) (xs:=([]:List Bool)) u1 L (AJ _ _)
 obtain ⟨I4,W2,M2⟩:=ar h
 refine MX.lf (α:=Nat × (List Bool) × Value × (List Value)) (fun ⟨j0,t0,c0,B0⟩=>[(0,vP u0),(1,vP v0),(2,vP x0),(4,vP y0),(5,c0),(18,v0_0),(19,vI ((a0.length:Nat):Int)),(20,vI ((j0:Nat):Int))]) (fun ⟨j0,t0,c0,B0⟩=>[rr w 4 Bool vN (([]:List Bool).length) [],rr w 4 Bool c0 t0.length B0,.cells g0 [vI 0] 35,.cells p0 [vN] 72,.cells y0 [.func (.func 70) #[] #[]] 138,.cells x0 [vI a3] 3,.cells v0 [v2_0] 53,.cells u0 [vI a1.fl,vI a1.fh,vI a1.fj,v1_3] 58,.cells A0 [v0_0] 30,.cells I0 [vI a1.fl,vI a1.fh,vI a1.fj,v1_3] 58]) (fun ⟨j0,t0,c0,B0⟩ E1=>Cells E1 (bl [rr w 4 Bool vN (([]:List Bool).length) [],rr w 4 Bool c0 t0.length B0,.cells g0 [vI 0] 35,.cells p0 [vN] 72,.cells y0 [.func (.func 70) #[] #[]] 138,.cells x0 [vI a3] 3,.cells v0 [v2_0] 53,.cells u0 [vI a1.fl,vI a1.fh,vI a1.fj,v1_3] 58,.cells A0 [v0_0] 30,.cells I0 [vI a1.fl,vI a1.fh,vI a1.fj,v1_3] 58] ++ L) B0 t0) (fun ⟨j0,t0,c0,B0⟩=>(j0,t0)) (0,([]:List Bool),vN,[]) W2 u1 (AX (AG (cs:=[]) (xs:=([]:List Bool)) U0 L (AJ _ _)) (St.nilRowT U0 4 (Rep.size Bool))) ?_
 rintro D3 ⟨j0,t0,c0,B0⟩ E1 H1 G0 x2 y1 h
 unfold az_l1 at h
 try dsimp only at h
 refine Ac<|Ab (Bc (i:=j0) (j:=a0.length) rfl rfl)<|Aa<|Aj<|AV rfl h (fun F1 h=>?_) (fun F1 h=>?_)
 refine Aq<|Aj<|Av<|Ac<|bk h fun Q0 g3 h=>?_
 obtain ⟨A3,J3,K2,Q2,U3,Z2,V2⟩:=Br (AK h0_0 G0) g3
 obtain rfl:=cw Z2
 refine Ab (Bt 3 j0 rfl K2 rfl rfl Q2)<|Ab (AH rfl V2)<|RG.nl [.string ⟨#[]⟩,vI 0,vW 0] G0 fun W4 F3 W1 y2=>AR [.string Q0.fp,vI Q0.fu,vU Q0.fm] W1 .hd (aj rfl) fun X4 d0 z2=>Aa<|Ar<|Ae rfl<|AS rfl ((d0.memA .t5) 0 _ rfl)<|Ab (AH rfl (d0.memA .t8))<|AS rfl ((d0.memA .t7) 0 _ rfl)<|AS rfl ((d0.memA .t6) 0 _ rfl) ?_
 obtain ⟨B3,K3,c3,_⟩:=Rep.sl (AK h1_3 d0)
 obtain ⟨C3,M3,d3,_⟩:=Rep.sl (AK h2_0 d0)
 refine Ab (AE (vs:=[.agg #[vI a1.fl,vI a1.fh,vI a1.fj,v1_3],v2_0,vI a3]) (u:=.agg #[vI a1.fl,vI a1.fh,vI a1.fj,v1_3,v2_0,vI a3]) (e3 rfl rfl rfl) (fun p=>by rw [c3,d3]; try kernel_rfl))<|Ab (AH rfl (d0.memA .hd))<|bk h fun z0 p3 h=>AY (.bool z0) (bd 70) rfl (e2 rfl rfl) (fun p q=>bt_c n (d0.hL0 hL q) (⟨a1,a2,a3⟩:Th) (d0.k0 h1_3 q) (d0.k0 h2_0 q) Q0 (hG0.keep (d0.ag.trans q)) p3) rfl<|Al .plain rfl (jA z0 (.bool z0) d0 dF (e1 rfl)) fun Y4 G3 V0 A2=>bk h fun x3 j3 h=>?_
 have D1:=Tt y2 (Tt z2 A2)
 refine RG.doesL .plain rfl (DoesL.app (α:=Bool) (ys:=([z0]:List Bool)) j3 V0 (fun _ _=>.t3) dF rfl rfl (AX y1 D1) (Src.row (α:=Bool) V0 .hd (jC z0 (.bool z0) V0 L rfl))) fun s3 Z4 ⟨G1,X1,B2,I2⟩=>Ah rfl<|Aa<|Aw<|Ar<|Ab (Bo (i:=j0) (j:=1) rfl rfl (by omega))<|Ae rfl<|Aa ?_
 obtain ⟨Y1,x1⟩:=AQ X1 .d2
 exact H1 (j0 + 1,x3,s3,G1) Y1 (Tt x2 (Tt D1 (Tt B2 x1))) (AX I2 x1) h
 refine Ba rfl ?_
 have h:=M2 _ h
 try dsimp only at h
 refine Ac<|Ae rfl<|Ah rfl<|Aa<|Ao rfl<|Au (u:=c0) G2 func109 rfl (.cons (.tmp rfl) .nil) rfl<|RG.now .plain (Az (news:=[c0]) G0 .t3 rfl rfl rfl (St.c1 (α:=Bool) G0 .t1) rfl rfl (o1 (St.o1 (α:=Bool) G0 .t1))) fun b5 Z1 C2=>AR [vI 0] Z1 .t2 (o1 rfl) fun c5 H0 D2=>Aa<|Ao rfl<|RT.callD (vs:=[]) (cap:=[vP p0,vP g0]) (bd 148) func148 rfl rfl rfl fun P3 z1 R2=>Ac<|RG.recover0 .plain z1 rfl<|Ah rfl<|Aa<|Ac<|Ae rfl<|Ab (FV.neqI0 underlying20 rfl rfl)<|Aa<|Bj rfl<|Aq<|MX.fin rfl<|RT.leaveD0 z1 R2 func148 rfl .nil<|Au (u:=.tuple #[c0,vI 0]) b1 func108 rfl (.cons (.one rfl rfl ((H0.memA .t3) 0 _ rfl)) (.cons (.one rfl rfl ((H0.memA .t2) 0 _ rfl)) .nil)) rfl<|Ab (Ag rfl rfl)<|Ab (Ag rfl rfl)<|Ah rfl<|Ah rfl<|Aa<|Ao rfl<|Au (u:=.tuple #[c0,vI 0]) Z0 func69 rfl (.cons (.tmp rfl) (.cons (.tmp rfl) .nil)) rfl<|Ab (Ag rfl rfl)<|Ab (Ag rfl rfl)<|Ah rfl<|Ah rfl<|Aa<|Ao rfl ?_
 have W0:=Bw H0 .t1
 have s4:=Bx H0 .t1
 have b3:=By (α:=Bool) (v:=c0) (xs:=t0) W0 L (Bh (α:=Bool) H0 .t1 (AX y1 (Tt C2 D2)) hL)
 refine Au hb0 func25 rfl (.cons (.tmp rfl) (.cons (.tmp rfl) .nil)) rfl ?_
 cases h
 exact ⟨W0.ag,fun p q=>⟨c0,rfl,W0.kd b3 q⟩⟩
theorem ex_Tb {a b:Tb} (h0:a.fN.1 = b.fN.1) (h1:a.fN.2.1 = b.fN.2.1) (h2:a.fN.2.2.1 = b.fN.2.2.1) (h3:a.fN.2.2.2.1 = b.fN.2.2.2.1) (h4:a.fN.2.2.2.2.1 = b.fN.2.2.2.2.1) (h5:a.fN.2.2.2.2.2.1 = b.fN.2.2.2.2.2.1) (h6:a.fN.2.2.2.2.2.2.1 = b.fN.2.2.2.2.2.2.1) (h7:a.fN.2.2.2.2.2.2.2 = b.fN.2.2.2.2.2.2.2) (h8:a.fD.1 = b.fD.1) (h9:a.fD.2.1 = b.fD.2.1) (b0:a.fD.2.2.1 = b.fD.2.2.1) (c0:a.fD.2.2.2.1 = b.fD.2.2.2.1) (d0:a.fD.2.2.2.2.1 = b.fD.2.2.2.2.1) (g0:a.fD.2.2.2.2.2.1 = b.fD.2.2.2.2.2.1) (j0:a.fD.2.2.2.2.2.2.1 = b.fD.2.2.2.2.2.2.1) (k0:a.fD.2.2.2.2.2.2.2 = b.fD.2.2.2.2.2.2.2):a = b:=congr (congrArg Tb.mk (ek (a:=a.fN) (b:=b.fN) h0 h1 h2 h3 h4 h5 h6 h7)) (ek (a:=a.fD) (b:=b.fD) h8 h9 b0 c0 d0 g0 j0 k0)
theorem ey (a b:Tb) (p:World):(do eqGuard .eql 42 (.tmp 0) (.tmp 0) (.agg #[vU a.fN.1,vU a.fN.2.1,vU a.fN.2.2.1,vU a.fN.2.2.2.1,vU a.fN.2.2.2.2.1,vU a.fN.2.2.2.2.2.1,vU a.fN.2.2.2.2.2.2.1,vU a.fN.2.2.2.2.2.2.2,vU a.fD.1,vU a.fD.2.1,vU a.fD.2.2.1,vU a.fD.2.2.2.1,vU a.fD.2.2.2.2.1,vU a.fD.2.2.2.2.2.1,vU a.fD.2.2.2.2.2.2.1,vU a.fD.2.2.2.2.2.2.2]) (.agg #[vU b.fN.1,vU b.fN.2.1,vU b.fN.2.2.1,vU b.fN.2.2.2.1,vU b.fN.2.2.2.2.1,vU b.fN.2.2.2.2.2.1,vU b.fN.2.2.2.2.2.2.1,vU b.fN.2.2.2.2.2.2.2,vU b.fD.1,vU b.fD.2.1,vU b.fD.2.2.1,vU b.fD.2.2.2.1,vU b.fD.2.2.2.2.1,vU b.fD.2.2.2.2.2.1,vU b.fD.2.2.2.2.2.2.1,vU b.fD.2.2.2.2.2.2.2]); binOp .eql 42 (.agg #[vU a.fN.1,vU a.fN.2.1,vU a.fN.2.2.1,vU a.fN.2.2.2.1,vU a.fN.2.2.2.2.1,vU a.fN.2.2.2.2.2.1,vU a.fN.2.2.2.2.2.2.1,vU a.fN.2.2.2.2.2.2.2,vU a.fD.1,vU a.fD.2.1,vU a.fD.2.2.1,vU a.fD.2.2.2.1,vU a.fD.2.2.2.2.1,vU a.fD.2.2.2.2.2.1,vU a.fD.2.2.2.2.2.2.1,vU a.fD.2.2.2.2.2.2.2]) (.agg #[vU b.fN.1,vU b.fN.2.1,vU b.fN.2.2.1,vU b.fN.2.2.2.1,vU b.fN.2.2.2.2.1,vU b.fN.2.2.2.2.2.1,vU b.fN.2.2.2.2.2.2.1,vU b.fN.2.2.2.2.2.2.2,vU b.fD.1,vU b.fD.2.1,vU b.fD.2.2.1,vU b.fD.2.2.2.1,vU b.fD.2.2.2.2.1,vU b.fD.2.2.2.2.2.1,vU b.fD.2.2.2.2.2.2.1,vU b.fD.2.2.2.2.2.2.2]):Sem Value).run Tryz.prog p = .ok (.bool (decide (a = b))) p:=
  eqAgg (ks:=[.int .u64,.int .u64,.int .u64,.int .u64,.int .u64,.int .u64,.int .u64,.int .u64,.int .u64,.int .u64,.int .u64,.int .u64,.int .u64,.int .u64,.int .u64,.int .u64]) (xs:=[vU a.fN.1,vU a.fN.2.1,vU a.fN.2.2.1,vU a.fN.2.2.2.1,vU a.fN.2.2.2.2.1,vU a.fN.2.2.2.2.2.1,vU a.fN.2.2.2.2.2.2.1,vU a.fN.2.2.2.2.2.2.2,vU a.fD.1,vU a.fD.2.1,vU a.fD.2.2.1,vU a.fD.2.2.2.1,vU a.fD.2.2.2.2.1,vU a.fD.2.2.2.2.2.1,vU a.fD.2.2.2.2.2.2.1,vU a.fD.2.2.2.2.2.2.2]) (ys:=[vU b.fN.1,vU b.fN.2.1,vU b.fN.2.2.1,vU b.fN.2.2.2.1,vU b.fN.2.2.2.2.1,vU b.fN.2.2.2.2.2.1,vU b.fN.2.2.2.2.2.2.1,vU b.fN.2.2.2.2.2.2.2,vU b.fD.1,vU b.fD.2.1,vU b.fD.2.2.1,vU b.fD.2.2.2.1,vU b.fD.2.2.2.2.1,vU b.fD.2.2.2.2.2.1,vU b.fD.2.2.2.2.2.2.1,vU b.fD.2.2.2.2.2.2.2]) (by kernel_rfl) (by kernel_rfl) (by kernel_rfl) rfl rfl ⟨fun h=>by
    simp only [aU,veq,Bool.and_eq_true,beq_iff_eq,and_true] at h
    obtain ⟨h0,h1,h2,h3,h4,h5,h6,h7,h8,h9,b0,c0,d0,g0,j0,k0⟩:=h
    exact ex_Tb (ap h0) (ap h1) (ap h2) (ap h3) (ap h4) (ap h5) (ap h6) (ap h7) (ap h8) (ap h9) (ap b0) (ap c0) (ap d0) (ap g0) (ap j0) (ap k0),fun h=>by subst h; simp [aU,veq]⟩ _ _ p
def ae_l1 (_n:Nat) (a0:List Tb) (a1:List Tb) (c0:Nat -> Option (Bool ⊕ Unit)):Nat -> Option (Bool ⊕ Unit)
  | b0=>(if b0 < a0.length then (a0[b0]?).bind fun d0=>(a1[b0]?).bind fun g0=>(if d0 = g0 then c0 (b0 + 1) else some (.inl false)) else some (.inr ()))
def ae_p (n:Nat) (a0:List Tb) (a1:List Tb):Option Bool:=
  (if a0.length = a1.length then thn (au (ae_l1 n a0 a1) n 0) (fun _=>some true) else some false)
theorem ae_c (n:Nat) {L w} (_hL:hl L w) {a0:List Tb} {v0_0:Value} (h0_0:Rep.R w L [v0_0] a0) {a1:List Tb} {v1_0:Value} (h1_0:Rep.R w L [v1_0] a1)  {r:Bool} (h:ae_p n a0 a1 = some r) :
 Cl 28 #[v0_0,v1_0] w (ac w fun _ u=>u = .bool r):=by
 unfold ae_p at h
 have hS0:=AB w
 refine AF func28 rfl rfl rfl fun _ cs0 hb0=>Ac<|Ah rfl<|Aa<|Aj<|Ac<|Ae rfl ?_
 have hl1:a0.length <= 281474976710656:=AZ h0_0
 refine Ab (Bd (xs:=a0) underlying60 rfl h0_0)<|Ae rfl ?_
 have hl2:a1.length <= 281474976710656:=AZ h1_0
 refine Ab (Bd (xs:=a1) underlying60 rfl h1_0)<|Ab (FV.neqN (i:=a0.length) (j:=a1.length) rfl rfl)<|Aa<|MX.ifn rfl h (fun c3 h=>?_) (fun c3 h=>?_)
 refine Aq<|Aj<|Ac<|Ae rfl<|Ab (Bd (xs:=a0) underlying60 rfl h0_0)<|Ae rfl<|Aa<|Av<|tn h fun R0 C0 j0=>MX.lo (α:=Nat) (fun b0=>[(0,v0_0),(1,v1_0),(12,vI ((a0.length:Nat):Int)),(13,vI ((b0:Nat):Int))]) (fun b0=>[]) (fun b0=>b0) 0 C0 hS0 ?_
 rintro J0 b0 U0 t0 g0 u0 h
 unfold ae_l1 at h
 try dsimp only at h
 refine Ac<|Ab (Bc (i:=b0) (j:=a0.length) rfl rfl)<|Aa<|Aj<|AV rfl h (fun q0 h=>?_) (fun q0 h=>?_)
 refine Aq<|Aj<|Av<|Ac<|Ae rfl<|Ah rfl<|Aa<|Aj<|du 9 fun c0 d0=>Rv 0 c0 rfl d0 (fun _=>Ai rfl)<|Rv 1 c0 rfl d0 (fun _=>Ai rfl)<|bk h fun k0 F0 h=>?_
 obtain ⟨H0,K0,v0,y0,P0,D0,A0⟩:=Br (AK h0_0 g0) F0
 obtain rfl:=dV D0
 refine Rv 2 c0 rfl d0 (fun _=>Bt 16 b0 rfl v0 rfl rfl y0)<|Rx 3 256 c0 rfl d0 (AH rfl A0)<|Rv 4 c0 rfl d0 (fun _=>Ai rfl)<|Rv 5 c0 rfl d0 (fun _=>Ai rfl)<|bk h fun p0 G0 h=>?_
 obtain ⟨I0,M0,x0,z0,Q0,E0,B0⟩:=Br (AK h1_0 g0) G0
 obtain rfl:=dV E0
 refine Rv 6 c0 rfl d0 (fun _=>Bt 16 b0 rfl x0 rfl rfl z0)<|Rx 7 256 c0 rfl d0 (AH rfl B0)<|Rv 8 c0 rfl d0 (fun _=>FV.neqV (xs:=((aa k0)).toArray) (ys:=((aa p0)).toArray) rfl rfl (by kernel_rfl) (ey k0 p0))<|AI (dk c0)<|MX.ifn rfl h (fun s0 h=>?_) (fun s0 h=>?_)
 refine Aq<|Aw<|Ar<|Ab (Bo (i:=b0) (j:=1) rfl rfl (by omega))<|Ae rfl<|Aa<|t0 (b0 + 1) g0 u0 h
 refine Ac<|Ah rfl<|Aa ?_
 have h:=av h j0
 refine Ao rfl<|AP hb0 func28 rfl rfl ?_
 cases h
 exact g0.gv
 refine Ba rfl ?_
 have h:=aB h j0
 try dsimp only at h
 refine Ac<|Ah rfl<|Aa<|Ao rfl<|AP hb0 func28 rfl rfl ?_
 cases h
 exact g0.gv
 refine Ac<|Ah rfl<|Aa<|Ao rfl<|AP hb0 func28 rfl rfl ?_
 cases h
 exact hS0.gv
def aw_l1 (_n:Nat) (a0:List UInt64) (a1:List UInt64) (b0:Nat -> Option (Bool ⊕ Unit)):Nat -> Option (Bool ⊕ Unit)
  | i32=>(if i32 < a0.length then (a0[i32]?).bind fun c0=>(a1[i32]?).bind fun d0=>(if c0 = d0 then b0 (i32 + 1) else some (.inl false)) else some (.inr ()))
def aw_p (n:Nat) (a0:List UInt64) (a1:List UInt64):Option Bool:=
  (if a0.length = a1.length then thn (au (aw_l1 n a0 a1) n 0) (fun _=>some true) else some false)
theorem aw_c (n:Nat) {L w} (_hL:hl L w) {a0:List UInt64} {v0_0:Value} (h0_0:Rep.R w L [v0_0] a0) {a1:List UInt64} {v1_0:Value} (h1_0:Rep.R w L [v1_0] a1)  {r:Bool} (h:aw_p n a0 a1 = some r) :
 Cl 35 #[v0_0,v1_0] w (ac w fun _ u=>u = .bool r):=by
 unfold aw_p at h
 have hS0:=AB w
 refine AF func35 rfl rfl rfl fun _ cs0 hb0=>Ac<|Ah rfl<|Aa<|Aj<|Ac<|Ae rfl ?_
 have hl1:a0.length <= 281474976710656:=AZ h0_0
 refine Ab (Bd (xs:=a0) underlying75 rfl h0_0)<|Ae rfl ?_
 have hl2:a1.length <= 281474976710656:=AZ h1_0
 refine Ab (Bd (xs:=a1) underlying75 rfl h1_0)<|Ab (FV.neqN (i:=a0.length) (j:=a1.length) rfl rfl)<|Aa<|MX.ifn rfl h (fun c3 h=>?_) (fun c3 h=>?_)
 refine Aq<|Aj<|Ac<|Ae rfl<|Ab (Bd (xs:=a0) underlying75 rfl h0_0)<|Ae rfl<|Aa<|Av<|tn h fun U0 F0 g0=>MX.lo (α:=Nat) (fun i32=>[(0,v0_0),(1,v1_0),(12,vI ((a0.length:Nat):Int)),(13,vI ((i32:Nat):Int))]) (fun i32=>[]) (fun i32=>i32) 0 F0 hS0 ?_
 rintro P0 i32 V0 u0 d0 v0 h
 unfold aw_l1 at h
 try dsimp only at h
 refine Ac<|Ab (Bc (i:=i32) (j:=a0.length) rfl rfl)<|Aa<|Aj<|AV rfl h (fun p0 h=>?_) (fun p0 h=>?_)
 refine Aq<|Aj<|Av<|Ac<|Ae rfl<|Ah rfl<|Aa<|Aj<|du 9 fun b0 c0=>Rv 0 b0 rfl c0 (fun _=>Ai rfl)<|Rv 1 b0 rfl c0 (fun _=>Ai rfl)<|bk h fun j0 I0 h=>?_
 obtain ⟨K0,Q0,x0,B0,s0,G0,D0⟩:=Br (AK h0_0 d0) I0
 have y0:s0 = [vU j0]:=G0; subst y0
 refine Rv 2 b0 rfl c0 (fun _=>Bt 1 i32 rfl x0 rfl rfl B0)<|Rx 3 256 b0 rfl c0 (AW rfl (D0 0 _ rfl))<|Rv 4 b0 rfl c0 (fun _=>Ai rfl)<|Rv 5 b0 rfl c0 (fun _=>Ai rfl)<|bk h fun k0 J0 h=>?_
 obtain ⟨M0,R0,z0,C0,t0,H0,E0⟩:=Br (AK h1_0 d0) J0
 have A0:t0 = [vU k0]:=H0; subst A0
 refine Rv 6 b0 rfl c0 (fun _=>Bt 1 i32 rfl z0 rfl rfl C0)<|Rx 7 256 b0 rfl c0 (AW rfl (E0 0 _ rfl))<|Rv 8 b0 rfl c0 (fun _=>FV.neqU (a:=j0) (b:=k0) rfl rfl)<|AI (dk b0)<|MX.ifn rfl h (fun q0 h=>?_) (fun q0 h=>?_)
 refine Aq<|Aw<|Ar<|Ab (Bo (i:=i32) (j:=1) rfl rfl (by omega))<|Ae rfl<|Aa<|u0 (i32 + 1) d0 v0 h
 refine Ac<|Ah rfl<|Aa ?_
 have h:=av h g0
 refine Ao rfl<|AP hb0 func35 rfl rfl ?_
 cases h
 exact d0.gv
 refine Ba rfl ?_
 have h:=aB h g0
 try dsimp only at h
 refine Ac<|Ah rfl<|Aa<|Ao rfl<|AP hb0 func35 rfl rfl ?_
 cases h
 exact d0.gv
 refine Ac<|Ah rfl<|Aa<|Ao rfl<|AP hb0 func35 rfl rfl ?_
 cases h
 exact hS0.gv
theorem cP:ElT Tryz.prog 56 96 (Rep.size Tc) 104 (.agg #[.string ⟨#[]⟩,vI 0,vN,vN,vN,.bool false]) [.string ⟨#[]⟩,vI 0,vN,vN,vN,.bool false]:=⟨underlying56,by kernel_rfl,rfl,rfl,rfl,rfl⟩
theorem bw:ElT Tryz.prog 30 65 (Rep.size Ta) 32 (.agg #[.string ⟨#[]⟩,vI 0,vW 0]) [.string ⟨#[]⟩,vI 0,vW 0]:=⟨underlying30,by kernel_rfl,rfl,rfl,rfl,rfl⟩
def aS_p (_n:Nat):Option (Tg × (List Ta)):=
  (app ([]:List Tc) ([(⟨⟨#[97]⟩,(10:Int),([]:List Int),([]:List Int),([]:List Int),false⟩:Tc)]:List Tc)).bind fun c0=>(app c0 ([(⟨⟨#[98]⟩,(20:Int),([]:List Int),([]:List Int),([]:List Int),false⟩:Tc)]:List Tc)).bind fun d0=>(app d0 ([(⟨⟨#[99]⟩,(30:Int),([]:List Int),([]:List Int),([]:List Int),false⟩:Tc)]:List Tc)).bind fun g0=>(app g0 ([(⟨⟨#[100]⟩,(40:Int),([]:List Int),([]:List Int),([]:List Int),false⟩:Tc)]:List Tc)).bind fun b0=>some ((⟨(0:Int),(0:Int),(0:Int),b0⟩:Tg),([(⟨⟨#[88]⟩,(3:Int),7⟩:Ta),(⟨⟨#[89]⟩,(1:Int),12⟩:Ta)]:List Ta))
theorem aS_c (n:Nat) {L w} (_hL:hl L w)  {r:Tg × (List Ta)} (h:aS_p n = some r) :
 Cl 38 #[] w (ac w fun w' u=>∃ (v0_3 v1_0:Value) (cs0_3 cs1_0:List Value),u = .tuple #[.agg #[vI r.1.fl,vI r.1.fh,vI r.1.fj,v0_3],v1_0]/\St w w' (aA w.heap.size [(96,Rep.size Tc,v0_3,r.1.fm.length,cs0_3),(65,Rep.size Ta,v1_0,r.2.length,cs1_0)])/\Cells w' (bl (aA w.heap.size [(96,Rep.size Tc,v0_3,r.1.fm.length,cs0_3),(65,Rep.size Ta,v1_0,r.2.length,cs1_0)]) ++ L) cs0_3 (r.1.fm:List Tc)/\Cells w' (bl (aA w.heap.size [(96,Rep.size Tc,v0_3,r.1.fm.length,cs0_3),(65,Rep.size Ta,v1_0,r.2.length,cs1_0)]) ++ L) cs1_0 (r.2:List Ta)):=by
 unfold aS_p at h
 refine AF func38 rfl rfl rfl fun _ cs0 hb0=>Ac<|RG.nl [vI 0,vI 0,vI 0,vN] (AB w) fun q2 H1 U0 W1=>Ah rfl<|Aa<|Ac<|RG.nl [vI 0,vI 0,vI 0,vN] U0 fun x2 I1 q0 X1=>Aa<|Aj<|Ac<|Ab (AE (vs:=[.string ⟨#[97]⟩,.string ⟨#[98]⟩,.string ⟨#[99]⟩,.string ⟨#[100]⟩]) (u:=.agg #[.string ⟨#[97]⟩,.string ⟨#[98]⟩,.string ⟨#[99]⟩,.string ⟨#[100]⟩]) (e4 rfl rfl rfl rfl) (fun p=>by kernel_rfl))<|Ae rfl<|Aa<|Av<|MX.loop1<|Ac<|Ab (Bc (i:=0) (j:=4) rfl rfl)<|Aa<|Aj<|Bb rfl<|Aq<|Aj<|Av<|Ac<|Ae rfl<|Ab (FV.idx1 (cs:=[.string ⟨#[97]⟩,.string ⟨#[98]⟩,.string ⟨#[99]⟩,.string ⟨#[100]⟩]) (k:=0) (m:=1) (len:=4) rfl rfl rfl rfl rfl (by omega) rfl)<|Ah rfl<|Ah rfl<|Aa<|Ar<|Bl 3 rfl<|AS rfl ((q0.memA .hd) 3 _ rfl)<|Ae rfl<|Ae rfl<|Ab (FV.add (i:=0) (j:=1) (r:=1) rfl rfl (by decide))<|Ab (FV.mul (i:=10) (j:=1) (r:=10) rfl rfl (by decide))<|Ab (AE (vs:=[.string ⟨#[97]⟩,vI 10]) (u:=.agg #[.string ⟨#[97]⟩,vI 10,vN,vN,vN,.bool false]) (e2 rfl rfl) (fun p=>by kernel_rfl)) ?_
 have d2:=BA (α:=Int) q0 L
 refine Al .plain rfl (AL (α:=Tc) (xs:=([(⟨⟨#[97]⟩,(10:Int),([]:List Int),([]:List Int),([]:List Int),false⟩:Tc)]:List Tc)) (vs:=[.agg #[.string ⟨#[97]⟩,vI 10,vN,vN,vN,.bool false]]) (ds' :=[.string ⟨#[97]⟩,vI 10,vN,vN,vN,.bool false]) rfl q0 cP rfl (e1 rfl) (by kernel_rfl) rfl) fun y2 J1 c0 Y1=>?_
 have A0:=BA (α:=Int) c0 L
 have s0:=c0.nilRow 96 (Rep.size Tc)
 refine bk h fun J2 E1 h=>RG.doesL .plain rfl (DoesL.app (α:=Tc) (ys:=([(⟨⟨#[97]⟩,(10:Int),([]:List Int),([]:List Int),([]:List Int),false⟩:Tc)]:List Tc)) E1 s0 (fun _ _=>.hd) cP rfl rfl (AG (cs:=[]) (xs:=([]:List Tc)) s0 L (AJ _ _)) (Src.row (α:=Tc) s0 .t1 (AX (AG (cs:=[.string ⟨#[97]⟩,vI 10,vN,vN,vN,.bool false]) (xs:=(([(⟨⟨#[97]⟩,(10:Int),([]:List Int),([]:List Int),([]:List Int),false⟩:Tc)]:List Tc):List Tc)) c0 L (Ak (cs:=[.string ⟨#[97]⟩,vI 10,vN,vN,vN,.bool false]) (ds:=[]) (ba ⟨#[97]⟩ (10:Int) ([]:List Int) A0 ([]:List Int) A0 ([]:List Int) A0 false) (AJ _ _))) (St.nilRowT c0 96 (Rep.size Tc))))) fun E0 z2 ⟨Q1,t0,Z1,A1⟩=>Bl 3 rfl<|RG.now .plain (Acts.store (j:=3) (old:=[vI 0,vI 0,vI 0,vN]) (news:=[E0]) (new' :=[vI 0,vI 0,vI 0,E0]) t0 .t2 rfl rfl rfl (St.c1 (α:=Tc) t0 .hd) rfl rfl (o1 (St.o1 (α:=Tc) t0 .hd)) rfl) fun A2 V0 g1=>Aa<|Aw<|Ar<|Ab (FV.add (i:=0) (j:=1) (r:=1) rfl rfl (by decide))<|Ae rfl<|Aa<|MX.again1 ?_
 obtain ⟨u0,j1⟩:=AQ V0 (.a0 .d1)
 refine Ac<|Ab (Bc (i:=1) (j:=4) rfl rfl)<|Aa<|Aj<|Bb rfl<|Aq<|Aj<|Av<|Ac<|Ae rfl<|Ab (FV.idx1 (cs:=[.string ⟨#[97]⟩,.string ⟨#[98]⟩,.string ⟨#[99]⟩,.string ⟨#[100]⟩]) (k:=1) (m:=1) (len:=4) rfl rfl rfl rfl rfl (by omega) rfl)<|Ah rfl<|Ah rfl<|Aa<|Ar<|Bl 3 rfl<|AS rfl ((u0.memA .t1) 3 _ rfl)<|Ae rfl<|Ae rfl<|Ab (FV.add (i:=1) (j:=1) (r:=2) rfl rfl (by decide))<|Ab (FV.mul (i:=10) (j:=2) (r:=20) rfl rfl (by decide))<|Ab (AE (vs:=[.string ⟨#[98]⟩,vI 20]) (u:=.agg #[.string ⟨#[98]⟩,vI 20,vN,vN,vN,.bool false]) (e2 rfl rfl) (fun p=>by kernel_rfl)) ?_
 have g2:=BA (α:=Int) u0 L
 refine Al .plain rfl (AL (α:=Tc) (xs:=([(⟨⟨#[98]⟩,(20:Int),([]:List Int),([]:List Int),([]:List Int),false⟩:Tc)]:List Tc)) (vs:=[.agg #[.string ⟨#[98]⟩,vI 20,vN,vN,vN,.bool false]]) (ds' :=[.string ⟨#[98]⟩,vI 20,vN,vN,vN,.bool false]) rfl u0 cP rfl (e1 rfl) (by kernel_rfl) rfl) fun B2 K1 d0 k1=>?_
 have B0:=BA (α:=Int) d0 L
 refine bk h fun K2 F1 h=>RG.doesL .plain rfl (DoesL.app (α:=Tc) (ys:=([(⟨⟨#[98]⟩,(20:Int),([]:List Int),([]:List Int),([]:List Int),false⟩:Tc)]:List Tc)) F1 d0 (fun _ _=>.t1) cP rfl rfl (AX A1 (Tt g1 (Tt j1 k1))) (Src.row (α:=Tc) d0 .hd (AG (cs:=[.string ⟨#[98]⟩,vI 20,vN,vN,vN,.bool false]) (xs:=(([(⟨⟨#[98]⟩,(20:Int),([]:List Int),([]:List Int),([]:List Int),false⟩:Tc)]:List Tc):List Tc)) d0 L (Ak (cs:=[.string ⟨#[98]⟩,vI 20,vN,vN,vN,.bool false]) (ds:=[]) (ba ⟨#[98]⟩ (20:Int) ([]:List Int) B0 ([]:List Int) B0 ([]:List Int) B0 false) (AJ _ _))))) fun F0 C2 ⟨R1,v0,b2,B1⟩=>Bl 3 rfl<|RG.now .plain (Acts.store (j:=3) (old:=[vI 0,vI 0,vI 0,E0]) (news:=[F0]) (new' :=[vI 0,vI 0,vI 0,F0]) v0 .t2 rfl rfl rfl (St.c1 (α:=Tc) v0 .t1) rfl rfl (o1 (St.o1 (α:=Tc) v0 .t1)) rfl) fun D2 W0 p1=>Aa<|Aw<|Ar<|Ab (FV.add (i:=1) (j:=1) (r:=2) rfl rfl (by decide))<|Ae rfl<|Aa<|MX.again1 ?_
 obtain ⟨x0,q1⟩:=AQ W0 .d1
 refine Ac<|Ab (Bc (i:=2) (j:=4) rfl rfl)<|Aa<|Aj<|Bb rfl<|Aq<|Aj<|Av<|Ac<|Ae rfl<|Ab (FV.idx1 (cs:=[.string ⟨#[97]⟩,.string ⟨#[98]⟩,.string ⟨#[99]⟩,.string ⟨#[100]⟩]) (k:=2) (m:=1) (len:=4) rfl rfl rfl rfl rfl (by omega) rfl)<|Ah rfl<|Ah rfl<|Aa<|Ar<|Bl 3 rfl<|AS rfl ((x0.memA .t1) 3 _ rfl)<|Ae rfl<|Ae rfl<|Ab (FV.add (i:=2) (j:=1) (r:=3) rfl rfl (by decide))<|Ab (FV.mul (i:=10) (j:=3) (r:=30) rfl rfl (by decide))<|Ab (AE (vs:=[.string ⟨#[99]⟩,vI 30]) (u:=.agg #[.string ⟨#[99]⟩,vI 30,vN,vN,vN,.bool false]) (e2 rfl rfl) (fun p=>by kernel_rfl)) ?_
 have j2:=BA (α:=Int) x0 L
 refine Al .plain rfl (AL (α:=Tc) (xs:=([(⟨⟨#[99]⟩,(30:Int),([]:List Int),([]:List Int),([]:List Int),false⟩:Tc)]:List Tc)) (vs:=[.agg #[.string ⟨#[99]⟩,vI 30,vN,vN,vN,.bool false]]) (ds' :=[.string ⟨#[99]⟩,vI 30,vN,vN,vN,.bool false]) rfl x0 cP rfl (e1 rfl) (by kernel_rfl) rfl) fun E2 M1 g0 s1=>?_
 have C0:=BA (α:=Int) g0 L
 refine bk h fun M2 G1 h=>RG.doesL .plain rfl (DoesL.app (α:=Tc) (ys:=([(⟨⟨#[99]⟩,(30:Int),([]:List Int),([]:List Int),([]:List Int),false⟩:Tc)]:List Tc)) G1 g0 (fun _ _=>.t1) cP rfl rfl (AX B1 (Tt p1 (Tt q1 s1))) (Src.row (α:=Tc) g0 .hd (AG (cs:=[.string ⟨#[99]⟩,vI 30,vN,vN,vN,.bool false]) (xs:=(([(⟨⟨#[99]⟩,(30:Int),([]:List Int),([]:List Int),([]:List Int),false⟩:Tc)]:List Tc):List Tc)) g0 L (Ak (cs:=[.string ⟨#[99]⟩,vI 30,vN,vN,vN,.bool false]) (ds:=[]) (ba ⟨#[99]⟩ (30:Int) ([]:List Int) C0 ([]:List Int) C0 ([]:List Int) C0 false) (AJ _ _))))) fun G0 F2 ⟨U1,y0,c2,C1⟩=>Bl 3 rfl<|RG.now .plain (Acts.store (j:=3) (old:=[vI 0,vI 0,vI 0,F0]) (news:=[G0]) (new' :=[vI 0,vI 0,vI 0,G0]) y0 .t2 rfl rfl rfl (St.c1 (α:=Tc) y0 .t1) rfl rfl (o1 (St.o1 (α:=Tc) y0 .t1)) rfl) fun G2 X0 u1=>Aa<|Aw<|Ar<|Ab (FV.add (i:=2) (j:=1) (r:=3) rfl rfl (by decide))<|Ae rfl<|Aa<|MX.again1 ?_
 obtain ⟨z0,v1⟩:=AQ X0 .d1
 refine Ac<|Ab (Bc (i:=3) (j:=4) rfl rfl)<|Aa<|Aj<|Bb rfl<|Aq<|Aj<|Av<|Ac<|Ae rfl<|Ab (FV.idx1 (cs:=[.string ⟨#[97]⟩,.string ⟨#[98]⟩,.string ⟨#[99]⟩,.string ⟨#[100]⟩]) (k:=3) (m:=1) (len:=4) rfl rfl rfl rfl rfl (by omega) rfl)<|Ah rfl<|Ah rfl<|Aa<|Ar<|Bl 3 rfl<|AS rfl ((z0.memA .t1) 3 _ rfl)<|Ae rfl<|Ae rfl<|Ab (FV.add (i:=3) (j:=1) (r:=4) rfl rfl (by decide))<|Ab (FV.mul (i:=10) (j:=4) (r:=40) rfl rfl (by decide))<|Ab (AE (vs:=[.string ⟨#[100]⟩,vI 40]) (u:=.agg #[.string ⟨#[100]⟩,vI 40,vN,vN,vN,.bool false]) (e2 rfl rfl) (fun p=>by kernel_rfl)) ?_
 have k2:=BA (α:=Int) z0 L
 refine Al .plain rfl (AL (α:=Tc) (xs:=([(⟨⟨#[100]⟩,(40:Int),([]:List Int),([]:List Int),([]:List Int),false⟩:Tc)]:List Tc)) (vs:=[.agg #[.string ⟨#[100]⟩,vI 40,vN,vN,vN,.bool false]]) (ds' :=[.string ⟨#[100]⟩,vI 40,vN,vN,vN,.bool false]) rfl z0 cP rfl (e1 rfl) (by kernel_rfl) rfl) fun H2 P1 j0 x1=>?_
 have D0:=BA (α:=Int) j0 L
 refine bk h fun I2 D1 h=>RG.doesL .plain rfl (DoesL.app (α:=Tc) (ys:=([(⟨⟨#[100]⟩,(40:Int),([]:List Int),([]:List Int),([]:List Int),false⟩:Tc)]:List Tc)) D1 j0 (fun _ _=>.t1) cP rfl rfl (AX C1 (Tt u1 (Tt v1 x1))) (Src.row (α:=Tc) j0 .hd (AG (cs:=[.string ⟨#[100]⟩,vI 40,vN,vN,vN,.bool false]) (xs:=(([(⟨⟨#[100]⟩,(40:Int),([]:List Int),([]:List Int),([]:List Int),false⟩:Tc)]:List Tc):List Tc)) j0 L (Ak (cs:=[.string ⟨#[100]⟩,vI 40,vN,vN,vN,.bool false]) (ds:=[]) (ba ⟨#[100]⟩ (40:Int) ([]:List Int) D0 ([]:List Int) D0 ([]:List Int) D0 false) (AJ _ _))))) fun b0 p2 ⟨Q0,k0,V1,y1⟩=>Bl 3 rfl<|RG.now .plain (Acts.store (j:=3) (old:=[vI 0,vI 0,vI 0,G0]) (news:=[b0]) (new' :=[vI 0,vI 0,vI 0,b0]) k0 .t2 rfl rfl rfl (St.c1 (α:=Tc) k0 .t1) rfl rfl (o1 (St.o1 (α:=Tc) k0 .t1)) rfl) fun s2 R0 Y0=>Aa<|Aw<|Ar<|Ab (FV.add (i:=3) (j:=1) (r:=4) rfl rfl (by decide))<|Ae rfl<|Aa<|MX.again1 ?_
 obtain ⟨I0,Z0⟩:=AQ R0 .d1
 refine Ac<|Ab (Bc (i:=4) (j:=4) rfl rfl)<|Aa<|Aj<|Bj rfl<|Ba rfl<|Ac<|Ab (AH rfl (I0.memA .t1))<|Ab (AE (vs:=[.string ⟨#[88]⟩,vI 3,vW 7]) (u:=.agg #[.string ⟨#[88]⟩,vI 3,vW 7]) (e3 rfl rfl rfl) (fun p=>by kernel_rfl))<|Ab (AE (vs:=[.string ⟨#[89]⟩,vI 1,vW 12]) (u:=.agg #[.string ⟨#[89]⟩,vI 1,vW 12]) (e3 rfl rfl rfl) (fun p=>by kernel_rfl))<|Al .plain rfl (AL (α:=Ta) (xs:=([(⟨⟨#[88]⟩,(3:Int),7⟩:Ta),(⟨⟨#[89]⟩,(1:Int),12⟩:Ta)]:List Ta)) (vs:=[.agg #[.string ⟨#[88]⟩,vI 3,vW 7],.agg #[.string ⟨#[89]⟩,vI 1,vW 12]]) (ds' :=[.string ⟨#[88]⟩,vI 3,vW 7,.string ⟨#[89]⟩,vI 1,vW 12]) rfl I0 bw rfl (e2 rfl rfl) (by kernel_rfl) rfl) fun u2 H0 p0 b1=>?_
 have z1:=AG (cs:=[.string ⟨#[88]⟩,vI 3,vW 7,.string ⟨#[89]⟩,vI 1,vW 12]) (xs:=(([(⟨⟨#[88]⟩,(3:Int),7⟩:Ta),(⟨⟨#[89]⟩,(1:Int),12⟩:Ta)]:List Ta):List Ta)) p0 L (Ak (cs:=[.string ⟨#[88]⟩,vI 3,vW 7]) (ds:=[.string ⟨#[89]⟩,vI 1,vW 12]) (aH ⟨#[88]⟩ (3:Int) (7:UInt64)) (Ak (cs:=[.string ⟨#[89]⟩,vI 1,vW 12]) (ds:=[]) (aH ⟨#[89]⟩ (1:Int) (12:UInt64)) (AJ _ _)))
 refine AR [vI 0,vI 0,vI 0,b0] p0 .t3 (o4 rfl rfl rfl (St.o1 (α:=Tc) p0 .t1)) fun v2 J0 M0=>Ah rfl<|Aa<|Ao rfl<|Au (u:=.tuple #[.agg #[vI 0,vI 0,vI 0,b0],(vS H0 2)]) hb0 func38 rfl (.cons (.many (cs:=[vI 0,vI 0,vI 0,b0]) rfl rfl (J0.memA .t3)) (.cons (.tmp rfl) .nil)) rfl ?_
 obtain ⟨K0,P0⟩:=AQ J0 (.a1 (.a0 .done))
 cases h
 exact ⟨K0.ag,fun p q=>⟨b0,(vS H0 2),Q0,[.string ⟨#[88]⟩,vI 3,vW 7,.string ⟨#[89]⟩,vI 1,vW 12],rfl,K0.agree q,Cells.keep0 (AX y1 (Tt Y0 (Tt Z0 (Tt b1 (Tt M0 P0))))) q,Cells.keep0 (AX z1 (Tt M0 P0)) q⟩⟩
def aF_l1 (_n:Nat) (a0:List Bool) (a1:List Bool) (b0:Nat -> Option (Bool ⊕ Unit)):Nat -> Option (Bool ⊕ Unit)
  | i32=>(if i32 < a0.length then (a0[i32]?).bind fun c0=>(a1[i32]?).bind fun d0=>(if (c0 == d0) = true then b0 (i32 + 1) else some (.inl false)) else some (.inr ()))
def aF_p (n:Nat) (a0:List Bool) (a1:List Bool):Option Bool:=
  (if a0.length = a1.length then thn (au (aF_l1 n a0 a1) n 0) (fun _=>some true) else some false)
theorem aF_c (n:Nat) {L w} (_hL:hl L w) {a0:List Bool} {v0_0:Value} (h0_0:Rep.R w L [v0_0] a0) {a1:List Bool} {v1_0:Value} (h1_0:Rep.R w L [v1_0] a1)  {r:Bool} (h:aF_p n a0 a1 = some r) :
 Cl 33 #[v0_0,v1_0] w (ac w fun _ u=>u = .bool r):=by
 unfold aF_p at h
 have hS0:=AB w
 refine AF func33 rfl rfl rfl fun _ cs0 hb0=>Ac<|Ah rfl<|Aa<|Aj<|Ac<|Ae rfl ?_
 have hl1:a0.length <= 281474976710656:=AZ h0_0
 refine Ab (Bd (xs:=a0) underlying72 rfl h0_0)<|Ae rfl ?_
 have hl2:a1.length <= 281474976710656:=AZ h1_0
 refine Ab (Bd (xs:=a1) underlying72 rfl h1_0)<|Ab (FV.neqN (i:=a0.length) (j:=a1.length) rfl rfl)<|Aa<|MX.ifn rfl h (fun c3 h=>?_) (fun c3 h=>?_)
 refine Aq<|Aj<|Ac<|Ae rfl<|Ab (Bd (xs:=a0) underlying72 rfl h0_0)<|Ae rfl<|Aa<|Av<|tn h fun U0 F0 g0=>MX.lo (α:=Nat) (fun i32=>[(0,v0_0),(1,v1_0),(12,vI ((a0.length:Nat):Int)),(13,vI ((i32:Nat):Int))]) (fun i32=>[]) (fun i32=>i32) 0 F0 hS0 ?_
 rintro P0 i32 V0 u0 d0 v0 h
 unfold aF_l1 at h
 try dsimp only at h
 refine Ac<|Ab (Bc (i:=i32) (j:=a0.length) rfl rfl)<|Aa<|Aj<|AV rfl h (fun p0 h=>?_) (fun p0 h=>?_)
 refine Aq<|Aj<|Av<|Ac<|Ae rfl<|Ah rfl<|Aa<|Aj<|du 9 fun b0 c0=>Rv 0 b0 rfl c0 (fun _=>Ai rfl)<|Rv 1 b0 rfl c0 (fun _=>Ai rfl)<|bk h fun j0 I0 h=>?_
 obtain ⟨K0,Q0,x0,B0,s0,G0,D0⟩:=Br (AK h0_0 d0) I0
 have y0:s0 = [.bool j0]:=G0; subst y0
 refine Rv 2 b0 rfl c0 (fun _=>Bt 1 i32 rfl x0 rfl rfl B0)<|Rx 3 256 b0 rfl c0 (AW rfl (D0 0 _ rfl))<|Rv 4 b0 rfl c0 (fun _=>Ai rfl)<|Rv 5 b0 rfl c0 (fun _=>Ai rfl)<|bk h fun k0 J0 h=>?_
 obtain ⟨M0,R0,z0,C0,t0,H0,E0⟩:=Br (AK h1_0 d0) J0
 have A0:t0 = [.bool k0]:=H0; subst A0
 refine Rv 6 b0 rfl c0 (fun _=>Bt 1 i32 rfl z0 rfl rfl C0)<|Rx 7 256 b0 rfl c0 (AW rfl (E0 0 _ rfl))<|Rv 8 b0 rfl c0 (fun _=>FV.neqB (a:=j0) (b:=k0) underlying4 rfl rfl)<|AI (dk b0)<|MX.ifnb rfl h (fun q0 h=>?_) (fun q0 h=>?_)
 refine Aq<|Aw<|Ar<|Ab (Bo (i:=i32) (j:=1) rfl rfl (by omega))<|Ae rfl<|Aa<|u0 (i32 + 1) d0 v0 h
 refine Ac<|Ah rfl<|Aa ?_
 have h:=av h g0
 refine Ao rfl<|AP hb0 func33 rfl rfl ?_
 cases h
 exact d0.gv
 refine Ba rfl ?_
 have h:=aB h g0
 try dsimp only at h
 refine Ac<|Ah rfl<|Aa<|Ao rfl<|AP hb0 func33 rfl rfl ?_
 cases h
 exact d0.gv
 refine Ac<|Ah rfl<|Aa<|Ao rfl<|AP hb0 func33 rfl rfl ?_
 cases h
 exact hS0.gv
def aN_p (n:Nat) (a0:List Bool) (a1:Int) (a2:List Bool):Option Bool:=
  (aF_p n a0 a2).bind fun y1=>(if y1 = true then some (decide (a1 = 0)) else some false)
theorem aN_c (n:Nat) {L w} (hL:hl L w) {a0:List Bool} {v0_0:Value} (h0_0:Rep.R w L [v0_0] a0) {a1:Int} {a2:List Bool} {v2_0:Value} (h2_0:Rep.R w L [v2_0] a2) {p2:Nat} (m2:∀ j9 v9,([v2_0]:List Value)[j9]? = some v9 -> w.cell? ((⟨p2,0,none⟩:Addr).add j9) = some v9)  {r:Bool} (h:aN_p n a0 a1 a2 = some r) :
 Cl 84 #[v0_0,vI a1,.pointer (some ⟨p2,0,none⟩)] w (ac w fun _ u=>u = .bool r):=by
 unfold aN_p at h
 have hS0:=AB w
 refine AF func84 rfl rfl rfl fun _ cs0 hb0=>Ac<|Ah rfl<|Aa<|Ac<|Ae rfl<|AS rfl ((fun j9 v9 h9=>hS0.ag.cell0 (m2 j9 v9 h9)) 0 _ rfl)<|bk h fun y1 hy1 h=>AY (.bool y1) (bd 33) rfl (e2 rfl rfl) (fun p q=>aF_c n (hS0.hL0 hL q) (hS0.kd h0_0 q) (hS0.kd h2_0 q) hy1) rfl<|Ae rfl<|RG.ifb (s:=9) rfl h (fun c2 h=>?_) (fun c2 h=>?_)
 refine AT (Ai rfl)<|AT (FV.eql (i:=a1) (j:=0) rfl rfl)<|RG.pt rfl rfl<|Ah rfl<|Aa<|Ao rfl<|AP hb0 func84 rfl rfl ?_
 cases h
 exact hS0.gv
 refine AC<|AC<|Bu rfl rfl<|Ah rfl<|Aa<|Ao rfl<|AP hb0 func84 rfl rfl ?_
 cases h
 exact hS0.gv
theorem bQ_c (_n:Nat) {L w} (_hL:hl L w) (a0:List Bool) {v0_0:Value} (h0_0:Rep.R w L [v0_0] a0)  :
 Cl 40 #[v0_0] w (ac w fun w' u=>∃ b0:Nat,u = .func (.func 84) #[] #[vP b0]/\St w w' [.cells b0 [v0_0] 72]):=by
 refine AF func40 rfl rfl rfl fun _ cs0 hb0=>Ac<|RG.bx (AB w) rfl (Rep.c1 h0_0) fun g0 b0 c0 d0=>Ah rfl<|Aa<|Ac<|Ab (FV.makeFunc (vs:=[]) (us:=[vP b0]) ah (e1 rfl))<|Ah rfl<|Aa<|Ao rfl<|Au (u:=.func (.func 84) #[] #[vP b0]) hb0 func40 rfl (.cons (.tmp rfl) .nil) rfl<|⟨c0.ag,fun p q=>⟨b0,rfl,c0.agree q⟩⟩
def ay_p (n:Nat) (a0:Tb) (a1:Int) (a2:Int) (a3:Int):Option Bool:=
  (ax_p n a2 a3).bind fun b0=>(if a0 = b0 then some (decide (a1 = 0)) else some false)
theorem ay_c (n:Nat) {L w} (hL:hl L w) (a0:Tb) {a1:Int} {a2:Int} {p2:Nat} (m2:∀ j9 v9,([vI a2]:List Value)[j9]? = some v9 -> w.cell? ((⟨p2,0,none⟩:Addr).add j9) = some v9) {a3:Int} {p3:Nat} (m3:∀ j9 v9,([vI a3]:List Value)[j9]? = some v9 -> w.cell? ((⟨p3,0,none⟩:Addr).add j9) = some v9)  {r:Bool} (h:ay_p n a0 a1 a2 a3 = some r) :
 Cl 85 #[.agg ((aa a0)).toArray,vI a1,.pointer (some ⟨p2,0,none⟩),.pointer (some ⟨p3,0,none⟩)] w (ac w fun _ u=>u = .bool r):=by
 unfold ay_p at h
 refine AF func85 rfl rfl rfl fun _ cs0 hb0=>Ac<|RG.bx (AB w) rfl rfl fun s0 p0 d0 q0=>Ah rfl<|Aa<|Aj<|du 10 fun b0 c0=>Rx 0 1008 b0 rfl c0 (AH rfl (d0.memA .hd))<|Rx 1 1016 b0 rfl c0 (AW rfl ((fun j9 v9 h9=>d0.ag.cell0 (m2 j9 v9 h9)) 0 _ rfl))<|Rx 2 1016 b0 rfl c0 (AW rfl ((fun j9 v9 h9=>d0.ag.cell0 (m3 j9 v9 h9)) 0 _ rfl))<|bk h fun g0 k0 h=>RD.cq 3 15 1008 (.agg ((aa g0)).toArray) b0 rfl c0 (bd 20) rfl (e2 rfl rfl) (fun p q=>ax_c n (d0.hL0 hL q)  k0) rfl<|Rv 4 b0 rfl c0 (fun _=>FV.eqlV (v:=.agg ((aa a0)).toArray) (u:=.agg ((aa g0)).toArray) rfl rfl (ey a0 g0))<|Rv 5 b0 rfl c0 (fun _=>Ai rfl)<|RD.ifd (s:=12) rfl h (fun j0 h=>?_) (fun j0 h=>?_)
 refine Bs 6 127 b0 rfl c0 (.yes rfl rfl) (fun _=>Ai rfl) rfl<|Bs 7 255 b0 rfl c0 (.yes rfl rfl) (fun _=>FV.eql (i:=a1) (j:=0) rfl rfl) rfl<|Rv 8 b0 rfl c0 (fun _=>Bm rfl rfl)<|Rv 9 b0 rfl c0 (fun _=>AN rfl)<|AI (dk b0)<|Ao rfl<|AP hb0 func85 rfl rfl ?_
 cases h
 exact d0.gv
 refine Ay 255 2 [(6,13),(7,14)] (F:=[(12,false)]) (U:=[]) b0 c0 (.cons rfl .nil) .nil ?_
 dsimp only [ai,List.map]
 refine Rv 8 b0 rfl c0 (fun _=>Ap rfl rfl)<|Rv 9 b0 rfl c0 (fun _=>AN rfl)<|AI (dk b0)<|Ao rfl<|AP hb0 func85 rfl rfl ?_
 cases h
 exact d0.gv
theorem bJ_c (_n:Nat) {L w} (_hL:hl L w) (a0:Int) (a1:Int)  :
 Cl 41 #[vI a0,vI a1] w (ac w fun w' u=>∃ b0 c0:Nat,u = .func (.func 85) #[] #[vP b0,vP c0]/\St w w' [.cells b0 [vI a0] 3,.cells c0 [vI a1] 3]):=by
 refine AF func41 rfl rfl rfl fun _ cs0 hb0=>Ac<|RG.bx (AB w) rfl rfl fun t0 b0 j0 p0=>RG.bx j0 rfl rfl fun u0 c0 k0 q0=>Ah rfl<|Aa<|Ac<|Ab (FV.makeFunc (vs:=[]) (us:=[vP b0,vP c0]) ah (e2 rfl rfl))<|Ah rfl<|Aa<|Ao rfl<|Au (u:=.func (.func 85) #[] #[vP b0,vP c0]) hb0 func41 rfl (.cons (.tmp rfl) .nil) rfl ?_
 obtain ⟨g0,s0⟩:=AQ k0 (.a1 .d0)
 exact ⟨g0.ag,fun p q=>⟨b0,c0,rfl,g0.agree q⟩⟩
theorem fF:ElT Tryz.prog 53 3 (Rep.size Int) 8 (vI 0) [vI 0]:=⟨underlying53,by kernel_rfl,rfl,rfl,rfl,rfl⟩
def bp_p (n:Nat):Option Bool:=
  (aS_p n).bind fun y1=>(cut y1.2 0 1).bind fun q0=>(aE_p n q0 y1.1 ([(0:Int),(0:Int),(1:Int),(1:Int)]:List Int) (2:Int)).bind fun b0=>(ah_p n y1.2 y1.1 ([(0:Int),(0:Int),(1:Int),(1:Int)]:List Int) (2:Int)).bind fun j0=>(aK_p n (0:UInt64) (0:UInt64)).bind fun B0=>(az_p n y1.2 y1.1 ([(0:Int),(0:Int),(1:Int),(1:Int)]:List Int) (2:Int)).bind fun c0=>(aN_p n c0.1 c0.2 ([false,true]:List Bool)).bind fun s0=>(if s0 = true then (if b0.2 = 0 then (if b0.1.length = 1 then (b0.1[0]?).bind fun k0=>(aw_p n k0 ([(3:UInt64),(4:UInt64)]:List UInt64)).bind fun t0=>(if t0 = true then (if j0.2 = 0 then (ax_p n (1:Int) (2:Int)).bind fun u0=>(ax_p n (1:Int) (1:Int)).bind fun v0=>(ae_p n j0.1 ([u0,v0]:List Tb)).bind fun x0=>(if x0 = true then (av_p n y1.2 y1.1 ([(0:Int),(0:Int),(1:Int),(1:Int)]:List Int) (2:Int)).bind fun d0=>(ay_p n d0.1 d0.2 (5:Int) (8:Int)).bind fun y0=>(if y0 = true then (aK_p n (7:UInt64) (12:UInt64)).bind fun g0=>(ay_p n g0.1 g0.2 (1:Int) (4:Int)).bind fun z0=>(if z0 = true then (if B0.2 = 7 then (cut y1.2 1 (y1.2.length:Int)).bind fun p0=>(aa_p n (3:Int) p0).bind fun A0=>some (decide (A0 = 270)) else some false) else some false) else some false) else some false) else some false) else some false) else some false) else some false) else some false)
theorem bp_c (n:Nat) {L w} (hL:hl L w) (hG0:Glob 0 tab0 w)  {r:Bool} (h:bp_p n = some r) :
 Cl 10 #[] w (ac w fun _ u=>u = .bool r):=by
 unfold bp_p at h
 have hS0:=AB w
 refine AF func10 rfl rfl rfl fun _ cs0 hb0=>Ac<|Ah rfl<|Aa<|Ac<|bk h fun y1 hy1 h=>jE (bd 38) rfl ah (fun p q=>cU (b0:=w.heap.size) (aS_c n (hS0.hL hL q)  hy1) q (Nat.le_trans hS0.ag.size q.size)) rfl fun w2 vu3 hag4 ⟨v9,u3,d2,g2,hu6,s5,y2,z2⟩=>?_
 subst hu6
 have hS7:=dg hS0 s5
 have hT8:=er hS0 s5
 refine Ae rfl<|Ab (Ag rfl rfl)<|Ab (Ag rfl rfl)<|RG.nl [vI 0,vI 0,vI 0,vN] hS7 fun v4 I3 x1 p2=>AR [vI y1.1.fl,vI y1.1.fh,vI y1.1.fj,v9] x1 .hd (o4 rfl rfl rfl (St.o1 (α:=Tc) x1 .t1)) fun x4 j2 q2=>Ah rfl<|Aa<|Ac<|Al .plain rfl (AL (α:=Int) (xs:=([(0:Int),(0:Int),(1:Int),(1:Int)]:List Int)) (vs:=[vI 0,vI 0,vI 1,vI 1]) (ds' :=[vI 0,vI 0,vI 1,vI 1]) rfl j2 fF rfl (e4 rfl rfl rfl rfl) (by kernel_rfl) rfl) fun y4 Q1 Q0 s2=>Ah rfl<|Aa<|Aj<|du 10 fun j0 t0=>Rv 0 j0 rfl t0 (fun _=>Ai rfl) ?_
 have G1:=Tt p2 (Tt q2 s2)
 have z0:=Bw Q0 .t3
 have B1:=Bx Q0 .t3
 have H0:=By (α:=Ta) (v:=u3) (xs:=y1.2) z0 L (Bh (α:=Ta) Q0 .t3 (AX (AG (cs:=g2) (xs:=(y1.2:List Ta)) hS7 L (bQ z2)) G1) hL)
 refine bk h fun G4 U2 h=>RD.valE (i:=1) (m' :=3) (W:=1008) (tk j0) rfl t0 .plain rfl (FV.cutL (α:=Ta) U2 rfl rfl H0 rfl ⟨_,rfl⟩) fun Y3 H2=>Rx 2 1008 j0 rfl t0 (AH rfl (z0.memA .t1))<|Rv 3 j0 rfl t0 (fun _=>Ai rfl) ?_
 have R0:=Bw z0 .t2
 have p1:=Bx z0 .t2
 have b1:=By (α:=Tc) (v:=v9) (xs:=y1.1.fm) R0 L (Bh (α:=Tc) z0 .t2 (AX (AG (cs:=d2) (xs:=(y1.1.fm:List Tc)) hS7 L (bQ y2)) (Tt G1 B1)) hL)
 have U0:=Bw R0 .hd
 have B0:=Bx R0 .hd
 have c1:=By (α:=Int) (v:=(vS Q1 4)) (xs:=([(0:Int),(0:Int),(1:Int),(1:Int)]:List Int)) U0 L (Bh (α:=Int) R0 .hd (AX (AG (cs:=[vI 0,vI 0,vI 1,vI 1]) (xs:=(([(0:Int),(0:Int),(1:Int),(1:Int)]:List Int):List Int)) Q0 L (Ak (cs:=[vI 0]) (ds:=[vI 0,vI 1,vI 1]) rfl (Ak (cs:=[vI 0]) (ds:=[vI 1,vI 1]) rfl (Ak (cs:=[vI 1]) (ds:=[vI 1]) rfl (Ak (cs:=[vI 1]) (ds:=[]) rfl (AJ _ _)))))) (Tt B1 p1)) hL)
 refine bk h fun d1 p3 h=>Bz 4 31 j0 rfl .plain (bd 24) rfl (e4 rfl rfl rfl rfl) (fun p q=>aE_c n (U0.hL hL q) (Am (Ax H2 (Tt p1 B0)) q) y1.1 (Am (Ax b1 B0) q) (Am c1 q) (hG0.keep (U0.ag.trans q)) p3) rfl fun z4 k4 v2 ⟨Z3,hu_,I2⟩=>?_
 subst hu_
 obtain ⟨V0,C0⟩:=U0.agr v2
 refine Rv 5 j0 rfl t0 (fun _=>Ai rfl)<|Rv 6 j0 rfl t0 (fun _=>Ag rfl rfl)<|Rv 7 j0 rfl t0 (fun _=>Ag rfl rfl)<|Rv 8 j0 rfl t0 (fun _=>AN rfl)<|Rv 9 j0 rfl t0 (fun _=>AN rfl)<|AI (dk j0)<|Ac<|Ae rfl<|Ab (AH rfl (V0.memA .hd))<|Ae rfl<|bk h fun E3 q3 h=>?_
 have H1:=Tt p1 (Tt B0 C0)
 refine jE (bd 19) rfl (e4 rfl rfl rfl rfl) (fun p q=>ah_c n (V0.hL hL q) (Am (Ax H0 H1) q) y1.1 (Am (Ax b1 (Tt B0 C0)) q) (Am (Ax c1 C0) q) (hG0.keep (V0.ag.trans q)) q3) rfl fun A4 p4 x2 ⟨b4,hu_,J2⟩=>?_
 subst hu_
 obtain ⟨z1,Z0⟩:=V0.agr x2
 refine Ae rfl<|Ab (Ag rfl rfl)<|Ab (Ag rfl rfl)<|Ah rfl<|Ah rfl<|Aa<|Ac<|bk h fun g1 s3 h=>AY (.tuple #[.agg ((aa g1.1)).toArray,vI g1.2]) (bd 15) rfl (e2 rfl rfl) (fun p q=>aK_c n (z1.hL0 hL q) (0:UInt64) (0:UInt64) s3) rfl<|Ae rfl<|Ab (Ag rfl rfl)<|Ab (Ag rfl rfl)<|RG.nl zL z1 fun B4 J3 k2 D0=>AR (aa g1.1) k2 .hd (aj rfl) fun C4 A1 E0=>Ah rfl<|Aa<|Aj<|du 64 fun c0 d0=>Rv 2 c0 rfl d0 (fun _=>Ai rfl)<|Rx 3 18446744073709551584 c0 rfl d0 (AH rfl (A1.memA .t1))<|Rv 4 c0 rfl d0 (fun _=>Ai rfl)<|RD.nu 0 29 c0 rfl .plain rfl (AL (α:=Bool) (xs:=([false,true]:List Bool)) (vs:=[.bool false,.bool true]) (ds' :=[.bool false,.bool true]) rfl A1 dF rfl (e2 rfl rfl) (by kernel_rfl) rfl) fun y3 v1 W0 F0=>?_
 have X0:=Bw W0 .hd
 have G0:=Bx W0 .hd
 have I1:=By (α:=Bool) (v:=(vS v1 2)) (xs:=([false,true]:List Bool)) X0 L (Bh (α:=Bool) W0 .hd (AG (cs:=[.bool false,.bool true]) (xs:=(([false,true]:List Bool):List Bool)) W0 L (Ak (cs:=[.bool false]) (ds:=[.bool true]) rfl (Ak (cs:=[.bool true]) (ds:=[]) rfl (AJ _ _)))) hL)
 refine Bz 1 31 c0 rfl .plain (bd 40) rfl (e1 rfl) (fun p q=>Calls.gives (bQ_c n (X0.hL hL q) ([false,true]:List Bool) (Am I1 q)) fun (w8:World) (u8:Value) ⟨b0_,hu_,s_⟩=>(⟨b0_,hu_,s_.from q⟩:∃ P0:Nat,u8 = Value.func (.func 84) #[] #[vP P0]/\St y3 w8 [.cells P0 [(vS v1 2)] 72])) rfl fun D4 c4 P3 ⟨P0,K2,J1⟩=>?_
 subst K2
 have j1:=bF X0 J1
 have x0:=cT X0 J1
 refine bk h fun H4 V2 h=>?_
 have C1:=Tt H1 (Tt Z0 (Tt D0 (Tt E0 (Tt F0 (Tt G0 x0)))))
 have D1:=Tt B0 (Tt C0 (Tt Z0 (Tt D0 (Tt E0 (Tt F0 (Tt G0 x0))))))
 have E1:=Tt C0 (Tt Z0 (Tt D0 (Tt E0 (Tt F0 (Tt G0 x0)))))
 refine Bz 5 63 c0 rfl .plain (bd 25) rfl (e4 rfl rfl rfl rfl) (fun p q=>az_c n (j1.hL hL q) (Am (Ax H0 C1) q) y1.1 (Am (Ax b1 D1) q) (Am (Ax c1 E1) q) (hG0.keep (j1.ag.trans q)) V2) rfl fun q4 d4 u2 ⟨V3,hu_,D2⟩=>?_
 subst hu_
 obtain ⟨v0,y0⟩:=j1.agr u2
 refine Rv 6 c0 rfl d0 (fun _=>Ag rfl rfl)<|Rv 7 c0 rfl d0 (fun _=>Ag rfl rfl)<|bk h fun z3 W2 h=>RD.callq (i:=8) (m' :=511) (W:=18446744073709551104) (tk c0) rfl d0 (v:=.bool z3) (fst:=[]) (cap:=[vP P0]) .plain (bd 84) rfl (e2 rfl rfl) (fun p q=>aN_c n (v0.hL0 hL q) (v0.kd D2 q) (v0.kd (Ax I1 (Tt x0 y0)) q) (aq q (v0.memA .hd)) W2) rfl<|Rv 9 c0 rfl d0 (fun _=>Ai rfl)<|RD.ifb (s:=43) rfl h (fun R1 h=>?_) (fun R1 h=>?_)
 refine Bs 10 2047 c0 rfl d0 (.yes rfl rfl) (fun _=>Ai rfl) rfl<|Bs 11 4095 c0 rfl d0 (.yes rfl rfl) (fun _=>FV.eql (i:=d1.2) (j:=0) rfl rfl) rfl<|Rv 12 c0 rfl d0 (fun _=>Bm rfl rfl)<|Rv 13 c0 rfl d0 (fun _=>Ai rfl)<|RD.ifd (s:=47) rfl h (fun U1 h=>?_) (fun U1 h=>?_)
 refine Bs 14 32767 c0 rfl d0 (.yes rfl rfl) (fun _=>Ai rfl) rfl ?_
 have q1:=Ax I2 (Tt Z0 (Tt D0 (Tt E0 (Tt F0 (Tt G0 (Tt x0 y0))))))
 have U3:d1.1.length <= 281474976710656:=AZ q1
 refine RD.val (i:=15) (m' :=65535) (W:=18446744073709486080) (tk c0) rfl d0 (.yes rfl rfl) (Bd (xs:=d1.1) underlying69 rfl q1) rfl<|Bs 16 131071 c0 rfl d0 (.yes rfl rfl) (fun _=>FV.eqlN (i:=d1.1.length) (j:=1) rfl rfl) rfl<|Rv 17 c0 rfl d0 (fun _=>Bm rfl rfl)<|Rv 18 c0 rfl d0 (fun _=>Ai rfl)<|RD.ifd (s:=52) rfl h (fun V1 h=>?_) (fun V1 h=>?_)
 refine Bs 19 1048575 c0 rfl d0 (.yes rfl rfl) (fun _=>Ai rfl) rfl<|bk h fun E4 Q2 h=>?_
 obtain ⟨F3,K3,A2,B2,M3,E2,C2⟩:=Br q1 Q2
 obtain ⟨W3,rfl,F2⟩:=cE E2
 refine Bs 20 2097151 c0 rfl d0 (.yes rfl rfl) (fun _=>Bt 1 0 rfl A2 rfl rfl B2) rfl<|RD.val (i:=21) (m' :=4194303) (W:=18446744073701163008) (tk c0) rfl d0 (.yes rfl rfl) (AW rfl (C2 0 _ rfl)) rfl<|RD.nu 22 8388607 c0 rfl (.yes rfl rfl) rfl (AL (α:=UInt64) (xs:=([(3:UInt64),(4:UInt64)]:List UInt64)) (vs:=[vW 3,vW 4]) (ds' :=[vW 3,vW 4]) rfl v0 bT rfl (e2 rfl rfl) (by kernel_rfl) rfl) fun s4 G3 p0 A0=>bk h fun A3 X2 h=>RD.callq (i:=23) (m' :=16777215) (W:=18446744073692774400) (tk c0) rfl d0 (v:=.bool A3) (fst:=[]) (cap:=[]) (.yes rfl rfl) (bd 35) rfl (e2 rfl rfl) (fun p q=>aw_c n (p0.hL0 hL q) (p0.kd (Ax F2 A0) q) (Am (St.lend (α:=UInt64) (L:=L) p0 .hd (AG (cs:=[vW 3,vW 4]) (xs:=(([(3:UInt64),(4:UInt64)]:List UInt64):List UInt64)) p0 L (Ak (cs:=[vW 3]) (ds:=[vW 4]) rfl (Ak (cs:=[vW 4]) (ds:=[]) rfl (AJ _ _)))) hL) q) X2) rfl<|Rv 24 c0 rfl d0 (fun _=>Bm rfl rfl)<|Rv 25 c0 rfl d0 (fun _=>Ai rfl)<|RD.ifb (s:=59) rfl h (fun W1 h=>?_) (fun W1 h=>?_)
 refine Bs 26 134217727 c0 rfl d0 (.yes rfl rfl) (fun _=>Ai rfl) rfl<|Bs 27 268435455 c0 rfl d0 (.yes rfl rfl) (fun _=>FV.eql (i:=E3.2) (j:=0) rfl rfl) rfl<|Rv 28 c0 rfl d0 (fun _=>Bm rfl rfl)<|Rv 29 c0 rfl d0 (fun _=>Ai rfl)<|RD.ifd (s:=63) rfl h (fun X1 h=>?_) (fun X1 h=>?_)
 refine Bs 30 2147483647 c0 rfl d0 (.yes rfl rfl) (fun _=>Ai rfl) rfl<|bk h fun u0 Y2 h=>RD.callq (i:=31) (m' :=4294967295) (W:=18446744069414584320) (tk c0) rfl d0 (v:=.agg ((aa u0)).toArray) (fst:=[]) (cap:=[]) (.yes rfl rfl) (bd 20) rfl (e2 rfl rfl) (fun p q=>ax_c n (p0.hL0 hL q)  Y2) rfl<|bk h fun k0 Z2 h=>RD.callq (i:=32) (m' :=8589934591) (W:=18446744065119617024) (tk c0) rfl d0 (v:=.agg ((aa k0)).toArray) (fst:=[]) (cap:=[]) (.yes rfl rfl) (bd 20) rfl (e2 rfl rfl) (fun p q=>ax_c n (p0.hL0 hL q)  Z2) rfl<|RD.nu 33 17179869183 c0 rfl (.yes rfl rfl) rfl (AL (α:=Tb) (xs:=([u0,k0]:List Tb)) (vs:=[.agg ((aa u0)).toArray,.agg ((aa k0)).toArray]) (ds' :=(aa u0 ++ aa k0)) rfl p0 dz rfl (e2 rfl rfl) (by kernel_rfl) rfl) fun v3 H3 q0 Y0=>bk h fun B3 b3 h=>RD.callq (i:=34) (m' :=34359738367) (W:=18446744039349813248) (tk c0) rfl d0 (v:=.bool B3) (fst:=[]) (cap:=[]) (.yes rfl rfl) (bd 28) rfl (e2 rfl rfl) (fun p q=>ae_c n (q0.hL0 hL q) (q0.kd (Ax J2 (Tt D0 (Tt E0 (Tt F0 (Tt G0 (Tt x0 (Tt y0 (Tt A0 Y0)))))))) q) (Am (St.lend (α:=Tb) (L:=L) q0 .hd (AG (cs:=(aa u0 ++ aa k0)) (xs:=(([u0,k0]:List Tb):List Tb)) q0 L (Ak (cs:=(aa u0)) (ds:=(aa k0)) (bf u0.fN u0.fD) (Ak (cs:=(aa k0)) (ds:=[]) (bf k0.fN k0.fD) (AJ _ _)))) hL) q) b3) rfl<|Rv 35 c0 rfl d0 (fun _=>Bm rfl rfl)<|Rv 36 c0 rfl d0 (fun _=>Ai rfl)<|RD.ifb (s:=70) rfl h (fun Y1 h=>?_) (fun Y1 h=>?_)
 refine Bs 38 412316860415 c0 rfl d0 (.yes rfl rfl) (fun _=>Ai rfl) rfl<|RD.val (i:=39) (m' :=962072674303) (W:=18446741874686296064) (tk c0) rfl d0 (.yes rfl rfl) (AH rfl (q0.memA .t4)) rfl<|Bs 40 2061584302079 c0 rfl d0 (.yes rfl rfl) (fun _=>Ai rfl) rfl<|Bz 37 2199023255551 c0 rfl (.yes rfl rfl) (bd 41) rfl (e2 rfl rfl) (fun p q=>Calls.gives (bJ_c n (q0.hL hL q) (5:Int) (8:Int)) fun (w8:World) (u8:Value) ⟨b0_,b1_,hu_,s_⟩=>(⟨b0_,b1_,hu_,s_.from q⟩:∃ I0 J0:Nat,u8 = Value.func (.func 85) #[] #[vP I0,vP J0]/\St v3 w8 [.cells I0 [vI 5] 3,.cells J0 [vI 8] 3])) rfl fun x3 g4 Q3 ⟨I0,J0,M2,K1⟩=>?_
 subst M2
 have g0:=cn q0 K1
 have k1:=dA q0 K1
 refine bk h fun s1 c3 h=>?_
 have F1:=Tt C1 (Tt y0 (Tt A0 (Tt Y0 k1)))
 refine RD.callq (i:=41) (m' :=4398046511103) (W:=18446739675663040512) (tk c0) rfl d0 (v:=.tuple #[.agg ((aa s1.1)).toArray,vI s1.2]) (fst:=[]) (cap:=[]) (.yes rfl rfl) (bd 23) rfl (e4 rfl rfl rfl rfl) (fun p q=>av_c n (g0.hL0 hL q) (g0.kd (Ax H0 F1) q) y1.1 (g0.kd (Ax b1 (Tt D1 (Tt y0 (Tt A0 (Tt Y0 k1))))) q) (g0.kd (Ax c1 (Tt E1 (Tt y0 (Tt A0 (Tt Y0 k1))))) q) (hG0.keep (g0.ag.trans q)) c3) rfl<|Bs 42 8796093022207 c0 rfl d0 (.yes rfl rfl) (fun _=>Ag rfl rfl) rfl<|Bs 43 17592186044415 c0 rfl d0 (.yes rfl rfl) (fun _=>Ag rfl rfl) rfl<|bk h fun C3 d3 h=>RD.callq (i:=44) (m' :=35184372088831) (W:=18446708889337462784) (tk c0) rfl d0 (v:=.bool C3) (fst:=[]) (cap:=[vP I0,vP J0]) (.yes rfl rfl) (bd 85) rfl (e2 rfl rfl) (fun p q=>ay_c n (g0.hL0 hL q) s1.1 (aq q (g0.memA .hd)) (aq q (g0.memA .t1)) d3) rfl<|Rv 45 c0 rfl d0 (fun _=>Bm rfl rfl)<|Rv 46 c0 rfl d0 (fun _=>Ai rfl)<|RD.ifb (s:=80) rfl h (fun Z1 h=>?_) (fun Z1 h=>?_)
 refine Bz 47 281474976710655 c0 rfl (.yes rfl rfl) (bd 41) rfl (e2 rfl rfl) (fun p q=>Calls.gives (bJ_c n (g0.hL hL q) (1:Int) (4:Int)) fun (w8:World) (u8:Value) ⟨b0_,b1_,hu_,s_⟩=>(⟨b0_,b1_,hu_,s_.from q⟩:∃ K0 M0:Nat,u8 = Value.func (.func 85) #[] #[vP K0,vP M0]/\St x3 w8 [.cells K0 [vI 1] 3,.cells M0 [vI 4] 3])) rfl fun u4 j4 R3 ⟨K0,M0,P2,M1⟩=>?_
 subst P2
 have s0:=cn g0 M1
 refine bk h fun u1 g3 h=>RD.callq (i:=48) (m' :=562949953421311) (W:=18446181123756130304) (tk c0) rfl d0 (v:=.tuple #[.agg ((aa u1.1)).toArray,vI u1.2]) (fst:=[]) (cap:=[]) (.yes rfl rfl) (bd 15) rfl (e2 rfl rfl) (fun p q=>aK_c n (s0.hL0 hL q) (7:UInt64) (12:UInt64) g3) rfl<|Bs 49 1125899906842623 c0 rfl d0 (.yes rfl rfl) (fun _=>Ag rfl rfl) rfl<|Bs 50 2251799813685247 c0 rfl d0 (.yes rfl rfl) (fun _=>Ag rfl rfl) rfl<|bk h fun D3 j3 h=>RD.callq (i:=51) (m' :=4503599627370495) (W:=18442240474082181120) (tk c0) rfl d0 (v:=.bool D3) (fst:=[]) (cap:=[vP K0,vP M0]) (.yes rfl rfl) (bd 85) rfl (e2 rfl rfl) (fun p q=>ay_c n (s0.hL0 hL q) u1.1 (aq q (s0.memA .hd)) (aq q (s0.memA .t1)) j3) rfl<|Rv 52 c0 rfl d0 (fun _=>Bm rfl rfl)<|Rv 53 c0 rfl d0 (fun _=>Ai rfl)<|RD.ifb (s:=87) rfl h (fun b2 h=>?_) (fun b2 h=>?_)
 refine Bs 54 36028797018963967 c0 rfl d0 (.yes rfl rfl) (fun _=>Ai rfl) rfl<|Bs 55 72057594037927935 c0 rfl d0 (.yes rfl rfl) (fun _=>FV.eql (i:=g1.2) (j:=7) rfl rfl) rfl<|Rv 56 c0 rfl d0 (fun _=>Bm rfl rfl)<|Rv 57 c0 rfl d0 (fun _=>Ai rfl)<|RD.ifd (s:=91) rfl h (fun c2 h=>?_) (fun c2 h=>?_)
 refine Bs 58 576460752303423487 c0 rfl d0 (.yes rfl rfl) (fun _=>Ai rfl) rfl<|bk h fun F4 R2 h=>RD.valE (i:=59) (m' :=1152921504606846975) (W:=17293822569102704640) (tk c0) rfl d0 (.yes rfl rfl) rfl (FV.cutL (α:=Ta) R2 rfl rfl (Ax H0 (Tt F1 (dA g0 M1))) ⟨_,rfl⟩ rfl) fun X3 G2=>bk h fun P1 k3 h=>RD.callq (i:=60) (m' :=2305843009213693951) (W:=16140901064495857664) (tk c0) rfl d0 (v:=vI P1) (fst:=[]) (cap:=[]) (.yes rfl rfl) (bd 13) rfl (e2 rfl rfl) (fun p q=>aa_c n (s0.hL0 hL q) (s0.kd G2 q) k3) rfl<|Bs 61 4611686018427387903 c0 rfl d0 (.yes rfl rfl) (fun _=>FV.eql (i:=P1) (j:=270) rfl rfl) rfl<|Rv 62 c0 rfl d0 (fun _=>Bm rfl rfl)<|Rv 63 c0 rfl d0 (fun _=>AN rfl)<|AI (dk c0)<|Ao rfl<|AP hb0 func10 rfl rfl ?_
 cases h
 exact s0.gv
 refine Ay 4611686018427387903 2 [(58,92),(59,93),(60,94),(61,95)] (F:=[(91,false)]) (U:=[]) c0 d0 (.cons rfl .nil) .nil ?_
 dsimp only [ai,List.map]
 refine Rv 62 c0 rfl d0 (fun _=>Ap rfl rfl)<|Rv 63 c0 rfl d0 (fun _=>AN rfl)<|AI (dk c0)<|Ao rfl<|AP hb0 func10 rfl rfl ?_
 cases h
 exact s0.gv
 refine Ay 72057594037927935 8 [(54,88),(55,89)] (F:=[(87,false)]) (U:=[]) c0 d0 (.cons rfl .nil) .nil ?_
 dsimp only [ai,List.map]
 refine Rv 56 c0 rfl d0 (fun _=>Ap rfl rfl)<|Rv 57 c0 rfl d0 (fun _=>Ai rfl)<|Ay 4611686018427387903 2 [(58,92),(59,93),(60,94),(61,95)] (F:=[(91,false)]) (U:=[]) c0 d0 (.cons rfl .nil) .nil ?_
 dsimp only [ai,List.map]
 refine Rv 62 c0 rfl d0 (fun _=>Ap rfl rfl)<|Rv 63 c0 rfl d0 (fun _=>AN rfl)<|AI (dk c0)<|Ao rfl<|AP hb0 func10 rfl rfl ?_
 cases h
 exact s0.gv
 refine Ay 4503599627370495 12 [(47,81),(48,82),(49,83),(50,84),(51,85)] (F:=[(80,false)]) (U:=[]) c0 d0 (.cons rfl .nil) .nil ?_
 dsimp only [ai,List.map]
 refine Rv 52 c0 rfl d0 (fun _=>Ap rfl rfl)<|Rv 53 c0 rfl d0 (fun _=>Ai rfl)<|Ay 72057594037927935 8 [(54,88),(55,89)] (F:=[(87,false)]) (U:=[]) c0 d0 (.cons rfl .nil) .nil ?_
 dsimp only [ai,List.map]
 refine Rv 56 c0 rfl d0 (fun _=>Ap rfl rfl)<|Rv 57 c0 rfl d0 (fun _=>Ai rfl)<|Ay 4611686018427387903 2 [(58,92),(59,93),(60,94),(61,95)] (F:=[(91,false)]) (U:=[]) c0 d0 (.cons rfl .nil) .nil ?_
 dsimp only [ai,List.map]
 refine Rv 62 c0 rfl d0 (fun _=>Ap rfl rfl)<|Rv 63 c0 rfl d0 (fun _=>AN rfl)<|AI (dk c0)<|Ao rfl<|AP hb0 func10 rfl rfl ?_
 cases h
 exact g0.gv
 refine Ay 35184372088831 19 [(37,71),(38,72),(39,73),(40,74),(41,75),(42,76),(43,77),(44,78)] (F:=[(70,false)]) (U:=[]) c0 d0 (.cons rfl .nil) .nil ?_
 dsimp only [ai,List.map]
 refine Rv 45 c0 rfl d0 (fun _=>Ap rfl rfl)<|Rv 46 c0 rfl d0 (fun _=>Ai rfl)<|Ay 4503599627370495 12 [(47,81),(48,82),(49,83),(50,84),(51,85)] (F:=[(80,false)]) (U:=[]) c0 d0 (.cons rfl .nil) .nil ?_
 dsimp only [ai,List.map]
 refine Rv 52 c0 rfl d0 (fun _=>Ap rfl rfl)<|Rv 53 c0 rfl d0 (fun _=>Ai rfl)<|Ay 72057594037927935 8 [(54,88),(55,89)] (F:=[(87,false)]) (U:=[]) c0 d0 (.cons rfl .nil) .nil ?_
 dsimp only [ai,List.map]
 refine Rv 56 c0 rfl d0 (fun _=>Ap rfl rfl)<|Rv 57 c0 rfl d0 (fun _=>Ai rfl)<|Ay 4611686018427387903 2 [(58,92),(59,93),(60,94),(61,95)] (F:=[(91,false)]) (U:=[]) c0 d0 (.cons rfl .nil) .nil ?_
 dsimp only [ai,List.map]
 refine Rv 62 c0 rfl d0 (fun _=>Ap rfl rfl)<|Rv 63 c0 rfl d0 (fun _=>AN rfl)<|AI (dk c0)<|Ao rfl<|AP hb0 func10 rfl rfl ?_
 cases h
 exact q0.gv
 refine Ay 34359738367 29 [(30,64),(31,65),(32,66),(33,67),(34,68)] (F:=[(63,false)]) (U:=[]) c0 d0 (.cons rfl .nil) .nil ?_
 dsimp only [ai,List.map]
 refine Rv 35 c0 rfl d0 (fun _=>Ap rfl rfl)<|Rv 36 c0 rfl d0 (fun _=>Ai rfl)<|Ay 35184372088831 19 [(37,71),(38,72),(39,73),(40,74),(41,75),(42,76),(43,77),(44,78)] (F:=[(70,false)]) (U:=[]) c0 d0 (.cons rfl .nil) .nil ?_
 dsimp only [ai,List.map]
 refine Rv 45 c0 rfl d0 (fun _=>Ap rfl rfl)<|Rv 46 c0 rfl d0 (fun _=>Ai rfl)<|Ay 4503599627370495 12 [(47,81),(48,82),(49,83),(50,84),(51,85)] (F:=[(80,false)]) (U:=[]) c0 d0 (.cons rfl .nil) .nil ?_
 dsimp only [ai,List.map]
 refine Rv 52 c0 rfl d0 (fun _=>Ap rfl rfl)<|Rv 53 c0 rfl d0 (fun _=>Ai rfl)<|Ay 72057594037927935 8 [(54,88),(55,89)] (F:=[(87,false)]) (U:=[]) c0 d0 (.cons rfl .nil) .nil ?_
 dsimp only [ai,List.map]
 refine Rv 56 c0 rfl d0 (fun _=>Ap rfl rfl)<|Rv 57 c0 rfl d0 (fun _=>Ai rfl)<|Ay 4611686018427387903 2 [(58,92),(59,93),(60,94),(61,95)] (F:=[(91,false)]) (U:=[]) c0 d0 (.cons rfl .nil) .nil ?_
 dsimp only [ai,List.map]
 refine Rv 62 c0 rfl d0 (fun _=>Ap rfl rfl)<|Rv 63 c0 rfl d0 (fun _=>AN rfl)<|AI (dk c0)<|Ao rfl<|AP hb0 func10 rfl rfl ?_
 cases h
 exact p0.gv
 refine Ay 268435455 36 [(26,60),(27,61)] (F:=[(59,false)]) (U:=[]) c0 d0 (.cons rfl .nil) .nil ?_
 dsimp only [ai,List.map]
 refine Rv 28 c0 rfl d0 (fun _=>Ap rfl rfl)<|Rv 29 c0 rfl d0 (fun _=>Ai rfl)<|Ay 34359738367 29 [(30,64),(31,65),(32,66),(33,67),(34,68)] (F:=[(63,false)]) (U:=[]) c0 d0 (.cons rfl .nil) .nil ?_
 dsimp only [ai,List.map]
 refine Rv 35 c0 rfl d0 (fun _=>Ap rfl rfl)<|Rv 36 c0 rfl d0 (fun _=>Ai rfl)<|Ay 35184372088831 19 [(37,71),(38,72),(39,73),(40,74),(41,75),(42,76),(43,77),(44,78)] (F:=[(70,false)]) (U:=[]) c0 d0 (.cons rfl .nil) .nil ?_
 dsimp only [ai,List.map]
 refine Rv 45 c0 rfl d0 (fun _=>Ap rfl rfl)<|Rv 46 c0 rfl d0 (fun _=>Ai rfl)<|Ay 4503599627370495 12 [(47,81),(48,82),(49,83),(50,84),(51,85)] (F:=[(80,false)]) (U:=[]) c0 d0 (.cons rfl .nil) .nil ?_
 dsimp only [ai,List.map]
 refine Rv 52 c0 rfl d0 (fun _=>Ap rfl rfl)<|Rv 53 c0 rfl d0 (fun _=>Ai rfl)<|Ay 72057594037927935 8 [(54,88),(55,89)] (F:=[(87,false)]) (U:=[]) c0 d0 (.cons rfl .nil) .nil ?_
 dsimp only [ai,List.map]
 refine Rv 56 c0 rfl d0 (fun _=>Ap rfl rfl)<|Rv 57 c0 rfl d0 (fun _=>Ai rfl)<|Ay 4611686018427387903 2 [(58,92),(59,93),(60,94),(61,95)] (F:=[(91,false)]) (U:=[]) c0 d0 (.cons rfl .nil) .nil ?_
 dsimp only [ai,List.map]
 refine Rv 62 c0 rfl d0 (fun _=>Ap rfl rfl)<|Rv 63 c0 rfl d0 (fun _=>AN rfl)<|AI (dk c0)<|Ao rfl<|AP hb0 func10 rfl rfl ?_
 cases h
 exact p0.gv
 refine Ay 16777215 40 [(19,53),(20,54),(21,55),(22,56),(23,57)] (F:=[(52,false)]) (U:=[]) c0 d0 (.cons rfl .nil) .nil ?_
 dsimp only [ai,List.map]
 refine Rv 24 c0 rfl d0 (fun _=>Ap rfl rfl)<|Rv 25 c0 rfl d0 (fun _=>Ai rfl)<|Ay 268435455 36 [(26,60),(27,61)] (F:=[(59,false)]) (U:=[]) c0 d0 (.cons rfl .nil) .nil ?_
 dsimp only [ai,List.map]
 refine Rv 28 c0 rfl d0 (fun _=>Ap rfl rfl)<|Rv 29 c0 rfl d0 (fun _=>Ai rfl)<|Ay 34359738367 29 [(30,64),(31,65),(32,66),(33,67),(34,68)] (F:=[(63,false)]) (U:=[]) c0 d0 (.cons rfl .nil) .nil ?_
 dsimp only [ai,List.map]
 refine Rv 35 c0 rfl d0 (fun _=>Ap rfl rfl)<|Rv 36 c0 rfl d0 (fun _=>Ai rfl)<|Ay 35184372088831 19 [(37,71),(38,72),(39,73),(40,74),(41,75),(42,76),(43,77),(44,78)] (F:=[(70,false)]) (U:=[]) c0 d0 (.cons rfl .nil) .nil ?_
 dsimp only [ai,List.map]
 refine Rv 45 c0 rfl d0 (fun _=>Ap rfl rfl)<|Rv 46 c0 rfl d0 (fun _=>Ai rfl)<|Ay 4503599627370495 12 [(47,81),(48,82),(49,83),(50,84),(51,85)] (F:=[(80,false)]) (U:=[]) c0 d0 (.cons rfl .nil) .nil ?_
 dsimp only [ai,List.map]
 refine Rv 52 c0 rfl d0 (fun _=>Ap rfl rfl)<|Rv 53 c0 rfl d0 (fun _=>Ai rfl)<|Ay 72057594037927935 8 [(54,88),(55,89)] (F:=[(87,false)]) (U:=[]) c0 d0 (.cons rfl .nil) .nil ?_
 dsimp only [ai,List.map]
 refine Rv 56 c0 rfl d0 (fun _=>Ap rfl rfl)<|Rv 57 c0 rfl d0 (fun _=>Ai rfl)<|Ay 4611686018427387903 2 [(58,92),(59,93),(60,94),(61,95)] (F:=[(91,false)]) (U:=[]) c0 d0 (.cons rfl .nil) .nil ?_
 dsimp only [ai,List.map]
 refine Rv 62 c0 rfl d0 (fun _=>Ap rfl rfl)<|Rv 63 c0 rfl d0 (fun _=>AN rfl)<|AI (dk c0)<|Ao rfl<|AP hb0 func10 rfl rfl ?_
 cases h
 exact v0.gv
 refine Ay 131071 47 [(14,48),(15,49),(16,50)] (F:=[(47,false)]) (U:=[]) c0 d0 (.cons rfl .nil) .nil ?_
 dsimp only [ai,List.map]
 refine Rv 17 c0 rfl d0 (fun _=>Ap rfl rfl)<|Rv 18 c0 rfl d0 (fun _=>Ai rfl)<|Ay 16777215 40 [(19,53),(20,54),(21,55),(22,56),(23,57)] (F:=[(52,false)]) (U:=[]) c0 d0 (.cons rfl .nil) .nil ?_
 dsimp only [ai,List.map]
 refine Rv 24 c0 rfl d0 (fun _=>Ap rfl rfl)<|Rv 25 c0 rfl d0 (fun _=>Ai rfl)<|Ay 268435455 36 [(26,60),(27,61)] (F:=[(59,false)]) (U:=[]) c0 d0 (.cons rfl .nil) .nil ?_
 dsimp only [ai,List.map]
 refine Rv 28 c0 rfl d0 (fun _=>Ap rfl rfl)<|Rv 29 c0 rfl d0 (fun _=>Ai rfl)<|Ay 34359738367 29 [(30,64),(31,65),(32,66),(33,67),(34,68)] (F:=[(63,false)]) (U:=[]) c0 d0 (.cons rfl .nil) .nil ?_
 dsimp only [ai,List.map]
 refine Rv 35 c0 rfl d0 (fun _=>Ap rfl rfl)<|Rv 36 c0 rfl d0 (fun _=>Ai rfl)<|Ay 35184372088831 19 [(37,71),(38,72),(39,73),(40,74),(41,75),(42,76),(43,77),(44,78)] (F:=[(70,false)]) (U:=[]) c0 d0 (.cons rfl .nil) .nil ?_
 dsimp only [ai,List.map]
 refine Rv 45 c0 rfl d0 (fun _=>Ap rfl rfl)<|Rv 46 c0 rfl d0 (fun _=>Ai rfl)<|Ay 4503599627370495 12 [(47,81),(48,82),(49,83),(50,84),(51,85)] (F:=[(80,false)]) (U:=[]) c0 d0 (.cons rfl .nil) .nil ?_
 dsimp only [ai,List.map]
 refine Rv 52 c0 rfl d0 (fun _=>Ap rfl rfl)<|Rv 53 c0 rfl d0 (fun _=>Ai rfl)<|Ay 72057594037927935 8 [(54,88),(55,89)] (F:=[(87,false)]) (U:=[]) c0 d0 (.cons rfl .nil) .nil ?_
 dsimp only [ai,List.map]
 refine Rv 56 c0 rfl d0 (fun _=>Ap rfl rfl)<|Rv 57 c0 rfl d0 (fun _=>Ai rfl)<|Ay 4611686018427387903 2 [(58,92),(59,93),(60,94),(61,95)] (F:=[(91,false)]) (U:=[]) c0 d0 (.cons rfl .nil) .nil ?_
 dsimp only [ai,List.map]
 refine Rv 62 c0 rfl d0 (fun _=>Ap rfl rfl)<|Rv 63 c0 rfl d0 (fun _=>AN rfl)<|AI (dk c0)<|Ao rfl<|AP hb0 func10 rfl rfl ?_
 cases h
 exact v0.gv
 refine Ay 4095 52 [(10,44),(11,45)] (F:=[(43,false)]) (U:=[]) c0 d0 (.cons rfl .nil) .nil ?_
 dsimp only [ai,List.map]
 refine Rv 12 c0 rfl d0 (fun _=>Ap rfl rfl)<|Rv 13 c0 rfl d0 (fun _=>Ai rfl)<|Ay 131071 47 [(14,48),(15,49),(16,50)] (F:=[(47,false)]) (U:=[]) c0 d0 (.cons rfl .nil) .nil ?_
 dsimp only [ai,List.map]
 refine Rv 17 c0 rfl d0 (fun _=>Ap rfl rfl)<|Rv 18 c0 rfl d0 (fun _=>Ai rfl)<|Ay 16777215 40 [(19,53),(20,54),(21,55),(22,56),(23,57)] (F:=[(52,false)]) (U:=[]) c0 d0 (.cons rfl .nil) .nil ?_
 dsimp only [ai,List.map]
 refine Rv 24 c0 rfl d0 (fun _=>Ap rfl rfl)<|Rv 25 c0 rfl d0 (fun _=>Ai rfl)<|Ay 268435455 36 [(26,60),(27,61)] (F:=[(59,false)]) (U:=[]) c0 d0 (.cons rfl .nil) .nil ?_
 dsimp only [ai,List.map]
 refine Rv 28 c0 rfl d0 (fun _=>Ap rfl rfl)<|Rv 29 c0 rfl d0 (fun _=>Ai rfl)<|Ay 34359738367 29 [(30,64),(31,65),(32,66),(33,67),(34,68)] (F:=[(63,false)]) (U:=[]) c0 d0 (.cons rfl .nil) .nil ?_
 dsimp only [ai,List.map]
 refine Rv 35 c0 rfl d0 (fun _=>Ap rfl rfl)<|Rv 36 c0 rfl d0 (fun _=>Ai rfl)<|Ay 35184372088831 19 [(37,71),(38,72),(39,73),(40,74),(41,75),(42,76),(43,77),(44,78)] (F:=[(70,false)]) (U:=[]) c0 d0 (.cons rfl .nil) .nil ?_
 dsimp only [ai,List.map]
 refine Rv 45 c0 rfl d0 (fun _=>Ap rfl rfl)<|Rv 46 c0 rfl d0 (fun _=>Ai rfl)<|Ay 4503599627370495 12 [(47,81),(48,82),(49,83),(50,84),(51,85)] (F:=[(80,false)]) (U:=[]) c0 d0 (.cons rfl .nil) .nil ?_
 dsimp only [ai,List.map]
 refine Rv 52 c0 rfl d0 (fun _=>Ap rfl rfl)<|Rv 53 c0 rfl d0 (fun _=>Ai rfl)<|Ay 72057594037927935 8 [(54,88),(55,89)] (F:=[(87,false)]) (U:=[]) c0 d0 (.cons rfl .nil) .nil ?_
 dsimp only [ai,List.map]
 refine Rv 56 c0 rfl d0 (fun _=>Ap rfl rfl)<|Rv 57 c0 rfl d0 (fun _=>Ai rfl)<|Ay 4611686018427387903 2 [(58,92),(59,93),(60,94),(61,95)] (F:=[(91,false)]) (U:=[]) c0 d0 (.cons rfl .nil) .nil ?_
 dsimp only [ai,List.map]
 refine Rv 62 c0 rfl d0 (fun _=>Ap rfl rfl)<|Rv 63 c0 rfl d0 (fun _=>AN rfl)<|AI (dk c0)<|Ao rfl<|AP hb0 func10 rfl rfl ?_
 cases h
 exact v0.gv
def bB_p (_n:Nat) (a0:ByteArray) (a1:Int):Option ByteArray:=
  repb a0 a1
theorem bB_c (n:Nat) {L w} (_hL:hl L w) {a0:ByteArray} {a1:Int}  {r:ByteArray} (h:bB_p n a0 a1 = some r) :
 Cl 39 #[.string a0,vI a1] w (ac w fun _ u=>u = .string r):=by
 exact dB h

def ao_l1 (_n:Nat) (d0:Nat × (List Ta) -> Option (List Ta)):Nat × (List Ta) -> Option (List Ta)
  | (b0,c0)=>(if b0 < 21 then (sadd ⟨#[110]⟩ (chr (w32 ((97 + b0:Nat):Int)))).bind fun g0=>(app c0 ([(⟨g0,(0:Int),9223372036854775808⟩:Ta)]:List Ta)).bind fun j0=>d0 (b0 + 1,j0) else some c0)
def ao_p (n:Nat):Option Bool:=
  (bp_p n).bind fun y1=>(if y1 = true then (aS_p n).bind fun y3=>Option.bind (au (ao_l1 n) n (0,([]:List Ta))) (fun b0=>jn (fun (c0,s0)=>(bB_p n ⟨#[120]⟩ (25:Int)).bind fun A0=>(aa_p n (4:Int) ([(⟨⟨#[]⟩,(0:Int),1⟩:Ta)]:List Ta)).bind fun B0=>(if B0 = 270 then (aa_p n (4:Int) ([(⟨A0,(0:Int),1⟩:Ta)]:List Ta)).bind fun C0=>(if C0 = 270 then (aa_p n (4:Int) ([(⟨⟨#[120,10]⟩,(0:Int),1⟩:Ta)]:List Ta)).bind fun D0=>(if D0 = 270 then (aa_p n (4:Int) ([(⟨⟨#[120,127]⟩,(0:Int),1⟩:Ta)]:List Ta)).bind fun E0=>(if E0 = 270 then (aa_p n (4:Int) ([(⟨⟨#[120]⟩,(0:Int),0⟩:Ta)]:List Ta)).bind fun F0=>(if F0 = 270 then (aa_p n (4:Int) ([(⟨⟨#[120]⟩,(-1:Int),1⟩:Ta)]:List Ta)).bind fun G0=>(if G0 = 270 then (aa_p n (4:Int) ([(⟨⟨#[120]⟩,(1001:Int),1⟩:Ta)]:List Ta)).bind fun H0=>(if H0 = 270 then (aa_p n (4:Int) ([(⟨⟨#[120]⟩,(0:Int),16⟩:Ta)]:List Ta)).bind fun I0=>(if I0 = 270 then (if s0 = true then (bB_p n ⟨#[126]⟩ (24:Int)).bind fun J0=>(aa_p n (4:Int) ([(⟨J0,(1000:Int),15⟩:Ta)]:List Ta)).bind fun K0=>(if K0 = 0 then (y3.2[0]?).bind fun g0=>(y3.2[1]?).bind fun t0=>(aa_p n (4:Int) ([g0,t0,g0]:List Ta)).bind fun M0=>(az_p n c0 y3.1 ([(0:Int),(0:Int),(0:Int),(0:Int)]:List Int) (2:Int)).bind fun P0=>(aE_p n c0 y3.1 ([(0:Int),(0:Int),(1:Int),(1:Int)]:List Int) (2:Int)).bind fun Q0=>(cut c0 0 1).bind fun u0=>(ah_p n u0 y3.1 ([(0:Int),(0:Int),(1:Int),(1:Int)]:List Int) (2:Int)).bind fun R0=>(av_p n ([]:List Ta) y3.1 ([(0:Int),(0:Int),(1:Int),(1:Int)]:List Int) (2:Int)).bind fun U0=>(av_p n ([(⟨⟨#[120]⟩,(0:Int),1⟩:Ta)]:List Ta) y3.1 ([(0:Int),(0:Int),(1:Int),(1:Int)]:List Int) (2:Int)).bind fun V0=>(ah_p n ([(⟨⟨#[120]⟩,(0:Int),7⟩:Ta),(⟨⟨#[121]⟩,(0:Int),15⟩:Ta)]:List Ta) (⟨(0:Int),(0:Int),(0:Int),([(⟨⟨#[97]⟩,(0:Int),([]:List Int),([]:List Int),([]:List Int),false⟩:Tc),(⟨⟨#[98]⟩,(0:Int),([]:List Int),([]:List Int),([]:List Int),false⟩:Tc),(⟨⟨#[99]⟩,(0:Int),([]:List Int),([]:List Int),([]:List Int),false⟩:Tc),(⟨⟨#[100]⟩,(1:Int),([]:List Int),([]:List Int),([]:List Int),false⟩:Tc)]:List Tc)⟩:Tg) ([(0:Int),(0:Int),(1:Int),(1:Int)]:List Int) (2:Int)).bind fun j0=>(if M0 = 270 then (if P0.2 = 220 then (if Q0.2 = 3 then (if R0.2 = 270 then (if U0.2 = 7 then (if V0.2 = 7 then (if j0.2 = 0 then (ax_p n (2:Int) (3:Int)).bind fun W0=>(ax_p n (1:Int) (1:Int)).bind fun X0=>(ae_p n j0.1 ([W0,X0]:List Tb)).bind fun Y0=>(if Y0 = true then (az_p n ([]:List Ta) y3.1 ([(0:Int),(0:Int),(1:Int),(1:Int)]:List Int) (2:Int)).bind fun k0=>(aN_p n k0.1 k0.2 ([]:List Bool)).bind fun Z0=>(if Z0 = true then (aK_p n (9223372036854775808:UInt64) (9223372036854775808:UInt64)).bind fun p0=>(ay_p n p0.1 p0.2 (1:Int) (1:Int)).bind fun b1=>(if b1 = true then (aK_p n (9223372036854775808:UInt64) (18446744073709551615:UInt64)).bind fun q0=>(ay_p n q0.1 q0.2 (1:Int) (64:Int)).bind fun c1=>some c1 else some false) else some false) else some false) else some false) else some false) else some false) else some false) else some false) else some false) else some false) else (az_p n c0 y3.1 ([(0:Int),(0:Int),(0:Int),(0:Int)]:List Int) (2:Int)).bind fun _y552=>(aE_p n c0 y3.1 ([(0:Int),(0:Int),(1:Int),(1:Int)]:List Int) (2:Int)).bind fun _y574=>(cut c0 0 1).bind fun v0=>(ah_p n v0 y3.1 ([(0:Int),(0:Int),(1:Int),(1:Int)]:List Int) (2:Int)).bind fun _y598=>(av_p n ([]:List Ta) y3.1 ([(0:Int),(0:Int),(1:Int),(1:Int)]:List Int) (2:Int)).bind fun _y608=>(av_p n ([(⟨⟨#[120]⟩,(0:Int),1⟩:Ta)]:List Ta) y3.1 ([(0:Int),(0:Int),(1:Int),(1:Int)]:List Int) (2:Int)).bind fun _y626=>(ah_p n ([(⟨⟨#[120]⟩,(0:Int),7⟩:Ta),(⟨⟨#[121]⟩,(0:Int),15⟩:Ta)]:List Ta) (⟨(0:Int),(0:Int),(0:Int),([(⟨⟨#[97]⟩,(0:Int),([]:List Int),([]:List Int),([]:List Int),false⟩:Tc),(⟨⟨#[98]⟩,(0:Int),([]:List Int),([]:List Int),([]:List Int),false⟩:Tc),(⟨⟨#[99]⟩,(0:Int),([]:List Int),([]:List Int),([]:List Int),false⟩:Tc),(⟨⟨#[100]⟩,(1:Int),([]:List Int),([]:List Int),([]:List Int),false⟩:Tc)]:List Tc)⟩:Tg) ([(0:Int),(0:Int),(1:Int),(1:Int)]:List Int) (2:Int)).bind fun _y661=>some false) else (az_p n c0 y3.1 ([(0:Int),(0:Int),(0:Int),(0:Int)]:List Int) (2:Int)).bind fun _y690=>(aE_p n c0 y3.1 ([(0:Int),(0:Int),(1:Int),(1:Int)]:List Int) (2:Int)).bind fun _y712=>(cut c0 0 1).bind fun x0=>(ah_p n x0 y3.1 ([(0:Int),(0:Int),(1:Int),(1:Int)]:List Int) (2:Int)).bind fun _y736=>(av_p n ([]:List Ta) y3.1 ([(0:Int),(0:Int),(1:Int),(1:Int)]:List Int) (2:Int)).bind fun _y746=>(av_p n ([(⟨⟨#[120]⟩,(0:Int),1⟩:Ta)]:List Ta) y3.1 ([(0:Int),(0:Int),(1:Int),(1:Int)]:List Int) (2:Int)).bind fun _y764=>(ah_p n ([(⟨⟨#[120]⟩,(0:Int),7⟩:Ta),(⟨⟨#[121]⟩,(0:Int),15⟩:Ta)]:List Ta) (⟨(0:Int),(0:Int),(0:Int),([(⟨⟨#[97]⟩,(0:Int),([]:List Int),([]:List Int),([]:List Int),false⟩:Tc),(⟨⟨#[98]⟩,(0:Int),([]:List Int),([]:List Int),([]:List Int),false⟩:Tc),(⟨⟨#[99]⟩,(0:Int),([]:List Int),([]:List Int),([]:List Int),false⟩:Tc),(⟨⟨#[100]⟩,(1:Int),([]:List Int),([]:List Int),([]:List Int),false⟩:Tc)]:List Tc)⟩:Tg) ([(0:Int),(0:Int),(1:Int),(1:Int)]:List Int) (2:Int)).bind fun _y799=>some false) else some false) else some false) else some false) else some false) else some false) else some false) else some false) else some false)) (fun d0=>(cut b0 0 20).bind fun y0=>(aa_p n (64:Int) y0).bind fun d1=>(if d1 = 0 then (aa_p n (64:Int) b0).bind fun g1=>(if g1 = 3 then (cut b0 0 1).bind fun z0=>(aa_p n (63:Int) z0).bind fun j1=>(if j1 = 270 then (aa_p n (0:Int) b0).bind fun k1=>(if k1 = 2 then (aa_p n (65:Int) ([]:List Ta)).bind fun p1=>(if p1 = 2 then (aa_p n (1:Int) ([]:List Ta)).bind fun q1=>d0 (b0,(decide (q1 = 0))) else d0 (b0,false)) else d0 (b0,false)) else d0 (b0,false)) else d0 (b0,false)) else d0 (b0,false)))) else some false)
theorem ao_c (n:Nat) {L w} (hL:hl L w) (hG0:Glob 0 tab0 w)  {r:Bool} (h:ao_p n = some r) :
 Cl 9 #[] w (ac w fun _ u=>u = .bool r):=by
 unfold ao_p at h
 have hS0:=AB w
 refine AF func9 rfl rfl rfl fun _ cs0 hb0=>Ac<|Ah rfl<|Aa<|Aj<|Ac<|bk h fun y1 hy1 h=>AY (.bool y1) (bd 10) rfl ah (fun p q=>bp_c n (hS0.hL0 hL q) (hG0.keep (hS0.ag.trans q)) hy1) rfl<|Ab (BC rfl)<|Aa<|MX.ifnb rfl h (fun c2 h=>?_) (fun c2 h=>?_)
 refine Aq<|Ac<|bk h fun y3 hy3 h=>jE (bd 38) rfl ah (fun p q=>cU (b0:=w.heap.size) (aS_c n (hS0.hL hL q)  hy3) q (Nat.le_trans hS0.ag.size q.size)) rfl fun w4 vu5 hag6 ⟨E0,J2,P2,Q2,hu8,s7,I00,J00⟩=>?_
 subst hu8
 have hS9:=dg hS0 s7
 have k04:=er hS0 s7
 have u5:=AG (cs:=P2) (xs:=(y3.1.fm:List Tc)) hS9 L (bQ I00)
 refine Ae rfl<|Ab (Ag rfl rfl)<|Ab (Ag rfl rfl)<|RG.nl [vI 0,vI 0,vI 0,vN] hS9 fun w22 s2 U5 I4=>AR [vI y3.1.fl,vI y3.1.fh,vI y3.1.fj,E0] U5 .hd (o4 rfl rfl rfl (St.o1 (α:=Tc) U5 .t1)) fun w26 G9 J4=>Ah rfl<|Aa<|Ac<|Al .plain rfl (AL (α:=Int) (xs:=([(0:Int),(0:Int),(1:Int),(1:Int)]:List Int)) (vs:=[vI 0,vI 0,vI 1,vI 1]) (ds' :=[vI 0,vI 0,vI 1,vI 1]) rfl G9 fF rfl (e4 rfl rfl rfl rfl) (by kernel_rfl) rfl) fun w30 U0 E4 K4=>?_
 have v5:=AG (cs:=[vI 0,vI 0,vI 1,vI 1]) (xs:=(([(0:Int),(0:Int),(1:Int),(1:Int)]:List Int):List Int)) E4 L (Ak (cs:=[vI 0]) (ds:=[vI 0,vI 1,vI 1]) rfl (Ak (cs:=[vI 0]) (ds:=[vI 1,vI 1]) rfl (Ak (cs:=[vI 1]) (ds:=[vI 1]) rfl (Ak (cs:=[vI 1]) (ds:=[]) rfl (AJ _ _)))))
 refine Ah rfl<|Aa<|Ac<|Ah rfl<|Aa<|Aj<|Ac<|Ae rfl<|Aa<|Av ?_
 have Y5:=E4.nilRow 65 (Rep.size Ta)
 have B2:=St.nilRowT E4 65 (Rep.size Ta)
 obtain ⟨o95,R00,P00⟩:=ar h
 refine MX.lf (α:=Nat × (List Ta) × Value × (List Value)) (fun ⟨D0,y0,z0,k2⟩=>[(1,vP s2),(2,J2),(3,(vS U0 4)),(4,z0),(29,vI ((D0:Nat):Int))]) (fun ⟨D0,y0,z0,k2⟩=>[rr w 65 Ta z0 y0.length k2,rr w 3 Int (vS U0 4) (([(0:Int),(0:Int),(1:Int),(1:Int)]:List Int).length) [vI 0,vI 0,vI 1,vI 1],.cells s2 [vI y3.1.fl,vI y3.1.fh,vI y3.1.fj,E0] 58,rr w 96 Tc E0 y3.1.fm.length P2,rr w 65 Ta J2 y3.2.length Q2]) (fun ⟨D0,y0,z0,k2⟩ I7=>Cells I7 (bl [rr w 65 Ta z0 y0.length k2,rr w 3 Int (vS U0 4) (([(0:Int),(0:Int),(1:Int),(1:Int)]:List Int).length) [vI 0,vI 0,vI 1,vI 1],.cells s2 [vI y3.1.fl,vI y3.1.fh,vI y3.1.fj,E0] 58,rr w 96 Tc E0 y3.1.fm.length P2,rr w 65 Ta J2 y3.2.length Q2] ++ L) k2 y0) (fun ⟨D0,y0,z0,k2⟩=>(D0,y0)) (0,([]:List Ta),vN,[]) R00 Y5 (AG (cs:=[]) (xs:=([]:List Ta)) Y5 L (AJ _ _)) ?_
 rintro J97 ⟨D0,y0,z0,k2⟩ I7 k9 p3 q2 Y6 h
 unfold ao_l1 at h
 try dsimp only at h
 refine Ac<|Ab (Bc (i:=D0) (j:=21) rfl rfl)<|Aa<|Aj<|AV rfl h (fun g9 h=>?_) (fun g9 h=>?_)
 refine Aq<|Aj<|Av<|Ac<|Ae rfl<|Ah rfl<|Aa<|Ar<|Ae rfl<|Ae rfl<|Ab (Bo (i:=97) (j:=D0) rfl rfl (by omega))<|Ab (FV.conv32 (i:=((97 + D0:Nat):Int)) underlying3 underlying21 rfl)<|Ab (FV.conv32S (i:=w32 ((97 + D0:Nat):Int)) underlying21 underlying9 rfl)<|bk h fun P0 g01 h=>Ab (FV.addS g01 rfl rfl)<|Ab (AE (vs:=[.string P0,vW 9223372036854775808]) (u:=.agg #[.string P0,vI 0,vW 9223372036854775808]) (e2 rfl rfl) (fun p=>by kernel_rfl))<|Al .plain rfl (AL (α:=Ta) (xs:=([(⟨P0,(0:Int),9223372036854775808⟩:Ta)]:List Ta)) (vs:=[.agg #[.string P0,vI 0,vW 9223372036854775808]]) (ds' :=[.string P0,vI 0,vW 9223372036854775808]) rfl p3 bw rfl (e1 rfl) (by kernel_rfl) rfl) fun P05 g03 D4 k6=>bk h fun Q02 t01 h=>RG.doesL .plain rfl (DoesL.app (α:=Ta) (ys:=([(⟨P0,(0:Int),9223372036854775808⟩:Ta)]:List Ta)) t01 D4 (fun _ _=>.t1) bw rfl rfl (AX Y6 k6) (Src.row (α:=Ta) D4 .hd (AG (cs:=[.string P0,vI 0,vW 9223372036854775808]) (xs:=(([(⟨P0,(0:Int),9223372036854775808⟩:Ta)]:List Ta):List Ta)) D4 L (Ak (cs:=[.string P0,vI 0,vW 9223372036854775808]) (ds:=[]) (aH P0 (0:Int) (9223372036854775808:UInt64)) (AJ _ _))))) fun J02 Q05 ⟨j9,p9,d00,H00⟩=>Ah rfl<|Aa<|Aw<|Ar<|Ab (Bo (i:=D0) (j:=1) rfl rfl (by omega))<|Ae rfl<|Aa ?_
 obtain ⟨q9,p6⟩:=AQ p9 .d1
 exact k9 (D0 + 1,Q02,J02,j9) q9 (Tt q2 (Tt k6 (Tt d00 p6))) (AX H00 p6) h
 refine Ba rfl ?_
 have h:=P00 _ h
 try dsimp only at h
 refine Aj<|MX.jf (α:=(List Ta) × Bool × Value) (fun ⟨M2,I2,K2⟩=>[(1,vP s2),(2,J2),(3,(vS U0 4)),(4,K2),(6,.bool I2)]) (fun ⟨M2,I2,K2⟩=>[rr w 3 Int (vS U0 4) (([(0:Int),(0:Int),(1:Int),(1:Int)]:List Int).length) [vI 0,vI 0,vI 1,vI 1],.cells s2 [vI y3.1.fl,vI y3.1.fh,vI y3.1.fj,E0] 58,rr w 96 Tc E0 y3.1.fm.length P2,rr w 65 Ta J2 y3.2.length Q2]) (fun ⟨M2,I2,K2⟩ H7=>Rep.R H7 (bl [rr w 3 Int (vS U0 4) (([(0:Int),(0:Int),(1:Int),(1:Int)]:List Int).length) [vI 0,vI 0,vI 1,vI 1],.cells s2 [vI y3.1.fl,vI y3.1.fh,vI y3.1.fj,E0] 58,rr w 96 Tc E0 y3.1.fm.length P2,rr w 65 Ta J2 y3.2.length Q2] ++ L) [K2] M2) (fun ⟨M2,I2,K2⟩=>(M2,I2)) p3 h ?_ ?_
 rintro ⟨M2,I2,K2⟩ H7 J5 z2 U1 h
 try dsimp only at h
 refine Aj<|Ac<|Ab (AE (vs:=[vW 1]) (u:=.agg #[.string ⟨#[]⟩,vI 0,vW 1]) (e1 rfl) (fun p=>by kernel_rfl))<|bk h fun u0 A01 h=>AY (.string u0) (bd 39) rfl (e2 rfl rfl) (fun p q=>bB_c n (J5.hL0 hL q)  A01) rfl<|Ab (AE (vs:=[.string u0,vW 1]) (u:=.agg #[.string u0,vI 0,vW 1]) (e2 rfl rfl) (fun p=>by kernel_rfl))<|Ab (AE (vs:=[.string ⟨#[120,10]⟩,vW 1]) (u:=.agg #[.string ⟨#[120,10]⟩,vI 0,vW 1]) (e2 rfl rfl) (fun p=>by kernel_rfl))<|Ab (AE (vs:=[.string ⟨#[120,127]⟩,vW 1]) (u:=.agg #[.string ⟨#[120,127]⟩,vI 0,vW 1]) (e2 rfl rfl) (fun p=>by kernel_rfl))<|Ab (AE (vs:=[.string ⟨#[120]⟩]) (u:=.agg #[.string ⟨#[120]⟩,vI 0,vW 0]) (e1 rfl) (fun p=>by kernel_rfl))<|Ab (AE (vs:=[.string ⟨#[120]⟩,vI (-1),vW 1]) (u:=.agg #[.string ⟨#[120]⟩,vI (-1),vW 1]) (e3 rfl rfl rfl) (fun p=>by kernel_rfl))<|Ab (AE (vs:=[.string ⟨#[120]⟩,vI 1001,vW 1]) (u:=.agg #[.string ⟨#[120]⟩,vI 1001,vW 1]) (e3 rfl rfl rfl) (fun p=>by kernel_rfl))<|Ab (AE (vs:=[.string ⟨#[120]⟩,vW 16]) (u:=.agg #[.string ⟨#[120]⟩,vI 0,vW 16]) (e2 rfl rfl) (fun p=>by kernel_rfl))<|Ab (AE (vs:=[.agg #[.string ⟨#[]⟩,vI 0,vW 1],.agg #[.string u0,vI 0,vW 1],.agg #[.string ⟨#[120,10]⟩,vI 0,vW 1],.agg #[.string ⟨#[120,127]⟩,vI 0,vW 1],.agg #[.string ⟨#[120]⟩,vI 0,vW 0],.agg #[.string ⟨#[120]⟩,vI (-1),vW 1],.agg #[.string ⟨#[120]⟩,vI 1001,vW 1],.agg #[.string ⟨#[120]⟩,vI 0,vW 16]]) (u:=.agg #[.string ⟨#[]⟩,vI 0,vW 1,.string u0,vI 0,vW 1,.string ⟨#[120,10]⟩,vI 0,vW 1,.string ⟨#[120,127]⟩,vI 0,vW 1,.string ⟨#[120]⟩,vI 0,vW 0,.string ⟨#[120]⟩,vI (-1),vW 1,.string ⟨#[120]⟩,vI 1001,vW 1,.string ⟨#[120]⟩,vI 0,vW 16]) (e8 rfl rfl rfl rfl rfl rfl rfl rfl) (fun p=>by kernel_rfl))<|Ae rfl<|Aa<|Av<|MX.loop1<|Ac<|Ab (Bc (i:=0) (j:=8) rfl rfl)<|Aa<|Aj<|Bb rfl<|Aq<|Aj<|Av<|Ac<|Ab (FV.idxN (cs:=[.string ⟨#[]⟩,vI 0,vW 1,.string u0,vI 0,vW 1,.string ⟨#[120,10]⟩,vI 0,vW 1,.string ⟨#[120,127]⟩,vI 0,vW 1,.string ⟨#[120]⟩,vI 0,vW 0,.string ⟨#[120]⟩,vI (-1),vW 1,.string ⟨#[120]⟩,vI 1001,vW 1,.string ⟨#[120]⟩,vI 0,vW 16]) (k:=0) (m:=3) (len:=8) rfl rfl rfl rfl rfl (by omega) rfl)<|RG.nl [.string ⟨#[]⟩,vI 0,vW 0] J5 fun R05 j03 s9 V0=>AR [.string ⟨#[]⟩,vI 0,vW 1] s9 .hd (aj rfl) fun U05 K5 W0=>Aa<|Ac<|Ab (AH rfl (K5.memA .hd))<|Al .plain rfl (AL (α:=Ta) (xs:=([(⟨⟨#[]⟩,(0:Int),1⟩:Ta)]:List Ta)) (vs:=[.agg #[.string ⟨#[]⟩,vI 0,vW 1]]) (ds' :=[.string ⟨#[]⟩,vI 0,vW 1]) rfl K5 bw rfl (e1 rfl) (by kernel_rfl) rfl) fun V05 k03 R2 X0=>bk h fun J7 B01 h=>AY (vI J7) (bd 13) rfl (e2 rfl rfl) (fun p q=>aa_c n (R2.hL0 hL q) (Am (St.lend (α:=Ta) (L:=L) R2 .hd (AG (cs:=[.string ⟨#[]⟩,vI 0,vW 1]) (xs:=(([(⟨⟨#[]⟩,(0:Int),1⟩:Ta)]:List Ta):List Ta)) R2 L (Ak (cs:=[.string ⟨#[]⟩,vI 0,vW 1]) (ds:=[]) (aH ⟨#[]⟩ (0:Int) (1:UInt64)) (AJ _ _))) hL) q) B01) rfl<|Ab (FV.neq (i:=J7) (j:=270) rfl rfl)<|Aa<|MX.ifn rfl h (fun z8 h=>?_) (fun z8 h=>?_)
 refine Aq<|Aw<|Ar<|Ab (FV.add (i:=0) (j:=1) (r:=1) rfl rfl (by decide))<|Ae rfl<|Aa<|MX.again1 ?_
 obtain ⟨t9,Y0⟩:=AQ R2 .d2
 refine Ac<|Ab (Bc (i:=1) (j:=8) rfl rfl)<|Aa<|Aj<|Bb rfl<|Aq<|Aj<|Av<|Ac<|Ab (FV.idxN (cs:=[.string ⟨#[]⟩,vI 0,vW 1,.string u0,vI 0,vW 1,.string ⟨#[120,10]⟩,vI 0,vW 1,.string ⟨#[120,127]⟩,vI 0,vW 1,.string ⟨#[120]⟩,vI 0,vW 0,.string ⟨#[120]⟩,vI (-1),vW 1,.string ⟨#[120]⟩,vI 1001,vW 1,.string ⟨#[120]⟩,vI 0,vW 16]) (k:=1) (m:=3) (len:=8) rfl rfl rfl rfl rfl (by omega) rfl)<|RG.nl [.string ⟨#[]⟩,vI 0,vW 0] t9 fun W05 p03 u9 Z0=>AR [.string u0,vI 0,vW 1] u9 .hd (aj rfl) fun X05 M5 b1=>Aa<|Ac<|Ab (AH rfl (M5.memA .hd))<|Al .plain rfl (AL (α:=Ta) (xs:=([(⟨u0,(0:Int),1⟩:Ta)]:List Ta)) (vs:=[.agg #[.string u0,vI 0,vW 1]]) (ds' :=[.string u0,vI 0,vW 1]) rfl M5 bw rfl (e1 rfl) (by kernel_rfl) rfl) fun Y05 q03 U2 c1=>bk h fun K7 C01 h=>AY (vI K7) (bd 13) rfl (e2 rfl rfl) (fun p q=>aa_c n (U2.hL0 hL q) (Am (St.lend (α:=Ta) (L:=L) U2 .hd (AG (cs:=[.string u0,vI 0,vW 1]) (xs:=(([(⟨u0,(0:Int),1⟩:Ta)]:List Ta):List Ta)) U2 L (Ak (cs:=[.string u0,vI 0,vW 1]) (ds:=[]) (aH u0 (0:Int) (1:UInt64)) (AJ _ _))) hL) q) C01) rfl<|Ab (FV.neq (i:=K7) (j:=270) rfl rfl)<|Aa<|MX.ifn rfl h (fun A8 h=>?_) (fun A8 h=>?_)
 refine Aq<|Aw<|Ar<|Ab (FV.add (i:=1) (j:=1) (r:=2) rfl rfl (by decide))<|Ae rfl<|Aa<|MX.again1 ?_
 obtain ⟨v9,g1⟩:=AQ U2 .d2
 refine Ac<|Ab (Bc (i:=2) (j:=8) rfl rfl)<|Aa<|Aj<|Bb rfl<|Aq<|Aj<|Av<|Ac<|Ab (FV.idxN (cs:=[.string ⟨#[]⟩,vI 0,vW 1,.string u0,vI 0,vW 1,.string ⟨#[120,10]⟩,vI 0,vW 1,.string ⟨#[120,127]⟩,vI 0,vW 1,.string ⟨#[120]⟩,vI 0,vW 0,.string ⟨#[120]⟩,vI (-1),vW 1,.string ⟨#[120]⟩,vI 1001,vW 1,.string ⟨#[120]⟩,vI 0,vW 16]) (k:=2) (m:=3) (len:=8) rfl rfl rfl rfl rfl (by omega) rfl)<|RG.nl [.string ⟨#[]⟩,vI 0,vW 0] v9 fun Z05 s03 x9 j1=>AR [.string ⟨#[120,10]⟩,vI 0,vW 1] x9 .hd (aj rfl) fun b06 P5 k1=>Aa<|Ac<|Ab (AH rfl (P5.memA .hd))<|Al .plain rfl (AL (α:=Ta) (xs:=([(⟨⟨#[120,10]⟩,(0:Int),1⟩:Ta)]:List Ta)) (vs:=[.agg #[.string ⟨#[120,10]⟩,vI 0,vW 1]]) (ds' :=[.string ⟨#[120,10]⟩,vI 0,vW 1]) rfl P5 bw rfl (e1 rfl) (by kernel_rfl) rfl) fun c06 t03 V2 p1=>bk h fun M7 D01 h=>AY (vI M7) (bd 13) rfl (e2 rfl rfl) (fun p q=>aa_c n (V2.hL0 hL q) (Am (St.lend (α:=Ta) (L:=L) V2 .hd (AG (cs:=[.string ⟨#[120,10]⟩,vI 0,vW 1]) (xs:=(([(⟨⟨#[120,10]⟩,(0:Int),1⟩:Ta)]:List Ta):List Ta)) V2 L (Ak (cs:=[.string ⟨#[120,10]⟩,vI 0,vW 1]) (ds:=[]) (aH ⟨#[120,10]⟩ (0:Int) (1:UInt64)) (AJ _ _))) hL) q) D01) rfl<|Ab (FV.neq (i:=M7) (j:=270) rfl rfl)<|Aa<|MX.ifn rfl h (fun B8 h=>?_) (fun B8 h=>?_)
 refine Aq<|Aw<|Ar<|Ab (FV.add (i:=2) (j:=1) (r:=3) rfl rfl (by decide))<|Ae rfl<|Aa<|MX.again1 ?_
 obtain ⟨y9,q1⟩:=AQ V2 .d2
 refine Ac<|Ab (Bc (i:=3) (j:=8) rfl rfl)<|Aa<|Aj<|Bb rfl<|Aq<|Aj<|Av<|Ac<|Ab (FV.idxN (cs:=[.string ⟨#[]⟩,vI 0,vW 1,.string u0,vI 0,vW 1,.string ⟨#[120,10]⟩,vI 0,vW 1,.string ⟨#[120,127]⟩,vI 0,vW 1,.string ⟨#[120]⟩,vI 0,vW 0,.string ⟨#[120]⟩,vI (-1),vW 1,.string ⟨#[120]⟩,vI 1001,vW 1,.string ⟨#[120]⟩,vI 0,vW 16]) (k:=3) (m:=3) (len:=8) rfl rfl rfl rfl rfl (by omega) rfl)<|RG.nl [.string ⟨#[]⟩,vI 0,vW 0] y9 fun d06 u03 z9 s1=>AR [.string ⟨#[120,127]⟩,vI 0,vW 1] z9 .hd (aj rfl) fun g06 Q5 u1=>Aa<|Ac<|Ab (AH rfl (Q5.memA .hd))<|Al .plain rfl (AL (α:=Ta) (xs:=([(⟨⟨#[120,127]⟩,(0:Int),1⟩:Ta)]:List Ta)) (vs:=[.agg #[.string ⟨#[120,127]⟩,vI 0,vW 1]]) (ds' :=[.string ⟨#[120,127]⟩,vI 0,vW 1]) rfl Q5 bw rfl (e1 rfl) (by kernel_rfl) rfl) fun j06 v03 W2 v1=>bk h fun P7 E01 h=>AY (vI P7) (bd 13) rfl (e2 rfl rfl) (fun p q=>aa_c n (W2.hL0 hL q) (Am (St.lend (α:=Ta) (L:=L) W2 .hd (AG (cs:=[.string ⟨#[120,127]⟩,vI 0,vW 1]) (xs:=(([(⟨⟨#[120,127]⟩,(0:Int),1⟩:Ta)]:List Ta):List Ta)) W2 L (Ak (cs:=[.string ⟨#[120,127]⟩,vI 0,vW 1]) (ds:=[]) (aH ⟨#[120,127]⟩ (0:Int) (1:UInt64)) (AJ _ _))) hL) q) E01) rfl<|Ab (FV.neq (i:=P7) (j:=270) rfl rfl)<|Aa<|MX.ifn rfl h (fun C8 h=>?_) (fun C8 h=>?_)
 refine Aq<|Aw<|Ar<|Ab (FV.add (i:=3) (j:=1) (r:=4) rfl rfl (by decide))<|Ae rfl<|Aa<|MX.again1 ?_
 obtain ⟨A9,x1⟩:=AQ W2 .d2
 refine Ac<|Ab (Bc (i:=4) (j:=8) rfl rfl)<|Aa<|Aj<|Bb rfl<|Aq<|Aj<|Av<|Ac<|Ab (FV.idxN (cs:=[.string ⟨#[]⟩,vI 0,vW 1,.string u0,vI 0,vW 1,.string ⟨#[120,10]⟩,vI 0,vW 1,.string ⟨#[120,127]⟩,vI 0,vW 1,.string ⟨#[120]⟩,vI 0,vW 0,.string ⟨#[120]⟩,vI (-1),vW 1,.string ⟨#[120]⟩,vI 1001,vW 1,.string ⟨#[120]⟩,vI 0,vW 16]) (k:=4) (m:=3) (len:=8) rfl rfl rfl rfl rfl (by omega) rfl)<|RG.nl [.string ⟨#[]⟩,vI 0,vW 0] A9 fun p06 x03 B9 z1=>AR [.string ⟨#[120]⟩,vI 0,vW 0] B9 .hd (aj rfl) fun q06 R5 A1=>Aa<|Ac<|Ab (AH rfl (R5.memA .hd))<|Al .plain rfl (AL (α:=Ta) (xs:=([(⟨⟨#[120]⟩,(0:Int),0⟩:Ta)]:List Ta)) (vs:=[.agg #[.string ⟨#[120]⟩,vI 0,vW 0]]) (ds' :=[.string ⟨#[120]⟩,vI 0,vW 0]) rfl R5 bw rfl (e1 rfl) (by kernel_rfl) rfl) fun s06 y03 X2 B1=>bk h fun Q7 F01 h=>AY (vI Q7) (bd 13) rfl (e2 rfl rfl) (fun p q=>aa_c n (X2.hL0 hL q) (Am (St.lend (α:=Ta) (L:=L) X2 .hd (AG (cs:=[.string ⟨#[120]⟩,vI 0,vW 0]) (xs:=(([(⟨⟨#[120]⟩,(0:Int),0⟩:Ta)]:List Ta):List Ta)) X2 L (Ak (cs:=[.string ⟨#[120]⟩,vI 0,vW 0]) (ds:=[]) (aH ⟨#[120]⟩ (0:Int) (0:UInt64)) (AJ _ _))) hL) q) F01) rfl<|Ab (FV.neq (i:=Q7) (j:=270) rfl rfl)<|Aa<|MX.ifn rfl h (fun D8 h=>?_) (fun D8 h=>?_)
 refine Aq<|Aw<|Ar<|Ab (FV.add (i:=4) (j:=1) (r:=5) rfl rfl (by decide))<|Ae rfl<|Aa<|MX.again1 ?_
 obtain ⟨C9,C1⟩:=AQ X2 .d2
 refine Ac<|Ab (Bc (i:=5) (j:=8) rfl rfl)<|Aa<|Aj<|Bb rfl<|Aq<|Aj<|Av<|Ac<|Ab (FV.idxN (cs:=[.string ⟨#[]⟩,vI 0,vW 1,.string u0,vI 0,vW 1,.string ⟨#[120,10]⟩,vI 0,vW 1,.string ⟨#[120,127]⟩,vI 0,vW 1,.string ⟨#[120]⟩,vI 0,vW 0,.string ⟨#[120]⟩,vI (-1),vW 1,.string ⟨#[120]⟩,vI 1001,vW 1,.string ⟨#[120]⟩,vI 0,vW 16]) (k:=5) (m:=3) (len:=8) rfl rfl rfl rfl rfl (by omega) rfl)<|RG.nl [.string ⟨#[]⟩,vI 0,vW 0] C9 fun t06 z03 D9 D1=>AR [.string ⟨#[120]⟩,vI (-1),vW 1] D9 .hd (aj rfl) fun u06 V5 E1=>Aa<|Ac<|Ab (AH rfl (V5.memA .hd))<|Al .plain rfl (AL (α:=Ta) (xs:=([(⟨⟨#[120]⟩,(-1:Int),1⟩:Ta)]:List Ta)) (vs:=[.agg #[.string ⟨#[120]⟩,vI (-1),vW 1]]) (ds' :=[.string ⟨#[120]⟩,vI (-1),vW 1]) rfl V5 bw rfl (e1 rfl) (by kernel_rfl) rfl) fun v06 A03 Y2 F1=>bk h fun R7 G01 h=>AY (vI R7) (bd 13) rfl (e2 rfl rfl) (fun p q=>aa_c n (Y2.hL0 hL q) (Am (St.lend (α:=Ta) (L:=L) Y2 .hd (AG (cs:=[.string ⟨#[120]⟩,vI (-1),vW 1]) (xs:=(([(⟨⟨#[120]⟩,(-1:Int),1⟩:Ta)]:List Ta):List Ta)) Y2 L (Ak (cs:=[.string ⟨#[120]⟩,vI (-1),vW 1]) (ds:=[]) (aH ⟨#[120]⟩ (-1:Int) (1:UInt64)) (AJ _ _))) hL) q) G01) rfl<|Ab (FV.neq (i:=R7) (j:=270) rfl rfl)<|Aa<|MX.ifn rfl h (fun E8 h=>?_) (fun E8 h=>?_)
 refine Aq<|Aw<|Ar<|Ab (FV.add (i:=5) (j:=1) (r:=6) rfl rfl (by decide))<|Ae rfl<|Aa<|MX.again1 ?_
 obtain ⟨E9,G1⟩:=AQ Y2 .d2
 refine Ac<|Ab (Bc (i:=6) (j:=8) rfl rfl)<|Aa<|Aj<|Bb rfl<|Aq<|Aj<|Av<|Ac<|Ab (FV.idxN (cs:=[.string ⟨#[]⟩,vI 0,vW 1,.string u0,vI 0,vW 1,.string ⟨#[120,10]⟩,vI 0,vW 1,.string ⟨#[120,127]⟩,vI 0,vW 1,.string ⟨#[120]⟩,vI 0,vW 0,.string ⟨#[120]⟩,vI (-1),vW 1,.string ⟨#[120]⟩,vI 1001,vW 1,.string ⟨#[120]⟩,vI 0,vW 16]) (k:=6) (m:=3) (len:=8) rfl rfl rfl rfl rfl (by omega) rfl)<|RG.nl [.string ⟨#[]⟩,vI 0,vW 0] E9 fun y06 B03 F9 H1=>AR [.string ⟨#[120]⟩,vI 1001,vW 1] F9 .hd (aj rfl) fun z06 W5 I1=>Aa<|Ac<|Ab (AH rfl (W5.memA .hd))<|Al .plain rfl (AL (α:=Ta) (xs:=([(⟨⟨#[120]⟩,(1001:Int),1⟩:Ta)]:List Ta)) (vs:=[.agg #[.string ⟨#[120]⟩,vI 1001,vW 1]]) (ds' :=[.string ⟨#[120]⟩,vI 1001,vW 1]) rfl W5 bw rfl (e1 rfl) (by kernel_rfl) rfl) fun A06 C03 Z2 J1=>bk h fun U7 H01 h=>AY (vI U7) (bd 13) rfl (e2 rfl rfl) (fun p q=>aa_c n (Z2.hL0 hL q) (Am (St.lend (α:=Ta) (L:=L) Z2 .hd (AG (cs:=[.string ⟨#[120]⟩,vI 1001,vW 1]) (xs:=(([(⟨⟨#[120]⟩,(1001:Int),1⟩:Ta)]:List Ta):List Ta)) Z2 L (Ak (cs:=[.string ⟨#[120]⟩,vI 1001,vW 1]) (ds:=[]) (aH ⟨#[120]⟩ (1001:Int) (1:UInt64)) (AJ _ _))) hL) q) H01) rfl<|Ab (FV.neq (i:=U7) (j:=270) rfl rfl)<|Aa<|MX.ifn rfl h (fun F8 h=>?_) (fun F8 h=>?_)
 refine Aq<|Aw<|Ar<|Ab (FV.add (i:=6) (j:=1) (r:=7) rfl rfl (by decide))<|Ae rfl<|Aa<|MX.again1 ?_
 obtain ⟨H9,K1⟩:=AQ Z2 .d2
 refine Ac<|Ab (Bc (i:=7) (j:=8) rfl rfl)<|Aa<|Aj<|Bb rfl<|Aq<|Aj<|Av<|Ac<|Ab (FV.idxN (cs:=[.string ⟨#[]⟩,vI 0,vW 1,.string u0,vI 0,vW 1,.string ⟨#[120,10]⟩,vI 0,vW 1,.string ⟨#[120,127]⟩,vI 0,vW 1,.string ⟨#[120]⟩,vI 0,vW 0,.string ⟨#[120]⟩,vI (-1),vW 1,.string ⟨#[120]⟩,vI 1001,vW 1,.string ⟨#[120]⟩,vI 0,vW 16]) (k:=7) (m:=3) (len:=8) rfl rfl rfl rfl rfl (by omega) rfl)<|RG.nl [.string ⟨#[]⟩,vI 0,vW 0] H9 fun B06 D03 I9 M1=>AR [.string ⟨#[120]⟩,vI 0,vW 16] I9 .hd (aj rfl) fun C06 X5 P1=>Aa<|Ac<|Ab (AH rfl (X5.memA .hd))<|Al .plain rfl (AL (α:=Ta) (xs:=([(⟨⟨#[120]⟩,(0:Int),16⟩:Ta)]:List Ta)) (vs:=[.agg #[.string ⟨#[120]⟩,vI 0,vW 16]]) (ds' :=[.string ⟨#[120]⟩,vI 0,vW 16]) rfl X5 bw rfl (e1 rfl) (by kernel_rfl) rfl) fun D06 E03 b3 Q1=>bk h fun V7 I01 h=>AY (vI V7) (bd 13) rfl (e2 rfl rfl) (fun p q=>aa_c n (b3.hL0 hL q) (Am (St.lend (α:=Ta) (L:=L) b3 .hd (AG (cs:=[.string ⟨#[120]⟩,vI 0,vW 16]) (xs:=(([(⟨⟨#[120]⟩,(0:Int),16⟩:Ta)]:List Ta):List Ta)) b3 L (Ak (cs:=[.string ⟨#[120]⟩,vI 0,vW 16]) (ds:=[]) (aH ⟨#[120]⟩ (0:Int) (16:UInt64)) (AJ _ _))) hL) q) I01) rfl<|Ab (FV.neq (i:=V7) (j:=270) rfl rfl)<|Aa<|MX.ifn rfl h (fun G8 h=>?_) (fun G8 h=>?_)
 refine Aq<|Aw<|Ar<|Ab (FV.add (i:=7) (j:=1) (r:=8) rfl rfl (by decide))<|Ae rfl<|Aa<|MX.again1 ?_
 obtain ⟨G3,R1⟩:=AQ b3 .d2
 refine Ac<|Ab (Bc (i:=8) (j:=8) rfl rfl)<|Aa<|Aj<|Bj rfl<|Ba rfl<|Aj<|du 23 fun j0 t0=>Rv 0 j0 rfl t0 (fun _=>Ai rfl)<|Rv 1 j0 rfl t0 (fun _=>Ai rfl)<|RD.ifb (s:=89) rfl h (fun H8 h=>?_) (fun H8 h=>?_)
 refine bk h fun Q0 J01 h=>RD.callq (i:=2) (m' :=7) (W:=8388600) (tk j0) rfl t0 (v:=.string Q0) (fst:=[]) (cap:=[]) (.yes rfl rfl) (bd 39) rfl (e2 rfl rfl) (fun p q=>bB_c n (G3.hL0 hL q)  J01) rfl<|Bs 3 15 j0 rfl t0 (.yes rfl rfl) (fun _=>AE (vs:=[.string Q0,vI 1000,vW 15]) (u:=.agg #[.string Q0,vI 1000,vW 15]) (e3 rfl rfl rfl) (fun p=>by kernel_rfl)) rfl<|RD.nu 4 31 j0 rfl (.yes rfl rfl) rfl (AL (α:=Ta) (xs:=([(⟨Q0,(1000:Int),15⟩:Ta)]:List Ta)) (vs:=[.agg #[.string Q0,vI 1000,vW 15]]) (ds' :=[.string Q0,vI 1000,vW 15]) rfl G3 bw rfl (e1 rfl) (by kernel_rfl) rfl) fun F06 F03 I0 A2=>bk h fun W7 K01 h=>RD.callq (i:=5) (m' :=63) (W:=8388544) (tk j0) rfl t0 (v:=vI W7) (fst:=[]) (cap:=[]) (.yes rfl rfl) (bd 13) rfl (e2 rfl rfl) (fun p q=>aa_c n (I0.hL0 hL q) (Am (St.lend (α:=Ta) (L:=L) I0 .hd (AG (cs:=[.string Q0,vI 1000,vW 15]) (xs:=(([(⟨Q0,(1000:Int),15⟩:Ta)]:List Ta):List Ta)) I0 L (Ak (cs:=[.string Q0,vI 1000,vW 15]) (ds:=[]) (aH Q0 (1000:Int) (15:UInt64)) (AJ _ _))) hL) q) K01) rfl<|Bs 6 127 j0 rfl t0 (.yes rfl rfl) (fun _=>FV.eql (i:=W7) (j:=0) rfl rfl) rfl<|Rv 7 j0 rfl t0 (fun _=>Bm rfl rfl)<|Rv 8 j0 rfl t0 (fun _=>Ai rfl)<|RD.ifd (s:=96) rfl h (fun I8 h=>?_) (fun I8 h=>?_)
 refine Bs 9 1023 j0 rfl t0 (.yes rfl rfl) (fun _=>Ai rfl) rfl<|bk h fun g0 q01 h=>?_
 have d7:=Tt I4 (Tt J4 (Tt K4 (Tt B2 (Tt q2 (Tt z2 (Tt V0 (Tt W0 (Tt X0 (Tt Y0 (Tt Z0 (Tt b1 (Tt c1 (Tt g1 (Tt j1 (Tt k1 (Tt p1 (Tt q1 (Tt s1 (Tt u1 (Tt v1 (Tt x1 (Tt z1 (Tt A1 (Tt B1 (Tt C1 (Tt D1 (Tt E1 (Tt F1 (Tt G1 (Tt H1 (Tt I1 (Tt J1 (Tt K1 (Tt M1 (Tt P1 (Tt Q1 (Tt R1 A2)))))))))))))))))))))))))))))))))))))
 have c7:=AX (AG (cs:=Q2) (xs:=(y3.2:List Ta)) hS9 L (bQ J00)) d7
 obtain ⟨g8,Z03,A4,y5,g04,U00,b7⟩:=St.nth (α:=Ta) I0 .t4 c7 q01
 obtain ⟨k8,b04,K00⟩:=St.nthOwn (α:=Ta) I0 .t4 y5
 obtain rfl:g8 = ⟨k8,0,none⟩:=by rw [K00] at A4; cases A4; rfl
 obtain rfl:=cw U00
 refine Bs 10 2047 j0 rfl t0 (.yes rfl rfl) (fun _=>Bt 3 0 rfl A4 rfl rfl y5) rfl<|RD.val (i:=11) (m' :=4095) (W:=8126464) (tk j0) rfl t0 (.yes rfl rfl) (AH rfl b7) rfl<|Bs 12 8191 j0 rfl t0 (.yes rfl rfl) (fun _=>Ai rfl) rfl<|bk h fun v0 s01 h=>?_
 obtain ⟨j8,c04,x5,Z6,j04,V00,Q00⟩:=St.nth (α:=Ta) I0 .t4 c7 s01
 obtain ⟨p8,d04,M00⟩:=St.nthOwn (α:=Ta) I0 .t4 Z6
 obtain rfl:j8 = ⟨p8,0,none⟩:=by rw [M00] at x5; cases x5; rfl
 obtain rfl:=cw V00
 refine Bs 13 16383 j0 rfl t0 (.yes rfl rfl) (fun _=>Bt 3 1 rfl x5 rfl rfl Z6) rfl<|RD.val (i:=14) (m' :=32767) (W:=8126464) (tk j0) rfl t0 (.yes rfl rfl) (AH rfl Q00) rfl<|Bs 15 65535 j0 rfl t0 (.yes rfl rfl) (fun _=>Ai rfl) rfl<|Bs 16 131071 j0 rfl t0 (.yes rfl rfl) (fun _=>Bt 3 0 rfl A4 rfl rfl y5) rfl<|RD.val (i:=17) (m' :=262143) (W:=8126464) (tk j0) rfl t0 (.yes rfl rfl) (AH rfl b7) rfl<|RD.nu 18 524287 j0 rfl (.yes rfl rfl) rfl (AL (α:=Ta) (xs:=([g0,v0,g0]:List Ta)) (vs:=[.agg #[.string g0.fp,vI g0.fu,vU g0.fm],.agg #[.string v0.fp,vI v0.fu,vU v0.fm],.agg #[.string g0.fp,vI g0.fu,vU g0.fm]]) (ds' :=[.string g0.fp,vI g0.fu,vU g0.fm,.string v0.fp,vI v0.fu,vU v0.fm,.string g0.fp,vI g0.fu,vU g0.fm]) rfl I0 bw rfl (e3 rfl rfl rfl) (by kernel_rfl) rfl) fun G06 G03 c3 M4=>bk h fun X7 M01 h=>RD.callq (i:=19) (m' :=1048575) (W:=7340032) (tk j0) rfl t0 (v:=vI X7) (fst:=[]) (cap:=[]) (.yes rfl rfl) (bd 13) rfl (e2 rfl rfl) (fun p q=>aa_c n (c3.hL0 hL q) (Am (St.lend (α:=Ta) (L:=L) c3 .hd (AG (cs:=[.string g0.fp,vI g0.fu,vU g0.fm,.string v0.fp,vI v0.fu,vU v0.fm,.string g0.fp,vI g0.fu,vU g0.fm]) (xs:=(([g0,v0,g0]:List Ta):List Ta)) c3 L (Ak (cs:=[.string g0.fp,vI g0.fu,vU g0.fm]) (ds:=[.string v0.fp,vI v0.fu,vU v0.fm,.string g0.fp,vI g0.fu,vU g0.fm]) (aH g0.fp g0.fu g0.fm) (Ak (cs:=[.string v0.fp,vI v0.fu,vU v0.fm]) (ds:=[.string g0.fp,vI g0.fu,vU g0.fm]) (aH v0.fp v0.fu v0.fm) (Ak (cs:=[.string g0.fp,vI g0.fu,vU g0.fm]) (ds:=[]) (aH g0.fp g0.fu g0.fm) (AJ _ _))))) hL) q) M01) rfl<|Bs 20 2097151 j0 rfl t0 (.yes rfl rfl) (fun _=>FV.eql (i:=X7) (j:=270) rfl rfl) rfl<|Rv 21 j0 rfl t0 (fun _=>Bm rfl rfl)<|Rv 22 j0 rfl t0 (fun _=>AN rfl)<|AI (dk j0)<|Ac<|Ae rfl<|Ab (AH rfl (c3.memA .t3))<|Al .plain rfl (AL (α:=Int) (xs:=([(0:Int),(0:Int),(0:Int),(0:Int)]:List Int)) (vs:=[vI 0,vI 0,vI 0,vI 0]) (ds' :=[vI 0,vI 0,vI 0,vI 0]) rfl c3 fF rfl (e4 rfl rfl rfl rfl) (by kernel_rfl) rfl) fun H06 q8 H3 P4=>?_
 have I3:=Bw H3 .t5
 have Q4:=Bx H3 .t5
 have G2:=By (α:=Tc) (v:=E0) (xs:=y3.1.fm) I3 L (Bh (α:=Tc) H3 .t5 (AX u5 (Tt d7 (Tt M4 P4))) hL)
 have J3:=Bw I3 .hd
 have x4:=Bx I3 .hd
 refine bk h fun R02 P01 h=>?_
 have g7:=Tt V0 (Tt W0 (Tt X0 (Tt Y0 (Tt Z0 (Tt b1 (Tt c1 (Tt g1 (Tt j1 (Tt k1 (Tt p1 (Tt q1 (Tt s1 (Tt u1 (Tt v1 (Tt x1 (Tt z1 (Tt A1 (Tt B1 (Tt C1 (Tt D1 (Tt E1 (Tt F1 (Tt G1 (Tt H1 (Tt I1 (Tt J1 (Tt K1 (Tt M1 (Tt P1 (Tt Q1 (Tt R1 (Tt A2 (Tt M4 (Tt P4 (Tt Q4 x4)))))))))))))))))))))))))))))))))))
 refine jE (bd 25) rfl (e4 rfl rfl rfl rfl) (fun p q=>az_c n (J3.hL hL q) (Am (Ax U1 g7) q) y3.1 (Am (Ax G2 x4) q) (Am (By (α:=Int) (v:=(vS q8 4)) (xs:=([(0:Int),(0:Int),(0:Int),(0:Int)]:List Int)) J3 L (Bh (α:=Int) I3 .hd (AX (AG (cs:=[vI 0,vI 0,vI 0,vI 0]) (xs:=(([(0:Int),(0:Int),(0:Int),(0:Int)]:List Int):List Int)) H3 L (Ak (cs:=[vI 0]) (ds:=[vI 0,vI 0,vI 0]) rfl (Ak (cs:=[vI 0]) (ds:=[vI 0,vI 0]) rfl (Ak (cs:=[vI 0]) (ds:=[vI 0]) rfl (Ak (cs:=[vI 0]) (ds:=[]) rfl (AJ _ _)))))) Q4) hL)) q) (hG0.keep (J3.ag.trans q)) P01) rfl fun I06 v05 t00 ⟨R04,hu_,z04⟩=>?_
 subst hu_
 obtain ⟨K3,R4⟩:=J3.agr t00
 refine Ae rfl<|Ab (Ag rfl rfl)<|Ab (Ag rfl rfl)<|Ah rfl<|Ah rfl<|Aa<|Ac<|Ae rfl<|Ab (AH rfl (K3.memA .t3))<|Ae rfl ?_
 have M3:=Bw K3 .t2
 have q6:=Bx K3 .t2
 have H2:=By (α:=Int) (v:=(vS U0 4)) (xs:=([(0:Int),(0:Int),(1:Int),(1:Int)]:List Int)) M3 L (Bh (α:=Int) K3 .t2 (AX v5 (Tt B2 (Tt q2 (Tt z2 (Tt V0 (Tt W0 (Tt X0 (Tt Y0 (Tt Z0 (Tt b1 (Tt c1 (Tt g1 (Tt j1 (Tt k1 (Tt p1 (Tt q1 (Tt s1 (Tt u1 (Tt v1 (Tt x1 (Tt z1 (Tt A1 (Tt B1 (Tt C1 (Tt D1 (Tt E1 (Tt F1 (Tt G1 (Tt H1 (Tt I1 (Tt J1 (Tt K1 (Tt M1 (Tt P1 (Tt Q1 (Tt R1 (Tt A2 (Tt M4 (Tt P4 (Tt Q4 (Tt x4 R4))))))))))))))))))))))))))))))))))))))))) hL)
 refine bk h fun U02 Q01 h=>?_
 have j7:=Tt g7 (Tt R4 q6)
 have z5:=Tt x4 (Tt R4 q6)
 refine jE (bd 24) rfl (e4 rfl rfl rfl rfl) (fun p q=>aE_c n (M3.hL hL q) (Am (Ax U1 j7) q) y3.1 (Am (Ax G2 z5) q) (Am H2 q) (hG0.keep (M3.ag.trans q)) Q01) rfl fun J06 x05 u00 ⟨U04,hu_,A04⟩=>?_
 subst hu_
 obtain ⟨P3,C2⟩:=M3.agr u00
 refine Ae rfl<|Ab (Ag rfl rfl)<|Ab (Ag rfl rfl)<|Ah rfl<|Ah rfl<|Aa<|Aj<|du 10 fun F0 V1=>Rv 0 F0 rfl V1 (fun _=>Ai rfl)<|bk h fun U07 u01 h=>RD.valE (i:=1) (m' :=3) (W:=1008) (tk F0) rfl V1 .plain rfl (FV.cutL (α:=Ta) u01 rfl rfl (Ax U1 (Tt j7 C2)) rfl ⟨_,rfl⟩) fun V04 W00=>Rx 2 1008 F0 rfl V1 (AH rfl (P3.memA .t2))<|Rv 3 F0 rfl V1 (fun _=>Ai rfl)<|bk h fun V02 R01 h=>Bz 4 31 F0 rfl .plain (bd 19) rfl (e4 rfl rfl rfl rfl) (fun p q=>ah_c n (P3.hL hL q) (Am W00 q) y3.1 (Am (Ax G2 (Tt z5 C2)) q) (Am (Ax H2 C2) q) (hG0.keep (P3.ag.trans q)) R01) rfl fun K06 y05 v00 ⟨W04,hu_,B04⟩=>?_
 subst hu_
 obtain ⟨v2,U4⟩:=P3.agr v00
 refine Rv 5 F0 rfl V1 (fun _=>Ai rfl)<|Rv 6 F0 rfl V1 (fun _=>Ag rfl rfl)<|Rv 7 F0 rfl V1 (fun _=>Ag rfl rfl)<|Rv 8 F0 rfl V1 (fun _=>AN rfl)<|Rv 9 F0 rfl V1 (fun _=>AN rfl)<|AI (dk F0)<|Ac<|Ab (AH rfl (v2.memA .t2))<|Ae rfl<|bk h fun B4 U01 h=>?_
 have k7:=Tt z5 (Tt C2 U4)
 refine AY (.tuple #[.agg ((aa B4.1)).toArray,vI B4.2]) (bd 23) rfl (e4 rfl rfl rfl rfl) (fun p q=>av_c n (v2.hL0 hL q) (Am (Rep.nilSlice _ _) q) y3.1 (v2.kd (Ax G2 k7) q) (v2.kd (Ax H2 (Tt C2 U4)) q) (hG0.keep (v2.ag.trans q)) U01) rfl<|Ae rfl<|Ab (Ag rfl rfl)<|Ab (Ag rfl rfl)<|RG.nl zL v2 fun M06 H03 J9 s6=>AR (aa B4.1) J9 .hd (aj rfl) fun P06 K9 t6=>Ah rfl<|Aa<|Ac<|Ab (AE (vs:=[.string ⟨#[120]⟩,vW 1]) (u:=.agg #[.string ⟨#[120]⟩,vI 0,vW 1]) (e2 rfl rfl) (fun p=>by kernel_rfl))<|Al .plain rfl (AL (α:=Ta) (xs:=([(⟨⟨#[120]⟩,(0:Int),1⟩:Ta)]:List Ta)) (vs:=[.agg #[.string ⟨#[120]⟩,vI 0,vW 1]]) (ds' :=[.string ⟨#[120]⟩,vI 0,vW 1]) rfl K9 bw rfl (e1 rfl) (by kernel_rfl) rfl) fun Q06 I03 Z1 u6=>Ab (AH rfl (Z1.memA .t4))<|Ae rfl<|bk h fun C4 V01 h=>?_
 have p7:=Tt k7 (Tt s6 (Tt t6 u6))
 have q7:=Tt C2 (Tt U4 (Tt s6 (Tt t6 u6)))
 refine AY (.tuple #[.agg ((aa C4.1)).toArray,vI C4.2]) (bd 23) rfl (e4 rfl rfl rfl rfl) (fun p q=>av_c n (Z1.hL0 hL q) (Am (St.lend (α:=Ta) (L:=L) Z1 .hd (AG (cs:=[.string ⟨#[120]⟩,vI 0,vW 1]) (xs:=(([(⟨⟨#[120]⟩,(0:Int),1⟩:Ta)]:List Ta):List Ta)) Z1 L (Ak (cs:=[.string ⟨#[120]⟩,vI 0,vW 1]) (ds:=[]) (aH ⟨#[120]⟩ (0:Int) (1:UInt64)) (AJ _ _))) hL) q) y3.1 (Z1.kd (Ax G2 p7) q) (Z1.kd (Ax H2 q7) q) (hG0.keep (Z1.ag.trans q)) V01) rfl<|Ae rfl<|Ab (Ag rfl rfl)<|Ab (Ag rfl rfl)<|RG.nl zL Z1 fun R06 J03 M9 v6=>AR (aa C4.1) M9 .hd (aj rfl) fun U06 Z5 x6=>Ah rfl<|Aa<|Ac<|Ab (AE (vs:=[.string ⟨#[97]⟩]) (u:=.agg #[.string ⟨#[97]⟩,vI 0,vN,vN,vN,.bool false]) (e1 rfl) (fun p=>by kernel_rfl))<|Ab (AE (vs:=[.string ⟨#[98]⟩]) (u:=.agg #[.string ⟨#[98]⟩,vI 0,vN,vN,vN,.bool false]) (e1 rfl) (fun p=>by kernel_rfl))<|Ab (AE (vs:=[.string ⟨#[99]⟩]) (u:=.agg #[.string ⟨#[99]⟩,vI 0,vN,vN,vN,.bool false]) (e1 rfl) (fun p=>by kernel_rfl))<|Ab (AE (vs:=[.string ⟨#[100]⟩,vI 1]) (u:=.agg #[.string ⟨#[100]⟩,vI 1,vN,vN,vN,.bool false]) (e2 rfl rfl) (fun p=>by kernel_rfl)) ?_
 have C04:=BA (α:=Int) Z5 L
 refine Al .plain rfl (AL (α:=Tc) (xs:=([(⟨⟨#[97]⟩,(0:Int),([]:List Int),([]:List Int),([]:List Int),false⟩:Tc),(⟨⟨#[98]⟩,(0:Int),([]:List Int),([]:List Int),([]:List Int),false⟩:Tc),(⟨⟨#[99]⟩,(0:Int),([]:List Int),([]:List Int),([]:List Int),false⟩:Tc),(⟨⟨#[100]⟩,(1:Int),([]:List Int),([]:List Int),([]:List Int),false⟩:Tc)]:List Tc)) (vs:=[.agg #[.string ⟨#[97]⟩,vI 0,vN,vN,vN,.bool false],.agg #[.string ⟨#[98]⟩,vI 0,vN,vN,vN,.bool false],.agg #[.string ⟨#[99]⟩,vI 0,vN,vN,vN,.bool false],.agg #[.string ⟨#[100]⟩,vI 1,vN,vN,vN,.bool false]]) (ds' :=[.string ⟨#[97]⟩,vI 0,vN,vN,vN,.bool false,.string ⟨#[98]⟩,vI 0,vN,vN,vN,.bool false,.string ⟨#[99]⟩,vI 0,vN,vN,vN,.bool false,.string ⟨#[100]⟩,vI 1,vN,vN,vN,.bool false]) rfl Z5 cP rfl (e4 rfl rfl rfl rfl) (by kernel_rfl) rfl) fun V06 x3 F4 y6=>?_
 have A0:=BA (α:=Int) F4 L
 refine Ab (AE (vs:=[(vS x3 4)]) (u:=.agg #[vI 0,vI 0,vI 0,(vS x3 4)]) (e1 rfl) (fun p=>by kernel_rfl))<|RG.nl [vI 0,vI 0,vI 0,vN] F4 fun W06 K03 b6 V4=>AR [vI 0,vI 0,vI 0,(vS x3 4)] b6 .hd (o4 rfl rfl rfl (St.o1 (α:=Tc) b6 .t1)) fun X06 P9 W4=>Aa<|Ac<|Ab (AE (vs:=[.string ⟨#[120]⟩,vW 7]) (u:=.agg #[.string ⟨#[120]⟩,vI 0,vW 7]) (e2 rfl rfl) (fun p=>by kernel_rfl))<|Ab (AE (vs:=[.string ⟨#[121]⟩,vW 15]) (u:=.agg #[.string ⟨#[121]⟩,vI 0,vW 15]) (e2 rfl rfl) (fun p=>by kernel_rfl))<|Al .plain rfl (AL (α:=Ta) (xs:=([(⟨⟨#[120]⟩,(0:Int),7⟩:Ta),(⟨⟨#[121]⟩,(0:Int),15⟩:Ta)]:List Ta)) (vs:=[.agg #[.string ⟨#[120]⟩,vI 0,vW 7],.agg #[.string ⟨#[121]⟩,vI 0,vW 15]]) (ds' :=[.string ⟨#[120]⟩,vI 0,vW 7,.string ⟨#[121]⟩,vI 0,vW 15]) rfl P9 bw rfl (e2 rfl rfl) (by kernel_rfl) rfl) fun Y06 s8 d3 X4=>Ab (AH rfl (d3.memA .t1))<|Ae rfl ?_
 have Q3:=Bw d3 .hd
 have Y4:=Bx d3 .hd
 have R3:=Bw Q3 .t1
 have Z4:=Bx Q3 .t1
 refine bk h fun W02 W01 h=>?_
 have u7:=Tt q7 (Tt v6 (Tt x6 (Tt y6 (Tt V4 (Tt W4 (Tt X4 (Tt Y4 Z4)))))))
 refine jE (bd 19) rfl (e4 rfl rfl rfl rfl) (fun p q=>ah_c n (R3.hL hL q) (Am (Ax (By (α:=Ta) (v:=(vS s8 2)) (xs:=([(⟨⟨#[120]⟩,(0:Int),7⟩:Ta),(⟨⟨#[121]⟩,(0:Int),15⟩:Ta)]:List Ta)) Q3 L (Bh (α:=Ta) d3 .hd (AG (cs:=[.string ⟨#[120]⟩,vI 0,vW 7,.string ⟨#[121]⟩,vI 0,vW 15]) (xs:=(([(⟨⟨#[120]⟩,(0:Int),7⟩:Ta),(⟨⟨#[121]⟩,(0:Int),15⟩:Ta)]:List Ta):List Ta)) d3 L (Ak (cs:=[.string ⟨#[120]⟩,vI 0,vW 7]) (ds:=[.string ⟨#[121]⟩,vI 0,vW 15]) (aH ⟨#[120]⟩ (0:Int) (7:UInt64)) (Ak (cs:=[.string ⟨#[121]⟩,vI 0,vW 15]) (ds:=[]) (aH ⟨#[121]⟩ (0:Int) (15:UInt64)) (AJ _ _)))) hL)) Z4) q) (⟨(0:Int),(0:Int),(0:Int),([(⟨⟨#[97]⟩,(0:Int),([]:List Int),([]:List Int),([]:List Int),false⟩:Tc),(⟨⟨#[98]⟩,(0:Int),([]:List Int),([]:List Int),([]:List Int),false⟩:Tc),(⟨⟨#[99]⟩,(0:Int),([]:List Int),([]:List Int),([]:List Int),false⟩:Tc),(⟨⟨#[100]⟩,(1:Int),([]:List Int),([]:List Int),([]:List Int),false⟩:Tc)]:List Tc)⟩:Tg) (Am (By (α:=Tc) (v:=(vS x3 4)) (xs:=([(⟨⟨#[97]⟩,(0:Int),([]:List Int),([]:List Int),([]:List Int),false⟩:Tc),(⟨⟨#[98]⟩,(0:Int),([]:List Int),([]:List Int),([]:List Int),false⟩:Tc),(⟨⟨#[99]⟩,(0:Int),([]:List Int),([]:List Int),([]:List Int),false⟩:Tc),(⟨⟨#[100]⟩,(1:Int),([]:List Int),([]:List Int),([]:List Int),false⟩:Tc)]:List Tc)) R3 L (Bh (α:=Tc) Q3 .t1 (AX (AG (cs:=[.string ⟨#[97]⟩,vI 0,vN,vN,vN,.bool false,.string ⟨#[98]⟩,vI 0,vN,vN,vN,.bool false,.string ⟨#[99]⟩,vI 0,vN,vN,vN,.bool false,.string ⟨#[100]⟩,vI 1,vN,vN,vN,.bool false]) (xs:=(([(⟨⟨#[97]⟩,(0:Int),([]:List Int),([]:List Int),([]:List Int),false⟩:Tc),(⟨⟨#[98]⟩,(0:Int),([]:List Int),([]:List Int),([]:List Int),false⟩:Tc),(⟨⟨#[99]⟩,(0:Int),([]:List Int),([]:List Int),([]:List Int),false⟩:Tc),(⟨⟨#[100]⟩,(1:Int),([]:List Int),([]:List Int),([]:List Int),false⟩:Tc)]:List Tc):List Tc)) F4 L (Ak (cs:=[.string ⟨#[97]⟩,vI 0,vN,vN,vN,.bool false]) (ds:=[.string ⟨#[98]⟩,vI 0,vN,vN,vN,.bool false,.string ⟨#[99]⟩,vI 0,vN,vN,vN,.bool false,.string ⟨#[100]⟩,vI 1,vN,vN,vN,.bool false]) (ba ⟨#[97]⟩ (0:Int) ([]:List Int) A0 ([]:List Int) A0 ([]:List Int) A0 false) (Ak (cs:=[.string ⟨#[98]⟩,vI 0,vN,vN,vN,.bool false]) (ds:=[.string ⟨#[99]⟩,vI 0,vN,vN,vN,.bool false,.string ⟨#[100]⟩,vI 1,vN,vN,vN,.bool false]) (ba ⟨#[98]⟩ (0:Int) ([]:List Int) A0 ([]:List Int) A0 ([]:List Int) A0 false) (Ak (cs:=[.string ⟨#[99]⟩,vI 0,vN,vN,vN,.bool false]) (ds:=[.string ⟨#[100]⟩,vI 1,vN,vN,vN,.bool false]) (ba ⟨#[99]⟩ (0:Int) ([]:List Int) A0 ([]:List Int) A0 ([]:List Int) A0 false) (Ak (cs:=[.string ⟨#[100]⟩,vI 1,vN,vN,vN,.bool false]) (ds:=[]) (ba ⟨#[100]⟩ (1:Int) ([]:List Int) A0 ([]:List Int) A0 ([]:List Int) A0 false) (AJ _ _)))))) (Tt V4 (Tt W4 (Tt X4 Y4)))) hL)) q) (Am (Ax H2 u7) q) (hG0.keep (R3.ag.trans q)) W01) rfl fun Z06 z05 x00 ⟨X04,hu_,X00⟩=>?_
 subst hu_
 obtain ⟨J0,z6⟩:=R3.agr x00
 refine Ae rfl<|Ab (Ag rfl rfl)<|Ab (Ag rfl rfl)<|Ah rfl<|Ah rfl<|Aa<|Aj<|du 58 fun c0 d0=>Rv 0 c0 rfl d0 (fun _=>Ai rfl)<|Bs 1 3 c0 rfl d0 (.yes rfl rfl) (fun _=>Ai rfl) rfl<|Rv 2 c0 rfl d0 (fun _=>Bm rfl rfl)<|Rv 3 c0 rfl d0 (fun _=>Ai rfl)<|RD.ifd (s:=164) rfl h (fun J8 h=>?_) (fun J8 h=>?_)
 refine Bs 4 31 c0 rfl d0 (.yes rfl rfl) (fun _=>Ai rfl) rfl<|Bs 5 63 c0 rfl d0 (.yes rfl rfl) (fun _=>FV.eql (i:=R02.2) (j:=220) rfl rfl) rfl<|Rv 6 c0 rfl d0 (fun _=>Bm rfl rfl)<|Rv 7 c0 rfl d0 (fun _=>Ai rfl)<|RD.ifd (s:=168) rfl h (fun K8 h=>?_) (fun K8 h=>?_)
 refine Bs 8 511 c0 rfl d0 (.yes rfl rfl) (fun _=>Ai rfl) rfl<|Bs 9 1023 c0 rfl d0 (.yes rfl rfl) (fun _=>FV.eql (i:=U02.2) (j:=3) rfl rfl) rfl<|Rv 10 c0 rfl d0 (fun _=>Bm rfl rfl)<|Rv 11 c0 rfl d0 (fun _=>Ai rfl)<|RD.ifd (s:=172) rfl h (fun M8 h=>?_) (fun M8 h=>?_)
 refine Bs 12 8191 c0 rfl d0 (.yes rfl rfl) (fun _=>Ai rfl) rfl<|Bs 13 16383 c0 rfl d0 (.yes rfl rfl) (fun _=>FV.eql (i:=V02.2) (j:=270) rfl rfl) rfl<|Rv 14 c0 rfl d0 (fun _=>Bm rfl rfl)<|Rv 15 c0 rfl d0 (fun _=>Ai rfl)<|RD.ifd (s:=176) rfl h (fun P8 h=>?_) (fun P8 h=>?_)
 refine Bs 16 131071 c0 rfl d0 (.yes rfl rfl) (fun _=>Ai rfl) rfl<|Bs 17 262143 c0 rfl d0 (.yes rfl rfl) (fun _=>FV.eql (i:=B4.2) (j:=7) rfl rfl) rfl<|Rv 18 c0 rfl d0 (fun _=>Bm rfl rfl)<|Rv 19 c0 rfl d0 (fun _=>Ai rfl)<|RD.ifd (s:=180) rfl h (fun Q8 h=>?_) (fun Q8 h=>?_)
 refine Bs 20 2097151 c0 rfl d0 (.yes rfl rfl) (fun _=>Ai rfl) rfl<|Bs 21 4194303 c0 rfl d0 (.yes rfl rfl) (fun _=>FV.eql (i:=C4.2) (j:=7) rfl rfl) rfl<|Rv 22 c0 rfl d0 (fun _=>Bm rfl rfl)<|Rv 23 c0 rfl d0 (fun _=>Ai rfl)<|RD.ifd (s:=184) rfl h (fun R8 h=>?_) (fun R8 h=>?_)
 refine Bs 24 33554431 c0 rfl d0 (.yes rfl rfl) (fun _=>Ai rfl) rfl<|Bs 25 67108863 c0 rfl d0 (.yes rfl rfl) (fun _=>FV.eql (i:=W02.2) (j:=0) rfl rfl) rfl<|Rv 26 c0 rfl d0 (fun _=>Bm rfl rfl)<|Rv 27 c0 rfl d0 (fun _=>Ai rfl)<|RD.ifd (s:=188) rfl h (fun U8 h=>?_) (fun U8 h=>?_)
 refine Bs 28 536870911 c0 rfl d0 (.yes rfl rfl) (fun _=>Ai rfl) rfl<|bk h fun Y1 X01 h=>RD.callq (i:=29) (m' :=1073741823) (W:=288230375077969920) (tk c0) rfl d0 (v:=.agg ((aa Y1)).toArray) (fst:=[]) (cap:=[]) (.yes rfl rfl) (bd 20) rfl (e2 rfl rfl) (fun p q=>ax_c n (J0.hL0 hL q)  X01) rfl<|bk h fun R0 Y01 h=>RD.callq (i:=30) (m' :=2147483647) (W:=288230374004228096) (tk c0) rfl d0 (v:=.agg ((aa R0)).toArray) (fst:=[]) (cap:=[]) (.yes rfl rfl) (bd 20) rfl (e2 rfl rfl) (fun p q=>ax_c n (J0.hL0 hL q)  Y01) rfl<|RD.nu 31 4294967295 c0 rfl (.yes rfl rfl) rfl (AL (α:=Tb) (xs:=([Y1,R0]:List Tb)) (vs:=[.agg ((aa Y1)).toArray,.agg ((aa R0)).toArray]) (ds' :=(aa Y1 ++ aa R0)) rfl J0 dz rfl (e2 rfl rfl) (by kernel_rfl) rfl) fun K02 M03 K0 b5=>bk h fun X02 Z01 h=>RD.callq (i:=32) (m' :=8589934591) (W:=288230367561777152) (tk c0) rfl d0 (v:=.bool X02) (fst:=[]) (cap:=[]) (.yes rfl rfl) (bd 28) rfl (e2 rfl rfl) (fun p q=>ae_c n (K0.hL0 hL q) (K0.kd (Ax X00 b5) q) (Am (St.lend (α:=Tb) (L:=L) K0 .hd (AG (cs:=(aa Y1 ++ aa R0)) (xs:=(([Y1,R0]:List Tb):List Tb)) K0 L (Ak (cs:=(aa Y1)) (ds:=(aa R0)) (bf Y1.fN Y1.fD) (Ak (cs:=(aa R0)) (ds:=[]) (bf R0.fN R0.fD) (AJ _ _)))) hL) q) Z01) rfl<|Rv 33 c0 rfl d0 (fun _=>Bm rfl rfl)<|Rv 34 c0 rfl d0 (fun _=>Ai rfl)<|RD.ifb (s:=195) rfl h (fun V8 h=>?_) (fun V8 h=>?_)
 refine RD.val (i:=36) (m' :=103079215103) (W:=288230101273804800) (tk c0) rfl d0 (.yes rfl rfl) (AH rfl (K0.memA .t7)) rfl<|Bs 37 240518168575 c0 rfl d0 (.yes rfl rfl) (fun _=>Ai rfl) rfl<|Bz 35 274877906943 c0 rfl (.yes rfl rfl) (bd 40) rfl (e1 rfl) (fun p q=>Calls.gives (bQ_c n (K0.hL hL q) ([]:List Bool) (Am (BA (α:=Bool) K0 L) q)) fun (w8:World) (u8:Value) ⟨b0_,hu_,s_⟩=>(⟨b0_,hu_,s_.from q⟩:∃ z3:Nat,u8 = Value.func (.func 84) #[] #[vP z3]/\St K02 w8 [.cells z3 [vN] 72])) rfl fun b07 A05 v04 ⟨z3,j01,E7⟩=>?_
 subst j01
 have U3:=bF K0 E7
 have A6:=cT K0 E7
 refine bk h fun Z07 b02 h=>Bz 38 549755813887 c0 rfl (.yes rfl rfl) (bd 25) rfl (e4 rfl rfl rfl rfl) (fun p q=>az_c n (U3.hL hL q) (Am (BA (α:=Ta) U3 L) q) y3.1 (Am (Ax G2 (Tt p7 (Tt v6 (Tt x6 (Tt y6 (Tt V4 (Tt W4 (Tt X4 (Tt Y4 (Tt Z4 (Tt z6 (Tt b5 A6)))))))))))) q) (Am (Ax H2 (Tt u7 (Tt z6 (Tt b5 A6)))) q) (hG0.keep (U3.ag.trans q)) b02) rfl fun M02 B05 y00 ⟨Y04,hu_,Y00⟩=>?_
 subst hu_
 obtain ⟨p2,p04⟩:=U3.agr y00
 refine Bs 39 1099511627775 c0 rfl d0 (.yes rfl rfl) (fun _=>Ag rfl rfl) rfl<|Bs 40 2199023255551 c0 rfl d0 (.yes rfl rfl) (fun _=>Ag rfl rfl) rfl<|bk h fun Y02 c02 h=>RD.callq (i:=41) (m' :=4398046511103) (W:=288225978105200640) (tk c0) rfl d0 (v:=.bool Y02) (fst:=[]) (cap:=[vP z3]) (.yes rfl rfl) (bd 84) rfl (e2 rfl rfl) (fun p q=>aN_c n (p2.hL0 hL q) (p2.kd Y00 q) (Am (Rep.nilSlice _ _) q) (aq q (p2.memA .hd)) c02) rfl<|Rv 42 c0 rfl d0 (fun _=>Bm rfl rfl)<|Rv 43 c0 rfl d0 (fun _=>Ai rfl)<|RD.ifb (s:=204) rfl h (fun W8 h=>?_) (fun W8 h=>?_)
 refine Bz 44 35184372088831 c0 rfl (.yes rfl rfl) (bd 41) rfl (e2 rfl rfl) (fun p q=>Calls.gives (bJ_c n (p2.hL hL q) (1:Int) (1:Int)) fun (w8:World) (u8:Value) ⟨b0_,b1_,hu_,s_⟩=>(⟨b0_,b1_,hu_,s_.from q⟩:∃ A3 B3:Nat,u8 = Value.func (.func 85) #[] #[vP A3,vP B3]/\St M02 w8 [.cells A3 [vI 1] 3,.cells B3 [vI 1] 3])) rfl fun P02 C05 x04 ⟨A3,B3,k01,F7⟩=>?_
 subst k01
 have b2:=cn p2 F7
 have q04:=dA p2 F7
 refine bk h fun C5 d02 h=>RD.callq (i:=45) (m' :=70368744177663) (W:=288160007407534080) (tk c0) rfl d0 (v:=.tuple #[.agg ((aa C5.1)).toArray,vI C5.2]) (fst:=[]) (cap:=[]) (.yes rfl rfl) (bd 15) rfl (e2 rfl rfl) (fun p q=>aK_c n (b2.hL0 hL q) (9223372036854775808:UInt64) (9223372036854775808:UInt64) d02) rfl<|Bs 46 140737488355327 c0 rfl d0 (.yes rfl rfl) (fun _=>Ag rfl rfl) rfl<|Bs 47 281474976710655 c0 rfl d0 (.yes rfl rfl) (fun _=>Ag rfl rfl) rfl<|bk h fun Z02 g02 h=>RD.callq (i:=48) (m' :=562949953421311) (W:=287667426198290432) (tk c0) rfl d0 (v:=.bool Z02) (fst:=[]) (cap:=[vP A3,vP B3]) (.yes rfl rfl) (bd 85) rfl (e2 rfl rfl) (fun p q=>ay_c n (b2.hL0 hL q) C5.1 (aq q (b2.memA .hd)) (aq q (b2.memA .t1)) g02) rfl<|Rv 49 c0 rfl d0 (fun _=>Bm rfl rfl)<|Rv 50 c0 rfl d0 (fun _=>Ai rfl)<|RD.ifb (s:=211) rfl h (fun X8 h=>?_) (fun X8 h=>?_)
 refine Bz 51 4503599627370495 c0 rfl (.yes rfl rfl) (bd 41) rfl (e2 rfl rfl) (fun p q=>Calls.gives (bJ_c n (b2.hL hL q) (1:Int) (64:Int)) fun (w8:World) (u8:Value) ⟨b0_,b1_,hu_,s_⟩=>(⟨b0_,b1_,hu_,s_.from q⟩:∃ C3 D3:Nat,u8 = Value.func (.func 85) #[] #[vP C3,vP D3]/\St P02 w8 [.cells C3 [vI 1] 3,.cells D3 [vI 64] 3])) rfl fun c07 D05 y04 ⟨C3,D3,p01,G7⟩=>?_
 subst p01
 have g3:=cn b2 G7
 have s04:=dA b2 G7
 refine bk h fun D5 j02 h=>RD.callq (i:=52) (m' :=9007199254740991) (W:=279223176896970752) (tk c0) rfl d0 (v:=.tuple #[.agg ((aa D5.1)).toArray,vI D5.2]) (fst:=[]) (cap:=[]) (.yes rfl rfl) (bd 15) rfl (e2 rfl rfl) (fun p q=>aK_c n (g3.hL0 hL q) (9223372036854775808:UInt64) (18446744073709551615:UInt64) j02) rfl<|Bs 53 18014398509481983 c0 rfl d0 (.yes rfl rfl) (fun _=>Ag rfl rfl) rfl<|Bs 54 36028797018963967 c0 rfl d0 (.yes rfl rfl) (fun _=>Ag rfl rfl) rfl<|bk h fun b03 k02 h=>RD.callq (i:=55) (m' :=72057594037927935) (W:=216172782113783808) (tk c0) rfl d0 (v:=.bool b03) (fst:=[]) (cap:=[vP C3,vP D3]) (.yes rfl rfl) (bd 85) rfl (e2 rfl rfl) (fun p q=>ay_c n (g3.hL0 hL q) D5.1 (aq q (g3.memA .hd)) (aq q (g3.memA .t1)) k02) rfl<|Rv 56 c0 rfl d0 (fun _=>Bm rfl rfl)<|Rv 57 c0 rfl d0 (fun _=>AN rfl)<|AI (dk c0)<|Ao rfl<|AP hb0 func9 rfl rfl ?_
 cases h
 exact g3.gv
 refine Ay 72057594037927935 2 [(51,212),(52,213),(53,214),(54,215),(55,216)] (F:=[(211,false)]) (U:=[]) c0 d0 (.cons rfl .nil) .nil ?_
 dsimp only [ai,List.map]
 refine Rv 56 c0 rfl d0 (fun _=>Ap rfl rfl)<|Rv 57 c0 rfl d0 (fun _=>AN rfl)<|AI (dk c0)<|Ao rfl<|AP hb0 func9 rfl rfl ?_
 cases h
 exact b2.gv
 refine Ay 562949953421311 9 [(44,205),(45,206),(46,207),(47,208),(48,209)] (F:=[(204,false)]) (U:=[]) c0 d0 (.cons rfl .nil) .nil ?_
 dsimp only [ai,List.map]
 refine Rv 49 c0 rfl d0 (fun _=>Ap rfl rfl)<|Rv 50 c0 rfl d0 (fun _=>Ai rfl)<|Ay 72057594037927935 2 [(51,212),(52,213),(53,214),(54,215),(55,216)] (F:=[(211,false)]) (U:=[]) c0 d0 (.cons rfl .nil) .nil ?_
 dsimp only [ai,List.map]
 refine Rv 56 c0 rfl d0 (fun _=>Ap rfl rfl)<|Rv 57 c0 rfl d0 (fun _=>AN rfl)<|AI (dk c0)<|Ao rfl<|AP hb0 func9 rfl rfl ?_
 cases h
 exact p2.gv
 refine Ay 4398046511103 16 [(35,196),(36,197),(37,198),(38,199),(39,200),(40,201),(41,202)] (F:=[(195,false)]) (U:=[]) c0 d0 (.cons rfl .nil) .nil ?_
 dsimp only [ai,List.map]
 refine Rv 42 c0 rfl d0 (fun _=>Ap rfl rfl)<|Rv 43 c0 rfl d0 (fun _=>Ai rfl)<|Ay 562949953421311 9 [(44,205),(45,206),(46,207),(47,208),(48,209)] (F:=[(204,false)]) (U:=[]) c0 d0 (.cons rfl .nil) .nil ?_
 dsimp only [ai,List.map]
 refine Rv 49 c0 rfl d0 (fun _=>Ap rfl rfl)<|Rv 50 c0 rfl d0 (fun _=>Ai rfl)<|Ay 72057594037927935 2 [(51,212),(52,213),(53,214),(54,215),(55,216)] (F:=[(211,false)]) (U:=[]) c0 d0 (.cons rfl .nil) .nil ?_
 dsimp only [ai,List.map]
 refine Rv 56 c0 rfl d0 (fun _=>Ap rfl rfl)<|Rv 57 c0 rfl d0 (fun _=>AN rfl)<|AI (dk c0)<|Ao rfl<|AP hb0 func9 rfl rfl ?_
 cases h
 exact K0.gv
 refine Ay 8589934591 25 [(28,189),(29,190),(30,191),(31,192),(32,193)] (F:=[(188,false)]) (U:=[]) c0 d0 (.cons rfl .nil) .nil ?_
 dsimp only [ai,List.map]
 refine Rv 33 c0 rfl d0 (fun _=>Ap rfl rfl)<|Rv 34 c0 rfl d0 (fun _=>Ai rfl)<|Ay 4398046511103 16 [(35,196),(36,197),(37,198),(38,199),(39,200),(40,201),(41,202)] (F:=[(195,false)]) (U:=[]) c0 d0 (.cons rfl .nil) .nil ?_
 dsimp only [ai,List.map]
 refine Rv 42 c0 rfl d0 (fun _=>Ap rfl rfl)<|Rv 43 c0 rfl d0 (fun _=>Ai rfl)<|Ay 562949953421311 9 [(44,205),(45,206),(46,207),(47,208),(48,209)] (F:=[(204,false)]) (U:=[]) c0 d0 (.cons rfl .nil) .nil ?_
 dsimp only [ai,List.map]
 refine Rv 49 c0 rfl d0 (fun _=>Ap rfl rfl)<|Rv 50 c0 rfl d0 (fun _=>Ai rfl)<|Ay 72057594037927935 2 [(51,212),(52,213),(53,214),(54,215),(55,216)] (F:=[(211,false)]) (U:=[]) c0 d0 (.cons rfl .nil) .nil ?_
 dsimp only [ai,List.map]
 refine Rv 56 c0 rfl d0 (fun _=>Ap rfl rfl)<|Rv 57 c0 rfl d0 (fun _=>AN rfl)<|AI (dk c0)<|Ao rfl<|AP hb0 func9 rfl rfl ?_
 cases h
 exact J0.gv
 refine Ay 67108863 32 [(24,185),(25,186)] (F:=[(184,false)]) (U:=[]) c0 d0 (.cons rfl .nil) .nil ?_
 dsimp only [ai,List.map]
 refine Rv 26 c0 rfl d0 (fun _=>Ap rfl rfl)<|Rv 27 c0 rfl d0 (fun _=>Ai rfl)<|Ay 8589934591 25 [(28,189),(29,190),(30,191),(31,192),(32,193)] (F:=[(188,false)]) (U:=[]) c0 d0 (.cons rfl .nil) .nil ?_
 dsimp only [ai,List.map]
 refine Rv 33 c0 rfl d0 (fun _=>Ap rfl rfl)<|Rv 34 c0 rfl d0 (fun _=>Ai rfl)<|Ay 4398046511103 16 [(35,196),(36,197),(37,198),(38,199),(39,200),(40,201),(41,202)] (F:=[(195,false)]) (U:=[]) c0 d0 (.cons rfl .nil) .nil ?_
 dsimp only [ai,List.map]
 refine Rv 42 c0 rfl d0 (fun _=>Ap rfl rfl)<|Rv 43 c0 rfl d0 (fun _=>Ai rfl)<|Ay 562949953421311 9 [(44,205),(45,206),(46,207),(47,208),(48,209)] (F:=[(204,false)]) (U:=[]) c0 d0 (.cons rfl .nil) .nil ?_
 dsimp only [ai,List.map]
 refine Rv 49 c0 rfl d0 (fun _=>Ap rfl rfl)<|Rv 50 c0 rfl d0 (fun _=>Ai rfl)<|Ay 72057594037927935 2 [(51,212),(52,213),(53,214),(54,215),(55,216)] (F:=[(211,false)]) (U:=[]) c0 d0 (.cons rfl .nil) .nil ?_
 dsimp only [ai,List.map]
 refine Rv 56 c0 rfl d0 (fun _=>Ap rfl rfl)<|Rv 57 c0 rfl d0 (fun _=>AN rfl)<|AI (dk c0)<|Ao rfl<|AP hb0 func9 rfl rfl ?_
 cases h
 exact J0.gv
 refine Ay 4194303 36 [(20,181),(21,182)] (F:=[(180,false)]) (U:=[]) c0 d0 (.cons rfl .nil) .nil ?_
 dsimp only [ai,List.map]
 refine Rv 22 c0 rfl d0 (fun _=>Ap rfl rfl)<|Rv 23 c0 rfl d0 (fun _=>Ai rfl)<|Ay 67108863 32 [(24,185),(25,186)] (F:=[(184,false)]) (U:=[]) c0 d0 (.cons rfl .nil) .nil ?_
 dsimp only [ai,List.map]
 refine Rv 26 c0 rfl d0 (fun _=>Ap rfl rfl)<|Rv 27 c0 rfl d0 (fun _=>Ai rfl)<|Ay 8589934591 25 [(28,189),(29,190),(30,191),(31,192),(32,193)] (F:=[(188,false)]) (U:=[]) c0 d0 (.cons rfl .nil) .nil ?_
 dsimp only [ai,List.map]
 refine Rv 33 c0 rfl d0 (fun _=>Ap rfl rfl)<|Rv 34 c0 rfl d0 (fun _=>Ai rfl)<|Ay 4398046511103 16 [(35,196),(36,197),(37,198),(38,199),(39,200),(40,201),(41,202)] (F:=[(195,false)]) (U:=[]) c0 d0 (.cons rfl .nil) .nil ?_
 dsimp only [ai,List.map]
 refine Rv 42 c0 rfl d0 (fun _=>Ap rfl rfl)<|Rv 43 c0 rfl d0 (fun _=>Ai rfl)<|Ay 562949953421311 9 [(44,205),(45,206),(46,207),(47,208),(48,209)] (F:=[(204,false)]) (U:=[]) c0 d0 (.cons rfl .nil) .nil ?_
 dsimp only [ai,List.map]
 refine Rv 49 c0 rfl d0 (fun _=>Ap rfl rfl)<|Rv 50 c0 rfl d0 (fun _=>Ai rfl)<|Ay 72057594037927935 2 [(51,212),(52,213),(53,214),(54,215),(55,216)] (F:=[(211,false)]) (U:=[]) c0 d0 (.cons rfl .nil) .nil ?_
 dsimp only [ai,List.map]
 refine Rv 56 c0 rfl d0 (fun _=>Ap rfl rfl)<|Rv 57 c0 rfl d0 (fun _=>AN rfl)<|AI (dk c0)<|Ao rfl<|AP hb0 func9 rfl rfl ?_
 cases h
 exact J0.gv
 refine Ay 262143 40 [(16,177),(17,178)] (F:=[(176,false)]) (U:=[]) c0 d0 (.cons rfl .nil) .nil ?_
 dsimp only [ai,List.map]
 refine Rv 18 c0 rfl d0 (fun _=>Ap rfl rfl)<|Rv 19 c0 rfl d0 (fun _=>Ai rfl)<|Ay 4194303 36 [(20,181),(21,182)] (F:=[(180,false)]) (U:=[]) c0 d0 (.cons rfl .nil) .nil ?_
 dsimp only [ai,List.map]
 refine Rv 22 c0 rfl d0 (fun _=>Ap rfl rfl)<|Rv 23 c0 rfl d0 (fun _=>Ai rfl)<|Ay 67108863 32 [(24,185),(25,186)] (F:=[(184,false)]) (U:=[]) c0 d0 (.cons rfl .nil) .nil ?_
 dsimp only [ai,List.map]
 refine Rv 26 c0 rfl d0 (fun _=>Ap rfl rfl)<|Rv 27 c0 rfl d0 (fun _=>Ai rfl)<|Ay 8589934591 25 [(28,189),(29,190),(30,191),(31,192),(32,193)] (F:=[(188,false)]) (U:=[]) c0 d0 (.cons rfl .nil) .nil ?_
 dsimp only [ai,List.map]
 refine Rv 33 c0 rfl d0 (fun _=>Ap rfl rfl)<|Rv 34 c0 rfl d0 (fun _=>Ai rfl)<|Ay 4398046511103 16 [(35,196),(36,197),(37,198),(38,199),(39,200),(40,201),(41,202)] (F:=[(195,false)]) (U:=[]) c0 d0 (.cons rfl .nil) .nil ?_
 dsimp only [ai,List.map]
 refine Rv 42 c0 rfl d0 (fun _=>Ap rfl rfl)<|Rv 43 c0 rfl d0 (fun _=>Ai rfl)<|Ay 562949953421311 9 [(44,205),(45,206),(46,207),(47,208),(48,209)] (F:=[(204,false)]) (U:=[]) c0 d0 (.cons rfl .nil) .nil ?_
 dsimp only [ai,List.map]
 refine Rv 49 c0 rfl d0 (fun _=>Ap rfl rfl)<|Rv 50 c0 rfl d0 (fun _=>Ai rfl)<|Ay 72057594037927935 2 [(51,212),(52,213),(53,214),(54,215),(55,216)] (F:=[(211,false)]) (U:=[]) c0 d0 (.cons rfl .nil) .nil ?_
 dsimp only [ai,List.map]
 refine Rv 56 c0 rfl d0 (fun _=>Ap rfl rfl)<|Rv 57 c0 rfl d0 (fun _=>AN rfl)<|AI (dk c0)<|Ao rfl<|AP hb0 func9 rfl rfl ?_
 cases h
 exact J0.gv
 refine Ay 16383 44 [(12,173),(13,174)] (F:=[(172,false)]) (U:=[]) c0 d0 (.cons rfl .nil) .nil ?_
 dsimp only [ai,List.map]
 refine Rv 14 c0 rfl d0 (fun _=>Ap rfl rfl)<|Rv 15 c0 rfl d0 (fun _=>Ai rfl)<|Ay 262143 40 [(16,177),(17,178)] (F:=[(176,false)]) (U:=[]) c0 d0 (.cons rfl .nil) .nil ?_
 dsimp only [ai,List.map]
 refine Rv 18 c0 rfl d0 (fun _=>Ap rfl rfl)<|Rv 19 c0 rfl d0 (fun _=>Ai rfl)<|Ay 4194303 36 [(20,181),(21,182)] (F:=[(180,false)]) (U:=[]) c0 d0 (.cons rfl .nil) .nil ?_
 dsimp only [ai,List.map]
 refine Rv 22 c0 rfl d0 (fun _=>Ap rfl rfl)<|Rv 23 c0 rfl d0 (fun _=>Ai rfl)<|Ay 67108863 32 [(24,185),(25,186)] (F:=[(184,false)]) (U:=[]) c0 d0 (.cons rfl .nil) .nil ?_
 dsimp only [ai,List.map]
 refine Rv 26 c0 rfl d0 (fun _=>Ap rfl rfl)<|Rv 27 c0 rfl d0 (fun _=>Ai rfl)<|Ay 8589934591 25 [(28,189),(29,190),(30,191),(31,192),(32,193)] (F:=[(188,false)]) (U:=[]) c0 d0 (.cons rfl .nil) .nil ?_
 dsimp only [ai,List.map]
 refine Rv 33 c0 rfl d0 (fun _=>Ap rfl rfl)<|Rv 34 c0 rfl d0 (fun _=>Ai rfl)<|Ay 4398046511103 16 [(35,196),(36,197),(37,198),(38,199),(39,200),(40,201),(41,202)] (F:=[(195,false)]) (U:=[]) c0 d0 (.cons rfl .nil) .nil ?_
 dsimp only [ai,List.map]
 refine Rv 42 c0 rfl d0 (fun _=>Ap rfl rfl)<|Rv 43 c0 rfl d0 (fun _=>Ai rfl)<|Ay 562949953421311 9 [(44,205),(45,206),(46,207),(47,208),(48,209)] (F:=[(204,false)]) (U:=[]) c0 d0 (.cons rfl .nil) .nil ?_
 dsimp only [ai,List.map]
 refine Rv 49 c0 rfl d0 (fun _=>Ap rfl rfl)<|Rv 50 c0 rfl d0 (fun _=>Ai rfl)<|Ay 72057594037927935 2 [(51,212),(52,213),(53,214),(54,215),(55,216)] (F:=[(211,false)]) (U:=[]) c0 d0 (.cons rfl .nil) .nil ?_
 dsimp only [ai,List.map]
 refine Rv 56 c0 rfl d0 (fun _=>Ap rfl rfl)<|Rv 57 c0 rfl d0 (fun _=>AN rfl)<|AI (dk c0)<|Ao rfl<|AP hb0 func9 rfl rfl ?_
 cases h
 exact J0.gv
 refine Ay 1023 48 [(8,169),(9,170)] (F:=[(168,false)]) (U:=[]) c0 d0 (.cons rfl .nil) .nil ?_
 dsimp only [ai,List.map]
 refine Rv 10 c0 rfl d0 (fun _=>Ap rfl rfl)<|Rv 11 c0 rfl d0 (fun _=>Ai rfl)<|Ay 16383 44 [(12,173),(13,174)] (F:=[(172,false)]) (U:=[]) c0 d0 (.cons rfl .nil) .nil ?_
 dsimp only [ai,List.map]
 refine Rv 14 c0 rfl d0 (fun _=>Ap rfl rfl)<|Rv 15 c0 rfl d0 (fun _=>Ai rfl)<|Ay 262143 40 [(16,177),(17,178)] (F:=[(176,false)]) (U:=[]) c0 d0 (.cons rfl .nil) .nil ?_
 dsimp only [ai,List.map]
 refine Rv 18 c0 rfl d0 (fun _=>Ap rfl rfl)<|Rv 19 c0 rfl d0 (fun _=>Ai rfl)<|Ay 4194303 36 [(20,181),(21,182)] (F:=[(180,false)]) (U:=[]) c0 d0 (.cons rfl .nil) .nil ?_
 dsimp only [ai,List.map]
 refine Rv 22 c0 rfl d0 (fun _=>Ap rfl rfl)<|Rv 23 c0 rfl d0 (fun _=>Ai rfl)<|Ay 67108863 32 [(24,185),(25,186)] (F:=[(184,false)]) (U:=[]) c0 d0 (.cons rfl .nil) .nil ?_
 dsimp only [ai,List.map]
 refine Rv 26 c0 rfl d0 (fun _=>Ap rfl rfl)<|Rv 27 c0 rfl d0 (fun _=>Ai rfl)<|Ay 8589934591 25 [(28,189),(29,190),(30,191),(31,192),(32,193)] (F:=[(188,false)]) (U:=[]) c0 d0 (.cons rfl .nil) .nil ?_
 dsimp only [ai,List.map]
 refine Rv 33 c0 rfl d0 (fun _=>Ap rfl rfl)<|Rv 34 c0 rfl d0 (fun _=>Ai rfl)<|Ay 4398046511103 16 [(35,196),(36,197),(37,198),(38,199),(39,200),(40,201),(41,202)] (F:=[(195,false)]) (U:=[]) c0 d0 (.cons rfl .nil) .nil ?_
 dsimp only [ai,List.map]
 refine Rv 42 c0 rfl d0 (fun _=>Ap rfl rfl)<|Rv 43 c0 rfl d0 (fun _=>Ai rfl)<|Ay 562949953421311 9 [(44,205),(45,206),(46,207),(47,208),(48,209)] (F:=[(204,false)]) (U:=[]) c0 d0 (.cons rfl .nil) .nil ?_
 dsimp only [ai,List.map]
 refine Rv 49 c0 rfl d0 (fun _=>Ap rfl rfl)<|Rv 50 c0 rfl d0 (fun _=>Ai rfl)<|Ay 72057594037927935 2 [(51,212),(52,213),(53,214),(54,215),(55,216)] (F:=[(211,false)]) (U:=[]) c0 d0 (.cons rfl .nil) .nil ?_
 dsimp only [ai,List.map]
 refine Rv 56 c0 rfl d0 (fun _=>Ap rfl rfl)<|Rv 57 c0 rfl d0 (fun _=>AN rfl)<|AI (dk c0)<|Ao rfl<|AP hb0 func9 rfl rfl ?_
 cases h
 exact J0.gv
 refine Ay 63 52 [(4,165),(5,166)] (F:=[(164,false)]) (U:=[]) c0 d0 (.cons rfl .nil) .nil ?_
 dsimp only [ai,List.map]
 refine Rv 6 c0 rfl d0 (fun _=>Ap rfl rfl)<|Rv 7 c0 rfl d0 (fun _=>Ai rfl)<|Ay 1023 48 [(8,169),(9,170)] (F:=[(168,false)]) (U:=[]) c0 d0 (.cons rfl .nil) .nil ?_
 dsimp only [ai,List.map]
 refine Rv 10 c0 rfl d0 (fun _=>Ap rfl rfl)<|Rv 11 c0 rfl d0 (fun _=>Ai rfl)<|Ay 16383 44 [(12,173),(13,174)] (F:=[(172,false)]) (U:=[]) c0 d0 (.cons rfl .nil) .nil ?_
 dsimp only [ai,List.map]
 refine Rv 14 c0 rfl d0 (fun _=>Ap rfl rfl)<|Rv 15 c0 rfl d0 (fun _=>Ai rfl)<|Ay 262143 40 [(16,177),(17,178)] (F:=[(176,false)]) (U:=[]) c0 d0 (.cons rfl .nil) .nil ?_
 dsimp only [ai,List.map]
 refine Rv 18 c0 rfl d0 (fun _=>Ap rfl rfl)<|Rv 19 c0 rfl d0 (fun _=>Ai rfl)<|Ay 4194303 36 [(20,181),(21,182)] (F:=[(180,false)]) (U:=[]) c0 d0 (.cons rfl .nil) .nil ?_
 dsimp only [ai,List.map]
 refine Rv 22 c0 rfl d0 (fun _=>Ap rfl rfl)<|Rv 23 c0 rfl d0 (fun _=>Ai rfl)<|Ay 67108863 32 [(24,185),(25,186)] (F:=[(184,false)]) (U:=[]) c0 d0 (.cons rfl .nil) .nil ?_
 dsimp only [ai,List.map]
 refine Rv 26 c0 rfl d0 (fun _=>Ap rfl rfl)<|Rv 27 c0 rfl d0 (fun _=>Ai rfl)<|Ay 8589934591 25 [(28,189),(29,190),(30,191),(31,192),(32,193)] (F:=[(188,false)]) (U:=[]) c0 d0 (.cons rfl .nil) .nil ?_
 dsimp only [ai,List.map]
 refine Rv 33 c0 rfl d0 (fun _=>Ap rfl rfl)<|Rv 34 c0 rfl d0 (fun _=>Ai rfl)<|Ay 4398046511103 16 [(35,196),(36,197),(37,198),(38,199),(39,200),(40,201),(41,202)] (F:=[(195,false)]) (U:=[]) c0 d0 (.cons rfl .nil) .nil ?_
 dsimp only [ai,List.map]
 refine Rv 42 c0 rfl d0 (fun _=>Ap rfl rfl)<|Rv 43 c0 rfl d0 (fun _=>Ai rfl)<|Ay 562949953421311 9 [(44,205),(45,206),(46,207),(47,208),(48,209)] (F:=[(204,false)]) (U:=[]) c0 d0 (.cons rfl .nil) .nil ?_
 dsimp only [ai,List.map]
 refine Rv 49 c0 rfl d0 (fun _=>Ap rfl rfl)<|Rv 50 c0 rfl d0 (fun _=>Ai rfl)<|Ay 72057594037927935 2 [(51,212),(52,213),(53,214),(54,215),(55,216)] (F:=[(211,false)]) (U:=[]) c0 d0 (.cons rfl .nil) .nil ?_
 dsimp only [ai,List.map]
 refine Rv 56 c0 rfl d0 (fun _=>Ap rfl rfl)<|Rv 57 c0 rfl d0 (fun _=>AN rfl)<|AI (dk c0)<|Ao rfl<|AP hb0 func9 rfl rfl ?_
 cases h
 exact J0.gv
 refine Ay 2097151 2 [(9,97),(10,98),(11,99),(12,100),(13,101),(14,102),(15,103),(16,104),(17,105),(18,106),(19,107),(20,108)] (F:=[(96,false)]) (U:=[]) j0 t0 (.cons rfl .nil) .nil ?_
 dsimp only [ai,List.map]
 refine Rv 21 j0 rfl t0 (fun _=>Ap rfl rfl)<|Rv 22 j0 rfl t0 (fun _=>AN rfl)<|AI (dk j0)<|Ac<|Ae rfl<|Ab (AH rfl (I0.memA .t2))<|Al .plain rfl (AL (α:=Int) (xs:=([(0:Int),(0:Int),(0:Int),(0:Int)]:List Int)) (vs:=[vI 0,vI 0,vI 0,vI 0]) (ds' :=[vI 0,vI 0,vI 0,vI 0]) rfl I0 fF rfl (e4 rfl rfl rfl rfl) (by kernel_rfl) rfl) fun d07 t8 V3 c5=>?_
 have W3:=Bw V3 .t4
 have d5:=Bx V3 .t4
 have q3:=By (α:=Tc) (v:=E0) (xs:=y3.1.fm) W3 L (Bh (α:=Tc) V3 .t4 (AX u5 (Tt I4 (Tt J4 (Tt K4 (Tt B2 (Tt q2 (Tt z2 (Tt V0 (Tt W0 (Tt X0 (Tt Y0 (Tt Z0 (Tt b1 (Tt c1 (Tt g1 (Tt j1 (Tt k1 (Tt p1 (Tt q1 (Tt s1 (Tt u1 (Tt v1 (Tt x1 (Tt z1 (Tt A1 (Tt B1 (Tt C1 (Tt D1 (Tt E1 (Tt F1 (Tt G1 (Tt H1 (Tt I1 (Tt J1 (Tt K1 (Tt M1 (Tt P1 (Tt Q1 (Tt R1 (Tt A2 c5)))))))))))))))))))))))))))))))))))))))) hL)
 have X3:=Bw W3 .hd
 have y4:=Bx W3 .hd
 refine bk h fun b08 p02 h=>?_
 have v7:=Tt V0 (Tt W0 (Tt X0 (Tt Y0 (Tt Z0 (Tt b1 (Tt c1 (Tt g1 (Tt j1 (Tt k1 (Tt p1 (Tt q1 (Tt s1 (Tt u1 (Tt v1 (Tt x1 (Tt z1 (Tt A1 (Tt B1 (Tt C1 (Tt D1 (Tt E1 (Tt F1 (Tt G1 (Tt H1 (Tt I1 (Tt J1 (Tt K1 (Tt M1 (Tt P1 (Tt Q1 (Tt R1 (Tt A2 (Tt c5 (Tt d5 y4))))))))))))))))))))))))))))))))))
 refine jE (bd 25) rfl (e4 rfl rfl rfl rfl) (fun p q=>az_c n (X3.hL hL q) (Am (Ax U1 v7) q) y3.1 (Am (Ax q3 y4) q) (Am (By (α:=Int) (v:=(vS t8 4)) (xs:=([(0:Int),(0:Int),(0:Int),(0:Int)]:List Int)) X3 L (Bh (α:=Int) W3 .hd (AX (AG (cs:=[vI 0,vI 0,vI 0,vI 0]) (xs:=(([(0:Int),(0:Int),(0:Int),(0:Int)]:List Int):List Int)) V3 L (Ak (cs:=[vI 0]) (ds:=[vI 0,vI 0,vI 0]) rfl (Ak (cs:=[vI 0]) (ds:=[vI 0,vI 0]) rfl (Ak (cs:=[vI 0]) (ds:=[vI 0]) rfl (Ak (cs:=[vI 0]) (ds:=[]) rfl (AJ _ _)))))) d5) hL)) q) (hG0.keep (X3.ag.trans q)) p02) rfl fun g07 E05 z00 ⟨Z04,hu_,D04⟩=>?_
 subst hu_
 obtain ⟨Y3,g5⟩:=X3.agr z00
 refine Ae rfl<|Ab (Ag rfl rfl)<|Ab (Ag rfl rfl)<|Ah rfl<|Ah rfl<|Aa<|Ac<|Ae rfl<|Ab (AH rfl (Y3.memA .t2))<|Ae rfl ?_
 have Z3:=Bw Y3 .t1
 have B6:=Bx Y3 .t1
 have s3:=By (α:=Int) (v:=(vS U0 4)) (xs:=([(0:Int),(0:Int),(1:Int),(1:Int)]:List Int)) Z3 L (Bh (α:=Int) Y3 .t1 (AX v5 (Tt B2 (Tt q2 (Tt z2 (Tt V0 (Tt W0 (Tt X0 (Tt Y0 (Tt Z0 (Tt b1 (Tt c1 (Tt g1 (Tt j1 (Tt k1 (Tt p1 (Tt q1 (Tt s1 (Tt u1 (Tt v1 (Tt x1 (Tt z1 (Tt A1 (Tt B1 (Tt C1 (Tt D1 (Tt E1 (Tt F1 (Tt G1 (Tt H1 (Tt I1 (Tt J1 (Tt K1 (Tt M1 (Tt P1 (Tt Q1 (Tt R1 (Tt A2 (Tt c5 (Tt d5 (Tt y4 g5)))))))))))))))))))))))))))))))))))))))) hL)
 refine bk h fun c08 q02 h=>?_
 have x7:=Tt v7 (Tt g5 B6)
 have A5:=Tt y4 (Tt g5 B6)
 refine jE (bd 24) rfl (e4 rfl rfl rfl rfl) (fun p q=>aE_c n (Z3.hL hL q) (Am (Ax U1 x7) q) y3.1 (Am (Ax q3 A5) q) (Am s3 q) (hG0.keep (Z3.ag.trans q)) q02) rfl fun j07 F05 A00 ⟨b05,hu_,E04⟩=>?_
 subst hu_
 obtain ⟨b4,D2⟩:=Z3.agr A00
 refine Ae rfl<|Ab (Ag rfl rfl)<|Ab (Ag rfl rfl)<|Ah rfl<|Ah rfl<|Aa<|Aj<|du 10 fun G0 W1=>Rv 0 G0 rfl W1 (fun _=>Ai rfl)<|bk h fun V07 v01 h=>RD.valE (i:=1) (m' :=3) (W:=1008) (tk G0) rfl W1 .plain rfl (FV.cutL (α:=Ta) v01 rfl rfl (Ax U1 (Tt x7 D2)) rfl ⟨_,rfl⟩) fun c05 Z00=>Rx 2 1008 G0 rfl W1 (AH rfl (b4.memA .t1))<|Rv 3 G0 rfl W1 (fun _=>Ai rfl)<|bk h fun d08 s02 h=>Bz 4 31 G0 rfl .plain (bd 19) rfl (e4 rfl rfl rfl rfl) (fun p q=>ah_c n (b4.hL hL q) (Am Z00 q) y3.1 (Am (Ax q3 (Tt A5 D2)) q) (Am (Ax s3 D2) q) (hG0.keep (b4.ag.trans q)) s02) rfl fun k07 G05 B00 ⟨d05,hu_,F04⟩=>?_
 subst hu_
 obtain ⟨x2,j5⟩:=b4.agr B00
 refine Rv 5 G0 rfl W1 (fun _=>Ai rfl)<|Rv 6 G0 rfl W1 (fun _=>Ag rfl rfl)<|Rv 7 G0 rfl W1 (fun _=>Ag rfl rfl)<|Rv 8 G0 rfl W1 (fun _=>AN rfl)<|Rv 9 G0 rfl W1 (fun _=>AN rfl)<|AI (dk G0)<|Ac<|Ab (AH rfl (x2.memA .t1))<|Ae rfl<|bk h fun E5 t02 h=>?_
 have y7:=Tt A5 (Tt D2 j5)
 refine AY (.tuple #[.agg ((aa E5.1)).toArray,vI E5.2]) (bd 23) rfl (e4 rfl rfl rfl rfl) (fun p q=>av_c n (x2.hL0 hL q) (Am (Rep.nilSlice _ _) q) y3.1 (x2.kd (Ax q3 y7) q) (x2.kd (Ax s3 (Tt D2 j5)) q) (hG0.keep (x2.ag.trans q)) t02) rfl<|Ae rfl<|Ab (Ag rfl rfl)<|Ab (Ag rfl rfl)<|RG.nl zL x2 fun p07 P03 Q9 C6=>AR (aa E5.1) Q9 .hd (aj rfl) fun q07 R9 D6=>Ah rfl<|Aa<|Ac<|Ab (AE (vs:=[.string ⟨#[120]⟩,vW 1]) (u:=.agg #[.string ⟨#[120]⟩,vI 0,vW 1]) (e2 rfl rfl) (fun p=>by kernel_rfl))<|Al .plain rfl (AL (α:=Ta) (xs:=([(⟨⟨#[120]⟩,(0:Int),1⟩:Ta)]:List Ta)) (vs:=[.agg #[.string ⟨#[120]⟩,vI 0,vW 1]]) (ds' :=[.string ⟨#[120]⟩,vI 0,vW 1]) rfl R9 bw rfl (e1 rfl) (by kernel_rfl) rfl) fun s07 Q03 g2 E6=>Ab (AH rfl (g2.memA .t3))<|Ae rfl<|bk h fun F5 u02 h=>?_
 have z7:=Tt D2 (Tt j5 (Tt C6 (Tt D6 E6)))
 refine AY (.tuple #[.agg ((aa F5.1)).toArray,vI F5.2]) (bd 23) rfl (e4 rfl rfl rfl rfl) (fun p q=>av_c n (g2.hL0 hL q) (Am (St.lend (α:=Ta) (L:=L) g2 .hd (AG (cs:=[.string ⟨#[120]⟩,vI 0,vW 1]) (xs:=(([(⟨⟨#[120]⟩,(0:Int),1⟩:Ta)]:List Ta):List Ta)) g2 L (Ak (cs:=[.string ⟨#[120]⟩,vI 0,vW 1]) (ds:=[]) (aH ⟨#[120]⟩ (0:Int) (1:UInt64)) (AJ _ _))) hL) q) y3.1 (g2.kd (Ax q3 (Tt y7 (Tt C6 (Tt D6 E6)))) q) (g2.kd (Ax s3 z7) q) (hG0.keep (g2.ag.trans q)) u02) rfl<|Ae rfl<|Ab (Ag rfl rfl)<|Ab (Ag rfl rfl)<|RG.nl zL g2 fun t07 R03 U9 g00=>AR (aa F5.1) U9 .hd (aj rfl) fun u07 c6 j00=>Ah rfl<|Aa<|Ac<|Ab (AE (vs:=[.string ⟨#[97]⟩]) (u:=.agg #[.string ⟨#[97]⟩,vI 0,vN,vN,vN,.bool false]) (e1 rfl) (fun p=>by kernel_rfl))<|Ab (AE (vs:=[.string ⟨#[98]⟩]) (u:=.agg #[.string ⟨#[98]⟩,vI 0,vN,vN,vN,.bool false]) (e1 rfl) (fun p=>by kernel_rfl))<|Ab (AE (vs:=[.string ⟨#[99]⟩]) (u:=.agg #[.string ⟨#[99]⟩,vI 0,vN,vN,vN,.bool false]) (e1 rfl) (fun p=>by kernel_rfl))<|Ab (AE (vs:=[.string ⟨#[100]⟩,vI 1]) (u:=.agg #[.string ⟨#[100]⟩,vI 1,vN,vN,vN,.bool false]) (e2 rfl rfl) (fun p=>by kernel_rfl)) ?_
 have G04:=BA (α:=Int) c6 L
 refine Al .plain rfl (AL (α:=Tc) (xs:=([(⟨⟨#[97]⟩,(0:Int),([]:List Int),([]:List Int),([]:List Int),false⟩:Tc),(⟨⟨#[98]⟩,(0:Int),([]:List Int),([]:List Int),([]:List Int),false⟩:Tc),(⟨⟨#[99]⟩,(0:Int),([]:List Int),([]:List Int),([]:List Int),false⟩:Tc),(⟨⟨#[100]⟩,(1:Int),([]:List Int),([]:List Int),([]:List Int),false⟩:Tc)]:List Tc)) (vs:=[.agg #[.string ⟨#[97]⟩,vI 0,vN,vN,vN,.bool false],.agg #[.string ⟨#[98]⟩,vI 0,vN,vN,vN,.bool false],.agg #[.string ⟨#[99]⟩,vI 0,vN,vN,vN,.bool false],.agg #[.string ⟨#[100]⟩,vI 1,vN,vN,vN,.bool false]]) (ds' :=[.string ⟨#[97]⟩,vI 0,vN,vN,vN,.bool false,.string ⟨#[98]⟩,vI 0,vN,vN,vN,.bool false,.string ⟨#[99]⟩,vI 0,vN,vN,vN,.bool false,.string ⟨#[100]⟩,vI 1,vN,vN,vN,.bool false]) rfl c6 cP rfl (e4 rfl rfl rfl rfl) (by kernel_rfl) rfl) fun v07 E3 G4 k00=>?_
 have B0:=BA (α:=Int) G4 L
 refine Ab (AE (vs:=[(vS E3 4)]) (u:=.agg #[vI 0,vI 0,vI 0,(vS E3 4)]) (e1 rfl) (fun p=>by kernel_rfl))<|RG.nl [vI 0,vI 0,vI 0,vN] G4 fun x07 U03 d6 F6=>AR [vI 0,vI 0,vI 0,(vS E3 4)] d6 .hd (o4 rfl rfl rfl (St.o1 (α:=Tc) d6 .t1)) fun y07 V9 G6=>Aa<|Ac<|Ab (AE (vs:=[.string ⟨#[120]⟩,vW 7]) (u:=.agg #[.string ⟨#[120]⟩,vI 0,vW 7]) (e2 rfl rfl) (fun p=>by kernel_rfl))<|Ab (AE (vs:=[.string ⟨#[121]⟩,vW 15]) (u:=.agg #[.string ⟨#[121]⟩,vI 0,vW 15]) (e2 rfl rfl) (fun p=>by kernel_rfl))<|Al .plain rfl (AL (α:=Ta) (xs:=([(⟨⟨#[120]⟩,(0:Int),7⟩:Ta),(⟨⟨#[121]⟩,(0:Int),15⟩:Ta)]:List Ta)) (vs:=[.agg #[.string ⟨#[120]⟩,vI 0,vW 7],.agg #[.string ⟨#[121]⟩,vI 0,vW 15]]) (ds' :=[.string ⟨#[120]⟩,vI 0,vW 7,.string ⟨#[121]⟩,vI 0,vW 15]) rfl V9 bw rfl (e2 rfl rfl) (by kernel_rfl) rfl) fun z07 v8 j3 H6=>Ab (AH rfl (j3.memA .t1))<|Ae rfl ?_
 have c4:=Bw j3 .hd
 have I6:=Bx j3 .hd
 have d4:=Bw c4 .t1
 have J6:=Bx c4 .t1
 refine bk h fun g08 v02 h=>jE (bd 19) rfl (e4 rfl rfl rfl rfl) (fun p q=>ah_c n (d4.hL hL q) (Am (Ax (By (α:=Ta) (v:=(vS v8 2)) (xs:=([(⟨⟨#[120]⟩,(0:Int),7⟩:Ta),(⟨⟨#[121]⟩,(0:Int),15⟩:Ta)]:List Ta)) c4 L (Bh (α:=Ta) j3 .hd (AG (cs:=[.string ⟨#[120]⟩,vI 0,vW 7,.string ⟨#[121]⟩,vI 0,vW 15]) (xs:=(([(⟨⟨#[120]⟩,(0:Int),7⟩:Ta),(⟨⟨#[121]⟩,(0:Int),15⟩:Ta)]:List Ta):List Ta)) j3 L (Ak (cs:=[.string ⟨#[120]⟩,vI 0,vW 7]) (ds:=[.string ⟨#[121]⟩,vI 0,vW 15]) (aH ⟨#[120]⟩ (0:Int) (7:UInt64)) (Ak (cs:=[.string ⟨#[121]⟩,vI 0,vW 15]) (ds:=[]) (aH ⟨#[121]⟩ (0:Int) (15:UInt64)) (AJ _ _)))) hL)) J6) q) (⟨(0:Int),(0:Int),(0:Int),([(⟨⟨#[97]⟩,(0:Int),([]:List Int),([]:List Int),([]:List Int),false⟩:Tc),(⟨⟨#[98]⟩,(0:Int),([]:List Int),([]:List Int),([]:List Int),false⟩:Tc),(⟨⟨#[99]⟩,(0:Int),([]:List Int),([]:List Int),([]:List Int),false⟩:Tc),(⟨⟨#[100]⟩,(1:Int),([]:List Int),([]:List Int),([]:List Int),false⟩:Tc)]:List Tc)⟩:Tg) (Am (By (α:=Tc) (v:=(vS E3 4)) (xs:=([(⟨⟨#[97]⟩,(0:Int),([]:List Int),([]:List Int),([]:List Int),false⟩:Tc),(⟨⟨#[98]⟩,(0:Int),([]:List Int),([]:List Int),([]:List Int),false⟩:Tc),(⟨⟨#[99]⟩,(0:Int),([]:List Int),([]:List Int),([]:List Int),false⟩:Tc),(⟨⟨#[100]⟩,(1:Int),([]:List Int),([]:List Int),([]:List Int),false⟩:Tc)]:List Tc)) d4 L (Bh (α:=Tc) c4 .t1 (AX (AG (cs:=[.string ⟨#[97]⟩,vI 0,vN,vN,vN,.bool false,.string ⟨#[98]⟩,vI 0,vN,vN,vN,.bool false,.string ⟨#[99]⟩,vI 0,vN,vN,vN,.bool false,.string ⟨#[100]⟩,vI 1,vN,vN,vN,.bool false]) (xs:=(([(⟨⟨#[97]⟩,(0:Int),([]:List Int),([]:List Int),([]:List Int),false⟩:Tc),(⟨⟨#[98]⟩,(0:Int),([]:List Int),([]:List Int),([]:List Int),false⟩:Tc),(⟨⟨#[99]⟩,(0:Int),([]:List Int),([]:List Int),([]:List Int),false⟩:Tc),(⟨⟨#[100]⟩,(1:Int),([]:List Int),([]:List Int),([]:List Int),false⟩:Tc)]:List Tc):List Tc)) G4 L (Ak (cs:=[.string ⟨#[97]⟩,vI 0,vN,vN,vN,.bool false]) (ds:=[.string ⟨#[98]⟩,vI 0,vN,vN,vN,.bool false,.string ⟨#[99]⟩,vI 0,vN,vN,vN,.bool false,.string ⟨#[100]⟩,vI 1,vN,vN,vN,.bool false]) (ba ⟨#[97]⟩ (0:Int) ([]:List Int) B0 ([]:List Int) B0 ([]:List Int) B0 false) (Ak (cs:=[.string ⟨#[98]⟩,vI 0,vN,vN,vN,.bool false]) (ds:=[.string ⟨#[99]⟩,vI 0,vN,vN,vN,.bool false,.string ⟨#[100]⟩,vI 1,vN,vN,vN,.bool false]) (ba ⟨#[98]⟩ (0:Int) ([]:List Int) B0 ([]:List Int) B0 ([]:List Int) B0 false) (Ak (cs:=[.string ⟨#[99]⟩,vI 0,vN,vN,vN,.bool false]) (ds:=[.string ⟨#[100]⟩,vI 1,vN,vN,vN,.bool false]) (ba ⟨#[99]⟩ (0:Int) ([]:List Int) B0 ([]:List Int) B0 ([]:List Int) B0 false) (Ak (cs:=[.string ⟨#[100]⟩,vI 1,vN,vN,vN,.bool false]) (ds:=[]) (ba ⟨#[100]⟩ (1:Int) ([]:List Int) B0 ([]:List Int) B0 ([]:List Int) B0 false) (AJ _ _)))))) (Tt F6 (Tt G6 (Tt H6 I6)))) hL)) q) (Am (Ax s3 (Tt z7 (Tt g00 (Tt j00 (Tt k00 (Tt F6 (Tt G6 (Tt H6 (Tt I6 J6))))))))) q) (hG0.keep (d4.ag.trans q)) v02) rfl fun A07 H05 C00 ⟨g05,hu_,H04⟩=>?_
 subst hu_
 obtain ⟨W9,t04⟩:=d4.agr C00
 refine Ae rfl<|Ab (Ag rfl rfl)<|Ab (Ag rfl rfl)<|Ah rfl<|Ah rfl<|Aa<|Aj<|du 58 fun k0 q0=>Rv 0 k0 rfl q0 (fun _=>Ai rfl)<|Bs 1 3 k0 rfl q0 (.yes rfl rfl) (fun _=>Ai rfl) rfl<|Rv 2 k0 rfl q0 (fun _=>Bm rfl rfl)<|Rv 3 k0 rfl q0 (fun _=>Ai rfl)<|Ay 63 52 [(4,165),(5,166)] (F:=[(164,false)]) (U:=[]) k0 q0 (.cons rfl .nil) .nil ?_
 dsimp only [ai,List.map]
 refine Rv 6 k0 rfl q0 (fun _=>Ap rfl rfl)<|Rv 7 k0 rfl q0 (fun _=>Ai rfl)<|Ay 1023 48 [(8,169),(9,170)] (F:=[(168,false)]) (U:=[]) k0 q0 (.cons rfl .nil) .nil ?_
 dsimp only [ai,List.map]
 refine Rv 10 k0 rfl q0 (fun _=>Ap rfl rfl)<|Rv 11 k0 rfl q0 (fun _=>Ai rfl)<|Ay 16383 44 [(12,173),(13,174)] (F:=[(172,false)]) (U:=[]) k0 q0 (.cons rfl .nil) .nil ?_
 dsimp only [ai,List.map]
 refine Rv 14 k0 rfl q0 (fun _=>Ap rfl rfl)<|Rv 15 k0 rfl q0 (fun _=>Ai rfl)<|Ay 262143 40 [(16,177),(17,178)] (F:=[(176,false)]) (U:=[]) k0 q0 (.cons rfl .nil) .nil ?_
 dsimp only [ai,List.map]
 refine Rv 18 k0 rfl q0 (fun _=>Ap rfl rfl)<|Rv 19 k0 rfl q0 (fun _=>Ai rfl)<|Ay 4194303 36 [(20,181),(21,182)] (F:=[(180,false)]) (U:=[]) k0 q0 (.cons rfl .nil) .nil ?_
 dsimp only [ai,List.map]
 refine Rv 22 k0 rfl q0 (fun _=>Ap rfl rfl)<|Rv 23 k0 rfl q0 (fun _=>Ai rfl)<|Ay 67108863 32 [(24,185),(25,186)] (F:=[(184,false)]) (U:=[]) k0 q0 (.cons rfl .nil) .nil ?_
 dsimp only [ai,List.map]
 refine Rv 26 k0 rfl q0 (fun _=>Ap rfl rfl)<|Rv 27 k0 rfl q0 (fun _=>Ai rfl)<|Ay 8589934591 25 [(28,189),(29,190),(30,191),(31,192),(32,193)] (F:=[(188,false)]) (U:=[]) k0 q0 (.cons rfl .nil) .nil ?_
 dsimp only [ai,List.map]
 refine Rv 33 k0 rfl q0 (fun _=>Ap rfl rfl)<|Rv 34 k0 rfl q0 (fun _=>Ai rfl)<|Ay 4398046511103 16 [(35,196),(36,197),(37,198),(38,199),(39,200),(40,201),(41,202)] (F:=[(195,false)]) (U:=[]) k0 q0 (.cons rfl .nil) .nil ?_
 dsimp only [ai,List.map]
 refine Rv 42 k0 rfl q0 (fun _=>Ap rfl rfl)<|Rv 43 k0 rfl q0 (fun _=>Ai rfl)<|Ay 562949953421311 9 [(44,205),(45,206),(46,207),(47,208),(48,209)] (F:=[(204,false)]) (U:=[]) k0 q0 (.cons rfl .nil) .nil ?_
 dsimp only [ai,List.map]
 refine Rv 49 k0 rfl q0 (fun _=>Ap rfl rfl)<|Rv 50 k0 rfl q0 (fun _=>Ai rfl)<|Ay 72057594037927935 2 [(51,212),(52,213),(53,214),(54,215),(55,216)] (F:=[(211,false)]) (U:=[]) k0 q0 (.cons rfl .nil) .nil ?_
 dsimp only [ai,List.map]
 refine Rv 56 k0 rfl q0 (fun _=>Ap rfl rfl)<|Rv 57 k0 rfl q0 (fun _=>AN rfl)<|AI (dk k0)<|Ao rfl<|AP hb0 func9 rfl rfl ?_
 cases h
 exact W9.gv
 refine Ay 127 16 [(2,90),(3,91),(4,92),(5,93),(6,94)] (F:=[(89,false)]) (U:=[]) j0 t0 (.cons rfl .nil) .nil ?_
 dsimp only [ai,List.map]
 refine Rv 7 j0 rfl t0 (fun _=>Ap rfl rfl)<|Rv 8 j0 rfl t0 (fun _=>Ai rfl)<|Ay 2097151 2 [(9,97),(10,98),(11,99),(12,100),(13,101),(14,102),(15,103),(16,104),(17,105),(18,106),(19,107),(20,108)] (F:=[(96,false)]) (U:=[]) j0 t0 (.cons rfl .nil) .nil ?_
 dsimp only [ai,List.map]
 refine Rv 21 j0 rfl t0 (fun _=>Ap rfl rfl)<|Rv 22 j0 rfl t0 (fun _=>AN rfl)<|AI (dk j0)<|Ac<|Ae rfl<|Ab (AH rfl (G3.memA .t1))<|Al .plain rfl (AL (α:=Int) (xs:=([(0:Int),(0:Int),(0:Int),(0:Int)]:List Int)) (vs:=[vI 0,vI 0,vI 0,vI 0]) (ds' :=[vI 0,vI 0,vI 0,vI 0]) rfl G3 fF rfl (e4 rfl rfl rfl rfl) (by kernel_rfl) rfl) fun B07 x8 g4 k5=>?_
 have j4:=Bw g4 .t3
 have p5:=Bx g4 .t3
 have u3:=By (α:=Tc) (v:=E0) (xs:=y3.1.fm) j4 L (Bh (α:=Tc) g4 .t3 (AX u5 (Tt I4 (Tt J4 (Tt K4 (Tt B2 (Tt q2 (Tt z2 (Tt V0 (Tt W0 (Tt X0 (Tt Y0 (Tt Z0 (Tt b1 (Tt c1 (Tt g1 (Tt j1 (Tt k1 (Tt p1 (Tt q1 (Tt s1 (Tt u1 (Tt v1 (Tt x1 (Tt z1 (Tt A1 (Tt B1 (Tt C1 (Tt D1 (Tt E1 (Tt F1 (Tt G1 (Tt H1 (Tt I1 (Tt J1 (Tt K1 (Tt M1 (Tt P1 (Tt Q1 (Tt R1 k5))))))))))))))))))))))))))))))))))))))) hL)
 have k4:=Bw j4 .hd
 have z4:=Bx j4 .hd
 refine bk h fun j08 x02 h=>?_
 have A7:=Tt V0 (Tt W0 (Tt X0 (Tt Y0 (Tt Z0 (Tt b1 (Tt c1 (Tt g1 (Tt j1 (Tt k1 (Tt p1 (Tt q1 (Tt s1 (Tt u1 (Tt v1 (Tt x1 (Tt z1 (Tt A1 (Tt B1 (Tt C1 (Tt D1 (Tt E1 (Tt F1 (Tt G1 (Tt H1 (Tt I1 (Tt J1 (Tt K1 (Tt M1 (Tt P1 (Tt Q1 (Tt R1 (Tt k5 (Tt p5 z4)))))))))))))))))))))))))))))))))
 refine jE (bd 25) rfl (e4 rfl rfl rfl rfl) (fun p q=>az_c n (k4.hL hL q) (Am (Ax U1 A7) q) y3.1 (Am (Ax u3 z4) q) (Am (By (α:=Int) (v:=(vS x8 4)) (xs:=([(0:Int),(0:Int),(0:Int),(0:Int)]:List Int)) k4 L (Bh (α:=Int) j4 .hd (AX (AG (cs:=[vI 0,vI 0,vI 0,vI 0]) (xs:=(([(0:Int),(0:Int),(0:Int),(0:Int)]:List Int):List Int)) g4 L (Ak (cs:=[vI 0]) (ds:=[vI 0,vI 0,vI 0]) rfl (Ak (cs:=[vI 0]) (ds:=[vI 0,vI 0]) rfl (Ak (cs:=[vI 0]) (ds:=[vI 0]) rfl (Ak (cs:=[vI 0]) (ds:=[]) rfl (AJ _ _)))))) p5) hL)) q) (hG0.keep (k4.ag.trans q)) x02) rfl fun C07 I05 D00 ⟨j05,hu_,I04⟩=>?_
 subst hu_
 obtain ⟨p4,q5⟩:=k4.agr D00
 refine Ae rfl<|Ab (Ag rfl rfl)<|Ab (Ag rfl rfl)<|Ah rfl<|Ah rfl<|Aa<|Ac<|Ae rfl<|Ab (AH rfl (p4.memA .t1))<|Ae rfl ?_
 have q4:=Bw p4 .hd
 have K6:=Bx p4 .hd
 have v3:=By (α:=Int) (v:=(vS U0 4)) (xs:=([(0:Int),(0:Int),(1:Int),(1:Int)]:List Int)) q4 L (Bh (α:=Int) p4 .hd (AX v5 (Tt B2 (Tt q2 (Tt z2 (Tt V0 (Tt W0 (Tt X0 (Tt Y0 (Tt Z0 (Tt b1 (Tt c1 (Tt g1 (Tt j1 (Tt k1 (Tt p1 (Tt q1 (Tt s1 (Tt u1 (Tt v1 (Tt x1 (Tt z1 (Tt A1 (Tt B1 (Tt C1 (Tt D1 (Tt E1 (Tt F1 (Tt G1 (Tt H1 (Tt I1 (Tt J1 (Tt K1 (Tt M1 (Tt P1 (Tt Q1 (Tt R1 (Tt k5 (Tt p5 (Tt z4 q5))))))))))))))))))))))))))))))))))))))) hL)
 refine bk h fun k08 y02 h=>?_
 have B7:=Tt A7 (Tt q5 K6)
 have B5:=Tt z4 (Tt q5 K6)
 refine jE (bd 24) rfl (e4 rfl rfl rfl rfl) (fun p q=>aE_c n (q4.hL hL q) (Am (Ax U1 B7) q) y3.1 (Am (Ax u3 B5) q) (Am v3 q) (hG0.keep (q4.ag.trans q)) y02) rfl fun D07 J05 E00 ⟨k05,hu_,J04⟩=>?_
 subst hu_
 obtain ⟨s4,E2⟩:=q4.agr E00
 refine Ae rfl<|Ab (Ag rfl rfl)<|Ab (Ag rfl rfl)<|Ah rfl<|Ah rfl<|Aa<|Aj<|du 10 fun H0 X1=>Rv 0 H0 rfl X1 (fun _=>Ai rfl)<|bk h fun W07 x01 h=>RD.valE (i:=1) (m' :=3) (W:=1008) (tk H0) rfl X1 .plain rfl (FV.cutL (α:=Ta) x01 rfl rfl (Ax U1 (Tt B7 E2)) rfl ⟨_,rfl⟩) fun p05 b01=>Rx 2 1008 H0 rfl X1 (AH rfl (s4.memA .hd))<|Rv 3 H0 rfl X1 (fun _=>Ai rfl)<|bk h fun p08 z02 h=>Bz 4 31 H0 rfl .plain (bd 19) rfl (e4 rfl rfl rfl rfl) (fun p q=>ah_c n (s4.hL hL q) (Am b01 q) y3.1 (Am (Ax u3 (Tt B5 E2)) q) (Am (Ax v3 E2) q) (hG0.keep (s4.ag.trans q)) z02) rfl fun E07 K05 F00 ⟨q05,hu_,K04⟩=>?_
 subst hu_
 obtain ⟨y2,s5⟩:=s4.agr F00
 refine Rv 5 H0 rfl X1 (fun _=>Ai rfl)<|Rv 6 H0 rfl X1 (fun _=>Ag rfl rfl)<|Rv 7 H0 rfl X1 (fun _=>Ag rfl rfl)<|Rv 8 H0 rfl X1 (fun _=>AN rfl)<|Rv 9 H0 rfl X1 (fun _=>AN rfl)<|AI (dk H0)<|Ac<|Ab (AH rfl (y2.memA .hd))<|Ae rfl<|bk h fun G5 A02 h=>?_
 have C7:=Tt B5 (Tt E2 s5)
 refine AY (.tuple #[.agg ((aa G5.1)).toArray,vI G5.2]) (bd 23) rfl (e4 rfl rfl rfl rfl) (fun p q=>av_c n (y2.hL0 hL q) (Am (Rep.nilSlice _ _) q) y3.1 (y2.kd (Ax u3 C7) q) (y2.kd (Ax v3 (Tt E2 s5)) q) (hG0.keep (y2.ag.trans q)) A02) rfl<|Ae rfl<|Ab (Ag rfl rfl)<|Ab (Ag rfl rfl)<|RG.nl zL y2 fun F07 V03 X9 M6=>AR (aa G5.1) X9 .hd (aj rfl) fun G07 Y9 P6=>Ah rfl<|Aa<|Ac<|Ab (AE (vs:=[.string ⟨#[120]⟩,vW 1]) (u:=.agg #[.string ⟨#[120]⟩,vI 0,vW 1]) (e2 rfl rfl) (fun p=>by kernel_rfl))<|Al .plain rfl (AL (α:=Ta) (xs:=([(⟨⟨#[120]⟩,(0:Int),1⟩:Ta)]:List Ta)) (vs:=[.agg #[.string ⟨#[120]⟩,vI 0,vW 1]]) (ds' :=[.string ⟨#[120]⟩,vI 0,vW 1]) rfl Y9 bw rfl (e1 rfl) (by kernel_rfl) rfl) fun H07 W03 j2 Q6=>Ab (AH rfl (j2.memA .t2))<|Ae rfl<|bk h fun H5 B02 h=>?_
 have D7:=Tt E2 (Tt s5 (Tt M6 (Tt P6 Q6)))
 refine AY (.tuple #[.agg ((aa H5.1)).toArray,vI H5.2]) (bd 23) rfl (e4 rfl rfl rfl rfl) (fun p q=>av_c n (j2.hL0 hL q) (Am (St.lend (α:=Ta) (L:=L) j2 .hd (AG (cs:=[.string ⟨#[120]⟩,vI 0,vW 1]) (xs:=(([(⟨⟨#[120]⟩,(0:Int),1⟩:Ta)]:List Ta):List Ta)) j2 L (Ak (cs:=[.string ⟨#[120]⟩,vI 0,vW 1]) (ds:=[]) (aH ⟨#[120]⟩ (0:Int) (1:UInt64)) (AJ _ _))) hL) q) y3.1 (j2.kd (Ax u3 (Tt C7 (Tt M6 (Tt P6 Q6)))) q) (j2.kd (Ax v3 D7) q) (hG0.keep (j2.ag.trans q)) B02) rfl<|Ae rfl<|Ab (Ag rfl rfl)<|Ab (Ag rfl rfl)<|RG.nl zL j2 fun I07 X03 Z9 p00=>AR (aa H5.1) Z9 .hd (aj rfl) fun J07 g6 q00=>Ah rfl<|Aa<|Ac<|Ab (AE (vs:=[.string ⟨#[97]⟩]) (u:=.agg #[.string ⟨#[97]⟩,vI 0,vN,vN,vN,.bool false]) (e1 rfl) (fun p=>by kernel_rfl))<|Ab (AE (vs:=[.string ⟨#[98]⟩]) (u:=.agg #[.string ⟨#[98]⟩,vI 0,vN,vN,vN,.bool false]) (e1 rfl) (fun p=>by kernel_rfl))<|Ab (AE (vs:=[.string ⟨#[99]⟩]) (u:=.agg #[.string ⟨#[99]⟩,vI 0,vN,vN,vN,.bool false]) (e1 rfl) (fun p=>by kernel_rfl))<|Ab (AE (vs:=[.string ⟨#[100]⟩,vI 1]) (u:=.agg #[.string ⟨#[100]⟩,vI 1,vN,vN,vN,.bool false]) (e2 rfl rfl) (fun p=>by kernel_rfl)) ?_
 have M04:=BA (α:=Int) g6 L
 refine Al .plain rfl (AL (α:=Tc) (xs:=([(⟨⟨#[97]⟩,(0:Int),([]:List Int),([]:List Int),([]:List Int),false⟩:Tc),(⟨⟨#[98]⟩,(0:Int),([]:List Int),([]:List Int),([]:List Int),false⟩:Tc),(⟨⟨#[99]⟩,(0:Int),([]:List Int),([]:List Int),([]:List Int),false⟩:Tc),(⟨⟨#[100]⟩,(1:Int),([]:List Int),([]:List Int),([]:List Int),false⟩:Tc)]:List Tc)) (vs:=[.agg #[.string ⟨#[97]⟩,vI 0,vN,vN,vN,.bool false],.agg #[.string ⟨#[98]⟩,vI 0,vN,vN,vN,.bool false],.agg #[.string ⟨#[99]⟩,vI 0,vN,vN,vN,.bool false],.agg #[.string ⟨#[100]⟩,vI 1,vN,vN,vN,.bool false]]) (ds' :=[.string ⟨#[97]⟩,vI 0,vN,vN,vN,.bool false,.string ⟨#[98]⟩,vI 0,vN,vN,vN,.bool false,.string ⟨#[99]⟩,vI 0,vN,vN,vN,.bool false,.string ⟨#[100]⟩,vI 1,vN,vN,vN,.bool false]) rfl g6 cP rfl (e4 rfl rfl rfl rfl) (by kernel_rfl) rfl) fun K07 F3 H4 s00=>?_
 have C0:=BA (α:=Int) H4 L
 refine Ab (AE (vs:=[(vS F3 4)]) (u:=.agg #[vI 0,vI 0,vI 0,(vS F3 4)]) (e1 rfl) (fun p=>by kernel_rfl))<|RG.nl [vI 0,vI 0,vI 0,vN] H4 fun M07 Y03 j6 R6=>AR [vI 0,vI 0,vI 0,(vS F3 4)] j6 .hd (o4 rfl rfl rfl (St.o1 (α:=Tc) j6 .t1)) fun P07 b00 U6=>Aa<|Ac<|Ab (AE (vs:=[.string ⟨#[120]⟩,vW 7]) (u:=.agg #[.string ⟨#[120]⟩,vI 0,vW 7]) (e2 rfl rfl) (fun p=>by kernel_rfl))<|Ab (AE (vs:=[.string ⟨#[121]⟩,vW 15]) (u:=.agg #[.string ⟨#[121]⟩,vI 0,vW 15]) (e2 rfl rfl) (fun p=>by kernel_rfl))<|Al .plain rfl (AL (α:=Ta) (xs:=([(⟨⟨#[120]⟩,(0:Int),7⟩:Ta),(⟨⟨#[121]⟩,(0:Int),15⟩:Ta)]:List Ta)) (vs:=[.agg #[.string ⟨#[120]⟩,vI 0,vW 7],.agg #[.string ⟨#[121]⟩,vI 0,vW 15]]) (ds' :=[.string ⟨#[120]⟩,vI 0,vW 7,.string ⟨#[121]⟩,vI 0,vW 15]) rfl b00 bw rfl (e2 rfl rfl) (by kernel_rfl) rfl) fun Q07 y8 k3 V6=>Ab (AH rfl (k3.memA .t1))<|Ae rfl ?_
 have u4:=Bw k3 .hd
 have W6:=Bx k3 .hd
 have v4:=Bw u4 .t1
 have X6:=Bx u4 .t1
 refine bk h fun q08 C02 h=>jE (bd 19) rfl (e4 rfl rfl rfl rfl) (fun p q=>ah_c n (v4.hL hL q) (Am (Ax (By (α:=Ta) (v:=(vS y8 2)) (xs:=([(⟨⟨#[120]⟩,(0:Int),7⟩:Ta),(⟨⟨#[121]⟩,(0:Int),15⟩:Ta)]:List Ta)) u4 L (Bh (α:=Ta) k3 .hd (AG (cs:=[.string ⟨#[120]⟩,vI 0,vW 7,.string ⟨#[121]⟩,vI 0,vW 15]) (xs:=(([(⟨⟨#[120]⟩,(0:Int),7⟩:Ta),(⟨⟨#[121]⟩,(0:Int),15⟩:Ta)]:List Ta):List Ta)) k3 L (Ak (cs:=[.string ⟨#[120]⟩,vI 0,vW 7]) (ds:=[.string ⟨#[121]⟩,vI 0,vW 15]) (aH ⟨#[120]⟩ (0:Int) (7:UInt64)) (Ak (cs:=[.string ⟨#[121]⟩,vI 0,vW 15]) (ds:=[]) (aH ⟨#[121]⟩ (0:Int) (15:UInt64)) (AJ _ _)))) hL)) X6) q) (⟨(0:Int),(0:Int),(0:Int),([(⟨⟨#[97]⟩,(0:Int),([]:List Int),([]:List Int),([]:List Int),false⟩:Tc),(⟨⟨#[98]⟩,(0:Int),([]:List Int),([]:List Int),([]:List Int),false⟩:Tc),(⟨⟨#[99]⟩,(0:Int),([]:List Int),([]:List Int),([]:List Int),false⟩:Tc),(⟨⟨#[100]⟩,(1:Int),([]:List Int),([]:List Int),([]:List Int),false⟩:Tc)]:List Tc)⟩:Tg) (Am (By (α:=Tc) (v:=(vS F3 4)) (xs:=([(⟨⟨#[97]⟩,(0:Int),([]:List Int),([]:List Int),([]:List Int),false⟩:Tc),(⟨⟨#[98]⟩,(0:Int),([]:List Int),([]:List Int),([]:List Int),false⟩:Tc),(⟨⟨#[99]⟩,(0:Int),([]:List Int),([]:List Int),([]:List Int),false⟩:Tc),(⟨⟨#[100]⟩,(1:Int),([]:List Int),([]:List Int),([]:List Int),false⟩:Tc)]:List Tc)) v4 L (Bh (α:=Tc) u4 .t1 (AX (AG (cs:=[.string ⟨#[97]⟩,vI 0,vN,vN,vN,.bool false,.string ⟨#[98]⟩,vI 0,vN,vN,vN,.bool false,.string ⟨#[99]⟩,vI 0,vN,vN,vN,.bool false,.string ⟨#[100]⟩,vI 1,vN,vN,vN,.bool false]) (xs:=(([(⟨⟨#[97]⟩,(0:Int),([]:List Int),([]:List Int),([]:List Int),false⟩:Tc),(⟨⟨#[98]⟩,(0:Int),([]:List Int),([]:List Int),([]:List Int),false⟩:Tc),(⟨⟨#[99]⟩,(0:Int),([]:List Int),([]:List Int),([]:List Int),false⟩:Tc),(⟨⟨#[100]⟩,(1:Int),([]:List Int),([]:List Int),([]:List Int),false⟩:Tc)]:List Tc):List Tc)) H4 L (Ak (cs:=[.string ⟨#[97]⟩,vI 0,vN,vN,vN,.bool false]) (ds:=[.string ⟨#[98]⟩,vI 0,vN,vN,vN,.bool false,.string ⟨#[99]⟩,vI 0,vN,vN,vN,.bool false,.string ⟨#[100]⟩,vI 1,vN,vN,vN,.bool false]) (ba ⟨#[97]⟩ (0:Int) ([]:List Int) C0 ([]:List Int) C0 ([]:List Int) C0 false) (Ak (cs:=[.string ⟨#[98]⟩,vI 0,vN,vN,vN,.bool false]) (ds:=[.string ⟨#[99]⟩,vI 0,vN,vN,vN,.bool false,.string ⟨#[100]⟩,vI 1,vN,vN,vN,.bool false]) (ba ⟨#[98]⟩ (0:Int) ([]:List Int) C0 ([]:List Int) C0 ([]:List Int) C0 false) (Ak (cs:=[.string ⟨#[99]⟩,vI 0,vN,vN,vN,.bool false]) (ds:=[.string ⟨#[100]⟩,vI 1,vN,vN,vN,.bool false]) (ba ⟨#[99]⟩ (0:Int) ([]:List Int) C0 ([]:List Int) C0 ([]:List Int) C0 false) (Ak (cs:=[.string ⟨#[100]⟩,vI 1,vN,vN,vN,.bool false]) (ds:=[]) (ba ⟨#[100]⟩ (1:Int) ([]:List Int) C0 ([]:List Int) C0 ([]:List Int) C0 false) (AJ _ _)))))) (Tt R6 (Tt U6 (Tt V6 W6)))) hL)) q) (Am (Ax v3 (Tt D7 (Tt p00 (Tt q00 (Tt s00 (Tt R6 (Tt U6 (Tt V6 (Tt W6 X6))))))))) q) (hG0.keep (v4.ag.trans q)) C02) rfl fun R07 M05 G00 ⟨s05,hu_,P04⟩=>?_
 subst hu_
 obtain ⟨c00,u04⟩:=v4.agr G00
 refine Ae rfl<|Ab (Ag rfl rfl)<|Ab (Ag rfl rfl)<|Ah rfl<|Ah rfl<|Aa<|Aj<|du 58 fun p0 s0=>Rv 0 p0 rfl s0 (fun _=>Ai rfl)<|Bs 1 3 p0 rfl s0 (.yes rfl rfl) (fun _=>Ai rfl) rfl<|Rv 2 p0 rfl s0 (fun _=>Bm rfl rfl)<|Rv 3 p0 rfl s0 (fun _=>Ai rfl)<|Ay 63 52 [(4,165),(5,166)] (F:=[(164,false)]) (U:=[]) p0 s0 (.cons rfl .nil) .nil ?_
 dsimp only [ai,List.map]
 refine Rv 6 p0 rfl s0 (fun _=>Ap rfl rfl)<|Rv 7 p0 rfl s0 (fun _=>Ai rfl)<|Ay 1023 48 [(8,169),(9,170)] (F:=[(168,false)]) (U:=[]) p0 s0 (.cons rfl .nil) .nil ?_
 dsimp only [ai,List.map]
 refine Rv 10 p0 rfl s0 (fun _=>Ap rfl rfl)<|Rv 11 p0 rfl s0 (fun _=>Ai rfl)<|Ay 16383 44 [(12,173),(13,174)] (F:=[(172,false)]) (U:=[]) p0 s0 (.cons rfl .nil) .nil ?_
 dsimp only [ai,List.map]
 refine Rv 14 p0 rfl s0 (fun _=>Ap rfl rfl)<|Rv 15 p0 rfl s0 (fun _=>Ai rfl)<|Ay 262143 40 [(16,177),(17,178)] (F:=[(176,false)]) (U:=[]) p0 s0 (.cons rfl .nil) .nil ?_
 dsimp only [ai,List.map]
 refine Rv 18 p0 rfl s0 (fun _=>Ap rfl rfl)<|Rv 19 p0 rfl s0 (fun _=>Ai rfl)<|Ay 4194303 36 [(20,181),(21,182)] (F:=[(180,false)]) (U:=[]) p0 s0 (.cons rfl .nil) .nil ?_
 dsimp only [ai,List.map]
 refine Rv 22 p0 rfl s0 (fun _=>Ap rfl rfl)<|Rv 23 p0 rfl s0 (fun _=>Ai rfl)<|Ay 67108863 32 [(24,185),(25,186)] (F:=[(184,false)]) (U:=[]) p0 s0 (.cons rfl .nil) .nil ?_
 dsimp only [ai,List.map]
 refine Rv 26 p0 rfl s0 (fun _=>Ap rfl rfl)<|Rv 27 p0 rfl s0 (fun _=>Ai rfl)<|Ay 8589934591 25 [(28,189),(29,190),(30,191),(31,192),(32,193)] (F:=[(188,false)]) (U:=[]) p0 s0 (.cons rfl .nil) .nil ?_
 dsimp only [ai,List.map]
 refine Rv 33 p0 rfl s0 (fun _=>Ap rfl rfl)<|Rv 34 p0 rfl s0 (fun _=>Ai rfl)<|Ay 4398046511103 16 [(35,196),(36,197),(37,198),(38,199),(39,200),(40,201),(41,202)] (F:=[(195,false)]) (U:=[]) p0 s0 (.cons rfl .nil) .nil ?_
 dsimp only [ai,List.map]
 refine Rv 42 p0 rfl s0 (fun _=>Ap rfl rfl)<|Rv 43 p0 rfl s0 (fun _=>Ai rfl)<|Ay 562949953421311 9 [(44,205),(45,206),(46,207),(47,208),(48,209)] (F:=[(204,false)]) (U:=[]) p0 s0 (.cons rfl .nil) .nil ?_
 dsimp only [ai,List.map]
 refine Rv 49 p0 rfl s0 (fun _=>Ap rfl rfl)<|Rv 50 p0 rfl s0 (fun _=>Ai rfl)<|Ay 72057594037927935 2 [(51,212),(52,213),(53,214),(54,215),(55,216)] (F:=[(211,false)]) (U:=[]) p0 s0 (.cons rfl .nil) .nil ?_
 dsimp only [ai,List.map]
 refine Rv 56 p0 rfl s0 (fun _=>Ap rfl rfl)<|Rv 57 p0 rfl s0 (fun _=>AN rfl)<|AI (dk p0)<|Ao rfl<|AP hb0 func9 rfl rfl ?_
 cases h
 exact c00.gv
 refine Ac<|Ah rfl<|Aa<|Ao rfl<|AP hb0 func9 rfl rfl ?_
 cases h
 exact b3.gv
 refine Ac<|Ah rfl<|Aa<|Ao rfl<|AP hb0 func9 rfl rfl ?_
 cases h
 exact Z2.gv
 refine Ac<|Ah rfl<|Aa<|Ao rfl<|AP hb0 func9 rfl rfl ?_
 cases h
 exact Y2.gv
 refine Ac<|Ah rfl<|Aa<|Ao rfl<|AP hb0 func9 rfl rfl ?_
 cases h
 exact X2.gv
 refine Ac<|Ah rfl<|Aa<|Ao rfl<|AP hb0 func9 rfl rfl ?_
 cases h
 exact W2.gv
 refine Ac<|Ah rfl<|Aa<|Ao rfl<|AP hb0 func9 rfl rfl ?_
 cases h
 exact V2.gv
 refine Ac<|Ah rfl<|Aa<|Ao rfl<|AP hb0 func9 rfl rfl ?_
 cases h
 exact U2.gv
 refine Ac<|Ah rfl<|Aa<|Ao rfl<|AP hb0 func9 rfl rfl ?_
 cases h
 exact R2.gv
 intro c03 u2 h
 try dsimp only at h
 refine Ar<|Ae rfl ?_
 have x0:=Bw p3 .hd
 have F2:=Bx p3 .hd
 have M0:=By (α:=Ta) (v:=z0) (xs:=y0) x0 L (Bh (α:=Ta) p3 .hd Y6 hL)
 refine bk h fun X07 y01 h=>RG.valE .plain rfl (FV.cutL (α:=Ta) y01 rfl rfl M0 rfl ⟨_,rfl⟩) fun t05 c01=>bk h fun Y7 D02 h=>AY (vI Y7) (bd 13) rfl (e2 rfl rfl) (fun p q=>aa_c n (x0.hL0 hL q) (x0.kd c01 q) D02) rfl<|Ab (FV.eql (i:=Y7) (j:=0) rfl rfl)<|Ae rfl<|RG.ifd (s:=46) rfl h (fun Y8 h=>?_) (fun Y8 h=>?_)
 refine AT (Ai rfl)<|bk h fun Z7 E02 h=>RG.callq' (v:=vI Z7) (fst:=[]) (cap:=[]) (.yes rfl rfl) (bd 13) rfl (e2 rfl rfl) (fun p q=>aa_c n (x0.hL0 hL q) (x0.kd M0 q) E02) rfl<|AT (FV.eql (i:=Z7) (j:=3) rfl rfl)<|RG.pt rfl rfl<|Ae rfl<|RG.ifd (s:=51) rfl h (fun Z8 h=>?_) (fun Z8 h=>?_)
 refine AT (Ai rfl)<|bk h fun Y07 z01 h=>RG.valE (.yes rfl rfl) rfl (FV.cutL (α:=Ta) z01 rfl rfl M0 rfl ⟨_,rfl⟩) fun u05 d01=>bk h fun b8 F02 h=>RG.callq' (v:=vI b8) (fst:=[]) (cap:=[]) (.yes rfl rfl) (bd 13) rfl (e2 rfl rfl) (fun p q=>aa_c n (x0.hL0 hL q) (x0.kd d01 q) F02) rfl<|AT (FV.eql (i:=b8) (j:=270) rfl rfl)<|RG.pt rfl rfl<|Ae rfl<|RG.ifd (s:=57) rfl h (fun b9 h=>?_) (fun b9 h=>?_)
 refine AT (Ai rfl)<|bk h fun c8 G02 h=>RG.callq' (v:=vI c8) (fst:=[]) (cap:=[]) (.yes rfl rfl) (bd 13) rfl (e2 rfl rfl) (fun p q=>aa_c n (x0.hL0 hL q) (x0.kd M0 q) G02) rfl<|AT (FV.eql (i:=c8) (j:=2) rfl rfl)<|RG.pt rfl rfl<|Ae rfl<|RG.ifd (s:=62) rfl h (fun c9 h=>?_) (fun c9 h=>?_)
 refine bk h fun d8 H02 h=>RG.callq' (v:=vI d8) (fst:=[]) (cap:=[]) (.yes rfl rfl) (bd 13) rfl (e2 rfl rfl) (fun p q=>aa_c n (x0.hL0 hL q) (Am (Rep.nilSlice _ _) q) H02) rfl<|AT (FV.eql (i:=d8) (j:=2) rfl rfl)<|RG.pt rfl rfl<|Ae rfl<|RG.ifd (s:=66) rfl h (fun d9 h=>?_) (fun d9 h=>?_)
 refine bk h fun I5 I02 h=>RG.callq' (v:=vI I5) (fst:=[]) (cap:=[]) (.yes rfl rfl) (bd 13) rfl (e2 rfl rfl) (fun p q=>aa_c n (x0.hL0 hL q) (Am (Rep.nilSlice _ _) q) I02) rfl<|AT (FV.eql (i:=I5) (j:=0) rfl rfl)<|RG.pt rfl rfl<|Ah rfl<|Aa<|u2 (y0,(decide (I5 = 0)),z0) x0 F2 M0 h
 refine AC<|AC<|Bu rfl rfl<|Ah rfl<|Aa<|u2 (y0,false,z0) x0 F2 M0 h
 refine AC<|AC<|Bu rfl rfl<|Ae rfl<|AC<|AC<|Bu rfl rfl<|Ah rfl<|Aa<|u2 (y0,false,z0) x0 F2 M0 h
 refine AC<|AC<|AC<|Bu rfl rfl<|Ae rfl<|AC<|AC<|Bu rfl rfl<|Ae rfl<|AC<|AC<|Bu rfl rfl<|Ah rfl<|Aa<|u2 (y0,false,z0) x0 F2 M0 h
 refine AC<|AC<|AC<|AC<|Bu rfl rfl<|Ae rfl<|AC<|AC<|AC<|Bu rfl rfl<|Ae rfl<|AC<|AC<|Bu rfl rfl<|Ae rfl<|AC<|AC<|Bu rfl rfl<|Ah rfl<|Aa<|u2 (y0,false,z0) x0 F2 M0 h
 refine AC<|AC<|AC<|Bu rfl rfl<|Ae rfl<|AC<|AC<|AC<|AC<|Bu rfl rfl<|Ae rfl<|AC<|AC<|AC<|Bu rfl rfl<|Ae rfl<|AC<|AC<|Bu rfl rfl<|Ae rfl<|AC<|AC<|Bu rfl rfl<|Ah rfl<|Aa<|u2 (y0,false,z0) x0 F2 M0 h
 refine Ac<|Ah rfl<|Aa<|Ao rfl<|AP hb0 func9 rfl rfl ?_
 cases h
 exact hS0.gv
end Go.Proofs.YtfccehcnajelgaaGreatDoor
