import Derived.Test.YtmhnkiifknjgaaaGreatDoorPA9
namespace Go.Proofs.YtmhnkiifknjgaaaGreatDoor
open Go Go.RowKit Tryz
set_option maxRecDepth 4000
set_option maxHeartbeats 4000000

structure Tsums86 where
  fw:Ta
  fx:Ta
  fy:Ta
  fa:Ta
  fb:Ta
  fc:Ta
  fd:Ta
  fn:Ta
  deriving DecidableEq
instance:Rep Tsums86:=Rep.via (β:=Ta × Ta × Ta × Ta × Ta × Ta × Ta × Ta) fun x=>(x.fw,x.fx,x.fy,x.fa,x.fb,x.fc,x.fd,x.fn)
def aj_l1 (_n:Nat) (c0:Tb) (g0:Int × Nat -> Oa Int):Int × Nat -> Oa Int
  | (d0,b0)=>(if b0 < c0.fH.length then (c0.fH[b0]?).bind fun k0=>(chk (d0 + k0)).bind fun j0=>g0 (j0,b0 + 1) else some d0)
def aj_l2 (n:Nat) (a1:Te) (a2:Int) (a3:Int) (x0:Int × Int × Int × Ta × Ta × Ta × Ta × Int -> Oa (Int × Int × Int × Ta × Ta × Ta × Ta)):Int × Int × Int × Ta × Ta × Ta × Ta × Int -> Oa (Int × Int × Int × Ta × Ta × Ta × Ta)
  | (t0,u0,d0,g0,j0,k0,p0,v0)=>(cn_p n a1).bind fun Q0=>(if d0 < Q0 then (idx a1.fv d0).bind fun b0=>Option.bind (au (aj_l1 n b0) n (0,0)) (fun G0=>jn (fun H0=>(if H0 = true then (chk (d0 + 1)).bind fun I0=>x0 (t0,u0,I0,g0,j0,k0,p0,v0) else (idx b0.fl a2).bind fun c0=>(chk (t0 + b0.ft)).bind fun J0=>(chk (u0 + c0)).bind fun K0=>(idx b0.fH a3).bind fun P0=>(am_p n P0 G0).bind fun q0=>(am_p n b0.ft (1:Int)).bind fun R0=>(aa_p n (⟨v0⟩:Ti) R0 q0).bind fun s0=>(aC_p n s0.1 g0 s0.2).bind fun z0=>(am_p n c0 (1:Int)).bind fun U0=>(am_p n c0 b0.ft).bind fun V0=>(aa_p n z0.1 U0 V0).bind fun A0=>(aC_p n A0.1 j0 A0.2).bind fun B0=>(am_p n c0 (1:Int)).bind fun W0=>(aa_p n B0.1 W0 q0).bind fun C0=>(aC_p n C0.1 k0 C0.2).bind fun D0=>(aa_p n D0.1 s0.2 q0).bind fun E0=>(aC_p n E0.1 p0 E0.2).bind fun F0=>(chk (d0 + 1)).bind fun M0=>x0 (J0,K0,M0,z0.2,B0.2,D0.2,F0.2,F0.1.fe))) (fun y0=>(if G0 = 0 then y0 true else y0 (decide (b0.ft = 0))))) else some (t0,u0,v0,j0,k0,g0,p0))
def aj_p (n:Nat) (a0:Ti) (a1:Te) (a2:Int) (a3:Int):Oa (Ti × Tsums86):=
  (am_p n (0:Int) (1:Int)).bind fun b0=>Option.bind (au (aj_l2 n a1 a2 a3) n (0,0,0,b0,b0,b0,b0,a0.fe)) (fun (B0,C0,D0,q0,s0,p0,A0)=>(am_p n B0 (1:Int)).bind fun g0=>(am_p n C0 (1:Int)).bind fun c0=>(aa_p n (⟨D0⟩:Ti) g0 q0).bind fun t0=>(aa_p n t0.1 c0 c0).bind fun u0=>(ab_p n u0.1 t0.2 u0.2).bind fun d0=>jn (fun z0=>jn (fun E0=>(aa_p n (⟨E0⟩:Ti) g0 s0).bind fun v0=>(aa_p n v0.1 c0 p0).bind fun x0=>(ab_p n x0.1 v0.2 x0.2).bind fun y0=>some (y0.1,(⟨g0,c0,p0,q0,s0,A0,d0.2,y0.2⟩:Tsums86))) (fun k0=>(if z0 = true then k0 7 else k0 d0.1.fe))) (fun j0=>(if d0.1.fe = 0 then j0 (decide (d0.2 = b0)) else j0 false)))
theorem aj_c (n:Nat) (L:La Nat) {w0 w:World} {T9:La Ob} (hL:∀ b ∈ L,b < w0.heap.size) {p0:Nat} (a0:Ti) (hS0:St w0 w (.cells p0 [vI a0.fe] 85 :: T9)) (a1:Te) {v1_3:Vc} (h1_3:Rep.R w (bl (.cells p0 [vI a0.fe] 85 :: T9) ++ L) [v1_3] a1.fv) {a2:Int} {a3:Int} {r:Ti × Tsums86} (h:aj_p n a0 a1 a2 a3 = some r) :
 Cl 31 #[.pointer (some ⟨p0,0,none⟩),.agg #[vI a1.fl,vI a1.fj,vI a1.fm,v1_3],vI a2,vI a3] w (ee w0 w (.cells p0 [vI a0.fe] 85 :: T9) (.cells p0 [vI r.1.fe] 85 :: T9) (fun _ u=>u = .agg ((aa r.2.fw ++ aa r.2.fx ++ aa r.2.fy ++ aa r.2.fa ++ aa r.2.fb ++ aa r.2.fc ++ aa r.2.fd ++ aa r.2.fn)).toArray)):=by
 unfold aj_p at h
 refine MX.startL func31 I I I fun _ cs0 hb0=>Ac<|RG.bx hS0 I I fun w11 z0 j6 u7=>RG.nl aq j6 fun w16 d0 H4 A7=>Aa<|Ac<|bk h fun s0 X9 h=>Bm (.agg ((aa s0)).toArray) (bd 38) I (e2 I I) (fun p q=>am_c n (H4.hL0 hL q)  X9) I<|RG.nl ae H4 fun w22 k0 y6 I7=>AW (aa s0) y6 .hd (ai I) fun w26 V2 d8=>Aa<|Ac<|Ab (AC I (V2.memA .hd))<|Ab (AC I (V2.memA .hd))<|Ab (AC I (V2.memA .hd))<|Ab (AC I (V2.memA .hd))<|Ab (AP (vs:=[.agg ((aa s0)).toArray,.agg ((aa s0)).toArray,.agg ((aa s0)).toArray,.agg ((aa s0)).toArray]) (u:=.agg (((ap:La Vc) ++ aa s0 ++ aa s0 ++ aa s0 ++ aa s0 ++ (ap:La Vc))).toArray) (e4 I I I I) (fun p=>by kernel_rfl))<|RG.nl aq V2 fun w30 b0 M6 j8=>AW ((ap:La Vc) ++ aa s0 ++ aa s0 ++ aa s0 ++ aa s0 ++ (ap:La Vc)) M6 .hd (ai I) fun w34 s7 P8=>Aa<|Ac<|Ag I<|Ag I<|Aa<|Aj<|Ac<|Ag I<|Aa<|AF ?_
 obtain ⟨Z00,x9,Z8⟩:=av h
 refine MX.lo (α:=Int × Int × Int × Ta × Ta × Ta × Ta × Int) (fun ⟨P1,Q1,X0,q0,c0,j0,g0,x0⟩=>[(0,.pointer (some ⟨p0,0,none⟩)),(2,vI a2),(3,vI a3),(5,vP z0),(8,vP d0),(9,vP k0),(10,vP b0),(11,vI P1),(12,vI Q1),(13,vI X0)]) (fun ⟨P1,Q1,X0,q0,c0,j0,g0,x0⟩=>(.cells b0 ((ap:La Vc) ++ aa q0 ++ aa c0 ++ aa j0 ++ aa g0 ++ (ap:La Vc)) 87 :: .cells k0 (aa s0) 46 :: .cells d0 aq 87 :: .cells z0 [vI a1.fl,vI a1.fj,vI a1.fm,v1_3] 31 :: .cells p0 [vI x0] 85 :: T9)) (fun ⟨P1,Q1,X0,q0,c0,j0,g0,x0⟩=>(P1,Q1,X0,q0,c0,j0,g0,x0)) (0,0,0,s0,s0,s0,s0,a0.fe) x9 s7 ?_
 rintro J00 ⟨P1,Q1,X0,q0,c0,j0,g0,x0⟩ Z01 p4 R1 K3 h
 unfold aj_l2 at h
 try dsimp only at h
 refine Aj<|Ac<|Ae I<|Ab (AC I (R1.memA .t3))<|bk h fun F5 V9 h=>?_
 have d5:=Tt u7 (Tt A7 (Tt I7 (Tt d8 (Tt j8 (Tt P8 K3)))))
 have c5:=Ap h1_3 d5
 refine Bm (vI F5) (bd 69) I (e1 I) (fun p q=>cn_c n (R1.hL0 hL q) a1 (R1.kd c5 q) V9) I<|Ab (FV.lss (i:=X0) (j:=F5) I I)<|Aa<|Be I h (fun H5 h=>?_) (fun H5 h=>?_)
 refine Az<|Aj<|AF<|Ac<|Ba 3 I<|AY I ((R1.memA .t3) 3 _ I)<|Ae I<|bk h fun y0 J9 h=>?_
 obtain ⟨c9,K9⟩:=aL J9
 obtain ⟨F00,R00,Q8,j9,X00,z9,s9⟩:=Bw c5 K9
 obtain ⟨I0,J0,K0,rfl,g5,d4,A9⟩:=ba z9
 refine Ab (BE 6 (X0.toNat) I Q8 I c9 j9)<|Ab (AC I s9)<|RG.nl [.string ⟨#[]⟩,vI 0,vN,vN,vN,.bool false] R1 fun v01 D0 k6 p3=>AW [.string y0.fB,vI y0.ft,I0,J0,K0,.bool y0.fp] k6 .hd (o6 I I (AX (Ap g5 p3)) (AX (Ap d4 p3)) (AX (Ap A9 p3)) I) fun x01 p6 v7=>Aa<|Ac<|Ag I<|Aa<|Aj<|Ac<|Ag I<|Aa<|AF ?_
 obtain ⟨b01,y9,b9⟩:=av h
 refine MX.lo (α:=Int × Nat) (fun ⟨g2,K1⟩=>[(0,.pointer (some ⟨p0,0,none⟩)),(2,vI a2),(3,vI a3),(5,vP z0),(8,vP d0),(9,vP k0),(10,vP b0),(11,vI P1),(12,vI Q1),(13,vI X0),(14,vP D0),(15,vI g2),(16,vn K1)]) (fun ⟨g2,K1⟩=>(.cells D0 [.string y0.fB,vI y0.ft,I0,J0,K0,.bool y0.fp] 36 :: .cells b0 ((ap:La Vc) ++ aa q0 ++ aa c0 ++ aa j0 ++ aa g0 ++ (ap:La Vc)) 87 :: .cells k0 (aa s0) 46 :: .cells d0 aq 87 :: .cells z0 [vI a1.fl,vI a1.fj,vI a1.fm,v1_3] 31 :: .cells p0 [vI x0] 85 :: T9)) (fun ⟨g2,K1⟩=>(g2,K1)) (0,0) y9 p6 ?_
 rintro K00 ⟨g2,K1⟩ b02 V5 k2 K4 h
 unfold aj_l1 at h
 try dsimp only at h
 refine Aj<|Ac<|Ae I<|Ba 3 I<|AY I ((k2.memA .hd) 3 _ I) ?_
 have Y2:=Tt p3 (Tt v7 K4)
 have c4:=Ap d4 Y2
 have Y00:=Bh c4
 refine Ab (Bk (xs:=y0.fH) underlying34 I c4)<|Ab (BD (i:=K1) (j:=y0.fH.length) I I)<|Aa<|Be I h (fun I5 h=>?_) (fun I5 h=>?_)
 refine Az<|Aj<|AF<|Av<|Ae I<|Ba 3 I<|AY I ((k2.memA .hd) 3 _ I)<|Ae I<|bk h fun E5 M9 h=>?_
 obtain ⟨G00,U00,R8,k9,Q5,B9,t9⟩:=Bw c4 M9
 have U8:Q5 = [vI E5]:=B9; subst U8
 refine Ab (BE 1 K1 I R8 I I k9)<|AY I (t9 0 _ I)<|bk h fun v00 E9 h=>Ab (BR (i:=g2) (j:=E5) I I E9)<|Ag I<|Aa<|AI<|Av<|Ae I<|Ab (Bu (i:=K1) (j:=1) I I (by omega))<|Ag I<|Aa<|V5 (v00,K1 + 1) k2 K4 h
 refine Bj I ?_
 have h:=b9 _ h
 try dsimp only at h
 refine Aj<|Aj<|MX.jo (α:=Bool) (fun Z2=>[(0,.pointer (some ⟨p0,0,none⟩)),(2,vI a2),(3,vI a3),(5,vP z0),(8,vP d0),(9,vP k0),(10,vP b0),(11,vI P1),(12,vI Q1),(13,vI X0),(14,vP D0),(15,vI g2),(58,.bool Z2)]) (fun Z2=>(.cells D0 [.string y0.fB,vI y0.ft,I0,J0,K0,.bool y0.fp] 36 :: .cells b0 ((ap:La Vc) ++ aa q0 ++ aa c0 ++ aa j0 ++ aa g0 ++ (ap:La Vc)) 87 :: .cells k0 (aa s0) 46 :: .cells d0 aq 87 :: .cells z0 [vI a1.fl,vI a1.fj,vI a1.fm,v1_3] 31 :: .cells p0 [vI x0] 85 :: T9)) (fun Z2=>Z2) k2 h ?_ ?_
 rintro Z2 u5 p2 q3 h
 try dsimp only at h
 refine MX.ifb I h (fun J5 h=>?_) (fun J5 h=>?_)
 refine Bj I<|Av<|Ae I<|bk h fun x00 F9 h=>Ab (BR (i:=X0) (j:=1) I I F9)<|Ag I<|Aa ?_
 have q6:St _ _ (.cells b0 ((ap:La Vc) ++ aa q0 ++ aa c0 ++ aa j0 ++ aa g0 ++ (ap:La Vc)) 87 :: .cells k0 (aa s0) 46 :: .cells d0 aq 87 :: .cells z0 [vI a1.fl,vI a1.fj,vI a1.fm,v1_3] 31 :: .cells p0 [vI x0] 85 :: T9):=p2.arr2 (.one .t1 (.one .t1 (.one .t1 (.one .t1 (.one .t1 (.drop .hd .rest))))))
 have x7:Tr u5 _ u5 (.cells b0 ((ap:La Vc) ++ aa q0 ++ aa c0 ++ aa j0 ++ aa g0 ++ (ap:La Vc)) 87 :: .cells k0 (aa s0) 46 :: .cells d0 aq 87 :: .cells z0 [vI a1.fl,vI a1.fj,vI a1.fm,v1_3] 31 :: .cells p0 [vI x0] 85 :: T9):=BN (Bx p2 (.one .t1 (.one .t1 (.one .t1 (.one .t1 (.one .t1 (.drop .hd .rest)))))))
 exact p4 (P1,Q1,x00,q0,c0,j0,g0,x0) q6 (Tt K3 (Tt Y2 (Tt q3 x7))) h
 refine Az<|Ac<|Ba 2 I<|AY I ((p2.memA .hd) 2 _ I)<|Ae I<|bk h fun M1 P9 h=>?_
 obtain ⟨d9,Q9⟩:=aL P9
 obtain ⟨H00,V00,V8,p9,R5,C9,u9⟩:=Bw (Ap g5 (Tt Y2 q3)) Q9
 have W8:R5 = [vI M1]:=C9; subst W8
 refine Ab (BE 1 (a2.toNat) I V8 I d9 p9)<|AY I (u9 0 _ I)<|Ag I<|Aa<|Ac<|Ae I<|Ba 1 I<|AY I ((p2.memA .hd) 1 _ I)<|bk h fun E1 G9 h=>Ab (BR (i:=P1) (j:=y0.ft) I I G9)<|Ae I<|Ae I<|bk h fun F1 H9 h=>Ab (BR (i:=Q1) (j:=M1) I I H9)<|Ag I<|Ag I<|Aa<|Ac<|Ba 3 I<|AY I ((p2.memA .hd) 3 _ I)<|Ae I<|bk h fun E00 R9 h=>?_
 obtain ⟨g9,U9⟩:=aL R9
 obtain ⟨I00,W00,X8,q9,U5,D9,v9⟩:=Bw (Ap d4 (Tt Y2 q3)) U9
 have Y8:U5 = [vI E00]:=D9; subst Y8
 refine Ab (BE 1 (a3.toNat) I X8 I g9 q9)<|AY I (v9 0 _ I)<|Ae I<|bk h fun B0 W9 h=>Bm (.agg ((aa B0)).toArray) (bd 38) I (e2 I I) (fun p q=>am_c n (p2.hL0 hL q)  W9) I<|RG.nl ae p2 fun y01 C0 s6 y7=>AW (aa B0) s6 .hd (ai I) fun z01 A1 z7=>Aa<|Aj<|du 5 fun A0 C1=>Rv 0 A0 I C1 (fun _=>Ak I)<|Rv 1 A0 I C1 (fun _=>AS 1 I)<|bk h fun g1 J2 h=>bk h fun j1 s2 h=>BH (α:=Nat) (fun y1=>[(0,.pointer (some ⟨p0,0,none⟩)),(2,vI a2),(3,vI a3),(5,vP z0),(8,vP d0),(9,vP k0),(10,vP b0),(11,vI E1),(12,vI F1),(13,vI X0),(14,vP D0),(17,vI M1),(18,vP C0),(19,vP y1),(83,.agg ((aa j1.2)).toArray)]) (fun y1=>(.cells p0 [vI j1.1.fe] 85 :: .cells y1 ae 46 :: .cells C0 (aa B0) 46 :: .cells D0 [.string y0.fB,vI y0.ft,I0,J0,K0,.bool y0.fp] 36 :: .cells b0 ((ap:La Vc) ++ aa q0 ++ aa c0 ++ aa j0 ++ aa g0 ++ (ap:La Vc)) 87 :: .cells k0 (aa s0) 46 :: .cells d0 aq 87 :: .cells z0 [vI a1.fl,vI a1.fj,vI a1.fm,v1_3] 31 :: T9)) A1 1 127 ?_ ?_
 rintro y1 k02 u6 B7
 try dsimp only
 refine Bv 7 255 A0 I I .plain (Ax (news:=(aa j1.2)) u6 .t1 I I I I I I (ai I)) fun A01 F3 C7=>AO (dk A0)<|Ac<|Ae I<|Ba 32 I<|Ab (Aq (cs:=(aa q0)) I I (ac (F3.memA .t4) 32 16))<|Ab (AC I (F3.memA .t1))<|bk h fun M0 Y9 h=>RG.callL (fst:=[]) (cap:=[]) .plain (bd 70) I (e3 I I I) (fun p q=>aC_c n _ hL j1.1 (F3.agree q) q0 j1.2 Y9) I fun B01 c01 v6 D7 hu_=>?_
 subst hu_
 refine Ba 32 I<|BU .plain (Bs (j:=32) (old:=((ap:La Vc) ++ aa q0 ++ aa c0 ++ aa j0 ++ aa g0 ++ (ap:La Vc))) (news:=(aa M0.2)) (new' :=((ap:La Vc) ++ aa M0.2 ++ aa c0 ++ aa j0 ++ aa g0 ++ (ap:La Vc))) v6 .t4 I I I I I I (ai I) I) fun C01 q2 E7=>Aa<|Aj<|du 10 fun V0 D1=>Rv 0 V0 I D1 (fun _=>Ak I)<|Rv 1 V0 I D1 (fun _=>AS 48 I)<|Rv 3 V0 I D1 (fun _=>Ak I)<|Rv 4 V0 I D1 (fun _=>Ak I)<|bk h fun g4 Z9 h=>BQ 5 59 15872 (.agg ((aa g4)).toArray) V0 I D1 (bd 38) I (e2 I I) (fun p q=>am_c n (q2.hL0 hL q)  Z9) I<|Rv 6 V0 I D1 (fun _=>Ak I)<|Rv 7 V0 I D1 (fun _=>AS 1 I)<|Rx 8 15872 V0 I D1 (AN I ((q2.memA .t3) 1 _ I))<|bk h fun j4 b00 h=>BQ 9 1019 15360 (.agg ((aa j4)).toArray) V0 I D1 (bd 38) I (e2 I I) (fun p q=>am_c n (q2.hL0 hL q)  b00) I<|bk h fun Z1 j5 h=>BH (α:=Unit) (fun ()=>[(0,.pointer (some ⟨p0,0,none⟩)),(2,vI a2),(3,vI a3),(5,vP z0),(8,vP d0),(9,vP k0),(10,vP b0),(11,vI E1),(12,vI F1),(13,vI X0),(17,vI M1),(18,vP C0),(19,vP y1),(90,.pointer (some ⟨p0,0,none⟩)),(92,.agg ((aa c0)).toArray),(100,.agg ((aa Z1.2)).toArray)]) (fun ()=>(.cells p0 [vI Z1.1.fe] 85 :: .cells y1 (aa j1.2) 46 :: .cells C0 (aa B0) 46 :: .cells b0 ((ap:La Vc) ++ aa M0.2 ++ aa c0 ++ aa j0 ++ aa g0 ++ (ap:La Vc)) 87 :: .cells k0 (aa s0) 46 :: .cells d0 aq 87 :: .cells z0 [vI a1.fl,vI a1.fj,vI a1.fm,v1_3] 31 :: T9)) q2 3 2047 ?_ ?_
 rintro ⟨⟩ p02 x6 F7
 try dsimp only
 refine bk h fun b1 c00 h=>AT (i:=11) (rk V0) (AQ (m' :=4095) (fst:=[]) (cap:=[]) (sk V0) I I .plain (bd 70) I (e3 I I I) (fun p q=>aC_c n _ hL Z1.1 (x6.agree q) c0 Z1.2 c00) I (fun E01 d01 z6 G7 hu_=>?_))
 subst hu_
 refine Rv 12 V0 I D1 (fun _=>AS 48 I)<|Bv 13 16383 V0 I I .plain (Bs (j:=48) (old:=((ap:La Vc) ++ aa M0.2 ++ aa c0 ++ aa j0 ++ aa g0 ++ (ap:La Vc))) (news:=(aa b1.2)) (new' :=((ap:La Vc) ++ aa M0.2 ++ aa b1.2 ++ aa j0 ++ aa g0 ++ (ap:La Vc))) z6 .t3 I I I I I I (ai I) I) fun F01 x2 H7=>AO (dk V0)<|Aj<|du 7 fun Y0 W1=>Rv 0 Y0 I W1 (fun _=>Ak I)<|Rv 1 Y0 I W1 (fun _=>AS 64 I)<|Rv 3 Y0 I W1 (fun _=>Ak I)<|Rv 4 Y0 I W1 (fun _=>Ak I)<|bk h fun k4 d00 h=>BQ 5 59 1920 (.agg ((aa k4)).toArray) Y0 I W1 (bd 38) I (e2 I I) (fun p q=>am_c n (x2.hL0 hL q)  d00) I<|Rx 6 1920 Y0 I W1 (AC I (x2.memA .t2))<|bk h fun y3 k5 h=>BH (α:=Unit) (fun ()=>[(0,.pointer (some ⟨p0,0,none⟩)),(2,vI a2),(3,vI a3),(5,vP z0),(8,vP d0),(9,vP k0),(10,vP b0),(11,vI E1),(12,vI F1),(13,vI X0),(18,vP C0),(19,vP y1),(103,.pointer (some ⟨p0,0,none⟩)),(105,.agg ((aa j0)).toArray),(110,.agg ((aa y3.2)).toArray)]) (fun ()=>(.cells p0 [vI y3.1.fe] 85 :: .cells y1 (aa j1.2) 46 :: .cells C0 (aa B0) 46 :: .cells b0 ((ap:La Vc) ++ aa M0.2 ++ aa b1.2 ++ aa j0 ++ aa g0 ++ (ap:La Vc)) 87 :: .cells k0 (aa s0) 46 :: .cells d0 aq 87 :: .cells z0 [vI a1.fl,vI a1.fj,vI a1.fm,v1_3] 31 :: T9)) x2 3 255 ?_ ?_
 rintro ⟨⟩ q02 A6 J7
 try dsimp only
 refine bk h fun k1 g00 h=>AT (i:=8) (rk Y0) (AQ (m' :=511) (fst:=[]) (cap:=[]) (sk Y0) I I .plain (bd 70) I (e3 I I I) (fun p q=>aC_c n _ hL y3.1 (A6.agree q) j0 y3.2 g00) I (fun G01 g01 B6 K7 hu_=>?_))
 subst hu_
 refine Rv 9 Y0 I W1 (fun _=>AS 64 I)<|Bv 10 2047 Y0 I I .plain (Bs (j:=64) (old:=((ap:La Vc) ++ aa M0.2 ++ aa b1.2 ++ aa j0 ++ aa g0 ++ (ap:La Vc))) (news:=(aa k1.2)) (new' :=((ap:La Vc) ++ aa M0.2 ++ aa b1.2 ++ aa k1.2 ++ aa g0 ++ (ap:La Vc))) B6 .t3 I I I I I I (ai I) I) fun H01 y2 M7=>AO (dk Y0)<|du 6 fun d1 u2=>Rv 0 d1 I u2 (fun _=>Ak I)<|Rv 1 d1 I u2 (fun _=>AS 80 I)<|Rv 3 d1 I u2 (fun _=>Ak I)<|Rx 4 960 d1 I u2 (AC I (y2.memA .t1))<|Rx 5 960 d1 I u2 (AC I (y2.memA .t2))<|bk h fun b2 p5 h=>BH (α:=Unit) (fun ()=>[(0,.pointer (some ⟨p0,0,none⟩)),(2,vI a2),(3,vI a3),(5,vP z0),(8,vP d0),(9,vP k0),(10,vP b0),(11,vI E1),(12,vI F1),(13,vI X0),(113,.pointer (some ⟨p0,0,none⟩)),(115,.agg ((aa g0)).toArray),(119,.agg ((aa b2.2)).toArray)]) (fun ()=>(.cells p0 [vI b2.1.fe] 85 :: .cells b0 ((ap:La Vc) ++ aa M0.2 ++ aa b1.2 ++ aa k1.2 ++ aa g0 ++ (ap:La Vc)) 87 :: .cells k0 (aa s0) 46 :: .cells d0 aq 87 :: .cells z0 [vI a1.fl,vI a1.fj,vI a1.fm,v1_3] 31 :: T9)) y2 3 127 ?_ ?_
 rintro ⟨⟩ s02 C6 P7
 try dsimp only
 refine bk h fun c2 j00 h=>AT (i:=7) (rk d1) (AQ (m' :=255) (fst:=[]) (cap:=[]) (sk d1) I I .plain (bd 70) I (e3 I I I) (fun p q=>aC_c n _ hL b2.1 (C6.agree q) g0 b2.2 j00) I (fun J01 j01 D6 Q7 hu_=>?_))
 subst hu_
 refine Rv 8 d1 I u2 (fun _=>AS 80 I)<|Bv 9 1023 d1 I I .plain (Bs (j:=80) (old:=((ap:La Vc) ++ aa M0.2 ++ aa b1.2 ++ aa k1.2 ++ aa g0 ++ (ap:La Vc))) (news:=(aa c2.2)) (new' :=((ap:La Vc) ++ aa M0.2 ++ aa b1.2 ++ aa k1.2 ++ aa c2.2 ++ (ap:La Vc))) D6 .t1 I I I I I I (ai I) I) fun s5 I4 R7=>AO (dk d1)<|AI<|Av<|Ae I<|bk h fun y00 I9 h=>Ab (BR (i:=X0) (j:=1) I I I9)<|Ag I<|Aa ?_
 have E6:St _ _ (.cells b0 ((ap:La Vc) ++ aa M0.2 ++ aa b1.2 ++ aa k1.2 ++ aa c2.2 ++ (ap:La Vc)) 87 :: .cells k0 (aa s0) 46 :: .cells d0 aq 87 :: .cells z0 [vI a1.fl,vI a1.fj,vI a1.fm,v1_3] 31 :: .cells p0 [vI c2.1.fe] 85 :: T9):=I4.arr2 (.one .t1 (.one .t1 (.one .t1 (.one .t1 (.one .hd .rest)))))
 have U7:Tr s5 _ s5 (.cells b0 ((ap:La Vc) ++ aa M0.2 ++ aa b1.2 ++ aa k1.2 ++ aa c2.2 ++ (ap:La Vc)) 87 :: .cells k0 (aa s0) 46 :: .cells d0 aq 87 :: .cells z0 [vI a1.fl,vI a1.fj,vI a1.fm,v1_3] 31 :: .cells p0 [vI c2.1.fe] 85 :: T9):=BN (Bx I4 (.one .t1 (.one .t1 (.one .t1 (.one .t1 (.one .hd .rest))))))
 exact p4 (E1,F1,y00,M0.2,b1.2,k1.2,c2.2,c2.1.fe) E6 (Tt K3 (Tt Y2 (Tt q3 (Tt y7 (Tt z7 (Tt B7 (Tt C7 (Tt D7 (Tt E7 (Tt F7 (Tt G7 (Tt H7 (Tt J7 (Tt K7 (Tt M7 (Tt P7 (Tt Q7 (Tt R7 U7)))))))))))))))))) h
 intro s4
 refine AM [2,6] (rk d1) ⟨?_,?_,trivial⟩
 refine AV (m' :=63) (sk d1) I .plain I (Aq (cs:=(aa g0)) I I (ac (y2.memA .t3) 80 16))<|AT (i:=6) (rk d1) (AQ (m' :=127) (fst:=[]) (cap:=[]) (sk d1) I I .plain (bd 34) I (e3 I I I) (fun p q=>aa_c n _ hL k1.1 (y2.agree q) j1.2 B0 p5) I (fun d3 B00 z2 R3 hu_=>?_))
 subst hu_
 have F6:St _ _ (.cells p0 [vI b2.1.fe] 85 :: .cells b0 ((ap:La Vc) ++ aa M0.2 ++ aa b1.2 ++ aa k1.2 ++ aa g0 ++ (ap:La Vc)) 87 :: .cells k0 (aa s0) 46 :: .cells d0 aq 87 :: .cells z0 [vI a1.fl,vI a1.fj,vI a1.fm,v1_3] 31 :: T9):=z2.arr2 (.one .hd (.one .t2 (.one .t2 (.one .t2 (.one .t2 (.drop .hd (.drop .hd .rest)))))))
 have V7:Tr d3 _ d3 (.cells p0 [vI b2.1.fe] 85 :: .cells b0 ((ap:La Vc) ++ aa M0.2 ++ aa b1.2 ++ aa k1.2 ++ aa g0 ++ (ap:La Vc)) 87 :: .cells k0 (aa s0) 46 :: .cells d0 aq 87 :: .cells z0 [vI a1.fl,vI a1.fj,vI a1.fm,v1_3] 31 :: T9):=BN (Bx z2 (.one .hd (.one .t2 (.one .t2 (.one .t2 (.one .t2 (.drop .hd (.drop .hd .rest))))))))
 exact s4 () F6 (Tt R3 V7)
 refine AQ (m' :=123) (fst:=[]) (cap:=[]) (sk d1) I I .plain (bd 34) I (e3 I I I) (fun p q=>aa_c n _ hL k1.1 (y2.agree q) j1.2 B0 p5) I fun d3 B00 z2 R3 hu_=>?_
 subst hu_
 refine Rx 2 896 d1 I u2 (Aq (cs:=(aa g0)) I I (ac (z2.memA .t3) 80 16)) ?_
 have G6:St _ _ (.cells p0 [vI b2.1.fe] 85 :: .cells b0 ((ap:La Vc) ++ aa M0.2 ++ aa b1.2 ++ aa k1.2 ++ aa g0 ++ (ap:La Vc)) 87 :: .cells k0 (aa s0) 46 :: .cells d0 aq 87 :: .cells z0 [vI a1.fl,vI a1.fj,vI a1.fm,v1_3] 31 :: T9):=z2.arr2 (.one .hd (.one .t2 (.one .t2 (.one .t2 (.one .t2 (.drop .hd (.drop .hd .rest)))))))
 have W7:Tr d3 _ d3 (.cells p0 [vI b2.1.fe] 85 :: .cells b0 ((ap:La Vc) ++ aa M0.2 ++ aa b1.2 ++ aa k1.2 ++ aa g0 ++ (ap:La Vc)) 87 :: .cells k0 (aa s0) 46 :: .cells d0 aq 87 :: .cells z0 [vI a1.fl,vI a1.fj,vI a1.fm,v1_3] 31 :: T9):=BN (Bx z2 (.one .hd (.one .t2 (.one .t2 (.one .t2 (.one .t2 (.drop .hd (.drop .hd .rest))))))))
 exact s4 () G6 (Tt R3 W7)
 intro u4
 refine AM [2,7] (rk Y0) ⟨?_,?_,trivial⟩
 refine AV (m' :=127) (sk Y0) I .plain I (Aq (cs:=(aa j0)) I I (ac (x2.memA .t3) 64 16))<|AT (i:=7) (rk Y0) (AQ (m' :=255) (fst:=[]) (cap:=[]) (sk Y0) I I .plain (bd 34) I (e3 I I I) (fun p q=>aa_c n _ hL b1.1 (x2.agree q) k4 B0 k5) I (fun D00 A00 k3 Q3 hu_=>?_))
 subst hu_
 exact u4 () k3 Q3
 refine AQ (m' :=251) (fst:=[]) (cap:=[]) (sk Y0) I I .plain (bd 34) I (e3 I I I) (fun p q=>aa_c n _ hL b1.1 (x2.agree q) k4 B0 k5) I fun D00 A00 k3 Q3 hu_=>?_
 subst hu_
 refine Rx 2 1792 Y0 I W1 (Aq (cs:=(aa j0)) I I (ac (k3.memA .t3) 64 16))<|u4 () k3 Q3
 intro v4
 refine AM [2,10] (rk V0) ⟨?_,?_,trivial⟩
 refine AV (m' :=1023) (sk V0) I .plain I (Aq (cs:=(aa c0)) I I (ac (q2.memA .t4) 48 16))<|AT (i:=10) (rk V0) (AQ (m' :=2047) (fst:=[]) (cap:=[]) (sk V0) I I .plain (bd 34) I (e3 I I I) (fun p q=>aa_c n _ hL M0.1 (q2.agree q) g4 j4 j5) I (fun c3 z00 v2 P3 hu_=>?_))
 subst hu_
 have H6:St _ _ (.cells p0 [vI Z1.1.fe] 85 :: .cells y1 (aa j1.2) 46 :: .cells C0 (aa B0) 46 :: .cells b0 ((ap:La Vc) ++ aa M0.2 ++ aa c0 ++ aa j0 ++ aa g0 ++ (ap:La Vc)) 87 :: .cells k0 (aa s0) 46 :: .cells d0 aq 87 :: .cells z0 [vI a1.fl,vI a1.fj,vI a1.fm,v1_3] 31 :: T9):=v2.arr2 (.one .hd (.one .hd (.one .hd (.one .t1 (.one .t1 (.one .t1 (.one .t1 (.drop .hd .rest))))))))
 have X7:Tr c3 _ c3 (.cells p0 [vI Z1.1.fe] 85 :: .cells y1 (aa j1.2) 46 :: .cells C0 (aa B0) 46 :: .cells b0 ((ap:La Vc) ++ aa M0.2 ++ aa c0 ++ aa j0 ++ aa g0 ++ (ap:La Vc)) 87 :: .cells k0 (aa s0) 46 :: .cells d0 aq 87 :: .cells z0 [vI a1.fl,vI a1.fj,vI a1.fm,v1_3] 31 :: T9):=BN (Bx v2 (.one .hd (.one .hd (.one .hd (.one .t1 (.one .t1 (.one .t1 (.one .t1 (.drop .hd .rest)))))))))
 exact v4 () H6 (Tt P3 X7)
 refine AQ (m' :=2043) (fst:=[]) (cap:=[]) (sk V0) I I .plain (bd 34) I (e3 I I I) (fun p q=>aa_c n _ hL M0.1 (q2.agree q) g4 j4 j5) I fun c3 z00 v2 P3 hu_=>?_
 subst hu_
 refine Rx 2 14336 V0 I D1 (Aq (cs:=(aa c0)) I I (ac (v2.memA .t4) 48 16)) ?_
 have I6:St _ _ (.cells p0 [vI Z1.1.fe] 85 :: .cells y1 (aa j1.2) 46 :: .cells C0 (aa B0) 46 :: .cells b0 ((ap:La Vc) ++ aa M0.2 ++ aa c0 ++ aa j0 ++ aa g0 ++ (ap:La Vc)) 87 :: .cells k0 (aa s0) 46 :: .cells d0 aq 87 :: .cells z0 [vI a1.fl,vI a1.fj,vI a1.fm,v1_3] 31 :: T9):=v2.arr2 (.one .hd (.one .hd (.one .hd (.one .t1 (.one .t1 (.one .t1 (.one .t1 (.drop .hd .rest))))))))
 have Y7:Tr c3 _ c3 (.cells p0 [vI Z1.1.fe] 85 :: .cells y1 (aa j1.2) 46 :: .cells C0 (aa B0) 46 :: .cells b0 ((ap:La Vc) ++ aa M0.2 ++ aa c0 ++ aa j0 ++ aa g0 ++ (ap:La Vc)) 87 :: .cells k0 (aa s0) 46 :: .cells d0 aq 87 :: .cells z0 [vI a1.fl,vI a1.fj,vI a1.fm,v1_3] 31 :: T9):=BN (Bx v2 (.one .hd (.one .hd (.one .hd (.one .t1 (.one .t1 (.one .t1 (.one .t1 (.drop .hd .rest)))))))))
 exact v4 () I6 (Tt P3 Y7)
 intro j2
 refine BH (α:=Unit) (fun ()=>[(0,.pointer (some ⟨p0,0,none⟩)),(2,vI a2),(3,vI a3),(5,vP z0),(8,vP d0),(9,vP k0),(10,vP b0),(11,vI E1),(12,vI F1),(13,vI X0),(14,vP D0),(17,vI M1),(18,vP C0),(78,.pointer (some ⟨p0,0,none⟩)),(81,.agg ((aa g1)).toArray),(82,.agg ((aa B0)).toArray)]) (fun ()=>(.cells C0 (aa B0) 46 :: .cells D0 [.string y0.fB,vI y0.ft,I0,J0,K0,.bool y0.fp] 36 :: .cells b0 ((ap:La Vc) ++ aa q0 ++ aa c0 ++ aa j0 ++ aa g0 ++ (ap:La Vc)) 87 :: .cells k0 (aa s0) 46 :: .cells d0 aq 87 :: .cells z0 [vI a1.fl,vI a1.fj,vI a1.fm,v1_3] 31 :: .cells p0 [vI x0] 85 :: T9)) A1 3 31 ?_ ?_
 rintro ⟨⟩ v5 E3 R4
 try dsimp only
 refine AM [5,6] (rk A0) ⟨?_,?_,trivial⟩
 have p1:St _ _ (.cells p0 [vI x0] 85 :: .cells C0 (aa B0) 46 :: .cells D0 [.string y0.fB,vI y0.ft,I0,J0,K0,.bool y0.fp] 36 :: .cells b0 ((ap:La Vc) ++ aa q0 ++ aa c0 ++ aa j0 ++ aa g0 ++ (ap:La Vc)) 87 :: .cells k0 (aa s0) 46 :: .cells d0 aq 87 :: .cells z0 [vI a1.fl,vI a1.fj,vI a1.fm,v1_3] 31 :: T9):=E3.arr2 (.one .t6 (.one .hd (.one .hd (.one .hd (.one .hd (.one .hd (.one .hd .rest)))))))
 have s1:Tr v5 _ v5 (.cells p0 [vI x0] 85 :: .cells C0 (aa B0) 46 :: .cells D0 [.string y0.fB,vI y0.ft,I0,J0,K0,.bool y0.fp] 36 :: .cells b0 ((ap:La Vc) ++ aa q0 ++ aa c0 ++ aa j0 ++ aa g0 ++ (ap:La Vc)) 87 :: .cells k0 (aa s0) 46 :: .cells d0 aq 87 :: .cells z0 [vI a1.fl,vI a1.fj,vI a1.fm,v1_3] 31 :: T9):=BN (Bx E3 (.one .t6 (.one .hd (.one .hd (.one .hd (.one .hd (.one .hd (.one .hd .rest))))))))
 refine AQ (m' :=63) (fst:=[]) (cap:=[]) (sk A0) I I .plain (bd 34) I (e3 I I I) (fun p q=>aa_c n _ hL (⟨x0⟩:Ti) (p1.agree q) g1 B0 s2) I fun M2 K2 q1 u1 hu_=>?_
 subst hu_
 refine Ca 6 127 A0 I .plain I (Al ae q1) fun W0 G0 F0 v1=>?_
 have J6:St _ _ (.cells p0 [vI j1.1.fe] 85 :: .cells G0 ae 46 :: .cells C0 (aa B0) 46 :: .cells D0 [.string y0.fB,vI y0.ft,I0,J0,K0,.bool y0.fp] 36 :: .cells b0 ((ap:La Vc) ++ aa q0 ++ aa c0 ++ aa j0 ++ aa g0 ++ (ap:La Vc)) 87 :: .cells k0 (aa s0) 46 :: .cells d0 aq 87 :: .cells z0 [vI a1.fl,vI a1.fj,vI a1.fm,v1_3] 31 :: T9):=F0.arr2 (.one .t1 (.one .hd (.one .hd (.one .hd (.one .hd (.one .hd (.one .hd (.one .hd .rest))))))))
 have Z7:Tr W0 _ W0 (.cells p0 [vI j1.1.fe] 85 :: .cells G0 ae 46 :: .cells C0 (aa B0) 46 :: .cells D0 [.string y0.fB,vI y0.ft,I0,J0,K0,.bool y0.fp] 36 :: .cells b0 ((ap:La Vc) ++ aa q0 ++ aa c0 ++ aa j0 ++ aa g0 ++ (ap:La Vc)) 87 :: .cells k0 (aa s0) 46 :: .cells d0 aq 87 :: .cells z0 [vI a1.fl,vI a1.fj,vI a1.fm,v1_3] 31 :: T9):=BN (Bx F0 (.one .t1 (.one .hd (.one .hd (.one .hd (.one .hd (.one .hd (.one .hd (.one .hd .rest)))))))))
 exact j2 G0 J6 (Tt R4 (Tt s1 (Tt u1 (Tt v1 Z7))))
 refine Bf (m' :=95) (sk A0) I .plain I (Al ae E3) fun W0 G0 F0 v1=>?_
 have p1:St _ _ (.cells p0 [vI x0] 85 :: .cells G0 ae 46 :: .cells C0 (aa B0) 46 :: .cells D0 [.string y0.fB,vI y0.ft,I0,J0,K0,.bool y0.fp] 36 :: .cells b0 ((ap:La Vc) ++ aa q0 ++ aa c0 ++ aa j0 ++ aa g0 ++ (ap:La Vc)) 87 :: .cells k0 (aa s0) 46 :: .cells d0 aq 87 :: .cells z0 [vI a1.fl,vI a1.fj,vI a1.fm,v1_3] 31 :: T9):=F0.arr2 (.one .t7 (.one .hd (.one .hd (.one .hd (.one .hd (.one .hd (.one .hd (.one .hd .rest))))))))
 have s1:Tr W0 _ W0 (.cells p0 [vI x0] 85 :: .cells G0 ae 46 :: .cells C0 (aa B0) 46 :: .cells D0 [.string y0.fB,vI y0.ft,I0,J0,K0,.bool y0.fp] 36 :: .cells b0 ((ap:La Vc) ++ aa q0 ++ aa c0 ++ aa j0 ++ aa g0 ++ (ap:La Vc)) 87 :: .cells k0 (aa s0) 46 :: .cells d0 aq 87 :: .cells z0 [vI a1.fl,vI a1.fj,vI a1.fm,v1_3] 31 :: T9):=BN (Bx F0 (.one .t7 (.one .hd (.one .hd (.one .hd (.one .hd (.one .hd (.one .hd (.one .hd .rest)))))))))
 refine AT (i:=5) (rk A0) (AQ (m' :=127) (fst:=[]) (cap:=[]) (sk A0) I I .plain (bd 34) I (e3 I I I) (fun p q=>aa_c n _ hL (⟨x0⟩:Ti) (p1.agree q) g1 B0 s2) I (fun M2 K2 q1 u1 hu_=>?_))
 subst hu_
 exact j2 G0 q1 (Tt R4 (Tt v1 (Tt s1 u1)))
 intro x4
 refine BH (α:=Unit) (fun ()=>[(0,.pointer (some ⟨p0,0,none⟩)),(2,vI a2),(3,vI a3),(5,vP z0),(8,vP d0),(9,vP k0),(10,vP b0),(11,vI E1),(12,vI F1),(13,vI X0),(14,vP D0),(17,vI M1),(18,vP C0),(78,.pointer (some ⟨p0,0,none⟩)),(80,vI y0.ft),(82,.agg ((aa B0)).toArray)]) (fun ()=>(.cells C0 (aa B0) 46 :: .cells D0 [.string y0.fB,vI y0.ft,I0,J0,K0,.bool y0.fp] 36 :: .cells b0 ((ap:La Vc) ++ aa q0 ++ aa c0 ++ aa j0 ++ aa g0 ++ (ap:La Vc)) 87 :: .cells k0 (aa s0) 46 :: .cells d0 aq 87 :: .cells z0 [vI a1.fl,vI a1.fj,vI a1.fm,v1_3] 31 :: .cells p0 [vI x0] 85 :: T9)) A1 4 23 ?_ ?_
 rintro ⟨⟩ j02 D3 Q4
 try dsimp only
 refine AM [3,6] (rk A0) ⟨?_,?_,trivial⟩
 refine RO.callq (m' :=31) (v:=.agg ((aa g1)).toArray) (fst:=[]) (cap:=[]) (sk A0) I .plain (bd 38) I (e2 I I) (fun p q=>am_c n (D3.hL0 hL q)  J2) I<|x4 () D3 Q4
 refine Bf (m' :=87) (sk A0) I .plain I (Al ae D3) fun W0 G0 F0 v1=>BQ 3 95 160 (.agg ((aa g1)).toArray) A0 I C1 (bd 38) I (e2 I I) (fun p q=>am_c n (F0.hL0 hL q)  J2) I ?_
 have p1:St _ _ (.cells p0 [vI x0] 85 :: .cells G0 ae 46 :: .cells C0 (aa B0) 46 :: .cells D0 [.string y0.fB,vI y0.ft,I0,J0,K0,.bool y0.fp] 36 :: .cells b0 ((ap:La Vc) ++ aa q0 ++ aa c0 ++ aa j0 ++ aa g0 ++ (ap:La Vc)) 87 :: .cells k0 (aa s0) 46 :: .cells d0 aq 87 :: .cells z0 [vI a1.fl,vI a1.fj,vI a1.fm,v1_3] 31 :: T9):=F0.arr2 (.one .t7 (.one .hd (.one .hd (.one .hd (.one .hd (.one .hd (.one .hd (.one .hd .rest))))))))
 have s1:Tr W0 _ W0 (.cells p0 [vI x0] 85 :: .cells G0 ae 46 :: .cells C0 (aa B0) 46 :: .cells D0 [.string y0.fB,vI y0.ft,I0,J0,K0,.bool y0.fp] 36 :: .cells b0 ((ap:La Vc) ++ aa q0 ++ aa c0 ++ aa j0 ++ aa g0 ++ (ap:La Vc)) 87 :: .cells k0 (aa s0) 46 :: .cells d0 aq 87 :: .cells z0 [vI a1.fl,vI a1.fj,vI a1.fm,v1_3] 31 :: T9):=BN (Bx F0 (.one .t7 (.one .hd (.one .hd (.one .hd (.one .hd (.one .hd (.one .hd (.one .hd .rest)))))))))
 refine AT (i:=5) (rk A0) (AQ (m' :=127) (fst:=[]) (cap:=[]) (sk A0) I I .plain (bd 34) I (e3 I I I) (fun p q=>aa_c n _ hL (⟨x0⟩:Ti) (p1.agree q) g1 B0 s2) I (fun M2 K2 q1 u1 hu_=>?_))
 subst hu_
 exact j2 G0 q1 (Tt Q4 (Tt v1 (Tt s1 u1)))
 intro y4
 refine BH (α:=Unit) (fun ()=>[(0,.pointer (some ⟨p0,0,none⟩)),(2,vI a2),(3,vI a3),(5,vP z0),(8,vP d0),(9,vP k0),(10,vP b0),(11,vI E1),(12,vI F1),(13,vI X0),(14,vP D0),(17,vI M1),(18,vP C0),(78,.pointer (some ⟨p0,0,none⟩)),(81,.agg ((aa g1)).toArray)]) (fun ()=>(.cells C0 (aa B0) 46 :: .cells D0 [.string y0.fB,vI y0.ft,I0,J0,K0,.bool y0.fp] 36 :: .cells b0 ((ap:La Vc) ++ aa q0 ++ aa c0 ++ aa j0 ++ aa g0 ++ (ap:La Vc)) 87 :: .cells k0 (aa s0) 46 :: .cells d0 aq 87 :: .cells z0 [vI a1.fl,vI a1.fj,vI a1.fm,v1_3] 31 :: .cells p0 [vI x0] 85 :: T9)) A1 4 15 ?_ ?_
 rintro ⟨⟩ g02 C3 P4
 try dsimp only
 refine AM [4,6] (rk A0) ⟨?_,?_,trivial⟩
 refine AV (m' :=31) (sk A0) I .plain I (AC I (C3.memA .hd))<|x4 () C3 P4
 refine Bf (m' :=79) (sk A0) I .plain I (Al ae C3) fun W0 G0 F0 v1=>Rx 4 160 A0 I C1 (AC I (F0.memA .t1)) ?_
 have p1:St _ _ (.cells p0 [vI x0] 85 :: .cells G0 ae 46 :: .cells C0 (aa B0) 46 :: .cells D0 [.string y0.fB,vI y0.ft,I0,J0,K0,.bool y0.fp] 36 :: .cells b0 ((ap:La Vc) ++ aa q0 ++ aa c0 ++ aa j0 ++ aa g0 ++ (ap:La Vc)) 87 :: .cells k0 (aa s0) 46 :: .cells d0 aq 87 :: .cells z0 [vI a1.fl,vI a1.fj,vI a1.fm,v1_3] 31 :: T9):=F0.arr2 (.one .t7 (.one .hd (.one .hd (.one .hd (.one .hd (.one .hd (.one .hd (.one .hd .rest))))))))
 have s1:Tr W0 _ W0 (.cells p0 [vI x0] 85 :: .cells G0 ae 46 :: .cells C0 (aa B0) 46 :: .cells D0 [.string y0.fB,vI y0.ft,I0,J0,K0,.bool y0.fp] 36 :: .cells b0 ((ap:La Vc) ++ aa q0 ++ aa c0 ++ aa j0 ++ aa g0 ++ (ap:La Vc)) 87 :: .cells k0 (aa s0) 46 :: .cells d0 aq 87 :: .cells z0 [vI a1.fl,vI a1.fj,vI a1.fm,v1_3] 31 :: T9):=BN (Bx F0 (.one .t7 (.one .hd (.one .hd (.one .hd (.one .hd (.one .hd (.one .hd (.one .hd .rest)))))))))
 refine AT (i:=5) (rk A0) (AQ (m' :=127) (fst:=[]) (cap:=[]) (sk A0) I I .plain (bd 34) I (e3 I I I) (fun p q=>aa_c n _ hL (⟨x0⟩:Ti) (p1.agree q) g1 B0 s2) I (fun M2 K2 q1 u1 hu_=>?_))
 subst hu_
 exact j2 G0 q1 (Tt P4 (Tt v1 (Tt s1 u1)))
 intro W5
 refine BH (α:=Unit) (fun ()=>[(0,.pointer (some ⟨p0,0,none⟩)),(2,vI a2),(3,vI a3),(5,vP z0),(8,vP d0),(9,vP k0),(10,vP b0),(11,vI E1),(12,vI F1),(13,vI X0),(14,vP D0),(17,vI M1),(18,vP C0),(78,.pointer (some ⟨p0,0,none⟩)),(79,.pointer (some (Addr.add ⟨D0,0,none⟩ 1))),(82,.agg ((aa B0)).toArray)]) (fun ()=>(.cells C0 (aa B0) 46 :: .cells D0 [.string y0.fB,vI y0.ft,I0,J0,K0,.bool y0.fp] 36 :: .cells b0 ((ap:La Vc) ++ aa q0 ++ aa c0 ++ aa j0 ++ aa g0 ++ (ap:La Vc)) 87 :: .cells k0 (aa s0) 46 :: .cells d0 aq 87 :: .cells z0 [vI a1.fl,vI a1.fj,vI a1.fm,v1_3] 31 :: .cells p0 [vI x0] 85 :: T9)) A1 5 19 ?_ ?_
 rintro ⟨⟩ d02 B3 M4
 try dsimp only
 refine AM [2,6] (rk A0) ⟨?_,?_,trivial⟩
 refine AV (m' :=23) (sk A0) I .plain I (AN I ((B3.memA .t1) 1 _ I))<|y4 () B3 M4
 refine Bf (m' :=83) (sk A0) I .plain I (Al ae B3) fun W0 G0 F0 v1=>Rx 2 168 A0 I C1 (AN I ((F0.memA .t2) 1 _ I))<|BQ 3 95 160 (.agg ((aa g1)).toArray) A0 I C1 (bd 38) I (e2 I I) (fun p q=>am_c n (F0.hL0 hL q)  J2) I ?_
 have p1:St _ _ (.cells p0 [vI x0] 85 :: .cells G0 ae 46 :: .cells C0 (aa B0) 46 :: .cells D0 [.string y0.fB,vI y0.ft,I0,J0,K0,.bool y0.fp] 36 :: .cells b0 ((ap:La Vc) ++ aa q0 ++ aa c0 ++ aa j0 ++ aa g0 ++ (ap:La Vc)) 87 :: .cells k0 (aa s0) 46 :: .cells d0 aq 87 :: .cells z0 [vI a1.fl,vI a1.fj,vI a1.fm,v1_3] 31 :: T9):=F0.arr2 (.one .t7 (.one .hd (.one .hd (.one .hd (.one .hd (.one .hd (.one .hd (.one .hd .rest))))))))
 have s1:Tr W0 _ W0 (.cells p0 [vI x0] 85 :: .cells G0 ae 46 :: .cells C0 (aa B0) 46 :: .cells D0 [.string y0.fB,vI y0.ft,I0,J0,K0,.bool y0.fp] 36 :: .cells b0 ((ap:La Vc) ++ aa q0 ++ aa c0 ++ aa j0 ++ aa g0 ++ (ap:La Vc)) 87 :: .cells k0 (aa s0) 46 :: .cells d0 aq 87 :: .cells z0 [vI a1.fl,vI a1.fj,vI a1.fm,v1_3] 31 :: T9):=BN (Bx F0 (.one .t7 (.one .hd (.one .hd (.one .hd (.one .hd (.one .hd (.one .hd (.one .hd .rest)))))))))
 refine AT (i:=5) (rk A0) (AQ (m' :=127) (fst:=[]) (cap:=[]) (sk A0) I I .plain (bd 34) I (e3 I I I) (fun p q=>aa_c n _ hL (⟨x0⟩:Ti) (p1.agree q) g1 B0 s2) I (fun M2 K2 q1 u1 hu_=>?_))
 subst hu_
 exact j2 G0 q1 (Tt M4 (Tt v1 (Tt s1 u1)))
 intro X5
 refine BH (α:=Unit) (fun ()=>[(0,.pointer (some ⟨p0,0,none⟩)),(2,vI a2),(3,vI a3),(5,vP z0),(8,vP d0),(9,vP k0),(10,vP b0),(11,vI E1),(12,vI F1),(13,vI X0),(14,vP D0),(17,vI M1),(18,vP C0),(78,.pointer (some ⟨p0,0,none⟩)),(80,vI y0.ft)]) (fun ()=>(.cells C0 (aa B0) 46 :: .cells D0 [.string y0.fB,vI y0.ft,I0,J0,K0,.bool y0.fp] 36 :: .cells b0 ((ap:La Vc) ++ aa q0 ++ aa c0 ++ aa j0 ++ aa g0 ++ (ap:La Vc)) 87 :: .cells k0 (aa s0) 46 :: .cells d0 aq 87 :: .cells z0 [vI a1.fl,vI a1.fj,vI a1.fm,v1_3] 31 :: .cells p0 [vI x0] 85 :: T9)) A1 5 7 ?_ ?_
 rintro ⟨⟩ c02 U2 M3
 try dsimp only
 refine AM [3,4,6] (rk A0) ⟨?_,?_,?_,trivial⟩
 refine RO.callq (m' :=15) (v:=.agg ((aa g1)).toArray) (fst:=[]) (cap:=[]) (sk A0) I .plain (bd 38) I (e2 I I) (fun p q=>am_c n (U2.hL0 hL q)  J2) I<|W5 () U2 M3
 refine AV (m' :=23) (sk A0) I .plain I (AC I (U2.memA .hd))<|y4 () U2 M3
 refine Bf (m' :=71) (sk A0) I .plain I (Al ae U2) fun W0 G0 F0 v1=>BQ 3 79 160 (.agg ((aa g1)).toArray) A0 I C1 (bd 38) I (e2 I I) (fun p q=>am_c n (F0.hL0 hL q)  J2) I<|Rx 4 160 A0 I C1 (AC I (F0.memA .t1)) ?_
 have p1:St _ _ (.cells p0 [vI x0] 85 :: .cells G0 ae 46 :: .cells C0 (aa B0) 46 :: .cells D0 [.string y0.fB,vI y0.ft,I0,J0,K0,.bool y0.fp] 36 :: .cells b0 ((ap:La Vc) ++ aa q0 ++ aa c0 ++ aa j0 ++ aa g0 ++ (ap:La Vc)) 87 :: .cells k0 (aa s0) 46 :: .cells d0 aq 87 :: .cells z0 [vI a1.fl,vI a1.fj,vI a1.fm,v1_3] 31 :: T9):=F0.arr2 (.one .t7 (.one .hd (.one .hd (.one .hd (.one .hd (.one .hd (.one .hd (.one .hd .rest))))))))
 have s1:Tr W0 _ W0 (.cells p0 [vI x0] 85 :: .cells G0 ae 46 :: .cells C0 (aa B0) 46 :: .cells D0 [.string y0.fB,vI y0.ft,I0,J0,K0,.bool y0.fp] 36 :: .cells b0 ((ap:La Vc) ++ aa q0 ++ aa c0 ++ aa j0 ++ aa g0 ++ (ap:La Vc)) 87 :: .cells k0 (aa s0) 46 :: .cells d0 aq 87 :: .cells z0 [vI a1.fl,vI a1.fj,vI a1.fm,v1_3] 31 :: T9):=BN (Bx F0 (.one .t7 (.one .hd (.one .hd (.one .hd (.one .hd (.one .hd (.one .hd (.one .hd .rest)))))))))
 refine AT (i:=5) (rk A0) (AQ (m' :=127) (fst:=[]) (cap:=[]) (sk A0) I I .plain (bd 34) I (e3 I I I) (fun p q=>aa_c n _ hL (⟨x0⟩:Ti) (p1.agree q) g1 B0 s2) I (fun M2 K2 q1 u1 hu_=>?_))
 subst hu_
 exact j2 G0 q1 (Tt M3 (Tt v1 (Tt s1 u1)))
 intro Y5
 refine AM [2,4,6] (rk A0) ⟨?_,?_,?_,trivial⟩
 refine AV (m' :=7) (sk A0) I .plain I (AN I ((A1.memA .t1) 1 _ I))<|Y5 () A1 (Br _ _)
 refine AV (m' :=19) (sk A0) I .plain I (AC I (A1.memA .hd))<|X5 () A1 (Br _ _)
 refine Bf (m' :=67) (sk A0) I .plain I (Al ae A1) fun W0 G0 F0 v1=>Rx 2 168 A0 I C1 (AN I ((F0.memA .t2) 1 _ I))<|BQ 3 79 160 (.agg ((aa g1)).toArray) A0 I C1 (bd 38) I (e2 I I) (fun p q=>am_c n (F0.hL0 hL q)  J2) I<|Rx 4 160 A0 I C1 (AC I (F0.memA .t1)) ?_
 have p1:St _ _ (.cells p0 [vI x0] 85 :: .cells G0 ae 46 :: .cells C0 (aa B0) 46 :: .cells D0 [.string y0.fB,vI y0.ft,I0,J0,K0,.bool y0.fp] 36 :: .cells b0 ((ap:La Vc) ++ aa q0 ++ aa c0 ++ aa j0 ++ aa g0 ++ (ap:La Vc)) 87 :: .cells k0 (aa s0) 46 :: .cells d0 aq 87 :: .cells z0 [vI a1.fl,vI a1.fj,vI a1.fm,v1_3] 31 :: T9):=F0.arr2 (.one .t7 (.one .hd (.one .hd (.one .hd (.one .hd (.one .hd (.one .hd (.one .hd .rest))))))))
 have s1:Tr W0 _ W0 (.cells p0 [vI x0] 85 :: .cells G0 ae 46 :: .cells C0 (aa B0) 46 :: .cells D0 [.string y0.fB,vI y0.ft,I0,J0,K0,.bool y0.fp] 36 :: .cells b0 ((ap:La Vc) ++ aa q0 ++ aa c0 ++ aa j0 ++ aa g0 ++ (ap:La Vc)) 87 :: .cells k0 (aa s0) 46 :: .cells d0 aq 87 :: .cells z0 [vI a1.fl,vI a1.fj,vI a1.fm,v1_3] 31 :: T9):=BN (Bx F0 (.one .t7 (.one .hd (.one .hd (.one .hd (.one .hd (.one .hd (.one .hd (.one .hd .rest)))))))))
 refine AT (i:=5) (rk A0) (AQ (m' :=127) (fst:=[]) (cap:=[]) (sk A0) I I .plain (bd 34) I (e3 I I I) (fun p q=>aa_c n _ hL (⟨x0⟩:Ti) (p1.agree q) g1 B0 s2) I (fun M2 K2 q1 u1 hu_=>?_))
 subst hu_
 exact j2 G0 q1 (Tt v1 (Tt s1 u1))
 intro M00 q4 h
 try dsimp only at h
 refine Av<|Ae I<|Ab (FV.eql (i:=g2) (j:=0) I I)<|Ae I<|BG (s:=54) I h (fun K5 h=>?_) (fun K5 h=>?_)
 refine Aw<|Aw<|Aw<|Bq I I<|Aa<|q4 true k2 (Br _ _) h
 refine RG.fg 1 I<|AH (AN I ((k2.memA .hd) 1 _ I))<|AH (FV.eql (i:=y0.ft) (j:=0) I I)<|By I I<|Aa<|q4 (decide (y0.ft = 0)) k2 (Br _ _) h
 refine Bj I ?_
 have h:=Z8 _ h
 try dsimp only at h
 refine Ac<|Ae I<|bk h fun u0 k00 h=>Bm (.agg ((aa u0)).toArray) (bd 38) I (e2 I I) (fun p q=>am_c n (R1.hL0 hL q)  k00) I<|Ae I<|bk h fun t0 p00 h=>Bm (.agg ((aa t0)).toArray) (bd 38) I (e2 I I) (fun p q=>am_c n (R1.hL0 hL q)  p00) I<|Ba 0 I<|BU .plain (Bs (j:=0) (old:=((ap:La Vc) ++ aa q0 ++ aa c0 ++ aa j0 ++ aa g0 ++ (ap:La Vc))) (news:=(aa u0)) (new' :=(aa u0 ++ (ae:La Vc) ++ aa q0 ++ aa c0 ++ aa j0 ++ aa g0 ++ (ap:La Vc))) R1 .hd I I I I I I (ai I) I) fun K01 K6 b8=>Ba 16 I<|BU .plain (Bs (j:=16) (old:=(aa u0 ++ (ae:La Vc) ++ aa q0 ++ aa c0 ++ aa j0 ++ aa g0 ++ (ap:La Vc))) (news:=(aa t0)) (new' :=(aa u0 ++ aa t0 ++ aa q0 ++ aa c0 ++ aa j0 ++ aa g0 ++ (ap:La Vc))) K6 .hd I I I I I I (ai I) I) fun Y1 H0 c8=>Aa<|Aj<|du 6 fun v0 c1=>Rv 0 v0 I c1 (fun _=>Ak I)<|Rv 1 v0 I c1 (fun _=>Ak I)<|Rv 2 v0 I c1 (fun _=>AS 0 I)<|Rv 4 v0 I c1 (fun _=>AS 48 I)<|Rv 7 v0 I c1 (fun _=>Ak I)<|Rv 8 v0 I c1 (fun _=>AS 16 I)<|Rv 10 v0 I c1 (fun _=>AS 16 I)<|bk h fun P2 B1 h=>BH (α:=Unit) (fun ()=>[(0,.pointer (some ⟨p0,0,none⟩)),(8,vP d0),(9,vP k0),(10,vP b0),(128,.pointer (some ⟨p0,0,none⟩)),(135,.pointer (some ⟨p0,0,none⟩)),(137,.agg ((aa t0)).toArray),(139,.agg ((aa t0)).toArray),(134,.agg ((aa P2.2)).toArray)]) (fun ()=>(.cells p0 [vI P2.1.fe] 85 :: .cells b0 (aa u0 ++ aa t0 ++ aa q0 ++ aa c0 ++ aa j0 ++ aa g0 ++ (ap:La Vc)) 87 :: .cells k0 (aa s0) 46 :: .cells d0 aq 87 :: T9)) H0 4 4095 ?_ ?_
 rintro ⟨⟩ x02 P6 g8
 try dsimp only
 refine bk h fun G5 q00 h=>AT (i:=12) (rk v0) (AQ (m' :=8191) (fst:=[]) (cap:=[]) (sk v0) I I .plain (bd 34) I (e3 I I I) (fun p q=>aa_c n _ hL P2.1 (P6.agree q) t0 t0 q00) I (fun P01 k01 Q6 k8 hu_=>?_))
 subst hu_
 refine bk h fun E0 s00 h=>AT (i:=13) (rk v0) (AQ (m' :=16383) (fst:=[]) (cap:=[]) (sk v0) I I .plain (bd 33) I (e3 I I I) (fun p q=>ab_c n _ hL G5.1 (Q6.agree q) P2.2 G5.2 s00) I (fun Q01 p01 R6 p8 hu_=>?_))
 subst hu_
 refine Rv 14 v0 I c1 (fun _=>AS 96 I)<|Bv 15 65535 v0 I I .plain (Bs (j:=96) (old:=(aa u0 ++ aa t0 ++ aa q0 ++ aa c0 ++ aa j0 ++ aa g0 ++ (ap:La Vc))) (news:=(aa E0.2)) (new' :=(aa u0 ++ aa t0 ++ aa q0 ++ aa c0 ++ aa j0 ++ aa g0 ++ aa E0.2 ++ (ae:La Vc))) R6 .t1 I I I I I I (ai I) I) fun s3 U1 q8=>AO (dk v0)<|Aj<|Aj<|MX.jo (α:=Bool) (fun b3=>[(0,.pointer (some ⟨p0,0,none⟩)),(8,vP d0),(10,vP b0),(153,.bool b3)]) (fun b3=>(.cells p0 [vI E0.1.fe] 85 :: .cells b0 (aa u0 ++ aa t0 ++ aa q0 ++ aa c0 ++ aa j0 ++ aa g0 ++ aa E0.2 ++ (ae:La Vc)) 87 :: .cells d0 aq 87 :: T9)) (fun b3=>b3) U1 h ?_ ?_
 rintro b3 y02 G3 s8 h
 try dsimp only at h
 refine MX.jo (α:=Int) (fun R2=>[(0,.pointer (some ⟨p0,0,none⟩)),(8,vP d0),(10,vP b0)]) (fun R2=>(.cells p0 [vI R2] 85 :: .cells b0 (aa u0 ++ aa t0 ++ aa q0 ++ aa c0 ++ aa j0 ++ aa g0 ++ aa E0.2 ++ (ae:La Vc)) 87 :: .cells d0 aq 87 :: T9)) (fun R2=>R2) G3 h ?_ ?_
 rintro R2 z02 H3 t8 h
 try dsimp only at h
 refine Ac<|Ae I<|Ba 0 I<|Ab (Aq (cs:=(aa u0)) I I (ac (H3.memA .t1) 0 16))<|Ba 64 I<|Ab (Aq (cs:=(aa j0)) I I (ac (H3.memA .t1) 64 16))<|bk h fun x1 t00 h=>RG.callL (fst:=[]) (cap:=[]) .plain (bd 34) I (e3 I I I) (fun p q=>aa_c n _ hL (⟨R2⟩:Ti) (H3.agree q) u0 j0 t00) I fun R01 q01 U6 u8 hu_=>?_
 subst hu_
 refine RG.nl ae U6 fun U01 j3 V6 v8=>AW (aa x1.2) V6 .hd (ai I) fun u3 V1 x8=>Aa<|Aj<|du 7 fun Z0 X1=>Rv 0 Z0 I X1 (fun _=>Ak I)<|Rv 2 Z0 I X1 (fun _=>Ak I)<|Rv 3 Z0 I X1 (fun _=>AS 16 I)<|Rx 4 1920 Z0 I X1 (Aq (cs:=(aa t0)) I I (ac (V1.memA .t2) 16 16))<|Rv 5 Z0 I X1 (fun _=>AS 32 I)<|Rx 6 1920 Z0 I X1 (Aq (cs:=(aa q0)) I I (ac (V1.memA .t2) 32 16))<|bk h fun d2 q5 h=>BH (α:=Unit) (fun ()=>[(8,vP d0),(10,vP b0),(163,.pointer (some ⟨p0,0,none⟩)),(164,.agg ((aa x1.2)).toArray),(170,.agg ((aa d2.2)).toArray)]) (fun ()=>(.cells p0 [vI d2.1.fe] 85 :: .cells b0 (aa u0 ++ aa t0 ++ aa q0 ++ aa c0 ++ aa j0 ++ aa g0 ++ aa E0.2 ++ (ae:La Vc)) 87 :: .cells d0 aq 87 :: T9)) V1 3 255 ?_ ?_
 rintro ⟨⟩ A02 W6 y8
 try dsimp only
 refine bk h fun Q2 u00 h=>AT (i:=8) (rk Z0) (AQ (m' :=511) (fst:=[]) (cap:=[]) (sk Z0) I I .plain (bd 33) I (e3 I I I) (fun p q=>ab_c n _ hL d2.1 (W6.agree q) x1.2 d2.2 u00) I (fun V01 s01 X6 z8 hu_=>?_))
 subst hu_
 refine Rv 9 Z0 I X1 (fun _=>AS 112 I)<|Bv 10 2047 Z0 I I .plain (Bs (j:=112) (old:=(aa u0 ++ aa t0 ++ aa q0 ++ aa c0 ++ aa j0 ++ aa g0 ++ aa E0.2 ++ (ae:La Vc))) (news:=(aa Q2.2)) (new' :=(aa u0 ++ aa t0 ++ aa q0 ++ aa c0 ++ aa j0 ++ aa g0 ++ aa E0.2 ++ aa Q2.2)) X6 .t1 I I I I I I (ai I) I) fun W01 J4 A8=>AO (dk Z0)<|Ac<|Ab (AC I (J4.memA .t1))<|AW (aa u0 ++ aa t0 ++ aa q0 ++ aa c0 ++ aa j0 ++ aa g0 ++ aa E0.2 ++ aa Q2.2) J4 .t2 (ai I) fun t5 J3 B8=>Aa<|Ao I<|Au hb0 func31 I (.cons (.many (cs:=(aa u0 ++ aa t0 ++ aa q0 ++ aa c0 ++ aa j0 ++ aa g0 ++ aa E0.2 ++ aa Q2.2)) I I (J3.memA .t2)) .nil) I ?_
 have Y6:St _ _ (.cells p0 [vI Q2.1.fe] 85 :: T9):=J3.arr2 (.one .hd (.drop .hd (.drop .hd .rest)))
 have C8:Tr t5 _ t5 (.cells p0 [vI Q2.1.fe] 85 :: T9):=BN (Bx J3 (.one .hd (.drop .hd (.drop .hd .rest))))
 cases h
 exact ⟨Y6,(Tt d5 (Tt b8 (Tt c8 (Tt g8 (Tt k8 (Tt p8 (Tt q8 (Tt s8 (Tt t8 (Tt u8 (Tt v8 (Tt x8 (Tt y8 (Tt z8 (Tt A8 (Tt B8 C8)))))))))))))))),fun p q=>rfl⟩
 intro B4
 refine AM [1,7] (rk Z0) ⟨?_,?_,trivial⟩
 refine AV (m' :=127) (sk Z0) I .plain I (AC I (V1.memA .hd)) ?_
 have I3:St _ _ (.cells p0 [vI x1.1.fe] 85 :: .cells j3 (aa x1.2) 46 :: .cells b0 (aa u0 ++ aa t0 ++ aa q0 ++ aa c0 ++ aa j0 ++ aa g0 ++ aa E0.2 ++ (ae:La Vc)) 87 :: .cells d0 aq 87 :: T9):=V1.arr2 (.one .t1 (.one .hd (.one .hd (.one .hd .rest))))
 have Z3:Tr u3 _ u3 (.cells p0 [vI x1.1.fe] 85 :: .cells j3 (aa x1.2) 46 :: .cells b0 (aa u0 ++ aa t0 ++ aa q0 ++ aa c0 ++ aa j0 ++ aa g0 ++ aa E0.2 ++ (ae:La Vc)) 87 :: .cells d0 aq 87 :: T9):=BN (Bx V1 (.one .t1 (.one .hd (.one .hd (.one .hd .rest)))))
 refine AT (i:=7) (rk Z0) (AQ (m' :=255) (fst:=[]) (cap:=[]) (sk Z0) I I .plain (bd 34) I (e3 I I I) (fun p q=>aa_c n _ hL x1.1 (I3.agree q) t0 q0 q5) I (fun g3 C00 I2 b4 hu_=>?_))
 subst hu_
 have Z6:St _ _ (.cells p0 [vI d2.1.fe] 85 :: .cells b0 (aa u0 ++ aa t0 ++ aa q0 ++ aa c0 ++ aa j0 ++ aa g0 ++ aa E0.2 ++ (ae:La Vc)) 87 :: .cells d0 aq 87 :: T9):=I2.arr2 (.one .hd (.one .t1 (.one .t1 (.drop .hd .rest))))
 have D8:Tr g3 _ g3 (.cells p0 [vI d2.1.fe] 85 :: .cells b0 (aa u0 ++ aa t0 ++ aa q0 ++ aa c0 ++ aa j0 ++ aa g0 ++ aa E0.2 ++ (ae:La Vc)) 87 :: .cells d0 aq 87 :: T9):=BN (Bx I2 (.one .hd (.one .t1 (.one .t1 (.drop .hd .rest)))))
 exact B4 () Z6 (Tt Z3 (Tt b4 D8))
 have I3:St _ _ (.cells p0 [vI x1.1.fe] 85 :: .cells j3 (aa x1.2) 46 :: .cells b0 (aa u0 ++ aa t0 ++ aa q0 ++ aa c0 ++ aa j0 ++ aa g0 ++ aa E0.2 ++ (ae:La Vc)) 87 :: .cells d0 aq 87 :: T9):=V1.arr2 (.one .t1 (.one .hd (.one .hd (.one .hd .rest))))
 have Z3:Tr u3 _ u3 (.cells p0 [vI x1.1.fe] 85 :: .cells j3 (aa x1.2) 46 :: .cells b0 (aa u0 ++ aa t0 ++ aa q0 ++ aa c0 ++ aa j0 ++ aa g0 ++ aa E0.2 ++ (ae:La Vc)) 87 :: .cells d0 aq 87 :: T9):=BN (Bx V1 (.one .t1 (.one .hd (.one .hd (.one .hd .rest)))))
 refine AQ (m' :=253) (fst:=[]) (cap:=[]) (sk Z0) I I .plain (bd 34) I (e3 I I I) (fun p q=>aa_c n _ hL x1.1 (I3.agree q) t0 q0 q5) I fun g3 C00 I2 b4 hu_=>?_
 subst hu_
 refine Rx 1 1792 Z0 I X1 (AC I (I2.memA .t1)) ?_
 have b7:St _ _ (.cells p0 [vI d2.1.fe] 85 :: .cells b0 (aa u0 ++ aa t0 ++ aa q0 ++ aa c0 ++ aa j0 ++ aa g0 ++ aa E0.2 ++ (ae:La Vc)) 87 :: .cells d0 aq 87 :: T9):=I2.arr2 (.one .hd (.one .t1 (.one .t1 (.drop .hd .rest))))
 have E8:Tr g3 _ g3 (.cells p0 [vI d2.1.fe] 85 :: .cells b0 (aa u0 ++ aa t0 ++ aa q0 ++ aa c0 ++ aa j0 ++ aa g0 ++ aa E0.2 ++ (ae:La Vc)) 87 :: .cells d0 aq 87 :: T9):=BN (Bx I2 (.one .hd (.one .t1 (.one .t1 (.drop .hd .rest)))))
 exact B4 () b7 (Tt Z3 (Tt b4 E8))
 intro Q00 A4 h
 try dsimp only at h
 refine MX.ifb I h (fun M5 h=>?_) (fun M5 h=>?_)
 refine Av<|Ae I<|Ab (BM I)<|Ba 0 I<|BU .plain (Bs (j:=0) (old:=[vI E0.1.fe]) (news:=[vI 7]) (new' :=[vI 7]) G3 .hd I I I I I I (o1 I) I) fun X01 c7 F8=>Aa<|A4 7 c7 F8 h
 refine Az<|A4 E0.1.fe G3 (Br _ _) h
 intro P00 z4 h
 try dsimp only at h
 refine Av<|Ae I<|Ab (BM I)<|Ba 0 I<|AY I ((U1.memA .hd) 0 _ I)<|Ab (FV.eql (i:=E0.1.fe) (j:=0) I I)<|Ae I<|BG (s:=148) I h (fun P5 h=>?_) (fun P5 h=>?_)
 refine RG.fg 96 I<|AH (Aq (cs:=(aa E0.2)) I I (ac (U1.memA .t1) 96 16))<|AH (AC I (U1.memA .t2))<|AH (FV.eqlV (v:=.agg ((aa E0.2)).toArray) (u:=.agg ((aa s0)).toArray) I I (bG E0.2 s0))<|Bq I I<|Aa ?_
 have d7:St _ _ (.cells p0 [vI E0.1.fe] 85 :: .cells b0 (aa u0 ++ aa t0 ++ aa q0 ++ aa c0 ++ aa j0 ++ aa g0 ++ aa E0.2 ++ (ae:La Vc)) 87 :: .cells d0 aq 87 :: T9):=U1.arr2 (.one .hd (.one .hd (.one .t1 (.drop .hd .rest))))
 have G8:Tr s3 _ s3 (.cells p0 [vI E0.1.fe] 85 :: .cells b0 (aa u0 ++ aa t0 ++ aa q0 ++ aa c0 ++ aa j0 ++ aa g0 ++ aa E0.2 ++ (ae:La Vc)) 87 :: .cells d0 aq 87 :: T9):=BN (Bx U1 (.one .hd (.one .hd (.one .t1 (.drop .hd .rest)))))
 exact z4 (decide (E0.2 = s0)) d7 G8 h
 refine Aw<|Aw<|Aw<|Aw<|By I I<|Aa ?_
 have g7:St _ _ (.cells p0 [vI E0.1.fe] 85 :: .cells b0 (aa u0 ++ aa t0 ++ aa q0 ++ aa c0 ++ aa j0 ++ aa g0 ++ aa E0.2 ++ (ae:La Vc)) 87 :: .cells d0 aq 87 :: T9):=U1.arr2 (.one .hd (.one .hd (.one .t1 (.drop .hd .rest))))
 have H8:Tr s3 _ s3 (.cells p0 [vI E0.1.fe] 85 :: .cells b0 (aa u0 ++ aa t0 ++ aa q0 ++ aa c0 ++ aa j0 ++ aa g0 ++ aa E0.2 ++ (ae:La Vc)) 87 :: .cells d0 aq 87 :: T9):=BN (Bx U1 (.one .hd (.one .hd (.one .t1 (.drop .hd .rest)))))
 exact z4 false g7 H8 h
 intro z1
 refine BH (α:=Unit) (fun ()=>[(0,.pointer (some ⟨p0,0,none⟩)),(8,vP d0),(9,vP k0),(10,vP b0),(128,.pointer (some ⟨p0,0,none⟩)),(129,.pointer (some ⟨p0,0,none⟩)),(135,.pointer (some ⟨p0,0,none⟩)),(136,.pointer (some (Addr.add ⟨b0,0,none⟩ 16))),(131,.agg ((aa u0)).toArray),(133,.agg ((aa c0)).toArray),(139,.agg ((aa t0)).toArray)]) (fun ()=>(.cells b0 (aa u0 ++ aa t0 ++ aa q0 ++ aa c0 ++ aa j0 ++ aa g0 ++ (ap:La Vc)) 87 :: .cells k0 (aa s0) 46 :: .cells d0 aq 87 :: .cells p0 [vI x0] 85 :: T9)) H0 6 3519 ?_ ?_
 rintro ⟨⟩ x3 X2 b5
 try dsimp only
 refine AM [6,9] (rk v0) ⟨?_,?_,trivial⟩
 have Q0:St _ _ (.cells p0 [vI x0] 85 :: .cells b0 (aa u0 ++ aa t0 ++ aa q0 ++ aa c0 ++ aa j0 ++ aa g0 ++ (ap:La Vc)) 87 :: .cells k0 (aa s0) 46 :: .cells d0 aq 87 :: T9):=X2.arr2 (.one .t3 (.one .hd (.one .hd (.one .hd .rest))))
 have R0:Tr x3 _ x3 (.cells p0 [vI x0] 85 :: .cells b0 (aa u0 ++ aa t0 ++ aa q0 ++ aa c0 ++ aa j0 ++ aa g0 ++ (ap:La Vc)) 87 :: .cells k0 (aa s0) 46 :: .cells d0 aq 87 :: T9):=BN (Bx X2 (.one .t3 (.one .hd (.one .hd (.one .hd .rest)))))
 refine AQ (m' :=3583) (fst:=[]) (cap:=[]) (sk v0) I I .plain (bd 34) I (e3 I I I) (fun p q=>aa_c n _ hL (⟨x0⟩:Ti) (Q0.agree q) u0 c0 B1) I fun H1 G1 P0 U0 hu_=>?_
 subst hu_
 refine AT (i:=9) (rk v0) (AV (m' :=4095) (sk v0) I .plain I (Aq (cs:=(aa t0)) I I (ac (P0.memA .t1) 16 16)) ?_)
 exact z1 () P0 (Tt b5 (Tt R0 U0))
 refine AV (m' :=4031) (sk v0) I .plain I (Aq (cs:=(aa t0)) I I (ac (X2.memA .hd) 16 16)) ?_
 have Q0:St _ _ (.cells p0 [vI x0] 85 :: .cells b0 (aa u0 ++ aa t0 ++ aa q0 ++ aa c0 ++ aa j0 ++ aa g0 ++ (ap:La Vc)) 87 :: .cells k0 (aa s0) 46 :: .cells d0 aq 87 :: T9):=X2.arr2 (.one .t3 (.one .hd (.one .hd (.one .hd .rest))))
 have R0:Tr x3 _ x3 (.cells p0 [vI x0] 85 :: .cells b0 (aa u0 ++ aa t0 ++ aa q0 ++ aa c0 ++ aa j0 ++ aa g0 ++ (ap:La Vc)) 87 :: .cells k0 (aa s0) 46 :: .cells d0 aq 87 :: T9):=BN (Bx X2 (.one .t3 (.one .hd (.one .hd (.one .hd .rest)))))
 refine AT (i:=6) (rk v0) (AQ (m' :=4095) (fst:=[]) (cap:=[]) (sk v0) I I .plain (bd 34) I (e3 I I I) (fun p q=>aa_c n _ hL (⟨x0⟩:Ti) (Q0.agree q) u0 c0 B1) I (fun H1 G1 P0 U0 hu_=>?_))
 subst hu_
 exact z1 () P0 (Tt b5 (Tt R0 U0))
 intro z3
 refine BH (α:=Unit) (fun ()=>[(0,.pointer (some ⟨p0,0,none⟩)),(8,vP d0),(9,vP k0),(10,vP b0),(128,.pointer (some ⟨p0,0,none⟩)),(129,.pointer (some ⟨p0,0,none⟩)),(135,.pointer (some ⟨p0,0,none⟩)),(138,.pointer (some (Addr.add ⟨b0,0,none⟩ 16))),(131,.agg ((aa u0)).toArray),(133,.agg ((aa c0)).toArray),(137,.agg ((aa t0)).toArray)]) (fun ()=>(.cells b0 (aa u0 ++ aa t0 ++ aa q0 ++ aa c0 ++ aa j0 ++ aa g0 ++ (ap:La Vc)) 87 :: .cells k0 (aa s0) 46 :: .cells d0 aq 87 :: .cells p0 [vI x0] 85 :: T9)) H0 6 1983 ?_ ?_
 rintro ⟨⟩ v3 W2 Z4
 try dsimp only
 refine AM [6,11] (rk v0) ⟨?_,?_,trivial⟩
 have Q0:St _ _ (.cells p0 [vI x0] 85 :: .cells b0 (aa u0 ++ aa t0 ++ aa q0 ++ aa c0 ++ aa j0 ++ aa g0 ++ (ap:La Vc)) 87 :: .cells k0 (aa s0) 46 :: .cells d0 aq 87 :: T9):=W2.arr2 (.one .t3 (.one .hd (.one .hd (.one .hd .rest))))
 have R0:Tr v3 _ v3 (.cells p0 [vI x0] 85 :: .cells b0 (aa u0 ++ aa t0 ++ aa q0 ++ aa c0 ++ aa j0 ++ aa g0 ++ (ap:La Vc)) 87 :: .cells k0 (aa s0) 46 :: .cells d0 aq 87 :: T9):=BN (Bx W2 (.one .t3 (.one .hd (.one .hd (.one .hd .rest)))))
 refine AQ (m' :=2047) (fst:=[]) (cap:=[]) (sk v0) I I .plain (bd 34) I (e3 I I I) (fun p q=>aa_c n _ hL (⟨x0⟩:Ti) (Q0.agree q) u0 c0 B1) I fun H1 G1 P0 U0 hu_=>?_
 subst hu_
 refine AT (i:=11) (rk v0) (AV (m' :=4095) (sk v0) I .plain I (Aq (cs:=(aa t0)) I I (ac (P0.memA .t1) 16 16)) ?_)
 exact z1 () P0 (Tt Z4 (Tt R0 U0))
 refine AV (m' :=4031) (sk v0) I .plain I (Aq (cs:=(aa t0)) I I (ac (W2.memA .hd) 16 16)) ?_
 have Q0:St _ _ (.cells p0 [vI x0] 85 :: .cells b0 (aa u0 ++ aa t0 ++ aa q0 ++ aa c0 ++ aa j0 ++ aa g0 ++ (ap:La Vc)) 87 :: .cells k0 (aa s0) 46 :: .cells d0 aq 87 :: T9):=W2.arr2 (.one .t3 (.one .hd (.one .hd (.one .hd .rest))))
 have R0:Tr v3 _ v3 (.cells p0 [vI x0] 85 :: .cells b0 (aa u0 ++ aa t0 ++ aa q0 ++ aa c0 ++ aa j0 ++ aa g0 ++ (ap:La Vc)) 87 :: .cells k0 (aa s0) 46 :: .cells d0 aq 87 :: T9):=BN (Bx W2 (.one .t3 (.one .hd (.one .hd (.one .hd .rest)))))
 refine AT (i:=6) (rk v0) (AQ (m' :=4095) (fst:=[]) (cap:=[]) (sk v0) I I .plain (bd 34) I (e3 I I I) (fun p q=>aa_c n _ hL (⟨x0⟩:Ti) (Q0.agree q) u0 c0 B1) I (fun H1 G1 P0 U0 hu_=>?_))
 subst hu_
 exact z1 () P0 (Tt Z4 (Tt R0 U0))
 intro A3
 refine BH (α:=Unit) (fun ()=>[(0,.pointer (some ⟨p0,0,none⟩)),(8,vP d0),(9,vP k0),(10,vP b0),(128,.pointer (some ⟨p0,0,none⟩)),(135,.pointer (some ⟨p0,0,none⟩)),(136,.pointer (some (Addr.add ⟨b0,0,none⟩ 16))),(138,.pointer (some (Addr.add ⟨b0,0,none⟩ 16))),(134,.agg ((aa P2.2)).toArray)]) (fun ()=>(.cells p0 [vI P2.1.fe] 85 :: .cells b0 (aa u0 ++ aa t0 ++ aa q0 ++ aa c0 ++ aa j0 ++ aa g0 ++ (ap:La Vc)) 87 :: .cells k0 (aa s0) 46 :: .cells d0 aq 87 :: T9)) H0 6 1535 ?_ ?_
 rintro ⟨⟩ v02 H2 Y4
 try dsimp only
 refine AM [9,11] (rk v0) ⟨?_,?_,trivial⟩
 refine AV (m' :=2047) (sk v0) I .plain I (Aq (cs:=(aa t0)) I I (ac (H2.memA .t1) 16 16))<|AT (i:=11) (rk v0) (AV (m' :=4095) (sk v0) I .plain I (Aq (cs:=(aa t0)) I I (ac (H2.memA .t1) 16 16)) ?_)
 exact z1 () H2 Y4
 refine AV (m' :=3583) (sk v0) I .plain I (Aq (cs:=(aa t0)) I I (ac (H2.memA .t1) 16 16))<|AT (i:=9) (rk v0) (AV (m' :=4095) (sk v0) I .plain I (Aq (cs:=(aa t0)) I I (ac (H2.memA .t1) 16 16)) ?_)
 exact z1 () H2 Y4
 intro Z5
 refine BH (α:=Unit) (fun ()=>[(0,.pointer (some ⟨p0,0,none⟩)),(8,vP d0),(9,vP k0),(10,vP b0),(128,.pointer (some ⟨p0,0,none⟩)),(129,.pointer (some ⟨p0,0,none⟩)),(130,.pointer (some (Addr.add ⟨b0,0,none⟩ 0))),(135,.pointer (some ⟨p0,0,none⟩)),(136,.pointer (some (Addr.add ⟨b0,0,none⟩ 16))),(133,.agg ((aa c0)).toArray),(139,.agg ((aa t0)).toArray)]) (fun ()=>(.cells b0 (aa u0 ++ aa t0 ++ aa q0 ++ aa c0 ++ aa j0 ++ aa g0 ++ (ap:La Vc)) 87 :: .cells k0 (aa s0) 46 :: .cells d0 aq 87 :: .cells p0 [vI x0] 85 :: T9)) H0 7 3511 ?_ ?_
 rintro ⟨⟩ D5 G2 X4
 try dsimp only
 refine AM [3,9] (rk v0) ⟨?_,?_,trivial⟩
 refine AV (m' :=3519) (sk v0) I .plain I (Aq (cs:=(aa u0)) I I (ac (G2.memA .hd) 0 16))<|z3 () G2 X4
 refine AV (m' :=4023) (sk v0) I .plain I (Aq (cs:=(aa t0)) I I (ac (G2.memA .hd) 16 16))<|Rx 3 61504 v0 I c1 (Aq (cs:=(aa u0)) I I (ac (G2.memA .hd) 0 16)) ?_
 have Q0:St _ _ (.cells p0 [vI x0] 85 :: .cells b0 (aa u0 ++ aa t0 ++ aa q0 ++ aa c0 ++ aa j0 ++ aa g0 ++ (ap:La Vc)) 87 :: .cells k0 (aa s0) 46 :: .cells d0 aq 87 :: T9):=G2.arr2 (.one .t3 (.one .hd (.one .hd (.one .hd .rest))))
 have R0:Tr D5 _ D5 (.cells p0 [vI x0] 85 :: .cells b0 (aa u0 ++ aa t0 ++ aa q0 ++ aa c0 ++ aa j0 ++ aa g0 ++ (ap:La Vc)) 87 :: .cells k0 (aa s0) 46 :: .cells d0 aq 87 :: T9):=BN (Bx G2 (.one .t3 (.one .hd (.one .hd (.one .hd .rest)))))
 refine AT (i:=6) (rk v0) (AQ (m' :=4095) (fst:=[]) (cap:=[]) (sk v0) I I .plain (bd 34) I (e3 I I I) (fun p q=>aa_c n _ hL (⟨x0⟩:Ti) (Q0.agree q) u0 c0 B1) I (fun H1 G1 P0 U0 hu_=>?_))
 subst hu_
 exact z1 () P0 (Tt X4 (Tt R0 U0))
 intro C4
 refine BH (α:=Unit) (fun ()=>[(0,.pointer (some ⟨p0,0,none⟩)),(8,vP d0),(9,vP k0),(10,vP b0),(128,.pointer (some ⟨p0,0,none⟩)),(129,.pointer (some ⟨p0,0,none⟩)),(132,.pointer (some (Addr.add ⟨b0,0,none⟩ 48))),(135,.pointer (some ⟨p0,0,none⟩)),(136,.pointer (some (Addr.add ⟨b0,0,none⟩ 16))),(131,.agg ((aa u0)).toArray),(139,.agg ((aa t0)).toArray)]) (fun ()=>(.cells b0 (aa u0 ++ aa t0 ++ aa q0 ++ aa c0 ++ aa j0 ++ aa g0 ++ (ap:La Vc)) 87 :: .cells k0 (aa s0) 46 :: .cells d0 aq 87 :: .cells p0 [vI x0] 85 :: T9)) H0 7 3487 ?_ ?_
 rintro ⟨⟩ C5 F2 W4
 try dsimp only
 refine AM [5,9] (rk v0) ⟨?_,?_,trivial⟩
 refine AV (m' :=3519) (sk v0) I .plain I (Aq (cs:=(aa c0)) I I (ac (F2.memA .hd) 48 16))<|z3 () F2 W4
 refine AV (m' :=3999) (sk v0) I .plain I (Aq (cs:=(aa t0)) I I (ac (F2.memA .hd) 16 16))<|Rx 5 61504 v0 I c1 (Aq (cs:=(aa c0)) I I (ac (F2.memA .hd) 48 16)) ?_
 have Q0:St _ _ (.cells p0 [vI x0] 85 :: .cells b0 (aa u0 ++ aa t0 ++ aa q0 ++ aa c0 ++ aa j0 ++ aa g0 ++ (ap:La Vc)) 87 :: .cells k0 (aa s0) 46 :: .cells d0 aq 87 :: T9):=F2.arr2 (.one .t3 (.one .hd (.one .hd (.one .hd .rest))))
 have R0:Tr C5 _ C5 (.cells p0 [vI x0] 85 :: .cells b0 (aa u0 ++ aa t0 ++ aa q0 ++ aa c0 ++ aa j0 ++ aa g0 ++ (ap:La Vc)) 87 :: .cells k0 (aa s0) 46 :: .cells d0 aq 87 :: T9):=BN (Bx F2 (.one .t3 (.one .hd (.one .hd (.one .hd .rest)))))
 refine AT (i:=6) (rk v0) (AQ (m' :=4095) (fst:=[]) (cap:=[]) (sk v0) I I .plain (bd 34) I (e3 I I I) (fun p q=>aa_c n _ hL (⟨x0⟩:Ti) (Q0.agree q) u0 c0 B1) I (fun H1 G1 P0 U0 hu_=>?_))
 subst hu_
 exact z1 () P0 (Tt W4 (Tt R0 U0))
 intro D4
 refine BH (α:=Unit) (fun ()=>[(0,.pointer (some ⟨p0,0,none⟩)),(8,vP d0),(9,vP k0),(10,vP b0),(128,.pointer (some ⟨p0,0,none⟩)),(129,.pointer (some ⟨p0,0,none⟩)),(130,.pointer (some (Addr.add ⟨b0,0,none⟩ 0))),(135,.pointer (some ⟨p0,0,none⟩)),(138,.pointer (some (Addr.add ⟨b0,0,none⟩ 16))),(133,.agg ((aa c0)).toArray),(137,.agg ((aa t0)).toArray)]) (fun ()=>(.cells b0 (aa u0 ++ aa t0 ++ aa q0 ++ aa c0 ++ aa j0 ++ aa g0 ++ (ap:La Vc)) 87 :: .cells k0 (aa s0) 46 :: .cells d0 aq 87 :: .cells p0 [vI x0] 85 :: T9)) H0 7 1975 ?_ ?_
 rintro ⟨⟩ B5 E2 V4
 try dsimp only
 refine AM [3,11] (rk v0) ⟨?_,?_,trivial⟩
 refine AV (m' :=1983) (sk v0) I .plain I (Aq (cs:=(aa u0)) I I (ac (E2.memA .hd) 0 16))<|A3 () E2 V4
 refine AV (m' :=4023) (sk v0) I .plain I (Aq (cs:=(aa t0)) I I (ac (E2.memA .hd) 16 16))<|Rx 3 61504 v0 I c1 (Aq (cs:=(aa u0)) I I (ac (E2.memA .hd) 0 16)) ?_
 have Q0:St _ _ (.cells p0 [vI x0] 85 :: .cells b0 (aa u0 ++ aa t0 ++ aa q0 ++ aa c0 ++ aa j0 ++ aa g0 ++ (ap:La Vc)) 87 :: .cells k0 (aa s0) 46 :: .cells d0 aq 87 :: T9):=E2.arr2 (.one .t3 (.one .hd (.one .hd (.one .hd .rest))))
 have R0:Tr B5 _ B5 (.cells p0 [vI x0] 85 :: .cells b0 (aa u0 ++ aa t0 ++ aa q0 ++ aa c0 ++ aa j0 ++ aa g0 ++ (ap:La Vc)) 87 :: .cells k0 (aa s0) 46 :: .cells d0 aq 87 :: T9):=BN (Bx E2 (.one .t3 (.one .hd (.one .hd (.one .hd .rest)))))
 refine AT (i:=6) (rk v0) (AQ (m' :=4095) (fst:=[]) (cap:=[]) (sk v0) I I .plain (bd 34) I (e3 I I I) (fun p q=>aa_c n _ hL (⟨x0⟩:Ti) (Q0.agree q) u0 c0 B1) I (fun H1 G1 P0 U0 hu_=>?_))
 subst hu_
 exact z1 () P0 (Tt V4 (Tt R0 U0))
 intro E4
 refine BH (α:=Unit) (fun ()=>[(0,.pointer (some ⟨p0,0,none⟩)),(8,vP d0),(9,vP k0),(10,vP b0),(128,.pointer (some ⟨p0,0,none⟩)),(129,.pointer (some ⟨p0,0,none⟩)),(132,.pointer (some (Addr.add ⟨b0,0,none⟩ 48))),(135,.pointer (some ⟨p0,0,none⟩)),(138,.pointer (some (Addr.add ⟨b0,0,none⟩ 16))),(131,.agg ((aa u0)).toArray),(137,.agg ((aa t0)).toArray)]) (fun ()=>(.cells b0 (aa u0 ++ aa t0 ++ aa q0 ++ aa c0 ++ aa j0 ++ aa g0 ++ (ap:La Vc)) 87 :: .cells k0 (aa s0) 46 :: .cells d0 aq 87 :: .cells p0 [vI x0] 85 :: T9)) H0 7 1951 ?_ ?_
 rintro ⟨⟩ A5 D2 U4
 try dsimp only
 refine AM [5,11] (rk v0) ⟨?_,?_,trivial⟩
 refine AV (m' :=1983) (sk v0) I .plain I (Aq (cs:=(aa c0)) I I (ac (D2.memA .hd) 48 16))<|A3 () D2 U4
 refine AV (m' :=3999) (sk v0) I .plain I (Aq (cs:=(aa t0)) I I (ac (D2.memA .hd) 16 16))<|Rx 5 61504 v0 I c1 (Aq (cs:=(aa c0)) I I (ac (D2.memA .hd) 48 16)) ?_
 have Q0:St _ _ (.cells p0 [vI x0] 85 :: .cells b0 (aa u0 ++ aa t0 ++ aa q0 ++ aa c0 ++ aa j0 ++ aa g0 ++ (ap:La Vc)) 87 :: .cells k0 (aa s0) 46 :: .cells d0 aq 87 :: T9):=D2.arr2 (.one .t3 (.one .hd (.one .hd (.one .hd .rest))))
 have R0:Tr A5 _ A5 (.cells p0 [vI x0] 85 :: .cells b0 (aa u0 ++ aa t0 ++ aa q0 ++ aa c0 ++ aa j0 ++ aa g0 ++ (ap:La Vc)) 87 :: .cells k0 (aa s0) 46 :: .cells d0 aq 87 :: T9):=BN (Bx D2 (.one .t3 (.one .hd (.one .hd (.one .hd .rest)))))
 refine AT (i:=6) (rk v0) (AQ (m' :=4095) (fst:=[]) (cap:=[]) (sk v0) I I .plain (bd 34) I (e3 I I I) (fun p q=>aa_c n _ hL (⟨x0⟩:Ti) (Q0.agree q) u0 c0 B1) I (fun H1 G1 P0 U0 hu_=>?_))
 subst hu_
 exact z1 () P0 (Tt U4 (Tt R0 U0))
 intro F4
 refine BH (α:=Unit) (fun ()=>[(0,.pointer (some ⟨p0,0,none⟩)),(8,vP d0),(9,vP k0),(10,vP b0),(128,.pointer (some ⟨p0,0,none⟩)),(129,.pointer (some ⟨p0,0,none⟩)),(135,.pointer (some ⟨p0,0,none⟩)),(136,.pointer (some (Addr.add ⟨b0,0,none⟩ 16))),(138,.pointer (some (Addr.add ⟨b0,0,none⟩ 16))),(131,.agg ((aa u0)).toArray),(133,.agg ((aa c0)).toArray)]) (fun ()=>(.cells b0 (aa u0 ++ aa t0 ++ aa q0 ++ aa c0 ++ aa j0 ++ aa g0 ++ (ap:La Vc)) 87 :: .cells k0 (aa s0) 46 :: .cells d0 aq 87 :: .cells p0 [vI x0] 85 :: T9)) H0 7 1471 ?_ ?_
 rintro ⟨⟩ z5 C2 Y3
 try dsimp only
 refine AM [6,9,11] (rk v0) ⟨?_,?_,?_,trivial⟩
 have Q0:St _ _ (.cells p0 [vI x0] 85 :: .cells b0 (aa u0 ++ aa t0 ++ aa q0 ++ aa c0 ++ aa j0 ++ aa g0 ++ (ap:La Vc)) 87 :: .cells k0 (aa s0) 46 :: .cells d0 aq 87 :: T9):=C2.arr2 (.one .t3 (.one .hd (.one .hd (.one .hd .rest))))
 have R0:Tr z5 _ z5 (.cells p0 [vI x0] 85 :: .cells b0 (aa u0 ++ aa t0 ++ aa q0 ++ aa c0 ++ aa j0 ++ aa g0 ++ (ap:La Vc)) 87 :: .cells k0 (aa s0) 46 :: .cells d0 aq 87 :: T9):=BN (Bx C2 (.one .t3 (.one .hd (.one .hd (.one .hd .rest)))))
 refine AQ (m' :=1535) (fst:=[]) (cap:=[]) (sk v0) I I .plain (bd 34) I (e3 I I I) (fun p q=>aa_c n _ hL (⟨x0⟩:Ti) (Q0.agree q) u0 c0 B1) I fun H1 G1 P0 U0 hu_=>?_
 subst hu_
 exact Z5 () P0 (Tt Y3 (Tt R0 U0))
 refine AV (m' :=1983) (sk v0) I .plain I (Aq (cs:=(aa t0)) I I (ac (C2.memA .hd) 16 16))<|A3 () C2 Y3
 refine AV (m' :=3519) (sk v0) I .plain I (Aq (cs:=(aa t0)) I I (ac (C2.memA .hd) 16 16))<|z3 () C2 Y3
 intro G4
 refine BH (α:=Unit) (fun ()=>[(0,.pointer (some ⟨p0,0,none⟩)),(8,vP d0),(9,vP k0),(10,vP b0),(128,.pointer (some ⟨p0,0,none⟩)),(129,.pointer (some ⟨p0,0,none⟩)),(130,.pointer (some (Addr.add ⟨b0,0,none⟩ 0))),(132,.pointer (some (Addr.add ⟨b0,0,none⟩ 48))),(135,.pointer (some ⟨p0,0,none⟩)),(136,.pointer (some (Addr.add ⟨b0,0,none⟩ 16))),(139,.agg ((aa t0)).toArray)]) (fun ()=>(.cells b0 (aa u0 ++ aa t0 ++ aa q0 ++ aa c0 ++ aa j0 ++ aa g0 ++ (ap:La Vc)) 87 :: .cells k0 (aa s0) 46 :: .cells d0 aq 87 :: .cells p0 [vI x0] 85 :: T9)) H0 8 3479 ?_ ?_
 rintro ⟨⟩ y5 J1 X3
 try dsimp only
 refine AM [3,5,9] (rk v0) ⟨?_,?_,?_,trivial⟩
 refine AV (m' :=3487) (sk v0) I .plain I (Aq (cs:=(aa u0)) I I (ac (J1.memA .hd) 0 16))<|D4 () J1 X3
 refine AV (m' :=3511) (sk v0) I .plain I (Aq (cs:=(aa c0)) I I (ac (J1.memA .hd) 48 16))<|C4 () J1 X3
 refine AV (m' :=3991) (sk v0) I .plain I (Aq (cs:=(aa t0)) I I (ac (J1.memA .hd) 16 16))<|Rx 3 61504 v0 I c1 (Aq (cs:=(aa u0)) I I (ac (J1.memA .hd) 0 16))<|Rx 5 61504 v0 I c1 (Aq (cs:=(aa c0)) I I (ac (J1.memA .hd) 48 16)) ?_
 have Q0:St _ _ (.cells p0 [vI x0] 85 :: .cells b0 (aa u0 ++ aa t0 ++ aa q0 ++ aa c0 ++ aa j0 ++ aa g0 ++ (ap:La Vc)) 87 :: .cells k0 (aa s0) 46 :: .cells d0 aq 87 :: T9):=J1.arr2 (.one .t3 (.one .hd (.one .hd (.one .hd .rest))))
 have R0:Tr y5 _ y5 (.cells p0 [vI x0] 85 :: .cells b0 (aa u0 ++ aa t0 ++ aa q0 ++ aa c0 ++ aa j0 ++ aa g0 ++ (ap:La Vc)) 87 :: .cells k0 (aa s0) 46 :: .cells d0 aq 87 :: T9):=BN (Bx J1 (.one .t3 (.one .hd (.one .hd (.one .hd .rest)))))
 refine AT (i:=6) (rk v0) (AQ (m' :=4095) (fst:=[]) (cap:=[]) (sk v0) I I .plain (bd 34) I (e3 I I I) (fun p q=>aa_c n _ hL (⟨x0⟩:Ti) (Q0.agree q) u0 c0 B1) I (fun H1 G1 P0 U0 hu_=>?_))
 subst hu_
 exact z1 () P0 (Tt X3 (Tt R0 U0))
 intro b6
 refine BH (α:=Unit) (fun ()=>[(0,.pointer (some ⟨p0,0,none⟩)),(8,vP d0),(9,vP k0),(10,vP b0),(128,.pointer (some ⟨p0,0,none⟩)),(129,.pointer (some ⟨p0,0,none⟩)),(130,.pointer (some (Addr.add ⟨b0,0,none⟩ 0))),(132,.pointer (some (Addr.add ⟨b0,0,none⟩ 48))),(135,.pointer (some ⟨p0,0,none⟩)),(138,.pointer (some (Addr.add ⟨b0,0,none⟩ 16))),(137,.agg ((aa t0)).toArray)]) (fun ()=>(.cells b0 (aa u0 ++ aa t0 ++ aa q0 ++ aa c0 ++ aa j0 ++ aa g0 ++ (ap:La Vc)) 87 :: .cells k0 (aa s0) 46 :: .cells d0 aq 87 :: .cells p0 [vI x0] 85 :: T9)) H0 8 1943 ?_ ?_
 rintro ⟨⟩ x5 I1 W3
 try dsimp only
 refine AM [3,5,11] (rk v0) ⟨?_,?_,?_,trivial⟩
 refine AV (m' :=1951) (sk v0) I .plain I (Aq (cs:=(aa u0)) I I (ac (I1.memA .hd) 0 16))<|F4 () I1 W3
 refine AV (m' :=1975) (sk v0) I .plain I (Aq (cs:=(aa c0)) I I (ac (I1.memA .hd) 48 16))<|E4 () I1 W3
 refine AV (m' :=3991) (sk v0) I .plain I (Aq (cs:=(aa t0)) I I (ac (I1.memA .hd) 16 16))<|Rx 3 61504 v0 I c1 (Aq (cs:=(aa u0)) I I (ac (I1.memA .hd) 0 16))<|Rx 5 61504 v0 I c1 (Aq (cs:=(aa c0)) I I (ac (I1.memA .hd) 48 16)) ?_
 have Q0:St _ _ (.cells p0 [vI x0] 85 :: .cells b0 (aa u0 ++ aa t0 ++ aa q0 ++ aa c0 ++ aa j0 ++ aa g0 ++ (ap:La Vc)) 87 :: .cells k0 (aa s0) 46 :: .cells d0 aq 87 :: T9):=I1.arr2 (.one .t3 (.one .hd (.one .hd (.one .hd .rest))))
 have R0:Tr x5 _ x5 (.cells p0 [vI x0] 85 :: .cells b0 (aa u0 ++ aa t0 ++ aa q0 ++ aa c0 ++ aa j0 ++ aa g0 ++ (ap:La Vc)) 87 :: .cells k0 (aa s0) 46 :: .cells d0 aq 87 :: T9):=BN (Bx I1 (.one .t3 (.one .hd (.one .hd (.one .hd .rest)))))
 refine AT (i:=6) (rk v0) (AQ (m' :=4095) (fst:=[]) (cap:=[]) (sk v0) I I .plain (bd 34) I (e3 I I I) (fun p q=>aa_c n _ hL (⟨x0⟩:Ti) (Q0.agree q) u0 c0 B1) I (fun H1 G1 P0 U0 hu_=>?_))
 subst hu_
 exact z1 () P0 (Tt W3 (Tt R0 U0))
 intro c6
 refine BH (α:=Unit) (fun ()=>[(0,.pointer (some ⟨p0,0,none⟩)),(8,vP d0),(9,vP k0),(10,vP b0),(128,.pointer (some ⟨p0,0,none⟩)),(129,.pointer (some ⟨p0,0,none⟩)),(130,.pointer (some (Addr.add ⟨b0,0,none⟩ 0))),(135,.pointer (some ⟨p0,0,none⟩)),(136,.pointer (some (Addr.add ⟨b0,0,none⟩ 16))),(138,.pointer (some (Addr.add ⟨b0,0,none⟩ 16))),(133,.agg ((aa c0)).toArray)]) (fun ()=>(.cells b0 (aa u0 ++ aa t0 ++ aa q0 ++ aa c0 ++ aa j0 ++ aa g0 ++ (ap:La Vc)) 87 :: .cells k0 (aa s0) 46 :: .cells d0 aq 87 :: .cells p0 [vI x0] 85 :: T9)) H0 8 1463 ?_ ?_
 rintro ⟨⟩ u02 B2 V3
 try dsimp only
 refine AM [3,9,11] (rk v0) ⟨?_,?_,?_,trivial⟩
 refine AV (m' :=1471) (sk v0) I .plain I (Aq (cs:=(aa u0)) I I (ac (B2.memA .hd) 0 16))<|G4 () B2 V3
 refine AV (m' :=1975) (sk v0) I .plain I (Aq (cs:=(aa t0)) I I (ac (B2.memA .hd) 16 16))<|E4 () B2 V3
 refine AV (m' :=3511) (sk v0) I .plain I (Aq (cs:=(aa t0)) I I (ac (B2.memA .hd) 16 16))<|C4 () B2 V3
 intro d6
 refine BH (α:=Unit) (fun ()=>[(0,.pointer (some ⟨p0,0,none⟩)),(8,vP d0),(9,vP k0),(10,vP b0),(128,.pointer (some ⟨p0,0,none⟩)),(129,.pointer (some ⟨p0,0,none⟩)),(132,.pointer (some (Addr.add ⟨b0,0,none⟩ 48))),(135,.pointer (some ⟨p0,0,none⟩)),(136,.pointer (some (Addr.add ⟨b0,0,none⟩ 16))),(138,.pointer (some (Addr.add ⟨b0,0,none⟩ 16))),(131,.agg ((aa u0)).toArray)]) (fun ()=>(.cells b0 (aa u0 ++ aa t0 ++ aa q0 ++ aa c0 ++ aa j0 ++ aa g0 ++ (ap:La Vc)) 87 :: .cells k0 (aa s0) 46 :: .cells d0 aq 87 :: .cells p0 [vI x0] 85 :: T9)) H0 8 1439 ?_ ?_
 rintro ⟨⟩ t02 A2 U3
 try dsimp only
 refine AM [5,9,11] (rk v0) ⟨?_,?_,?_,trivial⟩
 refine AV (m' :=1471) (sk v0) I .plain I (Aq (cs:=(aa c0)) I I (ac (A2.memA .hd) 48 16))<|G4 () A2 U3
 refine AV (m' :=1951) (sk v0) I .plain I (Aq (cs:=(aa t0)) I I (ac (A2.memA .hd) 16 16))<|F4 () A2 U3
 refine AV (m' :=3487) (sk v0) I .plain I (Aq (cs:=(aa t0)) I I (ac (A2.memA .hd) 16 16))<|D4 () A2 U3
 intro g6
 refine AM [3,5,9,11] (rk v0) ⟨?_,?_,?_,?_,trivial⟩
 refine AV (m' :=1439) (sk v0) I .plain I (Aq (cs:=(aa u0)) I I (ac (H0.memA .hd) 0 16)) ?_
 have j7:St _ _ (.cells b0 (aa u0 ++ aa t0 ++ aa q0 ++ aa c0 ++ aa j0 ++ aa g0 ++ (ap:La Vc)) 87 :: .cells k0 (aa s0) 46 :: .cells d0 aq 87 :: .cells p0 [vI x0] 85 :: T9):=H0.arr2 (.one .hd (.one .hd (.one .hd (.one .t1 (.drop .hd .rest)))))
 have I8:Tr Y1 _ Y1 (.cells b0 (aa u0 ++ aa t0 ++ aa q0 ++ aa c0 ++ aa j0 ++ aa g0 ++ (ap:La Vc)) 87 :: .cells k0 (aa s0) 46 :: .cells d0 aq 87 :: .cells p0 [vI x0] 85 :: T9):=BN (Bx H0 (.one .hd (.one .hd (.one .hd (.one .t1 (.drop .hd .rest))))))
 exact g6 () j7 I8
 refine AV (m' :=1463) (sk v0) I .plain I (Aq (cs:=(aa c0)) I I (ac (H0.memA .hd) 48 16)) ?_
 have k7:St _ _ (.cells b0 (aa u0 ++ aa t0 ++ aa q0 ++ aa c0 ++ aa j0 ++ aa g0 ++ (ap:La Vc)) 87 :: .cells k0 (aa s0) 46 :: .cells d0 aq 87 :: .cells p0 [vI x0] 85 :: T9):=H0.arr2 (.one .hd (.one .hd (.one .hd (.one .t1 (.drop .hd .rest)))))
 have J8:Tr Y1 _ Y1 (.cells b0 (aa u0 ++ aa t0 ++ aa q0 ++ aa c0 ++ aa j0 ++ aa g0 ++ (ap:La Vc)) 87 :: .cells k0 (aa s0) 46 :: .cells d0 aq 87 :: .cells p0 [vI x0] 85 :: T9):=BN (Bx H0 (.one .hd (.one .hd (.one .hd (.one .t1 (.drop .hd .rest))))))
 exact d6 () k7 J8
 refine AV (m' :=1943) (sk v0) I .plain I (Aq (cs:=(aa t0)) I I (ac (H0.memA .hd) 16 16)) ?_
 have p7:St _ _ (.cells b0 (aa u0 ++ aa t0 ++ aa q0 ++ aa c0 ++ aa j0 ++ aa g0 ++ (ap:La Vc)) 87 :: .cells k0 (aa s0) 46 :: .cells d0 aq 87 :: .cells p0 [vI x0] 85 :: T9):=H0.arr2 (.one .hd (.one .hd (.one .hd (.one .t1 (.drop .hd .rest)))))
 have K8:Tr Y1 _ Y1 (.cells b0 (aa u0 ++ aa t0 ++ aa q0 ++ aa c0 ++ aa j0 ++ aa g0 ++ (ap:La Vc)) 87 :: .cells k0 (aa s0) 46 :: .cells d0 aq 87 :: .cells p0 [vI x0] 85 :: T9):=BN (Bx H0 (.one .hd (.one .hd (.one .hd (.one .t1 (.drop .hd .rest))))))
 exact c6 () p7 K8
 refine AV (m' :=3479) (sk v0) I .plain I (Aq (cs:=(aa t0)) I I (ac (H0.memA .hd) 16 16)) ?_
 have q7:St _ _ (.cells b0 (aa u0 ++ aa t0 ++ aa q0 ++ aa c0 ++ aa j0 ++ aa g0 ++ (ap:La Vc)) 87 :: .cells k0 (aa s0) 46 :: .cells d0 aq 87 :: .cells p0 [vI x0] 85 :: T9):=H0.arr2 (.one .hd (.one .hd (.one .hd (.one .t1 (.drop .hd .rest)))))
 have M8:Tr Y1 _ Y1 (.cells b0 (aa u0 ++ aa t0 ++ aa q0 ++ aa c0 ++ aa j0 ++ aa g0 ++ (ap:La Vc)) 87 :: .cells k0 (aa s0) 46 :: .cells d0 aq 87 :: .cells p0 [vI x0] 85 :: T9):=BN (Bx H0 (.one .hd (.one .hd (.one .hd (.one .t1 (.drop .hd .rest))))))
 exact b6 () q7 M8
def co_p (_n:Nat) (a0:Tf):Oa Bool:=
  some (decide (a0.fN.fD.length = 0))
theorem co_c (n:Nat) {L w} (_hL:hl L w) (a0:Tf) {v0_1:Vc} (h0_1:Rep.R w L [v0_1] a0.fN.fD) {v0_3:Vc} (_h0_3:Rep.R w L [v0_3] a0.fD.fD)  {r:Bool} (h:co_p n a0 = some r) :
 Cl 108 #[.agg #[.bool a0.fN.fh,v0_1,.bool a0.fD.fh,v0_3]] w (aj w fun _ u=>u = .bool r):=by
 unfold co_p at h
 refine AK func108 I I I fun _ cs0 hb0=>Ac<|RG.bx (AD w) I I fun k0 d0 b0 g0=>Ag I<|Aa<|Ac<|Ba 0 I<|Ba 1 I<|AY I ((aT (b0.memA .hd) 0) 1 _ I) ?_
 have c0:=Bb h0_1 b0
 have j0:=Bh c0
 refine Ab (Bk (xs:=a0.fN.fD) underlying34 I c0)<|Ab (BZ (i:=a0.fN.fD.length) (j:=0) I I)<|Ag I<|Aa<|Ao I<|Bi hb0 func108 I I ?_
 cases h
 exact b0.gv
def cp_p (n:Nat) (a0:Tf) (a1:Tf):Oa Tf:=
  (aE_p n a0.fN a1.fD).bind fun b0=>(aE_p n a0.fD a1.fN).bind fun c0=>(aR_p n b0 c0).bind fun d0=>some d0
theorem cp_c (n:Nat) {L w} (hL:hl L w) (a0:Tf) {v0_1:Vc} (h0_1:Rep.R w L [v0_1] a0.fN.fD) {v0_3:Vc} (h0_3:Rep.R w L [v0_3] a0.fD.fD) (a1:Tf) {v1_1:Vc} (h1_1:Rep.R w L [v1_1] a1.fN.fD) {v1_3:Vc} (h1_3:Rep.R w L [v1_3] a1.fD.fD)  {r:Tf} (h:cp_p n a0 a1 = some r) :
 Cl 110 #[.agg #[.bool a0.fN.fh,v0_1,.bool a0.fD.fh,v0_3],.agg #[.bool a1.fN.fh,v1_1,.bool a1.fD.fh,v1_3]] w (aj w fun w' u=>∃ v0_1 v0_3:Vc,u = .agg #[.bool r.fN.fh,v0_1,.bool r.fD.fh,v0_3]/\Rep.R w' L [v0_1] r.fN.fD/\Rep.R w' L [v0_3] r.fD.fD):=by
 unfold cp_p at h
 refine AK func110 I I I fun _ cs0 hb0=>Ac<|RG.bx (AD w) I I fun g1 M0 x0 R0=>RG.bx x0 I I fun j1 P0 y0 U0=>RG.nl [.bool false,vN,.bool false,vN] y0 fun k1 Q0 c0 V0=>Aa<|Aj<|du 11 fun b0 d0=>Rv 0 b0 I d0 (fun _=>AS 0 I)<|Rx 1 3600 b0 I d0 (Aq (cs:=[.bool a0.fN.fh,v0_1]) I I (ac (c0.memA .t2) 0 2))<|Rv 2 b0 I d0 (fun _=>AS 2 I)<|Rx 3 3600 b0 I d0 (Aq (cs:=[.bool a1.fD.fh,v1_3]) I I (ac (c0.memA .t1) 2 2))<|Rv 5 b0 I d0 (fun _=>AS 2 I)<|Rx 6 3584 b0 I d0 (Aq (cs:=[.bool a0.fD.fh,v0_3]) I I (ac (c0.memA .t2) 2 2))<|Rv 7 b0 I d0 (fun _=>AS 0 I)<|Rx 8 3584 b0 I d0 (Aq (cs:=[.bool a1.fN.fh,v1_1]) I I (ac (c0.memA .t1) 0 2))<|bk h fun J0 G0 h=>Bp 4 511 b0 I .plain (bd 141) I (e2 I I) (fun p q=>aE_c n (c0.hL hL q) a0.fN (c0.km h0_1 q) a1.fD (c0.km h1_3 q) G0) I fun p1 b1 B0 ⟨Y0,hu_,E0⟩=>?_
 subst hu_
 obtain ⟨g0,W0⟩:=c0.agr B0
 refine bk h fun K0 H0 h=>Bp 9 1023 b0 I .plain (bd 141) I (e2 I I) (fun p q=>aE_c n (g0.hL hL q) a0.fD (g0.km h0_3 q) a1.fN (g0.km h1_1 q) H0) I fun q1 c1 C0 ⟨Z0,hu_,F0⟩=>?_
 subst hu_
 obtain ⟨s0,A0⟩:=g0.agr C0
 refine bk h fun k0 I0 h=>Bp 10 2047 b0 I .plain (bd 140) I (e2 I I) (fun p q=>aR_c n (s0.hL hL q) J0 (Ar (Ap E0 A0) q) K0 (Ar F0 q) I0) I fun s1 d1 D0 ⟨p0,q0,hu_,u0,v0⟩=>?_
 subst hu_
 obtain ⟨z0,X0⟩:=s0.agr D0
 refine Bv 11 4095 b0 I I .plain (Ax (news:=[.bool k0.fN.fh,p0,.bool k0.fD.fh,q0]) z0 .hd I I I I I I (o4 I (AX u0) I (AX v0))) fun u1 j0 t0=>AO (dk b0)<|Ao I<|Au hb0 func110 I (.cons (.many (cs:=[.bool k0.fN.fh,p0,.bool k0.fD.fh,q0]) I I (j0.memA .hd)) .nil) I ?_
 cases h
 exact ⟨j0.ag,fun p q=>⟨p0,q0,I,j0.kd (Ap u0 t0) q,j0.kd (Ap v0 t0) q⟩⟩
def bY_p (n:Nat) (a0:Ta) (a1:Ta):Oa (Ta × Int):=
  (au_p n a0).bind fun d0=>(if d0 = true then (au_p n a1).bind fun g0=>(if g0 = true then (aI_p n a1).bind fun b0=>(co_p n b0).bind fun j0=>(if j0 = true then some ((⟨(0,0,0,0,0,0,0,0),(0,0,0,0,0,0,0,0)⟩:Ta),(7:Int)) else (aI_p n a0).bind fun k0=>(cp_p n k0 b0).bind fun p0=>(aZ_p n p0).bind fun c0=>some (c0.1,c0.2)) else some ((⟨(0,0,0,0,0,0,0,0),(0,0,0,0,0,0,0,0)⟩:Ta),(20:Int))) else some ((⟨(0,0,0,0,0,0,0,0),(0,0,0,0,0,0,0,0)⟩:Ta),(20:Int)))
theorem bY_c (n:Nat) {L w} (hL:hl L w) (a0:Ta) (a1:Ta)  {r:Ta × Int} (h:bY_p n a0 a1 = some r) :
 Cl 72 #[.agg ((aa a0)).toArray,.agg ((aa a1)).toArray] w (aj w fun _ u=>u = .tuple #[.agg ((aa r.1)).toArray,vI r.2]):=by
 unfold bY_p at h
 refine AK func72 I I I fun _ cs0 hb0=>Ac<|RG.bx (AD w) I I fun V1 v1 F0 A1=>RG.bx F0 I I fun W1 x1 G0 B1=>RG.nl ae G0 fun X1 y1 c0 C1=>Ag I<|Aa<|Aj<|Ac<|Ab (AC I (c0.memA .t2))<|bk h fun k1 W0 h=>Bm (.bool k1) (bd 106) I (e1 I) (fun p q=>au_c n (c0.hL0 hL q) a0 W0) I<|Ab (Bz I)<|Ae I<|RG.ifnb (s:=10) I h (fun C0 h=>?_) (fun C0 h=>?_)
 refine AH (AC I (c0.memA .t1))<|bk h fun p1 X0 h=>RG.callq' (v:=.bool p1) (fst:=[]) (cap:=[]) (.yes I I) (bd 106) I (e1 I) (fun p q=>au_c n (c0.hL0 hL q) a1 X0) I<|AH (Bz I)<|By I I<|Aa<|MX.ifnb I h (fun D0 h=>?_) (fun D0 h=>?_)
 refine Az<|Ac<|Ab (AC I (c0.memA .t1))<|bk h fun p0 Y0 h=>jE (bd 107) I (e1 I) (fun p q=>aI_c n (c0.hL hL q) a1 Y0) I fun Y1 Q1 K0 ⟨g1,j1,hu_,t0,u0⟩=>?_
 subst hu_
 obtain ⟨H0,D1⟩:=c0.agr K0
 refine RG.nl [.bool false,vN,.bool false,vN] H0 fun Z1 z1 I0 j0=>AW [.bool p0.fN.fh,g1,.bool p0.fD.fh,j1] I0 .hd (o4 I (AX (Ap t0 j0)) I (AX (Ap u0 j0))) fun b2 d0 s0=>Aa<|Aj<|Ac<|Ab (AC I (d0.memA .hd))<|bk h fun q1 Z0 h=>Bm (.bool q1) (bd 108) I (e1 I) (fun p q=>co_c n (d0.hL0 hL q) p0 (d0.kd (Ap t0 (Tt j0 s0)) q) (d0.kd (Ap u0 (Tt j0 s0)) q) Z0) I<|Aa<|MX.ifb I h (fun E0 h=>?_) (fun E0 h=>?_)
 refine Ac<|Ab (AP (vs:=[]) (u:=.agg zM) ak (fun p=>by kernel_rfl))<|AW ae d0 .t1 (ai I) fun c2 v0 E1=>Ag I<|Aa<|Ao I<|Au hb0 func72 I (.cons (.many (cs:=ae) I I (v0.memA .t1)) (.cons (.tmp I) .nil)) I ?_
 cases h
 exact v0.gv
 refine Az<|Aj<|du 7 fun b0 g0=>Rx 0 506 b0 I g0 (AC I (d0.memA .t3))<|Rx 2 504 b0 I g0 (AC I (d0.memA .hd))<|bk h fun s1 b1 h=>Bp 1 7 b0 I .plain (bd 107) I (e1 I) (fun p q=>aI_c n (d0.hL hL q) a0 b1) I fun d2 R1 M0 ⟨J1,K1,hu_,Q0,R0⟩=>?_
 subst hu_
 obtain ⟨x0,J0⟩:=d0.agr M0
 refine bk h fun u1 c1 h=>?_
 have B0:=Tt j0 (Tt s0 J0)
 refine Bp 3 15 b0 I .plain (bd 110) I (e2 I I) (fun p q=>cp_c n (x0.hL hL q) s1 (Ar Q0 q) (Ar R0 q) p0 (Ar (Ap t0 B0) q) (Ar (Ap u0 B0) q) c1) I fun g2 U1 P0 ⟨M1,P1,hu_,U0,V0⟩=>?_
 subst hu_
 obtain ⟨k0,F1⟩:=x0.agr P0
 refine bk h fun q0 d1 h=>BQ 4 31 480 (.tuple #[.agg ((aa q0.1)).toArray,vI q0.2]) b0 I g0 (bd 109) I (e1 I) (fun p q=>aZ_c n (k0.hL0 hL q) u1 (k0.kd U0 q) (k0.kd V0 q) d1) I<|Rv 5 b0 I g0 (fun _=>Ai I I)<|Rv 6 b0 I g0 (fun _=>Ai I I)<|Bv 7 255 b0 I I .plain (Ax (news:=(aa q0.1)) k0 .t1 I I I I I I (ai I)) fun j2 y0 G1=>Rv 8 b0 I g0 (fun _=>Bn I)<|AO (dk b0)<|Ao I<|Au hb0 func72 I (.cons (.many (cs:=(aa q0.1)) I I (y0.memA .t1)) (.cons (.tmp I) .nil)) I ?_
 cases h
 exact y0.gv
 refine Ac<|Ab (AP (vs:=[]) (u:=.agg zM) ak (fun p=>by kernel_rfl))<|AW ae c0 .hd (ai I) fun k2 z0 H1=>Ag I<|Aa<|Ao I<|Au hb0 func72 I (.cons (.many (cs:=ae) I I (z0.memA .hd)) (.cons (.tmp I) .nil)) I ?_
 cases h
 exact z0.gv
 refine Aw<|Aw<|Aw<|Bq I I<|Aa<|Bg I<|Ac<|Ab (AP (vs:=[]) (u:=.agg zM) ak (fun p=>by kernel_rfl))<|AW ae c0 .hd (ai I) fun p2 A0 I1=>Ag I<|Aa<|Ao I<|Au hb0 func72 I (.cons (.many (cs:=ae) I I (A0.memA .hd)) (.cons (.tmp I) .nil)) I ?_
 cases h
 exact A0.gv
def ac_p (n:Nat) (a0:Ti) (a1:Ta) (a2:Ta):Oa (Ti × Ta):=
  (if a0.fe = 0 then (bY_p n a1 a2).bind fun b0=>(ax_p n a0 b0.1 b0.2).bind fun c0=>some (c0.1,c0.2) else some (a0,a1))
theorem ac_c (n:Nat) (L:La Nat) {w0 w:World} {T9:La Ob} (hL:∀ b ∈ L,b < w0.heap.size) {p0:Nat} (a0:Ti) (hS0:St w0 w (.cells p0 [vI a0.fe] 85 :: T9)) (a1:Ta) (a2:Ta) {r:Ti × Ta} (h:ac_p n a0 a1 a2 = some r) :
 Cl 32 #[.pointer (some ⟨p0,0,none⟩),.agg ((aa a1)).toArray,.agg ((aa a2)).toArray] w (ee w0 w (.cells p0 [vI a0.fe] 85 :: T9) (.cells p0 [vI r.1.fe] 85 :: T9) (fun _ u=>u = .agg ((aa r.2)).toArray)):=by
 unfold ac_p at h
 refine MX.startL func32 I I I fun _ cs0 hb0=>Ac<|RG.bx hS0 I I fun V0 k0 B0 t0=>RG.bx B0 I I fun W0 q0 C0 u0=>RG.nl ae C0 fun x0 s0 b0 v0=>Aa<|Aj<|Ac<|Ae I<|Ab (BM I)<|Ba 0 I<|AY I ((b0.memA .t3) 0 _ I)<|Ab (FV.neq (i:=a0.fe) (j:=0) I I)<|Aa<|MX.ifn I h (fun A0 h=>?_) (fun A0 h=>?_)
 refine Az<|Ac<|Ae I<|Ab (AC I (b0.memA .t2))<|Ab (AC I (b0.memA .t1))<|bk h fun j0 Q0 h=>Bm (.tuple #[.agg ((aa j0.1)).toArray,vI j0.2]) (bd 72) I (e2 I I) (fun p q=>bY_c n (b0.hL0 hL q) a1 a2 Q0) I<|Ab (Ai I I)<|Ab (Ai I I)<|bk h fun c0 R0 h=>?_
 have D0:St _ _ (.cells p0 [vI a0.fe] 85 :: .cells s0 ae 46 :: .cells q0 (aa a2) 46 :: .cells k0 (aa a1) 46 :: T9):=b0.arr2 (.one .t3 (.one .hd (.one .hd (.one .hd .rest))))
 have H0:Tr x0 _ x0 (.cells p0 [vI a0.fe] 85 :: .cells s0 ae 46 :: .cells q0 (aa a2) 46 :: .cells k0 (aa a1) 46 :: T9):=BN (Bx b0 (.one .t3 (.one .hd (.one .hd (.one .hd .rest)))))
 refine RG.callL (fst:=[]) (cap:=[]) .plain (bd 71) I (e3 I I I) (fun p q=>ax_c n _ hL a0 (D0.agree q) j0.1 R0) I fun X0 U0 E0 I0 hu_=>?_
 subst hu_
 refine AW (aa c0.2) E0 .t1 (ai I) fun y0 d0 J0=>Aa<|Ao I<|Au hb0 func32 I (.cons (.many (cs:=(aa c0.2)) I I (d0.memA .t1)) .nil) I ?_
 have F0:St _ _ (.cells p0 [vI c0.1.fe] 85 :: T9):=d0.arr2 (.one .hd (.drop .hd (.drop .hd (.drop .hd .rest))))
 have K0:Tr y0 _ y0 (.cells p0 [vI c0.1.fe] 85 :: T9):=BN (Bx d0 (.one .hd (.drop .hd (.drop .hd (.drop .hd .rest)))))
 cases h
 exact ⟨F0,(Tt t0 (Tt u0 (Tt v0 (Tt H0 (Tt I0 (Tt J0 K0)))))),fun p q=>rfl⟩
 refine Ac<|Ab (AC I (b0.memA .t2))<|AW (aa a1) b0 .hd (ai I) fun z0 g0 M0=>Aa<|Ao I<|Au hb0 func32 I (.cons (.many (cs:=(aa a1)) I I (g0.memA .hd)) .nil) I ?_
 have G0:St _ _ (.cells p0 [vI a0.fe] 85 :: T9):=g0.arr2 (.one .t3 (.drop .hd (.drop .hd (.drop .hd .rest))))
 have P0:Tr z0 _ z0 (.cells p0 [vI a0.fe] 85 :: T9):=BN (Bx g0 (.one .t3 (.drop .hd (.drop .hd (.drop .hd .rest)))))
 cases h
 exact ⟨G0,(Tt t0 (Tt u0 (Tt v0 (Tt M0 P0)))),fun p q=>rfl⟩

def cq_p (n:Nat) (a0:Te) (a1:Int) (a2:Int):Oa (Ta × Ta × Int):=
  (bD_p n a0 a1 a2).bind fun k0=>(if k0 = 0 then (aj_p n (⟨(0:Int)⟩:Ti) a0 a1 a2).bind fun b0=>(ac_p n b0.1 b0.2.fn b0.2.fd).bind fun d0=>(aa_p n d0.1 d0.2 b0.2.fx).bind fun g0=>(ab_p n g0.1 b0.2.fy g0.2).bind fun j0=>(ac_p n j0.1 j0.2 b0.2.fw).bind fun c0=>(if c0.1.fe = 0 then some (d0.2,c0.2,(0:Int)) else some ((⟨(0,0,0,0,0,0,0,0),(0,0,0,0,0,0,0,0)⟩:Ta),(⟨(0,0,0,0,0,0,0,0),(0,0,0,0,0,0,0,0)⟩:Ta),c0.1.fe)) else some ((⟨(0,0,0,0,0,0,0,0),(0,0,0,0,0,0,0,0)⟩:Ta),(⟨(0,0,0,0,0,0,0,0),(0,0,0,0,0,0,0,0)⟩:Ta),k0))
theorem cq_c (n:Nat) {L w} (hL:hl L w) (a0:Te) {v0_3:Vc} (h0_3:Rep.R w L [v0_3] a0.fv) {a1:Int} {a2:Int}  {r:Ta × Ta × Int} (h:cq_p n a0 a1 a2 = some r) :
 Cl 9 #[.agg #[vI a0.fl,vI a0.fj,vI a0.fm,v0_3],vI a1,vI a2] w (aj w fun _ u=>u = .tuple #[.agg ((aa r.1)).toArray,.agg ((aa r.2.1)).toArray,vI r.2.2]):=by
 unfold cq_p at h
 refine AK func9 I I I fun _ cs0 hb0=>Ac<|RG.bx (AD w) I I fun q8 H7 q5 J7=>RG.nl ae q5 fun u8 q0 u6 V7=>RG.nl ae u6 fun y8 s0 Z1 W7=>Ag I<|Aa<|Aj<|Ac<|Ab (AC I (Z1.memA .t2))<|Ae I<|Ae I<|bk h fun W4 A7 h=>Bm (vI W4) (bd 30) I (e3 I I I) (fun p q=>bD_c n (Z1.hL0 hL q) a0 (Z1.k0 h0_3 q) A7) I<|Ag I<|Aa<|Ac<|Ae I<|Ab (FV.neq (i:=W4) (j:=0) I I)<|Aa<|MX.ifn I h (fun Y4 h=>?_) (fun Y4 h=>?_)
 refine Az<|Ac<|Ab (AP (vs:=[]) (u:=.agg #[vI 0]) ak (fun p=>by kernel_rfl))<|RG.bx Z1 I I fun z8 g0 y3 X7=>Ag I<|Aa<|Ac<|Ae I<|Ab (AC I (y3.memA .t3))<|Ae I<|Ae I<|bk h fun b0 B7 h=>RG.callL (fst:=[]) (cap:=[]) .plain (bd 31) I (e4 I I I I) (fun p q=>aj_c n _ hL (⟨(0:Int)⟩:Ti) (y3.agree q) a0 (Ar (Bb h0_3 y3) q) B7) I fun A8 k8 v6 Y7 hu_=>?_
 subst hu_
 refine RG.nl aq v6 fun B8 p0 x6 Z7=>AW (aa b0.2.fw ++ aa b0.2.fx ++ aa b0.2.fy ++ aa b0.2.fa ++ aa b0.2.fb ++ aa b0.2.fc ++ aa b0.2.fd ++ aa b0.2.fn) x6 .hd (ai I) fun C8 z3 b8=>Aa<|Ac<|Ae I<|Ba 112 I<|Ab (Aq (cs:=(aa b0.2.fn)) I I (ac (z3.memA .hd) 112 16))<|Ba 96 I<|Ab (Aq (cs:=(aa b0.2.fd)) I I (ac (z3.memA .hd) 96 16))<|bk h fun j0 C7 h=>?_
 obtain ⟨y6,c8⟩:=Am z3 (.a1 .d0)
 refine RG.callL (fst:=[]) (cap:=[]) .plain (bd 32) I (e3 I I I) (fun p q=>ac_c n _ hL b0.1 (y6.agree q) b0.2.fn b0.2.fd C7) I fun D8 p8 z6 d8 hu_=>?_
 subst hu_
 refine RG.nl ae z6 fun E8 t0 A6 g8=>AW (aa j0.2) A6 .hd (ai I) fun F8 z0 j8=>Aa<|Aj<|du 8 fun c0 H0=>Rv 0 c0 I H0 (fun _=>Ak I)<|Rv 1 c0 I H0 (fun _=>Ak I)<|Rv 2 c0 I H0 (fun _=>AS 32 I)<|Rv 4 c0 I H0 (fun _=>Ak I)<|Rv 6 c0 I H0 (fun _=>AS 16 I)<|Rv 10 c0 I H0 (fun _=>AS 0 I)<|bk h fun v0 U0 h=>bk h fun A0 Q0 h=>bk h fun g1 P0 h=>BH (α:=Nat) (fun v1=>[(6,vP q0),(7,vP s0),(10,vP g0),(12,vP t0),(13,vP v1),(48,.agg ((aa g1.2)).toArray)]) (fun v1=>[.cells g0 [vI g1.1.fe] 85,.cells v1 ae 46,.cells t0 (aa j0.2) 46,.cells s0 ae 46,.cells q0 ae 46]) z0 1 16383 ?_ ?_
 rintro v1 U8 s5 I7
 try dsimp only
 refine Bv 14 32767 c0 I I .plain (Ax (news:=(aa g1.2)) s5 .t1 I I I I I I (ai I)) fun s8 Z0 K7=>AO (dk c0)<|Aj<|Ac<|Ae I<|Ab (BM I)<|Ba 0 I<|AY I ((Z0.memA .hd) 0 _ I)<|Ab (FV.neq (i:=g1.1.fe) (j:=0) I I)<|Aa<|MX.ifn I h (fun X4 h=>?_) (fun X4 h=>?_)
 refine Az<|Aj<|du 2 fun u1 Y3=>Rx 0 28 u1 I Y3 (AC I (Z0.memA .t2))<|BH (α:=Unit) (fun ()=>[(6,vP q0),(7,vP s0),(61,.agg ((aa g1.2)).toArray)]) (fun ()=>[.cells s0 ae 46,.cells q0 (aa j0.2) 46]) Z0 2 7 ?_ ?_
 rintro ⟨⟩ V8 t5 M7
 try dsimp only
 refine Bv 3 15 u1 I I .plain (Ax (news:=(aa g1.2)) t5 .hd I I I I I I (ai I)) fun t8 k3 P7=>Rv 4 u1 I Y3 (fun _=>Bn I)<|AO (dk u1)<|Ao I<|Au hb0 func9 I (.cons (.many (cs:=(aa j0.2)) I I (k3.memA .t1)) (.cons (.many (cs:=(aa g1.2)) I I (k3.memA .hd)) (.cons (.tmp I) .nil))) I ?_
 cases h
 exact k3.gv
 intro Z3
 refine AM [1,2] (rk u1) ⟨?_,?_,trivial⟩
 refine AV (m' :=3) (sk u1) I .plain I (AC I (Z0.memA .t1))<|Bv 2 7 u1 I I .plain (Ax (news:=(aa j0.2)) Z0 .t4 I I I I I I (ai I)) fun E7 y2 C3=>?_
 obtain ⟨u5,B6⟩:=Am y2 .d3
 exact Z3 () u5 (Tt C3 B6)
 refine RO.now (m' :=5) (sk u1) I I .plain (Ax (news:=(aa j0.2)) Z0 .t4 I I I I I I (ai I)) fun E7 y2 C3=>Rx 1 24 u1 I Y3 (AC I (y2.memA .t1)) ?_
 obtain ⟨v5,C6⟩:=Am y2 .d3
 exact Z3 () v5 (Tt C3 C6)
 refine Aj<|du 6 fun R0 K1=>Rv 0 R0 I K1 (fun _=>AP (vs:=[]) (u:=.agg zM) ak (fun p=>by kernel_rfl))<|Rv 1 R0 I K1 (fun _=>AP (vs:=[]) (u:=.agg zM) ak (fun p=>by kernel_rfl))<|Rv 2 R0 I K1 (fun _=>Ak I)<|Rv 3 R0 I K1 (fun _=>BM I)<|Rv 4 R0 I K1 (fun _=>AS 0 I)<|BH (α:=Unit) (fun ()=>[(6,vP q0),(7,vP s0),(12,vP t0),(13,vP v1),(59,vI g1.1.fe)]) (fun ()=>[.cells v1 (aa g1.2) 46,.cells t0 (aa j0.2) 46,.cells s0 ae 46,.cells q0 ae 46]) Z0 1 255 ?_ ?_
 rintro ⟨⟩ X8 s3 Q7
 try dsimp only
 refine Rv 8 R0 I K1 (fun _=>Bn I)<|AO (dk R0)<|Ao I<|Au hb0 func9 I (.cons (.many (cs:=ae) I I (s3.memA .t3)) (.cons (.many (cs:=ae) I I (s3.memA .t2)) (.cons (.tmp I) .nil))) I ?_
 cases h
 exact s3.gv
 intro K2
 refine BH (α:=Unit) (fun ()=>[(6,vP q0),(7,vP s0),(12,vP t0),(13,vP v1),(55,.agg zM),(58,.pointer (some (Addr.add ⟨g0,0,none⟩ 0)))]) (fun ()=>[.cells g0 [vI g1.1.fe] 85,.cells v1 (aa g1.2) 46,.cells t0 (aa j0.2) 46,.cells s0 ae 46,.cells q0 ae 46]) Z0 3 95 ?_ ?_
 rintro ⟨⟩ W8 q3 M4
 try dsimp only
 refine AM [5,7] (rk R0) ⟨?_,?_,trivial⟩
 refine AV (m' :=127) (sk R0) I .plain I (AN I ((q3.memA .hd) 0 _ I))<|Bv 7 255 R0 I I .plain (Ax (news:=ae) q3 .t3 I I I I I I (ai I)) fun V4 W1 u2=>?_
 obtain ⟨x5,D6⟩:=Am W1 .d1
 exact K2 () x5 (Tt M4 (Tt u2 D6))
 refine RO.now (m' :=223) (sk R0) I I .plain (Ax (news:=ae) q3 .t3 I I I I I I (ai I)) fun V4 W1 u2=>Rx 5 256 R0 I K1 (AN I ((W1.memA .hd) 0 _ I)) ?_
 obtain ⟨y5,E6⟩:=Am W1 .d1
 exact K2 () y5 (Tt M4 (Tt u2 E6))
 intro Z4
 refine AM [5,6] (rk R0) ⟨?_,?_,trivial⟩
 refine AV (m' :=63) (sk R0) I .plain I (AN I ((Z0.memA .hd) 0 _ I))<|Bv 6 127 R0 I I .plain (Ax (news:=ae) Z0 .t4 I I I I I I (ai I)) fun F7 p3 D3=>Bv 7 255 R0 I I .plain (Ax (news:=ae) p3 .t3 I I I I I I (ai I)) fun V4 W1 u2=>?_
 obtain ⟨z5,F6⟩:=Am W1 .d1
 exact K2 () z5 (Tt D3 (Tt u2 F6))
 refine RO.now (m' :=95) (sk R0) I I .plain (Ax (news:=ae) Z0 .t4 I I I I I I (ai I)) fun F7 p3 D3=>Z4 () p3 D3
 intro M0
 refine BH (α:=Unit) (fun ()=>[(6,vP q0),(7,vP s0),(10,vP g0),(12,vP t0),(36,vP g0),(45,.agg ((aa A0.2)).toArray),(47,.agg ((aa b0.2.fw)).toArray)]) (fun ()=>[.cells g0 [vI A0.1.fe] 85,.cells t0 (aa j0.2) 46,.cells s0 ae 46,.cells q0 ae 46]) z0 3 4095 ?_ ?_
 rintro ⟨⟩ R8 B4 K4
 try dsimp only
 refine AM [12,13] (rk c0) ⟨?_,?_,trivial⟩
 refine AQ (m' :=8191) (fst:=[]) (cap:=[]) (sk c0) I I .plain (bd 32) I (e3 I I I) (fun p q=>ac_c n _ hL A0.1 (B4.agree q) A0.2 b0.2.fw P0) I fun Y0 W0 D0 G0 hu_=>?_
 subst hu_
 refine Ca 13 16383 c0 I .plain I (Al ae D0) fun K0 x0 u0 y0=>?_
 obtain ⟨A5,G6⟩:=Am u0 (.a1 .d0)
 exact M0 x0 A5 (Tt K4 (Tt G0 (Tt y0 G6)))
 refine Bf (m' :=12287) (sk c0) I .plain I (Al ae B4) fun K0 x0 u0 y0=>?_
 obtain ⟨v3,E3⟩:=Am u0 (.a1 .d0)
 refine AT (i:=12) (rk c0) (AQ (m' :=16383) (fst:=[]) (cap:=[]) (sk c0) I I .plain (bd 32) I (e3 I I I) (fun p q=>ac_c n _ hL A0.1 (v3.agree q) A0.2 b0.2.fw P0) I (fun G7 D7 x3 F3 hu_=>?_))
 subst hu_
 exact M0 x0 x3 (Tt K4 (Tt y0 (Tt E3 F3)))
 intro b4
 refine BH (α:=Nat) (fun R1=>[(6,vP q0),(7,vP s0),(10,vP g0),(12,vP t0),(36,vP g0),(37,vP g0),(46,.pointer (some (Addr.add ⟨p0,0,none⟩ 0))),(39,.agg ((aa b0.2.fy)).toArray),(44,.agg ((aa v0.2)).toArray),(13,vP R1)]) (fun R1=>[.cells R1 ae 46,.cells g0 [vI v0.1.fe] 85,.cells t0 (aa j0.2) 46,.cells p0 (aa b0.2.fw ++ aa b0.2.fx ++ aa b0.2.fy ++ aa b0.2.fa ++ aa b0.2.fb ++ aa b0.2.fc ++ aa b0.2.fd ++ aa b0.2.fn) 87,.cells s0 ae 46,.cells q0 ae 46]) z0 4 9727 ?_ ?_
 rintro R1 Q8 j3 J4
 try dsimp only
 refine AM [9,11] (rk c0) ⟨?_,?_,trivial⟩
 obtain ⟨p1,q1⟩:=Am j3 (.a1 .d0)
 refine AQ (m' :=10239) (fst:=[]) (cap:=[]) (sk c0) I I .plain (bd 33) I (e3 I I I) (fun p q=>ab_c n _ hL v0.1 (p1.agree q) b0.2.fy v0.2 Q0) I fun J2 I2 j1 s1 hu_=>?_
 subst hu_
 refine AT (i:=11) (rk c0) (AV (m' :=12287) (sk c0) I .plain I (Aq (cs:=(aa b0.2.fw)) I I (ac (j1.memA .t3) 0 16)) ?_)
 refine AT (i:=12) (rk c0) (AQ (m' :=16383) (fst:=[]) (cap:=[]) (sk c0) I I .plain (bd 32) I (e3 I I I) (fun p q=>ac_c n _ hL A0.1 (j1.agree q) A0.2 b0.2.fw P0) I (fun Y0 W0 D0 G0 hu_=>?_))
 subst hu_
 obtain ⟨B5,H6⟩:=Am D0 (.a0 (.a0 (.a0 .d1)))
 exact M0 R1 B5 (Tt J4 (Tt q1 (Tt s1 (Tt G0 H6))))
 refine AV (m' :=11775) (sk c0) I .plain I (Aq (cs:=(aa b0.2.fw)) I I (ac (j3.memA .t3) 0 16)) ?_
 obtain ⟨p1,q1⟩:=Am j3 (.a1 .d0)
 refine AT (i:=9) (rk c0) (AQ (m' :=12287) (fst:=[]) (cap:=[]) (sk c0) I I .plain (bd 33) I (e3 I I I) (fun p q=>ab_c n _ hL v0.1 (p1.agree q) b0.2.fy v0.2 Q0) I (fun J2 I2 j1 s1 hu_=>?_))
 subst hu_
 refine AT (i:=12) (rk c0) (AQ (m' :=16383) (fst:=[]) (cap:=[]) (sk c0) I I .plain (bd 32) I (e3 I I I) (fun p q=>ac_c n _ hL A0.1 (j1.agree q) A0.2 b0.2.fw P0) I (fun Y0 W0 D0 G0 hu_=>?_))
 subst hu_
 obtain ⟨C5,I6⟩:=Am D0 (.a0 (.a0 (.a0 .d1)))
 exact M0 R1 C5 (Tt J4 (Tt q1 (Tt s1 (Tt G0 I6))))
 intro M2
 refine BH (α:=Unit) (fun ()=>[(6,vP q0),(7,vP s0),(10,vP g0),(12,vP t0),(36,vP g0),(37,vP g0),(39,.agg ((aa b0.2.fy)).toArray),(44,.agg ((aa v0.2)).toArray),(47,.agg ((aa b0.2.fw)).toArray)]) (fun ()=>[.cells g0 [vI v0.1.fe] 85,.cells t0 (aa j0.2) 46,.cells s0 ae 46,.cells q0 ae 46]) z0 4 3583 ?_ ?_
 rintro ⟨⟩ P8 A4 I4
 try dsimp only
 refine AM [9,13] (rk c0) ⟨?_,?_,trivial⟩
 refine AQ (m' :=4095) (fst:=[]) (cap:=[]) (sk c0) I I .plain (bd 33) I (e3 I I I) (fun p q=>ab_c n _ hL v0.1 (A4.agree q) b0.2.fy v0.2 Q0) I fun c1 b1 I0 J0 hu_=>?_
 subst hu_
 exact b4 () I0 (Tt I4 J0)
 refine Bf (m' :=11775) (sk c0) I .plain I (Al ae A4) fun K0 x0 u0 y0=>?_
 obtain ⟨p1,q1⟩:=Am u0 (.a1 .d0)
 refine AT (i:=9) (rk c0) (AQ (m' :=12287) (fst:=[]) (cap:=[]) (sk c0) I I .plain (bd 33) I (e3 I I I) (fun p q=>ab_c n _ hL v0.1 (p1.agree q) b0.2.fy v0.2 Q0) I (fun J2 I2 j1 s1 hu_=>?_))
 subst hu_
 refine AT (i:=12) (rk c0) (AQ (m' :=16383) (fst:=[]) (cap:=[]) (sk c0) I I .plain (bd 32) I (e3 I I I) (fun p q=>ac_c n _ hL A0.1 (j1.agree q) A0.2 b0.2.fw P0) I (fun Y0 W0 D0 G0 hu_=>?_))
 subst hu_
 exact M0 x0 D0 (Tt I4 (Tt y0 (Tt q1 (Tt s1 G0))))
 intro P2
 refine BH (α:=Unit) (fun ()=>[(6,vP q0),(7,vP s0),(10,vP g0),(12,vP t0),(36,vP g0),(46,.pointer (some (Addr.add ⟨p0,0,none⟩ 0))),(45,.agg ((aa A0.2)).toArray)]) (fun ()=>[.cells g0 [vI A0.1.fe] 85,.cells t0 (aa j0.2) 46,.cells p0 (aa b0.2.fw ++ aa b0.2.fx ++ aa b0.2.fy ++ aa b0.2.fa ++ aa b0.2.fb ++ aa b0.2.fc ++ aa b0.2.fd ++ aa b0.2.fn) 87,.cells s0 ae 46,.cells q0 ae 46]) z0 4 2047 ?_ ?_
 rintro ⟨⟩ M8 g3 H4
 try dsimp only
 refine AM [11,13] (rk c0) ⟨?_,?_,trivial⟩
 refine AV (m' :=4095) (sk c0) I .plain I (Aq (cs:=(aa b0.2.fw)) I I (ac (g3.memA .t2) 0 16)) ?_
 obtain ⟨D5,J6⟩:=Am g3 (.a0 (.a0 .d1))
 exact b4 () D5 (Tt H4 J6)
 refine Bf (m' :=10239) (sk c0) I .plain I (Al ae g3) fun K0 x0 u0 y0=>AT (i:=11) (rk c0) (AV (m' :=12287) (sk c0) I .plain I (Aq (cs:=(aa b0.2.fw)) I I (ac (u0.memA .t3) 0 16)) ?_)
 obtain ⟨v3,E3⟩:=Am u0 (.a1 .d0)
 refine AT (i:=12) (rk c0) (AQ (m' :=16383) (fst:=[]) (cap:=[]) (sk c0) I I .plain (bd 32) I (e3 I I I) (fun p q=>ac_c n _ hL A0.1 (v3.agree q) A0.2 b0.2.fw P0) I (fun G7 D7 x3 F3 hu_=>?_))
 subst hu_
 obtain ⟨E5,K6⟩:=Am x3 (.a0 (.a0 (.a0 .d1)))
 exact M0 x0 E5 (Tt H4 (Tt y0 (Tt E3 (Tt F3 K6))))
 intro b5
 refine BH (α:=Nat) (fun Q1=>[(6,vP q0),(7,vP s0),(10,vP g0),(12,vP t0),(36,vP g0),(37,vP g0),(38,.pointer (some (Addr.add ⟨p0,0,none⟩ 32))),(40,vP g0),(47,.agg ((aa b0.2.fw)).toArray),(13,vP Q1),(41,.agg ((aa j0.2)).toArray),(43,.agg ((aa b0.2.fx)).toArray)]) (fun Q1=>[.cells Q1 ae 46,.cells t0 (aa j0.2) 46,.cells g0 [vI j0.1.fe] 85,.cells p0 (aa b0.2.fw ++ aa b0.2.fx ++ aa b0.2.fy ++ aa b0.2.fa ++ aa b0.2.fb ++ aa b0.2.fc ++ aa b0.2.fd ++ aa b0.2.fn) 87,.cells s0 ae 46,.cells q0 ae 46]) z0 5 11511 ?_ ?_
 rintro Q1 K8 c3 G4
 try dsimp only
 refine AM [3,8] (rk c0) ⟨?_,?_,trivial⟩
 refine AV (m' :=11519) (sk c0) I .plain I (Aq (cs:=(aa b0.2.fy)) I I (ac (c3.memA .t3) 32 16)) ?_
 obtain ⟨C0,E0⟩:=Am c3 (.a2 .d0)
 refine AT (i:=8) (rk c0) (AQ (m' :=11775) (fst:=[]) (cap:=[]) (sk c0) I I .plain (bd 34) I (e3 I I I) (fun p q=>aa_c n _ hL j0.1 (C0.agree q) j0.2 b0.2.fx U0) I (fun X0 V0 B0 F0 hu_=>?_))
 subst hu_
 refine AT (i:=9) (rk c0) (AQ (m' :=12287) (fst:=[]) (cap:=[]) (sk c0) I I .plain (bd 33) I (e3 I I I) (fun p q=>ab_c n _ hL v0.1 (B0.agree q) b0.2.fy v0.2 Q0) I (fun c1 b1 I0 J0 hu_=>?_))
 subst hu_
 refine AT (i:=12) (rk c0) (AQ (m' :=16383) (fst:=[]) (cap:=[]) (sk c0) I I .plain (bd 32) I (e3 I I I) (fun p q=>ac_c n _ hL A0.1 (I0.agree q) A0.2 b0.2.fw P0) I (fun Y0 W0 D0 G0 hu_=>?_))
 subst hu_
 obtain ⟨F5,M6⟩:=Am D0 (.a0 (.a0 (.a0 .d1)))
 exact M0 Q1 F5 (Tt G4 (Tt E0 (Tt F0 (Tt J0 (Tt G0 M6)))))
 obtain ⟨C0,E0⟩:=Am c3 (.a2 .d0)
 refine AQ (m' :=11767) (fst:=[]) (cap:=[]) (sk c0) I I .plain (bd 34) I (e3 I I I) (fun p q=>aa_c n _ hL j0.1 (C0.agree q) j0.2 b0.2.fx U0) I fun X0 V0 B0 F0 hu_=>?_
 subst hu_
 refine Rx 3 20992 c0 I H0 (Aq (cs:=(aa b0.2.fy)) I I (ac (B0.memA .t3) 32 16))<|AT (i:=9) (rk c0) (AQ (m' :=12287) (fst:=[]) (cap:=[]) (sk c0) I I .plain (bd 33) I (e3 I I I) (fun p q=>ab_c n _ hL v0.1 (B0.agree q) b0.2.fy v0.2 Q0) I (fun c1 b1 I0 J0 hu_=>?_))
 subst hu_
 refine AT (i:=12) (rk c0) (AQ (m' :=16383) (fst:=[]) (cap:=[]) (sk c0) I I .plain (bd 32) I (e3 I I I) (fun p q=>ac_c n _ hL A0.1 (I0.agree q) A0.2 b0.2.fw P0) I (fun Y0 W0 D0 G0 hu_=>?_))
 subst hu_
 obtain ⟨G5,P6⟩:=Am D0 (.a0 (.a0 (.a0 .d1)))
 exact M0 Q1 G5 (Tt G4 (Tt E0 (Tt F0 (Tt J0 (Tt G0 P6)))))
 intro y1
 refine BH (α:=Nat) (fun P1=>[(6,vP q0),(7,vP s0),(10,vP g0),(12,vP t0),(36,vP g0),(37,vP g0),(38,.pointer (some (Addr.add ⟨p0,0,none⟩ 32))),(46,.pointer (some (Addr.add ⟨p0,0,none⟩ 0))),(44,.agg ((aa v0.2)).toArray),(13,vP P1)]) (fun P1=>[.cells P1 ae 46,.cells g0 [vI v0.1.fe] 85,.cells t0 (aa j0.2) 46,.cells p0 (aa b0.2.fw ++ aa b0.2.fx ++ aa b0.2.fy ++ aa b0.2.fa ++ aa b0.2.fb ++ aa b0.2.fc ++ aa b0.2.fd ++ aa b0.2.fn) 87,.cells s0 ae 46,.cells q0 ae 46]) z0 5 9719 ?_ ?_
 rintro P1 J8 Y1 F4
 try dsimp only
 refine AM [3,11] (rk c0) ⟨?_,?_,trivial⟩
 refine AV (m' :=9727) (sk c0) I .plain I (Aq (cs:=(aa b0.2.fy)) I I (ac (Y1.memA .t3) 32 16))<|M2 P1 Y1 F4
 refine AV (m' :=11767) (sk c0) I .plain I (Aq (cs:=(aa b0.2.fw)) I I (ac (Y1.memA .t3) 0 16))<|Rx 3 20992 c0 I H0 (Aq (cs:=(aa b0.2.fy)) I I (ac (Y1.memA .t3) 32 16)) ?_
 obtain ⟨p1,q1⟩:=Am Y1 (.a1 .d0)
 refine AT (i:=9) (rk c0) (AQ (m' :=12287) (fst:=[]) (cap:=[]) (sk c0) I I .plain (bd 33) I (e3 I I I) (fun p q=>ab_c n _ hL v0.1 (p1.agree q) b0.2.fy v0.2 Q0) I (fun J2 I2 j1 s1 hu_=>?_))
 subst hu_
 refine AT (i:=12) (rk c0) (AQ (m' :=16383) (fst:=[]) (cap:=[]) (sk c0) I I .plain (bd 32) I (e3 I I I) (fun p q=>ac_c n _ hL A0.1 (j1.agree q) A0.2 b0.2.fw P0) I (fun Y0 W0 D0 G0 hu_=>?_))
 subst hu_
 obtain ⟨H5,Q6⟩:=Am D0 (.a0 (.a0 (.a0 .d1)))
 exact M0 P1 H5 (Tt F4 (Tt q1 (Tt s1 (Tt G0 Q6))))
 intro c4
 refine BH (α:=Nat) (fun M1=>[(6,vP q0),(7,vP s0),(10,vP g0),(12,vP t0),(36,vP g0),(37,vP g0),(40,vP g0),(46,.pointer (some (Addr.add ⟨p0,0,none⟩ 0))),(39,.agg ((aa b0.2.fy)).toArray),(41,.agg ((aa j0.2)).toArray),(43,.agg ((aa b0.2.fx)).toArray),(13,vP M1)]) (fun M1=>[.cells M1 ae 46,.cells t0 (aa j0.2) 46,.cells g0 [vI j0.1.fe] 85,.cells p0 (aa b0.2.fw ++ aa b0.2.fx ++ aa b0.2.fy ++ aa b0.2.fa ++ aa b0.2.fb ++ aa b0.2.fc ++ aa b0.2.fd ++ aa b0.2.fn) 87,.cells s0 ae 46,.cells q0 ae 46]) z0 5 9471 ?_ ?_
 rintro M1 I8 b3 E4
 try dsimp only
 refine AM [8,11] (rk c0) ⟨?_,?_,trivial⟩
 obtain ⟨C0,E0⟩:=Am b3 (.a2 .d0)
 refine AQ (m' :=9727) (fst:=[]) (cap:=[]) (sk c0) I I .plain (bd 34) I (e3 I I I) (fun p q=>aa_c n _ hL j0.1 (C0.agree q) j0.2 b0.2.fx U0) I fun X0 V0 B0 F0 hu_=>?_
 subst hu_
 obtain ⟨I5,R6⟩:=Am B0 (.a1 .d0)
 exact M2 M1 I5 (Tt E4 (Tt E0 (Tt F0 R6)))
 refine AV (m' :=11519) (sk c0) I .plain I (Aq (cs:=(aa b0.2.fw)) I I (ac (b3.memA .t3) 0 16)) ?_
 obtain ⟨C0,E0⟩:=Am b3 (.a2 .d0)
 refine AT (i:=8) (rk c0) (AQ (m' :=11775) (fst:=[]) (cap:=[]) (sk c0) I I .plain (bd 34) I (e3 I I I) (fun p q=>aa_c n _ hL j0.1 (C0.agree q) j0.2 b0.2.fx U0) I (fun X0 V0 B0 F0 hu_=>?_))
 subst hu_
 refine AT (i:=9) (rk c0) (AQ (m' :=12287) (fst:=[]) (cap:=[]) (sk c0) I I .plain (bd 33) I (e3 I I I) (fun p q=>ab_c n _ hL v0.1 (B0.agree q) b0.2.fy v0.2 Q0) I (fun c1 b1 I0 J0 hu_=>?_))
 subst hu_
 refine AT (i:=12) (rk c0) (AQ (m' :=16383) (fst:=[]) (cap:=[]) (sk c0) I I .plain (bd 32) I (e3 I I I) (fun p q=>ac_c n _ hL A0.1 (I0.agree q) A0.2 b0.2.fw P0) I (fun Y0 W0 D0 G0 hu_=>?_))
 subst hu_
 obtain ⟨J5,U6⟩:=Am D0 (.a0 (.a0 (.a0 .d1)))
 exact M0 M1 J5 (Tt E4 (Tt E0 (Tt F0 (Tt J0 (Tt G0 U6)))))
 intro v2
 refine BH (α:=Unit) (fun ()=>[(6,vP q0),(7,vP s0),(10,vP g0),(12,vP t0),(36,vP g0),(37,vP g0),(38,.pointer (some (Addr.add ⟨p0,0,none⟩ 32))),(44,.agg ((aa v0.2)).toArray),(47,.agg ((aa b0.2.fw)).toArray)]) (fun ()=>[.cells g0 [vI v0.1.fe] 85,.cells t0 (aa j0.2) 46,.cells p0 (aa b0.2.fw ++ aa b0.2.fx ++ aa b0.2.fy ++ aa b0.2.fa ++ aa b0.2.fb ++ aa b0.2.fc ++ aa b0.2.fd ++ aa b0.2.fn) 87,.cells s0 ae 46,.cells q0 ae 46]) z0 5 3575 ?_ ?_
 rintro ⟨⟩ H8 Z2 D4
 try dsimp only
 refine AM [3,13] (rk c0) ⟨?_,?_,trivial⟩
 refine AV (m' :=3583) (sk c0) I .plain I (Aq (cs:=(aa b0.2.fy)) I I (ac (Z2.memA .t2) 32 16)) ?_
 obtain ⟨K5,V6⟩:=Am Z2 (.a0 (.a0 .d1))
 exact P2 () K5 (Tt D4 V6)
 refine Bf (m' :=11767) (sk c0) I .plain I (Al ae Z2) fun K0 x0 u0 y0=>Rx 3 20992 c0 I H0 (Aq (cs:=(aa b0.2.fy)) I I (ac (u0.memA .t3) 32 16)) ?_
 obtain ⟨p1,q1⟩:=Am u0 (.a1 .d0)
 refine AT (i:=9) (rk c0) (AQ (m' :=12287) (fst:=[]) (cap:=[]) (sk c0) I I .plain (bd 33) I (e3 I I I) (fun p q=>ab_c n _ hL v0.1 (p1.agree q) b0.2.fy v0.2 Q0) I (fun J2 I2 j1 s1 hu_=>?_))
 subst hu_
 refine AT (i:=12) (rk c0) (AQ (m' :=16383) (fst:=[]) (cap:=[]) (sk c0) I I .plain (bd 32) I (e3 I I I) (fun p q=>ac_c n _ hL A0.1 (j1.agree q) A0.2 b0.2.fw P0) I (fun Y0 W0 D0 G0 hu_=>?_))
 subst hu_
 obtain ⟨M5,W6⟩:=Am D0 (.a0 (.a0 (.a0 .d1)))
 exact M0 x0 M5 (Tt D4 (Tt y0 (Tt q1 (Tt s1 (Tt G0 W6)))))
 intro d4
 refine BH (α:=Unit) (fun ()=>[(6,vP q0),(7,vP s0),(10,vP g0),(12,vP t0),(36,vP g0),(37,vP g0),(40,vP g0),(39,.agg ((aa b0.2.fy)).toArray),(41,.agg ((aa j0.2)).toArray),(43,.agg ((aa b0.2.fx)).toArray),(47,.agg ((aa b0.2.fw)).toArray)]) (fun ()=>[.cells t0 (aa j0.2) 46,.cells g0 [vI j0.1.fe] 85,.cells s0 ae 46,.cells q0 ae 46]) z0 5 3327 ?_ ?_
 rintro ⟨⟩ G8 z4 C4
 try dsimp only
 refine AM [8,13] (rk c0) ⟨?_,?_,trivial⟩
 obtain ⟨C0,E0⟩:=Am z4 (.a1 .d0)
 refine AQ (m' :=3583) (fst:=[]) (cap:=[]) (sk c0) I I .plain (bd 34) I (e3 I I I) (fun p q=>aa_c n _ hL j0.1 (C0.agree q) j0.2 b0.2.fx U0) I fun X0 V0 B0 F0 hu_=>?_
 subst hu_
 exact P2 () B0 (Tt C4 (Tt E0 F0))
 refine Bf (m' :=11519) (sk c0) I .plain I (Al ae z4) fun K0 x0 u0 y0=>?_
 obtain ⟨C0,E0⟩:=Am u0 (.a2 .d0)
 refine AT (i:=8) (rk c0) (AQ (m' :=11775) (fst:=[]) (cap:=[]) (sk c0) I I .plain (bd 34) I (e3 I I I) (fun p q=>aa_c n _ hL j0.1 (C0.agree q) j0.2 b0.2.fx U0) I (fun X0 V0 B0 F0 hu_=>?_))
 subst hu_
 refine AT (i:=9) (rk c0) (AQ (m' :=12287) (fst:=[]) (cap:=[]) (sk c0) I I .plain (bd 33) I (e3 I I I) (fun p q=>ab_c n _ hL v0.1 (B0.agree q) b0.2.fy v0.2 Q0) I (fun c1 b1 I0 J0 hu_=>?_))
 subst hu_
 refine AT (i:=12) (rk c0) (AQ (m' :=16383) (fst:=[]) (cap:=[]) (sk c0) I I .plain (bd 32) I (e3 I I I) (fun p q=>ac_c n _ hL A0.1 (I0.agree q) A0.2 b0.2.fw P0) I (fun Y0 W0 D0 G0 hu_=>?_))
 subst hu_
 exact M0 x0 D0 (Tt C4 (Tt y0 (Tt E0 (Tt F0 (Tt J0 G0)))))
 intro x2
 refine BH (α:=Unit) (fun ()=>[(6,vP q0),(7,vP s0),(10,vP g0),(12,vP t0),(36,vP g0),(37,vP g0),(46,.pointer (some (Addr.add ⟨p0,0,none⟩ 0))),(39,.agg ((aa b0.2.fy)).toArray),(44,.agg ((aa v0.2)).toArray)]) (fun ()=>[.cells g0 [vI v0.1.fe] 85,.cells t0 (aa j0.2) 46,.cells p0 (aa b0.2.fw ++ aa b0.2.fx ++ aa b0.2.fy ++ aa b0.2.fa ++ aa b0.2.fb ++ aa b0.2.fc ++ aa b0.2.fd ++ aa b0.2.fn) 87,.cells s0 ae 46,.cells q0 ae 46]) z0 5 1535 ?_ ?_
 rintro ⟨⟩ F9 B2 X3
 try dsimp only
 refine AM [9,11,13] (rk c0) ⟨?_,?_,?_,trivial⟩
 refine AQ (m' :=2047) (fst:=[]) (cap:=[]) (sk c0) I I .plain (bd 33) I (e3 I I I) (fun p q=>ab_c n _ hL v0.1 (B2.agree q) b0.2.fy v0.2 Q0) I fun c1 b1 I0 J0 hu_=>?_
 subst hu_
 exact b5 () I0 (Tt X3 J0)
 refine AV (m' :=3583) (sk c0) I .plain I (Aq (cs:=(aa b0.2.fw)) I I (ac (B2.memA .t2) 0 16)) ?_
 obtain ⟨P5,X6⟩:=Am B2 (.a0 (.a0 .d1))
 exact P2 () P5 (Tt X3 X6)
 refine Bf (m' :=9727) (sk c0) I .plain I (Al ae B2) fun K0 x0 u0 y0=>M2 x0 u0 (Tt X3 y0)
 intro g4
 refine BH (α:=Nat) (fun D1=>[(6,vP q0),(7,vP s0),(10,vP g0),(12,vP t0),(36,vP g0),(37,vP g0),(38,.pointer (some (Addr.add ⟨p0,0,none⟩ 32))),(40,vP g0),(46,.pointer (some (Addr.add ⟨p0,0,none⟩ 0))),(41,.agg ((aa j0.2)).toArray),(43,.agg ((aa b0.2.fx)).toArray),(13,vP D1)]) (fun D1=>[.cells D1 ae 46,.cells t0 (aa j0.2) 46,.cells g0 [vI j0.1.fe] 85,.cells p0 (aa b0.2.fw ++ aa b0.2.fx ++ aa b0.2.fy ++ aa b0.2.fa ++ aa b0.2.fb ++ aa b0.2.fc ++ aa b0.2.fd ++ aa b0.2.fn) 87,.cells s0 ae 46,.cells q0 ae 46]) z0 6 9463 ?_ ?_
 rintro D1 E9 s2 W3
 try dsimp only
 refine AM [3,8,11] (rk c0) ⟨?_,?_,?_,trivial⟩
 refine AV (m' :=9471) (sk c0) I .plain I (Aq (cs:=(aa b0.2.fy)) I I (ac (s2.memA .t3) 32 16))<|v2 D1 s2 W3
 obtain ⟨C0,E0⟩:=Am s2 (.a2 .d0)
 refine AQ (m' :=9719) (fst:=[]) (cap:=[]) (sk c0) I I .plain (bd 34) I (e3 I I I) (fun p q=>aa_c n _ hL j0.1 (C0.agree q) j0.2 b0.2.fx U0) I fun X0 V0 B0 F0 hu_=>?_
 subst hu_
 obtain ⟨Q5,Y6⟩:=Am B0 (.a1 .d0)
 exact c4 D1 Q5 (Tt W3 (Tt E0 (Tt F0 Y6)))
 refine AV (m' :=11511) (sk c0) I .plain I (Aq (cs:=(aa b0.2.fw)) I I (ac (s2.memA .t3) 0 16))<|y1 D1 s2 W3
 intro Q2
 refine BH (α:=Nat) (fun V1=>[(6,vP q0),(7,vP s0),(10,vP g0),(12,vP t0),(36,vP g0),(37,vP g0),(40,vP g0),(46,.pointer (some (Addr.add ⟨p0,0,none⟩ 0))),(39,.agg ((aa b0.2.fy)).toArray),(43,.agg ((aa b0.2.fx)).toArray),(13,vP V1)]) (fun V1=>[.cells V1 ae 46,.cells t0 (aa j0.2) 46,.cells g0 [vI j0.1.fe] 85,.cells p0 (aa b0.2.fw ++ aa b0.2.fx ++ aa b0.2.fy ++ aa b0.2.fa ++ aa b0.2.fb ++ aa b0.2.fc ++ aa b0.2.fd ++ aa b0.2.fn) 87,.cells s0 ae 46,.cells q0 ae 46]) z0 6 9439 ?_ ?_
 rintro V1 D9 q2 U4
 try dsimp only
 refine AM [5,11] (rk c0) ⟨?_,?_,trivial⟩
 refine AV (m' :=9471) (sk c0) I .plain I (AC I (q2.memA .t1))<|v2 V1 q2 U4
 refine AV (m' :=11487) (sk c0) I .plain I (Aq (cs:=(aa b0.2.fw)) I I (ac (q2.memA .t3) 0 16))<|Rx 5 21248 c0 I H0 (AC I (q2.memA .t1)) ?_
 obtain ⟨C0,E0⟩:=Am q2 (.a2 .d0)
 refine AT (i:=8) (rk c0) (AQ (m' :=11775) (fst:=[]) (cap:=[]) (sk c0) I I .plain (bd 34) I (e3 I I I) (fun p q=>aa_c n _ hL j0.1 (C0.agree q) j0.2 b0.2.fx U0) I (fun X0 V0 B0 F0 hu_=>?_))
 subst hu_
 refine AT (i:=9) (rk c0) (AQ (m' :=12287) (fst:=[]) (cap:=[]) (sk c0) I I .plain (bd 33) I (e3 I I I) (fun p q=>ab_c n _ hL v0.1 (B0.agree q) b0.2.fy v0.2 Q0) I (fun c1 b1 I0 J0 hu_=>?_))
 subst hu_
 refine AT (i:=12) (rk c0) (AQ (m' :=16383) (fst:=[]) (cap:=[]) (sk c0) I I .plain (bd 32) I (e3 I I I) (fun p q=>ac_c n _ hL A0.1 (I0.agree q) A0.2 b0.2.fw P0) I (fun Y0 W0 D0 G0 hu_=>?_))
 subst hu_
 obtain ⟨R5,Z6⟩:=Am D0 (.a0 (.a0 (.a0 .d1)))
 exact M0 V1 R5 (Tt U4 (Tt E0 (Tt F0 (Tt J0 (Tt G0 Z6)))))
 intro R2
 refine BH (α:=Nat) (fun U1=>[(6,vP q0),(7,vP s0),(10,vP g0),(12,vP t0),(36,vP g0),(37,vP g0),(40,vP g0),(42,.pointer (some (Addr.add ⟨p0,0,none⟩ 16))),(46,.pointer (some (Addr.add ⟨p0,0,none⟩ 0))),(39,.agg ((aa b0.2.fy)).toArray),(41,.agg ((aa j0.2)).toArray),(13,vP U1)]) (fun U1=>[.cells U1 ae 46,.cells t0 (aa j0.2) 46,.cells g0 [vI j0.1.fe] 85,.cells p0 (aa b0.2.fw ++ aa b0.2.fx ++ aa b0.2.fy ++ aa b0.2.fa ++ aa b0.2.fb ++ aa b0.2.fc ++ aa b0.2.fd ++ aa b0.2.fn) 87,.cells s0 ae 46,.cells q0 ae 46]) z0 6 9343 ?_ ?_
 rintro U1 C9 p2 R4
 try dsimp only
 refine AM [7,11] (rk c0) ⟨?_,?_,trivial⟩
 refine AV (m' :=9471) (sk c0) I .plain I (Aq (cs:=(aa b0.2.fx)) I I (ac (p2.memA .t3) 16 16))<|v2 U1 p2 R4
 refine AV (m' :=11391) (sk c0) I .plain I (Aq (cs:=(aa b0.2.fw)) I I (ac (p2.memA .t3) 0 16))<|Rx 7 21248 c0 I H0 (Aq (cs:=(aa b0.2.fx)) I I (ac (p2.memA .t3) 16 16)) ?_
 obtain ⟨C0,E0⟩:=Am p2 (.a2 .d0)
 refine AT (i:=8) (rk c0) (AQ (m' :=11775) (fst:=[]) (cap:=[]) (sk c0) I I .plain (bd 34) I (e3 I I I) (fun p q=>aa_c n _ hL j0.1 (C0.agree q) j0.2 b0.2.fx U0) I (fun X0 V0 B0 F0 hu_=>?_))
 subst hu_
 refine AT (i:=9) (rk c0) (AQ (m' :=12287) (fst:=[]) (cap:=[]) (sk c0) I I .plain (bd 33) I (e3 I I I) (fun p q=>ab_c n _ hL v0.1 (B0.agree q) b0.2.fy v0.2 Q0) I (fun c1 b1 I0 J0 hu_=>?_))
 subst hu_
 refine AT (i:=12) (rk c0) (AQ (m' :=16383) (fst:=[]) (cap:=[]) (sk c0) I I .plain (bd 32) I (e3 I I I) (fun p q=>ac_c n _ hL A0.1 (I0.agree q) A0.2 b0.2.fw P0) I (fun Y0 W0 D0 G0 hu_=>?_))
 subst hu_
 obtain ⟨U5,b7⟩:=Am D0 (.a0 (.a0 (.a0 .d1)))
 exact M0 U1 U5 (Tt R4 (Tt E0 (Tt F0 (Tt J0 (Tt G0 b7)))))
 intro U2
 refine BH (α:=Unit) (fun ()=>[(6,vP q0),(7,vP s0),(10,vP g0),(12,vP t0),(36,vP g0),(37,vP g0),(38,.pointer (some (Addr.add ⟨p0,0,none⟩ 32))),(40,vP g0),(41,.agg ((aa j0.2)).toArray),(43,.agg ((aa b0.2.fx)).toArray),(47,.agg ((aa b0.2.fw)).toArray)]) (fun ()=>[.cells t0 (aa j0.2) 46,.cells g0 [vI j0.1.fe] 85,.cells p0 (aa b0.2.fw ++ aa b0.2.fx ++ aa b0.2.fy ++ aa b0.2.fa ++ aa b0.2.fb ++ aa b0.2.fc ++ aa b0.2.fd ++ aa b0.2.fn) 87,.cells s0 ae 46,.cells q0 ae 46]) z0 6 3319 ?_ ?_
 rintro ⟨⟩ B9 A2 V3
 try dsimp only
 refine AM [3,8,13] (rk c0) ⟨?_,?_,?_,trivial⟩
 refine AV (m' :=3327) (sk c0) I .plain I (Aq (cs:=(aa b0.2.fy)) I I (ac (A2.memA .t2) 32 16)) ?_
 obtain ⟨V5,c7⟩:=Am A2 (.a0 (.a0 .d1))
 exact x2 () V5 (Tt V3 c7)
 obtain ⟨C0,E0⟩:=Am A2 (.a1 .d0)
 refine AQ (m' :=3575) (fst:=[]) (cap:=[]) (sk c0) I I .plain (bd 34) I (e3 I I I) (fun p q=>aa_c n _ hL j0.1 (C0.agree q) j0.2 b0.2.fx U0) I fun X0 V0 B0 F0 hu_=>?_
 subst hu_
 exact d4 () B0 (Tt V3 (Tt E0 F0))
 refine Bf (m' :=11511) (sk c0) I .plain I (Al ae A2) fun K0 x0 u0 y0=>y1 x0 u0 (Tt V3 y0)
 intro V2
 refine BH (α:=Unit) (fun ()=>[(6,vP q0),(7,vP s0),(10,vP g0),(12,vP t0),(36,vP g0),(37,vP g0),(40,vP g0),(39,.agg ((aa b0.2.fy)).toArray),(43,.agg ((aa b0.2.fx)).toArray),(47,.agg ((aa b0.2.fw)).toArray)]) (fun ()=>[.cells t0 (aa j0.2) 46,.cells g0 [vI j0.1.fe] 85,.cells s0 ae 46,.cells q0 ae 46]) z0 6 3295 ?_ ?_
 rintro ⟨⟩ A9 B3 Q4
 try dsimp only
 refine AM [5,13] (rk c0) ⟨?_,?_,trivial⟩
 refine AV (m' :=3327) (sk c0) I .plain I (AC I (B3.memA .hd))<|x2 () B3 Q4
 refine Bf (m' :=11487) (sk c0) I .plain I (Al ae B3) fun K0 x0 u0 y0=>Rx 5 21248 c0 I H0 (AC I (u0.memA .t1)) ?_
 obtain ⟨C0,E0⟩:=Am u0 (.a2 .d0)
 refine AT (i:=8) (rk c0) (AQ (m' :=11775) (fst:=[]) (cap:=[]) (sk c0) I I .plain (bd 34) I (e3 I I I) (fun p q=>aa_c n _ hL j0.1 (C0.agree q) j0.2 b0.2.fx U0) I (fun X0 V0 B0 F0 hu_=>?_))
 subst hu_
 refine AT (i:=9) (rk c0) (AQ (m' :=12287) (fst:=[]) (cap:=[]) (sk c0) I I .plain (bd 33) I (e3 I I I) (fun p q=>ab_c n _ hL v0.1 (B0.agree q) b0.2.fy v0.2 Q0) I (fun c1 b1 I0 J0 hu_=>?_))
 subst hu_
 refine AT (i:=12) (rk c0) (AQ (m' :=16383) (fst:=[]) (cap:=[]) (sk c0) I I .plain (bd 32) I (e3 I I I) (fun p q=>ac_c n _ hL A0.1 (I0.agree q) A0.2 b0.2.fw P0) I (fun Y0 W0 D0 G0 hu_=>?_))
 subst hu_
 exact M0 x0 D0 (Tt Q4 (Tt y0 (Tt E0 (Tt F0 (Tt J0 G0)))))
 intro W2
 refine BH (α:=Unit) (fun ()=>[(6,vP q0),(7,vP s0),(10,vP g0),(12,vP t0),(36,vP g0),(37,vP g0),(40,vP g0),(42,.pointer (some (Addr.add ⟨p0,0,none⟩ 16))),(39,.agg ((aa b0.2.fy)).toArray),(41,.agg ((aa j0.2)).toArray),(47,.agg ((aa b0.2.fw)).toArray)]) (fun ()=>[.cells t0 (aa j0.2) 46,.cells g0 [vI j0.1.fe] 85,.cells p0 (aa b0.2.fw ++ aa b0.2.fx ++ aa b0.2.fy ++ aa b0.2.fa ++ aa b0.2.fb ++ aa b0.2.fc ++ aa b0.2.fd ++ aa b0.2.fn) 87,.cells s0 ae 46,.cells q0 ae 46]) z0 6 3199 ?_ ?_
 rintro ⟨⟩ z9 A3 P4
 try dsimp only
 refine AM [7,13] (rk c0) ⟨?_,?_,trivial⟩
 refine AV (m' :=3327) (sk c0) I .plain I (Aq (cs:=(aa b0.2.fx)) I I (ac (A3.memA .t2) 16 16)) ?_
 obtain ⟨W5,d7⟩:=Am A3 (.a0 (.a0 .d1))
 exact x2 () W5 (Tt P4 d7)
 refine Bf (m' :=11391) (sk c0) I .plain I (Al ae A3) fun K0 x0 u0 y0=>Rx 7 21248 c0 I H0 (Aq (cs:=(aa b0.2.fx)) I I (ac (u0.memA .t3) 16 16)) ?_
 obtain ⟨C0,E0⟩:=Am u0 (.a2 .d0)
 refine AT (i:=8) (rk c0) (AQ (m' :=11775) (fst:=[]) (cap:=[]) (sk c0) I I .plain (bd 34) I (e3 I I I) (fun p q=>aa_c n _ hL j0.1 (C0.agree q) j0.2 b0.2.fx U0) I (fun X0 V0 B0 F0 hu_=>?_))
 subst hu_
 refine AT (i:=9) (rk c0) (AQ (m' :=12287) (fst:=[]) (cap:=[]) (sk c0) I I .plain (bd 33) I (e3 I I I) (fun p q=>ab_c n _ hL v0.1 (B0.agree q) b0.2.fy v0.2 Q0) I (fun c1 b1 I0 J0 hu_=>?_))
 subst hu_
 refine AT (i:=12) (rk c0) (AQ (m' :=16383) (fst:=[]) (cap:=[]) (sk c0) I I .plain (bd 32) I (e3 I I I) (fun p q=>ac_c n _ hL A0.1 (I0.agree q) A0.2 b0.2.fw P0) I (fun Y0 W0 D0 G0 hu_=>?_))
 subst hu_
 obtain ⟨X5,g7⟩:=Am D0 (.a0 (.a0 (.a0 .d1)))
 exact M0 x0 X5 (Tt P4 (Tt y0 (Tt E0 (Tt F0 (Tt J0 (Tt G0 g7))))))
 intro X2
 refine BH (α:=Unit) (fun ()=>[(6,vP q0),(7,vP s0),(10,vP g0),(12,vP t0),(36,vP g0),(37,vP g0),(38,.pointer (some (Addr.add ⟨p0,0,none⟩ 32))),(46,.pointer (some (Addr.add ⟨p0,0,none⟩ 0))),(44,.agg ((aa v0.2)).toArray)]) (fun ()=>[.cells g0 [vI v0.1.fe] 85,.cells t0 (aa j0.2) 46,.cells p0 (aa b0.2.fw ++ aa b0.2.fx ++ aa b0.2.fy ++ aa b0.2.fa ++ aa b0.2.fb ++ aa b0.2.fc ++ aa b0.2.fd ++ aa b0.2.fn) 87,.cells s0 ae 46,.cells q0 ae 46]) z0 6 1527 ?_ ?_
 rintro ⟨⟩ y9 k2 U3
 try dsimp only
 refine AM [3,11,13] (rk c0) ⟨?_,?_,?_,trivial⟩
 refine AV (m' :=1535) (sk c0) I .plain I (Aq (cs:=(aa b0.2.fy)) I I (ac (k2.memA .t2) 32 16))<|g4 () k2 U3
 refine AV (m' :=3575) (sk c0) I .plain I (Aq (cs:=(aa b0.2.fw)) I I (ac (k2.memA .t2) 0 16))<|d4 () k2 U3
 refine Bf (m' :=9719) (sk c0) I .plain I (Al ae k2) fun K0 x0 u0 y0=>c4 x0 u0 (Tt U3 y0)
 intro c5
 refine BH (α:=Unit) (fun ()=>[(6,vP q0),(7,vP s0),(10,vP g0),(12,vP t0),(36,vP g0),(37,vP g0),(40,vP g0),(46,.pointer (some (Addr.add ⟨p0,0,none⟩ 0))),(39,.agg ((aa b0.2.fy)).toArray),(41,.agg ((aa j0.2)).toArray),(43,.agg ((aa b0.2.fx)).toArray)]) (fun ()=>[.cells t0 (aa j0.2) 46,.cells g0 [vI j0.1.fe] 85,.cells p0 (aa b0.2.fw ++ aa b0.2.fx ++ aa b0.2.fy ++ aa b0.2.fa ++ aa b0.2.fb ++ aa b0.2.fc ++ aa b0.2.fd ++ aa b0.2.fn) 87,.cells s0 ae 46,.cells q0 ae 46]) z0 6 1279 ?_ ?_
 rintro ⟨⟩ x9 z2 R3
 try dsimp only
 refine AM [8,11,13] (rk c0) ⟨?_,?_,?_,trivial⟩
 obtain ⟨C0,E0⟩:=Am z2 (.a1 .d0)
 refine AQ (m' :=1535) (fst:=[]) (cap:=[]) (sk c0) I I .plain (bd 34) I (e3 I I I) (fun p q=>aa_c n _ hL j0.1 (C0.agree q) j0.2 b0.2.fx U0) I fun X0 V0 B0 F0 hu_=>?_
 subst hu_
 exact g4 () B0 (Tt R3 (Tt E0 F0))
 refine AV (m' :=3327) (sk c0) I .plain I (Aq (cs:=(aa b0.2.fw)) I I (ac (z2.memA .t2) 0 16)) ?_
 obtain ⟨Y5,j7⟩:=Am z2 (.a0 (.a0 .d1))
 exact x2 () Y5 (Tt R3 j7)
 refine Bf (m' :=9471) (sk c0) I .plain I (Al ae z2) fun K0 x0 u0 y0=>v2 x0 u0 (Tt R3 y0)
 intro Y2
 refine BH (α:=Nat) (fun C1=>[(6,vP q0),(7,vP s0),(10,vP g0),(12,vP t0),(36,vP g0),(37,vP g0),(38,.pointer (some (Addr.add ⟨p0,0,none⟩ 32))),(40,vP g0),(46,.pointer (some (Addr.add ⟨p0,0,none⟩ 0))),(43,.agg ((aa b0.2.fx)).toArray),(13,vP C1)]) (fun C1=>[.cells C1 ae 46,.cells t0 (aa j0.2) 46,.cells g0 [vI j0.1.fe] 85,.cells p0 (aa b0.2.fw ++ aa b0.2.fx ++ aa b0.2.fy ++ aa b0.2.fa ++ aa b0.2.fb ++ aa b0.2.fc ++ aa b0.2.fd ++ aa b0.2.fn) 87,.cells s0 ae 46,.cells q0 ae 46]) z0 7 9431 ?_ ?_
 rintro C1 v9 J1 Q3
 try dsimp only
 refine AM [3,5,11] (rk c0) ⟨?_,?_,?_,trivial⟩
 refine AV (m' :=9439) (sk c0) I .plain I (Aq (cs:=(aa b0.2.fy)) I I (ac (J1.memA .t3) 32 16))<|R2 C1 J1 Q3
 refine AV (m' :=9463) (sk c0) I .plain I (AC I (J1.memA .t1))<|Q2 C1 J1 Q3
 refine AV (m' :=11479) (sk c0) I .plain I (Aq (cs:=(aa b0.2.fw)) I I (ac (J1.memA .t3) 0 16))<|Rx 5 21248 c0 I H0 (AC I (J1.memA .t1))<|y1 C1 J1 Q3
 intro j4
 refine BH (α:=Nat) (fun B1=>[(6,vP q0),(7,vP s0),(10,vP g0),(12,vP t0),(36,vP g0),(37,vP g0),(38,.pointer (some (Addr.add ⟨p0,0,none⟩ 32))),(40,vP g0),(42,.pointer (some (Addr.add ⟨p0,0,none⟩ 16))),(46,.pointer (some (Addr.add ⟨p0,0,none⟩ 0))),(41,.agg ((aa j0.2)).toArray),(13,vP B1)]) (fun B1=>[.cells B1 ae 46,.cells t0 (aa j0.2) 46,.cells g0 [vI j0.1.fe] 85,.cells p0 (aa b0.2.fw ++ aa b0.2.fx ++ aa b0.2.fy ++ aa b0.2.fa ++ aa b0.2.fb ++ aa b0.2.fc ++ aa b0.2.fd ++ aa b0.2.fn) 87,.cells s0 ae 46,.cells q0 ae 46]) z0 7 9335 ?_ ?_
 rintro B1 u9 I1 P3
 try dsimp only
 refine AM [3,7,11] (rk c0) ⟨?_,?_,?_,trivial⟩
 refine AV (m' :=9343) (sk c0) I .plain I (Aq (cs:=(aa b0.2.fy)) I I (ac (I1.memA .t3) 32 16))<|U2 B1 I1 P3
 refine AV (m' :=9463) (sk c0) I .plain I (Aq (cs:=(aa b0.2.fx)) I I (ac (I1.memA .t3) 16 16))<|Q2 B1 I1 P3
 refine AV (m' :=11383) (sk c0) I .plain I (Aq (cs:=(aa b0.2.fw)) I I (ac (I1.memA .t3) 0 16))<|Rx 7 21248 c0 I H0 (Aq (cs:=(aa b0.2.fx)) I I (ac (I1.memA .t3) 16 16))<|y1 B1 I1 P3
 intro k4
 refine BH (α:=Nat) (fun A1=>[(6,vP q0),(7,vP s0),(10,vP g0),(12,vP t0),(36,vP g0),(37,vP g0),(40,vP g0),(42,.pointer (some (Addr.add ⟨p0,0,none⟩ 16))),(46,.pointer (some (Addr.add ⟨p0,0,none⟩ 0))),(39,.agg ((aa b0.2.fy)).toArray),(13,vP A1)]) (fun A1=>[.cells A1 ae 46,.cells t0 (aa j0.2) 46,.cells g0 [vI j0.1.fe] 85,.cells p0 (aa b0.2.fw ++ aa b0.2.fx ++ aa b0.2.fy ++ aa b0.2.fa ++ aa b0.2.fb ++ aa b0.2.fc ++ aa b0.2.fd ++ aa b0.2.fn) 87,.cells s0 ae 46,.cells q0 ae 46]) z0 7 9311 ?_ ?_
 rintro A1 t9 z1 M3
 try dsimp only
 refine AM [5,7,11] (rk c0) ⟨?_,?_,?_,trivial⟩
 refine AV (m' :=9343) (sk c0) I .plain I (AC I (z1.memA .t1))<|U2 A1 z1 M3
 refine AV (m' :=9439) (sk c0) I .plain I (Aq (cs:=(aa b0.2.fx)) I I (ac (z1.memA .t3) 16 16))<|R2 A1 z1 M3
 refine AV (m' :=11359) (sk c0) I .plain I (Aq (cs:=(aa b0.2.fw)) I I (ac (z1.memA .t3) 0 16))<|Rx 5 21248 c0 I H0 (AC I (z1.memA .t1))<|Rx 7 21248 c0 I H0 (Aq (cs:=(aa b0.2.fx)) I I (ac (z1.memA .t3) 16 16)) ?_
 obtain ⟨C0,E0⟩:=Am z1 (.a2 .d0)
 refine AT (i:=8) (rk c0) (AQ (m' :=11775) (fst:=[]) (cap:=[]) (sk c0) I I .plain (bd 34) I (e3 I I I) (fun p q=>aa_c n _ hL j0.1 (C0.agree q) j0.2 b0.2.fx U0) I (fun X0 V0 B0 F0 hu_=>?_))
 subst hu_
 refine AT (i:=9) (rk c0) (AQ (m' :=12287) (fst:=[]) (cap:=[]) (sk c0) I I .plain (bd 33) I (e3 I I I) (fun p q=>ab_c n _ hL v0.1 (B0.agree q) b0.2.fy v0.2 Q0) I (fun c1 b1 I0 J0 hu_=>?_))
 subst hu_
 refine AT (i:=12) (rk c0) (AQ (m' :=16383) (fst:=[]) (cap:=[]) (sk c0) I I .plain (bd 32) I (e3 I I I) (fun p q=>ac_c n _ hL A0.1 (I0.agree q) A0.2 b0.2.fw P0) I (fun Y0 W0 D0 G0 hu_=>?_))
 subst hu_
 obtain ⟨Z5,k7⟩:=Am D0 (.a0 (.a0 (.a0 .d1)))
 exact M0 A1 Z5 (Tt M3 (Tt E0 (Tt F0 (Tt J0 (Tt G0 k7)))))
 intro p4
 refine BH (α:=Unit) (fun ()=>[(6,vP q0),(7,vP s0),(10,vP g0),(12,vP t0),(36,vP g0),(37,vP g0),(38,.pointer (some (Addr.add ⟨p0,0,none⟩ 32))),(40,vP g0),(43,.agg ((aa b0.2.fx)).toArray),(47,.agg ((aa b0.2.fw)).toArray)]) (fun ()=>[.cells t0 (aa j0.2) 46,.cells g0 [vI j0.1.fe] 85,.cells p0 (aa b0.2.fw ++ aa b0.2.fx ++ aa b0.2.fy ++ aa b0.2.fa ++ aa b0.2.fb ++ aa b0.2.fc ++ aa b0.2.fd ++ aa b0.2.fn) 87,.cells s0 ae 46,.cells q0 ae 46]) z0 7 3287 ?_ ?_
 rintro ⟨⟩ s9 j2 K3
 try dsimp only
 refine AM [3,5,13] (rk c0) ⟨?_,?_,?_,trivial⟩
 refine AV (m' :=3295) (sk c0) I .plain I (Aq (cs:=(aa b0.2.fy)) I I (ac (j2.memA .t2) 32 16)) ?_
 obtain ⟨b6,p7⟩:=Am j2 (.a0 (.a0 .d1))
 exact W2 () b6 (Tt K3 p7)
 refine AV (m' :=3319) (sk c0) I .plain I (AC I (j2.memA .hd))<|V2 () j2 K3
 refine Bf (m' :=11479) (sk c0) I .plain I (Al ae j2) fun K0 x0 u0 y0=>Rx 5 21248 c0 I H0 (AC I (u0.memA .t1))<|y1 x0 u0 (Tt K3 y0)
 intro q4
 refine BH (α:=Unit) (fun ()=>[(6,vP q0),(7,vP s0),(10,vP g0),(12,vP t0),(36,vP g0),(37,vP g0),(38,.pointer (some (Addr.add ⟨p0,0,none⟩ 32))),(40,vP g0),(42,.pointer (some (Addr.add ⟨p0,0,none⟩ 16))),(41,.agg ((aa j0.2)).toArray),(47,.agg ((aa b0.2.fw)).toArray)]) (fun ()=>[.cells t0 (aa j0.2) 46,.cells g0 [vI j0.1.fe] 85,.cells p0 (aa b0.2.fw ++ aa b0.2.fx ++ aa b0.2.fy ++ aa b0.2.fa ++ aa b0.2.fb ++ aa b0.2.fc ++ aa b0.2.fd ++ aa b0.2.fn) 87,.cells s0 ae 46,.cells q0 ae 46]) z0 7 3191 ?_ ?_
 rintro ⟨⟩ q9 g2 J3
 try dsimp only
 refine AM [3,7,13] (rk c0) ⟨?_,?_,?_,trivial⟩
 refine AV (m' :=3199) (sk c0) I .plain I (Aq (cs:=(aa b0.2.fy)) I I (ac (g2.memA .t2) 32 16))<|X2 () g2 J3
 refine AV (m' :=3319) (sk c0) I .plain I (Aq (cs:=(aa b0.2.fx)) I I (ac (g2.memA .t2) 16 16))<|V2 () g2 J3
 refine Bf (m' :=11383) (sk c0) I .plain I (Al ae g2) fun K0 x0 u0 y0=>Rx 7 21248 c0 I H0 (Aq (cs:=(aa b0.2.fx)) I I (ac (u0.memA .t3) 16 16))<|y1 x0 u0 (Tt J3 y0)
 intro s4
 refine BH (α:=Unit) (fun ()=>[(6,vP q0),(7,vP s0),(10,vP g0),(12,vP t0),(36,vP g0),(37,vP g0),(40,vP g0),(42,.pointer (some (Addr.add ⟨p0,0,none⟩ 16))),(39,.agg ((aa b0.2.fy)).toArray),(47,.agg ((aa b0.2.fw)).toArray)]) (fun ()=>[.cells t0 (aa j0.2) 46,.cells g0 [vI j0.1.fe] 85,.cells p0 (aa b0.2.fw ++ aa b0.2.fx ++ aa b0.2.fy ++ aa b0.2.fa ++ aa b0.2.fb ++ aa b0.2.fc ++ aa b0.2.fd ++ aa b0.2.fn) 87,.cells s0 ae 46,.cells q0 ae 46]) z0 7 3167 ?_ ?_
 rintro ⟨⟩ p9 d2 I3
 try dsimp only
 refine AM [5,7,13] (rk c0) ⟨?_,?_,?_,trivial⟩
 refine AV (m' :=3199) (sk c0) I .plain I (AC I (d2.memA .hd))<|X2 () d2 I3
 refine AV (m' :=3295) (sk c0) I .plain I (Aq (cs:=(aa b0.2.fx)) I I (ac (d2.memA .t2) 16 16)) ?_
 obtain ⟨c6,q7⟩:=Am d2 (.a0 (.a0 .d1))
 exact W2 () c6 (Tt I3 q7)
 refine Bf (m' :=11359) (sk c0) I .plain I (Al ae d2) fun K0 x0 u0 y0=>Rx 5 21248 c0 I H0 (AC I (u0.memA .t1))<|Rx 7 21248 c0 I H0 (Aq (cs:=(aa b0.2.fx)) I I (ac (u0.memA .t3) 16 16)) ?_
 obtain ⟨C0,E0⟩:=Am u0 (.a2 .d0)
 refine AT (i:=8) (rk c0) (AQ (m' :=11775) (fst:=[]) (cap:=[]) (sk c0) I I .plain (bd 34) I (e3 I I I) (fun p q=>aa_c n _ hL j0.1 (C0.agree q) j0.2 b0.2.fx U0) I (fun X0 V0 B0 F0 hu_=>?_))
 subst hu_
 refine AT (i:=9) (rk c0) (AQ (m' :=12287) (fst:=[]) (cap:=[]) (sk c0) I I .plain (bd 33) I (e3 I I I) (fun p q=>ab_c n _ hL v0.1 (B0.agree q) b0.2.fy v0.2 Q0) I (fun c1 b1 I0 J0 hu_=>?_))
 subst hu_
 refine AT (i:=12) (rk c0) (AQ (m' :=16383) (fst:=[]) (cap:=[]) (sk c0) I I .plain (bd 32) I (e3 I I I) (fun p q=>ac_c n _ hL A0.1 (I0.agree q) A0.2 b0.2.fw P0) I (fun Y0 W0 D0 G0 hu_=>?_))
 subst hu_
 obtain ⟨d6,s7⟩:=Am D0 (.a0 (.a0 (.a0 .d1)))
 exact M0 x0 d6 (Tt I3 (Tt y0 (Tt E0 (Tt F0 (Tt J0 (Tt G0 s7))))))
 intro u4
 refine BH (α:=Unit) (fun ()=>[(6,vP q0),(7,vP s0),(10,vP g0),(12,vP t0),(36,vP g0),(37,vP g0),(38,.pointer (some (Addr.add ⟨p0,0,none⟩ 32))),(40,vP g0),(46,.pointer (some (Addr.add ⟨p0,0,none⟩ 0))),(41,.agg ((aa j0.2)).toArray),(43,.agg ((aa b0.2.fx)).toArray)]) (fun ()=>[.cells t0 (aa j0.2) 46,.cells g0 [vI j0.1.fe] 85,.cells p0 (aa b0.2.fw ++ aa b0.2.fx ++ aa b0.2.fy ++ aa b0.2.fa ++ aa b0.2.fb ++ aa b0.2.fc ++ aa b0.2.fd ++ aa b0.2.fn) 87,.cells s0 ae 46,.cells q0 ae 46]) z0 7 1271 ?_ ?_
 rintro ⟨⟩ k9 X1 H2
 try dsimp only
 refine AM [3,8,11,13] (rk c0) ⟨?_,?_,?_,?_,trivial⟩
 refine AV (m' :=1279) (sk c0) I .plain I (Aq (cs:=(aa b0.2.fy)) I I (ac (X1.memA .t2) 32 16))<|Y2 () X1 H2
 obtain ⟨C0,E0⟩:=Am X1 (.a1 .d0)
 refine AQ (m' :=1527) (fst:=[]) (cap:=[]) (sk c0) I I .plain (bd 34) I (e3 I I I) (fun p q=>aa_c n _ hL j0.1 (C0.agree q) j0.2 b0.2.fx U0) I fun X0 V0 B0 F0 hu_=>?_
 subst hu_
 exact c5 () B0 (Tt H2 (Tt E0 F0))
 refine AV (m' :=3319) (sk c0) I .plain I (Aq (cs:=(aa b0.2.fw)) I I (ac (X1.memA .t2) 0 16))<|V2 () X1 H2
 refine Bf (m' :=9463) (sk c0) I .plain I (Al ae X1) fun K0 x0 u0 y0=>Q2 x0 u0 (Tt H2 y0)
 intro v4
 refine BH (α:=Unit) (fun ()=>[(6,vP q0),(7,vP s0),(10,vP g0),(12,vP t0),(36,vP g0),(37,vP g0),(40,vP g0),(46,.pointer (some (Addr.add ⟨p0,0,none⟩ 0))),(39,.agg ((aa b0.2.fy)).toArray),(43,.agg ((aa b0.2.fx)).toArray)]) (fun ()=>[.cells t0 (aa j0.2) 46,.cells g0 [vI j0.1.fe] 85,.cells p0 (aa b0.2.fw ++ aa b0.2.fx ++ aa b0.2.fy ++ aa b0.2.fa ++ aa b0.2.fb ++ aa b0.2.fc ++ aa b0.2.fd ++ aa b0.2.fn) 87,.cells s0 ae 46,.cells q0 ae 46]) z0 7 1247 ?_ ?_
 rintro ⟨⟩ j9 c2 H3
 try dsimp only
 refine AM [5,11,13] (rk c0) ⟨?_,?_,?_,trivial⟩
 refine AV (m' :=1279) (sk c0) I .plain I (AC I (c2.memA .hd))<|Y2 () c2 H3
 refine AV (m' :=3295) (sk c0) I .plain I (Aq (cs:=(aa b0.2.fw)) I I (ac (c2.memA .t2) 0 16)) ?_
 obtain ⟨g6,t7⟩:=Am c2 (.a0 (.a0 .d1))
 exact W2 () g6 (Tt H3 t7)
 refine Bf (m' :=9439) (sk c0) I .plain I (Al ae c2) fun K0 x0 u0 y0=>R2 x0 u0 (Tt H3 y0)
 intro x4
 refine BH (α:=Unit) (fun ()=>[(6,vP q0),(7,vP s0),(10,vP g0),(12,vP t0),(36,vP g0),(37,vP g0),(40,vP g0),(42,.pointer (some (Addr.add ⟨p0,0,none⟩ 16))),(46,.pointer (some (Addr.add ⟨p0,0,none⟩ 0))),(39,.agg ((aa b0.2.fy)).toArray),(41,.agg ((aa j0.2)).toArray)]) (fun ()=>[.cells t0 (aa j0.2) 46,.cells g0 [vI j0.1.fe] 85,.cells p0 (aa b0.2.fw ++ aa b0.2.fx ++ aa b0.2.fy ++ aa b0.2.fa ++ aa b0.2.fb ++ aa b0.2.fc ++ aa b0.2.fd ++ aa b0.2.fn) 87,.cells s0 ae 46,.cells q0 ae 46]) z0 7 1151 ?_ ?_
 rintro ⟨⟩ g9 b2 G3
 try dsimp only
 refine AM [7,11,13] (rk c0) ⟨?_,?_,?_,trivial⟩
 refine AV (m' :=1279) (sk c0) I .plain I (Aq (cs:=(aa b0.2.fx)) I I (ac (b2.memA .t2) 16 16))<|Y2 () b2 G3
 refine AV (m' :=3199) (sk c0) I .plain I (Aq (cs:=(aa b0.2.fw)) I I (ac (b2.memA .t2) 0 16))<|X2 () b2 G3
 refine Bf (m' :=9343) (sk c0) I .plain I (Al ae b2) fun K0 x0 u0 y0=>U2 x0 u0 (Tt G3 y0)
 intro y4
 refine BH (α:=Nat) (fun x1=>[(6,vP q0),(7,vP s0),(10,vP g0),(12,vP t0),(36,vP g0),(37,vP g0),(38,.pointer (some (Addr.add ⟨p0,0,none⟩ 32))),(40,vP g0),(42,.pointer (some (Addr.add ⟨p0,0,none⟩ 16))),(46,.pointer (some (Addr.add ⟨p0,0,none⟩ 0))),(13,vP x1)]) (fun x1=>[.cells x1 ae 46,.cells t0 (aa j0.2) 46,.cells g0 [vI j0.1.fe] 85,.cells p0 (aa b0.2.fw ++ aa b0.2.fx ++ aa b0.2.fy ++ aa b0.2.fa ++ aa b0.2.fb ++ aa b0.2.fc ++ aa b0.2.fd ++ aa b0.2.fn) 87,.cells s0 ae 46,.cells q0 ae 46]) z0 8 9303 ?_ ?_
 rintro x1 d9 k1 G2
 try dsimp only
 refine AM [3,5,7,11] (rk c0) ⟨?_,?_,?_,?_,trivial⟩
 refine AV (m' :=9311) (sk c0) I .plain I (Aq (cs:=(aa b0.2.fy)) I I (ac (k1.memA .t3) 32 16))<|p4 x1 k1 G2
 refine AV (m' :=9335) (sk c0) I .plain I (AC I (k1.memA .t1))<|k4 x1 k1 G2
 refine AV (m' :=9431) (sk c0) I .plain I (Aq (cs:=(aa b0.2.fx)) I I (ac (k1.memA .t3) 16 16))<|j4 x1 k1 G2
 refine AV (m' :=11351) (sk c0) I .plain I (Aq (cs:=(aa b0.2.fw)) I I (ac (k1.memA .t3) 0 16))<|Rx 5 21248 c0 I H0 (AC I (k1.memA .t1))<|Rx 7 21248 c0 I H0 (Aq (cs:=(aa b0.2.fx)) I I (ac (k1.memA .t3) 16 16))<|y1 x1 k1 G2
 intro d5
 refine BH (α:=Unit) (fun ()=>[(6,vP q0),(7,vP s0),(10,vP g0),(12,vP t0),(36,vP g0),(37,vP g0),(38,.pointer (some (Addr.add ⟨p0,0,none⟩ 32))),(40,vP g0),(42,.pointer (some (Addr.add ⟨p0,0,none⟩ 16))),(47,.agg ((aa b0.2.fw)).toArray)]) (fun ()=>[.cells t0 (aa j0.2) 46,.cells g0 [vI j0.1.fe] 85,.cells p0 (aa b0.2.fw ++ aa b0.2.fx ++ aa b0.2.fy ++ aa b0.2.fa ++ aa b0.2.fb ++ aa b0.2.fc ++ aa b0.2.fd ++ aa b0.2.fn) 87,.cells s0 ae 46,.cells q0 ae 46]) z0 8 3159 ?_ ?_
 rintro ⟨⟩ c9 H1 F2
 try dsimp only
 refine AM [3,5,7,13] (rk c0) ⟨?_,?_,?_,?_,trivial⟩
 refine AV (m' :=3167) (sk c0) I .plain I (Aq (cs:=(aa b0.2.fy)) I I (ac (H1.memA .t2) 32 16))<|u4 () H1 F2
 refine AV (m' :=3191) (sk c0) I .plain I (AC I (H1.memA .hd))<|s4 () H1 F2
 refine AV (m' :=3287) (sk c0) I .plain I (Aq (cs:=(aa b0.2.fx)) I I (ac (H1.memA .t2) 16 16))<|q4 () H1 F2
 refine Bf (m' :=11351) (sk c0) I .plain I (Al ae H1) fun K0 x0 u0 y0=>Rx 5 21248 c0 I H0 (AC I (u0.memA .t1))<|Rx 7 21248 c0 I H0 (Aq (cs:=(aa b0.2.fx)) I I (ac (u0.memA .t3) 16 16))<|y1 x0 u0 (Tt F2 y0)
 intro g5
 refine BH (α:=Unit) (fun ()=>[(6,vP q0),(7,vP s0),(10,vP g0),(12,vP t0),(36,vP g0),(37,vP g0),(38,.pointer (some (Addr.add ⟨p0,0,none⟩ 32))),(40,vP g0),(46,.pointer (some (Addr.add ⟨p0,0,none⟩ 0))),(43,.agg ((aa b0.2.fx)).toArray)]) (fun ()=>[.cells t0 (aa j0.2) 46,.cells g0 [vI j0.1.fe] 85,.cells p0 (aa b0.2.fw ++ aa b0.2.fx ++ aa b0.2.fy ++ aa b0.2.fa ++ aa b0.2.fb ++ aa b0.2.fc ++ aa b0.2.fd ++ aa b0.2.fn) 87,.cells s0 ae 46,.cells q0 ae 46]) z0 8 1239 ?_ ?_
 rintro ⟨⟩ b9 G1 E2
 try dsimp only
 refine AM [3,5,11,13] (rk c0) ⟨?_,?_,?_,?_,trivial⟩
 refine AV (m' :=1247) (sk c0) I .plain I (Aq (cs:=(aa b0.2.fy)) I I (ac (G1.memA .t2) 32 16))<|x4 () G1 E2
 refine AV (m' :=1271) (sk c0) I .plain I (AC I (G1.memA .hd))<|v4 () G1 E2
 refine AV (m' :=3287) (sk c0) I .plain I (Aq (cs:=(aa b0.2.fw)) I I (ac (G1.memA .t2) 0 16))<|q4 () G1 E2
 refine Bf (m' :=9431) (sk c0) I .plain I (Al ae G1) fun K0 x0 u0 y0=>j4 x0 u0 (Tt E2 y0)
 intro j5
 refine BH (α:=Unit) (fun ()=>[(6,vP q0),(7,vP s0),(10,vP g0),(12,vP t0),(36,vP g0),(37,vP g0),(38,.pointer (some (Addr.add ⟨p0,0,none⟩ 32))),(40,vP g0),(42,.pointer (some (Addr.add ⟨p0,0,none⟩ 16))),(46,.pointer (some (Addr.add ⟨p0,0,none⟩ 0))),(41,.agg ((aa j0.2)).toArray)]) (fun ()=>[.cells t0 (aa j0.2) 46,.cells g0 [vI j0.1.fe] 85,.cells p0 (aa b0.2.fw ++ aa b0.2.fx ++ aa b0.2.fy ++ aa b0.2.fa ++ aa b0.2.fb ++ aa b0.2.fc ++ aa b0.2.fd ++ aa b0.2.fn) 87,.cells s0 ae 46,.cells q0 ae 46]) z0 8 1143 ?_ ?_
 rintro ⟨⟩ Z8 F1 D2
 try dsimp only
 refine AM [3,7,11,13] (rk c0) ⟨?_,?_,?_,?_,trivial⟩
 refine AV (m' :=1151) (sk c0) I .plain I (Aq (cs:=(aa b0.2.fy)) I I (ac (F1.memA .t2) 32 16))<|y4 () F1 D2
 refine AV (m' :=1271) (sk c0) I .plain I (Aq (cs:=(aa b0.2.fx)) I I (ac (F1.memA .t2) 16 16))<|v4 () F1 D2
 refine AV (m' :=3191) (sk c0) I .plain I (Aq (cs:=(aa b0.2.fw)) I I (ac (F1.memA .t2) 0 16))<|s4 () F1 D2
 refine Bf (m' :=9335) (sk c0) I .plain I (Al ae F1) fun K0 x0 u0 y0=>k4 x0 u0 (Tt D2 y0)
 intro k5
 refine BH (α:=Unit) (fun ()=>[(6,vP q0),(7,vP s0),(10,vP g0),(12,vP t0),(36,vP g0),(37,vP g0),(40,vP g0),(42,.pointer (some (Addr.add ⟨p0,0,none⟩ 16))),(46,.pointer (some (Addr.add ⟨p0,0,none⟩ 0))),(39,.agg ((aa b0.2.fy)).toArray)]) (fun ()=>[.cells t0 (aa j0.2) 46,.cells g0 [vI j0.1.fe] 85,.cells p0 (aa b0.2.fw ++ aa b0.2.fx ++ aa b0.2.fy ++ aa b0.2.fa ++ aa b0.2.fb ++ aa b0.2.fc ++ aa b0.2.fd ++ aa b0.2.fn) 87,.cells s0 ae 46,.cells q0 ae 46]) z0 8 1119 ?_ ?_
 rintro ⟨⟩ Y8 E1 C2
 try dsimp only
 refine AM [5,7,11,13] (rk c0) ⟨?_,?_,?_,?_,trivial⟩
 refine AV (m' :=1151) (sk c0) I .plain I (AC I (E1.memA .hd))<|y4 () E1 C2
 refine AV (m' :=1247) (sk c0) I .plain I (Aq (cs:=(aa b0.2.fx)) I I (ac (E1.memA .t2) 16 16))<|x4 () E1 C2
 refine AV (m' :=3167) (sk c0) I .plain I (Aq (cs:=(aa b0.2.fw)) I I (ac (E1.memA .t2) 0 16))<|u4 () E1 C2
 refine Bf (m' :=9311) (sk c0) I .plain I (Al ae E1) fun K0 x0 u0 y0=>p4 x0 u0 (Tt C2 y0)
 intro p5
 refine AM [3,5,7,11,13] (rk c0) ⟨?_,?_,?_,?_,?_,trivial⟩
 refine AV (m' :=1119) (sk c0) I .plain I (Aq (cs:=(aa b0.2.fy)) I I (ac (z0.memA .t2) 32 16)) ?_
 obtain ⟨j6,u7⟩:=Am z0 (.a0 (.a0 (.a0 (.a0 (.a0 .done)))))
 exact p5 () j6 u7
 refine AV (m' :=1143) (sk c0) I .plain I (AC I (z0.memA .hd)) ?_
 obtain ⟨k6,v7⟩:=Am z0 (.a0 (.a0 (.a0 (.a0 (.a0 .done)))))
 exact k5 () k6 v7
 refine AV (m' :=1239) (sk c0) I .plain I (Aq (cs:=(aa b0.2.fx)) I I (ac (z0.memA .t2) 16 16)) ?_
 obtain ⟨p6,x7⟩:=Am z0 (.a0 (.a0 (.a0 (.a0 (.a0 .done)))))
 exact j5 () p6 x7
 refine AV (m' :=3159) (sk c0) I .plain I (Aq (cs:=(aa b0.2.fw)) I I (ac (z0.memA .t2) 0 16)) ?_
 obtain ⟨q6,y7⟩:=Am z0 (.a0 (.a0 (.a0 (.a0 (.a0 .done)))))
 exact g5 () q6 y7
 refine Bf (m' :=9303) (sk c0) I .plain I (Al ae z0) fun K0 x0 u0 y0=>?_
 obtain ⟨s6,z7⟩:=Am u0 (.a0 (.a0 (.a0 (.a0 (.a0 (.a0 .done))))))
 exact d5 x0 s6 (Tt y0 z7)
 refine Ac<|Ab (AP (vs:=[]) (u:=.agg zM) ak (fun p=>by kernel_rfl))<|Ab (AP (vs:=[]) (u:=.agg zM) ak (fun p=>by kernel_rfl))<|Ae I<|AW ae Z1 .t1 (ai I) fun v8 t6 R7=>AW ae t6 .hd (ai I) fun x8 u3 U7=>Ag I<|Aa<|Ao I<|Au hb0 func9 I (.cons (.many (cs:=ae) I I (u3.memA .t1)) (.cons (.many (cs:=ae) I I (u3.memA .hd)) (.cons (.tmp I) .nil))) I ?_
 cases h
 exact u3.gv
def cA_p (n:Nat) (a0:Te) (a1:Int) (a2:Int):Oa (Ta × Int):=
  (bD_p n a0 a1 a2).bind fun p0=>(if p0 = 0 then (aj_p n (⟨(0:Int)⟩:Ti) a0 a1 a2).bind fun b0=>(aa_p n b0.1 b0.2.fw b0.2.fc).bind fun q0=>(aa_p n q0.1 b0.2.fy b0.2.fy).bind fun k0=>(ab_p n k0.1 q0.2 k0.2).bind fun c0=>jn (fun u0=>jn (fun x0=>(aa_p n (⟨x0⟩:Ti) b0.2.fn b0.2.fn).bind fun s0=>(aa_p n s0.1 b0.2.fd c0.2).bind fun t0=>(ac_p n t0.1 s0.2 t0.2).bind fun d0=>(if d0.1.fe = 0 then some (d0.2,(0:Int)) else some ((⟨(0,0,0,0,0,0,0,0),(0,0,0,0,0,0,0,0)⟩:Ta),d0.1.fe))) (fun j0=>(if u0 = true then j0 7 else j0 c0.1.fe))) (fun g0=>(if c0.1.fe = 0 then (am_p n (0:Int) (1:Int)).bind fun v0=>g0 (decide (c0.2 = v0)) else g0 false)) else some ((⟨(0,0,0,0,0,0,0,0),(0,0,0,0,0,0,0,0)⟩:Ta),p0))
theorem cA_c (n:Nat) {L w} (hL:hl L w) (a0:Te) {v0_3:Vc} (h0_3:Rep.R w L [v0_3] a0.fv) {a1:Int} {a2:Int}  {r:Ta × Int} (h:cA_p n a0 a1 a2 = some r) :
 Cl 11 #[.agg #[vI a0.fl,vI a0.fj,vI a0.fm,v0_3],vI a1,vI a2] w (aj w fun _ u=>u = .tuple #[.agg ((aa r.1)).toArray,vI r.2]):=by
 unfold cA_p at h
 refine AK func11 I I I fun _ cs0 hb0=>Ac<|RG.bx (AD w) I I fun c8 t7 B4 z7=>RG.nl ae B4 fun q8 p0 V1 B7=>Ag I<|Aa<|Aj<|Ac<|Ab (AC I (V1.memA .t1))<|Ae I<|Ae I<|bk h fun c4 Y6 h=>Bm (vI c4) (bd 30) I (e3 I I I) (fun p q=>bD_c n (V1.hL0 hL q) a0 (V1.k0 h0_3 q) Y6) I<|Ag I<|Aa<|Ac<|Ae I<|Ab (FV.neq (i:=c4) (j:=0) I I)<|Aa<|MX.ifn I h (fun k4 h=>?_) (fun k4 h=>?_)
 refine Az<|Ac<|Ab (AP (vs:=[]) (u:=.agg #[vI 0]) ak (fun p=>by kernel_rfl))<|RG.bx V1 I I fun s8 c0 C2 C7=>Ag I<|Aa<|Ac<|Ae I<|Ab (AC I (C2.memA .t2))<|Ae I<|Ae I<|bk h fun b0 Z6 h=>RG.callL (fst:=[]) (cap:=[]) .plain (bd 31) I (e4 I I I I) (fun p q=>aj_c n _ hL (⟨(0:Int)⟩:Ti) (C2.agree q) a0 (Ar (Bb h0_3 C2) q) Z6) I fun t8 X7 F5 D7 hu_=>?_
 subst hu_
 refine RG.nl aq F5 fun u8 q0 G5 E7=>AW (aa b0.2.fw ++ aa b0.2.fx ++ aa b0.2.fy ++ aa b0.2.fa ++ aa b0.2.fb ++ aa b0.2.fc ++ aa b0.2.fd ++ aa b0.2.fn) G5 .hd (ai I) fun v8 F2 F7=>Aa<|Ac<|Ae I<|Ba 0 I<|Ab (Aq (cs:=(aa b0.2.fw)) I I (ac (F2.memA .hd) 0 16))<|Ba 80 I<|Ab (Aq (cs:=(aa b0.2.fc)) I I (ac (F2.memA .hd) 80 16))<|bk h fun s0 b7 h=>?_
 obtain ⟨H5,G7⟩:=Am F2 (.a1 .d0)
 refine RG.callL (fst:=[]) (cap:=[]) .plain (bd 34) I (e3 I I I) (fun p q=>aa_c n _ hL b0.1 (H5.agree q) b0.2.fw b0.2.fc b7) I fun x8 Y7 I5 H7 hu_=>?_
 subst hu_
 refine RG.nl ae I5 fun y8 j1 J5 I7=>AW (aa s0.2) J5 .hd (ai I) fun z8 E0 J7=>Aa<|Aj<|du 7 fun g0 J0=>Rv 0 g0 I J0 (fun _=>Ak I)<|Rv 2 g0 I J0 (fun _=>Ak I)<|Rv 3 g0 I J0 (fun _=>AS 32 I)<|Rv 5 g0 I J0 (fun _=>AS 32 I)<|bk h fun y0 y1 h=>bk h fun x0 v1 h=>BH (α:=Nat) (fun G0=>[(6,vP p0),(9,vP c0),(10,vP q0),(12,vP G0),(44,.agg ((aa x0.2)).toArray)]) (fun G0=>[.cells c0 [vI x0.1.fe] 85,.cells G0 ae 46,.cells q0 (aa b0.2.fw ++ aa b0.2.fx ++ aa b0.2.fy ++ aa b0.2.fa ++ aa b0.2.fb ++ aa b0.2.fc ++ aa b0.2.fd ++ aa b0.2.fn) 87,.cells p0 ae 46]) E0 1 1023 ?_ ?_
 rintro G0 b9 K5 K7
 try dsimp only
 refine Bv 10 2047 g0 I I .plain (Ax (news:=(aa x0.2)) K5 .t1 I I I I I I (ai I)) fun A8 F1 M7=>AO (dk g0)<|Aj<|Aj<|MX.jo (α:=Bool) (fun g2=>[(6,vP p0),(9,vP c0),(10,vP q0),(12,vP G0),(54,.bool g2)]) (fun g2=>[.cells c0 [vI x0.1.fe] 85,.cells G0 (aa x0.2) 46,.cells q0 (aa b0.2.fw ++ aa b0.2.fx ++ aa b0.2.fy ++ aa b0.2.fa ++ aa b0.2.fb ++ aa b0.2.fc ++ aa b0.2.fd ++ aa b0.2.fn) 87,.cells p0 ae 46]) (fun g2=>g2) F1 h ?_ ?_
 rintro g2 c9 I2 P7 h
 try dsimp only at h
 refine MX.jo (α:=Int) (fun U1=>[(6,vP p0),(9,vP c0),(10,vP q0),(12,vP G0)]) (fun U1=>[.cells c0 [vI U1] 85,.cells G0 (aa x0.2) 46,.cells q0 (aa b0.2.fw ++ aa b0.2.fx ++ aa b0.2.fy ++ aa b0.2.fa ++ aa b0.2.fb ++ aa b0.2.fc ++ aa b0.2.fd ++ aa b0.2.fn) 87,.cells p0 ae 46]) (fun U1=>U1) I2 h ?_ ?_
 rintro U1 d9 J2 Q7 h
 try dsimp only at h
 refine Ac<|Ae I<|Ba 112 I<|Ab (Aq (cs:=(aa b0.2.fn)) I I (ac (J2.memA .t2) 112 16))<|Ba 112 I<|Ab (Aq (cs:=(aa b0.2.fn)) I I (ac (J2.memA .t2) 112 16))<|bk h fun t0 c7 h=>RG.callL (fst:=[]) (cap:=[]) .plain (bd 34) I (e3 I I I) (fun p q=>aa_c n _ hL (⟨U1⟩:Ti) (J2.agree q) b0.2.fn b0.2.fn c7) I fun B8 Z7 M5 R7 hu_=>?_
 subst hu_
 refine RG.nl ae M5 fun C8 k1 P5 U7=>AW (aa t0.2) P5 .hd (ai I) fun D8 F0 V7=>Aa<|Aj<|du 6 fun j0 b1=>Rv 0 j0 I b1 (fun _=>Ak I)<|Rv 2 j0 I b1 (fun _=>Ak I)<|Rv 3 j0 I b1 (fun _=>AS 96 I)<|bk h fun z0 z1 h=>bk h fun A1 x1 h=>BH (α:=Nat) (fun D1=>[(6,vP p0),(9,vP c0),(14,vP D1),(71,.agg ((aa A1.2)).toArray)]) (fun D1=>[.cells c0 [vI A1.1.fe] 85,.cells D1 ae 46,.cells p0 ae 46]) F0 1 511 ?_ ?_
 rintro D1 J8 A4 u7
 try dsimp only
 refine Bv 9 1023 j0 I I .plain (Ax (news:=(aa A1.2)) A4 .t1 I I I I I I (ai I)) fun d8 B1 v7=>AO (dk j0)<|Aj<|Ac<|Ae I<|Ab (BM I)<|Ba 0 I<|AY I ((B1.memA .hd) 0 _ I)<|Ab (FV.neq (i:=A1.1.fe) (j:=0) I I)<|Aa<|MX.ifn I h (fun d4 h=>?_) (fun d4 h=>?_)
 refine Az<|Ac<|Ab (AC I (B1.memA .t1))<|AW (aa A1.2) B1 .t2 (ai I) fun g8 F3 x7=>Ag I<|Aa<|Ao I<|Au hb0 func11 I (.cons (.many (cs:=(aa A1.2)) I I (F3.memA .t2)) (.cons (.tmp I) .nil)) I ?_
 cases h
 exact F3.gv
 refine Aj<|du 5 fun g1 G1=>Rv 0 g1 I G1 (fun _=>AP (vs:=[]) (u:=.agg zM) ak (fun p=>by kernel_rfl))<|Rv 1 g1 I G1 (fun _=>Ak I)<|Rv 2 g1 I G1 (fun _=>BM I)<|Rv 3 g1 I G1 (fun _=>AS 0 I)<|BH (α:=Unit) (fun ()=>[(6,vP p0),(14,vP D1),(81,vI A1.1.fe)]) (fun ()=>[.cells D1 (aa A1.2) 46,.cells p0 ae 46]) B1 1 63 ?_ ?_
 rintro ⟨⟩ K8 G3 y7
 try dsimp only
 refine Rv 6 g1 I G1 (fun _=>Bn I)<|AO (dk g1)<|Ao I<|Au hb0 func11 I (.cons (.many (cs:=ae) I I (G3.memA .t1)) (.cons (.tmp I) .nil)) I ?_
 cases h
 exact G3.gv
 intro p3
 refine AM [4,5] (rk g1) ⟨?_,?_,trivial⟩
 refine AV (m' :=31) (sk g1) I .plain I (AN I ((B1.memA .hd) 0 _ I))<|Bv 5 63 g1 I I .plain (Ax (news:=ae) B1 .t2 I I I I I I (ai I)) fun j7 p2 R2=>?_
 obtain ⟨D4,U5⟩:=Am p2 .d1
 exact p3 () D4 (Tt R2 U5)
 refine RO.now (m' :=47) (sk g1) I I .plain (Ax (news:=ae) B1 .t2 I I I I I I (ai I)) fun j7 p2 R2=>Rx 4 64 g1 I G1 (AN I ((p2.memA .hd) 0 _ I)) ?_
 obtain ⟨E4,V5⟩:=Am p2 .d1
 exact p3 () E4 (Tt R2 V5)
 intro s1
 refine BH (α:=Unit) (fun ()=>[(6,vP p0),(9,vP c0),(64,vP c0),(65,.agg ((aa t0.2)).toArray),(70,.agg ((aa z0.2)).toArray)]) (fun ()=>[.cells c0 [vI z0.1.fe] 85,.cells p0 ae 46]) F0 3 127 ?_ ?_
 rintro ⟨⟩ I8 E3 Q3
 try dsimp only
 refine AM [7,8] (rk j0) ⟨?_,?_,trivial⟩
 refine AQ (m' :=255) (fst:=[]) (cap:=[]) (sk j0) I I .plain (bd 32) I (e3 I I I) (fun p q=>ac_c n _ hL z0.1 (E3.agree q) t0.2 z0.2 x1) I fun R1 K1 R0 Z0 hu_=>?_
 subst hu_
 refine Ca 8 511 j0 I .plain I (Al ae R0) fun q1 B0 v0 D0=>?_
 obtain ⟨F4,W5⟩:=Am v0 (.a1 .d0)
 exact s1 B0 F4 (Tt Q3 (Tt Z0 (Tt D0 W5)))
 refine Bf (m' :=383) (sk j0) I .plain I (Al ae E3) fun q1 B0 v0 D0=>?_
 obtain ⟨K2,b3⟩:=Am v0 (.a1 .d0)
 refine AT (i:=7) (rk j0) (AQ (m' :=511) (fst:=[]) (cap:=[]) (sk j0) I I .plain (bd 32) I (e3 I I I) (fun p q=>ac_c n _ hL z0.1 (K2.agree q) t0.2 z0.2 x1) I (fun p7 g7 M2 c3 hu_=>?_))
 subst hu_
 exact s1 B0 M2 (Tt Q3 (Tt D0 (Tt b3 c3)))
 intro q3
 refine BH (α:=Nat) (fun C1=>[(6,vP p0),(9,vP c0),(13,vP k1),(64,vP c0),(66,vP c0),(14,vP C1),(68,.agg ((aa b0.2.fd)).toArray),(69,.agg ((aa x0.2)).toArray)]) (fun C1=>[.cells C1 ae 46,.cells k1 (aa t0.2) 46,.cells c0 [vI t0.1.fe] 85,.cells p0 ae 46]) F0 4 317 ?_ ?_
 rintro C1 H8 z2 P3
 try dsimp only
 refine AM [1,6] (rk j0) ⟨?_,?_,trivial⟩
 refine AV (m' :=319) (sk j0) I .plain I (AC I (z2.memA .t1)) ?_
 obtain ⟨Q0,X0⟩:=Am z2 (.a2 .d0)
 refine AT (i:=6) (rk j0) (AQ (m' :=383) (fst:=[]) (cap:=[]) (sk j0) I I .plain (bd 34) I (e3 I I I) (fun p q=>aa_c n _ hL t0.1 (Q0.agree q) b0.2.fd x0.2 z1) I (fun Q1 J1 I0 Y0 hu_=>?_))
 subst hu_
 refine AT (i:=7) (rk j0) (AQ (m' :=511) (fst:=[]) (cap:=[]) (sk j0) I I .plain (bd 32) I (e3 I I I) (fun p q=>ac_c n _ hL z0.1 (I0.agree q) t0.2 z0.2 x1) I (fun R1 K1 R0 Z0 hu_=>?_))
 subst hu_
 obtain ⟨G4,X5⟩:=Am R0 (.a0 (.a0 .d1))
 exact s1 C1 G4 (Tt P3 (Tt X0 (Tt Y0 (Tt Z0 X5))))
 obtain ⟨Q0,X0⟩:=Am z2 (.a2 .d0)
 refine AQ (m' :=381) (fst:=[]) (cap:=[]) (sk j0) I I .plain (bd 34) I (e3 I I I) (fun p q=>aa_c n _ hL t0.1 (Q0.agree q) b0.2.fd x0.2 z1) I fun Q1 J1 I0 Y0 hu_=>?_
 subst hu_
 refine Rx 1 640 j0 I b1 (AC I (I0.memA .t2))<|AT (i:=7) (rk j0) (AQ (m' :=511) (fst:=[]) (cap:=[]) (sk j0) I I .plain (bd 32) I (e3 I I I) (fun p q=>ac_c n _ hL z0.1 (I0.agree q) t0.2 z0.2 x1) I (fun R1 K1 R0 Z0 hu_=>?_))
 subst hu_
 obtain ⟨H4,Y5⟩:=Am R0 (.a0 (.a0 .d1))
 exact s1 C1 H4 (Tt P3 (Tt X0 (Tt Y0 (Tt Z0 Y5))))
 intro j2
 refine BH (α:=Unit) (fun ()=>[(6,vP p0),(9,vP c0),(13,vP k1),(64,vP c0),(70,.agg ((aa z0.2)).toArray)]) (fun ()=>[.cells c0 [vI z0.1.fe] 85,.cells k1 (aa t0.2) 46,.cells p0 ae 46]) F0 4 125 ?_ ?_
 rintro ⟨⟩ G8 y2 M3
 try dsimp only
 refine AM [1,8] (rk j0) ⟨?_,?_,trivial⟩
 refine AV (m' :=127) (sk j0) I .plain I (AC I (y2.memA .t1)) ?_
 obtain ⟨I4,Z5⟩:=Am y2 (.a0 .d1)
 exact q3 () I4 (Tt M3 Z5)
 refine Bf (m' :=381) (sk j0) I .plain I (Al ae y2) fun q1 B0 v0 D0=>Rx 1 640 j0 I b1 (AC I (v0.memA .t2)) ?_
 obtain ⟨K2,b3⟩:=Am v0 (.a1 .d0)
 refine AT (i:=7) (rk j0) (AQ (m' :=511) (fst:=[]) (cap:=[]) (sk j0) I I .plain (bd 32) I (e3 I I I) (fun p q=>ac_c n _ hL z0.1 (K2.agree q) t0.2 z0.2 x1) I (fun p7 g7 M2 c3 hu_=>?_))
 subst hu_
 obtain ⟨J4,b6⟩:=Am M2 (.a0 (.a0 .d1))
 exact s1 B0 J4 (Tt M3 (Tt D0 (Tt b3 (Tt c3 b6))))
 intro p4
 refine BH (α:=Unit) (fun ()=>[(6,vP p0),(9,vP c0),(64,vP c0),(66,vP c0),(65,.agg ((aa t0.2)).toArray),(68,.agg ((aa b0.2.fd)).toArray),(69,.agg ((aa x0.2)).toArray)]) (fun ()=>[.cells c0 [vI t0.1.fe] 85,.cells p0 ae 46]) F0 4 63 ?_ ?_
 rintro ⟨⟩ F8 D3 K3
 try dsimp only
 refine AM [6,8] (rk j0) ⟨?_,?_,trivial⟩
 refine AQ (m' :=127) (fst:=[]) (cap:=[]) (sk j0) I I .plain (bd 34) I (e3 I I I) (fun p q=>aa_c n _ hL t0.1 (D3.agree q) b0.2.fd x0.2 z1) I fun E8 b8 Q5 W6 hu_=>?_
 subst hu_
 exact q3 () Q5 (Tt K3 W6)
 refine Bf (m' :=319) (sk j0) I .plain I (Al ae D3) fun q1 B0 v0 D0=>?_
 obtain ⟨Q0,X0⟩:=Am v0 (.a1 .d0)
 refine AT (i:=6) (rk j0) (AQ (m' :=383) (fst:=[]) (cap:=[]) (sk j0) I I .plain (bd 34) I (e3 I I I) (fun p q=>aa_c n _ hL t0.1 (Q0.agree q) b0.2.fd x0.2 z1) I (fun Q1 J1 I0 Y0 hu_=>?_))
 subst hu_
 refine AT (i:=7) (rk j0) (AQ (m' :=511) (fst:=[]) (cap:=[]) (sk j0) I I .plain (bd 32) I (e3 I I I) (fun p q=>ac_c n _ hL z0.1 (I0.agree q) t0.2 z0.2 x1) I (fun R1 K1 R0 Z0 hu_=>?_))
 subst hu_
 exact s1 B0 R0 (Tt K3 (Tt D0 (Tt X0 (Tt Y0 Z0))))
 intro v2
 refine BH (α:=Unit) (fun ()=>[(6,vP p0),(9,vP c0),(13,vP k1),(64,vP c0),(66,vP c0),(68,.agg ((aa b0.2.fd)).toArray),(69,.agg ((aa x0.2)).toArray)]) (fun ()=>[.cells k1 (aa t0.2) 46,.cells c0 [vI t0.1.fe] 85,.cells p0 ae 46]) F0 5 61 ?_ ?_
 rintro ⟨⟩ s9 s2 k3
 try dsimp only
 refine AM [1,6,8] (rk j0) ⟨?_,?_,?_,trivial⟩
 refine AV (m' :=63) (sk j0) I .plain I (AC I (s2.memA .hd)) ?_
 obtain ⟨K4,c6⟩:=Am s2 .d1
 exact v2 () K4 (Tt k3 c6)
 obtain ⟨Q0,X0⟩:=Am s2 (.a1 .d0)
 refine AQ (m' :=125) (fst:=[]) (cap:=[]) (sk j0) I I .plain (bd 34) I (e3 I I I) (fun p q=>aa_c n _ hL t0.1 (Q0.agree q) b0.2.fd x0.2 z1) I fun Q1 J1 I0 Y0 hu_=>?_
 subst hu_
 exact p4 () I0 (Tt k3 (Tt X0 Y0))
 refine Bf (m' :=317) (sk j0) I .plain I (Al ae s2) fun q1 B0 v0 D0=>j2 B0 v0 (Tt k3 D0)
 intro s3
 refine BH (α:=Unit) (fun ()=>[(6,vP p0),(9,vP c0),(64,vP c0),(66,vP c0),(67,.pointer (some (Addr.add ⟨q0,0,none⟩ 96))),(65,.agg ((aa t0.2)).toArray),(69,.agg ((aa x0.2)).toArray)]) (fun ()=>[.cells c0 [vI t0.1.fe] 85,.cells q0 (aa b0.2.fw ++ aa b0.2.fx ++ aa b0.2.fy ++ aa b0.2.fa ++ aa b0.2.fb ++ aa b0.2.fc ++ aa b0.2.fd ++ aa b0.2.fn) 87,.cells p0 ae 46]) F0 5 47 ?_ ?_
 rintro ⟨⟩ q9 Q2 b4
 try dsimp only
 refine AM [4,8] (rk j0) ⟨?_,?_,trivial⟩
 refine AV (m' :=63) (sk j0) I .plain I (Aq (cs:=(aa b0.2.fd)) I I (ac (Q2.memA .t1) 96 16)) ?_
 obtain ⟨M4,d6⟩:=Am Q2 (.a0 .d1)
 exact v2 () M4 (Tt b4 d6)
 refine Bf (m' :=303) (sk j0) I .plain I (Al ae Q2) fun q1 B0 v0 D0=>Rx 4 704 j0 I b1 (Aq (cs:=(aa b0.2.fd)) I I (ac (v0.memA .t2) 96 16)) ?_
 obtain ⟨Q0,X0⟩:=Am v0 (.a1 .d0)
 refine AT (i:=6) (rk j0) (AQ (m' :=383) (fst:=[]) (cap:=[]) (sk j0) I I .plain (bd 34) I (e3 I I I) (fun p q=>aa_c n _ hL t0.1 (Q0.agree q) b0.2.fd x0.2 z1) I (fun Q1 J1 I0 Y0 hu_=>?_))
 subst hu_
 refine AT (i:=7) (rk j0) (AQ (m' :=511) (fst:=[]) (cap:=[]) (sk j0) I I .plain (bd 32) I (e3 I I I) (fun p q=>ac_c n _ hL z0.1 (I0.agree q) t0.2 z0.2 x1) I (fun R1 K1 R0 Z0 hu_=>?_))
 subst hu_
 obtain ⟨P4,g6⟩:=Am R0 (.a0 (.a0 .d1))
 exact s1 B0 P4 (Tt b4 (Tt D0 (Tt X0 (Tt Y0 (Tt Z0 g6)))))
 intro u3
 refine BH (α:=Unit) (fun ()=>[(6,vP p0),(9,vP c0),(12,vP G0),(64,vP c0),(66,vP c0),(65,.agg ((aa t0.2)).toArray),(68,.agg ((aa b0.2.fd)).toArray)]) (fun ()=>[.cells c0 [vI t0.1.fe] 85,.cells G0 (aa x0.2) 46,.cells p0 ae 46]) F0 5 31 ?_ ?_
 rintro ⟨⟩ p9 P2 Z3
 try dsimp only
 refine AM [5,8] (rk j0) ⟨?_,?_,trivial⟩
 refine AV (m' :=63) (sk j0) I .plain I (AC I (P2.memA .t1)) ?_
 obtain ⟨Q4,j6⟩:=Am P2 (.a0 .d1)
 exact v2 () Q4 (Tt Z3 j6)
 refine Bf (m' :=287) (sk j0) I .plain I (Al ae P2) fun q1 B0 v0 D0=>Rx 5 704 j0 I b1 (AC I (v0.memA .t2)) ?_
 obtain ⟨Q0,X0⟩:=Am v0 (.a1 .d0)
 refine AT (i:=6) (rk j0) (AQ (m' :=383) (fst:=[]) (cap:=[]) (sk j0) I I .plain (bd 34) I (e3 I I I) (fun p q=>aa_c n _ hL t0.1 (Q0.agree q) b0.2.fd x0.2 z1) I (fun Q1 J1 I0 Y0 hu_=>?_))
 subst hu_
 refine AT (i:=7) (rk j0) (AQ (m' :=511) (fst:=[]) (cap:=[]) (sk j0) I I .plain (bd 32) I (e3 I I I) (fun p q=>ac_c n _ hL z0.1 (I0.agree q) t0.2 z0.2 x1) I (fun R1 K1 R0 Z0 hu_=>?_))
 subst hu_
 obtain ⟨R4,k6⟩:=Am R0 (.a0 (.a0 .d1))
 exact s1 B0 R4 (Tt Z3 (Tt D0 (Tt X0 (Tt Y0 (Tt Z0 k6)))))
 intro v3
 refine BH (α:=Unit) (fun ()=>[(6,vP p0),(9,vP c0),(13,vP k1),(64,vP c0),(66,vP c0),(67,.pointer (some (Addr.add ⟨q0,0,none⟩ 96))),(69,.agg ((aa x0.2)).toArray)]) (fun ()=>[.cells k1 (aa t0.2) 46,.cells c0 [vI t0.1.fe] 85,.cells q0 (aa b0.2.fw ++ aa b0.2.fx ++ aa b0.2.fy ++ aa b0.2.fa ++ aa b0.2.fb ++ aa b0.2.fc ++ aa b0.2.fd ++ aa b0.2.fn) 87,.cells p0 ae 46]) F0 6 45 ?_ ?_
 rintro ⟨⟩ k9 c2 j3
 try dsimp only
 refine AM [1,4,8] (rk j0) ⟨?_,?_,?_,trivial⟩
 refine AV (m' :=47) (sk j0) I .plain I (AC I (c2.memA .hd)) ?_
 obtain ⟨U4,p6⟩:=Am c2 .d1
 exact u3 () U4 (Tt j3 p6)
 refine AV (m' :=61) (sk j0) I .plain I (Aq (cs:=(aa b0.2.fd)) I I (ac (c2.memA .t2) 96 16)) ?_
 obtain ⟨V4,q6⟩:=Am c2 (.a0 (.a0 .d1))
 exact s3 () V4 (Tt j3 q6)
 refine Bf (m' :=301) (sk j0) I .plain I (Al ae c2) fun q1 B0 v0 D0=>Rx 4 704 j0 I b1 (Aq (cs:=(aa b0.2.fd)) I I (ac (v0.memA .t3) 96 16)) ?_
 obtain ⟨W4,s6⟩:=Am v0 (.a0 (.a0 (.a0 .d1)))
 exact j2 B0 W4 (Tt j3 (Tt D0 s6))
 intro q4
 refine BH (α:=Unit) (fun ()=>[(6,vP p0),(9,vP c0),(12,vP G0),(13,vP k1),(64,vP c0),(66,vP c0),(68,.agg ((aa b0.2.fd)).toArray)]) (fun ()=>[.cells k1 (aa t0.2) 46,.cells c0 [vI t0.1.fe] 85,.cells G0 (aa x0.2) 46,.cells p0 ae 46]) F0 6 29 ?_ ?_
 rintro ⟨⟩ j9 b2 g3
 try dsimp only
 refine AM [1,5,8] (rk j0) ⟨?_,?_,?_,trivial⟩
 refine AV (m' :=31) (sk j0) I .plain I (AC I (b2.memA .hd)) ?_
 obtain ⟨X4,t6⟩:=Am b2 .d1
 exact v3 () X4 (Tt g3 t6)
 refine AV (m' :=61) (sk j0) I .plain I (AC I (b2.memA .t2)) ?_
 obtain ⟨Y4,u6⟩:=Am b2 (.a0 (.a0 .d1))
 exact s3 () Y4 (Tt g3 u6)
 refine Bf (m' :=285) (sk j0) I .plain I (Al ae b2) fun q1 B0 v0 D0=>Rx 5 704 j0 I b1 (AC I (v0.memA .t3)) ?_
 obtain ⟨Z4,v6⟩:=Am v0 (.a0 (.a0 (.a0 .d1)))
 exact j2 B0 Z4 (Tt g3 (Tt D0 v6))
 intro s4
 refine BH (α:=Unit) (fun ()=>[(6,vP p0),(9,vP c0),(12,vP G0),(64,vP c0),(66,vP c0),(67,.pointer (some (Addr.add ⟨q0,0,none⟩ 96))),(65,.agg ((aa t0.2)).toArray)]) (fun ()=>[.cells c0 [vI t0.1.fe] 85,.cells G0 (aa x0.2) 46,.cells q0 (aa b0.2.fw ++ aa b0.2.fx ++ aa b0.2.fy ++ aa b0.2.fa ++ aa b0.2.fb ++ aa b0.2.fc ++ aa b0.2.fd ++ aa b0.2.fn) 87,.cells p0 ae 46]) F0 6 15 ?_ ?_
 rintro ⟨⟩ g9 Z1 d3
 try dsimp only
 refine AM [4,5,8] (rk j0) ⟨?_,?_,?_,trivial⟩
 refine AV (m' :=31) (sk j0) I .plain I (Aq (cs:=(aa b0.2.fd)) I I (ac (Z1.memA .t2) 96 16)) ?_
 obtain ⟨b5,x6⟩:=Am Z1 (.a0 (.a0 .d1))
 exact v3 () b5 (Tt d3 x6)
 refine AV (m' :=47) (sk j0) I .plain I (AC I (Z1.memA .t1)) ?_
 obtain ⟨c5,y6⟩:=Am Z1 (.a0 .d1)
 exact u3 () c5 (Tt d3 y6)
 refine Bf (m' :=271) (sk j0) I .plain I (Al ae Z1) fun q1 B0 v0 D0=>Rx 4 704 j0 I b1 (Aq (cs:=(aa b0.2.fd)) I I (ac (v0.memA .t3) 96 16))<|Rx 5 704 j0 I b1 (AC I (v0.memA .t2)) ?_
 obtain ⟨Q0,X0⟩:=Am v0 (.a1 .d0)
 refine AT (i:=6) (rk j0) (AQ (m' :=383) (fst:=[]) (cap:=[]) (sk j0) I I .plain (bd 34) I (e3 I I I) (fun p q=>aa_c n _ hL t0.1 (Q0.agree q) b0.2.fd x0.2 z1) I (fun Q1 J1 I0 Y0 hu_=>?_))
 subst hu_
 refine AT (i:=7) (rk j0) (AQ (m' :=511) (fst:=[]) (cap:=[]) (sk j0) I I .plain (bd 32) I (e3 I I I) (fun p q=>ac_c n _ hL z0.1 (I0.agree q) t0.2 z0.2 x1) I (fun R1 K1 R0 Z0 hu_=>?_))
 subst hu_
 obtain ⟨d5,z6⟩:=Am R0 (.a0 (.a0 .d2))
 exact s1 B0 d5 (Tt d3 (Tt D0 (Tt X0 (Tt Y0 (Tt Z0 z6)))))
 intro u4
 refine AM [1,4,5,8] (rk j0) ⟨?_,?_,?_,?_,trivial⟩
 refine AV (m' :=15) (sk j0) I .plain I (AC I (F0.memA .hd)) ?_
 obtain ⟨g5,A6⟩:=Am F0 .d1
 exact u4 () g5 A6
 refine AV (m' :=29) (sk j0) I .plain I (Aq (cs:=(aa b0.2.fd)) I I (ac (F0.memA .t3) 96 16)) ?_
 obtain ⟨j5,B6⟩:=Am F0 (.a0 (.a0 (.a0 .d1)))
 exact s4 () j5 B6
 refine AV (m' :=45) (sk j0) I .plain I (AC I (F0.memA .t2)) ?_
 obtain ⟨k5,C6⟩:=Am F0 (.a0 (.a0 .d1))
 exact q4 () k5 C6
 refine Bf (m' :=269) (sk j0) I .plain I (Al ae F0) fun q1 B0 v0 D0=>Rx 4 704 j0 I b1 (Aq (cs:=(aa b0.2.fd)) I I (ac (v0.memA .t4) 96 16))<|Rx 5 704 j0 I b1 (AC I (v0.memA .t3)) ?_
 obtain ⟨p5,D6⟩:=Am v0 (.a0 (.a0 (.a0 .d2)))
 exact j2 B0 p5 (Tt D0 D6)
 intro s7 C3 h
 try dsimp only at h
 refine MX.ifb I h (fun g4 h=>?_) (fun g4 h=>?_)
 refine Av<|Ae I<|Ab (BM I)<|Ba 0 I<|BU .plain (Bs (j:=0) (old:=[vI x0.1.fe]) (news:=[vI 7]) (new' :=[vI 7]) I2 .hd I I I I I I (o1 I) I) fun k8 q5 E6=>Aa<|C3 7 q5 E6 h
 refine Az<|C3 x0.1.fe I2 (Br _ _) h
 intro q7 B3 h
 try dsimp only at h
 refine du 10 fun K0 c1=>Rv 0 K0 I c1 (fun _=>Ak I)<|Rv 1 K0 I c1 (fun _=>BM I)<|Rv 2 K0 I c1 (fun _=>AS 0 I)<|Rx 3 1008 K0 I c1 (AN I ((F1.memA .hd) 0 _ I))<|Rv 4 K0 I c1 (fun _=>FV.eql (i:=x0.1.fe) (j:=0) I I)<|Rv 5 K0 I c1 (fun _=>Ak I)<|RD.ifd (s:=50) I h (fun j4 h=>?_) (fun j4 h=>?_)
 refine RD.val (i:=6) (m' :=127) (W:=768) (tk K0) I c1 (.yes I I) (AC I (F1.memA .t1)) I<|bk h fun u2 X6 h=>RD.callq (i:=7) (m' :=255) (W:=768) (tk K0) I c1 (v:=.agg ((aa u2)).toArray) (fst:=[]) (cap:=[]) (.yes I I) (bd 38) I (e2 I I) (fun p q=>am_c n (F1.hL0 hL q)  X6) I<|RD.vP 8 511 K0 I c1 (.yes I I) (fun _=>FV.eqlV (v:=.agg ((aa x0.2)).toArray) (u:=.agg ((aa u2)).toArray) I I (bG x0.2 u2)) I<|Rv 9 K0 I c1 (fun _=>BY I I)<|AO (dk K0)<|B3 (decide (x0.2 = u2)) F1 (Br _ _) h
 refine BS 511 1 [(6,51),(7,52),(8,53)] (F:=[(50,false)]) (U:=[]) K0 c1 (.cons I .nil) .nil ?_
 dsimp only [bg,List.map]
 refine Rv 9 K0 I c1 (fun _=>BA I I)<|AO (dk K0)<|B3 false F1 (Br _ _) h
 intro u1
 refine BH (α:=Unit) (fun ()=>[(6,vP p0),(9,vP c0),(10,vP q0),(36,vP c0),(37,.agg ((aa s0.2)).toArray),(43,.agg ((aa y0.2)).toArray)]) (fun ()=>[.cells c0 [vI y0.1.fe] 85,.cells q0 (aa b0.2.fw ++ aa b0.2.fx ++ aa b0.2.fy ++ aa b0.2.fa ++ aa b0.2.fb ++ aa b0.2.fc ++ aa b0.2.fd ++ aa b0.2.fn) 87,.cells p0 ae 46]) E0 3 255 ?_ ?_
 rintro ⟨⟩ Z8 J3 Y3
 try dsimp only
 refine AM [8,9] (rk g0) ⟨?_,?_,trivial⟩
 refine AQ (m' :=511) (fst:=[]) (cap:=[]) (sk g0) I I .plain (bd 33) I (e3 I I I) (fun p q=>ab_c n _ hL y0.1 (J3.agree q) s0.2 y0.2 v1) I fun P1 I1 P0 W0 hu_=>?_
 subst hu_
 refine Ca 9 1023 g0 I .plain I (Al ae P0) fun p1 A0 u0 C0=>?_
 obtain ⟨s5,F6⟩:=Am u0 (.a1 .d0)
 exact u1 A0 s5 (Tt Y3 (Tt W0 (Tt C0 F6)))
 refine Bf (m' :=767) (sk g0) I .plain I (Al ae J3) fun p1 A0 u0 C0=>?_
 obtain ⟨A2,U2⟩:=Am u0 (.a1 .d0)
 refine AT (i:=8) (rk g0) (AQ (m' :=1023) (fst:=[]) (cap:=[]) (sk g0) I I .plain (bd 33) I (e3 I I I) (fun p q=>ab_c n _ hL y0.1 (A2.agree q) s0.2 y0.2 v1) I (fun k7 d7 B2 V2 hu_=>?_))
 subst hu_
 exact u1 A0 B2 (Tt Y3 (Tt C0 (Tt U2 V2)))
 intro x3
 refine BH (α:=Nat) (fun E1=>[(6,vP p0),(9,vP c0),(10,vP q0),(11,vP j1),(36,vP c0),(38,vP c0),(12,vP E1),(40,.agg ((aa b0.2.fy)).toArray),(42,.agg ((aa b0.2.fy)).toArray)]) (fun E1=>[.cells E1 ae 46,.cells j1 (aa s0.2) 46,.cells c0 [vI s0.1.fe] 85,.cells q0 (aa b0.2.fw ++ aa b0.2.fx ++ aa b0.2.fy ++ aa b0.2.fa ++ aa b0.2.fb ++ aa b0.2.fc ++ aa b0.2.fd ++ aa b0.2.fn) 87,.cells p0 ae 46]) E0 4 637 ?_ ?_
 rintro E1 Y8 H2 X3
 try dsimp only
 refine AM [1,7] (rk g0) ⟨?_,?_,trivial⟩
 refine AV (m' :=639) (sk g0) I .plain I (AC I (H2.memA .t1)) ?_
 obtain ⟨M0,U0⟩:=Am H2 (.a2 .d0)
 refine AT (i:=7) (rk g0) (AQ (m' :=767) (fst:=[]) (cap:=[]) (sk g0) I I .plain (bd 34) I (e3 I I I) (fun p q=>aa_c n _ hL s0.1 (M0.agree q) b0.2.fy b0.2.fy y1) I (fun M1 H1 H0 V0 hu_=>?_))
 subst hu_
 refine AT (i:=8) (rk g0) (AQ (m' :=1023) (fst:=[]) (cap:=[]) (sk g0) I I .plain (bd 33) I (e3 I I I) (fun p q=>ab_c n _ hL y0.1 (H0.agree q) s0.2 y0.2 v1) I (fun P1 I1 P0 W0 hu_=>?_))
 subst hu_
 obtain ⟨t5,G6⟩:=Am P0 (.a0 (.a0 .d1))
 exact u1 E1 t5 (Tt X3 (Tt U0 (Tt V0 (Tt W0 G6))))
 obtain ⟨M0,U0⟩:=Am H2 (.a2 .d0)
 refine AQ (m' :=765) (fst:=[]) (cap:=[]) (sk g0) I I .plain (bd 34) I (e3 I I I) (fun p q=>aa_c n _ hL s0.1 (M0.agree q) b0.2.fy b0.2.fy y1) I fun M1 H1 H0 V0 hu_=>?_
 subst hu_
 refine Rx 1 1280 g0 I J0 (AC I (H0.memA .t2))<|AT (i:=8) (rk g0) (AQ (m' :=1023) (fst:=[]) (cap:=[]) (sk g0) I I .plain (bd 33) I (e3 I I I) (fun p q=>ab_c n _ hL y0.1 (H0.agree q) s0.2 y0.2 v1) I (fun P1 I1 P0 W0 hu_=>?_))
 subst hu_
 obtain ⟨u5,H6⟩:=Am P0 (.a0 (.a0 .d1))
 exact u1 E1 u5 (Tt X3 (Tt U0 (Tt V0 (Tt W0 H6))))
 intro k2
 refine BH (α:=Unit) (fun ()=>[(6,vP p0),(9,vP c0),(10,vP q0),(11,vP j1),(36,vP c0),(43,.agg ((aa y0.2)).toArray)]) (fun ()=>[.cells c0 [vI y0.1.fe] 85,.cells j1 (aa s0.2) 46,.cells q0 (aa b0.2.fw ++ aa b0.2.fx ++ aa b0.2.fy ++ aa b0.2.fa ++ aa b0.2.fb ++ aa b0.2.fc ++ aa b0.2.fd ++ aa b0.2.fn) 87,.cells p0 ae 46]) E0 4 253 ?_ ?_
 rintro ⟨⟩ X8 G2 W3
 try dsimp only
 refine AM [1,9] (rk g0) ⟨?_,?_,trivial⟩
 refine AV (m' :=255) (sk g0) I .plain I (AC I (G2.memA .t1)) ?_
 obtain ⟨v5,I6⟩:=Am G2 (.a0 .d1)
 exact x3 () v5 (Tt W3 I6)
 refine Bf (m' :=765) (sk g0) I .plain I (Al ae G2) fun p1 A0 u0 C0=>Rx 1 1280 g0 I J0 (AC I (u0.memA .t2)) ?_
 obtain ⟨A2,U2⟩:=Am u0 (.a1 .d0)
 refine AT (i:=8) (rk g0) (AQ (m' :=1023) (fst:=[]) (cap:=[]) (sk g0) I I .plain (bd 33) I (e3 I I I) (fun p q=>ab_c n _ hL y0.1 (A2.agree q) s0.2 y0.2 v1) I (fun k7 d7 B2 V2 hu_=>?_))
 subst hu_
 obtain ⟨x5,J6⟩:=Am B2 (.a0 (.a0 .d1))
 exact u1 A0 x5 (Tt W3 (Tt C0 (Tt U2 (Tt V2 J6))))
 intro v4
 refine BH (α:=Unit) (fun ()=>[(6,vP p0),(9,vP c0),(10,vP q0),(36,vP c0),(38,vP c0),(37,.agg ((aa s0.2)).toArray),(40,.agg ((aa b0.2.fy)).toArray),(42,.agg ((aa b0.2.fy)).toArray)]) (fun ()=>[.cells c0 [vI s0.1.fe] 85,.cells q0 (aa b0.2.fw ++ aa b0.2.fx ++ aa b0.2.fy ++ aa b0.2.fa ++ aa b0.2.fb ++ aa b0.2.fc ++ aa b0.2.fd ++ aa b0.2.fn) 87,.cells p0 ae 46]) E0 4 127 ?_ ?_
 rintro ⟨⟩ W8 I3 V3
 try dsimp only
 refine AM [7,9] (rk g0) ⟨?_,?_,trivial⟩
 refine AQ (m' :=255) (fst:=[]) (cap:=[]) (sk g0) I I .plain (bd 34) I (e3 I I I) (fun p q=>aa_c n _ hL s0.1 (I3.agree q) b0.2.fy b0.2.fy y1) I fun j8 W7 C4 R5 hu_=>?_
 subst hu_
 exact x3 () C4 (Tt V3 R5)
 refine Bf (m' :=639) (sk g0) I .plain I (Al ae I3) fun p1 A0 u0 C0=>?_
 obtain ⟨M0,U0⟩:=Am u0 (.a1 .d0)
 refine AT (i:=7) (rk g0) (AQ (m' :=767) (fst:=[]) (cap:=[]) (sk g0) I I .plain (bd 34) I (e3 I I I) (fun p q=>aa_c n _ hL s0.1 (M0.agree q) b0.2.fy b0.2.fy y1) I (fun M1 H1 H0 V0 hu_=>?_))
 subst hu_
 refine AT (i:=8) (rk g0) (AQ (m' :=1023) (fst:=[]) (cap:=[]) (sk g0) I I .plain (bd 33) I (e3 I I I) (fun p q=>ab_c n _ hL y0.1 (H0.agree q) s0.2 y0.2 v1) I (fun P1 I1 P0 W0 hu_=>?_))
 subst hu_
 exact u1 A0 P0 (Tt V3 (Tt C0 (Tt U0 (Tt V0 W0))))
 intro x2
 refine BH (α:=Unit) (fun ()=>[(6,vP p0),(9,vP c0),(10,vP q0),(11,vP j1),(36,vP c0),(38,vP c0),(40,.agg ((aa b0.2.fy)).toArray),(42,.agg ((aa b0.2.fy)).toArray)]) (fun ()=>[.cells j1 (aa s0.2) 46,.cells c0 [vI s0.1.fe] 85,.cells q0 (aa b0.2.fw ++ aa b0.2.fx ++ aa b0.2.fy ++ aa b0.2.fa ++ aa b0.2.fb ++ aa b0.2.fc ++ aa b0.2.fd ++ aa b0.2.fn) 87,.cells p0 ae 46]) E0 5 125 ?_ ?_
 rintro ⟨⟩ V8 q2 Z2
 try dsimp only
 refine AM [1,7,9] (rk g0) ⟨?_,?_,?_,trivial⟩
 refine AV (m' :=127) (sk g0) I .plain I (AC I (q2.memA .hd)) ?_
 obtain ⟨y5,K6⟩:=Am q2 .d1
 exact x2 () y5 (Tt Z2 K6)
 obtain ⟨M0,U0⟩:=Am q2 (.a1 .d0)
 refine AQ (m' :=253) (fst:=[]) (cap:=[]) (sk g0) I I .plain (bd 34) I (e3 I I I) (fun p q=>aa_c n _ hL s0.1 (M0.agree q) b0.2.fy b0.2.fy y1) I fun M1 H1 H0 V0 hu_=>?_
 subst hu_
 exact v4 () H0 (Tt Z2 (Tt U0 V0))
 refine Bf (m' :=637) (sk g0) I .plain I (Al ae q2) fun p1 A0 u0 C0=>k2 A0 u0 (Tt Z2 C0)
 intro y3
 refine BH (α:=Unit) (fun ()=>[(6,vP p0),(9,vP c0),(10,vP q0),(36,vP c0),(38,vP c0),(39,.pointer (some (Addr.add ⟨q0,0,none⟩ 32))),(37,.agg ((aa s0.2)).toArray),(42,.agg ((aa b0.2.fy)).toArray)]) (fun ()=>[.cells c0 [vI s0.1.fe] 85,.cells q0 (aa b0.2.fw ++ aa b0.2.fx ++ aa b0.2.fy ++ aa b0.2.fa ++ aa b0.2.fb ++ aa b0.2.fc ++ aa b0.2.fd ++ aa b0.2.fn) 87,.cells p0 ae 46]) E0 5 111 ?_ ?_
 rintro ⟨⟩ U8 E2 U3
 try dsimp only
 refine AM [4,9] (rk g0) ⟨?_,?_,trivial⟩
 refine AV (m' :=127) (sk g0) I .plain I (Aq (cs:=(aa b0.2.fy)) I I (ac (E2.memA .t1) 32 16))<|x2 () E2 U3
 refine Bf (m' :=623) (sk g0) I .plain I (Al ae E2) fun p1 A0 u0 C0=>Rx 4 1408 g0 I J0 (Aq (cs:=(aa b0.2.fy)) I I (ac (u0.memA .t2) 32 16)) ?_
 obtain ⟨M0,U0⟩:=Am u0 (.a1 .d0)
 refine AT (i:=7) (rk g0) (AQ (m' :=767) (fst:=[]) (cap:=[]) (sk g0) I I .plain (bd 34) I (e3 I I I) (fun p q=>aa_c n _ hL s0.1 (M0.agree q) b0.2.fy b0.2.fy y1) I (fun M1 H1 H0 V0 hu_=>?_))
 subst hu_
 refine AT (i:=8) (rk g0) (AQ (m' :=1023) (fst:=[]) (cap:=[]) (sk g0) I I .plain (bd 33) I (e3 I I I) (fun p q=>ab_c n _ hL y0.1 (H0.agree q) s0.2 y0.2 v1) I (fun P1 I1 P0 W0 hu_=>?_))
 subst hu_
 exact u1 A0 P0 (Tt U3 (Tt C0 (Tt U0 (Tt V0 W0))))
 intro z3
 refine BH (α:=Unit) (fun ()=>[(6,vP p0),(9,vP c0),(10,vP q0),(36,vP c0),(38,vP c0),(41,.pointer (some (Addr.add ⟨q0,0,none⟩ 32))),(37,.agg ((aa s0.2)).toArray),(40,.agg ((aa b0.2.fy)).toArray)]) (fun ()=>[.cells c0 [vI s0.1.fe] 85,.cells q0 (aa b0.2.fw ++ aa b0.2.fx ++ aa b0.2.fy ++ aa b0.2.fa ++ aa b0.2.fb ++ aa b0.2.fc ++ aa b0.2.fd ++ aa b0.2.fn) 87,.cells p0 ae 46]) E0 5 63 ?_ ?_
 rintro ⟨⟩ R8 D2 R3
 try dsimp only
 refine AM [6,9] (rk g0) ⟨?_,?_,trivial⟩
 refine AV (m' :=127) (sk g0) I .plain I (Aq (cs:=(aa b0.2.fy)) I I (ac (D2.memA .t1) 32 16))<|x2 () D2 R3
 refine Bf (m' :=575) (sk g0) I .plain I (Al ae D2) fun p1 A0 u0 C0=>Rx 6 1408 g0 I J0 (Aq (cs:=(aa b0.2.fy)) I I (ac (u0.memA .t2) 32 16)) ?_
 obtain ⟨M0,U0⟩:=Am u0 (.a1 .d0)
 refine AT (i:=7) (rk g0) (AQ (m' :=767) (fst:=[]) (cap:=[]) (sk g0) I I .plain (bd 34) I (e3 I I I) (fun p q=>aa_c n _ hL s0.1 (M0.agree q) b0.2.fy b0.2.fy y1) I (fun M1 H1 H0 V0 hu_=>?_))
 subst hu_
 refine AT (i:=8) (rk g0) (AQ (m' :=1023) (fst:=[]) (cap:=[]) (sk g0) I I .plain (bd 33) I (e3 I I I) (fun p q=>ab_c n _ hL y0.1 (H0.agree q) s0.2 y0.2 v1) I (fun P1 I1 P0 W0 hu_=>?_))
 subst hu_
 exact u1 A0 P0 (Tt R3 (Tt C0 (Tt U0 (Tt V0 W0))))
 intro A3
 refine BH (α:=Unit) (fun ()=>[(6,vP p0),(9,vP c0),(10,vP q0),(11,vP j1),(36,vP c0),(38,vP c0),(39,.pointer (some (Addr.add ⟨q0,0,none⟩ 32))),(42,.agg ((aa b0.2.fy)).toArray)]) (fun ()=>[.cells j1 (aa s0.2) 46,.cells c0 [vI s0.1.fe] 85,.cells q0 (aa b0.2.fw ++ aa b0.2.fx ++ aa b0.2.fy ++ aa b0.2.fa ++ aa b0.2.fb ++ aa b0.2.fc ++ aa b0.2.fd ++ aa b0.2.fn) 87,.cells p0 ae 46]) E0 6 109 ?_ ?_
 rintro ⟨⟩ Q8 Y1 Y2
 try dsimp only
 refine AM [1,4,9] (rk g0) ⟨?_,?_,?_,trivial⟩
 refine AV (m' :=111) (sk g0) I .plain I (AC I (Y1.memA .hd)) ?_
 obtain ⟨z5,M6⟩:=Am Y1 .d1
 exact z3 () z5 (Tt Y2 M6)
 refine AV (m' :=125) (sk g0) I .plain I (Aq (cs:=(aa b0.2.fy)) I I (ac (Y1.memA .t2) 32 16))<|y3 () Y1 Y2
 refine Bf (m' :=621) (sk g0) I .plain I (Al ae Y1) fun p1 A0 u0 C0=>Rx 4 1408 g0 I J0 (Aq (cs:=(aa b0.2.fy)) I I (ac (u0.memA .t3) 32 16))<|k2 A0 u0 (Tt Y2 C0)
 intro x4
 refine BH (α:=Unit) (fun ()=>[(6,vP p0),(9,vP c0),(10,vP q0),(11,vP j1),(36,vP c0),(38,vP c0),(41,.pointer (some (Addr.add ⟨q0,0,none⟩ 32))),(40,.agg ((aa b0.2.fy)).toArray)]) (fun ()=>[.cells j1 (aa s0.2) 46,.cells c0 [vI s0.1.fe] 85,.cells q0 (aa b0.2.fw ++ aa b0.2.fx ++ aa b0.2.fy ++ aa b0.2.fa ++ aa b0.2.fb ++ aa b0.2.fc ++ aa b0.2.fd ++ aa b0.2.fn) 87,.cells p0 ae 46]) E0 6 61 ?_ ?_
 rintro ⟨⟩ P8 X1 X2
 try dsimp only
 refine AM [1,6,9] (rk g0) ⟨?_,?_,?_,trivial⟩
 refine AV (m' :=63) (sk g0) I .plain I (AC I (X1.memA .hd)) ?_
 obtain ⟨A5,P6⟩:=Am X1 .d1
 exact A3 () A5 (Tt X2 P6)
 refine AV (m' :=125) (sk g0) I .plain I (Aq (cs:=(aa b0.2.fy)) I I (ac (X1.memA .t2) 32 16))<|y3 () X1 X2
 refine Bf (m' :=573) (sk g0) I .plain I (Al ae X1) fun p1 A0 u0 C0=>Rx 6 1408 g0 I J0 (Aq (cs:=(aa b0.2.fy)) I I (ac (u0.memA .t3) 32 16))<|k2 A0 u0 (Tt X2 C0)
 intro y4
 refine BH (α:=Unit) (fun ()=>[(6,vP p0),(9,vP c0),(10,vP q0),(36,vP c0),(38,vP c0),(39,.pointer (some (Addr.add ⟨q0,0,none⟩ 32))),(41,.pointer (some (Addr.add ⟨q0,0,none⟩ 32))),(37,.agg ((aa s0.2)).toArray)]) (fun ()=>[.cells c0 [vI s0.1.fe] 85,.cells q0 (aa b0.2.fw ++ aa b0.2.fx ++ aa b0.2.fy ++ aa b0.2.fa ++ aa b0.2.fb ++ aa b0.2.fc ++ aa b0.2.fd ++ aa b0.2.fn) 87,.cells p0 ae 46]) E0 6 47 ?_ ?_
 rintro ⟨⟩ M8 W1 W2
 try dsimp only
 refine AM [4,6,9] (rk g0) ⟨?_,?_,?_,trivial⟩
 refine AV (m' :=63) (sk g0) I .plain I (Aq (cs:=(aa b0.2.fy)) I I (ac (W1.memA .t1) 32 16))<|A3 () W1 W2
 refine AV (m' :=111) (sk g0) I .plain I (Aq (cs:=(aa b0.2.fy)) I I (ac (W1.memA .t1) 32 16))<|z3 () W1 W2
 refine Bf (m' :=559) (sk g0) I .plain I (Al ae W1) fun p1 A0 u0 C0=>Rx 4 1408 g0 I J0 (Aq (cs:=(aa b0.2.fy)) I I (ac (u0.memA .t2) 32 16))<|Rx 6 1408 g0 I J0 (Aq (cs:=(aa b0.2.fy)) I I (ac (u0.memA .t2) 32 16)) ?_
 obtain ⟨M0,U0⟩:=Am u0 (.a1 .d0)
 refine AT (i:=7) (rk g0) (AQ (m' :=767) (fst:=[]) (cap:=[]) (sk g0) I I .plain (bd 34) I (e3 I I I) (fun p q=>aa_c n _ hL s0.1 (M0.agree q) b0.2.fy b0.2.fy y1) I (fun M1 H1 H0 V0 hu_=>?_))
 subst hu_
 refine AT (i:=8) (rk g0) (AQ (m' :=1023) (fst:=[]) (cap:=[]) (sk g0) I I .plain (bd 33) I (e3 I I I) (fun p q=>ab_c n _ hL y0.1 (H0.agree q) s0.2 y0.2 v1) I (fun P1 I1 P0 W0 hu_=>?_))
 subst hu_
 exact u1 A0 P0 (Tt W2 (Tt C0 (Tt U0 (Tt V0 W0))))
 intro z4
 refine AM [1,4,6,9] (rk g0) ⟨?_,?_,?_,?_,trivial⟩
 refine AV (m' :=47) (sk g0) I .plain I (AC I (E0.memA .hd)) ?_
 obtain ⟨B5,Q6⟩:=Am E0 (.a1 (.a1 (.a1 .done)))
 exact z4 () B5 Q6
 refine AV (m' :=61) (sk g0) I .plain I (Aq (cs:=(aa b0.2.fy)) I I (ac (E0.memA .t2) 32 16)) ?_
 obtain ⟨C5,R6⟩:=Am E0 (.a0 (.a0 (.a0 (.a0 .done))))
 exact y4 () C5 R6
 refine AV (m' :=109) (sk g0) I .plain I (Aq (cs:=(aa b0.2.fy)) I I (ac (E0.memA .t2) 32 16)) ?_
 obtain ⟨D5,U6⟩:=Am E0 (.a0 (.a0 (.a0 (.a0 .done))))
 exact x4 () D5 U6
 refine Bf (m' :=557) (sk g0) I .plain I (Al ae E0) fun p1 A0 u0 C0=>Rx 4 1408 g0 I J0 (Aq (cs:=(aa b0.2.fy)) I I (ac (u0.memA .t3) 32 16))<|Rx 6 1408 g0 I J0 (Aq (cs:=(aa b0.2.fy)) I I (ac (u0.memA .t3) 32 16)) ?_
 obtain ⟨E5,V6⟩:=Am u0 (.a0 (.a0 (.a0 (.a0 (.a0 .done)))))
 exact k2 A0 E5 (Tt C0 V6)
 refine Ac<|Ab (AP (vs:=[]) (u:=.agg zM) ak (fun p=>by kernel_rfl))<|Ae I<|AW ae V1 .hd (ai I) fun p8 H3 A7=>Ag I<|Aa<|Ao I<|Au hb0 func11 I (.cons (.many (cs:=ae) I I (H3.memA .hd)) (.cons (.tmp I) .nil)) I ?_
 cases h
 exact H3.gv

theorem op_Te {w:World} {L:La Nat} {cs:La Vc} {x:Te} (h:Rep.R w L cs x):∃ v3:Vc,cs = [vI x.fl,vI x.fj,vI x.fm,v3]/\Rep.R w L [v3] x.fv:=by
  obtain ⟨c0,r0,rfl,h0,h⟩:=h
  have e0:c0 = [vI x.fl]:=h0; subst e0
  obtain ⟨c1,r1,rfl,h1,h⟩:=h
  have e1:c1 = [vI x.fj]:=h1; subst e1
  obtain ⟨c2,r2,rfl,h2,h⟩:=h
  have e2:c2 = [vI x.fm]:=h2; subst e2
  obtain ⟨v3,rfl,kv3⟩:=eH (xs:=x.fv) h
  exact ⟨v3,I,kv3⟩
theorem jt {w:World} {L:La Nat} (a0:Int) (a1:Int) (a2:Int) (a3:La Tb) {u3:Vc} (h3:Rep.R w L [u3] a3):Rep.R w L [vI a0,vI a1,vI a2,u3] (⟨a0,a1,a2,a3⟩:Te):=⟨[vI a0],[vI a1,vI a2,u3],rfl,rfl,⟨[vI a1],[vI a2,u3],rfl,rfl,⟨[vI a2],[u3],rfl,rfl,h3⟩⟩⟩
theorem op_A40 {w:World} {L:La Nat} {cs:La Vc} {x:Int × Int} (h:Rep.R w L cs x):cs = [vI x.1,vI x.2]:=by
  obtain ⟨c0,r0,rfl,h0,h⟩:=h
  have e0:c0 = [vI x.1]:=h0; subst e0
  have e1:r0 = [vI x.2]:=h; subst e1
  rfl
theorem kG {w:World} {L:La Nat} (a0:Int) (a1:Int):Rep.R w L [vI a0,vI a1] ((a0,a1):Int × Int):=⟨[vI a0],[vI a1],rfl,rfl,rfl⟩
def ai_l1 (n:Nat) (a4:Int) (a5:Int) (c0:Te) (q0:Nat -> Oa ((Bool ⊕ Unit) ⊕ Unit)):Nat -> Oa ((Bool ⊕ Unit) ⊕ Unit)
  | d0=>(if d0 < 3 then (([((0:Int),(0:Int)),((1:Int),(2:Int)),(a4,a5)]:La (Int × Int))[d0]?).bind fun b0=>(ck_p n c0 b0.1 b0.2).bind fun g0=>(cq_p n c0 b0.1 b0.2).bind fun j0=>(cU_p n c0 b0.1 b0.2).bind fun k0=>(cA_p n c0 b0.1 b0.2).bind fun p0=>(if g0.1 = j0.1 then (if g0.2.1 = j0.2.1 then (if g0.2.2 = j0.2.2 then (if k0.1 = p0.1 then (if k0.2 = p0.2 then q0 (d0 + 1) else some (.inl (.inl false))) else some (.inl (.inl false))) else some (.inl (.inl false))) else some (.inl (.inl false))) else some (.inl (.inl false))) else some (.inr ()))
def ai_l2 (n:Nat) (j0:Te) (c0:Te) (g0:La Tb) (k0:Te) (p0:Te) (a4:Int) (a5:Int) (d0:Nat -> Oa (Bool ⊕ Unit)):Nat -> Oa (Bool ⊕ Unit)
  | b0=>(if b0 < 5 then (([j0,(⟨c0.fl,c0.fj,c0.fm,g0⟩:Te),k0,p0,(⟨(0:Int),(0:Int),(0:Int),([]:La Tb)⟩:Te)]:La Te)[b0]?).bind fun q0=>thn (au (ai_l1 n a4 a5 q0) n 0) (fun _=>d0 (b0 + 1)) else some (.inr ()))
def ai_l3 (_n:Nat) (y0:Te) (a3:La UInt32) (p0:Nat × (La Tb) -> Oa (La Tb)):Nat × (La Tb) -> Oa (La Tb)
  | (b0,j0)=>(if b0 < y0.fv.length then (j0[b0]?).bind fun c0=>(if 0 < a3.length then jn (fun v0=>p0 (b0 + 1,v0)) (fun q0=>(if c0.fp = true then q0 j0 else (ci ((b0:Nat):Int) ((a3.length:Nat):Int)).bind fun u0=>(idx a3 u0).bind fun k0=>(put j0 ((b0:Nat):Int) (⟨c0.fB,((500000000 + (k0.toNat % 500000000):Nat):Int),c0.fl,c0.fH,c0.fI,c0.fp⟩:Tb)).bind fun s0=>(s0[b0]?).bind fun d0=>(put s0 ((b0:Nat):Int) (⟨d0.fB,d0.ft,([((k0.toNat % 499999999:Nat):Int),(7:Int)]:La Int),d0.fH,d0.fI,d0.fp⟩:Tb)).bind fun t0=>(t0[b0]?).bind fun g0=>(put t0 ((b0:Nat):Int) (⟨g0.fB,g0.ft,g0.fl,([((k0.toNat % 99999989:Nat):Int),((1 + (k0.toNat % 99999971):Nat):Int),(3:Int)]:La Int),g0.fI,g0.fp⟩:Tb)).bind fun x0=>q0 x0)) else p0 (b0 + 1,j0)) else some j0)
def ai_p (n:Nat) (a0:UInt8) (a1:Tk) (a2:TBend) (a3:La UInt32) (a4:Int) (a5:Int):Oa Bool:=
  (cB_p n).bind fun g0=>(if g0 = true then (bn_p n a1 ((1 + ((a0 % (12:UInt8)).toNat):Nat):Int)).bind fun c0=>(bn_p n a1 ((1 + ((a0 % (12:UInt8)).toNat):Nat):Int)).bind fun b0=>Option.bind (au (ai_l3 n b0 a3) n (0,b0.fv)) (fun d0=>(bW_p n a2 c0).bind fun j0=>(ak_p n a1 (4:Int)).bind fun k0=>thn (au (ai_l2 n c0 b0 d0 j0 k0 a4 a5) n 0) (fun _=>some true)) else some false)
theorem ai_c (n:Nat) {L w} (hL:hl L w) (a0:UInt8) (a1:Tk) {v1_4:Vc} (h1_4:Rep.R w L [v1_4] a1.fNums) (a2:TBend) {a3:La UInt32} {v3_0:Vc} (h3_0:Rep.R w L [v3_0] a3) {a4:Int} {a5:Int}  {r:Bool} (h:ai_p n a0 a1 a2 a3 a4 a5 = some r) :
 Cl 3 #[.int .u8 (a0.toNat:Int),.agg #[.int .u8 (a1.fl.toNat:Int),.int .u8 (a1.fj.toNat:Int),.int .u8 (a1.fm.toNat:Int),.int .u8 (a1.fp.toNat:Int),v1_4],.agg #[.int .u8 (a2.fM.toNat:Int),.int .u8 (a2.fAt.toNat:Int),vI a2.fN],v3_0,vI a4,vI a5] w (aj w fun _ u=>u = .bool r):=by
 unfold ai_p at h
 refine AK func3 I I I fun _ cs0 hb0=>Ac<|RG.bx (AD w) I I fun k9 M0 z4 j8=>RG.bx z4 I I fun F9 P0 I0 k8=>Ag I<|Aa<|Aj<|Ac<|bk h fun g7 P6 h=>Bm (.bool g7) (bd 4) I ak (fun p q=>cB_c n (I0.hL0 hL q)  P6) I<|Ab (Bz I)<|Aa<|MX.ifnb I h (fun X3 h=>?_) (fun X3 h=>?_)
 refine Az<|Ac<|Ab (AC I (I0.memA .t1))<|Ae I<|Ab (FV.rem8 (a:=a0) (b:=(12:UInt8)) I I (by decide)) ?_
 have J8:=(a0 % (12:UInt8)).toNat_lt
 refine Ab (FV.convN (i:=(a0 % (12:UInt8)).toNat) underlying5 underlying3 I (by omega))<|Ab (Bu (i:=1) (j:=(a0 % (12:UInt8)).toNat) I I (by omega))<|bk h fun c0 Q6 h=>jE (bd 5) I (e2 I I) (fun p q=>cA (b0:=w.heap.size) (bn_c n (I0.hL hL q) a1 (I0.km h1_4 q) Q6) q (Nat.le_trans I0.ag.size q.size)) I fun G9 Z8 q8 ⟨s0,p1,s6,u3,Z4⟩=>?_
 subst s6
 have q2:=dc I0 u3
 have p8:=gM I0 u3
 have b5:=AJ (cs:=p1) (xs:=(c0.fv:La Tb)) q2 L (cG Z4)
 refine RG.nl [vI 0,vI 0,vI 0,vN] q2 fun H9 Q0 s2 Q4=>AW [vI c0.fl,vI c0.fj,vI c0.fm,s0] s2 .hd (o4 I I I (St.o1 (α:=Tb) s2 .t1)) fun I9 Y0 R4=>Aa<|Ac<|Ab (AC I (Y0.memA .t3))<|Ae I<|Ab (FV.rem8 (a:=a0) (b:=(12:UInt8)) I I (by decide)) ?_
 have K8:=(a0 % (12:UInt8)).toNat_lt
 refine Ab (FV.convN (i:=(a0 % (12:UInt8)).toNat) underlying5 underlying3 I (by omega))<|Ab (Bu (i:=1) (j:=(a0 % (12:UInt8)).toNat) I I (by omega))<|bk h fun d0 R6 h=>jE (bd 5) I (e2 I I) (fun p q=>cA (b0:=w.heap.size) (bn_c n (Y0.hL hL q) a1 (Y0.km h1_4 q) R6) q (Nat.le_trans Y0.ag.size q.size)) I fun J9 b9 s8 ⟨t0,g2,u6,v3,c5⟩=>?_
 subst u6
 have u2:=dc Y0 v3
 have U4:=gM Y0 v3
 refine RG.nl [vI 0,vI 0,vI 0,vN] u2 fun K9 R0 v2 Q2=>AW [vI d0.fl,vI d0.fj,vI d0.fm,t0] v2 .hd (o4 I I I (St.o1 (α:=Tb) v2 .t1)) fun M9 x1 R2=>Aa<|Aj<|Ac<|Ba 3 I<|AY I ((x1.memA .hd) 3 _ I) ?_
 have A8:d0.fv.length <= 4294967296:=St.rowLe (α:=Tb) x1 .t1
 obtain ⟨j7,I7,y5⟩:=St.rowV (α:=Tb) x1 .t1
 refine Ab (FV.lenV underlying29 I y5)<|Ae I<|Aa<|AF ?_
 obtain ⟨R8,Q5,G5⟩:=av h
 refine MX.lf (α:=Nat × (La Tb) × (La Vc)) (fun ⟨p0,u0,E0⟩=>[(3,v3_0),(4,vI a4),(5,vI a5),(7,vP M0),(8,vP P0),(13,vP Q0),(14,vP R0),(48,vn d0.fv.length),(49,vn p0)]) (fun ⟨p0,u0,E0⟩=>[.cells R0 [vI d0.fl,vI d0.fj,vI d0.fm,t0] 31,rr w 36 Tb t0 u0.length E0,.cells Q0 [vI c0.fl,vI c0.fj,vI c0.fm,s0] 31,rr w 36 Tb s0 c0.fv.length p1,.cells P0 [.int .u8 (a2.fM.toNat:Int),.int .u8 (a2.fAt.toNat:Int),vI a2.fN] 26,.cells M0 [.int .u8 (a1.fl.toNat:Int),.int .u8 (a1.fj.toNat:Int),.int .u8 (a1.fm.toNat:Int),.int .u8 (a1.fp.toNat:Int),v1_4] 24]) (fun ⟨p0,u0,E0⟩ G3=>Cells G3 (bl [.cells R0 [vI d0.fl,vI d0.fj,vI d0.fm,t0] 31,rr w 36 Tb t0 u0.length E0,.cells Q0 [vI c0.fl,vI c0.fj,vI c0.fm,s0] 31,rr w 36 Tb s0 c0.fv.length p1,.cells P0 [.int .u8 (a2.fM.toNat:Int),.int .u8 (a2.fAt.toNat:Int),vI a2.fN] 26,.cells M0 [.int .u8 (a1.fl.toNat:Int),.int .u8 (a1.fj.toNat:Int),.int .u8 (a1.fm.toNat:Int),.int .u8 (a1.fp.toNat:Int),v1_4] 24] ++ L) E0 u0) (fun ⟨p0,u0,E0⟩=>(p0,u0)) (0,d0.fv,g2) Q5 x1 (AG (AJ (cs:=g2) (xs:=(d0.fv:La Tb)) u2 L (cG c5)) (Tt Q2 R2)) ?_
 rintro x7 ⟨p0,u0,E0⟩ G3 j2 q0 R1 s1 h
 unfold ai_l3 at h
 try dsimp only at h
 refine Ac<|Ab (BD (i:=p0) (j:=d0.fv.length) I I)<|Aa<|Aj<|Be I h (fun Y3 h=>?_) (fun Y3 h=>?_)
 refine Az<|Aj<|AF<|Ac<|Ae I<|Ag I<|Aa<|Ac<|Ba 3 I<|AY I ((q0.memA .hd) 3 _ I)<|Ae I<|bk h fun A0 s3 h=>?_
 obtain ⟨J3,G7,Y1,Y2,Y7,V5,J5⟩:=St.nth (α:=Tb) q0 .t1 s1 s3
 obtain ⟨K3,H7,A1⟩:=Cb (α:=Tb) q0 .t1 Y2
 obtain rfl:J3 = ⟨K3,0,none⟩:=by rw [A1] at Y1; cases Y1; rfl
 obtain ⟨W8,X8,Y8,rfl,E8,F8,G8⟩:=ba V5
 refine Ab (BE 6 p0 I Y1 I I Y2)<|Ag I<|Aa<|Ac<|Ae I ?_
 have B1:=Bb h3_0 q0
 have z8:=Bh B1
 refine Ab (Bk (xs:=a3) underlying27 I B1)<|Ab (FV.gtrN (i:=a3.length) (j:=0) I I)<|Ae I<|BG (s:=59) I h (fun Z3 h=>?_) (fun Z3 h=>?_)
 refine AH (Ak I)<|AH (BM I)<|RG.fg 5 I<|AH (AN I (J5 5 _ I))<|AH (Bz I)<|Bq I I<|Aa<|MX.jf (α:=(La Tb) × (La Vc)) (fun ⟨G0,H0⟩=>[(3,v3_0),(4,vI a4),(5,vI a5),(7,vP M0),(8,vP P0),(13,vP Q0),(14,vP R0),(48,vn d0.fv.length),(49,vn p0)]) (fun ⟨G0,H0⟩=>[.cells R0 [vI d0.fl,vI d0.fj,vI d0.fm,t0] 31,rr w 36 Tb t0 G0.length H0,.cells Q0 [vI c0.fl,vI c0.fj,vI c0.fm,s0] 31,rr w 36 Tb s0 c0.fv.length p1,.cells P0 [.int .u8 (a2.fM.toNat:Int),.int .u8 (a2.fAt.toNat:Int),vI a2.fN] 26,.cells M0 [.int .u8 (a1.fl.toNat:Int),.int .u8 (a1.fj.toNat:Int),.int .u8 (a1.fm.toNat:Int),.int .u8 (a1.fp.toNat:Int),v1_4] 24]) (fun ⟨G0,H0⟩ H3=>Cells H3 (bl [.cells R0 [vI d0.fl,vI d0.fj,vI d0.fm,t0] 31,rr w 36 Tb t0 G0.length H0,.cells Q0 [vI c0.fl,vI c0.fj,vI c0.fm,s0] 31,rr w 36 Tb s0 c0.fv.length p1,.cells P0 [.int .u8 (a2.fM.toNat:Int),.int .u8 (a2.fAt.toNat:Int),vI a2.fN] 26,.cells M0 [.int .u8 (a1.fl.toNat:Int),.int .u8 (a1.fj.toNat:Int),.int .u8 (a1.fm.toNat:Int),.int .u8 (a1.fp.toNat:Int),v1_4] 24] ++ L) H0 G0) (fun ⟨G0,H0⟩=>G0) q0 h ?_ ?_
 rintro ⟨G0,H0⟩ H3 H4 V4 d5 h
 try dsimp only at h
 refine AI<|Av<|Ab (Bu (i:=p0) (j:=1) I I (by omega))<|Ae I<|Aa<|j2 (p0 + 1,G0,H0) H4 (Tt R1 V4) d5 h
 intro y7 k2 h
 try dsimp only at h
 refine MX.ifnb I h (fun b4 h=>?_) (fun b4 h=>?_)
 refine Az<|k2 (u0,E0) q0 (Br _ _) s1 h
 refine Ac<|Ae I<|Ae I<|Ae I<|Ab (Bk (xs:=a3) underlying27 I B1)<|bk h fun Y6 q6 h=>Ab (FV.remc (i:=((p0:Nat):Int)) (j:=((a3.length:Nat):Int)) I I q6)<|bk h fun g0 B6 h=>?_
 obtain ⟨H5,C6⟩:=aL B6
 obtain ⟨k7,J7,z5,I5,c4,W5,K5⟩:=Bw B1 C6
 have A5:c4 = [.int .u32 (g0.toNat:Int)]:=W5; subst A5
 refine Ab (BE 1 (Y6.toNat) I z5 I H5 I5)<|AY I (K5 0 _ I) ?_
 have M8:=g0.toNat_lt
 refine Ab (FV.convN (i:=g0.toNat) underlying37 underlying3 I (by omega))<|Ag I<|Aa<|Av<|Ae I<|Ae I<|Ae I<|Ae I<|Ab (FV.remN (i:=g0.toNat) (j:=500000000) I I I)<|Ab (Bu (i:=500000000) (j:=g0.toNat % 500000000) I I (by omega))<|Ae I<|Ab (FV.remN (i:=g0.toNat) (j:=499999999) I I I)<|Ah .plain I (AU (α:=Int) (xs:=([((g0.toNat % 499999999:Nat):Int),(7:Int)]:La Int)) (vs:=[vI ((g0.toNat % 499999999:Nat):Int),vI 7]) (ds' :=[vI ((g0.toNat % 499999999:Nat):Int),vI 7]) I q0 aA I (e2 I I) (by kernel_rfl) I) fun P9 C1 x2 U2=>?_
 have g5:=AJ (cs:=[vI ((g0.toNat % 499999999:Nat):Int),vI 7]) (xs:=(([((g0.toNat % 499999999:Nat):Int),(7:Int)]:La Int):La Int)) x2 L (AB (cs:=[vI ((g0.toNat % 499999999:Nat):Int)]) (ds:=[vI 7]) I (AB (cs:=[vI 7]) (ds:=[]) I (AR _ _)))
 refine Ae I<|Ab (FV.remN (i:=g0.toNat) (j:=99999989) I I I)<|Ae I<|Ab (FV.remN (i:=g0.toNat) (j:=99999971) I I I)<|Ab (Bu (i:=1) (j:=g0.toNat % 99999971) I I (by omega))<|Ah .plain I (AU (α:=Int) (xs:=([((g0.toNat % 99999989:Nat):Int),((1 + (g0.toNat % 99999971):Nat):Int),(3:Int)]:La Int)) (vs:=[vI ((g0.toNat % 99999989:Nat):Int),vI ((1 + (g0.toNat % 99999971):Nat):Int),vI 3]) (ds' :=[vI ((g0.toNat % 99999989:Nat):Int),vI ((1 + (g0.toNat % 99999971):Nat):Int),vI 3]) I x2 aA I (e3 I I I) (by kernel_rfl) I) fun Q9 D1 F1 U1=>?_
 have j5:=AJ (cs:=[vI ((g0.toNat % 99999989:Nat):Int),vI ((1 + (g0.toNat % 99999971):Nat):Int),vI 3]) (xs:=(([((g0.toNat % 99999989:Nat):Int),((1 + (g0.toNat % 99999971):Nat):Int),(3:Int)]:La Int):La Int)) F1 L (AB (cs:=[vI ((g0.toNat % 99999989:Nat):Int)]) (ds:=[vI ((1 + (g0.toNat % 99999971):Nat):Int),vI 3]) I (AB (cs:=[vI ((1 + (g0.toNat % 99999971):Nat):Int)]) (ds:=[vI 3]) I (AB (cs:=[vI 3]) (ds:=[]) I (AR _ _))))
 refine Ab (BM I)<|Ba 1 I ?_
 have Z2:=AG s1 (Tt U2 U1)
 obtain ⟨K7,B5,v8,Z7,X5,B8,u5⟩:=St.nthAt (α:=Tb) F1 .t3 Z2 s3 A1
 obtain ⟨z3,A3,B3,rfl,Y5,Z5,b6⟩:=ba X5
 refine bk h fun b00 F6 h=>RG.acts' .plain (Acts.setPart (α:=Tb) (i:=p0) (tot:=1) (ds:=[.string A0.fB,vI A0.ft,z3,A3,B3,.bool A0.fp]) (news:=[vI ((500000000 + (g0.toNat % 500000000):Nat):Int)]) (full:=[.string A0.fB,vI ((500000000 + (g0.toNat % 500000000):Nat):Int),z3,A3,B3,.bool A0.fp]) F6 F1 B5 (fun _=>.t3) Z2 u5 I I I I I I (cb A0.fB ((500000000 + (g0.toNat % 500000000):Nat):Int) A0.fl Y5 A0.fH Z5 A0.fI b6 A0.fp) I (o1 I)) fun R9 ⟨b8,G1,V1,k5⟩=>Ab (BM I)<|Ba 2 I ?_
 have H1:=BI G1 .t1
 have W1:=BJ G1 .t1
 have Z1:=BK (α:=Int) (v:=(vS C1 2)) (xs:=([((g0.toNat % 499999999:Nat):Int),(7:Int)]:La Int)) H1 L (Bl (α:=Int) G1 .t1 (AG g5 (Tt U1 V1)) hL)
 refine bk h fun y0 D6 h=>?_
 have b3:=AG k5 W1
 obtain ⟨M7,C5,x8,c8,c6,C8,v5⟩:=St.nthAt (α:=Tb) H1 .t2 b3 D6 A1
 obtain ⟨Z6,C3,D3,rfl,H8,d6,g6⟩:=ba c6
 refine bk h fun c00 G6 h=>RG.acts' .plain (Acts.setPart (α:=Tb) (i:=p0) (tot:=2) (ds:=[.string y0.fB,vI y0.ft,Z6,C3,D3,.bool y0.fp]) (news:=[(vS C1 2)]) (full:=[.string y0.fB,vI y0.ft,(vS C1 2),C3,D3,.bool y0.fp]) G6 H1 C5 (fun _=>.t2) b3 v5 I I I I I (Rep.c1 Z1) (cb y0.fB y0.ft ([((g0.toNat % 499999999:Nat):Int),(7:Int)]:La Int) Z1 y0.fH d6 y0.fI g6 y0.fp) I (o1 (AX Z1))) fun U9 ⟨d8,I1,V2,p5⟩=>Ab (BM I)<|Ba 3 I ?_
 have J1:=BI I1 .hd
 have W2:=BJ I1 .hd
 have b2:=BK (α:=Int) (v:=(vS D1 3)) (xs:=([((g0.toNat % 99999989:Nat):Int),((1 + (g0.toNat % 99999971):Nat):Int),(3:Int)]:La Int)) J1 L (Bl (α:=Int) I1 .hd (AG j5 (Tt V1 (Tt W1 V2))) hL)
 refine bk h fun z0 E6 h=>?_
 have c3:=AG p5 W2
 obtain ⟨P7,D5,y8,g8,j6,D8,x5⟩:=St.nthAt (α:=Tb) J1 .t1 c3 E6 A1
 obtain ⟨E3,b7,F3,rfl,k6,I8,p6⟩:=ba j6
 refine bk h fun c7 H6 h=>RG.acts' .plain (Acts.setPart (α:=Tb) (i:=p0) (tot:=3) (ds:=[.string z0.fB,vI z0.ft,E3,b7,F3,.bool z0.fp]) (news:=[(vS D1 3)]) (full:=[.string z0.fB,vI z0.ft,E3,(vS D1 3),F3,.bool z0.fp]) H6 J1 D5 (fun _=>.t1) c3 x5 I I I I I (Rep.c1 b2) (cb z0.fB z0.ft z0.fl k6 ([((g0.toNat % 99999989:Nat):Int),((1 + (g0.toNat % 99999971):Nat):Int),(3:Int)]:La Int) b2 z0.fI p6 z0.fp) I (o1 (AX b2))) fun V9 ⟨d4,I4,W4,q5⟩=>Aa<|k2 (c7,d4) I4 (Tt U2 (Tt U1 (Tt V1 (Tt W1 (Tt V2 (Tt W2 W4)))))) q5 h
 refine Aw<|Aw<|Aw<|Aw<|Aw<|By I I<|Aa<|BP I<|Az<|AI<|Av<|Ab (Bu (i:=p0) (j:=1) I I (by omega))<|Ae I<|Aa<|j2 (p0 + 1,u0,E0) q0 R1 s1 h
 refine Bj I ?_
 have h:=G5 _ h
 try dsimp only at h
 refine Aj<|Aj<|du 10 fun x0 K0=>Rx 0 256 x0 I K0 (AC I (q0.memA .t2))<|Rx 1 256 x0 I K0 (AC I (q0.memA .hd))<|Rx 2 336 x0 I K0 (AC I (q0.memA .t4))<|Rx 3 336 x0 I K0 (AC I (q0.memA .t2))<|Rx 5 320 x0 I K0 (AC I (q0.memA .t5))<|Rv 7 x0 I K0 (fun _=>AP (vs:=[]) (u:=.agg #[vI 0,vI 0,vI 0,vN]) ak (fun p=>by kernel_rfl))<|Rv 9 x0 I K0 (fun _=>Ak I) ?_
 have K1:=BI q0 .t3
 have X4:=BJ q0 .t3
 have c2:=BK (α:=Tb) (v:=s0) (xs:=c0.fv) K1 L (Bl (α:=Tb) q0 .t3 (AG b5 (Tt Q4 (Tt R4 (Tt U4 (Tt Q2 (Tt R2 R1)))))) hL)
 refine bk h fun k0 U6 h=>Bp 4 703 x0 I .plain (bd 6) I (e2 I I) (fun p q=>bW_c n (K1.hL hL q) a2 c0 (Ar c2 q) U6) I fun W9 c9 Y4 ⟨v1,hu_,q3⟩=>?_
 subst hu_
 obtain ⟨q1,X1⟩:=K1.agr Y4
 refine bk h fun j0 V6 h=>Bp 6 767 x0 I .plain (bd 7) I (e2 I I) (fun p q=>cA (b0:=w.heap.size) (ak_c n (q1.hL hL q) a1 (q1.km h1_4 q) V6) q (Nat.le_trans q1.ag.size q.size)) I fun X9 d9 t8 ⟨g1,g4,v6,x3,s5⟩=>?_
 subst v6
 have Z0:=dc q1 x3
 have z1:=gM q1 x3
 obtain ⟨p7,Q7,z6,_⟩:=Rep.sl (Ap c2 (Tt X1 z1))
 obtain ⟨q7,R7,E5⟩:=St.rowV (α:=Tb) Z0 .t2
 obtain ⟨s7,U7,A6,_⟩:=Rep.sl (Ap q3 z1)
 obtain ⟨t7,V7,F5⟩:=St.rowV (α:=Tb) Z0 .hd
 refine Rv 8 x0 I K0 (fun _=>AP (vs:=[.agg #[vI c0.fl,vI c0.fj,vI c0.fm,s0],.agg #[vI d0.fl,vI d0.fj,vI d0.fm,t0],.agg #[vI k0.fl,vI k0.fj,vI k0.fm,v1],.agg #[vI j0.fl,vI j0.fj,vI j0.fm,g1],.agg #[vI 0,vI 0,vI 0,vN]]) (u:=.agg #[vI c0.fl,vI c0.fj,vI c0.fm,s0,vI d0.fl,vI d0.fj,vI d0.fm,t0,vI k0.fl,vI k0.fj,vI k0.fm,v1,vI j0.fl,vI j0.fj,vI j0.fm,g1,vI 0,vI 0,vI 0,vN]) (e5 I I I I I) (fun p=>by rw [z6,E5,A6,F5]; try kernel_rfl))<|AO (dk x0)<|AF ?_
 have y1:=BI Z0 .hd
 have X2:=BJ Z0 .hd
 have y2:=BI y1 .t1
 obtain ⟨p4,z2⟩:=Am y2 .done
 refine tn h fun P8 M5 b1=>MX.lo (α:=Nat) (fun F0=>[(4,vI a4),(5,vI a5),(105,vn F0),(104,.agg #[vI c0.fl,vI c0.fj,vI c0.fm,s0,vI d0.fl,vI d0.fj,vI d0.fm,t0,vI k0.fl,vI k0.fj,vI k0.fm,v1,vI j0.fl,vI j0.fj,vI j0.fm,g1,vI 0,vI 0,vI 0,vN])]) (fun F0=>[]) (fun F0=>F0) 0 M5 p4 ?_
 rintro u7 F0 Y9 j4 E1 M1 h
 unfold ai_l2 at h
 try dsimp only at h
 refine Ac<|Ab (BD (i:=F0) (j:=5) I I)<|Aa<|Aj<|Be I h (fun M3 h=>?_) (fun M3 h=>?_)
 refine Az<|Aj<|AF<|Ac<|bk h fun D0 W6 h=>?_
 have d3:=Tt (BJ y1 .t1) (Tt z2 M1)
 have g3:=Tt z1 (Tt X2 d3)
 refine RG.valE .plain I (FV.idxR (css:=[[vI c0.fl,vI c0.fj,vI c0.fm,s0],[vI d0.fl,vI d0.fj,vI d0.fm,t0],[vI k0.fl,vI k0.fj,vI k0.fm,v1],[vI j0.fl,vI j0.fj,vI j0.fm,g1],[vI 0,vI 0,vI 0,vN]]) (xs:=([c0,(⟨d0.fl,d0.fj,d0.fm,u0⟩:Te),k0,j0,(⟨(0:Int),(0:Int),(0:Int),([]:La Tb)⟩:Te)]:La Te)) (len:=5) I I I I I I I (.cons (jt c0.fl c0.fj c0.fm c0.fv (Ap c2 (Tt X1 g3))) (.cons (jt d0.fl d0.fj d0.fm u0 (Ap (BK (α:=Tb) (v:=t0) (xs:=u0) y2 L (Bl (α:=Tb) y1 .t1 (AG s1 (Tt X4 (Tt X1 (Tt z1 X2)))) hL)) (Tt z2 M1))) (.cons (jt k0.fl k0.fj k0.fm k0.fv (Ap q3 g3)) (.cons (jt j0.fl j0.fj j0.fm j0.fv (Ap (BK (α:=Tb) (v:=g1) (xs:=j0.fv) y1 L (Bl (α:=Tb) Z0 .hd (AJ (cs:=g4) (xs:=(j0.fv:La Tb)) Z0 L (cG s5)) hL)) d3)) (.cons (jt (0:Int) (0:Int) (0:Int) ([]:La Tb) (Rep.nilAt (α:=Tb) E1 L)) .nil))))) W6) fun U8 ⟨W7,x6,R5⟩=>?_
 subst x6
 obtain ⟨y3,rfl,u1⟩:=op_Te R5
 refine RG.nl [vI 0,vI 0,vI 0,vN] E1 fun g9 d2 q4 P1=>AW [vI D0.fl,vI D0.fj,vI D0.fm,y3] q4 .hd (o4 I I I (AX (Ap u1 P1))) fun j9 s4 A2=>Aa<|Ac<|Ab (AP (vs:=[vI 0,vI 0]) (u:=.agg #[vI 0,vI 0]) (e2 I I) (fun p=>by kernel_rfl))<|Ab (AP (vs:=[vI 1,vI 2]) (u:=.agg #[vI 1,vI 2]) (e2 I I) (fun p=>by kernel_rfl))<|Ae I<|Ae I<|Ab (AP (vs:=[vI a4,vI a5]) (u:=.agg #[vI a4,vI a5]) (e2 I I) (fun p=>by kernel_rfl))<|Ab (AP (vs:=[.agg #[vI 0,vI 0],.agg #[vI 1,vI 2],.agg #[vI a4,vI a5]]) (u:=.agg #[vI 0,vI 0,vI 1,vI 2,vI a4,vI a5]) (e3 I I I) (fun p=>by kernel_rfl))<|Ae I<|Aa<|AF<|tn h fun Q8 P5 d1=>MX.lo (α:=Nat) (fun J0=>[(4,vI a4),(5,vI a5),(105,vn F0),(104,.agg #[vI c0.fl,vI c0.fj,vI c0.fm,s0,vI d0.fl,vI d0.fj,vI d0.fm,t0,vI k0.fl,vI k0.fj,vI k0.fm,v1,vI j0.fl,vI j0.fj,vI j0.fm,g1,vI 0,vI 0,vI 0,vN]),(19,vP d2),(113,.agg #[vI 0,vI 0,vI 1,vI 2,vI a4,vI a5]),(114,vn J0)]) (fun J0=>[.cells d2 [vI D0.fl,vI D0.fj,vI D0.fm,y3] 31]) (fun J0=>J0) 0 P5 s4 ?_
 rintro v7 J0 Z9 k4 p2 Q1 h
 unfold ai_l1 at h
 try dsimp only at h
 refine Ac<|Ab (BD (i:=J0) (j:=3) I I)<|Aa<|Aj<|Be I h (fun P3 h=>?_) (fun P3 h=>?_)
 refine Az<|Aj<|AF<|Ac<|bk h fun I3 X6 h=>RG.valE .plain I (FV.idxR (L:=[]) (css:=[[vI 0,vI 0],[vI 1,vI 2],[vI a4,vI a5]]) (xs:=([((0:Int),(0:Int)),((1:Int),(2:Int)),(a4,a5)]:La (Int × Int))) (len:=3) I I I I I I I (.cons (kG (0:Int) (0:Int)) (.cons (kG (1:Int) (2:Int)) (.cons (kG a4 a5) .nil))) X6) fun V8 ⟨X7,y6,U5⟩=>?_
 subst y6
 obtain rfl:=op_A40 U5
 refine RG.nl [vI 0,vI 0] p2 fun p9 z7 u4 B2=>AW [vI I3.1,vI I3.2] u4 .hd (ai I) fun q9 U0 C2=>Aa<|Ac<|Ab (AC I (U0.memA .t1))<|Ab (Bc (m:=1) (k:=0) (len:=2) I I I I (by omega))<|AY I ((U0.memA .hd) 0 _ I)<|Ab (Bc (m:=1) (k:=1) (len:=2) I I I I (by omega))<|AY I ((U0.memA .hd) 1 _ I)<|bk h fun B0 I6 h=>?_
 have j3:=Tt P1 (Tt A2 (Tt Q1 (Tt B2 C2)))
 refine Bm (.tuple #[.agg ((aa B0.1)).toArray,.agg ((aa B0.2.1)).toArray,vI B0.2.2]) (bd 8) I (e3 I I I) (fun p q=>ck_c n (U0.hL0 hL q) D0 (U0.kd (Ap u1 j3) q) I6) I<|Ae I<|Ab (Ai I I)<|Ab (Ai I I)<|Ab (Ai I I)<|RG.nl ae U0 fun s9 A7 v4 D2=>RG.nl ae v4 fun t9 B7 x4 E2=>AW (aa B0.1) x4 .t1 (ai I) fun u9 y4 F2=>AW (aa B0.2.1) y4 .hd (ai I) fun v9 V0 G2=>Ag I<|Aa<|Ac<|Ab (AC I (V0.memA .t3))<|Ab (Bc (m:=1) (k:=0) (len:=2) I I I I (by omega))<|AY I ((V0.memA .t2) 0 _ I)<|Ab (Bc (m:=1) (k:=1) (len:=2) I I I I (by omega))<|AY I ((V0.memA .t2) 1 _ I)<|bk h fun C0 J6 h=>?_
 have k3:=Tt j3 (Tt D2 (Tt E2 (Tt F2 G2)))
 refine Bm (.tuple #[.agg ((aa C0.1)).toArray,.agg ((aa C0.2.1)).toArray,vI C0.2.2]) (bd 9) I (e3 I I I) (fun p q=>cq_c n (V0.hL0 hL q) D0 (V0.kd (Ap u1 k3) q) J6) I<|Ae I<|Ab (Ai I I)<|Ab (Ai I I)<|Ab (Ai I I)<|RG.nl ae V0 fun x9 C7 A4 H2=>RG.nl ae A4 fun y9 D7 B4 I2=>AW (aa C0.1) B4 .t1 (ai I) fun z9 C4 J2=>AW (aa C0.2.1) C4 .hd (ai I) fun A9 W0 K2=>Ag I<|Aa<|Ac<|Ab (AC I (W0.memA .t5))<|Ab (Bc (m:=1) (k:=0) (len:=2) I I I I (by omega))<|AY I ((W0.memA .t4) 0 _ I)<|Ab (Bc (m:=1) (k:=1) (len:=2) I I I I (by omega))<|AY I ((W0.memA .t4) 1 _ I)<|bk h fun j1 K6 h=>?_
 have p3:=Tt k3 (Tt H2 (Tt I2 (Tt J2 K2)))
 refine Bm (.tuple #[.agg ((aa j1.1)).toArray,vI j1.2]) (bd 10) I (e3 I I I) (fun p q=>cU_c n (W0.hL0 hL q) D0 (W0.kd (Ap u1 p3) q) K6) I<|Ae I<|Ab (Ai I I)<|Ab (Ai I I)<|RG.nl ae W0 fun B9 E7 D4 M2=>AW (aa j1.1) D4 .hd (ai I) fun C9 X0 P2=>Ag I<|Aa<|Ac<|Ab (AC I (X0.memA .t6))<|Ab (Bc (m:=1) (k:=0) (len:=2) I I I I (by omega))<|AY I ((X0.memA .t5) 0 _ I)<|Ab (Bc (m:=1) (k:=1) (len:=2) I I I I (by omega))<|AY I ((X0.memA .t5) 1 _ I)<|bk h fun k1 M6 h=>Bm (.tuple #[.agg ((aa k1.1)).toArray,vI k1.2]) (bd 11) I (e3 I I I) (fun p q=>cA_c n (X0.hL0 hL q) D0 (X0.kd (Ap u1 (Tt p3 (Tt M2 P2))) q) M6) I<|Ae I<|Ab (Ai I I)<|Ab (Ai I I)<|RG.nl ae X0 fun D9 F7 E4 J4=>AW (aa k1.1) E4 .hd (ai I) fun E9 v0 K4=>Ag I<|Aa<|Aj<|Av<|Ab (AC I (v0.memA .t5))<|Ab (AC I (v0.memA .t3))<|Ab (FV.neqV (xs:=((aa B0.1)).toArray) (ys:=((aa C0.1)).toArray) I I (by kernel_rfl) (bG B0.1 C0.1))<|Ae I<|RG.ifn (s:=158) I h (fun Q3 h=>?_) (fun Q3 h=>?_)
 refine AH (AC I (v0.memA .t4))<|AH (AC I (v0.memA .t2))<|AH (FV.neqV (xs:=((aa B0.2.1)).toArray) (ys:=((aa C0.2.1)).toArray) I I (by kernel_rfl) (bG B0.2.1 C0.2.1))<|By I I<|Ae I<|RG.ifn (s:=163) I h (fun R3 h=>?_) (fun R3 h=>?_)
 refine AH (Ak I)<|AH (Ak I)<|AH (FV.neq (i:=B0.2.2) (j:=C0.2.2) I I)<|By I I<|Ae I<|RG.ifn (s:=168) I h (fun U3 h=>?_) (fun U3 h=>?_)
 refine AH (AC I (v0.memA .t1))<|AH (AC I (v0.memA .hd))<|AH (FV.neqV (xs:=((aa j1.1)).toArray) (ys:=((aa k1.1)).toArray) I I (by kernel_rfl) (bG j1.1 k1.1))<|By I I<|Ae I<|RG.ifn (s:=173) I h (fun V3 h=>?_) (fun V3 h=>?_)
 refine AH (Ak I)<|AH (Ak I)<|AH (FV.neq (i:=j1.2) (j:=k1.2) I I)<|By I I<|Aa<|MX.ifn I h (fun W3 h=>?_) (fun W3 h=>?_)
 refine Az<|AI<|Av<|Ab (Bu (i:=J0) (j:=1) I I (by omega))<|Ae I<|Aa ?_
 obtain ⟨F4,M4⟩:=Am v0 .d7
 exact k4 (J0 + 1) F4 (Tt Q1 (Tt B2 (Tt C2 (Tt D2 (Tt E2 (Tt F2 (Tt G2 (Tt H2 (Tt I2 (Tt J2 (Tt K2 (Tt M2 (Tt P2 (Tt J4 (Tt K4 M4))))))))))))))) h
 refine Ac<|Ag I<|Aa ?_
 have h:=ar h d1
 have h:=ar h b1
 refine Ao I<|Bi hb0 func3 I I ?_
 cases h
 exact v0.gv
 refine Aw<|Aw<|Aw<|Bq I I<|Aa<|Bg I<|Ac<|Ag I<|Aa ?_
 have h:=ar h d1
 have h:=ar h b1
 refine Ao I<|Bi hb0 func3 I I ?_
 cases h
 exact v0.gv
 refine Aw<|Aw<|Aw<|Bq I I<|Ae I<|Aw<|Aw<|Aw<|Bq I I<|Aa<|Bg I<|Ac<|Ag I<|Aa ?_
 have h:=ar h d1
 have h:=ar h b1
 refine Ao I<|Bi hb0 func3 I I ?_
 cases h
 exact v0.gv
 refine Aw<|Aw<|Aw<|Bq I I<|Ae I<|Aw<|Aw<|Aw<|Bq I I<|Ae I<|Aw<|Aw<|Aw<|Bq I I<|Aa<|Bg I<|Ac<|Ag I<|Aa ?_
 have h:=ar h d1
 have h:=ar h b1
 refine Ao I<|Bi hb0 func3 I I ?_
 cases h
 exact v0.gv
 refine Aw<|Aw<|Aw<|Bq I I<|Ae I<|Aw<|Aw<|Aw<|Bq I I<|Ae I<|Aw<|Aw<|Aw<|Bq I I<|Ae I<|Aw<|Aw<|Aw<|Bq I I<|Aa<|Bg I<|Ac<|Ag I<|Aa ?_
 have h:=ar h d1
 have h:=ar h b1
 refine Ao I<|Bi hb0 func3 I I ?_
 cases h
 exact v0.gv
 refine Bj I ?_
 have h:=aI h d1
 try dsimp only at h
 refine AI<|Av<|Ab (Bu (i:=F0) (j:=1) I I (by omega))<|Ae I<|Aa ?_
 obtain ⟨G4,P4⟩:=Am p2 .done
 exact j4 (F0 + 1) G4 (Tt M1 (Tt P1 (Tt A2 (Tt Q1 P4)))) h
 refine Bj I ?_
 have h:=aI h b1
 try dsimp only at h
 refine Ac<|Ag I<|Aa<|Ao I<|Bi hb0 func3 I I ?_
 cases h
 exact E1.gv
 refine Ac<|Ag I<|Aa<|Ao I<|Bi hb0 func3 I I ?_
 cases h
 exact I0.gv
end Go.Proofs.YtmhnkiifknjgaaaGreatDoor
