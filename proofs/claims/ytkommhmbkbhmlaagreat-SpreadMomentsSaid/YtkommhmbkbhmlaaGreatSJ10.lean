import Derived.Test.YtkommhmbkbhmlaaGreatSJ7
namespace Go.Proofs.YtkommhmbkbhmlaaGreat
open Go Go.RowKit Tryz
set_option maxRecDepth 4000
set_option maxHeartbeats 4000000

theorem gR:ElT Tryz.prog 102 26 (Rep.size (Int × Int)) 16 (.agg #[vI 0,vI 0]) [vI 0,vI 0]:=⟨underlying102,by kernel_rfl,rfl,rfl,rfl,rfl⟩
def cD_p (n:Nat):Oa Bool:=
  (az_p n (2:Int) ([((0:Int),(1:Int)),((2:Int),(1:Int))]:Lb (Int × Int))).bind fun b0=>(az_p n (1:Int) ([((2:Int),(1:Int))]:Lb (Int × Int))).bind fun j0=>jn (fun D0=>(ai_p n (1:Int) (1:Int)).bind fun F0=>(bR_p n b0 F0).bind fun g0=>jn (fun E0=>(if E0 = true then (az_p n (6:Int) ([((0:Int),(1:Int)),((2:Int),(5:Int))]:Lb (Int × Int))).bind fun G0=>(ai_p n (1:Int) (3:Int)).bind fun H0=>(ai_p n (2:Int) (3:Int)).bind fun I0=>(bG_p n ([b0,j0]:Lb (Lb Ta)) ([H0,I0]:Lb Tb)).bind fun k0=>(bh_p n k0.1 k0.2 G0).bind fun J0=>(if J0 = true then (aQ_p n b0 j0).bind fun p0=>(bp_p n p0.1 p0.2 (1:Int) (2:Int)).bind fun K0=>some K0 else some false) else some false)) (fun c0=>(if D0 = true then (bZ_p n b0).bind fun q0=>(bp_p n q0.1 q0.2 (1:Int) (2:Int)).bind fun M0=>(if M0 = true then (ba_p n b0).bind fun s0=>(bp_p n s0.1 s0.2 (1:Int) (4:Int)).bind fun P0=>(if P0 = true then (ai_p n (1:Int) (2:Int)).bind fun Q0=>(if g0.1 = Q0 then (ai_p n (1:Int) (2:Int)).bind fun R0=>(if g0.2.1 = R0 then (if g0.2.2 = 0 then (ai_p n (1:Int) (2:Int)).bind fun U0=>(bb_p n b0 U0).bind fun t0=>(bp_p n t0.1 t0.2 (0:Int) (1:Int)).bind fun V0=>(if V0 = true then (ai_p n (2:Int) (3:Int)).bind fun W0=>(bb_p n b0 W0).bind fun u0=>(bp_p n u0.1 u0.2 (1:Int) (1:Int)).bind fun X0=>(if X0 = true then (ai_p n (0:Int) (1:Int)).bind fun Y0=>(bb_p n b0 Y0).bind fun v0=>(cE_p n v0.1 v0.2 (2:Int)).bind fun Z0=>c0 Z0 else c0 false) else c0 false) else c0 false) else c0 false) else c0 false) else c0 false) else c0 false) else c0 false))) (fun d0=>(az_p n (3:Int) ([((2:Int),(1:Int)),((6:Int),(2:Int))]:Lb (Int × Int))).bind fun b1=>(ai_p n (3:Int) (1:Int)).bind fun c1=>(ai_p n (1:Int) (1:Int)).bind fun d1=>(ai_p n (3:Int) (1:Int)).bind fun g1=>(cI_p n ([c1,d1,g1]:Lb Tb)).bind fun x0=>(bh_p n x0.1 x0.2 b1).bind fun j1=>(if j1 = true then (cI_p n ([]:Lb Tb)).bind fun y0=>(cF_p n y0.1 y0.2 (4:Int)).bind fun k1=>(if k1 = true then (aU_p n ([]:Lb Ta)).bind fun p1=>(if p1 = 50 then (az_p n (4:Int) ([((0:Int),(1:Int)),((2:Int),(2:Int)),((4:Int),(1:Int))]:Lb (Int × Int))).bind fun q1=>(cQ_p n b0 b0).bind fun z0=>(bh_p n z0.1 z0.2 q1).bind fun s1=>(if s1 = true then (az_p n (2:Int) ([((-4:Int),(1:Int)),((0:Int),(1:Int))]:Lb (Int × Int))).bind fun t1=>(ai_p n (-2:Int) (1:Int)).bind fun u1=>(cJ_p n b0 u1).bind fun A0=>(bh_p n A0.1 A0.2 t1).bind fun v1=>(if v1 = true then (az_p n (1:Int) ([((0:Int),(1:Int))]:Lb (Int × Int))).bind fun x1=>(ai_p n (0:Int) (1:Int)).bind fun y1=>(cJ_p n b0 y1).bind fun B0=>(bh_p n B0.1 B0.2 x1).bind fun z1=>(if z1 = true then (az_p n (2:Int) ([((1:Int),(1:Int)),((3:Int),(1:Int))]:Lb (Int × Int))).bind fun A1=>(ai_p n (1:Int) (2:Int)).bind fun B1=>(cU_p n b0 B1).bind fun C0=>(bh_p n C0.1 C0.2 A1).bind fun C1=>d0 C1 else d0 false) else d0 false) else d0 false) else d0 false) else d0 false) else d0 false))
theorem cD_c (n:Nat) {L w} (hL:hl L w)  {r:Bool} (h:cD_p n = some r) :
 Cl 12 #[] w (aj w fun _ u=>u = .bool r):=by
 unfold cD_p at h
 refine AM func12 I I I fun _ cs0 hb0=>Ae<|Ah I<|Aa<|Ae<|Ab (AS (vs:=[vI 0,vI 1]) (u:=.agg #[vI 0,vI 1]) (e2 I I) (fun w9=>by kernel_rfl))<|Ab (AS (vs:=[vI 2,vI 1]) (u:=.agg #[vI 2,vI 1]) (e2 I I) (fun w9=>by kernel_rfl))<|Ao .plain I (AW (α:=Int × Int) (xs:=([((0:Int),(1:Int)),((2:Int),(1:Int))]:Lb (Int × Int))) (vs:=[.agg #[vI 0,vI 1],.agg #[vI 2,vI 1]]) (ds' :=[vI 0,vI 1,vI 2,vI 1]) I (AL w) gR I (e2 I I) (by kernel_rfl) I) fun w11 s5 V1 J00=>?_
 have E2:=Bu V1 .hd
 have K00:=Bv V1 .hd
 refine bk h fun E3 c8 h=>jE (bd 13) I (e2 I I) (fun w9 hw9=>az_c n (E2.hL hL hw9) (Af (Bw (α:=Int × Int) (v:=(vS s5 2)) (xs:=([((0:Int),(1:Int)),((2:Int),(1:Int))]:Lb (Int × Int))) E2 L (Bi (α:=Int × Int) V1 .hd (AI (cs:=[vI 0,vI 1,vI 2,vI 1]) (xs:=(([((0:Int),(1:Int)),((2:Int),(1:Int))]:Lb (Int × Int)):Lb (Int × Int))) V1 L (AE (cs:=[vI 0,vI 1]) (ds:=[vI 2,vI 1]) (bR (0:Int) (1:Int)) (AE (cs:=[vI 2,vI 1]) (ds:=[]) (bR (2:Int) (1:Int)) (AT _ _)))) hL)) hw9) c8) I fun w21 c1 b7 ⟨v26,hu_,g0⟩=>?_
 subst hu_
 obtain ⟨b6,M00⟩:=E2.agr b7
 refine Ah I<|Aa<|Ae<|Ab (AS (vs:=[vI 2,vI 1]) (u:=.agg #[vI 2,vI 1]) (e2 I I) (fun w9=>by kernel_rfl))<|Ao .plain I (AW (α:=Int × Int) (xs:=([((2:Int),(1:Int))]:Lb (Int × Int))) (vs:=[.agg #[vI 2,vI 1]]) (ds' :=[vI 2,vI 1]) I b6 gR I (e1 I) (by kernel_rfl) I) fun w29 u5 X1 X3=>?_
 have F2:=Bu X1 .hd
 have Y3:=Bv X1 .hd
 refine bk h fun F3 j8 h=>jE (bd 13) I (e2 I I) (fun w9 hw9=>az_c n (F2.hL hL hw9) (Af (Bw (α:=Int × Int) (v:=(vS u5 1)) (xs:=([((2:Int),(1:Int))]:Lb (Int × Int))) F2 L (Bi (α:=Int × Int) X1 .hd (AI (cs:=[vI 2,vI 1]) (xs:=(([((2:Int),(1:Int))]:Lb (Int × Int)):Lb (Int × Int))) X1 L (AE (cs:=[vI 2,vI 1]) (ds:=[]) (bR (2:Int) (1:Int)) (AT _ _))) hL)) hw9) j8) I fun w39 U0 c7 ⟨v44,hu_,D3⟩=>?_
 subst hu_
 obtain ⟨U3,g4⟩:=F2.agr c7
 refine Ah I<|Aa<|Aj<|MX.jo (α:=Bool) (fun v1=>[(1,c1),(2,U0),(3,.bool v1)]) (fun v1=>[]) (fun v1=>v1) U3 h ?_ ?_
 rintro v1 X02 W1 W3 h
 try dsimp only at h
 refine Ae<|Ac I<|bk h fun Y4 d8 h=>Bd (.agg ((ab Y4)).toArray) (bd 15) I (e2 I I) (fun w9 hw9=>ai_c n (W1.hL0 hL hw9)  d8) I<|bk h fun t0 g8 h=>?_
 have y3:=Tt X3 (Tt Y3 (Tt g4 W3))
 refine Bd (.tuple #[.agg ((ab t0.1)).toArray,.agg ((ab t0.2.1)).toArray,vI t0.2.2]) (bd 27) I (e2 I I) (fun w9 hw9=>bR_c n (W1.hL0 hL hw9) (W1.kd (Ag g0 y3) hw9) Y4 g8) I<|Ac I<|Ab (Ai I I)<|Ab (Ai I I)<|Ab (Ai I I)<|RG.nl zL W1 fun p02 F00 c6 g3=>RG.nl zL c6 fun q02 G00 d6 j3=>AQ (ab t0.1) d6 .t1 (ai I) fun s02 g6 k3=>AQ (ab t0.2.1) g6 .hd (ai I) fun H9 d1 p3=>Ah I<|Aa<|Aj<|MX.jo (α:=Bool) (fun x1=>[(1,c1),(2,U0),(3,.bool x1)]) (fun x1=>[]) (fun x1=>x1) d1 h ?_ ?_
 rintro x1 Y02 R3 Z3 h
 try dsimp only at h
 refine Ae<|Ac I<|Ac I<|RG.ifb (s:=156) I h (fun F5 h=>?_) (fun F5 h=>?_)
 refine AJ (AS (vs:=[vI 0,vI 1]) (u:=.agg #[vI 0,vI 1]) (e2 I I) (fun w9=>by kernel_rfl))<|AJ (AS (vs:=[vI 2,vI 5]) (u:=.agg #[vI 2,vI 5]) (e2 I I) (fun w9=>by kernel_rfl))<|Ao (.yes I I) I (AW (α:=Int × Int) (xs:=([((0:Int),(1:Int)),((2:Int),(5:Int))]:Lb (Int × Int))) (vs:=[.agg #[vI 0,vI 1],.agg #[vI 2,vI 5]]) (ds' :=[vI 0,vI 1,vI 2,vI 5]) I R3 gR I (e2 I I) (by kernel_rfl) I) fun u02 v5 Y1 b4=>?_
 have G2:=Bu Y1 .hd
 have c4:=Bv Y1 .hd
 refine bk h fun Z9 k8 h=>AA (fst:=[]) (cap:=[]) (.yes I I) (bd 13) I (e2 I I) (fun w9 hw9=>az_c n (G2.hL hL hw9) (Af (Bw (α:=Int × Int) (v:=(vS v5 2)) (xs:=([((0:Int),(1:Int)),((2:Int),(5:Int))]:Lb (Int × Int))) G2 L (Bi (α:=Int × Int) Y1 .hd (AI (cs:=[vI 0,vI 1,vI 2,vI 5]) (xs:=(([((0:Int),(1:Int)),((2:Int),(5:Int))]:Lb (Int × Int)):Lb (Int × Int))) Y1 L (AE (cs:=[vI 0,vI 1]) (ds:=[vI 2,vI 5]) (bR (0:Int) (1:Int)) (AE (cs:=[vI 2,vI 5]) (ds:=[]) (bR (2:Int) (5:Int)) (AT _ _)))) hL)) hw9) k8) I fun I9 B9 d7 ⟨k01,hu_,A4⟩=>?_
 subst hu_
 obtain ⟨H2,d4⟩:=G2.agr d7
 refine AA (fst:=[]) (cap:=[]) (.yes I I) (bd 28) I (e1 I) (fun w9 hw9=>Calls.gives (cM_c n (H2.hL hL hw9) Z9 (Af A4 hw9)) fun (w8:World) (u8:Vc) ⟨b0_,hu_,s_⟩=>(⟨b0_,hu_,s_.from hw9⟩:∃ y1:Nat,u8 = Value.func (.func 91) #[] #[vP y1]/\St I9 w8 [.cells y1 [B9] 24])) I fun v02 E01 P00 ⟨y1,H7,G4⟩=>?_
 subst H7
 have q3:=ek H2 G4
 refine AJ (Al I)<|AJ (Al I) ?_
 have z3:=Tt y3 (Tt g3 (Tt j3 (Tt k3 (Tt p3 (Tt Z3 (Tt b4 (Tt c4 (Tt d4 q3))))))))
 have A3:=Tt W3 (Tt g3 (Tt j3 (Tt k3 (Tt p3 (Tt Z3 (Tt b4 (Tt c4 (Tt d4 q3))))))))
 obtain ⟨B00,H00,Z7,_⟩:=Bl (Ag g0 z3)
 obtain ⟨C00,I00,b8,_⟩:=Bl (Ag D3 A3)
 refine Ao (.yes I I) I (AW (α:=Lb Ta) (xs:=([E3,F3]:Lb (Lb Ta))) (vs:=[c1,U0]) (ds' :=[c1,U0]) I (ct H2 G4) me I (e2 I I) (by rw [Z7,b8]; try kernel_rfl) I) fun x02 x5 Z1 j1=>bk h fun u0 p8 h=>BG (v:=.agg ((ab u0)).toArray) (fst:=[]) (cap:=[]) (.yes I I) (bd 15) I (e2 I I) (fun w9 hw9=>ai_c n (Z1.hL0 hL hw9)  p8) I<|bk h fun k0 q8 h=>BG (v:=.agg ((ab k0)).toArray) (fst:=[]) (cap:=[]) (.yes I I) (bd 15) I (e2 I I) (fun w9 hw9=>ai_c n (Z1.hL0 hL hw9)  q8) I<|Ao (.yes I I) I (AW (α:=Tb) (xs:=([u0,k0]:Lb Tb)) (vs:=[.agg ((ab u0)).toArray,.agg ((ab k0)).toArray]) (ds' :=(ab u0 ++ ab k0)) I Z1 gA I (e2 I I) (by kernel_rfl) I) fun y02 y5 b2 t2=>?_
 have c2:=Bu b2 .t1
 have u2:=Bv b2 .t1
 have I2:=Bu c2 .hd
 have v2:=Bv c2 .hd
 refine bk h fun Z02 s8 h=>AA (fst:=[]) (cap:=[]) (.yes I I) (bd 31) I (e2 I I) (fun w9 hw9=>bG_c n (I2.hL hL hw9) (Af (Ag (Bw (α:=Lb Ta) (v:=(vS x5 2)) (xs:=([E3,F3]:Lb (Lb Ta))) c2 L (Bi (α:=Lb Ta) b2 .t1 (AR (AI (cs:=[c1,U0]) (xs:=(([E3,F3]:Lb (Lb Ta)):Lb (Lb Ta))) Z1 L (AE (cs:=[c1]) (ds:=[U0]) (Ag g0 (Tt z3 j1)) (AE (cs:=[U0]) (ds:=[]) (Ag D3 (Tt A3 j1)) (AT _ _)))) t2) hL)) v2) hw9) (Af (Bw (α:=Tb) (v:=(vS y5 2)) (xs:=([u0,k0]:Lb Tb)) I2 L (Bi (α:=Tb) c2 .hd (AR (AI (cs:=(ab u0 ++ ab k0)) (xs:=(([u0,k0]:Lb Tb):Lb Tb)) b2 L (AE (cs:=(ab u0)) (ds:=(ab k0)) (ci u0.fN u0.fD) (AE (cs:=(ab k0)) (ds:=[]) (ci k0.fN k0.fD) (AT _ _)))) u2) hL)) hw9) s8) I fun J9 F01 g7 ⟨q01,hu_,A7⟩=>?_
 subst hu_
 obtain ⟨F0,s3⟩:=I2.agr g7
 refine AJ (Ai I I)<|AJ (Ai I I)<|bk h fun b00 t8 h=>BG (v:=.bool b00) (fst:=[]) (cap:=[vP y1]) (.yes I I) (bd 91) I (e2 I I) (fun w9 hw9=>bh_c n (F0.hL0 hL hw9) (F0.kd A7 hw9) (F0.kd (Ag A4 (Tt q3 (Tt j1 (Tt t2 (Tt u2 (Tt v2 s3)))))) hw9) (aJ hw9 (F0.memA .hd)) t8) I<|Bk I I<|Ac I<|RG.ifb (s:=173) I h (fun G5 h=>?_) (fun G5 h=>?_)
 refine AA (fst:=[]) (cap:=[]) (.yes I I) (bd 30) I (e2 I I) (fun w9 hw9=>Calls.gives (cR_c n (F0.hL hL hw9) (1:Int) (2:Int)) fun (w8:World) (u8:Vc) ⟨b0_,b1_,hu_,s_⟩=>(⟨b0_,b1_,hu_,s_.from hw9⟩:∃ z1 A1:Nat,u8 = Value.func (.func 92) #[] #[vP z1,vP A1]/\St J9 w8 [.cells z1 [vI 1] 3,.cells A1 [vI 2] 3])) I fun z02 G01 Q00 ⟨z1,A1,I7,H4⟩=>?_
 subst I7
 have M0:=eA F0 H4
 have j4:=ir F0 H4
 refine AJ (Al I)<|AJ (Al I)<|bk h fun G3 v8 h=>BG (v:=.tuple #[.agg ((ab G3.1)).toArray,vI G3.2]) (fst:=[]) (cap:=[]) (.yes I I) (bd 25) I (e2 I I) (fun w9 hw9=>aQ_c n (M0.hL0 hL hw9) (M0.kd (Ag g0 (Tt z3 (Tt j1 (Tt t2 (Tt u2 (Tt v2 (Tt s3 j4))))))) hw9) (M0.kd (Ag D3 (Tt A3 (Tt j1 (Tt t2 (Tt u2 (Tt v2 (Tt s3 j4))))))) hw9) v8) I<|AJ (Ai I I)<|AJ (Ai I I)<|bk h fun c00 x8 h=>BG (v:=.bool c00) (fst:=[]) (cap:=[vP z1,vP A1]) (.yes I I) (bd 92) I (e2 I I) (fun w9 hw9=>bp_c n (M0.hL0 hL hw9) G3.1 (aJ hw9 (M0.memA .hd)) (aJ hw9 (M0.memA .t1)) x8) I<|Bk I I<|Ah I<|Aa<|Ar I<|Bb hb0 func12 I I ?_
 cases h
 exact M0.gv
 refine Ap<|Ap<|Ap<|Ap<|Ap<|Ap<|Ap<|Bs I I<|Ah I<|Aa<|Ar I<|Bb hb0 func12 I I ?_
 cases h
 exact F0.gv
 refine Ap<|Ap<|Ap<|Ap<|Ap<|Ap<|Ap<|Ap<|Ap<|Ap<|Ap<|Ap<|Ap<|Ap<|Ap<|Bs I I<|Ac I<|Ap<|Ap<|Ap<|Ap<|Ap<|Ap<|Ap<|Bs I I<|Ah I<|Aa<|Ar I<|Bb hb0 func12 I I ?_
 cases h
 exact R3.gv
 intro E00 x0 h
 try dsimp only at h
 refine du 59 fun b0 c0=>Rv 0 b0 I c0 (fun _=>Al I)<|Rv 1 b0 I c0 (fun _=>Al I)<|RD.ifb (s:=98) I h (fun H5 h=>?_) (fun H5 h=>?_)
 refine BR 3 11 b0 I c0 (.yes I I) (fun _=>Al I) I<|AX 2 15 b0 I (.yes I I) (bd 30) I (e2 I I) (fun w9 hw9=>Calls.gives (cR_c n (d1.hL hL hw9) (1:Int) (2:Int)) fun (w8:World) (u8:Vc) ⟨b0_,b1_,hu_,s_⟩=>(⟨b0_,b1_,hu_,s_.from hw9⟩:∃ B1 C1:Nat,u8 = Value.func (.func 92) #[] #[vP B1,vP C1]/\St H9 w8 [.cells B1 [vI 1] 3,.cells C1 [vI 2] 3])) I fun K9 H01 R00 ⟨B1,C1,J7,I4⟩=>?_
 subst J7
 have y0:=eA d1 I4
 have z0:=ir d1 I4
 refine bk h fun H3 y8 h=>?_
 have B3:=Tt y3 (Tt g3 (Tt j3 (Tt k3 (Tt p3 z0))))
 refine RD.callq (i:=4) (m' :=31) (W:=576460752303423456) (tk b0) I c0 (v:=.tuple #[.agg ((ab H3.1)).toArray,vI H3.2]) (fst:=[]) (cap:=[]) (.yes I I) (bd 19) I (e1 I) (fun w9 hw9=>bZ_c n (y0.hL0 hL hw9) (y0.kd (Ag g0 B3) hw9) y8) I<|BR 5 63 b0 I c0 (.yes I I) (fun _=>Ai I I) I<|BR 6 127 b0 I c0 (.yes I I) (fun _=>Ai I I) I<|bk h fun d00 z8 h=>RD.callq (i:=7) (m' :=255) (W:=576460752303423232) (tk b0) I c0 (v:=.bool d00) (fst:=[]) (cap:=[vP B1,vP C1]) (.yes I I) (bd 92) I (e2 I I) (fun w9 hw9=>bp_c n (y0.hL0 hL hw9) H3.1 (aJ hw9 (y0.memA .hd)) (aJ hw9 (y0.memA .t1)) z8) I<|Rv 8 b0 I c0 (fun _=>BT I I)<|Rv 9 b0 I c0 (fun _=>Al I)<|RD.ifb (s:=106) I h (fun I5 h=>?_) (fun I5 h=>?_)
 refine BR 11 3071 b0 I c0 (.yes I I) (fun _=>Al I) I<|AX 10 4095 b0 I (.yes I I) (bd 30) I (e2 I I) (fun w9 hw9=>Calls.gives (cR_c n (y0.hL hL hw9) (1:Int) (4:Int)) fun (w8:World) (u8:Vc) ⟨b0_,b1_,hu_,s_⟩=>(⟨b0_,b1_,hu_,s_.from hw9⟩:∃ D1 E1:Nat,u8 = Value.func (.func 92) #[] #[vP D1,vP E1]/\St K9 w8 [.cells D1 [vI 1] 3,.cells E1 [vI 4] 3])) I fun M9 I01 U00 ⟨D1,E1,K7,J4⟩=>?_
 subst K7
 have d0:=eA y0 J4
 have A0:=ir y0 J4
 refine bk h fun I3 A8 h=>RD.callq (i:=12) (m' :=8191) (W:=576460752303415296) (tk b0) I c0 (v:=.tuple #[.agg ((ab I3.1)).toArray,vI I3.2]) (fst:=[]) (cap:=[]) (.yes I I) (bd 20) I (e1 I) (fun w9 hw9=>ba_c n (d0.hL0 hL hw9) (d0.kd (Ag g0 (Tt B3 A0)) hw9) A8) I<|BR 13 16383 b0 I c0 (.yes I I) (fun _=>Ai I I) I<|BR 14 32767 b0 I c0 (.yes I I) (fun _=>Ai I I) I<|bk h fun g00 B8 h=>RD.callq (i:=15) (m' :=65535) (W:=576460752303357952) (tk b0) I c0 (v:=.bool g00) (fst:=[]) (cap:=[vP D1,vP E1]) (.yes I I) (bd 92) I (e2 I I) (fun w9 hw9=>bp_c n (d0.hL0 hL hw9) I3.1 (aJ hw9 (d0.memA .hd)) (aJ hw9 (d0.memA .t1)) B8) I<|Rv 16 b0 I c0 (fun _=>BT I I)<|Rv 17 b0 I c0 (fun _=>Al I)<|RD.ifb (s:=114) I h (fun J5 h=>?_) (fun J5 h=>?_)
 refine RD.val (i:=18) (m' :=524287) (W:=576460752302374912) (tk b0) I c0 (.yes I I) (Az I (d0.memA .t5)) I<|bk h fun J3 C8 h=>RD.callq (i:=19) (m' :=1048575) (W:=576460752302374912) (tk b0) I c0 (v:=.agg ((ab J3)).toArray) (fst:=[]) (cap:=[]) (.yes I I) (bd 15) I (e2 I I) (fun w9 hw9=>ai_c n (d0.hL0 hL hw9)  C8) I<|BR 20 2097151 b0 I c0 (.yes I I) (fun _=>FV.eqlV (v:=.agg ((ab t0.1)).toArray) (u:=.agg ((ab J3)).toArray) I I (cn t0.1 J3)) I<|Rv 21 b0 I c0 (fun _=>BT I I)<|Rv 22 b0 I c0 (fun _=>Al I)<|RD.ifd (s:=119) I h (fun K5 h=>?_) (fun K5 h=>?_)
 refine RD.val (i:=23) (m' :=16777215) (W:=576460752269869056) (tk b0) I c0 (.yes I I) (Az I (d0.memA .t4)) I<|bk h fun K3 D8 h=>RD.callq (i:=24) (m' :=33554431) (W:=576460752269869056) (tk b0) I c0 (v:=.agg ((ab K3)).toArray) (fst:=[]) (cap:=[]) (.yes I I) (bd 15) I (e2 I I) (fun w9 hw9=>ai_c n (d0.hL0 hL hw9)  D8) I<|BR 25 67108863 b0 I c0 (.yes I I) (fun _=>FV.eqlV (v:=.agg ((ab t0.2.1)).toArray) (u:=.agg ((ab K3)).toArray) I I (cn t0.2.1 K3)) I<|Rv 26 b0 I c0 (fun _=>BT I I)<|Rv 27 b0 I c0 (fun _=>Al I)<|RD.ifd (s:=124) I h (fun M5 h=>?_) (fun M5 h=>?_)
 refine BR 28 536870911 b0 I c0 (.yes I I) (fun _=>Al I) I<|BR 29 1073741823 b0 I c0 (.yes I I) (fun _=>FV.eql (i:=t0.2.2) (j:=0) I I) I<|Rv 30 b0 I c0 (fun _=>BT I I)<|Rv 31 b0 I c0 (fun _=>Al I)<|RD.ifd (s:=128) I h (fun P5 h=>?_) (fun P5 h=>?_)
 refine BR 33 12884901887 b0 I c0 (.yes I I) (fun _=>Al I) I<|AX 32 17179869183 b0 I (.yes I I) (bd 30) I (e2 I I) (fun w9 hw9=>Calls.gives (cR_c n (d0.hL hL hw9) (0:Int) (1:Int)) fun (w8:World) (u8:Vc) ⟨b0_,b1_,hu_,s_⟩=>(⟨b0_,b1_,hu_,s_.from hw9⟩:∃ F1 G1:Nat,u8 = Value.func (.func 92) #[] #[vP F1,vP G1]/\St M9 w8 [.cells F1 [vI 0] 3,.cells G1 [vI 1] 3])) I fun P9 J01 V00 ⟨F1,G1,M7,K4⟩=>?_
 subst M7
 have q0:=eA d0 K4
 have x2:=ir d0 K4
 refine bk h fun Z4 E8 h=>RD.callq (i:=34) (m' :=34359738367) (W:=576460717943685120) (tk b0) I c0 (v:=.agg ((ab Z4)).toArray) (fst:=[]) (cap:=[]) (.yes I I) (bd 15) I (e2 I I) (fun w9 hw9=>ai_c n (q0.hL0 hL hw9)  E8) I<|bk h fun M3 F8 h=>?_
 have C3:=Tt B3 (Tt A0 x2)
 refine RD.callq (i:=35) (m' :=68719476735) (W:=576460683583946752) (tk b0) I c0 (v:=.tuple #[.agg ((ab M3.1)).toArray,vI M3.2]) (fst:=[]) (cap:=[]) (.yes I I) (bd 21) I (e2 I I) (fun w9 hw9=>bb_c n (q0.hL0 hL hw9) (q0.kd (Ag g0 C3) hw9) Z4 F8) I<|BR 36 137438953471 b0 I c0 (.yes I I) (fun _=>Ai I I) I<|BR 37 274877906943 b0 I c0 (.yes I I) (fun _=>Ai I I) I<|bk h fun j00 G8 h=>RD.callq (i:=38) (m' :=549755813887) (W:=576460202547609600) (tk b0) I c0 (v:=.bool j00) (fst:=[]) (cap:=[vP F1,vP G1]) (.yes I I) (bd 92) I (e2 I I) (fun w9 hw9=>bp_c n (q0.hL0 hL hw9) M3.1 (aJ hw9 (q0.memA .hd)) (aJ hw9 (q0.memA .t1)) G8) I<|Rv 39 b0 I c0 (fun _=>BT I I)<|Rv 40 b0 I c0 (fun _=>Al I)<|RD.ifb (s:=137) I h (fun Q5 h=>?_) (fun Q5 h=>?_)
 refine BR 42 6597069766655 b0 I c0 (.yes I I) (fun _=>Al I) I<|AX 41 8796093022207 b0 I (.yes I I) (bd 30) I (e2 I I) (fun w9 hw9=>Calls.gives (cR_c n (q0.hL hL hw9) (1:Int) (1:Int)) fun (w8:World) (u8:Vc) ⟨b0_,b1_,hu_,s_⟩=>(⟨b0_,b1_,hu_,s_.from hw9⟩:∃ H1 I1:Nat,u8 = Value.func (.func 92) #[] #[vP H1,vP I1]/\St P9 w8 [.cells H1 [vI 1] 3,.cells I1 [vI 1] 3])) I fun Q9 K01 W00 ⟨H1,I1,P7,M4⟩=>?_
 subst P7
 have s0:=eA q0 M4
 have y2:=ir q0 M4
 refine bk h fun b5 H8 h=>RD.callq (i:=43) (m' :=17592186044415) (W:=576443160117379072) (tk b0) I c0 (v:=.agg ((ab b5)).toArray) (fst:=[]) (cap:=[]) (.yes I I) (bd 15) I (e2 I I) (fun w9 hw9=>ai_c n (s0.hL0 hL hw9)  H8) I<|bk h fun P3 I8 h=>RD.callq (i:=44) (m' :=35184372088831) (W:=576425567931334656) (tk b0) I c0 (v:=.tuple #[.agg ((ab P3.1)).toArray,vI P3.2]) (fst:=[]) (cap:=[]) (.yes I I) (bd 21) I (e2 I I) (fun w9 hw9=>bb_c n (s0.hL0 hL hw9) (s0.kd (Ag g0 (Tt C3 y2)) hw9) b5 I8) I<|BR 45 70368744177663 b0 I c0 (.yes I I) (fun _=>Ai I I) I<|BR 46 140737488355327 b0 I c0 (.yes I I) (fun _=>Ai I I) I<|bk h fun k00 J8 h=>RD.callq (i:=47) (m' :=281474976710655) (W:=576179277326712832) (tk b0) I c0 (v:=.bool k00) (fst:=[]) (cap:=[vP H1,vP I1]) (.yes I I) (bd 92) I (e2 I I) (fun w9 hw9=>bp_c n (s0.hL0 hL hw9) P3.1 (aJ hw9 (s0.memA .hd)) (aJ hw9 (s0.memA .t1)) J8) I<|Rv 48 b0 I c0 (fun _=>BT I I)<|Rv 49 b0 I c0 (fun _=>Al I)<|RD.ifb (s:=146) I h (fun R5 h=>?_) (fun R5 h=>?_)
 refine BR 51 3377699720527871 b0 I c0 (.yes I I) (fun _=>Al I) I<|AX 50 4503599627370495 b0 I (.yes I I) (bd 18) I (e1 I) (fun w9 hw9=>Calls.gives (dj_c n (s0.hL hL hw9) (2:Int)) fun (w8:World) (u8:Vc) ⟨b0_,hu_,s_⟩=>(⟨b0_,hu_,s_.from hw9⟩:∃ J1:Nat,u8 = Value.func (.func 74) #[] #[vP J1]/\St Q9 w8 [.cells J1 [vI 2] 27])) I fun A02 M01 X00 ⟨J1,Q7,P4⟩=>?_
 subst Q7
 have V0:=ct s0 P4
 have k4:=ek s0 P4
 refine bk h fun c5 K8 h=>RD.callq (i:=52) (m' :=9007199254740991) (W:=567453553048682496) (tk b0) I c0 (v:=.agg ((ab c5)).toArray) (fst:=[]) (cap:=[]) (.yes I I) (bd 15) I (e2 I I) (fun w9 hw9=>ai_c n (V0.hL0 hL hw9)  K8) I<|bk h fun Q3 M8 h=>RD.callq (i:=53) (m' :=18014398509481983) (W:=558446353793941504) (tk b0) I c0 (v:=.tuple #[.agg ((ab Q3.1)).toArray,vI Q3.2]) (fst:=[]) (cap:=[]) (.yes I I) (bd 21) I (e2 I I) (fun w9 hw9=>bb_c n (V0.hL0 hL hw9) (V0.kd (Ag g0 (Tt C3 (Tt y2 k4))) hw9) c5 M8) I<|BR 54 36028797018963967 b0 I c0 (.yes I I) (fun _=>Ai I I) I<|BR 55 72057594037927935 b0 I c0 (.yes I I) (fun _=>Ai I I) I<|bk h fun d5 P8 h=>RD.callq (i:=56) (m' :=144115188075855871) (W:=432345564227567616) (tk b0) I c0 (v:=.bool d5) (fst:=[]) (cap:=[vP J1]) (.yes I I) (bd 74) I (e2 I I) (fun w9 hw9=>cE_c n (V0.hL0 hL hw9) Q3.1 (aJ hw9 (V0.memA .hd)) P8) I<|Rv 57 b0 I c0 (fun _=>BT I I)<|Rv 58 b0 I c0 (fun _=>Bj I)<|AK (dk b0) ?_
 obtain ⟨j6,F6⟩:=AB V0 .done
 exact x0 d5 j6 (Tt z0 (Tt A0 (Tt x2 (Tt y2 (Tt k4 F6))))) h
 refine BF 144115188075855871 2 [(50,147),(51,148),(52,149),(53,150),(54,151),(55,152),(56,153)] (F:=[(146,false)]) (U:=[]) b0 c0 (.cons I .nil) .nil ?_
 dsimp only [aO,List.map]
 refine Rv 57 b0 I c0 (fun _=>Br I I)<|Rv 58 b0 I c0 (fun _=>Bj I)<|AK (dk b0) ?_
 obtain ⟨k6,G6⟩:=AB s0 .done
 exact x0 false k6 (Tt z0 (Tt A0 (Tt x2 (Tt y2 G6)))) h
 refine BF 281474976710655 11 [(41,138),(42,139),(43,140),(44,141),(45,142),(46,143),(47,144)] (F:=[(137,false)]) (U:=[]) b0 c0 (.cons I .nil) .nil ?_
 dsimp only [aO,List.map]
 refine Rv 48 b0 I c0 (fun _=>Br I I)<|Rv 49 b0 I c0 (fun _=>Al I)<|BF 144115188075855871 2 [(50,147),(51,148),(52,149),(53,150),(54,151),(55,152),(56,153)] (F:=[(146,false)]) (U:=[]) b0 c0 (.cons I .nil) .nil ?_
 dsimp only [aO,List.map]
 refine Rv 57 b0 I c0 (fun _=>Br I I)<|Rv 58 b0 I c0 (fun _=>Bj I)<|AK (dk b0) ?_
 obtain ⟨p6,H6⟩:=AB q0 .done
 exact x0 false p6 (Tt z0 (Tt A0 (Tt x2 H6))) h
 refine BF 549755813887 20 [(32,129),(33,130),(34,131),(35,132),(36,133),(37,134),(38,135)] (F:=[(128,false)]) (U:=[]) b0 c0 (.cons I .nil) .nil ?_
 dsimp only [aO,List.map]
 refine Rv 39 b0 I c0 (fun _=>Br I I)<|Rv 40 b0 I c0 (fun _=>Al I)<|BF 281474976710655 11 [(41,138),(42,139),(43,140),(44,141),(45,142),(46,143),(47,144)] (F:=[(137,false)]) (U:=[]) b0 c0 (.cons I .nil) .nil ?_
 dsimp only [aO,List.map]
 refine Rv 48 b0 I c0 (fun _=>Br I I)<|Rv 49 b0 I c0 (fun _=>Al I)<|BF 144115188075855871 2 [(50,147),(51,148),(52,149),(53,150),(54,151),(55,152),(56,153)] (F:=[(146,false)]) (U:=[]) b0 c0 (.cons I .nil) .nil ?_
 dsimp only [aO,List.map]
 refine Rv 57 b0 I c0 (fun _=>Br I I)<|Rv 58 b0 I c0 (fun _=>Bj I)<|AK (dk b0) ?_
 obtain ⟨q6,I6⟩:=AB d0 .done
 exact x0 false q6 (Tt z0 (Tt A0 I6)) h
 refine BF 1073741823 29 [(28,125),(29,126)] (F:=[(124,false)]) (U:=[]) b0 c0 (.cons I .nil) .nil ?_
 dsimp only [aO,List.map]
 refine Rv 30 b0 I c0 (fun _=>Br I I)<|Rv 31 b0 I c0 (fun _=>Al I)<|BF 549755813887 20 [(32,129),(33,130),(34,131),(35,132),(36,133),(37,134),(38,135)] (F:=[(128,false)]) (U:=[]) b0 c0 (.cons I .nil) .nil ?_
 dsimp only [aO,List.map]
 refine Rv 39 b0 I c0 (fun _=>Br I I)<|Rv 40 b0 I c0 (fun _=>Al I)<|BF 281474976710655 11 [(41,138),(42,139),(43,140),(44,141),(45,142),(46,143),(47,144)] (F:=[(137,false)]) (U:=[]) b0 c0 (.cons I .nil) .nil ?_
 dsimp only [aO,List.map]
 refine Rv 48 b0 I c0 (fun _=>Br I I)<|Rv 49 b0 I c0 (fun _=>Al I)<|BF 144115188075855871 2 [(50,147),(51,148),(52,149),(53,150),(54,151),(55,152),(56,153)] (F:=[(146,false)]) (U:=[]) b0 c0 (.cons I .nil) .nil ?_
 dsimp only [aO,List.map]
 refine Rv 57 b0 I c0 (fun _=>Br I I)<|Rv 58 b0 I c0 (fun _=>Bj I)<|AK (dk b0) ?_
 obtain ⟨s6,J6⟩:=AB d0 .done
 exact x0 false s6 (Tt z0 (Tt A0 J6)) h
 refine BF 67108863 33 [(23,120),(24,121),(25,122)] (F:=[(119,false)]) (U:=[]) b0 c0 (.cons I .nil) .nil ?_
 dsimp only [aO,List.map]
 refine Rv 26 b0 I c0 (fun _=>Br I I)<|Rv 27 b0 I c0 (fun _=>Al I)<|BF 1073741823 29 [(28,125),(29,126)] (F:=[(124,false)]) (U:=[]) b0 c0 (.cons I .nil) .nil ?_
 dsimp only [aO,List.map]
 refine Rv 30 b0 I c0 (fun _=>Br I I)<|Rv 31 b0 I c0 (fun _=>Al I)<|BF 549755813887 20 [(32,129),(33,130),(34,131),(35,132),(36,133),(37,134),(38,135)] (F:=[(128,false)]) (U:=[]) b0 c0 (.cons I .nil) .nil ?_
 dsimp only [aO,List.map]
 refine Rv 39 b0 I c0 (fun _=>Br I I)<|Rv 40 b0 I c0 (fun _=>Al I)<|BF 281474976710655 11 [(41,138),(42,139),(43,140),(44,141),(45,142),(46,143),(47,144)] (F:=[(137,false)]) (U:=[]) b0 c0 (.cons I .nil) .nil ?_
 dsimp only [aO,List.map]
 refine Rv 48 b0 I c0 (fun _=>Br I I)<|Rv 49 b0 I c0 (fun _=>Al I)<|BF 144115188075855871 2 [(50,147),(51,148),(52,149),(53,150),(54,151),(55,152),(56,153)] (F:=[(146,false)]) (U:=[]) b0 c0 (.cons I .nil) .nil ?_
 dsimp only [aO,List.map]
 refine Rv 57 b0 I c0 (fun _=>Br I I)<|Rv 58 b0 I c0 (fun _=>Bj I)<|AK (dk b0) ?_
 obtain ⟨t6,K6⟩:=AB d0 .done
 exact x0 false t6 (Tt z0 (Tt A0 K6)) h
 refine BF 2097151 38 [(18,115),(19,116),(20,117)] (F:=[(114,false)]) (U:=[]) b0 c0 (.cons I .nil) .nil ?_
 dsimp only [aO,List.map]
 refine Rv 21 b0 I c0 (fun _=>Br I I)<|Rv 22 b0 I c0 (fun _=>Al I)<|BF 67108863 33 [(23,120),(24,121),(25,122)] (F:=[(119,false)]) (U:=[]) b0 c0 (.cons I .nil) .nil ?_
 dsimp only [aO,List.map]
 refine Rv 26 b0 I c0 (fun _=>Br I I)<|Rv 27 b0 I c0 (fun _=>Al I)<|BF 1073741823 29 [(28,125),(29,126)] (F:=[(124,false)]) (U:=[]) b0 c0 (.cons I .nil) .nil ?_
 dsimp only [aO,List.map]
 refine Rv 30 b0 I c0 (fun _=>Br I I)<|Rv 31 b0 I c0 (fun _=>Al I)<|BF 549755813887 20 [(32,129),(33,130),(34,131),(35,132),(36,133),(37,134),(38,135)] (F:=[(128,false)]) (U:=[]) b0 c0 (.cons I .nil) .nil ?_
 dsimp only [aO,List.map]
 refine Rv 39 b0 I c0 (fun _=>Br I I)<|Rv 40 b0 I c0 (fun _=>Al I)<|BF 281474976710655 11 [(41,138),(42,139),(43,140),(44,141),(45,142),(46,143),(47,144)] (F:=[(137,false)]) (U:=[]) b0 c0 (.cons I .nil) .nil ?_
 dsimp only [aO,List.map]
 refine Rv 48 b0 I c0 (fun _=>Br I I)<|Rv 49 b0 I c0 (fun _=>Al I)<|BF 144115188075855871 2 [(50,147),(51,148),(52,149),(53,150),(54,151),(55,152),(56,153)] (F:=[(146,false)]) (U:=[]) b0 c0 (.cons I .nil) .nil ?_
 dsimp only [aO,List.map]
 refine Rv 57 b0 I c0 (fun _=>Br I I)<|Rv 58 b0 I c0 (fun _=>Bj I)<|AK (dk b0) ?_
 obtain ⟨u6,M6⟩:=AB d0 .done
 exact x0 false u6 (Tt z0 (Tt A0 M6)) h
 refine BF 65535 43 [(10,107),(11,108),(12,109),(13,110),(14,111),(15,112)] (F:=[(106,false)]) (U:=[]) b0 c0 (.cons I .nil) .nil ?_
 dsimp only [aO,List.map]
 refine Rv 16 b0 I c0 (fun _=>Br I I)<|Rv 17 b0 I c0 (fun _=>Al I)<|BF 2097151 38 [(18,115),(19,116),(20,117)] (F:=[(114,false)]) (U:=[]) b0 c0 (.cons I .nil) .nil ?_
 dsimp only [aO,List.map]
 refine Rv 21 b0 I c0 (fun _=>Br I I)<|Rv 22 b0 I c0 (fun _=>Al I)<|BF 67108863 33 [(23,120),(24,121),(25,122)] (F:=[(119,false)]) (U:=[]) b0 c0 (.cons I .nil) .nil ?_
 dsimp only [aO,List.map]
 refine Rv 26 b0 I c0 (fun _=>Br I I)<|Rv 27 b0 I c0 (fun _=>Al I)<|BF 1073741823 29 [(28,125),(29,126)] (F:=[(124,false)]) (U:=[]) b0 c0 (.cons I .nil) .nil ?_
 dsimp only [aO,List.map]
 refine Rv 30 b0 I c0 (fun _=>Br I I)<|Rv 31 b0 I c0 (fun _=>Al I)<|BF 549755813887 20 [(32,129),(33,130),(34,131),(35,132),(36,133),(37,134),(38,135)] (F:=[(128,false)]) (U:=[]) b0 c0 (.cons I .nil) .nil ?_
 dsimp only [aO,List.map]
 refine Rv 39 b0 I c0 (fun _=>Br I I)<|Rv 40 b0 I c0 (fun _=>Al I)<|BF 281474976710655 11 [(41,138),(42,139),(43,140),(44,141),(45,142),(46,143),(47,144)] (F:=[(137,false)]) (U:=[]) b0 c0 (.cons I .nil) .nil ?_
 dsimp only [aO,List.map]
 refine Rv 48 b0 I c0 (fun _=>Br I I)<|Rv 49 b0 I c0 (fun _=>Al I)<|BF 144115188075855871 2 [(50,147),(51,148),(52,149),(53,150),(54,151),(55,152),(56,153)] (F:=[(146,false)]) (U:=[]) b0 c0 (.cons I .nil) .nil ?_
 dsimp only [aO,List.map]
 refine Rv 57 b0 I c0 (fun _=>Br I I)<|Rv 58 b0 I c0 (fun _=>Bj I)<|AK (dk b0) ?_
 obtain ⟨v6,P6⟩:=AB y0 .done
 exact x0 false v6 (Tt z0 P6) h
 refine BF 255 51 [(2,99),(3,100),(4,101),(5,102),(6,103),(7,104)] (F:=[(98,false)]) (U:=[]) b0 c0 (.cons I .nil) .nil ?_
 dsimp only [aO,List.map]
 refine Rv 8 b0 I c0 (fun _=>Br I I)<|Rv 9 b0 I c0 (fun _=>Al I)<|BF 65535 43 [(10,107),(11,108),(12,109),(13,110),(14,111),(15,112)] (F:=[(106,false)]) (U:=[]) b0 c0 (.cons I .nil) .nil ?_
 dsimp only [aO,List.map]
 refine Rv 16 b0 I c0 (fun _=>Br I I)<|Rv 17 b0 I c0 (fun _=>Al I)<|BF 2097151 38 [(18,115),(19,116),(20,117)] (F:=[(114,false)]) (U:=[]) b0 c0 (.cons I .nil) .nil ?_
 dsimp only [aO,List.map]
 refine Rv 21 b0 I c0 (fun _=>Br I I)<|Rv 22 b0 I c0 (fun _=>Al I)<|BF 67108863 33 [(23,120),(24,121),(25,122)] (F:=[(119,false)]) (U:=[]) b0 c0 (.cons I .nil) .nil ?_
 dsimp only [aO,List.map]
 refine Rv 26 b0 I c0 (fun _=>Br I I)<|Rv 27 b0 I c0 (fun _=>Al I)<|BF 1073741823 29 [(28,125),(29,126)] (F:=[(124,false)]) (U:=[]) b0 c0 (.cons I .nil) .nil ?_
 dsimp only [aO,List.map]
 refine Rv 30 b0 I c0 (fun _=>Br I I)<|Rv 31 b0 I c0 (fun _=>Al I)<|BF 549755813887 20 [(32,129),(33,130),(34,131),(35,132),(36,133),(37,134),(38,135)] (F:=[(128,false)]) (U:=[]) b0 c0 (.cons I .nil) .nil ?_
 dsimp only [aO,List.map]
 refine Rv 39 b0 I c0 (fun _=>Br I I)<|Rv 40 b0 I c0 (fun _=>Al I)<|BF 281474976710655 11 [(41,138),(42,139),(43,140),(44,141),(45,142),(46,143),(47,144)] (F:=[(137,false)]) (U:=[]) b0 c0 (.cons I .nil) .nil ?_
 dsimp only [aO,List.map]
 refine Rv 48 b0 I c0 (fun _=>Br I I)<|Rv 49 b0 I c0 (fun _=>Al I)<|BF 144115188075855871 2 [(50,147),(51,148),(52,149),(53,150),(54,151),(55,152),(56,153)] (F:=[(146,false)]) (U:=[]) b0 c0 (.cons I .nil) .nil ?_
 dsimp only [aO,List.map]
 refine Rv 57 b0 I c0 (fun _=>Br I I)<|Rv 58 b0 I c0 (fun _=>Bj I)<|AK (dk b0) ?_
 obtain ⟨x6,Q6⟩:=AB d1 .done
 exact x0 false x6 Q6 h
 intro D00 K0 h
 try dsimp only at h
 refine Am<|Ab (AS (vs:=[vI 2,vI 1]) (u:=.agg #[vI 2,vI 1]) (e2 I I) (fun w9=>by kernel_rfl))<|Ab (AS (vs:=[vI 6,vI 2]) (u:=.agg #[vI 6,vI 2]) (e2 I I) (fun w9=>by kernel_rfl))<|Ao .plain I (AW (α:=Int × Int) (xs:=([((2:Int),(1:Int)),((6:Int),(2:Int))]:Lb (Int × Int))) (vs:=[.agg #[vI 2,vI 1],.agg #[vI 6,vI 2]]) (ds' :=[vI 2,vI 1,vI 6,vI 2]) I U3 gR I (e2 I I) (by kernel_rfl) I) fun B02 z5 d2 H0=>?_
 have J2:=Bu d2 .hd
 have I0:=Bv d2 .hd
 refine bk h fun p00 Q8 h=>jE (bd 13) I (e2 I I) (fun w9 hw9=>az_c n (J2.hL hL hw9) (Af (Bw (α:=Int × Int) (v:=(vS z5 2)) (xs:=([((2:Int),(1:Int)),((6:Int),(2:Int))]:Lb (Int × Int))) J2 L (Bi (α:=Int × Int) d2 .hd (AI (cs:=[vI 2,vI 1,vI 6,vI 2]) (xs:=(([((2:Int),(1:Int)),((6:Int),(2:Int))]:Lb (Int × Int)):Lb (Int × Int))) d2 L (AE (cs:=[vI 2,vI 1]) (ds:=[vI 6,vI 2]) (bR (2:Int) (1:Int)) (AE (cs:=[vI 6,vI 2]) (ds:=[]) (bR (6:Int) (2:Int)) (AT _ _)))) hL)) hw9) Q8) I fun R9 C9 j7 ⟨s01,hu_,B4⟩=>?_
 subst hu_
 obtain ⟨K2,J0⟩:=J2.agr j7
 refine jE (bd 28) I (e1 I) (fun w9 hw9=>Calls.gives (cM_c n (K2.hL hL hw9) p00 (Af B4 hw9)) fun (w8:World) (u8:Vc) ⟨b0_,hu_,s_⟩=>(⟨b0_,hu_,s_.from hw9⟩:∃ K1:Nat,u8 = Value.func (.func 91) #[] #[vP K1]/\St R9 w8 [.cells K1 [C9] 24])) I fun C02 P01 Y00 ⟨K1,R7,Q4⟩=>?_
 subst R7
 have g2:=ct K2 Q4
 have B0:=ek K2 Q4
 refine bk h fun v0 R8 h=>Bd (.agg ((ab v0)).toArray) (bd 15) I (e2 I I) (fun w9 hw9=>ai_c n (g2.hL0 hL hw9)  R8) I<|bk h fun p0 U8 h=>Bd (.agg ((ab p0)).toArray) (bd 15) I (e2 I I) (fun w9 hw9=>ai_c n (g2.hL0 hL hw9)  U8) I<|bk h fun j0 V8 h=>Bd (.agg ((ab j0)).toArray) (bd 15) I (e2 I I) (fun w9 hw9=>ai_c n (g2.hL0 hL hw9)  V8) I<|Ao .plain I (AW (α:=Tb) (xs:=([v0,p0,j0]:Lb Tb)) (vs:=[.agg ((ab v0)).toArray,.agg ((ab p0)).toArray,.agg ((ab j0)).toArray]) (ds' :=(ab v0 ++ ab p0 ++ ab j0)) I g2 gA I (e3 I I I) (by kernel_rfl) I) fun D02 A5 j2 C0=>?_
 have M2:=Bu j2 .hd
 have D0:=Bv j2 .hd
 refine bk h fun b03 W8 h=>jE (bd 26) I (e1 I) (fun w9 hw9=>cI_c n (M2.hL hL hw9) (Af (Bw (α:=Tb) (v:=(vS A5 3)) (xs:=([v0,p0,j0]:Lb Tb)) M2 L (Bi (α:=Tb) j2 .hd (AI (cs:=(ab v0 ++ ab p0 ++ ab j0)) (xs:=(([v0,p0,j0]:Lb Tb):Lb Tb)) j2 L (AE (cs:=(ab v0)) (ds:=(ab p0 ++ ab j0)) (ci v0.fN v0.fD) (AE (cs:=(ab p0)) (ds:=(ab j0)) (ci p0.fN p0.fD) (AE (cs:=(ab j0)) (ds:=[]) (ci j0.fN j0.fD) (AT _ _))))) hL)) hw9) W8) I fun U9 Q01 k7 ⟨t01,hu_,B7⟩=>?_
 subst hu_
 obtain ⟨G0,E0⟩:=M2.agr k7
 refine Ab (Ai I I)<|Ab (Ai I I)<|bk h fun q00 X8 h=>BG (v:=.bool q00) (fst:=[]) (cap:=[vP K1]) .plain (bd 91) I (e2 I I) (fun w9 hw9=>bh_c n (G0.hL0 hL hw9) (G0.kd B7 hw9) (G0.kd (Ag B4 (Tt B0 (Tt C0 (Tt D0 E0)))) hw9) (aJ hw9 (G0.memA .hd)) X8) I<|Ac I<|RG.ifb (s:=27) I h (fun U5 h=>?_) (fun U5 h=>?_)
 refine AA (fst:=[]) (cap:=[]) (.yes I I) (bd 22) I (e1 I) (fun w9 hw9=>Calls.gives (dl_c n (G0.hL hL hw9) (4:Int)) fun (w8:World) (u8:Vc) ⟨b0_,hu_,s_⟩=>(⟨b0_,hu_,s_.from hw9⟩:∃ M1:Nat,u8 = Value.func (.func 82) #[] #[vP M1]/\St U9 w8 [.cells M1 [vI 4] 27])) I fun E02 R01 Z00 ⟨M1,U7,R4⟩=>?_
 subst U7
 have P2:=ct G0 R4
 have Q0:=ek G0 R4
 refine bk h fun c03 Y8 h=>AA (fst:=[]) (cap:=[]) (.yes I I) (bd 26) I (e1 I) (fun w9 hw9=>cI_c n (P2.hL hL hw9) (Af (Bo (α:=Tb) P2 L) hw9) Y8) I fun F02 U01 p7 ⟨u01,hu_,C7⟩=>?_
 subst hu_
 obtain ⟨P0,R0⟩:=P2.agr p7
 refine AJ (Ai I I)<|AJ (Ai I I)<|bk h fun s00 Z8 h=>BG (v:=.bool s00) (fst:=[]) (cap:=[vP M1]) (.yes I I) (bd 82) I (e2 I I) (fun w9 hw9=>cF_c n (P0.hL0 hL hw9) (P0.kd C7 hw9) (aJ hw9 (P0.memA .hd)) Z8) I<|Bk I I<|Ac I<|RG.ifb (s:=34) I h (fun V5 h=>?_) (fun V5 h=>?_)
 refine bk h fun g5 b9 h=>BG (v:=vI g5) (fst:=[]) (cap:=[]) (.yes I I) (bd 16) I (e1 I) (fun w9 hw9=>aU_c n (P0.hL0 hL hw9) (Af (Rep.nilSlice _ _) hw9) b9) I<|AJ (FV.eql (i:=g5) (j:=50) I I)<|Bk I I<|Ac I<|RG.ifd (s:=38) I h (fun W5 h=>?_) (fun W5 h=>?_)
 refine AJ (AS (vs:=[vI 0,vI 1]) (u:=.agg #[vI 0,vI 1]) (e2 I I) (fun w9=>by kernel_rfl))<|AJ (AS (vs:=[vI 2,vI 2]) (u:=.agg #[vI 2,vI 2]) (e2 I I) (fun w9=>by kernel_rfl))<|AJ (AS (vs:=[vI 4,vI 1]) (u:=.agg #[vI 4,vI 1]) (e2 I I) (fun w9=>by kernel_rfl))<|Ao (.yes I I) I (AW (α:=Int × Int) (xs:=([((0:Int),(1:Int)),((2:Int),(2:Int)),((4:Int),(1:Int))]:Lb (Int × Int))) (vs:=[.agg #[vI 0,vI 1],.agg #[vI 2,vI 2],.agg #[vI 4,vI 1]]) (ds' :=[vI 0,vI 1,vI 2,vI 2,vI 4,vI 1]) I P0 gR I (e3 I I I) (by kernel_rfl) I) fun G02 B5 k2 k1=>?_
 have Q2:=Bu k2 .hd
 have p1:=Bv k2 .hd
 refine bk h fun t00 c9 h=>AA (fst:=[]) (cap:=[]) (.yes I I) (bd 13) I (e2 I I) (fun w9 hw9=>az_c n (Q2.hL hL hw9) (Af (Bw (α:=Int × Int) (v:=(vS B5 3)) (xs:=([((0:Int),(1:Int)),((2:Int),(2:Int)),((4:Int),(1:Int))]:Lb (Int × Int))) Q2 L (Bi (α:=Int × Int) k2 .hd (AI (cs:=[vI 0,vI 1,vI 2,vI 2,vI 4,vI 1]) (xs:=(([((0:Int),(1:Int)),((2:Int),(2:Int)),((4:Int),(1:Int))]:Lb (Int × Int)):Lb (Int × Int))) k2 L (AE (cs:=[vI 0,vI 1]) (ds:=[vI 2,vI 2,vI 4,vI 1]) (bR (0:Int) (1:Int)) (AE (cs:=[vI 2,vI 2]) (ds:=[vI 4,vI 1]) (bR (2:Int) (2:Int)) (AE (cs:=[vI 4,vI 1]) (ds:=[]) (bR (4:Int) (1:Int)) (AT _ _))))) hL)) hw9) c9) I fun V9 D9 q7 ⟨v01,hu_,C4⟩=>?_
 subst hu_
 obtain ⟨R2,q1⟩:=Q2.agr q7
 refine AA (fst:=[]) (cap:=[]) (.yes I I) (bd 28) I (e1 I) (fun w9 hw9=>Calls.gives (cM_c n (R2.hL hL hw9) t00 (Af C4 hw9)) fun (w8:World) (u8:Vc) ⟨b0_,hu_,s_⟩=>(⟨b0_,hu_,s_.from hw9⟩:∃ P1:Nat,u8 = Value.func (.func 91) #[] #[vP P1]/\St V9 w8 [.cells P1 [D9] 24])) I fun H02 V01 b01 ⟨P1,V7,U4⟩=>?_
 subst V7
 have V3:=ct R2 U4
 have Z0:=ek R2 U4
 refine AJ (Al I)<|AJ (Al I)<|bk h fun d03 d9 h=>?_
 have x4:=Tt X3 (Tt Y3 (Tt g4 (Tt H0 (Tt I0 (Tt J0 (Tt B0 (Tt C0 (Tt D0 (Tt E0 (Tt Q0 (Tt R0 (Tt k1 (Tt p1 (Tt q1 Z0))))))))))))))
 have v4:=Ag g0 x4
 refine AA (fst:=[]) (cap:=[]) (.yes I I) (bd 24) I (e2 I I) (fun w9 hw9=>cQ_c n (V3.hL hL hw9) (Af v4 hw9) (Af v4 hw9) d9) I fun I02 W01 s7 ⟨x01,hu_,D7⟩=>?_
 subst hu_
 obtain ⟨W0,b1⟩:=V3.agr s7
 refine AJ (Ai I I)<|AJ (Ai I I)<|bk h fun u00 g9 h=>BG (v:=.bool u00) (fst:=[]) (cap:=[vP P1]) (.yes I I) (bd 91) I (e2 I I) (fun w9 hw9=>bh_c n (W0.hL0 hL hw9) (W0.kd D7 hw9) (W0.kd (Ag C4 (Tt Z0 b1)) hw9) (aJ hw9 (W0.memA .hd)) g9) I<|Bk I I<|Ac I<|RG.ifb (s:=52) I h (fun X5 h=>?_) (fun X5 h=>?_)
 refine AJ (AS (vs:=[vI (-4),vI 1]) (u:=.agg #[vI (-4),vI 1]) (e2 I I) (fun w9=>by kernel_rfl))<|AJ (AS (vs:=[vI 0,vI 1]) (u:=.agg #[vI 0,vI 1]) (e2 I I) (fun w9=>by kernel_rfl))<|Ao (.yes I I) I (AW (α:=Int × Int) (xs:=([((-4:Int),(1:Int)),((0:Int),(1:Int))]:Lb (Int × Int))) (vs:=[.agg #[vI (-4),vI 1],.agg #[vI 0,vI 1]]) (ds' :=[vI (-4),vI 1,vI 0,vI 1]) I W0 gR I (e2 I I) (by kernel_rfl) I) fun J02 C5 p2 z2=>?_
 have U2:=Bu p2 .hd
 have A2:=Bv p2 .hd
 refine bk h fun v00 j9 h=>AA (fst:=[]) (cap:=[]) (.yes I I) (bd 13) I (e2 I I) (fun w9 hw9=>az_c n (U2.hL hL hw9) (Af (Bw (α:=Int × Int) (v:=(vS C5 2)) (xs:=([((-4:Int),(1:Int)),((0:Int),(1:Int))]:Lb (Int × Int))) U2 L (Bi (α:=Int × Int) p2 .hd (AI (cs:=[vI (-4),vI 1,vI 0,vI 1]) (xs:=(([((-4:Int),(1:Int)),((0:Int),(1:Int))]:Lb (Int × Int)):Lb (Int × Int))) p2 L (AE (cs:=[vI (-4),vI 1]) (ds:=[vI 0,vI 1]) (bR (-4:Int) (1:Int)) (AE (cs:=[vI 0,vI 1]) (ds:=[]) (bR (0:Int) (1:Int)) (AT _ _)))) hL)) hw9) j9) I fun W9 E9 t7 ⟨y01,hu_,D4⟩=>?_
 subst hu_
 obtain ⟨V2,B2⟩:=U2.agr t7
 refine AA (fst:=[]) (cap:=[]) (.yes I I) (bd 28) I (e1 I) (fun w9 hw9=>Calls.gives (cM_c n (V2.hL hL hw9) v00 (Af D4 hw9)) fun (w8:World) (u8:Vc) ⟨b0_,hu_,s_⟩=>(⟨b0_,hu_,s_.from hw9⟩:∃ Q1:Nat,u8 = Value.func (.func 91) #[] #[vP Q1]/\St W9 w8 [.cells Q1 [E9] 24])) I fun K02 X01 c01 ⟨Q1,W7,V4⟩=>?_
 subst W7
 have W2:=ct V2 V4
 have s1:=ek V2 V4
 refine AJ (Al I)<|bk h fun j5 k9 h=>BG (v:=.agg ((ab j5)).toArray) (fst:=[]) (cap:=[]) (.yes I I) (bd 15) I (e2 I I) (fun w9 hw9=>ai_c n (W2.hL0 hL hw9)  k9) I<|bk h fun g03 p9 h=>?_
 have y4:=Tt x4 (Tt b1 (Tt z2 (Tt A2 (Tt B2 s1))))
 refine AA (fst:=[]) (cap:=[]) (.yes I I) (bd 29) I (e2 I I) (fun w9 hw9=>cJ_c n (W2.hL hL hw9) (Af (Ag g0 y4) hw9) j5 p9) I fun M02 Y01 u7 ⟨z01,hu_,E7⟩=>?_
 subst hu_
 obtain ⟨X0,u1⟩:=W2.agr u7
 refine AJ (Ai I I)<|AJ (Ai I I)<|bk h fun x00 q9 h=>BG (v:=.bool x00) (fst:=[]) (cap:=[vP Q1]) (.yes I I) (bd 91) I (e2 I I) (fun w9 hw9=>bh_c n (X0.hL0 hL hw9) (X0.kd E7 hw9) (X0.kd (Ag D4 (Tt s1 u1)) hw9) (aJ hw9 (X0.memA .hd)) q9) I<|Bk I I<|Ac I<|RG.ifb (s:=65) I h (fun Y5 h=>?_) (fun Y5 h=>?_)
 refine AJ (AS (vs:=[vI 0,vI 1]) (u:=.agg #[vI 0,vI 1]) (e2 I I) (fun w9=>by kernel_rfl))<|Ao (.yes I I) I (AW (α:=Int × Int) (xs:=([((0:Int),(1:Int))]:Lb (Int × Int))) (vs:=[.agg #[vI 0,vI 1]]) (ds' :=[vI 0,vI 1]) I X0 gR I (e1 I) (by kernel_rfl) I) fun P02 D5 q2 t3=>?_
 have X2:=Bu q2 .hd
 have u3:=Bv q2 .hd
 refine bk h fun y00 s9 h=>AA (fst:=[]) (cap:=[]) (.yes I I) (bd 13) I (e2 I I) (fun w9 hw9=>az_c n (X2.hL hL hw9) (Af (Bw (α:=Int × Int) (v:=(vS D5 1)) (xs:=([((0:Int),(1:Int))]:Lb (Int × Int))) X2 L (Bi (α:=Int × Int) q2 .hd (AI (cs:=[vI 0,vI 1]) (xs:=(([((0:Int),(1:Int))]:Lb (Int × Int)):Lb (Int × Int))) q2 L (AE (cs:=[vI 0,vI 1]) (ds:=[]) (bR (0:Int) (1:Int)) (AT _ _))) hL)) hw9) s9) I fun X9 F9 v7 ⟨A01,hu_,E4⟩=>?_
 subst hu_
 obtain ⟨Y2,v3⟩:=X2.agr v7
 refine AA (fst:=[]) (cap:=[]) (.yes I I) (bd 28) I (e1 I) (fun w9 hw9=>Calls.gives (cM_c n (Y2.hL hL hw9) y00 (Af E4 hw9)) fun (w8:World) (u8:Vc) ⟨b0_,hu_,s_⟩=>(⟨b0_,hu_,s_.from hw9⟩:∃ R1:Nat,u8 = Value.func (.func 91) #[] #[vP R1]/\St X9 w8 [.cells R1 [F9] 24])) I fun Q02 Z01 d01 ⟨R1,X7,W4⟩=>?_
 subst X7
 have Z2:=ct Y2 W4
 have C2:=ek Y2 W4
 refine AJ (Al I)<|bk h fun k5 t9 h=>BG (v:=.agg ((ab k5)).toArray) (fst:=[]) (cap:=[]) (.yes I I) (bd 15) I (e2 I I) (fun w9 hw9=>ai_c n (Z2.hL0 hL hw9)  t9) I<|bk h fun j03 u9 h=>?_
 have z4:=Tt y4 (Tt u1 (Tt t3 (Tt u3 (Tt v3 C2))))
 refine AA (fst:=[]) (cap:=[]) (.yes I I) (bd 29) I (e2 I I) (fun w9 hw9=>cJ_c n (Z2.hL hL hw9) (Af (Ag g0 z4) hw9) k5 u9) I fun R02 b02 x7 ⟨B01,hu_,F7⟩=>?_
 subst hu_
 obtain ⟨Y0,D2⟩:=Z2.agr x7
 refine AJ (Ai I I)<|AJ (Ai I I)<|bk h fun z00 v9 h=>BG (v:=.bool z00) (fst:=[]) (cap:=[vP R1]) (.yes I I) (bd 91) I (e2 I I) (fun w9 hw9=>bh_c n (Y0.hL0 hL hw9) (Y0.kd F7 hw9) (Y0.kd (Ag E4 (Tt C2 D2)) hw9) (aJ hw9 (Y0.memA .hd)) v9) I<|Bk I I<|Ac I<|RG.ifb (s:=77) I h (fun Z5 h=>?_) (fun Z5 h=>?_)
 refine AJ (AS (vs:=[vI 1,vI 1]) (u:=.agg #[vI 1,vI 1]) (e2 I I) (fun w9=>by kernel_rfl))<|AJ (AS (vs:=[vI 3,vI 1]) (u:=.agg #[vI 3,vI 1]) (e2 I I) (fun w9=>by kernel_rfl))<|Ao (.yes I I) I (AW (α:=Int × Int) (xs:=([((1:Int),(1:Int)),((3:Int),(1:Int))]:Lb (Int × Int))) (vs:=[.agg #[vI 1,vI 1],.agg #[vI 3,vI 1]]) (ds' :=[vI 1,vI 1,vI 3,vI 1]) I Y0 gR I (e2 I I) (by kernel_rfl) I) fun U02 E5 s2 p4=>?_
 have b3:=Bu s2 .hd
 have q4:=Bv s2 .hd
 refine bk h fun A00 x9 h=>AA (fst:=[]) (cap:=[]) (.yes I I) (bd 13) I (e2 I I) (fun w9 hw9=>az_c n (b3.hL hL hw9) (Af (Bw (α:=Int × Int) (v:=(vS E5 2)) (xs:=([((1:Int),(1:Int)),((3:Int),(1:Int))]:Lb (Int × Int))) b3 L (Bi (α:=Int × Int) s2 .hd (AI (cs:=[vI 1,vI 1,vI 3,vI 1]) (xs:=(([((1:Int),(1:Int)),((3:Int),(1:Int))]:Lb (Int × Int)):Lb (Int × Int))) s2 L (AE (cs:=[vI 1,vI 1]) (ds:=[vI 3,vI 1]) (bR (1:Int) (1:Int)) (AE (cs:=[vI 3,vI 1]) (ds:=[]) (bR (3:Int) (1:Int)) (AT _ _)))) hL)) hw9) x9) I fun Y9 G9 y7 ⟨C01,hu_,F4⟩=>?_
 subst hu_
 obtain ⟨c3,s4⟩:=b3.agr y7
 refine AA (fst:=[]) (cap:=[]) (.yes I I) (bd 28) I (e1 I) (fun w9 hw9=>Calls.gives (cM_c n (c3.hL hL hw9) A00 (Af F4 hw9)) fun (w8:World) (u8:Vc) ⟨b0_,hu_,s_⟩=>(⟨b0_,hu_,s_.from hw9⟩:∃ U1:Nat,u8 = Value.func (.func 91) #[] #[vP U1]/\St Y9 w8 [.cells U1 [G9] 24])) I fun V02 c02 g01 ⟨U1,Y7,X4⟩=>?_
 subst Y7
 have d3:=ct c3 X4
 have x3:=ek c3 X4
 refine AJ (Al I)<|bk h fun p5 y9 h=>BG (v:=.agg ((ab p5)).toArray) (fst:=[]) (cap:=[]) (.yes I I) (bd 15) I (e2 I I) (fun w9 hw9=>ai_c n (d3.hL0 hL hw9)  y9) I<|bk h fun k03 z9 h=>AA (fst:=[]) (cap:=[]) (.yes I I) (bd 23) I (e2 I I) (fun w9 hw9=>cU_c n (d3.hL hL hw9) (Af (Ag g0 (Tt z4 (Tt D2 (Tt p4 (Tt q4 (Tt s4 x3)))))) hw9) p5 z9) I fun W02 d02 z7 ⟨D01,hu_,G7⟩=>?_
 subst hu_
 obtain ⟨g1,u4⟩:=d3.agr z7
 refine AJ (Ai I I)<|AJ (Ai I I)<|bk h fun q5 A9 h=>BG (v:=.bool q5) (fst:=[]) (cap:=[vP U1]) (.yes I I) (bd 91) I (e2 I I) (fun w9 hw9=>bh_c n (g1.hL0 hL hw9) (g1.kd G7 hw9) (g1.kd (Ag F4 (Tt x3 u4)) hw9) (aJ hw9 (g1.memA .hd)) A9) I<|Bk I I<|Ah I<|Aa ?_
 obtain ⟨y6,R6⟩:=AB g1 .done
 exact K0 q5 y6 (Tt H0 (Tt I0 (Tt J0 (Tt B0 (Tt C0 (Tt D0 (Tt E0 (Tt Q0 (Tt R0 (Tt k1 (Tt p1 (Tt q1 (Tt Z0 (Tt b1 (Tt z2 (Tt A2 (Tt B2 (Tt s1 (Tt u1 (Tt t3 (Tt u3 (Tt v3 (Tt C2 (Tt D2 (Tt p4 (Tt q4 (Tt s4 (Tt x3 (Tt u4 R6))))))))))))))))))))))))))))) h
 refine Ap<|Ap<|Ap<|Ap<|Ap<|Ap<|Ap<|Ap<|Ap<|Ap<|Ap<|Bs I I<|Ah I<|Aa ?_
 obtain ⟨z6,U6⟩:=AB Y0 .done
 exact K0 false z6 (Tt H0 (Tt I0 (Tt J0 (Tt B0 (Tt C0 (Tt D0 (Tt E0 (Tt Q0 (Tt R0 (Tt k1 (Tt p1 (Tt q1 (Tt Z0 (Tt b1 (Tt z2 (Tt A2 (Tt B2 (Tt s1 (Tt u1 (Tt t3 (Tt u3 (Tt v3 (Tt C2 (Tt D2 U6)))))))))))))))))))))))) h
 refine Ap<|Ap<|Ap<|Ap<|Ap<|Ap<|Ap<|Ap<|Ap<|Ap<|Bs I I<|Ac I<|Ap<|Ap<|Ap<|Ap<|Ap<|Ap<|Ap<|Ap<|Ap<|Ap<|Ap<|Bs I I<|Ah I<|Aa ?_
 obtain ⟨A6,V6⟩:=AB X0 .done
 exact K0 false A6 (Tt H0 (Tt I0 (Tt J0 (Tt B0 (Tt C0 (Tt D0 (Tt E0 (Tt Q0 (Tt R0 (Tt k1 (Tt p1 (Tt q1 (Tt Z0 (Tt b1 (Tt z2 (Tt A2 (Tt B2 (Tt s1 (Tt u1 V6))))))))))))))))))) h
 refine Ap<|Ap<|Ap<|Ap<|Ap<|Ap<|Ap<|Ap<|Ap<|Ap<|Ap<|Bs I I<|Ac I<|Ap<|Ap<|Ap<|Ap<|Ap<|Ap<|Ap<|Ap<|Ap<|Ap<|Bs I I<|Ac I<|Ap<|Ap<|Ap<|Ap<|Ap<|Ap<|Ap<|Ap<|Ap<|Ap<|Ap<|Bs I I<|Ah I<|Aa ?_
 obtain ⟨B6,W6⟩:=AB W0 .done
 exact K0 false B6 (Tt H0 (Tt I0 (Tt J0 (Tt B0 (Tt C0 (Tt D0 (Tt E0 (Tt Q0 (Tt R0 (Tt k1 (Tt p1 (Tt q1 (Tt Z0 (Tt b1 W6)))))))))))))) h
 refine Ap<|Ap<|Ap<|Ap<|Ap<|Ap<|Ap<|Ap<|Ap<|Ap<|Ap<|Ap<|Bs I I<|Ac I<|Ap<|Ap<|Ap<|Ap<|Ap<|Ap<|Ap<|Ap<|Ap<|Ap<|Ap<|Bs I I<|Ac I<|Ap<|Ap<|Ap<|Ap<|Ap<|Ap<|Ap<|Ap<|Ap<|Ap<|Bs I I<|Ac I<|Ap<|Ap<|Ap<|Ap<|Ap<|Ap<|Ap<|Ap<|Ap<|Ap<|Ap<|Bs I I<|Ah I<|Aa ?_
 obtain ⟨C6,X6⟩:=AB P0 .done
 exact K0 false C6 (Tt H0 (Tt I0 (Tt J0 (Tt B0 (Tt C0 (Tt D0 (Tt E0 (Tt Q0 (Tt R0 X6))))))))) h
 refine Ap<|Ap<|Bs I I<|Ac I<|Ap<|Ap<|Ap<|Ap<|Ap<|Ap<|Ap<|Ap<|Ap<|Ap<|Ap<|Ap<|Bs I I<|Ac I<|Ap<|Ap<|Ap<|Ap<|Ap<|Ap<|Ap<|Ap<|Ap<|Ap<|Ap<|Bs I I<|Ac I<|Ap<|Ap<|Ap<|Ap<|Ap<|Ap<|Ap<|Ap<|Ap<|Ap<|Bs I I<|Ac I<|Ap<|Ap<|Ap<|Ap<|Ap<|Ap<|Ap<|Ap<|Ap<|Ap<|Ap<|Bs I I<|Ah I<|Aa ?_
 obtain ⟨D6,Y6⟩:=AB P0 .done
 exact K0 false D6 (Tt H0 (Tt I0 (Tt J0 (Tt B0 (Tt C0 (Tt D0 (Tt E0 (Tt Q0 (Tt R0 Y6))))))))) h
 refine Ap<|Ap<|Ap<|Ap<|Ap<|Bs I I<|Ac I<|Ap<|Ap<|Bs I I<|Ac I<|Ap<|Ap<|Ap<|Ap<|Ap<|Ap<|Ap<|Ap<|Ap<|Ap<|Ap<|Ap<|Bs I I<|Ac I<|Ap<|Ap<|Ap<|Ap<|Ap<|Ap<|Ap<|Ap<|Ap<|Ap<|Ap<|Bs I I<|Ac I<|Ap<|Ap<|Ap<|Ap<|Ap<|Ap<|Ap<|Ap<|Ap<|Ap<|Bs I I<|Ac I<|Ap<|Ap<|Ap<|Ap<|Ap<|Ap<|Ap<|Ap<|Ap<|Ap ?_
 refine Ap<|Bs I I<|Ah I<|Aa ?_
 obtain ⟨E6,Z6⟩:=AB G0 .done
 exact K0 false E6 (Tt H0 (Tt I0 (Tt J0 (Tt B0 (Tt C0 (Tt D0 (Tt E0 Z6))))))) h
def aV_l1 (_n:Nat) (a0:Lb Int) (a1:Lb Int) (g0:Int -> Oa (Int ⊕ Unit)):Int -> Oa (Int ⊕ Unit)
  | b0=>(if 0 <= b0 then (idx a0 b0).bind fun c0=>(idx a1 b0).bind fun d0=>(if c0 = d0 then (chk (b0 - 1)).bind fun j0=>g0 j0 else (chk (c0 - d0)).bind fun k0=>some (.inl k0)) else some (.inr ()))
def aV_p (n:Nat) (a0:Lb Int) (a1:Lb Int):Oa Int:=
  (if a0.length = a1.length then thn (ao (aV_l1 n a0 a1) n (((a0.length:Nat):Int) - 1)) (fun _=>some (0:Int)) else some (((a0.length:Nat):Int) - ((a1.length:Nat):Int)))
theorem aV_c (n:Nat) {L w} (_hL:hl L w) {a0:Lb Int} {v0_0:Vc} (h0_0:Rep.R w L [v0_0] a0) {a1:Lb Int} {v1_0:Vc} (h1_0:Rep.R w L [v1_0] a1)  {r:Int} (h:aV_p n a0 a1 = some r) :
 Cl 175 #[v0_0,v1_0] w (aj w fun _ u=>u = vI r):=by
 unfold aV_p at h
 have hS0:=AL w
 refine AM func175 I I I fun _ cs0 hb0=>Ae<|Ah I<|Aa<|Aj<|Ae<|Ac I ?_
 have hl1:=AY h0_0
 refine Ab (Ba (xs:=a0) underlying140 I h0_0)<|Ac I ?_
 have hl2:=AY h1_0
 refine Ab (Ba (xs:=a1) underlying140 I h1_0)<|Ab (FV.neqN (i:=a0.length) (j:=a1.length) I I)<|Aa<|BI I h (fun c3 h=>?_) (fun c3 h=>?_)
 refine Aq<|Aj<|Ae<|Ac I<|Ab (Ba (xs:=a0) underlying140 I h0_0)<|Ab (FV.subI (i:=((a0.length:Nat):Int)) (j:=1) I I (by omega))<|Ah I<|Aa<|Av<|tn h fun j1 K0 u0=>MX.lo (α:=Int) (fun c0=>[(0,v0_0),(1,v1_0),(5,vI c0)]) (fun c0=>[]) (fun c0=>c0) (((a0.length:Nat):Int) - 1) K0 hS0 ?_
 rintro c1 c0 p1 G0 k0 H0 h
 unfold aV_l1 at h
 try dsimp only at h
 refine Aj<|Ae<|Ac I<|Ab (FV.geq (i:=c0) (j:=0) I I)<|Aa<|AV I h (fun C0 h=>?_) (fun C0 h=>?_)
 refine Aq<|Aj<|Av<|Aj<|du 9 fun g0 j0=>Rv 0 g0 I j0 (fun _=>Al I)<|Rv 1 g0 I j0 (fun _=>Al I)<|bk h fun p0 U0 h=>?_
 obtain ⟨v0,V0⟩:=aR U0
 obtain ⟨Z0,d1,s0,y0,E0,M0,A0⟩:=Bh (AH h0_0 k0) V0
 have I0:E0 = [vI p0]:=M0; subst I0
 refine Rv 2 g0 I j0 (fun _=>Be 1 (c0.toNat) I s0 I v0 y0)<|Rx 3 256 g0 I j0 (Bp I (A0 0 _ I))<|Rv 4 g0 I j0 (fun _=>Al I)<|Rv 5 g0 I j0 (fun _=>Al I)<|bk h fun q0 W0 h=>?_
 obtain ⟨x0,X0⟩:=aR W0
 obtain ⟨b1,g1,t0,z0,F0,P0,B0⟩:=Bh (AH h1_0 k0) X0
 have J0:F0 = [vI q0]:=P0; subst J0
 refine Rv 6 g0 I j0 (fun _=>Be 1 (c0.toNat) I t0 I x0 z0)<|Rx 7 256 g0 I j0 (Bp I (B0 0 _ I))<|Rv 8 g0 I j0 (fun _=>BA (i:=p0) (j:=q0) I I)<|AK (dk g0)<|BI I h (fun D0 h=>?_) (fun D0 h=>?_)
 refine Aq<|Ax<|Am<|Ac I<|bk h fun Y0 Q0 h=>Ab (FV.subc (i:=c0) (j:=1) I I Q0)<|Ah I<|Aa<|G0 Y0 k0 H0 h
 refine Aj<|du 10 fun b0 d0=>Rv 0 b0 I d0 (fun _=>Al I)<|Rv 1 b0 I d0 (fun _=>Al I)<|Rv 2 b0 I d0 (fun _=>Be 1 (c0.toNat) I s0 I v0 y0)<|Rx 3 768 b0 I d0 (Bp I (A0 0 _ I))<|Rv 4 b0 I d0 (fun _=>Al I)<|Rv 5 b0 I d0 (fun _=>Al I)<|Rv 6 b0 I d0 (fun _=>Be 1 (c0.toNat) I t0 I x0 z0)<|Rx 7 768 b0 I d0 (Bp I (B0 0 _ I))<|bk h fun k1 R0 h=>Rv 8 b0 I d0 (fun _=>FV.subc (i:=p0) (j:=q0) I I R0)<|Rv 9 b0 I d0 (fun _=>Bj I)<|AK (dk b0) ?_
 have h:=aH h u0
 refine Ar I<|Bb hb0 func175 I I ?_
 cases h
 exact k0.gv
 refine AZ I ?_
 have h:=bc h u0
 try dsimp only at h
 refine Ae<|Ah I<|Aa<|Ar I<|Bb hb0 func175 I I ?_
 cases h
 exact k0.gv
 refine Ae<|Ac I<|Ab (Ba (xs:=a0) underlying140 I h0_0)<|Ac I<|Ab (Ba (xs:=a1) underlying140 I h1_0)<|Ab (FV.subI (i:=((a0.length:Nat):Int)) (j:=((a1.length:Nat):Int)) I I (by omega))<|Ah I<|Aa<|Ar I<|Bb hb0 func175 I I ?_
 cases h
 exact hS0.gv
def aC_l1 (_n:Nat) (a0:Lb Int) (c0:Int -> Oa Int):Int -> Oa Int
  | b0=>(if 0 < b0 then (chk (b0 - 1)).bind fun d0=>(idx a0 d0).bind fun j0=>(if j0 = 0 then (chk (b0 - 1)).bind fun g0=>c0 g0 else some b0) else some b0)
def aC_p (n:Nat) (a0:Lb Int):Oa (Lb Int):=
  jn (fun d0=>(cut a0 0 d0).bind fun c0=>some c0) (fun b0=>Option.bind (ao (aC_l1 n a0) n ((a0.length:Nat):Int)) (b0))
theorem aC_c (n:Nat) {L w} (_hL:hl L w) {a0:Lb Int} {v0_0:Vc} (h0_0:Rep.R w L [v0_0] a0)  {r:Lb Int} (h:aC_p n a0 = some r) :
 Cl 181 #[v0_0] w (aj w fun w' u=>∃ v0_0:Vc,u = v0_0/\Rep.R w' L [v0_0] r):=by
 unfold aC_p at h
 have hS0:=AL w
 refine AM func181 I I I fun _ cs0 hb0=>Ae<|Ah I<|Aa<|Ae<|Ac I ?_
 have hl1:=AY h0_0
 refine Ab (Ba (xs:=a0) underlying140 I h0_0)<|Ah I<|Aa<|Aj<|Av<|MX.xo (α:=Int) 0 (fun c0=>[(0,v0_0),(3,vI c0)]) (fun c0=>[]) (fun c0=>c0) hS0 I h ?_ ?_
 rintro c0 Y0 g0 W0 h
 try dsimp only at h
 refine Ae<|Ac I<|Ac I<|bk h fun b1 J0 h=>RG.valE .plain I (FV.cutL (α:=Int) J0 I I (AH h0_0 g0) I ⟨_,I⟩) fun P0 D0=>Ah I<|Aa<|Ar I<|Bb hb0 func181 I I ?_
 cases h
 exact ⟨g0.ag,fun w9 hw9=>⟨P0,I,g0.kd D0 hw9⟩⟩
 intro R0 k0 h
 try dsimp only at h
 obtain ⟨X0,C0,p0⟩:=ap h
 refine MX.lo (α:=Int) (fun b0=>[(0,v0_0),(3,vI b0)]) (fun b0=>[]) (fun b0=>b0) ((a0.length:Nat):Int) C0 hS0 ?_
 rintro U0 b0 Z0 v0 d0 j0 h
 unfold aC_l1 at h
 try dsimp only at h
 refine Aj<|Ae<|Ac I<|Ab (FV.gtr (i:=b0) (j:=0) I I)<|Ac I<|RG.ifd (s:=8) I h (fun s0 h=>?_) (fun s0 h=>?_)
 refine AJ (Al I)<|AJ (Al I)<|bk h fun K0 F0 h=>AJ (FV.subc (i:=b0) (j:=1) I I F0)<|bk h fun q0 H0 h=>?_
 obtain ⟨z0,I0⟩:=aR H0
 obtain ⟨Q0,V0,x0,A0,u0,E0,B0⟩:=Bh (AH h0_0 d0) I0
 have y0:u0 = [vI q0]:=E0; subst y0
 refine AJ (Be 1 (K0.toNat) I x0 I z0 A0)<|AJ (Bp I (B0 0 _ I))<|AJ (FV.eql (i:=q0) (j:=0) I I)<|Bk I I<|Aa<|AV I h (fun t0 h=>?_) (fun t0 h=>?_)
 refine Aq<|Av<|Am<|Ac I<|bk h fun M0 G0 h=>Ab (FV.subc (i:=b0) (j:=1) I I G0)<|Ah I<|Aa<|Ax<|v0 M0 d0 j0 h
 refine AZ I ?_
 have h:=p0 _ h
 try dsimp only at h
 exact k0 b0 d0 j0 h
 refine Ap<|Ap<|Ap<|Ap<|Ap<|Ap<|Bs I I<|Aa<|Bz I<|AZ I ?_
 have h:=p0 _ h
 try dsimp only at h
 exact k0 b0 d0 j0 h
theorem bp:ElT Tryz.prog 140 3 (Rep.size Int) 8 (vI 0) [vI 0]:=⟨underlying140,by kernel_rfl,rfl,rfl,rfl,rfl⟩
def av_l1 (_n:Nat) (a0:Lb Int) (a1:Lb Int) (p0:Nat × Nat × (Lb Int) -> Oa (Lb Int)):Nat × Nat × (Lb Int) -> Oa (Lb Int)
  | (q0,b0,k0)=>(if b0 < a0.length then (a0[b0]?).bind fun v0=>(chk (v0 - ((q0:Nat):Int))).bind fun j0=>jn (fun c0=>jn (fun (s0,z0)=>(app k0 ([z0]:Lb Int)).bind fun y0=>p0 (s0,b0 + 1,y0)) (fun g0=>(if c0 < 0 then (chk (c0 + 4294967296)).bind fun t0=>g0 (1,t0) else g0 (0,c0)))) (fun d0=>(if b0 < a1.length then (a1[b0]?).bind fun x0=>(chk (j0 - x0)).bind fun u0=>d0 u0 else d0 j0)) else some k0)
def av_p (n:Nat) (a0:Lb Int) (a1:Lb Int):Oa (Lb Int):=
  Option.bind (ao (av_l1 n a0 a1) n (0,0,([]:Lb Int))) (fun b0=>(aC_p n b0).bind fun c0=>some c0)
theorem av_c (n:Nat) {L w} (hL:hl L w) {a0:Lb Int} {v0_0:Vc} (h0_0:Rep.R w L [v0_0] a0) {a1:Lb Int} {v1_0:Vc} (h1_0:Rep.R w L [v1_0] a1)  {r:Lb Int} (h:av_p n a0 a1 = some r) :
 Cl 176 #[v0_0,v1_0] w (aj w fun w' u=>∃ v0_0:Vc,u = v0_0/\Rep.R w' L [v0_0] r):=by
 unfold av_p at h
 have hS0:=AL w
 refine AM func176 I I I fun _ cs0 hb0=>Ae<|Ah I<|Aa<|Ae<|Ah I<|Aa<|Ae<|Ah I<|Aa<|Aj<|Ae<|Ah I<|Aa<|Av ?_
 have B0:=hS0.nilRow 3 (Rep.size Int)
 have k2:=BW hS0 3 (Rep.size Int)
 obtain ⟨u2,C1,x1⟩:=ap h
 refine BP (α:=Nat × Nat × (Lb Int) × Vc × (Lb Vc)) (fun ⟨p0,b0,g0,c0,j0⟩=>[(0,v0_0),(1,v1_0),(5,c0),(6,vn p0),(7,vn b0)]) (fun ⟨p0,b0,g0,c0,j0⟩=>[rr w 3 Int c0 g0.length j0]) (fun ⟨p0,b0,g0,c0,j0⟩ H0=>Cells H0 (bl [rr w 3 Int c0 g0.length j0] ++ L) j0 g0) (fun ⟨p0,b0,g0,c0,j0⟩=>(p0,b0,g0)) (0,0,([]:Lb Int),vN,[]) C1 B0 (AI (cs:=[]) (xs:=([]:Lb Int)) B0 L (AT _ _)) ?_
 rintro Z1 ⟨p0,b0,g0,c0,j0⟩ H0 V0 k0 Z0 E0 h
 unfold av_l1 at h
 try dsimp only at h
 refine Aj<|Ae<|Ac I<|Ac I ?_
 have x0:=AH h0_0 k0
 have s2:=AY x0
 refine Ab (Ba (xs:=a0) underlying140 I x0)<|Ab (AU (i:=b0) (j:=a0.length) I I)<|Aa<|AV I h (fun K0 h=>?_) (fun K0 h=>?_)
 refine Aq<|Aj<|Av<|Ae<|Ac I<|Ac I<|bk h fun I0 J1 h=>?_
 obtain ⟨X1,g2,q1,y1,Q0,D1,A1⟩:=Bh x0 J1
 have s1:Q0 = [vI I0]:=D1; subst s1
 refine Ab (Be 1 b0 I q1 I I y1)<|Bf I (A1 0 _ I)<|Ac I<|bk h fun G0 G1 h=>Ab (FV.subc (i:=I0) (j:=((p0:Nat):Int)) I I G1)<|Ah I<|Aa<|Aj<|Ae<|Ac I<|Ac I ?_
 have y0:=AH h1_0 k0
 have t2:=AY y0
 refine Ab (Ba (xs:=a1) underlying140 I y0)<|Ab (AU (i:=b0) (j:=a1.length) I I)<|Aa<|MX.jo (α:=Int) (fun q0=>[(0,v0_0),(1,v1_0),(5,c0),(6,vn p0),(7,vn b0),(8,vI q0)]) (fun q0=>[rr w 3 Int c0 g0.length j0]) (fun q0=>q0) k0 h ?_ ?_
 rintro q0 A2 t0 b1 h
 try dsimp only at h
 refine Ae<|Ah I<|Aa<|Aj<|Ae<|Ac I<|Ab (FV.lss (i:=q0) (j:=0) I I)<|Aa<|MX.jo (α:=Nat × Int) (fun ⟨s0,d0⟩=>[(0,v0_0),(1,v1_0),(5,c0),(6,vn s0),(7,vn b0),(8,vI d0)]) (fun ⟨s0,d0⟩=>[rr w 3 Int c0 g0.length j0]) (fun ⟨s0,d0⟩=>(s0,d0)) t0 h ?_ ?_
 rintro ⟨s0,d0⟩ B2 W0 c1 h
 try dsimp only at h
 refine Am<|Ac I<|Ac I<|Ao .plain I (jA d0 (vI d0) W0 bp (e1 I)) fun x2 d2 u0 g1=>bk h fun W1 M1 h=>?_
 have F0:=Tt b1 (Tt c1 g1)
 refine BD .plain I (Bn (α:=Int) (ys:=([d0]:Lb Int)) M1 u0 (fun _ _=>.t1) bp I I (AR E0 F0) (BH (α:=Int) u0 .hd (jC d0 (vI d0) u0 L I))) fun U1 y2 ⟨R0,X0,j1,p1⟩=>Ah I<|Aa<|Ax<|Am<|Ac I<|Ab (Bc (i:=b0) (j:=1) I I (by omega))<|Ah I<|Aa ?_
 obtain ⟨Y0,D0⟩:=AB X0 .d1
 exact V0 (s0,b0 + 1,W1,U1,R0) Y0 (Tt Z0 (Tt F0 (Tt j1 D0))) (AR p1 D0) h
 intro c2 A0 h
 try dsimp only at h
 refine AV I h (fun M0 h=>?_) (fun M0 h=>?_)
 refine Ae<|Ac I<|bk h fun Q1 H1 h=>Ab (FV.addc (i:=q0) (j:=4294967296) I I H1)<|Ah I<|Aa<|Am<|Ah I<|Aa<|A0 (1,Q1) t0 (BM _ _) h
 refine Aq<|A0 (0,q0) t0 (BM _ _) h
 intro b2 z0 h
 try dsimp only at h
 refine AV I h (fun P0 h=>?_) (fun P0 h=>?_)
 refine Am<|Ac I<|Ac I<|Ac I<|bk h fun J0 K1 h=>?_
 obtain ⟨Y1,j2,u1,z1,U0,E1,B1⟩:=Bh y0 K1
 have v1:U0 = [vI J0]:=E1; subst v1
 refine Ab (Be 1 b0 I u1 I I z1)<|Bf I (B1 0 _ I)<|bk h fun R1 I1 h=>Ab (FV.subc (i:=G0) (j:=J0) I I I1)<|Ah I<|Aa<|z0 R1 k0 (BM _ _) h
 refine Aq<|z0 G0 k0 (BM _ _) h
 refine AZ I ?_
 have h:=x1 _ h
 try dsimp only at h
 refine Ae<|Ac I ?_
 have v0:=Bu k0 .hd
 have p2:=Bv k0 .hd
 refine bk h fun C2 P1 h=>jE (bd 181) I (e1 I) (fun w9 hw9=>aC_c n (v0.hL hL hw9) (Af (Bw (α:=Int) (v:=c0) (xs:=g0) v0 L (Bi (α:=Int) k0 .hd E0 hL)) hw9) P1) I fun z2 V1 k1 ⟨v2,hu_,F1⟩=>?_
 subst hu_
 obtain ⟨C0,q2⟩:=v0.agr k1
 refine Ah I<|Aa<|Ar I<|Bb hb0 func176 I I ?_
 cases h
 exact ⟨C0.ag,fun w9 hw9=>⟨V1,I,C0.kd F1 hw9⟩⟩
structure Te where
  fc:Bool
  fD:Lb Int
  deriving DecidableEq
instance:Rep Te:=Rep.via (β:=Bool × (List Int)) fun x=>(x.fc,x.fD)
def aD_l1 (_n:Nat) (x0:Lb Int) (y0:Nat × U8 -> Oa (U8)):Nat × U8 -> Oa (U8)
  | (b0,j0,k0,p0,q0,s0,t0,u0,v0)=>(if b0 < x0.length then (([j0,k0,p0,q0,s0,t0,u0,v0]:Lb Ua)[b0 / 2]?).bind fun g0=>(x0[b0]?).bind fun d0=>(chk (32 * ((b0 % 2:Nat):Int))).bind fun z0=>(bT z0).bind fun c0=>y0 (b0 + 1,ay (b0 / 2) 0 (g0 + (shlU (ae d0) c0)) j0,ay (b0 / 2) 1 (g0 + (shlU (ae d0) c0)) k0,ay (b0 / 2) 2 (g0 + (shlU (ae d0) c0)) p0,ay (b0 / 2) 3 (g0 + (shlU (ae d0) c0)) q0,ay (b0 / 2) 4 (g0 + (shlU (ae d0) c0)) s0,ay (b0 / 2) 5 (g0 + (shlU (ae d0) c0)) t0,ay (b0 / 2) 6 (g0 + (shlU (ae d0) c0)) u0,ay (b0 / 2) 7 (g0 + (shlU (ae d0) c0)) v0) else some (j0,k0,p0,q0,s0,t0,u0,v0))
def aD_l2 (_n:Nat) (x0:Lb Int) (y0:Nat × U8 -> Oa (U8)):Nat × U8 -> Oa (U8)
  | (b0,j0,k0,p0,q0,s0,t0,u0,v0)=>(if b0 < x0.length then (([j0,k0,p0,q0,s0,t0,u0,v0]:Lb Ua)[b0 / 2]?).bind fun g0=>(x0[b0]?).bind fun d0=>(chk (32 * ((b0 % 2:Nat):Int))).bind fun z0=>(bT z0).bind fun c0=>y0 (b0 + 1,ay (b0 / 2) 0 (g0 + (shlU (ae d0) c0)) j0,ay (b0 / 2) 1 (g0 + (shlU (ae d0) c0)) k0,ay (b0 / 2) 2 (g0 + (shlU (ae d0) c0)) p0,ay (b0 / 2) 3 (g0 + (shlU (ae d0) c0)) q0,ay (b0 / 2) 4 (g0 + (shlU (ae d0) c0)) s0,ay (b0 / 2) 5 (g0 + (shlU (ae d0) c0)) t0,ay (b0 / 2) 6 (g0 + (shlU (ae d0) c0)) u0,ay (b0 / 2) 7 (g0 + (shlU (ae d0) c0)) v0) else some (j0,k0,p0,q0,s0,t0,u0,v0))
def aD_p (n:Nat) (a0:Te):Oa ((U8) × Int):=
  (mk 16 (0:Int)).bind fun c0=>(c0[15]?).bind fun _x28=>(put c0 ((15:Nat):Int) (2147483648:Int)).bind fun I0=>(aV_p n a0.fD I0).bind fun j0=>(if 0 < j0 then some ((0,0,0,0,0,0,0,0),(6:Int)) else (if j0 = 0 then (if a0.fc = true then (mk 17 (0:Int)).bind fun g0=>(g0[16]?).bind fun _x61=>(put g0 ((16:Nat):Int) (1:Int)).bind fun J0=>(av_p n J0 a0.fD).bind fun M0=>Option.bind (ao (aD_l1 n M0) n (0,0,0,0,0,0,0,0,0)) (fun (k0,p0,q0,s0,t0,u0,v0,x0)=>some ((k0,p0,q0,s0,t0,u0,v0,x0),(0:Int))) else some ((0,0,0,0,0,0,0,0),(6:Int))) else jn (fun G0=>Option.bind (ao (aD_l2 n G0) n (0,0,0,0,0,0,0,0,0)) (fun (y0,z0,A0,B0,C0,D0,E0,F0)=>some ((y0,z0,A0,B0,C0,D0,E0,F0),(0:Int)))) (fun b0=>(if a0.fc = true then (mk 17 (0:Int)).bind fun d0=>(d0[16]?).bind fun _x369=>(put d0 ((16:Nat):Int) (1:Int)).bind fun H0=>(av_p n H0 a0.fD).bind fun K0=>b0 K0 else b0 a0.fD))))
theorem aD_c (n:Nat) {L w} (hL:hl L w) (a0:Te) {v0_1:Vc} (h0_1:Rep.R w L [v0_1] a0.fD)  {r:(U8) × Int} (h:aD_p n a0 = some r) :
 Cl 147 #[.agg #[.bool a0.fc,v0_1]] w (aj w fun _ u=>u = .tuple #[.agg ((ak r.1)).toArray,vI r.2]):=by
 unfold aD_p at h
 refine AM func147 I I I fun _ cs0 hb0=>Ae<|RG.bx (AL w) I I fun c6 X4 G2 x5=>RG.nl zP G2 fun d6 V0 I2 y5=>Ah I<|Aa<|Ae<|bk h fun G6 q4 h=>RG.doesH .plain I (Does.mkH (α:=Int) (L:=L) q4 I2 bp I (fun _ _=>rfl)) fun Y5 p6 ⟨p5,k1,B5,Q1⟩=>Ah I<|Aa<|Ae<|Ac I<|bk h fun H4 g4 h=>?_
 obtain ⟨d2,Z4,v1,Y1,A2,U3,Q5⟩:=BS (α:=Int) k1 .hd Q1 g4
 obtain ⟨k2,c5,W1⟩:=BC (α:=Int) k1 .hd Y1
 obtain rfl:d2 = ⟨k2,0,none⟩:=by rw [W1] at v1; cases v1; rfl
 have B3:A2 = [vI H4]:=U3; subst B3
 refine Ab (Be 1 15 I v1 I I Y1)<|bk h fun I6 u4 h=>RG.acts' .plain (Acts.set (α:=Int) (i:=15) u4 k1 W1 (fun _=>.hd) Q1 I I I I I I) fun y6 ⟨t5,y0,E5,t3⟩=>Aa<|Ae<|Bm 1 I<|Bf I ((y0.memA .t2) 1 _ I)<|Ac I<|bk h fun B1 z4 h=>Bd (vI B1) (bd 175) I (e2 I I) (fun w9 hw9=>aV_c n (y0.hL0 hL hw9) (y0.k0 h0_1 hw9) (Af (St.lend (α:=Int) (L:=L) y0 .hd t3 hL) hw9) z4) I<|Ah I<|Aa<|Aj<|Ae<|Ac I<|Ab (FV.gtr (i:=B1) (j:=0) I I)<|Ac I<|RG.ifd (s:=19) I h (fun x2 h=>?_) (fun x2 h=>?_)
 refine Ap<|Ap<|Ap<|RG.un<|RG.un<|RG.un<|Ap<|Bk I I<|Aa<|AG I<|Ae<|Ab (AS (vs:=[]) (u:=.agg zQ) am (fun w9=>by kernel_rfl))<|AQ zP y0 .t1 (ai I) fun z6 J1 F5=>Ah I<|Aa<|Ar I<|Au hb0 func147 I (.cons (.many (cs:=zP) I I (J1.memA .t1)) (.cons (.tmp I) .nil)) I ?_
 cases h
 exact J1.gv
 refine AJ (Al I)<|AJ (FV.eql (i:=B1) (j:=0) I I)<|AJ (Al I)<|RG.ifd (s:=22) I h (fun y2 h=>?_) (fun y2 h=>?_)
 refine RG.fg 0 I<|AJ (Bp I ((y0.memA .t2) 0 _ I))<|AJ (Bx I)<|AJ (BT I I)<|Bs I I<|Aa<|MX.ifnb I h (fun D1 h=>?_) (fun D1 h=>?_)
 refine Aq<|Ae<|Bm 1 I<|Bf I ((y0.memA .t2) 1 _ I)<|Ah I<|Aa<|Aj<|Ae<|Bm 0 I<|Bf I ((y0.memA .t2) 0 _ I)<|Aa<|MX.cond_kt I D1<|Ae<|bk h fun J6 v4 h=>RG.doesH .plain I (Does.mkH (α:=Int) (L:=L) v4 y0 bp I (fun _ _=>rfl)) fun E4 A6 ⟨u5,s1,G5,U1⟩=>Ah I<|Aa<|Ae<|Ac I<|bk h fun J4 p4 h=>?_
 obtain ⟨j2,j5,y1,b2,D2,Y3,V5⟩:=BS (α:=Int) s1 .hd U1 p4
 obtain ⟨q2,k5,X1⟩:=BC (α:=Int) s1 .hd b2
 obtain rfl:j2 = ⟨q2,0,none⟩:=by rw [X1] at y1; cases y1; rfl
 have C3:D2 = [vI J4]:=Y3; subst C3
 refine Ab (Be 1 16 I y1 I I b2)<|bk h fun M4 x4 h=>RG.acts' .plain (Acts.set (α:=Int) (i:=16) x4 s1 X1 (fun _=>.hd) U1 I I I I I I) fun B6 ⟨v5,u1,H5,u3⟩=>Aa<|Am<|Ac I<|Ac I ?_
 have j1:=Bu u1 .hd
 have I5:=Bv u1 .hd
 refine bk h fun C1 A4 h=>jE (bd 176) I (e2 I I) (fun w9 hw9=>av_c n (j1.hL hL hw9) (Af (Bw (α:=Int) (v:=E4) (xs:=M4) j1 L (Bi (α:=Int) u1 .hd u3 hL)) hw9) (j1.km h0_1 hw9) A4) I fun C6 G4 q3 ⟨b6,hu_,Z3⟩=>?_
 subst hu_
 obtain ⟨U2,J5⟩:=j1.agr q3
 refine Ah I<|Aa<|Ae<|RG.nl zP U2 fun D6 d1 V2 k3=>Aa<|Aj<|Ae<|Ah I<|Aa<|Av ?_
 obtain ⟨H2,W2⟩:=AB V2 (.a0 (.a1 .done))
 obtain ⟨W5,M3,D3⟩:=ap h
 refine MX.lo (α:=Nat × U8) (fun ⟨b0,z0,A0,B0,C0,D0,E0,F0,G0⟩=>[(2,vP V0),(6,G4),(8,vP d1),(9,vn b0)]) (fun ⟨b0,z0,A0,B0,C0,D0,E0,F0,G0⟩=>[.cells d1 [vU z0,vU A0,vU B0,vU C0,vU D0,vU E0,vU F0,vU G0] 32,.cells V0 zP 32]) (fun ⟨b0,z0,A0,B0,C0,D0,E0,F0,G0⟩=>(b0,z0,A0,B0,C0,D0,E0,F0,G0)) (0,0,0,0,0,0,0,0,0) M3 H2 ?_
 rintro U4 ⟨b0,z0,A0,B0,C0,D0,E0,F0,G0⟩ E6 E2 X0 K1 h
 unfold aD_l1 at h
 try dsimp only at h
 refine Aj<|Ae<|Ac I<|Ac I ?_
 have z1:=Ag Z3 (Tt k3 (Tt W2 K1))
 have K5:=AY z1
 refine Ab (Ba (xs:=C1) underlying140 I z1)<|Ab (AU (i:=b0) (j:=C1.length) I I)<|Aa<|AV I h (fun s2 h=>?_) (fun s2 h=>?_)
 refine Aq<|Aj<|Av<|du 17 fun j0 v0=>Rv 0 j0 I v0 (fun _=>Al I)<|Rv 1 j0 I v0 (fun _=>FV.quoN (i:=b0) (j:=2) I I I (by omega))<|Rv 2 j0 I v0 (fun _=>Al I)<|Rv 3 j0 I v0 (fun _=>FV.quoN (i:=b0) (j:=2) I I I (by omega))<|bk h fun t0 Z0 h=>Rv 4 j0 I v0 (fun _=>AP (m:=1) (k:=b0 / 2) (len:=8) I I I I (ce Z0 I))<|Rx 5 229376 j0 I v0 (Bp I ((bf (p:=⟨d1,0,none⟩) (cs:=([z0,A0,B0,C0,D0,E0,F0,G0]:Lb Ua).map (fun z9:Ua=>(vU z9:Vc)) ++ []) (i:=b0 / 2) (X0.memA .hd) (bY (fun z9:Ua=>(vU z9:Vc)) Z0)) 0 _ I))<|Rv 6 j0 I v0 (fun _=>Al I)<|Rv 7 j0 I v0 (fun _=>Al I)<|bk h fun d0 d4 h=>?_
 obtain ⟨Q4,Y4,v3,F3,z2,Q3,J3⟩:=Bh z1 d4
 have x3:z2 = [vI d0]:=Q3; subst x3
 refine Rv 8 j0 I v0 (fun _=>Be 1 b0 I v3 I I F3)<|Rx 9 246784 j0 I v0 (Bp I (J3 0 _ I))<|Rv 10 j0 I v0 (fun _=>FV.convU (i:=d0) underlying3 underlying30 I)<|Rv 11 j0 I v0 (fun _=>Al I)<|Rv 12 j0 I v0 (fun _=>FV.remN (i:=b0) (j:=2) I I I)<|bk h fun B4 b4 h=>Rv 13 j0 I v0 (fun _=>FV.mulc (i:=32) (j:=((b0 % 2:Nat):Int)) I I b4)<|bk h fun q0 G3 h=>Rv 14 j0 I v0 (fun _=>FV.shlI (a:=ae d0) (i:=B4) I I G3)<|Rv 15 j0 I v0 (fun _=>FV.addU (a:=t0) (b:=shlU (ae d0) q0) I I) ?_
 have P5:=bf (p:=⟨d1,0,none⟩) (cs:=([z0,A0,B0,C0,D0,E0,F0,G0]:Lb Ua).map (fun z9:Ua=>(vU z9:Vc)) ++ []) (i:=b0 / 2) (X0.memA .hd) (bY (fun z9:Ua=>(vU z9:Vc)) Z0)
 refine Rv 16 j0 I v0 (fun _=>AP (m:=1) (k:=b0 / 2) (len:=8) I I I I (ce Z0 I))<|BB 17 262143 j0 I I .plain (Acts.storeArr (fun z9:Ua=>(vU z9:Vc)) (xs:=([z0,A0,B0,C0,D0,E0,F0,G0]:Lb Ua)) (pre:=[]) (post:=[]) (i:=b0 / 2) (m:=8) (x:=t0 + (shlU (ae d0) q0)) (old:=[vU z0,vU A0,vU B0,vU C0,vU D0,vU E0,vU F0,vU G0]) (new' :=[vW ((ay (b0 / 2) 0 (t0 + (shlU (ae d0) q0)) z0).toNat:Int),vW ((ay (b0 / 2) 1 (t0 + (shlU (ae d0) q0)) A0).toNat:Int),vW ((ay (b0 / 2) 2 (t0 + (shlU (ae d0) q0)) B0).toNat:Int),vW ((ay (b0 / 2) 3 (t0 + (shlU (ae d0) q0)) C0).toNat:Int),vW ((ay (b0 / 2) 4 (t0 + (shlU (ae d0) q0)) D0).toNat:Int),vW ((ay (b0 / 2) 5 (t0 + (shlU (ae d0) q0)) E0).toNat:Int),vW ((ay (b0 / 2) 6 (t0 + (shlU (ae d0) q0)) F0).toNat:Int),vW ((ay (b0 / 2) 7 (t0 + (shlU (ae d0) q0)) G0).toNat:Int)]) I I (ce Z0 I) X0 .hd I (kO _ _ _) I I (fun _=>⟨I,I⟩) I I) fun g6 J2 X2=>AK (dk j0)<|Ax<|Am<|Ac I<|Ab (Bc (i:=b0) (j:=1) I I (by omega))<|Ah I<|Aa<|E2 (b0 + 1,ay (b0 / 2) 0 (t0 + (shlU (ae d0) q0)) z0,ay (b0 / 2) 1 (t0 + (shlU (ae d0) q0)) A0,ay (b0 / 2) 2 (t0 + (shlU (ae d0) q0)) B0,ay (b0 / 2) 3 (t0 + (shlU (ae d0) q0)) C0,ay (b0 / 2) 4 (t0 + (shlU (ae d0) q0)) D0,ay (b0 / 2) 5 (t0 + (shlU (ae d0) q0)) E0,ay (b0 / 2) 6 (t0 + (shlU (ae d0) q0)) F0,ay (b0 / 2) 7 (t0 + (shlU (ae d0) q0)) G0) J2 (Tt K1 X2) h
 refine AZ I ?_
 have h:=D3 _ h
 try dsimp only at h
 refine Ae<|Ab (Az I (X0.memA .hd))<|AQ [vU z0,vU A0,vU B0,vU C0,vU D0,vU E0,vU F0,vU G0] X0 .t1 (ai I) fun j6 F1 z5=>Ah I<|Aa<|Ar I<|Au hb0 func147 I (.cons (.many (cs:=[vU z0,vU A0,vU B0,vU C0,vU D0,vU E0,vU F0,vU G0]) I I (F1.memA .t1)) (.cons (.tmp I) .nil)) I ?_
 cases h
 exact F1.gv
 refine Ae<|Ab (AS (vs:=[]) (u:=.agg zQ) am (fun w9=>by kernel_rfl))<|AQ zP y0 .t1 (ai I) fun k6 G1 A5=>Ah I<|Aa<|Ar I<|Au hb0 func147 I (.cons (.many (cs:=zP) I I (G1.memA .t1)) (.cons (.tmp I) .nil)) I ?_
 cases h
 exact G1.gv
 refine Ap<|Ap<|Ap<|AJ (Br I I)<|Bs I I<|Aa<|Bz I<|Aq<|Ae<|Bm 1 I<|Bf I ((y0.memA .t2) 1 _ I)<|Ah I<|Aa<|Aj<|Ae<|Bm 0 I<|Bf I ((y0.memA .t2) 0 _ I)<|Aa<|MX.jf (α:=(Lb Int) × Vc) (fun ⟨U0,W0⟩=>[(2,vP V0),(6,W0)]) (fun ⟨U0,W0⟩=>[.cells V0 zP 32]) (fun ⟨U0,W0⟩ c2=>Rep.R c2 (bl [.cells V0 zP 32] ++ L) [W0] U0) (fun ⟨U0,W0⟩=>U0) y0 h ?_ ?_
 rintro ⟨U0,W0⟩ c2 K2 C5 R3 h
 try dsimp only at h
 refine Ae<|RG.nl zP K2 fun q6 c1 M2 Y2=>Aa<|Aj<|Ae<|Ah I<|Aa<|Av ?_
 obtain ⟨X5,P3,E3⟩:=ap h
 refine MX.lo (α:=Nat × U8) (fun ⟨c0,H0,I0,J0,K0,M0,P0,Q0,R0⟩=>[(2,vP V0),(6,W0),(8,vP c1),(9,vn c0)]) (fun ⟨c0,H0,I0,J0,K0,M0,P0,Q0,R0⟩=>[.cells c1 [vU H0,vU I0,vU J0,vU K0,vU M0,vU P0,vU Q0,vU R0] 32,.cells V0 zP 32]) (fun ⟨c0,H0,I0,J0,K0,M0,P0,Q0,R0⟩=>(c0,H0,I0,J0,K0,M0,P0,Q0,R0)) (0,0,0,0,0,0,0,0,0) P3 M2 ?_
 rintro W4 ⟨c0,H0,I0,J0,K0,M0,P0,Q0,R0⟩ F6 F2 Y0 M1 h
 unfold aD_l2 at h
 try dsimp only at h
 refine Aj<|Ae<|Ac I<|Ac I ?_
 have A1:=Ag R3 (Tt Y2 M1)
 have M5:=AY A1
 refine Ab (Ba (xs:=U0) underlying140 I A1)<|Ab (AU (i:=c0) (j:=U0.length) I I)<|Aa<|AV I h (fun u2 h=>?_) (fun u2 h=>?_)
 refine Aq<|Aj<|Av<|du 17 fun p0 x0=>Rv 0 p0 I x0 (fun _=>Al I)<|Rv 1 p0 I x0 (fun _=>FV.quoN (i:=c0) (j:=2) I I I (by omega))<|Rv 2 p0 I x0 (fun _=>Al I)<|Rv 3 p0 I x0 (fun _=>FV.quoN (i:=c0) (j:=2) I I I (by omega))<|bk h fun u0 b1 h=>Rv 4 p0 I x0 (fun _=>AP (m:=1) (k:=c0 / 2) (len:=8) I I I I (ce b1 I))<|Rx 5 229376 p0 I x0 (Bp I ((bf (p:=⟨c1,0,none⟩) (cs:=([H0,I0,J0,K0,M0,P0,Q0,R0]:Lb Ua).map (fun z9:Ua=>(vU z9:Vc)) ++ []) (i:=c0 / 2) (Y0.memA .hd) (bY (fun z9:Ua=>(vU z9:Vc)) b1)) 0 _ I))<|Rv 6 p0 I x0 (fun _=>Al I)<|Rv 7 p0 I x0 (fun _=>Al I)<|bk h fun g0 j4 h=>?_
 obtain ⟨R4,b5,y3,H3,B2,V3,K3⟩:=Bh A1 j4
 have z3:B2 = [vI g0]:=V3; subst z3
 refine Rv 8 p0 I x0 (fun _=>Be 1 c0 I y3 I I H3)<|Rx 9 246784 p0 I x0 (Bp I (K3 0 _ I))<|Rv 10 p0 I x0 (fun _=>FV.convU (i:=g0) underlying3 underlying30 I)<|Rv 11 p0 I x0 (fun _=>Al I)<|Rv 12 p0 I x0 (fun _=>FV.remN (i:=c0) (j:=2) I I I)<|bk h fun C4 c4 h=>Rv 13 p0 I x0 (fun _=>FV.mulc (i:=32) (j:=((c0 % 2:Nat):Int)) I I c4)<|bk h fun s0 I3 h=>Rv 14 p0 I x0 (fun _=>FV.shlI (a:=ae g0) (i:=C4) I I I3)<|Rv 15 p0 I x0 (fun _=>FV.addU (a:=u0) (b:=shlU (ae g0) s0) I I) ?_
 have R5:=bf (p:=⟨c1,0,none⟩) (cs:=([H0,I0,J0,K0,M0,P0,Q0,R0]:Lb Ua).map (fun z9:Ua=>(vU z9:Vc)) ++ []) (i:=c0 / 2) (Y0.memA .hd) (bY (fun z9:Ua=>(vU z9:Vc)) b1)
 refine Rv 16 p0 I x0 (fun _=>AP (m:=1) (k:=c0 / 2) (len:=8) I I I I (ce b1 I))<|BB 17 262143 p0 I I .plain (Acts.storeArr (fun z9:Ua=>(vU z9:Vc)) (xs:=([H0,I0,J0,K0,M0,P0,Q0,R0]:Lb Ua)) (pre:=[]) (post:=[]) (i:=c0 / 2) (m:=8) (x:=u0 + (shlU (ae g0) s0)) (old:=[vU H0,vU I0,vU J0,vU K0,vU M0,vU P0,vU Q0,vU R0]) (new' :=[vW ((ay (c0 / 2) 0 (u0 + (shlU (ae g0) s0)) H0).toNat:Int),vW ((ay (c0 / 2) 1 (u0 + (shlU (ae g0) s0)) I0).toNat:Int),vW ((ay (c0 / 2) 2 (u0 + (shlU (ae g0) s0)) J0).toNat:Int),vW ((ay (c0 / 2) 3 (u0 + (shlU (ae g0) s0)) K0).toNat:Int),vW ((ay (c0 / 2) 4 (u0 + (shlU (ae g0) s0)) M0).toNat:Int),vW ((ay (c0 / 2) 5 (u0 + (shlU (ae g0) s0)) P0).toNat:Int),vW ((ay (c0 / 2) 6 (u0 + (shlU (ae g0) s0)) Q0).toNat:Int),vW ((ay (c0 / 2) 7 (u0 + (shlU (ae g0) s0)) R0).toNat:Int)]) I I (ce b1 I) Y0 .hd I (kO _ _ _) I I (fun _=>⟨I,I⟩) I I) fun s6 P2 Z2=>AK (dk p0)<|Ax<|Am<|Ac I<|Ab (Bc (i:=c0) (j:=1) I I (by omega))<|Ah I<|Aa<|F2 (c0 + 1,ay (c0 / 2) 0 (u0 + (shlU (ae g0) s0)) H0,ay (c0 / 2) 1 (u0 + (shlU (ae g0) s0)) I0,ay (c0 / 2) 2 (u0 + (shlU (ae g0) s0)) J0,ay (c0 / 2) 3 (u0 + (shlU (ae g0) s0)) K0,ay (c0 / 2) 4 (u0 + (shlU (ae g0) s0)) M0,ay (c0 / 2) 5 (u0 + (shlU (ae g0) s0)) P0,ay (c0 / 2) 6 (u0 + (shlU (ae g0) s0)) Q0,ay (c0 / 2) 7 (u0 + (shlU (ae g0) s0)) R0) P2 (Tt M1 Z2) h
 refine AZ I ?_
 have h:=E3 _ h
 try dsimp only at h
 refine Ae<|Ab (Az I (Y0.memA .hd))<|AQ [vU H0,vU I0,vU J0,vU K0,vU M0,vU P0,vU Q0,vU R0] Y0 .t1 (ai I) fun t6 H1 D5=>Ah I<|Aa<|Ar I<|Au hb0 func147 I (.cons (.many (cs:=[vU H0,vU I0,vU J0,vU K0,vU M0,vU P0,vU Q0,vU R0]) I I (H1.memA .t1)) (.cons (.tmp I) .nil)) I ?_
 cases h
 exact H1.gv
 intro V4 E1 h
 try dsimp only at h
 refine MX.ifb I h (fun v2 h=>?_) (fun v2 h=>?_)
 refine Ae<|bk h fun H6 s4 h=>RG.doesH .plain I (Does.mkH (α:=Int) (L:=L) s4 y0 bp I (fun _ _=>rfl)) fun D4 u6 ⟨q5,p1,b3,R1⟩=>Ah I<|Aa<|Ae<|Ac I<|bk h fun I4 k4 h=>?_
 obtain ⟨g2,d5,x1,Z1,C2,W3,U5⟩:=BS (α:=Int) p1 .hd R1 k4
 obtain ⟨p2,g5,V1⟩:=BC (α:=Int) p1 .hd Z1
 obtain rfl:g2 = ⟨p2,0,none⟩:=by rw [V1] at x1; cases x1; rfl
 have A3:C2 = [vI I4]:=W3; subst A3
 refine Ab (Be 1 16 I x1 I I Z1)<|bk h fun K4 t4 h=>RG.acts' .plain (Acts.set (α:=Int) (i:=16) t4 p1 V1 (fun _=>.hd) R1 I I I I I I) fun v6 ⟨s5,q1,c3,s3⟩=>Aa<|Am<|Ac I<|Ac I ?_
 have g1:=Bu q1 .hd
 have d3:=Bv q1 .hd
 refine bk h fun P4 y4 h=>jE (bd 176) I (e2 I I) (fun w9 hw9=>av_c n (g1.hL hL hw9) (Af (Bw (α:=Int) (v:=D4) (xs:=K4) g1 L (Bi (α:=Int) q1 .hd s3 hL)) hw9) (g1.km h0_1 hw9) y4) I fun x6 F4 p3 ⟨Z5,hu_,X3⟩=>?_
 subst hu_
 obtain ⟨Q2,g3⟩:=g1.agr p3
 refine Ah I<|Aa ?_
 obtain ⟨R2,P1⟩:=AB Q2 (.a1 .done)
 exact E1 (P4,F4) R2 (Tt b3 (Tt c3 (Tt d3 (Tt g3 P1)))) (Ag X3 P1) h
 refine Aq ?_
 obtain ⟨I1,j3⟩:=AB y0 (.a1 .done)
 exact E1 (a0.fD,v0_1) I1 j3 (AH h0_1 I1) h
structure Tf where
  fN:Te
  fD:Te
  deriving DecidableEq
instance:Rep Tf:=Rep.via (β:=Te × Te) fun x=>(x.fN,x.fD)
def ay_p (n:Nat) (a0:Tf):Oa (Tb × Int):=
  (aD_p n a0.fN).bind fun b0=>(aD_p n a0.fD).bind fun c0=>(if b0.2 = 0 then (if c0.2 = 0 then some ((⟨b0.1,c0.1⟩:Tb),(0:Int)) else some ((⟨(0,0,0,0,0,0,0,0),(0,0,0,0,0,0,0,0)⟩:Tb),(6:Int))) else some ((⟨(0,0,0,0,0,0,0,0),(0,0,0,0,0,0,0,0)⟩:Tb),(6:Int)))
theorem ay_c (n:Nat) {L w} (hL:hl L w) (a0:Tf) {v0_1:Vc} (h0_1:Rep.R w L [v0_1] a0.fN.fD) {v0_3:Vc} (h0_3:Rep.R w L [v0_3] a0.fD.fD)  {r:Tb × Int} (h:ay_p n a0 = some r) :
 Cl 96 #[.agg #[.bool a0.fN.fc,v0_1,.bool a0.fD.fc,v0_3]] w (aj w fun _ u=>u = .tuple #[.agg ((ab r.1)).toArray,vI r.2]):=by
 unfold ay_p at h
 refine AM func96 I I I fun _ cs0 hb0=>Ae<|RG.bx (AL w) I I fun R0 B0 v0 F0=>RG.nl zL v0 fun U0 C0 g0 G0=>Ah I<|Aa<|Ae<|Bm 0 I<|Ab (AN (cs:=[.bool a0.fN.fc,v0_1]) I I (ac (g0.memA .t1) 0 2))<|bk h fun b0 z0 h=>Bd (.tuple #[.agg ((ak b0.1)).toArray,vI b0.2]) (bd 147) I (e1 I) (fun w9 hw9=>aD_c n (g0.hL0 hL hw9) a0.fN (g0.k0 h0_1 hw9) z0) I<|Ac I<|Ab (Ai I I)<|Ab (Ai I I)<|RG.nl zP g0 fun V0 D0 x0 H0=>AQ (ak b0.1) x0 .hd (ai I) fun W0 j0 I0=>Ah I<|Aa<|Ae<|Bm 2 I<|Ab (AN (cs:=[.bool a0.fD.fc,v0_3]) I I (ac (j0.memA .t2) 2 2))<|bk h fun c0 A0 h=>Bd (.tuple #[.agg ((ak c0.1)).toArray,vI c0.2]) (bd 147) I (e1 I) (fun w9 hw9=>aD_c n (j0.hL0 hL hw9) a0.fD (j0.k0 h0_3 hw9) A0) I<|Ac I<|Ab (Ai I I)<|Ab (Ai I I)<|RG.nl zP j0 fun X0 E0 y0 J0=>AQ (ak c0.1) y0 .hd (ai I) fun Y0 d0 K0=>Ah I<|Aa<|Aj<|Ae<|Ac I<|Ab (BA (i:=b0.2) (j:=0) I I) ?_
 refine Ac I<|RG.ifn (s:=22) I h (fun t0 h=>?_) (fun t0 h=>?_)
 refine AJ (Al I)<|AJ (BA (i:=c0.2) (j:=0) I I)<|Bs I I<|Aa<|BI I h (fun u0 h=>?_) (fun u0 h=>?_)
 refine Aq<|Ae<|Ab (Az I (d0.memA .t1))<|Ab (Az I (d0.memA .hd))<|Ab (AS (vs:=[.agg ((ak b0.1)).toArray,.agg ((ak c0.1)).toArray]) (u:=.agg ((ak b0.1 ++ ak c0.1)).toArray) (e2 I I) (fun w9=>by kernel_rfl))<|AQ (ak b0.1 ++ ak c0.1) d0 .t2 (ai I) fun Z0 p0 M0=>Ah I<|Aa<|Ar I<|Au hb0 func96 I (.cons (.many (cs:=(ak b0.1 ++ ak c0.1)) I I (p0.memA .t2)) (.cons (.tmp I) .nil)) I ?_
 cases h
 exact p0.gv
 refine Ae<|Ab (AS (vs:=[]) (u:=.agg zM) am (fun w9=>by kernel_rfl))<|AQ zL d0 .t2 (ai I) fun b1 q0 P0=>Ah I<|Aa<|Ar I<|Au hb0 func96 I (.cons (.many (cs:=zL) I I (q0.memA .t2)) (.cons (.tmp I) .nil)) I ?_
 cases h
 exact q0.gv
 refine Ap<|Ap<|Bk I I<|Aa<|AG I<|Ae<|Ab (AS (vs:=[]) (u:=.agg zM) am (fun w9=>by kernel_rfl))<|AQ zL d0 .t2 (ai I) fun c1 s0 Q0=>Ah I<|Aa<|Ar I<|Au hb0 func96 I (.cons (.many (cs:=zL) I I (s0.memA .t2)) (.cons (.tmp I) .nil)) I ?_
 cases h
 exact s0.gv
def bC_l1 (_n:Nat) (a0:Lb Int) (j0:Int × Nat × (Lb Int) -> Oa ((Lb Int) × Int)):Int × Nat × (Lb Int) -> Oa ((Lb Int) × Int)
  | (g0,b0,d0)=>(if b0 < a0.length then (a0[b0]?).bind fun s0=>(chk (2 * s0)).bind fun k0=>(chk (k0 + g0)).bind fun c0=>(cg c0 4294967296).bind fun p0=>(app d0 ([p0]:Lb Int)).bind fun t0=>(ej c0 4294967296).bind fun q0=>j0 (q0,b0 + 1,t0) else some (d0,g0))
def bC_p (n:Nat) (a0:Lb Int) (a1:Int):Oa (Lb Int):=
  Option.bind (ao (bC_l1 n a0) n (a1,0,([]:Lb Int))) (fun (c0,g0)=>(app c0 ([g0]:Lb Int)).bind fun b0=>(aC_p n b0).bind fun d0=>some d0)
theorem bC_c (n:Nat) {L w} (hL:hl L w) {a0:Lb Int} {v0_0:Vc} (h0_0:Rep.R w L [v0_0] a0) {a1:Int}  {r:Lb Int} (h:bC_p n a0 a1 = some r) :
 Cl 204 #[v0_0,vI a1] w (aj w fun w' u=>∃ v0_0:Vc,u = v0_0/\Rep.R w' L [v0_0] r):=by
 unfold bC_p at h
 have hS0:=AL w
 refine AM func204 I I I fun _ cs0 hb0=>Ae<|Ah I<|Aa<|Ae<|Ah I<|Aa<|Aj<|Ae<|Ah I<|Aa<|Av ?_
 have x0:=hS0.nilRow 3 (Rep.size Int)
 have P1:=BW hS0 3 (Rep.size Int)
 obtain ⟨W1,c1,Y0⟩:=ap h
 refine BP (α:=Int × Nat × (Lb Int) × Vc × (Lb Vc)) (fun ⟨b0,c0,d0,k0,g0⟩=>[(0,v0_0),(1,vI b0),(5,k0),(6,vn c0)]) (fun ⟨b0,c0,d0,k0,g0⟩=>[rr w 3 Int k0 d0.length g0]) (fun ⟨b0,c0,d0,k0,g0⟩ D0=>Cells D0 (bl [rr w 3 Int k0 d0.length g0] ++ L) g0 d0) (fun ⟨b0,c0,d0,k0,g0⟩=>(b0,c0,d0)) (a1,0,([]:Lb Int),vN,[]) c1 x0 (AI (cs:=[]) (xs:=([]:Lb Int)) x0 L (AT _ _)) ?_
 rintro H1 ⟨b0,c0,d0,k0,g0⟩ D0 I0 u0 Q0 B0 h
 unfold bC_l1 at h
 try dsimp only at h
 refine Aj<|Ae<|Ac I<|Ac I ?_
 have v0:=AH h0_0 u0
 have V1:=AY v0
 refine Ab (Ba (xs:=a0) underlying140 I v0)<|Ab (AU (i:=c0) (j:=a0.length) I I)<|Aa<|AV I h (fun F0 h=>?_) (fun F0 h=>?_)
 refine Aq<|Aj<|Av<|Ae<|Ac I<|Ac I<|bk h fun E0 u1 h=>?_
 obtain ⟨G1,K1,W0,Z0,G0,g1,b1⟩:=Bh v0 u1
 have X0:G0 = [vI E0]:=g1; subst X0
 refine Ab (Be 1 c0 I W0 I I Z0)<|Bf I (b1 0 _ I)<|bk h fun z1 k1 h=>Ab (FV.mulc (i:=2) (j:=E0) I I k1)<|Ac I<|bk h fun C0 p1 h=>Ab (FV.addc (i:=z1) (j:=b0) I I p1)<|Ah I<|Aa<|Ae<|Ac I<|Ac I<|bk h fun j0 q1 h=>Ab (FV.remc (i:=C0) (j:=4294967296) I I q1)<|Ao .plain I (jA j0 (vI j0) u0 bp (e1 I)) fun Y1 I1 p0 z0=>bk h fun E1 v1 h=>BD .plain I (Bn (α:=Int) (ys:=([j0]:Lb Int)) v1 p0 (fun _ _=>.t1) bp I I (AR B0 z0) (BH (α:=Int) p0 .hd (jC j0 (vI j0) p0 L I))) fun B1 Z1 ⟨H0,J0,M0,U0⟩=>Ah I<|Aa<|Am<|Ac I<|bk h fun A1 s1 h=>Ab (FV.quoc (i:=C0) (j:=4294967296) I I s1)<|Ah I<|Aa<|Ax<|Am<|Ac I<|Ab (Bc (i:=c0) (j:=1) I I (by omega))<|Ah I<|Aa ?_
 obtain ⟨K0,A0⟩:=AB J0 .d1
 exact I0 (A1,c0 + 1,E1,B1,H0) K0 (Tt Q0 (Tt z0 (Tt M0 A0))) (AR U0 A0) h
 refine AZ I ?_
 have h:=Y0 _ h
 try dsimp only at h
 refine Ae<|Ac I<|Ac I<|Ao .plain I (jA b0 (vI b0) u0 bp (e1 I)) fun b2 J1 q0 P0=>bk h fun F1 x1 h=>BD .plain I (Bn (α:=Int) (ys:=([b0]:Lb Int)) x1 q0 (fun _ _=>.t1) bp I I (AR B0 P0) (BH (α:=Int) q0 .hd (jC b0 (vI b0) q0 L I))) fun C1 c2 ⟨M1,s0,Q1,V0⟩=>?_
 have t0:=Bu s0 .t1
 have R1:=Bv s0 .t1
 refine bk h fun g2 y1 h=>jE (bd 181) I (e1 I) (fun w9 hw9=>aC_c n (t0.hL hL hw9) (Af (Bw (α:=Int) (v:=C1) (xs:=F1) t0 L (Bi (α:=Int) s0 .t1 V0 hL)) hw9) y1) I fun d2 D1 R0 ⟨X1,hu_,j1⟩=>?_
 subst hu_
 obtain ⟨y0,U1⟩:=t0.agr R0
 refine Ah I<|Aa<|Ar I<|Bb hb0 func204 I I ?_
 cases h
 exact ⟨y0.ag,fun w9 hw9=>⟨D1,I,y0.kd j1 hw9⟩⟩
def aF_l1 (n:Nat) (a0:Lb Int) (g0:Int) (a1:Lb Int) (p0:(Lb Int) × Int × (Lb Int) -> Oa ((Lb Int) × (Lb Int))):(Lb Int) × Int × (Lb Int) -> Oa ((Lb Int) × (Lb Int))
  | (k0,c0,b0)=>(if 0 <= c0 then (idx a0 g0).bind fun x0=>(bT c0).bind fun q0=>(cg (shrS x0 q0) 2).bind fun t0=>(bC_p n k0 t0).bind fun d0=>(aV_p n d0 a1).bind fun C0=>jn (fun (z0,A0)=>(chk (c0 - 1)).bind fun u0=>p0 (z0,u0,A0)) (fun j0=>(if 0 <= C0 then (av_p n d0 a1).bind fun D0=>(idx b0 g0).bind fun y0=>(bT c0).bind fun s0=>(chk (y0 + (shlS 1 s0))).bind fun v0=>(put b0 ((g0.toNat:Nat):Int) v0).bind fun B0=>j0 (D0,B0) else j0 (d0,b0))) else some (k0,b0))
def aF_l2 (n:Nat) (a0:Lb Int) (a1:Lb Int) (g0:(Lb Int) × Int × (Lb Int) -> Oa ((Lb Int) × (Lb Int))):(Lb Int) × Int × (Lb Int) -> Oa ((Lb Int) × (Lb Int))
  | (c0,b0,d0)=>(if 0 <= b0 then Option.bind (ao (aF_l1 n a0 b0 a1) n (c0,31,d0)) (fun (k0,p0)=>(chk (b0 - 1)).bind fun j0=>g0 (k0,j0,p0)) else some (d0,c0))
def aF_p (n:Nat) (a0:Lb Int) (a1:Lb Int):Oa ((Lb Int) × (Lb Int)):=
  (if ((a0.length:Nat):Int) <= (((a1.length:Nat):Int) - 1) then (app ([]:Lb Int) a0).bind fun g0=>some (([]:Lb Int),g0) else (mk (((a0.length:Nat):Int) - (((a1.length:Nat):Int) - 1)) (0:Int)).bind fun b0=>(cut a0 (((a0.length:Nat):Int) - (((a1.length:Nat):Int) - 1)) (a0.length:Int)).bind fun j0=>(app ([]:Lb Int) j0).bind fun k0=>Option.bind (ao (aF_l2 n a0 a1) n (k0,((b0.length:Nat):Int) - 1,b0)) (fun (d0,c0)=>(aC_p n d0).bind fun p0=>some (p0,c0)))
theorem aF_c (n:Nat) {L w} (hL:hl L w) {a0:Lb Int} {v0_0:Vc} (h0_0:Rep.R w L [v0_0] a0) {a1:Lb Int} {v1_0:Vc} (h1_0:Rep.R w L [v1_0] a1)  {r:(Lb Int) × (Lb Int)} (h:aF_p n a0 a1 = some r) :
 Cl 184 #[v0_0,v1_0] w (aj w fun w' u=>∃ v0_0 v1_0:Vc,u = .tuple #[v0_0,v1_0]/\Rep.R w' L [v0_0] r.1/\Rep.R w' L [v1_0] r.2):=by
 unfold aF_p at h
 have hS0:=AL w
 refine AM func184 I I I fun _ cs0 hb0=>Ae<|Ah I<|Ah I<|Aa<|Ae<|Ac I ?_
 have hl1:=AY h1_0
 refine Ab (Ba (xs:=a1) underlying140 I h1_0)<|Ab (FV.subI (i:=((a1.length:Nat):Int)) (j:=1) I I (by omega))<|Ah I<|Aa<|Aj<|Ae<|Ac I ?_
 have hl2:=AY h0_0
 refine Ab (Ba (xs:=a0) underlying140 I h0_0)<|Ac I<|Ab (FV.leq (i:=((a0.length:Nat):Int)) (j:=((a1.length:Nat):Int) - 1) I I)<|Aa<|AV I h (fun c3 h=>?_) (fun c3 h=>?_)
 refine Ae<|Ao .plain I (jB Int hS0 bp) fun C4 V3 M0 g4=>Ac I<|bk h fun G3 p3 h=>BD .plain I (Bn (α:=Int) (ys:=a0) p3 M0 (fun _ _=>.hd) bp I I (jD Int M0 L) (Src.rep (AH h0_0 M0))) fun D1 H4 ⟨c4,J0,j4,u2⟩=>Ah I<|Ah I<|Aa<|Ar I ?_
 have s4:=Bo (α:=Int) J0 L
 have E0:=Bu J0 .hd
 have k4:=Bv J0 .hd
 have V2:=Bw (α:=Int) (v:=D1) (xs:=G3) E0 L (Bi (α:=Int) J0 .hd u2 hL)
 refine Au hb0 func184 I (.cons (.tmp I) (.cons (.tmp I) .nil)) I ?_
 cases h
 exact ⟨E0.ag,fun w9 hw9=>⟨vN,D1,I,E0.kd (Bo (α:=Int) E0 L) hw9,E0.kd V2 hw9⟩⟩
 refine Aq<|Ae<|Ac I<|Ab (Ba (xs:=a0) underlying140 I h0_0)<|Ac I<|Ab (FV.subI (i:=((a0.length:Nat):Int)) (j:=((a1.length:Nat):Int) - 1) I I (by omega))<|bk h fun G0 C1 h=>Ao .plain I (Does.mk (α:=Int) C1 hS0 bp I) fun I4 c0 j1 p4=>Ah I<|Aa<|Ae<|Ao .plain I (jB Int j1 bp) fun J4 W3 U0 g2=>Ac I<|Ac I ?_
 have z1:=AH h0_0 U0
 refine Ab (Ba (xs:=a0) underlying140 I z1)<|Ac I<|Ab (FV.subI (i:=((a0.length:Nat):Int)) (j:=((a1.length:Nat):Int) - 1) I I (by omega))<|bk h fun I3 s3 h=>RG.valE .plain I (FV.cutL (α:=Int) s3 I I z1 ⟨_,I⟩ I) fun B4 W2=>bk h fun G1 t3 h=>BD .plain I (Bn (α:=Int) (ys:=I3) t3 U0 (fun _ _=>.hd) bp I I (jD Int U0 L) (Src.rep W2)) fun E1 K4 ⟨d4,F0,j2,v2⟩=>Ah I<|Aa<|Aj<|Ae<|Ac I ?_
 have q4:G0.length <= 4294967296:=St.rowLe (α:=Int) F0 .t1
 obtain ⟨P3,b4,A2⟩:=St.rowV (α:=Int) F0 .t1
 refine Ab (FV.lenV underlying140 I A2)<|Ab (FV.subI (i:=((G0.length:Nat):Int)) (j:=1) I I (by omega))<|Ah I<|Aa<|Av ?_
 have k1:=Bu F0 .hd
 obtain ⟨t4,J2,B2⟩:=ap h
 refine BP (α:=(Lb Int) × Int × (Lb Int) × Vc × (Lb Vc)) (fun ⟨B0,b0,g0,y0,u0⟩=>[(0,v0_0),(1,v1_0),(7,(.slice (some ⟨c0,0,none⟩) (((a0.length:Nat):Int) - (((a1.length:Nat):Int) - 1)).toNat (((a0.length:Nat):Int) - (((a1.length:Nat):Int) - 1)).toNat)),(8,y0),(9,vI b0)]) (fun ⟨B0,b0,g0,y0,u0⟩=>[rr w 3 Int (.slice (some ⟨c0,0,none⟩) (((a0.length:Nat):Int) - (((a1.length:Nat):Int) - 1)).toNat (((a0.length:Nat):Int) - (((a1.length:Nat):Int) - 1)).toNat) g0.length u0]) (fun ⟨B0,b0,g0,y0,u0⟩ Z0=>Rep.R Z0 (bl [rr w 3 Int (.slice (some ⟨c0,0,none⟩) (((a0.length:Nat):Int) - (((a1.length:Nat):Int) - 1)).toNat (((a0.length:Nat):Int) - (((a1.length:Nat):Int) - 1)).toNat) g0.length u0] ++ L) [y0] B0/\Cells Z0 (bl [rr w 3 Int (.slice (some ⟨c0,0,none⟩) (((a0.length:Nat):Int) - (((a1.length:Nat):Int) - 1)).toNat (((a0.length:Nat):Int) - (((a1.length:Nat):Int) - 1)).toNat) g0.length u0] ++ L) u0 g0) (fun ⟨B0,b0,g0,y0,u0⟩=>(B0,b0,g0)) (G1,((G0.length:Nat):Int) - 1,G0,E1,(List.replicate (((a0.length:Nat):Int) - (((a1.length:Nat):Int) - 1)).toNat [vI 0]).flatten) J2 k1 ⟨(Bw (α:=Int) (v:=E1) (xs:=G1) k1 L (Bi (α:=Int) F0 .hd v2 hL)),(AR (AI (cs:=(List.replicate (((a0.length:Nat):Int) - (((a1.length:Nat):Int) - 1)).toNat [vI 0]).flatten) (xs:=G0) j1 L (Cells.mk C1 I)) (Tt g2 (Tt j2 (Bv F0 .hd))))⟩ ?_
 rintro Q3 ⟨B0,b0,g0,y0,u0⟩ Z0 V1 H0 Z1 ⟨A1,u1⟩ h
 unfold aF_l2 at h
 try dsimp only at h
 refine Aj<|Ae<|Ac I<|Ab (FV.geq (i:=b0) (j:=0) I I)<|Aa<|AV I h (fun K1 h=>?_) (fun K1 h=>?_)
 refine Aq<|Aj<|Av<|Ae<|Ah I<|Aa<|Av ?_
 obtain ⟨u4,K2,C2⟩:=ap h
 refine BP (α:=(Lb Int) × Int × (Lb Int) × Vc × (Lb Vc)) (fun ⟨C0,p0,j0,z0,q0⟩=>[(0,v0_0),(1,v1_0),(7,(.slice (some ⟨c0,0,none⟩) (((a0.length:Nat):Int) - (((a1.length:Nat):Int) - 1)).toNat (((a0.length:Nat):Int) - (((a1.length:Nat):Int) - 1)).toNat)),(8,z0),(9,vI b0),(10,vI p0)]) (fun ⟨C0,p0,j0,z0,q0⟩=>[rr w 3 Int (.slice (some ⟨c0,0,none⟩) (((a0.length:Nat):Int) - (((a1.length:Nat):Int) - 1)).toNat (((a0.length:Nat):Int) - (((a1.length:Nat):Int) - 1)).toNat) j0.length q0]) (fun ⟨C0,p0,j0,z0,q0⟩ b1=>Rep.R b1 (bl [rr w 3 Int (.slice (some ⟨c0,0,none⟩) (((a0.length:Nat):Int) - (((a1.length:Nat):Int) - 1)).toNat (((a0.length:Nat):Int) - (((a1.length:Nat):Int) - 1)).toNat) j0.length q0] ++ L) [z0] C0/\Cells b1 (bl [rr w 3 Int (.slice (some ⟨c0,0,none⟩) (((a0.length:Nat):Int) - (((a1.length:Nat):Int) - 1)).toNat (((a0.length:Nat):Int) - (((a1.length:Nat):Int) - 1)).toNat) j0.length q0] ++ L) q0 j0) (fun ⟨C0,p0,j0,z0,q0⟩=>(C0,p0,j0)) (B0,31,g0,y0,u0) K2 H0 ⟨A1,u1⟩ ?_
 rintro R3 ⟨C0,p0,j0,z0,q0⟩ b1 W1 I0 p1 ⟨B1,W0⟩ h
 unfold aF_l1 at h
 try dsimp only at h
 refine Aj<|Ae<|Ac I<|Ab (FV.geq (i:=p0) (j:=0) I I)<|Aa<|AV I h (fun M1 h=>?_) (fun M1 h=>?_)
 refine Aq<|Aj<|Av<|Ae<|Ac I<|Ac I<|Ac I<|bk h fun d1 d3 h=>?_
 obtain ⟨D2,g3⟩:=aR d3
 obtain ⟨M3,X3,x2,E2,Q1,M2,H2⟩:=Bh (AH h0_0 I0) g3
 have y2:Q1 = [vI d1]:=M2; subst y2
 refine Ab (Be 1 (b0.toNat) I x2 I D2 E2)<|Bf I (H2 0 _ I)<|Ac I<|bk h fun z3 F2 h=>Ab (FV.shrSI (i:=d1) (q:=p0) I I F2)<|bk h fun v4 X2 h=>Ab (FV.remc (i:=shrS d1 z3) (j:=2) I I X2)<|bk h fun J3 u3 h=>jE (bd 204) I (e2 I I) (fun w9 hw9=>bC_c n (I0.hL hL hw9) (Af B1 hw9) u3) I fun D4 D3 k2 ⟨y4,hu_,Y0⟩=>?_
 subst hu_
 obtain ⟨x0,V0⟩:=I0.agr k2
 refine Ah I<|Aa<|Ae<|Ac I<|Ac I<|bk h fun H1 v3 h=>Bd (vI H1) (bd 175) I (e2 I I) (fun w9 hw9=>aV_c n (x0.hL0 hL hw9) (x0.kd Y0 hw9) (x0.k0 h1_0 hw9) v3) I<|Ab (FV.geq (i:=H1) (j:=0) I I)<|Aa<|MX.jf (α:=(Lb Int) × (Lb Int) × Vc × (Lb Vc)) (fun ⟨D0,t0,A0,v0⟩=>[(0,v0_0),(1,v1_0),(7,(.slice (some ⟨c0,0,none⟩) (((a0.length:Nat):Int) - (((a1.length:Nat):Int) - 1)).toNat (((a0.length:Nat):Int) - (((a1.length:Nat):Int) - 1)).toNat)),(8,A0),(9,vI b0),(10,vI p0)]) (fun ⟨D0,t0,A0,v0⟩=>[rr w 3 Int (.slice (some ⟨c0,0,none⟩) (((a0.length:Nat):Int) - (((a1.length:Nat):Int) - 1)).toNat (((a0.length:Nat):Int) - (((a1.length:Nat):Int) - 1)).toNat) t0.length v0]) (fun ⟨D0,t0,A0,v0⟩ c1=>Rep.R c1 (bl [rr w 3 Int (.slice (some ⟨c0,0,none⟩) (((a0.length:Nat):Int) - (((a1.length:Nat):Int) - 1)).toNat (((a0.length:Nat):Int) - (((a1.length:Nat):Int) - 1)).toNat) t0.length v0] ++ L) [A0] D0/\Cells c1 (bl [rr w 3 Int (.slice (some ⟨c0,0,none⟩) (((a0.length:Nat):Int) - (((a1.length:Nat):Int) - 1)).toNat (((a0.length:Nat):Int) - (((a1.length:Nat):Int) - 1)).toNat) t0.length v0] ++ L) v0 t0) (fun ⟨D0,t0,A0,v0⟩=>(D0,t0)) x0 h ?_ ?_
 rintro ⟨D0,t0,A0,v0⟩ c1 X1 b2 ⟨P2,s2⟩ h
 try dsimp only at h
 refine Ax<|Am<|Ac I<|bk h fun B3 Y2 h=>Ab (FV.subc (i:=p0) (j:=1) I I Y2)<|Ah I<|Aa<|W1 (D0,B3,t0,A0,v0) X1 (Tt p1 (Tt V0 b2)) ⟨P2,s2⟩ h
 intro U3 g1 h
 try dsimp only at h
 refine AV I h (fun P1 h=>?_) (fun P1 h=>?_)
 refine Ae<|Ac I<|Ac I<|bk h fun K3 x3 h=>jE (bd 176) I (e2 I I) (fun w9 hw9=>av_c n (x0.hL hL hw9) (Af Y0 hw9) (x0.km h1_0 hw9) x3) I fun E4 E3 p2 ⟨z4,hu_,Q2⟩=>?_
 subst hu_
 obtain ⟨P0,q1⟩:=x0.agr p2
 refine Ah I<|Aa<|du 10 fun d0 s0=>Rv 0 d0 I s0 (fun _=>Al I)<|Rv 1 d0 I s0 (fun _=>Al I)<|Rv 2 d0 I s0 (fun _=>Al I)<|Rv 3 d0 I s0 (fun _=>Al I)<|bk h fun F1 j3 h=>?_
 obtain ⟨x1,k3⟩:=aR j3
 have y1:=AR W0 (Tt V0 q1)
 obtain ⟨I1,Y3,K0,X0,R1,R2,I2⟩:=BS (α:=Int) P0 .hd y1 k3
 obtain ⟨J1,Z3,v1⟩:=BC (α:=Int) P0 .hd X0
 obtain rfl:I1 = ⟨J1,0,none⟩:=by rw [v1] at K0; cases K0; rfl
 have z2:R1 = [vI F1]:=R2; subst z2
 refine Rv 4 d0 I s0 (fun _=>Be 1 (b0.toNat) I K0 I x1 X0)<|Rx 5 1792 d0 I s0 (Bp I (I2 0 _ I))<|Rv 6 d0 I s0 (fun _=>Al I)<|bk h fun A3 G2 h=>Rv 7 d0 I s0 (fun _=>FV.shlSI (i:=1) (q:=p0) I I G2)<|bk h fun x4 Z2 h=>Rv 8 d0 I s0 (fun _=>FV.addc (i:=F1) (j:=shlS 1 A3) I I Z2)<|Rv 9 d0 I s0 (fun _=>Be 1 (b0.toNat) I K0 I x1 X0)<|bk h fun H3 q3 h=>BK (i:=10) (rk d0) (RO.acts (m' :=2047) (sk d0) I I .plain (Acts.set (α:=Int) (i:=b0.toNat) q3 P0 v1 (fun _=>.hd) y1 I I I I I I) (fun F4 ⟨U1,Y1,s1,t2⟩=>?_))
 refine AK (dk d0)<|g1 (K3,H3,E3,U1) Y1 (Tt q1 s1) ⟨(Ag Q2 s1),t2⟩ h
 refine Aq<|g1 (J3,j0,D3,q0) x0 (BM _ _) ⟨Y0,(AR W0 V0)⟩ h
 refine AZ I ?_
 have h:=C2 _ h
 try dsimp only at h
 refine Ax<|Am<|Ac I<|bk h fun C3 b3 h=>Ab (FV.subc (i:=b0) (j:=1) I I b3)<|Ah I<|Aa<|V1 (C0,C3,j0,z0,q0) I0 (Tt Z1 p1) ⟨B1,W0⟩ h
 refine AZ I ?_
 have h:=B2 _ h
 try dsimp only at h
 refine Ae<|Ac I ?_
 have Q0:=Bu H0 .hd
 have c2:=Bv H0 .hd
 refine bk h fun M4 y3 h=>jE (bd 181) I (e1 I) (fun w9 hw9=>aC_c n (Q0.hL hL hw9) (Af (Bw (α:=Int) (v:=(.slice (some ⟨c0,0,none⟩) (((a0.length:Nat):Int) - (((a1.length:Nat):Int) - 1)).toNat (((a0.length:Nat):Int) - (((a1.length:Nat):Int) - 1)).toNat)) (xs:=g0) Q0 L (Bi (α:=Int) H0 .hd u1 hL)) hw9) y3) I fun G4 F3 q2 ⟨A4,hu_,U2⟩=>?_
 subst hu_
 obtain ⟨R0,d2⟩:=Q0.agr q2
 refine Ac I<|Ah I<|Ah I<|Aa<|Ar I<|Au hb0 func184 I (.cons (.tmp I) (.cons (.tmp I) .nil)) I ?_
 cases h
 exact ⟨R0.ag,fun w9 hw9=>⟨F3,y0,I,R0.kd U2 hw9,R0.kd (Ag A1 (Tt c2 d2)) hw9⟩⟩

def aY_l1 (n:Nat) (d0:(Lb Int) × (Lb Int) -> Oa (Lb Int)):(Lb Int) × (Lb Int) -> Oa (Lb Int)
  | (c0,b0)=>(if 0 < b0.length then (aF_p n c0 b0).bind fun g0=>d0 (b0,g0.2) else some c0)
def aY_p (n:Nat) (a0:Te) (a1:Te):Oa Te:=
  Option.bind (ao (aY_l1 n) n (a0.fD,a1.fD)) (fun b0=>some (⟨false,b0⟩:Te))
theorem aY_c (n:Nat) {L w} (hL:hl L w) (a0:Te) {v0_1:Vc} (h0_1:Rep.R w L [v0_1] a0.fD) (a1:Te) {v1_1:Vc} (h1_1:Rep.R w L [v1_1] a1.fD)  {r:Te} (h:aY_p n a0 a1 = some r) :
 Cl 157 #[.agg #[.bool a0.fc,v0_1],.agg #[.bool a1.fc,v1_1]] w (aj w fun w' u=>∃ v0_1:Vc,u = .agg #[.bool r.fc,v0_1]/\Rep.R w' L [v0_1] r.fD):=by
 unfold aY_p at h
 refine AM func157 I I I fun _ cs0 hb0=>Ae<|RG.bx (AL w) I I fun s1 W0 C0 Z0=>RG.bx C0 I I fun u1 X0 D0 b1=>RG.nl [.bool false,vN] D0 fun v1 p0 t0 c1=>Aa<|Aj<|du 6 fun d0 j0=>Rv 0 d0 I j0 (fun _=>Bg 1 I)<|Rx 1 48 d0 I j0 (Bp I ((t0.memA .t2) 1 _ I))<|Rv 2 d0 I j0 (fun _=>Bg 1 I)<|Rx 3 32 d0 I j0 (Bp I ((t0.memA .t1) 1 _ I))<|Rv 4 d0 I j0 (fun _=>Bj I)<|Rv 5 d0 I j0 (fun _=>Bj I)<|AK (dk d0)<|Aj<|Av ?_
 obtain ⟨u0,d1⟩:=AB t0 (.a0 .done)
 obtain ⟨k1,J0,I0⟩:=ap h
 refine BP (α:=(Lb Int) × (Lb Int) × Vc × Vc) (fun ⟨k0,c0,b0,g0⟩=>[(4,vP p0),(5,b0),(6,g0)]) (fun ⟨k0,c0,b0,g0⟩=>[.cells p0 [.bool false,vN] 142]) (fun ⟨k0,c0,b0,g0⟩ y0=>Rep.R y0 (bl [.cells p0 [.bool false,vN] 142] ++ L) [b0] k0/\Rep.R y0 (bl [.cells p0 [.bool false,vN] 142] ++ L) [g0] c0) (fun ⟨k0,c0,b0,g0⟩=>(k0,c0)) (a0.fD,a1.fD,v0_1,v1_1) J0 u0 ⟨(AH h0_1 u0),(AH h1_1 u0)⟩ ?_
 rintro V0 ⟨k0,c0,b0,g0⟩ y0 B0 v0 F0 ⟨q0,s0⟩ h
 unfold aY_l1 at h
 try dsimp only at h
 refine Aj<|Ae<|Ac I ?_
 have g1:=AY s0
 refine Ab (Ba (xs:=c0) underlying140 I s0)<|Ab (FV.gtrN (i:=c0.length) (j:=0) I I)<|Aa<|AV I h (fun A0 h=>?_) (fun A0 h=>?_)
 refine Aq<|Av<|Ae<|Ac I<|Ac I<|bk h fun R0 P0 h=>jE (bd 184) I (e2 I I) (fun w9 hw9=>aF_c n (v0.hL hL hw9) (Af q0 hw9) (Af s0 hw9) P0) I fun x1 q1 H0 ⟨p1,Q0,hu_,j1,K0⟩=>?_
 subst hu_
 obtain ⟨E0,z0⟩:=v0.agr H0
 refine Ac I<|Ab (Ai I I)<|Ab (Ai I I)<|Ah I<|Ah I<|Aa<|Am<|Ac I<|Ac I<|Ah I<|Ah I<|Aa<|Ax<|B0 (c0,R0.2,g0,Q0) E0 (Tt F0 z0) ⟨(Ag s0 z0),K0⟩ h
 refine AZ I ?_
 have h:=I0 _ h
 try dsimp only at h
 refine Ae<|Ac I ?_
 obtain ⟨U0,Y0,M0,_⟩:=Bl q0
 refine Ab (AS (vs:=[b0]) (u:=.agg #[.bool false,b0]) (e1 I) (fun w9=>by rw [M0]; try kernel_rfl))<|AQ [.bool false,b0] v0 .hd (o2 I (Ay q0)) fun y1 x0 G0=>Aa<|Ar I<|Au hb0 func157 I (.cons (.many (cs:=[.bool false,b0]) I I (x0.memA .hd)) .nil) I ?_
 cases h
 exact ⟨x0.ag,fun w9 hw9=>⟨b0,I,x0.kd (Ag q0 G0) hw9⟩⟩
def ab_p (n:Nat) (a0:Bool) (a1:Lb Int):Oa Te:=
  (aC_p n a1).bind fun b0=>(if a0 = true then some (⟨(decide (0 < b0.length)),b0⟩:Te) else some (⟨false,b0⟩:Te))
theorem ab_c (n:Nat) {L w} (hL:hl L w) {a0:Bool} {a1:Lb Int} {v1_0:Vc} (h1_0:Rep.R w L [v1_0] a1)  {r:Te} (h:ab_p n a0 a1 = some r) :
 Cl 178 #[.bool a0,v1_0] w (aj w fun w' u=>∃ v0_1:Vc,u = .agg #[.bool r.fc,v0_1]/\Rep.R w' L [v0_1] r.fD):=by
 unfold ab_p at h
 refine AM func178 I I I fun _ cs0 hb0=>Ae<|RG.nl [.bool false,vN] (AL w) fun I0 B0 g0 E0=>Aa<|Ae<|Ac I<|bk h fun d0 y0 h=>jE (bd 181) I (e1 I) (fun w9 hw9=>aC_c n (g0.hL hL hw9) (g0.km h1_0 hw9) y0) I fun J0 b0 u0 ⟨H0,hu_,c0⟩=>?_
 subst hu_
 obtain ⟨p0,F0⟩:=g0.agr u0
 refine Ah I<|Aa<|Ae<|Ac I<|Ac I<|RG.ifb (s:=8) I h (fun q0 h=>?_) (fun q0 h=>?_)
 refine AJ (Al I) ?_
 have G0:=AY c0
 refine AJ (Ba (xs:=d0) underlying140 I c0)<|AJ (FV.gtrN (i:=d0.length) (j:=0) I I)<|Bk I I<|Ac I ?_
 obtain ⟨z0,C0,v0,_⟩:=Bl c0
 refine Ab (AS (vs:=[.bool (decide (0 < d0.length)),b0]) (u:=.agg #[.bool (decide (0 < d0.length)),b0]) (e2 I I) (fun w9=>by rw [v0]; try kernel_rfl))<|AQ [.bool (decide (0 < d0.length)),b0] p0 .hd (o2 I (Ay c0)) fun K0 j0 s0=>Aa<|Ar I<|Au hb0 func178 I (.cons (.many (cs:=[.bool (decide (0 < d0.length)),b0]) I I (j0.memA .hd)) .nil) I ?_
 cases h
 exact ⟨j0.ag,fun w9 hw9=>⟨b0,I,j0.kd (Ag c0 s0) hw9⟩⟩
 refine Ap<|Ap<|Ap<|Bs I I<|Ac I ?_
 obtain ⟨A0,D0,x0,_⟩:=Bl c0
 refine Ab (AS (vs:=[.bool false,b0]) (u:=.agg #[.bool false,b0]) (e2 I I) (fun w9=>by rw [x0]; try kernel_rfl))<|AQ [.bool false,b0] p0 .hd (o2 I (Ay c0)) fun M0 k0 t0=>Aa<|Ar I<|Au hb0 func178 I (.cons (.many (cs:=[.bool false,b0]) I I (k0.memA .hd)) .nil) I ?_
 cases h
 exact ⟨k0.ag,fun w9 hw9=>⟨b0,I,k0.kd (Ag c0 t0) hw9⟩⟩
def bN_p (n:Nat) (a0:Te):Oa Te:=
  (ab_p n (!a0.fc) a0.fD).bind fun b0=>some b0
theorem bN_c (n:Nat) {L w} (hL:hl L w) (a0:Te) {v0_1:Vc} (h0_1:Rep.R w L [v0_1] a0.fD)  {r:Te} (h:bN_p n a0 = some r) :
 Cl 158 #[.agg #[.bool a0.fc,v0_1]] w (aj w fun w' u=>∃ v0_1:Vc,u = .agg #[.bool r.fc,v0_1]/\Rep.R w' L [v0_1] r.fD):=by
 unfold bN_p at h
 refine AM func158 I I I fun _ cs0 hb0=>Ae<|RG.bx (AL w) I I fun B0 u0 k0 x0=>RG.nl [.bool false,vN] k0 fun C0 v0 b0 y0=>Aa<|Ae<|Bm 0 I<|Bf I ((b0.memA .t1) 0 _ I)<|Ab (Bx I)<|Bm 1 I<|Bf I ((b0.memA .t1) 1 _ I)<|bk h fun j0 t0 h=>jE (bd 178) I (e2 I I) (fun w9 hw9=>ab_c n (b0.hL hL hw9) (b0.km h0_1 hw9) t0) I fun D0 A0 s0 ⟨d0,hu_,g0⟩=>?_
 subst hu_
 obtain ⟨p0,z0⟩:=b0.agr s0
 refine AQ [.bool j0.fc,d0] p0 .hd (o2 I (Ay g0)) fun E0 c0 q0=>Aa<|Ar I<|Au hb0 func158 I (.cons (.many (cs:=[.bool j0.fc,d0]) I I (c0.memA .hd)) .nil) I ?_
 cases h
 exact ⟨c0.ag,fun w9 hw9=>⟨d0,I,c0.kd (Ag g0 q0) hw9⟩⟩
def bc_p (n:Nat) (a0:Int):Oa Te:=
  jn (fun u16=>(ab_p n (decide (a0 < 0)) ([aB (u16 % (4294967296:Ua)),aB (u16 / (4294967296:Ua))]:Lb Int)).bind fun c0=>some c0) (fun b0=>(if a0 < 0 then b0 (-(ae a0)) else b0 (ae a0)))
theorem bc_c (n:Nat) {L w} (hL:hl L w) {a0:Int}  {r:Te} (h:bc_p n a0 = some r) :
 Cl 149 #[vI a0] w (aj w fun w' u=>∃ v0_1:Vc,u = .agg #[.bool r.fc,v0_1]/\Rep.R w' L [v0_1] r.fD):=by
 unfold bc_p at h
 refine AM func149 I I I fun _ cs0 hb0=>Ae<|RG.nl [.bool false,vN] (AL w) fun I0 k0 c0 C0=>Aa<|Ae<|Ac I<|Ab (FV.lss (i:=a0) (j:=0) I I)<|Ah I<|Aa<|Ae<|Ac I<|Ab (FV.convU (i:=a0) underlying3 underlying30 I)<|Ah I<|Aa<|Aj<|Ae<|Ac I<|Aa<|MX.jo (α:=Ua) (fun u16=>[(2,vP k0),(3,.bool (decide (a0 < 0))),(4,vU u16)]) (fun u16=>[.cells k0 [.bool false,vN] 142]) (fun u16=>u16) c0 h ?_ ?_
 rintro u16 P0 v0 D0 h
 try dsimp only at h
 refine Ae<|Ac I<|Ac I<|Ab (FV.remU (a:=u16) (b:=(4294967296:Ua)) I I (by decide))<|Ab (FV.convUI (a:=u16 % (4294967296:Ua)) underlying30 underlying3 I)<|Ac I<|Ab (FV.quoU (a:=u16) (b:=(4294967296:Ua)) I I (by decide))<|Ab (FV.convUI (a:=u16 / (4294967296:Ua)) underlying30 underlying3 I)<|Ao .plain I (AW (α:=Int) (xs:=([aB (u16 % (4294967296:Ua)),aB (u16 / (4294967296:Ua))]:Lb Int)) (vs:=[vI (aB (u16 % (4294967296:Ua))),vI (aB (u16 / (4294967296:Ua)))]) (ds' :=[vI (aB (u16 % (4294967296:Ua))),vI (aB (u16 / (4294967296:Ua)))]) I v0 bp I (e2 I I) (by kernel_rfl) I) fun J0 t0 b0 E0=>?_
 have d0:=Bu b0 .hd
 have F0:=Bv b0 .hd
 refine bk h fun s0 A0 h=>jE (bd 178) I (e2 I I) (fun w9 hw9=>ab_c n (d0.hL hL hw9) (Af (Bw (α:=Int) (v:=(vS t0 2)) (xs:=([aB (u16 % (4294967296:Ua)),aB (u16 / (4294967296:Ua))]:Lb Int)) d0 L (Bi (α:=Int) b0 .hd (AI (cs:=[vI (aB (u16 % (4294967296:Ua))),vI (aB (u16 / (4294967296:Ua)))]) (xs:=(([aB (u16 % (4294967296:Ua)),aB (u16 / (4294967296:Ua))]:Lb Int):Lb Int)) b0 L (AE (cs:=[vI (aB (u16 % (4294967296:Ua)))]) (ds:=[vI (aB (u16 / (4294967296:Ua)))]) I (AE (cs:=[vI (aB (u16 / (4294967296:Ua)))]) (ds:=[]) I (AT _ _)))) hL)) hw9) A0) I fun K0 H0 z0 ⟨j0,hu_,q0⟩=>?_
 subst hu_
 obtain ⟨x0,G0⟩:=d0.agr z0
 refine AQ [.bool s0.fc,j0] x0 .hd (o2 I (Ay q0)) fun M0 g0 y0=>Aa<|Ar I<|Au hb0 func149 I (.cons (.many (cs:=[.bool s0.fc,j0]) I I (g0.memA .hd)) .nil) I ?_
 cases h
 exact ⟨g0.ag,fun w9 hw9=>⟨j0,I,g0.kd (Ag q0 y0) hw9⟩⟩
 intro B0 p0 h
 try dsimp only at h
 refine AV I h (fun u0 h=>?_) (fun u0 h=>?_)
 refine Am<|Ac I<|Ab (FV.negU (a:=ae a0) I)<|Ah I<|Aa<|p0 (-(ae a0)) c0 (BM _ _) h
 refine Aq<|p0 (ae a0) c0 (BM _ _) h
def bH_l1 (_n:Nat) (a0:Lb Int) (a1:Lb Int) (g0:Int × Int × (Lb Int) -> Oa (Lb Int)):Int × Int × (Lb Int) -> Oa (Lb Int)
  | (c0,b0,d0)=>(if b0 < ((a0.length:Nat):Int) then (idx a0 b0).bind fun C0=>(chk (c0 + C0)).bind fun k0=>jn (fun q0=>(cg q0 4294967296).bind fun s0=>(app d0 ([s0]:Lb Int)).bind fun F0=>(ej q0 4294967296).bind fun t0=>(chk (b0 + 1)).bind fun u0=>g0 (t0,u0,F0)) (fun j0=>(if b0 < ((a1.length:Nat):Int) then (idx a1 b0).bind fun D0=>(chk (k0 + D0)).bind fun v0=>j0 v0 else j0 k0)) else (if b0 < ((a1.length:Nat):Int) then (idx a1 b0).bind fun E0=>(chk (c0 + E0)).bind fun p0=>(cg p0 4294967296).bind fun x0=>(app d0 ([x0]:Lb Int)).bind fun G0=>(ej p0 4294967296).bind fun y0=>g0 (y0,b0 + 1,G0) else (if 0 < c0 then (cg c0 4294967296).bind fun z0=>(app d0 ([z0]:Lb Int)).bind fun H0=>(ej c0 4294967296).bind fun A0=>(chk (b0 + 1)).bind fun B0=>g0 (A0,B0,H0) else some d0)))
def bH_p (n:Nat) (a0:Lb Int) (a1:Lb Int):Oa (Lb Int):=
  Option.bind (ao (bH_l1 n a0 a1) n (0,0,([]:Lb Int))) (fun b0=>some b0)
theorem bH_c (n:Nat) {L w} (hL:hl L w) {a0:Lb Int} {v0_0:Vc} (h0_0:Rep.R w L [v0_0] a0) {a1:Lb Int} {v1_0:Vc} (h1_0:Rep.R w L [v1_0] a1)  {r:Lb Int} (h:bH_p n a0 a1 = some r) :
 Cl 183 #[v0_0,v1_0] w (aj w fun w' u=>∃ v0_0:Vc,u = v0_0/\Rep.R w' L [v0_0] r):=by
 unfold bH_p at h
 have hS0:=AL w
 refine AM func183 I I I fun _ cs0 hb0=>Ae<|Ah I<|Aa<|Ae<|Ah I<|Aa<|Ae<|Ah I<|Aa<|Aj<|Ae<|Ah I<|Aa<|Av ?_
 have I0:=hS0.nilRow 3 (Rep.size Int)
 have B3:=BW hS0 3 (Rep.size Int)
 obtain ⟨G3,j2,U1⟩:=ap h
 refine BP (α:=Int × Int × (Lb Int) × Vc × (Lb Vc)) (fun ⟨g0,b0,j0,d0,k0⟩=>[(0,v0_0),(1,v1_0),(5,d0),(6,vI g0),(7,vI b0)]) (fun ⟨g0,b0,j0,d0,k0⟩=>[rr w 3 Int d0 j0.length k0]) (fun ⟨g0,b0,j0,d0,k0⟩ X0=>Cells X0 (bl [rr w 3 Int d0 j0.length k0] ++ L) k0 j0) (fun ⟨g0,b0,j0,d0,k0⟩=>(g0,b0,j0)) (0,0,([]:Lb Int),vN,[]) j2 I0 (AI (cs:=[]) (xs:=([]:Lb Int)) I0 L (AT _ _)) ?_
 rintro s3 ⟨g0,b0,j0,d0,k0⟩ X0 A0 c0 F0 y0 h
 unfold bH_l1 at h
 try dsimp only at h
 refine Aj<|Ae<|Ac I<|Ac I ?_
 have u0:=AH h0_0 c0
 have D3:=AY u0
 refine Ab (Ba (xs:=a0) underlying140 I u0)<|Ab (FV.lss (i:=b0) (j:=((a0.length:Nat):Int)) I I)<|Ac I<|RG.ifd (s:=12) I h (fun x0 h=>?_) (fun x0 h=>?_)
 refine Ap<|Ap<|Ap<|Ap<|Bk I I<|Ac I<|Ap<|Ap<|Bk I I<|Aa<|AG I<|Aq<|Aj<|Av<|Aj<|Ae<|Ac I<|Ac I<|Ab (Ba (xs:=a0) underlying140 I u0)<|Ab (FV.lss (i:=b0) (j:=((a0.length:Nat):Int)) I I)<|Aa<|MX.cond_kt I (decide_eq_true x0)<|Am<|Ac I<|Ac I<|Ac I<|bk h fun Y0 F2 h=>?_
 obtain ⟨V1,G2⟩:=aR F2
 obtain ⟨k3,y3,J1,Y1,j1,k2,c2⟩:=Bh u0 G2
 have K1:j1 = [vI Y0]:=k2; subst K1
 refine Ab (Be 1 (b0.toNat) I J1 I V1 Y1)<|Bf I (c2 0 _ I)<|bk h fun V0 t2 h=>Ab (FV.addc (i:=g0) (j:=Y0) I I t2)<|Ah I<|Aa<|Aj<|Ae<|Ac I<|Ac I ?_
 have G0:=AH h1_0 c0
 have E3:=AY G0
 refine Ab (Ba (xs:=a1) underlying140 I G0)<|Ab (FV.lss (i:=b0) (j:=((a1.length:Nat):Int)) I I)<|Aa<|MX.jo (α:=Int) (fun t0=>[(0,v0_0),(1,v1_0),(5,d0),(6,vI t0),(7,vI b0)]) (fun t0=>[rr w 3 Int d0 j0.length k0]) (fun t0=>t0) c0 h ?_ ?_
 rintro t0 Q3 v1 J0 h
 try dsimp only at h
 refine Ae<|Ac I<|Ac I<|bk h fun p0 u2 h=>Ab (FV.remc (i:=t0) (j:=4294967296) I I u2)<|Ao .plain I (jA p0 (vI p0) v1 bp (e1 I)) fun H3 u3 B0 K0=>bk h fun d3 M2 h=>BD .plain I (Bn (α:=Int) (ys:=([p0]:Lb Int)) M2 B0 (fun _ _=>.t1) bp I I (AR y0 (Tt J0 K0)) (BH (α:=Int) B0 .hd (jC p0 (vI p0) B0 L I))) fun Z2 I3 ⟨k1,x1,D1,G1⟩=>Ah I<|Aa<|Am<|Ac I<|bk h fun R2 v2 h=>Ab (FV.quoc (i:=t0) (j:=4294967296) I I v2)<|Ah I<|Aa<|Ax<|Am<|Ac I<|bk h fun U2 x2 h=>Ab (FV.addc (i:=b0) (j:=1) I I x2)<|Ah I<|Aa ?_
 obtain ⟨y1,M0⟩:=AB x1 .d1
 exact A0 (R2,U2,d3,Z2,k1) y1 (Tt F0 (Tt J0 (Tt K0 (Tt D1 M0)))) (AR G1 M0) h
 intro t3 H0 h
 try dsimp only at h
 refine AV I h (fun c1 h=>?_) (fun c1 h=>?_)
 refine Am<|Ac I<|Ac I<|Ac I<|bk h fun Z0 H2 h=>?_
 obtain ⟨W1,I2⟩:=aR H2
 obtain ⟨p3,z3,M1,Z1,p1,p2,d2⟩:=Bh G0 I2
 have P1:p1 = [vI Z0]:=p2; subst P1
 refine Ab (Be 1 (b0.toNat) I M1 I W1 Z1)<|Bf I (d2 0 _ I)<|bk h fun V2 y2 h=>Ab (FV.addc (i:=V0) (j:=Z0) I I y2)<|Ah I<|Aa<|H0 V2 c0 (BM _ _) h
 refine Aq<|H0 V0 c0 (BM _ _) h
 refine AJ (Al I)<|AJ (Al I) ?_
 have v0:=AH h1_0 c0
 have F3:=AY v0
 refine AJ (Ba (xs:=a1) underlying140 I v0)<|AJ (FV.lss (i:=b0) (j:=((a1.length:Nat):Int)) I I)<|Bs I I<|Ac I<|RG.ifd (s:=18) I h (fun z0 h=>?_) (fun z0 h=>?_)
 refine Ap<|Ap<|Bk I I<|Aa<|AG I<|Aq<|Aj<|Av<|Aj<|Ae<|Ac I<|Ac I<|Ab (Ba (xs:=a0) underlying140 I u0)<|Ab (FV.lss (i:=b0) (j:=((a0.length:Nat):Int)) I I)<|Aa<|MX.cond_kf I (decide_eq_false x0)<|Aq<|Aj<|Ae<|Ac I<|Ac I<|Ab (Ba (xs:=a1) underlying140 I v0)<|Ab (FV.lss (i:=b0) (j:=((a1.length:Nat):Int)) I I)<|Aa<|MX.cond_kt I (decide_eq_true z0)<|Am<|Ac I<|Ac I<|Ac I<|bk h fun b1 J2 h=>?_
 obtain ⟨X1,K2⟩:=aR J2
 obtain ⟨q3,A3,Q1,b2,q1,q2,g2⟩:=Bh v0 K2
 have R1:q1 = [vI b1]:=q2; subst R1
 refine Ab (Be 1 (b0.toNat) I Q1 I X1 b2)<|Bf I (g2 0 _ I)<|bk h fun W0 z2 h=>Ab (FV.addc (i:=g0) (j:=b1) I I z2)<|Ah I<|Aa<|Ae<|Ac I<|Ac I<|bk h fun q0 A2 h=>Ab (FV.remc (i:=W0) (j:=4294967296) I I A2)<|Ao .plain I (jA q0 (vI q0) c0 bp (e1 I)) fun J3 v3 C0 P0=>bk h fun g3 P2 h=>BD .plain I (Bn (α:=Int) (ys:=([q0]:Lb Int)) P2 C0 (fun _ _=>.t1) bp I I (AR y0 P0) (BH (α:=Int) C0 .hd (jC q0 (vI q0) C0 L I))) fun b3 K3 ⟨s1,z1,E1,H1⟩=>Ah I<|Aa<|Am<|Ac I<|bk h fun W2 B2 h=>Ab (FV.quoc (i:=W0) (j:=4294967296) I I B2)<|Ah I<|Aa<|Ax<|Am<|Ac I<|Ab (FV.addI (i:=b0) (j:=1) I I (by omega))<|Ah I<|Aa ?_
 obtain ⟨A1,Q0⟩:=AB z1 .d1
 exact A0 (W2,b0 + 1,g3,b3,s1) A1 (Tt F0 (Tt P0 (Tt E1 Q0))) (AR H1 Q0) h
 refine AJ (Al I)<|AJ (FV.gtr (i:=g0) (j:=0) I I)<|Bs I I<|Aa<|AV I h (fun g1 h=>?_) (fun g1 h=>?_)
 refine Aq<|Aj<|Av<|Aj<|Ae<|Ac I<|Ac I<|Ab (Ba (xs:=a0) underlying140 I u0)<|Ab (FV.lss (i:=b0) (j:=((a0.length:Nat):Int)) I I)<|Aa<|MX.cond_kf I (decide_eq_false x0)<|Aq<|Aj<|Ae<|Ac I<|Ac I<|Ab (Ba (xs:=a1) underlying140 I v0)<|Ab (FV.lss (i:=b0) (j:=((a1.length:Nat):Int)) I I)<|Aa<|MX.cond_kf I (decide_eq_false z0)<|Aq<|Ae<|Ac I<|Ac I<|bk h fun s0 C2 h=>Ab (FV.remc (i:=g0) (j:=4294967296) I I C2)<|Ao .plain I (jA s0 (vI s0) c0 bp (e1 I)) fun M3 x3 D0 R0=>bk h fun j3 Q2 h=>BD .plain I (Bn (α:=Int) (ys:=([s0]:Lb Int)) Q2 D0 (fun _ _=>.t1) bp I I (AR y0 R0) (BH (α:=Int) D0 .hd (jC s0 (vI s0) D0 L I))) fun c3 P3 ⟨u1,B1,F1,I1⟩=>Ah I<|Aa<|Am<|Ac I<|bk h fun X2 D2 h=>Ab (FV.quoc (i:=g0) (j:=4294967296) I I D2)<|Ah I<|Aa<|Ax<|Am<|Ac I<|bk h fun Y2 E2 h=>Ab (FV.addc (i:=b0) (j:=1) I I E2)<|Ah I<|Aa ?_
 obtain ⟨C1,U0⟩:=AB B1 .d1
 exact A0 (X2,Y2,j3,c3,u1) C1 (Tt F0 (Tt R0 (Tt F1 U0))) (AR I1 U0) h
 refine AZ I ?_
 have h:=U1 _ h
 try dsimp only at h
 refine Ae<|Ac I<|Ah I<|Aa<|Ar I ?_
 have E0:=Bu c0 .hd
 have C3:=Bv c0 .hd
 have s2:=Bw (α:=Int) (v:=d0) (xs:=j0) E0 L (Bi (α:=Int) c0 .hd y0 hL)
 refine Bb hb0 func183 I I ?_
 cases h
 exact ⟨E0.ag,fun w9 hw9=>⟨d0,I,E0.kd s2 hw9⟩⟩
def bB_p (n:Nat) (a0:Te) (a1:Te):Oa Te:=
  (if (a0.fc == a1.fc) = true then (bH_p n a0.fD a1.fD).bind fun b0=>(ab_p n a0.fc b0).bind fun c0=>some c0 else (aV_p n a0.fD a1.fD).bind fun d0=>(if 0 <= d0 then (av_p n a0.fD a1.fD).bind fun g0=>(ab_p n a0.fc g0).bind fun j0=>some j0 else (av_p n a1.fD a0.fD).bind fun k0=>(ab_p n a1.fc k0).bind fun p0=>some p0))
theorem bB_c (n:Nat) {L w} (hL:hl L w) (a0:Te) {v0_1:Vc} (h0_1:Rep.R w L [v0_1] a0.fD) (a1:Te) {v1_1:Vc} (h1_1:Rep.R w L [v1_1] a1.fD)  {r:Te} (h:bB_p n a0 a1 = some r) :
 Cl 154 #[.agg #[.bool a0.fc,v0_1],.agg #[.bool a1.fc,v1_1]] w (aj w fun w' u=>∃ v0_1:Vc,u = .agg #[.bool r.fc,v0_1]/\Rep.R w' L [v0_1] r.fD):=by
 unfold bB_p at h
 refine AM func154 I I I fun _ cs0 hb0=>Ae<|RG.bx (AL w) I I fun b2 A1 M0 D1=>RG.bx M0 I I fun c2 B1 P0 E1=>RG.nl [.bool false,vN] P0 fun d2 C1 b0 F1=>Aa<|Aj<|Ae<|Bm 0 I<|Bf I ((b0.memA .t2) 0 _ I)<|Bm 0 I<|Bf I ((b0.memA .t1) 0 _ I)<|Ab (FV.eqlB (a:=a0.fc) (b:=a1.fc) underlying4 I I)<|Aa<|MX.ifb I h (fun J0 h=>?_) (fun J0 h=>?_)
 refine Aj<|du 8 fun c0 j0=>Rv 0 c0 I j0 (fun _=>Bg 0 I)<|Rx 1 384 c0 I j0 (Bp I ((b0.memA .t2) 0 _ I))<|Rv 2 c0 I j0 (fun _=>Bg 1 I)<|Rx 3 448 c0 I j0 (Bp I ((b0.memA .t2) 1 _ I))<|Rv 4 c0 I j0 (fun _=>Bg 1 I)<|Rx 5 448 c0 I j0 (Bp I ((b0.memA .t1) 1 _ I))<|bk h fun y2 q1 h=>AX 6 127 c0 I .plain (bd 183) I (e2 I I) (fun w9 hw9=>bH_c n (b0.hL hL hw9) (b0.km h0_1 hw9) (b0.km h1_1 hw9) q1) I fun g2 U1 Y0 ⟨P1,hu_,j1⟩=>?_
 subst hu_
 obtain ⟨z0,G1⟩:=b0.agr Y0
 refine bk h fun F0 s1 h=>AX 7 255 c0 I .plain (bd 178) I (e2 I I) (fun w9 hw9=>ab_c n (z0.hL hL hw9) (Af j1 hw9) s1) I fun j2 V1 Z0 ⟨v0,hu_,C0⟩=>?_
 subst hu_
 obtain ⟨Q0,H1⟩:=z0.agr Z0
 refine BB 8 511 c0 I I .plain (AC (news:=[.bool F0.fc,v0]) Q0 .hd I I I I I I (o2 I (Ay C0))) fun k2 s0 V0=>AK (dk c0)<|Ar I<|Au hb0 func154 I (.cons (.many (cs:=[.bool F0.fc,v0]) I I (s0.memA .hd)) .nil) I ?_
 cases h
 exact ⟨s0.ag,fun w9 hw9=>⟨v0,I,s0.kd (Ag C0 V0) hw9⟩⟩
 refine Aq<|Aj<|Ae<|Bm 1 I<|Bf I ((b0.memA .t2) 1 _ I)<|Bm 1 I<|Bf I ((b0.memA .t1) 1 _ I)<|bk h fun G0 u1 h=>Bd (vI G0) (bd 175) I (e2 I I) (fun w9 hw9=>aV_c n (b0.hL0 hL hw9) (b0.k0 h0_1 hw9) (b0.k0 h1_1 hw9) u1) I<|Ab (FV.geq (i:=G0) (j:=0) I I)<|Aa<|AV I h (fun K0 h=>?_) (fun K0 h=>?_)
 refine Aj<|du 8 fun d0 p0=>Rv 0 d0 I p0 (fun _=>Bg 0 I)<|Rx 1 384 d0 I p0 (Bp I ((b0.memA .t2) 0 _ I))<|Rv 2 d0 I p0 (fun _=>Bg 1 I)<|Rx 3 448 d0 I p0 (Bp I ((b0.memA .t2) 1 _ I))<|Rv 4 d0 I p0 (fun _=>Bg 1 I)<|Rx 5 448 d0 I p0 (Bp I ((b0.memA .t1) 1 _ I))<|bk h fun z2 v1 h=>AX 6 127 d0 I .plain (bd 176) I (e2 I I) (fun w9 hw9=>av_c n (b0.hL hL hw9) (b0.km h0_1 hw9) (b0.km h1_1 hw9) v1) I fun p2 W1 b1 ⟨Q1,hu_,k1⟩=>?_
 subst hu_
 obtain ⟨A0,I1⟩:=b0.agr b1
 refine bk h fun H0 x1 h=>AX 7 255 d0 I .plain (bd 178) I (e2 I I) (fun w9 hw9=>ab_c n (A0.hL hL hw9) (Af k1 hw9) x1) I fun q2 X1 c1 ⟨x0,hu_,D0⟩=>?_
 subst hu_
 obtain ⟨R0,J1⟩:=A0.agr c1
 refine BB 8 511 d0 I I .plain (AC (news:=[.bool H0.fc,x0]) R0 .hd I I I I I I (o2 I (Ay D0))) fun s2 t0 W0=>AK (dk d0)<|Ar I<|Au hb0 func154 I (.cons (.many (cs:=[.bool H0.fc,x0]) I I (t0.memA .hd)) .nil) I ?_
 cases h
 exact ⟨t0.ag,fun w9 hw9=>⟨x0,I,t0.kd (Ag D0 W0) hw9⟩⟩
 refine Aq<|Aj<|du 8 fun g0 q0=>Rv 0 g0 I q0 (fun _=>Bg 0 I)<|Rx 1 384 g0 I q0 (Bp I ((b0.memA .t1) 0 _ I))<|Rv 2 g0 I q0 (fun _=>Bg 1 I)<|Rx 3 448 g0 I q0 (Bp I ((b0.memA .t1) 1 _ I))<|Rv 4 g0 I q0 (fun _=>Bg 1 I)<|Rx 5 448 g0 I q0 (Bp I ((b0.memA .t2) 1 _ I))<|bk h fun A2 y1 h=>AX 6 127 g0 I .plain (bd 176) I (e2 I I) (fun w9 hw9=>av_c n (b0.hL hL hw9) (b0.km h1_1 hw9) (b0.km h0_1 hw9) y1) I fun u2 Y1 d1 ⟨R1,hu_,p1⟩=>?_
 subst hu_
 obtain ⟨B0,K1⟩:=b0.agr d1
 refine bk h fun I0 z1 h=>AX 7 255 g0 I .plain (bd 178) I (e2 I I) (fun w9 hw9=>ab_c n (B0.hL hL hw9) (Af p1 hw9) z1) I fun v2 Z1 g1 ⟨y0,hu_,E0⟩=>?_
 subst hu_
 obtain ⟨U0,M1⟩:=B0.agr g1
 refine BB 8 511 g0 I I .plain (AC (news:=[.bool I0.fc,y0]) U0 .hd I I I I I I (o2 I (Ay E0))) fun x2 u0 X0=>AK (dk g0)<|Ar I<|Au hb0 func154 I (.cons (.many (cs:=[.bool I0.fc,y0]) I I (u0.memA .hd)) .nil) I ?_
 cases h
 exact ⟨u0.ag,fun w9 hw9=>⟨y0,I,u0.kd (Ag E0 X0) hw9⟩⟩
def ca_p (n:Nat) (a0:Te) (a1:Te):Oa Te:=
  (bN_p n a1).bind fun b0=>(bB_p n a0 b0).bind fun c0=>some c0
theorem ca_c (n:Nat) {L w} (hL:hl L w) (a0:Te) {v0_1:Vc} (h0_1:Rep.R w L [v0_1] a0.fD) (a1:Te) {v1_1:Vc} (h1_1:Rep.R w L [v1_1] a1.fD)  {r:Te} (h:ca_p n a0 a1 = some r) :
 Cl 185 #[.agg #[.bool a0.fc,v0_1],.agg #[.bool a1.fc,v1_1]] w (aj w fun w' u=>∃ v0_1:Vc,u = .agg #[.bool r.fc,v0_1]/\Rep.R w' L [v0_1] r.fD):=by
 unfold ca_p at h
 refine AM func185 I I I fun _ cs0 hb0=>Ae<|RG.bx (AL w) I I fun R0 D0 s0 G0=>RG.bx s0 I I fun U0 E0 t0 H0=>RG.nl [.bool false,vN] t0 fun V0 F0 c0 I0=>Aa<|Aj<|du 4 fun b0 p0=>Rx 0 24 b0 I p0 (Az I (c0.memA .t2))<|Rx 1 28 b0 I p0 (Az I (c0.memA .t1))<|bk h fun C0 A0 h=>AX 2 7 b0 I .plain (bd 158) I (e1 I) (fun w9 hw9=>bN_c n (c0.hL hL hw9) a1 (c0.km h1_1 hw9) A0) I fun W0 P0 x0 ⟨M0,hu_,z0⟩=>?_
 subst hu_
 obtain ⟨d0,J0⟩:=c0.agr x0
 refine bk h fun q0 B0 h=>AX 3 15 b0 I .plain (bd 154) I (e2 I I) (fun w9 hw9=>bB_c n (d0.hL hL hw9) a0 (d0.km h0_1 hw9) C0 (Af z0 hw9) B0) I fun X0 Q0 y0 ⟨j0,hu_,k0⟩=>?_
 subst hu_
 obtain ⟨u0,K0⟩:=d0.agr y0
 refine BB 4 31 b0 I I .plain (AC (news:=[.bool q0.fc,j0]) u0 .hd I I I I I I (o2 I (Ay k0))) fun Y0 g0 v0=>AK (dk b0)<|Ar I<|Au hb0 func185 I (.cons (.many (cs:=[.bool q0.fc,j0]) I I (g0.memA .hd)) .nil) I ?_
 cases h
 exact ⟨g0.ag,fun w9 hw9=>⟨j0,I,g0.kd (Ag k0 v0) hw9⟩⟩
def bI_p (n:Nat) (a0:Te) (a1:Te):Oa (Te × Te):=
  (aF_p n a0.fD a1.fD).bind fun g0=>(ab_p n (!(a0.fc == a1.fc)) g0.1).bind fun b0=>(ab_p n a0.fc g0.2).bind fun c0=>(if c0.fc = true then (bB_p n c0 (⟨false,a1.fD⟩:Te)).bind fun d0=>(if a1.fc = true then (bc_p n (1:Int)).bind fun j0=>(bB_p n b0 j0).bind fun k0=>some (k0,d0) else (bc_p n (1:Int)).bind fun p0=>(ca_p n b0 p0).bind fun q0=>some (q0,d0)) else some (b0,c0))
theorem bI_c (n:Nat) {L w} (hL:hl L w) (a0:Te) {v0_1:Vc} (h0_1:Rep.R w L [v0_1] a0.fD) (a1:Te) {v1_1:Vc} (h1_1:Rep.R w L [v1_1] a1.fD)  {r:Te × Te} (h:bI_p n a0 a1 = some r) :
 Cl 177 #[.agg #[.bool a0.fc,v0_1],.agg #[.bool a1.fc,v1_1]] w (aj w fun w' u=>∃ v0_1 v1_1:Vc,u = .tuple #[.agg #[.bool r.1.fc,v0_1],.agg #[.bool r.2.fc,v1_1]]/\Rep.R w' L [v0_1] r.1.fD/\Rep.R w' L [v1_1] r.2.fD):=by
 unfold bI_p at h
 refine AM func177 I I I fun _ cs0 hb0=>Ae<|RG.bx (AL w) I I fun k6 H5 Q3 J5=>RG.bx Q3 I I fun p6 c2 R3 K5=>RG.nl [.bool false,vN] R3 fun z6 G0 Y3 P5=>RG.nl [.bool false,vN] Y3 fun A6 H0 z1 Q5=>Aa<|Ae<|Bm 1 I<|Bf I ((z1.memA .t3) 1 _ I)<|Bm 1 I<|Bf I ((z1.memA .t2) 1 _ I)<|bk h fun P6 v5 h=>jE (bd 184) I (e2 I I) (fun w9 hw9=>aF_c n (z1.hL hL hw9) (z1.km h0_1 hw9) (z1.km h1_1 hw9) v5) I fun B6 g6 b5 ⟨W5,X5,hu_,R1,B0⟩=>?_
 subst hu_
 obtain ⟨Z0,R5⟩:=z1.agr b5
 refine Ac I<|Ab (Ai I I)<|Ab (Ai I I)<|Ah I<|Ah I<|Aa<|Aj<|du 13 fun b0 V0=>Rv 0 b0 I V0 (fun _=>Bg 0 I)<|Rx 1 25680 b0 I V0 (Bp I ((Z0.memA .t3) 0 _ I))<|Rv 2 b0 I V0 (fun _=>Bg 0 I)<|Rx 3 25680 b0 I V0 (Bp I ((Z0.memA .t2) 0 _ I))<|Rv 4 b0 I V0 (fun _=>FV.neqB (a:=a0.fc) (b:=a1.fc) underlying4 I I)<|Rv 5 b0 I V0 (fun _=>Al I)<|Rv 7 b0 I V0 (fun _=>Bg 0 I)<|Rx 8 25600 b0 I V0 (Bp I ((Z0.memA .t3) 0 _ I))<|Rv 9 b0 I V0 (fun _=>Al I)<|bk h fun Y0 U1 h=>bk h fun y1 D0 h=>RD.mf (α:=Vc × Vc × Nat × Nat) (fun ⟨E0,M0,k1,p1⟩=>[(3,vP c2),(4,vP G0),(5,vP H0),(24,.agg #[.bool Y0.fc,E0]),(28,.agg #[.bool y1.fc,M0]),(8,vP p1),(9,vP k1)]) (fun ⟨E0,M0,k1,p1⟩=>[.cells k1 [.bool false,vN] 142,.cells p1 [.bool false,vN] 142,.cells H0 [.bool false,vN] 142,.cells G0 [.bool false,vN] 142,.cells c2 [.bool a1.fc,v1_1] 142]) (fun ⟨E0,M0,k1,p1⟩ J2=>Rep.R J2 (bl [.cells k1 [.bool false,vN] 142,.cells p1 [.bool false,vN] 142,.cells H0 [.bool false,vN] 142,.cells G0 [.bool false,vN] 142,.cells c2 [.bool a1.fc,v1_1] 142] ++ L) [E0] Y0.fD/\Rep.R J2 (bl [.cells k1 [.bool false,vN] 142,.cells p1 [.bool false,vN] 142,.cells H0 [.bool false,vN] 142,.cells G0 [.bool false,vN] 142,.cells c2 [.bool a1.fc,v1_1] 142] ++ L) [M0] y1.fD) Z0 2 8191 ?_ ?_
 rintro ⟨E0,M0,k1,p1⟩ J2 U3 M5 ⟨C1,s2⟩
 try dsimp only
 refine BB 13 16383 b0 I I .plain (AC (news:=[.bool Y0.fc,E0]) U3 .t1 I I I I I I (o2 I (Ay C1))) fun q6 V3 s1=>BB 14 32767 b0 I I .plain (AC (news:=[.bool y1.fc,M0]) V3 .hd I I I I I I (o2 I (Ay (Ag s2 s1)))) fun s6 x0 A1=>AK (dk b0)<|Aj<|Ae<|Bm 0 I<|Bf I ((x0.memA .hd) 0 _ I)<|Aa<|MX.ifb I h (fun M3 h=>?_) (fun M3 h=>?_)
 refine Ae<|Ab (Az I (x0.memA .hd))<|Bm 1 I<|Bf I ((x0.memA .t4) 1 _ I) ?_
 obtain ⟨G5,I5,q5,_⟩:=Bl (AH h1_1 x0)
 refine Ab (AS (vs:=[v1_1]) (u:=.agg #[.bool false,v1_1]) (e1 I) (fun w9=>by rw [q5]; try kernel_rfl))<|bk h fun x1 s5 h=>jE (bd 154) I (e2 I I) (fun w9 hw9=>bB_c n (x0.hL hL hw9) y1 (Af (Ag s2 (Tt s1 A1)) hw9) (⟨false,a1.fD⟩:Te) (x0.km h1_1 hw9) s5) I fun t6 Y5 V4 ⟨W0,hu_,Q1⟩=>?_
 subst hu_
 obtain ⟨W3,U2⟩:=x0.agr V4
 refine AQ [.bool x1.fc,W0] W3 .hd (o2 I (Ay Q1)) fun u6 q1 B1=>Aa<|Ae<|Bm 0 I<|Bf I ((q1.memA .t4) 0 _ I)<|Aa<|MX.ifb I h (fun P3 h=>?_) (fun P3 h=>?_)
 refine du 3 fun V1 z5=>Rx 0 12 V1 I z5 (Az I (q1.memA .t1))<|bk h fun E5 t5 h=>AX 1 3 V1 I .plain (bd 149) I (e1 I) (fun w9 hw9=>bc_c n (q1.hL hL hw9)  t5) I fun v6 Z5 W4 ⟨U5,hu_,k5⟩=>?_
 subst hu_
 obtain ⟨Q2,z2⟩:=q1.agr W4
 refine bk h fun Z1 u5 h=>AX 2 7 V1 I .plain (bd 154) I (e2 I I) (fun w9 hw9=>bB_c n (Q2.hL hL hw9) Y0 (Af (Ag C1 (Tt s1 (Tt A1 (Tt U2 (Tt B1 z2))))) hw9) E5 (Af k5 hw9) u5) I fun x6 b6 X4 ⟨E1,hu_,u2⟩=>?_
 subst hu_
 obtain ⟨X3,V2⟩:=Q2.agr X4
 refine BB 3 15 V1 I I .plain (AC (news:=[.bool Z1.fc,E1]) X3 .t1 I I I I I I (o2 I (Ay u2))) fun y6 H1 p2=>AK (dk V1)<|Aj<|du 2 fun b1 I3=>Rx 0 12 b1 I I3 (Az I (H1.memA .t1))<|RD.mo (α:=Unit) (fun ()=>[(4,vP G0),(5,vP H0),(45,.agg #[.bool x1.fc,W0])]) (fun ()=>[.cells H0 [.bool false,vN] 142,.cells G0 [.bool Z1.fc,E1] 142]) H1 1 7 ?_ ?_
 rintro ⟨⟩ J6 Z3 W2
 try dsimp only
 refine BB 3 15 b1 I I .plain (AC (news:=[.bool x1.fc,W0]) Z3 .hd I I I I I I (o2 I (Ay (Ag Q1 (Tt B1 (Tt z2 (Tt V2 (Tt p2 W2)))))))) fun C6 I1 H4=>AK (dk b1)<|Ar I<|Au hb0 func177 I (.cons (.many (cs:=[.bool Z1.fc,E1]) I I (I1.memA .t1)) (.cons (.many (cs:=[.bool x1.fc,W0]) I I (I1.memA .hd)) .nil)) I ?_
 cases h
 have v3:=Tt p2 (Tt W2 H4)
 exact ⟨I1.ag,fun w9 hw9=>⟨E1,W0,I,I1.kd (Ag u2 v3) hw9,I1.kd (Ag Q1 (Tt B1 (Tt z2 (Tt V2 v3)))) hw9⟩⟩
 intro K2
 refine BJ [1,2] (rk b1) ⟨?_,?_,trivial⟩
 refine BV (m' :=3) (sk b1) I .plain I (Az I (H1.memA .hd)) ?_
 have d5:=Ag u2 p2
 refine BB 2 7 b1 I I .plain (AC (news:=[.bool Z1.fc,E1]) H1 .t3 I I I I I I (o2 I (Ay d5))) fun B5 d2 A2=>?_
 obtain ⟨b4,I4⟩:=AB d2 (.a2 (.a2 .done))
 exact K2 () b4 (Tt A2 I4)
 refine RO.now (m' :=5) (sk b1) I I .plain (AC (news:=[.bool Z1.fc,E1]) H1 .t3 I I I I I I (o2 I (Ay (Ag u2 p2)))) fun B5 d2 A2=>Rx 1 8 b1 I I3 (Az I (d2.memA .hd)) ?_
 obtain ⟨c4,J4⟩:=AB d2 (.a2 (.a2 .done))
 exact K2 () c4 (Tt A2 J4)
 refine du 3 fun W1 A5=>Rx 0 12 W1 I A5 (Az I (q1.memA .t1))<|bk h fun F5 x5 h=>AX 1 3 W1 I .plain (bd 149) I (e1 I) (fun w9 hw9=>bc_c n (q1.hL hL hw9)  x5) I fun D6 c6 Y4 ⟨V5,hu_,p5⟩=>?_
 subst hu_
 obtain ⟨R2,B2⟩:=q1.agr Y4
 refine bk h fun b2 y5 h=>AX 2 7 W1 I .plain (bd 185) I (e2 I I) (fun w9 hw9=>ca_c n (R2.hL hL hw9) Y0 (Af (Ag C1 (Tt s1 (Tt A1 (Tt U2 (Tt B1 B2))))) hw9) F5 (Af p5 hw9) y5) I fun E6 d6 Z4 ⟨F1,hu_,v2⟩=>?_
 subst hu_
 obtain ⟨d4,X2⟩:=R2.agr Z4
 refine BB 3 15 W1 I I .plain (AC (news:=[.bool b2.fc,F1]) d4 .t1 I I I I I I (o2 I (Ay v2))) fun F6 J1 q2=>AK (dk W1)<|Aj<|du 2 fun c1 J3=>Rx 0 12 c1 I J3 (Az I (J1.memA .t1))<|RD.mo (α:=Unit) (fun ()=>[(4,vP G0),(5,vP H0),(45,.agg #[.bool x1.fc,W0])]) (fun ()=>[.cells H0 [.bool false,vN] 142,.cells G0 [.bool b2.fc,F1] 142]) J1 1 7 ?_ ?_
 rintro ⟨⟩ K6 g4 Y2
 try dsimp only
 refine BB 3 15 c1 I I .plain (AC (news:=[.bool x1.fc,W0]) g4 .hd I I I I I I (o2 I (Ay (Ag Q1 (Tt B1 (Tt B2 (Tt X2 (Tt q2 Y2)))))))) fun H6 K1 K4=>AK (dk c1)<|Ar I<|Au hb0 func177 I (.cons (.many (cs:=[.bool b2.fc,F1]) I I (K1.memA .t1)) (.cons (.many (cs:=[.bool x1.fc,W0]) I I (K1.memA .hd)) .nil)) I ?_
 cases h
 have x3:=Tt q2 (Tt Y2 K4)
 exact ⟨K1.ag,fun w9 hw9=>⟨F1,W0,I,K1.kd (Ag v2 x3) hw9,K1.kd (Ag Q1 (Tt B1 (Tt B2 (Tt X2 x3)))) hw9⟩⟩
 intro M2
 refine BJ [1,2] (rk c1) ⟨?_,?_,trivial⟩
 refine BV (m' :=3) (sk c1) I .plain I (Az I (J1.memA .hd)) ?_
 have g5:=Ag v2 q2
 refine BB 2 7 c1 I I .plain (AC (news:=[.bool b2.fc,F1]) J1 .t3 I I I I I I (o2 I (Ay g5))) fun C5 j2 C2=>?_
 obtain ⟨j4,M4⟩:=AB j2 (.a2 (.a2 .done))
 exact M2 () j4 (Tt C2 M4)
 refine RO.now (m' :=5) (sk c1) I I .plain (AC (news:=[.bool b2.fc,F1]) J1 .t3 I I I I I I (o2 I (Ay (Ag v2 q2)))) fun C5 j2 C2=>Rx 1 8 c1 I J3 (Az I (j2.memA .hd)) ?_
 obtain ⟨k4,P4⟩:=AB j2 (.a2 (.a2 .done))
 exact M2 () k4 (Tt C2 P4)
 refine Aq<|Aj<|du 2 fun d1 K3=>Rx 0 12 d1 I K3 (Az I (x0.memA .t1))<|RD.mo (α:=Unit) (fun ()=>[(4,vP G0),(5,vP H0),(45,.agg #[.bool y1.fc,M0])]) (fun ()=>[.cells H0 [.bool false,vN] 142,.cells G0 [.bool Y0.fc,E0] 142]) x0 1 7 ?_ ?_
 rintro ⟨⟩ M6 p4 Q4
 try dsimp only
 have G2:=Tt s1 (Tt A1 Q4)
 refine BB 3 15 d1 I I .plain (AC (news:=[.bool y1.fc,M0]) p4 .hd I I I I I I (o2 I (Ay (Ag s2 G2)))) fun I6 M1 Z2=>AK (dk d1)<|Ar I<|Au hb0 func177 I (.cons (.many (cs:=[.bool Y0.fc,E0]) I I (M1.memA .t1)) (.cons (.many (cs:=[.bool y1.fc,M0]) I I (M1.memA .hd)) .nil)) I ?_
 cases h
 exact ⟨M1.ag,fun w9 hw9=>⟨E0,M0,I,M1.kd (Ag C1 (Tt G2 Z2)) hw9,M1.kd (Ag s2 (Tt G2 Z2)) hw9⟩⟩
 intro P2
 refine BJ [1,2] (rk d1) ⟨?_,?_,trivial⟩
 refine BV (m' :=3) (sk d1) I .plain I (Az I (x0.memA .hd)) ?_
 have j5:=Ag C1 (Tt s1 A1)
 refine BB 2 7 d1 I I .plain (AC (news:=[.bool Y0.fc,E0]) x0 .t3 I I I I I I (o2 I (Ay j5))) fun D5 k2 D2=>?_
 obtain ⟨q4,R4⟩:=AB k2 (.a2 (.a2 .done))
 exact P2 () q4 (Tt D2 R4)
 refine RO.now (m' :=5) (sk d1) I I .plain (AC (news:=[.bool Y0.fc,E0]) x0 .t3 I I I I I I (o2 I (Ay (Ag C1 (Tt s1 A1))))) fun D5 k2 D2=>Rx 1 8 d1 I K3 (Az I (k2.memA .hd)) ?_
 obtain ⟨s4,U4⟩:=AB k2 (.a2 (.a2 .done))
 exact P2 () s4 (Tt D2 U4)
 intro v0
 refine BJ [6,11,12] (rk b0) ⟨?_,?_,?_,trivial⟩
 refine BX (m' :=1023) (fst:=[]) (cap:=[]) (sk b0) I .plain (bd 178) I (e2 I I) (fun w9 hw9=>ab_c n (Z0.hL hL hw9) (Af R1 hw9) U1) I fun G6 j6 c5 ⟨G1,hu_,D1⟩=>?_
 subst hu_
 obtain ⟨g2,z0⟩:=Z0.agr c5
 refine BJ [10,11,12] (rk b0) ⟨?_,?_,?_,trivial⟩
 have v1:=Ag B0 z0
 refine BX (m' :=2047) (fst:=[]) (cap:=[]) (sk b0) I .plain (bd 178) I (e2 I I) (fun w9 hw9=>ab_c n (g2.hL hL hw9) (Af v1 hw9) D0) I fun y2 x2 Q0 ⟨P0,hu_,K0⟩=>?_
 subst hu_
 obtain ⟨I0,J0⟩:=g2.agr Q0
 refine BJ [11,12] (rk b0) ⟨?_,?_,trivial⟩
 refine RO.new (m' :=4095) (sk b0) I .plain I (Aw [.bool false,vN] I0) fun j1 p0 j0 d0=>RD.nu 12 8191 b0 I .plain I (Aw [.bool false,vN] j0) fun g1 k0 g0 c0=>?_
 obtain ⟨u4,b3⟩:=AB g0 (.a0 (.a0 (.a0 (.a0 (.a0 .done)))))
 have y3:=Tt J0 (Tt d0 (Tt c0 b3))
 exact v0 (G1,P0,k0,p0) u4 (Tt z0 y3) ⟨(Ag D1 y3),(Ag K0 (Tt d0 (Tt c0 b3)))⟩
 refine RO.new (m' :=6143) (sk b0) I .plain I (Aw [.bool false,vN] I0) fun g1 k0 g0 c0=>RD.nu 11 8191 b0 I .plain I (Aw [.bool false,vN] g0) fun j1 p0 j0 d0=>?_
 obtain ⟨v4,c3⟩:=AB j0 (.a1 (.a0 (.a0 (.a0 (.a0 .done)))))
 have z3:=Tt J0 (Tt c0 (Tt d0 c3))
 exact v0 (G1,P0,k0,p0) v4 (Tt z0 z3) ⟨(Ag D1 z3),(Ag K0 (Tt c0 (Tt d0 c3)))⟩
 refine RO.new (m' :=3071) (sk b0) I .plain I (Aw [.bool false,vN] g2) fun j1 p0 j0 d0=>BJ [10,12] (rk b0) ⟨?_,?_,trivial⟩
 have v1:=Ag B0 (Tt z0 d0)
 refine BX (m' :=4095) (fst:=[]) (cap:=[]) (sk b0) I .plain (bd 178) I (e2 I I) (fun w9 hw9=>ab_c n (j0.hL hL hw9) (Af v1 hw9) D0) I fun y2 x2 Q0 ⟨P0,hu_,K0⟩=>?_
 subst hu_
 obtain ⟨I0,J0⟩:=j0.agr Q0
 refine RD.nu 12 8191 b0 I .plain I (Aw [.bool false,vN] I0) fun g1 k0 g0 c0=>?_
 obtain ⟨x4,d3⟩:=AB g0 (.a0 (.a0 (.a0 (.a0 (.a0 .done)))))
 have A3:=Tt d0 (Tt J0 (Tt c0 d3))
 exact v0 (G1,P0,k0,p0) x4 (Tt z0 A3) ⟨(Ag D1 A3),(Ag K0 (Tt c0 d3))⟩
 refine RO.new (m' :=7167) (sk b0) I .plain I (Aw [.bool false,vN] j0) fun g1 k0 g0 c0=>?_
 have u0:=Tt z0 (Tt d0 c0)
 have R0:=Ag B0 u0
 refine AX 10 8191 b0 I .plain (bd 178) I (e2 I I) (fun w9 hw9=>ab_c n (g0.hL hL hw9) (Af R0 hw9) D0) I fun Y1 X1 A0 ⟨F0,hu_,C0⟩=>?_
 subst hu_
 obtain ⟨y0,t0⟩:=g0.agr A0
 obtain ⟨y4,g3⟩:=AB y0 (.a0 (.a0 (.a0 (.a0 (.a0 .done)))))
 have B3:=Tt d0 (Tt c0 (Tt t0 g3))
 exact v0 (G1,F0,k0,p0) y4 (Tt z0 B3) ⟨(Ag D1 B3),(Ag C0 g3)⟩
 refine RO.new (m' :=5119) (sk b0) I .plain I (Aw [.bool false,vN] g2) fun g1 k0 g0 c0=>BJ [10,11] (rk b0) ⟨?_,?_,trivial⟩
 have v1:=Ag B0 (Tt z0 c0)
 refine BX (m' :=6143) (fst:=[]) (cap:=[]) (sk b0) I .plain (bd 178) I (e2 I I) (fun w9 hw9=>ab_c n (g0.hL hL hw9) (Af v1 hw9) D0) I fun y2 x2 Q0 ⟨P0,hu_,K0⟩=>?_
 subst hu_
 obtain ⟨I0,J0⟩:=g0.agr Q0
 refine RD.nu 11 8191 b0 I .plain I (Aw [.bool false,vN] I0) fun j1 p0 j0 d0=>?_
 obtain ⟨z4,j3⟩:=AB j0 (.a1 (.a0 (.a0 (.a0 (.a0 .done)))))
 have C3:=Tt c0 (Tt J0 (Tt d0 j3))
 exact v0 (G1,P0,k0,p0) z4 (Tt z0 C3) ⟨(Ag D1 C3),(Ag K0 (Tt d0 j3))⟩
 refine RO.new (m' :=7167) (sk b0) I .plain I (Aw [.bool false,vN] g0) fun j1 p0 j0 d0=>?_
 have u0:=Tt z0 (Tt c0 d0)
 have R0:=Ag B0 u0
 refine AX 10 8191 b0 I .plain (bd 178) I (e2 I I) (fun w9 hw9=>ab_c n (j0.hL hL hw9) (Af R0 hw9) D0) I fun Y1 X1 A0 ⟨F0,hu_,C0⟩=>?_
 subst hu_
 obtain ⟨y0,t0⟩:=j0.agr A0
 obtain ⟨A4,k3⟩:=AB y0 (.a1 (.a0 (.a0 (.a0 (.a0 .done)))))
 have D3:=Tt c0 (Tt d0 (Tt t0 k3))
 exact v0 (G1,F0,k0,p0) A4 (Tt z0 D3) ⟨(Ag D1 D3),(Ag C0 k3)⟩
 refine RO.new (m' :=3007) (sk b0) I .plain I (Aw [.bool false,vN] Z0) fun j1 p0 j0 d0=>BJ [6,12] (rk b0) ⟨?_,?_,trivial⟩
 have P1:=Ag R1 d0
 refine BX (m' :=3071) (fst:=[]) (cap:=[]) (sk b0) I .plain (bd 178) I (e2 I I) (fun w9 hw9=>ab_c n (j0.hL hL hw9) (Af P1 hw9) U1) I fun I2 H2 u1 ⟨X0,hu_,U0⟩=>?_
 subst hu_
 obtain ⟨q0,s0⟩:=j0.agr u1
 refine BJ [10,12] (rk b0) ⟨?_,?_,trivial⟩
 have v1:=Ag B0 (Tt d0 s0)
 refine BX (m' :=4095) (fst:=[]) (cap:=[]) (sk b0) I .plain (bd 178) I (e2 I I) (fun w9 hw9=>ab_c n (q0.hL hL hw9) (Af v1 hw9) D0) I fun y2 x2 Q0 ⟨P0,hu_,K0⟩=>?_
 subst hu_
 obtain ⟨I0,J0⟩:=q0.agr Q0
 refine RD.nu 12 8191 b0 I .plain I (Aw [.bool false,vN] I0) fun g1 k0 g0 c0=>?_
 obtain ⟨B4,p3⟩:=AB g0 (.a0 (.a0 (.a0 (.a0 (.a0 .done)))))
 have E3:=Tt J0 (Tt c0 p3)
 exact v0 (X0,P0,k0,p0) B4 (Tt d0 (Tt s0 E3)) ⟨(Ag U0 E3),(Ag K0 (Tt c0 p3))⟩
 refine RO.new (m' :=7167) (sk b0) I .plain I (Aw [.bool false,vN] q0) fun g1 k0 g0 c0=>?_
 have u0:=Tt d0 (Tt s0 c0)
 have R0:=Ag B0 u0
 refine AX 10 8191 b0 I .plain (bd 178) I (e2 I I) (fun w9 hw9=>ab_c n (g0.hL hL hw9) (Af R0 hw9) D0) I fun Y1 X1 A0 ⟨F0,hu_,C0⟩=>?_
 subst hu_
 obtain ⟨y0,t0⟩:=g0.agr A0
 obtain ⟨C4,q3⟩:=AB y0 (.a0 (.a0 (.a0 (.a0 (.a0 .done)))))
 have F3:=Tt c0 (Tt t0 q3)
 exact v0 (X0,F0,k0,p0) C4 (Tt d0 (Tt s0 F3)) ⟨(Ag U0 F3),(Ag C0 q3)⟩
 refine RO.new (m' :=7103) (sk b0) I .plain I (Aw [.bool false,vN] j0) fun g1 k0 g0 c0=>?_
 have P1:=Ag R1 (Tt d0 c0)
 refine AX 6 7167 b0 I .plain (bd 178) I (e2 I I) (fun w9 hw9=>ab_c n (g0.hL hL hw9) (Af P1 hw9) U1) I fun I2 H2 u1 ⟨X0,hu_,U0⟩=>?_
 subst hu_
 obtain ⟨q0,s0⟩:=g0.agr u1
 have u0:=Tt d0 (Tt c0 s0)
 have R0:=Ag B0 u0
 refine AX 10 8191 b0 I .plain (bd 178) I (e2 I I) (fun w9 hw9=>ab_c n (q0.hL hL hw9) (Af R0 hw9) D0) I fun Y1 X1 A0 ⟨F0,hu_,C0⟩=>?_
 subst hu_
 obtain ⟨y0,t0⟩:=q0.agr A0
 obtain ⟨D4,E2⟩:=AB y0 (.a0 (.a0 (.a0 (.a0 (.a0 .done)))))
 exact v0 (X0,F0,k0,p0) D4 (Tt u0 (Tt t0 E2)) ⟨(Ag U0 (Tt t0 E2)),(Ag C0 E2)⟩
 refine RO.new (m' :=5055) (sk b0) I .plain I (Aw [.bool false,vN] Z0) fun g1 k0 g0 c0=>BJ [6,11] (rk b0) ⟨?_,?_,trivial⟩
 have P1:=Ag R1 c0
 refine BX (m' :=5119) (fst:=[]) (cap:=[]) (sk b0) I .plain (bd 178) I (e2 I I) (fun w9 hw9=>ab_c n (g0.hL hL hw9) (Af P1 hw9) U1) I fun I2 H2 u1 ⟨X0,hu_,U0⟩=>?_
 subst hu_
 obtain ⟨q0,s0⟩:=g0.agr u1
 refine BJ [10,11] (rk b0) ⟨?_,?_,trivial⟩
 refine BX (m' :=6143) (fst:=[]) (cap:=[]) (sk b0) I .plain (bd 178) I (e2 I I) (fun w9 hw9=>ab_c n (q0.hL hL hw9) (Af (Ag B0 (Tt c0 s0)) hw9) D0) I fun y2 x2 Q0 ⟨P0,hu_,K0⟩=>?_
 subst hu_
 obtain ⟨I0,J0⟩:=q0.agr Q0
 refine RD.nu 11 8191 b0 I .plain I (Aw [.bool false,vN] I0) fun j1 p0 j0 d0=>?_
 obtain ⟨E4,s3⟩:=AB j0 (.a1 (.a0 (.a0 (.a0 (.a0 .done)))))
 have G3:=Tt J0 (Tt d0 s3)
 exact v0 (X0,P0,k0,p0) E4 (Tt c0 (Tt s0 G3)) ⟨(Ag U0 G3),(Ag K0 (Tt d0 s3))⟩
 refine RO.new (m' :=7167) (sk b0) I .plain I (Aw [.bool false,vN] q0) fun j1 p0 j0 d0=>?_
 have u0:=Tt c0 (Tt s0 d0)
 have R0:=Ag B0 u0
 refine AX 10 8191 b0 I .plain (bd 178) I (e2 I I) (fun w9 hw9=>ab_c n (j0.hL hL hw9) (Af R0 hw9) D0) I fun Y1 X1 A0 ⟨F0,hu_,C0⟩=>?_
 subst hu_
 obtain ⟨y0,t0⟩:=j0.agr A0
 obtain ⟨F4,u3⟩:=AB y0 (.a1 (.a0 (.a0 (.a0 (.a0 .done)))))
 have H3:=Tt d0 (Tt t0 u3)
 exact v0 (X0,F0,k0,p0) F4 (Tt c0 (Tt s0 H3)) ⟨(Ag U0 H3),(Ag C0 u3)⟩
 refine RO.new (m' :=7103) (sk b0) I .plain I (Aw [.bool false,vN] g0) fun j1 p0 j0 d0=>AX 6 7167 b0 I .plain (bd 178) I (e2 I I) (fun w9 hw9=>ab_c n (j0.hL hL hw9) (Af (Ag R1 (Tt c0 d0)) hw9) U1) I fun I2 H2 u1 ⟨X0,hu_,U0⟩=>?_
 subst hu_
 obtain ⟨q0,s0⟩:=j0.agr u1
 have u0:=Tt c0 (Tt d0 s0)
 refine AX 10 8191 b0 I .plain (bd 178) I (e2 I I) (fun w9 hw9=>ab_c n (q0.hL hL hw9) (Af (Ag B0 u0) hw9) D0) I fun Y1 X1 A0 ⟨F0,hu_,C0⟩=>?_
 subst hu_
 obtain ⟨y0,t0⟩:=q0.agr A0
 obtain ⟨G4,F2⟩:=AB y0 (.a1 (.a0 (.a0 (.a0 (.a0 .done)))))
 exact v0 (X0,F0,k0,p0) G4 (Tt u0 (Tt t0 F2)) ⟨(Ag U0 (Tt t0 F2)),(Ag C0 F2)⟩
def bg_p (n:Nat) (a0:Te) (a1:Te):Oa Tf:=
  (aY_p n a0 a1).bind fun b0=>jn (fun (d0,g0)=>(bI_p n a0 (⟨d0,g0⟩:Te)).bind fun k0=>(bI_p n a1 (⟨d0,g0⟩:Te)).bind fun p0=>some (⟨k0.1,p0.1⟩:Tf)) (fun c0=>(if a1.fc = true then (bN_p n b0).bind fun j0=>c0 (j0.fc,j0.fD) else c0 (b0.fc,b0.fD)))
theorem bg_c (n:Nat) {L w} (hL:hl L w) (a0:Te) {v0_1:Vc} (h0_1:Rep.R w L [v0_1] a0.fD) (a1:Te) {v1_1:Vc} (h1_1:Rep.R w L [v1_1] a1.fD)  {r:Tf} (h:bg_p n a0 a1 = some r) :
 Cl 148 #[.agg #[.bool a0.fc,v0_1],.agg #[.bool a1.fc,v1_1]] w (aj w fun w' u=>∃ v0_1 v0_3:Vc,u = .agg #[.bool r.fN.fc,v0_1,.bool r.fD.fc,v0_3]/\Rep.R w' L [v0_1] r.fN.fD/\Rep.R w' L [v0_3] r.fD.fD):=by
 unfold bg_p at h
 refine AM func148 I I I fun _ cs0 hb0=>Ae<|RG.bx (AL w) I I fun M2 y0 z1 B2=>RG.bx z1 I I fun X2 z0 C1 C2=>RG.nl [.bool false,vN,.bool false,vN] C1 fun Y2 A0 g0 D2=>Aa<|Ae<|Ab (Az I (g0.memA .t2))<|Ab (Az I (g0.memA .t1))<|bk h fun x0 c2 h=>jE (bd 157) I (e2 I I) (fun w9 hw9=>aY_c n (g0.hL hL hw9) a0 (g0.km h0_1 hw9) a1 (g0.km h1_1 hw9) c2) I fun Z2 H2 R1 ⟨q1,hu_,M0⟩=>?_
 subst hu_
 obtain ⟨D1,E2⟩:=g0.agr R1
 refine RG.nl [.bool false,vN] D1 fun b3 B0 E1 G0=>AQ [.bool x0.fc,q1] E1 .hd (o2 I (Ay (Ag M0 G0))) fun c3 j0 X0=>Aa<|Aj<|Ae<|Bm 0 I<|Bf I ((j0.memA .t2) 0 _ I)<|Aa<|MX.jf (α:=Bool × (Lb Int) × Vc) (fun ⟨b0,c0,d0⟩=>[(2,vP y0),(3,vP z0),(4,vP A0),(5,vP B0)]) (fun ⟨b0,c0,d0⟩=>[.cells B0 [.bool b0,d0] 142,.cells A0 [.bool false,vN,.bool false,vN] 144,.cells z0 [.bool a1.fc,v1_1] 142,.cells y0 [.bool a0.fc,v0_1] 142]) (fun ⟨b0,c0,d0⟩ s1=>Rep.R s1 (bl [.cells B0 [.bool b0,d0] 142,.cells A0 [.bool false,vN,.bool false,vN] 144,.cells z0 [.bool a1.fc,v1_1] 142,.cells y0 [.bool a0.fc,v0_1] 142] ++ L) [d0] c0) (fun ⟨b0,c0,d0⟩=>(b0,c0)) j0 h ?_ ?_
 rintro ⟨b0,c0,d0⟩ s1 t0 F2 k1 h
 try dsimp only at h
 refine Ae<|Ab (Az I (t0.memA .t3))<|Ab (Az I (t0.memA .hd))<|bk h fun q0 d2 h=>jE (bd 177) I (e2 I I) (fun w9 hw9=>bI_c n (t0.hL hL hw9) a0 (t0.km h0_1 hw9) (⟨b0,c0⟩:Te) (Af k1 hw9) d2) I fun d3 I2 U1 ⟨p0,k2,hu_,P0,X1⟩=>?_
 subst hu_
 obtain ⟨F1,P1⟩:=t0.agr U1
 refine Ac I<|Ab (Ai I I)<|Ab (Ai I I)<|RG.nl [.bool false,vN] F1 fun g3 x2 G1 H0=>RG.nl [.bool false,vN] G1 fun j3 y2 H1 I0=>AQ [.bool q0.1.fc,p0] H1 .t1 (o2 I (Ay (Ag P0 (Tt H0 I0)))) fun k3 I1 Y0=>?_
 have g1:=Tt H0 (Tt I0 Y0)
 refine AQ [.bool q0.2.fc,k2] I1 .hd (o2 I (Ay (Ag X1 g1))) fun p3 u0 Z0=>Aa<|Ae<|Ab (Az I (u0.memA .t4))<|Ab (Az I (u0.memA .t2))<|bk h fun s0 g2 h=>jE (bd 177) I (e2 I I) (fun w9 hw9=>bI_c n (u0.hL hL hw9) a1 (u0.km h1_1 hw9) (⟨b0,c0⟩:Te) (Af (Ag k1 (Tt P1 (Tt H0 (Tt I0 (Tt Y0 Z0))))) hw9) g2) I fun q3 J2 V1 ⟨k0,j2,hu_,K0,W1⟩=>?_
 subst hu_
 obtain ⟨J1,K1⟩:=u0.agr V1
 refine Ac I<|Ab (Ai I I)<|Ab (Ai I I)<|RG.nl [.bool false,vN] J1 fun K2 u2 v1 D0=>RG.nl [.bool false,vN] v1 fun P2 v2 x1 E0=>AQ [.bool s0.1.fc,k0] x1 .t1 (o2 I (Ay (Ag K0 (Tt D0 E0)))) fun Q2 y1 U0=>?_
 have J0:=Tt D0 (Tt E0 U0)
 refine AQ [.bool s0.2.fc,j2] y1 .hd (o2 I (Ay (Ag W1 J0))) fun R2 C0 F0=>Aa<|Ae<|Ab (Az I (C0.memA .t3))<|Ab (Az I (C0.memA .t1)) ?_
 have d1:=Tt g1 (Tt Z0 (Tt K1 (Tt D0 (Tt E0 (Tt U0 F0)))))
 have b1:=Ag P0 d1
 obtain ⟨p2,z2,Y1,_⟩:=Bl b1
 have c1:=Ag K0 (Tt J0 F0)
 obtain ⟨q2,A2,Z1,_⟩:=Bl c1
 refine Ab (AS (vs:=[.agg #[.bool q0.1.fc,p0],.agg #[.bool s0.1.fc,k0]]) (u:=.agg #[.bool q0.1.fc,p0,.bool s0.1.fc,k0]) (e2 I I) (fun w9=>by rw [Y1,Z1]; try kernel_rfl))<|AQ [.bool q0.1.fc,p0,.bool s0.1.fc,k0] C0 .t5 (o4 I (Ay b1) I (Ay c1)) fun U2 v0 V0=>Aa<|Ar I<|Au hb0 func148 I (.cons (.many (cs:=[.bool q0.1.fc,p0,.bool s0.1.fc,k0]) I I (v0.memA .t5)) .nil) I ?_
 cases h
 exact ⟨v0.ag,fun w9 hw9=>⟨p0,k0,I,v0.kd (Ag P0 (Tt d1 V0)) hw9,v0.kd (Ag K0 (Tt J0 (Tt F0 V0))) hw9⟩⟩
 intro s2 R0 h
 try dsimp only at h
 refine MX.ifb I h (fun u1 h=>?_) (fun u1 h=>?_)
 refine Am<|Ab (Az I (j0.memA .hd))<|bk h fun Q0 b2 h=>jE (bd 158) I (e1 I) (fun w9 hw9=>bN_c n (j0.hL hL hw9) x0 (Af (Ag M0 (Tt G0 X0)) hw9) b2) I fun V2 G2 Q1 ⟨p1,hu_,j1⟩=>?_
 subst hu_
 obtain ⟨A1,M1⟩:=j0.agr Q1
 refine AQ [.bool Q0.fc,p1] A1 .hd (o2 I (Ay j1)) fun W2 B1 W0=>Aa<|R0 (Q0.fc,Q0.fD,p1) B1 (Tt M1 W0) (Ag j1 W0) h
 refine Aq<|R0 (x0.fc,x0.fD,q1) j0 (BM _ _) (Ag M0 (Tt G0 X0)) h
def bf_p (n:Nat) (a0:Int) (a1:Int):Oa Tf:=
  (bc_p n a0).bind fun b0=>(bc_p n a1).bind fun c0=>(bg_p n b0 c0).bind fun d0=>some d0
theorem bf_c (n:Nat) {L w} (hL:hl L w) {a0:Int} {a1:Int}  {r:Tf} (h:bf_p n a0 a1 = some r) :
 Cl 97 #[vI a0,vI a1] w (aj w fun w' u=>∃ v0_1 v0_3:Vc,u = .agg #[.bool r.fN.fc,v0_1,.bool r.fD.fc,v0_3]/\Rep.R w' L [v0_1] r.fN.fD/\Rep.R w' L [v0_3] r.fD.fD):=by
 unfold bf_p at h
 refine AM func97 I I I fun _ cs0 hb0=>Ae<|RG.nl [.bool false,vN,.bool false,vN] (AL w) fun V0 H0 j0 I0=>Aa<|Ae<|Ac I<|bk h fun F0 C0 h=>jE (bd 149) I (e1 I) (fun w9 hw9=>bc_c n (j0.hL hL hw9)  C0) I fun W0 Q0 x0 ⟨M0,hu_,A0⟩=>?_
 subst hu_
 obtain ⟨k0,J0⟩:=j0.agr x0
 refine Ac I<|bk h fun G0 D0 h=>jE (bd 149) I (e1 I) (fun w9 hw9=>bc_c n (k0.hL hL hw9)  D0) I fun X0 R0 y0 ⟨P0,hu_,B0⟩=>?_
 subst hu_
 obtain ⟨p0,v0⟩:=k0.agr y0
 refine bk h fun c0 E0 h=>jE (bd 148) I (e2 I I) (fun w9 hw9=>bg_c n (p0.hL hL hw9) F0 (Af (Ag A0 v0) hw9) G0 (Af B0 hw9) E0) I fun Y0 U0 z0 ⟨d0,g0,hu_,s0,t0⟩=>?_
 subst hu_
 obtain ⟨u0,K0⟩:=p0.agr z0
 refine AQ [.bool c0.fN.fc,d0,.bool c0.fD.fc,g0] u0 .hd (o4 I (Ay s0) I (Ay t0)) fun Z0 b0 q0=>Aa<|Ar I<|Au hb0 func97 I (.cons (.many (cs:=[.bool c0.fN.fc,d0,.bool c0.fD.fc,g0]) I I (b0.memA .hd)) .nil) I ?_
 cases h
 exact ⟨b0.ag,fun w9 hw9=>⟨d0,g0,I,b0.kd (Ag s0 q0) hw9,b0.kd (Ag t0 q0) hw9⟩⟩
def cN_p (n:Nat) (a0:Int) (a1:Int):Oa (Tb × Int):=
  (if a1 = 0 then some ((⟨(0,0,0,0,0,0,0,0),(0,0,0,0,0,0,0,0)⟩:Tb),(7:Int)) else (bf_p n a0 a1).bind fun c0=>(ay_p n c0).bind fun b0=>some (b0.1,b0.2))
theorem cN_c (n:Nat) {L w} (hL:hl L w) {a0:Int} {a1:Int}  {r:Tb × Int} (h:cN_p n a0 a1 = some r) :
 Cl 34 #[vI a0,vI a1] w (aj w fun _ u=>u = .tuple #[.agg ((ab r.1)).toArray,vI r.2]):=by
 unfold cN_p at h
 refine AM func34 I I I fun _ cs0 hb0=>Ae<|RG.nl zL (AL w) fun F0 x0 d0 y0=>Ah I<|Aa<|Aj<|Ae<|Ac I<|Ab (FV.eql (i:=a1) (j:=0) I I)<|Aa<|AV I h (fun k0 h=>?_) (fun k0 h=>?_)
 refine Ae<|Ab (AS (vs:=[]) (u:=.agg zM) am (fun w9=>by kernel_rfl))<|AQ zL d0 .hd (ai I) fun G0 g0 z0=>Ah I<|Aa<|Ar I<|Au hb0 func34 I (.cons (.many (cs:=zL) I I (g0.memA .hd)) (.cons (.tmp I) .nil)) I ?_
 cases h
 exact g0.gv
 refine Aq<|Ae<|Ac I<|Ac I<|bk h fun v0 t0 h=>jE (bd 97) I (e2 I I) (fun w9 hw9=>bf_c n (d0.hL hL hw9)  t0) I fun H0 E0 p0 ⟨C0,D0,hu_,q0,s0⟩=>?_
 subst hu_
 obtain ⟨b0,A0⟩:=d0.agr p0
 refine bk h fun c0 u0 h=>Bd (.tuple #[.agg ((ab c0.1)).toArray,vI c0.2]) (bd 96) I (e1 I) (fun w9 hw9=>ay_c n (b0.hL0 hL hw9) v0 (b0.kd q0 hw9) (b0.kd s0 hw9) u0) I<|Ab (Ai I I)<|Ab (Ai I I)<|AQ (ab c0.1) b0 .hd (ai I) fun I0 j0 B0=>Ah I<|Aa<|Ar I<|Au hb0 func34 I (.cons (.many (cs:=(ab c0.1)) I I (j0.memA .hd)) (.cons (.tmp I) .nil)) I ?_
 cases h
 exact j0.gv
structure Tk where
  fc:Bool
  fBits:Lb UInt16
  fo:UInt32
  deriving DecidableEq
instance:Rep Tk:=Rep.via (β:=Bool × (List UInt16) × UInt32) fun x=>(x.fc,x.fBits,x.fo)
def aH_p (_n:Nat) (a0:Tk):Oa Int:=
  (if a0.fc = true then some (-(((a0.fo % (1000001:UInt32)).toNat:Nat):Int)) else some (((a0.fo % (1000001:UInt32)).toNat:Nat):Int))
theorem aH_c (n:Nat) {L w} (_hL:hl L w) (a0:Tk) {v0_1:Vc} (_h0_1:Rep.R w L [v0_1] a0.fBits)  {r:Int} (h:aH_p n a0 = some r) :
 Cl 111 #[.agg #[.bool a0.fc,v0_1,.int .u32 (a0.fo.toNat:Int)]] w (aj w fun _ u=>u = vI r):=by
 unfold aH_p at h
 refine AM func111 I I I fun _ cs0 hb0=>Ae<|RG.bx (AL w) I I fun k0 d0 b0 g0=>Ah I<|Aa<|Ae<|Bm 2 I<|Bf I ((b0.memA .hd) 2 _ I)<|Ab (FV.rem32 (a:=a0.fo) (b:=(1000001:UInt32)) I I (by decide)) ?_
 have j0:=(a0.fo % (1000001:UInt32)).toNat_lt
 refine Ab (FV.convN (i:=(a0.fo % (1000001:UInt32)).toNat) underlying75 underlying3 I (by omega))<|Ah I<|Aa<|Aj<|Ae<|Bm 0 I<|Bf I ((b0.memA .hd) 0 _ I)<|Aa<|MX.ifb I h (fun c0 h=>?_) (fun c0 h=>?_)
 refine Ae<|Ac I<|Ab (FV.negI (i:=(((a0.fo % (1000001:UInt32)).toNat:Nat):Int)) I (by omega))<|Ah I<|Aa<|Ar I<|Bb hb0 func111 I I ?_
 cases h
 exact b0.gv
 refine Aq<|Ae<|Ac I<|Ah I<|Aa<|Ar I<|Bb hb0 func111 I I ?_
 cases h
 exact b0.gv
def aZ_p (n:Nat) (a0:Int):Oa (U8):=
  (bc_p n a0).bind fun b0=>(aD_p n b0).bind fun c0=>some c0.1
theorem aZ_c (n:Nat) {L w} (hL:hl L w) {a0:Int}  {r:U8} (h:aZ_p n a0 = some r) :
 Cl 113 #[vI a0] w (aj w fun _ u=>u = .agg ((ak r)).toArray):=by
 unfold aZ_p at h
 refine AM func113 I I I fun _ cs0 hb0=>Ae<|RG.nl zP (AL w) fun F0 v0 d0 y0=>Aa<|Ae<|Ac I<|bk h fun u0 s0 h=>jE (bd 149) I (e1 I) (fun w9 hw9=>bc_c n (d0.hL hL hw9)  s0) I fun G0 E0 p0 ⟨D0,hu_,q0⟩=>?_
 subst hu_
 obtain ⟨c0,z0⟩:=d0.agr p0
 refine bk h fun b0 t0 h=>Bd (.tuple #[.agg ((ak b0.1)).toArray,vI b0.2]) (bd 147) I (e1 I) (fun w9 hw9=>aD_c n (c0.hL0 hL hw9) u0 (c0.kd q0 hw9) t0) I<|Ac I<|Ab (Ai I I)<|Ab (Ai I I)<|RG.nl zP c0 fun H0 x0 k0 A0=>AQ (ak b0.1) k0 .hd (ai I) fun I0 g0 B0=>Ah I<|Aa<|Ae<|Ab (Az I (g0.memA .hd))<|AQ (ak b0.1) g0 .t1 (ai I) fun w32 j0 C0=>Aa<|Ar I<|Au hb0 func113 I (.cons (.many (cs:=(ak b0.1)) I I (j0.memA .t1)) .nil) I ?_
 cases h
 exact j0.gv
def bv_l1 (_n:Nat) (a0:U8) (g0:Nat × (Lb Int) -> Oa (Lb Int)):Nat × (Lb Int) -> Oa (Lb Int)
  | (b0,c0)=>(if b0 < 8 then (([a0.1,a0.2.1,a0.2.2.1,a0.2.2.2.1,a0.2.2.2.2.1,a0.2.2.2.2.2.1,a0.2.2.2.2.2.2.1,a0.2.2.2.2.2.2.2]:Lb Ua)[b0]?).bind fun d0=>(app c0 ([aB (d0 % (4294967296:Ua)),aB (d0 / (4294967296:Ua))]:Lb Int)).bind fun j0=>g0 (b0 + 1,j0) else some c0)
def bv_p (n:Nat) (a0:U8):Oa (Lb Int):=
  Option.bind (ao (bv_l1 n a0) n (0,([]:Lb Int))) (fun b0=>some b0)
theorem bv_c (n:Nat) {L w} (hL:hl L w) (a0:U8)  {r:Lb Int} (h:bv_p n a0 = some r) :
 Cl 180 #[.agg ((ak a0)).toArray] w (aj w fun w' u=>∃ v0_0:Vc,u = v0_0/\Rep.R w' L [v0_0] r):=by
 unfold bv_p at h
 refine AM func180 I I I fun _ cs0 hb0=>Ae<|RG.bx (AL w) I I fun j1 s0 x0 Z0=>Ah I<|Aa<|Ae<|Ah I<|Aa<|Aj<|Ae<|Ah I<|Aa<|Av ?_
 have y0:=x0.nilRow 3 (Rep.size Int)
 have b1:=BW x0 3 (Rep.size Int)
 obtain ⟨c1,P0,M0⟩:=ap h
 refine BP (α:=Nat × (Lb Int) × Vc × (Lb Vc)) (fun ⟨d0,k0,j0,p0⟩=>[(1,vP s0),(3,j0),(4,vn d0)]) (fun ⟨d0,k0,j0,p0⟩=>[rr w 3 Int j0 k0.length p0,.cells s0 (ak a0) 32]) (fun ⟨d0,k0,j0,p0⟩ C0=>Cells C0 (bl [rr w 3 Int j0 k0.length p0,.cells s0 (ak a0) 32] ++ L) p0 k0) (fun ⟨d0,k0,j0,p0⟩=>(d0,k0)) (0,([]:Lb Int),vN,[]) P0 y0 (AI (cs:=[]) (xs:=([]:Lb Int)) y0 L (AT _ _)) ?_
 rintro W0 ⟨d0,k0,j0,p0⟩ C0 F0 q0 J0 B0 h
 unfold bv_l1 at h
 try dsimp only at h
 refine Aj<|Ae<|Ac I<|Ab (AU (i:=d0) (j:=8) I I)<|Aa<|AV I h (fun D0 h=>?_) (fun D0 h=>?_)
 refine Aq<|Aj<|Av<|du 12 fun c0 g0=>Rv 0 c0 I g0 (fun _=>Al I)<|Rv 1 c0 I g0 (fun _=>Al I)<|bk h fun b0 t0 h=>Rv 2 c0 I g0 (fun _=>AP (m:=1) (k:=d0) (len:=8) I I I I (ce t0 I))<|Rx 3 14384 c0 I g0 (Bp I ((bf (p:=⟨s0,0,none⟩) (cs:=([a0.1,a0.2.1,a0.2.2.1,a0.2.2.2.1,a0.2.2.2.2.1,a0.2.2.2.2.2.1,a0.2.2.2.2.2.2.1,a0.2.2.2.2.2.2.2]:Lb Ua).map (fun z9:Ua=>(vU z9:Vc)) ++ []) (i:=d0) (q0.memA .t1) (bY (fun z9:Ua=>(vU z9:Vc)) t0)) 0 _ I))<|Rv 4 c0 I g0 (fun _=>FV.remU (a:=b0) (b:=(4294967296:Ua)) I I (by decide))<|Rv 5 c0 I g0 (fun _=>FV.convUI (a:=b0 % (4294967296:Ua)) underlying30 underlying3 I)<|Rv 6 c0 I g0 (fun _=>Al I)<|Rv 7 c0 I g0 (fun _=>AP (m:=1) (k:=d0) (len:=8) I I I I (ce t0 I))<|Rx 8 15872 c0 I g0 (Bp I ((bf (p:=⟨s0,0,none⟩) (cs:=([a0.1,a0.2.1,a0.2.2.1,a0.2.2.2.1,a0.2.2.2.2.1,a0.2.2.2.2.2.1,a0.2.2.2.2.2.2.1,a0.2.2.2.2.2.2.2]:Lb Ua).map (fun z9:Ua=>(vU z9:Vc)) ++ []) (i:=d0) (q0.memA .t1) (bY (fun z9:Ua=>(vU z9:Vc)) t0)) 0 _ I))<|Rv 9 c0 I g0 (fun _=>FV.quoU (a:=b0) (b:=(4294967296:Ua)) I I (by decide))<|Rv 10 c0 I g0 (fun _=>FV.convUI (a:=b0 / (4294967296:Ua)) underlying30 underlying3 I)<|RD.nu 11 4095 c0 I .plain I (AW (α:=Int) (xs:=([aB (b0 % (4294967296:Ua)),aB (b0 / (4294967296:Ua))]:Lb Int)) (vs:=[vI (aB (b0 % (4294967296:Ua))),vI (aB (b0 / (4294967296:Ua)))]) (ds' :=[vI (aB (b0 % (4294967296:Ua))),vI (aB (b0 / (4294967296:Ua)))]) I q0 bp I (e2 I I) (by kernel_rfl) I) fun k1 X0 v0 A0=>bk h fun V0 R0 h=>BK (i:=12) (rk c0) (RO.doesL (m' :=8191) (sk c0) I I .plain I (Bn (α:=Int) (ys:=([aB (b0 % (4294967296:Ua)),aB (b0 / (4294967296:Ua))]:Lb Int)) R0 v0 (fun _ _=>.t1) bp I I (AR B0 A0) (BH (α:=Int) v0 .hd (AI (cs:=[vI (aB (b0 % (4294967296:Ua))),vI (aB (b0 / (4294967296:Ua)))]) (xs:=(([aB (b0 % (4294967296:Ua)),aB (b0 / (4294967296:Ua))]:Lb Int):Lb Int)) v0 L (AE (cs:=[vI (aB (b0 % (4294967296:Ua)))]) (ds:=[vI (aB (b0 / (4294967296:Ua)))]) I (AE (cs:=[vI (aB (b0 / (4294967296:Ua)))]) (ds:=[]) I (AT _ _)))))) (fun U0 g1 ⟨E0,G0,I0,K0⟩=>?_))
 refine BK (i:=13) (rk c0) (BV (m' :=16383) (sk c0) I .plain I (Bj I) ?_)
 refine AK (dk c0)<|Ax<|Am<|Ac I<|Ab (Bc (i:=d0) (j:=1) I I (by omega))<|Ah I<|Aa ?_
 obtain ⟨H0,z0⟩:=AB G0 .d1
 exact F0 (d0 + 1,V0,U0,E0) H0 (Tt J0 (Tt A0 (Tt I0 z0))) (AR K0 z0) h
 refine AZ I ?_
 have h:=M0 _ h
 try dsimp only at h
 refine Ae<|Ac I<|Ah I<|Aa<|Ar I ?_
 have u0:=Bu q0 .hd
 have Y0:=Bv q0 .hd
 have Q0:=Bw (α:=Int) (v:=j0) (xs:=k0) u0 L (Bi (α:=Int) q0 .hd B0 hL)
 refine Bb hb0 func180 I I ?_
 cases h
 exact ⟨u0.ag,fun w9 hw9=>⟨j0,I,u0.kd Q0 hw9⟩⟩
def ao_p (n:Nat) (a0:U8):Oa Te:=
  (bv_p n a0).bind fun c0=>(if a0.2.2.2.2.2.2.2 < (9223372036854775808:Ua) then (ab_p n false c0).bind fun g0=>some g0 else (mk 17 (0:Int)).bind fun b0=>(b0[16]?).bind fun _x49=>(put b0 ((16:Nat):Int) (1:Int)).bind fun d0=>(aC_p n c0).bind fun j0=>(av_p n d0 j0).bind fun k0=>(ab_p n true k0).bind fun p0=>some p0)
theorem ao_c (n:Nat) {L w} (hL:hl L w) (a0:U8)  {r:Te} (h:ao_p n a0 = some r) :
 Cl 152 #[.agg ((ak a0)).toArray] w (aj w fun w' u=>∃ v0_1:Vc,u = .agg #[.bool r.fc,v0_1]/\Rep.R w' L [v0_1] r.fD):=by
 unfold ao_p at h
 refine AM func152 I I I fun _ cs0 hb0=>Ae<|RG.bx (AL w) I I fun g2 D1 J0 J1=>RG.nl [.bool false,vN] J0 fun j2 E1 c0 K1=>Aa<|Ae<|Ab (Az I (c0.memA .t1))<|bk h fun A2 u1 h=>jE (bd 180) I (e1 I) (fun w9 hw9=>bv_c n (c0.hL hL hw9) a0 u1) I fun k2 Y1 W0 ⟨V1,hu_,A0⟩=>?_
 subst hu_
 obtain ⟨b0,M1⟩:=c0.agr W0
 refine Ah I<|Aa<|Aj<|Ae<|Ab (AP (m:=1) (k:=7) (len:=8) I I I I (by omega))<|Bf I ((b0.memA .t1) 7 _ I)<|Ab (FV.lssU (a:=a0.2.2.2.2.2.2.2) (b:=(9223372036854775808:Ua)) I I)<|Aa<|AV I h (fun H0 h=>?_) (fun H0 h=>?_)
 refine Ae<|Ac I<|bk h fun D0 v1 h=>jE (bd 178) I (e2 I I) (fun w9 hw9=>ab_c n (b0.hL hL hw9) (Af A0 hw9) v1) I fun p2 Z1 X0 ⟨s0,hu_,B0⟩=>?_
 subst hu_
 obtain ⟨K0,P1⟩:=b0.agr X0
 refine AQ [.bool D0.fc,s0] K0 .hd (o2 I (Ay B0)) fun q2 d0 Q0=>Aa<|Ar I<|Au hb0 func152 I (.cons (.many (cs:=[.bool D0.fc,s0]) I I (d0.memA .hd)) .nil) I ?_
 cases h
 exact ⟨d0.ag,fun w9 hw9=>⟨s0,I,d0.kd (Ag B0 Q0) hw9⟩⟩
 refine Aq<|Ae<|bk h fun z2 q1 h=>RG.doesH .plain I (Does.mkH (α:=Int) (L:=L) q1 b0 bp I (fun _ _=>rfl)) fun A1 s2 ⟨H1,g0,R0,x0⟩=>Ah I<|Aa<|Ae<|Ac I<|bk h fun B1 p1 h=>?_
 obtain ⟨F0,F1,q0,z0,I0,g1,U1⟩:=BS (α:=Int) g0 .hd x0 p1
 obtain ⟨G0,G1,y0⟩:=BC (α:=Int) g0 .hd z0
 obtain rfl:F0 = ⟨G0,0,none⟩:=by rw [y0] at q0; cases q0; rfl
 have d1:I0 = [vI B1]:=g1; subst d1
 refine Ab (Be 1 16 I q0 I I z0)<|bk h fun C1 s1 h=>RG.acts' .plain (Acts.set (α:=Int) (i:=16) s1 g0 y0 (fun _=>.hd) x0 I I I I I I) fun t2 ⟨I1,u0,U0,c1⟩=>Aa<|Ae<|Ac I<|Ac I<|bk h fun B2 x1 h=>jE (bd 181) I (e1 I) (fun w9 hw9=>aC_c n (u0.hL hL hw9) (Af (Ag A0 (Tt R0 U0)) hw9) x1) I fun u2 b2 Y0 ⟨W1,hu_,j1⟩=>?_
 subst hu_
 obtain ⟨j0,V0⟩:=u0.agr Y0
 have k0:=Bu j0 .hd
 refine bk h fun C2 y1 h=>jE (bd 176) I (e2 I I) (fun w9 hw9=>av_c n (k0.hL hL hw9) (Af (Bw (α:=Int) (v:=A1) (xs:=C1) k0 L (Bi (α:=Int) j0 .hd (AR c1 V0) hL)) hw9) (Af (Ag j1 (Bv j0 .hd)) hw9) y1) I fun v2 c2 Z0 ⟨X1,hu_,k1⟩=>?_
 subst hu_
 obtain ⟨v0,Q1⟩:=k0.agr Z0
 refine bk h fun E0 z1 h=>jE (bd 178) I (e2 I I) (fun w9 hw9=>ab_c n (v0.hL hL hw9) (Af k1 hw9) z1) I fun x2 d2 b1 ⟨t0,hu_,C0⟩=>?_
 subst hu_
 obtain ⟨M0,R1⟩:=v0.agr b1
 refine AQ [.bool E0.fc,t0] M0 .hd (o2 I (Ay C0)) fun y2 p0 P0=>Aa<|Ar I<|Au hb0 func152 I (.cons (.many (cs:=[.bool E0.fc,t0]) I I (p0.memA .hd)) .nil) I ?_
 cases h
 exact ⟨p0.ag,fun w9 hw9=>⟨t0,I,p0.kd (Ag C0 P0) hw9⟩⟩
def ci_p (n:Nat) (a0:U8) (a1:U8):Oa (Tb × Int):=
  (if a1 = (0,0,0,0,0,0,0,0) then some ((⟨(0,0,0,0,0,0,0,0),(0,0,0,0,0,0,0,0)⟩:Tb),(7:Int)) else (ao_p n a0).bind fun c0=>(ao_p n a1).bind fun d0=>(bg_p n c0 d0).bind fun g0=>(ay_p n g0).bind fun b0=>some (b0.1,b0.2))
theorem ci_c (n:Nat) {L w} (hL:hl L w) (a0:U8) (a1:U8)  {r:Tb × Int} (h:ci_p n a0 a1 = some r) :
 Cl 155 #[.agg ((ak a0)).toArray,.agg ((ak a1)).toArray] w (aj w fun _ u=>u = .tuple #[.agg ((ab r.1)).toArray,vI r.2]):=by
 unfold ci_p at h
 refine AM func155 I I I fun _ cs0 hb0=>Ae<|RG.bx (AL w) I I fun s1 P0 u0 U0=>RG.bx u0 I I fun u1 Q0 v0 V0=>RG.nl zL v0 fun v1 R0 c0 W0=>Ah I<|Aa<|Aj<|Ae<|Ab (Az I (c0.memA .t1))<|Ab (AS (vs:=[]) (u:=.agg zQ) am (fun w9=>by kernel_rfl))<|Ab (FV.eqlV (v:=.agg ((ak a1)).toArray) (u:=.agg zQ) I I (nj a1 (0,0,0,0,0,0,0,0)))<|Aa<|AV I h (fun t0 h=>?_) (fun t0 h=>?_)
 refine Ae<|Ab (AS (vs:=[]) (u:=.agg zM) am (fun w9=>by kernel_rfl))<|AQ zL c0 .hd (ai I) fun x1 k0 X0=>Ah I<|Aa<|Ar I<|Au hb0 func155 I (.cons (.many (cs:=zL) I I (k0.memA .hd)) (.cons (.tmp I) .nil)) I ?_
 cases h
 exact k0.gv
 refine Aq<|Aj<|du 8 fun b0 d0=>Rx 0 1018 b0 I d0 (Az I (c0.memA .t2))<|Rx 2 1016 b0 I d0 (Az I (c0.memA .t1))<|bk h fun J0 F0 h=>AX 1 7 b0 I .plain (bd 152) I (e1 I) (fun w9 hw9=>ao_c n (c0.hL hL hw9) a0 F0) I fun w32 k1 y0 ⟨c1,hu_,B0⟩=>?_
 subst hu_
 obtain ⟨p0,Y0⟩:=c0.agr y0
 refine bk h fun K0 G0 h=>AX 3 15 b0 I .plain (bd 152) I (e1 I) (fun w9 hw9=>ao_c n (p0.hL hL hw9) a1 G0) I fun y1 p1 z0 ⟨d1,hu_,C0⟩=>?_
 subst hu_
 obtain ⟨q0,x0⟩:=p0.agr z0
 refine bk h fun M0 H0 h=>AX 4 31 b0 I .plain (bd 148) I (e2 I I) (fun w9 hw9=>bg_c n (q0.hL hL hw9) J0 (Af (Ag B0 x0) hw9) K0 (Af C0 hw9) H0) I fun z1 q1 A0 ⟨g1,j1,hu_,D0,E0⟩=>?_
 subst hu_
 obtain ⟨g0,Z0⟩:=q0.agr A0
 refine bk h fun j0 I0 h=>RD.cq 5 63 960 (.tuple #[.agg ((ab j0.1)).toArray,vI j0.2]) b0 I d0 (bd 96) I (e1 I) (fun w9 hw9=>ay_c n (g0.hL0 hL hw9) M0 (g0.kd D0 hw9) (g0.kd E0 hw9) I0) I<|Rv 6 b0 I d0 (fun _=>Ai I I)<|Rv 7 b0 I d0 (fun _=>Ai I I)<|BB 8 511 b0 I I .plain (AC (news:=(ab j0.1)) g0 .hd I I I I I I (ai I)) fun A1 s0 b1=>BK (i:=9) (rk b0) (BV (m' :=1023) (sk b0) I .plain I (Bj I) ?_)
 refine AK (dk b0)<|Ar I<|Au hb0 func155 I (.cons (.many (cs:=(ab j0.1)) I I (s0.memA .hd)) (.cons (.tmp I) .nil)) I ?_
 cases h
 exact s0.gv
def bO_p (n:Nat) (a0:U8) (a1:U8):Oa Tb:=
  (ci_p n a0 a1).bind fun b0=>(if b0.2 = 0 then some b0.1 else (aZ_p n (1:Int)).bind fun c0=>(ci_p n a0 c0).bind fun d0=>some d0.1)
theorem bO_c (n:Nat) {L w} (hL:hl L w) (a0:U8) (a1:U8)  {r:Tb} (h:bO_p n a0 a1 = some r) :
 Cl 112 #[.agg ((ak a0)).toArray,.agg ((ak a1)).toArray] w (aj w fun _ u=>u = .agg ((ab r)).toArray):=by
 unfold bO_p at h
 refine AM func112 I I I fun _ cs0 hb0=>Ae<|RG.bx (AL w) I I fun R0 C0 v0 G0=>RG.bx v0 I I fun U0 D0 x0 H0=>RG.nl zL x0 fun V0 E0 k0 I0=>Aa<|Ae<|Ab (Az I (k0.memA .t2))<|Ab (Az I (k0.memA .t1))<|bk h fun g0 z0 h=>Bd (.tuple #[.agg ((ab g0.1)).toArray,vI g0.2]) (bd 155) I (e2 I I) (fun w9 hw9=>ci_c n (k0.hL0 hL hw9) a0 a1 z0) I<|Ac I<|Ab (Ai I I)<|Ab (Ai I I)<|RG.nl zL k0 fun W0 F0 y0 J0=>AQ (ab g0.1) y0 .hd (ai I) fun X0 c0 K0=>Ah I<|Aa<|Aj<|Ae<|Ac I<|Ab (BA (i:=g0.2) (j:=0) I I)<|Aa<|BI I h (fun u0 h=>?_) (fun u0 h=>?_)
 refine Aq<|Ae<|Ab (Az I (c0.memA .hd))<|AQ (ab g0.1) c0 .t1 (ai I) fun Y0 p0 M0=>Aa<|Ar I<|Au hb0 func112 I (.cons (.many (cs:=(ab g0.1)) I I (p0.memA .t1)) .nil) I ?_
 cases h
 exact p0.gv
 refine du 6 fun b0 d0=>Rx 0 124 b0 I d0 (Az I (c0.memA .t3))<|bk h fun t0 A0 h=>RD.cq 1 3 124 (.agg ((ak t0)).toArray) b0 I d0 (bd 113) I (e1 I) (fun w9 hw9=>aZ_c n (c0.hL0 hL hw9)  A0) I<|bk h fun j0 B0 h=>RD.cq 2 7 120 (.tuple #[.agg ((ab j0.1)).toArray,vI j0.2]) b0 I d0 (bd 155) I (e2 I I) (fun w9 hw9=>ci_c n (c0.hL0 hL hw9) a0 t0 B0) I<|Rv 3 b0 I d0 (fun _=>Al I)<|Rv 4 b0 I d0 (fun _=>Ai I I)<|Rv 5 b0 I d0 (fun _=>Ai I I)<|BB 6 127 b0 I I .plain (AC (news:=(ab j0.1)) c0 .hd I I I I I I (ai I)) fun Z0 q0 P0=>AK (dk b0)<|Ae<|Ab (Az I (q0.memA .hd))<|AQ (ab j0.1) q0 .t1 (ai I) fun b1 s0 Q0=>Aa<|Ar I<|Au hb0 func112 I (.cons (.many (cs:=(ab j0.1)) I I (s0.memA .t1)) .nil) I ?_
 cases h
 exact s0.gv
structure Th where
  fN:Tk
  fD:Tk
  deriving DecidableEq
instance:Rep Th:=Rep.via (β:=Tk × Tk) fun x=>(x.fN,x.fD)
def bz_p (n:Nat) (a0:Th):Oa Tb:=
  (aH_p n a0.fD).bind fun b0=>jn (fun u0=>(aH_p n a0.fN).bind fun p0=>(cg p0 1000).bind fun d0=>(aZ_p n d0).bind fun q0=>(cg u0 24).bind fun g0=>(chk (1 + g0)).bind fun j0=>(aZ_p n j0).bind fun s0=>(bO_p n q0 s0).bind fun t0=>some t0) (fun c0=>(if b0 < 0 then (chk (-b0)).bind fun k0=>c0 k0 else c0 b0))
theorem bz_c (n:Nat) {L w} (hL:hl L w) (a0:Th) {v0_1:Vc} (h0_1:Rep.R w L [v0_1] a0.fN.fBits) {v0_4:Vc} (h0_4:Rep.R w L [v0_4] a0.fD.fBits)  {r:Tb} (h:bz_p n a0 = some r) :
 Cl 42 #[.agg #[.bool a0.fN.fc,v0_1,.int .u32 (a0.fN.fo.toNat:Int),.bool a0.fD.fc,v0_4,.int .u32 (a0.fD.fo.toNat:Int)]] w (aj w fun _ u=>u = .agg ((ab r)).toArray):=by
 unfold bz_p at h
 refine AM func42 I I I fun _ cs0 hb0=>Ae<|RG.bx (AL w) I I fun X0 p0 z0 P0=>RG.nl zL z0 fun Y0 q0 c0 Q0=>Aa<|Ae<|Bm 3 I<|Ab (AN (cs:=[.bool a0.fD.fc,v0_4,.int .u32 (a0.fD.fo.toNat:Int)]) I I (ac (c0.memA .t1) 3 3))<|bk h fun g0 E0 h=>Bd (vI g0) (bd 111) I (e1 I) (fun w9 hw9=>aH_c n (c0.hL0 hL hw9) a0.fD (c0.k0 h0_4 hw9) E0) I<|Ah I<|Aa<|Aj<|Ae<|Ac I<|Ab (FV.lss (i:=g0) (j:=0) I I)<|Aa<|MX.jo (α:=Int) (fun d0=>[(1,vP p0),(2,vP q0),(3,vI d0)]) (fun d0=>[.cells q0 zL 34,.cells p0 [.bool a0.fN.fc,v0_1,.int .u32 (a0.fN.fo.toNat:Int),.bool a0.fD.fc,v0_4,.int .u32 (a0.fD.fo.toNat:Int)] 79]) (fun d0=>d0) c0 h ?_ ?_
 rintro d0 b1 b0 R0 h
 try dsimp only at h
 refine Ae<|Bm 0 I<|Ab (AN (cs:=[.bool a0.fN.fc,v0_1,.int .u32 (a0.fN.fo.toNat:Int)]) I I (ac (b0.memA .t1) 0 3))<|bk h fun u0 F0 h=>Bd (vI u0) (bd 111) I (e1 I) (fun w9 hw9=>aH_c n (b0.hL0 hL hw9) a0.fN (b0.k0 h0_1 hw9) F0) I<|bk h fun V0 A0 h=>Ab (FV.remc (i:=u0) (j:=1000) I I A0)<|bk h fun v0 G0 h=>Bd (.agg ((ak v0)).toArray) (bd 113) I (e1 I) (fun w9 hw9=>aZ_c n (b0.hL0 hL hw9)  G0) I<|Ac I<|bk h fun J0 B0 h=>Ab (FV.remc (i:=d0) (j:=24) I I B0)<|bk h fun W0 C0 h=>Ab (FV.addc (i:=1) (j:=J0) I I C0)<|bk h fun x0 H0 h=>Bd (.agg ((ak x0)).toArray) (bd 113) I (e1 I) (fun w9 hw9=>aZ_c n (b0.hL0 hL hw9)  H0) I<|bk h fun j0 I0 h=>Bd (.agg ((ab j0)).toArray) (bd 112) I (e2 I I) (fun w9 hw9=>bO_c n (b0.hL0 hL hw9) v0 x0 I0) I<|AQ (ab j0) b0 .hd (ai I) fun Z0 t0 U0=>Aa<|Ar I<|Au hb0 func42 I (.cons (.many (cs:=(ab j0)) I I (t0.memA .hd)) .nil) I ?_
 cases h
 exact t0.gv
 intro M0 s0 h
 try dsimp only at h
 refine AV I h (fun y0 h=>?_) (fun y0 h=>?_)
 refine Am<|Ac I<|bk h fun K0 D0 h=>Ab (FV.negc (i:=g0) I D0)<|Ah I<|Aa<|s0 K0 c0 (BM _ _) h
 refine Aq<|s0 g0 c0 (BM _ _) h
def cB_p (_n:Nat) (a0:Te):Oa Bool:=
  (if a0.fD.length = 1 then (a0.fD[0]?).bind fun b0=>(if b0 = 1 then some (!a0.fc) else some false) else some false)
theorem cB_c (n:Nat) {L w} (_hL:hl L w) (a0:Te) {v0_1:Vc} (h0_1:Rep.R w L [v0_1] a0.fD)  {r:Bool} (h:cB_p n a0 = some r) :
 Cl 156 #[.agg #[.bool a0.fc,v0_1]] w (aj w fun _ u=>u = .bool r):=by
 unfold cB_p at h
 refine AM func156 I I I fun _ cs0 hb0=>Ae<|RG.bx (AL w) I I fun C0 y0 b0 A0=>Ah I<|Aa<|Ae<|Bm 1 I<|Bf I ((b0.memA .hd) 1 _ I) ?_
 have c0:=AH h0_1 b0
 have B0:=AY c0
 refine Ab (Ba (xs:=a0.fD) underlying140 I c0)<|Ab (FV.eqlN (i:=a0.fD.length) (j:=1) I I)<|Ac I<|RG.ifd (s:=7) I h (fun g0 h=>?_) (fun g0 h=>?_)
 refine RG.fg 1 I<|AJ (Bp I ((b0.memA .hd) 1 _ I))<|bk h fun d0 v0 h=>?_
 obtain ⟨x0,z0,p0,s0,k0,u0,t0⟩:=Bh c0 v0
 have q0:k0 = [vI d0]:=u0; subst q0
 refine AJ (Be 1 0 I p0 I I s0)<|AJ (Bp I (t0 0 _ I))<|AJ (FV.eql (i:=d0) (j:=1) I I)<|Bk I I<|Ac I<|RG.ifd (s:=14) I h (fun j0 h=>?_) (fun j0 h=>?_)
 refine RG.fg 0 I<|AJ (Bp I ((b0.memA .hd) 0 _ I))<|AJ (Bx I)<|Bk I I<|Ah I<|Aa<|Ar I<|Bb hb0 func156 I I ?_
 cases h
 exact b0.gv
 refine Ap<|Ap<|Ap<|Bs I I<|Ah I<|Aa<|Ar I<|Bb hb0 func156 I I ?_
 cases h
 exact b0.gv
 refine Ap<|Ap<|Ap<|Ap<|Ap<|Bs I I<|Ac I<|Ap<|Ap<|Ap<|Bs I I<|Ah I<|Aa<|Ar I<|Bb hb0 func156 I I ?_
 cases h
 exact b0.gv
def aJ_p (n:Nat) (a0:Tb):Oa Bool:=
  (ao_p n a0.fN).bind fun g0=>(ao_p n a0.fD).bind fun b0=>(if b0.fc = true then some false else (if 0 < b0.fD.length then (aY_p n g0 b0).bind fun c0=>(cB_p n c0).bind fun d0=>some d0 else some false))
theorem aJ_c (n:Nat) {L w} (hL:hl L w) (a0:Tb)  {r:Bool} (h:aJ_p n a0 = some r) :
 Cl 114 #[.agg ((ab a0)).toArray] w (aj w fun _ u=>u = .bool r):=by
 unfold aJ_p at h
 refine AM func114 I I I fun _ cs0 hb0=>Ae<|RG.bx (AL w) I I fun H2 A2 M0 B2=>Ah I<|Aa<|Aj<|du 8 fun b0 V0=>Rv 0 b0 I V0 (fun _=>Bg 0 I)<|Rx 1 804 b0 I V0 (AN (cs:=(ak a0.fN)) I I (ac (M0.memA .hd) 0 8))<|Rv 3 b0 I V0 (fun _=>Bg 8 I)<|Rx 4 800 b0 I V0 (AN (cs:=(ak a0.fD)) I I (ac (M0.memA .hd) 8 8))<|bk h fun Y0 U0 h=>bk h fun P0 C0 h=>RD.mf (α:=Vc × Vc × Nat × Nat) (fun ⟨Q0,R0,J0,K0⟩=>[(7,.agg #[.bool Y0.fc,Q0]),(10,.agg #[.bool P0.fc,R0]),(3,vP K0),(4,vP J0)]) (fun ⟨Q0,R0,J0,K0⟩=>[.cells J0 [.bool false,vN] 142,.cells K0 [.bool false,vN] 142]) (fun ⟨Q0,R0,J0,K0⟩ j1=>Rep.R j1 (bl [.cells J0 [.bool false,vN] 142,.cells K0 [.bool false,vN] 142] ++ L) [Q0] Y0.fD/\Rep.R j1 (bl [.cells J0 [.bool false,vN] 142,.cells K0 [.bool false,vN] 142] ++ L) [R0] P0.fD) M0 2 255 ?_ ?_
 rintro ⟨Q0,R0,J0,K0⟩ j1 V1 C2 ⟨P1,Q1⟩
 try dsimp only
 refine BB 8 511 b0 I I .plain (AC (news:=[.bool Y0.fc,Q0]) V1 .t1 I I I I I I (o2 I (Ay P1))) fun I2 W1 b1=>BB 9 1023 b0 I I .plain (AC (news:=[.bool P0.fc,R0]) W1 .hd I I I I I I (o2 I (Ay (Ag Q1 b1)))) fun J2 G0 k1=>AK (dk b0)<|Ae<|Bm 0 I<|Bf I ((G0.memA .hd) 0 _ I)<|Ab (Bx I)<|Ac I<|BQ (s:=14) I h (fun R1 h=>?_) (fun R1 h=>?_)
 refine Ap<|Ap<|Ap<|Ap<|Bs I I<|Ac I<|Ap<|Ap<|Ap<|Ap<|Bs I I<|Ah I<|Aa<|Ar I<|Bb hb0 func114 I I ?_
 cases h
 exact G0.gv
 refine RG.fg 1 I<|AJ (Bp I ((G0.memA .hd) 1 _ I)) ?_
 have g1:=Ag Q1 (Tt b1 k1)
 have E2:=AY g1
 refine AJ (Ba (xs:=P0.fD) underlying140 I g1)<|AJ (FV.gtrN (i:=P0.fD.length) (j:=0) I I)<|Bk I I<|Ac I<|RG.ifd (s:=20) I h (fun U1 h=>?_) (fun U1 h=>?_)
 refine AJ (Az I (G0.memA .t1))<|AJ (Az I (G0.memA .hd))<|bk h fun y2 v2 h=>AA (fst:=[]) (cap:=[]) (.yes I I) (bd 157) I (e2 I I) (fun w9 hw9=>aY_c n (G0.hL hL hw9) Y0 (Af (Ag P1 (Tt b1 k1)) hw9) P0 (Af g1 hw9) v2) I fun K2 G2 t2 ⟨F2,hu_,u2⟩=>?_
 subst hu_
 obtain ⟨Z0,D2⟩:=G0.agr t2
 refine bk h fun z2 x2 h=>BG (v:=.bool z2) (fst:=[]) (cap:=[]) (.yes I I) (bd 156) I (e1 I) (fun w9 hw9=>cB_c n (Z0.hL0 hL hw9) y2 (Z0.kd u2 hw9) x2) I<|Bk I I<|Ah I<|Aa<|Ar I<|Bb hb0 func114 I I ?_
 cases h
 exact Z0.gv
 refine Ap<|Ap<|Ap<|Ap<|Bs I I<|Ah I<|Aa<|Ar I<|Bb hb0 func114 I I ?_
 cases h
 exact G0.gv
 intro B0
 refine BJ [2,6,7] (rk b0) ⟨?_,?_,?_,trivial⟩
 refine BX (m' :=31) (fst:=[]) (cap:=[]) (sk b0) I .plain (bd 152) I (e1 I) (fun w9 hw9=>ao_c n (M0.hL hL hw9) a0.fN U0) I fun X0 W0 F0 ⟨A0,hu_,z0⟩=>?_
 subst hu_
 obtain ⟨x0,y0⟩:=M0.agr F0
 refine BJ [5,6,7] (rk b0) ⟨?_,?_,?_,trivial⟩
 refine BX (m' :=63) (fst:=[]) (cap:=[]) (sk b0) I .plain (bd 152) I (e1 I) (fun w9 hw9=>ao_c n (x0.hL hL hw9) a0.fD C0) I fun E0 D0 t0 ⟨s0,hu_,q0⟩=>?_
 subst hu_
 obtain ⟨p0,j0⟩:=x0.agr t0
 refine BJ [6,7] (rk b0) ⟨?_,?_,trivial⟩
 refine RO.new (m' :=127) (sk b0) I .plain I (Aw [.bool false,vN] p0) fun I0 v0 d0 k0=>RD.nu 7 255 b0 I .plain I (Aw [.bool false,vN] d0) fun H0 u0 c0 g0=>?_
 obtain ⟨X1,p1⟩:=AB c0 (.a0 (.a0 .done))
 have C1:=Tt j0 (Tt k0 (Tt g0 p1))
 exact B0 (A0,s0,u0,v0) X1 (Tt y0 C1) ⟨(Ag z0 C1),(Ag q0 (Tt k0 (Tt g0 p1)))⟩
 refine RO.new (m' :=191) (sk b0) I .plain I (Aw [.bool false,vN] p0) fun H0 u0 c0 g0=>RD.nu 6 255 b0 I .plain I (Aw [.bool false,vN] c0) fun I0 v0 d0 k0=>?_
 obtain ⟨Y1,q1⟩:=AB d0 (.a1 (.a0 .done))
 have D1:=Tt j0 (Tt g0 (Tt k0 q1))
 exact B0 (A0,s0,u0,v0) Y1 (Tt y0 D1) ⟨(Ag z0 D1),(Ag q0 (Tt g0 (Tt k0 q1)))⟩
 refine RO.new (m' :=95) (sk b0) I .plain I (Aw [.bool false,vN] x0) fun I0 v0 d0 k0=>BJ [5,7] (rk b0) ⟨?_,?_,trivial⟩
 refine BX (m' :=127) (fst:=[]) (cap:=[]) (sk b0) I .plain (bd 152) I (e1 I) (fun w9 hw9=>ao_c n (d0.hL hL hw9) a0.fD C0) I fun E0 D0 t0 ⟨s0,hu_,q0⟩=>?_
 subst hu_
 obtain ⟨p0,j0⟩:=d0.agr t0
 refine RD.nu 7 255 b0 I .plain I (Aw [.bool false,vN] p0) fun H0 u0 c0 g0=>?_
 obtain ⟨Z1,s1⟩:=AB c0 (.a0 (.a0 .done))
 have E1:=Tt k0 (Tt j0 (Tt g0 s1))
 exact B0 (A0,s0,u0,v0) Z1 (Tt y0 E1) ⟨(Ag z0 E1),(Ag q0 (Tt g0 s1))⟩
 refine RO.new (m' :=223) (sk b0) I .plain I (Aw [.bool false,vN] d0) fun H0 u0 c0 g0=>AX 5 255 b0 I .plain (bd 152) I (e1 I) (fun w9 hw9=>ao_c n (c0.hL hL hw9) a0.fD C0) I fun E0 D0 t0 ⟨s0,hu_,q0⟩=>?_
 subst hu_
 obtain ⟨p0,j0⟩:=c0.agr t0
 obtain ⟨b2,u1⟩:=AB p0 (.a0 (.a0 .done))
 have F1:=Tt k0 (Tt g0 (Tt j0 u1))
 exact B0 (A0,s0,u0,v0) b2 (Tt y0 F1) ⟨(Ag z0 F1),(Ag q0 u1)⟩
 refine RO.new (m' :=159) (sk b0) I .plain I (Aw [.bool false,vN] x0) fun H0 u0 c0 g0=>BJ [5,6] (rk b0) ⟨?_,?_,trivial⟩
 refine BX (m' :=191) (fst:=[]) (cap:=[]) (sk b0) I .plain (bd 152) I (e1 I) (fun w9 hw9=>ao_c n (c0.hL hL hw9) a0.fD C0) I fun E0 D0 t0 ⟨s0,hu_,q0⟩=>?_
 subst hu_
 obtain ⟨p0,j0⟩:=c0.agr t0
 refine RD.nu 6 255 b0 I .plain I (Aw [.bool false,vN] p0) fun I0 v0 d0 k0=>?_
 obtain ⟨c2,v1⟩:=AB d0 (.a1 (.a0 .done))
 have G1:=Tt g0 (Tt j0 (Tt k0 v1))
 exact B0 (A0,s0,u0,v0) c2 (Tt y0 G1) ⟨(Ag z0 G1),(Ag q0 (Tt k0 v1))⟩
 refine RO.new (m' :=223) (sk b0) I .plain I (Aw [.bool false,vN] c0) fun I0 v0 d0 k0=>AX 5 255 b0 I .plain (bd 152) I (e1 I) (fun w9 hw9=>ao_c n (d0.hL hL hw9) a0.fD C0) I fun E0 D0 t0 ⟨s0,hu_,q0⟩=>?_
 subst hu_
 obtain ⟨p0,j0⟩:=d0.agr t0
 obtain ⟨d2,x1⟩:=AB p0 (.a1 (.a0 .done))
 have H1:=Tt g0 (Tt k0 (Tt j0 x1))
 exact B0 (A0,s0,u0,v0) d2 (Tt y0 H1) ⟨(Ag z0 H1),(Ag q0 x1)⟩
 refine RO.new (m' :=91) (sk b0) I .plain I (Aw [.bool false,vN] M0) fun I0 v0 d0 k0=>BJ [2,7] (rk b0) ⟨?_,?_,trivial⟩
 refine BX (m' :=95) (fst:=[]) (cap:=[]) (sk b0) I .plain (bd 152) I (e1 I) (fun w9 hw9=>ao_c n (d0.hL hL hw9) a0.fN U0) I fun X0 W0 F0 ⟨A0,hu_,z0⟩=>?_
 subst hu_
 obtain ⟨x0,y0⟩:=d0.agr F0
 refine BJ [5,7] (rk b0) ⟨?_,?_,trivial⟩
 refine BX (m' :=127) (fst:=[]) (cap:=[]) (sk b0) I .plain (bd 152) I (e1 I) (fun w9 hw9=>ao_c n (x0.hL hL hw9) a0.fD C0) I fun E0 D0 t0 ⟨s0,hu_,q0⟩=>?_
 subst hu_
 obtain ⟨p0,j0⟩:=x0.agr t0
 refine RD.nu 7 255 b0 I .plain I (Aw [.bool false,vN] p0) fun H0 u0 c0 g0=>?_
 obtain ⟨g2,y1⟩:=AB c0 (.a0 (.a0 .done))
 have I1:=Tt j0 (Tt g0 y1)
 exact B0 (A0,s0,u0,v0) g2 (Tt k0 (Tt y0 I1)) ⟨(Ag z0 I1),(Ag q0 (Tt g0 y1))⟩
 refine RO.new (m' :=223) (sk b0) I .plain I (Aw [.bool false,vN] x0) fun H0 u0 c0 g0=>AX 5 255 b0 I .plain (bd 152) I (e1 I) (fun w9 hw9=>ao_c n (c0.hL hL hw9) a0.fD C0) I fun E0 D0 t0 ⟨s0,hu_,q0⟩=>?_
 subst hu_
 obtain ⟨p0,j0⟩:=c0.agr t0
 obtain ⟨j2,z1⟩:=AB p0 (.a0 (.a0 .done))
 have J1:=Tt g0 (Tt j0 z1)
 exact B0 (A0,s0,u0,v0) j2 (Tt k0 (Tt y0 J1)) ⟨(Ag z0 J1),(Ag q0 z1)⟩
 refine RO.new (m' :=219) (sk b0) I .plain I (Aw [.bool false,vN] d0) fun H0 u0 c0 g0=>AX 2 223 b0 I .plain (bd 152) I (e1 I) (fun w9 hw9=>ao_c n (c0.hL hL hw9) a0.fN U0) I fun X0 W0 F0 ⟨A0,hu_,z0⟩=>?_
 subst hu_
 obtain ⟨x0,y0⟩:=c0.agr F0
 refine AX 5 255 b0 I .plain (bd 152) I (e1 I) (fun w9 hw9=>ao_c n (x0.hL hL hw9) a0.fD C0) I fun E0 D0 t0 ⟨s0,hu_,q0⟩=>?_
 subst hu_
 obtain ⟨p0,j0⟩:=x0.agr t0
 obtain ⟨k2,c1⟩:=AB p0 (.a0 (.a0 .done))
 exact B0 (A0,s0,u0,v0) k2 (Tt k0 (Tt g0 (Tt y0 (Tt j0 c1)))) ⟨(Ag z0 (Tt j0 c1)),(Ag q0 c1)⟩
 refine RO.new (m' :=155) (sk b0) I .plain I (Aw [.bool false,vN] M0) fun H0 u0 c0 g0=>BJ [2,6] (rk b0) ⟨?_,?_,trivial⟩
 refine BX (m' :=159) (fst:=[]) (cap:=[]) (sk b0) I .plain (bd 152) I (e1 I) (fun w9 hw9=>ao_c n (c0.hL hL hw9) a0.fN U0) I fun X0 W0 F0 ⟨A0,hu_,z0⟩=>?_
 subst hu_
 obtain ⟨x0,y0⟩:=c0.agr F0
 refine BJ [5,6] (rk b0) ⟨?_,?_,trivial⟩
 refine BX (m' :=191) (fst:=[]) (cap:=[]) (sk b0) I .plain (bd 152) I (e1 I) (fun w9 hw9=>ao_c n (x0.hL hL hw9) a0.fD C0) I fun E0 D0 t0 ⟨s0,hu_,q0⟩=>?_
 subst hu_
 obtain ⟨p0,j0⟩:=x0.agr t0
 refine RD.nu 6 255 b0 I .plain I (Aw [.bool false,vN] p0) fun I0 v0 d0 k0=>?_
 obtain ⟨p2,A1⟩:=AB d0 (.a1 (.a0 .done))
 have K1:=Tt j0 (Tt k0 A1)
 exact B0 (A0,s0,u0,v0) p2 (Tt g0 (Tt y0 K1)) ⟨(Ag z0 K1),(Ag q0 (Tt k0 A1))⟩
 refine RO.new (m' :=223) (sk b0) I .plain I (Aw [.bool false,vN] x0) fun I0 v0 d0 k0=>AX 5 255 b0 I .plain (bd 152) I (e1 I) (fun w9 hw9=>ao_c n (d0.hL hL hw9) a0.fD C0) I fun E0 D0 t0 ⟨s0,hu_,q0⟩=>?_
 subst hu_
 obtain ⟨p0,j0⟩:=d0.agr t0
 obtain ⟨q2,B1⟩:=AB p0 (.a1 (.a0 .done))
 have M1:=Tt k0 (Tt j0 B1)
 exact B0 (A0,s0,u0,v0) q2 (Tt g0 (Tt y0 M1)) ⟨(Ag z0 M1),(Ag q0 B1)⟩
 refine RO.new (m' :=219) (sk b0) I .plain I (Aw [.bool false,vN] c0) fun I0 v0 d0 k0=>AX 2 223 b0 I .plain (bd 152) I (e1 I) (fun w9 hw9=>ao_c n (d0.hL hL hw9) a0.fN U0) I fun X0 W0 F0 ⟨A0,hu_,z0⟩=>?_
 subst hu_
 obtain ⟨x0,y0⟩:=d0.agr F0
 refine AX 5 255 b0 I .plain (bd 152) I (e1 I) (fun w9 hw9=>ao_c n (x0.hL hL hw9) a0.fD C0) I fun E0 D0 t0 ⟨s0,hu_,q0⟩=>?_
 subst hu_
 obtain ⟨p0,j0⟩:=x0.agr t0
 obtain ⟨s2,d1⟩:=AB p0 (.a1 (.a0 .done))
 exact B0 (A0,s0,u0,v0) s2 (Tt g0 (Tt k0 (Tt y0 (Tt j0 d1)))) ⟨(Ag z0 (Tt j0 d1)),(Ag q0 d1)⟩
def bw_l1 (n:Nat) (a0:Lb Tb) (c0:Nat -> Oa (Bool ⊕ Unit)):Nat -> Oa (Bool ⊕ Unit)
  | b0=>(if b0 < a0.length then (a0[b0]?).bind fun d0=>(aJ_p n d0).bind fun g0=>(if g0 = true then c0 (b0 + 1) else some (.inl false)) else some (.inr ()))
def bw_p (n:Nat) (a0:Lb Tb):Oa Bool:=
  thn (ao (bw_l1 n a0) n 0) (fun _=>some true)
theorem bw_c (n:Nat) {L w} (hL:hl L w) {a0:Lb Tb} {v0_0:Vc} (h0_0:Rep.R w L [v0_0] a0)  {r:Bool} (h:bw_p n a0 = some r) :
 Cl 102 #[v0_0] w (aj w fun _ u=>u = .bool r):=by
 unfold bw_p at h
 refine AM func102 I I I fun _ cs0 hb0=>Ae<|Ah I<|Aa<|Aj<|Ae<|Ah I<|Aa<|Av<|tn h fun H0 v0 g0=>MX.lo (α:=Nat) (fun b0=>[(0,v0_0),(3,vn b0)]) (fun b0=>[]) (fun b0=>b0) 0 v0 (AL w) ?_
 rintro D0 b0 I0 p0 c0 q0 h
 unfold bw_l1 at h
 try dsimp only at h
 refine Aj<|Ae<|Ac I<|Ac I ?_
 have d0:=AH h0_0 c0
 have G0:=AY d0
 refine Ab (Ba (xs:=a0) underlying51 I d0)<|Ab (AU (i:=b0) (j:=a0.length) I I)<|Aa<|AV I h (fun j0 h=>?_) (fun j0 h=>?_)
 refine Aq<|Aj<|Av<|Ae<|Ac I<|Ac I<|bk h fun A0 y0 h=>?_
 obtain ⟨C0,E0,s0,t0,F0,x0,u0⟩:=Bh d0 y0
 obtain rfl:=dh x0
 refine Ab (Be 16 b0 I s0 I I t0)<|Ab (Az I u0)<|bk h fun B0 z0 h=>Bd (.bool B0) (bd 114) I (e1 I) (fun w9 hw9=>aJ_c n (c0.hL0 hL hw9) A0 z0) I<|Ab (Bx I)<|Aa<|MX.ifnb I h (fun k0 h=>?_) (fun k0 h=>?_)
 refine Aq<|Ax<|Am<|Ac I<|Ab (Bc (i:=b0) (j:=1) I I (by omega))<|Ah I<|Aa<|p0 (b0 + 1) c0 q0 h
 refine Ae<|Ah I<|Aa ?_
 have h:=aH h g0
 refine Ar I<|Bb hb0 func102 I I ?_
 cases h
 exact c0.gv
 refine AZ I ?_
 have h:=bc h g0
 try dsimp only at h
 refine Ae<|Ah I<|Aa<|Ar I<|Bb hb0 func102 I I ?_
 cases h
 exact c0.gv
def aG_p (n:Nat) (a0:Tb):Oa Tf:=
  (ao_p n a0.fN).bind fun b0=>(ao_p n a0.fD).bind fun c0=>some (⟨b0,c0⟩:Tf)
theorem aG_c (n:Nat) {L w} (hL:hl L w) (a0:Tb)  {r:Tf} (h:aG_p n a0 = some r) :
 Cl 104 #[.agg ((ab a0)).toArray] w (aj w fun w' u=>∃ v0_1 v0_3:Vc,u = .agg #[.bool r.fN.fc,v0_1,.bool r.fD.fc,v0_3]/\Rep.R w' L [v0_1] r.fN.fD/\Rep.R w' L [v0_3] r.fD.fD):=by
 unfold aG_p at h
 refine AM func104 I I I fun _ cs0 hb0=>Ae<|RG.bx (AL w) I I fun X0 J0 z0 Q0=>RG.nl [.bool false,vN,.bool false,vN] z0 fun Y0 K0 j0 R0=>Aa<|Aj<|du 7 fun b0 c0=>Rv 0 b0 I c0 (fun _=>Bg 0 I)<|Rx 1 228 b0 I c0 (AN (cs:=(ak a0.fN)) I I (ac (j0.memA .t1) 0 8))<|Rv 3 b0 I c0 (fun _=>Bg 8 I)<|Rx 4 224 b0 I c0 (AN (cs:=(ak a0.fD)) I I (ac (j0.memA .t1) 8 8))<|bk h fun p0 F0 h=>AX 2 31 b0 I .plain (bd 152) I (e1 I) (fun w9 hw9=>ao_c n (j0.hL hL hw9) a0.fN F0) I fun Z0 V0 B0 ⟨d0,hu_,y0⟩=>?_
 subst hu_
 obtain ⟨t0,U0⟩:=j0.agr B0
 refine bk h fun q0 G0 h=>AX 5 63 b0 I .plain (bd 152) I (e1 I) (fun w9 hw9=>ao_c n (t0.hL hL hw9) a0.fD G0) I fun b1 W0 C0 ⟨g0,hu_,s0⟩=>?_
 subst hu_
 obtain ⟨A0,u0⟩:=t0.agr C0
 have x0:=Ag y0 u0
 obtain ⟨H0,M0,D0,_⟩:=Bl x0
 obtain ⟨I0,P0,E0,_⟩:=Bl s0
 refine Rv 6 b0 I c0 (fun _=>AS (vs:=[.agg #[.bool p0.fc,d0],.agg #[.bool q0.fc,g0]]) (u:=.agg #[.bool p0.fc,d0,.bool q0.fc,g0]) (e2 I I) (fun w9=>by rw [D0,E0]; try kernel_rfl))<|BB 7 255 b0 I I .plain (AC (news:=[.bool p0.fc,d0,.bool q0.fc,g0]) A0 .hd I I I I I I (o4 I (Ay x0) I (Ay s0))) fun c1 k0 v0=>AK (dk b0)<|Ar I<|Au hb0 func104 I (.cons (.many (cs:=[.bool p0.fc,d0,.bool q0.fc,g0]) I I (k0.memA .hd)) .nil) I ?_
 cases h
 exact ⟨k0.ag,fun w9 hw9=>⟨d0,g0,I,k0.kd (Ag y0 (Tt u0 v0)) hw9,k0.kd (Ag s0 v0) hw9⟩⟩
def aA_l1 (_n:Nat) (a1:Lb Int) (c0:Nat) (a0:Lb Int) (q0:Ua × Nat × (Lb Int) -> Oa ((Lb Int) × Ua)):Ua × Nat × (Lb Int) -> Oa ((Lb Int) × Ua)
  | (d0,b0,g0)=>(if b0 < a1.length then (g0[c0 + b0]?).bind fun j0=>(a0[c0]?).bind fun k0=>(a1[b0]?).bind fun p0=>(put g0 ((c0 + b0:Nat):Int) (aB (((d0 + (ae j0)) + ((ae k0) * (ae p0))) % (4294967296:Ua)))).bind fun s0=>q0 (((d0 + (ae j0)) + ((ae k0) * (ae p0))) / (4294967296:Ua),b0 + 1,s0) else some (g0,d0))
def aA_l2 (n:Nat) (a0:Lb Int) (a1:Lb Int) (g0:Nat × (Lb Int) -> Oa (Lb Int)):Nat × (Lb Int) -> Oa (Lb Int)
  | (b0,c0)=>(if b0 < a0.length then Option.bind (ao (aA_l1 n a1 b0 a0) n (0,0,c0)) (fun (d0,j0)=>(d0[b0 + a1.length]?).bind fun _x537=>(put d0 ((b0 + a1.length:Nat):Int) (aB j0)).bind fun k0=>g0 (b0 + 1,k0)) else some c0)
def aA_p (n:Nat) (a0:Lb Int) (a1:Lb Int):Oa (Lb Int):=
  (mk ((a0.length + a1.length:Nat):Int) (0:Int)).bind fun b0=>Option.bind (ao (aA_l2 n a0 a1) n (0,b0)) (fun c0=>(aC_p n c0).bind fun d0=>some d0)
theorem aA_c (n:Nat) {L w} (hL:hl L w) {a0:Lb Int} {v0_0:Vc} (h0_0:Rep.R w L [v0_0] a0) {a1:Lb Int} {v1_0:Vc} (h1_0:Rep.R w L [v1_0] a1)  {r:Lb Int} (h:aA_p n a0 a1 = some r) :
 Cl 182 #[v0_0,v1_0] w (aj w fun w' u=>∃ v0_0:Vc,u = v0_0/\Rep.R w' L [v0_0] r):=by
 unfold aA_p at h
 refine AM func182 I I I fun _ cs0 hb0=>Ae<|Ah I<|Aa<|Ae<|Ac I ?_
 have hl1:=AY h0_0
 refine Ab (Ba (xs:=a0) underlying140 I h0_0)<|Ac I ?_
 have hl2:=AY h1_0
 refine Ab (Ba (xs:=a1) underlying140 I h1_0)<|Ab (Bc (i:=a0.length) (j:=a1.length) I I (by omega))<|bk h fun V0 Q0 h=>Ao .plain I (Does.mk (α:=Int) Q0 (AL w) bp I) fun V2 x0 G0 J2=>Ah I<|Aa<|Aj<|Ae<|Ah I<|Aa<|Av ?_
 obtain ⟨Q2,W1,K1⟩:=ap h
 refine BP (α:=Nat × (Lb Int) × (Lb Vc)) (fun ⟨d0,k0,p0⟩=>[(0,v0_0),(1,v1_0),(5,(.slice (some ⟨x0,0,none⟩) ((a0.length + a1.length:Nat):Int).toNat ((a0.length + a1.length:Nat):Int).toNat)),(6,vn d0)]) (fun ⟨d0,k0,p0⟩=>[rr w 3 Int (.slice (some ⟨x0,0,none⟩) ((a0.length + a1.length:Nat):Int).toNat ((a0.length + a1.length:Nat):Int).toNat) k0.length p0]) (fun ⟨d0,k0,p0⟩ R0=>Cells R0 (bl [rr w 3 Int (.slice (some ⟨x0,0,none⟩) ((a0.length + a1.length:Nat):Int).toNat ((a0.length + a1.length:Nat):Int).toNat) k0.length p0] ++ L) p0 k0) (fun ⟨d0,k0,p0⟩=>(d0,k0)) (0,V0,(List.replicate ((a0.length + a1.length:Nat):Int).toNat [vI 0]).flatten) W1 G0 (AI (cs:=(List.replicate ((a0.length + a1.length:Nat):Int).toNat [vI 0]).flatten) (xs:=V0) G0 L (Cells.mk Q0 I)) ?_
 rintro B2 ⟨d0,k0,p0⟩ R0 s1 z0 y1 J0 h
 unfold aA_l2 at h
 try dsimp only at h
 refine Aj<|Ae<|Ac I<|Ac I<|Ab (Ba (xs:=a0) underlying140 I (AH h0_0 z0))<|Ab (AU (i:=d0) (j:=a0.length) I I)<|Aa<|AV I h (fun b1 h=>?_) (fun b1 h=>?_)
 refine Aq<|Aj<|Av<|Ae<|Ah I<|Aa<|Aj<|Ae<|Ah I<|Aa<|Av ?_
 obtain ⟨R2,X1,M1⟩:=ap h
 refine BP (α:=Ua × Nat × (Lb Int) × (Lb Vc)) (fun ⟨j0,g0,v0,y0⟩=>[(0,v0_0),(1,v1_0),(5,(.slice (some ⟨x0,0,none⟩) ((a0.length + a1.length:Nat):Int).toNat ((a0.length + a1.length:Nat):Int).toNat)),(6,vn d0),(7,vU j0),(8,vn g0)]) (fun ⟨j0,g0,v0,y0⟩=>[rr w 3 Int (.slice (some ⟨x0,0,none⟩) ((a0.length + a1.length:Nat):Int).toNat ((a0.length + a1.length:Nat):Int).toNat) v0.length y0]) (fun ⟨j0,g0,v0,y0⟩ U0=>Cells U0 (bl [rr w 3 Int (.slice (some ⟨x0,0,none⟩) ((a0.length + a1.length:Nat):Int).toNat ((a0.length + a1.length:Nat):Int).toNat) v0.length y0] ++ L) y0 v0) (fun ⟨j0,g0,v0,y0⟩=>(j0,g0,v0)) (0,0,k0,p0) X1 z0 J0 ?_
 rintro C2 ⟨j0,g0,v0,y0⟩ U0 u1 q0 I0 A0 h
 unfold aA_l1 at h
 try dsimp only at h
 refine Aj<|Ae<|Ac I<|Ac I ?_
 have F0:=AH h1_0 q0
 refine Ab (Ba (xs:=a1) underlying140 I F0)<|Ab (AU (i:=g0) (j:=a1.length) I I)<|Aa<|AV I h (fun c1 h=>?_) (fun c1 h=>?_)
 refine Aq<|Aj<|Av<|Aj<|du 22 fun b0 c0=>Rv 0 b0 I c0 (fun _=>Al I)<|Rv 1 b0 I c0 (fun _=>Al I)<|Rv 2 b0 I c0 (fun _=>Al I)<|Rv 3 b0 I c0 (fun _=>Al I)<|Rv 4 b0 I c0 (fun _=>Bc (i:=d0) (j:=g0) I I (by omega))<|bk h fun s0 g2 h=>?_
 obtain ⟨W0,D2,B0,E0,d1,Y1,R1⟩:=BS (α:=Int) q0 .hd A0 g2
 obtain ⟨Y0,E2,K0⟩:=BC (α:=Int) q0 .hd E0
 obtain rfl:W0 = ⟨Y0,0,none⟩:=by rw [K0] at B0; cases B0; rfl
 have E1:d1 = [vI s0]:=Y1; subst E1
 refine Rv 5 b0 I c0 (fun _=>Be 1 (d0 + g0) I B0 I I E0)<|Rx 6 3146112 b0 I c0 (Bp I (R1 0 _ I))<|Rv 7 b0 I c0 (fun _=>FV.convU (i:=s0) underlying3 underlying30 I)<|Rv 8 b0 I c0 (fun _=>FV.addU (a:=j0) (b:=ae s0) I I)<|Rv 9 b0 I c0 (fun _=>Al I)<|Rv 10 b0 I c0 (fun _=>Al I)<|bk h fun t0 j2 h=>?_
 obtain ⟨z2,F2,F1,P1,g1,Z1,U1⟩:=Bh (AH h0_0 q0) j2
 have G1:g1 = [vI t0]:=Z1; subst G1
 refine Rv 11 b0 I c0 (fun _=>Be 1 d0 I F1 I I P1)<|Rx 12 3678208 b0 I c0 (Bp I (U1 0 _ I))<|Rv 13 b0 I c0 (fun _=>FV.convU (i:=t0) underlying3 underlying30 I)<|Rv 14 b0 I c0 (fun _=>Al I)<|Rv 15 b0 I c0 (fun _=>Al I)<|bk h fun u0 k2 h=>?_
 obtain ⟨A2,G2,H1,Q1,j1,b2,V1⟩:=Bh F0 k2
 have I1:j1 = [vI u0]:=b2; subst I1
 refine Rv 16 b0 I c0 (fun _=>Be 1 g0 I H1 I I Q1)<|Rx 17 3932160 b0 I c0 (Bp I (V1 0 _ I))<|Rv 18 b0 I c0 (fun _=>FV.convU (i:=u0) underlying3 underlying30 I)<|Rv 19 b0 I c0 (fun _=>FV.mulU (a:=ae t0) (b:=ae u0) I I)<|Rv 20 b0 I c0 (fun _=>FV.addU (a:=j0 + (ae s0)) (b:=(ae t0) * (ae u0)) I I)<|Rv 21 b0 I c0 (fun _=>Bj I)<|AK (dk b0)<|Ae<|Ac I<|Ac I<|Ac I<|Ab (Bc (i:=d0) (j:=g0) I I (by omega))<|Ac I<|Ab (FV.remU (a:=(j0 + (ae s0)) + ((ae t0) * (ae u0))) (b:=(4294967296:Ua)) I I (by decide))<|Ab (FV.convUI (a:=((j0 + (ae s0)) + ((ae t0) * (ae u0))) % (4294967296:Ua)) underlying30 underlying3 I)<|Ab (Be 1 (d0 + g0) I B0 I I E0)<|bk h fun x2 q2 h=>RG.acts' .plain (Acts.set (α:=Int) (i:=d0 + g0) q2 q0 K0 (fun _=>.hd) A0 I I I I I I) fun W2 ⟨k1,v1,z1,C1⟩=>Aa<|Am<|Ac I<|Ab (FV.quoU (a:=(j0 + (ae s0)) + ((ae t0) * (ae u0))) (b:=(4294967296:Ua)) I I (by decide))<|Ah I<|Aa<|Ax<|Am<|Ac I<|Ab (Bc (i:=g0) (j:=1) I I (by omega))<|Ah I<|Aa<|u1 (((j0 + (ae s0)) + ((ae t0) * (ae u0))) / (4294967296:Ua),g0 + 1,x2,k1) v1 (Tt I0 z1) C1 h
 refine AZ I ?_
 have h:=M1 _ h
 try dsimp only at h
 refine Am<|Ac I<|Ac I<|Ac I<|Ab (Ba (xs:=a1) underlying140 I F0)<|Ab (Bc (i:=d0) (j:=a1.length) I I (by omega))<|Ac I<|Ab (FV.convUI (a:=j0) underlying30 underlying3 I)<|bk h fun v2 p2 h=>?_
 obtain ⟨X0,H2,D0,P0,p1,c2,P2⟩:=BS (α:=Int) q0 .hd A0 p2
 obtain ⟨Z0,I2,M0⟩:=BC (α:=Int) q0 .hd P0
 obtain rfl:X0 = ⟨Z0,0,none⟩:=by rw [M0] at D0; cases D0; rfl
 have J1:p1 = [vI v2]:=c2; subst J1
 refine Ab (Be 1 (d0 + a1.length) I D0 I I P0)<|bk h fun y2 s2 h=>RG.acts' .plain (Acts.set (α:=Int) (i:=d0 + a1.length) s2 q0 M0 (fun _=>.hd) A0 I I I I I I) fun X2 ⟨q1,x1,A1,D1⟩=>Aa<|Ax<|Am<|Ac I<|Ab (Bc (i:=d0) (j:=1) I I (by omega))<|Ah I<|Aa<|s1 (d0 + 1,y2,q1) x1 (Tt y1 (Tt I0 A1)) D1 h
 refine AZ I ?_
 have h:=K1 _ h
 try dsimp only at h
 refine Ae<|Ac I ?_
 have C0:=Bu z0 .hd
 have K2:=Bv z0 .hd
 refine bk h fun Z2 t2 h=>jE (bd 181) I (e1 I) (fun w9 hw9=>aC_c n (C0.hL hL hw9) (Af (Bw (α:=Int) (v:=(.slice (some ⟨x0,0,none⟩) ((a0.length + a1.length:Nat):Int).toNat ((a0.length + a1.length:Nat):Int).toNat)) (xs:=k0) C0 L (Bi (α:=Int) z0 .hd J0 hL)) hw9) t2) I fun Y2 u2 B1 ⟨U2,hu_,d2⟩=>?_
 subst hu_
 obtain ⟨H0,M2⟩:=C0.agr B1
 refine Ah I<|Aa<|Ar I<|Bb hb0 func182 I I ?_
 cases h
 exact ⟨H0.ag,fun w9 hw9=>⟨u2,I,H0.kd d2 hw9⟩⟩
def aK_p (n:Nat) (a0:Te) (a1:Te):Oa Te:=
  (aA_p n a0.fD a1.fD).bind fun b0=>(ab_p n (!(a0.fc == a1.fc)) b0).bind fun c0=>some c0
theorem aK_c (n:Nat) {L w} (hL:hl L w) (a0:Te) {v0_1:Vc} (h0_1:Rep.R w L [v0_1] a0.fD) (a1:Te) {v1_1:Vc} (h1_1:Rep.R w L [v1_1] a1.fD)  {r:Te} (h:aK_p n a0 a1 = some r) :
 Cl 153 #[.agg #[.bool a0.fc,v0_1],.agg #[.bool a1.fc,v1_1]] w (aj w fun w' u=>∃ v0_1:Vc,u = .agg #[.bool r.fc,v0_1]/\Rep.R w' L [v0_1] r.fD):=by
 unfold aK_p at h
 refine AM func153 I I I fun _ cs0 hb0=>Ae<|RG.bx (AL w) I I fun Q0 C0 s0 F0=>RG.bx s0 I I fun R0 D0 t0 G0=>RG.nl [.bool false,vN] t0 fun U0 E0 d0 H0=>Aa<|Aj<|du 11 fun b0 c0=>Rv 0 b0 I c0 (fun _=>Bg 0 I)<|Rx 1 3088 b0 I c0 (Bp I ((d0.memA .t2) 0 _ I))<|Rv 2 b0 I c0 (fun _=>Bg 0 I)<|Rx 3 3088 b0 I c0 (Bp I ((d0.memA .t1) 0 _ I))<|Rv 4 b0 I c0 (fun _=>FV.neqB (a:=a0.fc) (b:=a1.fc) underlying4 I I)<|Rv 5 b0 I c0 (fun _=>Bg 1 I)<|Rx 6 3584 b0 I c0 (Bp I ((d0.memA .t2) 1 _ I))<|Rv 7 b0 I c0 (fun _=>Bg 1 I)<|Rx 8 3584 b0 I c0 (Bp I ((d0.memA .t1) 1 _ I))<|bk h fun Y0 A0 h=>AX 9 1023 b0 I .plain (bd 182) I (e2 I I) (fun w9 hw9=>aA_c n (d0.hL hL hw9) (d0.km h0_1 hw9) (d0.km h1_1 hw9) A0) I fun V0 M0 x0 ⟨K0,hu_,z0⟩=>?_
 subst hu_
 obtain ⟨k0,I0⟩:=d0.agr x0
 refine bk h fun q0 B0 h=>AX 10 2047 b0 I .plain (bd 178) I (e2 I I) (fun w9 hw9=>ab_c n (k0.hL hL hw9) (Af z0 hw9) B0) I fun W0 P0 y0 ⟨j0,hu_,p0⟩=>?_
 subst hu_
 obtain ⟨u0,J0⟩:=k0.agr y0
 refine BB 11 4095 b0 I I .plain (AC (news:=[.bool q0.fc,j0]) u0 .hd I I I I I I (o2 I (Ay p0))) fun X0 g0 v0=>AK (dk b0)<|Ar I<|Au hb0 func153 I (.cons (.many (cs:=[.bool q0.fc,j0]) I I (g0.memA .hd)) .nil) I ?_
 cases h
 exact ⟨g0.ag,fun w9 hw9=>⟨j0,I,g0.kd (Ag p0 v0) hw9⟩⟩

def aw_p (n:Nat) (a0:Tf) (a1:Tf):Oa Tf:=
  (aK_p n a0.fN a1.fD).bind fun b0=>(aK_p n a1.fN a0.fD).bind fun c0=>(bB_p n b0 c0).bind fun d0=>(aK_p n a0.fD a1.fD).bind fun g0=>(bg_p n d0 g0).bind fun j0=>some j0
theorem aw_c (n:Nat) {L w} (hL:hl L w) (a0:Tf) {v0_1:Vc} (h0_1:Rep.R w L [v0_1] a0.fN.fD) {v0_3:Vc} (h0_3:Rep.R w L [v0_3] a0.fD.fD) (a1:Tf) {v1_1:Vc} (h1_1:Rep.R w L [v1_1] a1.fN.fD) {v1_3:Vc} (h1_3:Rep.R w L [v1_3] a1.fD.fD)  {r:Tf} (h:aw_p n a0 a1 = some r) :
 Cl 110 #[.agg #[.bool a0.fN.fc,v0_1,.bool a0.fD.fc,v0_3],.agg #[.bool a1.fN.fc,v1_1,.bool a1.fD.fc,v1_3]] w (aj w fun w' u=>∃ v0_1 v0_3:Vc,u = .agg #[.bool r.fN.fc,v0_1,.bool r.fD.fc,v0_3]/\Rep.R w' L [v0_1] r.fN.fD/\Rep.R w' L [v0_3] r.fD.fD):=by
 unfold aw_p at h
 refine AM func110 I I I fun _ cs0 hb0=>Ae<|RG.bx (AL w) I I fun F1 c1 z0 j1=>RG.bx z0 I I fun G1 d1 A0 k1=>RG.nl [.bool false,vN,.bool false,vN] A0 fun H1 g1 d0 p1=>Aa<|Aj<|du 17 fun b0 c0=>Rv 0 b0 I c0 (fun _=>Bg 0 I)<|Rx 1 230928 b0 I c0 (AN (cs:=[.bool a0.fN.fc,v0_1]) I I (ac (d0.memA .t2) 0 2))<|Rv 2 b0 I c0 (fun _=>Bg 2 I)<|Rx 3 230928 b0 I c0 (AN (cs:=[.bool a1.fD.fc,v1_3]) I I (ac (d0.memA .t1) 2 2))<|Rv 5 b0 I c0 (fun _=>Bg 0 I)<|Rx 6 230912 b0 I c0 (AN (cs:=[.bool a1.fN.fc,v1_1]) I I (ac (d0.memA .t1) 0 2))<|Rv 7 b0 I c0 (fun _=>Bg 2 I)<|Rx 8 230912 b0 I c0 (AN (cs:=[.bool a0.fD.fc,v0_3]) I I (ac (d0.memA .t2) 2 2))<|Rv 11 b0 I c0 (fun _=>Bg 2 I)<|Rx 12 229376 b0 I c0 (AN (cs:=[.bool a0.fD.fc,v0_3]) I I (ac (d0.memA .t2) 2 2))<|Rv 13 b0 I c0 (fun _=>Bg 2 I)<|Rx 14 229376 b0 I c0 (AN (cs:=[.bool a1.fD.fc,v1_3]) I I (ac (d0.memA .t1) 2 2))<|bk h fun X0 Q0 h=>AX 4 31231 b0 I .plain (bd 153) I (e2 I I) (fun w9 hw9=>aK_c n (d0.hL hL hw9) a0.fN (d0.km h0_1 hw9) a1.fD (d0.km h1_3 hw9) Q0) I fun I1 A1 E0 ⟨v1,hu_,J0⟩=>?_
 subst hu_
 obtain ⟨g0,q1⟩:=d0.agr E0
 refine bk h fun Y0 R0 h=>AX 9 31743 b0 I .plain (bd 153) I (e2 I I) (fun w9 hw9=>aK_c n (g0.hL hL hw9) a1.fN (g0.km h1_1 hw9) a0.fD (g0.km h0_3 hw9) R0) I fun J1 B1 F0 ⟨x1,hu_,K0⟩=>?_
 subst hu_
 obtain ⟨t0,C0⟩:=g0.agr F0
 refine bk h fun Z0 U0 h=>AX 10 32767 b0 I .plain (bd 154) I (e2 I I) (fun w9 hw9=>bB_c n (t0.hL hL hw9) X0 (Af (Ag J0 C0) hw9) Y0 (Af K0 hw9) U0) I fun K1 C1 G0 ⟨y1,hu_,M0⟩=>?_
 subst hu_
 obtain ⟨j0,s1⟩:=t0.agr G0
 refine bk h fun b1 V0 h=>AX 15 65535 b0 I .plain (bd 153) I (e2 I I) (fun w9 hw9=>aK_c n (j0.hL hL hw9) a0.fD (j0.km h0_3 hw9) a1.fD (j0.km h1_3 hw9) V0) I fun M1 D1 H0 ⟨z1,hu_,P0⟩=>?_
 subst hu_
 obtain ⟨u0,D0⟩:=j0.agr H0
 refine bk h fun p0 W0 h=>AX 16 131071 b0 I .plain (bd 148) I (e2 I I) (fun w9 hw9=>bg_c n (u0.hL hL hw9) Z0 (Af (Ag M0 D0) hw9) b1 (Af P0 hw9) W0) I fun P1 E1 I0 ⟨q0,s0,hu_,x0,y0⟩=>?_
 subst hu_
 obtain ⟨B0,u1⟩:=u0.agr I0
 refine BB 17 262143 b0 I I .plain (AC (news:=[.bool p0.fN.fc,q0,.bool p0.fD.fc,s0]) B0 .hd I I I I I I (o4 I (Ay x0) I (Ay y0))) fun Q1 k0 v0=>AK (dk b0)<|Ar I<|Au hb0 func110 I (.cons (.many (cs:=[.bool p0.fN.fc,q0,.bool p0.fD.fc,s0]) I I (k0.memA .hd)) .nil) I ?_
 cases h
 exact ⟨k0.ag,fun w9 hw9=>⟨q0,s0,I,k0.kd (Ag x0 v0) hw9,k0.kd (Ag y0 v0) hw9⟩⟩
def ck_p (n:Nat) (a0:Te) (a1:Te):Oa Int:=
  (ca_p n a0 a1).bind fun b0=>(if b0.fc = true then some (-1:Int) else (if 0 < b0.fD.length then some (1:Int) else some (0:Int)))
theorem ck_c (n:Nat) {L w} (hL:hl L w) (a0:Te) {v0_1:Vc} (h0_1:Rep.R w L [v0_1] a0.fD) (a1:Te) {v1_1:Vc} (h1_1:Rep.R w L [v1_1] a1.fD)  {r:Int} (h:ck_p n a0 a1 = some r) :
 Cl 159 #[.agg #[.bool a0.fc,v0_1],.agg #[.bool a1.fc,v1_1]] w (aj w fun _ u=>u = vI r):=by
 unfold ck_p at h
 refine AM func159 I I I fun _ cs0 hb0=>Ae<|RG.bx (AL w) I I fun I0 A0 s0 D0=>RG.bx s0 I I fun J0 B0 b0 E0=>Ah I<|Aa<|Ae<|Ab (Az I (b0.memA .t1))<|Ab (Az I (b0.memA .hd))<|bk h fun d0 y0 h=>jE (bd 185) I (e2 I I) (fun w9 hw9=>ca_c n (b0.hL hL hw9) a0 (b0.km h0_1 hw9) a1 (b0.km h1_1 hw9) y0) I fun K0 H0 x0 ⟨z0,hu_,k0⟩=>?_
 subst hu_
 obtain ⟨t0,F0⟩:=b0.agr x0
 refine RG.nl [.bool false,vN] t0 fun M0 C0 u0 g0=>AQ [.bool d0.fc,z0] u0 .hd (o2 I (Ay (Ag k0 g0))) fun P0 c0 v0=>Aa<|Aj<|Ae<|Bm 0 I<|Bf I ((c0.memA .hd) 0 _ I)<|Aa<|MX.ifb I h (fun p0 h=>?_) (fun p0 h=>?_)
 refine Ae<|Ah I<|Aa<|Ar I<|Bb hb0 func159 I I ?_
 cases h
 exact c0.gv
 refine Aq<|Aj<|Ae<|Bm 1 I<|Bf I ((c0.memA .hd) 1 _ I) ?_
 have j0:=Ag k0 (Tt g0 v0)
 have G0:=AY j0
 refine Ab (Ba (xs:=d0.fD) underlying140 I j0)<|Ab (FV.gtrN (i:=d0.fD.length) (j:=0) I I)<|Aa<|AV I h (fun q0 h=>?_) (fun q0 h=>?_)
 refine Ae<|Ah I<|Aa<|Ar I<|Bb hb0 func159 I I ?_
 cases h
 exact c0.gv
 refine Aq<|Ae<|Ah I<|Aa<|Ar I<|Bb hb0 func159 I I ?_
 cases h
 exact c0.gv
def ap_p (n:Nat) (a0:Tf) (a1:Tf):Oa Int:=
  (aK_p n a0.fN a1.fD).bind fun b0=>(aK_p n a1.fN a0.fD).bind fun c0=>(ck_p n b0 c0).bind fun d0=>some d0
theorem ap_c (n:Nat) {L w} (hL:hl L w) (a0:Tf) {v0_1:Vc} (h0_1:Rep.R w L [v0_1] a0.fN.fD) {v0_3:Vc} (h0_3:Rep.R w L [v0_3] a0.fD.fD) (a1:Tf) {v1_1:Vc} (h1_1:Rep.R w L [v1_1] a1.fN.fD) {v1_3:Vc} (h1_3:Rep.R w L [v1_3] a1.fD.fD)  {r:Int} (h:ap_p n a0 a1 = some r) :
 Cl 120 #[.agg #[.bool a0.fN.fc,v0_1,.bool a0.fD.fc,v0_3],.agg #[.bool a1.fN.fc,v1_1,.bool a1.fD.fc,v1_3]] w (aj w fun _ u=>u = vI r):=by
 unfold ap_p at h
 refine AM func120 I I I fun _ cs0 hb0=>Ae<|RG.bx (AL w) I I fun M0 C0 k0 E0=>RG.bx k0 I I fun P0 D0 d0 F0=>Ah I<|Aa<|Aj<|du 12 fun b0 c0=>Rv 0 b0 I c0 (fun _=>Bg 0 I)<|Rx 1 3600 b0 I c0 (AN (cs:=[.bool a0.fN.fc,v0_1]) I I (ac (d0.memA .t1) 0 2))<|Rv 2 b0 I c0 (fun _=>Bg 2 I)<|Rx 3 3600 b0 I c0 (AN (cs:=[.bool a1.fD.fc,v1_3]) I I (ac (d0.memA .hd) 2 2))<|Rv 5 b0 I c0 (fun _=>Bg 0 I)<|Rx 6 3584 b0 I c0 (AN (cs:=[.bool a1.fN.fc,v1_1]) I I (ac (d0.memA .hd) 0 2))<|Rv 7 b0 I c0 (fun _=>Bg 2 I)<|Rx 8 3584 b0 I c0 (AN (cs:=[.bool a0.fD.fc,v0_3]) I I (ac (d0.memA .t1) 2 2))<|bk h fun z0 v0 h=>AX 4 511 b0 I .plain (bd 153) I (e2 I I) (fun w9 hw9=>aK_c n (d0.hL hL hw9) a0.fN (d0.km h0_1 hw9) a1.fD (d0.km h1_3 hw9) v0) I fun Q0 J0 q0 ⟨H0,hu_,t0⟩=>?_
 subst hu_
 obtain ⟨g0,G0⟩:=d0.agr q0
 refine bk h fun A0 x0 h=>AX 9 1023 b0 I .plain (bd 153) I (e2 I I) (fun w9 hw9=>aK_c n (g0.hL hL hw9) a1.fN (g0.km h1_1 hw9) a0.fD (g0.km h0_3 hw9) x0) I fun R0 K0 s0 ⟨I0,hu_,u0⟩=>?_
 subst hu_
 obtain ⟨j0,p0⟩:=g0.agr s0
 refine bk h fun B0 y0 h=>RD.cq 10 2047 2048 (vI B0) b0 I c0 (bd 159) I (e2 I I) (fun w9 hw9=>ck_c n (j0.hL0 hL hw9) z0 (j0.kd (Ag t0 p0) hw9) A0 (j0.kd u0 hw9) y0) I<|Rv 11 b0 I c0 (fun _=>Bj I)<|AK (dk b0)<|Ar I<|Bb hb0 func120 I I ?_
 cases h
 exact j0.gv
structure Tc where
  fm:Tf
  fP:Tf
  deriving DecidableEq
instance:Rep Tc:=Rep.via (β:=Tf × Tf) fun x=>(x.fm,x.fP)
theorem op_Te {w:World} {L:Lb Nat} {cs:Lb Vc} {x:Te} (h:Rep.R w L cs x):∃ v1:Vc,cs = [.bool x.fc,v1]/\Rep.R w L [v1] x.fD:=by
  obtain ⟨c0,r0,rfl,h0,h⟩:=h
  have e0:c0 = [.bool x.fc]:=h0; subst e0
  obtain ⟨v1,rfl,kv1⟩:=cY (xs:=x.fD) h
  exact ⟨v1,I,kv1⟩
theorem mk_Te {w:World} {L:Lb Nat} (a0:Bool) (a1:Lb Int) {u1:Vc} (h1:Rep.R w L [u1] a1):Rep.R w L [.bool a0,u1] (⟨a0,a1⟩:Te):=⟨[.bool a0],[u1],rfl,rfl,h1⟩
theorem op_Tf {w:World} {L:Lb Nat} {cs:Lb Vc} {x:Tf} (h:Rep.R w L cs x):∃ v1 v3:Vc,cs = [.bool x.fN.fc,v1,.bool x.fD.fc,v3]/\Rep.R w L [v1] x.fN.fD/\Rep.R w L [v3] x.fD.fD:=by
  obtain ⟨c0,r0,rfl,h0,h⟩:=h
  obtain ⟨v1,rfl,kv1⟩:=op_Te (x:=x.fN) h0
  obtain ⟨v3,rfl,kv3⟩:=op_Te (x:=x.fD) h
  exact ⟨v1,v3,I,kv1,kv3⟩
theorem mk_Tf {w:World} {L:Lb Nat} (a0:Te) {u1:Vc} (h1:Rep.R w L [u1] a0.fD) (a1:Te) {u3:Vc} (h3:Rep.R w L [u3] a1.fD):Rep.R w L [.bool a0.fc,u1,.bool a1.fc,u3] (⟨a0,a1⟩:Tf):=⟨[.bool a0.fc,u1],[.bool a1.fc,u3],rfl,mk_Te a0.fc a0.fD h1,mk_Te a1.fc a1.fD h3⟩
theorem df {w:World} {L:Lb Nat} {cs:Lb Vc} {x:Tc} (h:Rep.R w L cs x):∃ v1 v3 v5 v7:Vc,cs = [.bool x.fm.fN.fc,v1,.bool x.fm.fD.fc,v3,.bool x.fP.fN.fc,v5,.bool x.fP.fD.fc,v7]/\Rep.R w L [v1] x.fm.fN.fD/\Rep.R w L [v3] x.fm.fD.fD/\Rep.R w L [v5] x.fP.fN.fD/\Rep.R w L [v7] x.fP.fD.fD:=by
  obtain ⟨c0,r0,rfl,h0,h⟩:=h
  obtain ⟨v1,v3,rfl,kv1,kv3⟩:=op_Tf (x:=x.fm) h0
  obtain ⟨v5,v7,rfl,kv5,kv7⟩:=op_Tf (x:=x.fP) h
  exact ⟨v1,v3,v5,v7,I,kv1,kv3,kv5,kv7⟩
theorem jZ {w:World} {L:Lb Nat} (a0:Tf) {u1:Vc} (h1:Rep.R w L [u1] a0.fN.fD) {u3:Vc} (h3:Rep.R w L [u3] a0.fD.fD) (a1:Tf) {u5:Vc} (h5:Rep.R w L [u5] a1.fN.fD) {u7:Vc} (h7:Rep.R w L [u7] a1.fD.fD):Rep.R w L [.bool a0.fN.fc,u1,.bool a0.fD.fc,u3,.bool a1.fN.fc,u5,.bool a1.fD.fc,u7] (⟨a0,a1⟩:Tc):=⟨[.bool a0.fN.fc,u1,.bool a0.fD.fc,u3],[.bool a1.fN.fc,u5,.bool a1.fD.fc,u7],rfl,mk_Tf a0.fN h1 a0.fD h3,mk_Tf a1.fN h5 a1.fD h7⟩
theorem ee:ElT Tryz.prog 150 158 (Rep.size Tc) 128 (.agg #[.bool false,vN,.bool false,vN,.bool false,vN,.bool false,vN]) [.bool false,vN,.bool false,vN,.bool false,vN,.bool false,vN]:=⟨underlying150,by kernel_rfl,rfl,rfl,rfl,rfl⟩
def aO_l1 (n:Nat) (a0:Lb Tc) (a1:Tf) (a2:Tf) (j0:Bool × Nat × (Lb Tc) -> Oa (Bool × (Lb Tc))):Bool × Nat × (Lb Tc) -> Oa (Bool × (Lb Tc))
  | (d0,b0,c0)=>(if b0 < a0.length then (a0[b0]?).bind fun g0=>(ap_p n g0.fm a1).bind fun p0=>(if d0 = true then (app c0 ([g0]:Lb Tc)).bind fun s0=>j0 (d0,b0 + 1,s0) else (if p0 = 0 then (aw_p n g0.fP a2).bind fun y0=>(app c0 ([(⟨a1,y0⟩:Tc)]:Lb Tc)).bind fun t0=>j0 (true,b0 + 1,t0) else jn (fun (q0,u0)=>(app u0 ([g0]:Lb Tc)).bind fun v0=>j0 (q0,b0 + 1,v0)) (fun k0=>(if 0 < p0 then (app c0 ([(⟨a1,a2⟩:Tc)]:Lb Tc)).bind fun x0=>k0 (true,x0) else k0 (d0,c0))))) else some (d0,c0))
def aO_p (n:Nat) (a0:Lb Tc) (a1:Tf) (a2:Tf):Oa (Lb Tc):=
  Option.bind (ao (aO_l1 n a0 a1 a2) n (false,0,([]:Lb Tc))) (fun (c0,b0)=>(if c0 = true then some b0 else (app b0 ([(⟨a1,a2⟩:Tc)]:Lb Tc)).bind fun d0=>some d0))
theorem aO_c (n:Nat) {L w} (hL:hl L w) {a0:Lb Tc} {v0_0:Vc} (h0_0:Rep.R w L [v0_0] a0) (a1:Tf) {v1_1:Vc} (h1_1:Rep.R w L [v1_1] a1.fN.fD) {v1_3:Vc} (h1_3:Rep.R w L [v1_3] a1.fD.fD) (a2:Tf) {v2_1:Vc} (h2_1:Rep.R w L [v2_1] a2.fN.fD) {v2_3:Vc} (h2_3:Rep.R w L [v2_3] a2.fD.fD)  {r:Lb Tc} (h:aO_p n a0 a1 a2 = some r) :
 Cl 106 #[v0_0,.agg #[.bool a1.fN.fc,v1_1,.bool a1.fD.fc,v1_3],.agg #[.bool a2.fN.fc,v2_1,.bool a2.fD.fc,v2_3]] w (aj w fun w' u=>∃ v0_0:Vc,u = v0_0/\Rep.R w' L [v0_0] r):=by
 unfold aO_p at h
 refine AM func106 I I I fun _ cs0 hb0=>Ae<|RG.bx (AL w) I I fun t7 E0 I2 b7=>RG.bx I2 I I fun u7 F0 I1 c7=>Ah I<|Aa<|Ae<|Ah I<|Aa<|Ae<|Ah I<|Aa<|Aj<|Ae<|Ah I<|Aa<|Av ?_
 have J1:=I1.nilRow 158 (Rep.size Tc)
 have d7:=BW I1 158 (Rep.size Tc)
 obtain ⟨q7,y3,u3⟩:=ap h
 refine BP (α:=Bool × Nat × (Lb Tc) × Vc × (Lb Vc)) (fun ⟨x0,d0,q0,p0,u0⟩=>[(0,v0_0),(4,vP E0),(5,vP F0),(7,p0),(8,.bool x0),(9,vn d0)]) (fun ⟨x0,d0,q0,p0,u0⟩=>[rr w 158 Tc p0 q0.length u0,.cells F0 [.bool a2.fN.fc,v2_1,.bool a2.fD.fc,v2_3] 144,.cells E0 [.bool a1.fN.fc,v1_1,.bool a1.fD.fc,v1_3] 144]) (fun ⟨x0,d0,q0,p0,u0⟩ y2=>Cells y2 (bl [rr w 158 Tc p0 q0.length u0,.cells F0 [.bool a2.fN.fc,v2_1,.bool a2.fD.fc,v2_3] 144,.cells E0 [.bool a1.fN.fc,v1_1,.bool a1.fD.fc,v1_3] 144] ++ L) u0 q0) (fun ⟨x0,d0,q0,p0,u0⟩=>(x0,d0,q0)) (false,0,([]:Lb Tc),vN,[]) y3 J1 (AI (cs:=[]) (xs:=([]:Lb Tc)) J1 L (AT _ _)) ?_
 rintro Q5 ⟨x0,d0,q0,p0,u0⟩ y2 c1 c0 u1 I0 h
 unfold aO_l1 at h
 try dsimp only at h
 refine Aj<|Ae<|Ac I<|Ac I ?_
 have y1:=AH h0_0 c0
 have p7:=AY y1
 refine Ab (Ba (xs:=a0) underlying150 I y1)<|Ab (AU (i:=d0) (j:=a0.length) I I)<|Aa<|AV I h (fun A2 h=>?_) (fun A2 h=>?_)
 refine Aq<|Aj<|Av<|Aj<|du 8 fun t0 v0=>Rv 0 t0 I v0 (fun _=>Al I)<|Rv 1 t0 I v0 (fun _=>Al I)<|bk h fun b0 v2 h=>?_
 obtain ⟨U4,Z5,v1,x1,X6,z3,z1⟩:=Bh y1 v2
 obtain ⟨P0,Q0,R0,U0,rfl,A1,B1,C1,D1⟩:=df z3
 refine Rv 2 t0 I v0 (fun _=>Be 8 d0 I v1 I I x1)<|Rv 3 t0 I v0 (fun _=>Bg 0 I)<|Rx 4 192 t0 I v0 (AN (cs:=[.bool b0.fm.fN.fc,P0,.bool b0.fm.fD.fc,Q0]) I I (ac z1 0 4))<|Rx 5 192 t0 I v0 (Az I (c0.memA .t2))<|bk h fun G1 E4 h=>RD.cq 6 127 128 (vI G1) t0 I v0 (bd 120) I (e2 I I) (fun w9 hw9=>ap_c n (c0.hL0 hL hw9) b0.fm (c0.kd A1 hw9) (c0.kd B1 hw9) a1 (c0.k0 h1_1 hw9) (c0.k0 h1_3 hw9) E4) I<|Rv 7 t0 I v0 (fun _=>Bj I)<|AK (dk t0)<|Aj<|Ae<|Ac I<|Ab (Bx I)<|Ac I<|BQ (s:=26) I h (fun b1 h=>?_) (fun b1 h=>?_)
 refine Ap<|Ap<|Bs I I<|Aa<|Bz I<|Aq<|Aj<|Ae<|Ac I<|Ab (Bx I)<|Ac I<|RG.known (s:=44) I (oX b1)<|Ap<|Ap<|Bs I I<|Aa<|Bz I<|Aq<|Am<|Ac I<|Ac I<|Ac I<|Ab (Be 8 d0 I v1 I I x1)<|Ab (Az I z1) ?_
 obtain ⟨V4,b6,D3,_⟩:=Bl A1
 obtain ⟨W4,c6,E3,_⟩:=Bl B1
 obtain ⟨X4,d6,F3,_⟩:=Bl C1
 obtain ⟨Y4,g6,G3,_⟩:=Bl D1
 refine Ao .plain I (AW (α:=Tc) (xs:=([b0]:Lb Tc)) (vs:=[.agg #[.bool b0.fm.fN.fc,P0,.bool b0.fm.fD.fc,Q0,.bool b0.fP.fN.fc,R0,.bool b0.fP.fD.fc,U0]]) (ds' :=[.bool b0.fm.fN.fc,P0,.bool b0.fm.fD.fc,Q0,.bool b0.fP.fN.fc,R0,.bool b0.fP.fD.fc,U0]) I c0 ee I (e1 I) (by rw [D3,E3,F3,G3]; try kernel_rfl) I) fun v7 U5 g1 G0=>bk h fun K4 z4 h=>BD .plain I (Bn (α:=Tc) (ys:=([b0]:Lb Tc)) z4 g1 (fun _ _=>.t1) ee I I (AR I0 G0) (BH (α:=Tc) g1 .hd (AI (cs:=[.bool b0.fm.fN.fc,P0,.bool b0.fm.fD.fc,Q0,.bool b0.fP.fN.fc,R0,.bool b0.fP.fD.fc,U0]) (xs:=(([b0]:Lb Tc):Lb Tc)) g1 L (AE (cs:=[.bool b0.fm.fN.fc,P0,.bool b0.fm.fD.fc,Q0,.bool b0.fP.fN.fc,R0,.bool b0.fP.fD.fc,U0]) (ds:=[]) (jZ b0.fm (Ag A1 G0) (Ag B1 G0) b0.fP (Ag C1 G0) (Ag D1 G0)) (AT _ _))))) fun G4 x7 ⟨E2,J2,W2,g3⟩=>Ah I<|Aa<|Ax<|Am<|Ac I<|Ab (Bc (i:=d0) (j:=1) I I (by omega))<|Ah I<|Aa ?_
 obtain ⟨K2,M1⟩:=AB J2 .d1
 exact c1 (x0,d0 + 1,K4,G4,E2) K2 (Tt u1 (Tt G0 (Tt W2 M1))) (AR g3 M1) h
 refine AJ (Al I)<|AJ (FV.eql (i:=G1) (j:=0) I I)<|Bk I I<|Aa<|AV I h (fun B2 h=>?_) (fun B2 h=>?_)
 refine Aj<|du 11 fun g0 s0=>Rv 0 g0 I s0 (fun _=>Al I)<|Rx 1 7680 g0 I s0 (Az I (c0.memA .t2))<|Rv 2 g0 I s0 (fun _=>Al I)<|Rv 3 g0 I s0 (fun _=>Al I)<|Rv 4 g0 I s0 (fun _=>Be 8 d0 I v1 I I x1)<|Rv 5 g0 I s0 (fun _=>Bg 4 I)<|Rx 6 7936 g0 I s0 (AN (cs:=[.bool b0.fP.fN.fc,R0,.bool b0.fP.fD.fc,U0]) I I (ac z1 4 4))<|Rx 7 7936 g0 I s0 (Az I (c0.memA .t1))<|bk h fun j0 F4 h=>AX 8 511 g0 I .plain (bd 110) I (e2 I I) (fun w9 hw9=>aw_c n (c0.hL hL hw9) b0.fP (Af C1 hw9) (Af D1 hw9) a2 (c0.km h2_1 hw9) (c0.km h2_3 hw9) F4) I fun y7 s7 d3 ⟨J0,K0,hu_,E1,F1⟩=>?_
 subst hu_
 obtain ⟨j1,P1⟩:=c0.agr d3
 have W1:=AH h1_1 j1
 obtain ⟨Z4,j6,H3,_⟩:=Bl W1
 have X1:=AH h1_3 j1
 obtain ⟨b5,k6,I3,_⟩:=Bl X1
 obtain ⟨c5,p6,J3,_⟩:=Bl E1
 obtain ⟨d5,q6,K3,_⟩:=Bl F1
 refine Rv 9 g0 I s0 (fun _=>AS (vs:=[.agg #[.bool a1.fN.fc,v1_1,.bool a1.fD.fc,v1_3],.agg #[.bool j0.fN.fc,J0,.bool j0.fD.fc,K0]]) (u:=.agg #[.bool a1.fN.fc,v1_1,.bool a1.fD.fc,v1_3,.bool j0.fN.fc,J0,.bool j0.fD.fc,K0]) (e2 I I) (fun w9=>by rw [H3,I3,J3,K3]; try kernel_rfl)) ?_
 obtain ⟨g5,s6,M3,_⟩:=Bl W1
 obtain ⟨j5,t6,P3,_⟩:=Bl X1
 obtain ⟨k5,u6,Q3,_⟩:=Bl E1
 obtain ⟨p5,v6,R3,_⟩:=Bl F1
 refine RD.nu 10 2047 g0 I .plain I (AW (α:=Tc) (xs:=([(⟨a1,j0⟩:Tc)]:Lb Tc)) (vs:=[.agg #[.bool a1.fN.fc,v1_1,.bool a1.fD.fc,v1_3,.bool j0.fN.fc,J0,.bool j0.fD.fc,K0]]) (ds' :=[.bool a1.fN.fc,v1_1,.bool a1.fD.fc,v1_3,.bool j0.fN.fc,J0,.bool j0.fD.fc,K0]) I j1 ee I (e1 I) (by rw [M3,P3,Q3,R3]; try kernel_rfl) I) fun z7 V5 M0 V0=>bk h fun M4 A4 h=>BK (i:=11) (rk g0) (RO.doesL (m' :=4095) (sk g0) I I .plain I (Bn (α:=Tc) (ys:=([(⟨a1,j0⟩:Tc)]:Lb Tc)) A4 M0 (fun _ _=>.t1) ee I I (AR I0 (Tt P1 V0)) (BH (α:=Tc) M0 .hd (AI (cs:=[.bool a1.fN.fc,v1_1,.bool a1.fD.fc,v1_3,.bool j0.fN.fc,J0,.bool j0.fD.fc,K0]) (xs:=(([(⟨a1,j0⟩:Tc)]:Lb Tc):Lb Tc)) M0 L (AE (cs:=[.bool a1.fN.fc,v1_1,.bool a1.fD.fc,v1_3,.bool j0.fN.fc,J0,.bool j0.fD.fc,K0]) (ds:=[]) (jZ a1 (AH h1_1 M0) (AH h1_3 M0) j0 (Ag E1 V0) (Ag F1 V0)) (AT _ _))))) (fun H4 A7 ⟨F2,M2,X2,j3⟩=>?_))
 refine BK (i:=12) (rk g0) (BV (m' :=8191) (sk g0) I .plain I (Bj I) ?_)
 refine AK (dk g0)<|Ae<|Ah I<|Aa<|AZ I<|Am<|Ac I<|Ab (Bc (i:=d0) (j:=1) I I (by omega))<|Ah I<|Aa ?_
 obtain ⟨P2,Q1⟩:=AB M2 .d1
 exact c1 (true,d0 + 1,M4,H4,F2) P2 (Tt u1 (Tt P1 (Tt V0 (Tt X2 Q1)))) (AR j3 Q1) h
 refine Aq<|Aj<|Ae<|Ac I<|Ab (Bx I)<|Ac I<|RG.known (s:=44) I (oX (Bool.eq_false_iff.2 b1))<|AJ (Al I)<|AJ (FV.gtr (i:=G1) (j:=0) I I)<|Bk I I<|Aa<|MX.jf (α:=Bool × (Lb Tc) × Vc × (Lb Vc)) (fun ⟨C0,y0,D0,z0⟩=>[(0,v0_0),(4,vP E0),(5,vP F0),(7,D0),(8,.bool C0),(9,vn d0)]) (fun ⟨C0,y0,D0,z0⟩=>[rr w 158 Tc D0 y0.length z0,.cells F0 [.bool a2.fN.fc,v2_1,.bool a2.fD.fc,v2_3] 144,.cells E0 [.bool a1.fN.fc,v1_1,.bool a1.fD.fc,v1_3] 144]) (fun ⟨C0,y0,D0,z0⟩ z2=>Cells z2 (bl [rr w 158 Tc D0 y0.length z0,.cells F0 [.bool a2.fN.fc,v2_1,.bool a2.fD.fc,v2_3] 144,.cells E0 [.bool a1.fN.fc,v1_1,.bool a1.fD.fc,v1_3] 144] ++ L) z0 y0) (fun ⟨C0,y0,D0,z0⟩=>(C0,y0)) c0 h ?_ ?_
 rintro ⟨C0,y0,D0,z0⟩ z2 K1 Y2 k3 h
 try dsimp only at h
 refine Am<|Ac I<|Ac I<|Ac I ?_
 obtain ⟨q5,x6,t3,v3,Y6,A3,x3⟩:=Bh (AH h0_0 K1) v2
 obtain ⟨W0,X0,Y0,Z0,rfl,p2,q2,s2,u2⟩:=df A3
 refine Ab (Be 8 d0 I t3 I I v3)<|Ab (Az I x3) ?_
 obtain ⟨s5,y6,U3,_⟩:=Bl p2
 obtain ⟨t5,z6,V3,_⟩:=Bl q2
 obtain ⟨u5,A6,W3,_⟩:=Bl s2
 obtain ⟨v5,B6,X3,_⟩:=Bl u2
 refine Ao .plain I (AW (α:=Tc) (xs:=([b0]:Lb Tc)) (vs:=[.agg #[.bool b0.fm.fN.fc,W0,.bool b0.fm.fD.fc,X0,.bool b0.fP.fN.fc,Y0,.bool b0.fP.fD.fc,Z0]]) (ds' :=[.bool b0.fm.fN.fc,W0,.bool b0.fm.fD.fc,X0,.bool b0.fP.fN.fc,Y0,.bool b0.fP.fD.fc,Z0]) I K1 ee I (e1 I) (by rw [U3,V3,W3,X3]; try kernel_rfl) I) fun B7 W5 k1 H0=>bk h fun P4 B4 h=>BD .plain I (Bn (α:=Tc) (ys:=([b0]:Lb Tc)) B4 k1 (fun _ _=>.t1) ee I I (AR k3 H0) (BH (α:=Tc) k1 .hd (AI (cs:=[.bool b0.fm.fN.fc,W0,.bool b0.fm.fD.fc,X0,.bool b0.fP.fN.fc,Y0,.bool b0.fP.fD.fc,Z0]) (xs:=(([b0]:Lb Tc):Lb Tc)) k1 L (AE (cs:=[.bool b0.fm.fN.fc,W0,.bool b0.fm.fD.fc,X0,.bool b0.fP.fN.fc,Y0,.bool b0.fP.fD.fc,Z0]) (ds:=[]) (jZ b0.fm (Ag p2 H0) (Ag q2 H0) b0.fP (Ag s2 H0) (Ag u2 H0)) (AT _ _))))) fun I4 C7 ⟨G2,Q2,Z2,p3⟩=>Ah I<|Aa<|Ax<|Am<|Ac I<|Ab (Bc (i:=d0) (j:=1) I I (by omega))<|Ah I<|Aa ?_
 obtain ⟨R2,R1⟩:=AB Q2 .d1
 exact c1 (C0,d0 + 1,P4,I4,G2) R2 (Tt u1 (Tt Y2 (Tt H0 (Tt Z2 R1)))) (AR p3 R1) h
 intro R5 H1 h
 try dsimp only at h
 refine AV I h (fun C2 h=>?_) (fun C2 h=>?_)
 refine Ae<|Ac I<|Ab (Az I (c0.memA .t2))<|Ab (Az I (c0.memA .t1)) ?_
 have Y1:=AH h1_1 c0
 obtain ⟨x5,C6,Y3,_⟩:=Bl Y1
 have Z1:=AH h1_3 c0
 obtain ⟨y5,D6,Z3,_⟩:=Bl Z1
 have b2:=AH h2_1 c0
 obtain ⟨z5,E6,b4,_⟩:=Bl b2
 have c2:=AH h2_3 c0
 obtain ⟨A5,F6,c4,_⟩:=Bl c2
 refine Ab (AS (vs:=[.agg #[.bool a1.fN.fc,v1_1,.bool a1.fD.fc,v1_3],.agg #[.bool a2.fN.fc,v2_1,.bool a2.fD.fc,v2_3]]) (u:=.agg #[.bool a1.fN.fc,v1_1,.bool a1.fD.fc,v1_3,.bool a2.fN.fc,v2_1,.bool a2.fD.fc,v2_3]) (e2 I I) (fun w9=>by rw [Y3,Z3,b4,c4]; try kernel_rfl)) ?_
 obtain ⟨B5,G6,d4,_⟩:=Bl Y1
 obtain ⟨C5,H6,g4,_⟩:=Bl Z1
 obtain ⟨D5,I6,j4,_⟩:=Bl b2
 obtain ⟨E5,J6,k4,_⟩:=Bl c2
 refine Ao .plain I (AW (α:=Tc) (xs:=([(⟨a1,a2⟩:Tc)]:Lb Tc)) (vs:=[.agg #[.bool a1.fN.fc,v1_1,.bool a1.fD.fc,v1_3,.bool a2.fN.fc,v2_1,.bool a2.fD.fc,v2_3]]) (ds' :=[.bool a1.fN.fc,v1_1,.bool a1.fD.fc,v1_3,.bool a2.fN.fc,v2_1,.bool a2.fD.fc,v2_3]) I c0 ee I (e1 I) (by rw [d4,g4,j4,k4]; try kernel_rfl) I) fun D7 X5 A0 U1=>bk h fun Q4 C4 h=>BD .plain I (Bn (α:=Tc) (ys:=([(⟨a1,a2⟩:Tc)]:Lb Tc)) C4 A0 (fun _ _=>.t1) ee I I (AR I0 U1) (BH (α:=Tc) A0 .hd (AI (cs:=[.bool a1.fN.fc,v1_1,.bool a1.fD.fc,v1_3,.bool a2.fN.fc,v2_1,.bool a2.fD.fc,v2_3]) (xs:=(([(⟨a1,a2⟩:Tc)]:Lb Tc):Lb Tc)) A0 L (AE (cs:=[.bool a1.fN.fc,v1_1,.bool a1.fD.fc,v1_3,.bool a2.fN.fc,v2_1,.bool a2.fD.fc,v2_3]) (ds:=[]) (jZ a1 (AH h1_1 A0) (AH h1_3 A0) a2 (AH h2_1 A0) (AH h2_3 A0)) (AT _ _))))) fun J4 E7 ⟨H2,U2,b3,q3⟩=>Ah I<|Aa<|Am<|Ah I<|Aa ?_
 obtain ⟨V2,V1⟩:=AB U2 .d1
 exact H1 (true,Q4,J4,H2) V2 (Tt U1 (Tt b3 V1)) (AR q3 V1) h
 refine Aq<|H1 (x0,q0,p0,u0) c0 (BM _ _) I0 h
 refine AZ I ?_
 have h:=u3 _ h
 try dsimp only at h
 refine Aj<|Ae<|Ac I<|Ab (Bx I)<|Aa<|MX.ifnb I h (fun D2 h=>?_) (fun D2 h=>?_)
 refine Aq<|Ae<|Ac I<|Ah I<|Aa<|Ar I ?_
 have p1:=Bu c0 .hd
 have g7:=Bv c0 .hd
 have B3:=Bw (α:=Tc) (v:=p0) (xs:=q0) p1 L (Bi (α:=Tc) c0 .hd I0 hL)
 refine Bb hb0 func106 I I ?_
 cases h
 exact ⟨p1.ag,fun w9 hw9=>⟨p0,I,p1.kd B3 hw9⟩⟩
 refine Am<|Ac I<|Ab (Az I (c0.memA .t2))<|Ab (Az I (c0.memA .t1)) ?_
 have d2:=AH h1_1 c0
 obtain ⟨F5,K6,p4,_⟩:=Bl d2
 have g2:=AH h1_3 c0
 obtain ⟨G5,M6,q4,_⟩:=Bl g2
 have j2:=AH h2_1 c0
 obtain ⟨H5,P6,s4,_⟩:=Bl j2
 have k2:=AH h2_3 c0
 obtain ⟨I5,Q6,t4,_⟩:=Bl k2
 refine Ab (AS (vs:=[.agg #[.bool a1.fN.fc,v1_1,.bool a1.fD.fc,v1_3],.agg #[.bool a2.fN.fc,v2_1,.bool a2.fD.fc,v2_3]]) (u:=.agg #[.bool a1.fN.fc,v1_1,.bool a1.fD.fc,v1_3,.bool a2.fN.fc,v2_1,.bool a2.fD.fc,v2_3]) (e2 I I) (fun w9=>by rw [p4,q4,s4,t4]; try kernel_rfl)) ?_
 obtain ⟨J5,R6,u4,_⟩:=Bl d2
 obtain ⟨K5,U6,v4,_⟩:=Bl g2
 obtain ⟨M5,V6,x4,_⟩:=Bl j2
 obtain ⟨P5,W6,y4,_⟩:=Bl k2
 refine Ao .plain I (AW (α:=Tc) (xs:=([(⟨a1,a2⟩:Tc)]:Lb Tc)) (vs:=[.agg #[.bool a1.fN.fc,v1_1,.bool a1.fD.fc,v1_3,.bool a2.fN.fc,v2_1,.bool a2.fD.fc,v2_3]]) (ds' :=[.bool a1.fN.fc,v1_1,.bool a1.fD.fc,v1_3,.bool a2.fN.fc,v2_1,.bool a2.fD.fc,v2_3]) I c0 ee I (e1 I) (by rw [u4,v4,x4,y4]; try kernel_rfl) I) fun F7 Y5 B0 c3=>bk h fun R4 D4 h=>BD .plain I (Bn (α:=Tc) (ys:=([(⟨a1,a2⟩:Tc)]:Lb Tc)) D4 B0 (fun _ _=>.t1) ee I I (AR I0 c3) (BH (α:=Tc) B0 .hd (AI (cs:=[.bool a1.fN.fc,v1_1,.bool a1.fD.fc,v1_3,.bool a2.fN.fc,v2_1,.bool a2.fD.fc,v2_3]) (xs:=(([(⟨a1,a2⟩:Tc)]:Lb Tc):Lb Tc)) B0 L (AE (cs:=[.bool a1.fN.fc,v1_1,.bool a1.fD.fc,v1_3,.bool a2.fN.fc,v2_1,.bool a2.fD.fc,v2_3]) (ds:=[]) (jZ a1 (AH h1_1 B0) (AH h1_3 B0) a2 (AH h2_1 B0) (AH h2_3 B0)) (AT _ _))))) fun x2 G7 ⟨Z6,q1,j7,s3⟩=>Ah I<|Aa<|Ae<|Ac I<|Ah I<|Aa<|Ar I ?_
 have s1:=Bu q1 .t1
 have k7:=Bv q1 .t1
 have C3:=Bw (α:=Tc) (v:=x2) (xs:=R4) s1 L (Bi (α:=Tc) q1 .t1 s3 hL)
 refine Bb hb0 func106 I I ?_
 cases h
 exact ⟨s1.ag,fun w9 hw9=>⟨x2,I,s1.kd C3 hw9⟩⟩
def bL_l1 (n:Nat) (a0:Lb Tc) (k0:Nat × (Lb Ta) -> Oa (((Lb Ta) × Int) ⊕ (Lb Ta))):Nat × (Lb Ta) -> Oa (((Lb Ta) × Int) ⊕ (Lb Ta))
  | (b0,d0)=>(if b0 < a0.length then (a0[b0]?).bind fun c0=>(ay_p n c0.fm).bind fun g0=>(ay_p n c0.fP).bind fun j0=>(if g0.2 = 0 then (if j0.2 = 0 then (app d0 ([(⟨g0.1,j0.1⟩:Ta)]:Lb Ta)).bind fun p0=>k0 (b0 + 1,p0) else some (.inl (([]:Lb Ta),(6:Int)))) else some (.inl (([]:Lb Ta),(6:Int)))) else some (.inr d0))
def bL_p (n:Nat) (a0:Lb Tc):Oa ((Lb Ta) × Int):=
  (if 400 < a0.length then some (([]:Lb Ta),(3:Int)) else thn (ao (bL_l1 n a0) n (0,([]:Lb Ta))) (fun b0=>some (b0,(0:Int))))
theorem bL_c (n:Nat) {L w} (hL:hl L w) {a0:Lb Tc} {v0_0:Vc} (h0_0:Rep.R w L [v0_0] a0)  {r:(Lb Ta) × Int} (h:bL_p n a0 = some r) :
 Cl 108 #[v0_0] w (aj w fun w' u=>∃ v0_0:Vc,u = .tuple #[v0_0,vI r.2]/\Rep.R w' L [v0_0] r.1):=by
 unfold bL_p at h
 have hS0:=AL w
 refine AM func108 I I I fun _ cs0 hb0=>Ae<|Ah I<|Ah I<|Aa<|Aj<|Ae<|Ac I ?_
 have hl1:=AY h0_0
 refine Ab (Ba (xs:=a0) underlying150 I h0_0)<|Ab (FV.gtrN (i:=a0.length) (j:=400) I I)<|Aa<|AV I h (fun c2 h=>?_) (fun c2 h=>?_)
 refine Ae<|Ah I<|Ah I<|Aa<|Ar I ?_
 have hr3:=Bo (α:=Ta) hS0 L
 refine Au hb0 func108 I (.cons (.tmp I) (.cons (.tmp I) .nil)) I ?_
 cases h
 exact ⟨hS0.ag,fun w9 hw9=>⟨vN,I,hS0.kd hr3 hw9⟩⟩
 refine Aq<|Ae<|Ah I<|Aa<|Aj<|Ae<|Ah I<|Aa<|Av ?_
 have y0:=hS0.nilRow 37 (Rep.size Ta)
 have d2:=BW hS0 37 (Rep.size Ta)
 refine tn h fun s2 q1 x0=>BP (α:=Nat × (Lb Ta) × Vc × (Lb Vc)) (fun ⟨d0,k0,j0,q0⟩=>[(0,v0_0),(4,j0),(5,vn d0)]) (fun ⟨d0,k0,j0,q0⟩=>[rr w 37 Ta j0 k0.length q0]) (fun ⟨d0,k0,j0,q0⟩ E0=>Cells E0 (bl [rr w 37 Ta j0 k0.length q0] ++ L) q0 k0) (fun ⟨d0,k0,j0,q0⟩=>(d0,k0)) (0,([]:Lb Ta),vN,[]) q1 y0 (AI (cs:=[]) (xs:=([]:Lb Ta)) y0 L (AT _ _)) ?_
 rintro R1 ⟨d0,k0,j0,q0⟩ E0 J0 p0 R0 A0 h
 unfold bL_l1 at h
 try dsimp only at h
 refine Aj<|Ae<|Ac I<|Ac I ?_
 have B0:=AH h0_0 p0
 refine Ab (Ba (xs:=a0) underlying150 I B0)<|Ab (AU (i:=d0) (j:=a0.length) I I)<|Aa<|AV I h (fun F0 h=>?_) (fun F0 h=>?_)
 refine Aq<|Aj<|Av<|Ae<|Ac I<|Ac I<|bk h fun s0 D0 h=>?_
 obtain ⟨P1,X1,c1,g1,Z1,s1,k1⟩:=Bh B0 D0
 obtain ⟨G1,H1,t2,u2,rfl,u1,v1,j2,k2⟩:=df s1
 refine Ab (Be 8 d0 I c1 I I g1)<|Bm 0 I<|Ab (AN (cs:=[.bool s0.fm.fN.fc,G1,.bool s0.fm.fD.fc,H1]) I I (ac k1 0 4))<|bk h fun b0 E1 h=>Bd (.tuple #[.agg ((ab b0.1)).toArray,vI b0.2]) (bd 96) I (e1 I) (fun w9 hw9=>ay_c n (p0.hL0 hL hw9) s0.fm (p0.kd u1 hw9) (p0.kd v1 hw9) E1) I<|Ac I<|Ab (Ai I I)<|Ab (Ai I I)<|RG.nl zL p0 fun y2 U1 K0 U0=>AQ (ab b0.1) K0 .hd (ai I) fun z2 t0 V0=>Ah I<|Aa<|Ae<|Ac I<|Ac I ?_
 obtain ⟨Q1,Y1,d1,j1,b2,x1,p1⟩:=Bh (AH h0_0 t0) D0
 obtain ⟨v2,x2,I1,J1,rfl,p2,q2,y1,z1⟩:=df x1
 refine Ab (Be 8 d0 I d1 I I j1)<|Bm 4 I<|Ab (AN (cs:=[.bool s0.fP.fN.fc,I1,.bool s0.fP.fD.fc,J1]) I I (ac p1 4 4))<|bk h fun c0 F1 h=>Bd (.tuple #[.agg ((ab c0.1)).toArray,vI c0.2]) (bd 96) I (e1 I) (fun w9 hw9=>ay_c n (t0.hL0 hL hw9) s0.fP (t0.kd y1 hw9) (t0.kd z1 hw9) F1) I<|Ac I<|Ab (Ai I I)<|Ab (Ai I I)<|RG.nl zL t0 fun A2 V1 M0 W0=>AQ (ab c0.1) M0 .hd (ai I) fun B2 g0 X0=>Ah I<|Aa<|Aj<|Ae<|Ac I<|Ab (BA (i:=b0.2) (j:=0) I I)<|Ac I<|RG.ifn (s:=39) I h (fun G0 h=>?_) (fun G0 h=>?_)
 refine AJ (Al I)<|AJ (BA (i:=c0.2) (j:=0) I I)<|Bs I I<|Aa<|BI I h (fun H0 h=>?_) (fun H0 h=>?_)
 refine Aq<|Am<|Ac I<|Ab (Az I (g0.memA .t1))<|Ab (Az I (g0.memA .hd))<|Ab (AS (vs:=[.agg ((ab b0.1)).toArray,.agg ((ab c0.1)).toArray]) (u:=.agg ((ab b0.1 ++ ab c0.1)).toArray) (e2 I I) (fun w9=>by kernel_rfl))<|Ao .plain I (AW (α:=Ta) (xs:=([(⟨b0.1,c0.1⟩:Ta)]:Lb Ta)) (vs:=[.agg ((ab b0.1 ++ ab c0.1)).toArray]) (ds' :=(ab b0.1 ++ ab c0.1)) I g0 cW I (e1 I) (by kernel_rfl) I) fun C2 W1 u0 Y0=>bk h fun M1 D1 h=>?_
 have C0:=Tt U0 (Tt V0 (Tt W0 (Tt X0 Y0)))
 refine BD .plain I (Bn (α:=Ta) (ys:=([(⟨b0.1,c0.1⟩:Ta)]:Lb Ta)) D1 u0 (fun _ _=>.t3) cW I I (AR A0 C0) (BH (α:=Ta) u0 .hd (AI (cs:=(ab b0.1 ++ ab c0.1)) (xs:=(([(⟨b0.1,c0.1⟩:Ta)]:Lb Ta):Lb Ta)) u0 L (AE (cs:=(ab b0.1 ++ ab c0.1)) (ds:=[]) (aW b0.1 c0.1) (AT _ _))))) fun K1 D2 ⟨I0,P0,Z0,b1⟩=>Ah I<|Aa<|Ax<|Am<|Ac I<|Ab (Bc (i:=d0) (j:=1) I I (by omega))<|Ah I<|Aa ?_
 obtain ⟨Q0,z0⟩:=AB P0 .d3
 exact J0 (d0 + 1,M1,K1,I0) Q0 (Tt R0 (Tt C0 (Tt Z0 z0))) (AR b1 z0) h
 refine Ae<|Ah I<|Ah I<|Aa ?_
 have h:=aH h x0
 refine Ar I ?_
 have A1:=Bo (α:=Ta) g0 L
 refine Au hb0 func108 I (.cons (.tmp I) (.cons (.tmp I) .nil)) I ?_
 cases h
 exact ⟨g0.ag,fun w9 hw9=>⟨vN,I,g0.kd A1 hw9⟩⟩
 refine Ap<|Ap<|Bk I I<|Aa<|AG I<|Ae<|Ah I<|Ah I<|Aa ?_
 have h:=aH h x0
 refine Ar I ?_
 have B1:=Bo (α:=Ta) g0 L
 refine Au hb0 func108 I (.cons (.tmp I) (.cons (.tmp I) .nil)) I ?_
 cases h
 exact ⟨g0.ag,fun w9 hw9=>⟨vN,I,g0.kd B1 hw9⟩⟩
 refine AZ I ?_
 have h:=bc h x0
 try dsimp only at h
 refine Ae<|Ac I<|Ah I<|Ah I<|Aa<|Ar I ?_
 have v0:=Bu p0 .hd
 have g2:=Bv p0 .hd
 have C1:=Bw (α:=Ta) (v:=j0) (xs:=k0) v0 L (Bi (α:=Ta) p0 .hd A0 hL)
 refine Au hb0 func108 I (.cons (.tmp I) (.cons (.tmp I) .nil)) I ?_
 cases h
 exact ⟨v0.ag,fun w9 hw9=>⟨j0,I,v0.kd C1 hw9⟩⟩
def bD_l1 (n:Nat) (a0:Lb Tb) (d0:(Lb Tc) × Nat -> Oa (Lb Tc)):(Lb Tc) × Nat -> Oa (Lb Tc)
  | (c0,b0)=>(if b0 < a0.length then (a0[b0]?).bind fun g0=>(aG_p n g0).bind fun k0=>(bf_p n (1:Int) ((a0.length:Nat):Int)).bind fun p0=>(aO_p n c0 k0 p0).bind fun j0=>d0 (j0,b0 + 1) else some c0)
def bD_p (n:Nat) (a0:Lb Tb):Oa ((Lb Ta) × Int):=
  (if 400 < a0.length then some (([]:Lb Ta),(3:Int)) else (bw_p n a0).bind fun y4=>(if y4 = true then (if a0.length = 0 then some (([]:Lb Ta),(4:Int)) else Option.bind (ao (bD_l1 n a0) n (([]:Lb Tc),0)) (fun c0=>(bL_p n c0).bind fun b0=>some (b0.1,b0.2))) else some (([]:Lb Ta),(20:Int))))
theorem bD_c (n:Nat) {L w} (hL:hl L w) {a0:Lb Tb} {v0_0:Vc} (h0_0:Rep.R w L [v0_0] a0)  {r:(Lb Ta) × Int} (h:bD_p n a0 = some r) :
 Cl 62 #[v0_0] w (aj w fun w' u=>∃ v0_0:Vc,u = .tuple #[v0_0,vI r.2]/\Rep.R w' L [v0_0] r.1):=by
 unfold bD_p at h
 have hS0:=AL w
 refine AM func62 I I I fun _ cs0 hb0=>Ae<|Ah I<|Ah I<|Aa<|Aj<|Ae<|Ac I ?_
 have hl1:=AY h0_0
 refine Ab (Ba (xs:=a0) underlying51 I h0_0)<|Ab (FV.gtrN (i:=a0.length) (j:=400) I I)<|Aa<|AV I h (fun c2 h=>?_) (fun c2 h=>?_)
 refine Ae<|Ah I<|Ah I<|Aa<|Ar I ?_
 have hr3:=Bo (α:=Ta) hS0 L
 refine Au hb0 func62 I (.cons (.tmp I) (.cons (.tmp I) .nil)) I ?_
 cases h
 exact ⟨hS0.ag,fun w9 hw9=>⟨vN,I,hS0.kd hr3 hw9⟩⟩
 refine Aq<|Aj<|Ae<|Ac I<|bk h fun y4 hy4 h=>Bd (.bool y4) (bd 102) I (e1 I) (fun w9 hw9=>bw_c n (hS0.hL0 hL hw9) (hS0.kd h0_0 hw9) hy4) I<|Ab (Bx I)<|Aa<|MX.ifnb I h (fun c5 h=>?_) (fun c5 h=>?_)
 refine Aq<|Aj<|Ae<|Ac I<|Ab (Ba (xs:=a0) underlying51 I h0_0)<|Ab (FV.eqlN (i:=a0.length) (j:=0) I I)<|Aa<|AV I h (fun c6 h=>?_) (fun c6 h=>?_)
 refine Ae<|Ah I<|Ah I<|Aa<|Ar I ?_
 have hr7:=Bo (α:=Ta) hS0 L
 refine Au hb0 func62 I (.cons (.tmp I) (.cons (.tmp I) .nil)) I ?_
 cases h
 exact ⟨hS0.ag,fun w9 hw9=>⟨vN,I,hS0.kd hr7 hw9⟩⟩
 refine Aq<|Ae<|Ah I<|Aa<|Aj<|Ae<|Ah I<|Aa<|Av ?_
 obtain ⟨z1,K0,H0⟩:=ap h
 refine BP (α:=(Lb Tc) × Nat × Vc) (fun ⟨d0,b0,c0⟩=>[(0,v0_0),(4,c0),(5,vn b0)]) (fun ⟨d0,b0,c0⟩=>[]) (fun ⟨d0,b0,c0⟩ v0=>Rep.R v0 (bl [] ++ L) [c0] d0) (fun ⟨d0,b0,c0⟩=>(d0,b0)) (([]:Lb Tc),0,vN) K0 hS0 (Bo (α:=Tc) hS0 L) ?_
 rintro u1 ⟨d0,b0,c0⟩ v0 y0 g0 B0 u0 h
 unfold bD_l1 at h
 try dsimp only at h
 refine Aj<|Ae<|Ac I<|Ac I ?_
 have t0:=AH h0_0 g0
 refine Ab (Ba (xs:=a0) underlying51 I t0)<|Ab (AU (i:=b0) (j:=a0.length) I I)<|Aa<|AV I h (fun x0 h=>?_) (fun x0 h=>?_)
 refine Aq<|Aj<|Av<|Am<|Ac I<|Ac I<|Ac I<|bk h fun k1 Y0 h=>?_
 obtain ⟨t1,v1,G0,I0,x1,V0,J0⟩:=Bh t0 Y0
 obtain rfl:=dh V0
 refine Ab (Be 16 b0 I G0 I I I0)<|Ab (Az I J0)<|bk h fun q1 c1 h=>jE (bd 104) I (e1 I) (fun w9 hw9=>aG_c n (g0.hL hL hw9) k1 c1) I fun K1 G1 E0 ⟨B1,C1,hu_,W0,X0⟩=>?_
 subst hu_
 obtain ⟨k0,s0⟩:=g0.agr E0
 refine Ac I<|Ab (Ba (xs:=a0) underlying51 I (AH h0_0 k0))<|bk h fun s1 d1 h=>jE (bd 97) I (e2 I I) (fun w9 hw9=>bf_c n (k0.hL hL hw9)  d1) I fun M1 H1 F0 ⟨D1,E1,hu_,M0,P0⟩=>?_
 subst hu_
 obtain ⟨q0,j0⟩:=k0.agr F0
 refine bk h fun p1 Z0 h=>jE (bd 106) I (e3 I I I) (fun w9 hw9=>aO_c n (q0.hL hL hw9) (Af (Ag u0 (Tt s0 j0)) hw9) q1 (Af (Ag W0 j0) hw9) (Af (Ag X0 j0) hw9) s1 (Af M0 hw9) (Af P0 hw9) Z0) I fun I1 j1 C0 ⟨A1,hu_,Q0⟩=>?_
 subst hu_
 obtain ⟨z0,A0⟩:=q0.agr C0
 refine Ah I<|Aa<|Ax<|Am<|Ac I<|Ab (Bc (i:=b0) (j:=1) I I (by omega))<|Ah I<|Aa<|y0 (p1,b0 + 1,j1) z0 (Tt B0 (Tt s0 (Tt j0 A0))) Q0 h
 refine AZ I ?_
 have h:=H0 _ h
 try dsimp only at h
 refine Ae<|Ac I<|bk h fun P1 b1 h=>jE (bd 108) I (e1 I) (fun w9 hw9=>bL_c n (g0.hL hL hw9) (Af u0 hw9) b1) I fun J1 F1 D0 ⟨g1,hu_,R0⟩=>?_
 subst hu_
 obtain ⟨p0,y1⟩:=g0.agr D0
 refine Ab (Ai I I)<|Ab (Ai I I)<|Ah I<|Ah I<|Aa<|Ar I<|Au hb0 func62 I (.cons (.tmp I) (.cons (.tmp I) .nil)) I ?_
 cases h
 exact ⟨p0.ag,fun w9 hw9=>⟨g1,I,p0.kd R0 hw9⟩⟩
 refine Ae<|Ah I<|Ah I<|Aa<|Ar I ?_
 have U0:=Bo (α:=Ta) hS0 L
 refine Au hb0 func62 I (.cons (.tmp I) (.cons (.tmp I) .nil)) I ?_
 cases h
 exact ⟨hS0.ag,fun w9 hw9=>⟨vN,I,hS0.kd U0 hw9⟩⟩
structure Ti where
  fL:Lb Th
  deriving DecidableEq
instance:Rep Ti:=Rep.via (β:=(List Th)) fun x=>x.fL
theorem op_Tk {w:World} {L:Lb Nat} {cs:Lb Vc} {x:Tk} (h:Rep.R w L cs x):∃ v1:Vc,cs = [.bool x.fc,v1,.int .u32 (x.fo.toNat:Int)]/\Rep.R w L [v1] x.fBits:=by
  obtain ⟨c0,r0,rfl,h0,h⟩:=h
  have e0:c0 = [.bool x.fc]:=h0; subst e0
  obtain ⟨c1,r1,rfl,h1,h⟩:=h
  obtain ⟨v1,rfl,kv1⟩:=cY (xs:=x.fBits) h1
  have e2:r1 = [.int .u32 (x.fo.toNat:Int)]:=h; subst e2
  exact ⟨v1,I,kv1⟩
theorem op_Th {w:World} {L:Lb Nat} {cs:Lb Vc} {x:Th} (h:Rep.R w L cs x):∃ v1 v4:Vc,cs = [.bool x.fN.fc,v1,.int .u32 (x.fN.fo.toNat:Int),.bool x.fD.fc,v4,.int .u32 (x.fD.fo.toNat:Int)]/\Rep.R w L [v1] x.fN.fBits/\Rep.R w L [v4] x.fD.fBits:=by
  obtain ⟨c0,r0,rfl,h0,h⟩:=h
  obtain ⟨v1,rfl,kv1⟩:=op_Tk (x:=x.fN) h0
  obtain ⟨v4,rfl,kv4⟩:=op_Tk (x:=x.fD) h
  exact ⟨v1,v4,I,kv1,kv4⟩
def am_l1 (n:Nat) (a0:Ti) (d0:Nat × (Lb Tb) -> Oa (Lb Tb)):Nat × (Lb Tb) -> Oa (Lb Tb)
  | (b0,c0)=>(if b0 < a0.fL.length then (if b0 < 8 then (a0.fL[b0]?).bind fun g0=>(bz_p n g0).bind fun k0=>(app c0 ([k0]:Lb Tb)).bind fun j0=>d0 (b0 + 1,j0) else some c0) else some c0)
def am_p (n:Nat) (a0:Ti):Oa (Lb Ta):=
  jn (fun b0=>jn (fun g0=>(bD_p n g0).bind fun k0=>some k0.1) (fun c0=>(if b0.length = 0 then (cN_p n (0:Int) (1:Int)).bind fun p0=>(app b0 ([p0.1]:Lb Tb)).bind fun j0=>c0 j0 else c0 b0))) (fun d0=>Option.bind (ao (am_l1 n a0) n (0,([]:Lb Tb))) (d0))
theorem am_c (n:Nat) {L w} (hL:hl L w) (a0:Ti) {v0_0:Vc} (h0_0:Rep.R w L [v0_0] a0.fL)  {r:Lb Ta} (h:am_p n a0 = some r) :
 Cl 33 #[.agg #[v0_0]] w (aj w fun w' u=>∃ v0_0:Vc,u = v0_0/\Rep.R w' L [v0_0] r):=by
 unfold am_p at h
 refine AM func33 I I I fun _ cs0 hb0=>Ae<|RG.bx (AL w) I I fun d3 z0 K0 M2=>Ah I<|Aa<|Ae<|Ah I<|Aa<|Aj<|Ae<|Ah I<|Aa<|Av ?_
 have A0:=K0.nilRow 34 (Rep.size Tb)
 have P2:=BW K0 34 (Rep.size Tb)
 have J1:=AI (cs:=[]) (xs:=([]:Lb Tb)) A0 L (AT _ _)
 refine MX.xf (α:=(Lb Tb) × Vc × (Lb Vc)) 0 (fun ⟨d0,u0,t0⟩=>[(3,u0)]) (fun ⟨d0,u0,t0⟩=>[rr w 34 Tb u0 d0.length t0]) (fun ⟨d0,u0,t0⟩ b1=>Cells b1 (bl [rr w 34 Tb u0 d0.length t0] ++ L) t0 d0) (fun ⟨d0,u0,t0⟩=>d0) A0 I h ?_ ?_
 rintro ⟨d0,u0,t0⟩ b1 y0 Q2 X0 h
 try dsimp only at h
 refine Aj<|Ae<|Ac I ?_
 have W2:d0.length <= 4294967296:=St.rowLe (α:=Tb) y0 .hd
 obtain ⟨A2,I2,Q1⟩:=St.rowV (α:=Tb) y0 .hd
 refine Ab (FV.lenV underlying51 I Q1)<|Ab (FV.eqlN (i:=d0.length) (j:=0) I I)<|Aa<|MX.jf (α:=(Lb Tb) × Vc × (Lb Vc)) (fun ⟨s0,v0,x0⟩=>[(3,v0)]) (fun ⟨s0,v0,x0⟩=>[rr w 34 Tb v0 s0.length x0]) (fun ⟨s0,v0,x0⟩ c1=>Cells c1 (bl [rr w 34 Tb v0 s0.length x0] ++ L) x0 s0) (fun ⟨s0,v0,x0⟩=>s0) y0 h ?_ ?_
 rintro ⟨s0,v0,x0⟩ c1 B0 R2 K1 h
 try dsimp only at h
 refine Ae<|Ac I ?_
 have C0:=Bu B0 .hd
 have U2:=Bv B0 .hd
 refine bk h fun u3 k2 h=>jE (bd 62) I (e1 I) (fun w9 hw9=>bD_c n (C0.hL hL hw9) (Af (Bw (α:=Tb) (v:=v0) (xs:=s0) C0 L (Bi (α:=Tb) B0 .hd K1 hL)) hw9) k2) I fun g3 c3 I1 ⟨s2,hu_,X1⟩=>?_
 subst hu_
 obtain ⟨M0,V2⟩:=C0.agr I1
 refine Ac I<|Ab (Ai I I)<|Ab (Ai I I)<|Ah I<|Ah I<|Aa<|Ae<|Ac I<|Ah I<|Aa<|Ar I<|Bb hb0 func33 I I ?_
 cases h
 exact ⟨M0.ag,fun w9 hw9=>⟨s2,I,M0.kd X1 hw9⟩⟩
 intro D2 J0 h
 try dsimp only at h
 refine AV I h (fun j1 h=>?_) (fun j1 h=>?_)
 refine Ae<|bk h fun b0 p2 h=>Bd (.tuple #[.agg ((ab b0.1)).toArray,vI b0.2]) (bd 34) I (e2 I I) (fun w9 hw9=>cN_c n (y0.hL0 hL hw9)  p2) I<|Ac I<|Ab (Ai I I)<|Ab (Ai I I)<|RG.nl zL y0 fun j3 F2 v1 D1=>AQ (ab b0.1) v1 .hd (ai I) fun k3 P0 E1=>Ah I<|Aa<|Am<|Ac I<|Ab (Az I (P0.memA .hd))<|Ao .plain I (AW (α:=Tb) (xs:=([b0.1]:Lb Tb)) (vs:=[.agg ((ab b0.1)).toArray]) (ds' :=(ab b0.1)) I P0 gA I (e1 I) (by kernel_rfl) I) fun p3 G2 D0 F1=>bk h fun y2 g2 h=>?_
 have Z0:=Tt D1 (Tt E1 F1)
 refine BD .plain I (Bn (α:=Tb) (ys:=([b0.1]:Lb Tb)) g2 D0 (fun _ _=>.t2) gA I I (AR X0 Z0) (BH (α:=Tb) D0 .hd (AI (cs:=(ab b0.1)) (xs:=(([b0.1]:Lb Tb):Lb Tb)) D0 L (AE (cs:=(ab b0.1)) (ds:=[]) (ci b0.1.fN b0.1.fD) (AT _ _))))) fun u2 q3 ⟨q1,x1,G1,M1⟩=>Ah I<|Aa ?_
 obtain ⟨y1,Q0⟩:=AB x1 .d2
 exact J0 (y2,u2,q1) y1 (Tt Z0 (Tt G1 Q0)) (AR M1 Q0) h
 refine Aq<|J0 (d0,u0,t0) y0 (BM _ _) X0 h
 intro C2 I0 h
 try dsimp only at h
 obtain ⟨Y2,W1,Y0⟩:=ap h
 refine BP (α:=Nat × (Lb Tb) × Vc × (Lb Vc)) (fun ⟨c0,g0,q0,k0⟩=>[(1,vP z0),(3,q0),(4,vn c0)]) (fun ⟨c0,g0,q0,k0⟩=>[rr w 34 Tb q0 g0.length k0,.cells z0 [v0_0] 66]) (fun ⟨c0,g0,q0,k0⟩ g1=>Cells g1 (bl [rr w 34 Tb q0 g0.length k0,.cells z0 [v0_0] 66] ++ L) k0 g0) (fun ⟨c0,g0,q0,k0⟩=>(c0,g0)) (0,([]:Lb Tb),vN,[]) W1 A0 J1 ?_
 rintro E2 ⟨c0,g0,q0,k0⟩ g1 u1 p0 F0 G0 h
 unfold am_l1 at h
 try dsimp only at h
 refine Aj<|Ae<|Ac I<|Bm 0 I<|Bf I ((p0.memA .t1) 0 _ I) ?_
 have H0:=AH h0_0 p0
 have X2:=AY H0
 refine Ab (Ba (xs:=a0.fL) underlying64 I H0)<|Ab (AU (i:=c0) (j:=a0.fL.length) I I)<|Ac I<|RG.ifd (s:=14) I h (fun k1 h=>?_) (fun k1 h=>?_)
 refine AJ (Al I)<|AJ (AU (i:=c0) (j:=8) I I)<|Bk I I<|Aa<|AV I h (fun p1 h=>?_) (fun p1 h=>?_)
 refine Aq<|Aj<|Av<|Am<|Ac I<|Bm 0 I<|Bf I ((p0.memA .t1) 0 _ I)<|Ac I<|bk h fun x2 c2 h=>?_
 obtain ⟨B2,J2,R1,U1,K2,Y1,V1⟩:=Bh H0 c2
 obtain ⟨Z2,b3,rfl,Z1,b2⟩:=op_Th Y1
 refine Ab (Be 6 c0 I R1 I I U1)<|Ab (Az I V1)<|bk h fun j0 q2 h=>Bd (.agg ((ab j0)).toArray) (bd 42) I (e1 I) (fun w9 hw9=>bz_c n (p0.hL0 hL hw9) x2 (p0.kd Z1 hw9) (p0.kd b2 hw9) q2) I<|Ao .plain I (AW (α:=Tb) (xs:=([j0]:Lb Tb)) (vs:=[.agg ((ab j0)).toArray]) (ds' :=(ab j0)) I p0 gA I (e1 I) (by kernel_rfl) I) fun s3 H2 E0 R0=>bk h fun z2 j2 h=>BD .plain I (Bn (α:=Tb) (ys:=([j0]:Lb Tb)) j2 E0 (fun _ _=>.t1) gA I I (AR G0 R0) (BH (α:=Tb) E0 .hd (AI (cs:=(ab j0)) (xs:=(([j0]:Lb Tb):Lb Tb)) E0 L (AE (cs:=(ab j0)) (ds:=[]) (ci j0.fN j0.fD) (AT _ _))))) fun v2 t3 ⟨s1,z1,H1,P1⟩=>Ah I<|Aa<|Ax<|Am<|Ac I<|Ab (Bc (i:=c0) (j:=1) I I (by omega))<|Ah I<|Aa ?_
 obtain ⟨A1,U0⟩:=AB z1 .d1
 exact u1 (c0 + 1,z2,v2,s1) A1 (Tt F0 (Tt R0 (Tt H1 U0))) (AR P1 U0) h
 refine AZ I ?_
 have h:=Y0 _ h
 try dsimp only at h
 obtain ⟨B1,V0⟩:=AB p0 (.a0 .done)
 exact I0 (g0,q0,k0) B1 (Tt F0 V0) (AR G0 V0) h
 refine Ap<|Ap<|Bs I I<|Aa<|Bz I<|AZ I ?_
 have h:=Y0 _ h
 try dsimp only at h
 obtain ⟨C1,W0⟩:=AB p0 (.a0 .done)
 exact I0 (g0,q0,k0) C1 (Tt F0 W0) (AR G0 W0) h
def aR_p (_n:Nat) (a0:Lb Ta):Oa (Lb Ta):=
  dP a0 (some ([]:Lb Ta)) ((app ([]:Lb Ta) a0).bind fun b0=>some b0)
theorem aR_c (n:Nat) {L w} (_hL:hl L w) {a0:Lb Ta} {v0_0:Vc} (h0_0:Rep.R w L [v0_0] a0)  {r:Lb Ta} (h:aR_p n a0 = some r) :
 Cl 98 #[v0_0] w (aj w fun w' u=>∃ (v0_0:Vc) (cs0_0:Lb Vc),u = v0_0/\St w w' (aX w.heap.size [(37,Rep.size Ta,v0_0,r.length,cs0_0)])/\Cells w' (bl (aX w.heap.size [(37,Rep.size Ta,v0_0,r.length,cs0_0)]) ++ L) cs0_0 (r:Lb Ta)):=by
 unfold aR_p at h
 have hS0:=AL w
 refine AM func98 I I I fun _ cs0 hb0=>Ae<|Ah I<|Aa<|Aj<|Ae<|Ac I ?_
 rcases Rep.nilOr h0_0 with ⟨c1,he3,hx4⟩ | ⟨ad2,c1,he3⟩
 have h:=oH h hx4
 refine Ab (FV.eqlNil1 underlying24 I he3 I)<|Aa<|AG I<|Ae<|Ah I<|Aa<|Ar I ?_
 have b0:=hS0.nilRow 37 (Rep.size Ta)
 have t0:=BW hS0 37 (Rep.size Ta)
 have k0:=AI (cs:=[]) (xs:=([]:Lb Ta)) b0 L (AT _ _)
 refine Au (u:=vN) hb0 func98 I (.cons (.tmp I) .nil) I ?_
 cases h
 exact ⟨b0.ag,fun w9 hw9=>⟨vN,[],I,b0.agree hw9,Cells.keep0 k0 hw9⟩⟩
 have h:=nP h
 refine Ab (FV.eqlNil0 underlying24 I he3 I)<|Aa<|Bz I<|Aq<|Ae<|Ao .plain I (jB Ta hS0 cW) fun x0 s0 c0 u0=>Ac I<|bk h fun z0 q0 h=>BD .plain I (Bn (α:=Ta) (ys:=a0) q0 c0 (fun _ _=>.hd) cW I I (jD Ta c0 L) (Src.rep (AH h0_0 c0))) fun g0 y0 ⟨j0,d0,v0,p0⟩=>Ah I<|Aa<|Ar I<|Au (u:=g0) hb0 func98 I (.cons (.tmp I) .nil) I ?_
 cases h
 exact ⟨d0.ag,fun w9 hw9=>⟨g0,j0,I,d0.agree hw9,Cells.keep0 p0 hw9⟩⟩
structure Tl where
  fWhat:UInt8
  fm:UInt8
  fA:Tb
  deriving DecidableEq
instance:Rep Tl:=Rep.via (β:=UInt8 × UInt8 × Tb) fun x=>(x.fWhat,x.fm,x.fA)
def gP (x:Tl):Lb Vc:=[.int .u8 (x.fWhat.toNat:Int),.int .u8 (x.fm.toNat:Int),vU x.fA.fN.1,vU x.fA.fN.2.1,vU x.fA.fN.2.2.1,vU x.fA.fN.2.2.2.1,vU x.fA.fN.2.2.2.2.1,vU x.fA.fN.2.2.2.2.2.1,vU x.fA.fN.2.2.2.2.2.2.1,vU x.fA.fN.2.2.2.2.2.2.2,vU x.fA.fD.1,vU x.fA.fD.2.1,vU x.fA.fD.2.2.1,vU x.fA.fD.2.2.2.1,vU x.fA.fD.2.2.2.2.1,vU x.fA.fD.2.2.2.2.2.1,vU x.fA.fD.2.2.2.2.2.2.1,vU x.fA.fD.2.2.2.2.2.2.2]
def cb_p (n:Nat) (a0:Tl) (a1:Lb Ta):Oa (Lb Ta):=
  (aR_p n a1).bind fun b0=>(cg ((a0.fm.toNat:Nat):Int) ((b0.length:Nat):Int)).bind fun c0=>(if ((a0.fWhat % (5:UInt8)).toNat) = 0 then (idx b0 c0).bind fun g0=>(put b0 ((c0.toNat:Nat):Int) (⟨a0.fA,g0.fP⟩:Ta)).bind fun q0=>some q0 else (if ((a0.fWhat % (5:UInt8)).toNat) = 1 then (idx b0 c0).bind fun j0=>(put b0 ((c0.toNat:Nat):Int) (⟨j0.fm,a0.fA⟩:Ta)).bind fun s0=>some s0 else (if ((a0.fWhat % (5:UInt8)).toNat) = 2 then (idx b0 c0).bind fun k0=>(app b0 ([k0]:Lb Ta)).bind fun p0=>some p0 else (if ((a0.fWhat % (5:UInt8)).toNat) = 3 then (chk (c0 + 1)).bind fun d0=>(chk3 b0.length c0 d0).bind fun _u142=>(if c0 = d0 then some b0 else some ((clr (⟨(⟨(0,0,0,0,0,0,0,0),(0,0,0,0,0,0,0,0)⟩:Tb),(⟨(0,0,0,0,0,0,0,0),(0,0,0,0,0,0,0,0)⟩:Tb)⟩:Ta) (ins b0 c0.toNat d0.toNat (b0.length - d0.toNat)) (c0.toNat + (b0.length - d0.toNat)) (b0.length - (c0.toNat + (b0.length - d0.toNat)))).take (c0.toNat + (b0.length - d0.toNat)))) else some b0))))
theorem cb_c (n:Nat) {L w} (hL:hl L w) (a0:Tl) {a1:Lb Ta} {v1_0:Vc} (h1_0:Rep.R w L [v1_0] a1)  {r:Lb Ta} (h:cb_p n a0 a1 = some r) :
 Cl 36 #[.agg ((gP a0)).toArray,v1_0] w (aj w fun w' u=>∃ v0_0:Vc,u = v0_0/\Rep.R w' L [v0_0] r):=by
 unfold cb_p at h
 refine AM func36 I I I fun _ cs0 hb0=>Ae<|RG.bx (AL w) I I fun Q4 t3 u0 Y3=>Ah I<|Aa<|Ae<|Ac I<|bk h fun d0 b3 h=>jE (bd 98) I (e1 I) (fun w9 hw9=>bK (b0:=w.heap.size) (aR_c n (u0.hL hL hw9) (u0.km h1_0 hw9) b3) hw9 (Nat.le_trans u0.ag.size hw9.size)) I fun W4 q0 u4 ⟨P4,E1,Q2,j1,U1⟩=>?_
 subst Q2
 have c0:=ca u0 j1
 have k4:=dR u0 j1
 have k0:=AI (cs:=E1) (xs:=(d0:Lb Ta)) c0 L (bJ U1)
 refine Ah I<|Aa<|Ae<|Bm 1 I<|Bf I ((c0.memA .t1) 1 _ I) ?_
 have F4:=a0.fm.toNat_lt
 refine Ab (FV.convN (i:=a0.fm.toNat) underlying5 underlying3 I (by omega))<|Ac I ?_
 have z4:d0.length <= 4294967296:=St.rowLe (α:=Ta) c0 .hd
 obtain ⟨q3,z3,d2⟩:=St.rowV (α:=Ta) c0 .hd
 refine Ab (FV.lenV underlying24 I d2)<|bk h fun g0 K2 h=>Ab (FV.remc (i:=((a0.fm.toNat:Nat):Int)) (j:=((d0.length:Nat):Int)) I I K2)<|Ah I<|Aa<|Aj<|Ae<|Bm 0 I<|Bf I ((c0.memA .t1) 0 _ I)<|Ab (FV.rem8 (a:=a0.fWhat) (b:=(5:UInt8)) I I (by decide))<|Aa<|Av<|Ae<|Ab (FV.eqlN (i:=(a0.fWhat % (5:UInt8)).toNat) (j:=0) I I)<|Ah I<|Aa<|AV I h (fun B1 h=>?_) (fun B1 h=>?_)
 refine Am<|Ac I<|Ac I<|Bm 2 I<|Ab (AN (cs:=(ab a0.fA)) I I (ac (c0.memA .t1) 2 16))<|bk h fun Q0 R2 h=>?_
 obtain ⟨p2,d1⟩:=aR R2
 obtain ⟨s1,A3,J0,b1,M3,D2,A4⟩:=BS (α:=Ta) c0 .hd k0 d1
 obtain ⟨x1,B3,X0⟩:=BC (α:=Ta) c0 .hd b1
 obtain rfl:s1 = ⟨x1,0,none⟩:=by rw [X0] at J0; cases J0; rfl
 obtain rfl:=aF D2
 refine Ab (Be 32 (g0.toNat) I J0 I p2 b1)<|Bm 0 I ?_
 obtain ⟨C3,g2,v4,P3,E2,B4,X1⟩:=St.nthAt (α:=Ta) c0 .hd k0 d1 X0
 obtain rfl:=aF E2
 refine bk h fun d3 Y2 h=>RG.acts' .plain (Acts.setPart (α:=Ta) (i:=g0.toNat) (tot:=0) (ds:=(av Q0)) (news:=(ab a0.fA)) (full:=(ab a0.fA ++ ab Q0.fP)) Y2 c0 g2 (fun _=>.hd) k0 X1 I I I I I I (aW a0.fA Q0.fP) I (ai I)) fun Y4 ⟨Q3,E0,p4,V1⟩=>Aa<|Ax<|Ae<|Ac I<|Ah I<|Aa<|Ar I ?_
 have F0:=Bu E0 .hd
 have q4:=Bv E0 .hd
 have F2:=Bw (α:=Ta) (v:=q0) (xs:=d3) F0 L (Bi (α:=Ta) E0 .hd V1 hL)
 refine Bb hb0 func36 I I ?_
 cases h
 exact ⟨F0.ag,fun w9 hw9=>⟨q0,I,F0.kd F2 hw9⟩⟩
 refine Ae<|Ab (FV.eqlN (i:=(a0.fWhat % (5:UInt8)).toNat) (j:=1) I I)<|Ah I<|Aa<|AV I h (fun C1 h=>?_) (fun C1 h=>?_)
 refine Am<|Ac I<|Ac I<|Bm 2 I<|Ab (AN (cs:=(ab a0.fA)) I I (ac (c0.memA .t1) 2 16))<|bk h fun R0 U2 h=>?_
 obtain ⟨q2,g1⟩:=aR U2
 obtain ⟨u1,D3,K0,c1,R3,G2,C4⟩:=BS (α:=Ta) c0 .hd k0 g1
 obtain ⟨y1,E3,Y0⟩:=BC (α:=Ta) c0 .hd c1
 obtain rfl:u1 = ⟨y1,0,none⟩:=by rw [Y0] at K0; cases K0; rfl
 obtain rfl:=aF G2
 refine Ab (Be 32 (g0.toNat) I K0 I q2 c1)<|Bm 16 I ?_
 obtain ⟨F3,j2,x4,U3,H2,D4,Y1⟩:=St.nthAt (α:=Ta) c0 .hd k0 g1 Y0
 obtain rfl:=aF H2
 refine bk h fun g3 Z2 h=>RG.acts' .plain (Acts.setPart (α:=Ta) (i:=g0.toNat) (tot:=16) (ds:=(av R0)) (news:=(ab a0.fA)) (full:=(ab R0.fm ++ ab a0.fA)) Z2 c0 j2 (fun _=>.hd) k0 Y1 I I I I I I (aW R0.fm a0.fA) I (ai I)) fun Z4 ⟨V3,G0,s4,W1⟩=>Aa<|Ax<|Ae<|Ac I<|Ah I<|Aa<|Ar I ?_
 have H0:=Bu G0 .hd
 have t4:=Bv G0 .hd
 have I2:=Bw (α:=Ta) (v:=q0) (xs:=g3) H0 L (Bi (α:=Ta) G0 .hd W1 hL)
 refine Bb hb0 func36 I I ?_
 cases h
 exact ⟨H0.ag,fun w9 hw9=>⟨q0,I,H0.kd I2 hw9⟩⟩
 refine Ae<|Ab (FV.eqlN (i:=(a0.fWhat % (5:UInt8)).toNat) (j:=2) I I)<|Ah I<|Aa<|AV I h (fun D1 h=>?_) (fun D1 h=>?_)
 refine Am<|Ac I<|Ac I<|Ac I<|bk h fun s0 V2 h=>?_
 obtain ⟨s2,W2⟩:=aR V2
 obtain ⟨q1,u3,I0,Z0,G3,y2,t2⟩:=BS (α:=Ta) c0 .hd k0 W2
 obtain ⟨v1,v3,Z1⟩:=BC (α:=Ta) c0 .hd Z0
 obtain rfl:q1 = ⟨v1,0,none⟩:=by rw [Z1] at I0; cases I0; rfl
 obtain rfl:=aF y2
 refine Ab (Be 32 (g0.toNat) I I0 I s2 Z0)<|Ab (Az I t2)<|Ao .plain I (AW (α:=Ta) (xs:=([s0]:Lb Ta)) (vs:=[.agg ((av s0)).toArray]) (ds' :=(av s0)) I c0 cW I (e1 I) (by kernel_rfl) I) fun R4 s3 v0 H1=>bk h fun c3 X2 h=>BD .plain I (Bn (α:=Ta) (ys:=([s0]:Lb Ta)) X2 v0 (fun _ _=>.t1) cW I I (AR k0 H1) (BH (α:=Ta) v0 .hd (AI (cs:=(av s0)) (xs:=(([s0]:Lb Ta):Lb Ta)) v0 L (AE (cs:=(av s0)) (ds:=[]) (aW s0.fm s0.fP) (AT _ _))))) fun p1 U4 ⟨H3,y0,W3,M1⟩=>Ah I<|Aa<|Ax<|Ae<|Ac I<|Ah I<|Aa<|Ar I ?_
 have z0:=Bu y0 .t1
 have X3:=Bv y0 .t1
 have z2:=Bw (α:=Ta) (v:=p1) (xs:=c3) z0 L (Bi (α:=Ta) y0 .t1 M1 hL)
 refine Bb hb0 func36 I I ?_
 cases h
 exact ⟨z0.ag,fun w9 hw9=>⟨p1,I,z0.kd z2 hw9⟩⟩
 refine Ae<|Ab (FV.eqlN (i:=(a0.fWhat % (5:UInt8)).toNat) (j:=3) I I)<|Ah I<|Aa<|AV I h (fun z1 h=>?_) (fun z1 h=>?_)
 refine Am<|Ac I<|Ac I<|Ac I<|bk h fun j0 J2 h=>Ab (FV.addc (i:=g0) (j:=1) I I J2)<|BE (fst:=[]) (cap:=[]) (vs:=[q0,vI g0,vI j0]) .plain (bd 99) func99 I I I I (e3 I I I) I fun I3 U0 E4=>Ae<|Ah I<|Aa<|Ae<|Ac I<|Ac I<|Ac I<|Ac I ?_
 obtain ⟨j3,x3,b2⟩:=St.rowV (α:=Ta) c0 .hd
 refine Ab (FV.lenV underlying24 I b2)<|bk h fun G4 M2 h=>?_
 obtain ⟨I1,V0,W0,J1,K1⟩:=chk3_in M2
 refine RG.valE .plain I (FV.cut3Pt (k1:=.i64) (k2:=.i64) (k3:=.i64) (l:=g0.toNat) (u:=j0.toNat) (q:=d0.length) I (Pt.whole (α:=Ta) c0 .hd I1) J1 K1 (by omega) I (by rw [<- V0]; rfl) (by rw [<- W0]; rfl) I) fun I4 _=>Aa<|Aj<|Ae<|Ac I<|Ac I<|Ab (FV.eql (i:=g0) (j:=j0) I I)<|Aa<|AV I h (fun A1 h=>?_) (fun A1 h=>?_)
 refine Ae<|Ac I<|Ah I<|Aa<|Ar I<|Au (u:=q0) U0 func99 I (.cons (.tmp I) .nil) I<|Ah I<|Aa<|Ax<|Ae<|Ac I<|Ah I<|Aa<|Ar I ?_
 have A0:=Bu c0 .hd
 have Z3:=Bv c0 .hd
 have A2:=Bw (α:=Ta) (v:=q0) (xs:=d0) A0 L (Bi (α:=Ta) c0 .hd k0 hL)
 refine Bb hb0 func36 I I ?_
 cases h
 exact ⟨A0.ag,fun w9 hw9=>⟨q0,I,A0.kd A2 hw9⟩⟩
 refine Aq<|Ae<|Ac I ?_
 obtain ⟨p3,y3,c2⟩:=St.rowV (α:=Ta) c0 .hd
 refine Ab (FV.lenV underlying24 I c2)<|Ah I<|Aa<|Aj<|du 6 fun p0 t0=>Rv 0 p0 I t0 (fun _=>Al I)<|Rv 1 p0 I t0 (fun _=>Al I)<|RD.valE (i:=2) (m' :=7) (W:=192) (tk p0) I t0 .plain I (FV.cutPt (l:=0) (u:=g0.toNat) (l2:=0) (m2:=g0.toNat) I (Pt.whole (α:=Ta) c0 .hd (by omega)) (by omega) (by omega) (by omega) (by omega) I I ⟨.i64,by rw [<- V0]; rfl⟩) fun J4 u2=>Rv 3 p0 I t0 (fun _=>Al I)<|Rv 4 p0 I t0 (fun _=>Al I)<|RD.valE (i:=5) (m' :=63) (W:=192) (tk p0) I t0 .plain I (FV.cutPt (l:=j0.toNat) (u:=d0.length) (l2:=j0.toNat) (m2:=d0.length - j0.toNat) I (Pt.whole (α:=Ta) c0 .hd (by omega)) (by omega) (by omega) (by omega) (by omega) I ⟨.i64,by rw [<- W0]; rfl⟩ I) fun K4 v2=>?_
 have y4:=ip (xs:=d0) (i:=g0.toNat) (j:=j0.toNat) (k:=d0.length - j0.toNat) (by omega) (by omega)
 refine BK (i:=6) (rk p0) (RO.doesL (m' :=127) (sk p0) I I .plain I (DoesL.appIn (α:=Ta) (i:=g0.toNat) (j:=j0.toNat) (k:=d0.length - j0.toNat) c0 u2 v2 (by omega) (fun _=>.hd) cW I I k0) (fun P0 V4 ⟨M0,J3,F1,b4,P1⟩=>?_))
 refine BK (i:=7) (rk p0) (BV (m' :=255) (sk p0) I .plain I (Bj I) ?_)
 refine AK (dk p0)<|Ae<|Ac I<|Ac I<|Ab (FV.lenSub underlying24 (Pt.sub M0) I)<|Ac I<|RG.valE .plain I (FV.cutPt (l:=g0.toNat + (d0.length - j0.toNat)) (u:=d0.length) (l2:=g0.toNat + (d0.length - j0.toNat)) (m2:=d0.length - (g0.toNat + (d0.length - j0.toNat))) I M0 (by omega) (by omega) (by omega) (by omega) I ⟨.i64,I⟩ ⟨.i64,I⟩) fun M4 x2=>RG.doesN .plain (DoesL.clear (α:=Ta) (x0:=(⟨(⟨(0,0,0,0,0,0,0,0),(0,0,0,0,0,0,0,0)⟩:Tb),(⟨(0,0,0,0,0,0,0,0),(0,0,0,0,0,0,0,0)⟩:Tb)⟩:Ta)) F1 (Pt.sub x2) (fun _=>.hd) cW I P1 (fun _ _=>(aW (⟨(0,0,0,0,0,0,0,0),(0,0,0,0,0,0,0,0)⟩:Tb) (⟨(0,0,0,0,0,0,0,0),(0,0,0,0,0,0,0,0)⟩:Tb)))) fun H4 X4 ⟨P2,K3,G1,c4,Q1⟩=>?_
 subst P2
 refine Aa<|Ae<|Ac I ?_
 obtain ⟨B0,d4,R1⟩:=St.shrink (α:=Ta) (m:=g0.toNat + (d0.length - j0.toNat)) G1 (Pt.len (n2:=(clr (⟨(⟨(0,0,0,0,0,0,0,0),(0,0,0,0,0,0,0,0)⟩:Tb),(⟨(0,0,0,0,0,0,0,0),(0,0,0,0,0,0,0,0)⟩:Tb)⟩:Ta) (ins d0 g0.toNat j0.toNat (d0.length - j0.toNat)) (g0.toNat + (d0.length - j0.toNat)) (d0.length - (g0.toNat + (d0.length - j0.toNat)))).length) M0 (by first | rfl | exact iG (by omega))) .hd Q1
 refine Ah I<|Aa<|Ar I<|Au (u:=P0) U0 func99 I (.cons (.tmp I) .nil) I<|Ah I<|Aa<|Ax<|Ae<|Ac I<|Ah I<|Aa<|Ar I ?_
 have C0:=Bu B0 .hd
 have g4:=Bv B0 .hd
 have B2:=Bw (α:=Ta) (v:=P0) (xs:=(clr (⟨(⟨(0,0,0,0,0,0,0,0),(0,0,0,0,0,0,0,0)⟩:Tb),(⟨(0,0,0,0,0,0,0,0),(0,0,0,0,0,0,0,0)⟩:Tb)⟩:Ta) (ins d0 g0.toNat j0.toNat (d0.length - j0.toNat)) (g0.toNat + (d0.length - j0.toNat)) (d0.length - (g0.toNat + (d0.length - j0.toNat)))).take (g0.toNat + (d0.length - j0.toNat))) C0 L (Bi (α:=Ta) B0 .hd R1 hL)
 refine Bb hb0 func36 I I ?_
 cases h
 exact ⟨C0.ag,fun w9 hw9=>⟨P0,I,C0.kd B2 hw9⟩⟩
 refine Aq<|Ax<|Ae<|Ac I<|Ah I<|Aa<|Ar I ?_
 have D0:=Bu c0 .hd
 have j4:=Bv c0 .hd
 have C2:=Bw (α:=Ta) (v:=q0) (xs:=d0) D0 L (Bi (α:=Ta) c0 .hd k0 hL)
 refine Bb hb0 func36 I I ?_
 cases h
 exact ⟨D0.ag,fun w9 hw9=>⟨q0,I,D0.kd C2 hw9⟩⟩
def cm_p (_n:Nat) (a0:Ua) (a1:Ua):Oa Bool:=
  some (!(decide (a0 = a1)))
theorem cm_c (n:Nat) {L w} (_hL:hl L w) (a0:Ua) (a1:Ua) {p1:Nat} (m1:∀ j9 v9,([vU a1]:Lb Vc)[j9]? = some v9 -> w.cell? ((⟨p1,0,none⟩:Addr).add j9) = some v9)  {r:Bool} (h:cm_p n a0 a1 = some r) :
 Cl 151 #[vU a0,.pointer (some ⟨p1,0,none⟩)] w (aj w fun _ u=>u = .bool r):=by
 unfold cm_p at h
 have hS0:=AL w
 refine AM func151 I I I fun _ cs0 hb0=>Ae<|Ah I<|Aa<|Ae<|Ac I<|Bf I ((fun j9 v9 h9=>hS0.ag.cell0 (m1 j9 v9 h9)) 0 _ I)<|Ab (FV.neqU (a:=a0) (b:=a1) I I)<|Ah I<|Aa<|Ar I<|Bb hb0 func151 I I ?_
 cases h
 exact hS0.gv
def au_l1 (n:Nat) (a0:U8) (c0:Nat -> Oa (Bool ⊕ Unit)):Nat -> Oa (Bool ⊕ Unit)
  | b0=>(if b0 < (([a0.2.2.1,a0.2.2.2.1,a0.2.2.2.2.1,a0.2.2.2.2.2.1,a0.2.2.2.2.2.2.1,a0.2.2.2.2.2.2.2]:Lb Ua).length) then (([a0.2.2.1,a0.2.2.2.1,a0.2.2.2.2.1,a0.2.2.2.2.2.1,a0.2.2.2.2.2.2.1,a0.2.2.2.2.2.2.2]:Lb Ua)[b0]?).bind fun d0=>(cm_p n d0 (ae (shrS (aB a0.2.2.2.2.2.2.2) 63))).bind fun g0=>(if g0 = true then some (.inl (!(decide (0 <= b0)))) else c0 (b0 + 1)) else some (.inr ()))
def au_p (n:Nat) (a0:U8):Oa Bool:=
  thn (ao (au_l1 n a0) n 0) (fun _=>some (!(decide (0 <= (-1)))))
theorem au_c (n:Nat) {L w} (hL:hl L w) (a0:U8)  {r:Bool} (h:au_p n a0 = some r) :
 Cl 100 #[.agg ((ak a0)).toArray] w (aj w fun _ u=>u = .bool r):=by
 unfold au_p at h
 refine AM func100 I I I fun _ cs0 hb0=>Ae<|RG.bx (AL w) I I fun j1 c0 p0 W0=>Ah I<|Aa<|Ae<|Ab (AP (m:=1) (k:=7) (len:=8) I I I I (by omega))<|Bf I ((p0.memA .hd) 7 _ I)<|Ab (FV.convUI (a:=a0.2.2.2.2.2.2.2) underlying30 underlying2 I)<|Ab (FV.shrS (i:=aB a0.2.2.2.2.2.2.2) (j:=63) I I)<|Ab (FV.convU (i:=shrS (aB a0.2.2.2.2.2.2.2) 63) underlying2 underlying30 I)<|RG.nl [vW 0] p0 fun k1 d0 C0 X0=>AQ [vW ((ae (shrS (aB a0.2.2.2.2.2.2.2) 63)).toNat:Int)] C0 .hd (o1 I) fun p1 j0 Y0=>Aa<|Ae<|Ab (FV.as (FV.sliceAL (len:=8) (m:=1) (l:=2) (p:=⟨c0,0,none⟩) I I I (by decide)) (u:=.slice (some (Addr.add ⟨c0,0,none⟩ 2)) 6 6) I) ?_
 have q0:=Bu j0 .t1
 have Z0:=Bv j0 .t1
 have k0:=Bw (α:=Ua) (v:=.slice (some (Addr.add ⟨c0,0,none⟩ 2)) 6 6) (xs:=([a0.2.2.1,a0.2.2.2.1,a0.2.2.2.2.1,a0.2.2.2.2.2.1,a0.2.2.2.2.2.2.1,a0.2.2.2.2.2.2.2]:Lb Ua)) q0 L (St.freezeA (α:=Ua) (lo:=2) (xs:=([a0.2.2.1,a0.2.2.2.1,a0.2.2.2.2.1,a0.2.2.2.2.2.1,a0.2.2.2.2.2.2.1,a0.2.2.2.2.2.2.2]:Lb Ua)) j0 .t1 I (AE (cs:=[vU a0.2.2.1]) (ds:=[vU a0.2.2.2.1,vU a0.2.2.2.2.1,vU a0.2.2.2.2.2.1,vU a0.2.2.2.2.2.2.1,vU a0.2.2.2.2.2.2.2]) I (AE (cs:=[vU a0.2.2.2.1]) (ds:=[vU a0.2.2.2.2.1,vU a0.2.2.2.2.2.1,vU a0.2.2.2.2.2.2.1,vU a0.2.2.2.2.2.2.2]) I (AE (cs:=[vU a0.2.2.2.2.1]) (ds:=[vU a0.2.2.2.2.2.1,vU a0.2.2.2.2.2.2.1,vU a0.2.2.2.2.2.2.2]) I (AE (cs:=[vU a0.2.2.2.2.2.1]) (ds:=[vU a0.2.2.2.2.2.2.1,vU a0.2.2.2.2.2.2.2]) I (AE (cs:=[vU a0.2.2.2.2.2.2.1]) (ds:=[vU a0.2.2.2.2.2.2.2]) I (AE (cs:=[vU a0.2.2.2.2.2.2.2]) (ds:=[]) I (AT _ _))))))) (Nat.le_of_ble_eq_true I) hL)
 refine Ab (FV.makeFunc (vs:=[]) (us:=[vP d0]) am (e1 I))<|BE (fst:=[]) (cap:=[]) (vs:=[(.slice (some (Addr.add ⟨c0,0,none⟩ 2)) 6 6),.func (.func 151) #[] #[vP d0]]) .plain (bd 150) func150 I I I I (e2 I I) I fun U0 t0 c1=>Ae<|Ah I<|Aa<|Ae<|Ac I<|Ac I<|BE (fst:=[]) (cap:=[]) (vs:=[(.slice (some (Addr.add ⟨c0,0,none⟩ 2)) 6 6),.func (.func 151) #[] #[vP d0]]) .plain (bd 179) func179 I I I I (e2 I I) I fun V0 u0 d1=>Ae<|Ah I<|Aa<|Aj<|Ae<|Ac I ?_
 have b1:([a0.2.2.1,a0.2.2.2.1,a0.2.2.2.2.1,a0.2.2.2.2.2.1,a0.2.2.2.2.2.2.1,a0.2.2.2.2.2.2.2]:Lb Ua).length <= 281474976710656:=AY k0
 refine Ab (Ba (xs:=([a0.2.2.1,a0.2.2.2.1,a0.2.2.2.2.1,a0.2.2.2.2.2.1,a0.2.2.2.2.2.2.1,a0.2.2.2.2.2.2.2]:Lb Ua)) underlying105 I k0)<|Ac I<|Aa<|Av<|tn h fun g1 H0 v0=>MX.lo (α:=Nat) (fun b0=>[(0,(.slice (some (Addr.add ⟨c0,0,none⟩ 2)) 6 6)),(1,.func (.func 151) #[] #[vP d0]),(7,vI ((([a0.2.2.1,a0.2.2.2.1,a0.2.2.2.2.1,a0.2.2.2.2.2.1,a0.2.2.2.2.2.2.1,a0.2.2.2.2.2.2.2]:Lb Ua).length:Nat):Int)),(8,vn b0)]) (fun b0=>[.cells d0 [vW ((ae (shrS (aB a0.2.2.2.2.2.2.2) 63)).toNat:Int)] 30]) (fun b0=>b0) 0 H0 q0 ?_
 rintro Q0 b0 q1 B0 g0 s0 h
 unfold au_l1 at h
 try dsimp only at h
 refine Ae<|Ab (AU (i:=b0) (j:=([a0.2.2.1,a0.2.2.2.1,a0.2.2.2.2.1,a0.2.2.2.2.2.1,a0.2.2.2.2.2.2.1,a0.2.2.2.2.2.2.2]:Lb Ua).length) I I)<|Aa<|Aj<|AV I h (fun y0 h=>?_) (fun y0 h=>?_)
 refine Aq<|Aj<|Av<|Ae<|Ac I<|Ah I<|Aa<|Ae<|Ac I<|Ac I<|Ac I<|bk h fun x0 J0 h=>?_
 obtain ⟨P0,R0,D0,F0,A0,I0,G0⟩:=Bh (Ag k0 s0) J0
 have E0:A0 = [vU x0]:=I0; subst E0
 refine Ab (Be 1 b0 I D0 I I F0)<|Bf I (G0 0 _ I)<|bk h fun M0 K0 h=>BG (v:=.bool M0) (fst:=[]) (cap:=[vP d0]) .plain (bd 151) I (e1 I) (fun w9 hw9=>cm_c n (g0.hL0 hL hw9) x0 (ae (shrS (aB a0.2.2.2.2.2.2.2) 63)) (aJ hw9 (g0.memA .hd)) K0) I<|Aa<|MX.ifb I h (fun z0 h=>?_) (fun z0 h=>?_)
 refine Ae<|Ac I<|Ah I<|Aa ?_
 have h:=aH h v0
 refine Ar I<|Au (u:=vn b0) u0 func179 I (.cons (.tmp I) .nil) I<|Ab (FV.geqN (i:=b0) (j:=0) I I)<|Ah I<|Aa<|Ar I<|Au (u:=.bool (decide (0 <= b0))) t0 func150 I (.cons (.tmp I) .nil) I<|Ab (Bx I)<|Ah I<|Aa<|Ar I<|Bb hb0 func100 I I ?_
 cases h
 exact g0.gv
 refine Aq<|Ax<|Am<|Ab (Bc (i:=b0) (j:=1) I I (by omega))<|Ac I<|Aa<|B0 (b0 + 1) g0 s0 h
 refine AZ I ?_
 have h:=bc h v0
 try dsimp only at h
 refine Ae<|Ah I<|Aa<|Ar I<|Au (u:=vI (-1)) u0 func179 I (.cons (.tmp I) .nil) I<|Ab (FV.geq (i:=(-1)) (j:=0) I I)<|Ah I<|Aa<|Ar I<|Au (u:=.bool (decide (0 <= (-1)))) t0 func150 I (.cons (.tmp I) .nil) I<|Ab (Bx I)<|Ah I<|Aa<|Ar I<|Bb hb0 func100 I I ?_
 cases h
 exact g0.gv
def bM_l1 (n:Nat) (y5:Lb Ta) (c0:Nat × (Lb Ta) -> Oa (Lb Ta)):Nat × (Lb Ta) -> Oa (Lb Ta)
  | (b0,d0)=>(if b0 < y5.length then (d0[b0]?).bind fun g0=>(au_p n g0.fm.fN).bind fun z0=>(if z0 = true then (au_p n g0.fm.fD).bind fun A0=>jn (fun p0=>(p0[b0]?).bind fun j0=>(au_p n j0.fP.fN).bind fun B0=>(if B0 = true then (au_p n j0.fP.fD).bind fun C0=>(if C0 = true then c0 (b0 + 1,p0) else (put p0 ((b0:Nat):Int) (⟨j0.fm,(⟨(0,0,0,0,0,0,0,0),(0,0,0,0,0,0,0,0)⟩:Tb)⟩:Ta)).bind fun t0=>c0 (b0 + 1,t0)) else (put p0 ((b0:Nat):Int) (⟨j0.fm,(⟨(0,0,0,0,0,0,0,0),(0,0,0,0,0,0,0,0)⟩:Tb)⟩:Ta)).bind fun u0=>c0 (b0 + 1,u0))) (fun s0=>(if A0 = true then s0 d0 else (put d0 ((b0:Nat):Int) (⟨(⟨(0,0,0,0,0,0,0,0),(0,0,0,0,0,0,0,0)⟩:Tb),g0.fP⟩:Ta)).bind fun v0=>s0 v0)) else (put d0 ((b0:Nat):Int) (⟨(⟨(0,0,0,0,0,0,0,0),(0,0,0,0,0,0,0,0)⟩:Tb),g0.fP⟩:Ta)).bind fun q0=>(q0[b0]?).bind fun k0=>(au_p n k0.fP.fN).bind fun D0=>(if D0 = true then (au_p n k0.fP.fD).bind fun E0=>(if E0 = true then c0 (b0 + 1,q0) else (put q0 ((b0:Nat):Int) (⟨k0.fm,(⟨(0,0,0,0,0,0,0,0),(0,0,0,0,0,0,0,0)⟩:Tb)⟩:Ta)).bind fun x0=>c0 (b0 + 1,x0)) else (put q0 ((b0:Nat):Int) (⟨k0.fm,(⟨(0,0,0,0,0,0,0,0),(0,0,0,0,0,0,0,0)⟩:Tb)⟩:Ta)).bind fun y0=>c0 (b0 + 1,y0))) else some d0)
def bM_p (n:Nat) (a0:Lb Ta):Oa (Lb Ta):=
  (cut a0 0 ((min a0.length 6:Nat):Int)).bind fun xs2=>(aR_p n xs2).bind fun y5=>Option.bind (ao (bM_l1 n y5) n (0,y5)) (fun b0=>some b0)
theorem bM_c (n:Nat) {L w} (hL:hl L w) {a0:Lb Ta} {v0_0:Vc} (h0_0:Rep.R w L [v0_0] a0)  {r:Lb Ta} (h:bM_p n a0 = some r) :
 Cl 37 #[v0_0] w (aj w fun w' u=>∃ v0_0:Vc,u = v0_0/\Rep.R w' L [v0_0] r):=by
 unfold bM_p at h
 have hS0:=AL w
 refine AM func37 I I I fun _ cs0 hb0=>Ae<|Ah I<|Aa<|Ae<|Ac I<|Ac I ?_
 have hl1:=AY h0_0
 refine Ab (Ba (xs:=a0) underlying24 I h0_0)<|Ab (FV.min2N (i:=a0.length) (j:=6) I I)<|bk h fun xs2 hxs2 h=>RG.valE .plain I (FV.cutL (α:=Ta) hxs2 I I h0_0 I ⟨_,I⟩) fun v3 hr4=>bk h fun y5 hy5 h=>jE (bd 98) I (e1 I) (fun w9 hw9=>bK (b0:=w.heap.size) (aR_c n (hS0.hL hL hw9) (Af hr4 hw9) hy5) hw9 (Nat.le_trans hS0.ag.size hw9.size)) I fun w6 vu7 hag8 ⟨E7,z1,X4,s9,M3⟩=>?_
 subst X4
 have K0:=ca hS0 s9
 have X6:=dR hS0 s9
 refine Ah I<|Aa<|Aj<|Ae<|Ac I ?_
 have k7:y5.length <= 4294967296:=St.rowLe (α:=Ta) K0 .hd
 obtain ⟨I5,R5,d4⟩:=St.rowV (α:=Ta) K0 .hd
 refine Ab (FV.lenV underlying24 I d4)<|Ac I<|Aa<|Av ?_
 obtain ⟨D7,B4,x4⟩:=ap h
 refine BP (α:=Nat × (Lb Ta) × (Lb Vc)) (fun ⟨c0,s0,x0⟩=>[(3,vu7),(14,vn y5.length),(15,vn c0)]) (fun ⟨c0,s0,x0⟩=>[rr w 37 Ta vu7 s0.length x0]) (fun ⟨c0,s0,x0⟩ j2=>Cells j2 (bl [rr w 37 Ta vu7 s0.length x0] ++ L) x0 s0) (fun ⟨c0,s0,x0⟩=>(c0,s0)) (0,y5,z1) B4 K0 (AI (cs:=z1) (xs:=(y5:Lb Ta)) K0 L (bJ M3)) ?_
 rintro J5 ⟨c0,s0,x0⟩ j2 z0 A0 B0 G0 h
 unfold bM_l1 at h
 try dsimp only at h
 refine Ae<|Ab (AU (i:=c0) (j:=y5.length) I I)<|Aa<|Aj<|AV I h (fun K2 h=>?_) (fun K2 h=>?_)
 refine Aq<|Aj<|Av<|Ae<|Ac I<|Ah I<|Aa<|Aj<|Ae<|Ac I<|Ac I<|bk h fun k0 H0 h=>?_
 obtain ⟨p2,U5,X0,Q1,D6,C4,y4⟩:=BS (α:=Ta) A0 .hd G0 H0
 obtain ⟨B2,V5,g4⟩:=BC (α:=Ta) A0 .hd Q1
 obtain rfl:p2 = ⟨B2,0,none⟩:=by rw [g4] at X0; cases X0; rfl
 obtain rfl:=aF C4
 refine Ab (Be 32 c0 I X0 I I Q1)<|Bm 0 I<|Ab (AN (cs:=(ab k0.fm)) I I (ac y4 0 16))<|RG.nl zL A0 fun F7 M5 d3 t0=>AQ (ab k0.fm) d3 .hd (ai I) fun G7 d0 u0=>Aa<|Ae<|Bm 0 I<|Ab (AN (cs:=(ak k0.fm.fN)) I I (ac (d0.memA .hd) 0 8))<|bk h fun C5 j5 h=>Bd (.bool C5) (bd 100) I (e1 I) (fun w9 hw9=>au_c n (d0.hL0 hL hw9) k0.fm.fN j5) I<|Ab (Bx I)<|Ac I<|BQ (s:=27) I h (fun M2 h=>?_) (fun M2 h=>?_)
 refine RG.fg 8 I<|AJ (AN (cs:=(ak k0.fm.fD)) I I (ac (d0.memA .hd) 8 8))<|bk h fun D5 k5 h=>BG (v:=.bool D5) (fst:=[]) (cap:=[]) (.yes I I) (bd 100) I (e1 I) (fun w9 hw9=>au_c n (d0.hL0 hL hw9) k0.fm.fD k5) I<|AJ (Bx I)<|Bs I I<|Aa<|MX.jf (α:=(Lb Ta) × (Lb Vc)) (fun ⟨v0,y0⟩=>[(3,vu7),(14,vn y5.length),(15,vn c0),(4,vn c0)]) (fun ⟨v0,y0⟩=>[rr w 37 Ta vu7 v0.length y0]) (fun ⟨v0,y0⟩ k2=>Cells k2 (bl [rr w 37 Ta vu7 v0.length y0] ++ L) y0 v0) (fun ⟨v0,y0⟩=>v0) d0 h ?_ ?_
 rintro ⟨v0,y0⟩ k2 Q0 V0 M0 h
 try dsimp only at h
 refine Ae<|Ac I<|Ac I<|bk h fun p0 I0 h=>?_
 obtain ⟨q2,W5,Y0,R1,E6,D4,z4⟩:=BS (α:=Ta) Q0 .hd M0 I0
 obtain ⟨C2,X5,j4⟩:=BC (α:=Ta) Q0 .hd R1
 obtain rfl:q2 = ⟨C2,0,none⟩:=by rw [j4] at Y0; cases Y0; rfl
 obtain rfl:=aF D4
 refine Ab (Be 32 c0 I Y0 I I R1)<|Bm 16 I<|Ab (AN (cs:=(ab p0.fP)) I I (ac z4 16 16))<|RG.nl zL Q0 fun H7 P5 g3 C0=>AQ (ab p0.fP) g3 .hd (ai I) fun I7 g0 D0=>Aa<|Ae<|Bm 0 I<|Ab (AN (cs:=(ak p0.fP.fN)) I I (ac (g0.memA .hd) 0 8))<|bk h fun E5 p5 h=>Bd (.bool E5) (bd 100) I (e1 I) (fun w9 hw9=>au_c n (g0.hL0 hL hw9) p0.fP.fN p5) I<|Ab (Bx I)<|Ac I<|BQ (s:=47) I h (fun P2 h=>?_) (fun P2 h=>?_)
 refine RG.fg 8 I<|AJ (AN (cs:=(ak p0.fP.fD)) I I (ac (g0.memA .hd) 8 8))<|bk h fun F5 q5 h=>BG (v:=.bool F5) (fst:=[]) (cap:=[]) (.yes I I) (bd 100) I (e1 I) (fun w9 hw9=>au_c n (g0.hL0 hL hw9) p0.fP.fD q5) I<|AJ (Bx I)<|Bs I I<|Aa<|MX.ifnb I h (fun Q2 h=>?_) (fun Q2 h=>?_)
 refine Aq<|Ax<|Am<|Ab (Bc (i:=c0) (j:=1) I I (by omega))<|Ac I<|Aa ?_
 obtain ⟨j3,E3⟩:=AB g0 .d1
 have c2:=Tt C0 (Tt D0 E3)
 exact z0 (c0 + 1,v0,y0) j3 (Tt B0 (Tt t0 (Tt u0 (Tt V0 c2)))) (AR M0 c2) h
 refine Am<|Ac I<|Ac I<|Ab (AS (vs:=[]) (u:=.agg zM) am (fun w9=>by kernel_rfl)) ?_
 have q1:=AR M0 (Tt C0 D0)
 obtain ⟨s2,Y5,Z0,U1,F6,E4,p7⟩:=BS (α:=Ta) g0 .t1 q1 I0
 obtain ⟨D2,Z5,H1⟩:=BC (α:=Ta) g0 .t1 U1
 obtain rfl:s2 = ⟨D2,0,none⟩:=by rw [H1] at Z0; cases Z0; rfl
 obtain rfl:=aF E4
 refine Ab (Be 32 c0 I Z0 I I U1)<|Bm 16 I ?_
 obtain ⟨b6,k4,Z6,G6,F4,q7,W3⟩:=St.nthAt (α:=Ta) g0 .t1 q1 I0 H1
 obtain rfl:=aF F4
 refine bk h fun u5 Y4 h=>RG.acts' .plain (Acts.setPart (α:=Ta) (i:=c0) (tot:=16) (ds:=(av p0)) (news:=zL) (full:=(ab p0.fm ++ (zL:Lb Vc))) Y4 g0 k4 (fun _=>.t1) q1 W3 I I I I I I (aW p0.fm (⟨(0,0,0,0,0,0,0,0),(0,0,0,0,0,0,0,0)⟩:Tb)) I (ai I)) fun J7 ⟨W2,k3,F3,P3⟩=>Aa<|Ax<|Am<|Ab (Bc (i:=c0) (j:=1) I I (by omega))<|Ac I<|Aa ?_
 obtain ⟨p3,B1⟩:=AB k3 .d1
 exact z0 (c0 + 1,u5,W2) p3 (Tt B0 (Tt t0 (Tt u0 (Tt V0 (Tt C0 (Tt D0 (Tt F3 B1))))))) (AR P3 B1) h
 refine Ap<|Ap<|Ap<|Ap<|Bk I I<|Aa<|AG I<|Am<|Ac I<|Ac I<|Ab (AS (vs:=[]) (u:=.agg zM) am (fun w9=>by kernel_rfl)) ?_
 have s1:=AR M0 (Tt C0 D0)
 obtain ⟨u2,c6,b1,V1,H6,G4,s7⟩:=BS (α:=Ta) g0 .t1 s1 I0
 obtain ⟨E2,d6,I1⟩:=BC (α:=Ta) g0 .t1 V1
 obtain rfl:u2 = ⟨E2,0,none⟩:=by rw [I1] at b1; cases b1; rfl
 obtain rfl:=aF G4
 refine Ab (Be 32 c0 I b1 I I V1)<|Bm 16 I ?_
 obtain ⟨g6,p4,b7,I6,H4,t7,X3⟩:=St.nthAt (α:=Ta) g0 .t1 s1 I0 I1
 obtain rfl:=aF H4
 refine bk h fun v5 Z4 h=>RG.acts' .plain (Acts.setPart (α:=Ta) (i:=c0) (tot:=16) (ds:=(av p0)) (news:=zL) (full:=(ab p0.fm ++ (zL:Lb Vc))) Z4 g0 p4 (fun _=>.t1) s1 X3 I I I I I I (aW p0.fm (⟨(0,0,0,0,0,0,0,0),(0,0,0,0,0,0,0,0)⟩:Tb)) I (ai I)) fun K7 ⟨X2,q3,G3,Q3⟩=>Aa<|Ax<|Am<|Ab (Bc (i:=c0) (j:=1) I I (by omega))<|Ac I<|Aa ?_
 obtain ⟨s3,C1⟩:=AB q3 .d1
 exact z0 (c0 + 1,v5,X2) s3 (Tt B0 (Tt t0 (Tt u0 (Tt V0 (Tt C0 (Tt D0 (Tt G3 C1))))))) (AR Q3 C1) h
 intro K5 A1 h
 try dsimp only at h
 refine MX.ifnb I h (fun R2 h=>?_) (fun R2 h=>?_)
 refine Aq ?_
 obtain ⟨t3,D1⟩:=AB d0 .d1
 exact A1 (s0,x0) t3 D1 (AR G0 (Tt t0 (Tt u0 D1))) h
 refine Am<|Ac I<|Ac I<|Ab (AS (vs:=[]) (u:=.agg zM) am (fun w9=>by kernel_rfl)) ?_
 have u1:=AR G0 (Tt t0 u0)
 obtain ⟨v2,j6,c1,W1,J6,I4,u7⟩:=BS (α:=Ta) d0 .t1 u1 H0
 obtain ⟨F2,k6,J1⟩:=BC (α:=Ta) d0 .t1 W1
 obtain rfl:v2 = ⟨F2,0,none⟩:=by rw [J1] at c1; cases c1; rfl
 obtain rfl:=aF I4
 refine Ab (Be 32 c0 I c1 I I W1)<|Bm 0 I ?_
 obtain ⟨p6,q4,c7,K6,J4,v7,Y3⟩:=St.nthAt (α:=Ta) d0 .t1 u1 H0 J1
 obtain rfl:=aF J4
 refine bk h fun x5 b5 h=>RG.acts' .plain (Acts.setPart (α:=Ta) (i:=c0) (tot:=0) (ds:=(av k0)) (news:=zL) (full:=((zL:Lb Vc) ++ ab k0.fP)) b5 d0 q4 (fun _=>.t1) u1 Y3 I I I I I I (aW (⟨(0,0,0,0,0,0,0,0),(0,0,0,0,0,0,0,0)⟩:Tb) k0.fP) I (ai I)) fun M7 ⟨Y2,u3,H3,R3⟩=>Aa ?_
 obtain ⟨x3,E1⟩:=AB u3 .d1
 exact A1 (x5,Y2) x3 (Tt H3 E1) (AR R3 E1) h
 refine Ap<|Ap<|Ap<|Ap<|Bk I I<|Aa<|AG I<|Am<|Ac I<|Ac I<|Ab (AS (vs:=[]) (u:=.agg zM) am (fun w9=>by kernel_rfl)) ?_
 have v1:=AR G0 (Tt t0 u0)
 obtain ⟨x2,q6,g1,X1,M6,K4,x7⟩:=BS (α:=Ta) d0 .t1 v1 H0
 obtain ⟨G2,s6,K1⟩:=BC (α:=Ta) d0 .t1 X1
 obtain rfl:x2 = ⟨G2,0,none⟩:=by rw [K1] at g1; cases g1; rfl
 obtain rfl:=aF K4
 refine Ab (Be 32 c0 I g1 I I X1)<|Bm 0 I ?_
 obtain ⟨t6,s4,d7,P6,M4,y7,Z3⟩:=St.nthAt (α:=Ta) d0 .t1 v1 H0 K1
 obtain rfl:=aF M4
 refine bk h fun z5 c5 h=>RG.acts' .plain (Acts.setPart (α:=Ta) (i:=c0) (tot:=0) (ds:=(av k0)) (news:=zL) (full:=((zL:Lb Vc) ++ ab k0.fP)) c5 d0 s4 (fun _=>.t1) v1 Z3 I I I I I I (aW (⟨(0,0,0,0,0,0,0,0),(0,0,0,0,0,0,0,0)⟩:Tb) k0.fP) I (ai I)) fun P7 ⟨Z2,R0,W0,P0⟩=>Aa<|Ae<|Ac I<|Ac I<|bk h fun q0 J0 h=>?_
 obtain ⟨y2,u6,j1,Y1,Q6,P4,A4⟩:=BS (α:=Ta) R0 .t1 P0 J0
 obtain ⟨H2,v6,t4⟩:=BC (α:=Ta) R0 .t1 Y1
 obtain rfl:y2 = ⟨H2,0,none⟩:=by rw [t4] at j1; cases j1; rfl
 obtain rfl:=aF P4
 refine Ab (Be 32 c0 I j1 I I Y1)<|Bm 16 I<|Ab (AN (cs:=(ab q0.fP)) I I (ac A4 16 16))<|RG.nl zL R0 fun Q7 Q5 y3 E0=>AQ (ab q0.fP) y3 .hd (ai I) fun R7 j0 F0=>Aa<|Ae<|Bm 0 I<|Ab (AN (cs:=(ak q0.fP.fN)) I I (ac (j0.memA .hd) 0 8))<|bk h fun G5 s5 h=>Bd (.bool G5) (bd 100) I (e1 I) (fun w9 hw9=>au_c n (j0.hL0 hL hw9) q0.fP.fN s5) I<|Ab (Bx I)<|Ac I<|BQ (s:=47) I h (fun U2 h=>?_) (fun U2 h=>?_)
 refine RG.fg 8 I<|AJ (AN (cs:=(ak q0.fP.fD)) I I (ac (j0.memA .hd) 8 8))<|bk h fun H5 t5 h=>BG (v:=.bool H5) (fst:=[]) (cap:=[]) (.yes I I) (bd 100) I (e1 I) (fun w9 hw9=>au_c n (j0.hL0 hL hw9) q0.fP.fD t5) I<|AJ (Bx I)<|Bs I I<|Aa<|MX.ifnb I h (fun V2 h=>?_) (fun V2 h=>?_)
 refine Aq<|Ax<|Am<|Ab (Bc (i:=c0) (j:=1) I I (by omega))<|Ac I<|Aa ?_
 obtain ⟨z3,I3⟩:=AB j0 .d2
 have g2:=Tt E0 (Tt F0 I3)
 exact z0 (c0 + 1,z5,Z2) z3 (Tt B0 (Tt t0 (Tt u0 (Tt W0 g2)))) (AR P0 g2) h
 refine Am<|Ac I<|Ac I<|Ab (AS (vs:=[]) (u:=.agg zM) am (fun w9=>by kernel_rfl)) ?_
 have x1:=AR P0 (Tt E0 F0)
 obtain ⟨z2,x6,k1,Z1,R6,Q4,z7⟩:=BS (α:=Ta) j0 .t2 x1 J0
 obtain ⟨I2,y6,M1⟩:=BC (α:=Ta) j0 .t2 Z1
 obtain rfl:z2 = ⟨I2,0,none⟩:=by rw [M1] at k1; cases k1; rfl
 obtain rfl:=aF Q4
 refine Ab (Be 32 c0 I k1 I I Z1)<|Bm 16 I ?_
 obtain ⟨z6,u4,g7,U6,R4,A7,b4⟩:=St.nthAt (α:=Ta) j0 .t2 x1 J0 M1
 obtain rfl:=aF R4
 refine bk h fun A5 d5 h=>RG.acts' .plain (Acts.setPart (α:=Ta) (i:=c0) (tot:=16) (ds:=(av q0)) (news:=zL) (full:=(ab q0.fm ++ (zL:Lb Vc))) d5 j0 u4 (fun _=>.t2) x1 b4 I I I I I I (aW q0.fm (⟨(0,0,0,0,0,0,0,0),(0,0,0,0,0,0,0,0)⟩:Tb)) I (ai I)) fun U7 ⟨b3,A3,J3,U3⟩=>Aa<|Ax<|Am<|Ab (Bc (i:=c0) (j:=1) I I (by omega))<|Ac I<|Aa ?_
 obtain ⟨B3,F1⟩:=AB A3 .d2
 exact z0 (c0 + 1,A5,b3) B3 (Tt B0 (Tt t0 (Tt u0 (Tt W0 (Tt E0 (Tt F0 (Tt J3 F1))))))) (AR U3 F1) h
 refine Ap<|Ap<|Ap<|Ap<|Bk I I<|Aa<|AG I<|Am<|Ac I<|Ac I<|Ab (AS (vs:=[]) (u:=.agg zM) am (fun w9=>by kernel_rfl)) ?_
 have y1:=AR P0 (Tt E0 F0)
 obtain ⟨A2,A6,p1,b2,V6,U4,B7⟩:=BS (α:=Ta) j0 .t2 y1 J0
 obtain ⟨J2,B6,P1⟩:=BC (α:=Ta) j0 .t2 b2
 obtain rfl:A2 = ⟨J2,0,none⟩:=by rw [P1] at p1; cases p1; rfl
 obtain rfl:=aF U4
 refine Ab (Be 32 c0 I p1 I I b2)<|Bm 16 I ?_
 obtain ⟨C6,v4,j7,W6,V4,C7,c4⟩:=St.nthAt (α:=Ta) j0 .t2 y1 J0 P1
 obtain rfl:=aF V4
 refine bk h fun B5 g5 h=>RG.acts' .plain (Acts.setPart (α:=Ta) (i:=c0) (tot:=16) (ds:=(av q0)) (news:=zL) (full:=(ab q0.fm ++ (zL:Lb Vc))) g5 j0 v4 (fun _=>.t2) y1 c4 I I I I I I (aW q0.fm (⟨(0,0,0,0,0,0,0,0),(0,0,0,0,0,0,0,0)⟩:Tb)) I (ai I)) fun V7 ⟨c3,C3,K3,V3⟩=>Aa<|Ax<|Am<|Ab (Bc (i:=c0) (j:=1) I I (by omega))<|Ac I<|Aa ?_
 obtain ⟨D3,G1⟩:=AB C3 .d2
 exact z0 (c0 + 1,B5,c3) D3 (Tt B0 (Tt t0 (Tt u0 (Tt W0 (Tt E0 (Tt F0 (Tt K3 G1))))))) (AR V3 G1) h
 refine AZ I ?_
 have h:=x4 _ h
 try dsimp only at h
 refine Ae<|Ac I<|Ah I<|Aa<|Ar I ?_
 have U0:=Bu A0 .hd
 have Y6:=Bv A0 .hd
 have W4:=Bw (α:=Ta) (v:=vu7) (xs:=s0) U0 L (Bi (α:=Ta) A0 .hd G0 hL)
 refine Bb hb0 func37 I I ?_
 cases h
 exact ⟨U0.ag,fun w9 hw9=>⟨vu7,I,U0.kd W4 hw9⟩⟩
def al_p (n:Nat):Oa Tf:=
  (bf_p n (0:Int) (1:Int)).bind fun b0=>some b0
theorem al_c (n:Nat) {L w} (hL:hl L w)  {r:Tf} (h:al_p n = some r) :
 Cl 116 #[] w (aj w fun w' u=>∃ v0_1 v0_3:Vc,u = .agg #[.bool r.fN.fc,v0_1,.bool r.fD.fc,v0_3]/\Rep.R w' L [v0_1] r.fN.fD/\Rep.R w' L [v0_3] r.fD.fD):=by
 unfold al_p at h
 refine AM func116 I I I fun _ cs0 hb0=>Ae<|RG.nl [.bool false,vN,.bool false,vN] (AL w) fun A0 v0 j0 x0=>Aa<|Ae<|bk h fun c0 u0 h=>jE (bd 97) I (e2 I I) (fun w9 hw9=>bf_c n (j0.hL hL hw9)  u0) I fun B0 z0 t0 ⟨d0,g0,hu_,p0,q0⟩=>?_
 subst hu_
 obtain ⟨s0,y0⟩:=j0.agr t0
 refine AQ [.bool c0.fN.fc,d0,.bool c0.fD.fc,g0] s0 .hd (o4 I (Ay p0) I (Ay q0)) fun C0 b0 k0=>Aa<|Ar I<|Au hb0 func116 I (.cons (.many (cs:=[.bool c0.fN.fc,d0,.bool c0.fD.fc,g0]) I I (b0.memA .hd)) .nil) I ?_
 cases h
 exact ⟨b0.ag,fun w9 hw9=>⟨d0,g0,I,b0.kd (Ag p0 k0) hw9,b0.kd (Ag q0 k0) hw9⟩⟩
def ce_p (n:Nat):Oa Tf:=
  (bf_p n (1:Int) (1:Int)).bind fun b0=>some b0
theorem ce_c (n:Nat) {L w} (hL:hl L w)  {r:Tf} (h:ce_p n = some r) :
 Cl 121 #[] w (aj w fun w' u=>∃ v0_1 v0_3:Vc,u = .agg #[.bool r.fN.fc,v0_1,.bool r.fD.fc,v0_3]/\Rep.R w' L [v0_1] r.fN.fD/\Rep.R w' L [v0_3] r.fD.fD):=by
 unfold ce_p at h
 refine AM func121 I I I fun _ cs0 hb0=>Ae<|RG.nl [.bool false,vN,.bool false,vN] (AL w) fun A0 v0 j0 x0=>Aa<|Ae<|bk h fun c0 u0 h=>jE (bd 97) I (e2 I I) (fun w9 hw9=>bf_c n (j0.hL hL hw9)  u0) I fun B0 z0 t0 ⟨d0,g0,hu_,p0,q0⟩=>?_
 subst hu_
 obtain ⟨s0,y0⟩:=j0.agr t0
 refine AQ [.bool c0.fN.fc,d0,.bool c0.fD.fc,g0] s0 .hd (o4 I (Ay p0) I (Ay q0)) fun C0 b0 k0=>Aa<|Ar I<|Au hb0 func121 I (.cons (.many (cs:=[.bool c0.fN.fc,d0,.bool c0.fD.fc,g0]) I I (b0.memA .hd)) .nil) I ?_
 cases h
 exact ⟨b0.ag,fun w9 hw9=>⟨d0,g0,I,b0.kd (Ag p0 k0) hw9,b0.kd (Ag q0 k0) hw9⟩⟩
def aq_l1 (n:Nat) (a0:Lb Ta) (t0:Nat × Bool × (Lb Int) × Bool × (Lb Int) -> Oa (Bool ⊕ (Bool × (Lb Int) × Bool × (Lb Int)))):Nat × Bool × (Lb Int) × Bool × (Lb Int) -> Oa (Bool ⊕ (Bool × (Lb Int) × Bool × (Lb Int)))
  | (b0,j0,p0,k0,q0)=>(if b0 < a0.length then (a0[b0]?).bind fun c0=>(aJ_p n c0.fm).bind fun v0=>(if v0 = true then (aJ_p n c0.fP).bind fun x0=>(if x0 = true then (aG_p n c0.fP).bind fun s0=>(al_p n).bind fun y0=>(ap_p n s0 y0).bind fun z0=>(if z0 <= 0 then some (.inl false) else (if 0 < b0 then (a0[b0 - 1]?).bind fun u0=>(aG_p n u0.fm).bind fun A0=>(aG_p n c0.fm).bind fun B0=>(ap_p n A0 B0).bind fun C0=>(if 0 <= C0 then some (.inl false) else (aw_p n (⟨(⟨j0,p0⟩:Te),(⟨k0,q0⟩:Te)⟩:Tf) s0).bind fun d0=>t0 (b0 + 1,d0.fN.fc,d0.fN.fD,d0.fD.fc,d0.fD.fD)) else (aw_p n (⟨(⟨j0,p0⟩:Te),(⟨k0,q0⟩:Te)⟩:Tf) s0).bind fun g0=>t0 (b0 + 1,g0.fN.fc,g0.fN.fD,g0.fD.fc,g0.fD.fD))) else some (.inl false)) else some (.inl false)) else some (.inr (j0,p0,k0,q0)))
def aq_p (n:Nat) (a0:Lb Ta):Oa Bool:=
  (if a0.length < 1 then some false else (if 400 < a0.length then some false else (al_p n).bind fun y4=>thn (ao (aq_l1 n a0) n (0,y4.fN.fc,y4.fN.fD,y4.fD.fc,y4.fD.fD)) (fun (b0,d0,c0,g0)=>(ce_p n).bind fun j0=>(ap_p n (⟨(⟨b0,d0⟩:Te),(⟨c0,g0⟩:Te)⟩:Tf) j0).bind fun k0=>some (decide (k0 = 0)))))
theorem aq_c (n:Nat) {L w} (hL:hl L w) {a0:Lb Ta} {v0_0:Vc} (h0_0:Rep.R w L [v0_0] a0)  {r:Bool} (h:aq_p n a0 = some r) :
 Cl 101 #[v0_0] w (aj w fun _ u=>u = .bool r):=by
 unfold aq_p at h
 have hS0:=AL w
 refine AM func101 I I I fun _ cs0 hb0=>Ae<|Ah I<|Aa<|Aj<|Ae<|Ac I ?_
 have hl1:=AY h0_0
 refine Ab (Ba (xs:=a0) underlying24 I h0_0)<|Ab (AU (i:=a0.length) (j:=1) I I)<|Ac I<|RG.ifd (s:=9) I h (fun c2 h=>?_) (fun c2 h=>?_)
 refine Ap<|Ap<|Ap<|Bk I I<|Aa<|AG I<|Ae<|Ah I<|Aa<|Ar I<|Bb hb0 func101 I I ?_
 cases h
 exact hS0.gv
 refine AJ (Al I)<|AJ (Ba (xs:=a0) underlying24 I h0_0)<|AJ (FV.gtrN (i:=a0.length) (j:=400) I I)<|Bs I I<|Aa<|AV I h (fun c3 h=>?_) (fun c3 h=>?_)
 refine Ae<|Ah I<|Aa<|Ar I<|Bb hb0 func101 I I ?_
 cases h
 exact hS0.gv
 refine Aq<|Ae<|bk h fun y4 hy4 h=>jE (bd 116) I am (fun w9 hw9=>al_c n (hS0.hL hL hw9)  hy4) I fun w5 vu6 hag7 ⟨M1,P1,hu_,E1,F1⟩=>?_
 subst hu_
 obtain ⟨hS8,hT9⟩:=hS0.agr hag7
 refine RG.nl [.bool false,vN,.bool false,vN] hS8 fun H4 G0 q2 H0=>AQ [.bool y4.fN.fc,M1,.bool y4.fD.fc,P1] q2 .hd (o4 I (Ay (Ag E1 H0)) I (Ay (Ag F1 H0))) fun I4 s2 u1=>Aa<|Aj<|Ae<|Ah I<|Aa<|Av<|tn h fun k4 W2 D0=>BP (α:=Nat × Bool × (Lb Int) × Bool × (Lb Int) × Vc × Vc) (fun ⟨d0,j0,s0,k0,t0,u0,v0⟩=>[(0,v0_0),(3,vP G0),(4,vn d0)]) (fun ⟨d0,j0,s0,k0,t0,u0,v0⟩=>[.cells G0 [.bool j0,u0,.bool k0,v0] 144]) (fun ⟨d0,j0,s0,k0,t0,u0,v0⟩ p1=>Rep.R p1 (bl [.cells G0 [.bool j0,u0,.bool k0,v0] 144] ++ L) [u0] s0/\Rep.R p1 (bl [.cells G0 [.bool j0,u0,.bool k0,v0] 144] ++ L) [v0] t0) (fun ⟨d0,j0,s0,k0,t0,u0,v0⟩=>(d0,j0,s0,k0,t0)) (0,y4.fN.fc,y4.fN.fD,y4.fD.fc,y4.fD.fD,M1,P1) W2 s2 ⟨(Ag E1 (Tt H0 u1)),(Ag F1 (Tt H0 u1))⟩ ?_
 rintro X3 ⟨d0,j0,s0,k0,t0,u0,v0⟩ p1 q1 p0 v1 ⟨c1,g1⟩ h
 unfold aq_l1 at h
 try dsimp only at h
 refine Aj<|Ae<|Ac I<|Ac I ?_
 have z1:=AH h0_0 p0
 refine Ab (Ba (xs:=a0) underlying24 I z1)<|Ab (AU (i:=d0) (j:=a0.length) I I)<|Aa<|AV I h (fun b2 h=>?_) (fun b2 h=>?_)
 refine Aq<|Aj<|Av<|Aj<|Ae<|Ac I<|Ac I<|bk h fun x0 K1 h=>?_
 obtain ⟨U3,Z3,X0,Y0,d4,X2,Z0⟩:=Bh z1 K1
 obtain rfl:=aF X2
 refine Ab (Be 32 d0 I X0 I I Y0)<|Bm 0 I<|Ab (AN (cs:=(ab x0.fm)) I I (ac Z0 0 16))<|bk h fun J3 u3 h=>Bd (.bool J3) (bd 114) I (e1 I) (fun w9 hw9=>aJ_c n (p0.hL0 hL hw9) x0.fm u3) I<|Ab (Bx I)<|Ac I<|BQ (s:=28) I h (fun d2 h=>?_) (fun d2 h=>?_)
 refine AJ (Al I)<|AJ (Al I)<|AJ (Be 32 d0 I X0 I I Y0)<|RG.fg 16 I<|AJ (AN (cs:=(ab x0.fP)) I I (ac Z0 16 16))<|bk h fun K3 v3 h=>BG (v:=.bool K3) (fst:=[]) (cap:=[]) (.yes I I) (bd 114) I (e1 I) (fun w9 hw9=>aJ_c n (p0.hL0 hL hw9) x0.fP v3) I<|AJ (Bx I)<|Bs I I<|Aa<|MX.ifnb I h (fun g2 h=>?_) (fun g2 h=>?_)
 refine Aq<|Ae<|Ac I<|Ac I<|Ab (Be 32 d0 I X0 I I Y0)<|Bm 16 I<|Ab (AN (cs:=(ab x0.fP)) I I (ac Z0 16 16))<|bk h fun F0 x3 h=>jE (bd 104) I (e1 I) (fun w9 hw9=>aG_c n (p0.hL hL hw9) x0.fP x3) I fun J4 A4 E2 ⟨H3,I3,hu_,j1,k1⟩=>?_
 subst hu_
 obtain ⟨t2,I0⟩:=p0.agr E2
 refine RG.nl [.bool false,vN,.bool false,vN] t2 fun K4 Y3 u2 C0=>AQ [.bool F0.fN.fc,H3,.bool F0.fD.fc,I3] u2 .hd (o4 I (Ay (Ag j1 C0)) I (Ay (Ag k1 C0))) fun M4 M0 P0=>Aa<|Aj<|Aj<|du 25 fun b0 c0=>Rx 0 33554428 b0 I c0 (Az I (M0.memA .hd))<|bk h fun M3 y3 h=>AX 1 3 b0 I .plain (bd 116) I am (fun w9 hw9=>al_c n (M0.hL hL hw9)  y3) I fun P4 B4 F2 ⟨p4,q4,hu_,Y2,Z2⟩=>?_
 subst hu_
 obtain ⟨g0,Q0⟩:=M0.agr F2
 refine bk h fun X1 z3 h=>?_
 have E0:=Tt C0 (Tt P0 Q0)
 have A1:=Ag j1 E0
 have B1:=Ag k1 E0
 refine RD.cq 2 7 33554424 (vI X1) b0 I c0 (bd 120) I (e2 I I) (fun w9 hw9=>ap_c n (g0.hL0 hL hw9) F0 (g0.kd A1 hw9) (g0.kd B1 hw9) M3 (g0.kd Y2 hw9) (g0.kd Z2 hw9) z3) I<|Rv 3 b0 I c0 (fun _=>FV.leq (i:=X1) (j:=0) I I)<|Rv 4 b0 I c0 (fun _=>Al I)<|RD.ifd (s:=47) I h (fun j2 h=>?_) (fun j2 h=>?_)
 refine BF 16777215 1 [(5,48),(6,49),(7,50),(8,51),(9,52),(10,53),(11,54),(12,55),(13,56),(14,57),(15,58),(16,59),(17,60),(18,61),(19,62),(20,63),(21,64),(22,65),(23,66)] (F:=[(47,true)]) (U:=[]) b0 c0 (.cons I .nil) .nil ?_
 dsimp only [aO,List.map]
 refine Rv 24 b0 I c0 (fun _=>BT I I)<|AK (dk b0)<|AG I<|Ae<|Ah I<|Aa ?_
 have h:=aH h D0
 refine Ar I<|Bb hb0 func101 I I ?_
 cases h
 exact g0.gv
 refine BR 5 63 b0 I c0 (.yes I I) (fun _=>Al I) I<|BR 6 127 b0 I c0 (.yes I I) (fun _=>FV.gtrN (i:=d0) (j:=0) I I) I<|BR 7 255 b0 I c0 (.yes I I) (fun _=>Al I) I<|RD.ifd (s:=50) I h (fun k2 h=>?_) (fun k2 h=>?_)
 refine BR 8 511 b0 I c0 (.yes I I) (fun _=>Al I) I<|BR 9 1023 b0 I c0 (.yes I I) (fun _=>Al I) I<|BR 10 2047 b0 I c0 (.yes I I) (fun _=>FV.subN (i:=d0) (j:=1) I I (by omega) (by omega)) I<|bk h fun W1 t3 h=>?_
 have C1:=AH h0_0 g0
 obtain ⟨V3,b4,M2,Q2,g4,b3,U2⟩:=Bh C1 t3
 obtain rfl:=aF b3
 refine BR 11 4095 b0 I c0 (.yes I I) (fun _=>Be 32 (d0 - 1) I M2 I I Q2) I<|BR 12 8191 b0 I c0 (.yes I I) (fun _=>Bg 0 I) I<|RD.val (i:=13) (m' :=16383) (W:=32522240) (tk b0) I c0 (.yes I I) (AN (cs:=(ab W1.fm)) I I (ac U2 0 16)) I<|BR 15 49151 b0 I c0 (.yes I I) (fun _=>Al I) I<|BR 16 114687 b0 I c0 (.yes I I) (fun _=>Al I) I ?_
 obtain ⟨W3,c4,P2,R2,j4,d3,V2⟩:=Bh C1 K1
 obtain rfl:=aF d3
 refine BR 17 245759 b0 I c0 (.yes I I) (fun _=>Be 32 d0 I P2 I I R2) I<|BR 18 507903 b0 I c0 (.yes I I) (fun _=>Bg 0 I) I<|RD.val (i:=19) (m' :=1032191) (W:=32505856) (tk b0) I c0 (.yes I I) (AN (cs:=(ab x0.fm)) I I (ac V2 0 16)) I<|bk h fun P3 A3 h=>AX 14 1048575 b0 I (.yes I I) (bd 104) I (e1 I) (fun w9 hw9=>aG_c n (g0.hL hL hw9) W1.fm A3) I fun Q4 C4 G2 ⟨s4,t4,hu_,g3,j3⟩=>?_
 subst hu_
 obtain ⟨s1,x1⟩:=g0.agr G2
 refine bk h fun Q3 B3 h=>AX 20 2097151 b0 I (.yes I I) (bd 104) I (e1 I) (fun w9 hw9=>aG_c n (s1.hL hL hw9) x0.fm B3) I fun R4 D4 H2 ⟨u4,v4,hu_,k3,p3⟩=>?_
 subst hu_
 obtain ⟨q0,J0⟩:=s1.agr H2
 refine bk h fun Y1 C3 h=>RD.callq (i:=21) (m' :=4194303) (W:=29360128) (tk b0) I c0 (v:=vI Y1) (fst:=[]) (cap:=[]) (.yes I I) (bd 120) I (e2 I I) (fun w9 hw9=>ap_c n (q0.hL0 hL hw9) P3 (q0.kd (Ag g3 J0) hw9) (q0.kd (Ag j3 J0) hw9) Q3 (q0.kd k3 hw9) (q0.kd p3 hw9) C3) I<|BR 22 8388607 b0 I c0 (.yes I I) (fun _=>FV.geq (i:=Y1) (j:=0) I I) I<|BR 23 16777215 b0 I c0 (.yes I I) (fun _=>BT I I) I<|Rv 24 b0 I c0 (fun _=>Br I I)<|AK (dk b0)<|AV I h (fun p2 h=>?_) (fun p2 h=>?_)
 refine Ae<|Ah I<|Aa ?_
 have h:=aH h D0
 refine Ar I<|Bb hb0 func101 I I ?_
 cases h
 exact q0.gv
 refine Aq<|Am<|Ab (Az I (q0.memA .t1))<|Ab (Az I (q0.memA .hd))<|bk h fun A0 D3 h=>?_
 have b1:=Tt I0 (Tt C0 (Tt P0 (Tt Q0 (Tt x1 J0))))
 have D1:=Tt E0 (Tt x1 J0)
 refine jE (bd 110) I (e2 I I) (fun w9 hw9=>aw_c n (q0.hL hL hw9) (⟨(⟨j0,s0⟩:Te),(⟨k0,t0⟩:Te)⟩:Tf) (Af (Ag c1 b1) hw9) (Af (Ag g1 b1) hw9) F0 (Af (Ag j1 D1) hw9) (Af (Ag k1 D1) hw9) D3) I fun U4 E4 I2 ⟨Q1,R1,hu_,G1,H1⟩=>?_
 subst hu_
 obtain ⟨v2,C2⟩:=q0.agr I2
 refine AQ [.bool A0.fN.fc,Q1,.bool A0.fD.fc,R1] v2 .t1 (o4 I (Ay G1) I (Ay H1)) fun V4 x2 R0=>Aa<|Ax<|Am<|Ac I<|Ab (Bc (i:=d0) (j:=1) I I (by omega))<|Ah I<|Aa ?_
 obtain ⟨y2,U0⟩:=AB x2 .d1
 exact q1 (d0 + 1,A0.fN.fc,A0.fN.fD,A0.fD.fc,A0.fD.fD,Q1,R1) y2 (Tt v1 (Tt b1 (Tt C2 (Tt R0 U0)))) ⟨(Ag G1 (Tt R0 U0)),(Ag H1 (Tt R0 U0))⟩ h
 refine BF 8388607 2 [(8,51),(9,52),(10,53),(11,54),(12,55),(13,56),(14,57),(15,58),(16,59),(17,60),(18,61),(19,62),(20,63),(21,64),(22,65)] (F:=[(50,false)]) (U:=[]) b0 c0 (.cons I .nil) .nil ?_
 dsimp only [aO,List.map]
 refine BR 23 16777215 b0 I c0 (.yes I I) (fun _=>Br I I) I<|Rv 24 b0 I c0 (fun _=>Br I I)<|AK (dk b0)<|Bz I<|Aq<|Am<|Ab (Az I (g0.memA .t1))<|Ab (Az I (g0.memA .hd))<|bk h fun B0 E3 h=>jE (bd 110) I (e2 I I) (fun w9 hw9=>aw_c n (g0.hL hL hw9) (⟨(⟨j0,s0⟩:Te),(⟨k0,t0⟩:Te)⟩:Tf) (Af (Ag c1 (Tt I0 E0)) hw9) (Af (Ag g1 (Tt I0 E0)) hw9) F0 (Af A1 hw9) (Af B1 hw9) E3) I fun W4 F4 J2 ⟨U1,V1,hu_,I1,J1⟩=>?_
 subst hu_
 obtain ⟨z2,D2⟩:=g0.agr J2
 refine AQ [.bool B0.fN.fc,U1,.bool B0.fD.fc,V1] z2 .t1 (o4 I (Ay I1) I (Ay J1)) fun X4 A2 V0=>Aa<|Ax<|Am<|Ac I<|Ab (Bc (i:=d0) (j:=1) I I (by omega))<|Ah I<|Aa ?_
 obtain ⟨B2,W0⟩:=AB A2 .d1
 exact q1 (d0 + 1,B0.fN.fc,B0.fN.fD,B0.fD.fc,B0.fD.fD,U1,V1) B2 (Tt v1 (Tt I0 (Tt C0 (Tt P0 (Tt Q0 (Tt D2 (Tt V0 W0))))))) ⟨(Ag I1 (Tt V0 W0)),(Ag J1 (Tt V0 W0))⟩ h
 refine Ae<|Ah I<|Aa ?_
 have h:=aH h D0
 refine Ar I<|Bb hb0 func101 I I ?_
 cases h
 exact p0.gv
 refine Ap<|Ap<|Ap<|Ap<|Ap<|Ap<|Ap<|Bk I I<|Aa<|AG I<|Ae<|Ah I<|Aa ?_
 have h:=aH h D0
 refine Ar I<|Bb hb0 func101 I I ?_
 cases h
 exact p0.gv
 refine AZ I ?_
 have h:=bc h D0
 try dsimp only at h
 refine Aj<|du 5 fun z0 K0=>Rx 0 28 z0 I K0 (Az I (p0.memA .hd))<|bk h fun R3 F3 h=>AX 1 3 z0 I .plain (bd 121) I am (fun w9 hw9=>ce_c n (p0.hL hL hw9)  F3) I fun Y4 G4 K2 ⟨x4,z4,hu_,q3,s3⟩=>?_
 subst hu_
 obtain ⟨y0,y1⟩:=p0.agr K2
 refine bk h fun Z1 G3 h=>RD.cq 2 7 24 (vI Z1) z0 I K0 (bd 120) I (e2 I I) (fun w9 hw9=>ap_c n (y0.hL0 hL hw9) (⟨(⟨j0,s0⟩:Te),(⟨k0,t0⟩:Te)⟩:Tf) (y0.kd (Ag c1 y1) hw9) (y0.kd (Ag g1 y1) hw9) R3 (y0.kd q3 hw9) (y0.kd s3 hw9) G3) I<|Rv 3 z0 I K0 (fun _=>FV.eql (i:=Z1) (j:=0) I I)<|Rv 4 z0 I K0 (fun _=>Bj I)<|AK (dk z0)<|Ar I<|Bb hb0 func101 I I ?_
 cases h
 exact y0.gv
end Go.Proofs.YtkommhmbkbhmlaaGreat
