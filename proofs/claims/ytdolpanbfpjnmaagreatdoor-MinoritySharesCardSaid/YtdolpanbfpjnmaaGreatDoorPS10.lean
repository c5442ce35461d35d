import Derived.Test.YtdolpanbfpjnmaaGreatDoorPS8
namespace Go.Proofs.YtdolpanbfpjnmaaGreatDoor
open Go Go.RowKit Tryz
set_option maxRecDepth 4000
set_option maxHeartbeats 4000000

def bz_l1 (_n:Nat) (a0:List Int) (a1:List Int) (g0:Int × Int × (List Int) -> Option (List Int)):Int × Int × (List Int) -> Option (List Int)
  | (c0,b0,d0)=>(if b0 < ((a0.length:Nat):Int) then (idx a0 b0).bind fun C0=>(chk (c0 + C0)).bind fun k0=>jn (fun q0=>(bQ q0 4294967296).bind fun s0=>(app d0 ([s0]:List Int)).bind fun F0=>(cJ q0 4294967296).bind fun t0=>(chk (b0 + 1)).bind fun u0=>g0 (t0,u0,F0)) (fun j0=>(if b0 < ((a1.length:Nat):Int) then (idx a1 b0).bind fun D0=>(chk (k0 + D0)).bind fun v0=>j0 v0 else j0 k0)) else (if b0 < ((a1.length:Nat):Int) then (idx a1 b0).bind fun E0=>(chk (c0 + E0)).bind fun p0=>(bQ p0 4294967296).bind fun x0=>(app d0 ([x0]:List Int)).bind fun G0=>(cJ p0 4294967296).bind fun y0=>g0 (y0,b0 + 1,G0) else (if 0 < c0 then (bQ c0 4294967296).bind fun z0=>(app d0 ([z0]:List Int)).bind fun H0=>(cJ c0 4294967296).bind fun A0=>(chk (b0 + 1)).bind fun B0=>g0 (A0,B0,H0) else some d0)))
def bz_p (n:Nat) (a0:List Int) (a1:List Int):Option (List Int):=
  Option.bind (am (bz_l1 n a0 a1) n (0,0,([]:List Int))) (fun b0=>some b0)
theorem bz_c (n:Nat) {L w} (hL:hl L w) {a0:List Int} {v0_0:Value} (h0_0:Rep.R w L [v0_0] a0) {a1:List Int} {v1_0:Value} (h1_0:Rep.R w L [v1_0] a1)  {r:List Int} (h:bz_p n a0 a1 = some r) :
 Cl 180 #[v0_0,v1_0] w (ah w fun w' u=>∃ v0_0:Value,u = v0_0/\Rep.R w' L [v0_0] r):=by
 unfold bz_p at h
 have hS0:=Az w
 refine AG func180 rfl rfl rfl fun _ cs0 hb0=>Ac<|Af rfl<|Aa<|Ac<|Af rfl<|Aa<|Ac<|Af rfl<|Aa<|Ai<|Ac<|Af rfl<|Aa<|AA ?_
 have I0:=hS0.nilRow 3 (Rep.size Int)
 have B3:=St.nilRowT hS0 3 (Rep.size Int)
 obtain ⟨G3,j2,U1⟩:=aq h
 refine MX.lf (α:=Int × Int × (List Int) × Value × (List Value)) (fun ⟨g0,b0,j0,d0,k0⟩=>[(0,v0_0),(1,v1_0),(5,d0),(6,vI g0),(7,vI b0)]) (fun ⟨g0,b0,j0,d0,k0⟩=>[rr w 3 Int d0 j0.length k0]) (fun ⟨g0,b0,j0,d0,k0⟩ X0=>Cells X0 (bl [rr w 3 Int d0 j0.length k0] ++ L) k0 j0) (fun ⟨g0,b0,j0,d0,k0⟩=>(g0,b0,j0)) (0,0,([]:List Int),vN,[]) j2 I0 (AE (cs:=[]) (xs:=([]:List Int)) I0 L (AK _ _)) ?_
 rintro s3 ⟨g0,b0,j0,d0,k0⟩ X0 A0 c0 F0 y0 h
 unfold bz_l1 at h
 try dsimp only at h
 refine Ai<|Ac<|Ae rfl<|Ae rfl ?_
 have u0:=AS h0_0 c0
 have D3:a0.length <= 281474976710656:=Ba u0
 refine Ab (Bg (xs:=a0) underlying40 rfl u0)<|Ab (BK (i:=b0) (j:=((a0.length:Nat):Int)) rfl rfl)<|Ae rfl<|BA (s:=12) rfl h (fun x0 h=>?_) (fun x0 h=>?_)
 refine Au<|Au<|Au<|Au<|Bm rfl rfl<|Ae rfl<|Au<|Au<|Bm rfl rfl<|Aa<|Bb rfl<|Ar<|Ai<|AA<|Ai<|Ac<|Ae rfl<|Ae rfl<|Ab (Bg (xs:=a0) underlying40 rfl u0)<|Ab (BK (i:=b0) (j:=((a0.length:Nat):Int)) rfl rfl)<|Aa<|MX.cond_kt rfl (decide_eq_true x0)<|Ao<|Ae rfl<|Ae rfl<|Ae rfl<|bk h fun Y0 F2 h=>?_
 obtain ⟨V1,G2⟩:=aA F2
 obtain ⟨k3,y3,J1,Y1,j1,k2,c2⟩:=Bk u0 G2
 have K1:j1 = [vI Y0]:=k2; subst K1
 refine Ab (Bj 1 (b0.toNat) rfl J1 rfl V1 Y1)<|AR rfl (c2 0 _ rfl)<|bk h fun V0 t2 h=>Ab (BE (i:=g0) (j:=Y0) rfl rfl t2)<|Af rfl<|Aa<|Ai<|Ac<|Ae rfl<|Ae rfl ?_
 have G0:=AS h1_0 c0
 have E3:a1.length <= 281474976710656:=Ba G0
 refine Ab (Bg (xs:=a1) underlying40 rfl G0)<|Ab (BK (i:=b0) (j:=((a1.length:Nat):Int)) rfl rfl)<|Aa<|MX.jo (α:=Int) (fun t0=>[(0,v0_0),(1,v1_0),(5,d0),(6,vI t0),(7,vI b0)]) (fun t0=>[rr w 3 Int d0 j0.length k0]) (fun t0=>t0) c0 h ?_ ?_
 rintro t0 Q3 v1 J0 h
 try dsimp only at h
 refine Ac<|Ae rfl<|Ae rfl<|bk h fun p0 u2 h=>Ab (FV.remc (i:=t0) (j:=4294967296) rfl rfl u2)<|Aj .plain rfl (jA p0 (vI p0) v1 aw (e1 rfl)) fun H3 u3 B0 K0=>bk h fun d3 M2 h=>RG.doesL .plain rfl (Bo (α:=Int) (ys:=([p0]:List Int)) M2 B0 (fun _ _=>.t1) aw rfl rfl (AD y0 (Tt J0 K0)) (Src.row (α:=Int) B0 .hd (jC p0 (vI p0) B0 L rfl))) fun Z2 I3 ⟨k1,x1,D1,G1⟩=>Af rfl<|Aa<|Ao<|Ae rfl<|bk h fun R2 v2 h=>Ab (FV.quoc (i:=t0) (j:=4294967296) rfl rfl v2)<|Af rfl<|Aa<|AC<|Ao<|Ae rfl<|bk h fun U2 x2 h=>Ab (BE (i:=b0) (j:=1) rfl rfl x2)<|Af rfl<|Aa ?_
 obtain ⟨y1,M0⟩:=AI x1 .d1
 exact A0 (R2,U2,d3,Z2,k1) y1 (Tt F0 (Tt J0 (Tt K0 (Tt D1 M0)))) (AD G1 M0) h
 intro t3 H0 h
 try dsimp only at h
 refine AT rfl h (fun c1 h=>?_) (fun c1 h=>?_)
 refine Ao<|Ae rfl<|Ae rfl<|Ae rfl<|bk h fun Z0 H2 h=>?_
 obtain ⟨W1,I2⟩:=aA H2
 obtain ⟨p3,z3,M1,Z1,p1,p2,d2⟩:=Bk G0 I2
 have P1:p1 = [vI Z0]:=p2; subst P1
 refine Ab (Bj 1 (b0.toNat) rfl M1 rfl W1 Z1)<|AR rfl (d2 0 _ rfl)<|bk h fun V2 y2 h=>Ab (BE (i:=V0) (j:=Z0) rfl rfl y2)<|Af rfl<|Aa<|H0 V2 c0 (Bw _ _) h
 refine Ar<|H0 V0 c0 (Bw _ _) h
 refine AH (Ak rfl)<|AH (Ak rfl) ?_
 have v0:=AS h1_0 c0
 have F3:a1.length <= 281474976710656:=Ba v0
 refine AH (Bg (xs:=a1) underlying40 rfl v0)<|AH (BK (i:=b0) (j:=((a1.length:Nat):Int)) rfl rfl)<|Bv rfl rfl<|Ae rfl<|BA (s:=18) rfl h (fun z0 h=>?_) (fun z0 h=>?_)
 refine Au<|Au<|Bm rfl rfl<|Aa<|Bb rfl<|Ar<|Ai<|AA<|Ai<|Ac<|Ae rfl<|Ae rfl<|Ab (Bg (xs:=a0) underlying40 rfl u0)<|Ab (BK (i:=b0) (j:=((a0.length:Nat):Int)) rfl rfl)<|Aa<|MX.cond_kf rfl (decide_eq_false x0)<|Ar<|Ai<|Ac<|Ae rfl<|Ae rfl<|Ab (Bg (xs:=a1) underlying40 rfl v0)<|Ab (BK (i:=b0) (j:=((a1.length:Nat):Int)) rfl rfl)<|Aa<|MX.cond_kt rfl (decide_eq_true z0)<|Ao<|Ae rfl<|Ae rfl<|Ae rfl<|bk h fun b1 J2 h=>?_
 obtain ⟨X1,K2⟩:=aA J2
 obtain ⟨q3,A3,Q1,b2,q1,q2,g2⟩:=Bk v0 K2
 have R1:q1 = [vI b1]:=q2; subst R1
 refine Ab (Bj 1 (b0.toNat) rfl Q1 rfl X1 b2)<|AR rfl (g2 0 _ rfl)<|bk h fun W0 z2 h=>Ab (BE (i:=g0) (j:=b1) rfl rfl z2)<|Af rfl<|Aa<|Ac<|Ae rfl<|Ae rfl<|bk h fun q0 A2 h=>Ab (FV.remc (i:=W0) (j:=4294967296) rfl rfl A2)<|Aj .plain rfl (jA q0 (vI q0) c0 aw (e1 rfl)) fun J3 v3 C0 P0=>bk h fun g3 P2 h=>RG.doesL .plain rfl (Bo (α:=Int) (ys:=([q0]:List Int)) P2 C0 (fun _ _=>.t1) aw rfl rfl (AD y0 P0) (Src.row (α:=Int) C0 .hd (jC q0 (vI q0) C0 L rfl))) fun b3 K3 ⟨s1,z1,E1,H1⟩=>Af rfl<|Aa<|Ao<|Ae rfl<|bk h fun W2 B2 h=>Ab (FV.quoc (i:=W0) (j:=4294967296) rfl rfl B2)<|Af rfl<|Aa<|AC<|Ao<|Ae rfl<|Ab (FV.addI (i:=b0) (j:=1) rfl rfl (by omega))<|Af rfl<|Aa ?_
 obtain ⟨A1,Q0⟩:=AI z1 .d1
 exact A0 (W2,b0 + 1,g3,b3,s1) A1 (Tt F0 (Tt P0 (Tt E1 Q0))) (AD H1 Q0) h
 refine AH (Ak rfl)<|AH (FV.gtr (i:=g0) (j:=0) rfl rfl)<|Bv rfl rfl<|Aa<|AT rfl h (fun g1 h=>?_) (fun g1 h=>?_)
 refine Ar<|Ai<|AA<|Ai<|Ac<|Ae rfl<|Ae rfl<|Ab (Bg (xs:=a0) underlying40 rfl u0)<|Ab (BK (i:=b0) (j:=((a0.length:Nat):Int)) rfl rfl)<|Aa<|MX.cond_kf rfl (decide_eq_false x0)<|Ar<|Ai<|Ac<|Ae rfl<|Ae rfl<|Ab (Bg (xs:=a1) underlying40 rfl v0)<|Ab (BK (i:=b0) (j:=((a1.length:Nat):Int)) rfl rfl)<|Aa<|MX.cond_kf rfl (decide_eq_false z0)<|Ar<|Ac<|Ae rfl<|Ae rfl<|bk h fun s0 C2 h=>Ab (FV.remc (i:=g0) (j:=4294967296) rfl rfl C2)<|Aj .plain rfl (jA s0 (vI s0) c0 aw (e1 rfl)) fun M3 x3 D0 R0=>bk h fun j3 Q2 h=>RG.doesL .plain rfl (Bo (α:=Int) (ys:=([s0]:List Int)) Q2 D0 (fun _ _=>.t1) aw rfl rfl (AD y0 R0) (Src.row (α:=Int) D0 .hd (jC s0 (vI s0) D0 L rfl))) fun c3 P3 ⟨u1,B1,F1,I1⟩=>Af rfl<|Aa<|Ao<|Ae rfl<|bk h fun X2 D2 h=>Ab (FV.quoc (i:=g0) (j:=4294967296) rfl rfl D2)<|Af rfl<|Aa<|AC<|Ao<|Ae rfl<|bk h fun Y2 E2 h=>Ab (BE (i:=b0) (j:=1) rfl rfl E2)<|Af rfl<|Aa ?_
 obtain ⟨C1,U0⟩:=AI B1 .d1
 exact A0 (X2,Y2,j3,c3,u1) C1 (Tt F0 (Tt R0 (Tt F1 U0))) (AD I1 U0) h
 refine Be rfl ?_
 have h:=U1 _ h
 try dsimp only at h
 refine Ac<|Ae rfl<|Af rfl<|Aa<|Al rfl ?_
 have E0:=Br c0 .hd
 have C3:=Bs c0 .hd
 have s2:=Bu (α:=Int) (v:=d0) (xs:=j0) E0 L (Bf (α:=Int) c0 .hd y0 hL)
 refine AY hb0 func180 rfl rfl ?_
 cases h
 exact ⟨E0.ag,fun w9 hw9=>⟨d0,rfl,E0.kd s2 hw9⟩⟩
def bn_p (n:Nat) (a0:Tc) (a1:Tc):Option Tc:=
  (if (a0.fe == a1.fe) = true then (bz_p n a0.fD a1.fD).bind fun b0=>(aa_p n a0.fe b0).bind fun c0=>some c0 else (aM_p n a0.fD a1.fD).bind fun d0=>(if 0 <= d0 then (ao_p n a0.fD a1.fD).bind fun g0=>(aa_p n a0.fe g0).bind fun j0=>some j0 else (ao_p n a1.fD a0.fD).bind fun k0=>(aa_p n a1.fe k0).bind fun p0=>some p0))
theorem bn_c (n:Nat) {L w} (hL:hl L w) (a0:Tc) {v0_1:Value} (h0_1:Rep.R w L [v0_1] a0.fD) (a1:Tc) {v1_1:Value} (h1_1:Rep.R w L [v1_1] a1.fD)  {r:Tc} (h:bn_p n a0 a1 = some r) :
 Cl 148 #[.agg #[.bool a0.fe,v0_1],.agg #[.bool a1.fe,v1_1]] w (ah w fun w' u=>∃ v0_1:Value,u = .agg #[.bool r.fe,v0_1]/\Rep.R w' L [v0_1] r.fD):=by
 unfold bn_p at h
 refine AG func148 rfl rfl rfl fun _ cs0 hb0=>Ac<|RG.bx (Az w) rfl rfl fun b2 A1 M0 D1=>RG.bx M0 rfl rfl fun c2 B1 P0 E1=>RG.nl [.bool false,vN] P0 fun d2 C1 b0 F1=>Aa<|Ai<|Ac<|AX 0 rfl<|AR rfl ((b0.memA .t2) 0 _ rfl)<|AX 0 rfl<|AR rfl ((b0.memA .t1) 0 _ rfl)<|Ab (FV.eqlB (a:=a0.fe) (b:=a1.fe) underlying4 rfl rfl)<|Aa<|MX.ifb rfl h (fun J0 h=>?_) (fun J0 h=>?_)
 refine Ai<|du 8 fun c0 j0=>Rv 0 c0 rfl j0 (fun _=>AU 0 rfl)<|Rx 1 384 c0 rfl j0 (AL rfl ((b0.memA .t2) 0 _ rfl))<|Rv 2 c0 rfl j0 (fun _=>AU 1 rfl)<|Rx 3 448 c0 rfl j0 (AL rfl ((b0.memA .t2) 1 _ rfl))<|Rv 4 c0 rfl j0 (fun _=>AU 1 rfl)<|Rx 5 448 c0 rfl j0 (AL rfl ((b0.memA .t1) 1 _ rfl))<|bk h fun y2 q1 h=>Bl 6 127 c0 rfl .plain (bd 180) rfl (e2 rfl rfl) (fun w9 hw9=>bz_c n (b0.hL hL hw9) (b0.km h0_1 hw9) (b0.km h1_1 hw9) q1) rfl fun g2 U1 Y0 ⟨P1,hu_,j1⟩=>?_
 subst hu_
 obtain ⟨z0,G1⟩:=b0.agr Y0
 refine bk h fun F0 s1 h=>Bl 7 255 c0 rfl .plain (bd 173) rfl (e2 rfl rfl) (fun w9 hw9=>aa_c n (z0.hL hL hw9) (Aq j1 hw9) s1) rfl fun j2 V1 Z0 ⟨v0,hu_,C0⟩=>?_
 subst hu_
 obtain ⟨Q0,H1⟩:=z0.agr Z0
 refine Bz 8 511 c0 rfl rfl .plain (Ay (news:=[.bool F0.fe,v0]) Q0 .hd rfl rfl rfl rfl rfl rfl (o2 rfl (AP C0))) fun k2 s0 V0=>AM (dk c0)<|Al rfl<|Ap hb0 func148 rfl (.cons (.many (cs:=[.bool F0.fe,v0]) rfl rfl (s0.memA .hd)) .nil) rfl ?_
 cases h
 exact ⟨s0.ag,fun w9 hw9=>⟨v0,rfl,s0.kd (Am C0 V0) hw9⟩⟩
 refine Ar<|Ai<|Ac<|AX 1 rfl<|AR rfl ((b0.memA .t2) 1 _ rfl)<|AX 1 rfl<|AR rfl ((b0.memA .t1) 1 _ rfl)<|bk h fun G0 u1 h=>Bi (vI G0) (bd 177) rfl (e2 rfl rfl) (fun w9 hw9=>aM_c n (b0.hL0 hL hw9) (b0.k0 h0_1 hw9) (b0.k0 h1_1 hw9) u1) rfl<|Ab (FV.geq (i:=G0) (j:=0) rfl rfl)<|Aa<|AT rfl h (fun K0 h=>?_) (fun K0 h=>?_)
 refine Ai<|du 8 fun d0 p0=>Rv 0 d0 rfl p0 (fun _=>AU 0 rfl)<|Rx 1 384 d0 rfl p0 (AL rfl ((b0.memA .t2) 0 _ rfl))<|Rv 2 d0 rfl p0 (fun _=>AU 1 rfl)<|Rx 3 448 d0 rfl p0 (AL rfl ((b0.memA .t2) 1 _ rfl))<|Rv 4 d0 rfl p0 (fun _=>AU 1 rfl)<|Rx 5 448 d0 rfl p0 (AL rfl ((b0.memA .t1) 1 _ rfl))<|bk h fun z2 v1 h=>Bl 6 127 d0 rfl .plain (bd 174) rfl (e2 rfl rfl) (fun w9 hw9=>ao_c n (b0.hL hL hw9) (b0.km h0_1 hw9) (b0.km h1_1 hw9) v1) rfl fun p2 W1 b1 ⟨Q1,hu_,k1⟩=>?_
 subst hu_
 obtain ⟨A0,I1⟩:=b0.agr b1
 refine bk h fun H0 x1 h=>Bl 7 255 d0 rfl .plain (bd 173) rfl (e2 rfl rfl) (fun w9 hw9=>aa_c n (A0.hL hL hw9) (Aq k1 hw9) x1) rfl fun q2 X1 c1 ⟨x0,hu_,D0⟩=>?_
 subst hu_
 obtain ⟨R0,J1⟩:=A0.agr c1
 refine Bz 8 511 d0 rfl rfl .plain (Ay (news:=[.bool H0.fe,x0]) R0 .hd rfl rfl rfl rfl rfl rfl (o2 rfl (AP D0))) fun s2 t0 W0=>AM (dk d0)<|Al rfl<|Ap hb0 func148 rfl (.cons (.many (cs:=[.bool H0.fe,x0]) rfl rfl (t0.memA .hd)) .nil) rfl ?_
 cases h
 exact ⟨t0.ag,fun w9 hw9=>⟨x0,rfl,t0.kd (Am D0 W0) hw9⟩⟩
 refine Ar<|Ai<|du 8 fun g0 q0=>Rv 0 g0 rfl q0 (fun _=>AU 0 rfl)<|Rx 1 384 g0 rfl q0 (AL rfl ((b0.memA .t1) 0 _ rfl))<|Rv 2 g0 rfl q0 (fun _=>AU 1 rfl)<|Rx 3 448 g0 rfl q0 (AL rfl ((b0.memA .t1) 1 _ rfl))<|Rv 4 g0 rfl q0 (fun _=>AU 1 rfl)<|Rx 5 448 g0 rfl q0 (AL rfl ((b0.memA .t2) 1 _ rfl))<|bk h fun A2 y1 h=>Bl 6 127 g0 rfl .plain (bd 174) rfl (e2 rfl rfl) (fun w9 hw9=>ao_c n (b0.hL hL hw9) (b0.km h1_1 hw9) (b0.km h0_1 hw9) y1) rfl fun u2 Y1 d1 ⟨R1,hu_,p1⟩=>?_
 subst hu_
 obtain ⟨B0,K1⟩:=b0.agr d1
 refine bk h fun I0 z1 h=>Bl 7 255 g0 rfl .plain (bd 173) rfl (e2 rfl rfl) (fun w9 hw9=>aa_c n (B0.hL hL hw9) (Aq p1 hw9) z1) rfl fun v2 Z1 g1 ⟨y0,hu_,E0⟩=>?_
 subst hu_
 obtain ⟨U0,M1⟩:=B0.agr g1
 refine Bz 8 511 g0 rfl rfl .plain (Ay (news:=[.bool I0.fe,y0]) U0 .hd rfl rfl rfl rfl rfl rfl (o2 rfl (AP E0))) fun x2 u0 X0=>AM (dk g0)<|Al rfl<|Ap hb0 func148 rfl (.cons (.many (cs:=[.bool I0.fe,y0]) rfl rfl (u0.memA .hd)) .nil) rfl ?_
 cases h
 exact ⟨u0.ag,fun w9 hw9=>⟨y0,rfl,u0.kd (Am E0 X0) hw9⟩⟩
def bc_p (n:Nat) (a0:Int):Option Tc:=
  jn (fun u16=>(aa_p n (decide (a0 < 0)) ([aB (u16 % (4294967296:UInt64)),aB (u16 / (4294967296:UInt64))]:List Int)).bind fun c0=>some c0) (fun b0=>(if a0 < 0 then b0 (-(ac a0)) else b0 (ac a0)))
theorem bc_c (n:Nat) {L w} (hL:hl L w) {a0:Int}  {r:Tc} (h:bc_p n a0 = some r) :
 Cl 182 #[vI a0] w (ah w fun w' u=>∃ v0_1:Value,u = .agg #[.bool r.fe,v0_1]/\Rep.R w' L [v0_1] r.fD):=by
 unfold bc_p at h
 refine AG func182 rfl rfl rfl fun _ cs0 hb0=>Ac<|RG.nl [.bool false,vN] (Az w) fun I0 k0 c0 C0=>Aa<|Ac<|Ae rfl<|Ab (BK (i:=a0) (j:=0) rfl rfl)<|Af rfl<|Aa<|Ac<|Ae rfl<|Ab (FV.convU (i:=a0) underlying3 underlying34 rfl)<|Af rfl<|Aa<|Ai<|Ac<|Ae rfl<|Aa<|MX.jo (α:=UInt64) (fun u16=>[(2,vP k0),(3,.bool (decide (a0 < 0))),(4,vU u16)]) (fun u16=>[.cells k0 [.bool false,vN] 162]) (fun u16=>u16) c0 h ?_ ?_
 rintro u16 P0 v0 D0 h
 try dsimp only at h
 refine Ac<|Ae rfl<|Ae rfl<|Ab (FV.remU (a:=u16) (b:=(4294967296:UInt64)) rfl rfl (by decide))<|Ab (FV.convUI (a:=u16 % (4294967296:UInt64)) underlying34 underlying3 rfl)<|Ae rfl<|Ab (FV.quoU (a:=u16) (b:=(4294967296:UInt64)) rfl rfl (by decide))<|Ab (FV.convUI (a:=u16 / (4294967296:UInt64)) underlying34 underlying3 rfl)<|Aj .plain rfl (AN (α:=Int) (xs:=([aB (u16 % (4294967296:UInt64)),aB (u16 / (4294967296:UInt64))]:List Int)) (vs:=[vI (aB (u16 % (4294967296:UInt64))),vI (aB (u16 / (4294967296:UInt64)))]) (ds' :=[vI (aB (u16 % (4294967296:UInt64))),vI (aB (u16 / (4294967296:UInt64)))]) rfl v0 aw rfl (e2 rfl rfl) (by kernel_rfl) rfl) fun J0 t0 b0 E0=>?_
 have d0:=Br b0 .hd
 have F0:=Bs b0 .hd
 refine bk h fun s0 A0 h=>jE (bd 173) rfl (e2 rfl rfl) (fun w9 hw9=>aa_c n (d0.hL hL hw9) (Aq (Bu (α:=Int) (v:=(vS t0 2)) (xs:=([aB (u16 % (4294967296:UInt64)),aB (u16 / (4294967296:UInt64))]:List Int)) d0 L (Bf (α:=Int) b0 .hd (AE (cs:=[vI (aB (u16 % (4294967296:UInt64))),vI (aB (u16 / (4294967296:UInt64)))]) (xs:=(([aB (u16 % (4294967296:UInt64)),aB (u16 / (4294967296:UInt64))]:List Int):List Int)) b0 L (Aw (cs:=[vI (aB (u16 % (4294967296:UInt64)))]) (ds:=[vI (aB (u16 / (4294967296:UInt64)))]) rfl (Aw (cs:=[vI (aB (u16 / (4294967296:UInt64)))]) (ds:=[]) rfl (AK _ _)))) hL)) hw9) A0) rfl fun K0 H0 z0 ⟨j0,hu_,q0⟩=>?_
 subst hu_
 obtain ⟨x0,G0⟩:=d0.agr z0
 refine AQ [.bool s0.fe,j0] x0 .hd (o2 rfl (AP q0)) fun M0 g0 y0=>Aa<|Al rfl<|Ap hb0 func182 rfl (.cons (.many (cs:=[.bool s0.fe,j0]) rfl rfl (g0.memA .hd)) .nil) rfl ?_
 cases h
 exact ⟨g0.ag,fun w9 hw9=>⟨j0,rfl,g0.kd (Am q0 y0) hw9⟩⟩
 intro B0 p0 h
 try dsimp only at h
 refine AT rfl h (fun u0 h=>?_) (fun u0 h=>?_)
 refine Ao<|Ae rfl<|Ab (FV.negU (a:=ac a0) rfl)<|Af rfl<|Aa<|p0 (-(ac a0)) c0 (Bw _ _) h
 refine Ar<|p0 (ac a0) c0 (Bw _ _) h
def cj_p (n:Nat) (a0:Tc) (a1:Tc):Option Tc:=
  (bG_p n a1).bind fun b0=>(bn_p n a0 b0).bind fun c0=>some c0
theorem cj_c (n:Nat) {L w} (hL:hl L w) (a0:Tc) {v0_1:Value} (h0_1:Rep.R w L [v0_1] a0.fD) (a1:Tc) {v1_1:Value} (h1_1:Rep.R w L [v1_1] a1.fD)  {r:Tc} (h:cj_p n a0 a1 = some r) :
 Cl 191 #[.agg #[.bool a0.fe,v0_1],.agg #[.bool a1.fe,v1_1]] w (ah w fun w' u=>∃ v0_1:Value,u = .agg #[.bool r.fe,v0_1]/\Rep.R w' L [v0_1] r.fD):=by
 unfold cj_p at h
 refine AG func191 rfl rfl rfl fun _ cs0 hb0=>Ac<|RG.bx (Az w) rfl rfl fun R0 D0 s0 G0=>RG.bx s0 rfl rfl fun U0 E0 t0 H0=>RG.nl [.bool false,vN] t0 fun V0 F0 c0 I0=>Aa<|Ai<|du 4 fun b0 p0=>Rx 0 24 b0 rfl p0 (AF rfl (c0.memA .t2))<|Rx 1 28 b0 rfl p0 (AF rfl (c0.memA .t1))<|bk h fun C0 A0 h=>Bl 2 7 b0 rfl .plain (bd 178) rfl (e1 rfl) (fun w9 hw9=>bG_c n (c0.hL hL hw9) a1 (c0.km h1_1 hw9) A0) rfl fun W0 P0 x0 ⟨M0,hu_,z0⟩=>?_
 subst hu_
 obtain ⟨d0,J0⟩:=c0.agr x0
 refine bk h fun q0 B0 h=>Bl 3 15 b0 rfl .plain (bd 148) rfl (e2 rfl rfl) (fun w9 hw9=>bn_c n (d0.hL hL hw9) a0 (d0.km h0_1 hw9) C0 (Aq z0 hw9) B0) rfl fun X0 Q0 y0 ⟨j0,hu_,k0⟩=>?_
 subst hu_
 obtain ⟨u0,K0⟩:=d0.agr y0
 refine Bz 4 31 b0 rfl rfl .plain (Ay (news:=[.bool q0.fe,j0]) u0 .hd rfl rfl rfl rfl rfl rfl (o2 rfl (AP k0))) fun Y0 g0 v0=>AM (dk b0)<|Al rfl<|Ap hb0 func191 rfl (.cons (.many (cs:=[.bool q0.fe,j0]) rfl rfl (g0.memA .hd)) .nil) rfl ?_
 cases h
 exact ⟨g0.ag,fun w9 hw9=>⟨j0,rfl,g0.kd (Am k0 v0) hw9⟩⟩
def bB_p (n:Nat) (a0:Tc) (a1:Tc):Option (Tc × Tc):=
  (aB_p n a0.fD a1.fD).bind fun g0=>(aa_p n (!(a0.fe == a1.fe)) g0.1).bind fun b0=>(aa_p n a0.fe g0.2).bind fun c0=>(if c0.fe = true then (bn_p n c0 (⟨false,a1.fD⟩:Tc)).bind fun d0=>(if a1.fe = true then (bc_p n (1:Int)).bind fun j0=>(bn_p n b0 j0).bind fun k0=>some (k0,d0) else (bc_p n (1:Int)).bind fun p0=>(cj_p n b0 p0).bind fun q0=>some (q0,d0)) else some (b0,c0))
theorem bB_c (n:Nat) {L w} (hL:hl L w) (a0:Tc) {v0_1:Value} (h0_1:Rep.R w L [v0_1] a0.fD) (a1:Tc) {v1_1:Value} (h1_1:Rep.R w L [v1_1] a1.fD)  {r:Tc × Tc} (h:bB_p n a0 a1 = some r) :
 Cl 179 #[.agg #[.bool a0.fe,v0_1],.agg #[.bool a1.fe,v1_1]] w (ah w fun w' u=>∃ v0_1 v1_1:Value,u = .tuple #[.agg #[.bool r.1.fe,v0_1],.agg #[.bool r.2.fe,v1_1]]/\Rep.R w' L [v0_1] r.1.fD/\Rep.R w' L [v1_1] r.2.fD):=by
 unfold bB_p at h
 refine AG func179 rfl rfl rfl fun _ cs0 hb0=>Ac<|RG.bx (Az w) rfl rfl fun k6 H5 Q3 J5=>RG.bx Q3 rfl rfl fun p6 c2 R3 K5=>RG.nl [.bool false,vN] R3 fun z6 G0 Y3 P5=>RG.nl [.bool false,vN] Y3 fun A6 H0 z1 Q5=>Aa<|Ac<|AX 1 rfl<|AR rfl ((z1.memA .t3) 1 _ rfl)<|AX 1 rfl<|AR rfl ((z1.memA .t2) 1 _ rfl)<|bk h fun P6 v5 h=>jE (bd 176) rfl (e2 rfl rfl) (fun w9 hw9=>aB_c n (z1.hL hL hw9) (z1.km h0_1 hw9) (z1.km h1_1 hw9) v5) rfl fun B6 g6 b5 ⟨W5,X5,hu_,R1,B0⟩=>?_
 subst hu_
 obtain ⟨Z0,R5⟩:=z1.agr b5
 refine Ae rfl<|Ab (Ah rfl rfl)<|Ab (Ah rfl rfl)<|Af rfl<|Af rfl<|Aa<|Ai<|du 13 fun b0 V0=>Rv 0 b0 rfl V0 (fun _=>AU 0 rfl)<|Rx 1 25680 b0 rfl V0 (AL rfl ((Z0.memA .t3) 0 _ rfl))<|Rv 2 b0 rfl V0 (fun _=>AU 0 rfl)<|Rx 3 25680 b0 rfl V0 (AL rfl ((Z0.memA .t2) 0 _ rfl))<|Rv 4 b0 rfl V0 (fun _=>FV.neqB (a:=a0.fe) (b:=a1.fe) underlying4 rfl rfl)<|Rv 5 b0 rfl V0 (fun _=>Ak rfl)<|Rv 7 b0 rfl V0 (fun _=>AU 0 rfl)<|Rx 8 25600 b0 rfl V0 (AL rfl ((Z0.memA .t3) 0 _ rfl))<|Rv 9 b0 rfl V0 (fun _=>Ak rfl)<|bk h fun Y0 U1 h=>bk h fun y1 D0 h=>RD.mf (α:=Value × Value × Nat × Nat) (fun ⟨E0,M0,k1,p1⟩=>[(3,vP c2),(4,vP G0),(5,vP H0),(24,.agg #[.bool Y0.fe,E0]),(28,.agg #[.bool y1.fe,M0]),(8,vP p1),(9,vP k1)]) (fun ⟨E0,M0,k1,p1⟩=>[.cells k1 [.bool false,vN] 162,.cells p1 [.bool false,vN] 162,.cells H0 [.bool false,vN] 162,.cells G0 [.bool false,vN] 162,.cells c2 [.bool a1.fe,v1_1] 162]) (fun ⟨E0,M0,k1,p1⟩ J2=>Rep.R J2 (bl [.cells k1 [.bool false,vN] 162,.cells p1 [.bool false,vN] 162,.cells H0 [.bool false,vN] 162,.cells G0 [.bool false,vN] 162,.cells c2 [.bool a1.fe,v1_1] 162] ++ L) [E0] Y0.fD/\Rep.R J2 (bl [.cells k1 [.bool false,vN] 162,.cells p1 [.bool false,vN] 162,.cells H0 [.bool false,vN] 162,.cells G0 [.bool false,vN] 162,.cells c2 [.bool a1.fe,v1_1] 162] ++ L) [M0] y1.fD) Z0 2 8191 ?_ ?_
 rintro ⟨E0,M0,k1,p1⟩ J2 U3 M5 ⟨C1,s2⟩
 try dsimp only
 refine Bz 13 16383 b0 rfl rfl .plain (Ay (news:=[.bool Y0.fe,E0]) U3 .t1 rfl rfl rfl rfl rfl rfl (o2 rfl (AP C1))) fun q6 V3 s1=>Bz 14 32767 b0 rfl rfl .plain (Ay (news:=[.bool y1.fe,M0]) V3 .hd rfl rfl rfl rfl rfl rfl (o2 rfl (AP (Am s2 s1)))) fun s6 x0 A1=>AM (dk b0)<|Ai<|Ac<|AX 0 rfl<|AR rfl ((x0.memA .hd) 0 _ rfl)<|Aa<|MX.ifb rfl h (fun M3 h=>?_) (fun M3 h=>?_)
 refine Ac<|Ab (AF rfl (x0.memA .hd))<|AX 1 rfl<|AR rfl ((x0.memA .t4) 1 _ rfl) ?_
 obtain ⟨G5,I5,q5,_⟩:=BQ (AS h1_1 x0)
 refine Ab (AO (vs:=[v1_1]) (u:=.agg #[.bool false,v1_1]) (e1 rfl) (fun w9=>by rw [q5]; try kernel_rfl))<|bk h fun x1 s5 h=>jE (bd 148) rfl (e2 rfl rfl) (fun w9 hw9=>bn_c n (x0.hL hL hw9) y1 (Aq (Am s2 (Tt s1 A1)) hw9) (⟨false,a1.fD⟩:Tc) (x0.km h1_1 hw9) s5) rfl fun t6 Y5 V4 ⟨W0,hu_,Q1⟩=>?_
 subst hu_
 obtain ⟨W3,U2⟩:=x0.agr V4
 refine AQ [.bool x1.fe,W0] W3 .hd (o2 rfl (AP Q1)) fun u6 q1 B1=>Aa<|Ac<|AX 0 rfl<|AR rfl ((q1.memA .t4) 0 _ rfl)<|Aa<|MX.ifb rfl h (fun P3 h=>?_) (fun P3 h=>?_)
 refine du 3 fun V1 z5=>Rx 0 12 V1 rfl z5 (AF rfl (q1.memA .t1))<|bk h fun E5 t5 h=>Bl 1 3 V1 rfl .plain (bd 182) rfl (e1 rfl) (fun w9 hw9=>bc_c n (q1.hL hL hw9)  t5) rfl fun v6 Z5 W4 ⟨U5,hu_,k5⟩=>?_
 subst hu_
 obtain ⟨Q2,z2⟩:=q1.agr W4
 refine bk h fun Z1 u5 h=>Bl 2 7 V1 rfl .plain (bd 148) rfl (e2 rfl rfl) (fun w9 hw9=>bn_c n (Q2.hL hL hw9) Y0 (Aq (Am C1 (Tt s1 (Tt A1 (Tt U2 (Tt B1 z2))))) hw9) E5 (Aq k5 hw9) u5) rfl fun x6 b6 X4 ⟨E1,hu_,u2⟩=>?_
 subst hu_
 obtain ⟨X3,V2⟩:=Q2.agr X4
 refine Bz 3 15 V1 rfl rfl .plain (Ay (news:=[.bool Z1.fe,E1]) X3 .t1 rfl rfl rfl rfl rfl rfl (o2 rfl (AP u2))) fun y6 H1 p2=>AM (dk V1)<|Ai<|du 2 fun b1 I3=>Rx 0 12 b1 rfl I3 (AF rfl (H1.memA .t1))<|RD.mo (α:=Unit) (fun ()=>[(4,vP G0),(5,vP H0),(45,.agg #[.bool x1.fe,W0])]) (fun ()=>[.cells H0 [.bool false,vN] 162,.cells G0 [.bool Z1.fe,E1] 162]) H1 1 7 ?_ ?_
 rintro ⟨⟩ J6 Z3 W2
 try dsimp only
 refine Bz 3 15 b1 rfl rfl .plain (Ay (news:=[.bool x1.fe,W0]) Z3 .hd rfl rfl rfl rfl rfl rfl (o2 rfl (AP (Am Q1 (Tt B1 (Tt z2 (Tt V2 (Tt p2 W2)))))))) fun C6 I1 H4=>AM (dk b1)<|Al rfl<|Ap hb0 func179 rfl (.cons (.many (cs:=[.bool Z1.fe,E1]) rfl rfl (I1.memA .t1)) (.cons (.many (cs:=[.bool x1.fe,W0]) rfl rfl (I1.memA .hd)) .nil)) rfl ?_
 cases h
 have v3:=Tt p2 (Tt W2 H4)
 exact ⟨I1.ag,fun w9 hw9=>⟨E1,W0,rfl,I1.kd (Am u2 v3) hw9,I1.kd (Am Q1 (Tt B1 (Tt z2 (Tt V2 v3)))) hw9⟩⟩
 intro K2
 refine BB [1,2] (rk b1) ⟨?_,?_,trivial⟩
 refine RO.val (m' :=3) (sk b1) rfl .plain rfl (AF rfl (H1.memA .hd)) ?_
 have d5:=Am u2 p2
 refine Bz 2 7 b1 rfl rfl .plain (Ay (news:=[.bool Z1.fe,E1]) H1 .t3 rfl rfl rfl rfl rfl rfl (o2 rfl (AP d5))) fun B5 d2 A2=>?_
 obtain ⟨b4,I4⟩:=AI d2 (.a2 (.a2 .done))
 exact K2 () b4 (Tt A2 I4)
 refine RO.now (m' :=5) (sk b1) rfl rfl .plain (Ay (news:=[.bool Z1.fe,E1]) H1 .t3 rfl rfl rfl rfl rfl rfl (o2 rfl (AP (Am u2 p2)))) fun B5 d2 A2=>Rx 1 8 b1 rfl I3 (AF rfl (d2.memA .hd)) ?_
 obtain ⟨c4,J4⟩:=AI d2 (.a2 (.a2 .done))
 exact K2 () c4 (Tt A2 J4)
 refine du 3 fun W1 A5=>Rx 0 12 W1 rfl A5 (AF rfl (q1.memA .t1))<|bk h fun F5 x5 h=>Bl 1 3 W1 rfl .plain (bd 182) rfl (e1 rfl) (fun w9 hw9=>bc_c n (q1.hL hL hw9)  x5) rfl fun D6 c6 Y4 ⟨V5,hu_,p5⟩=>?_
 subst hu_
 obtain ⟨R2,B2⟩:=q1.agr Y4
 refine bk h fun b2 y5 h=>Bl 2 7 W1 rfl .plain (bd 191) rfl (e2 rfl rfl) (fun w9 hw9=>cj_c n (R2.hL hL hw9) Y0 (Aq (Am C1 (Tt s1 (Tt A1 (Tt U2 (Tt B1 B2))))) hw9) F5 (Aq p5 hw9) y5) rfl fun E6 d6 Z4 ⟨F1,hu_,v2⟩=>?_
 subst hu_
 obtain ⟨d4,X2⟩:=R2.agr Z4
 refine Bz 3 15 W1 rfl rfl .plain (Ay (news:=[.bool b2.fe,F1]) d4 .t1 rfl rfl rfl rfl rfl rfl (o2 rfl (AP v2))) fun F6 J1 q2=>AM (dk W1)<|Ai<|du 2 fun c1 J3=>Rx 0 12 c1 rfl J3 (AF rfl (J1.memA .t1))<|RD.mo (α:=Unit) (fun ()=>[(4,vP G0),(5,vP H0),(45,.agg #[.bool x1.fe,W0])]) (fun ()=>[.cells H0 [.bool false,vN] 162,.cells G0 [.bool b2.fe,F1] 162]) J1 1 7 ?_ ?_
 rintro ⟨⟩ K6 g4 Y2
 try dsimp only
 refine Bz 3 15 c1 rfl rfl .plain (Ay (news:=[.bool x1.fe,W0]) g4 .hd rfl rfl rfl rfl rfl rfl (o2 rfl (AP (Am Q1 (Tt B1 (Tt B2 (Tt X2 (Tt q2 Y2)))))))) fun H6 K1 K4=>AM (dk c1)<|Al rfl<|Ap hb0 func179 rfl (.cons (.many (cs:=[.bool b2.fe,F1]) rfl rfl (K1.memA .t1)) (.cons (.many (cs:=[.bool x1.fe,W0]) rfl rfl (K1.memA .hd)) .nil)) rfl ?_
 cases h
 have x3:=Tt q2 (Tt Y2 K4)
 exact ⟨K1.ag,fun w9 hw9=>⟨F1,W0,rfl,K1.kd (Am v2 x3) hw9,K1.kd (Am Q1 (Tt B1 (Tt B2 (Tt X2 x3)))) hw9⟩⟩
 intro M2
 refine BB [1,2] (rk c1) ⟨?_,?_,trivial⟩
 refine RO.val (m' :=3) (sk c1) rfl .plain rfl (AF rfl (J1.memA .hd)) ?_
 have g5:=Am v2 q2
 refine Bz 2 7 c1 rfl rfl .plain (Ay (news:=[.bool b2.fe,F1]) J1 .t3 rfl rfl rfl rfl rfl rfl (o2 rfl (AP g5))) fun C5 j2 C2=>?_
 obtain ⟨j4,M4⟩:=AI j2 (.a2 (.a2 .done))
 exact M2 () j4 (Tt C2 M4)
 refine RO.now (m' :=5) (sk c1) rfl rfl .plain (Ay (news:=[.bool b2.fe,F1]) J1 .t3 rfl rfl rfl rfl rfl rfl (o2 rfl (AP (Am v2 q2)))) fun C5 j2 C2=>Rx 1 8 c1 rfl J3 (AF rfl (j2.memA .hd)) ?_
 obtain ⟨k4,P4⟩:=AI j2 (.a2 (.a2 .done))
 exact M2 () k4 (Tt C2 P4)
 refine Ar<|Ai<|du 2 fun d1 K3=>Rx 0 12 d1 rfl K3 (AF rfl (x0.memA .t1))<|RD.mo (α:=Unit) (fun ()=>[(4,vP G0),(5,vP H0),(45,.agg #[.bool y1.fe,M0])]) (fun ()=>[.cells H0 [.bool false,vN] 162,.cells G0 [.bool Y0.fe,E0] 162]) x0 1 7 ?_ ?_
 rintro ⟨⟩ M6 p4 Q4
 try dsimp only
 have G2:=Tt s1 (Tt A1 Q4)
 refine Bz 3 15 d1 rfl rfl .plain (Ay (news:=[.bool y1.fe,M0]) p4 .hd rfl rfl rfl rfl rfl rfl (o2 rfl (AP (Am s2 G2)))) fun I6 M1 Z2=>AM (dk d1)<|Al rfl<|Ap hb0 func179 rfl (.cons (.many (cs:=[.bool Y0.fe,E0]) rfl rfl (M1.memA .t1)) (.cons (.many (cs:=[.bool y1.fe,M0]) rfl rfl (M1.memA .hd)) .nil)) rfl ?_
 cases h
 exact ⟨M1.ag,fun w9 hw9=>⟨E0,M0,rfl,M1.kd (Am C1 (Tt G2 Z2)) hw9,M1.kd (Am s2 (Tt G2 Z2)) hw9⟩⟩
 intro P2
 refine BB [1,2] (rk d1) ⟨?_,?_,trivial⟩
 refine RO.val (m' :=3) (sk d1) rfl .plain rfl (AF rfl (x0.memA .hd)) ?_
 have j5:=Am C1 (Tt s1 A1)
 refine Bz 2 7 d1 rfl rfl .plain (Ay (news:=[.bool Y0.fe,E0]) x0 .t3 rfl rfl rfl rfl rfl rfl (o2 rfl (AP j5))) fun D5 k2 D2=>?_
 obtain ⟨q4,R4⟩:=AI k2 (.a2 (.a2 .done))
 exact P2 () q4 (Tt D2 R4)
 refine RO.now (m' :=5) (sk d1) rfl rfl .plain (Ay (news:=[.bool Y0.fe,E0]) x0 .t3 rfl rfl rfl rfl rfl rfl (o2 rfl (AP (Am C1 (Tt s1 A1))))) fun D5 k2 D2=>Rx 1 8 d1 rfl K3 (AF rfl (k2.memA .hd)) ?_
 obtain ⟨s4,U4⟩:=AI k2 (.a2 (.a2 .done))
 exact P2 () s4 (Tt D2 U4)
 intro v0
 refine BB [6,11,12] (rk b0) ⟨?_,?_,?_,trivial⟩
 refine RO.call (m' :=1023) (fst:=[]) (cap:=[]) (sk b0) rfl .plain (bd 173) rfl (e2 rfl rfl) (fun w9 hw9=>aa_c n (Z0.hL hL hw9) (Aq R1 hw9) U1) rfl fun G6 j6 c5 ⟨G1,hu_,D1⟩=>?_
 subst hu_
 obtain ⟨g2,z0⟩:=Z0.agr c5
 refine BB [10,11,12] (rk b0) ⟨?_,?_,?_,trivial⟩
 have v1:=Am B0 z0
 refine RO.call (m' :=2047) (fst:=[]) (cap:=[]) (sk b0) rfl .plain (bd 173) rfl (e2 rfl rfl) (fun w9 hw9=>aa_c n (g2.hL hL hw9) (Aq v1 hw9) D0) rfl fun y2 x2 Q0 ⟨P0,hu_,K0⟩=>?_
 subst hu_
 obtain ⟨I0,J0⟩:=g2.agr Q0
 refine BB [11,12] (rk b0) ⟨?_,?_,trivial⟩
 refine BH (m' :=4095) (sk b0) rfl .plain rfl (Ax [.bool false,vN] I0) fun j1 p0 j0 d0=>BV 12 8191 b0 rfl .plain rfl (Ax [.bool false,vN] j0) fun g1 k0 g0 c0=>?_
 obtain ⟨u4,b3⟩:=AI g0 (.a0 (.a0 (.a0 (.a0 (.a0 .done)))))
 have y3:=Tt J0 (Tt d0 (Tt c0 b3))
 exact v0 (G1,P0,k0,p0) u4 (Tt z0 y3) ⟨(Am D1 y3),(Am K0 (Tt d0 (Tt c0 b3)))⟩
 refine BH (m' :=6143) (sk b0) rfl .plain rfl (Ax [.bool false,vN] I0) fun g1 k0 g0 c0=>BV 11 8191 b0 rfl .plain rfl (Ax [.bool false,vN] g0) fun j1 p0 j0 d0=>?_
 obtain ⟨v4,c3⟩:=AI j0 (.a1 (.a0 (.a0 (.a0 (.a0 .done)))))
 have z3:=Tt J0 (Tt c0 (Tt d0 c3))
 exact v0 (G1,P0,k0,p0) v4 (Tt z0 z3) ⟨(Am D1 z3),(Am K0 (Tt c0 (Tt d0 c3)))⟩
 refine BH (m' :=3071) (sk b0) rfl .plain rfl (Ax [.bool false,vN] g2) fun j1 p0 j0 d0=>BB [10,12] (rk b0) ⟨?_,?_,trivial⟩
 have v1:=Am B0 (Tt z0 d0)
 refine RO.call (m' :=4095) (fst:=[]) (cap:=[]) (sk b0) rfl .plain (bd 173) rfl (e2 rfl rfl) (fun w9 hw9=>aa_c n (j0.hL hL hw9) (Aq v1 hw9) D0) rfl fun y2 x2 Q0 ⟨P0,hu_,K0⟩=>?_
 subst hu_
 obtain ⟨I0,J0⟩:=j0.agr Q0
 refine BV 12 8191 b0 rfl .plain rfl (Ax [.bool false,vN] I0) fun g1 k0 g0 c0=>?_
 obtain ⟨x4,d3⟩:=AI g0 (.a0 (.a0 (.a0 (.a0 (.a0 .done)))))
 have A3:=Tt d0 (Tt J0 (Tt c0 d3))
 exact v0 (G1,P0,k0,p0) x4 (Tt z0 A3) ⟨(Am D1 A3),(Am K0 (Tt c0 d3))⟩
 refine BH (m' :=7167) (sk b0) rfl .plain rfl (Ax [.bool false,vN] j0) fun g1 k0 g0 c0=>?_
 have u0:=Tt z0 (Tt d0 c0)
 have R0:=Am B0 u0
 refine Bl 10 8191 b0 rfl .plain (bd 173) rfl (e2 rfl rfl) (fun w9 hw9=>aa_c n (g0.hL hL hw9) (Aq R0 hw9) D0) rfl fun Y1 X1 A0 ⟨F0,hu_,C0⟩=>?_
 subst hu_
 obtain ⟨y0,t0⟩:=g0.agr A0
 obtain ⟨y4,g3⟩:=AI y0 (.a0 (.a0 (.a0 (.a0 (.a0 .done)))))
 have B3:=Tt d0 (Tt c0 (Tt t0 g3))
 exact v0 (G1,F0,k0,p0) y4 (Tt z0 B3) ⟨(Am D1 B3),(Am C0 g3)⟩
 refine BH (m' :=5119) (sk b0) rfl .plain rfl (Ax [.bool false,vN] g2) fun g1 k0 g0 c0=>BB [10,11] (rk b0) ⟨?_,?_,trivial⟩
 have v1:=Am B0 (Tt z0 c0)
 refine RO.call (m' :=6143) (fst:=[]) (cap:=[]) (sk b0) rfl .plain (bd 173) rfl (e2 rfl rfl) (fun w9 hw9=>aa_c n (g0.hL hL hw9) (Aq v1 hw9) D0) rfl fun y2 x2 Q0 ⟨P0,hu_,K0⟩=>?_
 subst hu_
 obtain ⟨I0,J0⟩:=g0.agr Q0
 refine BV 11 8191 b0 rfl .plain rfl (Ax [.bool false,vN] I0) fun j1 p0 j0 d0=>?_
 obtain ⟨z4,j3⟩:=AI j0 (.a1 (.a0 (.a0 (.a0 (.a0 .done)))))
 have C3:=Tt c0 (Tt J0 (Tt d0 j3))
 exact v0 (G1,P0,k0,p0) z4 (Tt z0 C3) ⟨(Am D1 C3),(Am K0 (Tt d0 j3))⟩
 refine BH (m' :=7167) (sk b0) rfl .plain rfl (Ax [.bool false,vN] g0) fun j1 p0 j0 d0=>?_
 have u0:=Tt z0 (Tt c0 d0)
 have R0:=Am B0 u0
 refine Bl 10 8191 b0 rfl .plain (bd 173) rfl (e2 rfl rfl) (fun w9 hw9=>aa_c n (j0.hL hL hw9) (Aq R0 hw9) D0) rfl fun Y1 X1 A0 ⟨F0,hu_,C0⟩=>?_
 subst hu_
 obtain ⟨y0,t0⟩:=j0.agr A0
 obtain ⟨A4,k3⟩:=AI y0 (.a1 (.a0 (.a0 (.a0 (.a0 .done)))))
 have D3:=Tt c0 (Tt d0 (Tt t0 k3))
 exact v0 (G1,F0,k0,p0) A4 (Tt z0 D3) ⟨(Am D1 D3),(Am C0 k3)⟩
 refine BH (m' :=3007) (sk b0) rfl .plain rfl (Ax [.bool false,vN] Z0) fun j1 p0 j0 d0=>BB [6,12] (rk b0) ⟨?_,?_,trivial⟩
 have P1:=Am R1 d0
 refine RO.call (m' :=3071) (fst:=[]) (cap:=[]) (sk b0) rfl .plain (bd 173) rfl (e2 rfl rfl) (fun w9 hw9=>aa_c n (j0.hL hL hw9) (Aq P1 hw9) U1) rfl fun I2 H2 u1 ⟨X0,hu_,U0⟩=>?_
 subst hu_
 obtain ⟨q0,s0⟩:=j0.agr u1
 refine BB [10,12] (rk b0) ⟨?_,?_,trivial⟩
 have v1:=Am B0 (Tt d0 s0)
 refine RO.call (m' :=4095) (fst:=[]) (cap:=[]) (sk b0) rfl .plain (bd 173) rfl (e2 rfl rfl) (fun w9 hw9=>aa_c n (q0.hL hL hw9) (Aq v1 hw9) D0) rfl fun y2 x2 Q0 ⟨P0,hu_,K0⟩=>?_
 subst hu_
 obtain ⟨I0,J0⟩:=q0.agr Q0
 refine BV 12 8191 b0 rfl .plain rfl (Ax [.bool false,vN] I0) fun g1 k0 g0 c0=>?_
 obtain ⟨B4,p3⟩:=AI g0 (.a0 (.a0 (.a0 (.a0 (.a0 .done)))))
 have E3:=Tt J0 (Tt c0 p3)
 exact v0 (X0,P0,k0,p0) B4 (Tt d0 (Tt s0 E3)) ⟨(Am U0 E3),(Am K0 (Tt c0 p3))⟩
 refine BH (m' :=7167) (sk b0) rfl .plain rfl (Ax [.bool false,vN] q0) fun g1 k0 g0 c0=>?_
 have u0:=Tt d0 (Tt s0 c0)
 have R0:=Am B0 u0
 refine Bl 10 8191 b0 rfl .plain (bd 173) rfl (e2 rfl rfl) (fun w9 hw9=>aa_c n (g0.hL hL hw9) (Aq R0 hw9) D0) rfl fun Y1 X1 A0 ⟨F0,hu_,C0⟩=>?_
 subst hu_
 obtain ⟨y0,t0⟩:=g0.agr A0
 obtain ⟨C4,q3⟩:=AI y0 (.a0 (.a0 (.a0 (.a0 (.a0 .done)))))
 have F3:=Tt c0 (Tt t0 q3)
 exact v0 (X0,F0,k0,p0) C4 (Tt d0 (Tt s0 F3)) ⟨(Am U0 F3),(Am C0 q3)⟩
 refine BH (m' :=7103) (sk b0) rfl .plain rfl (Ax [.bool false,vN] j0) fun g1 k0 g0 c0=>?_
 have P1:=Am R1 (Tt d0 c0)
 refine Bl 6 7167 b0 rfl .plain (bd 173) rfl (e2 rfl rfl) (fun w9 hw9=>aa_c n (g0.hL hL hw9) (Aq P1 hw9) U1) rfl fun I2 H2 u1 ⟨X0,hu_,U0⟩=>?_
 subst hu_
 obtain ⟨q0,s0⟩:=g0.agr u1
 have u0:=Tt d0 (Tt c0 s0)
 have R0:=Am B0 u0
 refine Bl 10 8191 b0 rfl .plain (bd 173) rfl (e2 rfl rfl) (fun w9 hw9=>aa_c n (q0.hL hL hw9) (Aq R0 hw9) D0) rfl fun Y1 X1 A0 ⟨F0,hu_,C0⟩=>?_
 subst hu_
 obtain ⟨y0,t0⟩:=q0.agr A0
 obtain ⟨D4,E2⟩:=AI y0 (.a0 (.a0 (.a0 (.a0 (.a0 .done)))))
 exact v0 (X0,F0,k0,p0) D4 (Tt u0 (Tt t0 E2)) ⟨(Am U0 (Tt t0 E2)),(Am C0 E2)⟩
 refine BH (m' :=5055) (sk b0) rfl .plain rfl (Ax [.bool false,vN] Z0) fun g1 k0 g0 c0=>BB [6,11] (rk b0) ⟨?_,?_,trivial⟩
 have P1:=Am R1 c0
 refine RO.call (m' :=5119) (fst:=[]) (cap:=[]) (sk b0) rfl .plain (bd 173) rfl (e2 rfl rfl) (fun w9 hw9=>aa_c n (g0.hL hL hw9) (Aq P1 hw9) U1) rfl fun I2 H2 u1 ⟨X0,hu_,U0⟩=>?_
 subst hu_
 obtain ⟨q0,s0⟩:=g0.agr u1
 refine BB [10,11] (rk b0) ⟨?_,?_,trivial⟩
 refine RO.call (m' :=6143) (fst:=[]) (cap:=[]) (sk b0) rfl .plain (bd 173) rfl (e2 rfl rfl) (fun w9 hw9=>aa_c n (q0.hL hL hw9) (Aq (Am B0 (Tt c0 s0)) hw9) D0) rfl fun y2 x2 Q0 ⟨P0,hu_,K0⟩=>?_
 subst hu_
 obtain ⟨I0,J0⟩:=q0.agr Q0
 refine BV 11 8191 b0 rfl .plain rfl (Ax [.bool false,vN] I0) fun j1 p0 j0 d0=>?_
 obtain ⟨E4,s3⟩:=AI j0 (.a1 (.a0 (.a0 (.a0 (.a0 .done)))))
 have G3:=Tt J0 (Tt d0 s3)
 exact v0 (X0,P0,k0,p0) E4 (Tt c0 (Tt s0 G3)) ⟨(Am U0 G3),(Am K0 (Tt d0 s3))⟩
 refine BH (m' :=7167) (sk b0) rfl .plain rfl (Ax [.bool false,vN] q0) fun j1 p0 j0 d0=>?_
 have u0:=Tt c0 (Tt s0 d0)
 have R0:=Am B0 u0
 refine Bl 10 8191 b0 rfl .plain (bd 173) rfl (e2 rfl rfl) (fun w9 hw9=>aa_c n (j0.hL hL hw9) (Aq R0 hw9) D0) rfl fun Y1 X1 A0 ⟨F0,hu_,C0⟩=>?_
 subst hu_
 obtain ⟨y0,t0⟩:=j0.agr A0
 obtain ⟨F4,u3⟩:=AI y0 (.a1 (.a0 (.a0 (.a0 (.a0 .done)))))
 have H3:=Tt d0 (Tt t0 u3)
 exact v0 (X0,F0,k0,p0) F4 (Tt c0 (Tt s0 H3)) ⟨(Am U0 H3),(Am C0 u3)⟩
 refine BH (m' :=7103) (sk b0) rfl .plain rfl (Ax [.bool false,vN] g0) fun j1 p0 j0 d0=>Bl 6 7167 b0 rfl .plain (bd 173) rfl (e2 rfl rfl) (fun w9 hw9=>aa_c n (j0.hL hL hw9) (Aq (Am R1 (Tt c0 d0)) hw9) U1) rfl fun I2 H2 u1 ⟨X0,hu_,U0⟩=>?_
 subst hu_
 obtain ⟨q0,s0⟩:=j0.agr u1
 have u0:=Tt c0 (Tt d0 s0)
 refine Bl 10 8191 b0 rfl .plain (bd 173) rfl (e2 rfl rfl) (fun w9 hw9=>aa_c n (q0.hL hL hw9) (Aq (Am B0 u0) hw9) D0) rfl fun Y1 X1 A0 ⟨F0,hu_,C0⟩=>?_
 subst hu_
 obtain ⟨y0,t0⟩:=q0.agr A0
 obtain ⟨G4,F2⟩:=AI y0 (.a1 (.a0 (.a0 (.a0 (.a0 .done)))))
 exact v0 (X0,F0,k0,p0) G4 (Tt u0 (Tt t0 F2)) ⟨(Am U0 (Tt t0 F2)),(Am C0 F2)⟩
def bg_p (n:Nat) (a0:Tc) (a1:Tc):Option Tf:=
  (aO_p n a0 a1).bind fun b0=>jn (fun (d0,g0)=>(bB_p n a0 (⟨d0,g0⟩:Tc)).bind fun k0=>(bB_p n a1 (⟨d0,g0⟩:Tc)).bind fun p0=>some (⟨k0.1,p0.1⟩:Tf)) (fun c0=>(if a1.fe = true then (bG_p n b0).bind fun j0=>c0 (j0.fe,j0.fD) else c0 (b0.fe,b0.fD)))
theorem bg_c (n:Nat) {L w} (hL:hl L w) (a0:Tc) {v0_1:Value} (h0_1:Rep.R w L [v0_1] a0.fD) (a1:Tc) {v1_1:Value} (h1_1:Rep.R w L [v1_1] a1.fD)  {r:Tf} (h:bg_p n a0 a1 = some r) :
 Cl 147 #[.agg #[.bool a0.fe,v0_1],.agg #[.bool a1.fe,v1_1]] w (ah w fun w' u=>∃ v0_1 v0_3:Value,u = .agg #[.bool r.fN.fe,v0_1,.bool r.fD.fe,v0_3]/\Rep.R w' L [v0_1] r.fN.fD/\Rep.R w' L [v0_3] r.fD.fD):=by
 unfold bg_p at h
 refine AG func147 rfl rfl rfl fun _ cs0 hb0=>Ac<|RG.bx (Az w) rfl rfl fun M2 y0 z1 B2=>RG.bx z1 rfl rfl fun X2 z0 C1 C2=>RG.nl [.bool false,vN,.bool false,vN] C1 fun Y2 A0 g0 D2=>Aa<|Ac<|Ab (AF rfl (g0.memA .t2))<|Ab (AF rfl (g0.memA .t1))<|bk h fun x0 c2 h=>jE (bd 144) rfl (e2 rfl rfl) (fun w9 hw9=>aO_c n (g0.hL hL hw9) a0 (g0.km h0_1 hw9) a1 (g0.km h1_1 hw9) c2) rfl fun Z2 H2 R1 ⟨q1,hu_,M0⟩=>?_
 subst hu_
 obtain ⟨D1,E2⟩:=g0.agr R1
 refine RG.nl [.bool false,vN] D1 fun b3 B0 E1 G0=>AQ [.bool x0.fe,q1] E1 .hd (o2 rfl (AP (Am M0 G0))) fun c3 j0 X0=>Aa<|Ai<|Ac<|AX 0 rfl<|AR rfl ((j0.memA .t2) 0 _ rfl)<|Aa<|MX.jf (α:=Bool × (List Int) × Value) (fun ⟨b0,c0,d0⟩=>[(2,vP y0),(3,vP z0),(4,vP A0),(5,vP B0)]) (fun ⟨b0,c0,d0⟩=>[.cells B0 [.bool b0,d0] 162,.cells A0 [.bool false,vN,.bool false,vN] 164,.cells z0 [.bool a1.fe,v1_1] 162,.cells y0 [.bool a0.fe,v0_1] 162]) (fun ⟨b0,c0,d0⟩ s1=>Rep.R s1 (bl [.cells B0 [.bool b0,d0] 162,.cells A0 [.bool false,vN,.bool false,vN] 164,.cells z0 [.bool a1.fe,v1_1] 162,.cells y0 [.bool a0.fe,v0_1] 162] ++ L) [d0] c0) (fun ⟨b0,c0,d0⟩=>(b0,c0)) j0 h ?_ ?_
 rintro ⟨b0,c0,d0⟩ s1 t0 F2 k1 h
 try dsimp only at h
 refine Ac<|Ab (AF rfl (t0.memA .t3))<|Ab (AF rfl (t0.memA .hd))<|bk h fun q0 d2 h=>jE (bd 179) rfl (e2 rfl rfl) (fun w9 hw9=>bB_c n (t0.hL hL hw9) a0 (t0.km h0_1 hw9) (⟨b0,c0⟩:Tc) (Aq k1 hw9) d2) rfl fun d3 I2 U1 ⟨p0,k2,hu_,P0,X1⟩=>?_
 subst hu_
 obtain ⟨F1,P1⟩:=t0.agr U1
 refine Ae rfl<|Ab (Ah rfl rfl)<|Ab (Ah rfl rfl)<|RG.nl [.bool false,vN] F1 fun g3 x2 G1 H0=>RG.nl [.bool false,vN] G1 fun j3 y2 H1 I0=>AQ [.bool q0.1.fe,p0] H1 .t1 (o2 rfl (AP (Am P0 (Tt H0 I0)))) fun k3 I1 Y0=>?_
 have g1:=Tt H0 (Tt I0 Y0)
 refine AQ [.bool q0.2.fe,k2] I1 .hd (o2 rfl (AP (Am X1 g1))) fun p3 u0 Z0=>Aa<|Ac<|Ab (AF rfl (u0.memA .t4))<|Ab (AF rfl (u0.memA .t2))<|bk h fun s0 g2 h=>jE (bd 179) rfl (e2 rfl rfl) (fun w9 hw9=>bB_c n (u0.hL hL hw9) a1 (u0.km h1_1 hw9) (⟨b0,c0⟩:Tc) (Aq (Am k1 (Tt P1 (Tt H0 (Tt I0 (Tt Y0 Z0))))) hw9) g2) rfl fun q3 J2 V1 ⟨k0,j2,hu_,K0,W1⟩=>?_
 subst hu_
 obtain ⟨J1,K1⟩:=u0.agr V1
 refine Ae rfl<|Ab (Ah rfl rfl)<|Ab (Ah rfl rfl)<|RG.nl [.bool false,vN] J1 fun K2 u2 v1 D0=>RG.nl [.bool false,vN] v1 fun P2 v2 x1 E0=>AQ [.bool s0.1.fe,k0] x1 .t1 (o2 rfl (AP (Am K0 (Tt D0 E0)))) fun Q2 y1 U0=>?_
 have J0:=Tt D0 (Tt E0 U0)
 refine AQ [.bool s0.2.fe,j2] y1 .hd (o2 rfl (AP (Am W1 J0))) fun R2 C0 F0=>Aa<|Ac<|Ab (AF rfl (C0.memA .t3))<|Ab (AF rfl (C0.memA .t1)) ?_
 have d1:=Tt g1 (Tt Z0 (Tt K1 (Tt D0 (Tt E0 (Tt U0 F0)))))
 have b1:=Am P0 d1
 obtain ⟨p2,z2,Y1,_⟩:=BQ b1
 have c1:=Am K0 (Tt J0 F0)
 obtain ⟨q2,A2,Z1,_⟩:=BQ c1
 refine Ab (AO (vs:=[.agg #[.bool q0.1.fe,p0],.agg #[.bool s0.1.fe,k0]]) (u:=.agg #[.bool q0.1.fe,p0,.bool s0.1.fe,k0]) (e2 rfl rfl) (fun w9=>by rw [Y1,Z1]; try kernel_rfl))<|AQ [.bool q0.1.fe,p0,.bool s0.1.fe,k0] C0 .t5 (o4 rfl (AP b1) rfl (AP c1)) fun U2 v0 V0=>Aa<|Al rfl<|Ap hb0 func147 rfl (.cons (.many (cs:=[.bool q0.1.fe,p0,.bool s0.1.fe,k0]) rfl rfl (v0.memA .t5)) .nil) rfl ?_
 cases h
 exact ⟨v0.ag,fun w9 hw9=>⟨p0,k0,rfl,v0.kd (Am P0 (Tt d1 V0)) hw9,v0.kd (Am K0 (Tt J0 (Tt F0 V0))) hw9⟩⟩
 intro s2 R0 h
 try dsimp only at h
 refine MX.ifb rfl h (fun u1 h=>?_) (fun u1 h=>?_)
 refine Ao<|Ab (AF rfl (j0.memA .hd))<|bk h fun Q0 b2 h=>jE (bd 178) rfl (e1 rfl) (fun w9 hw9=>bG_c n (j0.hL hL hw9) x0 (Aq (Am M0 (Tt G0 X0)) hw9) b2) rfl fun V2 G2 Q1 ⟨p1,hu_,j1⟩=>?_
 subst hu_
 obtain ⟨A1,M1⟩:=j0.agr Q1
 refine AQ [.bool Q0.fe,p1] A1 .hd (o2 rfl (AP j1)) fun W2 B1 W0=>Aa<|R0 (Q0.fe,Q0.fD,p1) B1 (Tt M1 W0) (Am j1 W0) h
 refine Ar<|R0 (x0.fe,x0.fD,q1) j0 (Bw _ _) (Am M0 (Tt G0 X0)) h
def cT_p (n:Nat) (a0:Int) (a1:Int):Option Tf:=
  (bc_p n a0).bind fun b0=>(bc_p n a1).bind fun c0=>(bg_p n b0 c0).bind fun d0=>some d0
theorem cT_c (n:Nat) {L w} (hL:hl L w) {a0:Int} {a1:Int}  {r:Tf} (h:cT_p n a0 a1 = some r) :
 Cl 150 #[vI a0,vI a1] w (ah w fun w' u=>∃ v0_1 v0_3:Value,u = .agg #[.bool r.fN.fe,v0_1,.bool r.fD.fe,v0_3]/\Rep.R w' L [v0_1] r.fN.fD/\Rep.R w' L [v0_3] r.fD.fD):=by
 unfold cT_p at h
 refine AG func150 rfl rfl rfl fun _ cs0 hb0=>Ac<|RG.nl [.bool false,vN,.bool false,vN] (Az w) fun V0 H0 j0 I0=>Aa<|Ac<|Ae rfl<|bk h fun F0 C0 h=>jE (bd 182) rfl (e1 rfl) (fun w9 hw9=>bc_c n (j0.hL hL hw9)  C0) rfl fun W0 Q0 x0 ⟨M0,hu_,A0⟩=>?_
 subst hu_
 obtain ⟨k0,J0⟩:=j0.agr x0
 refine Ae rfl<|bk h fun G0 D0 h=>jE (bd 182) rfl (e1 rfl) (fun w9 hw9=>bc_c n (k0.hL hL hw9)  D0) rfl fun X0 R0 y0 ⟨P0,hu_,B0⟩=>?_
 subst hu_
 obtain ⟨p0,v0⟩:=k0.agr y0
 refine bk h fun c0 E0 h=>jE (bd 147) rfl (e2 rfl rfl) (fun w9 hw9=>bg_c n (p0.hL hL hw9) F0 (Aq (Am A0 v0) hw9) G0 (Aq B0 hw9) E0) rfl fun Y0 U0 z0 ⟨d0,g0,hu_,s0,t0⟩=>?_
 subst hu_
 obtain ⟨u0,K0⟩:=p0.agr z0
 refine AQ [.bool c0.fN.fe,d0,.bool c0.fD.fe,g0] u0 .hd (o4 rfl (AP s0) rfl (AP t0)) fun Z0 b0 q0=>Aa<|Al rfl<|Ap hb0 func150 rfl (.cons (.many (cs:=[.bool c0.fN.fe,d0,.bool c0.fD.fe,g0]) rfl rfl (b0.memA .hd)) .nil) rfl ?_
 cases h
 exact ⟨b0.ag,fun w9 hw9=>⟨d0,g0,rfl,b0.kd (Am s0 q0) hw9,b0.kd (Am t0 q0) hw9⟩⟩
def dp_p (n:Nat) (a0:Int) (a1:Int):Option (Ta × Int):=
  (if a1 = 0 then some ((⟨(0,0,0,0,0,0,0,0),(0,0,0,0,0,0,0,0)⟩:Ta),(7:Int)) else (cT_p n a0 a1).bind fun c0=>(bb_p n c0).bind fun b0=>some (b0.1,b0.2))
theorem dp_c (n:Nat) {L w} (hL:hl L w) {a0:Int} {a1:Int}  {r:Ta × Int} (h:dp_p n a0 a1 = some r) :
 Cl 107 #[vI a0,vI a1] w (ah w fun _ u=>u = .tuple #[.agg ((ab r.1)).toArray,vI r.2]):=by
 unfold dp_p at h
 refine AG func107 rfl rfl rfl fun _ cs0 hb0=>Ac<|RG.nl zL (Az w) fun F0 x0 d0 y0=>Af rfl<|Aa<|Ai<|Ac<|Ae rfl<|Ab (FV.eql (i:=a1) (j:=0) rfl rfl)<|Aa<|AT rfl h (fun k0 h=>?_) (fun k0 h=>?_)
 refine Ac<|Ab (AO (vs:=[]) (u:=.agg zM) aj (fun w9=>by kernel_rfl))<|AQ zL d0 .hd (ai rfl) fun G0 g0 z0=>Af rfl<|Aa<|Al rfl<|Ap hb0 func107 rfl (.cons (.many (cs:=zL) rfl rfl (g0.memA .hd)) (.cons (.tmp rfl) .nil)) rfl ?_
 cases h
 exact g0.gv
 refine Ar<|Ac<|Ae rfl<|Ae rfl<|bk h fun v0 t0 h=>jE (bd 150) rfl (e2 rfl rfl) (fun w9 hw9=>cT_c n (d0.hL hL hw9)  t0) rfl fun H0 E0 p0 ⟨C0,D0,hu_,q0,s0⟩=>?_
 subst hu_
 obtain ⟨b0,A0⟩:=d0.agr p0
 refine bk h fun c0 u0 h=>Bi (.tuple #[.agg ((ab c0.1)).toArray,vI c0.2]) (bd 101) rfl (e1 rfl) (fun w9 hw9=>bb_c n (b0.hL0 hL hw9) v0 (b0.kd q0 hw9) (b0.kd s0 hw9) u0) rfl<|Ab (Ah rfl rfl)<|Ab (Ah rfl rfl)<|AQ (ab c0.1) b0 .hd (ai rfl) fun I0 j0 B0=>Af rfl<|Aa<|Al rfl<|Ap hb0 func107 rfl (.cons (.many (cs:=(ab c0.1)) rfl rfl (j0.memA .hd)) (.cons (.tmp rfl) .nil)) rfl ?_
 cases h
 exact j0.gv
def cg_p (n:Nat) (a0:Int) (a1:Int):Option Ta:=
  (dp_p n a0 a1).bind fun b0=>some b0.1
theorem cg_c (n:Nat) {L w} (hL:hl L w) {a0:Int} {a1:Int}  {r:Ta} (h:cg_p n a0 a1 = some r) :
 Cl 58 #[vI a0,vI a1] w (ah w fun _ u=>u = .agg ((ab r)).toArray):=by
 unfold cg_p at h
 refine AG func58 rfl rfl rfl fun _ cs0 hb0=>Ac<|RG.nl zL (Az w) fun x0 p0 c0 s0=>Aa<|Ac<|Ae rfl<|Ae rfl<|bk h fun b0 k0 h=>Bi (.tuple #[.agg ((ab b0.1)).toArray,vI b0.2]) (bd 107) rfl (e2 rfl rfl) (fun w9 hw9=>dp_c n (c0.hL0 hL hw9)  k0) rfl<|Ae rfl<|Ab (Ah rfl rfl)<|Ab (Ah rfl rfl)<|RG.nl zL c0 fun y0 q0 j0 t0=>AQ (ab b0.1) j0 .hd (ai rfl) fun z0 d0 u0=>Af rfl<|Aa<|Ac<|Ab (AF rfl (d0.memA .hd))<|AQ (ab b0.1) d0 .t1 (ai rfl) fun A0 g0 v0=>Aa<|Al rfl<|Ap hb0 func58 rfl (.cons (.many (cs:=(ab b0.1)) rfl rfl (g0.memA .t1)) .nil) rfl ?_
 cases h
 exact g0.gv
def aZ_p (n:Nat) (a0:Int) (a1:Int):Option Ta:=
  (cg_p n a0 a1).bind fun b0=>some b0
theorem aZ_c (n:Nat) {L w} (hL:hl L w) {a0:Int} {a1:Int}  {r:Ta} (h:aZ_p n a0 a1 = some r) :
 Cl 44 #[vI a0,vI a1] w (ah w fun _ u=>u = .agg ((ab r)).toArray):=by
 unfold aZ_p at h
 refine AG func44 rfl rfl rfl fun _ cs0 hb0=>Ac<|RG.nl zL (Az w) fun q0 j0 c0 k0=>Aa<|Ac<|Ae rfl<|Ae rfl<|bk h fun b0 g0 h=>Bi (.agg ((ab b0)).toArray) (bd 58) rfl (e2 rfl rfl) (fun w9 hw9=>cg_c n (c0.hL0 hL hw9)  g0) rfl<|AQ (ab b0) c0 .hd (ai rfl) fun s0 d0 p0=>Aa<|Al rfl<|Ap hb0 func44 rfl (.cons (.many (cs:=(ab b0)) rfl rfl (d0.memA .hd)) .nil) rfl ?_
 cases h
 exact d0.gv
def aA_l1 (n:Nat) (a2:Int) (p0:(List Int) × (List Int) × Int) (q0:Int × (List Ta) -> Option (List Ta)):Int × (List Ta) -> Option (List Ta)
  | (d0,k0)=>(if d0 < a2 then (aZ_p n (0:Int) (1:Int)).bind fun b0=>(idx p0.2.1 d0).bind fun j0=>jn (fun (t0,u0,v0,x0,y0,z0,A0,B0,C0,D0,E0,F0,G0,H0,I0,J0)=>(app k0 ([(⟨(t0,u0,v0,x0,y0,z0,A0,B0),(C0,D0,E0,F0,G0,H0,I0,J0)⟩:Ta)]:List Ta)).bind fun M0=>(chk (d0 + 1)).bind fun s0=>q0 (s0,M0)) (fun g0=>(if 0 < j0 then (idx p0.1 d0).bind fun K0=>(aZ_p n K0 j0).bind fun c0=>g0 (c0.fN.1,c0.fN.2.1,c0.fN.2.2.1,c0.fN.2.2.2.1,c0.fN.2.2.2.2.1,c0.fN.2.2.2.2.2.1,c0.fN.2.2.2.2.2.2.1,c0.fN.2.2.2.2.2.2.2,c0.fD.1,c0.fD.2.1,c0.fD.2.2.1,c0.fD.2.2.2.1,c0.fD.2.2.2.2.1,c0.fD.2.2.2.2.2.1,c0.fD.2.2.2.2.2.2.1,c0.fD.2.2.2.2.2.2.2) else g0 (b0.fN.1,b0.fN.2.1,b0.fN.2.2.1,b0.fN.2.2.2.1,b0.fN.2.2.2.2.1,b0.fN.2.2.2.2.2.1,b0.fN.2.2.2.2.2.2.1,b0.fN.2.2.2.2.2.2.2,b0.fD.1,b0.fD.2.1,b0.fD.2.2.1,b0.fD.2.2.2.1,b0.fD.2.2.2.2.1,b0.fD.2.2.2.2.2.1,b0.fD.2.2.2.2.2.2.1,b0.fD.2.2.2.2.2.2.2))) else some k0)
def aA_p (n:Nat) (a0:Td) (a1:List Int) (a2:Int) (a3:Int):Option ((List Ta) × Int):=
  (aw_p n a0 a1 a2 a3).bind fun b0=>(if b0.2.2 = 0 then Option.bind (am (aA_l1 n a2 b0) n (0,([]:List Ta))) (fun c0=>some (c0,(0:Int))) else some (([]:List Ta),b0.2.2))
theorem aA_c (n:Nat) {L w} (hL:hl L w) (a0:Td) {v0_3:Value} (h0_3:Rep.R w L [v0_3] a0.fu) {a1:List Int} {v1_0:Value} (h1_0:Rep.R w L [v1_0] a1) {a2:Int} {a3:Int}  {r:(List Ta) × Int} (h:aA_p n a0 a1 a2 a3 = some r) :
 Cl 13 #[.agg #[vI a0.fj,vI a0.fh,vI a0.fl,v0_3],v1_0,vI a2,vI a3] w (ah w fun w' u=>∃ v0_0:Value,u = .tuple #[v0_0,vI r.2]/\Rep.R w' L [v0_0] r.1):=by
 unfold aA_p at h
 refine AG func13 rfl rfl rfl fun _ cs0 hb0=>Ac<|RG.bx (Az w) rfl rfl fun g3 U2 J0 Y2=>Af rfl<|Af rfl<|Aa<|Ac<|Ab (AF rfl (J0.memA .hd))<|Ae rfl<|Ae rfl<|Ae rfl<|bk h fun K2 D2 h=>jE (bd 43) rfl (e4 rfl rfl rfl rfl) (fun w9 hw9=>aw_c n (J0.hL hL hw9) a0 (J0.km h0_3 hw9) (J0.km h1_0 hw9) D2) rfl fun j3 d3 U1 ⟨u1,v1,hu_,k2,p2⟩=>?_
 subst hu_
 obtain ⟨K0,Z2⟩:=J0.agr U1
 refine Ae rfl<|Ab (Ah rfl rfl)<|Ab (Ah rfl rfl)<|Ab (Ah rfl rfl)<|Af rfl<|Af rfl<|Af rfl<|Aa<|Ai<|Ac<|Ae rfl<|Ab (FV.neq (i:=K2.2.2) (j:=0) rfl rfl)<|Aa<|MX.ifn rfl h (fun z1 h=>?_) (fun z1 h=>?_)
 refine Ar<|Ac<|Af rfl<|Aa<|Ai<|Ac<|Af rfl<|Aa<|AA ?_
 have W0:=K0.nilRow 38 (Rep.size Ta)
 obtain ⟨G1,Y0⟩:=AI W0 (.a0 .done)
 obtain ⟨c3,j2,Z1⟩:=aq h
 refine MX.lf (α:=Int × (List Ta) × Value × (List Value)) (fun ⟨D0,G0,F0,I0⟩=>[(2,vI a2),(10,u1),(11,v1),(13,F0),(14,vI D0)]) (fun ⟨D0,G0,F0,I0⟩=>[rr w 38 Ta F0 G0.length I0]) (fun ⟨D0,G0,F0,I0⟩ x1=>Cells x1 (bl [rr w 38 Ta F0 G0.length I0] ++ L) I0 G0) (fun ⟨D0,G0,F0,I0⟩=>(D0,G0)) (0,([]:List Ta),vN,[]) j2 G1 (AD (AE (cs:=[]) (xs:=([]:List Ta)) W0 L (AK _ _)) Y0) ?_
 rintro Q2 ⟨D0,G0,F0,I0⟩ x1 F1 M0 Z0 g1 h
 unfold aA_l1 at h
 try dsimp only at h
 refine Ai<|Ac<|Ae rfl<|Ae rfl<|Ab (BK (i:=D0) (j:=a2) rfl rfl)<|Aa<|AT rfl h (fun A1 h=>?_) (fun A1 h=>?_)
 refine Ar<|Ai<|AA<|Ac<|bk h fun b0 E2 h=>Bi (.agg ((ab b0)).toArray) (bd 44) rfl (e2 rfl rfl) (fun w9 hw9=>aZ_c n (M0.hL0 hL hw9)  E2) rfl<|RG.nl zL M0 fun k3 U0 H1 b1=>AQ (ab b0) H1 .hd (ai rfl) fun p3 P0 c1=>Aa<|Ai<|Ac<|Ae rfl<|Ae rfl<|bk h fun y1 y2 h=>?_
 obtain ⟨k1,z2⟩:=aA y2
 have s1:=Tt (St.nilRowT K0 38 (Rep.size Ta)) (Tt Y0 (Tt Z0 (Tt b1 c1)))
 obtain ⟨M2,W2,j1,p1,C1,q2,q1⟩:=Bk (Am p2 s1) z2
 have W1:C1 = [vI y1]:=q2; subst W1
 refine Ab (Bj 1 (D0.toNat) rfl j1 rfl k1 p1)<|AR rfl (q1 0 _ rfl)<|Ab (FV.gtr (i:=y1) (j:=0) rfl rfl)<|Aa<|MX.jo (α:=U16) (fun ⟨d0,g0,j0,k0,p0,q0,s0,t0,u0,v0,x0,y0,z0,A0,B0,C0⟩=>[(2,vI a2),(10,u1),(11,v1),(13,F0),(14,vI D0),(15,vP U0)]) (fun ⟨d0,g0,j0,k0,p0,q0,s0,t0,u0,v0,x0,y0,z0,A0,B0,C0⟩=>[.cells U0 [vU d0,vU g0,vU j0,vU k0,vU p0,vU q0,vU s0,vU t0,vU u0,vU v0,vU x0,vU y0,vU z0,vU A0,vU B0,vU C0] 38,rr w 38 Ta F0 G0.length I0]) (fun ⟨d0,g0,j0,k0,p0,q0,s0,t0,u0,v0,x0,y0,z0,A0,B0,C0⟩=>(d0,g0,j0,k0,p0,q0,s0,t0,u0,v0,x0,y0,z0,A0,B0,C0)) P0 h ?_ ?_
 rintro ⟨d0,g0,j0,k0,p0,q0,s0,t0,u0,v0,x0,y0,z0,A0,B0,C0⟩ u3 X0 M1 h
 try dsimp only at h
 refine Ao<|Ae rfl<|Ab (AF rfl (X0.memA .hd))<|Aj .plain rfl (AN (α:=Ta) (xs:=([(⟨(d0,g0,j0,k0,p0,q0,s0,t0),(u0,v0,x0,y0,z0,A0,B0,C0)⟩:Ta)]:List Ta)) (vs:=[.agg #[vU d0,vU g0,vU j0,vU k0,vU p0,vU q0,vU s0,vU t0,vU u0,vU v0,vU x0,vU y0,vU z0,vU A0,vU B0,vU C0]]) (ds' :=[vU d0,vU g0,vU j0,vU k0,vU p0,vU q0,vU s0,vU t0,vU u0,vU v0,vU x0,vU y0,vU z0,vU A0,vU B0,vU C0]) rfl X0 dU rfl (e1 rfl) (by kernel_rfl) rfl) fun q3 V2 Q0 P1=>bk h fun J2 C2 h=>?_
 have t1:=Tt b1 (Tt c1 (Tt M1 P1))
 refine RG.doesL .plain rfl (Bo (α:=Ta) (ys:=([(⟨(d0,g0,j0,k0,p0,q0,s0,t0),(u0,v0,x0,y0,z0,A0,B0,C0)⟩:Ta)]:List Ta)) C2 Q0 (fun _ _=>.t2) dU rfl rfl (AD g1 t1) (Src.row (α:=Ta) Q0 .hd (AE (cs:=[vU d0,vU g0,vU j0,vU k0,vU p0,vU q0,vU s0,vU t0,vU u0,vU v0,vU x0,vU y0,vU z0,vU A0,vU B0,vU C0]) (xs:=(([(⟨(d0,g0,j0,k0,p0,q0,s0,t0),(u0,v0,x0,y0,z0,A0,B0,C0)⟩:Ta)]:List Ta):List Ta)) Q0 L (Aw (cs:=[vU d0,vU g0,vU j0,vU k0,vU p0,vU q0,vU s0,vU t0,vU u0,vU v0,vU x0,vU y0,vU z0,vU A0,vU B0,vU C0]) (ds:=[]) (br (d0,g0,j0,k0,p0,q0,s0,t0) (u0,v0,x0,y0,z0,A0,B0,C0)) (AK _ _))))) fun H2 s3 ⟨D1,I1,Q1,V1⟩=>Af rfl<|Aa<|AC<|Ao<|Ae rfl<|bk h fun G2 x2 h=>Ab (BE (i:=D0) (j:=1) rfl rfl x2)<|Af rfl<|Aa ?_
 obtain ⟨J1,d1⟩:=AI I1 .d2
 exact F1 (G2,J2,H2,D1) J1 (Tt Z0 (Tt t1 (Tt Q1 d1))) (AD V1 d1) h
 intro R2 V0 h
 try dsimp only at h
 refine AT rfl h (fun B1 h=>?_) (fun B1 h=>?_)
 refine du 9 fun E0 H0=>Rv 0 E0 rfl H0 (fun _=>Ak rfl)<|Rv 1 E0 rfl H0 (fun _=>Ak rfl)<|bk h fun I2 A2 h=>?_
 obtain ⟨b2,B2⟩:=aA A2
 obtain ⟨P2,X2,X1,c2,E1,s2,g2⟩:=Bk (Am k2 s1) B2
 have Y1:E1 = [vI I2]:=s2; subst Y1
 refine Rv 2 E0 rfl H0 (fun _=>Bj 1 (D0.toNat) rfl X1 rfl b2 c2)<|Rx 3 768 E0 rfl H0 (AL rfl (g2 0 _ rfl))<|Rv 4 E0 rfl H0 (fun _=>Ak rfl)<|Rv 5 E0 rfl H0 (fun _=>Ak rfl)<|Rv 6 E0 rfl H0 (fun _=>Bj 1 (D0.toNat) rfl j1 rfl k1 p1)<|Rx 7 768 E0 rfl H0 (AL rfl (q1 0 _ rfl))<|bk h fun c0 F2 h=>BG 8 511 512 (.agg ((ab c0)).toArray) E0 rfl H0 (bd 44) rfl (e2 rfl rfl) (fun w9 hw9=>aZ_c n (P0.hL0 hL hw9)  F2) rfl<|Bz 9 1023 E0 rfl rfl .plain (Ay (news:=(ab c0)) P0 .hd rfl rfl rfl rfl rfl rfl (ai rfl)) fun t3 K1 R1=>AM (dk E0)<|V0 (c0.fN.1,c0.fN.2.1,c0.fN.2.2.1,c0.fN.2.2.2.1,c0.fN.2.2.2.2.1,c0.fN.2.2.2.2.2.1,c0.fN.2.2.2.2.2.2.1,c0.fN.2.2.2.2.2.2.2,c0.fD.1,c0.fD.2.1,c0.fD.2.2.1,c0.fD.2.2.2.1,c0.fD.2.2.2.2.1,c0.fD.2.2.2.2.2.1,c0.fD.2.2.2.2.2.2.1,c0.fD.2.2.2.2.2.2.2) K1 R1 h
 refine Ar<|V0 (b0.fN.1,b0.fN.2.1,b0.fN.2.2.1,b0.fN.2.2.2.1,b0.fN.2.2.2.2.1,b0.fN.2.2.2.2.2.1,b0.fN.2.2.2.2.2.2.1,b0.fN.2.2.2.2.2.2.2,b0.fD.1,b0.fD.2.1,b0.fD.2.2.1,b0.fD.2.2.2.1,b0.fD.2.2.2.2.1,b0.fD.2.2.2.2.2.1,b0.fD.2.2.2.2.2.2.1,b0.fD.2.2.2.2.2.2.2) P0 (Bw _ _) h
 refine Be rfl ?_
 have h:=Z1 _ h
 try dsimp only at h
 refine Ac<|Ae rfl<|Af rfl<|Af rfl<|Aa<|Al rfl ?_
 have R0:=Br M0 .hd
 have b3:=Bs M0 .hd
 have u2:=Bu (α:=Ta) (v:=F0) (xs:=G0) R0 L (Bf (α:=Ta) M0 .hd g1 hL)
 refine Ap hb0 func13 rfl (.cons (.tmp rfl) (.cons (.tmp rfl) .nil)) rfl ?_
 cases h
 exact ⟨R0.ag,fun w9 hw9=>⟨F0,rfl,R0.kd u2 hw9⟩⟩
 refine Ac<|Ae rfl<|Af rfl<|Af rfl<|Aa<|Al rfl ?_
 have v2:=BS (α:=Ta) K0 L
 refine Ap hb0 func13 rfl (.cons (.tmp rfl) (.cons (.tmp rfl) .nil)) rfl ?_
 cases h
 exact ⟨K0.ag,fun w9 hw9=>⟨vN,rfl,K0.kd v2 hw9⟩⟩
def bh_l1 (_n:Nat) (a0:U8) (g0:Nat × (List Int) -> Option (List Int)):Nat × (List Int) -> Option (List Int)
  | (b0,c0)=>(if b0 < 8 then (([a0.1,a0.2.1,a0.2.2.1,a0.2.2.2.1,a0.2.2.2.2.1,a0.2.2.2.2.2.1,a0.2.2.2.2.2.2.1,a0.2.2.2.2.2.2.2]:List UInt64)[b0]?).bind fun d0=>(app c0 ([aB (d0 % (4294967296:UInt64)),aB (d0 / (4294967296:UInt64))]:List Int)).bind fun j0=>g0 (b0 + 1,j0) else some c0)
def bh_p (n:Nat) (a0:U8):Option (List Int):=
  Option.bind (am (bh_l1 n a0) n (0,([]:List Int))) (fun b0=>some b0)
theorem bh_c (n:Nat) {L w} (hL:hl L w) (a0:U8)  {r:List Int} (h:bh_p n a0 = some r) :
 Cl 172 #[.agg ((ak a0)).toArray] w (ah w fun w' u=>∃ v0_0:Value,u = v0_0/\Rep.R w' L [v0_0] r):=by
 unfold bh_p at h
 refine AG func172 rfl rfl rfl fun _ cs0 hb0=>Ac<|RG.bx (Az w) rfl rfl fun j1 s0 x0 Z0=>Af rfl<|Aa<|Ac<|Af rfl<|Aa<|Ai<|Ac<|Af rfl<|Aa<|AA ?_
 have y0:=x0.nilRow 3 (Rep.size Int)
 have b1:=St.nilRowT x0 3 (Rep.size Int)
 obtain ⟨c1,P0,M0⟩:=aq h
 refine MX.lf (α:=Nat × (List Int) × Value × (List Value)) (fun ⟨d0,k0,j0,p0⟩=>[(1,vP s0),(3,j0),(4,vI ((d0:Nat):Int))]) (fun ⟨d0,k0,j0,p0⟩=>[rr w 3 Int j0 k0.length p0,.cells s0 (ak a0) 36]) (fun ⟨d0,k0,j0,p0⟩ C0=>Cells C0 (bl [rr w 3 Int j0 k0.length p0,.cells s0 (ak a0) 36] ++ L) p0 k0) (fun ⟨d0,k0,j0,p0⟩=>(d0,k0)) (0,([]:List Int),vN,[]) P0 y0 (AE (cs:=[]) (xs:=([]:List Int)) y0 L (AK _ _)) ?_
 rintro W0 ⟨d0,k0,j0,p0⟩ C0 F0 q0 J0 B0 h
 unfold bh_l1 at h
 try dsimp only at h
 refine Ai<|Ac<|Ae rfl<|Ab (Bq (i:=d0) (j:=8) rfl rfl)<|Aa<|AT rfl h (fun D0 h=>?_) (fun D0 h=>?_)
 refine Ar<|Ai<|AA<|du 12 fun c0 g0=>Rv 0 c0 rfl g0 (fun _=>Ak rfl)<|Rv 1 c0 rfl g0 (fun _=>Ak rfl)<|bk h fun b0 t0 h=>Rv 2 c0 rfl g0 (fun _=>Bc (m:=1) (k:=d0) (len:=8) rfl rfl rfl rfl (bb t0 rfl))<|Rx 3 14384 c0 rfl g0 (AL rfl ((aQ (p:=⟨s0,0,none⟩) (cs:=([a0.1,a0.2.1,a0.2.2.1,a0.2.2.2.1,a0.2.2.2.2.1,a0.2.2.2.2.2.1,a0.2.2.2.2.2.2.1,a0.2.2.2.2.2.2.2]:List UInt64).map (fun z9:UInt64=>(vU z9:Value)) ++ []) (i:=d0) (q0.memA .t1) (bI (fun z9:UInt64=>(vU z9:Value)) t0)) 0 _ rfl))<|Rv 4 c0 rfl g0 (fun _=>FV.remU (a:=b0) (b:=(4294967296:UInt64)) rfl rfl (by decide))<|Rv 5 c0 rfl g0 (fun _=>FV.convUI (a:=b0 % (4294967296:UInt64)) underlying34 underlying3 rfl)<|Rv 6 c0 rfl g0 (fun _=>Ak rfl)<|Rv 7 c0 rfl g0 (fun _=>Bc (m:=1) (k:=d0) (len:=8) rfl rfl rfl rfl (bb t0 rfl))<|Rx 8 15872 c0 rfl g0 (AL rfl ((aQ (p:=⟨s0,0,none⟩) (cs:=([a0.1,a0.2.1,a0.2.2.1,a0.2.2.2.1,a0.2.2.2.2.1,a0.2.2.2.2.2.1,a0.2.2.2.2.2.2.1,a0.2.2.2.2.2.2.2]:List UInt64).map (fun z9:UInt64=>(vU z9:Value)) ++ []) (i:=d0) (q0.memA .t1) (bI (fun z9:UInt64=>(vU z9:Value)) t0)) 0 _ rfl))<|Rv 9 c0 rfl g0 (fun _=>FV.quoU (a:=b0) (b:=(4294967296:UInt64)) rfl rfl (by decide))<|Rv 10 c0 rfl g0 (fun _=>FV.convUI (a:=b0 / (4294967296:UInt64)) underlying34 underlying3 rfl)<|BV 11 4095 c0 rfl .plain rfl (AN (α:=Int) (xs:=([aB (b0 % (4294967296:UInt64)),aB (b0 / (4294967296:UInt64))]:List Int)) (vs:=[vI (aB (b0 % (4294967296:UInt64))),vI (aB (b0 / (4294967296:UInt64)))]) (ds' :=[vI (aB (b0 % (4294967296:UInt64))),vI (aB (b0 / (4294967296:UInt64)))]) rfl q0 aw rfl (e2 rfl rfl) (by kernel_rfl) rfl) fun k1 X0 v0 A0=>bk h fun V0 R0 h=>BT (i:=12) (rk c0) (BL (m' :=8191) (sk c0) rfl rfl .plain rfl (Bo (α:=Int) (ys:=([aB (b0 % (4294967296:UInt64)),aB (b0 / (4294967296:UInt64))]:List Int)) R0 v0 (fun _ _=>.t1) aw rfl rfl (AD B0 A0) (Src.row (α:=Int) v0 .hd (AE (cs:=[vI (aB (b0 % (4294967296:UInt64))),vI (aB (b0 / (4294967296:UInt64)))]) (xs:=(([aB (b0 % (4294967296:UInt64)),aB (b0 / (4294967296:UInt64))]:List Int):List Int)) v0 L (Aw (cs:=[vI (aB (b0 % (4294967296:UInt64)))]) (ds:=[vI (aB (b0 / (4294967296:UInt64)))]) rfl (Aw (cs:=[vI (aB (b0 / (4294967296:UInt64)))]) (ds:=[]) rfl (AK _ _)))))) (fun U0 g1 ⟨E0,G0,I0,K0⟩=>?_))
 refine Rv 13 c0 rfl g0 (fun _=>Bh rfl)<|AM (dk c0)<|AC<|Ao<|Ae rfl<|Ab (Bn (i:=d0) (j:=1) rfl rfl (by omega))<|Af rfl<|Aa ?_
 obtain ⟨H0,z0⟩:=AI G0 .d1
 exact F0 (d0 + 1,V0,U0,E0) H0 (Tt J0 (Tt A0 (Tt I0 z0))) (AD K0 z0) h
 refine Be rfl ?_
 have h:=M0 _ h
 try dsimp only at h
 refine Ac<|Ae rfl<|Af rfl<|Aa<|Al rfl ?_
 have u0:=Br q0 .hd
 have Y0:=Bs q0 .hd
 have Q0:=Bu (α:=Int) (v:=j0) (xs:=k0) u0 L (Bf (α:=Int) q0 .hd B0 hL)
 refine AY hb0 func172 rfl rfl ?_
 cases h
 exact ⟨u0.ag,fun w9 hw9=>⟨j0,rfl,u0.kd Q0 hw9⟩⟩
def ar_p (n:Nat) (a0:U8):Option Tc:=
  (bh_p n a0).bind fun c0=>(if a0.2.2.2.2.2.2.2 < (9223372036854775808:UInt64) then (aa_p n false c0).bind fun g0=>some g0 else (mk 17 (0:Int)).bind fun b0=>(b0[16]?).bind fun _x49=>(put b0 ((16:Nat):Int) (1:Int)).bind fun d0=>(az_p n c0).bind fun j0=>(ao_p n d0 j0).bind fun k0=>(aa_p n true k0).bind fun p0=>some p0)
theorem ar_c (n:Nat) {L w} (hL:hl L w) (a0:U8)  {r:Tc} (h:ar_p n a0 = some r) :
 Cl 142 #[.agg ((ak a0)).toArray] w (ah w fun w' u=>∃ v0_1:Value,u = .agg #[.bool r.fe,v0_1]/\Rep.R w' L [v0_1] r.fD):=by
 unfold ar_p at h
 refine AG func142 rfl rfl rfl fun _ cs0 hb0=>Ac<|RG.bx (Az w) rfl rfl fun g2 D1 J0 J1=>RG.nl [.bool false,vN] J0 fun j2 E1 c0 K1=>Aa<|Ac<|Ab (AF rfl (c0.memA .t1))<|bk h fun A2 u1 h=>jE (bd 172) rfl (e1 rfl) (fun w9 hw9=>bh_c n (c0.hL hL hw9) a0 u1) rfl fun k2 Y1 W0 ⟨V1,hu_,A0⟩=>?_
 subst hu_
 obtain ⟨b0,M1⟩:=c0.agr W0
 refine Af rfl<|Aa<|Ai<|Ac<|Ab (Bc (m:=1) (k:=7) (len:=8) rfl rfl rfl rfl (by omega))<|AR rfl ((b0.memA .t1) 7 _ rfl)<|Ab (FV.lssU (a:=a0.2.2.2.2.2.2.2) (b:=(9223372036854775808:UInt64)) rfl rfl)<|Aa<|AT rfl h (fun H0 h=>?_) (fun H0 h=>?_)
 refine Ac<|Ae rfl<|bk h fun D0 v1 h=>jE (bd 173) rfl (e2 rfl rfl) (fun w9 hw9=>aa_c n (b0.hL hL hw9) (Aq A0 hw9) v1) rfl fun p2 Z1 X0 ⟨s0,hu_,B0⟩=>?_
 subst hu_
 obtain ⟨K0,P1⟩:=b0.agr X0
 refine AQ [.bool D0.fe,s0] K0 .hd (o2 rfl (AP B0)) fun q2 d0 Q0=>Aa<|Al rfl<|Ap hb0 func142 rfl (.cons (.many (cs:=[.bool D0.fe,s0]) rfl rfl (d0.memA .hd)) .nil) rfl ?_
 cases h
 exact ⟨d0.ag,fun w9 hw9=>⟨s0,rfl,d0.kd (Am B0 Q0) hw9⟩⟩
 refine Ar<|Ac<|bk h fun z2 q1 h=>RG.doesH .plain rfl (Does.mkH (α:=Int) (L:=L) q1 b0 aw rfl (fun _ _=>rfl)) fun A1 s2 ⟨H1,g0,R0,x0⟩=>Af rfl<|Aa<|Ac<|Ae rfl<|bk h fun B1 p1 h=>?_
 obtain ⟨F0,F1,q0,z0,I0,g1,U1⟩:=St.nth (α:=Int) g0 .hd x0 p1
 obtain ⟨G0,G1,y0⟩:=BJ (α:=Int) g0 .hd z0
 obtain rfl:F0 = ⟨G0,0,none⟩:=by rw [y0] at q0; cases q0; rfl
 have d1:I0 = [vI B1]:=g1; subst d1
 refine Ab (Bj 1 16 rfl q0 rfl rfl z0)<|bk h fun C1 s1 h=>RG.acts' .plain (Acts.set (α:=Int) (i:=16) s1 g0 y0 (fun _=>.hd) x0 rfl rfl rfl rfl rfl rfl) fun t2 ⟨I1,u0,U0,c1⟩=>Aa<|Ac<|Ae rfl<|Ae rfl<|bk h fun B2 x1 h=>jE (bd 175) rfl (e1 rfl) (fun w9 hw9=>az_c n (u0.hL hL hw9) (Aq (Am A0 (Tt R0 U0)) hw9) x1) rfl fun u2 b2 Y0 ⟨W1,hu_,j1⟩=>?_
 subst hu_
 obtain ⟨j0,V0⟩:=u0.agr Y0
 have k0:=Br j0 .hd
 refine bk h fun C2 y1 h=>jE (bd 174) rfl (e2 rfl rfl) (fun w9 hw9=>ao_c n (k0.hL hL hw9) (Aq (Bu (α:=Int) (v:=A1) (xs:=C1) k0 L (Bf (α:=Int) j0 .hd (AD c1 V0) hL)) hw9) (Aq (Am j1 (Bs j0 .hd)) hw9) y1) rfl fun v2 c2 Z0 ⟨X1,hu_,k1⟩=>?_
 subst hu_
 obtain ⟨v0,Q1⟩:=k0.agr Z0
 refine bk h fun E0 z1 h=>jE (bd 173) rfl (e2 rfl rfl) (fun w9 hw9=>aa_c n (v0.hL hL hw9) (Aq k1 hw9) z1) rfl fun x2 d2 b1 ⟨t0,hu_,C0⟩=>?_
 subst hu_
 obtain ⟨M0,R1⟩:=v0.agr b1
 refine AQ [.bool E0.fe,t0] M0 .hd (o2 rfl (AP C0)) fun y2 p0 P0=>Aa<|Al rfl<|Ap hb0 func142 rfl (.cons (.many (cs:=[.bool E0.fe,t0]) rfl rfl (p0.memA .hd)) .nil) rfl ?_
 cases h
 exact ⟨p0.ag,fun w9 hw9=>⟨t0,rfl,p0.kd (Am C0 P0) hw9⟩⟩
def cL_p (_n:Nat) (a0:Tc):Option Bool:=
  (if a0.fD.length = 1 then (a0.fD[0]?).bind fun b0=>(if b0 = 1 then some (!a0.fe) else some false) else some false)
theorem cL_c (n:Nat) {L w} (_hL:hl L w) (a0:Tc) {v0_1:Value} (h0_1:Rep.R w L [v0_1] a0.fD)  {r:Bool} (h:cL_p n a0 = some r) :
 Cl 143 #[.agg #[.bool a0.fe,v0_1]] w (ah w fun _ u=>u = .bool r):=by
 unfold cL_p at h
 refine AG func143 rfl rfl rfl fun _ cs0 hb0=>Ac<|RG.bx (Az w) rfl rfl fun C0 y0 b0 A0=>Af rfl<|Aa<|Ac<|AX 1 rfl<|AR rfl ((b0.memA .hd) 1 _ rfl) ?_
 have c0:=AS h0_1 b0
 have B0:a0.fD.length <= 281474976710656:=Ba c0
 refine Ab (Bg (xs:=a0.fD) underlying40 rfl c0)<|Ab (BM (i:=a0.fD.length) (j:=1) rfl rfl)<|Ae rfl<|BA (s:=7) rfl h (fun g0 h=>?_) (fun g0 h=>?_)
 refine RG.fg 1 rfl<|AH (AL rfl ((b0.memA .hd) 1 _ rfl))<|bk h fun d0 v0 h=>?_
 obtain ⟨x0,z0,p0,s0,k0,u0,t0⟩:=Bk c0 v0
 have q0:k0 = [vI d0]:=u0; subst q0
 refine AH (Bj 1 0 rfl p0 rfl rfl s0)<|AH (AL rfl (t0 0 _ rfl))<|AH (FV.eql (i:=d0) (j:=1) rfl rfl)<|Bm rfl rfl<|Ae rfl<|BA (s:=14) rfl h (fun j0 h=>?_) (fun j0 h=>?_)
 refine RG.fg 0 rfl<|AH (AL rfl ((b0.memA .hd) 0 _ rfl))<|AH (Bp rfl)<|Bm rfl rfl<|Af rfl<|Aa<|Al rfl<|AY hb0 func143 rfl rfl ?_
 cases h
 exact b0.gv
 refine Au<|Au<|Au<|Bv rfl rfl<|Af rfl<|Aa<|Al rfl<|AY hb0 func143 rfl rfl ?_
 cases h
 exact b0.gv
 refine Au<|Au<|Au<|Au<|Au<|Bv rfl rfl<|Ae rfl<|Au<|Au<|Au<|Bv rfl rfl<|Af rfl<|Aa<|Al rfl<|AY hb0 func143 rfl rfl ?_
 cases h
 exact b0.gv
def ah_p (n:Nat) (a0:Ta):Option Bool:=
  (ar_p n a0.fN).bind fun g0=>(ar_p n a0.fD).bind fun b0=>(if b0.fe = true then some false else (if 0 < b0.fD.length then (aO_p n g0 b0).bind fun c0=>(cL_p n c0).bind fun d0=>some d0 else some false))
theorem ah_c (n:Nat) {L w} (hL:hl L w) (a0:Ta)  {r:Bool} (h:ah_p n a0 = some r) :
 Cl 100 #[.agg ((ab a0)).toArray] w (ah w fun _ u=>u = .bool r):=by
 unfold ah_p at h
 refine AG func100 rfl rfl rfl fun _ cs0 hb0=>Ac<|RG.bx (Az w) rfl rfl fun H2 A2 M0 B2=>Af rfl<|Aa<|Ai<|du 8 fun b0 V0=>Rv 0 b0 rfl V0 (fun _=>AU 0 rfl)<|Rx 1 804 b0 rfl V0 (AW (cs:=(ak a0.fN)) rfl rfl (ae (M0.memA .hd) 0 8))<|Rv 3 b0 rfl V0 (fun _=>AU 8 rfl)<|Rx 4 800 b0 rfl V0 (AW (cs:=(ak a0.fD)) rfl rfl (ae (M0.memA .hd) 8 8))<|bk h fun Y0 U0 h=>bk h fun P0 C0 h=>RD.mf (α:=Value × Value × Nat × Nat) (fun ⟨Q0,R0,J0,K0⟩=>[(7,.agg #[.bool Y0.fe,Q0]),(10,.agg #[.bool P0.fe,R0]),(3,vP K0),(4,vP J0)]) (fun ⟨Q0,R0,J0,K0⟩=>[.cells J0 [.bool false,vN] 162,.cells K0 [.bool false,vN] 162]) (fun ⟨Q0,R0,J0,K0⟩ j1=>Rep.R j1 (bl [.cells J0 [.bool false,vN] 162,.cells K0 [.bool false,vN] 162] ++ L) [Q0] Y0.fD/\Rep.R j1 (bl [.cells J0 [.bool false,vN] 162,.cells K0 [.bool false,vN] 162] ++ L) [R0] P0.fD) M0 2 255 ?_ ?_
 rintro ⟨Q0,R0,J0,K0⟩ j1 V1 C2 ⟨P1,Q1⟩
 try dsimp only
 refine Bz 8 511 b0 rfl rfl .plain (Ay (news:=[.bool Y0.fe,Q0]) V1 .t1 rfl rfl rfl rfl rfl rfl (o2 rfl (AP P1))) fun I2 W1 b1=>Bz 9 1023 b0 rfl rfl .plain (Ay (news:=[.bool P0.fe,R0]) W1 .hd rfl rfl rfl rfl rfl rfl (o2 rfl (AP (Am Q1 b1)))) fun J2 G0 k1=>AM (dk b0)<|Ac<|AX 0 rfl<|AR rfl ((G0.memA .hd) 0 _ rfl)<|Ab (Bp rfl)<|Ae rfl<|RG.ifnb (s:=14) rfl h (fun R1 h=>?_) (fun R1 h=>?_)
 refine Au<|Au<|Au<|Au<|Bv rfl rfl<|Ae rfl<|Au<|Au<|Au<|Au<|Bv rfl rfl<|Af rfl<|Aa<|Al rfl<|AY hb0 func100 rfl rfl ?_
 cases h
 exact G0.gv
 refine RG.fg 1 rfl<|AH (AL rfl ((G0.memA .hd) 1 _ rfl)) ?_
 have g1:=Am Q1 (Tt b1 k1)
 have E2:P0.fD.length <= 281474976710656:=Ba g1
 refine AH (Bg (xs:=P0.fD) underlying40 rfl g1)<|AH (FV.gtrN (i:=P0.fD.length) (j:=0) rfl rfl)<|Bm rfl rfl<|Ae rfl<|BA (s:=20) rfl h (fun U1 h=>?_) (fun U1 h=>?_)
 refine AH (AF rfl (G0.memA .t1))<|AH (AF rfl (G0.memA .hd))<|bk h fun y2 v2 h=>Bd (fst:=[]) (cap:=[]) (.yes rfl rfl) (bd 144) rfl (e2 rfl rfl) (fun w9 hw9=>aO_c n (G0.hL hL hw9) Y0 (Aq (Am P1 (Tt b1 k1)) hw9) P0 (Aq g1 hw9) v2) rfl fun K2 G2 t2 ⟨F2,hu_,u2⟩=>?_
 subst hu_
 obtain ⟨Z0,D2⟩:=G0.agr t2
 refine bk h fun z2 x2 h=>RG.callq' (v:=.bool z2) (fst:=[]) (cap:=[]) (.yes rfl rfl) (bd 143) rfl (e1 rfl) (fun w9 hw9=>cL_c n (Z0.hL0 hL hw9) y2 (Z0.kd u2 hw9) x2) rfl<|Bm rfl rfl<|Af rfl<|Aa<|Al rfl<|AY hb0 func100 rfl rfl ?_
 cases h
 exact Z0.gv
 refine Au<|Au<|Au<|Au<|Bv rfl rfl<|Af rfl<|Aa<|Al rfl<|AY hb0 func100 rfl rfl ?_
 cases h
 exact G0.gv
 intro B0
 refine BB [2,6,7] (rk b0) ⟨?_,?_,?_,trivial⟩
 refine RO.call (m' :=31) (fst:=[]) (cap:=[]) (sk b0) rfl .plain (bd 142) rfl (e1 rfl) (fun w9 hw9=>ar_c n (M0.hL hL hw9) a0.fN U0) rfl fun X0 W0 F0 ⟨A0,hu_,z0⟩=>?_
 subst hu_
 obtain ⟨x0,y0⟩:=M0.agr F0
 refine BB [5,6,7] (rk b0) ⟨?_,?_,?_,trivial⟩
 refine RO.call (m' :=63) (fst:=[]) (cap:=[]) (sk b0) rfl .plain (bd 142) rfl (e1 rfl) (fun w9 hw9=>ar_c n (x0.hL hL hw9) a0.fD C0) rfl fun E0 D0 t0 ⟨s0,hu_,q0⟩=>?_
 subst hu_
 obtain ⟨p0,j0⟩:=x0.agr t0
 refine BB [6,7] (rk b0) ⟨?_,?_,trivial⟩
 refine BH (m' :=127) (sk b0) rfl .plain rfl (Ax [.bool false,vN] p0) fun I0 v0 d0 k0=>BV 7 255 b0 rfl .plain rfl (Ax [.bool false,vN] d0) fun H0 u0 c0 g0=>?_
 obtain ⟨X1,p1⟩:=AI c0 (.a0 (.a0 .done))
 have C1:=Tt j0 (Tt k0 (Tt g0 p1))
 exact B0 (A0,s0,u0,v0) X1 (Tt y0 C1) ⟨(Am z0 C1),(Am q0 (Tt k0 (Tt g0 p1)))⟩
 refine BH (m' :=191) (sk b0) rfl .plain rfl (Ax [.bool false,vN] p0) fun H0 u0 c0 g0=>BV 6 255 b0 rfl .plain rfl (Ax [.bool false,vN] c0) fun I0 v0 d0 k0=>?_
 obtain ⟨Y1,q1⟩:=AI d0 (.a1 (.a0 .done))
 have D1:=Tt j0 (Tt g0 (Tt k0 q1))
 exact B0 (A0,s0,u0,v0) Y1 (Tt y0 D1) ⟨(Am z0 D1),(Am q0 (Tt g0 (Tt k0 q1)))⟩
 refine BH (m' :=95) (sk b0) rfl .plain rfl (Ax [.bool false,vN] x0) fun I0 v0 d0 k0=>BB [5,7] (rk b0) ⟨?_,?_,trivial⟩
 refine RO.call (m' :=127) (fst:=[]) (cap:=[]) (sk b0) rfl .plain (bd 142) rfl (e1 rfl) (fun w9 hw9=>ar_c n (d0.hL hL hw9) a0.fD C0) rfl fun E0 D0 t0 ⟨s0,hu_,q0⟩=>?_
 subst hu_
 obtain ⟨p0,j0⟩:=d0.agr t0
 refine BV 7 255 b0 rfl .plain rfl (Ax [.bool false,vN] p0) fun H0 u0 c0 g0=>?_
 obtain ⟨Z1,s1⟩:=AI c0 (.a0 (.a0 .done))
 have E1:=Tt k0 (Tt j0 (Tt g0 s1))
 exact B0 (A0,s0,u0,v0) Z1 (Tt y0 E1) ⟨(Am z0 E1),(Am q0 (Tt g0 s1))⟩
 refine BH (m' :=223) (sk b0) rfl .plain rfl (Ax [.bool false,vN] d0) fun H0 u0 c0 g0=>Bl 5 255 b0 rfl .plain (bd 142) rfl (e1 rfl) (fun w9 hw9=>ar_c n (c0.hL hL hw9) a0.fD C0) rfl fun E0 D0 t0 ⟨s0,hu_,q0⟩=>?_
 subst hu_
 obtain ⟨p0,j0⟩:=c0.agr t0
 obtain ⟨b2,u1⟩:=AI p0 (.a0 (.a0 .done))
 have F1:=Tt k0 (Tt g0 (Tt j0 u1))
 exact B0 (A0,s0,u0,v0) b2 (Tt y0 F1) ⟨(Am z0 F1),(Am q0 u1)⟩
 refine BH (m' :=159) (sk b0) rfl .plain rfl (Ax [.bool false,vN] x0) fun H0 u0 c0 g0=>BB [5,6] (rk b0) ⟨?_,?_,trivial⟩
 refine RO.call (m' :=191) (fst:=[]) (cap:=[]) (sk b0) rfl .plain (bd 142) rfl (e1 rfl) (fun w9 hw9=>ar_c n (c0.hL hL hw9) a0.fD C0) rfl fun E0 D0 t0 ⟨s0,hu_,q0⟩=>?_
 subst hu_
 obtain ⟨p0,j0⟩:=c0.agr t0
 refine BV 6 255 b0 rfl .plain rfl (Ax [.bool false,vN] p0) fun I0 v0 d0 k0=>?_
 obtain ⟨c2,v1⟩:=AI d0 (.a1 (.a0 .done))
 have G1:=Tt g0 (Tt j0 (Tt k0 v1))
 exact B0 (A0,s0,u0,v0) c2 (Tt y0 G1) ⟨(Am z0 G1),(Am q0 (Tt k0 v1))⟩
 refine BH (m' :=223) (sk b0) rfl .plain rfl (Ax [.bool false,vN] c0) fun I0 v0 d0 k0=>Bl 5 255 b0 rfl .plain (bd 142) rfl (e1 rfl) (fun w9 hw9=>ar_c n (d0.hL hL hw9) a0.fD C0) rfl fun E0 D0 t0 ⟨s0,hu_,q0⟩=>?_
 subst hu_
 obtain ⟨p0,j0⟩:=d0.agr t0
 obtain ⟨d2,x1⟩:=AI p0 (.a1 (.a0 .done))
 have H1:=Tt g0 (Tt k0 (Tt j0 x1))
 exact B0 (A0,s0,u0,v0) d2 (Tt y0 H1) ⟨(Am z0 H1),(Am q0 x1)⟩
 refine BH (m' :=91) (sk b0) rfl .plain rfl (Ax [.bool false,vN] M0) fun I0 v0 d0 k0=>BB [2,7] (rk b0) ⟨?_,?_,trivial⟩
 refine RO.call (m' :=95) (fst:=[]) (cap:=[]) (sk b0) rfl .plain (bd 142) rfl (e1 rfl) (fun w9 hw9=>ar_c n (d0.hL hL hw9) a0.fN U0) rfl fun X0 W0 F0 ⟨A0,hu_,z0⟩=>?_
 subst hu_
 obtain ⟨x0,y0⟩:=d0.agr F0
 refine BB [5,7] (rk b0) ⟨?_,?_,trivial⟩
 refine RO.call (m' :=127) (fst:=[]) (cap:=[]) (sk b0) rfl .plain (bd 142) rfl (e1 rfl) (fun w9 hw9=>ar_c n (x0.hL hL hw9) a0.fD C0) rfl fun E0 D0 t0 ⟨s0,hu_,q0⟩=>?_
 subst hu_
 obtain ⟨p0,j0⟩:=x0.agr t0
 refine BV 7 255 b0 rfl .plain rfl (Ax [.bool false,vN] p0) fun H0 u0 c0 g0=>?_
 obtain ⟨g2,y1⟩:=AI c0 (.a0 (.a0 .done))
 have I1:=Tt j0 (Tt g0 y1)
 exact B0 (A0,s0,u0,v0) g2 (Tt k0 (Tt y0 I1)) ⟨(Am z0 I1),(Am q0 (Tt g0 y1))⟩
 refine BH (m' :=223) (sk b0) rfl .plain rfl (Ax [.bool false,vN] x0) fun H0 u0 c0 g0=>Bl 5 255 b0 rfl .plain (bd 142) rfl (e1 rfl) (fun w9 hw9=>ar_c n (c0.hL hL hw9) a0.fD C0) rfl fun E0 D0 t0 ⟨s0,hu_,q0⟩=>?_
 subst hu_
 obtain ⟨p0,j0⟩:=c0.agr t0
 obtain ⟨j2,z1⟩:=AI p0 (.a0 (.a0 .done))
 have J1:=Tt g0 (Tt j0 z1)
 exact B0 (A0,s0,u0,v0) j2 (Tt k0 (Tt y0 J1)) ⟨(Am z0 J1),(Am q0 z1)⟩
 refine BH (m' :=219) (sk b0) rfl .plain rfl (Ax [.bool false,vN] d0) fun H0 u0 c0 g0=>Bl 2 223 b0 rfl .plain (bd 142) rfl (e1 rfl) (fun w9 hw9=>ar_c n (c0.hL hL hw9) a0.fN U0) rfl fun X0 W0 F0 ⟨A0,hu_,z0⟩=>?_
 subst hu_
 obtain ⟨x0,y0⟩:=c0.agr F0
 refine Bl 5 255 b0 rfl .plain (bd 142) rfl (e1 rfl) (fun w9 hw9=>ar_c n (x0.hL hL hw9) a0.fD C0) rfl fun E0 D0 t0 ⟨s0,hu_,q0⟩=>?_
 subst hu_
 obtain ⟨p0,j0⟩:=x0.agr t0
 obtain ⟨k2,c1⟩:=AI p0 (.a0 (.a0 .done))
 exact B0 (A0,s0,u0,v0) k2 (Tt k0 (Tt g0 (Tt y0 (Tt j0 c1)))) ⟨(Am z0 (Tt j0 c1)),(Am q0 c1)⟩
 refine BH (m' :=155) (sk b0) rfl .plain rfl (Ax [.bool false,vN] M0) fun H0 u0 c0 g0=>BB [2,6] (rk b0) ⟨?_,?_,trivial⟩
 refine RO.call (m' :=159) (fst:=[]) (cap:=[]) (sk b0) rfl .plain (bd 142) rfl (e1 rfl) (fun w9 hw9=>ar_c n (c0.hL hL hw9) a0.fN U0) rfl fun X0 W0 F0 ⟨A0,hu_,z0⟩=>?_
 subst hu_
 obtain ⟨x0,y0⟩:=c0.agr F0
 refine BB [5,6] (rk b0) ⟨?_,?_,trivial⟩
 refine RO.call (m' :=191) (fst:=[]) (cap:=[]) (sk b0) rfl .plain (bd 142) rfl (e1 rfl) (fun w9 hw9=>ar_c n (x0.hL hL hw9) a0.fD C0) rfl fun E0 D0 t0 ⟨s0,hu_,q0⟩=>?_
 subst hu_
 obtain ⟨p0,j0⟩:=x0.agr t0
 refine BV 6 255 b0 rfl .plain rfl (Ax [.bool false,vN] p0) fun I0 v0 d0 k0=>?_
 obtain ⟨p2,A1⟩:=AI d0 (.a1 (.a0 .done))
 have K1:=Tt j0 (Tt k0 A1)
 exact B0 (A0,s0,u0,v0) p2 (Tt g0 (Tt y0 K1)) ⟨(Am z0 K1),(Am q0 (Tt k0 A1))⟩
 refine BH (m' :=223) (sk b0) rfl .plain rfl (Ax [.bool false,vN] x0) fun I0 v0 d0 k0=>Bl 5 255 b0 rfl .plain (bd 142) rfl (e1 rfl) (fun w9 hw9=>ar_c n (d0.hL hL hw9) a0.fD C0) rfl fun E0 D0 t0 ⟨s0,hu_,q0⟩=>?_
 subst hu_
 obtain ⟨p0,j0⟩:=d0.agr t0
 obtain ⟨q2,B1⟩:=AI p0 (.a1 (.a0 .done))
 have M1:=Tt k0 (Tt j0 B1)
 exact B0 (A0,s0,u0,v0) q2 (Tt g0 (Tt y0 M1)) ⟨(Am z0 M1),(Am q0 B1)⟩
 refine BH (m' :=219) (sk b0) rfl .plain rfl (Ax [.bool false,vN] c0) fun I0 v0 d0 k0=>Bl 2 223 b0 rfl .plain (bd 142) rfl (e1 rfl) (fun w9 hw9=>ar_c n (d0.hL hL hw9) a0.fN U0) rfl fun X0 W0 F0 ⟨A0,hu_,z0⟩=>?_
 subst hu_
 obtain ⟨x0,y0⟩:=d0.agr F0
 refine Bl 5 255 b0 rfl .plain (bd 142) rfl (e1 rfl) (fun w9 hw9=>ar_c n (x0.hL hL hw9) a0.fD C0) rfl fun E0 D0 t0 ⟨s0,hu_,q0⟩=>?_
 subst hu_
 obtain ⟨p0,j0⟩:=x0.agr t0
 obtain ⟨s2,d1⟩:=AI p0 (.a1 (.a0 .done))
 exact B0 (A0,s0,u0,v0) s2 (Tt g0 (Tt k0 (Tt y0 (Tt j0 d1)))) ⟨(Am z0 (Tt j0 d1)),(Am q0 d1)⟩
def ax_l1 (_n:Nat) (a1:List Int) (c0:Nat) (a0:List Int) (q0:UInt64 × Nat × (List Int) -> Option ((List Int) × UInt64)):UInt64 × Nat × (List Int) -> Option ((List Int) × UInt64)
  | (d0,b0,g0)=>(if b0 < a1.length then (g0[c0 + b0]?).bind fun j0=>(a0[c0]?).bind fun k0=>(a1[b0]?).bind fun p0=>(put g0 ((c0 + b0:Nat):Int) (aB (((d0 + (ac j0)) + ((ac k0) * (ac p0))) % (4294967296:UInt64)))).bind fun s0=>q0 (((d0 + (ac j0)) + ((ac k0) * (ac p0))) / (4294967296:UInt64),b0 + 1,s0) else some (g0,d0))
def ax_l2 (n:Nat) (a0:List Int) (a1:List Int) (g0:Nat × (List Int) -> Option (List Int)):Nat × (List Int) -> Option (List Int)
  | (b0,c0)=>(if b0 < a0.length then Option.bind (am (ax_l1 n a1 b0 a0) n (0,0,c0)) (fun (d0,j0)=>(d0[b0 + a1.length]?).bind fun _x537=>(put d0 ((b0 + a1.length:Nat):Int) (aB j0)).bind fun k0=>g0 (b0 + 1,k0)) else some c0)
def ax_p (n:Nat) (a0:List Int) (a1:List Int):Option (List Int):=
  (mk ((a0.length + a1.length:Nat):Int) (0:Int)).bind fun b0=>Option.bind (am (ax_l2 n a0 a1) n (0,b0)) (fun c0=>(az_p n c0).bind fun d0=>some d0)
theorem ax_c (n:Nat) {L w} (hL:hl L w) {a0:List Int} {v0_0:Value} (h0_0:Rep.R w L [v0_0] a0) {a1:List Int} {v1_0:Value} (h1_0:Rep.R w L [v1_0] a1)  {r:List Int} (h:ax_p n a0 a1 = some r) :
 Cl 181 #[v0_0,v1_0] w (ah w fun w' u=>∃ v0_0:Value,u = v0_0/\Rep.R w' L [v0_0] r):=by
 unfold ax_p at h
 refine AG func181 rfl rfl rfl fun _ cs0 hb0=>Ac<|Af rfl<|Aa<|Ac<|Ae rfl ?_
 have hl1:a0.length <= 281474976710656:=Ba h0_0
 refine Ab (Bg (xs:=a0) underlying40 rfl h0_0)<|Ae rfl ?_
 have hl2:a1.length <= 281474976710656:=Ba h1_0
 refine Ab (Bg (xs:=a1) underlying40 rfl h1_0)<|Ab (Bn (i:=a0.length) (j:=a1.length) rfl rfl (by omega))<|bk h fun V0 Q0 h=>Aj .plain rfl (Does.mk (α:=Int) Q0 (Az w) aw rfl) fun V2 x0 G0 J2=>Af rfl<|Aa<|Ai<|Ac<|Af rfl<|Aa<|AA ?_
 obtain ⟨Q2,W1,K1⟩:=aq h
 refine MX.lf (α:=Nat × (List Int) × (List Value)) (fun ⟨d0,k0,p0⟩=>[(0,v0_0),(1,v1_0),(5,(.slice (some ⟨x0,0,none⟩) ((a0.length + a1.length:Nat):Int).toNat ((a0.length + a1.length:Nat):Int).toNat)),(6,vI ((d0:Nat):Int))]) (fun ⟨d0,k0,p0⟩=>[rr w 3 Int (.slice (some ⟨x0,0,none⟩) ((a0.length + a1.length:Nat):Int).toNat ((a0.length + a1.length:Nat):Int).toNat) k0.length p0]) (fun ⟨d0,k0,p0⟩ R0=>Cells R0 (bl [rr w 3 Int (.slice (some ⟨x0,0,none⟩) ((a0.length + a1.length:Nat):Int).toNat ((a0.length + a1.length:Nat):Int).toNat) k0.length p0] ++ L) p0 k0) (fun ⟨d0,k0,p0⟩=>(d0,k0)) (0,V0,(List.replicate ((a0.length + a1.length:Nat):Int).toNat [vI 0]).flatten) W1 G0 (AE (cs:=(List.replicate ((a0.length + a1.length:Nat):Int).toNat [vI 0]).flatten) (xs:=V0) G0 L (BR Q0 rfl)) ?_
 rintro B2 ⟨d0,k0,p0⟩ R0 s1 z0 y1 J0 h
 unfold ax_l2 at h
 try dsimp only at h
 refine Ai<|Ac<|Ae rfl<|Ae rfl<|Ab (Bg (xs:=a0) underlying40 rfl (AS h0_0 z0))<|Ab (Bq (i:=d0) (j:=a0.length) rfl rfl)<|Aa<|AT rfl h (fun b1 h=>?_) (fun b1 h=>?_)
 refine Ar<|Ai<|AA<|Ac<|Af rfl<|Aa<|Ai<|Ac<|Af rfl<|Aa<|AA ?_
 obtain ⟨R2,X1,M1⟩:=aq h
 refine MX.lf (α:=UInt64 × Nat × (List Int) × (List Value)) (fun ⟨j0,g0,v0,y0⟩=>[(0,v0_0),(1,v1_0),(5,(.slice (some ⟨x0,0,none⟩) ((a0.length + a1.length:Nat):Int).toNat ((a0.length + a1.length:Nat):Int).toNat)),(6,vI ((d0:Nat):Int)),(7,vU j0),(8,vI ((g0:Nat):Int))]) (fun ⟨j0,g0,v0,y0⟩=>[rr w 3 Int (.slice (some ⟨x0,0,none⟩) ((a0.length + a1.length:Nat):Int).toNat ((a0.length + a1.length:Nat):Int).toNat) v0.length y0]) (fun ⟨j0,g0,v0,y0⟩ U0=>Cells U0 (bl [rr w 3 Int (.slice (some ⟨x0,0,none⟩) ((a0.length + a1.length:Nat):Int).toNat ((a0.length + a1.length:Nat):Int).toNat) v0.length y0] ++ L) y0 v0) (fun ⟨j0,g0,v0,y0⟩=>(j0,g0,v0)) (0,0,k0,p0) X1 z0 J0 ?_
 rintro C2 ⟨j0,g0,v0,y0⟩ U0 u1 q0 I0 A0 h
 unfold ax_l1 at h
 try dsimp only at h
 refine Ai<|Ac<|Ae rfl<|Ae rfl ?_
 have F0:=AS h1_0 q0
 refine Ab (Bg (xs:=a1) underlying40 rfl F0)<|Ab (Bq (i:=g0) (j:=a1.length) rfl rfl)<|Aa<|AT rfl h (fun c1 h=>?_) (fun c1 h=>?_)
 refine Ar<|Ai<|AA<|Ai<|du 22 fun b0 c0=>Rv 0 b0 rfl c0 (fun _=>Ak rfl)<|Rv 1 b0 rfl c0 (fun _=>Ak rfl)<|Rv 2 b0 rfl c0 (fun _=>Ak rfl)<|Rv 3 b0 rfl c0 (fun _=>Ak rfl)<|Rv 4 b0 rfl c0 (fun _=>Bn (i:=d0) (j:=g0) rfl rfl (by omega))<|bk h fun s0 g2 h=>?_
 obtain ⟨W0,D2,B0,E0,d1,Y1,R1⟩:=St.nth (α:=Int) q0 .hd A0 g2
 obtain ⟨Y0,E2,K0⟩:=BJ (α:=Int) q0 .hd E0
 obtain rfl:W0 = ⟨Y0,0,none⟩:=by rw [K0] at B0; cases B0; rfl
 have E1:d1 = [vI s0]:=Y1; subst E1
 refine Rv 5 b0 rfl c0 (fun _=>Bj 1 (d0 + g0) rfl B0 rfl rfl E0)<|Rx 6 3146112 b0 rfl c0 (AL rfl (R1 0 _ rfl))<|Rv 7 b0 rfl c0 (fun _=>FV.convU (i:=s0) underlying3 underlying34 rfl)<|Rv 8 b0 rfl c0 (fun _=>FV.addU (a:=j0) (b:=ac s0) rfl rfl)<|Rv 9 b0 rfl c0 (fun _=>Ak rfl)<|Rv 10 b0 rfl c0 (fun _=>Ak rfl)<|bk h fun t0 j2 h=>?_
 obtain ⟨z2,F2,F1,P1,g1,Z1,U1⟩:=Bk (AS h0_0 q0) j2
 have G1:g1 = [vI t0]:=Z1; subst G1
 refine Rv 11 b0 rfl c0 (fun _=>Bj 1 d0 rfl F1 rfl rfl P1)<|Rx 12 3678208 b0 rfl c0 (AL rfl (U1 0 _ rfl))<|Rv 13 b0 rfl c0 (fun _=>FV.convU (i:=t0) underlying3 underlying34 rfl)<|Rv 14 b0 rfl c0 (fun _=>Ak rfl)<|Rv 15 b0 rfl c0 (fun _=>Ak rfl)<|bk h fun u0 k2 h=>?_
 obtain ⟨A2,G2,H1,Q1,j1,b2,V1⟩:=Bk F0 k2
 have I1:j1 = [vI u0]:=b2; subst I1
 refine Rv 16 b0 rfl c0 (fun _=>Bj 1 g0 rfl H1 rfl rfl Q1)<|Rx 17 3932160 b0 rfl c0 (AL rfl (V1 0 _ rfl))<|Rv 18 b0 rfl c0 (fun _=>FV.convU (i:=u0) underlying3 underlying34 rfl)<|Rv 19 b0 rfl c0 (fun _=>FV.mulU (a:=ac t0) (b:=ac u0) rfl rfl)<|Rv 20 b0 rfl c0 (fun _=>FV.addU (a:=j0 + (ac s0)) (b:=(ac t0) * (ac u0)) rfl rfl)<|Rv 21 b0 rfl c0 (fun _=>Bh rfl)<|AM (dk b0)<|Ac<|Ae rfl<|Ae rfl<|Ae rfl<|Ab (Bn (i:=d0) (j:=g0) rfl rfl (by omega))<|Ae rfl<|Ab (FV.remU (a:=(j0 + (ac s0)) + ((ac t0) * (ac u0))) (b:=(4294967296:UInt64)) rfl rfl (by decide))<|Ab (FV.convUI (a:=((j0 + (ac s0)) + ((ac t0) * (ac u0))) % (4294967296:UInt64)) underlying34 underlying3 rfl)<|Ab (Bj 1 (d0 + g0) rfl B0 rfl rfl E0)<|bk h fun x2 q2 h=>RG.acts' .plain (Acts.set (α:=Int) (i:=d0 + g0) q2 q0 K0 (fun _=>.hd) A0 rfl rfl rfl rfl rfl rfl) fun W2 ⟨k1,v1,z1,C1⟩=>Aa<|Ao<|Ae rfl<|Ab (FV.quoU (a:=(j0 + (ac s0)) + ((ac t0) * (ac u0))) (b:=(4294967296:UInt64)) rfl rfl (by decide))<|Af rfl<|Aa<|AC<|Ao<|Ae rfl<|Ab (Bn (i:=g0) (j:=1) rfl rfl (by omega))<|Af rfl<|Aa<|u1 (((j0 + (ac s0)) + ((ac t0) * (ac u0))) / (4294967296:UInt64),g0 + 1,x2,k1) v1 (Tt I0 z1) C1 h
 refine Be rfl ?_
 have h:=M1 _ h
 try dsimp only at h
 refine Ao<|Ae rfl<|Ae rfl<|Ae rfl<|Ab (Bg (xs:=a1) underlying40 rfl F0)<|Ab (Bn (i:=d0) (j:=a1.length) rfl rfl (by omega))<|Ae rfl<|Ab (FV.convUI (a:=j0) underlying34 underlying3 rfl)<|bk h fun v2 p2 h=>?_
 obtain ⟨X0,H2,D0,P0,p1,c2,P2⟩:=St.nth (α:=Int) q0 .hd A0 p2
 obtain ⟨Z0,I2,M0⟩:=BJ (α:=Int) q0 .hd P0
 obtain rfl:X0 = ⟨Z0,0,none⟩:=by rw [M0] at D0; cases D0; rfl
 have J1:p1 = [vI v2]:=c2; subst J1
 refine Ab (Bj 1 (d0 + a1.length) rfl D0 rfl rfl P0)<|bk h fun y2 s2 h=>RG.acts' .plain (Acts.set (α:=Int) (i:=d0 + a1.length) s2 q0 M0 (fun _=>.hd) A0 rfl rfl rfl rfl rfl rfl) fun X2 ⟨q1,x1,A1,D1⟩=>Aa<|AC<|Ao<|Ae rfl<|Ab (Bn (i:=d0) (j:=1) rfl rfl (by omega))<|Af rfl<|Aa<|s1 (d0 + 1,y2,q1) x1 (Tt y1 (Tt I0 A1)) D1 h
 refine Be rfl ?_
 have h:=K1 _ h
 try dsimp only at h
 refine Ac<|Ae rfl ?_
 have C0:=Br z0 .hd
 have K2:=Bs z0 .hd
 refine bk h fun Z2 t2 h=>jE (bd 175) rfl (e1 rfl) (fun w9 hw9=>az_c n (C0.hL hL hw9) (Aq (Bu (α:=Int) (v:=(.slice (some ⟨x0,0,none⟩) ((a0.length + a1.length:Nat):Int).toNat ((a0.length + a1.length:Nat):Int).toNat)) (xs:=k0) C0 L (Bf (α:=Int) z0 .hd J0 hL)) hw9) t2) rfl fun Y2 u2 B1 ⟨U2,hu_,d2⟩=>?_
 subst hu_
 obtain ⟨H0,M2⟩:=C0.agr B1
 refine Af rfl<|Aa<|Al rfl<|AY hb0 func181 rfl rfl ?_
 cases h
 exact ⟨H0.ag,fun w9 hw9=>⟨u2,rfl,H0.kd d2 hw9⟩⟩
def aC_p (n:Nat) (a0:Tc) (a1:Tc):Option Tc:=
  (ax_p n a0.fD a1.fD).bind fun b0=>(aa_p n (!(a0.fe == a1.fe)) b0).bind fun c0=>some c0
theorem aC_c (n:Nat) {L w} (hL:hl L w) (a0:Tc) {v0_1:Value} (h0_1:Rep.R w L [v0_1] a0.fD) (a1:Tc) {v1_1:Value} (h1_1:Rep.R w L [v1_1] a1.fD)  {r:Tc} (h:aC_p n a0 a1 = some r) :
 Cl 149 #[.agg #[.bool a0.fe,v0_1],.agg #[.bool a1.fe,v1_1]] w (ah w fun w' u=>∃ v0_1:Value,u = .agg #[.bool r.fe,v0_1]/\Rep.R w' L [v0_1] r.fD):=by
 unfold aC_p at h
 refine AG func149 rfl rfl rfl fun _ cs0 hb0=>Ac<|RG.bx (Az w) rfl rfl fun Q0 C0 s0 F0=>RG.bx s0 rfl rfl fun R0 D0 t0 G0=>RG.nl [.bool false,vN] t0 fun U0 E0 d0 H0=>Aa<|Ai<|du 11 fun b0 c0=>Rv 0 b0 rfl c0 (fun _=>AU 0 rfl)<|Rx 1 3088 b0 rfl c0 (AL rfl ((d0.memA .t2) 0 _ rfl))<|Rv 2 b0 rfl c0 (fun _=>AU 0 rfl)<|Rx 3 3088 b0 rfl c0 (AL rfl ((d0.memA .t1) 0 _ rfl))<|Rv 4 b0 rfl c0 (fun _=>FV.neqB (a:=a0.fe) (b:=a1.fe) underlying4 rfl rfl)<|Rv 5 b0 rfl c0 (fun _=>AU 1 rfl)<|Rx 6 3584 b0 rfl c0 (AL rfl ((d0.memA .t2) 1 _ rfl))<|Rv 7 b0 rfl c0 (fun _=>AU 1 rfl)<|Rx 8 3584 b0 rfl c0 (AL rfl ((d0.memA .t1) 1 _ rfl))<|bk h fun Y0 A0 h=>Bl 9 1023 b0 rfl .plain (bd 181) rfl (e2 rfl rfl) (fun w9 hw9=>ax_c n (d0.hL hL hw9) (d0.km h0_1 hw9) (d0.km h1_1 hw9) A0) rfl fun V0 M0 x0 ⟨K0,hu_,z0⟩=>?_
 subst hu_
 obtain ⟨k0,I0⟩:=d0.agr x0
 refine bk h fun q0 B0 h=>Bl 10 2047 b0 rfl .plain (bd 173) rfl (e2 rfl rfl) (fun w9 hw9=>aa_c n (k0.hL hL hw9) (Aq z0 hw9) B0) rfl fun W0 P0 y0 ⟨j0,hu_,p0⟩=>?_
 subst hu_
 obtain ⟨u0,J0⟩:=k0.agr y0
 refine Bz 11 4095 b0 rfl rfl .plain (Ay (news:=[.bool q0.fe,j0]) u0 .hd rfl rfl rfl rfl rfl rfl (o2 rfl (AP p0))) fun X0 g0 v0=>AM (dk b0)<|Al rfl<|Ap hb0 func149 rfl (.cons (.many (cs:=[.bool q0.fe,j0]) rfl rfl (g0.memA .hd)) .nil) rfl ?_
 cases h
 exact ⟨g0.ag,fun w9 hw9=>⟨j0,rfl,g0.kd (Am p0 v0) hw9⟩⟩
def bP_p (n:Nat) (a0:Tf) (a1:Tf):Option Tf:=
  (aC_p n a0.fN a1.fD).bind fun b0=>(aC_p n a1.fN a0.fD).bind fun c0=>(bn_p n b0 c0).bind fun d0=>(aC_p n a0.fD a1.fD).bind fun g0=>(bg_p n d0 g0).bind fun j0=>some j0
theorem bP_c (n:Nat) {L w} (hL:hl L w) (a0:Tf) {v0_1:Value} (h0_1:Rep.R w L [v0_1] a0.fN.fD) {v0_3:Value} (h0_3:Rep.R w L [v0_3] a0.fD.fD) (a1:Tf) {v1_1:Value} (h1_1:Rep.R w L [v1_1] a1.fN.fD) {v1_3:Value} (h1_3:Rep.R w L [v1_3] a1.fD.fD)  {r:Tf} (h:bP_p n a0 a1 = some r) :
 Cl 104 #[.agg #[.bool a0.fN.fe,v0_1,.bool a0.fD.fe,v0_3],.agg #[.bool a1.fN.fe,v1_1,.bool a1.fD.fe,v1_3]] w (ah w fun w' u=>∃ v0_1 v0_3:Value,u = .agg #[.bool r.fN.fe,v0_1,.bool r.fD.fe,v0_3]/\Rep.R w' L [v0_1] r.fN.fD/\Rep.R w' L [v0_3] r.fD.fD):=by
 unfold bP_p at h
 refine AG func104 rfl rfl rfl fun _ cs0 hb0=>Ac<|RG.bx (Az w) rfl rfl fun F1 c1 z0 j1=>RG.bx z0 rfl rfl fun G1 d1 A0 k1=>RG.nl [.bool false,vN,.bool false,vN] A0 fun H1 g1 d0 p1=>Aa<|Ai<|du 17 fun b0 c0=>Rv 0 b0 rfl c0 (fun _=>AU 0 rfl)<|Rx 1 230928 b0 rfl c0 (AW (cs:=[.bool a0.fN.fe,v0_1]) rfl rfl (ae (d0.memA .t2) 0 2))<|Rv 2 b0 rfl c0 (fun _=>AU 2 rfl)<|Rx 3 230928 b0 rfl c0 (AW (cs:=[.bool a1.fD.fe,v1_3]) rfl rfl (ae (d0.memA .t1) 2 2))<|Rv 5 b0 rfl c0 (fun _=>AU 0 rfl)<|Rx 6 230912 b0 rfl c0 (AW (cs:=[.bool a1.fN.fe,v1_1]) rfl rfl (ae (d0.memA .t1) 0 2))<|Rv 7 b0 rfl c0 (fun _=>AU 2 rfl)<|Rx 8 230912 b0 rfl c0 (AW (cs:=[.bool a0.fD.fe,v0_3]) rfl rfl (ae (d0.memA .t2) 2 2))<|Rv 11 b0 rfl c0 (fun _=>AU 2 rfl)<|Rx 12 229376 b0 rfl c0 (AW (cs:=[.bool a0.fD.fe,v0_3]) rfl rfl (ae (d0.memA .t2) 2 2))<|Rv 13 b0 rfl c0 (fun _=>AU 2 rfl)<|Rx 14 229376 b0 rfl c0 (AW (cs:=[.bool a1.fD.fe,v1_3]) rfl rfl (ae (d0.memA .t1) 2 2))<|bk h fun X0 Q0 h=>Bl 4 31231 b0 rfl .plain (bd 149) rfl (e2 rfl rfl) (fun w9 hw9=>aC_c n (d0.hL hL hw9) a0.fN (d0.km h0_1 hw9) a1.fD (d0.km h1_3 hw9) Q0) rfl fun I1 A1 E0 ⟨v1,hu_,J0⟩=>?_
 subst hu_
 obtain ⟨g0,q1⟩:=d0.agr E0
 refine bk h fun Y0 R0 h=>Bl 9 31743 b0 rfl .plain (bd 149) rfl (e2 rfl rfl) (fun w9 hw9=>aC_c n (g0.hL hL hw9) a1.fN (g0.km h1_1 hw9) a0.fD (g0.km h0_3 hw9) R0) rfl fun J1 B1 F0 ⟨x1,hu_,K0⟩=>?_
 subst hu_
 obtain ⟨t0,C0⟩:=g0.agr F0
 refine bk h fun Z0 U0 h=>Bl 10 32767 b0 rfl .plain (bd 148) rfl (e2 rfl rfl) (fun w9 hw9=>bn_c n (t0.hL hL hw9) X0 (Aq (Am J0 C0) hw9) Y0 (Aq K0 hw9) U0) rfl fun K1 C1 G0 ⟨y1,hu_,M0⟩=>?_
 subst hu_
 obtain ⟨j0,s1⟩:=t0.agr G0
 refine bk h fun b1 V0 h=>Bl 15 65535 b0 rfl .plain (bd 149) rfl (e2 rfl rfl) (fun w9 hw9=>aC_c n (j0.hL hL hw9) a0.fD (j0.km h0_3 hw9) a1.fD (j0.km h1_3 hw9) V0) rfl fun M1 D1 H0 ⟨z1,hu_,P0⟩=>?_
 subst hu_
 obtain ⟨u0,D0⟩:=j0.agr H0
 refine bk h fun p0 W0 h=>Bl 16 131071 b0 rfl .plain (bd 147) rfl (e2 rfl rfl) (fun w9 hw9=>bg_c n (u0.hL hL hw9) Z0 (Aq (Am M0 D0) hw9) b1 (Aq P0 hw9) W0) rfl fun P1 E1 I0 ⟨q0,s0,hu_,x0,y0⟩=>?_
 subst hu_
 obtain ⟨B0,u1⟩:=u0.agr I0
 refine Bz 17 262143 b0 rfl rfl .plain (Ay (news:=[.bool p0.fN.fe,q0,.bool p0.fD.fe,s0]) B0 .hd rfl rfl rfl rfl rfl rfl (o4 rfl (AP x0) rfl (AP y0))) fun Q1 k0 v0=>AM (dk b0)<|Al rfl<|Ap hb0 func104 rfl (.cons (.many (cs:=[.bool p0.fN.fe,q0,.bool p0.fD.fe,s0]) rfl rfl (k0.memA .hd)) .nil) rfl ?_
 cases h
 exact ⟨k0.ag,fun w9 hw9=>⟨q0,s0,rfl,k0.kd (Am x0 v0) hw9,k0.kd (Am y0 v0) hw9⟩⟩
def de_p (n:Nat) (a0:Tf):Option Tf:=
  (bG_p n a0.fN).bind fun b0=>some (⟨b0,a0.fD⟩:Tf)
theorem de_c (n:Nat) {L w} (hL:hl L w) (a0:Tf) {v0_1:Value} (h0_1:Rep.R w L [v0_1] a0.fN.fD) {v0_3:Value} (h0_3:Rep.R w L [v0_3] a0.fD.fD)  {r:Tf} (h:de_p n a0 = some r) :
 Cl 146 #[.agg #[.bool a0.fN.fe,v0_1,.bool a0.fD.fe,v0_3]] w (ah w fun w' u=>∃ v0_1 v0_3:Value,u = .agg #[.bool r.fN.fe,v0_1,.bool r.fD.fe,v0_3]/\Rep.R w' L [v0_1] r.fN.fD/\Rep.R w' L [v0_3] r.fD.fD):=by
 unfold de_p at h
 refine AG func146 rfl rfl rfl fun _ cs0 hb0=>Ac<|RG.bx (Az w) rfl rfl fun M0 D0 u0 H0=>RG.nl [.bool false,vN,.bool false,vN] u0 fun P0 E0 c0 I0=>Aa<|Ai<|du 6 fun b0 d0=>Rv 0 b0 rfl d0 (fun _=>AU 0 rfl)<|Rx 1 100 b0 rfl d0 (AW (cs:=[.bool a0.fN.fe,v0_1]) rfl rfl (ae (c0.memA .t1) 0 2))<|Rv 3 b0 rfl d0 (fun _=>AU 2 rfl)<|Rx 4 96 b0 rfl d0 (AW (cs:=[.bool a0.fD.fe,v0_3]) rfl rfl (ae (c0.memA .t1) 2 2))<|bk h fun p0 A0 h=>Bl 2 31 b0 rfl .plain (bd 178) rfl (e1 rfl) (fun w9 hw9=>bG_c n (c0.hL hL hw9) a0.fN (c0.km h0_1 hw9) A0) rfl fun Q0 K0 x0 ⟨g0,hu_,q0⟩=>?_
 subst hu_
 obtain ⟨s0,J0⟩:=c0.agr x0
 obtain ⟨B0,F0,y0,_⟩:=BQ q0
 have t0:=AS h0_3 s0
 obtain ⟨C0,G0,z0,_⟩:=BQ t0
 refine Rv 5 b0 rfl d0 (fun _=>AO (vs:=[.agg #[.bool p0.fe,g0],.agg #[.bool a0.fD.fe,v0_3]]) (u:=.agg #[.bool p0.fe,g0,.bool a0.fD.fe,v0_3]) (e2 rfl rfl) (fun w9=>by rw [y0,z0]; try kernel_rfl))<|Bz 6 127 b0 rfl rfl .plain (Ay (news:=[.bool p0.fe,g0,.bool a0.fD.fe,v0_3]) s0 .hd rfl rfl rfl rfl rfl rfl (o4 rfl (AP q0) rfl (AP t0))) fun R0 j0 v0=>AM (dk b0)<|Al rfl<|Ap hb0 func146 rfl (.cons (.many (cs:=[.bool p0.fe,g0,.bool a0.fD.fe,v0_3]) rfl rfl (j0.memA .hd)) .nil) rfl ?_
 cases h
 exact ⟨j0.ag,fun w9 hw9=>⟨g0,v0_3,rfl,j0.kd (Am q0 v0) hw9,j0.k0 h0_3 hw9⟩⟩
def cU_p (n:Nat) (a0:Tf) (a1:Tf):Option Tf:=
  (de_p n a1).bind fun b0=>(bP_p n a0 b0).bind fun c0=>some c0
theorem cU_c (n:Nat) {L w} (hL:hl L w) (a0:Tf) {v0_1:Value} (h0_1:Rep.R w L [v0_1] a0.fN.fD) {v0_3:Value} (h0_3:Rep.R w L [v0_3] a0.fD.fD) (a1:Tf) {v1_1:Value} (h1_1:Rep.R w L [v1_1] a1.fN.fD) {v1_3:Value} (h1_3:Rep.R w L [v1_3] a1.fD.fD)  {r:Tf} (h:cU_p n a0 a1 = some r) :
 Cl 102 #[.agg #[.bool a0.fN.fe,v0_1,.bool a0.fD.fe,v0_3],.agg #[.bool a1.fN.fe,v1_1,.bool a1.fD.fe,v1_3]] w (ah w fun w' u=>∃ v0_1 v0_3:Value,u = .agg #[.bool r.fN.fe,v0_1,.bool r.fD.fe,v0_3]/\Rep.R w' L [v0_1] r.fN.fD/\Rep.R w' L [v0_3] r.fD.fD):=by
 unfold cU_p at h
 refine AG func102 rfl rfl rfl fun _ cs0 hb0=>Ac<|RG.bx (Az w) rfl rfl fun X0 G0 v0 J0=>RG.bx v0 rfl rfl fun Y0 H0 x0 K0=>RG.nl [.bool false,vN,.bool false,vN] x0 fun Z0 I0 b0 M0=>Aa<|Ai<|du 4 fun c0 u0=>Rx 0 24 c0 rfl u0 (AF rfl (b0.memA .t2))<|Rx 1 28 c0 rfl u0 (AF rfl (b0.memA .t1))<|bk h fun F0 D0 h=>Bl 2 7 c0 rfl .plain (bd 146) rfl (e1 rfl) (fun w9 hw9=>de_c n (b0.hL hL hw9) a1 (b0.km h1_1 hw9) (b0.km h1_3 hw9) D0) rfl fun b1 V0 z0 ⟨R0,U0,hu_,B0,C0⟩=>?_
 subst hu_
 obtain ⟨d0,P0⟩:=b0.agr z0
 refine bk h fun j0 E0 h=>Bl 3 15 c0 rfl .plain (bd 104) rfl (e2 rfl rfl) (fun w9 hw9=>bP_c n (d0.hL hL hw9) a0 (d0.km h0_1 hw9) (d0.km h0_3 hw9) F0 (Aq B0 hw9) (Aq C0 hw9) E0) rfl fun c1 W0 A0 ⟨k0,p0,hu_,s0,t0⟩=>?_
 subst hu_
 obtain ⟨y0,Q0⟩:=d0.agr A0
 refine Bz 4 31 c0 rfl rfl .plain (Ay (news:=[.bool j0.fN.fe,k0,.bool j0.fD.fe,p0]) y0 .hd rfl rfl rfl rfl rfl rfl (o4 rfl (AP s0) rfl (AP t0))) fun d1 g0 q0=>AM (dk c0)<|Al rfl<|Ap hb0 func102 rfl (.cons (.many (cs:=[.bool j0.fN.fe,k0,.bool j0.fD.fe,p0]) rfl rfl (g0.memA .hd)) .nil) rfl ?_
 cases h
 exact ⟨g0.ag,fun w9 hw9=>⟨k0,p0,rfl,g0.kd (Am s0 q0) hw9,g0.kd (Am t0 q0) hw9⟩⟩
def aD_p (n:Nat) (a0:Ta):Option Tf:=
  (ar_p n a0.fN).bind fun b0=>(ar_p n a0.fD).bind fun c0=>some (⟨b0,c0⟩:Tf)
theorem aD_c (n:Nat) {L w} (hL:hl L w) (a0:Ta)  {r:Tf} (h:aD_p n a0 = some r) :
 Cl 103 #[.agg ((ab a0)).toArray] w (ah w fun w' u=>∃ v0_1 v0_3:Value,u = .agg #[.bool r.fN.fe,v0_1,.bool r.fD.fe,v0_3]/\Rep.R w' L [v0_1] r.fN.fD/\Rep.R w' L [v0_3] r.fD.fD):=by
 unfold aD_p at h
 refine AG func103 rfl rfl rfl fun _ cs0 hb0=>Ac<|RG.bx (Az w) rfl rfl fun X0 J0 z0 Q0=>RG.nl [.bool false,vN,.bool false,vN] z0 fun Y0 K0 j0 R0=>Aa<|Ai<|du 7 fun b0 c0=>Rv 0 b0 rfl c0 (fun _=>AU 0 rfl)<|Rx 1 228 b0 rfl c0 (AW (cs:=(ak a0.fN)) rfl rfl (ae (j0.memA .t1) 0 8))<|Rv 3 b0 rfl c0 (fun _=>AU 8 rfl)<|Rx 4 224 b0 rfl c0 (AW (cs:=(ak a0.fD)) rfl rfl (ae (j0.memA .t1) 8 8))<|bk h fun p0 F0 h=>Bl 2 31 b0 rfl .plain (bd 142) rfl (e1 rfl) (fun w9 hw9=>ar_c n (j0.hL hL hw9) a0.fN F0) rfl fun Z0 V0 B0 ⟨d0,hu_,y0⟩=>?_
 subst hu_
 obtain ⟨t0,U0⟩:=j0.agr B0
 refine bk h fun q0 G0 h=>Bl 5 63 b0 rfl .plain (bd 142) rfl (e1 rfl) (fun w9 hw9=>ar_c n (t0.hL hL hw9) a0.fD G0) rfl fun b1 W0 C0 ⟨g0,hu_,s0⟩=>?_
 subst hu_
 obtain ⟨A0,u0⟩:=t0.agr C0
 have x0:=Am y0 u0
 obtain ⟨H0,M0,D0,_⟩:=BQ x0
 obtain ⟨I0,P0,E0,_⟩:=BQ s0
 refine Rv 6 b0 rfl c0 (fun _=>AO (vs:=[.agg #[.bool p0.fe,d0],.agg #[.bool q0.fe,g0]]) (u:=.agg #[.bool p0.fe,d0,.bool q0.fe,g0]) (e2 rfl rfl) (fun w9=>by rw [D0,E0]; try kernel_rfl))<|Bz 7 255 b0 rfl rfl .plain (Ay (news:=[.bool p0.fe,d0,.bool q0.fe,g0]) A0 .hd rfl rfl rfl rfl rfl rfl (o4 rfl (AP x0) rfl (AP s0))) fun c1 k0 v0=>AM (dk b0)<|Al rfl<|Ap hb0 func103 rfl (.cons (.many (cs:=[.bool p0.fe,d0,.bool q0.fe,g0]) rfl rfl (k0.memA .hd)) .nil) rfl ?_
 cases h
 exact ⟨k0.ag,fun w9 hw9=>⟨d0,g0,rfl,k0.kd (Am y0 (Tt u0 v0)) hw9,k0.kd (Am s0 v0) hw9⟩⟩

def cM_p (n:Nat) (a0:Ta) (a1:Ta):Option (Ta × Int):=
  (ah_p n a0).bind fun c0=>(if c0 = true then (ah_p n a1).bind fun d0=>(if d0 = true then (aD_p n a0).bind fun g0=>(aD_p n a1).bind fun j0=>(cU_p n g0 j0).bind fun k0=>(bb_p n k0).bind fun b0=>some (b0.1,b0.2) else some ((⟨(0,0,0,0,0,0,0,0),(0,0,0,0,0,0,0,0)⟩:Ta),(20:Int))) else some ((⟨(0,0,0,0,0,0,0,0),(0,0,0,0,0,0,0,0)⟩:Ta),(20:Int)))
theorem cM_c (n:Nat) {L w} (hL:hl L w) (a0:Ta) (a1:Ta)  {r:Ta × Int} (h:cM_p n a0 a1 = some r) :
 Cl 54 #[.agg ((ab a0)).toArray,.agg ((ab a1)).toArray] w (ah w fun _ u=>u = .tuple #[.agg ((ab r.1)).toArray,vI r.2]):=by
 unfold cM_p at h
 refine AG func54 rfl rfl rfl fun _ cs0 hb0=>Ac<|RG.bx (Az w) rfl rfl fun F1 Z0 y0 d1=>RG.bx y0 rfl rfl fun G1 b1 z0 g1=>RG.nl zL z0 fun H1 c1 c0 j1=>Af rfl<|Aa<|Ai<|Ac<|Ab (AF rfl (c0.memA .t2))<|bk h fun U0 J0 h=>Bi (.bool U0) (bd 100) rfl (e1 rfl) (fun p q=>ah_c n (c0.hL0 hL q) a0 J0) rfl<|Ab (Bp rfl)<|Ae rfl<|RG.ifnb (s:=9) rfl h (fun v0 h=>?_) (fun v0 h=>?_)
 refine AH (AF rfl (c0.memA .t1))<|bk h fun V0 K0 h=>RG.callq' (v:=.bool V0) (fst:=[]) (cap:=[]) (.yes rfl rfl) (bd 100) rfl (e1 rfl) (fun p q=>ah_c n (c0.hL0 hL q) a1 K0) rfl<|AH (Bp rfl)<|Bv rfl rfl<|Aa<|BW rfl h (fun x0 h=>?_) (fun x0 h=>?_)
 refine Ar<|Ai<|du 8 fun b0 d0=>Rx 0 1018 b0 rfl d0 (AF rfl (c0.memA .t2))<|Rx 2 1016 b0 rfl d0 (AF rfl (c0.memA .t1))<|bk h fun W0 M0 h=>Bl 1 7 b0 rfl .plain (bd 103) rfl (e1 rfl) (fun p q=>aD_c n (c0.hL hL q) a0 M0) rfl fun w32 C1 A0 ⟨v1,x1,hu_,D0,E0⟩=>?_
 subst hu_
 obtain ⟨k0,k1⟩:=c0.agr A0
 refine bk h fun X0 P0 h=>Bl 3 15 b0 rfl .plain (bd 103) rfl (e1 rfl) (fun p q=>aD_c n (k0.hL hL q) a1 P0) rfl fun I1 D1 B0 ⟨y1,z1,hu_,F0,G0⟩=>?_
 subst hu_
 obtain ⟨p0,u0⟩:=k0.agr B0
 refine bk h fun Y0 Q0 h=>Bl 4 31 b0 rfl .plain (bd 102) rfl (e2 rfl rfl) (fun p q=>cU_c n (p0.hL hL q) W0 (Aq (Am D0 u0) q) (Aq (Am E0 u0) q) X0 (Aq F0 q) (Aq G0 q) Q0) rfl fun J1 E1 C0 ⟨A1,B1,hu_,H0,I0⟩=>?_
 subst hu_
 obtain ⟨g0,p1⟩:=p0.agr C0
 refine bk h fun j0 R0 h=>BG 5 63 960 (.tuple #[.agg ((ab j0.1)).toArray,vI j0.2]) b0 rfl d0 (bd 101) rfl (e1 rfl) (fun p q=>bb_c n (g0.hL0 hL q) Y0 (g0.kd H0 q) (g0.kd I0 q) R0) rfl<|Rv 6 b0 rfl d0 (fun _=>Ah rfl rfl)<|Rv 7 b0 rfl d0 (fun _=>Ah rfl rfl)<|Bz 8 511 b0 rfl rfl .plain (Ay (news:=(ab j0.1)) g0 .hd rfl rfl rfl rfl rfl rfl (ai rfl)) fun K1 q0 q1=>Rv 9 b0 rfl d0 (fun _=>Bh rfl)<|AM (dk b0)<|Al rfl<|Ap hb0 func54 rfl (.cons (.many (cs:=(ab j0.1)) rfl rfl (q0.memA .hd)) (.cons (.tmp rfl) .nil)) rfl ?_
 cases h
 exact q0.gv
 refine Ac<|Ab (AO (vs:=[]) (u:=.agg zM) aj (fun p=>by kernel_rfl))<|AQ zL c0 .hd (ai rfl) fun M1 s0 s1=>Af rfl<|Aa<|Al rfl<|Ap hb0 func54 rfl (.cons (.many (cs:=zL) rfl rfl (s0.memA .hd)) (.cons (.tmp rfl) .nil)) rfl ?_
 cases h
 exact s0.gv
 refine Au<|Au<|Au<|Bm rfl rfl<|Aa<|Bb rfl<|Ac<|Ab (AO (vs:=[]) (u:=.agg zM) aj (fun p=>by kernel_rfl))<|AQ zL c0 .hd (ai rfl) fun P1 t0 u1=>Af rfl<|Aa<|Al rfl<|Ap hb0 func54 rfl (.cons (.many (cs:=zL) rfl rfl (t0.memA .hd)) (.cons (.tmp rfl) .nil)) rfl ?_
 cases h
 exact t0.gv
def cN_p (n:Nat) (a0:Ta):Option (Ta × Int):=
  (ah_p n a0).bind fun d0=>(if d0 = true then (aD_p n a0).bind fun b0=>(bb_p n (⟨(⟨false,b0.fN.fD⟩:Tc),b0.fD⟩:Tf)).bind fun c0=>some (c0.1,c0.2) else some ((⟨(0,0,0,0,0,0,0,0),(0,0,0,0,0,0,0,0)⟩:Ta),(20:Int)))
theorem cN_c (n:Nat) {L w} (hL:hl L w) (a0:Ta)  {r:Ta × Int} (h:cN_p n a0 = some r) :
 Cl 55 #[.agg ((ab a0)).toArray] w (ah w fun _ u=>u = .tuple #[.agg ((ab r.1)).toArray,vI r.2]):=by
 unfold cN_p at h
 refine AG func55 rfl rfl rfl fun _ cs0 hb0=>Ac<|RG.bx (Az w) rfl rfl fun c1 P0 B0 V0=>RG.nl zL B0 fun d1 Q0 c0 W0=>Af rfl<|Aa<|Ai<|Ac<|Ab (AF rfl (c0.memA .t1))<|bk h fun K0 H0 h=>Bi (.bool K0) (bd 100) rfl (e1 rfl) (fun p q=>ah_c n (c0.hL0 hL q) a0 H0) rfl<|Ab (Bp rfl)<|Aa<|BW rfl h (fun A0 h=>?_) (fun A0 h=>?_)
 refine Ar<|Ac<|Ab (AF rfl (c0.memA .t1))<|bk h fun b0 I0 h=>jE (bd 103) rfl (e1 rfl) (fun p q=>aD_c n (c0.hL hL q) a0 I0) rfl fun g1 b1 F0 ⟨d0,q0,hu_,p0,z0⟩=>?_
 subst hu_
 obtain ⟨C0,X0⟩:=c0.agr F0
 refine RG.nl [.bool false,vN,.bool false,vN] C0 fun j1 R0 D0 j0=>AQ [.bool b0.fN.fe,d0,.bool b0.fD.fe,q0] D0 .hd (o4 rfl (AP (Am p0 j0)) rfl (AP (Am z0 j0))) fun k1 s0 v0=>Aa<|Ac<|AX 0 rfl<|AX 1 rfl<|AR rfl ((aX (s0.memA .hd) 0) 1 _ rfl) ?_
 have x0:=Am p0 (Tt j0 v0)
 obtain ⟨M0,U0,G0,_⟩:=BQ x0
 refine Ab (AO (vs:=[d0]) (u:=.agg #[.bool false,d0]) (e1 rfl) (fun p=>by rw [G0]; try kernel_rfl))<|AX 0 rfl<|BU .plain (BD (j:=0) (old:=[.bool b0.fN.fe,d0,.bool b0.fD.fe,q0]) (news:=[.bool false,d0]) (new' :=[.bool false,d0,.bool b0.fD.fe,q0]) s0 .hd rfl rfl rfl rfl rfl rfl (o2 rfl (AP x0)) rfl) fun p1 g0 E0=>Aa<|Ac<|Ab (AF rfl (g0.memA .hd))<|bk h fun k0 J0 h=>?_
 have y0:=Tt j0 (Tt v0 E0)
 refine Bi (.tuple #[.agg ((ab k0.1)).toArray,vI k0.2]) (bd 101) rfl (e1 rfl) (fun p q=>bb_c n (g0.hL0 hL q) (⟨(⟨false,b0.fN.fD⟩:Tc),b0.fD⟩:Tf) (g0.kd (Am p0 y0) q) (g0.kd (Am z0 y0) q) J0) rfl<|Ab (Ah rfl rfl)<|Ab (Ah rfl rfl)<|AQ (ab k0.1) g0 .t1 (ai rfl) fun q1 t0 Y0=>Af rfl<|Aa<|Al rfl<|Ap hb0 func55 rfl (.cons (.many (cs:=(ab k0.1)) rfl rfl (t0.memA .t1)) (.cons (.tmp rfl) .nil)) rfl ?_
 cases h
 exact t0.gv
 refine Ac<|Ab (AO (vs:=[]) (u:=.agg zM) aj (fun p=>by kernel_rfl))<|AQ zL c0 .hd (ai rfl) fun s1 u0 Z0=>Af rfl<|Aa<|Al rfl<|Ap hb0 func55 rfl (.cons (.many (cs:=zL) rfl rfl (u0.memA .hd)) (.cons (.tmp rfl) .nil)) rfl ?_
 cases h
 exact u0.gv
def cO_p (n:Nat) (a0:Ta) (a1:Ta):Option (Ta × Int):=
  (ah_p n a0).bind fun c0=>(if c0 = true then (ah_p n a1).bind fun d0=>(if d0 = true then (aD_p n a0).bind fun g0=>(aD_p n a1).bind fun j0=>(bP_p n g0 j0).bind fun k0=>(bb_p n k0).bind fun b0=>some (b0.1,b0.2) else some ((⟨(0,0,0,0,0,0,0,0),(0,0,0,0,0,0,0,0)⟩:Ta),(20:Int))) else some ((⟨(0,0,0,0,0,0,0,0),(0,0,0,0,0,0,0,0)⟩:Ta),(20:Int)))
theorem cO_c (n:Nat) {L w} (hL:hl L w) (a0:Ta) (a1:Ta)  {r:Ta × Int} (h:cO_p n a0 a1 = some r) :
 Cl 56 #[.agg ((ab a0)).toArray,.agg ((ab a1)).toArray] w (ah w fun _ u=>u = .tuple #[.agg ((ab r.1)).toArray,vI r.2]):=by
 unfold cO_p at h
 refine AG func56 rfl rfl rfl fun _ cs0 hb0=>Ac<|RG.bx (Az w) rfl rfl fun F1 Z0 y0 d1=>RG.bx y0 rfl rfl fun G1 b1 z0 g1=>RG.nl zL z0 fun H1 c1 c0 j1=>Af rfl<|Aa<|Ai<|Ac<|Ab (AF rfl (c0.memA .t2))<|bk h fun U0 J0 h=>Bi (.bool U0) (bd 100) rfl (e1 rfl) (fun p q=>ah_c n (c0.hL0 hL q) a0 J0) rfl<|Ab (Bp rfl)<|Ae rfl<|RG.ifnb (s:=9) rfl h (fun v0 h=>?_) (fun v0 h=>?_)
 refine AH (AF rfl (c0.memA .t1))<|bk h fun V0 K0 h=>RG.callq' (v:=.bool V0) (fst:=[]) (cap:=[]) (.yes rfl rfl) (bd 100) rfl (e1 rfl) (fun p q=>ah_c n (c0.hL0 hL q) a1 K0) rfl<|AH (Bp rfl)<|Bv rfl rfl<|Aa<|BW rfl h (fun x0 h=>?_) (fun x0 h=>?_)
 refine Ar<|Ai<|du 8 fun b0 d0=>Rx 0 1018 b0 rfl d0 (AF rfl (c0.memA .t2))<|Rx 2 1016 b0 rfl d0 (AF rfl (c0.memA .t1))<|bk h fun W0 M0 h=>Bl 1 7 b0 rfl .plain (bd 103) rfl (e1 rfl) (fun p q=>aD_c n (c0.hL hL q) a0 M0) rfl fun w32 C1 A0 ⟨v1,x1,hu_,D0,E0⟩=>?_
 subst hu_
 obtain ⟨k0,k1⟩:=c0.agr A0
 refine bk h fun X0 P0 h=>Bl 3 15 b0 rfl .plain (bd 103) rfl (e1 rfl) (fun p q=>aD_c n (k0.hL hL q) a1 P0) rfl fun I1 D1 B0 ⟨y1,z1,hu_,F0,G0⟩=>?_
 subst hu_
 obtain ⟨p0,u0⟩:=k0.agr B0
 refine bk h fun Y0 Q0 h=>Bl 4 31 b0 rfl .plain (bd 104) rfl (e2 rfl rfl) (fun p q=>bP_c n (p0.hL hL q) W0 (Aq (Am D0 u0) q) (Aq (Am E0 u0) q) X0 (Aq F0 q) (Aq G0 q) Q0) rfl fun J1 E1 C0 ⟨A1,B1,hu_,H0,I0⟩=>?_
 subst hu_
 obtain ⟨g0,p1⟩:=p0.agr C0
 refine bk h fun j0 R0 h=>BG 5 63 960 (.tuple #[.agg ((ab j0.1)).toArray,vI j0.2]) b0 rfl d0 (bd 101) rfl (e1 rfl) (fun p q=>bb_c n (g0.hL0 hL q) Y0 (g0.kd H0 q) (g0.kd I0 q) R0) rfl<|Rv 6 b0 rfl d0 (fun _=>Ah rfl rfl)<|Rv 7 b0 rfl d0 (fun _=>Ah rfl rfl)<|Bz 8 511 b0 rfl rfl .plain (Ay (news:=(ab j0.1)) g0 .hd rfl rfl rfl rfl rfl rfl (ai rfl)) fun K1 q0 q1=>Rv 9 b0 rfl d0 (fun _=>Bh rfl)<|AM (dk b0)<|Al rfl<|Ap hb0 func56 rfl (.cons (.many (cs:=(ab j0.1)) rfl rfl (q0.memA .hd)) (.cons (.tmp rfl) .nil)) rfl ?_
 cases h
 exact q0.gv
 refine Ac<|Ab (AO (vs:=[]) (u:=.agg zM) aj (fun p=>by kernel_rfl))<|AQ zL c0 .hd (ai rfl) fun M1 s0 s1=>Af rfl<|Aa<|Al rfl<|Ap hb0 func56 rfl (.cons (.many (cs:=zL) rfl rfl (s0.memA .hd)) (.cons (.tmp rfl) .nil)) rfl ?_
 cases h
 exact s0.gv
 refine Au<|Au<|Au<|Bm rfl rfl<|Aa<|Bb rfl<|Ac<|Ab (AO (vs:=[]) (u:=.agg zM) aj (fun p=>by kernel_rfl))<|AQ zL c0 .hd (ai rfl) fun P1 t0 u1=>Af rfl<|Aa<|Al rfl<|Ap hb0 func56 rfl (.cons (.many (cs:=zL) rfl rfl (t0.memA .hd)) (.cons (.tmp rfl) .nil)) rfl ?_
 cases h
 exact t0.gv
def df_p (_n:Nat) (a0:Tf):Option Bool:=
  some (decide (a0.fN.fD.length = 0))
theorem df_c (n:Nat) {L w} (_hL:hl L w) (a0:Tf) {v0_1:Value} (h0_1:Rep.R w L [v0_1] a0.fN.fD) {v0_3:Value} (_h0_3:Rep.R w L [v0_3] a0.fD.fD)  {r:Bool} (h:df_p n a0 = some r) :
 Cl 105 #[.agg #[.bool a0.fN.fe,v0_1,.bool a0.fD.fe,v0_3]] w (ah w fun _ u=>u = .bool r):=by
 unfold df_p at h
 refine AG func105 rfl rfl rfl fun _ cs0 hb0=>Ac<|RG.bx (Az w) rfl rfl fun k0 d0 b0 g0=>Af rfl<|Aa<|Ac<|AX 0 rfl<|AX 1 rfl<|AR rfl ((aX (b0.memA .hd) 0) 1 _ rfl) ?_
 have c0:=AS h0_1 b0
 have j0:a0.fN.fD.length <= 281474976710656:=Ba c0
 refine Ab (Bg (xs:=a0.fN.fD) underlying40 rfl c0)<|Ab (BM (i:=a0.fN.fD.length) (j:=0) rfl rfl)<|Af rfl<|Aa<|Al rfl<|AY hb0 func105 rfl rfl ?_
 cases h
 exact b0.gv
def cF_p (n:Nat) (a0:Tf) (a1:Tf):Option Tf:=
  (aC_p n a0.fN a1.fD).bind fun b0=>(aC_p n a0.fD a1.fN).bind fun c0=>(bg_p n b0 c0).bind fun d0=>some d0
theorem cF_c (n:Nat) {L w} (hL:hl L w) (a0:Tf) {v0_1:Value} (h0_1:Rep.R w L [v0_1] a0.fN.fD) {v0_3:Value} (h0_3:Rep.R w L [v0_3] a0.fD.fD) (a1:Tf) {v1_1:Value} (h1_1:Rep.R w L [v1_1] a1.fN.fD) {v1_3:Value} (h1_3:Rep.R w L [v1_3] a1.fD.fD)  {r:Tf} (h:cF_p n a0 a1 = some r) :
 Cl 106 #[.agg #[.bool a0.fN.fe,v0_1,.bool a0.fD.fe,v0_3],.agg #[.bool a1.fN.fe,v1_1,.bool a1.fD.fe,v1_3]] w (ah w fun w' u=>∃ v0_1 v0_3:Value,u = .agg #[.bool r.fN.fe,v0_1,.bool r.fD.fe,v0_3]/\Rep.R w' L [v0_1] r.fN.fD/\Rep.R w' L [v0_3] r.fD.fD):=by
 unfold cF_p at h
 refine AG func106 rfl rfl rfl fun _ cs0 hb0=>Ac<|RG.bx (Az w) rfl rfl fun g1 M0 x0 R0=>RG.bx x0 rfl rfl fun j1 P0 y0 U0=>RG.nl [.bool false,vN,.bool false,vN] y0 fun k1 Q0 c0 V0=>Aa<|Ai<|du 11 fun b0 d0=>Rv 0 b0 rfl d0 (fun _=>AU 0 rfl)<|Rx 1 3600 b0 rfl d0 (AW (cs:=[.bool a0.fN.fe,v0_1]) rfl rfl (ae (c0.memA .t2) 0 2))<|Rv 2 b0 rfl d0 (fun _=>AU 2 rfl)<|Rx 3 3600 b0 rfl d0 (AW (cs:=[.bool a1.fD.fe,v1_3]) rfl rfl (ae (c0.memA .t1) 2 2))<|Rv 5 b0 rfl d0 (fun _=>AU 2 rfl)<|Rx 6 3584 b0 rfl d0 (AW (cs:=[.bool a0.fD.fe,v0_3]) rfl rfl (ae (c0.memA .t2) 2 2))<|Rv 7 b0 rfl d0 (fun _=>AU 0 rfl)<|Rx 8 3584 b0 rfl d0 (AW (cs:=[.bool a1.fN.fe,v1_1]) rfl rfl (ae (c0.memA .t1) 0 2))<|bk h fun J0 G0 h=>Bl 4 511 b0 rfl .plain (bd 149) rfl (e2 rfl rfl) (fun p q=>aC_c n (c0.hL hL q) a0.fN (c0.km h0_1 q) a1.fD (c0.km h1_3 q) G0) rfl fun p1 b1 B0 ⟨Y0,hu_,E0⟩=>?_
 subst hu_
 obtain ⟨g0,W0⟩:=c0.agr B0
 refine bk h fun K0 H0 h=>Bl 9 1023 b0 rfl .plain (bd 149) rfl (e2 rfl rfl) (fun p q=>aC_c n (g0.hL hL q) a0.fD (g0.km h0_3 q) a1.fN (g0.km h1_1 q) H0) rfl fun q1 c1 C0 ⟨Z0,hu_,F0⟩=>?_
 subst hu_
 obtain ⟨s0,A0⟩:=g0.agr C0
 refine bk h fun k0 I0 h=>Bl 10 2047 b0 rfl .plain (bd 147) rfl (e2 rfl rfl) (fun p q=>bg_c n (s0.hL hL q) J0 (Aq (Am E0 A0) q) K0 (Aq F0 q) I0) rfl fun s1 d1 D0 ⟨p0,q0,hu_,u0,v0⟩=>?_
 subst hu_
 obtain ⟨z0,X0⟩:=s0.agr D0
 refine Bz 11 4095 b0 rfl rfl .plain (Ay (news:=[.bool k0.fN.fe,p0,.bool k0.fD.fe,q0]) z0 .hd rfl rfl rfl rfl rfl rfl (o4 rfl (AP u0) rfl (AP v0))) fun u1 j0 t0=>AM (dk b0)<|Al rfl<|Ap hb0 func106 rfl (.cons (.many (cs:=[.bool k0.fN.fe,p0,.bool k0.fD.fe,q0]) rfl rfl (j0.memA .hd)) .nil) rfl ?_
 cases h
 exact ⟨j0.ag,fun p q=>⟨p0,q0,rfl,j0.kd (Am u0 t0) q,j0.kd (Am v0 t0) q⟩⟩
def cP_p (n:Nat) (a0:Ta) (a1:Ta):Option (Ta × Int):=
  (ah_p n a0).bind fun d0=>(if d0 = true then (ah_p n a1).bind fun g0=>(if g0 = true then (aD_p n a1).bind fun b0=>(df_p n b0).bind fun j0=>(if j0 = true then some ((⟨(0,0,0,0,0,0,0,0),(0,0,0,0,0,0,0,0)⟩:Ta),(7:Int)) else (aD_p n a0).bind fun k0=>(cF_p n k0 b0).bind fun p0=>(bb_p n p0).bind fun c0=>some (c0.1,c0.2)) else some ((⟨(0,0,0,0,0,0,0,0),(0,0,0,0,0,0,0,0)⟩:Ta),(20:Int))) else some ((⟨(0,0,0,0,0,0,0,0),(0,0,0,0,0,0,0,0)⟩:Ta),(20:Int)))
theorem cP_c (n:Nat) {L w} (hL:hl L w) (a0:Ta) (a1:Ta)  {r:Ta × Int} (h:cP_p n a0 a1 = some r) :
 Cl 57 #[.agg ((ab a0)).toArray,.agg ((ab a1)).toArray] w (ah w fun _ u=>u = .tuple #[.agg ((ab r.1)).toArray,vI r.2]):=by
 unfold cP_p at h
 refine AG func57 rfl rfl rfl fun _ cs0 hb0=>Ac<|RG.bx (Az w) rfl rfl fun V1 v1 F0 A1=>RG.bx F0 rfl rfl fun W1 x1 G0 B1=>RG.nl zL G0 fun X1 y1 c0 C1=>Af rfl<|Aa<|Ai<|Ac<|Ab (AF rfl (c0.memA .t2))<|bk h fun k1 W0 h=>Bi (.bool k1) (bd 100) rfl (e1 rfl) (fun p q=>ah_c n (c0.hL0 hL q) a0 W0) rfl<|Ab (Bp rfl)<|Ae rfl<|RG.ifnb (s:=10) rfl h (fun C0 h=>?_) (fun C0 h=>?_)
 refine AH (AF rfl (c0.memA .t1))<|bk h fun p1 X0 h=>RG.callq' (v:=.bool p1) (fst:=[]) (cap:=[]) (.yes rfl rfl) (bd 100) rfl (e1 rfl) (fun p q=>ah_c n (c0.hL0 hL q) a1 X0) rfl<|AH (Bp rfl)<|Bv rfl rfl<|Aa<|BW rfl h (fun D0 h=>?_) (fun D0 h=>?_)
 refine Ar<|Ac<|Ab (AF rfl (c0.memA .t1))<|bk h fun p0 Y0 h=>jE (bd 103) rfl (e1 rfl) (fun p q=>aD_c n (c0.hL hL q) a1 Y0) rfl fun Y1 Q1 K0 ⟨g1,j1,hu_,t0,u0⟩=>?_
 subst hu_
 obtain ⟨H0,D1⟩:=c0.agr K0
 refine RG.nl [.bool false,vN,.bool false,vN] H0 fun Z1 z1 I0 j0=>AQ [.bool p0.fN.fe,g1,.bool p0.fD.fe,j1] I0 .hd (o4 rfl (AP (Am t0 j0)) rfl (AP (Am u0 j0))) fun b2 d0 s0=>Aa<|Ai<|Ac<|Ab (AF rfl (d0.memA .hd))<|bk h fun q1 Z0 h=>Bi (.bool q1) (bd 105) rfl (e1 rfl) (fun p q=>df_c n (d0.hL0 hL q) p0 (d0.kd (Am t0 (Tt j0 s0)) q) (d0.kd (Am u0 (Tt j0 s0)) q) Z0) rfl<|Aa<|MX.ifb rfl h (fun E0 h=>?_) (fun E0 h=>?_)
 refine Ac<|Ab (AO (vs:=[]) (u:=.agg zM) aj (fun p=>by kernel_rfl))<|AQ zL d0 .t1 (ai rfl) fun c2 v0 E1=>Af rfl<|Aa<|Al rfl<|Ap hb0 func57 rfl (.cons (.many (cs:=zL) rfl rfl (v0.memA .t1)) (.cons (.tmp rfl) .nil)) rfl ?_
 cases h
 exact v0.gv
 refine Ar<|Ai<|du 7 fun b0 g0=>Rx 0 506 b0 rfl g0 (AF rfl (d0.memA .t3))<|Rx 2 504 b0 rfl g0 (AF rfl (d0.memA .hd))<|bk h fun s1 b1 h=>Bl 1 7 b0 rfl .plain (bd 103) rfl (e1 rfl) (fun p q=>aD_c n (d0.hL hL q) a0 b1) rfl fun d2 R1 M0 ⟨J1,K1,hu_,Q0,R0⟩=>?_
 subst hu_
 obtain ⟨x0,J0⟩:=d0.agr M0
 refine bk h fun u1 c1 h=>?_
 have B0:=Tt j0 (Tt s0 J0)
 refine Bl 3 15 b0 rfl .plain (bd 106) rfl (e2 rfl rfl) (fun p q=>cF_c n (x0.hL hL q) s1 (Aq Q0 q) (Aq R0 q) p0 (Aq (Am t0 B0) q) (Aq (Am u0 B0) q) c1) rfl fun g2 U1 P0 ⟨M1,P1,hu_,U0,V0⟩=>?_
 subst hu_
 obtain ⟨k0,F1⟩:=x0.agr P0
 refine bk h fun q0 d1 h=>BG 4 31 480 (.tuple #[.agg ((ab q0.1)).toArray,vI q0.2]) b0 rfl g0 (bd 101) rfl (e1 rfl) (fun p q=>bb_c n (k0.hL0 hL q) u1 (k0.kd U0 q) (k0.kd V0 q) d1) rfl<|Rv 5 b0 rfl g0 (fun _=>Ah rfl rfl)<|Rv 6 b0 rfl g0 (fun _=>Ah rfl rfl)<|Bz 7 255 b0 rfl rfl .plain (Ay (news:=(ab q0.1)) k0 .t1 rfl rfl rfl rfl rfl rfl (ai rfl)) fun j2 y0 G1=>Rv 8 b0 rfl g0 (fun _=>Bh rfl)<|AM (dk b0)<|Al rfl<|Ap hb0 func57 rfl (.cons (.many (cs:=(ab q0.1)) rfl rfl (y0.memA .t1)) (.cons (.tmp rfl) .nil)) rfl ?_
 cases h
 exact y0.gv
 refine Ac<|Ab (AO (vs:=[]) (u:=.agg zM) aj (fun p=>by kernel_rfl))<|AQ zL c0 .hd (ai rfl) fun k2 z0 H1=>Af rfl<|Aa<|Al rfl<|Ap hb0 func57 rfl (.cons (.many (cs:=zL) rfl rfl (z0.memA .hd)) (.cons (.tmp rfl) .nil)) rfl ?_
 cases h
 exact z0.gv
 refine Au<|Au<|Au<|Bm rfl rfl<|Aa<|Bb rfl<|Ac<|Ab (AO (vs:=[]) (u:=.agg zM) aj (fun p=>by kernel_rfl))<|AQ zL c0 .hd (ai rfl) fun p2 A0 I1=>Af rfl<|Aa<|Al rfl<|Ap hb0 func57 rfl (.cons (.many (cs:=zL) rfl rfl (A0.memA .hd)) (.cons (.tmp rfl) .nil)) rfl ?_
 cases h
 exact A0.gv
def au_l1 (n:Nat) (a2:Int) (E0:(List Int) × (List Int) × Int) (Q0:Int) (R0:Int) (F0:Int × U16 -> Option (U16)):Int × U16 -> Option (U16)
  | (c0,d0,g0,j0,k0,p0,q0,s0,t0,u0,v0,x0,y0,z0,A0,B0,C0)=>(if c0 < a2 then (idx E0.1 c0).bind fun D0=>(aZ_p n D0 Q0).bind fun J0=>(idx E0.2.1 c0).bind fun I0=>(chk (I0 - D0)).bind fun G0=>(aZ_p n G0 R0).bind fun K0=>(cM_p n J0 K0).bind fun M0=>(cN_p n M0.1).bind fun P0=>(cO_p n (⟨(d0,g0,j0,k0,p0,q0,s0,t0),(u0,v0,x0,y0,z0,A0,B0,C0)⟩:Ta) P0.1).bind fun b0=>(chk (c0 + 1)).bind fun H0=>F0 (H0,b0.1.fN.1,b0.1.fN.2.1,b0.1.fN.2.2.1,b0.1.fN.2.2.2.1,b0.1.fN.2.2.2.2.1,b0.1.fN.2.2.2.2.2.1,b0.1.fN.2.2.2.2.2.2.1,b0.1.fN.2.2.2.2.2.2.2,b0.1.fD.1,b0.1.fD.2.1,b0.1.fD.2.2.1,b0.1.fD.2.2.2.1,b0.1.fD.2.2.2.2.1,b0.1.fD.2.2.2.2.2.1,b0.1.fD.2.2.2.2.2.2.1,b0.1.fD.2.2.2.2.2.2.2) else some (d0,g0,j0,k0,p0,q0,s0,t0,u0,v0,x0,y0,z0,A0,B0,C0))
def au_l2 (_n:Nat) (a2:Int) (d0:(List Int) × (List Int) × Int) (k0:Int × Int × Int -> Option (Int × Int)):Int × Int × Int -> Option (Int × Int)
  | (g0,j0,b0)=>(if b0 < a2 then (idx d0.1 b0).bind fun c0=>(chk (g0 + c0)).bind fun p0=>(idx d0.2.1 b0).bind fun u0=>(chk (j0 + u0)).bind fun q0=>(chk (q0 - c0)).bind fun s0=>(chk (b0 + 1)).bind fun t0=>k0 (p0,s0,t0) else some (g0,j0))
def au_p (n:Nat) (a0:Td) (a1:List Int) (a2:Int) (a3:Int):Option (Ta × Int):=
  (aw_p n a0 a1 a2 a3).bind fun c0=>(if c0.2.2 = 0 then Option.bind (am (au_l2 n a2 c0) n (0,0,0)) (fun (d0,g0)=>(if d0 = 0 then some ((⟨(0,0,0,0,0,0,0,0),(0,0,0,0,0,0,0,0)⟩:Ta),(7:Int)) else (if g0 = 0 then some ((⟨(0,0,0,0,0,0,0,0),(0,0,0,0,0,0,0,0)⟩:Ta),(7:Int)) else (aZ_p n (0:Int) (1:Int)).bind fun b0=>Option.bind (am (au_l1 n a2 c0 d0 g0) n (0,b0.fN.1,b0.fN.2.1,b0.fN.2.2.1,b0.fN.2.2.2.1,b0.fN.2.2.2.2.1,b0.fN.2.2.2.2.2.1,b0.fN.2.2.2.2.2.2.1,b0.fN.2.2.2.2.2.2.2,b0.fD.1,b0.fD.2.1,b0.fD.2.2.1,b0.fD.2.2.2.1,b0.fD.2.2.2.2.1,b0.fD.2.2.2.2.2.1,b0.fD.2.2.2.2.2.2.1,b0.fD.2.2.2.2.2.2.2)) (fun (j0,k0,p0,q0,s0,t0,u0,v0,x0,y0,z0,A0,B0,C0,D0,E0)=>(aZ_p n (2:Int) (1:Int)).bind fun F0=>(cP_p n (⟨(j0,k0,p0,q0,s0,t0,u0,v0),(x0,y0,z0,A0,B0,C0,D0,E0)⟩:Ta) F0).bind fun G0=>some (G0.1,(0:Int)))))) else some ((⟨(0,0,0,0,0,0,0,0),(0,0,0,0,0,0,0,0)⟩:Ta),c0.2.2))
theorem au_c (n:Nat) {L w} (hL:hl L w) (a0:Td) {v0_3:Value} (h0_3:Rep.R w L [v0_3] a0.fu) {a1:List Int} {v1_0:Value} (h1_0:Rep.R w L [v1_0] a1) {a2:Int} {a3:Int}  {r:Ta × Int} (h:au_p n a0 a1 a2 a3 = some r) :
 Cl 15 #[.agg #[vI a0.fj,vI a0.fh,vI a0.fl,v0_3],v1_0,vI a2,vI a3] w (ah w fun _ u=>u = .tuple #[.agg ((ab r.1)).toArray,vI r.2]):=by
 unfold au_p at h
 refine AG func15 rfl rfl rfl fun _ cs0 hb0=>Ac<|RG.bx (Az w) rfl rfl fun Q4 s4 u2 A4=>RG.nl zL u2 fun W4 W0 U0 D4=>Af rfl<|Aa<|Ac<|Ab (AF rfl (U0.memA .t1))<|Ae rfl<|Ae rfl<|Ae rfl<|bk h fun c4 J3 h=>jE (bd 43) rfl (e4 rfl rfl rfl rfl) (fun p q=>aw_c n (U0.hL hL q) a0 (U0.km h0_3 q) (U0.km h1_0 q) J3) rfl fun Y4 P4 J2 ⟨K1,M1,hu_,I1,J1⟩=>?_
 subst hu_
 obtain ⟨s1,E4⟩:=U0.agr J2
 refine Ae rfl<|Ab (Ah rfl rfl)<|Ab (Ah rfl rfl)<|Ab (Ah rfl rfl)<|Af rfl<|Af rfl<|Af rfl<|Aa<|Ai<|Ac<|Ae rfl<|Ab (FV.neq (i:=c4.2.2) (j:=0) rfl rfl)<|Aa<|MX.ifn rfl h (fun b2 h=>?_) (fun b2 h=>?_)
 refine Ar<|Ac<|Af rfl<|Af rfl<|Aa<|Ai<|Ac<|Af rfl<|Aa<|AA ?_
 obtain ⟨s2,g1⟩:=AI s1 (.a0 .done)
 obtain ⟨J4,g3,V2⟩:=aq h
 refine MX.lo (α:=Int × Int × Int) (fun ⟨u0,v0,q0⟩=>[(2,vI a2),(8,vP W0),(10,K1),(11,M1),(13,vI u0),(14,vI v0),(15,vI q0)]) (fun ⟨u0,v0,q0⟩=>[.cells W0 zL 38]) (fun ⟨u0,v0,q0⟩=>(u0,v0,q0)) (0,0,0) g3 s2 ?_
 rintro p4 ⟨u0,v0,q0⟩ q5 p2 R0 Y0 h
 unfold au_l2 at h
 try dsimp only at h
 refine Ai<|Ac<|Ae rfl<|Ae rfl<|Ab (BK (i:=q0) (j:=a2) rfl rfl)<|Aa<|AT rfl h (fun X1 h=>?_) (fun X1 h=>?_)
 refine Ar<|Ai<|AA<|Ac<|Ae rfl<|Ae rfl<|Ae rfl<|bk h fun j1 A3 h=>?_
 obtain ⟨B1,B3⟩:=aA A3
 obtain ⟨d4,v4,z1,D1,d2,k3,F1⟩:=Bk (Am I1 (Tt g1 Y0)) B3
 have K2:d2 = [vI j1]:=k3; subst K2
 refine Ab (Bj 1 (q0.toNat) rfl z1 rfl B1 D1)<|AR rfl (F1 0 _ rfl)<|bk h fun W3 t3 h=>Ab (BE (i:=u0) (j:=j1) rfl rfl t3)<|Af rfl<|Aa<|du 12 fun j0 k0=>Rv 0 j0 rfl k0 (fun _=>Ak rfl)<|Rv 1 j0 rfl k0 (fun _=>Ak rfl)<|Rv 2 j0 rfl k0 (fun _=>Ak rfl)<|bk h fun P1 C3 h=>?_
 obtain ⟨X2,D3⟩:=aA C3
 obtain ⟨g4,x4,M2,Z2,g2,p3,c3⟩:=Bk (Am J1 (Tt g1 Y0)) D3
 have P2:g2 = [vI P1]:=p3; subst P2
 refine Rv 3 j0 rfl k0 (fun _=>Bj 1 (q0.toNat) rfl M2 rfl X2 Z2)<|Rx 4 3104 j0 rfl k0 (AL rfl (c3 0 _ rfl))<|bk h fun X3 u3 h=>Rv 5 j0 rfl k0 (fun _=>BE (i:=v0) (j:=P1) rfl rfl u3)<|Rv 6 j0 rfl k0 (fun _=>Ak rfl)<|Rv 7 j0 rfl k0 (fun _=>Ak rfl)<|Rv 8 j0 rfl k0 (fun _=>Bj 1 (q0.toNat) rfl z1 rfl B1 D1)<|Rx 9 3072 j0 rfl k0 (AL rfl (F1 0 _ rfl))<|bk h fun Y3 v3 h=>Rv 10 j0 rfl k0 (fun _=>FV.subc (i:=X3) (j:=j1) rfl rfl v3)<|Rv 11 j0 rfl k0 (fun _=>Bh rfl)<|AM (dk j0)<|AC<|Ao<|Ae rfl<|bk h fun Z3 x3 h=>Ab (BE (i:=q0) (j:=1) rfl rfl x3)<|Af rfl<|Aa<|p2 (W3,Y3,Z3) R0 Y0 h
 refine Be rfl ?_
 have h:=V2 _ h
 try dsimp only at h
 refine Ai<|Ac<|Ae rfl<|Ab (FV.eql (i:=u0) (j:=0) rfl rfl)<|Ae rfl<|BA (s:=59) rfl h (fun Y1 h=>?_) (fun Y1 h=>?_)
 refine Au<|Au<|Bm rfl rfl<|Aa<|Bb rfl<|Ac<|Ab (AO (vs:=[]) (u:=.agg zM) aj (fun p=>by kernel_rfl))<|AQ zL R0 .hd (ai rfl) fun R4 p1 B4=>Af rfl<|Aa<|Al rfl<|Ap hb0 func15 rfl (.cons (.many (cs:=zL) rfl rfl (p1.memA .hd)) (.cons (.tmp rfl) .nil)) rfl ?_
 cases h
 exact p1.gv
 refine AH (Ak rfl)<|AH (FV.eql (i:=v0) (j:=0) rfl rfl)<|Bv rfl rfl<|Aa<|AT rfl h (fun Z1 h=>?_) (fun Z1 h=>?_)
 refine Ac<|Ab (AO (vs:=[]) (u:=.agg zM) aj (fun p=>by kernel_rfl))<|AQ zL R0 .hd (ai rfl) fun U4 q1 C4=>Af rfl<|Aa<|Al rfl<|Ap hb0 func15 rfl (.cons (.many (cs:=zL) rfl rfl (q1.memA .hd)) (.cons (.tmp rfl) .nil)) rfl ?_
 cases h
 exact q1.gv
 refine Ar<|Ac<|bk h fun g0 I3 h=>Bi (.agg ((ab g0)).toArray) (bd 44) rfl (e2 rfl rfl) (fun p q=>aZ_c n (R0.hL0 hL q)  I3) rfl<|RG.nl zL R0 fun V4 k1 v2 C2=>AQ (ab g0) v2 .hd (ai rfl) fun X4 x2 D2=>Aa<|Ai<|Ac<|Af rfl<|Aa<|AA ?_
 obtain ⟨K4,j3,W2⟩:=aq h
 refine MX.lo (α:=Int × U16) (fun ⟨s0,y0,z0,A0,B0,C0,D0,E0,F0,G0,H0,I0,J0,K0,M0,P0,Q0⟩=>[(2,vI a2),(8,vP W0),(10,K1),(11,M1),(13,vI u0),(14,vI v0),(16,vP k1),(17,vI s0)]) (fun ⟨s0,y0,z0,A0,B0,C0,D0,E0,F0,G0,H0,I0,J0,K0,M0,P0,Q0⟩=>[.cells k1 [vU y0,vU z0,vU A0,vU B0,vU C0,vU D0,vU E0,vU F0,vU G0,vU H0,vU I0,vU J0,vU K0,vU M0,vU P0,vU Q0] 38,.cells W0 zL 38]) (fun ⟨s0,y0,z0,A0,B0,C0,D0,E0,F0,G0,H0,I0,J0,K0,M0,P0,Q0⟩=>(s0,y0,z0,A0,B0,C0,D0,E0,F0,G0,H0,I0,J0,K0,M0,P0,Q0)) (0,g0.fN.1,g0.fN.2.1,g0.fN.2.2.1,g0.fN.2.2.2.1,g0.fN.2.2.2.2.1,g0.fN.2.2.2.2.2.1,g0.fN.2.2.2.2.2.2.1,g0.fN.2.2.2.2.2.2.2,g0.fD.1,g0.fD.2.1,g0.fD.2.2.1,g0.fD.2.2.2.1,g0.fD.2.2.2.2.1,g0.fD.2.2.2.2.2.1,g0.fD.2.2.2.2.2.2.1,g0.fD.2.2.2.2.2.2.2) j3 x2 ?_
 rintro q4 ⟨s0,y0,z0,A0,B0,C0,D0,E0,F0,G0,H0,I0,J0,K0,M0,P0,Q0⟩ s5 q2 t0 y1 h
 unfold au_l1 at h
 try dsimp only at h
 refine Ai<|Ac<|Ae rfl<|Ae rfl<|Ab (BK (i:=s0) (j:=a2) rfl rfl)<|Aa<|AT rfl h (fun c2 h=>?_) (fun c2 h=>?_)
 refine Ar<|Ai<|AA<|Ai<|du 22 fun b0 c0=>Rv 0 b0 rfl c0 (fun _=>Ak rfl)<|Rv 1 b0 rfl c0 (fun _=>Ak rfl)<|bk h fun Q1 E3 h=>?_
 obtain ⟨C1,F3⟩:=aA E3
 have H1:=Tt g1 (Tt Y0 (Tt C2 (Tt D2 y1)))
 obtain ⟨j4,y4,A1,E1,j2,q3,G1⟩:=Bk (Am I1 H1) F3
 have Q2:j2 = [vI Q1]:=q3; subst Q2
 refine Rv 2 b0 rfl c0 (fun _=>Bj 1 (s0.toNat) rfl A1 rfl C1 E1)<|Rx 3 14614560 b0 rfl c0 (AL rfl (G1 0 _ rfl))<|Rv 4 b0 rfl c0 (fun _=>Ak rfl)<|bk h fun U1 K3 h=>BG 5 63 14614528 (.agg ((ab U1)).toArray) b0 rfl c0 (bd 44) rfl (e2 rfl rfl) (fun p q=>aZ_c n (t0.hL0 hL q)  K3) rfl<|Rv 6 b0 rfl c0 (fun _=>Ak rfl)<|Rv 7 b0 rfl c0 (fun _=>Ak rfl)<|bk h fun R1 G3 h=>?_
 obtain ⟨Y2,H3⟩:=aA G3
 obtain ⟨k4,z4,R2,b3,k2,s3,d3⟩:=Bk (Am J1 H1) H3
 have U2:k2 = [vI R1]:=s3; subst U2
 refine Rv 8 b0 rfl c0 (fun _=>Bj 1 (s0.toNat) rfl R2 rfl Y2 b3)<|Rx 9 14630912 b0 rfl c0 (AL rfl (d3 0 _ rfl))<|Rv 10 b0 rfl c0 (fun _=>Ak rfl)<|Rv 11 b0 rfl c0 (fun _=>Ak rfl)<|Rv 12 b0 rfl c0 (fun _=>Bj 1 (s0.toNat) rfl A1 rfl C1 E1)<|Rx 13 14630912 b0 rfl c0 (AL rfl (G1 0 _ rfl))<|bk h fun M4 y3 h=>Rv 14 b0 rfl c0 (fun _=>FV.subc (i:=R1) (j:=Q1) rfl rfl y3)<|Rv 15 b0 rfl c0 (fun _=>Ak rfl)<|bk h fun V1 M3 h=>BG 16 131071 14548992 (.agg ((ab V1)).toArray) b0 rfl c0 (bd 44) rfl (e2 rfl rfl) (fun p q=>aZ_c n (t0.hL0 hL q)  M3) rfl<|bk h fun Z0 P3 h=>BG 17 262143 14417920 (.tuple #[.agg ((ab Z0.1)).toArray,vI Z0.2]) b0 rfl c0 (bd 54) rfl (e2 rfl rfl) (fun p q=>cM_c n (t0.hL0 hL q) U1 V1 P3) rfl<|Rv 18 b0 rfl c0 (fun _=>Ak rfl)<|Rv 19 b0 rfl c0 (fun _=>Ah rfl rfl)<|Rv 20 b0 rfl c0 (fun _=>Ah rfl rfl)<|BV 21 4194303 b0 rfl .plain rfl (Ax zL t0) fun Z4 t4 y2 E2=>Bz 22 8388607 b0 rfl rfl .plain (Ay (news:=(ab Z0.1)) y2 .hd rfl rfl rfl rfl rfl rfl (ai rfl)) fun b5 c1 F2=>Rv 23 b0 rfl c0 (fun _=>Bh rfl)<|AM (dk b0)<|Ac<|Ab (AF rfl (c1.memA .hd))<|bk h fun b1 Q3 h=>Bi (.tuple #[.agg ((ab b1.1)).toArray,vI b1.2]) (bd 55) rfl (e1 rfl) (fun p q=>cN_c n (c1.hL0 hL q) Z0.1 Q3) rfl<|Ae rfl<|Ab (Ah rfl rfl)<|Ab (Ah rfl rfl)<|AQ (ab b1.1) c1 .hd (ai rfl) fun c5 X0 G2=>Aa<|Ao<|Ab (AF rfl (X0.memA .t1))<|Ab (AF rfl (X0.memA .hd))<|bk h fun d0 R3 h=>Bi (.tuple #[.agg ((ab d0.1)).toArray,vI d0.2]) (bd 56) rfl (e2 rfl rfl) (fun p q=>cO_c n (X0.hL0 hL q) (⟨(y0,z0,A0,B0,C0,D0,E0,F0),(G0,H0,I0,J0,K0,M0,P0,Q0)⟩:Ta) b1.1 R3) rfl<|Ae rfl<|Ab (Ah rfl rfl)<|Ab (Ah rfl rfl)<|AQ (ab d0.1) X0 .t1 (ai rfl) fun d5 z2 H2=>Aa<|AC<|Ao<|Ae rfl<|bk h fun b4 z3 h=>Ab (BE (i:=s0) (j:=1) rfl rfl z3)<|Af rfl<|Aa ?_
 obtain ⟨A2,I2⟩:=AI z2 .d1
 exact q2 (b4,d0.1.fN.1,d0.1.fN.2.1,d0.1.fN.2.2.1,d0.1.fN.2.2.2.1,d0.1.fN.2.2.2.2.1,d0.1.fN.2.2.2.2.2.1,d0.1.fN.2.2.2.2.2.2.1,d0.1.fN.2.2.2.2.2.2.2,d0.1.fD.1,d0.1.fD.2.1,d0.1.fD.2.2.1,d0.1.fD.2.2.2.1,d0.1.fD.2.2.2.2.1,d0.1.fD.2.2.2.2.2.1,d0.1.fD.2.2.2.2.2.2.1,d0.1.fD.2.2.2.2.2.2.2) A2 (Tt y1 (Tt E2 (Tt F2 (Tt G2 (Tt H2 I2))))) h
 refine Be rfl ?_
 have h:=W2 _ h
 try dsimp only at h
 refine Ai<|du 7 fun p0 x0=>Rx 0 444 p0 rfl x0 (AF rfl (t0.memA .hd))<|bk h fun W1 U3 h=>BG 1 3 444 (.agg ((ab W1)).toArray) p0 rfl x0 (bd 44) rfl (e2 rfl rfl) (fun p q=>aZ_c n (t0.hL0 hL q)  U3) rfl<|bk h fun V0 V3 h=>BG 2 7 440 (.tuple #[.agg ((ab V0.1)).toArray,vI V0.2]) p0 rfl x0 (bd 57) rfl (e2 rfl rfl) (fun p q=>cP_c n (t0.hL0 hL q) (⟨(y0,z0,A0,B0,C0,D0,E0,F0),(G0,H0,I0,J0,K0,M0,P0,Q0)⟩:Ta) W1 V3) rfl<|Rv 3 p0 rfl x0 (fun _=>Ak rfl)<|Rv 4 p0 rfl x0 (fun _=>Ah rfl rfl)<|Rv 5 p0 rfl x0 (fun _=>Ah rfl rfl)<|BV 6 127 p0 rfl .plain rfl (Ax zL t0) fun g5 u4 B2 F4=>Bz 7 255 p0 rfl rfl .plain (Ay (news:=(ab V0.1)) B2 .hd rfl rfl rfl rfl rfl rfl (ai rfl)) fun j5 u1 G4=>Rv 8 p0 rfl x0 (fun _=>Bh rfl)<|AM (dk p0)<|Ac<|Ab (AF rfl (u1.memA .hd))<|AQ (ab V0.1) u1 .t2 (ai rfl) fun k5 v1 H4=>Af rfl<|Aa<|Al rfl<|Ap hb0 func15 rfl (.cons (.many (cs:=(ab V0.1)) rfl rfl (v1.memA .t2)) (.cons (.tmp rfl) .nil)) rfl ?_
 cases h
 exact v1.gv
 refine Ac<|Ab (AO (vs:=[]) (u:=.agg zM) aj (fun p=>by kernel_rfl))<|Ae rfl<|AQ zL s1 .hd (ai rfl) fun p5 x1 I4=>Af rfl<|Aa<|Al rfl<|Ap hb0 func15 rfl (.cons (.many (cs:=zL) rfl rfl (x1.memA .hd)) (.cons (.tmp rfl) .nil)) rfl ?_
 cases h
 exact x1.gv
structure To where
  fN:Int16
  fD:UInt8
  deriving DecidableEq
instance:Rep To:=Rep.via (β:=Int16 × UInt8) fun x=>(x.fN,x.fD)
def bW_p (n:Nat) (a0:To):Option Ta:=
  jn (fun g0=>(bQ g0 ((a0.fD.toNat + 2:Nat):Int)).bind fun c0=>(cg_p n c0 ((1 + a0.fD.toNat:Nat):Int)).bind fun d0=>some d0) (fun b0=>(if a0.fN.toInt < 0 then b0 ((-1) - a0.fN.toInt) else b0 a0.fN.toInt))
theorem bW_c (n:Nat) {L w} (hL:hl L w) (a0:To)  {r:Ta} (h:bW_p n a0 = some r) :
 Cl 17 #[.agg #[.int .i16 a0.fN.toInt,.int .u8 (a0.fD.toNat:Int)]] w (ah w fun _ u=>u = .agg ((ab r)).toArray):=by
 unfold bW_p at h
 refine AG func17 rfl rfl rfl fun _ cs0 hb0=>Ac<|RG.bx (Az w) rfl rfl fun J0 p0 v0 A0=>RG.nl zL v0 fun K0 q0 g0 B0=>Aa<|Ac<|AX 0 rfl<|AR rfl ((g0.memA .t1) 0 _ rfl) ?_
 have E0:=Int16.le_toInt a0.fN
 have F0:=Int16.toInt_lt a0.fN
 refine Ab (FV.convI16 (i:=a0.fN) underlying31 underlying3 rfl)<|Af rfl<|Aa<|Ai<|Ac<|Ae rfl<|Ab (BK (i:=a0.fN.toInt) (j:=0) rfl rfl)<|Aa<|MX.jo (α:=Int) (fun d0=>[(1,vP p0),(2,vP q0),(3,vI d0)]) (fun d0=>[.cells q0 zL 38,.cells p0 [.int .i16 a0.fN.toInt,.int .u8 (a0.fD.toNat:Int)] 33]) (fun d0=>d0) g0 h ?_ ?_
 rintro d0 P0 j0 C0 h
 try dsimp only at h
 refine Ai<|du 11 fun b0 c0=>Rv 0 b0 rfl c0 (fun _=>Ak rfl)<|Rv 1 b0 rfl c0 (fun _=>AU 1 rfl)<|Rx 2 3128 b0 rfl c0 (AL rfl ((j0.memA .t1) 1 _ rfl)) ?_
 have G0:=a0.fD.toNat_lt
 refine Rv 3 b0 rfl c0 (fun _=>FV.convN (i:=a0.fD.toNat) underlying5 underlying3 rfl (by omega))<|Rv 4 b0 rfl c0 (fun _=>Bn (i:=a0.fD.toNat) (j:=2) rfl rfl (by omega))<|bk h fun I0 x0 h=>Rv 5 b0 rfl c0 (fun _=>FV.remc (i:=d0) (j:=((a0.fD.toNat + 2:Nat):Int)) rfl rfl x0)<|Rv 6 b0 rfl c0 (fun _=>AU 1 rfl)<|Rx 7 3840 b0 rfl c0 (AL rfl ((j0.memA .t1) 1 _ rfl)) ?_
 have H0:=a0.fD.toNat_lt
 refine Rv 8 b0 rfl c0 (fun _=>FV.convN (i:=a0.fD.toNat) underlying5 underlying3 rfl (by omega))<|Rv 9 b0 rfl c0 (fun _=>Bn (i:=1) (j:=a0.fD.toNat) rfl rfl (by omega))<|bk h fun k0 y0 h=>BG 10 2047 2048 (.agg ((ab k0)).toArray) b0 rfl c0 (bd 58) rfl (e2 rfl rfl) (fun p q=>cg_c n (j0.hL0 hL q)  y0) rfl<|Bz 11 4095 b0 rfl rfl .plain (Ay (news:=(ab k0)) j0 .hd rfl rfl rfl rfl rfl rfl (ai rfl)) fun M0 t0 D0=>AM (dk b0)<|Al rfl<|Ap hb0 func17 rfl (.cons (.many (cs:=(ab k0)) rfl rfl (t0.memA .hd)) .nil) rfl ?_
 cases h
 exact t0.gv
 intro z0 s0 h
 try dsimp only at h
 refine AT rfl h (fun u0 h=>?_) (fun u0 h=>?_)
 refine Ao<|Ae rfl<|Ab (FV.subI (i:=(-1)) (j:=a0.fN.toInt) rfl rfl (by omega))<|Af rfl<|Aa<|s0 ((-1) - a0.fN.toInt) g0 (Bw _ _) h
 refine Ar<|s0 a0.fN.toInt g0 (Bw _ _) h
def bS_p (n:Nat) (a0:Ta):Option Int:=
  (ah_p n a0).bind fun b0=>(if b0 = true then some (0:Int) else some (20:Int))
theorem bS_c (n:Nat) {L w} (hL:hl L w) (a0:Ta)  {r:Int} (h:bS_p n a0 = some r) :
 Cl 67 #[.agg ((ab a0)).toArray] w (ah w fun _ u=>u = vI r):=by
 unfold bS_p at h
 refine AG func67 rfl rfl rfl fun _ cs0 hb0=>Ac<|RG.bx (Az w) rfl rfl fun p0 j0 b0 k0=>Af rfl<|Aa<|Ai<|Ac<|Ab (AF rfl (b0.memA .hd))<|bk h fun g0 d0 h=>Bi (.bool g0) (bd 100) rfl (e1 rfl) (fun p q=>ah_c n (b0.hL0 hL q) a0 d0) rfl<|Ab (Bp rfl)<|Aa<|BW rfl h (fun c0 h=>?_) (fun c0 h=>?_)
 refine Ar<|Ac<|Af rfl<|Aa<|Al rfl<|AY hb0 func67 rfl rfl ?_
 cases h
 exact b0.gv
 refine Ac<|Af rfl<|Aa<|Al rfl<|AY hb0 func67 rfl rfl ?_
 cases h
 exact b0.gv
def cy_p (n:Nat) (a0:Tc) (a1:Tc):Option Int:=
  (cj_p n a0 a1).bind fun b0=>(if b0.fe = true then some (-1:Int) else (if 0 < b0.fD.length then some (1:Int) else some (0:Int)))
theorem cy_c (n:Nat) {L w} (hL:hl L w) (a0:Tc) {v0_1:Value} (h0_1:Rep.R w L [v0_1] a0.fD) (a1:Tc) {v1_1:Value} (h1_1:Rep.R w L [v1_1] a1.fD)  {r:Int} (h:cy_p n a0 a1 = some r) :
 Cl 155 #[.agg #[.bool a0.fe,v0_1],.agg #[.bool a1.fe,v1_1]] w (ah w fun _ u=>u = vI r):=by
 unfold cy_p at h
 refine AG func155 rfl rfl rfl fun _ cs0 hb0=>Ac<|RG.bx (Az w) rfl rfl fun I0 A0 s0 D0=>RG.bx s0 rfl rfl fun J0 B0 b0 E0=>Af rfl<|Aa<|Ac<|Ab (AF rfl (b0.memA .t1))<|Ab (AF rfl (b0.memA .hd))<|bk h fun d0 y0 h=>jE (bd 191) rfl (e2 rfl rfl) (fun p q=>cj_c n (b0.hL hL q) a0 (b0.km h0_1 q) a1 (b0.km h1_1 q) y0) rfl fun K0 H0 x0 ⟨z0,hu_,k0⟩=>?_
 subst hu_
 obtain ⟨t0,F0⟩:=b0.agr x0
 refine RG.nl [.bool false,vN] t0 fun M0 C0 u0 g0=>AQ [.bool d0.fe,z0] u0 .hd (o2 rfl (AP (Am k0 g0))) fun P0 c0 v0=>Aa<|Ai<|Ac<|AX 0 rfl<|AR rfl ((c0.memA .hd) 0 _ rfl)<|Aa<|MX.ifb rfl h (fun p0 h=>?_) (fun p0 h=>?_)
 refine Ac<|Af rfl<|Aa<|Al rfl<|AY hb0 func155 rfl rfl ?_
 cases h
 exact c0.gv
 refine Ar<|Ai<|Ac<|AX 1 rfl<|AR rfl ((c0.memA .hd) 1 _ rfl) ?_
 have j0:=Am k0 (Tt g0 v0)
 have G0:d0.fD.length <= 281474976710656:=Ba j0
 refine Ab (Bg (xs:=d0.fD) underlying40 rfl j0)<|Ab (FV.gtrN (i:=d0.fD.length) (j:=0) rfl rfl)<|Aa<|AT rfl h (fun q0 h=>?_) (fun q0 h=>?_)
 refine Ac<|Af rfl<|Aa<|Al rfl<|AY hb0 func155 rfl rfl ?_
 cases h
 exact c0.gv
 refine Ar<|Ac<|Af rfl<|Aa<|Al rfl<|AY hb0 func155 rfl rfl ?_
 cases h
 exact c0.gv
def cV_p (n:Nat) (a0:Tf) (a1:Tf):Option Int:=
  (aC_p n a0.fN a1.fD).bind fun b0=>(aC_p n a1.fN a0.fD).bind fun c0=>(cy_p n b0 c0).bind fun d0=>some d0
theorem cV_c (n:Nat) {L w} (hL:hl L w) (a0:Tf) {v0_1:Value} (h0_1:Rep.R w L [v0_1] a0.fN.fD) {v0_3:Value} (h0_3:Rep.R w L [v0_3] a0.fD.fD) (a1:Tf) {v1_1:Value} (h1_1:Rep.R w L [v1_1] a1.fN.fD) {v1_3:Value} (h1_3:Rep.R w L [v1_3] a1.fD.fD)  {r:Int} (h:cV_p n a0 a1 = some r) :
 Cl 116 #[.agg #[.bool a0.fN.fe,v0_1,.bool a0.fD.fe,v0_3],.agg #[.bool a1.fN.fe,v1_1,.bool a1.fD.fe,v1_3]] w (ah w fun _ u=>u = vI r):=by
 unfold cV_p at h
 refine AG func116 rfl rfl rfl fun _ cs0 hb0=>Ac<|RG.bx (Az w) rfl rfl fun M0 C0 k0 E0=>RG.bx k0 rfl rfl fun P0 D0 d0 F0=>Af rfl<|Aa<|Ai<|du 12 fun b0 c0=>Rv 0 b0 rfl c0 (fun _=>AU 0 rfl)<|Rx 1 3600 b0 rfl c0 (AW (cs:=[.bool a0.fN.fe,v0_1]) rfl rfl (ae (d0.memA .t1) 0 2))<|Rv 2 b0 rfl c0 (fun _=>AU 2 rfl)<|Rx 3 3600 b0 rfl c0 (AW (cs:=[.bool a1.fD.fe,v1_3]) rfl rfl (ae (d0.memA .hd) 2 2))<|Rv 5 b0 rfl c0 (fun _=>AU 0 rfl)<|Rx 6 3584 b0 rfl c0 (AW (cs:=[.bool a1.fN.fe,v1_1]) rfl rfl (ae (d0.memA .hd) 0 2))<|Rv 7 b0 rfl c0 (fun _=>AU 2 rfl)<|Rx 8 3584 b0 rfl c0 (AW (cs:=[.bool a0.fD.fe,v0_3]) rfl rfl (ae (d0.memA .t1) 2 2))<|bk h fun z0 v0 h=>Bl 4 511 b0 rfl .plain (bd 149) rfl (e2 rfl rfl) (fun p q=>aC_c n (d0.hL hL q) a0.fN (d0.km h0_1 q) a1.fD (d0.km h1_3 q) v0) rfl fun Q0 J0 q0 ⟨H0,hu_,t0⟩=>?_
 subst hu_
 obtain ⟨g0,G0⟩:=d0.agr q0
 refine bk h fun A0 x0 h=>Bl 9 1023 b0 rfl .plain (bd 149) rfl (e2 rfl rfl) (fun p q=>aC_c n (g0.hL hL q) a1.fN (g0.km h1_1 q) a0.fD (g0.km h0_3 q) x0) rfl fun R0 K0 s0 ⟨I0,hu_,u0⟩=>?_
 subst hu_
 obtain ⟨j0,p0⟩:=g0.agr s0
 refine bk h fun B0 y0 h=>BG 10 2047 2048 (vI B0) b0 rfl c0 (bd 155) rfl (e2 rfl rfl) (fun p q=>cy_c n (j0.hL0 hL q) z0 (j0.kd (Am t0 p0) q) A0 (j0.kd u0 q) y0) rfl<|Rv 11 b0 rfl c0 (fun _=>Bh rfl)<|AM (dk b0)<|Al rfl<|AY hb0 func116 rfl rfl ?_
 cases h
 exact j0.gv
def cQ_p (n:Nat) (a0:Ta) (a1:Ta):Option (Int × Int):=
  (ah_p n a0).bind fun b0=>(if b0 = true then (ah_p n a1).bind fun c0=>(if c0 = true then (aD_p n a0).bind fun d0=>(aD_p n a1).bind fun g0=>(cV_p n d0 g0).bind fun j0=>some (j0,(0:Int)) else some ((0:Int),(20:Int))) else some ((0:Int),(20:Int)))
theorem cQ_c (n:Nat) {L w} (hL:hl L w) (a0:Ta) (a1:Ta)  {r:Int × Int} (h:cQ_p n a0 a1 = some r) :
 Cl 68 #[.agg ((ab a0)).toArray,.agg ((ab a1)).toArray] w (ah w fun _ u=>u = .tuple #[vI r.1,vI r.2]):=by
 unfold cQ_p at h
 refine AG func68 rfl rfl rfl fun _ cs0 hb0=>Ac<|RG.bx (Az w) rfl rfl fun b1 K0 s0 P0=>RG.bx s0 rfl rfl fun c1 M0 b0 Q0=>Af rfl<|Af rfl<|Aa<|Ai<|Ac<|Ab (AF rfl (b0.memA .t1))<|bk h fun F0 A0 h=>Bi (.bool F0) (bd 100) rfl (e1 rfl) (fun p q=>ah_c n (b0.hL0 hL q) a0 A0) rfl<|Ab (Bp rfl)<|Ae rfl<|RG.ifnb (s:=9) rfl h (fun p0 h=>?_) (fun p0 h=>?_)
 refine AH (AF rfl (b0.memA .hd))<|bk h fun G0 B0 h=>RG.callq' (v:=.bool G0) (fst:=[]) (cap:=[]) (.yes rfl rfl) (bd 100) rfl (e1 rfl) (fun p q=>ah_c n (b0.hL0 hL q) a1 B0) rfl<|AH (Bp rfl)<|Bv rfl rfl<|Aa<|BW rfl h (fun q0 h=>?_) (fun q0 h=>?_)
 refine Ar<|Ai<|du 7 fun c0 g0=>Rx 0 122 c0 rfl g0 (AF rfl (b0.memA .t1))<|Rx 2 120 c0 rfl g0 (AF rfl (b0.memA .hd))<|bk h fun H0 C0 h=>Bl 1 7 c0 rfl .plain (bd 103) rfl (e1 rfl) (fun p q=>aD_c n (b0.hL hL q) a0 C0) rfl fun d1 Y0 t0 ⟨U0,V0,hu_,v0,x0⟩=>?_
 subst hu_
 obtain ⟨j0,R0⟩:=b0.agr t0
 refine bk h fun I0 D0 h=>Bl 3 15 c0 rfl .plain (bd 103) rfl (e1 rfl) (fun p q=>aD_c n (j0.hL hL q) a1 D0) rfl fun g1 Z0 u0 ⟨W0,X0,hu_,y0,z0⟩=>?_
 subst hu_
 obtain ⟨d0,k0⟩:=j0.agr u0
 refine bk h fun J0 E0 h=>BG 4 31 96 (vI J0) c0 rfl g0 (bd 116) rfl (e2 rfl rfl) (fun p q=>cV_c n (d0.hL0 hL q) H0 (d0.kd (Am v0 k0) q) (d0.kd (Am x0 k0) q) I0 (d0.kd y0 q) (d0.kd z0 q) E0) rfl<|Rv 5 c0 rfl g0 (fun _=>Bh rfl)<|Rv 6 c0 rfl g0 (fun _=>Bh rfl)<|AM (dk c0)<|Al rfl<|Ap hb0 func68 rfl (.cons (.tmp rfl) (.cons (.tmp rfl) .nil)) rfl ?_
 cases h
 exact d0.gv
 refine Ac<|Af rfl<|Af rfl<|Aa<|Al rfl<|Ap hb0 func68 rfl (.cons (.tmp rfl) (.cons (.tmp rfl) .nil)) rfl ?_
 cases h
 exact b0.gv
 refine Au<|Au<|Au<|Bm rfl rfl<|Aa<|Bb rfl<|Ac<|Af rfl<|Af rfl<|Aa<|Al rfl<|Ap hb0 func68 rfl (.cons (.tmp rfl) (.cons (.tmp rfl) .nil)) rfl ?_
 cases h
 exact b0.gv
def aH_l1 (n:Nat) (a2:Int) (s0:(List Ta) × Int) (a4:Ta) (d0:Int × (List Int) -> Option (List Int)):Int × (List Int) -> Option (List Int)
  | (b0,c0)=>(if b0 < a2 then (idx s0.1 b0).bind fun k0=>(cQ_p n k0 a4).bind fun q0=>(if 0 < q0.1 then (app c0 ([b0]:List Int)).bind fun p0=>(chk (b0 + 1)).bind fun g0=>d0 (g0,p0) else (chk (b0 + 1)).bind fun j0=>d0 (j0,c0)) else some c0)
def aH_p (n:Nat) (a0:Td) (a1:List Int) (a2:Int) (a3:Int) (a4:Ta):Option ((List Int) × Int):=
  (aA_p n a0 a1 a2 a3).bind fun b0=>(if b0.2 = 0 then (bS_p n a4).bind fun c0=>(if c0 = 0 then Option.bind (am (aH_l1 n a2 b0 a4) n (0,([]:List Int))) (fun d0=>some (d0,(0:Int))) else some (([]:List Int),c0)) else some (([]:List Int),b0.2))
theorem aH_c (n:Nat) {L w} (hL:hl L w) (a0:Td) {v0_3:Value} (h0_3:Rep.R w L [v0_3] a0.fu) {a1:List Int} {v1_0:Value} (h1_0:Rep.R w L [v1_0] a1) {a2:Int} {a3:Int} (a4:Ta)  {r:(List Int) × Int} (h:aH_p n a0 a1 a2 a3 a4 = some r) :
 Cl 19 #[.agg #[vI a0.fj,vI a0.fh,vI a0.fl,v0_3],v1_0,vI a2,vI a3,.agg ((ab a4)).toArray] w (ah w fun w' u=>∃ v0_0:Value,u = .tuple #[v0_0,vI r.2]/\Rep.R w' L [v0_0] r.1):=by
 unfold aH_p at h
 refine AG func19 rfl rfl rfl fun _ cs0 hb0=>Ac<|RG.bx (Az w) rfl rfl fun d2 Q1 Q0 W1=>RG.bx Q0 rfl rfl fun k2 t0 s0 Y1=>Af rfl<|Af rfl<|Aa<|Ac<|Ab (AF rfl (s0.memA .t1))<|Ae rfl<|Ae rfl<|Ae rfl<|bk h fun K1 C1 h=>jE (bd 13) rfl (e4 rfl rfl rfl rfl) (fun p q=>aA_c n (s0.hL hL q) a0 (s0.km h0_3 q) (s0.km h1_0 q) C1) rfl fun p2 c2 W0 ⟨H1,hu_,u1⟩=>?_
 subst hu_
 obtain ⟨g0,Z1⟩:=s0.agr W0
 refine Ae rfl<|Ab (Ah rfl rfl)<|Ab (Ah rfl rfl)<|Af rfl<|Af rfl<|Aa<|Ai<|Ac<|Ae rfl<|Ab (FV.neq (i:=K1.2) (j:=0) rfl rfl)<|Aa<|MX.ifn rfl h (fun J0 h=>?_) (fun J0 h=>?_)
 refine Ar<|Ai<|Ac<|Ab (AF rfl (g0.memA .hd))<|bk h fun G0 D1 h=>Bi (vI G0) (bd 67) rfl (e1 rfl) (fun p q=>bS_c n (g0.hL0 hL q) a4 D1) rfl<|Af rfl<|Aa<|Ac<|Ae rfl<|Ab (FV.neq (i:=G0) (j:=0) rfl rfl)<|Aa<|MX.ifn rfl h (fun K0 h=>?_) (fun K0 h=>?_)
 refine Ar<|Ac<|Af rfl<|Aa<|Ai<|Ac<|Af rfl<|Aa<|AA ?_
 have B0:=g0.nilRow 3 (Rep.size Int)
 obtain ⟨P0,C0⟩:=AI B0 (.a0 (.a0 .done))
 obtain ⟨b2,j1,Z0⟩:=aq h
 refine MX.lf (α:=Int × (List Int) × Value × (List Value)) (fun ⟨b0,k0,j0,p0⟩=>[(2,vI a2),(9,vP t0),(12,H1),(15,j0),(16,vI b0)]) (fun ⟨b0,k0,j0,p0⟩=>[rr w 3 Int j0 k0.length p0,.cells t0 (ab a4) 38]) (fun ⟨b0,k0,j0,p0⟩ F0=>Cells F0 (bl [rr w 3 Int j0 k0.length p0,.cells t0 (ab a4) 38] ++ L) p0 k0) (fun ⟨b0,k0,j0,p0⟩=>(b0,k0)) (0,([]:List Int),vN,[]) j1 P0 (AD (AE (cs:=[]) (xs:=([]:List Int)) B0 L (AK _ _)) C0) ?_
 rintro P1 ⟨b0,k0,j0,p0⟩ F0 A0 q0 x0 y0 h
 unfold aH_l1 at h
 try dsimp only at h
 refine Ai<|Ac<|Ae rfl<|Ae rfl<|Ab (BK (i:=b0) (j:=a2) rfl rfl)<|Aa<|AT rfl h (fun H0 h=>?_) (fun H0 h=>?_)
 refine Ar<|Ai<|AA<|Ai<|du 11 fun c0 d0=>Rv 0 c0 rfl d0 (fun _=>Ak rfl)<|Rv 1 c0 rfl d0 (fun _=>Ak rfl)<|bk h fun I1 y1 h=>?_
 obtain ⟨b1,z1⟩:=aA y1
 obtain ⟨M1,U1,Y0,c1,V1,k1,g1⟩:=Bk (Am u1 (Tt (St.nilRowT g0 3 (Rep.size Int)) (Tt C0 x0))) z1
 obtain rfl:=gO k1
 refine Rv 2 c0 rfl d0 (fun _=>Bj 16 (b0.toNat) rfl Y0 rfl b1 c1)<|Rx 3 2016 c0 rfl d0 (AF rfl g1)<|Rx 4 2016 c0 rfl d0 (AF rfl (q0.memA .t1))<|bk h fun z0 B1 h=>BG 5 63 1984 (.tuple #[vI z0.1,vI z0.2]) c0 rfl d0 (bd 68) rfl (e2 rfl rfl) (fun p q=>cQ_c n (q0.hL0 hL q) I1 a4 B1) rfl<|Rv 6 c0 rfl d0 (fun _=>Ak rfl)<|Rv 7 c0 rfl d0 (fun _=>Ah rfl rfl)<|Rv 8 c0 rfl d0 (fun _=>Ah rfl rfl)<|Rv 9 c0 rfl d0 (fun _=>Bh rfl)<|Rv 10 c0 rfl d0 (fun _=>Bh rfl)<|AM (dk c0)<|Ac<|Ae rfl<|Ab (FV.gtr (i:=z0.1) (j:=0) rfl rfl)<|Aa<|AT rfl h (fun I0 h=>?_) (fun I0 h=>?_)
 refine Ao<|Ae rfl<|Ae rfl<|Aj .plain rfl (jA b0 (vI b0) q0 aw (e1 rfl)) fun g2 R1 u0 D0=>bk h fun J1 A1 h=>RG.doesL .plain rfl (Bo (α:=Int) (ys:=([b0]:List Int)) A1 u0 (fun _ _=>.t1) aw rfl rfl (AD y0 D0) (Src.row (α:=Int) u0 .hd (jC b0 (vI b0) u0 L rfl))) fun G1 j2 ⟨M0,R0,V0,X0⟩=>Af rfl<|Aa<|AC<|Ao<|Ae rfl<|bk h fun E1 v1 h=>Ab (BE (i:=b0) (j:=1) rfl rfl v1)<|Af rfl<|Aa ?_
 obtain ⟨U0,E0⟩:=AI R0 .d1
 exact A0 (E1,J1,G1,M0) U0 (Tt x0 (Tt D0 (Tt V0 E0))) (AD X0 E0) h
 refine Ar<|AC<|Ao<|Ae rfl<|bk h fun F1 x1 h=>Ab (BE (i:=b0) (j:=1) rfl rfl x1)<|Af rfl<|Aa<|A0 (F1,k0,j0,p0) q0 x0 y0 h
 refine Be rfl ?_
 have h:=Z0 _ h
 try dsimp only at h
 refine Ac<|Ae rfl<|Af rfl<|Af rfl<|Aa<|Al rfl ?_
 have v0:=Br q0 .hd
 have X1:=Bs q0 .hd
 have p1:=Bu (α:=Int) (v:=j0) (xs:=k0) v0 L (Bf (α:=Int) q0 .hd y0 hL)
 refine Ap hb0 func19 rfl (.cons (.tmp rfl) (.cons (.tmp rfl) .nil)) rfl ?_
 cases h
 exact ⟨v0.ag,fun p q=>⟨j0,rfl,v0.kd p1 q⟩⟩
 refine Ac<|Ae rfl<|Af rfl<|Af rfl<|Aa<|Al rfl ?_
 have q1:=BS (α:=Int) g0 L
 refine Ap hb0 func19 rfl (.cons (.tmp rfl) (.cons (.tmp rfl) .nil)) rfl ?_
 cases h
 exact ⟨g0.ag,fun p q=>⟨vN,rfl,g0.kd q1 q⟩⟩
 refine Ac<|Ae rfl<|Af rfl<|Af rfl<|Aa<|Al rfl ?_
 have s1:=BS (α:=Int) g0 L
 refine Ap hb0 func19 rfl (.cons (.tmp rfl) (.cons (.tmp rfl) .nil)) rfl ?_
 cases h
 exact ⟨g0.ag,fun p q=>⟨vN,rfl,g0.kd s1 q⟩⟩
structure T48 where
  fr:Td
  fp:List Int
  deriving DecidableEq
instance:Rep T48:=Rep.via (β:=Td × (List Int)) fun x=>(x.fr,x.fp)
theorem op_Td {w:World} {L:List Nat} {cs:List Value} {x:Td} (h:Rep.R w L cs x):∃ v3:Value,cs = [vI x.fj,vI x.fh,vI x.fl,v3]/\Rep.R w L [v3] x.fu:=by
  obtain ⟨c0,r0,rfl,h0,h⟩:=h
  have e0:c0 = [vI x.fj]:=h0; subst e0
  obtain ⟨c1,r1,rfl,h1,h⟩:=h
  have e1:c1 = [vI x.fh]:=h1; subst e1
  obtain ⟨c2,r2,rfl,h2,h⟩:=h
  have e2:c2 = [vI x.fl]:=h2; subst e2
  obtain ⟨v3,rfl,kv3⟩:=bZ (xs:=x.fu) h
  exact ⟨v3,rfl,kv3⟩
theorem mk_Td {w:World} {L:List Nat} (a0:Int) (a1:Int) (a2:Int) (a3:List Tb) {u3:Value} (h3:Rep.R w L [u3] a3):Rep.R w L [vI a0,vI a1,vI a2,u3] (⟨a0,a1,a2,a3⟩:Td):=⟨[vI a0],[vI a1,vI a2,u3],rfl,rfl,⟨[vI a1],[vI a2,u3],rfl,rfl,⟨[vI a2],[u3],rfl,rfl,h3⟩⟩⟩
theorem op_T48 {w:World} {L:List Nat} {cs:List Value} {x:T48} (h:Rep.R w L cs x):∃ v3 v4:Value,cs = [vI x.fr.fj,vI x.fr.fh,vI x.fr.fl,v3,v4]/\Rep.R w L [v3] x.fr.fu/\Rep.R w L [v4] x.fp:=by
  obtain ⟨c0,r0,rfl,h0,h⟩:=h
  obtain ⟨v3,rfl,kv3⟩:=op_Td (x:=x.fr) h0
  obtain ⟨v4,rfl,kv4⟩:=bZ (xs:=x.fp) h
  exact ⟨v3,v4,rfl,kv3,kv4⟩
theorem gY {w:World} {L:List Nat} (a0:Td) {u3:Value} (h3:Rep.R w L [u3] a0.fu) (a1:List Int) {u4:Value} (h4:Rep.R w L [u4] a1):Rep.R w L [vI a0.fj,vI a0.fh,vI a0.fl,u3,u4] (⟨a0,a1⟩:T48):=⟨[vI a0.fj,vI a0.fh,vI a0.fl,u3],[u4],rfl,mk_Td a0.fj a0.fh a0.fl a0.fu h3,h4⟩
def ab_l1 (n:Nat) (s0:Ta) (a5:Ta) (b0:T48) (d0:(List Int) × Int) (k0:Int) (q0:Nat -> Option (((Bool ⊕ Unit) ⊕ Unit) ⊕ Unit)):Nat -> Option (((Bool ⊕ Unit) ⊕ Unit) ⊕ Unit)
  | c0=>(if c0 < 2 then (([s0,a5]:List Ta)[c0]?).bind fun p0=>(bN_p n b0.fr b0.fp d0.2 k0 p0).bind fun g0=>(aH_p n b0.fr b0.fp d0.2 k0 p0).bind fun j0=>(aS_p n g0.1 j0.1).bind fun t0=>(if t0 = true then (if g0.2 = j0.2 then q0 (c0 + 1) else some (.inl (.inl (.inl false)))) else some (.inl (.inl (.inl false)))) else some (.inr ()))
def ab_l2 (n:Nat) (a3:Tm) (b0:T48) (c0:(List Int) × Int) (a4:To) (a5:Ta) (s0:Nat -> Option ((Bool ⊕ Unit) ⊕ Unit)):Nat -> Option ((Bool ⊕ Unit) ⊕ Unit)
  | g0=>(if g0 < 3 then (([(0:Int),(1:Int),a3.fN]:List Int)[g0]?).bind fun d0=>(bT_p n b0.fr b0.fp c0.2 d0).bind fun j0=>(aA_p n b0.fr b0.fp c0.2 d0).bind fun k0=>(ce_p n b0.fr b0.fp c0.2 d0).bind fun p0=>(au_p n b0.fr b0.fp c0.2 d0).bind fun q0=>(ai_p n j0.1 k0.1).bind fun t0=>(if t0 = true then (if j0.2 = k0.2 then (if p0.1 = q0.1 then (if p0.2 = q0.2 then (bW_p n a4).bind fun u0=>thn (am (ab_l1 n u0 a5 b0 c0 d0) n 0) (fun _=>s0 (g0 + 1)) else some (.inl (.inl false))) else some (.inl (.inl false))) else some (.inl (.inl false))) else some (.inl (.inl false))) else some (.inr ()))
def ab_l3 (n:Nat) (d0:Td) (b0:(List Int) × Int) (p0:Td) (j0:Td) (k0:List Int) (a3:Tm) (a4:To) (a5:Ta) (g0:Nat -> Option (Bool ⊕ Unit)):Nat -> Option (Bool ⊕ Unit)
  | c0=>(if c0 < 5 then (([(⟨d0,b0.1⟩:T48),(⟨p0,b0.1⟩:T48),(⟨j0,b0.1⟩:T48),(⟨d0,k0⟩:T48),(⟨(⟨(0:Int),(0:Int),(0:Int),([]:List Tb)⟩:Td),([]:List Int)⟩:T48)]:List T48)[c0]?).bind fun q0=>thn (am (ab_l2 n a3 q0 b0 a4 a5) n 0) (fun _=>g0 (c0 + 1)) else some (.inr ()))
def ab_p (n:Nat) (a0:Tk) (a1:Ti) (a2:Tm) (a3:Tm) (a4:To) (a5:Ta):Option Bool:=
  (cS_p n).bind fun j0=>(if j0 = true then (aj_p n a0).bind fun b0=>(bO_p n a1 ((b0.1.length:Nat):Int)).bind fun c0=>(ac_p n a1 ((b0.1.length:Nat):Int)).bind fun k0=>(cm_p n a3 c0).bind fun d0=>(cn_p n a2 b0.1).bind fun g0=>thn (am (ab_l3 n c0 b0 k0 d0 g0 a3 a4 a5) n 0) (fun _=>some true) else some false)
theorem ab_c (n:Nat) {L w} (hL:hl L w) (a0:Tk) {v0_1:Value} (h0_1:Rep.R w L [v0_1] a0.fG) {v0_2:Value} (h0_2:Rep.R w L [v0_2] a0.fMore) {v0_3:Value} (h0_3:Rep.R w L [v0_3] a0.fLabels) (a1:Ti) {v1_4:Value} (h1_4:Rep.R w L [v1_4] a1.fNums) (a2:Tm) (a3:Tm) (a4:To) (a5:Ta)  {r:Bool} (h:ab_p n a0 a1 a2 a3 a4 a5 = some r) :
 Cl 3 #[.agg #[.int .u8 (a0.fN.toNat:Int),v0_1,v0_2,v0_3,.int .u8 (a0.fK.toNat:Int)],.agg #[.int .u8 (a1.fj.toNat:Int),.int .u8 (a1.fh.toNat:Int),.int .u8 (a1.fl.toNat:Int),.int .u8 (a1.fv.toNat:Int),v1_4],.agg #[.int .u8 (a2.fO.toNat:Int),.int .u8 (a2.fAt.toNat:Int),vI a2.fN],.agg #[.int .u8 (a3.fO.toNat:Int),.int .u8 (a3.fAt.toNat:Int),vI a3.fN],.agg #[.int .i16 a4.fN.toInt,.int .u8 (a4.fD.toNat:Int)],.agg ((ab a5)).toArray] w (ah w fun _ u=>u = .bool r):=by
 unfold ab_p at h
 refine AG func3 rfl rfl rfl fun _ cs0 hb0=>Ac<|RG.bx (Az w) rfl rfl fun A7 Z5 x3 H6=>RG.bx x3 rfl rfl fun C7 b6 y3 I6=>RG.bx y3 rfl rfl fun D7 c6 z3 J6=>RG.bx z3 rfl rfl fun E7 M0 A3 K6=>RG.bx A3 rfl rfl fun F7 P0 B3 M6=>RG.bx B3 rfl rfl fun G7 Q0 B0 P6=>Af rfl<|Aa<|Ai<|Ac<|bk h fun v5 V4 h=>Bi (.bool v5) (bd 6) rfl aj (fun p q=>cS_c n (B0.hL0 hL q)  V4) rfl<|Ab (Bp rfl)<|Aa<|BW rfl h (fun W2 h=>?_) (fun W2 h=>?_)
 refine Ar<|Ac<|Ab (AF rfl (B0.memA .t5))<|bk h fun v0 W4 h=>jE (bd 7) rfl (e1 rfl) (fun p q=>aj_c n (B0.hL hL q) a0 (B0.km h0_1 q) (B0.km h0_2 q) (B0.km h0_3 q) W4) rfl fun H7 q7 R3 ⟨k0,hu_,I0⟩=>?_
 subst hu_
 obtain ⟨R0,Q6⟩:=B0.agr R3
 refine Ae rfl<|Ab (Ah rfl rfl)<|Ab (Ah rfl rfl)<|Af rfl<|Af rfl<|Aa<|Ac<|Ab (AF rfl (R0.memA .t4))<|Ae rfl ?_
 have V6:v0.1.length <= 281474976710656:=Ba I0
 refine Ab (Bg (xs:=v0.1) underlying41 rfl I0)<|bk h fun c0 X4 h=>jE (bd 8) rfl (e2 rfl rfl) (fun p q=>dj (b0:=w.heap.size) (bO_c n (R0.hL hL q) a1 (R0.km h1_4 q) X4) q (Nat.le_trans R0.ag.size q.size)) rfl fun I7 s7 R6 ⟨s0,p3,A4,R2,Y3⟩=>?_
 subst A4
 have v2:=eM R0 R2
 have B2:=iS R0 R2
 have Z3:=AE (cs:=p3) (xs:=(c0.fu:List Tb)) v2 L (dF Y3)
 refine RG.nl [vI 0,vI 0,vI 0,vN] v2 fun M7 d6 x2 M1=>AQ [vI c0.fj,vI c0.fh,vI c0.fl,s0] x2 .hd (o4 rfl rfl rfl (St.o1 (α:=Tb) x2 .t1)) fun P7 u0 P1=>Aa<|Ai<|Ai<|du 22 fun p0 q0=>Rx 0 1048580 p0 rfl q0 (AF rfl (u0.memA .hd))<|Rv 1 p0 rfl q0 (fun _=>Ak rfl) ?_
 obtain ⟨Q5,B6,g4⟩:=St.rowV (α:=Tb) u0 .t1
 have b2:=Tt B2 (Tt M1 P1)
 have J2:=Am I0 b2
 obtain ⟨R5,C6,P4,_⟩:=BQ J2
 refine Rv 2 p0 rfl q0 (fun _=>AO (vs:=[.agg #[vI c0.fj,vI c0.fh,vI c0.fl,s0],k0]) (u:=.agg #[vI c0.fj,vI c0.fh,vI c0.fl,s0,k0]) (e2 rfl rfl) (fun p=>by rw [g4,P4]; try kernel_rfl))<|Rx 3 1452352 p0 rfl q0 (AF rfl (u0.memA .t6))<|Rv 4 p0 rfl q0 (fun _=>Ak rfl)<|Rx 5 1452352 p0 rfl q0 (Bg (xs:=v0.1) underlying41 rfl J2)<|Rv 7 p0 rfl q0 (fun _=>Ak rfl)<|Rx 9 1452032 p0 rfl q0 (AF rfl (u0.memA .t4))<|Rx 10 1452032 p0 rfl q0 (AF rfl (u0.memA .hd))<|Rv 12 p0 rfl q0 (fun _=>Ak rfl)<|Rx 14 1310720 p0 rfl q0 (AF rfl (u0.memA .hd))<|Rx 15 1441792 p0 rfl q0 (AF rfl (u0.memA .t5))<|Rv 16 p0 rfl q0 (fun _=>Ak rfl)<|Rv 19 p0 rfl q0 (fun _=>AO (vs:=[]) (u:=.agg #[vI 0,vI 0,vI 0,vN,vN]) aj (fun p=>by kernel_rfl))<|Rv 21 p0 rfl q0 (fun _=>Ak rfl)<|bk h fun g0 j5 h=>Bl 6 2742015 p0 rfl .plain (bd 9) rfl (e2 rfl rfl) (fun p q=>dj (b0:=w.heap.size) (ac_c n (u0.hL hL q) a1 (u0.km h1_4 q) j5) q (Nat.le_trans u0.ag.size q.size)) rfl fun Y7 v7 U6 ⟨A0,q3,B4,U2,b4⟩=>?_
 subst B4
 have k1:=eM u0 U2
 have G1:=iS u0 U2
 have c4:=AE (cs:=q3) (xs:=(g0.fu:List Tb)) k1 L (dF b4)
 obtain ⟨U5,D6,j4⟩:=St.rowV (α:=Tb) k1 .hd
 obtain ⟨V5,E6,C4,_⟩:=BQ (Am I0 (Tt b2 G1))
 refine Rv 8 p0 rfl q0 (fun _=>AO (vs:=[.agg #[vI g0.fj,vI g0.fh,vI g0.fl,A0],k0]) (u:=.agg #[vI g0.fj,vI g0.fh,vI g0.fl,A0,k0]) (e2 rfl rfl) (fun p=>by rw [j4,C4]; try kernel_rfl)) ?_
 have I1:=Br k1 .t2
 have J1:=Bs k1 .t2
 have c2:=Bu (α:=Tb) (v:=s0) (xs:=c0.fu) I1 L (Bf (α:=Tb) k1 .t2 (AD Z3 (Tt M1 (Tt P1 G1))) hL)
 refine bk h fun j0 R4 h=>Bl 11 2744319 p0 rfl .plain (bd 10) rfl (e2 rfl rfl) (fun p q=>cm_c n (I1.hL hL q) a3 c0 (Aq c2 q) R4) rfl fun z7 p7 P3 ⟨D0,hu_,g2⟩=>?_
 subst hu_
 obtain ⟨q2,y1⟩:=I1.agr P3
 obtain ⟨E5,p6,D4,_⟩:=BQ g2
 have K2:=Tt b2 (Tt G1 (Tt J1 y1))
 have G2:=Am I0 K2
 obtain ⟨F5,q6,E4,_⟩:=BQ G2
 refine Rv 13 p0 rfl q0 (fun _=>AO (vs:=[.agg #[vI j0.fj,vI j0.fh,vI j0.fl,D0],k0]) (u:=.agg #[vI j0.fj,vI j0.fh,vI j0.fl,D0,k0]) (e2 rfl rfl) (fun p=>by rw [D4,E4]; try kernel_rfl))<|bk h fun V2 U4 h=>Bl 17 2883583 p0 rfl .plain (bd 11) rfl (e2 rfl rfl) (fun p q=>cn_c n (q2.hL hL q) a2 (Aq G2 q) U4) rfl fun B7 E0 Q3 ⟨Z6,hu_,j2⟩=>?_
 subst hu_
 obtain ⟨u1,X0⟩:=q2.agr Q3
 have H2:=Am c2 (Tt y1 X0)
 obtain ⟨G5,s6,F4,_⟩:=BQ H2
 obtain ⟨H5,u6,G4,_⟩:=BQ j2
 refine Rv 18 p0 rfl q0 (fun _=>AO (vs:=[.agg #[vI c0.fj,vI c0.fh,vI c0.fl,s0],E0]) (u:=.agg #[vI c0.fj,vI c0.fh,vI c0.fl,s0,E0]) (e2 rfl rfl) (fun p=>by rw [F4,G4]; try kernel_rfl)) ?_
 obtain ⟨I5,v6,H4,_⟩:=BQ H2
 obtain ⟨J5,x6,I4,_⟩:=BQ (Am I0 (Tt K2 X0))
 obtain ⟨K5,y6,d4⟩:=St.rowV (α:=Tb) u1 .hd
 obtain ⟨M5,z6,J4,_⟩:=BQ (Am g2 X0)
 obtain ⟨P5,A6,K4,_⟩:=BQ j2
 refine Rv 20 p0 rfl q0 (fun _=>AO (vs:=[.agg #[vI c0.fj,vI c0.fh,vI c0.fl,s0,k0],.agg #[vI g0.fj,vI g0.fh,vI g0.fl,A0,k0],.agg #[vI j0.fj,vI j0.fh,vI j0.fl,D0,k0],.agg #[vI c0.fj,vI c0.fh,vI c0.fl,s0,E0],.agg #[vI 0,vI 0,vI 0,vN,vN]]) (u:=.agg #[vI c0.fj,vI c0.fh,vI c0.fl,s0,k0,vI g0.fj,vI g0.fh,vI g0.fl,A0,k0,vI j0.fj,vI j0.fh,vI j0.fl,D0,k0,vI c0.fj,vI c0.fh,vI c0.fl,s0,E0,vI 0,vI 0,vI 0,vN,vN]) (e5 rfl rfl rfl rfl rfl) (fun p=>by rw [H4,I4,d4,J4,K4]; try kernel_rfl))<|AM (dk p0)<|AA ?_
 have s2:=Br u1 .hd
 have z2:=Bs u1 .hd
 obtain ⟨C3,K1⟩:=AI s2 (.a1 (.a1 (.a1 .done)))
 refine tn h fun W6 k4 G0=>MX.lo (α:=Nat) (fun x0=>[(9,vP M0),(10,vP P0),(11,vP Q0),(14,vI v0.2),(66,vI ((x0:Nat):Int)),(65,.agg #[vI c0.fj,vI c0.fh,vI c0.fl,s0,k0,vI g0.fj,vI g0.fh,vI g0.fl,A0,k0,vI j0.fj,vI j0.fh,vI j0.fl,D0,k0,vI c0.fj,vI c0.fh,vI c0.fl,s0,E0,vI 0,vI 0,vI 0,vN,vN])]) (fun x0=>[.cells Q0 (ab a5) 38,.cells P0 [.int .i16 a4.fN.toInt,.int .u8 (a4.fD.toNat:Int)] 33,.cells M0 [.int .u8 (a3.fO.toNat:Int),.int .u8 (a3.fAt.toNat:Int),vI a3.fN] 30]) (fun x0=>x0) 0 k4 C3 ?_
 rintro W5 x0 g8 s3 v1 z1 h
 unfold ab_l3 at h
 try dsimp only at h
 refine Ac<|Ab (Bq (i:=x0) (j:=5) rfl rfl)<|Aa<|Ai<|AT rfl h (fun X2 h=>?_) (fun X2 h=>?_)
 refine Ar<|Ai<|AA<|Ac<|bk h fun d0 s5 h=>?_
 have M2:=Tt y1 (Tt X0 (Tt z2 (Tt K1 z1)))
 have I2:=Am c2 M2
 have P2:=Tt z2 (Tt K1 z1)
 have X1:=Am I0 (Tt B2 (Tt M1 (Tt P1 (Tt G1 (Tt J1 M2)))))
 refine RG.valE .plain rfl (FV.idxR (css:=[[vI c0.fj,vI c0.fh,vI c0.fl,s0,k0],[vI g0.fj,vI g0.fh,vI g0.fl,A0,k0],[vI j0.fj,vI j0.fh,vI j0.fl,D0,k0],[vI c0.fj,vI c0.fh,vI c0.fl,s0,E0],[vI 0,vI 0,vI 0,vN,vN]]) (xs:=([(⟨c0,v0.1⟩:T48),(⟨g0,v0.1⟩:T48),(⟨j0,v0.1⟩:T48),(⟨c0,V2⟩:T48),(⟨(⟨(0:Int),(0:Int),(0:Int),([]:List Tb)⟩:Td),([]:List Int)⟩:T48)]:List T48)) (len:=5) rfl rfl rfl rfl rfl rfl rfl (.cons (gY c0 I2 v0.1 X1) (.cons (gY g0 (Am (Bu (α:=Tb) (v:=A0) (xs:=g0.fu) s2 L (Bf (α:=Tb) u1 .hd (AD c4 (Tt J1 (Tt y1 X0))) hL)) (Tt K1 z1)) v0.1 X1) (.cons (gY j0 (Am g2 (Tt X0 P2)) v0.1 X1) (.cons (gY c0 I2 V2 (Am j2 P2)) (.cons (gY (⟨(0:Int),(0:Int),(0:Int),([]:List Tb)⟩:Td) (BS (α:=Tb) v1 L) ([]:List Int) (BS (α:=Int) v1 L)) .nil))))) s5) fun b7 ⟨F6,M4,s4⟩=>?_
 subst M4
 obtain ⟨z0,k2,rfl,J0,K0⟩:=op_T48 s4
 refine RG.nl [vI 0,vI 0,vI 0,vN,vN] v1 fun J7 s1 D3 A1=>AQ [vI d0.fr.fj,vI d0.fr.fh,vI d0.fr.fl,z0,k2] D3 .hd (o5 rfl rfl rfl (AP (Am J0 A1)) (AP (Am K0 A1))) fun K7 u2 A2=>Aa<|Ac<|AX 2 rfl<|AR rfl ((u2.memA .t3) 2 _ rfl)<|Ab (AO (vs:=[vI 0,vI 1,vI a3.fN]) (u:=.agg #[vI 0,vI 1,vI a3.fN]) (e3 rfl rfl rfl) (fun p=>by kernel_rfl))<|Ae rfl<|Aa<|AA<|tn h fun X6 p4 H0=>MX.lo (α:=Nat) (fun y0=>[(9,vP M0),(10,vP P0),(11,vP Q0),(14,vI v0.2),(66,vI ((x0:Nat):Int)),(65,.agg #[vI c0.fj,vI c0.fh,vI c0.fl,s0,k0,vI g0.fj,vI g0.fh,vI g0.fl,A0,k0,vI j0.fj,vI j0.fh,vI j0.fl,D0,k0,vI c0.fj,vI c0.fh,vI c0.fl,s0,E0,vI 0,vI 0,vI 0,vN,vN]),(17,vP s1),(71,.agg #[vI 0,vI 1,vI a3.fN]),(72,vI ((y0:Nat):Int))]) (fun y0=>[.cells s1 [vI d0.fr.fj,vI d0.fr.fh,vI d0.fr.fl,z0,k2] 48,.cells Q0 (ab a5) 38,.cells P0 [.int .i16 a4.fN.toInt,.int .u8 (a4.fD.toNat:Int)] 33,.cells M0 [.int .u8 (a3.fO.toNat:Int),.int .u8 (a3.fAt.toNat:Int),vI a3.fN] 30]) (fun y0=>y0) 0 p4 u2 ?_
 rintro X5 y0 j8 u3 c1 Q1 h
 unfold ab_l2 at h
 try dsimp only at h
 refine Ac<|Ab (Bq (i:=y0) (j:=3) rfl rfl)<|Aa<|Ai<|AT rfl h (fun Y2 h=>?_) (fun Y2 h=>?_)
 refine Ar<|Ai<|AA<|Ac<|bk h fun D5 Q2 h=>Ab (FV.idx1 (cs:=([(0:Int),(1:Int),a3.fN]:List Int).map (fun z9:Int=>(vI z9:Value))) (k:=y0) (m:=1) (len:=3) rfl rfl rfl rfl rfl (bb Q2 rfl) (dY (fun z9:Int=>(vI z9:Value)) Q2))<|Af rfl<|Aa<|Ac<|AX 0 rfl<|Ab (AW (cs:=[vI d0.fr.fj,vI d0.fr.fh,vI d0.fr.fl,z0]) rfl rfl (ae (c1.memA .hd) 0 4))<|AX 4 rfl<|AR rfl ((c1.memA .hd) 4 _ rfl)<|Ae rfl<|Ae rfl<|bk h fun x5 Y4 h=>?_
 have p1:=Tt A1 (Tt A2 Q1)
 refine jE (bd 12) rfl (e4 rfl rfl rfl rfl) (fun p q=>bT_c n (c1.hL hL q) d0.fr (Aq (Am J0 p1) q) (Aq (Am K0 p1) q) Y4) rfl fun Q7 t7 U3 ⟨c7,hu_,u4⟩=>?_
 subst hu_
 obtain ⟨x1,B1⟩:=c1.agr U3
 refine Ae rfl<|Ab (Ah rfl rfl)<|Ab (Ah rfl rfl)<|Af rfl<|Af rfl<|Aa<|Ac<|AX 0 rfl<|Ab (AW (cs:=[vI d0.fr.fj,vI d0.fr.fh,vI d0.fr.fl,z0]) rfl rfl (ae (x1.memA .hd) 0 4))<|AX 4 rfl<|AR rfl ((x1.memA .hd) 4 _ rfl)<|Ae rfl<|Ae rfl<|bk h fun y5 Z4 h=>jE (bd 13) rfl (e4 rfl rfl rfl rfl) (fun p q=>aA_c n (x1.hL hL q) d0.fr (Aq (Am J0 (Tt p1 B1)) q) (Aq (Am K0 (Tt p1 B1)) q) Z4) rfl fun R7 u7 V3 ⟨d7,hu_,v4⟩=>?_
 subst hu_
 obtain ⟨U0,R1⟩:=x1.agr V3
 refine Ae rfl<|Ab (Ah rfl rfl)<|Ab (Ah rfl rfl)<|Af rfl<|Af rfl<|Aa<|Ac<|AX 0 rfl<|Ab (AW (cs:=[vI d0.fr.fj,vI d0.fr.fh,vI d0.fr.fl,z0]) rfl rfl (ae (U0.memA .hd) 0 4))<|AX 4 rfl<|AR rfl ((U0.memA .hd) 4 _ rfl)<|Ae rfl<|Ae rfl<|bk h fun Z0 b5 h=>?_
 have Y1:=Tt p1 (Tt B1 R1)
 refine Bi (.tuple #[.agg ((ab Z0.1)).toArray,vI Z0.2]) (bd 14) rfl (e4 rfl rfl rfl rfl) (fun p q=>ce_c n (U0.hL0 hL q) d0.fr (U0.kd (Am J0 Y1) q) (U0.kd (Am K0 Y1) q) b5) rfl<|Ae rfl<|Ab (Ah rfl rfl)<|Ab (Ah rfl rfl)<|RG.nl zL U0 fun U7 g6 E3 C1=>AQ (ab Z0.1) E3 .hd (ai rfl) fun V7 V0 D1=>Af rfl<|Aa<|Ac<|AX 0 rfl<|Ab (AW (cs:=[vI d0.fr.fj,vI d0.fr.fh,vI d0.fr.fl,z0]) rfl rfl (ae (V0.memA .t1) 0 4))<|AX 4 rfl<|AR rfl ((V0.memA .t1) 4 _ rfl)<|Ae rfl<|Ae rfl<|bk h fun b1 c5 h=>?_
 have Z1:=Tt Y1 (Tt C1 D1)
 refine Bi (.tuple #[.agg ((ab b1.1)).toArray,vI b1.2]) (bd 15) rfl (e4 rfl rfl rfl rfl) (fun p q=>au_c n (V0.hL0 hL q) d0.fr (V0.kd (Am J0 Z1) q) (V0.kd (Am K0 Z1) q) c5) rfl<|Ae rfl<|Ab (Ah rfl rfl)<|Ab (Ah rfl rfl)<|RG.nl zL V0 fun W7 j6 F3 E1=>AQ (ab b1.1) F3 .hd (ai rfl) fun X7 t0 F1=>Af rfl<|Aa<|Ai<|Ac<|Ae rfl<|Ae rfl<|bk h fun z5 d5 h=>Bi (.bool z5) (bd 16) rfl (e2 rfl rfl) (fun p q=>ai_c n (t0.hL0 hL q) (t0.kd (Am u4 (Tt R1 (Tt C1 (Tt D1 (Tt E1 F1))))) q) (t0.kd (Am v4 (Tt C1 (Tt D1 (Tt E1 F1)))) q) d5) rfl<|Ab (Bp rfl)<|Ae rfl<|RG.ifnb (s:=119) rfl h (fun Z2 h=>?_) (fun Z2 h=>?_)
 refine AH (Ak rfl)<|AH (Ak rfl)<|AH (FV.neq (i:=x5.2) (j:=y5.2) rfl rfl)<|Bv rfl rfl<|Ae rfl<|RG.ifn (s:=124) rfl h (fun b3 h=>?_) (fun b3 h=>?_)
 refine AH (AF rfl (t0.memA .t1))<|AH (AF rfl (t0.memA .hd))<|AH (FV.neqV (xs:=((ab Z0.1)).toArray) (ys:=((ab b1.1)).toArray) rfl rfl (by kernel_rfl) (cG Z0.1 b1.1))<|Bv rfl rfl<|Ae rfl<|RG.ifn (s:=129) rfl h (fun c3 h=>?_) (fun c3 h=>?_)
 refine AH (Ak rfl)<|AH (Ak rfl)<|AH (FV.neq (i:=Z0.2) (j:=b1.2) rfl rfl)<|Bv rfl rfl<|Aa<|MX.ifn rfl h (fun d3 h=>?_) (fun d3 h=>?_)
 refine Ar<|Ai<|du 5 fun Y0 q1=>Rx 0 10 Y0 rfl q1 (AF rfl (t0.memA .t4))<|bk h fun F0 g5 h=>BG 1 3 8 (.agg ((ab F0)).toArray) Y0 rfl q1 (bd 17) rfl (e1 rfl) (fun p q=>bW_c n (t0.hL0 hL q) a4 g5) rfl<|Rx 2 8 Y0 rfl q1 (AF rfl (t0.memA .t3))<|Rv 3 Y0 rfl q1 (fun _=>AO (vs:=[.agg ((ab F0)).toArray,.agg ((ab a5)).toArray]) (u:=.agg ((ab F0 ++ ab a5)).toArray) (e2 rfl rfl) (fun p=>by kernel_rfl))<|Rv 4 Y0 rfl q1 (fun _=>Ak rfl)<|AM (dk Y0)<|AA ?_
 obtain ⟨G3,C2⟩:=AI t0 .d2
 refine tn h fun Y6 q4 W1=>MX.lo (α:=Nat) (fun C0=>[(9,vP M0),(10,vP P0),(11,vP Q0),(14,vI v0.2),(66,vI ((x0:Nat):Int)),(65,.agg #[vI c0.fj,vI c0.fh,vI c0.fl,s0,k0,vI g0.fj,vI g0.fh,vI g0.fl,A0,k0,vI j0.fj,vI j0.fh,vI j0.fl,D0,k0,vI c0.fj,vI c0.fh,vI c0.fl,s0,E0,vI 0,vI 0,vI 0,vN,vN]),(17,vP s1),(71,.agg #[vI 0,vI 1,vI a3.fN]),(72,vI ((y0:Nat):Int)),(19,vI D5),(137,.agg ((ab F0 ++ ab a5)).toArray),(138,vI ((C0:Nat):Int))]) (fun C0=>[.cells s1 [vI d0.fr.fj,vI d0.fr.fh,vI d0.fr.fl,z0,k2] 48,.cells Q0 (ab a5) 38,.cells P0 [.int .i16 a4.fN.toInt,.int .u8 (a4.fD.toNat:Int)] 33,.cells M0 [.int .u8 (a3.fO.toNat:Int),.int .u8 (a3.fAt.toNat:Int),vI a3.fN] 30]) (fun C0=>C0) 0 q4 G3 ?_
 rintro Y5 C0 k8 v3 y2 U1 h
 unfold ab_l1 at h
 try dsimp only at h
 refine Ac<|Ab (Bq (i:=C0) (j:=2) rfl rfl)<|Aa<|Ai<|AT rfl h (fun g3 h=>?_) (fun g3 h=>?_)
 refine Ar<|Ai<|AA<|Ac<|bk h fun p2 u5 h=>RG.valE .plain rfl (FV.idxR (L:=[]) (css:=[(ab F0),(ab a5)]) (xs:=([F0,a5]:List Ta)) (len:=2) rfl rfl rfl rfl rfl rfl rfl (.cons (br F0.fN F0.fD) (.cons (br a5.fN a5.fD) .nil)) u5) fun g7 ⟨G6,Q4,x4⟩=>?_
 subst Q4
 obtain rfl:=gO x4
 refine RG.nl zL y2 fun Z7 k6 H3 D2=>AQ (ab p2) H3 .hd (ai rfl) fun b8 g1 E2=>Aa<|Ac<|AX 0 rfl<|Ab (AW (cs:=[vI d0.fr.fj,vI d0.fr.fh,vI d0.fr.fl,z0]) rfl rfl (ae (g1.memA .t1) 0 4))<|AX 4 rfl<|AR rfl ((g1.memA .t1) 4 _ rfl)<|Ae rfl<|Ae rfl<|Ab (AF rfl (g1.memA .hd))<|bk h fun A5 k5 h=>?_
 have H1:=Tt Z1 (Tt E1 (Tt F1 (Tt C2 (Tt U1 (Tt D2 E2)))))
 refine jE (bd 18) rfl (e5 rfl rfl rfl rfl rfl) (fun p q=>bN_c n (g1.hL hL q) d0.fr (Aq (Am J0 H1) q) (Aq (Am K0 H1) q) p2 k5) rfl fun c8 x7 W3 ⟨j7,hu_,y4⟩=>?_
 subst hu_
 obtain ⟨j1,V1⟩:=g1.agr W3
 refine Ae rfl<|Ab (Ah rfl rfl)<|Ab (Ah rfl rfl)<|Af rfl<|Af rfl<|Aa<|Ac<|AX 0 rfl<|Ab (AW (cs:=[vI d0.fr.fj,vI d0.fr.fh,vI d0.fr.fl,z0]) rfl rfl (ae (j1.memA .t1) 0 4))<|AX 4 rfl<|AR rfl ((j1.memA .t1) 4 _ rfl)<|Ae rfl<|Ae rfl<|Ab (AF rfl (j1.memA .hd))<|bk h fun B5 p5 h=>jE (bd 19) rfl (e5 rfl rfl rfl rfl rfl) (fun p q=>aH_c n (j1.hL hL q) d0.fr (Aq (Am J0 (Tt H1 V1)) q) (Aq (Am K0 (Tt H1 V1)) q) p2 p5) rfl fun d8 y7 X3 ⟨k7,hu_,z4⟩=>?_
 subst hu_
 obtain ⟨W0,F2⟩:=j1.agr X3
 refine Ae rfl<|Ab (Ah rfl rfl)<|Ab (Ah rfl rfl)<|Af rfl<|Af rfl<|Aa<|Ac<|Ae rfl<|Ae rfl<|bk h fun C5 q5 h=>Bi (.bool C5) (bd 20) rfl (e2 rfl rfl) (fun p q=>aS_c n (W0.hL0 hL q) (W0.kd (Am y4 F2) q) (W0.kd z4 q) q5) rfl<|Ab (Bp rfl)<|Ae rfl<|RG.ifnb (s:=167) rfl h (fun j3 h=>?_) (fun j3 h=>?_)
 refine AH (Ak rfl)<|AH (Ak rfl)<|AH (FV.neq (i:=A5.2) (j:=B5.2) rfl rfl)<|Bv rfl rfl<|Aa<|MX.ifn rfl h (fun k3 h=>?_) (fun k3 h=>?_)
 refine Ar<|AC<|Ao<|Ab (Bn (i:=C0) (j:=1) rfl rfl (by omega))<|Ae rfl<|Aa ?_
 obtain ⟨I3,K3⟩:=AI W0 .d1
 exact v3 (C0 + 1) I3 (Tt U1 (Tt D2 (Tt E2 (Tt V1 (Tt F2 K3))))) h
 refine Ac<|Af rfl<|Aa ?_
 have h:=au h W1
 have h:=au h H0
 have h:=au h G0
 refine Al rfl<|AY hb0 func3 rfl rfl ?_
 cases h
 exact W0.gv
 refine Au<|Au<|Au<|Bm rfl rfl<|Aa<|Bb rfl<|Ac<|Af rfl<|Aa ?_
 have h:=au h W1
 have h:=au h H0
 have h:=au h G0
 refine Al rfl<|AY hb0 func3 rfl rfl ?_
 cases h
 exact W0.gv
 refine Be rfl ?_
 have h:=aF h W1
 try dsimp only at h
 refine AC<|Ao<|Ab (Bn (i:=y0) (j:=1) rfl rfl (by omega))<|Ae rfl<|Aa<|u3 (y0 + 1) y2 (Tt Q1 (Tt B1 (Tt R1 (Tt C1 (Tt D1 (Tt E1 (Tt F1 (Tt C2 U1)))))))) h
 refine Ac<|Af rfl<|Aa ?_
 have h:=au h H0
 have h:=au h G0
 refine Al rfl<|AY hb0 func3 rfl rfl ?_
 cases h
 exact t0.gv
 refine Au<|Au<|Au<|Bm rfl rfl<|Aa<|Bb rfl<|Ac<|Af rfl<|Aa ?_
 have h:=au h H0
 have h:=au h G0
 refine Al rfl<|AY hb0 func3 rfl rfl ?_
 cases h
 exact t0.gv
 refine Au<|Au<|Au<|Bm rfl rfl<|Ae rfl<|Au<|Au<|Au<|Bm rfl rfl<|Aa<|Bb rfl<|Ac<|Af rfl<|Aa ?_
 have h:=au h H0
 have h:=au h G0
 refine Al rfl<|AY hb0 func3 rfl rfl ?_
 cases h
 exact t0.gv
 refine Au<|Au<|Au<|Bm rfl rfl<|Ae rfl<|Au<|Au<|Au<|Bm rfl rfl<|Ae rfl<|Au<|Au<|Au<|Bm rfl rfl<|Aa<|Bb rfl<|Ac<|Af rfl<|Aa ?_
 have h:=au h H0
 have h:=au h G0
 refine Al rfl<|AY hb0 func3 rfl rfl ?_
 cases h
 exact t0.gv
 refine Be rfl ?_
 have h:=aF h H0
 try dsimp only at h
 refine AC<|Ao<|Ab (Bn (i:=x0) (j:=1) rfl rfl (by omega))<|Ae rfl<|Aa ?_
 obtain ⟨J3,M3⟩:=AI c1 .d1
 exact s3 (x0 + 1) J3 (Tt z1 (Tt A1 (Tt A2 (Tt Q1 M3)))) h
 refine Be rfl ?_
 have h:=aF h G0
 try dsimp only at h
 refine Ac<|Af rfl<|Aa<|Al rfl<|AY hb0 func3 rfl rfl ?_
 cases h
 exact v1.gv
 refine Ac<|Af rfl<|Aa<|Al rfl<|AY hb0 func3 rfl rfl ?_
 cases h
 exact B0.gv
end Go.Proofs.YtdolpanbfpjnmaaGreatDoor
