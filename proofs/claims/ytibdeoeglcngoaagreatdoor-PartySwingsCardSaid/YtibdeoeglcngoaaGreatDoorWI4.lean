import Derived.Test.YtibdeoeglcngoaaGreatDoorWI2
namespace Go.Proofs.YtibdeoeglcngoaaGreatDoor
open Go Go.RowKit Tryz
set_option maxRecDepth 4000
set_option maxHeartbeats 4000000

def bh_p (n:Nat) (a0:Tg) (a1:Tg):Option (Tg × Tg):=
  (aw_p n a0.fo a1.fo).bind fun c0=>(al_p n (!(a0.fj == a1.fj)) c0.1).bind fun d0=>(al_p n a0.fj c0.2).bind fun b0=>(if b0.fj = true then (aW_p n b0 (⟨false,a1.fo⟩:Tg)).bind fun j0=>(aW_p n d0 (⟨(!a1.fj),([(1:UInt64)]:List UInt64)⟩:Tg)).bind fun g0=>some (g0,j0) else some (d0,b0))
theorem bh_c (n:Nat) {L w} (hL:hl L w) (a0:Tg) {v0_1:Value} (h0_1:Rep.R w L [v0_1] a0.fo) (a1:Tg) {v1_1:Value} (h1_1:Rep.R w L [v1_1] a1.fo)  {r:Tg × Tg} (h:bh_p n a0 a1 = some r) :
 Cl 183 #[.agg #[.bool a0.fj,v0_1],.agg #[.bool a1.fj,v1_1]] w (ak w fun w' u=>∃ v0_1 v1_1:Value,u = .tuple #[.agg #[.bool r.1.fj,v0_1],.agg #[.bool r.2.fj,v1_1]]/\Rep.R w' L [v0_1] r.1.fo/\Rep.R w' L [v1_1] r.2.fo):=by
 unfold bh_p at h
 refine AC func183 rfl rfl rfl fun _ cs0 hb0=>Ae<|RG.bx (Ax w) rfl rfl fun x3 R2 K1 X2=>RG.bx K1 rfl rfl fun B3 U2 R1 Y2=>RG.nl [.bool false,vN] R1 fun C3 J0 U1 Z2=>RG.nl [.bool false,vN] U1 fun E3 K0 p0 b3=>Aa<|Ae<|Bk 1 rfl<|AO rfl ((p0.memA .t3) 1 _ rfl)<|Bk 1 rfl<|AO rfl ((p0.memA .t2) 1 _ rfl)<|bk h fun W3 G2 h=>jE (bd 214) rfl (e2 rfl rfl) (fun w9 hw9=>aw_c n (p0.hL hL hw9) (p0.km h0_1 hw9) (p0.km h1_1 hw9) G2) rfl fun F3 k3 u2 ⟨d3,g3,hu_,C2,D2⟩=>?_
 subst hu_
 obtain ⟨D0,c3⟩:=p0.agr u2
 refine Af rfl<|Ac (Ai rfl rfl)<|Ac (Ai rfl rfl)<|Ag rfl<|Ag rfl<|Aa<|Ak<|du 11 fun b0 d0=>Rv 0 b0 rfl d0 (fun _=>Bo 0 rfl)<|Rx 1 7248 b0 rfl d0 (AZ rfl ((D0.memA .t3) 0 _ rfl))<|Rv 2 b0 rfl d0 (fun _=>Bo 0 rfl)<|Rx 3 7248 b0 rfl d0 (AZ rfl ((D0.memA .t2) 0 _ rfl))<|Rv 4 b0 rfl d0 (fun _=>FV.neqB (a:=a0.fj) (b:=a1.fj) underlying4 rfl rfl)<|Rv 5 b0 rfl d0 (fun _=>Aj rfl)<|Rv 7 b0 rfl d0 (fun _=>Bo 0 rfl)<|Rx 8 7168 b0 rfl d0 (AZ rfl ((D0.memA .t3) 0 _ rfl))<|Rv 9 b0 rfl d0 (fun _=>Aj rfl)<|bk h fun x0 H2 h=>BA 6 1023 b0 rfl .plain (bd 150) rfl (e2 rfl rfl) (fun w9 hw9=>al_c n (D0.hL hL hw9) (Av C2 hw9) H2) rfl fun G3 p3 v2 ⟨t0,hu_,G0⟩=>?_
 subst hu_
 obtain ⟨s1,p2⟩:=D0.agr v2
 refine bk h fun y0 I2 h=>BA 10 2047 b0 rfl .plain (bd 150) rfl (e2 rfl rfl) (fun w9 hw9=>al_c n (s1.hL hL hw9) (Av (Az D2 p2) hw9) I2) rfl fun H3 q3 x2 ⟨u0,hu_,X0⟩=>?_
 subst hu_
 obtain ⟨Y1,F0⟩:=s1.agr x2
 refine BB 11 4095 b0 rfl rfl .plain (AB (news:=[.bool x0.fj,t0]) Y1 .t1 rfl rfl rfl rfl rfl rfl (o2 rfl (Bd (Az G0 F0)))) fun I3 Z1 k0=>BB 12 8191 b0 rfl rfl .plain (AB (news:=[.bool y0.fj,u0]) Z1 .hd rfl rfl rfl rfl rfl rfl (o2 rfl (Bd (Az X0 k0)))) fun J3 c0 q0=>AH (dk b0)<|Ak<|Ae<|Bk 0 rfl<|AO rfl ((c0.memA .hd) 0 _ rfl)<|Aa<|MX.ifb rfl h (fun I1 h=>?_) (fun I1 h=>?_)
 refine Ae<|Bk 1 rfl<|AO rfl ((c0.memA .t2) 1 _ rfl) ?_
 obtain ⟨P2,W2,E2,_⟩:=Rep.sl (AQ h1_1 c0)
 refine Ac (AX (vs:=[v1_1]) (u:=.agg #[.bool false,v1_1]) (e1 rfl) (fun w9=>by rw [E2]; try kernel_rfl))<|RG.nl [.bool false,vN] c0 fun K3 V2 u1 C1=>AW [.bool false,v1_1] u1 .hd (o2 rfl (Bd (AQ h1_1 u1))) fun M3 E0 D1=>Aa<|Ae<|Ac (AD rfl (E0.memA .t1))<|Ac (AD rfl (E0.memA .hd))<|bk h fun I0 J2 h=>jE (bd 153) rfl (e2 rfl rfl) (fun w9 hw9=>aW_c n (E0.hL hL hw9) y0 (Av (Az X0 (Tt k0 (Tt q0 (Tt C1 D1)))) hw9) (⟨false,a1.fo⟩:Tg) (E0.km h1_1 hw9) J2) rfl fun P3 s3 y2 ⟨v0,hu_,j1⟩=>?_
 subst hu_
 obtain ⟨b2,q2⟩:=E0.agr y2
 refine AW [.bool I0.fj,v0] b2 .t1 (o2 rfl (Bd j1)) fun Q3 v1 d1=>Aa<|Ae<|Bk 0 rfl<|AO rfl ((v1.memA .t3) 0 _ rfl)<|Ac (BD rfl)<|Al .plain rfl (jA ((1:UInt64)) (vW 1) v1 ck (e1 rfl)) fun R3 M0 x1 g1=>Ac (AX (vs:=[.bool (!a1.fj),(vS M0 1)]) (u:=.agg #[.bool (!a1.fj),(vS M0 1)]) (e2 rfl rfl) (fun w9=>by kernel_rfl))<|RG.nl [.bool false,vN] x1 fun u3 Q2 q1 R0=>AW [.bool (!a1.fj),(vS M0 1)] q1 .hd (o2 rfl (St.o1 (α:=UInt64) q1 .t1)) fun v3 z0 U0=>Aa<|Ao<|Ac (AD rfl (z0.memA .t4))<|Ac (AD rfl (z0.memA .hd)) ?_
 have Y0:=St.delS z0 .t1
 have Z0:=St.delT z0 .t1
 refine bk h fun H0 F2 h=>jE (bd 153) rfl (e2 rfl rfl) (fun w9 hw9=>aW_c n (Y0.hL hL hw9) x0 (Av (Az G0 (Tt F0 (Tt k0 (Tt q0 (Tt C1 (Tt D1 (Tt q2 (Tt d1 (Tt g1 (Tt R0 (Tt U0 Z0))))))))))) hw9) (⟨(!a1.fj),([(1:UInt64)]:List UInt64)⟩:Tg) (Av (Rep.at_ (α:=UInt64) (v:=(vS M0 1)) (xs:=([(1:UInt64)]:List UInt64)) Y0 L (Bv (α:=UInt64) z0 .t1 (AL (jC ((1:UInt64)) (vW 1) x1 L rfl) (Tt R0 U0)) hL)) hw9) F2) rfl fun y3 j3 s2 ⟨s0,hu_,W0⟩=>?_
 subst hu_
 obtain ⟨J1,y1⟩:=Y0.agr s2
 refine AW [.bool H0.fj,s0] J1 .t3 (o2 rfl (Bd W0)) fun z3 A0 V0=>Aa<|Ak<|du 2 fun g0 G1=>Rx 0 12 g0 rfl G1 (AD rfl (A0.memA .t3))<|RD.mo (α:=Unit) (fun ()=>[(4,vP J0),(5,vP K0),(46,.agg #[.bool I0.fj,v0])]) (fun ()=>[.cells K0 [.bool I0.fj,v0] 129,.cells J0 [.bool H0.fj,s0] 129]) A0 1 7 ?_ ?_
 rintro ⟨⟩ U3 M1 z1
 try dsimp only
 refine BB 3 15 g0 rfl rfl .plain (AB (news:=[.bool I0.fj,v0]) M1 .hd rfl rfl rfl rfl rfl rfl (o2 rfl (Bd (Az j1 (Tt d1 (Tt g1 (Tt R0 (Tt U0 (Tt Z0 (Tt y1 (Tt V0 z1))))))))))) fun A3 B0 c2=>AH (dk g0)<|Am rfl<|Aq hb0 func183 rfl (.cons (.many (cs:=[.bool H0.fj,s0]) rfl rfl (B0.memA .t1)) (.cons (.many (cs:=[.bool I0.fj,v0]) rfl rfl (B0.memA .hd)) .nil)) rfl ?_
 cases h
 have E1:=Tt V0 (Tt z1 c2)
 exact ⟨B0.ag,fun w9 hw9=>⟨s0,v0,rfl,B0.kd (Az W0 E1) hw9,B0.kd (Az j1 (Tt d1 (Tt g1 (Tt R0 (Tt U0 (Tt Z0 (Tt y1 E1))))))) hw9⟩⟩
 intro k1
 refine RD.each [1,2] (rk g0) ⟨?_,?_,trivial⟩
 refine RO.val (m' :=3) (sk g0) rfl .plain rfl (AD rfl (A0.memA .t2)) ?_
 have A2:=Az W0 V0
 refine BB 2 7 g0 rfl rfl .plain (AB (news:=[.bool H0.fj,s0]) A0 .t3 rfl rfl rfl rfl rfl rfl (o2 rfl (Bd A2))) fun M2 Q0 c1=>?_
 obtain ⟨P1,d2⟩:=AN Q0 (.a2 (.a2 .done))
 exact k1 () P1 (Tt c1 d2)
 refine RO.now (m' :=5) (sk g0) rfl rfl .plain (AB (news:=[.bool H0.fj,s0]) A0 .t3 rfl rfl rfl rfl rfl rfl (o2 rfl (Bd (Az W0 V0)))) fun M2 Q0 c1=>Rx 1 8 g0 rfl G1 (AD rfl (Q0.memA .t2)) ?_
 obtain ⟨Q1,g2⟩:=AN Q0 (.a2 (.a2 .done))
 exact k1 () Q1 (Tt c1 g2)
 refine Ap<|Ak<|du 2 fun j0 H1=>Rx 0 12 j0 rfl H1 (AD rfl (c0.memA .t1))<|RD.mo (α:=Unit) (fun ()=>[(4,vP J0),(5,vP K0),(46,.agg #[.bool y0.fj,u0])]) (fun ()=>[.cells K0 [.bool y0.fj,u0] 129,.cells J0 [.bool x0.fj,t0] 129]) c0 1 7 ?_ ?_
 rintro ⟨⟩ V3 V1 A1
 try dsimp only
 have F1:=Tt k0 (Tt q0 A1)
 refine BB 3 15 j0 rfl rfl .plain (AB (news:=[.bool y0.fj,u0]) V1 .hd rfl rfl rfl rfl rfl rfl (o2 rfl (Bd (Az X0 F1)))) fun D3 C0 B1=>AH (dk j0)<|Am rfl<|Aq hb0 func183 rfl (.cons (.many (cs:=[.bool x0.fj,t0]) rfl rfl (C0.memA .t1)) (.cons (.many (cs:=[.bool y0.fj,u0]) rfl rfl (C0.memA .hd)) .nil)) rfl ?_
 cases h
 exact ⟨C0.ag,fun w9 hw9=>⟨t0,u0,rfl,C0.kd (Az G0 (Tt F0 (Tt k0 (Tt q0 (Tt A1 B1))))) hw9,C0.kd (Az X0 (Tt F1 B1)) hw9⟩⟩
 intro p1
 refine RD.each [1,2] (rk j0) ⟨?_,?_,trivial⟩
 refine RO.val (m' :=3) (sk j0) rfl .plain rfl (AD rfl (c0.memA .hd)) ?_
 have B2:=Tt F0 (Tt k0 q0)
 have z2:=Az G0 B2
 refine BB 2 7 j0 rfl rfl .plain (AB (news:=[.bool x0.fj,t0]) c0 .t1 rfl rfl rfl rfl rfl rfl (o2 rfl (Bd z2))) fun K2 P0 b1=>?_
 obtain ⟨W1,j2⟩:=AN P0 (.a0 (.a0 .done))
 exact p1 () W1 (Tt b1 j2)
 refine RO.now (m' :=5) (sk j0) rfl rfl .plain (AB (news:=[.bool x0.fj,t0]) c0 .t1 rfl rfl rfl rfl rfl rfl (o2 rfl (Bd (Az G0 (Tt F0 (Tt k0 q0)))))) fun K2 P0 b1=>Rx 1 8 j0 rfl H1 (AD rfl (P0.memA .hd)) ?_
 obtain ⟨X1,k2⟩:=AN P0 (.a0 (.a0 .done))
 exact p1 () X1 (Tt b1 k2)
def aM_p (n:Nat) (a0:Tg):Option Tg:=
  (al_p n (!a0.fj) a0.fo).bind fun b0=>some b0
theorem aM_c (n:Nat) {L w} (hL:hl L w) (a0:Tg) {v0_1:Value} (h0_1:Rep.R w L [v0_1] a0.fo)  {r:Tg} (h:aM_p n a0 = some r) :
 Cl 184 #[.agg #[.bool a0.fj,v0_1]] w (ak w fun w' u=>∃ v0_1:Value,u = .agg #[.bool r.fj,v0_1]/\Rep.R w' L [v0_1] r.fo):=by
 unfold aM_p at h
 refine AC func184 rfl rfl rfl fun _ cs0 hb0=>Ae<|RG.bx (Ax w) rfl rfl fun B0 u0 k0 x0=>RG.nl [.bool false,vN] k0 fun C0 v0 b0 y0=>Aa<|Ae<|Bk 0 rfl<|AO rfl ((b0.memA .t1) 0 _ rfl)<|Ac (BD rfl)<|Bk 1 rfl<|AO rfl ((b0.memA .t1) 1 _ rfl)<|bk h fun j0 t0 h=>jE (bd 150) rfl (e2 rfl rfl) (fun w9 hw9=>al_c n (b0.hL hL hw9) (b0.km h0_1 hw9) t0) rfl fun D0 A0 s0 ⟨d0,hu_,g0⟩=>?_
 subst hu_
 obtain ⟨p0,z0⟩:=b0.agr s0
 refine AW [.bool j0.fj,d0] p0 .hd (o2 rfl (Bd g0)) fun E0 c0 q0=>Aa<|Am rfl<|Aq hb0 func184 rfl (.cons (.many (cs:=[.bool j0.fj,d0]) rfl rfl (c0.memA .hd)) .nil) rfl ?_
 cases h
 exact ⟨c0.ag,fun w9 hw9=>⟨d0,rfl,c0.kd (Az g0 q0) hw9⟩⟩
structure Th where
  fv:Tg
  fp:Tg
  deriving DecidableEq
instance:Rep Th:=Rep.via (β:=Tg × Tg) fun x=>(x.fv,x.fp)
def br_p (n:Nat) (a0:Tg) (a1:Tg):Option Th:=
  (ar_p n a0 a1).bind fun c0=>(bh_p n a0 c0).bind fun d0=>(bh_p n a1 c0).bind fun b0=>(if b0.1.fj = true then (aM_p n d0.1).bind fun g0=>(aM_p n b0.1).bind fun j0=>some (⟨g0,j0⟩:Th) else some (⟨d0.1,b0.1⟩:Th))
theorem br_c (n:Nat) {L w} (hL:hl L w) (a0:Tg) {v0_1:Value} (h0_1:Rep.R w L [v0_1] a0.fo) (a1:Tg) {v1_1:Value} (h1_1:Rep.R w L [v1_1] a1.fo)  {r:Th} (h:br_p n a0 a1 = some r) :
 Cl 144 #[.agg #[.bool a0.fj,v0_1],.agg #[.bool a1.fj,v1_1]] w (ak w fun w' u=>∃ v0_1 v0_3:Value,u = .agg #[.bool r.fv.fj,v0_1,.bool r.fp.fj,v0_3]/\Rep.R w' L [v0_1] r.fv.fo/\Rep.R w' L [v0_3] r.fp.fo):=by
 unfold br_p at h
 refine AC func144 rfl rfl rfl fun _ cs0 hb0=>Ae<|RG.bx (Ax w) rfl rfl fun k3 D2 z1 U2=>RG.bx z1 rfl rfl fun x3 E2 C1 V2=>RG.nl [.bool false,vN,.bool false,vN] C1 fun y3 F2 j0 W2=>Aa<|Ae<|Ac (AD rfl (j0.memA .t2))<|Ac (AD rfl (j0.memA .t1))<|bk h fun X0 q2 h=>jE (bd 182) rfl (e2 rfl rfl) (fun w9 hw9=>ar_c n (j0.hL hL hw9) a0 (j0.km h0_1 hw9) a1 (j0.km h1_1 hw9) q2) rfl fun z3 b3 W1 ⟨v2,hu_,W0⟩=>?_
 subst hu_
 obtain ⟨D1,X2⟩:=j0.agr W1
 refine RG.nl [.bool false,vN] D1 fun A3 G2 E1 J0=>AW [.bool X0.fj,v2] E1 .hd (o2 rfl (Bd (Az W0 J0))) fun B3 t0 d1=>Aa<|Ae<|Ac (AD rfl (t0.memA .t3))<|Ac (AD rfl (t0.memA .hd))<|bk h fun d0 s2 h=>jE (bd 183) rfl (e2 rfl rfl) (fun w9 hw9=>bh_c n (t0.hL hL hw9) a0 (t0.km h0_1 hw9) X0 (Av (Az W0 (Tt J0 d1)) hw9) s2) rfl fun C3 c3 X1 ⟨q0,x2,hu_,F0,Z1⟩=>?_
 subst hu_
 obtain ⟨F1,R1⟩:=t0.agr X1
 refine Af rfl<|Ac (Ai rfl rfl)<|Ac (Ai rfl rfl)<|RG.nl [.bool false,vN] F1 fun D3 H2 G1 K0=>RG.nl [.bool false,vN] G1 fun E3 I2 H1 M0=>AW [.bool d0.1.fj,q0] H1 .t1 (o2 rfl (Bd (Az F0 (Tt K0 M0)))) fun F3 I1 g1=>?_
 have R0:=Tt K0 (Tt M0 g1)
 refine AW [.bool d0.2.fj,x2] I1 .hd (o2 rfl (Bd (Az Z1 R0))) fun G3 u0 P0=>Aa<|Ae<|Ac (AD rfl (u0.memA .t4))<|Ac (AD rfl (u0.memA .t2))<|bk h fun g0 u2 h=>jE (bd 183) rfl (e2 rfl rfl) (fun w9 hw9=>bh_c n (u0.hL hL hw9) a1 (u0.km h1_1 hw9) X0 (Av (Az W0 (Tt J0 (Tt d1 (Tt R1 (Tt K0 (Tt M0 (Tt g1 P0))))))) hw9) u2) rfl fun H3 d3 Y1 ⟨s0,y2,hu_,G0,b2⟩=>?_
 subst hu_
 obtain ⟨J1,j1⟩:=u0.agr Y1
 refine Af rfl<|Ac (Ai rfl rfl)<|Ac (Ai rfl rfl)<|RG.nl [.bool false,vN] J1 fun I3 J2 K1 C0=>RG.nl [.bool false,vN] K1 fun J3 K2 M1 D0=>AW [.bool g0.1.fj,s0] M1 .t1 (o2 rfl (Bd (Az G0 (Tt C0 D0)))) fun K3 P1 Q0=>?_
 have E0:=Tt C0 (Tt D0 Q0)
 refine AW [.bool g0.2.fj,y2] P1 .hd (o2 rfl (Bd (Az b2 E0))) fun g3 b0 v0=>Aa<|Ak<|Ae<|Bk 0 rfl<|AO rfl ((b0.memA .t1) 0 _ rfl)<|Aa<|MX.ifb rfl h (fun y1 h=>?_) (fun y1 h=>?_)
 refine du 4 fun c0 x1=>Rx 0 58 c0 rfl x1 (AD rfl (b0.memA .t3))<|Rx 2 56 c0 rfl x1 (AD rfl (b0.memA .t1))<|bk h fun x0 k2 h=>BA 1 7 c0 rfl .plain (bd 184) rfl (e1 rfl) (fun w9 hw9=>aM_c n (b0.hL hL hw9) d0.1 (Av (Az F0 (Tt R0 (Tt P0 (Tt j1 (Tt C0 (Tt D0 (Tt Q0 v0))))))) hw9) k2) rfl fun j3 Y2 U1 ⟨k0,hu_,U0⟩=>?_
 subst hu_
 obtain ⟨Y0,Q1⟩:=b0.agr U1
 refine bk h fun y0 p2 h=>BA 3 15 c0 rfl .plain (bd 184) rfl (e1 rfl) (fun w9 hw9=>aM_c n (Y0.hL hL hw9) g0.1 (Av (Az G0 (Tt E0 (Tt v0 Q1))) hw9) p2) rfl fun p3 Z2 V1 ⟨p0,hu_,V0⟩=>?_
 subst hu_
 obtain ⟨A1,Z0⟩:=Y0.agr V1
 refine BB 4 31 c0 rfl rfl .plain (AB (news:=[.bool x0.fj,k0]) A1 .t3 rfl rfl rfl rfl rfl rfl (o2 rfl (Bd (Az U0 Z0)))) fun q3 B1 B0=>BB 5 63 c0 rfl rfl .plain (AB (news:=[.bool y0.fj,p0]) B1 .t1 rfl rfl rfl rfl rfl rfl (o2 rfl (Bd (Az V0 B0)))) fun s3 H0 I0=>AH (dk c0)<|Ae<|Ac (AD rfl (H0.memA .t3))<|Ac (AD rfl (H0.memA .t1)) ?_
 have u1:=Tt Z0 (Tt B0 I0)
 have k1:=Az U0 u1
 obtain ⟨z2,M2,c2,_⟩:=Rep.sl k1
 have p1:=Az V0 (Tt B0 I0)
 obtain ⟨A2,P2,d2,_⟩:=Rep.sl p1
 refine Ac (AX (vs:=[.agg #[.bool x0.fj,k0],.agg #[.bool y0.fj,p0]]) (u:=.agg #[.bool x0.fj,k0,.bool y0.fj,p0]) (e2 rfl rfl) (fun w9=>by rw [c2,d2]; try kernel_rfl))<|AW [.bool x0.fj,k0,.bool y0.fj,p0] H0 .t5 (o4 rfl (Bd k1) rfl (Bd p1)) fun u3 z0 b1=>Aa<|Am rfl<|Aq hb0 func144 rfl (.cons (.many (cs:=[.bool x0.fj,k0,.bool y0.fj,p0]) rfl rfl (z0.memA .t5)) .nil) rfl ?_
 cases h
 exact ⟨z0.ag,fun w9 hw9=>⟨k0,p0,rfl,z0.kd (Az U0 (Tt u1 b1)) hw9,z0.kd (Az V0 (Tt B0 (Tt I0 b1))) hw9⟩⟩
 refine Ap<|Ae<|Ac (AD rfl (b0.memA .t3))<|Ac (AD rfl (b0.memA .t1)) ?_
 have v1:=Tt R0 (Tt P0 (Tt j1 (Tt C0 (Tt D0 (Tt Q0 v0)))))
 have q1:=Az F0 v1
 obtain ⟨B2,Q2,g2,_⟩:=Rep.sl q1
 have s1:=Az G0 (Tt E0 v0)
 obtain ⟨C2,R2,j2,_⟩:=Rep.sl s1
 refine Ac (AX (vs:=[.agg #[.bool d0.1.fj,q0],.agg #[.bool g0.1.fj,s0]]) (u:=.agg #[.bool d0.1.fj,q0,.bool g0.1.fj,s0]) (e2 rfl rfl) (fun w9=>by rw [g2,j2]; try kernel_rfl))<|AW [.bool d0.1.fj,q0,.bool g0.1.fj,s0] b0 .t5 (o4 rfl (Bd q1) rfl (Bd s1)) fun v3 A0 c1=>Aa<|Am rfl<|Aq hb0 func144 rfl (.cons (.many (cs:=[.bool d0.1.fj,q0,.bool g0.1.fj,s0]) rfl rfl (A0.memA .t5)) .nil) rfl ?_
 cases h
 exact ⟨A0.ag,fun w9 hw9=>⟨q0,s0,rfl,A0.kd (Az F0 (Tt v1 c1)) hw9,A0.kd (Az G0 (Tt E0 (Tt v0 c1))) hw9⟩⟩
def ap (x:U8):List Value:=[vU x.1,vU x.2.1,vU x.2.2.1,vU x.2.2.2.1,vU x.2.2.2.2.1,vU x.2.2.2.2.2.1,vU x.2.2.2.2.2.2.1,vU x.2.2.2.2.2.2.2]
def aP_p (_n:Nat) (a0:U8) (a1:U8):Option ((U8) × UInt64):=
  (sub64 a0.1 a1.1 (0:UInt64)).bind fun b0=>(sub64 a0.2.1 a1.2.1 b0.2).bind fun c0=>(sub64 a0.2.2.1 a1.2.2.1 c0.2).bind fun d0=>(sub64 a0.2.2.2.1 a1.2.2.2.1 d0.2).bind fun g0=>(sub64 a0.2.2.2.2.1 a1.2.2.2.2.1 g0.2).bind fun j0=>(sub64 a0.2.2.2.2.2.1 a1.2.2.2.2.2.1 j0.2).bind fun k0=>(sub64 a0.2.2.2.2.2.2.1 a1.2.2.2.2.2.2.1 k0.2).bind fun p0=>(sub64 a0.2.2.2.2.2.2.2 a1.2.2.2.2.2.2.2 p0.2).bind fun q0=>some ((b0.1,c0.1,d0.1,g0.1,j0.1,k0.1,p0.1,q0.1),q0.2)
theorem aP_c (n:Nat) {L w} (_hL:hl L w) (a0:U8) (a1:U8)  {r:(U8) × UInt64} (h:aP_p n a0 a1 = some r) :
 Cl 215 #[.agg ((ap a0)).toArray,.agg ((ap a1)).toArray] w (ak w fun _ u=>u = .tuple #[.agg ((ap r.1)).toArray,vU r.2]):=by
 unfold aP_p at h
 refine AC func215 rfl rfl rfl fun _ cs0 hb0=>Ae<|RG.bx (Ax w) rfl rfl fun J1 s1 Y0 x1=>RG.bx Y0 rfl rfl fun K1 u1 Z0 y1=>RG.nl zP Z0 fun M1 v1 J0 z1=>Ag rfl<|Aa<|Ae<|Ag rfl<|Aa<|Ak<|Ae<|Af rfl<|Aa<|Au<|MX.loop1<|Ae<|Ac (Bm (i:=0) (j:=8) rfl rfl)<|Aa<|Ak<|Br rfl<|Ap<|Ak<|Au<|Ae<|Af rfl<|Ag rfl<|Aa<|du 13 fun c0 v0=>Rv 0 c0 rfl v0 (fun _=>Aj rfl)<|Rv 1 c0 rfl v0 (fun _=>Aj rfl)<|Rv 2 c0 rfl v0 (fun _=>AM (m:=1) (k:=0) (len:=8) rfl rfl rfl rfl (by omega))<|Rx 3 32512 c0 rfl v0 (AZ rfl ((J0.memA .t2) 0 _ rfl))<|Rv 4 c0 rfl v0 (fun _=>Aj rfl)<|Rv 5 c0 rfl v0 (fun _=>AM (m:=1) (k:=0) (len:=8) rfl rfl rfl rfl (by omega))<|Rx 6 32512 c0 rfl v0 (AZ rfl ((J0.memA .t1) 0 _ rfl))<|Rv 7 c0 rfl v0 (fun _=>Aj rfl)<|bk h fun b0 b1 h=>Rv 8 c0 rfl v0 (fun _=>FV.sub64 (a:=a0.1) (b:=a1.1) (c:=(0:UInt64)) func217 rfl rfl rfl rfl rfl rfl rfl b1)<|Rv 9 c0 rfl v0 (fun _=>Aj rfl)<|Rv 10 c0 rfl v0 (fun _=>Ai rfl rfl) ?_
 refine Rv 11 c0 rfl v0 (fun _=>Ai rfl rfl)<|Rv 12 c0 rfl v0 (fun _=>AM (m:=1) (k:=0) (len:=8) rfl rfl rfl rfl (by omega))<|BB 13 16383 c0 rfl rfl .plain (BC (j:=0) (old:=(ap a0)) (news:=[vU b0.1]) (new' :=[vU b0.1,vU a0.2.1,vU a0.2.2.1,vU a0.2.2.2.1,vU a0.2.2.2.2.1,vU a0.2.2.2.2.2.1,vU a0.2.2.2.2.2.2.1,vU a0.2.2.2.2.2.2.2]) J0 .t2 rfl rfl rfl rfl rfl rfl (o1 rfl) rfl) fun P1 K0 A1=>By (i:=14) (rk c0) (RO.val (m' :=32767) (sk c0) rfl .plain rfl (Bc rfl) ?_)
 refine AH (dk c0)<|Ay<|Ao<|Ac (FV.add (i:=0) (j:=1) (r:=1) rfl rfl (by decide))<|Af rfl<|Aa<|MX.again1<|Ae<|Ac (Bm (i:=1) (j:=8) rfl rfl)<|Aa<|Ak<|Br rfl<|Ap<|Ak<|Au<|Ae<|Af rfl<|Ag rfl<|Aa<|du 13 fun d0 x0=>Rv 0 d0 rfl x0 (fun _=>Aj rfl)<|Rv 1 d0 rfl x0 (fun _=>Aj rfl)<|Rv 2 d0 rfl x0 (fun _=>AM (m:=1) (k:=1) (len:=8) rfl rfl rfl rfl (by omega))<|Rx 3 32512 d0 rfl x0 (AZ rfl ((K0.memA .t2) 1 _ rfl))<|Rv 4 d0 rfl x0 (fun _=>Aj rfl)<|Rv 5 d0 rfl x0 (fun _=>AM (m:=1) (k:=1) (len:=8) rfl rfl rfl rfl (by omega))<|Rx 6 32512 d0 rfl x0 (AZ rfl ((K0.memA .t1) 1 _ rfl))<|Rv 7 d0 rfl x0 (fun _=>Aj rfl)<|bk h fun t0 c1 h=>Rv 8 d0 rfl x0 (fun _=>FV.sub64 (a:=a0.2.1) (b:=a1.2.1) (c:=b0.2) func217 rfl rfl rfl rfl rfl rfl rfl c1)<|Rv 9 d0 rfl x0 (fun _=>Aj rfl)<|Rv 10 d0 rfl x0 (fun _=>Ai rfl rfl)<|Rv 11 d0 rfl x0 (fun _=>Ai rfl rfl)<|Rv 12 d0 rfl x0 (fun _=>AM (m:=1) (k:=1) (len:=8) rfl rfl rfl rfl (by omega))<|BB 13 16383 d0 rfl rfl .plain (BC (j:=1) (old:=[vU b0.1,vU a0.2.1,vU a0.2.2.1,vU a0.2.2.2.1,vU a0.2.2.2.2.1,vU a0.2.2.2.2.2.1,vU a0.2.2.2.2.2.2.1,vU a0.2.2.2.2.2.2.2]) (news:=[vU t0.1]) (new' :=[vU b0.1,vU t0.1,vU a0.2.2.1,vU a0.2.2.2.1,vU a0.2.2.2.2.1,vU a0.2.2.2.2.2.1,vU a0.2.2.2.2.2.2.1,vU a0.2.2.2.2.2.2.2]) K0 .t2 rfl rfl rfl rfl rfl rfl (o1 rfl) rfl) fun Q1 M0 B1=>By (i:=14) (rk d0) (RO.val (m' :=32767) (sk d0) rfl .plain rfl (Bc rfl) ?_)
 refine AH (dk d0)<|Ay<|Ao<|Ac (FV.add (i:=1) (j:=1) (r:=2) rfl rfl (by decide))<|Af rfl<|Aa<|MX.again1<|Ae<|Ac (Bm (i:=2) (j:=8) rfl rfl)<|Aa<|Ak<|Br rfl<|Ap<|Ak<|Au<|Ae<|Af rfl<|Ag rfl<|Aa<|du 13 fun g0 y0=>Rv 0 g0 rfl y0 (fun _=>Aj rfl)<|Rv 1 g0 rfl y0 (fun _=>Aj rfl)<|Rv 2 g0 rfl y0 (fun _=>AM (m:=1) (k:=2) (len:=8) rfl rfl rfl rfl (by omega))<|Rx 3 32512 g0 rfl y0 (AZ rfl ((M0.memA .t2) 2 _ rfl))<|Rv 4 g0 rfl y0 (fun _=>Aj rfl)<|Rv 5 g0 rfl y0 (fun _=>AM (m:=1) (k:=2) (len:=8) rfl rfl rfl rfl (by omega))<|Rx 6 32512 g0 rfl y0 (AZ rfl ((M0.memA .t1) 2 _ rfl))<|Rv 7 g0 rfl y0 (fun _=>Aj rfl)<|bk h fun u0 d1 h=>Rv 8 g0 rfl y0 (fun _=>FV.sub64 (a:=a0.2.2.1) (b:=a1.2.2.1) (c:=t0.2) func217 rfl rfl rfl rfl rfl rfl rfl d1)<|Rv 9 g0 rfl y0 (fun _=>Aj rfl)<|Rv 10 g0 rfl y0 (fun _=>Ai rfl rfl)<|Rv 11 g0 rfl y0 (fun _=>Ai rfl rfl)<|Rv 12 g0 rfl y0 (fun _=>AM (m:=1) (k:=2) (len:=8) rfl rfl rfl rfl (by omega))<|BB 13 16383 g0 rfl rfl .plain (BC (j:=2) (old:=[vU b0.1,vU t0.1,vU a0.2.2.1,vU a0.2.2.2.1,vU a0.2.2.2.2.1,vU a0.2.2.2.2.2.1,vU a0.2.2.2.2.2.2.1,vU a0.2.2.2.2.2.2.2]) (news:=[vU u0.1]) (new' :=[vU b0.1,vU t0.1,vU u0.1,vU a0.2.2.2.1,vU a0.2.2.2.2.1,vU a0.2.2.2.2.2.1,vU a0.2.2.2.2.2.2.1,vU a0.2.2.2.2.2.2.2]) M0 .t2 rfl rfl rfl rfl rfl rfl (o1 rfl) rfl) fun R1 P0 C1=>By (i:=14) (rk g0) (RO.val (m' :=32767) (sk g0) rfl .plain rfl (Bc rfl) ?_)
 refine AH (dk g0)<|Ay<|Ao<|Ac (FV.add (i:=2) (j:=1) (r:=3) rfl rfl (by decide))<|Af rfl<|Aa<|MX.again1<|Ae<|Ac (Bm (i:=3) (j:=8) rfl rfl)<|Aa<|Ak<|Br rfl<|Ap<|Ak<|Au<|Ae<|Af rfl<|Ag rfl<|Aa<|du 13 fun j0 z0=>Rv 0 j0 rfl z0 (fun _=>Aj rfl)<|Rv 1 j0 rfl z0 (fun _=>Aj rfl)<|Rv 2 j0 rfl z0 (fun _=>AM (m:=1) (k:=3) (len:=8) rfl rfl rfl rfl (by omega))<|Rx 3 32512 j0 rfl z0 (AZ rfl ((P0.memA .t2) 3 _ rfl))<|Rv 4 j0 rfl z0 (fun _=>Aj rfl)<|Rv 5 j0 rfl z0 (fun _=>AM (m:=1) (k:=3) (len:=8) rfl rfl rfl rfl (by omega))<|Rx 6 32512 j0 rfl z0 (AZ rfl ((P0.memA .t1) 3 _ rfl))<|Rv 7 j0 rfl z0 (fun _=>Aj rfl)<|bk h fun E0 g1 h=>Rv 8 j0 rfl z0 (fun _=>FV.sub64 (a:=a0.2.2.2.1) (b:=a1.2.2.2.1) (c:=u0.2) func217 rfl rfl rfl rfl rfl rfl rfl g1)<|Rv 9 j0 rfl z0 (fun _=>Aj rfl)<|Rv 10 j0 rfl z0 (fun _=>Ai rfl rfl)<|Rv 11 j0 rfl z0 (fun _=>Ai rfl rfl)<|Rv 12 j0 rfl z0 (fun _=>AM (m:=1) (k:=3) (len:=8) rfl rfl rfl rfl (by omega))<|BB 13 16383 j0 rfl rfl .plain (BC (j:=3) (old:=[vU b0.1,vU t0.1,vU u0.1,vU a0.2.2.2.1,vU a0.2.2.2.2.1,vU a0.2.2.2.2.2.1,vU a0.2.2.2.2.2.2.1,vU a0.2.2.2.2.2.2.2]) (news:=[vU E0.1]) (new' :=[vU b0.1,vU t0.1,vU u0.1,vU E0.1,vU a0.2.2.2.2.1,vU a0.2.2.2.2.2.1,vU a0.2.2.2.2.2.2.1,vU a0.2.2.2.2.2.2.2]) P0 .t2 rfl rfl rfl rfl rfl rfl (o1 rfl) rfl) fun U1 Q0 D1=>By (i:=14) (rk j0) (RO.val (m' :=32767) (sk j0) rfl .plain rfl (Bc rfl) ?_)
 refine AH (dk j0)<|Ay<|Ao<|Ac (FV.add (i:=3) (j:=1) (r:=4) rfl rfl (by decide))<|Af rfl<|Aa<|MX.again1<|Ae<|Ac (Bm (i:=4) (j:=8) rfl rfl)<|Aa<|Ak<|Br rfl<|Ap<|Ak<|Au<|Ae<|Af rfl<|Ag rfl<|Aa<|du 13 fun k0 A0=>Rv 0 k0 rfl A0 (fun _=>Aj rfl)<|Rv 1 k0 rfl A0 (fun _=>Aj rfl)<|Rv 2 k0 rfl A0 (fun _=>AM (m:=1) (k:=4) (len:=8) rfl rfl rfl rfl (by omega))<|Rx 3 32512 k0 rfl A0 (AZ rfl ((Q0.memA .t2) 4 _ rfl))<|Rv 4 k0 rfl A0 (fun _=>Aj rfl)<|Rv 5 k0 rfl A0 (fun _=>AM (m:=1) (k:=4) (len:=8) rfl rfl rfl rfl (by omega))<|Rx 6 32512 k0 rfl A0 (AZ rfl ((Q0.memA .t1) 4 _ rfl))<|Rv 7 k0 rfl A0 (fun _=>Aj rfl)<|bk h fun F0 j1 h=>Rv 8 k0 rfl A0 (fun _=>FV.sub64 (a:=a0.2.2.2.2.1) (b:=a1.2.2.2.2.1) (c:=E0.2) func217 rfl rfl rfl rfl rfl rfl rfl j1)<|Rv 9 k0 rfl A0 (fun _=>Aj rfl)<|Rv 10 k0 rfl A0 (fun _=>Ai rfl rfl)<|Rv 11 k0 rfl A0 (fun _=>Ai rfl rfl)<|Rv 12 k0 rfl A0 (fun _=>AM (m:=1) (k:=4) (len:=8) rfl rfl rfl rfl (by omega))<|BB 13 16383 k0 rfl rfl .plain (BC (j:=4) (old:=[vU b0.1,vU t0.1,vU u0.1,vU E0.1,vU a0.2.2.2.2.1,vU a0.2.2.2.2.2.1,vU a0.2.2.2.2.2.2.1,vU a0.2.2.2.2.2.2.2]) (news:=[vU F0.1]) (new' :=[vU b0.1,vU t0.1,vU u0.1,vU E0.1,vU F0.1,vU a0.2.2.2.2.2.1,vU a0.2.2.2.2.2.2.1,vU a0.2.2.2.2.2.2.2]) Q0 .t2 rfl rfl rfl rfl rfl rfl (o1 rfl) rfl) fun V1 R0 E1=>By (i:=14) (rk k0) (RO.val (m' :=32767) (sk k0) rfl .plain rfl (Bc rfl) ?_)
 refine AH (dk k0)<|Ay<|Ao<|Ac (FV.add (i:=4) (j:=1) (r:=5) rfl rfl (by decide))<|Af rfl<|Aa<|MX.again1<|Ae<|Ac (Bm (i:=5) (j:=8) rfl rfl)<|Aa<|Ak<|Br rfl<|Ap<|Ak<|Au<|Ae<|Af rfl<|Ag rfl<|Aa<|du 13 fun p0 B0=>Rv 0 p0 rfl B0 (fun _=>Aj rfl)<|Rv 1 p0 rfl B0 (fun _=>Aj rfl)<|Rv 2 p0 rfl B0 (fun _=>AM (m:=1) (k:=5) (len:=8) rfl rfl rfl rfl (by omega))<|Rx 3 32512 p0 rfl B0 (AZ rfl ((R0.memA .t2) 5 _ rfl))<|Rv 4 p0 rfl B0 (fun _=>Aj rfl)<|Rv 5 p0 rfl B0 (fun _=>AM (m:=1) (k:=5) (len:=8) rfl rfl rfl rfl (by omega))<|Rx 6 32512 p0 rfl B0 (AZ rfl ((R0.memA .t1) 5 _ rfl))<|Rv 7 p0 rfl B0 (fun _=>Aj rfl)<|bk h fun G0 k1 h=>Rv 8 p0 rfl B0 (fun _=>FV.sub64 (a:=a0.2.2.2.2.2.1) (b:=a1.2.2.2.2.2.1) (c:=F0.2) func217 rfl rfl rfl rfl rfl rfl rfl k1)<|Rv 9 p0 rfl B0 (fun _=>Aj rfl)<|Rv 10 p0 rfl B0 (fun _=>Ai rfl rfl)<|Rv 11 p0 rfl B0 (fun _=>Ai rfl rfl)<|Rv 12 p0 rfl B0 (fun _=>AM (m:=1) (k:=5) (len:=8) rfl rfl rfl rfl (by omega))<|BB 13 16383 p0 rfl rfl .plain (BC (j:=5) (old:=[vU b0.1,vU t0.1,vU u0.1,vU E0.1,vU F0.1,vU a0.2.2.2.2.2.1,vU a0.2.2.2.2.2.2.1,vU a0.2.2.2.2.2.2.2]) (news:=[vU G0.1]) (new' :=[vU b0.1,vU t0.1,vU u0.1,vU E0.1,vU F0.1,vU G0.1,vU a0.2.2.2.2.2.2.1,vU a0.2.2.2.2.2.2.2]) R0 .t2 rfl rfl rfl rfl rfl rfl (o1 rfl) rfl) fun W1 U0 F1=>By (i:=14) (rk p0) (RO.val (m' :=32767) (sk p0) rfl .plain rfl (Bc rfl) ?_)
 refine AH (dk p0)<|Ay<|Ao<|Ac (FV.add (i:=5) (j:=1) (r:=6) rfl rfl (by decide))<|Af rfl<|Aa<|MX.again1<|Ae<|Ac (Bm (i:=6) (j:=8) rfl rfl)<|Aa<|Ak<|Br rfl<|Ap<|Ak<|Au<|Ae<|Af rfl<|Ag rfl<|Aa<|du 13 fun q0 C0=>Rv 0 q0 rfl C0 (fun _=>Aj rfl)<|Rv 1 q0 rfl C0 (fun _=>Aj rfl)<|Rv 2 q0 rfl C0 (fun _=>AM (m:=1) (k:=6) (len:=8) rfl rfl rfl rfl (by omega))<|Rx 3 32512 q0 rfl C0 (AZ rfl ((U0.memA .t2) 6 _ rfl))<|Rv 4 q0 rfl C0 (fun _=>Aj rfl)<|Rv 5 q0 rfl C0 (fun _=>AM (m:=1) (k:=6) (len:=8) rfl rfl rfl rfl (by omega))<|Rx 6 32512 q0 rfl C0 (AZ rfl ((U0.memA .t1) 6 _ rfl))<|Rv 7 q0 rfl C0 (fun _=>Aj rfl)<|bk h fun H0 p1 h=>Rv 8 q0 rfl C0 (fun _=>FV.sub64 (a:=a0.2.2.2.2.2.2.1) (b:=a1.2.2.2.2.2.2.1) (c:=G0.2) func217 rfl rfl rfl rfl rfl rfl rfl p1)<|Rv 9 q0 rfl C0 (fun _=>Aj rfl)<|Rv 10 q0 rfl C0 (fun _=>Ai rfl rfl)<|Rv 11 q0 rfl C0 (fun _=>Ai rfl rfl)<|Rv 12 q0 rfl C0 (fun _=>AM (m:=1) (k:=6) (len:=8) rfl rfl rfl rfl (by omega))<|BB 13 16383 q0 rfl rfl .plain (BC (j:=6) (old:=[vU b0.1,vU t0.1,vU u0.1,vU E0.1,vU F0.1,vU G0.1,vU a0.2.2.2.2.2.2.1,vU a0.2.2.2.2.2.2.2]) (news:=[vU H0.1]) (new' :=[vU b0.1,vU t0.1,vU u0.1,vU E0.1,vU F0.1,vU G0.1,vU H0.1,vU a0.2.2.2.2.2.2.2]) U0 .t2 rfl rfl rfl rfl rfl rfl (o1 rfl) rfl) fun X1 V0 G1=>By (i:=14) (rk q0) (RO.val (m' :=32767) (sk q0) rfl .plain rfl (Bc rfl) ?_)
 refine AH (dk q0)<|Ay<|Ao<|Ac (FV.add (i:=6) (j:=1) (r:=7) rfl rfl (by decide))<|Af rfl<|Aa<|MX.again1<|Ae<|Ac (Bm (i:=7) (j:=8) rfl rfl)<|Aa<|Ak<|Br rfl<|Ap<|Ak<|Au<|Ae<|Af rfl<|Ag rfl<|Aa<|du 13 fun s0 D0=>Rv 0 s0 rfl D0 (fun _=>Aj rfl)<|Rv 1 s0 rfl D0 (fun _=>Aj rfl)<|Rv 2 s0 rfl D0 (fun _=>AM (m:=1) (k:=7) (len:=8) rfl rfl rfl rfl (by omega))<|Rx 3 32512 s0 rfl D0 (AZ rfl ((V0.memA .t2) 7 _ rfl))<|Rv 4 s0 rfl D0 (fun _=>Aj rfl)<|Rv 5 s0 rfl D0 (fun _=>AM (m:=1) (k:=7) (len:=8) rfl rfl rfl rfl (by omega))<|Rx 6 32512 s0 rfl D0 (AZ rfl ((V0.memA .t1) 7 _ rfl))<|Rv 7 s0 rfl D0 (fun _=>Aj rfl)<|bk h fun I0 q1 h=>Rv 8 s0 rfl D0 (fun _=>FV.sub64 (a:=a0.2.2.2.2.2.2.2) (b:=a1.2.2.2.2.2.2.2) (c:=H0.2) func217 rfl rfl rfl rfl rfl rfl rfl q1)<|Rv 9 s0 rfl D0 (fun _=>Aj rfl)<|Rv 10 s0 rfl D0 (fun _=>Ai rfl rfl)<|Rv 11 s0 rfl D0 (fun _=>Ai rfl rfl)<|Rv 12 s0 rfl D0 (fun _=>AM (m:=1) (k:=7) (len:=8) rfl rfl rfl rfl (by omega))<|BB 13 16383 s0 rfl rfl .plain (BC (j:=7) (old:=[vU b0.1,vU t0.1,vU u0.1,vU E0.1,vU F0.1,vU G0.1,vU H0.1,vU a0.2.2.2.2.2.2.2]) (news:=[vU I0.1]) (new' :=[vU b0.1,vU t0.1,vU u0.1,vU E0.1,vU F0.1,vU G0.1,vU H0.1,vU I0.1]) V0 .t2 rfl rfl rfl rfl rfl rfl (o1 rfl) rfl) fun Y1 W0 H1=>By (i:=14) (rk s0) (RO.val (m' :=32767) (sk s0) rfl .plain rfl (Bc rfl) ?_)
 refine AH (dk s0)<|Ay<|Ao<|Ac (FV.add (i:=7) (j:=1) (r:=8) rfl rfl (by decide))<|Af rfl<|Aa<|MX.again1<|Ae<|Ac (Bm (i:=8) (j:=8) rfl rfl)<|Aa<|Ak<|Bp rfl<|AT rfl<|Ae<|Ac (AD rfl (W0.memA .t2))<|Af rfl<|AW [vU b0.1,vU t0.1,vU u0.1,vU E0.1,vU F0.1,vU G0.1,vU H0.1,vU I0.1] W0 .hd (aq rfl) fun Z1 X0 I1=>Ag rfl<|Aa<|Am rfl<|Aq hb0 func215 rfl (.cons (.many (cs:=[vU b0.1,vU t0.1,vU u0.1,vU E0.1,vU F0.1,vU G0.1,vU H0.1,vU I0.1]) rfl rfl (X0.memA .hd)) (.cons (.tmp rfl) .nil)) rfl ?_
 cases h
 exact X0.gv
structure Tk where
  fj:Bool
  fm:U8
  deriving DecidableEq
instance:Rep Tk:=Rep.via (β:=Bool × (U8)) fun x=>(x.fj,x.fm)
def ge (x:Tk):List Value:=[.bool x.fj,vU x.fm.1,vU x.fm.2.1,vU x.fm.2.2.1,vU x.fm.2.2.2.1,vU x.fm.2.2.2.2.1,vU x.fm.2.2.2.2.2.1,vU x.fm.2.2.2.2.2.2.1,vU x.fm.2.2.2.2.2.2.2]
def cu_p (n:Nat) (a0:U8):Option Tk:=
  (if (shrU a0.2.2.2.2.2.2.2 63) = (1:UInt64) then (aP_p n (0,0,0,0,0,0,0,0) a0).bind fun b0=>some (⟨(decide ((shrU a0.2.2.2.2.2.2.2 63) = (1:UInt64))),b0.1⟩:Tk) else some (⟨(decide ((shrU a0.2.2.2.2.2.2.2 63) = (1:UInt64))),a0⟩:Tk))
theorem cu_c (n:Nat) {L w} (hL:hl L w) (a0:U8)  {r:Tk} (h:cu_p n a0 = some r) :
 Cl 185 #[.agg ((ap a0)).toArray] w (ak w fun _ u=>u = .agg ((ge r)).toArray):=by
 unfold cu_p at h
 refine AC func185 rfl rfl rfl fun _ cs0 hb0=>Ae<|RG.bx (Ax w) rfl rfl fun F0 u0 q0 y0=>RG.nl [.bool false,vW 0,vW 0,vW 0,vW 0,vW 0,vW 0,vW 0,vW 0] q0 fun G0 v0 d0 z0=>Aa<|Ae<|Ac (AM (m:=1) (k:=7) (len:=8) rfl rfl rfl rfl (by omega))<|AO rfl ((d0.memA .t1) 7 _ rfl)<|Ac (FV.shrU (a:=a0.2.2.2.2.2.2.2) (j:=63) rfl rfl)<|Ac (FV.eqlU (a:=shrU a0.2.2.2.2.2.2.2 63) (b:=(1:UInt64)) rfl rfl)<|Ac (AD rfl (d0.memA .t1))<|Ac (AX (vs:=[.bool (decide ((shrU a0.2.2.2.2.2.2.2 63) = (1:UInt64))),.agg ((ap a0)).toArray]) (u:=.agg ((([.bool (decide ((shrU a0.2.2.2.2.2.2.2 63) = (1:UInt64)))]:List Value) ++ ap a0)).toArray) (e2 rfl rfl) (fun w9=>by kernel_rfl))<|RG.nl [.bool false,vW 0,vW 0,vW 0,vW 0,vW 0,vW 0,vW 0,vW 0] d0 fun H0 x0 s0 A0=>AW (([.bool (decide ((shrU a0.2.2.2.2.2.2.2 63) = (1:UInt64)))]:List Value) ++ ap a0) s0 .hd (aq rfl) fun I0 b0 B0=>Aa<|Ak<|Ae<|Bk 0 rfl<|AO rfl ((b0.memA .hd) 0 _ rfl)<|Aa<|AI rfl h (fun p0 h=>?_) (fun p0 h=>?_)
 refine Ao<|Ac (AX (vs:=[]) (u:=.agg zQ) ai (fun w9=>by kernel_rfl))<|Bk 1 rfl<|Ac (Bn (cs:=(ap a0)) rfl rfl (ar (b0.memA .hd) 1 8))<|bk h fun c0 t0 h=>Bf (.tuple #[.agg ((ap c0.1)).toArray,vU c0.2]) (bd 215) rfl (e2 rfl rfl) (fun w9 hw9=>aP_c n (b0.hL0 hL hw9) (0,0,0,0,0,0,0,0) a0 t0) rfl<|Af rfl<|Ac (Ai rfl rfl)<|Ac (Ai rfl rfl)<|Bk 1 rfl<|RG.now .plain (BC (j:=1) (old:=(([.bool (decide ((shrU a0.2.2.2.2.2.2.2 63) = (1:UInt64)))]:List Value) ++ ap a0)) (news:=(ap c0.1)) (new' :=(([.bool (decide ((shrU a0.2.2.2.2.2.2.2 63) = (1:UInt64)))]:List Value) ++ ap c0.1)) b0 .hd rfl rfl rfl rfl rfl rfl (aq rfl) rfl) fun J0 g0 C0=>Aa<|Ae<|Ac (AD rfl (g0.memA .hd))<|AW (([.bool (decide ((shrU a0.2.2.2.2.2.2.2 63) = (1:UInt64)))]:List Value) ++ ap c0.1) g0 .t1 (aq rfl) fun K0 j0 D0=>Aa<|Am rfl<|Aq hb0 func185 rfl (.cons (.many (cs:=(([.bool (decide ((shrU a0.2.2.2.2.2.2.2 63) = (1:UInt64)))]:List Value) ++ ap c0.1)) rfl rfl (j0.memA .t1)) .nil) rfl ?_
 cases h
 exact j0.gv
 refine Ap<|Ae<|Ac (AD rfl (b0.memA .hd))<|AW (([.bool (decide ((shrU a0.2.2.2.2.2.2.2 63) = (1:UInt64)))]:List Value) ++ ap a0) b0 .t1 (aq rfl) fun M0 k0 E0=>Aa<|Am rfl<|Aq hb0 func185 rfl (.cons (.many (cs:=(([.bool (decide ((shrU a0.2.2.2.2.2.2.2 63) = (1:UInt64)))]:List Value) ++ ap a0)) rfl rfl (k0.memA .t1)) .nil) rfl ?_
 cases h
 exact k0.gv
def bb_p (n:Nat) (a0:U8):Option Tg:=
  (cu_p n a0).bind fun b0=>(app ([]:List UInt64) ([b0.fm.1,b0.fm.2.1,b0.fm.2.2.1,b0.fm.2.2.2.1,b0.fm.2.2.2.2.1,b0.fm.2.2.2.2.2.1,b0.fm.2.2.2.2.2.2.1,b0.fm.2.2.2.2.2.2.2]:List UInt64)).bind fun c0=>(al_p n b0.fj c0).bind fun d0=>some d0
theorem bb_c (n:Nat) {L w} (hL:hl L w) (a0:U8)  {r:Tg} (h:bb_p n a0 = some r) :
 Cl 145 #[.agg ((ap a0)).toArray] w (ak w fun w' u=>∃ v0_1:Value,u = .agg #[.bool r.fj,v0_1]/\Rep.R w' L [v0_1] r.fo):=by
 unfold bb_p at h
 refine AC func145 rfl rfl rfl fun _ cs0 hb0=>Ae<|RG.bx (Ax w) rfl rfl fun D1 s1 W0 u1=>RG.nl [.bool false,vN] W0 fun G1 A0 F0 z1=>Aa<|Ae<|Ac (AD rfl (F0.memA .t1))<|bk h fun b0 p1 h=>Bf (.agg ((ge b0)).toArray) (bd 185) rfl (e1 rfl) (fun w9 hw9=>cu_c n (F0.hL0 hL hw9) a0 p1) rfl<|RG.nl [.bool false,vW 0,vW 0,vW 0,vW 0,vW 0,vW 0,vW 0,vW 0] F0 fun H1 U0 c1 A1=>AW (ge b0) c1 .hd (aq rfl) fun I1 u0 B1=>Aa<|Ak<|du 5 fun c0 y0=>Rv 0 c0 rfl y0 (fun _=>Bo 0 rfl)<|Rv 3 c0 rfl y0 (fun _=>Bo 1 rfl)<|Rx 4 224 c0 rfl y0 (FV.sliceA (len:=8) (m:=1) (p:=Addr.add ⟨U0,0,none⟩ 1) rfl rfl)<|bk h fun z0 G0 h=>RD.mf (α:=Value × (List Value)) (fun ⟨g0,j0⟩=>[(2,vP A0),(7,.bool b0.fj),(11,g0)]) (fun ⟨g0,j0⟩=>[rr w 44 UInt64 g0 z0.length j0,.cells A0 [.bool false,vN] 129]) (fun ⟨g0,j0⟩ Q0=>Cells Q0 (bl [rr w 44 UInt64 g0 z0.length j0,.cells A0 [.bool false,vN] 129] ++ L) j0 (z0:List UInt64)) u0 2 63 ?_ ?_
 rintro ⟨g0,j0⟩ Q0 C0 v1 j1
 try dsimp only
 have D0:=St.delS C0 .hd
 have x1:=St.delT C0 .hd
 refine bk h fun R0 k1 h=>BA 6 127 c0 rfl .plain (bd 150) rfl (e2 rfl rfl) (fun w9 hw9=>al_c n (D0.hL hL hw9) (Av (Rep.at_ (α:=UInt64) (v:=g0) (xs:=z0) D0 L (Bv (α:=UInt64) C0 .hd j1 hL)) hw9) k1) rfl fun E1 C1 g1 ⟨H0,hu_,M0⟩=>?_
 subst hu_
 obtain ⟨X0,y1⟩:=D0.agr g1
 refine BB 7 255 c0 rfl rfl .plain (AB (news:=[.bool R0.fj,H0]) X0 .hd rfl rfl rfl rfl rfl rfl (o2 rfl (Bd M0))) fun F1 E0 d1=>AH (dk c0)<|Am rfl<|Aq hb0 func145 rfl (.cons (.many (cs:=[.bool R0.fj,H0]) rfl rfl (E0.memA .hd)) .nil) rfl ?_
 cases h
 exact ⟨E0.ag,fun w9 hw9=>⟨H0,rfl,E0.kd (Az M0 d1) hw9⟩⟩
 intro B0
 refine RD.each [1,2] (rk c0) ⟨?_,?_,trivial⟩
 refine RO.val (m' :=27) (sk c0) rfl .plain rfl (AZ rfl ((u0.memA .hd) 0 _ rfl))<|RD.nu 2 31 c0 rfl .plain rfl (jB UInt64 u0 ck) fun q1 V0 d0 v0=>?_
 have x0:=jD UInt64 d0 L
 refine By (i:=5) (rk c0) (RO.doesL (m' :=63) (sk c0) rfl rfl .plain rfl (DoesL.app (α:=UInt64) (ys:=([b0.fm.1,b0.fm.2.1,b0.fm.2.2.1,b0.fm.2.2.2.1,b0.fm.2.2.2.2.1,b0.fm.2.2.2.2.2.1,b0.fm.2.2.2.2.2.2.1,b0.fm.2.2.2.2.2.2.2]:List UInt64)) G0 d0 (fun _ _=>.hd) ck rfl rfl x0 (Src.arr (ds:=[vU b0.fm.1,vU b0.fm.2.1,vU b0.fm.2.2.1,vU b0.fm.2.2.2.1,vU b0.fm.2.2.2.2.1,vU b0.fm.2.2.2.2.2.1,vU b0.fm.2.2.2.2.2.2.1,vU b0.fm.2.2.2.2.2.2.2]) (ys:=([b0.fm.1,b0.fm.2.1,b0.fm.2.2.1,b0.fm.2.2.2.1,b0.fm.2.2.2.2.1,b0.fm.2.2.2.2.2.1,b0.fm.2.2.2.2.2.2.1,b0.fm.2.2.2.2.2.2.2]:List UInt64)) (n:=8) (ar (d0.memA .t1) 1 8) (Ar (cs:=[vU b0.fm.1]) (ds:=[vU b0.fm.2.1,vU b0.fm.2.2.1,vU b0.fm.2.2.2.1,vU b0.fm.2.2.2.2.1,vU b0.fm.2.2.2.2.2.1,vU b0.fm.2.2.2.2.2.2.1,vU b0.fm.2.2.2.2.2.2.2]) rfl (Ar (cs:=[vU b0.fm.2.1]) (ds:=[vU b0.fm.2.2.1,vU b0.fm.2.2.2.1,vU b0.fm.2.2.2.2.1,vU b0.fm.2.2.2.2.2.1,vU b0.fm.2.2.2.2.2.2.1,vU b0.fm.2.2.2.2.2.2.2]) rfl (Ar (cs:=[vU b0.fm.2.2.1]) (ds:=[vU b0.fm.2.2.2.1,vU b0.fm.2.2.2.2.1,vU b0.fm.2.2.2.2.2.1,vU b0.fm.2.2.2.2.2.2.1,vU b0.fm.2.2.2.2.2.2.2]) rfl (Ar (cs:=[vU b0.fm.2.2.2.1]) (ds:=[vU b0.fm.2.2.2.2.1,vU b0.fm.2.2.2.2.2.1,vU b0.fm.2.2.2.2.2.2.1,vU b0.fm.2.2.2.2.2.2.2]) rfl (Ar (cs:=[vU b0.fm.2.2.2.2.1]) (ds:=[vU b0.fm.2.2.2.2.2.1,vU b0.fm.2.2.2.2.2.2.1,vU b0.fm.2.2.2.2.2.2.2]) rfl (Ar (cs:=[vU b0.fm.2.2.2.2.2.1]) (ds:=[vU b0.fm.2.2.2.2.2.2.1,vU b0.fm.2.2.2.2.2.2.2]) rfl (Ar (cs:=[vU b0.fm.2.2.2.2.2.2.1]) (ds:=[vU b0.fm.2.2.2.2.2.2.2]) rfl (Ar (cs:=[vU b0.fm.2.2.2.2.2.2.2]) (ds:=[]) rfl (AR _ _))))))))) rfl)) (fun t0 P0 ⟨p0,k0,q0,s0⟩=>?_))
 obtain ⟨Y0,I0⟩:=AN k0 (.a0 (.a1 .done))
 exact B0 (t0,p0) Y0 (Tt v0 (Tt q0 I0)) (AL s0 I0)
 refine RO.new (m' :=29) (sk c0) rfl .plain rfl (jB UInt64 u0 ck) fun q1 V0 d0 v0=>?_
 have x0:=jD UInt64 d0 L
 refine RD.each [1,5] (rk c0) ⟨?_,?_,trivial⟩
 refine RO.val (m' :=31) (sk c0) rfl .plain rfl (AZ rfl ((d0.memA .t1) 0 _ rfl))<|By (i:=5) (rk c0) (RO.doesL (m' :=63) (sk c0) rfl rfl .plain rfl (DoesL.app (α:=UInt64) (ys:=([b0.fm.1,b0.fm.2.1,b0.fm.2.2.1,b0.fm.2.2.2.1,b0.fm.2.2.2.2.1,b0.fm.2.2.2.2.2.1,b0.fm.2.2.2.2.2.2.1,b0.fm.2.2.2.2.2.2.2]:List UInt64)) G0 d0 (fun _ _=>.hd) ck rfl rfl x0 (Src.arr (ds:=[vU b0.fm.1,vU b0.fm.2.1,vU b0.fm.2.2.1,vU b0.fm.2.2.2.1,vU b0.fm.2.2.2.2.1,vU b0.fm.2.2.2.2.2.1,vU b0.fm.2.2.2.2.2.2.1,vU b0.fm.2.2.2.2.2.2.2]) (ys:=([b0.fm.1,b0.fm.2.1,b0.fm.2.2.1,b0.fm.2.2.2.1,b0.fm.2.2.2.2.1,b0.fm.2.2.2.2.2.1,b0.fm.2.2.2.2.2.2.1,b0.fm.2.2.2.2.2.2.2]:List UInt64)) (n:=8) (ar (d0.memA .t1) 1 8) (Ar (cs:=[vU b0.fm.1]) (ds:=[vU b0.fm.2.1,vU b0.fm.2.2.1,vU b0.fm.2.2.2.1,vU b0.fm.2.2.2.2.1,vU b0.fm.2.2.2.2.2.1,vU b0.fm.2.2.2.2.2.2.1,vU b0.fm.2.2.2.2.2.2.2]) rfl (Ar (cs:=[vU b0.fm.2.1]) (ds:=[vU b0.fm.2.2.1,vU b0.fm.2.2.2.1,vU b0.fm.2.2.2.2.1,vU b0.fm.2.2.2.2.2.1,vU b0.fm.2.2.2.2.2.2.1,vU b0.fm.2.2.2.2.2.2.2]) rfl (Ar (cs:=[vU b0.fm.2.2.1]) (ds:=[vU b0.fm.2.2.2.1,vU b0.fm.2.2.2.2.1,vU b0.fm.2.2.2.2.2.1,vU b0.fm.2.2.2.2.2.2.1,vU b0.fm.2.2.2.2.2.2.2]) rfl (Ar (cs:=[vU b0.fm.2.2.2.1]) (ds:=[vU b0.fm.2.2.2.2.1,vU b0.fm.2.2.2.2.2.1,vU b0.fm.2.2.2.2.2.2.1,vU b0.fm.2.2.2.2.2.2.2]) rfl (Ar (cs:=[vU b0.fm.2.2.2.2.1]) (ds:=[vU b0.fm.2.2.2.2.2.1,vU b0.fm.2.2.2.2.2.2.1,vU b0.fm.2.2.2.2.2.2.2]) rfl (Ar (cs:=[vU b0.fm.2.2.2.2.2.1]) (ds:=[vU b0.fm.2.2.2.2.2.2.1,vU b0.fm.2.2.2.2.2.2.2]) rfl (Ar (cs:=[vU b0.fm.2.2.2.2.2.2.1]) (ds:=[vU b0.fm.2.2.2.2.2.2.2]) rfl (Ar (cs:=[vU b0.fm.2.2.2.2.2.2.2]) (ds:=[]) rfl (AR _ _))))))))) rfl)) (fun t0 P0 ⟨p0,k0,q0,s0⟩=>?_))
 obtain ⟨Z0,J0⟩:=AN k0 (.a0 (.a1 .done))
 exact B0 (t0,p0) Z0 (Tt v0 (Tt q0 J0)) (AL s0 J0)
 refine RO.doesL (m' :=61) (sk c0) rfl rfl .plain rfl (DoesL.app (α:=UInt64) (ys:=([b0.fm.1,b0.fm.2.1,b0.fm.2.2.1,b0.fm.2.2.2.1,b0.fm.2.2.2.2.1,b0.fm.2.2.2.2.2.1,b0.fm.2.2.2.2.2.2.1,b0.fm.2.2.2.2.2.2.2]:List UInt64)) G0 d0 (fun _ _=>.hd) ck rfl rfl x0 (Src.arr (ds:=[vU b0.fm.1,vU b0.fm.2.1,vU b0.fm.2.2.1,vU b0.fm.2.2.2.1,vU b0.fm.2.2.2.2.1,vU b0.fm.2.2.2.2.2.1,vU b0.fm.2.2.2.2.2.2.1,vU b0.fm.2.2.2.2.2.2.2]) (ys:=([b0.fm.1,b0.fm.2.1,b0.fm.2.2.1,b0.fm.2.2.2.1,b0.fm.2.2.2.2.1,b0.fm.2.2.2.2.2.1,b0.fm.2.2.2.2.2.2.1,b0.fm.2.2.2.2.2.2.2]:List UInt64)) (n:=8) (ar (d0.memA .t1) 1 8) (Ar (cs:=[vU b0.fm.1]) (ds:=[vU b0.fm.2.1,vU b0.fm.2.2.1,vU b0.fm.2.2.2.1,vU b0.fm.2.2.2.2.1,vU b0.fm.2.2.2.2.2.1,vU b0.fm.2.2.2.2.2.2.1,vU b0.fm.2.2.2.2.2.2.2]) rfl (Ar (cs:=[vU b0.fm.2.1]) (ds:=[vU b0.fm.2.2.1,vU b0.fm.2.2.2.1,vU b0.fm.2.2.2.2.1,vU b0.fm.2.2.2.2.2.1,vU b0.fm.2.2.2.2.2.2.1,vU b0.fm.2.2.2.2.2.2.2]) rfl (Ar (cs:=[vU b0.fm.2.2.1]) (ds:=[vU b0.fm.2.2.2.1,vU b0.fm.2.2.2.2.1,vU b0.fm.2.2.2.2.2.1,vU b0.fm.2.2.2.2.2.2.1,vU b0.fm.2.2.2.2.2.2.2]) rfl (Ar (cs:=[vU b0.fm.2.2.2.1]) (ds:=[vU b0.fm.2.2.2.2.1,vU b0.fm.2.2.2.2.2.1,vU b0.fm.2.2.2.2.2.2.1,vU b0.fm.2.2.2.2.2.2.2]) rfl (Ar (cs:=[vU b0.fm.2.2.2.2.1]) (ds:=[vU b0.fm.2.2.2.2.2.1,vU b0.fm.2.2.2.2.2.2.1,vU b0.fm.2.2.2.2.2.2.2]) rfl (Ar (cs:=[vU b0.fm.2.2.2.2.2.1]) (ds:=[vU b0.fm.2.2.2.2.2.2.1,vU b0.fm.2.2.2.2.2.2.2]) rfl (Ar (cs:=[vU b0.fm.2.2.2.2.2.2.1]) (ds:=[vU b0.fm.2.2.2.2.2.2.2]) rfl (Ar (cs:=[vU b0.fm.2.2.2.2.2.2.2]) (ds:=[]) rfl (AR _ _))))))))) rfl)) fun t0 P0 ⟨p0,k0,q0,s0⟩=>Rx 1 192 c0 rfl y0 (AZ rfl ((k0.memA .t1) 0 _ rfl)) ?_
 obtain ⟨b1,K0⟩:=AN k0 (.a0 (.a1 .done))
 exact B0 (t0,p0) b1 (Tt v0 (Tt q0 K0)) (AL s0 K0)
def aG_l1 (_n:Nat) (a0:U8) (a1:U8) (g0:Int -> Option (Int ⊕ Unit)):Int -> Option (Int ⊕ Unit)
  | b0=>(if 0 <= b0 then (idx ([a0.1,a0.2.1,a0.2.2.1,a0.2.2.2.1,a0.2.2.2.2.1,a0.2.2.2.2.2.1,a0.2.2.2.2.2.2.1,a0.2.2.2.2.2.2.2]:List UInt64) b0).bind fun c0=>(idx ([a1.1,a1.2.1,a1.2.2.1,a1.2.2.2.1,a1.2.2.2.2.1,a1.2.2.2.2.2.1,a1.2.2.2.2.2.2.1,a1.2.2.2.2.2.2.2]:List UInt64) b0).bind fun d0=>(if c0 = d0 then (chk (b0 - 1)).bind fun j0=>g0 j0 else (if c0 < d0 then some (.inl (-1:Int)) else some (.inl (1:Int)))) else some (.inr ()))
def aG_p (n:Nat) (a0:U8) (a1:U8):Option Int:=
  thn (ao (aG_l1 n a0 a1) n 7) (fun _=>some (0:Int))
theorem aG_c (n:Nat) {L w} (_hL:hl L w) (a0:U8) (a1:U8)  {r:Int} (h:aG_p n a0 a1 = some r) :
 Cl 228 #[.agg ((ap a0)).toArray,.agg ((ap a1)).toArray] w (ak w fun _ u=>u = vI r):=by
 unfold aG_p at h
 refine AC func228 rfl rfl rfl fun _ cs0 hb0=>Ae<|RG.bx (Ax w) rfl rfl fun V0 p0 E0 Q0=>RG.bx E0 rfl rfl fun W0 q0 F0 R0=>Ag rfl<|Aa<|Ak<|Ae<|Ag rfl<|Aa<|Au<|tn h fun U0 H0 u0=>MX.lo (α:=Int) (fun b0=>[(2,vP p0),(3,vP q0),(5,vI b0)]) (fun b0=>[.cells q0 (ap a1) 222,.cells p0 (ap a0) 222]) (fun b0=>b0) 7 H0 F0 ?_
 rintro P0 b0 X0 D0 c0 G0 h
 unfold aG_l1 at h
 try dsimp only at h
 refine Ak<|Ae<|Af rfl<|Ac (FV.geq (i:=b0) (j:=0) rfl rfl)<|Aa<|AI rfl h (fun A0 h=>?_) (fun A0 h=>?_)
 refine Ap<|Ak<|Au<|Ak<|du 7 fun d0 j0=>Rv 0 d0 rfl j0 (fun _=>Aj rfl)<|bk h fun y0 J0 h=>?_
 obtain ⟨v0,s0⟩:=aI J0
 refine Rv 1 d0 rfl j0 (fun _=>AM (m:=1) (k:=b0.toNat) (len:=8) rfl rfl rfl v0 (bp s0 rfl))<|Rx 2 64 d0 rfl j0 (AZ rfl ((aP (p:=⟨p0,0,none⟩) (cs:=([a0.1,a0.2.1,a0.2.2.1,a0.2.2.2.1,a0.2.2.2.2.1,a0.2.2.2.2.2.1,a0.2.2.2.2.2.2.1,a0.2.2.2.2.2.2.2]:List UInt64).map (fun z9:UInt64=>(vU z9:Value)) ++ []) (i:=b0.toNat) (c0.memA .t1) (dF (fun z9:UInt64=>(vU z9:Value)) s0)) 0 _ rfl))<|Rv 3 d0 rfl j0 (fun _=>Aj rfl)<|bk h fun z0 K0 h=>?_
 obtain ⟨x0,t0⟩:=aI K0
 refine Rv 4 d0 rfl j0 (fun _=>AM (m:=1) (k:=b0.toNat) (len:=8) rfl rfl rfl x0 (bp t0 rfl))<|Rx 5 64 d0 rfl j0 (AZ rfl ((aP (p:=⟨q0,0,none⟩) (cs:=([a1.1,a1.2.1,a1.2.2.1,a1.2.2.2.1,a1.2.2.2.2.1,a1.2.2.2.2.2.1,a1.2.2.2.2.2.2.1,a1.2.2.2.2.2.2.2]:List UInt64).map (fun z9:UInt64=>(vU z9:Value)) ++ []) (i:=b0.toNat) (c0.memA .hd) (dF (fun z9:UInt64=>(vU z9:Value)) t0)) 0 _ rfl))<|Rv 6 d0 rfl j0 (fun _=>FV.neqU (a:=y0) (b:=z0) rfl rfl)<|AH (dk d0)<|MX.ifn rfl h (fun B0 h=>?_) (fun B0 h=>?_)
 refine Ap<|Ay<|Ao<|Af rfl<|bk h fun M0 I0 h=>Ac (FV.subc (i:=b0) (j:=1) rfl rfl I0)<|Ag rfl<|Aa<|D0 M0 c0 G0 h
 refine Ak<|Ak<|du 7 fun g0 k0=>Rv 0 g0 rfl k0 (fun _=>Aj rfl)<|Rv 1 g0 rfl k0 (fun _=>AM (m:=1) (k:=b0.toNat) (len:=8) rfl rfl rfl v0 (bp s0 rfl))<|Rx 2 64 g0 rfl k0 (AZ rfl ((aP (p:=⟨p0,0,none⟩) (cs:=([a0.1,a0.2.1,a0.2.2.1,a0.2.2.2.1,a0.2.2.2.2.1,a0.2.2.2.2.2.1,a0.2.2.2.2.2.2.1,a0.2.2.2.2.2.2.2]:List UInt64).map (fun z9:UInt64=>(vU z9:Value)) ++ []) (i:=b0.toNat) (c0.memA .t1) (dF (fun z9:UInt64=>(vU z9:Value)) s0)) 0 _ rfl))<|Rv 3 g0 rfl k0 (fun _=>Aj rfl)<|Rv 4 g0 rfl k0 (fun _=>AM (m:=1) (k:=b0.toNat) (len:=8) rfl rfl rfl x0 (bp t0 rfl))<|Rx 5 64 g0 rfl k0 (AZ rfl ((aP (p:=⟨q0,0,none⟩) (cs:=([a1.1,a1.2.1,a1.2.2.1,a1.2.2.2.1,a1.2.2.2.2.1,a1.2.2.2.2.2.1,a1.2.2.2.2.2.2.1,a1.2.2.2.2.2.2.2]:List UInt64).map (fun z9:UInt64=>(vU z9:Value)) ++ []) (i:=b0.toNat) (c0.memA .hd) (dF (fun z9:UInt64=>(vU z9:Value)) t0)) 0 _ rfl))<|Rv 6 g0 rfl k0 (fun _=>FV.lssU (a:=y0) (b:=z0) rfl rfl)<|AH (dk g0)<|AI rfl h (fun C0 h=>?_) (fun C0 h=>?_)
 refine Ae<|Ag rfl<|Aa ?_
 have h:=ax h u0
 refine Am rfl<|AU hb0 func228 rfl rfl ?_
 cases h
 exact c0.gv
 refine Ap<|Ae<|Ag rfl<|Aa ?_
 have h:=ax h u0
 refine Am rfl<|AU hb0 func228 rfl rfl ?_
 cases h
 exact c0.gv
 refine AT rfl ?_
 have h:=aF h u0
 try dsimp only at h
 refine Ae<|Ag rfl<|Aa<|Am rfl<|AU hb0 func228 rfl rfl ?_
 cases h
 exact c0.gv
def bD_p (n:Nat) (a0:Tk):Option ((U8) × Int):=
  (aG_p n a0.fm (0,0,0,0,0,0,0,9223372036854775808)).bind fun b0=>(if 0 < b0 then some ((0,0,0,0,0,0,0,0),(6:Int)) else (if b0 = 0 then (if a0.fj = true then (aP_p n (0,0,0,0,0,0,0,0) a0.fm).bind fun c0=>some (c0.1,(0:Int)) else some ((0,0,0,0,0,0,0,0),(6:Int))) else (if a0.fj = true then (aP_p n (0,0,0,0,0,0,0,0) a0.fm).bind fun d0=>some (d0.1,(0:Int)) else some (a0.fm,(0:Int)))))
theorem bD_c (n:Nat) {L w} (hL:hl L w) (a0:Tk)  {r:(U8) × Int} (h:bD_p n a0 = some r) :
 Cl 216 #[.agg ((ge a0)).toArray] w (ak w fun _ u=>u = .tuple #[.agg ((ap r.1)).toArray,vI r.2]):=by
 unfold bD_p at h
 refine AC func216 rfl rfl rfl fun _ cs0 hb0=>Ae<|RG.bx (Ax w) rfl rfl fun Z0 G0 A0 J0=>RG.nl zP A0 fun b1 H0 B0 K0=>Ag rfl<|Aa<|Ae<|Ac (AX (vs:=[vW 9223372036854775808]) (u:=.agg #[vW 0,vW 0,vW 0,vW 0,vW 0,vW 0,vW 0,vW 9223372036854775808]) (e1 rfl) (fun w9=>by kernel_rfl))<|RG.nl zP B0 fun c1 I0 C0 M0=>RG.now .plain (AB (news:=[vW 0,vW 0,vW 0,vW 0,vW 0,vW 0,vW 0,vW 9223372036854775808]) C0 .hd rfl rfl rfl rfl rfl (.refl 8) (aq rfl)) fun d1 b0 P0=>Aa<|Ak<|Ae<|Bk 1 rfl<|Ac (Bn (cs:=(ap a0.fm)) rfl rfl (ar (b0.memA .t2) 1 8))<|Ac (AD rfl (b0.memA .hd))<|bk h fun g0 D0 h=>Bf (vI g0) (bd 228) rfl (e2 rfl rfl) (fun w9 hw9=>aG_c n (b0.hL0 hL hw9) a0.fm (0,0,0,0,0,0,0,9223372036854775808) D0) rfl<|Ag rfl<|Aa<|Ae<|Af rfl<|Ac (FV.gtr (i:=g0) (j:=0) rfl rfl)<|Af rfl<|RG.ifd (s:=13) rfl h (fun x0 h=>?_) (fun x0 h=>?_)
 refine AG<|AG<|AG<|RG.un<|RG.un<|RG.un<|AG<|RG.pt rfl rfl<|Aa<|Br rfl<|Ae<|Ac (AX (vs:=[]) (u:=.agg zQ) ai (fun w9=>by kernel_rfl))<|AW zP b0 .t1 (aq rfl) fun g1 k0 Q0=>Ag rfl<|Aa<|Am rfl<|Aq hb0 func216 rfl (.cons (.many (cs:=zP) rfl rfl (k0.memA .t1)) (.cons (.tmp rfl) .nil)) rfl ?_
 cases h
 exact k0.gv
 refine AV (Aj rfl)<|AV (FV.eql (i:=g0) (j:=0) rfl rfl)<|AV (Aj rfl)<|RG.ifd (s:=16) rfl h (fun y0 h=>?_) (fun y0 h=>?_)
 refine RG.fg 0 rfl<|AV (AZ rfl ((b0.memA .t2) 0 _ rfl))<|AV (BD rfl)<|AV (FV.pick_t rfl rfl)<|RG.pf rfl rfl<|Aa<|MX.ifnb rfl h (fun j0 h=>?_) (fun j0 h=>?_)
 refine Ap<|Ak<|Ae<|Bk 0 rfl<|AO rfl ((b0.memA .t2) 0 _ rfl)<|Aa<|MX.cond_kt rfl j0<|Ao<|Ac (AX (vs:=[]) (u:=.agg zQ) ai (fun w9=>by kernel_rfl))<|Bk 1 rfl<|Ac (Bn (cs:=(ap a0.fm)) rfl rfl (ar (b0.memA .t2) 1 8))<|bk h fun c0 E0 h=>Bf (.tuple #[.agg ((ap c0.1)).toArray,vU c0.2]) (bd 215) rfl (e2 rfl rfl) (fun w9 hw9=>aP_c n (b0.hL0 hL hw9) (0,0,0,0,0,0,0,0) a0.fm E0) rfl<|Af rfl<|Ac (Ai rfl rfl)<|Ac (Ai rfl rfl)<|Bk 1 rfl<|RG.now .plain (BC (j:=1) (old:=(ge a0)) (news:=(ap c0.1)) (new' :=(([.bool a0.fj]:List Value) ++ ap c0.1)) b0 .t2 rfl rfl rfl rfl rfl rfl (aq rfl) rfl) fun j1 p0 R0=>Aa<|Ae<|Bk 1 rfl<|Ac (Bn (cs:=(ap c0.1)) rfl rfl (ar (p0.memA .t2) 1 8))<|AW (ap c0.1) p0 .t1 (aq rfl) fun k1 q0 U0=>Ag rfl<|Aa<|Am rfl<|Aq hb0 func216 rfl (.cons (.many (cs:=(ap c0.1)) rfl rfl (q0.memA .t1)) (.cons (.tmp rfl) .nil)) rfl ?_
 cases h
 exact q0.gv
 refine Ae<|Ac (AX (vs:=[]) (u:=.agg zQ) ai (fun w9=>by kernel_rfl))<|AW zP b0 .t1 (aq rfl) fun p1 s0 V0=>Ag rfl<|Aa<|Am rfl<|Aq hb0 func216 rfl (.cons (.many (cs:=zP) rfl rfl (s0.memA .t1)) (.cons (.tmp rfl) .nil)) rfl ?_
 cases h
 exact s0.gv
 refine AG<|AG<|AG<|AV (AK rfl rfl)<|RG.pf rfl rfl<|Aa<|Bp rfl<|Ap<|Ak<|Ae<|Bk 0 rfl<|AO rfl ((b0.memA .t2) 0 _ rfl)<|Aa<|MX.ifb rfl h (fun z0 h=>?_) (fun z0 h=>?_)
 refine Ao<|Ac (AX (vs:=[]) (u:=.agg zQ) ai (fun w9=>by kernel_rfl))<|Bk 1 rfl<|Ac (Bn (cs:=(ap a0.fm)) rfl rfl (ar (b0.memA .t2) 1 8))<|bk h fun d0 F0 h=>Bf (.tuple #[.agg ((ap d0.1)).toArray,vU d0.2]) (bd 215) rfl (e2 rfl rfl) (fun w9 hw9=>aP_c n (b0.hL0 hL hw9) (0,0,0,0,0,0,0,0) a0.fm F0) rfl<|Af rfl<|Ac (Ai rfl rfl)<|Ac (Ai rfl rfl)<|Bk 1 rfl<|RG.now .plain (BC (j:=1) (old:=(ge a0)) (news:=(ap d0.1)) (new' :=(([.bool a0.fj]:List Value) ++ ap d0.1)) b0 .t2 rfl rfl rfl rfl rfl rfl (aq rfl) rfl) fun q1 t0 W0=>Aa<|Ae<|Bk 1 rfl<|Ac (Bn (cs:=(ap d0.1)) rfl rfl (ar (t0.memA .t2) 1 8))<|AW (ap d0.1) t0 .t1 (aq rfl) fun s1 u0 X0=>Ag rfl<|Aa<|Am rfl<|Aq hb0 func216 rfl (.cons (.many (cs:=(ap d0.1)) rfl rfl (u0.memA .t1)) (.cons (.tmp rfl) .nil)) rfl ?_
 cases h
 exact u0.gv
 refine Ap<|Ae<|Bk 1 rfl<|Ac (Bn (cs:=(ap a0.fm)) rfl rfl (ar (b0.memA .t2) 1 8))<|AW (ap a0.fm) b0 .t1 (aq rfl) fun u1 v0 Y0=>Ag rfl<|Aa<|Am rfl<|Aq hb0 func216 rfl (.cons (.many (cs:=(ap a0.fm)) rfl rfl (v0.memA .t1)) (.cons (.tmp rfl) .nil)) rfl ?_
 cases h
 exact v0.gv
def bm_p (n:Nat) (a0:Tg):Option ((U8) × Int):=
  (if 8 < a0.fo.length then some ((0,0,0,0,0,0,0,0),(6:Int)) else (bD_p n (⟨a0.fj,(aJ a0.fo 0 (0:UInt64),aJ a0.fo 1 (0:UInt64),aJ a0.fo 2 (0:UInt64),aJ a0.fo 3 (0:UInt64),aJ a0.fo 4 (0:UInt64),aJ a0.fo 5 (0:UInt64),aJ a0.fo 6 (0:UInt64),aJ a0.fo 7 (0:UInt64))⟩:Tk)).bind fun b0=>some (b0.1,b0.2))
theorem bm_c (n:Nat) {L w} (hL:hl L w) (a0:Tg) {v0_1:Value} (h0_1:Rep.R w L [v0_1] a0.fo)  {r:(U8) × Int} (h:bm_p n a0 = some r) :
 Cl 186 #[.agg #[.bool a0.fj,v0_1]] w (ak w fun _ u=>u = .tuple #[.agg ((ap r.1)).toArray,vI r.2]):=by
 unfold bm_p at h
 refine AC func186 rfl rfl rfl fun _ cs0 hb0=>Ae<|RG.bx (Ax w) rfl rfl fun M0 A0 v0 C0=>RG.nl zP v0 fun P0 B0 c0 D0=>Ag rfl<|Aa<|Ak<|Ae<|Bk 1 rfl<|AO rfl ((c0.memA .t1) 1 _ rfl) ?_
 have s0:=AQ h0_1 c0
 have J0:a0.fo.length <= 281474976710656:=AY s0
 refine Ac (Be (xs:=a0.fo) underlying127 rfl s0)<|Ac (FV.gtrN (i:=a0.fo.length) (j:=8) rfl rfl)<|Aa<|AI rfl h (fun u0 h=>?_) (fun u0 h=>?_)
 refine Ae<|Ac (AX (vs:=[]) (u:=.agg zQ) ai (fun w9=>by kernel_rfl))<|AW zP c0 .hd (aq rfl) fun Q0 p0 E0=>Ag rfl<|Aa<|Am rfl<|Aq hb0 func186 rfl (.cons (.many (cs:=zP) rfl rfl (p0.memA .hd)) (.cons (.tmp rfl) .nil)) rfl ?_
 cases h
 exact p0.gv
 refine Ap<|Ae<|Bk 0 rfl<|AO rfl ((c0.memA .t1) 0 _ rfl)<|Ac (AX (vs:=[.bool a0.fj]) (u:=.agg #[.bool a0.fj,vW 0,vW 0,vW 0,vW 0,vW 0,vW 0,vW 0,vW 0]) (e1 rfl) (fun w9=>by kernel_rfl))<|RG.nl [.bool false,vW 0,vW 0,vW 0,vW 0,vW 0,vW 0,vW 0,vW 0] c0 fun R0 t0 x0 F0=>AW [.bool a0.fj,vW 0,vW 0,vW 0,vW 0,vW 0,vW 0,vW 0,vW 0] x0 .hd (aq rfl) fun U0 j0 G0=>Aa<|Ak<|du 4 fun b0 d0=>Rv 0 b0 rfl d0 (fun _=>Bo 1 rfl)<|Rx 1 16 b0 rfl d0 (FV.sliceA (len:=8) (m:=1) (p:=Addr.add ⟨t0,0,none⟩ 1) rfl rfl)<|Rv 2 b0 rfl d0 (fun _=>Bo 1 rfl)<|Rx 3 16 b0 rfl d0 (AZ rfl ((j0.memA .t2) 1 _ rfl))<|By (i:=4) (rk b0) (RO.doesL (m' :=31) (sk b0) rfl rfl .plain rfl (DoesL.copyArr (fun z9:UInt64=>(vU z9:Value)) (olds:=([(0:UInt64),0,0,0,0,0,0,(0:UInt64)]:List UInt64)) (ys:=a0.fo) (pre:=[.bool a0.fj]) (post:=[]) (old:=[.bool a0.fj,vW 0,vW 0,vW 0,vW 0,vW 0,vW 0,vW 0,vW 0]) (new' :=[.bool a0.fj,vW ((aJ a0.fo 0 (0:UInt64)).toNat:Int),vW ((aJ a0.fo 1 (0:UInt64)).toNat:Int),vW ((aJ a0.fo 2 (0:UInt64)).toNat:Int),vW ((aJ a0.fo 3 (0:UInt64)).toNat:Int),vW ((aJ a0.fo 4 (0:UInt64)).toNat:Int),vW ((aJ a0.fo 5 (0:UInt64)).toNat:Int),vW ((aJ a0.fo 6 (0:UInt64)).toNat:Int),vW ((aJ a0.fo 7 (0:UInt64)).toNat:Int)]) rfl (fun _ _ _ _ h9=>h9) j0 .hd rfl rfl rfl rfl rfl rfl rfl rfl (Src.rep (AQ h0_1 j0))) (fun K0 V0 ⟨y0,k0,H0⟩=>?_))
 subst y0
 refine AH (dk b0)<|Ae<|Ac (AD rfl (k0.memA .hd))<|bk h fun g0 z0 h=>Bf (.tuple #[.agg ((ap g0.1)).toArray,vI g0.2]) (bd 216) rfl (e1 rfl) (fun w9 hw9=>bD_c n (k0.hL0 hL hw9) (⟨a0.fj,(aJ a0.fo 0 (0:UInt64),aJ a0.fo 1 (0:UInt64),aJ a0.fo 2 (0:UInt64),aJ a0.fo 3 (0:UInt64),aJ a0.fo 4 (0:UInt64),aJ a0.fo 5 (0:UInt64),aJ a0.fo 6 (0:UInt64),aJ a0.fo 7 (0:UInt64))⟩:Tk) z0) rfl<|Ac (Ai rfl rfl)<|Ac (Ai rfl rfl)<|AW (ap g0.1) k0 .t1 (aq rfl) fun W0 q0 I0=>Ag rfl<|Aa<|Am rfl<|Aq hb0 func186 rfl (.cons (.many (cs:=(ap g0.1)) rfl rfl (q0.memA .t1)) (.cons (.tmp rfl) .nil)) rfl ?_
 cases h
 exact q0.gv
def aX_p (n:Nat) (a0:Th):Option (Ta × Int):=
  (bm_p n a0.fv).bind fun b0=>(bm_p n a0.fp).bind fun c0=>(if b0.2 = 0 then (if c0.2 = 0 then some ((⟨b0.1,c0.1⟩:Ta),(0:Int)) else some ((⟨(0,0,0,0,0,0,0,0),(0,0,0,0,0,0,0,0)⟩:Ta),(6:Int))) else some ((⟨(0,0,0,0,0,0,0,0),(0,0,0,0,0,0,0,0)⟩:Ta),(6:Int)))
theorem aX_c (n:Nat) {L w} (hL:hl L w) (a0:Th) {v0_1:Value} (h0_1:Rep.R w L [v0_1] a0.fv.fo) {v0_3:Value} (h0_3:Rep.R w L [v0_3] a0.fp.fo)  {r:Ta × Int} (h:aX_p n a0 = some r) :
 Cl 146 #[.agg #[.bool a0.fv.fj,v0_1,.bool a0.fp.fj,v0_3]] w (ak w fun _ u=>u = .tuple #[.agg ((ac r.1)).toArray,vI r.2]):=by
 unfold aX_p at h
 refine AC func146 rfl rfl rfl fun _ cs0 hb0=>Ae<|RG.bx (Ax w) rfl rfl fun R0 B0 v0 F0=>RG.nl zL v0 fun U0 C0 g0 G0=>Ag rfl<|Aa<|Ae<|Bk 0 rfl<|Ac (Bn (cs:=[.bool a0.fv.fj,v0_1]) rfl rfl (ar (g0.memA .t1) 0 2))<|bk h fun b0 z0 h=>Bf (.tuple #[.agg ((ap b0.1)).toArray,vI b0.2]) (bd 186) rfl (e1 rfl) (fun w9 hw9=>bm_c n (g0.hL0 hL hw9) a0.fv (g0.k0 h0_1 hw9) z0) rfl<|Af rfl<|Ac (Ai rfl rfl)<|Ac (Ai rfl rfl)<|RG.nl zP g0 fun V0 D0 x0 H0=>AW (ap b0.1) x0 .hd (aq rfl) fun W0 j0 I0=>Ag rfl<|Aa<|Ae<|Bk 2 rfl<|Ac (Bn (cs:=[.bool a0.fp.fj,v0_3]) rfl rfl (ar (j0.memA .t2) 2 2))<|bk h fun c0 A0 h=>Bf (.tuple #[.agg ((ap c0.1)).toArray,vI c0.2]) (bd 186) rfl (e1 rfl) (fun w9 hw9=>bm_c n (j0.hL0 hL hw9) a0.fp (j0.k0 h0_3 hw9) A0) rfl<|Af rfl<|Ac (Ai rfl rfl)<|Ac (Ai rfl rfl)<|RG.nl zP j0 fun X0 E0 y0 J0=>AW (ap c0.1) y0 .hd (aq rfl) fun Y0 d0 K0=>Ag rfl<|Aa<|Ak<|Ae<|Af rfl<|Ac (FV.neq (i:=b0.2) (j:=0) rfl rfl) ?_
 refine Af rfl<|RG.ifn (s:=22) rfl h (fun t0 h=>?_) (fun t0 h=>?_)
 refine AV (Aj rfl)<|AV (FV.neq (i:=c0.2) (j:=0) rfl rfl)<|RG.pf rfl rfl<|Aa<|MX.ifn rfl h (fun u0 h=>?_) (fun u0 h=>?_)
 refine Ap<|Ae<|Ac (AD rfl (d0.memA .t1))<|Ac (AD rfl (d0.memA .hd))<|Ac (AX (vs:=[.agg ((ap b0.1)).toArray,.agg ((ap c0.1)).toArray]) (u:=.agg ((ap b0.1 ++ ap c0.1)).toArray) (e2 rfl rfl) (fun w9=>by kernel_rfl))<|AW (ap b0.1 ++ ap c0.1) d0 .t2 (aq rfl) fun Z0 p0 M0=>Ag rfl<|Aa<|Am rfl<|Aq hb0 func146 rfl (.cons (.many (cs:=(ap b0.1 ++ ap c0.1)) rfl rfl (p0.memA .t2)) (.cons (.tmp rfl) .nil)) rfl ?_
 cases h
 exact p0.gv
 refine Ae<|Ac (AX (vs:=[]) (u:=.agg zM) ai (fun w9=>by kernel_rfl))<|AW zL d0 .t2 (aq rfl) fun b1 q0 P0=>Ag rfl<|Aa<|Am rfl<|Aq hb0 func146 rfl (.cons (.many (cs:=zL) rfl rfl (q0.memA .t2)) (.cons (.tmp rfl) .nil)) rfl ?_
 cases h
 exact q0.gv
 refine AG<|AG<|RG.pt rfl rfl<|Aa<|Br rfl<|Ae<|Ac (AX (vs:=[]) (u:=.agg zM) ai (fun w9=>by kernel_rfl))<|AW zL d0 .t2 (aq rfl) fun c1 s0 Q0=>Ag rfl<|Aa<|Am rfl<|Aq hb0 func146 rfl (.cons (.many (cs:=zL) rfl rfl (s0.memA .t2)) (.cons (.tmp rfl) .nil)) rfl ?_
 cases h
 exact s0.gv
theorem lu {w:World} {L:List Nat} {cs:List Value} {x:U8} (h:Rep.R w L cs x):cs = [vU x.1,vU x.2.1,vU x.2.2.1,vU x.2.2.2.1,vU x.2.2.2.2.1,vU x.2.2.2.2.2.1,vU x.2.2.2.2.2.2.1,vU x.2.2.2.2.2.2.2]:=by
  obtain ⟨c0,r0,rfl,h0,h⟩:=h
  have e0:c0 = [vU x.1]:=h0; subst e0
  obtain ⟨c1,r1,rfl,h1,h⟩:=h
  have e1:c1 = [vU x.2.1]:=h1; subst e1
  obtain ⟨c2,r2,rfl,h2,h⟩:=h
  have e2:c2 = [vU x.2.2.1]:=h2; subst e2
  obtain ⟨c3,r3,rfl,h3,h⟩:=h
  have e3:c3 = [vU x.2.2.2.1]:=h3; subst e3
  obtain ⟨c4,r4,rfl,h4,h⟩:=h
  have e4:c4 = [vU x.2.2.2.2.1]:=h4; subst e4
  obtain ⟨c5,r5,rfl,h5,h⟩:=h
  have e5:c5 = [vU x.2.2.2.2.2.1]:=h5; subst e5
  obtain ⟨c6,r6,rfl,h6,h⟩:=h
  have e6:c6 = [vU x.2.2.2.2.2.2.1]:=h6; subst e6
  have e7:r6 = [vU x.2.2.2.2.2.2.2]:=h; subst e7
  rfl
theorem lm {w:World} {L:List Nat} (a0:UInt64) (a1:UInt64) (a2:UInt64) (a3:UInt64) (a4:UInt64) (a5:UInt64) (a6:UInt64) (a7:UInt64):Rep.R w L [vU a0,vU a1,vU a2,vU a3,vU a4,vU a5,vU a6,vU a7] ((a0,a1,a2,a3,a4,a5,a6,a7):U8):=⟨[vU a0],[vU a1,vU a2,vU a3,vU a4,vU a5,vU a6,vU a7],rfl,rfl,⟨[vU a1],[vU a2,vU a3,vU a4,vU a5,vU a6,vU a7],rfl,rfl,⟨[vU a2],[vU a3,vU a4,vU a5,vU a6,vU a7],rfl,rfl,⟨[vU a3],[vU a4,vU a5,vU a6,vU a7],rfl,rfl,⟨[vU a4],[vU a5,vU a6,vU a7],rfl,rfl,⟨[vU a5],[vU a6,vU a7],rfl,rfl,⟨[vU a6],[vU a7],rfl,rfl,rfl⟩⟩⟩⟩⟩⟩⟩
theorem iN {a b:U8} (h0:a.1 = b.1) (h1:a.2.1 = b.2.1) (h2:a.2.2.1 = b.2.2.1) (h3:a.2.2.2.1 = b.2.2.2.1) (h4:a.2.2.2.2.1 = b.2.2.2.2.1) (h5:a.2.2.2.2.2.1 = b.2.2.2.2.2.1) (h6:a.2.2.2.2.2.2.1 = b.2.2.2.2.2.2.1) (h7:a.2.2.2.2.2.2.2 = b.2.2.2.2.2.2.2):a = b:=Prod.ext h0 (Prod.ext h1 (Prod.ext h2 (Prod.ext h3 (Prod.ext h4 (Prod.ext h5 (Prod.ext h6 (h7)))))))
theorem jR (a b:U8) (w9:World):(do eqGuard .eql 46 (.tmp 0) (.tmp 0) (.agg #[vU a.1,vU a.2.1,vU a.2.2.1,vU a.2.2.2.1,vU a.2.2.2.2.1,vU a.2.2.2.2.2.1,vU a.2.2.2.2.2.2.1,vU a.2.2.2.2.2.2.2]) (.agg #[vU b.1,vU b.2.1,vU b.2.2.1,vU b.2.2.2.1,vU b.2.2.2.2.1,vU b.2.2.2.2.2.1,vU b.2.2.2.2.2.2.1,vU b.2.2.2.2.2.2.2]); binOp .eql 46 (.agg #[vU a.1,vU a.2.1,vU a.2.2.1,vU a.2.2.2.1,vU a.2.2.2.2.1,vU a.2.2.2.2.2.1,vU a.2.2.2.2.2.2.1,vU a.2.2.2.2.2.2.2]) (.agg #[vU b.1,vU b.2.1,vU b.2.2.1,vU b.2.2.2.1,vU b.2.2.2.2.1,vU b.2.2.2.2.2.1,vU b.2.2.2.2.2.2.1,vU b.2.2.2.2.2.2.2]):Sem Value).run Tryz.prog w9 = .ok (.bool (decide (a = b))) w9:=
  ll (ks:=[.int .u64,.int .u64,.int .u64,.int .u64,.int .u64,.int .u64,.int .u64,.int .u64]) (xs:=[vU a.1,vU a.2.1,vU a.2.2.1,vU a.2.2.2.1,vU a.2.2.2.2.1,vU a.2.2.2.2.2.1,vU a.2.2.2.2.2.2.1,vU a.2.2.2.2.2.2.2]) (ys:=[vU b.1,vU b.2.1,vU b.2.2.1,vU b.2.2.2.1,vU b.2.2.2.2.1,vU b.2.2.2.2.2.1,vU b.2.2.2.2.2.2.1,vU b.2.2.2.2.2.2.2]) (by kernel_rfl) (by kernel_rfl) (by kernel_rfl) rfl rfl ⟨fun h=>by
    simp only [bc,veq,Bool.and_eq_true,beq_iff_eq,and_true] at h
    obtain ⟨h0,h1,h2,h3,h4,h5,h6,h7⟩:=h
    exact iN (aj h0) (aj h1) (aj h2) (aj h3) (aj h4) (aj h5) (aj h6) (aj h7),fun h=>by subst h; simp [bc,veq]⟩ _ _ w9
def cx_p (n:Nat) (a0:U8) (a1:U8):Option (Ta × Int):=
  (if a1 = (0,0,0,0,0,0,0,0) then some ((⟨(0,0,0,0,0,0,0,0),(0,0,0,0,0,0,0,0)⟩:Ta),(7:Int)) else (bb_p n a0).bind fun c0=>(bb_p n a1).bind fun d0=>(br_p n c0 d0).bind fun g0=>(aX_p n g0).bind fun b0=>some (b0.1,b0.2))
theorem cx_c (n:Nat) {L w} (hL:hl L w) (a0:U8) (a1:U8)  {r:Ta × Int} (h:cx_p n a0 a1 = some r) :
 Cl 114 #[.agg ((ap a0)).toArray,.agg ((ap a1)).toArray] w (ak w fun _ u=>u = .tuple #[.agg ((ac r.1)).toArray,vI r.2]):=by
 unfold cx_p at h
 refine AC func114 rfl rfl rfl fun _ cs0 hb0=>Ae<|RG.bx (Ax w) rfl rfl fun s1 P0 u0 U0=>RG.bx u0 rfl rfl fun u1 Q0 v0 V0=>RG.nl zL v0 fun v1 R0 c0 W0=>Ag rfl<|Aa<|Ak<|Ae<|Ac (AD rfl (c0.memA .t1))<|Ac (AX (vs:=[]) (u:=.agg zQ) ai (fun w9=>by kernel_rfl))<|Ac (FV.eqlV (v:=.agg ((ap a1)).toArray) (u:=.agg zQ) rfl rfl (jR a1 (0,0,0,0,0,0,0,0)))<|Aa<|AI rfl h (fun t0 h=>?_) (fun t0 h=>?_)
 refine Ae<|Ac (AX (vs:=[]) (u:=.agg zM) ai (fun w9=>by kernel_rfl))<|AW zL c0 .hd (aq rfl) fun x1 k0 X0=>Ag rfl<|Aa<|Am rfl<|Aq hb0 func114 rfl (.cons (.many (cs:=zL) rfl rfl (k0.memA .hd)) (.cons (.tmp rfl) .nil)) rfl ?_
 cases h
 exact k0.gv
 refine Ap<|Ak<|du 8 fun b0 d0=>Rx 0 1018 b0 rfl d0 (AD rfl (c0.memA .t2))<|Rx 2 1016 b0 rfl d0 (AD rfl (c0.memA .t1))<|bk h fun J0 F0 h=>BA 1 7 b0 rfl .plain (bd 145) rfl (e1 rfl) (fun w9 hw9=>bb_c n (c0.hL hL hw9) a0 F0) rfl fun w32 k1 y0 ⟨c1,hu_,B0⟩=>?_
 subst hu_
 obtain ⟨p0,Y0⟩:=c0.agr y0
 refine bk h fun K0 G0 h=>BA 3 15 b0 rfl .plain (bd 145) rfl (e1 rfl) (fun w9 hw9=>bb_c n (p0.hL hL hw9) a1 G0) rfl fun y1 p1 z0 ⟨d1,hu_,C0⟩=>?_
 subst hu_
 obtain ⟨q0,x0⟩:=p0.agr z0
 refine bk h fun M0 H0 h=>BA 4 31 b0 rfl .plain (bd 144) rfl (e2 rfl rfl) (fun w9 hw9=>br_c n (q0.hL hL hw9) J0 (Av (Az B0 x0) hw9) K0 (Av C0 hw9) H0) rfl fun z1 q1 A0 ⟨g1,j1,hu_,D0,E0⟩=>?_
 subst hu_
 obtain ⟨g0,Z0⟩:=q0.agr A0
 refine bk h fun j0 I0 h=>RD.cq 5 63 960 (.tuple #[.agg ((ac j0.1)).toArray,vI j0.2]) b0 rfl d0 (bd 146) rfl (e1 rfl) (fun w9 hw9=>aX_c n (g0.hL0 hL hw9) M0 (g0.kd D0 hw9) (g0.kd E0 hw9) I0) rfl<|Rv 6 b0 rfl d0 (fun _=>Ai rfl rfl)<|Rv 7 b0 rfl d0 (fun _=>Ai rfl rfl)<|BB 8 511 b0 rfl rfl .plain (AB (news:=(ac j0.1)) g0 .hd rfl rfl rfl rfl rfl rfl (aq rfl)) fun A1 s0 b1=>By (i:=9) (rk b0) (RO.val (m' :=1023) (sk b0) rfl .plain rfl (Bc rfl) ?_)
 refine AH (dk b0)<|Am rfl<|Aq hb0 func114 rfl (.cons (.many (cs:=(ac j0.1)) rfl rfl (s0.memA .hd)) (.cons (.tmp rfl) .nil)) rfl ?_
 cases h
 exact s0.gv
def cm_l1 (_n:Nat) (t0:Nat × U8 -> Option (U8)):Nat × U8 -> Option (U8)
  | (b0,c0,d0,g0,j0,k0,p0,q0,s0)=>(if b0 < 8 then (([c0,d0,g0,j0,k0,p0,q0,s0]:List UInt64)[b0]?).bind fun _z71=>t0 (b0 + 1,br b0 0 (18446744073709551615:UInt64) c0,br b0 1 (18446744073709551615:UInt64) d0,br b0 2 (18446744073709551615:UInt64) g0,br b0 3 (18446744073709551615:UInt64) j0,br b0 4 (18446744073709551615:UInt64) k0,br b0 5 (18446744073709551615:UInt64) p0,br b0 6 (18446744073709551615:UInt64) q0,br b0 7 (18446744073709551615:UInt64) s0) else some (c0,d0,g0,j0,k0,p0,q0,s0))
def cm_p (n:Nat) (a0:Int):Option (U8):=
  (if a0 < 0 then Option.bind (ao (cm_l1 n) n (1,ae a0,0,0,0,0,0,0,0)) (fun (b0,c0,d0,g0,j0,k0,p0,q0)=>some (b0,c0,d0,g0,j0,k0,p0,q0)) else some (ae a0,0,0,0,0,0,0,0))
theorem cm_c (n:Nat) {L w} (_hL:hl L w) {a0:Int}  {r:U8} (h:cm_p n a0 = some r) :
 Cl 115 #[vI a0] w (ak w fun _ u=>u = .agg ((ap r)).toArray):=by
 unfold cm_p at h
 refine AC func115 rfl rfl rfl fun _ cs0 hb0=>Ae<|RG.nl zP (Ax w) fun Y0 y0 E0 P0=>Aa<|Ae<|Af rfl<|Ac (FV.convU (i:=a0) underlying3 underlying44 rfl)<|Ac (AX (vs:=[vW ((ae a0).toNat:Int)]) (u:=.agg #[vW ((ae a0).toNat:Int),vW 0,vW 0,vW 0,vW 0,vW 0,vW 0,vW 0]) (e1 rfl) (fun w9=>by kernel_rfl))<|RG.nl zP E0 fun Z0 u0 F0 Q0=>AW [vW ((ae a0).toNat:Int),vW 0,vW 0,vW 0,vW 0,vW 0,vW 0,vW 0] F0 .hd (aq rfl) fun b1 v0 R0=>Aa<|Ak<|Ae<|Af rfl<|Ac (FV.lss (i:=a0) (j:=0) rfl rfl)<|Aa<|AI rfl h (fun B0 h=>?_) (fun B0 h=>?_)
 refine Ae<|Ag rfl<|Aa<|Au ?_
 obtain ⟨X0,K0,J0⟩:=av h
 refine MX.lo (α:=Nat × U8) (fun ⟨b0,c0,d0,g0,j0,k0,p0,q0,s0⟩=>[(2,vP y0),(3,vP u0),(4,vI ((b0:Nat):Int))]) (fun ⟨b0,c0,d0,g0,j0,k0,p0,q0,s0⟩=>[.cells u0 [vU c0,vU d0,vU g0,vU j0,vU k0,vU p0,vU q0,vU s0] 46,.cells y0 zP 46]) (fun ⟨b0,c0,d0,g0,j0,k0,p0,q0,s0⟩=>(b0,c0,d0,g0,j0,k0,p0,q0,s0)) (1,ae a0,0,0,0,0,0,0,0) K0 v0 ?_
 rintro M0 ⟨b0,c0,d0,g0,j0,k0,p0,q0,s0⟩ j1 D0 t0 H0 h
 unfold cm_l1 at h
 try dsimp only at h
 refine Ak<|Ae<|Af rfl<|Ac (Bm (i:=b0) (j:=8) rfl rfl)<|Aa<|AI rfl h (fun C0 h=>?_) (fun C0 h=>?_)
 refine Ap<|Ak<|Au<|Ao<|Af rfl<|bk h fun k1 x0 h=>?_
 have W0:=aP (p:=⟨u0,0,none⟩) (cs:=([c0,d0,g0,j0,k0,p0,q0,s0]:List UInt64).map (fun z9:UInt64=>(vU z9:Value)) ++ []) (i:=b0) (t0.memA .hd) (dF (fun z9:UInt64=>(vU z9:Value)) x0)
 refine Ac (AM (m:=1) (k:=b0) (len:=8) rfl rfl rfl rfl (bp x0 rfl))<|RG.now .plain (Acts.storeArr (fun z9:UInt64=>(vU z9:Value)) (xs:=([c0,d0,g0,j0,k0,p0,q0,s0]:List UInt64)) (pre:=[]) (post:=[]) (i:=b0) (m:=8) (x:=(18446744073709551615:UInt64)) (old:=[vU c0,vU d0,vU g0,vU j0,vU k0,vU p0,vU q0,vU s0]) (new' :=[vW ((br b0 0 (18446744073709551615:UInt64) c0).toNat:Int),vW ((br b0 1 (18446744073709551615:UInt64) d0).toNat:Int),vW ((br b0 2 (18446744073709551615:UInt64) g0).toNat:Int),vW ((br b0 3 (18446744073709551615:UInt64) j0).toNat:Int),vW ((br b0 4 (18446744073709551615:UInt64) k0).toNat:Int),vW ((br b0 5 (18446744073709551615:UInt64) p0).toNat:Int),vW ((br b0 6 (18446744073709551615:UInt64) q0).toNat:Int),vW ((br b0 7 (18446744073709551615:UInt64) s0).toNat:Int)]) rfl rfl (bp x0 rfl) t0 .hd rfl (gz _ _ _) rfl rfl (fun _=>⟨rfl,rfl⟩) rfl rfl) fun c1 G0 I0=>Aa<|Ay<|Ao<|Af rfl<|Ac (Bg (i:=b0) (j:=1) rfl rfl (by omega))<|Ag rfl<|Aa<|D0 (b0 + 1,br b0 0 (18446744073709551615:UInt64) c0,br b0 1 (18446744073709551615:UInt64) d0,br b0 2 (18446744073709551615:UInt64) g0,br b0 3 (18446744073709551615:UInt64) j0,br b0 4 (18446744073709551615:UInt64) k0,br b0 5 (18446744073709551615:UInt64) p0,br b0 6 (18446744073709551615:UInt64) q0,br b0 7 (18446744073709551615:UInt64) s0) G0 (Tt H0 I0) h
 refine AT rfl ?_
 have h:=J0 _ h
 try dsimp only at h
 refine Ae<|Ac (AD rfl (t0.memA .hd))<|AW [vU c0,vU d0,vU g0,vU j0,vU k0,vU p0,vU q0,vU s0] t0 .t1 (aq rfl) fun d1 z0 U0=>Aa<|Am rfl<|Aq hb0 func115 rfl (.cons (.many (cs:=[vU c0,vU d0,vU g0,vU j0,vU k0,vU p0,vU q0,vU s0]) rfl rfl (z0.memA .t1)) .nil) rfl ?_
 cases h
 exact z0.gv
 refine Ap<|Ae<|Ac (AD rfl (v0.memA .hd))<|AW [vW ((ae a0).toNat:Int),vW 0,vW 0,vW 0,vW 0,vW 0,vW 0,vW 0] v0 .t1 (aq rfl) fun g1 A0 V0=>Aa<|Am rfl<|Aq hb0 func115 rfl (.cons (.many (cs:=[vW ((ae a0).toNat:Int),vW 0,vW 0,vW 0,vW 0,vW 0,vW 0,vW 0]) rfl rfl (A0.memA .t1)) .nil) rfl ?_
 cases h
 exact A0.gv
def cr_p (n:Nat) (a0:Int) (a1:Int):Option (Ta × Int):=
  (cm_p n a0).bind fun c0=>(cm_p n a1).bind fun d0=>(cx_p n c0 d0).bind fun b0=>some (b0.1,b0.2)
theorem cr_c (n:Nat) {L w} (hL:hl L w) {a0:Int} {a1:Int}  {r:Ta × Int} (h:cr_p n a0 a1 = some r) :
 Cl 82 #[vI a0,vI a1] w (ak w fun _ u=>u = .tuple #[.agg ((ac r.1)).toArray,vI r.2]):=by
 unfold cr_p at h
 refine AC func82 rfl rfl rfl fun _ cs0 hb0=>Ae<|RG.nl zL (Ax w) fun v0 s0 b0 t0=>Ag rfl<|Aa<|Ae<|Af rfl<|bk h fun g0 k0 h=>Bf (.agg ((ap g0)).toArray) (bd 115) rfl (e1 rfl) (fun w9 hw9=>cm_c n (b0.hL0 hL hw9)  k0) rfl<|Af rfl<|bk h fun j0 p0 h=>Bf (.agg ((ap j0)).toArray) (bd 115) rfl (e1 rfl) (fun w9 hw9=>cm_c n (b0.hL0 hL hw9)  p0) rfl<|bk h fun c0 q0 h=>Bf (.tuple #[.agg ((ac c0.1)).toArray,vI c0.2]) (bd 114) rfl (e2 rfl rfl) (fun w9 hw9=>cx_c n (b0.hL0 hL hw9) g0 j0 q0) rfl<|Ac (Ai rfl rfl)<|Ac (Ai rfl rfl)<|AW (ac c0.1) b0 .hd (aq rfl) fun x0 d0 u0=>Ag rfl<|Aa<|Am rfl<|Aq hb0 func82 rfl (.cons (.many (cs:=(ac c0.1)) rfl rfl (d0.memA .hd)) (.cons (.tmp rfl) .nil)) rfl ?_
 cases h
 exact d0.gv
def ao_p (_n:Nat) (a0:Ta) (a1:Int):Option (Except Te Ta):=
  (if a1 = 0 then some (.ok a0) else some (.error (⟨a1⟩:Te)))
theorem ao_c (n:Nat) {L w} (_hL:hl L w) (a0:Ta) {a1:Int}  {r:Except Te Ta} (h:ao_p n a0 a1 = some r) :
 Cl 92 #[.agg ((ac a0)).toArray,vI a1] w (aD w (fun (y:Ta) _ u=>u = .agg ((ac y)).toArray) (fun e=>.iface 138 (.agg #[vI e.fy])) r):=by
 unfold ao_p at h
 refine Bz func92 rfl rfl rfl fun _ cs0 hb0 hp0=>Ae<|RG.bx (Ax w) rfl rfl fun t0 j0 g0 p0=>RG.nl zL g0 fun u0 k0 b0 q0=>Aa<|Ak<|Ae<|Af rfl<|Ac (FV.neq (i:=a1) (j:=0) rfl rfl)<|Aa<|MX.ifn rfl h (fun d0 h=>?_) (fun d0 h=>?_)
 refine Ap<|Ae<|Ac (AD rfl (b0.memA .t1))<|AW (ac a0) b0 .hd (aq rfl) fun v0 c0 s0=>Aa<|Am rfl<|Aq hb0 func92 rfl (.cons (.many (cs:=(ac a0)) rfl rfl (c0.memA .hd)) .nil) rfl ?_
 cases h
 exact ⟨c0.ag,fun w9 hw9=>ay rfl⟩
 refine Ao<|Af rfl<|Ac (AX (vs:=[vI a1]) (u:=.agg #[vI a1]) (e1 rfl) (fun w9=>by kernel_rfl))<|Ac (FV.makeInterface rfl rfl)<|RG.panic .plain rfl ?_
 cases h
 exact AS hp0 func92 ⟨b0.ag,rfl⟩
def aY_p (n:Nat) (a0:Int) (a1:Int):Option (Except Te Ta):=
  (cr_p n a0 a1).bind fun b0=>(ao_p n b0.1 b0.2).bind fun d0=>exc d0 (fun g0=>some (.ok g0)) (fun c0=>some (.error c0))
theorem aY_c (n:Nat) {L w} (hL:hl L w) {a0:Int} {a1:Int}  {r:Except Te Ta} (h:aY_p n a0 a1 = some r) :
 Cl 48 #[vI a0,vI a1] w (aD w (fun (y:Ta) _ u=>u = .agg ((ac y)).toArray) (fun e=>.iface 138 (.agg #[vI e.fy])) r):=by
 unfold aY_p at h
 refine Bz func48 rfl rfl rfl fun _ cs0 hb0 hp0=>Ae<|RG.nl zL (Ax w) fun y0 s0 b0 u0=>Aa<|Ae<|Af rfl<|Af rfl<|bk h fun c0 q0 h=>Bf (.tuple #[.agg ((ac c0.1)).toArray,vI c0.2]) (bd 82) rfl (e2 rfl rfl) (fun w9 hw9=>cr_c n (b0.hL0 hL hw9)  q0) rfl<|Ac (Ai rfl rfl)<|Ac (Ai rfl rfl)<|xk h (fun t0 d0 h=>?_) (fun g0 d0 h=>?_)
 refine Bi (fst:=[]) (cap:=[]) .plain (bd 92) rfl (e2 rfl rfl) (fun w9 hw9=>ao_c n (b0.hL0 hL hw9) c0.1 d0) fun z0 p0=>?_
 obtain ⟨k0,v0⟩:=b0.agr p0
 cases h
 exact AS hp0 func48 ⟨k0.ag,rfl⟩
 refine Bf (.agg ((ac g0)).toArray) (bd 92) rfl (e2 rfl rfl) (fun w9 hw9=>AP (ao_c n (b0.hL0 hL hw9) c0.1 d0)) rfl<|AW (ac g0) b0 .hd (aq rfl) fun A0 j0 x0=>Aa<|Am rfl<|Aq hb0 func48 rfl (.cons (.many (cs:=(ac g0)) rfl rfl (j0.memA .hd)) .nil) rfl ?_
 cases h
 exact ⟨j0.ag,fun w9 hw9=>ay rfl⟩
def bY_l1 (n:Nat) (j0:List (Int × Int)) (q0:Int × Int × Nat -> Option (Int × Int)):Int × Int × Nat -> Option (Int × Int)
  | (k0,p0,d0)=>(if d0 < j0.length then (j0[d0]?).bind fun b0=>(chk (b0.1 - b0.2)).bind fun s0=>(chk (2 * s0)).bind fun t0=>(chk (k0 + t0)).bind fun g0=>jn (fun B0=>(bg_p n b0).bind fun y0=>(chk (p0 + y0)).bind fun u0=>q0 (B0,u0,d0 + 1)) (fun c0=>(if b0.2 < b0.1 then (bg_p n b0).bind fun z0=>(chk (g0 - z0)).bind fun v0=>c0 v0 else (if b0.1 < b0.2 then (bg_p n b0).bind fun A0=>(chk (g0 + A0)).bind fun x0=>c0 x0 else c0 g0))) else some (p0,k0))
def bY_p (n:Nat) (a0:Tf) (a1:List Int) (a2:Int) (a3:Int) (a4:Int):Option (Except Te Ta):=
  (aQ_p n a0 a1 a2 a3 a4).bind fun g0=>exc g0 (fun j0=>Option.bind (ao (bY_l1 n j0) n (0,0,0)) (fun (s0,q0)=>(chk (2 * s0)).bind fun d0=>(aY_p n q0 d0).bind fun k0=>exc k0 (fun p0=>some (.ok p0)) (fun c0=>some (.error c0)))) (fun b0=>some (.error b0))
theorem bY_c (n:Nat) {L w} (hL:hl L w) (a0:Tf) {v0_3:Value} (h0_3:Rep.R w L [v0_3] a0.fu) {p0:Nat} (m0:∀ j9 v9,([vI a0.fh,vI a0.fc,vI a0.fe,v0_3]:List Value)[j9]? = some v9 -> w.cell? ((⟨p0,0,none⟩:Addr).add j9) = some v9) {a1:List Int} {v1_0:Value} (h1_0:Rep.R w L [v1_0] a1) {p1:Nat} (m1:∀ j9 v9,([v1_0]:List Value)[j9]? = some v9 -> w.cell? ((⟨p1,0,none⟩:Addr).add j9) = some v9) {a2:Int} {p2:Nat} (m2:∀ j9 v9,([vI a2]:List Value)[j9]? = some v9 -> w.cell? ((⟨p2,0,none⟩:Addr).add j9) = some v9) {a3:Int} {p3:Nat} (m3:∀ j9 v9,([vI a3]:List Value)[j9]? = some v9 -> w.cell? ((⟨p3,0,none⟩:Addr).add j9) = some v9) {a4:Int} {p4:Nat} (m4:∀ j9 v9,([vI a4]:List Value)[j9]? = some v9 -> w.cell? ((⟨p4,0,none⟩:Addr).add j9) = some v9)  {r:Except Te Ta} (h:bY_p n a0 a1 a2 a3 a4 = some r) :
 Cl 45 #[.pointer (some ⟨p0,0,none⟩),.pointer (some ⟨p1,0,none⟩),.pointer (some ⟨p2,0,none⟩),.pointer (some ⟨p3,0,none⟩),.pointer (some ⟨p4,0,none⟩)] w (aD w (fun (y:Ta) _ u=>u = .agg ((ac y)).toArray) (fun e=>.iface 138 (.agg #[vI e.fy])) r):=by
 unfold bY_p at h
 refine Bz func45 rfl rfl rfl fun _ cs0 hb0 hp0=>Ae<|RG.nl zL (Ax w) fun u2 u0 c0 b2=>Aa<|Ae<|Ag rfl<|Ag rfl<|Aa<|Ak<|Ae<|Ac (AD rfl (fun j9 v9 h9=>c0.ag.cell0 (m0 j9 v9 h9)))<|AO rfl ((fun j9 v9 h9=>c0.ag.cell0 (m1 j9 v9 h9)) 0 _ rfl)<|AO rfl ((fun j9 v9 h9=>c0.ag.cell0 (m2 j9 v9 h9)) 0 _ rfl)<|AO rfl ((fun j9 v9 h9=>c0.ag.cell0 (m3 j9 v9 h9)) 0 _ rfl)<|AO rfl ((fun j9 v9 h9=>c0.ag.cell0 (m4 j9 v9 h9)) 0 _ rfl)<|xk h (fun Y1 z0 h=>?_) (fun t0 z0 h=>?_)
 refine Bi (fst:=[]) (cap:=[]) .plain (bd 46) rfl (e5 rfl rfl rfl rfl rfl) (fun w9 hw9=>aQ_c n (c0.hL hL hw9) a0 (c0.km h0_3 hw9) (c0.km h1_0 hw9) z0) fun y2 j1=>?_
 obtain ⟨W0,g2⟩:=c0.agr j1
 cases h
 exact AS hp0 func45 ⟨W0.ag,rfl⟩
 refine jE (bd 46) rfl (e5 rfl rfl rfl rfl rfl) (fun w9 hw9=>AP (aQ_c n (c0.hL hL hw9) a0 (c0.km h0_3 hw9) (c0.km h1_0 hw9) z0)) rfl fun B2 G0 k1 ⟨t2,hu_,y0⟩=>?_
 subst hu_
 obtain ⟨X0,j2⟩:=c0.agr k1
 have k2:t0.length <= 281474976710656:=AY y0
 refine Ac (Be (xs:=t0) underlying92 rfl y0)<|Af rfl<|Aa<|Au ?_
 obtain ⟨q2,v1,s1⟩:=av h
 refine MX.lo (α:=Int × Int × Nat) (fun ⟨k0,j0,g0⟩=>[(5,vP u0),(6,vI k0),(7,vI j0),(15,G0),(16,vI ((t0.length:Nat):Int)),(17,vI ((g0:Nat):Int))]) (fun ⟨k0,j0,g0⟩=>[.cells u0 zL 48]) (fun ⟨k0,j0,g0⟩=>(k0,j0,g0)) (0,0,0) v1 X0 ?_
 rintro U1 ⟨k0,j0,g0⟩ C2 Q0 s0 F0 h
 unfold bY_l1 at h
 try dsimp only at h
 refine Ae<|Ac (Bm (i:=g0) (j:=t0.length) rfl rfl)<|Aa<|Ak<|AI rfl h (fun K0 h=>?_) (fun K0 h=>?_)
 refine Ap<|Ak<|Au<|Ae<|bk h fun d0 F1 h=>?_
 obtain ⟨R1,W1,q1,t1,X1,x1,u1⟩:=Bl (Az y0 F0) F1
 obtain rfl:=iP x1
 refine Ac (Bh 2 g0 rfl q1 rfl rfl t1)<|Ac (AD rfl u1)<|RG.nl [vI 0,vI 0] s0 fun v2 D0 R0 Y0=>AW [vI d0.1,vI d0.2] R0 .hd (aq rfl) fun x2 b0 Z0=>Aa<|Ae<|Af rfl<|Ac (AM (m:=1) (k:=0) (len:=2) rfl rfl rfl rfl (by omega))<|AO rfl ((b0.memA .hd) 0 _ rfl)<|Ac (AM (m:=1) (k:=1) (len:=2) rfl rfl rfl rfl (by omega))<|AO rfl ((b0.memA .hd) 1 _ rfl)<|bk h fun J1 y1 h=>Ac (FV.subc (i:=d0.1) (j:=d0.2) rfl rfl y1)<|bk h fun K1 z1 h=>Ac (FV.mulc (i:=2) (j:=J1) rfl rfl z1)<|bk h fun B0 A1 h=>Ac (Bs (i:=k0) (j:=K1) rfl rfl A1)<|Ag rfl<|Aa<|Ak<|Au<|Ae<|Ac (AM (m:=1) (k:=0) (len:=2) rfl rfl rfl rfl (by omega))<|AO rfl ((b0.memA .hd) 0 _ rfl)<|Ac (AM (m:=1) (k:=1) (len:=2) rfl rfl rfl rfl (by omega))<|AO rfl ((b0.memA .hd) 1 _ rfl)<|Ac (FV.gtr (i:=d0.1) (j:=d0.2) rfl rfl)<|Ag rfl<|Aa<|MX.jo (α:=Int) (fun q0=>[(5,vP u0),(6,vI q0),(7,vI j0),(15,G0),(16,vI ((t0.length:Nat):Int)),(17,vI ((g0:Nat):Int)),(9,vP D0)]) (fun q0=>[.cells D0 [vI d0.1,vI d0.2] 94,.cells u0 zL 48]) (fun q0=>q0) b0 h ?_ ?_
 rintro q0 D2 x0 b1 h
 try dsimp only at h
 refine Ay<|Ao<|Af rfl<|Ac (AD rfl (x0.memA .hd))<|bk h fun H0 G1 h=>Bf (vI H0) (bd 47) rfl (e1 rfl) (fun w9 hw9=>bg_c n (x0.hL0 hL hw9) d0 G1) rfl<|bk h fun M1 B1 h=>Ac (Bs (i:=j0) (j:=H0) rfl rfl B1)<|Ag rfl<|Aa<|Ay<|Ao<|Ac (Bg (i:=g0) (j:=1) rfl rfl (by omega))<|Af rfl<|Aa ?_
 obtain ⟨U0,c1⟩:=AN x0 .d1
 exact Q0 (q0,M1,g0 + 1) U0 (Tt F0 (Tt Y0 (Tt Z0 (Tt b1 c1)))) h
 intro V1 v0 h
 try dsimp only at h
 refine AI rfl h (fun M0 h=>?_) (fun M0 h=>?_)
 refine Ao<|Af rfl<|Ac (AD rfl (b0.memA .hd))<|bk h fun I0 H1 h=>Bf (vI I0) (bd 47) rfl (e1 rfl) (fun w9 hw9=>bg_c n (b0.hL0 hL hw9) d0 H1) rfl<|bk h fun P1 C1 h=>Ac (FV.subc (i:=B0) (j:=I0) rfl rfl C1)<|Ag rfl<|Aa<|v0 P1 b0 (Tr.refl _ _) h
 refine Ae<|Ac (AM (m:=1) (k:=0) (len:=2) rfl rfl rfl rfl (by omega))<|AO rfl ((b0.memA .hd) 0 _ rfl)<|Ac (AM (m:=1) (k:=1) (len:=2) rfl rfl rfl rfl (by omega))<|AO rfl ((b0.memA .hd) 1 _ rfl)<|Ac (FV.lss (i:=d0.1) (j:=d0.2) rfl rfl)<|Ag rfl<|Aa<|AI rfl h (fun P0 h=>?_) (fun P0 h=>?_)
 refine Ao<|Af rfl<|Ac (AD rfl (b0.memA .hd))<|bk h fun J0 I1 h=>Bf (vI J0) (bd 47) rfl (e1 rfl) (fun w9 hw9=>bg_c n (b0.hL0 hL hw9) d0 I1) rfl<|bk h fun Q1 D1 h=>Ac (Bs (i:=B0) (j:=J0) rfl rfl D1)<|Ag rfl<|Aa<|v0 Q1 b0 (Tr.refl _ _) h
 refine Ap<|v0 B0 b0 (Tr.refl _ _) h
 refine AT rfl ?_
 have h:=s1 _ h
 try dsimp only at h
 refine Ae<|Af rfl<|Af rfl<|bk h fun s2 E1 h=>Ac (FV.mulc (i:=2) (j:=j0) rfl rfl E1)<|xk h (fun Z1 A0 h=>?_) (fun C0 A0 h=>?_)
 refine Bi (fst:=[]) (cap:=[]) .plain (bd 48) rfl (e2 rfl rfl) (fun w9 hw9=>aY_c n (s0.hL0 hL hw9)  A0) fun z2 g1=>?_
 obtain ⟨V0,c2⟩:=s0.agr g1
 cases h
 exact AS hp0 func45 ⟨V0.ag,rfl⟩
 refine Bf (.agg ((ac C0)).toArray) (bd 48) rfl (e2 rfl rfl) (fun w9 hw9=>AP (aY_c n (s0.hL0 hL hw9)  A0)) rfl<|AW (ac C0) s0 .hd (aq rfl) fun A2 E0 d2=>Aa<|Am rfl<|Aq hb0 func45 rfl (.cons (.many (cs:=(ac C0)) rfl rfl (E0.memA .hd)) .nil) rfl ?_
 cases h
 exact ⟨E0.ag,fun w9 hw9=>ay rfl⟩
def cp_p (n:Nat) (a0:Tf) (a1:List Int) (a2:Int) (a3:Int) (a4:Int):Option (Ta × Int):=
  (bY_p n a0 a1 a2 a3 a4).bind fun c0=>exc c0 (fun d0=>some (d0,(0:Int))) (fun b0=>some ((⟨(0,0,0,0,0,0,0,0),(0,0,0,0,0,0,0,0)⟩:Ta),b0.fy))
theorem cp_c (n:Nat) {L w} (hL:hl L w) (a0:Tf) {v0_3:Value} (h0_3:Rep.R w L [v0_3] a0.fu) {a1:List Int} {v1_0:Value} (h1_0:Rep.R w L [v1_0] a1) {a2:Int} {a3:Int} {a4:Int}  {r:Ta × Int} (h:cp_p n a0 a1 a2 a3 a4 = some r) :
 Cl 12 #[.agg #[vI a0.fh,vI a0.fc,vI a0.fe,v0_3],v1_0,vI a2,vI a3,vI a4] w (ak w fun _ u=>u = .tuple #[.agg ((ac r.1)).toArray,vI r.2]):=by
 unfold cp_p at h
 refine AC func12 rfl rfl rfl fun _ cs0 hb0=>Ae<|RG.bx (Ax w) rfl rfl fun b2 j0 F0 G1=>RG.bx F0 rfl (Rep.c1 (AQ h1_0 F0)) fun q2 p0 U0 J1=>RG.bx U0 rfl rfl fun s2 q0 V0 K1=>RG.bx V0 rfl rfl fun u2 s0 W0 M1=>RG.bx W0 rfl rfl fun w32 t0 X0 P1=>RG.nl zL X0 fun v2 K0 Y0 Q1=>Ag rfl<|Aa<|Ae<|Ac (Bw (vs:=[]) (us:=[vP j0,vP p0,vP q0,vP s0,vP t0]) ai (e5 rfl rfl rfl rfl rfl))<|Bq (fst:=[]) (cap:=[]) (vs:=[.func (.func 45) #[] #[vP j0,vP p0,vP q0,vP s0,vP t0]]) .plain (bd 44) func44 rfl rfl rfl rfl (e1 rfl) rfl fun B1 I0 Z1=>Ae<|RG.nl zL Y0 fun x2 u0 Z0 R1=>RG.nl [vI 0] Z0 fun y2 d0 b0 U1=>?_
 refine Aa<|Ae<|Ac (Bw (vs:=[]) (us:=[vP u0,vP d0]) ai (e2 rfl rfl))<|RG.defer (fst:=[]) (cap:=[vP u0,vP d0]) (vs:=[]) rfl .plain rfl ai<|Aa<|Ae<|Af rfl<|xk h (fun x0 C0 h=>?_) (fun g0 C0 h=>?_)
 refine Bi (fst:=[]) (cap:=[vP j0,vP p0,vP q0,vP s0,vP t0]) .plain (bd 45) rfl ai (fun w9 hw9=>bY_c n (b0.hL0 hL hw9) a0 (b0.k0 h0_3 hw9) (ah hw9 (b0.memA .t7)) (b0.k0 h1_0 hw9) (ah hw9 (b0.memA .t6)) (ah hw9 (b0.memA .t5)) (ah hw9 (b0.memA .t4)) (ah hw9 (b0.memA .t3)) C0) fun z2 p1=>?_
 obtain ⟨b1,V1⟩:=b0.agr p1
 refine PN.callD (vs:=[]) (cap:=[vP u0,vP d0]) (bd 90) func90 rfl rfl rfl fun A1 q1 u1=>Ae<|RG.recover1 .plain q1 rfl<|Ag rfl<|Aa<|Ae<|Af rfl<|Ac (FV.neqI underlying20 rfl rfl)<|Aa<|Br rfl<|Ae<|Af rfl<|Ac (FV.assertT rfl rfl)<|Af rfl<|Ac (Ai rfl rfl)<|Ac (Ai rfl rfl)<|RG.nl [vI 0] b1 fun A2 x1 d1 W1=>AW [vI x0.fy] d1 .hd (o1 rfl) fun B2 g1 X1=>Ag rfl<|Aa<|Ak<|Ae<|Af rfl<|Ac (BD rfl)<|Aa<|Bp rfl<|Ap<|Ae<|RG.nl zL g1 fun C2 y1 v0 Y1=>Aa<|du 3 fun c0 D0=>Rx 0 24 c0 rfl D0 (AD rfl (v0.memA .hd))<|Rv 1 c0 rfl D0 (fun _=>Bo 0 rfl)<|RD.mo (α:=Unit) (fun ()=>[(1,vP d0),(19,vI x0.fy)]) (fun ()=>[.cells d0 [vI 0] 49,.cells u0 zL 48,.cells K0 zL 48,.cells t0 [vI a4] 3,.cells s0 [vI a3] 3,.cells q0 [vI a2] 3,.cells p0 [v1_0] 39,.cells j0 [vI a0.fh,vI a0.fc,vI a0.fe,v0_3] 37]) v0 1 15 ?_ ?_
 rintro ⟨⟩ D2 M0 C1
 try dsimp only
 refine BB 4 31 c0 rfl rfl .plain (AB (news:=[vI x0.fy]) M0 .hd rfl rfl rfl rfl rfl rfl (o1 rfl)) fun c2 z0 D1=>AH (dk c0)<|MX.fin rfl<|RT.leaveD1 u1 func90 rfl .nil<|Aq (u:=.tuple #[.agg zM,vI x0.fy]) I0 func44 rfl (.cons (.many (cs:=zL) rfl rfl (z0.memA .t1)) (.cons (.one rfl rfl ((z0.memA .hd) 0 _ rfl)) .nil)) rfl<|Ac (Ai rfl rfl)<|Ac (Ai rfl rfl)<|AW zL z0 .t2 (aq rfl) fun g2 G0 E1=>Ag rfl<|Aa<|Am rfl<|Aq hb0 func12 rfl (.cons (.many (cs:=zL) rfl rfl (G0.memA .t2)) (.cons (.tmp rfl) .nil)) rfl ?_
 cases h
 exact G0.gv
 intro E0
 refine RD.each [2,3] (rk c0) ⟨?_,?_,trivial⟩
 refine RO.val (m' :=7) (sk c0) rfl .plain rfl (AZ rfl ((v0.memA .t1) 0 _ rfl))<|BB 3 15 c0 rfl rfl .plain (AB (news:=zL) v0 .t3 rfl rfl rfl rfl rfl rfl (aq rfl)) fun v1 y0 B0=>?_
 obtain ⟨P0,j1⟩:=AN y0 .d2
 exact E0 () P0 (Tt B0 j1)
 refine RO.now (m' :=11) (sk c0) rfl rfl .plain (AB (news:=zL) v0 .t3 rfl rfl rfl rfl rfl rfl (aq rfl)) fun v1 y0 B0=>Rx 2 16 c0 rfl D0 (AZ rfl ((y0.memA .t1) 0 _ rfl)) ?_
 obtain ⟨Q0,k1⟩:=AN y0 .d2
 exact E0 () Q0 (Tt B0 k1)
 refine RG.callq' (v:=.agg ((ac g0)).toArray) (fst:=[]) (cap:=[vP j0,vP p0,vP q0,vP s0,vP t0]) .plain (bd 45) rfl ai (fun w9 hw9=>AP (bY_c n (b0.hL0 hL hw9) a0 (b0.k0 h0_3 hw9) (ah hw9 (b0.memA .t7)) (b0.k0 h1_0 hw9) (ah hw9 (b0.memA .t6)) (ah hw9 (b0.memA .t5)) (ah hw9 (b0.memA .t4)) (ah hw9 (b0.memA .t3)) C0)) rfl<|AW (ac g0) b0 .t1 (aq rfl) fun j2 R0 F1=>AW [vI 0] R0 .hd (o1 rfl) fun k2 A0 H1=>Aa<|Am rfl<|RT.callD (vs:=[]) (cap:=[vP u0,vP d0]) (bd 90) func90 rfl rfl rfl fun z1 J0 s1=>Ae<|RG.recover0 .plain J0 rfl<|Ag rfl<|Aa<|Ae<|Af rfl<|Ac (FV.neqI0 underlying20 rfl rfl)<|Aa<|Bp rfl<|Ap<|MX.fin rfl<|RT.leaveD0 J0 s1 func90 rfl .nil<|Aq (u:=.tuple #[.agg ((ac g0)).toArray,vI 0]) I0 func44 rfl (.cons (.many (cs:=(ac g0)) rfl rfl (A0.memA .t1)) (.cons (.one rfl rfl ((A0.memA .hd) 0 _ rfl)) .nil)) rfl<|Ac (Ai rfl rfl)<|Ac (Ai rfl rfl)<|AW (ac g0) A0 .t2 (aq rfl) fun p2 H0 I1=>Ag rfl<|Aa<|Am rfl<|Aq hb0 func12 rfl (.cons (.many (cs:=(ac g0)) rfl rfl (H0.memA .t2)) (.cons (.tmp rfl) .nil)) rfl ?_
 cases h
 exact H0.gv
def bI_p (n:Nat) (a0:Int × Int):Option (Except Te Ta):=
  (bg_p n a0).bind fun c0=>(aY_p n a0.1 c0).bind fun d0=>exc d0 (fun g0=>some (.ok g0)) (fun b0=>some (.error b0))
theorem bI_c (n:Nat) {L w} (hL:hl L w) (a0:Int × Int)  {r:Except Te Ta} (h:bI_p n a0 = some r) :
 Cl 95 #[.agg #[vI a0.1,vI a0.2]] w (aD w (fun (y:Ta) _ u=>u = .agg ((ac y)).toArray) (fun e=>.iface 138 (.agg #[vI e.fy])) r):=by
 unfold bI_p at h
 refine Bz func95 rfl rfl rfl fun _ cs0 hb0 hp0=>Ae<|RG.bx (Ax w) rfl rfl fun D0 v0 p0 z0=>RG.nl zL p0 fun E0 x0 c0 A0=>Aa<|Ak<|du 5 fun b0 d0=>Rv 0 b0 rfl d0 (fun _=>AM (m:=1) (k:=0) (len:=2) rfl rfl rfl rfl (by omega))<|Rx 1 48 b0 rfl d0 (AZ rfl ((c0.memA .t1) 0 _ rfl))<|Rx 2 56 b0 rfl d0 (AD rfl (c0.memA .t1))<|bk h fun u0 t0 h=>RD.cq 3 15 48 (vI u0) b0 rfl d0 (bd 47) rfl (e1 rfl) (fun w9 hw9=>bg_c n (c0.hL0 hL hw9) a0 t0) rfl<|xk h (fun y0 g0 h=>?_) (fun j0 g0 h=>?_)
 refine By (i:=4) (rk b0) (RO.callE (fst:=[]) (cap:=[]) rfl .plain (bd 48) rfl (e2 rfl rfl) (fun w9 hw9=>aY_c n (c0.hL0 hL hw9)  g0) (fun F0 s0=>?_))
 obtain ⟨q0,B0⟩:=c0.agr s0
 cases h
 exact AS hp0 func95 ⟨q0.ag,rfl⟩
 refine RD.cq 4 31 32 (.agg ((ac j0)).toArray) b0 rfl d0 (bd 48) rfl (e2 rfl rfl) (fun w9 hw9=>AP (aY_c n (c0.hL0 hL hw9)  g0)) rfl<|BB 5 63 b0 rfl rfl .plain (AB (news:=(ac j0)) c0 .hd rfl rfl rfl rfl rfl rfl (aq rfl)) fun G0 k0 C0=>AH (dk b0)<|Am rfl<|Aq hb0 func95 rfl (.cons (.many (cs:=(ac j0)) rfl rfl (k0.memA .hd)) .nil) rfl ?_
 cases h
 exact ⟨k0.ag,fun w9 hw9=>ay rfl⟩
def ca_p (n:Nat) (a0:UInt64):Option Int:=
  (bw_p n a0).bind fun y1=>some y1
theorem ca_c (n:Nat) {L w} (hL:hl L w) (a0:UInt64)  {r:Int} (h:ca_p n a0 = some r) :
 Cl 129 #[vU a0] w (ak w fun _ u=>u = vI r):=by
 unfold ca_p at h
 have hS0:=Ax w
 refine AC func129 rfl rfl rfl fun _ cs0 hb0=>Ae<|Ag rfl<|Aa<|Ak<|Bp rfl<|Ap<|Ae<|Af rfl<|bk h fun y1 hy1 h=>Bf (vI y1) (bd 168) rfl (e1 rfl) (fun w9 hw9=>bw_c n (hS0.hL0 hL hw9) a0 hy1) rfl<|Ag rfl<|Aa<|Am rfl<|AU hb0 func129 rfl rfl ?_
 cases h
 exact hS0.gv
def bp_p (_n:Nat) (a0:Tg):Option Int:=
  (if a0.fj = true then some (-1:Int) else (if a0.fo.length = 0 then some (0:Int) else some (1:Int)))
theorem bp_c (n:Nat) {L w} (_hL:hl L w) (a0:Tg) {v0_1:Value} (h0_1:Rep.R w L [v0_1] a0.fo)  {r:Int} (h:bp_p n a0 = some r) :
 Cl 85 #[.agg #[.bool a0.fj,v0_1]] w (ak w fun _ u=>u = vI r):=by
 unfold bp_p at h
 refine AC func85 rfl rfl rfl fun _ cs0 hb0=>Ae<|RG.bx (Ax w) rfl rfl fun q0 j0 b0 k0=>Ag rfl<|Aa<|Ak<|Au<|Ae<|Bk 0 rfl<|AO rfl ((b0.memA .hd) 0 _ rfl)<|Ag rfl<|Aa<|MX.ifb rfl h (fun d0 h=>?_) (fun d0 h=>?_)
 refine Ae<|Ag rfl<|Aa<|Am rfl<|AU hb0 func85 rfl rfl ?_
 cases h
 exact b0.gv
 refine Ae<|Bk 1 rfl<|AO rfl ((b0.memA .hd) 1 _ rfl) ?_
 have c0:=AQ h0_1 b0
 have p0:a0.fo.length <= 281474976710656:=AY c0
 refine Ac (Be (xs:=a0.fo) underlying127 rfl c0)<|Ac (FV.eqlN (i:=a0.fo.length) (j:=0) rfl rfl)<|Ag rfl<|Aa<|AI rfl h (fun g0 h=>?_) (fun g0 h=>?_)
 refine Ae<|Ag rfl<|Aa<|Am rfl<|AU hb0 func85 rfl rfl ?_
 cases h
 exact b0.gv
 refine Ap<|Ay<|Ae<|Ag rfl<|Aa<|Am rfl<|AU hb0 func85 rfl rfl ?_
 cases h
 exact b0.gv
def ay_p (n:Nat) (a0:Ta):Option Th:=
  (bb_p n a0.fN).bind fun b0=>(bb_p n a0.fD).bind fun c0=>some (⟨b0,c0⟩:Th)
theorem ay_c (n:Nat) {L w} (hL:hl L w) (a0:Ta)  {r:Th} (h:ay_p n a0 = some r) :
 Cl 117 #[.agg ((ac a0)).toArray] w (ak w fun w' u=>∃ v0_1 v0_3:Value,u = .agg #[.bool r.fv.fj,v0_1,.bool r.fp.fj,v0_3]/\Rep.R w' L [v0_1] r.fv.fo/\Rep.R w' L [v0_3] r.fp.fo):=by
 unfold ay_p at h
 refine AC func117 rfl rfl rfl fun _ cs0 hb0=>Ae<|RG.bx (Ax w) rfl rfl fun X0 J0 z0 Q0=>RG.nl [.bool false,vN,.bool false,vN] z0 fun Y0 K0 j0 R0=>Aa<|Ak<|du 7 fun b0 c0=>Rv 0 b0 rfl c0 (fun _=>Bo 0 rfl)<|Rx 1 228 b0 rfl c0 (Bn (cs:=(ap a0.fN)) rfl rfl (ar (j0.memA .t1) 0 8))<|Rv 3 b0 rfl c0 (fun _=>Bo 8 rfl)<|Rx 4 224 b0 rfl c0 (Bn (cs:=(ap a0.fD)) rfl rfl (ar (j0.memA .t1) 8 8))<|bk h fun p0 F0 h=>BA 2 31 b0 rfl .plain (bd 145) rfl (e1 rfl) (fun w9 hw9=>bb_c n (j0.hL hL hw9) a0.fN F0) rfl fun Z0 V0 B0 ⟨d0,hu_,y0⟩=>?_
 subst hu_
 obtain ⟨t0,U0⟩:=j0.agr B0
 refine bk h fun q0 G0 h=>BA 5 63 b0 rfl .plain (bd 145) rfl (e1 rfl) (fun w9 hw9=>bb_c n (t0.hL hL hw9) a0.fD G0) rfl fun b1 W0 C0 ⟨g0,hu_,s0⟩=>?_
 subst hu_
 obtain ⟨A0,u0⟩:=t0.agr C0
 have x0:=Az y0 u0
 obtain ⟨H0,M0,D0,_⟩:=Rep.sl x0
 obtain ⟨I0,P0,E0,_⟩:=Rep.sl s0
 refine Rv 6 b0 rfl c0 (fun _=>AX (vs:=[.agg #[.bool p0.fj,d0],.agg #[.bool q0.fj,g0]]) (u:=.agg #[.bool p0.fj,d0,.bool q0.fj,g0]) (e2 rfl rfl) (fun w9=>by rw [D0,E0]; try kernel_rfl))<|BB 7 255 b0 rfl rfl .plain (AB (news:=[.bool p0.fj,d0,.bool q0.fj,g0]) A0 .hd rfl rfl rfl rfl rfl rfl (o4 rfl (Bd x0) rfl (Bd s0))) fun c1 k0 v0=>AH (dk b0)<|Am rfl<|Aq hb0 func117 rfl (.cons (.many (cs:=[.bool p0.fj,d0,.bool q0.fj,g0]) rfl rfl (k0.memA .hd)) .nil) rfl ?_
 cases h
 exact ⟨k0.ag,fun w9 hw9=>⟨d0,g0,rfl,k0.kd (Az y0 (Tt u0 v0)) hw9,k0.kd (Az s0 v0) hw9⟩⟩

def bR_p (n:Nat) (a0:Tg) (a1:Tg):Option Tg:=
  (aM_p n a1).bind fun b0=>(aW_p n a0 b0).bind fun c0=>some c0
theorem bR_c (n:Nat) {L w} (hL:hl L w) (a0:Tg) {v0_1:Value} (h0_1:Rep.R w L [v0_1] a0.fo) (a1:Tg) {v1_1:Value} (h1_1:Rep.R w L [v1_1] a1.fo)  {r:Tg} (h:bR_p n a0 a1 = some r) :
 Cl 152 #[.agg #[.bool a0.fj,v0_1],.agg #[.bool a1.fj,v1_1]] w (ak w fun w' u=>∃ v0_1:Value,u = .agg #[.bool r.fj,v0_1]/\Rep.R w' L [v0_1] r.fo):=by
 unfold bR_p at h
 refine AC func152 rfl rfl rfl fun _ cs0 hb0=>Ae<|RG.bx (Ax w) rfl rfl fun R0 D0 s0 G0=>RG.bx s0 rfl rfl fun U0 E0 t0 H0=>RG.nl [.bool false,vN] t0 fun V0 F0 c0 I0=>Aa<|Ak<|du 4 fun b0 p0=>Rx 0 24 b0 rfl p0 (AD rfl (c0.memA .t2))<|Rx 1 28 b0 rfl p0 (AD rfl (c0.memA .t1))<|bk h fun C0 A0 h=>BA 2 7 b0 rfl .plain (bd 184) rfl (e1 rfl) (fun p q=>aM_c n (c0.hL hL q) a1 (c0.km h1_1 q) A0) rfl fun W0 P0 x0 ⟨M0,hu_,z0⟩=>?_
 subst hu_
 obtain ⟨d0,J0⟩:=c0.agr x0
 refine bk h fun q0 B0 h=>BA 3 15 b0 rfl .plain (bd 153) rfl (e2 rfl rfl) (fun p q=>aW_c n (d0.hL hL q) a0 (d0.km h0_1 q) C0 (Av z0 q) B0) rfl fun X0 Q0 y0 ⟨j0,hu_,k0⟩=>?_
 subst hu_
 obtain ⟨u0,K0⟩:=d0.agr y0
 refine BB 4 31 b0 rfl rfl .plain (AB (news:=[.bool q0.fj,j0]) u0 .hd rfl rfl rfl rfl rfl rfl (o2 rfl (Bd k0))) fun Y0 g0 v0=>AH (dk b0)<|Am rfl<|Aq hb0 func152 rfl (.cons (.many (cs:=[.bool q0.fj,j0]) rfl rfl (g0.memA .hd)) .nil) rfl ?_
 cases h
 exact ⟨g0.ag,fun p q=>⟨j0,rfl,g0.kd (Az k0 v0) q⟩⟩
def bL_p (n:Nat) (a0:Tg) (a1:Tg):Option Int:=
  (bR_p n a0 a1).bind fun b0=>(bp_p n b0).bind fun c0=>some c0
theorem bL_c (n:Nat) {L w} (hL:hl L w) (a0:Tg) {v0_1:Value} (h0_1:Rep.R w L [v0_1] a0.fo) (a1:Tg) {v1_1:Value} (h1_1:Rep.R w L [v1_1] a1.fo)  {r:Int} (h:bL_p n a0 a1 = some r) :
 Cl 119 #[.agg #[.bool a0.fj,v0_1],.agg #[.bool a1.fj,v1_1]] w (ak w fun _ u=>u = vI r):=by
 unfold bL_p at h
 refine AC func119 rfl rfl rfl fun _ cs0 hb0=>Ae<|RG.bx (Ax w) rfl rfl fun B0 t0 d0 v0=>RG.bx d0 rfl rfl fun C0 u0 b0 x0=>Ag rfl<|Aa<|Ae<|Ac (AD rfl (b0.memA .t1))<|Ac (AD rfl (b0.memA .hd))<|bk h fun q0 k0 h=>jE (bd 152) rfl (e2 rfl rfl) (fun p q=>bR_c n (b0.hL hL q) a0 (b0.km h0_1 q) a1 (b0.km h1_1 q) k0) rfl fun D0 A0 g0 ⟨z0,hu_,j0⟩=>?_
 subst hu_
 obtain ⟨c0,y0⟩:=b0.agr g0
 refine bk h fun s0 p0 h=>Bf (vI s0) (bd 85) rfl (e1 rfl) (fun p q=>bp_c n (c0.hL0 hL q) q0 (c0.kd j0 q) p0) rfl<|Ag rfl<|Aa<|Am rfl<|AU hb0 func119 rfl rfl ?_
 cases h
 exact c0.gv
def cy_p (n:Nat) (a0:Int):Option Tg:=
  (cm_p n a0).bind fun b0=>(bb_p n b0).bind fun c0=>some c0
theorem cy_c (n:Nat) {L w} (hL:hl L w) {a0:Int}  {r:Tg} (h:cy_p n a0 = some r) :
 Cl 187 #[vI a0] w (ak w fun w' u=>∃ v0_1:Value,u = .agg #[.bool r.fj,v0_1]/\Rep.R w' L [v0_1] r.fo):=by
 unfold cy_p at h
 refine AC func187 rfl rfl rfl fun _ cs0 hb0=>Ae<|RG.nl [.bool false,vN] (Ax w) fun A0 v0 b0 x0=>Aa<|Ae<|Af rfl<|bk h fun j0 t0 h=>Bf (.agg ((ap j0)).toArray) (bd 115) rfl (e1 rfl) (fun p q=>cm_c n (b0.hL0 hL q)  t0) rfl<|bk h fun k0 u0 h=>jE (bd 145) rfl (e1 rfl) (fun p q=>bb_c n (b0.hL hL q) j0 u0) rfl fun B0 z0 s0 ⟨d0,hu_,g0⟩=>?_
 subst hu_
 obtain ⟨p0,y0⟩:=b0.agr s0
 refine AW [.bool k0.fj,d0] p0 .hd (o2 rfl (Bd g0)) fun C0 c0 q0=>Aa<|Am rfl<|Aq hb0 func187 rfl (.cons (.many (cs:=[.bool k0.fj,d0]) rfl rfl (c0.memA .hd)) .nil) rfl ?_
 cases h
 exact ⟨c0.ag,fun p q=>⟨d0,rfl,c0.kd (Az g0 q0) q⟩⟩
def cn_p (n:Nat) (a0:Ta):Option Int:=
  (cy_p n (1:Int)).bind fun c0=>(ay_p n a0).bind fun b0=>(bp_p n b0.fp).bind fun d0=>(if d0 <= 0 then some (20:Int) else (ar_p n b0.fv b0.fp).bind fun g0=>(bL_p n g0 c0).bind fun j0=>(if j0 = 0 then some (0:Int) else some (20:Int)))
theorem cn_c (n:Nat) {L w} (hL:hl L w) (a0:Ta)  {r:Int} (h:cn_p n a0 = some r) :
 Cl 148 #[.agg ((ac a0)).toArray] w (ak w fun _ u=>u = vI r):=by
 unfold cn_p at h
 refine AC func148 rfl rfl rfl fun _ cs0 hb0=>Ae<|RG.bx (Ax w) rfl rfl fun y1 g1 t0 p1=>Ag rfl<|Aa<|Ae<|bk h fun B0 W0 h=>jE (bd 187) rfl (e1 rfl) (fun p q=>cy_c n (t0.hL hL q)  W0) rfl fun z1 u1 Q0 ⟨c1,hu_,x0⟩=>?_
 subst hu_
 obtain ⟨G0,q1⟩:=t0.agr Q0
 refine RG.nl [.bool false,vN] G0 fun A1 j1 H0 u0=>AW [.bool B0.fj,c1] H0 .hd (o2 rfl (Bd (Az x0 u0))) fun B1 p0 K0=>Aa<|Ae<|Ac (AD rfl (p0.memA .t1))<|bk h fun g0 X0 h=>jE (bd 117) rfl (e1 rfl) (fun p q=>ay_c n (p0.hL hL q) a0 X0) rfl fun C1 v1 R0 ⟨A0,s0,hu_,y0,z0⟩=>?_
 subst hu_
 obtain ⟨I0,M0⟩:=p0.agr R0
 refine RG.nl [.bool false,vN,.bool false,vN] I0 fun D1 k1 J0 k0=>AW [.bool g0.fv.fj,A0,.bool g0.fp.fj,s0] J0 .hd (o4 rfl (Bd (Az y0 k0)) rfl (Bd (Az z0 k0))) fun E1 d0 q0=>Aa<|Ak<|Ak<|du 14 fun b0 c0=>Rv 0 b0 rfl c0 (fun _=>Bo 2 rfl)<|Rx 1 16380 b0 rfl c0 (Bn (cs:=[.bool g0.fp.fj,s0]) rfl rfl (ar (d0.memA .hd) 2 2))<|bk h fun C0 Y0 h=>?_
 have v0:=Az z0 (Tt k0 q0)
 refine RD.cq 2 7 16376 (vI C0) b0 rfl c0 (bd 85) rfl (e1 rfl) (fun p q=>bp_c n (d0.hL0 hL q) g0.fp (d0.kd v0 q) Y0) rfl<|Rv 3 b0 rfl c0 (fun _=>FV.leq (i:=C0) (j:=0) rfl rfl)<|Rv 4 b0 rfl c0 (fun _=>Aj rfl)<|RD.ifd (s:=12) rfl h (fun E0 h=>?_) (fun E0 h=>?_)
 refine Bb 8191 1 [(5,13),(6,14),(7,15),(8,16),(9,17),(10,18),(11,19),(12,20)] (F:=[(12,true)]) (U:=[]) b0 c0 (.cons rfl .nil) .nil ?_
 dsimp only [aC,List.map]
 refine Rv 13 b0 rfl c0 (fun _=>FV.pick_t rfl rfl)<|AH (dk b0)<|Br rfl<|Ae<|Ag rfl<|Aa<|Am rfl<|AU hb0 func148 rfl rfl ?_
 cases h
 exact d0.gv
 refine RD.vP 5 63 b0 rfl c0 (.yes rfl rfl) (fun _=>Bo 0 rfl) rfl<|RD.val (i:=6) (m' :=127) (W:=14848) (tk b0) rfl c0 (.yes rfl rfl) (Bn (cs:=[.bool g0.fv.fj,A0]) rfl rfl (ar (d0.memA .hd) 0 2)) rfl<|RD.vP 7 255 b0 rfl c0 (.yes rfl rfl) (fun _=>Bo 2 rfl) rfl<|RD.val (i:=8) (m' :=511) (W:=14848) (tk b0) rfl c0 (.yes rfl rfl) (Bn (cs:=[.bool g0.fp.fj,s0]) rfl rfl (ar (d0.memA .hd) 2 2)) rfl<|RD.val (i:=10) (m' :=1535) (W:=14336) (tk b0) rfl c0 (.yes rfl rfl) (AD rfl (d0.memA .t1)) rfl<|bk h fun d1 Z0 h=>BA 9 2047 b0 rfl (.yes rfl rfl) (bd 182) rfl (e2 rfl rfl) (fun p q=>ar_c n (d0.hL hL q) g0.fv (Av (Az y0 (Tt k0 q0)) q) g0.fp (Av v0 q) Z0) rfl fun F1 x1 U0 ⟨s1,hu_,V0⟩=>?_
 subst hu_
 obtain ⟨j0,P0⟩:=d0.agr U0
 refine bk h fun D0 b1 h=>RD.callq (i:=11) (m' :=4095) (W:=12288) (tk b0) rfl c0 (v:=vI D0) (fst:=[]) (cap:=[]) (.yes rfl rfl) (bd 119) rfl (e2 rfl rfl) (fun p q=>bL_c n (j0.hL0 hL q) d1 (j0.kd V0 q) B0 (j0.kd (Az x0 (Tt u0 (Tt K0 (Tt M0 (Tt k0 (Tt q0 P0)))))) q) b1) rfl<|RD.vP 12 8191 b0 rfl c0 (.yes rfl rfl) (fun _=>FV.neq (i:=D0) (j:=0) rfl rfl) rfl<|Rv 13 b0 rfl c0 (fun _=>AK rfl rfl)<|AH (dk b0)<|MX.ifn rfl h (fun F0 h=>?_) (fun F0 h=>?_)
 refine Ap<|Ae<|Ag rfl<|Aa<|Am rfl<|AU hb0 func148 rfl rfl ?_
 cases h
 exact j0.gv
 refine Ae<|Ag rfl<|Aa<|Am rfl<|AU hb0 func148 rfl rfl ?_
 cases h
 exact j0.gv
def cb_p (n:Nat) (a0:Ta):Option Bool:=
  (cn_p n a0).bind fun b0=>some (decide (b0 = 0))
theorem cb_c (n:Nat) {L w} (hL:hl L w) (a0:Ta)  {r:Bool} (h:cb_p n a0 = some r) :
 Cl 147 #[.agg ((ac a0)).toArray] w (ak w fun _ u=>u = .bool r):=by
 unfold cb_p at h
 refine AC func147 rfl rfl rfl fun _ cs0 hb0=>Ae<|RG.bx (Ax w) rfl rfl fun k0 g0 b0 j0=>Ag rfl<|Aa<|Ae<|Ac (AD rfl (b0.memA .hd))<|bk h fun c0 d0 h=>Bf (vI c0) (bd 148) rfl (e1 rfl) (fun p q=>cn_c n (b0.hL0 hL q) a0 d0) rfl<|Ac (FV.eql (i:=c0) (j:=0) rfl rfl)<|Ag rfl<|Aa<|Am rfl<|AU hb0 func147 rfl rfl ?_
 cases h
 exact b0.gv
theorem bB {w:World} {L:List Nat} {cs:List Value} {x:Ta} (h:Rep.R w L cs x):cs = [vU x.fN.1,vU x.fN.2.1,vU x.fN.2.2.1,vU x.fN.2.2.2.1,vU x.fN.2.2.2.2.1,vU x.fN.2.2.2.2.2.1,vU x.fN.2.2.2.2.2.2.1,vU x.fN.2.2.2.2.2.2.2,vU x.fD.1,vU x.fD.2.1,vU x.fD.2.2.1,vU x.fD.2.2.2.1,vU x.fD.2.2.2.2.1,vU x.fD.2.2.2.2.2.1,vU x.fD.2.2.2.2.2.2.1,vU x.fD.2.2.2.2.2.2.2]:=by
  obtain ⟨c0,r0,rfl,h0,h⟩:=h
  obtain rfl:=lu (x:=x.fN) h0
  obtain rfl:=lu (x:=x.fD) h
  rfl
theorem aR {w:World} {L:List Nat} (a0:U8) (a1:U8):Rep.R w L [vU a0.1,vU a0.2.1,vU a0.2.2.1,vU a0.2.2.2.1,vU a0.2.2.2.2.1,vU a0.2.2.2.2.2.1,vU a0.2.2.2.2.2.2.1,vU a0.2.2.2.2.2.2.2,vU a1.1,vU a1.2.1,vU a1.2.2.1,vU a1.2.2.2.1,vU a1.2.2.2.2.1,vU a1.2.2.2.2.2.1,vU a1.2.2.2.2.2.2.1,vU a1.2.2.2.2.2.2.2] (⟨a0,a1⟩:Ta):=⟨[vU a0.1,vU a0.2.1,vU a0.2.2.1,vU a0.2.2.2.1,vU a0.2.2.2.2.1,vU a0.2.2.2.2.2.1,vU a0.2.2.2.2.2.2.1,vU a0.2.2.2.2.2.2.2],[vU a1.1,vU a1.2.1,vU a1.2.2.1,vU a1.2.2.2.1,vU a1.2.2.2.2.1,vU a1.2.2.2.2.2.1,vU a1.2.2.2.2.2.2.1,vU a1.2.2.2.2.2.2.2],rfl,lm a0.1 a0.2.1 a0.2.2.1 a0.2.2.2.1 a0.2.2.2.2.1 a0.2.2.2.2.2.1 a0.2.2.2.2.2.2.1 a0.2.2.2.2.2.2.2,lm a1.1 a1.2.1 a1.2.2.1 a1.2.2.2.1 a1.2.2.2.2.1 a1.2.2.2.2.2.1 a1.2.2.2.2.2.2.1 a1.2.2.2.2.2.2.2⟩
def aD_l1 (n:Nat) (a0:List Ta) (c0:Nat -> Option (Bool ⊕ Unit)):Nat -> Option (Bool ⊕ Unit)
  | b0=>(if b0 < a0.length then (a0[b0]?).bind fun d0=>(cb_p n d0).bind fun g0=>(if g0 = true then c0 (b0 + 1) else some (.inl false)) else some (.inr ()))
def aD_p (n:Nat) (a0:List Ta):Option Bool:=
  thn (ao (aD_l1 n a0) n 0) (fun _=>some true)
theorem aD_c (n:Nat) {L w} (hL:hl L w) {a0:List Ta} {v0_0:Value} (h0_0:Rep.R w L [v0_0] a0)  {r:Bool} (h:aD_p n a0 = some r) :
 Cl 116 #[v0_0] w (ak w fun _ u=>u = .bool r):=by
 unfold aD_p at h
 refine AC func116 rfl rfl rfl fun _ cs0 hb0=>Ae<|Ag rfl<|Aa<|Ae<|Ag rfl<|Aa<|Ae<|Af rfl<|Af rfl<|Bq (fst:=[]) (cap:=[]) (vs:=[.func (.func 147) #[] #[],v0_0]) .plain (bd 149) func149 rfl rfl rfl rfl (e2 rfl rfl) rfl fun cs2 hb1 hp3=>Ae<|Ag rfl<|Aa<|Ak<|Ae<|Af rfl ?_
 have hl4:a0.length <= 281474976710656:=AY h0_0
 refine Ac (Be (xs:=a0) underlying101 rfl h0_0)<|Af rfl<|Aa<|Au<|tn h fun P0 C0 g0=>MX.lo (α:=Nat) (fun b0=>[(0,.func (.func 147) #[] #[]),(7,v0_0),(8,vI ((a0.length:Nat):Int)),(9,vI ((b0:Nat):Int))]) (fun b0=>[]) (fun b0=>b0) 0 C0 (Ax w) ?_
 rintro I0 b0 U0 q0 d0 u0 h
 unfold aD_l1 at h
 try dsimp only at h
 refine Ae<|Ac (Bm (i:=b0) (j:=a0.length) rfl rfl)<|Aa<|Ak<|AI rfl h (fun k0 h=>?_) (fun k0 h=>?_)
 refine Ap<|Ak<|Au<|Ae<|bk h fun j0 E0 h=>?_
 obtain ⟨H0,K0,z0,A0,M0,D0,B0⟩:=Bl (AQ h0_0 d0) E0
 obtain rfl:=bB D0
 refine Ac (Bh 16 b0 rfl z0 rfl rfl A0)<|Ac (AD rfl B0)<|RG.nl zL d0 fun Q0 J0 s0 v0=>AW (ac j0) s0 .hd (aq rfl) fun R0 c0 x0=>Aa<|Ae<|Af rfl<|Ac (AD rfl (c0.memA .hd))<|bk h fun G0 F0 h=>Bf (.bool G0) (bd 147) rfl (e1 rfl) (fun p q=>cb_c n (c0.hL0 hL q) j0 F0) rfl<|Ac (BD rfl)<|Aa<|MX.ifnb rfl h (fun p0 h=>?_) (fun p0 h=>?_)
 refine Ap<|Ay<|Ao<|Ac (Bg (i:=b0) (j:=1) rfl rfl (by omega))<|Af rfl<|Aa ?_
 obtain ⟨t0,y0⟩:=AN c0 .done
 exact q0 (b0 + 1) t0 (Tt u0 (Tt v0 (Tt x0 y0))) h
 refine Ae<|Ag rfl<|Aa ?_
 have h:=ax h g0
 refine Am rfl<|Aq (u:=.bool false) hb1 func149 rfl (.cons (.tmp rfl) .nil) rfl<|Ag rfl<|Aa<|Am rfl<|AU hb0 func116 rfl rfl ?_
 cases h
 exact c0.gv
 refine AT rfl ?_
 have h:=aF h g0
 try dsimp only at h
 refine Ae<|Ag rfl<|Aa<|Am rfl<|Aq (u:=.bool true) hb1 func149 rfl (.cons (.tmp rfl) .nil) rfl<|Ag rfl<|Aa<|Am rfl<|AU hb0 func116 rfl rfl ?_
 cases h
 exact d0.gv
def bV_p (_n:Nat) (a0:UInt64) (a1:UInt64):Option (UInt64 × UInt64):=
  (some (((shrU a0 32) * (a1 &&& (4294967295:UInt64))) + (shrU ((a0 &&& (4294967295:UInt64)) * (a1 &&& (4294967295:UInt64))) 32))).bind fun u1=>(some (shrU ((u1 &&& (4294967295:UInt64)) + ((a0 &&& (4294967295:UInt64)) * (shrU a1 32))) 32)).bind fun u2=>some ((((shrU a0 32) * (shrU a1 32)) + (shrU u1 32)) + u2,a0 * a1)
theorem bV_c (n:Nat) {L w} (_hL:hl L w) (a0:UInt64) (a1:UInt64)  {r:UInt64 × UInt64} (h:bV_p n a0 a1 = some r) :
 Cl 188 #[vU a0,vU a1] w (ak w fun _ u=>u = .tuple #[vU r.1,vU r.2]):=by
 unfold bV_p at h
 have hS0:=Ax w
 refine AC func188 rfl rfl rfl fun _ cs0 hb0=>Ae<|Ag rfl<|Ag rfl<|Aa<|Ae<|Af rfl<|Ac (FV.andU (a:=a0) (b:=(4294967295:UInt64)) rfl rfl)<|Ag rfl<|Aa<|Ae<|Af rfl<|Ac (FV.shrU (a:=a0) (j:=32) rfl rfl)<|Ag rfl<|Aa<|Ae<|Af rfl<|Ac (FV.andU (a:=a1) (b:=(4294967295:UInt64)) rfl rfl)<|Ag rfl<|Aa<|Ae<|Af rfl<|Ac (FV.shrU (a:=a1) (j:=32) rfl rfl)<|Ag rfl<|Aa<|Ae<|Af rfl<|Af rfl<|Ac (FV.mulU (a:=a0 &&& (4294967295:UInt64)) (b:=a1 &&& (4294967295:UInt64)) rfl rfl)<|Ag rfl<|Aa<|Ae<|Af rfl<|Af rfl<|Ac (FV.mulU (a:=shrU a0 32) (b:=a1 &&& (4294967295:UInt64)) rfl rfl)<|Af rfl<|Ac (FV.shrU (a:=(a0 &&& (4294967295:UInt64)) * (a1 &&& (4294967295:UInt64))) (j:=32) rfl rfl)<|bk h fun u1 hu1 h=>Ac (FV.as (FV.addU (a:=(shrU a0 32) * (a1 &&& (4294967295:UInt64))) (b:=shrU ((a0 &&& (4294967295:UInt64)) * (a1 &&& (4294967295:UInt64))) 32) rfl rfl) (congrArg (fun z:UInt64=>Value.int .u64 (z.toNat:Int)) (Option.some.inj hu1)))<|Ag rfl<|Aa<|Ae<|Af rfl<|Ac (FV.andU (a:=u1) (b:=(4294967295:UInt64)) rfl rfl)<|Ag rfl<|Aa<|Ae<|Af rfl<|Ac (FV.shrU (a:=u1) (j:=32) rfl rfl)<|Ag rfl<|Aa<|Ae<|Af rfl<|Af rfl<|Af rfl ?_
 refine Ac (FV.mulU (a:=a0 &&& (4294967295:UInt64)) (b:=shrU a1 32) rfl rfl)<|Ac (FV.addU (a:=u1 &&& (4294967295:UInt64)) (b:=(a0 &&& (4294967295:UInt64)) * (shrU a1 32)) rfl rfl)<|Ag rfl<|Aa<|Ae<|Af rfl<|Af rfl<|Ac (FV.mulU (a:=shrU a0 32) (b:=shrU a1 32) rfl rfl)<|Af rfl<|Ac (FV.addU (a:=(shrU a0 32) * (shrU a1 32)) (b:=shrU u1 32) rfl rfl)<|Af rfl<|bk h fun u2 hu2 h=>Ac (FV.as (FV.shrU (a:=(u1 &&& (4294967295:UInt64)) + ((a0 &&& (4294967295:UInt64)) * (shrU a1 32))) (j:=32) rfl rfl) (congrArg (fun z:UInt64=>Value.int .u64 (z.toNat:Int)) (Option.some.inj hu2)))<|Ac (FV.addU (a:=((shrU a0 32) * (shrU a1 32)) + (shrU u1 32)) (b:=u2) rfl rfl)<|Ag rfl<|Aa<|Ae<|Af rfl<|Af rfl<|Ac (FV.mulU (a:=a0) (b:=a1) rfl rfl)<|Ag rfl<|Aa<|Am rfl<|Aq hb0 func188 rfl (.cons (.tmp rfl) (.cons (.tmp rfl) .nil)) rfl ?_
 cases h
 exact hS0.gv
def aB_l1 (n:Nat) (a1:List UInt64) (s0:UInt64) (d0:Nat) (q0:UInt64 × Nat × (List UInt64) -> Option ((List UInt64) × UInt64)):UInt64 × Nat × (List UInt64) -> Option ((List UInt64) × UInt64)
  | (g0,b0,c0)=>(if b0 < a1.length then (a1[b0]?).bind fun t0=>(bV_p n s0 t0).bind fun j0=>(c0[d0 + b0]?).bind fun u0=>(add64 u0 j0.2 (0:UInt64)).bind fun k0=>(add64 k0.1 g0 (0:UInt64)).bind fun p0=>(put c0 ((d0 + b0:Nat):Int) p0.1).bind fun v0=>q0 ((j0.1 + k0.2) + p0.2,b0 + 1,v0) else some (c0,g0))
def aB_l2 (n:Nat) (a0:List UInt64) (a1:List UInt64) (g0:Nat × (List UInt64) -> Option (List UInt64)):Nat × (List UInt64) -> Option (List UInt64)
  | (b0,c0)=>(if b0 < a0.length then (a0[b0]?).bind fun k0=>Option.bind (ao (aB_l1 n a1 k0 b0) n (0,0,c0)) (fun (d0,j0)=>(d0[b0 + a1.length]?).bind fun _x490=>(put d0 ((b0 + a1.length:Nat):Int) j0).bind fun p0=>g0 (b0 + 1,p0)) else some c0)
def aB_p (n:Nat) (a0:List UInt64) (a1:List UInt64):Option (List UInt64):=
  (mk ((a0.length + a1.length:Nat):Int) (0:UInt64)).bind fun b0=>Option.bind (ao (aB_l2 n a0 a1) n (0,b0)) (fun c0=>some c0)
theorem aB_c (n:Nat) {L w} (hL:hl L w) {a0:List UInt64} {v0_0:Value} (h0_0:Rep.R w L [v0_0] a0) {a1:List UInt64} {v1_0:Value} (h1_0:Rep.R w L [v1_0] a1)  {r:List UInt64} (h:aB_p n a0 a1 = some r) :
 Cl 151 #[v0_0,v1_0] w (ak w fun w' u=>∃ v0_0:Value,u = v0_0/\Rep.R w' L [v0_0] r):=by
 unfold aB_p at h
 refine AC func151 rfl rfl rfl fun _ cs0 hb0=>Ae<|Ag rfl<|Aa<|Ae<|Af rfl ?_
 have hl1:a0.length <= 281474976710656:=AY h0_0
 refine Ac (Be (xs:=a0) underlying127 rfl h0_0)<|Af rfl ?_
 have hl2:a1.length <= 281474976710656:=AY h1_0
 refine Ac (Be (xs:=a1) underlying127 rfl h1_0)<|Ac (Bg (i:=a0.length) (j:=a1.length) rfl rfl (by omega))<|bk h fun R0 J0 h=>Al .plain rfl (Does.mk (α:=UInt64) J0 (Ax w) ck rfl) fun Q2 j0 z0 I2=>Ag rfl<|Aa<|Ak<|Ae<|Af rfl<|Ac (Be (xs:=a0) underlying127 rfl (AQ h0_0 z0))<|Af rfl<|Aa<|Au ?_
 obtain ⟨M2,U1,I1⟩:=av h
 refine MX.lf (α:=Nat × (List UInt64) × (List Value)) (fun ⟨b0,d0,k0⟩=>[(1,v1_0),(5,(.slice (some ⟨j0,0,none⟩) ((a0.length + a1.length:Nat):Int).toNat ((a0.length + a1.length:Nat):Int).toNat)),(22,v0_0),(23,vI ((a0.length:Nat):Int)),(24,vI ((b0:Nat):Int))]) (fun ⟨b0,d0,k0⟩=>[rr w 44 UInt64 (.slice (some ⟨j0,0,none⟩) ((a0.length + a1.length:Nat):Int).toNat ((a0.length + a1.length:Nat):Int).toNat) d0.length k0]) (fun ⟨b0,d0,k0⟩ K0=>Cells K0 (bl [rr w 44 UInt64 (.slice (some ⟨j0,0,none⟩) ((a0.length + a1.length:Nat):Int).toNat ((a0.length + a1.length:Nat):Int).toNat) d0.length k0] ++ L) k0 d0) (fun ⟨b0,d0,k0⟩=>(b0,d0)) (0,R0,(List.replicate ((a0.length + a1.length:Nat):Int).toNat [vW 0]).flatten) U1 z0 (AE (cs:=(List.replicate ((a0.length + a1.length:Nat):Int).toNat [vW 0]).flatten) (xs:=R0) z0 L (Cells.mk J0 rfl)) ?_
 rintro A2 ⟨b0,d0,k0⟩ K0 q1 t0 x1 F0 h
 unfold aB_l2 at h
 try dsimp only at h
 refine Ae<|Ac (Bm (i:=b0) (j:=a0.length) rfl rfl)<|Aa<|Ak<|AI rfl h (fun Z0 h=>?_) (fun Z0 h=>?_)
 refine Ap<|Ak<|Au<|Ae<|Af rfl<|bk h fun D0 c2 h=>?_
 obtain ⟨y2,C2,C1,K1,c1,W1,P1⟩:=Bl (AQ h0_0 t0) c2
 have D1:c1 = [vU D0]:=W1; subst D1
 refine Ac (Bh 1 b0 rfl C1 rfl rfl K1)<|AO rfl (P1 0 _ rfl)<|Ag rfl<|Ag rfl<|Aa<|Ae<|Ag rfl<|Aa<|Ak<|Ae<|Af rfl<|Ac (Be (xs:=a1) underlying127 rfl (AQ h1_0 t0))<|Af rfl<|Aa<|Au ?_
 obtain ⟨P2,V1,J1⟩:=av h
 refine MX.lf (α:=UInt64 × Nat × (List UInt64) × (List Value)) (fun ⟨s0,c0,p0,q0⟩=>[(1,v1_0),(5,(.slice (some ⟨j0,0,none⟩) ((a0.length + a1.length:Nat):Int).toNat ((a0.length + a1.length:Nat):Int).toNat)),(22,v0_0),(23,vI ((a0.length:Nat):Int)),(24,vI ((b0:Nat):Int)),(6,vI ((b0:Nat):Int)),(7,vU D0),(8,vU s0),(29,v1_0),(30,vI ((a1.length:Nat):Int)),(31,vI ((c0:Nat):Int))]) (fun ⟨s0,c0,p0,q0⟩=>[rr w 44 UInt64 (.slice (some ⟨j0,0,none⟩) ((a0.length + a1.length:Nat):Int).toNat ((a0.length + a1.length:Nat):Int).toNat) p0.length q0]) (fun ⟨s0,c0,p0,q0⟩ M0=>Cells M0 (bl [rr w 44 UInt64 (.slice (some ⟨j0,0,none⟩) ((a0.length + a1.length:Nat):Int).toNat ((a0.length + a1.length:Nat):Int).toNat) p0.length q0] ++ L) q0 p0) (fun ⟨s0,c0,p0,q0⟩=>(s0,c0,p0)) (0,0,d0,k0) V1 t0 F0 ?_
 rintro B2 ⟨s0,c0,p0,q0⟩ M0 s1 g0 E0 v0 h
 unfold aB_l1 at h
 try dsimp only at h
 refine Ae<|Ac (Bm (i:=c0) (j:=a1.length) rfl rfl)<|Aa<|Ak<|AI rfl h (fun b1 h=>?_) (fun b1 h=>?_)
 refine Ap<|Ak<|Au<|Ae<|Af rfl<|bk h fun P0 d2 h=>?_
 obtain ⟨z2,D2,E1,M1,d1,X1,Q1⟩:=Bl (AQ h1_0 g0) d2
 have F1:d1 = [vU P0]:=X1; subst F1
 refine Ac (Bh 1 c0 rfl E1 rfl rfl M1)<|AO rfl (Q1 0 _ rfl)<|Ag rfl<|Ag rfl<|Aa<|Ae<|Af rfl<|Af rfl<|bk h fun u0 q2 h=>Bf (.tuple #[vU u0.1,vU u0.2]) (bd 188) rfl (e2 rfl rfl) (fun p q=>bV_c n (g0.hL0 hL q) D0 P0 q2) rfl<|Af rfl<|Ac (Ai rfl rfl)<|Ac (Ai rfl rfl)<|Ag rfl<|Ag rfl<|Aa<|Ae<|Af rfl<|Af rfl<|Af rfl<|Ac (Bg (i:=b0) (j:=c0) rfl rfl (by omega))<|bk h fun Q0 g2 h=>?_
 obtain ⟨V0,E2,x0,C0,g1,Y1,R1⟩:=St.nth (α:=UInt64) g0 .hd v0 g2
 obtain ⟨X0,F2,G0⟩:=Bu (α:=UInt64) g0 .hd C0
 obtain rfl:V0 = ⟨X0,0,none⟩:=by rw [G0] at x0; cases x0; rfl
 have G1:g1 = [vU Q0]:=Y1; subst G1
 refine Ac (Bh 1 (b0 + c0) rfl x0 rfl rfl C0)<|AO rfl (R1 0 _ rfl)<|Af rfl<|bk h fun y0 s2 h=>Ac (FV.add64 (a:=Q0) (b:=u0.2) (c:=(0:UInt64)) func189 rfl rfl rfl rfl rfl rfl rfl s2)<|Af rfl<|Ac (Ai rfl rfl)<|Ac (Ai rfl rfl)<|Ag rfl<|Ag rfl<|Aa<|Ae<|Af rfl<|Af rfl<|bk h fun U0 t2 h=>Ac (FV.add64 (a:=y0.1) (b:=s0) (c:=(0:UInt64)) func189 rfl rfl rfl rfl rfl rfl rfl t2)<|Af rfl<|Ac (Ai rfl rfl)<|Ac (Ai rfl rfl)<|Ag rfl<|Ag rfl<|Aa<|Ao<|Af rfl<|Af rfl<|Af rfl<|Ac (Bg (i:=b0) (j:=c0) rfl rfl (by omega))<|Af rfl<|Af rfl<|Af rfl<|Ac (FV.addU (a:=u0.1) (b:=y0.2) rfl rfl)<|Af rfl<|Ac (FV.addU (a:=u0.1 + y0.2) (b:=U0.2) rfl rfl)<|Ac (Bh 1 (b0 + c0) rfl x0 rfl rfl C0)<|bk h fun v2 k2 h=>RG.acts' .plain (Acts.set (α:=UInt64) (i:=b0 + c0) k2 g0 G0 (fun _=>.hd) v0 rfl rfl rfl rfl rfl rfl) fun R2 ⟨j1,u1,y1,A1⟩=>Ag rfl<|Aa<|Ay<|Ao<|Ac (Bg (i:=c0) (j:=1) rfl rfl (by omega))<|Af rfl<|Aa<|s1 ((u0.1 + y0.2) + U0.2,c0 + 1,v2,j1) u1 (Tt E0 y1) A1 h
 refine AT rfl ?_
 have h:=J1 _ h
 try dsimp only at h
 refine Ao<|Af rfl<|Af rfl<|Af rfl<|Ac (Be (xs:=a1) underlying127 rfl (AQ h1_0 g0))<|Ac (Bg (i:=b0) (j:=a1.length) rfl rfl (by omega))<|Af rfl<|bk h fun u2 j2 h=>?_
 obtain ⟨W0,G2,B0,I0,k1,Z1,K2⟩:=St.nth (α:=UInt64) g0 .hd v0 j2
 obtain ⟨Y0,H2,H0⟩:=Bu (α:=UInt64) g0 .hd I0
 obtain rfl:W0 = ⟨Y0,0,none⟩:=by rw [H0] at B0; cases B0; rfl
 have H1:k1 = [vU u2]:=Z1; subst H1
 refine Ac (Bh 1 (b0 + a1.length) rfl B0 rfl rfl I0)<|bk h fun x2 p2 h=>RG.acts' .plain (Acts.set (α:=UInt64) (i:=b0 + a1.length) p2 g0 H0 (fun _=>.hd) v0 rfl rfl rfl rfl rfl rfl) fun U2 ⟨p1,v1,z1,B1⟩=>Aa<|Ay<|Ao<|Ac (Bg (i:=b0) (j:=1) rfl rfl (by omega))<|Af rfl<|Aa<|q1 (b0 + 1,x2,p1) v1 (Tt x1 (Tt E0 z1)) B1 h
 refine AT rfl ?_
 have h:=I1 _ h
 try dsimp only at h
 refine Ae<|Af rfl<|Ag rfl<|Aa<|Am rfl ?_
 have A0:=St.delS t0 .hd
 have J2:=St.delT t0 .hd
 have b2:=Rep.at_ (α:=UInt64) (v:=(.slice (some ⟨j0,0,none⟩) ((a0.length + a1.length:Nat):Int).toNat ((a0.length + a1.length:Nat):Int).toNat)) (xs:=d0) A0 L (Bv (α:=UInt64) t0 .hd F0 hL)
 refine AU hb0 func151 rfl rfl ?_
 cases h
 exact ⟨A0.ag,fun p q=>⟨(.slice (some ⟨j0,0,none⟩) ((a0.length + a1.length:Nat):Int).toNat ((a0.length + a1.length:Nat):Int).toNat),rfl,A0.kd b2 q⟩⟩
def ax_p (n:Nat) (a0:Tg) (a1:Tg):Option Tg:=
  (aB_p n a0.fo a1.fo).bind fun b0=>(al_p n (!(a0.fj == a1.fj)) b0).bind fun c0=>some c0
theorem ax_c (n:Nat) {L w} (hL:hl L w) (a0:Tg) {v0_1:Value} (h0_1:Rep.R w L [v0_1] a0.fo) (a1:Tg) {v1_1:Value} (h1_1:Rep.R w L [v1_1] a1.fo)  {r:Tg} (h:ax_p n a0 a1 = some r) :
 Cl 118 #[.agg #[.bool a0.fj,v0_1],.agg #[.bool a1.fj,v1_1]] w (ak w fun w' u=>∃ v0_1:Value,u = .agg #[.bool r.fj,v0_1]/\Rep.R w' L [v0_1] r.fo):=by
 unfold ax_p at h
 refine AC func118 rfl rfl rfl fun _ cs0 hb0=>Ae<|RG.bx (Ax w) rfl rfl fun Q0 C0 s0 F0=>RG.bx s0 rfl rfl fun R0 D0 t0 G0=>RG.nl [.bool false,vN] t0 fun U0 E0 d0 H0=>Aa<|Ak<|du 11 fun b0 c0=>Rv 0 b0 rfl c0 (fun _=>Bo 0 rfl)<|Rx 1 3088 b0 rfl c0 (AZ rfl ((d0.memA .t2) 0 _ rfl))<|Rv 2 b0 rfl c0 (fun _=>Bo 0 rfl)<|Rx 3 3088 b0 rfl c0 (AZ rfl ((d0.memA .t1) 0 _ rfl))<|Rv 4 b0 rfl c0 (fun _=>FV.neqB (a:=a0.fj) (b:=a1.fj) underlying4 rfl rfl)<|Rv 5 b0 rfl c0 (fun _=>Bo 1 rfl)<|Rx 6 3584 b0 rfl c0 (AZ rfl ((d0.memA .t2) 1 _ rfl))<|Rv 7 b0 rfl c0 (fun _=>Bo 1 rfl)<|Rx 8 3584 b0 rfl c0 (AZ rfl ((d0.memA .t1) 1 _ rfl))<|bk h fun Y0 A0 h=>BA 9 1023 b0 rfl .plain (bd 151) rfl (e2 rfl rfl) (fun p q=>aB_c n (d0.hL hL q) (d0.km h0_1 q) (d0.km h1_1 q) A0) rfl fun V0 M0 x0 ⟨K0,hu_,z0⟩=>?_
 subst hu_
 obtain ⟨k0,I0⟩:=d0.agr x0
 refine bk h fun q0 B0 h=>BA 10 2047 b0 rfl .plain (bd 150) rfl (e2 rfl rfl) (fun p q=>al_c n (k0.hL hL q) (Av z0 q) B0) rfl fun W0 P0 y0 ⟨j0,hu_,p0⟩=>?_
 subst hu_
 obtain ⟨u0,J0⟩:=k0.agr y0
 refine BB 11 4095 b0 rfl rfl .plain (AB (news:=[.bool q0.fj,j0]) u0 .hd rfl rfl rfl rfl rfl rfl (o2 rfl (Bd p0))) fun X0 g0 v0=>AH (dk b0)<|Am rfl<|Aq hb0 func118 rfl (.cons (.many (cs:=[.bool q0.fj,j0]) rfl rfl (g0.memA .hd)) .nil) rfl ?_
 cases h
 exact ⟨g0.ag,fun p q=>⟨j0,rfl,g0.kd (Az p0 v0) q⟩⟩
def bW_p (n:Nat) (a0:Th) (a1:Th):Option Int:=
  (ax_p n a0.fv a1.fp).bind fun b0=>(ax_p n a1.fv a0.fp).bind fun c0=>(bL_p n b0 c0).bind fun d0=>some d0
theorem bW_c (n:Nat) {L w} (hL:hl L w) (a0:Th) {v0_1:Value} (h0_1:Rep.R w L [v0_1] a0.fv.fo) {v0_3:Value} (h0_3:Rep.R w L [v0_3] a0.fp.fo) (a1:Th) {v1_1:Value} (h1_1:Rep.R w L [v1_1] a1.fv.fo) {v1_3:Value} (h1_3:Rep.R w L [v1_3] a1.fp.fo)  {r:Int} (h:bW_p n a0 a1 = some r) :
 Cl 86 #[.agg #[.bool a0.fv.fj,v0_1,.bool a0.fp.fj,v0_3],.agg #[.bool a1.fv.fj,v1_1,.bool a1.fp.fj,v1_3]] w (ak w fun _ u=>u = vI r):=by
 unfold bW_p at h
 refine AC func86 rfl rfl rfl fun _ cs0 hb0=>Ae<|RG.bx (Ax w) rfl rfl fun M0 C0 k0 E0=>RG.bx k0 rfl rfl fun P0 D0 d0 F0=>Ag rfl<|Aa<|Ak<|du 12 fun b0 c0=>Rv 0 b0 rfl c0 (fun _=>Bo 0 rfl)<|Rx 1 3600 b0 rfl c0 (Bn (cs:=[.bool a0.fv.fj,v0_1]) rfl rfl (ar (d0.memA .t1) 0 2))<|Rv 2 b0 rfl c0 (fun _=>Bo 2 rfl)<|Rx 3 3600 b0 rfl c0 (Bn (cs:=[.bool a1.fp.fj,v1_3]) rfl rfl (ar (d0.memA .hd) 2 2))<|Rv 5 b0 rfl c0 (fun _=>Bo 0 rfl)<|Rx 6 3584 b0 rfl c0 (Bn (cs:=[.bool a1.fv.fj,v1_1]) rfl rfl (ar (d0.memA .hd) 0 2))<|Rv 7 b0 rfl c0 (fun _=>Bo 2 rfl)<|Rx 8 3584 b0 rfl c0 (Bn (cs:=[.bool a0.fp.fj,v0_3]) rfl rfl (ar (d0.memA .t1) 2 2))<|bk h fun z0 v0 h=>BA 4 511 b0 rfl .plain (bd 118) rfl (e2 rfl rfl) (fun p q=>ax_c n (d0.hL hL q) a0.fv (d0.km h0_1 q) a1.fp (d0.km h1_3 q) v0) rfl fun Q0 J0 q0 ⟨H0,hu_,t0⟩=>?_
 subst hu_
 obtain ⟨g0,G0⟩:=d0.agr q0
 refine bk h fun A0 x0 h=>BA 9 1023 b0 rfl .plain (bd 118) rfl (e2 rfl rfl) (fun p q=>ax_c n (g0.hL hL q) a1.fv (g0.km h1_1 q) a0.fp (g0.km h0_3 q) x0) rfl fun R0 K0 s0 ⟨I0,hu_,u0⟩=>?_
 subst hu_
 obtain ⟨j0,p0⟩:=g0.agr s0
 refine bk h fun B0 y0 h=>RD.cq 10 2047 2048 (vI B0) b0 rfl c0 (bd 119) rfl (e2 rfl rfl) (fun p q=>bL_c n (j0.hL0 hL q) z0 (j0.kd (Az t0 p0) q) A0 (j0.kd u0 q) y0) rfl<|Rv 11 b0 rfl c0 (fun _=>Bc rfl)<|AH (dk b0)<|Am rfl<|AU hb0 func86 rfl rfl ?_
 cases h
 exact j0.gv
theorem cw:ElT Tryz.prog 101 48 (Rep.size Ta) 128 (.agg zM) zL:=⟨underlying101,by kernel_rfl,rfl,rfl,rfl,rfl⟩
def ci_p (n:Nat) (a0:Ta) (a1:Ta):Option (Int × Int):=
  (aD_p n ([a0,a1]:List Ta)).bind fun b0=>(if b0 = true then (ay_p n a0).bind fun c0=>(ay_p n a1).bind fun d0=>(bW_p n c0 d0).bind fun g0=>some (g0,(0:Int)) else some ((0:Int),(20:Int)))
theorem ci_c (n:Nat) {L w} (hL:hl L w) (a0:Ta) (a1:Ta)  {r:Int × Int} (h:ci_p n a0 a1 = some r) :
 Cl 35 #[.agg ((ac a0)).toArray,.agg ((ac a1)).toArray] w (ak w fun _ u=>u = .tuple #[vI r.1,vI r.2]):=by
 unfold ci_p at h
 refine AC func35 rfl rfl rfl fun _ cs0 hb0=>Ae<|RG.bx (Ax w) rfl rfl fun u1 M0 v0 W0=>RG.bx v0 rfl rfl fun v1 P0 j0 X0=>Ag rfl<|Ag rfl<|Aa<|Ae<|Ac (AD rfl (j0.memA .t1))<|Ac (AD rfl (j0.memA .hd))<|Bq (fst:=[]) (cap:=[]) (vs:=[.agg ((ac a0)).toArray,.agg ((ac a1)).toArray,.func (.func 86) #[] #[]]) .plain (bd 83) func83 rfl rfl rfl rfl (e3 rfl rfl rfl) rfl fun V0 s0 d1=>Ae<|RG.bx j0 rfl rfl fun x1 Q0 x0 Y0=>RG.bx x0 rfl rfl fun y1 R0 k0 Z0=>Ag rfl<|Ag rfl<|Aa<|Ak<|Ae<|Ac (AD rfl (k0.memA .t1))<|Ac (AD rfl (k0.memA .hd))<|Al .plain rfl (Ba (α:=Ta) (xs:=([a0,a1]:List Ta)) (vs:=[.agg ((ac a0)).toArray,.agg ((ac a1)).toArray]) (ds' :=(ac a0 ++ ac a1)) rfl k0 cw rfl (e2 rfl rfl) (by kernel_rfl) rfl) fun z1 U0 c0 b1=>bk h fun I0 E0 h=>Bf (.bool I0) (bd 116) rfl (e1 rfl) (fun p q=>aD_c n (c0.hL0 hL q) (Av (St.lend (α:=Ta) (L:=L) c0 .hd (AE (cs:=(ac a0 ++ ac a1)) (xs:=(([a0,a1]:List Ta):List Ta)) c0 L (Ar (cs:=(ac a0)) (ds:=(ac a1)) (aR a0.fN a0.fD) (Ar (cs:=(ac a1)) (ds:=[]) (aR a1.fN a1.fD) (AR _ _)))) hL) q) E0) rfl<|Ac (BD rfl)<|Aa<|MX.ifnb rfl h (fun u0 h=>?_) (fun u0 h=>?_)
 refine Ap<|Ak<|du 8 fun b0 g0=>Rv 0 b0 rfl g0 (fun _=>Aj rfl)<|Rx 1 244 b0 rfl g0 (AD rfl (c0.memA .t2))<|Rx 3 240 b0 rfl g0 (AD rfl (c0.memA .t1))<|bk h fun J0 F0 h=>BA 2 15 b0 rfl .plain (bd 117) rfl (e1 rfl) (fun p q=>ay_c n (c0.hL hL q) a0 F0) rfl fun A1 q1 y0 ⟨g1,j1,hu_,A0,B0⟩=>?_
 subst hu_
 obtain ⟨p0,c1⟩:=c0.agr y0
 refine bk h fun K0 G0 h=>BA 4 31 b0 rfl .plain (bd 117) rfl (e1 rfl) (fun p q=>ay_c n (p0.hL hL q) a1 G0) rfl fun B1 s1 z0 ⟨k1,p1,hu_,C0,D0⟩=>?_
 subst hu_
 obtain ⟨d0,q0⟩:=p0.agr z0
 refine bk h fun t0 H0 h=>RD.cq 5 63 192 (vI t0) b0 rfl g0 (bd 86) rfl (e2 rfl rfl) (fun p q=>bW_c n (d0.hL0 hL q) J0 (d0.kd (Az A0 q0) q) (d0.kd (Az B0 q0) q) K0 (d0.kd C0 q) (d0.kd D0 q) H0) rfl<|Rv 6 b0 rfl g0 (fun _=>Bc rfl)<|Rv 7 b0 rfl g0 (fun _=>Bc rfl)<|AH (dk b0)<|Am rfl<|Aq (u:=.tuple #[vI t0,vI 0]) s0 func83 rfl (.cons (.tmp rfl) (.cons (.tmp rfl) .nil)) rfl<|Ac (Ai rfl rfl)<|Ac (Ai rfl rfl)<|Ag rfl<|Ag rfl<|Aa<|Am rfl<|Aq hb0 func35 rfl (.cons (.tmp rfl) (.cons (.tmp rfl) .nil)) rfl ?_
 cases h
 exact d0.gv
 refine Ae<|Ag rfl<|Aa<|Ae<|Af rfl<|Ag rfl<|Ag rfl<|Aa<|Am rfl<|Aq (u:=.tuple #[vI 0,vI 20]) s0 func83 rfl (.cons (.tmp rfl) (.cons (.tmp rfl) .nil)) rfl<|Ac (Ai rfl rfl)<|Ac (Ai rfl rfl)<|Ag rfl<|Ag rfl<|Aa<|Am rfl<|Aq hb0 func35 rfl (.cons (.tmp rfl) (.cons (.tmp rfl) .nil)) rfl ?_
 cases h
 exact c0.gv
def bv_p (_n:Nat) (a0:Int) (a1:Int):Option (Except Te Int):=
  (if a1 = 0 then some (.ok a0) else some (.error (⟨a1⟩:Te)))
theorem bv_c (n:Nat) {L w} (_hL:hl L w) {a0:Int} {a1:Int}  {r:Except Te Int} (h:bv_p n a0 a1 = some r) :
 Cl 65 #[vI a0,vI a1] w (aD w (fun (y:Int) _ u=>u = vI y) (fun e=>.iface 138 (.agg #[vI e.fy])) r):=by
 unfold bv_p at h
 have hS0:=Ax w
 refine Bz func65 rfl rfl rfl fun _ cs0 hb0 hp0=>Ae<|Ag rfl<|Aa<|Ak<|Ae<|Af rfl<|Ac (FV.neq (i:=a1) (j:=0) rfl rfl)<|Aa<|MX.ifn rfl h (fun c1 h=>?_) (fun c1 h=>?_)
 refine Ap<|Ae<|Af rfl<|Ag rfl<|Aa<|Am rfl<|AU hb0 func65 rfl rfl ?_
 cases h
 exact ⟨hS0.ag,fun p q=>ay rfl⟩
 refine Ao<|Af rfl<|Ac (AX (vs:=[vI a1]) (u:=.agg #[vI a1]) (e1 rfl) (fun p=>by kernel_rfl))<|Ac (FV.makeInterface rfl rfl)<|RG.panic .plain rfl ?_
 cases h
 exact AS hp0 func65 ⟨hS0.ag,rfl⟩
def bM_p (n:Nat) (a0:Ta) (a1:Ta):Option (Except Te Int):=
  (ci_p n a0 a1).bind fun b0=>(bv_p n b0.1 b0.2).bind fun d0=>exc d0 (fun g0=>some (.ok g0)) (fun c0=>some (.error c0))
theorem bM_c (n:Nat) {L w} (hL:hl L w) (a0:Ta) (a1:Ta)  {r:Except Te Int} (h:bM_p n a0 a1 = some r) :
 Cl 97 #[.agg ((ac a0)).toArray,.agg ((ac a1)).toArray] w (aD w (fun (y:Int) _ u=>u = vI y) (fun e=>.iface 138 (.agg #[vI e.fy])) r):=by
 unfold bM_p at h
 refine Bz func97 rfl rfl rfl fun _ cs0 hb0 hp0=>Ae<|RG.bx (Ax w) rfl rfl fun z0 s0 g0 v0=>RG.bx g0 rfl rfl fun A0 t0 b0 x0=>Ag rfl<|Aa<|Ae<|Ac (AD rfl (b0.memA .t1))<|Ac (AD rfl (b0.memA .hd))<|bk h fun d0 p0 h=>Bf (.tuple #[vI d0.1,vI d0.2]) (bd 35) rfl (e2 rfl rfl) (fun p q=>ci_c n (b0.hL0 hL q) a0 a1 p0) rfl<|Ac (Ai rfl rfl)<|Ac (Ai rfl rfl)<|xk h (fun u0 c0 h=>?_) (fun q0 c0 h=>?_)
 refine Bi (fst:=[]) (cap:=[]) .plain (bd 65) rfl (e2 rfl rfl) (fun p q=>bv_c n (b0.hL0 hL q)  c0) fun B0 k0=>?_
 obtain ⟨j0,y0⟩:=b0.agr k0
 cases h
 exact AS hp0 func97 ⟨j0.ag,rfl⟩
 refine Bf (vI q0) (bd 65) rfl (e2 rfl rfl) (fun p q=>AP (bv_c n (b0.hL0 hL q)  c0)) rfl<|Ag rfl<|Aa<|Am rfl<|AU hb0 func97 rfl rfl ?_
 cases h
 exact ⟨b0.ag,fun p q=>ay rfl⟩
def ah_l1 (n:Nat) (q0:Nat) (k0:Int × (List Ta) -> Option (((Except Te (List Ta)) ⊕ (List Ta)) ⊕ (List Ta))):Int × (List Ta) -> Option (((Except Te (List Ta)) ⊕ (List Ta)) ⊕ (List Ta))
  | (b0,c0)=>(if ((q0:Nat):Int) < b0 then (idx c0 b0).bind fun g0=>(chk (b0 - 1)).bind fun s0=>(idx c0 s0).bind fun v0=>(bM_p n g0 v0).bind fun z0=>exc z0 (fun A0=>(if A0 < 0 then (chk (b0 - 1)).bind fun d0=>(chk (b0 - 1)).bind fun t0=>(idx c0 t0).bind fun x0=>(put c0 ((b0.toNat:Nat):Int) x0).bind fun j0=>(idx j0 d0).bind fun _x2280=>(put j0 ((d0.toNat:Nat):Int) g0).bind fun y0=>(chk (b0 - 1)).bind fun u0=>k0 (u0,y0) else some (.inr c0))) (fun p0=>some (.inl (.inl (.error p0)))) else some (.inr c0))
def ah_l2 (n:Nat) (k0:Nat) (j0:Nat) (d0:Int × (List Ta) -> Option ((Except Te (List Ta)) ⊕ (List Ta))):Int × (List Ta) -> Option ((Except Te (List Ta)) ⊕ (List Ta))
  | (b0,c0)=>(if b0 < ((k0:Nat):Int) then jn (fun q0=>(chk (b0 + 1)).bind fun p0=>d0 (p0,q0)) (fun g0=>thn (ao (ah_l1 n j0) n (b0,c0)) (g0)) else some (.inr c0))
def ah_l3 (n:Nat) (k0:List Ta) (_J1037:Nat × Nat × Int × Bool × Bool -> Option (Except Te (List Ta))):Nat × Nat × Int × Bool × Bool -> Option (Except Te (List Ta))
  | (b0,c0,q0,d0,_q1031)=>(chk (((c0:Nat):Int) - ((b0:Nat):Int))).bind fun g0=>(if g0 <= 12 then (chk (((b0:Nat):Int) + 1)).bind fun j0=>thn (ao (ah_l2 n c0 b0) n (j0,k0)) (fun p0=>some (.ok p0)) else (if q0 = 0 then none else (if d0 = true then none else none)))
def ah_l4 (n:Nat) (d0:List (Int × Int)) (g0:Nat × (List Ta) -> Option ((Except Te (List Ta)) ⊕ (List Ta))):Nat × (List Ta) -> Option ((Except Te (List Ta)) ⊕ (List Ta))
  | (b0,c0)=>(if b0 < d0.length then (d0[b0]?).bind fun k0=>(bI_p n k0).bind fun q0=>exc q0 (fun s0=>(app c0 ([s0]:List Ta)).bind fun p0=>g0 (b0 + 1,p0)) (fun j0=>some (.inl (.error j0))) else some (.inr c0))
def ah_p (n:Nat) (a0:Tf) (a1:List Int) (a2:Int) (a3:Int) (a4:Int):Option (Except Te (List Ta)):=
  (aQ_p n a0 a1 a2 a3 a4).bind fun d0=>exc d0 (fun g0=>thn (ao (ah_l4 n g0) n (0,([]:List Ta))) (fun b0=>(ca_p n (ae ((b0.length:Nat):Int))).bind fun j0=>ao (ah_l3 n b0) n (0,b0.length,j0,true,true))) (fun c0=>some (.error c0))
theorem ah_c (n:Nat) {L w} (hL:hl L w) (a0:Tf) {v0_3:Value} (h0_3:Rep.R w L [v0_3] a0.fu) {a1:List Int} {v1_0:Value} (h1_0:Rep.R w L [v1_0] a1) {a2:Int} {a3:Int} {a4:Int}  {r:Except Te (List Ta)} (h:ah_p n a0 a1 a2 a3 a4 = some r) :
 Cl 53 #[.agg #[vI a0.fh,vI a0.fc,vI a0.fe,v0_3],v1_0,vI a2,vI a3,vI a4] w (aD w (fun (y:List Ta) w' u=>∃ (v0_0:Value) (cs0_0:List Value),u = v0_0/\St w w' (aM w.heap.size [(48,Rep.size Ta,v0_0,y.length,cs0_0)])/\Cells w' (bl (aM w.heap.size [(48,Rep.size Ta,v0_0,y.length,cs0_0)]) ++ L) cs0_0 (y:List Ta)) (fun e=>.iface 138 (.agg #[vI e.fy])) r):=by
 unfold ah_p at h
 refine Bz func53 rfl rfl rfl fun _ cs0 hb0 hp0=>Ae<|RG.bx (Ax w) rfl rfl fun q6 z0 D0 V5=>Ag rfl<|Aa<|Ae<|Ac (AD rfl (D0.memA .hd))<|Af rfl<|Af rfl<|Af rfl<|Af rfl<|xk h (fun Q5 q1 h=>?_) (fun W0 q1 h=>?_)
 refine Bi (fst:=[]) (cap:=[]) .plain (bd 46) rfl (e5 rfl rfl rfl rfl rfl) (fun p q=>aQ_c n (D0.hL hL q) a0 (D0.km h0_3 q) (D0.km h1_0 q) q1) fun y6 s3=>?_
 obtain ⟨R2,X5⟩:=D0.agr s3
 cases h
 exact AS hp0 func53 ⟨R2.ag,rfl⟩
 refine jE (bd 46) rfl (e5 rfl rfl rfl rfl rfl) (fun p q=>AP (aQ_c n (D0.hL hL q) a0 (D0.km h0_3 q) (D0.km h1_0 q) q1)) rfl fun C6 U1 u3 ⟨p6,hu_,p1⟩=>?_
 subst hu_
 obtain ⟨y1,Z5⟩:=D0.agr u3
 refine Bq (fst:=[]) (cap:=[]) (vs:=[U1,.func (.func 95) #[] #[]]) .plain (bd 94) func94 rfl rfl rfl rfl (e2 rfl rfl) rfl fun M5 z3 Z3=>Ae<|Ag rfl<|Aa<|Ak<|Ae<|Af rfl ?_
 have c6:W0.length <= 281474976710656:=AY p1
 refine Ac (Be (xs:=W0) underlying92 rfl p1)<|Af rfl<|Aa<|Au ?_
 have z1:=y1.nilRow 48 (Rep.size Ta)
 refine tn h fun g6 R3 H1=>MX.lf (α:=Nat × (List Ta) × Value × (List Value)) (fun ⟨v0,k0,b0,A0⟩=>[(1,.func (.func 95) #[] #[]),(4,b0),(7,U1),(8,vI ((W0.length:Nat):Int)),(9,vI ((v0:Nat):Int))]) (fun ⟨v0,k0,b0,A0⟩=>[rr w 48 Ta b0 k0.length A0,.cells z0 [vI a0.fh,vI a0.fc,vI a0.fe,v0_3] 37]) (fun ⟨v0,k0,b0,A0⟩ V1=>Cells V1 (bl [rr w 48 Ta b0 k0.length A0,.cells z0 [vI a0.fh,vI a0.fc,vI a0.fe,v0_3] 37] ++ L) A0 k0) (fun ⟨v0,k0,b0,A0⟩=>(v0,k0)) (0,([]:List Ta),vN,[]) R3 z1 (AE (cs:=[]) (xs:=([]:List Ta)) z1 L (AR _ _)) ?_
 rintro c5 ⟨v0,k0,b0,A0⟩ V1 G2 J0 A1 C1 h
 unfold ah_l4 at h
 try dsimp only at h
 refine Ae<|Ac (Bm (i:=v0) (j:=W0.length) rfl rfl)<|Aa<|Ak<|AI rfl h (fun y2 h=>?_) (fun y2 h=>?_)
 refine Ap<|Ak<|Au<|Ae<|bk h fun U0 x4 h=>?_
 obtain ⟨Y4,q5,D3,K3,D5,b4,M3⟩:=Bl (Az p1 (Tt (St.nilRowT y1 48 (Rep.size Ta)) A1)) x4
 obtain rfl:=iP b4
 refine Ac (Bh 2 v0 rfl D3 rfl rfl K3)<|Ac (AD rfl M3)<|RG.nl [vI 0,vI 0] J0 fun s6 k5 K2 Y2=>AW [vI U0.1,vI U0.2] K2 .hd (aq rfl) fun t6 K0 Z2=>Aa<|Ao<|Af rfl<|Af rfl<|Ac (AD rfl (K0.memA .hd))<|xk h (fun P5 s1 h=>?_) (fun y0 s1 h=>?_)
 have h:=ax h H1
 refine Bi (fst:=[]) (cap:=[]) .plain (bd 95) rfl (e1 rfl) (fun p q=>bI_c n (K0.hL0 hL q) U0 s1) fun u6 q3=>?_
 obtain ⟨M2,W5⟩:=K0.agr q3
 refine AS Z3 func94 ?_
 cases h
 exact AS hp0 func53 ⟨M2.ag,rfl⟩
 refine Bf (.agg ((ac y0)).toArray) (bd 95) rfl (e1 rfl) (fun p q=>AP (bI_c n (K0.hL0 hL q) U0 s1)) rfl<|Al .plain rfl (Ba (α:=Ta) (xs:=([y0]:List Ta)) (vs:=[.agg ((ac y0)).toArray]) (ds' :=(ac y0)) rfl K0 cw rfl (e1 rfl) (by kernel_rfl) rfl) fun v6 p5 Y0 c3=>bk h fun W4 G4 h=>?_
 have Q1:=Tt Y2 (Tt Z2 c3)
 refine RG.doesL .plain rfl (DoesL.app (α:=Ta) (ys:=([y0]:List Ta)) G4 Y0 (fun _ _=>.t2) cw rfl rfl (AL C1 Q1) (Src.row (α:=Ta) Y0 .hd (AE (cs:=(ac y0)) (xs:=(([y0]:List Ta):List Ta)) Y0 L (Ar (cs:=(ac y0)) (ds:=[]) (aR y0.fN y0.fD) (AR _ _))))) fun V4 x6 ⟨E2,P2,d3,A3⟩=>Ag rfl<|Aa<|Ay<|Ao<|Ac (Bg (i:=v0) (j:=1) rfl rfl (by omega))<|Af rfl<|Aa ?_
 obtain ⟨Q2,B1⟩:=AN P2 .d2
 exact G2 (v0 + 1,W4,V4,E2) Q2 (Tt A1 (Tt Q1 (Tt d3 B1))) (AL A3 B1) h
 refine AT rfl ?_
 have h:=aF h H1
 try dsimp only at h
 refine Ae<|Af rfl<|Ag rfl<|Aa<|Am rfl<|Aq (u:=b0) z3 func94 rfl (.cons (.tmp rfl) .nil) rfl<|Ag rfl<|Aa<|Ae<|Af rfl<|Bq (fst:=[]) (cap:=[]) (vs:=[b0,.func (.func 97) #[] #[]]) .plain (bd 96) func96 rfl rfl rfl rfl (e2 rfl rfl) rfl fun E5 x3 X3=>Ae<|Af rfl ?_
 have b6:k0.length <= 4294967296:=St.rowLe (α:=Ta) J0 .hd
 obtain ⟨Z4,s5,E3⟩:=St.rowV (α:=Ta) J0 .hd
 refine Ac (FV.lenV underlying101 rfl E3)<|Ag rfl<|Aa<|Ao<|Af rfl<|Af rfl<|Af rfl<|Ac (FV.convU (i:=((k0.length:Nat):Int)) underlying3 underlying172 rfl)<|bk h fun u1 J4 h=>Bf (vI u1) (bd 129) rfl (e1 rfl) (fun p q=>ca_c n (J0.hL0 hL q) (ae ((k0.length:Nat):Int)) J4) rfl<|Af rfl<|Bq (fst:=[]) (cap:=[]) (vs:=[b0,vI 0,vI ((k0.length:Nat):Int),vI u1,.func (.func 97) #[] #[]]) .plain (bd 128) func128 rfl rfl rfl rfl (e5 rfl rfl rfl rfl rfl) rfl fun F5 y3 Y3=>Ae<|Ag rfl<|Aa<|Ae<|Ag rfl<|Aa<|Au<|MX.lo (α:=Nat × Nat × Int × Bool × Bool) (fun ⟨s0,t0,I0,P0,Q0⟩=>[(0,b0),(1,vI ((s0:Nat):Int)),(2,vI ((t0:Nat):Int)),(3,vI I0),(4,.func (.func 97) #[] #[]),(10,.bool P0),(11,.bool Q0)]) (fun ⟨s0,t0,I0,P0,Q0⟩=>[rr w 48 Ta b0 k0.length A0,.cells z0 [vI a0.fh,vI a0.fc,vI a0.fe,v0_3] 37]) (fun ⟨s0,t0,I0,P0,Q0⟩=>(s0,t0,I0,P0,Q0)) (0,k0.length,u1,true,true) h J0 ?_
 rintro b5 ⟨s0,t0,I0,P0,Q0⟩ D6 U5 J2 X2 h
 unfold ah_l3 at h
 try dsimp only at h
 refine Au<|Ae<|Af rfl<|Af rfl<|bk h fun K4 k4 h=>Ac (FV.subc (i:=((t0:Nat):Int)) (j:=((s0:Nat):Int)) rfl rfl k4)<|Ag rfl<|Aa<|Ak<|Ae<|Af rfl<|Ac (FV.leq (i:=K4) (j:=12) rfl rfl)<|Aa<|AI rfl h (fun x2 h=>?_) (fun x2 h=>?_)
 refine Ae<|Af rfl<|Af rfl<|Af rfl<|Af rfl<|Bq (fst:=[]) (cap:=[]) (vs:=[b0,vI ((s0:Nat):Int),vI ((t0:Nat):Int),.func (.func 97) #[] #[]]) .plain (bd 159) func159 rfl rfl rfl rfl (e4 rfl rfl rfl rfl) rfl fun C5 v3 W3=>Ae<|Af rfl<|bk h fun M4 p4 h=>Ac (Bs (i:=((s0:Nat):Int)) (j:=1) rfl rfl p4)<|Ag rfl<|Aa<|Au<|tn h fun j6 U3 I1=>MX.lf (α:=Int × (List Ta) × (List Value)) (fun ⟨u0,E0,B0⟩=>[(0,b0),(1,vI ((s0:Nat):Int)),(2,vI ((t0:Nat):Int)),(3,.func (.func 97) #[] #[]),(8,vI u0)]) (fun ⟨u0,E0,B0⟩=>[rr w 48 Ta b0 E0.length B0,.cells z0 [vI a0.fh,vI a0.fc,vI a0.fe,v0_3] 37]) (fun ⟨u0,E0,B0⟩ W1=>Cells W1 (bl [rr w 48 Ta b0 E0.length B0,.cells z0 [vI a0.fh,vI a0.fc,vI a0.fe,v0_3] 37] ++ L) B0 E0) (fun ⟨u0,E0,B0⟩=>(u0,E0)) (M4,k0,A0) U3 J2 (AL C1 X2) ?_
 rintro d5 ⟨u0,E0,B0⟩ W1 H2 X0 b3 D1 h
 unfold ah_l2 at h
 try dsimp only at h
 refine Ak<|Ae<|Af rfl<|Af rfl<|Ac (FV.lss (i:=u0) (j:=((t0:Nat):Int)) rfl rfl)<|Aa<|AI rfl h (fun z2 h=>?_) (fun z2 h=>?_)
 refine Ap<|Ak<|Au<|Ae<|Af rfl<|Ag rfl<|Aa<|Au<|MX.xf (α:=(List Ta) × (List Value)) 2 (fun ⟨F0,G0⟩=>[(0,b0),(1,vI ((s0:Nat):Int)),(2,vI ((t0:Nat):Int)),(3,.func (.func 97) #[] #[]),(8,vI u0)]) (fun ⟨F0,G0⟩=>[rr w 48 Ta b0 F0.length G0,.cells z0 [vI a0.fh,vI a0.fc,vI a0.fe,v0_3] 37]) (fun ⟨F0,G0⟩ X1=>Cells X1 (bl [rr w 48 Ta b0 F0.length G0,.cells z0 [vI a0.fh,vI a0.fc,vI a0.fe,v0_3] 37] ++ L) G0 F0) (fun ⟨F0,G0⟩=>F0) X0 rfl h ?_ ?_
 rintro ⟨F0,G0⟩ X1 U2 g3 B3 h
 try dsimp only at h
 refine Ay<|Ao<|Af rfl<|bk h fun P4 q4 h=>Ac (Bs (i:=u0) (j:=1) rfl rfl q4)<|Ag rfl<|Aa<|H2 (P4,F0,G0) U2 (Tt b3 g3) B3 h
 intro g5 v1 h
 try dsimp only at h
 refine tn h fun k6 V3 j1=>MX.lf (α:=Int × (List Ta) × (List Value)) (fun ⟨p0,x0,C0⟩=>[(0,b0),(1,vI ((s0:Nat):Int)),(2,vI ((t0:Nat):Int)),(3,.func (.func 97) #[] #[]),(8,vI u0),(9,vI p0)]) (fun ⟨p0,x0,C0⟩=>[rr w 48 Ta b0 x0.length C0,.cells z0 [vI a0.fh,vI a0.fc,vI a0.fe,v0_3] 37]) (fun ⟨p0,x0,C0⟩ Y1=>Cells Y1 (bl [rr w 48 Ta b0 x0.length C0,.cells z0 [vI a0.fh,vI a0.fc,vI a0.fe,v0_3] 37] ++ L) C0 x0) (fun ⟨p0,x0,C0⟩=>(p0,x0)) (u0,E0,B0) V3 X0 D1 ?_
 rintro j5 ⟨p0,x0,C0⟩ Y1 I2 q0 b1 H0 h
 unfold ah_l1 at h
 try dsimp only at h
 refine Ak<|Ak<|du 17 fun c0 g0=>Rv 0 c0 rfl g0 (fun _=>Aj rfl)<|Rv 1 c0 rfl g0 (fun _=>Aj rfl)<|Rv 2 c0 rfl g0 (fun _=>FV.gtr (i:=p0) (j:=((s0:Nat):Int)) rfl rfl)<|Rv 3 c0 rfl g0 (fun _=>Aj rfl)<|RD.ifd (s:=21) rfl h (fun A2 h=>?_) (fun A2 h=>?_)
 refine RD.vP 4 31 c0 rfl g0 (.yes rfl rfl) (fun _=>Aj rfl) rfl<|RD.vP 5 63 c0 rfl g0 (.yes rfl rfl) (fun _=>Aj rfl) rfl<|RD.vP 6 127 c0 rfl g0 (.yes rfl rfl) (fun _=>Aj rfl) rfl<|bk h fun V0 y4 h=>?_
 obtain ⟨k1,z4⟩:=aI y4
 obtain ⟨g2,t5,M0,R0,G5,c4,P1⟩:=St.nth (α:=Ta) q0 .hd H0 z4
 obtain ⟨q2,u5,F1⟩:=Bu (α:=Ta) q0 .hd R0
 obtain rfl:g2 = ⟨q2,0,none⟩:=by rw [F1] at M0; cases M0; rfl
 obtain rfl:=bB c4
 refine RD.vP 7 255 c0 rfl g0 (.yes rfl rfl) (fun _=>Bh 16 (p0.toNat) rfl M0 rfl k1 R0) rfl<|RD.val (i:=8) (m' :=511) (W:=114688) (tk c0) rfl g0 (.yes rfl rfl) (AD rfl P1) rfl<|RD.vP 9 1023 c0 rfl g0 (.yes rfl rfl) (fun _=>Aj rfl) rfl<|RD.vP 10 2047 c0 rfl g0 (.yes rfl rfl) (fun _=>Aj rfl) rfl<|bk h fun Q4 s4 h=>RD.vP 11 4095 c0 rfl g0 (.yes rfl rfl) (fun _=>FV.subc (i:=p0) (j:=1) rfl rfl s4) rfl<|bk h fun Z1 A4 h=>?_
 obtain ⟨H3,B4⟩:=aI A4
 obtain ⟨j2,v5,c1,J1,H5,d4,P3⟩:=St.nth (α:=Ta) q0 .hd H0 B4
 obtain ⟨s2,x5,F3⟩:=Bu (α:=Ta) q0 .hd J1
 obtain rfl:j2 = ⟨s2,0,none⟩:=by rw [F3] at c1; cases c1; rfl
 obtain rfl:=bB d4
 refine RD.vP 12 8191 c0 rfl g0 (.yes rfl rfl) (fun _=>Bh 16 (Q4.toNat) rfl c1 rfl H3 J1) rfl<|RD.val (i:=13) (m' :=16383) (W:=114688) (tk c0) rfl g0 (.yes rfl rfl) (AD rfl P3) rfl<|xk h (fun R5 t1 h=>?_) (fun c2 t1 h=>?_)
 have h:=ax h j1
 have h:=ax h I1
 refine By (i:=14) (rk c0) (RO.callE (fst:=[]) (cap:=[]) rfl (.yes rfl rfl) (bd 97) rfl (e2 rfl rfl) (fun p q=>bM_c n (q0.hL0 hL q) V0 Z1 t1) (fun z6 t3=>?_))
 obtain ⟨V2,Y5⟩:=q0.agr t3
 refine AS W3 func159<|AS Y3 func128<|AS X3 func96 ?_
 cases h
 exact AS hp0 func53 ⟨V2.ag,rfl⟩
 refine RD.callq (i:=14) (m' :=32767) (W:=98304) (tk c0) rfl g0 (v:=vI c2) (fst:=[]) (cap:=[]) (.yes rfl rfl) (bd 97) rfl (e2 rfl rfl) (fun p q=>AP (bM_c n (q0.hL0 hL q) V0 Z1 t1)) rfl<|RD.vP 15 65535 c0 rfl g0 (.yes rfl rfl) (fun _=>FV.lss (i:=c2) (j:=0) rfl rfl) rfl<|Rv 16 c0 rfl g0 (fun _=>FV.pick_t rfl rfl)<|AH (dk c0)<|AI rfl h (fun B2 h=>?_) (fun B2 h=>?_)
 refine Ap<|Ak<|Au<|du 15 fun d0 j0=>Rv 0 d0 rfl j0 (fun _=>Aj rfl)<|Rv 1 d0 rfl j0 (fun _=>Aj rfl)<|Rv 2 d0 rfl j0 (fun _=>Aj rfl)<|Rv 3 d0 rfl j0 (fun _=>Aj rfl)<|bk h fun R1 t4 h=>Rv 4 d0 rfl j0 (fun _=>FV.subc (i:=p0) (j:=1) rfl rfl t4)<|Rv 5 d0 rfl j0 (fun _=>Aj rfl)<|Rv 6 d0 rfl j0 (fun _=>Aj rfl)<|bk h fun R4 u4 h=>Rv 7 d0 rfl j0 (fun _=>FV.subc (i:=p0) (j:=1) rfl rfl u4)<|bk h fun b2 C4 h=>?_
 obtain ⟨I3,D4⟩:=aI C4
 obtain ⟨k2,y5,d1,K1,I5,g4,Q3⟩:=St.nth (α:=Ta) q0 .hd H0 D4
 obtain ⟨u2,z5,G3⟩:=Bu (α:=Ta) q0 .hd K1
 obtain rfl:k2 = ⟨u2,0,none⟩:=by rw [G3] at d1; cases d1; rfl
 obtain rfl:=bB g4
 refine Rv 8 d0 rfl j0 (fun _=>Bh 16 (R4.toNat) rfl d1 rfl I3 K1)<|Rx 9 245760 d0 rfl j0 (AD rfl Q3)<|Rv 10 d0 rfl j0 (fun _=>Aj rfl)<|Rv 11 d0 rfl j0 (fun _=>Aj rfl)<|Rv 12 d0 rfl j0 (fun _=>Bh 16 (p0.toNat) rfl M0 rfl k1 R0)<|Rx 13 245760 d0 rfl j0 (AD rfl P1)<|Rv 14 d0 rfl j0 (fun _=>Bh 16 (p0.toNat) rfl M0 rfl k1 R0)<|bk h fun F6 H4 h=>By (i:=15) (rk d0) (RO.acts (m' :=65535) (sk d0) rfl rfl .plain (Acts.set (α:=Ta) (i:=p0.toNat) H4 q0 F1 (fun _=>.hd) H0 rfl rfl rfl rfl (aR b2.fN b2.fD) rfl) (fun A6 ⟨J5,Z0,j3,E1⟩=>?_))
 refine bk h fun E6 E4 h=>?_
 obtain ⟨J3,F4⟩:=aI E4
 obtain ⟨p2,A5,g1,M1,K5,j4,d6⟩:=St.nth (α:=Ta) Z0 .hd E1 F4
 obtain ⟨v2,B5,G1⟩:=Bu (α:=Ta) Z0 .hd M1
 obtain rfl:p2 = ⟨v2,0,none⟩:=by rw [G1] at g1; cases g1; rfl
 obtain rfl:=bB j4
 refine By (i:=16) (rk d0) (RO.val (m' :=131071) (sk d0) rfl .plain rfl (Bh 16 (R1.toNat) rfl g1 rfl J3 M1) ?_)
 refine bk h fun X4 I4 h=>By (i:=17) (rk d0) (RO.acts (m' :=262143) (sk d0) rfl rfl .plain (Acts.set (α:=Ta) (i:=R1.toNat) I4 Z0 G1 (fun _=>.hd) E1 rfl rfl rfl rfl (aR V0.fN V0.fD) rfl) (fun B6 ⟨F2,W2,k3,C3⟩=>?_))
 refine AH (dk d0)<|Ay<|Ao<|Af rfl<|bk h fun U4 v4 h=>Ac (FV.subc (i:=p0) (j:=1) rfl rfl v4)<|Ag rfl<|Aa<|I2 (U4,X4,F2) W2 (Tt b1 (Tt j3 k3)) C3 h
 refine AT rfl ?_
 have h:=aF h j1
 try dsimp only at h
 exact v1 (x0,C0) q0 b1 H0 h
 refine Bb 65535 1 [(4,22),(5,23),(6,24),(7,25),(8,26),(9,27),(10,28),(11,29),(12,30),(13,31),(14,32),(15,33)] (F:=[(21,false)]) (U:=[]) c0 g0 (.cons rfl .nil) .nil ?_
 dsimp only [aC,List.map]
 refine Rv 16 c0 rfl g0 (fun _=>AK rfl rfl)<|AH (dk c0)<|Bp rfl<|AT rfl ?_
 have h:=aF h j1
 try dsimp only at h
 exact v1 (x0,C0) q0 b1 H0 h
 refine AT rfl ?_
 have h:=aF h I1
 try dsimp only at h
 refine MX.fin rfl<|Aq (u:=.tuple #[]) v3 func159 rfl .nil rfl<|Aa<|Am rfl<|Aq (u:=.tuple #[]) y3 func128 rfl .nil rfl<|Aa<|MX.fin rfl<|Aq (u:=.tuple #[]) x3 func96 rfl .nil rfl<|Aa<|Ae<|Af rfl<|Ag rfl<|Aa<|Am rfl<|Aq (u:=b0) hb0 func53 rfl (.cons (.tmp rfl) .nil) rfl ?_
 obtain ⟨x1,p3⟩:=AN X0 (.a0 .done)
 cases h
 exact ⟨x1.ag,fun p q=>ay ⟨b0,B0,rfl,x1.agree q,Cells.keep0 (AL D1 p3) q⟩⟩
 refine Ap<|Ak<|Ae<|Af rfl<|Ac (FV.eql (i:=I0) (j:=0) rfl rfl)<|Aa<|AI rfl h (fun C2 h=>?_) (fun C2 h=>?_)
 refine Ae<|Af rfl<|Af rfl<|Af rfl<|Af rfl ?_
 cases h
 refine Ap<|Ak<|Ae<|Af rfl<|Ac (BD rfl)<|Aa<|MX.ifnb rfl h (fun D2 h=>?_) (fun D2 h=>?_)
 refine Ap<|Ae<|Af rfl<|Af rfl<|Af rfl<|Af rfl ?_
 cases h
 refine Ae<|Af rfl<|Af rfl<|Af rfl<|Af rfl ?_
 cases h
def aR_p (n:Nat) (a0:Th) (a1:Int):Option (Ta × Int):=
  (if a1 = 0 then (aX_p n a0).bind fun b0=>some (b0.1,b0.2) else some ((⟨(0,0,0,0,0,0,0,0),(0,0,0,0,0,0,0,0)⟩:Ta),a1))
theorem aR_c (n:Nat) {L w} (hL:hl L w) (a0:Th) {v0_1:Value} (h0_1:Rep.R w L [v0_1] a0.fv.fo) {v0_3:Value} (h0_3:Rep.R w L [v0_3] a0.fp.fo) {a1:Int}  {r:Ta × Int} (h:aR_p n a0 a1 = some r) :
 Cl 120 #[.agg #[.bool a0.fv.fj,v0_1,.bool a0.fp.fj,v0_3],vI a1] w (ak w fun _ u=>u = .tuple #[.agg ((ac r.1)).toArray,vI r.2]):=by
 unfold aR_p at h
 refine AC func120 rfl rfl rfl fun _ cs0 hb0=>Ae<|RG.bx (Ax w) rfl rfl fun z0 s0 p0 u0=>RG.nl zL p0 fun A0 t0 b0 v0=>Ag rfl<|Aa<|Ak<|Ae<|Af rfl<|Ac (FV.neq (i:=a1) (j:=0) rfl rfl)<|Aa<|MX.ifn rfl h (fun j0 h=>?_) (fun j0 h=>?_)
 refine Ap<|Ae<|Ac (AD rfl (b0.memA .t1))<|bk h fun c0 q0 h=>Bf (.tuple #[.agg ((ac c0.1)).toArray,vI c0.2]) (bd 146) rfl (e1 rfl) (fun p q=>aX_c n (b0.hL0 hL q) a0 (b0.k0 h0_1 q) (b0.k0 h0_3 q) q0) rfl<|Ac (Ai rfl rfl)<|Ac (Ai rfl rfl)<|AW (ac c0.1) b0 .hd (aq rfl) fun B0 d0 x0=>Ag rfl<|Aa<|Am rfl<|Aq hb0 func120 rfl (.cons (.many (cs:=(ac c0.1)) rfl rfl (d0.memA .hd)) (.cons (.tmp rfl) .nil)) rfl ?_
 cases h
 exact d0.gv
 refine Ae<|Ac (AX (vs:=[]) (u:=.agg zM) ai (fun p=>by kernel_rfl))<|Af rfl<|AW zL b0 .hd (aq rfl) fun C0 g0 y0=>Ag rfl<|Aa<|Am rfl<|Aq hb0 func120 rfl (.cons (.many (cs:=zL) rfl rfl (g0.memA .hd)) (.cons (.tmp rfl) .nil)) rfl ?_
 cases h
 exact g0.gv
def bs_p (n:Nat) (a0:Th) (a1:Th):Option Th:=
  (ax_p n a0.fv a1.fp).bind fun b0=>(ax_p n a1.fv a0.fp).bind fun c0=>(aW_p n b0 c0).bind fun d0=>(ax_p n a0.fp a1.fp).bind fun g0=>(br_p n d0 g0).bind fun j0=>some j0
theorem bs_c (n:Nat) {L w} (hL:hl L w) (a0:Th) {v0_1:Value} (h0_1:Rep.R w L [v0_1] a0.fv.fo) {v0_3:Value} (h0_3:Rep.R w L [v0_3] a0.fp.fo) (a1:Th) {v1_1:Value} (h1_1:Rep.R w L [v1_1] a1.fv.fo) {v1_3:Value} (h1_3:Rep.R w L [v1_3] a1.fp.fo)  {r:Th} (h:bs_p n a0 a1 = some r) :
 Cl 122 #[.agg #[.bool a0.fv.fj,v0_1,.bool a0.fp.fj,v0_3],.agg #[.bool a1.fv.fj,v1_1,.bool a1.fp.fj,v1_3]] w (ak w fun w' u=>∃ v0_1 v0_3:Value,u = .agg #[.bool r.fv.fj,v0_1,.bool r.fp.fj,v0_3]/\Rep.R w' L [v0_1] r.fv.fo/\Rep.R w' L [v0_3] r.fp.fo):=by
 unfold bs_p at h
 refine AC func122 rfl rfl rfl fun _ cs0 hb0=>Ae<|RG.bx (Ax w) rfl rfl fun F1 c1 z0 j1=>RG.bx z0 rfl rfl fun G1 d1 A0 k1=>RG.nl [.bool false,vN,.bool false,vN] A0 fun H1 g1 d0 p1=>Aa<|Ak<|du 17 fun b0 c0=>Rv 0 b0 rfl c0 (fun _=>Bo 0 rfl)<|Rx 1 230928 b0 rfl c0 (Bn (cs:=[.bool a0.fv.fj,v0_1]) rfl rfl (ar (d0.memA .t2) 0 2))<|Rv 2 b0 rfl c0 (fun _=>Bo 2 rfl)<|Rx 3 230928 b0 rfl c0 (Bn (cs:=[.bool a1.fp.fj,v1_3]) rfl rfl (ar (d0.memA .t1) 2 2))<|Rv 5 b0 rfl c0 (fun _=>Bo 0 rfl)<|Rx 6 230912 b0 rfl c0 (Bn (cs:=[.bool a1.fv.fj,v1_1]) rfl rfl (ar (d0.memA .t1) 0 2))<|Rv 7 b0 rfl c0 (fun _=>Bo 2 rfl)<|Rx 8 230912 b0 rfl c0 (Bn (cs:=[.bool a0.fp.fj,v0_3]) rfl rfl (ar (d0.memA .t2) 2 2))<|Rv 11 b0 rfl c0 (fun _=>Bo 2 rfl)<|Rx 12 229376 b0 rfl c0 (Bn (cs:=[.bool a0.fp.fj,v0_3]) rfl rfl (ar (d0.memA .t2) 2 2))<|Rv 13 b0 rfl c0 (fun _=>Bo 2 rfl)<|Rx 14 229376 b0 rfl c0 (Bn (cs:=[.bool a1.fp.fj,v1_3]) rfl rfl (ar (d0.memA .t1) 2 2))<|bk h fun X0 Q0 h=>BA 4 31231 b0 rfl .plain (bd 118) rfl (e2 rfl rfl) (fun p q=>ax_c n (d0.hL hL q) a0.fv (d0.km h0_1 q) a1.fp (d0.km h1_3 q) Q0) rfl fun I1 A1 E0 ⟨v1,hu_,J0⟩=>?_
 subst hu_
 obtain ⟨g0,q1⟩:=d0.agr E0
 refine bk h fun Y0 R0 h=>BA 9 31743 b0 rfl .plain (bd 118) rfl (e2 rfl rfl) (fun p q=>ax_c n (g0.hL hL q) a1.fv (g0.km h1_1 q) a0.fp (g0.km h0_3 q) R0) rfl fun J1 B1 F0 ⟨x1,hu_,K0⟩=>?_
 subst hu_
 obtain ⟨t0,C0⟩:=g0.agr F0
 refine bk h fun Z0 U0 h=>BA 10 32767 b0 rfl .plain (bd 153) rfl (e2 rfl rfl) (fun p q=>aW_c n (t0.hL hL q) X0 (Av (Az J0 C0) q) Y0 (Av K0 q) U0) rfl fun K1 C1 G0 ⟨y1,hu_,M0⟩=>?_
 subst hu_
 obtain ⟨j0,s1⟩:=t0.agr G0
 refine bk h fun b1 V0 h=>BA 15 65535 b0 rfl .plain (bd 118) rfl (e2 rfl rfl) (fun p q=>ax_c n (j0.hL hL q) a0.fp (j0.km h0_3 q) a1.fp (j0.km h1_3 q) V0) rfl fun M1 D1 H0 ⟨z1,hu_,P0⟩=>?_
 subst hu_
 obtain ⟨u0,D0⟩:=j0.agr H0
 refine bk h fun p0 W0 h=>BA 16 131071 b0 rfl .plain (bd 144) rfl (e2 rfl rfl) (fun p q=>br_c n (u0.hL hL q) Z0 (Av (Az M0 D0) q) b1 (Av P0 q) W0) rfl fun P1 E1 I0 ⟨q0,s0,hu_,x0,y0⟩=>?_
 subst hu_
 obtain ⟨B0,u1⟩:=u0.agr I0
 refine BB 17 262143 b0 rfl rfl .plain (AB (news:=[.bool p0.fv.fj,q0,.bool p0.fp.fj,s0]) B0 .hd rfl rfl rfl rfl rfl rfl (o4 rfl (Bd x0) rfl (Bd y0))) fun Q1 k0 v0=>AH (dk b0)<|Am rfl<|Aq hb0 func122 rfl (.cons (.many (cs:=[.bool p0.fv.fj,q0,.bool p0.fp.fj,s0]) rfl rfl (k0.memA .hd)) .nil) rfl ?_
 cases h
 exact ⟨k0.ag,fun p q=>⟨q0,s0,rfl,k0.kd (Az x0 v0) q,k0.kd (Az y0 v0) q⟩⟩
def bA_p (n:Nat) (a0:Th):Option Th:=
  (aM_p n a0.fv).bind fun b0=>some (⟨b0,a0.fp⟩:Th)
theorem bA_c (n:Nat) {L w} (hL:hl L w) (a0:Th) {v0_1:Value} (h0_1:Rep.R w L [v0_1] a0.fv.fo) {v0_3:Value} (h0_3:Rep.R w L [v0_3] a0.fp.fo)  {r:Th} (h:bA_p n a0 = some r) :
 Cl 169 #[.agg #[.bool a0.fv.fj,v0_1,.bool a0.fp.fj,v0_3]] w (ak w fun w' u=>∃ v0_1 v0_3:Value,u = .agg #[.bool r.fv.fj,v0_1,.bool r.fp.fj,v0_3]/\Rep.R w' L [v0_1] r.fv.fo/\Rep.R w' L [v0_3] r.fp.fo):=by
 unfold bA_p at h
 refine AC func169 rfl rfl rfl fun _ cs0 hb0=>Ae<|RG.bx (Ax w) rfl rfl fun M0 D0 u0 H0=>RG.nl [.bool false,vN,.bool false,vN] u0 fun P0 E0 c0 I0=>Aa<|Ak<|du 6 fun b0 d0=>Rv 0 b0 rfl d0 (fun _=>Bo 0 rfl)<|Rx 1 100 b0 rfl d0 (Bn (cs:=[.bool a0.fv.fj,v0_1]) rfl rfl (ar (c0.memA .t1) 0 2))<|Rv 3 b0 rfl d0 (fun _=>Bo 2 rfl)<|Rx 4 96 b0 rfl d0 (Bn (cs:=[.bool a0.fp.fj,v0_3]) rfl rfl (ar (c0.memA .t1) 2 2))<|bk h fun p0 A0 h=>BA 2 31 b0 rfl .plain (bd 184) rfl (e1 rfl) (fun p q=>aM_c n (c0.hL hL q) a0.fv (c0.km h0_1 q) A0) rfl fun Q0 K0 x0 ⟨g0,hu_,q0⟩=>?_
 subst hu_
 obtain ⟨s0,J0⟩:=c0.agr x0
 obtain ⟨B0,F0,y0,_⟩:=Rep.sl q0
 have t0:=AQ h0_3 s0
 obtain ⟨C0,G0,z0,_⟩:=Rep.sl t0
 refine Rv 5 b0 rfl d0 (fun _=>AX (vs:=[.agg #[.bool p0.fj,g0],.agg #[.bool a0.fp.fj,v0_3]]) (u:=.agg #[.bool p0.fj,g0,.bool a0.fp.fj,v0_3]) (e2 rfl rfl) (fun p=>by rw [y0,z0]; try kernel_rfl))<|BB 6 127 b0 rfl rfl .plain (AB (news:=[.bool p0.fj,g0,.bool a0.fp.fj,v0_3]) s0 .hd rfl rfl rfl rfl rfl rfl (o4 rfl (Bd q0) rfl (Bd t0))) fun R0 j0 v0=>AH (dk b0)<|Am rfl<|Aq hb0 func169 rfl (.cons (.many (cs:=[.bool p0.fj,g0,.bool a0.fp.fj,v0_3]) rfl rfl (j0.memA .hd)) .nil) rfl ?_
 cases h
 exact ⟨j0.ag,fun p q=>⟨g0,v0_3,rfl,j0.kd (Az q0 v0) q,j0.k0 h0_3 q⟩⟩
def bN_p (n:Nat) (a0:Th) (a1:Th):Option Th:=
  (bA_p n a1).bind fun b0=>(bs_p n a0 b0).bind fun c0=>some c0
theorem bN_c (n:Nat) {L w} (hL:hl L w) (a0:Th) {v0_1:Value} (h0_1:Rep.R w L [v0_1] a0.fv.fo) {v0_3:Value} (h0_3:Rep.R w L [v0_3] a0.fp.fo) (a1:Th) {v1_1:Value} (h1_1:Rep.R w L [v1_1] a1.fv.fo) {v1_3:Value} (h1_3:Rep.R w L [v1_3] a1.fp.fo)  {r:Th} (h:bN_p n a0 a1 = some r) :
 Cl 130 #[.agg #[.bool a0.fv.fj,v0_1,.bool a0.fp.fj,v0_3],.agg #[.bool a1.fv.fj,v1_1,.bool a1.fp.fj,v1_3]] w (ak w fun w' u=>∃ v0_1 v0_3:Value,u = .agg #[.bool r.fv.fj,v0_1,.bool r.fp.fj,v0_3]/\Rep.R w' L [v0_1] r.fv.fo/\Rep.R w' L [v0_3] r.fp.fo):=by
 unfold bN_p at h
 refine AC func130 rfl rfl rfl fun _ cs0 hb0=>Ae<|RG.bx (Ax w) rfl rfl fun X0 G0 v0 J0=>RG.bx v0 rfl rfl fun Y0 H0 x0 K0=>RG.nl [.bool false,vN,.bool false,vN] x0 fun Z0 I0 b0 M0=>Aa<|Ak<|du 4 fun c0 u0=>Rx 0 24 c0 rfl u0 (AD rfl (b0.memA .t2))<|Rx 1 28 c0 rfl u0 (AD rfl (b0.memA .t1))<|bk h fun F0 D0 h=>BA 2 7 c0 rfl .plain (bd 169) rfl (e1 rfl) (fun p q=>bA_c n (b0.hL hL q) a1 (b0.km h1_1 q) (b0.km h1_3 q) D0) rfl fun b1 V0 z0 ⟨R0,U0,hu_,B0,C0⟩=>?_
 subst hu_
 obtain ⟨d0,P0⟩:=b0.agr z0
 refine bk h fun j0 E0 h=>BA 3 15 c0 rfl .plain (bd 122) rfl (e2 rfl rfl) (fun p q=>bs_c n (d0.hL hL q) a0 (d0.km h0_1 q) (d0.km h0_3 q) F0 (Av B0 q) (Av C0 q) E0) rfl fun c1 W0 A0 ⟨k0,p0,hu_,s0,t0⟩=>?_
 subst hu_
 obtain ⟨y0,Q0⟩:=d0.agr A0
 refine BB 4 31 c0 rfl rfl .plain (AB (news:=[.bool j0.fv.fj,k0,.bool j0.fp.fj,p0]) y0 .hd rfl rfl rfl rfl rfl rfl (o4 rfl (Bd s0) rfl (Bd t0))) fun d1 g0 q0=>AH (dk c0)<|Am rfl<|Aq hb0 func130 rfl (.cons (.many (cs:=[.bool j0.fv.fj,k0,.bool j0.fp.fj,p0]) rfl rfl (g0.memA .hd)) .nil) rfl ?_
 cases h
 exact ⟨g0.ag,fun p q=>⟨k0,p0,rfl,g0.kd (Az s0 q0) q,g0.kd (Az t0 q0) q⟩⟩
def cv_p (n:Nat) (a0:Ta) (a1:Ta):Option (Ta × Int):=
  (aD_p n ([a0,a1]:List Ta)).bind fun d0=>(if d0 = true then (ay_p n a0).bind fun g0=>(ay_p n a1).bind fun j0=>(bN_p n g0 j0).bind fun k0=>(aR_p n k0 (0:Int)).bind fun c0=>some (c0.1,c0.2) else (aR_p n (⟨(⟨false,([]:List UInt64)⟩:Tg),(⟨false,([]:List UInt64)⟩:Tg)⟩:Th) (20:Int)).bind fun b0=>some (b0.1,b0.2))
theorem cv_c (n:Nat) {L w} (hL:hl L w) (a0:Ta) (a1:Ta)  {r:Ta × Int} (h:cv_p n a0 a1 = some r) :
 Cl 98 #[.agg ((ac a0)).toArray,.agg ((ac a1)).toArray] w (ak w fun _ u=>u = .tuple #[.agg ((ac r.1)).toArray,vI r.2]):=by
 unfold cv_p at h
 refine AC func98 rfl rfl rfl fun _ cs0 hb0=>Ae<|RG.bx (Ax w) rfl rfl fun j2 s1 I0 F1=>RG.bx I0 rfl rfl fun k2 u1 J0 G1=>RG.nl zL J0 fun p2 v1 q0 H1=>Ag rfl<|Aa<|Ae<|Ac (AD rfl (q0.memA .t2))<|Ac (AD rfl (q0.memA .t1))<|Bq (fst:=[]) (cap:=[]) (vs:=[.agg ((ac a0)).toArray,.agg ((ac a1)).toArray,.func (.func 130) #[] #[]]) .plain (bd 121) func121 rfl rfl rfl rfl (e3 rfl rfl rfl) rfl fun C1 E0 V1=>Ae<|RG.bx q0 rfl rfl fun q2 x1 K0 I1=>RG.bx K0 rfl rfl fun s2 y1 M0 J1=>RG.nl [.bool false,vN,.bool false,vN] M0 fun u2 z1 s0 K1=>Ag rfl<|Aa<|Ak<|Ae<|Ac (AD rfl (s0.memA .t2))<|Ac (AD rfl (s0.memA .t1))<|Al .plain rfl (Ba (α:=Ta) (xs:=([a0,a1]:List Ta)) (vs:=[.agg ((ac a0)).toArray,.agg ((ac a1)).toArray]) (ds' :=(ac a0 ++ ac a1)) rfl s0 cw rfl (e2 rfl rfl) (by kernel_rfl) rfl) fun v2 A1 c0 M1=>?_
 refine bk h fun k1 b1 h=>Bf (.bool k1) (bd 116) rfl (e1 rfl) (fun p q=>aD_c n (c0.hL0 hL q) (Av (St.lend (α:=Ta) (L:=L) c0 .hd (AE (cs:=(ac a0 ++ ac a1)) (xs:=(([a0,a1]:List Ta):List Ta)) c0 L (Ar (cs:=(ac a0)) (ds:=(ac a1)) (aR a0.fN a0.fD) (Ar (cs:=(ac a1)) (ds:=[]) (aR a1.fN a1.fD) (AR _ _)))) hL) q) b1) rfl<|Ac (BD rfl)<|Aa<|MX.ifnb rfl h (fun H0 h=>?_) (fun H0 h=>?_)
 refine Ap<|Ak<|du 6 fun b0 t0=>Rv 0 b0 rfl t0 (fun _=>Aj rfl)<|Rx 1 244 b0 rfl t0 (AD rfl (c0.memA .t3))<|Rx 3 240 b0 rfl t0 (AD rfl (c0.memA .t2))<|bk h fun p1 c1 h=>BA 2 15 b0 rfl .plain (bd 117) rfl (e1 rfl) (fun p q=>ay_c n (c0.hL hL q) a0 c1) rfl fun x2 b2 Q0 ⟨W1,X1,hu_,V0,W0⟩=>?_
 subst hu_
 obtain ⟨y0,P1⟩:=c0.agr Q0
 refine bk h fun q1 d1 h=>BA 4 31 b0 rfl .plain (bd 117) rfl (e1 rfl) (fun p q=>ay_c n (y0.hL hL q) a1 d1) rfl fun y2 c2 R0 ⟨Y1,Z1,hu_,X0,Y0⟩=>?_
 subst hu_
 obtain ⟨z0,C0⟩:=y0.agr R0
 refine bk h fun d0 g1 h=>BA 5 63 b0 rfl .plain (bd 130) rfl (e2 rfl rfl) (fun p q=>bN_c n (z0.hL hL q) p1 (Av (Az V0 C0) q) (Av (Az W0 C0) q) q1 (Av X0 q) (Av Y0 q) g1) rfl fun z2 d2 U0 ⟨u0,v0,hu_,F0,G0⟩=>?_
 subst hu_
 obtain ⟨P0,Q1⟩:=z0.agr U0
 refine BB 6 127 b0 rfl rfl .plain (AB (news:=[.bool d0.fv.fj,u0,.bool d0.fp.fj,v0]) P0 .t1 rfl rfl rfl rfl rfl rfl (o4 rfl (Bd F0) rfl (Bd G0))) fun A2 g0 D0=>By (i:=7) (rk b0) (RO.val (m' :=255) (sk b0) rfl .plain rfl (Bc rfl) ?_)
 refine AH (dk b0)<|Am rfl<|Aq (u:=.tuple #[.agg #[.bool d0.fv.fj,u0,.bool d0.fp.fj,v0],vI 0]) E0 func121 rfl (.cons (.many (cs:=[.bool d0.fv.fj,u0,.bool d0.fp.fj,v0]) rfl rfl (g0.memA .t1)) (.cons (.tmp rfl) .nil)) rfl<|Ac (Ai rfl rfl)<|Ac (Ai rfl rfl)<|bk h fun k0 j1 h=>Bf (.tuple #[.agg ((ac k0.1)).toArray,vI k0.2]) (bd 120) rfl (e2 rfl rfl) (fun p q=>aR_c n (g0.hL0 hL q) d0 (g0.kd (Az F0 D0) q) (g0.kd (Az G0 D0) q) j1) rfl<|Ac (Ai rfl rfl)<|Ac (Ai rfl rfl)<|AW (ac k0.1) g0 .t4 (aq rfl) fun B2 A0 R1=>Ag rfl<|Aa<|Am rfl<|Aq hb0 func98 rfl (.cons (.many (cs:=(ac k0.1)) rfl rfl (A0.memA .t4)) (.cons (.tmp rfl) .nil)) rfl ?_
 cases h
 exact A0.gv
 refine Ae<|RG.nl [.bool false,vN,.bool false,vN] c0 fun C2 B1 B0 U1=>Aa<|Ae<|Ac (AD rfl (B0.memA .hd))<|AW [.bool false,vN,.bool false,vN] B0 .t2 (aq rfl) fun D2 p0 D1=>Ag rfl<|Aa<|Am rfl<|Aq (u:=.tuple #[.agg #[.bool false,vN,.bool false,vN],vI 20]) E0 func121 rfl (.cons (.many (cs:=[.bool false,vN,.bool false,vN]) rfl rfl (p0.memA .t2)) (.cons (.tmp rfl) .nil)) rfl<|Ac (Ai rfl rfl)<|Ac (Ai rfl rfl)<|bk h fun j0 Z0 h=>Bf (.tuple #[.agg ((ac j0.1)).toArray,vI j0.2]) (bd 120) rfl (e2 rfl rfl) (fun p q=>aR_c n (p0.hL0 hL q) (⟨(⟨false,([]:List UInt64)⟩:Tg),(⟨false,([]:List UInt64)⟩:Tg)⟩:Th) (Av (Rep.nilSlice _ _) q) (Av (Rep.nilSlice _ _) q) Z0) rfl<|Ac (Ai rfl rfl)<|Ac (Ai rfl rfl)<|AW (ac j0.1) p0 .t5 (aq rfl) fun g2 x0 E1=>Ag rfl<|Aa<|Am rfl<|Aq hb0 func98 rfl (.cons (.many (cs:=(ac j0.1)) rfl rfl (x0.memA .t5)) (.cons (.tmp rfl) .nil)) rfl ?_
 cases h
 exact x0.gv
def bB_p (n:Nat) (a0:Ta) (a1:Ta):Option (Except Te Ta):=
  (cv_p n a0 a1).bind fun b0=>(ao_p n b0.1 b0.2).bind fun d0=>exc d0 (fun g0=>some (.ok g0)) (fun c0=>some (.error c0))
theorem bB_c (n:Nat) {L w} (hL:hl L w) (a0:Ta) (a1:Ta)  {r:Except Te Ta} (h:bB_p n a0 a1 = some r) :
 Cl 54 #[.agg ((ac a0)).toArray,.agg ((ac a1)).toArray] w (aD w (fun (y:Ta) _ u=>u = .agg ((ac y)).toArray) (fun e=>.iface 138 (.agg #[vI e.fy])) r):=by
 unfold bB_p at h
 refine Bz func54 rfl rfl rfl fun _ cs0 hb0 hp0=>Ae<|RG.bx (Ax w) rfl rfl fun E0 u0 k0 z0=>RG.bx k0 rfl rfl fun F0 v0 p0 A0=>RG.nl zL p0 fun G0 x0 b0 B0=>Aa<|Ae<|Ac (AD rfl (b0.memA .t2))<|Ac (AD rfl (b0.memA .t1))<|bk h fun c0 t0 h=>Bf (.tuple #[.agg ((ac c0.1)).toArray,vI c0.2]) (bd 98) rfl (e2 rfl rfl) (fun p q=>cv_c n (b0.hL0 hL q) a0 a1 t0) rfl<|Ac (Ai rfl rfl)<|Ac (Ai rfl rfl)<|xk h (fun y0 d0 h=>?_) (fun g0 d0 h=>?_)
 refine Bi (fst:=[]) (cap:=[]) .plain (bd 92) rfl (e2 rfl rfl) (fun p q=>ao_c n (b0.hL0 hL q) c0.1 d0) fun H0 s0=>?_
 obtain ⟨q0,C0⟩:=b0.agr s0
 cases h
 exact AS hp0 func54 ⟨q0.ag,rfl⟩
 refine Bf (.agg ((ac g0)).toArray) (bd 92) rfl (e2 rfl rfl) (fun p q=>AP (ao_c n (b0.hL0 hL q) c0.1 d0)) rfl<|AW (ac g0) b0 .hd (aq rfl) fun I0 j0 D0=>Aa<|Am rfl<|Aq hb0 func54 rfl (.cons (.many (cs:=(ac g0)) rfl rfl (j0.memA .hd)) .nil) rfl ?_
 cases h
 exact ⟨j0.ag,fun p q=>ay rfl⟩
def cC_p (n:Nat) (a0:Ta) (a1:Ta):Option (Ta × Int):=
  (aD_p n ([a0,a1]:List Ta)).bind fun d0=>(if d0 = true then (ay_p n a0).bind fun g0=>(ay_p n a1).bind fun j0=>(bs_p n g0 j0).bind fun k0=>(aR_p n k0 (0:Int)).bind fun c0=>some (c0.1,c0.2) else (aR_p n (⟨(⟨false,([]:List UInt64)⟩:Tg),(⟨false,([]:List UInt64)⟩:Tg)⟩:Th) (20:Int)).bind fun b0=>some (b0.1,b0.2))
theorem cC_c (n:Nat) {L w} (hL:hl L w) (a0:Ta) (a1:Ta)  {r:Ta × Int} (h:cC_p n a0 a1 = some r) :
 Cl 87 #[.agg ((ac a0)).toArray,.agg ((ac a1)).toArray] w (ak w fun _ u=>u = .tuple #[.agg ((ac r.1)).toArray,vI r.2]):=by
 unfold cC_p at h
 refine AC func87 rfl rfl rfl fun _ cs0 hb0=>Ae<|RG.bx (Ax w) rfl rfl fun j2 s1 I0 F1=>RG.bx I0 rfl rfl fun k2 u1 J0 G1=>RG.nl zL J0 fun p2 v1 q0 H1=>Ag rfl<|Aa<|Ae<|Ac (AD rfl (q0.memA .t2))<|Ac (AD rfl (q0.memA .t1))<|Bq (fst:=[]) (cap:=[]) (vs:=[.agg ((ac a0)).toArray,.agg ((ac a1)).toArray,.func (.func 122) #[] #[]]) .plain (bd 121) func121 rfl rfl rfl rfl (e3 rfl rfl rfl) rfl fun C1 E0 V1=>Ae<|RG.bx q0 rfl rfl fun q2 x1 K0 I1=>RG.bx K0 rfl rfl fun s2 y1 M0 J1=>RG.nl [.bool false,vN,.bool false,vN] M0 fun u2 z1 s0 K1=>Ag rfl<|Aa<|Ak<|Ae<|Ac (AD rfl (s0.memA .t2))<|Ac (AD rfl (s0.memA .t1))<|Al .plain rfl (Ba (α:=Ta) (xs:=([a0,a1]:List Ta)) (vs:=[.agg ((ac a0)).toArray,.agg ((ac a1)).toArray]) (ds' :=(ac a0 ++ ac a1)) rfl s0 cw rfl (e2 rfl rfl) (by kernel_rfl) rfl) fun v2 A1 c0 M1=>?_
 refine bk h fun k1 b1 h=>Bf (.bool k1) (bd 116) rfl (e1 rfl) (fun p q=>aD_c n (c0.hL0 hL q) (Av (St.lend (α:=Ta) (L:=L) c0 .hd (AE (cs:=(ac a0 ++ ac a1)) (xs:=(([a0,a1]:List Ta):List Ta)) c0 L (Ar (cs:=(ac a0)) (ds:=(ac a1)) (aR a0.fN a0.fD) (Ar (cs:=(ac a1)) (ds:=[]) (aR a1.fN a1.fD) (AR _ _)))) hL) q) b1) rfl<|Ac (BD rfl)<|Aa<|MX.ifnb rfl h (fun H0 h=>?_) (fun H0 h=>?_)
 refine Ap<|Ak<|du 6 fun b0 t0=>Rv 0 b0 rfl t0 (fun _=>Aj rfl)<|Rx 1 244 b0 rfl t0 (AD rfl (c0.memA .t3))<|Rx 3 240 b0 rfl t0 (AD rfl (c0.memA .t2))<|bk h fun p1 c1 h=>BA 2 15 b0 rfl .plain (bd 117) rfl (e1 rfl) (fun p q=>ay_c n (c0.hL hL q) a0 c1) rfl fun x2 b2 Q0 ⟨W1,X1,hu_,V0,W0⟩=>?_
 subst hu_
 obtain ⟨y0,P1⟩:=c0.agr Q0
 refine bk h fun q1 d1 h=>BA 4 31 b0 rfl .plain (bd 117) rfl (e1 rfl) (fun p q=>ay_c n (y0.hL hL q) a1 d1) rfl fun y2 c2 R0 ⟨Y1,Z1,hu_,X0,Y0⟩=>?_
 subst hu_
 obtain ⟨z0,C0⟩:=y0.agr R0
 refine bk h fun d0 g1 h=>BA 5 63 b0 rfl .plain (bd 122) rfl (e2 rfl rfl) (fun p q=>bs_c n (z0.hL hL q) p1 (Av (Az V0 C0) q) (Av (Az W0 C0) q) q1 (Av X0 q) (Av Y0 q) g1) rfl fun z2 d2 U0 ⟨u0,v0,hu_,F0,G0⟩=>?_
 subst hu_
 obtain ⟨P0,Q1⟩:=z0.agr U0
 refine BB 6 127 b0 rfl rfl .plain (AB (news:=[.bool d0.fv.fj,u0,.bool d0.fp.fj,v0]) P0 .t1 rfl rfl rfl rfl rfl rfl (o4 rfl (Bd F0) rfl (Bd G0))) fun A2 g0 D0=>By (i:=7) (rk b0) (RO.val (m' :=255) (sk b0) rfl .plain rfl (Bc rfl) ?_)
 refine AH (dk b0)<|Am rfl<|Aq (u:=.tuple #[.agg #[.bool d0.fv.fj,u0,.bool d0.fp.fj,v0],vI 0]) E0 func121 rfl (.cons (.many (cs:=[.bool d0.fv.fj,u0,.bool d0.fp.fj,v0]) rfl rfl (g0.memA .t1)) (.cons (.tmp rfl) .nil)) rfl<|Ac (Ai rfl rfl)<|Ac (Ai rfl rfl)<|bk h fun k0 j1 h=>Bf (.tuple #[.agg ((ac k0.1)).toArray,vI k0.2]) (bd 120) rfl (e2 rfl rfl) (fun p q=>aR_c n (g0.hL0 hL q) d0 (g0.kd (Az F0 D0) q) (g0.kd (Az G0 D0) q) j1) rfl<|Ac (Ai rfl rfl)<|Ac (Ai rfl rfl)<|AW (ac k0.1) g0 .t4 (aq rfl) fun B2 A0 R1=>Ag rfl<|Aa<|Am rfl<|Aq hb0 func87 rfl (.cons (.many (cs:=(ac k0.1)) rfl rfl (A0.memA .t4)) (.cons (.tmp rfl) .nil)) rfl ?_
 cases h
 exact A0.gv
 refine Ae<|RG.nl [.bool false,vN,.bool false,vN] c0 fun C2 B1 B0 U1=>Aa<|Ae<|Ac (AD rfl (B0.memA .hd))<|AW [.bool false,vN,.bool false,vN] B0 .t2 (aq rfl) fun D2 p0 D1=>Ag rfl<|Aa<|Am rfl<|Aq (u:=.tuple #[.agg #[.bool false,vN,.bool false,vN],vI 20]) E0 func121 rfl (.cons (.many (cs:=[.bool false,vN,.bool false,vN]) rfl rfl (p0.memA .t2)) (.cons (.tmp rfl) .nil)) rfl<|Ac (Ai rfl rfl)<|Ac (Ai rfl rfl)<|bk h fun j0 Z0 h=>Bf (.tuple #[.agg ((ac j0.1)).toArray,vI j0.2]) (bd 120) rfl (e2 rfl rfl) (fun p q=>aR_c n (p0.hL0 hL q) (⟨(⟨false,([]:List UInt64)⟩:Tg),(⟨false,([]:List UInt64)⟩:Tg)⟩:Th) (Av (Rep.nilSlice _ _) q) (Av (Rep.nilSlice _ _) q) Z0) rfl<|Ac (Ai rfl rfl)<|Ac (Ai rfl rfl)<|AW (ac j0.1) p0 .t5 (aq rfl) fun g2 x0 E1=>Ag rfl<|Aa<|Am rfl<|Aq hb0 func87 rfl (.cons (.many (cs:=(ac j0.1)) rfl rfl (x0.memA .t5)) (.cons (.tmp rfl) .nil)) rfl ?_
 cases h
 exact x0.gv
def cz_p (n:Nat) (a0:Ta) (a1:Ta):Option (Except Te Ta):=
  (cC_p n a0 a1).bind fun b0=>(ao_p n b0.1 b0.2).bind fun d0=>exc d0 (fun g0=>some (.ok g0)) (fun c0=>some (.error c0))
theorem cz_c (n:Nat) {L w} (hL:hl L w) (a0:Ta) (a1:Ta)  {r:Except Te Ta} (h:cz_p n a0 a1 = some r) :
 Cl 99 #[.agg ((ac a0)).toArray,.agg ((ac a1)).toArray] w (aD w (fun (y:Ta) _ u=>u = .agg ((ac y)).toArray) (fun e=>.iface 138 (.agg #[vI e.fy])) r):=by
 unfold cz_p at h
 refine Bz func99 rfl rfl rfl fun _ cs0 hb0 hp0=>Ae<|RG.bx (Ax w) rfl rfl fun E0 u0 k0 z0=>RG.bx k0 rfl rfl fun F0 v0 p0 A0=>RG.nl zL p0 fun G0 x0 b0 B0=>Aa<|Ae<|Ac (AD rfl (b0.memA .t2))<|Ac (AD rfl (b0.memA .t1))<|bk h fun c0 t0 h=>Bf (.tuple #[.agg ((ac c0.1)).toArray,vI c0.2]) (bd 87) rfl (e2 rfl rfl) (fun p q=>cC_c n (b0.hL0 hL q) a0 a1 t0) rfl<|Ac (Ai rfl rfl)<|Ac (Ai rfl rfl)<|xk h (fun y0 d0 h=>?_) (fun g0 d0 h=>?_)
 refine Bi (fst:=[]) (cap:=[]) .plain (bd 92) rfl (e2 rfl rfl) (fun p q=>ao_c n (b0.hL0 hL q) c0.1 d0) fun H0 s0=>?_
 obtain ⟨q0,C0⟩:=b0.agr s0
 cases h
 exact AS hp0 func99 ⟨q0.ag,rfl⟩
 refine Bf (.agg ((ac g0)).toArray) (bd 92) rfl (e2 rfl rfl) (fun p q=>AP (ao_c n (b0.hL0 hL q) c0.1 d0)) rfl<|AW (ac g0) b0 .hd (aq rfl) fun I0 j0 D0=>Aa<|Am rfl<|Aq hb0 func99 rfl (.cons (.many (cs:=(ac g0)) rfl rfl (j0.memA .hd)) .nil) rfl ?_
 cases h
 exact ⟨j0.ag,fun p q=>ay rfl⟩
def bJ_p (n:Nat) (a0:Th) (a1:Th):Option Th:=
  (ax_p n a0.fv a1.fp).bind fun b0=>(ax_p n a0.fp a1.fv).bind fun c0=>(br_p n b0 c0).bind fun d0=>some d0
theorem bJ_c (n:Nat) {L w} (hL:hl L w) (a0:Th) {v0_1:Value} (h0_1:Rep.R w L [v0_1] a0.fv.fo) {v0_3:Value} (h0_3:Rep.R w L [v0_3] a0.fp.fo) (a1:Th) {v1_1:Value} (h1_1:Rep.R w L [v1_1] a1.fv.fo) {v1_3:Value} (h1_3:Rep.R w L [v1_3] a1.fp.fo)  {r:Th} (h:bJ_p n a0 a1 = some r) :
 Cl 131 #[.agg #[.bool a0.fv.fj,v0_1,.bool a0.fp.fj,v0_3],.agg #[.bool a1.fv.fj,v1_1,.bool a1.fp.fj,v1_3]] w (ak w fun w' u=>∃ v0_1 v0_3:Value,u = .agg #[.bool r.fv.fj,v0_1,.bool r.fp.fj,v0_3]/\Rep.R w' L [v0_1] r.fv.fo/\Rep.R w' L [v0_3] r.fp.fo):=by
 unfold bJ_p at h
 refine AC func131 rfl rfl rfl fun _ cs0 hb0=>Ae<|RG.bx (Ax w) rfl rfl fun g1 M0 x0 R0=>RG.bx x0 rfl rfl fun j1 P0 y0 U0=>RG.nl [.bool false,vN,.bool false,vN] y0 fun k1 Q0 c0 V0=>Aa<|Ak<|du 11 fun b0 d0=>Rv 0 b0 rfl d0 (fun _=>Bo 0 rfl)<|Rx 1 3600 b0 rfl d0 (Bn (cs:=[.bool a0.fv.fj,v0_1]) rfl rfl (ar (c0.memA .t2) 0 2))<|Rv 2 b0 rfl d0 (fun _=>Bo 2 rfl)<|Rx 3 3600 b0 rfl d0 (Bn (cs:=[.bool a1.fp.fj,v1_3]) rfl rfl (ar (c0.memA .t1) 2 2))<|Rv 5 b0 rfl d0 (fun _=>Bo 2 rfl)<|Rx 6 3584 b0 rfl d0 (Bn (cs:=[.bool a0.fp.fj,v0_3]) rfl rfl (ar (c0.memA .t2) 2 2))<|Rv 7 b0 rfl d0 (fun _=>Bo 0 rfl)<|Rx 8 3584 b0 rfl d0 (Bn (cs:=[.bool a1.fv.fj,v1_1]) rfl rfl (ar (c0.memA .t1) 0 2))<|bk h fun J0 G0 h=>BA 4 511 b0 rfl .plain (bd 118) rfl (e2 rfl rfl) (fun p q=>ax_c n (c0.hL hL q) a0.fv (c0.km h0_1 q) a1.fp (c0.km h1_3 q) G0) rfl fun p1 b1 B0 ⟨Y0,hu_,E0⟩=>?_
 subst hu_
 obtain ⟨g0,W0⟩:=c0.agr B0
 refine bk h fun K0 H0 h=>BA 9 1023 b0 rfl .plain (bd 118) rfl (e2 rfl rfl) (fun p q=>ax_c n (g0.hL hL q) a0.fp (g0.km h0_3 q) a1.fv (g0.km h1_1 q) H0) rfl fun q1 c1 C0 ⟨Z0,hu_,F0⟩=>?_
 subst hu_
 obtain ⟨s0,A0⟩:=g0.agr C0
 refine bk h fun k0 I0 h=>BA 10 2047 b0 rfl .plain (bd 144) rfl (e2 rfl rfl) (fun p q=>br_c n (s0.hL hL q) J0 (Av (Az E0 A0) q) K0 (Av F0 q) I0) rfl fun s1 d1 D0 ⟨p0,q0,hu_,u0,v0⟩=>?_
 subst hu_
 obtain ⟨z0,X0⟩:=s0.agr D0
 refine BB 11 4095 b0 rfl rfl .plain (AB (news:=[.bool k0.fv.fj,p0,.bool k0.fp.fj,q0]) z0 .hd rfl rfl rfl rfl rfl rfl (o4 rfl (Bd u0) rfl (Bd v0))) fun u1 j0 t0=>AH (dk b0)<|Am rfl<|Aq hb0 func131 rfl (.cons (.many (cs:=[.bool k0.fv.fj,p0,.bool k0.fp.fj,q0]) rfl rfl (j0.memA .hd)) .nil) rfl ?_
 cases h
 exact ⟨j0.ag,fun p q=>⟨p0,q0,rfl,j0.kd (Az u0 t0) q,j0.kd (Az v0 t0) q⟩⟩
def cD_p (n:Nat) (a0:Ta) (a1:Ta):Option (Ta × Int):=
  (aD_p n ([a0,a1]:List Ta)).bind fun s0=>(if s0 = true then (if a1.fN = (0,0,0,0,0,0,0,0) then some ((⟨(0,0,0,0,0,0,0,0),(0,0,0,0,0,0,0,0)⟩:Ta),(7:Int)) else (aD_p n ([a0,a1]:List Ta)).bind fun t0=>(if t0 = true then (ay_p n a0).bind fun u0=>(ay_p n a1).bind fun v0=>(bJ_p n u0 v0).bind fun x0=>(aR_p n x0 (0:Int)).bind fun b0=>some (b0.1,b0.2) else (aR_p n (⟨(⟨false,([]:List UInt64)⟩:Tg),(⟨false,([]:List UInt64)⟩:Tg)⟩:Th) (20:Int)).bind fun c0=>some (c0.1,c0.2))) else (aD_p n ([a0,a1]:List Ta)).bind fun j0=>(if j0 = true then (ay_p n a0).bind fun k0=>(ay_p n a1).bind fun p0=>(bJ_p n k0 p0).bind fun q0=>(aR_p n q0 (0:Int)).bind fun d0=>some (d0.1,d0.2) else (aR_p n (⟨(⟨false,([]:List UInt64)⟩:Tg),(⟨false,([]:List UInt64)⟩:Tg)⟩:Th) (20:Int)).bind fun g0=>some (g0.1,g0.2)))
theorem cD_c (n:Nat) {L w} (hL:hl L w) (a0:Ta) (a1:Ta)  {r:Ta × Int} (h:cD_p n a0 a1 = some r) :
 Cl 100 #[.agg ((ac a0)).toArray,.agg ((ac a1)).toArray] w (ak w fun _ u=>u = .tuple #[.agg ((ac r.1)).toArray,vI r.2]):=by
 unfold cD_p at h
 refine AC func100 rfl rfl rfl fun _ cs0 hb0=>Ae<|RG.bx (Ax w) rfl rfl fun t4 K2 z1 q3=>RG.bx z1 rfl rfl fun D4 P2 C1 y3=>RG.nl zL C1 fun K4 R2 B0 D3=>Ag rfl<|Aa<|Ak<|Ae<|Ac (AD rfl (B0.memA .t2))<|Ac (AD rfl (B0.memA .t1))<|Al .plain rfl (Ba (α:=Ta) (xs:=([a0,a1]:List Ta)) (vs:=[.agg ((ac a0)).toArray,.agg ((ac a1)).toArray]) (ds' :=(ac a0 ++ ac a1)) rfl B0 cw rfl (e2 rfl rfl) (by kernel_rfl) rfl) fun M4 U2 b0 E3=>bk h fun C2 s2 h=>Bf (.bool C2) (bd 116) rfl (e1 rfl) (fun p q=>aD_c n (b0.hL0 hL q) (Av (St.lend (α:=Ta) (L:=L) b0 .hd (AE (cs:=(ac a0 ++ ac a1)) (xs:=(([a0,a1]:List Ta):List Ta)) b0 L (Ar (cs:=(ac a0)) (ds:=(ac a1)) (aR a0.fN a0.fD) (Ar (cs:=(ac a1)) (ds:=[]) (aR a1.fN a1.fD) (AR _ _)))) hL) q) s2) rfl<|Af rfl<|RG.ifb (s:=10) rfl h (fun v1 h=>?_) (fun v1 h=>?_)
 refine RG.fg 0 rfl<|AV (Bn (cs:=(ap a1.fN)) rfl rfl (ar (b0.memA .t2) 0 8))<|AV (AX (vs:=[]) (u:=.agg zQ) ai (fun p=>by kernel_rfl))<|AV (FV.eqlV (v:=.agg ((ap a1.fN)).toArray) (u:=.agg zQ) rfl rfl (jR a1.fN (0,0,0,0,0,0,0,0)))<|RG.pt rfl rfl<|Aa<|AI rfl h (fun x1 h=>?_) (fun x1 h=>?_)
 refine Ae<|Ac (AX (vs:=[]) (u:=.agg zM) ai (fun p=>by kernel_rfl))<|AW zL b0 .t1 (aq rfl) fun P4 W0 F3=>Ag rfl<|Aa<|Am rfl<|Aq hb0 func100 rfl (.cons (.many (cs:=zL) rfl rfl (W0.memA .t1)) (.cons (.tmp rfl) .nil)) rfl ?_
 cases h
 exact W0.gv
 refine Ap<|Ae<|Ac (AD rfl (b0.memA .t3))<|Ac (AD rfl (b0.memA .t2))<|Bq (fst:=[]) (cap:=[]) (vs:=[.agg ((ac a0)).toArray,.agg ((ac a1)).toArray,.func (.func 131) #[] #[]]) .plain (bd 121) func121 rfl rfl rfl rfl (e3 rfl rfl rfl) rfl fun b3 j1 Q3=>Ae<|RG.bx b0 rfl rfl fun Q4 V2 E1 G3=>RG.bx E1 rfl rfl fun R4 W2 F1 H3=>RG.nl [.bool false,vN,.bool false,vN] F1 fun U4 X2 C0 I3=>Ag rfl<|Aa<|Ak<|Ae<|Ac (AD rfl (C0.memA .t2))<|Ac (AD rfl (C0.memA .t1))<|Al .plain rfl (Ba (α:=Ta) (xs:=([a0,a1]:List Ta)) (vs:=[.agg ((ac a0)).toArray,.agg ((ac a1)).toArray]) (ds' :=(ac a0 ++ ac a1)) rfl C0 cw rfl (e2 rfl rfl) (by kernel_rfl) rfl) fun V4 Y2 j0 J3=>bk h fun D2 u2 h=>Bf (.bool D2) (bd 116) rfl (e1 rfl) (fun p q=>aD_c n (j0.hL0 hL q) (Av (St.lend (α:=Ta) (L:=L) j0 .hd (AE (cs:=(ac a0 ++ ac a1)) (xs:=(([a0,a1]:List Ta):List Ta)) j0 L (Ar (cs:=(ac a0)) (ds:=(ac a1)) (aR a0.fN a0.fD) (Ar (cs:=(ac a1)) (ds:=[]) (aR a1.fN a1.fD) (AR _ _)))) hL) q) u2) rfl<|Ac (BD rfl)<|Aa<|MX.ifnb rfl h (fun y1 h=>?_) (fun y1 h=>?_)
 refine Ap<|Ak<|du 6 fun d0 E0=>Rv 0 d0 rfl E0 (fun _=>Aj rfl)<|Rx 1 244 d0 rfl E0 (AD rfl (j0.memA .t3))<|Rx 3 240 d0 rfl E0 (AD rfl (j0.memA .t2))<|bk h fun E2 v2 h=>BA 2 15 d0 rfl .plain (bd 117) rfl (e1 rfl) (fun p q=>ay_c n (j0.hL hL q) a0 v2) rfl fun W4 j4 K1 ⟨X3,Y3,hu_,W1,X1⟩=>?_
 subst hu_
 obtain ⟨X0,K3⟩:=j0.agr K1
 refine bk h fun F2 x2 h=>BA 4 31 d0 rfl .plain (bd 117) rfl (e1 rfl) (fun p q=>ay_c n (X0.hL hL q) a1 x2) rfl fun X4 k4 M1 ⟨Z3,b4,hu_,Y1,Z1⟩=>?_
 subst hu_
 obtain ⟨Y0,c1⟩:=X0.agr M1
 refine bk h fun p0 y2 h=>BA 5 63 d0 rfl .plain (bd 131) rfl (e2 rfl rfl) (fun p q=>bJ_c n (Y0.hL hL q) E2 (Av (Az W1 c1) q) (Av (Az X1 c1) q) F2 (Av Y1 q) (Av Z1 q) y2) rfl fun Y4 p4 P1 ⟨H0,I0,hu_,q1,s1⟩=>?_
 subst hu_
 obtain ⟨G1,M3⟩:=Y0.agr P1
 refine BB 6 127 d0 rfl rfl .plain (AB (news:=[.bool p0.fv.fj,H0,.bool p0.fp.fj,I0]) G1 .t1 rfl rfl rfl rfl rfl rfl (o4 rfl (Bd q1) rfl (Bd s1))) fun Z4 s0 d1=>By (i:=7) (rk d0) (RO.val (m' :=255) (sk d0) rfl .plain rfl (Bc rfl) ?_)
 refine AH (dk d0)<|Am rfl<|Aq (u:=.tuple #[.agg #[.bool p0.fv.fj,H0,.bool p0.fp.fj,I0],vI 0]) j1 func121 rfl (.cons (.many (cs:=[.bool p0.fv.fj,H0,.bool p0.fp.fj,I0]) rfl rfl (s0.memA .t1)) (.cons (.tmp rfl) .nil)) rfl<|Ac (Ai rfl rfl)<|Ac (Ai rfl rfl)<|bk h fun t0 b2 h=>Bf (.tuple #[.agg ((ac t0.1)).toArray,vI t0.2]) (bd 120) rfl (e2 rfl rfl) (fun p q=>aR_c n (s0.hL0 hL q) p0 (s0.kd (Az q1 d1) q) (s0.kd (Az s1 d1) q) b2) rfl<|Ac (Ai rfl rfl)<|Ac (Ai rfl rfl)<|AW (ac t0.1) s0 .t5 (aq rfl) fun q4 J0 c3=>Ag rfl<|Aa<|Am rfl<|Aq hb0 func100 rfl (.cons (.many (cs:=(ac t0.1)) rfl rfl (J0.memA .t5)) (.cons (.tmp rfl) .nil)) rfl ?_
 cases h
 exact J0.gv
 refine Ae<|RG.nl [.bool false,vN,.bool false,vN] j0 fun s4 G2 K0 d3=>Aa<|Ae<|Ac (AD rfl (K0.memA .hd))<|AW [.bool false,vN,.bool false,vN] K0 .t2 (aq rfl) fun u4 y0 g3=>Ag rfl<|Aa<|Am rfl<|Aq (u:=.tuple #[.agg #[.bool false,vN,.bool false,vN],vI 20]) j1 func121 rfl (.cons (.many (cs:=[.bool false,vN,.bool false,vN]) rfl rfl (y0.memA .t2)) (.cons (.tmp rfl) .nil)) rfl<|Ac (Ai rfl rfl)<|Ac (Ai rfl rfl)<|bk h fun u0 c2 h=>Bf (.tuple #[.agg ((ac u0.1)).toArray,vI u0.2]) (bd 120) rfl (e2 rfl rfl) (fun p q=>aR_c n (y0.hL0 hL q) (⟨(⟨false,([]:List UInt64)⟩:Tg),(⟨false,([]:List UInt64)⟩:Tg)⟩:Th) (Av (Rep.nilSlice _ _) q) (Av (Rep.nilSlice _ _) q) c2) rfl<|Ac (Ai rfl rfl)<|Ac (Ai rfl rfl)<|AW (ac u0.1) y0 .t6 (aq rfl) fun v4 M0 j3=>Ag rfl<|Aa<|Am rfl<|Aq hb0 func100 rfl (.cons (.many (cs:=(ac u0.1)) rfl rfl (M0.memA .t6)) (.cons (.tmp rfl) .nil)) rfl ?_
 cases h
 exact M0.gv
 refine AG<|AG<|AG<|AG<|RG.pf rfl rfl<|Aa<|Bp rfl<|Ap<|Ae<|Ac (AD rfl (b0.memA .t3))<|Ac (AD rfl (b0.memA .t2))<|Bq (fst:=[]) (cap:=[]) (vs:=[.agg ((ac a0)).toArray,.agg ((ac a1)).toArray,.func (.func 131) #[] #[]]) .plain (bd 121) func121 rfl rfl rfl rfl (e3 rfl rfl rfl) rfl fun Z2 g1 P3=>Ae<|RG.bx b0 rfl rfl fun x4 H2 A1 k3=>RG.bx A1 rfl rfl fun y4 I2 B1 p3=>RG.nl [.bool false,vN,.bool false,vN] B1 fun z4 J2 z0 s3=>Ag rfl<|Aa<|Ak<|Ae<|Ac (AD rfl (z0.memA .t2))<|Ac (AD rfl (z0.memA .t1))<|Al .plain rfl (Ba (α:=Ta) (xs:=([a0,a1]:List Ta)) (vs:=[.agg ((ac a0)).toArray,.agg ((ac a1)).toArray]) (ds' :=(ac a0 ++ ac a1)) rfl z0 cw rfl (e2 rfl rfl) (by kernel_rfl) rfl) fun A4 M2 g0 u3=>bk h fun z2 d2 h=>Bf (.bool z2) (bd 116) rfl (e1 rfl) (fun p q=>aD_c n (g0.hL0 hL q) (Av (St.lend (α:=Ta) (L:=L) g0 .hd (AE (cs:=(ac a0 ++ ac a1)) (xs:=(([a0,a1]:List Ta):List Ta)) g0 L (Ar (cs:=(ac a0)) (ds:=(ac a1)) (aR a0.fN a0.fD) (Ar (cs:=(ac a1)) (ds:=[]) (aR a1.fN a1.fD) (AR _ _)))) hL) q) d2) rfl<|Ac (BD rfl)<|Aa<|MX.ifnb rfl h (fun u1 h=>?_) (fun u1 h=>?_)
 refine Ap<|Ak<|du 6 fun c0 D0=>Rv 0 c0 rfl D0 (fun _=>Aj rfl)<|Rx 1 244 c0 rfl D0 (AD rfl (g0.memA .t3))<|Rx 3 240 c0 rfl D0 (AD rfl (g0.memA .t2))<|bk h fun A2 g2 h=>BA 2 15 c0 rfl .plain (bd 117) rfl (e1 rfl) (fun p q=>ay_c n (g0.hL hL q) a0 g2) rfl fun B4 c4 H1 ⟨R3,U3,hu_,Q1,R1⟩=>?_
 subst hu_
 obtain ⟨P0,v3⟩:=g0.agr H1
 refine bk h fun B2 j2 h=>BA 4 31 c0 rfl .plain (bd 117) rfl (e1 rfl) (fun p q=>ay_c n (P0.hL hL q) a1 j2) rfl fun C4 d4 I1 ⟨V3,W3,hu_,U1,V1⟩=>?_
 subst hu_
 obtain ⟨Q0,Z0⟩:=P0.agr I1
 refine bk h fun k0 k2 h=>BA 5 63 c0 rfl .plain (bd 131) rfl (e2 rfl rfl) (fun p q=>bJ_c n (Q0.hL hL q) A2 (Av (Az Q1 Z0) q) (Av (Az R1 Z0) q) B2 (Av U1 q) (Av V1 q) k2) rfl fun E4 g4 J1 ⟨F0,G0,hu_,k1,p1⟩=>?_
 subst hu_
 obtain ⟨D1,x3⟩:=Q0.agr J1
 refine BB 6 127 c0 rfl rfl .plain (AB (news:=[.bool k0.fv.fj,F0,.bool k0.fp.fj,G0]) D1 .t1 rfl rfl rfl rfl rfl rfl (o4 rfl (Bd k1) rfl (Bd p1))) fun F4 q0 b1=>By (i:=7) (rk c0) (RO.val (m' :=255) (sk c0) rfl .plain rfl (Bc rfl) ?_)
 refine AH (dk c0)<|Am rfl<|Aq (u:=.tuple #[.agg #[.bool k0.fv.fj,F0,.bool k0.fp.fj,G0],vI 0]) g1 func121 rfl (.cons (.many (cs:=[.bool k0.fv.fj,F0,.bool k0.fp.fj,G0]) rfl rfl (q0.memA .t1)) (.cons (.tmp rfl) .nil)) rfl<|Ac (Ai rfl rfl)<|Ac (Ai rfl rfl)<|bk h fun v0 p2 h=>Bf (.tuple #[.agg ((ac v0.1)).toArray,vI v0.2]) (bd 120) rfl (e2 rfl rfl) (fun p q=>aR_c n (q0.hL0 hL q) k0 (q0.kd (Az k1 b1) q) (q0.kd (Az p1 b1) q) p2) rfl<|Ac (Ai rfl rfl)<|Ac (Ai rfl rfl)<|AW (ac v0.1) q0 .t5 (aq rfl) fun G4 R0 z3=>Ag rfl<|Aa<|Am rfl<|Aq hb0 func100 rfl (.cons (.many (cs:=(ac v0.1)) rfl rfl (R0.memA .t5)) (.cons (.tmp rfl) .nil)) rfl ?_
 cases h
 exact R0.gv
 refine Ae<|RG.nl [.bool false,vN,.bool false,vN] g0 fun H4 Q2 U0 A3=>Aa<|Ae<|Ac (AD rfl (U0.memA .hd))<|AW [.bool false,vN,.bool false,vN] U0 .t2 (aq rfl) fun I4 A0 B3=>Ag rfl<|Aa<|Am rfl<|Aq (u:=.tuple #[.agg #[.bool false,vN,.bool false,vN],vI 20]) g1 func121 rfl (.cons (.many (cs:=[.bool false,vN,.bool false,vN]) rfl rfl (A0.memA .t2)) (.cons (.tmp rfl) .nil)) rfl<|Ac (Ai rfl rfl)<|Ac (Ai rfl rfl)<|bk h fun x0 q2 h=>Bf (.tuple #[.agg ((ac x0.1)).toArray,vI x0.2]) (bd 120) rfl (e2 rfl rfl) (fun p q=>aR_c n (A0.hL0 hL q) (⟨(⟨false,([]:List UInt64)⟩:Tg),(⟨false,([]:List UInt64)⟩:Tg)⟩:Th) (Av (Rep.nilSlice _ _) q) (Av (Rep.nilSlice _ _) q) q2) rfl<|Ac (Ai rfl rfl)<|Ac (Ai rfl rfl)<|AW (ac x0.1) A0 .t6 (aq rfl) fun J4 V0 C3=>Ag rfl<|Aa<|Am rfl<|Aq hb0 func100 rfl (.cons (.many (cs:=(ac x0.1)) rfl rfl (V0.memA .t6)) (.cons (.tmp rfl) .nil)) rfl ?_
 cases h
 exact V0.gv
def bt_l1 (n:Nat) (a0:List Ta) (D0:Nat × U16 -> Option ((Except Te Ta) ⊕ (U16))):Nat × U16 -> Option ((Except Te Ta) ⊕ (U16))
  | (c0,d0,g0,j0,k0,p0,q0,s0,t0,u0,v0,x0,y0,z0,A0,B0,C0)=>(if c0 < a0.length then (a0[c0]?).bind fun F0=>(cz_p n (⟨(d0,g0,j0,k0,p0,q0,s0,t0),(u0,v0,x0,y0,z0,A0,B0,C0)⟩:Ta) F0).bind fun G0=>exc G0 (fun b0=>D0 (c0 + 1,b0.fN.1,b0.fN.2.1,b0.fN.2.2.1,b0.fN.2.2.2.1,b0.fN.2.2.2.2.1,b0.fN.2.2.2.2.2.1,b0.fN.2.2.2.2.2.2.1,b0.fN.2.2.2.2.2.2.2,b0.fD.1,b0.fD.2.1,b0.fD.2.2.1,b0.fD.2.2.2.1,b0.fD.2.2.2.2.1,b0.fD.2.2.2.2.2.1,b0.fD.2.2.2.2.2.2.1,b0.fD.2.2.2.2.2.2.2)) (fun E0=>some (.inl (.error E0))) else some (.inr (d0,g0,j0,k0,p0,q0,s0,t0,u0,v0,x0,y0,z0,A0,B0,C0)))
def bt_p (n:Nat) (a0:List Ta):Option (Except Te Ta):=
  (aY_p n (0:Int) (1:Int)).bind fun G0=>exc G0 (fun b0=>thn (ao (bt_l1 n a0) n (0,b0.fN.1,b0.fN.2.1,b0.fN.2.2.1,b0.fN.2.2.2.1,b0.fN.2.2.2.2.1,b0.fN.2.2.2.2.2.1,b0.fN.2.2.2.2.2.2.1,b0.fN.2.2.2.2.2.2.2,b0.fD.1,b0.fD.2.1,b0.fD.2.2.1,b0.fD.2.2.2.1,b0.fD.2.2.2.2.1,b0.fD.2.2.2.2.2.1,b0.fD.2.2.2.2.2.2.1,b0.fD.2.2.2.2.2.2.2)) (fun (k0,p0,q0,s0,t0,u0,v0,x0,y0,z0,A0,B0,C0,D0,E0,F0)=>(aY_p n ((a0.length:Nat):Int) (1:Int)).bind fun H0=>exc H0 (fun I0=>(cD_p n (⟨(k0,p0,q0,s0,t0,u0,v0,x0),(y0,z0,A0,B0,C0,D0,E0,F0)⟩:Ta) I0).bind fun c0=>(ao_p n c0.1 c0.2).bind fun J0=>exc J0 (fun K0=>some (.ok K0)) (fun j0=>some (.error j0))) (fun g0=>some (.error g0)))) (fun d0=>some (.error d0))
theorem bt_c (n:Nat) {L w} (hL:hl L w) {a0:List Ta} {v0_0:Value} (h0_0:Rep.R w L [v0_0] a0)  {r:Except Te Ta} (h:bt_p n a0 = some r) :
 Cl 55 #[v0_0] w (aD w (fun (y:Ta) _ u=>u = .agg ((ac y)).toArray) (fun e=>.iface 138 (.agg #[vI e.fy])) r):=by
 unfold bt_p at h
 refine Bz func55 rfl rfl rfl fun _ cs0 hb0 hp0=>Ae<|RG.nl zL (Ax w) fun y2 V0 I0 g2=>Aa<|Ae<|xk h (fun b2 K0 h=>?_) (fun c0 K0 h=>?_)
 refine Bi (fst:=[]) (cap:=[]) .plain (bd 48) rfl (e2 rfl rfl) (fun p q=>aY_c n (I0.hL0 hL q)  K0) fun E2 H1=>?_
 obtain ⟨x1,s2⟩:=I0.agr H1
 cases h
 exact AS hp0 func55 ⟨x1.ag,rfl⟩
 refine Bf (.agg ((ac c0)).toArray) (bd 48) rfl (e2 rfl rfl) (fun p q=>AP (aY_c n (I0.hL0 hL q)  K0)) rfl<|RG.nl zL I0 fun H2 W0 y1 t2=>AW (ac c0) y1 .hd (aq rfl) fun I2 Y0 u2=>Aa<|Ak<|Ae<|Af rfl ?_
 have b1:=AQ h0_0 Y0
 have v2:a0.length <= 281474976710656:=AY b1
 refine Ac (Be (xs:=a0) underlying101 rfl b1)<|Af rfl<|Aa<|Au<|tn h fun x2 M1 Z0=>MX.lo (α:=Nat × U16) (fun ⟨j0,p0,q0,s0,t0,u0,v0,x0,y0,z0,A0,B0,C0,D0,E0,F0,G0⟩=>[(0,v0_0),(2,vP V0),(3,vP W0),(7,v0_0),(8,vI ((a0.length:Nat):Int)),(9,vI ((j0:Nat):Int))]) (fun ⟨j0,p0,q0,s0,t0,u0,v0,x0,y0,z0,A0,B0,C0,D0,E0,F0,G0⟩=>[.cells W0 [vU p0,vU q0,vU s0,vU t0,vU u0,vU v0,vU x0,vU y0,vU z0,vU A0,vU B0,vU C0,vU D0,vU E0,vU F0,vU G0] 48,.cells V0 zL 48]) (fun ⟨j0,p0,q0,s0,t0,u0,v0,x0,y0,z0,A0,B0,C0,D0,E0,F0,G0⟩=>(j0,p0,q0,s0,t0,u0,v0,x0,y0,z0,A0,B0,C0,D0,E0,F0,G0)) (0,c0.fN.1,c0.fN.2.1,c0.fN.2.2.1,c0.fN.2.2.2.1,c0.fN.2.2.2.2.1,c0.fN.2.2.2.2.2.1,c0.fN.2.2.2.2.2.2.1,c0.fN.2.2.2.2.2.2.2,c0.fD.1,c0.fD.2.1,c0.fD.2.2.1,c0.fD.2.2.2.1,c0.fD.2.2.2.2.1,c0.fD.2.2.2.2.2.1,c0.fD.2.2.2.2.2.2.1,c0.fD.2.2.2.2.2.2.2) M1 Y0 ?_
 rintro V1 ⟨j0,p0,q0,s0,t0,u0,v0,x0,y0,z0,A0,B0,C0,D0,E0,F0,G0⟩ J2 j1 d0 z1 h
 unfold bt_l1 at h
 try dsimp only at h
 refine Ae<|Ac (Bm (i:=j0) (j:=a0.length) rfl rfl)<|Aa<|Ak<|AI rfl h (fun g1 h=>?_) (fun g1 h=>?_)
 refine Ap<|Ak<|Au<|Ae<|bk h fun R0 Q1 h=>?_
 obtain ⟨U1,X1,I1,J1,Y1,P1,K1⟩:=Bl (AQ h0_0 d0) Q1
 obtain rfl:=bB P1
 refine Ac (Bh 16 j0 rfl I1 rfl rfl J1)<|Ac (AD rfl K1)<|RG.nl zL d0 fun z2 W1 k1 A1=>AW (ac R0) k1 .hd (aq rfl) fun A2 H0 B1=>Aa<|Ao<|Ac (AD rfl (H0.memA .t1))<|Ac (AD rfl (H0.memA .hd))<|xk h (fun Z1 M0 h=>?_) (fun b0 M0 h=>?_)
 have h:=ax h Z0
 refine Bi (fst:=[]) (cap:=[]) .plain (bd 99) rfl (e2 rfl rfl) (fun p q=>cz_c n (H0.hL0 hL q) (⟨(p0,q0,s0,t0,u0,v0,x0,y0),(z0,A0,B0,C0,D0,E0,F0,G0)⟩:Ta) R0 M0) fun B2 E1=>?_
 obtain ⟨p1,j2⟩:=H0.agr E1
 cases h
 exact AS hp0 func55 ⟨p1.ag,rfl⟩
 refine Bf (.agg ((ac b0)).toArray) (bd 99) rfl (e2 rfl rfl) (fun p q=>AP (cz_c n (H0.hL0 hL q) (⟨(p0,q0,s0,t0,u0,v0,x0,y0),(z0,A0,B0,C0,D0,E0,F0,G0)⟩:Ta) R0 M0)) rfl<|AW (ac b0) H0 .t1 (aq rfl) fun C2 q1 C1=>Aa<|Ay<|Ao<|Ac (Bg (i:=j0) (j:=1) rfl rfl (by omega))<|Af rfl<|Aa ?_
 obtain ⟨s1,D1⟩:=AN q1 .d1
 exact j1 (j0 + 1,b0.fN.1,b0.fN.2.1,b0.fN.2.2.1,b0.fN.2.2.2.1,b0.fN.2.2.2.2.1,b0.fN.2.2.2.2.2.1,b0.fN.2.2.2.2.2.2.1,b0.fN.2.2.2.2.2.2.2,b0.fD.1,b0.fD.2.1,b0.fD.2.2.1,b0.fD.2.2.2.1,b0.fD.2.2.2.2.1,b0.fD.2.2.2.2.2.1,b0.fD.2.2.2.2.2.2.1,b0.fD.2.2.2.2.2.2.2) s1 (Tt z1 (Tt A1 (Tt B1 (Tt C1 D1)))) h
 refine AT rfl ?_
 have h:=aF h Z0
 try dsimp only at h
 refine Ak<|du 8 fun g0 k0=>Rx 0 496 g0 rfl k0 (AD rfl (d0.memA .hd))<|Rv 1 g0 rfl k0 (fun _=>Aj rfl)<|Rx 2 504 g0 rfl k0 (Be (xs:=a0) underlying101 rfl (AQ h0_0 d0))<|xk h (fun c2 P0 h=>?_) (fun c1 P0 h=>?_)
 refine By (i:=3) (rk g0) (RO.callE (fst:=[]) (cap:=[]) rfl .plain (bd 48) rfl (e2 rfl rfl) (fun p q=>aY_c n (d0.hL0 hL q)  P0) (fun D2 F1=>?_))
 obtain ⟨u1,k2⟩:=d0.agr F1
 cases h
 exact AS hp0 func55 ⟨u1.ag,rfl⟩
 refine RD.cq 3 15 496 (.agg ((ac c1)).toArray) g0 rfl k0 (bd 48) rfl (e2 rfl rfl) (fun p q=>AP (aY_c n (d0.hL0 hL q)  P0)) rfl<|bk h fun J0 R1 h=>RD.cq 4 31 480 (.tuple #[.agg ((ac J0.1)).toArray,vI J0.2]) g0 rfl k0 (bd 100) rfl (e2 rfl rfl) (fun p q=>cD_c n (d0.hL0 hL q) (⟨(p0,q0,s0,t0,u0,v0,x0,y0),(z0,A0,B0,C0,D0,E0,F0,G0)⟩:Ta) c1 R1) rfl<|Rv 5 g0 rfl k0 (fun _=>Ai rfl rfl)<|Rv 6 g0 rfl k0 (fun _=>Ai rfl rfl)<|xk h (fun d2 Q0 h=>?_) (fun U0 Q0 h=>?_)
 refine By (i:=7) (rk g0) (RO.callE (fst:=[]) (cap:=[]) rfl .plain (bd 92) rfl (e2 rfl rfl) (fun p q=>ao_c n (d0.hL0 hL q) J0.1 Q0) (fun F2 G1=>?_))
 obtain ⟨v1,p2⟩:=d0.agr G1
 cases h
 exact AS hp0 func55 ⟨v1.ag,rfl⟩
 refine RD.cq 7 255 256 (.agg ((ac U0)).toArray) g0 rfl k0 (bd 92) rfl (e2 rfl rfl) (fun p q=>AP (ao_c n (d0.hL0 hL q) J0.1 Q0)) rfl<|BB 8 511 g0 rfl rfl .plain (AB (news:=(ac U0)) d0 .t1 rfl rfl rfl rfl rfl rfl (aq rfl)) fun G2 X0 q2=>AH (dk g0)<|Am rfl<|Aq hb0 func55 rfl (.cons (.many (cs:=(ac U0)) rfl rfl (X0.memA .t1)) .nil) rfl ?_
 cases h
 exact ⟨X0.ag,fun p q=>ay rfl⟩
end Go.Proofs.YtibdeoeglcngoaaGreatDoor
