import Derived.Test.YtkommhmbkbhmlaaGreatSJ10
namespace Go.Proofs.YtkommhmbkbhmlaaGreat
open Go Go.RowKit Tryz
set_option maxRecDepth 4000
set_option maxHeartbeats 4000000

def br_p (n:Nat) (a0:Tf) (a1:Tf):Oa Tf:=
  (aK_p n a0.fN a1.fN).bind fun b0=>(aK_p n a0.fD a1.fD).bind fun c0=>(bg_p n b0 c0).bind fun d0=>some d0
theorem br_c (n:Nat) {L w} (hL:hl L w) (a0:Tf) {v0_1:Vc} (h0_1:Rep.R w L [v0_1] a0.fN.fD) {v0_3:Vc} (h0_3:Rep.R w L [v0_3] a0.fD.fD) (a1:Tf) {v1_1:Vc} (h1_1:Rep.R w L [v1_1] a1.fN.fD) {v1_3:Vc} (h1_3:Rep.R w L [v1_3] a1.fD.fD)  {r:Tf} (h:br_p n a0 a1 = some r) :
 Cl 107 #[.agg #[.bool a0.fN.fc,v0_1,.bool a0.fD.fc,v0_3],.agg #[.bool a1.fN.fc,v1_1,.bool a1.fD.fc,v1_3]] w (aj w fun w' u=>∃ v0_1 v0_3:Vc,u = .agg #[.bool r.fN.fc,v0_1,.bool r.fD.fc,v0_3]/\Rep.R w' L [v0_1] r.fN.fD/\Rep.R w' L [v0_3] r.fD.fD):=by
 unfold br_p at h
 refine AM func107 I I I fun _ cs0 hb0=>Ae<|RG.bx (AL w) I I fun g1 M0 x0 R0=>RG.bx x0 I I fun j1 P0 y0 U0=>RG.nl [.bool false,vN,.bool false,vN] y0 fun k1 Q0 c0 V0=>Aa<|Aj<|du 11 fun b0 d0=>Rv 0 b0 I d0 (fun _=>Bg 0 I)<|Rx 1 3600 b0 I d0 (AN (cs:=[.bool a0.fN.fc,v0_1]) I I (ac (c0.memA .t2) 0 2))<|Rv 2 b0 I d0 (fun _=>Bg 0 I)<|Rx 3 3600 b0 I d0 (AN (cs:=[.bool a1.fN.fc,v1_1]) I I (ac (c0.memA .t1) 0 2))<|Rv 5 b0 I d0 (fun _=>Bg 2 I)<|Rx 6 3584 b0 I d0 (AN (cs:=[.bool a0.fD.fc,v0_3]) I I (ac (c0.memA .t2) 2 2))<|Rv 7 b0 I d0 (fun _=>Bg 2 I)<|Rx 8 3584 b0 I d0 (AN (cs:=[.bool a1.fD.fc,v1_3]) I I (ac (c0.memA .t1) 2 2))<|bk h fun J0 G0 h=>AX 4 511 b0 I .plain (bd 153) I (e2 I I) (fun p q=>aK_c n (c0.hL hL q) a0.fN (c0.km h0_1 q) a1.fN (c0.km h1_1 q) G0) I fun p1 b1 B0 ⟨Y0,hu_,E0⟩=>?_
 subst hu_
 obtain ⟨g0,W0⟩:=c0.agr B0
 refine bk h fun K0 H0 h=>AX 9 1023 b0 I .plain (bd 153) I (e2 I I) (fun p q=>aK_c n (g0.hL hL q) a0.fD (g0.km h0_3 q) a1.fD (g0.km h1_3 q) H0) I fun q1 c1 C0 ⟨Z0,hu_,F0⟩=>?_
 subst hu_
 obtain ⟨s0,A0⟩:=g0.agr C0
 refine bk h fun k0 I0 h=>AX 10 2047 b0 I .plain (bd 148) I (e2 I I) (fun p q=>bg_c n (s0.hL hL q) J0 (Af (Ag E0 A0) q) K0 (Af F0 q) I0) I fun s1 d1 D0 ⟨p0,q0,hu_,u0,v0⟩=>?_
 subst hu_
 obtain ⟨z0,X0⟩:=s0.agr D0
 refine BB 11 4095 b0 I I .plain (AC (news:=[.bool k0.fN.fc,p0,.bool k0.fD.fc,q0]) z0 .hd I I I I I I (o4 I (Ay u0) I (Ay v0))) fun u1 j0 t0=>AK (dk b0)<|Ar I<|Au hb0 func107 I (.cons (.many (cs:=[.bool k0.fN.fc,p0,.bool k0.fD.fc,q0]) I I (j0.memA .hd)) .nil) I ?_
 cases h
 exact ⟨j0.ag,fun p q=>⟨p0,q0,I,j0.kd (Ag u0 t0) q,j0.kd (Ag v0 t0) q⟩⟩
theorem op_Ti {w:World} {L:Lb Nat} {cs:Lb Vc} {x:Ti} (h:Rep.R w L cs x):∃ v0:Vc,cs = [v0]/\Rep.R w L [v0] x.fL:=by
  obtain ⟨v0,rfl,kv0⟩:=cY (xs:=x.fL) h
  exact ⟨v0,I,kv0⟩
def cC_p (n:Nat) (a0:Lb Ta) (a1:Ti) (a2:Tl):Oa ((Lb Ta) × (Lb Ta) × (Lb Ta)):=
  (bM_p n a0).bind fun b0=>(am_p n a1).bind fun c0=>(am_p n a1).bind fun d0=>(cb_p n a2 d0).bind fun g0=>some (b0,c0,g0)
theorem cC_c (n:Nat) {L w} (hL:hl L w) {a0:Lb Ta} {v0_0:Vc} (h0_0:Rep.R w L [v0_0] a0) (a1:Ti) {v1_0:Vc} (h1_0:Rep.R w L [v1_0] a1.fL) (a2:Tl)  {r:(Lb Ta) × (Lb Ta) × (Lb Ta)} (h:cC_p n a0 a1 a2 = some r) :
 Cl 40 #[v0_0,.agg #[v1_0],.agg ((gP a2)).toArray] w (aj w fun w' u=>∃ v0_0 v0_1 v0_2:Vc,u = .agg #[v0_0,v0_1,v0_2]/\Rep.R w' L [v0_0] r.1/\Rep.R w' L [v0_1] r.2.1/\Rep.R w' L [v0_2] r.2.2):=by
 unfold cC_p at h
 refine AM func40 I I I fun _ cs0 hb0=>Ae<|RG.bx (AL w) I I fun D1 d1 E0 s1=>RG.bx E0 I I fun E1 g1 F0 u1=>RG.nl [vN,vN,vN] F0 fun F1 j1 c0 v1=>Aa<|Aj<|du 9 fun b0 g0=>Rv 0 b0 I g0 (fun _=>Al I)<|Rx 2 968 b0 I g0 (Az I (c0.memA .t2))<|Rx 4 896 b0 I g0 (Az I (c0.memA .t1))<|Rx 5 960 b0 I g0 (Az I (c0.memA .t2))<|bk h fun M1 V0 h=>AX 1 55 b0 I .plain (bd 37) I (e1 I) (fun p q=>bM_c n (c0.hL hL q) (c0.km h0_0 q) V0) I fun G1 j0 I0 ⟨y1,hu_,C0⟩=>?_
 subst hu_
 obtain ⟨q0,x1⟩:=c0.agr I0
 refine bk h fun P1 W0 h=>AX 3 63 b0 I .plain (bd 33) I (e1 I) (fun p q=>am_c n (q0.hL hL q) a1 (q0.km h1_0 q) W0) I fun H1 k0 J0 ⟨z1,hu_,D0⟩=>?_
 subst hu_
 obtain ⟨s0,H0⟩:=q0.agr J0
 refine bk h fun Q1 X0 h=>AX 6 127 b0 I .plain (bd 33) I (e1 I) (fun p q=>am_c n (s0.hL hL q) a1 (s0.km h1_0 q) X0) I fun I1 C1 K0 ⟨A1,hu_,P0⟩=>?_
 subst hu_
 obtain ⟨y0,t0⟩:=s0.agr K0
 refine bk h fun R1 Y0 h=>AX 7 255 b0 I .plain (bd 36) I (e2 I I) (fun p q=>cb_c n (y0.hL hL q) a2 (Af P0 q) Y0) I fun J1 p0 M0 ⟨B1,hu_,x0⟩=>?_
 subst hu_
 obtain ⟨G0,u0⟩:=y0.agr M0
 have B0:=Tt H0 (Tt t0 u0)
 have z0:=Ag C0 B0
 obtain ⟨Z0,k1,Q0,_⟩:=Bl z0
 have A0:=Ag D0 (Tt t0 u0)
 obtain ⟨b1,p1,R0,_⟩:=Bl A0
 obtain ⟨c1,q1,U0,_⟩:=Bl x0
 refine Rv 8 b0 I g0 (fun _=>AS (vs:=[j0,k0,p0]) (u:=.agg #[j0,k0,p0]) (e3 I I I) (fun p=>by rw [Q0,R0,U0]; try kernel_rfl))<|BB 9 1023 b0 I I .plain (AC (news:=[j0,k0,p0]) G0 .hd I I I I I I (o3 (Ay z0) (Ay A0) (Ay x0))) fun K1 d0 v0=>AK (dk b0)<|Ar I<|Au hb0 func40 I (.cons (.many (cs:=[j0,k0,p0]) I I (d0.memA .hd)) .nil) I ?_
 cases h
 exact ⟨d0.ag,fun p q=>⟨j0,k0,p0,I,d0.kd (Ag C0 (Tt B0 v0)) q,d0.kd (Ag D0 (Tt t0 (Tt u0 v0))) q,d0.kd (Ag x0 v0) q⟩⟩
def aM_l1 (n:Nat) (a0:Lb Ta) (g0:Nat × (Lb Tc) -> Oa (Lb Tc)):Nat × (Lb Tc) -> Oa (Lb Tc)
  | (b0,d0)=>(if b0 < a0.length then (a0[b0]?).bind fun c0=>(aG_p n c0.fm).bind fun k0=>(aG_p n c0.fP).bind fun p0=>(app d0 ([(⟨k0,p0⟩:Tc)]:Lb Tc)).bind fun j0=>g0 (b0 + 1,j0) else some d0)
def aM_p (n:Nat) (a0:Lb Ta):Oa (Lb Tc):=
  Option.bind (ao (aM_l1 n a0) n (0,([]:Lb Tc))) (fun b0=>some b0)
theorem aM_c (n:Nat) {L w} (hL:hl L w) {a0:Lb Ta} {v0_0:Vc} (h0_0:Rep.R w L [v0_0] a0)  {r:Lb Tc} (h:aM_p n a0 = some r) :
 Cl 109 #[v0_0] w (aj w fun w' u=>∃ (v0_0:Vc) (cs0_0:Lb Vc),u = v0_0/\St w w' (aX w.heap.size [(158,Rep.size Tc,v0_0,r.length,cs0_0)])/\Cells w' (bl (aX w.heap.size [(158,Rep.size Tc,v0_0,r.length,cs0_0)]) ++ L) cs0_0 (r:Lb Tc)):=by
 unfold aM_p at h
 have hS0:=AL w
 refine AM func109 I I I fun _ cs0 hb0=>Ae<|Ah I<|Aa<|Ae<|Ah I<|Aa<|Aj<|Ae<|Ah I<|Aa<|Av ?_
 have F0:=hS0.nilRow 158 (Rep.size Tc)
 have y2:=BW hS0 158 (Rep.size Tc)
 obtain ⟨A2,x1,v1⟩:=ap h
 refine BP (α:=Nat × (Lb Tc) × Vc × (Lb Vc)) (fun ⟨j0,q0,k0,p0⟩=>[(0,v0_0),(3,k0),(4,vn j0)]) (fun ⟨j0,q0,k0,p0⟩=>[rr w 158 Tc k0 q0.length p0]) (fun ⟨j0,q0,k0,p0⟩ W0=>Cells W0 (bl [rr w 158 Tc k0 q0.length p0] ++ L) p0 q0) (fun ⟨j0,q0,k0,p0⟩=>(j0,q0)) (0,([]:Lb Tc),vN,[]) x1 F0 (AI (cs:=[]) (xs:=([]:Lb Tc)) F0 L (AT _ _)) ?_
 rintro c2 ⟨j0,q0,k0,p0⟩ W0 Z0 x0 j1 I0 h
 unfold aM_l1 at h
 try dsimp only at h
 refine Aj<|Ae<|Ac I<|Ac I ?_
 have C0:=AH h0_0 x0
 have z2:=AY C0
 refine Ab (Ba (xs:=a0) underlying24 I C0)<|Ab (AU (i:=j0) (j:=a0.length) I I)<|Aa<|AV I h (fun X0 h=>?_) (fun X0 h=>?_)
 refine Aq<|Aj<|Av<|du 15 fun b0 g0=>Rv 0 b0 I g0 (fun _=>Al I)<|Rv 1 b0 I g0 (fun _=>Al I)<|Rv 2 b0 I g0 (fun _=>Al I)<|bk h fun A0 H1 h=>?_
 obtain ⟨Q1,g2,J0,K0,x2,y1,M0⟩:=Bh C0 H1
 obtain rfl:=aF y1
 refine Rv 3 b0 I g0 (fun _=>Be 32 j0 I J0 I I K0)<|Rv 4 b0 I g0 (fun _=>Bg 0 I)<|Rx 5 127040 b0 I g0 (AN (cs:=(ab A0.fm)) I I (ac M0 0 16))<|Rv 7 b0 I g0 (fun _=>Al I)<|Rv 8 b0 I g0 (fun _=>Al I)<|Rv 9 b0 I g0 (fun _=>Be 32 j0 I J0 I I K0)<|Rv 10 b0 I g0 (fun _=>Bg 16 I)<|Rx 11 126976 b0 I g0 (AN (cs:=(ab A0.fP)) I I (ac M0 16 16))<|bk h fun c0 J1 h=>AX 6 4095 b0 I .plain (bd 104) I (e1 I) (fun p q=>aG_c n (x0.hL hL q) A0.fm J1) I fun D2 B2 q1 ⟨s0,t0,hu_,U0,V0⟩=>?_
 subst hu_
 obtain ⟨G0,k1⟩:=x0.agr q1
 refine bk h fun d0 K1 h=>AX 12 8191 b0 I .plain (bd 104) I (e1 I) (fun p q=>aG_c n (G0.hL hL q) A0.fP K1) I fun E2 C2 s1 ⟨u0,v0,hu_,D0,E0⟩=>?_
 subst hu_
 obtain ⟨b1,y0⟩:=G0.agr s1
 have P0:=Ag U0 y0
 obtain ⟨R1,j2,z1,_⟩:=Bl P0
 have Q0:=Ag V0 y0
 obtain ⟨U1,k2,A1,_⟩:=Bl Q0
 obtain ⟨V1,p2,B1,_⟩:=Bl D0
 obtain ⟨W1,q2,C1,_⟩:=Bl E0
 refine Rv 13 b0 I g0 (fun _=>AS (vs:=[.agg #[.bool c0.fN.fc,s0,.bool c0.fD.fc,t0],.agg #[.bool d0.fN.fc,u0,.bool d0.fD.fc,v0]]) (u:=.agg #[.bool c0.fN.fc,s0,.bool c0.fD.fc,t0,.bool d0.fN.fc,u0,.bool d0.fD.fc,v0]) (e2 I I) (fun p=>by rw [z1,A1,B1,C1]; try kernel_rfl)) ?_
 obtain ⟨X1,s2,D1,_⟩:=Bl P0
 obtain ⟨Y1,t2,E1,_⟩:=Bl Q0
 obtain ⟨Z1,u2,F1,_⟩:=Bl D0
 obtain ⟨b2,v2,G1,_⟩:=Bl E0
 refine RD.nu 14 32767 b0 I .plain I (AW (α:=Tc) (xs:=([(⟨c0,d0⟩:Tc)]:Lb Tc)) (vs:=[.agg #[.bool c0.fN.fc,s0,.bool c0.fD.fc,t0,.bool d0.fN.fc,u0,.bool d0.fD.fc,v0]]) (ds' :=[.bool c0.fN.fc,s0,.bool c0.fD.fc,t0,.bool d0.fN.fc,u0,.bool d0.fD.fc,v0]) I b1 ee I (e1 I) (by rw [D1,E1,F1,G1]; try kernel_rfl) I) fun F2 d2 B0 z0=>bk h fun P1 I1 h=>?_
 have R0:=Tt k1 (Tt y0 z0)
 refine BK (i:=15) (rk b0) (RO.doesL (m' :=65535) (sk b0) I I .plain I (Bn (α:=Tc) (ys:=([(⟨c0,d0⟩:Tc)]:Lb Tc)) I1 B0 (fun _ _=>.t1) ee I I (AR I0 R0) (BH (α:=Tc) B0 .hd (AI (cs:=[.bool c0.fN.fc,s0,.bool c0.fD.fc,t0,.bool d0.fN.fc,u0,.bool d0.fD.fc,v0]) (xs:=(([(⟨c0,d0⟩:Tc)]:Lb Tc):Lb Tc)) B0 L (AE (cs:=[.bool c0.fN.fc,s0,.bool c0.fD.fc,t0,.bool d0.fN.fc,u0,.bool d0.fD.fc,v0]) (ds:=[]) (jZ c0 (Ag U0 (Tt y0 z0)) (Ag V0 (Tt y0 z0)) d0 (Ag D0 z0) (Ag E0 z0)) (AT _ _))))) (fun M1 G2 ⟨Y0,c1,p1,u1⟩=>?_))
 refine BK (i:=16) (rk b0) (BV (m' :=131071) (sk b0) I .plain I (Bj I) ?_)
 refine AK (dk b0)<|Ax<|Am<|Ac I<|Ab (Bc (i:=j0) (j:=1) I I (by omega))<|Ah I<|Aa ?_
 obtain ⟨g1,H0⟩:=AB c1 .d1
 exact Z0 (j0 + 1,P1,M1,Y0) g1 (Tt j1 (Tt R0 (Tt p1 H0))) (AR u1 H0) h
 refine AZ I ?_
 have h:=v1 _ h
 try dsimp only at h
 refine Ae<|Ac I<|Ah I<|Aa<|Ar I<|Au (u:=k0) hb0 func109 I (.cons (.tmp I) .nil) I ?_
 cases h
 exact ⟨x0.ag,fun p q=>⟨k0,p0,I,x0.agree q,Cells.keep0 I0 q⟩⟩

def aX_l1 (n:Nat) (a0:Lb Tc) (q0:Nat × Bool × (Lb Int) × Bool × (Lb Int) -> Oa (Bool × (Lb Int) × Bool × (Lb Int))):Nat × Bool × (Lb Int) × Bool × (Lb Int) -> Oa (Bool × (Lb Int) × Bool × (Lb Int))
  | (c0,d0,k0,g0,p0)=>(if c0 < a0.length then (a0[c0]?).bind fun j0=>(br_p n j0.fP j0.fm).bind fun s0=>(aw_p n (⟨(⟨d0,k0⟩:Te),(⟨g0,p0⟩:Te)⟩:Tf) s0).bind fun b0=>q0 (c0 + 1,b0.fN.fc,b0.fN.fD,b0.fD.fc,b0.fD.fD) else some (d0,k0,g0,p0))
def aX_p (n:Nat) (a0:Lb Tc):Oa Tf:=
  (al_p n).bind fun b0=>Option.bind (ao (aX_l1 n a0) n (0,b0.fN.fc,b0.fN.fD,b0.fD.fc,b0.fD.fD)) (fun (c0,g0,d0,j0)=>some (⟨(⟨c0,g0⟩:Te),(⟨d0,j0⟩:Te)⟩:Tf))
theorem aX_c (n:Nat) {L w} (hL:hl L w) {a0:Lb Tc} {v0_0:Vc} (h0_0:Rep.R w L [v0_0] a0)  {r:Tf} (h:aX_p n a0 = some r) :
 Cl 115 #[v0_0] w (aj w fun w' u=>∃ v0_1 v0_3:Vc,u = .agg #[.bool r.fN.fc,v0_1,.bool r.fD.fc,v0_3]/\Rep.R w' L [v0_1] r.fN.fD/\Rep.R w' L [v0_3] r.fD.fD):=by
 unfold aX_p at h
 refine AM func115 I I I fun _ cs0 hb0=>Ae<|RG.nl [.bool false,vN,.bool false,vN] (AL w) fun u2 y0 I0 c2=>Aa<|Ae<|bk h fun v0 K1 h=>jE (bd 116) I am (fun p q=>al_c n (I0.hL hL q)  K1) I fun v2 q2 x1 ⟨b1,c1,hu_,W0,X0⟩=>?_
 subst hu_
 obtain ⟨j1,d2⟩:=I0.agr x1
 refine RG.nl [.bool false,vN,.bool false,vN] j1 fun B2 z0 q1 B0=>AQ [.bool v0.fN.fc,b1,.bool v0.fD.fc,c1] q1 .hd (o4 I (Ay (Ag W0 B0)) I (Ay (Ag X0 B0))) fun w32 s1 M0=>Aa<|Aj<|Ae<|Ah I<|Aa<|Av ?_
 obtain ⟨j2,B1,A1⟩:=ap h
 refine BP (α:=Nat × Bool × (Lb Int) × Bool × (Lb Int) × Vc × Vc) (fun ⟨c0,g0,q0,j0,s0,k0,p0⟩=>[(0,v0_0),(2,vP y0),(3,vP z0),(4,vn c0)]) (fun ⟨c0,g0,q0,j0,s0,k0,p0⟩=>[.cells z0 [.bool g0,k0,.bool j0,p0] 144,.cells y0 [.bool false,vN,.bool false,vN] 144]) (fun ⟨c0,g0,q0,j0,s0,k0,p0⟩ H0=>Rep.R H0 (bl [.cells z0 [.bool g0,k0,.bool j0,p0] 144,.cells y0 [.bool false,vN,.bool false,vN] 144] ++ L) [k0] q0/\Rep.R H0 (bl [.cells z0 [.bool g0,k0,.bool j0,p0] 144,.cells y0 [.bool false,vN,.bool false,vN] 144] ++ L) [p0] s0) (fun ⟨c0,g0,q0,j0,s0,k0,p0⟩=>(c0,g0,q0,j0,s0)) (0,v0.fN.fc,v0.fN.fD,v0.fD.fc,v0.fD.fD,b1,c1) B1 s1 ⟨(Ag W0 (Tt B0 M0)),(Ag X0 (Tt B0 M0))⟩ ?_
 rintro Y1 ⟨c0,g0,q0,j0,s0,k0,p0⟩ H0 g1 t0 u1 ⟨F0,G0⟩ h
 unfold aX_l1 at h
 try dsimp only at h
 refine Aj<|Ae<|Ac I<|Ac I ?_
 have E0:=AH h0_0 t0
 have g2:=AY E0
 refine Ab (Ba (xs:=a0) underlying150 I E0)<|Ab (AU (i:=c0) (j:=a0.length) I I)<|Aa<|AV I h (fun d1 h=>?_) (fun d1 h=>?_)
 refine Aq<|Aj<|Av<|du 13 fun b0 d0=>Rx 0 12288 b0 I d0 (Az I (t0.memA .hd))<|Rv 1 b0 I d0 (fun _=>Al I)<|Rv 2 b0 I d0 (fun _=>Al I)<|bk h fun u0 J1 h=>?_
 obtain ⟨X1,Z1,P0,Q0,b2,C1,R0⟩:=Bh E0 J1
 obtain ⟨Q1,R1,U1,V1,rfl,D1,E1,F1,G1⟩:=df C1
 refine Rv 3 b0 I d0 (fun _=>Be 8 c0 I P0 I I Q0)<|Rv 4 b0 I d0 (fun _=>Bg 4 I)<|Rx 5 14336 b0 I d0 (AN (cs:=[.bool u0.fP.fN.fc,U1,.bool u0.fP.fD.fc,V1]) I I (ac R0 4 4))<|Rv 6 b0 I d0 (fun _=>Al I)<|Rv 7 b0 I d0 (fun _=>Al I)<|Rv 8 b0 I d0 (fun _=>Be 8 c0 I P0 I I Q0)<|Rv 9 b0 I d0 (fun _=>Bg 0 I)<|Rx 10 14336 b0 I d0 (AN (cs:=[.bool u0.fm.fN.fc,Q1,.bool u0.fm.fD.fc,R1]) I I (ac R0 0 4))<|bk h fun W1 M1 h=>AX 11 4095 b0 I .plain (bd 107) I (e2 I I) (fun p q=>br_c n (t0.hL hL q) u0.fP (Af F1 q) (Af G1 q) u0.fm (Af D1 q) (Af E1 q) M1) I fun x2 s2 y1 ⟨k2,p2,hu_,H1,I1⟩=>?_
 subst hu_
 obtain ⟨J0,C0⟩:=t0.agr y1
 refine bk h fun x0 P1 h=>AX 12 8191 b0 I .plain (bd 110) I (e2 I I) (fun p q=>aw_c n (J0.hL hL q) (⟨(⟨g0,q0⟩:Te),(⟨j0,s0⟩:Te)⟩:Tf) (Af (Ag F0 C0) q) (Af (Ag G0 C0) q) W1 (Af H1 q) (Af I1 q) P1) I fun y2 t2 z1 ⟨Y0,Z0,hu_,U0,V0⟩=>?_
 subst hu_
 obtain ⟨k1,v1⟩:=J0.agr z1
 refine BB 13 16383 b0 I I .plain (AC (news:=[.bool x0.fN.fc,Y0,.bool x0.fD.fc,Z0]) k1 .hd I I I I I I (o4 I (Ay U0) I (Ay V0))) fun z2 p1 D0=>AK (dk b0)<|Ax<|Am<|Ac I<|Ab (Bc (i:=c0) (j:=1) I I (by omega))<|Ah I<|Aa<|g1 (c0 + 1,x0.fN.fc,x0.fN.fD,x0.fD.fc,x0.fD.fD,Y0,Z0) p1 (Tt u1 (Tt C0 (Tt v1 D0))) ⟨(Ag U0 D0),(Ag V0 D0)⟩ h
 refine AZ I ?_
 have h:=A1 _ h
 try dsimp only at h
 refine Ae<|Ab (Az I (t0.memA .hd))<|AQ [.bool g0,k0,.bool j0,p0] t0 .t1 (o4 I (Ay F0) I (Ay G0)) fun A2 A0 K0=>Aa<|Ar I<|Au hb0 func115 I (.cons (.many (cs:=[.bool g0,k0,.bool j0,p0]) I I (A0.memA .t1)) .nil) I ?_
 cases h
 exact ⟨A0.ag,fun p q=>⟨k0,p0,I,A0.kd (Ag F0 K0) q,A0.kd (Ag G0 K0) q⟩⟩
def ct_p (n:Nat) (a0:Lb Ta):Oa (Tb × Int):=
  (aq_p n a0).bind fun c0=>(if c0 = true then (aM_p n a0).bind fun d0=>(aX_p n d0).bind fun g0=>(ay_p n g0).bind fun b0=>some (b0.1,b0.2) else some ((⟨(0,0,0,0,0,0,0,0),(0,0,0,0,0,0,0,0)⟩:Tb),(50:Int)))
theorem ct_c (n:Nat) {L w} (hL:hl L w) {a0:Lb Ta} {v0_0:Vc} (h0_0:Rep.R w L [v0_0] a0)  {r:Tb × Int} (h:ct_p n a0 = some r) :
 Cl 45 #[v0_0] w (aj w fun _ u=>u = .tuple #[.agg ((ab r.1)).toArray,vI r.2]):=by
 unfold ct_p at h
 refine AM func45 I I I fun _ cs0 hb0=>Ae<|RG.nl zL (AL w) fun c1 K0 c0 M0=>Ah I<|Aa<|Aj<|Ae<|Ac I<|bk h fun I0 D0 h=>Bd (.bool I0) (bd 101) I (e1 I) (fun p q=>aq_c n (c0.hL0 hL q) (c0.k0 h0_0 q) D0) I<|Ab (Bx I)<|Aa<|MX.ifnb I h (fun v0 h=>?_) (fun v0 h=>?_)
 refine Aq<|Ae<|Ac I<|bk h fun u0 E0 h=>jE (bd 109) I (e1 I) (fun p q=>bK (b0:=w.heap.size) (aM_c n (c0.hL hL q) (c0.km h0_0 q) E0) q (Nat.le_trans c0.ag.size q.size)) I fun d1 H0 W0 ⟨X0,x0,C0,t0,z0⟩=>?_
 subst C0
 have d0:=ca c0 t0
 have P0:=dR c0 t0
 have p0:=Bu d0 .hd
 have Q0:=Bv d0 .hd
 refine bk h fun J0 F0 h=>jE (bd 115) I (e1 I) (fun p q=>aX_c n (p0.hL hL q) (Af (Bw (α:=Tc) (v:=H0) (xs:=u0) p0 L (Bi (α:=Tc) d0 .hd (AI (cs:=x0) (xs:=(u0:Lb Tc)) d0 L (bJ z0)) hL)) q) F0) I fun g1 b1 y0 ⟨Y0,Z0,hu_,A0,B0⟩=>?_
 subst hu_
 obtain ⟨g0,R0⟩:=p0.agr y0
 refine bk h fun j0 G0 h=>Bd (.tuple #[.agg ((ab j0.1)).toArray,vI j0.2]) (bd 96) I (e1 I) (fun p q=>ay_c n (g0.hL0 hL q) J0 (g0.kd A0 q) (g0.kd B0 q) G0) I<|Ab (Ai I I)<|Ab (Ai I I)<|AQ (ab j0.1) g0 .hd (ai I) fun j1 q0 U0=>Ah I<|Aa<|Ar I<|Au hb0 func45 I (.cons (.many (cs:=(ab j0.1)) I I (q0.memA .hd)) (.cons (.tmp I) .nil)) I ?_
 cases h
 exact q0.gv
 refine Ae<|Ab (AS (vs:=[]) (u:=.agg zM) am (fun p=>by kernel_rfl))<|AQ zL c0 .hd (ai I) fun k1 s0 V0=>Ah I<|Aa<|Ar I<|Au hb0 func45 I (.cons (.many (cs:=zL) I I (s0.memA .hd)) (.cons (.tmp I) .nil)) I ?_
 cases h
 exact s0.gv
def bX_p (n:Nat) (a0:Tf):Oa Tf:=
  (bN_p n a0.fN).bind fun b0=>some (⟨b0,a0.fD⟩:Tf)
theorem bX_c (n:Nat) {L w} (hL:hl L w) (a0:Tf) {v0_1:Vc} (h0_1:Rep.R w L [v0_1] a0.fN.fD) {v0_3:Vc} (h0_3:Rep.R w L [v0_3] a0.fD.fD)  {r:Tf} (h:bX_p n a0 = some r) :
 Cl 119 #[.agg #[.bool a0.fN.fc,v0_1,.bool a0.fD.fc,v0_3]] w (aj w fun w' u=>∃ v0_1 v0_3:Vc,u = .agg #[.bool r.fN.fc,v0_1,.bool r.fD.fc,v0_3]/\Rep.R w' L [v0_1] r.fN.fD/\Rep.R w' L [v0_3] r.fD.fD):=by
 unfold bX_p at h
 refine AM func119 I I I fun _ cs0 hb0=>Ae<|RG.bx (AL w) I I fun M0 D0 u0 H0=>RG.nl [.bool false,vN,.bool false,vN] u0 fun P0 E0 c0 I0=>Aa<|Aj<|du 6 fun b0 d0=>Rv 0 b0 I d0 (fun _=>Bg 0 I)<|Rx 1 100 b0 I d0 (AN (cs:=[.bool a0.fN.fc,v0_1]) I I (ac (c0.memA .t1) 0 2))<|Rv 3 b0 I d0 (fun _=>Bg 2 I)<|Rx 4 96 b0 I d0 (AN (cs:=[.bool a0.fD.fc,v0_3]) I I (ac (c0.memA .t1) 2 2))<|bk h fun p0 A0 h=>AX 2 31 b0 I .plain (bd 158) I (e1 I) (fun p q=>bN_c n (c0.hL hL q) a0.fN (c0.km h0_1 q) A0) I fun Q0 K0 x0 ⟨g0,hu_,q0⟩=>?_
 subst hu_
 obtain ⟨s0,J0⟩:=c0.agr x0
 obtain ⟨B0,F0,y0,_⟩:=Bl q0
 have t0:=AH h0_3 s0
 obtain ⟨C0,G0,z0,_⟩:=Bl t0
 refine Rv 5 b0 I d0 (fun _=>AS (vs:=[.agg #[.bool p0.fc,g0],.agg #[.bool a0.fD.fc,v0_3]]) (u:=.agg #[.bool p0.fc,g0,.bool a0.fD.fc,v0_3]) (e2 I I) (fun p=>by rw [y0,z0]; try kernel_rfl))<|BB 6 127 b0 I I .plain (AC (news:=[.bool p0.fc,g0,.bool a0.fD.fc,v0_3]) s0 .hd I I I I I I (o4 I (Ay q0) I (Ay t0))) fun R0 j0 v0=>AK (dk b0)<|Ar I<|Au hb0 func119 I (.cons (.many (cs:=[.bool p0.fc,g0,.bool a0.fD.fc,v0_3]) I I (j0.memA .hd)) .nil) I ?_
 cases h
 exact ⟨j0.ag,fun p q=>⟨g0,v0_3,I,j0.kd (Ag q0 v0) q,j0.k0 h0_3 q⟩⟩
def bs_p (n:Nat) (a0:Tf) (a1:Tf):Oa Tf:=
  (bX_p n a1).bind fun b0=>(aw_p n a0 b0).bind fun c0=>some c0
theorem bs_c (n:Nat) {L w} (hL:hl L w) (a0:Tf) {v0_1:Vc} (h0_1:Rep.R w L [v0_1] a0.fN.fD) {v0_3:Vc} (h0_3:Rep.R w L [v0_3] a0.fD.fD) (a1:Tf) {v1_1:Vc} (h1_1:Rep.R w L [v1_1] a1.fN.fD) {v1_3:Vc} (h1_3:Rep.R w L [v1_3] a1.fD.fD)  {r:Tf} (h:bs_p n a0 a1 = some r) :
 Cl 117 #[.agg #[.bool a0.fN.fc,v0_1,.bool a0.fD.fc,v0_3],.agg #[.bool a1.fN.fc,v1_1,.bool a1.fD.fc,v1_3]] w (aj w fun w' u=>∃ v0_1 v0_3:Vc,u = .agg #[.bool r.fN.fc,v0_1,.bool r.fD.fc,v0_3]/\Rep.R w' L [v0_1] r.fN.fD/\Rep.R w' L [v0_3] r.fD.fD):=by
 unfold bs_p at h
 refine AM func117 I I I fun _ cs0 hb0=>Ae<|RG.bx (AL w) I I fun X0 G0 v0 J0=>RG.bx v0 I I fun Y0 H0 x0 K0=>RG.nl [.bool false,vN,.bool false,vN] x0 fun Z0 I0 b0 M0=>Aa<|Aj<|du 4 fun c0 u0=>Rx 0 24 c0 I u0 (Az I (b0.memA .t2))<|Rx 1 28 c0 I u0 (Az I (b0.memA .t1))<|bk h fun F0 D0 h=>AX 2 7 c0 I .plain (bd 119) I (e1 I) (fun p q=>bX_c n (b0.hL hL q) a1 (b0.km h1_1 q) (b0.km h1_3 q) D0) I fun b1 V0 z0 ⟨R0,U0,hu_,B0,C0⟩=>?_
 subst hu_
 obtain ⟨d0,P0⟩:=b0.agr z0
 refine bk h fun j0 E0 h=>AX 3 15 c0 I .plain (bd 110) I (e2 I I) (fun p q=>aw_c n (d0.hL hL q) a0 (d0.km h0_1 q) (d0.km h0_3 q) F0 (Af B0 q) (Af C0 q) E0) I fun c1 W0 A0 ⟨k0,p0,hu_,s0,t0⟩=>?_
 subst hu_
 obtain ⟨y0,Q0⟩:=d0.agr A0
 refine BB 4 31 c0 I I .plain (AC (news:=[.bool j0.fN.fc,k0,.bool j0.fD.fc,p0]) y0 .hd I I I I I I (o4 I (Ay s0) I (Ay t0))) fun d1 g0 q0=>AK (dk c0)<|Ar I<|Au hb0 func117 I (.cons (.many (cs:=[.bool j0.fN.fc,k0,.bool j0.fD.fc,p0]) I I (g0.memA .hd)) .nil) I ?_
 cases h
 exact ⟨g0.ag,fun p q=>⟨k0,p0,I,g0.kd (Ag s0 q0) q,g0.kd (Ag t0 q0) q⟩⟩
def aS_l1 (n:Nat) (q0:Lb Tc) (u0:Tf) (t0:Nat × Bool × (Lb Int) × Bool × (Lb Int) -> Oa (Bool × (Lb Int) × Bool × (Lb Int))):Nat × Bool × (Lb Int) × Bool × (Lb Int) -> Oa (Bool × (Lb Int) × Bool × (Lb Int))
  | (c0,d0,k0,g0,p0)=>(if c0 < q0.length then (q0[c0]?).bind fun j0=>(bs_p n j0.fm u0).bind fun s0=>(br_p n s0 s0).bind fun v0=>(br_p n j0.fP v0).bind fun x0=>(aw_p n (⟨(⟨d0,k0⟩:Te),(⟨g0,p0⟩:Te)⟩:Tf) x0).bind fun b0=>t0 (c0 + 1,b0.fN.fc,b0.fN.fD,b0.fD.fc,b0.fD.fD) else some (d0,k0,g0,p0))
def aS_p (n:Nat) (a0:Lb Ta):Oa (Tb × Int):=
  (aq_p n a0).bind fun q0=>(if q0 = true then (aM_p n a0).bind fun c0=>(aX_p n c0).bind fun s0=>(al_p n).bind fun b0=>Option.bind (ao (aS_l1 n c0 s0) n (0,b0.fN.fc,b0.fN.fD,b0.fD.fc,b0.fD.fD)) (fun (g0,k0,j0,p0)=>(ay_p n (⟨(⟨g0,k0⟩:Te),(⟨j0,p0⟩:Te)⟩:Tf)).bind fun d0=>some (d0.1,d0.2)) else some ((⟨(0,0,0,0,0,0,0,0),(0,0,0,0,0,0,0,0)⟩:Tb),(50:Int)))
theorem aS_c (n:Nat) {L w} (hL:hl L w) {a0:Lb Ta} {v0_0:Vc} (h0_0:Rep.R w L [v0_0] a0)  {r:Tb × Int} (h:aS_p n a0 = some r) :
 Cl 46 #[v0_0] w (aj w fun _ u=>u = .tuple #[.agg ((ab r.1)).toArray,vI r.2]):=by
 unfold aS_p at h
 refine AM func46 I I I fun _ cs0 hb0=>Ae<|RG.nl zL (AL w) fun y5 v0 z0 G4=>Ah I<|Aa<|Aj<|Ae<|Ac I<|bk h fun v4 U3 h=>Bd (.bool v4) (bd 101) I (e1 I) (fun p q=>aq_c n (z0.hL0 hL q) (z0.k0 h0_0 q) U3) I<|Ab (Bx I)<|Aa<|MX.ifnb I h (fun B2 h=>?_) (fun B2 h=>?_)
 refine Aq<|Ae<|Ac I<|bk h fun V0 V3 h=>jE (bd 109) I (e1 I) (fun p q=>bK (b0:=w.heap.size) (aM_c n (z0.hL hL q) (z0.km h0_0 q) V3) q (Nat.le_trans z0.ag.size q.size)) I fun z5 D1 M4 ⟨X4,D2,R3,v2,q3⟩=>?_
 subst R3
 have W0:=ca z0 v2
 have H4:=dR z0 v2
 refine Ah I<|Aa<|Ae<|Ac I ?_
 have p1:=Bu W0 .hd
 have I4:=Bv W0 .hd
 have A1:=Bw (α:=Tc) (v:=D1) (xs:=V0) p1 L (Bi (α:=Tc) W0 .hd (AI (cs:=D2) (xs:=(V0:Lb Tc)) W0 L (bJ q3)) hL)
 refine bk h fun c0 W3 h=>jE (bd 115) I (e1 I) (fun p q=>aX_c n (p1.hL hL q) (Af A1 q) W3) I fun C5 s5 d3 ⟨G0,H0,hu_,B1,C1⟩=>?_
 subst hu_
 obtain ⟨H1,X2⟩:=p1.agr d3
 refine bk h fun Q0 c4 h=>jE (bd 116) I am (fun p q=>al_c n (H1.hL hL q)  c4) I fun K5 x5 p3 ⟨z2,A2,hu_,p2,q2⟩=>?_
 subst hu_
 obtain ⟨M2,Q1⟩:=H1.agr p3
 refine RG.nl [.bool false,vN,.bool false,vN] M2 fun M5 x0 P2 v1=>RG.nl [.bool false,vN,.bool false,vN] P2 fun P5 y0 Q2 x1=>?_
 have c1:=Tt Q1 (Tt v1 x1)
 refine AQ [.bool c0.fN.fc,G0,.bool c0.fD.fc,H0] Q2 .t1 (o4 I (Ay (Ag B1 c1)) I (Ay (Ag C1 c1))) fun Q5 R2 b1=>?_
 have g1:=Tt v1 (Tt x1 b1)
 refine AQ [.bool Q0.fN.fc,z2,.bool Q0.fD.fc,A2] R2 .hd (o4 I (Ay (Ag p2 g1)) I (Ay (Ag q2 g1))) fun R5 U2 U0=>Aa<|Aj<|Ae<|Ah I<|Aa<|Av ?_
 obtain ⟨W4,B3,u3⟩:=ap h
 refine BP (α:=Nat × Bool × (Lb Int) × Bool × (Lb Int) × Vc × Vc) (fun ⟨q0,j0,C0,p0,D0,s0,t0⟩=>[(2,vP v0),(4,D1),(5,vP x0),(6,vP y0),(7,vn q0)]) (fun ⟨q0,j0,C0,p0,D0,s0,t0⟩=>[.cells y0 [.bool j0,s0,.bool p0,t0] 144,.cells x0 [.bool c0.fN.fc,G0,.bool c0.fD.fc,H0] 144,.cells v0 zL 34]) (fun ⟨q0,j0,C0,p0,D0,s0,t0⟩ E1=>Rep.R E1 (bl [.cells y0 [.bool j0,s0,.bool p0,t0] 144,.cells x0 [.bool c0.fN.fc,G0,.bool c0.fD.fc,H0] 144,.cells v0 zL 34] ++ L) [s0] C0/\Rep.R E1 (bl [.cells y0 [.bool j0,s0,.bool p0,t0] 144,.cells x0 [.bool c0.fN.fc,G0,.bool c0.fD.fc,H0] 144,.cells v0 zL 34] ++ L) [t0] D0) (fun ⟨q0,j0,C0,p0,D0,s0,t0⟩=>(q0,j0,C0,p0,D0)) (0,Q0.fN.fc,Q0.fN.fD,Q0.fD.fc,Q0.fD.fD,z2,A2) B3 U2 ⟨(Ag p2 (Tt g1 U0)),(Ag q2 (Tt g1 U0))⟩ ?_
 rintro B4 ⟨q0,j0,C0,p0,D0,s0,t0⟩ E1 E2 u0 Y0 ⟨Y1,Z1⟩ h
 unfold aS_l1 at h
 try dsimp only at h
 refine Aj<|Ae<|Ac I<|Ac I ?_
 have V1:=Tt X2 (Tt Q1 (Tt v1 (Tt x1 (Tt b1 (Tt U0 Y0)))))
 have y1:=Ag A1 V1
 have P4:=AY y1
 refine Ab (Ba (xs:=V0) underlying150 I y1)<|Ab (AU (i:=q0) (j:=V0.length) I I)<|Aa<|AV I h (fun C2 h=>?_) (fun C2 h=>?_)
 refine Aq<|Aj<|Av<|Aj<|du 8 fun d0 J0=>Rv 0 d0 I J0 (fun _=>Al I)<|Rv 1 d0 I J0 (fun _=>Al I)<|bk h fun I0 s2 h=>?_
 obtain ⟨z4,C4,s3,v3,E4,C3,y3⟩:=Bh y1 s2
 obtain ⟨d4,g4,Y4,Z4,rfl,b2,c2,Q4,R4⟩:=df C3
 refine Rv 2 d0 I J0 (fun _=>Be 8 q0 I s3 I I v3)<|Rv 3 d0 I J0 (fun _=>Bg 0 I)<|Rx 4 320 d0 I J0 (AN (cs:=[.bool I0.fm.fN.fc,d4,.bool I0.fm.fD.fc,g4]) I I (ac y3 0 4))<|Rx 5 320 d0 I J0 (Az I (u0.memA .t1))<|bk h fun E0 u2 h=>RD.mf (α:=Vc × Vc × Nat) (fun ⟨K0,M0,F0⟩=>[(2,vP v0),(4,D1),(5,vP x0),(6,vP y0),(7,vn q0),(30,.agg #[.bool E0.fN.fc,K0,.bool E0.fD.fc,M0]),(8,vP F0)]) (fun ⟨K0,M0,F0⟩=>[.cells F0 [.bool false,vN,.bool false,vN] 144,.cells y0 [.bool j0,s0,.bool p0,t0] 144,.cells x0 [.bool c0.fN.fc,G0,.bool c0.fD.fc,H0] 144,.cells v0 zL 34]) (fun ⟨K0,M0,F0⟩ F1=>Rep.R F1 (bl [.cells F0 [.bool false,vN,.bool false,vN] 144,.cells y0 [.bool j0,s0,.bool p0,t0] 144,.cells x0 [.bool c0.fN.fc,G0,.bool c0.fD.fc,H0] 144,.cells v0 zL 34] ++ L) [K0] E0.fN.fD/\Rep.R F1 (bl [.cells F0 [.bool false,vN,.bool false,vN] 144,.cells y0 [.bool j0,s0,.bool p0,t0] 144,.cells x0 [.bool c0.fN.fc,G0,.bool c0.fD.fc,H0] 144,.cells v0 zL 34] ++ L) [M0] E0.fD.fD) u0 1 255 ?_ ?_
 rintro ⟨K0,M0,F0⟩ F1 H2 P1 ⟨d2,g2⟩
 try dsimp only
 refine BB 8 511 d0 I I .plain (AC (news:=[.bool E0.fN.fc,K0,.bool E0.fD.fc,M0]) H2 .hd I I I I I I (o4 I (Ay d2) I (Ay g2))) fun D5 R0 Z0=>AK (dk d0)<|du 11 fun g0 B0=>Rx 0 3072 g0 I B0 (Az I (R0.memA .t1))<|Rv 1 g0 I B0 (fun _=>Al I)<|Rv 2 g0 I B0 (fun _=>Al I) ?_
 obtain ⟨A4,D4,t3,x3,F4,H3,A3⟩:=Bh (Ag A1 (Tt V1 (Tt P1 Z0))) s2
 obtain ⟨b5,c5,s4,t4,rfl,U4,V4,I3,J3⟩:=df H3
 refine Rv 3 g0 I B0 (fun _=>Be 8 q0 I t3 I I x3)<|Rv 4 g0 I B0 (fun _=>Bg 4 I)<|Rx 5 3584 g0 I B0 (AN (cs:=[.bool I0.fP.fN.fc,s4,.bool I0.fP.fD.fc,t4]) I I (ac A3 4 4))<|Rx 6 3840 g0 I B0 (Az I (R0.memA .hd))<|Rx 7 3840 g0 I B0 (Az I (R0.memA .hd))<|bk h fun x4 X3 h=>?_
 have R1:=Ag d2 Z0
 have U1:=Ag g2 Z0
 refine AX 8 511 g0 I .plain (bd 107) I (e2 I I) (fun p q=>br_c n (R0.hL hL q) E0 (Af R1 q) (Af U1 q) E0 (Af R1 q) (Af U1 q) X3) I fun E5 t5 g3 ⟨d5,g5,hu_,K3,M3⟩=>?_
 subst hu_
 obtain ⟨I1,q1⟩:=R0.agr g3
 refine bk h fun y4 Y3 h=>AX 9 1023 g0 I .plain (bd 107) I (e2 I I) (fun p q=>br_c n (I1.hL hL q) I0.fP (Af (Ag I3 q1) q) (Af (Ag J3 q1) q) x4 (Af K3 q) (Af M3 q) Y3) I fun F5 u5 j3 ⟨j5,k5,hu_,P3,Q3⟩=>?_
 subst hu_
 obtain ⟨J1,Y2⟩:=I1.agr j3
 refine bk h fun P0 Z3 h=>?_
 have z1:=Tt P1 (Tt Z0 (Tt q1 Y2))
 refine AX 10 2047 g0 I .plain (bd 110) I (e2 I I) (fun p q=>aw_c n (J1.hL hL q) (⟨(⟨j0,C0⟩:Te),(⟨p0,D0⟩:Te)⟩:Tf) (Af (Ag Y1 z1) q) (Af (Ag Z1 z1) q) y4 (Af P3 q) (Af Q3 q) Z3) I fun G5 v5 k3 ⟨x2,y2,hu_,j2,k2⟩=>?_
 subst hu_
 obtain ⟨I2,Z2⟩:=J1.agr k3
 refine BB 11 4095 g0 I I .plain (AC (news:=[.bool P0.fN.fc,x2,.bool P0.fD.fc,y2]) I2 .t1 I I I I I I (o4 I (Ay j2) I (Ay k2))) fun H5 J2 s1=>AK (dk g0)<|Ax<|Am<|Ac I<|Ab (Bc (i:=q0) (j:=1) I I (by omega))<|Ah I<|Aa ?_
 obtain ⟨K2,u1⟩:=AB J2 .d1
 exact E2 (q0 + 1,P0.fN.fc,P0.fN.fD,P0.fD.fc,P0.fD.fD,x2,y2) K2 (Tt Y0 (Tt z1 (Tt Z2 (Tt s1 u1)))) ⟨(Ag j2 (Tt s1 u1)),(Ag k2 (Tt s1 u1))⟩ h
 intro G1
 refine BJ [6,7] (rk d0) ⟨?_,?_,trivial⟩
 have W1:=Tt c1 (Tt b1 (Tt U0 Y0))
 have z3:=Ag B1 W1
 refine BX (m' :=127) (fst:=[]) (cap:=[]) (sk d0) I .plain (bd 117) I (e2 I I) (fun p q=>bs_c n (u0.hL hL q) I0.fm (Af b2 q) (Af c2 q) c0 (Af z3 q) (Af (Ag C1 W1) q) u2) I fun A5 p5 b3 ⟨j4,k4,hu_,D3,E3⟩=>?_
 subst hu_
 obtain ⟨F2,V2⟩:=u0.agr b3
 refine RD.nu 7 255 d0 I .plain I (Aw [.bool false,vN,.bool false,vN] F2) fun u4 k1 X0 A0=>G1 (j4,k4,k1) X0 (Tt V2 A0) ⟨(Ag D3 A0),(Ag E3 A0)⟩
 refine RO.new (m' :=191) (sk d0) I .plain I (Aw [.bool false,vN,.bool false,vN] u0) fun u4 k1 X0 A0=>?_
 have X1:=Tt c1 (Tt b1 (Tt U0 (Tt Y0 A0)))
 refine AX 6 255 d0 I .plain (bd 117) I (e2 I I) (fun p q=>bs_c n (X0.hL hL q) I0.fm (Af (Ag b2 A0) q) (Af (Ag c2 A0) q) c0 (Af (Ag B1 X1) q) (Af (Ag C1 X1) q) u2) I fun B5 q5 c3 ⟨p4,q4,hu_,F3,G3⟩=>?_
 subst hu_
 obtain ⟨G2,W2⟩:=X0.agr c3
 exact G1 (p4,q4,k1) G2 (Tt A0 W2) ⟨F3,G3⟩
 refine AZ I ?_
 have h:=u3 _ h
 try dsimp only at h
 refine Ae<|Ab (Az I (u0.memA .hd))<|bk h fun j1 b4 h=>Bd (.tuple #[.agg ((ab j1.1)).toArray,vI j1.2]) (bd 96) I (e1 I) (fun p q=>ay_c n (u0.hL0 hL q) (⟨(⟨j0,C0⟩:Te),(⟨p0,D0⟩:Te)⟩:Tf) (u0.kd Y1 q) (u0.kd Z1 q) b4) I<|Ab (Ai I I)<|Ab (Ai I I)<|AQ (ab j1.1) u0 .t2 (ai I) fun I5 K1 J4=>Ah I<|Aa<|Ar I<|Au hb0 func46 I (.cons (.many (cs:=(ab j1.1)) I I (K1.memA .t2)) (.cons (.tmp I) .nil)) I ?_
 cases h
 exact K1.gv
 refine Ae<|Ab (AS (vs:=[]) (u:=.agg zM) am (fun p=>by kernel_rfl))<|AQ zL z0 .hd (ai I) fun J5 M1 K4=>Ah I<|Aa<|Ar I<|Au hb0 func46 I (.cons (.many (cs:=zL) I I (M1.memA .hd)) (.cons (.tmp I) .nil)) I ?_
 cases h
 exact M1.gv
def aI_l1 (n:Nat) (a0:Lb Tc) (a1:Tf) (d0:Nat -> Oa (Tf ⊕ Unit)):Nat -> Oa (Tf ⊕ Unit)
  | b0=>(if b0 < a0.length then (a0[b0]?).bind fun c0=>(ap_p n c0.fm a1).bind fun g0=>(if g0 = 0 then some (.inl c0.fP) else d0 (b0 + 1)) else some (.inr ()))
def aI_p (n:Nat) (a0:Lb Tc) (a1:Tf):Oa Tf:=
  thn (ao (aI_l1 n a0 a1) n 0) (fun _=>(al_p n).bind fun b0=>some b0)
theorem aI_c (n:Nat) {L w} (hL:hl L w) {a0:Lb Tc} {v0_0:Vc} (h0_0:Rep.R w L [v0_0] a0) (a1:Tf) {v1_1:Vc} (h1_1:Rep.R w L [v1_1] a1.fN.fD) {v1_3:Vc} (h1_3:Rep.R w L [v1_3] a1.fD.fD)  {r:Tf} (h:aI_p n a0 a1 = some r) :
 Cl 118 #[v0_0,.agg #[.bool a1.fN.fc,v1_1,.bool a1.fD.fc,v1_3]] w (aj w fun w' u=>∃ v0_1 v0_3:Vc,u = .agg #[.bool r.fN.fc,v0_1,.bool r.fD.fc,v0_3]/\Rep.R w' L [v0_1] r.fN.fD/\Rep.R w' L [v0_3] r.fD.fD):=by
 unfold aI_p at h
 refine AM func118 I I I fun _ cs0 hb0=>Ae<|RG.bx (AL w) I I fun E1 z0 U0 y1=>RG.nl [.bool false,vN,.bool false,vN] U0 fun F1 A0 V0 z1=>Aa<|Aj<|Ae<|Ah I<|Aa<|Av<|tn h fun C1 Z0 E0=>MX.lo (α:=Nat) (fun c0=>[(0,v0_0),(3,vP z0),(4,vP A0),(5,vn c0)]) (fun c0=>[.cells A0 [.bool false,vN,.bool false,vN] 144,.cells z0 [.bool a1.fN.fc,v1_1,.bool a1.fD.fc,v1_3] 144]) (fun c0=>c0) 0 Z0 V0 ?_
 rintro u1 c0 J1 R0 b0 X0 h
 unfold aI_l1 at h
 try dsimp only at h
 refine Aj<|Ae<|Ac I<|Ac I ?_
 have v0:=AH h0_0 b0
 have B1:=AY v0
 refine Ab (Ba (xs:=a0) underlying150 I v0)<|Ab (AU (i:=c0) (j:=a0.length) I I)<|Aa<|AV I h (fun P0 h=>?_) (fun P0 h=>?_)
 refine Aq<|Aj<|Av<|Aj<|du 8 fun d0 j0=>Rv 0 d0 I j0 (fun _=>Al I)<|Rv 1 d0 I j0 (fun _=>Al I)<|bk h fun g0 g1 h=>?_
 obtain ⟨s1,v1,D0,F0,x1,b1,G0⟩:=Bh v0 g1
 obtain ⟨p1,q1,s0,t0,rfl,c1,d1,H0,I0⟩:=df b1
 refine Rv 2 d0 I j0 (fun _=>Be 8 c0 I D0 I I F0)<|Rv 3 d0 I j0 (fun _=>Bg 0 I)<|Rx 4 192 d0 I j0 (AN (cs:=[.bool g0.fm.fN.fc,p1,.bool g0.fm.fD.fc,q1]) I I (ac G0 0 4))<|Rx 5 192 d0 I j0 (Az I (b0.memA .t1))<|bk h fun M0 j1 h=>RD.cq 6 127 128 (vI M0) d0 I j0 (bd 120) I (e2 I I) (fun p q=>ap_c n (b0.hL0 hL q) g0.fm (b0.kd c1 q) (b0.kd d1 q) a1 (b0.k0 h1_1 q) (b0.k0 h1_3 q) j1) I<|Rv 7 d0 I j0 (fun _=>FV.eql (i:=M0) (j:=0) I I)<|AK (dk d0)<|AV I h (fun Q0 h=>?_) (fun Q0 h=>?_)
 refine Ae<|Ac I<|Ac I<|Ab (Be 8 c0 I D0 I I F0)<|Bm 4 I<|Ab (AN (cs:=[.bool g0.fP.fN.fc,s0,.bool g0.fP.fD.fc,t0]) I I (ac G0 4 4))<|AQ [.bool g0.fP.fN.fc,s0,.bool g0.fP.fD.fc,t0] b0 .hd (o4 I (Ay H0) I (Ay I0)) fun G1 p0 C0=>Aa ?_
 have h:=aH h E0
 refine Ar I<|Au hb0 func118 I (.cons (.many (cs:=[.bool g0.fP.fN.fc,s0,.bool g0.fP.fD.fc,t0]) I I (p0.memA .hd)) .nil) I ?_
 cases h
 exact ⟨p0.ag,fun p q=>⟨s0,t0,I,p0.kd (Ag H0 C0) q,p0.kd (Ag I0 C0) q⟩⟩
 refine Aq<|Ax<|Am<|Ac I<|Ab (Bc (i:=c0) (j:=1) I I (by omega))<|Ah I<|Aa<|R0 (c0 + 1) b0 X0 h
 refine AZ I ?_
 have h:=bc h E0
 try dsimp only at h
 refine Ae<|bk h fun u0 k1 h=>jE (bd 116) I am (fun p q=>al_c n (b0.hL hL q)  k1) I fun H1 D1 Y0 ⟨x0,y0,hu_,J0,K0⟩=>?_
 subst hu_
 obtain ⟨W0,A1⟩:=b0.agr Y0
 refine AQ [.bool u0.fN.fc,x0,.bool u0.fD.fc,y0] W0 .hd (o4 I (Ay J0) I (Ay K0)) fun I1 q0 B0=>Aa<|Ar I<|Au hb0 func118 I (.cons (.many (cs:=[.bool u0.fN.fc,x0,.bool u0.fD.fc,y0]) I I (q0.memA .hd)) .nil) I ?_
 cases h
 exact ⟨q0.ag,fun p q=>⟨x0,y0,I,q0.kd (Ag J0 B0) q,q0.kd (Ag K0 B0) q⟩⟩

def ae_l1 (n:Nat) (u0:Lb Tc) (D0:Lb Tc) (E0:Lb Tc) (v0:Nat × Bool × (Lb Int) × Bool × (Lb Int) -> Oa (Bool × (Lb Int) × Bool × (Lb Int))):Nat × Bool × (Lb Int) × Bool × (Lb Int) -> Oa (Bool × (Lb Int) × Bool × (Lb Int))
  | (g0,k0,s0,p0,t0)=>(if g0 < u0.length then (u0[g0]?).bind fun q0=>(aI_p n D0 q0.fm).bind fun B0=>(aI_p n E0 q0.fm).bind fun C0=>(bs_p n B0 C0).bind fun b0=>jn (fun (x0,z0,y0,A0)=>(aw_p n (⟨(⟨k0,s0⟩:Te),(⟨p0,t0⟩:Te)⟩:Tf) (⟨(⟨x0,z0⟩:Te),(⟨y0,A0⟩:Te)⟩:Tf)).bind fun c0=>v0 (g0 + 1,c0.fN.fc,c0.fN.fD,c0.fD.fc,c0.fD.fD)) (fun j0=>(if b0.fN.fc = true then (bX_p n b0).bind fun d0=>j0 (d0.fN.fc,d0.fN.fD,d0.fD.fc,d0.fD.fD) else j0 (b0.fN.fc,b0.fN.fD,b0.fD.fc,b0.fD.fD))) else some (k0,s0,p0,t0))
def ae_l2 (n:Nat) (d0:Lb Tc) (g0:(Lb Tc) × Nat -> Oa (Lb Tc)):(Lb Tc) × Nat -> Oa (Lb Tc)
  | (c0,b0)=>(if b0 < d0.length then (d0[b0]?).bind fun j0=>(al_p n).bind fun k0=>(aO_p n c0 j0.fm k0).bind fun p0=>g0 (p0,b0 + 1) else some c0)
def ae_l3 (n:Nat) (d0:Lb Tc) (g0:(Lb Tc) × Nat -> Oa (Lb Tc)):(Lb Tc) × Nat -> Oa (Lb Tc)
  | (c0,b0)=>(if b0 < d0.length then (d0[b0]?).bind fun j0=>(al_p n).bind fun k0=>(aO_p n c0 j0.fm k0).bind fun p0=>g0 (p0,b0 + 1) else some c0)
def ae_p (n:Nat) (a0:Lb Ta) (a1:Lb Ta):Oa (Tb × Int):=
  (aq_p n a0).bind fun x0=>(if x0 = true then (aq_p n a1).bind fun y0=>(if y0 = true then (aM_p n a0).bind fun d0=>(aM_p n a1).bind fun g0=>Option.bind (ao (ae_l3 n d0) n (([]:Lb Tc),0)) (fun p0=>Option.bind (ao (ae_l2 n g0) n (p0,0)) (fun t0=>(al_p n).bind fun b0=>Option.bind (ao (ae_l1 n t0 d0 g0) n (0,b0.fN.fc,b0.fN.fD,b0.fD.fc,b0.fD.fD)) (fun (j0,q0,k0,s0)=>(bf_p n (1:Int) (2:Int)).bind fun u0=>(br_p n (⟨(⟨j0,q0⟩:Te),(⟨k0,s0⟩:Te)⟩:Tf) u0).bind fun v0=>(ay_p n v0).bind fun c0=>some (c0.1,c0.2)))) else some ((⟨(0,0,0,0,0,0,0,0),(0,0,0,0,0,0,0,0)⟩:Tb),(50:Int))) else some ((⟨(0,0,0,0,0,0,0,0),(0,0,0,0,0,0,0,0)⟩:Tb),(50:Int)))
theorem ae_c (n:Nat) {L w} (hL:hl L w) {a0:Lb Ta} {v0_0:Vc} (h0_0:Rep.R w L [v0_0] a0) {a1:Lb Ta} {v1_0:Vc} (h1_0:Rep.R w L [v1_0] a1)  {r:Tb × Int} (h:ae_p n a0 a1 = some r) :
 Cl 47 #[v0_0,v1_0] w (aj w fun _ u=>u = .tuple #[.agg ((ab r.1)).toArray,vI r.2]):=by
 unfold ae_p at h
 refine AM func47 I I I fun _ cs0 hb0=>Ae<|RG.nl zL (AL w) fun Z9 g0 y0 C8=>Ah I<|Aa<|Aj<|Ae<|Ac I<|bk h fun V7 t7 h=>Bd (.bool V7) (bd 101) I (e1 I) (fun p q=>aq_c n (y0.hL0 hL q) (y0.k0 h0_0 q) t7) I<|Ab (Bx I)<|Ac I<|BQ (s:=17) I h (fun U4 h=>?_) (fun U4 h=>?_)
 refine AJ (Al I)<|bk h fun X7 v7 h=>BG (v:=.bool X7) (fst:=[]) (cap:=[]) (.yes I I) (bd 101) I (e1 I) (fun p q=>aq_c n (y0.hL0 hL q) (y0.k0 h1_0 q) v7) I<|AJ (Bx I)<|Bs I I<|Aa<|MX.ifnb I h (fun V4 h=>?_) (fun V4 h=>?_)
 refine Aq<|Ae<|Ac I<|bk h fun Y0 x7 h=>jE (bd 109) I (e1 I) (fun p q=>bK (b0:=w.heap.size) (aM_c n (y0.hL hL q) (y0.km h0_0 q) x7) q (Nat.le_trans y0.ag.size q.size)) I fun w20 G0 I8 ⟨G9,I1,Y6,s4,V5⟩=>?_
 subst Y6
 have B1:=ca y0 s4
 have H8:=dR y0 s4
 have I3:=AI (cs:=I1) (xs:=(Y0:Lb Tc)) B1 L (bJ V5)
 refine Ac I<|bk h fun Z0 B7 h=>jE (bd 109) I (e1 I) (fun p q=>bK (b0:=w.heap.size) (aM_c n (B1.hL hL q) (B1.km h1_0 q) B7) q (Nat.le_trans B1.ag.size q.size)) I fun w33 H0 J8 ⟨I9,J1,Z6,t4,W5⟩=>?_
 subst Z6
 have H2:=ca B1 t4
 have H3:=dR B1 t4
 have J3:=AI (cs:=J1) (xs:=(Z0:Lb Tc)) H2 L (bJ W5)
 refine Ah I<|Ah I<|Aa<|Ae<|Ah I<|Aa<|Aj<|Ae<|Ah I<|Aa<|Av ?_
 obtain ⟨Y8,q6,c6⟩:=ap h
 refine BP (α:=(Lb Tc) × Nat × Vc) (fun ⟨x1,B0,s1⟩=>[(4,vP g0),(6,G0),(7,H0),(8,s1),(9,vn B0)]) (fun ⟨x1,B0,s1⟩=>[rr w 158 Tc H0 Z0.length J1,rr w 158 Tc G0 Y0.length I1,.cells g0 zL 34]) (fun ⟨x1,B0,s1⟩ G4=>Rep.R G4 (bl [rr w 158 Tc H0 Z0.length J1,rr w 158 Tc G0 Y0.length I1,.cells g0 zL 34] ++ L) [s1] x1) (fun ⟨x1,B0,s1⟩=>(x1,B0)) (([]:Lb Tc),0,vN) q6 H2 (Bo (α:=Tc) H2 L) ?_
 rintro g8 ⟨x1,B0,s1⟩ G4 X4 c1 P1 V3 h
 unfold ae_l3 at h
 try dsimp only at h
 refine Aj<|Ae<|Ac I<|Ac I ?_
 have K8:Y0.length <= 4294967296:=St.rowLe (α:=Tc) c1 .t1
 obtain ⟨b8,q8,X5⟩:=St.rowV (α:=Tc) c1 .t1
 refine Ab (FV.lenV underlying150 I X5)<|Ab (AU (i:=B0) (j:=Y0.length) I I)<|Aa<|AV I h (fun P4 h=>?_) (fun P4 h=>?_)
 refine Aq<|Aj<|Av<|du 9 fun D0 p1=>Rv 0 D0 I p1 (fun _=>Al I)<|Rv 1 D0 I p1 (fun _=>Al I)<|Rv 2 D0 I p1 (fun _=>Al I)<|bk h fun u3 c7 h=>?_
 obtain ⟨I4,t8,R2,P3,A8,z6,k6⟩:=BS (α:=Tc) c1 .t1 (AR I3 (Tt H3 P1)) c7
 obtain ⟨K4,u8,Y5⟩:=BC (α:=Tc) c1 .t1 P3
 obtain rfl:I4 = ⟨K4,0,none⟩:=by rw [Y5] at R2; cases R2; rfl
 obtain ⟨F7,G7,s9,t9,rfl,C6,F6,U8,V8⟩:=df z6
 refine Rv 3 D0 I p1 (fun _=>Be 8 B0 I R2 I I P3)<|Rv 4 D0 I p1 (fun _=>Bg 0 I)<|Rx 5 384 D0 I p1 (AN (cs:=[.bool u3.fm.fN.fc,F7,.bool u3.fm.fD.fc,G7]) I I (ac k6 0 4))<|bk h fun U7 s7 h=>AX 6 127 D0 I .plain (bd 116) I am (fun p q=>al_c n (c1.hL hL q)  s7) I fun z00 W9 M5 ⟨z9,A9,hu_,K6,M6⟩=>?_
 subst hu_
 obtain ⟨D3,s2⟩:=c1.agr M5
 refine bk h fun W7 u7 h=>AX 7 255 D0 I .plain (bd 106) I (e3 I I I) (fun p q=>aO_c n (D3.hL hL q) (Af (Ag V3 s2) q) u3.fm (Af (Ag C6 s2) q) (Af (Ag F6 s2) q) U7 (Af K6 q) (Af M6 q) u7) I fun A00 K7 P5 ⟨B9,hu_,P6⟩=>?_
 subst hu_
 obtain ⟨q5,B5⟩:=D3.agr P5
 refine Rv 8 D0 I p1 (fun _=>Bj I)<|AK (dk D0)<|Ax<|Am<|Ac I<|Ab (Bc (i:=B0) (j:=1) I I (by omega))<|Ah I<|Aa<|X4 (W7,B0 + 1,K7) q5 (Tt P1 (Tt s2 B5)) P6 h
 refine AZ I ?_
 have h:=c6 _ h
 try dsimp only at h
 refine Aj<|Ae<|Ah I<|Aa<|Av ?_
 obtain ⟨b9,t6,g6⟩:=ap h
 refine BP (α:=(Lb Tc) × Nat × Vc) (fun ⟨Q0,C0,M0⟩=>[(4,vP g0),(6,G0),(7,H0),(8,M0),(10,vn C0)]) (fun ⟨Q0,C0,M0⟩=>[rr w 158 Tc H0 Z0.length J1,rr w 158 Tc G0 Y0.length I1,.cells g0 zL 34]) (fun ⟨Q0,C0,M0⟩ H4=>Rep.R H4 (bl [rr w 158 Tc H0 Z0.length J1,rr w 158 Tc G0 Y0.length I1,.cells g0 zL 34] ++ L) [M0] Q0) (fun ⟨Q0,C0,M0⟩=>(Q0,C0)) (x1,0,s1) t6 c1 V3 ?_
 rintro p8 ⟨Q0,C0,M0⟩ H4 Z4 R0 u2 g4 h
 unfold ae_l2 at h
 try dsimp only at h
 refine Aj<|Ae<|Ac I<|Ac I ?_
 have P8:Z0.length <= 4294967296:=St.rowLe (α:=Tc) R0 .hd
 obtain ⟨d8,v8,Z5⟩:=St.rowV (α:=Tc) R0 .hd
 refine Ab (FV.lenV underlying150 I Z5)<|Ab (AU (i:=C0) (j:=Z0.length) I I)<|Aa<|AV I h (fun W4 h=>?_) (fun W4 h=>?_)
 refine Aq<|Aj<|Av<|du 9 fun F0 q1=>Rv 0 F0 I q1 (fun _=>Al I)<|Rv 1 F0 I q1 (fun _=>Al I)<|Rv 2 F0 I q1 (fun _=>Al I)<|bk h fun v3 d7 h=>?_
 obtain ⟨J4,x8,U2,Q3,B8,Q6,p6⟩:=BS (α:=Tc) R0 .hd (AR J3 (Tt P1 u2)) d7
 obtain ⟨M4,y8,b6⟩:=BC (α:=Tc) R0 .hd Q3
 obtain rfl:J4 = ⟨M4,0,none⟩:=by rw [b6] at U2; cases U2; rfl
 obtain ⟨H7,I7,C9,D9,rfl,R6,U6,W8,X8⟩:=df Q6
 refine Rv 3 F0 I q1 (fun _=>Be 8 C0 I U2 I I Q3)<|Rv 4 F0 I q1 (fun _=>Bg 0 I)<|Rx 5 384 F0 I q1 (AN (cs:=[.bool v3.fm.fN.fc,H7,.bool v3.fm.fD.fc,I7]) I I (ac p6 0 4))<|bk h fun Y7 y7 h=>AX 6 127 F0 I .plain (bd 116) I am (fun p q=>al_c n (R0.hL hL q)  y7) I fun C00 X9 Q5 ⟨E9,F9,hu_,V6,W6⟩=>?_
 subst hu_
 obtain ⟨E3,v2⟩:=R0.agr Q5
 refine bk h fun Z7 z7 h=>AX 7 255 F0 I .plain (bd 106) I (e3 I I I) (fun p q=>aO_c n (E3.hL hL q) (Af (Ag g4 v2) q) v3.fm (Af (Ag R6 v2) q) (Af (Ag U6 v2) q) Y7 (Af V6 q) (Af W6 q) z7) I fun D00 M7 R5 ⟨H9,hu_,X6⟩=>?_
 subst hu_
 obtain ⟨s5,C5⟩:=E3.agr R5
 refine Rv 8 F0 I q1 (fun _=>Bj I)<|AK (dk F0)<|Ax<|Am<|Ac I<|Ab (Bc (i:=C0) (j:=1) I I (by omega))<|Ah I<|Aa<|Z4 (Z7,C0 + 1,M7) s5 (Tt u2 (Tt v2 C5)) X6 h
 refine AZ I ?_
 have h:=g6 _ h
 try dsimp only at h
 refine Ae<|bk h fun H1 A7 h=>jE (bd 116) I am (fun p q=>al_c n (R0.hL hL q)  A7) I fun E00 Y9 U5 ⟨C4,D4,hu_,j4,k4⟩=>?_
 subst hu_
 obtain ⟨t5,M2⟩:=R0.agr U5
 refine RG.nl [.bool false,vN,.bool false,vN] t5 fun F00 u0 u5 D1=>AQ [.bool H1.fN.fc,C4,.bool H1.fD.fc,D4] u5 .hd (o4 I (Ay (Ag j4 D1)) I (Ay (Ag k4 D1))) fun G00 G2 x2=>Aa<|Aj<|Ae<|Ah I<|Aa<|Av ?_
 have p2:=Bu G2 .t2
 have P2:=Bv G2 .t2
 have p4:=Bw (α:=Tc) (v:=G0) (xs:=Y0) p2 L (Bi (α:=Tc) G2 .t2 (AR I3 (Tt H3 (Tt P1 (Tt u2 (Tt M2 (Tt D1 x2)))))) hL)
 have F3:=Bu p2 .t1
 have y2:=Bv p2 .t1
 have j3:=Bw (α:=Tc) (v:=H0) (xs:=Z0) F3 L (Bi (α:=Tc) p2 .t1 (AR J3 (Tt P1 (Tt u2 (Tt M2 (Tt D1 (Tt x2 P2)))))) hL)
 have U3:=Tt D1 (Tt x2 (Tt P2 y2))
 obtain ⟨Z8,s6,d6⟩:=ap h
 refine BP (α:=Nat × Bool × (Lb Int) × Bool × (Lb Int) × Vc × Vc) (fun ⟨t0,j0,W0,p0,X0,q0,s0⟩=>[(4,vP g0),(6,G0),(7,H0),(8,M0),(11,vP u0),(12,vn t0)]) (fun ⟨t0,j0,W0,p0,X0,q0,s0⟩=>[.cells u0 [.bool j0,q0,.bool p0,s0] 144,.cells g0 zL 34]) (fun ⟨t0,j0,W0,p0,X0,q0,s0⟩ q3=>Rep.R q3 (bl [.cells u0 [.bool j0,q0,.bool p0,s0] 144,.cells g0 zL 34] ++ L) [q0] W0/\Rep.R q3 (bl [.cells u0 [.bool j0,q0,.bool p0,s0] 144,.cells g0 zL 34] ++ L) [s0] X0) (fun ⟨t0,j0,W0,p0,X0,q0,s0⟩=>(t0,j0,W0,p0,X0)) (0,H1.fN.fc,H1.fN.fD,H1.fD.fc,H1.fD.fD,C4,D4) s6 F3 ⟨(Ag j4 U3),(Ag k4 U3)⟩ ?_
 rintro j8 ⟨t0,j0,W0,p0,X0,q0,s0⟩ q3 Y4 g1 j1 ⟨W3,X3⟩ h
 unfold ae_l1 at h
 try dsimp only at h
 refine Aj<|Ae<|Ac I<|Ac I ?_
 have V2:=Ag g4 (Tt M2 (Tt D1 (Tt x2 (Tt P2 (Tt y2 j1)))))
 have M8:=AY V2
 refine Ab (Ba (xs:=Q0) underlying150 I V2)<|Ab (AU (i:=t0) (j:=Q0.length) I I)<|Aa<|AV I h (fun Q4 h=>?_) (fun Q4 h=>?_)
 refine Aq<|Aj<|Av<|Aj<|du 16 fun c0 v0=>Rv 0 c0 I v0 (fun _=>Al I)<|Rv 1 c0 I v0 (fun _=>Al I)<|Rv 2 c0 I v0 (fun _=>Al I)<|bk h fun P0 b7 h=>?_
 obtain ⟨c8,s8,K3,M3,z8,v6,R3⟩:=Bh V2 b7
 obtain ⟨u4,v4,c9,d9,rfl,X1,Y1,Q8,R8⟩:=df v6
 refine Rv 3 c0 I v0 (fun _=>Be 8 t0 I K3 I I M3)<|Rv 4 c0 I v0 (fun _=>Bg 0 I)<|Rx 5 90176 c0 I v0 (AN (cs:=[.bool P0.fm.fN.fc,u4,.bool P0.fm.fD.fc,v4]) I I (ac R3 0 4))<|Rv 7 c0 I v0 (fun _=>Al I)<|Rv 8 c0 I v0 (fun _=>Al I)<|Rv 9 c0 I v0 (fun _=>Al I)<|Rv 10 c0 I v0 (fun _=>Be 8 t0 I K3 I I M3)<|Rv 11 c0 I v0 (fun _=>Bg 0 I)<|Rx 12 90112 c0 I v0 (AN (cs:=[.bool P0.fm.fN.fc,u4,.bool P0.fm.fD.fc,v4]) I I (ac R3 0 4))<|bk h fun B2 q4 h=>bk h fun C2 k3 h=>bk h fun z0 z2 h=>RD.mf (α:=Vc × Vc × Nat) (fun ⟨u1,v1,x0⟩=>[(4,vP g0),(6,G0),(7,H0),(8,M0),(11,vP u0),(12,vn t0),(76,.agg #[.bool z0.fN.fc,u1,.bool z0.fD.fc,v1]),(13,vP x0)]) (fun ⟨u1,v1,x0⟩=>[.cells x0 [.bool false,vN,.bool false,vN] 144,.cells u0 [.bool j0,q0,.bool p0,s0] 144,.cells g0 zL 34]) (fun ⟨u1,v1,x0⟩ s3=>Rep.R s3 (bl [.cells x0 [.bool false,vN,.bool false,vN] 144,.cells u0 [.bool j0,q0,.bool p0,s0] 144,.cells g0 zL 34] ++ L) [u1] z0.fN.fD/\Rep.R s3 (bl [.cells x0 [.bool false,vN,.bool false,vN] 144,.cells u0 [.bool j0,q0,.bool p0,s0] 144,.cells g0 zL 34] ++ L) [v1] z0.fD.fD) g1 1 65535 ?_ ?_
 rintro ⟨u1,v1,x0⟩ s3 c5 x5 ⟨d3,g3⟩
 try dsimp only
 refine BB 16 131071 c0 I I .plain (AC (news:=[.bool z0.fN.fc,u1,.bool z0.fD.fc,v1]) c5 .hd I I I I I I (o4 I (Ay d3) I (Ay g3))) fun j00 A1 R1=>AK (dk c0)<|Aj<|Ae<|Bm 0 I<|Bm 0 I<|Bf I ((eG (A1.memA .hd) 0) 0 _ I)<|Aa<|MX.jf (α:=Bool × (Lb Int) × Bool × (Lb Int) × Vc × Vc) (fun ⟨J0,y1,K0,z1,U0,V0⟩=>[(4,vP g0),(6,G0),(7,H0),(8,M0),(11,vP u0),(12,vn t0),(13,vP x0)]) (fun ⟨J0,y1,K0,z1,U0,V0⟩=>[.cells x0 [.bool J0,U0,.bool K0,V0] 144,.cells u0 [.bool j0,q0,.bool p0,s0] 144,.cells g0 zL 34]) (fun ⟨J0,y1,K0,z1,U0,V0⟩ t3=>Rep.R t3 (bl [.cells x0 [.bool J0,U0,.bool K0,V0] 144,.cells u0 [.bool j0,q0,.bool p0,s0] 144,.cells g0 zL 34] ++ L) [U0] y1/\Rep.R t3 (bl [.cells x0 [.bool J0,U0,.bool K0,V0] 144,.cells u0 [.bool j0,q0,.bool p0,s0] 144,.cells g0 zL 34] ++ L) [V0] z1) (fun ⟨J0,y1,K0,z1,U0,V0⟩=>(J0,y1,K0,z1)) A1 h ?_ ?_
 rintro ⟨J0,y1,K0,z1,U0,V0⟩ t3 j2 y5 ⟨D6,E6⟩ h
 try dsimp only at h
 refine Am<|Ab (Az I (j2.memA .t1))<|Ab (Az I (j2.memA .hd))<|bk h fun F1 g7 h=>?_
 have Y2:=Tt x5 (Tt R1 y5)
 refine jE (bd 110) I (e2 I I) (fun p q=>aw_c n (j2.hL hL q) (⟨(⟨j0,W0⟩:Te),(⟨p0,X0⟩:Te)⟩:Tf) (Af (Ag W3 Y2) q) (Af (Ag X3 Y2) q) (⟨(⟨J0,y1⟩:Te),(⟨K0,z1⟩:Te)⟩:Tf) (Af D6 q) (Af E6 q) g7) I fun k00 Q9 H5 ⟨y4,z4,hu_,Z3,b4⟩=>?_
 subst hu_
 obtain ⟨d5,z5⟩:=j2.agr H5
 refine AQ [.bool F1.fN.fc,y4,.bool F1.fD.fc,z4] d5 .t1 (o4 I (Ay Z3) I (Ay b4)) fun p00 g5 I2=>Aa<|Ax<|Am<|Ac I<|Ab (Bc (i:=t0) (j:=1) I I (by omega))<|Ah I<|Aa ?_
 obtain ⟨j5,J2⟩:=AB g5 .d1
 exact Y4 (t0 + 1,F1.fN.fc,F1.fN.fD,F1.fD.fc,F1.fD.fD,y4,z4) j5 (Tt j1 (Tt Y2 (Tt z5 (Tt I2 J2)))) ⟨(Ag Z3 (Tt I2 J2)),(Ag b4 (Tt I2 J2))⟩ h
 intro k8 x3 h
 try dsimp only at h
 refine MX.ifb I h (fun R4 h=>?_) (fun R4 h=>?_)
 refine Am<|Ab (Az I (A1.memA .hd))<|bk h fun G1 j7 h=>jE (bd 119) I (e1 I) (fun p q=>bX_c n (A1.hL hL q) z0 (Af (Ag d3 R1) q) (Af (Ag g3 R1) q) j7) I fun q00 R9 I5 ⟨A4,B4,hu_,c4,d4⟩=>?_
 subst hu_
 obtain ⟨k5,A5⟩:=A1.agr I5
 refine AQ [.bool G1.fN.fc,A4,.bool G1.fD.fc,B4] k5 .hd (o4 I (Ay c4) I (Ay d4)) fun s00 p5 K2=>Aa<|x3 (G1.fN.fc,G1.fN.fD,G1.fD.fc,G1.fD.fD,A4,B4) p5 (Tt A5 K2) ⟨(Ag c4 K2),(Ag d4 K2)⟩ h
 refine Aq<|x3 (z0.fN.fc,z0.fN.fD,z0.fD.fc,z0.fD.fD,u1,v1) A1 (BM _ _) ⟨(Ag d3 R1),(Ag g3 R1)⟩ h
 intro g2
 refine BJ [6,15] (rk c0) ⟨?_,?_,trivial⟩
 refine BX (m' :=8191) (fst:=[]) (cap:=[]) (sk c0) I .plain (bd 118) I (e2 I I) (fun p q=>aI_c n (g1.hL hL q) (Af (Ag p4 (Tt y2 j1)) q) P0.fm (Af X1 q) (Af Y1 q) q4) I fun b00 J9 D5 ⟨g9,j9,hu_,Z2,b3⟩=>?_
 subst hu_
 obtain ⟨E2,I0⟩:=g1.agr D5
 refine BJ [13,15] (rk c0) ⟨?_,?_,trivial⟩
 have W2:=Ag X1 I0
 have X2:=Ag Y1 I0
 refine BX (m' :=16383) (fst:=[]) (cap:=[]) (sk c0) I .plain (bd 118) I (e2 I I) (fun p q=>aI_c n (E2.hL hL q) (Af (Ag j3 (Tt j1 I0)) q) P0.fm (Af W2 q) (Af X2 q) k3) I fun d00 M9 F5 ⟨q9,x4,hu_,Y3,E1⟩=>?_
 subst hu_
 obtain ⟨F2,C1⟩:=E2.agr F5
 refine BJ [14,15] (rk c0) ⟨?_,?_,trivial⟩
 have V1:=Ag Z2 C1
 have W1:=Ag b3 C1
 refine BX (m' :=32767) (fst:=[]) (cap:=[]) (sk c0) I .plain (bd 117) I (e2 I I) (fun p q=>bs_c n (F2.hL hL q) B2 (Af V1 q) (Af W1 q) C2 (Af Y3 q) (Af E1 q) z2) I fun F4 E4 U1 ⟨c2,d2,hu_,Z1,b2⟩=>?_
 subst hu_
 obtain ⟨M1,Q1⟩:=F2.agr U1
 refine RD.nu 15 65535 c0 I .plain I (Aw [.bool false,vN,.bool false,vN] M1) fun p3 b1 A0 d0=>g2 (c2,d2,b1) A0 (Tt I0 (Tt C1 (Tt Q1 d0))) ⟨(Ag Z1 d0),(Ag b2 d0)⟩
 refine RO.new (m' :=49151) (sk c0) I .plain I (Aw [.bool false,vN,.bool false,vN] F2) fun p3 b1 A0 d0=>?_
 have V1:=Ag Z2 (Tt C1 d0)
 have W1:=Ag b3 (Tt C1 d0)
 refine AX 14 65535 c0 I .plain (bd 117) I (e2 I I) (fun p q=>bs_c n (A0.hL hL q) B2 (Af V1 q) (Af W1 q) C2 (Af (Ag Y3 d0) q) (Af (Ag E1 d0) q) z2) I fun g00 P9 G5 ⟨D7,E7,hu_,A6,B6⟩=>?_
 subst hu_
 obtain ⟨b5,v5⟩:=A0.agr G5
 exact g2 (D7,E7,b1) b5 (Tt I0 (Tt C1 (Tt d0 v5))) ⟨A6,B6⟩
 refine RO.new (m' :=40959) (sk c0) I .plain I (Aw [.bool false,vN,.bool false,vN] E2) fun p3 b1 A0 d0=>?_
 have u6:=Tt j1 (Tt I0 d0)
 have W2:=Ag j3 u6
 have X2:=Ag X1 (Tt I0 d0)
 have j6:=Ag Y1 (Tt I0 d0)
 refine AX 13 49151 c0 I .plain (bd 118) I (e2 I I) (fun p q=>aI_c n (A0.hL hL q) (Af W2 q) P0.fm (Af X2 q) (Af j6 q) k3) I fun P7 J7 Q2 ⟨x4,C7,hu_,E1,c3⟩=>?_
 subst hu_
 obtain ⟨K1,k1⟩:=A0.agr Q2
 have V1:=Ag Z2 (Tt d0 k1)
 have W1:=Ag b3 (Tt d0 k1)
 refine AX 14 65535 c0 I .plain (bd 117) I (e2 I I) (fun p q=>bs_c n (K1.hL hL q) B2 (Af V1 q) (Af W1 q) C2 (Af E1 q) (Af c3 q) z2) I fun F4 E4 U1 ⟨c2,d2,hu_,Z1,b2⟩=>?_
 subst hu_
 obtain ⟨M1,Q1⟩:=K1.agr U1
 exact g2 (c2,d2,b1) M1 (Tt I0 (Tt d0 (Tt k1 Q1))) ⟨Z1,b2⟩
 refine RO.new (m' :=40895) (sk c0) I .plain I (Aw [.bool false,vN,.bool false,vN] g1) fun p3 b1 A0 d0=>AX 6 40959 c0 I .plain (bd 118) I (e2 I I) (fun p q=>aI_c n (A0.hL hL q) (Af (Ag p4 (Tt y2 (Tt j1 d0))) q) P0.fm (Af (Ag X1 d0) q) (Af (Ag Y1 d0) q) q4) I fun c00 K9 E5 ⟨k9,p9,hu_,x6,y6⟩=>?_
 subst hu_
 obtain ⟨y3,q2⟩:=A0.agr E5
 refine AX 13 49151 c0 I .plain (bd 118) I (e2 I I) (fun p q=>aI_c n (y3.hL hL q) (Af (Ag j3 (Tt j1 (Tt d0 q2))) q) P0.fm (Af (Ag X1 (Tt d0 q2)) q) (Af (Ag Y1 (Tt d0 q2)) q) k3) I fun P7 J7 Q2 ⟨x4,C7,hu_,E1,c3⟩=>?_
 subst hu_
 obtain ⟨K1,k1⟩:=y3.agr Q2
 refine AX 14 65535 c0 I .plain (bd 117) I (e2 I I) (fun p q=>bs_c n (K1.hL hL q) B2 (Af (Ag x6 k1) q) (Af (Ag y6 k1) q) C2 (Af E1 q) (Af c3 q) z2) I fun F4 E4 U1 ⟨c2,d2,hu_,Z1,b2⟩=>?_
 subst hu_
 obtain ⟨M1,Q1⟩:=K1.agr U1
 exact g2 (c2,d2,b1) M1 (Tt d0 (Tt q2 (Tt k1 Q1))) ⟨Z1,b2⟩
 refine AZ I ?_
 have h:=d6 _ h
 try dsimp only at h
 refine Aj<|du 6 fun E0 A2=>Rx 0 252 E0 I A2 (Az I (g1.memA .hd))<|bk h fun Q7 k7 h=>AX 1 3 E0 I .plain (bd 97) I (e2 I I) (fun p q=>bf_c n (g1.hL hL q)  k7) I fun t00 U9 J5 ⟨u9,v9,hu_,G6,H6⟩=>?_
 subst hu_
 obtain ⟨z3,G3⟩:=g1.agr J5
 refine bk h fun R7 p7 h=>AX 2 7 E0 I .plain (bd 107) I (e2 I I) (fun p q=>br_c n (z3.hL hL q) (⟨(⟨j0,W0⟩:Te),(⟨p0,X0⟩:Te)⟩:Tf) (Af (Ag W3 G3) q) (Af (Ag X3 G3) q) Q7 (Af G6 q) (Af H6 q) p7) I fun u00 V9 K5 ⟨x9,y9,hu_,I6,J6⟩=>?_
 subst hu_
 obtain ⟨k2,D8⟩:=z3.agr K5
 refine bk h fun D2 q7 h=>RD.cq 3 15 240 (.tuple #[.agg ((ab D2.1)).toArray,vI D2.2]) E0 I A2 (bd 96) I (e1 I) (fun p q=>ay_c n (k2.hL0 hL q) R7 (k2.kd I6 q) (k2.kd J6 q) q7) I<|Rv 4 E0 I A2 (fun _=>Ai I I)<|Rv 5 E0 I A2 (fun _=>Ai I I)<|BB 6 127 E0 I I .plain (AC (news:=(ab D2.1)) k2 .t1 I I I I I I (ai I)) fun v00 A3 E8=>BK (i:=7) (rk E0) (BV (m' :=255) (sk E0) I .plain I (Bj I) ?_)
 refine AK (dk E0)<|Ar I<|Au hb0 func47 I (.cons (.many (cs:=(ab D2.1)) I I (A3.memA .t1)) (.cons (.tmp I) .nil)) I ?_
 cases h
 exact A3.gv
 refine Ae<|Ab (AS (vs:=[]) (u:=.agg zM) am (fun p=>by kernel_rfl))<|AQ zL y0 .hd (ai I) fun x00 B3 F8=>Ah I<|Aa<|Ar I<|Au hb0 func47 I (.cons (.many (cs:=zL) I I (B3.memA .hd)) (.cons (.tmp I) .nil)) I ?_
 cases h
 exact B3.gv
 refine Ap<|Ap<|Ap<|Bk I I<|Aa<|AG I<|Ae<|Ab (AS (vs:=[]) (u:=.agg zM) am (fun p=>by kernel_rfl))<|AQ zL y0 .hd (ai I) fun y00 C3 G8=>Ah I<|Aa<|Ar I<|Au hb0 func47 I (.cons (.many (cs:=zL) I I (C3.memA .hd)) (.cons (.tmp I) .nil)) I ?_
 cases h
 exact C3.gv
def bQ_p (n:Nat) (a0:Th):Oa Tb:=
  (aH_p n a0.fN).bind fun b0=>(aH_p n a0.fD).bind fun c0=>jn (fun A0=>jn (fun j0=>(cg j0 24).bind fun k0=>(chk (2 + k0)).bind fun p0=>(cg A0 p0).bind fun q0=>(aZ_p n q0).bind fun x0=>(cg j0 24).bind fun s0=>(chk (1 + s0)).bind fun t0=>(aZ_p n t0).bind fun y0=>(bO_p n x0 y0).bind fun z0=>some z0) (fun g0=>(if c0 < 0 then (chk (-c0)).bind fun u0=>g0 u0 else g0 c0))) (fun d0=>(if b0 < 0 then (chk (-b0)).bind fun v0=>d0 v0 else d0 b0))
theorem bQ_c (n:Nat) {L w} (hL:hl L w) (a0:Th) {v0_1:Vc} (h0_1:Rep.R w L [v0_1] a0.fN.fBits) {v0_4:Vc} (h0_4:Rep.R w L [v0_4] a0.fD.fBits)  {r:Tb} (h:bQ_p n a0 = some r) :
 Cl 48 #[.agg #[.bool a0.fN.fc,v0_1,.int .u32 (a0.fN.fo.toNat:Int),.bool a0.fD.fc,v0_4,.int .u32 (a0.fD.fo.toNat:Int)]] w (aj w fun _ u=>u = .agg ((ab r)).toArray):=by
 unfold bQ_p at h
 refine AM func48 I I I fun _ cs0 hb0=>Ae<|RG.bx (AL w) I I fun B1 q1 E0 s1=>RG.nl zL E0 fun C1 q0 b0 u1=>Aa<|Aj<|du 8 fun c0 d0=>Rv 0 c0 I d0 (fun _=>Bg 0 I)<|Rx 1 228 c0 I d0 (AN (cs:=[.bool a0.fN.fc,v0_1,.int .u32 (a0.fN.fo.toNat:Int)]) I I (ac (b0.memA .t1) 0 3))<|bk h fun t0 V0 h=>RD.cq 2 7 224 (vI t0) c0 I d0 (bd 111) I (e1 I) (fun p q=>aH_c n (b0.hL0 hL q) a0.fN (b0.k0 h0_1 q) V0) I<|Rv 3 c0 I d0 (fun _=>Bg 3 I)<|Rx 4 224 c0 I d0 (AN (cs:=[.bool a0.fD.fc,v0_4,.int .u32 (a0.fD.fo.toNat:Int)]) I I (ac (b0.memA .t1) 3 3))<|bk h fun p0 W0 h=>RD.cq 5 63 192 (vI p0) c0 I d0 (bd 111) I (e1 I) (fun p q=>aH_c n (b0.hL0 hL q) a0.fD (b0.k0 h0_4 q) W0) I<|Rv 6 c0 I d0 (fun _=>Bj I)<|Rv 7 c0 I d0 (fun _=>Bj I)<|AK (dk c0)<|Aj<|Ae<|Ac I<|Ab (FV.lss (i:=t0) (j:=0) I I)<|Aa<|MX.jo (α:=Int) (fun g0=>[(2,vP q0),(3,vI g0),(4,vI p0)]) (fun g0=>[.cells q0 zL 34]) (fun g0=>g0) b0 h ?_ ?_
 rintro g0 E1 u0 v1 h
 try dsimp only at h
 refine Aj<|Ae<|Ac I<|Ab (FV.lss (i:=p0) (j:=0) I I)<|Aa<|MX.jo (α:=Int) (fun j0=>[(2,vP q0),(3,vI g0),(4,vI j0)]) (fun j0=>[.cells q0 zL 34]) (fun j0=>j0) u0 h ?_ ?_
 rintro j0 F1 s0 x1 h
 try dsimp only at h
 refine Ae<|Ac I<|Ac I<|bk h fun b1 J0 h=>Ab (FV.remc (i:=j0) (j:=24) I I J0)<|bk h fun c1 K0 h=>Ab (FV.addc (i:=2) (j:=b1) I I K0)<|bk h fun z1 M0 h=>Ab (FV.remc (i:=g0) (j:=c1) I I M0)<|bk h fun A0 X0 h=>Bd (.agg ((ak A0)).toArray) (bd 113) I (e1 I) (fun p q=>aZ_c n (s0.hL0 hL q)  X0) I<|Ac I<|bk h fun d1 P0 h=>Ab (FV.remc (i:=j0) (j:=24) I I P0)<|bk h fun A1 Q0 h=>Ab (FV.addc (i:=1) (j:=d1) I I Q0)<|bk h fun B0 Y0 h=>Bd (.agg ((ak B0)).toArray) (bd 113) I (e1 I) (fun p q=>aZ_c n (s0.hL0 hL q)  Y0) I<|bk h fun v0 Z0 h=>Bd (.agg ((ab v0)).toArray) (bd 112) I (e2 I I) (fun p q=>bO_c n (s0.hL0 hL q) A0 B0 Z0) I<|AQ (ab v0) s0 .hd (ai I) fun D1 z0 y1=>Aa<|Ar I<|Au hb0 func48 I (.cons (.many (cs:=(ab v0)) I I (z0.memA .hd)) .nil) I ?_
 cases h
 exact z0.gv
 intro p1 y0 h
 try dsimp only at h
 refine AV I h (fun C0 h=>?_) (fun C0 h=>?_)
 refine Am<|Ac I<|bk h fun g1 R0 h=>Ab (FV.negc (i:=p0) I R0)<|Ah I<|Aa<|y0 g1 u0 (BM _ _) h
 refine Aq<|y0 p0 u0 (BM _ _) h
 intro k1 x0 h
 try dsimp only at h
 refine AV I h (fun D0 h=>?_) (fun D0 h=>?_)
 refine Am<|Ac I<|bk h fun j1 U0 h=>Ab (FV.negc (i:=t0) I U0)<|Ah I<|Aa ?_
 obtain ⟨F0,H0⟩:=AB b0 (.a0 .done)
 exact x0 j1 F0 H0 h
 refine Aq ?_
 obtain ⟨G0,I0⟩:=AB b0 (.a0 .done)
 exact x0 t0 G0 I0 h
def bj_l1 (n:Nat) (z0:Lb Tc) (J0:Tf) (A0:Nat × Bool × (Lb Int) × Bool × (Lb Int) × Bool × (Lb Int) × Bool × (Lb Int) -> Oa (Bool × (Lb Int) × Bool × (Lb Int) × Bool × (Lb Int) × Bool × (Lb Int))):Nat × Bool × (Lb Int) × Bool × (Lb Int) × Bool × (Lb Int) × Bool × (Lb Int) -> Oa (Bool × (Lb Int) × Bool × (Lb Int) × Bool × (Lb Int) × Bool × (Lb Int))
  | (d0,t0,v0,u0,x0,g0,k0,j0,p0)=>(if d0 < z0.length then (z0[d0]?).bind fun b0=>(ap_p n b0.fm J0).bind fun y0=>jn (fun (B0,F0,C0,G0)=>jn (fun (D0,H0,E0,I0)=>A0 (d0 + 1,D0,H0,E0,I0,B0,F0,C0,G0)) (fun s0=>(if y0 = 0 then s0 (b0.fP.fN.fc,b0.fP.fN.fD,b0.fP.fD.fc,b0.fP.fD.fD) else s0 (t0,v0,u0,x0)))) (fun q0=>(if y0 < 0 then (aw_p n (⟨(⟨g0,k0⟩:Te),(⟨j0,p0⟩:Te)⟩:Tf) b0.fP).bind fun c0=>q0 (c0.fN.fc,c0.fN.fD,c0.fD.fc,c0.fD.fD) else q0 (g0,k0,j0,p0))) else some (g0,k0,j0,p0,t0,v0,u0,x0))
def bj_p (n:Nat) (a0:Lb Ta) (a1:Tb):Oa (Tb × Tb × Int):=
  (aq_p n a0).bind fun x0=>(if x0 = true then (aJ_p n a1).bind fun y0=>(if y0 = true then (aM_p n a0).bind fun z0=>(aG_p n a1).bind fun A0=>(al_p n).bind fun b0=>(al_p n).bind fun c0=>Option.bind (ao (bj_l1 n z0 A0) n (0,c0.fN.fc,c0.fN.fD,c0.fD.fc,c0.fD.fD,b0.fN.fc,b0.fN.fD,b0.fD.fc,b0.fD.fD)) (fun (p0,u0,q0,v0,j0,s0,k0,t0)=>(ay_p n (⟨(⟨p0,u0⟩:Te),(⟨q0,v0⟩:Te)⟩:Tf)).bind fun d0=>(ay_p n (⟨(⟨j0,s0⟩:Te),(⟨k0,t0⟩:Te)⟩:Tf)).bind fun g0=>(if d0.2 = 0 then (if g0.2 = 0 then some (d0.1,g0.1,(0:Int)) else some ((⟨(0,0,0,0,0,0,0,0),(0,0,0,0,0,0,0,0)⟩:Tb),(⟨(0,0,0,0,0,0,0,0),(0,0,0,0,0,0,0,0)⟩:Tb),(6:Int))) else some ((⟨(0,0,0,0,0,0,0,0),(0,0,0,0,0,0,0,0)⟩:Tb),(⟨(0,0,0,0,0,0,0,0),(0,0,0,0,0,0,0,0)⟩:Tb),(6:Int)))) else some ((⟨(0,0,0,0,0,0,0,0),(0,0,0,0,0,0,0,0)⟩:Tb),(⟨(0,0,0,0,0,0,0,0),(0,0,0,0,0,0,0,0)⟩:Tb),(20:Int))) else some ((⟨(0,0,0,0,0,0,0,0),(0,0,0,0,0,0,0,0)⟩:Tb),(⟨(0,0,0,0,0,0,0,0),(0,0,0,0,0,0,0,0)⟩:Tb),(50:Int)))
theorem bj_c (n:Nat) {L w} (hL:hl L w) {a0:Lb Ta} {v0_0:Vc} (h0_0:Rep.R w L [v0_0] a0) (a1:Tb)  {r:Tb × Tb × Int} (h:bj_p n a0 a1 = some r) :
 Cl 49 #[v0_0,.agg ((ab a1)).toArray] w (aj w fun _ u=>u = .tuple #[.agg ((ab r.1)).toArray,.agg ((ab r.2.1)).toArray,vI r.2.2]):=by
 unfold bj_p at h
 refine AM func49 I I I fun _ cs0 hb0=>Ae<|RG.bx (AL w) I I fun E7 E6 E4 R6=>RG.nl zL E4 fun K7 j0 M4 V6=>RG.nl zL M4 fun U7 p0 C0 Y6=>Ah I<|Aa<|Aj<|Ae<|Ac I<|bk h fun y6 g6 h=>Bd (.bool y6) (bd 101) I (e1 I) (fun p q=>aq_c n (C0.hL0 hL q) (C0.k0 h0_0 q) g6) I<|Ab (Bx I)<|Aa<|MX.ifnb I h (fun B4 h=>?_) (fun B4 h=>?_)
 refine Aq<|Aj<|Ae<|Ab (Az I (C0.memA .t2))<|bk h fun z6 j6 h=>Bd (.bool z6) (bd 114) I (e1 I) (fun p q=>aJ_c n (C0.hL0 hL q) a1 j6) I<|Ab (Bx I)<|Aa<|MX.ifnb I h (fun C4 h=>?_) (fun C4 h=>?_)
 refine Aq<|Aj<|du 6 fun x0 Y2=>Rv 0 x0 I Y2 (fun _=>Al I)<|Rx 2 104 x0 I Y2 (Az I (C0.memA .t2))<|bk h fun s0 W3 h=>bk h fun c0 X2 h=>RD.mf (α:=Vc × Vc × Nat × Vc × (Lb Vc)) (fun ⟨u0,v0,d0,g0,t0⟩=>[(4,vP j0),(5,vP p0),(28,g0),(30,.agg #[.bool c0.fN.fc,u0,.bool c0.fD.fc,v0]),(8,vP d0)]) (fun ⟨u0,v0,d0,g0,t0⟩=>[.cells d0 [.bool false,vN,.bool false,vN] 144,rr w 158 Tc g0 s0.length t0,.cells p0 zL 34,.cells j0 zL 34]) (fun ⟨u0,v0,d0,g0,t0⟩ s2=>Rep.R s2 (bl [.cells d0 [.bool false,vN,.bool false,vN] 144,rr w 158 Tc g0 s0.length t0,.cells p0 zL 34,.cells j0 zL 34] ++ L) [u0] c0.fN.fD/\Rep.R s2 (bl [.cells d0 [.bool false,vN,.bool false,vN] 144,rr w 158 Tc g0 s0.length t0,.cells p0 zL 34,.cells j0 zL 34] ++ L) [v0] c0.fD.fD/\Cells s2 (bl [.cells d0 [.bool false,vN,.bool false,vN] 144,rr w 158 Tc g0 s0.length t0,.cells p0 zL 34,.cells j0 zL 34] ++ L) t0 (s0:Lb Tc)) C0 2 31 ?_ ?_
 rintro ⟨u0,v0,d0,g0,t0⟩ s2 F4 U6 ⟨E3,F3,y3⟩
 try dsimp only
 refine Rv 5 x0 I Y2 (fun _=>Bj I)<|BB 6 127 x0 I I .plain (AC (news:=[.bool c0.fN.fc,u0,.bool c0.fD.fc,v0]) F4 .hd I I I I I I (o4 I (Ay E3) I (Ay F3))) fun F7 p3 q5=>AK (dk x0)<|Ae<|bk h fun F1 W5 h=>jE (bd 116) I am (fun p q=>al_c n (p3.hL hL q)  W5) I fun G7 B7 x5 ⟨Y3,Z3,hu_,G3,H3⟩=>?_
 subst hu_
 obtain ⟨q3,s5⟩:=p3.agr x5
 refine bk h fun G1 X5 h=>jE (bd 116) I am (fun p q=>al_c n (q3.hL hL q)  X5) I fun H7 C7 y5 ⟨b4,c4,hu_,I3,J3⟩=>?_
 subst hu_
 obtain ⟨G4,s3⟩:=q3.agr y5
 refine RG.nl [.bool false,vN,.bool false,vN] G4 fun I7 A0 H4 C2=>RG.nl [.bool false,vN,.bool false,vN] H4 fun J7 B0 I4 D2=>?_
 have R2:=Tt s3 (Tt C2 D2)
 refine AQ [.bool F1.fN.fc,Y3,.bool F1.fD.fc,Z3] I4 .t1 (o4 I (Ay (Ag G3 R2)) I (Ay (Ag H3 R2))) fun M7 J4 E2=>?_
 have k2:=Tt C2 (Tt D2 E2)
 refine AQ [.bool G1.fN.fc,b4,.bool G1.fD.fc,c4] J4 .hd (o4 I (Ay (Ag I3 k2)) I (Ay (Ag J3 k2))) fun P7 K4 Z1=>Aa<|Aj<|Ae<|Ah I<|Aa<|Av ?_
 have B3:=Tt R2 (Tt E2 Z1)
 obtain ⟨y7,G5,E5⟩:=ap h
 refine BP (α:=Nat × Bool × (Lb Int) × Bool × (Lb Int) × Bool × (Lb Int) × Bool × (Lb Int) × Vc × Vc × Vc × Vc) (fun ⟨D0,y0,p1,z0,q1,H0,d1,I0,g1,E0,F0,Q0,R0⟩=>[(4,vP j0),(5,vP p0),(8,vP d0),(7,g0),(9,vP A0),(10,vP B0),(11,vn D0)]) (fun ⟨D0,y0,p1,z0,q1,H0,d1,I0,g1,E0,F0,Q0,R0⟩=>[.cells B0 [.bool y0,E0,.bool z0,F0] 144,.cells A0 [.bool H0,Q0,.bool I0,R0] 144,.cells d0 [.bool c0.fN.fc,u0,.bool c0.fD.fc,v0] 144,rr w 158 Tc g0 s0.length t0,.cells p0 zL 34,.cells j0 zL 34]) (fun ⟨D0,y0,p1,z0,q1,H0,d1,I0,g1,E0,F0,Q0,R0⟩ X1=>Rep.R X1 (bl [.cells B0 [.bool y0,E0,.bool z0,F0] 144,.cells A0 [.bool H0,Q0,.bool I0,R0] 144,.cells d0 [.bool c0.fN.fc,u0,.bool c0.fD.fc,v0] 144,rr w 158 Tc g0 s0.length t0,.cells p0 zL 34,.cells j0 zL 34] ++ L) [E0] p1/\Rep.R X1 (bl [.cells B0 [.bool y0,E0,.bool z0,F0] 144,.cells A0 [.bool H0,Q0,.bool I0,R0] 144,.cells d0 [.bool c0.fN.fc,u0,.bool c0.fD.fc,v0] 144,rr w 158 Tc g0 s0.length t0,.cells p0 zL 34,.cells j0 zL 34] ++ L) [F0] q1/\Rep.R X1 (bl [.cells B0 [.bool y0,E0,.bool z0,F0] 144,.cells A0 [.bool H0,Q0,.bool I0,R0] 144,.cells d0 [.bool c0.fN.fc,u0,.bool c0.fD.fc,v0] 144,rr w 158 Tc g0 s0.length t0,.cells p0 zL 34,.cells j0 zL 34] ++ L) [Q0] d1/\Rep.R X1 (bl [.cells B0 [.bool y0,E0,.bool z0,F0] 144,.cells A0 [.bool H0,Q0,.bool I0,R0] 144,.cells d0 [.bool c0.fN.fc,u0,.bool c0.fD.fc,v0] 144,rr w 158 Tc g0 s0.length t0,.cells p0 zL 34,.cells j0 zL 34] ++ L) [R0] g1) (fun ⟨D0,y0,p1,z0,q1,H0,d1,I0,g1,E0,F0,Q0,R0⟩=>(D0,y0,p1,z0,q1,H0,d1,I0,g1)) (0,G1.fN.fc,G1.fN.fD,G1.fD.fc,G1.fD.fD,F1.fN.fc,F1.fN.fD,F1.fD.fc,F1.fD.fD,b4,c4,Y3,Z3) G5 K4 ⟨(Ag I3 (Tt k2 Z1)),(Ag J3 (Tt k2 Z1)),(Ag G3 B3),(Ag H3 B3)⟩ ?_
 rintro B6 ⟨D0,y0,p1,z0,q1,H0,d1,I0,g1,E0,F0,Q0,R0⟩ X1 D4 q0 u3 ⟨K3,M3,U2,V2⟩ h
 unfold bj_l1 at h
 try dsimp only at h
 refine Aj<|Ae<|Ac I<|Ac I ?_
 have u7:s0.length <= 4294967296:=St.rowLe (α:=Tc) q0 .t3
 obtain ⟨A6,H6,B5⟩:=St.rowV (α:=Tc) q0 .t3
 refine Ab (FV.lenV underlying150 I B5)<|Ab (AU (i:=D0) (j:=s0.length) I I)<|Aa<|AV I h (fun v4 h=>?_) (fun v4 h=>?_)
 refine Aq<|Aj<|Av<|Aj<|du 8 fun W0 k1=>Rv 0 W0 I k1 (fun _=>Al I)<|Rv 1 W0 I k1 (fun _=>Al I)<|bk h fun G0 V3 h=>?_
 have p2:=Tt q5 (Tt s5 (Tt s3 (Tt C2 (Tt D2 (Tt E2 (Tt Z1 u3))))))
 obtain ⟨q4,I6,j2,Q2,P6,H5,A3⟩:=BS (α:=Tc) q0 .t3 (AR y3 p2) V3
 obtain ⟨t4,J6,C5⟩:=BC (α:=Tc) q0 .t3 Q2
 obtain rfl:q4 = ⟨t4,0,none⟩:=by rw [C5] at j2; cases j2; rfl
 obtain ⟨k6,p6,q6,s6,rfl,I5,J5,K5,M5⟩:=df H5
 refine Rv 2 W0 I k1 (fun _=>Be 8 D0 I j2 I I Q2)<|Rv 3 W0 I k1 (fun _=>Bg 0 I)<|Rx 4 192 W0 I k1 (AN (cs:=[.bool G0.fm.fN.fc,k6,.bool G0.fm.fD.fc,p6]) I I (ac A3 0 4))<|Rx 5 192 W0 I k1 (Az I (q0.memA .t2))<|bk h fun u2 Y5 h=>RD.cq 6 127 128 (vI u2) W0 I k1 (bd 120) I (e2 I I) (fun p q=>ap_c n (q0.hL0 hL q) G0.fm (q0.kd I5 q) (q0.kd J5 q) c0 (q0.kd (Ag E3 p2) q) (q0.kd (Ag F3 p2) q) Y5) I<|Rv 7 W0 I k1 (fun _=>Bj I)<|AK (dk W0)<|Aj<|Ae<|Ac I<|Ab (FV.lss (i:=u2) (j:=0) I I)<|Aa<|MX.jf (α:=Bool × (Lb Int) × Bool × (Lb Int) × Vc × Vc) (fun ⟨J0,x1,K0,y1,M0,P0⟩=>[(4,vP j0),(5,vP p0),(8,vP d0),(7,g0),(9,vP A0),(10,vP B0),(11,vn D0),(12,vI u2)]) (fun ⟨J0,x1,K0,y1,M0,P0⟩=>[.cells B0 [.bool y0,E0,.bool z0,F0] 144,.cells A0 [.bool J0,M0,.bool K0,P0] 144,.cells d0 [.bool c0.fN.fc,u0,.bool c0.fD.fc,v0] 144,rr w 158 Tc g0 s0.length t0,.cells p0 zL 34,.cells j0 zL 34]) (fun ⟨J0,x1,K0,y1,M0,P0⟩ c3=>Rep.R c3 (bl [.cells B0 [.bool y0,E0,.bool z0,F0] 144,.cells A0 [.bool J0,M0,.bool K0,P0] 144,.cells d0 [.bool c0.fN.fc,u0,.bool c0.fD.fc,v0] 144,rr w 158 Tc g0 s0.length t0,.cells p0 zL 34,.cells j0 zL 34] ++ L) [M0] x1/\Rep.R c3 (bl [.cells B0 [.bool y0,E0,.bool z0,F0] 144,.cells A0 [.bool J0,M0,.bool K0,P0] 144,.cells d0 [.bool c0.fN.fc,u0,.bool c0.fD.fc,v0] 144,rr w 158 Tc g0 s0.length t0,.cells p0 zL 34,.cells j0 zL 34] ++ L) [P0] y1) (fun ⟨J0,x1,K0,y1,M0,P0⟩=>(J0,x1,K0,y1)) q0 h ?_ ?_
 rintro ⟨J0,x1,K0,y1,M0,P0⟩ c3 J1 b2 ⟨P5,Q5⟩ h
 try dsimp only at h
 refine Ae<|Ac I<|Ab (FV.eql (i:=u2) (j:=0) I I)<|Aa<|MX.jf (α:=Bool × (Lb Int) × Bool × (Lb Int) × Vc × Vc) (fun ⟨Y0,z1,Z0,A1,b1,c1⟩=>[(4,vP j0),(5,vP p0),(8,vP d0),(7,g0),(9,vP A0),(10,vP B0),(11,vn D0)]) (fun ⟨Y0,z1,Z0,A1,b1,c1⟩=>[.cells B0 [.bool Y0,b1,.bool Z0,c1] 144,.cells A0 [.bool J0,M0,.bool K0,P0] 144,.cells d0 [.bool c0.fN.fc,u0,.bool c0.fD.fc,v0] 144,rr w 158 Tc g0 s0.length t0,.cells p0 zL 34,.cells j0 zL 34]) (fun ⟨Y0,z1,Z0,A1,b1,c1⟩ d3=>Rep.R d3 (bl [.cells B0 [.bool Y0,b1,.bool Z0,c1] 144,.cells A0 [.bool J0,M0,.bool K0,P0] 144,.cells d0 [.bool c0.fN.fc,u0,.bool c0.fD.fc,v0] 144,rr w 158 Tc g0 s0.length t0,.cells p0 zL 34,.cells j0 zL 34] ++ L) [b1] z1/\Rep.R d3 (bl [.cells B0 [.bool Y0,b1,.bool Z0,c1] 144,.cells A0 [.bool J0,M0,.bool K0,P0] 144,.cells d0 [.bool c0.fN.fc,u0,.bool c0.fD.fc,v0] 144,rr w 158 Tc g0 s0.length t0,.cells p0 zL 34,.cells j0 zL 34] ++ L) [c1] A1) (fun ⟨Y0,z1,Z0,A1,b1,c1⟩=>(Y0,z1,Z0,A1)) J1 h ?_ ?_
 rintro ⟨Y0,z1,Z0,A1,b1,c1⟩ d3 P4 F2 ⟨R5,U5⟩ h
 try dsimp only at h
 refine Ax<|Am<|Ac I<|Ab (Bc (i:=D0) (j:=1) I I (by omega))<|Ah I<|Aa<|D4 (D0 + 1,Y0,z1,Z0,A1,J0,x1,K0,y1,b1,c1,M0,P0) P4 (Tt u3 (Tt b2 F2)) ⟨R5,U5,(Ag P5 F2),(Ag Q5 F2)⟩ h
 intro D6 j3 h
 try dsimp only at h
 refine AV I h (fun x4 h=>?_) (fun x4 h=>?_)
 refine Am<|Ac I<|Ac I ?_
 obtain ⟨s4,K6,P2,z3,Q6,V5,F5⟩:=BS (α:=Tc) J1 .t3 (AR y3 (Tt p2 b2)) V3
 obtain ⟨u4,M6,D5⟩:=BC (α:=Tc) J1 .t3 z3
 obtain rfl:s4 = ⟨u4,0,none⟩:=by rw [D5] at P2; cases P2; rfl
 obtain ⟨z7,A7,Z2,b3,rfl,v7,x7,P3,Q3⟩:=df V5
 refine Ab (Be 8 D0 I P2 I I z3)<|Bm 4 I<|Ab (AN (cs:=[.bool G0.fP.fN.fc,Z2,.bool G0.fP.fD.fc,b3]) I I (ac F5 4 4))<|AQ [.bool G0.fP.fN.fc,Z2,.bool G0.fP.fD.fc,b3] J1 .hd (o4 I (Ay P3) I (Ay Q3)) fun Q7 Q4 G2=>Aa<|j3 (G0.fP.fN.fc,G0.fP.fN.fD,G0.fP.fD.fc,G0.fP.fD.fD,Z2,b3) Q4 G2 ⟨(Ag P3 G2),(Ag Q3 G2)⟩ h
 refine Aq<|j3 (y0,p1,z0,q1,E0,F0) J1 (BM _ _) ⟨(Ag K3 b2),(Ag M3 b2)⟩ h
 intro C6 g3 h
 try dsimp only at h
 refine AV I h (fun y4 h=>?_) (fun y4 h=>?_)
 refine du 7 fun X0 E1=>Rx 0 192 X0 I E1 (Az I (q0.memA .t1))<|Rv 1 X0 I E1 (fun _=>Al I)<|Rv 2 X0 I E1 (fun _=>Al I)<|Rv 3 X0 I E1 (fun _=>Be 8 D0 I j2 I I Q2)<|Rv 4 X0 I E1 (fun _=>Bg 4 I)<|Rx 5 192 X0 I E1 (AN (cs:=[.bool G0.fP.fN.fc,q6,.bool G0.fP.fD.fc,s6]) I I (ac A3 4 4))<|bk h fun H1 Z5 h=>AX 6 127 X0 I .plain (bd 110) I (e2 I I) (fun p q=>aw_c n (q0.hL hL q) (⟨(⟨H0,d1⟩:Te),(⟨I0,g1⟩:Te)⟩:Tf) (Af U2 q) (Af V2 q) G0.fP (Af K5 q) (Af M5 q) Z5) I fun R7 D7 z5 ⟨d4,g4,hu_,R3,U3⟩=>?_
 subst hu_
 obtain ⟨R4,t5⟩:=q0.agr z5
 refine BB 7 255 X0 I I .plain (AC (news:=[.bool H1.fN.fc,d4,.bool H1.fD.fc,g4]) R4 .t1 I I I I I I (o4 I (Ay R3) I (Ay U3))) fun V7 U4 H2=>AK (dk X0)<|g3 (H1.fN.fc,H1.fN.fD,H1.fD.fc,H1.fD.fD,d4,g4) U4 (Tt t5 H2) ⟨(Ag R3 H2),(Ag U3 H2)⟩ h
 refine Aq<|g3 (H0,d1,I0,g1,Q0,R0) q0 (BM _ _) ⟨U2,V2⟩ h
 refine AZ I ?_
 have h:=E5 _ h
 try dsimp only at h
 refine Ae<|Ab (Az I (q0.memA .t1))<|bk h fun s1 b6 h=>Bd (.tuple #[.agg ((ab s1.1)).toArray,vI s1.2]) (bd 96) I (e1 I) (fun p q=>ay_c n (q0.hL0 hL q) (⟨(⟨H0,d1⟩:Te),(⟨I0,g1⟩:Te)⟩:Tf) (q0.kd U2 q) (q0.kd V2 q) b6) I<|Ac I<|Ab (Ai I I)<|Ab (Ai I I)<|RG.nl zL q0 fun W7 F6 V4 v3=>AQ (ab s1.1) V4 .hd (ai I) fun X7 K1 x3=>Ah I<|Aa<|Ae<|Ab (Az I (K1.memA .t1))<|bk h fun B1 c6 h=>Bd (.tuple #[.agg ((ab B1.1)).toArray,vI B1.2]) (bd 96) I (e1 I) (fun p q=>ay_c n (K1.hL0 hL q) (⟨(⟨y0,p1⟩:Te),(⟨z0,q1⟩:Te)⟩:Tf) (K1.kd (Ag K3 (Tt v3 x3)) q) (K1.kd (Ag M3 (Tt v3 x3)) q) c6) I<|Ac I<|Ab (Ai I I)<|Ab (Ai I I)<|RG.nl zL K1 fun Y7 G6 W4 W6=>AQ (ab B1.1) W4 .hd (ai I) fun Z7 u1 X6=>Ah I<|Aa<|Aj<|Ae<|Ac I<|Ab (BA (i:=s1.2) (j:=0) I I)<|Ac I<|RG.ifn (s:=74) I h (fun z4 h=>?_) (fun z4 h=>?_)
 refine AJ (Al I)<|AJ (BA (i:=B1.2) (j:=0) I I)<|Bs I I<|Aa<|BI I h (fun A4 h=>?_) (fun A4 h=>?_)
 refine Aq<|Aj<|du 2 fun V0 X3=>Rx 0 28 V0 I X3 (Az I (u1.memA .t1))<|RD.mo (α:=Unit) (fun ()=>[(4,vP j0),(5,vP p0),(81,.agg ((ab B1.1)).toArray)]) (fun ()=>[.cells p0 zL 34,.cells j0 (ab s1.1) 34]) u1 2 7 ?_ ?_
 rintro ⟨⟩ t8 X4 Z6
 try dsimp only
 refine BB 3 15 V0 I I .plain (AC (news:=(ab B1.1)) X4 .hd I I I I I I (ai I)) fun b8 x2 b7=>BK (i:=4) (rk V0) (BV (m' :=31) (sk V0) I .plain I (Bj I) ?_)
 refine AK (dk V0)<|Ar I<|Au hb0 func49 I (.cons (.many (cs:=(ab s1.1)) I I (x2.memA .t1)) (.cons (.many (cs:=(ab B1.1)) I I (x2.memA .hd)) (.cons (.tmp I) .nil))) I ?_
 cases h
 exact x2.gv
 intro k3
 refine BJ [1,2] (rk V0) ⟨?_,?_,trivial⟩
 refine BV (m' :=3) (sk V0) I .plain I (Az I (u1.memA .hd))<|BB 2 7 V0 I I .plain (AC (news:=(ab s1.1)) u1 .t7 I I I I I I (ai I)) fun v6 Y1 I2=>?_
 obtain ⟨Y4,u5⟩:=AB Y1 .d6
 exact k3 () Y4 (Tt I2 u5)
 refine RO.now (m' :=5) (sk V0) I I .plain (AC (news:=(ab s1.1)) u1 .t7 I I I I I I (ai I)) fun v6 Y1 I2=>Rx 1 24 V0 I X3 (Az I (Y1.memA .hd)) ?_
 obtain ⟨Z4,v5⟩:=AB Y1 .d6
 exact k3 () Z4 (Tt I2 v5)
 refine Ae<|Ab (AS (vs:=[]) (u:=.agg zM) am (fun p=>by kernel_rfl))<|Ab (AS (vs:=[]) (u:=.agg zM) am (fun p=>by kernel_rfl))<|AQ zL u1 .t7 (ai I) fun c8 b5 c7=>AQ zL b5 .t6 (ai I) fun d8 y2 d7=>Ah I<|Aa<|Ar I<|Au hb0 func49 I (.cons (.many (cs:=zL) I I (y2.memA .t7)) (.cons (.many (cs:=zL) I I (y2.memA .t6)) (.cons (.tmp I) .nil))) I ?_
 cases h
 exact y2.gv
 refine Ap<|Ap<|Bk I I<|Aa<|AG I<|Ae<|Ab (AS (vs:=[]) (u:=.agg zM) am (fun p=>by kernel_rfl))<|Ab (AS (vs:=[]) (u:=.agg zM) am (fun p=>by kernel_rfl))<|AQ zL u1 .t7 (ai I) fun g8 c5 g7=>AQ zL c5 .t6 (ai I) fun j8 z2 j7=>Ah I<|Aa<|Ar I<|Au hb0 func49 I (.cons (.many (cs:=zL) I I (z2.memA .t7)) (.cons (.many (cs:=zL) I I (z2.memA .t6)) (.cons (.tmp I) .nil))) I ?_
 cases h
 exact z2.gv
 intro v2
 refine BJ [1,4] (rk x0) ⟨?_,?_,trivial⟩
 refine BX (m' :=7) (fst:=[]) (cap:=[]) (sk x0) I .plain (bd 109) I (e1 I) (fun p q=>bK (b0:=w.heap.size) (aM_c n (C0.hL hL q) (C0.km h0_0 q) W3) q (Nat.le_trans C0.ag.size q.size)) I fun x6 q2 A5 ⟨u6,C1,W2,U1,M2⟩=>?_
 subst W2
 have j1:=ca C0 U1
 have d2:=dR C0 U1
 have g2:=AI (cs:=C1) (xs:=(s0:Lb Tc)) j1 L (bJ M2)
 refine BJ [3,4] (rk x0) ⟨?_,?_,trivial⟩
 refine BX (m' :=15) (fst:=[]) (cap:=[]) (sk x0) I .plain (bd 104) I (e1 I) (fun p q=>aG_c n (j1.hL hL q) a1 X2) I fun k4 j4 P1 ⟨V1,W1,hu_,Q1,R1⟩=>?_
 subst hu_
 obtain ⟨M1,D1⟩:=j1.agr P1
 refine RD.nu 4 31 x0 I .plain I (Aw [.bool false,vN,.bool false,vN] M1) fun p4 I1 U0 v1=>?_
 obtain ⟨d5,J2⟩:=AB U0 (.a0 (.a0 (.a0 (.a0 .done))))
 have C3:=Tt D1 (Tt v1 J2)
 exact v2 (V1,W1,I1,q2,C1) d5 (Tt d2 C3) ⟨(Ag Q1 (Tt v1 J2)),(Ag R1 (Tt v1 J2)),(AR g2 C3)⟩
 refine RO.new (m' :=23) (sk x0) I .plain I (Aw [.bool false,vN,.bool false,vN] j1) fun p4 I1 U0 v1=>AX 3 31 x0 I .plain (bd 104) I (e1 I) (fun p q=>aG_c n (U0.hL hL q) a1 X2) I fun k4 j4 P1 ⟨V1,W1,hu_,Q1,R1⟩=>?_
 subst hu_
 obtain ⟨M1,D1⟩:=U0.agr P1
 obtain ⟨g5,K2⟩:=AB M1 (.a0 (.a0 (.a0 (.a0 .done))))
 have D3:=Tt v1 (Tt D1 K2)
 exact v2 (V1,W1,I1,q2,C1) g5 (Tt d2 D3) ⟨(Ag Q1 K2),(Ag R1 K2),(AR g2 D3)⟩
 refine RO.new (m' :=21) (sk x0) I .plain I (Aw [.bool false,vN,.bool false,vN] C0) fun p4 I1 U0 v1=>AX 1 23 x0 I .plain (bd 109) I (e1 I) (fun p q=>bK (b0:=w.heap.size) (aM_c n (U0.hL hL q) (U0.km h0_0 q) W3) q (Nat.le_trans U0.ag.size q.size)) I fun x6 q2 A5 ⟨u6,C1,W2,U1,M2⟩=>?_
 subst W2
 have j1:=ca U0 U1
 have d2:=dR U0 U1
 have g2:=AI (cs:=C1) (xs:=(s0:Lb Tc)) j1 L (bJ M2)
 refine AX 3 31 x0 I .plain (bd 104) I (e1 I) (fun p q=>aG_c n (j1.hL hL q) a1 X2) I fun k4 j4 P1 ⟨V1,W1,hu_,Q1,R1⟩=>?_
 subst hu_
 obtain ⟨M1,D1⟩:=j1.agr P1
 obtain ⟨j5,c2⟩:=AB M1 (.a1 (.a0 (.a0 (.a0 .done))))
 exact v2 (V1,W1,I1,q2,C1) j5 (Tt v1 (Tt d2 (Tt D1 c2))) ⟨(Ag Q1 c2),(Ag R1 c2),(AR g2 (Tt D1 c2))⟩
 refine Ae<|Ab (AS (vs:=[]) (u:=.agg zM) am (fun p=>by kernel_rfl))<|Ab (AS (vs:=[]) (u:=.agg zM) am (fun p=>by kernel_rfl))<|AQ zL C0 .t1 (ai I) fun k8 k5 k7=>AQ zL k5 .hd (ai I) fun p8 A2 p7=>Ah I<|Aa<|Ar I<|Au hb0 func49 I (.cons (.many (cs:=zL) I I (A2.memA .t1)) (.cons (.many (cs:=zL) I I (A2.memA .hd)) (.cons (.tmp I) .nil))) I ?_
 cases h
 exact A2.gv
 refine Ae<|Ab (AS (vs:=[]) (u:=.agg zM) am (fun p=>by kernel_rfl))<|Ab (AS (vs:=[]) (u:=.agg zM) am (fun p=>by kernel_rfl))<|AQ zL C0 .t1 (ai I) fun q8 p5 q7=>AQ zL p5 .hd (ai I) fun s8 B2 s7=>Ah I<|Aa<|Ar I<|Au hb0 func49 I (.cons (.many (cs:=zL) I I (B2.memA .t1)) (.cons (.many (cs:=zL) I I (B2.memA .hd)) (.cons (.tmp I) .nil))) I ?_
 cases h
 exact B2.gv
def aT_l1 (n:Nat) (t0:Tf) (v0:Lb Tc) (q0:Int × Bool × (Lb Int) × Bool × (Lb Int) -> Oa Int):Int × Bool × (Lb Int) × Bool × (Lb Int) -> Oa Int
  | (p0,c0,j0,d0,k0)=>(ap_p n (⟨(⟨c0,j0⟩:Te),(⟨d0,k0⟩:Te)⟩:Tf) t0).bind fun u0=>(if u0 < 0 then (chk (p0 + 1)).bind fun g0=>(idx v0 g0).bind fun s0=>(aw_p n (⟨(⟨c0,j0⟩:Te),(⟨d0,k0⟩:Te)⟩:Tf) s0.fP).bind fun b0=>q0 (g0,b0.fN.fc,b0.fN.fD,b0.fD.fc,b0.fD.fD) else some p0)
def aT_p (n:Nat) (a0:Lb Ta) (a1:Tb):Oa (Tb × Int):=
  (aq_p n a0).bind fun g0=>(if g0 = true then (aJ_p n a1).bind fun j0=>(if j0 = true then (aG_p n a1).bind fun c0=>(al_p n).bind fun k0=>(ap_p n c0 k0).bind fun p0=>(if p0 <= 0 then some ((⟨(0,0,0,0,0,0,0,0),(0,0,0,0,0,0,0,0)⟩:Tb),(2:Int)) else (ce_p n).bind fun q0=>(ap_p n c0 q0).bind fun s0=>(if 0 < s0 then some ((⟨(0,0,0,0,0,0,0,0),(0,0,0,0,0,0,0,0)⟩:Tb),(2:Int)) else (aM_p n a0).bind fun t0=>(al_p n).bind fun b0=>Option.bind (ao (aT_l1 n c0 t0) n ((-1),b0.fN.fc,b0.fN.fD,b0.fD.fc,b0.fD.fD)) (fun u0=>(idx a0 u0).bind fun d0=>some (d0.fm,(0:Int))))) else some ((⟨(0,0,0,0,0,0,0,0),(0,0,0,0,0,0,0,0)⟩:Tb),(20:Int))) else some ((⟨(0,0,0,0,0,0,0,0),(0,0,0,0,0,0,0,0)⟩:Tb),(50:Int)))
theorem aT_c (n:Nat) {L w} (hL:hl L w) {a0:Lb Ta} {v0_0:Vc} (h0_0:Rep.R w L [v0_0] a0) (a1:Tb)  {r:Tb × Int} (h:aT_p n a0 a1 = some r) :
 Cl 50 #[v0_0,.agg ((ab a1)).toArray] w (aj w fun _ u=>u = .tuple #[.agg ((ab r.1)).toArray,vI r.2]):=by
 unfold aT_p at h
 refine AM func50 I I I fun _ cs0 hb0=>Ae<|RG.bx (AL w) I I fun Q4 X3 q2 g4=>RG.nl zL q2 fun U4 I0 t0 j4=>Ah I<|Aa<|Aj<|Ae<|Ac I<|bk h fun P3 z3 h=>Bd (.bool P3) (bd 101) I (e1 I) (fun p q=>aq_c n (t0.hL0 hL q) (t0.k0 h0_0 q) z3) I<|Ab (Bx I)<|Aa<|MX.ifnb I h (fun Z1 h=>?_) (fun Z1 h=>?_)
 refine Aq<|Aj<|Ae<|Ab (Az I (t0.memA .t1))<|bk h fun Q3 A3 h=>Bd (.bool Q3) (bd 114) I (e1 I) (fun p q=>aJ_c n (t0.hL0 hL q) a1 A3) I<|Ab (Bx I)<|Aa<|MX.ifnb I h (fun b2 h=>?_) (fun b2 h=>?_)
 refine Aq<|Ae<|Ab (Az I (t0.memA .t1))<|bk h fun j0 B3 h=>jE (bd 104) I (e1 I) (fun p q=>aG_c n (t0.hL hL q) a1 B3) I fun V4 H4 E2 ⟨Q0,R0,hu_,M0,P0⟩=>?_
 subst hu_
 obtain ⟨v2,k4⟩:=t0.agr E2
 refine RG.nl [.bool false,vN,.bool false,vN] v2 fun c5 J0 y2 d1=>AQ [.bool j0.fN.fc,Q0,.bool j0.fD.fc,R0] y2 .hd (o4 I (Ay (Ag M0 d1)) I (Ay (Ag P0 d1))) fun d5 W0 B2=>Aa<|Aj<|Aj<|du 10 fun d0 p0=>Rx 0 1020 d0 I p0 (Az I (W0.memA .hd))<|bk h fun R3 E3 h=>AX 1 3 d0 I .plain (bd 116) I am (fun p q=>al_c n (W0.hL hL q)  E3) I fun g5 J4 G2 ⟨C4,D4,hu_,g3,j3⟩=>?_
 subst hu_
 obtain ⟨u0,C2⟩:=W0.agr G2
 refine bk h fun V1 F3 h=>?_
 have G0:=Tt d1 (Tt B2 C2)
 refine RD.cq 2 7 1016 (vI V1) d0 I p0 (bd 120) I (e2 I I) (fun p q=>ap_c n (u0.hL0 hL q) j0 (u0.kd (Ag M0 G0) q) (u0.kd (Ag P0 G0) q) R3 (u0.kd g3 q) (u0.kd j3 q) F3) I<|Rv 3 d0 I p0 (fun _=>FV.leq (i:=V1) (j:=0) I I)<|Rv 4 d0 I p0 (fun _=>Al I)<|RD.ifd (s:=24) I h (fun d2 h=>?_) (fun d2 h=>?_)
 refine BF 511 1 [(5,25),(6,26),(7,27),(8,28)] (F:=[(24,true)]) (U:=[]) d0 p0 (.cons I .nil) .nil ?_
 dsimp only [aO,List.map]
 refine Rv 9 d0 I p0 (fun _=>BT I I)<|AK (dk d0)<|AG I<|Ae<|Ab (AS (vs:=[]) (u:=.agg zM) am (fun p=>by kernel_rfl))<|AQ zL u0 .t1 (ai I) fun j5 x1 t4=>Ah I<|Aa<|Ar I<|Au hb0 func50 I (.cons (.many (cs:=zL) I I (x1.memA .t1)) (.cons (.tmp I) .nil)) I ?_
 cases h
 exact x1.gv
 refine RD.val (i:=5) (m' :=63) (W:=896) (tk d0) I p0 (.yes I I) (Az I (u0.memA .hd)) I<|bk h fun U3 G3 h=>AX 6 127 d0 I (.yes I I) (bd 121) I am (fun p q=>ce_c n (u0.hL hL q)  G3) I fun k5 K4 H2 ⟨E4,F4,hu_,k3,p3⟩=>?_
 subst hu_
 obtain ⟨g0,g1⟩:=u0.agr H2
 refine bk h fun W1 H3 h=>RD.callq (i:=7) (m' :=255) (W:=768) (tk d0) I p0 (v:=vI W1) (fst:=[]) (cap:=[]) (.yes I I) (bd 120) I (e2 I I) (fun p q=>ap_c n (g0.hL0 hL q) j0 (g0.kd (Ag M0 (Tt G0 g1)) q) (g0.kd (Ag P0 (Tt G0 g1)) q) U3 (g0.kd k3 q) (g0.kd p3 q) H3) I<|BR 8 511 d0 I p0 (.yes I I) (fun _=>FV.gtr (i:=W1) (j:=0) I I) I<|Rv 9 d0 I p0 (fun _=>Br I I)<|AK (dk d0)<|AV I h (fun g2 h=>?_) (fun g2 h=>?_)
 refine Ae<|Ab (AS (vs:=[]) (u:=.agg zM) am (fun p=>by kernel_rfl))<|AQ zL g0 .t1 (ai I) fun p5 y1 u4=>Ah I<|Aa<|Ar I<|Au hb0 func50 I (.cons (.many (cs:=zL) I I (y1.memA .t1)) (.cons (.tmp I) .nil)) I ?_
 cases h
 exact y1.gv
 refine Aq<|Ae<|Ac I<|bk h fun V0 I3 h=>jE (bd 109) I (e1 I) (fun p q=>bK (b0:=w.heap.size) (aM_c n (g0.hL hL q) (g0.km h0_0 q) I3) q (Nat.le_trans g0.ag.size q.size)) I fun q5 U0 v4 ⟨G4,K0,s3,K1,J2⟩=>?_
 subst s3
 have X0:=ca g0 K1
 have D2:=dR g0 K1
 have K2:=AI (cs:=K0) (xs:=(V0:Lb Tc)) X0 L (bJ J2)
 refine bk h fun E0 J3 h=>jE (bd 116) I am (fun p q=>al_c n (X0.hL hL q)  J3) I fun s5 M4 I2 ⟨M1,P1,hu_,D1,E1⟩=>?_
 subst hu_
 obtain ⟨z2,z1⟩:=X0.agr I2
 refine RG.nl [.bool false,vN,.bool false,vN] z2 fun P4 H0 k2 F0=>Ah I<|AQ [.bool E0.fN.fc,M1,.bool E0.fD.fc,P1] k2 .hd (o4 I (Ay (Ag D1 F0)) I (Ay (Ag E1 F0))) fun R4 p2 Y0=>Ah I<|Aa<|Aj<|Av ?_
 obtain ⟨s2,Z0⟩:=AB p2 (.a0 (.a0 (.a0 (.a0 .done))))
 have B1:=Tt F0 (Tt Y0 Z0)
 obtain ⟨z4,Y2,Q2⟩:=ap h
 refine BP (α:=Int × Bool × (Lb Int) × Bool × (Lb Int) × Vc × Vc) (fun ⟨B0,q0,z0,s0,A0,x0,y0⟩=>[(0,v0_0),(4,vP I0),(6,vP J0),(8,vP H0),(7,U0),(9,vI B0)]) (fun ⟨B0,q0,z0,s0,A0,x0,y0⟩=>[.cells H0 [.bool q0,x0,.bool s0,y0] 144,rr w 158 Tc U0 V0.length K0,.cells J0 [.bool j0.fN.fc,Q0,.bool j0.fD.fc,R0] 144,.cells I0 zL 34]) (fun ⟨B0,q0,z0,s0,A0,x0,y0⟩ k1=>Rep.R k1 (bl [.cells H0 [.bool q0,x0,.bool s0,y0] 144,rr w 158 Tc U0 V0.length K0,.cells J0 [.bool j0.fN.fc,Q0,.bool j0.fD.fc,R0] 144,.cells I0 zL 34] ++ L) [x0] z0/\Rep.R k1 (bl [.cells H0 [.bool q0,x0,.bool s0,y0] 144,rr w 158 Tc U0 V0.length K0,.cells J0 [.bool j0.fN.fc,Q0,.bool j0.fD.fc,R0] 144,.cells I0 zL 34] ++ L) [y0] A0) (fun ⟨B0,q0,z0,s0,A0,x0,y0⟩=>(B0,q0,z0,s0,A0)) ((-1),E0.fN.fc,E0.fN.fD,E0.fD.fc,E0.fD.fD,M1,P1) Y2 s2 ⟨(Ag D1 B1),(Ag E1 B1)⟩ ?_
 rintro W3 ⟨B0,q0,z0,s0,A0,x0,y0⟩ k1 j2 c0 b1 ⟨F1,G1⟩ h
 unfold aT_l1 at h
 try dsimp only at h
 refine Aj<|Ae<|Ab (Az I (c0.memA .hd))<|Ab (Az I (c0.memA .t2))<|bk h fun U1 C3 h=>?_
 have C1:=Tt G0 (Tt g1 (Tt D2 (Tt z1 (Tt F0 (Tt Y0 (Tt Z0 b1))))))
 refine Bd (vI U1) (bd 120) I (e2 I I) (fun p q=>ap_c n (c0.hL0 hL q) (⟨(⟨q0,z0⟩:Te),(⟨s0,A0⟩:Te)⟩:Tf) (c0.kd F1 q) (c0.kd G1 q) j0 (c0.kd (Ag M0 C1) q) (c0.kd (Ag P0 C1) q) C3) I<|Ab (FV.lss (i:=U1) (j:=0) I I)<|Aa<|AV I h (fun c2 h=>?_) (fun c2 h=>?_)
 refine Aq<|Av<|Ae<|Ac I<|bk h fun J1 q3 h=>Ab (FV.addc (i:=B0) (j:=1) I I q3)<|Ah I<|Aa<|du 7 fun v0 C0=>Rx 0 192 v0 I C0 (Az I (c0.memA .hd))<|Rv 1 v0 I C0 (fun _=>Al I)<|Rv 2 v0 I C0 (fun _=>Al I)<|bk h fun p1 u3 h=>?_
 obtain ⟨R2,v3⟩:=aR u3
 obtain ⟨X1,Y3,j1,A1,c4,Z2,W2⟩:=BS (α:=Tc) c0 .t1 (AR K2 (Tt z1 (Tt F0 (Tt Y0 (Tt Z0 b1))))) v3
 obtain ⟨Y1,Z3,M2⟩:=BC (α:=Tc) c0 .t1 A1
 obtain rfl:X1 = ⟨Y1,0,none⟩:=by rw [M2] at j1; cases j1; rfl
 obtain ⟨A4,B4,K3,M3,rfl,x4,y4,b3,c3⟩:=df Z2
 refine Rv 3 v0 I C0 (fun _=>Be 8 (J1.toNat) I j1 I R2 A1)<|Rv 4 v0 I C0 (fun _=>Bg 4 I)<|Rx 5 192 v0 I C0 (AN (cs:=[.bool p1.fP.fN.fc,K3,.bool p1.fP.fD.fc,M3]) I I (ac W2 4 4))<|bk h fun D0 D3 h=>AX 6 127 v0 I .plain (bd 110) I (e2 I I) (fun p q=>aw_c n (c0.hL hL q) (⟨(⟨q0,z0⟩:Te),(⟨s0,A0⟩:Te)⟩:Tf) (Af F1 q) (Af G1 q) p1.fP (Af b3 q) (Af c3 q) D3) I fun W4 I4 F2 ⟨Q1,R1,hu_,H1,I1⟩=>?_
 subst hu_
 obtain ⟨u2,A2⟩:=c0.agr F2
 refine BB 7 255 v0 I I .plain (AC (news:=[.bool D0.fN.fc,Q1,.bool D0.fD.fc,R1]) u2 .hd I I I I I I (o4 I (Ay H1) I (Ay I1))) fun X4 x2 c1=>AK (dk v0)<|Ax<|j2 (J1,D0.fN.fc,D0.fN.fD,D0.fD.fc,D0.fD.fD,Q1,R1) x2 (Tt b1 (Tt A2 c1)) ⟨(Ag H1 c1),(Ag I1 c1)⟩ h
 refine AZ I ?_
 have h:=Q2 _ h
 try dsimp only at h
 refine Ae<|Ac I<|Ac I<|bk h fun q1 x3 h=>?_
 obtain ⟨U2,y3⟩:=aR x3
 obtain ⟨V3,b4,P2,V2,d4,d3,X2⟩:=Bh (AH h0_0 c0) y3
 obtain rfl:=aF d3
 refine Ab (Be 32 (B0.toNat) I P2 I U2 V2)<|Bm 0 I<|Ab (AN (cs:=(ab q1.fm)) I I (ac X2 0 16))<|AQ (ab q1.fm) c0 .t3 (ai I) fun Y4 s1 p4=>Ah I<|Aa<|Ar I<|Au hb0 func50 I (.cons (.many (cs:=(ab q1.fm)) I I (s1.memA .t3)) (.cons (.tmp I) .nil)) I ?_
 cases h
 exact s1.gv
 refine Ae<|Ab (AS (vs:=[]) (u:=.agg zM) am (fun p=>by kernel_rfl))<|AQ zL t0 .hd (ai I) fun Z4 u1 q4=>Ah I<|Aa<|Ar I<|Au hb0 func50 I (.cons (.many (cs:=zL) I I (u1.memA .hd)) (.cons (.tmp I) .nil)) I ?_
 cases h
 exact u1.gv
 refine Ae<|Ab (AS (vs:=[]) (u:=.agg zM) am (fun p=>by kernel_rfl))<|AQ zL t0 .hd (ai I) fun b5 v1 s4=>Ah I<|Aa<|Ar I<|Au hb0 func50 I (.cons (.many (cs:=zL) I I (v1.memA .hd)) (.cons (.tmp I) .nil)) I ?_
 cases h
 exact v1.gv
def ah_l1 (n:Nat) (k0:Lb Tb) (c0:Lb Ta) (s0:Nat -> Oa ((Bool ⊕ Unit) ⊕ Unit)):Nat -> Oa ((Bool ⊕ Unit) ⊕ Unit)
  | d0=>(if d0 < k0.length then (k0[d0]?).bind fun b0=>(bR_p n c0 b0).bind fun g0=>(bj_p n c0 b0).bind fun j0=>(bb_p n c0 b0).bind fun p0=>(aT_p n c0 b0).bind fun q0=>(if g0.1 = j0.1 then (if g0.2.1 = j0.2.1 then (if g0.2.2 = j0.2.2 then (if p0.1 = q0.1 then (if p0.2 = q0.2 then s0 (d0 + 1) else some (.inl (.inl false))) else some (.inl (.inl false))) else some (.inl (.inl false))) else some (.inl (.inl false))) else some (.inl (.inl false))) else some (.inr ()))
def ah_l2 (_n:Nat) (g0:Lb Ta) (j0:Nat × (Lb Tb) -> Oa (Lb Tb)):Nat × (Lb Tb) -> Oa (Lb Tb)
  | (b0,d0)=>(if b0 < g0.length then (g0[b0]?).bind fun c0=>(app d0 ([c0.fm,c0.fP]:Lb Tb)).bind fun k0=>j0 (b0 + 1,k0) else some d0)
def ah_l3 (n:Nat) (g0:(Lb Ta) × (Lb Ta) × (Lb Ta)) (a2:Ti) (a4:Th) (a3:Tl) (u0:Nat -> Oa (Bool ⊕ Unit)):Nat -> Oa (Bool ⊕ Unit)
  | d0=>(if d0 < 3 then (([g0.1,g0.2.1,g0.2.2]:Lb (Lb Ta))[d0]?).bind fun b0=>(bZ_p n b0).bind fun j0=>(ct_p n b0).bind fun k0=>(ba_p n b0).bind fun p0=>(aS_p n b0).bind fun q0=>(am_p n a2).bind fun y0=>(aQ_p n b0 y0).bind fun s0=>(am_p n a2).bind fun z0=>(ae_p n b0 z0).bind fun t0=>jn (fun v0=>(if v0 = true then some (.inl false) else (bz_p n a4).bind fun A0=>(bQ_p n a4).bind fun B0=>Option.bind (ao (ah_l2 n b0) n (0,([a3.fA,A0,B0]:Lb Tb))) (fun x0=>thn (ao (ah_l1 n x0 b0) n 0) (fun _=>u0 (d0 + 1))))) (fun c0=>(if j0.1 = k0.1 then (if j0.2 = k0.2 then (if p0.1 = q0.1 then (if p0.2 = q0.2 then (if s0.1 = t0.1 then c0 (!(decide (s0.2 = t0.2))) else c0 true) else c0 true) else c0 true) else c0 true) else c0 true)) else some (.inr ()))
def ah_p (n:Nat) (a0:Lb Ta) (a1:Ti) (a2:Ti) (a3:Tl) (a4:Th):Oa Bool:=
  (cD_p n).bind fun b0=>(if b0 = true then (cC_p n a0 a1 a3).bind fun c0=>thn (ao (ah_l3 n c0 a2 a4 a3) n 0) (fun _=>some true) else some false)
theorem ah_c (n:Nat) {L w} (hL:hl L w) {a0:Lb Ta} {v0_0:Vc} (h0_0:Rep.R w L [v0_0] a0) (a1:Ti) {v1_0:Vc} (h1_0:Rep.R w L [v1_0] a1.fL) (a2:Ti) {v2_0:Vc} (h2_0:Rep.R w L [v2_0] a2.fL) (a3:Tl) (a4:Th) {v4_1:Vc} (h4_1:Rep.R w L [v4_1] a4.fN.fBits) {v4_4:Vc} (h4_4:Rep.R w L [v4_4] a4.fD.fBits)  {r:Bool} (h:ah_p n a0 a1 a2 a3 a4 = some r) :
 Cl 6 #[v0_0,.agg #[v1_0],.agg #[v2_0],.agg ((gP a3)).toArray,.agg #[.bool a4.fN.fc,v4_1,.int .u32 (a4.fN.fo.toNat:Int),.bool a4.fD.fc,v4_4,.int .u32 (a4.fD.fo.toNat:Int)]] w (aj w fun _ u=>u = .bool r):=by
 unfold ah_p at h
 refine AM func6 I I I fun _ cs0 hb0=>Ae<|RG.bx (AL w) I I fun D7 A6 u3 c7=>RG.bx u3 I I fun E7 y0 v3 g7=>RG.bx v3 I I fun F7 z0 x3 j7=>RG.bx x3 I I fun G7 A0 F0 k7=>Ah I<|Aa<|Aj<|Ae<|bk h fun q6 I5 h=>Bd (.bool q6) (bd 12) I am (fun p q=>cD_c n (F0.hL0 hL q)  I5) I<|Ab (Bx I)<|Aa<|MX.ifnb I h (fun M2 h=>?_) (fun M2 h=>?_)
 refine Aq<|Aj<|Ae<|Ac I<|Ab (Az I (F0.memA .t3))<|Ab (Az I (F0.memA .t1))<|bk h fun Q1 J5 h=>jE (bd 40) I (e3 I I I) (fun p q=>cC_c n (F0.hL hL q) (F0.km h0_0 q) a1 (F0.km h1_0 q) a3 J5) I fun H7 A7 Y4 ⟨Y0,Z0,b1,hu_,y5,z5,A5⟩=>?_
 subst hu_
 obtain ⟨y3,p7⟩:=F0.agr Y4
 refine Ac I<|Aa<|Av ?_
 obtain ⟨z3,M1⟩:=AB y3 (.a0 (.a0 (.a0 .done)))
 refine tn h fun u7 u5 G0=>MX.lo (α:=Nat) (fun t0=>[(7,vP y0),(8,vP z0),(9,vP A0),(45,.agg #[Y0,Z0,b1]),(46,vn t0)]) (fun t0=>[.cells A0 [.bool a4.fN.fc,v4_1,.int .u32 (a4.fN.fo.toNat:Int),.bool a4.fD.fc,v4_4,.int .u32 (a4.fD.fo.toNat:Int)] 79,.cells z0 (gP a3) 62,.cells y0 [v2_0] 66]) (fun t0=>t0) 0 u5 z3 ?_
 rintro v6 t0 F8 p3 g1 A1 h
 unfold ah_l3 at h
 try dsimp only at h
 refine Ae<|Ab (AU (i:=t0) (j:=3) I I)<|Aa<|Aj<|AV I h (fun P2 h=>?_) (fun P2 h=>?_)
 refine Aq<|Aj<|Av<|Ae<|bk h fun F1 j6 h=>RG.valE .plain I (FV.idxRS (css:=[[Y0],[Z0],[b1]]) (xss:=([Q1.1,Q1.2.1,Q1.2.2]:Lb (Lb Ta))) (len:=3) I I I I I I I (.cons (Ag y5 (Tt M1 A1)) (.cons (Ag z5 (Tt M1 A1)) (.cons (Ag A5 (Tt M1 A1)) .nil))) j6) fun E1 j0=>Ah I<|Aa<|Ae<|Ac I<|bk h fun P0 K5 h=>Bd (.tuple #[.agg ((ab P0.1)).toArray,vI P0.2]) (bd 19) I (e1 I) (fun p q=>bZ_c n (g1.hL0 hL q) (g1.kd j0 q) K5) I<|Ac I<|Ab (Ai I I)<|Ab (Ai I I)<|RG.nl zL g1 fun I7 B6 A3 U1=>AQ (ab P0.1) A3 .hd (ai I) fun J7 G1 V1=>Ah I<|Aa<|Ae<|Ac I<|bk h fun Q0 M5 h=>Bd (.tuple #[.agg ((ab Q0.1)).toArray,vI Q0.2]) (bd 45) I (e1 I) (fun p q=>ct_c n (G1.hL0 hL q) (G1.kd (Ag j0 (Tt U1 V1)) q) M5) I<|Ac I<|Ab (Ai I I)<|Ab (Ai I I)<|RG.nl zL G1 fun K7 C6 B3 k4=>AQ (ab Q0.1) B3 .hd (ai I) fun M7 H1 p4=>Ah I<|Aa<|Ae<|Ac I<|bk h fun R0 P5 h=>?_
 have z2:=Tt U1 (Tt V1 (Tt k4 p4))
 refine Bd (.tuple #[.agg ((ab R0.1)).toArray,vI R0.2]) (bd 20) I (e1 I) (fun p q=>ba_c n (H1.hL0 hL q) (H1.kd (Ag j0 z2) q) P5) I<|Ac I<|Ab (Ai I I)<|Ab (Ai I I)<|RG.nl zL H1 fun P7 D6 C3 q4=>AQ (ab R0.1) C3 .hd (ai I) fun Q7 I1 s4=>Ah I<|Aa<|Ae<|Ac I<|bk h fun U0 Q5 h=>?_
 have A2:=Tt z2 (Tt q4 s4)
 refine Bd (.tuple #[.agg ((ab U0.1)).toArray,vI U0.2]) (bd 46) I (e1 I) (fun p q=>aS_c n (I1.hL0 hL q) (I1.kd (Ag j0 A2) q) Q5) I<|Ac I<|Ab (Ai I I)<|Ab (Ai I I)<|RG.nl zL I1 fun R7 E6 D3 u4=>AQ (ab U0.1) D3 .hd (ai I) fun U7 j1 v4=>Ah I<|Aa<|Ae<|Ac I<|Ab (Az I (j1.memA .t6))<|bk h fun I8 R5 h=>jE (bd 33) I (e1 I) (fun p q=>am_c n (j1.hL hL q) a2 (j1.km h2_0 q) R5) I fun V7 B7 Z4 ⟨y7,hu_,B5⟩=>?_
 subst hu_
 obtain ⟨k1,x4⟩:=j1.agr Z4
 refine bk h fun I0 U5 h=>?_
 have B2:=Tt A2 (Tt u4 (Tt v4 x4))
 refine Bd (.tuple #[.agg ((ab I0.1)).toArray,vI I0.2]) (bd 25) I (e2 I I) (fun p q=>aQ_c n (k1.hL0 hL q) (k1.kd (Ag j0 B2) q) (k1.kd B5 q) U5) I<|Ac I<|Ab (Ai I I)<|Ab (Ai I I)<|RG.nl zL k1 fun W7 F6 E3 y4=>AQ (ab I0.1) E3 .hd (ai I) fun X7 p1 z4=>Ah I<|Aa<|Ae<|Ac I<|Ab (Az I (p1.memA .t7))<|bk h fun J8 V5 h=>jE (bd 33) I (e1 I) (fun p q=>am_c n (p1.hL hL q) a2 (p1.km h2_0 q) V5) I fun Y7 C7 b5 ⟨z7,hu_,C5⟩=>?_
 subst hu_
 obtain ⟨q1,A4⟩:=p1.agr b5
 refine bk h fun J0 W5 h=>?_
 have C2:=Tt B2 (Tt y4 (Tt z4 A4))
 refine Bd (.tuple #[.agg ((ab J0.1)).toArray,vI J0.2]) (bd 47) I (e2 I I) (fun p q=>ae_c n (q1.hL0 hL q) (q1.kd (Ag j0 C2) q) (q1.kd C5 q) W5) I<|Ac I<|Ab (Ai I I)<|Ab (Ai I I)<|RG.nl zL q1 fun Z7 G6 F3 B4=>AQ (ab J0.1) F3 .hd (ai I) fun b8 c0 C4=>Ah I<|Aa<|Aj<|Aj<|MX.jo (α:=Bool) (fun X0=>[(7,vP y0),(8,vP z0),(9,vP A0),(45,.agg #[Y0,Z0,b1]),(46,vn t0),(12,E1),(110,.bool X0)]) (fun X0=>[.cells A0 [.bool a4.fN.fc,v4_1,.int .u32 (a4.fN.fo.toNat:Int),.bool a4.fD.fc,v4_4,.int .u32 (a4.fD.fo.toNat:Int)] 79,.cells z0 (gP a3) 62,.cells y0 [v2_0] 66]) (fun X0=>X0) c0 h ?_ ?_
 rintro X0 G8 s0 D4 h
 try dsimp only at h
 refine MX.ifb I h (fun Q2 h=>?_) (fun Q2 h=>?_)
 refine Ae<|Ah I<|Aa ?_
 have h:=aH h G0
 refine Ar I<|Bb hb0 func6 I I ?_
 cases h
 exact s0.gv
 refine Aq<|Aj<|du 8 fun C0 H0=>Rv 0 C0 I H0 (fun _=>Bg 2 I)<|Rx 1 192 C0 I H0 (AN (cs:=(ab a3.fA)) I I (ac (s0.memA .t1) 2 16))<|Rx 2 232 C0 I H0 (Az I (s0.memA .hd))<|bk h fun q0 X5 h=>RD.cq 3 15 224 (.agg ((ab q0)).toArray) C0 I H0 (bd 42) I (e1 I) (fun p q=>bz_c n (s0.hL0 hL q) a4 (s0.k0 h4_1 q) (s0.k0 h4_4 q) X5) I<|Rx 4 224 C0 I H0 (Az I (s0.memA .hd))<|bk h fun d0 Y5 h=>RD.cq 5 63 192 (.agg ((ab d0)).toArray) C0 I H0 (bd 48) I (e1 I) (fun p q=>bQ_c n (s0.hL0 hL q) a4 (s0.k0 h4_1 q) (s0.k0 h4_4 q) Y5) I<|RD.nu 6 127 C0 I .plain I (AW (α:=Tb) (xs:=([a3.fA,q0,d0]:Lb Tb)) (vs:=[.agg ((ab a3.fA)).toArray,.agg ((ab q0)).toArray,.agg ((ab d0)).toArray]) (ds' :=(ab a3.fA ++ ab q0 ++ ab d0)) I s0 gA I (e3 I I I) (by kernel_rfl) I) fun c8 J2 R1 E4=>Rv 7 C0 I H0 (fun _=>Bj I)<|AK (dk C0)<|Aj<|Ae<|Ac I ?_
 have D1:=Tt C2 (Tt B4 (Tt C4 (Tt D4 E4)))
 have y2:=Ag j0 D1
 have q7:=AY y2
 refine Ab (Ba (xs:=F1) underlying24 I y2)<|Ac I<|Aa<|Av ?_
 obtain ⟨v7,v5,k5⟩:=ap h
 refine BP (α:=Nat × (Lb Tb) × Vc × (Lb Vc)) (fun ⟨u0,p0,D0,E0⟩=>[(7,vP y0),(8,vP z0),(9,vP A0),(45,.agg #[Y0,Z0,b1]),(46,vn t0),(12,E1),(25,D0),(118,E1),(119,vn F1.length),(120,vn u0)]) (fun ⟨u0,p0,D0,E0⟩=>[rr w 34 Tb D0 p0.length E0,.cells A0 [.bool a4.fN.fc,v4_1,.int .u32 (a4.fN.fo.toNat:Int),.bool a4.fD.fc,v4_4,.int .u32 (a4.fD.fo.toNat:Int)] 79,.cells z0 (gP a3) 62,.cells y0 [v2_0] 66]) (fun ⟨u0,p0,D0,E0⟩ H2=>Cells H2 (bl [rr w 34 Tb D0 p0.length E0,.cells A0 [.bool a4.fN.fc,v4_1,.int .u32 (a4.fN.fo.toNat:Int),.bool a4.fD.fc,v4_4,.int .u32 (a4.fD.fo.toNat:Int)] 79,.cells z0 (gP a3) 62,.cells y0 [v2_0] 66] ++ L) E0 p0) (fun ⟨u0,p0,D0,E0⟩=>(u0,p0)) (0,([a3.fA,q0,d0]:Lb Tb),(vS J2 3),(ab a3.fA ++ ab q0 ++ ab d0)) v5 R1 (AI (cs:=(ab a3.fA ++ ab q0 ++ ab d0)) (xs:=(([a3.fA,q0,d0]:Lb Tb):Lb Tb)) R1 L (AE (cs:=(ab a3.fA)) (ds:=(ab q0 ++ ab d0)) (ci a3.fA.fN a3.fA.fD) (AE (cs:=(ab q0)) (ds:=(ab d0)) (ci q0.fN q0.fD) (AE (cs:=(ab d0)) (ds:=[]) (ci d0.fN d0.fD) (AT _ _))))) ?_
 rintro y6 ⟨u0,p0,D0,E0⟩ H2 q3 s1 B1 v2 h
 unfold ah_l2 at h
 try dsimp only at h
 refine Ae<|Ab (AU (i:=u0) (j:=F1.length) I I)<|Aa<|Aj<|AV I h (fun R2 h=>?_) (fun R2 h=>?_)
 refine Aq<|Aj<|Av<|Ae<|bk h fun b0 F5 h=>?_
 obtain ⟨s6,V6,d5,p5,Z6,D5,q5⟩:=Bh (Ag j0 (Tt D1 B1)) F5
 obtain rfl:=aF D5
 refine Ab (Be 32 u0 I d5 I I p5)<|Ab (Az I q5)<|RG.nl [vW 0,vW 0,vW 0,vW 0,vW 0,vW 0,vW 0,vW 0,vW 0,vW 0,vW 0,vW 0,vW 0,vW 0,vW 0,vW 0,vW 0,vW 0,vW 0,vW 0,vW 0,vW 0,vW 0,vW 0,vW 0,vW 0,vW 0,vW 0,vW 0,vW 0,vW 0,vW 0] s1 fun d8 H6 G3 F4=>AQ (av b0) G3 .hd (ai I) fun g8 J1 G4=>Aa<|Am<|Ac I<|Bm 0 I<|Ab (AN (cs:=(ab b0.fm)) I I (ac (J1.memA .hd) 0 16))<|Bm 16 I<|Ab (AN (cs:=(ab b0.fP)) I I (ac (J1.memA .hd) 16 16))<|Ao .plain I (AW (α:=Tb) (xs:=([b0.fm,b0.fP]:Lb Tb)) (vs:=[.agg ((ab b0.fm)).toArray,.agg ((ab b0.fP)).toArray]) (ds' :=(av b0)) I J1 gA I (e2 I I) (by kernel_rfl) I) fun j8 I6 K1 H4=>bk h fun p6 H5 h=>?_
 have D2:=Tt F4 (Tt G4 H4)
 refine BD .plain I (Bn (α:=Tb) (ys:=([b0.fm,b0.fP]:Lb Tb)) H5 K1 (fun _ _=>.t2) gA I I (AR v2 D2) (BH (α:=Tb) K1 .hd (AI (cs:=(av b0)) (xs:=(([b0.fm,b0.fP]:Lb Tb):Lb Tb)) K1 L (AE (cs:=(ab b0.fm)) (ds:=(ab b0.fP)) (ci b0.fm.fN b0.fm.fD) (AE (cs:=(ab b0.fP)) (ds:=[]) (ci b0.fP.fN b0.fP.fD) (AT _ _)))))) fun k6 k8 ⟨k3,H3,I4,c5⟩=>Ah I<|Aa<|Ax<|Am<|Ab (Bc (i:=u0) (j:=1) I I (by omega))<|Ac I<|Aa ?_
 obtain ⟨I3,W1⟩:=AB H3 .d2
 exact q3 (u0 + 1,p6,k6,k3) I3 (Tt B1 (Tt D2 (Tt I4 W1))) (AR c5 W1) h
 refine AZ I ?_
 have h:=k5 _ h
 try dsimp only at h
 refine Ae<|Ac I ?_
 have s7:p0.length <= 4294967296:=St.rowLe (α:=Tb) s1 .hd
 obtain ⟨u6,W6,g5⟩:=St.rowV (α:=Tb) s1 .hd
 refine Ab (FV.lenV underlying51 I g5)<|Ac I<|Aa<|Av<|tn h fun x7 x5 M0=>MX.lo (α:=Nat) (fun B0=>[(7,vP y0),(8,vP z0),(9,vP A0),(45,.agg #[Y0,Z0,b1]),(46,vn t0),(12,E1),(132,D0),(133,vn p0.length),(134,vn B0)]) (fun B0=>[rr w 34 Tb D0 p0.length E0,.cells A0 [.bool a4.fN.fc,v4_1,.int .u32 (a4.fN.fo.toNat:Int),.bool a4.fD.fc,v4_4,.int .u32 (a4.fD.fo.toNat:Int)] 79,.cells z0 (gP a3) 62,.cells y0 [v2_0] 66]) (fun B0=>B0) 0 x5 s1 ?_
 rintro z6 B0 H8 s3 u1 C1 h
 unfold ah_l1 at h
 try dsimp only at h
 refine Ae<|Ab (AU (i:=B0) (j:=p0.length) I I)<|Aa<|Aj<|AV I h (fun U2 h=>?_) (fun U2 h=>?_)
 refine Aq<|Aj<|Av<|Ae<|bk h fun c1 G5 h=>?_
 obtain ⟨I2,X6,P1,x2,b7,E5,s5⟩:=BS (α:=Tb) u1 .hd (AR v2 C1) G5
 obtain ⟨K2,Y6,j5⟩:=BC (α:=Tb) u1 .hd x2
 obtain rfl:I2 = ⟨K2,0,none⟩:=by rw [j5] at P1; cases P1; rfl
 obtain rfl:=dh E5
 refine Ab (Be 16 B0 I P1 I I x2)<|Ab (Az I s5)<|RG.nl zL u1 fun p8 J6 J3 X1=>AQ (ab c1) J3 .hd (ai I) fun q8 v1 Y1=>Aa<|Ae<|Ac I<|Ab (Az I (v1.memA .hd))<|bk h fun v0 Z5 h=>?_
 have E2:=Tt D1 (Tt B1 (Tt C1 (Tt X1 Y1)))
 refine Bd (.tuple #[.agg ((ab v0.1)).toArray,.agg ((ab v0.2.1)).toArray,vI v0.2.2]) (bd 27) I (e2 I I) (fun p q=>bR_c n (v1.hL0 hL q) (v1.kd (Ag j0 E2) q) c1 Z5) I<|Ac I<|Ab (Ai I I)<|Ab (Ai I I)<|Ab (Ai I I)<|RG.nl zL v1 fun s8 K6 K3 Z1=>RG.nl zL K3 fun t8 M6 M3 b2=>AQ (ab v0.1) M3 .t1 (ai I) fun u8 P3 c2=>AQ (ab v0.2.1) P3 .hd (ai I) fun v8 x1 g2=>Ah I<|Aa<|Ae<|Ac I<|Ab (Az I (x1.memA .t2))<|bk h fun x0 b6 h=>?_
 have F2:=Tt E2 (Tt Z1 (Tt b2 (Tt c2 g2)))
 refine Bd (.tuple #[.agg ((ab x0.1)).toArray,.agg ((ab x0.2.1)).toArray,vI x0.2.2]) (bd 49) I (e2 I I) (fun p q=>bj_c n (x1.hL0 hL q) (x1.kd (Ag j0 F2) q) c1 b6) I<|Ac I<|Ab (Ai I I)<|Ab (Ai I I)<|Ab (Ai I I)<|RG.nl zL x1 fun x8 P6 Q3 j2=>RG.nl zL Q3 fun y8 Q6 R3 k2=>AQ (ab x0.1) R3 .t1 (ai I) fun z8 U3 p2=>AQ (ab x0.2.1) U3 .hd (ai I) fun A8 y1 q2=>Ah I<|Aa<|Ae<|Ac I<|Ab (Az I (y1.memA .t4))<|bk h fun V0 c6 h=>?_
 have G2:=Tt F2 (Tt j2 (Tt k2 (Tt p2 q2)))
 refine Bd (.tuple #[.agg ((ab V0.1)).toArray,vI V0.2]) (bd 21) I (e2 I I) (fun p q=>bb_c n (y1.hL0 hL q) (y1.kd (Ag j0 G2) q) c1 c6) I<|Ac I<|Ab (Ai I I)<|Ab (Ai I I)<|RG.nl zL y1 fun B8 R6 V3 s2=>AQ (ab V0.1) V3 .hd (ai I) fun C8 z1 u2=>Ah I<|Aa<|Ae<|Ac I<|Ab (Az I (z1.memA .t5))<|bk h fun W0 g6 h=>Bd (.tuple #[.agg ((ab W0.1)).toArray,vI W0.2]) (bd 50) I (e2 I I) (fun p q=>aT_c n (z1.hL0 hL q) (z1.kd (Ag j0 (Tt G2 (Tt s2 u2))) q) c1 g6) I<|Ac I<|Ab (Ai I I)<|Ab (Ai I I)<|RG.nl zL z1 fun D8 U6 W3 J4=>AQ (ab W0.1) W3 .hd (ai I) fun E8 g0 K4=>Ah I<|Aa<|Aj<|Am<|Ab (Az I (g0.memA .t5))<|Ab (Az I (g0.memA .t3))<|Ab (FV.neqV (xs:=((ab v0.1)).toArray) (ys:=((ab x0.1)).toArray) I I (by kernel_rfl) (cn v0.1 x0.1))<|Ac I<|RG.ifn (s:=167) I h (fun V2 h=>?_) (fun V2 h=>?_)
 refine AJ (Az I (g0.memA .t4))<|AJ (Az I (g0.memA .t2))<|AJ (FV.neqV (xs:=((ab v0.2.1)).toArray) (ys:=((ab x0.2.1)).toArray) I I (by kernel_rfl) (cn v0.2.1 x0.2.1))<|Bs I I<|Ac I<|RG.ifn (s:=172) I h (fun W2 h=>?_) (fun W2 h=>?_)
 refine AJ (Al I)<|AJ (Al I)<|AJ (BA (i:=v0.2.2) (j:=x0.2.2) I I)<|Bs I I<|Ac I<|RG.ifn (s:=177) I h (fun X2 h=>?_) (fun X2 h=>?_)
 refine AJ (Az I (g0.memA .t1))<|AJ (Az I (g0.memA .hd))<|AJ (FV.neqV (xs:=((ab V0.1)).toArray) (ys:=((ab W0.1)).toArray) I I (by kernel_rfl) (cn V0.1 W0.1))<|Bs I I<|Ac I<|RG.ifn (s:=182) I h (fun Y2 h=>?_) (fun Y2 h=>?_)
 refine AJ (Al I)<|AJ (Al I)<|AJ (BA (i:=V0.2) (j:=W0.2) I I)<|Bs I I<|Aa<|BI I h (fun Z2 h=>?_) (fun Z2 h=>?_)
 refine Aq<|Ax<|Am<|Ab (Bc (i:=B0) (j:=1) I I (by omega))<|Ac I<|Aa ?_
 obtain ⟨X3,M4⟩:=AB g0 .d7
 exact s3 (B0 + 1) X3 (Tt C1 (Tt X1 (Tt Y1 (Tt Z1 (Tt b2 (Tt c2 (Tt g2 (Tt j2 (Tt k2 (Tt p2 (Tt q2 (Tt s2 (Tt u2 (Tt J4 (Tt K4 M4))))))))))))))) h
 refine Ae<|Ah I<|Aa ?_
 have h:=aH h M0
 have h:=aH h G0
 refine Ar I<|Bb hb0 func6 I I ?_
 cases h
 exact g0.gv
 refine Ap<|Ap<|Ap<|Bk I I<|Aa<|AG I<|Ae<|Ah I<|Aa ?_
 have h:=aH h M0
 have h:=aH h G0
 refine Ar I<|Bb hb0 func6 I I ?_
 cases h
 exact g0.gv
 refine Ap<|Ap<|Ap<|Bk I I<|Ac I<|Ap<|Ap<|Ap<|Bk I I<|Aa<|AG I<|Ae<|Ah I<|Aa ?_
 have h:=aH h M0
 have h:=aH h G0
 refine Ar I<|Bb hb0 func6 I I ?_
 cases h
 exact g0.gv
 refine Ap<|Ap<|Ap<|Bk I I<|Ac I<|Ap<|Ap<|Ap<|Bk I I<|Ac I<|Ap<|Ap<|Ap<|Bk I I<|Aa<|AG I<|Ae<|Ah I<|Aa ?_
 have h:=aH h M0
 have h:=aH h G0
 refine Ar I<|Bb hb0 func6 I I ?_
 cases h
 exact g0.gv
 refine Ap<|Ap<|Ap<|Bk I I<|Ac I<|Ap<|Ap<|Ap<|Bk I I<|Ac I<|Ap<|Ap<|Ap<|Bk I I<|Ac I<|Ap<|Ap<|Ap<|Bk I I<|Aa<|AG I<|Ae<|Ah I<|Aa ?_
 have h:=aH h M0
 have h:=aH h G0
 refine Ar I<|Bb hb0 func6 I I ?_
 cases h
 exact g0.gv
 refine AZ I ?_
 have h:=bc h M0
 try dsimp only at h
 refine Ax<|Am<|Ab (Bc (i:=t0) (j:=1) I I (by omega))<|Ac I<|Aa ?_
 obtain ⟨Y3,P4⟩:=AB u1 .d1
 exact p3 (t0 + 1) Y3 (Tt A1 (Tt D1 (Tt B1 (Tt C1 P4)))) h
 intro x6 K0 h
 try dsimp only at h
 refine Am<|Ab (Az I (c0.memA .t5))<|Ab (Az I (c0.memA .t4))<|Ab (FV.neqV (xs:=((ab P0.1)).toArray) (ys:=((ab Q0.1)).toArray) I I (by kernel_rfl) (cn P0.1 Q0.1))<|Ac I<|RG.ifn (s:=86) I h (fun b3 h=>?_) (fun b3 h=>?_)
 refine AJ (Al I)<|AJ (Al I)<|AJ (BA (i:=P0.2) (j:=Q0.2) I I)<|Bs I I<|Ac I<|RG.ifn (s:=91) I h (fun c3 h=>?_) (fun c3 h=>?_)
 refine AJ (Az I (c0.memA .t3))<|AJ (Az I (c0.memA .t2))<|AJ (FV.neqV (xs:=((ab R0.1)).toArray) (ys:=((ab U0.1)).toArray) I I (by kernel_rfl) (cn R0.1 U0.1))<|Bs I I<|Ac I<|RG.ifn (s:=96) I h (fun d3 h=>?_) (fun d3 h=>?_)
 refine AJ (Al I)<|AJ (Al I)<|AJ (BA (i:=R0.2) (j:=U0.2) I I)<|Bs I I<|Ac I<|RG.ifn (s:=101) I h (fun g3 h=>?_) (fun g3 h=>?_)
 refine AJ (Az I (c0.memA .t1))<|AJ (Az I (c0.memA .hd))<|AJ (FV.neqV (xs:=((ab I0.1)).toArray) (ys:=((ab J0.1)).toArray) I I (by kernel_rfl) (cn I0.1 J0.1))<|Bs I I<|Ac I<|RG.ifn (s:=106) I h (fun j3 h=>?_) (fun j3 h=>?_)
 refine AJ (Al I)<|AJ (Al I)<|AJ (BA (i:=I0.2) (j:=J0.2) I I)<|Bs I I<|Aa ?_
 obtain ⟨Z3,Q4⟩:=AB c0 .d6
 exact K0 (!(decide (I0.2 = J0.2))) Z3 Q4 h
 refine Ap<|Ap<|Ap<|Bk I I<|Aa ?_
 obtain ⟨b4,R4⟩:=AB c0 .d6
 exact K0 true b4 R4 h
 refine Ap<|Ap<|Ap<|Bk I I<|Ac I<|Ap<|Ap<|Ap<|Bk I I<|Aa ?_
 obtain ⟨c4,U4⟩:=AB c0 .d6
 exact K0 true c4 U4 h
 refine Ap<|Ap<|Ap<|Bk I I<|Ac I<|Ap<|Ap<|Ap<|Bk I I<|Ac I<|Ap<|Ap<|Ap<|Bk I I<|Aa ?_
 obtain ⟨d4,V4⟩:=AB c0 .d6
 exact K0 true d4 V4 h
 refine Ap<|Ap<|Ap<|Bk I I<|Ac I<|Ap<|Ap<|Ap<|Bk I I<|Ac I<|Ap<|Ap<|Ap<|Bk I I<|Ac I<|Ap<|Ap<|Ap<|Bk I I<|Aa ?_
 obtain ⟨g4,W4⟩:=AB c0 .d6
 exact K0 true g4 W4 h
 refine Ap<|Ap<|Ap<|Bk I I<|Ac I<|Ap<|Ap<|Ap<|Bk I I<|Ac I<|Ap<|Ap<|Ap<|Bk I I<|Ac I<|Ap<|Ap<|Ap<|Bk I I<|Ac I<|Ap<|Ap<|Ap<|Bk I I<|Aa ?_
 obtain ⟨j4,X4⟩:=AB c0 .d6
 exact K0 true j4 X4 h
 refine AZ I ?_
 have h:=bc h G0
 try dsimp only at h
 refine Ae<|Ah I<|Aa<|Ar I<|Bb hb0 func6 I I ?_
 cases h
 exact g1.gv
 refine Ae<|Ah I<|Aa<|Ar I<|Bb hb0 func6 I I ?_
 cases h
 exact F0.gv
end Go.Proofs.YtkommhmbkbhmlaaGreat
