import Derived.Test.YtkommhmbkbhmlaaGreatUZ10
namespace Go.Proofs.YtkommhmbkbhmlaaGreat
open Go Go.RowKit Tryz
set_option maxRecDepth 4000
set_option maxHeartbeats 4000000

def bW_p (n:Nat):Option Tg:=
  (bf_p n (1:Int) (1:Int)).bind fun b0=>some b0
theorem bW_c (n:Nat) {L w} (hL:hl L w)  {r:Tg} (h:bW_p n = some r) :
 Cl 121 #[] w (ai w fun w' u=>∃ v0_1 v0_3:Value,u = .agg #[.bool r.fN.fc,v0_1,.bool r.fD.fc,v0_3]/\Rep.R w' L [v0_1] r.fN.fD/\Rep.R w' L [v0_3] r.fD.fD):=by
 unfold bW_p at h
 refine AI func121 rfl rfl rfl fun _ cs0 hb0=>Ae<|RG.nl [.bool false,vN,.bool false,vN] (AH w) fun A0 v0 j0 x0=>Aa<|Ae<|bk h fun c0 u0 h=>jE (bd 97) rfl (e2 rfl rfl) (fun p q=>bf_c n (j0.hL hL q)  u0) rfl fun B0 z0 t0 ⟨d0,g0,hu_,p0,q0⟩=>?_
 subst hu_
 obtain ⟨s0,y0⟩:=j0.agr t0
 refine AO [.bool c0.fN.fc,d0,.bool c0.fD.fc,g0] s0 .hd (o4 rfl (Ay p0) rfl (Ay q0)) fun C0 b0 k0=>Aa<|Aq rfl<|Ao hb0 func121 rfl (.cons (.many (cs:=[.bool c0.fN.fc,d0,.bool c0.fD.fc,g0]) rfl rfl (b0.memA .hd)) .nil) rfl ?_
 cases h
 exact ⟨b0.ag,fun p q=>⟨d0,g0,rfl,b0.kd (Ag p0 k0) q,b0.kd (Ag q0 k0) q⟩⟩
def aS_l1 (n:Nat) (a0:List Ta) (t0:Nat × Bool × (List Int) × Bool × (List Int) -> Option (Bool ⊕ (Bool × (List Int) × Bool × (List Int)))):Nat × Bool × (List Int) × Bool × (List Int) -> Option (Bool ⊕ (Bool × (List Int) × Bool × (List Int)))
  | (b0,j0,p0,k0,q0)=>(if b0 < a0.length then (a0[b0]?).bind fun c0=>(aI_p n c0.fm).bind fun v0=>(if v0 = true then (aI_p n c0.fP).bind fun x0=>(if x0 = true then (bg_p n c0.fP).bind fun s0=>(bO_p n).bind fun y0=>(aR_p n s0 y0).bind fun z0=>(if z0 <= 0 then some (.inl false) else (if 0 < b0 then (a0[b0 - 1]?).bind fun u0=>(bg_p n u0.fm).bind fun A0=>(bg_p n c0.fm).bind fun B0=>(aR_p n A0 B0).bind fun C0=>(if 0 <= C0 then some (.inl false) else (bs_p n (⟨(⟨j0,p0⟩:Te),(⟨k0,q0⟩:Te)⟩:Tg) s0).bind fun d0=>t0 (b0 + 1,d0.fN.fc,d0.fN.fD,d0.fD.fc,d0.fD.fD)) else (bs_p n (⟨(⟨j0,p0⟩:Te),(⟨k0,q0⟩:Te)⟩:Tg) s0).bind fun g0=>t0 (b0 + 1,g0.fN.fc,g0.fN.fD,g0.fD.fc,g0.fD.fD))) else some (.inl false)) else some (.inl false)) else some (.inr (j0,p0,k0,q0)))
def aS_p (n:Nat) (a0:List Ta):Option Bool:=
  (if a0.length < 1 then some false else (if 400 < a0.length then some false else (bO_p n).bind fun y4=>thn (am (aS_l1 n a0) n (0,y4.fN.fc,y4.fN.fD,y4.fD.fc,y4.fD.fD)) (fun (b0,d0,c0,g0)=>(bW_p n).bind fun j0=>(aR_p n (⟨(⟨b0,d0⟩:Te),(⟨c0,g0⟩:Te)⟩:Tg) j0).bind fun k0=>some (decide (k0 = 0)))))
theorem aS_c (n:Nat) {L w} (hL:hl L w) {a0:List Ta} {v0_0:Value} (h0_0:Rep.R w L [v0_0] a0)  {r:Bool} (h:aS_p n a0 = some r) :
 Cl 101 #[v0_0] w (ai w fun _ u=>u = .bool r):=by
 unfold aS_p at h
 have hS0:=AH w
 refine AI func101 rfl rfl rfl fun _ cs0 hb0=>Ae<|Af rfl<|Aa<|Aj<|Ae<|Ac rfl ?_
 have hl1:a0.length <= 281474976710656:=AU h0_0
 refine Ab (AV (xs:=a0) underlying24 rfl h0_0)<|Ab (AW (i:=a0.length) (j:=1) rfl rfl)<|Ac rfl<|RG.ifd (s:=9) rfl h (fun c2 h=>?_) (fun c2 h=>?_)
 refine Ax<|Ax<|Ax<|RG.pt rfl rfl<|Aa<|AT rfl<|Ae<|Af rfl<|Aa<|Aq rfl<|Bd hb0 func101 rfl rfl ?_
 cases h
 exact hS0.gv
 refine AY (Ar rfl)<|AY (AV (xs:=a0) underlying24 rfl h0_0)<|AY (FV.gtrN (i:=a0.length) (j:=400) rfl rfl)<|BD rfl rfl<|Aa<|AS rfl h (fun c3 h=>?_) (fun c3 h=>?_)
 refine Ae<|Af rfl<|Aa<|Aq rfl<|Bd hb0 func101 rfl rfl ?_
 cases h
 exact hS0.gv
 refine Ap<|Ae<|bk h fun y4 hy4 h=>jE (bd 116) rfl ap (fun p q=>bO_c n (hS0.hL hL q)  hy4) rfl fun w5 vu6 hag7 ⟨M1,P1,hu_,E1,F1⟩=>?_
 subst hu_
 obtain ⟨hS8,hT9⟩:=hS0.agr hag7
 refine RG.nl [.bool false,vN,.bool false,vN] hS8 fun H4 G0 q2 H0=>AO [.bool y4.fN.fc,M1,.bool y4.fD.fc,P1] q2 .hd (o4 rfl (Ay (Ag E1 H0)) rfl (Ay (Ag F1 H0))) fun I4 s2 u1=>Aa<|Aj<|Ae<|Af rfl<|Aa<|Av<|tn h fun k4 W2 D0=>MX.lf (α:=Nat × Bool × (List Int) × Bool × (List Int) × Value × Value) (fun ⟨d0,j0,s0,k0,t0,u0,v0⟩=>[(0,v0_0),(3,vP G0),(4,vI ((d0:Nat):Int))]) (fun ⟨d0,j0,s0,k0,t0,u0,v0⟩=>[.cells G0 [.bool j0,u0,.bool k0,v0] 144]) (fun ⟨d0,j0,s0,k0,t0,u0,v0⟩ p1=>Rep.R p1 (bl [.cells G0 [.bool j0,u0,.bool k0,v0] 144] ++ L) [u0] s0/\Rep.R p1 (bl [.cells G0 [.bool j0,u0,.bool k0,v0] 144] ++ L) [v0] t0) (fun ⟨d0,j0,s0,k0,t0,u0,v0⟩=>(d0,j0,s0,k0,t0)) (0,y4.fN.fc,y4.fN.fD,y4.fD.fc,y4.fD.fD,M1,P1) W2 s2 ⟨(Ag E1 (Tt H0 u1)),(Ag F1 (Tt H0 u1))⟩ ?_
 rintro X3 ⟨d0,j0,s0,k0,t0,u0,v0⟩ p1 q1 p0 v1 ⟨c1,g1⟩ h
 unfold aS_l1 at h
 try dsimp only at h
 refine Aj<|Ae<|Ac rfl<|Ac rfl ?_
 have z1:=AE h0_0 p0
 refine Ab (AV (xs:=a0) underlying24 rfl z1)<|Ab (AW (i:=d0) (j:=a0.length) rfl rfl)<|Aa<|AS rfl h (fun b2 h=>?_) (fun b2 h=>?_)
 refine Ap<|Aj<|Av<|Aj<|Ae<|Ac rfl<|Ac rfl<|bk h fun x0 K1 h=>?_
 obtain ⟨U3,Z3,X0,Y0,d4,X2,Z0⟩:=Bc z1 K1
 obtain rfl:=aF X2
 refine Ab (Bi 32 d0 rfl X0 rfl rfl Y0)<|Bf 0 rfl<|Ab (AQ (cs:=(ab x0.fm)) rfl rfl (ae Z0 0 16))<|bk h fun J3 u3 h=>Bl (.bool J3) (bd 114) rfl (e1 rfl) (fun p q=>aI_c n (p0.hL0 hL q) x0.fm u3) rfl<|Ab (FV.not rfl)<|Ac rfl<|RG.ifnb (s:=28) rfl h (fun d2 h=>?_) (fun d2 h=>?_)
 refine AY (Ar rfl)<|AY (Ar rfl)<|AY (Bi 32 d0 rfl X0 rfl rfl Y0)<|RG.fg 16 rfl<|AY (AQ (cs:=(ab x0.fP)) rfl rfl (ae Z0 16 16))<|bk h fun K3 v3 h=>BO (v:=.bool K3) (fst:=[]) (cap:=[]) (.yes rfl rfl) (bd 114) rfl (e1 rfl) (fun p q=>aI_c n (p0.hL0 hL q) x0.fP v3) rfl<|AY (FV.not rfl)<|BD rfl rfl<|Aa<|MX.ifnb rfl h (fun g2 h=>?_) (fun g2 h=>?_)
 refine Ap<|Ae<|Ac rfl<|Ac rfl<|Ab (Bi 32 d0 rfl X0 rfl rfl Y0)<|Bf 16 rfl<|Ab (AQ (cs:=(ab x0.fP)) rfl rfl (ae Z0 16 16))<|bk h fun F0 x3 h=>jE (bd 104) rfl (e1 rfl) (fun p q=>bg_c n (p0.hL hL q) x0.fP x3) rfl fun J4 A4 E2 ⟨H3,I3,hu_,j1,k1⟩=>?_
 subst hu_
 obtain ⟨t2,I0⟩:=p0.agr E2
 refine RG.nl [.bool false,vN,.bool false,vN] t2 fun K4 Y3 u2 C0=>AO [.bool F0.fN.fc,H3,.bool F0.fD.fc,I3] u2 .hd (o4 rfl (Ay (Ag j1 C0)) rfl (Ay (Ag k1 C0))) fun M4 M0 P0=>Aa<|Aj<|Aj<|du 25 fun b0 c0=>Rx 0 33554428 b0 rfl c0 (Az rfl (M0.memA .hd))<|bk h fun M3 y3 h=>AX 1 3 b0 rfl .plain (bd 116) rfl ap (fun p q=>bO_c n (M0.hL hL q)  y3) rfl fun P4 B4 F2 ⟨p4,q4,hu_,Y2,Z2⟩=>?_
 subst hu_
 obtain ⟨g0,Q0⟩:=M0.agr F2
 refine bk h fun X1 z3 h=>?_
 have E0:=Tt C0 (Tt P0 Q0)
 have A1:=Ag j1 E0
 have B1:=Ag k1 E0
 refine RD.cq 2 7 33554424 (vI X1) b0 rfl c0 (bd 120) rfl (e2 rfl rfl) (fun p q=>aR_c n (g0.hL0 hL q) F0 (g0.kd A1 q) (g0.kd B1 q) M3 (g0.kd Y2 q) (g0.kd Z2 q) z3) rfl<|Rv 3 b0 rfl c0 (fun _=>FV.leq (i:=X1) (j:=0) rfl rfl)<|Rv 4 b0 rfl c0 (fun _=>Ar rfl)<|RD.ifd (s:=47) rfl h (fun j2 h=>?_) (fun j2 h=>?_)
 refine Bx 16777215 1 [(5,48),(6,49),(7,50),(8,51),(9,52),(10,53),(11,54),(12,55),(13,56),(14,57),(15,58),(16,59),(17,60),(18,61),(19,62),(20,63),(21,64),(22,65),(23,66)] (F:=[(47,true)]) (U:=[]) b0 c0 (.cons rfl .nil) .nil ?_
 dsimp only [aO,List.map]
 refine Rv 24 b0 rfl c0 (fun _=>BK rfl rfl)<|AK (dk b0)<|AT rfl<|Ae<|Af rfl<|Aa ?_
 have h:=aX h D0
 refine Aq rfl<|Bd hb0 func101 rfl rfl ?_
 cases h
 exact g0.gv
 refine BH 5 63 b0 rfl c0 (.yes rfl rfl) (fun _=>Ar rfl) rfl<|BH 6 127 b0 rfl c0 (.yes rfl rfl) (fun _=>FV.gtrN (i:=d0) (j:=0) rfl rfl) rfl<|BH 7 255 b0 rfl c0 (.yes rfl rfl) (fun _=>Ar rfl) rfl<|RD.ifd (s:=50) rfl h (fun k2 h=>?_) (fun k2 h=>?_)
 refine BH 8 511 b0 rfl c0 (.yes rfl rfl) (fun _=>Ar rfl) rfl<|BH 9 1023 b0 rfl c0 (.yes rfl rfl) (fun _=>Ar rfl) rfl<|BH 10 2047 b0 rfl c0 (.yes rfl rfl) (fun _=>FV.subN (i:=d0) (j:=1) rfl rfl (by omega) (by omega)) rfl<|bk h fun W1 t3 h=>?_
 have C1:=AE h0_0 g0
 obtain ⟨V3,b4,M2,Q2,g4,b3,U2⟩:=Bc C1 t3
 obtain rfl:=aF b3
 refine BH 11 4095 b0 rfl c0 (.yes rfl rfl) (fun _=>Bi 32 (d0 - 1) rfl M2 rfl rfl Q2) rfl<|BH 12 8191 b0 rfl c0 (.yes rfl rfl) (fun _=>Bk 0 rfl) rfl<|RD.val (i:=13) (m' :=16383) (W:=32522240) (tk b0) rfl c0 (.yes rfl rfl) (AQ (cs:=(ab W1.fm)) rfl rfl (ae U2 0 16)) rfl<|BH 15 49151 b0 rfl c0 (.yes rfl rfl) (fun _=>Ar rfl) rfl<|BH 16 114687 b0 rfl c0 (.yes rfl rfl) (fun _=>Ar rfl) rfl ?_
 obtain ⟨W3,c4,P2,R2,j4,d3,V2⟩:=Bc C1 K1
 obtain rfl:=aF d3
 refine BH 17 245759 b0 rfl c0 (.yes rfl rfl) (fun _=>Bi 32 d0 rfl P2 rfl rfl R2) rfl<|BH 18 507903 b0 rfl c0 (.yes rfl rfl) (fun _=>Bk 0 rfl) rfl<|RD.val (i:=19) (m' :=1032191) (W:=32505856) (tk b0) rfl c0 (.yes rfl rfl) (AQ (cs:=(ab x0.fm)) rfl rfl (ae V2 0 16)) rfl<|bk h fun P3 A3 h=>AX 14 1048575 b0 rfl (.yes rfl rfl) (bd 104) rfl (e1 rfl) (fun p q=>bg_c n (g0.hL hL q) W1.fm A3) rfl fun Q4 C4 G2 ⟨s4,t4,hu_,g3,j3⟩=>?_
 subst hu_
 obtain ⟨s1,x1⟩:=g0.agr G2
 refine bk h fun Q3 B3 h=>AX 20 2097151 b0 rfl (.yes rfl rfl) (bd 104) rfl (e1 rfl) (fun p q=>bg_c n (s1.hL hL q) x0.fm B3) rfl fun R4 D4 H2 ⟨u4,v4,hu_,k3,p3⟩=>?_
 subst hu_
 obtain ⟨q0,J0⟩:=s1.agr H2
 refine bk h fun Y1 C3 h=>BN (i:=21) (m' :=4194303) (W:=29360128) (tk b0) rfl c0 (v:=vI Y1) (fst:=[]) (cap:=[]) (.yes rfl rfl) (bd 120) rfl (e2 rfl rfl) (fun p q=>aR_c n (q0.hL0 hL q) P3 (q0.kd (Ag g3 J0) q) (q0.kd (Ag j3 J0) q) Q3 (q0.kd k3 q) (q0.kd p3 q) C3) rfl<|BH 22 8388607 b0 rfl c0 (.yes rfl rfl) (fun _=>FV.geq (i:=Y1) (j:=0) rfl rfl) rfl<|BH 23 16777215 b0 rfl c0 (.yes rfl rfl) (fun _=>BK rfl rfl) rfl<|Rv 24 b0 rfl c0 (fun _=>Bg rfl rfl)<|AK (dk b0)<|AS rfl h (fun p2 h=>?_) (fun p2 h=>?_)
 refine Ae<|Af rfl<|Aa ?_
 have h:=aX h D0
 refine Aq rfl<|Bd hb0 func101 rfl rfl ?_
 cases h
 exact q0.gv
 refine Ap<|Al<|Ab (Az rfl (q0.memA .t1))<|Ab (Az rfl (q0.memA .hd))<|bk h fun A0 D3 h=>?_
 have b1:=Tt I0 (Tt C0 (Tt P0 (Tt Q0 (Tt x1 J0))))
 have D1:=Tt E0 (Tt x1 J0)
 refine jE (bd 110) rfl (e2 rfl rfl) (fun p q=>bs_c n (q0.hL hL q) (⟨(⟨j0,s0⟩:Te),(⟨k0,t0⟩:Te)⟩:Tg) (Ah (Ag c1 b1) q) (Ah (Ag g1 b1) q) F0 (Ah (Ag j1 D1) q) (Ah (Ag k1 D1) q) D3) rfl fun U4 E4 I2 ⟨Q1,R1,hu_,G1,H1⟩=>?_
 subst hu_
 obtain ⟨v2,C2⟩:=q0.agr I2
 refine AO [.bool A0.fN.fc,Q1,.bool A0.fD.fc,R1] v2 .t1 (o4 rfl (Ay G1) rfl (Ay H1)) fun V4 x2 R0=>Aa<|Aw<|Al<|Ac rfl<|Ab (Ba (i:=d0) (j:=1) rfl rfl (by omega))<|Af rfl<|Aa ?_
 obtain ⟨y2,U0⟩:=AA x2 .d1
 exact q1 (d0 + 1,A0.fN.fc,A0.fN.fD,A0.fD.fc,A0.fD.fD,Q1,R1) y2 (Tt v1 (Tt b1 (Tt C2 (Tt R0 U0)))) ⟨(Ag G1 (Tt R0 U0)),(Ag H1 (Tt R0 U0))⟩ h
 refine Bx 8388607 2 [(8,51),(9,52),(10,53),(11,54),(12,55),(13,56),(14,57),(15,58),(16,59),(17,60),(18,61),(19,62),(20,63),(21,64),(22,65)] (F:=[(50,false)]) (U:=[]) b0 c0 (.cons rfl .nil) .nil ?_
 dsimp only [aO,List.map]
 refine BH 23 16777215 b0 rfl c0 (.yes rfl rfl) (fun _=>Bg rfl rfl) rfl<|Rv 24 b0 rfl c0 (fun _=>Bg rfl rfl)<|AK (dk b0)<|By rfl<|Ap<|Al<|Ab (Az rfl (g0.memA .t1))<|Ab (Az rfl (g0.memA .hd))<|bk h fun B0 E3 h=>jE (bd 110) rfl (e2 rfl rfl) (fun p q=>bs_c n (g0.hL hL q) (⟨(⟨j0,s0⟩:Te),(⟨k0,t0⟩:Te)⟩:Tg) (Ah (Ag c1 (Tt I0 E0)) q) (Ah (Ag g1 (Tt I0 E0)) q) F0 (Ah A1 q) (Ah B1 q) E3) rfl fun W4 F4 J2 ⟨U1,V1,hu_,I1,J1⟩=>?_
 subst hu_
 obtain ⟨z2,D2⟩:=g0.agr J2
 refine AO [.bool B0.fN.fc,U1,.bool B0.fD.fc,V1] z2 .t1 (o4 rfl (Ay I1) rfl (Ay J1)) fun X4 A2 V0=>Aa<|Aw<|Al<|Ac rfl<|Ab (Ba (i:=d0) (j:=1) rfl rfl (by omega))<|Af rfl<|Aa ?_
 obtain ⟨B2,W0⟩:=AA A2 .d1
 exact q1 (d0 + 1,B0.fN.fc,B0.fN.fD,B0.fD.fc,B0.fD.fD,U1,V1) B2 (Tt v1 (Tt I0 (Tt C0 (Tt P0 (Tt Q0 (Tt D2 (Tt V0 W0))))))) ⟨(Ag I1 (Tt V0 W0)),(Ag J1 (Tt V0 W0))⟩ h
 refine Ae<|Af rfl<|Aa ?_
 have h:=aX h D0
 refine Aq rfl<|Bd hb0 func101 rfl rfl ?_
 cases h
 exact p0.gv
 refine Ax<|Ax<|Ax<|Ax<|Ax<|Ax<|Ax<|RG.pt rfl rfl<|Aa<|AT rfl<|Ae<|Af rfl<|Aa ?_
 have h:=aX h D0
 refine Aq rfl<|Bd hb0 func101 rfl rfl ?_
 cases h
 exact p0.gv
 refine AZ rfl ?_
 have h:=bp h D0
 try dsimp only at h
 refine Aj<|du 5 fun z0 K0=>Rx 0 28 z0 rfl K0 (Az rfl (p0.memA .hd))<|bk h fun R3 F3 h=>AX 1 3 z0 rfl .plain (bd 121) rfl ap (fun p q=>bW_c n (p0.hL hL q)  F3) rfl fun Y4 G4 K2 ⟨x4,z4,hu_,q3,s3⟩=>?_
 subst hu_
 obtain ⟨y0,y1⟩:=p0.agr K2
 refine bk h fun Z1 G3 h=>RD.cq 2 7 24 (vI Z1) z0 rfl K0 (bd 120) rfl (e2 rfl rfl) (fun p q=>aR_c n (y0.hL0 hL q) (⟨(⟨j0,s0⟩:Te),(⟨k0,t0⟩:Te)⟩:Tg) (y0.kd (Ag c1 y1) q) (y0.kd (Ag g1 y1) q) R3 (y0.kd q3 q) (y0.kd s3 q) G3) rfl<|Rv 3 z0 rfl K0 (fun _=>FV.eql (i:=Z1) (j:=0) rfl rfl)<|Rv 4 z0 rfl K0 (fun _=>Bn rfl)<|AK (dk z0)<|Aq rfl<|Bd hb0 func101 rfl rfl ?_
 cases h
 exact y0.gv
def bw_p (n:Nat) (a0:List Ta):Option Int:=
  (aS_p n a0).bind fun y1=>(if y1 = true then some (0:Int) else some (50:Int))
theorem bw_c (n:Nat) {L w} (hL:hl L w) {a0:List Ta} {v0_0:Value} (h0_0:Rep.R w L [v0_0] a0)  {r:Int} (h:bw_p n a0 = some r) :
 Cl 58 #[v0_0] w (ai w fun _ u=>u = vI r):=by
 unfold bw_p at h
 have hS0:=AH w
 refine AI func58 rfl rfl rfl fun _ cs0 hb0=>Ae<|Af rfl<|Aa<|Aj<|Ae<|Ac rfl<|bk h fun y1 hy1 h=>Bl (.bool y1) (bd 101) rfl (e1 rfl) (fun p q=>aS_c n (hS0.hL0 hL q) (hS0.kd h0_0 q) hy1) rfl<|Ab (FV.not rfl)<|Aa<|MX.ifnb rfl h (fun c2 h=>?_) (fun c2 h=>?_)
 refine Ap<|Ae<|Af rfl<|Aa<|Aq rfl<|Bd hb0 func58 rfl rfl ?_
 cases h
 exact hS0.gv
 refine Ae<|Af rfl<|Aa<|Aq rfl<|Bd hb0 func58 rfl rfl ?_
 cases h
 exact hS0.gv
def cg_p (n:Nat) (a0:Tb):Option ((List Ta) × Int):=
  (aI_p n a0).bind fun c0=>(if c0 = true then (bg_p n a0).bind fun d0=>(bW_p n).bind fun g0=>(aJ_p n ([(⟨d0,g0⟩:Td)]:List Td)).bind fun b0=>some (b0.1,b0.2) else some (([]:List Ta),(20:Int)))
theorem cg_c (n:Nat) {L w} (hL:hl L w) (a0:Tb)  {r:(List Ta) × Int} (h:cg_p n a0 = some r) :
 Cl 59 #[.agg ((ab a0)).toArray] w (ai w fun w' u=>∃ v0_0:Value,u = .tuple #[v0_0,vI r.2]/\Rep.R w' L [v0_0] r.1):=by
 unfold cg_p at h
 refine AI func59 rfl rfl rfl fun _ cs0 hb0=>Ae<|RG.bx (AH w) rfl rfl fun R1 y1 d0 H1=>Af rfl<|Af rfl<|Aa<|Aj<|Ae<|Ab (Az rfl (d0.memA .hd))<|bk h fun j1 Z0 h=>Bl (.bool j1) (bd 114) rfl (e1 rfl) (fun p q=>aI_c n (d0.hL0 hL q) a0 Z0) rfl<|Ab (FV.not rfl)<|Aa<|MX.ifnb rfl h (fun F0 h=>?_) (fun F0 h=>?_)
 refine Ap<|Ae<|Ab (Az rfl (d0.memA .hd))<|bk h fun b0 b1 h=>jE (bd 104) rfl (e1 rfl) (fun p q=>bg_c n (d0.hL hL q) a0 b1) rfl fun U1 M1 H0 ⟨g0,j0,hu_,C0,D0⟩=>?_
 subst hu_
 obtain ⟨y0,I1⟩:=d0.agr H0
 refine bk h fun c0 c1 h=>jE (bd 121) rfl ap (fun p q=>bW_c n (y0.hL hL q)  c1) rfl fun V1 P1 I0 ⟨k0,p0,hu_,v0,x0⟩=>?_
 subst hu_
 obtain ⟨G0,s0⟩:=y0.agr I0
 have A0:=Ag C0 s0
 obtain ⟨k1,z1,P0,_⟩:=Bm A0
 have B0:=Ag D0 s0
 obtain ⟨p1,A1,Q0,_⟩:=Bm B0
 obtain ⟨q1,B1,R0,_⟩:=Bm v0
 obtain ⟨s1,C1,U0,_⟩:=Bm x0
 refine Ab (AP (vs:=[.agg #[.bool b0.fN.fc,g0,.bool b0.fD.fc,j0],.agg #[.bool c0.fN.fc,k0,.bool c0.fD.fc,p0]]) (u:=.agg #[.bool b0.fN.fc,g0,.bool b0.fD.fc,j0,.bool c0.fN.fc,k0,.bool c0.fD.fc,p0]) (e2 rfl rfl) (fun p=>by rw [P0,Q0,R0,U0]; try kernel_rfl)) ?_
 obtain ⟨t1,D1,V0,_⟩:=Bm A0
 obtain ⟨u1,E1,W0,_⟩:=Bm B0
 obtain ⟨v1,F1,X0,_⟩:=Bm v0
 obtain ⟨x1,G1,Y0,_⟩:=Bm x0
 refine Ak .plain rfl (AR (α:=Td) (xs:=([(⟨b0,c0⟩:Td)]:List Td)) (vs:=[.agg #[.bool b0.fN.fc,g0,.bool b0.fD.fc,j0,.bool c0.fN.fc,k0,.bool c0.fD.fc,p0]]) (ds' :=[.bool b0.fN.fc,g0,.bool b0.fD.fc,j0,.bool c0.fN.fc,k0,.bool c0.fD.fc,p0]) rfl G0 dQ rfl (e1 rfl) (by rw [V0,W0,X0,Y0]; try kernel_rfl) rfl) fun W1 E0 q0 t0=>?_
 have u0:=Br q0 .hd
 have J1:=Bs q0 .hd
 refine bk h fun Y1 d1 h=>jE (bd 108) rfl (e1 rfl) (fun p q=>aJ_c n (u0.hL hL q) (Ah (Bu (α:=Td) (v:=(vS E0 1)) (xs:=([(⟨b0,c0⟩:Td)]:List Td)) u0 L (Bb (α:=Td) q0 .hd (AF (cs:=[.bool b0.fN.fc,g0,.bool b0.fD.fc,j0,.bool c0.fN.fc,k0,.bool c0.fD.fc,p0]) (xs:=(([(⟨b0,c0⟩:Td)]:List Td):List Td)) q0 L (AB (cs:=[.bool b0.fN.fc,g0,.bool b0.fD.fc,j0,.bool c0.fN.fc,k0,.bool c0.fD.fc,p0]) (ds:=[]) (jm b0 (Ag C0 (Tt s0 t0)) (Ag D0 (Tt s0 t0)) c0 (Ag v0 t0) (Ag x0 t0)) (AL _ _))) hL)) q) d1) rfl fun X1 Q1 J0 ⟨g1,hu_,K0⟩=>?_
 subst hu_
 obtain ⟨z0,K1⟩:=u0.agr J0
 refine Ab (Ai rfl rfl)<|Ab (Ai rfl rfl)<|Af rfl<|Af rfl<|Aa<|Aq rfl<|Ao hb0 func59 rfl (.cons (.tmp rfl) (.cons (.tmp rfl) .nil)) rfl ?_
 cases h
 exact ⟨z0.ag,fun p q=>⟨g1,rfl,z0.kd K0 q⟩⟩
 refine Ae<|Af rfl<|Af rfl<|Aa<|Aq rfl ?_
 have M0:=Bv (α:=Ta) d0 L
 refine Ao hb0 func59 rfl (.cons (.tmp rfl) (.cons (.tmp rfl) .nil)) rfl ?_
 cases h
 exact ⟨d0.ag,fun p q=>⟨vN,rfl,d0.kd M0 q⟩⟩
def bc_p (_n:Nat) (a0:List Tb):Option (List Tb):=
  cS a0 (some ([]:List Tb)) ((app ([]:List Tb) a0).bind fun b0=>some b0)
theorem bc_c (n:Nat) {L w} (_hL:hl L w) {a0:List Tb} {v0_0:Value} (h0_0:Rep.R w L [v0_0] a0)  {r:List Tb} (h:bc_p n a0 = some r) :
 Cl 60 #[v0_0] w (ai w fun w' u=>∃ (v0_0:Value) (cs0_0:List Value),u = v0_0/\St w w' (aR w.heap.size [(34,Rep.size Tb,v0_0,r.length,cs0_0)])/\Cells w' (bl (aR w.heap.size [(34,Rep.size Tb,v0_0,r.length,cs0_0)]) ++ L) cs0_0 (r:List Tb)):=by
 unfold bc_p at h
 have hS0:=AH w
 refine AI func60 rfl rfl rfl fun _ cs0 hb0=>Ae<|Af rfl<|Aa<|Aj<|Ae<|Ac rfl ?_
 rcases Rep.nilOr h0_0 with ⟨c1,he3,hx4⟩ | ⟨ad2,c1,he3⟩
 have h:=jh h hx4
 refine Ab (FV.eqlNil1 underlying51 rfl he3 rfl)<|Aa<|AT rfl<|Ae<|Af rfl<|Aa<|Aq rfl ?_
 have b0:=hS0.nilRow 34 (Rep.size Tb)
 have t0:=BQ hS0 34 (Rep.size Tb)
 have k0:=AF (cs:=[]) (xs:=([]:List Tb)) b0 L (AL _ _)
 refine Ao (u:=vN) hb0 func60 rfl (.cons (.tmp rfl) .nil) rfl ?_
 cases h
 exact ⟨b0.ag,fun p q=>⟨vN,[],rfl,b0.agree q,Cells.keep0 k0 q⟩⟩
 have h:=jH h
 refine Ab (FV.eqlNil0 underlying51 rfl he3 rfl)<|Aa<|By rfl<|Ap<|Ae<|Ak .plain rfl (jB Tb hS0 cZ) fun x0 s0 c0 u0=>Ac rfl<|bk h fun z0 q0 h=>Bq .plain rfl (Be (α:=Tb) (ys:=a0) q0 c0 (fun _ _=>.hd) cZ rfl rfl (jD Tb c0 L) (Src.rep (AE h0_0 c0))) fun g0 y0 ⟨j0,d0,v0,p0⟩=>Af rfl<|Aa<|Aq rfl<|Ao (u:=g0) hb0 func60 rfl (.cons (.tmp rfl) .nil) rfl ?_
 cases h
 exact ⟨d0.ag,fun p q=>⟨g0,j0,rfl,d0.agree q,Cells.keep0 p0 q⟩⟩
def aj_l1 (_n:Nat) (a0:List (List Tb)) (d0:Nat × (List Tb) -> Option (List Tb)):Nat × (List Tb) -> Option (List Tb)
  | (b0,c0)=>(if b0 < a0.length then (a0[b0]?).bind fun g0=>(app c0 g0).bind fun j0=>d0 (b0 + 1,j0) else some c0)
def aj_l2 (_n:Nat) (a0:List (List Tb)) (d0:Nat × (List Tb) -> Option (List Tb)):Nat × (List Tb) -> Option (List Tb)
  | (b0,c0)=>(if b0 < a0.length then (a0[b0]?).bind fun g0=>(app c0 g0).bind fun j0=>d0 (b0 + 1,j0) else some c0)
def aj_l3 (_n:Nat) (a0:List (List Tb)) (g0:Int × Nat -> Option Int):Int × Nat -> Option Int
  | (d0,b0)=>(if b0 < a0.length then (a0[b0]?).bind fun j0=>(chk (d0 + ((j0.length:Nat):Int))).bind fun c0=>(if c0 < 0 then none else g0 (c0,b0 + 1)) else some d0)
def aj_p (n:Nat) (a0:List (List Tb)):Option (List Tb):=
  Option.bind (am (aj_l3 n a0) n (0,0)) (fun c0=>(if c0 < 0 then none else (chk (c0 - 0)).bind fun b0=>(if 0 < b0 then (mz b0).bind fun _u74=>Option.bind (am (aj_l1 n a0) n (0,([]:List Tb))) (fun d0=>some d0) else Option.bind (am (aj_l2 n a0) n (0,([]:List Tb))) (fun g0=>some g0))))
theorem aj_c (n:Nat) {L w} (_hL:hl L w) {a0:List (List Tb)} {v0_0:Value} (h0_0:Rep.R w L [v0_0] a0)  {r:List Tb} (h:aj_p n a0 = some r) :
 Cl 61 #[v0_0] w (ai w fun w' u=>∃ (v0_0:Value) (cs0_0:List Value),u = v0_0/\St w w' (aR w.heap.size [(34,Rep.size Tb,v0_0,r.length,cs0_0)])/\Cells w' (bl (aR w.heap.size [(34,Rep.size Tb,v0_0,r.length,cs0_0)]) ++ L) cs0_0 (r:List Tb)):=by
 unfold aj_p at h
 refine AI func61 rfl rfl rfl fun _ cs0 hb0=>Ae<|Af rfl<|Aa<|Ae<|Af rfl<|Aa<|Aj<|Ae<|Ac rfl ?_
 have hl1:a0.length <= 281474976710656:=AU h0_0
 refine Ab (AV (xs:=a0) underlying172 rfl h0_0)<|Ac rfl<|Aa<|Av ?_
 obtain ⟨V2,P1,A1⟩:=ao h
 refine MX.lo (α:=Int × Nat) (fun ⟨k0,d0⟩=>[(0,v0_0),(3,vI k0),(9,v0_0),(10,vI ((a0.length:Nat):Int)),(11,vI ((d0:Nat):Int))]) (fun ⟨k0,d0⟩=>[]) (fun ⟨k0,d0⟩=>(k0,d0)) (0,0) P1 (AH w) ?_
 rintro C2 ⟨k0,d0⟩ j3 b1 u0 q1 h
 unfold aj_l3 at h
 try dsimp only at h
 refine Ae<|Ab (AW (i:=d0) (j:=a0.length) rfl rfl)<|Aa<|Aj<|AS rfl h (fun Q0 h=>?_) (fun Q0 h=>?_)
 refine Ap<|Aj<|Av<|Ae<|bk h fun z0 g2 h=>?_
 obtain ⟨z2,F2,x1,D1,I2,W1,G1⟩:=Bc (AE h0_0 u0) g2
 obtain ⟨Z2,rfl,G0⟩:=bT W1
 refine Ab (Bi 1 d0 rfl x1 rfl rfl D1)<|Bo rfl (G1 0 _ rfl)<|Af rfl<|Aa<|Ae<|Ac rfl<|Ac rfl ?_
 have P2:z0.length <= 281474976710656:=AU G0
 refine Ab (AV (xs:=z0) underlying51 rfl G0)<|bk h fun H0 Y1 h=>Ab (FV.addc (i:=k0) (j:=((z0.length:Nat):Int)) rfl rfl Y1)<|Af rfl<|Aa<|Ae<|Ac rfl<|Ab (FV.lss (i:=H0) (j:=0) rfl rfl)<|Aa<|AS rfl h (fun R0 h=>?_) (fun R0 h=>?_)
 refine Al ?_
 cases h
 refine Ap<|Aw<|Al<|Ab (Ba (i:=d0) (j:=1) rfl rfl (by omega))<|Ac rfl<|Aa<|b1 (H0,d0 + 1) u0 q1 h
 refine AZ rfl ?_
 have h:=A1 _ h
 try dsimp only at h
 refine Ae<|Ac rfl<|Bw (fst:=[]) (cap:=[]) (vs:=[vN,vI k0]) .plain (bd 127) func127 rfl rfl rfl rfl (e2 rfl rfl) rfl fun J2 D0 Q2=>Ae<|Af rfl<|Aa<|Aj<|Ae<|Ac rfl<|Ab (FV.lss (i:=k0) (j:=0) rfl rfl)<|Aa<|AS rfl h (fun U0 h=>?_) (fun U0 h=>?_)
 refine Al ?_
 cases h
 refine Ap<|Aj<|Ae<|Ac rfl<|Ac rfl<|Ab (FV.capNil underlying51 rfl)<|Ac rfl<|Ab (FV.len_slice underlying51 rfl)<|Ab (FV.sub (i:=0) (j:=0) (r:=0) rfl rfl (by decide))<|bk h fun I0 Z1 h=>Ab (FV.subc (i:=k0) (j:=0) rfl rfl Z1)<|Af rfl<|Aa<|Ae<|Ac rfl<|Ab (FV.gtr (i:=I0) (j:=0) rfl rfl)<|Aa<|AS rfl h (fun V0 h=>?_) (fun V0 h=>?_)
 refine Al<|Ac rfl<|Ac rfl<|Ab (FV.capNil underlying51 rfl)<|Ab (FV.cutNil (sz:=16) (kn:=.i64) rfl rfl rfl)<|Ac rfl<|bk h fun W2 b2 h=>?_
 obtain ⟨H1,I1,J1⟩:=oq b2
 refine Bq .plain rfl (DoesL.appZ (α:=Tb) (k:=I0.toNat) (kq:=.i64) u0 I1 J1 cZ underlying3 rfl (by rw [<- H1]; rfl)) fun b3 g3 ⟨A0,B0,X1,y0,M2⟩=>Ac rfl<|Ab (FV.len_slice underlying51 rfl)<|Ab (FV.cutRm (sz:=16) (kn:=.i64) rfl X1 rfl rfl)<|Af rfl<|Aa<|Ae<|Ac rfl<|Af rfl<|Aa<|Aq rfl<|Ao (u:=(.slice (some ⟨A0,0,none⟩) 0 B0)) D0 func127 rfl (.cons (.tmp rfl) .nil) rfl<|Af rfl<|Aa<|Aj<|Ae<|Ac rfl<|Ab (AV (xs:=a0) underlying172 rfl (AE h0_0 y0))<|Ac rfl<|Aa<|Av ?_
 obtain ⟨R2,K1,y1⟩:=ao h
 refine MX.lf (α:=Nat × (List Tb) × Value × (List Value)) (fun ⟨b0,s0,g0,p0⟩=>[(6,g0),(25,v0_0),(26,vI ((a0.length:Nat):Int)),(27,vI ((b0:Nat):Int))]) (fun ⟨b0,s0,g0,p0⟩=>[rr w 34 Tb g0 s0.length p0]) (fun ⟨b0,s0,g0,p0⟩ J0=>Cells J0 (bl [rr w 34 Tb g0 s0.length p0] ++ L) p0 s0) (fun ⟨b0,s0,g0,p0⟩=>(b0,s0)) (0,([]:List Tb),(.slice (some ⟨A0,0,none⟩) 0 B0),[]) K1 y0 (AF (cs:=[]) (xs:=([]:List Tb)) y0 L (AL _ _)) ?_
 rintro A2 ⟨b0,s0,g0,p0⟩ J0 Y0 v0 g1 E0 h
 unfold aj_l1 at h
 try dsimp only at h
 refine Ae<|Ab (AW (i:=b0) (j:=a0.length) rfl rfl)<|Aa<|Aj<|AS rfl h (fun M0 h=>?_) (fun M0 h=>?_)
 refine Ap<|Aj<|Av<|Ae<|bk h fun s2 c2 h=>?_
 obtain ⟨x2,D2,u1,B1,G2,Q1,E1⟩:=Bc (AE h0_0 v0) c2
 obtain ⟨X2,rfl,R1⟩:=bT Q1
 refine Ab (Bi 1 b0 rfl u1 rfl rfl B1)<|Bo rfl (E1 0 _ rfl)<|Af rfl<|Aa<|Al<|Ac rfl<|Ac rfl<|bk h fun u2 j2 h=>Bq .plain rfl (Be (α:=Tb) (ys:=s2) j2 v0 (fun _ _=>.hd) cZ rfl rfl E0 (Src.rep R1)) fun p2 c3 ⟨W0,c1,j1,s1⟩=>Af rfl<|Aa<|Aw<|Al<|Ab (Ba (i:=b0) (j:=1) rfl rfl (by omega))<|Ac rfl<|Aa<|Y0 (b0 + 1,u2,p2,W0) c1 (Tt g1 j1) s1 h
 refine AZ rfl ?_
 have h:=y1 _ h
 try dsimp only at h
 refine Ae<|Ac rfl<|Af rfl<|Aa<|Aq rfl<|Ao (u:=g0) hb0 func61 rfl (.cons (.tmp rfl) .nil) rfl ?_
 cases h
 exact ⟨v0.ag,fun p q=>⟨g0,p0,rfl,v0.agree q,Cells.keep0 E0 q⟩⟩
 refine Ap<|Ae<|Ac rfl<|Af rfl<|Aa<|Aq rfl<|Ao (u:=vN) D0 func127 rfl (.cons (.tmp rfl) .nil) rfl<|Af rfl<|Aa<|Aj<|Ae<|Ac rfl<|Ab (AV (xs:=a0) underlying172 rfl (AE h0_0 u0))<|Ac rfl<|Aa<|Av ?_
 have C0:=u0.nilRow 34 (Rep.size Tb)
 have K2:=BQ u0 34 (Rep.size Tb)
 obtain ⟨U2,M1,z1⟩:=ao h
 refine MX.lf (α:=Nat × (List Tb) × Value × (List Value)) (fun ⟨c0,t0,j0,q0⟩=>[(6,j0),(25,v0_0),(26,vI ((a0.length:Nat):Int)),(27,vI ((c0:Nat):Int))]) (fun ⟨c0,t0,j0,q0⟩=>[rr w 34 Tb j0 t0.length q0]) (fun ⟨c0,t0,j0,q0⟩ K0=>Cells K0 (bl [rr w 34 Tb j0 t0.length q0] ++ L) q0 t0) (fun ⟨c0,t0,j0,q0⟩=>(c0,t0)) (0,([]:List Tb),vN,[]) M1 C0 (AF (cs:=[]) (xs:=([]:List Tb)) C0 L (AL _ _)) ?_
 rintro B2 ⟨c0,t0,j0,q0⟩ K0 Z0 x0 k1 F0 h
 unfold aj_l2 at h
 try dsimp only at h
 refine Ae<|Ab (AW (i:=c0) (j:=a0.length) rfl rfl)<|Aa<|Aj<|AS rfl h (fun P0 h=>?_) (fun P0 h=>?_)
 refine Ap<|Aj<|Av<|Ae<|bk h fun t2 d2 h=>?_
 obtain ⟨y2,E2,v1,C1,H2,U1,F1⟩:=Bc (AE h0_0 x0) d2
 obtain ⟨Y2,rfl,V1⟩:=bT U1
 refine Ab (Bi 1 c0 rfl v1 rfl rfl C1)<|Bo rfl (F1 0 _ rfl)<|Af rfl<|Aa<|Al<|Ac rfl<|Ac rfl<|bk h fun v2 k2 h=>Bq .plain rfl (Be (α:=Tb) (ys:=t2) k2 x0 (fun _ _=>.hd) cZ rfl rfl F0 (Src.rep V1)) fun q2 d3 ⟨X0,d1,p1,t1⟩=>Af rfl<|Aa<|Aw<|Al<|Ab (Ba (i:=c0) (j:=1) rfl rfl (by omega))<|Ac rfl<|Aa<|Z0 (c0 + 1,v2,q2,X0) d1 (Tt k1 p1) t1 h
 refine AZ rfl ?_
 have h:=z1 _ h
 try dsimp only at h
 refine Ae<|Ac rfl<|Af rfl<|Aa<|Aq rfl<|Ao (u:=j0) hb0 func61 rfl (.cons (.tmp rfl) .nil) rfl ?_
 cases h
 exact ⟨x0.ag,fun p q=>⟨j0,q0,rfl,x0.agree q,Cells.keep0 F0 q⟩⟩
theorem el172:ElT Tryz.prog 172 51 (Rep.size (List Tb)) 24 vN [vN]:=⟨underlying172,by kernel_rfl,rfl,rfl,rfl,rfl⟩
def ak_l1 (n:Nat) (a4:Bool) (d0:Int × (List Tb) -> Option (List Tb)):Int × (List Tb) -> Option (List Tb)
  | (c0,b0)=>(if a4 = true then (if b0.length < 401 then (cD c0 7).bind fun g0=>(bS_p n g0 (3:Int)).bind fun p0=>(app b0 ([p0.1]:List Tb)).bind fun k0=>(chk (c0 + 1)).bind fun j0=>d0 (j0,k0) else some b0) else some b0)
def ak_l2 (n:Nat) (c0:List Ti) (g0:Nat × (List Tb) -> Option (List Tb)):Nat × (List Tb) -> Option (List Tb)
  | (b0,d0)=>(if b0 < c0.length then (c0[b0]?).bind fun j0=>(bp_p n j0).bind fun p0=>(app d0 ([p0]:List Tb)).bind fun k0=>g0 (b0 + 1,k0) else some d0)
def ak_p (n:Nat) (a0:List Ta) (a1:Th) (a2:Tl) (a3:List Tb) (a4:Bool):Option Bool:=
  (cx_p n).bind fun E0=>(if E0 = true then (cw_p n a0 a1 a2).bind fun b0=>(av_p n b0.1).bind fun G0=>(bw_p n b0.1).bind fun H0=>(if G0 = H0 then (ab_p n a1).bind fun I0=>(bb_p n b0.1 I0).bind fun J0=>(ab_p n a1).bind fun K0=>(ai_p n b0.1 K0).bind fun M0=>(if (J0 == M0) = true then (av_p n b0.2.1).bind fun Q0=>(bw_p n b0.2.1).bind fun U0=>(if Q0 = U0 then (ab_p n a1).bind fun V0=>(bb_p n b0.2.1 V0).bind fun X0=>(ab_p n a1).bind fun Y0=>(ai_p n b0.2.1 Y0).bind fun Z0=>(if (X0 == Z0) = true then (av_p n b0.2.2).bind fun b1=>(bw_p n b0.2.2).bind fun c1=>(if b1 = c1 then (ab_p n a1).bind fun d1=>(bb_p n b0.2.2 d1).bind fun A0=>(ab_p n a1).bind fun B0=>(ai_p n b0.2.2 B0).bind fun C0=>(if (A0 == C0) = true then (cV_p n a2.fA).bind fun j0=>(cg_p n a2.fA).bind fun k0=>(ai_p n j0.1 k0.1).bind fun D0=>(if D0 = true then (if j0.2 = k0.2 then (cut a3 0 ((min a3.length 6:Nat):Int)).bind fun y0=>(bc_p n y0).bind fun d0=>(cut a1.fL 0 ((min a1.fL.length 8:Nat):Int)).bind fun z0=>Option.bind (am (ak_l2 n z0) n (0,([]:List Tb))) (fun c0=>(aj_p n ([c0,d0]:List (List Tb))).bind fun F0=>jn (fun g0=>(bn_p n d0).bind fun p0=>(ap_p n d0).bind fun q0=>(ai_p n p0.1 q0.1).bind fun P0=>(if P0 = true then (if p0.2 = q0.2 then (bn_p n c0).bind fun s0=>(ap_p n c0).bind fun t0=>(ai_p n s0.1 t0.1).bind fun R0=>(if R0 = true then (if s0.2 = t0.2 then (bn_p n g0).bind fun u0=>(ap_p n g0).bind fun v0=>(ai_p n u0.1 v0.1).bind fun W0=>(if W0 = true then (if u0.2 = v0.2 then some true else some false) else some false) else some false) else some false) else some false) else some false)) (fun x0=>Option.bind (am (ak_l1 n a4) n (0,F0)) (x0))) else some false) else some false) else some false) else some false) else some false) else some false) else some false) else some false) else some false)
theorem ak_c (n:Nat) {L w} (hL:hl L w) {a0:List Ta} {v0_0:Value} (h0_0:Rep.R w L [v0_0] a0) (a1:Th) {v1_0:Value} (h1_0:Rep.R w L [v1_0] a1.fL) (a2:Tl) {a3:List Tb} {v3_0:Value} (h3_0:Rep.R w L [v3_0] a3) {a4:Bool}  {r:Bool} (h:ak_p n a0 a1 a2 a3 a4 = some r) :
 Cl 11 #[v0_0,.agg #[v1_0],.agg ((nU a2)).toArray,v3_0,.bool a4] w (ai w fun _ u=>u = .bool r):=by
 unfold ak_p at h
 refine AI func11 rfl rfl rfl fun _ cs0 hb0=>Ae<|RG.bx (AH w) rfl rfl fun X9 q8 j4 H8=>RG.bx j4 rfl rfl fun w16 s8 H0 J8=>Af rfl<|Aa<|Aj<|Ae<|bk h fun I7 D6 h=>Bl (.bool I7) (bd 12) rfl ap (fun p q=>cx_c n (H0.hL0 hL q)  D6) rfl<|Ab (FV.not rfl)<|Aa<|MX.ifnb rfl h (fun G3 h=>?_) (fun G3 h=>?_)
 refine Ap<|Aj<|Ae<|Ac rfl<|Ab (Az rfl (H0.memA .t1))<|Ab (Az rfl (H0.memA .hd))<|bk h fun y22 E6 h=>jE (bd 40) rfl (e3 rfl rfl rfl) (fun p q=>cw_c n (H0.hL hL q) (H0.km h0_0 q) a1 (H0.km h1_0 q) a2 E6) rfl fun w23 F9 P4 ⟨g2,j2,k2,hu_,y1,b2,c2⟩=>?_
 subst hu_
 obtain ⟨B0,K8⟩:=H0.agr P4
 refine Ac rfl<|Aa<|Av<|MX.loop1<|Ae<|Ab (AW (i:=0) (j:=3) rfl rfl)<|Aa<|Aj<|AT rfl<|Ap<|Aj<|Av<|Ae<|Ab (FV.idx1 (cs:=[g2,j2,k2]) (k:=0) (m:=1) (len:=3) rfl rfl rfl rfl rfl (by omega) rfl)<|Af rfl<|Aa<|Aj<|du 16 fun c0 k0=>Rv 0 c0 rfl k0 (fun _=>Ar rfl)<|bk h fun q3 H6 h=>RD.cq 1 3 65528 (vI q3) c0 rfl k0 (bd 16) rfl (e1 rfl) (fun p q=>av_c n (B0.hL0 hL q) (B0.kd y1 q) H6) rfl<|Rv 2 c0 rfl k0 (fun _=>Ar rfl)<|bk h fun s3 I6 h=>RD.cq 3 15 65520 (vI s3) c0 rfl k0 (bd 58) rfl (e1 rfl) (fun p q=>bw_c n (B0.hL0 hL q) (B0.kd y1 q) I6) rfl<|Rv 4 c0 rfl k0 (fun _=>BJ (i:=q3) (j:=s3) rfl rfl)<|Rv 5 c0 rfl k0 (fun _=>Ar rfl)<|RD.ifn (s:=45) rfl h (fun I3 h=>?_) (fun I3 h=>?_)
 refine BH 6 127 c0 rfl k0 (.yes rfl rfl) (fun _=>Ar rfl) rfl<|RD.val (i:=7) (m' :=255) (W:=62208) (tk c0) rfl k0 (.yes rfl rfl) (Az rfl (B0.memA .t1)) rfl<|BH 10 1279 c0 rfl k0 (.yes rfl rfl) (fun _=>Ar rfl) rfl<|RD.val (i:=11) (m' :=3327) (W:=61440) (tk c0) rfl k0 (.yes rfl rfl) (Az rfl (B0.memA .t1)) rfl<|bk h fun y39 J6 h=>AX 8 3583 c0 rfl (.yes rfl rfl) (bd 33) rfl (e1 rfl) (fun p q=>ab_c n (B0.hL hL q) a1 (B0.km h1_0 q) J6) rfl fun w40 G9 Q4 ⟨q9,hu_,J5⟩=>?_
 subst hu_
 obtain ⟨V0,v1⟩:=B0.agr Q4
 refine bk h fun t3 K6 h=>BN (i:=9) (m' :=4095) (W:=61440) (tk c0) rfl k0 (v:=.bool t3) (fst:=[]) (cap:=[]) (.yes rfl rfl) (bd 17) rfl (e2 rfl rfl) (fun p q=>bb_c n (V0.hL0 hL q) (V0.kd (Ag y1 v1) q) (V0.kd J5 q) K6) rfl<|bk h fun y49 M6 h=>AX 12 8191 c0 rfl (.yes rfl rfl) (bd 33) rfl (e1 rfl) (fun p q=>ab_c n (V0.hL hL q) a1 (V0.km h1_0 q) M6) rfl fun w50 H9 R4 ⟨s9,hu_,K5⟩=>?_
 subst hu_
 obtain ⟨t0,M1⟩:=V0.agr R4
 refine bk h fun u3 P6 h=>BN (i:=13) (m' :=16383) (W:=49152) (tk c0) rfl k0 (v:=.bool u3) (fst:=[]) (cap:=[]) (.yes rfl rfl) (bd 39) rfl (e2 rfl rfl) (fun p q=>ai_c n (t0.hL0 hL q) (t0.kd (Ag y1 (Tt v1 M1)) q) (t0.kd K5 q) P6) rfl<|BH 14 32767 c0 rfl k0 (.yes rfl rfl) (fun _=>FV.neqB (a:=t3) (b:=u3) underlying4 rfl rfl) rfl<|Rv 15 c0 rfl k0 (fun _=>Bg rfl rfl)<|AK (dk c0)<|MX.ifnb rfl h (fun J3 h=>?_) (fun J3 h=>?_)
 refine Ap<|Aw<|Al<|Ab (FV.add (i:=0) (j:=1) (r:=1) rfl rfl (by decide))<|Ac rfl<|Aa<|BB<|Ae<|Ab (AW (i:=1) (j:=3) rfl rfl)<|Aa<|Aj<|AT rfl<|Ap<|Aj<|Av<|Ae<|Ab (FV.idx1 (cs:=[g2,j2,k2]) (k:=1) (m:=1) (len:=3) rfl rfl rfl rfl rfl (by omega) rfl)<|Af rfl<|Aa<|Aj<|du 16 fun d0 p0=>Rv 0 d0 rfl p0 (fun _=>Ar rfl)<|bk h fun v3 W6 h=>?_
 have M2:=Ag b2 (Tt v1 M1)
 refine RD.cq 1 3 65528 (vI v3) d0 rfl p0 (bd 16) rfl (e1 rfl) (fun p q=>av_c n (t0.hL0 hL q) (t0.kd M2 q) W6) rfl<|Rv 2 d0 rfl p0 (fun _=>Ar rfl)<|bk h fun x3 b7 h=>RD.cq 3 15 65520 (vI x3) d0 rfl p0 (bd 58) rfl (e1 rfl) (fun p q=>bw_c n (t0.hL0 hL q) (t0.kd M2 q) b7) rfl<|Rv 4 d0 rfl p0 (fun _=>BJ (i:=v3) (j:=x3) rfl rfl)<|Rv 5 d0 rfl p0 (fun _=>Ar rfl)<|RD.ifn (s:=45) rfl h (fun R3 h=>?_) (fun R3 h=>?_)
 refine BH 6 127 d0 rfl p0 (.yes rfl rfl) (fun _=>Ar rfl) rfl<|RD.val (i:=7) (m' :=255) (W:=62208) (tk d0) rfl p0 (.yes rfl rfl) (Az rfl (t0.memA .t1)) rfl<|BH 10 1279 d0 rfl p0 (.yes rfl rfl) (fun _=>Ar rfl) rfl<|RD.val (i:=11) (m' :=3327) (W:=61440) (tk d0) rfl p0 (.yes rfl rfl) (Az rfl (t0.memA .t1)) rfl<|bk h fun y66 d7 h=>AX 8 3583 d0 rfl (.yes rfl rfl) (bd 33) rfl (e1 rfl) (fun p q=>ab_c n (t0.hL hL q) a1 (t0.km h1_0 q) d7) rfl fun w67 R9 b5 ⟨A9,hu_,W5⟩=>?_
 subst hu_
 obtain ⟨X0,D4⟩:=t0.agr b5
 refine bk h fun y3 j7 h=>?_
 have x1:=Tt v1 (Tt M1 D4)
 refine BN (i:=9) (m' :=4095) (W:=61440) (tk d0) rfl p0 (v:=.bool y3) (fst:=[]) (cap:=[]) (.yes rfl rfl) (bd 17) rfl (e2 rfl rfl) (fun p q=>bb_c n (X0.hL0 hL q) (X0.kd (Ag b2 x1) q) (X0.kd W5 q) j7) rfl<|bk h fun y77 p7 h=>AX 12 8191 d0 rfl (.yes rfl rfl) (bd 33) rfl (e1 rfl) (fun p q=>ab_c n (X0.hL hL q) a1 (X0.km h1_0 q) p7) rfl fun w78 U9 c5 ⟨B9,hu_,X5⟩=>?_
 subst hu_
 obtain ⟨u0,U1⟩:=X0.agr c5
 refine bk h fun z3 q7 h=>BN (i:=13) (m' :=16383) (W:=49152) (tk d0) rfl p0 (v:=.bool z3) (fst:=[]) (cap:=[]) (.yes rfl rfl) (bd 39) rfl (e2 rfl rfl) (fun p q=>ai_c n (u0.hL0 hL q) (u0.kd (Ag b2 (Tt x1 U1)) q) (u0.kd X5 q) q7) rfl<|BH 14 32767 d0 rfl p0 (.yes rfl rfl) (fun _=>FV.neqB (a:=y3) (b:=z3) underlying4 rfl rfl) rfl<|Rv 15 d0 rfl p0 (fun _=>Bg rfl rfl)<|AK (dk d0)<|MX.ifnb rfl h (fun Y3 h=>?_) (fun Y3 h=>?_)
 refine Ap<|Aw<|Al<|Ab (FV.add (i:=1) (j:=1) (r:=2) rfl rfl (by decide))<|Ac rfl<|Aa<|BB<|Ae<|Ab (AW (i:=2) (j:=3) rfl rfl)<|Aa<|Aj<|AT rfl<|Ap<|Aj<|Av<|Ae<|Ab (FV.idx1 (cs:=[g2,j2,k2]) (k:=2) (m:=1) (len:=3) rfl rfl rfl rfl rfl (by omega) rfl)<|Af rfl<|Aa<|Aj<|du 16 fun g0 q0=>Rv 0 g0 rfl q0 (fun _=>Ar rfl)<|bk h fun A3 s7 h=>?_
 have P2:=Ag c2 (Tt x1 U1)
 refine RD.cq 1 3 65528 (vI A3) g0 rfl q0 (bd 16) rfl (e1 rfl) (fun p q=>av_c n (u0.hL0 hL q) (u0.kd P2 q) s7) rfl<|Rv 2 g0 rfl q0 (fun _=>Ar rfl)<|bk h fun B3 t7 h=>RD.cq 3 15 65520 (vI B3) g0 rfl q0 (bd 58) rfl (e1 rfl) (fun p q=>bw_c n (u0.hL0 hL q) (u0.kd P2 q) t7) rfl<|Rv 4 g0 rfl q0 (fun _=>BJ (i:=A3) (j:=B3) rfl rfl)<|Rv 5 g0 rfl q0 (fun _=>Ar rfl)<|RD.ifn (s:=45) rfl h (fun Z3 h=>?_) (fun Z3 h=>?_)
 refine BH 6 127 g0 rfl q0 (.yes rfl rfl) (fun _=>Ar rfl) rfl<|RD.val (i:=7) (m' :=255) (W:=62208) (tk g0) rfl q0 (.yes rfl rfl) (Az rfl (u0.memA .t1)) rfl<|BH 10 1279 g0 rfl q0 (.yes rfl rfl) (fun _=>Ar rfl) rfl<|RD.val (i:=11) (m' :=3327) (W:=61440) (tk g0) rfl q0 (.yes rfl rfl) (Az rfl (u0.memA .t1)) rfl<|bk h fun y94 u7 h=>AX 8 3583 g0 rfl (.yes rfl rfl) (bd 33) rfl (e1 rfl) (fun p q=>ab_c n (u0.hL hL q) a1 (u0.km h1_0 q) u7) rfl fun w95 V9 d5 ⟨b9,hu_,D5⟩=>?_
 subst hu_
 obtain ⟨Z0,I4⟩:=u0.agr d5
 refine bk h fun j3 v6 h=>?_
 have Q2:=Tt x1 (Tt U1 I4)
 refine BN (i:=9) (m' :=4095) (W:=61440) (tk g0) rfl q0 (v:=.bool j3) (fst:=[]) (cap:=[]) (.yes rfl rfl) (bd 17) rfl (e2 rfl rfl) (fun p q=>bb_c n (Z0.hL0 hL q) (Z0.kd (Ag c2 Q2) q) (Z0.kd D5 q) v6) rfl<|bk h fun K00 x6 h=>AX 12 8191 g0 rfl (.yes rfl rfl) (bd 33) rfl (e1 rfl) (fun p q=>ab_c n (Z0.hL hL q) a1 (Z0.km h1_0 q) x6) rfl fun W9 C9 J4 ⟨c9,hu_,E5⟩=>?_
 subst hu_
 obtain ⟨P0,x4⟩:=Z0.agr J4
 refine bk h fun k3 y6 h=>BN (i:=13) (m' :=16383) (W:=49152) (tk g0) rfl q0 (v:=.bool k3) (fst:=[]) (cap:=[]) (.yes rfl rfl) (bd 39) rfl (e2 rfl rfl) (fun p q=>ai_c n (P0.hL0 hL q) (P0.kd (Ag c2 (Tt Q2 x4)) q) (P0.kd E5 q) y6) rfl<|BH 14 32767 g0 rfl q0 (.yes rfl rfl) (fun _=>FV.neqB (a:=j3) (b:=k3) underlying4 rfl rfl) rfl<|Rv 15 g0 rfl q0 (fun _=>Bg rfl rfl)<|AK (dk g0)<|MX.ifnb rfl h (fun D3 h=>?_) (fun D3 h=>?_)
 refine Ap<|Aw<|Al<|Ab (FV.add (i:=2) (j:=1) (r:=3) rfl rfl (by decide))<|Ac rfl<|Aa<|BB<|Ae<|Ab (AW (i:=3) (j:=3) rfl rfl)<|Aa<|Aj<|By rfl<|AZ rfl<|Ae<|Bf 2 rfl<|Ab (AQ (cs:=(ab a2.fA)) rfl rfl (ae (P0.memA .hd) 2 16))<|bk h fun F7 z6 h=>jE (bd 14) rfl (e1 rfl) (fun p q=>cV_c n (P0.hL hL q) a2.fA z6) rfl fun Y9 D9 K4 ⟨d9,hu_,F5⟩=>?_
 subst hu_
 obtain ⟨C1,G8⟩:=P0.agr K4
 refine Ac rfl<|Ab (Ai rfl rfl)<|Ab (Ai rfl rfl)<|Af rfl<|Af rfl<|Aa<|Ae<|Bf 2 rfl<|Ab (AQ (cs:=(ab a2.fA)) rfl rfl (ae (C1.memA .hd) 2 16))<|bk h fun G7 A6 h=>jE (bd 59) rfl (e1 rfl) (fun p q=>cg_c n (C1.hL hL q) a2.fA A6) rfl fun Z9 E9 M4 ⟨g9,hu_,G5⟩=>?_
 subst hu_
 obtain ⟨A0,y4⟩:=C1.agr M4
 refine Ac rfl<|Ab (Ai rfl rfl)<|Ab (Ai rfl rfl)<|Af rfl<|Af rfl<|Aa<|Aj<|Ae<|Ac rfl<|Ac rfl<|bk h fun H7 B6 h=>Bl (.bool H7) (bd 39) rfl (e2 rfl rfl) (fun p q=>ai_c n (A0.hL0 hL q) (A0.kd (Ag F5 y4) q) (A0.kd G5 q) B6) rfl<|Ab (FV.not rfl)<|Ac rfl<|RG.ifnb (s:=73) rfl h (fun E3 h=>?_) (fun E3 h=>?_)
 refine AY (Ar rfl)<|AY (Ar rfl)<|AY (BJ (i:=F7.2) (j:=G7.2) rfl rfl)<|BD rfl rfl<|Aa<|BM rfl h (fun F3 h=>?_) (fun F3 h=>?_)
 refine Ap<|Ae<|Ac rfl<|Ac rfl ?_
 have W1:=AE h3_0 A0
 have R8:a3.length <= 281474976710656:=AU W1
 refine Ab (AV (xs:=a3) underlying51 rfl W1)<|Ab (FV.min2N (i:=a3.length) (j:=6) rfl rfl)<|bk h fun J00 q6 h=>RG.valE .plain rfl (FV.cutL (α:=Tb) q6 rfl rfl W1 rfl ⟨_,rfl⟩) fun j9 H5=>bk h fun R0 C6 h=>jE (bd 60) rfl (e1 rfl) (fun p q=>eA (b0:=w.heap.size) (bc_c n (A0.hL hL q) (Ah H5 q) C6) q (Nat.le_trans A0.ag.size q.size)) rfl fun b00 s0 P8 ⟨k9,B1,b6,Z2,g5⟩=>?_
 subst b6
 have U0:=fB A0 Z2
 have I8:=jT A0 Z2
 have j5:=AF (cs:=B1) (xs:=(R0:List Tb)) U0 L (ej g5)
 refine Af rfl<|Aa<|Ae<|Af rfl<|Aa<|Aj<|Ae<|Bf 0 rfl<|Bo rfl ((U0.memA .t2) 0 _ rfl)<|Bf 0 rfl<|Bo rfl ((U0.memA .t2) 0 _ rfl) ?_
 have X1:=AE h1_0 U0
 have U8:a1.fL.length <= 281474976710656:=AU X1
 refine Ab (AV (xs:=a1.fL) underlying64 rfl X1)<|Ab (FV.min2N (i:=a1.fL.length) (j:=8) rfl rfl)<|bk h fun A1 s6 h=>RG.valE .plain rfl (FV.cutL (α:=Ti) s6 rfl rfl X1 rfl ⟨_,rfl⟩) fun x7 Z1=>?_
 have V8:A1.length <= 281474976710656:=AU Z1
 refine Ab (AV (xs:=A1) underlying64 rfl Z1)<|Ac rfl<|Aa<|Av ?_
 have s2:=U0.nilRow 34 (Rep.size Tb)
 have A2:=BQ U0 34 (Rep.size Tb)
 obtain ⟨k4,I1⟩:=AA s2 (.a0 (.a0 .done))
 obtain ⟨X8,B5,y5⟩:=ao h
 refine MX.lf (α:=Nat × (List Tb) × Value × (List Value)) (fun ⟨C0,x0,j0,K0⟩=>[(4,.bool a4),(17,s0),(18,j0),(90,x7),(91,vI ((A1.length:Nat):Int)),(92,vI ((C0:Nat):Int))]) (fun ⟨C0,x0,j0,K0⟩=>[rr w 34 Tb j0 x0.length K0,rr w 34 Tb s0 R0.length B1]) (fun ⟨C0,x0,j0,K0⟩ c3=>Cells c3 (bl [rr w 34 Tb j0 x0.length K0,rr w 34 Tb s0 R0.length B1] ++ L) K0 x0) (fun ⟨C0,x0,j0,K0⟩=>(C0,x0)) (0,([]:List Tb),vN,[]) B5 k4 (AM (AF (cs:=[]) (xs:=([]:List Tb)) s2 L (AL _ _)) I1) ?_
 rintro j8 ⟨C0,x0,j0,K0⟩ c3 d4 k1 J1 I2 h
 unfold ak_l2 at h
 try dsimp only at h
 refine Ae<|Ab (AW (i:=C0) (j:=A1.length) rfl rfl)<|Aa<|Aj<|AS rfl h (fun H3 h=>?_) (fun H3 h=>?_)
 refine Ap<|Aj<|Av<|Ae<|bk h fun j1 p6 h=>?_
 obtain ⟨X7,y8,u5,z5,F8,I5,A5⟩:=Bc (Ag Z1 (Tt A2 (Tt I1 J1))) p6
 obtain ⟨y7,z7,rfl,W2,X2⟩:=op_Ti I5
 refine Ab (Bi 6 C0 rfl u5 rfl rfl z5)<|Ab (Az rfl A5)<|RG.nl [.bool false,vN,.int .u32 0,.bool false,vN,.int .u32 0] k1 fun g00 t8 p4 d1=>AO [.bool j1.fN.fc,y7,.int .u32 (j1.fN.fo.toNat:Int),.bool j1.fD.fc,z7,.int .u32 (j1.fD.fo.toNat:Int)] p4 .hd (o6 rfl (Ay (Ag W2 d1)) rfl rfl (Ay (Ag X2 d1)) rfl) fun j00 b1 K1=>Aa<|Al<|Ac rfl<|Ab (Az rfl (b1.memA .hd))<|bk h fun D0 F6 h=>Bl (.agg ((ab D0)).toArray) (bd 42) rfl (e1 rfl) (fun p q=>bp_c n (b1.hL0 hL q) j1 (b1.kd (Ag W2 (Tt d1 K1)) q) (b1.kd (Ag X2 (Tt d1 K1)) q) F6) rfl<|Ak .plain rfl (AR (α:=Tb) (xs:=([D0]:List Tb)) (vs:=[.agg ((ab D0)).toArray]) (ds' :=(ab D0)) rfl b1 cZ rfl (e1 rfl) (by kernel_rfl) rfl) fun k00 u8 D1 z4=>bk h fun D7 t6 h=>?_
 have R2:=Tt d1 (Tt K1 z4)
 refine Bq .plain rfl (Be (α:=Tb) (ys:=([D0]:List Tb)) t6 D1 (fun _ _=>.t2) cZ rfl rfl (AM I2 R2) (BA (α:=Tb) D1 .hd (AF (cs:=(ab D0)) (xs:=(([D0]:List Tb):List Tb)) D1 L (AB (cs:=(ab D0)) (ds:=[]) (cr D0.fN D0.fD) (AL _ _))))) fun A7 p00 ⟨b4,q4,A4,k5⟩=>Af rfl<|Aa<|Aw<|Al<|Ab (Ba (i:=C0) (j:=1) rfl rfl (by omega))<|Ac rfl<|Aa ?_
 obtain ⟨s4,B2⟩:=AA q4 .d2
 exact d4 (C0 + 1,D7,A7,b4) s4 (Tt J1 (Tt R2 (Tt A4 B2))) (AM k5 B2) h
 refine AZ rfl ?_
 have h:=y5 _ h
 try dsimp only at h
 refine Ae<|Ac rfl<|Ac rfl ?_
 have p1:=Br k1 .hd
 have g1:=Bu (α:=Tb) (v:=j0) (xs:=x0) p1 L (Bb (α:=Tb) k1 .hd I2 hL)
 have u2:=Br p1 .hd
 have s1:=Bs p1 .hd
 have z1:=Bu (α:=Tb) (v:=s0) (xs:=R0) u2 L (Bb (α:=Tb) p1 .hd (AM j5 (Tt A2 (Tt I1 (Tt J1 (Bs k1 .hd))))) hL)
 obtain ⟨Y7,z8,d6,_⟩:=Bm (Ag g1 s1)
 obtain ⟨Z7,A8,g6,_⟩:=Bm z1
 refine Ak .plain rfl (AR (α:=List Tb) (xs:=([x0,R0]:List (List Tb))) (vs:=[j0,s0]) (ds' :=[j0,s0]) rfl u2 el172 rfl (e2 rfl rfl) (by rw [d6,g6]; try kernel_rfl) rfl) fun q00 C3 q1 u1=>?_
 have c1:=Br q1 .hd
 have C2:=Bs q1 .hd
 refine bk h fun p3 G6 h=>jE (bd 61) rfl (e1 rfl) (fun p q=>eA (b0:=w.heap.size) (aj_c n (c1.hL hL q) (Ah (Bu (α:=List Tb) (v:=(vS C3 2)) (xs:=([x0,R0]:List (List Tb))) c1 L (Bb (α:=List Tb) q1 .hd (AF (cs:=[j0,s0]) (xs:=(([x0,R0]:List (List Tb)):List (List Tb))) q1 L (AB (cs:=[j0]) (ds:=[s0]) (Ag g1 (Tt s1 u1)) (AB (cs:=[s0]) (ds:=[]) (Ag z1 u1) (AL _ _)))) hL)) q) G6) q (Nat.le_trans c1.ag.size q.size)) rfl fun s00 C7 Q8 ⟨p9,p2,c6,b3,p5⟩=>?_
 subst c6
 have E1:=fB c1 b3
 have D2:=jT c1 b3
 have q5:=AF (cs:=p2) (xs:=(p3:List Tb)) E1 L (ej p5)
 refine Af rfl<|Aa<|Aj<|Ae<|Af rfl<|Aa<|Av<|MX.xf (α:=(List Tb) × Value × (List Value)) 4 (fun ⟨G0,v0,M0⟩=>[(17,s0),(18,j0),(21,v0)]) (fun ⟨G0,v0,M0⟩=>[rr w 34 Tb v0 G0.length M0]) (fun ⟨G0,v0,M0⟩ d3=>Cells d3 (bl [rr w 34 Tb v0 G0.length M0] ++ L) M0 G0) (fun ⟨G0,v0,M0⟩=>G0) E1 rfl h ?_ ?_
 rintro ⟨G0,v0,M0⟩ d3 F1 E2 s5 h
 try dsimp only at h
 refine Aj<|Ae<|Ac rfl<|Ac rfl<|Ac rfl ?_
 have Y1:=Tt u1 (Tt C2 (Tt D2 E2))
 have K2:=Ag z1 Y1
 obtain ⟨b8,B8,j6,_⟩:=Bm K2
 obtain ⟨c8,C8,k6,_⟩:=Bm (Ag g1 (Tt s1 Y1))
 obtain ⟨d8,D8,v5⟩:=St.rowV (α:=Tb) F1 .hd
 refine Ab (AP (vs:=[s0,j0,v0]) (u:=.agg #[s0,j0,v0]) (e3 rfl rfl rfl) (fun p=>by rw [j6,k6,v5]; try kernel_rfl))<|Ac rfl<|Aa<|Av<|MX.loop1<|Ae<|Ab (AW (i:=0) (j:=3) rfl rfl)<|Aa<|Aj<|AT rfl<|Ap<|Aj<|Av<|Ae<|Ab (FV.idx1 (cs:=[s0,j0,v0]) (k:=0) (m:=1) (len:=3) rfl rfl rfl rfl rfl (by omega) rfl)<|Af rfl<|Aa<|Ae<|Ac rfl<|bk h fun J7 Q6 h=>jE (bd 26) rfl (e1 rfl) (fun p q=>bn_c n (F1.hL hL q) (Ah K2 q) Q6) rfl fun v00 I9 U4 ⟨t9,hu_,M5⟩=>?_
 subst hu_
 obtain ⟨v2,P1⟩:=F1.agr U4
 refine Ac rfl<|Ab (Ai rfl rfl)<|Ab (Ai rfl rfl)<|Af rfl<|Af rfl<|Aa<|Ae<|Ac rfl<|bk h fun K7 R6 h=>jE (bd 62) rfl (e1 rfl) (fun p q=>ap_c n (v2.hL hL q) (Ah (Ag z1 (Tt Y1 P1)) q) R6) rfl fun x00 J9 V4 ⟨u9,hu_,P5⟩=>?_
 subst hu_
 obtain ⟨Q0,Q1⟩:=v2.agr V4
 refine Ac rfl<|Ab (Ai rfl rfl)<|Ab (Ai rfl rfl)<|Af rfl<|Af rfl<|Aa<|Ae<|Ac rfl<|Ac rfl<|bk h fun M7 U6 h=>Bl (.bool M7) (bd 39) rfl (e2 rfl rfl) (fun p q=>ai_c n (Q0.hL0 hL q) (Q0.kd (Ag M5 Q1) q) (Q0.kd P5 q) U6) rfl<|Ab (FV.not rfl)<|Ac rfl<|RG.ifnb (s:=145) rfl h (fun K3 h=>?_) (fun K3 h=>?_)
 refine AY (Ar rfl)<|AY (Ar rfl)<|AY (BJ (i:=J7.2) (j:=K7.2) rfl rfl)<|BD rfl rfl<|Aa<|BM rfl h (fun M3 h=>?_) (fun M3 h=>?_)
 refine Ap<|Aw<|Al<|Ab (FV.add (i:=0) (j:=1) (r:=1) rfl rfl (by decide))<|Ac rfl<|Aa<|BB<|Ae<|Ab (AW (i:=1) (j:=3) rfl rfl)<|Aa<|Aj<|AT rfl<|Ap<|Aj<|Av<|Ae<|Ab (FV.idx1 (cs:=[s0,j0,v0]) (k:=1) (m:=1) (len:=3) rfl rfl rfl rfl rfl (by omega) rfl)<|Af rfl<|Aa<|Ae<|Ac rfl<|bk h fun P7 V6 h=>?_
 have U2:=Tt s1 (Tt u1 (Tt C2 (Tt D2 (Tt E2 (Tt P1 Q1)))))
 refine jE (bd 26) rfl (e1 rfl) (fun p q=>bn_c n (Q0.hL hL q) (Ah (Ag g1 U2) q) V6) rfl fun y00 K9 W4 ⟨v9,hu_,Q5⟩=>?_
 subst hu_
 obtain ⟨x2,F2⟩:=Q0.agr W4
 refine Ac rfl<|Ab (Ai rfl rfl)<|Ab (Ai rfl rfl)<|Af rfl<|Af rfl<|Aa<|Ae<|Ac rfl<|bk h fun Q7 X6 h=>jE (bd 62) rfl (e1 rfl) (fun p q=>ap_c n (x2.hL hL q) (Ah (Ag g1 (Tt U2 F2)) q) X6) rfl fun z00 M9 X4 ⟨x9,hu_,R5⟩=>?_
 subst hu_
 obtain ⟨I0,G2⟩:=x2.agr X4
 refine Ac rfl<|Ab (Ai rfl rfl)<|Ab (Ai rfl rfl)<|Af rfl<|Af rfl<|Aa<|Ae<|Ac rfl<|Ac rfl<|bk h fun R7 Y6 h=>Bl (.bool R7) (bd 39) rfl (e2 rfl rfl) (fun p q=>ai_c n (I0.hL0 hL q) (I0.kd (Ag Q5 G2) q) (I0.kd R5 q) Y6) rfl<|Ab (FV.not rfl)<|Ac rfl<|RG.ifnb (s:=145) rfl h (fun P3 h=>?_) (fun P3 h=>?_)
 refine AY (Ar rfl)<|AY (Ar rfl)<|AY (BJ (i:=P7.2) (j:=Q7.2) rfl rfl)<|BD rfl rfl<|Aa<|BM rfl h (fun Q3 h=>?_) (fun Q3 h=>?_)
 refine Ap<|Aw<|Al<|Ab (FV.add (i:=1) (j:=1) (r:=2) rfl rfl (by decide))<|Ac rfl<|Aa<|BB<|Ae<|Ab (AW (i:=2) (j:=3) rfl rfl)<|Aa<|Aj<|AT rfl<|Ap<|Aj<|Av<|Ae<|Ab (FV.idx1 (cs:=[s0,j0,v0]) (k:=2) (m:=1) (len:=3) rfl rfl rfl rfl rfl (by omega) rfl)<|Af rfl<|Aa<|Ae<|Ac rfl ?_
 have G1:=Br I0 .hd
 have M8:=Bs I0 .hd
 have Y2:=Bu (α:=Tb) (v:=v0) (xs:=G0) G1 L (Bb (α:=Tb) I0 .hd (AM s5 (Tt P1 (Tt Q1 (Tt F2 G2)))) hL)
 refine bk h fun U7 Z6 h=>jE (bd 26) rfl (e1 rfl) (fun p q=>bn_c n (G1.hL hL q) (Ah Y2 q) Z6) rfl fun A00 P9 Y4 ⟨y9,hu_,U5⟩=>?_
 subst hu_
 obtain ⟨y2,B4⟩:=G1.agr Y4
 refine Ac rfl<|Ab (Ai rfl rfl)<|Ab (Ai rfl rfl)<|Af rfl<|Af rfl<|Aa<|Ae<|Ac rfl<|bk h fun V7 c7 h=>jE (bd 62) rfl (e1 rfl) (fun p q=>ap_c n (y2.hL hL q) (Ah (Ag Y2 B4) q) c7) rfl fun B00 Q9 Z4 ⟨z9,hu_,V5⟩=>?_
 subst hu_
 obtain ⟨W0,C4⟩:=y2.agr Z4
 refine Ac rfl<|Ab (Ai rfl rfl)<|Ab (Ai rfl rfl)<|Af rfl<|Af rfl<|Aa<|Ae<|Ac rfl<|Ac rfl<|bk h fun W7 g7 h=>Bl (.bool W7) (bd 39) rfl (e2 rfl rfl) (fun p q=>ai_c n (W0.hL0 hL q) (W0.kd (Ag U5 C4) q) (W0.kd V5 q) g7) rfl<|Ab (FV.not rfl)<|Ac rfl<|RG.ifnb (s:=145) rfl h (fun U3 h=>?_) (fun U3 h=>?_)
 refine AY (Ar rfl)<|AY (Ar rfl)<|AY (BJ (i:=U7.2) (j:=V7.2) rfl rfl)<|BD rfl rfl<|Aa<|BM rfl h (fun V3 h=>?_) (fun V3 h=>?_)
 refine Ap<|Aw<|Al<|Ab (FV.add (i:=2) (j:=1) (r:=3) rfl rfl (by decide))<|Ac rfl<|Aa<|BB<|Ae<|Ab (AW (i:=3) (j:=3) rfl rfl)<|Aa<|Aj<|By rfl<|AZ rfl<|Ae<|Af rfl<|Aa<|Aq rfl<|Bd hb0 func11 rfl rfl ?_
 cases h
 exact W0.gv
 refine Ae<|Af rfl<|Aa<|Aq rfl<|Bd hb0 func11 rfl rfl ?_
 cases h
 exact W0.gv
 refine Ax<|Ax<|Ax<|RG.pt rfl rfl<|Aa<|AT rfl<|Ae<|Af rfl<|Aa<|Aq rfl<|Bd hb0 func11 rfl rfl ?_
 cases h
 exact W0.gv
 refine Ae<|Af rfl<|Aa<|Aq rfl<|Bd hb0 func11 rfl rfl ?_
 cases h
 exact I0.gv
 refine Ax<|Ax<|Ax<|RG.pt rfl rfl<|Aa<|AT rfl<|Ae<|Af rfl<|Aa<|Aq rfl<|Bd hb0 func11 rfl rfl ?_
 cases h
 exact I0.gv
 refine Ae<|Af rfl<|Aa<|Aq rfl<|Bd hb0 func11 rfl rfl ?_
 cases h
 exact Q0.gv
 refine Ax<|Ax<|Ax<|RG.pt rfl rfl<|Aa<|AT rfl<|Ae<|Af rfl<|Aa<|Aq rfl<|Bd hb0 func11 rfl rfl ?_
 cases h
 exact Q0.gv
 intro k8 q2 h
 try dsimp only at h
 obtain ⟨Y8,C5,J2⟩:=ao h
 refine MX.lf (α:=Int × (List Tb) × Value × (List Value)) (fun ⟨J0,y0,F0,E0⟩=>[(4,.bool a4),(17,s0),(18,j0),(21,F0),(22,vI J0)]) (fun ⟨J0,y0,F0,E0⟩=>[rr w 34 Tb F0 y0.length E0]) (fun ⟨J0,y0,F0,E0⟩ g3=>Cells g3 (bl [rr w 34 Tb F0 y0.length E0] ++ L) E0 y0) (fun ⟨J0,y0,F0,E0⟩=>(J0,y0)) (0,p3,C7,p2) C5 E1 q5 ?_
 rintro p8 ⟨J0,y0,F0,E0⟩ g3 g4 Y0 R1 V1 h
 unfold ak_l1 at h
 try dsimp only at h
 refine Aj<|Ae<|Ac rfl<|Ac rfl<|RG.ifb (s:=107) rfl h (fun W3 h=>?_) (fun W3 h=>?_)
 refine AY (Ar rfl) ?_
 have W8:y0.length <= 4294967296:=St.rowLe (α:=Tb) Y0 .hd
 obtain ⟨g8,E8,x5⟩:=St.rowV (α:=Tb) Y0 .hd
 refine AY (FV.lenV underlying51 rfl x5)<|AY (AW (i:=y0.length) (j:=401) rfl rfl)<|RG.pt rfl rfl<|Aa<|AS rfl h (fun X3 h=>?_) (fun X3 h=>?_)
 refine Ap<|Aj<|Av<|Ae<|Ac rfl<|bk h fun Z8 Y5 h=>Ab (FV.remc (i:=J0) (j:=7) rfl rfl Y5)<|bk h fun z0 k7 h=>Bl (.tuple #[.agg ((ab z0.1)).toArray,vI z0.2]) (bd 34) rfl (e2 rfl rfl) (fun p q=>bS_c n (Y0.hL0 hL q)  k7) rfl<|Ac rfl<|Ab (Ai rfl rfl)<|Ab (Ai rfl rfl)<|RG.nl zL Y0 fun D00 v8 t4 E4=>AO (ab z0.1) t4 .hd (ak rfl) fun E00 z2 F4=>Af rfl<|Aa<|Al<|Ac rfl<|Ab (Az rfl (z2.memA .hd))<|Ak .plain rfl (AR (α:=Tb) (xs:=([z0.1]:List Tb)) (vs:=[.agg ((ab z0.1)).toArray]) (ds' :=(ab z0.1)) rfl z2 cZ rfl (e1 rfl) (by kernel_rfl) rfl) fun F00 x8 H1 G4=>bk h fun E7 u6 h=>?_
 have V2:=Tt E4 (Tt F4 G4)
 refine Bq .plain rfl (Be (α:=Tb) (ys:=([z0.1]:List Tb)) u6 H1 (fun _ _=>.t2) cZ rfl rfl (AM V1 V2) (BA (α:=Tb) H1 .hd (AF (cs:=(ab z0.1)) (xs:=(([z0.1]:List Tb):List Tb)) H1 L (AB (cs:=(ab z0.1)) (ds:=[]) (cr z0.1.fN z0.1.fD) (AL _ _))))) fun B7 H00 ⟨c4,u4,H4,t5⟩=>Af rfl<|Aa<|Aw<|Al<|Ac rfl<|bk h fun v7 Z5 h=>Ab (FV.addc (i:=J0) (j:=1) rfl rfl Z5)<|Af rfl<|Aa ?_
 obtain ⟨v4,H2⟩:=AA u4 .d2
 exact g4 (v7,E7,B7,c4) v4 (Tt R1 (Tt V2 (Tt H4 H2))) (AM t5 H2) h
 refine AZ rfl ?_
 have h:=J2 _ h
 try dsimp only at h
 exact q2 (y0,F0,E0) Y0 R1 V1 h
 refine Ax<|Ax<|Ax<|BD rfl rfl<|Aa<|By rfl<|AZ rfl ?_
 have h:=J2 _ h
 try dsimp only at h
 exact q2 (y0,F0,E0) Y0 R1 V1 h
 refine Ae<|Af rfl<|Aa<|Aq rfl<|Bd hb0 func11 rfl rfl ?_
 cases h
 exact A0.gv
 refine Ax<|Ax<|Ax<|RG.pt rfl rfl<|Aa<|AT rfl<|Ae<|Af rfl<|Aa<|Aq rfl<|Bd hb0 func11 rfl rfl ?_
 cases h
 exact A0.gv
 refine Ae<|Af rfl<|Aa<|Aq rfl<|Bd hb0 func11 rfl rfl ?_
 cases h
 exact P0.gv
 refine Bx 32767 1 [(6,46),(7,47),(8,48),(9,49),(10,50),(11,51),(12,52),(13,53),(14,54)] (F:=[(45,true)]) (U:=[]) g0 q0 (.cons rfl .nil) .nil ?_
 dsimp only [aO,List.map]
 refine Rv 15 g0 rfl q0 (fun _=>BK rfl rfl)<|AK (dk g0)<|AT rfl<|Ae<|Af rfl<|Aa<|Aq rfl<|Bd hb0 func11 rfl rfl ?_
 cases h
 exact u0.gv
 refine Ae<|Af rfl<|Aa<|Aq rfl<|Bd hb0 func11 rfl rfl ?_
 cases h
 exact u0.gv
 refine Bx 32767 1 [(6,46),(7,47),(8,48),(9,49),(10,50),(11,51),(12,52),(13,53),(14,54)] (F:=[(45,true)]) (U:=[]) d0 p0 (.cons rfl .nil) .nil ?_
 dsimp only [aO,List.map]
 refine Rv 15 d0 rfl p0 (fun _=>BK rfl rfl)<|AK (dk d0)<|AT rfl<|Ae<|Af rfl<|Aa<|Aq rfl<|Bd hb0 func11 rfl rfl ?_
 cases h
 exact t0.gv
 refine Ae<|Af rfl<|Aa<|Aq rfl<|Bd hb0 func11 rfl rfl ?_
 cases h
 exact t0.gv
 refine Bx 32767 1 [(6,46),(7,47),(8,48),(9,49),(10,50),(11,51),(12,52),(13,53),(14,54)] (F:=[(45,true)]) (U:=[]) c0 k0 (.cons rfl .nil) .nil ?_
 dsimp only [aO,List.map]
 refine Rv 15 c0 rfl k0 (fun _=>BK rfl rfl)<|AK (dk c0)<|AT rfl<|Ae<|Af rfl<|Aa<|Aq rfl<|Bd hb0 func11 rfl rfl ?_
 cases h
 exact B0.gv
 refine Ae<|Af rfl<|Aa<|Aq rfl<|Bd hb0 func11 rfl rfl ?_
 cases h
 exact H0.gv
end Go.Proofs.YtkommhmbkbhmlaaGreat
