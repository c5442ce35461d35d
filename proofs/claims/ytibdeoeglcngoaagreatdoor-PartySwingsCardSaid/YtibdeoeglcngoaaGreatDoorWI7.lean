import Derived.Test.YtibdeoeglcngoaaGreatDoorWI6
namespace Go.Proofs.YtibdeoeglcngoaaGreatDoor
open Go Go.RowKit Tryz
set_option maxRecDepth 4000
set_option maxHeartbeats 4000000

def cq_p (n:Nat) (a0:Th) (_a1:Th):Option Int:=
  (bp_p n a0.fv).bind fun b0=>some b0
theorem cq_c (n:Nat) {L w} (hL:hl L w) (a0:Th) {v0_1:Value} (h0_1:Rep.R w L [v0_1] a0.fv.fo) {v0_3:Value} (_h0_3:Rep.R w L [v0_3] a0.fp.fo) (a1:Th) {v1_1:Value} (_h1_1:Rep.R w L [v1_1] a1.fv.fo) {v1_3:Value} (_h1_3:Rep.R w L [v1_3] a1.fp.fo)  {r:Int} (h:cq_p n a0 a1 = some r) :
 Cl 84 #[.agg #[.bool a0.fv.fj,v0_1,.bool a0.fp.fj,v0_3],.agg #[.bool a1.fv.fj,v1_1,.bool a1.fp.fj,v1_3]] w (ak w fun _ u=>u = vI r):=by
 unfold cq_p at h
 refine AC func84 rfl rfl rfl fun _ cs0 hb0=>Ae<|RG.bx (Ax w) rfl rfl fun t0 j0 c0 q0=>RG.bx c0 rfl rfl fun u0 p0 b0 s0=>Ag rfl<|Aa<|Ae<|Bk 0 rfl<|Ac (Bn (cs:=[.bool a0.fv.fj,v0_1]) rfl rfl (ar (b0.memA .t1) 0 2))<|bk h fun g0 d0 h=>Bf (vI g0) (bd 85) rfl (e1 rfl) (fun p q=>bp_c n (b0.hL0 hL q) a0.fv (b0.k0 h0_1 q) d0) rfl<|Ag rfl<|Aa<|Am rfl<|AU hb0 func84 rfl rfl ?_
 cases h
 exact b0.gv
def ct_p (n:Nat) (a0:Ta):Option (Int × Int):=
  (aD_p n ([a0,a0]:List Ta)).bind fun b0=>(if b0 = true then (ay_p n a0).bind fun c0=>(ay_p n a0).bind fun d0=>(cq_p n c0 d0).bind fun g0=>some (g0,(0:Int)) else some ((0:Int),(20:Int)))
theorem ct_c (n:Nat) {L w} (hL:hl L w) (a0:Ta)  {r:Int × Int} (h:ct_p n a0 = some r) :
 Cl 34 #[.agg ((ac a0)).toArray] w (ak w fun _ u=>u = .tuple #[vI r.1,vI r.2]):=by
 unfold ct_p at h
 refine AC func34 rfl rfl rfl fun _ cs0 hb0=>Ae<|RG.bx (Ax w) rfl rfl fun p1 K0 j0 U0=>Ag rfl<|Ag rfl<|Aa<|Ae<|Ac (AD rfl (j0.memA .hd))<|Ac (AD rfl (j0.memA .hd))<|Bq (fst:=[]) (cap:=[]) (vs:=[.agg ((ac a0)).toArray,.agg ((ac a0)).toArray,.func (.func 84) #[] #[]]) .plain (bd 83) func83 rfl rfl rfl rfl (e3 rfl rfl rfl) rfl fun R0 s0 Z0=>Ae<|RG.bx j0 rfl rfl fun q1 M0 v0 V0=>RG.bx v0 rfl rfl fun s1 P0 k0 W0=>Ag rfl<|Ag rfl<|Aa<|Ak<|Ae<|Ac (AD rfl (k0.memA .t1))<|Ac (AD rfl (k0.memA .hd))<|Al .plain rfl (Ba (α:=Ta) (xs:=([a0,a0]:List Ta)) (vs:=[.agg ((ac a0)).toArray,.agg ((ac a0)).toArray]) (ds' :=(ac a0 ++ ac a0)) rfl k0 cw rfl (e2 rfl rfl) (by kernel_rfl) rfl) fun u1 Q0 c0 X0=>bk h fun H0 D0 h=>Bf (.bool H0) (bd 116) rfl (e1 rfl) (fun p q=>aD_c n (c0.hL0 hL q) (Av (St.lend (α:=Ta) (L:=L) c0 .hd (AE (cs:=(ac a0 ++ ac a0)) (xs:=(([a0,a0]:List Ta):List Ta)) c0 L (Ar (cs:=(ac a0)) (ds:=(ac a0)) (aR a0.fN a0.fD) (Ar (cs:=(ac a0)) (ds:=[]) (aR a0.fN a0.fD) (AR _ _)))) hL) q) D0) rfl<|Ac (BD rfl)<|Aa<|MX.ifnb rfl h (fun u0 h=>?_) (fun u0 h=>?_)
 refine Ap<|Ak<|du 8 fun b0 g0=>Rv 0 b0 rfl g0 (fun _=>Aj rfl)<|Rx 1 244 b0 rfl g0 (AD rfl (c0.memA .t2))<|Rx 3 240 b0 rfl g0 (AD rfl (c0.memA .t1))<|bk h fun I0 E0 h=>BA 2 15 b0 rfl .plain (bd 117) rfl (e1 rfl) (fun p q=>ay_c n (c0.hL hL q) a0 E0) rfl fun v1 j1 x0 ⟨b1,c1,hu_,z0,A0⟩=>?_
 subst hu_
 obtain ⟨p0,Y0⟩:=c0.agr x0
 refine bk h fun J0 F0 h=>BA 4 31 b0 rfl .plain (bd 117) rfl (e1 rfl) (fun p q=>ay_c n (p0.hL hL q) a0 F0) rfl fun x1 k1 y0 ⟨d1,g1,hu_,B0,C0⟩=>?_
 subst hu_
 obtain ⟨d0,q0⟩:=p0.agr y0
 refine bk h fun t0 G0 h=>RD.cq 5 63 192 (vI t0) b0 rfl g0 (bd 84) rfl (e2 rfl rfl) (fun p q=>cq_c n (d0.hL0 hL q) I0 (d0.kd (Az z0 q0) q) (d0.kd (Az A0 q0) q) J0 (d0.kd B0 q) (d0.kd C0 q) G0) rfl<|Rv 6 b0 rfl g0 (fun _=>Bc rfl)<|Rv 7 b0 rfl g0 (fun _=>Bc rfl)<|AH (dk b0)<|Am rfl<|Aq (u:=.tuple #[vI t0,vI 0]) s0 func83 rfl (.cons (.tmp rfl) (.cons (.tmp rfl) .nil)) rfl<|Ac (Ai rfl rfl)<|Ac (Ai rfl rfl)<|Ag rfl<|Ag rfl<|Aa<|Am rfl<|Aq hb0 func34 rfl (.cons (.tmp rfl) (.cons (.tmp rfl) .nil)) rfl ?_
 cases h
 exact d0.gv
 refine Ae<|Ag rfl<|Aa<|Ae<|Af rfl<|Ag rfl<|Ag rfl<|Aa<|Am rfl<|Aq (u:=.tuple #[vI 0,vI 20]) s0 func83 rfl (.cons (.tmp rfl) (.cons (.tmp rfl) .nil)) rfl<|Ac (Ai rfl rfl)<|Ac (Ai rfl rfl)<|Ag rfl<|Ag rfl<|Aa<|Am rfl<|Aq hb0 func34 rfl (.cons (.tmp rfl) (.cons (.tmp rfl) .nil)) rfl ?_
 cases h
 exact c0.gv
def ac_l1 (n:Nat) (d0:(List Td) × Int) (t0:Int × Int × Nat -> Option (Bool ⊕ (Int × Int))):Int × Int × Nat -> Option (Bool ⊕ (Int × Int))
  | (q0,s0,c0)=>(if c0 < d0.1.length then (d0.1[c0]?).bind fun b0=>(ct_p n b0.fB).bind fun k0=>(if k0.2 = 0 then (if b0.fF < 1 then some (.inl false) else (chk (q0 + b0.fF)).bind fun u0=>(if b0.fC = u0 then jn (fun (_:Unit)=>jn (fun x0=>t0 (b0.fC,x0,c0 + 1)) (fun j0=>(if k0.1 < 0 then j0 b0.fC else j0 s0))) (fun g0=>(if 0 < c0 then (d0.1[c0 - 1]?).bind fun v0=>(ci_p n v0.fB b0.fB).bind fun p0=>(if p0.2 = 0 then (if 0 <= p0.1 then some (.inl false) else g0 ()) else some (.inl false)) else g0 ())) else some (.inl false))) else some (.inl false)) else some (.inr (q0,s0)))
def ac_l2 (_n:Nat) (s0:(List (List Int)) × Int) (t0:Int × Int × Nat -> Option (Bool ⊕ (Int × Int))):Int × Int × Nat -> Option (Bool ⊕ (Int × Int))
  | (d0,g0,b0)=>(if b0 < s0.1.length then (s0.1[b0]?).bind fun c0=>(if c0.length = 3 then (c0[0]?).bind fun p0=>(c0[1]?).bind fun q0=>(chk (p0 + q0)).bind fun u0=>jn (fun y0=>jn (fun z0=>t0 (y0,z0,b0 + 1)) (fun k0=>(if q0 < p0 then (chk (g0 + 1)).bind fun v0=>k0 v0 else k0 g0))) (fun j0=>(if 0 < u0 then (chk (d0 + 1)).bind fun x0=>j0 x0 else j0 d0)) else some (.inl false)) else some (.inr (d0,g0)))
def ac_p (n:Nat) (a0:Tj) (a1:Ti):Option Bool:=
  (bG_p n).bind fun k0=>(if k0 = true then (ae_p n a0).bind fun b0=>(aS_p n a1 ((b0.1.length:Nat):Int)).bind fun g0=>(co_p n g0 b0.1 b0.2).bind fun c0=>(bF_p n g0 b0.1 b0.2 (0:Int) (1:Int)).bind fun d0=>(if c0.2 = 0 then (if ((c0.1.length:Nat):Int) = b0.2 then thn (ao (ac_l2 n c0) n (0,0,0)) (fun (j0,p0)=>(if j0 = 0 then some (decide (d0.2 = 7)) else thn (ao (ac_l1 n d0) n (0,0,0)) (fun (q0,s0)=>(if d0.2 = 0 then (if q0 = j0 then some (decide (s0 = p0)) else some false) else some false)))) else some false) else some false) else some false)
theorem ac_c (n:Nat) {L w} (hL:hl L w) (a0:Tj) {v0_1:Value} (h0_1:Rep.R w L [v0_1] a0.fE) {v0_2:Value} (h0_2:Rep.R w L [v0_2] a0.fMore) {v0_3:Value} (h0_3:Rep.R w L [v0_3] a0.fLabels) (a1:Ti) {v1_4:Value} (h1_4:Rep.R w L [v1_4] a1.fNums)  {r:Bool} (h:ac_p n a0 a1 = some r) :
 Cl 7 #[.agg #[.int .u8 (a0.fN.toNat:Int),v0_1,v0_2,v0_3,.int .u8 (a0.fK.toNat:Int)],.agg #[.int .u8 (a1.fh.toNat:Int),.int .u8 (a1.fc.toNat:Int),.int .u8 (a1.fe.toNat:Int),.int .u8 (a1.ft.toNat:Int),v1_4]] w (ak w fun _ u=>u = .bool r):=by
 unfold ac_p at h
 refine AC func7 rfl rfl rfl fun _ cs0 hb0=>Ae<|RG.bx (Ax w) rfl rfl fun M5 Z4 F2 x5=>RG.bx F2 rfl rfl fun P5 b5 x0 y5=>Ag rfl<|Aa<|Ak<|Ae<|bk h fun G4 s4 h=>Bf (.bool G4) (bd 10) rfl ai (fun p q=>bG_c n (x0.hL0 hL q)  s4) rfl<|Ac (BD rfl)<|Aa<|MX.ifnb rfl h (fun W1 h=>?_) (fun W1 h=>?_)
 refine Ap<|Ae<|Ac (AD rfl (x0.memA .t1))<|bk h fun v1 t4 h=>jE (bd 21) rfl (e1 rfl) (fun p q=>ae_c n (x0.hL hL q) a0 (x0.km h0_1 q) (x0.km h0_2 q) (x0.km h0_3 q) t4) rfl fun Q5 H5 Z2 ⟨G5,hu_,V0⟩=>?_
 subst hu_
 obtain ⟨P0,z5⟩:=x0.agr Z2
 refine Af rfl<|Ac (Ai rfl rfl)<|Ac (Ai rfl rfl)<|Ag rfl<|Ag rfl<|Aa<|Ae<|Ac (AD rfl (P0.memA .hd))<|Af rfl ?_
 have B5:v1.1.length <= 281474976710656:=AY V0
 refine Ac (Be (xs:=v1.1) underlying39 rfl V0)<|bk h fun K0 u4 h=>jE (bd 22) rfl (e2 rfl rfl) (fun p q=>aS_c n (P0.hL hL q) a1 (P0.km h1_4 q) u4) rfl fun w32 I5 b3 ⟨F4,hu_,p1⟩=>?_
 subst hu_
 obtain ⟨I2,D1⟩:=P0.agr b3
 refine RG.nl [vI 0,vI 0,vI 0,vN] I2 fun R5 c5 J2 U0=>AW [vI K0.fh,vI K0.fc,vI K0.fe,F4] J2 .hd (o4 rfl rfl rfl (Bd (Az p1 U0))) fun U5 b1 j1=>Aa<|Ae<|Ac (AD rfl (b1.memA .hd))<|Af rfl<|Af rfl<|bk h fun v0 v4 h=>jE (bd 23) rfl (e3 rfl rfl rfl) (fun p q=>co_c n (b1.hL hL q) K0 (Av (Az p1 (Tt U0 j1)) q) (Av (Az V0 (Tt D1 (Tt U0 j1))) q) v4) rfl fun X5 J5 c3 ⟨s1,hu_,Q1⟩=>?_
 subst hu_
 obtain ⟨c1,Y2⟩:=b1.agr c3
 refine Af rfl<|Ac (Ai rfl rfl)<|Ac (Ai rfl rfl)<|Ag rfl<|Ag rfl<|Aa<|Ae<|Ac (AD rfl (c1.memA .hd))<|Af rfl<|Af rfl<|bk h fun j0 z4 h=>?_
 have P1:=Tt U0 (Tt j1 Y2)
 refine jE (bd 16) rfl (e5 rfl rfl rfl rfl rfl) (fun p q=>bF_c n (c1.hL hL q) K0 (Av (Az p1 P1) q) (Av (Az V0 (Tt D1 P1)) q) z4) rfl fun Y5 K5 d3 ⟨u0,hu_,q1⟩=>?_
 subst hu_
 obtain ⟨d1,H1⟩:=c1.agr d3
 refine Af rfl<|Ac (Ai rfl rfl)<|Ac (Ai rfl rfl)<|Ag rfl<|Ag rfl<|Aa<|Ak<|Ae<|Af rfl<|Ac (FV.neq (i:=v0.2) (j:=0) rfl rfl)<|Af rfl<|RG.ifn (s:=51) rfl h (fun x2 h=>?_) (fun x2 h=>?_)
 refine AV (Aj rfl) ?_
 have k1:=Az Q1 H1
 have D5:v0.1.length <= 281474976710656:=AY k1
 refine AV (Be (xs:=v0.1) underlying64 rfl k1)<|AV (Aj rfl)<|AV (FV.neq (i:=((v0.1.length:Nat):Int)) (j:=v1.2) rfl rfl)<|RG.pf rfl rfl<|Aa<|MX.ifn rfl h (fun y2 h=>?_) (fun y2 h=>?_)
 refine Ap<|Ae<|Ag rfl<|Ag rfl<|Aa<|Ak<|Ae<|Af rfl<|Ac (Be (xs:=v0.1) underlying64 rfl k1)<|Af rfl<|Aa<|Au ?_
 obtain ⟨G2,g1⟩:=AN d1 .done
 refine tn h fun E5 Q3 I1=>MX.lo (α:=Int × Int × Nat) (fun ⟨p0,q0,s0⟩=>[(10,u0),(11,vI j0.2),(12,vI p0),(13,vI q0),(57,s1),(58,vI ((v0.1.length:Nat):Int)),(59,vI ((s0:Nat):Int))]) (fun ⟨p0,q0,s0⟩=>[]) (fun ⟨p0,q0,s0⟩=>(p0,q0,s0)) (0,0,0) Q3 G2 ?_
 rintro R4 ⟨p0,q0,s0⟩ Z5 D2 E0 R0 h
 unfold ac_l2 at h
 try dsimp only at h
 refine Ae<|Ac (Bm (i:=s0) (j:=v0.1.length) rfl rfl)<|Aa<|Ak<|AI rfl h (fun X1 h=>?_) (fun X1 h=>?_)
 refine Ap<|Ak<|Au<|Ae<|bk h fun u1 k4 h=>?_
 obtain ⟨H4,d5,g3,z3,t5,U3,G3⟩:=Bl (Az Q1 (Tt H1 (Tt g1 R0))) k4
 obtain ⟨E4,rfl,J0⟩:=bv U3
 refine Ac (Bh 1 s0 rfl g3 rfl rfl z3)<|AO rfl (G3 0 _ rfl)<|Ag rfl<|Aa<|Ak<|Ae<|Af rfl ?_
 have A5:u1.length <= 281474976710656:=AY J0
 refine Ac (Be (xs:=u1) underlying38 rfl J0)<|Ac (FV.neqN (i:=u1.length) (j:=3) rfl rfl)<|Aa<|MX.ifn rfl h (fun Y1 h=>?_) (fun Y1 h=>?_)
 refine Ap<|Ak<|Ak<|du 8 fun t0 y0=>Rv 0 t0 rfl y0 (fun _=>Aj rfl)<|bk h fun W0 R1 h=>?_
 obtain ⟨I4,g5,j3,A3,z2,V3,H3⟩:=Bl J0 R1
 have k3:z2 = [vI W0]:=V3; subst k3
 refine Rv 1 t0 rfl y0 (fun _=>Bh 1 0 rfl j3 rfl rfl A3)<|Rx 2 192 t0 rfl y0 (AZ rfl (H3 0 _ rfl))<|Rv 3 t0 rfl y0 (fun _=>Aj rfl)<|bk h fun X0 U1 h=>?_
 obtain ⟨J4,j5,p3,B3,A2,W3,I3⟩:=Bl J0 U1
 have q3:A2 = [vI X0]:=W3; subst q3
 refine Rv 4 t0 rfl y0 (fun _=>Bh 1 1 rfl p3 rfl rfl B3)<|Rx 5 192 t0 rfl y0 (AZ rfl (I3 0 _ rfl))<|bk h fun A4 c4 h=>Rv 6 t0 rfl y0 (fun _=>Bs (i:=W0) (j:=X0) rfl rfl c4)<|Rv 7 t0 rfl y0 (fun _=>FV.gtr (i:=A4) (j:=0) rfl rfl)<|AH (dk t0)<|MX.jo (α:=Int) (fun D0=>[(10,u0),(11,vI j0.2),(12,vI D0),(13,vI q0),(57,s1),(58,vI ((v0.1.length:Nat):Int)),(59,vI ((s0:Nat):Int)),(15,E4)]) (fun D0=>[]) (fun D0=>D0) E0 h ?_ ?_
 rintro D0 b6 Z0 C1 h
 try dsimp only at h
 refine Ak<|du 7 fun z0 C0=>Rv 0 z0 rfl C0 (fun _=>Aj rfl) ?_
 have J1:=Az J0 C1
 obtain ⟨K4,k5,s3,C3,B2,X3,J3⟩:=Bl J1 R1
 have t3:B2 = [vI W0]:=X3; subst t3
 refine Rv 1 z0 rfl C0 (fun _=>Bh 1 0 rfl s3 rfl rfl C3)<|Rx 2 64 z0 rfl C0 (AZ rfl (J3 0 _ rfl))<|Rv 3 z0 rfl C0 (fun _=>Aj rfl) ?_
 obtain ⟨M4,p5,u3,D3,C2,Y3,K3⟩:=Bl J1 U1
 have v3:C2 = [vI X0]:=Y3; subst v3
 refine Rv 4 z0 rfl C0 (fun _=>Bh 1 1 rfl u3 rfl rfl D3)<|Rx 5 64 z0 rfl C0 (AZ rfl (K3 0 _ rfl))<|Rv 6 z0 rfl C0 (fun _=>FV.gtr (i:=W0) (j:=X0) rfl rfl)<|AH (dk z0)<|MX.jo (α:=Int) (fun G0=>[(10,u0),(11,vI j0.2),(12,vI D0),(13,vI G0),(57,s1),(58,vI ((v0.1.length:Nat):Int)),(59,vI ((s0:Nat):Int))]) (fun G0=>[]) (fun G0=>G0) Z0 h ?_ ?_
 rintro G0 c6 H2 R2 h
 try dsimp only at h
 refine Ay<|Ao<|Ac (Bg (i:=s0) (j:=1) rfl rfl (by omega))<|Af rfl<|Aa<|D2 (D0,G0,s0 + 1) H2 (Tt R0 (Tt C1 R2)) h
 intro V4 z1 h
 try dsimp only at h
 refine AI rfl h (fun Z1 h=>?_) (fun Z1 h=>?_)
 refine Ao<|Af rfl<|bk h fun B4 d4 h=>Ac (Bs (i:=q0) (j:=1) rfl rfl d4)<|Ag rfl<|Aa<|z1 B4 Z0 (Tr.refl _ _) h
 refine Ap<|z1 q0 Z0 (Tr.refl _ _) h
 intro U4 y1 h
 try dsimp only at h
 refine AI rfl h (fun b2 h=>?_) (fun b2 h=>?_)
 refine Ao<|Af rfl<|bk h fun C4 g4 h=>Ac (Bs (i:=p0) (j:=1) rfl rfl g4)<|Ag rfl<|Aa<|y1 C4 E0 (Tr.refl _ _) h
 refine Ap<|y1 p0 E0 (Tr.refl _ _) h
 refine Ae<|Ag rfl<|Aa ?_
 have h:=ax h I1
 refine Am rfl<|AU hb0 func7 rfl rfl ?_
 cases h
 exact E0.gv
 refine AT rfl ?_
 have h:=aF h I1
 try dsimp only at h
 refine Ak<|Ae<|Af rfl<|Ac (FV.eql (i:=p0) (j:=0) rfl rfl)<|Aa<|AI rfl h (fun c2 h=>?_) (fun c2 h=>?_)
 refine Ae<|Af rfl<|Ac (FV.eql (i:=j0.2) (j:=7) rfl rfl)<|Ag rfl<|Aa<|Am rfl<|AU hb0 func7 rfl rfl ?_
 cases h
 exact E0.gv
 refine Ap<|Ae<|Ag rfl<|Ag rfl<|Aa<|Ak<|Ae<|Af rfl ?_
 have K1:=Az q1 (Tt g1 R0)
 have C5:j0.1.length <= 281474976710656:=AY K1
 refine Ac (Be (xs:=j0.1) underlying52 rfl K1)<|Af rfl<|Aa<|Au<|tn h fun F5 R3 F0=>MX.lo (α:=Int × Int × Nat) (fun ⟨A0,B0,d0⟩=>[(10,u0),(11,vI j0.2),(12,vI p0),(13,vI q0),(16,vI A0),(17,vI B0),(90,u0),(91,vI ((j0.1.length:Nat):Int)),(92,vI ((d0:Nat):Int))]) (fun ⟨A0,B0,d0⟩=>[]) (fun ⟨A0,B0,d0⟩=>(A0,B0,d0)) (0,0,0) R3 E0 ?_
 rintro W4 ⟨A0,B0,d0⟩ d6 E2 Q0 E1 h
 unfold ac_l1 at h
 try dsimp only at h
 refine Ae<|Ac (Bm (i:=d0) (j:=j0.1.length) rfl rfl)<|Aa<|Ak<|AI rfl h (fun d2 h=>?_) (fun d2 h=>?_)
 refine Ap<|Ak<|Au<|Ae<|Af rfl<|bk h fun k0 p4 h=>?_
 have M1:=Tt g1 (Tt R0 E1)
 obtain ⟨P4,q5,x3,E3,u5,Z3,M3⟩:=Bl (Az q1 M1) p4
 obtain rfl:=dU Z3
 refine Ac (Bh 18 d0 rfl x3 rfl rfl E3)<|Ac (AD rfl M3)<|RG.nl [vW 0,vW 0,vW 0,vW 0,vW 0,vW 0,vW 0,vW 0,vW 0,vW 0,vW 0,vW 0,vW 0,vW 0,vW 0,vW 0,vI 0,vI 0] Q0 fun V5 x1 K2 F1=>Ag rfl<|AW (gk k0) K2 .hd (aq rfl) fun W5 b0 G1=>Aa<|Ae<|Bk 0 rfl<|Ac (Bn (cs:=(ac k0.fB)) rfl rfl (ar (b0.memA .hd) 0 16))<|bk h fun M0 x4 h=>Bf (.tuple #[vI M0.1,vI M0.2]) (bd 34) rfl (e1 rfl) (fun p q=>ct_c n (b0.hL0 hL q) k0.fB x4) rfl<|Af rfl<|Ac (Ai rfl rfl)<|Ac (Ai rfl rfl)<|Ag rfl<|Ag rfl<|Aa<|Ak<|Ae<|Af rfl<|Ac (FV.neq (i:=M0.2) (j:=0) rfl rfl)<|Af rfl<|RG.ifn (s:=105) rfl h (fun g2 h=>?_) (fun g2 h=>?_)
 refine RG.fg 17 rfl<|AV (AZ rfl ((b0.memA .hd) 17 _ rfl))<|AV (FV.lss (i:=k0.fF) (j:=1) rfl rfl)<|RG.pf rfl rfl<|Af rfl<|RG.ifd (s:=110) rfl h (fun j2 h=>?_) (fun j2 h=>?_)
 refine AG<|AG<|AG<|AG<|AG<|AG<|AG<|RG.pt rfl rfl<|Aa<|Br rfl<|Ae<|Ag rfl<|Aa ?_
 have h:=ax h F0
 refine Am rfl<|AU hb0 func7 rfl rfl ?_
 cases h
 exact b0.gv
 refine RG.fg 16 rfl<|AV (AZ rfl ((b0.memA .hd) 16 _ rfl))<|AV (Aj rfl)<|RG.fg 17 rfl<|AV (AZ rfl ((b0.memA .hd) 17 _ rfl))<|bk h fun D4 j4 h=>AV (Bs (i:=A0) (j:=k0.fF) rfl rfl j4)<|AV (FV.neq (i:=k0.fC) (j:=D4) rfl rfl)<|RG.pf rfl rfl<|Aa<|MX.ifn rfl h (fun k2 h=>?_) (fun k2 h=>?_)
 refine Ap<|Ak<|Ae<|Af rfl<|Ac (FV.gtrN (i:=d0) (j:=0) rfl rfl)<|Aa<|MX.jo (α:=Unit) (fun ()=>[(10,u0),(11,vI j0.2),(12,vI p0),(13,vI q0),(16,vI A0),(17,vI B0),(90,u0),(91,vI ((j0.1.length:Nat):Int)),(92,vI ((d0:Nat):Int)),(19,vP x1),(20,vI M0.1)]) (fun ()=>[.cells x1 (gk k0) 57]) (fun ()=>()) b0 h ?_ ?_
 rintro ⟨⟩ g6 I0 U2 h
 try dsimp only at h
 refine Ae<|Bk 16 rfl<|AO rfl ((I0.memA .hd) 16 _ rfl)<|Ag rfl<|Aa<|Ae<|Af rfl<|Ac (FV.lss (i:=M0.1) (j:=0) rfl rfl)<|Aa<|MX.jo (α:=Int) (fun H0=>[(10,u0),(11,vI j0.2),(12,vI p0),(13,vI q0),(16,vI k0.fC),(17,vI H0),(90,u0),(91,vI ((j0.1.length:Nat):Int)),(92,vI ((d0:Nat):Int))]) (fun H0=>[]) (fun H0=>H0) I0 h ?_ ?_
 rintro H0 j6 M2 V2 h
 try dsimp only at h
 refine Ay<|Ao<|Ac (Bg (i:=d0) (j:=1) rfl rfl (by omega))<|Af rfl<|Aa<|E2 (k0.fC,H0,d0 + 1) M2 (Tt E1 (Tt F1 (Tt G1 (Tt U2 V2)))) h
 intro Y4 B1 h
 try dsimp only at h
 refine AI rfl h (fun p2 h=>?_) (fun p2 h=>?_)
 refine Ao<|Bk 16 rfl<|AO rfl ((I0.memA .hd) 16 _ rfl)<|Ag rfl<|Aa ?_
 obtain ⟨P2,W2⟩:=AN I0 .done
 exact B1 k0.fC P2 W2 h
 refine Ap ?_
 obtain ⟨Q2,X2⟩:=AN I0 .done
 exact B1 B0 Q2 X2 h
 intro X4 A1 h
 try dsimp only at h
 refine AI rfl h (fun q2 h=>?_) (fun q2 h=>?_)
 refine Ak<|du 14 fun c0 g0=>Rv 0 c0 rfl g0 (fun _=>Aj rfl)<|Rv 1 c0 rfl g0 (fun _=>Aj rfl)<|Rv 2 c0 rfl g0 (fun _=>FV.subN (i:=d0) (j:=1) rfl rfl (by omega) (by omega))<|bk h fun V1 q4 h=>?_
 obtain ⟨Q4,s5,y3,F3,v5,b4,P3⟩:=Bl (Az q1 (Tt M1 (Tt F1 G1))) q4
 obtain rfl:=dU b4
 refine Rv 3 c0 rfl g0 (fun _=>Bh 18 (d0 - 1) rfl y3 rfl rfl F3)<|Rv 4 c0 rfl g0 (fun _=>Bo 0 rfl)<|Rx 5 16128 c0 rfl g0 (Bn (cs:=(ac V1.fB)) rfl rfl (ar P3 0 16))<|Rv 6 c0 rfl g0 (fun _=>Bo 0 rfl)<|Rx 7 16128 c0 rfl g0 (Bn (cs:=(ac k0.fB)) rfl rfl (ar (b0.memA .hd) 0 16))<|bk h fun Y0 y4 h=>RD.cq 8 511 15872 (.tuple #[vI Y0.1,vI Y0.2]) c0 rfl g0 (bd 35) rfl (e2 rfl rfl) (fun p q=>ci_c n (b0.hL0 hL q) V1.fB k0.fB y4) rfl<|Rv 9 c0 rfl g0 (fun _=>Aj rfl)<|Rv 10 c0 rfl g0 (fun _=>Ai rfl rfl)<|Rv 11 c0 rfl g0 (fun _=>Ai rfl rfl)<|Rv 12 c0 rfl g0 (fun _=>Bc rfl)<|Rv 13 c0 rfl g0 (fun _=>Bc rfl)<|AH (dk c0)<|Ae<|Af rfl<|Ac (FV.neq (i:=Y0.2) (j:=0) rfl rfl)<|Af rfl<|RG.ifn (s:=135) rfl h (fun s2 h=>?_) (fun s2 h=>?_)
 refine AV (Aj rfl)<|AV (FV.geq (i:=Y0.1) (j:=0) rfl rfl)<|RG.pf rfl rfl<|Aa<|AI rfl h (fun t2 h=>?_) (fun t2 h=>?_)
 refine Ae<|Ag rfl<|Aa ?_
 have h:=ax h F0
 refine Am rfl<|AU hb0 func7 rfl rfl ?_
 cases h
 exact b0.gv
 refine Ap<|A1 () b0 (Tr.refl _ _) h
 refine AG<|AG<|RG.pt rfl rfl<|Aa<|Br rfl<|Ae<|Ag rfl<|Aa ?_
 have h:=ax h F0
 refine Am rfl<|AU hb0 func7 rfl rfl ?_
 cases h
 exact b0.gv
 refine Ap<|A1 () b0 (Tr.refl _ _) h
 refine Ae<|Ag rfl<|Aa ?_
 have h:=ax h F0
 refine Am rfl<|AU hb0 func7 rfl rfl ?_
 cases h
 exact b0.gv
 refine AG<|AG<|AG<|RG.pt rfl rfl<|Af rfl<|AG<|AG<|AG<|AG<|AG<|AG<|AG<|RG.pt rfl rfl<|Aa<|Br rfl<|Ae<|Ag rfl<|Aa ?_
 have h:=ax h F0
 refine Am rfl<|AU hb0 func7 rfl rfl ?_
 cases h
 exact b0.gv
 refine AT rfl ?_
 have h:=aF h F0
 try dsimp only at h
 refine Ae<|Af rfl<|Ac (FV.eql (i:=j0.2) (j:=0) rfl rfl)<|Af rfl<|RG.ifd (s:=148) rfl h (fun u2 h=>?_) (fun u2 h=>?_)
 refine AV (Aj rfl)<|AV (Aj rfl)<|AV (FV.eql (i:=A0) (j:=p0) rfl rfl)<|RG.pt rfl rfl<|Af rfl<|RG.ifd (s:=153) rfl h (fun v2 h=>?_) (fun v2 h=>?_)
 refine AV (Aj rfl)<|AV (Aj rfl)<|AV (FV.eql (i:=B0) (j:=q0) rfl rfl)<|RG.pt rfl rfl<|Ag rfl<|Aa<|Am rfl<|AU hb0 func7 rfl rfl ?_
 cases h
 exact Q0.gv
 refine AG<|AG<|AG<|RG.pf rfl rfl<|Ag rfl<|Aa<|Am rfl<|AU hb0 func7 rfl rfl ?_
 cases h
 exact Q0.gv
 refine AG<|AG<|AG<|RG.pf rfl rfl<|Af rfl<|AG<|AG<|AG<|RG.pf rfl rfl<|Ag rfl<|Aa<|Am rfl<|AU hb0 func7 rfl rfl ?_
 cases h
 exact Q0.gv
 refine Ae<|Ag rfl<|Aa<|Am rfl<|AU hb0 func7 rfl rfl ?_
 cases h
 exact d1.gv
 refine AG<|AG<|AG<|AG<|RG.pt rfl rfl<|Aa<|Br rfl<|Ae<|Ag rfl<|Aa<|Am rfl<|AU hb0 func7 rfl rfl ?_
 cases h
 exact d1.gv
 refine Ae<|Ag rfl<|Aa<|Am rfl<|AU hb0 func7 rfl rfl ?_
 cases h
 exact x0.gv
end Go.Proofs.YtibdeoeglcngoaaGreatDoor
