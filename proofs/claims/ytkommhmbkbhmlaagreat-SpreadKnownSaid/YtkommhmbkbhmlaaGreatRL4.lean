import Derived.Test.YtkommhmbkbhmlaaGreatRL2
namespace Go.Proofs.YtkommhmbkbhmlaaGreat
open Go Go.RowKit Tryz
set_option maxRecDepth 4000
set_option maxHeartbeats 4000000

def ap_l1 (n:Nat) (a0:List Tb) (p0:Nat × Bool × (List Ua) × Bool × (List Ua) -> Oa (Bool × (List Ua) × Bool × (List Ua))):Nat × Bool × (List Ua) × Bool × (List Ua) -> Oa (Bool × (List Ua) × Bool × (List Ua))
  | (c0,d0,j0,g0,k0)=>(if c0 < a0.length then (a0[c0]?).bind fun q0=>(aK_p n q0).bind fun s0=>(ae_p n (⟨(⟨d0,j0⟩:Td),(⟨g0,k0⟩:Td)⟩:Tc) s0).bind fun b0=>p0 (c0 + 1,b0.fh.fc,b0.fh.fj,b0.fe.fc,b0.fe.fj) else some (d0,j0,g0,k0))
def ap_l2 (n:Nat) (a0:List Tb) (g0:Nat -> Oa (Int ⊕ Unit)):Nat -> Oa (Int ⊕ Unit)
  | c0=>(if c0 < a0.length then (a0[c0]?).bind fun d0=>jn (fun j0=>(if j0 = true then some (.inl (50:Int)) else g0 (c0 + 1))) (fun b0=>(bw_p n d0.fm).bind fun p0=>(if p0 = 0 then (bw_p n d0.fP).bind fun q0=>(if q0 = 0 then (aK_p n d0).bind fun s0=>(aI_p n s0.fh).bind fun t0=>(if t0 <= 0 then b0 true else (if 0 < c0 then (a0[c0 - 1]?).bind fun k0=>(am_p n k0.fm).bind fun u0=>(am_p n d0.fm).bind fun v0=>(aG_p n u0 v0).bind fun x0=>b0 (decide (0 <= x0)) else b0 false)) else b0 true) else b0 true)) else some (.inr ()))
def ap_p (n:Nat) (a0:List Tb):Oa Int:=
  (if a0.length < 1 then some (50:Int) else (if 400 < a0.length then some (50:Int) else thn (az (ap_l2 n a0) n 0) (fun _=>(aB_p n (0:Int)).bind fun b0=>Option.bind (az (ap_l1 n a0) n (0,b0.fh.fc,b0.fh.fj,b0.fe.fc,b0.fe.fj)) (fun (c0,g0,d0,j0)=>(aB_p n (1:Int)).bind fun k0=>(aG_p n (⟨(⟨c0,g0⟩:Td),(⟨d0,j0⟩:Td)⟩:Tc) k0).bind fun p0=>(if p0 = 0 then some (0:Int) else some (50:Int))))))
theorem ap_c (n:Nat) {L w} (hL:hl L w) {a0:List Tb} {v0_0:Vc} (h0_0:Rep.R w L [v0_0] a0)  {r:Int} (h:ap_p n a0 = some r) :
 Cl 16 #[v0_0] w (ar w fun _ u=>u = vI r):=by
 unfold ap_p at h
 have hS0:=AS w
 refine AT func16 I I I fun _ cs0 hb0=>Af<|Ai I<|Aa<|Ak<|Af<|Ae I ?_
 have hl1:=Bg h0_0
 refine Ab (Bh (xs:=a0) underlying24 I h0_0)<|Ab (AY (i:=a0.length) (j:=1) I I)<|Ae I<|RG.ifd (s:=8) I h (fun c2 h=>?_) (fun c2 h=>?_)
 refine Av<|Av<|Av<|RG.pt I I<|Aa<|AW I<|Af<|Ai I<|Aa<|Au I<|By hb0 func16 I I ?_
 cases h
 exact hS0.gv
 refine Ax (Aj I)<|Ax (Bh (xs:=a0) underlying24 I h0_0)<|Ax (FV.gtrN (i:=a0.length) (j:=400) I I)<|Bp I I<|Aa<|Bb I h (fun c3 h=>?_) (fun c3 h=>?_)
 refine Af<|Ai I<|Aa<|Au I<|By hb0 func16 I I ?_
 cases h
 exact hS0.gv
 refine Ar<|Ak<|Af<|Ae I<|Ab (Bh (xs:=a0) underlying24 I h0_0)<|Ae I<|Aa<|Aw<|tn h fun W4 x3 x1=>MX.lo (α:=Nat) (fun d0=>[(0,v0_0),(13,v0_0),(14,vn a0.length),(15,vn d0)]) (fun d0=>[]) (fun d0=>d0) 0 x3 hS0 ?_
 rintro B4 d0 R5 Z1 J0 z2 h
 unfold ap_l2 at h
 try dsimp only at h
 refine Af<|Ab (AY (i:=d0) (j:=a0.length) I I)<|Aa<|Ak<|Bb I h (fun P1 h=>?_) (fun P1 h=>?_)
 refine Ar<|Ak<|Aw<|Af<|Ae I<|bk h fun u0 Q3 h=>?_
 obtain ⟨y4,G4,d3,p3,J4,z3,t3⟩:=Bv (AO h0_0 J0) Q3
 obtain rfl:=aY z3
 refine Ab (BJ 32 d0 I d3 I I p3)<|Ab (AF I t3)<|RG.nl [vW 0,vW 0,vW 0,vW 0,vW 0,vW 0,vW 0,vW 0,vW 0,vW 0,vW 0,vW 0,vW 0,vW 0,vW 0,vW 0,vW 0,vW 0,vW 0,vW 0,vW 0,vW 0,vW 0,vW 0,vW 0,vW 0,vW 0,vW 0,vW 0,vW 0,vW 0,vW 0] J0 fun y5 E4 d2 A2=>Ai I<|AQ (aA u0) d2 .hd (ak I) fun z5 q0 B2=>Aa<|Ak<|MX.jo (α:=Bool) (fun E0=>[(0,v0_0),(13,v0_0),(14,vn a0.length),(15,vn d0),(54,.bool E0)]) (fun E0=>[]) (fun E0=>E0) q0 h ?_ ?_
 rintro E0 U5 c1 C2 h
 try dsimp only at h
 refine MX.ifb I h (fun Q1 h=>?_) (fun Q1 h=>?_)
 refine Af<|Ai I<|Aa ?_
 have h:=dy h x1
 refine Au I<|By hb0 func16 I I ?_
 cases h
 exact c1.gv
 refine Ar<|Ay<|Ap<|Ab (Bj (i:=d0) (j:=1) I I (by omega))<|Ae I<|Aa<|Z1 (d0 + 1) c1 (Tt z2 (Tt A2 (Tt B2 C2))) h
 intro C4 D0 h
 try dsimp only at h
 refine du 35 fun b0 c0=>Rv 0 b0 I c0 (fun _=>Bw 0 I)<|Rx 1 34359738364 b0 I c0 (AZ (cs:=(aa u0.fm)) I I (aj (q0.memA .hd) 0 16))<|bk h fun I1 V3 h=>RD.cq 2 7 34359738360 (vI I1) b0 I c0 (bd 65) I (e1 I) (fun p q=>bw_c n (q0.hL0 hL q) u0.fm V3) I<|Rv 3 b0 I c0 (fun _=>BM (i:=I1) (j:=0) I I)<|Rv 4 b0 I c0 (fun _=>Aj I)<|RD.ifn (s:=24) I h (fun R1 h=>?_) (fun R1 h=>?_)
 refine AX 5 63 b0 I c0 (.yes I I) (fun _=>Bw 16 I) I<|RD.val (i:=6) (m' :=127) (W:=34359738240) (tk b0) I c0 (.yes I I) (AZ (cs:=(aa u0.fP)) I I (aj (q0.memA .hd) 16 16)) I<|bk h fun J1 W3 h=>AV (i:=7) (m' :=255) (W:=34359738112) (tk b0) I c0 (v:=vI J1) (fst:=[]) (cap:=[]) (.yes I I) (bd 65) I (e1 I) (fun p q=>bw_c n (q0.hL0 hL q) u0.fP W3) I<|AX 8 511 b0 I c0 (.yes I I) (fun _=>BM (i:=J1) (j:=0) I I) I<|Rv 9 b0 I c0 (fun _=>Be I I)<|Rv 10 b0 I c0 (fun _=>Aj I)<|RD.ifn (s:=30) I h (fun U1 h=>?_) (fun U1 h=>?_)
 refine RD.val (i:=11) (m' :=4095) (W:=34359734272) (tk b0) I c0 (.yes I I) (AF I (q0.memA .hd)) I<|bk h fun Z0 X3 h=>AU 12 8191 b0 I (.yes I I) (bd 66) I (e1 I) (fun p q=>aK_c n (q0.hL hL q) u0 X3) I fun A5 p5 R2 ⟨q4,s4,hu_,A3,V4⟩=>?_
 subst hu_
 obtain ⟨t0,M0⟩:=q0.agr R2
 refine RD.val (i:=13) (m' :=16383) (W:=34359721984) (tk b0) I c0 (.yes I I) (FV.fieldN (cs:=[.bool Z0.fh.fc,q4,.bool Z0.fe.fc,s4]) (off:=0) (m:=2) I I I I) I<|bk h fun K1 Y3 h=>AV (i:=14) (m' :=32767) (W:=34359705600) (tk b0) I c0 (v:=vI K1) (fst:=[]) (cap:=[]) (.yes I I) (bd 67) I (e1 I) (fun p q=>aI_c n (t0.hL0 hL q) Z0.fh (t0.kd A3 q) Y3) I<|AX 15 65535 b0 I c0 (.yes I I) (fun _=>FV.leq (i:=K1) (j:=0) I I) I<|Rv 16 b0 I c0 (fun _=>Be I I)<|Rv 17 b0 I c0 (fun _=>Aj I)<|RD.ifd (s:=37) I h (fun V1 h=>?_) (fun V1 h=>?_)
 refine Bu 17179869183 1 [(18,38),(19,39),(20,40),(21,41),(22,42),(23,43),(24,44),(25,45),(26,46),(27,47),(28,48),(29,49),(30,50),(31,51),(32,52),(33,53)] (F:=[(37,true)]) (U:=[]) b0 c0 (.cons I .nil) .nil ?_
 dsimp only [aQ,List.map]
 refine Rv 34 b0 I c0 (fun _=>Bc I I)<|AN (dk b0) ?_
 obtain ⟨g2,D2⟩:=AA t0 .done
 exact D0 true g2 (Tt M0 D2) h
 refine AX 18 524287 b0 I c0 (.yes I I) (fun _=>Aj I) I<|AX 19 1048575 b0 I c0 (.yes I I) (fun _=>FV.gtrN (i:=d0) (j:=0) I I) I<|AX 20 2097151 b0 I c0 (.yes I I) (fun _=>Aj I) I<|RD.ifd (s:=40) I h (fun W1 h=>?_) (fun W1 h=>?_)
 refine AX 21 4194303 b0 I c0 (.yes I I) (fun _=>Aj I) I<|AX 22 8388607 b0 I c0 (.yes I I) (fun _=>Aj I) I<|AX 23 16777215 b0 I c0 (.yes I I) (fun _=>FV.subN (i:=d0) (j:=1) I I (by omega) (by omega)) I<|bk h fun G1 R3 h=>?_
 obtain ⟨z4,H4,g3,q3,K4,B3,u3⟩:=Bv (AO h0_0 t0) R3
 obtain rfl:=aY B3
 refine AX 24 33554431 b0 I c0 (.yes I I) (fun _=>BJ 32 (d0 - 1) I g3 I I q3) I<|AX 25 67108863 b0 I c0 (.yes I I) (fun _=>Bw 0 I) I<|RD.val (i:=26) (m' :=134217727) (W:=33420214272) (tk b0) I c0 (.yes I I) (AZ (cs:=(aa G1.fm)) I I (aj u3 0 16)) I<|AX 28 402653183 b0 I c0 (.yes I I) (fun _=>Bw 0 I) I<|RD.val (i:=29) (m' :=939524095) (W:=33285996544) (tk b0) I c0 (.yes I I) (AZ (cs:=(aa u0.fm)) I I (aj (t0.memA .hd) 0 16)) I<|bk h fun t4 Z3 h=>AU 27 1073741823 b0 I (.yes I I) (bd 68) I (e1 I) (fun p q=>am_c n (t0.hL hL q) G1.fm Z3) I fun B5 q5 U2 ⟨Y4,Z4,hu_,C3,D3⟩=>?_
 subst hu_
 obtain ⟨g1,E2⟩:=t0.agr U2
 refine bk h fun u4 b4 h=>AU 30 2147483647 b0 I (.yes I I) (bd 68) I (e1 I) (fun p q=>am_c n (g1.hL hL q) u0.fm b4) I fun C5 s5 V2 ⟨b5,c5,hu_,E3,F3⟩=>?_
 subst hu_
 obtain ⟨A0,P0⟩:=g1.agr V2
 refine bk h fun b1 c4 h=>AV (i:=31) (m' :=4294967295) (W:=30064771072) (tk b0) I c0 (v:=vI b1) (fst:=[]) (cap:=[]) (.yes I I) (bd 69) I (e2 I I) (fun p q=>aG_c n (A0.hL0 hL q) t4 (A0.kd (Ag C3 P0) q) (A0.kd (Ag D3 P0) q) u4 (A0.kd E3 q) (A0.kd F3 q) c4) I<|AX 32 8589934591 b0 I c0 (.yes I I) (fun _=>FV.geq (i:=b1) (j:=0) I I) I<|AX 33 17179869183 b0 I c0 (.yes I I) (fun _=>Bc I I) I<|Rv 34 b0 I c0 (fun _=>Be I I)<|AN (dk b0) ?_
 obtain ⟨j2,F2⟩:=AA A0 .done
 exact D0 (decide (0 <= b1)) j2 (Tt M0 (Tt E2 (Tt P0 F2))) h
 refine Bu 8589934591 2 [(21,41),(22,42),(23,43),(24,44),(25,45),(26,46),(27,47),(28,48),(29,49),(30,50),(31,51),(32,52)] (F:=[(40,false)]) (U:=[]) b0 c0 (.cons I .nil) .nil ?_
 dsimp only [aQ,List.map]
 refine AX 33 17179869183 b0 I c0 (.yes I I) (fun _=>Be I I) I<|Rv 34 b0 I c0 (fun _=>Be I I)<|AN (dk b0) ?_
 obtain ⟨k2,G2⟩:=AA t0 .done
 exact D0 false k2 (Tt M0 G2) h
 refine Bu 65535 19 [(11,31),(12,32),(13,33),(14,34),(15,35)] (F:=[(30,true)]) (U:=[]) b0 c0 (.cons I .nil) .nil ?_
 dsimp only [aQ,List.map]
 refine Rv 16 b0 I c0 (fun _=>Bc I I)<|Rv 17 b0 I c0 (fun _=>Aj I)<|Bu 17179869183 1 [(18,38),(19,39),(20,40),(21,41),(22,42),(23,43),(24,44),(25,45),(26,46),(27,47),(28,48),(29,49),(30,50),(31,51),(32,52),(33,53)] (F:=[(37,true)]) (U:=[]) b0 c0 (.cons I .nil) .nil ?_
 dsimp only [aQ,List.map]
 refine Rv 34 b0 I c0 (fun _=>Bc I I)<|AN (dk b0) ?_
 obtain ⟨p2,H2⟩:=AA q0 .done
 exact D0 true p2 H2 h
 refine Bu 511 26 [(5,25),(6,26),(7,27),(8,28)] (F:=[(24,true)]) (U:=[]) b0 c0 (.cons I .nil) .nil ?_
 dsimp only [aQ,List.map]
 refine Rv 9 b0 I c0 (fun _=>Bc I I)<|Rv 10 b0 I c0 (fun _=>Aj I)<|Bu 65535 19 [(11,31),(12,32),(13,33),(14,34),(15,35)] (F:=[(30,true)]) (U:=[]) b0 c0 (.cons I .nil) .nil ?_
 dsimp only [aQ,List.map]
 refine Rv 16 b0 I c0 (fun _=>Bc I I)<|Rv 17 b0 I c0 (fun _=>Aj I)<|Bu 17179869183 1 [(18,38),(19,39),(20,40),(21,41),(22,42),(23,43),(24,44),(25,45),(26,46),(27,47),(28,48),(29,49),(30,50),(31,51),(32,52),(33,53)] (F:=[(37,true)]) (U:=[]) b0 c0 (.cons I .nil) .nil ?_
 dsimp only [aQ,List.map]
 refine Rv 34 b0 I c0 (fun _=>Bc I I)<|AN (dk b0) ?_
 obtain ⟨q2,I2⟩:=AA q0 .done
 exact D0 true q2 I2 h
 refine Bd I ?_
 have h:=cx h x1
 try dsimp only at h
 refine Ak<|Af<|Ae I<|Bs (fst:=[]) (cap:=[]) (vs:=[v0_0,.func (.func 66) #[] #[]]) .plain (bd 70) func70 I I I I (e2 I I) I fun M4 b3 U4=>Af<|RG.nl [.bool false,vN,.bool false,vN] J0 fun D5 F0 j1 Q4=>Aa<|Af<|bk h fun B0 d4 h=>jE (bd 71) I (e1 I) (fun p q=>aB_c n (j1.hL hL q)  d4) I fun E5 t5 W2 ⟨C1,D1,hu_,G3,H3⟩=>?_
 subst hu_
 obtain ⟨s2,R4⟩:=j1.agr W2
 refine RG.nl [.bool false,vN,.bool false,vN] s2 fun F5 G0 t2 q1=>?_
 have y1:=Ag G3 q1
 have z1:=Ag H3 q1
 refine AQ [.bool B0.fh.fc,C1,.bool B0.fe.fc,D1] t2 .hd (o4 I (AE y1) I (AE z1)) fun G5 k1 s1=>Aa<|Ak<|Af<|Ae I<|Ab (Bh (xs:=a0) underlying23 I (AO h0_0 k1))<|Ae I<|Aa<|Aw ?_
 obtain ⟨X4,y3,k3⟩:=aw h
 refine MX.lf (α:=Nat × Bool × (List Ua) × Bool × (List Ua) × Vc × Vc) (fun ⟨s0,g0,v0,j0,x0,k0,p0⟩=>[(1,.func (.func 66) #[] #[]),(4,vP F0),(5,vP G0),(9,v0_0),(10,vn a0.length),(11,vn s0)]) (fun ⟨s0,g0,v0,j0,x0,k0,p0⟩=>[.cells G0 [.bool g0,k0,.bool j0,p0] 109,.cells F0 [.bool false,vN,.bool false,vN] 109]) (fun ⟨s0,g0,v0,j0,x0,k0,p0⟩ Y0=>Rep.R Y0 (bl [.cells G0 [.bool g0,k0,.bool j0,p0] 109,.cells F0 [.bool false,vN,.bool false,vN] 109] ++ L) [k0] v0/\Rep.R Y0 (bl [.cells G0 [.bool g0,k0,.bool j0,p0] 109,.cells F0 [.bool false,vN,.bool false,vN] 109] ++ L) [p0] x0) (fun ⟨s0,g0,v0,j0,x0,k0,p0⟩=>(s0,g0,v0,j0,x0)) (0,B0.fh.fc,B0.fh.fj,B0.fe.fc,B0.fe.fj,C1,D1) y3 k1 ⟨(Ag y1 s1),(Ag z1 s1)⟩ ?_
 rintro D4 ⟨s0,g0,v0,j0,x0,k0,p0⟩ Y0 b2 H0 J2 ⟨V0,W0⟩ h
 unfold ap_l1 at h
 try dsimp only at h
 refine Af<|Ab (AY (i:=s0) (j:=a0.length) I I)<|Aa<|Ak<|Bb I h (fun X1 h=>?_) (fun X1 h=>?_)
 refine Ar<|Ak<|Aw<|Af<|bk h fun H1 U3 h=>?_
 obtain ⟨A4,I4,j3,s3,P4,I3,v3⟩:=Bv (AO h0_0 H0) U3
 obtain rfl:=aY I3
 refine Ab (BJ 32 s0 I j3 I I s3)<|Ab (AF I v3)<|RG.nl [vW 0,vW 0,vW 0,vW 0,vW 0,vW 0,vW 0,vW 0,vW 0,vW 0,vW 0,vW 0,vW 0,vW 0,vW 0,vW 0,vW 0,vW 0,vW 0,vW 0,vW 0,vW 0,vW 0,vW 0,vW 0,vW 0,vW 0,vW 0,vW 0,vW 0,vW 0,vW 0] H0 fun H5 F4 u2 K2=>AQ (aA H1) u2 .hd (ak I) fun I5 I0 M2=>Aa<|du 5 fun z0 X0=>Rx 0 48 z0 I X0 (AF I (I0.memA .t1))<|Rv 1 z0 I X0 (fun _=>Aj I)<|Rx 2 56 z0 I X0 (AF I (I0.memA .hd))<|bk h fun v4 g4 h=>AU 3 15 z0 I .plain (bd 66) I (e1 I) (fun p q=>aK_c n (I0.hL hL q) H1 g4) I fun J5 u5 X2 ⟨d5,g5,hu_,J3,K3⟩=>?_
 subst hu_
 obtain ⟨p1,P2⟩:=I0.agr X2
 refine bk h fun C0 j4 h=>?_
 have U0:=Tt K2 (Tt M2 P2)
 refine AU 4 31 z0 I .plain (bd 81) I (e2 I I) (fun p q=>ae_c n (p1.hL hL q) (⟨(⟨g0,v0⟩:Td),(⟨j0,x0⟩:Td)⟩:Tc) (Ah (Ag V0 U0) q) (Ah (Ag W0 U0) q) v4 (Ah J3 q) (Ah K3 q) j4) I fun K5 v5 Y2 ⟨E1,F1,hu_,A1,B1⟩=>?_
 subst hu_
 obtain ⟨v2,Q2⟩:=p1.agr Y2
 refine BF 5 63 z0 I I .plain (AJ (news:=[.bool C0.fh.fc,E1,.bool C0.fe.fc,F1]) v2 .t1 I I I I I I (o4 I (AE A1) I (AE B1))) fun M5 x2 Q0=>AN (dk z0)<|Ay<|Ap<|Ab (Bj (i:=s0) (j:=1) I I (by omega))<|Ae I<|Aa ?_
 obtain ⟨y2,R0⟩:=AA x2 .d1
 exact b2 (s0 + 1,C0.fh.fc,C0.fh.fj,C0.fe.fc,C0.fe.fj,E1,F1) y2 (Tt J2 (Tt U0 (Tt Q2 (Tt Q0 R0)))) ⟨(Ag A1 (Tt Q0 R0)),(Ag B1 (Tt Q0 R0))⟩ h
 refine Bd I ?_
 have h:=k3 _ h
 try dsimp only at h
 refine Af<|Ab (AF I (H0.memA .hd))<|AQ [.bool g0,k0,.bool j0,p0] H0 .t1 (o4 I (AE V0) I (AE W0)) fun P5 K0 u1=>Aa<|Au I<|Aq (u:=.agg #[.bool g0,k0,.bool j0,p0]) b3 func70 I (.cons (.many (cs:=[.bool g0,k0,.bool j0,p0]) I I (K0.memA .t1)) .nil) I<|bk h fun x4 k4 h=>jE (bd 71) I (e1 I) (fun p q=>aB_c n (K0.hL hL q)  k4) I fun Q5 x5 Z2 ⟨j5,k5,hu_,M3,P3⟩=>?_
 subst hu_
 obtain ⟨y0,v1⟩:=K0.agr Z2
 refine bk h fun M1 p4 h=>Bo (vI M1) (bd 69) I (e2 I I) (fun p q=>aG_c n (y0.hL0 hL q) (⟨(⟨g0,v0⟩:Td),(⟨j0,x0⟩:Td)⟩:Tc) (y0.kd (Ag V0 (Tt u1 v1)) q) (y0.kd (Ag W0 (Tt u1 v1)) q) x4 (y0.kd M3 q) (y0.kd P3 q) p4) I<|Ab (BM (i:=M1) (j:=0) I I)<|Aa<|MX.ifn I h (fun Y1 h=>?_) (fun Y1 h=>?_)
 refine Ar<|Af<|Ai I<|Aa<|Au I<|By hb0 func16 I I ?_
 cases h
 exact y0.gv
 refine Af<|Ai I<|Aa<|Au I<|By hb0 func16 I I ?_
 cases h
 exact y0.gv
theorem jU {a b:Ta} (h0:a.fN.1 = b.fN.1) (h1:a.fN.2.1 = b.fN.2.1) (h2:a.fN.2.2.1 = b.fN.2.2.1) (h3:a.fN.2.2.2.1 = b.fN.2.2.2.1) (h4:a.fN.2.2.2.2.1 = b.fN.2.2.2.2.1) (h5:a.fN.2.2.2.2.2.1 = b.fN.2.2.2.2.2.1) (h6:a.fN.2.2.2.2.2.2.1 = b.fN.2.2.2.2.2.2.1) (h7:a.fN.2.2.2.2.2.2.2 = b.fN.2.2.2.2.2.2.2) (h8:a.fD.1 = b.fD.1) (h9:a.fD.2.1 = b.fD.2.1) (b0:a.fD.2.2.1 = b.fD.2.2.1) (c0:a.fD.2.2.2.1 = b.fD.2.2.2.1) (d0:a.fD.2.2.2.2.1 = b.fD.2.2.2.2.1) (g0:a.fD.2.2.2.2.2.1 = b.fD.2.2.2.2.2.1) (j0:a.fD.2.2.2.2.2.2.1 = b.fD.2.2.2.2.2.2.1) (k0:a.fD.2.2.2.2.2.2.2 = b.fD.2.2.2.2.2.2.2):a = b:=congr (congrArg Ta.mk (jr (a:=a.fN) (b:=b.fN) h0 h1 h2 h3 h4 h5 h6 h7)) (jr (a:=a.fD) (b:=b.fD) h8 h9 b0 c0 d0 g0 j0 k0)
theorem fw (a b:Ta) (p:World):(do eqGuard .eql 34 (.tmp 0) (.tmp 0) (.agg #[vU a.fN.1,vU a.fN.2.1,vU a.fN.2.2.1,vU a.fN.2.2.2.1,vU a.fN.2.2.2.2.1,vU a.fN.2.2.2.2.2.1,vU a.fN.2.2.2.2.2.2.1,vU a.fN.2.2.2.2.2.2.2,vU a.fD.1,vU a.fD.2.1,vU a.fD.2.2.1,vU a.fD.2.2.2.1,vU a.fD.2.2.2.2.1,vU a.fD.2.2.2.2.2.1,vU a.fD.2.2.2.2.2.2.1,vU a.fD.2.2.2.2.2.2.2]) (.agg #[vU b.fN.1,vU b.fN.2.1,vU b.fN.2.2.1,vU b.fN.2.2.2.1,vU b.fN.2.2.2.2.1,vU b.fN.2.2.2.2.2.1,vU b.fN.2.2.2.2.2.2.1,vU b.fN.2.2.2.2.2.2.2,vU b.fD.1,vU b.fD.2.1,vU b.fD.2.2.1,vU b.fD.2.2.2.1,vU b.fD.2.2.2.2.1,vU b.fD.2.2.2.2.2.1,vU b.fD.2.2.2.2.2.2.1,vU b.fD.2.2.2.2.2.2.2]); binOp .eql 34 (.agg #[vU a.fN.1,vU a.fN.2.1,vU a.fN.2.2.1,vU a.fN.2.2.2.1,vU a.fN.2.2.2.2.1,vU a.fN.2.2.2.2.2.1,vU a.fN.2.2.2.2.2.2.1,vU a.fN.2.2.2.2.2.2.2,vU a.fD.1,vU a.fD.2.1,vU a.fD.2.2.1,vU a.fD.2.2.2.1,vU a.fD.2.2.2.2.1,vU a.fD.2.2.2.2.2.1,vU a.fD.2.2.2.2.2.2.1,vU a.fD.2.2.2.2.2.2.2]) (.agg #[vU b.fN.1,vU b.fN.2.1,vU b.fN.2.2.1,vU b.fN.2.2.2.1,vU b.fN.2.2.2.2.1,vU b.fN.2.2.2.2.2.1,vU b.fN.2.2.2.2.2.2.1,vU b.fN.2.2.2.2.2.2.2,vU b.fD.1,vU b.fD.2.1,vU b.fD.2.2.1,vU b.fD.2.2.2.1,vU b.fD.2.2.2.2.1,vU b.fD.2.2.2.2.2.1,vU b.fD.2.2.2.2.2.2.1,vU b.fD.2.2.2.2.2.2.2]):Sem Vc).run Tryz.prog p = .ok (.bool (decide (a = b))) p:=
  lh (ks:=[.int .u64,.int .u64,.int .u64,.int .u64,.int .u64,.int .u64,.int .u64,.int .u64,.int .u64,.int .u64,.int .u64,.int .u64,.int .u64,.int .u64,.int .u64,.int .u64]) (xs:=[vU a.fN.1,vU a.fN.2.1,vU a.fN.2.2.1,vU a.fN.2.2.2.1,vU a.fN.2.2.2.2.1,vU a.fN.2.2.2.2.2.1,vU a.fN.2.2.2.2.2.2.1,vU a.fN.2.2.2.2.2.2.2,vU a.fD.1,vU a.fD.2.1,vU a.fD.2.2.1,vU a.fD.2.2.2.1,vU a.fD.2.2.2.2.1,vU a.fD.2.2.2.2.2.1,vU a.fD.2.2.2.2.2.2.1,vU a.fD.2.2.2.2.2.2.2]) (ys:=[vU b.fN.1,vU b.fN.2.1,vU b.fN.2.2.1,vU b.fN.2.2.2.1,vU b.fN.2.2.2.2.1,vU b.fN.2.2.2.2.2.1,vU b.fN.2.2.2.2.2.2.1,vU b.fN.2.2.2.2.2.2.2,vU b.fD.1,vU b.fD.2.1,vU b.fD.2.2.1,vU b.fD.2.2.2.1,vU b.fD.2.2.2.2.1,vU b.fD.2.2.2.2.2.1,vU b.fD.2.2.2.2.2.2.1,vU b.fD.2.2.2.2.2.2.2]) (by kernel_rfl) (by kernel_rfl) (by kernel_rfl) I I ⟨fun h=>by
    simp only [aW,veq,Bool.and_eq_true,beq_iff_eq,and_true] at h
    obtain ⟨h0,h1,h2,h3,h4,h5,h6,h7,h8,h9,b0,c0,d0,g0,j0,k0⟩:=h
    exact jU (ac h0) (ac h1) (ac h2) (ac h3) (ac h4) (ac h5) (ac h6) (ac h7) (ac h8) (ac h9) (ac b0) (ac c0) (ac d0) (ac g0) (ac j0) (ac k0),fun h=>by subst h; simp [aW,veq]⟩ _ _ p
def aa_p (_n:Nat) (a0:Ta) (a1:Int) (a2:Int):Oa Bool:=
  (if a0 = (⟨(0,0,0,0,0,0,0,0),(0,0,0,0,0,0,0,0)⟩:Ta) then some (decide (a1 = a2)) else some false)
theorem aa_c (n:Nat) {L w} (_hL:hl L w) (a0:Ta) {a1:Int} {a2:Int} {p2:Nat} (m2:∀ j9 v9,([vI a2]:List Vc)[j9]? = some v9 -> w.cell? ((⟨p2,0,none⟩:Addr).add j9) = some v9)  {r:Bool} (h:aa_p n a0 a1 a2 = some r) :
 Cl 74 #[.agg ((aa a0)).toArray,vI a1,.pointer (some ⟨p2,0,none⟩)] w (ar w fun _ u=>u = .bool r):=by
 unfold aa_p at h
 refine AT func74 I I I fun _ cs0 hb0=>Af<|RG.bx (AS w) I I fun j0 d0 b0 g0=>Ai I<|Aa<|Af<|Ab (AF I (b0.memA .hd))<|Ab (AI (vs:=[]) (u:=.agg zM) ao (fun p=>by kernel_rfl))<|Ab (FV.eqlV (v:=.agg ((aa a0)).toArray) (u:=.agg zM) I I (fw a0 (⟨(0,0,0,0,0,0,0,0),(0,0,0,0,0,0,0,0)⟩:Ta)))<|Ae I<|RG.ifd (s:=9) I h (fun c0 h=>?_) (fun c0 h=>?_)
 refine Ax (Aj I)<|Ax (Bx I ((fun j9 v9 h9=>b0.ag.cell0 (m2 j9 v9 h9)) 0 _ I))<|Ax (FV.eql (i:=a1) (j:=a2) I I)<|RG.pt I I<|Ai I<|Aa<|Au I<|By hb0 func74 I I ?_
 cases h
 exact b0.gv
 refine Av<|Av<|Av<|Bp I I<|Ai I<|Aa<|Au I<|By hb0 func74 I I ?_
 cases h
 exact b0.gv
theorem al_c (_n:Nat) {L w} (_hL:hl L w) (a0:Int)  :
 Cl 18 #[vI a0] w (ar w fun w' u=>∃ b0:Nat,u = .func (.func 74) #[] #[vP b0]/\St w w' [.cells b0 [vI a0] 27]):=by
 refine AT func18 I I I fun _ cs0 hb0=>Af<|RG.bx (AS w) I I fun g0 b0 c0 d0=>Ai I<|Aa<|Af<|Ab (FV.makeFunc (vs:=[]) (us:=[vP b0]) ao (e1 I))<|Ai I<|Aa<|Au I<|Aq (u:=.func (.func 74) #[] #[vP b0]) hb0 func18 I (.cons (.tmp I) .nil) I<|⟨c0.ag,fun p q=>⟨b0,I,c0.agree q⟩⟩
def aw_p (n:Nat) (a0:Tc) (a1:Tc):Oa Tc:=
  (aD_p n a0.fh a1.fh).bind fun b0=>(aD_p n a0.fe a1.fe).bind fun c0=>(aZ_p n b0 c0).bind fun d0=>some d0
theorem aw_c (n:Nat) {L w} (hL:hl L w) (a0:Tc) {v0_1:Vc} (h0_1:Rep.R w L [v0_1] a0.fh.fj) {v0_3:Vc} (h0_3:Rep.R w L [v0_3] a0.fe.fj) (a1:Tc) {v1_1:Vc} (h1_1:Rep.R w L [v1_1] a1.fh.fj) {v1_3:Vc} (h1_3:Rep.R w L [v1_3] a1.fe.fj)  {r:Tc} (h:aw_p n a0 a1 = some r) :
 Cl 80 #[.agg #[.bool a0.fh.fc,v0_1,.bool a0.fe.fc,v0_3],.agg #[.bool a1.fh.fc,v1_1,.bool a1.fe.fc,v1_3]] w (ar w fun w' u=>∃ v0_1 v0_3:Vc,u = .agg #[.bool r.fh.fc,v0_1,.bool r.fe.fc,v0_3]/\Rep.R w' L [v0_1] r.fh.fj/\Rep.R w' L [v0_3] r.fe.fj):=by
 unfold aw_p at h
 refine AT func80 I I I fun _ cs0 hb0=>Af<|RG.bx (AS w) I I fun g1 M0 x0 R0=>RG.bx x0 I I fun j1 P0 y0 U0=>RG.nl [.bool false,vN,.bool false,vN] y0 fun k1 Q0 c0 V0=>Aa<|Ak<|du 11 fun b0 d0=>Rv 0 b0 I d0 (fun _=>Bw 0 I)<|Rx 1 3600 b0 I d0 (AZ (cs:=[.bool a0.fh.fc,v0_1]) I I (aj (c0.memA .t2) 0 2))<|Rv 2 b0 I d0 (fun _=>Bw 0 I)<|Rx 3 3600 b0 I d0 (AZ (cs:=[.bool a1.fh.fc,v1_1]) I I (aj (c0.memA .t1) 0 2))<|Rv 5 b0 I d0 (fun _=>Bw 2 I)<|Rx 6 3584 b0 I d0 (AZ (cs:=[.bool a0.fe.fc,v0_3]) I I (aj (c0.memA .t2) 2 2))<|Rv 7 b0 I d0 (fun _=>Bw 2 I)<|Rx 8 3584 b0 I d0 (AZ (cs:=[.bool a1.fe.fc,v1_3]) I I (aj (c0.memA .t1) 2 2))<|bk h fun J0 G0 h=>AU 4 511 b0 I .plain (bd 136) I (e2 I I) (fun p q=>aD_c n (c0.hL hL q) a0.fh (c0.km h0_1 q) a1.fh (c0.km h1_1 q) G0) I fun p1 b1 B0 ⟨Y0,hu_,E0⟩=>?_
 subst hu_
 obtain ⟨g0,W0⟩:=c0.agr B0
 refine bk h fun K0 H0 h=>AU 9 1023 b0 I .plain (bd 136) I (e2 I I) (fun p q=>aD_c n (g0.hL hL q) a0.fe (g0.km h0_3 q) a1.fe (g0.km h1_3 q) H0) I fun q1 c1 C0 ⟨Z0,hu_,F0⟩=>?_
 subst hu_
 obtain ⟨s0,A0⟩:=g0.agr C0
 refine bk h fun k0 I0 h=>AU 10 2047 b0 I .plain (bd 140) I (e2 I I) (fun p q=>aZ_c n (s0.hL hL q) J0 (Ah (Ag E0 A0) q) K0 (Ah F0 q) I0) I fun s1 d1 D0 ⟨p0,q0,hu_,u0,v0⟩=>?_
 subst hu_
 obtain ⟨z0,X0⟩:=s0.agr D0
 refine BF 11 4095 b0 I I .plain (AJ (news:=[.bool k0.fh.fc,p0,.bool k0.fe.fc,q0]) z0 .hd I I I I I I (o4 I (AE u0) I (AE v0))) fun u1 j0 t0=>AN (dk b0)<|Au I<|Aq hb0 func80 I (.cons (.many (cs:=[.bool k0.fh.fc,p0,.bool k0.fe.fc,q0]) I I (j0.memA .hd)) .nil) I ?_
 cases h
 exact ⟨j0.ag,fun p q=>⟨p0,q0,I,j0.kd (Ag u0 t0) q,j0.kd (Ag v0 t0) q⟩⟩
def bF_p (_n:Nat) (a0:Tc):Oa Tc:=
  some a0
theorem bF_c (n:Nat) {L w} (_hL:hl L w) (a0:Tc) {v0_1:Vc} (h0_1:Rep.R w L [v0_1] a0.fh.fj) {v0_3:Vc} (h0_3:Rep.R w L [v0_3] a0.fe.fj)  {r:Tc} (h:bF_p n a0 = some r) :
 Cl 76 #[.agg #[.bool a0.fh.fc,v0_1,.bool a0.fe.fc,v0_3]] w (ar w fun w' u=>∃ v0_1 v0_3:Vc,u = .agg #[.bool r.fh.fc,v0_1,.bool r.fe.fc,v0_3]/\Rep.R w' L [v0_1] r.fh.fj/\Rep.R w' L [v0_3] r.fe.fj):=by
 unfold bF_p at h
 refine AT func76 I I I fun _ cs0 hb0=>Af<|RG.bx (AS w) I I fun t0 g0 d0 p0=>RG.nl [.bool false,vN,.bool false,vN] d0 fun u0 j0 b0 q0=>Aa<|Af<|Ab (AF I (b0.memA .t1))<|AQ [.bool a0.fh.fc,v0_1,.bool a0.fe.fc,v0_3] b0 .hd (o4 I (AE (AO h0_1 b0)) I (AE (AO h0_3 b0))) fun v0 c0 s0=>Aa<|Au I<|Aq hb0 func76 I (.cons (.many (cs:=[.bool a0.fh.fc,v0_1,.bool a0.fe.fc,v0_3]) I I (c0.memA .hd)) .nil) I ?_
 cases h
 exact ⟨c0.ag,fun p q=>⟨v0_1,v0_3,I,c0.k0 h0_1 q,c0.k0 h0_3 q⟩⟩
def aR_l1 (n:Nat) (a0:List Tb) (q0:Nat × Bool × (List Ua) × Bool × (List Ua) -> Oa (Bool × (List Ua) × Bool × (List Ua))):Nat × Bool × (List Ua) × Bool × (List Ua) -> Oa (Bool × (List Ua) × Bool × (List Ua))
  | (c0,d0,k0,g0,p0)=>(if c0 < a0.length then (a0[c0]?).bind fun j0=>(aK_p n j0).bind fun s0=>(am_p n j0.fm).bind fun t0=>(bF_p n t0).bind fun u0=>(aw_p n s0 u0).bind fun v0=>(ae_p n (⟨(⟨d0,k0⟩:Td),(⟨g0,p0⟩:Td)⟩:Tc) v0).bind fun b0=>q0 (c0 + 1,b0.fh.fc,b0.fh.fj,b0.fe.fc,b0.fe.fj) else some (d0,k0,g0,p0))
def aR_p (n:Nat) (a0:List Tb):Oa (Ta × Int):=
  (ap_p n a0).bind fun c0=>(if c0 = 0 then (aB_p n (0:Int)).bind fun b0=>Option.bind (az (aR_l1 n a0) n (0,b0.fh.fc,b0.fh.fj,b0.fe.fc,b0.fe.fj)) (fun (g0,k0,j0,p0)=>(ak_p n (⟨(⟨g0,k0⟩:Td),(⟨j0,p0⟩:Td)⟩:Tc)).bind fun d0=>some (d0.1,d0.2)) else some ((⟨(0,0,0,0,0,0,0,0),(0,0,0,0,0,0,0,0)⟩:Ta),c0))
theorem aR_c (n:Nat) {L w} (hL:hl L w) {a0:List Tb} {v0_0:Vc} (h0_0:Rep.R w L [v0_0] a0)  {r:Ta × Int} (h:aR_p n a0 = some r) :
 Cl 19 #[v0_0] w (ar w fun _ u=>u = .tuple #[.agg ((aa r.1)).toArray,vI r.2]):=by
 unfold aR_p at h
 refine AT func19 I I I fun _ cs0 hb0=>Af<|RG.nl zL (AS w) fun Y4 s1 d1 H4=>Ai I<|Aa<|Ak<|Af<|Ae I<|bk h fun Q2 P3 h=>Bo (vI Q2) (bd 16) I (e1 I) (fun p q=>ap_c n (d1.hL0 hL q) (d1.k0 h0_0 q) P3) I<|Ai I<|Aa<|Af<|Ae I<|Ab (BM (i:=Q2) (j:=0) I I)<|Aa<|MX.ifn I h (fun V2 h=>?_) (fun V2 h=>?_)
 refine Ar<|Af<|Ae I<|Bs (fst:=[]) (cap:=[]) (vs:=[v0_0,.func (.func 76) #[] #[]]) .plain (bd 75) func75 I I I I (e2 I I) I fun E4 k3 U4=>Af<|RG.bx d1 I I fun Z4 A0 Y2 I4=>RG.nl [.bool false,vN,.bool false,vN] Y2 fun b5 u1 Z2 J4=>Aa<|Af<|Ae I<|Ab (FV.makeFunc (vs:=[]) (us:=[vP A0]) ao (e1 I))<|Bs (fst:=[]) (cap:=[]) (vs:=[v0_0,.func (.func 138) #[] #[vP A0]]) .plain (bd 70) func70 I I I I (e2 I I) I fun F4 p3 V4=>Af<|RG.nl [.bool false,vN,.bool false,vN] Z2 fun c5 b1 s2 K4=>Aa<|Af<|bk h fun K0 Q3 h=>jE (bd 71) I (e1 I) (fun p q=>aB_c n (s2.hL hL q)  Q3) I fun d5 X4 j3 ⟨M2,P2,hu_,I3,J3⟩=>?_
 subst hu_
 obtain ⟨b3,M4⟩:=s2.agr j3
 refine RG.nl [.bool false,vN,.bool false,vN] b3 fun k5 c1 g3 C2=>?_
 have G2:=Ag I3 C2
 have H2:=Ag J3 C2
 refine AQ [.bool K0.fh.fc,M2,.bool K0.fe.fc,P2] g3 .hd (o4 I (AE G2) I (AE H2)) fun p5 u2 D2=>Aa<|Ak<|Af<|Ae I ?_
 have I2:=AO h0_0 u2
 have R4:=Bg I2
 refine Ab (Bh (xs:=a0) underlying23 I I2)<|Ae I<|Aa<|Aw ?_
 obtain ⟨W4,F3,s3⟩:=aw h
 refine MX.lf (α:=Nat × Bool × (List Ua) × Bool × (List Ua) × Vc × Vc) (fun ⟨t0,c0,y0,d0,z0,p0,q0⟩=>[(1,.func (.func 138) #[] #[vP A0]),(4,vP b1),(5,vP c1),(9,v0_0),(10,vn a0.length),(11,vn t0)]) (fun ⟨t0,c0,y0,d0,z0,p0,q0⟩=>[.cells c1 [.bool c0,p0,.bool d0,q0] 109,.cells b1 [.bool false,vN,.bool false,vN] 109,.cells u1 [.bool false,vN,.bool false,vN] 109,.cells A0 [.func (.func 76) #[] #[]] 119,.cells s1 zL 34]) (fun ⟨t0,c0,y0,d0,z0,p0,q0⟩ g2=>Rep.R g2 (bl [.cells c1 [.bool c0,p0,.bool d0,q0] 109,.cells b1 [.bool false,vN,.bool false,vN] 109,.cells u1 [.bool false,vN,.bool false,vN] 109,.cells A0 [.func (.func 76) #[] #[]] 119,.cells s1 zL 34] ++ L) [p0] y0/\Rep.R g2 (bl [.cells c1 [.bool c0,p0,.bool d0,q0] 109,.cells b1 [.bool false,vN,.bool false,vN] 109,.cells u1 [.bool false,vN,.bool false,vN] 109,.cells A0 [.func (.func 76) #[] #[]] 119,.cells s1 zL 34] ++ L) [q0] z0) (fun ⟨t0,c0,y0,d0,z0,p0,q0⟩=>(t0,c0,y0,d0,z0)) (0,K0.fh.fc,K0.fh.fj,K0.fe.fc,K0.fe.fj,M2,P2) F3 u2 ⟨(Ag G2 D2),(Ag H2 D2)⟩ ?_
 rintro B4 ⟨t0,c0,y0,d0,z0,p0,q0⟩ g2 q2 g1 z2 ⟨k1,p1⟩ h
 unfold aR_l1 at h
 try dsimp only at h
 refine Af<|Ab (AY (i:=t0) (j:=a0.length) I I)<|Aa<|Ak<|Bb I h (fun W2 h=>?_) (fun W2 h=>?_)
 refine Ar<|Ak<|Aw<|Af<|bk h fun x0 M3 h=>?_
 obtain ⟨A4,D4,q3,u3,G4,K3,v3⟩:=Bv (AO h0_0 g1) M3
 obtain rfl:=aY K3
 refine Ab (BJ 32 t0 I q3 I I u3)<|Ab (AF I v3)<|RG.nl [vW 0,vW 0,vW 0,vW 0,vW 0,vW 0,vW 0,vW 0,vW 0,vW 0,vW 0,vW 0,vW 0,vW 0,vW 0,vW 0,vW 0,vW 0,vW 0,vW 0,vW 0,vW 0,vW 0,vW 0,vW 0,vW 0,vW 0,vW 0,vW 0,vW 0,vW 0,vW 0] g1 fun g5 C4 c3 A2=>AQ (aA x0) c3 .hd (ak I) fun j5 j1 B2=>Aa<|du 3 fun j0 d2=>Rv 1 j0 I d2 (fun _=>Aj I)<|Rx 2 56 j0 I d2 (AF I (j1.memA .hd))<|BO [0,3] (rk j0) ⟨?_,?_,trivial⟩
 refine RO.val (m' :=7) (sk j0) I .plain I (AF I (j1.memA .t1))<|BK (i:=3) (rk j0) (RO.enterPT (m' :=15) (fst:=[]) (cap:=[vP A0]) (vs:=[.agg ((aA x0)).toArray]) (sk j0) I I .plain (bd 138) func138 I I I I (e1 I) I (fun _ X2 M1 G3=>?_))
 refine Af<|RG.bx j1 I I fun k4 R2 v1 B1=>RG.nl [.bool false,vN,.bool false,vN] v1 fun p4 U2 u0 C1=>Aa<|Ak<|du 8 fun b0 v0=>Rx 0 482 b0 I v0 (AF I (u0.memA .t1))<|Rx 2 448 b0 I v0 (Bx I ((u0.memA .t6) 0 _ I))<|Rv 3 b0 I v0 (fun _=>Bw 0 I)<|Rx 4 480 b0 I v0 (AZ (cs:=(aa x0.fm)) I I (aj (u0.memA .t1) 0 16))<|bk h fun j2 X1 h=>AU 1 31 b0 I .plain (bd 66) I (e1 I) (fun p q=>aK_c n (u0.hL hL q) x0 X1) I fun q4 b4 G1 ⟨U3,V3,hu_,P1,Q1⟩=>?_
 subst hu_
 obtain ⟨M0,D1⟩:=u0.agr G1
 refine bk h fun k2 Y1 h=>AU 5 63 b0 I .plain (bd 68) I (e1 I) (fun p q=>am_c n (M0.hL hL q) x0.fm Y1) I fun s4 c4 H1 ⟨W3,X3,hu_,R1,U1⟩=>?_
 subst hu_
 obtain ⟨P0,C0⟩:=M0.agr H1
 refine bk h fun p2 Z1 h=>AU 6 127 b0 I .plain (bd 76) I (e1 I) (fun p q=>bF_c n (P0.hL hL q) k2 (Ah R1 q) (Ah U1 q) Z1) I fun u4 d4 I1 ⟨Y3,Z3,hu_,V1,W1⟩=>?_
 subst hu_
 obtain ⟨Q0,D0⟩:=P0.agr I1
 refine bk h fun g0 b2 h=>?_
 have x3:=Ag P1 (Tt C0 D0)
 have y3:=Ag Q1 (Tt C0 D0)
 refine AU 7 255 b0 I .plain (bd 80) I (e2 I I) (fun p q=>aw_c n (Q0.hL hL q) j2 (Ah x3 q) (Ah y3 q) p2 (Ah V1 q) (Ah W1 q) b2) I fun v4 g4 J1 ⟨I0,J0,hu_,U0,V0⟩=>?_
 subst hu_
 obtain ⟨x1,E1⟩:=Q0.agr J1
 refine BF 8 511 b0 I I .plain (AJ (news:=[.bool g0.fh.fc,I0,.bool g0.fe.fc,J0]) x1 .hd I I I I I I (o4 I (AE U0) I (AE V0))) fun x4 B0 E0=>AN (dk b0)<|Au I<|Aq (u:=.agg #[.bool g0.fh.fc,I0,.bool g0.fe.fc,J0]) M1 func138 I (.cons (.many (cs:=[.bool g0.fh.fc,I0,.bool g0.fe.fc,J0]) I I (B0.memA .hd)) .nil) I<|bk h fun s0 c2 h=>?_
 have H0:=Tt A2 (Tt B2 (Tt B1 (Tt C1 (Tt D1 (Tt C0 (Tt D0 (Tt E1 E0)))))))
 have z3:=Ag k1 H0
 have A3:=Ag p1 H0
 have B3:=Ag U0 E0
 have C3:=Ag V0 E0
 refine AU 4 31 j0 I .plain (bd 81) I (e2 I I) (fun p q=>ae_c n (B0.hL hL q) (⟨(⟨c0,y0⟩:Td),(⟨d0,z0⟩:Td)⟩:Tc) (Ah z3 q) (Ah A3 q) g0 (Ah B3 q) (Ah C3 q) c2) I fun y4 j4 K1 ⟨Y0,Z0,hu_,W0,X0⟩=>?_
 subst hu_
 obtain ⟨y1,F1⟩:=B0.agr K1
 refine BF 5 63 j0 I I .plain (AJ (news:=[.bool s0.fh.fc,Y0,.bool s0.fe.fc,Z0]) y1 .t3 I I I I I I (o4 I (AE W0) I (AE X0))) fun z4 z1 F0=>AN (dk j0)<|Ay<|Ap<|Ab (Bj (i:=t0) (j:=1) I I (by omega))<|Ae I<|Aa ?_
 obtain ⟨A1,G0⟩:=AA z1 .d3
 have D3:=Ag W0 (Tt F0 G0)
 have E3:=Ag X0 (Tt F0 G0)
 have H3:=Tt H0 (Tt F1 (Tt F0 G0))
 exact q2 (t0 + 1,s0.fh.fc,s0.fh.fj,s0.fe.fc,s0.fe.fj,Y0,Z0) A1 (Tt z2 H3) ⟨D3,E3⟩ h
 refine RO.enterPT (m' :=14) (fst:=[]) (cap:=[vP A0]) (vs:=[.agg ((aA x0)).toArray]) (sk j0) I I .plain (bd 138) func138 I I I I (e1 I) I fun _ X2 M1 G3=>Af<|RG.bx j1 I I fun k4 R2 v1 B1=>RG.nl [.bool false,vN,.bool false,vN] v1 fun p4 U2 u0 C1=>Aa<|Ak<|du 8 fun b0 v0=>Rx 0 482 b0 I v0 (AF I (u0.memA .t1))<|Rx 2 448 b0 I v0 (Bx I ((u0.memA .t6) 0 _ I))<|Rv 3 b0 I v0 (fun _=>Bw 0 I)<|Rx 4 480 b0 I v0 (AZ (cs:=(aa x0.fm)) I I (aj (u0.memA .t1) 0 16))<|bk h fun j2 X1 h=>AU 1 31 b0 I .plain (bd 66) I (e1 I) (fun p q=>aK_c n (u0.hL hL q) x0 X1) I fun q4 b4 G1 ⟨U3,V3,hu_,P1,Q1⟩=>?_
 subst hu_
 obtain ⟨M0,D1⟩:=u0.agr G1
 refine bk h fun k2 Y1 h=>AU 5 63 b0 I .plain (bd 68) I (e1 I) (fun p q=>am_c n (M0.hL hL q) x0.fm Y1) I fun s4 c4 H1 ⟨W3,X3,hu_,R1,U1⟩=>?_
 subst hu_
 obtain ⟨P0,C0⟩:=M0.agr H1
 refine bk h fun p2 Z1 h=>AU 6 127 b0 I .plain (bd 76) I (e1 I) (fun p q=>bF_c n (P0.hL hL q) k2 (Ah R1 q) (Ah U1 q) Z1) I fun u4 d4 I1 ⟨Y3,Z3,hu_,V1,W1⟩=>?_
 subst hu_
 obtain ⟨Q0,D0⟩:=P0.agr I1
 refine bk h fun g0 b2 h=>AU 7 255 b0 I .plain (bd 80) I (e2 I I) (fun p q=>aw_c n (Q0.hL hL q) j2 (Ah (Ag P1 (Tt C0 D0)) q) (Ah (Ag Q1 (Tt C0 D0)) q) p2 (Ah V1 q) (Ah W1 q) b2) I fun v4 g4 J1 ⟨I0,J0,hu_,U0,V0⟩=>?_
 subst hu_
 obtain ⟨x1,E1⟩:=Q0.agr J1
 refine BF 8 511 b0 I I .plain (AJ (news:=[.bool g0.fh.fc,I0,.bool g0.fe.fc,J0]) x1 .hd I I I I I I (o4 I (AE U0) I (AE V0))) fun x4 B0 E0=>AN (dk b0)<|Au I<|Aq (u:=.agg #[.bool g0.fh.fc,I0,.bool g0.fe.fc,J0]) M1 func138 I (.cons (.many (cs:=[.bool g0.fh.fc,I0,.bool g0.fe.fc,J0]) I I (B0.memA .hd)) .nil) I<|Rx 0 48 j0 I d2 (AF I (B0.memA .t3))<|bk h fun s0 c2 h=>?_
 have H0:=Tt A2 (Tt B2 (Tt B1 (Tt C1 (Tt D1 (Tt C0 (Tt D0 (Tt E1 E0)))))))
 refine AU 4 31 j0 I .plain (bd 81) I (e2 I I) (fun p q=>ae_c n (B0.hL hL q) (⟨(⟨c0,y0⟩:Td),(⟨d0,z0⟩:Td)⟩:Tc) (Ah (Ag k1 H0) q) (Ah (Ag p1 H0) q) g0 (Ah (Ag U0 E0) q) (Ah (Ag V0 E0) q) c2) I fun y4 j4 K1 ⟨Y0,Z0,hu_,W0,X0⟩=>?_
 subst hu_
 obtain ⟨y1,F1⟩:=B0.agr K1
 refine BF 5 63 j0 I I .plain (AJ (news:=[.bool s0.fh.fc,Y0,.bool s0.fe.fc,Z0]) y1 .t3 I I I I I I (o4 I (AE W0) I (AE X0))) fun z4 z1 F0=>AN (dk j0)<|Ay<|Ap<|Ab (Bj (i:=t0) (j:=1) I I (by omega))<|Ae I<|Aa ?_
 obtain ⟨A1,G0⟩:=AA z1 .d3
 exact q2 (t0 + 1,s0.fh.fc,s0.fh.fj,s0.fe.fc,s0.fe.fj,Y0,Z0) A1 (Tt z2 (Tt H0 (Tt F1 (Tt F0 G0)))) ⟨(Ag W0 (Tt F0 G0)),(Ag X0 (Tt F0 G0))⟩ h
 refine Bd I ?_
 have h:=s3 _ h
 try dsimp only at h
 refine Af<|Ab (AF I (g1.memA .hd))<|AQ [.bool c0,p0,.bool d0,q0] g1 .t1 (o4 I (AE k1) I (AE p1)) fun q5 v2 E2=>Aa<|Au I<|Aq (u:=.agg #[.bool c0,p0,.bool d0,q0]) p3 func70 I (.cons (.many (cs:=[.bool c0,p0,.bool d0,q0]) I I (v2.memA .t1)) .nil) I ?_
 have J2:=Ag k1 E2
 have K2:=Ag p1 E2
 refine AQ [.bool c0,p0,.bool d0,q0] v2 .t2 (o4 I (AE J2) I (AE K2)) fun s5 R0 F2=>Aa<|Au I<|Aq (u:=.agg #[.bool c0,p0,.bool d0,q0]) k3 func75 I (.cons (.many (cs:=[.bool c0,p0,.bool d0,q0]) I I (R0.memA .t2)) .nil) I<|bk h fun q1 R3 h=>Bo (.tuple #[.agg ((aa q1.1)).toArray,vI q1.2]) (bd 77) I (e1 I) (fun p q=>ak_c n (R0.hL0 hL q) (⟨(⟨c0,y0⟩:Td),(⟨d0,z0⟩:Td)⟩:Tc) (R0.kd (Ag J2 F2) q) (R0.kd (Ag K2 F2) q) R3) I<|Ab (Ac I I)<|Ab (Ac I I)<|AQ (aa q1.1) R0 .t4 (ak I) fun t5 x2 P4=>Ai I<|Aa<|Au I<|Aq hb0 func19 I (.cons (.many (cs:=(aa q1.1)) I I (x2.memA .t4)) (.cons (.tmp I) .nil)) I ?_
 cases h
 exact x2.gv
 refine Af<|Ab (AI (vs:=[]) (u:=.agg zM) ao (fun p=>by kernel_rfl))<|Ae I<|AQ zL d1 .hd (ak I) fun u5 y2 Q4=>Ai I<|Aa<|Au I<|Aq hb0 func19 I (.cons (.many (cs:=zL) I I (y2.memA .hd)) (.cons (.tmp I) .nil)) I ?_
 cases h
 exact y2.gv
def bp_p (n:Nat) (a0:Tc):Oa Tc:=
  (aS_p n a0.fh).bind fun b0=>some (⟨b0,a0.fe⟩:Tc)
theorem bp_c (n:Nat) {L w} (hL:hl L w) (a0:Tc) {v0_1:Vc} (h0_1:Rep.R w L [v0_1] a0.fh.fj) {v0_3:Vc} (h0_3:Rep.R w L [v0_3] a0.fe.fj)  {r:Tc} (h:bp_p n a0 = some r) :
 Cl 89 #[.agg #[.bool a0.fh.fc,v0_1,.bool a0.fe.fc,v0_3]] w (ar w fun w' u=>∃ v0_1 v0_3:Vc,u = .agg #[.bool r.fh.fc,v0_1,.bool r.fe.fc,v0_3]/\Rep.R w' L [v0_1] r.fh.fj/\Rep.R w' L [v0_3] r.fe.fj):=by
 unfold bp_p at h
 refine AT func89 I I I fun _ cs0 hb0=>Af<|RG.bx (AS w) I I fun M0 D0 u0 H0=>RG.nl [.bool false,vN,.bool false,vN] u0 fun P0 E0 c0 I0=>Aa<|Ak<|du 6 fun b0 d0=>Rv 0 b0 I d0 (fun _=>Bw 0 I)<|Rx 1 100 b0 I d0 (AZ (cs:=[.bool a0.fh.fc,v0_1]) I I (aj (c0.memA .t1) 0 2))<|Rv 3 b0 I d0 (fun _=>Bw 2 I)<|Rx 4 96 b0 I d0 (AZ (cs:=[.bool a0.fe.fc,v0_3]) I I (aj (c0.memA .t1) 2 2))<|bk h fun p0 A0 h=>AU 2 31 b0 I .plain (bd 145) I (e1 I) (fun p q=>aS_c n (c0.hL hL q) a0.fh (c0.km h0_1 q) A0) I fun Q0 K0 x0 ⟨g0,hu_,q0⟩=>?_
 subst hu_
 obtain ⟨s0,J0⟩:=c0.agr x0
 obtain ⟨B0,F0,y0,_⟩:=BD q0
 have t0:=AO h0_3 s0
 obtain ⟨C0,G0,z0,_⟩:=BD t0
 refine Rv 5 b0 I d0 (fun _=>AI (vs:=[.agg #[.bool p0.fc,g0],.agg #[.bool a0.fe.fc,v0_3]]) (u:=.agg #[.bool p0.fc,g0,.bool a0.fe.fc,v0_3]) (e2 I I) (fun p=>by rw [y0,z0]; try kernel_rfl))<|BF 6 127 b0 I I .plain (AJ (news:=[.bool p0.fc,g0,.bool a0.fe.fc,v0_3]) s0 .hd I I I I I I (o4 I (AE q0) I (AE t0))) fun R0 j0 v0=>AN (dk b0)<|Au I<|Aq hb0 func89 I (.cons (.many (cs:=[.bool p0.fc,g0,.bool a0.fe.fc,v0_3]) I I (j0.memA .hd)) .nil) I ?_
 cases h
 exact ⟨j0.ag,fun p q=>⟨g0,v0_3,I,j0.kd (Ag q0 v0) q,j0.k0 h0_3 q⟩⟩
def bL_p (n:Nat) (a0:Tc) (a1:Tc):Oa Tc:=
  (bp_p n a1).bind fun b0=>(ae_p n a0 b0).bind fun c0=>some c0
theorem bL_c (n:Nat) {L w} (hL:hl L w) (a0:Tc) {v0_1:Vc} (h0_1:Rep.R w L [v0_1] a0.fh.fj) {v0_3:Vc} (h0_3:Rep.R w L [v0_3] a0.fe.fj) (a1:Tc) {v1_1:Vc} (h1_1:Rep.R w L [v1_1] a1.fh.fj) {v1_3:Vc} (h1_3:Rep.R w L [v1_3] a1.fe.fj)  {r:Tc} (h:bL_p n a0 a1 = some r) :
 Cl 79 #[.agg #[.bool a0.fh.fc,v0_1,.bool a0.fe.fc,v0_3],.agg #[.bool a1.fh.fc,v1_1,.bool a1.fe.fc,v1_3]] w (ar w fun w' u=>∃ v0_1 v0_3:Vc,u = .agg #[.bool r.fh.fc,v0_1,.bool r.fe.fc,v0_3]/\Rep.R w' L [v0_1] r.fh.fj/\Rep.R w' L [v0_3] r.fe.fj):=by
 unfold bL_p at h
 refine AT func79 I I I fun _ cs0 hb0=>Af<|RG.bx (AS w) I I fun X0 G0 v0 J0=>RG.bx v0 I I fun Y0 H0 x0 K0=>RG.nl [.bool false,vN,.bool false,vN] x0 fun Z0 I0 b0 M0=>Aa<|Ak<|du 4 fun c0 u0=>Rx 0 24 c0 I u0 (AF I (b0.memA .t2))<|Rx 1 28 c0 I u0 (AF I (b0.memA .t1))<|bk h fun F0 D0 h=>AU 2 7 c0 I .plain (bd 89) I (e1 I) (fun p q=>bp_c n (b0.hL hL q) a1 (b0.km h1_1 q) (b0.km h1_3 q) D0) I fun b1 V0 z0 ⟨R0,U0,hu_,B0,C0⟩=>?_
 subst hu_
 obtain ⟨d0,P0⟩:=b0.agr z0
 refine bk h fun j0 E0 h=>AU 3 15 c0 I .plain (bd 81) I (e2 I I) (fun p q=>ae_c n (d0.hL hL q) a0 (d0.km h0_1 q) (d0.km h0_3 q) F0 (Ah B0 q) (Ah C0 q) E0) I fun c1 W0 A0 ⟨k0,p0,hu_,s0,t0⟩=>?_
 subst hu_
 obtain ⟨y0,Q0⟩:=d0.agr A0
 refine BF 4 31 c0 I I .plain (AJ (news:=[.bool j0.fh.fc,k0,.bool j0.fe.fc,p0]) y0 .hd I I I I I I (o4 I (AE s0) I (AE t0))) fun d1 g0 q0=>AN (dk c0)<|Au I<|Aq hb0 func79 I (.cons (.many (cs:=[.bool j0.fh.fc,k0,.bool j0.fe.fc,p0]) I I (g0.memA .hd)) .nil) I ?_
 cases h
 exact ⟨g0.ag,fun p q=>⟨k0,p0,I,g0.kd (Ag s0 q0) q,g0.kd (Ag t0 q0) q⟩⟩
def bA_p (n:Nat) (a0:Tc) (a1:Tc):Oa Tc:=
  (bL_p n a0 a1).bind fun b0=>(aw_p n b0 b0).bind fun c0=>some c0
theorem bA_c (n:Nat) {L w} (hL:hl L w) (a0:Tc) {v0_1:Vc} (h0_1:Rep.R w L [v0_1] a0.fh.fj) {v0_3:Vc} (h0_3:Rep.R w L [v0_3] a0.fe.fj) (a1:Tc) {v1_1:Vc} (h1_1:Rep.R w L [v1_1] a1.fh.fj) {v1_3:Vc} (h1_3:Rep.R w L [v1_3] a1.fe.fj) {p1:Nat} (m1:∀ j9 v9,([.bool a1.fh.fc,v1_1,.bool a1.fe.fc,v1_3]:List Vc)[j9]? = some v9 -> w.cell? ((⟨p1,0,none⟩:Addr).add j9) = some v9)  {r:Tc} (h:bA_p n a0 a1 = some r) :
 Cl 78 #[.agg #[.bool a0.fh.fc,v0_1,.bool a0.fe.fc,v0_3],.pointer (some ⟨p1,0,none⟩)] w (ar w fun w' u=>∃ v0_1 v0_3:Vc,u = .agg #[.bool r.fh.fc,v0_1,.bool r.fe.fc,v0_3]/\Rep.R w' L [v0_1] r.fh.fj/\Rep.R w' L [v0_3] r.fe.fj):=by
 unfold bA_p at h
 refine AT func78 I I I fun _ cs0 hb0=>Af<|RG.bx (AS w) I I fun c1 Q0 B0 V0=>RG.nl [.bool false,vN,.bool false,vN] B0 fun d1 R0 b0 W0=>Aa<|Af<|Ab (AF I (b0.memA .t1))<|Ab (AF I (fun j9 v9 h9=>b0.ag.cell0 (m1 j9 v9 h9)))<|bk h fun g0 J0 h=>jE (bd 79) I (e2 I I) (fun p q=>bL_c n (b0.hL hL q) a0 (b0.km h0_1 q) (b0.km h0_3 q) a1 (b0.km h1_1 q) (b0.km h1_3 q) J0) I fun g1 Z0 F0 ⟨M0,P0,hu_,H0,I0⟩=>?_
 subst hu_
 obtain ⟨C0,X0⟩:=b0.agr F0
 refine RG.nl [.bool false,vN,.bool false,vN] C0 fun j1 U0 D0 q0=>?_
 have u0:=Ag H0 q0
 have v0:=Ag I0 q0
 refine AQ [.bool g0.fh.fc,M0,.bool g0.fe.fc,P0] D0 .hd (o4 I (AE u0) I (AE v0)) fun k1 c0 s0=>Aa<|Af<|Ab (AF I (c0.memA .hd))<|Ab (AF I (c0.memA .hd))<|bk h fun j0 K0 h=>?_
 have x0:=Ag u0 s0
 have y0:=Ag v0 s0
 refine jE (bd 80) I (e2 I I) (fun p q=>aw_c n (c0.hL hL q) g0 (Ah x0 q) (Ah y0 q) g0 (Ah x0 q) (Ah y0 q) K0) I fun q1 b1 G0 ⟨k0,p0,hu_,z0,A0⟩=>?_
 subst hu_
 obtain ⟨E0,Y0⟩:=c0.agr G0
 refine AQ [.bool j0.fh.fc,k0,.bool j0.fe.fc,p0] E0 .t1 (o4 I (AE z0) I (AE A0)) fun s1 d0 t0=>Aa<|Au I<|Aq hb0 func78 I (.cons (.many (cs:=[.bool j0.fh.fc,k0,.bool j0.fe.fc,p0]) I I (d0.memA .t1)) .nil) I ?_
 cases h
 exact ⟨d0.ag,fun p q=>⟨k0,p0,I,d0.kd (Ag z0 t0) q,d0.kd (Ag A0 t0) q⟩⟩
def ax_l1 (n:Nat) (a0:List Tb) (s0:Bool) (u0:List Ua) (t0:Bool) (v0:List Ua) (q0:Nat × Bool × (List Ua) × Bool × (List Ua) -> Oa (Bool × (List Ua) × Bool × (List Ua))):Nat × Bool × (List Ua) × Bool × (List Ua) -> Oa (Bool × (List Ua) × Bool × (List Ua))
  | (c0,d0,k0,g0,p0)=>(if c0 < a0.length then (a0[c0]?).bind fun j0=>(aK_p n j0).bind fun x0=>(am_p n j0.fm).bind fun y0=>(bA_p n y0 (⟨(⟨s0,u0⟩:Td),(⟨t0,v0⟩:Td)⟩:Tc)).bind fun z0=>(aw_p n x0 z0).bind fun A0=>(ae_p n (⟨(⟨d0,k0⟩:Td),(⟨g0,p0⟩:Td)⟩:Tc) A0).bind fun b0=>q0 (c0 + 1,b0.fh.fc,b0.fh.fj,b0.fe.fc,b0.fe.fj) else some (d0,k0,g0,p0))
def ax_l2 (n:Nat) (a0:List Tb) (q0:Nat × Bool × (List Ua) × Bool × (List Ua) -> Oa (Bool × (List Ua) × Bool × (List Ua))):Nat × Bool × (List Ua) × Bool × (List Ua) -> Oa (Bool × (List Ua) × Bool × (List Ua))
  | (c0,d0,k0,g0,p0)=>(if c0 < a0.length then (a0[c0]?).bind fun j0=>(aK_p n j0).bind fun s0=>(am_p n j0.fm).bind fun t0=>(bF_p n t0).bind fun u0=>(aw_p n s0 u0).bind fun v0=>(ae_p n (⟨(⟨d0,k0⟩:Td),(⟨g0,p0⟩:Td)⟩:Tc) v0).bind fun b0=>q0 (c0 + 1,b0.fh.fc,b0.fh.fj,b0.fe.fc,b0.fe.fj) else some (d0,k0,g0,p0))
def ax_p (n:Nat) (a0:List Tb):Oa (Ta × Int):=
  (ap_p n a0).bind fun g0=>(if g0 = 0 then (aB_p n (0:Int)).bind fun b0=>Option.bind (az (ax_l2 n a0) n (0,b0.fh.fc,b0.fh.fj,b0.fe.fc,b0.fe.fj)) (fun (p0,u0,q0,v0)=>(aB_p n (0:Int)).bind fun c0=>Option.bind (az (ax_l1 n a0 p0 u0 q0 v0) n (0,c0.fh.fc,c0.fh.fj,c0.fe.fc,c0.fe.fj)) (fun (j0,s0,k0,t0)=>(ak_p n (⟨(⟨j0,s0⟩:Td),(⟨k0,t0⟩:Td)⟩:Tc)).bind fun d0=>some (d0.1,d0.2))) else some ((⟨(0,0,0,0,0,0,0,0),(0,0,0,0,0,0,0,0)⟩:Ta),g0))
theorem ax_c (n:Nat) {L w} (hL:hl L w) {a0:List Tb} {v0_0:Vc} (h0_0:Rep.R w L [v0_0] a0)  {r:Ta × Int} (h:ax_p n a0 = some r) :
 Cl 20 #[v0_0] w (ar w fun _ u=>u = .tuple #[.agg ((aa r.1)).toArray,vI r.2]):=by
 unfold ax_p at h
 refine AT func20 I I I fun _ cs0 hb0=>Af<|RG.nl zL (AS w) fun P9 B1 u2 v9=>Ai I<|Aa<|Ak<|Af<|Ae I<|bk h fun M5 M7 h=>Bo (vI M5) (bd 16) I (e1 I) (fun p q=>ap_c n (u2.hL0 hL q) (u2.k0 h0_0 q) M7) I<|Ai I<|Aa<|Af<|Ae I<|Ab (BM (i:=M5) (j:=0) I I)<|Aa<|MX.ifn I h (fun W5 h=>?_) (fun W5 h=>?_)
 refine Ar<|Af<|Ae I<|Bs (fst:=[]) (cap:=[]) (vs:=[v0_0,.func (.func 76) #[] #[]]) .plain (bd 75) func75 I I I I (e2 I I) I fun p9 B6 E9=>Af<|RG.bx u2 I I fun Y9 V0 d6 z9=>RG.nl [.bool false,vN,.bool false,vN] d6 fun Z9 M2 g6 A9=>Aa<|Af<|Ae I<|Ab (FV.makeFunc (vs:=[]) (us:=[vP V0]) ao (e1 I))<|Bs (fst:=[]) (cap:=[]) (vs:=[v0_0,.func (.func 138) #[] #[vP V0]]) .plain (bd 70) func70 I I I I (e2 I I) I fun q9 C6 F9=>Af<|RG.nl [.bool false,vN,.bool false,vN] g6 fun w34 k2 P4 B9=>Aa<|Af<|bk h fun C1 P7 h=>jE (bd 71) I (e1 I) (fun p q=>aB_c n (P4.hL hL q)  P7) I fun w39 K9 z6 ⟨H5,I5,hu_,D7,E7⟩=>?_
 subst hu_
 obtain ⟨j6,C9⟩:=P4.agr z6
 refine RG.nl [.bool false,vN,.bool false,vN] j6 fun w49 p2 p6 d5=>?_
 have A5:=Ag D7 d5
 have B5:=Ag E7 d5
 refine AQ [.bool C1.fh.fc,H5,.bool C1.fe.fc,I5] p6 .hd (o4 I (AE A5) I (AE B5)) fun w55 Q4 g5=>Aa<|Ak<|Af<|Ae I ?_
 have C5:=AO h0_0 Q4
 have D9:=Bg C5
 refine Ab (Bh (xs:=a0) underlying23 I C5)<|Ae I<|Aa<|Aw ?_
 obtain ⟨J9,x7,I6⟩:=aw h
 refine MX.lf (α:=Nat × Bool × (List Ua) × Bool × (List Ua) × Vc × Vc) (fun ⟨D0,c0,H0,d0,I0,j0,p0⟩=>[(1,.func (.func 138) #[] #[vP V0]),(4,vP k2),(5,vP p2),(9,v0_0),(10,vn a0.length),(11,vn D0)]) (fun ⟨D0,c0,H0,d0,I0,j0,p0⟩=>[.cells p2 [.bool c0,j0,.bool d0,p0] 109,.cells k2 [.bool false,vN,.bool false,vN] 109,.cells M2 [.bool false,vN,.bool false,vN] 109,.cells V0 [.func (.func 76) #[] #[]] 119,.cells B1 zL 34]) (fun ⟨D0,c0,H0,d0,I0,j0,p0⟩ A4=>Rep.R A4 (bl [.cells p2 [.bool c0,j0,.bool d0,p0] 109,.cells k2 [.bool false,vN,.bool false,vN] 109,.cells M2 [.bool false,vN,.bool false,vN] 109,.cells V0 [.func (.func 76) #[] #[]] 119,.cells B1 zL 34] ++ L) [j0] H0/\Rep.R A4 (bl [.cells p2 [.bool c0,j0,.bool d0,p0] 109,.cells k2 [.bool false,vN,.bool false,vN] 109,.cells M2 [.bool false,vN,.bool false,vN] 109,.cells V0 [.func (.func 76) #[] #[]] 119,.cells B1 zL 34] ++ L) [p0] I0) (fun ⟨D0,c0,H0,d0,I0,j0,p0⟩=>(D0,c0,H0,d0,I0)) (0,C1.fh.fc,C1.fh.fj,C1.fe.fc,C1.fe.fj,H5,I5) x7 Q4 ⟨(Ag A5 g5),(Ag B5 g5)⟩ ?_
 rintro b9 ⟨D0,c0,H0,d0,I0,j0,p0⟩ A4 I4 y2 Z4 ⟨I2,J2⟩ h
 unfold ax_l2 at h
 try dsimp only at h
 refine Af<|Ab (AY (i:=D0) (j:=a0.length) I I)<|Aa<|Ak<|Bb I h (fun X5 h=>?_) (fun X5 h=>?_)
 refine Ar<|Ak<|Aw<|Af<|bk h fun Q0 J7 h=>?_
 obtain ⟨Y8,j9,G6,K6,s9,F7,c7⟩:=Bv (AO h0_0 y2) J7
 obtain rfl:=aY F7
 refine Ab (BJ 32 D0 I G6 I I K6)<|Ab (AF I c7)<|RG.nl [vW 0,vW 0,vW 0,vW 0,vW 0,vW 0,vW 0,vW 0,vW 0,vW 0,vW 0,vW 0,vW 0,vW 0,vW 0,vW 0,vW 0,vW 0,vW 0,vW 0,vW 0,vW 0,vW 0,vW 0,vW 0,vW 0,vW 0,vW 0,vW 0,vW 0,vW 0,vW 0] y2 fun d00 d9 k6 b5=>AQ (aA Q0) k6 .hd (ak I) fun g00 z2 c5=>Aa<|du 3 fun x0 y4=>Rv 1 x0 I y4 (fun _=>Aj I)<|Rx 2 56 x0 I y4 (AF I (z2.memA .hd))<|BO [0,3] (rk x0) ⟨?_,?_,trivial⟩
 refine RO.val (m' :=7) (sk x0) I .plain I (AF I (z2.memA .t1))<|BK (i:=3) (rk x0) (RO.enterPT (m' :=15) (fst:=[]) (cap:=[vP V0]) (vs:=[.agg ((aA Q0)).toArray]) (sk x0) I I .plain (bd 138) func138 I I I I (e1 I) I (fun _ Z5 H3 z7=>?_))
 refine Af<|RG.bx z2 I I fun J8 R5 X2 k3=>RG.nl [.bool false,vN,.bool false,vN] X2 fun K8 U5 F0 p3=>Aa<|Ak<|du 8 fun g0 M0=>Rx 0 482 g0 I M0 (AF I (F0.memA .t1))<|Rx 2 448 g0 I M0 (Bx I ((F0.memA .t6) 0 _ I))<|Rv 3 g0 I M0 (fun _=>Bw 0 I)<|Rx 4 480 g0 I M0 (AZ (cs:=(aa Q0.fm)) I I (aj (F0.memA .t1) 0 16))<|bk h fun E4 q4 h=>AU 1 31 g0 I .plain (bd 66) I (e1 I) (fun p q=>aK_c n (F0.hL hL q) Q0 q4) I fun M8 u8 B3 ⟨Z7,b8,hu_,V3,W3⟩=>?_
 subst hu_
 obtain ⟨H1,q3⟩:=F0.agr B3
 refine bk h fun F4 s4 h=>AU 5 63 g0 I .plain (bd 68) I (e1 I) (fun p q=>am_c n (H1.hL hL q) Q0.fm s4) I fun P8 v8 C3 ⟨c8,d8,hu_,X3,Y3⟩=>?_
 subst hu_
 obtain ⟨I1,j1⟩:=H1.agr C3
 refine bk h fun G4 t4 h=>AU 6 127 g0 I .plain (bd 76) I (e1 I) (fun p q=>bF_c n (I1.hL hL q) F4 (Ah X3 q) (Ah Y3 q) t4) I fun Q8 x8 D3 ⟨g8,j8,hu_,Z3,b4⟩=>?_
 subst hu_
 obtain ⟨J1,k1⟩:=I1.agr D3
 refine bk h fun u0 u4 h=>?_
 have d7:=Ag V3 (Tt j1 k1)
 have g7:=Ag W3 (Tt j1 k1)
 refine AU 7 255 g0 I .plain (bd 80) I (e2 I I) (fun p q=>aw_c n (J1.hL hL q) E4 (Ah d7 q) (Ah g7 q) G4 (Ah Z3 q) (Ah b4 q) u4) I fun R8 y8 E3 ⟨z1,A1,hu_,X1,Y1⟩=>?_
 subst hu_
 obtain ⟨Y2,s3⟩:=J1.agr E3
 refine BF 8 511 g0 I I .plain (AJ (news:=[.bool u0.fh.fc,z1,.bool u0.fe.fc,A1]) Y2 .hd I I I I I I (o4 I (AE X1) I (AE Y1))) fun U8 Y0 p1=>AN (dk g0)<|Au I<|Aq (u:=.agg #[.bool u0.fh.fc,z1,.bool u0.fe.fc,A1]) H3 func138 I (.cons (.many (cs:=[.bool u0.fh.fc,z1,.bool u0.fe.fc,A1]) I I (Y0.memA .hd)) .nil) I<|bk h fun B0 v4 h=>?_
 have v1:=Tt b5 (Tt c5 (Tt k3 (Tt p3 (Tt q3 (Tt j1 (Tt k1 (Tt s3 p1)))))))
 have j7:=Ag I2 v1
 have k7:=Ag J2 v1
 have p7:=Ag X1 p1
 have q7:=Ag Y1 p1
 refine AU 4 31 x0 I .plain (bd 81) I (e2 I I) (fun p q=>ae_c n (Y0.hL hL q) (⟨(⟨c0,H0⟩:Td),(⟨d0,I0⟩:Td)⟩:Tc) (Ah j7 q) (Ah k7 q) u0 (Ah p7 q) (Ah q7 q) v4) I fun V8 z8 F3 ⟨g2,j2,hu_,Z1,b2⟩=>?_
 subst hu_
 obtain ⟨Z2,u3⟩:=Y0.agr F3
 refine BF 5 63 x0 I I .plain (AJ (news:=[.bool B0.fh.fc,g2,.bool B0.fe.fc,j2]) Z2 .t3 I I I I I I (o4 I (AE Z1) I (AE b2))) fun W8 b3 q1=>AN (dk x0)<|Ay<|Ap<|Ab (Bj (i:=D0) (j:=1) I I (by omega))<|Ae I<|Aa ?_
 obtain ⟨c3,s1⟩:=AA b3 .d3
 have s7:=Ag Z1 (Tt q1 s1)
 have u7:=Ag b2 (Tt q1 s1)
 have B7:=Tt v1 (Tt u3 (Tt q1 s1))
 exact I4 (D0 + 1,B0.fh.fc,B0.fh.fj,B0.fe.fc,B0.fe.fj,g2,j2) c3 (Tt Z4 B7) ⟨s7,u7⟩ h
 refine RO.enterPT (m' :=14) (fst:=[]) (cap:=[vP V0]) (vs:=[.agg ((aA Q0)).toArray]) (sk x0) I I .plain (bd 138) func138 I I I I (e1 I) I fun _ Z5 H3 z7=>Af<|RG.bx z2 I I fun J8 R5 X2 k3=>RG.nl [.bool false,vN,.bool false,vN] X2 fun K8 U5 F0 p3=>Aa<|Ak<|du 8 fun g0 M0=>Rx 0 482 g0 I M0 (AF I (F0.memA .t1))<|Rx 2 448 g0 I M0 (Bx I ((F0.memA .t6) 0 _ I))<|Rv 3 g0 I M0 (fun _=>Bw 0 I)<|Rx 4 480 g0 I M0 (AZ (cs:=(aa Q0.fm)) I I (aj (F0.memA .t1) 0 16))<|bk h fun E4 q4 h=>AU 1 31 g0 I .plain (bd 66) I (e1 I) (fun p q=>aK_c n (F0.hL hL q) Q0 q4) I fun M8 u8 B3 ⟨Z7,b8,hu_,V3,W3⟩=>?_
 subst hu_
 obtain ⟨H1,q3⟩:=F0.agr B3
 refine bk h fun F4 s4 h=>AU 5 63 g0 I .plain (bd 68) I (e1 I) (fun p q=>am_c n (H1.hL hL q) Q0.fm s4) I fun P8 v8 C3 ⟨c8,d8,hu_,X3,Y3⟩=>?_
 subst hu_
 obtain ⟨I1,j1⟩:=H1.agr C3
 refine bk h fun G4 t4 h=>AU 6 127 g0 I .plain (bd 76) I (e1 I) (fun p q=>bF_c n (I1.hL hL q) F4 (Ah X3 q) (Ah Y3 q) t4) I fun Q8 x8 D3 ⟨g8,j8,hu_,Z3,b4⟩=>?_
 subst hu_
 obtain ⟨J1,k1⟩:=I1.agr D3
 refine bk h fun u0 u4 h=>AU 7 255 g0 I .plain (bd 80) I (e2 I I) (fun p q=>aw_c n (J1.hL hL q) E4 (Ah (Ag V3 (Tt j1 k1)) q) (Ah (Ag W3 (Tt j1 k1)) q) G4 (Ah Z3 q) (Ah b4 q) u4) I fun R8 y8 E3 ⟨z1,A1,hu_,X1,Y1⟩=>?_
 subst hu_
 obtain ⟨Y2,s3⟩:=J1.agr E3
 refine BF 8 511 g0 I I .plain (AJ (news:=[.bool u0.fh.fc,z1,.bool u0.fe.fc,A1]) Y2 .hd I I I I I I (o4 I (AE X1) I (AE Y1))) fun U8 Y0 p1=>AN (dk g0)<|Au I<|Aq (u:=.agg #[.bool u0.fh.fc,z1,.bool u0.fe.fc,A1]) H3 func138 I (.cons (.many (cs:=[.bool u0.fh.fc,z1,.bool u0.fe.fc,A1]) I I (Y0.memA .hd)) .nil) I<|Rx 0 48 x0 I y4 (AF I (Y0.memA .t3))<|bk h fun B0 v4 h=>?_
 have v1:=Tt b5 (Tt c5 (Tt k3 (Tt p3 (Tt q3 (Tt j1 (Tt k1 (Tt s3 p1)))))))
 refine AU 4 31 x0 I .plain (bd 81) I (e2 I I) (fun p q=>ae_c n (Y0.hL hL q) (⟨(⟨c0,H0⟩:Td),(⟨d0,I0⟩:Td)⟩:Tc) (Ah (Ag I2 v1) q) (Ah (Ag J2 v1) q) u0 (Ah (Ag X1 p1) q) (Ah (Ag Y1 p1) q) v4) I fun V8 z8 F3 ⟨g2,j2,hu_,Z1,b2⟩=>?_
 subst hu_
 obtain ⟨Z2,u3⟩:=Y0.agr F3
 refine BF 5 63 x0 I I .plain (AJ (news:=[.bool B0.fh.fc,g2,.bool B0.fe.fc,j2]) Z2 .t3 I I I I I I (o4 I (AE Z1) I (AE b2))) fun W8 b3 q1=>AN (dk x0)<|Ay<|Ap<|Ab (Bj (i:=D0) (j:=1) I I (by omega))<|Ae I<|Aa ?_
 obtain ⟨c3,s1⟩:=AA b3 .d3
 exact I4 (D0 + 1,B0.fh.fc,B0.fh.fj,B0.fe.fc,B0.fe.fj,g2,j2) c3 (Tt Z4 (Tt v1 (Tt u3 (Tt q1 s1)))) ⟨(Ag Z1 (Tt q1 s1)),(Ag b2 (Tt q1 s1))⟩ h
 refine Bd I ?_
 have h:=I6 _ h
 try dsimp only at h
 refine Af<|Ab (AF I (y2.memA .hd))<|AQ [.bool c0,j0,.bool d0,p0] y2 .t1 (o4 I (AE I2) I (AE J2)) fun p00 R4 j5=>Aa<|Au I<|Aq (u:=.agg #[.bool c0,j0,.bool d0,p0]) C6 func70 I (.cons (.many (cs:=[.bool c0,j0,.bool d0,p0]) I I (R4.memA .t1)) .nil) I ?_
 have D5:=Ag I2 j5
 have E5:=Ag J2 j5
 refine AQ [.bool c0,j0,.bool d0,p0] R4 .t2 (o4 I (AE D5) I (AE E5)) fun q00 U4 k5=>Aa<|Au I<|Aq (u:=.agg #[.bool c0,j0,.bool d0,p0]) B6 func75 I (.cons (.many (cs:=[.bool c0,j0,.bool d0,p0]) I I (U4.memA .t2)) .nil) I<|RG.nl [.bool false,vN,.bool false,vN] U4 fun s00 G0 q6 p5=>?_
 have I3:=Ag D5 (Tt k5 p5)
 have J3:=Ag E5 (Tt k5 p5)
 refine AQ [.bool c0,j0,.bool d0,p0] q6 .hd (o4 I (AE I3) I (AE J3)) fun t00 s6 q5=>Aa<|Af<|Ae I<|Ab (FV.makeFunc (vs:=[]) (us:=[vP G0]) ao (e1 I))<|Bs (fst:=[]) (cap:=[]) (vs:=[v0_0,.func (.func 78) #[] #[vP G0]]) .plain (bd 75) func75 I I I I (e2 I I) I fun t9 D6 G9=>Af<|RG.bx s6 I I fun u00 W0 u6 s5=>RG.nl [.bool false,vN,.bool false,vN] u6 fun v00 P2 v6 u5=>Aa<|Af<|Ae I<|Ab (FV.makeFunc (vs:=[]) (us:=[vP W0]) ao (e1 I))<|Bs (fst:=[]) (cap:=[]) (vs:=[v0_0,.func (.func 138) #[] #[vP W0]]) .plain (bd 70) func70 I I I I (e2 I I) I fun u9 E6 H9=>Af<|RG.nl [.bool false,vN,.bool false,vN] v6 fun x00 q2 V4 v5=>Aa<|Af<|bk h fun D1 Q7 h=>jE (bd 71) I (e1 I) (fun p q=>aB_c n (V4.hL hL q)  Q7) I fun y00 M9 A6 ⟨J5,K5,hu_,G7,H7⟩=>?_
 subst hu_
 obtain ⟨x6,x5⟩:=V4.agr A6
 refine RG.nl [.bool false,vN,.bool false,vN] x6 fun z00 s2 y6 E2=>?_
 have F5:=Ag G7 E2
 have G5:=Ag H7 E2
 refine AQ [.bool D1.fh.fc,J5,.bool D1.fe.fc,K5] y6 .hd (o4 I (AE F5) I (AE G5)) fun A00 W4 F2=>Aa<|Ak<|Af<|Ae I<|Ab (Bh (xs:=a0) underlying23 I (AO h0_0 W4))<|Ae I<|Aa<|Aw ?_
 obtain ⟨b6,A2⟩:=AA W4 (.a0 (.a0 (.a0 (.a0 (.a0 .d4)))))
 obtain ⟨I9,v7,H6⟩:=aw h
 refine MX.lf (α:=Nat × Bool × (List Ua) × Bool × (List Ua) × Vc × Vc) (fun ⟨C0,q0,R0,s0,U0,y0,z0⟩=>[(1,.func (.func 138) #[] #[vP W0]),(4,vP q2),(5,vP s2),(9,v0_0),(10,vn a0.length),(11,vn C0)]) (fun ⟨C0,q0,R0,s0,U0,y0,z0⟩=>[.cells s2 [.bool q0,y0,.bool s0,z0] 109,.cells q2 [.bool false,vN,.bool false,vN] 109,.cells P2 [.bool false,vN,.bool false,vN] 109,.cells W0 [.func (.func 78) #[] #[vP G0]] 119,.cells G0 [.bool c0,j0,.bool d0,p0] 109,.cells B1 zL 34]) (fun ⟨C0,q0,R0,s0,U0,y0,z0⟩ z4=>Rep.R z4 (bl [.cells s2 [.bool q0,y0,.bool s0,z0] 109,.cells q2 [.bool false,vN,.bool false,vN] 109,.cells P2 [.bool false,vN,.bool false,vN] 109,.cells W0 [.func (.func 78) #[] #[vP G0]] 119,.cells G0 [.bool c0,j0,.bool d0,p0] 109,.cells B1 zL 34] ++ L) [y0] R0/\Rep.R z4 (bl [.cells s2 [.bool q0,y0,.bool s0,z0] 109,.cells q2 [.bool false,vN,.bool false,vN] 109,.cells P2 [.bool false,vN,.bool false,vN] 109,.cells W0 [.func (.func 78) #[] #[vP G0]] 119,.cells G0 [.bool c0,j0,.bool d0,p0] 109,.cells B1 zL 34] ++ L) [z0] U0) (fun ⟨C0,q0,R0,s0,U0,y0,z0⟩=>(C0,q0,R0,s0,U0)) (0,D1.fh.fc,D1.fh.fj,D1.fe.fc,D1.fe.fj,J5,K5) v7 b6 ⟨(Ag F5 (Tt F2 A2)),(Ag G5 (Tt F2 A2))⟩ ?_
 rintro Z8 ⟨C0,q0,R0,s0,U0,y0,z0⟩ z4 H4 v2 B2 ⟨G2,H2⟩ h
 unfold ax_l1 at h
 try dsimp only at h
 refine Af<|Ab (AY (i:=C0) (j:=a0.length) I I)<|Aa<|Ak<|Bb I h (fun V5 h=>?_) (fun V5 h=>?_)
 refine Ar<|Ak<|Aw<|Af<|bk h fun P0 I7 h=>?_
 obtain ⟨X8,g9,F6,J6,k9,C7,M6⟩:=Bv (AO h0_0 v2) I7
 obtain rfl:=aY C7
 refine Ab (BJ 32 C0 I F6 I I J6)<|Ab (AF I M6)<|RG.nl [vW 0,vW 0,vW 0,vW 0,vW 0,vW 0,vW 0,vW 0,vW 0,vW 0,vW 0,vW 0,vW 0,vW 0,vW 0,vW 0,vW 0,vW 0,vW 0,vW 0,vW 0,vW 0,vW 0,vW 0,vW 0,vW 0,vW 0,vW 0,vW 0,vW 0,vW 0,vW 0] v2 fun Q9 c9 c6 C2=>AQ (aA P0) c6 .hd (ak I) fun R9 x2 D2=>Aa<|du 3 fun v0 x4=>Rv 1 v0 I x4 (fun _=>Aj I)<|Rx 2 56 v0 I x4 (AF I (x2.memA .hd))<|BO [0,3] (rk v0) ⟨?_,?_,trivial⟩
 refine RO.val (m' :=7) (sk v0) I .plain I (AF I (x2.memA .t1))<|BK (i:=3) (rk v0) (RO.enterPT (m' :=15) (fst:=[]) (cap:=[vP W0]) (vs:=[.agg ((aA P0)).toArray]) (sk v0) I I .plain (bd 138) func138 I I I I (e1 I) I (fun _ Y5 G3 y7=>?_))
 refine Af<|RG.bx x2 I I fun A8 P5 Q2 K1=>RG.nl [.bool false,vN,.bool false,vN] Q2 fun B8 Q5 E0 M1=>Aa<|Ak<|du 8 fun b0 K0=>Rx 0 482 b0 I K0 (AF I (E0.memA .t1))<|Rx 2 448 b0 I K0 (Bx I ((E0.memA .t6) 0 _ I))<|Rv 3 b0 I K0 (fun _=>Bw 0 I)<|Rx 4 480 b0 I K0 (AZ (cs:=(aa P0.fm)) I I (aj (E0.memA .t1) 0 16))<|bk h fun B4 c4 h=>AU 1 31 b0 I .plain (bd 66) I (e1 I) (fun p q=>aK_c n (E0.hL hL q) P0 c4) I fun C8 k8 v3 ⟨R7,U7,hu_,K3,M3⟩=>?_
 subst hu_
 obtain ⟨E1,P1⟩:=E0.agr v3
 refine bk h fun C4 g4 h=>AU 5 63 b0 I .plain (bd 68) I (e1 I) (fun p q=>am_c n (E1.hL hL q) P0.fm g4) I fun D8 p8 x3 ⟨V7,W7,hu_,P3,Q3⟩=>?_
 subst hu_
 obtain ⟨Z0,J0⟩:=E1.agr x3
 refine bk h fun D4 j4 h=>?_
 have Q1:=Tt q5 (Tt s5 (Tt u5 (Tt v5 (Tt x5 (Tt E2 (Tt F2 (Tt A2 (Tt B2 (Tt C2 (Tt D2 (Tt K1 (Tt M1 (Tt P1 J0)))))))))))))
 have P6:=Ag I3 Q1
 have Q6:=Ag J3 Q1
 refine BK (i:=6) (rk b0) (RO.call (m' :=127) (fst:=[]) (cap:=[vP G0]) (sk b0) I .plain (bd 78) I (e1 I) (fun p q=>bA_c n (Z0.hL hL q) C4 (Ah P3 q) (Ah Q3 q) (⟨(⟨c0,H0⟩:Td),(⟨d0,I0⟩:Td)⟩:Tc) (Ah P6 q) (Ah Q6 q) (ae q (Z0.memA .t7)) j4) I (fun E8 q8 y3 ⟨X7,Y7,hu_,R3,U3⟩=>?_))
 subst hu_
 obtain ⟨F1,b1⟩:=Z0.agr y3
 refine bk h fun t0 k4 h=>?_
 have R6:=Ag K3 (Tt J0 b1)
 have U6:=Ag M3 (Tt J0 b1)
 refine AU 7 255 b0 I .plain (bd 80) I (e2 I I) (fun p q=>aw_c n (F1.hL hL q) B4 (Ah R6 q) (Ah U6 q) D4 (Ah R3 q) (Ah U3 q) k4) I fun F8 s8 z3 ⟨x1,y1,hu_,R1,U1⟩=>?_
 subst hu_
 obtain ⟨R2,g3⟩:=F1.agr z3
 refine BF 8 511 b0 I I .plain (AJ (news:=[.bool t0.fh.fc,x1,.bool t0.fe.fc,y1]) R2 .hd I I I I I I (o4 I (AE R1) I (AE U1))) fun G8 X0 c1=>AN (dk b0)<|Au I<|Aq (u:=.agg #[.bool t0.fh.fc,x1,.bool t0.fe.fc,y1]) G3 func138 I (.cons (.many (cs:=[.bool t0.fh.fc,x1,.bool t0.fe.fc,y1]) I I (X0.memA .hd)) .nil) I<|bk h fun A0 p4 h=>?_
 have u1:=Tt C2 (Tt D2 (Tt K1 (Tt M1 (Tt P1 (Tt J0 (Tt b1 (Tt g3 c1)))))))
 have V6:=Ag G2 u1
 have W6:=Ag H2 u1
 have X6:=Ag R1 c1
 have Y6:=Ag U1 c1
 refine AU 4 31 v0 I .plain (bd 81) I (e2 I I) (fun p q=>ae_c n (X0.hL hL q) (⟨(⟨q0,R0⟩:Td),(⟨s0,U0⟩:Td)⟩:Tc) (Ah V6 q) (Ah W6 q) t0 (Ah X6 q) (Ah Y6 q) p4) I fun H8 t8 A3 ⟨c2,d2,hu_,V1,W1⟩=>?_
 subst hu_
 obtain ⟨U2,j3⟩:=X0.agr A3
 refine BF 5 63 v0 I I .plain (AJ (news:=[.bool A0.fh.fc,c2,.bool A0.fe.fc,d2]) U2 .t3 I I I I I I (o4 I (AE V1) I (AE W1))) fun I8 V2 d1=>AN (dk v0)<|Ay<|Ap<|Ab (Bj (i:=C0) (j:=1) I I (by omega))<|Ae I<|Aa ?_
 obtain ⟨W2,g1⟩:=AA V2 .d3
 have Z6:=Ag V1 (Tt d1 g1)
 have b7:=Ag W1 (Tt d1 g1)
 have A7:=Tt u1 (Tt j3 (Tt d1 g1))
 exact H4 (C0 + 1,A0.fh.fc,A0.fh.fj,A0.fe.fc,A0.fe.fj,c2,d2) W2 (Tt B2 A7) ⟨Z6,b7⟩ h
 refine RO.enterPT (m' :=14) (fst:=[]) (cap:=[vP W0]) (vs:=[.agg ((aA P0)).toArray]) (sk v0) I I .plain (bd 138) func138 I I I I (e1 I) I fun _ Y5 G3 y7=>Af<|RG.bx x2 I I fun A8 P5 Q2 K1=>RG.nl [.bool false,vN,.bool false,vN] Q2 fun B8 Q5 E0 M1=>Aa<|Ak<|du 8 fun b0 K0=>Rx 0 482 b0 I K0 (AF I (E0.memA .t1))<|Rx 2 448 b0 I K0 (Bx I ((E0.memA .t6) 0 _ I))<|Rv 3 b0 I K0 (fun _=>Bw 0 I)<|Rx 4 480 b0 I K0 (AZ (cs:=(aa P0.fm)) I I (aj (E0.memA .t1) 0 16))<|bk h fun B4 c4 h=>AU 1 31 b0 I .plain (bd 66) I (e1 I) (fun p q=>aK_c n (E0.hL hL q) P0 c4) I fun C8 k8 v3 ⟨R7,U7,hu_,K3,M3⟩=>?_
 subst hu_
 obtain ⟨E1,P1⟩:=E0.agr v3
 refine bk h fun C4 g4 h=>AU 5 63 b0 I .plain (bd 68) I (e1 I) (fun p q=>am_c n (E1.hL hL q) P0.fm g4) I fun D8 p8 x3 ⟨V7,W7,hu_,P3,Q3⟩=>?_
 subst hu_
 obtain ⟨Z0,J0⟩:=E1.agr x3
 refine bk h fun D4 j4 h=>?_
 have Q1:=Tt q5 (Tt s5 (Tt u5 (Tt v5 (Tt x5 (Tt E2 (Tt F2 (Tt A2 (Tt B2 (Tt C2 (Tt D2 (Tt K1 (Tt M1 (Tt P1 J0)))))))))))))
 refine BK (i:=6) (rk b0) (RO.call (m' :=127) (fst:=[]) (cap:=[vP G0]) (sk b0) I .plain (bd 78) I (e1 I) (fun p q=>bA_c n (Z0.hL hL q) C4 (Ah P3 q) (Ah Q3 q) (⟨(⟨c0,H0⟩:Td),(⟨d0,I0⟩:Td)⟩:Tc) (Ah (Ag I3 Q1) q) (Ah (Ag J3 Q1) q) (ae q (Z0.memA .t7)) j4) I (fun E8 q8 y3 ⟨X7,Y7,hu_,R3,U3⟩=>?_))
 subst hu_
 obtain ⟨F1,b1⟩:=Z0.agr y3
 refine bk h fun t0 k4 h=>AU 7 255 b0 I .plain (bd 80) I (e2 I I) (fun p q=>aw_c n (F1.hL hL q) B4 (Ah (Ag K3 (Tt J0 b1)) q) (Ah (Ag M3 (Tt J0 b1)) q) D4 (Ah R3 q) (Ah U3 q) k4) I fun F8 s8 z3 ⟨x1,y1,hu_,R1,U1⟩=>?_
 subst hu_
 obtain ⟨R2,g3⟩:=F1.agr z3
 refine BF 8 511 b0 I I .plain (AJ (news:=[.bool t0.fh.fc,x1,.bool t0.fe.fc,y1]) R2 .hd I I I I I I (o4 I (AE R1) I (AE U1))) fun G8 X0 c1=>AN (dk b0)<|Au I<|Aq (u:=.agg #[.bool t0.fh.fc,x1,.bool t0.fe.fc,y1]) G3 func138 I (.cons (.many (cs:=[.bool t0.fh.fc,x1,.bool t0.fe.fc,y1]) I I (X0.memA .hd)) .nil) I<|Rx 0 48 v0 I x4 (AF I (X0.memA .t3))<|bk h fun A0 p4 h=>?_
 have u1:=Tt C2 (Tt D2 (Tt K1 (Tt M1 (Tt P1 (Tt J0 (Tt b1 (Tt g3 c1)))))))
 refine AU 4 31 v0 I .plain (bd 81) I (e2 I I) (fun p q=>ae_c n (X0.hL hL q) (⟨(⟨q0,R0⟩:Td),(⟨s0,U0⟩:Td)⟩:Tc) (Ah (Ag G2 u1) q) (Ah (Ag H2 u1) q) t0 (Ah (Ag R1 c1) q) (Ah (Ag U1 c1) q) p4) I fun H8 t8 A3 ⟨c2,d2,hu_,V1,W1⟩=>?_
 subst hu_
 obtain ⟨U2,j3⟩:=X0.agr A3
 refine BF 5 63 v0 I I .plain (AJ (news:=[.bool A0.fh.fc,c2,.bool A0.fe.fc,d2]) U2 .t3 I I I I I I (o4 I (AE V1) I (AE W1))) fun I8 V2 d1=>AN (dk v0)<|Ay<|Ap<|Ab (Bj (i:=C0) (j:=1) I I (by omega))<|Ae I<|Aa ?_
 obtain ⟨W2,g1⟩:=AA V2 .d3
 exact H4 (C0 + 1,A0.fh.fc,A0.fh.fj,A0.fe.fc,A0.fe.fj,c2,d2) W2 (Tt B2 (Tt u1 (Tt j3 (Tt d1 g1)))) ⟨(Ag V1 (Tt d1 g1)),(Ag W1 (Tt d1 g1))⟩ h
 refine Bd I ?_
 have h:=H6 _ h
 try dsimp only at h
 refine Af<|Ab (AF I (v2.memA .hd))<|AQ [.bool q0,y0,.bool s0,z0] v2 .t1 (o4 I (AE G2) I (AE H2)) fun U9 J4 X4=>Aa<|Au I<|Aq (u:=.agg #[.bool q0,y0,.bool s0,z0]) E6 func70 I (.cons (.many (cs:=[.bool q0,y0,.bool s0,z0]) I I (J4.memA .t1)) .nil) I ?_
 have y5:=Ag G2 X4
 have z5:=Ag H2 X4
 refine AQ [.bool q0,y0,.bool s0,z0] J4 .t2 (o4 I (AE y5) I (AE z5)) fun V9 G1 Y4=>Aa<|Au I<|Aq (u:=.agg #[.bool q0,y0,.bool s0,z0]) D6 func75 I (.cons (.many (cs:=[.bool q0,y0,.bool s0,z0]) I I (G1.memA .t2)) .nil) I<|bk h fun K2 K7 h=>Bo (.tuple #[.agg ((aa K2.1)).toArray,vI K2.2]) (bd 77) I (e1 I) (fun p q=>ak_c n (G1.hL0 hL q) (⟨(⟨q0,R0⟩:Td),(⟨s0,U0⟩:Td)⟩:Tc) (G1.kd (Ag y5 Y4) q) (G1.kd (Ag z5 Y4) q) K7) I<|Ab (Ac I I)<|Ab (Ac I I)<|AQ (aa K2.1) G1 .t5 (ak I) fun W9 K4 x9=>Ai I<|Aa<|Au I<|Aq hb0 func20 I (.cons (.many (cs:=(aa K2.1)) I I (K4.memA .t5)) (.cons (.tmp I) .nil)) I ?_
 cases h
 exact K4.gv
 refine Af<|Ab (AI (vs:=[]) (u:=.agg zM) ao (fun p=>by kernel_rfl))<|Ae I<|AQ zL u2 .hd (ak I) fun X9 M4 y9=>Ai I<|Aa<|Au I<|Aq hb0 func20 I (.cons (.many (cs:=zL) I I (M4.memA .hd)) (.cons (.tmp I) .nil)) I ?_
 cases h
 exact M4.gv
def bj_p (n:Nat) (a0:List Tb):Oa Bool:=
  (ap_p n a0).bind fun y1=>some (!(decide (y1 = 0)))
theorem bj_c (n:Nat) {L w} (hL:hl L w) {a0:List Tb} {v0_0:Vc} (h0_0:Rep.R w L [v0_0] a0)  {r:Bool} (h:bj_p n a0 = some r) :
 Cl 129 #[v0_0] w (ar w fun _ u=>u = .bool r):=by
 unfold bj_p at h
 have hS0:=AS w
 refine AT func129 I I I fun _ cs0 hb0=>Af<|Ai I<|Aa<|Af<|Ae I<|bk h fun y1 hy1 h=>Bo (vI y1) (bd 16) I (e1 I) (fun p q=>ap_c n (hS0.hL0 hL q) (hS0.kd h0_0 q) hy1) I<|Ab (BM (i:=y1) (j:=0) I I)<|Ai I<|Aa<|Au I<|By hb0 func129 I I ?_
 cases h
 exact hS0.gv
def bz_p (n:Nat) (a0:Ta):Oa Bool:=
  (bw_p n a0).bind fun b0=>some (!(decide (b0 = 0)))
theorem bz_c (n:Nat) {L w} (hL:hl L w) (a0:Ta)  {r:Bool} (h:bz_p n a0 = some r) :
 Cl 130 #[.agg ((aa a0)).toArray] w (ar w fun _ u=>u = .bool r):=by
 unfold bz_p at h
 refine AT func130 I I I fun _ cs0 hb0=>Af<|RG.bx (AS w) I I fun k0 g0 b0 j0=>Ai I<|Aa<|Af<|Ab (AF I (b0.memA .hd))<|bk h fun c0 d0 h=>Bo (vI c0) (bd 65) I (e1 I) (fun p q=>bw_c n (b0.hL0 hL q) a0 d0) I<|Ab (BM (i:=c0) (j:=0) I I)<|Ai I<|Aa<|Au I<|By hb0 func130 I I ?_
 cases h
 exact b0.gv
def aq_l1 (n:Nat) (a1:List Ta) (c0:Nat -> Oa (Int ⊕ Unit)):Nat -> Oa (Int ⊕ Unit)
  | b0=>(if b0 < a1.length then (a1[b0]?).bind fun d0=>(bz_p n d0).bind fun g0=>(if g0 = true then ((if 0 <= b0 then some (20:Int) else some (0:Int))).map .inl else c0 (b0 + 1)) else some (.inr ()))
def aq_l2 (n:Nat) (a1:List Ta) (c0:Nat -> Oa (Int ⊕ Unit)):Nat -> Oa (Int ⊕ Unit)
  | b0=>(if b0 < a1.length then (a1[b0]?).bind fun d0=>(bz_p n d0).bind fun g0=>(if g0 = true then ((if 0 <= b0 then some (20:Int) else some (0:Int))).map .inl else c0 (b0 + 1)) else some (.inr ()))
def aq_l3 (n:Nat) (a0:List (List Tb)) (a1:List Ta) (c0:Nat -> Oa (Int ⊕ Unit)):Nat -> Oa (Int ⊕ Unit)
  | b0=>(if b0 < a0.length then (a0[b0]?).bind fun d0=>(bj_p n d0).bind fun g0=>(if g0 = true then ((if 0 <= b0 then some (50:Int) else thn (az (aq_l1 n a1) n 0) (fun _=>(if 0 <= (-1) then some (20:Int) else some (0:Int))))).map .inl else c0 (b0 + 1)) else some (.inr ()))
def aq_p (n:Nat) (a0:List (List Tb)) (a1:List Ta):Oa Int:=
  thn (az (aq_l3 n a0 a1) n 0) (fun _=>(if 0 <= (-1) then some (50:Int) else thn (az (aq_l2 n a1) n 0) (fun _=>some (0:Int))))
theorem aq_c (n:Nat) {L w} (hL:hl L w) {a0:List (List Tb)} {v0_0:Vc} (h0_0:Rep.R w L [v0_0] a0) {a1:List Ta} {v1_0:Vc} (h1_0:Rep.R w L [v1_0] a1)  {r:Int} (h:aq_p n a0 a1 = some r) :
 Cl 63 #[v0_0,v1_0] w (ar w fun _ u=>u = vI r):=by
 unfold aq_p at h
 refine AT func63 I I I fun _ cs0 hb0=>Af<|Ai I<|Aa<|Ak<|Af<|Ae I<|Bs (fst:=[]) (cap:=[]) (vs:=[v0_0,.func (.func 129) #[] #[]]) .plain (bd 128) func128 I I I I (e2 I I) I fun cs2 hb1 hp3=>Af<|Ai I<|Aa<|Af<|Ae I<|Ae I<|Bs (fst:=[]) (cap:=[]) (vs:=[v0_0,.func (.func 129) #[] #[]]) .plain (bd 162) func162 I I I I (e2 I I) I fun cs5 hb4 hp6=>Af<|Ai I<|Aa<|Ak<|Af<|Ae I ?_
 have hl7:=Bg h0_0
 refine Ab (Bh (xs:=a0) underlying57 I h0_0)<|Ae I<|Aa<|Aw<|tn h fun v2 p1 x0=>MX.lo (α:=Nat) (fun c0=>[(0,v0_0),(1,.func (.func 129) #[] #[]),(7,vn a0.length),(8,vn c0)]) (fun c0=>[]) (fun c0=>c0) 0 p1 (AS w) ?_
 rintro Q1 c0 A2 P0 g0 U0 h
 unfold aq_l3 at h
 try dsimp only at h
 refine Af<|Ab (AY (i:=c0) (j:=a0.length) I I)<|Aa<|Ak<|Bb I h (fun E0 h=>?_) (fun E0 h=>?_)
 refine Ar<|Ak<|Aw<|Af<|Ae I<|Ai I<|Aa<|Af<|Ae I<|Ae I<|Ae I<|bk h fun C2 z1 h=>?_
 obtain ⟨K1,V1,X0,b1,b2,u1,g1⟩:=Bv (AO h0_0 g0) z1
 obtain ⟨y2,rfl,v1⟩:=fv u1
 refine Ab (BJ 1 c0 I X0 I I b1)<|BH I (g1 0 _ I)<|bk h fun H1 C1 h=>Bo (.bool H1) (bd 129) I (e1 I) (fun p q=>bj_c n (g0.hL0 hL q) (g0.kd v1 q) C1) I<|Aa<|MX.ifb I h (fun F0 h=>?_) (fun F0 h=>?_)
 refine Af<|Ae I<|Ai I<|Aa ?_
 have h:=eY h x0
 refine Au I<|Aq (u:=vn c0) hb4 func162 I (.cons (.tmp I) .nil) I<|Ab (FV.geqN (i:=c0) (j:=0) I I)<|Ai I<|Aa<|Au I<|Aq (u:=.bool (decide (0 <= c0))) hb1 func128 I (.cons (.tmp I) .nil) I<|Aa<|Bb I h (fun G0 h=>?_) (fun G0 h=>?_)
 refine Af<|Ai I<|Aa<|Au I<|By hb0 func63 I I ?_
 cases h
 exact g0.gv
 refine Ar<|Ak<|Af<|Ae I<|Bs (fst:=[]) (cap:=[]) (vs:=[v1_0,.func (.func 130) #[] #[]]) .plain (bd 93) func93 I I I I (e2 I I) I fun c2 t0 s2=>Af<|Ai I<|Aa<|Af<|Ae I<|Ae I<|Bs (fst:=[]) (cap:=[]) (vs:=[v1_0,.func (.func 130) #[] #[]]) .plain (bd 146) func146 I I I I (e2 I I) I fun d2 u0 t2=>Af<|Ai I<|Aa<|Ak<|Af<|Ae I ?_
 have A0:=AO h1_0 g0
 have k2:=Bg A0
 refine Ab (Bh (xs:=a1) underlying51 I A0)<|Ae I<|Aa<|Aw<|tn h fun x2 q1 y0=>MX.lo (α:=Nat) (fun d0=>[(0,v1_0),(1,.func (.func 130) #[] #[]),(7,vn a1.length),(8,vn d0)]) (fun d0=>[]) (fun d0=>d0) 0 q1 g0 ?_
 rintro R1 d0 B2 Q0 j0 V0 h
 unfold aq_l1 at h
 try dsimp only at h
 refine Af<|Ab (AY (i:=d0) (j:=a1.length) I I)<|Aa<|Ak<|Bb I h (fun H0 h=>?_) (fun H0 h=>?_)
 refine Ar<|Ak<|Aw<|Af<|Ae I<|Ai I<|Aa<|Af<|Ae I<|Ae I<|Ae I<|bk h fun F1 A1 h=>?_
 obtain ⟨M1,W1,Y0,c1,g2,x1,j1⟩:=Bv (AO h1_0 j0) A1
 obtain rfl:=dH x1
 refine Ab (BJ 16 d0 I Y0 I I c1)<|Ab (AF I j1)<|bk h fun I1 D1 h=>Bo (.bool I1) (bd 130) I (e1 I) (fun p q=>bz_c n (j0.hL0 hL q) F1 D1) I<|Aa<|MX.ifb I h (fun I0 h=>?_) (fun I0 h=>?_)
 refine Af<|Ae I<|Ai I<|Aa ?_
 have h:=eY h y0
 refine Au I<|Aq (u:=vn d0) u0 func146 I (.cons (.tmp I) .nil) I<|Ab (FV.geqN (i:=d0) (j:=0) I I)<|Ai I<|Aa<|Au I<|Aq (u:=.bool (decide (0 <= d0))) t0 func93 I (.cons (.tmp I) .nil) I<|Aa<|Bb I h (fun J0 h=>?_) (fun J0 h=>?_)
 refine Af<|Ai I<|Aa<|Au I<|By hb0 func63 I I ?_
 cases h
 exact j0.gv
 refine Ar<|Af<|Ai I<|Aa<|Au I<|By hb0 func63 I I ?_
 cases h
 exact j0.gv
 refine Ar<|Ay<|Ap<|Ab (Bj (i:=d0) (j:=1) I I (by omega))<|Ae I<|Aa<|Q0 (d0 + 1) j0 V0 h
 refine Bd I ?_
 have h:=cx h y0
 try dsimp only at h
 refine Af<|Ai I<|Aa<|Au I<|Aq (u:=vI (-1)) u0 func146 I (.cons (.tmp I) .nil) I<|Ab (FV.geq (i:=(-1)) (j:=0) I I)<|Ai I<|Aa<|Au I<|Aq (u:=.bool (decide (0 <= (-1)))) t0 func93 I (.cons (.tmp I) .nil) I<|Aa<|Bb I h (fun K0 h=>?_) (fun K0 h=>?_)
 refine Af<|Ai I<|Aa<|Au I<|By hb0 func63 I I ?_
 cases h
 exact j0.gv
 refine Ar<|Af<|Ai I<|Aa<|Au I<|By hb0 func63 I I ?_
 cases h
 exact j0.gv
 refine Ar<|Ay<|Ap<|Ab (Bj (i:=c0) (j:=1) I I (by omega))<|Ae I<|Aa<|P0 (c0 + 1) g0 U0 h
 refine Bd I ?_
 have h:=cx h x0
 try dsimp only at h
 refine Af<|Ai I<|Aa<|Au I<|Aq (u:=vI (-1)) hb4 func162 I (.cons (.tmp I) .nil) I<|Ab (FV.geq (i:=(-1)) (j:=0) I I)<|Ai I<|Aa<|Au I<|Aq (u:=.bool (decide (0 <= (-1)))) hb1 func128 I (.cons (.tmp I) .nil) I<|Aa<|Bb I h (fun p0 h=>?_) (fun p0 h=>?_)
 refine Af<|Ai I<|Aa<|Au I<|By hb0 func63 I I ?_
 cases h
 exact g0.gv
 refine Ar<|Ak<|Af<|Ae I<|Bs (fst:=[]) (cap:=[]) (vs:=[v1_0,.func (.func 130) #[] #[]]) .plain (bd 93) func93 I I I I (e2 I I) I fun X1 q0 p2=>Af<|Ai I<|Aa<|Af<|Ae I<|Ae I<|Bs (fst:=[]) (cap:=[]) (vs:=[v1_0,.func (.func 130) #[] #[]]) .plain (bd 146) func146 I I I I (e2 I I) I fun Y1 s0 q2=>Af<|Ai I<|Aa<|Ak<|Af<|Ae I ?_
 have z0:=AO h1_0 g0
 have j2:=Bg z0
 refine Ab (Bh (xs:=a1) underlying51 I z0)<|Ae I<|Aa<|Aw<|tn h fun u2 k1 v0=>MX.lo (α:=Nat) (fun b0=>[(0,v1_0),(1,.func (.func 130) #[] #[]),(7,vn a1.length),(8,vn b0)]) (fun b0=>[]) (fun b0=>b0) 0 k1 g0 ?_
 rintro P1 b0 z2 M0 k0 R0 h
 unfold aq_l2 at h
 try dsimp only at h
 refine Af<|Ab (AY (i:=b0) (j:=a1.length) I I)<|Aa<|Ak<|Bb I h (fun B0 h=>?_) (fun B0 h=>?_)
 refine Ar<|Ak<|Aw<|Af<|Ae I<|Ai I<|Aa<|Af<|Ae I<|Ae I<|Ae I<|bk h fun E1 y1 h=>?_
 obtain ⟨J1,U1,W0,Z0,Z1,s1,d1⟩:=Bv (AO h1_0 k0) y1
 obtain rfl:=dH s1
 refine Ab (BJ 16 b0 I W0 I I Z0)<|Ab (AF I d1)<|bk h fun G1 B1 h=>Bo (.bool G1) (bd 130) I (e1 I) (fun p q=>bz_c n (k0.hL0 hL q) E1 B1) I<|Aa<|MX.ifb I h (fun C0 h=>?_) (fun C0 h=>?_)
 refine Af<|Ae I<|Ai I<|Aa ?_
 have h:=eY h v0
 refine Au I<|Aq (u:=vn b0) s0 func146 I (.cons (.tmp I) .nil) I<|Ab (FV.geqN (i:=b0) (j:=0) I I)<|Ai I<|Aa<|Au I<|Aq (u:=.bool (decide (0 <= b0))) q0 func93 I (.cons (.tmp I) .nil) I<|Aa<|Bb I h (fun D0 h=>?_) (fun D0 h=>?_)
 refine Af<|Ai I<|Aa<|Au I<|By hb0 func63 I I ?_
 cases h
 exact k0.gv
 refine Ar<|Af<|Ai I<|Aa<|Au I<|By hb0 func63 I I ?_
 cases h
 exact k0.gv
 refine Ar<|Ay<|Ap<|Ab (Bj (i:=b0) (j:=1) I I (by omega))<|Ae I<|Aa<|M0 (b0 + 1) k0 R0 h
 refine Bd I ?_
 have h:=cx h v0
 try dsimp only at h
 refine Af<|Ai I<|Aa<|Au I<|Aq (u:=vI (-1)) s0 func146 I (.cons (.tmp I) .nil) I<|Ab (FV.geq (i:=(-1)) (j:=0) I I)<|Ai I<|Aa<|Au I<|Aq (u:=.bool (decide (0 <= (-1)))) q0 func93 I (.cons (.tmp I) .nil) I<|Aa<|MX.cond_kf I (decide_eq_false p0)<|Ar<|Af<|Ai I<|Aa<|Au I<|By hb0 func63 I I ?_
 cases h
 exact k0.gv

theorem bW:ElT Tryz.prog 57 24 (Rep.size (List Tb)) 24 vN [vN]:=⟨underlying57,by kernel_rfl,rfl,rfl,rfl,rfl⟩
theorem bq:ElT Tryz.prog 51 34 (Rep.size Ta) 128 (.agg zM) zL:=⟨underlying51,by kernel_rfl,rfl,rfl,rfl,rfl⟩
def ao_l1 (n:Nat) (a0:List Tb) (M0:Tc) (g0:Nat × Ua × Ua × Ua × Ua × Ua × Ua × Ua × Ua × Ua × Ua × Ua × Ua × Ua × Ua × Ua × Ua × Bool × (List Ua) × Bool × (List Ua) -> Oa (U16)):Nat × Ua × Ua × Ua × Ua × Ua × Ua × Ua × Ua × Ua × Ua × Ua × Ua × Ua × Ua × Ua × Ua × Bool × (List Ua) × Bool × (List Ua) -> Oa (U16)
  | (d0,p0,q0,s0,t0,u0,v0,x0,y0,z0,A0,B0,C0,D0,E0,F0,G0,j0,H0,k0,I0)=>(if d0 < a0.length then (a0[d0]?).bind fun b0=>(aK_p n b0).bind fun J0=>(ae_p n (⟨(⟨j0,H0⟩:Td),(⟨k0,I0⟩:Td)⟩:Tc) J0).bind fun c0=>(aG_p n c0 M0).bind fun K0=>(if 0 <= K0 then some (b0.fm.fN.1,b0.fm.fN.2.1,b0.fm.fN.2.2.1,b0.fm.fN.2.2.2.1,b0.fm.fN.2.2.2.2.1,b0.fm.fN.2.2.2.2.2.1,b0.fm.fN.2.2.2.2.2.2.1,b0.fm.fN.2.2.2.2.2.2.2,b0.fm.fD.1,b0.fm.fD.2.1,b0.fm.fD.2.2.1,b0.fm.fD.2.2.2.1,b0.fm.fD.2.2.2.2.1,b0.fm.fD.2.2.2.2.2.1,b0.fm.fD.2.2.2.2.2.2.1,b0.fm.fD.2.2.2.2.2.2.2) else g0 (d0 + 1,b0.fm.fN.1,b0.fm.fN.2.1,b0.fm.fN.2.2.1,b0.fm.fN.2.2.2.1,b0.fm.fN.2.2.2.2.1,b0.fm.fN.2.2.2.2.2.1,b0.fm.fN.2.2.2.2.2.2.1,b0.fm.fN.2.2.2.2.2.2.2,b0.fm.fD.1,b0.fm.fD.2.1,b0.fm.fD.2.2.1,b0.fm.fD.2.2.2.1,b0.fm.fD.2.2.2.2.1,b0.fm.fD.2.2.2.2.2.1,b0.fm.fD.2.2.2.2.2.2.1,b0.fm.fD.2.2.2.2.2.2.2,c0.fh.fc,c0.fh.fj,c0.fe.fc,c0.fe.fj)) else some (p0,q0,s0,t0,u0,v0,x0,y0,z0,A0,B0,C0,D0,E0,F0,G0))
def ao_p (n:Nat) (a0:List Tb) (a1:Ta):Oa (Ta × Int):=
  (aq_p n ([a0]:List (List Tb)) ([a1]:List Ta)).bind fun d0=>(if d0 = 0 then (am_p n a1).bind fun c0=>(aI_p n c0.fh).bind fun F0=>(if F0 <= 0 then some ((⟨(0,0,0,0,0,0,0,0),(0,0,0,0,0,0,0,0)⟩:Ta),(2:Int)) else (aB_p n (1:Int)).bind fun G0=>(aG_p n c0 G0).bind fun H0=>(if 0 < H0 then some ((⟨(0,0,0,0,0,0,0,0),(0,0,0,0,0,0,0,0)⟩:Ta),(2:Int)) else (aB_p n (0:Int)).bind fun b0=>jn (fun (j0,k0,p0,q0,s0,t0,u0,v0,x0,y0,z0,A0,B0,C0,D0,E0)=>some ((⟨(j0,k0,p0,q0,s0,t0,u0,v0),(x0,y0,z0,A0,B0,C0,D0,E0)⟩:Ta),(0:Int))) (fun g0=>Option.bind (az (ao_l1 n a0 c0) n (0,0,0,0,0,0,0,0,0,0,0,0,0,0,0,0,0,b0.fh.fc,b0.fh.fj,b0.fe.fc,b0.fe.fj)) (g0)))) else some ((⟨(0,0,0,0,0,0,0,0),(0,0,0,0,0,0,0,0)⟩:Ta),d0))
theorem ao_c (n:Nat) {L w} (hL:hl L w) {a0:List Tb} {v0_0:Vc} (h0_0:Rep.R w L [v0_0] a0) (a1:Ta)  {r:Ta × Int} (h:ao_p n a0 a1 = some r) :
 Cl 21 #[v0_0,.agg ((aa a1)).toArray] w (ar w fun _ u=>u = .tuple #[.agg ((aa r.1)).toArray,vI r.2]):=by
 unfold ao_p at h
 refine AT func21 I I I fun _ cs0 hb0=>Af<|RG.bx (AS w) I I fun s6 F5 g4 M5=>RG.nl zL g4 fun z6 P0 Y2 Q5=>Ai I<|Aa<|MX.scope<|Ak<|Af<|Ae I ?_
 obtain ⟨B5,J5,c5,_⟩:=BD (AO h0_0 Y2)
 refine Am .plain I (AG (α:=List Tb) (xs:=([a0]:List (List Tb))) (vs:=[v0_0]) (ds' :=[v0_0]) I Y2 bW I (e1 I) (by rw [c5]; try kernel_rfl) I) fun A6 G5 p2 R5=>Ab (AF I (p2.memA .t2))<|Am .plain I (AG (α:=Ta) (xs:=([a1]:List Ta)) (vs:=[.agg ((aa a1)).toArray]) (ds' :=(aa a1)) I p2 bq I (e1 I) (by kernel_rfl) I) fun w32 H5 k1 E4=>bk h fun Q3 j5 h=>Bo (vI Q3) (bd 63) I (e2 I I) (fun w9 hw9=>aq_c n (k1.hL0 hL hw9) (Ah (St.lend (α:=List Tb) (L:=L) k1 .t1 (AK (AC (cs:=[v0_0]) (xs:=(([a0]:List (List Tb)):List (List Tb))) p2 L (Ao (cs:=[v0_0]) (ds:=[]) (AO h0_0 p2) (AH _ _))) E4) hL) hw9) (Ah (St.lend (α:=Ta) (L:=L) k1 .hd (AC (cs:=(aa a1)) (xs:=(([a1]:List Ta):List Ta)) k1 L (Ao (cs:=(aa a1)) (ds:=[]) (aG a1.fN a1.fD) (AH _ _))) hL) hw9) j5) I<|Ai I<|Aa<|Af<|Ae I<|Ab (BM (i:=Q3) (j:=0) I I)<|Aa<|MX.ifn I h (fun X3 h=>?_) (fun X3 h=>?_)
 refine Ar<|Af<|Ab (AF I (k1.memA .t3))<|bk h fun g0 k5 h=>jE (bd 68) I (e1 I) (fun w9 hw9=>am_c n (k1.hL hL hw9) a1 k5) I fun B6 g6 G4 ⟨z1,X1,hu_,V4,W4⟩=>?_
 subst hu_
 obtain ⟨y4,U5⟩:=k1.agr G4
 refine RG.nl [.bool false,vN,.bool false,vN] y4 fun C6 Z0 z4 k3=>?_
 have A3:=Ag V4 k3
 have B3:=Ag W4 k3
 refine AQ [.bool g0.fh.fc,z1,.bool g0.fe.fc,X1] z4 .hd (o4 I (AE A3) I (AE B3)) fun D6 B1 p3=>Aa<|Ak<|Ak<|du 10 fun k0 I0=>Rv 0 k0 I I0 (fun _=>Bw 0 I)<|Rx 1 1020 k0 I I0 (AZ (cs:=[.bool g0.fh.fc,z1]) I I (aj (B1.memA .hd) 0 2))<|bk h fun R3 p5 h=>?_
 have C3:=Ag A3 p3
 refine RD.cq 2 7 1016 (vI R3) k0 I I0 (bd 67) I (e1 I) (fun w9 hw9=>aI_c n (B1.hL0 hL hw9) g0.fh (B1.kd C3 hw9) p5) I<|Rv 3 k0 I I0 (fun _=>FV.leq (i:=R3) (j:=0) I I)<|Rv 4 k0 I I0 (fun _=>Aj I)<|RD.ifd (s:=27) I h (fun Y3 h=>?_) (fun Y3 h=>?_)
 refine Bu 511 1 [(5,28),(6,29),(7,30),(8,31)] (F:=[(27,true)]) (U:=[]) k0 I0 (.cons I .nil) .nil ?_
 dsimp only [aQ,List.map]
 refine Rv 9 k0 I I0 (fun _=>Bc I I)<|AN (dk k0)<|AW I<|Af<|Ab (AI (vs:=[]) (u:=.agg zM) ao (fun w9=>by kernel_rfl))<|AQ zL B1 .t3 (ak I) fun E6 Z2 V5=>Ai I<|Aa<|Au I<|Aq hb0 func21 I (.cons (.many (cs:=zL) I I (Z2.memA .t3)) (.cons (.tmp I) .nil)) I ?_
 cases h
 exact Z2.gv
 refine RD.val (i:=5) (m' :=63) (W:=896) (tk k0) I I0 (.yes I I) (AF I (B1.memA .hd)) I<|bk h fun z5 q5 h=>AU 6 127 k0 I (.yes I I) (bd 71) I (e1 I) (fun w9 hw9=>aB_c n (B1.hL hL hw9)  q5) I fun F6 j6 H4 ⟨c6,d6,hu_,X4,Y4⟩=>?_
 subst hu_
 obtain ⟨p1,q3⟩:=B1.agr H4
 refine bk h fun U3 s5 h=>?_
 have D3:=Ag C3 q3
 have E3:=Ag B3 (Tt p3 q3)
 refine AV (i:=7) (m' :=255) (W:=768) (tk k0) I I0 (v:=vI U3) (fst:=[]) (cap:=[]) (.yes I I) (bd 69) I (e2 I I) (fun w9 hw9=>aG_c n (p1.hL0 hL hw9) g0 (p1.kd D3 hw9) (p1.kd E3 hw9) z5 (p1.kd X4 hw9) (p1.kd Y4 hw9) s5) I<|AX 8 511 k0 I I0 (.yes I I) (fun _=>FV.gtr (i:=U3) (j:=0) I I) I<|Rv 9 k0 I I0 (fun _=>Be I I)<|AN (dk k0)<|Bb I h (fun Z3 h=>?_) (fun Z3 h=>?_)
 refine Af<|Ab (AI (vs:=[]) (u:=.agg zM) ao (fun w9=>by kernel_rfl))<|AQ zL p1 .t3 (ak I) fun G6 b3 W5=>Ai I<|Aa<|Au I<|Aq hb0 func21 I (.cons (.many (cs:=zL) I I (b3.memA .t3)) (.cons (.tmp I) .nil)) I ?_
 cases h
 exact b3.gv
 refine Ar<|Af<|bk h fun c2 t5 h=>jE (bd 71) I (e1 I) (fun w9 hw9=>aB_c n (p1.hL hL hw9)  t5) I fun H6 k6 I4 ⟨I3,J3,hu_,Z4,b5⟩=>?_
 subst hu_
 obtain ⟨A4,F4⟩:=p1.agr I4
 refine Ab (AI (vs:=[]) (u:=.agg zM) ao (fun w9=>by kernel_rfl))<|RG.nl [.bool false,vN,.bool false,vN] A4 fun I6 b1 B4 G2=>RG.nl zL B4 fun p6 M0 c4 A2=>?_
 have u3:=Ag Z4 (Tt G2 A2)
 have v3:=Ag b5 (Tt G2 A2)
 refine AQ [.bool c2.fh.fc,I3,.bool c2.fe.fc,J3] c4 .t1 (o4 I (AE u3) I (AE v3)) fun q6 d4 g3=>AQ zL d4 .hd (ak I) fun t6 y2 j3=>Aa<|Ak<|MX.label<|Ak<|Af<|Ae I ?_
 have x3:=AO h0_0 y2
 have Z5:=Bg x3
 refine Ab (Bh (xs:=a0) underlying24 I x3)<|Ae I<|Aa<|Aw<|MX.xo (α:=U16) 0 (fun ⟨C1,D1,E1,F1,G1,H1,I1,J1,K1,M1,P1,Q1,R1,U1,V1,W1⟩=>[(4,vP P0),(9,vP M0)]) (fun ⟨C1,D1,E1,F1,G1,H1,I1,J1,K1,M1,P1,Q1,R1,U1,V1,W1⟩=>[.cells M0 [vU C1,vU D1,vU E1,vU F1,vU G1,vU H1,vU I1,vU J1,vU K1,vU M1,vU P1,vU Q1,vU R1,vU U1,vU V1,vU W1] 34,.cells P0 zL 34]) (fun ⟨C1,D1,E1,F1,G1,H1,I1,J1,K1,M1,P1,Q1,R1,U1,V1,W1⟩=>(C1,D1,E1,F1,G1,H1,I1,J1,K1,M1,P1,Q1,R1,U1,V1,W1)) y2 I h ?_ ?_
 rintro ⟨C1,D1,E1,F1,G1,H1,I1,J1,K1,M1,P1,Q1,R1,U1,V1,W1⟩ K6 c3 X5 h
 try dsimp only at h
 refine Af<|Ab (AF I (c3.memA .hd))<|AQ [vU C1,vU D1,vU E1,vU F1,vU G1,vU H1,vU I1,vU J1,vU K1,vU M1,vU P1,vU Q1,vU R1,vU U1,vU V1,vU W1] c3 .t1 (ak I) fun J6 d3 Y5=>Ai I<|Aa<|Au I<|Aq hb0 func21 I (.cons (.many (cs:=[vU C1,vU D1,vU E1,vU F1,vU G1,vU H1,vU I1,vU J1,vU K1,vU M1,vU P1,vU Q1,vU R1,vU U1,vU V1,vU W1]) I I (d3.memA .t1)) (.cons (.tmp I) .nil)) I ?_
 cases h
 exact d3.gv
 intro D5 W2 h
 try dsimp only at h
 obtain ⟨j4,q2⟩:=AA y2 (.a0 (.a0 (.a0 (.a2 .done))))
 have F3:=Tt g3 (Tt j3 q2)
 obtain ⟨b6,P4,s3⟩:=aw h
 refine MX.lf (α:=Nat × Ua × Ua × Ua × Ua × Ua × Ua × Ua × Ua × Ua × Ua × Ua × Ua × Ua × Ua × Ua × Ua × Bool × (List Ua) × Bool × (List Ua) × Vc × Vc) (fun ⟨H0,p0,q0,s0,t0,u0,v0,x0,y0,z0,A0,B0,C0,D0,E0,F0,G0,J0,X0,K0,Y0,u1,v1⟩=>[(4,vP P0),(7,vP Z0),(8,vP b1),(9,vP M0),(36,v0_0),(37,vn a0.length),(38,vn H0)]) (fun ⟨H0,p0,q0,s0,t0,u0,v0,x0,y0,z0,A0,B0,C0,D0,E0,F0,G0,J0,X0,K0,Y0,u1,v1⟩=>[.cells M0 [vU p0,vU q0,vU s0,vU t0,vU u0,vU v0,vU x0,vU y0,vU z0,vU A0,vU B0,vU C0,vU D0,vU E0,vU F0,vU G0] 34,.cells b1 [.bool J0,u1,.bool K0,v1] 109,.cells Z0 [.bool g0.fh.fc,z1,.bool g0.fe.fc,X1] 109,.cells P0 zL 34]) (fun ⟨H0,p0,q0,s0,t0,u0,v0,x0,y0,z0,A0,B0,C0,D0,E0,F0,G0,J0,X0,K0,Y0,u1,v1⟩ R2=>Rep.R R2 (bl [.cells M0 [vU p0,vU q0,vU s0,vU t0,vU u0,vU v0,vU x0,vU y0,vU z0,vU A0,vU B0,vU C0,vU D0,vU E0,vU F0,vU G0] 34,.cells b1 [.bool J0,u1,.bool K0,v1] 109,.cells Z0 [.bool g0.fh.fc,z1,.bool g0.fe.fc,X1] 109,.cells P0 zL 34] ++ L) [u1] X0/\Rep.R R2 (bl [.cells M0 [vU p0,vU q0,vU s0,vU t0,vU u0,vU v0,vU x0,vU y0,vU z0,vU A0,vU B0,vU C0,vU D0,vU E0,vU F0,vU G0] 34,.cells b1 [.bool J0,u1,.bool K0,v1] 109,.cells Z0 [.bool g0.fh.fc,z1,.bool g0.fe.fc,X1] 109,.cells P0 zL 34] ++ L) [v1] Y0) (fun ⟨H0,p0,q0,s0,t0,u0,v0,x0,y0,z0,A0,B0,C0,D0,E0,F0,G0,J0,X0,K0,Y0,u1,v1⟩=>(H0,p0,q0,s0,t0,u0,v0,x0,y0,z0,A0,B0,C0,D0,E0,F0,G0,J0,X0,K0,Y0)) (0,0,0,0,0,0,0,0,0,0,0,0,0,0,0,0,0,c2.fh.fc,c2.fh.fj,c2.fe.fc,c2.fe.fj,I3,J3) P4 j4 ⟨(Ag u3 F3),(Ag v3 F3)⟩ ?_
 rintro C5 ⟨H0,p0,q0,s0,t0,u0,v0,x0,y0,z0,A0,B0,C0,D0,E0,F0,G0,J0,X0,K0,Y0,u1,v1⟩ R2 b4 z2 s2 ⟨K2,M2⟩ h
 unfold ao_l1 at h
 try dsimp only at h
 refine Af<|Ab (AY (i:=H0) (j:=a0.length) I I)<|Aa<|Ak<|Bb I h (fun V3 h=>?_) (fun V3 h=>?_)
 refine Ar<|Ak<|Aw<|Af<|bk h fun b0 d5 h=>?_
 obtain ⟨A5,I5,J4,K4,K5,Q4,M4⟩:=Bv (AO h0_0 z2) d5
 obtain rfl:=aY Q4
 refine Ab (BJ 32 H0 I J4 I I K4)<|Ab (AF I M4)<|RG.nl [vW 0,vW 0,vW 0,vW 0,vW 0,vW 0,vW 0,vW 0,vW 0,vW 0,vW 0,vW 0,vW 0,vW 0,vW 0,vW 0,vW 0,vW 0,vW 0,vW 0,vW 0,vW 0,vW 0,vW 0,vW 0,vW 0,vW 0,vW 0,vW 0,vW 0,vW 0,vW 0] z2 fun u6 E5 k4 Y1=>AQ (aA b0) k4 .hd (ak I) fun v6 c1 Z1=>Aa<|Ak<|du 6 fun c0 x2=>Rx 0 200 c0 I x2 (AF I (c1.memA .t2))<|Rx 1 204 c0 I x2 (AF I (c1.memA .hd))<|Rv 4 c0 I x2 (fun _=>Bw 0 I)<|bk h fun V2 H3 h=>bk h fun d0 P2 h=>RD.mf (α:=Vc × Vc) (fun ⟨x1,y1⟩=>[(4,vP P0),(7,vP Z0),(8,vP b1),(9,vP M0),(36,v0_0),(37,vn a0.length),(38,vn H0),(47,.agg ((aa b0.fm)).toArray)]) (fun ⟨x1,y1⟩=>[.cells M0 [vU p0,vU q0,vU s0,vU t0,vU u0,vU v0,vU x0,vU y0,vU z0,vU A0,vU B0,vU C0,vU D0,vU E0,vU F0,vU G0] 34,.cells b1 [.bool d0.fh.fc,x1,.bool d0.fe.fc,y1] 109,.cells Z0 [.bool g0.fh.fc,z1,.bool g0.fe.fc,X1] 109,.cells P0 zL 34]) (fun ⟨x1,y1⟩ U2=>Rep.R U2 (bl [.cells M0 [vU p0,vU q0,vU s0,vU t0,vU u0,vU v0,vU x0,vU y0,vU z0,vU A0,vU B0,vU C0,vU D0,vU E0,vU F0,vU G0] 34,.cells b1 [.bool d0.fh.fc,x1,.bool d0.fe.fc,y1] 109,.cells Z0 [.bool g0.fh.fc,z1,.bool g0.fe.fc,X1] 109,.cells P0 zL 34] ++ L) [x1] d0.fh.fj/\Rep.R U2 (bl [.cells M0 [vU p0,vU q0,vU s0,vU t0,vU u0,vU v0,vU x0,vU y0,vU z0,vU A0,vU B0,vU C0,vU D0,vU E0,vU F0,vU G0] 34,.cells b1 [.bool d0.fh.fc,x1,.bool d0.fe.fc,y1] 109,.cells Z0 [.bool g0.fh.fc,z1,.bool g0.fe.fc,X1] 109,.cells P0 zL 34] ++ L) [y1] d0.fe.fj) c1 1 127 ?_ ?_
 rintro ⟨x1,y1⟩ U2 p4 B2 ⟨R4,U4⟩
 try dsimp only
 refine BF 7 255 c0 I I .plain (AJ (news:=(aa b0.fm)) p4 .hd I I I I I I (ak I)) fun x6 W0 g2=>AN (dk c0)<|Af<|Ab (AF I (W0.memA .t1))<|Ab (AF I (W0.memA .t2))<|bk h fun P3 g5 h=>?_
 have y3:=Ag R4 g2
 have z3:=Ag U4 g2
 have G3:=Tt F4 (Tt G2 (Tt A2 (Tt g3 (Tt j3 (Tt q2 (Tt s2 (Tt Y1 (Tt Z1 (Tt B2 g2)))))))))
 refine Bo (vI P3) (bd 69) I (e2 I I) (fun w9 hw9=>aG_c n (W0.hL0 hL hw9) d0 (W0.kd y3 hw9) (W0.kd z3 hw9) g0 (W0.kd (Ag D3 G3) hw9) (W0.kd (Ag E3 G3) hw9) g5) I<|Ab (FV.geq (i:=P3) (j:=0) I I)<|Aa<|Bb I h (fun W3 h=>?_) (fun W3 h=>?_)
 refine Bd I ?_
 have h:=s3 _ h
 try dsimp only at h
 obtain ⟨q4,C4⟩:=AA W0 (.a0 .d2)
 exact W2 (b0.fm.fN.1,b0.fm.fN.2.1,b0.fm.fN.2.2.1,b0.fm.fN.2.2.2.1,b0.fm.fN.2.2.2.2.1,b0.fm.fN.2.2.2.2.2.1,b0.fm.fN.2.2.2.2.2.2.1,b0.fm.fN.2.2.2.2.2.2.2,b0.fm.fD.1,b0.fm.fD.2.1,b0.fm.fD.2.2.1,b0.fm.fD.2.2.2.1,b0.fm.fD.2.2.2.2.1,b0.fm.fD.2.2.2.2.2.1,b0.fm.fD.2.2.2.2.2.2.1,b0.fm.fD.2.2.2.2.2.2.2) q4 (Tt q2 (Tt s2 (Tt Y1 (Tt Z1 (Tt B2 (Tt g2 C4)))))) h
 refine Ar<|Ay<|Ap<|Ab (Bj (i:=H0) (j:=1) I I (by omega))<|Ae I<|Aa<|b4 (H0 + 1,b0.fm.fN.1,b0.fm.fN.2.1,b0.fm.fN.2.2.1,b0.fm.fN.2.2.2.1,b0.fm.fN.2.2.2.2.1,b0.fm.fN.2.2.2.2.2.1,b0.fm.fN.2.2.2.2.2.2.1,b0.fm.fN.2.2.2.2.2.2.2,b0.fm.fD.1,b0.fm.fD.2.1,b0.fm.fD.2.2.1,b0.fm.fD.2.2.2.1,b0.fm.fD.2.2.2.2.1,b0.fm.fD.2.2.2.2.2.1,b0.fm.fD.2.2.2.2.2.2.1,b0.fm.fD.2.2.2.2.2.2.2,d0.fh.fc,d0.fh.fj,d0.fe.fc,d0.fe.fj,x1,y1) W0 (Tt s2 (Tt Y1 (Tt Z1 (Tt B2 g2)))) ⟨y3,z3⟩ h
 intro k2
 refine BO [2,5] (rk c0) ⟨?_,?_,trivial⟩
 refine RO.call (m' :=23) (fst:=[]) (cap:=[]) (sk c0) I .plain (bd 66) I (e1 I) (fun w9 hw9=>aK_c n (c1.hL hL hw9) b0 H3) I fun y5 x5 H2 ⟨u5,v5,hu_,u2,v2⟩=>?_
 subst hu_
 obtain ⟨g1,q1⟩:=c1.agr H2
 refine BO [3,5] (rk c0) ⟨?_,?_,trivial⟩
 have s1:=Tt Y1 (Tt Z1 q1)
 have I2:=Ag K2 s1
 have J2:=Ag M2 s1
 refine RO.call (m' :=31) (fst:=[]) (cap:=[]) (sk c0) I .plain (bd 81) I (e2 I I) (fun w9 hw9=>ae_c n (g1.hL hL hw9) (⟨(⟨J0,X0⟩:Td),(⟨K0,Y0⟩:Td)⟩:Tc) (Ah I2 hw9) (Ah J2 hw9) V2 (Ah u2 hw9) (Ah v2 hw9) P2) I fun M3 K3 j2 ⟨U0,V0,hu_,Q0,R0⟩=>?_
 subst hu_
 obtain ⟨A1,b2⟩:=g1.agr j2
 refine BO [5,6] (rk c0) ⟨?_,?_,trivial⟩
 refine RO.val (m' :=63) (sk c0) I .plain I (AZ (cs:=(aa b0.fm)) I I (aj (A1.memA .hd) 0 16))<|BF 6 127 c0 I I .plain (AJ (news:=[.bool d0.fh.fc,U0,.bool d0.fe.fc,V0]) A1 .t2 I I I I I I (o4 I (AE Q0) I (AE R0))) fun Q2 j1 j0=>?_
 obtain ⟨s4,C2⟩:=AA j1 .d1
 exact k2 (U0,V0) s4 (Tt q1 (Tt b2 (Tt j0 C2))) ⟨(Ag Q0 (Tt j0 C2)),(Ag R0 (Tt j0 C2))⟩
 refine RO.now (m' :=95) (sk c0) I I .plain (AJ (news:=[.bool d0.fh.fc,U0,.bool d0.fe.fc,V0]) A1 .t2 I I I I I I (o4 I (AE Q0) I (AE R0))) fun Q2 j1 j0=>Rx 5 128 c0 I x2 (AZ (cs:=(aa b0.fm)) I I (aj (j1.memA .hd) 0 16)) ?_
 obtain ⟨t4,D2⟩:=AA j1 .d1
 exact k2 (U0,V0) t4 (Tt q1 (Tt b2 (Tt j0 D2))) ⟨(Ag Q0 (Tt j0 D2)),(Ag R0 (Tt j0 D2))⟩
 refine RO.val (m' :=55) (sk c0) I .plain I (AZ (cs:=(aa b0.fm)) I I (aj (g1.memA .hd) 0 16)) ?_
 have s1:=Tt Y1 (Tt Z1 q1)
 have I2:=Ag K2 s1
 have J2:=Ag M2 s1
 refine AU 3 63 c0 I .plain (bd 81) I (e2 I I) (fun w9 hw9=>ae_c n (g1.hL hL hw9) (⟨(⟨J0,X0⟩:Td),(⟨K0,Y0⟩:Td)⟩:Tc) (Ah I2 hw9) (Ah J2 hw9) V2 (Ah u2 hw9) (Ah v2 hw9) P2) I fun M3 K3 j2 ⟨U0,V0,hu_,Q0,R0⟩=>?_
 subst hu_
 obtain ⟨A1,b2⟩:=g1.agr j2
 refine BF 6 127 c0 I I .plain (AJ (news:=[.bool d0.fh.fc,U0,.bool d0.fe.fc,V0]) A1 .t2 I I I I I I (o4 I (AE Q0) I (AE R0))) fun Q2 j1 j0=>?_
 obtain ⟨u4,E2⟩:=AA j1 .d1
 exact k2 (U0,V0) u4 (Tt q1 (Tt b2 (Tt j0 E2))) ⟨(Ag Q0 (Tt j0 E2)),(Ag R0 (Tt j0 E2))⟩
 refine RO.val (m' :=51) (sk c0) I .plain I (AZ (cs:=(aa b0.fm)) I I (aj (c1.memA .hd) 0 16))<|AU 2 55 c0 I .plain (bd 66) I (e1 I) (fun w9 hw9=>aK_c n (c1.hL hL hw9) b0 H3) I fun y5 x5 H2 ⟨u5,v5,hu_,u2,v2⟩=>?_
 subst hu_
 obtain ⟨g1,q1⟩:=c1.agr H2
 have s1:=Tt Y1 (Tt Z1 q1)
 refine AU 3 63 c0 I .plain (bd 81) I (e2 I I) (fun w9 hw9=>ae_c n (g1.hL hL hw9) (⟨(⟨J0,X0⟩:Td),(⟨K0,Y0⟩:Td)⟩:Tc) (Ah (Ag K2 s1) hw9) (Ah (Ag M2 s1) hw9) V2 (Ah u2 hw9) (Ah v2 hw9) P2) I fun M3 K3 j2 ⟨U0,V0,hu_,Q0,R0⟩=>?_
 subst hu_
 obtain ⟨A1,b2⟩:=g1.agr j2
 refine BF 6 127 c0 I I .plain (AJ (news:=[.bool d0.fh.fc,U0,.bool d0.fe.fc,V0]) A1 .t2 I I I I I I (o4 I (AE Q0) I (AE R0))) fun Q2 j1 j0=>?_
 obtain ⟨v4,F2⟩:=AA j1 .d1
 exact k2 (U0,V0) v4 (Tt q1 (Tt b2 (Tt j0 F2))) ⟨(Ag Q0 (Tt j0 F2)),(Ag R0 (Tt j0 F2))⟩
 refine Bd I ?_
 have h:=s3 _ h
 try dsimp only at h
 obtain ⟨x4,D4⟩:=AA z2 (.a0 .d2)
 exact W2 (p0,q0,s0,t0,u0,v0,x0,y0,z0,A0,B0,C0,D0,E0,F0,G0) x4 (Tt q2 (Tt s2 D4)) h
 refine Af<|Ab (AI (vs:=[]) (u:=.agg zM) ao (fun w9=>by kernel_rfl))<|Ae I<|AQ zL k1 .t2 (ak I) fun y6 X2 P5=>Ai I<|Aa<|Au I<|Aq hb0 func21 I (.cons (.many (cs:=zL) I I (X2.memA .t2)) (.cons (.tmp I) .nil)) I ?_
 cases h
 exact X2.gv
def ab_p (_n:Nat) (a0:List Tb) (a1:Int) (a2:Int):Oa Bool:=
  (if a0.length = 0 then some (decide (a1 = a2)) else some false)
theorem ab_c (n:Nat) {L w} (_hL:hl L w) {a0:List Tb} {v0_0:Vc} (h0_0:Rep.R w L [v0_0] a0) {a1:Int} {a2:Int} {p2:Nat} (m2:∀ j9 v9,([vI a2]:List Vc)[j9]? = some v9 -> w.cell? ((⟨p2,0,none⟩:Addr).add j9) = some v9)  {r:Bool} (h:ab_p n a0 a1 a2 = some r) :
 Cl 82 #[v0_0,vI a1,.pointer (some ⟨p2,0,none⟩)] w (ar w fun _ u=>u = .bool r):=by
 unfold ab_p at h
 have hS0:=AS w
 refine AT func82 I I I fun _ cs0 hb0=>Af<|Ai I<|Aa<|Af<|Ae I ?_
 have hl1:=Bg h0_0
 refine Ab (Bh (xs:=a0) underlying24 I h0_0)<|Ab (FV.eqlN (i:=a0.length) (j:=0) I I)<|Ae I<|RG.ifd (s:=9) I h (fun c2 h=>?_) (fun c2 h=>?_)
 refine Ax (Aj I)<|Ax (Bx I ((fun j9 v9 h9=>hS0.ag.cell0 (m2 j9 v9 h9)) 0 _ I))<|Ax (FV.eql (i:=a1) (j:=a2) I I)<|RG.pt I I<|Ai I<|Aa<|Au I<|By hb0 func82 I I ?_
 cases h
 exact hS0.gv
 refine Av<|Av<|Av<|Bp I I<|Ai I<|Aa<|Au I<|By hb0 func82 I I ?_
 cases h
 exact hS0.gv
theorem ai_c (_n:Nat) {L w} (_hL:hl L w) (a0:Int)  :
 Cl 22 #[vI a0] w (ar w fun w' u=>∃ b0:Nat,u = .func (.func 82) #[] #[vP b0]/\St w w' [.cells b0 [vI a0] 27]):=by
 refine AT func22 I I I fun _ cs0 hb0=>Af<|RG.bx (AS w) I I fun g0 b0 c0 d0=>Ai I<|Aa<|Af<|Ab (FV.makeFunc (vs:=[]) (us:=[vP b0]) ao (e1 I))<|Ai I<|Aa<|Au I<|Aq (u:=.func (.func 82) #[] #[vP b0]) hb0 func22 I (.cons (.tmp I) .nil) I<|⟨c0.ag,fun w9 hw9=>⟨b0,I,c0.agree hw9⟩⟩
def aQ_p (n:Nat) (a0:Ua):Oa Int:=
  (bn_p n a0).bind fun y1=>some y1
theorem aQ_c (n:Nat) {L w} (hL:hl L w) (a0:Ua)  {r:Int} (h:aQ_p n a0 = some r) :
 Cl 174 #[vU a0] w (ar w fun _ u=>u = vI r):=by
 unfold aQ_p at h
 have hS0:=AS w
 refine AT func174 I I I fun _ cs0 hb0=>Af<|Ai I<|Aa<|Ak<|BG I<|Ar<|Af<|Ae I<|bk h fun y1 hy1 h=>Bo (vI y1) (bd 203) I (e1 I) (fun w9 hw9=>bn_c n (hS0.hL0 hL hw9) a0 hy1) I<|Ai I<|Aa<|Au I<|By hb0 func174 I I ?_
 cases h
 exact hS0.gv
def aj_p (n:Nat) (a0:Tb) (a1:Tb):Oa Int:=
  (am_p n a0.fm).bind fun b0=>(am_p n a1.fm).bind fun c0=>(aG_p n b0 c0).bind fun d0=>some d0
theorem aj_c (n:Nat) {L w} (hL:hl L w) (a0:Tb) (a1:Tb)  {r:Int} (h:aj_p n a0 a1 = some r) :
 Cl 144 #[.agg ((aA a0)).toArray,.agg ((aA a1)).toArray] w (ar w fun _ u=>u = vI r):=by
 unfold aj_p at h
 refine AT func144 I I I fun _ cs0 hb0=>Af<|RG.bx (AS w) I I fun U0 E0 p0 G0=>RG.bx p0 I I fun V0 F0 g0 H0=>Ai I<|Aa<|Ak<|du 8 fun b0 d0=>Rv 0 b0 I d0 (fun _=>Bw 0 I)<|Rx 1 228 b0 I d0 (AZ (cs:=(aa a0.fm)) I I (aj (g0.memA .t1) 0 16))<|Rv 3 b0 I d0 (fun _=>Bw 0 I)<|Rx 4 224 b0 I d0 (AZ (cs:=(aa a1.fm)) I I (aj (g0.memA .hd) 0 16))<|bk h fun B0 y0 h=>AU 2 31 b0 I .plain (bd 68) I (e1 I) (fun w9 hw9=>am_c n (g0.hL hL hw9) a0.fm y0) I fun W0 Q0 q0 ⟨J0,K0,hu_,t0,u0⟩=>?_
 subst hu_
 obtain ⟨j0,I0⟩:=g0.agr q0
 refine bk h fun C0 z0 h=>AU 5 63 b0 I .plain (bd 68) I (e1 I) (fun w9 hw9=>am_c n (j0.hL hL hw9) a1.fm z0) I fun X0 R0 s0 ⟨M0,P0,hu_,v0,x0⟩=>?_
 subst hu_
 obtain ⟨c0,k0⟩:=j0.agr s0
 refine bk h fun D0 A0 h=>RD.cq 6 127 128 (vI D0) b0 I d0 (bd 69) I (e2 I I) (fun w9 hw9=>aG_c n (c0.hL0 hL hw9) B0 (c0.kd (Ag t0 k0) hw9) (c0.kd (Ag u0 k0) hw9) C0 (c0.kd v0 hw9) (c0.kd x0 hw9) A0) I<|Rv 7 b0 I d0 (fun _=>Bk I)<|AN (dk b0)<|Au I<|By hb0 func144 I I ?_
 cases h
 exact c0.gv
theorem op_Td {w:World} {L:List Nat} {cs:List Vc} {x:Td} (h:Rep.R w L cs x):∃ v1:Vc,cs = [.bool x.fc,v1]/\Rep.R w L [v1] x.fj:=by
  obtain ⟨c0,r0,rfl,h0,h⟩:=h
  have e0:c0 = [.bool x.fc]:=h0; subst e0
  obtain ⟨v1,rfl,kv1⟩:=fv (xs:=x.fj) h
  exact ⟨v1,I,kv1⟩
theorem mk_Td {w:World} {L:List Nat} (a0:Bool) (a1:List Ua) {u1:Vc} (h1:Rep.R w L [u1] a1):Rep.R w L [.bool a0,u1] (⟨a0,a1⟩:Td):=⟨[.bool a0],[u1],rfl,rfl,h1⟩
theorem cp {w:World} {L:List Nat} {cs:List Vc} {x:Tc} (h:Rep.R w L cs x):∃ v1 v3:Vc,cs = [.bool x.fh.fc,v1,.bool x.fe.fc,v3]/\Rep.R w L [v1] x.fh.fj/\Rep.R w L [v3] x.fe.fj:=by
  obtain ⟨c0,r0,rfl,h0,h⟩:=h
  obtain ⟨v1,rfl,kv1⟩:=op_Td (x:=x.fh) h0
  obtain ⟨v3,rfl,kv3⟩:=op_Td (x:=x.fe) h
  exact ⟨v1,v3,I,kv1,kv3⟩
theorem bT {w:World} {L:List Nat} (a0:Td) {u1:Vc} (h1:Rep.R w L [u1] a0.fj) (a1:Td) {u3:Vc} (h3:Rep.R w L [u3] a1.fj):Rep.R w L [.bool a0.fc,u1,.bool a1.fc,u3] (⟨a0,a1⟩:Tc):=⟨[.bool a0.fc,u1],[.bool a1.fc,u3],rfl,mk_Td a0.fc a0.fj h1,mk_Td a1.fc a1.fj h3⟩
instance:Enc Ta:=⟨fun a=>.agg #[vU a.fN.1,vU a.fN.2.1,vU a.fN.2.2.1,vU a.fN.2.2.2.1,vU a.fN.2.2.2.2.1,vU a.fN.2.2.2.2.2.1,vU a.fN.2.2.2.2.2.2.1,vU a.fN.2.2.2.2.2.2.2,vU a.fD.1,vU a.fD.2.1,vU a.fD.2.2.1,vU a.fD.2.2.2.1,vU a.fD.2.2.2.2.1,vU a.fD.2.2.2.2.2.1,vU a.fD.2.2.2.2.2.2.1,vU a.fD.2.2.2.2.2.2.2]⟩
theorem au:KeyAt Tryz.prog 34 Ta:=⟨fun q a w=>by kernel_rfl,⟨_,underlying34,fun a b=>rfl⟩,fun a b w9=>
  eqOp (ks:=[.int .u64,.int .u64,.int .u64,.int .u64,.int .u64,.int .u64,.int .u64,.int .u64,.int .u64,.int .u64,.int .u64,.int .u64,.int .u64,.int .u64,.int .u64,.int .u64]) (xs:=[vU a.fN.1,vU a.fN.2.1,vU a.fN.2.2.1,vU a.fN.2.2.2.1,vU a.fN.2.2.2.2.1,vU a.fN.2.2.2.2.2.1,vU a.fN.2.2.2.2.2.2.1,vU a.fN.2.2.2.2.2.2.2,vU a.fD.1,vU a.fD.2.1,vU a.fD.2.2.1,vU a.fD.2.2.2.1,vU a.fD.2.2.2.2.1,vU a.fD.2.2.2.2.2.1,vU a.fD.2.2.2.2.2.2.1,vU a.fD.2.2.2.2.2.2.2]) (ys:=[vU b.fN.1,vU b.fN.2.1,vU b.fN.2.2.1,vU b.fN.2.2.2.1,vU b.fN.2.2.2.2.1,vU b.fN.2.2.2.2.2.1,vU b.fN.2.2.2.2.2.2.1,vU b.fN.2.2.2.2.2.2.2,vU b.fD.1,vU b.fD.2.1,vU b.fD.2.2.1,vU b.fD.2.2.2.1,vU b.fD.2.2.2.2.1,vU b.fD.2.2.2.2.2.1,vU b.fD.2.2.2.2.2.2.1,vU b.fD.2.2.2.2.2.2.2]) (by kernel_rfl) (by kernel_rfl) I I ⟨fun h=>by
    simp only [aW,veq,Bool.and_eq_true,beq_iff_eq,and_true] at h
    obtain ⟨h0,h1,h2,h3,h4,h5,h6,h7,h8,h9,b0,c0,d0,g0,j0,k0⟩:=h
    exact jU (ac h0) (ac h1) (ac h2) (ac h3) (ac h4) (ac h5) (ac h6) (ac h7) (ac h8) (ac h9) (ac b0) (ac c0) (ac d0) (ac g0) (ac j0) (ac k0),fun h=>by subst h; simp [aW,veq]⟩ w9,fun a=>by simp [Instr.sameBits,Enc.enc]⟩
def cB (n:Nat) (c0:Ta × Tc) (g0:(List Tb) × Bool -> Oa ((List Tb) × Int)):(List Tb) × Bool -> Oa ((List Tb) × Int)
  | (p0,j0)=>(ak_p n c0.2).bind fun d0=>jn (fun k0=>(app p0 ([(⟨c0.1,d0.1⟩:Tb)]:List Tb)).bind fun q0=>g0 (q0,k0)) (fun b0=>(if d0.2 = 0 then b0 j0 else b0 true))
def aL_l1 (n:Nat) (a0:List Tb) (q0:Tc) (g0:Nat × Bool × (List (Ta × Tc)) -> Oa ((List (Ta × Tc)) × Bool)):Nat × Bool × (List (Ta × Tc)) -> Oa ((List (Ta × Tc)) × Bool)
  | (c0,j0,b0)=>(if c0 < a0.length then (a0[c0]?).bind fun k0=>(am_p n k0.fm).bind fun s0=>(ae_p n q0 s0).bind fun t0=>(aK_p n k0).bind fun p0=>(ak_p n t0).bind fun d0=>(if d0.2 = 0 then dh (bc b0 d0.1) (g0 (c0 + 1,j0,aB b0 d0.1 p0)) (fun u0=>(ae_p n p0 u0).bind fun v0=>g0 (c0 + 1,j0,aB b0 d0.1 v0)) else g0 (c0 + 1,true,b0)) else some (b0,j0))
def aL_p (n:Nat) (a0:List Tb) (a1:Ta):Oa ((List Tb) × Int):=
  (aq_p n ([a0]:List (List Tb)) ([a1]:List Ta)).bind fun d0=>(if d0 = 0 then (am_p n a1).bind fun p0=>Option.bind (az (aL_l1 n a0 p0) n (0,false,([]:List (Ta × Tc)))) (fun (b0,g0)=>(if 400 < b0.length then some (([]:List Tb),(3:Int)) else mloop (fun (c0,j0)=>(if j0 = true then some (([]:List Tb),(6:Int)) else (aQ_p n (ai ((c0.length:Nat):Int))).bind fun q0=>(de (fun x9 y9=>aj_p n x9 y9) q0 c0).bind fun k0=>some (k0,(0:Int)))) (cB n) n b0 (([]:List Tb),g0))) else some (([]:List Tb),d0))
theorem aL_c (n:Nat) {L w} (hL:hl L w) {a0:List Tb} {v0_0:Vc} (h0_0:Rep.R w L [v0_0] a0) (a1:Ta)  {r:(List Tb) × Int} (h:aL_p n a0 a1 = some r) :
 Cl 23 #[v0_0,.agg ((aa a1)).toArray] w (ar w fun w' u=>∃ v0_0:Vc,u = .tuple #[v0_0,vI r.2]/\Rep.R w' L [v0_0] r.1):=by
 unfold aL_p at h
 refine AT func23 I I I fun _ cs0 hb0=>Af<|RG.bx (AS w) I I fun k8 H0 z2 G7=>Ai I<|Ai I<|Aa<|Ak<|Af<|Ae I ?_
 obtain ⟨Q6,u7,g6,_⟩:=BD (AO h0_0 z2)
 refine Am .plain I (AG (α:=List Tb) (xs:=([a0]:List (List Tb))) (vs:=[v0_0]) (ds' :=[v0_0]) I z2 bW I (e1 I) (by rw [g6]; try kernel_rfl) I) fun p8 I0 j1 H7=>Ab (AF I (j1.memA .t1))<|Am .plain I (AG (α:=Ta) (xs:=([a1]:List Ta)) (vs:=[.agg ((aa a1)).toArray]) (ds' :=(aa a1)) I j1 bq I (e1 I) (by kernel_rfl) I) fun q8 J0 z0 E4=>bk h fun D3 q6 h=>Bo (vI D3) (bd 63) I (e2 I I) (fun w9 hw9=>aq_c n (z0.hL0 hL hw9) (Ah (St.lend (α:=List Tb) (L:=L) z0 .t1 (AK (AC (cs:=[v0_0]) (xs:=(([a0]:List (List Tb)):List (List Tb))) j1 L (Ao (cs:=[v0_0]) (ds:=[]) (AO h0_0 j1) (AH _ _))) E4) hL) hw9) (Ah (St.lend (α:=Ta) (L:=L) z0 .hd (AC (cs:=(aa a1)) (xs:=(([a1]:List Ta):List Ta)) z0 L (Ao (cs:=(aa a1)) (ds:=[]) (aG a1.fN a1.fD) (AH _ _))) hL) hw9) q6) I<|Ai I<|Aa<|Af<|Ae I<|Ab (BM (i:=D3) (j:=0) I I)<|Aa<|MX.ifn I h (fun F3 h=>?_) (fun F3 h=>?_)
 refine Ar<|Af<|Ae I<|Ab (AF I (z0.memA .t2))<|bk h fun E0 s6 h=>jE (bd 68) I (e1 I) (fun w9 hw9=>am_c n (z0.hL hL hw9) a1 s6) I fun s8 b8 c5 ⟨z1,A1,hu_,I5,M5⟩=>?_
 subst hu_
 obtain ⟨Q3,I7⟩:=z0.agr c5
 refine Ab (FV.makeFunc (vs:=[.agg #[.bool E0.fh.fc,z1,.bool E0.fe.fc,A1]]) (us:=[]) (e1 I) ao)<|Bs (fst:=[]) (cap:=[]) (vs:=[v0_0,.func (.func 81) #[.agg #[.bool E0.fh.fc,z1,.bool E0.fe.fc,A1]] #[]]) .plain (bd 83) func83 I I I I (e2 I I) I fun z7 b2 R7=>Af<|Ai I<|Ai I<|Aa<|Af<|Am .plain I (Does.makeMap (κ:=Ta) (ν:=List Vc) Q3) fun E8 b0 C2 F4=>Ab (AI (vs:=[.map (some b0)]) (u:=.agg #[.map (some b0),.bool false]) (e1 I) (fun w9=>by kernel_rfl))<|RG.bx C2 I I fun Q8 t0 D2 P2=>Ai I<|Aa<|Ak<|Af<|Ae I ?_
 have Z2:=AO h0_0 D2
 have M7:=Bg Z2
 refine Ab (Bh (xs:=a0) underlying24 I Z2)<|Ae I<|Aa<|Aw ?_
 obtain ⟨X7,F5,x5⟩:=aw h
 refine MX.lf (α:=Nat × Bool × (List (Ta × Tc)) × (List (Ta × List Vc))) (fun ⟨p0,u0,y0,c0⟩=>[(1,.func (.func 81) #[.agg #[.bool E0.fh.fc,z1,.bool E0.fe.fc,A1]] #[]),(6,vP t0),(12,v0_0),(13,vn a0.length),(14,vn p0)]) (fun ⟨p0,u0,y0,c0⟩=>[.cells t0 [.map (some b0),.bool u0] 126,.obj b0 (ay c0),rr w 34 Ta (vS J0 1) (([a1]:List Ta).length) (aa a1),rr w 24 (List Tb) (vS I0 1) (([a0]:List (List Tb)).length) [v0_0],.cells H0 (aa a1) 34]) (fun ⟨p0,u0,y0,c0⟩ B3=>MR B3 (bl [.cells t0 [.map (some b0),.bool u0] 126,.obj b0 (ay c0),rr w 34 Ta (vS J0 1) (([a1]:List Ta).length) (aa a1),rr w 24 (List Tb) (vS I0 1) (([a0]:List (List Tb)).length) [v0_0],.cells H0 (aa a1) 34] ++ L) c0 y0) (fun ⟨p0,u0,y0,c0⟩=>(p0,u0,y0)) (0,false,([]:List (Ta × Tc)),([]:List (Ta × List Vc))) F5 D2 (BE (MR.at_ (Z:=([]:List (Ta × List Vc))) (M:=([]:List (Ta × Tc))) C2 L trivial) P2) ?_
 rintro V6 ⟨p0,u0,y0,c0⟩ B3 F1 B0 s1 y1 h
 unfold aL_l1 at h
 try dsimp only at h
 refine Af<|Ab (AY (i:=p0) (j:=a0.length) I I)<|Aa<|Ak<|Bb I h (fun G3 h=>?_) (fun G3 h=>?_)
 refine Ar<|Ak<|Aw<|Af<|bk h fun E1 j6 h=>?_
 obtain ⟨R6,v7,u5,z5,y7,H5,C5⟩:=Bv (AO h0_0 B0) j6
 obtain rfl:=aY H5
 refine Ab (BJ 32 p0 I u5 I I z5)<|Ab (AF I C5)<|RG.nl [vW 0,vW 0,vW 0,vW 0,vW 0,vW 0,vW 0,vW 0,vW 0,vW 0,vW 0,vW 0,vW 0,vW 0,vW 0,vW 0,vW 0,vW 0,vW 0,vW 0,vW 0,vW 0,vW 0,vW 0,vW 0,vW 0,vW 0,vW 0,vW 0,vW 0,vW 0,vW 0] B0 fun u8 Y6 R3 P1=>AQ (aA E1) R3 .hd (ak I) fun v8 k1 Q1=>Aa<|du 8 fun q0 b1=>Rv 0 q0 I b1 (fun _=>Aj I)<|Rv 1 q0 I b1 (fun _=>Aj I)<|Rv 2 q0 I b1 (fun _=>Bw 0 I)<|Rx 3 432 q0 I b1 (AZ (cs:=(aa E1.fm)) I I (aj (k1.memA .hd) 0 16))<|Rx 6 384 q0 I b1 (AF I (k1.memA .hd))<|bk h fun P6 t6 h=>AU 4 95 q0 I .plain (bd 68) I (e1 I) (fun w9 hw9=>am_c n (k1.hL hL hw9) E1.fm t6) I fun x8 c8 d5 ⟨Y7,Z7,hu_,J5,K5⟩=>?_
 subst hu_
 obtain ⟨A2,R1⟩:=k1.agr d5
 refine bk h fun s2 u6 h=>?_
 have g3:=Tt F4 (Tt P2 (Tt s1 (Tt P1 (Tt Q1 R1))))
 refine BK (i:=5) (rk q0) (RO.call (m' :=127) (fst:=[.agg #[.bool E0.fh.fc,z1,.bool E0.fe.fc,A1]]) (cap:=[]) (sk q0) I .plain (bd 81) I (e1 I) (fun w9 hw9=>ae_c n (A2.hL hL hw9) E0 (Ah (Ag I5 g3) hw9) (Ah (Ag M5 g3) hw9) P6 (Ah J5 hw9) (Ah K5 hw9) u6) I (fun y8 d8 g5 ⟨C6,D6,hu_,P5,Q5⟩=>?_))
 subst hu_
 obtain ⟨B2,H2⟩:=A2.agr g5
 refine bk h fun j0 v6 h=>AU 7 255 q0 I .plain (bd 66) I (e1 I) (fun w9 hw9=>aK_c n (B2.hL hL hw9) E1 v6) I fun z8 g8 j5 ⟨c1,g1,hu_,u3,v3⟩=>?_
 subst hu_
 obtain ⟨U3,U1⟩:=B2.agr j5
 refine BK (i:=8) (rk q0) (RO.enterPT (m' :=511) (fst:=[]) (cap:=[]) (vs:=[vP t0,.agg #[.bool s2.fh.fc,C6,.bool s2.fe.fc,D6],.agg #[.bool j0.fh.fc,c1,.bool j0.fe.fc,g1]]) (sk q0) I I .plain (bd 86) func86 I I I I (e3 I I I) I (fun _ A7 c2 Q7=>?_))
 refine Af<|RG.bx U3 I I fun A8 Z6 V3 W0=>RG.bx V3 I I fun B8 b7 Q0 X0=>Aa<|Af<|Ab (AF I (Q0.memA .t1))<|bk h fun d0 x6 h=>?_
 have j3:=Tt U1 (Tt W0 X0)
 refine Bo (.tuple #[.agg ((aa d0.1)).toArray,vI d0.2]) (bd 77) I (e1 I) (fun w9 hw9=>ak_c n (Q0.hL0 hL hw9) s2 (Q0.kd (Ag P5 j3) hw9) (Q0.kd (Ag Q5 j3) hw9) x6) I<|Ae I<|Ab (Ac I I)<|Ab (Ac I I)<|RG.nl zL Q0 fun C8 c7 W3 u1=>AQ (aa d0.1) W3 .hd (ak I) fun D8 R0 v1=>Ai I<|Aa<|Ak<|Af<|Ae I<|Ab (BM (i:=d0.2) (j:=0) I I)<|Aa<|MX.ifn I h (fun H3 h=>?_) (fun H3 h=>?_)
 refine Ar<|du 6 fun A0 M0=>Rv 0 A0 I M0 (fun _=>Aj I)<|Rv 1 A0 I M0 (fun _=>Bf I)<|Rv 2 A0 I M0 (fun _=>Bw 0 I)<|Rx 3 64 A0 I M0 (Bx I ((R0.memA .t4) 0 _ I))<|Rx 4 64 A0 I M0 (AF I (R0.memA .hd))<|Rx 5 64 A0 I M0 (AF I (R0.memA .t1))<|BK (i:=6) (rk A0) (RO.enterPT (m' :=127) (fst:=[]) (cap:=[]) (vs:=[.map (some b0),.agg ((aa d0.1)).toArray,.agg #[.bool j0.fh.fc,c1,.bool j0.fe.fc,g1]]) (sk A0) I I .plain (bd 88) func88 I I I I (e3 I I I) I (fun _ B7 V2 U7=>?_))
 refine Af<|RG.bx R0 I I fun F8 g7 X3 V1=>RG.bx X3 I I fun G8 j7 U0 W1=>Aa<|Ak<|Af<|Ae I<|Ab (AF I (U0.memA .t1)) ?_
 have k2:=Tt P1 (Tt Q1 (Tt R1 (Tt H2 (Tt U1 (Tt W0 (Tt X0 (Tt u1 (Tt v1 (Tt V1 W1)))))))))
 have j2:=BE y1 k2
 rcases MR.get d0.1 j2 with ⟨g2,q2⟩ | ⟨C7,u2,q2,g2,R5⟩
 have h:=cw h g2
 refine Ab (FV.lookupK (kv:=d0.1) (q:=false) au U0 .t7 underlying124 (z:=.agg #[.bool false,vN,.bool false,vN]) I I I (.inl ⟨q2,I,I⟩))<|Ae I<|Ab (Ac I I)<|Ab (Ac I I)<|RG.nl [.bool false,vN,.bool false,vN] U0 fun H8 k7 Y3 X1=>AQ [.bool false,vN,.bool false,vN] Y3 .hd (ak I) fun I8 G1 Y1=>Ai I<|Aa<|Af<|Ae I<|Aa<|BG I<|Ar<|Ap<|Ae I<|Ab (AF I (G1.memA .t2))<|Ab (AF I (G1.memA .t1)) ?_
 have k3:=Tt W0 (Tt X0 (Tt u1 (Tt v1 (Tt V1 (Tt W1 (Tt X1 Y1))))))
 refine RG.now .plain (BA (kv:=d0.1) (vv:=[.bool j0.fh.fc,c1,.bool j0.fe.fc,g1]) au G1 .t8 underlying124 I I I) fun J8 Z3 I2=>Aa<|MX.fin I<|Aq (u:=.tuple #[]) V2 func88 I .nil I<|AN (dk A0)<|MX.fin I<|Aq (u:=.tuple #[]) c2 func86 I .nil I<|AN (dk q0)<|Ay<|Ap<|Ab (Bj (i:=p0) (j:=1) I I (by omega))<|Ae I<|Aa ?_
 obtain ⟨b4,J2⟩:=AA Z3 .d7
 exact F1 (p0 + 1,u0,aB y0 d0.1 j0,(aB c0 d0.1 [.bool j0.fh.fc,c1,.bool j0.fe.fc,g1])) b4 (Tt s1 (Tt k2 (Tt X1 (Tt Y1 (Tt I2 J2))))) (BE (MR.set (k:=d0.1) (c:=[.bool j0.fh.fc,c1,.bool j0.fe.fc,g1]) (y:=j0) (bT j0.fh (Ag u3 k3) j0.fe (Ag v3 k3)) (BE j2 (Tt X1 Y1))) (Tt I2 J2)) h
 have h:=ct h g2
 obtain ⟨E6,F6,rfl,U5,V5⟩:=cp R5
 refine Ab (FV.lookupK (kv:=d0.1) (q:=true) au U0 .t7 underlying124 (z:=.agg #[.bool false,vN,.bool false,vN]) I I I (.inr ⟨_,q2,I,I⟩))<|Ae I<|Ab (Ac I I)<|Ab (Ac I I)<|RG.nl [.bool false,vN,.bool false,vN] U0 fun K8 p7 c4 Y0=>?_
 have X2:=Ag U5 Y0
 have Y2:=Ag V5 Y0
 refine AQ [.bool u2.fh.fc,E6,.bool u2.fe.fc,F6] c4 .hd (o4 I (AE X2) I (AE Y2)) fun M8 p1 Z0=>Ai I<|Aa<|Af<|Ae I<|Aa<|AW I<|Ap<|Ab (AF I (p1.memA .t1))<|Ab (AF I (p1.memA .hd))<|bk h fun x0 y6 h=>?_
 have p3:=Tt W0 (Tt X0 (Tt u1 (Tt v1 (Tt V1 (Tt W1 (Tt Y0 Z0))))))
 refine jE (bd 81) I (e2 I I) (fun w9 hw9=>ae_c n (p1.hL hL hw9) j0 (Ah (Ag u3 p3) hw9) (Ah (Ag v3 p3) hw9) u2 (Ah (Ag X2 Z0) hw9) (Ah (Ag Y2 Z0) hw9) y6) I fun P8 j8 k5 ⟨B1,C1,hu_,x3,y3⟩=>?_
 subst hu_
 obtain ⟨g4,K2⟩:=p1.agr k5
 refine AQ [.bool x0.fh.fc,B1,.bool x0.fe.fc,C1] g4 .t1 (o4 I (AE x3) I (AE y3)) fun R8 H1 x1=>Aa<|Ap<|Ae I<|Ab (AF I (H1.memA .t2))<|Ab (AF I (H1.memA .t1))<|RG.now .plain (BA (kv:=d0.1) (vv:=[.bool x0.fh.fc,B1,.bool x0.fe.fc,C1]) au H1 .t8 underlying124 I I I) fun U8 j4 M2=>Aa<|MX.fin I<|Aq (u:=.tuple #[]) V2 func88 I .nil I<|AN (dk A0)<|MX.fin I<|Aq (u:=.tuple #[]) c2 func86 I .nil I<|AN (dk q0)<|Ay<|Ap<|Ab (Bj (i:=p0) (j:=1) I I (by omega))<|Ae I<|Aa ?_
 obtain ⟨k4,Q2⟩:=AA j4 .d7
 exact F1 (p0 + 1,u0,aB y0 d0.1 x0,(aB c0 d0.1 [.bool x0.fh.fc,B1,.bool x0.fe.fc,C1])) k4 (Tt s1 (Tt k2 (Tt Y0 (Tt Z0 (Tt K2 (Tt x1 (Tt M2 Q2))))))) (BE (MR.set (k:=d0.1) (c:=[.bool x0.fh.fc,B1,.bool x0.fe.fc,C1]) (y:=x0) (bT x0.fh (Ag x3 x1) x0.fe (Ag y3 x1)) (BE j2 (Tt Y0 (Tt Z0 (Tt K2 x1))))) (Tt M2 Q2)) h
 refine Af<|Ae I<|Ab (Bf I)<|BB 1 I<|RG.now .plain (BL (j:=1) (old:=[.map (some b0),.bool u0]) (news:=[.bool true]) (new' :=[.map (some b0),.bool true]) R0 .t4 I I I I I I (o1 I) I) fun V8 p4 G4=>Aa<|Au I<|Aq (u:=.tuple #[]) c2 func86 I .nil I<|AN (dk q0)<|Ay<|Ap<|Ab (Bj (i:=p0) (j:=1) I I (by omega))<|Ae I<|Aa ?_
 obtain ⟨q4,H4⟩:=AA p4 .d4
 have q3:=Tt P1 (Tt Q1 (Tt R1 (Tt H2 (Tt U1 (Tt W0 (Tt X0 (Tt u1 (Tt v1 (Tt G4 H4)))))))))
 exact F1 (p0 + 1,true,y0,c0) q4 (Tt s1 q3) (BE y1 q3) h
 refine Bd I ?_
 have h:=x5 _ h
 try dsimp only at h
 refine Af<|Ae I<|Bs (fst:=[]) (cap:=[]) (vs:=[vP t0]) .plain (bd 87) func87 I I I I (e1 I) I fun D7 d2 V7=>Af<|Ai I<|Ai I<|Aa<|Ak<|Af<|Ae I<|Ab (Bf I)<|BB 0 I<|BH I ((B0.memA .hd) 0 _ I)<|Ab (FV.as (FV.len_map (D:=c0) B0 .t1 underlying124 I) (congrArg (fun n9:Nat=>Value.int .i64 (n9:Int)) (MR.len y1)))<|Ab (FV.gtrN (i:=y0.length) (j:=400) I I)<|Aa<|Bb I h (fun I3 h=>?_) (fun I3 h=>?_)
 refine Af<|Ai I<|Ai I<|Aa<|Au I<|Aq (u:=.tuple #[vN,vI 3]) d2 func87 I (.cons (.tmp I) (.cons (.tmp I) .nil)) I<|Ab (Ac I I)<|Ab (Ac I I)<|Ai I<|Ai I<|Aa<|Au I<|Aq (u:=.tuple #[vN,vI 3]) b2 func83 I (.cons (.tmp I) (.cons (.tmp I) .nil)) I<|Ab (Ac I I)<|Ab (Ac I I)<|Ai I<|Ai I<|Aa<|Au I ?_
 have W5:=Bq (α:=Tb) B0 L
 refine Aq hb0 func23 I (.cons (.tmp I) (.cons (.tmp I) .nil)) I ?_
 cases h
 exact ⟨B0.ag,fun w9 hw9=>⟨vN,I,B0.kd W5 hw9⟩⟩
 refine Ar<|Af<|Ai I<|Aa<|Ak<|Af<|Ae I<|Ab (Bf I)<|BB 0 I<|BH I ((B0.memA .hd) 0 _ I)<|Am .plain I (Does.range (D:=c0) B0 .t1 underlying124 I) fun J6 K0 E2 I4=>Aa<|Aw ?_
 have F2:=E2.nilRow 37 (Rep.size Tb)
 refine MX.mloop (α:=(List Tb) × Bool × Vc × (List Vc) × (Array Nat)) (fun ⟨v0,C0,s0,F0,D0⟩=>[(0,vP t0),(4,s0),(19,vP K0)]) (fun A3 ⟨v0,C0,s0,F0,D0⟩ D1=>St w D1 [rr w 37 Tb s0 v0.length F0,.obj K0 (aC b0 c0.length D0),.cells t0 [.map (some b0),.bool C0] 126,.obj b0 (ay c0),rr w 34 Ta (vS J0 1) (([a1]:List Ta).length) (aa a1),rr w 24 (List Tb) (vS I0 1) (([a0]:List (List Tb)).length) [v0_0],.cells H0 (aa a1) 34]/\Tr J6 [rr w 37 Tb vN (([]:List Tb).length) [],.obj K0 (aC b0 c0.length #[]),.cells t0 [.map (some b0),.bool u0] 126,.obj b0 (ay c0),rr w 34 Ta (vS J0 1) (([a1]:List Ta).length) (aa a1),rr w 24 (List Tb) (vS I0 1) (([a0]:List (List Tb)).length) [v0_0],.cells H0 (aa a1) 34] D1 [rr w 37 Tb s0 v0.length F0,.obj K0 (aC b0 c0.length D0),.cells t0 [.map (some b0),.bool C0] 126,.obj b0 (ay c0),rr w 34 Ta (vS J0 1) (([a1]:List Ta).length) (aa a1),rr w 24 (List Tb) (vS I0 1) (([a0]:List (List Tb)).length) [v0_0],.cells H0 (aa a1) 34]/\Cells D1 (bl [rr w 37 Tb s0 v0.length F0,.obj K0 (aC b0 c0.length D0),.cells t0 [.map (some b0),.bool C0] 126,.obj b0 (ay c0),rr w 34 Ta (vS J0 1) (([a1]:List Ta).length) (aa a1),rr w 24 (List Tb) (vS I0 1) (([a0]:List (List Tb)).length) [v0_0],.cells H0 (aa a1) 34] ++ L) F0 v0/\left y0 D0 = A3) (fun ⟨v0,C0,s0,F0,D0⟩=>(v0,C0)) (([]:List Tb),u0,vN,[],#[]) h ⟨rfl,rfl,rfl,trivial⟩ ⟨F2,Tr.refl _ _,(AC (cs:=[]) (xs:=([]:List Tb)) F2 L (AH _ _)),(cn _)⟩ ?_
 rintro A3 ⟨v0,C0,s0,F0,D0⟩ D1 W6 P3 ⟨s4,R2,W2,A5⟩ D5 s5
 refine Af<|RG.nextR (W:=c0) (BE y1 (Tt I4 (Tt (St.nilRowT E2 37 (Rep.size Tb)) R2))) s4 .t3 (fun _=>.t1) I I A5 (fun W8 E5 G0 J4=>?_) (fun X8 z3 g0 E7 B6 y5 X5 G5 B5 G2 K4=>?_)
 have h:=D5 E5
 try dsimp only at h
 refine Ab (Ac I I)<|Aa<|Ak<|BG I<|Bd I<|Ak<|Af<|Ae I<|Ab (Bf I)<|BB 1 I<|BH I ((G0.memA .t2) 1 _ I)<|Aa<|MX.ifb I h (fun J3 h=>?_) (fun J3 h=>?_)
 refine Af<|Ai I<|Ai I<|Aa<|Au I<|Aq (u:=.tuple #[vN,vI 6]) d2 func87 I (.cons (.tmp I) (.cons (.tmp I) .nil)) I<|Ab (Ac I I)<|Ab (Ac I I)<|Ai I<|Ai I<|Aa<|Au I<|Aq (u:=.tuple #[vN,vI 6]) b2 func83 I (.cons (.tmp I) (.cons (.tmp I) .nil)) I<|Ab (Ac I I)<|Ab (Ac I I)<|Ai I<|Ai I<|Aa<|Au I ?_
 have Y5:=Bq (α:=Tb) G0 L
 refine Aq hb0 func23 I (.cons (.tmp I) (.cons (.tmp I) .nil)) I ?_
 cases h
 exact ⟨G0.ag,fun w9 hw9=>⟨vN,I,G0.kd Y5 hw9⟩⟩
 refine Ar<|Af<|Ae I<|Bs (fst:=[]) (cap:=[]) (vs:=[s0,.func (.func 144) #[] #[]]) .plain (bd 143) func143 I I I I (e2 I I) I fun F7 p5 W7=>Af<|Ae I ?_
 have P7:v0.length <= 4294967296:=St.rowLe (α:=Tb) G0 .hd
 obtain ⟨U6,x7,v5⟩:=St.rowV (α:=Tb) G0 .hd
 refine Ab (FV.lenV underlying24 I v5)<|Ai I<|Aa<|Ap<|Ae I<|Ae I<|Ae I<|Ab (FV.convU (i:=((v0.length:Nat):Int)) underlying3 underlying193 I)<|bk h fun E3 z6 h=>Bo (vI E3) (bd 174) I (e1 I) (fun w9 hw9=>aQ_c n (G0.hL0 hL hw9) (ai ((v0.length:Nat):Int)) z6) I<|Ae I<|bk h fun C3 k6 h=>RG.sort (enc:=aA) (ρ:=Tryz.srt173_ren) (c:=(fun x9 y9=>aj_p n x9 y9)) (li:=E3) k6 I (fun _ _ _ _ h9=>aY h9) (fun w9 L9 z9=>bg (w:=w9) (L:=L9) z9.fm z9.fP) Tryz.srt173 (fun w9=>Tryz.isAgg37 w9) (fun w9=>Tryz.sizeOf37 w9) (enters_of func144 I I) (fun x9 y9 r9 w9 h9=>aj_c n (L:=[]) (w:=w9) (fun _ h8=>nomatch h8) x9 y9 h9) .plain (bd 173) I (e5 I I I I I) I G0 (AK W2 J4) .hd fun K6 q1 J7=>Aa<|MX.fin I<|Aq (u:=.tuple #[]) p5 func143 I .nil I<|Aa<|Af<|Ae I<|Ai I<|Ai I<|Aa<|Au I<|Aq (u:=.tuple #[s0,vI 0]) d2 func87 I (.cons (.tmp I) (.cons (.tmp I) .nil)) I<|Ab (Ac I I)<|Ab (Ac I I)<|Ai I<|Ai I<|Aa<|Au I<|Aq (u:=.tuple #[s0,vI 0]) b2 func83 I (.cons (.tmp I) (.cons (.tmp I) .nil)) I<|Ab (Ac I I)<|Ab (Ac I I)<|Ai I<|Ai I<|Aa<|Au I ?_
 have I1:=Bl q1 .hd
 have K7:=Bm q1 .hd
 have Z5:=Bn (α:=Tb) (v:=s0) (xs:=C3) I1 L (Ba (α:=Tb) q1 .hd (AC q1 L (bp (α:=Tb) (enc:=aA) (fun w9 L9 z9=>bg (w:=w9) (L:=L9) z9.fm z9.fP) K6 _ C3)) hL)
 refine Aq hb0 func23 I (.cons (.tmp I) (.cons (.tmp I) .nil)) I ?_
 cases h
 exact ⟨I1.ag,fun w9 hw9=>⟨s0,I,I1.kd Z5 hw9⟩⟩
 obtain ⟨G6,H6,rfl,b6,c6⟩:=cp X5
 have h:=s5 _ _ G5
 unfold cB at h
 try dsimp only at h
 refine Ab (Ac I I)<|Aa<|Ak<|AW I<|Ar<|Aw<|Af<|Ab (FV.entry (D:=c0) G2 .t3 .t1 y5 I)<|Ab (Ac I I)<|Ab (Ac I I)<|RG.nl zL G2 fun Y8 v2 u4 M4=>RG.nl [.bool false,vN,.bool false,vN] u4 fun Z8 q7 v4 P4=>AQ (aa g0.1) v4 .t1 (ak I) fun b9 x4 Q4=>?_
 have p2:=Tt K4 (Tt M4 (Tt P4 Q4))
 have b3:=Ag b6 p2
 have c3:=Ag c6 p2
 refine AQ [.bool g0.2.fh.fc,G6,.bool g0.2.fe.fc,H6] x4 .hd (o4 I (AE b3) I (AE c3)) fun c9 V0 Z1=>Aa<|Af<|Ab (AF I (V0.memA .hd))<|bk h fun k0 A6 h=>Bo (.tuple #[.agg ((aa k0.1)).toArray,vI k0.2]) (bd 77) I (e1 I) (fun w9 hw9=>ak_c n (V0.hL0 hL hw9) g0.2 (V0.kd (Ag b3 Z1) hw9) (V0.kd (Ag c3 Z1) hw9) A6) I<|Ae I<|Ab (Ac I I)<|Ab (Ac I I)<|RG.nl zL V0 fun d9 x2 y4 R4=>AQ (aa k0.1) y4 .hd (ak I) fun g9 J1 U4=>Ai I<|Aa<|Ak<|Af<|Ae I<|Ab (BM (i:=k0.2) (j:=0) I I)<|Aa<|MX.jo (α:=Bool) (fun P0=>[(0,vP t0),(4,s0),(19,vP K0),(5,vP v2),(7,vP x2)]) (fun P0=>[.cells x2 (aa k0.1) 34,.cells v2 (aa g0.1) 34,rr w 37 Tb s0 v0.length F0,.obj K0 (aC b0 c0.length (D0.push z3)),.cells t0 [.map (some b0),.bool P0] 126,.obj b0 (ay c0),rr w 34 Ta (vS J0 1) (([a1]:List Ta).length) (aa a1),rr w 24 (List Tb) (vS I0 1) (([a0]:List (List Tb)).length) [v0_0],.cells H0 (aa a1) 34]) (fun P0=>P0) J1 h ?_ ?_
 rintro P0 q9 K1 V4 h
 try dsimp only at h
 refine Ap<|Ae I<|Ab (AF I (K1.memA .t1))<|Ab (AF I (K1.memA .hd))<|Ab (AI (vs:=[.agg ((aa g0.1)).toArray,.agg ((aa k0.1)).toArray]) (u:=.agg ((aa g0.1 ++ aa k0.1)).toArray) (e2 I I) (fun w9=>by kernel_rfl))<|Am .plain I (AG (α:=Tb) (xs:=([(⟨g0.1,k0.1⟩:Tb)]:List Tb)) (vs:=[.agg ((aa g0.1 ++ aa k0.1)).toArray]) (ds' :=(aa g0.1 ++ aa k0.1)) I K1 dq I (e1 I) (by kernel_rfl) I) fun j9 s7 M1 W4=>bk h fun M6 p6 h=>?_
 have s3:=Tt p2 (Tt Z1 (Tt R4 (Tt U4 (Tt V4 W4))))
 refine BN .plain I (Bz (α:=Tb) (ys:=([(⟨g0.1,k0.1⟩:Tb)]:List Tb)) p6 M1 (fun _ _=>.t3) dq I I (AK W2 s3) (Src.row (α:=Tb) M1 .hd (AC (cs:=(aa g0.1 ++ aa k0.1)) (xs:=(([(⟨g0.1,k0.1⟩:Tb)]:List Tb):List Tb)) M1 L (Ao (cs:=(aa g0.1 ++ aa k0.1)) (ds:=[]) (bg g0.1 k0.1) (AH _ _))))) fun I6 k9 ⟨M3,z4,X4,q5⟩=>Ai I<|Aa<|Ay ?_
 obtain ⟨A4,U2⟩:=AA z4 .d3
 exact P3 B6 (M6,P0,I6,M3,(D0.push z3)) _ _ ⟨I,I,I,trivial⟩ ⟨A4,(Tt R2 (Tt s3 (Tt X4 U2))),(AK q5 U2),B5⟩ h
 intro X6 y2 h
 try dsimp only at h
 refine MX.ifn I h (fun K3 h=>?_) (fun K3 h=>?_)
 refine Ar ?_
 obtain ⟨B4,Y4⟩:=AA J1 (.a0 .d1)
 exact y2 C0 B4 Y4 h
 refine Ap<|Ae I<|Ab (Bf I)<|BB 1 I<|RG.now .plain (BL (j:=1) (old:=[.map (some b0),.bool C0]) (news:=[.bool true]) (new' :=[.map (some b0),.bool true]) J1 .t5 I I I I I I (o1 I) I) fun p9 C4 Z4=>Aa ?_
 obtain ⟨D4,b5⟩:=AA C4 (.a0 .d1)
 exact y2 true D4 (Tt Z4 b5) h
 refine Af<|Ae I<|Ai I<|Ai I<|Aa<|Au I ?_
 have d6:=Bq (α:=Tb) z0 L
 refine Aq hb0 func23 I (.cons (.tmp I) (.cons (.tmp I) .nil)) I ?_
 cases h
 exact ⟨z0.ag,fun w9 hw9=>⟨vN,I,z0.kd d6 hw9⟩⟩
theorem aV:ElT Tryz.prog 63 5 (Rep.size UInt8) 1 (.int .u8 0) [.int .u8 0]:=⟨underlying63,by kernel_rfl,rfl,rfl,rfl,rfl⟩
def bI_l1 (_n:Nat) (a0:Tc) (g0:Nat × (List UInt8) -> Oa (List UInt8)):Nat × (List UInt8) -> Oa (List UInt8)
  | (c0,d0)=>(if c0 < a0.fe.fj.length then (a0.fe.fj[c0]?).bind fun b0=>(app d0 ([aq (shrU b0 0)]:List UInt8)).bind fun j0=>(app j0 ([aq (shrU b0 8)]:List UInt8)).bind fun k0=>(app k0 ([aq (shrU b0 16)]:List UInt8)).bind fun p0=>(app p0 ([aq (shrU b0 24)]:List UInt8)).bind fun q0=>(app q0 ([aq (shrU b0 32)]:List UInt8)).bind fun s0=>(app s0 ([aq (shrU b0 40)]:List UInt8)).bind fun t0=>(app t0 ([aq (shrU b0 48)]:List UInt8)).bind fun u0=>(app u0 ([aq (shrU b0 56)]:List UInt8)).bind fun v0=>g0 (c0 + 1,v0) else some d0)
def bI_l2 (_n:Nat) (a0:Tc) (g0:Nat × (List UInt8) -> Oa (List UInt8)):Nat × (List UInt8) -> Oa (List UInt8)
  | (c0,d0)=>(if c0 < a0.fh.fj.length then (a0.fh.fj[c0]?).bind fun b0=>(app d0 ([aq (shrU b0 0)]:List UInt8)).bind fun j0=>(app j0 ([aq (shrU b0 8)]:List UInt8)).bind fun k0=>(app k0 ([aq (shrU b0 16)]:List UInt8)).bind fun p0=>(app p0 ([aq (shrU b0 24)]:List UInt8)).bind fun q0=>(app q0 ([aq (shrU b0 32)]:List UInt8)).bind fun s0=>(app s0 ([aq (shrU b0 40)]:List UInt8)).bind fun t0=>(app t0 ([aq (shrU b0 48)]:List UInt8)).bind fun u0=>(app u0 ([aq (shrU b0 56)]:List UInt8)).bind fun v0=>g0 (c0 + 1,v0) else some d0)
def bI_p (n:Nat) (a0:Tc):Oa ByteArray:=
  (app ([]:List UInt8) ([bs ((a0.fh.fj.length:Nat):Int)]:List UInt8)).bind fun d0=>Option.bind (az (bI_l2 n a0) n (0,d0)) (fun g0=>(app g0 ([bs ((a0.fe.fj.length:Nat):Int)]:List UInt8)).bind fun j0=>Option.bind (az (bI_l1 n a0) n (0,j0)) (fun b0=>(if a0.fh.fc = true then (app b0 ([45]:List UInt8)).bind fun c0=>some (bstr c0) else some (bstr b0))))
theorem bI_c (n:Nat) {L w} (_hL:hl L w) (a0:Tc) {v0_1:Vc} (h0_1:Rep.R w L [v0_1] a0.fh.fj) {v0_3:Vc} (h0_3:Rep.R w L [v0_3] a0.fe.fj)  {r:ByteArray} (h:bI_p n a0 = some r) :
 Cl 85 #[.agg #[.bool a0.fh.fc,v0_1,.bool a0.fe.fc,v0_3]] w (ar w fun _ u=>u = .string r):=by
 unfold bI_p at h
 refine AT func85 I I I fun _ cs0 hb0=>Af<|RG.bx (AS w) I I fun P7 u0 x0 d7=>Ai I<|Aa<|Af<|Ai I<|Aa<|Ak<|Af<|BB 0 I<|BB 1 I<|BH I ((dY (x0.memA .hd) 0) 1 _ I)<|BB 2 I<|BB 1 I<|BH I ((dY (x0.memA .hd) 2) 1 _ I) ?_
 have Z0:=AO h0_1 x0
 obtain ⟨R5,D6,X4,_⟩:=BD Z0
 obtain ⟨U5,E6,Y4,_⟩:=BD (AO h0_3 x0)
 refine Ab (AI (vs:=[v0_1,v0_3]) (u:=.agg #[v0_1,v0_3]) (e2 I I) (fun w9=>by rw [X4,Y4]; try kernel_rfl))<|Ae I<|Aa<|Aw<|MX.loop1<|Af<|Ab (AY (i:=0) (j:=2) I I)<|Aa<|Ak<|AW I<|Ar<|Ak<|Aw<|Af<|Ab (FV.idx1 (cs:=[v0_1,v0_3]) (k:=0) (m:=1) (len:=2) I I I I I (by omega) I)<|Ai I<|Aa<|Af<|Ae I<|Ae I ?_
 have p7:=Bg Z0
 refine Ab (Bh (xs:=a0.fh.fj) underlying105 I Z0)<|Ab (FV.convU8 (i:=((a0.fh.fj.length:Nat):Int)) underlying3 underlying5 I)<|Am .plain I (AG (α:=UInt8) (xs:=([bs ((a0.fh.fj.length:Nat):Int)]:List UInt8)) (vs:=[.int .u8 ((bs ((a0.fh.fj.length:Nat):Int)).toNat:Int)]) (ds' :=[.int .u8 ((bs ((a0.fh.fj.length:Nat):Int)).toNat:Int)]) I x0 aV I (e1 I) (by kernel_rfl) I) fun Q7 b6 A0 g7=>?_
 have B0:=A0.nilRow 5 (Rep.size UInt8)
 refine bk h fun K5 d5 h=>BN .plain I (Bz (α:=UInt8) (ys:=([bs ((a0.fh.fj.length:Nat):Int)]:List UInt8)) d5 B0 (fun _ _=>.hd) aV I I (AC (cs:=[]) (xs:=([]:List UInt8)) B0 L (AH _ _)) (Src.row (α:=UInt8) B0 .t1 (AK (AC (cs:=[.int .u8 ((bs ((a0.fh.fj.length:Nat):Int)).toNat:Int)]) (xs:=(([bs ((a0.fh.fj.length:Nat):Int)]:List UInt8):List UInt8)) A0 L (Ao (cs:=[.int .u8 ((bs ((a0.fh.fj.length:Nat):Int)).toNat:Int)]) (ds:=[]) I (AH _ _))) (St.nilRowT A0 5 (Rep.size UInt8))))) fun G5 R7 ⟨t2,c1,j7,d4⟩=>Ai I<|Aa<|Af<|Ae I<|Ab (Bh (xs:=a0.fh.fj) underlying105 I (AO h0_1 c1))<|Ae I<|Aa<|Aw ?_
 obtain ⟨C2,A3⟩:=AA c1 (.a0 .d1)
 obtain ⟨s7,R4,I4⟩:=aw h
 refine MX.lf (α:=Nat × (List UInt8) × Vc × (List Vc)) (fun ⟨d0,k0,s0,p0⟩=>[(1,vP u0),(3,s0),(15,.agg #[v0_1,v0_3]),(16,vI 0),(25,v0_1),(26,vn a0.fh.fj.length),(27,vn d0)]) (fun ⟨d0,k0,s0,p0⟩=>[rr w 5 UInt8 s0 k0.length p0,.cells u0 [.bool a0.fh.fc,v0_1,.bool a0.fe.fc,v0_3] 109]) (fun ⟨d0,k0,s0,p0⟩ g2=>Cells g2 (bl [rr w 5 UInt8 s0 k0.length p0,.cells u0 [.bool a0.fh.fc,v0_1,.bool a0.fe.fc,v0_3] 109] ++ L) p0 k0) (fun ⟨d0,k0,s0,p0⟩=>(d0,k0)) (0,K5,G5,t2) R4 C2 (AK d4 A3) ?_
 rintro X5 ⟨d0,k0,s0,p0⟩ g2 z2 y0 B3 c2 h
 unfold bI_l2 at h
 try dsimp only at h
 refine Af<|Ab (AY (i:=d0) (j:=a0.fh.fj.length) I I)<|Aa<|Ak<|Bb I h (fun p2 h=>?_) (fun p2 h=>?_)
 refine Ar<|Ak<|Aw<|Af<|bk h fun b0 Z4 h=>?_
 obtain ⟨V5,F6,E4,K4,s2,V4,P4⟩:=Bv (AO h0_1 y0) Z4
 have F4:s2 = [vU b0]:=V4; subst F4
 refine Ab (BJ 1 d0 I E4 I I K4)<|BH I (P4 0 _ I)<|Ai I<|Aa<|Af<|Ae I<|Aa<|Aw<|MX.loop1<|Af<|Ab (AY (i:=0) (j:=8) I I)<|Aa<|Ak<|AW I<|Ar<|Ak<|Aw<|Af<|Ae I<|Ai I<|Aa<|Ap<|Ae I<|Ae I<|Ae I<|Ab (FV.mul (i:=8) (j:=0) (r:=0) I I (by decide))<|Ab (FV.shrU (a:=b0) (j:=0) I I)<|Ab (FV.conv8 (a:=shrU b0 0) underlying30 underlying5 I)<|Am .plain I (AG (α:=UInt8) (xs:=([aq (shrU b0 0)]:List UInt8)) (vs:=[.int .u8 ((aq (shrU b0 0)).toNat:Int)]) (ds' :=[.int .u8 ((aq (shrU b0 0)).toNat:Int)]) I y0 aV I (e1 I) (by kernel_rfl) I) fun U7 c6 C0 k1=>bk h fun R8 g5 h=>BN .plain I (Bz (α:=UInt8) (ys:=([aq (shrU b0 0)]:List UInt8)) g5 C0 (fun _ _=>.t1) aV I I (AK c2 k1) (Src.row (α:=UInt8) C0 .hd (AC (cs:=[.int .u8 ((aq (shrU b0 0)).toNat:Int)]) (xs:=(([aq (shrU b0 0)]:List UInt8):List UInt8)) C0 L (Ao (cs:=[.int .u8 ((aq (shrU b0 0)).toNat:Int)]) (ds:=[]) I (AH _ _))))) fun v7 V7 ⟨I6,D2,C3,c4⟩=>Ai I<|Aa<|Ay<|Ap<|Ab (FV.add (i:=0) (j:=1) (r:=1) I I (by decide))<|Ae I<|Aa<|Br ?_
 obtain ⟨E2,p1⟩:=AA D2 .d1
 refine Af<|Ab (AY (i:=1) (j:=8) I I)<|Aa<|Ak<|AW I<|Ar<|Ak<|Aw<|Af<|Ae I<|Ai I<|Aa<|Ap<|Ae I<|Ae I<|Ae I<|Ab (FV.mul (i:=8) (j:=1) (r:=8) I I (by decide))<|Ab (FV.shrU (a:=b0) (j:=8) I I)<|Ab (FV.conv8 (a:=shrU b0 8) underlying30 underlying5 I)<|Am .plain I (AG (α:=UInt8) (xs:=([aq (shrU b0 8)]:List UInt8)) (vs:=[.int .u8 ((aq (shrU b0 8)).toNat:Int)]) (ds' :=[.int .u8 ((aq (shrU b0 8)).toNat:Int)]) I E2 aV I (e1 I) (by kernel_rfl) I) fun W7 d6 D0 q1=>bk h fun U8 j5 h=>BN .plain I (Bz (α:=UInt8) (ys:=([aq (shrU b0 8)]:List UInt8)) j5 D0 (fun _ _=>.t1) aV I I (AK c4 (Tt p1 q1)) (Src.row (α:=UInt8) D0 .hd (AC (cs:=[.int .u8 ((aq (shrU b0 8)).toNat:Int)]) (xs:=(([aq (shrU b0 8)]:List UInt8):List UInt8)) D0 L (Ao (cs:=[.int .u8 ((aq (shrU b0 8)).toNat:Int)]) (ds:=[]) I (AH _ _))))) fun x7 X7 ⟨J6,F2,D3,g4⟩=>Ai I<|Aa<|Ay<|Ap<|Ab (FV.add (i:=1) (j:=1) (r:=2) I I (by decide))<|Ae I<|Aa<|Br ?_
 obtain ⟨G2,s1⟩:=AA F2 .d1
 refine Af<|Ab (AY (i:=2) (j:=8) I I)<|Aa<|Ak<|AW I<|Ar<|Ak<|Aw<|Af<|Ae I<|Ai I<|Aa<|Ap<|Ae I<|Ae I<|Ae I<|Ab (FV.mul (i:=8) (j:=2) (r:=16) I I (by decide))<|Ab (FV.shrU (a:=b0) (j:=16) I I)<|Ab (FV.conv8 (a:=shrU b0 16) underlying30 underlying5 I)<|Am .plain I (AG (α:=UInt8) (xs:=([aq (shrU b0 16)]:List UInt8)) (vs:=[.int .u8 ((aq (shrU b0 16)).toNat:Int)]) (ds' :=[.int .u8 ((aq (shrU b0 16)).toNat:Int)]) I G2 aV I (e1 I) (by kernel_rfl) I) fun Y7 g6 E0 u1=>bk h fun V8 k5 h=>BN .plain I (Bz (α:=UInt8) (ys:=([aq (shrU b0 16)]:List UInt8)) k5 E0 (fun _ _=>.t1) aV I I (AK g4 (Tt s1 u1)) (Src.row (α:=UInt8) E0 .hd (AC (cs:=[.int .u8 ((aq (shrU b0 16)).toNat:Int)]) (xs:=(([aq (shrU b0 16)]:List UInt8):List UInt8)) E0 L (Ao (cs:=[.int .u8 ((aq (shrU b0 16)).toNat:Int)]) (ds:=[]) I (AH _ _))))) fun y7 Z7 ⟨K6,H2,E3,j4⟩=>Ai I<|Aa<|Ay<|Ap<|Ab (FV.add (i:=2) (j:=1) (r:=3) I I (by decide))<|Ae I<|Aa<|Br ?_
 obtain ⟨I2,v1⟩:=AA H2 .d1
 refine Af<|Ab (AY (i:=3) (j:=8) I I)<|Aa<|Ak<|AW I<|Ar<|Ak<|Aw<|Af<|Ae I<|Ai I<|Aa<|Ap<|Ae I<|Ae I<|Ae I<|Ab (FV.mul (i:=8) (j:=3) (r:=24) I I (by decide))<|Ab (FV.shrU (a:=b0) (j:=24) I I)<|Ab (FV.conv8 (a:=shrU b0 24) underlying30 underlying5 I)<|Am .plain I (AG (α:=UInt8) (xs:=([aq (shrU b0 24)]:List UInt8)) (vs:=[.int .u8 ((aq (shrU b0 24)).toNat:Int)]) (ds' :=[.int .u8 ((aq (shrU b0 24)).toNat:Int)]) I I2 aV I (e1 I) (by kernel_rfl) I) fun b8 j6 F0 x1=>bk h fun W8 p5 h=>BN .plain I (Bz (α:=UInt8) (ys:=([aq (shrU b0 24)]:List UInt8)) p5 F0 (fun _ _=>.t1) aV I I (AK j4 (Tt v1 x1)) (Src.row (α:=UInt8) F0 .hd (AC (cs:=[.int .u8 ((aq (shrU b0 24)).toNat:Int)]) (xs:=(([aq (shrU b0 24)]:List UInt8):List UInt8)) F0 L (Ao (cs:=[.int .u8 ((aq (shrU b0 24)).toNat:Int)]) (ds:=[]) I (AH _ _))))) fun z7 c8 ⟨M6,J2,F3,k4⟩=>Ai I<|Aa<|Ay<|Ap<|Ab (FV.add (i:=3) (j:=1) (r:=4) I I (by decide))<|Ae I<|Aa<|Br ?_
 obtain ⟨K2,y1⟩:=AA J2 .d1
 refine Af<|Ab (AY (i:=4) (j:=8) I I)<|Aa<|Ak<|AW I<|Ar<|Ak<|Aw<|Af<|Ae I<|Ai I<|Aa<|Ap<|Ae I<|Ae I<|Ae I<|Ab (FV.mul (i:=8) (j:=4) (r:=32) I I (by decide))<|Ab (FV.shrU (a:=b0) (j:=32) I I)<|Ab (FV.conv8 (a:=shrU b0 32) underlying30 underlying5 I)<|Am .plain I (AG (α:=UInt8) (xs:=([aq (shrU b0 32)]:List UInt8)) (vs:=[.int .u8 ((aq (shrU b0 32)).toNat:Int)]) (ds' :=[.int .u8 ((aq (shrU b0 32)).toNat:Int)]) I K2 aV I (e1 I) (by kernel_rfl) I) fun d8 k6 G0 z1=>bk h fun X8 q5 h=>BN .plain I (Bz (α:=UInt8) (ys:=([aq (shrU b0 32)]:List UInt8)) q5 G0 (fun _ _=>.t1) aV I I (AK k4 (Tt y1 z1)) (Src.row (α:=UInt8) G0 .hd (AC (cs:=[.int .u8 ((aq (shrU b0 32)).toNat:Int)]) (xs:=(([aq (shrU b0 32)]:List UInt8):List UInt8)) G0 L (Ao (cs:=[.int .u8 ((aq (shrU b0 32)).toNat:Int)]) (ds:=[]) I (AH _ _))))) fun A7 g8 ⟨P6,M2,G3,p4⟩=>Ai I<|Aa<|Ay<|Ap<|Ab (FV.add (i:=4) (j:=1) (r:=5) I I (by decide))<|Ae I<|Aa<|Br ?_
 obtain ⟨P2,A1⟩:=AA M2 .d1
 refine Af<|Ab (AY (i:=5) (j:=8) I I)<|Aa<|Ak<|AW I<|Ar<|Ak<|Aw<|Af<|Ae I<|Ai I<|Aa<|Ap<|Ae I<|Ae I<|Ae I<|Ab (FV.mul (i:=8) (j:=5) (r:=40) I I (by decide))<|Ab (FV.shrU (a:=b0) (j:=40) I I)<|Ab (FV.conv8 (a:=shrU b0 40) underlying30 underlying5 I)<|Am .plain I (AG (α:=UInt8) (xs:=([aq (shrU b0 40)]:List UInt8)) (vs:=[.int .u8 ((aq (shrU b0 40)).toNat:Int)]) (ds' :=[.int .u8 ((aq (shrU b0 40)).toNat:Int)]) I P2 aV I (e1 I) (by kernel_rfl) I) fun j8 p6 H0 B1=>bk h fun Y8 s5 h=>BN .plain I (Bz (α:=UInt8) (ys:=([aq (shrU b0 40)]:List UInt8)) s5 H0 (fun _ _=>.t1) aV I I (AK p4 (Tt A1 B1)) (Src.row (α:=UInt8) H0 .hd (AC (cs:=[.int .u8 ((aq (shrU b0 40)).toNat:Int)]) (xs:=(([aq (shrU b0 40)]:List UInt8):List UInt8)) H0 L (Ao (cs:=[.int .u8 ((aq (shrU b0 40)).toNat:Int)]) (ds:=[]) I (AH _ _))))) fun B7 k8 ⟨Q6,Q2,H3,q4⟩=>Ai I<|Aa<|Ay<|Ap<|Ab (FV.add (i:=5) (j:=1) (r:=6) I I (by decide))<|Ae I<|Aa<|Br ?_
 obtain ⟨R2,C1⟩:=AA Q2 .d1
 refine Af<|Ab (AY (i:=6) (j:=8) I I)<|Aa<|Ak<|AW I<|Ar<|Ak<|Aw<|Af<|Ae I<|Ai I<|Aa<|Ap<|Ae I<|Ae I<|Ae I<|Ab (FV.mul (i:=8) (j:=6) (r:=48) I I (by decide))<|Ab (FV.shrU (a:=b0) (j:=48) I I)<|Ab (FV.conv8 (a:=shrU b0 48) underlying30 underlying5 I)<|Am .plain I (AG (α:=UInt8) (xs:=([aq (shrU b0 48)]:List UInt8)) (vs:=[.int .u8 ((aq (shrU b0 48)).toNat:Int)]) (ds' :=[.int .u8 ((aq (shrU b0 48)).toNat:Int)]) I R2 aV I (e1 I) (by kernel_rfl) I) fun p8 q6 I0 D1=>bk h fun Z8 t5 h=>BN .plain I (Bz (α:=UInt8) (ys:=([aq (shrU b0 48)]:List UInt8)) t5 I0 (fun _ _=>.t1) aV I I (AK q4 (Tt C1 D1)) (Src.row (α:=UInt8) I0 .hd (AC (cs:=[.int .u8 ((aq (shrU b0 48)).toNat:Int)]) (xs:=(([aq (shrU b0 48)]:List UInt8):List UInt8)) I0 L (Ao (cs:=[.int .u8 ((aq (shrU b0 48)).toNat:Int)]) (ds:=[]) I (AH _ _))))) fun C7 q8 ⟨R6,U2,I3,s4⟩=>Ai I<|Aa<|Ay<|Ap<|Ab (FV.add (i:=6) (j:=1) (r:=7) I I (by decide))<|Ae I<|Aa<|Br ?_
 obtain ⟨V2,E1⟩:=AA U2 .d1
 refine Af<|Ab (AY (i:=7) (j:=8) I I)<|Aa<|Ak<|AW I<|Ar<|Ak<|Aw<|Af<|Ae I<|Ai I<|Aa<|Ap<|Ae I<|Ae I<|Ae I<|Ab (FV.mul (i:=8) (j:=7) (r:=56) I I (by decide))<|Ab (FV.shrU (a:=b0) (j:=56) I I)<|Ab (FV.conv8 (a:=shrU b0 56) underlying30 underlying5 I)<|Am .plain I (AG (α:=UInt8) (xs:=([aq (shrU b0 56)]:List UInt8)) (vs:=[.int .u8 ((aq (shrU b0 56)).toNat:Int)]) (ds' :=[.int .u8 ((aq (shrU b0 56)).toNat:Int)]) I V2 aV I (e1 I) (by kernel_rfl) I) fun s8 s6 J0 F1=>bk h fun M5 u5 h=>BN .plain I (Bz (α:=UInt8) (ys:=([aq (shrU b0 56)]:List UInt8)) u5 J0 (fun _ _=>.t1) aV I I (AK s4 (Tt E1 F1)) (Src.row (α:=UInt8) J0 .hd (AC (cs:=[.int .u8 ((aq (shrU b0 56)).toNat:Int)]) (xs:=(([aq (shrU b0 56)]:List UInt8):List UInt8)) J0 L (Ao (cs:=[.int .u8 ((aq (shrU b0 56)).toNat:Int)]) (ds:=[]) I (AH _ _))))) fun H5 t8 ⟨u2,W2,J3,t4⟩=>Ai I<|Aa<|Ay<|Ap<|Ab (FV.add (i:=7) (j:=1) (r:=8) I I (by decide))<|Ae I<|Aa<|Br ?_
 obtain ⟨X2,G1⟩:=AA W2 .d1
 refine Af<|Ab (AY (i:=8) (j:=8) I I)<|Aa<|Ak<|BG I<|Bd I<|Ay<|Ap<|Ab (Bj (i:=d0) (j:=1) I I (by omega))<|Ae I<|Aa<|z2 (d0 + 1,M5,H5,u2) X2 (Tt B3 (Tt k1 (Tt C3 (Tt p1 (Tt q1 (Tt D3 (Tt s1 (Tt u1 (Tt E3 (Tt v1 (Tt x1 (Tt F3 (Tt y1 (Tt z1 (Tt G3 (Tt A1 (Tt B1 (Tt H3 (Tt C1 (Tt D1 (Tt I3 (Tt E1 (Tt F1 (Tt J3 G1)))))))))))))))))))))))) (AK t4 G1) h
 refine Bd I ?_
 have h:=I4 _ h
 try dsimp only at h
 refine Ay<|Ap<|Ab (FV.add (i:=0) (j:=1) (r:=1) I I (by decide))<|Ae I<|Aa<|Br<|Af<|Ab (AY (i:=1) (j:=2) I I)<|Aa<|Ak<|AW I<|Ar<|Ak<|Aw<|Af<|Ab (FV.idx1 (cs:=[v0_1,v0_3]) (k:=1) (m:=1) (len:=2) I I I I I (by omega) I)<|Ai I<|Aa<|Af<|Ae I<|Ae I ?_
 have d2:=AO h0_3 y0
 have q7:=Bg d2
 refine Ab (Bh (xs:=a0.fe.fj) underlying105 I d2)<|Ab (FV.convU8 (i:=((a0.fe.fj.length:Nat):Int)) underlying3 underlying5 I)<|Am .plain I (AG (α:=UInt8) (xs:=([bs ((a0.fe.fj.length:Nat):Int)]:List UInt8)) (vs:=[.int .u8 ((bs ((a0.fe.fj.length:Nat):Int)).toNat:Int)]) (ds' :=[.int .u8 ((bs ((a0.fe.fj.length:Nat):Int)).toNat:Int)]) I y0 aV I (e1 I) (by kernel_rfl) I) fun v8 t6 K0 K3=>bk h fun P5 v5 h=>BN .plain I (Bz (α:=UInt8) (ys:=([bs ((a0.fe.fj.length:Nat):Int)]:List UInt8)) v5 K0 (fun _ _=>.t1) aV I I (AK c2 K3) (Src.row (α:=UInt8) K0 .hd (AC (cs:=[.int .u8 ((bs ((a0.fe.fj.length:Nat):Int)).toNat:Int)]) (xs:=(([bs ((a0.fe.fj.length:Nat):Int)]:List UInt8):List UInt8)) K0 L (Ao (cs:=[.int .u8 ((bs ((a0.fe.fj.length:Nat):Int)).toNat:Int)]) (ds:=[]) I (AH _ _))))) fun I5 x8 ⟨v2,g1,k7,u4⟩=>Ai I<|Aa<|Af<|Ae I<|Ab (Bh (xs:=a0.fe.fj) underlying105 I (AO h0_3 g1))<|Ae I<|Aa<|Aw ?_
 obtain ⟨Y2,M3⟩:=AA g1 .d1
 obtain ⟨t7,U4,J4⟩:=aw h
 refine MX.lf (α:=Nat × (List UInt8) × Vc × (List Vc)) (fun ⟨g0,j0,t0,q0⟩=>[(1,vP u0),(3,t0),(15,.agg #[v0_1,v0_3]),(16,vI 1),(25,v0_3),(26,vn a0.fe.fj.length),(27,vn g0)]) (fun ⟨g0,j0,t0,q0⟩=>[rr w 5 UInt8 t0 j0.length q0,.cells u0 [.bool a0.fh.fc,v0_1,.bool a0.fe.fc,v0_3] 109]) (fun ⟨g0,j0,t0,q0⟩ j2=>Cells j2 (bl [rr w 5 UInt8 t0 j0.length q0,.cells u0 [.bool a0.fh.fc,v0_1,.bool a0.fe.fc,v0_3] 109] ++ L) q0 j0) (fun ⟨g0,j0,t0,q0⟩=>(g0,j0)) (0,P5,I5,v2) U4 Y2 (AK u4 M3) ?_
 rintro Y5 ⟨g0,j0,t0,q0⟩ j2 A2 v0 P3 Y0 h
 unfold bI_l1 at h
 try dsimp only at h
 refine Af<|Ab (AY (i:=g0) (j:=a0.fe.fj.length) I I)<|Aa<|Ak<|Bb I h (fun q2 h=>?_) (fun q2 h=>?_)
 refine Ar<|Ak<|Aw<|Af<|bk h fun c0 b5 h=>?_
 obtain ⟨W5,G6,G4,M4,x2,W4,Q4⟩:=Bv (AO h0_3 v0) b5
 have H4:x2 = [vU c0]:=W4; subst H4
 refine Ab (BJ 1 g0 I G4 I I M4)<|BH I (Q4 0 _ I)<|Ai I<|Aa<|Af<|Ae I<|Aa<|Aw<|MX.loop1<|Af<|Ab (AY (i:=0) (j:=8) I I)<|Aa<|Ak<|AW I<|Ar<|Ak<|Aw<|Af<|Ae I<|Ai I<|Aa<|Ap<|Ae I<|Ae I<|Ae I<|Ab (FV.mul (i:=8) (j:=0) (r:=0) I I (by decide))<|Ab (FV.shrU (a:=c0) (j:=0) I I)<|Ab (FV.conv8 (a:=shrU c0 0) underlying30 underlying5 I)<|Am .plain I (AG (α:=UInt8) (xs:=([aq (shrU c0 0)]:List UInt8)) (vs:=[.int .u8 ((aq (shrU c0 0)).toNat:Int)]) (ds' :=[.int .u8 ((aq (shrU c0 0)).toNat:Int)]) I v0 aV I (e1 I) (by kernel_rfl) I) fun y8 u6 M0 H1=>bk h fun b9 x5 h=>BN .plain I (Bz (α:=UInt8) (ys:=([aq (shrU c0 0)]:List UInt8)) x5 M0 (fun _ _=>.t1) aV I I (AK Y0 H1) (Src.row (α:=UInt8) M0 .hd (AC (cs:=[.int .u8 ((aq (shrU c0 0)).toNat:Int)]) (xs:=(([aq (shrU c0 0)]:List UInt8):List UInt8)) M0 L (Ao (cs:=[.int .u8 ((aq (shrU c0 0)).toNat:Int)]) (ds:=[]) I (AH _ _))))) fun D7 z8 ⟨U6,Z2,Q3,v4⟩=>Ai I<|Aa<|Ay<|Ap<|Ab (FV.add (i:=0) (j:=1) (r:=1) I I (by decide))<|Ae I<|Aa<|Br ?_
 obtain ⟨b3,I1⟩:=AA Z2 .d1
 refine Af<|Ab (AY (i:=1) (j:=8) I I)<|Aa<|Ak<|AW I<|Ar<|Ak<|Aw<|Af<|Ae I<|Ai I<|Aa<|Ap<|Ae I<|Ae I<|Ae I<|Ab (FV.mul (i:=8) (j:=1) (r:=8) I I (by decide))<|Ab (FV.shrU (a:=c0) (j:=8) I I)<|Ab (FV.conv8 (a:=shrU c0 8) underlying30 underlying5 I)<|Am .plain I (AG (α:=UInt8) (xs:=([aq (shrU c0 8)]:List UInt8)) (vs:=[.int .u8 ((aq (shrU c0 8)).toNat:Int)]) (ds' :=[.int .u8 ((aq (shrU c0 8)).toNat:Int)]) I b3 aV I (e1 I) (by kernel_rfl) I) fun A8 v6 P0 J1=>bk h fun c9 y5 h=>BN .plain I (Bz (α:=UInt8) (ys:=([aq (shrU c0 8)]:List UInt8)) y5 P0 (fun _ _=>.t1) aV I I (AK v4 (Tt I1 J1)) (Src.row (α:=UInt8) P0 .hd (AC (cs:=[.int .u8 ((aq (shrU c0 8)).toNat:Int)]) (xs:=(([aq (shrU c0 8)]:List UInt8):List UInt8)) P0 L (Ao (cs:=[.int .u8 ((aq (shrU c0 8)).toNat:Int)]) (ds:=[]) I (AH _ _))))) fun E7 B8 ⟨V6,c3,R3,x4⟩=>Ai I<|Aa<|Ay<|Ap<|Ab (FV.add (i:=1) (j:=1) (r:=2) I I (by decide))<|Ae I<|Aa<|Br ?_
 obtain ⟨d3,K1⟩:=AA c3 .d1
 refine Af<|Ab (AY (i:=2) (j:=8) I I)<|Aa<|Ak<|AW I<|Ar<|Ak<|Aw<|Af<|Ae I<|Ai I<|Aa<|Ap<|Ae I<|Ae I<|Ae I<|Ab (FV.mul (i:=8) (j:=2) (r:=16) I I (by decide))<|Ab (FV.shrU (a:=c0) (j:=16) I I)<|Ab (FV.conv8 (a:=shrU c0 16) underlying30 underlying5 I)<|Am .plain I (AG (α:=UInt8) (xs:=([aq (shrU c0 16)]:List UInt8)) (vs:=[.int .u8 ((aq (shrU c0 16)).toNat:Int)]) (ds' :=[.int .u8 ((aq (shrU c0 16)).toNat:Int)]) I d3 aV I (e1 I) (by kernel_rfl) I) fun C8 x6 Q0 M1=>bk h fun d9 z5 h=>BN .plain I (Bz (α:=UInt8) (ys:=([aq (shrU c0 16)]:List UInt8)) z5 Q0 (fun _ _=>.t1) aV I I (AK x4 (Tt K1 M1)) (Src.row (α:=UInt8) Q0 .hd (AC (cs:=[.int .u8 ((aq (shrU c0 16)).toNat:Int)]) (xs:=(([aq (shrU c0 16)]:List UInt8):List UInt8)) Q0 L (Ao (cs:=[.int .u8 ((aq (shrU c0 16)).toNat:Int)]) (ds:=[]) I (AH _ _))))) fun F7 D8 ⟨W6,g3,U3,y4⟩=>Ai I<|Aa<|Ay<|Ap<|Ab (FV.add (i:=2) (j:=1) (r:=3) I I (by decide))<|Ae I<|Aa<|Br ?_
 obtain ⟨j3,P1⟩:=AA g3 .d1
 refine Af<|Ab (AY (i:=3) (j:=8) I I)<|Aa<|Ak<|AW I<|Ar<|Ak<|Aw<|Af<|Ae I<|Ai I<|Aa<|Ap<|Ae I<|Ae I<|Ae I<|Ab (FV.mul (i:=8) (j:=3) (r:=24) I I (by decide))<|Ab (FV.shrU (a:=c0) (j:=24) I I)<|Ab (FV.conv8 (a:=shrU c0 24) underlying30 underlying5 I)<|Am .plain I (AG (α:=UInt8) (xs:=([aq (shrU c0 24)]:List UInt8)) (vs:=[.int .u8 ((aq (shrU c0 24)).toNat:Int)]) (ds' :=[.int .u8 ((aq (shrU c0 24)).toNat:Int)]) I j3 aV I (e1 I) (by kernel_rfl) I) fun E8 y6 R0 Q1=>bk h fun g9 A5 h=>BN .plain I (Bz (α:=UInt8) (ys:=([aq (shrU c0 24)]:List UInt8)) A5 R0 (fun _ _=>.t1) aV I I (AK y4 (Tt P1 Q1)) (Src.row (α:=UInt8) R0 .hd (AC (cs:=[.int .u8 ((aq (shrU c0 24)).toNat:Int)]) (xs:=(([aq (shrU c0 24)]:List UInt8):List UInt8)) R0 L (Ao (cs:=[.int .u8 ((aq (shrU c0 24)).toNat:Int)]) (ds:=[]) I (AH _ _))))) fun G7 F8 ⟨X6,k3,V3,z4⟩=>Ai I<|Aa<|Ay<|Ap<|Ab (FV.add (i:=3) (j:=1) (r:=4) I I (by decide))<|Ae I<|Aa<|Br ?_
 obtain ⟨p3,R1⟩:=AA k3 .d1
 refine Af<|Ab (AY (i:=4) (j:=8) I I)<|Aa<|Ak<|AW I<|Ar<|Ak<|Aw<|Af<|Ae I<|Ai I<|Aa<|Ap<|Ae I<|Ae I<|Ae I<|Ab (FV.mul (i:=8) (j:=4) (r:=32) I I (by decide))<|Ab (FV.shrU (a:=c0) (j:=32) I I)<|Ab (FV.conv8 (a:=shrU c0 32) underlying30 underlying5 I)<|Am .plain I (AG (α:=UInt8) (xs:=([aq (shrU c0 32)]:List UInt8)) (vs:=[.int .u8 ((aq (shrU c0 32)).toNat:Int)]) (ds' :=[.int .u8 ((aq (shrU c0 32)).toNat:Int)]) I p3 aV I (e1 I) (by kernel_rfl) I) fun G8 z6 U0 U1=>bk h fun j9 B5 h=>BN .plain I (Bz (α:=UInt8) (ys:=([aq (shrU c0 32)]:List UInt8)) B5 U0 (fun _ _=>.t1) aV I I (AK z4 (Tt R1 U1)) (Src.row (α:=UInt8) U0 .hd (AC (cs:=[.int .u8 ((aq (shrU c0 32)).toNat:Int)]) (xs:=(([aq (shrU c0 32)]:List UInt8):List UInt8)) U0 L (Ao (cs:=[.int .u8 ((aq (shrU c0 32)).toNat:Int)]) (ds:=[]) I (AH _ _))))) fun H7 H8 ⟨Y6,q3,W3,A4⟩=>Ai I<|Aa<|Ay<|Ap<|Ab (FV.add (i:=4) (j:=1) (r:=5) I I (by decide))<|Ae I<|Aa<|Br ?_
 obtain ⟨s3,V1⟩:=AA q3 .d1
 refine Af<|Ab (AY (i:=5) (j:=8) I I)<|Aa<|Ak<|AW I<|Ar<|Ak<|Aw<|Af<|Ae I<|Ai I<|Aa<|Ap<|Ae I<|Ae I<|Ae I<|Ab (FV.mul (i:=8) (j:=5) (r:=40) I I (by decide))<|Ab (FV.shrU (a:=c0) (j:=40) I I)<|Ab (FV.conv8 (a:=shrU c0 40) underlying30 underlying5 I)<|Am .plain I (AG (α:=UInt8) (xs:=([aq (shrU c0 40)]:List UInt8)) (vs:=[.int .u8 ((aq (shrU c0 40)).toNat:Int)]) (ds' :=[.int .u8 ((aq (shrU c0 40)).toNat:Int)]) I s3 aV I (e1 I) (by kernel_rfl) I) fun I8 A6 V0 W1=>bk h fun k9 C5 h=>BN .plain I (Bz (α:=UInt8) (ys:=([aq (shrU c0 40)]:List UInt8)) C5 V0 (fun _ _=>.t1) aV I I (AK A4 (Tt V1 W1)) (Src.row (α:=UInt8) V0 .hd (AC (cs:=[.int .u8 ((aq (shrU c0 40)).toNat:Int)]) (xs:=(([aq (shrU c0 40)]:List UInt8):List UInt8)) V0 L (Ao (cs:=[.int .u8 ((aq (shrU c0 40)).toNat:Int)]) (ds:=[]) I (AH _ _))))) fun I7 J8 ⟨Z6,t3,X3,B4⟩=>Ai I<|Aa<|Ay<|Ap<|Ab (FV.add (i:=5) (j:=1) (r:=6) I I (by decide))<|Ae I<|Aa<|Br ?_
 obtain ⟨u3,X1⟩:=AA t3 .d1
 refine Af<|Ab (AY (i:=6) (j:=8) I I)<|Aa<|Ak<|AW I<|Ar<|Ak<|Aw<|Af<|Ae I<|Ai I<|Aa<|Ap<|Ae I<|Ae I<|Ae I<|Ab (FV.mul (i:=8) (j:=6) (r:=48) I I (by decide))<|Ab (FV.shrU (a:=c0) (j:=48) I I)<|Ab (FV.conv8 (a:=shrU c0 48) underlying30 underlying5 I)<|Am .plain I (AG (α:=UInt8) (xs:=([aq (shrU c0 48)]:List UInt8)) (vs:=[.int .u8 ((aq (shrU c0 48)).toNat:Int)]) (ds' :=[.int .u8 ((aq (shrU c0 48)).toNat:Int)]) I u3 aV I (e1 I) (by kernel_rfl) I) fun K8 B6 W0 Y1=>bk h fun p9 D5 h=>BN .plain I (Bz (α:=UInt8) (ys:=([aq (shrU c0 48)]:List UInt8)) D5 W0 (fun _ _=>.t1) aV I I (AK B4 (Tt X1 Y1)) (Src.row (α:=UInt8) W0 .hd (AC (cs:=[.int .u8 ((aq (shrU c0 48)).toNat:Int)]) (xs:=(([aq (shrU c0 48)]:List UInt8):List UInt8)) W0 L (Ao (cs:=[.int .u8 ((aq (shrU c0 48)).toNat:Int)]) (ds:=[]) I (AH _ _))))) fun J7 M8 ⟨b7,v3,Y3,C4⟩=>Ai I<|Aa<|Ay<|Ap<|Ab (FV.add (i:=6) (j:=1) (r:=7) I I (by decide))<|Ae I<|Aa<|Br ?_
 obtain ⟨x3,Z1⟩:=AA v3 .d1
 refine Af<|Ab (AY (i:=7) (j:=8) I I)<|Aa<|Ak<|AW I<|Ar<|Ak<|Aw<|Af<|Ae I<|Ai I<|Aa<|Ap<|Ae I<|Ae I<|Ae I<|Ab (FV.mul (i:=8) (j:=7) (r:=56) I I (by decide))<|Ab (FV.shrU (a:=c0) (j:=56) I I)<|Ab (FV.conv8 (a:=shrU c0 56) underlying30 underlying5 I)<|Am .plain I (AG (α:=UInt8) (xs:=([aq (shrU c0 56)]:List UInt8)) (vs:=[.int .u8 ((aq (shrU c0 56)).toNat:Int)]) (ds' :=[.int .u8 ((aq (shrU c0 56)).toNat:Int)]) I x3 aV I (e1 I) (by kernel_rfl) I) fun P8 C6 X0 b2=>bk h fun Q5 E5 h=>BN .plain I (Bz (α:=UInt8) (ys:=([aq (shrU c0 56)]:List UInt8)) E5 X0 (fun _ _=>.t1) aV I I (AK C4 (Tt Z1 b2)) (Src.row (α:=UInt8) X0 .hd (AC (cs:=[.int .u8 ((aq (shrU c0 56)).toNat:Int)]) (xs:=(([aq (shrU c0 56)]:List UInt8):List UInt8)) X0 L (Ao (cs:=[.int .u8 ((aq (shrU c0 56)).toNat:Int)]) (ds:=[]) I (AH _ _))))) fun F5 Q8 ⟨y2,y3,Z3,D4⟩=>Ai I<|Aa<|Ay<|Ap<|Ab (FV.add (i:=7) (j:=1) (r:=8) I I (by decide))<|Ae I<|Aa<|Br ?_
 obtain ⟨B2,j1⟩:=AA y3 .d1
 refine Af<|Ab (AY (i:=8) (j:=8) I I)<|Aa<|Ak<|BG I<|Bd I<|Ay<|Ap<|Ab (Bj (i:=g0) (j:=1) I I (by omega))<|Ae I<|Aa<|A2 (g0 + 1,Q5,F5,y2) B2 (Tt P3 (Tt H1 (Tt Q3 (Tt I1 (Tt J1 (Tt R3 (Tt K1 (Tt M1 (Tt U3 (Tt P1 (Tt Q1 (Tt V3 (Tt R1 (Tt U1 (Tt W3 (Tt V1 (Tt W1 (Tt X3 (Tt X1 (Tt Y1 (Tt Y3 (Tt Z1 (Tt b2 (Tt Z3 j1)))))))))))))))))))))))) (AK D4 j1) h
 refine Bd I ?_
 have h:=J4 _ h
 try dsimp only at h
 refine Ay<|Ap<|Ab (FV.add (i:=1) (j:=1) (r:=2) I I (by decide))<|Ae I<|Aa<|Br<|Af<|Ab (AY (i:=2) (j:=2) I I)<|Aa<|Ak<|BG I<|Bd I<|Ak<|Af<|BB 0 I<|BB 0 I<|BH I ((dY (v0.memA .t1) 0) 0 _ I)<|Aa<|MX.ifb I h (fun k2 h=>?_) (fun k2 h=>?_)
 refine Ap<|Ae I<|Am .plain I (jA 45 (.int .u8 45) v0 aV (e1 I)) fun K7 Z5 z0 z3=>bk h fun J5 c5 h=>BN .plain I (Bz (α:=UInt8) (ys:=([45]:List UInt8)) c5 z0 (fun _ _=>.t1) aV I I (AK Y0 z3) (Src.row (α:=UInt8) z0 .hd (jC 45 (.int .u8 45) z0 L I))) fun u7 M7 ⟨H6,b1,c7,b4⟩=>Ai I<|Aa<|Af<|Ae I<|Ab (FV.bytesS (xs:=J5) underlying63 underlying9 underlying5 I (Src.row (α:=UInt8) b1 .t1 b4))<|Ai I<|Aa<|Au I<|By hb0 func85 I I ?_
 cases h
 exact b1.gv
 refine Ar<|Af<|Ae I<|Ab (FV.bytesS (xs:=j0) underlying63 underlying9 underlying5 I (Src.row (α:=UInt8) v0 .hd Y0))<|Ai I<|Aa<|Au I<|By hb0 func85 I I ?_
 cases h
 exact v0.gv
end Go.Proofs.YtkommhmbkbhmlaaGreat
