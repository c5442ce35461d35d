import Derived.Test.YtkommhmbkbhmlaaGreatVX2
namespace Go.Proofs.YtkommhmbkbhmlaaGreat
open Go Go.RowKit Tryz
set_option maxRecDepth 4000
set_option maxHeartbeats 4000000

def aQ_l1 (n:Nat) (a0:Lb Ta) (p0:Nat × Bool × (Lb Ua) × Bool × (Lb Ua) -> Oa (Bool × (Lb Ua) × Bool × (Lb Ua))):Nat × Bool × (Lb Ua) × Bool × (Lb Ua) -> Oa (Bool × (Lb Ua) × Bool × (Lb Ua))
  | (c0,d0,j0,g0,k0)=>(if c0 < a0.length then (a0[c0]?).bind fun q0=>(bb_p n q0).bind fun s0=>(ab_p n (⟨(⟨d0,j0⟩:Tf),(⟨g0,k0⟩:Tf)⟩:Td) s0).bind fun b0=>p0 (c0 + 1,b0.fj.fc,b0.fj.fk,b0.fh.fc,b0.fh.fk) else some (d0,j0,g0,k0))
def aQ_l2 (n:Nat) (a0:Lb Ta) (g0:Nat -> Oa (Int ⊕ Unit)):Nat -> Oa (Int ⊕ Unit)
  | c0=>(if c0 < a0.length then (a0[c0]?).bind fun d0=>jn (fun j0=>(if j0 = true then some (.inl (50:Int)) else g0 (c0 + 1))) (fun b0=>(bT_p n d0.fm).bind fun p0=>(if p0 = 0 then (bT_p n d0.fP).bind fun q0=>(if q0 = 0 then (bb_p n d0).bind fun s0=>(aY_p n s0.fj).bind fun t0=>(if t0 <= 0 then b0 true else (if 0 < c0 then (a0[c0 - 1]?).bind fun k0=>(al_p n k0.fm).bind fun u0=>(al_p n d0.fm).bind fun v0=>(aK_p n u0 v0).bind fun x0=>b0 (decide (0 <= x0)) else b0 false)) else b0 true) else b0 true)) else some (.inr ()))
def aQ_p (n:Nat) (a0:Lb Ta):Oa Int:=
  (if a0.length < 1 then some (50:Int) else (if 400 < a0.length then some (50:Int) else thn (ao (aQ_l2 n a0) n 0) (fun _=>(aI_p n (0:Int)).bind fun b0=>Option.bind (ao (aQ_l1 n a0) n (0,b0.fj.fc,b0.fj.fk,b0.fh.fc,b0.fh.fk)) (fun (c0,g0,d0,j0)=>(aI_p n (1:Int)).bind fun k0=>(aK_p n (⟨(⟨c0,g0⟩:Tf),(⟨d0,j0⟩:Tf)⟩:Td) k0).bind fun p0=>(if p0 = 0 then some (0:Int) else some (50:Int))))))
theorem aQ_c (n:Nat) {L w} (hL:hl L w) {a0:Lb Ta} {v0_0:Vc} (h0_0:Rep.R w L [v0_0] a0)  {r:Int} (h:aQ_p n a0 = some r) :
 Cl 16 #[v0_0] w (aj w fun _ u=>u = vI r):=by
 unfold aQ_p at h
 have hS0:=AK w
 refine AL func16 I I I fun _ cs0 hb0=>Ae<|Ag I<|Aa<|Aj<|Ae<|Ac I ?_
 have hl1:=AX h0_0
 refine Ab (AY (xs:=a0) underlying24 I h0_0)<|Ab (AU (i:=a0.length) (j:=1) I I)<|Ac I<|RG.ifd (s:=8) I h (fun c2 h=>?_) (fun c2 h=>?_)
 refine Ap<|Ap<|Ap<|Br I I<|Aa<|AE I<|Ae<|Ag I<|Aa<|Ar I<|Bb hb0 func16 I I ?_
 cases h
 exact hS0.gv
 refine AM (Al I)<|AM (AY (xs:=a0) underlying24 I h0_0)<|AM (FV.gtrN (i:=a0.length) (j:=400) I I)<|Bs I I<|Aa<|AW I h (fun c3 h=>?_) (fun c3 h=>?_)
 refine Ae<|Ag I<|Aa<|Ar I<|Bb hb0 func16 I I ?_
 cases h
 exact hS0.gv
 refine Aq<|Aj<|Ae<|Ac I<|Ab (AY (xs:=a0) underlying24 I h0_0)<|Ac I<|Aa<|Av<|tn h fun U4 x3 x1=>MX.lo (α:=Nat) (fun d0=>[(0,v0_0),(13,v0_0),(14,vn a0.length),(15,vn d0)]) (fun d0=>[]) (fun d0=>d0) 0 x3 hS0 ?_
 rintro z4 d0 P5 Z1 K0 z2 h
 unfold aQ_l2 at h
 try dsimp only at h
 refine Ae<|Ab (AU (i:=d0) (j:=a0.length) I I)<|Aa<|Aj<|AW I h (fun P1 h=>?_) (fun P1 h=>?_)
 refine Aq<|Aj<|Av<|Ae<|Ac I<|bk h fun u0 M3 h=>?_
 obtain ⟨v4,E4,d3,p3,H4,z3,t3⟩:=Be (AG h0_0 K0) M3
 obtain rfl:=aF z3
 refine Ab (Bf 32 d0 I d3 I I p3)<|Ab (AA I t3)<|RG.nl [vW 0,vW 0,vW 0,vW 0,vW 0,vW 0,vW 0,vW 0,vW 0,vW 0,vW 0,vW 0,vW 0,vW 0,vW 0,vW 0,vW 0,vW 0,vW 0,vW 0,vW 0,vW 0,vW 0,vW 0,vW 0,vW 0,vW 0,vW 0,vW 0,vW 0,vW 0,vW 0] K0 fun v5 C4 d2 A2=>Ag I<|AT (av u0) d2 .hd (ai I) fun x5 q0 B2=>Aa<|Aj<|MX.jo (α:=Bool) (fun E0=>[(0,v0_0),(13,v0_0),(14,vn a0.length),(15,vn d0),(54,.bool E0)]) (fun E0=>[]) (fun E0=>E0) q0 h ?_ ?_
 rintro E0 Q5 g1 C2 h
 try dsimp only at h
 refine MX.ifb I h (fun Q1 h=>?_) (fun Q1 h=>?_)
 refine Ae<|Ag I<|Aa ?_
 have h:=aX h x1
 refine Ar I<|Bb hb0 func16 I I ?_
 cases h
 exact g1.gv
 refine Aq<|Aw<|Am<|Ab (Bc (i:=d0) (j:=1) I I (by omega))<|Ac I<|Aa<|Z1 (d0 + 1) g1 (Tt z2 (Tt A2 (Tt B2 C2))) h
 intro A4 D0 h
 try dsimp only at h
 refine du 35 fun b0 c0=>Rv 0 b0 I c0 (fun _=>Bh 0 I)<|Rx 1 34359738364 b0 I c0 (AQ (cs:=(ab u0.fm)) I I (ae (q0.memA .hd) 0 16))<|bk h fun I1 R3 h=>RD.cq 2 7 34359738360 (vI I1) b0 I c0 (bd 65) I (e1 I) (fun p q=>bT_c n (q0.hL0 hL q) u0.fm R3) I<|Rv 3 b0 I c0 (fun _=>BB (i:=I1) (j:=0) I I)<|Rv 4 b0 I c0 (fun _=>Al I)<|RD.ifn (s:=24) I h (fun R1 h=>?_) (fun R1 h=>?_)
 refine BQ 5 63 b0 I c0 (.yes I I) (fun _=>Bh 16 I) I<|RD.val (i:=6) (m' :=127) (W:=34359738240) (tk b0) I c0 (.yes I I) (AQ (cs:=(ab u0.fP)) I I (ae (q0.memA .hd) 16 16)) I<|bk h fun J1 U3 h=>RD.callq (i:=7) (m' :=255) (W:=34359738112) (tk b0) I c0 (v:=vI J1) (fst:=[]) (cap:=[]) (.yes I I) (bd 65) I (e1 I) (fun p q=>bT_c n (q0.hL0 hL q) u0.fP U3) I<|BQ 8 511 b0 I c0 (.yes I I) (fun _=>BB (i:=J1) (j:=0) I I) I<|Rv 9 b0 I c0 (fun _=>Bq I I)<|Rv 10 b0 I c0 (fun _=>Al I)<|RD.ifn (s:=30) I h (fun U1 h=>?_) (fun U1 h=>?_)
 refine RD.val (i:=11) (m' :=4095) (W:=34359734272) (tk b0) I c0 (.yes I I) (AA I (q0.memA .hd)) I<|bk h fun b1 V3 h=>AZ 12 8191 b0 I (.yes I I) (bd 66) I (e1 I) (fun p q=>bb_c n (q0.hL hL q) u0 V3) I fun y5 j5 R2 ⟨k4,p4,hu_,A3,R4⟩=>?_
 subst hu_
 obtain ⟨t0,P0⟩:=q0.agr R2
 refine RD.val (i:=13) (m' :=16383) (W:=34359721984) (tk b0) I c0 (.yes I I) (FV.fieldN (cs:=[.bool b1.fj.fc,k4,.bool b1.fh.fc,p4]) (off:=0) (m:=2) I I I I) I<|bk h fun K1 W3 h=>RD.callq (i:=14) (m' :=32767) (W:=34359705600) (tk b0) I c0 (v:=vI K1) (fst:=[]) (cap:=[]) (.yes I I) (bd 67) I (e1 I) (fun p q=>aY_c n (t0.hL0 hL q) b1.fj (t0.kd A3 q) W3) I<|BQ 15 65535 b0 I c0 (.yes I I) (fun _=>FV.leq (i:=K1) (j:=0) I I) I<|Rv 16 b0 I c0 (fun _=>Bq I I)<|Rv 17 b0 I c0 (fun _=>Al I)<|RD.ifd (s:=37) I h (fun V1 h=>?_) (fun V1 h=>?_)
 refine BF 17179869183 1 [(18,38),(19,39),(20,40),(21,41),(22,42),(23,43),(24,44),(25,45),(26,46),(27,47),(28,48),(29,49),(30,50),(31,51),(32,52),(33,53)] (F:=[(37,true)]) (U:=[]) b0 c0 (.cons I .nil) .nil ?_
 dsimp only [aO,List.map]
 refine Rv 34 b0 I c0 (fun _=>BU I I)<|AN (dk b0) ?_
 obtain ⟨g2,D2⟩:=AB t0 .done
 exact D0 true g2 (Tt P0 D2) h
 refine BQ 18 524287 b0 I c0 (.yes I I) (fun _=>Al I) I<|BQ 19 1048575 b0 I c0 (.yes I I) (fun _=>FV.gtrN (i:=d0) (j:=0) I I) I<|BQ 20 2097151 b0 I c0 (.yes I I) (fun _=>Al I) I<|RD.ifd (s:=40) I h (fun W1 h=>?_) (fun W1 h=>?_)
 refine BQ 21 4194303 b0 I c0 (.yes I I) (fun _=>Al I) I<|BQ 22 8388607 b0 I c0 (.yes I I) (fun _=>Al I) I<|BQ 23 16777215 b0 I c0 (.yes I I) (fun _=>FV.subN (i:=d0) (j:=1) I I (by omega) (by omega)) I<|bk h fun G1 P3 h=>?_
 obtain ⟨x4,F4,g3,q3,I4,B3,u3⟩:=Be (AG h0_0 t0) P3
 obtain rfl:=aF B3
 refine BQ 24 33554431 b0 I c0 (.yes I I) (fun _=>Bf 32 (d0 - 1) I g3 I I q3) I<|BQ 25 67108863 b0 I c0 (.yes I I) (fun _=>Bh 0 I) I<|RD.val (i:=26) (m' :=134217727) (W:=33420214272) (tk b0) I c0 (.yes I I) (AQ (cs:=(ab G1.fm)) I I (ae u3 0 16)) I<|BQ 28 402653183 b0 I c0 (.yes I I) (fun _=>Bh 0 I) I<|RD.val (i:=29) (m' :=939524095) (W:=33285996544) (tk b0) I c0 (.yes I I) (AQ (cs:=(ab u0.fm)) I I (ae (t0.memA .hd) 0 16)) I<|bk h fun q4 X3 h=>AZ 27 1073741823 b0 I (.yes I I) (bd 68) I (e1 I) (fun p q=>al_c n (t0.hL hL q) G1.fm X3) I fun z5 k5 U2 ⟨W4,X4,hu_,C3,D3⟩=>?_
 subst hu_
 obtain ⟨j1,E2⟩:=t0.agr U2
 refine bk h fun s4 Y3 h=>AZ 30 2147483647 b0 I (.yes I I) (bd 68) I (e1 I) (fun p q=>al_c n (j1.hL hL q) u0.fm Y3) I fun A5 p5 V2 ⟨Y4,Z4,hu_,E3,F3⟩=>?_
 subst hu_
 obtain ⟨A0,Q0⟩:=j1.agr V2
 refine bk h fun c1 Z3 h=>RD.callq (i:=31) (m' :=4294967295) (W:=30064771072) (tk b0) I c0 (v:=vI c1) (fst:=[]) (cap:=[]) (.yes I I) (bd 69) I (e2 I I) (fun p q=>aK_c n (A0.hL0 hL q) q4 (A0.kd (Af C3 Q0) q) (A0.kd (Af D3 Q0) q) s4 (A0.kd E3 q) (A0.kd F3 q) Z3) I<|BQ 32 8589934591 b0 I c0 (.yes I I) (fun _=>FV.geq (i:=c1) (j:=0) I I) I<|BQ 33 17179869183 b0 I c0 (.yes I I) (fun _=>BU I I) I<|Rv 34 b0 I c0 (fun _=>Bq I I)<|AN (dk b0) ?_
 obtain ⟨j2,F2⟩:=AB A0 .done
 exact D0 (decide (0 <= c1)) j2 (Tt P0 (Tt E2 (Tt Q0 F2))) h
 refine BF 8589934591 2 [(21,41),(22,42),(23,43),(24,44),(25,45),(26,46),(27,47),(28,48),(29,49),(30,50),(31,51),(32,52)] (F:=[(40,false)]) (U:=[]) b0 c0 (.cons I .nil) .nil ?_
 dsimp only [aO,List.map]
 refine BQ 33 17179869183 b0 I c0 (.yes I I) (fun _=>Bq I I) I<|Rv 34 b0 I c0 (fun _=>Bq I I)<|AN (dk b0) ?_
 obtain ⟨k2,G2⟩:=AB t0 .done
 exact D0 false k2 (Tt P0 G2) h
 refine BF 65535 19 [(11,31),(12,32),(13,33),(14,34),(15,35)] (F:=[(30,true)]) (U:=[]) b0 c0 (.cons I .nil) .nil ?_
 dsimp only [aO,List.map]
 refine Rv 16 b0 I c0 (fun _=>BU I I)<|Rv 17 b0 I c0 (fun _=>Al I)<|BF 17179869183 1 [(18,38),(19,39),(20,40),(21,41),(22,42),(23,43),(24,44),(25,45),(26,46),(27,47),(28,48),(29,49),(30,50),(31,51),(32,52),(33,53)] (F:=[(37,true)]) (U:=[]) b0 c0 (.cons I .nil) .nil ?_
 dsimp only [aO,List.map]
 refine Rv 34 b0 I c0 (fun _=>BU I I)<|AN (dk b0) ?_
 obtain ⟨p2,H2⟩:=AB q0 .done
 exact D0 true p2 H2 h
 refine BF 511 26 [(5,25),(6,26),(7,27),(8,28)] (F:=[(24,true)]) (U:=[]) b0 c0 (.cons I .nil) .nil ?_
 dsimp only [aO,List.map]
 refine Rv 9 b0 I c0 (fun _=>BU I I)<|Rv 10 b0 I c0 (fun _=>Al I)<|BF 65535 19 [(11,31),(12,32),(13,33),(14,34),(15,35)] (F:=[(30,true)]) (U:=[]) b0 c0 (.cons I .nil) .nil ?_
 dsimp only [aO,List.map]
 refine Rv 16 b0 I c0 (fun _=>BU I I)<|Rv 17 b0 I c0 (fun _=>Al I)<|BF 17179869183 1 [(18,38),(19,39),(20,40),(21,41),(22,42),(23,43),(24,44),(25,45),(26,46),(27,47),(28,48),(29,49),(30,50),(31,51),(32,52),(33,53)] (F:=[(37,true)]) (U:=[]) b0 c0 (.cons I .nil) .nil ?_
 dsimp only [aO,List.map]
 refine Rv 34 b0 I c0 (fun _=>BU I I)<|AN (dk b0) ?_
 obtain ⟨q2,I2⟩:=AB q0 .done
 exact D0 true q2 I2 h
 refine Ba I ?_
 have h:=bq h x1
 try dsimp only at h
 refine Aj<|Ae<|Ac I<|BD (fst:=[]) (cap:=[]) (vs:=[v0_0,.func (.func 66) #[] #[]]) .plain (bd 70) func70 I I I I (e2 I I) I fun J4 b3 Q4=>Ae<|RG.nl [.bool false,vN,.bool false,vN] K0 fun B5 F0 k1 M4=>Aa<|Ae<|bk h fun B0 b4 h=>jE (bd 71) I (e1 I) (fun p q=>aI_c n (k1.hL hL q)  b4) I fun C5 q5 W2 ⟨C1,D1,hu_,y1,z1⟩=>?_
 subst hu_
 obtain ⟨s2,P4⟩:=k1.agr W2
 refine RG.nl [.bool false,vN,.bool false,vN] s2 fun D5 G0 t2 J0=>AT [.bool B0.fj.fc,C1,.bool B0.fh.fc,D1] t2 .hd (o4 I (Az (Af y1 J0)) I (Az (Af z1 J0))) fun E5 p1 s1=>Aa<|Aj<|Ae<|Ac I<|Ab (AY (xs:=a0) underlying23 I (AG h0_0 p1))<|Ac I<|Aa<|Av ?_
 obtain ⟨V4,y3,k3⟩:=am h
 refine BR (α:=Nat × Bool × (Lb Ua) × Bool × (Lb Ua) × Vc × Vc) (fun ⟨s0,g0,v0,j0,x0,k0,p0⟩=>[(1,.func (.func 66) #[] #[]),(4,vP F0),(5,vP G0),(9,v0_0),(10,vn a0.length),(11,vn s0)]) (fun ⟨s0,g0,v0,j0,x0,k0,p0⟩=>[.cells G0 [.bool g0,k0,.bool j0,p0] 109,.cells F0 [.bool false,vN,.bool false,vN] 109]) (fun ⟨s0,g0,v0,j0,x0,k0,p0⟩ Z0=>Rep.R Z0 (bl [.cells G0 [.bool g0,k0,.bool j0,p0] 109,.cells F0 [.bool false,vN,.bool false,vN] 109] ++ L) [k0] v0/\Rep.R Z0 (bl [.cells G0 [.bool g0,k0,.bool j0,p0] 109,.cells F0 [.bool false,vN,.bool false,vN] 109] ++ L) [p0] x0) (fun ⟨s0,g0,v0,j0,x0,k0,p0⟩=>(s0,g0,v0,j0,x0)) (0,B0.fj.fc,B0.fj.fk,B0.fh.fc,B0.fh.fk,C1,D1) y3 p1 ⟨(Af y1 (Tt J0 s1)),(Af z1 (Tt J0 s1))⟩ ?_
 rintro B4 ⟨s0,g0,v0,j0,x0,k0,p0⟩ Z0 b2 H0 J2 ⟨W0,X0⟩ h
 unfold aQ_l1 at h
 try dsimp only at h
 refine Ae<|Ab (AU (i:=s0) (j:=a0.length) I I)<|Aa<|Aj<|AW I h (fun X1 h=>?_) (fun X1 h=>?_)
 refine Aq<|Aj<|Av<|Ae<|bk h fun H1 Q3 h=>?_
 obtain ⟨y4,G4,j3,s3,K4,G3,v3⟩:=Be (AG h0_0 H0) Q3
 obtain rfl:=aF G3
 refine Ab (Bf 32 s0 I j3 I I s3)<|Ab (AA I v3)<|RG.nl [vW 0,vW 0,vW 0,vW 0,vW 0,vW 0,vW 0,vW 0,vW 0,vW 0,vW 0,vW 0,vW 0,vW 0,vW 0,vW 0,vW 0,vW 0,vW 0,vW 0,vW 0,vW 0,vW 0,vW 0,vW 0,vW 0,vW 0,vW 0,vW 0,vW 0,vW 0,vW 0] H0 fun F5 D4 u2 K2=>AT (av H1) u2 .hd (ai I) fun G5 I0 M2=>Aa<|du 5 fun z0 Y0=>Rx 0 48 z0 I Y0 (AA I (I0.memA .t1))<|Rv 1 z0 I Y0 (fun _=>Al I)<|Rx 2 56 z0 I Y0 (AA I (I0.memA .hd))<|bk h fun t4 c4 h=>AZ 3 15 z0 I .plain (bd 66) I (e1 I) (fun p q=>bb_c n (I0.hL hL q) H1 c4) I fun H5 s5 X2 ⟨b5,c5,hu_,H3,I3⟩=>?_
 subst hu_
 obtain ⟨q1,P2⟩:=I0.agr X2
 refine bk h fun C0 d4 h=>?_
 have V0:=Tt K2 (Tt M2 P2)
 refine AZ 4 31 z0 I .plain (bd 81) I (e2 I I) (fun p q=>ab_c n (q1.hL hL q) (⟨(⟨g0,v0⟩:Tf),(⟨j0,x0⟩:Tf)⟩:Td) (Ah (Af W0 V0) q) (Ah (Af X0 V0) q) t4 (Ah H3 q) (Ah I3 q) d4) I fun I5 t5 Y2 ⟨E1,F1,hu_,A1,B1⟩=>?_
 subst hu_
 obtain ⟨v2,Q2⟩:=q1.agr Y2
 refine BC 5 63 z0 I I .plain (AD (news:=[.bool C0.fj.fc,E1,.bool C0.fh.fc,F1]) v2 .t1 I I I I I I (o4 I (Az A1) I (Az B1))) fun J5 x2 R0=>AN (dk z0)<|Aw<|Am<|Ab (Bc (i:=s0) (j:=1) I I (by omega))<|Ac I<|Aa ?_
 obtain ⟨y2,U0⟩:=AB x2 .d1
 exact b2 (s0 + 1,C0.fj.fc,C0.fj.fk,C0.fh.fc,C0.fh.fk,E1,F1) y2 (Tt J2 (Tt V0 (Tt Q2 (Tt R0 U0)))) ⟨(Af A1 (Tt R0 U0)),(Af B1 (Tt R0 U0))⟩ h
 refine Ba I ?_
 have h:=k3 _ h
 try dsimp only at h
 refine Ae<|Ab (AA I (H0.memA .hd))<|AT [.bool g0,k0,.bool j0,p0] H0 .t1 (o4 I (Az W0) I (Az X0)) fun K5 M0 u1=>Aa<|Ar I<|Au (u:=.agg #[.bool g0,k0,.bool j0,p0]) b3 func70 I (.cons (.many (cs:=[.bool g0,k0,.bool j0,p0]) I I (M0.memA .t1)) .nil) I<|bk h fun u4 g4 h=>jE (bd 71) I (e1 I) (fun p q=>aI_c n (M0.hL hL q)  g4) I fun M5 u5 Z2 ⟨d5,g5,hu_,J3,K3⟩=>?_
 subst hu_
 obtain ⟨y0,v1⟩:=M0.agr Z2
 refine bk h fun M1 j4 h=>Bj (vI M1) (bd 69) I (e2 I I) (fun p q=>aK_c n (y0.hL0 hL q) (⟨(⟨g0,v0⟩:Tf),(⟨j0,x0⟩:Tf)⟩:Td) (y0.kd (Af W0 (Tt u1 v1)) q) (y0.kd (Af X0 (Tt u1 v1)) q) u4 (y0.kd J3 q) (y0.kd K3 q) j4) I<|Ab (BB (i:=M1) (j:=0) I I)<|Aa<|BI I h (fun Y1 h=>?_) (fun Y1 h=>?_)
 refine Aq<|Ae<|Ag I<|Aa<|Ar I<|Bb hb0 func16 I I ?_
 cases h
 exact y0.gv
 refine Ae<|Ag I<|Aa<|Ar I<|Bb hb0 func16 I I ?_
 cases h
 exact y0.gv
theorem mY {a b:Tb} (h0:a.fN.1 = b.fN.1) (h1:a.fN.2.1 = b.fN.2.1) (h2:a.fN.2.2.1 = b.fN.2.2.1) (h3:a.fN.2.2.2.1 = b.fN.2.2.2.1) (h4:a.fN.2.2.2.2.1 = b.fN.2.2.2.2.1) (h5:a.fN.2.2.2.2.2.1 = b.fN.2.2.2.2.2.1) (h6:a.fN.2.2.2.2.2.2.1 = b.fN.2.2.2.2.2.2.1) (h7:a.fN.2.2.2.2.2.2.2 = b.fN.2.2.2.2.2.2.2) (h8:a.fD.1 = b.fD.1) (h9:a.fD.2.1 = b.fD.2.1) (b0:a.fD.2.2.1 = b.fD.2.2.1) (c0:a.fD.2.2.2.1 = b.fD.2.2.2.1) (d0:a.fD.2.2.2.2.1 = b.fD.2.2.2.2.1) (g0:a.fD.2.2.2.2.2.1 = b.fD.2.2.2.2.2.1) (j0:a.fD.2.2.2.2.2.2.1 = b.fD.2.2.2.2.2.2.1) (k0:a.fD.2.2.2.2.2.2.2 = b.fD.2.2.2.2.2.2.2):a = b:=congr (congrArg Tb.mk (lH (a:=a.fN) (b:=b.fN) h0 h1 h2 h3 h4 h5 h6 h7)) (lH (a:=a.fD) (b:=b.fD) h8 h9 b0 c0 d0 g0 j0 k0)
theorem gH (a b:Tb) (p:World):(do eqGuard .eql 34 (.tmp 0) (.tmp 0) (.agg #[vU a.fN.1,vU a.fN.2.1,vU a.fN.2.2.1,vU a.fN.2.2.2.1,vU a.fN.2.2.2.2.1,vU a.fN.2.2.2.2.2.1,vU a.fN.2.2.2.2.2.2.1,vU a.fN.2.2.2.2.2.2.2,vU a.fD.1,vU a.fD.2.1,vU a.fD.2.2.1,vU a.fD.2.2.2.1,vU a.fD.2.2.2.2.1,vU a.fD.2.2.2.2.2.1,vU a.fD.2.2.2.2.2.2.1,vU a.fD.2.2.2.2.2.2.2]) (.agg #[vU b.fN.1,vU b.fN.2.1,vU b.fN.2.2.1,vU b.fN.2.2.2.1,vU b.fN.2.2.2.2.1,vU b.fN.2.2.2.2.2.1,vU b.fN.2.2.2.2.2.2.1,vU b.fN.2.2.2.2.2.2.2,vU b.fD.1,vU b.fD.2.1,vU b.fD.2.2.1,vU b.fD.2.2.2.1,vU b.fD.2.2.2.2.1,vU b.fD.2.2.2.2.2.1,vU b.fD.2.2.2.2.2.2.1,vU b.fD.2.2.2.2.2.2.2]); binOp .eql 34 (.agg #[vU a.fN.1,vU a.fN.2.1,vU a.fN.2.2.1,vU a.fN.2.2.2.1,vU a.fN.2.2.2.2.1,vU a.fN.2.2.2.2.2.1,vU a.fN.2.2.2.2.2.2.1,vU a.fN.2.2.2.2.2.2.2,vU a.fD.1,vU a.fD.2.1,vU a.fD.2.2.1,vU a.fD.2.2.2.1,vU a.fD.2.2.2.2.1,vU a.fD.2.2.2.2.2.1,vU a.fD.2.2.2.2.2.2.1,vU a.fD.2.2.2.2.2.2.2]) (.agg #[vU b.fN.1,vU b.fN.2.1,vU b.fN.2.2.1,vU b.fN.2.2.2.1,vU b.fN.2.2.2.2.1,vU b.fN.2.2.2.2.2.1,vU b.fN.2.2.2.2.2.2.1,vU b.fN.2.2.2.2.2.2.2,vU b.fD.1,vU b.fD.2.1,vU b.fD.2.2.1,vU b.fD.2.2.2.1,vU b.fD.2.2.2.2.1,vU b.fD.2.2.2.2.2.1,vU b.fD.2.2.2.2.2.2.1,vU b.fD.2.2.2.2.2.2.2]):Sem Vc).run Tryz.prog p = .ok (.bool (decide (a = b))) p:=
  oS (ks:=[.int .u64,.int .u64,.int .u64,.int .u64,.int .u64,.int .u64,.int .u64,.int .u64,.int .u64,.int .u64,.int .u64,.int .u64,.int .u64,.int .u64,.int .u64,.int .u64]) (xs:=[vU a.fN.1,vU a.fN.2.1,vU a.fN.2.2.1,vU a.fN.2.2.2.1,vU a.fN.2.2.2.2.1,vU a.fN.2.2.2.2.2.1,vU a.fN.2.2.2.2.2.2.1,vU a.fN.2.2.2.2.2.2.2,vU a.fD.1,vU a.fD.2.1,vU a.fD.2.2.1,vU a.fD.2.2.2.1,vU a.fD.2.2.2.2.1,vU a.fD.2.2.2.2.2.1,vU a.fD.2.2.2.2.2.2.1,vU a.fD.2.2.2.2.2.2.2]) (ys:=[vU b.fN.1,vU b.fN.2.1,vU b.fN.2.2.1,vU b.fN.2.2.2.1,vU b.fN.2.2.2.2.1,vU b.fN.2.2.2.2.2.1,vU b.fN.2.2.2.2.2.2.1,vU b.fN.2.2.2.2.2.2.2,vU b.fD.1,vU b.fD.2.1,vU b.fD.2.2.1,vU b.fD.2.2.2.1,vU b.fD.2.2.2.2.1,vU b.fD.2.2.2.2.2.1,vU b.fD.2.2.2.2.2.2.1,vU b.fD.2.2.2.2.2.2.2]) (by kernel_rfl) (by kernel_rfl) (by kernel_rfl) I I ⟨fun h=>by
    simp only [bb,veq,Bool.and_eq_true,beq_iff_eq,and_true] at h
    obtain ⟨h0,h1,h2,h3,h4,h5,h6,h7,h8,h9,b0,c0,d0,g0,j0,k0⟩:=h
    exact mY (ah h0) (ah h1) (ah h2) (ah h3) (ah h4) (ah h5) (ah h6) (ah h7) (ah h8) (ah h9) (ah b0) (ah c0) (ah d0) (ah g0) (ah j0) (ah k0),fun h=>by subst h; simp [bb,veq]⟩ _ _ p
def cw_p (_n:Nat) (a0:Tb) (a1:Int) (a2:Int):Oa Bool:=
  (if a0 = (⟨(0,0,0,0,0,0,0,0),(0,0,0,0,0,0,0,0)⟩:Tb) then some (decide (a1 = a2)) else some false)
theorem cw_c (n:Nat) {L w} (_hL:hl L w) (a0:Tb) {a1:Int} {a2:Int} {p2:Nat} (m2:∀ j9 v9,([vI a2]:Lb Vc)[j9]? = some v9 -> w.cell? ((⟨p2,0,none⟩:Addr).add j9) = some v9)  {r:Bool} (h:cw_p n a0 a1 a2 = some r) :
 Cl 74 #[.agg ((ab a0)).toArray,vI a1,.pointer (some ⟨p2,0,none⟩)] w (aj w fun _ u=>u = .bool r):=by
 unfold cw_p at h
 refine AL func74 I I I fun _ cs0 hb0=>Ae<|RG.bx (AK w) I I fun j0 d0 b0 g0=>Ag I<|Aa<|Ae<|Ab (AA I (b0.memA .hd))<|Ab (AS (vs:=[]) (u:=.agg zM) ap (fun p=>by kernel_rfl))<|Ab (FV.eqlV (v:=.agg ((ab a0)).toArray) (u:=.agg zM) I I (gH a0 (⟨(0,0,0,0,0,0,0,0),(0,0,0,0,0,0,0,0)⟩:Tb)))<|Ac I<|RG.ifd (s:=9) I h (fun c0 h=>?_) (fun c0 h=>?_)
 refine AM (Al I)<|AM (Bn I ((fun j9 v9 h9=>b0.ag.cell0 (m2 j9 v9 h9)) 0 _ I))<|AM (FV.eql (i:=a1) (j:=a2) I I)<|Br I I<|Ag I<|Aa<|Ar I<|Bb hb0 func74 I I ?_
 cases h
 exact b0.gv
 refine Ap<|Ap<|Ap<|Bs I I<|Ag I<|Aa<|Ar I<|Bb hb0 func74 I I ?_
 cases h
 exact b0.gv
theorem de_c (_n:Nat) {L w} (_hL:hl L w) (a0:Int)  :
 Cl 18 #[vI a0] w (aj w fun w' u=>∃ b0:Nat,u = .func (.func 74) #[] #[vP b0]/\St w w' [.cells b0 [vI a0] 27]):=by
 refine AL func18 I I I fun _ cs0 hb0=>Ae<|RG.bx (AK w) I I fun g0 b0 c0 d0=>Ag I<|Aa<|Ae<|Ab (FV.makeFunc (vs:=[]) (us:=[vP b0]) ap (e1 I))<|Ag I<|Aa<|Ar I<|Au (u:=.func (.func 74) #[] #[vP b0]) hb0 func18 I (.cons (.tmp I) .nil) I<|⟨c0.ag,fun p q=>⟨b0,I,c0.agree q⟩⟩
def av_p (n:Nat) (a0:Td) (a1:Td):Oa Td:=
  (aN_p n a0.fj a1.fj).bind fun b0=>(aN_p n a0.fh a1.fh).bind fun c0=>(ca_p n b0 c0).bind fun d0=>some d0
theorem av_c (n:Nat) {L w} (hL:hl L w) (a0:Td) {v0_1:Vc} (h0_1:Rep.R w L [v0_1] a0.fj.fk) {v0_3:Vc} (h0_3:Rep.R w L [v0_3] a0.fh.fk) (a1:Td) {v1_1:Vc} (h1_1:Rep.R w L [v1_1] a1.fj.fk) {v1_3:Vc} (h1_3:Rep.R w L [v1_3] a1.fh.fk)  {r:Td} (h:av_p n a0 a1 = some r) :
 Cl 80 #[.agg #[.bool a0.fj.fc,v0_1,.bool a0.fh.fc,v0_3],.agg #[.bool a1.fj.fc,v1_1,.bool a1.fh.fc,v1_3]] w (aj w fun w' u=>∃ v0_1 v0_3:Vc,u = .agg #[.bool r.fj.fc,v0_1,.bool r.fh.fc,v0_3]/\Rep.R w' L [v0_1] r.fj.fk/\Rep.R w' L [v0_3] r.fh.fk):=by
 unfold av_p at h
 refine AL func80 I I I fun _ cs0 hb0=>Ae<|RG.bx (AK w) I I fun g1 M0 x0 R0=>RG.bx x0 I I fun j1 P0 y0 U0=>RG.nl [.bool false,vN,.bool false,vN] y0 fun k1 Q0 c0 V0=>Aa<|Aj<|du 11 fun b0 d0=>Rv 0 b0 I d0 (fun _=>Bh 0 I)<|Rx 1 3600 b0 I d0 (AQ (cs:=[.bool a0.fj.fc,v0_1]) I I (ae (c0.memA .t2) 0 2))<|Rv 2 b0 I d0 (fun _=>Bh 0 I)<|Rx 3 3600 b0 I d0 (AQ (cs:=[.bool a1.fj.fc,v1_1]) I I (ae (c0.memA .t1) 0 2))<|Rv 5 b0 I d0 (fun _=>Bh 2 I)<|Rx 6 3584 b0 I d0 (AQ (cs:=[.bool a0.fh.fc,v0_3]) I I (ae (c0.memA .t2) 2 2))<|Rv 7 b0 I d0 (fun _=>Bh 2 I)<|Rx 8 3584 b0 I d0 (AQ (cs:=[.bool a1.fh.fc,v1_3]) I I (ae (c0.memA .t1) 2 2))<|bk h fun J0 G0 h=>AZ 4 511 b0 I .plain (bd 136) I (e2 I I) (fun p q=>aN_c n (c0.hL hL q) a0.fj (c0.km h0_1 q) a1.fj (c0.km h1_1 q) G0) I fun p1 b1 B0 ⟨Y0,hu_,E0⟩=>?_
 subst hu_
 obtain ⟨g0,W0⟩:=c0.agr B0
 refine bk h fun K0 H0 h=>AZ 9 1023 b0 I .plain (bd 136) I (e2 I I) (fun p q=>aN_c n (g0.hL hL q) a0.fh (g0.km h0_3 q) a1.fh (g0.km h1_3 q) H0) I fun q1 c1 C0 ⟨Z0,hu_,F0⟩=>?_
 subst hu_
 obtain ⟨s0,A0⟩:=g0.agr C0
 refine bk h fun k0 I0 h=>AZ 10 2047 b0 I .plain (bd 140) I (e2 I I) (fun p q=>ca_c n (s0.hL hL q) J0 (Ah (Af E0 A0) q) K0 (Ah F0 q) I0) I fun s1 d1 D0 ⟨p0,q0,hu_,u0,v0⟩=>?_
 subst hu_
 obtain ⟨z0,X0⟩:=s0.agr D0
 refine BC 11 4095 b0 I I .plain (AD (news:=[.bool k0.fj.fc,p0,.bool k0.fh.fc,q0]) z0 .hd I I I I I I (o4 I (Az u0) I (Az v0))) fun u1 j0 t0=>AN (dk b0)<|Ar I<|Au hb0 func80 I (.cons (.many (cs:=[.bool k0.fj.fc,p0,.bool k0.fh.fc,q0]) I I (j0.memA .hd)) .nil) I ?_
 cases h
 exact ⟨j0.ag,fun p q=>⟨p0,q0,I,j0.kd (Af u0 t0) q,j0.kd (Af v0 t0) q⟩⟩
def cH_p (_n:Nat) (a0:Td):Oa Td:=
  some a0
theorem cH_c (n:Nat) {L w} (_hL:hl L w) (a0:Td) {v0_1:Vc} (h0_1:Rep.R w L [v0_1] a0.fj.fk) {v0_3:Vc} (h0_3:Rep.R w L [v0_3] a0.fh.fk)  {r:Td} (h:cH_p n a0 = some r) :
 Cl 76 #[.agg #[.bool a0.fj.fc,v0_1,.bool a0.fh.fc,v0_3]] w (aj w fun w' u=>∃ v0_1 v0_3:Vc,u = .agg #[.bool r.fj.fc,v0_1,.bool r.fh.fc,v0_3]/\Rep.R w' L [v0_1] r.fj.fk/\Rep.R w' L [v0_3] r.fh.fk):=by
 unfold cH_p at h
 refine AL func76 I I I fun _ cs0 hb0=>Ae<|RG.bx (AK w) I I fun t0 g0 d0 p0=>RG.nl [.bool false,vN,.bool false,vN] d0 fun u0 j0 b0 q0=>Aa<|Ae<|Ab (AA I (b0.memA .t1))<|AT [.bool a0.fj.fc,v0_1,.bool a0.fh.fc,v0_3] b0 .hd (o4 I (Az (AG h0_1 b0)) I (Az (AG h0_3 b0))) fun v0 c0 s0=>Aa<|Ar I<|Au hb0 func76 I (.cons (.many (cs:=[.bool a0.fj.fc,v0_1,.bool a0.fh.fc,v0_3]) I I (c0.memA .hd)) .nil) I ?_
 cases h
 exact ⟨c0.ag,fun p q=>⟨v0_1,v0_3,I,c0.k0 h0_1 q,c0.k0 h0_3 q⟩⟩
def cS_l1 (n:Nat) (a0:Lb Ta) (q0:Nat × Bool × (Lb Ua) × Bool × (Lb Ua) -> Oa (Bool × (Lb Ua) × Bool × (Lb Ua))):Nat × Bool × (Lb Ua) × Bool × (Lb Ua) -> Oa (Bool × (Lb Ua) × Bool × (Lb Ua))
  | (c0,d0,k0,g0,p0)=>(if c0 < a0.length then (a0[c0]?).bind fun j0=>(bb_p n j0).bind fun s0=>(al_p n j0.fm).bind fun t0=>(cH_p n t0).bind fun u0=>(av_p n s0 u0).bind fun v0=>(ab_p n (⟨(⟨d0,k0⟩:Tf),(⟨g0,p0⟩:Tf)⟩:Td) v0).bind fun b0=>q0 (c0 + 1,b0.fj.fc,b0.fj.fk,b0.fh.fc,b0.fh.fk) else some (d0,k0,g0,p0))
def cS_p (n:Nat) (a0:Lb Ta):Oa (Tb × Int):=
  (aQ_p n a0).bind fun c0=>(if c0 = 0 then (aI_p n (0:Int)).bind fun b0=>Option.bind (ao (cS_l1 n a0) n (0,b0.fj.fc,b0.fj.fk,b0.fh.fc,b0.fh.fk)) (fun (g0,k0,j0,p0)=>(ac_p n (⟨(⟨g0,k0⟩:Tf),(⟨j0,p0⟩:Tf)⟩:Td)).bind fun d0=>some (d0.1,d0.2)) else some ((⟨(0,0,0,0,0,0,0,0),(0,0,0,0,0,0,0,0)⟩:Tb),c0))
theorem cS_c (n:Nat) {L w} (hL:hl L w) {a0:Lb Ta} {v0_0:Vc} (h0_0:Rep.R w L [v0_0] a0)  {r:Tb × Int} (h:cS_p n a0 = some r) :
 Cl 19 #[v0_0] w (aj w fun _ u=>u = .tuple #[.agg ((ab r.1)).toArray,vI r.2]):=by
 unfold cS_p at h
 refine AL func19 I I I fun _ cs0 hb0=>Ae<|RG.nl zL (AK w) fun U4 v1 j1 D4=>Ag I<|Aa<|Aj<|Ae<|Ac I<|bk h fun M2 I3 h=>Bj (vI M2) (bd 16) I (e1 I) (fun p q=>aQ_c n (j1.hL0 hL q) (j1.k0 h0_0 q) I3) I<|Ag I<|Aa<|Ae<|Ac I<|Ab (BB (i:=M2) (j:=0) I I)<|Aa<|BI I h (fun R2 h=>?_) (fun R2 h=>?_)
 refine Aq<|Ae<|Ac I<|BD (fst:=[]) (cap:=[]) (vs:=[v0_0,.func (.func 76) #[] #[]]) .plain (bd 75) func75 I I I I (e2 I I) I fun A4 g3 M4=>Ae<|RG.bx j1 I I fun V4 A0 W2 E4=>RG.nl [.bool false,vN,.bool false,vN] W2 fun W4 x1 X2 F4=>Aa<|Ae<|Ac I<|Ab (FV.makeFunc (vs:=[]) (us:=[vP A0]) ap (e1 I))<|BD (fst:=[]) (cap:=[]) (vs:=[v0_0,.func (.func 138) #[] #[vP A0]]) .plain (bd 70) func70 I I I I (e2 I I) I fun B4 j3 P4=>Ae<|RG.nl [.bool false,vN,.bool false,vN] X2 fun X4 d1 v2 G4=>Aa<|Ae<|bk h fun K0 J3 h=>jE (bd 71) I (e1 I) (fun p q=>aI_c n (v2.hL hL q)  J3) I fun Y4 R4 c3 ⟨J2,K2,hu_,H2,I2⟩=>?_
 subst hu_
 obtain ⟨Y2,H4⟩:=v2.agr c3
 refine RG.nl [.bool false,vN,.bool false,vN] Y2 fun c5 g1 b3 q1=>AT [.bool K0.fj.fc,J2,.bool K0.fh.fc,K2] b3 .hd (o4 I (Az (Af H2 q1)) I (Az (Af I2 q1))) fun d5 x2 E2=>Aa<|Aj<|Ae<|Ac I ?_
 have G2:=AG h0_0 x2
 have K4:=AX G2
 refine Ab (AY (xs:=a0) underlying23 I G2)<|Ac I<|Aa<|Av ?_
 obtain ⟨Q4,D3,p3⟩:=am h
 refine BR (α:=Nat × Bool × (Lb Ua) × Bool × (Lb Ua) × Vc × Vc) (fun ⟨t0,c0,y0,d0,z0,p0,q0⟩=>[(1,.func (.func 138) #[] #[vP A0]),(4,vP d1),(5,vP g1),(9,v0_0),(10,vn a0.length),(11,vn t0)]) (fun ⟨t0,c0,y0,d0,z0,p0,q0⟩=>[.cells g1 [.bool c0,p0,.bool d0,q0] 109,.cells d1 [.bool false,vN,.bool false,vN] 109,.cells x1 [.bool false,vN,.bool false,vN] 109,.cells A0 [.func (.func 76) #[] #[]] 119,.cells v1 zL 34]) (fun ⟨t0,c0,y0,d0,z0,p0,q0⟩ k2=>Rep.R k2 (bl [.cells g1 [.bool c0,p0,.bool d0,q0] 109,.cells d1 [.bool false,vN,.bool false,vN] 109,.cells x1 [.bool false,vN,.bool false,vN] 109,.cells A0 [.func (.func 76) #[] #[]] 119,.cells v1 zL 34] ++ L) [p0] y0/\Rep.R k2 (bl [.cells g1 [.bool c0,p0,.bool d0,q0] 109,.cells d1 [.bool false,vN,.bool false,vN] 109,.cells x1 [.bool false,vN,.bool false,vN] 109,.cells A0 [.func (.func 76) #[] #[]] 119,.cells v1 zL 34] ++ L) [q0] z0) (fun ⟨t0,c0,y0,d0,z0,p0,q0⟩=>(t0,c0,y0,d0,z0)) (0,K0.fj.fc,K0.fj.fk,K0.fh.fc,K0.fh.fk,J2,K2) D3 x2 ⟨(Af H2 (Tt q1 E2)),(Af I2 (Tt q1 E2))⟩ ?_
 rintro x4 ⟨t0,c0,y0,d0,z0,p0,q0⟩ k2 u2 k1 B2 ⟨U0,V0⟩ h
 unfold cS_l1 at h
 try dsimp only at h
 refine Ae<|Ab (AU (i:=t0) (j:=a0.length) I I)<|Aa<|Aj<|AW I h (fun U2 h=>?_) (fun U2 h=>?_)
 refine Aq<|Aj<|Av<|Ae<|bk h fun x0 H3 h=>?_
 obtain ⟨v4,z4,k3,q3,C4,G3,s3⟩:=Be (AG h0_0 k1) H3
 obtain rfl:=aF G3
 refine Ab (Bf 32 t0 I k3 I I q3)<|Ab (AA I s3)<|RG.nl [vW 0,vW 0,vW 0,vW 0,vW 0,vW 0,vW 0,vW 0,vW 0,vW 0,vW 0,vW 0,vW 0,vW 0,vW 0,vW 0,vW 0,vW 0,vW 0,vW 0,vW 0,vW 0,vW 0,vW 0,vW 0,vW 0,vW 0,vW 0,vW 0,vW 0,vW 0,vW 0] k1 fun Z4 y4 Z2 C2=>AT (av x0) Z2 .hd (ai I) fun b5 p1 D2=>Aa<|du 3 fun j0 j2=>Rv 1 j0 I j2 (fun _=>Al I)<|Rx 2 56 j0 I j2 (AA I (p1.memA .hd))<|BN [0,3] (rk j0) ⟨?_,?_,trivial⟩
 refine RO.val (m' :=7) (sk j0) I .plain I (AA I (p1.memA .t1))<|BJ (i:=3) (rk j0) (RO.enterPT (m' :=15) (fst:=[]) (cap:=[vP A0]) (vs:=[.agg ((av x0)).toArray]) (sk j0) I I .plain (bd 138) func138 I I I I (e1 I) I (fun _ V2 Q1 E3=>?_))
 refine Ae<|RG.bx p1 I I fun c4 P2 y1 D1=>RG.nl [.bool false,vN,.bool false,vN] y1 fun d4 Q2 u0 E1=>Aa<|Aj<|du 8 fun b0 v0=>Rx 0 482 b0 I v0 (AA I (u0.memA .t1))<|Rx 2 448 b0 I v0 (Bn I ((u0.memA .t6) 0 _ I))<|Rv 3 b0 I v0 (fun _=>Bh 0 I)<|Rx 4 480 b0 I v0 (AQ (cs:=(ab x0.fm)) I I (ae (u0.memA .t1) 0 16))<|bk h fun p2 Z1 h=>AZ 1 31 b0 I .plain (bd 66) I (e1 I) (fun p q=>bb_c n (u0.hL hL q) x0 Z1) I fun g4 W3 I1 ⟨M3,P3,hu_,R1,U1⟩=>?_
 subst hu_
 obtain ⟨M0,F1⟩:=u0.agr I1
 refine bk h fun q2 b2 h=>AZ 5 63 b0 I .plain (bd 68) I (e1 I) (fun p q=>al_c n (M0.hL hL q) x0.fm b2) I fun j4 X3 J1 ⟨Q3,R3,hu_,V1,W1⟩=>?_
 subst hu_
 obtain ⟨P0,C0⟩:=M0.agr J1
 refine bk h fun s2 c2 h=>AZ 6 127 b0 I .plain (bd 76) I (e1 I) (fun p q=>cH_c n (P0.hL hL q) q2 (Ah V1 q) (Ah W1 q) c2) I fun k4 Y3 K1 ⟨U3,V3,hu_,X1,Y1⟩=>?_
 subst hu_
 obtain ⟨Q0,D0⟩:=P0.agr K1
 refine bk h fun g0 d2 h=>?_
 have u3:=Af R1 (Tt C0 D0)
 have v3:=Af U1 (Tt C0 D0)
 refine AZ 7 255 b0 I .plain (bd 80) I (e2 I I) (fun p q=>av_c n (Q0.hL hL q) p2 (Ah u3 q) (Ah v3 q) s2 (Ah X1 q) (Ah Y1 q) d2) I fun p4 Z3 M1 ⟨I0,J0,hu_,W0,X0⟩=>?_
 subst hu_
 obtain ⟨z1,G1⟩:=Q0.agr M1
 refine BC 8 511 b0 I I .plain (AD (news:=[.bool g0.fj.fc,I0,.bool g0.fh.fc,J0]) z1 .hd I I I I I I (o4 I (Az W0) I (Az X0))) fun q4 B0 E0=>AN (dk b0)<|Ar I<|Au (u:=.agg #[.bool g0.fj.fc,I0,.bool g0.fh.fc,J0]) Q1 func138 I (.cons (.many (cs:=[.bool g0.fj.fc,I0,.bool g0.fh.fc,J0]) I I (B0.memA .hd)) .nil) I<|bk h fun s0 g2 h=>?_
 have H0:=Tt C2 (Tt D2 (Tt D1 (Tt E1 (Tt F1 (Tt C0 (Tt D0 (Tt G1 E0)))))))
 have x3:=Af U0 H0
 have y3:=Af V0 H0
 have z3:=Af W0 E0
 have A3:=Af X0 E0
 refine AZ 4 31 j0 I .plain (bd 81) I (e2 I I) (fun p q=>ab_c n (B0.hL hL q) (⟨(⟨c0,y0⟩:Tf),(⟨d0,z0⟩:Tf)⟩:Td) (Ah x3 q) (Ah y3 q) g0 (Ah z3 q) (Ah A3 q) g2) I fun s4 b4 P1 ⟨b1,c1,hu_,Y0,Z0⟩=>?_
 subst hu_
 obtain ⟨A1,H1⟩:=B0.agr P1
 refine BC 5 63 j0 I I .plain (AD (news:=[.bool s0.fj.fc,b1,.bool s0.fh.fc,c1]) A1 .t3 I I I I I I (o4 I (Az Y0) I (Az Z0))) fun u4 B1 F0=>AN (dk j0)<|Aw<|Am<|Ab (Bc (i:=t0) (j:=1) I I (by omega))<|Ac I<|Aa ?_
 obtain ⟨C1,G0⟩:=AB B1 .d3
 have B3:=Af Y0 (Tt F0 G0)
 have C3:=Af Z0 (Tt F0 G0)
 have F3:=Tt H0 (Tt H1 (Tt F0 G0))
 exact u2 (t0 + 1,s0.fj.fc,s0.fj.fk,s0.fh.fc,s0.fh.fk,b1,c1) C1 (Tt B2 F3) ⟨B3,C3⟩ h
 refine RO.enterPT (m' :=14) (fst:=[]) (cap:=[vP A0]) (vs:=[.agg ((av x0)).toArray]) (sk j0) I I .plain (bd 138) func138 I I I I (e1 I) I fun _ V2 Q1 E3=>Ae<|RG.bx p1 I I fun c4 P2 y1 D1=>RG.nl [.bool false,vN,.bool false,vN] y1 fun d4 Q2 u0 E1=>Aa<|Aj<|du 8 fun b0 v0=>Rx 0 482 b0 I v0 (AA I (u0.memA .t1))<|Rx 2 448 b0 I v0 (Bn I ((u0.memA .t6) 0 _ I))<|Rv 3 b0 I v0 (fun _=>Bh 0 I)<|Rx 4 480 b0 I v0 (AQ (cs:=(ab x0.fm)) I I (ae (u0.memA .t1) 0 16))<|bk h fun p2 Z1 h=>AZ 1 31 b0 I .plain (bd 66) I (e1 I) (fun p q=>bb_c n (u0.hL hL q) x0 Z1) I fun g4 W3 I1 ⟨M3,P3,hu_,R1,U1⟩=>?_
 subst hu_
 obtain ⟨M0,F1⟩:=u0.agr I1
 refine bk h fun q2 b2 h=>AZ 5 63 b0 I .plain (bd 68) I (e1 I) (fun p q=>al_c n (M0.hL hL q) x0.fm b2) I fun j4 X3 J1 ⟨Q3,R3,hu_,V1,W1⟩=>?_
 subst hu_
 obtain ⟨P0,C0⟩:=M0.agr J1
 refine bk h fun s2 c2 h=>AZ 6 127 b0 I .plain (bd 76) I (e1 I) (fun p q=>cH_c n (P0.hL hL q) q2 (Ah V1 q) (Ah W1 q) c2) I fun k4 Y3 K1 ⟨U3,V3,hu_,X1,Y1⟩=>?_
 subst hu_
 obtain ⟨Q0,D0⟩:=P0.agr K1
 refine bk h fun g0 d2 h=>AZ 7 255 b0 I .plain (bd 80) I (e2 I I) (fun p q=>av_c n (Q0.hL hL q) p2 (Ah (Af R1 (Tt C0 D0)) q) (Ah (Af U1 (Tt C0 D0)) q) s2 (Ah X1 q) (Ah Y1 q) d2) I fun p4 Z3 M1 ⟨I0,J0,hu_,W0,X0⟩=>?_
 subst hu_
 obtain ⟨z1,G1⟩:=Q0.agr M1
 refine BC 8 511 b0 I I .plain (AD (news:=[.bool g0.fj.fc,I0,.bool g0.fh.fc,J0]) z1 .hd I I I I I I (o4 I (Az W0) I (Az X0))) fun q4 B0 E0=>AN (dk b0)<|Ar I<|Au (u:=.agg #[.bool g0.fj.fc,I0,.bool g0.fh.fc,J0]) Q1 func138 I (.cons (.many (cs:=[.bool g0.fj.fc,I0,.bool g0.fh.fc,J0]) I I (B0.memA .hd)) .nil) I<|Rx 0 48 j0 I j2 (AA I (B0.memA .t3))<|bk h fun s0 g2 h=>?_
 have H0:=Tt C2 (Tt D2 (Tt D1 (Tt E1 (Tt F1 (Tt C0 (Tt D0 (Tt G1 E0)))))))
 refine AZ 4 31 j0 I .plain (bd 81) I (e2 I I) (fun p q=>ab_c n (B0.hL hL q) (⟨(⟨c0,y0⟩:Tf),(⟨d0,z0⟩:Tf)⟩:Td) (Ah (Af U0 H0) q) (Ah (Af V0 H0) q) g0 (Ah (Af W0 E0) q) (Ah (Af X0 E0) q) g2) I fun s4 b4 P1 ⟨b1,c1,hu_,Y0,Z0⟩=>?_
 subst hu_
 obtain ⟨A1,H1⟩:=B0.agr P1
 refine BC 5 63 j0 I I .plain (AD (news:=[.bool s0.fj.fc,b1,.bool s0.fh.fc,c1]) A1 .t3 I I I I I I (o4 I (Az Y0) I (Az Z0))) fun u4 B1 F0=>AN (dk j0)<|Aw<|Am<|Ab (Bc (i:=t0) (j:=1) I I (by omega))<|Ac I<|Aa ?_
 obtain ⟨C1,G0⟩:=AB B1 .d3
 exact u2 (t0 + 1,s0.fj.fc,s0.fj.fk,s0.fh.fc,s0.fh.fk,b1,c1) C1 (Tt B2 (Tt H0 (Tt H1 (Tt F0 G0)))) ⟨(Af Y0 (Tt F0 G0)),(Af Z0 (Tt F0 G0))⟩ h
 refine Ba I ?_
 have h:=p3 _ h
 try dsimp only at h
 refine Ae<|Ab (AA I (k1.memA .hd))<|AT [.bool c0,p0,.bool d0,q0] k1 .t1 (o4 I (Az U0) I (Az V0)) fun g5 y2 s1=>Aa<|Ar I<|Au (u:=.agg #[.bool c0,p0,.bool d0,q0]) j3 func70 I (.cons (.many (cs:=[.bool c0,p0,.bool d0,q0]) I I (y2.memA .t1)) .nil) I<|AT [.bool c0,p0,.bool d0,q0] y2 .t2 (o4 I (Az (Af U0 s1)) I (Az (Af V0 s1))) fun j5 R0 F2=>Aa<|Ar I<|Au (u:=.agg #[.bool c0,p0,.bool d0,q0]) g3 func75 I (.cons (.many (cs:=[.bool c0,p0,.bool d0,q0]) I I (R0.memA .t2)) .nil) I<|bk h fun u1 K3 h=>Bj (.tuple #[.agg ((ab u1.1)).toArray,vI u1.2]) (bd 77) I (e1 I) (fun p q=>ac_c n (R0.hL0 hL q) (⟨(⟨c0,y0⟩:Tf),(⟨d0,z0⟩:Tf)⟩:Td) (R0.kd (Af U0 (Tt s1 F2)) q) (R0.kd (Af V0 (Tt s1 F2)) q) K3) I<|Ab (Ai I I)<|Ab (Ai I I)<|AT (ab u1.1) R0 .t4 (ai I) fun k5 z2 I4=>Ag I<|Aa<|Ar I<|Au hb0 func19 I (.cons (.many (cs:=(ab u1.1)) I I (z2.memA .t4)) (.cons (.tmp I) .nil)) I ?_
 cases h
 exact z2.gv
 refine Ae<|Ab (AS (vs:=[]) (u:=.agg zM) ap (fun p=>by kernel_rfl))<|Ac I<|AT zL j1 .hd (ai I) fun p5 A2 J4=>Ag I<|Aa<|Ar I<|Au hb0 func19 I (.cons (.many (cs:=zL) I I (A2.memA .hd)) (.cons (.tmp I) .nil)) I ?_
 cases h
 exact A2.gv
def ck_p (n:Nat) (a0:Td):Oa Td:=
  (bE_p n a0.fj).bind fun b0=>some (⟨b0,a0.fh⟩:Td)
theorem ck_c (n:Nat) {L w} (hL:hl L w) (a0:Td) {v0_1:Vc} (h0_1:Rep.R w L [v0_1] a0.fj.fk) {v0_3:Vc} (h0_3:Rep.R w L [v0_3] a0.fh.fk)  {r:Td} (h:ck_p n a0 = some r) :
 Cl 89 #[.agg #[.bool a0.fj.fc,v0_1,.bool a0.fh.fc,v0_3]] w (aj w fun w' u=>∃ v0_1 v0_3:Vc,u = .agg #[.bool r.fj.fc,v0_1,.bool r.fh.fc,v0_3]/\Rep.R w' L [v0_1] r.fj.fk/\Rep.R w' L [v0_3] r.fh.fk):=by
 unfold ck_p at h
 refine AL func89 I I I fun _ cs0 hb0=>Ae<|RG.bx (AK w) I I fun M0 D0 u0 H0=>RG.nl [.bool false,vN,.bool false,vN] u0 fun P0 E0 c0 I0=>Aa<|Aj<|du 6 fun b0 d0=>Rv 0 b0 I d0 (fun _=>Bh 0 I)<|Rx 1 100 b0 I d0 (AQ (cs:=[.bool a0.fj.fc,v0_1]) I I (ae (c0.memA .t1) 0 2))<|Rv 3 b0 I d0 (fun _=>Bh 2 I)<|Rx 4 96 b0 I d0 (AQ (cs:=[.bool a0.fh.fc,v0_3]) I I (ae (c0.memA .t1) 2 2))<|bk h fun p0 A0 h=>AZ 2 31 b0 I .plain (bd 145) I (e1 I) (fun p q=>bE_c n (c0.hL hL q) a0.fj (c0.km h0_1 q) A0) I fun Q0 K0 x0 ⟨g0,hu_,q0⟩=>?_
 subst hu_
 obtain ⟨s0,J0⟩:=c0.agr x0
 obtain ⟨B0,F0,y0,_⟩:=Bi q0
 have t0:=AG h0_3 s0
 obtain ⟨C0,G0,z0,_⟩:=Bi t0
 refine Rv 5 b0 I d0 (fun _=>AS (vs:=[.agg #[.bool p0.fc,g0],.agg #[.bool a0.fh.fc,v0_3]]) (u:=.agg #[.bool p0.fc,g0,.bool a0.fh.fc,v0_3]) (e2 I I) (fun p=>by rw [y0,z0]; try kernel_rfl))<|BC 6 127 b0 I I .plain (AD (news:=[.bool p0.fc,g0,.bool a0.fh.fc,v0_3]) s0 .hd I I I I I I (o4 I (Az q0) I (Az t0))) fun R0 j0 v0=>AN (dk b0)<|Ar I<|Au hb0 func89 I (.cons (.many (cs:=[.bool p0.fc,g0,.bool a0.fh.fc,v0_3]) I I (j0.memA .hd)) .nil) I ?_
 cases h
 exact ⟨j0.ag,fun p q=>⟨g0,v0_3,I,j0.kd (Af q0 v0) q,j0.k0 h0_3 q⟩⟩
def cO_p (n:Nat) (a0:Td) (a1:Td):Oa Td:=
  (ck_p n a1).bind fun b0=>(ab_p n a0 b0).bind fun c0=>some c0
theorem cO_c (n:Nat) {L w} (hL:hl L w) (a0:Td) {v0_1:Vc} (h0_1:Rep.R w L [v0_1] a0.fj.fk) {v0_3:Vc} (h0_3:Rep.R w L [v0_3] a0.fh.fk) (a1:Td) {v1_1:Vc} (h1_1:Rep.R w L [v1_1] a1.fj.fk) {v1_3:Vc} (h1_3:Rep.R w L [v1_3] a1.fh.fk)  {r:Td} (h:cO_p n a0 a1 = some r) :
 Cl 79 #[.agg #[.bool a0.fj.fc,v0_1,.bool a0.fh.fc,v0_3],.agg #[.bool a1.fj.fc,v1_1,.bool a1.fh.fc,v1_3]] w (aj w fun w' u=>∃ v0_1 v0_3:Vc,u = .agg #[.bool r.fj.fc,v0_1,.bool r.fh.fc,v0_3]/\Rep.R w' L [v0_1] r.fj.fk/\Rep.R w' L [v0_3] r.fh.fk):=by
 unfold cO_p at h
 refine AL func79 I I I fun _ cs0 hb0=>Ae<|RG.bx (AK w) I I fun X0 G0 v0 J0=>RG.bx v0 I I fun Y0 H0 x0 K0=>RG.nl [.bool false,vN,.bool false,vN] x0 fun Z0 I0 b0 M0=>Aa<|Aj<|du 4 fun c0 u0=>Rx 0 24 c0 I u0 (AA I (b0.memA .t2))<|Rx 1 28 c0 I u0 (AA I (b0.memA .t1))<|bk h fun F0 D0 h=>AZ 2 7 c0 I .plain (bd 89) I (e1 I) (fun p q=>ck_c n (b0.hL hL q) a1 (b0.km h1_1 q) (b0.km h1_3 q) D0) I fun b1 V0 z0 ⟨R0,U0,hu_,B0,C0⟩=>?_
 subst hu_
 obtain ⟨d0,P0⟩:=b0.agr z0
 refine bk h fun j0 E0 h=>AZ 3 15 c0 I .plain (bd 81) I (e2 I I) (fun p q=>ab_c n (d0.hL hL q) a0 (d0.km h0_1 q) (d0.km h0_3 q) F0 (Ah B0 q) (Ah C0 q) E0) I fun c1 W0 A0 ⟨k0,p0,hu_,s0,t0⟩=>?_
 subst hu_
 obtain ⟨y0,Q0⟩:=d0.agr A0
 refine BC 4 31 c0 I I .plain (AD (news:=[.bool j0.fj.fc,k0,.bool j0.fh.fc,p0]) y0 .hd I I I I I I (o4 I (Az s0) I (Az t0))) fun d1 g0 q0=>AN (dk c0)<|Ar I<|Au hb0 func79 I (.cons (.many (cs:=[.bool j0.fj.fc,k0,.bool j0.fh.fc,p0]) I I (g0.memA .hd)) .nil) I ?_
 cases h
 exact ⟨g0.ag,fun p q=>⟨k0,p0,I,g0.kd (Af s0 q0) q,g0.kd (Af t0 q0) q⟩⟩
def cD_p (n:Nat) (a0:Td) (a1:Td):Oa Td:=
  (cO_p n a0 a1).bind fun b0=>(av_p n b0 b0).bind fun c0=>some c0
theorem cD_c (n:Nat) {L w} (hL:hl L w) (a0:Td) {v0_1:Vc} (h0_1:Rep.R w L [v0_1] a0.fj.fk) {v0_3:Vc} (h0_3:Rep.R w L [v0_3] a0.fh.fk) (a1:Td) {v1_1:Vc} (h1_1:Rep.R w L [v1_1] a1.fj.fk) {v1_3:Vc} (h1_3:Rep.R w L [v1_3] a1.fh.fk) {p1:Nat} (m1:∀ j9 v9,([.bool a1.fj.fc,v1_1,.bool a1.fh.fc,v1_3]:Lb Vc)[j9]? = some v9 -> w.cell? ((⟨p1,0,none⟩:Addr).add j9) = some v9)  {r:Td} (h:cD_p n a0 a1 = some r) :
 Cl 78 #[.agg #[.bool a0.fj.fc,v0_1,.bool a0.fh.fc,v0_3],.pointer (some ⟨p1,0,none⟩)] w (aj w fun w' u=>∃ v0_1 v0_3:Vc,u = .agg #[.bool r.fj.fc,v0_1,.bool r.fh.fc,v0_3]/\Rep.R w' L [v0_1] r.fj.fk/\Rep.R w' L [v0_3] r.fh.fk):=by
 unfold cD_p at h
 refine AL func78 I I I fun _ cs0 hb0=>Ae<|RG.bx (AK w) I I fun Z0 M0 B0 R0=>RG.nl [.bool false,vN,.bool false,vN] B0 fun b1 P0 b0 U0=>Aa<|Ae<|Ab (AA I (b0.memA .t1))<|Ab (AA I (fun j9 v9 h9=>b0.ag.cell0 (m1 j9 v9 h9)))<|bk h fun j0 H0 h=>jE (bd 79) I (e2 I I) (fun p q=>cO_c n (b0.hL hL q) a0 (b0.km h0_1 q) (b0.km h0_3 q) a1 (b0.km h1_1 q) (b0.km h1_3 q) H0) I fun c1 X0 F0 ⟨J0,K0,hu_,x0,y0⟩=>?_
 subst hu_
 obtain ⟨C0,V0⟩:=b0.agr F0
 refine RG.nl [.bool false,vN,.bool false,vN] C0 fun d1 Q0 D0 g0=>AT [.bool j0.fj.fc,J0,.bool j0.fh.fc,K0] D0 .hd (o4 I (Az (Af x0 g0)) I (Az (Af y0 g0))) fun g1 c0 s0=>Aa<|Ae<|Ab (AA I (c0.memA .hd))<|Ab (AA I (c0.memA .hd))<|bk h fun k0 I0 h=>?_
 have u0:=Af x0 (Tt g0 s0)
 have v0:=Af y0 (Tt g0 s0)
 refine jE (bd 80) I (e2 I I) (fun p q=>av_c n (c0.hL hL q) j0 (Ah u0 q) (Ah v0 q) j0 (Ah u0 q) (Ah v0 q) I0) I fun j1 Y0 G0 ⟨p0,q0,hu_,z0,A0⟩=>?_
 subst hu_
 obtain ⟨E0,W0⟩:=c0.agr G0
 refine AT [.bool k0.fj.fc,p0,.bool k0.fh.fc,q0] E0 .t1 (o4 I (Az z0) I (Az A0)) fun k1 d0 t0=>Aa<|Ar I<|Au hb0 func78 I (.cons (.many (cs:=[.bool k0.fj.fc,p0,.bool k0.fh.fc,q0]) I I (d0.memA .t1)) .nil) I ?_
 cases h
 exact ⟨d0.ag,fun p q=>⟨p0,q0,I,d0.kd (Af z0 t0) q,d0.kd (Af A0 t0) q⟩⟩
def bR_l1 (n:Nat) (a0:Lb Ta) (s0:Bool) (u0:Lb Ua) (t0:Bool) (v0:Lb Ua) (q0:Nat × Bool × (Lb Ua) × Bool × (Lb Ua) -> Oa (Bool × (Lb Ua) × Bool × (Lb Ua))):Nat × Bool × (Lb Ua) × Bool × (Lb Ua) -> Oa (Bool × (Lb Ua) × Bool × (Lb Ua))
  | (c0,d0,k0,g0,p0)=>(if c0 < a0.length then (a0[c0]?).bind fun j0=>(bb_p n j0).bind fun x0=>(al_p n j0.fm).bind fun y0=>(cD_p n y0 (⟨(⟨s0,u0⟩:Tf),(⟨t0,v0⟩:Tf)⟩:Td)).bind fun z0=>(av_p n x0 z0).bind fun A0=>(ab_p n (⟨(⟨d0,k0⟩:Tf),(⟨g0,p0⟩:Tf)⟩:Td) A0).bind fun b0=>q0 (c0 + 1,b0.fj.fc,b0.fj.fk,b0.fh.fc,b0.fh.fk) else some (d0,k0,g0,p0))
def bR_l2 (n:Nat) (a0:Lb Ta) (q0:Nat × Bool × (Lb Ua) × Bool × (Lb Ua) -> Oa (Bool × (Lb Ua) × Bool × (Lb Ua))):Nat × Bool × (Lb Ua) × Bool × (Lb Ua) -> Oa (Bool × (Lb Ua) × Bool × (Lb Ua))
  | (c0,d0,k0,g0,p0)=>(if c0 < a0.length then (a0[c0]?).bind fun j0=>(bb_p n j0).bind fun s0=>(al_p n j0.fm).bind fun t0=>(cH_p n t0).bind fun u0=>(av_p n s0 u0).bind fun v0=>(ab_p n (⟨(⟨d0,k0⟩:Tf),(⟨g0,p0⟩:Tf)⟩:Td) v0).bind fun b0=>q0 (c0 + 1,b0.fj.fc,b0.fj.fk,b0.fh.fc,b0.fh.fk) else some (d0,k0,g0,p0))
def bR_p (n:Nat) (a0:Lb Ta):Oa (Tb × Int):=
  (aQ_p n a0).bind fun g0=>(if g0 = 0 then (aI_p n (0:Int)).bind fun b0=>Option.bind (ao (bR_l2 n a0) n (0,b0.fj.fc,b0.fj.fk,b0.fh.fc,b0.fh.fk)) (fun (p0,u0,q0,v0)=>(aI_p n (0:Int)).bind fun c0=>Option.bind (ao (bR_l1 n a0 p0 u0 q0 v0) n (0,c0.fj.fc,c0.fj.fk,c0.fh.fc,c0.fh.fk)) (fun (j0,s0,k0,t0)=>(ac_p n (⟨(⟨j0,s0⟩:Tf),(⟨k0,t0⟩:Tf)⟩:Td)).bind fun d0=>some (d0.1,d0.2))) else some ((⟨(0,0,0,0,0,0,0,0),(0,0,0,0,0,0,0,0)⟩:Tb),g0))
theorem bR_c (n:Nat) {L w} (hL:hl L w) {a0:Lb Ta} {v0_0:Vc} (h0_0:Rep.R w L [v0_0] a0)  {r:Tb × Int} (h:bR_p n a0 = some r) :
 Cl 20 #[v0_0] w (aj w fun _ u=>u = .tuple #[.agg ((ab r.1)).toArray,vI r.2]):=by
 unfold bR_p at h
 refine AL func20 I I I fun _ cs0 hb0=>Ae<|RG.nl zL (AK w) fun E9 D1 A2 g9=>Ag I<|Aa<|Aj<|Ae<|Ac I<|bk h fun F5 D7 h=>Bj (vI F5) (bd 16) I (e1 I) (fun p q=>aQ_c n (A2.hL0 hL q) (A2.k0 h0_0 q) D7) I<|Ag I<|Aa<|Ae<|Ac I<|Ab (BB (i:=F5) (j:=0) I I)<|Aa<|BI I h (fun M5 h=>?_) (fun M5 h=>?_)
 refine Aq<|Ae<|Ac I<|BD (fst:=[]) (cap:=[]) (vs:=[v0_0,.func (.func 76) #[] #[]]) .plain (bd 75) func75 I I I I (e2 I I) I fun Y8 x6 v9=>Ae<|RG.bx A2 I I fun M9 V0 W5 p9=>RG.nl [.bool false,vN,.bool false,vN] W5 fun P9 P2 X5 q9=>Aa<|Ae<|Ac I<|Ab (FV.makeFunc (vs:=[]) (us:=[vP V0]) ap (e1 I))<|BD (fst:=[]) (cap:=[]) (vs:=[v0_0,.func (.func 138) #[] #[vP V0]]) .plain (bd 70) func70 I I I I (e2 I I) I fun Z8 y6 x9=>Ae<|RG.nl [.bool false,vN,.bool false,vN] X5 fun Q9 v2 R4 s9=>Aa<|Ae<|bk h fun E1 E7 h=>jE (bd 71) I (e1 I) (fun p q=>aI_c n (R4.hL hL q)  E7) I fun R9 C9 u6 ⟨B5,C5,hu_,x5,y5⟩=>?_
 subst hu_
 obtain ⟨Y5,t9⟩:=R4.agr u6
 refine RG.nl [.bool false,vN,.bool false,vN] Y5 fun W9 x2 b6 J2=>AT [.bool E1.fj.fc,B5,.bool E1.fh.fc,C5] b6 .hd (o4 I (Az (Af x5 J2)) I (Az (Af y5 J2))) fun X9 U4 g5=>Aa<|Aj<|Ae<|Ac I ?_
 have u5:=AG h0_0 U4
 have u9:=AX u5
 refine Ab (AY (xs:=a0) underlying23 I u5)<|Ac I<|Aa<|Av ?_
 obtain ⟨B9,q7,E6⟩:=am h
 refine BR (α:=Nat × Bool × (Lb Ua) × Bool × (Lb Ua) × Vc × Vc) (fun ⟨D0,c0,H0,d0,I0,j0,p0⟩=>[(1,.func (.func 138) #[] #[vP V0]),(4,vP v2),(5,vP x2),(9,v0_0),(10,vn a0.length),(11,vn D0)]) (fun ⟨D0,c0,H0,d0,I0,j0,p0⟩=>[.cells x2 [.bool c0,j0,.bool d0,p0] 109,.cells v2 [.bool false,vN,.bool false,vN] 109,.cells P2 [.bool false,vN,.bool false,vN] 109,.cells V0 [.func (.func 76) #[] #[]] 119,.cells D1 zL 34]) (fun ⟨D0,c0,H0,d0,I0,j0,p0⟩ C4=>Rep.R C4 (bl [.cells x2 [.bool c0,j0,.bool d0,p0] 109,.cells v2 [.bool false,vN,.bool false,vN] 109,.cells P2 [.bool false,vN,.bool false,vN] 109,.cells V0 [.func (.func 76) #[] #[]] 119,.cells D1 zL 34] ++ L) [j0] H0/\Rep.R C4 (bl [.cells x2 [.bool c0,j0,.bool d0,p0] 109,.cells v2 [.bool false,vN,.bool false,vN] 109,.cells P2 [.bool false,vN,.bool false,vN] 109,.cells V0 [.func (.func 76) #[] #[]] 119,.cells D1 zL 34] ++ L) [p0] I0) (fun ⟨D0,c0,H0,d0,I0,j0,p0⟩=>(D0,c0,H0,d0,I0)) (0,E1.fj.fc,E1.fj.fk,E1.fh.fc,E1.fh.fk,B5,C5) q7 U4 ⟨(Af x5 (Tt J2 g5)),(Af y5 (Tt J2 g5))⟩ ?_
 rintro Q8 ⟨D0,c0,H0,d0,I0,j0,p0⟩ C4 K4 D2 b5 ⟨x1,y1⟩ h
 unfold bR_l2 at h
 try dsimp only at h
 refine Ae<|Ab (AU (i:=D0) (j:=a0.length) I I)<|Aa<|Aj<|AW I h (fun P5 h=>?_) (fun P5 h=>?_)
 refine Aq<|Aj<|Av<|Ae<|bk h fun Q0 B7 h=>?_
 obtain ⟨M8,W8,C6,G6,b9,z7,X6⟩:=Be (AG h0_0 D2) B7
 obtain rfl:=aF z7
 refine Ab (Bf 32 D0 I C6 I I G6)<|Ab (AA I X6)<|RG.nl [vW 0,vW 0,vW 0,vW 0,vW 0,vW 0,vW 0,vW 0,vW 0,vW 0,vW 0,vW 0,vW 0,vW 0,vW 0,vW 0,vW 0,vW 0,vW 0,vW 0,vW 0,vW 0,vW 0,vW 0,vW 0,vW 0,vW 0,vW 0,vW 0,vW 0,vW 0,vW 0] D2 fun U9 U8 Z5 c5=>AT (av Q0) Z5 .hd (ai I) fun V9 E2 d5=>Aa<|du 3 fun x0 A4=>Rv 1 x0 I A4 (fun _=>Al I)<|Rx 2 56 x0 I A4 (AA I (E2.memA .hd))<|BN [0,3] (rk x0) ⟨?_,?_,trivial⟩
 refine RO.val (m' :=7) (sk x0) I .plain I (AA I (E2.memA .t1))<|BJ (i:=3) (rk x0) (RO.enterPT (m' :=15) (fst:=[]) (cap:=[vP V0]) (vs:=[.agg ((av Q0)).toArray]) (sk x0) I I .plain (bd 138) func138 I I I I (e1 I) I (fun _ R5 M3 u7=>?_))
 refine Ae<|RG.bx E2 I I fun B8 I5 Y2 q3=>RG.nl [.bool false,vN,.bool false,vN] Y2 fun C8 J5 F0 s3=>Aa<|Aj<|du 8 fun g0 M0=>Rx 0 482 g0 I M0 (AA I (F0.memA .t1))<|Rx 2 448 g0 I M0 (Bn I ((F0.memA .t6) 0 _ I))<|Rv 3 g0 I M0 (fun _=>Bh 0 I)<|Rx 4 480 g0 I M0 (AQ (cs:=(ab Q0.fm)) I I (ae (F0.memA .t1) 0 16))<|bk h fun G4 t4 h=>AZ 1 31 g0 I .plain (bd 66) I (e1 I) (fun p q=>bb_c n (F0.hL hL q) Q0 t4) I fun D8 d8 F3 ⟨P7,Q7,hu_,X3,Y3⟩=>?_
 subst hu_
 obtain ⟨J1,u3⟩:=F0.agr F3
 refine bk h fun H4 u4 h=>AZ 5 63 g0 I .plain (bd 68) I (e1 I) (fun p q=>al_c n (J1.hL hL q) Q0.fm u4) I fun E8 g8 G3 ⟨R7,U7,hu_,Z3,b4⟩=>?_
 subst hu_
 obtain ⟨K1,j1⟩:=J1.agr G3
 refine bk h fun I4 v4 h=>AZ 6 127 g0 I .plain (bd 76) I (e1 I) (fun p q=>cH_c n (K1.hL hL q) H4 (Ah Z3 q) (Ah b4 q) v4) I fun F8 j8 H3 ⟨V7,W7,hu_,c4,g4⟩=>?_
 subst hu_
 obtain ⟨M1,k1⟩:=K1.agr H3
 refine bk h fun u0 x4 h=>?_
 have Y6:=Af X3 (Tt j1 k1)
 have Z6:=Af Y3 (Tt j1 k1)
 refine AZ 7 255 g0 I .plain (bd 80) I (e2 I I) (fun p q=>av_c n (M1.hL hL q) G4 (Ah Y6 q) (Ah Z6 q) I4 (Ah c4 q) (Ah g4 q) x4) I fun G8 k8 I3 ⟨B1,C1,hu_,d2,g2⟩=>?_
 subst hu_
 obtain ⟨Z2,v3⟩:=M1.agr I3
 refine BC 8 511 g0 I I .plain (AD (news:=[.bool u0.fj.fc,B1,.bool u0.fh.fc,C1]) Z2 .hd I I I I I I (o4 I (Az d2) I (Az g2))) fun H8 Y0 p1=>AN (dk g0)<|Ar I<|Au (u:=.agg #[.bool u0.fj.fc,B1,.bool u0.fh.fc,C1]) M3 func138 I (.cons (.many (cs:=[.bool u0.fj.fc,B1,.bool u0.fh.fc,C1]) I I (Y0.memA .hd)) .nil) I<|bk h fun B0 y4 h=>?_
 have v1:=Tt c5 (Tt d5 (Tt q3 (Tt s3 (Tt u3 (Tt j1 (Tt k1 (Tt v3 p1)))))))
 have b7:=Af x1 v1
 have c7:=Af y1 v1
 have d7:=Af d2 p1
 have g7:=Af g2 p1
 refine AZ 4 31 x0 I .plain (bd 81) I (e2 I I) (fun p q=>ab_c n (Y0.hL hL q) (⟨(⟨c0,H0⟩:Tf),(⟨d0,I0⟩:Tf)⟩:Td) (Ah b7 q) (Ah c7 q) u0 (Ah d7 q) (Ah g7 q) y4) I fun I8 p8 J3 ⟨s2,u2,hu_,j2,k2⟩=>?_
 subst hu_
 obtain ⟨b3,x3⟩:=Y0.agr J3
 refine BC 5 63 x0 I I .plain (AD (news:=[.bool B0.fj.fc,s2,.bool B0.fh.fc,u2]) b3 .t3 I I I I I I (o4 I (Az j2) I (Az k2))) fun J8 c3 q1=>AN (dk x0)<|Aw<|Am<|Ab (Bc (i:=D0) (j:=1) I I (by omega))<|Ac I<|Aa ?_
 obtain ⟨g3,s1⟩:=AB c3 .d3
 have j7:=Af j2 (Tt q1 s1)
 have k7:=Af k2 (Tt q1 s1)
 have x7:=Tt v1 (Tt x3 (Tt q1 s1))
 exact K4 (D0 + 1,B0.fj.fc,B0.fj.fk,B0.fh.fc,B0.fh.fk,s2,u2) g3 (Tt b5 x7) ⟨j7,k7⟩ h
 refine RO.enterPT (m' :=14) (fst:=[]) (cap:=[vP V0]) (vs:=[.agg ((av Q0)).toArray]) (sk x0) I I .plain (bd 138) func138 I I I I (e1 I) I fun _ R5 M3 u7=>Ae<|RG.bx E2 I I fun B8 I5 Y2 q3=>RG.nl [.bool false,vN,.bool false,vN] Y2 fun C8 J5 F0 s3=>Aa<|Aj<|du 8 fun g0 M0=>Rx 0 482 g0 I M0 (AA I (F0.memA .t1))<|Rx 2 448 g0 I M0 (Bn I ((F0.memA .t6) 0 _ I))<|Rv 3 g0 I M0 (fun _=>Bh 0 I)<|Rx 4 480 g0 I M0 (AQ (cs:=(ab Q0.fm)) I I (ae (F0.memA .t1) 0 16))<|bk h fun G4 t4 h=>AZ 1 31 g0 I .plain (bd 66) I (e1 I) (fun p q=>bb_c n (F0.hL hL q) Q0 t4) I fun D8 d8 F3 ⟨P7,Q7,hu_,X3,Y3⟩=>?_
 subst hu_
 obtain ⟨J1,u3⟩:=F0.agr F3
 refine bk h fun H4 u4 h=>AZ 5 63 g0 I .plain (bd 68) I (e1 I) (fun p q=>al_c n (J1.hL hL q) Q0.fm u4) I fun E8 g8 G3 ⟨R7,U7,hu_,Z3,b4⟩=>?_
 subst hu_
 obtain ⟨K1,j1⟩:=J1.agr G3
 refine bk h fun I4 v4 h=>AZ 6 127 g0 I .plain (bd 76) I (e1 I) (fun p q=>cH_c n (K1.hL hL q) H4 (Ah Z3 q) (Ah b4 q) v4) I fun F8 j8 H3 ⟨V7,W7,hu_,c4,g4⟩=>?_
 subst hu_
 obtain ⟨M1,k1⟩:=K1.agr H3
 refine bk h fun u0 x4 h=>AZ 7 255 g0 I .plain (bd 80) I (e2 I I) (fun p q=>av_c n (M1.hL hL q) G4 (Ah (Af X3 (Tt j1 k1)) q) (Ah (Af Y3 (Tt j1 k1)) q) I4 (Ah c4 q) (Ah g4 q) x4) I fun G8 k8 I3 ⟨B1,C1,hu_,d2,g2⟩=>?_
 subst hu_
 obtain ⟨Z2,v3⟩:=M1.agr I3
 refine BC 8 511 g0 I I .plain (AD (news:=[.bool u0.fj.fc,B1,.bool u0.fh.fc,C1]) Z2 .hd I I I I I I (o4 I (Az d2) I (Az g2))) fun H8 Y0 p1=>AN (dk g0)<|Ar I<|Au (u:=.agg #[.bool u0.fj.fc,B1,.bool u0.fh.fc,C1]) M3 func138 I (.cons (.many (cs:=[.bool u0.fj.fc,B1,.bool u0.fh.fc,C1]) I I (Y0.memA .hd)) .nil) I<|Rx 0 48 x0 I A4 (AA I (Y0.memA .t3))<|bk h fun B0 y4 h=>?_
 have v1:=Tt c5 (Tt d5 (Tt q3 (Tt s3 (Tt u3 (Tt j1 (Tt k1 (Tt v3 p1)))))))
 refine AZ 4 31 x0 I .plain (bd 81) I (e2 I I) (fun p q=>ab_c n (Y0.hL hL q) (⟨(⟨c0,H0⟩:Tf),(⟨d0,I0⟩:Tf)⟩:Td) (Ah (Af x1 v1) q) (Ah (Af y1 v1) q) u0 (Ah (Af d2 p1) q) (Ah (Af g2 p1) q) y4) I fun I8 p8 J3 ⟨s2,u2,hu_,j2,k2⟩=>?_
 subst hu_
 obtain ⟨b3,x3⟩:=Y0.agr J3
 refine BC 5 63 x0 I I .plain (AD (news:=[.bool B0.fj.fc,s2,.bool B0.fh.fc,u2]) b3 .t3 I I I I I I (o4 I (Az j2) I (Az k2))) fun J8 c3 q1=>AN (dk x0)<|Aw<|Am<|Ab (Bc (i:=D0) (j:=1) I I (by omega))<|Ac I<|Aa ?_
 obtain ⟨g3,s1⟩:=AB c3 .d3
 exact K4 (D0 + 1,B0.fj.fc,B0.fj.fk,B0.fh.fc,B0.fh.fk,s2,u2) g3 (Tt b5 (Tt v1 (Tt x3 (Tt q1 s1)))) ⟨(Af j2 (Tt q1 s1)),(Af k2 (Tt q1 s1))⟩ h
 refine Ba I ?_
 have h:=E6 _ h
 try dsimp only at h
 refine Ae<|Ab (AA I (D2.memA .hd))<|AT [.bool c0,j0,.bool d0,p0] D2 .t1 (o4 I (Az x1) I (Az y1)) fun Y9 V4 y3=>Aa<|Ar I<|Au (u:=.agg #[.bool c0,j0,.bool d0,p0]) y6 func70 I (.cons (.many (cs:=[.bool c0,j0,.bool d0,p0]) I I (V4.memA .t1)) .nil) I<|AT [.bool c0,j0,.bool d0,p0] V4 .t2 (o4 I (Az (Af x1 y3)) I (Az (Af y1 y3))) fun Z9 W4 q6=>Aa<|Ar I<|Au (u:=.agg #[.bool c0,j0,.bool d0,p0]) x6 func75 I (.cons (.many (cs:=[.bool c0,j0,.bool d0,p0]) I I (W4.memA .t2)) .nil) I<|RG.nl [.bool false,vN,.bool false,vN] W4 fun b00 G0 c6 s6=>?_
 have K2:=Tt y3 (Tt q6 s6)
 refine AT [.bool c0,j0,.bool d0,p0] c6 .hd (o4 I (Az (Af x1 K2)) I (Az (Af y1 K2))) fun c00 d6 j5=>Aa<|Ae<|Ac I<|Ab (FV.makeFunc (vs:=[]) (us:=[vP G0]) ap (e1 I))<|BD (fst:=[]) (cap:=[]) (vs:=[v0_0,.func (.func 78) #[] #[vP G0]]) .plain (bd 75) func75 I I I I (e2 I I) I fun c9 z6 y9=>Ae<|RG.bx d6 I I fun d00 W0 g6 k5=>RG.nl [.bool false,vN,.bool false,vN] g6 fun g00 Q2 j6 p5=>Aa<|Ae<|Ac I<|Ab (FV.makeFunc (vs:=[]) (us:=[vP W0]) ap (e1 I))<|BD (fst:=[]) (cap:=[]) (vs:=[v0_0,.func (.func 138) #[] #[vP W0]]) .plain (bd 70) func70 I I I I (e2 I I) I fun d9 A6 z9=>Ae<|RG.nl [.bool false,vN,.bool false,vN] j6 fun j00 y2 X4 q5=>Aa<|Ae<|bk h fun F1 F7 h=>jE (bd 71) I (e1 I) (fun p q=>aI_c n (X4.hL hL q)  F7) I fun k00 D9 v6 ⟨D5,E5,hu_,z5,A5⟩=>?_
 subst hu_
 obtain ⟨k6,s5⟩:=X4.agr v6
 refine RG.nl [.bool false,vN,.bool false,vN] k6 fun p00 z2 p6 U1=>AT [.bool F1.fj.fc,D5,.bool F1.fh.fc,E5] p6 .hd (o4 I (Az (Af z5 U1)) I (Az (Af A5 U1))) fun q00 Y4 z3=>Aa<|Aj<|Ae<|Ac I<|Ab (AY (xs:=a0) underlying23 I (AG h0_0 Y4))<|Ac I<|Aa<|Av ?_
 obtain ⟨U5,j3⟩:=AB Y4 (.a0 (.a0 (.a0 (.a0 (.a0 .d4)))))
 have v5:=Tt U1 (Tt z3 j3)
 obtain ⟨A9,p7,D6⟩:=am h
 refine BR (α:=Nat × Bool × (Lb Ua) × Bool × (Lb Ua) × Vc × Vc) (fun ⟨C0,q0,R0,s0,U0,y0,z0⟩=>[(1,.func (.func 138) #[] #[vP W0]),(4,vP y2),(5,vP z2),(9,v0_0),(10,vn a0.length),(11,vn C0)]) (fun ⟨C0,q0,R0,s0,U0,y0,z0⟩=>[.cells z2 [.bool q0,y0,.bool s0,z0] 109,.cells y2 [.bool false,vN,.bool false,vN] 109,.cells Q2 [.bool false,vN,.bool false,vN] 109,.cells W0 [.func (.func 78) #[] #[vP G0]] 119,.cells G0 [.bool c0,j0,.bool d0,p0] 109,.cells D1 zL 34]) (fun ⟨C0,q0,R0,s0,U0,y0,z0⟩ B4=>Rep.R B4 (bl [.cells z2 [.bool q0,y0,.bool s0,z0] 109,.cells y2 [.bool false,vN,.bool false,vN] 109,.cells Q2 [.bool false,vN,.bool false,vN] 109,.cells W0 [.func (.func 78) #[] #[vP G0]] 119,.cells G0 [.bool c0,j0,.bool d0,p0] 109,.cells D1 zL 34] ++ L) [y0] R0/\Rep.R B4 (bl [.cells z2 [.bool q0,y0,.bool s0,z0] 109,.cells y2 [.bool false,vN,.bool false,vN] 109,.cells Q2 [.bool false,vN,.bool false,vN] 109,.cells W0 [.func (.func 78) #[] #[vP G0]] 119,.cells G0 [.bool c0,j0,.bool d0,p0] 109,.cells D1 zL 34] ++ L) [z0] U0) (fun ⟨C0,q0,R0,s0,U0,y0,z0⟩=>(C0,q0,R0,s0,U0)) (0,F1.fj.fc,F1.fj.fk,F1.fh.fc,F1.fh.fk,D5,E5) p7 U5 ⟨(Af z5 v5),(Af A5 v5)⟩ ?_
 rintro P8 ⟨C0,q0,R0,s0,U0,y0,z0⟩ B4 J4 B2 F2 ⟨W1,X1⟩ h
 unfold bR_l1 at h
 try dsimp only at h
 refine Ae<|Ab (AU (i:=C0) (j:=a0.length) I I)<|Aa<|Aj<|AW I h (fun K5 h=>?_) (fun K5 h=>?_)
 refine Aq<|Aj<|Av<|Ae<|bk h fun P0 A7 h=>?_
 obtain ⟨K8,V8,B6,F6,X8,y7,H6⟩:=Be (AG h0_0 B2) A7
 obtain rfl:=aF y7
 refine Ab (Bf 32 C0 I B6 I I F6)<|Ab (AA I H6)<|RG.nl [vW 0,vW 0,vW 0,vW 0,vW 0,vW 0,vW 0,vW 0,vW 0,vW 0,vW 0,vW 0,vW 0,vW 0,vW 0,vW 0,vW 0,vW 0,vW 0,vW 0,vW 0,vW 0,vW 0,vW 0,vW 0,vW 0,vW 0,vW 0,vW 0,vW 0,vW 0,vW 0] B2 fun F9 R8 V5 G2=>AT (av P0) V5 .hd (ai I) fun G9 C2 H2=>Aa<|du 3 fun v0 z4=>Rv 1 v0 I z4 (fun _=>Al I)<|Rx 2 56 v0 I z4 (AA I (C2.memA .hd))<|BN [0,3] (rk v0) ⟨?_,?_,trivial⟩
 refine RO.val (m' :=7) (sk v0) I .plain I (AA I (C2.memA .t1))<|BJ (i:=3) (rk v0) (RO.enterPT (m' :=15) (fst:=[]) (cap:=[vP W0]) (vs:=[.agg ((av P0)).toArray]) (sk v0) I I .plain (bd 138) func138 I I I I (e1 I) I (fun _ Q5 K3 s7=>?_))
 refine Ae<|RG.bx C2 I I fun q8 G5 R2 P1=>RG.nl [.bool false,vN,.bool false,vN] R2 fun s8 H5 E0 Q1=>Aa<|Aj<|du 8 fun b0 K0=>Rx 0 482 b0 I K0 (AA I (E0.memA .t1))<|Rx 2 448 b0 I K0 (Bn I ((E0.memA .t6) 0 _ I))<|Rv 3 b0 I K0 (fun _=>Bh 0 I)<|Rx 4 480 b0 I K0 (AQ (cs:=(ab P0.fm)) I I (ae (E0.memA .t1) 0 16))<|bk h fun D4 j4 h=>AZ 1 31 b0 I .plain (bd 66) I (e1 I) (fun p q=>bb_c n (E0.hL hL q) P0 j4) I fun t8 X7 A3 ⟨G7,H7,hu_,P3,Q3⟩=>?_
 subst hu_
 obtain ⟨G1,R1⟩:=E0.agr A3
 refine bk h fun E4 k4 h=>AZ 5 63 b0 I .plain (bd 68) I (e1 I) (fun p q=>al_c n (G1.hL hL q) P0.fm k4) I fun u8 Y7 B3 ⟨I7,J7,hu_,R3,U3⟩=>?_
 subst hu_
 obtain ⟨Z0,J0⟩:=G1.agr B3
 refine bk h fun F4 p4 h=>?_
 have V1:=Tt K2 (Tt j5 (Tt k5 (Tt p5 (Tt q5 (Tt s5 (Tt U1 (Tt z3 (Tt j3 (Tt F2 (Tt G2 (Tt H2 (Tt P1 (Tt Q1 (Tt R1 J0))))))))))))))
 have I6:=Af x1 V1
 have J6:=Af y1 V1
 refine BJ (i:=6) (rk b0) (RO.call (m' :=127) (fst:=[]) (cap:=[vP G0]) (sk b0) I .plain (bd 78) I (e1 I) (fun p q=>cD_c n (Z0.hL hL q) E4 (Ah R3 q) (Ah U3 q) (⟨(⟨c0,H0⟩:Tf),(⟨d0,I0⟩:Tf)⟩:Td) (Ah I6 q) (Ah J6 q) (aI q (Z0.memA .t7)) p4) I (fun v8 Z7 C3 ⟨K7,M7,hu_,V3,W3⟩=>?_))
 subst hu_
 obtain ⟨H1,b1⟩:=Z0.agr C3
 refine bk h fun t0 q4 h=>?_
 have K6:=Af P3 (Tt J0 b1)
 have M6:=Af Q3 (Tt J0 b1)
 refine AZ 7 255 b0 I .plain (bd 80) I (e2 I I) (fun p q=>av_c n (H1.hL hL q) D4 (Ah K6 q) (Ah M6 q) F4 (Ah V3 q) (Ah W3 q) q4) I fun x8 b8 D3 ⟨z1,A1,hu_,Y1,Z1⟩=>?_
 subst hu_
 obtain ⟨U2,k3⟩:=H1.agr D3
 refine BC 8 511 b0 I I .plain (AD (news:=[.bool t0.fj.fc,z1,.bool t0.fh.fc,A1]) U2 .hd I I I I I I (o4 I (Az Y1) I (Az Z1))) fun y8 X0 c1=>AN (dk b0)<|Ar I<|Au (u:=.agg #[.bool t0.fj.fc,z1,.bool t0.fh.fc,A1]) K3 func138 I (.cons (.many (cs:=[.bool t0.fj.fc,z1,.bool t0.fh.fc,A1]) I I (X0.memA .hd)) .nil) I<|bk h fun A0 s4 h=>?_
 have u1:=Tt G2 (Tt H2 (Tt P1 (Tt Q1 (Tt R1 (Tt J0 (Tt b1 (Tt k3 c1)))))))
 have P6:=Af W1 u1
 have Q6:=Af X1 u1
 have R6:=Af Y1 c1
 have U6:=Af Z1 c1
 refine AZ 4 31 v0 I .plain (bd 81) I (e2 I I) (fun p q=>ab_c n (X0.hL hL q) (⟨(⟨q0,R0⟩:Tf),(⟨s0,U0⟩:Tf)⟩:Td) (Ah P6 q) (Ah Q6 q) t0 (Ah R6 q) (Ah U6 q) s4) I fun z8 c8 E3 ⟨p2,q2,hu_,b2,c2⟩=>?_
 subst hu_
 obtain ⟨V2,p3⟩:=X0.agr E3
 refine BC 5 63 v0 I I .plain (AD (news:=[.bool A0.fj.fc,p2,.bool A0.fh.fc,q2]) V2 .t3 I I I I I I (o4 I (Az b2) I (Az c2))) fun A8 W2 d1=>AN (dk v0)<|Aw<|Am<|Ab (Bc (i:=C0) (j:=1) I I (by omega))<|Ac I<|Aa ?_
 obtain ⟨X2,g1⟩:=AB W2 .d3
 have V6:=Af b2 (Tt d1 g1)
 have W6:=Af c2 (Tt d1 g1)
 have v7:=Tt u1 (Tt p3 (Tt d1 g1))
 exact J4 (C0 + 1,A0.fj.fc,A0.fj.fk,A0.fh.fc,A0.fh.fk,p2,q2) X2 (Tt F2 v7) ⟨V6,W6⟩ h
 refine RO.enterPT (m' :=14) (fst:=[]) (cap:=[vP W0]) (vs:=[.agg ((av P0)).toArray]) (sk v0) I I .plain (bd 138) func138 I I I I (e1 I) I fun _ Q5 K3 s7=>Ae<|RG.bx C2 I I fun q8 G5 R2 P1=>RG.nl [.bool false,vN,.bool false,vN] R2 fun s8 H5 E0 Q1=>Aa<|Aj<|du 8 fun b0 K0=>Rx 0 482 b0 I K0 (AA I (E0.memA .t1))<|Rx 2 448 b0 I K0 (Bn I ((E0.memA .t6) 0 _ I))<|Rv 3 b0 I K0 (fun _=>Bh 0 I)<|Rx 4 480 b0 I K0 (AQ (cs:=(ab P0.fm)) I I (ae (E0.memA .t1) 0 16))<|bk h fun D4 j4 h=>AZ 1 31 b0 I .plain (bd 66) I (e1 I) (fun p q=>bb_c n (E0.hL hL q) P0 j4) I fun t8 X7 A3 ⟨G7,H7,hu_,P3,Q3⟩=>?_
 subst hu_
 obtain ⟨G1,R1⟩:=E0.agr A3
 refine bk h fun E4 k4 h=>AZ 5 63 b0 I .plain (bd 68) I (e1 I) (fun p q=>al_c n (G1.hL hL q) P0.fm k4) I fun u8 Y7 B3 ⟨I7,J7,hu_,R3,U3⟩=>?_
 subst hu_
 obtain ⟨Z0,J0⟩:=G1.agr B3
 refine bk h fun F4 p4 h=>?_
 have V1:=Tt K2 (Tt j5 (Tt k5 (Tt p5 (Tt q5 (Tt s5 (Tt U1 (Tt z3 (Tt j3 (Tt F2 (Tt G2 (Tt H2 (Tt P1 (Tt Q1 (Tt R1 J0))))))))))))))
 refine BJ (i:=6) (rk b0) (RO.call (m' :=127) (fst:=[]) (cap:=[vP G0]) (sk b0) I .plain (bd 78) I (e1 I) (fun p q=>cD_c n (Z0.hL hL q) E4 (Ah R3 q) (Ah U3 q) (⟨(⟨c0,H0⟩:Tf),(⟨d0,I0⟩:Tf)⟩:Td) (Ah (Af x1 V1) q) (Ah (Af y1 V1) q) (aI q (Z0.memA .t7)) p4) I (fun v8 Z7 C3 ⟨K7,M7,hu_,V3,W3⟩=>?_))
 subst hu_
 obtain ⟨H1,b1⟩:=Z0.agr C3
 refine bk h fun t0 q4 h=>AZ 7 255 b0 I .plain (bd 80) I (e2 I I) (fun p q=>av_c n (H1.hL hL q) D4 (Ah (Af P3 (Tt J0 b1)) q) (Ah (Af Q3 (Tt J0 b1)) q) F4 (Ah V3 q) (Ah W3 q) q4) I fun x8 b8 D3 ⟨z1,A1,hu_,Y1,Z1⟩=>?_
 subst hu_
 obtain ⟨U2,k3⟩:=H1.agr D3
 refine BC 8 511 b0 I I .plain (AD (news:=[.bool t0.fj.fc,z1,.bool t0.fh.fc,A1]) U2 .hd I I I I I I (o4 I (Az Y1) I (Az Z1))) fun y8 X0 c1=>AN (dk b0)<|Ar I<|Au (u:=.agg #[.bool t0.fj.fc,z1,.bool t0.fh.fc,A1]) K3 func138 I (.cons (.many (cs:=[.bool t0.fj.fc,z1,.bool t0.fh.fc,A1]) I I (X0.memA .hd)) .nil) I<|Rx 0 48 v0 I z4 (AA I (X0.memA .t3))<|bk h fun A0 s4 h=>?_
 have u1:=Tt G2 (Tt H2 (Tt P1 (Tt Q1 (Tt R1 (Tt J0 (Tt b1 (Tt k3 c1)))))))
 refine AZ 4 31 v0 I .plain (bd 81) I (e2 I I) (fun p q=>ab_c n (X0.hL hL q) (⟨(⟨q0,R0⟩:Tf),(⟨s0,U0⟩:Tf)⟩:Td) (Ah (Af W1 u1) q) (Ah (Af X1 u1) q) t0 (Ah (Af Y1 c1) q) (Ah (Af Z1 c1) q) s4) I fun z8 c8 E3 ⟨p2,q2,hu_,b2,c2⟩=>?_
 subst hu_
 obtain ⟨V2,p3⟩:=X0.agr E3
 refine BC 5 63 v0 I I .plain (AD (news:=[.bool A0.fj.fc,p2,.bool A0.fh.fc,q2]) V2 .t3 I I I I I I (o4 I (Az b2) I (Az c2))) fun A8 W2 d1=>AN (dk v0)<|Aw<|Am<|Ab (Bc (i:=C0) (j:=1) I I (by omega))<|Ac I<|Aa ?_
 obtain ⟨X2,g1⟩:=AB W2 .d3
 exact J4 (C0 + 1,A0.fj.fc,A0.fj.fk,A0.fh.fc,A0.fh.fk,p2,q2) X2 (Tt F2 (Tt u1 (Tt p3 (Tt d1 g1)))) ⟨(Af b2 (Tt d1 g1)),(Af c2 (Tt d1 g1))⟩ h
 refine Ba I ?_
 have h:=D6 _ h
 try dsimp only at h
 refine Ae<|Ab (AA I (B2.memA .hd))<|AT [.bool q0,y0,.bool s0,z0] B2 .t1 (o4 I (Az W1) I (Az X1)) fun H9 M4 I2=>Aa<|Ar I<|Au (u:=.agg #[.bool q0,y0,.bool s0,z0]) A6 func70 I (.cons (.many (cs:=[.bool q0,y0,.bool s0,z0]) I I (M4.memA .t1)) .nil) I<|AT [.bool q0,y0,.bool s0,z0] M4 .t2 (o4 I (Az (Af W1 I2)) I (Az (Af X1 I2))) fun I9 I1 Z4=>Aa<|Ar I<|Au (u:=.agg #[.bool q0,y0,.bool s0,z0]) z6 func75 I (.cons (.many (cs:=[.bool q0,y0,.bool s0,z0]) I I (I1.memA .t2)) .nil) I<|bk h fun M2 C7 h=>Bj (.tuple #[.agg ((ab M2.1)).toArray,vI M2.2]) (bd 77) I (e1 I) (fun p q=>ac_c n (I1.hL0 hL q) (⟨(⟨q0,R0⟩:Tf),(⟨s0,U0⟩:Tf)⟩:Td) (I1.kd (Af W1 (Tt I2 Z4)) q) (I1.kd (Af X1 (Tt I2 Z4)) q) C7) I<|Ab (Ai I I)<|Ab (Ai I I)<|AT (ab M2.1) I1 .t5 (ai I) fun J9 P4 j9=>Ag I<|Aa<|Ar I<|Au hb0 func20 I (.cons (.many (cs:=(ab M2.1)) I I (P4.memA .t5)) (.cons (.tmp I) .nil)) I ?_
 cases h
 exact P4.gv
 refine Ae<|Ab (AS (vs:=[]) (u:=.agg zM) ap (fun p=>by kernel_rfl))<|Ac I<|AT zL A2 .hd (ai I) fun K9 Q4 k9=>Ag I<|Aa<|Ar I<|Au hb0 func20 I (.cons (.many (cs:=zL) I I (Q4.memA .hd)) (.cons (.tmp I) .nil)) I ?_
 cases h
 exact Q4.gv
def cK_p (n:Nat) (a0:Lb Ta):Oa Bool:=
  (aQ_p n a0).bind fun y1=>some (!(decide (y1 = 0)))
theorem cK_c (n:Nat) {L w} (hL:hl L w) {a0:Lb Ta} {v0_0:Vc} (h0_0:Rep.R w L [v0_0] a0)  {r:Bool} (h:cK_p n a0 = some r) :
 Cl 129 #[v0_0] w (aj w fun _ u=>u = .bool r):=by
 unfold cK_p at h
 have hS0:=AK w
 refine AL func129 I I I fun _ cs0 hb0=>Ae<|Ag I<|Aa<|Ae<|Ac I<|bk h fun y1 hy1 h=>Bj (vI y1) (bd 16) I (e1 I) (fun p q=>aQ_c n (hS0.hL0 hL q) (hS0.kd h0_0 q) hy1) I<|Ab (BB (i:=y1) (j:=0) I I)<|Ag I<|Aa<|Ar I<|Bb hb0 func129 I I ?_
 cases h
 exact hS0.gv
def cq_p (n:Nat) (a0:Tb):Oa Bool:=
  (bT_p n a0).bind fun b0=>some (!(decide (b0 = 0)))
theorem cq_c (n:Nat) {L w} (hL:hl L w) (a0:Tb)  {r:Bool} (h:cq_p n a0 = some r) :
 Cl 130 #[.agg ((ab a0)).toArray] w (aj w fun _ u=>u = .bool r):=by
 unfold cq_p at h
 refine AL func130 I I I fun _ cs0 hb0=>Ae<|RG.bx (AK w) I I fun k0 g0 b0 j0=>Ag I<|Aa<|Ae<|Ab (AA I (b0.memA .hd))<|bk h fun c0 d0 h=>Bj (vI c0) (bd 65) I (e1 I) (fun p q=>bT_c n (b0.hL0 hL q) a0 d0) I<|Ab (BB (i:=c0) (j:=0) I I)<|Ag I<|Aa<|Ar I<|Bb hb0 func130 I I ?_
 cases h
 exact b0.gv
def au_l1 (n:Nat) (a1:Lb Tb) (c0:Nat -> Oa (Int ⊕ Unit)):Nat -> Oa (Int ⊕ Unit)
  | b0=>(if b0 < a1.length then (a1[b0]?).bind fun d0=>(cq_p n d0).bind fun g0=>(if g0 = true then ((if 0 <= b0 then some (20:Int) else some (0:Int))).map .inl else c0 (b0 + 1)) else some (.inr ()))
def au_l2 (n:Nat) (a1:Lb Tb) (c0:Nat -> Oa (Int ⊕ Unit)):Nat -> Oa (Int ⊕ Unit)
  | b0=>(if b0 < a1.length then (a1[b0]?).bind fun d0=>(cq_p n d0).bind fun g0=>(if g0 = true then ((if 0 <= b0 then some (20:Int) else some (0:Int))).map .inl else c0 (b0 + 1)) else some (.inr ()))
def au_l3 (n:Nat) (a0:Lb (Lb Ta)) (a1:Lb Tb) (c0:Nat -> Oa (Int ⊕ Unit)):Nat -> Oa (Int ⊕ Unit)
  | b0=>(if b0 < a0.length then (a0[b0]?).bind fun d0=>(cK_p n d0).bind fun g0=>(if g0 = true then ((if 0 <= b0 then some (50:Int) else thn (ao (au_l1 n a1) n 0) (fun _=>(if 0 <= (-1) then some (20:Int) else some (0:Int))))).map .inl else c0 (b0 + 1)) else some (.inr ()))
def au_p (n:Nat) (a0:Lb (Lb Ta)) (a1:Lb Tb):Oa Int:=
  thn (ao (au_l3 n a0 a1) n 0) (fun _=>(if 0 <= (-1) then some (50:Int) else thn (ao (au_l2 n a1) n 0) (fun _=>some (0:Int))))
theorem au_c (n:Nat) {L w} (hL:hl L w) {a0:Lb (Lb Ta)} {v0_0:Vc} (h0_0:Rep.R w L [v0_0] a0) {a1:Lb Tb} {v1_0:Vc} (h1_0:Rep.R w L [v1_0] a1)  {r:Int} (h:au_p n a0 a1 = some r) :
 Cl 63 #[v0_0,v1_0] w (aj w fun _ u=>u = vI r):=by
 unfold au_p at h
 refine AL func63 I I I fun _ cs0 hb0=>Ae<|Ag I<|Aa<|Aj<|Ae<|Ac I<|BD (fst:=[]) (cap:=[]) (vs:=[v0_0,.func (.func 129) #[] #[]]) .plain (bd 128) func128 I I I I (e2 I I) I fun cs2 hb1 hp3=>Ae<|Ag I<|Aa<|Ae<|Ac I<|Ac I<|BD (fst:=[]) (cap:=[]) (vs:=[v0_0,.func (.func 129) #[] #[]]) .plain (bd 162) func162 I I I I (e2 I I) I fun cs5 hb4 hp6=>Ae<|Ag I<|Aa<|Aj<|Ae<|Ac I ?_
 have hl7:=AX h0_0
 refine Ab (AY (xs:=a0) underlying57 I h0_0)<|Ac I<|Aa<|Av<|tn h fun v2 p1 x0=>MX.lo (α:=Nat) (fun c0=>[(0,v0_0),(1,.func (.func 129) #[] #[]),(7,vn a0.length),(8,vn c0)]) (fun c0=>[]) (fun c0=>c0) 0 p1 (AK w) ?_
 rintro Q1 c0 A2 P0 g0 U0 h
 unfold au_l3 at h
 try dsimp only at h
 refine Ae<|Ab (AU (i:=c0) (j:=a0.length) I I)<|Aa<|Aj<|AW I h (fun E0 h=>?_) (fun E0 h=>?_)
 refine Aq<|Aj<|Av<|Ae<|Ac I<|Ag I<|Aa<|Ae<|Ac I<|Ac I<|Ac I<|bk h fun C2 z1 h=>?_
 obtain ⟨K1,V1,X0,b1,b2,u1,g1⟩:=Be (AG h0_0 g0) z1
 obtain ⟨y2,rfl,v1⟩:=dz u1
 refine Ab (Bf 1 c0 I X0 I I b1)<|Bd I (g1 0 _ I)<|bk h fun H1 C1 h=>Bj (.bool H1) (bd 129) I (e1 I) (fun p q=>cK_c n (g0.hL0 hL q) (g0.kd v1 q) C1) I<|Aa<|MX.ifb I h (fun F0 h=>?_) (fun F0 h=>?_)
 refine Ae<|Ac I<|Ag I<|Aa ?_
 have h:=gO h x0
 refine Ar I<|Au (u:=vn c0) hb4 func162 I (.cons (.tmp I) .nil) I<|Ab (FV.geqN (i:=c0) (j:=0) I I)<|Ag I<|Aa<|Ar I<|Au (u:=.bool (decide (0 <= c0))) hb1 func128 I (.cons (.tmp I) .nil) I<|Aa<|AW I h (fun G0 h=>?_) (fun G0 h=>?_)
 refine Ae<|Ag I<|Aa<|Ar I<|Bb hb0 func63 I I ?_
 cases h
 exact g0.gv
 refine Aq<|Aj<|Ae<|Ac I<|BD (fst:=[]) (cap:=[]) (vs:=[v1_0,.func (.func 130) #[] #[]]) .plain (bd 93) func93 I I I I (e2 I I) I fun c2 t0 s2=>Ae<|Ag I<|Aa<|Ae<|Ac I<|Ac I<|BD (fst:=[]) (cap:=[]) (vs:=[v1_0,.func (.func 130) #[] #[]]) .plain (bd 146) func146 I I I I (e2 I I) I fun d2 u0 t2=>Ae<|Ag I<|Aa<|Aj<|Ae<|Ac I ?_
 have A0:=AG h1_0 g0
 have k2:=AX A0
 refine Ab (AY (xs:=a1) underlying51 I A0)<|Ac I<|Aa<|Av<|tn h fun x2 q1 y0=>MX.lo (α:=Nat) (fun d0=>[(0,v1_0),(1,.func (.func 130) #[] #[]),(7,vn a1.length),(8,vn d0)]) (fun d0=>[]) (fun d0=>d0) 0 q1 g0 ?_
 rintro R1 d0 B2 Q0 j0 V0 h
 unfold au_l1 at h
 try dsimp only at h
 refine Ae<|Ab (AU (i:=d0) (j:=a1.length) I I)<|Aa<|Aj<|AW I h (fun H0 h=>?_) (fun H0 h=>?_)
 refine Aq<|Aj<|Av<|Ae<|Ac I<|Ag I<|Aa<|Ae<|Ac I<|Ac I<|Ac I<|bk h fun F1 A1 h=>?_
 obtain ⟨M1,W1,Y0,c1,g2,x1,j1⟩:=Be (AG h1_0 j0) A1
 obtain rfl:=dp x1
 refine Ab (Bf 16 d0 I Y0 I I c1)<|Ab (AA I j1)<|bk h fun I1 D1 h=>Bj (.bool I1) (bd 130) I (e1 I) (fun p q=>cq_c n (j0.hL0 hL q) F1 D1) I<|Aa<|MX.ifb I h (fun I0 h=>?_) (fun I0 h=>?_)
 refine Ae<|Ac I<|Ag I<|Aa ?_
 have h:=gO h y0
 refine Ar I<|Au (u:=vn d0) u0 func146 I (.cons (.tmp I) .nil) I<|Ab (FV.geqN (i:=d0) (j:=0) I I)<|Ag I<|Aa<|Ar I<|Au (u:=.bool (decide (0 <= d0))) t0 func93 I (.cons (.tmp I) .nil) I<|Aa<|AW I h (fun J0 h=>?_) (fun J0 h=>?_)
 refine Ae<|Ag I<|Aa<|Ar I<|Bb hb0 func63 I I ?_
 cases h
 exact j0.gv
 refine Aq<|Ae<|Ag I<|Aa<|Ar I<|Bb hb0 func63 I I ?_
 cases h
 exact j0.gv
 refine Aq<|Aw<|Am<|Ab (Bc (i:=d0) (j:=1) I I (by omega))<|Ac I<|Aa<|Q0 (d0 + 1) j0 V0 h
 refine Ba I ?_
 have h:=bq h y0
 try dsimp only at h
 refine Ae<|Ag I<|Aa<|Ar I<|Au (u:=vI (-1)) u0 func146 I (.cons (.tmp I) .nil) I<|Ab (FV.geq (i:=(-1)) (j:=0) I I)<|Ag I<|Aa<|Ar I<|Au (u:=.bool (decide (0 <= (-1)))) t0 func93 I (.cons (.tmp I) .nil) I<|Aa<|AW I h (fun K0 h=>?_) (fun K0 h=>?_)
 refine Ae<|Ag I<|Aa<|Ar I<|Bb hb0 func63 I I ?_
 cases h
 exact j0.gv
 refine Aq<|Ae<|Ag I<|Aa<|Ar I<|Bb hb0 func63 I I ?_
 cases h
 exact j0.gv
 refine Aq<|Aw<|Am<|Ab (Bc (i:=c0) (j:=1) I I (by omega))<|Ac I<|Aa<|P0 (c0 + 1) g0 U0 h
 refine Ba I ?_
 have h:=bq h x0
 try dsimp only at h
 refine Ae<|Ag I<|Aa<|Ar I<|Au (u:=vI (-1)) hb4 func162 I (.cons (.tmp I) .nil) I<|Ab (FV.geq (i:=(-1)) (j:=0) I I)<|Ag I<|Aa<|Ar I<|Au (u:=.bool (decide (0 <= (-1)))) hb1 func128 I (.cons (.tmp I) .nil) I<|Aa<|AW I h (fun p0 h=>?_) (fun p0 h=>?_)
 refine Ae<|Ag I<|Aa<|Ar I<|Bb hb0 func63 I I ?_
 cases h
 exact g0.gv
 refine Aq<|Aj<|Ae<|Ac I<|BD (fst:=[]) (cap:=[]) (vs:=[v1_0,.func (.func 130) #[] #[]]) .plain (bd 93) func93 I I I I (e2 I I) I fun X1 q0 p2=>Ae<|Ag I<|Aa<|Ae<|Ac I<|Ac I<|BD (fst:=[]) (cap:=[]) (vs:=[v1_0,.func (.func 130) #[] #[]]) .plain (bd 146) func146 I I I I (e2 I I) I fun Y1 s0 q2=>Ae<|Ag I<|Aa<|Aj<|Ae<|Ac I ?_
 have z0:=AG h1_0 g0
 have j2:=AX z0
 refine Ab (AY (xs:=a1) underlying51 I z0)<|Ac I<|Aa<|Av<|tn h fun u2 k1 v0=>MX.lo (α:=Nat) (fun b0=>[(0,v1_0),(1,.func (.func 130) #[] #[]),(7,vn a1.length),(8,vn b0)]) (fun b0=>[]) (fun b0=>b0) 0 k1 g0 ?_
 rintro P1 b0 z2 M0 k0 R0 h
 unfold au_l2 at h
 try dsimp only at h
 refine Ae<|Ab (AU (i:=b0) (j:=a1.length) I I)<|Aa<|Aj<|AW I h (fun B0 h=>?_) (fun B0 h=>?_)
 refine Aq<|Aj<|Av<|Ae<|Ac I<|Ag I<|Aa<|Ae<|Ac I<|Ac I<|Ac I<|bk h fun E1 y1 h=>?_
 obtain ⟨J1,U1,W0,Z0,Z1,s1,d1⟩:=Be (AG h1_0 k0) y1
 obtain rfl:=dp s1
 refine Ab (Bf 16 b0 I W0 I I Z0)<|Ab (AA I d1)<|bk h fun G1 B1 h=>Bj (.bool G1) (bd 130) I (e1 I) (fun p q=>cq_c n (k0.hL0 hL q) E1 B1) I<|Aa<|MX.ifb I h (fun C0 h=>?_) (fun C0 h=>?_)
 refine Ae<|Ac I<|Ag I<|Aa ?_
 have h:=gO h v0
 refine Ar I<|Au (u:=vn b0) s0 func146 I (.cons (.tmp I) .nil) I<|Ab (FV.geqN (i:=b0) (j:=0) I I)<|Ag I<|Aa<|Ar I<|Au (u:=.bool (decide (0 <= b0))) q0 func93 I (.cons (.tmp I) .nil) I<|Aa<|AW I h (fun D0 h=>?_) (fun D0 h=>?_)
 refine Ae<|Ag I<|Aa<|Ar I<|Bb hb0 func63 I I ?_
 cases h
 exact k0.gv
 refine Aq<|Ae<|Ag I<|Aa<|Ar I<|Bb hb0 func63 I I ?_
 cases h
 exact k0.gv
 refine Aq<|Aw<|Am<|Ab (Bc (i:=b0) (j:=1) I I (by omega))<|Ac I<|Aa<|M0 (b0 + 1) k0 R0 h
 refine Ba I ?_
 have h:=bq h v0
 try dsimp only at h
 refine Ae<|Ag I<|Aa<|Ar I<|Au (u:=vI (-1)) s0 func146 I (.cons (.tmp I) .nil) I<|Ab (FV.geq (i:=(-1)) (j:=0) I I)<|Ag I<|Aa<|Ar I<|Au (u:=.bool (decide (0 <= (-1)))) q0 func93 I (.cons (.tmp I) .nil) I<|Aa<|MX.cond_kf I (decide_eq_false p0)<|Aq<|Ae<|Ag I<|Aa<|Ar I<|Bb hb0 func63 I I ?_
 cases h
 exact k0.gv

theorem mc:ElT Tryz.prog 57 24 (Rep.size (Lb Ta)) 24 vN [vN]:=⟨underlying57,by kernel_rfl,rfl,rfl,rfl,rfl⟩
theorem iZ:ElT Tryz.prog 51 34 (Rep.size Tb) 128 (.agg zM) zL:=⟨underlying51,by kernel_rfl,rfl,rfl,rfl,rfl⟩
def bL_l1 (n:Nat) (a0:Lb Ta) (M0:Td) (g0:Nat × Ua × Ua × Ua × Ua × Ua × Ua × Ua × Ua × Ua × Ua × Ua × Ua × Ua × Ua × Ua × Ua × Bool × (Lb Ua) × Bool × (Lb Ua) -> Oa (U16)):Nat × Ua × Ua × Ua × Ua × Ua × Ua × Ua × Ua × Ua × Ua × Ua × Ua × Ua × Ua × Ua × Ua × Bool × (Lb Ua) × Bool × (Lb Ua) -> Oa (U16)
  | (d0,p0,q0,s0,t0,u0,v0,x0,y0,z0,A0,B0,C0,D0,E0,F0,G0,j0,H0,k0,I0)=>(if d0 < a0.length then (a0[d0]?).bind fun b0=>(bb_p n b0).bind fun J0=>(ab_p n (⟨(⟨j0,H0⟩:Tf),(⟨k0,I0⟩:Tf)⟩:Td) J0).bind fun c0=>(aK_p n c0 M0).bind fun K0=>(if 0 <= K0 then some (b0.fm.fN.1,b0.fm.fN.2.1,b0.fm.fN.2.2.1,b0.fm.fN.2.2.2.1,b0.fm.fN.2.2.2.2.1,b0.fm.fN.2.2.2.2.2.1,b0.fm.fN.2.2.2.2.2.2.1,b0.fm.fN.2.2.2.2.2.2.2,b0.fm.fD.1,b0.fm.fD.2.1,b0.fm.fD.2.2.1,b0.fm.fD.2.2.2.1,b0.fm.fD.2.2.2.2.1,b0.fm.fD.2.2.2.2.2.1,b0.fm.fD.2.2.2.2.2.2.1,b0.fm.fD.2.2.2.2.2.2.2) else g0 (d0 + 1,b0.fm.fN.1,b0.fm.fN.2.1,b0.fm.fN.2.2.1,b0.fm.fN.2.2.2.1,b0.fm.fN.2.2.2.2.1,b0.fm.fN.2.2.2.2.2.1,b0.fm.fN.2.2.2.2.2.2.1,b0.fm.fN.2.2.2.2.2.2.2,b0.fm.fD.1,b0.fm.fD.2.1,b0.fm.fD.2.2.1,b0.fm.fD.2.2.2.1,b0.fm.fD.2.2.2.2.1,b0.fm.fD.2.2.2.2.2.1,b0.fm.fD.2.2.2.2.2.2.1,b0.fm.fD.2.2.2.2.2.2.2,c0.fj.fc,c0.fj.fk,c0.fh.fc,c0.fh.fk)) else some (p0,q0,s0,t0,u0,v0,x0,y0,z0,A0,B0,C0,D0,E0,F0,G0))
def bL_p (n:Nat) (a0:Lb Ta) (a1:Tb):Oa (Tb × Int):=
  (au_p n ([a0]:Lb (Lb Ta)) ([a1]:Lb Tb)).bind fun d0=>(if d0 = 0 then (al_p n a1).bind fun c0=>(aY_p n c0.fj).bind fun F0=>(if F0 <= 0 then some ((⟨(0,0,0,0,0,0,0,0),(0,0,0,0,0,0,0,0)⟩:Tb),(2:Int)) else (aI_p n (1:Int)).bind fun G0=>(aK_p n c0 G0).bind fun H0=>(if 0 < H0 then some ((⟨(0,0,0,0,0,0,0,0),(0,0,0,0,0,0,0,0)⟩:Tb),(2:Int)) else (aI_p n (0:Int)).bind fun b0=>jn (fun (j0,k0,p0,q0,s0,t0,u0,v0,x0,y0,z0,A0,B0,C0,D0,E0)=>some ((⟨(j0,k0,p0,q0,s0,t0,u0,v0),(x0,y0,z0,A0,B0,C0,D0,E0)⟩:Tb),(0:Int))) (fun g0=>Option.bind (ao (bL_l1 n a0 c0) n (0,0,0,0,0,0,0,0,0,0,0,0,0,0,0,0,0,b0.fj.fc,b0.fj.fk,b0.fh.fc,b0.fh.fk)) (g0)))) else some ((⟨(0,0,0,0,0,0,0,0),(0,0,0,0,0,0,0,0)⟩:Tb),d0))
theorem bL_c (n:Nat) {L w} (hL:hl L w) {a0:Lb Ta} {v0_0:Vc} (h0_0:Rep.R w L [v0_0] a0) (a1:Tb)  {r:Tb × Int} (h:bL_p n a0 a1 = some r) :
 Cl 21 #[v0_0,.agg ((ab a1)).toArray] w (aj w fun _ u=>u = .tuple #[.agg ((ab r.1)).toArray,vI r.2]):=by
 unfold bL_p at h
 refine AL func21 I I I fun _ cs0 hb0=>Ae<|RG.bx (AK w) I I fun d6 z5 b4 F5=>RG.nl zL b4 fun s6 P0 d3 H5=>Ag I<|Aa<|MX.scope<|Aj<|Ae<|Ac I ?_
 obtain ⟨u5,D5,V4,_⟩:=Bi (AG h0_0 d3)
 refine Ao .plain I (AV (α:=Lb Ta) (xs:=([a0]:Lb (Lb Ta))) (vs:=[v0_0]) (ds' :=[v0_0]) I d3 mc I (e1 I) (by rw [V4]; try kernel_rfl) I) fun t6 A5 p2 I5=>Ab (AA I (p2.memA .t2))<|Ao .plain I (AV (α:=Tb) (xs:=([a1]:Lb Tb)) (vs:=[.agg ((ab a1)).toArray]) (ds' :=(ab a1)) I p2 iZ I (e1 I) (by kernel_rfl) I) fun w32 B5 k1 B4=>bk h fun K3 Y4 h=>Bj (vI K3) (bd 63) I (e2 I I) (fun w9 hw9=>au_c n (k1.hL0 hL hw9) (Ah (St.lend (α:=Lb Ta) (L:=L) k1 .t1 (AO (AJ (cs:=[v0_0]) (xs:=(([a0]:Lb (Lb Ta)):Lb (Lb Ta))) p2 L (AC (cs:=[v0_0]) (ds:=[]) (AG h0_0 p2) (AR _ _))) B4) hL) hw9) (Ah (St.lend (α:=Tb) (L:=L) k1 .hd (AJ (cs:=(ab a1)) (xs:=(([a1]:Lb Tb):Lb Tb)) k1 L (AC (cs:=(ab a1)) (ds:=[]) (dn a1.fN a1.fD) (AR _ _))) hL) hw9) Y4) I<|Ag I<|Aa<|Ae<|Ac I<|Ab (BB (i:=K3) (j:=0) I I)<|Aa<|BI I h (fun U3 h=>?_) (fun U3 h=>?_)
 refine Aq<|Ae<|Ab (AA I (k1.memA .t3))<|bk h fun g0 Z4 h=>jE (bd 68) I (e1 I) (fun w9 hw9=>al_c n (k1.hL hL hw9) a1 Z4) I fun u6 X5 E4 ⟨z1,X1,hu_,A2,U2⟩=>?_
 subst hu_
 obtain ⟨u4,J5⟩:=k1.agr E4
 refine RG.nl [.bool false,vN,.bool false,vN] u4 fun v6 b1 v4 v2=>AT [.bool g0.fj.fc,z1,.bool g0.fh.fc,X1] v4 .hd (o4 I (Az (Af A2 v2)) I (Az (Af U2 v2))) fun x6 B1 u3=>Aa<|Aj<|Aj<|du 10 fun k0 I0=>Rv 0 k0 I I0 (fun _=>Bh 0 I)<|Rx 1 1020 k0 I I0 (AQ (cs:=[.bool g0.fj.fc,z1]) I I (ae (B1.memA .hd) 0 2))<|bk h fun M3 b5 h=>RD.cq 2 7 1016 (vI M3) k0 I I0 (bd 67) I (e1 I) (fun w9 hw9=>aY_c n (B1.hL0 hL hw9) g0.fj (B1.kd (Af A2 (Tt v2 u3)) hw9) b5) I<|Rv 3 k0 I I0 (fun _=>FV.leq (i:=M3) (j:=0) I I)<|Rv 4 k0 I I0 (fun _=>Al I)<|RD.ifd (s:=27) I h (fun V3 h=>?_) (fun V3 h=>?_)
 refine BF 511 1 [(5,28),(6,29),(7,30),(8,31)] (F:=[(27,true)]) (U:=[]) k0 I0 (.cons I .nil) .nil ?_
 dsimp only [aO,List.map]
 refine Rv 9 k0 I I0 (fun _=>BU I I)<|AN (dk k0)<|AE I<|Ae<|Ab (AS (vs:=[]) (u:=.agg zM) ap (fun w9=>by kernel_rfl))<|AT zL B1 .t3 (ai I) fun y6 g3 K5=>Ag I<|Aa<|Ar I<|Au hb0 func21 I (.cons (.many (cs:=zL) I I (g3.memA .t3)) (.cons (.tmp I) .nil)) I ?_
 cases h
 exact g3.gv
 refine RD.val (i:=5) (m' :=63) (W:=896) (tk k0) I I0 (.yes I I) (AA I (B1.memA .hd)) I<|bk h fun s5 c5 h=>AZ 6 127 k0 I (.yes I I) (bd 71) I (e1 I) (fun w9 hw9=>aI_c n (B1.hL hL hw9)  c5) I fun z6 Y5 F4 ⟨V5,W5,hu_,R4,U4⟩=>?_
 subst hu_
 obtain ⟨p1,C4⟩:=B1.agr F4
 refine bk h fun P3 d5 h=>?_
 have P2:=Tt v2 (Tt u3 C4)
 refine RD.callq (i:=7) (m' :=255) (W:=768) (tk k0) I I0 (v:=vI P3) (fst:=[]) (cap:=[]) (.yes I I) (bd 69) I (e2 I I) (fun w9 hw9=>aK_c n (p1.hL0 hL hw9) g0 (p1.kd (Af A2 P2) hw9) (p1.kd (Af U2 P2) hw9) s5 (p1.kd R4 hw9) (p1.kd U4 hw9) d5) I<|BQ 8 511 k0 I I0 (.yes I I) (fun _=>FV.gtr (i:=P3) (j:=0) I I) I<|Rv 9 k0 I I0 (fun _=>Bq I I)<|AN (dk k0)<|AW I h (fun W3 h=>?_) (fun W3 h=>?_)
 refine Ae<|Ab (AS (vs:=[]) (u:=.agg zM) ap (fun w9=>by kernel_rfl))<|AT zL p1 .t3 (ai I) fun A6 j3 M5=>Ag I<|Aa<|Ar I<|Au hb0 func21 I (.cons (.many (cs:=zL) I I (j3.memA .t3)) (.cons (.tmp I) .nil)) I ?_
 cases h
 exact j3.gv
 refine Aq<|Ae<|bk h fun c2 g5 h=>jE (bd 71) I (e1 I) (fun w9 hw9=>aI_c n (p1.hL hL hw9)  g5) I fun B6 Z5 G4 ⟨F3,G3,hu_,C3,D3⟩=>?_
 subst hu_
 obtain ⟨x4,D4⟩:=p1.agr G4
 refine Ab (AS (vs:=[]) (u:=.agg zM) ap (fun w9=>by kernel_rfl))<|RG.nl [.bool false,vN,.bool false,vN] x4 fun D6 Z0 y4 x2=>RG.nl zL y4 fun b6 M0 Y3 q2=>AT [.bool c2.fj.fc,F3,.bool c2.fh.fc,G3] Y3 .t1 (o4 I (Az (Af C3 (Tt x2 q2))) I (Az (Af D3 (Tt x2 q2)))) fun c6 Z3 q3=>AT zL Z3 .hd (ai I) fun g6 C2 s3=>Aa<|Aj<|MX.label<|Aj<|Ae<|Ac I ?_
 have x3:=AG h0_0 C2
 have R5:=AX x3
 refine Ab (AY (xs:=a0) underlying24 I x3)<|Ac I<|Aa<|Av<|MX.xo (α:=U16) 0 (fun ⟨C1,D1,E1,F1,G1,H1,I1,J1,K1,M1,P1,Q1,R1,U1,V1,W1⟩=>[(4,vP P0),(9,vP M0)]) (fun ⟨C1,D1,E1,F1,G1,H1,I1,J1,K1,M1,P1,Q1,R1,U1,V1,W1⟩=>[.cells M0 [vU C1,vU D1,vU E1,vU F1,vU G1,vU H1,vU I1,vU J1,vU K1,vU M1,vU P1,vU Q1,vU R1,vU U1,vU V1,vU W1] 34,.cells P0 zL 34]) (fun ⟨C1,D1,E1,F1,G1,H1,I1,J1,K1,M1,P1,Q1,R1,U1,V1,W1⟩=>(C1,D1,E1,F1,G1,H1,I1,J1,K1,M1,P1,Q1,R1,U1,V1,W1)) C2 I h ?_ ?_
 rintro ⟨C1,D1,E1,F1,G1,H1,I1,J1,K1,M1,P1,Q1,R1,U1,V1,W1⟩ E6 k3 P5 h
 try dsimp only at h
 refine Ae<|Ab (AA I (k3.memA .hd))<|AT [vU C1,vU D1,vU E1,vU F1,vU G1,vU H1,vU I1,vU J1,vU K1,vU M1,vU P1,vU Q1,vU R1,vU U1,vU V1,vU W1] k3 .t1 (ai I) fun C6 p3 Q5=>Ag I<|Aa<|Ar I<|Au hb0 func21 I (.cons (.many (cs:=[vU C1,vU D1,vU E1,vU F1,vU G1,vU H1,vU I1,vU J1,vU K1,vU M1,vU P1,vU Q1,vU R1,vU U1,vU V1,vU W1]) I I (p3.memA .t1)) (.cons (.tmp I) .nil)) I ?_
 cases h
 exact p3.gv
 intro x5 b3 h
 try dsimp only at h
 obtain ⟨c4,s2⟩:=AB C2 (.a0 (.a0 (.a0 (.a2 .done))))
 have A3:=Tt x2 (Tt q2 (Tt q3 (Tt s3 s2)))
 obtain ⟨U5,K4,v3⟩:=am h
 refine BR (α:=Nat × Ua × Ua × Ua × Ua × Ua × Ua × Ua × Ua × Ua × Ua × Ua × Ua × Ua × Ua × Ua × Ua × Bool × (Lb Ua) × Bool × (Lb Ua) × Vc × Vc) (fun ⟨H0,p0,q0,s0,t0,u0,v0,x0,y0,z0,A0,B0,C0,D0,E0,F0,G0,J0,X0,K0,Y0,u1,v1⟩=>[(4,vP P0),(7,vP b1),(8,vP Z0),(9,vP M0),(36,v0_0),(37,vn a0.length),(38,vn H0)]) (fun ⟨H0,p0,q0,s0,t0,u0,v0,x0,y0,z0,A0,B0,C0,D0,E0,F0,G0,J0,X0,K0,Y0,u1,v1⟩=>[.cells M0 [vU p0,vU q0,vU s0,vU t0,vU u0,vU v0,vU x0,vU y0,vU z0,vU A0,vU B0,vU C0,vU D0,vU E0,vU F0,vU G0] 34,.cells Z0 [.bool J0,u1,.bool K0,v1] 109,.cells b1 [.bool g0.fj.fc,z1,.bool g0.fh.fc,X1] 109,.cells P0 zL 34]) (fun ⟨H0,p0,q0,s0,t0,u0,v0,x0,y0,z0,A0,B0,C0,D0,E0,F0,G0,J0,X0,K0,Y0,u1,v1⟩ X2=>Rep.R X2 (bl [.cells M0 [vU p0,vU q0,vU s0,vU t0,vU u0,vU v0,vU x0,vU y0,vU z0,vU A0,vU B0,vU C0,vU D0,vU E0,vU F0,vU G0] 34,.cells Z0 [.bool J0,u1,.bool K0,v1] 109,.cells b1 [.bool g0.fj.fc,z1,.bool g0.fh.fc,X1] 109,.cells P0 zL 34] ++ L) [u1] X0/\Rep.R X2 (bl [.cells M0 [vU p0,vU q0,vU s0,vU t0,vU u0,vU v0,vU x0,vU y0,vU z0,vU A0,vU B0,vU C0,vU D0,vU E0,vU F0,vU G0] 34,.cells Z0 [.bool J0,u1,.bool K0,v1] 109,.cells b1 [.bool g0.fj.fc,z1,.bool g0.fh.fc,X1] 109,.cells P0 zL 34] ++ L) [v1] Y0) (fun ⟨H0,p0,q0,s0,t0,u0,v0,x0,y0,z0,A0,B0,C0,D0,E0,F0,G0,J0,X0,K0,Y0,u1,v1⟩=>(H0,p0,q0,s0,t0,u0,v0,x0,y0,z0,A0,B0,C0,D0,E0,F0,G0,J0,X0,K0,Y0)) (0,0,0,0,0,0,0,0,0,0,0,0,0,0,0,0,0,c2.fj.fc,c2.fj.fk,c2.fh.fc,c2.fh.fk,F3,G3) K4 c4 ⟨(Af C3 A3),(Af D3 A3)⟩ ?_
 rintro v5 ⟨H0,p0,q0,s0,t0,u0,v0,x0,y0,z0,A0,B0,C0,D0,E0,F0,G0,J0,X0,K0,Y0,u1,v1⟩ X2 X3 D2 u2 ⟨Q2,R2⟩ h
 unfold bL_l1 at h
 try dsimp only at h
 refine Ae<|Ab (AU (i:=H0) (j:=a0.length) I I)<|Aa<|Aj<|AW I h (fun Q3 h=>?_) (fun Q3 h=>?_)
 refine Aq<|Aj<|Av<|Ae<|bk h fun b0 W4 h=>?_
 obtain ⟨t5,C5,H4,I4,E5,M4,J4⟩:=Be (AG h0_0 D2) W4
 obtain rfl:=aF M4
 refine Ab (Bf 32 H0 I H4 I I I4)<|Ab (AA I J4)<|RG.nl [vW 0,vW 0,vW 0,vW 0,vW 0,vW 0,vW 0,vW 0,vW 0,vW 0,vW 0,vW 0,vW 0,vW 0,vW 0,vW 0,vW 0,vW 0,vW 0,vW 0,vW 0,vW 0,vW 0,vW 0,vW 0,vW 0,vW 0,vW 0,vW 0,vW 0,vW 0,vW 0] D2 fun j6 y5 d4 Y1=>AT (av b0) d4 .hd (ai I) fun k6 c1 Z1=>Aa<|Aj<|du 6 fun c0 B2=>Rx 0 200 c0 I B2 (AA I (c1.memA .t2))<|Rx 1 204 c0 I B2 (AA I (c1.memA .hd))<|Rv 4 c0 I B2 (fun _=>Bh 0 I)<|bk h fun Z2 E3 h=>bk h fun d0 V2 h=>RD.mf (α:=Vc × Vc) (fun ⟨x1,y1⟩=>[(4,vP P0),(7,vP b1),(8,vP Z0),(9,vP M0),(36,v0_0),(37,vn a0.length),(38,vn H0),(47,.agg ((ab b0.fm)).toArray)]) (fun ⟨x1,y1⟩=>[.cells M0 [vU p0,vU q0,vU s0,vU t0,vU u0,vU v0,vU x0,vU y0,vU z0,vU A0,vU B0,vU C0,vU D0,vU E0,vU F0,vU G0] 34,.cells Z0 [.bool d0.fj.fc,x1,.bool d0.fh.fc,y1] 109,.cells b1 [.bool g0.fj.fc,z1,.bool g0.fh.fc,X1] 109,.cells P0 zL 34]) (fun ⟨x1,y1⟩ Y2=>Rep.R Y2 (bl [.cells M0 [vU p0,vU q0,vU s0,vU t0,vU u0,vU v0,vU x0,vU y0,vU z0,vU A0,vU B0,vU C0,vU D0,vU E0,vU F0,vU G0] 34,.cells Z0 [.bool d0.fj.fc,x1,.bool d0.fh.fc,y1] 109,.cells b1 [.bool g0.fj.fc,z1,.bool g0.fh.fc,X1] 109,.cells P0 zL 34] ++ L) [x1] d0.fj.fk/\Rep.R Y2 (bl [.cells M0 [vU p0,vU q0,vU s0,vU t0,vU u0,vU v0,vU x0,vU y0,vU z0,vU A0,vU B0,vU C0,vU D0,vU E0,vU F0,vU G0] 34,.cells Z0 [.bool d0.fj.fc,x1,.bool d0.fh.fc,y1] 109,.cells b1 [.bool g0.fj.fc,z1,.bool g0.fh.fc,X1] 109,.cells P0 zL 34] ++ L) [y1] d0.fh.fk) c1 1 127 ?_ ?_
 rintro ⟨x1,y1⟩ Y2 g4 E2 ⟨P4,Q4⟩
 try dsimp only
 refine BC 7 255 c0 I I .plain (AD (news:=(ab b0.fm)) g4 .hd I I I I I I (ai I)) fun p6 W0 g2=>AN (dk c0)<|Ae<|Ab (AA I (W0.memA .t1))<|Ab (AA I (W0.memA .t2))<|bk h fun J3 X4 h=>?_
 have y3:=Af P4 g2
 have z3:=Af Q4 g2
 have B3:=Tt P2 (Tt D4 (Tt x2 (Tt q2 (Tt q3 (Tt s3 (Tt s2 (Tt u2 (Tt Y1 (Tt Z1 (Tt E2 g2))))))))))
 refine Bj (vI J3) (bd 69) I (e2 I I) (fun w9 hw9=>aK_c n (W0.hL0 hL hw9) d0 (W0.kd y3 hw9) (W0.kd z3 hw9) g0 (W0.kd (Af A2 B3) hw9) (W0.kd (Af U2 B3) hw9) X4) I<|Ab (FV.geq (i:=J3) (j:=0) I I)<|Aa<|AW I h (fun R3 h=>?_) (fun R3 h=>?_)
 refine Ba I ?_
 have h:=v3 _ h
 try dsimp only at h
 obtain ⟨j4,z4⟩:=AB W0 (.a0 .d2)
 exact b3 (b0.fm.fN.1,b0.fm.fN.2.1,b0.fm.fN.2.2.1,b0.fm.fN.2.2.2.1,b0.fm.fN.2.2.2.2.1,b0.fm.fN.2.2.2.2.2.1,b0.fm.fN.2.2.2.2.2.2.1,b0.fm.fN.2.2.2.2.2.2.2,b0.fm.fD.1,b0.fm.fD.2.1,b0.fm.fD.2.2.1,b0.fm.fD.2.2.2.1,b0.fm.fD.2.2.2.2.1,b0.fm.fD.2.2.2.2.2.1,b0.fm.fD.2.2.2.2.2.2.1,b0.fm.fD.2.2.2.2.2.2.2) j4 (Tt s2 (Tt u2 (Tt Y1 (Tt Z1 (Tt E2 (Tt g2 z4)))))) h
 refine Aq<|Aw<|Am<|Ab (Bc (i:=H0) (j:=1) I I (by omega))<|Ac I<|Aa<|X3 (H0 + 1,b0.fm.fN.1,b0.fm.fN.2.1,b0.fm.fN.2.2.1,b0.fm.fN.2.2.2.1,b0.fm.fN.2.2.2.2.1,b0.fm.fN.2.2.2.2.2.1,b0.fm.fN.2.2.2.2.2.2.1,b0.fm.fN.2.2.2.2.2.2.2,b0.fm.fD.1,b0.fm.fD.2.1,b0.fm.fD.2.2.1,b0.fm.fD.2.2.2.1,b0.fm.fD.2.2.2.2.1,b0.fm.fD.2.2.2.2.2.1,b0.fm.fD.2.2.2.2.2.2.1,b0.fm.fD.2.2.2.2.2.2.2,d0.fj.fc,d0.fj.fk,d0.fh.fc,d0.fh.fk,x1,y1) W0 (Tt u2 (Tt Y1 (Tt Z1 (Tt E2 g2)))) ⟨y3,z3⟩ h
 intro k2
 refine BN [2,5] (rk c0) ⟨?_,?_,trivial⟩
 refine RO.call (m' :=23) (fst:=[]) (cap:=[]) (sk c0) I .plain (bd 66) I (e1 I) (fun w9 hw9=>bb_c n (c1.hL hL hw9) b0 E3) I fun q5 p5 J2 ⟨j5,k5,hu_,y2,z2⟩=>?_
 subst hu_
 obtain ⟨g1,q1⟩:=c1.agr J2
 refine BN [3,5] (rk c0) ⟨?_,?_,trivial⟩
 have s1:=Tt Y1 (Tt Z1 q1)
 have K2:=Af Q2 s1
 have M2:=Af R2 s1
 refine RO.call (m' :=31) (fst:=[]) (cap:=[]) (sk c0) I .plain (bd 81) I (e2 I I) (fun w9 hw9=>ab_c n (g1.hL hL hw9) (⟨(⟨J0,X0⟩:Tf),(⟨K0,Y0⟩:Tf)⟩:Td) (Ah K2 hw9) (Ah M2 hw9) Z2 (Ah y2 hw9) (Ah z2 hw9) V2) I fun I3 H3 j2 ⟨U0,V0,hu_,Q0,R0⟩=>?_
 subst hu_
 obtain ⟨A1,b2⟩:=g1.agr j2
 refine BN [5,6] (rk c0) ⟨?_,?_,trivial⟩
 refine RO.val (m' :=63) (sk c0) I .plain I (AQ (cs:=(ab b0.fm)) I I (ae (A1.memA .hd) 0 16))<|BC 6 127 c0 I I .plain (AD (news:=[.bool d0.fj.fc,U0,.bool d0.fh.fc,V0]) A1 .t2 I I I I I I (o4 I (Az Q0) I (Az R0))) fun W2 j1 j0=>?_
 obtain ⟨k4,F2⟩:=AB j1 .d1
 exact k2 (U0,V0) k4 (Tt q1 (Tt b2 (Tt j0 F2))) ⟨(Af Q0 (Tt j0 F2)),(Af R0 (Tt j0 F2))⟩
 refine RO.now (m' :=95) (sk c0) I I .plain (AD (news:=[.bool d0.fj.fc,U0,.bool d0.fh.fc,V0]) A1 .t2 I I I I I I (o4 I (Az Q0) I (Az R0))) fun W2 j1 j0=>Rx 5 128 c0 I B2 (AQ (cs:=(ab b0.fm)) I I (ae (j1.memA .hd) 0 16)) ?_
 obtain ⟨p4,G2⟩:=AB j1 .d1
 exact k2 (U0,V0) p4 (Tt q1 (Tt b2 (Tt j0 G2))) ⟨(Af Q0 (Tt j0 G2)),(Af R0 (Tt j0 G2))⟩
 refine RO.val (m' :=55) (sk c0) I .plain I (AQ (cs:=(ab b0.fm)) I I (ae (g1.memA .hd) 0 16)) ?_
 have s1:=Tt Y1 (Tt Z1 q1)
 have K2:=Af Q2 s1
 have M2:=Af R2 s1
 refine AZ 3 63 c0 I .plain (bd 81) I (e2 I I) (fun w9 hw9=>ab_c n (g1.hL hL hw9) (⟨(⟨J0,X0⟩:Tf),(⟨K0,Y0⟩:Tf)⟩:Td) (Ah K2 hw9) (Ah M2 hw9) Z2 (Ah y2 hw9) (Ah z2 hw9) V2) I fun I3 H3 j2 ⟨U0,V0,hu_,Q0,R0⟩=>?_
 subst hu_
 obtain ⟨A1,b2⟩:=g1.agr j2
 refine BC 6 127 c0 I I .plain (AD (news:=[.bool d0.fj.fc,U0,.bool d0.fh.fc,V0]) A1 .t2 I I I I I I (o4 I (Az Q0) I (Az R0))) fun W2 j1 j0=>?_
 obtain ⟨q4,H2⟩:=AB j1 .d1
 exact k2 (U0,V0) q4 (Tt q1 (Tt b2 (Tt j0 H2))) ⟨(Af Q0 (Tt j0 H2)),(Af R0 (Tt j0 H2))⟩
 refine RO.val (m' :=51) (sk c0) I .plain I (AQ (cs:=(ab b0.fm)) I I (ae (c1.memA .hd) 0 16))<|AZ 2 55 c0 I .plain (bd 66) I (e1 I) (fun w9 hw9=>bb_c n (c1.hL hL hw9) b0 E3) I fun q5 p5 J2 ⟨j5,k5,hu_,y2,z2⟩=>?_
 subst hu_
 obtain ⟨g1,q1⟩:=c1.agr J2
 have s1:=Tt Y1 (Tt Z1 q1)
 refine AZ 3 63 c0 I .plain (bd 81) I (e2 I I) (fun w9 hw9=>ab_c n (g1.hL hL hw9) (⟨(⟨J0,X0⟩:Tf),(⟨K0,Y0⟩:Tf)⟩:Td) (Ah (Af Q2 s1) hw9) (Ah (Af R2 s1) hw9) Z2 (Ah y2 hw9) (Ah z2 hw9) V2) I fun I3 H3 j2 ⟨U0,V0,hu_,Q0,R0⟩=>?_
 subst hu_
 obtain ⟨A1,b2⟩:=g1.agr j2
 refine BC 6 127 c0 I I .plain (AD (news:=[.bool d0.fj.fc,U0,.bool d0.fh.fc,V0]) A1 .t2 I I I I I I (o4 I (Az Q0) I (Az R0))) fun W2 j1 j0=>?_
 obtain ⟨s4,I2⟩:=AB j1 .d1
 exact k2 (U0,V0) s4 (Tt q1 (Tt b2 (Tt j0 I2))) ⟨(Af Q0 (Tt j0 I2)),(Af R0 (Tt j0 I2))⟩
 refine Ba I ?_
 have h:=v3 _ h
 try dsimp only at h
 obtain ⟨t4,A4⟩:=AB D2 (.a0 .d2)
 exact b3 (p0,q0,s0,t0,u0,v0,x0,y0,z0,A0,B0,C0,D0,E0,F0,G0) t4 (Tt s2 (Tt u2 A4)) h
 refine Ae<|Ab (AS (vs:=[]) (u:=.agg zM) ap (fun w9=>by kernel_rfl))<|Ac I<|AT zL k1 .t2 (ai I) fun q6 c3 G5=>Ag I<|Aa<|Ar I<|Au hb0 func21 I (.cons (.many (cs:=zL) I I (c3.memA .t2)) (.cons (.tmp I) .nil)) I ?_
 cases h
 exact c3.gv
def cA_p (_n:Nat) (a0:Lb Ta) (a1:Int) (a2:Int):Oa Bool:=
  (if a0.length = 0 then some (decide (a1 = a2)) else some false)
theorem cA_c (n:Nat) {L w} (_hL:hl L w) {a0:Lb Ta} {v0_0:Vc} (h0_0:Rep.R w L [v0_0] a0) {a1:Int} {a2:Int} {p2:Nat} (m2:∀ j9 v9,([vI a2]:Lb Vc)[j9]? = some v9 -> w.cell? ((⟨p2,0,none⟩:Addr).add j9) = some v9)  {r:Bool} (h:cA_p n a0 a1 a2 = some r) :
 Cl 82 #[v0_0,vI a1,.pointer (some ⟨p2,0,none⟩)] w (aj w fun _ u=>u = .bool r):=by
 unfold cA_p at h
 have hS0:=AK w
 refine AL func82 I I I fun _ cs0 hb0=>Ae<|Ag I<|Aa<|Ae<|Ac I ?_
 have hl1:=AX h0_0
 refine Ab (AY (xs:=a0) underlying24 I h0_0)<|Ab (FV.eqlN (i:=a0.length) (j:=0) I I)<|Ac I<|RG.ifd (s:=9) I h (fun c2 h=>?_) (fun c2 h=>?_)
 refine AM (Al I)<|AM (Bn I ((fun j9 v9 h9=>hS0.ag.cell0 (m2 j9 v9 h9)) 0 _ I))<|AM (FV.eql (i:=a1) (j:=a2) I I)<|Br I I<|Ag I<|Aa<|Ar I<|Bb hb0 func82 I I ?_
 cases h
 exact hS0.gv
 refine Ap<|Ap<|Ap<|Bs I I<|Ag I<|Aa<|Ar I<|Bb hb0 func82 I I ?_
 cases h
 exact hS0.gv
theorem df_c (_n:Nat) {L w} (_hL:hl L w) (a0:Int)  :
 Cl 22 #[vI a0] w (aj w fun w' u=>∃ b0:Nat,u = .func (.func 82) #[] #[vP b0]/\St w w' [.cells b0 [vI a0] 27]):=by
 refine AL func22 I I I fun _ cs0 hb0=>Ae<|RG.bx (AK w) I I fun g0 b0 c0 d0=>Ag I<|Aa<|Ae<|Ab (FV.makeFunc (vs:=[]) (us:=[vP b0]) ap (e1 I))<|Ag I<|Aa<|Ar I<|Au (u:=.func (.func 82) #[] #[vP b0]) hb0 func22 I (.cons (.tmp I) .nil) I<|⟨c0.ag,fun w9 hw9=>⟨b0,I,c0.agree hw9⟩⟩
def bq_p (n:Nat) (a0:Ua):Oa Int:=
  (ci_p n a0).bind fun y1=>some y1
theorem bq_c (n:Nat) {L w} (hL:hl L w) (a0:Ua)  {r:Int} (h:bq_p n a0 = some r) :
 Cl 174 #[vU a0] w (aj w fun _ u=>u = vI r):=by
 unfold bq_p at h
 have hS0:=AK w
 refine AL func174 I I I fun _ cs0 hb0=>Ae<|Ag I<|Aa<|Aj<|Bv I<|Aq<|Ae<|Ac I<|bk h fun y1 hy1 h=>Bj (vI y1) (bd 203) I (e1 I) (fun w9 hw9=>ci_c n (hS0.hL0 hL hw9) a0 hy1) I<|Ag I<|Aa<|Ar I<|Bb hb0 func174 I I ?_
 cases h
 exact hS0.gv
def ah_p (n:Nat) (a0:Ta) (a1:Ta):Oa Int:=
  (al_p n a0.fm).bind fun b0=>(al_p n a1.fm).bind fun c0=>(aK_p n b0 c0).bind fun d0=>some d0
theorem ah_c (n:Nat) {L w} (hL:hl L w) (a0:Ta) (a1:Ta)  {r:Int} (h:ah_p n a0 a1 = some r) :
 Cl 144 #[.agg ((av a0)).toArray,.agg ((av a1)).toArray] w (aj w fun _ u=>u = vI r):=by
 unfold ah_p at h
 refine AL func144 I I I fun _ cs0 hb0=>Ae<|RG.bx (AK w) I I fun U0 E0 p0 G0=>RG.bx p0 I I fun V0 F0 g0 H0=>Ag I<|Aa<|Aj<|du 8 fun b0 d0=>Rv 0 b0 I d0 (fun _=>Bh 0 I)<|Rx 1 228 b0 I d0 (AQ (cs:=(ab a0.fm)) I I (ae (g0.memA .t1) 0 16))<|Rv 3 b0 I d0 (fun _=>Bh 0 I)<|Rx 4 224 b0 I d0 (AQ (cs:=(ab a1.fm)) I I (ae (g0.memA .hd) 0 16))<|bk h fun B0 y0 h=>AZ 2 31 b0 I .plain (bd 68) I (e1 I) (fun w9 hw9=>al_c n (g0.hL hL hw9) a0.fm y0) I fun W0 Q0 q0 ⟨J0,K0,hu_,t0,u0⟩=>?_
 subst hu_
 obtain ⟨j0,I0⟩:=g0.agr q0
 refine bk h fun C0 z0 h=>AZ 5 63 b0 I .plain (bd 68) I (e1 I) (fun w9 hw9=>al_c n (j0.hL hL hw9) a1.fm z0) I fun X0 R0 s0 ⟨M0,P0,hu_,v0,x0⟩=>?_
 subst hu_
 obtain ⟨c0,k0⟩:=j0.agr s0
 refine bk h fun D0 A0 h=>RD.cq 6 127 128 (vI D0) b0 I d0 (bd 69) I (e2 I I) (fun w9 hw9=>aK_c n (c0.hL0 hL hw9) B0 (c0.kd (Af t0 k0) hw9) (c0.kd (Af u0 k0) hw9) C0 (c0.kd v0 hw9) (c0.kd x0 hw9) A0) I<|Rv 7 b0 I d0 (fun _=>Bo I)<|AN (dk b0)<|Ar I<|Bb hb0 func144 I I ?_
 cases h
 exact c0.gv
theorem op_Tf {w:World} {L:Lb Nat} {cs:Lb Vc} {x:Tf} (h:Rep.R w L cs x):∃ v1:Vc,cs = [.bool x.fc,v1]/\Rep.R w L [v1] x.fk:=by
  obtain ⟨c0,r0,rfl,h0,h⟩:=h
  have e0:c0 = [.bool x.fc]:=h0; subst e0
  obtain ⟨v1,rfl,kv1⟩:=dz (xs:=x.fk) h
  exact ⟨v1,I,kv1⟩
theorem mk_Tf {w:World} {L:Lb Nat} (a0:Bool) (a1:Lb Ua) {u1:Vc} (h1:Rep.R w L [u1] a1):Rep.R w L [.bool a0,u1] (⟨a0,a1⟩:Tf):=⟨[.bool a0],[u1],rfl,rfl,h1⟩
theorem cF {w:World} {L:Lb Nat} {cs:Lb Vc} {x:Td} (h:Rep.R w L cs x):∃ v1 v3:Vc,cs = [.bool x.fj.fc,v1,.bool x.fh.fc,v3]/\Rep.R w L [v1] x.fj.fk/\Rep.R w L [v3] x.fh.fk:=by
  obtain ⟨c0,r0,rfl,h0,h⟩:=h
  obtain ⟨v1,rfl,kv1⟩:=op_Tf (x:=x.fj) h0
  obtain ⟨v3,rfl,kv3⟩:=op_Tf (x:=x.fh) h
  exact ⟨v1,v3,I,kv1,kv3⟩
theorem ck {w:World} {L:Lb Nat} (a0:Tf) {u1:Vc} (h1:Rep.R w L [u1] a0.fk) (a1:Tf) {u3:Vc} (h3:Rep.R w L [u3] a1.fk):Rep.R w L [.bool a0.fc,u1,.bool a1.fc,u3] (⟨a0,a1⟩:Td):=⟨[.bool a0.fc,u1],[.bool a1.fc,u3],rfl,mk_Tf a0.fc a0.fk h1,mk_Tf a1.fc a1.fk h3⟩
instance:Enc Tb:=⟨fun a=>.agg #[vU a.fN.1,vU a.fN.2.1,vU a.fN.2.2.1,vU a.fN.2.2.2.1,vU a.fN.2.2.2.2.1,vU a.fN.2.2.2.2.2.1,vU a.fN.2.2.2.2.2.2.1,vU a.fN.2.2.2.2.2.2.2,vU a.fD.1,vU a.fD.2.1,vU a.fD.2.2.1,vU a.fD.2.2.2.1,vU a.fD.2.2.2.2.1,vU a.fD.2.2.2.2.2.1,vU a.fD.2.2.2.2.2.2.1,vU a.fD.2.2.2.2.2.2.2]⟩
theorem ar:KeyAt Tryz.prog 34 Tb:=⟨fun q a w=>by kernel_rfl,⟨_,underlying34,fun a b=>rfl⟩,fun a b w9=>
  eqOp (ks:=[.int .u64,.int .u64,.int .u64,.int .u64,.int .u64,.int .u64,.int .u64,.int .u64,.int .u64,.int .u64,.int .u64,.int .u64,.int .u64,.int .u64,.int .u64,.int .u64]) (xs:=[vU a.fN.1,vU a.fN.2.1,vU a.fN.2.2.1,vU a.fN.2.2.2.1,vU a.fN.2.2.2.2.1,vU a.fN.2.2.2.2.2.1,vU a.fN.2.2.2.2.2.2.1,vU a.fN.2.2.2.2.2.2.2,vU a.fD.1,vU a.fD.2.1,vU a.fD.2.2.1,vU a.fD.2.2.2.1,vU a.fD.2.2.2.2.1,vU a.fD.2.2.2.2.2.1,vU a.fD.2.2.2.2.2.2.1,vU a.fD.2.2.2.2.2.2.2]) (ys:=[vU b.fN.1,vU b.fN.2.1,vU b.fN.2.2.1,vU b.fN.2.2.2.1,vU b.fN.2.2.2.2.1,vU b.fN.2.2.2.2.2.1,vU b.fN.2.2.2.2.2.2.1,vU b.fN.2.2.2.2.2.2.2,vU b.fD.1,vU b.fD.2.1,vU b.fD.2.2.1,vU b.fD.2.2.2.1,vU b.fD.2.2.2.2.1,vU b.fD.2.2.2.2.2.1,vU b.fD.2.2.2.2.2.2.1,vU b.fD.2.2.2.2.2.2.2]) (by kernel_rfl) (by kernel_rfl) I I ⟨fun h=>by
    simp only [bb,veq,Bool.and_eq_true,beq_iff_eq,and_true] at h
    obtain ⟨h0,h1,h2,h3,h4,h5,h6,h7,h8,h9,b0,c0,d0,g0,j0,k0⟩:=h
    exact mY (ah h0) (ah h1) (ah h2) (ah h3) (ah h4) (ah h5) (ah h6) (ah h7) (ah h8) (ah h9) (ah b0) (ah c0) (ah d0) (ah g0) (ah j0) (ah k0),fun h=>by subst h; simp [bb,veq]⟩ w9,fun a=>by simp [Instr.sameBits,Enc.enc]⟩
def cM (n:Nat) (c0:Tb × Td) (g0:(Lb Ta) × Bool -> Oa ((Lb Ta) × Int)):(Lb Ta) × Bool -> Oa ((Lb Ta) × Int)
  | (p0,j0)=>(ac_p n c0.2).bind fun d0=>jn (fun k0=>(app p0 ([(⟨c0.1,d0.1⟩:Ta)]:Lb Ta)).bind fun q0=>g0 (q0,k0)) (fun b0=>(if d0.2 = 0 then b0 j0 else b0 true))
def aO_l1 (n:Nat) (a0:Lb Ta) (q0:Td) (g0:Nat × Bool × (Lb (Tb × Td)) -> Oa ((Lb (Tb × Td)) × Bool)):Nat × Bool × (Lb (Tb × Td)) -> Oa ((Lb (Tb × Td)) × Bool)
  | (c0,j0,b0)=>(if c0 < a0.length then (a0[c0]?).bind fun k0=>(al_p n k0.fm).bind fun s0=>(ab_p n q0 s0).bind fun t0=>(bb_p n k0).bind fun p0=>(ac_p n t0).bind fun d0=>(if d0.2 = 0 then dI (br b0 d0.1) (g0 (c0 + 1,j0,aC b0 d0.1 p0)) (fun u0=>(ab_p n p0 u0).bind fun v0=>g0 (c0 + 1,j0,aC b0 d0.1 v0)) else g0 (c0 + 1,true,b0)) else some (b0,j0))
def aO_p (n:Nat) (a0:Lb Ta) (a1:Tb):Oa ((Lb Ta) × Int):=
  (au_p n ([a0]:Lb (Lb Ta)) ([a1]:Lb Tb)).bind fun d0=>(if d0 = 0 then (al_p n a1).bind fun p0=>Option.bind (ao (aO_l1 n a0 p0) n (0,false,([]:Lb (Tb × Td)))) (fun (b0,g0)=>(if 400 < b0.length then some (([]:Lb Ta),(3:Int)) else mloop (fun (c0,j0)=>(if j0 = true then some (([]:Lb Ta),(6:Int)) else (bq_p n (ac ((c0.length:Nat):Int))).bind fun q0=>(dK (fun x9 y9=>ah_p n x9 y9) q0 c0).bind fun k0=>some (k0,(0:Int)))) (cM n) n b0 (([]:Lb Ta),g0))) else some (([]:Lb Ta),d0))
theorem aO_c (n:Nat) {L w} (hL:hl L w) {a0:Lb Ta} {v0_0:Vc} (h0_0:Rep.R w L [v0_0] a0) (a1:Tb)  {r:(Lb Ta) × Int} (h:aO_p n a0 a1 = some r) :
 Cl 23 #[v0_0,.agg ((ab a1)).toArray] w (aj w fun w' u=>∃ v0_0:Vc,u = .tuple #[v0_0,vI r.2]/\Rep.R w' L [v0_0] r.1):=by
 unfold aO_p at h
 refine AL func23 I I I fun _ cs0 hb0=>Ae<|RG.bx (AK w) I I fun g8 H0 v2 E7=>Ag I<|Ag I<|Aa<|Aj<|Ae<|Ac I ?_
 obtain ⟨M6,q7,c6,_⟩:=Bi (AG h0_0 v2)
 refine Ao .plain I (AV (α:=Lb Ta) (xs:=([a0]:Lb (Lb Ta))) (vs:=[v0_0]) (ds' :=[v0_0]) I v2 mc I (e1 I) (by rw [c6]; try kernel_rfl) I) fun j8 I0 k1 F7=>Ab (AA I (k1.memA .t1))<|Ao .plain I (AV (α:=Tb) (xs:=([a1]:Lb Tb)) (vs:=[.agg ((ab a1)).toArray]) (ds' :=(ab a1)) I k1 iZ I (e1 I) (by kernel_rfl) I) fun k8 J0 z0 E4=>bk h fun D3 k6 h=>Bj (vI D3) (bd 63) I (e2 I I) (fun w9 hw9=>au_c n (z0.hL0 hL hw9) (Ah (St.lend (α:=Lb Ta) (L:=L) z0 .t1 (AO (AJ (cs:=[v0_0]) (xs:=(([a0]:Lb (Lb Ta)):Lb (Lb Ta))) k1 L (AC (cs:=[v0_0]) (ds:=[]) (AG h0_0 k1) (AR _ _))) E4) hL) hw9) (Ah (St.lend (α:=Tb) (L:=L) z0 .hd (AJ (cs:=(ab a1)) (xs:=(([a1]:Lb Tb):Lb Tb)) z0 L (AC (cs:=(ab a1)) (ds:=[]) (dn a1.fN a1.fD) (AR _ _))) hL) hw9) k6) I<|Ag I<|Aa<|Ae<|Ac I<|Ab (BB (i:=D3) (j:=0) I I)<|Aa<|BI I h (fun F3 h=>?_) (fun F3 h=>?_)
 refine Aq<|Ae<|Ac I<|Ab (AA I (z0.memA .t2))<|bk h fun E0 p6 h=>jE (bd 68) I (e1 I) (fun w9 hw9=>al_c n (z0.hL hL hw9) a1 p6) I fun p8 Y7 d5 ⟨z1,A1,hu_,K5,Q5⟩=>?_
 subst hu_
 obtain ⟨Q3,G7⟩:=z0.agr d5
 refine Ab (FV.makeFunc (vs:=[.agg #[.bool E0.fj.fc,z1,.bool E0.fh.fc,A1]]) (us:=[]) (e1 I) ap)<|BD (fst:=[]) (cap:=[]) (vs:=[v0_0,.func (.func 81) #[.agg #[.bool E0.fj.fc,z1,.bool E0.fh.fc,A1]] #[]]) .plain (bd 83) func83 I I I I (e2 I I) I fun x7 Z1 P7=>Ae<|Ag I<|Ag I<|Aa<|Ae<|Ao .plain I (Does.makeMap (κ:=Tb) (ν:=Lb Vc) Q3) fun C8 b0 z2 F4=>Ab (AS (vs:=[.map (some b0)]) (u:=.agg #[.map (some b0),.bool false]) (e1 I) (fun w9=>by kernel_rfl))<|RG.bx z2 I I fun K8 t0 A2 J2=>Ag I<|Aa<|Aj<|Ae<|Ac I ?_
 have V2:=AG h0_0 A2
 have J7:=AX V2
 refine Ab (AY (xs:=a0) underlying24 I V2)<|Ac I<|Aa<|Av ?_
 obtain ⟨V7,H5,y5⟩:=am h
 refine BR (α:=Nat × Bool × (Lb (Tb × Td)) × (Lb (Tb × Lb Vc))) (fun ⟨p0,u0,y0,c0⟩=>[(1,.func (.func 81) #[.agg #[.bool E0.fj.fc,z1,.bool E0.fh.fc,A1]] #[]),(6,vP t0),(12,v0_0),(13,vn a0.length),(14,vn p0)]) (fun ⟨p0,u0,y0,c0⟩=>[.cells t0 [.map (some b0),.bool u0] 126,.obj b0 (ay c0),rr w 34 Tb (vS J0 1) (([a1]:Lb Tb).length) (ab a1),rr w 24 (Lb Ta) (vS I0 1) (([a0]:Lb (Lb Ta)).length) [v0_0],.cells H0 (ab a1) 34]) (fun ⟨p0,u0,y0,c0⟩ B3=>MR B3 (bl [.cells t0 [.map (some b0),.bool u0] 126,.obj b0 (ay c0),rr w 34 Tb (vS J0 1) (([a1]:Lb Tb).length) (ab a1),rr w 24 (Lb Ta) (vS I0 1) (([a0]:Lb (Lb Ta)).length) [v0_0],.cells H0 (ab a1) 34] ++ L) c0 y0) (fun ⟨p0,u0,y0,c0⟩=>(p0,u0,y0)) (0,false,([]:Lb (Tb × Td)),([]:Lb (Tb × Lb Vc))) H5 A2 (BM (MR.at_ (Z:=([]:Lb (Tb × Lb Vc))) (M:=([]:Lb (Tb × Td))) z2 L trivial) J2) ?_
 rintro R6 ⟨p0,u0,y0,c0⟩ B3 F1 B0 u1 P0 h
 unfold aO_l1 at h
 try dsimp only at h
 refine Ae<|Ab (AU (i:=p0) (j:=a0.length) I I)<|Aa<|Aj<|AW I h (fun G3 h=>?_) (fun G3 h=>?_)
 refine Aq<|Aj<|Av<|Ae<|bk h fun E1 d6 h=>?_
 obtain ⟨P6,s7,v5,A5,v7,J5,D5⟩:=Be (AG h0_0 B0) d6
 obtain rfl:=aF J5
 refine Ab (Bf 32 p0 I v5 I I A5)<|Ab (AA I D5)<|RG.nl [vW 0,vW 0,vW 0,vW 0,vW 0,vW 0,vW 0,vW 0,vW 0,vW 0,vW 0,vW 0,vW 0,vW 0,vW 0,vW 0,vW 0,vW 0,vW 0,vW 0,vW 0,vW 0,vW 0,vW 0,vW 0,vW 0,vW 0,vW 0,vW 0,vW 0,vW 0,vW 0] B0 fun q8 W6 R3 P1=>AT (av E1) R3 .hd (ai I) fun s8 p1 Q1=>Aa<|du 8 fun q0 c1=>Rv 0 q0 I c1 (fun _=>Al I)<|Rv 1 q0 I c1 (fun _=>Al I)<|Rv 2 q0 I c1 (fun _=>Bh 0 I)<|Rx 3 432 q0 I c1 (AQ (cs:=(ab E1.fm)) I I (ae (p1.memA .hd) 0 16))<|Rx 6 384 q0 I c1 (AA I (p1.memA .hd))<|bk h fun K6 q6 h=>AZ 4 95 q0 I .plain (bd 68) I (e1 I) (fun w9 hw9=>al_c n (p1.hL hL hw9) E1.fm q6) I fun u8 Z7 g5 ⟨W7,X7,hu_,M5,P5⟩=>?_
 subst hu_
 obtain ⟨x2,R1⟩:=p1.agr g5
 refine bk h fun k2 s6 h=>?_
 have W2:=Tt F4 (Tt J2 (Tt u1 (Tt P1 (Tt Q1 R1))))
 refine BJ (i:=5) (rk q0) (RO.call (m' :=127) (fst:=[.agg #[.bool E0.fj.fc,z1,.bool E0.fh.fc,A1]]) (cap:=[]) (sk q0) I .plain (bd 81) I (e1 I) (fun w9 hw9=>ab_c n (x2.hL hL hw9) E0 (Ah (Af K5 W2) hw9) (Ah (Af Q5 W2) hw9) K6 (Ah M5 hw9) (Ah P5 hw9) s6) I (fun v8 b8 j5 ⟨A6,B6,hu_,R5,U5⟩=>?_))
 subst hu_
 obtain ⟨y2,E2⟩:=x2.agr j5
 refine bk h fun j0 t6 h=>AZ 7 255 q0 I .plain (bd 66) I (e1 I) (fun w9 hw9=>bb_c n (y2.hL hL hw9) E1 t6) I fun x8 c8 k5 ⟨g1,j1,hu_,k3,p3⟩=>?_
 subst hu_
 obtain ⟨U3,U1⟩:=y2.agr k5
 refine BJ (i:=8) (rk q0) (RO.enterPT (m' :=511) (fst:=[]) (cap:=[]) (vs:=[vP t0,.agg #[.bool k2.fj.fc,A6,.bool k2.fh.fc,B6],.agg #[.bool j0.fj.fc,g1,.bool j0.fh.fc,j1]]) (sk q0) I I .plain (bd 86) func86 I I I I (e3 I I I) I (fun _ y7 b2 M7=>?_))
 refine Ae<|RG.bx U3 I I fun y8 X6 V3 Y0=>RG.bx V3 I I fun z8 Y6 U0 Z0=>Aa<|Ae<|Ab (AA I (U0.memA .t1))<|bk h fun d0 u6 h=>?_
 have X2:=Tt U1 (Tt Y0 Z0)
 refine Bj (.tuple #[.agg ((ab d0.1)).toArray,vI d0.2]) (bd 77) I (e1 I) (fun w9 hw9=>ac_c n (U0.hL0 hL hw9) k2 (U0.kd (Af R5 X2) hw9) (U0.kd (Af U5 X2) hw9) u6) I<|Ac I<|Ab (Ai I I)<|Ab (Ai I I)<|RG.nl zL U0 fun A8 Z6 W3 v1=>AT (ab d0.1) W3 .hd (ai I) fun B8 V0 x1=>Ag I<|Aa<|Aj<|Ae<|Ac I<|Ab (BB (i:=d0.2) (j:=0) I I)<|Aa<|BI I h (fun H3 h=>?_) (fun H3 h=>?_)
 refine Aq<|du 6 fun A0 Q0=>Rv 0 A0 I Q0 (fun _=>Al I)<|Rv 1 A0 I Q0 (fun _=>Bu I)<|Rv 2 A0 I Q0 (fun _=>Bh 0 I)<|Rx 3 64 A0 I Q0 (Bn I ((V0.memA .t4) 0 _ I))<|Rx 4 64 A0 I Q0 (AA I (V0.memA .hd))<|Rx 5 64 A0 I Q0 (AA I (V0.memA .t1))<|BJ (i:=6) (rk A0) (RO.enterPT (m' :=127) (fst:=[]) (cap:=[]) (vs:=[.map (some b0),.agg ((ab d0.1)).toArray,.agg #[.bool j0.fj.fc,g1,.bool j0.fh.fc,j1]]) (sk A0) I I .plain (bd 88) func88 I I I I (e3 I I I) I (fun _ z7 R2 Q7=>?_))
 refine Ae<|RG.bx V0 I I fun D8 b7 X3 V1=>RG.bx X3 I I fun E8 c7 W0 W1=>Aa<|Aj<|Ae<|Ac I<|Ab (AA I (W0.memA .t1)) ?_
 have g2:=Tt P1 (Tt Q1 (Tt R1 (Tt E2 (Tt U1 (Tt Y0 (Tt Z0 (Tt v1 (Tt x1 (Tt V1 W1)))))))))
 have E5:=BM P0 g2
 rcases MR.get d0.1 E5 with ⟨d2,j2⟩ | ⟨A7,p2,j2,d2,V5⟩
 have h:=cQ h d2
 refine Ab (FV.lookupK (kv:=d0.1) (q:=false) ar W0 .t7 underlying124 (z:=.agg #[.bool false,vN,.bool false,vN]) I I I (.inl ⟨j2,I,I⟩))<|Ac I<|Ab (Ai I I)<|Ab (Ai I I)<|RG.nl [.bool false,vN,.bool false,vN] W0 fun F8 g7 Y3 F2=>AT [.bool false,vN,.bool false,vN] Y3 .hd (ai I) fun G8 G1 G2=>Ag I<|Aa<|Ae<|Ac I<|Aa<|Bv I<|Aq<|Am<|Ac I<|Ab (AA I (G1.memA .t2))<|Ab (AA I (G1.memA .t1)) ?_
 have Y2:=Tt g2 (Tt F2 G2)
 have Z2:=Tt Y0 (Tt Z0 (Tt v1 (Tt x1 (Tt V1 (Tt W1 (Tt F2 G2))))))
 refine RG.now .plain (BK (kv:=d0.1) (vv:=[.bool j0.fj.fc,g1,.bool j0.fh.fc,j1]) ar G1 .t8 underlying124 I I I) fun H8 Z3 H2=>Aa<|MX.fin I<|Au (u:=.tuple #[]) R2 func88 I .nil I<|AN (dk A0)<|MX.fin I<|Au (u:=.tuple #[]) b2 func86 I .nil I<|AN (dk q0)<|Aw<|Am<|Ab (Bc (i:=p0) (j:=1) I I (by omega))<|Ac I<|Aa ?_
 obtain ⟨b4,I2⟩:=AB Z3 .d7
 exact F1 (p0 + 1,u0,aC y0 d0.1 j0,(aC c0 d0.1 [.bool j0.fj.fc,g1,.bool j0.fh.fc,j1])) b4 (Tt u1 (Tt Y2 (Tt H2 I2))) (BM (MR.set (k:=d0.1) (c:=[.bool j0.fj.fc,g1,.bool j0.fh.fc,j1]) (y:=j0) (ck j0.fj (Af k3 Z2) j0.fh (Af p3 Z2)) (BM P0 Y2)) (Tt H2 I2)) h
 have h:=cN h d2
 obtain ⟨C6,D6,rfl,q3,s3⟩:=cF V5
 refine Ab (FV.lookupK (kv:=d0.1) (q:=true) ar W0 .t7 underlying124 (z:=.agg #[.bool false,vN,.bool false,vN]) I I I (.inr ⟨_,j2,I,I⟩))<|Ac I<|Ab (Ai I I)<|Ab (Ai I I)<|RG.nl [.bool false,vN,.bool false,vN] W0 fun I8 j7 c4 M0=>AT [.bool p2.fj.fc,C6,.bool p2.fh.fc,D6] c4 .hd (o4 I (Az (Af q3 M0)) I (Az (Af s3 M0))) fun J8 q1 y1=>Ag I<|Aa<|Ae<|Ac I<|Aa<|AE I<|Am<|Ab (AA I (q1.memA .t1))<|Ab (AA I (q1.memA .hd))<|bk h fun x0 v6 h=>?_
 have b3:=Tt Y0 (Tt Z0 (Tt v1 (Tt x1 (Tt V1 (Tt W1 (Tt M0 y1))))))
 refine jE (bd 81) I (e2 I I) (fun w9 hw9=>ab_c n (q1.hL hL hw9) j0 (Ah (Af k3 b3) hw9) (Ah (Af p3 b3) hw9) p2 (Ah (Af q3 (Tt M0 y1)) hw9) (Ah (Af s3 (Tt M0 y1)) hw9) v6) I fun M8 d8 p5 ⟨B1,C1,hu_,u3,v3⟩=>?_
 subst hu_
 obtain ⟨g4,G4⟩:=q1.agr p5
 refine AT [.bool x0.fj.fc,B1,.bool x0.fh.fc,C1] g4 .t1 (o4 I (Az u3) I (Az v3)) fun P8 H1 X1=>Aa<|Am<|Ac I<|Ab (AA I (H1.memA .t2))<|Ab (AA I (H1.memA .t1)) ?_
 have c3:=Tt g2 (Tt M0 (Tt y1 (Tt G4 X1)))
 refine RG.now .plain (BK (kv:=d0.1) (vv:=[.bool x0.fj.fc,B1,.bool x0.fh.fc,C1]) ar H1 .t8 underlying124 I I I) fun Q8 j4 K2=>Aa<|MX.fin I<|Au (u:=.tuple #[]) R2 func88 I .nil I<|AN (dk A0)<|MX.fin I<|Au (u:=.tuple #[]) b2 func86 I .nil I<|AN (dk q0)<|Aw<|Am<|Ab (Bc (i:=p0) (j:=1) I I (by omega))<|Ac I<|Aa ?_
 obtain ⟨k4,M2⟩:=AB j4 .d7
 exact F1 (p0 + 1,u0,aC y0 d0.1 x0,(aC c0 d0.1 [.bool x0.fj.fc,B1,.bool x0.fh.fc,C1])) k4 (Tt u1 (Tt c3 (Tt K2 M2))) (BM (MR.set (k:=d0.1) (c:=[.bool x0.fj.fc,B1,.bool x0.fh.fc,C1]) (y:=x0) (ck x0.fj (Af u3 X1) x0.fh (Af v3 X1)) (BM P0 c3)) (Tt K2 M2)) h
 refine Ae<|Ac I<|Ab (Bu I)<|Bk 1 I<|RG.now .plain (BS (j:=1) (old:=[.map (some b0),.bool u0]) (news:=[.bool true]) (new' :=[.map (some b0),.bool true]) V0 .t4 I I I I I I (o1 I) I) fun R8 p4 H4=>Aa<|Ar I<|Au (u:=.tuple #[]) b2 func86 I .nil I<|AN (dk q0)<|Aw<|Am<|Ab (Bc (i:=p0) (j:=1) I I (by omega))<|Ac I<|Aa ?_
 obtain ⟨q4,I4⟩:=AB p4 .d4
 have g3:=Tt P1 (Tt Q1 (Tt R1 (Tt E2 (Tt U1 (Tt Y0 (Tt Z0 (Tt v1 (Tt x1 (Tt H4 I4)))))))))
 exact F1 (p0 + 1,true,y0,c0) q4 (Tt u1 g3) (BM P0 g3) h
 refine Ba I ?_
 have h:=y5 _ h
 try dsimp only at h
 refine Ae<|Ac I<|BD (fst:=[]) (cap:=[]) (vs:=[vP t0]) .plain (bd 87) func87 I I I I (e1 I) I fun B7 c2 R7=>Ae<|Ag I<|Ag I<|Aa<|Aj<|Ae<|Ac I<|Ab (Bu I)<|Bk 0 I<|Bd I ((B0.memA .hd) 0 _ I)<|Ab (FV.as (FV.len_map (D:=c0) B0 .t1 underlying124 I) (congrArg (fun n9:Nat=>Value.int .i64 (n9:Int)) (MR.len P0)))<|Ab (FV.gtrN (i:=y0.length) (j:=400) I I)<|Aa<|AW I h (fun I3 h=>?_) (fun I3 h=>?_)
 refine Ae<|Ag I<|Ag I<|Aa<|Ar I<|Au (u:=.tuple #[vN,vI 3]) c2 func87 I (.cons (.tmp I) (.cons (.tmp I) .nil)) I<|Ab (Ai I I)<|Ab (Ai I I)<|Ag I<|Ag I<|Aa<|Ar I<|Au (u:=.tuple #[vN,vI 3]) Z1 func83 I (.cons (.tmp I) (.cons (.tmp I) .nil)) I<|Ab (Ai I I)<|Ab (Ai I I)<|Ag I<|Ag I<|Aa<|Ar I ?_
 have W5:=Bm (α:=Ta) B0 L
 refine Au hb0 func23 I (.cons (.tmp I) (.cons (.tmp I) .nil)) I ?_
 cases h
 exact ⟨B0.ag,fun w9 hw9=>⟨vN,I,B0.kd W5 hw9⟩⟩
 refine Aq<|Ae<|Ag I<|Aa<|Aj<|Ae<|Ac I<|Ab (Bu I)<|Bk 0 I<|Bd I ((B0.memA .hd) 0 _ I)<|Ao .plain I (Does.range (D:=c0) B0 .t1 underlying124 I) fun H6 K0 B2 J4=>Aa<|Av ?_
 have C2:=B2.nilRow 37 (Rep.size Ta)
 refine MX.mloop (α:=(Lb Ta) × Bool × Vc × (Lb Vc) × (Array Nat)) (fun ⟨v0,C0,s0,F0,D0⟩=>[(0,vP t0),(4,s0),(19,vP K0)]) (fun A3 ⟨v0,C0,s0,F0,D0⟩ D1=>St w D1 [rr w 37 Ta s0 v0.length F0,.obj K0 (aD b0 c0.length D0),.cells t0 [.map (some b0),.bool C0] 126,.obj b0 (ay c0),rr w 34 Tb (vS J0 1) (([a1]:Lb Tb).length) (ab a1),rr w 24 (Lb Ta) (vS I0 1) (([a0]:Lb (Lb Ta)).length) [v0_0],.cells H0 (ab a1) 34]/\Tr H6 [rr w 37 Ta vN (([]:Lb Ta).length) [],.obj K0 (aD b0 c0.length #[]),.cells t0 [.map (some b0),.bool u0] 126,.obj b0 (ay c0),rr w 34 Tb (vS J0 1) (([a1]:Lb Tb).length) (ab a1),rr w 24 (Lb Ta) (vS I0 1) (([a0]:Lb (Lb Ta)).length) [v0_0],.cells H0 (ab a1) 34] D1 [rr w 37 Ta s0 v0.length F0,.obj K0 (aD b0 c0.length D0),.cells t0 [.map (some b0),.bool C0] 126,.obj b0 (ay c0),rr w 34 Tb (vS J0 1) (([a1]:Lb Tb).length) (ab a1),rr w 24 (Lb Ta) (vS I0 1) (([a0]:Lb (Lb Ta)).length) [v0_0],.cells H0 (ab a1) 34]/\Cells D1 (bl [rr w 37 Ta s0 v0.length F0,.obj K0 (aD b0 c0.length D0),.cells t0 [.map (some b0),.bool C0] 126,.obj b0 (ay c0),rr w 34 Tb (vS J0 1) (([a1]:Lb Tb).length) (ab a1),rr w 24 (Lb Ta) (vS I0 1) (([a0]:Lb (Lb Ta)).length) [v0_0],.cells H0 (ab a1) 34] ++ L) F0 v0/\left y0 D0 = A3) (fun ⟨v0,C0,s0,F0,D0⟩=>(v0,C0)) (([]:Lb Ta),u0,vN,[],#[]) h ⟨rfl,rfl,rfl,trivial⟩ ⟨C2,BO _ _,(AJ (cs:=[]) (xs:=([]:Lb Ta)) C2 L (AR _ _)),(cE _)⟩ ?_
 rintro A3 ⟨v0,C0,s0,F0,D0⟩ D1 U6 P3 ⟨s4,P2,U2,B5⟩ F5 u5
 refine Ae<|RG.nextR (W:=c0) (BM P0 (Tt J4 (Tt (BT B2 37 (Rep.size Ta)) P2))) s4 .t3 (fun _=>.t1) I I B5 (fun U8 G5 G0 K4=>?_) (fun V8 z3 g0 C7 z6 z5 X5 I5 C5 D2 M4=>?_)
 have h:=F5 G5
 try dsimp only at h
 refine Ab (Ai I I)<|Aa<|Aj<|Bv I<|Ba I<|Aj<|Ae<|Ac I<|Ab (Bu I)<|Bk 1 I<|Bd I ((G0.memA .t2) 1 _ I)<|Aa<|MX.ifb I h (fun J3 h=>?_) (fun J3 h=>?_)
 refine Ae<|Ag I<|Ag I<|Aa<|Ar I<|Au (u:=.tuple #[vN,vI 6]) c2 func87 I (.cons (.tmp I) (.cons (.tmp I) .nil)) I<|Ab (Ai I I)<|Ab (Ai I I)<|Ag I<|Ag I<|Aa<|Ar I<|Au (u:=.tuple #[vN,vI 6]) Z1 func83 I (.cons (.tmp I) (.cons (.tmp I) .nil)) I<|Ab (Ai I I)<|Ab (Ai I I)<|Ag I<|Ag I<|Aa<|Ar I ?_
 have Y5:=Bm (α:=Ta) G0 L
 refine Au hb0 func23 I (.cons (.tmp I) (.cons (.tmp I) .nil)) I ?_
 cases h
 exact ⟨G0.ag,fun w9 hw9=>⟨vN,I,G0.kd Y5 hw9⟩⟩
 refine Aq<|Ae<|Ac I<|BD (fst:=[]) (cap:=[]) (vs:=[s0,.func (.func 144) #[] #[]]) .plain (bd 143) func143 I I I I (e2 I I) I fun D7 q5 U7=>Ae<|Ac I ?_
 have K7:v0.length <= 4294967296:=St.rowLe (α:=Ta) G0 .hd
 obtain ⟨Q6,u7,x5⟩:=St.rowV (α:=Ta) G0 .hd
 refine Ab (FV.lenV underlying24 I x5)<|Ag I<|Aa<|Am<|Ac I<|Ac I<|Ac I<|Ab (FV.convU (i:=((v0.length:Nat):Int)) underlying3 underlying193 I)<|bk h fun E3 x6 h=>Bj (vI E3) (bd 174) I (e1 I) (fun w9 hw9=>bq_c n (G0.hL0 hL hw9) (ac ((v0.length:Nat):Int)) x6) I<|Ac I<|bk h fun C3 g6 h=>RG.sort (enc:=av) (ρ:=Tryz.srt173_ren) (c:=(fun x9 y9=>ah_p n x9 y9)) (li:=E3) g6 I (fun _ _ _ _ h9=>aF h9) (fun w9 L9 z9=>aS (w:=w9) (L:=L9) z9.fm z9.fP) Tryz.srt173 (fun w9=>Tryz.isAgg37 w9) (fun w9=>Tryz.sizeOf37 w9) (enters_of func144 I I) (fun x9 y9 r9 w9 h9=>ah_c n (L:=[]) (w:=w9) (fun _ h8=>nomatch h8) x9 y9 h9) .plain (bd 173) I (e5 I I I I I) I G0 (AO U2 K4) .hd fun I6 s1 H7=>Aa<|MX.fin I<|Au (u:=.tuple #[]) q5 func143 I .nil I<|Aa<|Ae<|Ac I<|Ag I<|Ag I<|Aa<|Ar I<|Au (u:=.tuple #[s0,vI 0]) c2 func87 I (.cons (.tmp I) (.cons (.tmp I) .nil)) I<|Ab (Ai I I)<|Ab (Ai I I)<|Ag I<|Ag I<|Aa<|Ar I<|Au (u:=.tuple #[s0,vI 0]) Z1 func83 I (.cons (.tmp I) (.cons (.tmp I) .nil)) I<|Ab (Ai I I)<|Ab (Ai I I)<|Ag I<|Ag I<|Aa<|Ar I ?_
 have I1:=Bw s1 .hd
 have I7:=Bx s1 .hd
 have Z5:=By (α:=Ta) (v:=s0) (xs:=C3) I1 L (Bg (α:=Ta) s1 .hd (AJ s1 L (bF (α:=Ta) (enc:=av) (fun w9 L9 z9=>aS (w:=w9) (L:=L9) z9.fm z9.fP) I6 _ C3)) hL)
 refine Au hb0 func23 I (.cons (.tmp I) (.cons (.tmp I) .nil)) I ?_
 cases h
 exact ⟨I1.ag,fun w9 hw9=>⟨s0,I,I1.kd Z5 hw9⟩⟩
 obtain ⟨E6,F6,rfl,x3,y3⟩:=cF X5
 have h:=u5 _ _ I5
 unfold cM at h
 try dsimp only at h
 refine Ab (Ai I I)<|Aa<|Aj<|AE I<|Aq<|Av<|Ae<|Ab (FV.entry (D:=c0) D2 .t3 .t1 z5 I)<|Ab (Ai I I)<|Ab (Ai I I)<|RG.nl zL D2 fun W8 q2 u4 P4=>RG.nl [.bool false,vN,.bool false,vN] u4 fun X8 k7 v4 Q4=>AT (ab g0.1) v4 .t1 (ai I) fun Y8 x4 R4=>?_
 have b1:=Tt M4 (Tt P4 (Tt Q4 R4))
 refine AT [.bool g0.2.fj.fc,E6,.bool g0.2.fh.fc,F6] x4 .hd (o4 I (Az (Af x3 b1)) I (Az (Af y3 b1))) fun Z8 X0 Y1=>Aa<|Ae<|Ab (AA I (X0.memA .hd))<|bk h fun k0 y6 h=>Bj (.tuple #[.agg ((ab k0.1)).toArray,vI k0.2]) (bd 77) I (e1 I) (fun w9 hw9=>ac_c n (X0.hL0 hL hw9) g0.2 (X0.kd (Af x3 (Tt b1 Y1)) hw9) (X0.kd (Af y3 (Tt b1 Y1)) hw9) y6) I<|Ac I<|Ab (Ai I I)<|Ab (Ai I I)<|RG.nl zL X0 fun b9 s2 y4 U4=>AT (ab k0.1) y4 .hd (ai I) fun c9 J1 V4=>Ag I<|Aa<|Aj<|Ae<|Ac I<|Ab (BB (i:=k0.2) (j:=0) I I)<|Aa<|MX.jo (α:=Bool) (fun R0=>[(0,vP t0),(4,s0),(19,vP K0),(5,vP q2),(7,vP s2)]) (fun R0=>[.cells s2 (ab k0.1) 34,.cells q2 (ab g0.1) 34,rr w 37 Ta s0 v0.length F0,.obj K0 (aD b0 c0.length (D0.push z3)),.cells t0 [.map (some b0),.bool R0] 126,.obj b0 (ay c0),rr w 34 Tb (vS J0 1) (([a1]:Lb Tb).length) (ab a1),rr w 24 (Lb Ta) (vS I0 1) (([a0]:Lb (Lb Ta)).length) [v0_0],.cells H0 (ab a1) 34]) (fun R0=>R0) J1 h ?_ ?_
 rintro R0 k9 K1 W4 h
 try dsimp only at h
 refine Am<|Ac I<|Ab (AA I (K1.memA .t1))<|Ab (AA I (K1.memA .hd))<|Ab (AS (vs:=[.agg ((ab g0.1)).toArray,.agg ((ab k0.1)).toArray]) (u:=.agg ((ab g0.1 ++ ab k0.1)).toArray) (e2 I I) (fun w9=>by kernel_rfl))<|Ao .plain I (AV (α:=Ta) (xs:=([(⟨g0.1,k0.1⟩:Ta)]:Lb Ta)) (vs:=[.agg ((ab g0.1 ++ ab k0.1)).toArray]) (ds' :=(ab g0.1 ++ ab k0.1)) I K1 cJ I (e1 I) (by kernel_rfl) I) fun d9 p7 M1 X4=>bk h fun J6 j6 h=>?_
 have j3:=Tt b1 (Tt Y1 (Tt U4 (Tt V4 (Tt W4 X4))))
 refine BA .plain I (Bl (α:=Ta) (ys:=([(⟨g0.1,k0.1⟩:Ta)]:Lb Ta)) j6 M1 (fun _ _=>.t3) cJ I I (AO U2 j3) (BH (α:=Ta) M1 .hd (AJ (cs:=(ab g0.1 ++ ab k0.1)) (xs:=(([(⟨g0.1,k0.1⟩:Ta)]:Lb Ta):Lb Ta)) M1 L (AC (cs:=(ab g0.1 ++ ab k0.1)) (ds:=[]) (aS g0.1 k0.1) (AR _ _))))) fun G6 g9 ⟨M3,z4,Y4,s5⟩=>Ag I<|Aa<|Aw ?_
 obtain ⟨A4,Q2⟩:=AB z4 .d3
 exact P3 z6 (J6,R0,G6,M3,(D0.push z3)) _ _ ⟨I,I,I,trivial⟩ ⟨A4,(Tt P2 (Tt j3 (Tt Y4 Q2))),(AO s5 Q2),C5⟩ h
 intro V6 u2 h
 try dsimp only at h
 refine BI I h (fun K3 h=>?_) (fun K3 h=>?_)
 refine Aq ?_
 obtain ⟨B4,Z4⟩:=AB J1 (.a0 .d1)
 exact u2 C0 B4 Z4 h
 refine Am<|Ac I<|Ab (Bu I)<|Bk 1 I<|RG.now .plain (BS (j:=1) (old:=[.map (some b0),.bool C0]) (news:=[.bool true]) (new' :=[.map (some b0),.bool true]) J1 .t5 I I I I I I (o1 I) I) fun j9 C4 b5=>Aa ?_
 obtain ⟨D4,c5⟩:=AB C4 (.a0 .d1)
 exact u2 true D4 (Tt b5 c5) h
 refine Ae<|Ac I<|Ag I<|Ag I<|Aa<|Ar I ?_
 have b6:=Bm (α:=Ta) z0 L
 refine Au hb0 func23 I (.cons (.tmp I) (.cons (.tmp I) .nil)) I ?_
 cases h
 exact ⟨z0.ag,fun w9 hw9=>⟨vN,I,z0.kd b6 hw9⟩⟩
theorem ba:ElT Tryz.prog 63 5 (Rep.size UInt8) 1 (.int .u8 0) [.int .u8 0]:=⟨underlying63,by kernel_rfl,rfl,rfl,rfl,rfl⟩
def bX_l1 (_n:Nat) (a0:Td) (g0:Nat × (Lb UInt8) -> Oa (Lb UInt8)):Nat × (Lb UInt8) -> Oa (Lb UInt8)
  | (c0,d0)=>(if c0 < a0.fh.fk.length then (a0.fh.fk[c0]?).bind fun b0=>(app d0 ([aq (shrU b0 0)]:Lb UInt8)).bind fun j0=>(app j0 ([aq (shrU b0 8)]:Lb UInt8)).bind fun k0=>(app k0 ([aq (shrU b0 16)]:Lb UInt8)).bind fun p0=>(app p0 ([aq (shrU b0 24)]:Lb UInt8)).bind fun q0=>(app q0 ([aq (shrU b0 32)]:Lb UInt8)).bind fun s0=>(app s0 ([aq (shrU b0 40)]:Lb UInt8)).bind fun t0=>(app t0 ([aq (shrU b0 48)]:Lb UInt8)).bind fun u0=>(app u0 ([aq (shrU b0 56)]:Lb UInt8)).bind fun v0=>g0 (c0 + 1,v0) else some d0)
def bX_l2 (_n:Nat) (a0:Td) (g0:Nat × (Lb UInt8) -> Oa (Lb UInt8)):Nat × (Lb UInt8) -> Oa (Lb UInt8)
  | (c0,d0)=>(if c0 < a0.fj.fk.length then (a0.fj.fk[c0]?).bind fun b0=>(app d0 ([aq (shrU b0 0)]:Lb UInt8)).bind fun j0=>(app j0 ([aq (shrU b0 8)]:Lb UInt8)).bind fun k0=>(app k0 ([aq (shrU b0 16)]:Lb UInt8)).bind fun p0=>(app p0 ([aq (shrU b0 24)]:Lb UInt8)).bind fun q0=>(app q0 ([aq (shrU b0 32)]:Lb UInt8)).bind fun s0=>(app s0 ([aq (shrU b0 40)]:Lb UInt8)).bind fun t0=>(app t0 ([aq (shrU b0 48)]:Lb UInt8)).bind fun u0=>(app u0 ([aq (shrU b0 56)]:Lb UInt8)).bind fun v0=>g0 (c0 + 1,v0) else some d0)
def bX_p (n:Nat) (a0:Td):Oa ByteArray:=
  (app ([]:Lb UInt8) ([bD ((a0.fj.fk.length:Nat):Int)]:Lb UInt8)).bind fun d0=>Option.bind (ao (bX_l2 n a0) n (0,d0)) (fun g0=>(app g0 ([bD ((a0.fh.fk.length:Nat):Int)]:Lb UInt8)).bind fun j0=>Option.bind (ao (bX_l1 n a0) n (0,j0)) (fun b0=>(if a0.fj.fc = true then (app b0 ([45]:Lb UInt8)).bind fun c0=>some (bstr c0) else some (bstr b0))))
theorem bX_c (n:Nat) {L w} (_hL:hl L w) (a0:Td) {v0_1:Vc} (h0_1:Rep.R w L [v0_1] a0.fj.fk) {v0_3:Vc} (h0_3:Rep.R w L [v0_3] a0.fh.fk)  {r:ByteArray} (h:bX_p n a0 = some r) :
 Cl 85 #[.agg #[.bool a0.fj.fc,v0_1,.bool a0.fh.fc,v0_3]] w (aj w fun _ u=>u = .string r):=by
 unfold bX_p at h
 refine AL func85 I I I fun _ cs0 hb0=>Ae<|RG.bx (AK w) I I fun P7 u0 x0 d7=>Ag I<|Aa<|Ae<|Ag I<|Aa<|Aj<|Ae<|Bk 0 I<|Bk 1 I<|Bd I ((fF (x0.memA .hd) 0) 1 _ I)<|Bk 2 I<|Bk 1 I<|Bd I ((fF (x0.memA .hd) 2) 1 _ I) ?_
 have Z0:=AG h0_1 x0
 obtain ⟨R5,D6,X4,_⟩:=Bi Z0
 obtain ⟨U5,E6,Y4,_⟩:=Bi (AG h0_3 x0)
 refine Ab (AS (vs:=[v0_1,v0_3]) (u:=.agg #[v0_1,v0_3]) (e2 I I) (fun w9=>by rw [X4,Y4]; try kernel_rfl))<|Ac I<|Aa<|Av<|MX.loop1<|Ae<|Ab (AU (i:=0) (j:=2) I I)<|Aa<|Aj<|AE I<|Aq<|Aj<|Av<|Ae<|Ab (FV.idx1 (cs:=[v0_1,v0_3]) (k:=0) (m:=1) (len:=2) I I I I I (by omega) I)<|Ag I<|Aa<|Ae<|Ac I<|Ac I ?_
 have p7:=AX Z0
 refine Ab (AY (xs:=a0.fj.fk) underlying105 I Z0)<|Ab (FV.convU8 (i:=((a0.fj.fk.length:Nat):Int)) underlying3 underlying5 I)<|Ao .plain I (AV (α:=UInt8) (xs:=([bD ((a0.fj.fk.length:Nat):Int)]:Lb UInt8)) (vs:=[.int .u8 ((bD ((a0.fj.fk.length:Nat):Int)).toNat:Int)]) (ds' :=[.int .u8 ((bD ((a0.fj.fk.length:Nat):Int)).toNat:Int)]) I x0 ba I (e1 I) (by kernel_rfl) I) fun Q7 b6 A0 g7=>?_
 have B0:=A0.nilRow 5 (Rep.size UInt8)
 refine bk h fun K5 d5 h=>BA .plain I (Bl (α:=UInt8) (ys:=([bD ((a0.fj.fk.length:Nat):Int)]:Lb UInt8)) d5 B0 (fun _ _=>.hd) ba I I (AJ (cs:=[]) (xs:=([]:Lb UInt8)) B0 L (AR _ _)) (BH (α:=UInt8) B0 .t1 (AO (AJ (cs:=[.int .u8 ((bD ((a0.fj.fk.length:Nat):Int)).toNat:Int)]) (xs:=(([bD ((a0.fj.fk.length:Nat):Int)]:Lb UInt8):Lb UInt8)) A0 L (AC (cs:=[.int .u8 ((bD ((a0.fj.fk.length:Nat):Int)).toNat:Int)]) (ds:=[]) I (AR _ _))) (BT A0 5 (Rep.size UInt8))))) fun G5 R7 ⟨t2,c1,j7,d4⟩=>Ag I<|Aa<|Ae<|Ac I<|Ab (AY (xs:=a0.fj.fk) underlying105 I (AG h0_1 c1))<|Ac I<|Aa<|Av ?_
 obtain ⟨C2,A3⟩:=AB c1 (.a0 .d1)
 obtain ⟨s7,R4,I4⟩:=am h
 refine BR (α:=Nat × (Lb UInt8) × Vc × (Lb Vc)) (fun ⟨d0,k0,s0,p0⟩=>[(1,vP u0),(3,s0),(15,.agg #[v0_1,v0_3]),(16,vI 0),(25,v0_1),(26,vn a0.fj.fk.length),(27,vn d0)]) (fun ⟨d0,k0,s0,p0⟩=>[rr w 5 UInt8 s0 k0.length p0,.cells u0 [.bool a0.fj.fc,v0_1,.bool a0.fh.fc,v0_3] 109]) (fun ⟨d0,k0,s0,p0⟩ g2=>Cells g2 (bl [rr w 5 UInt8 s0 k0.length p0,.cells u0 [.bool a0.fj.fc,v0_1,.bool a0.fh.fc,v0_3] 109] ++ L) p0 k0) (fun ⟨d0,k0,s0,p0⟩=>(d0,k0)) (0,K5,G5,t2) R4 C2 (AO d4 A3) ?_
 rintro X5 ⟨d0,k0,s0,p0⟩ g2 z2 y0 B3 c2 h
 unfold bX_l2 at h
 try dsimp only at h
 refine Ae<|Ab (AU (i:=d0) (j:=a0.fj.fk.length) I I)<|Aa<|Aj<|AW I h (fun p2 h=>?_) (fun p2 h=>?_)
 refine Aq<|Aj<|Av<|Ae<|bk h fun b0 Z4 h=>?_
 obtain ⟨V5,F6,E4,K4,s2,V4,P4⟩:=Be (AG h0_1 y0) Z4
 have F4:s2 = [vU b0]:=V4; subst F4
 refine Ab (Bf 1 d0 I E4 I I K4)<|Bd I (P4 0 _ I)<|Ag I<|Aa<|Ae<|Ac I<|Aa<|Av<|MX.loop1<|Ae<|Ab (AU (i:=0) (j:=8) I I)<|Aa<|Aj<|AE I<|Aq<|Aj<|Av<|Ae<|Ac I<|Ag I<|Aa<|Am<|Ac I<|Ac I<|Ac I<|Ab (FV.mul (i:=8) (j:=0) (r:=0) I I (by decide))<|Ab (FV.shrU (a:=b0) (j:=0) I I)<|Ab (FV.conv8 (a:=shrU b0 0) underlying30 underlying5 I)<|Ao .plain I (AV (α:=UInt8) (xs:=([aq (shrU b0 0)]:Lb UInt8)) (vs:=[.int .u8 ((aq (shrU b0 0)).toNat:Int)]) (ds' :=[.int .u8 ((aq (shrU b0 0)).toNat:Int)]) I y0 ba I (e1 I) (by kernel_rfl) I) fun U7 c6 C0 k1=>bk h fun R8 g5 h=>BA .plain I (Bl (α:=UInt8) (ys:=([aq (shrU b0 0)]:Lb UInt8)) g5 C0 (fun _ _=>.t1) ba I I (AO c2 k1) (BH (α:=UInt8) C0 .hd (AJ (cs:=[.int .u8 ((aq (shrU b0 0)).toNat:Int)]) (xs:=(([aq (shrU b0 0)]:Lb UInt8):Lb UInt8)) C0 L (AC (cs:=[.int .u8 ((aq (shrU b0 0)).toNat:Int)]) (ds:=[]) I (AR _ _))))) fun v7 V7 ⟨I6,D2,C3,c4⟩=>Ag I<|Aa<|Aw<|Am<|Ab (BL (i:=0) (j:=1) (r:=1) I I (by decide))<|Ac I<|Aa<|Bp ?_
 obtain ⟨E2,p1⟩:=AB D2 .d1
 refine Ae<|Ab (AU (i:=1) (j:=8) I I)<|Aa<|Aj<|AE I<|Aq<|Aj<|Av<|Ae<|Ac I<|Ag I<|Aa<|Am<|Ac I<|Ac I<|Ac I<|Ab (FV.mul (i:=8) (j:=1) (r:=8) I I (by decide))<|Ab (FV.shrU (a:=b0) (j:=8) I I)<|Ab (FV.conv8 (a:=shrU b0 8) underlying30 underlying5 I)<|Ao .plain I (AV (α:=UInt8) (xs:=([aq (shrU b0 8)]:Lb UInt8)) (vs:=[.int .u8 ((aq (shrU b0 8)).toNat:Int)]) (ds' :=[.int .u8 ((aq (shrU b0 8)).toNat:Int)]) I E2 ba I (e1 I) (by kernel_rfl) I) fun W7 d6 D0 q1=>bk h fun U8 j5 h=>BA .plain I (Bl (α:=UInt8) (ys:=([aq (shrU b0 8)]:Lb UInt8)) j5 D0 (fun _ _=>.t1) ba I I (AO c4 (Tt p1 q1)) (BH (α:=UInt8) D0 .hd (AJ (cs:=[.int .u8 ((aq (shrU b0 8)).toNat:Int)]) (xs:=(([aq (shrU b0 8)]:Lb UInt8):Lb UInt8)) D0 L (AC (cs:=[.int .u8 ((aq (shrU b0 8)).toNat:Int)]) (ds:=[]) I (AR _ _))))) fun x7 X7 ⟨J6,F2,D3,g4⟩=>Ag I<|Aa<|Aw<|Am<|Ab (BL (i:=1) (j:=1) (r:=2) I I (by decide))<|Ac I<|Aa<|Bp ?_
 obtain ⟨G2,s1⟩:=AB F2 .d1
 refine Ae<|Ab (AU (i:=2) (j:=8) I I)<|Aa<|Aj<|AE I<|Aq<|Aj<|Av<|Ae<|Ac I<|Ag I<|Aa<|Am<|Ac I<|Ac I<|Ac I<|Ab (FV.mul (i:=8) (j:=2) (r:=16) I I (by decide))<|Ab (FV.shrU (a:=b0) (j:=16) I I)<|Ab (FV.conv8 (a:=shrU b0 16) underlying30 underlying5 I)<|Ao .plain I (AV (α:=UInt8) (xs:=([aq (shrU b0 16)]:Lb UInt8)) (vs:=[.int .u8 ((aq (shrU b0 16)).toNat:Int)]) (ds' :=[.int .u8 ((aq (shrU b0 16)).toNat:Int)]) I G2 ba I (e1 I) (by kernel_rfl) I) fun Y7 g6 E0 u1=>bk h fun V8 k5 h=>BA .plain I (Bl (α:=UInt8) (ys:=([aq (shrU b0 16)]:Lb UInt8)) k5 E0 (fun _ _=>.t1) ba I I (AO g4 (Tt s1 u1)) (BH (α:=UInt8) E0 .hd (AJ (cs:=[.int .u8 ((aq (shrU b0 16)).toNat:Int)]) (xs:=(([aq (shrU b0 16)]:Lb UInt8):Lb UInt8)) E0 L (AC (cs:=[.int .u8 ((aq (shrU b0 16)).toNat:Int)]) (ds:=[]) I (AR _ _))))) fun y7 Z7 ⟨K6,H2,E3,j4⟩=>Ag I<|Aa<|Aw<|Am<|Ab (BL (i:=2) (j:=1) (r:=3) I I (by decide))<|Ac I<|Aa<|Bp ?_
 obtain ⟨I2,v1⟩:=AB H2 .d1
 refine Ae<|Ab (AU (i:=3) (j:=8) I I)<|Aa<|Aj<|AE I<|Aq<|Aj<|Av<|Ae<|Ac I<|Ag I<|Aa<|Am<|Ac I<|Ac I<|Ac I<|Ab (FV.mul (i:=8) (j:=3) (r:=24) I I (by decide))<|Ab (FV.shrU (a:=b0) (j:=24) I I)<|Ab (FV.conv8 (a:=shrU b0 24) underlying30 underlying5 I)<|Ao .plain I (AV (α:=UInt8) (xs:=([aq (shrU b0 24)]:Lb UInt8)) (vs:=[.int .u8 ((aq (shrU b0 24)).toNat:Int)]) (ds' :=[.int .u8 ((aq (shrU b0 24)).toNat:Int)]) I I2 ba I (e1 I) (by kernel_rfl) I) fun b8 j6 F0 x1=>bk h fun W8 p5 h=>BA .plain I (Bl (α:=UInt8) (ys:=([aq (shrU b0 24)]:Lb UInt8)) p5 F0 (fun _ _=>.t1) ba I I (AO j4 (Tt v1 x1)) (BH (α:=UInt8) F0 .hd (AJ (cs:=[.int .u8 ((aq (shrU b0 24)).toNat:Int)]) (xs:=(([aq (shrU b0 24)]:Lb UInt8):Lb UInt8)) F0 L (AC (cs:=[.int .u8 ((aq (shrU b0 24)).toNat:Int)]) (ds:=[]) I (AR _ _))))) fun z7 c8 ⟨M6,J2,F3,k4⟩=>Ag I<|Aa<|Aw<|Am<|Ab (BL (i:=3) (j:=1) (r:=4) I I (by decide))<|Ac I<|Aa<|Bp ?_
 obtain ⟨K2,y1⟩:=AB J2 .d1
 refine Ae<|Ab (AU (i:=4) (j:=8) I I)<|Aa<|Aj<|AE I<|Aq<|Aj<|Av<|Ae<|Ac I<|Ag I<|Aa<|Am<|Ac I<|Ac I<|Ac I<|Ab (FV.mul (i:=8) (j:=4) (r:=32) I I (by decide))<|Ab (FV.shrU (a:=b0) (j:=32) I I)<|Ab (FV.conv8 (a:=shrU b0 32) underlying30 underlying5 I)<|Ao .plain I (AV (α:=UInt8) (xs:=([aq (shrU b0 32)]:Lb UInt8)) (vs:=[.int .u8 ((aq (shrU b0 32)).toNat:Int)]) (ds' :=[.int .u8 ((aq (shrU b0 32)).toNat:Int)]) I K2 ba I (e1 I) (by kernel_rfl) I) fun d8 k6 G0 z1=>bk h fun X8 q5 h=>BA .plain I (Bl (α:=UInt8) (ys:=([aq (shrU b0 32)]:Lb UInt8)) q5 G0 (fun _ _=>.t1) ba I I (AO k4 (Tt y1 z1)) (BH (α:=UInt8) G0 .hd (AJ (cs:=[.int .u8 ((aq (shrU b0 32)).toNat:Int)]) (xs:=(([aq (shrU b0 32)]:Lb UInt8):Lb UInt8)) G0 L (AC (cs:=[.int .u8 ((aq (shrU b0 32)).toNat:Int)]) (ds:=[]) I (AR _ _))))) fun A7 g8 ⟨P6,M2,G3,p4⟩=>Ag I<|Aa<|Aw<|Am<|Ab (BL (i:=4) (j:=1) (r:=5) I I (by decide))<|Ac I<|Aa<|Bp ?_
 obtain ⟨P2,A1⟩:=AB M2 .d1
 refine Ae<|Ab (AU (i:=5) (j:=8) I I)<|Aa<|Aj<|AE I<|Aq<|Aj<|Av<|Ae<|Ac I<|Ag I<|Aa<|Am<|Ac I<|Ac I<|Ac I<|Ab (FV.mul (i:=8) (j:=5) (r:=40) I I (by decide))<|Ab (FV.shrU (a:=b0) (j:=40) I I)<|Ab (FV.conv8 (a:=shrU b0 40) underlying30 underlying5 I)<|Ao .plain I (AV (α:=UInt8) (xs:=([aq (shrU b0 40)]:Lb UInt8)) (vs:=[.int .u8 ((aq (shrU b0 40)).toNat:Int)]) (ds' :=[.int .u8 ((aq (shrU b0 40)).toNat:Int)]) I P2 ba I (e1 I) (by kernel_rfl) I) fun j8 p6 H0 B1=>bk h fun Y8 s5 h=>BA .plain I (Bl (α:=UInt8) (ys:=([aq (shrU b0 40)]:Lb UInt8)) s5 H0 (fun _ _=>.t1) ba I I (AO p4 (Tt A1 B1)) (BH (α:=UInt8) H0 .hd (AJ (cs:=[.int .u8 ((aq (shrU b0 40)).toNat:Int)]) (xs:=(([aq (shrU b0 40)]:Lb UInt8):Lb UInt8)) H0 L (AC (cs:=[.int .u8 ((aq (shrU b0 40)).toNat:Int)]) (ds:=[]) I (AR _ _))))) fun B7 k8 ⟨Q6,Q2,H3,q4⟩=>Ag I<|Aa<|Aw<|Am<|Ab (BL (i:=5) (j:=1) (r:=6) I I (by decide))<|Ac I<|Aa<|Bp ?_
 obtain ⟨R2,C1⟩:=AB Q2 .d1
 refine Ae<|Ab (AU (i:=6) (j:=8) I I)<|Aa<|Aj<|AE I<|Aq<|Aj<|Av<|Ae<|Ac I<|Ag I<|Aa<|Am<|Ac I<|Ac I<|Ac I<|Ab (FV.mul (i:=8) (j:=6) (r:=48) I I (by decide))<|Ab (FV.shrU (a:=b0) (j:=48) I I)<|Ab (FV.conv8 (a:=shrU b0 48) underlying30 underlying5 I)<|Ao .plain I (AV (α:=UInt8) (xs:=([aq (shrU b0 48)]:Lb UInt8)) (vs:=[.int .u8 ((aq (shrU b0 48)).toNat:Int)]) (ds' :=[.int .u8 ((aq (shrU b0 48)).toNat:Int)]) I R2 ba I (e1 I) (by kernel_rfl) I) fun p8 q6 I0 D1=>bk h fun Z8 t5 h=>BA .plain I (Bl (α:=UInt8) (ys:=([aq (shrU b0 48)]:Lb UInt8)) t5 I0 (fun _ _=>.t1) ba I I (AO q4 (Tt C1 D1)) (BH (α:=UInt8) I0 .hd (AJ (cs:=[.int .u8 ((aq (shrU b0 48)).toNat:Int)]) (xs:=(([aq (shrU b0 48)]:Lb UInt8):Lb UInt8)) I0 L (AC (cs:=[.int .u8 ((aq (shrU b0 48)).toNat:Int)]) (ds:=[]) I (AR _ _))))) fun C7 q8 ⟨R6,U2,I3,s4⟩=>Ag I<|Aa<|Aw<|Am<|Ab (BL (i:=6) (j:=1) (r:=7) I I (by decide))<|Ac I<|Aa<|Bp ?_
 obtain ⟨V2,E1⟩:=AB U2 .d1
 refine Ae<|Ab (AU (i:=7) (j:=8) I I)<|Aa<|Aj<|AE I<|Aq<|Aj<|Av<|Ae<|Ac I<|Ag I<|Aa<|Am<|Ac I<|Ac I<|Ac I<|Ab (FV.mul (i:=8) (j:=7) (r:=56) I I (by decide))<|Ab (FV.shrU (a:=b0) (j:=56) I I)<|Ab (FV.conv8 (a:=shrU b0 56) underlying30 underlying5 I)<|Ao .plain I (AV (α:=UInt8) (xs:=([aq (shrU b0 56)]:Lb UInt8)) (vs:=[.int .u8 ((aq (shrU b0 56)).toNat:Int)]) (ds' :=[.int .u8 ((aq (shrU b0 56)).toNat:Int)]) I V2 ba I (e1 I) (by kernel_rfl) I) fun s8 s6 J0 F1=>bk h fun M5 u5 h=>BA .plain I (Bl (α:=UInt8) (ys:=([aq (shrU b0 56)]:Lb UInt8)) u5 J0 (fun _ _=>.t1) ba I I (AO s4 (Tt E1 F1)) (BH (α:=UInt8) J0 .hd (AJ (cs:=[.int .u8 ((aq (shrU b0 56)).toNat:Int)]) (xs:=(([aq (shrU b0 56)]:Lb UInt8):Lb UInt8)) J0 L (AC (cs:=[.int .u8 ((aq (shrU b0 56)).toNat:Int)]) (ds:=[]) I (AR _ _))))) fun H5 t8 ⟨u2,W2,J3,t4⟩=>Ag I<|Aa<|Aw<|Am<|Ab (BL (i:=7) (j:=1) (r:=8) I I (by decide))<|Ac I<|Aa<|Bp ?_
 obtain ⟨X2,G1⟩:=AB W2 .d1
 refine Ae<|Ab (AU (i:=8) (j:=8) I I)<|Aa<|Aj<|Bv I<|Ba I<|Aw<|Am<|Ab (Bc (i:=d0) (j:=1) I I (by omega))<|Ac I<|Aa<|z2 (d0 + 1,M5,H5,u2) X2 (Tt B3 (Tt k1 (Tt C3 (Tt p1 (Tt q1 (Tt D3 (Tt s1 (Tt u1 (Tt E3 (Tt v1 (Tt x1 (Tt F3 (Tt y1 (Tt z1 (Tt G3 (Tt A1 (Tt B1 (Tt H3 (Tt C1 (Tt D1 (Tt I3 (Tt E1 (Tt F1 (Tt J3 G1)))))))))))))))))))))))) (AO t4 G1) h
 refine Ba I ?_
 have h:=I4 _ h
 try dsimp only at h
 refine Aw<|Am<|Ab (BL (i:=0) (j:=1) (r:=1) I I (by decide))<|Ac I<|Aa<|Bp<|Ae<|Ab (AU (i:=1) (j:=2) I I)<|Aa<|Aj<|AE I<|Aq<|Aj<|Av<|Ae<|Ab (FV.idx1 (cs:=[v0_1,v0_3]) (k:=1) (m:=1) (len:=2) I I I I I (by omega) I)<|Ag I<|Aa<|Ae<|Ac I<|Ac I ?_
 have d2:=AG h0_3 y0
 have q7:=AX d2
 refine Ab (AY (xs:=a0.fh.fk) underlying105 I d2)<|Ab (FV.convU8 (i:=((a0.fh.fk.length:Nat):Int)) underlying3 underlying5 I)<|Ao .plain I (AV (α:=UInt8) (xs:=([bD ((a0.fh.fk.length:Nat):Int)]:Lb UInt8)) (vs:=[.int .u8 ((bD ((a0.fh.fk.length:Nat):Int)).toNat:Int)]) (ds' :=[.int .u8 ((bD ((a0.fh.fk.length:Nat):Int)).toNat:Int)]) I y0 ba I (e1 I) (by kernel_rfl) I) fun v8 t6 K0 K3=>bk h fun P5 v5 h=>BA .plain I (Bl (α:=UInt8) (ys:=([bD ((a0.fh.fk.length:Nat):Int)]:Lb UInt8)) v5 K0 (fun _ _=>.t1) ba I I (AO c2 K3) (BH (α:=UInt8) K0 .hd (AJ (cs:=[.int .u8 ((bD ((a0.fh.fk.length:Nat):Int)).toNat:Int)]) (xs:=(([bD ((a0.fh.fk.length:Nat):Int)]:Lb UInt8):Lb UInt8)) K0 L (AC (cs:=[.int .u8 ((bD ((a0.fh.fk.length:Nat):Int)).toNat:Int)]) (ds:=[]) I (AR _ _))))) fun I5 x8 ⟨v2,g1,k7,u4⟩=>Ag I<|Aa<|Ae<|Ac I<|Ab (AY (xs:=a0.fh.fk) underlying105 I (AG h0_3 g1))<|Ac I<|Aa<|Av ?_
 obtain ⟨Y2,M3⟩:=AB g1 .d1
 obtain ⟨t7,U4,J4⟩:=am h
 refine BR (α:=Nat × (Lb UInt8) × Vc × (Lb Vc)) (fun ⟨g0,j0,t0,q0⟩=>[(1,vP u0),(3,t0),(15,.agg #[v0_1,v0_3]),(16,vI 1),(25,v0_3),(26,vn a0.fh.fk.length),(27,vn g0)]) (fun ⟨g0,j0,t0,q0⟩=>[rr w 5 UInt8 t0 j0.length q0,.cells u0 [.bool a0.fj.fc,v0_1,.bool a0.fh.fc,v0_3] 109]) (fun ⟨g0,j0,t0,q0⟩ j2=>Cells j2 (bl [rr w 5 UInt8 t0 j0.length q0,.cells u0 [.bool a0.fj.fc,v0_1,.bool a0.fh.fc,v0_3] 109] ++ L) q0 j0) (fun ⟨g0,j0,t0,q0⟩=>(g0,j0)) (0,P5,I5,v2) U4 Y2 (AO u4 M3) ?_
 rintro Y5 ⟨g0,j0,t0,q0⟩ j2 A2 v0 P3 Y0 h
 unfold bX_l1 at h
 try dsimp only at h
 refine Ae<|Ab (AU (i:=g0) (j:=a0.fh.fk.length) I I)<|Aa<|Aj<|AW I h (fun q2 h=>?_) (fun q2 h=>?_)
 refine Aq<|Aj<|Av<|Ae<|bk h fun c0 b5 h=>?_
 obtain ⟨W5,G6,G4,M4,x2,W4,Q4⟩:=Be (AG h0_3 v0) b5
 have H4:x2 = [vU c0]:=W4; subst H4
 refine Ab (Bf 1 g0 I G4 I I M4)<|Bd I (Q4 0 _ I)<|Ag I<|Aa<|Ae<|Ac I<|Aa<|Av<|MX.loop1<|Ae<|Ab (AU (i:=0) (j:=8) I I)<|Aa<|Aj<|AE I<|Aq<|Aj<|Av<|Ae<|Ac I<|Ag I<|Aa<|Am<|Ac I<|Ac I<|Ac I<|Ab (FV.mul (i:=8) (j:=0) (r:=0) I I (by decide))<|Ab (FV.shrU (a:=c0) (j:=0) I I)<|Ab (FV.conv8 (a:=shrU c0 0) underlying30 underlying5 I)<|Ao .plain I (AV (α:=UInt8) (xs:=([aq (shrU c0 0)]:Lb UInt8)) (vs:=[.int .u8 ((aq (shrU c0 0)).toNat:Int)]) (ds' :=[.int .u8 ((aq (shrU c0 0)).toNat:Int)]) I v0 ba I (e1 I) (by kernel_rfl) I) fun y8 u6 M0 H1=>bk h fun b9 x5 h=>BA .plain I (Bl (α:=UInt8) (ys:=([aq (shrU c0 0)]:Lb UInt8)) x5 M0 (fun _ _=>.t1) ba I I (AO Y0 H1) (BH (α:=UInt8) M0 .hd (AJ (cs:=[.int .u8 ((aq (shrU c0 0)).toNat:Int)]) (xs:=(([aq (shrU c0 0)]:Lb UInt8):Lb UInt8)) M0 L (AC (cs:=[.int .u8 ((aq (shrU c0 0)).toNat:Int)]) (ds:=[]) I (AR _ _))))) fun D7 z8 ⟨U6,Z2,Q3,v4⟩=>Ag I<|Aa<|Aw<|Am<|Ab (BL (i:=0) (j:=1) (r:=1) I I (by decide))<|Ac I<|Aa<|Bp ?_
 obtain ⟨b3,I1⟩:=AB Z2 .d1
 refine Ae<|Ab (AU (i:=1) (j:=8) I I)<|Aa<|Aj<|AE I<|Aq<|Aj<|Av<|Ae<|Ac I<|Ag I<|Aa<|Am<|Ac I<|Ac I<|Ac I<|Ab (FV.mul (i:=8) (j:=1) (r:=8) I I (by decide))<|Ab (FV.shrU (a:=c0) (j:=8) I I)<|Ab (FV.conv8 (a:=shrU c0 8) underlying30 underlying5 I)<|Ao .plain I (AV (α:=UInt8) (xs:=([aq (shrU c0 8)]:Lb UInt8)) (vs:=[.int .u8 ((aq (shrU c0 8)).toNat:Int)]) (ds' :=[.int .u8 ((aq (shrU c0 8)).toNat:Int)]) I b3 ba I (e1 I) (by kernel_rfl) I) fun A8 v6 P0 J1=>bk h fun c9 y5 h=>BA .plain I (Bl (α:=UInt8) (ys:=([aq (shrU c0 8)]:Lb UInt8)) y5 P0 (fun _ _=>.t1) ba I I (AO v4 (Tt I1 J1)) (BH (α:=UInt8) P0 .hd (AJ (cs:=[.int .u8 ((aq (shrU c0 8)).toNat:Int)]) (xs:=(([aq (shrU c0 8)]:Lb UInt8):Lb UInt8)) P0 L (AC (cs:=[.int .u8 ((aq (shrU c0 8)).toNat:Int)]) (ds:=[]) I (AR _ _))))) fun E7 B8 ⟨V6,c3,R3,x4⟩=>Ag I<|Aa<|Aw<|Am<|Ab (BL (i:=1) (j:=1) (r:=2) I I (by decide))<|Ac I<|Aa<|Bp ?_
 obtain ⟨d3,K1⟩:=AB c3 .d1
 refine Ae<|Ab (AU (i:=2) (j:=8) I I)<|Aa<|Aj<|AE I<|Aq<|Aj<|Av<|Ae<|Ac I<|Ag I<|Aa<|Am<|Ac I<|Ac I<|Ac I<|Ab (FV.mul (i:=8) (j:=2) (r:=16) I I (by decide))<|Ab (FV.shrU (a:=c0) (j:=16) I I)<|Ab (FV.conv8 (a:=shrU c0 16) underlying30 underlying5 I)<|Ao .plain I (AV (α:=UInt8) (xs:=([aq (shrU c0 16)]:Lb UInt8)) (vs:=[.int .u8 ((aq (shrU c0 16)).toNat:Int)]) (ds' :=[.int .u8 ((aq (shrU c0 16)).toNat:Int)]) I d3 ba I (e1 I) (by kernel_rfl) I) fun C8 x6 Q0 M1=>bk h fun d9 z5 h=>BA .plain I (Bl (α:=UInt8) (ys:=([aq (shrU c0 16)]:Lb UInt8)) z5 Q0 (fun _ _=>.t1) ba I I (AO x4 (Tt K1 M1)) (BH (α:=UInt8) Q0 .hd (AJ (cs:=[.int .u8 ((aq (shrU c0 16)).toNat:Int)]) (xs:=(([aq (shrU c0 16)]:Lb UInt8):Lb UInt8)) Q0 L (AC (cs:=[.int .u8 ((aq (shrU c0 16)).toNat:Int)]) (ds:=[]) I (AR _ _))))) fun F7 D8 ⟨W6,g3,U3,y4⟩=>Ag I<|Aa<|Aw<|Am<|Ab (BL (i:=2) (j:=1) (r:=3) I I (by decide))<|Ac I<|Aa<|Bp ?_
 obtain ⟨j3,P1⟩:=AB g3 .d1
 refine Ae<|Ab (AU (i:=3) (j:=8) I I)<|Aa<|Aj<|AE I<|Aq<|Aj<|Av<|Ae<|Ac I<|Ag I<|Aa<|Am<|Ac I<|Ac I<|Ac I<|Ab (FV.mul (i:=8) (j:=3) (r:=24) I I (by decide))<|Ab (FV.shrU (a:=c0) (j:=24) I I)<|Ab (FV.conv8 (a:=shrU c0 24) underlying30 underlying5 I)<|Ao .plain I (AV (α:=UInt8) (xs:=([aq (shrU c0 24)]:Lb UInt8)) (vs:=[.int .u8 ((aq (shrU c0 24)).toNat:Int)]) (ds' :=[.int .u8 ((aq (shrU c0 24)).toNat:Int)]) I j3 ba I (e1 I) (by kernel_rfl) I) fun E8 y6 R0 Q1=>bk h fun g9 A5 h=>BA .plain I (Bl (α:=UInt8) (ys:=([aq (shrU c0 24)]:Lb UInt8)) A5 R0 (fun _ _=>.t1) ba I I (AO y4 (Tt P1 Q1)) (BH (α:=UInt8) R0 .hd (AJ (cs:=[.int .u8 ((aq (shrU c0 24)).toNat:Int)]) (xs:=(([aq (shrU c0 24)]:Lb UInt8):Lb UInt8)) R0 L (AC (cs:=[.int .u8 ((aq (shrU c0 24)).toNat:Int)]) (ds:=[]) I (AR _ _))))) fun G7 F8 ⟨X6,k3,V3,z4⟩=>Ag I<|Aa<|Aw<|Am<|Ab (BL (i:=3) (j:=1) (r:=4) I I (by decide))<|Ac I<|Aa<|Bp ?_
 obtain ⟨p3,R1⟩:=AB k3 .d1
 refine Ae<|Ab (AU (i:=4) (j:=8) I I)<|Aa<|Aj<|AE I<|Aq<|Aj<|Av<|Ae<|Ac I<|Ag I<|Aa<|Am<|Ac I<|Ac I<|Ac I<|Ab (FV.mul (i:=8) (j:=4) (r:=32) I I (by decide))<|Ab (FV.shrU (a:=c0) (j:=32) I I)<|Ab (FV.conv8 (a:=shrU c0 32) underlying30 underlying5 I)<|Ao .plain I (AV (α:=UInt8) (xs:=([aq (shrU c0 32)]:Lb UInt8)) (vs:=[.int .u8 ((aq (shrU c0 32)).toNat:Int)]) (ds' :=[.int .u8 ((aq (shrU c0 32)).toNat:Int)]) I p3 ba I (e1 I) (by kernel_rfl) I) fun G8 z6 U0 U1=>bk h fun j9 B5 h=>BA .plain I (Bl (α:=UInt8) (ys:=([aq (shrU c0 32)]:Lb UInt8)) B5 U0 (fun _ _=>.t1) ba I I (AO z4 (Tt R1 U1)) (BH (α:=UInt8) U0 .hd (AJ (cs:=[.int .u8 ((aq (shrU c0 32)).toNat:Int)]) (xs:=(([aq (shrU c0 32)]:Lb UInt8):Lb UInt8)) U0 L (AC (cs:=[.int .u8 ((aq (shrU c0 32)).toNat:Int)]) (ds:=[]) I (AR _ _))))) fun H7 H8 ⟨Y6,q3,W3,A4⟩=>Ag I<|Aa<|Aw<|Am<|Ab (BL (i:=4) (j:=1) (r:=5) I I (by decide))<|Ac I<|Aa<|Bp ?_
 obtain ⟨s3,V1⟩:=AB q3 .d1
 refine Ae<|Ab (AU (i:=5) (j:=8) I I)<|Aa<|Aj<|AE I<|Aq<|Aj<|Av<|Ae<|Ac I<|Ag I<|Aa<|Am<|Ac I<|Ac I<|Ac I<|Ab (FV.mul (i:=8) (j:=5) (r:=40) I I (by decide))<|Ab (FV.shrU (a:=c0) (j:=40) I I)<|Ab (FV.conv8 (a:=shrU c0 40) underlying30 underlying5 I)<|Ao .plain I (AV (α:=UInt8) (xs:=([aq (shrU c0 40)]:Lb UInt8)) (vs:=[.int .u8 ((aq (shrU c0 40)).toNat:Int)]) (ds' :=[.int .u8 ((aq (shrU c0 40)).toNat:Int)]) I s3 ba I (e1 I) (by kernel_rfl) I) fun I8 A6 V0 W1=>bk h fun k9 C5 h=>BA .plain I (Bl (α:=UInt8) (ys:=([aq (shrU c0 40)]:Lb UInt8)) C5 V0 (fun _ _=>.t1) ba I I (AO A4 (Tt V1 W1)) (BH (α:=UInt8) V0 .hd (AJ (cs:=[.int .u8 ((aq (shrU c0 40)).toNat:Int)]) (xs:=(([aq (shrU c0 40)]:Lb UInt8):Lb UInt8)) V0 L (AC (cs:=[.int .u8 ((aq (shrU c0 40)).toNat:Int)]) (ds:=[]) I (AR _ _))))) fun I7 J8 ⟨Z6,t3,X3,B4⟩=>Ag I<|Aa<|Aw<|Am<|Ab (BL (i:=5) (j:=1) (r:=6) I I (by decide))<|Ac I<|Aa<|Bp ?_
 obtain ⟨u3,X1⟩:=AB t3 .d1
 refine Ae<|Ab (AU (i:=6) (j:=8) I I)<|Aa<|Aj<|AE I<|Aq<|Aj<|Av<|Ae<|Ac I<|Ag I<|Aa<|Am<|Ac I<|Ac I<|Ac I<|Ab (FV.mul (i:=8) (j:=6) (r:=48) I I (by decide))<|Ab (FV.shrU (a:=c0) (j:=48) I I)<|Ab (FV.conv8 (a:=shrU c0 48) underlying30 underlying5 I)<|Ao .plain I (AV (α:=UInt8) (xs:=([aq (shrU c0 48)]:Lb UInt8)) (vs:=[.int .u8 ((aq (shrU c0 48)).toNat:Int)]) (ds' :=[.int .u8 ((aq (shrU c0 48)).toNat:Int)]) I u3 ba I (e1 I) (by kernel_rfl) I) fun K8 B6 W0 Y1=>bk h fun p9 D5 h=>BA .plain I (Bl (α:=UInt8) (ys:=([aq (shrU c0 48)]:Lb UInt8)) D5 W0 (fun _ _=>.t1) ba I I (AO B4 (Tt X1 Y1)) (BH (α:=UInt8) W0 .hd (AJ (cs:=[.int .u8 ((aq (shrU c0 48)).toNat:Int)]) (xs:=(([aq (shrU c0 48)]:Lb UInt8):Lb UInt8)) W0 L (AC (cs:=[.int .u8 ((aq (shrU c0 48)).toNat:Int)]) (ds:=[]) I (AR _ _))))) fun J7 M8 ⟨b7,v3,Y3,C4⟩=>Ag I<|Aa<|Aw<|Am<|Ab (BL (i:=6) (j:=1) (r:=7) I I (by decide))<|Ac I<|Aa<|Bp ?_
 obtain ⟨x3,Z1⟩:=AB v3 .d1
 refine Ae<|Ab (AU (i:=7) (j:=8) I I)<|Aa<|Aj<|AE I<|Aq<|Aj<|Av<|Ae<|Ac I<|Ag I<|Aa<|Am<|Ac I<|Ac I<|Ac I<|Ab (FV.mul (i:=8) (j:=7) (r:=56) I I (by decide))<|Ab (FV.shrU (a:=c0) (j:=56) I I)<|Ab (FV.conv8 (a:=shrU c0 56) underlying30 underlying5 I)<|Ao .plain I (AV (α:=UInt8) (xs:=([aq (shrU c0 56)]:Lb UInt8)) (vs:=[.int .u8 ((aq (shrU c0 56)).toNat:Int)]) (ds' :=[.int .u8 ((aq (shrU c0 56)).toNat:Int)]) I x3 ba I (e1 I) (by kernel_rfl) I) fun P8 C6 X0 b2=>bk h fun Q5 E5 h=>BA .plain I (Bl (α:=UInt8) (ys:=([aq (shrU c0 56)]:Lb UInt8)) E5 X0 (fun _ _=>.t1) ba I I (AO C4 (Tt Z1 b2)) (BH (α:=UInt8) X0 .hd (AJ (cs:=[.int .u8 ((aq (shrU c0 56)).toNat:Int)]) (xs:=(([aq (shrU c0 56)]:Lb UInt8):Lb UInt8)) X0 L (AC (cs:=[.int .u8 ((aq (shrU c0 56)).toNat:Int)]) (ds:=[]) I (AR _ _))))) fun F5 Q8 ⟨y2,y3,Z3,D4⟩=>Ag I<|Aa<|Aw<|Am<|Ab (BL (i:=7) (j:=1) (r:=8) I I (by decide))<|Ac I<|Aa<|Bp ?_
 obtain ⟨B2,j1⟩:=AB y3 .d1
 refine Ae<|Ab (AU (i:=8) (j:=8) I I)<|Aa<|Aj<|Bv I<|Ba I<|Aw<|Am<|Ab (Bc (i:=g0) (j:=1) I I (by omega))<|Ac I<|Aa<|A2 (g0 + 1,Q5,F5,y2) B2 (Tt P3 (Tt H1 (Tt Q3 (Tt I1 (Tt J1 (Tt R3 (Tt K1 (Tt M1 (Tt U3 (Tt P1 (Tt Q1 (Tt V3 (Tt R1 (Tt U1 (Tt W3 (Tt V1 (Tt W1 (Tt X3 (Tt X1 (Tt Y1 (Tt Y3 (Tt Z1 (Tt b2 (Tt Z3 j1)))))))))))))))))))))))) (AO D4 j1) h
 refine Ba I ?_
 have h:=J4 _ h
 try dsimp only at h
 refine Aw<|Am<|Ab (BL (i:=1) (j:=1) (r:=2) I I (by decide))<|Ac I<|Aa<|Bp<|Ae<|Ab (AU (i:=2) (j:=2) I I)<|Aa<|Aj<|Bv I<|Ba I<|Aj<|Ae<|Bk 0 I<|Bk 0 I<|Bd I ((fF (v0.memA .t1) 0) 0 _ I)<|Aa<|MX.ifb I h (fun k2 h=>?_) (fun k2 h=>?_)
 refine Am<|Ac I<|Ao .plain I (jA 45 (.int .u8 45) v0 ba (e1 I)) fun K7 Z5 z0 z3=>bk h fun J5 c5 h=>BA .plain I (Bl (α:=UInt8) (ys:=([45]:Lb UInt8)) c5 z0 (fun _ _=>.t1) ba I I (AO Y0 z3) (BH (α:=UInt8) z0 .hd (jC 45 (.int .u8 45) z0 L I))) fun u7 M7 ⟨H6,b1,c7,b4⟩=>Ag I<|Aa<|Ae<|Ac I<|Ab (FV.bytesS (xs:=J5) underlying63 underlying9 underlying5 I (BH (α:=UInt8) b1 .t1 b4))<|Ag I<|Aa<|Ar I<|Bb hb0 func85 I I ?_
 cases h
 exact b1.gv
 refine Aq<|Ae<|Ac I<|Ab (FV.bytesS (xs:=j0) underlying63 underlying9 underlying5 I (BH (α:=UInt8) v0 .hd Y0))<|Ag I<|Aa<|Ar I<|Bb hb0 func85 I I ?_
 cases h
 exact v0.gv
end Go.Proofs.YtkommhmbkbhmlaaGreat
