import Derived.Test.YtlleajifdbnbaaaGreatDoorQF2
namespace Go.Proofs.YtlleajifdbnbaaaGreatDoor
open Go Go.RowKit Tryz
set_option maxRecDepth 4000
set_option maxHeartbeats 4000000

def bf_p (n:Nat):Option Bool:=
  (bt_p n).bind fun y1=>(az_p n (⟨(77:UInt64)⟩:Ta) (1:Int)).bind fun v0=>(br_p n ([(0:Int),(1:Int),(2:Int),(1:Int),(3:Int)]:List Int)).bind fun q0=>(aY_p n q0.1 q0.2 ([(0:Int),(1:Int),(3:Int)]:List Int)).bind fun u0=>(if u0 = true then (br_p n ([(5:Int),(5:Int),(5:Int)]:List Int)).bind fun s0=>(aY_p n s0.1 s0.2 ([(5:Int)]:List Int)).bind fun x0=>(if x0 = true then (br_p n ([]:List Int)).bind fun t0=>(bh_p n t0.1 t0.2 (4:Int)).bind fun y0=>(if y0 = true then (ah_p n y1 (15:UInt64) (2:Int) (4:UInt64) (⟨(77:UInt64)⟩:Ta)).bind fun b0=>(aN_p n b0.1 b0.2.1 b0.2.2 ([(2:Int)]:List Int) (⟨(77:UInt64)⟩:Ta)).bind fun z0=>(if z0 = true then (ah_p n y1 (5:UInt64) (2:Int) (1:UInt64) (⟨(77:UInt64)⟩:Ta)).bind fun c0=>(aC_p n c0.1 c0.2.1 c0.2.2 (4:Int)).bind fun A0=>(if A0 = true then (ah_p n y1 (3:UInt64) (2:Int) (1:UInt64) (⟨(77:UInt64)⟩:Ta)).bind fun d0=>(aC_p n d0.1 d0.2.1 d0.2.2 (2:Int)).bind fun B0=>(if B0 = true then (ah_p n y1 (3:UInt64) (1:Int) (1:UInt64) (⟨(77:UInt64)⟩:Ta)).bind fun g0=>(aN_p n g0.1 g0.2.1 g0.2.2 ([(1:Int),(0:Int)]:List Int) v0.2.1).bind fun C0=>(if C0 = true then (ab_p n y1 (4:UInt64) (⟨(77:UInt64)⟩:Ta)).bind fun j0=>(aN_p n j0.1 j0.2.1 j0.2.2 ([]:List Int) (⟨(77:UInt64)⟩:Ta)).bind fun D0=>(if D0 = true then (ab_p n y1 (5:UInt64) (⟨(77:UInt64)⟩:Ta)).bind fun k0=>(aC_p n k0.1 k0.2.1 k0.2.2 (4:Int)).bind fun E0=>(if E0 = true then (ab_p n y1 (0:UInt64) (⟨(77:UInt64)⟩:Ta)).bind fun p0=>(aC_p n p0.1 p0.2.1 p0.2.2 (2:Int)).bind fun F0=>some F0 else some false) else some false) else some false) else some false) else some false) else some false) else some false) else some false) else some false)
theorem bf_c (n:Nat) {L w} (hL:hl L w) (hG0:Glob 0 tab0 w)  {r:Bool} (h:bf_p n = some r) :
 Cl 5 #[] w (ah w fun _ u=>u = .bool r):=by
 unfold bf_p at h
 have hS0:=AF w
 refine AG func5 rfl rfl rfl fun _ cs0 hb0=>Af<|Ae rfl<|Aa<|Af<|bk h fun y1 hy1 h=>jE (bd 13) rfl aj (fun p q=>bt_c n (hS0.hL hL q)  hy1) rfl fun w2 vu3 hag4 ⟨v7,hu_,hr8⟩=>?_
 subst hu_
 obtain ⟨hS5,hT6⟩:=hS0.agr hag4
 refine Ab (AL (vs:=[vW 77]) (u:=.agg #[vW 77]) (e1 rfl) (fun p=>by kernel_rfl))<|RG.nl [vI 0,vN] hS5 fun M8 E0 u4 P2=>RG.nl [vW 0] u4 fun Q8 G0 v4 U2=>AX [vI y1.fN,v7] v4 .t1 (o2 rfl (By (Aw hr8 (Tt P2 U2)))) fun R8 x4 H4=>AX [vW 77] x4 .hd (o1 rfl) fun V8 g2 I4=>Aa<|Af<|Ab (AK rfl (g2.memA .hd))<|bk h fun p0 j6 h=>BA (.tuple #[vI p0.1,.agg #[vU p0.2.1.fc],vI p0.2.2]) (bd 14) rfl (e2 rfl rfl) (fun p q=>az_c n (g2.hL0 hL q) (⟨(77:UInt64)⟩:Ta) j6) rfl<|Ac rfl<|Ab (Am rfl rfl)<|Ab (Am rfl rfl)<|Ab (Am rfl rfl)<|RG.nl [vW 0] g2 fun W8 I0 z4 J4=>Ae rfl<|AX [vU p0.2.1.fc] z4 .hd (o1 rfl) fun p9 z2 b5=>Ae rfl<|Aa<|Aj<|du 99 fun b0 c0=>RD.mf (α:=Value × (List Value) × Value × Nat) (fun ⟨Q0,U0,X0,F0⟩=>[(0,.bool false),(1,vP E0),(2,vP G0),(4,vP I0),(15,.func (.func 40) #[] #[vP F0]),(16,Q0)]) (fun ⟨Q0,U0,X0,F0⟩=>[rr w 3 Int Q0 (([(0:Int),(1:Int),(2:Int),(1:Int),(3:Int)]:List Int).length) U0,.cells F0 [X0] 41,.cells I0 [vU p0.2.1.fc] 30,.cells G0 [vW 77] 30,.cells E0 [vI y1.fN,v7] 34]) (fun ⟨Q0,U0,X0,F0⟩ I2=>Cells I2 (bl [rr w 3 Int Q0 (([(0:Int),(1:Int),(2:Int),(1:Int),(3:Int)]:List Int).length) U0,.cells F0 [X0] 41,.cells I0 [vU p0.2.1.fc] 30,.cells G0 [vW 77] 30,.cells E0 [vI y1.fN,v7] 34] ++ L) U0 (([(0:Int),(1:Int),(2:Int),(1:Int),(3:Int)]:List Int):List Int)/\Rep.R I2 (bl [rr w 3 Int Q0 (([(0:Int),(1:Int),(2:Int),(1:Int),(3:Int)]:List Int).length) U0,.cells F0 [X0] 41,.cells I0 [vU p0.2.1.fc] 30,.cells G0 [vW 77] 30,.cells E0 [vI y1.fN,v7] 34] ++ L) [X0] ([(0:Int),(1:Int),(3:Int)]:List Int)) z2 96 7 ?_ ?_
 rintro ⟨Q0,U0,X0,F0⟩ I2 c2 G4 ⟨z5,B5⟩
 try dsimp only
 have d2:=Bt c2 .hd
 have Q2:=Bu c2 .hd
 refine bk h fun v9 d6 h=>RD.cl 3 15 b0 rfl .plain (bd 16) rfl (e1 rfl) (fun p q=>br_c n (d2.hL hL q) (Ax (Bv (α:=Int) (v:=Q0) (xs:=([(0:Int),(1:Int),(2:Int),(1:Int),(3:Int)]:List Int)) d2 L (Bf (α:=Int) c2 .hd z5 hL)) q) d6) rfl fun P8 j8 c5 ⟨U7,hu_,C5⟩=>?_
 subst hu_
 obtain ⟨J0,R2⟩:=d2.agr c5
 refine Rv 4 b0 rfl c0 (fun _=>Am rfl rfl)<|Rv 5 b0 rfl c0 (fun _=>Am rfl rfl)<|bk h fun b7 g6 h=>RD.callq (i:=6) (m' :=127) (W:=633825300114114700748351602560) (tk b0) rfl c0 (v:=.bool b7) (fst:=[]) (cap:=[vP F0]) .plain (bd 40) rfl (e2 rfl rfl) (fun p q=>aY_c n (J0.hL0 hL q) (J0.kd C5 q) (J0.kd (Aw B5 (Tt Q2 R2)) q) (aG q (J0.memA .hd)) g6) rfl<|Rv 7 b0 rfl c0 (fun _=>Ag rfl)<|RD.ifb (s:=21) rfl h (fun b4 h=>?_) (fun b4 h=>?_)
 refine RD.mf (α:=Value × (List Value) × Value × Nat) (fun ⟨R0,V0,Y0,H0⟩=>[(0,.bool false),(1,vP E0),(2,vP G0),(4,vP I0),(21,.bool true),(23,.func (.func 40) #[] #[vP H0]),(24,R0)]) (fun ⟨R0,V0,Y0,H0⟩=>[rr w 3 Int R0 (([(5:Int),(5:Int),(5:Int)]:List Int).length) V0,.cells H0 [Y0] 41,.cells I0 [vU p0.2.1.fc] 30,.cells G0 [vW 77] 30,.cells E0 [vI y1.fN,v7] 34]) (fun ⟨R0,V0,Y0,H0⟩ J2=>Cells J2 (bl [rr w 3 Int R0 (([(5:Int),(5:Int),(5:Int)]:List Int).length) V0,.cells H0 [Y0] 41,.cells I0 [vU p0.2.1.fc] 30,.cells G0 [vW 77] 30,.cells E0 [vI y1.fN,v7] 34] ++ L) V0 (([(5:Int),(5:Int),(5:Int)]:List Int):List Int)/\Rep.R J2 (bl [rr w 3 Int R0 (([(5:Int),(5:Int),(5:Int)]:List Int).length) V0,.cells H0 [Y0] 41,.cells I0 [vU p0.2.1.fc] 30,.cells G0 [vW 77] 30,.cells E0 [vI y1.fN,v7] 34] ++ L) [Y0] ([(5:Int)]:List Int)) J0 88 2047 ?_ ?_
 rintro ⟨R0,V0,Y0,H0⟩ J2 j2 K4 ⟨A5,D5⟩
 try dsimp only
 have k2:=Bt j2 .hd
 have W2:=Bu j2 .hd
 refine bk h fun x9 k6 h=>RD.cl 11 4095 b0 rfl (.yes rfl rfl) (bd 16) rfl (e1 rfl) (fun p q=>br_c n (k2.hL hL q) (Ax (Bv (α:=Int) (v:=R0) (xs:=([(5:Int),(5:Int),(5:Int)]:List Int)) k2 L (Bf (α:=Int) j2 .hd A5 hL)) q) k6) rfl fun P6 p8 g5 ⟨V7,hu_,E5⟩=>?_
 subst hu_
 obtain ⟨K0,X2⟩:=k2.agr g5
 refine RD.vP 12 8191 b0 rfl c0 (.yes rfl rfl) (fun _=>Am rfl rfl) rfl<|RD.vP 13 16383 b0 rfl c0 (.yes rfl rfl) (fun _=>Am rfl rfl) rfl<|bk h fun c7 p6 h=>RD.callq (i:=14) (m' :=32767) (W:=633825300114114700748351569920) (tk b0) rfl c0 (v:=.bool c7) (fst:=[]) (cap:=[vP H0]) (.yes rfl rfl) (bd 40) rfl (e2 rfl rfl) (fun p q=>aY_c n (K0.hL0 hL q) (K0.kd E5 q) (K0.kd (Aw D5 (Tt W2 X2)) q) (aG q (K0.memA .hd)) p6) rfl<|Rv 15 b0 rfl c0 (fun _=>Bj rfl rfl)<|Rv 16 b0 rfl c0 (fun _=>Ag rfl)<|RD.ifb (s:=30) rfl h (fun c4 h=>?_) (fun c4 h=>?_)
 refine RD.cl 17 262143 b0 rfl (.yes rfl rfl) (bd 17) rfl (e1 rfl) (fun p q=>BC (bF_c n (K0.hL hL q) (4:Int)) fun (w8:World) (u8:Value) ⟨b0_,hu_,s_⟩=>(⟨b0_,hu_,s_.from q⟩:∃ A1:Nat,u8 = Value.func (.func 41) #[] #[vP A1]/\St P6 w8 [.cells A1 [vI 4] 42])) rfl fun X8 q8 G7 ⟨A1,R5,P3⟩=>?_
 subst R5
 have p2:=aD K0 P3
 have M4:=bb K0 P3
 refine bk h fun y9 q6 h=>RD.cl 18 524287 b0 rfl (.yes rfl rfl) (bd 16) rfl (e1 rfl) (fun p q=>br_c n (p2.hL hL q) (Ax (Bo (α:=Int) p2 L) q) q6) rfl fun Y8 s8 j5 ⟨W7,hu_,F5⟩=>?_
 subst hu_
 obtain ⟨M0,P4⟩:=p2.agr j5
 refine RD.vP 19 1048575 b0 rfl c0 (.yes rfl rfl) (fun _=>Am rfl rfl) rfl<|RD.vP 20 2097151 b0 rfl c0 (.yes rfl rfl) (fun _=>Am rfl rfl) rfl<|bk h fun d7 s6 h=>RD.callq (i:=21) (m' :=4194303) (W:=633825300114114700748347408384) (tk b0) rfl c0 (v:=.bool d7) (fst:=[]) (cap:=[vP A1]) (.yes rfl rfl) (bd 41) rfl (e2 rfl rfl) (fun p q=>bh_c n (M0.hL0 hL q) (M0.kd F5 q) (aG q (M0.memA .hd)) s6) rfl<|Rv 22 b0 rfl c0 (fun _=>Bj rfl rfl)<|Rv 23 b0 rfl c0 (fun _=>Ag rfl)<|RD.ifb (s:=37) rfl h (fun d4 h=>?_) (fun d4 h=>?_)
 refine RD.val (i:=24) (m' :=33554431) (W:=633825300114114700747881840640) (tk b0) rfl c0 (.yes rfl rfl) (AK rfl (M0.memA .t3)) rfl<|RD.val (i:=27) (m' :=167772159) (W:=633825300114114700747814731776) (tk b0) rfl c0 (.yes rfl rfl) (AK rfl (M0.memA .t4)) rfl<|RD.val (i:=28) (m' :=436207615) (W:=633825300114114700747814731776) (tk b0) rfl c0 (.yes rfl rfl) (AK rfl (M0.memA .t3)) rfl<|RD.nu 25 469762047 b0 rfl (.yes rfl rfl) rfl (jA ((2:Int)) (vI 2) M0 aq (e1 rfl)) fun Q6 K2 P1 Q4=>?_
 have Q1:=Bt P1 .hd
 have R4:=Bu P1 .hd
 have I3:=Bv (α:=Int) (v:=(vS K2 1)) (xs:=([(2:Int)]:List Int)) Q1 L (Bf (α:=Int) P1 .hd (jC ((2:Int)) (vI 2) P1 L rfl) hL)
 refine RD.cl 26 536870911 b0 rfl (.yes rfl rfl) (bd 18) rfl (e2 rfl rfl) (fun p q=>BC (bC_c n (Q1.hL hL q) (⟨(77:UInt64)⟩:Ta) ([(2:Int)]:List Int) (Ax I3 q)) fun (w8:World) (u8:Value) ⟨b0_,b1_,hu_,s_⟩=>(⟨b0_,b1_,hu_,s_.from q⟩:∃ B1 C1:Nat,u8 = Value.func (.func 42) #[] #[vP B1,vP C1]/\St Q6 w8 [.cells B1 [(vS K2 1)] 41,.cells C1 [vW 77] 30])) rfl fun Z8 v8 H7 ⟨B1,C1,U5,Q3⟩=>?_
 subst U5
 have q2:=dG Q1 Q3
 have Y2:=fF Q1 Q3
 refine bk h fun g7 u6 h=>?_
 have v3:=Tt P2 (Tt U2 (Tt H4 (Tt I4 (Tt J4 (Tt b5 (Tt G4 (Tt Q2 (Tt R2 (Tt K4 (Tt W2 (Tt X2 (Tt M4 (Tt P4 (Tt Q4 (Tt R4 Y2)))))))))))))))
 refine RD.cl 29 1073741823 b0 rfl (.yes rfl rfl) (bd 8) rfl (e5 rfl rfl rfl rfl rfl) (fun p q=>ah_c n (q2.hL hL q) y1 (Ax (Aw hr8 v3) q) (15:UInt64) (4:UInt64) (⟨(77:UInt64)⟩:Ta) (hG0.keep (q2.ag.trans q)) u6) rfl fun R6 x8 k5 ⟨X7,hu_,G5⟩=>?_
 subst hu_
 obtain ⟨q0,Z2⟩:=q2.agr k5
 refine RD.vP 30 2147483647 b0 rfl c0 (.yes rfl rfl) (fun _=>Am rfl rfl) rfl<|RD.vP 31 4294967295 b0 rfl c0 (.yes rfl rfl) (fun _=>Am rfl rfl) rfl<|RD.vP 32 8589934591 b0 rfl c0 (.yes rfl rfl) (fun _=>Am rfl rfl) rfl<|bk h fun j7 v6 h=>RD.callq (i:=33) (m' :=17179869183) (W:=633825300114114700731171733504) (tk b0) rfl c0 (v:=.bool j7) (fst:=[]) (cap:=[vP B1,vP C1]) (.yes rfl rfl) (bd 42) rfl (e3 rfl rfl rfl) (fun p q=>aN_c n (q0.hL0 hL q) (q0.kd G5 q) g7.2.1 (q0.kd (Aw I3 (Tt Y2 Z2)) q) (aG q (q0.memA .hd)) (⟨(77:UInt64)⟩:Ta) (aG q (q0.memA .t1)) v6) rfl<|Rv 34 b0 rfl c0 (fun _=>Bj rfl rfl)<|Rv 35 b0 rfl c0 (fun _=>Ag rfl)<|RD.ifb (s:=49) rfl h (fun g4 h=>?_) (fun g4 h=>?_)
 refine RD.val (i:=37) (m' :=206158430207) (W:=633825300114114700198595788800) (tk b0) rfl c0 (.yes rfl rfl) (AK rfl (q0.memA .t6)) rfl<|RD.val (i:=38) (m' :=481036337151) (W:=633825300114114700198595788800) (tk b0) rfl c0 (.yes rfl rfl) (AK rfl (q0.memA .t5)) rfl<|RD.cl 36 549755813887 b0 rfl (.yes rfl rfl) (bd 19) rfl (e1 rfl) (fun p q=>BC (bw_c n (q0.hL hL q) (4:Int)) fun (w8:World) (u8:Value) ⟨b0_,hu_,s_⟩=>(⟨b0_,hu_,s_.from q⟩:∃ D1:Nat,u8 = Value.func (.func 43) #[] #[vP D1]/\St R6 w8 [.cells D1 [vI 4] 42])) rfl fun b9 y8 I7 ⟨D1,V5,R3⟩=>?_
 subst V5
 have s2:=aD q0 R3
 refine bk h fun k7 x6 h=>?_
 have x3:=Tt v3 (Tt Z2 (bb q0 R3))
 refine RD.cl 39 1099511627775 b0 rfl (.yes rfl rfl) (bd 8) rfl (e5 rfl rfl rfl rfl rfl) (fun p q=>ah_c n (s2.hL hL q) y1 (Ax (Aw hr8 x3) q) (5:UInt64) (1:UInt64) (⟨(77:UInt64)⟩:Ta) (hG0.keep (s2.ag.trans q)) x6) rfl fun U6 z8 p5 ⟨Y7,hu_,H5⟩=>?_
 subst hu_
 obtain ⟨C0,U4⟩:=s2.agr p5
 refine RD.vP 40 2199023255551 b0 rfl c0 (.yes rfl rfl) (fun _=>Am rfl rfl) rfl<|RD.vP 41 4398046511103 b0 rfl c0 (.yes rfl rfl) (fun _=>Am rfl rfl) rfl<|RD.vP 42 8796093022207 b0 rfl c0 (.yes rfl rfl) (fun _=>Am rfl rfl) rfl<|bk h fun p7 y6 h=>RD.callq (i:=43) (m' :=17592186044415) (W:=633825300114114683156165558272) (tk b0) rfl c0 (v:=.bool p7) (fst:=[]) (cap:=[vP D1]) (.yes rfl rfl) (bd 43) rfl (e3 rfl rfl rfl) (fun p q=>aC_c n (C0.hL0 hL q) (C0.kd H5 q) k7.2.1 (aG q (C0.memA .hd)) y6) rfl<|Rv 44 b0 rfl c0 (fun _=>Bj rfl rfl)<|Rv 45 b0 rfl c0 (fun _=>Ag rfl)<|RD.ifb (s:=59) rfl h (fun j4 h=>?_) (fun j4 h=>?_)
 refine RD.val (i:=47) (m' :=211106232532991) (W:=633825300114114137798398181376) (tk b0) rfl c0 (.yes rfl rfl) (AK rfl (C0.memA .t7)) rfl<|RD.val (i:=48) (m' :=492581209243647) (W:=633825300114114137798398181376) (tk b0) rfl c0 (.yes rfl rfl) (AK rfl (C0.memA .t6)) rfl<|RD.cl 46 562949953421311 b0 rfl (.yes rfl rfl) (bd 19) rfl (e1 rfl) (fun p q=>BC (bw_c n (C0.hL hL q) (2:Int)) fun (w8:World) (u8:Value) ⟨b0_,hu_,s_⟩=>(⟨b0_,hu_,s_.from q⟩:∃ E1:Nat,u8 = Value.func (.func 43) #[] #[vP E1]/\St U6 w8 [.cells E1 [vI 2] 42])) rfl fun c9 A8 J7 ⟨E1,W5,U3⟩=>?_
 subst W5
 have t2:=aD C0 U3
 refine bk h fun q7 z6 h=>?_
 have y3:=Tt x3 (Tt U4 (bb C0 U3))
 refine RD.cl 49 1125899906842623 b0 rfl (.yes rfl rfl) (bd 8) rfl (e5 rfl rfl rfl rfl rfl) (fun p q=>ah_c n (t2.hL hL q) y1 (Ax (Aw hr8 y3) q) (3:UInt64) (1:UInt64) (⟨(77:UInt64)⟩:Ta) (hG0.keep (t2.ag.trans q)) z6) rfl fun d9 B8 q5 ⟨Z7,hu_,I5⟩=>?_
 subst hu_
 obtain ⟨P0,V4⟩:=t2.agr q5
 refine RD.vP 50 2251799813685247 b0 rfl c0 (.yes rfl rfl) (fun _=>Am rfl rfl) rfl<|RD.vP 51 4503599627370495 b0 rfl c0 (.yes rfl rfl) (fun _=>Am rfl rfl) rfl<|RD.vP 52 9007199254740991 b0 rfl c0 (.yes rfl rfl) (fun _=>Am rfl rfl) rfl<|bk h fun s7 A6 h=>RD.callq (i:=53) (m' :=18014398509481983) (W:=633825300114096686349842120704) (tk b0) rfl c0 (v:=.bool s7) (fst:=[]) (cap:=[vP E1]) (.yes rfl rfl) (bd 43) rfl (e3 rfl rfl rfl) (fun p q=>aC_c n (P0.hL0 hL q) (P0.kd I5 q) q7.2.1 (aG q (P0.memA .hd)) A6) rfl<|Rv 54 b0 rfl c0 (fun _=>Bj rfl rfl)<|Rv 55 b0 rfl c0 (fun _=>Ag rfl)<|RD.ifb (s:=69) rfl h (fun k4 h=>?_) (fun k4 h=>?_)
 refine RD.val (i:=56) (m' :=144115188075855871) (W:=633825300112097088115289620480) (tk b0) rfl c0 (.yes rfl rfl) (AK rfl (P0.memA .t6)) rfl<|RD.val (i:=59) (m' :=720575940379279359) (W:=633825300111808857739137908736) (tk b0) rfl c0 (.yes rfl rfl) (AK rfl (P0.memA .t8)) rfl<|RD.val (i:=60) (m' :=1873497444986126335) (W:=633825300111808857739137908736) (tk b0) rfl c0 (.yes rfl rfl) (AK rfl (P0.memA .t7)) rfl<|RD.nu 57 2017612633061982207 b0 rfl (.yes rfl rfl) rfl (AO (α:=Int) (xs:=([(1:Int),(0:Int)]:List Int)) (vs:=[vI 1,vI 0]) (ds' :=[vI 1,vI 0]) rfl P0 aq rfl (e2 rfl rfl) (by kernel_rfl) rfl) fun V6 M2 R1 W4=>?_
 have U1:=Bt R1 .hd
 have X4:=Bu R1 .hd
 have J3:=Bv (α:=Int) (v:=(vS M2 2)) (xs:=([(1:Int),(0:Int)]:List Int)) U1 L (Bf (α:=Int) R1 .hd (AE (cs:=[vI 1,vI 0]) (xs:=(([(1:Int),(0:Int)]:List Int):List Int)) R1 L (Ay (cs:=[vI 1]) (ds:=[vI 0]) rfl (Ay (cs:=[vI 0]) (ds:=[]) rfl (AJ _ _)))) hL)
 refine RD.cl 58 2305843009213693951 b0 rfl (.yes rfl rfl) (bd 18) rfl (e2 rfl rfl) (fun p q=>BC (bC_c n (U1.hL hL q) p0.2.1 ([(1:Int),(0:Int)]:List Int) (Ax J3 q)) fun (w8:World) (u8:Value) ⟨b0_,b1_,hu_,s_⟩=>(⟨b0_,b1_,hu_,s_.from q⟩:∃ F1 G1:Nat,u8 = Value.func (.func 42) #[] #[vP F1,vP G1]/\St V6 w8 [.cells F1 [(vS M2 2)] 41,.cells G1 [vU p0.2.1.fc] 30])) rfl fun g9 C8 K7 ⟨F1,G1,X5,V3⟩=>?_
 subst X5
 have u2:=dG U1 V3
 have b3:=fF U1 V3
 refine bk h fun u7 B6 h=>?_
 have z3:=Tt y3 (Tt V4 (Tt W4 (Tt X4 b3)))
 refine RD.cl 61 4611686018427387903 b0 rfl (.yes rfl rfl) (bd 8) rfl (e5 rfl rfl rfl rfl rfl) (fun p q=>ah_c n (u2.hL hL q) y1 (Ax (Aw hr8 z3) q) (3:UInt64) (1:UInt64) (⟨(77:UInt64)⟩:Ta) (hG0.keep (u2.ag.trans q)) B6) rfl fun W6 D8 s5 ⟨b8,hu_,J5⟩=>?_
 subst hu_
 obtain ⟨k0,c3⟩:=u2.agr s5
 refine RD.vP 62 9223372036854775807 b0 rfl c0 (.yes rfl rfl) (fun _=>Am rfl rfl) rfl<|RD.vP 63 18446744073709551615 b0 rfl c0 (.yes rfl rfl) (fun _=>Am rfl rfl) rfl<|RD.vP 64 36893488147419103231 b0 rfl c0 (.yes rfl rfl) (fun _=>Am rfl rfl) rfl<|bk h fun x7 C6 h=>RD.callq (i:=65) (m' :=73786976294838206463) (W:=633825300040327724453513396224) (tk b0) rfl c0 (v:=.bool x7) (fst:=[]) (cap:=[vP F1,vP G1]) (.yes rfl rfl) (bd 42) rfl (e3 rfl rfl rfl) (fun p q=>aN_c n (k0.hL0 hL q) (k0.kd J5 q) u7.2.1 (k0.kd (Aw J3 (Tt b3 c3)) q) (aG q (k0.memA .hd)) p0.2.1 (aG q (k0.memA .t1)) C6) rfl<|Rv 66 b0 rfl c0 (fun _=>Bj rfl rfl)<|Rv 67 b0 rfl c0 (fun _=>Ag rfl)<|RD.ifb (s:=81) rfl h (fun p4 h=>?_) (fun p4 h=>?_)
 refine RD.val (i:=68) (m' :=590295810358705651711) (W:=633825295982044028237412040704) (tk b0) rfl c0 (.yes rfl rfl) (AK rfl (k0.memA .t9)) rfl<|RD.val (i:=70) (m' :=1770887431076116955135) (W:=633825295391748217878706388992) (tk b0) rfl c0 (.yes rfl rfl) (AK rfl (k0.memA .t10)) rfl<|RD.val (i:=71) (m' :=4132070672510939561983) (W:=633825295391748217878706388992) (tk b0) rfl c0 (.yes rfl rfl) (AK rfl (k0.memA .t9)) rfl<|RD.cl 69 4722366482869645213695 b0 rfl (.yes rfl rfl) (bd 18) rfl (e2 rfl rfl) (fun p q=>BC (bC_c n (k0.hL hL q) (⟨(77:UInt64)⟩:Ta) ([]:List Int) (Ax (Bo (α:=Int) k0 L) q)) fun (w8:World) (u8:Value) ⟨b0_,b1_,hu_,s_⟩=>(⟨b0_,b1_,hu_,s_.from q⟩:∃ H1 I1:Nat,u8 = Value.func (.func 42) #[] #[vP H1,vP I1]/\St W6 w8 [.cells H1 [vN] 41,.cells I1 [vW 77] 30])) rfl fun j9 E8 M7 ⟨H1,I1,Y5,W3⟩=>?_
 subst Y5
 have v2:=dG k0 W3
 refine bk h fun y7 D6 h=>?_
 have A3:=Tt z3 (Tt c3 (fF k0 W3))
 refine RD.cl 72 9444732965739290427391 b0 rfl (.yes rfl rfl) (bd 11) rfl (e3 rfl rfl rfl) (fun p q=>ab_c n (v2.hL hL q) y1 (Ax (Aw hr8 A3) q) (4:UInt64) (⟨(77:UInt64)⟩:Ta) (hG0.keep (v2.ag.trans q)) D6) rfl fun X6 F8 u5 ⟨c8,hu_,K5⟩=>?_
 subst hu_
 obtain ⟨x0,Y4⟩:=v2.agr u5
 refine RD.vP 73 18889465931478580854783 b0 rfl c0 (.yes rfl rfl) (fun _=>Am rfl rfl) rfl<|RD.vP 74 37778931862957161709567 b0 rfl c0 (.yes rfl rfl) (fun _=>Am rfl rfl) rfl<|RD.vP 75 75557863725914323419135 b0 rfl c0 (.yes rfl rfl) (fun _=>Am rfl rfl) rfl<|bk h fun z7 E6 h=>RD.callq (i:=76) (m' :=151115727451828646838271) (W:=633825148998387248919704764416) (tk b0) rfl c0 (v:=.bool z7) (fst:=[]) (cap:=[vP H1,vP I1]) (.yes rfl rfl) (bd 42) rfl (e3 rfl rfl rfl) (fun p q=>aN_c n (x0.hL0 hL q) (x0.kd K5 q) y7.2.1 (Ax (Rep.nilSlice _ _) q) (aG q (x0.memA .hd)) (⟨(77:UInt64)⟩:Ta) (aG q (x0.memA .t1)) E6) rfl<|Rv 77 b0 rfl c0 (fun _=>Bj rfl rfl)<|Rv 78 b0 rfl c0 (fun _=>Ag rfl)<|RD.ifb (s:=92) rfl h (fun q4 h=>?_) (fun q4 h=>?_)
 refine RD.val (i:=80) (m' :=1813388729421943762059263) (W:=633820464410836242231652777984) (tk b0) rfl c0 (.yes rfl rfl) (AK rfl (x0.memA .t12)) rfl<|RD.val (i:=81) (m' :=4231240368651202111471615) (W:=633820464410836242231652777984) (tk b0) rfl c0 (.yes rfl rfl) (AK rfl (x0.memA .t11)) rfl<|RD.cl 79 4835703278458516698824703 b0 rfl (.yes rfl rfl) (bd 19) rfl (e1 rfl) (fun p q=>BC (bw_c n (x0.hL hL q) (4:Int)) fun (w8:World) (u8:Value) ⟨b0_,hu_,s_⟩=>(⟨b0_,hu_,s_.from q⟩:∃ J1:Nat,u8 = Value.func (.func 43) #[] #[vP J1]/\St X6 w8 [.cells J1 [vI 4] 42])) rfl fun k9 G8 P7 ⟨J1,Z5,X3⟩=>?_
 subst Z5
 have x2:=aD x0 X3
 refine bk h fun A7 F6 h=>?_
 have B3:=Tt A3 (Tt Y4 (bb x0 X3))
 refine RD.cl 82 9671406556917033397649407 b0 rfl (.yes rfl rfl) (bd 11) rfl (e3 rfl rfl rfl) (fun p q=>ab_c n (x2.hL hL q) y1 (Ax (Aw hr8 B3) q) (5:UInt64) (⟨(77:UInt64)⟩:Ta) (hG0.keep (x2.ag.trans q)) F6) rfl fun Y6 H8 v5 ⟨d8,hu_,M5⟩=>?_
 subst hu_
 obtain ⟨D0,Z4⟩:=x2.agr v5
 refine RD.vP 83 19342813113834066795298815 b0 rfl c0 (.yes rfl rfl) (fun _=>Am rfl rfl) rfl<|RD.vP 84 38685626227668133590597631 b0 rfl c0 (.yes rfl rfl) (fun _=>Am rfl rfl) rfl<|RD.vP 85 77371252455336267181195263 b0 rfl c0 (.yes rfl rfl) (fun _=>Am rfl rfl) rfl<|bk h fun B7 G6 h=>RD.callq (i:=86) (m' :=154742504910672534362390527) (W:=633670557609204028213989212160) (tk b0) rfl c0 (v:=.bool B7) (fst:=[]) (cap:=[vP J1]) (.yes rfl rfl) (bd 43) rfl (e3 rfl rfl rfl) (fun p q=>aC_c n (D0.hL0 hL q) (D0.kd M5 q) A7.2.1 (aG q (D0.memA .hd)) G6) rfl<|Rv 87 b0 rfl c0 (fun _=>Bj rfl rfl)<|Rv 88 b0 rfl c0 (fun _=>Ag rfl)<|RD.ifb (s:=102) rfl h (fun s4 h=>?_) (fun s4 h=>?_)
 refine RD.val (i:=90) (m' :=1856910058928070412348686335) (W:=628873539956973179648755105792) (tk b0) rfl c0 (.yes rfl rfl) (AK rfl (D0.memA (.tl (.tl (.tl (.tl (.tl (.tl (.tl (.tl (.tl (.tl (.tl (.tl (.tl .hd))))))))))))))) rfl<|RD.val (i:=91) (m' :=4332790137498830962146934783) (W:=628873539956973179648755105792) (tk b0) rfl c0 (.yes rfl rfl) (AK rfl (D0.memA .t12)) rfl<|RD.cl 89 4951760157141521099596496895 b0 rfl (.yes rfl rfl) (bd 19) rfl (e1 rfl) (fun p q=>BC (bw_c n (D0.hL hL q) (2:Int)) fun (w8:World) (u8:Value) ⟨b0_,hu_,s_⟩=>(⟨b0_,hu_,s_.from q⟩:∃ K1:Nat,u8 = Value.func (.func 43) #[] #[vP K1]/\St Y6 w8 [.cells K1 [vI 2] 42])) rfl fun q9 I8 Q7 ⟨K1,b6,Y3⟩=>?_
 subst b6
 have y2:=aD D0 Y3
 refine bk h fun C7 H6 h=>RD.cl 92 9903520314283042199192993791 b0 rfl (.yes rfl rfl) (bd 11) rfl (e3 rfl rfl rfl) (fun p q=>ab_c n (y2.hL hL q) y1 (Ax (Aw hr8 (Tt B3 (Tt Z4 (bb D0 Y3)))) q) (0:UInt64) (⟨(77:UInt64)⟩:Ta) (hG0.keep (y2.ag.trans q)) H6) rfl fun s9 J8 x5 ⟨g8,hu_,P5⟩=>?_
 subst hu_
 obtain ⟨V1,E7⟩:=y2.agr x5
 refine RD.vP 93 19807040628566084398385987583 b0 rfl c0 (.yes rfl rfl) (fun _=>Am rfl rfl) rfl<|RD.vP 94 39614081257132168796771975167 b0 rfl c0 (.yes rfl rfl) (fun _=>Am rfl rfl) rfl<|RD.vP 95 79228162514264337593543950335 b0 rfl c0 (.yes rfl rfl) (fun _=>Am rfl rfl) rfl<|bk h fun D7 I6 h=>RD.callq (i:=96) (m' :=158456325028528675187087900671) (W:=475368975085586025561263702016) (tk b0) rfl c0 (v:=.bool D7) (fst:=[]) (cap:=[vP K1]) (.yes rfl rfl) (bd 43) rfl (e3 rfl rfl rfl) (fun p q=>aC_c n (V1.hL0 hL q) (V1.kd P5 q) C7.2.1 (aG q (V1.memA .hd)) I6) rfl<|Rv 97 b0 rfl c0 (fun _=>Bj rfl rfl)<|Rv 98 b0 rfl c0 (fun _=>Ba rfl)<|AZ (dk b0)<|Aq rfl<|AQ hb0 func5 rfl rfl ?_
 cases h
 exact V1.gv
 refine Bi 158456325028528675187087900671 2 [(89,103),(90,104),(91,105),(92,106),(93,107),(94,108),(95,109),(96,110)] (F:=[(102,false)]) (U:=[]) b0 c0 (.cons rfl .nil) .nil ?_
 dsimp only [ax,List.map]
 refine Rv 97 b0 rfl c0 (fun _=>AD rfl rfl)<|Rv 98 b0 rfl c0 (fun _=>Ba rfl)<|AZ (dk b0)<|Aq rfl<|AQ hb0 func5 rfl rfl ?_
 cases h
 exact D0.gv
 refine Bi 154742504910672534362390527 12 [(79,93),(80,94),(81,95),(82,96),(83,97),(84,98),(85,99),(86,100)] (F:=[(92,false)]) (U:=[]) b0 c0 (.cons rfl .nil) .nil ?_
 dsimp only [ax,List.map]
 refine Rv 87 b0 rfl c0 (fun _=>AD rfl rfl)<|Rv 88 b0 rfl c0 (fun _=>Ag rfl)<|Bi 158456325028528675187087900671 2 [(89,103),(90,104),(91,105),(92,106),(93,107),(94,108),(95,109),(96,110)] (F:=[(102,false)]) (U:=[]) b0 c0 (.cons rfl .nil) .nil ?_
 dsimp only [ax,List.map]
 refine Rv 97 b0 rfl c0 (fun _=>AD rfl rfl)<|Rv 98 b0 rfl c0 (fun _=>Ba rfl)<|AZ (dk b0)<|Aq rfl<|AQ hb0 func5 rfl rfl ?_
 cases h
 exact x0.gv
 refine Bi 151115727451828646838271 22 [(68,82),(69,83),(70,84),(71,85),(72,86),(73,87),(74,88),(75,89),(76,90)] (F:=[(81,false)]) (U:=[]) b0 c0 (.cons rfl .nil) .nil ?_
 dsimp only [ax,List.map]
 refine Rv 77 b0 rfl c0 (fun _=>AD rfl rfl)<|Rv 78 b0 rfl c0 (fun _=>Ag rfl)<|Bi 154742504910672534362390527 12 [(79,93),(80,94),(81,95),(82,96),(83,97),(84,98),(85,99),(86,100)] (F:=[(92,false)]) (U:=[]) b0 c0 (.cons rfl .nil) .nil ?_
 dsimp only [ax,List.map]
 refine Rv 87 b0 rfl c0 (fun _=>AD rfl rfl)<|Rv 88 b0 rfl c0 (fun _=>Ag rfl)<|Bi 158456325028528675187087900671 2 [(89,103),(90,104),(91,105),(92,106),(93,107),(94,108),(95,109),(96,110)] (F:=[(102,false)]) (U:=[]) b0 c0 (.cons rfl .nil) .nil ?_
 dsimp only [ax,List.map]
 refine Rv 97 b0 rfl c0 (fun _=>AD rfl rfl)<|Rv 98 b0 rfl c0 (fun _=>Ba rfl)<|AZ (dk b0)<|Aq rfl<|AQ hb0 func5 rfl rfl ?_
 cases h
 exact k0.gv
 refine Bi 73786976294838206463 33 [(56,70),(57,71),(58,72),(59,73),(60,74),(61,75),(62,76),(63,77),(64,78),(65,79)] (F:=[(69,false)]) (U:=[]) b0 c0 (.cons rfl .nil) .nil ?_
 dsimp only [ax,List.map]
 refine Rv 66 b0 rfl c0 (fun _=>AD rfl rfl)<|Rv 67 b0 rfl c0 (fun _=>Ag rfl)<|Bi 151115727451828646838271 22 [(68,82),(69,83),(70,84),(71,85),(72,86),(73,87),(74,88),(75,89),(76,90)] (F:=[(81,false)]) (U:=[]) b0 c0 (.cons rfl .nil) .nil ?_
 dsimp only [ax,List.map]
 refine Rv 77 b0 rfl c0 (fun _=>AD rfl rfl)<|Rv 78 b0 rfl c0 (fun _=>Ag rfl)<|Bi 154742504910672534362390527 12 [(79,93),(80,94),(81,95),(82,96),(83,97),(84,98),(85,99),(86,100)] (F:=[(92,false)]) (U:=[]) b0 c0 (.cons rfl .nil) .nil ?_
 dsimp only [ax,List.map]
 refine Rv 87 b0 rfl c0 (fun _=>AD rfl rfl)<|Rv 88 b0 rfl c0 (fun _=>Ag rfl)<|Bi 158456325028528675187087900671 2 [(89,103),(90,104),(91,105),(92,106),(93,107),(94,108),(95,109),(96,110)] (F:=[(102,false)]) (U:=[]) b0 c0 (.cons rfl .nil) .nil ?_
 dsimp only [ax,List.map]
 refine Rv 97 b0 rfl c0 (fun _=>AD rfl rfl)<|Rv 98 b0 rfl c0 (fun _=>Ba rfl)<|AZ (dk b0)<|Aq rfl<|AQ hb0 func5 rfl rfl ?_
 cases h
 exact P0.gv
 refine Bi 18014398509481983 45 [(46,60),(47,61),(48,62),(49,63),(50,64),(51,65),(52,66),(53,67)] (F:=[(59,false)]) (U:=[]) b0 c0 (.cons rfl .nil) .nil ?_
 dsimp only [ax,List.map]
 refine Rv 54 b0 rfl c0 (fun _=>AD rfl rfl)<|Rv 55 b0 rfl c0 (fun _=>Ag rfl)<|Bi 73786976294838206463 33 [(56,70),(57,71),(58,72),(59,73),(60,74),(61,75),(62,76),(63,77),(64,78),(65,79)] (F:=[(69,false)]) (U:=[]) b0 c0 (.cons rfl .nil) .nil ?_
 dsimp only [ax,List.map]
 refine Rv 66 b0 rfl c0 (fun _=>AD rfl rfl)<|Rv 67 b0 rfl c0 (fun _=>Ag rfl)<|Bi 151115727451828646838271 22 [(68,82),(69,83),(70,84),(71,85),(72,86),(73,87),(74,88),(75,89),(76,90)] (F:=[(81,false)]) (U:=[]) b0 c0 (.cons rfl .nil) .nil ?_
 dsimp only [ax,List.map]
 refine Rv 77 b0 rfl c0 (fun _=>AD rfl rfl)<|Rv 78 b0 rfl c0 (fun _=>Ag rfl)<|Bi 154742504910672534362390527 12 [(79,93),(80,94),(81,95),(82,96),(83,97),(84,98),(85,99),(86,100)] (F:=[(92,false)]) (U:=[]) b0 c0 (.cons rfl .nil) .nil ?_
 dsimp only [ax,List.map]
 refine Rv 87 b0 rfl c0 (fun _=>AD rfl rfl)<|Rv 88 b0 rfl c0 (fun _=>Ag rfl)<|Bi 158456325028528675187087900671 2 [(89,103),(90,104),(91,105),(92,106),(93,107),(94,108),(95,109),(96,110)] (F:=[(102,false)]) (U:=[]) b0 c0 (.cons rfl .nil) .nil ?_
 dsimp only [ax,List.map]
 refine Rv 97 b0 rfl c0 (fun _=>AD rfl rfl)<|Rv 98 b0 rfl c0 (fun _=>Ba rfl)<|AZ (dk b0)<|Aq rfl<|AQ hb0 func5 rfl rfl ?_
 cases h
 exact C0.gv
 refine Bi 17592186044415 55 [(36,50),(37,51),(38,52),(39,53),(40,54),(41,55),(42,56),(43,57)] (F:=[(49,false)]) (U:=[]) b0 c0 (.cons rfl .nil) .nil ?_
 dsimp only [ax,List.map]
 refine Rv 44 b0 rfl c0 (fun _=>AD rfl rfl)<|Rv 45 b0 rfl c0 (fun _=>Ag rfl)<|Bi 18014398509481983 45 [(46,60),(47,61),(48,62),(49,63),(50,64),(51,65),(52,66),(53,67)] (F:=[(59,false)]) (U:=[]) b0 c0 (.cons rfl .nil) .nil ?_
 dsimp only [ax,List.map]
 refine Rv 54 b0 rfl c0 (fun _=>AD rfl rfl)<|Rv 55 b0 rfl c0 (fun _=>Ag rfl)<|Bi 73786976294838206463 33 [(56,70),(57,71),(58,72),(59,73),(60,74),(61,75),(62,76),(63,77),(64,78),(65,79)] (F:=[(69,false)]) (U:=[]) b0 c0 (.cons rfl .nil) .nil ?_
 dsimp only [ax,List.map]
 refine Rv 66 b0 rfl c0 (fun _=>AD rfl rfl)<|Rv 67 b0 rfl c0 (fun _=>Ag rfl)<|Bi 151115727451828646838271 22 [(68,82),(69,83),(70,84),(71,85),(72,86),(73,87),(74,88),(75,89),(76,90)] (F:=[(81,false)]) (U:=[]) b0 c0 (.cons rfl .nil) .nil ?_
 dsimp only [ax,List.map]
 refine Rv 77 b0 rfl c0 (fun _=>AD rfl rfl)<|Rv 78 b0 rfl c0 (fun _=>Ag rfl)<|Bi 154742504910672534362390527 12 [(79,93),(80,94),(81,95),(82,96),(83,97),(84,98),(85,99),(86,100)] (F:=[(92,false)]) (U:=[]) b0 c0 (.cons rfl .nil) .nil ?_
 dsimp only [ax,List.map]
 refine Rv 87 b0 rfl c0 (fun _=>AD rfl rfl)<|Rv 88 b0 rfl c0 (fun _=>Ag rfl)<|Bi 158456325028528675187087900671 2 [(89,103),(90,104),(91,105),(92,106),(93,107),(94,108),(95,109),(96,110)] (F:=[(102,false)]) (U:=[]) b0 c0 (.cons rfl .nil) .nil ?_
 dsimp only [ax,List.map]
 refine Rv 97 b0 rfl c0 (fun _=>AD rfl rfl)<|Rv 98 b0 rfl c0 (fun _=>Ba rfl)<|AZ (dk b0)<|Aq rfl<|AQ hb0 func5 rfl rfl ?_
 cases h
 exact q0.gv
 refine Bi 17179869183 65 [(24,38),(25,39),(26,40),(27,41),(28,42),(29,43),(30,44),(31,45),(32,46),(33,47)] (F:=[(37,false)]) (U:=[]) b0 c0 (.cons rfl .nil) .nil ?_
 dsimp only [ax,List.map]
 refine Rv 34 b0 rfl c0 (fun _=>AD rfl rfl)<|Rv 35 b0 rfl c0 (fun _=>Ag rfl)<|Bi 17592186044415 55 [(36,50),(37,51),(38,52),(39,53),(40,54),(41,55),(42,56),(43,57)] (F:=[(49,false)]) (U:=[]) b0 c0 (.cons rfl .nil) .nil ?_
 dsimp only [ax,List.map]
 refine Rv 44 b0 rfl c0 (fun _=>AD rfl rfl)<|Rv 45 b0 rfl c0 (fun _=>Ag rfl)<|Bi 18014398509481983 45 [(46,60),(47,61),(48,62),(49,63),(50,64),(51,65),(52,66),(53,67)] (F:=[(59,false)]) (U:=[]) b0 c0 (.cons rfl .nil) .nil ?_
 dsimp only [ax,List.map]
 refine Rv 54 b0 rfl c0 (fun _=>AD rfl rfl)<|Rv 55 b0 rfl c0 (fun _=>Ag rfl)<|Bi 73786976294838206463 33 [(56,70),(57,71),(58,72),(59,73),(60,74),(61,75),(62,76),(63,77),(64,78),(65,79)] (F:=[(69,false)]) (U:=[]) b0 c0 (.cons rfl .nil) .nil ?_
 dsimp only [ax,List.map]
 refine Rv 66 b0 rfl c0 (fun _=>AD rfl rfl)<|Rv 67 b0 rfl c0 (fun _=>Ag rfl)<|Bi 151115727451828646838271 22 [(68,82),(69,83),(70,84),(71,85),(72,86),(73,87),(74,88),(75,89),(76,90)] (F:=[(81,false)]) (U:=[]) b0 c0 (.cons rfl .nil) .nil ?_
 dsimp only [ax,List.map]
 refine Rv 77 b0 rfl c0 (fun _=>AD rfl rfl)<|Rv 78 b0 rfl c0 (fun _=>Ag rfl)<|Bi 154742504910672534362390527 12 [(79,93),(80,94),(81,95),(82,96),(83,97),(84,98),(85,99),(86,100)] (F:=[(92,false)]) (U:=[]) b0 c0 (.cons rfl .nil) .nil ?_
 dsimp only [ax,List.map]
 refine Rv 87 b0 rfl c0 (fun _=>AD rfl rfl)<|Rv 88 b0 rfl c0 (fun _=>Ag rfl)<|Bi 158456325028528675187087900671 2 [(89,103),(90,104),(91,105),(92,106),(93,107),(94,108),(95,109),(96,110)] (F:=[(102,false)]) (U:=[]) b0 c0 (.cons rfl .nil) .nil ?_
 dsimp only [ax,List.map]
 refine Rv 97 b0 rfl c0 (fun _=>AD rfl rfl)<|Rv 98 b0 rfl c0 (fun _=>Ba rfl)<|AZ (dk b0)<|Aq rfl<|AQ hb0 func5 rfl rfl ?_
 cases h
 exact M0.gv
 refine Bi 4194303 77 [(17,31),(18,32),(19,33),(20,34),(21,35)] (F:=[(30,false)]) (U:=[]) b0 c0 (.cons rfl .nil) .nil ?_
 dsimp only [ax,List.map]
 refine Rv 22 b0 rfl c0 (fun _=>AD rfl rfl)<|Rv 23 b0 rfl c0 (fun _=>Ag rfl)<|Bi 17179869183 65 [(24,38),(25,39),(26,40),(27,41),(28,42),(29,43),(30,44),(31,45),(32,46),(33,47)] (F:=[(37,false)]) (U:=[]) b0 c0 (.cons rfl .nil) .nil ?_
 dsimp only [ax,List.map]
 refine Rv 34 b0 rfl c0 (fun _=>AD rfl rfl)<|Rv 35 b0 rfl c0 (fun _=>Ag rfl)<|Bi 17592186044415 55 [(36,50),(37,51),(38,52),(39,53),(40,54),(41,55),(42,56),(43,57)] (F:=[(49,false)]) (U:=[]) b0 c0 (.cons rfl .nil) .nil ?_
 dsimp only [ax,List.map]
 refine Rv 44 b0 rfl c0 (fun _=>AD rfl rfl)<|Rv 45 b0 rfl c0 (fun _=>Ag rfl)<|Bi 18014398509481983 45 [(46,60),(47,61),(48,62),(49,63),(50,64),(51,65),(52,66),(53,67)] (F:=[(59,false)]) (U:=[]) b0 c0 (.cons rfl .nil) .nil ?_
 dsimp only [ax,List.map]
 refine Rv 54 b0 rfl c0 (fun _=>AD rfl rfl)<|Rv 55 b0 rfl c0 (fun _=>Ag rfl)<|Bi 73786976294838206463 33 [(56,70),(57,71),(58,72),(59,73),(60,74),(61,75),(62,76),(63,77),(64,78),(65,79)] (F:=[(69,false)]) (U:=[]) b0 c0 (.cons rfl .nil) .nil ?_
 dsimp only [ax,List.map]
 refine Rv 66 b0 rfl c0 (fun _=>AD rfl rfl)<|Rv 67 b0 rfl c0 (fun _=>Ag rfl)<|Bi 151115727451828646838271 22 [(68,82),(69,83),(70,84),(71,85),(72,86),(73,87),(74,88),(75,89),(76,90)] (F:=[(81,false)]) (U:=[]) b0 c0 (.cons rfl .nil) .nil ?_
 dsimp only [ax,List.map]
 refine Rv 77 b0 rfl c0 (fun _=>AD rfl rfl)<|Rv 78 b0 rfl c0 (fun _=>Ag rfl)<|Bi 154742504910672534362390527 12 [(79,93),(80,94),(81,95),(82,96),(83,97),(84,98),(85,99),(86,100)] (F:=[(92,false)]) (U:=[]) b0 c0 (.cons rfl .nil) .nil ?_
 dsimp only [ax,List.map]
 refine Rv 87 b0 rfl c0 (fun _=>AD rfl rfl)<|Rv 88 b0 rfl c0 (fun _=>Ag rfl)<|Bi 158456325028528675187087900671 2 [(89,103),(90,104),(91,105),(92,106),(93,107),(94,108),(95,109),(96,110)] (F:=[(102,false)]) (U:=[]) b0 c0 (.cons rfl .nil) .nil ?_
 dsimp only [ax,List.map]
 refine Rv 97 b0 rfl c0 (fun _=>AD rfl rfl)<|Rv 98 b0 rfl c0 (fun _=>Ba rfl)<|AZ (dk b0)<|Aq rfl<|AQ hb0 func5 rfl rfl ?_
 cases h
 exact K0.gv
 intro Z1
 refine RD.each [8,10] (rk b0) ⟨?_,?_,trivial⟩
 refine RO.new (m' :=511) (sk b0) rfl (.yes rfl rfl) rfl (jA ((5:Int)) (vI 5) J0 aq (e1 rfl)) fun E2 s0 u0 W1=>?_
 have s3:=jC ((5:Int)) (vI 5) u0 L rfl
 refine RD.each [9,10] (rk b0) ⟨?_,?_,trivial⟩
 have A2:=Bf (α:=Int) u0 .hd s3 hL
 have g0:=Bt u0 .hd
 have g1:=Bu u0 .hd
 have s1:=Bv (α:=Int) (v:=(vS s0 1)) (xs:=([(5:Int)]:List Int)) g0 L A2
 refine RO.call (m' :=1023) (fst:=[]) (cap:=[]) (sk b0) rfl (.yes rfl rfl) (bd 15) rfl (e1 rfl) (fun p q=>BC (bc_c n (g0.hL hL q) ([(5:Int)]:List Int) (Ax s1 q)) fun (w8:World) (u8:Value) ⟨b0_,hu_,s_⟩=>(⟨b0_,hu_,s_.from q⟩:∃ A0:Nat,u8 = Value.func (.func 40) #[] #[vP A0]/\St E2 w8 [.cells A0 [(vS s0 1)] 41])) rfl fun M6 J6 d5 ⟨A0,C2,v1⟩=>?_
 subst C2
 have y4:=aD g0 v1
 have X1:=bb g0 v1
 refine RD.nu 10 2047 b0 rfl (.yes rfl rfl) rfl (AO (α:=Int) (xs:=([(5:Int),(5:Int),(5:Int)]:List Int)) (vs:=[vI 5,vI 5,vI 5]) (ds' :=[vI 5,vI 5,vI 5]) rfl y4 aq rfl (e3 rfl rfl rfl) (by kernel_rfl) rfl) fun F2 b1 v0 Z0=>?_
 have p1:=AE (cs:=[vI 5,vI 5,vI 5]) (xs:=(([(5:Int),(5:Int),(5:Int)]:List Int):List Int)) v0 L (Ay (cs:=[vI 5]) (ds:=[vI 5,vI 5]) rfl (Ay (cs:=[vI 5]) (ds:=[vI 5]) rfl (Ay (cs:=[vI 5]) (ds:=[]) rfl (AJ _ _))))
 obtain ⟨A4,d3⟩:=AH v0 (.a0 (.a0 .d1))
 have C3:=Tt X1 (Tt Z0 d3)
 exact Z1 ((vS b1 3),[vI 5,vI 5,vI 5],(vS s0 1),A0) A4 (Tt W1 (Tt g1 C3)) ⟨(Az p1 d3),(Aw s1 C3)⟩
 refine RO.new (m' :=1535) (sk b0) rfl (.yes rfl rfl) rfl (AO (α:=Int) (xs:=([(5:Int),(5:Int),(5:Int)]:List Int)) (vs:=[vI 5,vI 5,vI 5]) (ds' :=[vI 5,vI 5,vI 5]) rfl u0 aq rfl (e3 rfl rfl rfl) (by kernel_rfl) rfl) fun F2 b1 v0 Z0=>?_
 have p1:=AE (cs:=[vI 5,vI 5,vI 5]) (xs:=(([(5:Int),(5:Int),(5:Int)]:List Int):List Int)) v0 L (Ay (cs:=[vI 5]) (ds:=[vI 5,vI 5]) rfl (Ay (cs:=[vI 5]) (ds:=[vI 5]) rfl (Ay (cs:=[vI 5]) (ds:=[]) rfl (AJ _ _))))
 have A2:=Bf (α:=Int) v0 .t1 (Az s3 Z0) hL
 have g0:=Bt v0 .t1
 have g1:=Bu v0 .t1
 have H3:=Bv (α:=Int) (v:=(vS s0 1)) (xs:=([(5:Int)]:List Int)) g0 L A2
 refine RD.cl 9 2047 b0 rfl (.yes rfl rfl) (bd 15) rfl (e1 rfl) (fun p q=>BC (bc_c n (g0.hL hL q) ([(5:Int)]:List Int) (Ax H3 q)) fun (w8:World) (u8:Value) ⟨b0_,hu_,s_⟩=>(⟨b0_,hu_,s_.from q⟩:∃ z1:Nat,u8 = Value.func (.func 40) #[] #[vP z1]/\St F2 w8 [.cells z1 [(vS s0 1)] 41])) rfl fun U8 k8 F7 ⟨z1,Q5,M3⟩=>?_
 subst Q5
 have V2:=bb g0 M3
 obtain ⟨B4,g3⟩:=AH (aD g0 M3) (.a1 (.a0 .d1))
 have D3:=Tt g1 (Tt V2 g3)
 exact Z1 ((vS b1 3),[vI 5,vI 5,vI 5],(vS s0 1),z1) B4 (Tt W1 (Tt Z0 D3)) ⟨(Az p1 D3),(Aw H3 (Tt V2 g3))⟩
 refine RO.new (m' :=1279) (sk b0) rfl (.yes rfl rfl) rfl (AO (α:=Int) (xs:=([(5:Int),(5:Int),(5:Int)]:List Int)) (vs:=[vI 5,vI 5,vI 5]) (ds' :=[vI 5,vI 5,vI 5]) rfl J0 aq rfl (e3 rfl rfl rfl) (by kernel_rfl) rfl) fun F2 b1 v0 Z0=>?_
 have p1:=AE (cs:=[vI 5,vI 5,vI 5]) (xs:=(([(5:Int),(5:Int),(5:Int)]:List Int):List Int)) v0 L (Ay (cs:=[vI 5]) (ds:=[vI 5,vI 5]) rfl (Ay (cs:=[vI 5]) (ds:=[vI 5]) rfl (Ay (cs:=[vI 5]) (ds:=[]) rfl (AJ _ _))))
 refine RD.nu 8 1535 b0 rfl (.yes rfl rfl) rfl (jA ((5:Int)) (vI 5) v0 aq (e1 rfl)) fun E2 s0 u0 W1=>?_
 have g0:=Bt u0 .hd
 have g1:=Bu u0 .hd
 have s1:=Bv (α:=Int) (v:=(vS s0 1)) (xs:=([(5:Int)]:List Int)) g0 L (Bf (α:=Int) u0 .hd (jC ((5:Int)) (vI 5) u0 L rfl) hL)
 refine RD.cl 9 2047 b0 rfl (.yes rfl rfl) (bd 15) rfl (e1 rfl) (fun p q=>BC (bc_c n (g0.hL hL q) ([(5:Int)]:List Int) (Ax s1 q)) fun (w8:World) (u8:Value) ⟨b0_,hu_,s_⟩=>(⟨b0_,hu_,s_.from q⟩:∃ A0:Nat,u8 = Value.func (.func 40) #[] #[vP A0]/\St E2 w8 [.cells A0 [(vS s0 1)] 41])) rfl fun M6 J6 d5 ⟨A0,C2,v1⟩=>?_
 subst C2
 have X1:=bb g0 v1
 obtain ⟨C4,j3⟩:=AH (aD g0 v1) (.a1 (.a0 .d1))
 have E3:=Tt W1 (Tt g1 (Tt X1 j3))
 exact Z1 ((vS b1 3),[vI 5,vI 5,vI 5],(vS s0 1),A0) C4 (Tt Z0 E3) ⟨(Az p1 E3),(Aw s1 (Tt X1 j3))⟩
 refine Bi 32767 84 [(8,22),(9,23),(10,24),(11,25),(12,26),(13,27),(14,28)] (F:=[(21,false)]) (U:=[]) b0 c0 (.cons rfl .nil) .nil ?_
 dsimp only [ax,List.map]
 refine Rv 15 b0 rfl c0 (fun _=>AD rfl rfl)<|Rv 16 b0 rfl c0 (fun _=>Ag rfl)<|Bi 4194303 77 [(17,31),(18,32),(19,33),(20,34),(21,35)] (F:=[(30,false)]) (U:=[]) b0 c0 (.cons rfl .nil) .nil ?_
 dsimp only [ax,List.map]
 refine Rv 22 b0 rfl c0 (fun _=>AD rfl rfl)<|Rv 23 b0 rfl c0 (fun _=>Ag rfl)<|Bi 17179869183 65 [(24,38),(25,39),(26,40),(27,41),(28,42),(29,43),(30,44),(31,45),(32,46),(33,47)] (F:=[(37,false)]) (U:=[]) b0 c0 (.cons rfl .nil) .nil ?_
 dsimp only [ax,List.map]
 refine Rv 34 b0 rfl c0 (fun _=>AD rfl rfl)<|Rv 35 b0 rfl c0 (fun _=>Ag rfl)<|Bi 17592186044415 55 [(36,50),(37,51),(38,52),(39,53),(40,54),(41,55),(42,56),(43,57)] (F:=[(49,false)]) (U:=[]) b0 c0 (.cons rfl .nil) .nil ?_
 dsimp only [ax,List.map]
 refine Rv 44 b0 rfl c0 (fun _=>AD rfl rfl)<|Rv 45 b0 rfl c0 (fun _=>Ag rfl)<|Bi 18014398509481983 45 [(46,60),(47,61),(48,62),(49,63),(50,64),(51,65),(52,66),(53,67)] (F:=[(59,false)]) (U:=[]) b0 c0 (.cons rfl .nil) .nil ?_
 dsimp only [ax,List.map]
 refine Rv 54 b0 rfl c0 (fun _=>AD rfl rfl)<|Rv 55 b0 rfl c0 (fun _=>Ag rfl)<|Bi 73786976294838206463 33 [(56,70),(57,71),(58,72),(59,73),(60,74),(61,75),(62,76),(63,77),(64,78),(65,79)] (F:=[(69,false)]) (U:=[]) b0 c0 (.cons rfl .nil) .nil ?_
 dsimp only [ax,List.map]
 refine Rv 66 b0 rfl c0 (fun _=>AD rfl rfl)<|Rv 67 b0 rfl c0 (fun _=>Ag rfl)<|Bi 151115727451828646838271 22 [(68,82),(69,83),(70,84),(71,85),(72,86),(73,87),(74,88),(75,89),(76,90)] (F:=[(81,false)]) (U:=[]) b0 c0 (.cons rfl .nil) .nil ?_
 dsimp only [ax,List.map]
 refine Rv 77 b0 rfl c0 (fun _=>AD rfl rfl)<|Rv 78 b0 rfl c0 (fun _=>Ag rfl)<|Bi 154742504910672534362390527 12 [(79,93),(80,94),(81,95),(82,96),(83,97),(84,98),(85,99),(86,100)] (F:=[(92,false)]) (U:=[]) b0 c0 (.cons rfl .nil) .nil ?_
 dsimp only [ax,List.map]
 refine Rv 87 b0 rfl c0 (fun _=>AD rfl rfl)<|Rv 88 b0 rfl c0 (fun _=>Ag rfl)<|Bi 158456325028528675187087900671 2 [(89,103),(90,104),(91,105),(92,106),(93,107),(94,108),(95,109),(96,110)] (F:=[(102,false)]) (U:=[]) b0 c0 (.cons rfl .nil) .nil ?_
 dsimp only [ax,List.map]
 refine Rv 97 b0 rfl c0 (fun _=>AD rfl rfl)<|Rv 98 b0 rfl c0 (fun _=>Ba rfl)<|AZ (dk b0)<|Aq rfl<|AQ hb0 func5 rfl rfl ?_
 cases h
 exact J0.gv
 intro b2
 refine RD.each [0,2] (rk b0) ⟨?_,?_,trivial⟩
 refine RO.new (m' :=1) (sk b0) rfl .plain rfl (AO (α:=Int) (xs:=([(0:Int),(1:Int),(3:Int)]:List Int)) (vs:=[vI 0,vI 1,vI 3]) (ds' :=[vI 0,vI 1,vI 3]) rfl z2 aq rfl (e3 rfl rfl rfl) (by kernel_rfl) rfl) fun G2 t0 y0 Y1=>?_
 have u3:=AE (cs:=[vI 0,vI 1,vI 3]) (xs:=(([(0:Int),(1:Int),(3:Int)]:List Int):List Int)) y0 L (Ay (cs:=[vI 0]) (ds:=[vI 1,vI 3]) rfl (Ay (cs:=[vI 1]) (ds:=[vI 3]) rfl (Ay (cs:=[vI 3]) (ds:=[]) rfl (AJ _ _))))
 refine RD.each [1,2] (rk b0) ⟨?_,?_,trivial⟩
 have B2:=Bf (α:=Int) y0 .hd u3 hL
 have j0:=Bt y0 .hd
 have j1:=Bu y0 .hd
 have u1:=Bv (α:=Int) (v:=(vS t0 3)) (xs:=([(0:Int),(1:Int),(3:Int)]:List Int)) j0 L B2
 refine RO.call (m' :=3) (fst:=[]) (cap:=[]) (sk b0) rfl .plain (bd 15) rfl (e1 rfl) (fun p q=>BC (bc_c n (j0.hL hL q) ([(0:Int),(1:Int),(3:Int)]:List Int) (Ax u1 q)) fun (w8:World) (u8:Value) ⟨b0_,hu_,s_⟩=>(⟨b0_,hu_,s_.from q⟩:∃ B0:Nat,u8 = Value.func (.func 40) #[] #[vP B0]/\St G2 w8 [.cells B0 [(vS t0 3)] 41])) rfl fun Z6 K6 y5 ⟨B0,D2,x1⟩=>?_
 subst D2
 have F4:=aD j0 x1
 have k1:=bb j0 x1
 refine RD.nu 2 7 b0 rfl .plain rfl (AO (α:=Int) (xs:=([(0:Int),(1:Int),(2:Int),(1:Int),(3:Int)]:List Int)) (vs:=[vI 0,vI 1,vI 2,vI 1,vI 3]) (ds' :=[vI 0,vI 1,vI 2,vI 1,vI 3]) rfl F4 aq rfl (e5 rfl rfl rfl rfl rfl) (by kernel_rfl) rfl) fun H2 c1 z0 W0=>?_
 have q1:=AE (cs:=[vI 0,vI 1,vI 2,vI 1,vI 3]) (xs:=(([(0:Int),(1:Int),(2:Int),(1:Int),(3:Int)]:List Int):List Int)) z0 L (Ay (cs:=[vI 0]) (ds:=[vI 1,vI 2,vI 1,vI 3]) rfl (Ay (cs:=[vI 1]) (ds:=[vI 2,vI 1,vI 3]) rfl (Ay (cs:=[vI 2]) (ds:=[vI 1,vI 3]) rfl (Ay (cs:=[vI 1]) (ds:=[vI 3]) rfl (Ay (cs:=[vI 3]) (ds:=[]) rfl (AJ _ _))))))
 exact b2 ((vS c1 5),[vI 0,vI 1,vI 2,vI 1,vI 3],(vS t0 3),B0) z0 (Tt Y1 (Tt j1 (Tt k1 W0))) ⟨q1,(Aw u1 (Tt k1 W0))⟩
 refine RO.new (m' :=5) (sk b0) rfl .plain rfl (AO (α:=Int) (xs:=([(0:Int),(1:Int),(2:Int),(1:Int),(3:Int)]:List Int)) (vs:=[vI 0,vI 1,vI 2,vI 1,vI 3]) (ds' :=[vI 0,vI 1,vI 2,vI 1,vI 3]) rfl y0 aq rfl (e5 rfl rfl rfl rfl rfl) (by kernel_rfl) rfl) fun H2 c1 z0 W0=>?_
 have q1:=AE (cs:=[vI 0,vI 1,vI 2,vI 1,vI 3]) (xs:=(([(0:Int),(1:Int),(2:Int),(1:Int),(3:Int)]:List Int):List Int)) z0 L (Ay (cs:=[vI 0]) (ds:=[vI 1,vI 2,vI 1,vI 3]) rfl (Ay (cs:=[vI 1]) (ds:=[vI 2,vI 1,vI 3]) rfl (Ay (cs:=[vI 2]) (ds:=[vI 1,vI 3]) rfl (Ay (cs:=[vI 1]) (ds:=[vI 3]) rfl (Ay (cs:=[vI 3]) (ds:=[]) rfl (AJ _ _))))))
 have B2:=Bf (α:=Int) z0 .t1 (Az u3 W0) hL
 have j0:=Bt z0 .t1
 have j1:=Bu z0 .t1
 have K3:=Bv (α:=Int) (v:=(vS t0 3)) (xs:=([(0:Int),(1:Int),(3:Int)]:List Int)) j0 L B2
 refine RD.cl 1 7 b0 rfl .plain (bd 15) rfl (e1 rfl) (fun p q=>BC (bc_c n (j0.hL hL q) ([(0:Int),(1:Int),(3:Int)]:List Int) (Ax K3 q)) fun (w8:World) (u8:Value) ⟨b0_,hu_,s_⟩=>(⟨b0_,hu_,s_.from q⟩:∃ M1:Nat,u8 = Value.func (.func 40) #[] #[vP M1]/\St H2 w8 [.cells M1 [(vS t0 3)] 41])) rfl fun u9 K8 R7 ⟨M1,c6,Z3⟩=>?_
 subst c6
 have q3:=bb j0 Z3
 obtain ⟨D4,k3⟩:=AH (aD j0 Z3) (.a1 .d0)
 have F3:=Tt j1 (Tt q3 k3)
 exact b2 ((vS c1 5),[vI 0,vI 1,vI 2,vI 1,vI 3],(vS t0 3),M1) D4 (Tt Y1 (Tt W0 F3)) ⟨(Az q1 F3),(Aw K3 (Tt q3 k3))⟩
 refine RO.new (m' :=4) (sk b0) rfl .plain rfl (AO (α:=Int) (xs:=([(0:Int),(1:Int),(2:Int),(1:Int),(3:Int)]:List Int)) (vs:=[vI 0,vI 1,vI 2,vI 1,vI 3]) (ds' :=[vI 0,vI 1,vI 2,vI 1,vI 3]) rfl z2 aq rfl (e5 rfl rfl rfl rfl rfl) (by kernel_rfl) rfl) fun H2 c1 z0 W0=>?_
 have q1:=AE (cs:=[vI 0,vI 1,vI 2,vI 1,vI 3]) (xs:=(([(0:Int),(1:Int),(2:Int),(1:Int),(3:Int)]:List Int):List Int)) z0 L (Ay (cs:=[vI 0]) (ds:=[vI 1,vI 2,vI 1,vI 3]) rfl (Ay (cs:=[vI 1]) (ds:=[vI 2,vI 1,vI 3]) rfl (Ay (cs:=[vI 2]) (ds:=[vI 1,vI 3]) rfl (Ay (cs:=[vI 1]) (ds:=[vI 3]) rfl (Ay (cs:=[vI 3]) (ds:=[]) rfl (AJ _ _))))))
 refine RD.nu 0 5 b0 rfl .plain rfl (AO (α:=Int) (xs:=([(0:Int),(1:Int),(3:Int)]:List Int)) (vs:=[vI 0,vI 1,vI 3]) (ds' :=[vI 0,vI 1,vI 3]) rfl z0 aq rfl (e3 rfl rfl rfl) (by kernel_rfl) rfl) fun G2 t0 y0 Y1=>?_
 have j0:=Bt y0 .hd
 have j1:=Bu y0 .hd
 have u1:=Bv (α:=Int) (v:=(vS t0 3)) (xs:=([(0:Int),(1:Int),(3:Int)]:List Int)) j0 L (Bf (α:=Int) y0 .hd (AE (cs:=[vI 0,vI 1,vI 3]) (xs:=(([(0:Int),(1:Int),(3:Int)]:List Int):List Int)) y0 L (Ay (cs:=[vI 0]) (ds:=[vI 1,vI 3]) rfl (Ay (cs:=[vI 1]) (ds:=[vI 3]) rfl (Ay (cs:=[vI 3]) (ds:=[]) rfl (AJ _ _))))) hL)
 refine RD.cl 1 7 b0 rfl .plain (bd 15) rfl (e1 rfl) (fun p q=>BC (bc_c n (j0.hL hL q) ([(0:Int),(1:Int),(3:Int)]:List Int) (Ax u1 q)) fun (w8:World) (u8:Value) ⟨b0_,hu_,s_⟩=>(⟨b0_,hu_,s_.from q⟩:∃ B0:Nat,u8 = Value.func (.func 40) #[] #[vP B0]/\St G2 w8 [.cells B0 [(vS t0 3)] 41])) rfl fun Z6 K6 y5 ⟨B0,D2,x1⟩=>?_
 subst D2
 have k1:=bb j0 x1
 obtain ⟨E4,p3⟩:=AH (aD j0 x1) (.a1 .d0)
 have G3:=Tt Y1 (Tt j1 (Tt k1 p3))
 exact b2 ((vS c1 5),[vI 0,vI 1,vI 2,vI 1,vI 3],(vS t0 3),B0) E4 (Tt W0 G3) ⟨(Az q1 G3),(Aw u1 (Tt k1 p3))⟩
structure Td where
  fj:UInt8
  fl:UInt8
  fk:UInt16
  fm:List (UInt8 × UInt8)
  deriving DecidableEq
instance:Rep Td:=Rep.via (β:=UInt8 × UInt8 × UInt16 × (List (UInt8 × UInt8))) fun x=>(x.fj,x.fl,x.fk,x.fm)
theorem eh {w:World} {L:List Nat} {cs:List Value} {x:UInt8 × UInt8} (h:Rep.R w L cs x):cs = [.int .u8 (x.1.toNat:Int),.int .u8 (x.2.toNat:Int)]:=by
  obtain ⟨c0,r0,rfl,h0,h⟩:=h
  have e0:c0 = [.int .u8 (x.1.toNat:Int)]:=h0; subst e0
  have e1:r0 = [.int .u8 (x.2.toNat:Int)]:=h; subst e1
  rfl
def aa_l1 (_n:Nat) (a0:Td) (q0:Int) (k0:Int) (p0:Int) (c0:Bool × Nat -> Option Bool):Bool × Nat -> Option Bool
  | (d0,b0)=>(if b0 < a0.fm.length then (if b0 < 3 then (a0.fm[b0]?).bind fun s0=>(bz ((s0.1.toNat:Nat):Int) q0).bind fun g0=>(bz ((s0.2.toNat:Nat):Int) q0).bind fun j0=>(if d0 = true then c0 (true,b0 + 1) else (if g0 = k0 then (if j0 = p0 then c0 (true,b0 + 1) else (if g0 = p0 then c0 ((decide (j0 = k0)),b0 + 1) else c0 (false,b0 + 1))) else (if g0 = p0 then c0 ((decide (j0 = k0)),b0 + 1) else c0 (false,b0 + 1)))) else some d0) else some d0)
def aa_l2 (_n:Nat) (a0:Td) (q0:Int) (k0:Int) (p0:Int) (c0:Bool × Nat -> Option Bool):Bool × Nat -> Option Bool
  | (d0,b0)=>(if b0 < a0.fm.length then (if b0 < 3 then (a0.fm[b0]?).bind fun s0=>(bz ((s0.1.toNat:Nat):Int) q0).bind fun g0=>(bz ((s0.2.toNat:Nat):Int) q0).bind fun j0=>(if d0 = true then c0 (true,b0 + 1) else (if g0 = k0 then (if j0 = p0 then c0 (true,b0 + 1) else (if g0 = p0 then c0 ((decide (j0 = k0)),b0 + 1) else c0 (false,b0 + 1))) else (if g0 = p0 then c0 ((decide (j0 = k0)),b0 + 1) else c0 (false,b0 + 1)))) else some d0) else some d0)
def aa_l3 (_n:Nat) (a0:Td) (q0:Int) (k0:Int) (p0:Int) (c0:Bool × Nat -> Option Bool):Bool × Nat -> Option Bool
  | (d0,b0)=>(if b0 < a0.fm.length then (if b0 < 3 then (a0.fm[b0]?).bind fun s0=>(bz ((s0.1.toNat:Nat):Int) q0).bind fun g0=>(bz ((s0.2.toNat:Nat):Int) q0).bind fun j0=>(if d0 = true then c0 (true,b0 + 1) else (if g0 = k0 then (if j0 = p0 then c0 (true,b0 + 1) else (if g0 = p0 then c0 ((decide (j0 = k0)),b0 + 1) else c0 (false,b0 + 1))) else (if g0 = p0 then c0 ((decide (j0 = k0)),b0 + 1) else c0 (false,b0 + 1)))) else some d0) else some d0)
def aa_l4 (_n:Nat) (a0:Td) (q0:Int) (k0:Int) (p0:Int) (c0:Bool × Nat -> Option Bool):Bool × Nat -> Option Bool
  | (d0,b0)=>(if b0 < a0.fm.length then (if b0 < 3 then (a0.fm[b0]?).bind fun s0=>(bz ((s0.1.toNat:Nat):Int) q0).bind fun g0=>(bz ((s0.2.toNat:Nat):Int) q0).bind fun j0=>(if d0 = true then c0 (true,b0 + 1) else (if g0 = k0 then (if j0 = p0 then c0 (true,b0 + 1) else (if g0 = p0 then c0 ((decide (j0 = k0)),b0 + 1) else c0 (false,b0 + 1))) else (if g0 = p0 then c0 ((decide (j0 = k0)),b0 + 1) else c0 (false,b0 + 1)))) else some d0) else some d0)
def aa_l5 (n:Nat) (j0:Int) (d0:Int) (a0:Td) (k0:Int × Int × (List (Int × Int)) -> Option (Int × (List (Int × Int)))):Int × Int × (List (Int × Int)) -> Option (Int × (List (Int × Int)))
  | (c0,b0,g0)=>(if b0 < j0 then (chk (d0 + ((1 + ((a0.fj % (4:UInt8)).toNat):Nat):Int))).bind fun I0=>(if b0 = I0 then (bz c0 2).bind fun J0=>(if J0 = 1 then (dq c0 2).bind fun K0=>(bz K0 16).bind fun M0=>jn (fun C0=>(chk (c0 + 1)).bind fun P0=>jn (fun D0=>jn (fun j1=>(chk (b0 + 1)).bind fun Q0=>k0 (P0,Q0,j1)) (fun t0=>(if D0 = true then (app g0 ([(d0,b0)]:List (Int × Int))).bind fun k1=>t0 k1 else t0 g0))) (fun y0=>Option.bind (ac (aa_l1 n a0 j0 d0 b0) n (C0,0)) (y0))) (fun s0=>(if (((shr16 a0.fk ((ae M0).toNat)) &&& (1:UInt16)).toNat) = 1 then s0 false else s0 true)) else (chk (c0 + 1)).bind fun R0=>jn (fun E0=>jn (fun p1=>(chk (b0 + 1)).bind fun U0=>k0 (R0,U0,p1)) (fun u0=>(if E0 = true then (app g0 ([(d0,b0)]:List (Int × Int))).bind fun q1=>u0 q1 else u0 g0))) (fun z0=>Option.bind (ac (aa_l2 n a0 j0 d0 b0) n (true,0)) (z0))) else (chk (d0 + 1)).bind fun V0=>(if b0 = V0 then (bz b0 ((1 + ((a0.fj % (4:UInt8)).toNat):Nat):Int)).bind fun q0=>jn (fun (x1,F0)=>jn (fun G0=>jn (fun s1=>(chk (b0 + 1)).bind fun W0=>k0 (x1,W0,s1)) (fun v0=>(if G0 = true then (app g0 ([(d0,b0)]:List (Int × Int))).bind fun t1=>v0 t1 else v0 g0))) (fun A0=>Option.bind (ac (aa_l3 n a0 j0 d0 b0) n (F0,0)) (A0))) (fun p0=>(if q0 = 0 then p0 (c0,(!(decide (q0 = 0)))) else (bz c0 2).bind fun X0=>(if X0 = 1 then (dq c0 2).bind fun Y0=>(bz Y0 16).bind fun Z0=>(if (((shr16 a0.fk ((ae Z0).toNat)) &&& (1:UInt16)).toNat) = 1 then (chk (c0 + 1)).bind fun b1=>p0 (b1,false) else (chk (c0 + 1)).bind fun c1=>p0 (c1,(!(decide (q0 = 0))))) else (chk (c0 + 1)).bind fun d1=>p0 (d1,(!(decide (q0 = 0))))))) else jn (fun H0=>jn (fun u1=>(chk (b0 + 1)).bind fun g1=>k0 (c0,g1,u1)) (fun x0=>(if H0 = true then (app g0 ([(d0,b0)]:List (Int × Int))).bind fun v1=>x0 v1 else x0 g0))) (fun B0=>Option.bind (ac (aa_l4 n a0 j0 d0 b0) n (false,0)) (B0)))) else some (c0,g0))
def aa_l6 (n:Nat) (c0:Int) (a0:Td) (g0:Int × Int × (List (Int × Int)) -> Option (List (Int × Int))):Int × Int × (List (Int × Int)) -> Option (List (Int × Int))
  | (q0,b0,d0)=>(if b0 < c0 then (chk (b0 + 1)).bind fun j0=>Option.bind (ac (aa_l5 n c0 b0 a0) n (q0,j0,d0)) (fun (s0,p0)=>(chk (b0 + 1)).bind fun k0=>g0 (s0,k0,p0)) else some d0)
def aa_p (n:Nat) (a0:Td):Option Tb:=
  (chk (((1 + ((a0.fj % (4:UInt8)).toNat):Nat):Int) * ((1 + ((a0.fl % (3:UInt8)).toNat):Nat):Int))).bind fun b0=>Option.bind (ac (aa_l6 n b0 a0) n (0,0,([]:List (Int × Int)))) (fun c0=>some (⟨b0,c0⟩:Tb))
theorem aa_c (n:Nat) {L w} (hL:hl L w) (a0:Td) {v0_3:Value} (h0_3:Rep.R w L [v0_3] a0.fm)  {r:Tb} (h:aa_p n a0 = some r) :
 Cl 6 #[.agg #[.int .u8 (a0.fj.toNat:Int),.int .u8 (a0.fl.toNat:Int),.int .u16 (a0.fk.toNat:Int),v0_3]] w (ah w fun w' u=>∃ v0_1:Value,u = .agg #[vI r.fN,v0_1]/\Rep.R w' L [v0_1] r.fh):=by
 unfold aa_p at h
 refine AG func6 rfl rfl rfl fun _ cs0 hb0=>Af<|RG.bx (AF w) rfl rfl fun w11 g0 b6 M9=>RG.nl [vI 0,vN] b6 fun w16 j0 E2 P9=>Aa<|Aj<|du 12 fun P0 R0=>Rv 0 P0 rfl R0 (fun _=>BB 0 rfl)<|Rx 1 3100 P0 rfl R0 (AM rfl ((E2.memA .t1) 0 _ rfl))<|Rv 2 P0 rfl R0 (fun _=>FV.rem8 (a:=a0.fj) (b:=(4:UInt8)) rfl rfl (by decide)) ?_
 have c00:=(a0.fj % (4:UInt8)).toNat_lt
 refine Rv 3 P0 rfl R0 (fun _=>FV.convN (i:=(a0.fj % (4:UInt8)).toNat) underlying5 underlying3 rfl (by omega))<|Rv 4 P0 rfl R0 (fun _=>AW (i:=1) (j:=(a0.fj % (4:UInt8)).toNat) rfl rfl (by omega))<|Rv 5 P0 rfl R0 (fun _=>BB 1 rfl)<|Rx 6 2944 P0 rfl R0 (AM rfl ((E2.memA .t1) 1 _ rfl))<|Rv 7 P0 rfl R0 (fun _=>FV.rem8 (a:=a0.fl) (b:=(3:UInt8)) rfl rfl (by decide)) ?_
 have d00:=(a0.fl % (3:UInt8)).toNat_lt
 refine Rv 8 P0 rfl R0 (fun _=>FV.convN (i:=(a0.fl % (3:UInt8)).toNat) underlying5 underlying3 rfl (by omega))<|Rv 9 P0 rfl R0 (fun _=>AW (i:=1) (j:=(a0.fl % (3:UInt8)).toNat) rfl rfl (by omega))<|Rv 10 P0 rfl R0 (fun _=>Ba rfl)<|Rv 11 P0 rfl R0 (fun _=>Ba rfl)<|AZ (dk P0)<|Af<|Ac rfl<|Ac rfl<|bk h fun d0 t7 h=>Ab (FV.mulc (i:=((1 + ((a0.fj % (4:UInt8)).toNat):Nat):Int)) (j:=((1 + ((a0.fl % (3:UInt8)).toNat):Nat):Int)) rfl rfl t7)<|Ab (AL (vs:=[vI d0]) (u:=.agg #[vI d0,vN]) (e1 rfl) (fun p=>by kernel_rfl))<|RG.nl [vI 0,vN] E2 fun w26 k0 c6 Q9=>AX [vI d0,vN] c6 .hd (ck rfl) fun w30 H3 R9=>Aa<|Af<|Ae rfl<|Aa<|Aj<|Af<|Ae rfl<|Aa<|Ar ?_
 have F2:=H3.nilRow 62 (Rep.size (Int × Int))
 have U9:=St.nilRowT H3 62 (Rep.size (Int × Int))
 have I3:=F2.nilRow 62 (Rep.size (Int × Int))
 have W9:=AE (cs:=[]) (xs:=([]:List (Int × Int))) I3 L (AJ _ _)
 obtain ⟨v00,Y6,W6⟩:=ai h
 refine MX.lf (α:=Int × Int × (List (Int × Int)) × Value × (List Value)) (fun ⟨G1,b0,U0,Q0,q1⟩=>[(1,vP g0),(2,vP j0),(3,vI ((1 + ((a0.fj % (4:UInt8)).toNat):Nat):Int)),(5,vP k0),(6,vI G1),(7,vI b0)]) (fun ⟨G1,b0,U0,Q0,q1⟩=>[rr w 62 (Int × Int) vN (([]:List (Int × Int)).length) [],rr w 62 (Int × Int) Q0 U0.length q1,.cells k0 [vI d0,Q0] 34,.cells j0 [vI 0,vN] 34,.cells g0 [.int .u8 (a0.fj.toNat:Int),.int .u8 (a0.fl.toNat:Int),.int .u16 (a0.fk.toNat:Int),v0_3] 25]) (fun ⟨G1,b0,U0,Q0,q1⟩ F4=>Cells F4 (bl [rr w 62 (Int × Int) vN (([]:List (Int × Int)).length) [],rr w 62 (Int × Int) Q0 U0.length q1,.cells k0 [vI d0,Q0] 34,.cells j0 [vI 0,vN] 34,.cells g0 [.int .u8 (a0.fj.toNat:Int),.int .u8 (a0.fl.toNat:Int),.int .u16 (a0.fk.toNat:Int),v0_3] 25] ++ L) q1 U0) (fun ⟨G1,b0,U0,Q0,q1⟩=>(G1,b0,U0)) (0,0,([]:List (Int × Int)),vN,[]) Y6 I3 (Az (AE (cs:=[]) (xs:=([]:List (Int × Int))) F2 L (AJ _ _)) (St.nilRowT F2 62 (Rep.size (Int × Int)))) ?_
 rintro Y8 ⟨G1,b0,U0,Q0,q1⟩ F4 Z5 W1 z6 d4 h
 unfold aa_l6 at h
 try dsimp only at h
 refine Aj<|Af<|Ac rfl<|AT 0 rfl<|AA rfl ((W1.memA .t2) 0 _ rfl)<|Ab (FV.lss (i:=b0) (j:=d0) rfl rfl)<|Aa<|AN rfl h (fun M4 h=>?_) (fun M4 h=>?_)
 refine Ao<|Aj<|Ar<|Af<|Ac rfl<|bk h fun v8 u7 h=>Ab (Bp (i:=b0) (j:=1) rfl rfl u7)<|Ae rfl<|Aa<|Ar ?_
 obtain ⟨x00,Z6,X6⟩:=ai h
 refine MX.lf (α:=Int × Int × (List (Int × Int)) × Value × (List Value)) (fun ⟨C0,c0,v0,p0,x0⟩=>[(1,vP g0),(2,vP j0),(3,vI ((1 + ((a0.fj % (4:UInt8)).toNat):Nat):Int)),(5,vP k0),(6,vI C0),(7,vI b0),(8,vI c0)]) (fun ⟨C0,c0,v0,p0,x0⟩=>[rr w 62 (Int × Int) vN (([]:List (Int × Int)).length) [],rr w 62 (Int × Int) p0 v0.length x0,.cells k0 [vI d0,p0] 34,.cells j0 [vI 0,vN] 34,.cells g0 [.int .u8 (a0.fj.toNat:Int),.int .u8 (a0.fl.toNat:Int),.int .u16 (a0.fk.toNat:Int),v0_3] 25]) (fun ⟨C0,c0,v0,p0,x0⟩ G4=>Cells G4 (bl [rr w 62 (Int × Int) vN (([]:List (Int × Int)).length) [],rr w 62 (Int × Int) p0 v0.length x0,.cells k0 [vI d0,p0] 34,.cells j0 [vI 0,vN] 34,.cells g0 [.int .u8 (a0.fj.toNat:Int),.int .u8 (a0.fl.toNat:Int),.int .u16 (a0.fk.toNat:Int),v0_3] 25] ++ L) x0 v0) (fun ⟨C0,c0,v0,p0,x0⟩=>(C0,c0,v0)) (G1,v8,U0,Q0,q1) Z6 W1 d4 ?_
 rintro Z8 ⟨C0,c0,v0,p0,x0⟩ G4 p2 H0 X1 V0 h
 unfold aa_l5 at h
 try dsimp only at h
 refine Aj<|Af<|Ac rfl<|AT 0 rfl<|AA rfl ((H0.memA .t2) 0 _ rfl)<|Ab (FV.lss (i:=c0) (j:=d0) rfl rfl)<|Aa<|AN rfl h (fun P4 h=>?_) (fun P4 h=>?_)
 refine Ao<|Aj<|Ar<|Af<|Ac rfl<|Ac rfl<|Ac rfl<|bk h fun x8 v7 h=>Ab (Bp (i:=b0) (j:=((1 + ((a0.fj % (4:UInt8)).toNat):Nat):Int)) rfl rfl v7)<|Ab (Br (i:=c0) (j:=x8) rfl rfl)<|Ac rfl<|Bn (s:=46) rfl h (fun Q4 h=>?_) (fun Q4 h=>?_)
 refine Ah<|Ah<|Ah<|Ah<|Ah<|Bg<|Bg<|Bg<|Bg<|Ah<|Bd rfl rfl<|Ae rfl<|Aa<|Aj<|Af<|Ac rfl<|Aa<|AS rfl<|Aj<|Af<|Ac rfl<|bk h fun y8 x7 h=>Ab (FV.remc (i:=C0) (j:=2) rfl rfl x7)<|Ab (Br (i:=y8) (j:=1) rfl rfl)<|Ac rfl<|Bn (s:=62) rfl h (fun R4 h=>?_) (fun R4 h=>?_)
 refine RG.fg 2 rfl<|Al (AM rfl ((H0.memA .t4) 2 _ rfl))<|Al (Ag rfl)<|bk h fun z8 y7 h=>Al (FV.quoc (i:=C0) (j:=2) rfl rfl y7)<|bk h fun z2 z7 h=>Al (FV.remc (i:=z8) (j:=16) rfl rfl z7)<|Al (FV.convU (i:=z2) underlying3 underlying38 rfl)<|Al (FV.shr16 (a:=a0.fk) (j:=(ae z2).toNat) rfl rfl)<|Al (FV.and16 (a:=shr16 a0.fk ((ae z2).toNat)) (b:=(1:UInt16)) rfl rfl)<|Al (FV.eqlN (i:=((shr16 a0.fk ((ae z2).toNat)) &&& (1:UInt16)).toNat) (j:=1) rfl rfl)<|Bd rfl rfl<|Aa<|MX.jo (α:=Bool) (fun M1=>[(1,vP g0),(2,vP j0),(3,vI ((1 + ((a0.fj % (4:UInt8)).toNat):Nat):Int)),(5,vP k0),(6,vI C0),(7,vI b0),(8,vI c0),(9,.bool M1)]) (fun M1=>[rr w 62 (Int × Int) vN (([]:List (Int × Int)).length) [],rr w 62 (Int × Int) p0 v0.length x0,.cells k0 [vI d0,p0] 34,.cells j0 [vI 0,vN] 34,.cells g0 [.int .u8 (a0.fj.toNat:Int),.int .u8 (a0.fl.toNat:Int),.int .u16 (a0.fk.toNat:Int),v0_3] 25]) (fun M1=>M1) H0 h ?_ ?_
 rintro M1 Y00 J3 U2 h
 try dsimp only at h
 refine Ak<|Ac rfl<|bk h fun A2 A7 h=>Ab (Bp (i:=C0) (j:=1) rfl rfl A7)<|Ae rfl<|Aa<|Aj<|Af<|Ae rfl<|Aa<|Ar<|MX.xo (α:=Bool) 4 (fun Y1=>[(1,vP g0),(2,vP j0),(3,vI ((1 + ((a0.fj % (4:UInt8)).toNat):Nat):Int)),(5,vP k0),(6,vI A2),(7,vI b0),(8,vI c0),(9,.bool Y1)]) (fun Y1=>[rr w 62 (Int × Int) vN (([]:List (Int × Int)).length) [],rr w 62 (Int × Int) p0 v0.length x0,.cells k0 [vI d0,p0] 34,.cells j0 [vI 0,vN] 34,.cells g0 [.int .u8 (a0.fj.toNat:Int),.int .u8 (a0.fl.toNat:Int),.int .u16 (a0.fk.toNat:Int),v0_3] 25]) (fun Y1=>Y1) J3 rfl h ?_ ?_
 rintro Y1 Z00 s2 V2 h
 try dsimp only at h
 refine Af<|Ac rfl<|Aa<|MX.jf (α:=(List (Int × Int)) × Value × (List Value)) (fun ⟨b1,W0,s1⟩=>[(1,vP g0),(2,vP j0),(3,vI ((1 + ((a0.fj % (4:UInt8)).toNat):Nat):Int)),(5,vP k0),(6,vI A2),(7,vI b0),(8,vI c0)]) (fun ⟨b1,W0,s1⟩=>[rr w 62 (Int × Int) vN (([]:List (Int × Int)).length) [],rr w 62 (Int × Int) W0 b1.length s1,.cells k0 [vI d0,W0] 34,.cells j0 [vI 0,vN] 34,.cells g0 [.int .u8 (a0.fj.toNat:Int),.int .u8 (a0.fl.toNat:Int),.int .u16 (a0.fk.toNat:Int),v0_3] 25]) (fun ⟨b1,W0,s1⟩ H4=>Cells H4 (bl [rr w 62 (Int × Int) vN (([]:List (Int × Int)).length) [],rr w 62 (Int × Int) W0 b1.length s1,.cells k0 [vI d0,W0] 34,.cells j0 [vI 0,vN] 34,.cells g0 [.int .u8 (a0.fj.toNat:Int),.int .u8 (a0.fl.toNat:Int),.int .u16 (a0.fk.toNat:Int),v0_3] 25] ++ L) s1 b1) (fun ⟨b1,W0,s1⟩=>b1) s2 h ?_ ?_
 rintro ⟨b1,W0,s1⟩ H4 d6 A6 J6 h
 try dsimp only at h
 refine Ap<|Ak<|Ac rfl<|bk h fun A8 B7 h=>Ab (Bp (i:=c0) (j:=1) rfl rfl B7)<|Ae rfl<|Aa<|p2 (A2,A8,b1,W0,s1) d6 (Tt X1 (Tt U2 (Tt V2 A6))) J6 h
 intro d9 A3 h
 try dsimp only at h
 refine MX.ifb rfl h (fun U4 h=>?_) (fun U4 h=>?_)
 refine Ak<|AT 1 rfl<|AA rfl ((s2.memA .t2) 1 _ rfl)<|Ac rfl<|Ac rfl<|Ab (AL (vs:=[vI b0,vI c0]) (u:=.agg #[vI b0,vI c0]) (e2 rfl rfl) (fun p=>by kernel_rfl))<|Au .plain rfl (AO (α:=Int × Int) (xs:=([(b0,c0)]:List (Int × Int))) (vs:=[.agg #[vI b0,vI c0]]) (ds' :=[vI b0,vI c0]) rfl s2 dH rfl (e1 rfl) (by kernel_rfl) rfl) fun G00 z9 G2 M3=>bk h fun M8 p8 h=>Bz .plain rfl (Bw (α:=Int × Int) (ys:=([(b0,c0)]:List (Int × Int))) p8 G2 (fun _ _=>.t2) dH rfl rfl (Az V0 (Tt U2 (Tt V2 M3))) (Src.row (α:=Int × Int) G2 .hd (AE (cs:=[vI b0,vI c0]) (xs:=(([(b0,c0)]:List (Int × Int)):List (Int × Int))) G2 L (Ay (cs:=[vI b0,vI c0]) (ds:=[]) (bn b0 c0) (AJ _ _))))) fun s3 H00 ⟨V5,H2,B6,K6⟩=>AT 1 rfl<|RG.now .plain (Acts.store (j:=1) (old:=[vI d0,p0]) (news:=[s3]) (new' :=[vI d0,s3]) H2 .t3 rfl rfl rfl (St.c1 (α:=Int × Int) H2 .t2) rfl rfl (o1 (St.o1 (α:=Int × Int) H2 .t2)) rfl) fun I00 g6 P3=>Aa ?_
 obtain ⟨j6,Q3⟩:=AH g6 .d1
 exact A3 (M8,s3,V5) j6 (Tt M3 (Tt B6 (Tt P3 Q3))) (Az K6 (Tt P3 Q3)) h
 refine Ao<|A3 (v0,p0,x0) s2 (Bs _ _) (Az V0 (Tt U2 V2)) h
 intro c9 z3 h
 try dsimp only at h
 obtain ⟨y00,b7,q4⟩:=ai h
 refine MX.lo (α:=Bool × Nat) (fun ⟨C1,D0⟩=>[(1,vP g0),(2,vP j0),(3,vI ((1 + ((a0.fj % (4:UInt8)).toNat):Nat):Int)),(5,vP k0),(6,vI A2),(7,vI b0),(8,vI c0),(9,.bool C1),(10,vI ((D0:Nat):Int))]) (fun ⟨C1,D0⟩=>[rr w 62 (Int × Int) vN (([]:List (Int × Int)).length) [],rr w 62 (Int × Int) p0 v0.length x0,.cells k0 [vI d0,p0] 34,.cells j0 [vI 0,vN] 34,.cells g0 [.int .u8 (a0.fj.toNat:Int),.int .u8 (a0.fl.toNat:Int),.int .u16 (a0.fk.toNat:Int),v0_3] 25]) (fun ⟨C1,D0⟩=>(C1,D0)) (M1,0) b7 J3 ?_
 rintro g9 ⟨C1,D0⟩ b01 H1 I0 y1 h
 unfold aa_l1 at h
 try dsimp only at h
 refine Aj<|Af<|Ac rfl<|AT 3 rfl<|AA rfl ((I0.memA .t4) 3 _ rfl) ?_
 have b3:=Be h0_3 I0
 have X9:a0.fm.length <= 281474976710656:=AY b3
 refine Ab (Bh (xs:=a0.fm) underlying23 rfl b3)<|Ab (Bq (i:=D0) (j:=a0.fm.length) rfl rfl)<|Ac rfl<|Bn (s:=80) rfl h (fun V4 h=>?_) (fun V4 h=>?_)
 refine Al (Ag rfl)<|Al (Bq (i:=D0) (j:=3) rfl rfl)<|Bd rfl rfl<|Aa<|AN rfl h (fun W4 h=>?_) (fun W4 h=>?_)
 refine Ao<|Aj<|Ar<|Aj<|du 22 fun q0 y0=>Rv 0 q0 rfl y0 (fun _=>BB 3 rfl)<|Rx 1 3146360 q0 rfl y0 (AM rfl ((I0.memA .t4) 3 _ rfl))<|Rv 2 q0 rfl y0 (fun _=>Ag rfl)<|bk h fun Q1 d8 h=>?_
 obtain ⟨U8,D9,g4,x4,H9,j7,B4⟩:=Bm b3 d8
 obtain rfl:=eh j7
 refine Rv 3 q0 rfl y0 (fun _=>Bk 2 D0 rfl g4 rfl rfl x4)<|Rv 4 q0 rfl y0 (fun _=>AB (m:=1) (k:=0) (len:=2) rfl rfl rfl rfl (by omega))<|Rx 5 3146304 q0 rfl y0 (AM rfl (B4 0 _ rfl)) ?_
 have g00:=Q1.1.toNat_lt
 refine Rv 6 q0 rfl y0 (fun _=>FV.convN (i:=Q1.1.toNat) underlying5 underlying3 rfl (by omega))<|Rv 7 q0 rfl y0 (fun _=>BB 0 rfl)<|Rx 8 3146240 q0 rfl y0 (AM rfl ((I0.memA .t2) 0 _ rfl))<|bk h fun j3 C7 h=>Rv 9 q0 rfl y0 (fun _=>FV.remc (i:=((Q1.1.toNat:Nat):Int)) (j:=d0) rfl rfl C7)<|Rv 10 q0 rfl y0 (fun _=>BB 3 rfl)<|Rx 11 2744320 q0 rfl y0 (AM rfl ((I0.memA .t4) 3 _ rfl))<|Rv 12 q0 rfl y0 (fun _=>Ag rfl)<|Rv 13 q0 rfl y0 (fun _=>Bk 2 D0 rfl g4 rfl rfl x4)<|Rv 14 q0 rfl y0 (fun _=>AB (m:=1) (k:=1) (len:=2) rfl rfl rfl rfl (by omega))<|Rx 15 2686976 q0 rfl y0 (AM rfl (B4 1 _ rfl)) ?_
 have j00:=Q1.2.toNat_lt
 refine Rv 16 q0 rfl y0 (fun _=>FV.convN (i:=Q1.2.toNat) underlying5 underlying3 rfl (by omega))<|Rv 17 q0 rfl y0 (fun _=>BB 0 rfl)<|Rx 18 2621440 q0 rfl y0 (AM rfl ((I0.memA .t2) 0 _ rfl))<|bk h fun d2 D7 h=>Rv 19 q0 rfl y0 (fun _=>FV.remc (i:=((Q1.2.toNat:Nat):Int)) (j:=d0) rfl rfl D7)<|Rv 20 q0 rfl y0 (fun _=>Ba rfl)<|Rv 21 q0 rfl y0 (fun _=>Ba rfl)<|AZ (dk q0)<|Ak<|Ac rfl<|Ac rfl<|RG.ifb (s:=107) rfl h (fun X4 h=>?_) (fun X4 h=>?_)
 refine Ah<|Ah<|Ah<|Ah<|Bg<|Bg<|Bg<|Ah<|Bd rfl rfl<|Ac rfl<|Ah<|Ah<|Ah<|Ah<|Bg<|Bg<|Bg<|Ah<|Bd rfl rfl<|Ae rfl<|Aa<|Ap<|Ak<|Ac rfl<|Ab (AW (i:=D0) (j:=1) rfl rfl (by omega))<|Ae rfl<|Aa<|H1 (true,D0 + 1) I0 y1 h
 refine Al (Ag rfl)<|Al (Ag rfl)<|Al (Br (i:=j3) (j:=b0) rfl rfl)<|Al (Ag rfl)<|Bn (s:=111) rfl h (fun Y4 h=>?_) (fun Y4 h=>?_)
 refine Al (Ag rfl)<|Al (Ag rfl)<|Al (Br (i:=d2) (j:=c0) rfl rfl)<|Al (Bj rfl rfl)<|Bb rfl rfl<|Ac rfl<|Bn (s:=117) rfl h (fun Z4 h=>?_) (fun Z4 h=>?_)
 refine Ah<|Ah<|Ah<|Ah<|Bg<|Bg<|Bg<|Ah<|Bd rfl rfl<|Ae rfl<|Aa<|Ap<|Ak<|Ac rfl<|Ab (AW (i:=D0) (j:=1) rfl rfl (by omega))<|Ae rfl<|Aa<|H1 (true,D0 + 1) I0 y1 h
 refine Al (Ag rfl)<|Al (Ag rfl)<|Al (Br (i:=j3) (j:=c0) rfl rfl)<|Al (Ag rfl)<|Bn (s:=121) rfl h (fun b5 h=>?_) (fun b5 h=>?_)
 refine Al (Ag rfl)<|Al (Ag rfl)<|Al (Br (i:=d2) (j:=b0) rfl rfl)<|Al (Bj rfl rfl)<|Bb rfl rfl<|Ae rfl<|Aa<|Ap<|Ak<|Ac rfl<|Ab (AW (i:=D0) (j:=1) rfl rfl (by omega))<|Ae rfl<|Aa<|H1 ((decide (d2 = b0)),D0 + 1) I0 y1 h
 refine Ah<|Ah<|Ah<|Al (AD rfl rfl)<|Bb rfl rfl<|Ae rfl<|Aa<|Ap<|Ak<|Ac rfl<|Ab (AW (i:=D0) (j:=1) rfl rfl (by omega))<|Ae rfl<|Aa<|H1 (false,D0 + 1) I0 y1 h
 refine Ah<|Ah<|Ah<|Al (AD rfl rfl)<|Bb rfl rfl<|Ac rfl<|Al (Ag rfl)<|Al (Ag rfl)<|Al (Br (i:=j3) (j:=c0) rfl rfl)<|Al (Ag rfl)<|Bn (s:=121) rfl h (fun c5 h=>?_) (fun c5 h=>?_)
 refine Al (Ag rfl)<|Al (Ag rfl)<|Al (Br (i:=d2) (j:=b0) rfl rfl)<|Al (Bj rfl rfl)<|Bb rfl rfl<|Ae rfl<|Aa<|Ap<|Ak<|Ac rfl<|Ab (AW (i:=D0) (j:=1) rfl rfl (by omega))<|Ae rfl<|Aa<|H1 ((decide (d2 = b0)),D0 + 1) I0 y1 h
 refine Ah<|Ah<|Ah<|Al (AD rfl rfl)<|Bb rfl rfl<|Ae rfl<|Aa<|Ap<|Ak<|Ac rfl<|Ab (AW (i:=D0) (j:=1) rfl rfl (by omega))<|Ae rfl<|Aa<|H1 (false,D0 + 1) I0 y1 h
 refine AV rfl ?_
 have h:=q4 _ h
 try dsimp only at h
 exact z3 C1 I0 y1 h
 refine Ah<|Ah<|Bb rfl rfl<|Aa<|Bl rfl<|AV rfl ?_
 have h:=q4 _ h
 try dsimp only at h
 exact z3 C1 I0 y1 h
 intro b9 y3 h
 try dsimp only at h
 refine AN rfl h (fun d5 h=>?_) (fun d5 h=>?_)
 refine Ak<|Ae rfl<|Aa<|y3 false H0 (Bs _ _) h
 refine Ao<|y3 true H0 (Bs _ _) h
 refine Ah<|Ah<|Ah<|Ah<|Ah<|Ah<|Ah<|Ah<|Ah<|Bb rfl rfl<|Aa<|Bl rfl<|Ao<|Ak<|Ac rfl<|bk h fun B2 E7 h=>Ab (Bp (i:=C0) (j:=1) rfl rfl E7)<|Ae rfl<|Aa<|Aj<|Af<|Ae rfl<|Aa<|Ar<|MX.xo (α:=Bool) 4 (fun Z1=>[(1,vP g0),(2,vP j0),(3,vI ((1 + ((a0.fj % (4:UInt8)).toNat):Nat):Int)),(5,vP k0),(6,vI B2),(7,vI b0),(8,vI c0),(9,.bool Z1)]) (fun Z1=>[rr w 62 (Int × Int) vN (([]:List (Int × Int)).length) [],rr w 62 (Int × Int) p0 v0.length x0,.cells k0 [vI d0,p0] 34,.cells j0 [vI 0,vN] 34,.cells g0 [.int .u8 (a0.fj.toNat:Int),.int .u8 (a0.fl.toNat:Int),.int .u16 (a0.fk.toNat:Int),v0_3] 25]) (fun Z1=>Z1) H0 rfl h ?_ ?_
 rintro Z1 c01 u2 W2 h
 try dsimp only at h
 refine Af<|Ac rfl<|Aa<|MX.jf (α:=(List (Int × Int)) × Value × (List Value)) (fun ⟨g1,X0,u1⟩=>[(1,vP g0),(2,vP j0),(3,vI ((1 + ((a0.fj % (4:UInt8)).toNat):Nat):Int)),(5,vP k0),(6,vI B2),(7,vI b0),(8,vI c0)]) (fun ⟨g1,X0,u1⟩=>[rr w 62 (Int × Int) vN (([]:List (Int × Int)).length) [],rr w 62 (Int × Int) X0 g1.length u1,.cells k0 [vI d0,X0] 34,.cells j0 [vI 0,vN] 34,.cells g0 [.int .u8 (a0.fj.toNat:Int),.int .u8 (a0.fl.toNat:Int),.int .u16 (a0.fk.toNat:Int),v0_3] 25]) (fun ⟨g1,X0,u1⟩ I4=>Cells I4 (bl [rr w 62 (Int × Int) vN (([]:List (Int × Int)).length) [],rr w 62 (Int × Int) X0 g1.length u1,.cells k0 [vI d0,X0] 34,.cells j0 [vI 0,vN] 34,.cells g0 [.int .u8 (a0.fj.toNat:Int),.int .u8 (a0.fl.toNat:Int),.int .u16 (a0.fk.toNat:Int),v0_3] 25] ++ L) u1 g1) (fun ⟨g1,X0,u1⟩=>g1) u2 h ?_ ?_
 rintro ⟨g1,X0,u1⟩ I4 k6 C6 M6 h
 try dsimp only at h
 refine Ap<|Ak<|Ac rfl<|bk h fun B8 F7 h=>Ab (Bp (i:=c0) (j:=1) rfl rfl F7)<|Ae rfl<|Aa<|p2 (B2,B8,g1,X0,u1) k6 (Tt X1 (Tt W2 C6)) M6 h
 intro k9 C3 h
 try dsimp only at h
 refine MX.ifb rfl h (fun g5 h=>?_) (fun g5 h=>?_)
 refine Ak<|AT 1 rfl<|AA rfl ((u2.memA .t2) 1 _ rfl)<|Ac rfl<|Ac rfl<|Ab (AL (vs:=[vI b0,vI c0]) (u:=.agg #[vI b0,vI c0]) (e2 rfl rfl) (fun p=>by kernel_rfl))<|Au .plain rfl (AO (α:=Int × Int) (xs:=([(b0,c0)]:List (Int × Int))) (vs:=[.agg #[vI b0,vI c0]]) (ds' :=[vI b0,vI c0]) rfl u2 dH rfl (e1 rfl) (by kernel_rfl) rfl) fun J00 A9 I2 R3=>bk h fun P8 q8 h=>Bz .plain rfl (Bw (α:=Int × Int) (ys:=([(b0,c0)]:List (Int × Int))) q8 I2 (fun _ _=>.t2) dH rfl rfl (Az V0 (Tt W2 R3)) (Src.row (α:=Int × Int) I2 .hd (AE (cs:=[vI b0,vI c0]) (xs:=(([(b0,c0)]:List (Int × Int)):List (Int × Int))) I2 L (Ay (cs:=[vI b0,vI c0]) (ds:=[]) (bn b0 c0) (AJ _ _))))) fun u3 K00 ⟨W5,J2,D6,P6⟩=>AT 1 rfl<|RG.now .plain (Acts.store (j:=1) (old:=[vI d0,p0]) (news:=[u3]) (new' :=[vI d0,u3]) J2 .t3 rfl rfl rfl (St.c1 (α:=Int × Int) J2 .t2) rfl rfl (o1 (St.o1 (α:=Int × Int) J2 .t2)) rfl) fun M00 p6 U3=>Aa ?_
 obtain ⟨q6,V3⟩:=AH p6 .d1
 exact C3 (P8,u3,W5) q6 (Tt R3 (Tt D6 (Tt U3 V3))) (Az P6 (Tt U3 V3)) h
 refine Ao<|C3 (v0,p0,x0) u2 (Bs _ _) (Az V0 W2) h
 intro j9 B3 h
 try dsimp only at h
 obtain ⟨z00,c7,s4⟩:=ai h
 refine MX.lo (α:=Bool × Nat) (fun ⟨D1,E0⟩=>[(1,vP g0),(2,vP j0),(3,vI ((1 + ((a0.fj % (4:UInt8)).toNat):Nat):Int)),(5,vP k0),(6,vI B2),(7,vI b0),(8,vI c0),(9,.bool D1),(10,vI ((E0:Nat):Int))]) (fun ⟨D1,E0⟩=>[rr w 62 (Int × Int) vN (([]:List (Int × Int)).length) [],rr w 62 (Int × Int) p0 v0.length x0,.cells k0 [vI d0,p0] 34,.cells j0 [vI 0,vN] 34,.cells g0 [.int .u8 (a0.fj.toNat:Int),.int .u8 (a0.fl.toNat:Int),.int .u16 (a0.fk.toNat:Int),v0_3] 25]) (fun ⟨D1,E0⟩=>(D1,E0)) (true,0) c7 H0 ?_
 rintro p9 ⟨D1,E0⟩ d01 I1 J0 z1 h
 unfold aa_l2 at h
 try dsimp only at h
 refine Aj<|Af<|Ac rfl<|AT 3 rfl<|AA rfl ((J0.memA .t4) 3 _ rfl) ?_
 have c3:=Be h0_3 J0
 have Y9:a0.fm.length <= 281474976710656:=AY c3
 refine Ab (Bh (xs:=a0.fm) underlying23 rfl c3)<|Ab (Bq (i:=E0) (j:=a0.fm.length) rfl rfl)<|Ac rfl<|Bn (s:=80) rfl h (fun j5 h=>?_) (fun j5 h=>?_)
 refine Al (Ag rfl)<|Al (Bq (i:=E0) (j:=3) rfl rfl)<|Bd rfl rfl<|Aa<|AN rfl h (fun k5 h=>?_) (fun k5 h=>?_)
 refine Ao<|Aj<|Ar<|Aj<|du 22 fun s0 z0=>Rv 0 s0 rfl z0 (fun _=>BB 3 rfl)<|Rx 1 3146360 s0 rfl z0 (AM rfl ((J0.memA .t4) 3 _ rfl))<|Rv 2 s0 rfl z0 (fun _=>Ag rfl)<|bk h fun R1 g8 h=>?_
 obtain ⟨V8,E9,j4,y4,I9,k7,C4⟩:=Bm c3 g8
 obtain rfl:=eh k7
 refine Rv 3 s0 rfl z0 (fun _=>Bk 2 E0 rfl j4 rfl rfl y4)<|Rv 4 s0 rfl z0 (fun _=>AB (m:=1) (k:=0) (len:=2) rfl rfl rfl rfl (by omega))<|Rx 5 3146304 s0 rfl z0 (AM rfl (C4 0 _ rfl)) ?_
 have k00:=R1.1.toNat_lt
 refine Rv 6 s0 rfl z0 (fun _=>FV.convN (i:=R1.1.toNat) underlying5 underlying3 rfl (by omega))<|Rv 7 s0 rfl z0 (fun _=>BB 0 rfl)<|Rx 8 3146240 s0 rfl z0 (AM rfl ((J0.memA .t2) 0 _ rfl))<|bk h fun k3 G7 h=>Rv 9 s0 rfl z0 (fun _=>FV.remc (i:=((R1.1.toNat:Nat):Int)) (j:=d0) rfl rfl G7)<|Rv 10 s0 rfl z0 (fun _=>BB 3 rfl)<|Rx 11 2744320 s0 rfl z0 (AM rfl ((J0.memA .t4) 3 _ rfl))<|Rv 12 s0 rfl z0 (fun _=>Ag rfl)<|Rv 13 s0 rfl z0 (fun _=>Bk 2 E0 rfl j4 rfl rfl y4)<|Rv 14 s0 rfl z0 (fun _=>AB (m:=1) (k:=1) (len:=2) rfl rfl rfl rfl (by omega))<|Rx 15 2686976 s0 rfl z0 (AM rfl (C4 1 _ rfl)) ?_
 have p00:=R1.2.toNat_lt
 refine Rv 16 s0 rfl z0 (fun _=>FV.convN (i:=R1.2.toNat) underlying5 underlying3 rfl (by omega))<|Rv 17 s0 rfl z0 (fun _=>BB 0 rfl)<|Rx 18 2621440 s0 rfl z0 (AM rfl ((J0.memA .t2) 0 _ rfl))<|bk h fun g2 H7 h=>Rv 19 s0 rfl z0 (fun _=>FV.remc (i:=((R1.2.toNat:Nat):Int)) (j:=d0) rfl rfl H7)<|Rv 20 s0 rfl z0 (fun _=>Ba rfl)<|Rv 21 s0 rfl z0 (fun _=>Ba rfl)<|AZ (dk s0)<|Ak<|Ac rfl<|Ac rfl<|RG.ifb (s:=107) rfl h (fun p5 h=>?_) (fun p5 h=>?_)
 refine Ah<|Ah<|Ah<|Ah<|Bg<|Bg<|Bg<|Ah<|Bd rfl rfl<|Ac rfl<|Ah<|Ah<|Ah<|Ah<|Bg<|Bg<|Bg<|Ah<|Bd rfl rfl<|Ae rfl<|Aa<|Ap<|Ak<|Ac rfl<|Ab (AW (i:=E0) (j:=1) rfl rfl (by omega))<|Ae rfl<|Aa<|I1 (true,E0 + 1) J0 z1 h
 refine Al (Ag rfl)<|Al (Ag rfl)<|Al (Br (i:=k3) (j:=b0) rfl rfl)<|Al (Ag rfl)<|Bn (s:=111) rfl h (fun q5 h=>?_) (fun q5 h=>?_)
 refine Al (Ag rfl)<|Al (Ag rfl)<|Al (Br (i:=g2) (j:=c0) rfl rfl)<|Al (Bj rfl rfl)<|Bb rfl rfl<|Ac rfl<|Bn (s:=117) rfl h (fun s5 h=>?_) (fun s5 h=>?_)
 refine Ah<|Ah<|Ah<|Ah<|Bg<|Bg<|Bg<|Ah<|Bd rfl rfl<|Ae rfl<|Aa<|Ap<|Ak<|Ac rfl<|Ab (AW (i:=E0) (j:=1) rfl rfl (by omega))<|Ae rfl<|Aa<|I1 (true,E0 + 1) J0 z1 h
 refine Al (Ag rfl)<|Al (Ag rfl)<|Al (Br (i:=k3) (j:=c0) rfl rfl)<|Al (Ag rfl)<|Bn (s:=121) rfl h (fun t5 h=>?_) (fun t5 h=>?_)
 refine Al (Ag rfl)<|Al (Ag rfl)<|Al (Br (i:=g2) (j:=b0) rfl rfl)<|Al (Bj rfl rfl)<|Bb rfl rfl<|Ae rfl<|Aa<|Ap<|Ak<|Ac rfl<|Ab (AW (i:=E0) (j:=1) rfl rfl (by omega))<|Ae rfl<|Aa<|I1 ((decide (g2 = b0)),E0 + 1) J0 z1 h
 refine Ah<|Ah<|Ah<|Al (AD rfl rfl)<|Bb rfl rfl<|Ae rfl<|Aa<|Ap<|Ak<|Ac rfl<|Ab (AW (i:=E0) (j:=1) rfl rfl (by omega))<|Ae rfl<|Aa<|I1 (false,E0 + 1) J0 z1 h
 refine Ah<|Ah<|Ah<|Al (AD rfl rfl)<|Bb rfl rfl<|Ac rfl<|Al (Ag rfl)<|Al (Ag rfl)<|Al (Br (i:=k3) (j:=c0) rfl rfl)<|Al (Ag rfl)<|Bn (s:=121) rfl h (fun u5 h=>?_) (fun u5 h=>?_)
 refine Al (Ag rfl)<|Al (Ag rfl)<|Al (Br (i:=g2) (j:=b0) rfl rfl)<|Al (Bj rfl rfl)<|Bb rfl rfl<|Ae rfl<|Aa<|Ap<|Ak<|Ac rfl<|Ab (AW (i:=E0) (j:=1) rfl rfl (by omega))<|Ae rfl<|Aa<|I1 ((decide (g2 = b0)),E0 + 1) J0 z1 h
 refine Ah<|Ah<|Ah<|Al (AD rfl rfl)<|Bb rfl rfl<|Ae rfl<|Aa<|Ap<|Ak<|Ac rfl<|Ab (AW (i:=E0) (j:=1) rfl rfl (by omega))<|Ae rfl<|Aa<|I1 (false,E0 + 1) J0 z1 h
 refine AV rfl ?_
 have h:=s4 _ h
 try dsimp only at h
 exact B3 D1 J0 z1 h
 refine Ah<|Ah<|Bb rfl rfl<|Aa<|Bl rfl<|AV rfl ?_
 have h:=s4 _ h
 try dsimp only at h
 exact B3 D1 J0 z1 h
 refine Al (Ag rfl)<|Al (Ag rfl)<|bk h fun C8 I7 h=>Al (Bp (i:=b0) (j:=1) rfl rfl I7)<|Al (Br (i:=c0) (j:=C8) rfl rfl)<|Al (Ag rfl)<|Bn (s:=51) rfl h (fun v5 h=>?_) (fun v5 h=>?_)
 refine Al (Ag rfl)<|Al (Ag rfl)<|bk h fun C2 J7 h=>Al (FV.remc (i:=c0) (j:=((1 + ((a0.fj % (4:UInt8)).toNat):Nat):Int)) rfl rfl J7)<|Al (FV.neq (i:=C2) (j:=0) rfl rfl)<|Al (Bj rfl rfl)<|Bb rfl rfl<|Ae rfl<|Aa<|Aj<|Af<|Ac rfl<|Aa<|MX.jo (α:=Int × Bool) (fun ⟨p1,P1⟩=>[(1,vP g0),(2,vP j0),(3,vI ((1 + ((a0.fj % (4:UInt8)).toNat):Nat):Int)),(5,vP k0),(6,vI p1),(7,vI b0),(8,vI c0),(9,.bool P1)]) (fun ⟨p1,P1⟩=>[rr w 62 (Int × Int) vN (([]:List (Int × Int)).length) [],rr w 62 (Int × Int) p0 v0.length x0,.cells k0 [vI d0,p0] 34,.cells j0 [vI 0,vN] 34,.cells g0 [.int .u8 (a0.fj.toNat:Int),.int .u8 (a0.fl.toNat:Int),.int .u16 (a0.fk.toNat:Int),v0_3] 25]) (fun ⟨p1,P1⟩=>(p1,P1)) H0 h ?_ ?_
 rintro ⟨p1,P1⟩ g01 K3 X2 h
 try dsimp only at h
 refine Aj<|Af<|Ae rfl<|Aa<|Ar<|MX.xo (α:=Bool) 4 (fun b2=>[(1,vP g0),(2,vP j0),(3,vI ((1 + ((a0.fj % (4:UInt8)).toNat):Nat):Int)),(5,vP k0),(6,vI p1),(7,vI b0),(8,vI c0),(9,.bool b2)]) (fun b2=>[rr w 62 (Int × Int) vN (([]:List (Int × Int)).length) [],rr w 62 (Int × Int) p0 v0.length x0,.cells k0 [vI d0,p0] 34,.cells j0 [vI 0,vN] 34,.cells g0 [.int .u8 (a0.fj.toNat:Int),.int .u8 (a0.fl.toNat:Int),.int .u16 (a0.fk.toNat:Int),v0_3] 25]) (fun b2=>b2) K3 rfl h ?_ ?_
 rintro b2 j01 v2 Y2 h
 try dsimp only at h
 refine Af<|Ac rfl<|Aa<|MX.jf (α:=(List (Int × Int)) × Value × (List Value)) (fun ⟨j1,Y0,v1⟩=>[(1,vP g0),(2,vP j0),(3,vI ((1 + ((a0.fj % (4:UInt8)).toNat):Nat):Int)),(5,vP k0),(6,vI p1),(7,vI b0),(8,vI c0)]) (fun ⟨j1,Y0,v1⟩=>[rr w 62 (Int × Int) vN (([]:List (Int × Int)).length) [],rr w 62 (Int × Int) Y0 j1.length v1,.cells k0 [vI d0,Y0] 34,.cells j0 [vI 0,vN] 34,.cells g0 [.int .u8 (a0.fj.toNat:Int),.int .u8 (a0.fl.toNat:Int),.int .u16 (a0.fk.toNat:Int),v0_3] 25]) (fun ⟨j1,Y0,v1⟩ J4=>Cells J4 (bl [rr w 62 (Int × Int) vN (([]:List (Int × Int)).length) [],rr w 62 (Int × Int) Y0 j1.length v1,.cells k0 [vI d0,Y0] 34,.cells j0 [vI 0,vN] 34,.cells g0 [.int .u8 (a0.fj.toNat:Int),.int .u8 (a0.fl.toNat:Int),.int .u16 (a0.fk.toNat:Int),v0_3] 25] ++ L) v1 j1) (fun ⟨j1,Y0,v1⟩=>j1) v2 h ?_ ?_
 rintro ⟨j1,Y0,v1⟩ J4 s6 E6 Q6 h
 try dsimp only at h
 refine Ap<|Ak<|Ac rfl<|bk h fun D8 K7 h=>Ab (Bp (i:=c0) (j:=1) rfl rfl K7)<|Ae rfl<|Aa<|p2 (p1,D8,j1,Y0,v1) s6 (Tt X1 (Tt X2 (Tt Y2 E6))) Q6 h
 intro t9 E3 h
 try dsimp only at h
 refine MX.ifb rfl h (fun x5 h=>?_) (fun x5 h=>?_)
 refine Ak<|AT 1 rfl<|AA rfl ((v2.memA .t2) 1 _ rfl)<|Ac rfl<|Ac rfl<|Ab (AL (vs:=[vI b0,vI c0]) (u:=.agg #[vI b0,vI c0]) (e2 rfl rfl) (fun p=>by kernel_rfl))<|Au .plain rfl (AO (α:=Int × Int) (xs:=([(b0,c0)]:List (Int × Int))) (vs:=[.agg #[vI b0,vI c0]]) (ds' :=[vI b0,vI c0]) rfl v2 dH rfl (e1 rfl) (by kernel_rfl) rfl) fun P00 B9 K2 W3=>bk h fun Q8 s8 h=>Bz .plain rfl (Bw (α:=Int × Int) (ys:=([(b0,c0)]:List (Int × Int))) s8 K2 (fun _ _=>.t2) dH rfl rfl (Az V0 (Tt X2 (Tt Y2 W3))) (Src.row (α:=Int × Int) K2 .hd (AE (cs:=[vI b0,vI c0]) (xs:=(([(b0,c0)]:List (Int × Int)):List (Int × Int))) K2 L (Ay (cs:=[vI b0,vI c0]) (ds:=[]) (bn b0 c0) (AJ _ _))))) fun v3 Q00 ⟨X5,M2,F6,R6⟩=>AT 1 rfl<|RG.now .plain (Acts.store (j:=1) (old:=[vI d0,p0]) (news:=[v3]) (new' :=[vI d0,v3]) M2 .t3 rfl rfl rfl (St.c1 (α:=Int × Int) M2 .t2) rfl rfl (o1 (St.o1 (α:=Int × Int) M2 .t2)) rfl) fun R00 t6 X3=>Aa ?_
 obtain ⟨u6,Y3⟩:=AH t6 .d1
 exact E3 (Q8,v3,X5) u6 (Tt W3 (Tt F6 (Tt X3 Y3))) (Az R6 (Tt X3 Y3)) h
 refine Ao<|E3 (v0,p0,x0) v2 (Bs _ _) (Az V0 (Tt X2 Y2)) h
 intro s9 D3 h
 try dsimp only at h
 obtain ⟨A00,d7,u4⟩:=ai h
 refine MX.lo (α:=Bool × Nat) (fun ⟨E1,F0⟩=>[(1,vP g0),(2,vP j0),(3,vI ((1 + ((a0.fj % (4:UInt8)).toNat):Nat):Int)),(5,vP k0),(6,vI p1),(7,vI b0),(8,vI c0),(9,.bool E1),(10,vI ((F0:Nat):Int))]) (fun ⟨E1,F0⟩=>[rr w 62 (Int × Int) vN (([]:List (Int × Int)).length) [],rr w 62 (Int × Int) p0 v0.length x0,.cells k0 [vI d0,p0] 34,.cells j0 [vI 0,vN] 34,.cells g0 [.int .u8 (a0.fj.toNat:Int),.int .u8 (a0.fl.toNat:Int),.int .u16 (a0.fk.toNat:Int),v0_3] 25]) (fun ⟨E1,F0⟩=>(E1,F0)) (P1,0) d7 K3 ?_
 rintro u9 ⟨E1,F0⟩ k01 J1 K0 A1 h
 unfold aa_l3 at h
 try dsimp only at h
 refine Aj<|Af<|Ac rfl<|AT 3 rfl<|AA rfl ((K0.memA .t4) 3 _ rfl) ?_
 have d3:=Be h0_3 K0
 have Z9:a0.fm.length <= 281474976710656:=AY d3
 refine Ab (Bh (xs:=a0.fm) underlying23 rfl d3)<|Ab (Bq (i:=F0) (j:=a0.fm.length) rfl rfl)<|Ac rfl<|Bn (s:=80) rfl h (fun y5 h=>?_) (fun y5 h=>?_)
 refine Al (Ag rfl)<|Al (Bq (i:=F0) (j:=3) rfl rfl)<|Bd rfl rfl<|Aa<|AN rfl h (fun z5 h=>?_) (fun z5 h=>?_)
 refine Ao<|Aj<|Ar<|Aj<|du 22 fun t0 A0=>Rv 0 t0 rfl A0 (fun _=>BB 3 rfl)<|Rx 1 3146360 t0 rfl A0 (AM rfl ((K0.memA .t4) 3 _ rfl))<|Rv 2 t0 rfl A0 (fun _=>Ag rfl)<|bk h fun U1 j8 h=>?_
 obtain ⟨W8,F9,k4,z4,J9,p7,D4⟩:=Bm d3 j8
 obtain rfl:=eh p7
 refine Rv 3 t0 rfl A0 (fun _=>Bk 2 F0 rfl k4 rfl rfl z4)<|Rv 4 t0 rfl A0 (fun _=>AB (m:=1) (k:=0) (len:=2) rfl rfl rfl rfl (by omega))<|Rx 5 3146304 t0 rfl A0 (AM rfl (D4 0 _ rfl)) ?_
 have q00:=U1.1.toNat_lt
 refine Rv 6 t0 rfl A0 (fun _=>FV.convN (i:=U1.1.toNat) underlying5 underlying3 rfl (by omega))<|Rv 7 t0 rfl A0 (fun _=>BB 0 rfl)<|Rx 8 3146240 t0 rfl A0 (AM rfl ((K0.memA .t2) 0 _ rfl))<|bk h fun p3 M7 h=>Rv 9 t0 rfl A0 (fun _=>FV.remc (i:=((U1.1.toNat:Nat):Int)) (j:=d0) rfl rfl M7)<|Rv 10 t0 rfl A0 (fun _=>BB 3 rfl)<|Rx 11 2744320 t0 rfl A0 (AM rfl ((K0.memA .t4) 3 _ rfl))<|Rv 12 t0 rfl A0 (fun _=>Ag rfl)<|Rv 13 t0 rfl A0 (fun _=>Bk 2 F0 rfl k4 rfl rfl z4)<|Rv 14 t0 rfl A0 (fun _=>AB (m:=1) (k:=1) (len:=2) rfl rfl rfl rfl (by omega))<|Rx 15 2686976 t0 rfl A0 (AM rfl (D4 1 _ rfl)) ?_
 have s00:=U1.2.toNat_lt
 refine Rv 16 t0 rfl A0 (fun _=>FV.convN (i:=U1.2.toNat) underlying5 underlying3 rfl (by omega))<|Rv 17 t0 rfl A0 (fun _=>BB 0 rfl)<|Rx 18 2621440 t0 rfl A0 (AM rfl ((K0.memA .t2) 0 _ rfl))<|bk h fun j2 P7 h=>Rv 19 t0 rfl A0 (fun _=>FV.remc (i:=((U1.2.toNat:Nat):Int)) (j:=d0) rfl rfl P7)<|Rv 20 t0 rfl A0 (fun _=>Ba rfl)<|Rv 21 t0 rfl A0 (fun _=>Ba rfl)<|AZ (dk t0)<|Ak<|Ac rfl<|Ac rfl<|RG.ifb (s:=107) rfl h (fun A5 h=>?_) (fun A5 h=>?_)
 refine Ah<|Ah<|Ah<|Ah<|Bg<|Bg<|Bg<|Ah<|Bd rfl rfl<|Ac rfl<|Ah<|Ah<|Ah<|Ah<|Bg<|Bg<|Bg<|Ah<|Bd rfl rfl<|Ae rfl<|Aa<|Ap<|Ak<|Ac rfl<|Ab (AW (i:=F0) (j:=1) rfl rfl (by omega))<|Ae rfl<|Aa<|J1 (true,F0 + 1) K0 A1 h
 refine Al (Ag rfl)<|Al (Ag rfl)<|Al (Br (i:=p3) (j:=b0) rfl rfl)<|Al (Ag rfl)<|Bn (s:=111) rfl h (fun B5 h=>?_) (fun B5 h=>?_)
 refine Al (Ag rfl)<|Al (Ag rfl)<|Al (Br (i:=j2) (j:=c0) rfl rfl)<|Al (Bj rfl rfl)<|Bb rfl rfl<|Ac rfl<|Bn (s:=117) rfl h (fun C5 h=>?_) (fun C5 h=>?_)
 refine Ah<|Ah<|Ah<|Ah<|Bg<|Bg<|Bg<|Ah<|Bd rfl rfl<|Ae rfl<|Aa<|Ap<|Ak<|Ac rfl<|Ab (AW (i:=F0) (j:=1) rfl rfl (by omega))<|Ae rfl<|Aa<|J1 (true,F0 + 1) K0 A1 h
 refine Al (Ag rfl)<|Al (Ag rfl)<|Al (Br (i:=p3) (j:=c0) rfl rfl)<|Al (Ag rfl)<|Bn (s:=121) rfl h (fun D5 h=>?_) (fun D5 h=>?_)
 refine Al (Ag rfl)<|Al (Ag rfl)<|Al (Br (i:=j2) (j:=b0) rfl rfl)<|Al (Bj rfl rfl)<|Bb rfl rfl<|Ae rfl<|Aa<|Ap<|Ak<|Ac rfl<|Ab (AW (i:=F0) (j:=1) rfl rfl (by omega))<|Ae rfl<|Aa<|J1 ((decide (j2 = b0)),F0 + 1) K0 A1 h
 refine Ah<|Ah<|Ah<|Al (AD rfl rfl)<|Bb rfl rfl<|Ae rfl<|Aa<|Ap<|Ak<|Ac rfl<|Ab (AW (i:=F0) (j:=1) rfl rfl (by omega))<|Ae rfl<|Aa<|J1 (false,F0 + 1) K0 A1 h
 refine Ah<|Ah<|Ah<|Al (AD rfl rfl)<|Bb rfl rfl<|Ac rfl<|Al (Ag rfl)<|Al (Ag rfl)<|Al (Br (i:=p3) (j:=c0) rfl rfl)<|Al (Ag rfl)<|Bn (s:=121) rfl h (fun E5 h=>?_) (fun E5 h=>?_)
 refine Al (Ag rfl)<|Al (Ag rfl)<|Al (Br (i:=j2) (j:=b0) rfl rfl)<|Al (Bj rfl rfl)<|Bb rfl rfl<|Ae rfl<|Aa<|Ap<|Ak<|Ac rfl<|Ab (AW (i:=F0) (j:=1) rfl rfl (by omega))<|Ae rfl<|Aa<|J1 ((decide (j2 = b0)),F0 + 1) K0 A1 h
 refine Ah<|Ah<|Ah<|Al (AD rfl rfl)<|Bb rfl rfl<|Ae rfl<|Aa<|Ap<|Ak<|Ac rfl<|Ab (AW (i:=F0) (j:=1) rfl rfl (by omega))<|Ae rfl<|Aa<|J1 (false,F0 + 1) K0 A1 h
 refine AV rfl ?_
 have h:=u4 _ h
 try dsimp only at h
 exact D3 E1 K0 A1 h
 refine Ah<|Ah<|Bb rfl rfl<|Aa<|Bl rfl<|AV rfl ?_
 have h:=u4 _ h
 try dsimp only at h
 exact D3 E1 K0 A1 h
 intro q9 q2 h
 try dsimp only at h
 refine MX.ifn rfl h (fun F5 h=>?_) (fun F5 h=>?_)
 refine Ao<|q2 (C0,(!(decide (C2 = 0)))) H0 (Bs _ _) h
 refine Aj<|Af<|Ac rfl<|bk h fun E8 Q7 h=>Ab (FV.remc (i:=C0) (j:=2) rfl rfl Q7)<|Ab (Br (i:=E8) (j:=1) rfl rfl)<|Ac rfl<|Bn (s:=62) rfl h (fun G5 h=>?_) (fun G5 h=>?_)
 refine RG.fg 2 rfl<|Al (AM rfl ((H0.memA .t4) 2 _ rfl))<|Al (Ag rfl)<|bk h fun F8 R7 h=>Al (FV.quoc (i:=C0) (j:=2) rfl rfl R7)<|bk h fun D2 U7 h=>Al (FV.remc (i:=F8) (j:=16) rfl rfl U7)<|Al (FV.convU (i:=D2) underlying3 underlying38 rfl)<|Al (FV.shr16 (a:=a0.fk) (j:=(ae D2).toNat) rfl rfl)<|Al (FV.and16 (a:=shr16 a0.fk ((ae D2).toNat)) (b:=(1:UInt16)) rfl rfl)<|Al (FV.eqlN (i:=((shr16 a0.fk ((ae D2).toNat)) &&& (1:UInt16)).toNat) (j:=1) rfl rfl)<|Bd rfl rfl<|Aa<|AN rfl h (fun H5 h=>?_) (fun H5 h=>?_)
 refine Ak<|Ae rfl<|Aa<|Ak<|Ac rfl<|bk h fun G8 V7 h=>Ab (Bp (i:=C0) (j:=1) rfl rfl V7)<|Ae rfl<|Aa<|q2 (G8,false) H0 (Bs _ _) h
 refine Ao<|Ak<|Ac rfl<|bk h fun H8 W7 h=>Ab (Bp (i:=C0) (j:=1) rfl rfl W7)<|Ae rfl<|Aa<|q2 (H8,(!(decide (C2 = 0)))) H0 (Bs _ _) h
 refine Ah<|Ah<|Ah<|Ah<|Ah<|Ah<|Ah<|Ah<|Ah<|Bb rfl rfl<|Aa<|Bl rfl<|Ao<|Ak<|Ac rfl<|bk h fun I8 X7 h=>Ab (Bp (i:=C0) (j:=1) rfl rfl X7)<|Ae rfl<|Aa<|q2 (I8,(!(decide (C2 = 0)))) H0 (Bs _ _) h
 refine Ah<|Ah<|Ah<|Ah<|Al (AD rfl rfl)<|Bb rfl rfl<|Ae rfl<|Aa<|Aj<|Af<|Ac rfl<|Aa<|Bl rfl<|Ao<|Aj<|Af<|Ae rfl<|Aa<|Ar<|MX.xo (α:=Bool) 4 (fun c2=>[(1,vP g0),(2,vP j0),(3,vI ((1 + ((a0.fj % (4:UInt8)).toNat):Nat):Int)),(5,vP k0),(6,vI C0),(7,vI b0),(8,vI c0),(9,.bool c2)]) (fun c2=>[rr w 62 (Int × Int) vN (([]:List (Int × Int)).length) [],rr w 62 (Int × Int) p0 v0.length x0,.cells k0 [vI d0,p0] 34,.cells j0 [vI 0,vN] 34,.cells g0 [.int .u8 (a0.fj.toNat:Int),.int .u8 (a0.fl.toNat:Int),.int .u16 (a0.fk.toNat:Int),v0_3] 25]) (fun c2=>c2) H0 rfl h ?_ ?_
 rintro c2 p01 x2 Z2 h
 try dsimp only at h
 refine Af<|Ac rfl<|Aa<|MX.jf (α:=(List (Int × Int)) × Value × (List Value)) (fun ⟨k1,Z0,x1⟩=>[(1,vP g0),(2,vP j0),(3,vI ((1 + ((a0.fj % (4:UInt8)).toNat):Nat):Int)),(5,vP k0),(6,vI C0),(7,vI b0),(8,vI c0)]) (fun ⟨k1,Z0,x1⟩=>[rr w 62 (Int × Int) vN (([]:List (Int × Int)).length) [],rr w 62 (Int × Int) Z0 k1.length x1,.cells k0 [vI d0,Z0] 34,.cells j0 [vI 0,vN] 34,.cells g0 [.int .u8 (a0.fj.toNat:Int),.int .u8 (a0.fl.toNat:Int),.int .u16 (a0.fk.toNat:Int),v0_3] 25]) (fun ⟨k1,Z0,x1⟩ K4=>Cells K4 (bl [rr w 62 (Int × Int) vN (([]:List (Int × Int)).length) [],rr w 62 (Int × Int) Z0 k1.length x1,.cells k0 [vI d0,Z0] 34,.cells j0 [vI 0,vN] 34,.cells g0 [.int .u8 (a0.fj.toNat:Int),.int .u8 (a0.fl.toNat:Int),.int .u16 (a0.fk.toNat:Int),v0_3] 25] ++ L) x1 k1) (fun ⟨k1,Z0,x1⟩=>k1) x2 h ?_ ?_
 rintro ⟨k1,Z0,x1⟩ K4 v6 G6 U6 h
 try dsimp only at h
 refine Ap<|Ak<|Ac rfl<|bk h fun J8 Y7 h=>Ab (Bp (i:=c0) (j:=1) rfl rfl Y7)<|Ae rfl<|Aa<|p2 (C0,J8,k1,Z0,x1) v6 (Tt X1 (Tt Z2 G6)) U6 h
 intro x9 G3 h
 try dsimp only at h
 refine MX.ifb rfl h (fun I5 h=>?_) (fun I5 h=>?_)
 refine Ak<|AT 1 rfl<|AA rfl ((x2.memA .t2) 1 _ rfl)<|Ac rfl<|Ac rfl<|Ab (AL (vs:=[vI b0,vI c0]) (u:=.agg #[vI b0,vI c0]) (e2 rfl rfl) (fun p=>by kernel_rfl))<|Au .plain rfl (AO (α:=Int × Int) (xs:=([(b0,c0)]:List (Int × Int))) (vs:=[.agg #[vI b0,vI c0]]) (ds' :=[vI b0,vI c0]) rfl x2 dH rfl (e1 rfl) (by kernel_rfl) rfl) fun U00 C9 P2 Z3=>bk h fun R8 t8 h=>Bz .plain rfl (Bw (α:=Int × Int) (ys:=([(b0,c0)]:List (Int × Int))) t8 P2 (fun _ _=>.t2) dH rfl rfl (Az V0 (Tt Z2 Z3)) (Src.row (α:=Int × Int) P2 .hd (AE (cs:=[vI b0,vI c0]) (xs:=(([(b0,c0)]:List (Int × Int)):List (Int × Int))) P2 L (Ay (cs:=[vI b0,vI c0]) (ds:=[]) (bn b0 c0) (AJ _ _))))) fun x3 V00 ⟨Y5,Q2,H6,V6⟩=>AT 1 rfl<|RG.now .plain (Acts.store (j:=1) (old:=[vI d0,p0]) (news:=[x3]) (new' :=[vI d0,x3]) Q2 .t3 rfl rfl rfl (St.c1 (α:=Int × Int) Q2 .t2) rfl rfl (o1 (St.o1 (α:=Int × Int) Q2 .t2)) rfl) fun W00 x6 b4=>Aa ?_
 obtain ⟨y6,c4⟩:=AH x6 .d1
 exact G3 (R8,x3,Y5) y6 (Tt Z3 (Tt H6 (Tt b4 c4))) (Az V6 (Tt b4 c4)) h
 refine Ao<|G3 (v0,p0,x0) x2 (Bs _ _) (Az V0 Z2) h
 intro v9 F3 h
 try dsimp only at h
 obtain ⟨B00,g7,v4⟩:=ai h
 refine MX.lo (α:=Bool × Nat) (fun ⟨F1,G0⟩=>[(1,vP g0),(2,vP j0),(3,vI ((1 + ((a0.fj % (4:UInt8)).toNat):Nat):Int)),(5,vP k0),(6,vI C0),(7,vI b0),(8,vI c0),(9,.bool F1),(10,vI ((G0:Nat):Int))]) (fun ⟨F1,G0⟩=>[rr w 62 (Int × Int) vN (([]:List (Int × Int)).length) [],rr w 62 (Int × Int) p0 v0.length x0,.cells k0 [vI d0,p0] 34,.cells j0 [vI 0,vN] 34,.cells g0 [.int .u8 (a0.fj.toNat:Int),.int .u8 (a0.fl.toNat:Int),.int .u16 (a0.fk.toNat:Int),v0_3] 25]) (fun ⟨F1,G0⟩=>(F1,G0)) (false,0) g7 H0 ?_
 rintro y9 ⟨F1,G0⟩ q01 K1 M0 B1 h
 unfold aa_l4 at h
 try dsimp only at h
 refine Aj<|Af<|Ac rfl<|AT 3 rfl<|AA rfl ((M0.memA .t4) 3 _ rfl) ?_
 have g3:=Be h0_3 M0
 have b00:a0.fm.length <= 281474976710656:=AY g3
 refine Ab (Bh (xs:=a0.fm) underlying23 rfl g3)<|Ab (Bq (i:=G0) (j:=a0.fm.length) rfl rfl)<|Ac rfl<|Bn (s:=80) rfl h (fun J5 h=>?_) (fun J5 h=>?_)
 refine Al (Ag rfl)<|Al (Bq (i:=G0) (j:=3) rfl rfl)<|Bd rfl rfl<|Aa<|AN rfl h (fun K5 h=>?_) (fun K5 h=>?_)
 refine Ao<|Aj<|Ar<|Aj<|du 22 fun u0 B0=>Rv 0 u0 rfl B0 (fun _=>BB 3 rfl)<|Rx 1 3146360 u0 rfl B0 (AM rfl ((M0.memA .t4) 3 _ rfl))<|Rv 2 u0 rfl B0 (fun _=>Ag rfl)<|bk h fun V1 k8 h=>?_
 obtain ⟨X8,G9,p4,A4,K9,q7,E4⟩:=Bm g3 k8
 obtain rfl:=eh q7
 refine Rv 3 u0 rfl B0 (fun _=>Bk 2 G0 rfl p4 rfl rfl A4)<|Rv 4 u0 rfl B0 (fun _=>AB (m:=1) (k:=0) (len:=2) rfl rfl rfl rfl (by omega))<|Rx 5 3146304 u0 rfl B0 (AM rfl (E4 0 _ rfl)) ?_
 have t00:=V1.1.toNat_lt
 refine Rv 6 u0 rfl B0 (fun _=>FV.convN (i:=V1.1.toNat) underlying5 underlying3 rfl (by omega))<|Rv 7 u0 rfl B0 (fun _=>BB 0 rfl)<|Rx 8 3146240 u0 rfl B0 (AM rfl ((M0.memA .t2) 0 _ rfl))<|bk h fun q3 Z7 h=>Rv 9 u0 rfl B0 (fun _=>FV.remc (i:=((V1.1.toNat:Nat):Int)) (j:=d0) rfl rfl Z7)<|Rv 10 u0 rfl B0 (fun _=>BB 3 rfl)<|Rx 11 2744320 u0 rfl B0 (AM rfl ((M0.memA .t4) 3 _ rfl))<|Rv 12 u0 rfl B0 (fun _=>Ag rfl)<|Rv 13 u0 rfl B0 (fun _=>Bk 2 G0 rfl p4 rfl rfl A4)<|Rv 14 u0 rfl B0 (fun _=>AB (m:=1) (k:=1) (len:=2) rfl rfl rfl rfl (by omega))<|Rx 15 2686976 u0 rfl B0 (AM rfl (E4 1 _ rfl)) ?_
 have u00:=V1.2.toNat_lt
 refine Rv 16 u0 rfl B0 (fun _=>FV.convN (i:=V1.2.toNat) underlying5 underlying3 rfl (by omega))<|Rv 17 u0 rfl B0 (fun _=>BB 0 rfl)<|Rx 18 2621440 u0 rfl B0 (AM rfl ((M0.memA .t2) 0 _ rfl))<|bk h fun k2 b8 h=>Rv 19 u0 rfl B0 (fun _=>FV.remc (i:=((V1.2.toNat:Nat):Int)) (j:=d0) rfl rfl b8)<|Rv 20 u0 rfl B0 (fun _=>Ba rfl)<|Rv 21 u0 rfl B0 (fun _=>Ba rfl)<|AZ (dk u0)<|Ak<|Ac rfl<|Ac rfl<|RG.ifb (s:=107) rfl h (fun M5 h=>?_) (fun M5 h=>?_)
 refine Ah<|Ah<|Ah<|Ah<|Bg<|Bg<|Bg<|Ah<|Bd rfl rfl<|Ac rfl<|Ah<|Ah<|Ah<|Ah<|Bg<|Bg<|Bg<|Ah<|Bd rfl rfl<|Ae rfl<|Aa<|Ap<|Ak<|Ac rfl<|Ab (AW (i:=G0) (j:=1) rfl rfl (by omega))<|Ae rfl<|Aa<|K1 (true,G0 + 1) M0 B1 h
 refine Al (Ag rfl)<|Al (Ag rfl)<|Al (Br (i:=q3) (j:=b0) rfl rfl)<|Al (Ag rfl)<|Bn (s:=111) rfl h (fun P5 h=>?_) (fun P5 h=>?_)
 refine Al (Ag rfl)<|Al (Ag rfl)<|Al (Br (i:=k2) (j:=c0) rfl rfl)<|Al (Bj rfl rfl)<|Bb rfl rfl<|Ac rfl<|Bn (s:=117) rfl h (fun Q5 h=>?_) (fun Q5 h=>?_)
 refine Ah<|Ah<|Ah<|Ah<|Bg<|Bg<|Bg<|Ah<|Bd rfl rfl<|Ae rfl<|Aa<|Ap<|Ak<|Ac rfl<|Ab (AW (i:=G0) (j:=1) rfl rfl (by omega))<|Ae rfl<|Aa<|K1 (true,G0 + 1) M0 B1 h
 refine Al (Ag rfl)<|Al (Ag rfl)<|Al (Br (i:=q3) (j:=c0) rfl rfl)<|Al (Ag rfl)<|Bn (s:=121) rfl h (fun R5 h=>?_) (fun R5 h=>?_)
 refine Al (Ag rfl)<|Al (Ag rfl)<|Al (Br (i:=k2) (j:=b0) rfl rfl)<|Al (Bj rfl rfl)<|Bb rfl rfl<|Ae rfl<|Aa<|Ap<|Ak<|Ac rfl<|Ab (AW (i:=G0) (j:=1) rfl rfl (by omega))<|Ae rfl<|Aa<|K1 ((decide (k2 = b0)),G0 + 1) M0 B1 h
 refine Ah<|Ah<|Ah<|Al (AD rfl rfl)<|Bb rfl rfl<|Ae rfl<|Aa<|Ap<|Ak<|Ac rfl<|Ab (AW (i:=G0) (j:=1) rfl rfl (by omega))<|Ae rfl<|Aa<|K1 (false,G0 + 1) M0 B1 h
 refine Ah<|Ah<|Ah<|Al (AD rfl rfl)<|Bb rfl rfl<|Ac rfl<|Al (Ag rfl)<|Al (Ag rfl)<|Al (Br (i:=q3) (j:=c0) rfl rfl)<|Al (Ag rfl)<|Bn (s:=121) rfl h (fun U5 h=>?_) (fun U5 h=>?_)
 refine Al (Ag rfl)<|Al (Ag rfl)<|Al (Br (i:=k2) (j:=b0) rfl rfl)<|Al (Bj rfl rfl)<|Bb rfl rfl<|Ae rfl<|Aa<|Ap<|Ak<|Ac rfl<|Ab (AW (i:=G0) (j:=1) rfl rfl (by omega))<|Ae rfl<|Aa<|K1 ((decide (k2 = b0)),G0 + 1) M0 B1 h
 refine Ah<|Ah<|Ah<|Al (AD rfl rfl)<|Bb rfl rfl<|Ae rfl<|Aa<|Ap<|Ak<|Ac rfl<|Ab (AW (i:=G0) (j:=1) rfl rfl (by omega))<|Ae rfl<|Aa<|K1 (false,G0 + 1) M0 B1 h
 refine AV rfl ?_
 have h:=v4 _ h
 try dsimp only at h
 exact F3 F1 M0 B1 h
 refine Ah<|Ah<|Bb rfl rfl<|Aa<|Bl rfl<|AV rfl ?_
 have h:=v4 _ h
 try dsimp only at h
 exact F3 F1 M0 B1 h
 refine AV rfl ?_
 have h:=X6 _ h
 try dsimp only at h
 refine Ap<|Ak<|Ac rfl<|bk h fun K8 c8 h=>Ab (Bp (i:=b0) (j:=1) rfl rfl c8)<|Ae rfl<|Aa<|Z5 (C0,K8,v0,p0,x0) H0 (Tt z6 X1) V0 h
 refine AV rfl ?_
 have h:=W6 _ h
 try dsimp only at h
 refine Af<|Ab (AK rfl (W1.memA .t2))<|AX [vI d0,Q0] W1 .t3 (o2 rfl (St.o1 (α:=Int × Int) W1 .t1)) fun X00 R2 I6=>Aa<|Aq rfl ?_
 have y2:=Bt R2 .t1
 have V9:=Bu R2 .t1
 have s7:=Bv (α:=Int × Int) (v:=Q0) (xs:=U0) y2 L (Bf (α:=Int × Int) R2 .t1 (Az d4 I6) hL)
 refine Av hb0 func6 rfl (.cons (.many (cs:=[vI d0,Q0]) rfl rfl (y2.memA .t2)) .nil) rfl ?_
 cases h
 exact ⟨y2.ag,fun p q=>⟨Q0,rfl,y2.kd s7 q⟩⟩
def aQ_p (_n:Nat) (a0:List (Int × Int)):Option (List (Int × Int)):=
  bZ a0 (some ([]:List (Int × Int))) ((app ([]:List (Int × Int)) a0).bind fun b0=>some b0)
theorem aQ_c (n:Nat) {L w} (_hL:hl L w) {a0:List (Int × Int)} {v0_0:Value} (h0_0:Rep.R w L [v0_0] a0)  {r:List (Int × Int)} (h:aQ_p n a0 = some r) :
 Cl 44 #[v0_0] w (ah w fun w' u=>∃ (v0_0:Value) (cs0_0:List Value),u = v0_0/\St w w' (aF w.heap.size [(62,Rep.size (Int × Int),v0_0,r.length,cs0_0)])/\Cells w' (bl (aF w.heap.size [(62,Rep.size (Int × Int),v0_0,r.length,cs0_0)]) ++ L) cs0_0 (r:List (Int × Int))):=by
 unfold aQ_p at h
 have hS0:=AF w
 refine AG func44 rfl rfl rfl fun _ cs0 hb0=>Af<|Ae rfl<|Aa<|Aj<|Af<|Ac rfl ?_
 rcases Rep.nilOr h0_0 with ⟨c1,he3,hx4⟩ | ⟨ad2,c1,he3⟩
 have h:=gl h hx4
 refine Ab (FV.eqlNil1 underlying32 rfl he3 rfl)<|Aa<|AS rfl<|Af<|Ae rfl<|Aa<|Aq rfl ?_
 have b0:=hS0.nilRow 62 (Rep.size (Int × Int))
 have t0:=St.nilRowT hS0 62 (Rep.size (Int × Int))
 have k0:=AE (cs:=[]) (xs:=([]:List (Int × Int))) b0 L (AJ _ _)
 refine Av (u:=vN) hb0 func44 rfl (.cons (.tmp rfl) .nil) rfl ?_
 cases h
 exact ⟨b0.ag,fun p q=>⟨vN,[],rfl,b0.agree q,Cells.keep0 k0 q⟩⟩
 have h:=gk h
 refine Ab (FV.eqlNil0 underlying32 rfl he3 rfl)<|Aa<|Bl rfl<|Ao<|Af<|Au .plain rfl (AO (α:=Int × Int) (xs:=([]:List (Int × Int))) (vs:=[]) (ds' :=[]) rfl hS0 dH rfl aj (by kernel_rfl) rfl) fun x0 s0 c0 u0=>Ac rfl<|bk h fun z0 q0 h=>Bz .plain rfl (Bw (α:=Int × Int) (ys:=a0) q0 c0 (fun _ _=>.hd) dH rfl rfl (AE (cs:=[]) (xs:=(([]:List (Int × Int)):List (Int × Int))) c0 L (AJ _ _)) (Src.rep (Be h0_0 c0))) fun g0 y0 ⟨j0,d0,v0,p0⟩=>Ae rfl<|Aa<|Aq rfl<|Av (u:=g0) hb0 func44 rfl (.cons (.tmp rfl) .nil) rfl ?_
 cases h
 exact ⟨d0.ag,fun p q=>⟨g0,j0,rfl,d0.agree q,Cells.keep0 p0 q⟩⟩

structure TBend where
  fWhat:UInt8
  fN:Int
  fSet:UInt64
  deriving DecidableEq
instance:Rep TBend:=Rep.via (β:=UInt8 × Int × UInt64) fun x=>(x.fWhat,x.fN,x.fSet)
def bb_p (n:Nat) (a0:TBend) (a1:Tb) (a2:UInt64):Option (Tb × UInt64):=
  (aQ_p n a1.fh).bind fun b0=>(if ((a0.fWhat % (6:UInt8)).toNat) = 0 then some ((⟨a0.fN,b0⟩:Tb),a2) else (if ((a0.fWhat % (6:UInt8)).toNat) = 1 then (if 0 < b0.length then (cY (ae a0.fN) (ae ((b0.length:Nat):Int))).bind fun c0=>(idx b0 (ab c0)).bind fun d0=>(put b0 (((ab c0).toNat:Nat):Int) (d0.2,d0.2)).bind fun g0=>(idx g0 (ab c0)).bind fun j0=>(put g0 (((ab c0).toNat:Nat):Int) (j0.1,d0.1)).bind fun k0=>some ((⟨a1.fN,k0⟩:Tb),a2) else some ((⟨a1.fN,b0⟩:Tb),a2)) else (if ((a0.fWhat % (6:UInt8)).toNat) = 2 then some ((⟨a1.fN,b0⟩:Tb),a2 ||| a0.fSet) else (if ((a0.fWhat % (6:UInt8)).toNat) = 3 then some ((⟨a1.fN,b0⟩:Tb),0) else some ((⟨a1.fN,b0⟩:Tb),a2)))))
theorem bb_c (n:Nat) {L w} (hL:hl L w) (a0:TBend) (a1:Tb) {v1_1:Value} (h1_1:Rep.R w L [v1_1] a1.fh) (a2:UInt64)  {r:Tb × UInt64} (h:bb_p n a0 a1 a2 = some r) :
 Cl 20 #[.agg #[.int .u8 (a0.fWhat.toNat:Int),vI a0.fN,vU a0.fSet],.agg #[vI a1.fN,v1_1],vU a2] w (ah w fun w' u=>∃ v0_1:Value,u = .tuple #[.agg #[vI r.1.fN,v0_1],vU r.2]/\Rep.R w' L [v0_1] r.1.fh):=by
 unfold bb_p at h
 refine AG func20 rfl rfl rfl fun _ cs0 hb0=>Af<|RG.bx (AF w) rfl rfl fun t4 y3 d2 M3=>RG.bx d2 rfl rfl fun u4 R0 k2 P3=>RG.nl [vI 0,vN] k2 fun y4 U0 x0 Y3=>Ae rfl<|Aa<|Af<|AT 1 rfl<|AA rfl ((x0.memA .t1) 1 _ rfl)<|bk h fun s0 s3 h=>jE (bd 44) rfl (e1 rfl) (fun w9 hw9=>gH (b0:=w.heap.size) (aQ_c n (x0.hL hL hw9) (x0.km h1_1 hw9) s3) hw9 (Nat.le_trans x0.ag.size hw9.size)) rfl fun E4 g0 c4 ⟨s4,Z1,p3,G1,G2⟩=>?_
 subst p3
 have J0:=gQ x0 G1
 have Z3:=own_tr x0 G1
 have z0:=AE (cs:=Z1) (xs:=(s0:List (Int × Int))) J0 L (gI G2)
 refine AT 1 rfl<|RG.now .plain (Acts.store (j:=1) (old:=[vI a1.fN,v1_1]) (news:=[g0]) (new' :=[vI a1.fN,g0]) J0 .t2 rfl rfl rfl (St.c1 (α:=Int × Int) J0 .hd) rfl rfl (o1 (St.o1 (α:=Int × Int) J0 .hd)) rfl) fun F4 d0 y0=>Aa<|Aj<|Af<|AT 0 rfl<|AA rfl ((d0.memA .t3) 0 _ rfl)<|Ab (FV.rem8 (a:=a0.fWhat) (b:=(6:UInt8)) rfl rfl (by decide))<|Aa<|Ar<|Af<|Ab (FV.eqlN (i:=(a0.fWhat % (6:UInt8)).toNat) (j:=0) rfl rfl)<|Ae rfl<|Aa<|AN rfl h (fun U1 h=>?_) (fun U1 h=>?_)
 refine Ak<|AT 1 rfl<|AA rfl ((d0.memA .t3) 1 _ rfl)<|AT 0 rfl<|RG.now .plain (Acts.store (j:=0) (old:=[vI a1.fN,g0]) (news:=[vI a0.fN]) (new' :=[vI a0.fN,g0]) d0 .t2 rfl rfl rfl rfl rfl rfl (o1 rfl) rfl) fun G4 d1 B2=>Aa<|Ap<|Af<|Ab (AK rfl (d1.memA .t2))<|Ac rfl<|AX [vI a0.fN,g0] d1 .t1 (o2 rfl (St.o1 (α:=Int × Int) d1 .hd)) fun H4 g1 C2=>Ae rfl<|Aa<|Aq rfl ?_
 have K0:=Bt g1 .hd
 have b4:=Bu g1 .hd
 have g3:=Bv (α:=Int × Int) (v:=g0) (xs:=s0) K0 L (Bf (α:=Int × Int) g1 .hd (Az z0 (Tt y0 (Tt B2 C2))) hL)
 refine Av hb0 func20 rfl (.cons (.many (cs:=[vI a0.fN,g0]) rfl rfl (K0.memA .hd)) (.cons (.tmp rfl) .nil)) rfl ?_
 cases h
 exact ⟨K0.ag,fun w9 hw9=>⟨g0,rfl,K0.kd g3 hw9⟩⟩
 refine Af<|Ab (FV.eqlN (i:=(a0.fWhat % (6:UInt8)).toNat) (j:=1) rfl rfl)<|Ae rfl<|Aa<|AN rfl h (fun V1 h=>?_) (fun V1 h=>?_)
 refine Af<|AT 1 rfl<|AA rfl ((d0.memA .t2) 1 _ rfl) ?_
 have j4:s0.length <= 4294967296:=St.rowLe (α:=Int × Int) d0 .hd
 obtain ⟨v3,C3,M2⟩:=St.rowV (α:=Int × Int) d0 .hd
 refine Ab (FV.lenV underlying32 rfl M2)<|Ab (FV.gtrN (i:=s0.length) (j:=0) rfl rfl)<|Aa<|AN rfl h (fun W1 h=>?_) (fun W1 h=>?_)
 refine Af<|AT 1 rfl<|AA rfl ((d0.memA .t3) 1 _ rfl)<|Ab (FV.convU (i:=a0.fN) underlying3 underlying38 rfl)<|AT 1 rfl<|AA rfl ((d0.memA .t2) 1 _ rfl) ?_
 obtain ⟨x3,D3,P2⟩:=St.rowV (α:=Int × Int) d0 .hd
 refine Ab (FV.lenV underlying32 rfl P2)<|Ab (FV.convU (i:=((s0.length:Nat):Int)) underlying3 underlying38 rfl)<|bk h fun q0 k3 h=>Ab (FV.remV (a:=ae a0.fN) (b:=ae ((s0.length:Nat):Int)) rfl rfl k3)<|Ab (FV.convUI (a:=q0) underlying38 underlying3 rfl)<|Ae rfl<|Aa<|du 25769803796 fun c0 j0=>Rv 0 c0 rfl j0 (fun _=>BB 1 rfl)<|Rx 1 14417920 c0 rfl j0 (AM rfl ((d0.memA .t2) 1 _ rfl))<|Rv 2 c0 rfl j0 (fun _=>Ag rfl)<|Rv 3 c0 rfl j0 (fun _=>BB 1 rfl)<|Rv 5 c0 rfl j0 (fun _=>Ag rfl)<|Rv 6 c0 rfl j0 (fun _=>BB 1 rfl)<|Rx 7 14159360 c0 rfl j0 (AM rfl ((d0.memA .t2) 1 _ rfl))<|Rv 8 c0 rfl j0 (fun _=>Ag rfl)<|bk h fun k0 q3 h=>?_
 obtain ⟨P0,u1⟩:=au q3
 have D0:=Az z0 y0
 obtain ⟨I1,E3,B0,C0,J3,j3,B1⟩:=St.nth (α:=Int × Int) d0 .hd D0 u1
 obtain ⟨M1,F3,M0⟩:=St.nthOwn (α:=Int × Int) d0 .hd C0
 obtain rfl:I1 = ⟨M1,0,none⟩:=by rw [M0] at B0; cases B0; rfl
 obtain rfl:=aU j3
 refine Rv 9 c0 rfl j0 (fun _=>Bk 2 ((ab q0).toNat) rfl B0 rfl P0 C0)<|Rv 10 c0 rfl j0 (fun _=>AB (m:=1) (k:=1) (len:=2) rfl rfl rfl rfl (by omega))<|Rx 11 14155776 c0 rfl j0 (AM rfl (B1 1 _ rfl))<|Rv 12 c0 rfl j0 (fun _=>BB 1 rfl)<|Rx 13 14385152 c0 rfl j0 (AM rfl ((d0.memA .t2) 1 _ rfl))<|Rv 14 c0 rfl j0 (fun _=>Ag rfl)<|Rv 15 c0 rfl j0 (fun _=>Bk 2 ((ab q0).toNat) rfl B0 rfl P0 C0)<|Rv 16 c0 rfl j0 (fun _=>AB (m:=1) (k:=0) (len:=2) rfl rfl rfl rfl (by omega))<|Rx 17 14155776 c0 rfl j0 (AM rfl (B1 0 _ rfl))<|Rv 18 c0 rfl j0 (fun _=>Bk 2 ((ab q0).toNat) rfl B0 rfl P0 C0)<|Rv 19 c0 rfl j0 (fun _=>AB (m:=1) (k:=0) (len:=2) rfl rfl rfl rfl (by omega))<|bk h fun I4 F1 h=>bk h fun u0 C1 h=>bk h fun Q0 E1 h=>RD.mf (α:=Value × (List Value)) (fun ⟨p0,v0⟩=>[(2,vU a2),(4,vP R0),(6,vP U0)]) (fun ⟨p0,v0⟩=>[rr w 62 (Int × Int) p0 Q0.length v0,.cells U0 [vI 0,vN] 34,.cells R0 [vI a1.fN,p0] 34]) (fun ⟨p0,v0⟩ H1=>Cells H1 (bl [rr w 62 (Int × Int) p0 Q0.length v0,.cells U0 [vI 0,vN] 34,.cells R0 [vI a1.fN,p0] 34] ++ L) v0 (Q0:List (Int × Int))) d0 0 16777215 ?_ ?_
 rintro ⟨p0,v0⟩ H1 V0 Q3 F2
 try dsimp only
 refine AZ (dk c0)<|Ap<|Af<|Ab (AK rfl (V0.memA .t2))<|Ac rfl<|AX [vI a1.fN,p0] V0 .t1 (o2 rfl (St.o1 (α:=Int × Int) V0 .hd)) fun z4 W0 v2=>Ae rfl<|Aa<|Aq rfl ?_
 have E0:=Bt W0 .hd
 have R3:=Bu W0 .hd
 have Y2:=Bv (α:=Int × Int) (v:=p0) (xs:=Q0) E0 L (Bf (α:=Int × Int) W0 .hd (Az F2 v2) hL)
 refine Av hb0 func20 rfl (.cons (.many (cs:=[vI a1.fN,p0]) rfl rfl (E0.memA .hd)) (.cons (.tmp rfl) .nil)) rfl ?_
 cases h
 exact ⟨E0.ag,fun w9 hw9=>⟨p0,rfl,E0.kd Y2 hw9⟩⟩
 intro v1
 refine RD.each [4,20] (rk c0) ⟨?_,?_,trivial⟩
 refine RO.val (m' :=1048575) (sk c0) rfl .plain rfl (AM rfl ((d0.memA .t2) 1 _ rfl))<|Rv 21 c0 rfl j0 (fun _=>Bk 2 ((ab q0).toNat) rfl B0 rfl P0 C0) ?_
 obtain ⟨R1,p1,R2,b2,s1,U2,k1⟩:=St.nthAt (α:=Int × Int) d0 .hd D0 u1 M0
 obtain rfl:=aU s1
 refine RD.one (i:=20) (rk c0) (RO.acts (m' :=4194303) (sk c0) rfl rfl .plain (Acts.setPart (α:=Int × Int) (i:=(ab q0).toNat) (tot:=0) (ds:=[vI k0.1,vI k0.2]) (news:=[vI k0.2]) (full:=[vI k0.2,vI k0.2]) F1 d0 p1 (fun _=>.hd) D0 k1 rfl rfl rfl rfl rfl rfl (bn k0.2 k0.2) rfl (o1 rfl)) (fun u3 ⟨c2,t0,j1,A0⟩=>?_))
 refine Rv 22 c0 rfl j0 (fun _=>AB (m:=1) (k:=1) (len:=2) rfl rfl rfl rfl (by omega)) ?_
 obtain ⟨B3,K2,g4,I3,X2,q4,I2⟩:=St.nthAt (α:=Int × Int) t0 .hd A0 (au C1).2 M0
 obtain rfl:=aU X2
 refine RD.one (i:=23) (rk c0) (RO.acts (m' :=16777215) (sk c0) rfl rfl .plain (Acts.setPart (α:=Int × Int) (i:=(ab q0).toNat) (tot:=1) (ds:=[vI u0.1,vI u0.2]) (news:=[vI k0.1]) (full:=[vI u0.1,vI k0.1]) E1 t0 K2 (fun _=>.hd) A0 I2 rfl rfl rfl rfl rfl rfl (bn u0.1 k0.1) rfl (o1 rfl)) (fun x4 ⟨Y1,j2,u2,E2⟩=>?_))
 obtain ⟨p2,x1⟩:=AH j2 (.a0 (.a0 (.a0 .done)))
 exact v1 (g0,Y1) p2 (Tt j1 (Tt u2 x1)) (Az E2 x1)
 obtain ⟨R1,p1,R2,b2,s1,U2,k1⟩:=St.nthAt (α:=Int × Int) d0 .hd D0 u1 M0
 obtain rfl:=aU s1
 refine RO.acts (m' :=2097135) (sk c0) rfl rfl .plain (Acts.setPart (α:=Int × Int) (i:=(ab q0).toNat) (tot:=0) (ds:=[vI k0.1,vI k0.2]) (news:=[vI k0.2]) (full:=[vI k0.2,vI k0.2]) F1 d0 p1 (fun _=>.hd) D0 k1 rfl rfl rfl rfl rfl rfl (bn k0.2 k0.2) rfl (o1 rfl)) fun u3 ⟨c2,t0,j1,A0⟩=>Rx 4 14680064 c0 rfl j0 (AM rfl ((t0.memA .t2) 1 _ rfl)) ?_
 obtain ⟨Q2,D1⟩:=au C1
 obtain ⟨J1,G3,q1,A1,K3,V2,k4⟩:=St.nth (α:=Int × Int) t0 .hd A0 D1
 obtain ⟨K1,z3,z1⟩:=St.nthOwn (α:=Int × Int) t0 .hd A1
 obtain rfl:J1 = ⟨K1,0,none⟩:=by rw [z1] at q1; cases q1; rfl
 obtain rfl:=aU V2
 refine Rv 21 c0 rfl j0 (fun _=>Bk 2 ((ab q0).toNat) rfl q1 rfl Q2 A1)<|Rv 22 c0 rfl j0 (fun _=>AB (m:=1) (k:=1) (len:=2) rfl rfl rfl rfl (by omega)) ?_
 obtain ⟨A3,J2,d4,H3,W2,p4,H2⟩:=St.nthAt (α:=Int × Int) t0 .hd A0 D1 z1
 obtain rfl:=aU W2
 refine RD.one (i:=23) (rk c0) (RO.acts (m' :=16777215) (sk c0) rfl rfl .plain (Acts.setPart (α:=Int × Int) (i:=(ab q0).toNat) (tot:=1) (ds:=[vI u0.1,vI u0.2]) (news:=[vI k0.1]) (full:=[vI u0.1,vI k0.1]) E1 t0 J2 (fun _=>.hd) A0 H2 rfl rfl rfl rfl rfl rfl (bn u0.1 k0.1) rfl (o1 rfl)) (fun v4 ⟨X1,g2,s2,D2⟩=>?_))
 obtain ⟨q2,y1⟩:=AH g2 (.a0 (.a0 (.a0 .done)))
 exact v1 (g0,X1) q2 (Tt j1 (Tt s2 y1)) (Az D2 y1)
 refine Ao<|Ap<|Af<|Ab (AK rfl (d0.memA .t2))<|Ac rfl<|AX [vI a1.fN,g0] d0 .t1 (o2 rfl (St.o1 (α:=Int × Int) d0 .hd)) fun A4 X0 x2=>Ae rfl<|Aa<|Aq rfl ?_
 have F0:=Bt X0 .hd
 have U3:=Bu X0 .hd
 have Z2:=Bv (α:=Int × Int) (v:=g0) (xs:=s0) F0 L (Bf (α:=Int × Int) X0 .hd (Az z0 (Tt y0 x2)) hL)
 refine Av hb0 func20 rfl (.cons (.many (cs:=[vI a1.fN,g0]) rfl rfl (F0.memA .hd)) (.cons (.tmp rfl) .nil)) rfl ?_
 cases h
 exact ⟨F0.ag,fun w9 hw9=>⟨g0,rfl,F0.kd Z2 hw9⟩⟩
 refine Af<|Ab (FV.eqlN (i:=(a0.fWhat % (6:UInt8)).toNat) (j:=2) rfl rfl)<|Ae rfl<|Aa<|AN rfl h (fun P1 h=>?_) (fun P1 h=>?_)
 refine Ak<|Ac rfl<|AT 2 rfl<|AA rfl ((d0.memA .t3) 2 _ rfl)<|Ab (FV.orU (a:=a2) (b:=a0.fSet) rfl rfl)<|Ae rfl<|Aa<|Ap<|Af<|Ab (AK rfl (d0.memA .t2))<|Ac rfl<|AX [vI a1.fN,g0] d0 .t1 (o2 rfl (St.o1 (α:=Int × Int) d0 .hd)) fun B4 Y0 y2=>Ae rfl<|Aa<|Aq rfl ?_
 have G0:=Bt Y0 .hd
 have V3:=Bu Y0 .hd
 have b3:=Bv (α:=Int × Int) (v:=g0) (xs:=s0) G0 L (Bf (α:=Int × Int) Y0 .hd (Az z0 (Tt y0 y2)) hL)
 refine Av hb0 func20 rfl (.cons (.many (cs:=[vI a1.fN,g0]) rfl rfl (G0.memA .hd)) (.cons (.tmp rfl) .nil)) rfl ?_
 cases h
 exact ⟨G0.ag,fun w9 hw9=>⟨g0,rfl,G0.kd b3 hw9⟩⟩
 refine Af<|Ab (FV.eqlN (i:=(a0.fWhat % (6:UInt8)).toNat) (j:=3) rfl rfl)<|Ae rfl<|Aa<|AN rfl h (fun Q1 h=>?_) (fun Q1 h=>?_)
 refine Ak<|Ae rfl<|Aa<|Ap<|Af<|Ab (AK rfl (d0.memA .t2))<|Ac rfl<|AX [vI a1.fN,g0] d0 .t1 (o2 rfl (St.o1 (α:=Int × Int) d0 .hd)) fun C4 Z0 z2=>Ae rfl<|Aa<|Aq rfl ?_
 have H0:=Bt Z0 .hd
 have W3:=Bu Z0 .hd
 have c3:=Bv (α:=Int × Int) (v:=g0) (xs:=s0) H0 L (Bf (α:=Int × Int) Z0 .hd (Az z0 (Tt y0 z2)) hL)
 refine Av hb0 func20 rfl (.cons (.many (cs:=[vI a1.fN,g0]) rfl rfl (H0.memA .hd)) (.cons (.tmp rfl) .nil)) rfl ?_
 cases h
 exact ⟨H0.ag,fun w9 hw9=>⟨g0,rfl,H0.kd c3 hw9⟩⟩
 refine Ao<|Ap<|Af<|Ab (AK rfl (d0.memA .t2))<|Ac rfl<|AX [vI a1.fN,g0] d0 .t1 (o2 rfl (St.o1 (α:=Int × Int) d0 .hd)) fun D4 b1 A2=>Ae rfl<|Aa<|Aq rfl ?_
 have I0:=Bt b1 .hd
 have X3:=Bu b1 .hd
 have d3:=Bv (α:=Int × Int) (v:=g0) (xs:=s0) I0 L (Bf (α:=Int × Int) b1 .hd (Az z0 (Tt y0 A2)) hL)
 refine Av hb0 func20 rfl (.cons (.many (cs:=[vI a1.fN,g0]) rfl rfl (I0.memA .hd)) (.cons (.tmp rfl) .nil)) rfl ?_
 cases h
 exact ⟨I0.ag,fun w9 hw9=>⟨g0,rfl,I0.kd d3 hw9⟩⟩
def bj_p (n:Nat) (a0:TBend) (a1:Tb) (a2:UInt64):Option (Tb × UInt64):=
  (bb_p n a0 a1 a2).bind fun b0=>some (b0.1,b0.2)
theorem bj_c (n:Nat) {L w} (hL:hl L w) (a0:TBend) (a1:Tb) {v1_1:Value} (h1_1:Rep.R w L [v1_1] a1.fh) (a2:UInt64)  {r:Tb × UInt64} (h:bj_p n a0 a1 a2 = some r) :
 Cl 7 #[.agg #[.int .u8 (a0.fWhat.toNat:Int),vI a0.fN,vU a0.fSet],.agg #[vI a1.fN,v1_1],vU a2] w (ah w fun w' u=>∃ v0_1:Value,u = .tuple #[.agg #[vI r.1.fN,v0_1],vU r.2]/\Rep.R w' L [v0_1] r.1.fh):=by
 unfold bj_p at h
 refine AG func7 rfl rfl rfl fun _ cs0 hb0=>Af<|RG.bx (AF w) rfl rfl fun E0 v0 k0 z0=>RG.bx k0 rfl rfl fun F0 x0 p0 A0=>RG.nl [vI 0,vN] p0 fun G0 y0 b0 B0=>Ae rfl<|Aa<|Af<|Ab (AK rfl (b0.memA .t2))<|Ab (AK rfl (b0.memA .t1))<|Ac rfl<|bk h fun j0 u0 h=>jE (bd 20) rfl (e3 rfl rfl rfl) (fun w9 hw9=>bb_c n (b0.hL hL hw9) a0 a1 (b0.km h1_1 hw9) a2 u0) rfl fun H0 D0 t0 ⟨d0,hu_,g0⟩=>?_
 subst hu_
 obtain ⟨q0,C0⟩:=b0.agr t0
 refine Ab (Am rfl rfl)<|Ab (Am rfl rfl)<|AX [vI j0.1.fN,d0] q0 .hd (o2 rfl (By g0)) fun I0 c0 s0=>Ae rfl<|Aa<|Aq rfl<|Av hb0 func7 rfl (.cons (.many (cs:=[vI j0.1.fN,d0]) rfl rfl (c0.memA .hd)) (.cons (.tmp rfl) .nil)) rfl ?_
 cases h
 exact ⟨c0.ag,fun w9 hw9=>⟨d0,rfl,c0.kd (Aw g0 s0) hw9⟩⟩
def aF_l1 (_n:Nat) (a0:Tb) (d0:Nat -> Option (Int ⊕ Unit)):Nat -> Option (Int ⊕ Unit)
  | b0=>(if b0 < a0.fh.length then (a0.fh[b0]?).bind fun c0=>(if c0.1 < 0 then some (.inl (180:Int)) else (if c0.2 <= c0.1 then some (.inl (180:Int)) else (if a0.fN <= c0.2 then some (.inl (180:Int)) else (if 0 < b0 then (a0.fh[b0 - 1]?).bind fun g0=>(if c0.1 < g0.1 then some (.inl (180:Int)) else (if g0.1 = c0.1 then (if c0.2 <= g0.2 then some (.inl (180:Int)) else d0 (b0 + 1)) else d0 (b0 + 1))) else d0 (b0 + 1))))) else some (.inr ()))
def aF_p (n:Nat) (a0:Tb):Option Int:=
  (if a0.fN < 1 then some (180:Int) else (if 64 < a0.fN then some (180:Int) else (if 200 < a0.fh.length then some (180:Int) else thn (ac (aF_l1 n a0) n 0) (fun _=>some (0:Int)))))
theorem aF_c (n:Nat) {L w} (_hL:hl L w) (a0:Tb) {v0_1:Value} (h0_1:Rep.R w L [v0_1] a0.fh)  {r:Int} (h:aF_p n a0 = some r) :
 Cl 56 #[.agg #[vI a0.fN,v0_1]] w (ah w fun _ u=>u = vI r):=by
 unfold aF_p at h
 refine AG func56 rfl rfl rfl fun _ cs0 hb0=>Af<|RG.bx (AF w) rfl rfl fun u1 z0 j0 p1=>Ae rfl<|Aa<|Aj<|Af<|AT 0 rfl<|AA rfl ((j0.memA .hd) 0 _ rfl)<|Ab (FV.lss (i:=a0.fN) (j:=1) rfl rfl)<|Ac rfl<|Bn (s:=9) rfl h (fun E0 h=>?_) (fun E0 h=>?_)
 refine Ah<|Ah<|Ah<|Bd rfl rfl<|Ac rfl<|Ah<|Ah<|Ah<|Ah<|Bd rfl rfl<|Aa<|AS rfl<|Af<|Ae rfl<|Aa<|Aq rfl<|AQ hb0 func56 rfl rfl ?_
 cases h
 exact j0.gv
 refine RG.fg 0 rfl<|Al (AM rfl ((j0.memA .hd) 0 _ rfl))<|Al (FV.gtr (i:=a0.fN) (j:=64) rfl rfl)<|Bb rfl rfl<|Ac rfl<|Bn (s:=14) rfl h (fun F0 h=>?_) (fun F0 h=>?_)
 refine Ah<|Ah<|Ah<|Ah<|Bd rfl rfl<|Aa<|AS rfl<|Af<|Ae rfl<|Aa<|Aq rfl<|AQ hb0 func56 rfl rfl ?_
 cases h
 exact j0.gv
 refine RG.fg 1 rfl<|Al (AM rfl ((j0.memA .hd) 1 _ rfl)) ?_
 have C0:=Be h0_1 j0
 have q1:a0.fh.length <= 281474976710656:=AY C0
 refine Al (Bh (xs:=a0.fh) underlying32 rfl C0)<|Al (FV.gtrN (i:=a0.fh.length) (j:=200) rfl rfl)<|Bb rfl rfl<|Aa<|AN rfl h (fun G0 h=>?_) (fun G0 h=>?_)
 refine Af<|Ae rfl<|Aa<|Aq rfl<|AQ hb0 func56 rfl rfl ?_
 cases h
 exact j0.gv
 refine Ao<|Aj<|Af<|Ae rfl<|Aa<|Ar<|tn h fun s1 U0 p0=>MX.lo (α:=Nat) (fun b0=>[(1,vP z0),(3,vI ((b0:Nat):Int))]) (fun b0=>[.cells z0 [vI a0.fN,v0_1] 34]) (fun b0=>b0) 0 U0 j0 ?_
 rintro c1 b0 v1 q0 c0 s0 h
 unfold aF_l1 at h
 try dsimp only at h
 refine Aj<|Af<|Ac rfl<|AT 1 rfl<|AA rfl ((c0.memA .hd) 1 _ rfl) ?_
 have v0:=Be h0_1 c0
 refine Ab (Bh (xs:=a0.fh) underlying32 rfl v0)<|Ab (Bq (i:=b0) (j:=a0.fh.length) rfl rfl)<|Aa<|AN rfl h (fun H0 h=>?_) (fun H0 h=>?_)
 refine Ao<|Aj<|Ar<|Aj<|du 14 fun d0 g0=>Rv 0 d0 rfl g0 (fun _=>BB 1 rfl)<|Rx 1 12344 d0 rfl g0 (AM rfl ((c0.memA .hd) 1 _ rfl))<|Rv 2 d0 rfl g0 (fun _=>Ag rfl)<|bk h fun k0 X0 h=>?_
 obtain ⟨Z0,d1,A0,B0,j1,V0,D0⟩:=Bm v0 X0
 obtain rfl:=aU V0
 refine Rv 3 d0 rfl g0 (fun _=>Bk 2 b0 rfl A0 rfl rfl B0)<|Rv 4 d0 rfl g0 (fun _=>AB (m:=1) (k:=0) (len:=2) rfl rfl rfl rfl (by omega))<|Rx 5 12288 d0 rfl g0 (AM rfl (D0 0 _ rfl))<|Rv 6 d0 rfl g0 (fun _=>BB 1 rfl)<|Rx 7 11776 d0 rfl g0 (AM rfl ((c0.memA .hd) 1 _ rfl))<|Rv 8 d0 rfl g0 (fun _=>Ag rfl)<|Rv 9 d0 rfl g0 (fun _=>Bk 2 b0 rfl A0 rfl rfl B0)<|Rv 10 d0 rfl g0 (fun _=>AB (m:=1) (k:=1) (len:=2) rfl rfl rfl rfl (by omega))<|Rx 11 8192 d0 rfl g0 (AM rfl (D0 1 _ rfl))<|Rv 12 d0 rfl g0 (fun _=>Ba rfl)<|Rv 13 d0 rfl g0 (fun _=>Ba rfl)<|AZ (dk d0)<|Aj<|Af<|Ac rfl<|Ab (FV.lss (i:=k0.1) (j:=0) rfl rfl)<|Ac rfl<|Bn (s:=41) rfl h (fun I0 h=>?_) (fun I0 h=>?_)
 refine Ah<|Ah<|Ah<|Bd rfl rfl<|Ac rfl<|Ah<|Ah<|Ah<|Ah<|Bd rfl rfl<|Aa<|AS rfl<|Af<|Ae rfl<|Aa ?_
 have h:=ao h p0
 refine Aq rfl<|AQ hb0 func56 rfl rfl ?_
 cases h
 exact c0.gv
 refine Al (Ag rfl)<|Al (Ag rfl)<|Al (FV.geq (i:=k0.1) (j:=k0.2) rfl rfl)<|Bb rfl rfl<|Ac rfl<|Bn (s:=46) rfl h (fun J0 h=>?_) (fun J0 h=>?_)
 refine Ah<|Ah<|Ah<|Ah<|Bd rfl rfl<|Aa<|AS rfl<|Af<|Ae rfl<|Aa ?_
 have h:=ao h p0
 refine Aq rfl<|AQ hb0 func56 rfl rfl ?_
 cases h
 exact c0.gv
 refine Al (Ag rfl)<|RG.fg 0 rfl<|Al (AM rfl ((c0.memA .hd) 0 _ rfl))<|Al (FV.geq (i:=k0.2) (j:=a0.fN) rfl rfl)<|Bb rfl rfl<|Aa<|AN rfl h (fun K0 h=>?_) (fun K0 h=>?_)
 refine Af<|Ae rfl<|Aa ?_
 have h:=ao h p0
 refine Aq rfl<|AQ hb0 func56 rfl rfl ?_
 cases h
 exact c0.gv
 refine Ao<|Af<|Ac rfl<|Ab (FV.gtrN (i:=b0) (j:=0) rfl rfl)<|Ac rfl<|Bn (s:=54) rfl h (fun M0 h=>?_) (fun M0 h=>?_)
 refine RG.fg 1 rfl<|Al (AM rfl ((c0.memA .hd) 1 _ rfl))<|Al (Ag rfl)<|Al (FV.subN (i:=b0) (j:=1) rfl rfl (by omega) (by omega))<|bk h fun y0 Y0 h=>?_
 obtain ⟨b1,g1,t0,u0,k1,W0,x0⟩:=Bm v0 Y0
 obtain rfl:=aU W0
 refine Al (Bk 2 (b0 - 1) rfl t0 rfl rfl u0)<|Al (AB (m:=1) (k:=0) (len:=2) rfl rfl rfl rfl (by omega))<|Al (AM rfl (x0 0 _ rfl))<|Al (Ag rfl)<|Al (FV.gtr (i:=y0.1) (j:=k0.1) rfl rfl)<|Al (Ag rfl)<|Bn (s:=64) rfl h (fun P0 h=>?_) (fun P0 h=>?_)
 refine Ah<|Ah<|Ah<|Ah<|Ah<|Ah<|Ah<|Ah<|Ah<|Ah<|Bg<|Bg<|Bg<|Bg<|Bg<|Bg<|Bg<|Bg<|Bg<|Ah<|Al (Bj rfl rfl)<|Bd rfl rfl<|Aa<|AS rfl<|Af<|Ae rfl<|Aa ?_
 have h:=ao h p0
 refine Aq rfl<|AQ hb0 func56 rfl rfl ?_
 cases h
 exact c0.gv
 refine RG.fg 1 rfl<|Al (AM rfl ((c0.memA .hd) 1 _ rfl))<|Al (Ag rfl)<|Al (FV.subN (i:=b0) (j:=1) rfl rfl (by omega) (by omega))<|Al (Bk 2 (b0 - 1) rfl t0 rfl rfl u0)<|Al (AB (m:=1) (k:=0) (len:=2) rfl rfl rfl rfl (by omega))<|Al (AM rfl (x0 0 _ rfl))<|Al (Ag rfl)<|Al (Br (i:=y0.1) (j:=k0.1) rfl rfl)<|Al (Ag rfl)<|Bn (s:=74) rfl h (fun Q0 h=>?_) (fun Q0 h=>?_)
 refine RG.fg 1 rfl<|Al (AM rfl ((c0.memA .hd) 1 _ rfl))<|Al (Ag rfl)<|Al (FV.subN (i:=b0) (j:=1) rfl rfl (by omega) (by omega))<|Al (Bk 2 (b0 - 1) rfl t0 rfl rfl u0)<|Al (AB (m:=1) (k:=1) (len:=2) rfl rfl rfl rfl (by omega))<|Al (AM rfl (x0 1 _ rfl))<|Al (Ag rfl)<|Al (FV.geq (i:=y0.2) (j:=k0.2) rfl rfl)<|Al (Bj rfl rfl)<|Al (AD rfl rfl)<|Bd rfl rfl<|Aa<|AN rfl h (fun R0 h=>?_) (fun R0 h=>?_)
 refine Af<|Ae rfl<|Aa ?_
 have h:=ao h p0
 refine Aq rfl<|AQ hb0 func56 rfl rfl ?_
 cases h
 exact c0.gv
 refine Ao<|Ap<|Ak<|Ac rfl<|Ab (AW (i:=b0) (j:=1) rfl rfl (by omega))<|Ae rfl<|Aa<|q0 (b0 + 1) c0 s0 h
 refine Ah<|Ah<|Ah<|Ah<|Ah<|Ah<|Ah<|Ah<|Ah<|Al (AD rfl rfl)<|Al (AD rfl rfl)<|Bd rfl rfl<|Aa<|Bl rfl<|Ao<|Ap<|Ak<|Ac rfl<|Ab (AW (i:=b0) (j:=1) rfl rfl (by omega))<|Ae rfl<|Aa<|q0 (b0 + 1) c0 s0 h
 refine Ah<|Ah<|Ah<|Ah<|Ah<|Ah<|Ah<|Ah<|Ah<|Ah<|Bg<|Bg<|Bg<|Bg<|Bg<|Bg<|Bg<|Bg<|Bg<|Bg<|Bg<|Bg<|Bg<|Bg<|Bg<|Bg<|Bg<|Bg<|Bg<|Bg<|Ah<|Bb rfl rfl<|Aa<|Bl rfl<|Ao<|Ap<|Ak<|Ac rfl<|Ab (AW (i:=b0) (j:=1) rfl rfl (by omega))<|Ae rfl<|Aa<|q0 (b0 + 1) c0 s0 h
 refine AV rfl ?_
 have h:=aI h p0
 try dsimp only at h
 refine Af<|Ae rfl<|Aa<|Aq rfl<|AQ hb0 func56 rfl rfl ?_
 cases h
 exact c0.gv
def a6_p (n:Nat) (a0:Tb) (a1:UInt64):Option Int:=
  (aF_p n a0).bind fun b0=>(if b0 = 0 then (if a0.fN < 64 then (if (shrU a1 (ae a0.fN).toNat) = (0:UInt64) then some (0:Int) else some (2:Int)) else some (0:Int)) else some b0)
theorem a6_c (n:Nat) {L w} (hL:hl L w) (a0:Tb) {v0_1:Value} (h0_1:Rep.R w L [v0_1] a0.fh) (a1:UInt64)  {r:Int} (h:a6_p n a0 a1 = some r) :
 Cl 25 #[.agg #[vI a0.fN,v0_1],vU a1] w (ah w fun _ u=>u = vI r):=by
 unfold a6_p at h
 refine AG func25 rfl rfl rfl fun _ cs0 hb0=>Af<|RG.bx (AF w) rfl rfl fun t0 q0 b0 s0=>Ae rfl<|Aa<|Aj<|Af<|Ab (AK rfl (b0.memA .hd))<|bk h fun c0 p0 h=>BA (vI c0) (bd 56) rfl (e1 rfl) (fun w9 hw9=>aF_c n (b0.hL0 hL hw9) a0 (b0.k0 h0_1 hw9) p0) rfl<|Ae rfl<|Aa<|Af<|Ac rfl<|Ab (FV.neq (i:=c0) (j:=0) rfl rfl)<|Aa<|MX.ifn rfl h (fun d0 h=>?_) (fun d0 h=>?_)
 refine Ao<|Aj<|Af<|AT 0 rfl<|AA rfl ((b0.memA .hd) 0 _ rfl)<|Ab (FV.lss (i:=a0.fN) (j:=64) rfl rfl)<|Ac rfl<|Bn (s:=14) rfl h (fun g0 h=>?_) (fun g0 h=>?_)
 refine Al (Ag rfl)<|RG.fg 0 rfl<|Al (AM rfl ((b0.memA .hd) 0 _ rfl))<|Al (FV.convU (i:=a0.fN) underlying3 underlying38 rfl)<|Al (FV.shrU (a:=a1) (j:=(ae a0.fN).toNat) rfl rfl)<|Al (FV.neqU (a:=shrU a1 (ae a0.fN).toNat) (b:=(0:UInt64)) rfl rfl)<|Bd rfl rfl<|Aa<|MX.ifn rfl h (fun j0 h=>?_) (fun j0 h=>?_)
 refine Ao<|Af<|Ae rfl<|Aa<|Aq rfl<|AQ hb0 func25 rfl rfl ?_
 cases h
 exact b0.gv
 refine Af<|Ae rfl<|Aa<|Aq rfl<|AQ hb0 func25 rfl rfl ?_
 cases h
 exact b0.gv
 refine Ah<|Ah<|Ah<|Ah<|Ah<|Ah<|Bb rfl rfl<|Aa<|Bl rfl<|Ao<|Af<|Ae rfl<|Aa<|Aq rfl<|AQ hb0 func25 rfl rfl ?_
 cases h
 exact b0.gv
 refine Af<|Ac rfl<|Ae rfl<|Aa<|Aq rfl<|AQ hb0 func25 rfl rfl ?_
 cases h
 exact b0.gv
def ak_p (_n:Nat) (a0:UInt64) (a1:Int):Option Bool:=
  some (decide (((shrU a0 (ae a1).toNat) &&& (1:UInt64)) = (1:UInt64)))
theorem ak_c (n:Nat) {L w} (_hL:hl L w) (a0:UInt64) {a1:Int}  {r:Bool} (h:ak_p n a0 a1 = some r) :
 Cl 26 #[vU a0,vI a1] w (ah w fun _ u=>u = .bool r):=by
 unfold ak_p at h
 have hS0:=AF w
 refine AG func26 rfl rfl rfl fun _ cs0 hb0=>Af<|Ae rfl<|Aa<|Af<|Ac rfl<|Ac rfl<|Ab (FV.convU (i:=a1) underlying3 underlying38 rfl)<|Ab (FV.shrU (a:=a0) (j:=(ae a1).toNat) rfl rfl)<|Ab (FV.andU (a:=shrU a0 (ae a1).toNat) (b:=(1:UInt64)) rfl rfl)<|Ab (FV.eqlU (a:=(shrU a0 (ae a1).toNat) &&& (1:UInt64)) (b:=(1:UInt64)) rfl rfl)<|Ae rfl<|Aa<|Aq rfl<|AQ hb0 func26 rfl rfl ?_
 cases h
 exact hS0.gv
def aA_p (_n:Nat) (a0:Int):Option UInt64:=
  some (shlU (1:UInt64) (ae a0).toNat)
theorem aA_c (n:Nat) {L w} (_hL:hl L w) {a0:Int}  {r:UInt64} (h:aA_p n a0 = some r) :
 Cl 34 #[vI a0] w (ah w fun _ u=>u = vU r):=by
 unfold aA_p at h
 have hS0:=AF w
 refine AG func34 rfl rfl rfl fun _ cs0 hb0=>Af<|Ae rfl<|Aa<|Af<|Ac rfl<|Ab (FV.convU (i:=a0) underlying3 underlying38 rfl)<|Ab (FV.shlU (a:=(1:UInt64)) (j:=(ae a0).toNat) rfl rfl)<|Ae rfl<|Aa<|Aq rfl<|AQ hb0 func34 rfl rfl ?_
 cases h
 exact hS0.gv
def ao_l1 (n:Nat) (a0:Tb) (a3:Int) (a1:UInt64) (k0:UInt64 × Nat -> Option UInt64):UInt64 × Nat -> Option UInt64
  | (d0,g0)=>(if g0 < a0.fh.length then (a0.fh[g0]?).bind fun b0=>jn (fun p0=>jn (fun q0=>k0 (q0,g0 + 1)) (fun j0=>(if p0 = true then (aA_p n b0.1).bind fun s0=>(aA_p n b0.2).bind fun t0=>j0 ((d0 ||| s0) ||| t0) else j0 d0))) (fun c0=>(if ((g0:Nat):Int) = a3 then c0 false else (ak_p n a1 b0.1).bind fun u0=>(if u0 = true then (ak_p n a1 b0.2).bind fun v0=>(if v0 = true then (ak_p n d0 b0.1).bind fun x0=>(if x0 = true then c0 true else (ak_p n d0 b0.2).bind fun y0=>c0 y0) else c0 false) else c0 false))) else some d0)
def ao_l2 (n:Nat) (a0:Tb) (a3:Int) (a1:UInt64) (d0:UInt64 × Nat -> Option UInt64):UInt64 × Nat -> Option UInt64
  | (c0,b0)=>(if b0 < a0.fh.length then Option.bind (ac (ao_l1 n a0 a3 a1) n (c0,0)) (fun g0=>d0 (g0,b0 + 1)) else some c0)
def ao_p (n:Nat) (a0:Tb) (a1:UInt64) (a2:Int) (a3:Int):Option UInt64:=
  (aA_p n a2).bind fun c0=>Option.bind (ac (ao_l2 n a0 a3 a1) n (c0,0)) (fun b0=>some b0)
theorem ao_c (n:Nat) {L w} (hL:hl L w) (a0:Tb) {v0_1:Value} (h0_1:Rep.R w L [v0_1] a0.fh) (a1:UInt64) {a2:Int} {a3:Int}  {r:UInt64} (h:ao_p n a0 a1 a2 a3 = some r) :
 Cl 27 #[.agg #[vI a0.fN,v0_1],vU a1,vI a2,vI a3] w (ah w fun _ u=>u = vU r):=by
 unfold ao_p at h
 refine AG func27 rfl rfl rfl fun _ cs0 hb0=>Af<|RG.bx (AF w) rfl rfl fun V1 p0 x0 P1=>Ae rfl<|Aa<|Af<|Ac rfl<|bk h fun J0 u1 h=>BA (vU J0) (bd 34) rfl (e1 rfl) (fun w9 hw9=>aA_c n (x0.hL0 hL hw9)  u1) rfl<|Ae rfl<|Aa<|Aj<|Af<|AT 1 rfl<|AA rfl ((x0.memA .hd) 1 _ rfl) ?_
 have F0:=Be h0_1 x0
 have Q1:a0.fh.length <= 281474976710656:=AY F0
 refine Ab (Bh (xs:=a0.fh) underlying32 rfl F0)<|Ac rfl<|Aa<|Ar ?_
 obtain ⟨R1,k1,g1⟩:=ai h
 refine MX.lo (α:=UInt64 × Nat) (fun ⟨q0,k0⟩=>[(1,vU a1),(3,vI a3),(4,vP p0),(9,vU q0),(17,vI ((a0.fh.length:Nat):Int)),(18,vI ((k0:Nat):Int))]) (fun ⟨q0,k0⟩=>[.cells p0 [vI a0.fN,v0_1] 34]) (fun ⟨q0,k0⟩=>(q0,k0)) (J0,0) k1 x0 ?_
 rintro G1 ⟨q0,k0⟩ W1 X0 B0 b1 h
 unfold ao_l2 at h
 try dsimp only at h
 refine Af<|Ab (Bq (i:=k0) (j:=a0.fh.length) rfl rfl)<|Aa<|Aj<|AN rfl h (fun M0 h=>?_) (fun M0 h=>?_)
 refine Ao<|Aj<|Ar<|Af<|Ae rfl<|Aa<|Ar ?_
 obtain ⟨U1,p1,j1⟩:=ai h
 refine MX.lo (α:=UInt64 × Nat) (fun ⟨j0,g0⟩=>[(1,vU a1),(3,vI a3),(4,vP p0),(9,vU j0),(17,vI ((a0.fh.length:Nat):Int)),(18,vI ((k0:Nat):Int)),(10,vI ((g0:Nat):Int))]) (fun ⟨j0,g0⟩=>[.cells p0 [vI a0.fN,v0_1] 34]) (fun ⟨j0,g0⟩=>(j0,g0)) (q0,0) p1 B0 ?_
 rintro H1 ⟨j0,g0⟩ X1 Y0 b0 C0 h
 unfold ao_l1 at h
 try dsimp only at h
 refine Aj<|Af<|Ac rfl<|AT 1 rfl<|AA rfl ((b0.memA .hd) 1 _ rfl) ?_
 have G0:=Be h0_1 b0
 refine Ab (Bh (xs:=a0.fh) underlying32 rfl G0)<|Ab (Bq (i:=g0) (j:=a0.fh.length) rfl rfl)<|Aa<|AN rfl h (fun P0 h=>?_) (fun P0 h=>?_)
 refine Ao<|Aj<|Ar<|Aj<|du 14 fun c0 d0=>Rv 0 c0 rfl d0 (fun _=>BB 1 rfl)<|Rx 1 12344 c0 rfl d0 (AM rfl ((b0.memA .hd) 1 _ rfl))<|Rv 2 c0 rfl d0 (fun _=>Ag rfl)<|bk h fun I0 s1 h=>?_
 obtain ⟨F1,K1,D0,E0,M1,q1,H0⟩:=Bm G0 s1
 obtain rfl:=aU q1
 refine Rv 3 c0 rfl d0 (fun _=>Bk 2 g0 rfl D0 rfl rfl E0)<|Rv 4 c0 rfl d0 (fun _=>AB (m:=1) (k:=0) (len:=2) rfl rfl rfl rfl (by omega))<|Rx 5 12288 c0 rfl d0 (AM rfl (H0 0 _ rfl))<|Rv 6 c0 rfl d0 (fun _=>BB 1 rfl)<|Rx 7 11776 c0 rfl d0 (AM rfl ((b0.memA .hd) 1 _ rfl))<|Rv 8 c0 rfl d0 (fun _=>Ag rfl)<|Rv 9 c0 rfl d0 (fun _=>Bk 2 g0 rfl D0 rfl rfl E0)<|Rv 10 c0 rfl d0 (fun _=>AB (m:=1) (k:=1) (len:=2) rfl rfl rfl rfl (by omega))<|Rx 11 8192 c0 rfl d0 (AM rfl (H0 1 _ rfl))<|Rv 12 c0 rfl d0 (fun _=>Ba rfl)<|Rv 13 c0 rfl d0 (fun _=>Ba rfl)<|AZ (dk c0)<|Aj<|MX.jo (α:=Bool) (fun v0=>[(1,vU a1),(3,vI a3),(4,vP p0),(9,vU j0),(17,vI ((a0.fh.length:Nat):Int)),(18,vI ((k0:Nat):Int)),(10,vI ((g0:Nat):Int)),(11,vI I0.1),(12,vI I0.2),(61,.bool v0)]) (fun v0=>[.cells p0 [vI a0.fN,v0_1] 34]) (fun v0=>v0) b0 h ?_ ?_
 rintro v0 Y1 u0 c1 h
 try dsimp only at h
 refine MX.jo (α:=UInt64) (fun s0=>[(1,vU a1),(3,vI a3),(4,vP p0),(9,vU s0),(17,vI ((a0.fh.length:Nat):Int)),(18,vI ((k0:Nat):Int)),(10,vI ((g0:Nat):Int))]) (fun s0=>[.cells p0 [vI a0.fN,v0_1] 34]) (fun s0=>s0) u0 h ?_ ?_
 rintro s0 Z1 Z0 d1 h
 try dsimp only at h
 refine Ap<|Ak<|Ac rfl<|Ab (AW (i:=g0) (j:=1) rfl rfl (by omega))<|Ae rfl<|Aa<|Y0 (s0,g0 + 1) Z0 (Tt C0 (Tt c1 d1)) h
 intro J1 A0 h
 try dsimp only at h
 refine MX.ifb rfl h (fun Q0 h=>?_) (fun Q0 h=>?_)
 refine Ak<|Ac rfl<|Ac rfl<|bk h fun y0 v1 h=>BA (vU y0) (bd 34) rfl (e1 rfl) (fun w9 hw9=>aA_c n (u0.hL0 hL hw9)  v1) rfl<|Ab (FV.orU (a:=j0) (b:=y0) rfl rfl)<|Ac rfl<|bk h fun z0 x1 h=>BA (vU z0) (bd 34) rfl (e1 rfl) (fun w9 hw9=>aA_c n (u0.hL0 hL hw9)  x1) rfl<|Ab (FV.orU (a:=j0 ||| y0) (b:=z0) rfl rfl)<|Ae rfl<|Aa<|A0 ((j0 ||| y0) ||| z0) u0 (Bs _ _) h
 refine Ao<|A0 j0 u0 (Bs _ _) h
 intro I1 t0 h
 try dsimp only at h
 refine Ak<|Ac rfl<|Ac rfl<|Ab (FV.neq (i:=((g0:Nat):Int)) (j:=a3) rfl rfl)<|Ac rfl<|RG.ifn (s:=42) rfl h (fun R0 h=>?_) (fun R0 h=>?_)
 refine Ah<|Ah<|Ah<|Bb rfl rfl<|Ac rfl<|Ah<|Ah<|Ah<|Bb rfl rfl<|Ac rfl<|Ah<|Ah<|Ah<|Ah<|Bg<|Bg<|Bg<|Ah<|Bb rfl rfl<|Aa<|t0 false b0 (Bs _ _) h
 refine Al (Ag rfl)<|Al (Ag rfl)<|bk h fun C1 y1 h=>RG.callq' (v:=.bool C1) (fst:=[]) (cap:=[]) (.yes rfl rfl) (bd 26) rfl (e2 rfl rfl) (fun w9 hw9=>ak_c n (b0.hL0 hL hw9) a1 y1) rfl<|Bd rfl rfl<|Ac rfl<|RG.ifb (s:=47) rfl h (fun U0 h=>?_) (fun U0 h=>?_)
 refine Al (Ag rfl)<|Al (Ag rfl)<|bk h fun D1 z1 h=>RG.callq' (v:=.bool D1) (fst:=[]) (cap:=[]) (.yes rfl rfl) (bd 26) rfl (e2 rfl rfl) (fun w9 hw9=>ak_c n (b0.hL0 hL hw9) a1 z1) rfl<|Bd rfl rfl<|Ac rfl<|RG.ifb (s:=52) rfl h (fun V0 h=>?_) (fun V0 h=>?_)
 refine Al (Ag rfl)<|Al (Ag rfl)<|bk h fun E1 A1 h=>RG.callq' (v:=.bool E1) (fst:=[]) (cap:=[]) (.yes rfl rfl) (bd 26) rfl (e2 rfl rfl) (fun w9 hw9=>ak_c n (b0.hL0 hL hw9) j0 A1) rfl<|Al (Ag rfl)<|RG.ifb (s:=56) rfl h (fun W0 h=>?_) (fun W0 h=>?_)
 refine Ah<|Ah<|Ah<|Al (Bj rfl rfl)<|Bd rfl rfl<|Aa<|t0 true b0 (Bs _ _) h
 refine Al (Ag rfl)<|Al (Ag rfl)<|bk h fun K0 B1 h=>RG.callq' (v:=.bool K0) (fst:=[]) (cap:=[]) (.yes rfl rfl) (bd 26) rfl (e2 rfl rfl) (fun w9 hw9=>ak_c n (b0.hL0 hL hw9) j0 B1) rfl<|Al (AD rfl rfl)<|Bd rfl rfl<|Aa<|t0 K0 b0 (Bs _ _) h
 refine Ah<|Ah<|Ah<|Ah<|Bg<|Bg<|Bg<|Ah<|Bb rfl rfl<|Aa<|t0 false b0 (Bs _ _) h
 refine Ah<|Ah<|Ah<|Bb rfl rfl<|Ac rfl<|Ah<|Ah<|Ah<|Ah<|Bg<|Bg<|Bg<|Ah<|Bb rfl rfl<|Aa<|t0 false b0 (Bs _ _) h
 refine AV rfl ?_
 have h:=j1 _ h
 try dsimp only at h
 refine Ap<|Ak<|Ab (AW (i:=k0) (j:=1) rfl rfl (by omega))<|Ac rfl<|Aa<|X0 (j0,k0 + 1) b0 (Tt b1 C0) h
 refine AV rfl ?_
 have h:=g1 _ h
 try dsimp only at h
 refine Af<|Ac rfl<|Ae rfl<|Aa<|Aq rfl<|AQ hb0 func27 rfl rfl ?_
 cases h
 exact B0.gv
def aB_l1 (_n:Nat) (a0:Tb) (a1:Int) (a2:Int) (d0:Nat -> Option (Bool ⊕ Unit)):Nat -> Option (Bool ⊕ Unit)
  | b0=>(if b0 < a0.fh.length then (a0.fh[b0]?).bind fun c0=>(if c0.1 = a1 then (if c0.2 = a2 then some (.inl true) else (if c0.1 = a2 then (if c0.2 = a1 then some (.inl true) else d0 (b0 + 1)) else d0 (b0 + 1))) else (if c0.1 = a2 then (if c0.2 = a1 then some (.inl true) else d0 (b0 + 1)) else d0 (b0 + 1))) else some (.inr ()))
def aB_p (n:Nat) (a0:Tb) (a1:Int) (a2:Int):Option Bool:=
  thn (ac (aB_l1 n a0 a1 a2) n 0) (fun _=>some false)
theorem aB_c (n:Nat) {L w} (_hL:hl L w) (a0:Tb) {v0_1:Value} (h0_1:Rep.R w L [v0_1] a0.fh) {a1:Int} {a2:Int}  {r:Bool} (h:aB_p n a0 a1 a2 = some r) :
 Cl 72 #[.agg #[vI a0.fN,v0_1],vI a1,vI a2] w (ah w fun _ u=>u = .bool r):=by
 unfold aB_p at h
 refine AG func72 rfl rfl rfl fun _ cs0 hb0=>Af<|RG.bx (AF w) rfl rfl fun q1 u0 D0 j1=>Ae rfl<|Aa<|Aj<|Af<|Ae rfl<|Aa<|Ar<|tn h fun p1 V0 s0=>MX.lo (α:=Nat) (fun b0=>[(1,vI a1),(2,vI a2),(3,vP u0),(7,vI ((b0:Nat):Int))]) (fun b0=>[.cells u0 [vI a0.fN,v0_1] 34]) (fun b0=>b0) 0 V0 D0 ?_
 rintro Z0 b0 v1 j0 g0 k0 h
 unfold aB_l1 at h
 try dsimp only at h
 refine Aj<|Af<|Ac rfl<|AT 1 rfl<|AA rfl ((g0.memA .hd) 1 _ rfl) ?_
 have t0:=Be h0_1 g0
 have k1:a0.fh.length <= 281474976710656:=AY t0
 refine Ab (Bh (xs:=a0.fh) underlying32 rfl t0)<|Ab (Bq (i:=b0) (j:=a0.fh.length) rfl rfl)<|Aa<|AN rfl h (fun v0 h=>?_) (fun v0 h=>?_)
 refine Ao<|Aj<|Ar<|Af<|AT 1 rfl<|AA rfl ((g0.memA .hd) 1 _ rfl)<|Ac rfl<|bk h fun d0 X0 h=>?_
 obtain ⟨Y0,c1,Q0,R0,g1,W0,U0⟩:=Bm t0 X0
 obtain rfl:=aU W0
 refine Ab (Bk 2 b0 rfl Q0 rfl rfl R0)<|Ab (AK rfl U0)<|RG.nl [vI 0,vI 0] g0 fun s1 b1 E0 p0=>AX [vI d0.1,vI d0.2] E0 .hd (ck rfl) fun u1 c0 q0=>Aa<|Af<|Ab (AB (m:=1) (k:=0) (len:=2) rfl rfl rfl rfl (by omega))<|AA rfl ((c0.memA .hd) 0 _ rfl)<|Ac rfl<|Ab (Br (i:=d0.1) (j:=a1) rfl rfl)<|Ac rfl<|Bn (s:=25) rfl h (fun x0 h=>?_) (fun x0 h=>?_)
 refine Al (AB (m:=1) (k:=1) (len:=2) rfl rfl rfl rfl (by omega))<|Al (AM rfl ((c0.memA .hd) 1 _ rfl))<|Al (Ag rfl)<|Al (Br (i:=d0.2) (j:=a2) rfl rfl)<|Bd rfl rfl<|Ac rfl<|Bn (s:=31) rfl h (fun y0 h=>?_) (fun y0 h=>?_)
 refine Ah<|Ah<|Ah<|Ah<|Ah<|Bg<|Bg<|Bg<|Bg<|Ah<|Bd rfl rfl<|Aa<|AS rfl<|Af<|Ae rfl<|Aa ?_
 have h:=ao h s0
 refine Aq rfl<|AQ hb0 func72 rfl rfl ?_
 cases h
 exact c0.gv
 refine Al (AB (m:=1) (k:=0) (len:=2) rfl rfl rfl rfl (by omega))<|Al (AM rfl ((c0.memA .hd) 0 _ rfl))<|Al (Ag rfl)<|Al (Br (i:=d0.1) (j:=a2) rfl rfl)<|Al (Ag rfl)<|Bn (s:=36) rfl h (fun z0 h=>?_) (fun z0 h=>?_)
 refine Al (AB (m:=1) (k:=1) (len:=2) rfl rfl rfl rfl (by omega))<|Al (AM rfl ((c0.memA .hd) 1 _ rfl))<|Al (Ag rfl)<|Al (Br (i:=d0.2) (j:=a1) rfl rfl)<|Al (Bj rfl rfl)<|Bb rfl rfl<|Aa<|AN rfl h (fun A0 h=>?_) (fun A0 h=>?_)
 refine Af<|Ae rfl<|Aa ?_
 have h:=ao h s0
 refine Aq rfl<|AQ hb0 func72 rfl rfl ?_
 cases h
 exact c0.gv
 refine Ao<|Ap<|Ak<|Ac rfl<|Ab (AW (i:=b0) (j:=1) rfl rfl (by omega))<|Ae rfl<|Aa ?_
 obtain ⟨F0,J0⟩:=AH c0 .d1
 exact j0 (b0 + 1) F0 (Tt k0 (Tt p0 (Tt q0 J0))) h
 refine Ah<|Ah<|Ah<|Ah<|Al (AD rfl rfl)<|Bb rfl rfl<|Aa<|Bl rfl<|Ao<|Ap<|Ak<|Ac rfl<|Ab (AW (i:=b0) (j:=1) rfl rfl (by omega))<|Ae rfl<|Aa ?_
 obtain ⟨G0,K0⟩:=AH c0 .d1
 exact j0 (b0 + 1) G0 (Tt k0 (Tt p0 (Tt q0 K0))) h
 refine Ah<|Ah<|Ah<|Ah<|Bb rfl rfl<|Ac rfl<|Al (AB (m:=1) (k:=0) (len:=2) rfl rfl rfl rfl (by omega))<|Al (AM rfl ((c0.memA .hd) 0 _ rfl))<|Al (Ag rfl)<|Al (Br (i:=d0.1) (j:=a2) rfl rfl)<|Al (Ag rfl)<|Bn (s:=36) rfl h (fun B0 h=>?_) (fun B0 h=>?_)
 refine Al (AB (m:=1) (k:=1) (len:=2) rfl rfl rfl rfl (by omega))<|Al (AM rfl ((c0.memA .hd) 1 _ rfl))<|Al (Ag rfl)<|Al (Br (i:=d0.2) (j:=a1) rfl rfl)<|Al (Bj rfl rfl)<|Bb rfl rfl<|Aa<|AN rfl h (fun C0 h=>?_) (fun C0 h=>?_)
 refine Af<|Ae rfl<|Aa ?_
 have h:=ao h s0
 refine Aq rfl<|AQ hb0 func72 rfl rfl ?_
 cases h
 exact c0.gv
 refine Ao<|Ap<|Ak<|Ac rfl<|Ab (AW (i:=b0) (j:=1) rfl rfl (by omega))<|Ae rfl<|Aa ?_
 obtain ⟨H0,M0⟩:=AH c0 .d1
 exact j0 (b0 + 1) H0 (Tt k0 (Tt p0 (Tt q0 M0))) h
 refine Ah<|Ah<|Ah<|Ah<|Al (AD rfl rfl)<|Bb rfl rfl<|Aa<|Bl rfl<|Ao<|Ap<|Ak<|Ac rfl<|Ab (AW (i:=b0) (j:=1) rfl rfl (by omega))<|Ae rfl<|Aa ?_
 obtain ⟨I0,P0⟩:=AH c0 .d1
 exact j0 (b0 + 1) I0 (Tt k0 (Tt p0 (Tt q0 P0))) h
 refine AV rfl ?_
 have h:=aI h s0
 try dsimp only at h
 refine Af<|Ae rfl<|Aa<|Aq rfl<|AQ hb0 func72 rfl rfl ?_
 cases h
 exact g0.gv
def aH_l1 (n:Nat) (a0:Tb) (a1:UInt64) (a2:Int) (d0:Int × (List Int) -> Option (List Int)):Int × (List Int) -> Option (List Int)
  | (b0,c0)=>(if b0 < a0.fN then (ak_p n a1 b0).bind fun q0=>(if q0 = true then (aB_p n a0 a2 b0).bind fun s0=>(if s0 = true then (app c0 ([b0]:List Int)).bind fun p0=>(chk (b0 + 1)).bind fun g0=>d0 (g0,p0) else (chk (b0 + 1)).bind fun j0=>d0 (j0,c0)) else (chk (b0 + 1)).bind fun k0=>d0 (k0,c0)) else some c0)
def aH_p (n:Nat) (a0:Tb) (a1:UInt64) (a2:Int):Option (List Int):=
  Option.bind (ac (aH_l1 n a0 a1 a2) n (0,([]:List Int))) (fun b0=>some b0)
theorem aH_c (n:Nat) {L w} (hL:hl L w) (a0:Tb) {v0_1:Value} (h0_1:Rep.R w L [v0_1] a0.fh) (a1:UInt64) {a2:Int}  {r:List Int} (h:aH_p n a0 a1 a2 = some r) :
 Cl 57 #[.agg #[vI a0.fN,v0_1],vU a1,vI a2] w (ah w fun w' u=>∃ v0_0:Value,u = v0_0/\Rep.R w' L [v0_0] r):=by
 unfold aH_p at h
 refine AG func57 rfl rfl rfl fun _ cs0 hb0=>Af<|RG.bx (AF w) rfl rfl fun z1 q0 x0 u1=>Ae rfl<|Aa<|Af<|Ae rfl<|Aa<|Aj<|Af<|Ae rfl<|Aa<|Ar ?_
 have y0:=x0.nilRow 3 (Rep.size Int)
 have v1:=St.nilRowT x0 3 (Rep.size Int)
 obtain ⟨x1,M0,K0⟩:=ai h
 refine MX.lf (α:=Int × (List Int) × Value × (List Value)) (fun ⟨b0,g0,d0,j0⟩=>[(1,vU a1),(2,vI a2),(3,vP q0),(7,d0),(8,vI b0)]) (fun ⟨b0,g0,d0,j0⟩=>[rr w 3 Int d0 g0.length j0,.cells q0 [vI a0.fN,v0_1] 34]) (fun ⟨b0,g0,d0,j0⟩ B0=>Cells B0 (bl [rr w 3 Int d0 g0.length j0,.cells q0 [vI a0.fN,v0_1] 34] ++ L) j0 g0) (fun ⟨b0,g0,d0,j0⟩=>(b0,g0)) (0,([]:List Int),vN,[]) M0 y0 (AE (cs:=[]) (xs:=([]:List Int)) y0 L (AJ _ _)) ?_
 rintro p1 ⟨b0,g0,d0,j0⟩ B0 s0 c0 v0 p0 h
 unfold aH_l1 at h
 try dsimp only at h
 refine Aj<|Af<|Ac rfl<|AT 0 rfl<|AA rfl ((c0.memA .t1) 0 _ rfl)<|Ab (FV.lss (i:=b0) (j:=a0.fN) rfl rfl)<|Aa<|AN rfl h (fun C0 h=>?_) (fun C0 h=>?_)
 refine Ao<|Aj<|Ar<|Af<|Ac rfl<|Ac rfl<|bk h fun j1 W0 h=>BA (.bool j1) (bd 26) rfl (e2 rfl rfl) (fun w9 hw9=>ak_c n (c0.hL0 hL hw9) a1 W0) rfl<|Ac rfl<|RG.ifb (s:=18) rfl h (fun D0 h=>?_) (fun D0 h=>?_)
 refine Al (AK rfl (c0.memA .t1))<|Al (Ag rfl)<|Al (Ag rfl)<|bk h fun k1 X0 h=>RG.callq' (v:=.bool k1) (fst:=[]) (cap:=[]) (.yes rfl rfl) (bd 72) rfl (e3 rfl rfl rfl) (fun w9 hw9=>aB_c n (c0.hL0 hL hw9) a0 (c0.k0 h0_1 hw9) X0) rfl<|Bd rfl rfl<|Aa<|MX.ifb rfl h (fun E0 h=>?_) (fun E0 h=>?_)
 refine Ak<|Ac rfl<|Ac rfl<|Au .plain rfl (jA b0 (vI b0) c0 aq (e1 rfl)) fun A1 q1 u0 A0=>bk h fun g1 V0 h=>Bz .plain rfl (Bw (α:=Int) (ys:=([b0]:List Int)) V0 u0 (fun _ _=>.t1) aq rfl rfl (Az p0 A0) (Src.row (α:=Int) u0 .hd (jC b0 (vI b0) u0 L rfl))) fun c1 y1 ⟨F0,G0,I0,J0⟩=>Ae rfl<|Aa<|Ap<|Ak<|Ac rfl<|bk h fun Y0 Q0 h=>Ab (Bp (i:=b0) (j:=1) rfl rfl Q0)<|Ae rfl<|Aa ?_
 obtain ⟨H0,z0⟩:=AH G0 .d1
 exact s0 (Y0,g1,c1,F0) H0 (Tt v0 (Tt A0 (Tt I0 z0))) (Az J0 z0) h
 refine Ao<|Ap<|Ak<|Ac rfl<|bk h fun Z0 R0 h=>Ab (Bp (i:=b0) (j:=1) rfl rfl R0)<|Ae rfl<|Aa<|s0 (Z0,g0,d0,j0) c0 v0 p0 h
 refine Ah<|Ah<|Ah<|Ah<|Bb rfl rfl<|Aa<|Bl rfl<|Ao<|Ap<|Ak<|Ac rfl<|bk h fun b1 U0 h=>Ab (Bp (i:=b0) (j:=1) rfl rfl U0)<|Ae rfl<|Aa<|s0 (b1,g0,d0,j0) c0 v0 p0 h
 refine AV rfl ?_
 have h:=K0 _ h
 try dsimp only at h
 refine Af<|Ac rfl<|Ae rfl<|Aa<|Aq rfl ?_
 have t0:=Bt c0 .hd
 have s1:=Bu c0 .hd
 have P0:=Bv (α:=Int) (v:=d0) (xs:=g0) t0 L (Bf (α:=Int) c0 .hd p0 hL)
 refine AQ hb0 func57 rfl rfl ?_
 cases h
 exact ⟨t0.ag,fun w9 hw9=>⟨d0,rfl,t0.kd P0 hw9⟩⟩
def aq_l1 (_n:Nat) (a0:List Int) (c0:Int -> Option Int):Int -> Option Int
  | b0=>(if 0 < b0 then (chk (b0 - 1)).bind fun d0=>(idx a0 d0).bind fun j0=>(if j0 = 0 then (chk (b0 - 1)).bind fun g0=>c0 g0 else some b0) else some b0)
def aq_p (n:Nat) (a0:List Int):Option (List Int):=
  jn (fun d0=>(cut a0 0 d0).bind fun c0=>some c0) (fun b0=>Option.bind (ac (aq_l1 n a0) n ((a0.length:Nat):Int)) (b0))
theorem aq_c (n:Nat) {L w} (_hL:hl L w) {a0:List Int} {v0_0:Value} (h0_0:Rep.R w L [v0_0] a0)  {r:List Int} (h:aq_p n a0 = some r) :
 Cl 108 #[v0_0] w (ah w fun w' u=>∃ v0_0:Value,u = v0_0/\Rep.R w' L [v0_0] r):=by
 unfold aq_p at h
 have hS0:=AF w
 refine AG func108 rfl rfl rfl fun _ cs0 hb0=>Af<|Ae rfl<|Aa<|Af<|Ac rfl ?_
 have hl1:a0.length <= 281474976710656:=AY h0_0
 refine Ab (Bh (xs:=a0) underlying41 rfl h0_0)<|Ae rfl<|Aa<|Aj<|Ar<|MX.xo (α:=Int) 0 (fun c0=>[(0,v0_0),(3,vI c0)]) (fun c0=>[]) (fun c0=>c0) hS0 rfl h ?_ ?_
 rintro c0 Y0 g0 W0 h
 try dsimp only at h
 refine Af<|Ac rfl<|Ac rfl<|bk h fun b1 J0 h=>RG.valE .plain rfl (FV.cutL (α:=Int) J0 rfl rfl (Be h0_0 g0) rfl ⟨_,rfl⟩) fun P0 D0=>Ae rfl<|Aa<|Aq rfl<|AQ hb0 func108 rfl rfl ?_
 cases h
 exact ⟨g0.ag,fun w9 hw9=>⟨P0,rfl,g0.kd D0 hw9⟩⟩
 intro R0 k0 h
 try dsimp only at h
 obtain ⟨X0,C0,p0⟩:=ai h
 refine MX.lo (α:=Int) (fun b0=>[(0,v0_0),(3,vI b0)]) (fun b0=>[]) (fun b0=>b0) ((a0.length:Nat):Int) C0 hS0 ?_
 rintro U0 b0 Z0 v0 d0 j0 h
 unfold aq_l1 at h
 try dsimp only at h
 refine Aj<|Af<|Ac rfl<|Ab (FV.gtr (i:=b0) (j:=0) rfl rfl)<|Ac rfl<|Bn (s:=8) rfl h (fun s0 h=>?_) (fun s0 h=>?_)
 refine Al (Ag rfl)<|Al (Ag rfl)<|bk h fun K0 F0 h=>Al (FV.subc (i:=b0) (j:=1) rfl rfl F0)<|bk h fun q0 H0 h=>?_
 obtain ⟨z0,I0⟩:=au H0
 obtain ⟨Q0,V0,x0,A0,u0,E0,B0⟩:=Bm (Be h0_0 d0) I0
 have y0:u0 = [vI q0]:=E0; subst y0
 refine Al (Bk 1 (K0.toNat) rfl x0 rfl z0 A0)<|Al (AM rfl (B0 0 _ rfl))<|Al (Br (i:=q0) (j:=0) rfl rfl)<|Bd rfl rfl<|Aa<|AN rfl h (fun t0 h=>?_) (fun t0 h=>?_)
 refine Ao<|Ar<|Ak<|Ac rfl<|bk h fun M0 G0 h=>Ab (FV.subc (i:=b0) (j:=1) rfl rfl G0)<|Ae rfl<|Aa<|Ap<|v0 M0 d0 j0 h
 refine AV rfl ?_
 have h:=p0 _ h
 try dsimp only at h
 exact k0 b0 d0 j0 h
 refine Ah<|Ah<|Ah<|Ah<|Ah<|Ah<|Bb rfl rfl<|Aa<|Bl rfl<|AV rfl ?_
 have h:=p0 _ h
 try dsimp only at h
 exact k0 b0 d0 j0 h
structure Tc where
  fe:Bool
  fD:List Int
  deriving DecidableEq
instance:Rep Tc:=Rep.via (β:=Bool × (List Int)) fun x=>(x.fe,x.fD)
def ac_p (n:Nat) (a0:Bool) (a1:List Int):Option Tc:=
  (aq_p n a1).bind fun b0=>(if a0 = true then some (⟨(decide (0 < b0.length)),b0⟩:Tc) else some (⟨false,b0⟩:Tc))
theorem ac_c (n:Nat) {L w} (hL:hl L w) {a0:Bool} {a1:List Int} {v1_0:Value} (h1_0:Rep.R w L [v1_0] a1)  {r:Tc} (h:ac_p n a0 a1 = some r) :
 Cl 95 #[.bool a0,v1_0] w (ah w fun w' u=>∃ v0_1:Value,u = .agg #[.bool r.fe,v0_1]/\Rep.R w' L [v0_1] r.fD):=by
 unfold ac_p at h
 refine AG func95 rfl rfl rfl fun _ cs0 hb0=>Af<|RG.nl [.bool false,vN] (AF w) fun I0 B0 g0 E0=>Aa<|Af<|Ac rfl<|bk h fun d0 y0 h=>jE (bd 108) rfl (e1 rfl) (fun w9 hw9=>aq_c n (g0.hL hL hw9) (g0.km h1_0 hw9) y0) rfl fun J0 b0 u0 ⟨H0,hu_,c0⟩=>?_
 subst hu_
 obtain ⟨p0,F0⟩:=g0.agr u0
 refine Ae rfl<|Aa<|Af<|Ac rfl<|Ac rfl<|RG.ifb (s:=8) rfl h (fun q0 h=>?_) (fun q0 h=>?_)
 refine Al (Ag rfl) ?_
 have G0:d0.length <= 281474976710656:=AY c0
 refine Al (Bh (xs:=d0) underlying41 rfl c0)<|Al (FV.gtrN (i:=d0.length) (j:=0) rfl rfl)<|Bd rfl rfl<|Ac rfl ?_
 obtain ⟨z0,C0,v0,_⟩:=Rep.sl c0
 refine Ab (AL (vs:=[.bool (decide (0 < d0.length)),b0]) (u:=.agg #[.bool (decide (0 < d0.length)),b0]) (e2 rfl rfl) (fun w9=>by rw [v0]; try kernel_rfl))<|AX [.bool (decide (0 < d0.length)),b0] p0 .hd (o2 rfl (By c0)) fun K0 j0 s0=>Aa<|Aq rfl<|Av hb0 func95 rfl (.cons (.many (cs:=[.bool (decide (0 < d0.length)),b0]) rfl rfl (j0.memA .hd)) .nil) rfl ?_
 cases h
 exact ⟨j0.ag,fun w9 hw9=>⟨b0,rfl,j0.kd (Aw c0 s0) hw9⟩⟩
 refine Ah<|Ah<|Ah<|Bb rfl rfl<|Ac rfl ?_
 obtain ⟨A0,D0,x0,_⟩:=Rep.sl c0
 refine Ab (AL (vs:=[.bool false,b0]) (u:=.agg #[.bool false,b0]) (e2 rfl rfl) (fun w9=>by rw [x0]; try kernel_rfl))<|AX [.bool false,b0] p0 .hd (o2 rfl (By c0)) fun M0 k0 t0=>Aa<|Aq rfl<|Av hb0 func95 rfl (.cons (.many (cs:=[.bool false,b0]) rfl rfl (k0.memA .hd)) .nil) rfl ?_
 cases h
 exact ⟨k0.ag,fun w9 hw9=>⟨b0,rfl,k0.kd (Aw c0 t0) hw9⟩⟩
def ar_p (n:Nat) (a0:Int):Option Tc:=
  jn (fun u16=>(ac_p n (decide (a0 < 0)) ([ab (u16 % (4294967296:UInt64)),ab (u16 / (4294967296:UInt64))]:List Int)).bind fun c0=>some c0) (fun b0=>(if a0 < 0 then b0 (-(ae a0)) else b0 (ae a0)))
theorem ar_c (n:Nat) {L w} (hL:hl L w) {a0:Int}  {r:Tc} (h:ar_p n a0 = some r) :
 Cl 75 #[vI a0] w (ah w fun w' u=>∃ v0_1:Value,u = .agg #[.bool r.fe,v0_1]/\Rep.R w' L [v0_1] r.fD):=by
 unfold ar_p at h
 refine AG func75 rfl rfl rfl fun _ cs0 hb0=>Af<|RG.nl [.bool false,vN] (AF w) fun I0 k0 c0 C0=>Aa<|Af<|Ac rfl<|Ab (FV.lss (i:=a0) (j:=0) rfl rfl)<|Ae rfl<|Aa<|Af<|Ac rfl<|Ab (FV.convU (i:=a0) underlying3 underlying26 rfl)<|Ae rfl<|Aa<|Aj<|Af<|Ac rfl<|Aa<|MX.jo (α:=UInt64) (fun u16=>[(2,vP k0),(3,.bool (decide (a0 < 0))),(4,vU u16)]) (fun u16=>[.cells k0 [.bool false,vN] 121]) (fun u16=>u16) c0 h ?_ ?_
 rintro u16 P0 v0 D0 h
 try dsimp only at h
 refine Af<|Ac rfl<|Ac rfl<|Ab (FV.remU (a:=u16) (b:=(4294967296:UInt64)) rfl rfl (by decide))<|Ab (FV.convUI (a:=u16 % (4294967296:UInt64)) underlying26 underlying3 rfl)<|Ac rfl<|Ab (FV.quoU (a:=u16) (b:=(4294967296:UInt64)) rfl rfl (by decide))<|Ab (FV.convUI (a:=u16 / (4294967296:UInt64)) underlying26 underlying3 rfl)<|Au .plain rfl (AO (α:=Int) (xs:=([ab (u16 % (4294967296:UInt64)),ab (u16 / (4294967296:UInt64))]:List Int)) (vs:=[vI (ab (u16 % (4294967296:UInt64))),vI (ab (u16 / (4294967296:UInt64)))]) (ds' :=[vI (ab (u16 % (4294967296:UInt64))),vI (ab (u16 / (4294967296:UInt64)))]) rfl v0 aq rfl (e2 rfl rfl) (by kernel_rfl) rfl) fun J0 t0 b0 E0=>?_
 have d0:=Bt b0 .hd
 have F0:=Bu b0 .hd
 refine bk h fun s0 A0 h=>jE (bd 95) rfl (e2 rfl rfl) (fun w9 hw9=>ac_c n (d0.hL hL hw9) (Ax (Bv (α:=Int) (v:=(vS t0 2)) (xs:=([ab (u16 % (4294967296:UInt64)),ab (u16 / (4294967296:UInt64))]:List Int)) d0 L (Bf (α:=Int) b0 .hd (AE (cs:=[vI (ab (u16 % (4294967296:UInt64))),vI (ab (u16 / (4294967296:UInt64)))]) (xs:=(([ab (u16 % (4294967296:UInt64)),ab (u16 / (4294967296:UInt64))]:List Int):List Int)) b0 L (Ay (cs:=[vI (ab (u16 % (4294967296:UInt64)))]) (ds:=[vI (ab (u16 / (4294967296:UInt64)))]) rfl (Ay (cs:=[vI (ab (u16 / (4294967296:UInt64)))]) (ds:=[]) rfl (AJ _ _)))) hL)) hw9) A0) rfl fun K0 H0 z0 ⟨j0,hu_,q0⟩=>?_
 subst hu_
 obtain ⟨x0,G0⟩:=d0.agr z0
 refine AX [.bool s0.fe,j0] x0 .hd (o2 rfl (By q0)) fun M0 g0 y0=>Aa<|Aq rfl<|Av hb0 func75 rfl (.cons (.many (cs:=[.bool s0.fe,j0]) rfl rfl (g0.memA .hd)) .nil) rfl ?_
 cases h
 exact ⟨g0.ag,fun w9 hw9=>⟨j0,rfl,g0.kd (Aw q0 y0) hw9⟩⟩
 intro B0 p0 h
 try dsimp only at h
 refine AN rfl h (fun u0 h=>?_) (fun u0 h=>?_)
 refine Ak<|Ac rfl<|Ab (FV.negU (a:=ae a0) rfl)<|Ae rfl<|Aa<|p0 (-(ae a0)) c0 (Bs _ _) h
 refine Ao<|p0 (ae a0) c0 (Bs _ _) h
def aW_l1 (_n:Nat) (a0:List Int) (j0:Int × Nat × (List Int) -> Option ((List Int) × Int)):Int × Nat × (List Int) -> Option ((List Int) × Int)
  | (g0,b0,d0)=>(if b0 < a0.length then (a0[b0]?).bind fun s0=>(chk (2 * s0)).bind fun k0=>(chk (k0 + g0)).bind fun c0=>(bz c0 4294967296).bind fun p0=>(app d0 ([p0]:List Int)).bind fun t0=>(dq c0 4294967296).bind fun q0=>j0 (q0,b0 + 1,t0) else some (d0,g0))
def aW_p (n:Nat) (a0:List Int) (a1:Int):Option (List Int):=
  Option.bind (ac (aW_l1 n a0) n (a1,0,([]:List Int))) (fun (c0,g0)=>(app c0 ([g0]:List Int)).bind fun b0=>(aq_p n b0).bind fun d0=>some d0)
theorem aW_c (n:Nat) {L w} (hL:hl L w) {a0:List Int} {v0_0:Value} (h0_0:Rep.R w L [v0_0] a0) {a1:Int}  {r:List Int} (h:aW_p n a0 a1 = some r) :
 Cl 105 #[v0_0,vI a1] w (ah w fun w' u=>∃ v0_0:Value,u = v0_0/\Rep.R w' L [v0_0] r):=by
 unfold aW_p at h
 have hS0:=AF w
 refine AG func105 rfl rfl rfl fun _ cs0 hb0=>Af<|Ae rfl<|Aa<|Af<|Ae rfl<|Aa<|Aj<|Af<|Ae rfl<|Aa<|Ar ?_
 have x0:=hS0.nilRow 3 (Rep.size Int)
 have P1:=St.nilRowT hS0 3 (Rep.size Int)
 obtain ⟨W1,c1,Y0⟩:=ai h
 refine MX.lf (α:=Int × Nat × (List Int) × Value × (List Value)) (fun ⟨b0,c0,d0,k0,g0⟩=>[(0,v0_0),(1,vI b0),(5,k0),(6,vI ((c0:Nat):Int))]) (fun ⟨b0,c0,d0,k0,g0⟩=>[rr w 3 Int k0 d0.length g0]) (fun ⟨b0,c0,d0,k0,g0⟩ D0=>Cells D0 (bl [rr w 3 Int k0 d0.length g0] ++ L) g0 d0) (fun ⟨b0,c0,d0,k0,g0⟩=>(b0,c0,d0)) (a1,0,([]:List Int),vN,[]) c1 x0 (AE (cs:=[]) (xs:=([]:List Int)) x0 L (AJ _ _)) ?_
 rintro H1 ⟨b0,c0,d0,k0,g0⟩ D0 I0 u0 Q0 B0 h
 unfold aW_l1 at h
 try dsimp only at h
 refine Aj<|Af<|Ac rfl<|Ac rfl ?_
 have v0:=Be h0_0 u0
 have V1:a0.length <= 281474976710656:=AY v0
 refine Ab (Bh (xs:=a0) underlying41 rfl v0)<|Ab (Bq (i:=c0) (j:=a0.length) rfl rfl)<|Aa<|AN rfl h (fun F0 h=>?_) (fun F0 h=>?_)
 refine Ao<|Aj<|Ar<|Af<|Ac rfl<|Ac rfl<|bk h fun E0 u1 h=>?_
 obtain ⟨G1,K1,W0,Z0,G0,g1,b1⟩:=Bm v0 u1
 have X0:G0 = [vI E0]:=g1; subst X0
 refine Ab (Bk 1 c0 rfl W0 rfl rfl Z0)<|AA rfl (b1 0 _ rfl)<|bk h fun z1 k1 h=>Ab (FV.mulc (i:=2) (j:=E0) rfl rfl k1)<|Ac rfl<|bk h fun C0 p1 h=>Ab (Bp (i:=z1) (j:=b0) rfl rfl p1)<|Ae rfl<|Aa<|Af<|Ac rfl<|Ac rfl<|bk h fun j0 q1 h=>Ab (FV.remc (i:=C0) (j:=4294967296) rfl rfl q1)<|Au .plain rfl (jA j0 (vI j0) u0 aq (e1 rfl)) fun Y1 I1 p0 z0=>bk h fun E1 v1 h=>Bz .plain rfl (Bw (α:=Int) (ys:=([j0]:List Int)) v1 p0 (fun _ _=>.t1) aq rfl rfl (Az B0 z0) (Src.row (α:=Int) p0 .hd (jC j0 (vI j0) p0 L rfl))) fun B1 Z1 ⟨H0,J0,M0,U0⟩=>Ae rfl<|Aa<|Ak<|Ac rfl<|bk h fun A1 s1 h=>Ab (FV.quoc (i:=C0) (j:=4294967296) rfl rfl s1)<|Ae rfl<|Aa<|Ap<|Ak<|Ac rfl<|Ab (AW (i:=c0) (j:=1) rfl rfl (by omega))<|Ae rfl<|Aa ?_
 obtain ⟨K0,A0⟩:=AH J0 .d1
 exact I0 (A1,c0 + 1,E1,B1,H0) K0 (Tt Q0 (Tt z0 (Tt M0 A0))) (Az U0 A0) h
 refine AV rfl ?_
 have h:=Y0 _ h
 try dsimp only at h
 refine Af<|Ac rfl<|Ac rfl<|Au .plain rfl (jA b0 (vI b0) u0 aq (e1 rfl)) fun b2 J1 q0 P0=>bk h fun F1 x1 h=>Bz .plain rfl (Bw (α:=Int) (ys:=([b0]:List Int)) x1 q0 (fun _ _=>.t1) aq rfl rfl (Az B0 P0) (Src.row (α:=Int) q0 .hd (jC b0 (vI b0) q0 L rfl))) fun C1 c2 ⟨M1,s0,Q1,V0⟩=>?_
 have t0:=Bt s0 .t1
 have R1:=Bu s0 .t1
 refine bk h fun g2 y1 h=>jE (bd 108) rfl (e1 rfl) (fun w9 hw9=>aq_c n (t0.hL hL hw9) (Ax (Bv (α:=Int) (v:=C1) (xs:=F1) t0 L (Bf (α:=Int) s0 .t1 V0 hL)) hw9) y1) rfl fun d2 D1 R0 ⟨X1,hu_,j1⟩=>?_
 subst hu_
 obtain ⟨y0,U1⟩:=t0.agr R0
 refine Ae rfl<|Aa<|Aq rfl<|AQ hb0 func105 rfl rfl ?_
 cases h
 exact ⟨y0.ag,fun w9 hw9=>⟨D1,rfl,y0.kd j1 hw9⟩⟩
def ax_l1 (_n:Nat) (a0:List Int) (a1:List Int) (g0:Int -> Option (Int ⊕ Unit)):Int -> Option (Int ⊕ Unit)
  | b0=>(if 0 <= b0 then (idx a0 b0).bind fun c0=>(idx a1 b0).bind fun d0=>(if c0 = d0 then (chk (b0 - 1)).bind fun j0=>g0 j0 else (chk (c0 - d0)).bind fun k0=>some (.inl k0)) else some (.inr ()))
def ax_p (n:Nat) (a0:List Int) (a1:List Int):Option Int:=
  (if a0.length = a1.length then thn (ac (ax_l1 n a0 a1) n (((a0.length:Nat):Int) - 1)) (fun _=>some (0:Int)) else some (((a0.length:Nat):Int) - ((a1.length:Nat):Int)))
theorem ax_c (n:Nat) {L w} (_hL:hl L w) {a0:List Int} {v0_0:Value} (h0_0:Rep.R w L [v0_0] a0) {a1:List Int} {v1_0:Value} (h1_0:Rep.R w L [v1_0] a1)  {r:Int} (h:ax_p n a0 a1 = some r) :
 Cl 106 #[v0_0,v1_0] w (ah w fun _ u=>u = vI r):=by
 unfold ax_p at h
 have hS0:=AF w
 refine AG func106 rfl rfl rfl fun _ cs0 hb0=>Af<|Ae rfl<|Aa<|Aj<|Af<|Ac rfl ?_
 have hl1:a0.length <= 281474976710656:=AY h0_0
 refine Ab (Bh (xs:=a0) underlying41 rfl h0_0)<|Ac rfl ?_
 have hl2:a1.length <= 281474976710656:=AY h1_0
 refine Ab (Bh (xs:=a1) underlying41 rfl h1_0)<|Ab (FV.neqN (i:=a0.length) (j:=a1.length) rfl rfl)<|Aa<|MX.ifn rfl h (fun c3 h=>?_) (fun c3 h=>?_)
 refine Ao<|Aj<|Af<|Ac rfl<|Ab (Bh (xs:=a0) underlying41 rfl h0_0)<|Ab (FV.subI (i:=((a0.length:Nat):Int)) (j:=1) rfl rfl (by omega))<|Ae rfl<|Aa<|Ar<|tn h fun j1 K0 u0=>MX.lo (α:=Int) (fun c0=>[(0,v0_0),(1,v1_0),(5,vI c0)]) (fun c0=>[]) (fun c0=>c0) (((a0.length:Nat):Int) - 1) K0 hS0 ?_
 rintro c1 c0 p1 G0 k0 H0 h
 unfold ax_l1 at h
 try dsimp only at h
 refine Aj<|Af<|Ac rfl<|Ab (FV.geq (i:=c0) (j:=0) rfl rfl)<|Aa<|AN rfl h (fun C0 h=>?_) (fun C0 h=>?_)
 refine Ao<|Aj<|Ar<|Aj<|du 9 fun g0 j0=>Rv 0 g0 rfl j0 (fun _=>Ag rfl)<|Rv 1 g0 rfl j0 (fun _=>Ag rfl)<|bk h fun p0 U0 h=>?_
 obtain ⟨v0,V0⟩:=au U0
 obtain ⟨Z0,d1,s0,y0,E0,M0,A0⟩:=Bm (Be h0_0 k0) V0
 have I0:E0 = [vI p0]:=M0; subst I0
 refine Rv 2 g0 rfl j0 (fun _=>Bk 1 (c0.toNat) rfl s0 rfl v0 y0)<|Rx 3 256 g0 rfl j0 (AM rfl (A0 0 _ rfl))<|Rv 4 g0 rfl j0 (fun _=>Ag rfl)<|Rv 5 g0 rfl j0 (fun _=>Ag rfl)<|bk h fun q0 W0 h=>?_
 obtain ⟨x0,X0⟩:=au W0
 obtain ⟨b1,g1,t0,z0,F0,P0,B0⟩:=Bm (Be h1_0 k0) X0
 have J0:F0 = [vI q0]:=P0; subst J0
 refine Rv 6 g0 rfl j0 (fun _=>Bk 1 (c0.toNat) rfl t0 rfl x0 z0)<|Rx 7 256 g0 rfl j0 (AM rfl (B0 0 _ rfl))<|Rv 8 g0 rfl j0 (fun _=>FV.neq (i:=p0) (j:=q0) rfl rfl)<|AZ (dk g0)<|MX.ifn rfl h (fun D0 h=>?_) (fun D0 h=>?_)
 refine Ao<|Ap<|Ak<|Ac rfl<|bk h fun Y0 Q0 h=>Ab (FV.subc (i:=c0) (j:=1) rfl rfl Q0)<|Ae rfl<|Aa<|G0 Y0 k0 H0 h
 refine Aj<|du 10 fun b0 d0=>Rv 0 b0 rfl d0 (fun _=>Ag rfl)<|Rv 1 b0 rfl d0 (fun _=>Ag rfl)<|Rv 2 b0 rfl d0 (fun _=>Bk 1 (c0.toNat) rfl s0 rfl v0 y0)<|Rx 3 768 b0 rfl d0 (AM rfl (A0 0 _ rfl))<|Rv 4 b0 rfl d0 (fun _=>Ag rfl)<|Rv 5 b0 rfl d0 (fun _=>Ag rfl)<|Rv 6 b0 rfl d0 (fun _=>Bk 1 (c0.toNat) rfl t0 rfl x0 z0)<|Rx 7 768 b0 rfl d0 (AM rfl (B0 0 _ rfl))<|bk h fun k1 R0 h=>Rv 8 b0 rfl d0 (fun _=>FV.subc (i:=p0) (j:=q0) rfl rfl R0)<|Rv 9 b0 rfl d0 (fun _=>Ba rfl)<|AZ (dk b0) ?_
 have h:=ao h u0
 refine Aq rfl<|AQ hb0 func106 rfl rfl ?_
 cases h
 exact k0.gv
 refine AV rfl ?_
 have h:=aI h u0
 try dsimp only at h
 refine Af<|Ae rfl<|Aa<|Aq rfl<|AQ hb0 func106 rfl rfl ?_
 cases h
 exact k0.gv
 refine Af<|Ac rfl<|Ab (Bh (xs:=a0) underlying41 rfl h0_0)<|Ac rfl<|Ab (Bh (xs:=a1) underlying41 rfl h1_0)<|Ab (FV.subI (i:=((a0.length:Nat):Int)) (j:=((a1.length:Nat):Int)) rfl rfl (by omega))<|Ae rfl<|Aa<|Aq rfl<|AQ hb0 func106 rfl rfl ?_
 cases h
 exact hS0.gv
def au_l1 (_n:Nat) (a0:List Int) (a1:List Int) (p0:Nat × Nat × (List Int) -> Option (List Int)):Nat × Nat × (List Int) -> Option (List Int)
  | (q0,b0,k0)=>(if b0 < a0.length then (a0[b0]?).bind fun v0=>(chk (v0 - ((q0:Nat):Int))).bind fun j0=>jn (fun c0=>jn (fun (s0,z0)=>(app k0 ([z0]:List Int)).bind fun y0=>p0 (s0,b0 + 1,y0)) (fun g0=>(if c0 < 0 then (chk (c0 + 4294967296)).bind fun t0=>g0 (1,t0) else g0 (0,c0)))) (fun d0=>(if b0 < a1.length then (a1[b0]?).bind fun x0=>(chk (j0 - x0)).bind fun u0=>d0 u0 else d0 j0)) else some k0)
def au_p (n:Nat) (a0:List Int) (a1:List Int):Option (List Int):=
  Option.bind (ac (au_l1 n a0 a1) n (0,0,([]:List Int))) (fun b0=>(aq_p n b0).bind fun c0=>some c0)
theorem au_c (n:Nat) {L w} (hL:hl L w) {a0:List Int} {v0_0:Value} (h0_0:Rep.R w L [v0_0] a0) {a1:List Int} {v1_0:Value} (h1_0:Rep.R w L [v1_0] a1)  {r:List Int} (h:au_p n a0 a1 = some r) :
 Cl 107 #[v0_0,v1_0] w (ah w fun w' u=>∃ v0_0:Value,u = v0_0/\Rep.R w' L [v0_0] r):=by
 unfold au_p at h
 have hS0:=AF w
 refine AG func107 rfl rfl rfl fun _ cs0 hb0=>Af<|Ae rfl<|Aa<|Af<|Ae rfl<|Aa<|Af<|Ae rfl<|Aa<|Aj<|Af<|Ae rfl<|Aa<|Ar ?_
 have B0:=hS0.nilRow 3 (Rep.size Int)
 have k2:=St.nilRowT hS0 3 (Rep.size Int)
 obtain ⟨u2,C1,x1⟩:=ai h
 refine MX.lf (α:=Nat × Nat × (List Int) × Value × (List Value)) (fun ⟨p0,b0,g0,c0,j0⟩=>[(0,v0_0),(1,v1_0),(5,c0),(6,vI ((p0:Nat):Int)),(7,vI ((b0:Nat):Int))]) (fun ⟨p0,b0,g0,c0,j0⟩=>[rr w 3 Int c0 g0.length j0]) (fun ⟨p0,b0,g0,c0,j0⟩ H0=>Cells H0 (bl [rr w 3 Int c0 g0.length j0] ++ L) j0 g0) (fun ⟨p0,b0,g0,c0,j0⟩=>(p0,b0,g0)) (0,0,([]:List Int),vN,[]) C1 B0 (AE (cs:=[]) (xs:=([]:List Int)) B0 L (AJ _ _)) ?_
 rintro Z1 ⟨p0,b0,g0,c0,j0⟩ H0 V0 k0 Z0 E0 h
 unfold au_l1 at h
 try dsimp only at h
 refine Aj<|Af<|Ac rfl<|Ac rfl ?_
 have x0:=Be h0_0 k0
 have s2:a0.length <= 281474976710656:=AY x0
 refine Ab (Bh (xs:=a0) underlying41 rfl x0)<|Ab (Bq (i:=b0) (j:=a0.length) rfl rfl)<|Aa<|AN rfl h (fun K0 h=>?_) (fun K0 h=>?_)
 refine Ao<|Aj<|Ar<|Af<|Ac rfl<|Ac rfl<|bk h fun I0 J1 h=>?_
 obtain ⟨X1,g2,q1,y1,Q0,D1,A1⟩:=Bm x0 J1
 have s1:Q0 = [vI I0]:=D1; subst s1
 refine Ab (Bk 1 b0 rfl q1 rfl rfl y1)<|AA rfl (A1 0 _ rfl)<|Ac rfl<|bk h fun G0 G1 h=>Ab (FV.subc (i:=I0) (j:=((p0:Nat):Int)) rfl rfl G1)<|Ae rfl<|Aa<|Aj<|Af<|Ac rfl<|Ac rfl ?_
 have y0:=Be h1_0 k0
 have t2:a1.length <= 281474976710656:=AY y0
 refine Ab (Bh (xs:=a1) underlying41 rfl y0)<|Ab (Bq (i:=b0) (j:=a1.length) rfl rfl)<|Aa<|MX.jo (α:=Int) (fun q0=>[(0,v0_0),(1,v1_0),(5,c0),(6,vI ((p0:Nat):Int)),(7,vI ((b0:Nat):Int)),(8,vI q0)]) (fun q0=>[rr w 3 Int c0 g0.length j0]) (fun q0=>q0) k0 h ?_ ?_
 rintro q0 A2 t0 b1 h
 try dsimp only at h
 refine Af<|Ae rfl<|Aa<|Aj<|Af<|Ac rfl<|Ab (FV.lss (i:=q0) (j:=0) rfl rfl)<|Aa<|MX.jo (α:=Nat × Int) (fun ⟨s0,d0⟩=>[(0,v0_0),(1,v1_0),(5,c0),(6,vI ((s0:Nat):Int)),(7,vI ((b0:Nat):Int)),(8,vI d0)]) (fun ⟨s0,d0⟩=>[rr w 3 Int c0 g0.length j0]) (fun ⟨s0,d0⟩=>(s0,d0)) t0 h ?_ ?_
 rintro ⟨s0,d0⟩ B2 W0 c1 h
 try dsimp only at h
 refine Ak<|Ac rfl<|Ac rfl<|Au .plain rfl (jA d0 (vI d0) W0 aq (e1 rfl)) fun x2 d2 u0 g1=>bk h fun W1 M1 h=>?_
 have F0:=Tt b1 (Tt c1 g1)
 refine Bz .plain rfl (Bw (α:=Int) (ys:=([d0]:List Int)) M1 u0 (fun _ _=>.t1) aq rfl rfl (Az E0 F0) (Src.row (α:=Int) u0 .hd (jC d0 (vI d0) u0 L rfl))) fun U1 y2 ⟨R0,X0,j1,p1⟩=>Ae rfl<|Aa<|Ap<|Ak<|Ac rfl<|Ab (AW (i:=b0) (j:=1) rfl rfl (by omega))<|Ae rfl<|Aa ?_
 obtain ⟨Y0,D0⟩:=AH X0 .d1
 exact V0 (s0,b0 + 1,W1,U1,R0) Y0 (Tt Z0 (Tt F0 (Tt j1 D0))) (Az p1 D0) h
 intro c2 A0 h
 try dsimp only at h
 refine AN rfl h (fun M0 h=>?_) (fun M0 h=>?_)
 refine Af<|Ac rfl<|bk h fun Q1 H1 h=>Ab (Bp (i:=q0) (j:=4294967296) rfl rfl H1)<|Ae rfl<|Aa<|Ak<|Ae rfl<|Aa<|A0 (1,Q1) t0 (Bs _ _) h
 refine Ao<|A0 (0,q0) t0 (Bs _ _) h
 intro b2 z0 h
 try dsimp only at h
 refine AN rfl h (fun P0 h=>?_) (fun P0 h=>?_)
 refine Ak<|Ac rfl<|Ac rfl<|Ac rfl<|bk h fun J0 K1 h=>?_
 obtain ⟨Y1,j2,u1,z1,U0,E1,B1⟩:=Bm y0 K1
 have v1:U0 = [vI J0]:=E1; subst v1
 refine Ab (Bk 1 b0 rfl u1 rfl rfl z1)<|AA rfl (B1 0 _ rfl)<|bk h fun R1 I1 h=>Ab (FV.subc (i:=G0) (j:=J0) rfl rfl I1)<|Ae rfl<|Aa<|z0 R1 k0 (Bs _ _) h
 refine Ao<|z0 G0 k0 (Bs _ _) h
 refine AV rfl ?_
 have h:=x1 _ h
 try dsimp only at h
 refine Af<|Ac rfl ?_
 have v0:=Bt k0 .hd
 have p2:=Bu k0 .hd
 refine bk h fun C2 P1 h=>jE (bd 108) rfl (e1 rfl) (fun w9 hw9=>aq_c n (v0.hL hL hw9) (Ax (Bv (α:=Int) (v:=c0) (xs:=g0) v0 L (Bf (α:=Int) k0 .hd E0 hL)) hw9) P1) rfl fun z2 V1 k1 ⟨v2,hu_,F1⟩=>?_
 subst hu_
 obtain ⟨C0,q2⟩:=v0.agr k1
 refine Ae rfl<|Aa<|Aq rfl<|AQ hb0 func107 rfl rfl ?_
 cases h
 exact ⟨C0.ag,fun w9 hw9=>⟨V1,rfl,C0.kd F1 hw9⟩⟩
def aI_l1 (n:Nat) (a0:List Int) (g0:Int) (a1:List Int) (p0:(List Int) × Int × (List Int) -> Option ((List Int) × (List Int))):(List Int) × Int × (List Int) -> Option ((List Int) × (List Int))
  | (k0,c0,b0)=>(if 0 <= c0 then (idx a0 g0).bind fun x0=>(aL c0).bind fun q0=>(bz (shrS x0 q0) 2).bind fun t0=>(aW_p n k0 t0).bind fun d0=>(ax_p n d0 a1).bind fun C0=>jn (fun (z0,A0)=>(chk (c0 - 1)).bind fun u0=>p0 (z0,u0,A0)) (fun j0=>(if 0 <= C0 then (au_p n d0 a1).bind fun D0=>(idx b0 g0).bind fun y0=>(aL c0).bind fun s0=>(chk (y0 + (shlS 1 s0))).bind fun v0=>(put b0 ((g0.toNat:Nat):Int) v0).bind fun B0=>j0 (D0,B0) else j0 (d0,b0))) else some (k0,b0))
def aI_l2 (n:Nat) (a0:List Int) (a1:List Int) (g0:(List Int) × Int × (List Int) -> Option ((List Int) × (List Int))):(List Int) × Int × (List Int) -> Option ((List Int) × (List Int))
  | (c0,b0,d0)=>(if 0 <= b0 then Option.bind (ac (aI_l1 n a0 b0 a1) n (c0,31,d0)) (fun (k0,p0)=>(chk (b0 - 1)).bind fun j0=>g0 (k0,j0,p0)) else some (d0,c0))
def aI_p (n:Nat) (a0:List Int) (a1:List Int):Option ((List Int) × (List Int)):=
  (if ((a0.length:Nat):Int) <= (((a1.length:Nat):Int) - 1) then (app ([]:List Int) a0).bind fun g0=>some (([]:List Int),g0) else (mk (((a0.length:Nat):Int) - (((a1.length:Nat):Int) - 1)) (0:Int)).bind fun b0=>(cut a0 (((a0.length:Nat):Int) - (((a1.length:Nat):Int) - 1)) (a0.length:Int)).bind fun j0=>(app ([]:List Int) j0).bind fun k0=>Option.bind (ac (aI_l2 n a0 a1) n (k0,((b0.length:Nat):Int) - 1,b0)) (fun (d0,c0)=>(aq_p n d0).bind fun p0=>some (p0,c0)))
theorem aI_c (n:Nat) {L w} (hL:hl L w) {a0:List Int} {v0_0:Value} (h0_0:Rep.R w L [v0_0] a0) {a1:List Int} {v1_0:Value} (h1_0:Rep.R w L [v1_0] a1)  {r:(List Int) × (List Int)} (h:aI_p n a0 a1 = some r) :
 Cl 94 #[v0_0,v1_0] w (ah w fun w' u=>∃ v0_0 v1_0:Value,u = .tuple #[v0_0,v1_0]/\Rep.R w' L [v0_0] r.1/\Rep.R w' L [v1_0] r.2):=by
 unfold aI_p at h
 have hS0:=AF w
 refine AG func94 rfl rfl rfl fun _ cs0 hb0=>Af<|Ae rfl<|Ae rfl<|Aa<|Af<|Ac rfl ?_
 have hl1:a1.length <= 281474976710656:=AY h1_0
 refine Ab (Bh (xs:=a1) underlying41 rfl h1_0)<|Ab (FV.subI (i:=((a1.length:Nat):Int)) (j:=1) rfl rfl (by omega))<|Ae rfl<|Aa<|Aj<|Af<|Ac rfl ?_
 have hl2:a0.length <= 281474976710656:=AY h0_0
 refine Ab (Bh (xs:=a0) underlying41 rfl h0_0)<|Ac rfl<|Ab (FV.leq (i:=((a0.length:Nat):Int)) (j:=((a1.length:Nat):Int) - 1) rfl rfl)<|Aa<|AN rfl h (fun c3 h=>?_) (fun c3 h=>?_)
 refine Af<|Au .plain rfl (jB Int hS0 aq) fun C4 V3 M0 g4=>Ac rfl<|bk h fun G3 p3 h=>Bz .plain rfl (Bw (α:=Int) (ys:=a0) p3 M0 (fun _ _=>.hd) aq rfl rfl (jD Int M0 L) (Src.rep (Be h0_0 M0))) fun D1 H4 ⟨c4,J0,j4,u2⟩=>Ae rfl<|Ae rfl<|Aa<|Aq rfl ?_
 have s4:=Bo (α:=Int) J0 L
 have E0:=Bt J0 .hd
 have k4:=Bu J0 .hd
 have V2:=Bv (α:=Int) (v:=D1) (xs:=G3) E0 L (Bf (α:=Int) J0 .hd u2 hL)
 refine Av hb0 func94 rfl (.cons (.tmp rfl) (.cons (.tmp rfl) .nil)) rfl ?_
 cases h
 exact ⟨E0.ag,fun w9 hw9=>⟨vN,D1,rfl,E0.kd (Bo (α:=Int) E0 L) hw9,E0.kd V2 hw9⟩⟩
 refine Ao<|Af<|Ac rfl<|Ab (Bh (xs:=a0) underlying41 rfl h0_0)<|Ac rfl<|Ab (FV.subI (i:=((a0.length:Nat):Int)) (j:=((a1.length:Nat):Int) - 1) rfl rfl (by omega))<|bk h fun G0 C1 h=>Au .plain rfl (Does.mk (α:=Int) C1 hS0 aq rfl) fun I4 c0 j1 p4=>Ae rfl<|Aa<|Af<|Au .plain rfl (jB Int j1 aq) fun J4 W3 U0 g2=>Ac rfl<|Ac rfl ?_
 have z1:=Be h0_0 U0
 refine Ab (Bh (xs:=a0) underlying41 rfl z1)<|Ac rfl<|Ab (FV.subI (i:=((a0.length:Nat):Int)) (j:=((a1.length:Nat):Int) - 1) rfl rfl (by omega))<|bk h fun I3 s3 h=>RG.valE .plain rfl (FV.cutL (α:=Int) s3 rfl rfl z1 ⟨_,rfl⟩ rfl) fun B4 W2=>bk h fun G1 t3 h=>Bz .plain rfl (Bw (α:=Int) (ys:=I3) t3 U0 (fun _ _=>.hd) aq rfl rfl (jD Int U0 L) (Src.rep W2)) fun E1 K4 ⟨d4,F0,j2,v2⟩=>Ae rfl<|Aa<|Aj<|Af<|Ac rfl ?_
 have q4:G0.length <= 4294967296:=St.rowLe (α:=Int) F0 .t1
 obtain ⟨P3,b4,A2⟩:=St.rowV (α:=Int) F0 .t1
 refine Ab (FV.lenV underlying41 rfl A2)<|Ab (FV.subI (i:=((G0.length:Nat):Int)) (j:=1) rfl rfl (by omega))<|Ae rfl<|Aa<|Ar ?_
 have k1:=Bt F0 .hd
 obtain ⟨t4,J2,B2⟩:=ai h
 refine MX.lf (α:=(List Int) × Int × (List Int) × Value × (List Value)) (fun ⟨B0,b0,g0,y0,u0⟩=>[(0,v0_0),(1,v1_0),(7,(.slice (some ⟨c0,0,none⟩) (((a0.length:Nat):Int) - (((a1.length:Nat):Int) - 1)).toNat (((a0.length:Nat):Int) - (((a1.length:Nat):Int) - 1)).toNat)),(8,y0),(9,vI b0)]) (fun ⟨B0,b0,g0,y0,u0⟩=>[rr w 3 Int (.slice (some ⟨c0,0,none⟩) (((a0.length:Nat):Int) - (((a1.length:Nat):Int) - 1)).toNat (((a0.length:Nat):Int) - (((a1.length:Nat):Int) - 1)).toNat) g0.length u0]) (fun ⟨B0,b0,g0,y0,u0⟩ Z0=>Rep.R Z0 (bl [rr w 3 Int (.slice (some ⟨c0,0,none⟩) (((a0.length:Nat):Int) - (((a1.length:Nat):Int) - 1)).toNat (((a0.length:Nat):Int) - (((a1.length:Nat):Int) - 1)).toNat) g0.length u0] ++ L) [y0] B0/\Cells Z0 (bl [rr w 3 Int (.slice (some ⟨c0,0,none⟩) (((a0.length:Nat):Int) - (((a1.length:Nat):Int) - 1)).toNat (((a0.length:Nat):Int) - (((a1.length:Nat):Int) - 1)).toNat) g0.length u0] ++ L) u0 g0) (fun ⟨B0,b0,g0,y0,u0⟩=>(B0,b0,g0)) (G1,((G0.length:Nat):Int) - 1,G0,E1,(List.replicate (((a0.length:Nat):Int) - (((a1.length:Nat):Int) - 1)).toNat [vI 0]).flatten) J2 k1 ⟨(Bv (α:=Int) (v:=E1) (xs:=G1) k1 L (Bf (α:=Int) F0 .hd v2 hL)),(Az (AE (cs:=(List.replicate (((a0.length:Nat):Int) - (((a1.length:Nat):Int) - 1)).toNat [vI 0]).flatten) (xs:=G0) j1 L (Cells.mk C1 rfl)) (Tt g2 (Tt j2 (Bu F0 .hd))))⟩ ?_
 rintro Q3 ⟨B0,b0,g0,y0,u0⟩ Z0 V1 H0 Z1 ⟨A1,u1⟩ h
 unfold aI_l2 at h
 try dsimp only at h
 refine Aj<|Af<|Ac rfl<|Ab (FV.geq (i:=b0) (j:=0) rfl rfl)<|Aa<|AN rfl h (fun K1 h=>?_) (fun K1 h=>?_)
 refine Ao<|Aj<|Ar<|Af<|Ae rfl<|Aa<|Ar ?_
 obtain ⟨u4,K2,C2⟩:=ai h
 refine MX.lf (α:=(List Int) × Int × (List Int) × Value × (List Value)) (fun ⟨C0,p0,j0,z0,q0⟩=>[(0,v0_0),(1,v1_0),(7,(.slice (some ⟨c0,0,none⟩) (((a0.length:Nat):Int) - (((a1.length:Nat):Int) - 1)).toNat (((a0.length:Nat):Int) - (((a1.length:Nat):Int) - 1)).toNat)),(8,z0),(9,vI b0),(10,vI p0)]) (fun ⟨C0,p0,j0,z0,q0⟩=>[rr w 3 Int (.slice (some ⟨c0,0,none⟩) (((a0.length:Nat):Int) - (((a1.length:Nat):Int) - 1)).toNat (((a0.length:Nat):Int) - (((a1.length:Nat):Int) - 1)).toNat) j0.length q0]) (fun ⟨C0,p0,j0,z0,q0⟩ b1=>Rep.R b1 (bl [rr w 3 Int (.slice (some ⟨c0,0,none⟩) (((a0.length:Nat):Int) - (((a1.length:Nat):Int) - 1)).toNat (((a0.length:Nat):Int) - (((a1.length:Nat):Int) - 1)).toNat) j0.length q0] ++ L) [z0] C0/\Cells b1 (bl [rr w 3 Int (.slice (some ⟨c0,0,none⟩) (((a0.length:Nat):Int) - (((a1.length:Nat):Int) - 1)).toNat (((a0.length:Nat):Int) - (((a1.length:Nat):Int) - 1)).toNat) j0.length q0] ++ L) q0 j0) (fun ⟨C0,p0,j0,z0,q0⟩=>(C0,p0,j0)) (B0,31,g0,y0,u0) K2 H0 ⟨A1,u1⟩ ?_
 rintro R3 ⟨C0,p0,j0,z0,q0⟩ b1 W1 I0 p1 ⟨B1,W0⟩ h
 unfold aI_l1 at h
 try dsimp only at h
 refine Aj<|Af<|Ac rfl<|Ab (FV.geq (i:=p0) (j:=0) rfl rfl)<|Aa<|AN rfl h (fun M1 h=>?_) (fun M1 h=>?_)
 refine Ao<|Aj<|Ar<|Af<|Ac rfl<|Ac rfl<|Ac rfl<|bk h fun d1 d3 h=>?_
 obtain ⟨D2,g3⟩:=au d3
 obtain ⟨M3,X3,x2,E2,Q1,M2,H2⟩:=Bm (Be h0_0 I0) g3
 have y2:Q1 = [vI d1]:=M2; subst y2
 refine Ab (Bk 1 (b0.toNat) rfl x2 rfl D2 E2)<|AA rfl (H2 0 _ rfl)<|Ac rfl<|bk h fun z3 F2 h=>Ab (FV.shrSI (i:=d1) (q:=p0) rfl rfl F2)<|bk h fun v4 X2 h=>Ab (FV.remc (i:=shrS d1 z3) (j:=2) rfl rfl X2)<|bk h fun J3 u3 h=>jE (bd 105) rfl (e2 rfl rfl) (fun w9 hw9=>aW_c n (I0.hL hL hw9) (Ax B1 hw9) u3) rfl fun D4 D3 k2 ⟨y4,hu_,Y0⟩=>?_
 subst hu_
 obtain ⟨x0,V0⟩:=I0.agr k2
 refine Ae rfl<|Aa<|Af<|Ac rfl<|Ac rfl<|bk h fun H1 v3 h=>BA (vI H1) (bd 106) rfl (e2 rfl rfl) (fun w9 hw9=>ax_c n (x0.hL0 hL hw9) (x0.kd Y0 hw9) (x0.k0 h1_0 hw9) v3) rfl<|Ab (FV.geq (i:=H1) (j:=0) rfl rfl)<|Aa<|MX.jf (α:=(List Int) × (List Int) × Value × (List Value)) (fun ⟨D0,t0,A0,v0⟩=>[(0,v0_0),(1,v1_0),(7,(.slice (some ⟨c0,0,none⟩) (((a0.length:Nat):Int) - (((a1.length:Nat):Int) - 1)).toNat (((a0.length:Nat):Int) - (((a1.length:Nat):Int) - 1)).toNat)),(8,A0),(9,vI b0),(10,vI p0)]) (fun ⟨D0,t0,A0,v0⟩=>[rr w 3 Int (.slice (some ⟨c0,0,none⟩) (((a0.length:Nat):Int) - (((a1.length:Nat):Int) - 1)).toNat (((a0.length:Nat):Int) - (((a1.length:Nat):Int) - 1)).toNat) t0.length v0]) (fun ⟨D0,t0,A0,v0⟩ c1=>Rep.R c1 (bl [rr w 3 Int (.slice (some ⟨c0,0,none⟩) (((a0.length:Nat):Int) - (((a1.length:Nat):Int) - 1)).toNat (((a0.length:Nat):Int) - (((a1.length:Nat):Int) - 1)).toNat) t0.length v0] ++ L) [A0] D0/\Cells c1 (bl [rr w 3 Int (.slice (some ⟨c0,0,none⟩) (((a0.length:Nat):Int) - (((a1.length:Nat):Int) - 1)).toNat (((a0.length:Nat):Int) - (((a1.length:Nat):Int) - 1)).toNat) t0.length v0] ++ L) v0 t0) (fun ⟨D0,t0,A0,v0⟩=>(D0,t0)) x0 h ?_ ?_
 rintro ⟨D0,t0,A0,v0⟩ c1 X1 b2 ⟨P2,s2⟩ h
 try dsimp only at h
 refine Ap<|Ak<|Ac rfl<|bk h fun B3 Y2 h=>Ab (FV.subc (i:=p0) (j:=1) rfl rfl Y2)<|Ae rfl<|Aa<|W1 (D0,B3,t0,A0,v0) X1 (Tt p1 (Tt V0 b2)) ⟨P2,s2⟩ h
 intro U3 g1 h
 try dsimp only at h
 refine AN rfl h (fun P1 h=>?_) (fun P1 h=>?_)
 refine Af<|Ac rfl<|Ac rfl<|bk h fun K3 x3 h=>jE (bd 107) rfl (e2 rfl rfl) (fun w9 hw9=>au_c n (x0.hL hL hw9) (Ax Y0 hw9) (x0.km h1_0 hw9) x3) rfl fun E4 E3 p2 ⟨z4,hu_,Q2⟩=>?_
 subst hu_
 obtain ⟨P0,q1⟩:=x0.agr p2
 refine Ae rfl<|Aa<|du 10 fun d0 s0=>Rv 0 d0 rfl s0 (fun _=>Ag rfl)<|Rv 1 d0 rfl s0 (fun _=>Ag rfl)<|Rv 2 d0 rfl s0 (fun _=>Ag rfl)<|Rv 3 d0 rfl s0 (fun _=>Ag rfl)<|bk h fun F1 j3 h=>?_
 obtain ⟨x1,k3⟩:=au j3
 have y1:=Az W0 (Tt V0 q1)
 obtain ⟨I1,Y3,K0,X0,R1,R2,I2⟩:=St.nth (α:=Int) P0 .hd y1 k3
 obtain ⟨J1,Z3,v1⟩:=St.nthOwn (α:=Int) P0 .hd X0
 obtain rfl:I1 = ⟨J1,0,none⟩:=by rw [v1] at K0; cases K0; rfl
 have z2:R1 = [vI F1]:=R2; subst z2
 refine Rv 4 d0 rfl s0 (fun _=>Bk 1 (b0.toNat) rfl K0 rfl x1 X0)<|Rx 5 1792 d0 rfl s0 (AM rfl (I2 0 _ rfl))<|Rv 6 d0 rfl s0 (fun _=>Ag rfl)<|bk h fun A3 G2 h=>Rv 7 d0 rfl s0 (fun _=>FV.shlSI (i:=1) (q:=p0) rfl rfl G2)<|bk h fun x4 Z2 h=>Rv 8 d0 rfl s0 (fun _=>Bp (i:=F1) (j:=shlS 1 A3) rfl rfl Z2)<|Rv 9 d0 rfl s0 (fun _=>Bk 1 (b0.toNat) rfl K0 rfl x1 X0)<|bk h fun H3 q3 h=>RD.one (i:=10) (rk d0) (RO.acts (m' :=2047) (sk d0) rfl rfl .plain (Acts.set (α:=Int) (i:=b0.toNat) q3 P0 v1 (fun _=>.hd) y1 rfl rfl rfl rfl rfl rfl) (fun F4 ⟨U1,Y1,s1,t2⟩=>?_))
 refine AZ (dk d0)<|g1 (K3,H3,E3,U1) Y1 (Tt q1 s1) ⟨(Aw Q2 s1),t2⟩ h
 refine Ao<|g1 (J3,j0,D3,q0) x0 (Bs _ _) ⟨Y0,(Az W0 V0)⟩ h
 refine AV rfl ?_
 have h:=C2 _ h
 try dsimp only at h
 refine Ap<|Ak<|Ac rfl<|bk h fun C3 b3 h=>Ab (FV.subc (i:=b0) (j:=1) rfl rfl b3)<|Ae rfl<|Aa<|V1 (C0,C3,j0,z0,q0) I0 (Tt Z1 p1) ⟨B1,W0⟩ h
 refine AV rfl ?_
 have h:=B2 _ h
 try dsimp only at h
 refine Af<|Ac rfl ?_
 have Q0:=Bt H0 .hd
 have c2:=Bu H0 .hd
 refine bk h fun M4 y3 h=>jE (bd 108) rfl (e1 rfl) (fun w9 hw9=>aq_c n (Q0.hL hL hw9) (Ax (Bv (α:=Int) (v:=(.slice (some ⟨c0,0,none⟩) (((a0.length:Nat):Int) - (((a1.length:Nat):Int) - 1)).toNat (((a0.length:Nat):Int) - (((a1.length:Nat):Int) - 1)).toNat)) (xs:=g0) Q0 L (Bf (α:=Int) H0 .hd u1 hL)) hw9) y3) rfl fun G4 F3 q2 ⟨A4,hu_,U2⟩=>?_
 subst hu_
 obtain ⟨R0,d2⟩:=Q0.agr q2
 refine Ac rfl<|Ae rfl<|Ae rfl<|Aa<|Aq rfl<|Av hb0 func94 rfl (.cons (.tmp rfl) (.cons (.tmp rfl) .nil)) rfl ?_
 cases h
 exact ⟨R0.ag,fun w9 hw9=>⟨F3,y0,rfl,R0.kd U2 hw9,R0.kd (Aw A1 (Tt c2 d2)) hw9⟩⟩
def a7_l1 (_n:Nat) (a0:List Int) (a1:List Int) (g0:Int × Int × (List Int) -> Option (List Int)):Int × Int × (List Int) -> Option (List Int)
  | (c0,b0,d0)=>(if b0 < ((a0.length:Nat):Int) then (idx a0 b0).bind fun C0=>(chk (c0 + C0)).bind fun k0=>jn (fun q0=>(bz q0 4294967296).bind fun s0=>(app d0 ([s0]:List Int)).bind fun F0=>(dq q0 4294967296).bind fun t0=>(chk (b0 + 1)).bind fun u0=>g0 (t0,u0,F0)) (fun j0=>(if b0 < ((a1.length:Nat):Int) then (idx a1 b0).bind fun D0=>(chk (k0 + D0)).bind fun v0=>j0 v0 else j0 k0)) else (if b0 < ((a1.length:Nat):Int) then (idx a1 b0).bind fun E0=>(chk (c0 + E0)).bind fun p0=>(bz p0 4294967296).bind fun x0=>(app d0 ([x0]:List Int)).bind fun G0=>(dq p0 4294967296).bind fun y0=>g0 (y0,b0 + 1,G0) else (if 0 < c0 then (bz c0 4294967296).bind fun z0=>(app d0 ([z0]:List Int)).bind fun H0=>(dq c0 4294967296).bind fun A0=>(chk (b0 + 1)).bind fun B0=>g0 (A0,B0,H0) else some d0)))
def a7_p (n:Nat) (a0:List Int) (a1:List Int):Option (List Int):=
  Option.bind (ac (a7_l1 n a0 a1) n (0,0,([]:List Int))) (fun b0=>some b0)
theorem a7_c (n:Nat) {L w} (hL:hl L w) {a0:List Int} {v0_0:Value} (h0_0:Rep.R w L [v0_0] a0) {a1:List Int} {v1_0:Value} (h1_0:Rep.R w L [v1_0] a1)  {r:List Int} (h:a7_p n a0 a1 = some r) :
 Cl 109 #[v0_0,v1_0] w (ah w fun w' u=>∃ v0_0:Value,u = v0_0/\Rep.R w' L [v0_0] r):=by
 unfold a7_p at h
 have hS0:=AF w
 refine AG func109 rfl rfl rfl fun _ cs0 hb0=>Af<|Ae rfl<|Aa<|Af<|Ae rfl<|Aa<|Af<|Ae rfl<|Aa<|Aj<|Af<|Ae rfl<|Aa<|Ar ?_
 have I0:=hS0.nilRow 3 (Rep.size Int)
 have B3:=St.nilRowT hS0 3 (Rep.size Int)
 obtain ⟨G3,j2,U1⟩:=ai h
 refine MX.lf (α:=Int × Int × (List Int) × Value × (List Value)) (fun ⟨g0,b0,j0,d0,k0⟩=>[(0,v0_0),(1,v1_0),(5,d0),(6,vI g0),(7,vI b0)]) (fun ⟨g0,b0,j0,d0,k0⟩=>[rr w 3 Int d0 j0.length k0]) (fun ⟨g0,b0,j0,d0,k0⟩ X0=>Cells X0 (bl [rr w 3 Int d0 j0.length k0] ++ L) k0 j0) (fun ⟨g0,b0,j0,d0,k0⟩=>(g0,b0,j0)) (0,0,([]:List Int),vN,[]) j2 I0 (AE (cs:=[]) (xs:=([]:List Int)) I0 L (AJ _ _)) ?_
 rintro s3 ⟨g0,b0,j0,d0,k0⟩ X0 A0 c0 F0 y0 h
 unfold a7_l1 at h
 try dsimp only at h
 refine Aj<|Af<|Ac rfl<|Ac rfl ?_
 have u0:=Be h0_0 c0
 have D3:a0.length <= 281474976710656:=AY u0
 refine Ab (Bh (xs:=a0) underlying41 rfl u0)<|Ab (FV.lss (i:=b0) (j:=((a0.length:Nat):Int)) rfl rfl)<|Ac rfl<|Bn (s:=12) rfl h (fun x0 h=>?_) (fun x0 h=>?_)
 refine Ah<|Ah<|Ah<|Ah<|Bd rfl rfl<|Ac rfl<|Ah<|Ah<|Bd rfl rfl<|Aa<|AS rfl<|Ao<|Aj<|Ar<|Aj<|Af<|Ac rfl<|Ac rfl<|Ab (Bh (xs:=a0) underlying41 rfl u0)<|Ab (FV.lss (i:=b0) (j:=((a0.length:Nat):Int)) rfl rfl)<|Aa<|MX.cond_kt rfl (decide_eq_true x0)<|Ak<|Ac rfl<|Ac rfl<|Ac rfl<|bk h fun Y0 F2 h=>?_
 obtain ⟨V1,G2⟩:=au F2
 obtain ⟨k3,y3,J1,Y1,j1,k2,c2⟩:=Bm u0 G2
 have K1:j1 = [vI Y0]:=k2; subst K1
 refine Ab (Bk 1 (b0.toNat) rfl J1 rfl V1 Y1)<|AA rfl (c2 0 _ rfl)<|bk h fun V0 t2 h=>Ab (Bp (i:=g0) (j:=Y0) rfl rfl t2)<|Ae rfl<|Aa<|Aj<|Af<|Ac rfl<|Ac rfl ?_
 have G0:=Be h1_0 c0
 have E3:a1.length <= 281474976710656:=AY G0
 refine Ab (Bh (xs:=a1) underlying41 rfl G0)<|Ab (FV.lss (i:=b0) (j:=((a1.length:Nat):Int)) rfl rfl)<|Aa<|MX.jo (α:=Int) (fun t0=>[(0,v0_0),(1,v1_0),(5,d0),(6,vI t0),(7,vI b0)]) (fun t0=>[rr w 3 Int d0 j0.length k0]) (fun t0=>t0) c0 h ?_ ?_
 rintro t0 Q3 v1 J0 h
 try dsimp only at h
 refine Af<|Ac rfl<|Ac rfl<|bk h fun p0 u2 h=>Ab (FV.remc (i:=t0) (j:=4294967296) rfl rfl u2)<|Au .plain rfl (jA p0 (vI p0) v1 aq (e1 rfl)) fun H3 u3 B0 K0=>bk h fun d3 M2 h=>Bz .plain rfl (Bw (α:=Int) (ys:=([p0]:List Int)) M2 B0 (fun _ _=>.t1) aq rfl rfl (Az y0 (Tt J0 K0)) (Src.row (α:=Int) B0 .hd (jC p0 (vI p0) B0 L rfl))) fun Z2 I3 ⟨k1,x1,D1,G1⟩=>Ae rfl<|Aa<|Ak<|Ac rfl<|bk h fun R2 v2 h=>Ab (FV.quoc (i:=t0) (j:=4294967296) rfl rfl v2)<|Ae rfl<|Aa<|Ap<|Ak<|Ac rfl<|bk h fun U2 x2 h=>Ab (Bp (i:=b0) (j:=1) rfl rfl x2)<|Ae rfl<|Aa ?_
 obtain ⟨y1,M0⟩:=AH x1 .d1
 exact A0 (R2,U2,d3,Z2,k1) y1 (Tt F0 (Tt J0 (Tt K0 (Tt D1 M0)))) (Az G1 M0) h
 intro t3 H0 h
 try dsimp only at h
 refine AN rfl h (fun c1 h=>?_) (fun c1 h=>?_)
 refine Ak<|Ac rfl<|Ac rfl<|Ac rfl<|bk h fun Z0 H2 h=>?_
 obtain ⟨W1,I2⟩:=au H2
 obtain ⟨p3,z3,M1,Z1,p1,p2,d2⟩:=Bm G0 I2
 have P1:p1 = [vI Z0]:=p2; subst P1
 refine Ab (Bk 1 (b0.toNat) rfl M1 rfl W1 Z1)<|AA rfl (d2 0 _ rfl)<|bk h fun V2 y2 h=>Ab (Bp (i:=V0) (j:=Z0) rfl rfl y2)<|Ae rfl<|Aa<|H0 V2 c0 (Bs _ _) h
 refine Ao<|H0 V0 c0 (Bs _ _) h
 refine Al (Ag rfl)<|Al (Ag rfl) ?_
 have v0:=Be h1_0 c0
 have F3:a1.length <= 281474976710656:=AY v0
 refine Al (Bh (xs:=a1) underlying41 rfl v0)<|Al (FV.lss (i:=b0) (j:=((a1.length:Nat):Int)) rfl rfl)<|Bb rfl rfl<|Ac rfl<|Bn (s:=18) rfl h (fun z0 h=>?_) (fun z0 h=>?_)
 refine Ah<|Ah<|Bd rfl rfl<|Aa<|AS rfl<|Ao<|Aj<|Ar<|Aj<|Af<|Ac rfl<|Ac rfl<|Ab (Bh (xs:=a0) underlying41 rfl u0)<|Ab (FV.lss (i:=b0) (j:=((a0.length:Nat):Int)) rfl rfl)<|Aa<|MX.cond_kf rfl (decide_eq_false x0)<|Ao<|Aj<|Af<|Ac rfl<|Ac rfl<|Ab (Bh (xs:=a1) underlying41 rfl v0)<|Ab (FV.lss (i:=b0) (j:=((a1.length:Nat):Int)) rfl rfl)<|Aa<|MX.cond_kt rfl (decide_eq_true z0)<|Ak<|Ac rfl<|Ac rfl<|Ac rfl<|bk h fun b1 J2 h=>?_
 obtain ⟨X1,K2⟩:=au J2
 obtain ⟨q3,A3,Q1,b2,q1,q2,g2⟩:=Bm v0 K2
 have R1:q1 = [vI b1]:=q2; subst R1
 refine Ab (Bk 1 (b0.toNat) rfl Q1 rfl X1 b2)<|AA rfl (g2 0 _ rfl)<|bk h fun W0 z2 h=>Ab (Bp (i:=g0) (j:=b1) rfl rfl z2)<|Ae rfl<|Aa<|Af<|Ac rfl<|Ac rfl<|bk h fun q0 A2 h=>Ab (FV.remc (i:=W0) (j:=4294967296) rfl rfl A2)<|Au .plain rfl (jA q0 (vI q0) c0 aq (e1 rfl)) fun J3 v3 C0 P0=>bk h fun g3 P2 h=>Bz .plain rfl (Bw (α:=Int) (ys:=([q0]:List Int)) P2 C0 (fun _ _=>.t1) aq rfl rfl (Az y0 P0) (Src.row (α:=Int) C0 .hd (jC q0 (vI q0) C0 L rfl))) fun b3 K3 ⟨s1,z1,E1,H1⟩=>Ae rfl<|Aa<|Ak<|Ac rfl<|bk h fun W2 B2 h=>Ab (FV.quoc (i:=W0) (j:=4294967296) rfl rfl B2)<|Ae rfl<|Aa<|Ap<|Ak<|Ac rfl<|Ab (FV.addI (i:=b0) (j:=1) rfl rfl (by omega))<|Ae rfl<|Aa ?_
 obtain ⟨A1,Q0⟩:=AH z1 .d1
 exact A0 (W2,b0 + 1,g3,b3,s1) A1 (Tt F0 (Tt P0 (Tt E1 Q0))) (Az H1 Q0) h
 refine Al (Ag rfl)<|Al (FV.gtr (i:=g0) (j:=0) rfl rfl)<|Bb rfl rfl<|Aa<|AN rfl h (fun g1 h=>?_) (fun g1 h=>?_)
 refine Ao<|Aj<|Ar<|Aj<|Af<|Ac rfl<|Ac rfl<|Ab (Bh (xs:=a0) underlying41 rfl u0)<|Ab (FV.lss (i:=b0) (j:=((a0.length:Nat):Int)) rfl rfl)<|Aa<|MX.cond_kf rfl (decide_eq_false x0)<|Ao<|Aj<|Af<|Ac rfl<|Ac rfl<|Ab (Bh (xs:=a1) underlying41 rfl v0)<|Ab (FV.lss (i:=b0) (j:=((a1.length:Nat):Int)) rfl rfl)<|Aa<|MX.cond_kf rfl (decide_eq_false z0)<|Ao<|Af<|Ac rfl<|Ac rfl<|bk h fun s0 C2 h=>Ab (FV.remc (i:=g0) (j:=4294967296) rfl rfl C2)<|Au .plain rfl (jA s0 (vI s0) c0 aq (e1 rfl)) fun M3 x3 D0 R0=>bk h fun j3 Q2 h=>Bz .plain rfl (Bw (α:=Int) (ys:=([s0]:List Int)) Q2 D0 (fun _ _=>.t1) aq rfl rfl (Az y0 R0) (Src.row (α:=Int) D0 .hd (jC s0 (vI s0) D0 L rfl))) fun c3 P3 ⟨u1,B1,F1,I1⟩=>Ae rfl<|Aa<|Ak<|Ac rfl<|bk h fun X2 D2 h=>Ab (FV.quoc (i:=g0) (j:=4294967296) rfl rfl D2)<|Ae rfl<|Aa<|Ap<|Ak<|Ac rfl<|bk h fun Y2 E2 h=>Ab (Bp (i:=b0) (j:=1) rfl rfl E2)<|Ae rfl<|Aa ?_
 obtain ⟨C1,U0⟩:=AH B1 .d1
 exact A0 (X2,Y2,j3,c3,u1) C1 (Tt F0 (Tt R0 (Tt F1 U0))) (Az I1 U0) h
 refine AV rfl ?_
 have h:=U1 _ h
 try dsimp only at h
 refine Af<|Ac rfl<|Ae rfl<|Aa<|Aq rfl ?_
 have E0:=Bt c0 .hd
 have C3:=Bu c0 .hd
 have s2:=Bv (α:=Int) (v:=d0) (xs:=j0) E0 L (Bf (α:=Int) c0 .hd y0 hL)
 refine AQ hb0 func109 rfl rfl ?_
 cases h
 exact ⟨E0.ag,fun w9 hw9=>⟨d0,rfl,E0.kd s2 hw9⟩⟩
def aR_p (n:Nat) (a0:Tc) (a1:Tc):Option Tc:=
  (if (a0.fe == a1.fe) = true then (a7_p n a0.fD a1.fD).bind fun b0=>(ac_p n a0.fe b0).bind fun c0=>some c0 else (ax_p n a0.fD a1.fD).bind fun d0=>(if 0 <= d0 then (au_p n a0.fD a1.fD).bind fun g0=>(ac_p n a0.fe g0).bind fun j0=>some j0 else (au_p n a1.fD a0.fD).bind fun k0=>(ac_p n a1.fe k0).bind fun p0=>some p0))
theorem aR_c (n:Nat) {L w} (hL:hl L w) (a0:Tc) {v0_1:Value} (h0_1:Rep.R w L [v0_1] a0.fD) (a1:Tc) {v1_1:Value} (h1_1:Rep.R w L [v1_1] a1.fD)  {r:Tc} (h:aR_p n a0 a1 = some r) :
 Cl 96 #[.agg #[.bool a0.fe,v0_1],.agg #[.bool a1.fe,v1_1]] w (ah w fun w' u=>∃ v0_1:Value,u = .agg #[.bool r.fe,v0_1]/\Rep.R w' L [v0_1] r.fD):=by
 unfold aR_p at h
 refine AG func96 rfl rfl rfl fun _ cs0 hb0=>Af<|RG.bx (AF w) rfl rfl fun b2 A1 M0 D1=>RG.bx M0 rfl rfl fun c2 B1 P0 E1=>RG.nl [.bool false,vN] P0 fun d2 C1 b0 F1=>Aa<|Aj<|Af<|AT 0 rfl<|AA rfl ((b0.memA .t2) 0 _ rfl)<|AT 0 rfl<|AA rfl ((b0.memA .t1) 0 _ rfl)<|Ab (FV.eqlB (a:=a0.fe) (b:=a1.fe) underlying4 rfl rfl)<|Aa<|MX.ifb rfl h (fun J0 h=>?_) (fun J0 h=>?_)
 refine Aj<|du 8 fun c0 j0=>Rv 0 c0 rfl j0 (fun _=>BB 0 rfl)<|Rx 1 384 c0 rfl j0 (AM rfl ((b0.memA .t2) 0 _ rfl))<|Rv 2 c0 rfl j0 (fun _=>BB 1 rfl)<|Rx 3 448 c0 rfl j0 (AM rfl ((b0.memA .t2) 1 _ rfl))<|Rv 4 c0 rfl j0 (fun _=>BB 1 rfl)<|Rx 5 448 c0 rfl j0 (AM rfl ((b0.memA .t1) 1 _ rfl))<|bk h fun y2 q1 h=>RD.cl 6 127 c0 rfl .plain (bd 109) rfl (e2 rfl rfl) (fun w9 hw9=>a7_c n (b0.hL hL hw9) (b0.km h0_1 hw9) (b0.km h1_1 hw9) q1) rfl fun g2 U1 Y0 ⟨P1,hu_,j1⟩=>?_
 subst hu_
 obtain ⟨z0,G1⟩:=b0.agr Y0
 refine bk h fun F0 s1 h=>RD.cl 7 255 c0 rfl .plain (bd 95) rfl (e2 rfl rfl) (fun w9 hw9=>ac_c n (z0.hL hL hw9) (Ax j1 hw9) s1) rfl fun j2 V1 Z0 ⟨v0,hu_,C0⟩=>?_
 subst hu_
 obtain ⟨Q0,H1⟩:=z0.agr Z0
 refine RD.nw 8 511 c0 rfl rfl .plain (AP (news:=[.bool F0.fe,v0]) Q0 .hd rfl rfl rfl rfl rfl rfl (o2 rfl (By C0))) fun k2 s0 V0=>AZ (dk c0)<|Aq rfl<|Av hb0 func96 rfl (.cons (.many (cs:=[.bool F0.fe,v0]) rfl rfl (s0.memA .hd)) .nil) rfl ?_
 cases h
 exact ⟨s0.ag,fun w9 hw9=>⟨v0,rfl,s0.kd (Aw C0 V0) hw9⟩⟩
 refine Ao<|Aj<|Af<|AT 1 rfl<|AA rfl ((b0.memA .t2) 1 _ rfl)<|AT 1 rfl<|AA rfl ((b0.memA .t1) 1 _ rfl)<|bk h fun G0 u1 h=>BA (vI G0) (bd 106) rfl (e2 rfl rfl) (fun w9 hw9=>ax_c n (b0.hL0 hL hw9) (b0.k0 h0_1 hw9) (b0.k0 h1_1 hw9) u1) rfl<|Ab (FV.geq (i:=G0) (j:=0) rfl rfl)<|Aa<|AN rfl h (fun K0 h=>?_) (fun K0 h=>?_)
 refine Aj<|du 8 fun d0 p0=>Rv 0 d0 rfl p0 (fun _=>BB 0 rfl)<|Rx 1 384 d0 rfl p0 (AM rfl ((b0.memA .t2) 0 _ rfl))<|Rv 2 d0 rfl p0 (fun _=>BB 1 rfl)<|Rx 3 448 d0 rfl p0 (AM rfl ((b0.memA .t2) 1 _ rfl))<|Rv 4 d0 rfl p0 (fun _=>BB 1 rfl)<|Rx 5 448 d0 rfl p0 (AM rfl ((b0.memA .t1) 1 _ rfl))<|bk h fun z2 v1 h=>RD.cl 6 127 d0 rfl .plain (bd 107) rfl (e2 rfl rfl) (fun w9 hw9=>au_c n (b0.hL hL hw9) (b0.km h0_1 hw9) (b0.km h1_1 hw9) v1) rfl fun p2 W1 b1 ⟨Q1,hu_,k1⟩=>?_
 subst hu_
 obtain ⟨A0,I1⟩:=b0.agr b1
 refine bk h fun H0 x1 h=>RD.cl 7 255 d0 rfl .plain (bd 95) rfl (e2 rfl rfl) (fun w9 hw9=>ac_c n (A0.hL hL hw9) (Ax k1 hw9) x1) rfl fun q2 X1 c1 ⟨x0,hu_,D0⟩=>?_
 subst hu_
 obtain ⟨R0,J1⟩:=A0.agr c1
 refine RD.nw 8 511 d0 rfl rfl .plain (AP (news:=[.bool H0.fe,x0]) R0 .hd rfl rfl rfl rfl rfl rfl (o2 rfl (By D0))) fun s2 t0 W0=>AZ (dk d0)<|Aq rfl<|Av hb0 func96 rfl (.cons (.many (cs:=[.bool H0.fe,x0]) rfl rfl (t0.memA .hd)) .nil) rfl ?_
 cases h
 exact ⟨t0.ag,fun w9 hw9=>⟨x0,rfl,t0.kd (Aw D0 W0) hw9⟩⟩
 refine Ao<|Aj<|du 8 fun g0 q0=>Rv 0 g0 rfl q0 (fun _=>BB 0 rfl)<|Rx 1 384 g0 rfl q0 (AM rfl ((b0.memA .t1) 0 _ rfl))<|Rv 2 g0 rfl q0 (fun _=>BB 1 rfl)<|Rx 3 448 g0 rfl q0 (AM rfl ((b0.memA .t1) 1 _ rfl))<|Rv 4 g0 rfl q0 (fun _=>BB 1 rfl)<|Rx 5 448 g0 rfl q0 (AM rfl ((b0.memA .t2) 1 _ rfl))<|bk h fun A2 y1 h=>RD.cl 6 127 g0 rfl .plain (bd 107) rfl (e2 rfl rfl) (fun w9 hw9=>au_c n (b0.hL hL hw9) (b0.km h1_1 hw9) (b0.km h0_1 hw9) y1) rfl fun u2 Y1 d1 ⟨R1,hu_,p1⟩=>?_
 subst hu_
 obtain ⟨B0,K1⟩:=b0.agr d1
 refine bk h fun I0 z1 h=>RD.cl 7 255 g0 rfl .plain (bd 95) rfl (e2 rfl rfl) (fun w9 hw9=>ac_c n (B0.hL hL hw9) (Ax p1 hw9) z1) rfl fun v2 Z1 g1 ⟨y0,hu_,E0⟩=>?_
 subst hu_
 obtain ⟨U0,M1⟩:=B0.agr g1
 refine RD.nw 8 511 g0 rfl rfl .plain (AP (news:=[.bool I0.fe,y0]) U0 .hd rfl rfl rfl rfl rfl rfl (o2 rfl (By E0))) fun x2 u0 X0=>AZ (dk g0)<|Aq rfl<|Av hb0 func96 rfl (.cons (.many (cs:=[.bool I0.fe,y0]) rfl rfl (u0.memA .hd)) .nil) rfl ?_
 cases h
 exact ⟨u0.ag,fun w9 hw9=>⟨y0,rfl,u0.kd (Aw E0 X0) hw9⟩⟩
def bm_p (n:Nat) (a0:Tc):Option Tc:=
  (ac_p n (!a0.fe) a0.fD).bind fun b0=>some b0
theorem bm_c (n:Nat) {L w} (hL:hl L w) (a0:Tc) {v0_1:Value} (h0_1:Rep.R w L [v0_1] a0.fD)  {r:Tc} (h:bm_p n a0 = some r) :
 Cl 110 #[.agg #[.bool a0.fe,v0_1]] w (ah w fun w' u=>∃ v0_1:Value,u = .agg #[.bool r.fe,v0_1]/\Rep.R w' L [v0_1] r.fD):=by
 unfold bm_p at h
 refine AG func110 rfl rfl rfl fun _ cs0 hb0=>Af<|RG.bx (AF w) rfl rfl fun B0 u0 k0 x0=>RG.nl [.bool false,vN] k0 fun C0 v0 b0 y0=>Aa<|Af<|AT 0 rfl<|AA rfl ((b0.memA .t1) 0 _ rfl)<|Ab (FV.not rfl)<|AT 1 rfl<|AA rfl ((b0.memA .t1) 1 _ rfl)<|bk h fun j0 t0 h=>jE (bd 95) rfl (e2 rfl rfl) (fun w9 hw9=>ac_c n (b0.hL hL hw9) (b0.km h0_1 hw9) t0) rfl fun D0 A0 s0 ⟨d0,hu_,g0⟩=>?_
 subst hu_
 obtain ⟨p0,z0⟩:=b0.agr s0
 refine AX [.bool j0.fe,d0] p0 .hd (o2 rfl (By g0)) fun E0 c0 q0=>Aa<|Aq rfl<|Av hb0 func110 rfl (.cons (.many (cs:=[.bool j0.fe,d0]) rfl rfl (c0.memA .hd)) .nil) rfl ?_
 cases h
 exact ⟨c0.ag,fun w9 hw9=>⟨d0,rfl,c0.kd (Aw g0 q0) hw9⟩⟩
def aX_p (n:Nat) (a0:Tc) (a1:Tc):Option Tc:=
  (bm_p n a1).bind fun b0=>(aR_p n a0 b0).bind fun c0=>some c0
theorem aX_c (n:Nat) {L w} (hL:hl L w) (a0:Tc) {v0_1:Value} (h0_1:Rep.R w L [v0_1] a0.fD) (a1:Tc) {v1_1:Value} (h1_1:Rep.R w L [v1_1] a1.fD)  {r:Tc} (h:aX_p n a0 a1 = some r) :
 Cl 97 #[.agg #[.bool a0.fe,v0_1],.agg #[.bool a1.fe,v1_1]] w (ah w fun w' u=>∃ v0_1:Value,u = .agg #[.bool r.fe,v0_1]/\Rep.R w' L [v0_1] r.fD):=by
 unfold aX_p at h
 refine AG func97 rfl rfl rfl fun _ cs0 hb0=>Af<|RG.bx (AF w) rfl rfl fun R0 D0 s0 G0=>RG.bx s0 rfl rfl fun U0 E0 t0 H0=>RG.nl [.bool false,vN] t0 fun V0 F0 c0 I0=>Aa<|Aj<|du 4 fun b0 p0=>Rx 0 24 b0 rfl p0 (AK rfl (c0.memA .t2))<|Rx 1 28 b0 rfl p0 (AK rfl (c0.memA .t1))<|bk h fun C0 A0 h=>RD.cl 2 7 b0 rfl .plain (bd 110) rfl (e1 rfl) (fun w9 hw9=>bm_c n (c0.hL hL hw9) a1 (c0.km h1_1 hw9) A0) rfl fun W0 P0 x0 ⟨M0,hu_,z0⟩=>?_
 subst hu_
 obtain ⟨d0,J0⟩:=c0.agr x0
 refine bk h fun q0 B0 h=>RD.cl 3 15 b0 rfl .plain (bd 96) rfl (e2 rfl rfl) (fun w9 hw9=>aR_c n (d0.hL hL hw9) a0 (d0.km h0_1 hw9) C0 (Ax z0 hw9) B0) rfl fun X0 Q0 y0 ⟨j0,hu_,k0⟩=>?_
 subst hu_
 obtain ⟨u0,K0⟩:=d0.agr y0
 refine RD.nw 4 31 b0 rfl rfl .plain (AP (news:=[.bool q0.fe,j0]) u0 .hd rfl rfl rfl rfl rfl rfl (o2 rfl (By k0))) fun Y0 g0 v0=>AZ (dk b0)<|Aq rfl<|Av hb0 func97 rfl (.cons (.many (cs:=[.bool q0.fe,j0]) rfl rfl (g0.memA .hd)) .nil) rfl ?_
 cases h
 exact ⟨g0.ag,fun w9 hw9=>⟨j0,rfl,g0.kd (Aw k0 v0) hw9⟩⟩
end Go.Proofs.YtlleajifdbnbaaaGreatDoor
