import Derived.Test.YtkommhmbkbhmlaaGreatRL8
namespace Go.Proofs.YtkommhmbkbhmlaaGreat
open Go Go.RowKit Tryz

def aD (n:Nat) (t0:Bool) (c0:List Tb):Oa Bool:=
  (bD_p n (1:Int)).bind fun u0=>(bH_p n (⟨(18446744073709551615,18446744073709551615,18446744073709551615,18446744073709551615,18446744073709551615,18446744073709551615,18446744073709551615,9223372036854775807),u0⟩:Ta)).bind fun b0=>(bD_p n (1:Int)).bind fun v0=>(bf_p n).bind fun x0=>(if x0 = true then (if t0 = true then (if b0.2 = 0 then (ac_p n (1:Int) (1:Int)).bind fun y0=>(aL_p n b0.1 y0).bind fun d0=>(ab_p n d0.1 d0.2 (6:Int)).bind fun z0=>(if z0 = true then (aA_p n b0.1 c0).bind fun g0=>(ab_p n g0.1 g0.2 (6:Int)).bind fun A0=>(if A0 = true then (ac_p n (2:Int) (1:Int)).bind fun B0=>(aU_p n b0.1 B0).bind fun j0=>(ab_p n j0.1 j0.2 (6:Int)).bind fun C0=>(if C0 = true then (ah_p n (1:Int) ([((2:Int),(1:Int))]:List (Int × Int))).bind fun D0=>(aU_p n b0.1 (⟨v0,(18446744073709551615,18446744073709551615,18446744073709551615,18446744073709551615,18446744073709551615,18446744073709551615,18446744073709551615,9223372036854775807)⟩:Ta)).bind fun k0=>(av_p n k0.1 k0.2 D0).bind fun E0=>(if E0 = true then (ax_p n b0.1).bind fun p0=>(ar_p n p0.1 p0.2 (0:Int) (1:Int)).bind fun F0=>(if F0 = true then (au_p n b0.1 b0.1).bind fun q0=>(ar_p n q0.1 q0.2 (0:Int) (1:Int)).bind fun G0=>(if G0 = true then (au_p n b0.1 c0).bind fun s0=>(ar_p n s0.1 s0.2 (1:Int) (1:Int)).bind fun H0=>some H0 else none) else none) else none) else none) else none) else none) else none) else none) else none)
def aF (n:Nat) (K0:Bool) (b0:List Tb) (J0:(List Tb) × Int):Oa Bool:=
  (mk 41 ([]:List Tb)).bind fun c0=>(if K0 = true then (az_p n c0 ([]:List Ta)).bind fun q0=>(ab_p n q0.1 q0.2 (3:Int)).bind fun M0=>(if M0 = true then (mk 41 (⟨(0,0,0,0,0,0,0,0),(0,0,0,0,0,0,0,0)⟩:Ta)).bind fun v0=>(az_p n ([]:List (List Tb)) v0).bind fun s0=>(ab_p n s0.1 s0.2 (3:Int)).bind fun P0=>(if P0 = true then (cut c0 0 40).bind fun x0=>(mk 40 (⟨(0,0,0,0,0,0,0,0),(0,0,0,0,0,0,0,0)⟩:Ta)).bind fun y0=>(az_p n x0 y0).bind fun t0=>(ab_p n t0.1 t0.2 (50:Int)).bind fun Q0=>(if Q0 = true then (ac_p n (1:Int) (1:Int)).bind fun R0=>(az_p n ([b0]:List (List Tb)) ([R0,(⟨(0,0,0,0,0,0,0,0),(0,0,0,0,0,0,0,0)⟩:Ta)]:List Ta)).bind fun u0=>(ab_p n u0.1 u0.2 (20:Int)).bind fun U0=>(if U0 = true then (ac_p n (1:Int) (2:Int)).bind fun V0=>(ac_p n (1:Int) (2:Int)).bind fun W0=>(az_p n ([b0]:List (List Tb)) ([V0,W0]:List Ta)).bind fun d0=>(ab_p n d0.1 d0.2 (2:Int)).bind fun z0=>(if z0 = true then (ac_p n (-1:Int) (1:Int)).bind fun A0=>(ac_p n (2:Int) (1:Int)).bind fun B0=>(az_p n ([b0,b0]:List (List Tb)) ([A0,B0]:List Ta)).bind fun g0=>(ab_p n g0.1 g0.2 (2:Int)).bind fun C0=>(if C0 = true then (ac_p n (1:Int) (2:Int)).bind fun D0=>(az_p n ([b0]:List (List Tb)) ([D0]:List Ta)).bind fun j0=>(ab_p n j0.1 j0.2 (2:Int)).bind fun E0=>(if E0 = true then (az_p n ([]:List (List Tb)) ([]:List Ta)).bind fun k0=>(ab_p n k0.1 k0.2 (2:Int)).bind fun F0=>(if F0 = true then (ac_p n (1:Int) (1:Int)).bind fun G0=>(ac_p n (0:Int) (1:Int)).bind fun H0=>(az_p n ([b0,J0.1]:List (List Tb)) ([G0,H0]:List Ta)).bind fun p0=>(av_p n p0.1 p0.2 b0).bind fun I0=>aD n I0 b0 else none) else none) else none) else none) else none) else none) else none) else none) else none)
def aC_l1 (n:Nat) (d0:Nat × (List Ta) -> Oa (List Ta)):Nat × (List Ta) -> Oa (List Ta)
  | (b0,c0)=>(if b0 < 401 then (chk (((b0:Nat):Int) * ((b0:Nat):Int))).bind fun g0=>(ac_p n g0 (1:Int)).bind fun k0=>(app c0 ([k0]:List Ta)).bind fun j0=>d0 (b0 + 1,j0) else some c0)
def aH (n:Nat) (b0:List Tb) (W0:Bool) (F0:(List Tb) × Int):Oa Bool:=
  Option.bind (az (aC_l1 n) n (0,([]:List Ta))) (fun d0=>(cut d0 0 400).bind fun y0=>(aM_p n y0).bind fun c0=>(bv_p n b0 (⟨(0,0,0,0,0,0,0,0),(0,0,0,0,0,0,0,0)⟩:Ta)).bind fun A0=>(if W0 = true then none else (if c0.2 = 0 then (ap_p n c0.1).bind fun B0=>(if B0 = 0 then (aM_p n d0).bind fun g0=>(ab_p n g0.1 g0.2 (3:Int)).bind fun C0=>(if C0 = true then (mk 400 (⟨(0,0,0,0,0,0,0,0),(0,0,0,0,0,0,0,0)⟩:Ta)).bind fun z0=>(aM_p n z0).bind fun j0=>(ab_p n j0.1 j0.2 (20:Int)).bind fun D0=>(if D0 = true then (aA_p n c0.1 b0).bind fun k0=>(ab_p n k0.1 k0.2 (3:Int)).bind fun E0=>(if E0 = true then (ah_p n (1:Int) ([((0:Int),(1:Int))]:List (Int × Int))).bind fun G0=>(aA_p n c0.1 G0).bind fun p0=>(av_p n p0.1 p0.2 c0.1).bind fun H0=>(if H0 = true then (if A0.2.2 = 20 then (bH_p n (⟨(0,0,0,0,0,0,0,0),(0,0,0,0,0,0,0,0)⟩:Ta)).bind fun q0=>(ab_p n q0.1 q0.2 (20:Int)).bind fun I0=>(if I0 = true then (aU_p n b0 (⟨(0,0,0,0,0,0,0,0),(0,0,0,0,0,0,0,0)⟩:Ta)).bind fun s0=>(ab_p n s0.1 s0.2 (20:Int)).bind fun J0=>(if J0 = true then (ao_p n b0 (⟨(0,0,0,0,0,0,0,0),(0,0,0,0,0,0,0,0)⟩:Ta)).bind fun t0=>(aa_p n t0.1 t0.2 (20:Int)).bind fun K0=>(if K0 = true then (ac_p n (3:Int) (2:Int)).bind fun M0=>(ao_p n b0 M0).bind fun u0=>(aa_p n u0.1 u0.2 (2:Int)).bind fun P0=>(if P0 = true then (ac_p n (-1:Int) (2:Int)).bind fun Q0=>(ao_p n b0 Q0).bind fun v0=>(aa_p n v0.1 v0.2 (2:Int)).bind fun R0=>(if R0 = true then (ac_p n (1:Int) (1:Int)).bind fun U0=>(ao_p n b0 U0).bind fun x0=>(ar_p n x0.1 x0.2 (1:Int) (1:Int)).bind fun V0=>aF n V0 b0 F0 else none) else none) else none) else none) else none) else none) else none) else none) else none) else none) else none) else none)))
set_option maxRecDepth 20000 in
set_option maxHeartbeats 4000000 in
theorem bz (n:Nat) {L w} (hL:hl L w) {Z:Machine -> Prop} {cs0:List Frame} {r:Bool} (hb0:RetOK Tryz.prog Z 3 cs0 (fun v9 p=>Agree [] w p/\∀ w8,Agree [] p w8 -> (fun _ u=>u = .bool r) w8 v9)) (d2:Bool) (c2:List Tb) {b2:Vc} {c1:World} (A2:St w c1 []) (U2:Rep.R c1 (bl [] ++ L) [b2] c2) {c:Code} (hc0:cdT Tryz.prog 3 14 = some c) (h:aD n d2 c2 = some r):MX Tryz.prog Z (fb 3 .normal none) 455 [] cs0 [.code c] [(1,b2),(5,.bool d2)] c1:=by
 obtain rfl:=Option.some.inj ((eD (k:=14) func3 I I).symm.trans hc0)
 unfold aD at h
 refine Af<|Ab (AI (vs:=[vW 18446744073709551615,vW 18446744073709551615,vW 18446744073709551615,vW 18446744073709551615,vW 18446744073709551615,vW 18446744073709551615,vW 18446744073709551615,vW 9223372036854775807]) (u:=.agg #[vW 18446744073709551615,vW 18446744073709551615,vW 18446744073709551615,vW 18446744073709551615,vW 18446744073709551615,vW 18446744073709551615,vW 18446744073709551615,vW 9223372036854775807]) (e8 I I I I I I I I) (fun p=>by kernel_rfl))<|RG.nl zP A2 fun g5 v4 B2 E2=>RG.now .plain (AJ (news:=[vW 18446744073709551615,vW 18446744073709551615,vW 18446744073709551615,vW 18446744073709551615,vW 18446744073709551615,vW 18446744073709551615,vW 18446744073709551615,vW 9223372036854775807]) B2 .hd I I I I I (.refl 8) (ak I)) fun j5 K0 F2=>Aa<|Ak<|du 4 fun s0 Z0=>Rx 0 20 s0 I Z0 (AF I (K0.memA .hd))<|bk h fun v0 q3 h=>RD.cq 1 3 20 (.agg ((ap v0)).toArray) s0 I Z0 (bd 32) I (e1 I) (fun p q=>bD_c n (K0.hL0 hL q)  q3) I<|Rv 2 s0 I Z0 (fun _=>AI (vs:=[.agg #[vW 18446744073709551615,vW 18446744073709551615,vW 18446744073709551615,vW 18446744073709551615,vW 18446744073709551615,vW 18446744073709551615,vW 18446744073709551615,vW 9223372036854775807],.agg ((ap v0)).toArray]) (u:=.agg ((([vW 18446744073709551615,vW 18446744073709551615,vW 18446744073709551615,vW 18446744073709551615,vW 18446744073709551615,vW 18446744073709551615,vW 18446744073709551615,vW 9223372036854775807]:List Vc) ++ ap v0)).toArray) (e2 I I) (fun p=>by kernel_rfl))<|RD.nu 3 15 s0 I .plain I (AB zL K0) fun k5 x4 C2 G2=>BF 4 31 s0 I I .plain (AJ (news:=(([vW 18446744073709551615,vW 18446744073709551615,vW 18446744073709551615,vW 18446744073709551615,vW 18446744073709551615,vW 18446744073709551615,vW 18446744073709551615,vW 9223372036854775807]:List Vc) ++ ap v0)) C2 .hd I I I I I (.refl 16) (ak I)) fun p5 M0 H2=>AN (dk s0)<|Af<|Ab (AF I (M0.memA .hd))<|bk h fun c4 s3 h=>jE (bd 14) I (e1 I) (fun p q=>bH_c n (M0.hL hL q) (⟨(18446744073709551615,18446744073709551615,18446744073709551615,18446744073709551615,18446744073709551615,18446744073709551615,18446744073709551615,9223372036854775807),v0⟩:Ta) s3) I fun q5 P4 J2 ⟨G4,hu_,V2⟩=>?_
 subst hu_
 obtain ⟨P0,I2⟩:=M0.agr J2
 refine Ae I<|Ab (Ac I I)<|Ab (Ac I I)<|Ai I<|Ai I<|Aa<|Ak<|du 4 fun t0 b1=>bk h fun x0 u3 h=>RD.cq 0 1 20 (.agg ((ap x0)).toArray) t0 I b1 (bd 32) I (e1 I) (fun p q=>bD_c n (P0.hL0 hL q)  u3) I<|Rx 1 20 t0 I b1 (AF I (P0.memA .t1))<|Rv 2 t0 I b1 (fun _=>AI (vs:=[.agg ((ap x0)).toArray,.agg #[vW 18446744073709551615,vW 18446744073709551615,vW 18446744073709551615,vW 18446744073709551615,vW 18446744073709551615,vW 18446744073709551615,vW 18446744073709551615,vW 9223372036854775807]]) (u:=.agg ((ap x0 ++ ([vW 18446744073709551615,vW 18446744073709551615,vW 18446744073709551615,vW 18446744073709551615,vW 18446744073709551615,vW 18446744073709551615,vW 18446744073709551615,vW 9223372036854775807]:List Vc))).toArray) (e2 I I) (fun p=>by kernel_rfl))<|RD.nu 3 15 t0 I .plain I (AB zL P0) fun s5 y4 D2 q1=>BF 4 31 t0 I I .plain (AJ (news:=(ap x0 ++ ([vW 18446744073709551615,vW 18446744073709551615,vW 18446744073709551615,vW 18446744073709551615,vW 18446744073709551615,vW 18446744073709551615,vW 18446744073709551615,vW 9223372036854775807]:List Vc))) D2 .hd I I I I I (.refl 16) (ak I)) fun U3 I0 s1=>AN (dk t0)<|Ak<|du 76 fun b0 c0=>Rv 0 b0 I c0 (fun _=>Aj I)<|bk h fun d4 v3 h=>AV (i:=1) (m' :=3) (W:=75557863725914323419132) (tk b0) I c0 (v:=.bool d4) (fst:=[]) (cap:=[]) (.yes I I) (bd 12) I ao (fun p q=>bf_c n (I0.hL0 hL q)  v3) I<|Rv 2 b0 I c0 (fun _=>Bc I I)<|Rv 3 b0 I c0 (fun _=>Aj I)<|RD.ifb (s:=383) I h (fun p2 h=>?_) (fun p2 h=>?_)
 refine AX 4 31 b0 I c0 (.yes I I) (fun _=>Aj I) I<|Rv 5 b0 I c0 (fun _=>Bc I I)<|Rv 6 b0 I c0 (fun _=>Aj I)<|RD.ifb (s:=386) I h (fun q2 h=>?_) (fun q2 h=>?_)
 refine AX 7 255 b0 I c0 (.yes I I) (fun _=>Aj I) I<|AX 8 511 b0 I c0 (.yes I I) (fun _=>FV.eql (i:=c4.2) (j:=0) I I) I<|Rv 9 b0 I c0 (fun _=>Bc I I)<|Rv 10 b0 I c0 (fun _=>Aj I)<|RD.ifd (s:=390) I h (fun s2 h=>?_) (fun s2 h=>?_)
 refine AX 12 6143 b0 I c0 (.yes I I) (fun _=>Aj I) I<|AU 11 8191 b0 I (.yes I I) (bd 22) I (e1 I) (fun p q=>AD (ai_c n (I0.hL hL q) (6:Int)) fun (w8:World) (u8:Vc) ⟨b0_,hu_,s_⟩=>(⟨b0_,hu_,s_.from q⟩:∃ y0:Nat,u8 = Value.func (.func 82) #[] #[vP y0]/\St U3 w8 [.cells y0 [vI 6] 27])) I fun t5 Q4 z4 ⟨y0,b3,R1⟩=>?_
 subst b3
 have Q0:=ah I0 R1
 have u1:=am I0 R1
 refine bk h fun g2 x3 h=>AV (i:=13) (m' :=16383) (W:=75557863725914323402752) (tk b0) I c0 (v:=.agg ((aa g2)).toArray) (fst:=[]) (cap:=[]) (.yes I I) (bd 15) I (e2 I I) (fun p q=>ac_c n (Q0.hL0 hL q)  x3) I<|bk h fun B5 y3 h=>?_
 have H1:=Ag V2 (Tt q1 (Tt s1 u1))
 refine AU 14 32767 b0 I (.yes I I) (bd 23) I (e2 I I) (fun p q=>aL_c n (Q0.hL hL q) (Ah H1 q) g2 y3) I fun V3 R4 K2 ⟨H4,hu_,W2⟩=>?_
 subst hu_
 obtain ⟨p0,v1⟩:=Q0.agr K2
 refine AX 15 65535 b0 I c0 (.yes I I) (fun _=>Ac I I) I<|AX 16 131071 b0 I c0 (.yes I I) (fun _=>Ac I I) I<|bk h fun g4 z3 h=>AV (i:=17) (m' :=262143) (W:=75557863725914323156992) (tk b0) I c0 (v:=.bool g4) (fst:=[]) (cap:=[vP y0]) (.yes I I) (bd 82) I (e2 I I) (fun p q=>ab_c n (p0.hL0 hL q) (p0.kd W2 q) (ae q (p0.memA .hd)) z3) I<|Rv 18 b0 I c0 (fun _=>Bc I I)<|Rv 19 b0 I c0 (fun _=>Aj I)<|RD.ifb (s:=399) I h (fun t2 h=>?_) (fun t2 h=>?_)
 refine AX 21 3145727 b0 I c0 (.yes I I) (fun _=>Aj I) I<|AX 22 7340031 b0 I c0 (.yes I I) (fun _=>Aj I) I<|AU 20 8388607 b0 I (.yes I I) (bd 22) I (e1 I) (fun p q=>AD (ai_c n (p0.hL hL q) (6:Int)) fun (w8:World) (u8:Vc) ⟨b0_,hu_,s_⟩=>(⟨b0_,hu_,s_.from q⟩:∃ z0:Nat,u8 = Value.func (.func 82) #[] #[vP z0]/\St V3 w8 [.cells z0 [vI 6] 27])) I fun u5 U4 A4 ⟨z0,c3,U1⟩=>?_
 subst c3
 have k1:=ah p0 U1
 have x1:=am p0 U1
 refine bk h fun C5 A3 h=>?_
 have I1:=Ag H1 (Tt v1 x1)
 have J1:=Ag U2 (Tt E2 (Tt F2 (Tt G2 (Tt H2 (Tt I2 (Tt q1 (Tt s1 (Tt u1 (Tt v1 x1)))))))))
 refine AU 23 16777215 b0 I (.yes I I) (bd 24) I (e2 I I) (fun p q=>aA_c n (k1.hL hL q) (Ah I1 q) (Ah J1 q) A3) I fun W3 V4 M2 ⟨I4,hu_,X2⟩=>?_
 subst hu_
 obtain ⟨q0,y1⟩:=k1.agr M2
 refine AX 24 33554431 b0 I c0 (.yes I I) (fun _=>Ac I I) I<|AX 25 67108863 b0 I c0 (.yes I I) (fun _=>Ac I I) I<|bk h fun j4 B3 h=>AV (i:=26) (m' :=134217727) (W:=75557863725914189201408) (tk b0) I c0 (v:=.bool j4) (fst:=[]) (cap:=[vP z0]) (.yes I I) (bd 82) I (e2 I I) (fun p q=>ab_c n (q0.hL0 hL q) (q0.kd X2 q) (ae q (q0.memA .hd)) B3) I<|Rv 27 b0 I c0 (fun _=>Bc I I)<|Rv 28 b0 I c0 (fun _=>Aj I)<|RD.ifb (s:=408) I h (fun u2 h=>?_) (fun u2 h=>?_)
 refine AX 30 1610612735 b0 I c0 (.yes I I) (fun _=>Aj I) I<|AU 29 2147483647 b0 I (.yes I I) (bd 22) I (e1 I) (fun p q=>AD (ai_c n (q0.hL hL q) (6:Int)) fun (w8:World) (u8:Vc) ⟨b0_,hu_,s_⟩=>(⟨b0_,hu_,s_.from q⟩:∃ A0:Nat,u8 = Value.func (.func 82) #[] #[vP A0]/\St W3 w8 [.cells A0 [vI 6] 27])) I fun v5 W4 B4 ⟨A0,d3,V1⟩=>?_
 subst d3
 have R0:=ah q0 V1
 have z1:=am q0 V1
 refine bk h fun j2 C3 h=>AV (i:=31) (m' :=4294967295) (W:=75557863725910028451840) (tk b0) I c0 (v:=.agg ((aa j2)).toArray) (fst:=[]) (cap:=[]) (.yes I I) (bd 15) I (e2 I I) (fun p q=>ac_c n (R0.hL0 hL q)  C3) I<|bk h fun D5 D3 h=>?_
 have K1:=Ag I1 (Tt y1 z1)
 refine AU 32 8589934591 b0 I (.yes I I) (bd 29) I (e2 I I) (fun p q=>aU_c n (R0.hL hL q) (Ah K1 q) j2 D3) I fun x5 X4 P2 ⟨J4,hu_,Y2⟩=>?_
 subst hu_
 obtain ⟨u0,A1⟩:=R0.agr P2
 refine AX 33 17179869183 b0 I c0 (.yes I I) (fun _=>Ac I I) I<|AX 34 34359738367 b0 I c0 (.yes I I) (fun _=>Ac I I) I<|bk h fun k4 E3 h=>AV (i:=35) (m' :=68719476735) (W:=75557863725845603942400) (tk b0) I c0 (v:=.bool k4) (fst:=[]) (cap:=[vP A0]) (.yes I I) (bd 82) I (e2 I I) (fun p q=>ab_c n (u0.hL0 hL q) (u0.kd Y2 q) (ae q (u0.memA .hd)) E3) I<|Rv 36 b0 I c0 (fun _=>Bc I I)<|Rv 37 b0 I c0 (fun _=>Aj I)<|RD.ifb (s:=417) I h (fun v2 h=>?_) (fun v2 h=>?_)
 refine AX 38 549755813887 b0 I c0 (.yes I I) (fun _=>AI (vs:=[vI 2,vI 1]) (u:=.agg #[vI 2,vI 1]) (e2 I I) (fun p=>by kernel_rfl)) I<|AX 42 4947802324991 b0 I c0 (.yes I I) (fun _=>Aj I) I<|RD.val (i:=43) (m' :=13743895347199) (W:=75557863708322137374720) (tk b0) I c0 (.yes I I) (AF I (u0.memA .t3)) I<|RD.nu 39 14293651161087 b0 I (.yes I I) I (AG (α:=Int × Int) (xs:=([((2:Int),(1:Int))]:List (Int × Int))) (vs:=[.agg #[vI 2,vI 1]]) (ds' :=[vI 2,vI 1]) I u0 bC I (e1 I) (by kernel_rfl) I) fun y5 k2 J0 B1=>?_
 have U0:=Bl J0 .hd
 have C1:=Bm J0 .hd
 refine bk h fun p4 F3 h=>AU 40 15393162788863 b0 I (.yes I I) (bd 13) I (e2 I I) (fun p q=>ah_c n (U0.hL hL q) (Ah (Bn (α:=Int × Int) (v:=(vS k2 1)) (xs:=([((2:Int),(1:Int))]:List (Int × Int))) U0 L (Ba (α:=Int × Int) J0 .hd (AC (cs:=[vI 2,vI 1]) (xs:=(([((2:Int),(1:Int))]:List (Int × Int)):List (Int × Int))) J0 L (Ao (cs:=[vI 2,vI 1]) (ds:=[]) (aK (2:Int) (1:Int)) (AH _ _))) hL)) q) F3) I fun X3 R3 Q2 ⟨K4,hu_,Q1⟩=>?_
 subst hu_
 obtain ⟨V0,D1⟩:=U0.agr Q2
 refine AU 41 17592186044415 b0 I (.yes I I) (bd 28) I (e1 I) (fun p q=>AD (aW_c n (V0.hL hL q) p4 (Ah Q1 q)) fun (w8:World) (u8:Vc) ⟨b0_,hu_,s_⟩=>(⟨b0_,hu_,s_.from q⟩:∃ B0:Nat,u8 = Value.func (.func 91) #[] #[vP B0]/\St X3 w8 [.cells B0 [R3] 24])) I fun z5 Y4 C4 ⟨B0,g3,W1⟩=>?_
 subst g3
 have p1:=ah V0 W1
 have W0:=am V0 W1
 refine bk h fun E5 G3 h=>?_
 have M1:=Ag K1 (Tt A1 (Tt B1 (Tt C1 (Tt D1 W0))))
 refine AU 44 35184372088831 b0 I (.yes I I) (bd 29) I (e2 I I) (fun p q=>aU_c n (p1.hL hL q) (Ah M1 q) (⟨x0,(18446744073709551615,18446744073709551615,18446744073709551615,18446744073709551615,18446744073709551615,18446744073709551615,18446744073709551615,9223372036854775807)⟩:Ta) G3) I fun Y3 Z4 R2 ⟨M4,hu_,Z2⟩=>?_
 subst hu_
 obtain ⟨j0,X0⟩:=p1.agr R2
 refine AX 45 70368744177663 b0 I c0 (.yes I I) (fun _=>Ac I I) I<|AX 46 140737488355327 b0 I c0 (.yes I I) (fun _=>Ac I I) I<|bk h fun q4 H3 h=>AV (i:=47) (m' :=281474976710655) (W:=75557863444439346708480) (tk b0) I c0 (v:=.bool q4) (fst:=[]) (cap:=[vP B0]) (.yes I I) (bd 91) I (e2 I I) (fun p q=>av_c n (j0.hL0 hL q) (j0.kd Z2 q) (j0.kd (Ag Q1 (Tt W0 X0)) q) (ae q (j0.memA .hd)) H3) I<|Rv 48 b0 I c0 (fun _=>Bc I I)<|Rv 49 b0 I c0 (fun _=>Aj I)<|RD.ifb (s:=429) I h (fun x2 h=>?_) (fun x2 h=>?_)
 refine AX 51 3377699720527871 b0 I c0 (.yes I I) (fun _=>Aj I) I<|AU 50 4503599627370495 b0 I (.yes I I) (bd 30) I (e2 I I) (fun p q=>AD (ba_c n (j0.hL hL q) (0:Int) (1:Int)) fun (w8:World) (u8:Vc) ⟨b0_,b1_,hu_,s_⟩=>(⟨b0_,b1_,hu_,s_.from q⟩:∃ C0 D0:Nat,u8 = Value.func (.func 92) #[] #[vP C0,vP D0]/\St Y3 w8 [.cells C0 [vI 0] 3,.cells D0 [vI 1] 3])) I fun Z3 b5 D4 ⟨C0,D0,j3,X1⟩=>?_
 subst j3
 have g0:=br j0 X1
 have E1:=cM j0 X1
 refine bk h fun d1 I3 h=>?_
 have P1:=Ag M1 (Tt X0 E1)
 refine AV (i:=52) (m' :=9007199254740991) (W:=75557854718715068678144) (tk b0) I c0 (v:=.tuple #[.agg ((aa d1.1)).toArray,vI d1.2]) (fst:=[]) (cap:=[]) (.yes I I) (bd 20) I (e1 I) (fun p q=>ax_c n (g0.hL0 hL q) (g0.kd P1 q) I3) I<|AX 53 18014398509481983 b0 I c0 (.yes I I) (fun _=>Ac I I) I<|AX 54 36028797018963967 b0 I c0 (.yes I I) (fun _=>Ac I I) I<|bk h fun s4 J3 h=>AV (i:=55) (m' :=72057594037927935) (W:=75557791668320285491200) (tk b0) I c0 (v:=.bool s4) (fst:=[]) (cap:=[vP C0,vP D0]) (.yes I I) (bd 92) I (e2 I I) (fun p q=>ar_c n (g0.hL0 hL q) d1.1 (ae q (g0.memA .hd)) (ae q (g0.memA .t1)) J3) I<|Rv 56 b0 I c0 (fun _=>Bc I I)<|Rv 57 b0 I c0 (fun _=>Aj I)<|RD.ifb (s:=437) I h (fun y2 h=>?_) (fun y2 h=>?_)
 refine AX 59 864691128455135231 b0 I c0 (.yes I I) (fun _=>Aj I) I<|AX 60 2017612633061982207 b0 I c0 (.yes I I) (fun _=>Aj I) I<|AU 58 2305843009213693951 b0 I (.yes I I) (bd 30) I (e2 I I) (fun p q=>AD (ba_c n (g0.hL hL q) (0:Int) (1:Int)) fun (w8:World) (u8:Vc) ⟨b0_,b1_,hu_,s_⟩=>(⟨b0_,b1_,hu_,s_.from q⟩:∃ E0 F0:Nat,u8 = Value.func (.func 92) #[] #[vP E0,vP F0]/\St Z3 w8 [.cells E0 [vI 0] 3,.cells F0 [vI 1] 3])) I fun b4 c5 E4 ⟨E0,F0,k3,Y1⟩=>?_
 subst k3
 have d0:=br g0 Y1
 have F1:=cM g0 Y1
 refine bk h fun g1 K3 h=>?_
 have Y0:=Ag P1 F1
 refine AV (i:=61) (m' :=4611686018427387903) (W:=75553252039895896031232) (tk b0) I c0 (v:=.tuple #[.agg ((aa g1.1)).toArray,vI g1.2]) (fst:=[]) (cap:=[]) (.yes I I) (bd 25) I (e2 I I) (fun p q=>au_c n (d0.hL0 hL q) (d0.kd Y0 q) (d0.kd Y0 q) K3) I<|AX 62 9223372036854775807 b0 I c0 (.yes I I) (fun _=>Ac I I) I<|AX 63 18446744073709551615 b0 I c0 (.yes I I) (fun _=>Ac I I) I<|bk h fun t4 M3 h=>AV (i:=64) (m' :=36893488147419103231) (W:=75520970237766904315904) (tk b0) I c0 (v:=.bool t4) (fst:=[]) (cap:=[vP E0,vP F0]) (.yes I I) (bd 92) I (e2 I I) (fun p q=>ar_c n (d0.hL0 hL q) g1.1 (ae q (d0.memA .hd)) (ae q (d0.memA .t1)) M3) I<|Rv 65 b0 I c0 (fun _=>Bc I I)<|Rv 66 b0 I c0 (fun _=>Aj I)<|RD.ifb (s:=446) I h (fun z2 h=>?_) (fun z2 h=>?_)
 refine AX 68 442721857769029238783 b0 I c0 (.yes I I) (fun _=>Aj I) I<|AX 69 1033017668127734890495 b0 I c0 (.yes I I) (fun _=>Aj I) I<|AU 67 1180591620717411303423 b0 I (.yes I I) (bd 30) I (e2 I I) (fun p q=>AD (ba_c n (d0.hL hL q) (1:Int) (1:Int)) fun (w8:World) (u8:Vc) ⟨b0_,b1_,hu_,s_⟩=>(⟨b0_,b1_,hu_,s_.from q⟩:∃ G0 H0:Nat,u8 = Value.func (.func 92) #[] #[vP G0,vP H0]/\St b4 w8 [.cells G0 [vI 1] 3,.cells H0 [vI 1] 3])) I fun A5 d5 F4 ⟨G0,H0,p3,Z1⟩=>?_
 subst p3
 have k0:=br d0 Z1
 have G1:=cM d0 Z1
 refine bk h fun j1 P3 h=>AV (i:=70) (m' :=2361183241434822606847) (W:=73196680484479500812288) (tk b0) I c0 (v:=.tuple #[.agg ((aa j1.1)).toArray,vI j1.2]) (fst:=[]) (cap:=[]) (.yes I I) (bd 25) I (e2 I I) (fun p q=>au_c n (k0.hL0 hL q) (k0.kd (Ag Y0 G1) q) (k0.kd (Ag J1 (Tt y1 (Tt z1 (Tt A1 (Tt B1 (Tt C1 (Tt D1 (Tt W0 (Tt X0 (Tt E1 (Tt F1 G1))))))))))) q) P3) I<|AX 71 4722366482869645213695 b0 I c0 (.yes I I) (fun _=>Ac I I) I<|AX 72 9444732965739290427391 b0 I c0 (.yes I I) (fun _=>Ac I I) I<|bk h fun u4 Q3 h=>AV (i:=73) (m' :=18889465931478580854783) (W:=56668397794435742564352) (tk b0) I c0 (v:=.bool u4) (fst:=[]) (cap:=[vP G0,vP H0]) (.yes I I) (bd 92) I (e2 I I) (fun p q=>ar_c n (k0.hL0 hL q) j1.1 (ae q (k0.memA .hd)) (ae q (k0.memA .t1)) Q3) I<|Rv 74 b0 I c0 (fun _=>Bc I I)<|Rv 75 b0 I c0 (fun _=>Bk I)<|AN (dk b0)<|Au I<|By hb0 func3 I I ?_
 cases h
 exact k0.gv
 cases h
 cases h
 cases h
 cases h
 cases h
 cases h
 cases h
 cases h
 cases h
set_option maxRecDepth 20000 in
set_option maxHeartbeats 4000000 in
theorem bB (n:Nat) {L w} (hL:hl L w) {Z:Machine -> Prop} {cs0:List Frame} {r:Bool} (hb0:RetOK Tryz.prog Z 3 cs0 (fun v9 p=>Agree [] w p/\∀ w8,Agree [] p w8 -> (fun _ u=>u = .bool r) w8 v9)) (x1:Bool) (g0:List Tb) (M0:(List Tb) × Int) {c0:Vc} {x0:Vc} {H4:World} (A9:St w H4 []) (I0:Rep.R H4 (bl [] ++ L) [c0] g0) (v6:Rep.R H4 (bl [] ++ L) [x0] M0.1) {c:Code} (hc0:cdT Tryz.prog 3 12 = some c) (h:aF n x1 g0 M0 = some r):MX Tryz.prog Z (fb 3 .normal none) 455 [] cs0 [.code c] [(1,c0),(2,x0),(5,.bool x1)] H4:=by
 obtain rfl:=Option.some.inj ((eD (k:=12) func3 I I).symm.trans hc0)
 unfold aF at h
 refine Af<|bk h fun Z01 R00 h=>RG.doesH .plain I (Does.mkH (α:=List Tb) (L:=L) R00 A9 bW I (fun _ _=>(Rep.nilSlice _ _))) fun g8 M01 ⟨x02,p5,F0,s00⟩=>Ai I<|Aa<|Ak<|du 97 fun b0 d0=>Rv 0 b0 I d0 (fun _=>Aj I)<|Rv 1 b0 I d0 (fun _=>Aj I)<|RD.ifb (s:=273) I h (fun K8 h=>?_) (fun K8 h=>?_)
 refine AX 3 11 b0 I d0 (.yes I I) (fun _=>Aj I) I<|AU 2 15 b0 I (.yes I I) (bd 22) I (e1 I) (fun p q=>AD (ai_c n (p5.hL hL q) (3:Int)) fun (w8:World) (u8:Vc) ⟨b0_,hu_,s_⟩=>(⟨b0_,hu_,s_.from q⟩:∃ d4:Nat,u8 = Value.func (.func 82) #[] #[vP d4]/\St M01 w8 [.cells d4 [vI 3] 27])) I fun t03 Z02 B02 ⟨d4,M00,d8⟩=>?_
 subst M00
 have q5:=ah p5 d8
 have y0:=am p5 d8
 have t4:=Bl q5 .t1
 have G0:=Bm q5 .t1
 have J7:=Bn (α:=List Tb) (v:=g8) (xs:=Z01) t4 L (Ba (α:=List Tb) q5 .t1 (AK s00 y0) hL)
 refine bk h fun B03 k01 h=>AU 4 31 b0 I (.yes I I) (bd 31) I (e2 I I) (fun p q=>az_c n (t4.hL hL q) (Ah J7 q) (Ah (Bq (α:=Ta) t4 L) q) k01) I fun P01 b03 Q9 ⟨I02,hu_,D00⟩=>?_
 subst hu_
 obtain ⟨K1,z0⟩:=t4.agr Q9
 refine AX 5 63 b0 I d0 (.yes I I) (fun _=>Ac I I) I<|AX 6 127 b0 I d0 (.yes I I) (fun _=>Ac I I) I<|bk h fun j02 p01 h=>AV (i:=7) (m' :=255) (W:=158456325028528675187087900416) (tk b0) I d0 (v:=.bool j02) (fst:=[]) (cap:=[vP d4]) (.yes I I) (bd 82) I (e2 I I) (fun p q=>ab_c n (K1.hL0 hL q) (K1.kd D00 q) (ae q (K1.memA .hd)) p01) I<|Rv 8 b0 I d0 (fun _=>Bc I I)<|Rv 9 b0 I d0 (fun _=>Aj I)<|RD.ifb (s:=281) I h (fun M8 h=>?_) (fun M8 h=>?_)
 refine bk h fun I4 K7 h=>RD.mf (α:=Vc × (List Vc) × Nat) (fun ⟨W2,Y2,y2⟩=>[(1,c0),(2,x0),(5,.bool x1),(15,g8),(281,.bool true),(282,.func (.func 82) #[] #[vP y2]),(283,W2)]) (fun ⟨W2,Y2,y2⟩=>[rr w 34 Ta W2 I4.length Y2,.cells y2 [vI 3] 27]) (fun ⟨W2,Y2,y2⟩ y8=>Cells y8 (bl [rr w 34 Ta W2 I4.length Y2,.cells y2 [vI 3] 27] ++ L) Y2 (I4:List Ta)) K1 85 4095 ?_ ?_
 rintro ⟨W2,Y2,y2⟩ y8 u4 A0 t00
 try dsimp only
 have C02:=Bq (α:=List Tb) u4 L
 have v4:=Bl u4 .hd
 have B0:=Bm u4 .hd
 refine bk h fun C03 q01 h=>AU 12 8191 b0 I (.yes I I) (bd 31) I (e2 I I) (fun p q=>az_c n (v4.hL hL q) (Ah (Bq (α:=List Tb) v4 L) q) (Ah (Bn (α:=Ta) (v:=W2) (xs:=I4) v4 L (Ba (α:=Ta) u4 .hd t00 hL)) q) q01) I fun R01 c03 U9 ⟨J02,hu_,E00⟩=>?_
 subst hu_
 obtain ⟨M1,C0⟩:=v4.agr U9
 refine AX 13 16383 b0 I d0 (.yes I I) (fun _=>Ac I I) I<|AX 14 32767 b0 I d0 (.yes I I) (fun _=>Ac I I) I<|bk h fun k02 s01 h=>AV (i:=15) (m' :=65535) (W:=158456325028528675187087835136) (tk b0) I d0 (v:=.bool k02) (fst:=[]) (cap:=[vP y2]) (.yes I I) (bd 82) I (e2 I I) (fun p q=>ab_c n (M1.hL0 hL q) (M1.kd E00 q) (ae q (M1.memA .hd)) s01) I<|Rv 16 b0 I d0 (fun _=>Bc I I)<|Rv 17 b0 I d0 (fun _=>Aj I)<|RD.ifb (s:=289) I h (fun P8 h=>?_) (fun P8 h=>?_)
 refine AX 19 786431 b0 I d0 (.yes I I) (fun _=>Aj I) I<|bk h fun u03 U00 h=>RD.valE (i:=20) (m' :=1835007) (W:=158456325028528675187083706368) (tk b0) I d0 (.yes I I) I (FV.cutL (α:=List Tb) U00 I I (Ag J7 (Tt z0 (Tt A0 (Tt B0 C0)))) I ⟨_,rfl⟩) fun y01 F00=>bk h fun J4 M7 h=>RD.mf (α:=Vc × (List Vc) × Nat) (fun ⟨X2,Z2,z2⟩=>[(1,c0),(2,x0),(5,.bool x1),(289,.bool true),(292,y01),(290,.func (.func 82) #[] #[vP z2]),(293,X2)]) (fun ⟨X2,Z2,z2⟩=>[rr w 34 Ta X2 J4.length Z2,.cells z2 [vI 50] 27]) (fun ⟨X2,Z2,z2⟩ z8=>Cells z8 (bl [rr w 34 Ta X2 J4.length Z2,.cells z2 [vI 50] 27] ++ L) Z2 (J4:List Ta)) M1 75 4194303 ?_ ?_
 rintro ⟨X2,Z2,z2⟩ z8 s5 D0 u00
 try dsimp only
 have t5:=Bl s5 .hd
 have E0:=Bm s5 .hd
 refine bk h fun D03 t01 h=>AU 22 8388607 b0 I (.yes I I) (bd 31) I (e2 I I) (fun p q=>az_c n (t5.hL hL q) (Ah (Ag F00 (Tt D0 E0)) q) (Ah (Bn (α:=Ta) (v:=X2) (xs:=J4) t5 L (Ba (α:=Ta) s5 .hd u00 hL)) q) t01) I fun V01 d03 W9 ⟨K02,hu_,G00⟩=>?_
 subst hu_
 obtain ⟨P1,H0⟩:=t5.agr W9
 refine AX 23 16777215 b0 I d0 (.yes I I) (fun _=>Ac I I) I<|AX 24 33554431 b0 I d0 (.yes I I) (fun _=>Ac I I) I<|bk h fun p02 u01 h=>AV (i:=25) (m' :=67108863) (W:=158456325028528675187020791808) (tk b0) I d0 (v:=.bool p02) (fst:=[]) (cap:=[vP z2]) (.yes I I) (bd 82) I (e2 I I) (fun p q=>ab_c n (P1.hL0 hL q) (P1.kd G00 q) (ae q (P1.memA .hd)) u01) I<|Rv 26 b0 I d0 (fun _=>Bc I I)<|Rv 27 b0 I d0 (fun _=>Aj I)<|RD.ifb (s:=299) I h (fun Q8 h=>?_) (fun Q8 h=>?_)
 refine AX 29 805306367 b0 I d0 (.yes I I) (fun _=>Aj I) I<|AX 32 5100273663 b0 I d0 (.yes I I) (fun _=>AI (vs:=[]) (u:=.agg zM) ao (fun p=>by kernel_rfl)) I<|bk h fun u0 W7 h=>RD.mf (α:=Vc × (List Vc) × Vc × (List Vc) × Nat) (fun ⟨v2,I2,x2,J2,C1⟩=>[(1,c0),(2,x0),(5,.bool x1),(299,.bool true),(300,.func (.func 82) #[] #[vP C1]),(302,x2),(305,v2)]) (fun ⟨v2,I2,x2,J2,C1⟩=>[rr w 34 Ta v2 (([u0,(⟨(0,0,0,0,0,0,0,0),(0,0,0,0,0,0,0,0)⟩:Ta)]:List Ta).length) I2,rr w 24 (List Tb) x2 (([g0]:List (List Tb)).length) J2,.cells C1 [vI 20] 27]) (fun ⟨v2,I2,x2,J2,C1⟩ U6=>Cells U6 (bl [rr w 34 Ta v2 (([u0,(⟨(0,0,0,0,0,0,0,0),(0,0,0,0,0,0,0,0)⟩:Ta)]:List Ta).length) I2,rr w 24 (List Tb) x2 (([g0]:List (List Tb)).length) J2,.cells C1 [vI 20] 27] ++ L) I2 (([u0,(⟨(0,0,0,0,0,0,0,0),(0,0,0,0,0,0,0,0)⟩:Ta)]:List Ta):List Ta)/\Cells U6 (bl [rr w 34 Ta v2 (([u0,(⟨(0,0,0,0,0,0,0,0),(0,0,0,0,0,0,0,0)⟩:Ta)]:List Ta).length) I2,rr w 24 (List Tb) x2 (([g0]:List (List Tb)).length) J2,.cells C1 [vI 20] 27] ++ L) J2 (([g0]:List (List Tb)):List (List Tb))) P1 63 17179869183 ?_ ?_
 rintro ⟨v2,I2,x2,J2,C1⟩ U6 u5 P0 ⟨v00,x00⟩
 try dsimp only
 have x4:=Bl u5 .t1
 have J0:=Bm u5 .t1
 have v5:=Bl x4 .hd
 have K0:=Bm x4 .hd
 refine bk h fun E03 v01 h=>AU 34 34359738367 b0 I (.yes I I) (bd 31) I (e2 I I) (fun p q=>az_c n (v5.hL hL q) (Ah (Ag (Bn (α:=List Tb) (v:=x2) (xs:=([g0]:List (List Tb))) x4 L (Ba (α:=List Tb) u5 .t1 x00 hL)) K0) q) (Ah (Bn (α:=Ta) (v:=v2) (xs:=([u0,(⟨(0,0,0,0,0,0,0,0),(0,0,0,0,0,0,0,0)⟩:Ta)]:List Ta)) v5 L (Ba (α:=Ta) x4 .hd (AK v00 J0) hL)) q) v01) I fun X01 g03 Y9 ⟨M02,hu_,H00⟩=>?_
 subst hu_
 obtain ⟨R1,Q0⟩:=v5.agr Y9
 refine AX 35 68719476735 b0 I d0 (.yes I I) (fun _=>Ac I I) I<|AX 36 137438953471 b0 I d0 (.yes I I) (fun _=>Ac I I) I<|bk h fun q02 x01 h=>AV (i:=37) (m' :=274877906943) (W:=158456325028528674912209993728) (tk b0) I d0 (v:=.bool q02) (fst:=[]) (cap:=[vP C1]) (.yes I I) (bd 82) I (e2 I I) (fun p q=>ab_c n (R1.hL0 hL q) (R1.kd H00 q) (ae q (R1.memA .hd)) x01) I<|Rv 38 b0 I d0 (fun _=>Bc I I)<|Rv 39 b0 I d0 (fun _=>Aj I)<|RD.ifb (s:=311) I h (fun R8 h=>?_) (fun R8 h=>?_)
 refine AX 41 3298534883327 b0 I d0 (.yes I I) (fun _=>Aj I) I<|bk h fun v0 X7 h=>bk h fun p0 Y7 h=>RD.mf (α:=Vc × (List Vc) × Vc × (List Vc) × Nat) (fun ⟨g2,A2,j2,B2,y1⟩=>[(1,c0),(2,x0),(5,.bool x1),(311,.bool true),(312,.func (.func 82) #[] #[vP y1]),(314,j2),(317,g2)]) (fun ⟨g2,A2,j2,B2,y1⟩=>[rr w 34 Ta g2 (([v0,p0]:List Ta).length) A2,rr w 24 (List Tb) j2 (([g0]:List (List Tb)).length) B2,.cells y1 [vI 2] 27]) (fun ⟨g2,A2,j2,B2,y1⟩ M6=>Cells M6 (bl [rr w 34 Ta g2 (([v0,p0]:List Ta).length) A2,rr w 24 (List Tb) j2 (([g0]:List (List Tb)).length) B2,.cells y1 [vI 2] 27] ++ L) A2 (([v0,p0]:List Ta):List Ta)/\Cells M6 (bl [rr w 34 Ta g2 (([v0,p0]:List Ta).length) A2,rr w 24 (List Tb) j2 (([g0]:List (List Tb)).length) B2,.cells y1 [vI 2] 27] ++ L) B2 (([g0]:List (List Tb)):List (List Tb))) R1 51 70368744177663 ?_ ?_
 rintro ⟨g2,A2,j2,B2,y1⟩ M6 X4 k1 ⟨b00,c00⟩
 try dsimp only
 have g4:=Bl X4 .t1
 have c1:=Bm X4 .t1
 have Y4:=Bl g4 .hd
 have d1:=Bm g4 .hd
 refine bk h fun v03 V00 h=>AU 46 140737488355327 b0 I (.yes I I) (bd 31) I (e2 I I) (fun p q=>az_c n (Y4.hL hL q) (Ah (Ag (Bn (α:=List Tb) (v:=j2) (xs:=([g0]:List (List Tb))) g4 L (Ba (α:=List Tb) X4 .t1 c00 hL)) d1) q) (Ah (Bn (α:=Ta) (v:=g2) (xs:=([v0,p0]:List Ta)) Y4 L (Ba (α:=Ta) g4 .hd (AK b00 c1) hL)) q) V00) I fun F01 P02 G9 ⟨D02,hu_,y00⟩=>?_
 subst hu_
 obtain ⟨D1,p1⟩:=Y4.agr G9
 refine AX 47 281474976710655 b0 I d0 (.yes I I) (fun _=>Ac I I) I<|AX 48 562949953421311 b0 I d0 (.yes I I) (fun _=>Ac I I) I<|bk h fun b02 W00 h=>AV (i:=49) (m' :=1125899906842623) (W:=158456325028527549287181058048) (tk b0) I d0 (v:=.bool b02) (fst:=[]) (cap:=[vP y1]) (.yes I I) (bd 82) I (e2 I I) (fun p q=>ab_c n (D1.hL0 hL q) (D1.kd y00 q) (ae q (D1.memA .hd)) W00) I<|Rv 50 b0 I d0 (fun _=>Bc I I)<|Rv 51 b0 I d0 (fun _=>Aj I)<|RD.ifb (s:=323) I h (fun E8 h=>?_) (fun E8 h=>?_)
 refine AX 53 13510798882111487 b0 I d0 (.yes I I) (fun _=>Aj I) I<|AX 54 31525197391593471 b0 I d0 (.yes I I) (fun _=>Aj I) I<|bk h fun q0 P7 h=>bk h fun j0 Q7 h=>RD.mf (α:=Vc × (List Vc) × Vc × (List Vc) × Nat) (fun ⟨k2,C2,p2,D2,z1⟩=>[(1,c0),(2,x0),(5,.bool x1),(323,.bool true),(324,.func (.func 82) #[] #[vP z1]),(327,p2),(330,k2)]) (fun ⟨k2,C2,p2,D2,z1⟩=>[rr w 34 Ta k2 (([q0,j0]:List Ta).length) C2,rr w 24 (List Tb) p2 (([g0,g0]:List (List Tb)).length) D2,.cells z1 [vI 2] 27]) (fun ⟨k2,C2,p2,D2,z1⟩ P6=>Cells P6 (bl [rr w 34 Ta k2 (([q0,j0]:List Ta).length) C2,rr w 24 (List Tb) p2 (([g0,g0]:List (List Tb)).length) D2,.cells z1 [vI 2] 27] ++ L) C2 (([q0,j0]:List Ta):List Ta)/\Cells P6 (bl [rr w 34 Ta k2 (([q0,j0]:List Ta).length) C2,rr w 24 (List Tb) p2 (([g0,g0]:List (List Tb)).length) D2,.cells z1 [vI 2] 27] ++ L) D2 (([g0,g0]:List (List Tb)):List (List Tb))) D1 38 576460752303423487 ?_ ?_
 rintro ⟨k2,C2,p2,D2,z1⟩ P6 Z4 g3 ⟨d00,g00⟩
 try dsimp only
 have j4:=Bl Z4 .t1
 have P2:=Bm Z4 .t1
 have b5:=Bl j4 .hd
 have Q2:=Bm j4 .hd
 refine bk h fun x03 X00 h=>AU 59 1152921504606846975 b0 I (.yes I I) (bd 31) I (e2 I I) (fun p q=>az_c n (b5.hL hL q) (Ah (Ag (Bn (α:=List Tb) (v:=p2) (xs:=([g0,g0]:List (List Tb))) j4 L (Ba (α:=List Tb) Z4 .t1 g00 hL)) Q2) q) (Ah (Bn (α:=Ta) (v:=k2) (xs:=([q0,j0]:List Ta)) b5 L (Ba (α:=Ta) j4 .hd (AK d00 P2) hL)) q) X00) I fun H01 Q02 I9 ⟨E02,hu_,z00⟩=>?_
 subst hu_
 obtain ⟨G1,j3⟩:=b5.agr I9
 refine AX 60 2305843009213693951 b0 I d0 (.yes I I) (fun _=>Ac I I) I<|AX 61 4611686018427387903 b0 I d0 (.yes I I) (fun _=>Ac I I) I<|bk h fun c02 Y00 h=>AV (i:=62) (m' :=9223372036854775807) (W:=158456325019305303150233124864) (tk b0) I d0 (v:=.bool c02) (fst:=[]) (cap:=[vP z1]) (.yes I I) (bd 82) I (e2 I I) (fun p q=>ab_c n (G1.hL0 hL q) (G1.kd z00 q) (ae q (G1.memA .hd)) Y00) I<|Rv 63 b0 I d0 (fun _=>Bc I I)<|Rv 64 b0 I d0 (fun _=>Aj I)<|RD.ifb (s:=336) I h (fun F8 h=>?_) (fun F8 h=>?_)
 refine AX 66 110680464442257309695 b0 I d0 (.yes I I) (fun _=>Aj I) I<|bk h fun s0 R7 h=>RD.mf (α:=Vc × (List Vc) × Vc × (List Vc) × Nat) (fun ⟨q2,E2,s2,F2,A1⟩=>[(1,c0),(2,x0),(5,.bool x1),(336,.bool true),(337,.func (.func 82) #[] #[vP A1]),(339,s2),(341,q2)]) (fun ⟨q2,E2,s2,F2,A1⟩=>[rr w 34 Ta q2 (([s0]:List Ta).length) E2,rr w 24 (List Tb) s2 (([g0]:List (List Tb)).length) F2,.cells A1 [vI 2] 27]) (fun ⟨q2,E2,s2,F2,A1⟩ Q6=>Cells Q6 (bl [rr w 34 Ta q2 (([s0]:List Ta).length) E2,rr w 24 (List Tb) s2 (([g0]:List (List Tb)).length) F2,.cells A1 [vI 2] 27] ++ L) E2 (([s0]:List Ta):List Ta)/\Cells Q6 (bl [rr w 34 Ta q2 (([s0]:List Ta).length) E2,rr w 24 (List Tb) s2 (([g0]:List (List Tb)).length) F2,.cells A1 [vI 2] 27] ++ L) F2 (([g0]:List (List Tb)):List (List Tb))) G1 27 1180591620717411303423 ?_ ?_
 rintro ⟨q2,E2,s2,F2,A1⟩ Q6 c5 x5 ⟨j00,k00⟩
 try dsimp only
 have k4:=Bl c5 .t1
 have A4:=Bm c5 .t1
 have d5:=Bl k4 .hd
 have B4:=Bm k4 .hd
 refine bk h fun y03 Z00 h=>AU 70 2361183241434822606847 b0 I (.yes I I) (bd 31) I (e2 I I) (fun p q=>az_c n (d5.hL hL q) (Ah (Ag (Bn (α:=List Tb) (v:=s2) (xs:=([g0]:List (List Tb))) k4 L (Ba (α:=List Tb) c5 .t1 k00 hL)) B4) q) (Ah (Bn (α:=Ta) (v:=q2) (xs:=([s0]:List Ta)) d5 L (Ba (α:=Ta) k4 .hd (AK j00 A4) hL)) q) Z00) I fun J01 R02 K9 ⟨F02,hu_,A00⟩=>?_
 subst hu_
 obtain ⟨c3,y5⟩:=d5.agr K9
 refine AX 71 4722366482869645213695 b0 I d0 (.yes I I) (fun _=>Ac I I) I<|AX 72 9444732965739290427391 b0 I d0 (.yes I I) (fun _=>Ac I I) I<|bk h fun d02 b01 h=>AV (i:=73) (m' :=18889465931478580854783) (W:=158456306139062743708507045888) (tk b0) I d0 (v:=.bool d02) (fst:=[]) (cap:=[vP A1]) (.yes I I) (bd 82) I (e2 I I) (fun p q=>ab_c n (c3.hL0 hL q) (c3.kd A00 q) (ae q (c3.memA .hd)) b01) I<|Rv 74 b0 I d0 (fun _=>Bc I I)<|Rv 75 b0 I d0 (fun _=>Aj I)<|RD.ifb (s:=347) I h (fun G8 h=>?_) (fun G8 h=>?_)
 refine AU 76 151115727451828646838271 b0 I (.yes I I) (bd 22) I (e1 I) (fun p q=>AD (ai_c n (c3.hL hL q) (2:Int)) fun (w8:World) (u8:Vc) ⟨b0_,hu_,s_⟩=>(⟨b0_,hu_,s_.from q⟩:∃ b4:Nat,u8 = Value.func (.func 82) #[] #[vP b4]/\St J01 w8 [.cells b4 [vI 2] 27])) I fun j03 U02 y02 ⟨b4,I00,Z7⟩=>?_
 subst I00
 have p4:=ah c3 Z7
 have z5:=am c3 Z7
 refine bk h fun z03 c01 h=>AU 77 302231454903657293676543 b0 I (.yes I I) (bd 31) I (e2 I I) (fun p q=>az_c n (p4.hL hL q) (Ah (Bq (α:=List Tb) p4 L) q) (Ah (Bq (α:=Ta) p4 L) q) c01) I fun K01 V02 M9 ⟨G02,hu_,B00⟩=>?_
 subst hu_
 obtain ⟨I1,A5⟩:=p4.agr M9
 refine AX 78 604462909807314587353087 b0 I d0 (.yes I I) (fun _=>Ac I I) I<|AX 79 1208925819614629174706175 b0 I d0 (.yes I I) (fun _=>Ac I I) I<|bk h fun g02 d01 h=>AV (i:=80) (m' :=2417851639229258349412351) (W:=158453907176889445928738488320) (tk b0) I d0 (v:=.bool g02) (fst:=[]) (cap:=[vP b4]) (.yes I I) (bd 82) I (e2 I I) (fun p q=>ab_c n (I1.hL0 hL q) (I1.kd B00 q) (ae q (I1.memA .hd)) d01) I<|Rv 81 b0 I d0 (fun _=>Bc I I)<|Rv 82 b0 I d0 (fun _=>Aj I)<|RD.ifb (s:=354) I h (fun H8 h=>?_) (fun H8 h=>?_)
 refine AX 83 19342813113834066795298815 b0 I d0 (.yes I I) (fun _=>Aj I) I<|AX 85 58028439341502200385896447 b0 I d0 (.yes I I) (fun _=>Aj I) I<|AX 86 135399691796838467567091711 b0 I d0 (.yes I I) (fun _=>Aj I) I<|bk h fun t0 U7 h=>bk h fun k0 V7 h=>RD.mf (α:=Vc × (List Vc) × Vc × (List Vc) × Nat) (fun ⟨t2,G2,u2,H2,B1⟩=>[(1,c0),(5,.bool x1),(354,.bool true),(356,.func (.func 91) #[] #[vP B1]),(359,u2),(362,t2)]) (fun ⟨t2,G2,u2,H2,B1⟩=>[rr w 34 Ta t2 (([t0,k0]:List Ta).length) G2,rr w 24 (List Tb) u2 (([g0,M0.1]:List (List Tb)).length) H2,.cells B1 [c0] 24]) (fun ⟨t2,G2,u2,H2,B1⟩ R6=>Cells R6 (bl [rr w 34 Ta t2 (([t0,k0]:List Ta).length) G2,rr w 24 (List Tb) u2 (([g0,M0.1]:List (List Tb)).length) H2,.cells B1 [c0] 24] ++ L) G2 (([t0,k0]:List Ta):List Ta)/\Cells R6 (bl [rr w 34 Ta t2 (([t0,k0]:List Ta).length) G2,rr w 24 (List Tb) u2 (([g0,M0.1]:List (List Tb)).length) H2,.cells B1 [c0] 24] ++ L) H2 (([g0,M0.1]:List (List Tb)):List (List Tb))) I1 6 2475880078570760549798248447 ?_ ?_
 rintro ⟨t2,G2,u2,H2,B1⟩ R6 j5 D9 ⟨p00,q00⟩
 try dsimp only
 have s4:=Bl j5 .t1
 have p7:=Bm j5 .t1
 have k5:=Bl s4 .hd
 have q7:=Bm s4 .hd
 refine bk h fun A03 g01 h=>AU 91 4951760157141521099596496895 b0 I (.yes I I) (bd 31) I (e2 I I) (fun p q=>az_c n (k5.hL hL q) (Ah (Ag (Bn (α:=List Tb) (v:=u2) (xs:=([g0,M0.1]:List (List Tb))) s4 L (Ba (α:=List Tb) j5 .t1 q00 hL)) q7) q) (Ah (Bn (α:=Ta) (v:=t2) (xs:=([t0,k0]:List Ta)) k5 L (Ba (α:=Ta) s4 .hd (AK p00 p7) hL)) q) g01) I fun s03 Y02 P9 ⟨H02,hu_,C00⟩=>?_
 subst hu_
 obtain ⟨B3,E9⟩:=k5.agr P9
 refine AX 92 9903520314283042199192993791 b0 I d0 (.yes I I) (fun _=>Ac I I) I<|AX 93 19807040628566084398385987583 b0 I d0 (.yes I I) (fun _=>Ac I I) I<|bk h fun A8 j01 h=>?_
 have C7:=Ag I0 (Tt F0 (Tt y0 (Tt G0 (Tt z0 (Tt A0 (Tt B0 (Tt C0 (Tt D0 (Tt E0 (Tt H0 (Tt P0 (Tt J0 (Tt K0 (Tt Q0 (Tt k1 (Tt c1 (Tt d1 (Tt p1 (Tt g3 (Tt P2 (Tt Q2 (Tt j3 (Tt x5 (Tt A4 (Tt B4 (Tt y5 (Tt z5 (Tt A5 (Tt D9 (Tt p7 (Tt q7 E9)))))))))))))))))))))))))))))))
 refine AV (i:=94) (m' :=39614081257132168796771975167) (W:=118842243771396506390315925504) (tk b0) I d0 (v:=.bool A8) (fst:=[]) (cap:=[vP B1]) (.yes I I) (bd 91) I (e2 I I) (fun p q=>av_c n (B3.hL0 hL q) (B3.kd C00 q) (B3.kd C7 q) (ae q (B3.memA .hd)) j01) I<|Rv 95 b0 I d0 (fun _=>Bc I I)<|Rv 96 b0 I d0 (fun _=>Bk I)<|AN (dk b0) ?_
 obtain ⟨U8,F9⟩:=AA B3 .done
 exact MX.sub (bz n hL hb0 A8 g0 U8 (Ag C7 F9) (eD (k:=14) func3 I I) h) (by repeat (first | refine ⟨rfl,?_⟩ | exact trivial))
 intro Q4
 refine BO [84,87] (rk b0) ⟨?_,?_,trivial⟩
 have s6:=Tt F0 (Tt y0 (Tt G0 (Tt z0 (Tt A0 (Tt B0 (Tt C0 (Tt D0 (Tt E0 (Tt H0 (Tt P0 (Tt J0 (Tt K0 (Tt Q0 (Tt k1 (Tt c1 (Tt d1 (Tt p1 (Tt g3 (Tt P2 (Tt Q2 (Tt j3 (Tt x5 (Tt A4 (Tt B4 (Tt y5 (Tt z5 A5))))))))))))))))))))))))))
 have d6:=Ag I0 s6
 refine RO.call (m' :=154742504910672534362390527) (fst:=[]) (cap:=[]) (sk b0) I (.yes I I) (bd 28) I (e1 I) (fun p q=>AD (aW_c n (I1.hL hL q) g0 (Ah d6 q)) fun (w8:World) (u8:Vc) ⟨b0_,hu_,s_⟩=>(⟨b0_,hu_,s_.from q⟩:∃ u3:Nat,u8 = Value.func (.func 91) #[] #[vP u3]/\St K01 w8 [.cells u3 [c0] 24])) I fun p03 X02 A02 ⟨u3,K00,c8⟩=>?_
 subst K00
 have q4:=ah I1 c8
 have k3:=am I1 c8
 refine AV (i:=88) (m' :=464227514732017603087171583) (W:=157837355008885985049638338560) (tk b0) I d0 (v:=.agg ((aa t0)).toArray) (fst:=[]) (cap:=[]) (.yes I I) (bd 15) I (e2 I I) (fun p q=>ac_c n (q4.hL0 hL q)  U7) I<|AV (i:=89) (m' :=1083197534374707740536733695) (W:=157218384989243294912188776448) (tk b0) I d0 (v:=.agg ((aa k0)).toArray) (fst:=[]) (cap:=[]) (.yes I I) (bd 15) I (e2 I I) (fun p q=>ac_c n (q4.hL0 hL q)  V7) I<|BO [87,90] (rk b0) ⟨?_,?_,trivial⟩
 have I3:=Ag d6 k3
 have J3:=Ag v6 (Tt s6 k3)
 obtain ⟨s02,u02,P00,_⟩:=BD I3
 obtain ⟨t02,v02,Q00,_⟩:=BD J3
 refine RO.new (m' :=1237940039285380274899124223) (sk b0) I (.yes I I) I (AG (α:=List Tb) (xs:=([g0,M0.1]:List (List Tb))) (vs:=[c0,x0]) (ds' :=[c0,x0]) I q4 bW I (e2 I I) (by rw [P00,Q00]; try kernel_rfl) I) fun q03 D8 k7 B5=>?_
 have g6:=Ag I3 B5
 refine RD.nu 90 2475880078570760549798248447 b0 I (.yes I I) I (AG (α:=Ta) (xs:=([t0,k0]:List Ta)) (vs:=[.agg ((aa t0)).toArray,.agg ((aa k0)).toArray]) (ds' :=(aa t0 ++ aa k0)) I k7 bq I (e2 I I) (by kernel_rfl) I) fun q8 v3 J1 X1=>?_
 have W5:=AC (cs:=(aa t0 ++ aa k0)) (xs:=(([t0,k0]:List Ta):List Ta)) J1 L (Ao (cs:=(aa t0)) (ds:=(aa k0)) (aG t0.fN t0.fD) (Ao (cs:=(aa k0)) (ds:=[]) (aG k0.fN k0.fD) (AH _ _)))
 obtain ⟨V8,C5⟩:=AA J1 (.a0 (.a0 (.a0 .done)))
 exact Q4 ((vS v3 2),(aa t0 ++ aa k0),(vS D8 2),[c0,x0],u3) V8 (Tt k3 (Tt B5 (Tt X1 C5))) ⟨(AK W5 C5),(AK (AC (cs:=[c0,x0]) (xs:=(([g0,M0.1]:List (List Tb)):List (List Tb))) k7 L (Ao (cs:=[c0]) (ds:=[x0]) g6 (Ao (cs:=[x0]) (ds:=[]) (Ag J3 B5) (AH _ _)))) (Tt X1 C5))⟩
 refine RO.new (m' :=2321137573660088015435857919) (sk b0) I (.yes I I) I (AG (α:=Ta) (xs:=([t0,k0]:List Ta)) (vs:=[.agg ((aa t0)).toArray,.agg ((aa k0)).toArray]) (ds' :=(aa t0 ++ aa k0)) I q4 bq I (e2 I I) (by kernel_rfl) I) fun q8 v3 J1 X1=>?_
 have W5:=AC (cs:=(aa t0 ++ aa k0)) (xs:=(([t0,k0]:List Ta):List Ta)) J1 L (Ao (cs:=(aa t0)) (ds:=(aa k0)) (aG t0.fN t0.fD) (Ao (cs:=(aa k0)) (ds:=[]) (aG k0.fN k0.fD) (AH _ _)))
 have I3:=Ag d6 (Tt k3 X1)
 have K3:=Ag v6 (Tt s6 (Tt k3 X1))
 obtain ⟨B8,I8,D6,_⟩:=BD I3
 obtain ⟨C8,J8,E6,_⟩:=BD K3
 refine RD.nu 87 2475880078570760549798248447 b0 I (.yes I I) I (AG (α:=List Tb) (xs:=([g0,M0.1]:List (List Tb))) (vs:=[c0,x0]) (ds' :=[c0,x0]) I J1 bW I (e2 I I) (by rw [D6,E6]; try kernel_rfl) I) fun p8 K4 K2 W1=>?_
 have g6:=Ag K3 W1
 have G4:=Ag I3 W1
 have V5:=AC (cs:=[c0,x0]) (xs:=(([g0,M0.1]:List (List Tb)):List (List Tb))) K2 L (Ao (cs:=[c0]) (ds:=[x0]) G4 (Ao (cs:=[x0]) (ds:=[]) g6 (AH _ _)))
 obtain ⟨W8,D5⟩:=AA K2 (.a1 (.a0 (.a0 .done)))
 exact Q4 ((vS v3 2),(aa t0 ++ aa k0),(vS K4 2),[c0,x0],u3) W8 (Tt k3 (Tt X1 (Tt W1 D5))) ⟨(AK W5 (Tt W1 D5)),(AK V5 D5)⟩
 have D7:=Tt F0 (Tt y0 (Tt G0 (Tt z0 (Tt A0 (Tt B0 (Tt C0 (Tt D0 (Tt E0 (Tt H0 (Tt P0 (Tt J0 (Tt K0 (Tt Q0 (Tt k1 (Tt c1 (Tt d1 (Tt p1 (Tt g3 (Tt P2 (Tt Q2 (Tt j3 (Tt x5 (Tt A4 (Tt B4 (Tt y5 (Tt z5 A5))))))))))))))))))))))))))
 have J3:=Ag I0 D7
 have K3:=Ag v6 D7
 obtain ⟨B8,I8,D6,_⟩:=BD J3
 obtain ⟨C8,J8,E6,_⟩:=BD K3
 refine RO.new (m' :=290142196707511001929482239) (sk b0) I (.yes I I) I (AG (α:=List Tb) (xs:=([g0,M0.1]:List (List Tb))) (vs:=[c0,x0]) (ds' :=[c0,x0]) I I1 bW I (e2 I I) (by rw [D6,E6]; try kernel_rfl) I) fun p8 K4 K2 W1=>?_
 have G4:=Ag J3 W1
 have V5:=AC (cs:=[c0,x0]) (xs:=(([g0,M0.1]:List (List Tb)):List (List Tb))) K2 L (Ao (cs:=[c0]) (ds:=[x0]) G4 (Ao (cs:=[x0]) (ds:=[]) (Ag K3 W1) (AH _ _)))
 refine AU 84 309485009821345068724781055 b0 I (.yes I I) (bd 28) I (e1 I) (fun p q=>AD (aW_c n (K2.hL hL q) g0 (Ah G4 q)) fun (w8:World) (u8:Vc) ⟨b0_,hu_,s_⟩=>(⟨b0_,hu_,s_.from q⟩:∃ c4:Nat,u8 = Value.func (.func 91) #[] #[vP c4]/\St p8 w8 [.cells c4 [c0] 24])) I fun k03 W02 z02 ⟨c4,J00,b8⟩=>?_
 subst J00
 have g5:=ah K2 b8
 refine AV (i:=88) (m' :=618970019642690137449562111) (W:=157837355008885985049638338560) (tk b0) I d0 (v:=.agg ((aa t0)).toArray) (fst:=[]) (cap:=[]) (.yes I I) (bd 15) I (e2 I I) (fun p q=>ac_c n (g5.hL0 hL q)  U7) I<|AV (i:=89) (m' :=1237940039285380274899124223) (W:=157218384989243294912188776448) (tk b0) I d0 (v:=.agg ((aa k0)).toArray) (fst:=[]) (cap:=[]) (.yes I I) (bd 15) I (e2 I I) (fun p q=>ac_c n (g5.hL0 hL q)  V7) I<|RD.nu 90 2475880078570760549798248447 b0 I (.yes I I) I (AG (α:=Ta) (xs:=([t0,k0]:List Ta)) (vs:=[.agg ((aa t0)).toArray,.agg ((aa k0)).toArray]) (ds' :=(aa t0 ++ aa k0)) I g5 bq I (e2 I I) (by kernel_rfl) I) fun q8 v3 J1 X1=>?_
 obtain ⟨X8,s7⟩:=AA J1 (.a0 (.a1 (.a0 .done)))
 have E7:=Tt (am K2 b8) (Tt X1 s7)
 exact Q4 ((vS v3 2),(aa t0 ++ aa k0),(vS K4 2),[c0,x0],c4) X8 (Tt W1 E7) ⟨(AK (AC (cs:=(aa t0 ++ aa k0)) (xs:=(([t0,k0]:List Ta):List Ta)) J1 L (Ao (cs:=(aa t0)) (ds:=(aa k0)) (aG t0.fN t0.fD) (Ao (cs:=(aa k0)) (ds:=[]) (aG k0.fN k0.fD) (AH _ _)))) s7),(AK V5 E7)⟩
 cases h
 cases h
 intro R4
 refine BO [65,67] (rk b0) ⟨?_,?_,trivial⟩
 refine RO.call (m' :=147573952589676412927) (fst:=[]) (cap:=[]) (sk b0) I (.yes I I) (bd 22) I (e1 I) (fun p q=>AD (ai_c n (G1.hL hL q) (2:Int)) fun (w8:World) (u8:Vc) ⟨b0_,hu_,s_⟩=>(⟨b0_,hu_,s_.from q⟩:∃ U0:Nat,u8 = Value.func (.func 82) #[] #[vP U0]/\St H01 w8 [.cells U0 [vI 2] 27])) I fun I01 A01 J9 ⟨U0,y6,V3⟩=>?_
 subst y6
 have b3:=ah G1 V3
 have z4:=am G1 V3
 refine AV (i:=68) (m' :=442721857769029238783) (W:=158456324438232864828382248960) (tk b0) I d0 (v:=.agg ((aa s0)).toArray) (fst:=[]) (cap:=[]) (.yes I I) (bd 15) I (e2 I I) (fun p q=>ac_c n (b3.hL0 hL q)  R7) I<|BO [67,69] (rk b0) ⟨?_,?_,trivial⟩
 have q6:=Tt F0 (Tt y0 (Tt G0 (Tt z0 (Tt A0 (Tt B0 (Tt C0 (Tt D0 (Tt E0 (Tt H0 (Tt P0 (Tt J0 (Tt K0 (Tt Q0 (Tt k1 (Tt c1 (Tt d1 (Tt p1 (Tt g3 (Tt P2 (Tt Q2 (Tt j3 z4)))))))))))))))))))))
 have b2:=Ag I0 q6
 obtain ⟨W6,b7,P3,_⟩:=BD b2
 refine RO.new (m' :=590295810358705651711) (sk b0) I (.yes I I) I (AG (α:=List Tb) (xs:=([g0]:List (List Tb))) (vs:=[c0]) (ds' :=[c0]) I b3 bW I (e1 I) (by rw [P3]; try kernel_rfl) I) fun I6 s3 Y0 s1=>?_
 have c6:=Ag b2 s1
 have F3:=AC (cs:=[c0]) (xs:=(([g0]:List (List Tb)):List (List Tb))) Y0 L (Ao (cs:=[c0]) (ds:=[]) c6 (AH _ _))
 refine RD.nu 69 1180591620717411303423 b0 I (.yes I I) I (AG (α:=Ta) (xs:=([s0]:List Ta)) (vs:=[.agg ((aa s0)).toArray]) (ds' :=(aa s0)) I Y0 bq I (e1 I) (by kernel_rfl) I) fun k8 t3 H1 R2=>?_
 have U5:=AC (cs:=(aa s0)) (xs:=(([s0]:List Ta):List Ta)) H1 L (Ao (cs:=(aa s0)) (ds:=[]) (aG s0.fN s0.fD) (AH _ _))
 obtain ⟨Y8,E5⟩:=AA H1 (.a0 (.a0 (.a0 .done)))
 exact R4 ((vS t3 1),(aa s0),(vS s3 1),[c0],U0) Y8 (Tt z4 (Tt s1 (Tt R2 E5))) ⟨(AK U5 E5),(AK F3 (Tt R2 E5))⟩
 refine RO.new (m' :=1033017668127734890495) (sk b0) I (.yes I I) I (AG (α:=Ta) (xs:=([s0]:List Ta)) (vs:=[.agg ((aa s0)).toArray]) (ds' :=(aa s0)) I b3 bq I (e1 I) (by kernel_rfl) I) fun k8 t3 H1 R2=>?_
 have U5:=AC (cs:=(aa s0)) (xs:=(([s0]:List Ta):List Ta)) H1 L (Ao (cs:=(aa s0)) (ds:=[]) (aG s0.fN s0.fD) (AH _ _))
 have q6:=Tt F0 (Tt y0 (Tt G0 (Tt z0 (Tt A0 (Tt B0 (Tt C0 (Tt D0 (Tt E0 (Tt H0 (Tt P0 (Tt J0 (Tt K0 (Tt Q0 (Tt k1 (Tt c1 (Tt d1 (Tt p1 (Tt g3 (Tt P2 (Tt Q2 (Tt j3 (Tt z4 R2))))))))))))))))))))))
 have b2:=Ag I0 q6
 obtain ⟨W6,b7,P3,_⟩:=BD b2
 refine RD.nu 67 1180591620717411303423 b0 I (.yes I I) I (AG (α:=List Tb) (xs:=([g0]:List (List Tb))) (vs:=[c0]) (ds' :=[c0]) I H1 bW I (e1 I) (by rw [P3]; try kernel_rfl) I) fun I6 s3 Y0 s1=>?_
 have c6:=Ag b2 s1
 have F3:=AC (cs:=[c0]) (xs:=(([g0]:List (List Tb)):List (List Tb))) Y0 L (Ao (cs:=[c0]) (ds:=[]) c6 (AH _ _))
 obtain ⟨Z8,F5⟩:=AA Y0 (.a1 (.a0 (.a0 .done)))
 exact R4 ((vS t3 1),(aa s0),(vS s3 1),[c0],U0) Z8 (Tt z4 (Tt R2 (Tt s1 F5))) ⟨(AK U5 (Tt s1 F5)),(AK F3 F5)⟩
 have b2:=Ag I0 (Tt F0 (Tt y0 (Tt G0 (Tt z0 (Tt A0 (Tt B0 (Tt C0 (Tt D0 (Tt E0 (Tt H0 (Tt P0 (Tt J0 (Tt K0 (Tt Q0 (Tt k1 (Tt c1 (Tt d1 (Tt p1 (Tt g3 (Tt P2 (Tt Q2 j3)))))))))))))))))))))
 obtain ⟨W6,b7,P3,_⟩:=BD b2
 refine RO.new (m' :=258254417031933722623) (sk b0) I (.yes I I) I (AG (α:=List Tb) (xs:=([g0]:List (List Tb))) (vs:=[c0]) (ds' :=[c0]) I G1 bW I (e1 I) (by rw [P3]; try kernel_rfl) I) fun I6 s3 Y0 s1=>?_
 have F3:=AC (cs:=[c0]) (xs:=(([g0]:List (List Tb)):List (List Tb))) Y0 L (Ao (cs:=[c0]) (ds:=[]) (Ag b2 s1) (AH _ _))
 refine AU 65 295147905179352825855 b0 I (.yes I I) (bd 22) I (e1 I) (fun p q=>AD (ai_c n (Y0.hL hL q) (2:Int)) fun (w8:World) (u8:Vc) ⟨b0_,hu_,s_⟩=>(⟨b0_,hu_,s_.from q⟩:∃ U0:Nat,u8 = Value.func (.func 82) #[] #[vP U0]/\St I6 w8 [.cells U0 [vI 2] 27])) I fun I01 A01 J9 ⟨U0,y6,V3⟩=>?_
 subst y6
 have b3:=ah Y0 V3
 refine AV (i:=68) (m' :=590295810358705651711) (W:=158456324438232864828382248960) (tk b0) I d0 (v:=.agg ((aa s0)).toArray) (fst:=[]) (cap:=[]) (.yes I I) (bd 15) I (e2 I I) (fun p q=>ac_c n (b3.hL0 hL q)  R7) I<|RD.nu 69 1180591620717411303423 b0 I (.yes I I) I (AG (α:=Ta) (xs:=([s0]:List Ta)) (vs:=[.agg ((aa s0)).toArray]) (ds' :=(aa s0)) I b3 bq I (e1 I) (by kernel_rfl) I) fun k8 t3 H1 R2=>?_
 obtain ⟨b9,t7⟩:=AA H1 (.a0 (.a1 (.a0 .done)))
 have F7:=Tt (am Y0 V3) (Tt R2 t7)
 exact R4 ((vS t3 1),(aa s0),(vS s3 1),[c0],U0) b9 (Tt s1 F7) ⟨(AK (AC (cs:=(aa s0)) (xs:=(([s0]:List Ta):List Ta)) H1 L (Ao (cs:=(aa s0)) (ds:=[]) (aG s0.fN s0.fD) (AH _ _))) t7),(AK F3 F7)⟩
 cases h
 intro U4
 refine BO [52,55] (rk b0) ⟨?_,?_,trivial⟩
 refine RO.call (m' :=36028797018963967) (fst:=[]) (cap:=[]) (sk b0) I (.yes I I) (bd 22) I (e1 I) (fun p q=>AD (ai_c n (D1.hL hL q) (2:Int)) fun (w8:World) (u8:Vc) ⟨b0_,hu_,s_⟩=>(⟨b0_,hu_,s_.from q⟩:∃ R0:Nat,u8 = Value.func (.func 82) #[] #[vP R0]/\St F01 w8 [.cells R0 [vI 2] 27])) I fun G01 z01 H9 ⟨R0,x6,U3⟩=>?_
 subst x6
 have E1:=ah D1 U3
 have y4:=am D1 U3
 refine AV (i:=56) (m' :=108086391056891903) (W:=158456325028384559999012044800) (tk b0) I d0 (v:=.agg ((aa q0)).toArray) (fst:=[]) (cap:=[]) (.yes I I) (bd 15) I (e2 I I) (fun p q=>ac_c n (E1.hL0 hL q)  P7) I<|AV (i:=57) (m' :=252201579132747775) (W:=158456325028240444810936188928) (tk b0) I d0 (v:=.agg ((aa j0)).toArray) (fst:=[]) (cap:=[]) (.yes I I) (bd 15) I (e2 I I) (fun p q=>ac_c n (E1.hL0 hL q)  Q7) I<|BO [55,58] (rk b0) ⟨?_,?_,trivial⟩
 have p6:=Tt F0 (Tt y0 (Tt G0 (Tt z0 (Tt A0 (Tt B0 (Tt C0 (Tt D0 (Tt E0 (Tt H0 (Tt P0 (Tt J0 (Tt K0 (Tt Q0 (Tt k1 (Tt c1 (Tt d1 (Tt p1 y4)))))))))))))))))
 have Y1:=Ag I0 p6
 obtain ⟨V6,Z6,M3,_⟩:=BD Y1
 refine RO.new (m' :=288230376151711743) (sk b0) I (.yes I I) I (AG (α:=List Tb) (xs:=([g0,g0]:List (List Tb))) (vs:=[c0,c0]) (ds' :=[c0,c0]) I E1 bW I (e2 I I) (by rw [M3]; try kernel_rfl) I) fun H6 p3 X0 q1=>?_
 have Z1:=Ag Y1 q1
 have E3:=AC (cs:=[c0,c0]) (xs:=(([g0,g0]:List (List Tb)):List (List Tb))) X0 L (Ao (cs:=[c0]) (ds:=[c0]) Z1 (Ao (cs:=[c0]) (ds:=[]) Z1 (AH _ _)))
 refine RD.nu 58 576460752303423487 b0 I (.yes I I) I (AG (α:=Ta) (xs:=([q0,j0]:List Ta)) (vs:=[.agg ((aa q0)).toArray,.agg ((aa j0)).toArray]) (ds' :=(aa q0 ++ aa j0)) I X0 bq I (e2 I I) (by kernel_rfl) I) fun j8 q3 F1 M2=>?_
 have R5:=AC (cs:=(aa q0 ++ aa j0)) (xs:=(([q0,j0]:List Ta):List Ta)) F1 L (Ao (cs:=(aa q0)) (ds:=(aa j0)) (aG q0.fN q0.fD) (Ao (cs:=(aa j0)) (ds:=[]) (aG j0.fN j0.fD) (AH _ _)))
 obtain ⟨c9,G5⟩:=AA F1 (.a0 (.a0 (.a0 .done)))
 exact U4 ((vS q3 2),(aa q0 ++ aa j0),(vS p3 2),[c0,c0],R0) c9 (Tt y4 (Tt q1 (Tt M2 G5))) ⟨(AK R5 G5),(AK E3 (Tt M2 G5))⟩
 refine RO.new (m' :=540431955284459519) (sk b0) I (.yes I I) I (AG (α:=Ta) (xs:=([q0,j0]:List Ta)) (vs:=[.agg ((aa q0)).toArray,.agg ((aa j0)).toArray]) (ds' :=(aa q0 ++ aa j0)) I E1 bq I (e2 I I) (by kernel_rfl) I) fun j8 q3 F1 M2=>?_
 have R5:=AC (cs:=(aa q0 ++ aa j0)) (xs:=(([q0,j0]:List Ta):List Ta)) F1 L (Ao (cs:=(aa q0)) (ds:=(aa j0)) (aG q0.fN q0.fD) (Ao (cs:=(aa j0)) (ds:=[]) (aG j0.fN j0.fD) (AH _ _)))
 have p6:=Tt F0 (Tt y0 (Tt G0 (Tt z0 (Tt A0 (Tt B0 (Tt C0 (Tt D0 (Tt E0 (Tt H0 (Tt P0 (Tt J0 (Tt K0 (Tt Q0 (Tt k1 (Tt c1 (Tt d1 (Tt p1 (Tt y4 M2))))))))))))))))))
 have Y1:=Ag I0 p6
 obtain ⟨V6,Z6,M3,_⟩:=BD Y1
 refine RD.nu 55 576460752303423487 b0 I (.yes I I) I (AG (α:=List Tb) (xs:=([g0,g0]:List (List Tb))) (vs:=[c0,c0]) (ds' :=[c0,c0]) I F1 bW I (e2 I I) (by rw [M3]; try kernel_rfl) I) fun H6 p3 X0 q1=>?_
 have Z1:=Ag Y1 q1
 have E3:=AC (cs:=[c0,c0]) (xs:=(([g0,g0]:List (List Tb)):List (List Tb))) X0 L (Ao (cs:=[c0]) (ds:=[c0]) Z1 (Ao (cs:=[c0]) (ds:=[]) Z1 (AH _ _)))
 obtain ⟨d9,H5⟩:=AA X0 (.a1 (.a0 (.a0 .done)))
 exact U4 ((vS q3 2),(aa q0 ++ aa j0),(vS p3 2),[c0,c0],R0) d9 (Tt y4 (Tt M2 (Tt q1 H5))) ⟨(AK R5 (Tt q1 H5)),(AK E3 H5)⟩
 have Y1:=Ag I0 (Tt F0 (Tt y0 (Tt G0 (Tt z0 (Tt A0 (Tt B0 (Tt C0 (Tt D0 (Tt E0 (Tt H0 (Tt P0 (Tt J0 (Tt K0 (Tt Q0 (Tt k1 (Tt c1 (Tt d1 p1)))))))))))))))))
 obtain ⟨V6,Z6,M3,_⟩:=BD Y1
 refine RO.new (m' :=67553994410557439) (sk b0) I (.yes I I) I (AG (α:=List Tb) (xs:=([g0,g0]:List (List Tb))) (vs:=[c0,c0]) (ds' :=[c0,c0]) I D1 bW I (e2 I I) (by rw [M3]; try kernel_rfl) I) fun H6 p3 X0 q1=>?_
 have Z1:=Ag Y1 q1
 have E3:=AC (cs:=[c0,c0]) (xs:=(([g0,g0]:List (List Tb)):List (List Tb))) X0 L (Ao (cs:=[c0]) (ds:=[c0]) Z1 (Ao (cs:=[c0]) (ds:=[]) Z1 (AH _ _)))
 refine AU 52 72057594037927935 b0 I (.yes I I) (bd 22) I (e1 I) (fun p q=>AD (ai_c n (X0.hL hL q) (2:Int)) fun (w8:World) (u8:Vc) ⟨b0_,hu_,s_⟩=>(⟨b0_,hu_,s_.from q⟩:∃ R0:Nat,u8 = Value.func (.func 82) #[] #[vP R0]/\St H6 w8 [.cells R0 [vI 2] 27])) I fun G01 z01 H9 ⟨R0,x6,U3⟩=>?_
 subst x6
 have E1:=ah X0 U3
 refine AV (i:=56) (m' :=144115188075855871) (W:=158456325028384559999012044800) (tk b0) I d0 (v:=.agg ((aa q0)).toArray) (fst:=[]) (cap:=[]) (.yes I I) (bd 15) I (e2 I I) (fun p q=>ac_c n (E1.hL0 hL q)  P7) I<|AV (i:=57) (m' :=288230376151711743) (W:=158456325028240444810936188928) (tk b0) I d0 (v:=.agg ((aa j0)).toArray) (fst:=[]) (cap:=[]) (.yes I I) (bd 15) I (e2 I I) (fun p q=>ac_c n (E1.hL0 hL q)  Q7) I<|RD.nu 58 576460752303423487 b0 I (.yes I I) I (AG (α:=Ta) (xs:=([q0,j0]:List Ta)) (vs:=[.agg ((aa q0)).toArray,.agg ((aa j0)).toArray]) (ds' :=(aa q0 ++ aa j0)) I E1 bq I (e2 I I) (by kernel_rfl) I) fun j8 q3 F1 M2=>?_
 obtain ⟨g9,u7⟩:=AA F1 (.a0 (.a1 (.a0 .done)))
 have G7:=Tt (am X0 U3) (Tt M2 u7)
 exact U4 ((vS q3 2),(aa q0 ++ aa j0),(vS p3 2),[c0,c0],R0) g9 (Tt q1 G7) ⟨(AK (AC (cs:=(aa q0 ++ aa j0)) (xs:=(([q0,j0]:List Ta):List Ta)) F1 L (Ao (cs:=(aa q0)) (ds:=(aa j0)) (aG q0.fN q0.fD) (Ao (cs:=(aa j0)) (ds:=[]) (aG j0.fN j0.fD) (AH _ _)))) u7),(AK E3 G7)⟩
 cases h
 intro V4
 refine BO [40,42] (rk b0) ⟨?_,?_,trivial⟩
 refine RO.call (m' :=4398046511103) (fst:=[]) (cap:=[]) (sk b0) I (.yes I I) (bd 22) I (e1 I) (fun p q=>AD (ai_c n (R1.hL hL q) (2:Int)) fun (w8:World) (u8:Vc) ⟨b0_,hu_,s_⟩=>(⟨b0_,hu_,s_.from q⟩:∃ W0:Nat,u8 = Value.func (.func 82) #[] #[vP W0]/\St X01 w8 [.cells W0 [vI 2] 27])) I fun Y01 E01 Z9 ⟨W0,C6,Z3⟩=>?_
 subst C6
 have U1:=ah R1 Z3
 have F4:=am R1 Z3
 refine AV (i:=43) (m' :=13194139533311) (W:=158456325028528657594901856256) (tk b0) I d0 (v:=.agg ((aa v0)).toArray) (fst:=[]) (cap:=[]) (.yes I I) (bd 15) I (e2 I I) (fun p q=>ac_c n (U1.hL0 hL q)  X7) I<|AV (i:=44) (m' :=30786325577727) (W:=158456325028528640002715811840) (tk b0) I d0 (v:=.agg ((aa p0)).toArray) (fst:=[]) (cap:=[]) (.yes I I) (bd 15) I (e2 I I) (fun p q=>ac_c n (U1.hL0 hL q)  Y7) I<|BO [42,45] (rk b0) ⟨?_,?_,trivial⟩
 have u6:=Tt F0 (Tt y0 (Tt G0 (Tt z0 (Tt A0 (Tt B0 (Tt C0 (Tt D0 (Tt E0 (Tt H0 (Tt P0 (Tt J0 (Tt K0 (Tt Q0 F4)))))))))))))
 have d2:=Ag I0 u6
 obtain ⟨Y6,d7,R3,_⟩:=BD d2
 refine RO.new (m' :=35184372088831) (sk b0) I (.yes I I) I (AG (α:=List Tb) (xs:=([g0]:List (List Tb))) (vs:=[c0]) (ds' :=[c0]) I U1 bW I (e1 I) (by rw [R3]; try kernel_rfl) I) fun K6 z3 b1 v1=>?_
 have k6:=Ag d2 v1
 have H3:=AC (cs:=[c0]) (xs:=(([g0]:List (List Tb)):List (List Tb))) b1 L (Ao (cs:=[c0]) (ds:=[]) k6 (AH _ _))
 refine RD.nu 45 70368744177663 b0 I (.yes I I) I (AG (α:=Ta) (xs:=([v0,p0]:List Ta)) (vs:=[.agg ((aa v0)).toArray,.agg ((aa p0)).toArray]) (ds' :=(aa v0 ++ aa p0)) I b1 bq I (e2 I I) (by kernel_rfl) I) fun x8 A3 V1 V2=>?_
 have b6:=AC (cs:=(aa v0 ++ aa p0)) (xs:=(([v0,p0]:List Ta):List Ta)) V1 L (Ao (cs:=(aa v0)) (ds:=(aa p0)) (aG v0.fN v0.fD) (Ao (cs:=(aa p0)) (ds:=[]) (aG p0.fN p0.fD) (AH _ _)))
 obtain ⟨j9,I5⟩:=AA V1 (.a0 (.a0 (.a0 .done)))
 exact V4 ((vS A3 2),(aa v0 ++ aa p0),(vS z3 1),[c0],W0) j9 (Tt F4 (Tt v1 (Tt V2 I5))) ⟨(AK b6 I5),(AK H3 (Tt V2 I5))⟩
 refine RO.new (m' :=65970697666559) (sk b0) I (.yes I I) I (AG (α:=Ta) (xs:=([v0,p0]:List Ta)) (vs:=[.agg ((aa v0)).toArray,.agg ((aa p0)).toArray]) (ds' :=(aa v0 ++ aa p0)) I U1 bq I (e2 I I) (by kernel_rfl) I) fun x8 A3 V1 V2=>?_
 have b6:=AC (cs:=(aa v0 ++ aa p0)) (xs:=(([v0,p0]:List Ta):List Ta)) V1 L (Ao (cs:=(aa v0)) (ds:=(aa p0)) (aG v0.fN v0.fD) (Ao (cs:=(aa p0)) (ds:=[]) (aG p0.fN p0.fD) (AH _ _)))
 have u6:=Tt F0 (Tt y0 (Tt G0 (Tt z0 (Tt A0 (Tt B0 (Tt C0 (Tt D0 (Tt E0 (Tt H0 (Tt P0 (Tt J0 (Tt K0 (Tt Q0 (Tt F4 V2))))))))))))))
 have d2:=Ag I0 u6
 obtain ⟨Y6,d7,R3,_⟩:=BD d2
 refine RD.nu 42 70368744177663 b0 I (.yes I I) I (AG (α:=List Tb) (xs:=([g0]:List (List Tb))) (vs:=[c0]) (ds' :=[c0]) I V1 bW I (e1 I) (by rw [R3]; try kernel_rfl) I) fun K6 z3 b1 v1=>?_
 have k6:=Ag d2 v1
 have H3:=AC (cs:=[c0]) (xs:=(([g0]:List (List Tb)):List (List Tb))) b1 L (Ao (cs:=[c0]) (ds:=[]) k6 (AH _ _))
 obtain ⟨k9,J5⟩:=AA b1 (.a1 (.a0 (.a0 .done)))
 exact V4 ((vS A3 2),(aa v0 ++ aa p0),(vS z3 1),[c0],W0) k9 (Tt F4 (Tt V2 (Tt v1 J5))) ⟨(AK b6 (Tt v1 J5)),(AK H3 J5)⟩
 have d2:=Ag I0 (Tt F0 (Tt y0 (Tt G0 (Tt z0 (Tt A0 (Tt B0 (Tt C0 (Tt D0 (Tt E0 (Tt H0 (Tt P0 (Tt J0 (Tt K0 Q0)))))))))))))
 obtain ⟨Y6,d7,R3,_⟩:=BD d2
 refine RO.new (m' :=7696581394431) (sk b0) I (.yes I I) I (AG (α:=List Tb) (xs:=([g0]:List (List Tb))) (vs:=[c0]) (ds' :=[c0]) I R1 bW I (e1 I) (by rw [R3]; try kernel_rfl) I) fun K6 z3 b1 v1=>?_
 have H3:=AC (cs:=[c0]) (xs:=(([g0]:List (List Tb)):List (List Tb))) b1 L (Ao (cs:=[c0]) (ds:=[]) (Ag d2 v1) (AH _ _))
 refine AU 40 8796093022207 b0 I (.yes I I) (bd 22) I (e1 I) (fun p q=>AD (ai_c n (b1.hL hL q) (2:Int)) fun (w8:World) (u8:Vc) ⟨b0_,hu_,s_⟩=>(⟨b0_,hu_,s_.from q⟩:∃ W0:Nat,u8 = Value.func (.func 82) #[] #[vP W0]/\St K6 w8 [.cells W0 [vI 2] 27])) I fun Y01 E01 Z9 ⟨W0,C6,Z3⟩=>?_
 subst C6
 have U1:=ah b1 Z3
 refine AV (i:=43) (m' :=17592186044415) (W:=158456325028528657594901856256) (tk b0) I d0 (v:=.agg ((aa v0)).toArray) (fst:=[]) (cap:=[]) (.yes I I) (bd 15) I (e2 I I) (fun p q=>ac_c n (U1.hL0 hL q)  X7) I<|AV (i:=44) (m' :=35184372088831) (W:=158456325028528640002715811840) (tk b0) I d0 (v:=.agg ((aa p0)).toArray) (fst:=[]) (cap:=[]) (.yes I I) (bd 15) I (e2 I I) (fun p q=>ac_c n (U1.hL0 hL q)  Y7) I<|RD.nu 45 70368744177663 b0 I (.yes I I) I (AG (α:=Ta) (xs:=([v0,p0]:List Ta)) (vs:=[.agg ((aa v0)).toArray,.agg ((aa p0)).toArray]) (ds' :=(aa v0 ++ aa p0)) I U1 bq I (e2 I I) (by kernel_rfl) I) fun x8 A3 V1 V2=>?_
 obtain ⟨p9,v7⟩:=AA V1 (.a0 (.a1 (.a0 .done)))
 have H7:=Tt (am b1 Z3) (Tt V2 v7)
 exact V4 ((vS A3 2),(aa v0 ++ aa p0),(vS z3 1),[c0],W0) p9 (Tt v1 H7) ⟨(AK (AC (cs:=(aa v0 ++ aa p0)) (xs:=(([v0,p0]:List Ta):List Ta)) V1 L (Ao (cs:=(aa v0)) (ds:=(aa p0)) (aG v0.fN v0.fD) (Ao (cs:=(aa p0)) (ds:=[]) (aG p0.fN p0.fD) (AH _ _)))) v7),(AK H3 H7)⟩
 cases h
 intro W4
 refine BO [28,30] (rk b0) ⟨?_,?_,trivial⟩
 refine RO.call (m' :=5368709119) (fst:=[]) (cap:=[]) (sk b0) I (.yes I I) (bd 22) I (e1 I) (fun p q=>AD (ai_c n (P1.hL hL q) (20:Int)) fun (w8:World) (u8:Vc) ⟨b0_,hu_,s_⟩=>(⟨b0_,hu_,s_.from q⟩:∃ V0:Nat,u8 = Value.func (.func 82) #[] #[vP V0]/\St V01 w8 [.cells V0 [vI 20] 27])) I fun W01 D01 X9 ⟨V0,B6,Y3⟩=>?_
 subst B6
 have d3:=ah P1 Y3
 have E4:=am P1 Y3
 refine AV (i:=31) (m' :=7516192767) (W:=158456325028528675178497966080) (tk b0) I d0 (v:=.agg ((aa u0)).toArray) (fst:=[]) (cap:=[]) (.yes I I) (bd 15) I (e2 I I) (fun p q=>ac_c n (d3.hL0 hL q)  W7) I<|BO [30,33] (rk b0) ⟨?_,?_,trivial⟩
 have t6:=Tt F0 (Tt y0 (Tt G0 (Tt z0 (Tt A0 (Tt B0 (Tt C0 (Tt D0 (Tt E0 (Tt H0 E4)))))))))
 have c2:=Ag I0 t6
 obtain ⟨X6,c7,Q3,_⟩:=BD c2
 refine RO.new (m' :=8589934591) (sk b0) I (.yes I I) I (AG (α:=List Tb) (xs:=([g0]:List (List Tb))) (vs:=[c0]) (ds' :=[c0]) I d3 bW I (e1 I) (by rw [Q3]; try kernel_rfl) I) fun J6 x3 Z0 u1=>?_
 have j6:=Ag c2 u1
 have G3:=AC (cs:=[c0]) (xs:=(([g0]:List (List Tb)):List (List Tb))) Z0 L (Ao (cs:=[c0]) (ds:=[]) j6 (AH _ _))
 refine RD.nu 33 17179869183 b0 I (.yes I I) I (AG (α:=Ta) (xs:=([u0,(⟨(0,0,0,0,0,0,0,0),(0,0,0,0,0,0,0,0)⟩:Ta)]:List Ta)) (vs:=[.agg ((aa u0)).toArray,.agg zM]) (ds' :=(aa u0 ++ (zL:List Vc))) I Z0 bq I (e2 I I) (by kernel_rfl) I) fun v8 y3 Q1 U2=>?_
 have Z5:=AC (cs:=(aa u0 ++ (zL:List Vc))) (xs:=(([u0,(⟨(0,0,0,0,0,0,0,0),(0,0,0,0,0,0,0,0)⟩:Ta)]:List Ta):List Ta)) Q1 L (Ao (cs:=(aa u0)) (ds:=zL) (aG u0.fN u0.fD) (Ao (cs:=zL) (ds:=[]) (aG (0,0,0,0,0,0,0,0) (0,0,0,0,0,0,0,0)) (AH _ _)))
 obtain ⟨q9,K5⟩:=AA Q1 (.a0 (.a0 (.a0 .done)))
 exact W4 ((vS y3 2),(aa u0 ++ (zL:List Vc)),(vS x3 1),[c0],V0) q9 (Tt E4 (Tt u1 (Tt U2 K5))) ⟨(AK Z5 K5),(AK G3 (Tt U2 K5))⟩
 refine RO.new (m' :=16106127359) (sk b0) I (.yes I I) I (AG (α:=Ta) (xs:=([u0,(⟨(0,0,0,0,0,0,0,0),(0,0,0,0,0,0,0,0)⟩:Ta)]:List Ta)) (vs:=[.agg ((aa u0)).toArray,.agg zM]) (ds' :=(aa u0 ++ (zL:List Vc))) I d3 bq I (e2 I I) (by kernel_rfl) I) fun v8 y3 Q1 U2=>?_
 have Z5:=AC (cs:=(aa u0 ++ (zL:List Vc))) (xs:=(([u0,(⟨(0,0,0,0,0,0,0,0),(0,0,0,0,0,0,0,0)⟩:Ta)]:List Ta):List Ta)) Q1 L (Ao (cs:=(aa u0)) (ds:=zL) (aG u0.fN u0.fD) (Ao (cs:=zL) (ds:=[]) (aG (0,0,0,0,0,0,0,0) (0,0,0,0,0,0,0,0)) (AH _ _)))
 have t6:=Tt F0 (Tt y0 (Tt G0 (Tt z0 (Tt A0 (Tt B0 (Tt C0 (Tt D0 (Tt E0 (Tt H0 (Tt E4 U2))))))))))
 have c2:=Ag I0 t6
 obtain ⟨X6,c7,Q3,_⟩:=BD c2
 refine RD.nu 30 17179869183 b0 I (.yes I I) I (AG (α:=List Tb) (xs:=([g0]:List (List Tb))) (vs:=[c0]) (ds' :=[c0]) I Q1 bW I (e1 I) (by rw [Q3]; try kernel_rfl) I) fun J6 x3 Z0 u1=>?_
 have j6:=Ag c2 u1
 have G3:=AC (cs:=[c0]) (xs:=(([g0]:List (List Tb)):List (List Tb))) Z0 L (Ao (cs:=[c0]) (ds:=[]) j6 (AH _ _))
 obtain ⟨s9,M5⟩:=AA Z0 (.a1 (.a0 (.a0 .done)))
 exact W4 ((vS y3 2),(aa u0 ++ (zL:List Vc)),(vS x3 1),[c0],V0) s9 (Tt E4 (Tt U2 (Tt u1 M5))) ⟨(AK Z5 (Tt u1 M5)),(AK G3 M5)⟩
 have c2:=Ag I0 (Tt F0 (Tt y0 (Tt G0 (Tt z0 (Tt A0 (Tt B0 (Tt C0 (Tt D0 (Tt E0 H0)))))))))
 obtain ⟨X6,c7,Q3,_⟩:=BD c2
 refine RO.new (m' :=6174015487) (sk b0) I (.yes I I) I (AG (α:=List Tb) (xs:=([g0]:List (List Tb))) (vs:=[c0]) (ds' :=[c0]) I P1 bW I (e1 I) (by rw [Q3]; try kernel_rfl) I) fun J6 x3 Z0 u1=>?_
 have G3:=AC (cs:=[c0]) (xs:=(([g0]:List (List Tb)):List (List Tb))) Z0 L (Ao (cs:=[c0]) (ds:=[]) (Ag c2 u1) (AH _ _))
 refine AU 28 6442450943 b0 I (.yes I I) (bd 22) I (e1 I) (fun p q=>AD (ai_c n (Z0.hL hL q) (20:Int)) fun (w8:World) (u8:Vc) ⟨b0_,hu_,s_⟩=>(⟨b0_,hu_,s_.from q⟩:∃ V0:Nat,u8 = Value.func (.func 82) #[] #[vP V0]/\St J6 w8 [.cells V0 [vI 20] 27])) I fun W01 D01 X9 ⟨V0,B6,Y3⟩=>?_
 subst B6
 have d3:=ah Z0 Y3
 refine AV (i:=31) (m' :=8589934591) (W:=158456325028528675178497966080) (tk b0) I d0 (v:=.agg ((aa u0)).toArray) (fst:=[]) (cap:=[]) (.yes I I) (bd 15) I (e2 I I) (fun p q=>ac_c n (d3.hL0 hL q)  W7) I<|RD.nu 33 17179869183 b0 I (.yes I I) I (AG (α:=Ta) (xs:=([u0,(⟨(0,0,0,0,0,0,0,0),(0,0,0,0,0,0,0,0)⟩:Ta)]:List Ta)) (vs:=[.agg ((aa u0)).toArray,.agg zM]) (ds' :=(aa u0 ++ (zL:List Vc))) I d3 bq I (e2 I I) (by kernel_rfl) I) fun v8 y3 Q1 U2=>?_
 obtain ⟨t9,x7⟩:=AA Q1 (.a0 (.a1 (.a0 .done)))
 have I7:=Tt (am Z0 Y3) (Tt U2 x7)
 exact W4 ((vS y3 2),(aa u0 ++ (zL:List Vc)),(vS x3 1),[c0],V0) t9 (Tt u1 I7) ⟨(AK (AC (cs:=(aa u0 ++ (zL:List Vc))) (xs:=(([u0,(⟨(0,0,0,0,0,0,0,0),(0,0,0,0,0,0,0,0)⟩:Ta)]:List Ta):List Ta)) Q1 L (Ao (cs:=(aa u0)) (ds:=zL) (aG u0.fN u0.fD) (Ao (cs:=zL) (ds:=[]) (aG (0,0,0,0,0,0,0,0) (0,0,0,0,0,0,0,0)) (AH _ _)))) x7),(AK G3 I7)⟩
 cases h
 intro g7
 refine BO [18,21] (rk b0) ⟨?_,?_,trivial⟩
 refine RO.call (m' :=2097151) (fst:=[]) (cap:=[]) (sk b0) I (.yes I I) (bd 22) I (e1 I) (fun p q=>AD (ai_c n (M1.hL hL q) (50:Int)) fun (w8:World) (u8:Vc) ⟨b0_,hu_,s_⟩=>(⟨b0_,hu_,s_.from q⟩:∃ j1:Nat,u8 = Value.func (.func 82) #[] #[vP j1]/\St R01 w8 [.cells j1 [vI 50] 27])) I fun U01 C01 V9 ⟨j1,A6,X3⟩=>?_
 subst A6
 have C9:=ah M1 X3
 have D4:=am M1 X3
 refine BK (i:=21) (rk b0) (RO.does (m' :=4194303) (sk b0) I (.yes I I) I (Does.mkH (α:=Ta) (L:=L) M7 C9 bq I (fun _ _=>(aG (0,0,0,0,0,0,0,0) (0,0,0,0,0,0,0,0)))) (fun G6 t8 ⟨P4,D3,Q5,Y5⟩=>?_))
 obtain ⟨u9,y7⟩:=AA D3 (.a0 (.a0 .done))
 exact g7 (G6,P4,j1) u9 (Tt D4 (Tt Q5 y7)) (AK Y5 y7)
 refine RO.does (m' :=3932159) (sk b0) I (.yes I I) I (Does.mkH (α:=Ta) (L:=L) M7 M1 bq I (fun _ _=>(aG (0,0,0,0,0,0,0,0) (0,0,0,0,0,0,0,0)))) fun G6 t8 ⟨P4,D3,Q5,Y5⟩=>AU 18 4194303 b0 I (.yes I I) (bd 22) I (e1 I) (fun p q=>AD (ai_c n (D3.hL hL q) (50:Int)) fun (w8:World) (u8:Vc) ⟨b0_,hu_,s_⟩=>(⟨b0_,hu_,s_.from q⟩:∃ j1:Nat,u8 = Value.func (.func 82) #[] #[vP j1]/\St t8 w8 [.cells j1 [vI 50] 27])) I fun U01 C01 V9 ⟨j1,A6,X3⟩=>?_
 subst A6
 have D4:=am D3 X3
 obtain ⟨x9,z7⟩:=AA (ah D3 X3) (.a1 (.a0 .done))
 exact g7 (G6,P4,j1) x9 (Tt Q5 (Tt D4 z7)) (AK Y5 (Tt D4 z7))
 cases h
 intro j7
 refine BO [10,11] (rk b0) ⟨?_,?_,trivial⟩
 refine RO.call (m' :=2047) (fst:=[]) (cap:=[]) (sk b0) I (.yes I I) (bd 22) I (e1 I) (fun p q=>AD (ai_c n (K1.hL hL q) (3:Int)) fun (w8:World) (u8:Vc) ⟨b0_,hu_,s_⟩=>(⟨b0_,hu_,s_.from q⟩:∃ g1:Nat,u8 = Value.func (.func 82) #[] #[vP g1]/\St P01 w8 [.cells g1 [vI 3] 27])) I fun Q01 B01 R9 ⟨g1,z6,W3⟩=>?_
 subst z6
 have B9:=ah K1 W3
 have C4:=am K1 W3
 refine BK (i:=11) (rk b0) (RO.does (m' :=4095) (sk b0) I (.yes I I) I (Does.mkH (α:=Ta) (L:=L) K7 B9 bq I (fun _ _=>(aG (0,0,0,0,0,0,0,0) (0,0,0,0,0,0,0,0)))) (fun F6 s8 ⟨M4,C3,P5,X5⟩=>?_))
 obtain ⟨y9,A7⟩:=AA C3 (.a0 (.a0 .done))
 exact j7 (F6,M4,g1) y9 (Tt C4 (Tt P5 A7)) (AK X5 A7)
 refine RO.does (m' :=3071) (sk b0) I (.yes I I) I (Does.mkH (α:=Ta) (L:=L) K7 K1 bq I (fun _ _=>(aG (0,0,0,0,0,0,0,0) (0,0,0,0,0,0,0,0)))) fun F6 s8 ⟨M4,C3,P5,X5⟩=>AU 10 4095 b0 I (.yes I I) (bd 22) I (e1 I) (fun p q=>AD (ai_c n (C3.hL hL q) (3:Int)) fun (w8:World) (u8:Vc) ⟨b0_,hu_,s_⟩=>(⟨b0_,hu_,s_.from q⟩:∃ g1:Nat,u8 = Value.func (.func 82) #[] #[vP g1]/\St s8 w8 [.cells g1 [vI 3] 27])) I fun Q01 B01 R9 ⟨g1,z6,W3⟩=>?_
 subst z6
 have C4:=am C3 W3
 obtain ⟨z9,B7⟩:=AA (ah C3 W3) (.a1 (.a0 .done))
 exact j7 (F6,M4,g1) z9 (Tt P5 (Tt C4 B7)) (AK X5 (Tt C4 B7))
 cases h
 cases h
set_option maxRecDepth 20000 in
set_option maxHeartbeats 4000000 in
theorem bI (n:Nat) {L w} (hL:hl L w) {Z:Machine -> Prop} {cs0:List Frame} {r:Bool} (hb0:RetOK Tryz.prog Z 3 cs0 (fun v9 p=>Agree [] w p/\∀ w8,Agree [] p w8 -> (fun _ u=>u = .bool r) w8 v9)) (j2:List Tb) (Z0:Bool) (k2:(List Tb) × Int) {Y0:Vc} {X0:Vc} {F1:World} (C2:St w F1 []) (K5:Rep.R F1 (bl [] ++ L) [Y0] j2) (M5:Rep.R F1 (bl [] ++ L) [X0] k2.1) {c:Code} (hc0:cdT Tryz.prog 3 7 = some c) (h:aH n j2 Z0 k2 = some r):MX Tryz.prog Z (fb 3 .normal none) 455 [] cs0 [.code c] [(0,.bool false),(1,Y0),(2,X0),(5,.bool (!Z0))] F1:=by
 obtain rfl:=Option.some.inj ((eD (k:=7) func3 I I).symm.trans hc0)
 unfold aH at h
 refine Af<|Ai I<|Aa<|Ak<|Af<|Ae I<|Aa<|Aw ?_
 have D2:=C2.nilRow 34 (Rep.size Ta)
 have Y4:=St.nilRowT C2 34 (Rep.size Ta)
 obtain ⟨V7,A5,y5⟩:=aw h
 refine MX.lf (α:=Nat × (List Ta) × Vc × (List Vc)) (fun ⟨d0,p0,v0,A0⟩=>[(1,Y0),(2,X0),(5,.bool (!Z0)),(8,v0),(143,vn d0)]) (fun ⟨d0,p0,v0,A0⟩=>[rr w 34 Ta v0 p0.length A0]) (fun ⟨d0,p0,v0,A0⟩ Z3=>Cells Z3 (bl [rr w 34 Ta v0 p0.length A0] ++ L) A0 p0) (fun ⟨d0,p0,v0,A0⟩=>(d0,p0)) (0,([]:List Ta),vN,[]) A5 D2 (AC (cs:=[]) (xs:=([]:List Ta)) D2 L (AH _ _)) ?_
 rintro E7 ⟨d0,p0,v0,A0⟩ Z3 F4 U0 p3 s3 h
 unfold aC_l1 at h
 try dsimp only at h
 refine Af<|Ab (AY (i:=d0) (j:=401) I I)<|Aa<|Ak<|Bb I h (fun D4 h=>?_) (fun D4 h=>?_)
 refine Ar<|Ak<|Aw<|Af<|Ae I<|Ai I<|Aa<|Ap<|Ae I<|Ae I<|Ae I<|bk h fun W7 P5 h=>Ab (FV.mulc (i:=((d0:Nat):Int)) (j:=((d0:Nat):Int)) I I P5)<|bk h fun g0 R6 h=>Bo (.agg ((aa g0)).toArray) (bd 15) I (e2 I I) (fun p q=>ac_c n (U0.hL0 hL q)  R6) I<|Am .plain I (AG (α:=Ta) (xs:=([g0]:List Ta)) (vs:=[.agg ((aa g0)).toArray]) (ds' :=(aa g0)) I U0 bq I (e1 I) (by kernel_rfl) I) fun W8 H7 U1 q3=>bk h fun t7 c6 h=>BN .plain I (Bz (α:=Ta) (ys:=([g0]:List Ta)) c6 U1 (fun _ _=>.t1) bq I I (AK s3 q3) (Src.row (α:=Ta) U1 .hd (AC (cs:=(aa g0)) (xs:=(([g0]:List Ta):List Ta)) U1 L (Ao (cs:=(aa g0)) (ds:=[]) (aG g0.fN g0.fD) (AH _ _))))) fun U6 X8 ⟨E4,W4,Z4,x5⟩=>Ai I<|Aa<|Ay<|Ap<|Ab (Bj (i:=d0) (j:=1) I I (by omega))<|Ae I<|Aa ?_
 obtain ⟨G4,E2⟩:=AA W4 .d1
 exact F4 (d0 + 1,t7,U6,E4) G4 (Tt p3 (Tt q3 (Tt Z4 E2))) (AK x5 E2) h
 refine Bd I ?_
 have h:=y5 _ h
 try dsimp only at h
 refine Af<|Ae I ?_
 have J1:=Bl U0 .hd
 have X4:=Bm U0 .hd
 have G3:=Bn (α:=Ta) (v:=v0) (xs:=p0) J1 L (Ba (α:=Ta) U0 .hd s3 hL)
 refine bk h fun Y8 b6 h=>RG.valE .plain I (FV.cutL (α:=Ta) b6 I I G3 I ⟨_,I⟩) fun X7 B5=>bk h fun g2 d6 h=>jE (bd 26) I (e1 I) (fun p q=>aM_c n (J1.hL hL q) (Ah B5 q) d6) I fun H8 k8 b5 ⟨P0,hu_,C5⟩=>?_
 subst hu_
 obtain ⟨K1,F2⟩:=J1.agr b5
 refine Ae I<|Ab (Ac I I)<|Ab (Ac I I)<|Ai I<|Ai I<|Aa<|Af<|Ae I<|Ab (AI (vs:=[]) (u:=.agg zM) ao (fun p=>by kernel_rfl))<|bk h fun x0 g6 h=>?_
 have D3:=Tt Y4 (Tt p3 (Tt X4 F2))
 have t3:=Ag K5 D3
 refine Bo (.tuple #[.agg ((aa x0.1)).toArray,.agg ((aa x0.2.1)).toArray,vI x0.2.2]) (bd 27) I (e2 I I) (fun p q=>bv_c n (K1.hL0 hL q) (K1.kd t3 q) (⟨(0,0,0,0,0,0,0,0),(0,0,0,0,0,0,0,0)⟩:Ta) g6) I<|Ae I<|Ab (Ac I I)<|Ab (Ac I I)<|Ab (Ac I I)<|RG.nl zL K1 fun I8 F7 H4 v1=>RG.nl zL H4 fun J8 G7 I4 x1=>AQ (aa x0.1) I4 .t1 (ak I) fun K8 J4 y1=>AQ (aa x0.2.1) J4 .hd (ak I) fun X6 Q0 z1=>Ai I<|Aa<|Ak<|du 105 fun b0 c0=>Rv 0 b0 I c0 (fun _=>Aj I)<|Rv 1 b0 I c0 (fun _=>Aj I)<|RD.ifnb (s:=168) I h (fun k4 h=>?_) (fun k4 h=>?_)
 cases h
 refine AX 2 7 b0 I c0 (.yes I I) (fun _=>Aj I) I<|AX 3 15 b0 I c0 (.yes I I) (fun _=>FV.eql (i:=g2.2) (j:=0) I I) I<|Rv 4 b0 I c0 (fun _=>Bc I I)<|Rv 5 b0 I c0 (fun _=>Aj I)<|RD.ifd (s:=172) I h (fun p4 h=>?_) (fun p4 h=>?_)
 refine AX 6 127 b0 I c0 (.yes I I) (fun _=>Aj I) I<|bk h fun b4 j6 h=>?_
 have u3:=Ag C5 (Tt v1 (Tt x1 (Tt y1 z1)))
 refine AV (i:=7) (m' :=255) (W:=40564819207303340847894502571776) (tk b0) I c0 (v:=vI b4) (fst:=[]) (cap:=[]) (.yes I I) (bd 16) I (e1 I) (fun p q=>ap_c n (Q0.hL0 hL q) (Q0.kd u3 q) j6) I<|AX 8 511 b0 I c0 (.yes I I) (fun _=>FV.eql (i:=b4) (j:=0) I I) I<|Rv 9 b0 I c0 (fun _=>Bc I I)<|Rv 10 b0 I c0 (fun _=>Aj I)<|RD.ifd (s:=177) I h (fun q4 h=>?_) (fun q4 h=>?_)
 refine AX 12 6143 b0 I c0 (.yes I I) (fun _=>Aj I) I<|AU 11 8191 b0 I (.yes I I) (bd 22) I (e1 I) (fun p q=>AD (ai_c n (Q0.hL hL q) (3:Int)) fun (w8:World) (u8:Vc) ⟨b0_,hu_,s_⟩=>(⟨b0_,hu_,s_.from q⟩:∃ b1:Nat,u8 = Value.func (.func 82) #[] #[vP b1]/\St X6 w8 [.cells b1 [vI 3] 27])) I fun M8 p8 I7 ⟨b1,Q5,I3⟩=>?_
 subst Q5
 have x2:=ah Q0 I3
 have V1:=am Q0 I3
 refine bk h fun Z8 k6 h=>AU 13 16383 b0 I (.yes I I) (bd 26) I (e1 I) (fun p q=>aM_c n (x2.hL hL q) (Ah (Ag G3 (Tt F2 (Tt v1 (Tt x1 (Tt y1 (Tt z1 V1)))))) q) k6) I fun Y6 q8 c5 ⟨Y7,hu_,D5⟩=>?_
 subst hu_
 obtain ⟨q0,G2⟩:=x2.agr c5
 refine AX 14 32767 b0 I c0 (.yes I I) (fun _=>Ac I I) I<|AX 15 65535 b0 I c0 (.yes I I) (fun _=>Ac I I) I<|bk h fun u7 p6 h=>AV (i:=16) (m' :=131071) (W:=40564819207303340847894502440960) (tk b0) I c0 (v:=.bool u7) (fst:=[]) (cap:=[vP b1]) (.yes I I) (bd 82) I (e2 I I) (fun p q=>ab_c n (q0.hL0 hL q) (q0.kd D5 q) (ae q (q0.memA .hd)) p6) I<|Rv 17 b0 I c0 (fun _=>Bc I I)<|Rv 18 b0 I c0 (fun _=>Aj I)<|RD.ifb (s:=185) I h (fun s4 h=>?_) (fun s4 h=>?_)
 refine bk h fun G1 H3 h=>RD.mf (α:=Vc × (List Vc) × Nat) (fun ⟨F0,H0,y0⟩=>[(1,Y0),(2,X0),(5,.bool (!Z0)),(10,P0),(14,vI x0.2.2),(185,.bool true),(186,.func (.func 82) #[] #[vP y0]),(187,F0)]) (fun ⟨F0,H0,y0⟩=>[rr w 34 Ta F0 G1.length H0,.cells y0 [vI 20] 27]) (fun ⟨F0,H0,y0⟩ X3=>Cells X3 (bl [rr w 34 Ta F0 G1.length H0,.cells y0 [vI 20] 27] ++ L) H0 (G1:List Ta)) q0 84 2097151 ?_ ?_
 rintro ⟨F0,H0,y0⟩ X3 M1 M2 u5
 try dsimp only
 have P1:=Bl M1 .hd
 have P2:=Bm M1 .hd
 refine bk h fun b9 q6 h=>AU 21 4194303 b0 I (.yes I I) (bd 26) I (e1 I) (fun p q=>aM_c n (P1.hL hL q) (Ah (Bn (α:=Ta) (v:=F0) (xs:=G1) P1 L (Ba (α:=Ta) M1 .hd u5 hL)) q) q6) I fun b7 s8 g5 ⟨Z7,hu_,E5⟩=>?_
 subst hu_
 obtain ⟨J0,Q2⟩:=P1.agr g5
 refine AX 22 8388607 b0 I c0 (.yes I I) (fun _=>Ac I I) I<|AX 23 16777215 b0 I c0 (.yes I I) (fun _=>Ac I I) I<|bk h fun v7 s6 h=>AV (i:=24) (m' :=33554431) (W:=40564819207303340847894469017600) (tk b0) I c0 (v:=.bool v7) (fst:=[]) (cap:=[vP y0]) (.yes I I) (bd 82) I (e2 I I) (fun p q=>ab_c n (J0.hL0 hL q) (J0.kd E5 q) (ae q (J0.memA .hd)) s6) I<|Rv 25 b0 I c0 (fun _=>Bc I I)<|Rv 26 b0 I c0 (fun _=>Aj I)<|RD.ifb (s:=193) I h (fun t4 h=>?_) (fun t4 h=>?_)
 refine AX 28 402653183 b0 I c0 (.yes I I) (fun _=>Aj I) I<|AX 29 939524095 b0 I c0 (.yes I I) (fun _=>Aj I) I<|AU 27 1073741823 b0 I (.yes I I) (bd 22) I (e1 I) (fun p q=>AD (ai_c n (J0.hL hL q) (3:Int)) fun (w8:World) (u8:Vc) ⟨b0_,hu_,s_⟩=>(⟨b0_,hu_,s_.from q⟩:∃ c1:Nat,u8 = Value.func (.func 82) #[] #[vP c1]/\St b7 w8 [.cells c1 [vI 3] 27])) I fun P8 t8 J7 ⟨c1,R5,J3⟩=>?_
 subst R5
 have y2:=ah J0 J3
 have R2:=am J0 J3
 refine bk h fun c9 t6 h=>?_
 have E3:=Tt V1 (Tt G2 (Tt M2 (Tt P2 (Tt Q2 R2))))
 have E1:=Ag u3 E3
 have v3:=Ag t3 (Tt v1 (Tt x1 (Tt y1 (Tt z1 E3))))
 refine AU 30 2147483647 b0 I (.yes I I) (bd 24) I (e2 I I) (fun p q=>aA_c n (y2.hL hL q) (Ah E1 q) (Ah v3 q) t6) I fun c7 v8 j5 ⟨b8,hu_,F5⟩=>?_
 subst hu_
 obtain ⟨s0,B1⟩:=y2.agr j5
 refine AX 31 4294967295 b0 I c0 (.yes I I) (fun _=>Ac I I) I<|AX 32 8589934591 b0 I c0 (.yes I I) (fun _=>Ac I I) I<|bk h fun x7 u6 h=>AV (i:=33) (m' :=17179869183) (W:=40564819207303340847877322702848) (tk b0) I c0 (v:=.bool x7) (fst:=[]) (cap:=[vP c1]) (.yes I I) (bd 82) I (e2 I I) (fun p q=>ab_c n (s0.hL0 hL q) (s0.kd F5 q) (ae q (s0.memA .hd)) u6) I<|Rv 34 b0 I c0 (fun _=>Bc I I)<|Rv 35 b0 I c0 (fun _=>Aj I)<|RD.ifb (s:=202) I h (fun u4 h=>?_) (fun u4 h=>?_)
 refine AX 36 137438953471 b0 I c0 (.yes I I) (fun _=>Aj I) I<|AX 38 412316860415 b0 I c0 (.yes I I) (fun _=>Aj I) I<|AX 39 962072674303 b0 I c0 (.yes I I) (fun _=>AI (vs:=[vI 0,vI 1]) (u:=.agg #[vI 0,vI 1]) (e2 I I) (fun p=>by kernel_rfl)) I<|RD.mf (α:=Vc × (List Vc) × Nat) (fun ⟨G0,I0,z0⟩=>[(1,Y0),(2,X0),(5,.bool (!Z0)),(14,vI x0.2.2),(202,.bool true),(205,P0),(204,.func (.func 91) #[] #[vP z0]),(207,G0)]) (fun ⟨G0,I0,z0⟩=>[rr w 26 (Int × Int) G0 (([((0:Int),(1:Int))]:List (Int × Int)).length) I0,.cells z0 [P0] 24]) (fun ⟨G0,I0,z0⟩ Y3=>Cells Y3 (bl [rr w 26 (Int × Int) G0 (([((0:Int),(1:Int))]:List (Int × Int)).length) I0,.cells z0 [P0] 24] ++ L) I0 (([((0:Int),(1:Int))]:List (Int × Int)):List (Int × Int))) s0 64 2199023255551 ?_ ?_
 rintro ⟨G0,I0,z0⟩ Y3 Q1 U2 v5
 try dsimp only
 have R1:=Bl Q1 .hd
 have V2:=Bm Q1 .hd
 refine bk h fun d9 v6 h=>AU 41 4398046511103 b0 I (.yes I I) (bd 13) I (e2 I I) (fun p q=>ah_c n (R1.hL hL q) (Ah (Bn (α:=Int × Int) (v:=G0) (xs:=([((0:Int),(1:Int))]:List (Int × Int))) R1 L (Ba (α:=Int × Int) Q1 .hd v5 hL)) q) v6) I fun Q8 x8 p5 ⟨c8,hu_,G5⟩=>?_
 subst hu_
 obtain ⟨z2,W2⟩:=R1.agr p5
 refine bk h fun g9 x6 h=>?_
 have F3:=Tt B1 (Tt U2 (Tt V2 W2))
 have x3:=Ag E1 F3
 refine AU 42 8796093022207 b0 I (.yes I I) (bd 24) I (e2 I I) (fun p q=>aA_c n (z2.hL hL q) (Ah x3 q) (Ah G5 q) x6) I fun g7 y8 q5 ⟨d8,hu_,H5⟩=>?_
 subst hu_
 obtain ⟨C0,X1⟩:=z2.agr q5
 refine AX 43 17592186044415 b0 I c0 (.yes I I) (fun _=>Ac I I) I<|AX 44 35184372088831 b0 I c0 (.yes I I) (fun _=>Ac I I) I<|bk h fun y7 y6 h=>AV (i:=45) (m' :=70368744177663) (W:=40564819207303340777525758394368) (tk b0) I c0 (v:=.bool y7) (fst:=[]) (cap:=[vP z0]) (.yes I I) (bd 91) I (e2 I I) (fun p q=>av_c n (C0.hL0 hL q) (C0.kd H5 q) (C0.kd (Ag x3 X1) q) (ae q (C0.memA .hd)) y6) I<|Rv 46 b0 I c0 (fun _=>Bc I I)<|Rv 47 b0 I c0 (fun _=>Aj I)<|RD.ifb (s:=214) I h (fun v4 h=>?_) (fun v4 h=>?_)
 refine AX 48 562949953421311 b0 I c0 (.yes I I) (fun _=>Aj I) I<|AX 49 1125899906842623 b0 I c0 (.yes I I) (fun _=>FV.eql (i:=x0.2.2) (j:=20) I I) I<|Rv 50 b0 I c0 (fun _=>Bc I I)<|Rv 51 b0 I c0 (fun _=>Aj I)<|RD.ifd (s:=218) I h (fun x4 h=>?_) (fun x4 h=>?_)
 refine AX 53 13510798882111487 b0 I c0 (.yes I I) (fun _=>AI (vs:=[]) (u:=.agg zM) ao (fun p=>by kernel_rfl)) I<|AU 52 18014398509481983 b0 I (.yes I I) (bd 22) I (e1 I) (fun p q=>AD (ai_c n (C0.hL hL q) (20:Int)) fun (w8:World) (u8:Vc) ⟨b0_,hu_,s_⟩=>(⟨b0_,hu_,s_.from q⟩:∃ g1:Nat,u8 = Value.func (.func 82) #[] #[vP g1]/\St g7 w8 [.cells g1 [vI 20] 27])) I fun R8 z8 K7 ⟨g1,U5,K3⟩=>?_
 subst U5
 have A2:=ah C0 K3
 have X2:=am C0 K3
 refine bk h fun j9 z6 h=>AU 54 36028797018963967 b0 I (.yes I I) (bd 14) I (e1 I) (fun p q=>bH_c n (A2.hL hL q) (⟨(0,0,0,0,0,0,0,0),(0,0,0,0,0,0,0,0)⟩:Ta) z6) I fun j7 A8 s5 ⟨g8,hu_,I5⟩=>?_
 subst hu_
 obtain ⟨K0,Y2⟩:=A2.agr s5
 refine AX 55 72057594037927935 b0 I c0 (.yes I I) (fun _=>Ac I I) I<|AX 56 144115188075855871 b0 I c0 (.yes I I) (fun _=>Ac I I) I<|bk h fun z7 A6 h=>AV (i:=57) (m' :=288230376151711743) (W:=40564819207303052617518350860288) (tk b0) I c0 (v:=.bool z7) (fst:=[]) (cap:=[vP g1]) (.yes I I) (bd 82) I (e2 I I) (fun p q=>ab_c n (K0.hL0 hL q) (K0.kd I5 q) (ae q (K0.memA .hd)) A6) I<|Rv 58 b0 I c0 (fun _=>Bc I I)<|Rv 59 b0 I c0 (fun _=>Aj I)<|RD.ifb (s:=226) I h (fun y4 h=>?_) (fun y4 h=>?_)
 refine AX 61 3458764513820540927 b0 I c0 (.yes I I) (fun _=>Aj I) I<|AX 62 8070450532247928831 b0 I c0 (.yes I I) (fun _=>AI (vs:=[]) (u:=.agg zM) ao (fun p=>by kernel_rfl)) I<|AU 60 9223372036854775807 b0 I (.yes I I) (bd 22) I (e1 I) (fun p q=>AD (ai_c n (K0.hL hL q) (20:Int)) fun (w8:World) (u8:Vc) ⟨b0_,hu_,s_⟩=>(⟨b0_,hu_,s_.from q⟩:∃ j1:Nat,u8 = Value.func (.func 82) #[] #[vP j1]/\St j7 w8 [.cells j1 [vI 20] 27])) I fun U8 B8 M7 ⟨j1,V5,M3⟩=>?_
 subst V5
 have B2:=ah K0 M3
 have Z2:=am K0 M3
 refine bk h fun k9 B6 h=>?_
 have y3:=Ag v3 (Tt F3 (Tt X1 (Tt X2 (Tt Y2 Z2))))
 refine AU 63 18446744073709551615 b0 I (.yes I I) (bd 29) I (e2 I I) (fun p q=>aU_c n (B2.hL hL q) (Ah y3 q) (⟨(0,0,0,0,0,0,0,0),(0,0,0,0,0,0,0,0)⟩:Ta) B6) I fun k7 C8 t5 ⟨j8,hu_,J5⟩=>?_
 subst hu_
 obtain ⟨M0,b3⟩:=B2.agr t5
 refine AX 64 36893488147419103231 b0 I c0 (.yes I I) (fun _=>Ac I I) I<|AX 65 73786976294838206463 b0 I c0 (.yes I I) (fun _=>Ac I I) I<|bk h fun A7 C6 h=>AV (i:=66) (m' :=147573952589676412927) (W:=40564819207155766895304826159104) (tk b0) I c0 (v:=.bool A7) (fst:=[]) (cap:=[vP j1]) (.yes I I) (bd 82) I (e2 I I) (fun p q=>ab_c n (M0.hL0 hL q) (M0.kd J5 q) (ae q (M0.memA .hd)) C6) I<|Rv 67 b0 I c0 (fun _=>Bc I I)<|Rv 68 b0 I c0 (fun _=>Aj I)<|RD.ifb (s:=235) I h (fun z4 h=>?_) (fun z4 h=>?_)
 refine AX 70 1770887431076116955135 b0 I c0 (.yes I I) (fun _=>Aj I) I<|AX 71 4132070672510939561983 b0 I c0 (.yes I I) (fun _=>AI (vs:=[]) (u:=.agg zM) ao (fun p=>by kernel_rfl)) I<|AU 69 4722366482869645213695 b0 I (.yes I I) (bd 18) I (e1 I) (fun p q=>AD (al_c n (M0.hL hL q) (20:Int)) fun (w8:World) (u8:Vc) ⟨b0_,hu_,s_⟩=>(⟨b0_,hu_,s_.from q⟩:∃ k1:Nat,u8 = Value.func (.func 74) #[] #[vP k1]/\St k7 w8 [.cells k1 [vI 20] 27])) I fun p7 D8 P7 ⟨k1,W5,P3⟩=>?_
 subst W5
 have D0:=ah M0 P3
 have c3:=am M0 P3
 refine bk h fun p2 D6 h=>?_
 have z3:=Ag y3 (Tt b3 c3)
 refine AV (i:=72) (m' :=9444732965739290427391) (W:=40564819197858607882155212144640) (tk b0) I c0 (v:=.tuple #[.agg ((aa p2.1)).toArray,vI p2.2]) (fst:=[]) (cap:=[]) (.yes I I) (bd 21) I (e2 I I) (fun p q=>ao_c n (D0.hL0 hL q) (D0.kd z3 q) (⟨(0,0,0,0,0,0,0,0),(0,0,0,0,0,0,0,0)⟩:Ta) D6) I<|AX 73 18889465931478580854783 b0 I c0 (.yes I I) (fun _=>Ac I I) I<|AX 74 37778931862957161709567 b0 I c0 (.yes I I) (fun _=>Ac I I) I<|bk h fun B7 E6 h=>AV (i:=75) (m' :=75557863725914323419135) (W:=40564819131745477121980179152896) (tk b0) I c0 (v:=.bool B7) (fst:=[]) (cap:=[vP k1]) (.yes I I) (bd 74) I (e2 I I) (fun p q=>aa_c n (D0.hL0 hL q) p2.1 (ae q (D0.memA .hd)) E6) I<|Rv 76 b0 I c0 (fun _=>Bc I I)<|Rv 77 b0 I c0 (fun _=>Aj I)<|RD.ifb (s:=244) I h (fun A4 h=>?_) (fun A4 h=>?_)
 refine AX 79 906694364710971881029631 b0 I c0 (.yes I I) (fun _=>Aj I) I<|AU 78 1208925819614629174706175 b0 I (.yes I I) (bd 18) I (e1 I) (fun p q=>AD (al_c n (D0.hL hL q) (2:Int)) fun (w8:World) (u8:Vc) ⟨b0_,hu_,s_⟩=>(⟨b0_,hu_,s_.from q⟩:∃ p1:Nat,u8 = Value.func (.func 74) #[] #[vP p1]/\St p7 w8 [.cells p1 [vI 2] 27])) I fun q7 E8 Q7 ⟨p1,X5,Q3⟩=>?_
 subst X5
 have t0:=ah D0 Q3
 have d3:=am D0 Q3
 refine bk h fun c4 F6 h=>AV (i:=80) (m' :=2417851639229258349412351) (W:=40564816789451701618636153159680) (tk b0) I c0 (v:=.agg ((aa c4)).toArray) (fst:=[]) (cap:=[]) (.yes I I) (bd 15) I (e2 I I) (fun p q=>ac_c n (t0.hL0 hL q)  F6) I<|bk h fun q2 G6 h=>?_
 have A3:=Ag z3 d3
 refine AV (i:=81) (m' :=4835703278458516698824703) (W:=40564814371600062389377803747328) (tk b0) I c0 (v:=.tuple #[.agg ((aa q2.1)).toArray,vI q2.2]) (fst:=[]) (cap:=[]) (.yes I I) (bd 21) I (e2 I I) (fun p q=>ao_c n (t0.hL0 hL q) (t0.kd A3 q) c4 G6) I<|AX 82 9671406556917033397649407 b0 I c0 (.yes I I) (fun _=>Ac I I) I<|AX 83 19342813113834066795298815 b0 I c0 (.yes I I) (fun _=>Ac I I) I<|bk h fun C7 H6 h=>AV (i:=84) (m' :=38685626227668133590597631) (W:=40564780521677113179760911974400) (tk b0) I c0 (v:=.bool C7) (fst:=[]) (cap:=[vP p1]) (.yes I I) (bd 74) I (e2 I I) (fun p q=>aa_c n (t0.hL0 hL q) q2.1 (ae q (t0.memA .hd)) H6) I<|Rv 85 b0 I c0 (fun _=>Bc I I)<|Rv 86 b0 I c0 (fun _=>Aj I)<|RD.ifb (s:=253) I h (fun B4 h=>?_) (fun B4 h=>?_)
 refine AX 88 464227514732017603087171583 b0 I c0 (.yes I I) (fun _=>Aj I) I<|AU 87 618970019642690137449562111 b0 I (.yes I I) (bd 18) I (e1 I) (fun p q=>AD (al_c n (t0.hL hL q) (2:Int)) fun (w8:World) (u8:Vc) ⟨b0_,hu_,s_⟩=>(⟨b0_,hu_,s_.from q⟩:∃ q1:Nat,u8 = Value.func (.func 74) #[] #[vP q1]/\St q7 w8 [.cells q1 [vI 2] 27])) I fun s7 F8 R7 ⟨q1,Y5,R3⟩=>?_
 subst Y5
 have u0:=ah t0 R3
 have g3:=am t0 R3
 refine bk h fun d4 I6 h=>AV (i:=89) (m' :=1237940039285380274899124223) (W:=40563581267264055467619603447808) (tk b0) I c0 (v:=.agg ((aa d4)).toArray) (fst:=[]) (cap:=[]) (.yes I I) (bd 15) I (e2 I I) (fun p q=>ac_c n (u0.hL0 hL q)  I6) I<|bk h fun s2 J6 h=>?_
 have B3:=Ag A3 g3
 refine AV (i:=90) (m' :=2475880078570760549798248447) (W:=40562343327224770087344704323584) (tk b0) I c0 (v:=.tuple #[.agg ((aa s2.1)).toArray,vI s2.2]) (fst:=[]) (cap:=[]) (.yes I I) (bd 21) I (e2 I I) (fun p q=>ao_c n (u0.hL0 hL q) (u0.kd B3 q) d4 J6) I<|AX 91 4951760157141521099596496895 b0 I c0 (.yes I I) (fun _=>Ac I I) I<|AX 92 9903520314283042199192993791 b0 I c0 (.yes I I) (fun _=>Ac I I) I<|bk h fun D7 K6 h=>AV (i:=93) (m' :=19807040628566084398385987583) (W:=40545012166674774763496116584448) (tk b0) I c0 (v:=.bool D7) (fst:=[]) (cap:=[vP q1]) (.yes I I) (bd 74) I (e2 I I) (fun p q=>aa_c n (u0.hL0 hL q) s2.1 (ae q (u0.memA .hd)) K6) I<|Rv 94 b0 I c0 (fun _=>Bc I I)<|Rv 95 b0 I c0 (fun _=>Aj I)<|RD.ifb (s:=262) I h (fun C4 h=>?_) (fun C4 h=>?_)
 refine AX 97 237684487542793012780631851007 b0 I c0 (.yes I I) (fun _=>Aj I) I<|AU 96 316912650057057350374175801343 b0 I (.yes I I) (bd 30) I (e2 I I) (fun p q=>AD (ba_c n (u0.hL hL q) (1:Int) (1:Int)) fun (w8:World) (u8:Vc) ⟨b0_,b1_,hu_,s_⟩=>(⟨b0_,b1_,hu_,s_.from q⟩:∃ s1 u1:Nat,u8 = Value.func (.func 92) #[] #[vP s1,vP u1]/\St s7 w8 [.cells s1 [vI 1] 3,.cells u1 [vI 1] 3])) I fun V8 G8 U7 ⟨s1,u1,Z5,U3⟩=>?_
 subst Z5
 have E0:=br u0 U3
 have j3:=cM u0 U3
 refine bk h fun g4 M6 h=>AV (i:=98) (m' :=633825300114114700748351602687) (W:=39930993907189226147146150969344) (tk b0) I c0 (v:=.agg ((aa g4)).toArray) (fst:=[]) (cap:=[]) (.yes I I) (bd 15) I (e2 I I) (fun p q=>ac_c n (E0.hL0 hL q)  M6) I<|bk h fun t2 P6 h=>?_
 have C3:=Ag B3 j3
 refine AV (i:=99) (m' :=1267650600228229401496703205375) (W:=39297168607075111446397799366656) (tk b0) I c0 (v:=.tuple #[.agg ((aa t2.1)).toArray,vI t2.2]) (fst:=[]) (cap:=[]) (.yes I I) (bd 21) I (e2 I I) (fun p q=>ao_c n (E0.hL0 hL q) (E0.kd C3 q) g4 P6) I<|AX 100 2535301200456458802993406410751 b0 I c0 (.yes I I) (fun _=>Ac I I) I<|AX 101 5070602400912917605986812821503 b0 I c0 (.yes I I) (fun _=>Ac I I) I<|bk h fun j4 Q6 h=>AV (i:=102) (m' :=10141204801825835211973625643007) (W:=30423614405477505635920876929024) (tk b0) I c0 (v:=.bool j4) (fst:=[]) (cap:=[vP s1,vP u1]) (.yes I I) (bd 92) I (e2 I I) (fun p q=>ar_c n (E0.hL0 hL q) t2.1 (ae q (E0.memA .hd)) (ae q (E0.memA .t1)) Q6) I<|Rv 103 b0 I c0 (fun _=>Bc I I)<|Rv 104 b0 I c0 (fun _=>Bk I)<|AN (dk b0) ?_
 obtain ⟨V4,k3⟩:=AA E0 .done
 exact MX.sub (bB n hL hb0 j4 j2 k2 V4 (Ag C3 k3) (Ag M5 (Tt D3 (Tt v1 (Tt x1 (Tt y1 (Tt z1 (Tt V1 (Tt G2 (Tt M2 (Tt P2 (Tt Q2 (Tt R2 (Tt B1 (Tt U2 (Tt V2 (Tt W2 (Tt X1 (Tt X2 (Tt Y2 (Tt Z2 (Tt b3 (Tt c3 (Tt d3 (Tt g3 (Tt j3 k3))))))))))))))))))))))))) (eD (k:=12) func3 I I) h) (by repeat (first | refine ⟨rfl,?_⟩ | exact trivial))
 cases h
 cases h
 cases h
 cases h
 cases h
 cases h
 cases h
 intro u2
 refine BO [37,40] (rk b0) ⟨?_,?_,trivial⟩
 have z5:=Ag E1 B1
 refine RO.call (m' :=1099511627775) (fst:=[]) (cap:=[]) (sk b0) I (.yes I I) (bd 28) I (e1 I) (fun p q=>AD (aW_c n (s0.hL hL q) g2.1 (Ah z5 q)) fun (w8:World) (u8:Vc) ⟨b0_,hu_,s_⟩=>(⟨b0_,hu_,s_.from q⟩:∃ k0:Nat,u8 = Value.func (.func 91) #[] #[vP k0]/\St c7 w8 [.cells k0 [P0] 24])) I fun d7 W6 k5 ⟨k0,c2,W0⟩=>?_
 subst c2
 have U4:=ah s0 W0
 have C1:=am s0 W0
 refine RD.nu 40 2199023255551 b0 I (.yes I I) I (AG (α:=Int × Int) (xs:=([((0:Int),(1:Int))]:List (Int × Int))) (vs:=[.agg #[vI 0,vI 1]]) (ds' :=[vI 0,vI 1]) I U4 bC I (e1 I) (by kernel_rfl) I) fun W3 H1 B0 D1=>?_
 have Z1:=AC (cs:=[vI 0,vI 1]) (xs:=(([((0:Int),(1:Int))]:List (Int × Int)):List (Int × Int))) B0 L (Ao (cs:=[vI 0,vI 1]) (ds:=[]) (aK (0:Int) (1:Int)) (AH _ _))
 obtain ⟨M4,H2⟩:=AA B0 (.a0 (.a0 .done))
 exact u2 ((vS H1 1),[vI 0,vI 1],k0) M4 (Tt C1 (Tt D1 H2)) (AK Z1 H2)
 refine RO.new (m' :=2061584302079) (sk b0) I (.yes I I) I (AG (α:=Int × Int) (xs:=([((0:Int),(1:Int))]:List (Int × Int))) (vs:=[.agg #[vI 0,vI 1]]) (ds' :=[vI 0,vI 1]) I s0 bC I (e1 I) (by kernel_rfl) I) fun W3 H1 B0 D1=>?_
 have Z1:=AC (cs:=[vI 0,vI 1]) (xs:=(([((0:Int),(1:Int))]:List (Int × Int)):List (Int × Int))) B0 L (Ao (cs:=[vI 0,vI 1]) (ds:=[]) (aK (0:Int) (1:Int)) (AH _ _))
 refine AU 37 2199023255551 b0 I (.yes I I) (bd 28) I (e1 I) (fun p q=>AD (aW_c n (B0.hL hL q) g2.1 (Ah (Ag E1 (Tt B1 D1)) q)) fun (w8:World) (u8:Vc) ⟨b0_,hu_,s_⟩=>(⟨b0_,hu_,s_.from q⟩:∃ k0:Nat,u8 = Value.func (.func 91) #[] #[vP k0]/\St W3 w8 [.cells k0 [P0] 24])) I fun d7 W6 k5 ⟨k0,c2,W0⟩=>?_
 subst c2
 have C1:=am B0 W0
 obtain ⟨P4,I2⟩:=AA (ah B0 W0) (.a1 (.a0 .done))
 exact u2 ((vS H1 1),[vI 0,vI 1],k0) P4 (Tt D1 (Tt C1 I2)) (AK Z1 (Tt C1 I2))
 cases h
 cases h
 intro v2
 refine BO [19,20] (rk b0) ⟨?_,?_,trivial⟩
 refine RO.call (m' :=1048575) (fst:=[]) (cap:=[]) (sk b0) I (.yes I I) (bd 22) I (e1 I) (fun p q=>AD (ai_c n (q0.hL hL q) (20:Int)) fun (w8:World) (u8:Vc) ⟨b0_,hu_,s_⟩=>(⟨b0_,hu_,s_.from q⟩:∃ j0:Nat,u8 = Value.func (.func 82) #[] #[vP j0]/\St Y6 w8 [.cells j0 [vI 20] 27])) I fun Z6 V6 d5 ⟨j0,b2,V0⟩=>?_
 subst b2
 have K4:=ah q0 V0
 have A1:=am q0 V0
 refine BK (i:=20) (rk b0) (RO.does (m' :=2097151) (sk b0) I (.yes I I) I (Does.mkH (α:=Ta) (L:=L) H3 K4 bq I (fun _ _=>(aG (0,0,0,0,0,0,0,0) (0,0,0,0,0,0,0,0)))) (fun d2 V3 ⟨I1,R0,W1,Y1⟩=>?_))
 obtain ⟨Q4,J2⟩:=AA R0 (.a0 (.a0 .done))
 exact v2 (d2,I1,j0) Q4 (Tt A1 (Tt W1 J2)) (AK Y1 J2)
 refine RO.does (m' :=1572863) (sk b0) I (.yes I I) I (Does.mkH (α:=Ta) (L:=L) H3 q0 bq I (fun _ _=>(aG (0,0,0,0,0,0,0,0) (0,0,0,0,0,0,0,0)))) fun d2 V3 ⟨I1,R0,W1,Y1⟩=>AU 19 2097151 b0 I (.yes I I) (bd 22) I (e1 I) (fun p q=>AD (ai_c n (R0.hL hL q) (20:Int)) fun (w8:World) (u8:Vc) ⟨b0_,hu_,s_⟩=>(⟨b0_,hu_,s_.from q⟩:∃ j0:Nat,u8 = Value.func (.func 82) #[] #[vP j0]/\St V3 w8 [.cells j0 [vI 20] 27])) I fun Z6 V6 d5 ⟨j0,b2,V0⟩=>?_
 subst b2
 have A1:=am R0 V0
 obtain ⟨R4,K2⟩:=AA (ah R0 V0) (.a1 (.a0 .done))
 exact v2 (d2,I1,j0) R4 (Tt W1 (Tt A1 K2)) (AK Y1 (Tt A1 K2))
 cases h
 cases h
 cases h
set_option maxRecDepth 20000 in
def aC_p (n:Nat):Oa Bool:=
  (bf_p n).bind fun y1=>(if y1 = true then (ah_p n (2:Int) ([((0:Int),(1:Int)),((2:Int),(1:Int))]:List (Int × Int))).bind fun b0=>(ac_p n (7:Int) (3:Int)).bind fun G1=>(bH_p n G1).bind fun x0=>(ap_p n b0).bind fun X1=>(if X1 = 0 then (ap_p n x0.1).bind fun b2=>(if b2 = 0 then (bc_p n ([]:List Tb) ([]:List Tb)).bind fun s2=>(if s2 = true then (cut b0 0 1).bind fun A1=>(bc_p n b0 A1).bind fun y2=>(ah_p n (2:Int) ([((0:Int),(1:Int))]:List (Int × Int))).bind fun k0=>(ah_p n (2:Int) ([((2:Int),(1:Int)),((0:Int),(1:Int))]:List (Int × Int))).bind fun p0=>(ah_p n (2:Int) ([((0:Int),(1:Int)),((0:Int),(1:Int))]:List (Int × Int))).bind fun c0=>(ah_p n (2:Int) ([((0:Int),(0:Int)),((2:Int),(2:Int))]:List (Int × Int))).bind fun d0=>(ah_p n (2:Int) ([((0:Int),(-1:Int)),((2:Int),(3:Int))]:List (Int × Int))).bind fun g0=>(ah_p n (3:Int) ([((0:Int),(1:Int)),((2:Int),(3:Int))]:List (Int × Int))).bind fun j0=>(ap_p n ([(⟨(⟨(0,0,0,0,0,0,0,0),(0,0,0,0,0,0,0,0)⟩:Ta),(⟨(0,0,0,0,0,0,0,0),(0,0,0,0,0,0,0,0)⟩:Ta)⟩:Tb)]:List Tb)).bind fun B1=>(if B1 = 50 then (aR_p n ([(⟨(⟨(0,0,0,0,0,0,0,0),(0,0,0,0,0,0,0,0)⟩:Ta),(⟨(0,0,0,0,0,0,0,0),(0,0,0,0,0,0,0,0)⟩:Ta)⟩:Tb)]:List Tb)).bind fun q0=>(aa_p n q0.1 q0.2 (50:Int)).bind fun C1=>(if C1 = true then (ax_p n ([(⟨(⟨(0,0,0,0,0,0,0,0),(0,0,0,0,0,0,0,0)⟩:Ta),(⟨(0,0,0,0,0,0,0,0),(0,0,0,0,0,0,0,0)⟩:Ta)⟩:Tb)]:List Tb)).bind fun s0=>(aa_p n s0.1 s0.2 (50:Int)).bind fun D1=>(if D1 = true then (ao_p n ([(⟨(⟨(0,0,0,0,0,0,0,0),(0,0,0,0,0,0,0,0)⟩:Ta),(⟨(0,0,0,0,0,0,0,0),(0,0,0,0,0,0,0,0)⟩:Ta)⟩:Tb)]:List Tb) (⟨(0,0,0,0,0,0,0,0),(0,0,0,0,0,0,0,0)⟩:Ta)).bind fun t0=>(aa_p n t0.1 t0.2 (50:Int)).bind fun E1=>(if E1 = true then (aL_p n ([(⟨(⟨(0,0,0,0,0,0,0,0),(0,0,0,0,0,0,0,0)⟩:Ta),(⟨(0,0,0,0,0,0,0,0),(0,0,0,0,0,0,0,0)⟩:Ta)⟩:Tb)]:List Tb) (⟨(0,0,0,0,0,0,0,0),(0,0,0,0,0,0,0,0)⟩:Ta)).bind fun u0=>(ab_p n u0.1 u0.2 (50:Int)).bind fun F1=>(if F1 = true then (aA_p n b0 ([(⟨(⟨(0,0,0,0,0,0,0,0),(0,0,0,0,0,0,0,0)⟩:Ta),(⟨(0,0,0,0,0,0,0,0),(0,0,0,0,0,0,0,0)⟩:Ta)⟩:Tb)]:List Tb)).bind fun v0=>(ab_p n v0.1 v0.2 (50:Int)).bind fun H1=>(if H1 = true then (au_p n ([(⟨(⟨(0,0,0,0,0,0,0,0),(0,0,0,0,0,0,0,0)⟩:Ta),(⟨(0,0,0,0,0,0,0,0),(0,0,0,0,0,0,0,0)⟩:Ta)⟩:Tb)]:List Tb) b0).bind fun y0=>(aa_p n y0.1 y0.2 (50:Int)).bind fun I1=>(if I1 = true then (ap_p n k0).bind fun J1=>(if J1 = 50 then (aR_p n k0).bind fun z0=>(aa_p n z0.1 z0.2 (50:Int)).bind fun K1=>(if K1 = true then (ax_p n k0).bind fun A0=>(aa_p n A0.1 A0.2 (50:Int)).bind fun M1=>(if M1 = true then (ao_p n k0 (⟨(0,0,0,0,0,0,0,0),(0,0,0,0,0,0,0,0)⟩:Ta)).bind fun B0=>(aa_p n B0.1 B0.2 (50:Int)).bind fun P1=>(if P1 = true then (aL_p n k0 (⟨(0,0,0,0,0,0,0,0),(0,0,0,0,0,0,0,0)⟩:Ta)).bind fun C0=>(ab_p n C0.1 C0.2 (50:Int)).bind fun Q1=>(if Q1 = true then (aA_p n b0 k0).bind fun D0=>(ab_p n D0.1 D0.2 (50:Int)).bind fun R1=>(if R1 = true then (au_p n k0 b0).bind fun E0=>(aa_p n E0.1 E0.2 (50:Int)).bind fun U1=>(if U1 = true then (ap_p n p0).bind fun V1=>(if V1 = 50 then (aR_p n p0).bind fun F0=>(aa_p n F0.1 F0.2 (50:Int)).bind fun W1=>(if W1 = true then (ax_p n p0).bind fun G0=>(aa_p n G0.1 G0.2 (50:Int)).bind fun Y1=>(if Y1 = true then (ao_p n p0 (⟨(0,0,0,0,0,0,0,0),(0,0,0,0,0,0,0,0)⟩:Ta)).bind fun H0=>(aa_p n H0.1 H0.2 (50:Int)).bind fun Z1=>(if Z1 = true then (aL_p n p0 (⟨(0,0,0,0,0,0,0,0),(0,0,0,0,0,0,0,0)⟩:Ta)).bind fun I0=>(ab_p n I0.1 I0.2 (50:Int)).bind fun c2=>(if c2 = true then (aA_p n b0 p0).bind fun J0=>(ab_p n J0.1 J0.2 (50:Int)).bind fun d2=>(if d2 = true then (au_p n p0 b0).bind fun K0=>(aa_p n K0.1 K0.2 (50:Int)).bind fun g2=>(if g2 = true then (ap_p n c0).bind fun j2=>(if j2 = 50 then (aR_p n c0).bind fun M0=>(aa_p n M0.1 M0.2 (50:Int)).bind fun k2=>(if k2 = true then (ax_p n c0).bind fun P0=>(aa_p n P0.1 P0.2 (50:Int)).bind fun p2=>(if p2 = true then (ao_p n c0 (⟨(0,0,0,0,0,0,0,0),(0,0,0,0,0,0,0,0)⟩:Ta)).bind fun Q0=>(aa_p n Q0.1 Q0.2 (50:Int)).bind fun q2=>(if q2 = true then (aL_p n c0 (⟨(0,0,0,0,0,0,0,0),(0,0,0,0,0,0,0,0)⟩:Ta)).bind fun R0=>(ab_p n R0.1 R0.2 (50:Int)).bind fun t2=>(if t2 = true then (aA_p n b0 c0).bind fun U0=>(ab_p n U0.1 U0.2 (50:Int)).bind fun u2=>(if u2 = true then (au_p n c0 b0).bind fun V0=>(aa_p n V0.1 V0.2 (50:Int)).bind fun v2=>(if v2 = true then (ap_p n d0).bind fun x2=>(if x2 = 50 then (aR_p n d0).bind fun W0=>(aa_p n W0.1 W0.2 (50:Int)).bind fun z2=>(if z2 = true then (ax_p n d0).bind fun X0=>(aa_p n X0.1 X0.2 (50:Int)).bind fun A2=>(if A2 = true then (ao_p n d0 (⟨(0,0,0,0,0,0,0,0),(0,0,0,0,0,0,0,0)⟩:Ta)).bind fun Y0=>(aa_p n Y0.1 Y0.2 (50:Int)).bind fun B2=>(if B2 = true then (aL_p n d0 (⟨(0,0,0,0,0,0,0,0),(0,0,0,0,0,0,0,0)⟩:Ta)).bind fun Z0=>(ab_p n Z0.1 Z0.2 (50:Int)).bind fun C2=>(if C2 = true then (aA_p n b0 d0).bind fun b1=>(ab_p n b1.1 b1.2 (50:Int)).bind fun D2=>(if D2 = true then (au_p n d0 b0).bind fun c1=>(aa_p n c1.1 c1.2 (50:Int)).bind fun E2=>(if E2 = true then (ap_p n g0).bind fun F2=>(if F2 = 50 then (aR_p n g0).bind fun d1=>(aa_p n d1.1 d1.2 (50:Int)).bind fun G2=>(if G2 = true then (ax_p n g0).bind fun g1=>(aa_p n g1.1 g1.2 (50:Int)).bind fun H2=>(if H2 = true then (ao_p n g0 (⟨(0,0,0,0,0,0,0,0),(0,0,0,0,0,0,0,0)⟩:Ta)).bind fun j1=>(aa_p n j1.1 j1.2 (50:Int)).bind fun I2=>(if I2 = true then (aL_p n g0 (⟨(0,0,0,0,0,0,0,0),(0,0,0,0,0,0,0,0)⟩:Ta)).bind fun k1=>(ab_p n k1.1 k1.2 (50:Int)).bind fun J2=>(if J2 = true then (aA_p n b0 g0).bind fun p1=>(ab_p n p1.1 p1.2 (50:Int)).bind fun K2=>(if K2 = true then (au_p n g0 b0).bind fun q1=>(aa_p n q1.1 q1.2 (50:Int)).bind fun M2=>(if M2 = true then (ap_p n j0).bind fun P2=>(if P2 = 50 then (aR_p n j0).bind fun s1=>(aa_p n s1.1 s1.2 (50:Int)).bind fun Q2=>(if Q2 = true then (ax_p n j0).bind fun t1=>(aa_p n t1.1 t1.2 (50:Int)).bind fun R2=>(if R2 = true then (ao_p n j0 (⟨(0,0,0,0,0,0,0,0),(0,0,0,0,0,0,0,0)⟩:Ta)).bind fun u1=>(aa_p n u1.1 u1.2 (50:Int)).bind fun U2=>(if U2 = true then (aL_p n j0 (⟨(0,0,0,0,0,0,0,0),(0,0,0,0,0,0,0,0)⟩:Ta)).bind fun v1=>(ab_p n v1.1 v1.2 (50:Int)).bind fun V2=>(if V2 = true then (aA_p n b0 j0).bind fun x1=>(ab_p n x1.1 x1.2 (50:Int)).bind fun W2=>(if W2 = true then (au_p n j0 b0).bind fun z1=>(aa_p n z1.1 z1.2 (50:Int)).bind fun X2=>(if X2 = true then aH n b0 y2 x0 else some false) else none) else none) else none) else none) else none) else none) else some false) else none) else none) else none) else none) else none) else none) else some false) else none) else none) else none) else none) else none) else none) else some false) else none) else none) else none) else none) else none) else none) else some false) else none) else none) else none) else none) else none) else none) else some false) else none) else none) else none) else none) else none) else none) else some false) else none) else none) else none) else none) else none) else none) else none) else none) else none) else some false)
set_option maxRecDepth 20000 in
set_option maxHeartbeats 4000000 in
theorem aC_c (n:Nat) {L w} (hL:hl L w)  {r:Bool} (h:aC_p n = some r) :
 Cl 3 #[] w (ar w fun _ u=>u = .bool r):=by
 unfold aC_p at h
 have hS0:=AS w
 refine AT func3 I I I fun _ cs0 hb0=>Af<|Ai I<|Aa<|Ak<|Af<|bk h fun y1 hy1 h=>Bo (.bool y1) (bd 12) I ao (fun p q=>bf_c n (hS0.hL0 hL q)  hy1) I<|Ab (BC I)<|Aa<|MX.ifnb I h (fun c2 h=>?_) (fun c2 h=>?_)
 refine Ar<|Af<|Ab (AI (vs:=[vI 0,vI 1]) (u:=.agg #[vI 0,vI 1]) (e2 I I) (fun p=>by kernel_rfl))<|Ab (AI (vs:=[vI 2,vI 1]) (u:=.agg #[vI 2,vI 1]) (e2 I I) (fun p=>by kernel_rfl))<|Am .plain I (AG (α:=Int × Int) (xs:=([((0:Int),(1:Int)),((2:Int),(1:Int))]:List (Int × Int))) (vs:=[.agg #[vI 0,vI 1],.agg #[vI 2,vI 1]]) (ds' :=[vI 0,vI 1,vI 2,vI 1]) I hS0 bC I (e2 I I) (by kernel_rfl) I) fun w11 b14 j3 F0a=>?_
 have U4:=Bl j3 .hd
 have G0a:=Bm j3 .hd
 refine bk h fun y16 b05 h=>jE (bd 13) I (e2 I I) (fun p q=>ah_c n (U4.hL hL q) (Ah (Bn (α:=Int × Int) (v:=(vS b14 2)) (xs:=([((0:Int),(1:Int)),((2:Int),(1:Int))]:List (Int × Int))) U4 L (Ba (α:=Int × Int) j3 .hd (AC (cs:=[vI 0,vI 1,vI 2,vI 1]) (xs:=(([((0:Int),(1:Int)),((2:Int),(1:Int))]:List (Int × Int)):List (Int × Int))) j3 L (Ao (cs:=[vI 0,vI 1]) (ds:=[vI 2,vI 1]) (aK (0:Int) (1:Int)) (Ao (cs:=[vI 2,vI 1]) (ds:=[]) (aK (2:Int) (1:Int)) (AH _ _)))) hL)) q) b05) I fun w21 D0c z02 ⟨v26,hu_,c03⟩=>?_
 subst hu_
 obtain ⟨V4,H0a⟩:=U4.agr z02
 refine Ai I<|Aa<|Af<|bk h fun y28 v05 h=>Bo (.agg ((aa y28)).toArray) (bd 15) I (e2 I I) (fun p q=>ac_c n (V4.hL0 hL q)  v05) I<|bk h fun y29 y05 h=>jE (bd 14) I (e1 I) (fun p q=>bH_c n (V4.hL hL q) y28 y05) I fun w30 K0c C02 ⟨v35,hu_,g03⟩=>?_
 subst hu_
 obtain ⟨k02,t02⟩:=V4.agr C02
 refine Ae I<|Ab (Ac I I)<|Ab (Ac I I)<|Ai I<|Ai I<|Aa<|Af<|Ab (AI (vs:=[]) (u:=.agg #[vW 0,vW 0,vW 0,vW 0,vW 0,vW 0,vW 0,vW 0,vW 0,vW 0,vW 0,vW 0,vW 0,vW 0,vW 0,vW 0,vW 0,vW 0,vW 0,vW 0,vW 0,vW 0,vW 0,vW 0,vW 0,vW 0,vW 0,vW 0,vW 0,vW 0,vW 0,vW 0]) ao (fun p=>by kernel_rfl))<|Am .plain I (AG (α:=Tb) (xs:=([(⟨(⟨(0,0,0,0,0,0,0,0),(0,0,0,0,0,0,0,0)⟩:Ta),(⟨(0,0,0,0,0,0,0,0),(0,0,0,0,0,0,0,0)⟩:Ta)⟩:Tb)]:List Tb)) (vs:=[.agg #[vW 0,vW 0,vW 0,vW 0,vW 0,vW 0,vW 0,vW 0,vW 0,vW 0,vW 0,vW 0,vW 0,vW 0,vW 0,vW 0,vW 0,vW 0,vW 0,vW 0,vW 0,vW 0,vW 0,vW 0,vW 0,vW 0,vW 0,vW 0,vW 0,vW 0,vW 0,vW 0]]) (ds' :=[vW 0,vW 0,vW 0,vW 0,vW 0,vW 0,vW 0,vW 0,vW 0,vW 0,vW 0,vW 0,vW 0,vW 0,vW 0,vW 0,vW 0,vW 0,vW 0,vW 0,vW 0,vW 0,vW 0,vW 0,vW 0,vW 0,vW 0,vW 0,vW 0,vW 0,vW 0,vW 0]) I k02 dq I (e1 I) (by kernel_rfl) I) fun w38 b0 j1 K6=>?_
 have W02:=AC (cs:=[vW 0,vW 0,vW 0,vW 0,vW 0,vW 0,vW 0,vW 0,vW 0,vW 0,vW 0,vW 0,vW 0,vW 0,vW 0,vW 0,vW 0,vW 0,vW 0,vW 0,vW 0,vW 0,vW 0,vW 0,vW 0,vW 0,vW 0,vW 0,vW 0,vW 0,vW 0,vW 0]) (xs:=(([(⟨(⟨(0,0,0,0,0,0,0,0),(0,0,0,0,0,0,0,0)⟩:Ta),(⟨(0,0,0,0,0,0,0,0),(0,0,0,0,0,0,0,0)⟩:Ta)⟩:Tb)]:List Tb):List Tb)) j1 L (Ao (cs:=[vW 0,vW 0,vW 0,vW 0,vW 0,vW 0,vW 0,vW 0,vW 0,vW 0,vW 0,vW 0,vW 0,vW 0,vW 0,vW 0,vW 0,vW 0,vW 0,vW 0,vW 0,vW 0,vW 0,vW 0,vW 0,vW 0,vW 0,vW 0,vW 0,vW 0,vW 0,vW 0]) (ds:=[]) (bg (⟨(0,0,0,0,0,0,0,0),(0,0,0,0,0,0,0,0)⟩:Ta) (⟨(0,0,0,0,0,0,0,0),(0,0,0,0,0,0,0,0)⟩:Ta)) (AH _ _))
 refine Ai I<|Aa<|Af<|Ae I<|bk h fun y43 W05 h=>?_
 have G7:=Ag c03 (Tt t02 K6)
 refine Bo (vI y43) (bd 16) I (e1 I) (fun p q=>ap_c n (j1.hL0 hL q) (j1.kd G7 q) W05) I<|Ab (FV.eql (i:=y43) (j:=0) I I)<|Ae I<|RG.ifd (s:=37) I h (fun c45 h=>?_) (fun c45 h=>?_)
 refine Ax (Aj I)<|bk h fun y46 d06 h=>?_
 have J7:=Ag g03 K6
 refine AL (v:=vI y46) (fst:=[]) (cap:=[]) (.yes I I) (bd 16) I (e1 I) (fun p q=>ap_c n (j1.hL0 hL q) (j1.kd J7 q) d06) I<|Ax (FV.eql (i:=y46) (j:=0) I I)<|RG.pt I I<|Ae I<|RG.ifd (s:=42) I h (fun c48 h=>?_) (fun c48 h=>?_)
 refine Am (.yes I I) I (jB Tb j1 dq) fun w50 b53 E0 M6=>bk h fun y55 A06 h=>AL (v:=.bool y55) (fst:=[]) (cap:=[]) (.yes I I) (bd 17) I (e2 I I) (fun p q=>bc_c n (E0.hL0 hL q) (Ah (Rep.nilSlice _ _) q) (Ah (St.lend (α:=Tb) (L:=L) E0 .hd (jD Tb E0 L) hL) q) A06) I<|RG.pt I I<|Ae I<|RG.ifb (s:=46) I h (fun c56 h=>?_) (fun c56 h=>?_)
 refine Ax (Aj I)<|Ax (Aj I)<|bk h fun X0e V04 h=>?_
 have E5:=Ag G7 M6
 refine RG.valE (.yes I I) I (FV.cutL (α:=Tb) V04 I I E5 I ⟨_,I⟩) fun v58 u03=>bk h fun y61 I06 h=>AL (v:=.bool y61) (fst:=[]) (cap:=[]) (.yes I I) (bd 17) I (e2 I I) (fun p q=>bc_c n (E0.hL0 hL q) (E0.kd E5 q) (E0.kd u03 q) I06) I<|Ax (BC I)<|RG.pt I I<|Ai I<|Aa<|Ak<|Af<|Ae I<|Ab (AI (vs:=[vI 0,vI 1]) (u:=.agg #[vI 0,vI 1]) (e2 I I) (fun p=>by kernel_rfl))<|Am .plain I (AG (α:=Int × Int) (xs:=([((0:Int),(1:Int))]:List (Int × Int))) (vs:=[.agg #[vI 0,vI 1]]) (ds' :=[vI 0,vI 1]) I E0 bC I (e1 I) (by kernel_rfl) I) fun w63 b66 q3 P6=>?_
 have Y4:=Bl q3 .hd
 have Q6:=Bm q3 .hd
 refine bk h fun y68 X06 h=>jE (bd 13) I (e2 I I) (fun p q=>ah_c n (Y4.hL hL q) (Ah (Bn (α:=Int × Int) (v:=(vS b66 1)) (xs:=([((0:Int),(1:Int))]:List (Int × Int))) Y4 L (Ba (α:=Int × Int) q3 .hd (AC (cs:=[vI 0,vI 1]) (xs:=(([((0:Int),(1:Int))]:List (Int × Int)):List (Int × Int))) q3 L (Ao (cs:=[vI 0,vI 1]) (ds:=[]) (aK (0:Int) (1:Int)) (AH _ _))) hL)) q) X06) I fun w73 k0 M02 ⟨v78,hu_,A03⟩=>?_
 subst hu_
 obtain ⟨p02,R6⟩:=Y4.agr M02
 refine Ab (AI (vs:=[vI 2,vI 1]) (u:=.agg #[vI 2,vI 1]) (e2 I I) (fun p=>by kernel_rfl))<|Ab (AI (vs:=[vI 0,vI 1]) (u:=.agg #[vI 0,vI 1]) (e2 I I) (fun p=>by kernel_rfl))<|Am .plain I (AG (α:=Int × Int) (xs:=([((2:Int),(1:Int)),((0:Int),(1:Int))]:List (Int × Int))) (vs:=[.agg #[vI 2,vI 1],.agg #[vI 0,vI 1]]) (ds' :=[vI 2,vI 1,vI 0,vI 1]) I p02 bC I (e2 I I) (by kernel_rfl) I) fun w81 b84 s3 U6=>?_
 have Z4:=Bl s3 .hd
 have V6:=Bm s3 .hd
 refine bk h fun y86 G07 h=>jE (bd 13) I (e2 I I) (fun p q=>ah_c n (Z4.hL hL q) (Ah (Bn (α:=Int × Int) (v:=(vS b84 2)) (xs:=([((2:Int),(1:Int)),((0:Int),(1:Int))]:List (Int × Int))) Z4 L (Ba (α:=Int × Int) s3 .hd (AC (cs:=[vI 2,vI 1,vI 0,vI 1]) (xs:=(([((2:Int),(1:Int)),((0:Int),(1:Int))]:List (Int × Int)):List (Int × Int))) s3 L (Ao (cs:=[vI 2,vI 1]) (ds:=[vI 0,vI 1]) (aK (2:Int) (1:Int)) (Ao (cs:=[vI 0,vI 1]) (ds:=[]) (aK (0:Int) (1:Int)) (AH _ _)))) hL)) q) G07) I fun w91 p0 V02 ⟨v96,hu_,D03⟩=>?_
 subst hu_
 obtain ⟨s02,X6⟩:=Z4.agr V02
 refine Ab (AI (vs:=[vI 0,vI 1]) (u:=.agg #[vI 0,vI 1]) (e2 I I) (fun p=>by kernel_rfl))<|Ab (AI (vs:=[vI 0,vI 1]) (u:=.agg #[vI 0,vI 1]) (e2 I I) (fun p=>by kernel_rfl))<|Am .plain I (AG (α:=Int × Int) (xs:=([((0:Int),(1:Int)),((0:Int),(1:Int))]:List (Int × Int))) (vs:=[.agg #[vI 0,vI 1],.agg #[vI 0,vI 1]]) (ds' :=[vI 0,vI 1,vI 0,vI 1]) I s02 bC I (e2 I I) (by kernel_rfl) I) fun w99 A00 d3 b5=>?_
 have M4:=Bl d3 .hd
 have c5:=Bm d3 .hd
 refine bk h fun Y0e W04 h=>jE (bd 13) I (e2 I I) (fun p q=>ah_c n (M4.hL hL q) (Ah (Bn (α:=Int × Int) (v:=(vS A00 2)) (xs:=([((0:Int),(1:Int)),((0:Int),(1:Int))]:List (Int × Int))) M4 L (Ba (α:=Int × Int) d3 .hd (AC (cs:=[vI 0,vI 1,vI 0,vI 1]) (xs:=(([((0:Int),(1:Int)),((0:Int),(1:Int))]:List (Int × Int)):List (Int × Int))) d3 L (Ao (cs:=[vI 0,vI 1]) (ds:=[vI 0,vI 1]) (aK (0:Int) (1:Int)) (Ao (cs:=[vI 0,vI 1]) (ds:=[]) (aK (0:Int) (1:Int)) (AH _ _)))) hL)) q) W04) I fun d0e c0 u02 ⟨R0b,hu_,X02⟩=>?_
 subst hu_
 obtain ⟨d02,d5⟩:=M4.agr u02
 refine Ab (AI (vs:=[vI 0,vI 0]) (u:=.agg #[vI 0,vI 0]) (e2 I I) (fun p=>by kernel_rfl))<|Ab (AI (vs:=[vI 2,vI 2]) (u:=.agg #[vI 2,vI 2]) (e2 I I) (fun p=>by kernel_rfl))<|Am .plain I (AG (α:=Int × Int) (xs:=([((0:Int),(0:Int)),((2:Int),(2:Int))]:List (Int × Int))) (vs:=[.agg #[vI 0,vI 0],.agg #[vI 2,vI 2]]) (ds' :=[vI 0,vI 0,vI 2,vI 2]) I d02 bC I (e2 I I) (by kernel_rfl) I) fun j0e B00 g3 u3=>?_
 have P4:=Bl g3 .hd
 have v3:=Bm g3 .hd
 refine bk h fun Z0e X04 h=>jE (bd 13) I (e2 I I) (fun p q=>ah_c n (P4.hL hL q) (Ah (Bn (α:=Int × Int) (v:=(vS B00 2)) (xs:=([((0:Int),(0:Int)),((2:Int),(2:Int))]:List (Int × Int))) P4 L (Ba (α:=Int × Int) g3 .hd (AC (cs:=[vI 0,vI 0,vI 2,vI 2]) (xs:=(([((0:Int),(0:Int)),((2:Int),(2:Int))]:List (Int × Int)):List (Int × Int))) g3 L (Ao (cs:=[vI 0,vI 0]) (ds:=[vI 2,vI 2]) (aK (0:Int) (0:Int)) (Ao (cs:=[vI 2,vI 2]) (ds:=[]) (aK (2:Int) (2:Int)) (AH _ _)))) hL)) q) X04) I fun k0e d0 v02 ⟨U0b,hu_,Y02⟩=>?_
 subst hu_
 obtain ⟨g02,x3⟩:=P4.agr v02
 refine Ab (AI (vs:=[vI 0,vI (-1)]) (u:=.agg #[vI 0,vI (-1)]) (e2 I I) (fun p=>by kernel_rfl))<|Ab (AI (vs:=[vI 2,vI 3]) (u:=.agg #[vI 2,vI 3]) (e2 I I) (fun p=>by kernel_rfl))<|Am .plain I (AG (α:=Int × Int) (xs:=([((0:Int),(-1:Int)),((2:Int),(3:Int))]:List (Int × Int))) (vs:=[.agg #[vI 0,vI (-1)],.agg #[vI 2,vI 3]]) (ds' :=[vI 0,vI (-1),vI 2,vI 3]) I g02 bC I (e2 I I) (by kernel_rfl) I) fun p0e C00 k3 P1=>?_
 have Q4:=Bl k3 .hd
 have Q1:=Bm k3 .hd
 refine bk h fun b0f Y04 h=>jE (bd 13) I (e2 I I) (fun p q=>ah_c n (Q4.hL hL q) (Ah (Bn (α:=Int × Int) (v:=(vS C00 2)) (xs:=([((0:Int),(-1:Int)),((2:Int),(3:Int))]:List (Int × Int))) Q4 L (Ba (α:=Int × Int) k3 .hd (AC (cs:=[vI 0,vI (-1),vI 2,vI 3]) (xs:=(([((0:Int),(-1:Int)),((2:Int),(3:Int))]:List (Int × Int)):List (Int × Int))) k3 L (Ao (cs:=[vI 0,vI (-1)]) (ds:=[vI 2,vI 3]) (aK (0:Int) (-1:Int)) (Ao (cs:=[vI 2,vI 3]) (ds:=[]) (aK (2:Int) (3:Int)) (AH _ _)))) hL)) q) Y04) I fun q0e g0 x02 ⟨V0b,hu_,Z02⟩=>?_
 subst hu_
 obtain ⟨j02,R1⟩:=Q4.agr x02
 refine Ab (AI (vs:=[vI 0,vI 1]) (u:=.agg #[vI 0,vI 1]) (e2 I I) (fun p=>by kernel_rfl))<|Ab (AI (vs:=[vI 2,vI 3]) (u:=.agg #[vI 2,vI 3]) (e2 I I) (fun p=>by kernel_rfl))<|Am .plain I (AG (α:=Int × Int) (xs:=([((0:Int),(1:Int)),((2:Int),(3:Int))]:List (Int × Int))) (vs:=[.agg #[vI 0,vI 1],.agg #[vI 2,vI 3]]) (ds' :=[vI 0,vI 1,vI 2,vI 3]) I j02 bC I (e2 I I) (by kernel_rfl) I) fun s0e E00 p3 C1=>?_
 have R4:=Bl p3 .hd
 have D1:=Bm p3 .hd
 refine bk h fun c0f Z04 h=>jE (bd 13) I (e2 I I) (fun p q=>ah_c n (R4.hL hL q) (Ah (Bn (α:=Int × Int) (v:=(vS E00 2)) (xs:=([((0:Int),(1:Int)),((2:Int),(3:Int))]:List (Int × Int))) R4 L (Ba (α:=Int × Int) p3 .hd (AC (cs:=[vI 0,vI 1,vI 2,vI 3]) (xs:=(([((0:Int),(1:Int)),((2:Int),(3:Int))]:List (Int × Int)):List (Int × Int))) p3 L (Ao (cs:=[vI 0,vI 1]) (ds:=[vI 2,vI 3]) (aK (0:Int) (1:Int)) (Ao (cs:=[vI 2,vI 3]) (ds:=[]) (aK (2:Int) (3:Int)) (AH _ _)))) hL)) q) Z04) I fun Q07 j0 y02 ⟨W0b,hu_,W8⟩=>?_
 subst hu_
 obtain ⟨F1,E1⟩:=R4.agr y02
 have K8:=Tt U6 (Tt V6 (Tt X6 (Tt b5 (Tt c5 (Tt d5 (Tt u3 (Tt v3 (Tt x3 (Tt P1 (Tt Q1 (Tt R1 (Tt C1 (Tt D1 E1)))))))))))))
 have Y6:=Ag A03 K8
 obtain ⟨q0a,z0a,K04,_⟩:=BD Y6
 have Z6:=Ag D03 (Tt b5 (Tt c5 (Tt d5 (Tt u3 (Tt v3 (Tt x3 (Tt P1 (Tt Q1 (Tt R1 (Tt C1 (Tt D1 E1)))))))))))
 obtain ⟨s0a,A0a,M04,_⟩:=BD Z6
 have b7:=Ag X02 (Tt u3 (Tt v3 (Tt x3 (Tt P1 (Tt Q1 (Tt R1 (Tt C1 (Tt D1 E1))))))))
 obtain ⟨t0a,B0a,P04,_⟩:=BD b7
 have c7:=Ag Y02 (Tt P1 (Tt Q1 (Tt R1 (Tt C1 (Tt D1 E1)))))
 obtain ⟨u0a,C0a,Q04,_⟩:=BD c7
 have d7:=Ag Z02 (Tt C1 (Tt D1 E1))
 obtain ⟨v0a,D0a,R04,_⟩:=BD d7
 obtain ⟨x0a,E0a,U04,_⟩:=BD W8
 refine Ab (AI (vs:=[(vS b0 1),k0,p0,c0,d0,g0,j0]) (u:=.agg #[(vS b0 1),k0,p0,c0,d0,g0,j0]) (e7 I I I I I I I) (fun p=>by rw [K04,M04,P04,Q04,R04,U04]; try kernel_rfl))<|Ae I<|Aa<|Aw<|MX.loop1<|Af<|Ab (AY (i:=0) (j:=7) I I)<|Aa<|Ak<|AW I<|Ar<|Ak<|Aw<|Af<|Ab (FV.idx1 (cs:=[(vS b0 1),k0,p0,c0,d0,g0,j0]) (k:=0) (m:=1) (len:=7) I I I I I (by omega) I)<|Ai I<|Aa<|Af<|Ae I<|bk h fun j00 c05 h=>?_
 have M8:=Tt M6 (Tt P6 (Tt Q6 (Tt R6 K8)))
 have g7:=AK W02 M8
 refine Bo (vI j00) (bd 16) I (e1 I) (fun p q=>ap_c n (F1.hL0 hL q) (Ah (St.lend (α:=Tb) (L:=L) F1 .t1 g7 hL) q) c05) I<|Ab (BM (i:=j00) (j:=50) I I)<|Ae I<|RG.ifn (s:=84) I h (fun H00 h=>?_) (fun H00 h=>?_)
 refine Az (fst:=[]) (cap:=[]) (.yes I I) (bd 18) I (e1 I) (fun p q=>AD (al_c n (F1.hL hL q) (50:Int)) fun (w8:World) (u8:Vc) ⟨b0_,hu_,s_⟩=>(⟨b0_,hu_,s_.from q⟩:∃ U1:Nat,u8 = Value.func (.func 74) #[] #[vP U1]/\St Q07 w8 [.cells U1 [vI 50] 27])) I fun R07 B0c I0a ⟨U1,E03,Y8⟩=>?_
 subst E03
 have q0:=ah F1 Y8
 have y3:=am F1 Y8
 refine Ax (Aj I)<|bk h fun F5 d05 h=>?_
 have j7:=AK g7 y3
 refine AL (v:=.tuple #[.agg ((aa F5.1)).toArray,vI F5.2]) (fst:=[]) (cap:=[]) (.yes I I) (bd 19) I (e1 I) (fun p q=>aR_c n (q0.hL0 hL q) (Ah (St.lend (α:=Tb) (L:=L) q0 .t2 j7 hL) q) d05) I<|Ax (Ac I I)<|Ax (Ac I I)<|bk h fun Z08 g05 h=>AL (v:=.bool Z08) (fst:=[]) (cap:=[vP U1]) (.yes I I) (bd 74) I (e2 I I) (fun p q=>aa_c n (q0.hL0 hL q) F5.1 (ae q (q0.memA .hd)) g05) I<|Ax (BC I)<|Bp I I<|Ae I<|BI (s:=93) I h (fun I00 h=>?_) (fun I00 h=>?_)
 refine Az (fst:=[]) (cap:=[]) (.yes I I) (bd 18) I (e1 I) (fun p q=>AD (al_c n (q0.hL hL q) (50:Int)) fun (w8:World) (u8:Vc) ⟨b0_,hu_,s_⟩=>(⟨b0_,hu_,s_.from q⟩:∃ V1:Nat,u8 = Value.func (.func 74) #[] #[vP V1]/\St R07 w8 [.cells V1 [vI 50] 27])) I fun U07 C0c J0a ⟨V1,F03,Z8⟩=>?_
 subst F03
 have s0:=ah q0 Z8
 have z3:=am q0 Z8
 refine Ax (Aj I)<|bk h fun G5 j05 h=>?_
 have k7:=AK j7 z3
 refine AL (v:=.tuple #[.agg ((aa G5.1)).toArray,vI G5.2]) (fst:=[]) (cap:=[]) (.yes I I) (bd 20) I (e1 I) (fun p q=>ax_c n (s0.hL0 hL q) (Ah (St.lend (α:=Tb) (L:=L) s0 .t3 k7 hL) q) j05) I<|Ax (Ac I I)<|Ax (Ac I I)<|bk h fun b09 k05 h=>AL (v:=.bool b09) (fst:=[]) (cap:=[vP V1]) (.yes I I) (bd 74) I (e2 I I) (fun p q=>aa_c n (s0.hL0 hL q) G5.1 (ae q (s0.memA .hd)) k05) I<|Ax (BC I)<|Bp I I<|Ae I<|BI (s:=102) I h (fun J00 h=>?_) (fun J00 h=>?_)
 refine Az (fst:=[]) (cap:=[]) (.yes I I) (bd 18) I (e1 I) (fun p q=>AD (al_c n (s0.hL hL q) (50:Int)) fun (w8:World) (u8:Vc) ⟨b0_,hu_,s_⟩=>(⟨b0_,hu_,s_.from q⟩:∃ W1:Nat,u8 = Value.func (.func 74) #[] #[vP W1]/\St U07 w8 [.cells W1 [vI 50] 27])) I fun V07 E0c K0a ⟨W1,G03,b9⟩=>?_
 subst G03
 have t0:=ah s0 b9
 have A3:=am s0 b9
 refine Ax (Aj I)<|Ax (AI (vs:=[]) (u:=.agg zM) ao (fun p=>by kernel_rfl))<|bk h fun H5 p05 h=>?_
 have p7:=AK k7 A3
 refine AL (v:=.tuple #[.agg ((aa H5.1)).toArray,vI H5.2]) (fst:=[]) (cap:=[]) (.yes I I) (bd 21) I (e2 I I) (fun p q=>ao_c n (t0.hL0 hL q) (Ah (St.lend (α:=Tb) (L:=L) t0 .t4 p7 hL) q) (⟨(0,0,0,0,0,0,0,0),(0,0,0,0,0,0,0,0)⟩:Ta) p05) I<|Ax (Ac I I)<|Ax (Ac I I)<|bk h fun c09 q05 h=>AL (v:=.bool c09) (fst:=[]) (cap:=[vP W1]) (.yes I I) (bd 74) I (e2 I I) (fun p q=>aa_c n (t0.hL0 hL q) H5.1 (ae q (t0.memA .hd)) q05) I<|Ax (BC I)<|Bp I I<|Ae I<|BI (s:=112) I h (fun K00 h=>?_) (fun K00 h=>?_)
 refine Az (fst:=[]) (cap:=[]) (.yes I I) (bd 22) I (e1 I) (fun p q=>AD (ai_c n (t0.hL hL q) (50:Int)) fun (w8:World) (u8:Vc) ⟨b0_,hu_,s_⟩=>(⟨b0_,hu_,s_.from q⟩:∃ X1:Nat,u8 = Value.func (.func 82) #[] #[vP X1]/\St V07 w8 [.cells X1 [vI 50] 27])) I fun u0e F0c M0a ⟨X1,H03,c9⟩=>?_
 subst H03
 have W4:=ah t0 c9
 have B3:=am t0 c9
 refine Ax (Aj I)<|Ax (AI (vs:=[]) (u:=.agg zM) ao (fun p=>by kernel_rfl)) ?_
 have X4:=Bl W4 .t5
 have g5:=Bm W4 .t5
 have X8:=Bn (α:=Tb) (v:=(vS b0 1)) (xs:=([(⟨(⟨(0,0,0,0,0,0,0,0),(0,0,0,0,0,0,0,0)⟩:Ta),(⟨(0,0,0,0,0,0,0,0),(0,0,0,0,0,0,0,0)⟩:Ta)⟩:Tb)]:List Tb)) X4 L (Ba (α:=Tb) W4 .t5 (AK p7 B3) hL)
 refine bk h fun d0f s05 h=>Az (fst:=[]) (cap:=[]) (.yes I I) (bd 23) I (e2 I I) (fun p q=>aL_c n (X4.hL hL q) (Ah X8 q) (⟨(0,0,0,0,0,0,0,0),(0,0,0,0,0,0,0,0)⟩:Ta) s05) I fun W07 G0c A02 ⟨Y0b,hu_,b03⟩=>?_
 subst hu_
 obtain ⟨b1,C3⟩:=X4.agr A02
 refine Ax (Ac I I)<|Ax (Ac I I)<|bk h fun d09 t05 h=>AL (v:=.bool d09) (fst:=[]) (cap:=[vP X1]) (.yes I I) (bd 82) I (e2 I I) (fun p q=>ab_c n (b1.hL0 hL q) (b1.kd b03 q) (ae q (b1.memA .hd)) t05) I<|Ax (BC I)<|Bp I I<|Ae I<|BI (s:=122) I h (fun M00 h=>?_) (fun M00 h=>?_)
 refine Az (fst:=[]) (cap:=[]) (.yes I I) (bd 22) I (e1 I) (fun p q=>AD (ai_c n (b1.hL hL q) (50:Int)) fun (w8:World) (u8:Vc) ⟨b0_,hu_,s_⟩=>(⟨b0_,hu_,s_.from q⟩:∃ Y1:Nat,u8 = Value.func (.func 82) #[] #[vP Y1]/\St W07 w8 [.cells Y1 [vI 50] 27])) I fun v0e H0c P0a ⟨Y1,I03,d9⟩=>?_
 subst I03
 have x6:=ah b1 d9
 have D3:=am b1 d9
 refine Ax (Aj I)<|Ax (Aj I)<|bk h fun g0f u05 h=>?_
 have q7:=Ag E5 (Tt P6 (Tt Q6 (Tt R6 (Tt U6 (Tt V6 (Tt X6 (Tt b5 (Tt c5 (Tt d5 (Tt u3 (Tt v3 (Tt x3 (Tt P1 (Tt Q1 (Tt R1 (Tt C1 (Tt D1 (Tt E1 (Tt y3 (Tt z3 (Tt A3 (Tt B3 (Tt g5 (Tt C3 D3))))))))))))))))))))))))
 have s7:=Ag X8 (Tt C3 D3)
 refine Az (fst:=[]) (cap:=[]) (.yes I I) (bd 24) I (e2 I I) (fun p q=>aA_c n (x6.hL hL q) (Ah q7 q) (Ah s7 q) u05) I fun X07 I0c B02 ⟨Z0b,hu_,d03⟩=>?_
 subst hu_
 obtain ⟨c1,E3⟩:=x6.agr B02
 refine Ax (Ac I I)<|Ax (Ac I I)<|bk h fun g09 x05 h=>AL (v:=.bool g09) (fst:=[]) (cap:=[vP Y1]) (.yes I I) (bd 82) I (e2 I I) (fun p q=>ab_c n (c1.hL0 hL q) (c1.kd d03 q) (ae q (c1.memA .hd)) x05) I<|Ax (BC I)<|Bp I I<|Ae I<|BI (s:=132) I h (fun P00 h=>?_) (fun P00 h=>?_)
 refine Az (fst:=[]) (cap:=[]) (.yes I I) (bd 18) I (e1 I) (fun p q=>AD (al_c n (c1.hL hL q) (50:Int)) fun (w8:World) (u8:Vc) ⟨b0_,hu_,s_⟩=>(⟨b0_,hu_,s_.from q⟩:∃ Z1:Nat,u8 = Value.func (.func 74) #[] #[vP Z1]/\St X07 w8 [.cells Z1 [vI 50] 27])) I fun Y07 J0c Q0a ⟨Z1,J03,g9⟩=>?_
 subst J03
 have u0:=ah c1 g9
 have F3:=am c1 g9
 refine Ax (Aj I)<|Ax (Aj I)<|bk h fun I5 z05 h=>?_
 have t7:=Ag q7 (Tt E3 F3)
 refine AL (v:=.tuple #[.agg ((aa I5.1)).toArray,vI I5.2]) (fst:=[]) (cap:=[]) (.yes I I) (bd 25) I (e2 I I) (fun p q=>au_c n (u0.hL0 hL q) (u0.kd (Ag s7 (Tt E3 F3)) q) (u0.kd t7 q) z05) I<|Ax (Ac I I)<|Ax (Ac I I)<|bk h fun k09 A05 h=>AL (v:=.bool k09) (fst:=[]) (cap:=[vP Z1]) (.yes I I) (bd 74) I (e2 I I) (fun p q=>aa_c n (u0.hL0 hL q) I5.1 (ae q (u0.memA .hd)) A05) I<|Ax (BC I)<|Bp I I<|Aa<|MX.ifnb I h (fun Q00 h=>?_) (fun Q00 h=>?_)
 refine Ar<|Ay<|Ap<|Ab (FV.add (i:=0) (j:=1) (r:=1) I I (by decide))<|Ae I<|Aa<|Br ?_
 obtain ⟨G1,j5⟩:=AA u0 .done
 refine Af<|Ab (AY (i:=1) (j:=7) I I)<|Aa<|Ak<|AW I<|Ar<|Ak<|Aw<|Af<|Ab (FV.idx1 (cs:=[(vS b0 1),k0,p0,c0,d0,g0,j0]) (k:=1) (m:=1) (len:=7) I I I I I (by omega) I)<|Ai I<|Aa<|Af<|Ae I<|bk h fun p00 B05 h=>?_
 have P8:=Tt y3 (Tt z3 (Tt A3 (Tt B3 (Tt g5 (Tt C3 (Tt D3 (Tt E3 (Tt F3 j5))))))))
 have u7:=Ag Y6 P8
 refine Bo (vI p00) (bd 16) I (e1 I) (fun p q=>ap_c n (G1.hL0 hL q) (G1.kd u7 q) B05) I<|Ab (BM (i:=p00) (j:=50) I I)<|Ae I<|RG.ifn (s:=84) I h (fun R00 h=>?_) (fun R00 h=>?_)
 refine Az (fst:=[]) (cap:=[]) (.yes I I) (bd 18) I (e1 I) (fun p q=>AD (al_c n (G1.hL hL q) (50:Int)) fun (w8:World) (u8:Vc) ⟨b0_,hu_,s_⟩=>(⟨b0_,hu_,s_.from q⟩:∃ b2:Nat,u8 = Value.func (.func 74) #[] #[vP b2]/\St Y07 w8 [.cells b2 [vI 50] 27])) I fun Z07 M0c R0a ⟨b2,K03,j9⟩=>?_
 subst K03
 have v0:=ah G1 j9
 have G3:=am G1 j9
 refine Ax (Aj I)<|bk h fun J5 C05 h=>?_
 have v7:=Ag u7 G3
 refine AL (v:=.tuple #[.agg ((aa J5.1)).toArray,vI J5.2]) (fst:=[]) (cap:=[]) (.yes I I) (bd 19) I (e1 I) (fun p q=>aR_c n (v0.hL0 hL q) (v0.kd v7 q) C05) I<|Ax (Ac I I)<|Ax (Ac I I)<|bk h fun p09 D05 h=>AL (v:=.bool p09) (fst:=[]) (cap:=[vP b2]) (.yes I I) (bd 74) I (e2 I I) (fun p q=>aa_c n (v0.hL0 hL q) J5.1 (ae q (v0.memA .hd)) D05) I<|Ax (BC I)<|Bp I I<|Ae I<|BI (s:=93) I h (fun U00 h=>?_) (fun U00 h=>?_)
 refine Az (fst:=[]) (cap:=[]) (.yes I I) (bd 18) I (e1 I) (fun p q=>AD (al_c n (v0.hL hL q) (50:Int)) fun (w8:World) (u8:Vc) ⟨b0_,hu_,s_⟩=>(⟨b0_,hu_,s_.from q⟩:∃ d2:Nat,u8 = Value.func (.func 74) #[] #[vP d2]/\St Z07 w8 [.cells d2 [vI 50] 27])) I fun b08 P0c U0a ⟨d2,M03,k9⟩=>?_
 subst M03
 have x0:=ah v0 k9
 have H3:=am v0 k9
 refine Ax (Aj I)<|bk h fun K5 E05 h=>?_
 have x7:=Ag v7 H3
 refine AL (v:=.tuple #[.agg ((aa K5.1)).toArray,vI K5.2]) (fst:=[]) (cap:=[]) (.yes I I) (bd 20) I (e1 I) (fun p q=>ax_c n (x0.hL0 hL q) (x0.kd x7 q) E05) I<|Ax (Ac I I)<|Ax (Ac I I)<|bk h fun q09 F05 h=>AL (v:=.bool q09) (fst:=[]) (cap:=[vP d2]) (.yes I I) (bd 74) I (e2 I I) (fun p q=>aa_c n (x0.hL0 hL q) K5.1 (ae q (x0.memA .hd)) F05) I<|Ax (BC I)<|Bp I I<|Ae I<|BI (s:=102) I h (fun V00 h=>?_) (fun V00 h=>?_)
 refine Az (fst:=[]) (cap:=[]) (.yes I I) (bd 18) I (e1 I) (fun p q=>AD (al_c n (x0.hL hL q) (50:Int)) fun (w8:World) (u8:Vc) ⟨b0_,hu_,s_⟩=>(⟨b0_,hu_,s_.from q⟩:∃ g2:Nat,u8 = Value.func (.func 74) #[] #[vP g2]/\St b08 w8 [.cells g2 [vI 50] 27])) I fun c08 Q0c V0a ⟨g2,P03,p9⟩=>?_
 subst P03
 have y0:=ah x0 p9
 have I3:=am x0 p9
 refine Ax (Aj I)<|Ax (AI (vs:=[]) (u:=.agg zM) ao (fun p=>by kernel_rfl))<|bk h fun M5 G05 h=>?_
 have y7:=Ag x7 I3
 refine AL (v:=.tuple #[.agg ((aa M5.1)).toArray,vI M5.2]) (fst:=[]) (cap:=[]) (.yes I I) (bd 21) I (e2 I I) (fun p q=>ao_c n (y0.hL0 hL q) (y0.kd y7 q) (⟨(0,0,0,0,0,0,0,0),(0,0,0,0,0,0,0,0)⟩:Ta) G05) I<|Ax (Ac I I)<|Ax (Ac I I)<|bk h fun s09 H05 h=>AL (v:=.bool s09) (fst:=[]) (cap:=[vP g2]) (.yes I I) (bd 74) I (e2 I I) (fun p q=>aa_c n (y0.hL0 hL q) M5.1 (ae q (y0.memA .hd)) H05) I<|Ax (BC I)<|Bp I I<|Ae I<|BI (s:=112) I h (fun W00 h=>?_) (fun W00 h=>?_)
 refine Az (fst:=[]) (cap:=[]) (.yes I I) (bd 22) I (e1 I) (fun p q=>AD (ai_c n (y0.hL hL q) (50:Int)) fun (w8:World) (u8:Vc) ⟨b0_,hu_,s_⟩=>(⟨b0_,hu_,s_.from q⟩:∃ j2:Nat,u8 = Value.func (.func 82) #[] #[vP j2]/\St c08 w8 [.cells j2 [vI 50] 27])) I fun y0e R0c W0a ⟨j2,Q03,q9⟩=>?_
 subst Q03
 have y6:=ah y0 q9
 have J3:=am y0 q9
 refine Ax (Aj I)<|Ax (AI (vs:=[]) (u:=.agg zM) ao (fun p=>by kernel_rfl))<|bk h fun j0f I05 h=>?_
 have z7:=Ag y7 J3
 refine Az (fst:=[]) (cap:=[]) (.yes I I) (bd 23) I (e2 I I) (fun p q=>aL_c n (y6.hL hL q) (Ah z7 q) (⟨(0,0,0,0,0,0,0,0),(0,0,0,0,0,0,0,0)⟩:Ta) I05) I fun d08 U0c D02 ⟨c0c,hu_,j03⟩=>?_
 subst hu_
 obtain ⟨d1,K3⟩:=y6.agr D02
 refine Ax (Ac I I)<|Ax (Ac I I)<|bk h fun t09 J05 h=>AL (v:=.bool t09) (fst:=[]) (cap:=[vP j2]) (.yes I I) (bd 82) I (e2 I I) (fun p q=>ab_c n (d1.hL0 hL q) (d1.kd j03 q) (ae q (d1.memA .hd)) J05) I<|Ax (BC I)<|Bp I I<|Ae I<|BI (s:=122) I h (fun X00 h=>?_) (fun X00 h=>?_)
 refine Az (fst:=[]) (cap:=[]) (.yes I I) (bd 22) I (e1 I) (fun p q=>AD (ai_c n (d1.hL hL q) (50:Int)) fun (w8:World) (u8:Vc) ⟨b0_,hu_,s_⟩=>(⟨b0_,hu_,s_.from q⟩:∃ k2:Nat,u8 = Value.func (.func 82) #[] #[vP k2]/\St d08 w8 [.cells k2 [vI 50] 27])) I fun z0e V0c X0a ⟨k2,R03,s9⟩=>?_
 subst R03
 have z6:=ah d1 s9
 have M3:=am d1 s9
 refine Ax (Aj I)<|Ax (Aj I)<|bk h fun k0f K05 h=>?_
 have A7:=Ag t7 (Tt j5 (Tt G3 (Tt H3 (Tt I3 (Tt J3 (Tt K3 M3))))))
 have B7:=Ag z7 (Tt K3 M3)
 refine Az (fst:=[]) (cap:=[]) (.yes I I) (bd 24) I (e2 I I) (fun p q=>aA_c n (z6.hL hL q) (Ah A7 q) (Ah B7 q) K05) I fun g08 W0c E02 ⟨d0c,hu_,k03⟩=>?_
 subst hu_
 obtain ⟨g1,P3⟩:=z6.agr E02
 refine Ax (Ac I I)<|Ax (Ac I I)<|bk h fun u09 M05 h=>AL (v:=.bool u09) (fst:=[]) (cap:=[vP k2]) (.yes I I) (bd 82) I (e2 I I) (fun p q=>ab_c n (g1.hL0 hL q) (g1.kd k03 q) (ae q (g1.memA .hd)) M05) I<|Ax (BC I)<|Bp I I<|Ae I<|BI (s:=132) I h (fun Y00 h=>?_) (fun Y00 h=>?_)
 refine Az (fst:=[]) (cap:=[]) (.yes I I) (bd 18) I (e1 I) (fun p q=>AD (al_c n (g1.hL hL q) (50:Int)) fun (w8:World) (u8:Vc) ⟨b0_,hu_,s_⟩=>(⟨b0_,hu_,s_.from q⟩:∃ p2:Nat,u8 = Value.func (.func 74) #[] #[vP p2]/\St g08 w8 [.cells p2 [vI 50] 27])) I fun j08 X0c Y0a ⟨p2,U03,t9⟩=>?_
 subst U03
 have z0:=ah g1 t9
 have Q3:=am g1 t9
 refine Ax (Aj I)<|Ax (Aj I)<|bk h fun P5 P05 h=>?_
 have C7:=Ag A7 (Tt P3 Q3)
 refine AL (v:=.tuple #[.agg ((aa P5.1)).toArray,vI P5.2]) (fst:=[]) (cap:=[]) (.yes I I) (bd 25) I (e2 I I) (fun p q=>au_c n (z0.hL0 hL q) (z0.kd (Ag B7 (Tt P3 Q3)) q) (z0.kd C7 q) P05) I<|Ax (Ac I I)<|Ax (Ac I I)<|bk h fun v09 Q05 h=>AL (v:=.bool v09) (fst:=[]) (cap:=[vP p2]) (.yes I I) (bd 74) I (e2 I I) (fun p q=>aa_c n (z0.hL0 hL q) P5.1 (ae q (z0.memA .hd)) Q05) I<|Ax (BC I)<|Bp I I<|Aa<|MX.ifnb I h (fun Z00 h=>?_) (fun Z00 h=>?_)
 refine Ar<|Ay<|Ap<|Ab (FV.add (i:=1) (j:=1) (r:=2) I I (by decide))<|Ae I<|Aa<|Br ?_
 obtain ⟨H1,k5⟩:=AA z0 .done
 refine Af<|Ab (AY (i:=2) (j:=7) I I)<|Aa<|Ak<|AW I<|Ar<|Ak<|Aw<|Af<|Ab (FV.idx1 (cs:=[(vS b0 1),k0,p0,c0,d0,g0,j0]) (k:=2) (m:=1) (len:=7) I I I I I (by omega) I)<|Ai I<|Aa<|Af<|Ae I<|bk h fun q00 R05 h=>?_
 have Q8:=Tt P8 (Tt G3 (Tt H3 (Tt I3 (Tt J3 (Tt K3 (Tt M3 (Tt P3 (Tt Q3 k5))))))))
 have D7:=Ag Z6 Q8
 refine Bo (vI q00) (bd 16) I (e1 I) (fun p q=>ap_c n (H1.hL0 hL q) (H1.kd D7 q) R05) I<|Ab (BM (i:=q00) (j:=50) I I)<|Ae I<|RG.ifn (s:=84) I h (fun b01 h=>?_) (fun b01 h=>?_)
 refine Az (fst:=[]) (cap:=[]) (.yes I I) (bd 18) I (e1 I) (fun p q=>AD (al_c n (H1.hL hL q) (50:Int)) fun (w8:World) (u8:Vc) ⟨b0_,hu_,s_⟩=>(⟨b0_,hu_,s_.from q⟩:∃ q2:Nat,u8 = Value.func (.func 74) #[] #[vP q2]/\St j08 w8 [.cells q2 [vI 50] 27])) I fun k08 Y0c Z0a ⟨q2,V03,u9⟩=>?_
 subst V03
 have A0:=ah H1 u9
 have R3:=am H1 u9
 refine Ax (Aj I)<|bk h fun Q5 U05 h=>?_
 have E7:=Ag D7 R3
 refine AL (v:=.tuple #[.agg ((aa Q5.1)).toArray,vI Q5.2]) (fst:=[]) (cap:=[]) (.yes I I) (bd 19) I (e1 I) (fun p q=>aR_c n (A0.hL0 hL q) (A0.kd E7 q) U05) I<|Ax (Ac I I)<|Ax (Ac I I)<|bk h fun x09 V05 h=>AL (v:=.bool x09) (fst:=[]) (cap:=[vP q2]) (.yes I I) (bd 74) I (e2 I I) (fun p q=>aa_c n (A0.hL0 hL q) Q5.1 (ae q (A0.memA .hd)) V05) I<|Ax (BC I)<|Bp I I<|Ae I<|BI (s:=93) I h (fun c01 h=>?_) (fun c01 h=>?_)
 refine Az (fst:=[]) (cap:=[]) (.yes I I) (bd 18) I (e1 I) (fun p q=>AD (al_c n (A0.hL hL q) (50:Int)) fun (w8:World) (u8:Vc) ⟨b0_,hu_,s_⟩=>(⟨b0_,hu_,s_.from q⟩:∃ s2:Nat,u8 = Value.func (.func 74) #[] #[vP s2]/\St k08 w8 [.cells s2 [vI 50] 27])) I fun p08 Z0c b0b ⟨s2,W03,v9⟩=>?_
 subst W03
 have B0:=ah A0 v9
 have U3:=am A0 v9
 refine Ax (Aj I)<|bk h fun R5 X05 h=>?_
 have F7:=Ag E7 U3
 refine AL (v:=.tuple #[.agg ((aa R5.1)).toArray,vI R5.2]) (fst:=[]) (cap:=[]) (.yes I I) (bd 20) I (e1 I) (fun p q=>ax_c n (B0.hL0 hL q) (B0.kd F7 q) X05) I<|Ax (Ac I I)<|Ax (Ac I I)<|bk h fun y09 Y05 h=>AL (v:=.bool y09) (fst:=[]) (cap:=[vP s2]) (.yes I I) (bd 74) I (e2 I I) (fun p q=>aa_c n (B0.hL0 hL q) R5.1 (ae q (B0.memA .hd)) Y05) I<|Ax (BC I)<|Bp I I<|Ae I<|BI (s:=102) I h (fun d01 h=>?_) (fun d01 h=>?_)
 refine Az (fst:=[]) (cap:=[]) (.yes I I) (bd 18) I (e1 I) (fun p q=>AD (al_c n (B0.hL hL q) (50:Int)) fun (w8:World) (u8:Vc) ⟨b0_,hu_,s_⟩=>(⟨b0_,hu_,s_.from q⟩:∃ u2:Nat,u8 = Value.func (.func 74) #[] #[vP u2]/\St p08 w8 [.cells u2 [vI 50] 27])) I fun q08 b0d c0b ⟨u2,X03,x9⟩=>?_
 subst X03
 have C0:=ah B0 x9
 have V3:=am B0 x9
 refine Ax (Aj I)<|Ax (AI (vs:=[]) (u:=.agg zM) ao (fun p=>by kernel_rfl))<|bk h fun U5 Z05 h=>?_
 have H7:=Ag F7 V3
 refine AL (v:=.tuple #[.agg ((aa U5.1)).toArray,vI U5.2]) (fst:=[]) (cap:=[]) (.yes I I) (bd 21) I (e2 I I) (fun p q=>ao_c n (C0.hL0 hL q) (C0.kd H7 q) (⟨(0,0,0,0,0,0,0,0),(0,0,0,0,0,0,0,0)⟩:Ta) Z05) I<|Ax (Ac I I)<|Ax (Ac I I)<|bk h fun z09 b06 h=>AL (v:=.bool z09) (fst:=[]) (cap:=[vP u2]) (.yes I I) (bd 74) I (e2 I I) (fun p q=>aa_c n (C0.hL0 hL q) U5.1 (ae q (C0.memA .hd)) b06) I<|Ax (BC I)<|Bp I I<|Ae I<|BI (s:=112) I h (fun g01 h=>?_) (fun g01 h=>?_)
 refine Az (fst:=[]) (cap:=[]) (.yes I I) (bd 22) I (e1 I) (fun p q=>AD (ai_c n (C0.hL hL q) (50:Int)) fun (w8:World) (u8:Vc) ⟨b0_,hu_,s_⟩=>(⟨b0_,hu_,s_.from q⟩:∃ v2:Nat,u8 = Value.func (.func 82) #[] #[vP v2]/\St q08 w8 [.cells v2 [vI 50] 27])) I fun B0e c0d d0b ⟨v2,Y03,y9⟩=>?_
 subst Y03
 have A6:=ah C0 y9
 have W3:=am C0 y9
 refine Ax (Aj I)<|Ax (AI (vs:=[]) (u:=.agg zM) ao (fun p=>by kernel_rfl))<|bk h fun p0f c06 h=>?_
 have I7:=Ag H7 W3
 refine Az (fst:=[]) (cap:=[]) (.yes I I) (bd 23) I (e2 I I) (fun p q=>aL_c n (A6.hL hL q) (Ah I7 q) (⟨(0,0,0,0,0,0,0,0),(0,0,0,0,0,0,0,0)⟩:Ta) c06) I fun s08 d0d F02 ⟨g0c,hu_,p03⟩=>?_
 subst hu_
 obtain ⟨k1,X3⟩:=A6.agr F02
 refine Ax (Ac I I)<|Ax (Ac I I)<|bk h fun A09 g06 h=>AL (v:=.bool A09) (fst:=[]) (cap:=[vP v2]) (.yes I I) (bd 82) I (e2 I I) (fun p q=>ab_c n (k1.hL0 hL q) (k1.kd p03 q) (ae q (k1.memA .hd)) g06) I<|Ax (BC I)<|Bp I I<|Ae I<|BI (s:=122) I h (fun k01 h=>?_) (fun k01 h=>?_)
 refine Az (fst:=[]) (cap:=[]) (.yes I I) (bd 22) I (e1 I) (fun p q=>AD (ai_c n (k1.hL hL q) (50:Int)) fun (w8:World) (u8:Vc) ⟨b0_,hu_,s_⟩=>(⟨b0_,hu_,s_.from q⟩:∃ x2:Nat,u8 = Value.func (.func 82) #[] #[vP x2]/\St s08 w8 [.cells x2 [vI 50] 27])) I fun C0e g0d g0b ⟨x2,Z03,z9⟩=>?_
 subst Z03
 have B6:=ah k1 z9
 have Y3:=am k1 z9
 refine Ax (Aj I)<|Ax (Aj I)<|bk h fun q0f j06 h=>?_
 have K7:=Ag C7 (Tt k5 (Tt R3 (Tt U3 (Tt V3 (Tt W3 (Tt X3 Y3))))))
 have M7:=Ag I7 (Tt X3 Y3)
 refine Az (fst:=[]) (cap:=[]) (.yes I I) (bd 24) I (e2 I I) (fun p q=>aA_c n (B6.hL hL q) (Ah K7 q) (Ah M7 q) j06) I fun t08 j0d G02 ⟨j0c,hu_,q03⟩=>?_
 subst hu_
 obtain ⟨p1,Z3⟩:=B6.agr G02
 refine Ax (Ac I I)<|Ax (Ac I I)<|bk h fun B09 k06 h=>AL (v:=.bool B09) (fst:=[]) (cap:=[vP x2]) (.yes I I) (bd 82) I (e2 I I) (fun p q=>ab_c n (p1.hL0 hL q) (p1.kd q03 q) (ae q (p1.memA .hd)) k06) I<|Ax (BC I)<|Bp I I<|Ae I<|BI (s:=132) I h (fun q01 h=>?_) (fun q01 h=>?_)
 refine Az (fst:=[]) (cap:=[]) (.yes I I) (bd 18) I (e1 I) (fun p q=>AD (al_c n (p1.hL hL q) (50:Int)) fun (w8:World) (u8:Vc) ⟨b0_,hu_,s_⟩=>(⟨b0_,hu_,s_.from q⟩:∃ y2:Nat,u8 = Value.func (.func 74) #[] #[vP y2]/\St t08 w8 [.cells y2 [vI 50] 27])) I fun u08 k0d j0b ⟨y2,b04,A9⟩=>?_
 subst b04
 have D0:=ah p1 A9
 have b4:=am p1 A9
 refine Ax (Aj I)<|Ax (Aj I)<|bk h fun V5 p06 h=>?_
 have P7:=Ag K7 (Tt Z3 b4)
 refine AL (v:=.tuple #[.agg ((aa V5.1)).toArray,vI V5.2]) (fst:=[]) (cap:=[]) (.yes I I) (bd 25) I (e2 I I) (fun p q=>au_c n (D0.hL0 hL q) (D0.kd (Ag M7 (Tt Z3 b4)) q) (D0.kd P7 q) p06) I<|Ax (Ac I I)<|Ax (Ac I I)<|bk h fun C09 q06 h=>AL (v:=.bool C09) (fst:=[]) (cap:=[vP y2]) (.yes I I) (bd 74) I (e2 I I) (fun p q=>aa_c n (D0.hL0 hL q) V5.1 (ae q (D0.memA .hd)) q06) I<|Ax (BC I)<|Bp I I<|Aa<|MX.ifnb I h (fun s01 h=>?_) (fun s01 h=>?_)
 refine Ar<|Ay<|Ap<|Ab (FV.add (i:=2) (j:=1) (r:=3) I I (by decide))<|Ae I<|Aa<|Br ?_
 obtain ⟨I1,p5⟩:=AA D0 .done
 refine Af<|Ab (AY (i:=3) (j:=7) I I)<|Aa<|Ak<|AW I<|Ar<|Ak<|Aw<|Af<|Ab (FV.idx1 (cs:=[(vS b0 1),k0,p0,c0,d0,g0,j0]) (k:=3) (m:=1) (len:=7) I I I I I (by omega) I)<|Ai I<|Aa<|Af<|Ae I<|bk h fun u00 s06 h=>?_
 have R8:=Tt Q8 (Tt R3 (Tt U3 (Tt V3 (Tt W3 (Tt X3 (Tt Y3 (Tt Z3 (Tt b4 p5))))))))
 have Q7:=Ag b7 R8
 refine Bo (vI u00) (bd 16) I (e1 I) (fun p q=>ap_c n (I1.hL0 hL q) (I1.kd Q7 q) s06) I<|Ab (BM (i:=u00) (j:=50) I I)<|Ae I<|RG.ifn (s:=84) I h (fun t01 h=>?_) (fun t01 h=>?_)
 refine Az (fst:=[]) (cap:=[]) (.yes I I) (bd 18) I (e1 I) (fun p q=>AD (al_c n (I1.hL hL q) (50:Int)) fun (w8:World) (u8:Vc) ⟨b0_,hu_,s_⟩=>(⟨b0_,hu_,s_.from q⟩:∃ z2:Nat,u8 = Value.func (.func 74) #[] #[vP z2]/\St u08 w8 [.cells z2 [vI 50] 27])) I fun v08 p0d k0b ⟨z2,c04,B9⟩=>?_
 subst c04
 have F0:=ah I1 B9
 have c4:=am I1 B9
 refine Ax (Aj I)<|bk h fun W5 t06 h=>?_
 have R7:=Ag Q7 c4
 refine AL (v:=.tuple #[.agg ((aa W5.1)).toArray,vI W5.2]) (fst:=[]) (cap:=[]) (.yes I I) (bd 19) I (e1 I) (fun p q=>aR_c n (F0.hL0 hL q) (F0.kd R7 q) t06) I<|Ax (Ac I I)<|Ax (Ac I I)<|bk h fun D09 u06 h=>AL (v:=.bool D09) (fst:=[]) (cap:=[vP z2]) (.yes I I) (bd 74) I (e2 I I) (fun p q=>aa_c n (F0.hL0 hL q) W5.1 (ae q (F0.memA .hd)) u06) I<|Ax (BC I)<|Bp I I<|Ae I<|BI (s:=93) I h (fun u01 h=>?_) (fun u01 h=>?_)
 refine Az (fst:=[]) (cap:=[]) (.yes I I) (bd 18) I (e1 I) (fun p q=>AD (al_c n (F0.hL hL q) (50:Int)) fun (w8:World) (u8:Vc) ⟨b0_,hu_,s_⟩=>(⟨b0_,hu_,s_.from q⟩:∃ A2:Nat,u8 = Value.func (.func 74) #[] #[vP A2]/\St v08 w8 [.cells A2 [vI 50] 27])) I fun x08 q0d p0b ⟨A2,d04,C9⟩=>?_
 subst d04
 have G0:=ah F0 C9
 have d4:=am F0 C9
 refine Ax (Aj I)<|bk h fun X5 v06 h=>?_
 have U7:=Ag R7 d4
 refine AL (v:=.tuple #[.agg ((aa X5.1)).toArray,vI X5.2]) (fst:=[]) (cap:=[]) (.yes I I) (bd 20) I (e1 I) (fun p q=>ax_c n (G0.hL0 hL q) (G0.kd U7 q) v06) I<|Ax (Ac I I)<|Ax (Ac I I)<|bk h fun E09 x06 h=>AL (v:=.bool E09) (fst:=[]) (cap:=[vP A2]) (.yes I I) (bd 74) I (e2 I I) (fun p q=>aa_c n (G0.hL0 hL q) X5.1 (ae q (G0.memA .hd)) x06) I<|Ax (BC I)<|Bp I I<|Ae I<|BI (s:=102) I h (fun v01 h=>?_) (fun v01 h=>?_)
 refine Az (fst:=[]) (cap:=[]) (.yes I I) (bd 18) I (e1 I) (fun p q=>AD (al_c n (G0.hL hL q) (50:Int)) fun (w8:World) (u8:Vc) ⟨b0_,hu_,s_⟩=>(⟨b0_,hu_,s_.from q⟩:∃ B2:Nat,u8 = Value.func (.func 74) #[] #[vP B2]/\St x08 w8 [.cells B2 [vI 50] 27])) I fun y08 s0d q0b ⟨B2,g04,D9⟩=>?_
 subst g04
 have H0:=ah G0 D9
 have g4:=am G0 D9
 refine Ax (Aj I)<|Ax (AI (vs:=[]) (u:=.agg zM) ao (fun p=>by kernel_rfl))<|bk h fun Y5 y06 h=>?_
 have V7:=Ag U7 g4
 refine AL (v:=.tuple #[.agg ((aa Y5.1)).toArray,vI Y5.2]) (fst:=[]) (cap:=[]) (.yes I I) (bd 21) I (e2 I I) (fun p q=>ao_c n (H0.hL0 hL q) (H0.kd V7 q) (⟨(0,0,0,0,0,0,0,0),(0,0,0,0,0,0,0,0)⟩:Ta) y06) I<|Ax (Ac I I)<|Ax (Ac I I)<|bk h fun F09 z06 h=>AL (v:=.bool F09) (fst:=[]) (cap:=[vP B2]) (.yes I I) (bd 74) I (e2 I I) (fun p q=>aa_c n (H0.hL0 hL q) Y5.1 (ae q (H0.memA .hd)) z06) I<|Ax (BC I)<|Bp I I<|Ae I<|BI (s:=112) I h (fun x01 h=>?_) (fun x01 h=>?_)
 refine Az (fst:=[]) (cap:=[]) (.yes I I) (bd 22) I (e1 I) (fun p q=>AD (ai_c n (H0.hL hL q) (50:Int)) fun (w8:World) (u8:Vc) ⟨b0_,hu_,s_⟩=>(⟨b0_,hu_,s_.from q⟩:∃ C2:Nat,u8 = Value.func (.func 82) #[] #[vP C2]/\St y08 w8 [.cells C2 [vI 50] 27])) I fun E0e t0d s0b ⟨C2,j04,E9⟩=>?_
 subst j04
 have C6:=ah H0 E9
 have j4:=am H0 E9
 refine Ax (Aj I)<|Ax (AI (vs:=[]) (u:=.agg zM) ao (fun p=>by kernel_rfl))<|bk h fun s0f B06 h=>?_
 have W7:=Ag V7 j4
 refine Az (fst:=[]) (cap:=[]) (.yes I I) (bd 23) I (e2 I I) (fun p q=>aL_c n (C6.hL hL q) (Ah W7 q) (⟨(0,0,0,0,0,0,0,0),(0,0,0,0,0,0,0,0)⟩:Ta) B06) I fun z08 u0d H02 ⟨k0c,hu_,s03⟩=>?_
 subst hu_
 obtain ⟨q1,k4⟩:=C6.agr H02
 refine Ax (Ac I I)<|Ax (Ac I I)<|bk h fun H09 C06 h=>AL (v:=.bool H09) (fst:=[]) (cap:=[vP C2]) (.yes I I) (bd 82) I (e2 I I) (fun p q=>ab_c n (q1.hL0 hL q) (q1.kd s03 q) (ae q (q1.memA .hd)) C06) I<|Ax (BC I)<|Bp I I<|Ae I<|BI (s:=122) I h (fun z01 h=>?_) (fun z01 h=>?_)
 refine Az (fst:=[]) (cap:=[]) (.yes I I) (bd 22) I (e1 I) (fun p q=>AD (ai_c n (q1.hL hL q) (50:Int)) fun (w8:World) (u8:Vc) ⟨b0_,hu_,s_⟩=>(⟨b0_,hu_,s_.from q⟩:∃ D2:Nat,u8 = Value.func (.func 82) #[] #[vP D2]/\St z08 w8 [.cells D2 [vI 50] 27])) I fun F0e v0d t0b ⟨D2,k04,F9⟩=>?_
 subst k04
 have D6:=ah q1 F9
 have p4:=am q1 F9
 refine Ax (Aj I)<|Ax (Aj I)<|bk h fun t0f D06 h=>?_
 have X7:=Ag P7 (Tt p5 (Tt c4 (Tt d4 (Tt g4 (Tt j4 (Tt k4 p4))))))
 have Y7:=Ag W7 (Tt k4 p4)
 refine Az (fst:=[]) (cap:=[]) (.yes I I) (bd 24) I (e2 I I) (fun p q=>aA_c n (D6.hL hL q) (Ah X7 q) (Ah Y7 q) D06) I fun A08 x0d I02 ⟨q0c,hu_,t03⟩=>?_
 subst hu_
 obtain ⟨s1,q4⟩:=D6.agr I02
 refine Ax (Ac I I)<|Ax (Ac I I)<|bk h fun I09 E06 h=>AL (v:=.bool I09) (fst:=[]) (cap:=[vP D2]) (.yes I I) (bd 82) I (e2 I I) (fun p q=>ab_c n (s1.hL0 hL q) (s1.kd t03 q) (ae q (s1.memA .hd)) E06) I<|Ax (BC I)<|Bp I I<|Ae I<|BI (s:=132) I h (fun A01 h=>?_) (fun A01 h=>?_)
 refine Az (fst:=[]) (cap:=[]) (.yes I I) (bd 18) I (e1 I) (fun p q=>AD (al_c n (s1.hL hL q) (50:Int)) fun (w8:World) (u8:Vc) ⟨b0_,hu_,s_⟩=>(⟨b0_,hu_,s_.from q⟩:∃ E2:Nat,u8 = Value.func (.func 74) #[] #[vP E2]/\St A08 w8 [.cells E2 [vI 50] 27])) I fun B08 y0d u0b ⟨E2,p04,G9⟩=>?_
 subst p04
 have I0:=ah s1 G9
 have s4:=am s1 G9
 refine Ax (Aj I)<|Ax (Aj I)<|bk h fun Z5 F06 h=>?_
 have Z7:=Ag X7 (Tt q4 s4)
 refine AL (v:=.tuple #[.agg ((aa Z5.1)).toArray,vI Z5.2]) (fst:=[]) (cap:=[]) (.yes I I) (bd 25) I (e2 I I) (fun p q=>au_c n (I0.hL0 hL q) (I0.kd (Ag Y7 (Tt q4 s4)) q) (I0.kd Z7 q) F06) I<|Ax (Ac I I)<|Ax (Ac I I)<|bk h fun J09 G06 h=>AL (v:=.bool J09) (fst:=[]) (cap:=[vP E2]) (.yes I I) (bd 74) I (e2 I I) (fun p q=>aa_c n (I0.hL0 hL q) Z5.1 (ae q (I0.memA .hd)) G06) I<|Ax (BC I)<|Bp I I<|Aa<|MX.ifnb I h (fun B01 h=>?_) (fun B01 h=>?_)
 refine Ar<|Ay<|Ap<|Ab (FV.add (i:=3) (j:=1) (r:=4) I I (by decide))<|Ae I<|Aa<|Br ?_
 obtain ⟨J1,q5⟩:=AA I0 .done
 refine Af<|Ab (AY (i:=4) (j:=7) I I)<|Aa<|Ak<|AW I<|Ar<|Ak<|Aw<|Af<|Ab (FV.idx1 (cs:=[(vS b0 1),k0,p0,c0,d0,g0,j0]) (k:=4) (m:=1) (len:=7) I I I I I (by omega) I)<|Ai I<|Aa<|Af<|Ae I<|bk h fun v00 H06 h=>?_
 have U8:=Tt R8 (Tt c4 (Tt d4 (Tt g4 (Tt j4 (Tt k4 (Tt p4 (Tt q4 (Tt s4 q5))))))))
 have b8:=Ag c7 U8
 refine Bo (vI v00) (bd 16) I (e1 I) (fun p q=>ap_c n (J1.hL0 hL q) (J1.kd b8 q) H06) I<|Ab (BM (i:=v00) (j:=50) I I)<|Ae I<|RG.ifn (s:=84) I h (fun C01 h=>?_) (fun C01 h=>?_)
 refine Az (fst:=[]) (cap:=[]) (.yes I I) (bd 18) I (e1 I) (fun p q=>AD (al_c n (J1.hL hL q) (50:Int)) fun (w8:World) (u8:Vc) ⟨b0_,hu_,s_⟩=>(⟨b0_,hu_,s_.from q⟩:∃ F2:Nat,u8 = Value.func (.func 74) #[] #[vP F2]/\St B08 w8 [.cells F2 [vI 50] 27])) I fun C08 z0d v0b ⟨F2,q04,H9⟩=>?_
 subst q04
 have J0:=ah J1 H9
 have u4:=am J1 H9
 refine Ax (Aj I)<|bk h fun b6 J06 h=>?_
 have c8:=Ag b8 u4
 refine AL (v:=.tuple #[.agg ((aa b6.1)).toArray,vI b6.2]) (fst:=[]) (cap:=[]) (.yes I I) (bd 19) I (e1 I) (fun p q=>aR_c n (J0.hL0 hL q) (J0.kd c8 q) J06) I<|Ax (Ac I I)<|Ax (Ac I I)<|bk h fun K09 K06 h=>AL (v:=.bool K09) (fst:=[]) (cap:=[vP F2]) (.yes I I) (bd 74) I (e2 I I) (fun p q=>aa_c n (J0.hL0 hL q) b6.1 (ae q (J0.memA .hd)) K06) I<|Ax (BC I)<|Bp I I<|Ae I<|BI (s:=93) I h (fun D01 h=>?_) (fun D01 h=>?_)
 refine Az (fst:=[]) (cap:=[]) (.yes I I) (bd 18) I (e1 I) (fun p q=>AD (al_c n (J0.hL hL q) (50:Int)) fun (w8:World) (u8:Vc) ⟨b0_,hu_,s_⟩=>(⟨b0_,hu_,s_.from q⟩:∃ G2:Nat,u8 = Value.func (.func 74) #[] #[vP G2]/\St C08 w8 [.cells G2 [vI 50] 27])) I fun D08 A0d x0b ⟨G2,s04,I9⟩=>?_
 subst s04
 have K0:=ah J0 I9
 have v4:=am J0 I9
 refine Ax (Aj I)<|bk h fun c6 M06 h=>?_
 have d8:=Ag c8 v4
 refine AL (v:=.tuple #[.agg ((aa c6.1)).toArray,vI c6.2]) (fst:=[]) (cap:=[]) (.yes I I) (bd 20) I (e1 I) (fun p q=>ax_c n (K0.hL0 hL q) (K0.kd d8 q) M06) I<|Ax (Ac I I)<|Ax (Ac I I)<|bk h fun M09 P06 h=>AL (v:=.bool M09) (fst:=[]) (cap:=[vP G2]) (.yes I I) (bd 74) I (e2 I I) (fun p q=>aa_c n (K0.hL0 hL q) c6.1 (ae q (K0.memA .hd)) P06) I<|Ax (BC I)<|Bp I I<|Ae I<|BI (s:=102) I h (fun E01 h=>?_) (fun E01 h=>?_)
 refine Az (fst:=[]) (cap:=[]) (.yes I I) (bd 18) I (e1 I) (fun p q=>AD (al_c n (K0.hL hL q) (50:Int)) fun (w8:World) (u8:Vc) ⟨b0_,hu_,s_⟩=>(⟨b0_,hu_,s_.from q⟩:∃ H2:Nat,u8 = Value.func (.func 74) #[] #[vP H2]/\St D08 w8 [.cells H2 [vI 50] 27])) I fun E08 B0d y0b ⟨H2,t04,J9⟩=>?_
 subst t04
 have M0:=ah K0 J9
 have x4:=am K0 J9
 refine Ax (Aj I)<|Ax (AI (vs:=[]) (u:=.agg zM) ao (fun p=>by kernel_rfl))<|bk h fun d6 Q06 h=>?_
 have g8:=Ag d8 x4
 refine AL (v:=.tuple #[.agg ((aa d6.1)).toArray,vI d6.2]) (fst:=[]) (cap:=[]) (.yes I I) (bd 21) I (e2 I I) (fun p q=>ao_c n (M0.hL0 hL q) (M0.kd g8 q) (⟨(0,0,0,0,0,0,0,0),(0,0,0,0,0,0,0,0)⟩:Ta) Q06) I<|Ax (Ac I I)<|Ax (Ac I I)<|bk h fun P09 R06 h=>AL (v:=.bool P09) (fst:=[]) (cap:=[vP H2]) (.yes I I) (bd 74) I (e2 I I) (fun p q=>aa_c n (M0.hL0 hL q) d6.1 (ae q (M0.memA .hd)) R06) I<|Ax (BC I)<|Bp I I<|Ae I<|BI (s:=112) I h (fun F01 h=>?_) (fun F01 h=>?_)
 refine Az (fst:=[]) (cap:=[]) (.yes I I) (bd 22) I (e1 I) (fun p q=>AD (ai_c n (M0.hL hL q) (50:Int)) fun (w8:World) (u8:Vc) ⟨b0_,hu_,s_⟩=>(⟨b0_,hu_,s_.from q⟩:∃ I2:Nat,u8 = Value.func (.func 82) #[] #[vP I2]/\St E08 w8 [.cells I2 [vI 50] 27])) I fun H0e C0d z0b ⟨I2,u04,K9⟩=>?_
 subst u04
 have E6:=ah M0 K9
 have y4:=am M0 K9
 refine Ax (Aj I)<|Ax (AI (vs:=[]) (u:=.agg zM) ao (fun p=>by kernel_rfl))<|bk h fun u0f U06 h=>?_
 have j8:=Ag g8 y4
 refine Az (fst:=[]) (cap:=[]) (.yes I I) (bd 23) I (e2 I I) (fun p q=>aL_c n (E6.hL hL q) (Ah j8 q) (⟨(0,0,0,0,0,0,0,0),(0,0,0,0,0,0,0,0)⟩:Ta) U06) I fun F08 D0d J02 ⟨s0c,hu_,v03⟩=>?_
 subst hu_
 obtain ⟨u1,z4⟩:=E6.agr J02
 refine Ax (Ac I I)<|Ax (Ac I I)<|bk h fun Q09 V06 h=>AL (v:=.bool Q09) (fst:=[]) (cap:=[vP I2]) (.yes I I) (bd 82) I (e2 I I) (fun p q=>ab_c n (u1.hL0 hL q) (u1.kd v03 q) (ae q (u1.memA .hd)) V06) I<|Ax (BC I)<|Bp I I<|Ae I<|BI (s:=122) I h (fun G01 h=>?_) (fun G01 h=>?_)
 refine Az (fst:=[]) (cap:=[]) (.yes I I) (bd 22) I (e1 I) (fun p q=>AD (ai_c n (u1.hL hL q) (50:Int)) fun (w8:World) (u8:Vc) ⟨b0_,hu_,s_⟩=>(⟨b0_,hu_,s_.from q⟩:∃ J2:Nat,u8 = Value.func (.func 82) #[] #[vP J2]/\St F08 w8 [.cells J2 [vI 50] 27])) I fun I0e E0d A0b ⟨J2,v04,M9⟩=>?_
 subst v04
 have F6:=ah u1 M9
 have A4:=am u1 M9
 refine Ax (Aj I)<|Ax (Aj I)<|bk h fun v0f W06 h=>?_
 have k8:=Ag Z7 (Tt q5 (Tt u4 (Tt v4 (Tt x4 (Tt y4 (Tt z4 A4))))))
 have p8:=Ag j8 (Tt z4 A4)
 refine Az (fst:=[]) (cap:=[]) (.yes I I) (bd 24) I (e2 I I) (fun p q=>aA_c n (F6.hL hL q) (Ah k8 q) (Ah p8 q) W06) I fun G08 F0d K02 ⟨t0c,hu_,x03⟩=>?_
 subst hu_
 obtain ⟨v1,B4⟩:=F6.agr K02
 refine Ax (Ac I I)<|Ax (Ac I I)<|bk h fun R09 Y06 h=>AL (v:=.bool R09) (fst:=[]) (cap:=[vP J2]) (.yes I I) (bd 82) I (e2 I I) (fun p q=>ab_c n (v1.hL0 hL q) (v1.kd x03 q) (ae q (v1.memA .hd)) Y06) I<|Ax (BC I)<|Bp I I<|Ae I<|BI (s:=132) I h (fun H01 h=>?_) (fun H01 h=>?_)
 refine Az (fst:=[]) (cap:=[]) (.yes I I) (bd 18) I (e1 I) (fun p q=>AD (al_c n (v1.hL hL q) (50:Int)) fun (w8:World) (u8:Vc) ⟨b0_,hu_,s_⟩=>(⟨b0_,hu_,s_.from q⟩:∃ K2:Nat,u8 = Value.func (.func 74) #[] #[vP K2]/\St G08 w8 [.cells K2 [vI 50] 27])) I fun H08 G0d B0b ⟨K2,x04,P9⟩=>?_
 subst x04
 have P0:=ah v1 P9
 have C4:=am v1 P9
 refine Ax (Aj I)<|Ax (Aj I)<|bk h fun g6 Z06 h=>?_
 have q8:=Ag k8 (Tt B4 C4)
 refine AL (v:=.tuple #[.agg ((aa g6.1)).toArray,vI g6.2]) (fst:=[]) (cap:=[]) (.yes I I) (bd 25) I (e2 I I) (fun p q=>au_c n (P0.hL0 hL q) (P0.kd (Ag p8 (Tt B4 C4)) q) (P0.kd q8 q) Z06) I<|Ax (Ac I I)<|Ax (Ac I I)<|bk h fun U09 b07 h=>AL (v:=.bool U09) (fst:=[]) (cap:=[vP K2]) (.yes I I) (bd 74) I (e2 I I) (fun p q=>aa_c n (P0.hL0 hL q) g6.1 (ae q (P0.memA .hd)) b07) I<|Ax (BC I)<|Bp I I<|Aa<|MX.ifnb I h (fun I01 h=>?_) (fun I01 h=>?_)
 refine Ar<|Ay<|Ap<|Ab (FV.add (i:=4) (j:=1) (r:=5) I I (by decide))<|Ae I<|Aa<|Br ?_
 obtain ⟨K1,s5⟩:=AA P0 .done
 refine Af<|Ab (AY (i:=5) (j:=7) I I)<|Aa<|Ak<|AW I<|Ar<|Ak<|Aw<|Af<|Ab (FV.idx1 (cs:=[(vS b0 1),k0,p0,c0,d0,g0,j0]) (k:=5) (m:=1) (len:=7) I I I I I (by omega) I)<|Ai I<|Aa<|Af<|Ae I<|bk h fun y00 c07 h=>?_
 have V8:=Tt U8 (Tt u4 (Tt v4 (Tt x4 (Tt y4 (Tt z4 (Tt A4 (Tt B4 (Tt C4 s5))))))))
 have s8:=Ag d7 V8
 refine Bo (vI y00) (bd 16) I (e1 I) (fun p q=>ap_c n (K1.hL0 hL q) (K1.kd s8 q) c07) I<|Ab (BM (i:=y00) (j:=50) I I)<|Ae I<|RG.ifn (s:=84) I h (fun J01 h=>?_) (fun J01 h=>?_)
 refine Az (fst:=[]) (cap:=[]) (.yes I I) (bd 18) I (e1 I) (fun p q=>AD (al_c n (K1.hL hL q) (50:Int)) fun (w8:World) (u8:Vc) ⟨b0_,hu_,s_⟩=>(⟨b0_,hu_,s_.from q⟩:∃ M2:Nat,u8 = Value.func (.func 74) #[] #[vP M2]/\St H08 w8 [.cells M2 [vI 50] 27])) I fun I08 H0d C0b ⟨M2,y04,Q9⟩=>?_
 subst y04
 have Q0:=ah K1 Q9
 have D4:=am K1 Q9
 refine Ax (Aj I)<|bk h fun j6 d07 h=>?_
 have t8:=Ag s8 D4
 refine AL (v:=.tuple #[.agg ((aa j6.1)).toArray,vI j6.2]) (fst:=[]) (cap:=[]) (.yes I I) (bd 19) I (e1 I) (fun p q=>aR_c n (Q0.hL0 hL q) (Q0.kd t8 q) d07) I<|Ax (Ac I I)<|Ax (Ac I I)<|bk h fun V09 g07 h=>AL (v:=.bool V09) (fst:=[]) (cap:=[vP M2]) (.yes I I) (bd 74) I (e2 I I) (fun p q=>aa_c n (Q0.hL0 hL q) j6.1 (ae q (Q0.memA .hd)) g07) I<|Ax (BC I)<|Bp I I<|Ae I<|BI (s:=93) I h (fun K01 h=>?_) (fun K01 h=>?_)
 refine Az (fst:=[]) (cap:=[]) (.yes I I) (bd 18) I (e1 I) (fun p q=>AD (al_c n (Q0.hL hL q) (50:Int)) fun (w8:World) (u8:Vc) ⟨b0_,hu_,s_⟩=>(⟨b0_,hu_,s_.from q⟩:∃ P2:Nat,u8 = Value.func (.func 74) #[] #[vP P2]/\St I08 w8 [.cells P2 [vI 50] 27])) I fun J08 I0d D0b ⟨P2,z04,R9⟩=>?_
 subst z04
 have R0:=ah Q0 R9
 have E4:=am Q0 R9
 refine Ax (Aj I)<|bk h fun k6 j07 h=>?_
 have v8:=Ag t8 E4
 refine AL (v:=.tuple #[.agg ((aa k6.1)).toArray,vI k6.2]) (fst:=[]) (cap:=[]) (.yes I I) (bd 20) I (e1 I) (fun p q=>ax_c n (R0.hL0 hL q) (R0.kd v8 q) j07) I<|Ax (Ac I I)<|Ax (Ac I I)<|bk h fun W09 k07 h=>AL (v:=.bool W09) (fst:=[]) (cap:=[vP P2]) (.yes I I) (bd 74) I (e2 I I) (fun p q=>aa_c n (R0.hL0 hL q) k6.1 (ae q (R0.memA .hd)) k07) I<|Ax (BC I)<|Bp I I<|Ae I<|BI (s:=102) I h (fun M01 h=>?_) (fun M01 h=>?_)
 refine Az (fst:=[]) (cap:=[]) (.yes I I) (bd 18) I (e1 I) (fun p q=>AD (al_c n (R0.hL hL q) (50:Int)) fun (w8:World) (u8:Vc) ⟨b0_,hu_,s_⟩=>(⟨b0_,hu_,s_.from q⟩:∃ Q2:Nat,u8 = Value.func (.func 74) #[] #[vP Q2]/\St J08 w8 [.cells Q2 [vI 50] 27])) I fun K08 J0d E0b ⟨Q2,A04,U9⟩=>?_
 subst A04
 have U0:=ah R0 U9
 have F4:=am R0 U9
 refine Ax (Aj I)<|Ax (AI (vs:=[]) (u:=.agg zM) ao (fun p=>by kernel_rfl))<|bk h fun p6 p07 h=>?_
 have x8:=Ag v8 F4
 refine AL (v:=.tuple #[.agg ((aa p6.1)).toArray,vI p6.2]) (fst:=[]) (cap:=[]) (.yes I I) (bd 21) I (e2 I I) (fun p q=>ao_c n (U0.hL0 hL q) (U0.kd x8 q) (⟨(0,0,0,0,0,0,0,0),(0,0,0,0,0,0,0,0)⟩:Ta) p07) I<|Ax (Ac I I)<|Ax (Ac I I)<|bk h fun X09 q07 h=>AL (v:=.bool X09) (fst:=[]) (cap:=[vP Q2]) (.yes I I) (bd 74) I (e2 I I) (fun p q=>aa_c n (U0.hL0 hL q) p6.1 (ae q (U0.memA .hd)) q07) I<|Ax (BC I)<|Bp I I<|Ae I<|BI (s:=112) I h (fun P01 h=>?_) (fun P01 h=>?_)
 refine Az (fst:=[]) (cap:=[]) (.yes I I) (bd 22) I (e1 I) (fun p q=>AD (ai_c n (U0.hL hL q) (50:Int)) fun (w8:World) (u8:Vc) ⟨b0_,hu_,s_⟩=>(⟨b0_,hu_,s_.from q⟩:∃ R2:Nat,u8 = Value.func (.func 82) #[] #[vP R2]/\St K08 w8 [.cells R2 [vI 50] 27])) I fun K0e K0d F0b ⟨R2,B04,V9⟩=>?_
 subst B04
 have G6:=ah U0 V9
 have G4:=am U0 V9
 refine Ax (Aj I)<|Ax (AI (vs:=[]) (u:=.agg zM) ao (fun p=>by kernel_rfl))<|bk h fun y0f s07 h=>?_
 have y8:=Ag x8 G4
 refine Az (fst:=[]) (cap:=[]) (.yes I I) (bd 23) I (e2 I I) (fun p q=>aL_c n (G6.hL hL q) (Ah y8 q) (⟨(0,0,0,0,0,0,0,0),(0,0,0,0,0,0,0,0)⟩:Ta) s07) I fun M08 M0d P02 ⟨u0c,hu_,y03⟩=>?_
 subst hu_
 obtain ⟨x1,H4⟩:=G6.agr P02
 refine Ax (Ac I I)<|Ax (Ac I I)<|bk h fun Y09 t07 h=>AL (v:=.bool Y09) (fst:=[]) (cap:=[vP R2]) (.yes I I) (bd 82) I (e2 I I) (fun p q=>ab_c n (x1.hL0 hL q) (x1.kd y03 q) (ae q (x1.memA .hd)) t07) I<|Ax (BC I)<|Bp I I<|Ae I<|BI (s:=122) I h (fun Q01 h=>?_) (fun Q01 h=>?_)
 refine Az (fst:=[]) (cap:=[]) (.yes I I) (bd 22) I (e1 I) (fun p q=>AD (ai_c n (x1.hL hL q) (50:Int)) fun (w8:World) (u8:Vc) ⟨b0_,hu_,s_⟩=>(⟨b0_,hu_,s_.from q⟩:∃ U2:Nat,u8 = Value.func (.func 82) #[] #[vP U2]/\St M08 w8 [.cells U2 [vI 50] 27])) I fun M0e P0d G0b ⟨U2,C04,W9⟩=>?_
 subst C04
 have H6:=ah x1 W9
 have I4:=am x1 W9
 refine Ax (Aj I)<|Ax (Aj I)<|bk h fun z0f u07 h=>?_
 have z8:=Ag q8 (Tt s5 (Tt D4 (Tt E4 (Tt F4 (Tt G4 (Tt H4 I4))))))
 have A8:=Ag y8 (Tt H4 I4)
 refine Az (fst:=[]) (cap:=[]) (.yes I I) (bd 24) I (e2 I I) (fun p q=>aA_c n (H6.hL hL q) (Ah z8 q) (Ah A8 q) u07) I fun P08 Q0d Q02 ⟨x0c,hu_,z03⟩=>?_
 subst hu_
 obtain ⟨z1,J4⟩:=H6.agr Q02
 refine Ax (Ac I I)<|Ax (Ac I I)<|bk h fun Z09 v07 h=>AL (v:=.bool Z09) (fst:=[]) (cap:=[vP U2]) (.yes I I) (bd 82) I (e2 I I) (fun p q=>ab_c n (z1.hL0 hL q) (z1.kd z03 q) (ae q (z1.memA .hd)) v07) I<|Ax (BC I)<|Bp I I<|Ae I<|BI (s:=132) I h (fun R01 h=>?_) (fun R01 h=>?_)
 refine Az (fst:=[]) (cap:=[]) (.yes I I) (bd 18) I (e1 I) (fun p q=>AD (al_c n (z1.hL hL q) (50:Int)) fun (w8:World) (u8:Vc) ⟨b0_,hu_,s_⟩=>(⟨b0_,hu_,s_.from q⟩:∃ V2:Nat,u8 = Value.func (.func 74) #[] #[vP V2]/\St P08 w8 [.cells V2 [vI 50] 27])) I fun Q08 R0d H0b ⟨V2,D04,X9⟩=>?_
 subst D04
 have V0:=ah z1 X9
 have K4:=am z1 X9
 refine Ax (Aj I)<|Ax (Aj I)<|bk h fun q6 x07 h=>?_
 have B8:=Ag z8 (Tt J4 K4)
 refine AL (v:=.tuple #[.agg ((aa q6.1)).toArray,vI q6.2]) (fst:=[]) (cap:=[]) (.yes I I) (bd 25) I (e2 I I) (fun p q=>au_c n (V0.hL0 hL q) (V0.kd (Ag A8 (Tt J4 K4)) q) (V0.kd B8 q) x07) I<|Ax (Ac I I)<|Ax (Ac I I)<|bk h fun b0a y07 h=>AL (v:=.bool b0a) (fst:=[]) (cap:=[vP V2]) (.yes I I) (bd 74) I (e2 I I) (fun p q=>aa_c n (V0.hL0 hL q) q6.1 (ae q (V0.memA .hd)) y07) I<|Ax (BC I)<|Bp I I<|Aa<|MX.ifnb I h (fun U01 h=>?_) (fun U01 h=>?_)
 refine Ar<|Ay<|Ap<|Ab (FV.add (i:=5) (j:=1) (r:=6) I I (by decide))<|Ae I<|Aa<|Br ?_
 obtain ⟨M1,u5⟩:=AA V0 .done
 refine Af<|Ab (AY (i:=6) (j:=7) I I)<|Aa<|Ak<|AW I<|Ar<|Ak<|Aw<|Af<|Ab (FV.idx1 (cs:=[(vS b0 1),k0,p0,c0,d0,g0,j0]) (k:=6) (m:=1) (len:=7) I I I I I (by omega) I)<|Ai I<|Aa<|Af<|Ae I<|bk h fun z00 z07 h=>?_
 have C8:=Ag W8 (Tt V8 (Tt D4 (Tt E4 (Tt F4 (Tt G4 (Tt H4 (Tt I4 (Tt J4 (Tt K4 u5)))))))))
 refine Bo (vI z00) (bd 16) I (e1 I) (fun p q=>ap_c n (M1.hL0 hL q) (M1.kd C8 q) z07) I<|Ab (BM (i:=z00) (j:=50) I I)<|Ae I<|RG.ifn (s:=84) I h (fun V01 h=>?_) (fun V01 h=>?_)
 refine Az (fst:=[]) (cap:=[]) (.yes I I) (bd 18) I (e1 I) (fun p q=>AD (al_c n (M1.hL hL q) (50:Int)) fun (w8:World) (u8:Vc) ⟨b0_,hu_,s_⟩=>(⟨b0_,hu_,s_.from q⟩:∃ W2:Nat,u8 = Value.func (.func 74) #[] #[vP W2]/\St Q08 w8 [.cells W2 [vI 50] 27])) I fun R08 U0d I0b ⟨W2,E04,Y9⟩=>?_
 subst E04
 have W0:=ah M1 Y9
 have v5:=am M1 Y9
 refine Ax (Aj I)<|bk h fun s6 A07 h=>?_
 have D8:=Ag C8 v5
 refine AL (v:=.tuple #[.agg ((aa s6.1)).toArray,vI s6.2]) (fst:=[]) (cap:=[]) (.yes I I) (bd 19) I (e1 I) (fun p q=>aR_c n (W0.hL0 hL q) (W0.kd D8 q) A07) I<|Ax (Ac I I)<|Ax (Ac I I)<|bk h fun c0a B07 h=>AL (v:=.bool c0a) (fst:=[]) (cap:=[vP W2]) (.yes I I) (bd 74) I (e2 I I) (fun p q=>aa_c n (W0.hL0 hL q) s6.1 (ae q (W0.memA .hd)) B07) I<|Ax (BC I)<|Bp I I<|Ae I<|BI (s:=93) I h (fun W01 h=>?_) (fun W01 h=>?_)
 refine Az (fst:=[]) (cap:=[]) (.yes I I) (bd 18) I (e1 I) (fun p q=>AD (al_c n (W0.hL hL q) (50:Int)) fun (w8:World) (u8:Vc) ⟨b0_,hu_,s_⟩=>(⟨b0_,hu_,s_.from q⟩:∃ X2:Nat,u8 = Value.func (.func 74) #[] #[vP X2]/\St R08 w8 [.cells X2 [vI 50] 27])) I fun U08 V0d J0b ⟨X2,F04,Z9⟩=>?_
 subst F04
 have X0:=ah W0 Z9
 have x5:=am W0 Z9
 refine Ax (Aj I)<|bk h fun t6 C07 h=>?_
 have E8:=Ag D8 x5
 refine AL (v:=.tuple #[.agg ((aa t6.1)).toArray,vI t6.2]) (fst:=[]) (cap:=[]) (.yes I I) (bd 20) I (e1 I) (fun p q=>ax_c n (X0.hL0 hL q) (X0.kd E8 q) C07) I<|Ax (Ac I I)<|Ax (Ac I I)<|bk h fun d0a D07 h=>AL (v:=.bool d0a) (fst:=[]) (cap:=[vP X2]) (.yes I I) (bd 74) I (e2 I I) (fun p q=>aa_c n (X0.hL0 hL q) t6.1 (ae q (X0.memA .hd)) D07) I<|Ax (BC I)<|Bp I I<|Ae I<|BI (s:=102) I h (fun X01 h=>?_) (fun X01 h=>?_)
 refine Az (fst:=[]) (cap:=[]) (.yes I I) (bd 18) I (e1 I) (fun p q=>AD (al_c n (X0.hL hL q) (50:Int)) fun (w8:World) (u8:Vc) ⟨b0_,hu_,s_⟩=>(⟨b0_,hu_,s_.from q⟩:∃ Y2:Nat,u8 = Value.func (.func 74) #[] #[vP Y2]/\St U08 w8 [.cells Y2 [vI 50] 27])) I fun V08 W0d K0b ⟨Y2,G04,b00⟩=>?_
 subst G04
 have Y0:=ah X0 b00
 have y5:=am X0 b00
 refine Ax (Aj I)<|Ax (AI (vs:=[]) (u:=.agg zM) ao (fun p=>by kernel_rfl))<|bk h fun u6 E07 h=>?_
 have F8:=Ag E8 y5
 refine AL (v:=.tuple #[.agg ((aa u6.1)).toArray,vI u6.2]) (fst:=[]) (cap:=[]) (.yes I I) (bd 21) I (e2 I I) (fun p q=>ao_c n (Y0.hL0 hL q) (Y0.kd F8 q) (⟨(0,0,0,0,0,0,0,0),(0,0,0,0,0,0,0,0)⟩:Ta) E07) I<|Ax (Ac I I)<|Ax (Ac I I)<|bk h fun g0a F07 h=>AL (v:=.bool g0a) (fst:=[]) (cap:=[vP Y2]) (.yes I I) (bd 74) I (e2 I I) (fun p q=>aa_c n (Y0.hL0 hL q) u6.1 (ae q (Y0.memA .hd)) F07) I<|Ax (BC I)<|Bp I I<|Ae I<|BI (s:=112) I h (fun Y01 h=>?_) (fun Y01 h=>?_)
 refine Az (fst:=[]) (cap:=[]) (.yes I I) (bd 22) I (e1 I) (fun p q=>AD (ai_c n (Y0.hL hL q) (50:Int)) fun (w8:World) (u8:Vc) ⟨b0_,hu_,s_⟩=>(⟨b0_,hu_,s_.from q⟩:∃ Z2:Nat,u8 = Value.func (.func 82) #[] #[vP Z2]/\St V08 w8 [.cells Z2 [vI 50] 27])) I fun Q0e X0d M0b ⟨Z2,H04,c00⟩=>?_
 subst H04
 have I6:=ah Y0 c00
 have z5:=am Y0 c00
 refine Ax (Aj I)<|Ax (AI (vs:=[]) (u:=.agg zM) ao (fun p=>by kernel_rfl))<|bk h fun B0f H07 h=>?_
 have G8:=Ag F8 z5
 refine Az (fst:=[]) (cap:=[]) (.yes I I) (bd 23) I (e2 I I) (fun p q=>aL_c n (I6.hL hL q) (Ah G8 q) (⟨(0,0,0,0,0,0,0,0),(0,0,0,0,0,0,0,0)⟩:Ta) H07) I fun W08 Y0d R02 ⟨y0c,hu_,B03⟩=>?_
 subst hu_
 obtain ⟨A1,A5⟩:=I6.agr R02
 refine Ax (Ac I I)<|Ax (Ac I I)<|bk h fun j0a I07 h=>AL (v:=.bool j0a) (fst:=[]) (cap:=[vP Z2]) (.yes I I) (bd 82) I (e2 I I) (fun p q=>ab_c n (A1.hL0 hL q) (A1.kd B03 q) (ae q (A1.memA .hd)) I07) I<|Ax (BC I)<|Bp I I<|Ae I<|BI (s:=122) I h (fun Z01 h=>?_) (fun Z01 h=>?_)
 refine Az (fst:=[]) (cap:=[]) (.yes I I) (bd 22) I (e1 I) (fun p q=>AD (ai_c n (A1.hL hL q) (50:Int)) fun (w8:World) (u8:Vc) ⟨b0_,hu_,s_⟩=>(⟨b0_,hu_,s_.from q⟩:∃ b3:Nat,u8 = Value.func (.func 82) #[] #[vP b3]/\St W08 w8 [.cells b3 [vI 50] 27])) I fun R0e Z0d P0b ⟨b3,I04,d00⟩=>?_
 subst I04
 have J6:=ah A1 d00
 have B5:=am A1 d00
 refine Ax (Aj I)<|Ax (Aj I)<|bk h fun C0f J07 h=>?_
 have H8:=Ag B8 (Tt u5 (Tt v5 (Tt x5 (Tt y5 (Tt z5 (Tt A5 B5))))))
 have I8:=Ag G8 (Tt A5 B5)
 refine Az (fst:=[]) (cap:=[]) (.yes I I) (bd 24) I (e2 I I) (fun p q=>aA_c n (J6.hL hL q) (Ah H8 q) (Ah I8 q) J07) I fun X08 b0e U02 ⟨z0c,hu_,C03⟩=>?_
 subst hu_
 obtain ⟨B1,C5⟩:=J6.agr U02
 refine Ax (Ac I I)<|Ax (Ac I I)<|bk h fun k0a K07 h=>AL (v:=.bool k0a) (fst:=[]) (cap:=[vP b3]) (.yes I I) (bd 82) I (e2 I I) (fun p q=>ab_c n (B1.hL0 hL q) (B1.kd C03 q) (ae q (B1.memA .hd)) K07) I<|Ax (BC I)<|Bp I I<|Ae I<|BI (s:=132) I h (fun b02 h=>?_) (fun b02 h=>?_)
 refine Az (fst:=[]) (cap:=[]) (.yes I I) (bd 18) I (e1 I) (fun p q=>AD (al_c n (B1.hL hL q) (50:Int)) fun (w8:World) (u8:Vc) ⟨b0_,hu_,s_⟩=>(⟨b0_,hu_,s_.from q⟩:∃ c3:Nat,u8 = Value.func (.func 74) #[] #[vP c3]/\St X08 w8 [.cells c3 [vI 50] 27])) I fun U0e c0e Q0b ⟨c3,J04,g00⟩=>?_
 subst J04
 have Z0:=ah B1 g00
 have D5:=am B1 g00
 refine Ax (Aj I)<|Ax (Aj I)<|bk h fun v6 M07 h=>?_
 have J8:=Ag H8 (Tt C5 D5)
 refine AL (v:=.tuple #[.agg ((aa v6.1)).toArray,vI v6.2]) (fst:=[]) (cap:=[]) (.yes I I) (bd 25) I (e2 I I) (fun p q=>au_c n (Z0.hL0 hL q) (Z0.kd (Ag I8 (Tt C5 D5)) q) (Z0.kd J8 q) M07) I<|Ax (Ac I I)<|Ax (Ac I I)<|bk h fun p0a P07 h=>AL (v:=.bool p0a) (fst:=[]) (cap:=[vP c3]) (.yes I I) (bd 74) I (e2 I I) (fun p q=>aa_c n (Z0.hL0 hL q) v6.1 (ae q (Z0.memA .hd)) P07) I<|Ax (BC I)<|Bp I I<|Aa<|MX.ifnb I h (fun c02 h=>?_) (fun c02 h=>?_)
 refine Ar<|Ay<|Ap<|Ab (FV.add (i:=6) (j:=1) (r:=7) I I (by decide))<|Ae I<|Aa<|Br ?_
 obtain ⟨q02,W6⟩:=AA Z0 .done
 refine Af<|Ab (AY (i:=7) (j:=7) I I)<|Aa<|Ak<|BG I<|Bd I<|MX.sub (bI n hL hb0 y16 y61 y29 q02 (Ag J8 W6) (Ag J7 (Tt M8 (Tt y3 (Tt z3 (Tt A3 (Tt B3 (Tt g5 (Tt C3 (Tt D3 (Tt E3 (Tt F3 (Tt j5 (Tt G3 (Tt H3 (Tt I3 (Tt J3 (Tt K3 (Tt M3 (Tt P3 (Tt Q3 (Tt k5 (Tt R3 (Tt U3 (Tt V3 (Tt W3 (Tt X3 (Tt Y3 (Tt Z3 (Tt b4 (Tt p5 (Tt c4 (Tt d4 (Tt g4 (Tt j4 (Tt k4 (Tt p4 (Tt q4 (Tt s4 (Tt q5 (Tt u4 (Tt v4 (Tt x4 (Tt y4 (Tt z4 (Tt A4 (Tt B4 (Tt C4 (Tt s5 (Tt D4 (Tt E4 (Tt F4 (Tt G4 (Tt H4 (Tt I4 (Tt J4 (Tt K4 (Tt u5 (Tt v5 (Tt x5 (Tt y5 (Tt z5 (Tt A5 (Tt B5 (Tt C5 (Tt D5 W6))))))))))))))))))))))))))))))))))))))))))))))))))))))))))))))))) (eD (k:=7) func3 I I) h) (by repeat (first | refine ⟨rfl,?_⟩ | exact trivial))
 refine Af<|Ai I<|Aa<|Au I<|By hb0 func3 I I ?_
 cases h
 exact Z0.gv
 cases h
 cases h
 cases h
 cases h
 cases h
 cases h
 refine Af<|Ai I<|Aa<|Au I<|By hb0 func3 I I ?_
 cases h
 exact V0.gv
 cases h
 cases h
 cases h
 cases h
 cases h
 cases h
 refine Af<|Ai I<|Aa<|Au I<|By hb0 func3 I I ?_
 cases h
 exact P0.gv
 cases h
 cases h
 cases h
 cases h
 cases h
 cases h
 refine Af<|Ai I<|Aa<|Au I<|By hb0 func3 I I ?_
 cases h
 exact I0.gv
 cases h
 cases h
 cases h
 cases h
 cases h
 cases h
 refine Af<|Ai I<|Aa<|Au I<|By hb0 func3 I I ?_
 cases h
 exact D0.gv
 cases h
 cases h
 cases h
 cases h
 cases h
 cases h
 refine Af<|Ai I<|Aa<|Au I<|By hb0 func3 I I ?_
 cases h
 exact z0.gv
 cases h
 cases h
 cases h
 cases h
 cases h
 cases h
 refine Af<|Ai I<|Aa<|Au I<|By hb0 func3 I I ?_
 cases h
 exact u0.gv
 cases h
 cases h
 cases h
 cases h
 cases h
 cases h
 cases h
 cases h
 cases h
 refine Af<|Ai I<|Aa<|Au I<|By hb0 func3 I I ?_
 cases h
 exact hS0.gv
end Go.Proofs.YtkommhmbkbhmlaaGreat
