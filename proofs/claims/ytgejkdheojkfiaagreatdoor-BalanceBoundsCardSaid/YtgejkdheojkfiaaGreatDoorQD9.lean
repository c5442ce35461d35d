/- Functions of the program, and what they give: part 9. -/
import Derived.Test.YtgejkdheojkfiaaGreatDoorQD8
namespace Go.Proofs.YtgejkdheojkfiaaGreatDoor
open Go Go.RowKit
set_option maxRecDepth 4000
set_option maxHeartbeats 4000000

def ar_l1 (_n:Nat) (a1:List Int) (c0:Nat) (a0:List Int) (q0:UInt64 × Nat × (List Int) -> Option ((List Int) × UInt64)):UInt64 × Nat × (List Int) -> Option ((List Int) × UInt64)
  | (d0,b0,g0)=>(if b0 < a1.length then (g0[c0 + b0]?).bind fun j0=>(a0[c0]?).bind fun k0=>(a1[b0]?).bind fun p0=>(put g0 ((c0 + b0:Nat):Int) (i64of (((d0 + (u64of j0)) + ((u64of k0) * (u64of p0))) % (4294967296:UInt64)))).bind fun s0=>q0 (((d0 + (u64of j0)) + ((u64of k0) * (u64of p0))) / (4294967296:UInt64),b0 + 1,s0) else some (g0,d0))
def ar_l2 (n:Nat) (a0:List Int) (a1:List Int) (g0:Nat × (List Int) -> Option (List Int)):Nat × (List Int) -> Option (List Int)
  | (b0,c0)=>(if b0 < a0.length then Option.bind (loopF (ar_l1 n a1 b0 a0) n ((0:UInt64),0,c0)) (fun (d0,j0)=>(d0[b0 + a1.length]?).bind fun _x537=>(put d0 ((b0 + a1.length:Nat):Int) (i64of j0)).bind fun k0=>g0 (b0 + 1,k0)) else some c0)
def ar_p (n:Nat) (a0:List Int) (a1:List Int):Option (List Int):=
  (mk ((a0.length + a1.length:Nat):Int) (0:Int)).bind fun b0=>Option.bind (loopF (ar_l2 n a0 a1) n (0,b0)) (fun c0=>(av_p n c0).bind fun d0=>some d0)
theorem ar_c (n:Nat) {L w} (hL:hl L w) {a0:List Int} {v0_0:Value} (h0_0:Rep.R w L [v0_0] a0) {a1:List Int} {v1_0:Value} (h1_0:Rep.R w L [v1_0] a1)  {r:List Int} (h:ar_p n a0 a1 = some r) :
 Cl 169 #[v0_0,v1_0] w (Gives w fun w' u=>∃ v0_0:Value,u = v0_0/\Rep.R w' L [v0_0] r):=by
 unfold ar_p at h
 refine AD Tryz.func169 rfl rfl rfl fun _ cs0 hb0=>Ac<|Af rfl<|Aa<|Ac<|Ae rfl ?_
 have hl1:a0.length <= 281474976710656:=AY h0_0
 refine Ab (Be (xs:=a0) Tryz.underlying45 rfl h0_0)<|Ae rfl ?_
 have hl2:a1.length <= 281474976710656:=AY h1_0
 refine Ab (Be (xs:=a1) Tryz.underlying45 rfl h1_0)<|Ab (Bw (i:=a0.length) (j:=a1.length) rfl rfl (by omega))<|bk h fun V0 Q0 h=>Ak .plain rfl (Does.mk (α:=Int) Q0 (Az w) el45 rfl) fun V2 x0 G0 J2=>Af rfl<|Aa<|Aj<|Ac<|Af rfl<|Aa<|AA ?_
 obtain ⟨Q2,W1,K1⟩:=bind_in2 h
 refine MX.lf (α:=Nat × (List Int) × (List Value)) (fun ⟨d0,k0,p0⟩=>[(0,v0_0),(1,v1_0),(5,(.slice (some ⟨x0,0,none⟩) ((a0.length + a1.length:Nat):Int).toNat ((a0.length + a1.length:Nat):Int).toNat)),(6,vI ((d0:Nat):Int))]) (fun ⟨d0,k0,p0⟩=>[rr w 3 Int (.slice (some ⟨x0,0,none⟩) ((a0.length + a1.length:Nat):Int).toNat ((a0.length + a1.length:Nat):Int).toNat) k0.length p0]) (fun ⟨d0,k0,p0⟩ R0=>Cells R0 (bl [rr w 3 Int (.slice (some ⟨x0,0,none⟩) ((a0.length + a1.length:Nat):Int).toNat ((a0.length + a1.length:Nat):Int).toNat) k0.length p0] ++ L) p0 k0) (fun ⟨d0,k0,p0⟩=>(d0,k0)) (0,V0,(List.replicate ((a0.length + a1.length:Nat):Int).toNat [vI 0]).flatten) W1 G0 (AB (cs:=(List.replicate ((a0.length + a1.length:Nat):Int).toNat [vI 0]).flatten) (xs:=V0) G0 L (Cells.mk Q0 rfl)) ?_
 rintro B2 ⟨d0,k0,p0⟩ R0 s1 z0 y1 J0 h
 unfold ar_l2 at h
 try dsimp only at h
 refine Aj<|Ac<|Ae rfl<|Ae rfl<|Ab (Be (xs:=a0) Tryz.underlying45 rfl (AS h0_0 z0))<|Ab (Bu (i:=d0) (j:=a0.length) rfl rfl)<|Aa<|AT rfl h (fun b1 h=>?_) (fun b1 h=>?_)
 refine Au<|Aj<|AA<|Ac<|Af rfl<|Aa<|Aj<|Ac<|Af rfl<|Aa<|AA ?_
 obtain ⟨R2,X1,M1⟩:=bind_in2 h
 refine MX.lf (α:=UInt64 × Nat × (List Int) × (List Value)) (fun ⟨j0,g0,v0,y0⟩=>[(0,v0_0),(1,v1_0),(5,(.slice (some ⟨x0,0,none⟩) ((a0.length + a1.length:Nat):Int).toNat ((a0.length + a1.length:Nat):Int).toNat)),(6,vI ((d0:Nat):Int)),(7,vU j0),(8,vI ((g0:Nat):Int))]) (fun ⟨j0,g0,v0,y0⟩=>[rr w 3 Int (.slice (some ⟨x0,0,none⟩) ((a0.length + a1.length:Nat):Int).toNat ((a0.length + a1.length:Nat):Int).toNat) v0.length y0]) (fun ⟨j0,g0,v0,y0⟩ U0=>Cells U0 (bl [rr w 3 Int (.slice (some ⟨x0,0,none⟩) ((a0.length + a1.length:Nat):Int).toNat ((a0.length + a1.length:Nat):Int).toNat) v0.length y0] ++ L) y0 v0) (fun ⟨j0,g0,v0,y0⟩=>(j0,g0,v0)) ((0:UInt64),0,k0,p0) X1 z0 J0 ?_
 rintro C2 ⟨j0,g0,v0,y0⟩ U0 u1 q0 I0 A0 h
 unfold ar_l1 at h
 try dsimp only at h
 refine Aj<|Ac<|Ae rfl<|Ae rfl ?_
 have F0:=AS h1_0 q0
 refine Ab (Be (xs:=a1) Tryz.underlying45 rfl F0)<|Ab (Bu (i:=g0) (j:=a1.length) rfl rfl)<|Aa<|AT rfl h (fun c1 h=>?_) (fun c1 h=>?_)
 refine Au<|Aj<|AA<|Aj<|du 22 fun b0 c0=>Rv 0 b0 rfl c0 (fun _=>Ai rfl)<|Rv 1 b0 rfl c0 (fun _=>Ai rfl)<|Rv 2 b0 rfl c0 (fun _=>Ai rfl)<|Rv 3 b0 rfl c0 (fun _=>Ai rfl)<|Rv 4 b0 rfl c0 (fun _=>Bw (i:=d0) (j:=g0) rfl rfl (by omega))<|bk h fun s0 g2 h=>?_
 obtain ⟨W0,D2,B0,E0,d1,Y1,R1⟩:=St.nth (α:=Int) q0 .hd A0 g2
 obtain ⟨Y0,E2,K0⟩:=BR (α:=Int) q0 .hd E0
 obtain rfl:W0 = ⟨Y0,0,none⟩:=by rw [K0] at B0; cases B0; rfl
 have E1:d1 = [vI s0]:=Y1; subst E1
 refine Rv 5 b0 rfl c0 (fun _=>Bq 1 (d0 + g0) rfl B0 rfl rfl E0)<|Rx 6 3146112 b0 rfl c0 (AL rfl (R1 0 _ rfl))<|Rv 7 b0 rfl c0 (fun _=>FV.convU (i:=s0) Tryz.underlying3 Tryz.underlying33 rfl)<|Rv 8 b0 rfl c0 (fun _=>FV.addU (a:=j0) (b:=u64of s0) rfl rfl)<|Rv 9 b0 rfl c0 (fun _=>Ai rfl)<|Rv 10 b0 rfl c0 (fun _=>Ai rfl)<|bk h fun t0 j2 h=>?_
 obtain ⟨z2,F2,F1,P1,g1,Z1,U1⟩:=Br (AS h0_0 q0) j2
 have G1:g1 = [vI t0]:=Z1; subst G1
 refine Rv 11 b0 rfl c0 (fun _=>Bq 1 d0 rfl F1 rfl rfl P1)<|Rx 12 3678208 b0 rfl c0 (AL rfl (U1 0 _ rfl))<|Rv 13 b0 rfl c0 (fun _=>FV.convU (i:=t0) Tryz.underlying3 Tryz.underlying33 rfl)<|Rv 14 b0 rfl c0 (fun _=>Ai rfl)<|Rv 15 b0 rfl c0 (fun _=>Ai rfl)<|bk h fun u0 k2 h=>?_
 obtain ⟨A2,G2,H1,Q1,j1,b2,V1⟩:=Br F0 k2
 have I1:j1 = [vI u0]:=b2; subst I1
 refine Rv 16 b0 rfl c0 (fun _=>Bq 1 g0 rfl H1 rfl rfl Q1)<|Rx 17 3932160 b0 rfl c0 (AL rfl (V1 0 _ rfl))<|Rv 18 b0 rfl c0 (fun _=>FV.convU (i:=u0) Tryz.underlying3 Tryz.underlying33 rfl)<|Rv 19 b0 rfl c0 (fun _=>FV.mulU (a:=u64of t0) (b:=u64of u0) rfl rfl)<|Rv 20 b0 rfl c0 (fun _=>FV.addU (a:=j0 + (u64of s0)) (b:=(u64of t0) * (u64of u0)) rfl rfl)<|Rv 21 b0 rfl c0 (fun _=>AV rfl)<|AN (dk b0)<|Ac<|Ae rfl<|Ae rfl<|Ae rfl<|Ab (Bw (i:=d0) (j:=g0) rfl rfl (by omega))<|Ae rfl<|Ab (FV.remU (a:=(j0 + (u64of s0)) + ((u64of t0) * (u64of u0))) (b:=(4294967296:UInt64)) rfl rfl (by decide))<|Ab (FV.convUI (a:=((j0 + (u64of s0)) + ((u64of t0) * (u64of u0))) % (4294967296:UInt64)) Tryz.underlying33 Tryz.underlying3 rfl)<|Ab (Bq 1 (d0 + g0) rfl B0 rfl rfl E0)<|bk h fun x2 q2 h=>RG.acts' .plain (Acts.set (α:=Int) (i:=d0 + g0) q2 q0 K0 (fun _=>.hd) A0 rfl rfl rfl rfl rfl (by kernel_rfl)) fun W2 ⟨k1,v1,z1,C1⟩=>Aa<|Av<|Ae rfl<|Ab (FV.quoU (a:=(j0 + (u64of s0)) + ((u64of t0) * (u64of u0))) (b:=(4294967296:UInt64)) rfl rfl (by decide))<|Af rfl<|Aa<|AC<|Av<|Ae rfl<|Ab (Bw (i:=g0) (j:=1) rfl rfl (by omega))<|Af rfl<|Aa<|u1 (((j0 + (u64of s0)) + ((u64of t0) * (u64of u0))) / (4294967296:UInt64),g0 + 1,x2,k1) v1 (Tt I0 z1) C1 h
 refine Bd rfl ?_
 have h:=M1 _ h
 try dsimp only at h
 refine Av<|Ae rfl<|Ae rfl<|Ae rfl<|Ab (Be (xs:=a1) Tryz.underlying45 rfl F0)<|Ab (Bw (i:=d0) (j:=a1.length) rfl rfl (by omega))<|Ae rfl<|Ab (FV.convUI (a:=j0) Tryz.underlying33 Tryz.underlying3 rfl)<|bk h fun v2 p2 h=>?_
 obtain ⟨X0,H2,D0,P0,p1,c2,P2⟩:=St.nth (α:=Int) q0 .hd A0 p2
 obtain ⟨Z0,I2,M0⟩:=BR (α:=Int) q0 .hd P0
 obtain rfl:X0 = ⟨Z0,0,none⟩:=by rw [M0] at D0; cases D0; rfl
 have J1:p1 = [vI v2]:=c2; subst J1
 refine Ab (Bq 1 (d0 + a1.length) rfl D0 rfl rfl P0)<|bk h fun y2 s2 h=>RG.acts' .plain (Acts.set (α:=Int) (i:=d0 + a1.length) s2 q0 M0 (fun _=>.hd) A0 rfl rfl rfl rfl rfl (by kernel_rfl)) fun X2 ⟨q1,x1,A1,D1⟩=>Aa<|AC<|Av<|Ae rfl<|Ab (Bw (i:=d0) (j:=1) rfl rfl (by omega))<|Af rfl<|Aa<|s1 (d0 + 1,y2,q1) x1 (Tt y1 (Tt I0 A1)) D1 h
 refine Bd rfl ?_
 have h:=K1 _ h
 try dsimp only at h
 refine Ac<|Ae rfl ?_
 have C0:=Bz z0 .hd
 have K2:=BA z0 .hd
 refine bk h fun Z2 t2 h=>AX (fst:=[]) (cap:=[]) .plain (bd 163) rfl (e1 rfl) (fun p q=>av_c n (C0.hL hL q) (Aq (BB (α:=Int) (v:=(.slice (some ⟨x0,0,none⟩) ((a0.length + a1.length:Nat):Int).toNat ((a0.length + a1.length:Nat):Int).toNat)) (xs:=k0) C0 L (Bj (α:=Int) z0 .hd J0 hL)) q) t2) rfl fun Y2 u2 B1 ⟨U2,hu_,d2⟩=>?_
 subst hu_
 obtain ⟨H0,M2⟩:=C0.agr B1
 refine Af rfl<|Aa<|Al rfl<|AW hb0 Tryz.func169 rfl rfl ?_
 cases h
 exact ⟨H0.ag,fun p q=>⟨u2,rfl,H0.kd d2 q⟩⟩
def aO_p (n:Nat) (a0:Tc) (a1:Tc):Option Tc:=
  (ar_p n a0.fD a1.fD).bind fun b0=>(aa_p n (!(a0.fc == a1.fc)) b0).bind fun c0=>some c0
theorem aO_c (n:Nat) {L w} (hL:hl L w) (a0:Tc) {v0_1:Value} (h0_1:Rep.R w L [v0_1] a0.fD) (a1:Tc) {v1_1:Value} (h1_1:Rep.R w L [v1_1] a1.fD)  {r:Tc} (h:aO_p n a0 a1 = some r) :
 Cl 140 #[.agg #[.bool a0.fc,v0_1],.agg #[.bool a1.fc,v1_1]] w (Gives w fun w' u=>∃ v0_1:Value,u = .agg #[.bool r.fc,v0_1]/\Rep.R w' L [v0_1] r.fD):=by
 unfold aO_p at h
 refine AD Tryz.func140 rfl rfl rfl fun _ cs0 hb0=>Ac<|RG.bx (Az w) rfl rfl fun Q0 C0 s0 F0=>RG.bx s0 rfl rfl fun R0 D0 t0 G0=>RG.nl [.bool false,vN] t0 fun U0 E0 d0 H0=>Aa<|Aj<|du 11 fun b0 c0=>Rv 0 b0 rfl c0 (fun _=>Bb 0 rfl)<|Rx 1 3088 b0 rfl c0 (AL rfl ((d0.memA .t2) 0 _ rfl))<|Rv 2 b0 rfl c0 (fun _=>Bb 0 rfl)<|Rx 3 3088 b0 rfl c0 (AL rfl ((d0.memA .t1) 0 _ rfl))<|Rv 4 b0 rfl c0 (fun _=>FV.neqB (a:=a0.fc) (b:=a1.fc) Tryz.underlying4 rfl rfl)<|Rv 5 b0 rfl c0 (fun _=>Bb 1 rfl)<|Rx 6 3584 b0 rfl c0 (AL rfl ((d0.memA .t2) 1 _ rfl))<|Rv 7 b0 rfl c0 (fun _=>Bb 1 rfl)<|Rx 8 3584 b0 rfl c0 (AL rfl ((d0.memA .t1) 1 _ rfl))<|bk h fun Y0 A0 h=>Bn 9 1023 b0 rfl .plain (bd 169) rfl (e2 rfl rfl) (fun p q=>ar_c n (d0.hL hL q) (d0.km h0_1 q) (d0.km h1_1 q) A0) rfl fun V0 M0 x0 ⟨K0,hu_,z0⟩=>?_
 subst hu_
 obtain ⟨k0,I0⟩:=d0.agr x0
 refine bk h fun q0 B0 h=>Bn 10 2047 b0 rfl .plain (bd 161) rfl (e2 rfl rfl) (fun p q=>aa_c n (k0.hL hL q) (Aq z0 q) B0) rfl fun W0 P0 y0 ⟨j0,hu_,p0⟩=>?_
 subst hu_
 obtain ⟨u0,J0⟩:=k0.agr y0
 refine BE 11 4095 b0 rfl rfl .plain (AF (news:=[.bool q0.fc,j0]) u0 .hd rfl rfl rfl rfl rfl rfl (o2 rfl (AO p0))) fun X0 g0 v0=>AN (dk b0)<|Al rfl<|Am hb0 Tryz.func140 rfl (.cons (.many (cs:=[.bool q0.fc,j0]) (by kernel_rfl) rfl (g0.memA .hd)) .nil) rfl ?_
 cases h
 exact ⟨g0.ag,fun p q=>⟨j0,rfl,g0.kd (Ao p0 v0) q⟩⟩
def bQ_p (n:Nat) (a0:Tf) (a1:Tf):Option Tf:=
  (aO_p n a0.fN a1.fD).bind fun b0=>(aO_p n a1.fN a0.fD).bind fun c0=>(bn_p n b0 c0).bind fun d0=>(aO_p n a0.fD a1.fD).bind fun g0=>(bb_p n d0 g0).bind fun j0=>some j0
theorem bQ_c (n:Nat) {L w} (hL:hl L w) (a0:Tf) {v0_1:Value} (h0_1:Rep.R w L [v0_1] a0.fN.fD) {v0_3:Value} (h0_3:Rep.R w L [v0_3] a0.fD.fD) (a1:Tf) {v1_1:Value} (h1_1:Rep.R w L [v1_1] a1.fN.fD) {v1_3:Value} (h1_3:Rep.R w L [v1_3] a1.fD.fD)  {r:Tf} (h:bQ_p n a0 a1 = some r) :
 Cl 99 #[.agg #[.bool a0.fN.fc,v0_1,.bool a0.fD.fc,v0_3],.agg #[.bool a1.fN.fc,v1_1,.bool a1.fD.fc,v1_3]] w (Gives w fun w' u=>∃ v0_1 v0_3:Value,u = .agg #[.bool r.fN.fc,v0_1,.bool r.fD.fc,v0_3]/\Rep.R w' L [v0_1] r.fN.fD/\Rep.R w' L [v0_3] r.fD.fD):=by
 unfold bQ_p at h
 refine AD Tryz.func99 rfl rfl rfl fun _ cs0 hb0=>Ac<|RG.bx (Az w) rfl rfl fun F1 c1 z0 j1=>RG.bx z0 rfl rfl fun G1 d1 A0 k1=>RG.nl [.bool false,vN,.bool false,vN] A0 fun H1 g1 d0 p1=>Aa<|Aj<|du 17 fun b0 c0=>Rv 0 b0 rfl c0 (fun _=>Bb 0 rfl)<|Rx 1 230928 b0 rfl c0 (Bc (cs:=[.bool a0.fN.fc,v0_1]) (by kernel_rfl) rfl (mem_part (d0.memA .t2) 0 2))<|Rv 2 b0 rfl c0 (fun _=>Bb 2 rfl)<|Rx 3 230928 b0 rfl c0 (Bc (cs:=[.bool a1.fD.fc,v1_3]) (by kernel_rfl) rfl (mem_part (d0.memA .t1) 2 2))<|Rv 5 b0 rfl c0 (fun _=>Bb 0 rfl)<|Rx 6 230912 b0 rfl c0 (Bc (cs:=[.bool a1.fN.fc,v1_1]) (by kernel_rfl) rfl (mem_part (d0.memA .t1) 0 2))<|Rv 7 b0 rfl c0 (fun _=>Bb 2 rfl)<|Rx 8 230912 b0 rfl c0 (Bc (cs:=[.bool a0.fD.fc,v0_3]) (by kernel_rfl) rfl (mem_part (d0.memA .t2) 2 2))<|Rv 11 b0 rfl c0 (fun _=>Bb 2 rfl)<|Rx 12 229376 b0 rfl c0 (Bc (cs:=[.bool a0.fD.fc,v0_3]) (by kernel_rfl) rfl (mem_part (d0.memA .t2) 2 2))<|Rv 13 b0 rfl c0 (fun _=>Bb 2 rfl)<|Rx 14 229376 b0 rfl c0 (Bc (cs:=[.bool a1.fD.fc,v1_3]) (by kernel_rfl) rfl (mem_part (d0.memA .t1) 2 2))<|bk h fun X0 Q0 h=>Bn 4 31231 b0 rfl .plain (bd 140) rfl (e2 rfl rfl) (fun p q=>aO_c n (d0.hL hL q) a0.fN (d0.km h0_1 q) a1.fD (d0.km h1_3 q) Q0) rfl fun I1 A1 E0 ⟨v1,hu_,J0⟩=>?_
 subst hu_
 obtain ⟨g0,q1⟩:=d0.agr E0
 refine bk h fun Y0 R0 h=>Bn 9 31743 b0 rfl .plain (bd 140) rfl (e2 rfl rfl) (fun p q=>aO_c n (g0.hL hL q) a1.fN (g0.km h1_1 q) a0.fD (g0.km h0_3 q) R0) rfl fun J1 B1 F0 ⟨x1,hu_,K0⟩=>?_
 subst hu_
 obtain ⟨t0,C0⟩:=g0.agr F0
 refine bk h fun Z0 U0 h=>Bn 10 32767 b0 rfl .plain (bd 139) rfl (e2 rfl rfl) (fun p q=>bn_c n (t0.hL hL q) X0 (Aq (Ao J0 C0) q) Y0 (Aq K0 q) U0) rfl fun K1 C1 G0 ⟨y1,hu_,M0⟩=>?_
 subst hu_
 obtain ⟨j0,s1⟩:=t0.agr G0
 refine bk h fun b1 V0 h=>Bn 15 65535 b0 rfl .plain (bd 140) rfl (e2 rfl rfl) (fun p q=>aO_c n (j0.hL hL q) a0.fD (j0.km h0_3 q) a1.fD (j0.km h1_3 q) V0) rfl fun M1 D1 H0 ⟨z1,hu_,P0⟩=>?_
 subst hu_
 obtain ⟨u0,D0⟩:=j0.agr H0
 refine bk h fun p0 W0 h=>Bn 16 131071 b0 rfl .plain (bd 138) rfl (e2 rfl rfl) (fun p q=>bb_c n (u0.hL hL q) Z0 (Aq (Ao M0 D0) q) b1 (Aq P0 q) W0) rfl fun P1 E1 I0 ⟨q0,s0,hu_,x0,y0⟩=>?_
 subst hu_
 obtain ⟨B0,u1⟩:=u0.agr I0
 refine BE 17 262143 b0 rfl rfl .plain (AF (news:=[.bool p0.fN.fc,q0,.bool p0.fD.fc,s0]) B0 .hd rfl rfl rfl rfl rfl rfl (o4 rfl (AO x0) rfl (AO y0))) fun Q1 k0 v0=>AN (dk b0)<|Al rfl<|Am hb0 Tryz.func99 rfl (.cons (.many (cs:=[.bool p0.fN.fc,q0,.bool p0.fD.fc,s0]) (by kernel_rfl) rfl (k0.memA .hd)) .nil) rfl ?_
 cases h
 exact ⟨k0.ag,fun p q=>⟨q0,s0,rfl,k0.kd (Ao x0 v0) q,k0.kd (Ao y0 v0) q⟩⟩
def cm_p (n:Nat) (a0:Tf):Option Tf:=
  (bm_p n a0.fN).bind fun b0=>some (⟨b0,a0.fD⟩:Tf)
theorem cm_c (n:Nat) {L w} (hL:hl L w) (a0:Tf) {v0_1:Value} (h0_1:Rep.R w L [v0_1] a0.fN.fD) {v0_3:Value} (h0_3:Rep.R w L [v0_3] a0.fD.fD)  {r:Tf} (h:cm_p n a0 = some r) :
 Cl 133 #[.agg #[.bool a0.fN.fc,v0_1,.bool a0.fD.fc,v0_3]] w (Gives w fun w' u=>∃ v0_1 v0_3:Value,u = .agg #[.bool r.fN.fc,v0_1,.bool r.fD.fc,v0_3]/\Rep.R w' L [v0_1] r.fN.fD/\Rep.R w' L [v0_3] r.fD.fD):=by
 unfold cm_p at h
 refine AD Tryz.func133 rfl rfl rfl fun _ cs0 hb0=>Ac<|RG.bx (Az w) rfl rfl fun M0 D0 u0 H0=>RG.nl [.bool false,vN,.bool false,vN] u0 fun P0 E0 c0 I0=>Aa<|Aj<|du 6 fun b0 d0=>Rv 0 b0 rfl d0 (fun _=>Bb 0 rfl)<|Rx 1 100 b0 rfl d0 (Bc (cs:=[.bool a0.fN.fc,v0_1]) (by kernel_rfl) rfl (mem_part (c0.memA .t1) 0 2))<|Rv 3 b0 rfl d0 (fun _=>Bb 2 rfl)<|Rx 4 96 b0 rfl d0 (Bc (cs:=[.bool a0.fD.fc,v0_3]) (by kernel_rfl) rfl (mem_part (c0.memA .t1) 2 2))<|bk h fun p0 A0 h=>Bn 2 31 b0 rfl .plain (bd 136) rfl (e1 rfl) (fun p q=>bm_c n (c0.hL hL q) a0.fN (c0.km h0_1 q) A0) rfl fun Q0 K0 x0 ⟨g0,hu_,q0⟩=>?_
 subst hu_
 obtain ⟨s0,J0⟩:=c0.agr x0
 obtain ⟨B0,F0,y0,_⟩:=BV q0
 have t0:=AS h0_3 s0
 obtain ⟨C0,G0,z0,_⟩:=BV t0
 refine Rv 5 b0 rfl d0 (fun _=>AU (vs:=[.agg #[.bool p0.fc,g0],.agg #[.bool a0.fD.fc,v0_3]]) (u:=.agg #[.bool p0.fc,g0,.bool a0.fD.fc,v0_3]) (e2 rfl rfl) (fun p=>by rw [y0,z0]; try kernel_rfl))<|BE 6 127 b0 rfl rfl .plain (AF (news:=[.bool p0.fc,g0,.bool a0.fD.fc,v0_3]) s0 .hd rfl rfl rfl rfl rfl rfl (o4 rfl (AO q0) rfl (AO t0))) fun R0 j0 v0=>AN (dk b0)<|Al rfl<|Am hb0 Tryz.func133 rfl (.cons (.many (cs:=[.bool p0.fc,g0,.bool a0.fD.fc,v0_3]) (by kernel_rfl) rfl (j0.memA .hd)) .nil) rfl ?_
 cases h
 exact ⟨j0.ag,fun p q=>⟨g0,v0_3,rfl,j0.kd (Ao q0 v0) q,j0.k0 h0_3 q⟩⟩
def cP_p (n:Nat) (a0:Tf) (a1:Tf):Option Tf:=
  (cm_p n a1).bind fun b0=>(bQ_p n a0 b0).bind fun c0=>some c0
theorem cP_c (n:Nat) {L w} (hL:hl L w) (a0:Tf) {v0_1:Value} (h0_1:Rep.R w L [v0_1] a0.fN.fD) {v0_3:Value} (h0_3:Rep.R w L [v0_3] a0.fD.fD) (a1:Tf) {v1_1:Value} (h1_1:Rep.R w L [v1_1] a1.fN.fD) {v1_3:Value} (h1_3:Rep.R w L [v1_3] a1.fD.fD)  {r:Tf} (h:cP_p n a0 a1 = some r) :
 Cl 93 #[.agg #[.bool a0.fN.fc,v0_1,.bool a0.fD.fc,v0_3],.agg #[.bool a1.fN.fc,v1_1,.bool a1.fD.fc,v1_3]] w (Gives w fun w' u=>∃ v0_1 v0_3:Value,u = .agg #[.bool r.fN.fc,v0_1,.bool r.fD.fc,v0_3]/\Rep.R w' L [v0_1] r.fN.fD/\Rep.R w' L [v0_3] r.fD.fD):=by
 unfold cP_p at h
 refine AD Tryz.func93 rfl rfl rfl fun _ cs0 hb0=>Ac<|RG.bx (Az w) rfl rfl fun X0 G0 v0 J0=>RG.bx v0 rfl rfl fun Y0 H0 x0 K0=>RG.nl [.bool false,vN,.bool false,vN] x0 fun Z0 I0 b0 M0=>Aa<|Aj<|du 4 fun c0 u0=>Rx 0 24 c0 rfl u0 (AH rfl (b0.memA .t2))<|Rx 1 28 c0 rfl u0 (AH rfl (b0.memA .t1))<|bk h fun F0 D0 h=>Bn 2 7 c0 rfl .plain (bd 133) rfl (e1 rfl) (fun p q=>cm_c n (b0.hL hL q) a1 (b0.km h1_1 q) (b0.km h1_3 q) D0) rfl fun b1 V0 z0 ⟨R0,U0,hu_,B0,C0⟩=>?_
 subst hu_
 obtain ⟨d0,P0⟩:=b0.agr z0
 refine bk h fun j0 E0 h=>Bn 3 15 c0 rfl .plain (bd 99) rfl (e2 rfl rfl) (fun p q=>bQ_c n (d0.hL hL q) a0 (d0.km h0_1 q) (d0.km h0_3 q) F0 (Aq B0 q) (Aq C0 q) E0) rfl fun c1 W0 A0 ⟨k0,p0,hu_,s0,t0⟩=>?_
 subst hu_
 obtain ⟨y0,Q0⟩:=d0.agr A0
 refine BE 4 31 c0 rfl rfl .plain (AF (news:=[.bool j0.fN.fc,k0,.bool j0.fD.fc,p0]) y0 .hd rfl rfl rfl rfl rfl rfl (o4 rfl (AO s0) rfl (AO t0))) fun d1 g0 q0=>AN (dk c0)<|Al rfl<|Am hb0 Tryz.func93 rfl (.cons (.many (cs:=[.bool j0.fN.fc,k0,.bool j0.fD.fc,p0]) (by kernel_rfl) rfl (g0.memA .hd)) .nil) rfl ?_
 cases h
 exact ⟨g0.ag,fun p q=>⟨k0,p0,rfl,g0.kd (Ao s0 q0) q,g0.kd (Ao t0 q0) q⟩⟩
def aE_p (n:Nat) (a0:Ta):Option Tf:=
  (ai_p n a0.fN).bind fun b0=>(ai_p n a0.fD).bind fun c0=>some (⟨b0,c0⟩:Tf)
theorem aE_c (n:Nat) {L w} (hL:hl L w) (a0:Ta)  {r:Tf} (h:aE_p n a0 = some r) :
 Cl 94 #[.agg ((cs_Ta a0)).toArray] w (Gives w fun w' u=>∃ v0_1 v0_3:Value,u = .agg #[.bool r.fN.fc,v0_1,.bool r.fD.fc,v0_3]/\Rep.R w' L [v0_1] r.fN.fD/\Rep.R w' L [v0_3] r.fD.fD):=by
 unfold aE_p at h
 refine AD Tryz.func94 rfl rfl rfl fun _ cs0 hb0=>Ac<|RG.bx (Az w) rfl rfl fun X0 J0 z0 Q0=>RG.nl [.bool false,vN,.bool false,vN] z0 fun Y0 K0 j0 R0=>Aa<|Aj<|du 7 fun b0 c0=>Rv 0 b0 rfl c0 (fun _=>Bb 0 rfl)<|Rx 1 228 b0 rfl c0 (Bc (cs:=(cs_A34 a0.fN)) (by kernel_rfl) rfl (mem_part (j0.memA .t1) 0 8))<|Rv 3 b0 rfl c0 (fun _=>Bb 8 rfl)<|Rx 4 224 b0 rfl c0 (Bc (cs:=(cs_A34 a0.fD)) (by kernel_rfl) rfl (mem_part (j0.memA .t1) 8 8))<|bk h fun p0 F0 h=>Bn 2 31 b0 rfl .plain (bd 128) rfl (e1 rfl) (fun p q=>ai_c n (j0.hL hL q) a0.fN F0) rfl fun Z0 V0 B0 ⟨d0,hu_,y0⟩=>?_
 subst hu_
 obtain ⟨t0,U0⟩:=j0.agr B0
 refine bk h fun q0 G0 h=>Bn 5 63 b0 rfl .plain (bd 128) rfl (e1 rfl) (fun p q=>ai_c n (t0.hL hL q) a0.fD G0) rfl fun b1 W0 C0 ⟨g0,hu_,s0⟩=>?_
 subst hu_
 obtain ⟨A0,u0⟩:=t0.agr C0
 have x0:=Ao y0 u0
 obtain ⟨H0,M0,D0,_⟩:=BV x0
 obtain ⟨I0,P0,E0,_⟩:=BV s0
 refine Rv 6 b0 rfl c0 (fun _=>AU (vs:=[.agg #[.bool p0.fc,d0],.agg #[.bool q0.fc,g0]]) (u:=.agg #[.bool p0.fc,d0,.bool q0.fc,g0]) (e2 rfl rfl) (fun p=>by rw [D0,E0]; try kernel_rfl))<|BE 7 255 b0 rfl rfl .plain (AF (news:=[.bool p0.fc,d0,.bool q0.fc,g0]) A0 .hd rfl rfl rfl rfl rfl rfl (o4 rfl (AO x0) rfl (AO s0))) fun c1 k0 v0=>AN (dk b0)<|Al rfl<|Am hb0 Tryz.func94 rfl (.cons (.many (cs:=[.bool p0.fc,d0,.bool q0.fc,g0]) (by kernel_rfl) rfl (k0.memA .hd)) .nil) rfl ?_
 cases h
 exact ⟨k0.ag,fun p q=>⟨d0,g0,rfl,k0.kd (Ao y0 (Tt u0 v0)) q,k0.kd (Ao s0 v0) q⟩⟩
def cJ_p (n:Nat) (a0:Ta) (a1:Ta):Option (Ta × Int):=
  (ah_p n a0).bind fun c0=>(if c0 = true then (ah_p n a1).bind fun d0=>(if d0 = true then (aE_p n a0).bind fun g0=>(aE_p n a1).bind fun j0=>(cP_p n g0 j0).bind fun k0=>(bA_p n k0).bind fun b0=>some (b0.1,b0.2) else some ((⟨((0:UInt64),(0:UInt64),(0:UInt64),(0:UInt64),(0:UInt64),(0:UInt64),(0:UInt64),(0:UInt64)),((0:UInt64),(0:UInt64),(0:UInt64),(0:UInt64),(0:UInt64),(0:UInt64),(0:UInt64),(0:UInt64))⟩:Ta),(20:Int))) else some ((⟨((0:UInt64),(0:UInt64),(0:UInt64),(0:UInt64),(0:UInt64),(0:UInt64),(0:UInt64),(0:UInt64)),((0:UInt64),(0:UInt64),(0:UInt64),(0:UInt64),(0:UInt64),(0:UInt64),(0:UInt64),(0:UInt64))⟩:Ta),(20:Int)))
theorem cJ_c (n:Nat) {L w} (hL:hl L w) (a0:Ta) (a1:Ta)  {r:Ta × Int} (h:cJ_p n a0 a1 = some r) :
 Cl 41 #[.agg ((cs_Ta a0)).toArray,.agg ((cs_Ta a1)).toArray] w (Gives w fun _ u=>u = .tuple #[.agg ((cs_Ta r.1)).toArray,vI r.2]):=by
 unfold cJ_p at h
 refine AD Tryz.func41 rfl rfl rfl fun _ cs0 hb0=>Ac<|RG.bx (Az w) rfl rfl fun F1 Z0 y0 d1=>RG.bx y0 rfl rfl fun G1 b1 z0 g1=>RG.nl zL z0 fun H1 c1 c0 j1=>Af rfl<|Aa<|Aj<|Ac<|Ab (AH rfl (c0.memA .t2))<|bk h fun U0 J0 h=>Ba (.bool U0) (bd 90) rfl (e1 rfl) (fun p q=>ah_c n (c0.hL0 hL q) a0 J0) rfl<|Ab (Bp rfl)<|Ae rfl<|RG.ifnb (s:=9) rfl h (fun v0 h=>?_) (fun v0 h=>?_)
 refine AE (AH rfl (c0.memA .t1))<|bk h fun V0 K0 h=>RG.callq' (v:=.bool V0) (fst:=[]) (cap:=[]) (.yes rfl rfl) (bd 90) rfl (e1 rfl) (fun p q=>ah_c n (c0.hL0 hL q) a1 K0) rfl<|AE (Bp rfl)<|Bv rfl rfl<|Aa<|BU rfl h (fun x0 h=>?_) (fun x0 h=>?_)
 refine Au<|Aj<|du 8 fun b0 d0=>Rx 0 1018 b0 rfl d0 (AH rfl (c0.memA .t2))<|Rx 2 1016 b0 rfl d0 (AH rfl (c0.memA .t1))<|bk h fun W0 M0 h=>Bn 1 7 b0 rfl .plain (bd 94) rfl (e1 rfl) (fun p q=>aE_c n (c0.hL hL q) a0 M0) rfl fun I1 C1 A0 ⟨v1,x1,hu_,D0,E0⟩=>?_
 subst hu_
 obtain ⟨k0,k1⟩:=c0.agr A0
 refine bk h fun X0 P0 h=>Bn 3 15 b0 rfl .plain (bd 94) rfl (e1 rfl) (fun p q=>aE_c n (k0.hL hL q) a1 P0) rfl fun J1 D1 B0 ⟨y1,z1,hu_,F0,G0⟩=>?_
 subst hu_
 obtain ⟨p0,u0⟩:=k0.agr B0
 refine bk h fun Y0 Q0 h=>Bn 4 31 b0 rfl .plain (bd 93) rfl (e2 rfl rfl) (fun p q=>cP_c n (p0.hL hL q) W0 (Aq (Ao D0 u0) q) (Aq (Ao E0 u0) q) X0 (Aq F0 q) (Aq G0 q) Q0) rfl fun K1 E1 C0 ⟨A1,B1,hu_,H0,I0⟩=>?_
 subst hu_
 obtain ⟨g0,p1⟩:=p0.agr C0
 refine bk h fun j0 R0 h=>BO 5 63 960 (.tuple #[.agg ((cs_Ta j0.1)).toArray,vI j0.2]) b0 rfl d0 (bd 92) rfl (e1 rfl) (fun p q=>bA_c n (g0.hL0 hL q) Y0 (g0.kd H0 q) (g0.kd I0 q) R0) rfl<|Rv 6 b0 rfl d0 (fun _=>Ag rfl rfl)<|Rv 7 b0 rfl d0 (fun _=>Ag rfl rfl)<|BE 8 511 b0 rfl rfl .plain (AF (news:=(cs_Ta j0.1)) g0 .hd rfl rfl rfl rfl rfl rfl (onesB rfl)) fun M1 q0 q1=>Bf (i:=9) (rk b0) (Bs (m' :=1023) (sk b0) rfl .plain rfl (AV rfl) ?_)
 refine AN (dk b0)<|Al rfl<|Am hb0 Tryz.func41 rfl (.cons (.many (cs:=(cs_Ta j0.1)) (by kernel_rfl) rfl (q0.memA .hd)) (.cons (.tmp rfl) .nil)) rfl ?_
 cases h
 exact q0.gv
 refine Ac<|Ab (AU (vs:=[]) (u:=.agg zM) evs_nil (fun p=>by kernel_rfl))<|AQ zL c0 .hd (onesB rfl) fun P1 s0 s1=>Af rfl<|Aa<|Al rfl<|Am hb0 Tryz.func41 rfl (.cons (.many (cs:=zL) (by kernel_rfl) rfl (s0.memA .hd)) (.cons (.tmp rfl) .nil)) rfl ?_
 cases h
 exact s0.gv
 refine Ap<|Ap<|Ap<|Bh rfl rfl<|Aa<|Bk rfl<|Ac<|Ab (AU (vs:=[]) (u:=.agg zM) evs_nil (fun p=>by kernel_rfl))<|AQ zL c0 .hd (onesB rfl) fun Q1 t0 u1=>Af rfl<|Aa<|Al rfl<|Am hb0 Tryz.func41 rfl (.cons (.many (cs:=zL) (by kernel_rfl) rfl (t0.memA .hd)) (.cons (.tmp rfl) .nil)) rfl ?_
 cases h
 exact t0.gv
def cA_p (n:Nat) (a0:Tf) (a1:Tf):Option Tf:=
  (aO_p n a0.fN a1.fN).bind fun b0=>(aO_p n a0.fD a1.fD).bind fun c0=>(bb_p n b0 c0).bind fun d0=>some d0
theorem cA_c (n:Nat) {L w} (hL:hl L w) (a0:Tf) {v0_1:Value} (h0_1:Rep.R w L [v0_1] a0.fN.fD) {v0_3:Value} (h0_3:Rep.R w L [v0_3] a0.fD.fD) (a1:Tf) {v1_1:Value} (h1_1:Rep.R w L [v1_1] a1.fN.fD) {v1_3:Value} (h1_3:Rep.R w L [v1_3] a1.fD.fD)  {r:Tf} (h:cA_p n a0 a1 = some r) :
 Cl 134 #[.agg #[.bool a0.fN.fc,v0_1,.bool a0.fD.fc,v0_3],.agg #[.bool a1.fN.fc,v1_1,.bool a1.fD.fc,v1_3]] w (Gives w fun w' u=>∃ v0_1 v0_3:Value,u = .agg #[.bool r.fN.fc,v0_1,.bool r.fD.fc,v0_3]/\Rep.R w' L [v0_1] r.fN.fD/\Rep.R w' L [v0_3] r.fD.fD):=by
 unfold cA_p at h
 refine AD Tryz.func134 rfl rfl rfl fun _ cs0 hb0=>Ac<|RG.bx (Az w) rfl rfl fun g1 M0 x0 R0=>RG.bx x0 rfl rfl fun j1 P0 y0 U0=>RG.nl [.bool false,vN,.bool false,vN] y0 fun k1 Q0 c0 V0=>Aa<|Aj<|du 11 fun b0 d0=>Rv 0 b0 rfl d0 (fun _=>Bb 0 rfl)<|Rx 1 3600 b0 rfl d0 (Bc (cs:=[.bool a0.fN.fc,v0_1]) (by kernel_rfl) rfl (mem_part (c0.memA .t2) 0 2))<|Rv 2 b0 rfl d0 (fun _=>Bb 0 rfl)<|Rx 3 3600 b0 rfl d0 (Bc (cs:=[.bool a1.fN.fc,v1_1]) (by kernel_rfl) rfl (mem_part (c0.memA .t1) 0 2))<|Rv 5 b0 rfl d0 (fun _=>Bb 2 rfl)<|Rx 6 3584 b0 rfl d0 (Bc (cs:=[.bool a0.fD.fc,v0_3]) (by kernel_rfl) rfl (mem_part (c0.memA .t2) 2 2))<|Rv 7 b0 rfl d0 (fun _=>Bb 2 rfl)<|Rx 8 3584 b0 rfl d0 (Bc (cs:=[.bool a1.fD.fc,v1_3]) (by kernel_rfl) rfl (mem_part (c0.memA .t1) 2 2))<|bk h fun J0 G0 h=>Bn 4 511 b0 rfl .plain (bd 140) rfl (e2 rfl rfl) (fun p q=>aO_c n (c0.hL hL q) a0.fN (c0.km h0_1 q) a1.fN (c0.km h1_1 q) G0) rfl fun p1 b1 B0 ⟨Y0,hu_,E0⟩=>?_
 subst hu_
 obtain ⟨g0,W0⟩:=c0.agr B0
 refine bk h fun K0 H0 h=>Bn 9 1023 b0 rfl .plain (bd 140) rfl (e2 rfl rfl) (fun p q=>aO_c n (g0.hL hL q) a0.fD (g0.km h0_3 q) a1.fD (g0.km h1_3 q) H0) rfl fun q1 c1 C0 ⟨Z0,hu_,F0⟩=>?_
 subst hu_
 obtain ⟨s0,A0⟩:=g0.agr C0
 refine bk h fun k0 I0 h=>Bn 10 2047 b0 rfl .plain (bd 138) rfl (e2 rfl rfl) (fun p q=>bb_c n (s0.hL hL q) J0 (Aq (Ao E0 A0) q) K0 (Aq F0 q) I0) rfl fun s1 d1 D0 ⟨p0,q0,hu_,u0,v0⟩=>?_
 subst hu_
 obtain ⟨z0,X0⟩:=s0.agr D0
 refine BE 11 4095 b0 rfl rfl .plain (AF (news:=[.bool k0.fN.fc,p0,.bool k0.fD.fc,q0]) z0 .hd rfl rfl rfl rfl rfl rfl (o4 rfl (AO u0) rfl (AO v0))) fun u1 j0 t0=>AN (dk b0)<|Al rfl<|Am hb0 Tryz.func134 rfl (.cons (.many (cs:=[.bool k0.fN.fc,p0,.bool k0.fD.fc,q0]) (by kernel_rfl) rfl (j0.memA .hd)) .nil) rfl ?_
 cases h
 exact ⟨j0.ag,fun p q=>⟨p0,q0,rfl,j0.kd (Ao u0 t0) q,j0.kd (Ao v0 t0) q⟩⟩
def cK_p (n:Nat) (a0:Ta) (a1:Ta):Option (Ta × Int):=
  (ah_p n a0).bind fun c0=>(if c0 = true then (ah_p n a1).bind fun d0=>(if d0 = true then (aE_p n a0).bind fun g0=>(aE_p n a1).bind fun j0=>(cA_p n g0 j0).bind fun k0=>(bA_p n k0).bind fun b0=>some (b0.1,b0.2) else some ((⟨((0:UInt64),(0:UInt64),(0:UInt64),(0:UInt64),(0:UInt64),(0:UInt64),(0:UInt64),(0:UInt64)),((0:UInt64),(0:UInt64),(0:UInt64),(0:UInt64),(0:UInt64),(0:UInt64),(0:UInt64),(0:UInt64))⟩:Ta),(20:Int))) else some ((⟨((0:UInt64),(0:UInt64),(0:UInt64),(0:UInt64),(0:UInt64),(0:UInt64),(0:UInt64),(0:UInt64)),((0:UInt64),(0:UInt64),(0:UInt64),(0:UInt64),(0:UInt64),(0:UInt64),(0:UInt64),(0:UInt64))⟩:Ta),(20:Int)))
theorem cK_c (n:Nat) {L w} (hL:hl L w) (a0:Ta) (a1:Ta)  {r:Ta × Int} (h:cK_p n a0 a1 = some r) :
 Cl 95 #[.agg ((cs_Ta a0)).toArray,.agg ((cs_Ta a1)).toArray] w (Gives w fun _ u=>u = .tuple #[.agg ((cs_Ta r.1)).toArray,vI r.2]):=by
 unfold cK_p at h
 refine AD Tryz.func95 rfl rfl rfl fun _ cs0 hb0=>Ac<|RG.bx (Az w) rfl rfl fun F1 Z0 y0 d1=>RG.bx y0 rfl rfl fun G1 b1 z0 g1=>RG.nl zL z0 fun H1 c1 c0 j1=>Af rfl<|Aa<|Aj<|Ac<|Ab (AH rfl (c0.memA .t2))<|bk h fun U0 J0 h=>Ba (.bool U0) (bd 90) rfl (e1 rfl) (fun p q=>ah_c n (c0.hL0 hL q) a0 J0) rfl<|Ab (Bp rfl)<|Ae rfl<|RG.ifnb (s:=9) rfl h (fun v0 h=>?_) (fun v0 h=>?_)
 refine AE (AH rfl (c0.memA .t1))<|bk h fun V0 K0 h=>RG.callq' (v:=.bool V0) (fst:=[]) (cap:=[]) (.yes rfl rfl) (bd 90) rfl (e1 rfl) (fun p q=>ah_c n (c0.hL0 hL q) a1 K0) rfl<|AE (Bp rfl)<|Bv rfl rfl<|Aa<|BU rfl h (fun x0 h=>?_) (fun x0 h=>?_)
 refine Au<|Aj<|du 8 fun b0 d0=>Rx 0 1018 b0 rfl d0 (AH rfl (c0.memA .t2))<|Rx 2 1016 b0 rfl d0 (AH rfl (c0.memA .t1))<|bk h fun W0 M0 h=>Bn 1 7 b0 rfl .plain (bd 94) rfl (e1 rfl) (fun p q=>aE_c n (c0.hL hL q) a0 M0) rfl fun I1 C1 A0 ⟨v1,x1,hu_,D0,E0⟩=>?_
 subst hu_
 obtain ⟨k0,k1⟩:=c0.agr A0
 refine bk h fun X0 P0 h=>Bn 3 15 b0 rfl .plain (bd 94) rfl (e1 rfl) (fun p q=>aE_c n (k0.hL hL q) a1 P0) rfl fun J1 D1 B0 ⟨y1,z1,hu_,F0,G0⟩=>?_
 subst hu_
 obtain ⟨p0,u0⟩:=k0.agr B0
 refine bk h fun Y0 Q0 h=>Bn 4 31 b0 rfl .plain (bd 134) rfl (e2 rfl rfl) (fun p q=>cA_c n (p0.hL hL q) W0 (Aq (Ao D0 u0) q) (Aq (Ao E0 u0) q) X0 (Aq F0 q) (Aq G0 q) Q0) rfl fun K1 E1 C0 ⟨A1,B1,hu_,H0,I0⟩=>?_
 subst hu_
 obtain ⟨g0,p1⟩:=p0.agr C0
 refine bk h fun j0 R0 h=>BO 5 63 960 (.tuple #[.agg ((cs_Ta j0.1)).toArray,vI j0.2]) b0 rfl d0 (bd 92) rfl (e1 rfl) (fun p q=>bA_c n (g0.hL0 hL q) Y0 (g0.kd H0 q) (g0.kd I0 q) R0) rfl<|Rv 6 b0 rfl d0 (fun _=>Ag rfl rfl)<|Rv 7 b0 rfl d0 (fun _=>Ag rfl rfl)<|BE 8 511 b0 rfl rfl .plain (AF (news:=(cs_Ta j0.1)) g0 .hd rfl rfl rfl rfl rfl rfl (onesB rfl)) fun M1 q0 q1=>Bf (i:=9) (rk b0) (Bs (m' :=1023) (sk b0) rfl .plain rfl (AV rfl) ?_)
 refine AN (dk b0)<|Al rfl<|Am hb0 Tryz.func95 rfl (.cons (.many (cs:=(cs_Ta j0.1)) (by kernel_rfl) rfl (q0.memA .hd)) (.cons (.tmp rfl) .nil)) rfl ?_
 cases h
 exact q0.gv
 refine Ac<|Ab (AU (vs:=[]) (u:=.agg zM) evs_nil (fun p=>by kernel_rfl))<|AQ zL c0 .hd (onesB rfl) fun P1 s0 s1=>Af rfl<|Aa<|Al rfl<|Am hb0 Tryz.func95 rfl (.cons (.many (cs:=zL) (by kernel_rfl) rfl (s0.memA .hd)) (.cons (.tmp rfl) .nil)) rfl ?_
 cases h
 exact s0.gv
 refine Ap<|Ap<|Ap<|Bh rfl rfl<|Aa<|Bk rfl<|Ac<|Ab (AU (vs:=[]) (u:=.agg zM) evs_nil (fun p=>by kernel_rfl))<|AQ zL c0 .hd (onesB rfl) fun Q1 t0 u1=>Af rfl<|Aa<|Al rfl<|Am hb0 Tryz.func95 rfl (.cons (.many (cs:=zL) (by kernel_rfl) rfl (t0.memA .hd)) (.cons (.tmp rfl) .nil)) rfl ?_
 cases h
 exact t0.gv
def cn_p (n:Nat) (a0:Tf):Option Tc:=
  (aN_p n a0.fN a0.fD).bind fun b0=>some b0.1
theorem cn_c (n:Nat) {L w} (hL:hl L w) (a0:Tf) {v0_1:Value} (h0_1:Rep.R w L [v0_1] a0.fN.fD) {v0_3:Value} (h0_3:Rep.R w L [v0_3] a0.fD.fD)  {r:Tc} (h:cn_p n a0 = some r) :
 Cl 135 #[.agg #[.bool a0.fN.fc,v0_1,.bool a0.fD.fc,v0_3]] w (Gives w fun w' u=>∃ v0_1:Value,u = .agg #[.bool r.fc,v0_1]/\Rep.R w' L [v0_1] r.fD):=by
 unfold cn_p at h
 refine AD Tryz.func135 rfl rfl rfl fun _ cs0 hb0=>Ac<|RG.bx (Az w) rfl rfl fun R0 G0 u0 K0=>RG.nl [.bool false,vN] u0 fun U0 H0 b0 M0=>Aa<|Ac<|AR 0 rfl<|Ab (Bc (cs:=[.bool a0.fN.fc,v0_1]) (by kernel_rfl) rfl (mem_part (b0.memA .t1) 0 2))<|AR 2 rfl<|Ab (Bc (cs:=[.bool a0.fD.fc,v0_3]) (by kernel_rfl) rfl (mem_part (b0.memA .t1) 2 2))<|bk h fun d0 E0 h=>AX (fst:=[]) (cap:=[]) .plain (bd 167) rfl (e2 rfl rfl) (fun p q=>aN_c n (b0.hL hL q) a0.fN (b0.km h0_1 q) a0.fD (b0.km h0_3 q) E0) rfl fun V0 Q0 C0 ⟨c0,F0,hu_,k0,D0⟩=>?_
 subst hu_
 obtain ⟨v0,P0⟩:=b0.agr C0
 refine Ae rfl<|Ab (Ag rfl rfl)<|Ab (Ag rfl rfl)<|RG.nl [.bool false,vN] v0 fun W0 I0 x0 q0=>RG.nl [.bool false,vN] x0 fun X0 J0 y0 s0=>AQ [.bool d0.1.fc,c0] y0 .t1 (o2 rfl (AO (Ao k0 (Tt q0 s0)))) fun Y0 z0 A0=>?_
 have j0:=Tt q0 (Tt s0 A0)
 refine AQ [.bool d0.2.fc,F0] z0 .hd (o2 rfl (AO (Ao D0 j0))) fun Z0 p0 t0=>Aa<|Ac<|Ab (AH rfl (p0.memA .t1))<|AQ [.bool d0.1.fc,c0] p0 .t2 (o2 rfl (AO (Ao k0 (Tt j0 t0)))) fun b1 g0 B0=>Aa<|Al rfl<|Am hb0 Tryz.func135 rfl (.cons (.many (cs:=[.bool d0.1.fc,c0]) (by kernel_rfl) rfl (g0.memA .t2)) .nil) rfl ?_
 cases h
 exact ⟨g0.ag,fun p q=>⟨c0,rfl,g0.kd (Ao k0 (Tt j0 (Tt t0 B0))) q⟩⟩
def cB_p (n:Nat) (a0:Ta):Option ((UInt64 × UInt64 × UInt64 × UInt64 × UInt64 × UInt64 × UInt64 × UInt64) × Int):=
  (ah_p n a0).bind fun c0=>(if c0 = true then (aE_p n a0).bind fun d0=>(cn_p n d0).bind fun g0=>(ap_p n g0).bind fun b0=>some (b0.1,b0.2) else some (((0:UInt64),(0:UInt64),(0:UInt64),(0:UInt64),(0:UInt64),(0:UInt64),(0:UInt64),(0:UInt64)),(20:Int)))
theorem cB_c (n:Nat) {L w} (hL:hl L w) (a0:Ta)  {r:(UInt64 × UInt64 × UInt64 × UInt64 × UInt64 × UInt64 × UInt64 × UInt64) × Int} (h:cB_p n a0 = some r) :
 Cl 96 #[.agg ((cs_Ta a0)).toArray] w (Gives w fun _ u=>u = .tuple #[.agg ((cs_A34 r.1)).toArray,vI r.2]):=by
 unfold cB_p at h
 refine AD Tryz.func96 rfl rfl rfl fun _ cs0 hb0=>Ac<|RG.bx (Az w) rfl rfl fun X0 F0 q0 H0=>RG.nl zP q0 fun Y0 G0 b0 I0=>Af rfl<|Aa<|Aj<|Ac<|Ab (AH rfl (b0.memA .t1))<|bk h fun C0 y0 h=>Ba (.bool C0) (bd 90) rfl (e1 rfl) (fun p q=>ah_c n (b0.hL0 hL q) a0 y0) rfl<|Ab (Bp rfl)<|Aa<|BU rfl h (fun p0 h=>?_) (fun p0 h=>?_)
 refine Au<|Ac<|Ab (AH rfl (b0.memA .t1))<|bk h fun D0 z0 h=>AX (fst:=[]) (cap:=[]) .plain (bd 94) rfl (e1 rfl) (fun p q=>aE_c n (b0.hL hL q) a0 z0) rfl fun Z0 V0 s0 ⟨Q0,R0,hu_,u0,v0⟩=>?_
 subst hu_
 obtain ⟨g0,J0⟩:=b0.agr s0
 refine bk h fun E0 A0 h=>AX (fst:=[]) (cap:=[]) .plain (bd 135) rfl (e1 rfl) (fun p q=>cn_c n (g0.hL hL q) D0 (Aq u0 q) (Aq v0 q) A0) rfl fun b1 W0 t0 ⟨U0,hu_,x0⟩=>?_
 subst hu_
 obtain ⟨d0,K0⟩:=g0.agr t0
 refine bk h fun c0 B0 h=>Ba (.tuple #[.agg ((cs_A34 c0.1)).toArray,vI c0.2]) (bd 132) rfl (e1 rfl) (fun p q=>ap_c n (d0.hL0 hL q) E0 (d0.kd x0 q) B0) rfl<|Ab (Ag rfl rfl)<|Ab (Ag rfl rfl)<|AQ (cs_A34 c0.1) d0 .hd (onesB rfl) fun c1 j0 M0=>Af rfl<|Aa<|Al rfl<|Am hb0 Tryz.func96 rfl (.cons (.many (cs:=(cs_A34 c0.1)) (by kernel_rfl) rfl (j0.memA .hd)) (.cons (.tmp rfl) .nil)) rfl ?_
 cases h
 exact j0.gv
 refine Ac<|Ab (AU (vs:=[]) (u:=.agg zQ) evs_nil (fun p=>by kernel_rfl))<|AQ zP b0 .hd (onesB rfl) fun d1 k0 P0=>Af rfl<|Aa<|Al rfl<|Am hb0 Tryz.func96 rfl (.cons (.many (cs:=zP) (by kernel_rfl) rfl (k0.memA .hd)) (.cons (.tmp rfl) .nil)) rfl ?_
 cases h
 exact k0.gv
def cD_p (n:Nat) (a0:Ta):Option ((UInt64 × UInt64 × UInt64 × UInt64 × UInt64 × UInt64 × UInt64 × UInt64) × Int):=
  (ah_p n a0).bind fun c0=>(if c0 = true then (aE_p n a0).bind fun d0=>(cm_p n d0).bind fun g0=>(cn_p n g0).bind fun j0=>(bm_p n j0).bind fun k0=>(ap_p n k0).bind fun b0=>some (b0.1,b0.2) else some (((0:UInt64),(0:UInt64),(0:UInt64),(0:UInt64),(0:UInt64),(0:UInt64),(0:UInt64),(0:UInt64)),(20:Int)))
theorem cD_c (n:Nat) {L w} (hL:hl L w) (a0:Ta)  {r:(UInt64 × UInt64 × UInt64 × UInt64 × UInt64 × UInt64 × UInt64 × UInt64) × Int} (h:cD_p n a0 = some r) :
 Cl 97 #[.agg ((cs_Ta a0)).toArray] w (Gives w fun _ u=>u = .tuple #[.agg ((cs_A34 r.1)).toArray,vI r.2]):=by
 unfold cD_p at h
 refine AD Tryz.func97 rfl rfl rfl fun _ cs0 hb0=>Ac<|RG.bx (Az w) rfl rfl fun B1 V0 t0 X0=>RG.nl zP t0 fun C1 W0 b0 Y0=>Af rfl<|Aa<|Aj<|Ac<|Ab (AH rfl (b0.memA .t1))<|bk h fun M0 F0 h=>Ba (.bool M0) (bd 90) rfl (e1 rfl) (fun p q=>ah_c n (b0.hL0 hL q) a0 F0) rfl<|Ab (Bp rfl)<|Aa<|BU rfl h (fun s0 h=>?_) (fun s0 h=>?_)
 refine Au<|Ac<|Ab (AH rfl (b0.memA .t1))<|bk h fun P0 G0 h=>AX (fst:=[]) (cap:=[]) .plain (bd 94) rfl (e1 rfl) (fun p q=>aE_c n (b0.hL hL q) a0 G0) rfl fun D1 x1 u0 ⟨k1,p1,hu_,z0,A0⟩=>?_
 subst hu_
 obtain ⟨g0,Z0⟩:=b0.agr u0
 refine bk h fun Q0 H0 h=>AX (fst:=[]) (cap:=[]) .plain (bd 133) rfl (e1 rfl) (fun p q=>cm_c n (g0.hL hL q) P0 (Aq z0 q) (Aq A0 q) H0) rfl fun E1 y1 v0 ⟨q1,s1,hu_,B0,C0⟩=>?_
 subst hu_
 obtain ⟨j0,b1⟩:=g0.agr v0
 refine bk h fun R0 I0 h=>AX (fst:=[]) (cap:=[]) .plain (bd 135) rfl (e1 rfl) (fun p q=>cn_c n (j0.hL hL q) Q0 (Aq B0 q) (Aq C0 q) I0) rfl fun F1 z1 x0 ⟨u1,hu_,D0⟩=>?_
 subst hu_
 obtain ⟨k0,c1⟩:=j0.agr x0
 refine bk h fun U0 J0 h=>AX (fst:=[]) (cap:=[]) .plain (bd 136) rfl (e1 rfl) (fun p q=>bm_c n (k0.hL hL q) R0 (Aq D0 q) J0) rfl fun G1 A1 y0 ⟨v1,hu_,E0⟩=>?_
 subst hu_
 obtain ⟨d0,d1⟩:=k0.agr y0
 refine bk h fun c0 K0 h=>Ba (.tuple #[.agg ((cs_A34 c0.1)).toArray,vI c0.2]) (bd 132) rfl (e1 rfl) (fun p q=>ap_c n (d0.hL0 hL q) U0 (d0.kd E0 q) K0) rfl<|Ab (Ag rfl rfl)<|Ab (Ag rfl rfl)<|AQ (cs_A34 c0.1) d0 .hd (onesB rfl) fun H1 p0 g1=>Af rfl<|Aa<|Al rfl<|Am hb0 Tryz.func97 rfl (.cons (.many (cs:=(cs_A34 c0.1)) (by kernel_rfl) rfl (p0.memA .hd)) (.cons (.tmp rfl) .nil)) rfl ?_
 cases h
 exact p0.gv
 refine Ac<|Ab (AU (vs:=[]) (u:=.agg zQ) evs_nil (fun p=>by kernel_rfl))<|AQ zP b0 .hd (onesB rfl) fun I1 q0 j1=>Af rfl<|Aa<|Al rfl<|Am hb0 Tryz.func97 rfl (.cons (.many (cs:=zP) (by kernel_rfl) rfl (q0.memA .hd)) (.cons (.tmp rfl) .nil)) rfl ?_
 cases h
 exact q0.gv
def aZ_l1 (_n:Nat) (a0:Tc) (d0:UInt64 × Int -> Option UInt64):UInt64 × Int -> Option UInt64
  | (c0,b0)=>(if 0 <= b0 then (idx a0.fD b0).bind fun j0=>(chk (b0 - 1)).bind fun g0=>d0 ((c0 * (4294967296:UInt64)) + (u64of j0),g0) else some c0)
def aZ_p (n:Nat) (a0:Tc):Option (Int × Int):=
  (az_p n (-9223372036854775808:Int)).bind fun c0=>(bD_p n a0 c0).bind fun d0=>(if d0 < 0 then some ((0:Int),(6:Int)) else (az_p n (9223372036854775807:Int)).bind fun g0=>(bD_p n a0 g0).bind fun j0=>(if 0 < j0 then some ((0:Int),(6:Int)) else Option.bind (loopF (aZ_l1 n a0) n ((0:UInt64),((a0.fD.length:Nat):Int) - 1)) (fun b0=>(if a0.fc = true then some (i64of (-b0),(0:Int)) else some (i64of b0,(0:Int))))))
theorem aZ_c (n:Nat) {L w} (hL:hl L w) (a0:Tc) {v0_1:Value} (h0_1:Rep.R w L [v0_1] a0.fD)  {r:Int × Int} (h:aZ_p n a0 = some r) :
 Cl 137 #[.agg #[.bool a0.fc,v0_1]] w (Gives w fun _ u=>u = .tuple #[vI r.1,vI r.2]):=by
 unfold aZ_p at h
 refine AD Tryz.func137 rfl rfl rfl fun _ cs0 hb0=>Ac<|RG.bx (Az w) rfl rfl fun E1 u0 t0 u1=>Af rfl<|Af rfl<|Aa<|Aj<|Aj<|du 10 fun b0 d0=>Rx 0 1020 b0 rfl d0 (AH rfl (t0.memA .hd))<|bk h fun k1 b1 h=>Bn 1 3 b0 rfl .plain (bd 152) rfl (e1 rfl) (fun p q=>az_c n (t0.hL hL q)  b1) rfl fun F1 C1 G0 ⟨A1,hu_,U0⟩=>?_
 subst hu_
 obtain ⟨j0,v1⟩:=t0.agr G0
 refine bk h fun x0 c1 h=>BO 2 7 1016 (vI x0) b0 rfl d0 (bd 131) rfl (e2 rfl rfl) (fun p q=>bD_c n (j0.hL0 hL q) a0 (j0.k0 h0_1 q) k1 (j0.kd U0 q) c1) rfl<|Rv 3 b0 rfl d0 (fun _=>BS (i:=x0) (j:=0) rfl rfl)<|Rv 4 b0 rfl d0 (fun _=>Ai rfl)<|RD.ifd (s:=10) rfl h (fun z0 h=>?_) (fun z0 h=>?_)
 refine BK 511 1 [(5,11),(6,12),(7,13),(8,14)] (F:=[(10,true)]) (U:=[]) b0 d0 (.cons rfl .nil) .nil ?_
 dsimp only [offS,List.map]
 refine Rv 9 b0 rfl d0 (fun _=>BM rfl rfl)<|AN (dk b0)<|Bk rfl<|Ac<|Af rfl<|Af rfl<|Aa<|Al rfl<|Am hb0 Tryz.func137 rfl (.cons (.tmp rfl) (.cons (.tmp rfl) .nil)) rfl ?_
 cases h
 exact j0.gv
 refine RD.val (i:=5) (m' :=63) (W:=896) (tk b0) rfl d0 (.yes rfl rfl) (AH rfl (j0.memA .hd)) rfl<|bk h fun p1 d1 h=>Bn 6 127 b0 rfl (.yes rfl rfl) (bd 152) rfl (e1 rfl) (fun p q=>az_c n (j0.hL hL q)  d1) rfl fun G1 D1 H0 ⟨B1,hu_,V0⟩=>?_
 subst hu_
 obtain ⟨p0,x1⟩:=j0.agr H0
 refine bk h fun y0 g1 h=>RD.callq (i:=7) (m' :=255) (W:=768) (tk b0) rfl d0 (v:=vI y0) (fst:=[]) (cap:=[]) (.yes rfl rfl) (bd 131) rfl (e2 rfl rfl) (fun p q=>bD_c n (p0.hL0 hL q) a0 (p0.k0 h0_1 q) p1 (p0.kd V0 q) g1) rfl<|BX 8 511 b0 rfl d0 (.yes rfl rfl) (fun _=>FV.gtr (i:=y0) (j:=0) rfl rfl) rfl<|Rv 9 b0 rfl d0 (fun _=>Bo rfl rfl)<|AN (dk b0)<|AT rfl h (fun A0 h=>?_) (fun A0 h=>?_)
 refine Ac<|Af rfl<|Af rfl<|Aa<|Al rfl<|Am hb0 Tryz.func137 rfl (.cons (.tmp rfl) (.cons (.tmp rfl) .nil)) rfl ?_
 cases h
 exact p0.gv
 refine Au<|Ac<|Af rfl<|Aa<|Aj<|Ac<|AR 1 rfl<|AP rfl ((p0.memA .hd) 1 _ rfl) ?_
 have v0:=AS h0_1 p0
 have y1:a0.fD.length <= 281474976710656:=AY v0
 refine Ab (Be (xs:=a0.fD) Tryz.underlying45 rfl v0)<|Ab (FV.subI (i:=((a0.fD.length:Nat):Int)) (j:=1) rfl rfl (by omega))<|Af rfl<|Aa<|AA ?_
 obtain ⟨z1,R0,K0⟩:=bind_in2 h
 refine MX.lo (α:=UInt64 × Int) (fun ⟨c0,g0⟩=>[(1,vP u0),(4,vU c0),(5,vI g0)]) (fun ⟨c0,g0⟩=>[.cells u0 [.bool a0.fc,v0_1] 134]) (fun ⟨c0,g0⟩=>(c0,g0)) ((0:UInt64),((a0.fD.length:Nat):Int) - 1) R0 p0 ?_
 rintro s1 ⟨c0,g0⟩ H1 E0 q0 F0 h
 unfold aZ_l1 at h
 try dsimp only at h
 refine Aj<|Ac<|Ae rfl<|Ab (FV.geq (i:=g0) (j:=0) rfl rfl)<|Aa<|AT rfl h (fun B0 h=>?_) (fun B0 h=>?_)
 refine Au<|Aj<|AA<|Av<|Ae rfl<|Ab (FV.mulU (a:=c0) (b:=(4294967296:UInt64)) rfl rfl)<|AR 1 rfl<|AP rfl ((q0.memA .hd) 1 _ rfl)<|Ae rfl<|bk h fun s0 Y0 h=>?_
 obtain ⟨M0,Z0⟩:=idx_in Y0
 obtain ⟨q1,t1,I0,P0,D0,W0,Q0⟩:=Br (AS h0_1 q0) Z0
 have J0:D0 = [vI s0]:=W0; subst J0
 refine Ab (Bq 1 (g0.toNat) rfl I0 rfl M0 P0)<|AP rfl (Q0 0 _ rfl)<|Ab (FV.convU (i:=s0) Tryz.underlying3 Tryz.underlying33 rfl)<|Ab (FV.addU (a:=c0 * (4294967296:UInt64)) (b:=u64of s0) rfl rfl)<|Af rfl<|Aa<|AC<|Av<|Ae rfl<|bk h fun j1 X0 h=>Ab (FV.subc (i:=g0) (j:=1) rfl rfl X0)<|Af rfl<|Aa<|E0 ((c0 * (4294967296:UInt64)) + (u64of s0),j1) q0 F0 h
 refine Bd rfl ?_
 have h:=K0 _ h
 try dsimp only at h
 refine Aj<|Ac<|AR 0 rfl<|AP rfl ((q0.memA .hd) 0 _ rfl)<|Aa<|MX.ifb rfl h (fun C0 h=>?_) (fun C0 h=>?_)
 refine Av<|Ae rfl<|Ab (FV.negU (a:=c0) rfl)<|Af rfl<|Aa<|Ac<|Ae rfl<|Ab (FV.convUI (a:=-c0) Tryz.underlying33 Tryz.underlying3 rfl)<|Af rfl<|Af rfl<|Aa<|Al rfl<|Am hb0 Tryz.func137 rfl (.cons (.tmp rfl) (.cons (.tmp rfl) .nil)) rfl ?_
 cases h
 exact q0.gv
 refine Au<|Ac<|Ae rfl<|Ab (FV.convUI (a:=c0) Tryz.underlying33 Tryz.underlying3 rfl)<|Af rfl<|Af rfl<|Aa<|Al rfl<|Am hb0 Tryz.func137 rfl (.cons (.tmp rfl) (.cons (.tmp rfl) .nil)) rfl ?_
 cases h
 exact q0.gv
def cL_p (n:Nat) (a0:UInt64 × UInt64 × UInt64 × UInt64 × UInt64 × UInt64 × UInt64 × UInt64):Option (Int × Int):=
  (ai_p n a0).bind fun c0=>(aZ_p n c0).bind fun b0=>some (b0.1,b0.2)
theorem cL_c (n:Nat) {L w} (hL:hl L w) (a0:UInt64 × UInt64 × UInt64 × UInt64 × UInt64 × UInt64 × UInt64 × UInt64)  {r:Int × Int} (h:cL_p n a0 = some r) :
 Cl 98 #[.agg ((cs_A34 a0)).toArray] w (Gives w fun _ u=>u = .tuple #[vI r.1,vI r.2]):=by
 unfold cL_p at h
 refine AD Tryz.func98 rfl rfl rfl fun _ cs0 hb0=>Ac<|RG.bx (Az w) rfl rfl fun y0 s0 b0 t0=>Af rfl<|Af rfl<|Aa<|Ac<|Ab (AH rfl (b0.memA .hd))<|bk h fun q0 k0 h=>AX (fst:=[]) (cap:=[]) .plain (bd 128) rfl (e1 rfl) (fun p q=>ai_c n (b0.hL hL q) a0 k0) rfl fun z0 x0 g0 ⟨v0,hu_,j0⟩=>?_
 subst hu_
 obtain ⟨c0,u0⟩:=b0.agr g0
 refine bk h fun d0 p0 h=>Ba (.tuple #[vI d0.1,vI d0.2]) (bd 137) rfl (e1 rfl) (fun p q=>aZ_c n (c0.hL0 hL q) q0 (c0.kd j0 q) p0) rfl<|Ab (Ag rfl rfl)<|Ab (Ag rfl rfl)<|Af rfl<|Af rfl<|Aa<|Al rfl<|Am hb0 Tryz.func98 rfl (.cons (.tmp rfl) (.cons (.tmp rfl) .nil)) rfl ?_
 cases h
 exact c0.gv
def bE_p (n:Nat) (a0:Ta) (a1:Ta) (a2:Bool):Option (Int × Int):=
  (cK_p n a1 a0).bind fun d0=>(if d0.2 = 0 then (cB_p n d0.1).bind fun b0=>jn (fun (k0,p0,q0,s0,t0,u0,v0,x0,y0)=>(if k0 = 0 then (cL_p n (p0,q0,s0,t0,u0,v0,x0,y0)).bind fun j0=>some (j0.1,j0.2) else some ((0:Int),k0))) (fun g0=>(if a2 = true then (cD_p n d0.1).bind fun c0=>g0 (c0.2,c0.1.1,c0.1.2.1,c0.1.2.2.1,c0.1.2.2.2.1,c0.1.2.2.2.2.1,c0.1.2.2.2.2.2.1,c0.1.2.2.2.2.2.2.1,c0.1.2.2.2.2.2.2.2) else g0 (b0.2,b0.1.1,b0.1.2.1,b0.1.2.2.1,b0.1.2.2.2.1,b0.1.2.2.2.2.1,b0.1.2.2.2.2.2.1,b0.1.2.2.2.2.2.2.1,b0.1.2.2.2.2.2.2.2))) else some ((0:Int),d0.2))
theorem bE_c (n:Nat) {L w} (hL:hl L w) (a0:Ta) (a1:Ta) {a2:Bool}  {r:Int × Int} (h:bE_p n a0 a1 a2 = some r) :
 Cl 42 #[.agg ((cs_Ta a0)).toArray,.agg ((cs_Ta a1)).toArray,.bool a2] w (Gives w fun _ u=>u = .tuple #[vI r.1,vI r.2]):=by
 unfold bE_p at h
 refine AD Tryz.func42 rfl rfl rfl fun _ cs0 hb0=>Ac<|RG.bx (Az w) rfl rfl fun v1 b1 H0 g1=>RG.bx H0 rfl rfl fun x1 c1 y0 j1=>Af rfl<|Af rfl<|Aa<|Ac<|Ab (AH rfl (y0.memA .hd))<|Ab (AH rfl (y0.memA .t1))<|bk h fun u0 V0 h=>Ba (.tuple #[.agg ((cs_Ta u0.1)).toArray,vI u0.2]) (bd 95) rfl (e2 rfl rfl) (fun p q=>cK_c n (y0.hL0 hL q) a1 a0 V0) rfl<|Ae rfl<|Ab (Ag rfl rfl)<|Ab (Ag rfl rfl)<|RG.nl zL y0 fun y1 d1 I0 k1=>AQ (cs_Ta u0.1) I0 .hd (onesB rfl) fun z1 z0 p1=>Af rfl<|Aa<|Aj<|Ac<|Ae rfl<|Ab (BP (i:=u0.2) (j:=0) rfl rfl)<|Aa<|MX.ifn rfl h (fun E0 h=>?_) (fun E0 h=>?_)
 refine Au<|Ac<|Ab (AH rfl (z0.memA .hd))<|bk h fun b0 W0 h=>Ba (.tuple #[.agg ((cs_A34 b0.1)).toArray,vI b0.2]) (bd 96) rfl (e1 rfl) (fun p q=>cB_c n (z0.hL0 hL q) u0.1 W0) rfl<|Ae rfl<|Ab (Ag rfl rfl)<|Ab (Ag rfl rfl)<|RG.nl zP z0 fun A1 B0 J0 q1=>AQ (cs_A34 b0.1) J0 .hd (onesB rfl) fun B1 x0 s1=>Af rfl<|Aa<|Aj<|Ac<|Ae rfl<|Aa<|MX.jo (α:=Int × UInt64 × UInt64 × UInt64 × UInt64 × UInt64 × UInt64 × UInt64 × UInt64) (fun ⟨v0,d0,g0,j0,k0,p0,q0,s0,t0⟩=>[(9,vI v0),(10,vP B0)]) (fun ⟨v0,d0,g0,j0,k0,p0,q0,s0,t0⟩=>[.cells B0 [vU d0,vU g0,vU j0,vU k0,vU p0,vU q0,vU s0,vU t0] 35]) (fun ⟨v0,d0,g0,j0,k0,p0,q0,s0,t0⟩=>(v0,d0,g0,j0,k0,p0,q0,s0,t0)) x0 h ?_ ?_
 rintro ⟨v0,d0,g0,j0,k0,p0,q0,s0,t0⟩ D1 A0 u1 h
 try dsimp only at h
 refine Aj<|Ac<|Ae rfl<|Ab (BP (i:=v0) (j:=0) rfl rfl)<|Aa<|MX.ifn rfl h (fun F0 h=>?_) (fun F0 h=>?_)
 refine Au<|Ac<|Ab (AH rfl (A0.memA .hd))<|bk h fun D0 X0 h=>Ba (.tuple #[vI D0.1,vI D0.2]) (bd 98) rfl (e1 rfl) (fun p q=>cL_c n (A0.hL0 hL q) (d0,g0,j0,k0,p0,q0,s0,t0) X0) rfl<|Ab (Ag rfl rfl)<|Ab (Ag rfl rfl)<|Af rfl<|Af rfl<|Aa<|Al rfl<|Am hb0 Tryz.func42 rfl (.cons (.tmp rfl) (.cons (.tmp rfl) .nil)) rfl ?_
 cases h
 exact A0.gv
 refine Ac<|Ae rfl<|Af rfl<|Af rfl<|Aa<|Al rfl<|Am hb0 Tryz.func42 rfl (.cons (.tmp rfl) (.cons (.tmp rfl) .nil)) rfl ?_
 cases h
 exact A0.gv
 intro Z0 C0 h
 try dsimp only at h
 refine MX.ifb rfl h (fun G0 h=>?_) (fun G0 h=>?_)
 refine Av<|Ab (AH rfl (x0.memA .t1))<|bk h fun c0 Y0 h=>Ba (.tuple #[.agg ((cs_A34 c0.1)).toArray,vI c0.2]) (bd 97) rfl (e1 rfl) (fun p q=>cD_c n (x0.hL0 hL q) u0.1 Y0) rfl<|Ae rfl<|Ab (Ag rfl rfl)<|Ab (Ag rfl rfl)<|AQ (cs_A34 c0.1) x0 .hd (onesB rfl) fun C1 K0 Q0=>Af rfl<|Aa ?_
 obtain ⟨M0,R0⟩:=AG K0 (.a0 .done)
 exact C0 (c0.2,c0.1.1,c0.1.2.1,c0.1.2.2.1,c0.1.2.2.2.1,c0.1.2.2.2.2.1,c0.1.2.2.2.2.2.1,c0.1.2.2.2.2.2.2.1,c0.1.2.2.2.2.2.2.2) M0 (Tt Q0 R0) h
 refine Au ?_
 obtain ⟨P0,U0⟩:=AG x0 (.a0 .done)
 exact C0 (b0.2,b0.1.1,b0.1.2.1,b0.1.2.2.1,b0.1.2.2.2.1,b0.1.2.2.2.2.1,b0.1.2.2.2.2.2.1,b0.1.2.2.2.2.2.2.1,b0.1.2.2.2.2.2.2.2) P0 U0 h
 refine Ac<|Ae rfl<|Af rfl<|Af rfl<|Aa<|Al rfl<|Am hb0 Tryz.func42 rfl (.cons (.tmp rfl) (.cons (.tmp rfl) .nil)) rfl ?_
 cases h
 exact z0.gv
def cM_p (n:Nat) (a0:Ta) (a1:Ta):Option (Ta × Int):=
  (ah_p n a0).bind fun c0=>(if c0 = true then (ah_p n a1).bind fun d0=>(if d0 = true then (aE_p n a0).bind fun g0=>(aE_p n a1).bind fun j0=>(bQ_p n g0 j0).bind fun k0=>(bA_p n k0).bind fun b0=>some (b0.1,b0.2) else some ((⟨((0:UInt64),(0:UInt64),(0:UInt64),(0:UInt64),(0:UInt64),(0:UInt64),(0:UInt64),(0:UInt64)),((0:UInt64),(0:UInt64),(0:UInt64),(0:UInt64),(0:UInt64),(0:UInt64),(0:UInt64),(0:UInt64))⟩:Ta),(20:Int))) else some ((⟨((0:UInt64),(0:UInt64),(0:UInt64),(0:UInt64),(0:UInt64),(0:UInt64),(0:UInt64),(0:UInt64)),((0:UInt64),(0:UInt64),(0:UInt64),(0:UInt64),(0:UInt64),(0:UInt64),(0:UInt64),(0:UInt64))⟩:Ta),(20:Int)))
theorem cM_c (n:Nat) {L w} (hL:hl L w) (a0:Ta) (a1:Ta)  {r:Ta × Int} (h:cM_p n a0 a1 = some r) :
 Cl 43 #[.agg ((cs_Ta a0)).toArray,.agg ((cs_Ta a1)).toArray] w (Gives w fun _ u=>u = .tuple #[.agg ((cs_Ta r.1)).toArray,vI r.2]):=by
 unfold cM_p at h
 refine AD Tryz.func43 rfl rfl rfl fun _ cs0 hb0=>Ac<|RG.bx (Az w) rfl rfl fun F1 Z0 y0 d1=>RG.bx y0 rfl rfl fun G1 b1 z0 g1=>RG.nl zL z0 fun H1 c1 c0 j1=>Af rfl<|Aa<|Aj<|Ac<|Ab (AH rfl (c0.memA .t2))<|bk h fun U0 J0 h=>Ba (.bool U0) (bd 90) rfl (e1 rfl) (fun p q=>ah_c n (c0.hL0 hL q) a0 J0) rfl<|Ab (Bp rfl)<|Ae rfl<|RG.ifnb (s:=9) rfl h (fun v0 h=>?_) (fun v0 h=>?_)
 refine AE (AH rfl (c0.memA .t1))<|bk h fun V0 K0 h=>RG.callq' (v:=.bool V0) (fst:=[]) (cap:=[]) (.yes rfl rfl) (bd 90) rfl (e1 rfl) (fun p q=>ah_c n (c0.hL0 hL q) a1 K0) rfl<|AE (Bp rfl)<|Bv rfl rfl<|Aa<|BU rfl h (fun x0 h=>?_) (fun x0 h=>?_)
 refine Au<|Aj<|du 8 fun b0 d0=>Rx 0 1018 b0 rfl d0 (AH rfl (c0.memA .t2))<|Rx 2 1016 b0 rfl d0 (AH rfl (c0.memA .t1))<|bk h fun W0 M0 h=>Bn 1 7 b0 rfl .plain (bd 94) rfl (e1 rfl) (fun p q=>aE_c n (c0.hL hL q) a0 M0) rfl fun I1 C1 A0 ⟨v1,x1,hu_,D0,E0⟩=>?_
 subst hu_
 obtain ⟨k0,k1⟩:=c0.agr A0
 refine bk h fun X0 P0 h=>Bn 3 15 b0 rfl .plain (bd 94) rfl (e1 rfl) (fun p q=>aE_c n (k0.hL hL q) a1 P0) rfl fun J1 D1 B0 ⟨y1,z1,hu_,F0,G0⟩=>?_
 subst hu_
 obtain ⟨p0,u0⟩:=k0.agr B0
 refine bk h fun Y0 Q0 h=>Bn 4 31 b0 rfl .plain (bd 99) rfl (e2 rfl rfl) (fun p q=>bQ_c n (p0.hL hL q) W0 (Aq (Ao D0 u0) q) (Aq (Ao E0 u0) q) X0 (Aq F0 q) (Aq G0 q) Q0) rfl fun K1 E1 C0 ⟨A1,B1,hu_,H0,I0⟩=>?_
 subst hu_
 obtain ⟨g0,p1⟩:=p0.agr C0
 refine bk h fun j0 R0 h=>BO 5 63 960 (.tuple #[.agg ((cs_Ta j0.1)).toArray,vI j0.2]) b0 rfl d0 (bd 92) rfl (e1 rfl) (fun p q=>bA_c n (g0.hL0 hL q) Y0 (g0.kd H0 q) (g0.kd I0 q) R0) rfl<|Rv 6 b0 rfl d0 (fun _=>Ag rfl rfl)<|Rv 7 b0 rfl d0 (fun _=>Ag rfl rfl)<|BE 8 511 b0 rfl rfl .plain (AF (news:=(cs_Ta j0.1)) g0 .hd rfl rfl rfl rfl rfl rfl (onesB rfl)) fun M1 q0 q1=>Bf (i:=9) (rk b0) (Bs (m' :=1023) (sk b0) rfl .plain rfl (AV rfl) ?_)
 refine AN (dk b0)<|Al rfl<|Am hb0 Tryz.func43 rfl (.cons (.many (cs:=(cs_Ta j0.1)) (by kernel_rfl) rfl (q0.memA .hd)) (.cons (.tmp rfl) .nil)) rfl ?_
 cases h
 exact q0.gv
 refine Ac<|Ab (AU (vs:=[]) (u:=.agg zM) evs_nil (fun p=>by kernel_rfl))<|AQ zL c0 .hd (onesB rfl) fun P1 s0 s1=>Af rfl<|Aa<|Al rfl<|Am hb0 Tryz.func43 rfl (.cons (.many (cs:=zL) (by kernel_rfl) rfl (s0.memA .hd)) (.cons (.tmp rfl) .nil)) rfl ?_
 cases h
 exact s0.gv
 refine Ap<|Ap<|Ap<|Bh rfl rfl<|Aa<|Bk rfl<|Ac<|Ab (AU (vs:=[]) (u:=.agg zM) evs_nil (fun p=>by kernel_rfl))<|AQ zL c0 .hd (onesB rfl) fun Q1 t0 u1=>Af rfl<|Aa<|Al rfl<|Am hb0 Tryz.func43 rfl (.cons (.many (cs:=zL) (by kernel_rfl) rfl (t0.memA .hd)) (.cons (.tmp rfl) .nil)) rfl ?_
 cases h
 exact t0.gv
def aJ_p (n:Nat) (a0:Td) (a1:Int) (a2:Ta):Option (Int × Int × Int):=
  (bT_p n a0 a1).bind fun b0=>(if b0.2 = 0 then (ck_p n a2).bind fun c0=>(if c0.2 = 0 then (if c0.1 < 0 then some ((0:Int),(0:Int),(2:Int)) else (aX_p n (1:Int) (1:Int)).bind fun p0=>(cJ_p n p0 a2).bind fun d0=>(if d0.2 = 0 then (bE_p n b0.1 d0.1 true).bind fun g0=>(if g0.2 = 0 then (aX_p n (1:Int) (1:Int)).bind fun q0=>(cM_p n q0 a2).bind fun j0=>(if j0.2 = 0 then (bE_p n b0.1 j0.1 false).bind fun k0=>(if k0.2 = 0 then some (g0.1,k0.1,(0:Int)) else some ((0:Int),(0:Int),k0.2)) else some ((0:Int),(0:Int),j0.2)) else some ((0:Int),(0:Int),g0.2)) else some ((0:Int),(0:Int),d0.2))) else some ((0:Int),(0:Int),c0.2)) else some ((0:Int),(0:Int),b0.2))
theorem aJ_c (n:Nat) {L w} (hL:hl L w) (a0:Td) {v0_3:Value} (h0_3:Rep.R w L [v0_3] a0.fo) {a1:Int} (a2:Ta)  {r:Int × Int × Int} (h:aJ_p n a0 a1 a2 = some r) :
 Cl 10 #[.agg #[vI a0.fe,vI a0.fh,vI a0.fj,v0_3],vI a1,.agg ((cs_Ta a2)).toArray] w (Gives w fun _ u=>u = .tuple #[vI r.1,vI r.2.1,vI r.2.2]):=by
 unfold aJ_p at h
 refine AD Tryz.func10 rfl rfl rfl fun _ cs0 hb0=>Ac<|RG.bx (Az w) rfl rfl fun z1 b1 J0 k1=>RG.bx J0 rfl rfl fun A1 c1 v0 p1=>Af rfl<|Af rfl<|Af rfl<|Aa<|Ac<|Ab (AH rfl (v0.memA .t1))<|Ae rfl<|bk h fun s0 Q0 h=>Ba (.tuple #[.agg ((cs_Ta s0.1)).toArray,vI s0.2]) (bd 16) rfl (e2 rfl rfl) (fun p q=>bT_c n (v0.hL0 hL q) a0 (v0.k0 h0_3 q) Q0) rfl<|Ae rfl<|Ab (Ag rfl rfl)<|Ab (Ag rfl rfl)<|RG.nl zL v0 fun B1 d1 K0 q1=>AQ (cs_Ta s0.1) K0 .hd (onesB rfl) fun C1 d0 s1=>Af rfl<|Aa<|Aj<|Ac<|Ae rfl<|Ab (BP (i:=s0.2) (j:=0) rfl rfl)<|Aa<|MX.ifn rfl h (fun C0 h=>?_) (fun C0 h=>?_)
 refine Au<|Ac<|Ab (AH rfl (d0.memA .t1))<|bk h fun x0 R0 h=>Ba (.tuple #[vI x0.1,vI x0.2]) (bd 40) rfl (e1 rfl) (fun p q=>ck_c n (d0.hL0 hL q) a2 R0) rfl<|Ae rfl<|Ab (Ag rfl rfl)<|Ab (Ag rfl rfl)<|Af rfl<|Af rfl<|Aa<|Aj<|Ac<|Ae rfl<|Ab (BP (i:=x0.2) (j:=0) rfl rfl)<|Aa<|MX.ifn rfl h (fun D0 h=>?_) (fun D0 h=>?_)
 refine Au<|Aj<|Ac<|Ae rfl<|Ab (BS (i:=x0.1) (j:=0) rfl rfl)<|Aa<|AT rfl h (fun E0 h=>?_) (fun E0 h=>?_)
 refine Ac<|Af rfl<|Af rfl<|Af rfl<|Aa<|Al rfl<|Am hb0 Tryz.func10 rfl (.cons (.tmp rfl) (.cons (.tmp rfl) (.cons (.tmp rfl) .nil))) rfl ?_
 cases h
 exact d0.gv
 refine Au<|Aj<|du 7 fun b0 p0=>bk h fun A0 U0 h=>BO 0 1 444 (.agg ((cs_Ta A0)).toArray) b0 rfl p0 (bd 35) rfl (e2 rfl rfl) (fun p q=>aX_c n (d0.hL0 hL q)  U0) rfl<|Rx 1 444 b0 rfl p0 (AH rfl (d0.memA .t1))<|bk h fun t0 V0 h=>BO 2 7 440 (.tuple #[.agg ((cs_Ta t0.1)).toArray,vI t0.2]) b0 rfl p0 (bd 41) rfl (e2 rfl rfl) (fun p q=>cJ_c n (d0.hL0 hL q) A0 a2 V0) rfl<|Rv 3 b0 rfl p0 (fun _=>Ai rfl)<|Rv 4 b0 rfl p0 (fun _=>Ag rfl rfl)<|Rv 5 b0 rfl p0 (fun _=>Ag rfl rfl)<|BN 6 127 b0 rfl .plain rfl (Ay zL d0) fun D1 g1 M0 u1=>BE 7 255 b0 rfl rfl .plain (AF (news:=(cs_Ta t0.1)) M0 .hd rfl rfl rfl rfl rfl rfl (onesB rfl)) fun E1 g0 v1=>Bf (i:=8) (rk b0) (Bs (m' :=511) (sk b0) rfl .plain rfl (AV rfl) ?_)
 refine AN (dk b0)<|Aj<|Ac<|Ae rfl<|Ab (BP (i:=t0.2) (j:=0) rfl rfl)<|Aa<|MX.ifn rfl h (fun F0 h=>?_) (fun F0 h=>?_)
 refine Au<|Ac<|Ab (AH rfl (g0.memA .t1))<|Ab (AH rfl (g0.memA .hd))<|bk h fun y0 W0 h=>Ba (.tuple #[vI y0.1,vI y0.2]) (bd 42) rfl (e3 rfl rfl rfl) (fun p q=>bE_c n (g0.hL0 hL q) s0.1 t0.1 W0) rfl<|Ae rfl<|Ab (Ag rfl rfl)<|Ab (Ag rfl rfl)<|Af rfl<|Af rfl<|Aa<|Aj<|Ac<|Ae rfl<|Ab (BP (i:=y0.2) (j:=0) rfl rfl)<|Aa<|MX.ifn rfl h (fun G0 h=>?_) (fun G0 h=>?_)
 refine Au<|Aj<|du 7 fun c0 q0=>bk h fun B0 X0 h=>BO 0 1 444 (.agg ((cs_Ta B0)).toArray) c0 rfl q0 (bd 35) rfl (e2 rfl rfl) (fun p q=>aX_c n (g0.hL0 hL q)  X0) rfl<|Rx 1 444 c0 rfl q0 (AH rfl (g0.memA .t2))<|bk h fun u0 Y0 h=>BO 2 7 440 (.tuple #[.agg ((cs_Ta u0.1)).toArray,vI u0.2]) c0 rfl q0 (bd 43) rfl (e2 rfl rfl) (fun p q=>cM_c n (g0.hL0 hL q) B0 a2 Y0) rfl<|Rv 3 c0 rfl q0 (fun _=>Ai rfl)<|Rv 4 c0 rfl q0 (fun _=>Ag rfl rfl)<|Rv 5 c0 rfl q0 (fun _=>Ag rfl rfl)<|BN 6 127 c0 rfl .plain rfl (Ay zL g0) fun F1 j1 P0 x1=>BE 7 255 c0 rfl rfl .plain (AF (news:=(cs_Ta u0.1)) P0 .hd rfl rfl rfl rfl rfl rfl (onesB rfl)) fun G1 j0 y1=>Bf (i:=8) (rk c0) (Bs (m' :=511) (sk c0) rfl .plain rfl (AV rfl) ?_)
 refine AN (dk c0)<|Aj<|Ac<|Ae rfl<|Ab (BP (i:=u0.2) (j:=0) rfl rfl)<|Aa<|MX.ifn rfl h (fun H0 h=>?_) (fun H0 h=>?_)
 refine Au<|Ac<|Ab (AH rfl (j0.memA .t2))<|Ab (AH rfl (j0.memA .hd))<|bk h fun z0 Z0 h=>Ba (.tuple #[vI z0.1,vI z0.2]) (bd 42) rfl (e3 rfl rfl rfl) (fun p q=>bE_c n (j0.hL0 hL q) s0.1 u0.1 Z0) rfl<|Ae rfl<|Ab (Ag rfl rfl)<|Ab (Ag rfl rfl)<|Af rfl<|Af rfl<|Aa<|Aj<|Ac<|Ae rfl<|Ab (BP (i:=z0.2) (j:=0) rfl rfl)<|Aa<|MX.ifn rfl h (fun I0 h=>?_) (fun I0 h=>?_)
 refine Au<|Ac<|Ae rfl<|Ae rfl<|Af rfl<|Af rfl<|Af rfl<|Aa<|Al rfl<|Am hb0 Tryz.func10 rfl (.cons (.tmp rfl) (.cons (.tmp rfl) (.cons (.tmp rfl) .nil))) rfl ?_
 cases h
 exact j0.gv
 refine Ac<|Ae rfl<|Af rfl<|Af rfl<|Af rfl<|Aa<|Al rfl<|Am hb0 Tryz.func10 rfl (.cons (.tmp rfl) (.cons (.tmp rfl) (.cons (.tmp rfl) .nil))) rfl ?_
 cases h
 exact j0.gv
 refine Ac<|Ae rfl<|Af rfl<|Af rfl<|Af rfl<|Aa<|Al rfl<|Am hb0 Tryz.func10 rfl (.cons (.tmp rfl) (.cons (.tmp rfl) (.cons (.tmp rfl) .nil))) rfl ?_
 cases h
 exact j0.gv
 refine Ac<|Ae rfl<|Af rfl<|Af rfl<|Af rfl<|Aa<|Al rfl<|Am hb0 Tryz.func10 rfl (.cons (.tmp rfl) (.cons (.tmp rfl) (.cons (.tmp rfl) .nil))) rfl ?_
 cases h
 exact g0.gv
 refine Ac<|Ae rfl<|Af rfl<|Af rfl<|Af rfl<|Aa<|Al rfl<|Am hb0 Tryz.func10 rfl (.cons (.tmp rfl) (.cons (.tmp rfl) (.cons (.tmp rfl) .nil))) rfl ?_
 cases h
 exact g0.gv
 refine Ac<|Ae rfl<|Af rfl<|Af rfl<|Af rfl<|Aa<|Al rfl<|Am hb0 Tryz.func10 rfl (.cons (.tmp rfl) (.cons (.tmp rfl) (.cons (.tmp rfl) .nil))) rfl ?_
 cases h
 exact d0.gv
 refine Ac<|Ae rfl<|Af rfl<|Af rfl<|Af rfl<|Aa<|Al rfl<|Am hb0 Tryz.func10 rfl (.cons (.tmp rfl) (.cons (.tmp rfl) (.cons (.tmp rfl) .nil))) rfl ?_
 cases h
 exact d0.gv
def aK_l1 (_n:Nat) (a2:Int) (j0:List Bool) (c0:Int -> Option (Bool ⊕ Unit)):Int -> Option (Bool ⊕ Unit)
  | b0=>(if b0 < a2 then (idx j0 b0).bind fun g0=>(if g0 = true then (chk (b0 + 1)).bind fun d0=>c0 d0 else some (.inl false)) else some (.inr ()))
def aK_l2 (_n:Nat) (a1:Int) (a0:List Int) (a2:Int) (g0:Int × (List Bool) -> Option (Bool ⊕ (List Bool))):Int × (List Bool) -> Option (Bool ⊕ (List Bool))
  | (d0,c0)=>(if d0 < a1 then (idx a0 d0).bind fun b0=>(if b0 < 0 then some (.inl false) else (if a2 <= b0 then some (.inl false) else (idx c0 b0).bind fun _x127=>(put c0 ((b0.toNat:Nat):Int) true).bind fun k0=>(chk (d0 + 1)).bind fun j0=>g0 (j0,k0))) else some (.inr c0))
def aK_p (n:Nat) (a0:List Int) (a1:Int) (a2:Int):Option Bool:=
  (if ((a0.length:Nat):Int) = a1 then (mk a2 false).bind fun c0=>thn (loopF (aK_l2 n a1 a0 a2) n (0,c0)) (fun b0=>thn (loopF (aK_l1 n a2 b0) n 0) (fun _=>some true)) else some false)
theorem aK_c (n:Nat) {L w} (_hL:hl L w) {a0:List Int} {v0_0:Value} (h0_0:Rep.R w L [v0_0] a0) {a1:Int} {a2:Int}  {r:Bool} (h:aK_p n a0 a1 a2 = some r) :
 Cl 59 #[v0_0,vI a1,vI a2] w (Gives w fun _ u=>u = .bool r):=by
 unfold aK_p at h
 have hS0:=Az w
 refine AD Tryz.func59 rfl rfl rfl fun _ cs0 hb0=>Ac<|Af rfl<|Aa<|Aj<|Ac<|Ae rfl ?_
 have hl1:a0.length <= 281474976710656:=AY h0_0
 refine Ab (Be (xs:=a0) Tryz.underlying46 rfl h0_0)<|Ae rfl<|Ab (BP (i:=((a0.length:Nat):Int)) (j:=a1) rfl rfl)<|Aa<|MX.ifn rfl h (fun c2 h=>?_) (fun c2 h=>?_)
 refine Au<|Ac<|Ae rfl<|bk h fun J0 H0 h=>Ak .plain rfl (Does.mk (α:=Bool) H0 hS0 el142 rfl) fun x2 k0 B0 s2=>Af rfl<|Aa<|Aj<|Ac<|Af rfl<|Aa<|AA<|tn h fun u2 B1 x0=>MX.lf (α:=Int × (List Bool) × (List Value)) (fun ⟨b0,c0,d0⟩=>[(0,v0_0),(1,vI a1),(2,vI a2),(7,(.slice (some ⟨k0,0,none⟩) a2.toNat a2.toNat)),(8,vI b0)]) (fun ⟨b0,c0,d0⟩=>[rr w 4 Bool (.slice (some ⟨k0,0,none⟩) a2.toNat a2.toNat) c0.length d0]) (fun ⟨b0,c0,d0⟩ I0=>Cells I0 (bl [rr w 4 Bool (.slice (some ⟨k0,0,none⟩) a2.toNat a2.toNat) c0.length d0] ++ L) d0 c0) (fun ⟨b0,c0,d0⟩=>(b0,c0)) (0,J0,(List.replicate a2.toNat [.bool false]).flatten) B1 B0 (AB (cs:=(List.replicate a2.toNat [.bool false]).flatten) (xs:=J0) B0 L (Cells.mk H0 rfl)) ?_
 rintro b2 ⟨b0,c0,d0⟩ I0 d1 j0 k1 s0 h
 unfold aK_l2 at h
 try dsimp only at h
 refine Aj<|Ac<|Ae rfl<|Ae rfl<|Ab (BS (i:=b0) (j:=a1) rfl rfl)<|Aa<|AT rfl h (fun R0 h=>?_) (fun R0 h=>?_)
 refine Au<|Aj<|AA<|Aj<|Ac<|Ae rfl<|Ae rfl<|bk h fun q0 I1 h=>?_
 obtain ⟨y0,J1⟩:=idx_in I1
 obtain ⟨Z1,g2,t0,z0,Y0,D1,A0⟩:=Br (AS h0_0 j0) J1
 have s1:Y0 = [vI q0]:=D1; subst s1
 refine Ab (Bq 1 (b0.toNat) rfl t0 rfl y0 z0)<|AP rfl (A0 0 _ rfl)<|Ab (BS (i:=q0) (j:=0) rfl rfl)<|Ae rfl<|BD (s:=26) rfl h (fun U0 h=>?_) (fun U0 h=>?_)
 refine Ap<|Ap<|Ap<|Ap<|Ap<|Ap<|Bh rfl rfl<|Aa<|Bk rfl<|Ac<|Af rfl<|Aa ?_
 have h:=thn_inl h x0
 refine Al rfl<|AW hb0 Tryz.func59 rfl rfl ?_
 cases h
 exact j0.gv
 refine AE (Ai rfl)<|AE (Ai rfl)<|AE (Bq 1 (b0.toNat) rfl t0 rfl y0 z0)<|AE (AL rfl (A0 0 _ rfl))<|AE (Ai rfl)<|AE (FV.geq (i:=q0) (j:=a2) rfl rfl)<|Bv rfl rfl<|Aa<|AT rfl h (fun V0 h=>?_) (fun V0 h=>?_)
 refine Ac<|Af rfl<|Aa ?_
 have h:=thn_inl h x0
 refine Al rfl<|AW hb0 Tryz.func59 rfl rfl ?_
 cases h
 exact j0.gv
 refine Au<|Av<|Ae rfl<|Ae rfl<|Ae rfl<|Ab (Bq 1 (b0.toNat) rfl t0 rfl y0 z0)<|AP rfl (A0 0 _ rfl)<|bk h fun W1 K1 h=>?_
 obtain ⟨y1,M1⟩:=idx_in K1
 obtain ⟨K0,j2,u0,F0,Z0,E1,t2⟩:=St.nth (α:=Bool) j0 .hd s0 M1
 obtain ⟨P0,k2,D0⟩:=BR (α:=Bool) j0 .hd F0
 obtain rfl:K0 = ⟨P0,0,none⟩:=by rw [D0] at u0; cases u0; rfl
 have u1:Z0 = [.bool W1]:=E1; subst u1
 refine Ab (Bq 1 (q0.toNat) rfl u0 rfl y1 F0)<|bk h fun Y1 R1 h=>RG.acts' .plain (Acts.set (α:=Bool) (i:=q0.toNat) R1 j0 D0 (fun _=>.hd) s0 rfl rfl rfl rfl rfl (by kernel_rfl)) fun y2 ⟨b1,j1,p1,q1⟩=>Aa<|AC<|Av<|Ae rfl<|bk h fun U1 G1 h=>Ab (BJ (i:=b0) (j:=1) rfl rfl G1)<|Af rfl<|Aa<|d1 (U1,Y1,b1) j1 (Tt k1 p1) q1 h
 refine Bd rfl ?_
 have h:=thn_inr h x0
 try dsimp only at h
 refine Aj<|Ac<|Af rfl<|Aa<|AA<|tn h fun v2 C1 E0=>MX.lo (α:=Int) (fun g0=>[(2,vI a2),(7,(.slice (some ⟨k0,0,none⟩) a2.toNat a2.toNat)),(9,vI g0)]) (fun g0=>[rr w 4 Bool (.slice (some ⟨k0,0,none⟩) a2.toNat a2.toNat) c0.length d0]) (fun g0=>g0) 0 C1 j0 ?_
 rintro d2 g0 z2 g1 p0 C0 h
 unfold aK_l1 at h
 try dsimp only at h
 refine Aj<|Ac<|Ae rfl<|Ae rfl<|Ab (BS (i:=g0) (j:=a2) rfl rfl)<|Aa<|AT rfl h (fun W0 h=>?_) (fun W0 h=>?_)
 refine Au<|Aj<|AA<|Ac<|Ae rfl<|Ae rfl<|bk h fun X1 P1 h=>?_
 obtain ⟨z1,Q1⟩:=idx_in P1
 obtain ⟨M0,p2,v0,G0,c1,F1,A1⟩:=St.nth (α:=Bool) p0 .hd (Aw s0 C0) Q1
 obtain ⟨Q0,q2,v1⟩:=BR (α:=Bool) p0 .hd G0
 obtain rfl:M0 = ⟨Q0,0,none⟩:=by rw [v1] at v0; cases v0; rfl
 have x1:c1 = [.bool X1]:=F1; subst x1
 refine Ab (Bq 1 (g0.toNat) rfl v0 rfl z1 G0)<|AP rfl (A1 0 _ rfl)<|Ab (Bp rfl)<|Aa<|BU rfl h (fun X0 h=>?_) (fun X0 h=>?_)
 refine Au<|AC<|Av<|Ae rfl<|bk h fun V1 H1 h=>Ab (BJ (i:=g0) (j:=1) rfl rfl H1)<|Af rfl<|Aa<|g1 V1 p0 C0 h
 refine Ac<|Af rfl<|Aa ?_
 have h:=thn_inl h E0
 refine Al rfl<|AW hb0 Tryz.func59 rfl rfl ?_
 cases h
 exact p0.gv
 refine Bd rfl ?_
 have h:=thn_inr h E0
 try dsimp only at h
 refine Ac<|Af rfl<|Aa<|Al rfl<|AW hb0 Tryz.func59 rfl rfl ?_
 cases h
 exact p0.gv
 refine Ac<|Af rfl<|Aa<|Al rfl<|AW hb0 Tryz.func59 rfl rfl ?_
 cases h
 exact hS0.gv
def bU_p (n:Nat) (a0:Td) (a1:List Int) (a2:Int):Option Int:=
  (bg_p n a0 a2).bind fun b0=>(if b0 = 0 then (bP_p n a0).bind fun c0=>(aK_p n a1 c0 a2).bind fun d0=>(if d0 = true then some (0:Int) else some (220:Int)) else some b0)
theorem bU_c (n:Nat) {L w} (hL:hl L w) (a0:Td) {v0_3:Value} (h0_3:Rep.R w L [v0_3] a0.fo) {a1:List Int} {v1_0:Value} (h1_0:Rep.R w L [v1_0] a1) {a2:Int}  {r:Int} (h:bU_p n a0 a1 a2 = some r) :
 Cl 18 #[.agg #[vI a0.fe,vI a0.fh,vI a0.fj,v0_3],v1_0,vI a2] w (Gives w fun _ u=>u = vI r):=by
 unfold bU_p at h
 refine AD Tryz.func18 rfl rfl rfl fun _ cs0 hb0=>Ac<|RG.bx (Az w) rfl rfl fun x0 u0 b0 v0=>Af rfl<|Aa<|Aj<|Ac<|Ab (AH rfl (b0.memA .hd))<|Ae rfl<|bk h fun c0 j0 h=>Ba (vI c0) (bd 55) rfl (e2 rfl rfl) (fun p q=>bg_c n (b0.hL0 hL q) a0 (b0.k0 h0_3 q) j0) rfl<|Af rfl<|Aa<|Ac<|Ae rfl<|Ab (BP (i:=c0) (j:=0) rfl rfl)<|Aa<|MX.ifn rfl h (fun d0 h=>?_) (fun d0 h=>?_)
 refine Au<|Aj<|Ac<|Ae rfl<|Ab (AH rfl (b0.memA .hd))<|bk h fun s0 p0 h=>Ba (vI s0) (bd 60) rfl (e1 rfl) (fun p q=>bP_c n (b0.hL0 hL q) a0 (b0.k0 h0_3 q) p0) rfl<|Ae rfl<|bk h fun t0 q0 h=>Ba (.bool t0) (bd 59) rfl (e3 rfl rfl rfl) (fun p q=>aK_c n (b0.hL0 hL q) (b0.k0 h1_0 q) q0) rfl<|Ab (Bp rfl)<|Aa<|BU rfl h (fun g0 h=>?_) (fun g0 h=>?_)
 refine Au<|Ac<|Af rfl<|Aa<|Al rfl<|AW hb0 Tryz.func18 rfl rfl ?_
 cases h
 exact b0.gv
 refine Ac<|Af rfl<|Aa<|Al rfl<|AW hb0 Tryz.func18 rfl rfl ?_
 cases h
 exact b0.gv
 refine Ac<|Ae rfl<|Af rfl<|Aa<|Al rfl<|AW hb0 Tryz.func18 rfl rfl ?_
 cases h
 exact b0.gv
def aR_l1 (_n:Nat) (a1:List Int) (a0:Td) (g0:Nat × (List Int) -> Option (List Int)):Nat × (List Int) -> Option (List Int)
  | (b0,c0)=>(if b0 < a1.length then (a1[b0]?).bind fun d0=>(idx c0 d0).bind fun k0=>(a0.fo[b0]?).bind fun p0=>(chk (k0 + p0.fv)).bind fun j0=>(put c0 ((d0.toNat:Nat):Int) j0).bind fun q0=>g0 (b0 + 1,q0) else some c0)
def aR_p (n:Nat) (a0:Td) (a1:List Int) (a2:Int):Option ((List Int) × Int):=
  (bU_p n a0 a1 a2).bind fun b0=>(if b0 = 0 then (mk a2 (0:Int)).bind fun d0=>Option.bind (loopF (aR_l1 n a1 a0) n (0,d0)) (fun c0=>some (c0,(0:Int))) else some (([]:List Int),b0))
theorem aR_c (n:Nat) {L w} (hL:hl L w) (a0:Td) {v0_3:Value} (h0_3:Rep.R w L [v0_3] a0.fo) {a1:List Int} {v1_0:Value} (h1_0:Rep.R w L [v1_0] a1) {a2:Int}  {r:(List Int) × Int} (h:aR_p n a0 a1 a2 = some r) :
 Cl 14 #[.agg #[vI a0.fe,vI a0.fh,vI a0.fj,v0_3],v1_0,vI a2] w (Gives w fun w' u=>∃ v0_0:Value,u = .tuple #[v0_0,vI r.2]/\Rep.R w' L [v0_0] r.1):=by
 unfold aR_p at h
 refine AD Tryz.func14 rfl rfl rfl fun _ cs0 hb0=>Ac<|RG.bx (Az w) rfl rfl fun u2 v0 p0 Y1=>Af rfl<|Af rfl<|Aa<|Aj<|Ac<|Ab (AH rfl (p0.memA .hd))<|Ae rfl<|Ae rfl<|bk h fun M0 I1 h=>Ba (vI M0) (bd 18) rfl (e3 rfl rfl rfl) (fun p q=>bU_c n (p0.hL0 hL q) a0 (p0.k0 h0_3 q) (p0.k0 h1_0 q) I1) rfl<|Af rfl<|Aa<|Ac<|Ae rfl<|Ab (BP (i:=M0) (j:=0) rfl rfl)<|Aa<|MX.ifn rfl h (fun U0 h=>?_) (fun U0 h=>?_)
 refine Au<|Ac<|Ae rfl<|bk h fun K0 H0 h=>Ak .plain rfl (Does.mk (α:=Int) H0 p0 el45 rfl) fun v2 s0 B0 b2=>Af rfl<|Aa<|Aj<|Ac<|Af rfl<|Aa<|AA ?_
 obtain ⟨k2,v1,p1⟩:=bind_in2 h
 refine MX.lf (α:=Nat × (List Int) × (List Value)) (fun ⟨d0,j0,q0⟩=>[(1,v1_0),(3,vP v0),(9,(.slice (some ⟨s0,0,none⟩) a2.toNat a2.toNat)),(10,vI ((d0:Nat):Int))]) (fun ⟨d0,j0,q0⟩=>[rr w 3 Int (.slice (some ⟨s0,0,none⟩) a2.toNat a2.toNat) j0.length q0,.cells v0 [vI a0.fe,vI a0.fh,vI a0.fj,v0_3] 44]) (fun ⟨d0,j0,q0⟩ I0=>Cells I0 (bl [rr w 3 Int (.slice (some ⟨s0,0,none⟩) a2.toNat a2.toNat) j0.length q0,.cells v0 [vI a0.fe,vI a0.fh,vI a0.fj,v0_3] 44] ++ L) q0 j0) (fun ⟨d0,j0,q0⟩=>(d0,j0)) (0,K0,(List.replicate a2.toNat [vI 0]).flatten) v1 B0 (AB (cs:=(List.replicate a2.toNat [vI 0]).flatten) (xs:=K0) B0 L (Cells.mk H0 rfl)) ?_
 rintro Q1 ⟨d0,j0,q0⟩ I0 Y0 g0 b1 y0 h
 unfold aR_l1 at h
 try dsimp only at h
 refine Aj<|Ac<|Ae rfl<|Ae rfl ?_
 have A0:=AS h1_0 g0
 have c2:a1.length <= 281474976710656:=AY A0
 refine Ab (Be (xs:=a1) Tryz.underlying46 rfl A0)<|Ab (Bu (i:=d0) (j:=a1.length) rfl rfl)<|Aa<|AT rfl h (fun R0 h=>?_) (fun R0 h=>?_)
 refine Au<|Aj<|AA<|du 20 fun b0 c0=>Rv 0 b0 rfl c0 (fun _=>Ai rfl)<|Rv 1 b0 rfl c0 (fun _=>Ai rfl)<|Rv 2 b0 rfl c0 (fun _=>Ai rfl)<|bk h fun u0 D1 h=>?_
 obtain ⟨M1,R1,C0,F0,V0,x1,G0⟩:=Br A0 D1
 have g1:V0 = [vI u0]:=x1; subst g1
 refine Rv 3 b0 rfl c0 (fun _=>Bq 1 d0 rfl C0 rfl rfl F0)<|Rx 4 1572864 b0 rfl c0 (AL rfl (G0 0 _ rfl))<|Rv 5 b0 rfl c0 (fun _=>Ai rfl)<|Rv 6 b0 rfl c0 (fun _=>Ai rfl)<|Rv 7 b0 rfl c0 (fun _=>Ai rfl)<|Rv 8 b0 rfl c0 (fun _=>Bq 1 d0 rfl C0 rfl rfl F0)<|Rx 9 1838080 b0 rfl c0 (AL rfl (G0 0 _ rfl))<|bk h fun J0 E1 h=>?_
 obtain ⟨E0,F1⟩:=idx_in E1
 obtain ⟨P0,U1,t0,z0,W0,y1,s1⟩:=St.nth (α:=Int) g0 .hd y0 F1
 obtain ⟨Q0,V1,D0⟩:=BR (α:=Int) g0 .hd z0
 obtain rfl:P0 = ⟨Q0,0,none⟩:=by rw [D0] at t0; cases t0; rfl
 have j1:W0 = [vI J0]:=y1; subst j1
 refine Rv 10 b0 rfl c0 (fun _=>Bq 1 (u0.toNat) rfl t0 rfl E0 z0)<|Rx 11 1835008 b0 rfl c0 (AL rfl (s1 0 _ rfl))<|Rv 12 b0 rfl c0 (fun _=>Bb 3 rfl)<|Rx 13 2064384 b0 rfl c0 (AL rfl ((g0.memA .t1) 3 _ rfl))<|Rv 14 b0 rfl c0 (fun _=>Ai rfl)<|bk h fun J1 G1 h=>?_
 obtain ⟨P1,W1,k1,q1,X1,z1,u1⟩:=Br (AS h0_3 g0) G1
 obtain ⟨q2,s2,t2,rfl,d2,g2,j2⟩:=op_Tb z1
 refine Rv 15 b0 rfl c0 (fun _=>Bq 6 d0 rfl k1 rfl rfl q1)<|Rv 16 b0 rfl c0 (fun _=>Bb 1 rfl)<|Rx 17 1835008 b0 rfl c0 (AL rfl (u1 1 _ rfl))<|bk h fun p2 C1 h=>Rv 18 b0 rfl c0 (fun _=>BJ (i:=J0) (j:=J1.fv) rfl rfl C1)<|Rv 19 b0 rfl c0 (fun _=>Bq 1 (u0.toNat) rfl t0 rfl E0 z0)<|bk h fun K1 H1 h=>Bf (i:=20) (rk b0) (RO.acts (m' :=2097151) (sk b0) rfl rfl .plain (Acts.set (α:=Int) (i:=u0.toNat) H1 g0 D0 (fun _=>.hd) y0 rfl rfl rfl rfl rfl (by kernel_rfl)) (fun x2 ⟨X0,Z0,c1,d1⟩=>?_))
 refine AN (dk b0)<|AC<|Av<|Ae rfl<|Ab (Bw (i:=d0) (j:=1) rfl rfl (by omega))<|Af rfl<|Aa<|Y0 (d0 + 1,K1,X0) Z0 (Tt b1 c1) d1 h
 refine Bd rfl ?_
 have h:=p1 _ h
 try dsimp only at h
 refine Ac<|Ae rfl<|Af rfl<|Af rfl<|Aa<|Al rfl ?_
 have x0:=Bz g0 .hd
 have Z1:=BA g0 .hd
 have A1:=BB (α:=Int) (v:=(.slice (some ⟨s0,0,none⟩) a2.toNat a2.toNat)) (xs:=j0) x0 L (Bj (α:=Int) g0 .hd y0 hL)
 refine Am hb0 Tryz.func14 rfl (.cons (.tmp rfl) (.cons (.tmp rfl) .nil)) rfl ?_
 cases h
 exact ⟨x0.ag,fun p q=>⟨(.slice (some ⟨s0,0,none⟩) a2.toNat a2.toNat),rfl,x0.kd A1 q⟩⟩
 refine Ac<|Ae rfl<|Af rfl<|Af rfl<|Aa<|Al rfl ?_
 have B1:=Rep.nilAt (α:=Int) p0 L
 refine Am hb0 Tryz.func14 rfl (.cons (.tmp rfl) (.cons (.tmp rfl) .nil)) rfl ?_
 cases h
 exact ⟨p0.ag,fun p q=>⟨vN,rfl,p0.kd B1 q⟩⟩
def aw_l1 (_n:Nat) (a2:Int) (k0:(List Int) × Int) (d0:Int × Int × Int) (g0:Int -> Option ((Bool × Int) ⊕ Unit)):Int -> Option ((Bool × Int) ⊕ Unit)
  | b0=>(if b0 < a2 then (idx k0.1 b0).bind fun c0=>(if c0 < d0.1 then some (.inl (false,(0:Int))) else (if d0.2.1 < c0 then some (.inl (false,(0:Int))) else (chk (b0 + 1)).bind fun j0=>g0 j0)) else some (.inr ()))
def aw_p (n:Nat) (a0:Td) (a1:List Int) (a2:Int) (a3:Ta):Option (Bool × Int):=
  (aR_p n a0 a1 a2).bind fun b0=>(if b0.2 = 0 then (aJ_p n a0 a2 a3).bind fun c0=>(if c0.2.2 = 0 then thn (loopF (aw_l1 n a2 b0 c0) n 0) (fun _=>some (true,(0:Int))) else some (false,c0.2.2)) else some (false,b0.2))
theorem aw_c (n:Nat) {L w} (hL:hl L w) (a0:Td) {v0_3:Value} (h0_3:Rep.R w L [v0_3] a0.fo) {a1:List Int} {v1_0:Value} (h1_0:Rep.R w L [v1_0] a1) {a2:Int} (a3:Ta)  {r:Bool × Int} (h:aw_p n a0 a1 a2 a3 = some r) :
 Cl 12 #[.agg #[vI a0.fe,vI a0.fh,vI a0.fj,v0_3],v1_0,vI a2,.agg ((cs_Ta a3)).toArray] w (Gives w fun _ u=>u = .tuple #[.bool r.1,vI r.2]):=by
 unfold aw_p at h
 refine AD Tryz.func12 rfl rfl rfl fun _ cs0 hb0=>Ac<|RG.bx (Az w) rfl rfl fun v1 d1 F0 k1=>RG.bx F0 rfl rfl fun x1 g1 g0 p1=>Af rfl<|Af rfl<|Aa<|Ac<|Ab (AH rfl (g0.memA .t1))<|Ae rfl<|Ae rfl<|bk h fun Z0 V0 h=>AX (fst:=[]) (cap:=[]) .plain (bd 14) rfl (e3 rfl rfl rfl) (fun p q=>aR_c n (g0.hL hL q) a0 (g0.km h0_3 q) (g0.km h1_0 q) V0) rfl fun y1 u1 I0 ⟨Y0,hu_,M0⟩=>?_
 subst hu_
 obtain ⟨d0,q1⟩:=g0.agr I0
 refine Ae rfl<|Ab (Ag rfl rfl)<|Ab (Ag rfl rfl)<|Af rfl<|Af rfl<|Aa<|Aj<|Ac<|Ae rfl<|Ab (BP (i:=Z0.2) (j:=0) rfl rfl)<|Aa<|MX.ifn rfl h (fun y0 h=>?_) (fun y0 h=>?_)
 refine Au<|Ac<|Ab (AH rfl (d0.memA .t1))<|Ae rfl<|Ab (AH rfl (d0.memA .hd))<|bk h fun c0 W0 h=>Ba (.tuple #[vI c0.1,vI c0.2.1,vI c0.2.2]) (bd 10) rfl (e3 rfl rfl rfl) (fun p q=>aJ_c n (d0.hL0 hL q) a0 (d0.k0 h0_3 q) a3 W0) rfl<|Ae rfl<|Ab (Ag rfl rfl)<|Ab (Ag rfl rfl)<|Ab (Ag rfl rfl)<|Af rfl<|Af rfl<|Af rfl<|Aa<|Aj<|Ac<|Ae rfl<|Ab (BP (i:=c0.2.2) (j:=0) rfl rfl)<|Aa<|MX.ifn rfl h (fun z0 h=>?_) (fun z0 h=>?_)
 refine Au<|Aj<|Ac<|Af rfl<|Aa<|AA ?_
 obtain ⟨G0,H0⟩:=AG d0 .done
 refine tn h fun s1 K0 p0=>MX.lo (α:=Int) (fun b0=>[(2,vI a2),(10,Y0),(12,vI c0.1),(13,vI c0.2.1),(14,vI b0)]) (fun b0=>[]) (fun b0=>b0) 0 K0 G0 ?_
 rintro c1 b0 z1 E0 j0 s0 h
 unfold aw_l1 at h
 try dsimp only at h
 refine Aj<|Ac<|Ae rfl<|Ae rfl<|Ab (BS (i:=b0) (j:=a2) rfl rfl)<|Aa<|AT rfl h (fun A0 h=>?_) (fun A0 h=>?_)
 refine Au<|Aj<|AA<|Ac<|Ae rfl<|Ae rfl<|bk h fun q0 R0 h=>?_
 obtain ⟨u0,U0⟩:=idx_in R0
 obtain ⟨b1,j1,t0,v0,D0,P0,x0⟩:=Br (Ao M0 (Tt H0 s0)) U0
 have J0:D0 = [vI q0]:=P0; subst J0
 refine Ab (Bq 1 (b0.toNat) rfl t0 rfl u0 v0)<|AP rfl (x0 0 _ rfl)<|Ae rfl<|Ab (BS (i:=q0) (j:=c0.1) rfl rfl)<|Ae rfl<|BD (s:=47) rfl h (fun B0 h=>?_) (fun B0 h=>?_)
 refine Ap<|Ap<|Ap<|Ap<|Ap<|Ap<|Bh rfl rfl<|Aa<|Bk rfl<|Ac<|Af rfl<|Af rfl<|Aa ?_
 have h:=thn_inl h p0
 refine Al rfl<|Am hb0 Tryz.func12 rfl (.cons (.tmp rfl) (.cons (.tmp rfl) .nil)) rfl ?_
 cases h
 exact j0.gv
 refine AE (Ai rfl)<|AE (Ai rfl)<|AE (Bq 1 (b0.toNat) rfl t0 rfl u0 v0)<|AE (AL rfl (x0 0 _ rfl))<|AE (Ai rfl)<|AE (FV.gtr (i:=q0) (j:=c0.2.1) rfl rfl)<|Bv rfl rfl<|Aa<|AT rfl h (fun C0 h=>?_) (fun C0 h=>?_)
 refine Ac<|Af rfl<|Af rfl<|Aa ?_
 have h:=thn_inl h p0
 refine Al rfl<|Am hb0 Tryz.func12 rfl (.cons (.tmp rfl) (.cons (.tmp rfl) .nil)) rfl ?_
 cases h
 exact j0.gv
 refine Au<|AC<|Av<|Ae rfl<|bk h fun X0 Q0 h=>Ab (BJ (i:=b0) (j:=1) rfl rfl Q0)<|Af rfl<|Aa<|E0 X0 j0 s0 h
 refine Bd rfl ?_
 have h:=thn_inr h p0
 try dsimp only at h
 refine Ac<|Af rfl<|Af rfl<|Aa<|Al rfl<|Am hb0 Tryz.func12 rfl (.cons (.tmp rfl) (.cons (.tmp rfl) .nil)) rfl ?_
 cases h
 exact j0.gv
 refine Ac<|Ae rfl<|Af rfl<|Af rfl<|Aa<|Al rfl<|Am hb0 Tryz.func12 rfl (.cons (.tmp rfl) (.cons (.tmp rfl) .nil)) rfl ?_
 cases h
 exact d0.gv
 refine Ac<|Ae rfl<|Af rfl<|Af rfl<|Aa<|Al rfl<|Am hb0 Tryz.func12 rfl (.cons (.tmp rfl) (.cons (.tmp rfl) .nil)) rfl ?_
 cases h
 exact d0.gv
def aC_l1 (n:Nat) (E0:List Ti) (a4:Tp) (a5:Ta) (F0:Nat -> Option (Bool ⊕ Unit)):Nat -> Option (Bool ⊕ Unit)
  | p0=>(if p0 < E0.length then (E0[p0]?).bind fun b0=>(bY_p n a4).bind fun j0=>(bO_p n a4).bind fun k0=>(bN_p n b0.fr b0.fk j0).bind fun q0=>(aJ_p n b0.fr b0.fk j0).bind fun s0=>(bw_p n b0.fr b0.fp b0.fk j0).bind fun y0=>(aw_p n b0.fr b0.fp b0.fk j0).bind fun z0=>jn (fun G0=>(if G0 = true then some (.inl false) else (bN_p n b0.fr b0.fk k0).bind fun t0=>(aJ_p n b0.fr b0.fk k0).bind fun u0=>(bw_p n b0.fr b0.fp b0.fk k0).bind fun A0=>(aw_p n b0.fr b0.fp b0.fk k0).bind fun B0=>jn (fun H0=>(if H0 = true then some (.inl false) else (bN_p n b0.fr b0.fk a5).bind fun v0=>(aJ_p n b0.fr b0.fk a5).bind fun x0=>(bw_p n b0.fr b0.fp b0.fk a5).bind fun C0=>(aw_p n b0.fr b0.fp b0.fk a5).bind fun D0=>jn (fun I0=>(if I0 = true then some (.inl false) else F0 (p0 + 1))) (fun g0=>(if v0.1 = x0.1 then (if v0.2.1 = x0.2.1 then (if v0.2.2 = x0.2.2 then (if (C0.1 == D0.1) = true then g0 (!(decide (C0.2 = D0.2))) else g0 true) else g0 true) else g0 true) else g0 true)))) (fun d0=>(if t0.1 = u0.1 then (if t0.2.1 = u0.2.1 then (if t0.2.2 = u0.2.2 then (if (A0.1 == B0.1) = true then d0 (!(decide (A0.2 = B0.2))) else d0 true) else d0 true) else d0 true) else d0 true)))) (fun c0=>(if q0.1 = s0.1 then (if q0.2.1 = s0.2.1 then (if q0.2.2 = s0.2.2 then (if (y0.1 == z0.1) = true then c0 (!(decide (y0.2 = z0.2))) else c0 true) else c0 true) else c0 true) else c0 true)) else some (.inr ()))
def aC_p (n:Nat) (a0:Tk) (a1:Tj) (a2:Tn) (a3:Int) (a4:Tp) (a5:Ta):Option Bool:=
  (cN_p n).bind fun b0=>(if b0 = true then (cr_p n a0 a1 a2 a2 a3).bind fun c0=>thn (loopF (aC_l1 n c0 a4 a5) n 0) (fun _=>some true) else some false)
theorem aC_c (n:Nat) {L w} (hL:hl L w) (a0:Tk) {v0_1:Value} (h0_1:Rep.R w L [v0_1] a0.fC) {v0_2:Value} (h0_2:Rep.R w L [v0_2] a0.fMore) {v0_3:Value} (h0_3:Rep.R w L [v0_3] a0.fLabels) (a1:Tj) {v1_4:Value} (h1_4:Rep.R w L [v1_4] a1.fNums) (a2:Tn) {a3:Int} (a4:Tp) (a5:Ta)  {r:Bool} (h:aC_p n a0 a1 a2 a3 a4 a5 = some r) :
 Cl 3 #[.agg #[.int .u8 (a0.fN.toNat:Int),v0_1,v0_2,v0_3,.int .u8 (a0.fK.toNat:Int)],.agg #[.int .u8 (a1.fe.toNat:Int),.int .u8 (a1.fh.toNat:Int),.int .u8 (a1.fj.toNat:Int),.int .u8 (a1.fu.toNat:Int),v1_4],.agg #[.int .u8 (a2.fE.toNat:Int),.int .u8 (a2.fAt.toNat:Int),vI a2.fN],vI a3,.agg #[.int .i16 a4.fN.toInt,.int .u8 (a4.fD.toNat:Int)],.agg ((cs_Ta a5)).toArray] w (Gives w fun _ u=>u = .bool r):=by
 unfold aC_p at h
 refine AD Tryz.func3 rfl rfl rfl fun _ cs0 hb0=>Ac<|RG.bx (Az w) rfl rfl fun X4 B4 g2 J4=>RG.bx g2 rfl rfl fun Y4 C4 j2 K4=>RG.bx j2 rfl rfl fun Z4 D4 p2 M4=>RG.bx p2 rfl rfl fun j5 t0 v2 P4=>RG.bx v2 rfl rfl fun t5 u0 k0 Q4=>Af rfl<|Aa<|Aj<|Ac<|bk h fun u4 q4 h=>Ba (.bool u4) (bd 5) rfl evs_nil (fun p q=>cN_c n (k0.hL0 hL q)  q4) rfl<|Ab (Bp rfl)<|Aa<|BU rfl h (fun c2 h=>?_) (fun c2 h=>?_)
 refine Au<|Aj<|Ac<|Ab (AH rfl (k0.memA .t4))<|Ab (AH rfl (k0.memA .t3))<|Ab (AH rfl (k0.memA .t2))<|AR 0 rfl<|AP rfl ((k0.memA .t2) 0 _ rfl)<|AR 1 rfl<|AP rfl ((k0.memA .t2) 1 _ rfl)<|AR 2 rfl<|AP rfl ((k0.memA .t2) 2 _ rfl)<|Ab (AU (vs:=[.int .u8 (a2.fE.toNat:Int),.int .u8 (a2.fAt.toNat:Int),vI a2.fN]) (u:=.agg #[.int .u8 (a2.fE.toNat:Int),.int .u8 (a2.fAt.toNat:Int),vI a2.fN]) (e3 rfl rfl rfl) (fun p=>by kernel_rfl))<|Ae rfl<|bk h fun y0 s4 h=>AX (fst:=[]) (cap:=[]) .plain (bd 6) rfl (e5 rfl rfl rfl rfl rfl) (fun p q=>cr_c n (k0.hL hL q) a0 (k0.km h0_1 q) (k0.km h0_2 q) (k0.km h0_3 q) a1 (k0.km h1_4 q) a2 a2 s4) rfl fun u5 p1 H3 ⟨W4,hu_,x1⟩=>?_
 subst hu_
 obtain ⟨R2,R4⟩:=k0.agr H3
 have U4:y0.length <= 281474976710656:=AY x1
 refine Ab (Be (xs:=y0) Tryz.underlying39 rfl x1)<|Ae rfl<|Aa<|AA ?_
 obtain ⟨k2,U2⟩:=AG R2 (.a0 (.a0 .done))
 refine tn h fun V4 M3 Y0=>MX.lo (α:=Nat) (fun s0=>[(10,vP t0),(11,vP u0),(40,p1),(41,vI ((y0.length:Nat):Int)),(42,vI ((s0:Nat):Int))]) (fun s0=>[.cells u0 (cs_Ta a5) 37,.cells t0 [.int .i16 a4.fN.toInt,.int .u8 (a4.fD.toNat:Int)] 32]) (fun s0=>s0) 0 M3 k2 ?_
 rintro x4 s0 v5 d2 y1 C1 h
 unfold aC_l1 at h
 try dsimp only at h
 refine Ac<|Ab (Bu (i:=s0) (j:=y0.length) rfl rfl)<|Aa<|Aj<|AT rfl h (fun G1 h=>?_) (fun G1 h=>?_)
 refine Au<|Aj<|AA<|Ac<|bk h fun b0 Q3 h=>?_
 obtain ⟨v4,H4,I3,J3,I4,P3,K3⟩:=Br (Ao x1 (Tt U2 C1)) Q3
 obtain ⟨j0,k1,rfl,g1,j1⟩:=op_Ti P3
 refine Ab (Bq 6 s0 rfl I3 rfl rfl J3)<|Ab (AH rfl K3)<|RG.nl [vI 0,vI 0,vI 0,vN,vN,vI 0] y1 fun b5 z0 q2 q1=>AQ [vI b0.fr.fe,vI b0.fr.fh,vI b0.fr.fj,j0,k1,vI b0.fk] q2 .hd (o6 rfl rfl rfl (AO (Ao g1 q1)) (AO (Ao j1 q1)) rfl) fun c5 A0 V2=>Aa<|Aj<|du 7 fun v0 x0=>Rx 0 42 v0 rfl x0 (AH rfl (A0.memA .t2))<|bk h fun p0 R3 h=>BO 1 3 40 (.agg ((cs_Ta p0)).toArray) v0 rfl x0 (bd 7) rfl (e1 rfl) (fun p q=>bY_c n (A0.hL0 hL q) a4 R3) rfl<|Rx 2 40 v0 rfl x0 (AH rfl (A0.memA .t2))<|bk h fun q0 U3 h=>BO 3 15 32 (.agg ((cs_Ta q0)).toArray) v0 rfl x0 (bd 8) rfl (e1 rfl) (fun p q=>bO_c n (A0.hL0 hL q) a4 U3) rfl<|Rx 4 32 v0 rfl x0 (AH rfl (A0.memA .t1))<|Rv 5 v0 rfl x0 (fun _=>AU (vs:=[.agg ((cs_Ta p0)).toArray,.agg ((cs_Ta q0)).toArray,.agg ((cs_Ta a5)).toArray]) (u:=.agg ((cs_Ta p0 ++ cs_Ta q0 ++ cs_Ta a5)).toArray) (e3 rfl rfl rfl) (fun p=>by kernel_rfl))<|Rv 6 v0 rfl x0 (fun _=>Ai rfl)<|AN (dk v0)<|AA<|MX.loop1<|Ac<|Ab (Bu (i:=0) (j:=3) rfl rfl)<|Aa<|Aj<|Bk rfl<|Au<|Aj<|AA<|Ac<|Ab (FV.idxN (cs:=(cs_Ta p0 ++ cs_Ta q0 ++ cs_Ta a5)) (k:=0) (m:=16) (len:=3) (by kernel_rfl) (by kernel_rfl) rfl rfl rfl (by omega) rfl)<|RG.nl zL A0 fun d5 E4 s2 W2=>AQ (cs_Ta p0) s2 .hd (onesB rfl) fun g5 c0 X2=>Aa<|Ac<|AR 0 rfl<|Ab (Bc (cs:=[vI b0.fr.fe,vI b0.fr.fh,vI b0.fr.fj,j0]) (by kernel_rfl) rfl (mem_part (c0.memA .t1) 0 4))<|AR 5 rfl<|AP rfl ((c0.memA .t1) 5 _ rfl)<|Ab (AH rfl (c0.memA .hd))<|bk h fun B0 V3 h=>?_
 have s1:=Tt q1 (Tt V2 (Tt W2 X2))
 have Z0:=Ao g1 s1
 refine Ba (.tuple #[vI B0.1,vI B0.2.1,vI B0.2.2]) (bd 9) rfl (e3 rfl rfl rfl) (fun p q=>bN_c n (c0.hL0 hL q) b0.fr (c0.kd Z0 q) p0 V3) rfl<|Ae rfl<|Ab (Ag rfl rfl)<|Ab (Ag rfl rfl)<|Ab (Ag rfl rfl)<|Af rfl<|Af rfl<|Af rfl<|Aa<|Ac<|AR 0 rfl<|Ab (Bc (cs:=[vI b0.fr.fe,vI b0.fr.fh,vI b0.fr.fj,j0]) (by kernel_rfl) rfl (mem_part (c0.memA .t1) 0 4))<|AR 5 rfl<|AP rfl ((c0.memA .t1) 5 _ rfl)<|Ab (AH rfl (c0.memA .hd))<|bk h fun C0 W3 h=>Ba (.tuple #[vI C0.1,vI C0.2.1,vI C0.2.2]) (bd 10) rfl (e3 rfl rfl rfl) (fun p q=>aJ_c n (c0.hL0 hL q) b0.fr (c0.kd Z0 q) p0 W3) rfl<|Ae rfl<|Ab (Ag rfl rfl)<|Ab (Ag rfl rfl)<|Ab (Ag rfl rfl)<|Af rfl<|Af rfl<|Af rfl<|Aa<|Ac<|AR 0 rfl<|Ab (Bc (cs:=[vI b0.fr.fe,vI b0.fr.fh,vI b0.fr.fj,j0]) (by kernel_rfl) rfl (mem_part (c0.memA .t1) 0 4))<|AR 4 rfl<|AP rfl ((c0.memA .t1) 4 _ rfl)<|AR 5 rfl<|AP rfl ((c0.memA .t1) 5 _ rfl)<|Ab (AH rfl (c0.memA .hd))<|bk h fun Q0 X3 h=>?_
 have D1:=Ao j1 s1
 refine Ba (.tuple #[.bool Q0.1,vI Q0.2]) (bd 11) rfl (e4 rfl rfl rfl rfl) (fun p q=>bw_c n (c0.hL0 hL q) b0.fr (c0.kd Z0 q) (c0.kd D1 q) p0 X3) rfl<|Ae rfl<|Ab (Ag rfl rfl)<|Ab (Ag rfl rfl)<|Af rfl<|Af rfl<|Aa<|Ac<|AR 0 rfl<|Ab (Bc (cs:=[vI b0.fr.fe,vI b0.fr.fh,vI b0.fr.fj,j0]) (by kernel_rfl) rfl (mem_part (c0.memA .t1) 0 4))<|AR 4 rfl<|AP rfl ((c0.memA .t1) 4 _ rfl)<|AR 5 rfl<|AP rfl ((c0.memA .t1) 5 _ rfl)<|Ab (AH rfl (c0.memA .hd))<|bk h fun R0 Y3 h=>Ba (.tuple #[.bool R0.1,vI R0.2]) (bd 12) rfl (e4 rfl rfl rfl rfl) (fun p q=>aw_c n (c0.hL0 hL q) b0.fr (c0.kd Z0 q) (c0.kd D1 q) p0 Y3) rfl<|Ae rfl<|Ab (Ag rfl rfl)<|Ab (Ag rfl rfl)<|Af rfl<|Af rfl<|Aa<|Aj<|MX.jo (α:=Bool) (fun K0=>[(10,vP t0),(11,vP u0),(40,p1),(41,vI ((y0.length:Nat):Int)),(42,vI ((s0:Nat):Int)),(14,vP z0),(51,.agg ((cs_Ta p0 ++ cs_Ta q0 ++ cs_Ta a5)).toArray),(52,vI 0),(119,.bool K0)]) (fun K0=>[.cells z0 [vI b0.fr.fe,vI b0.fr.fh,vI b0.fr.fj,j0,k1,vI b0.fk] 48,.cells u0 (cs_Ta a5) 37,.cells t0 [.int .i16 a4.fN.toInt,.int .u8 (a4.fD.toNat:Int)] 32]) (fun K0=>K0) c0 h ?_ ?_
 rintro K0 x5 z1 Y2 h
 try dsimp only at h
 refine MX.ifb rfl h (fun H1 h=>?_) (fun H1 h=>?_)
 refine Ac<|Af rfl<|Aa ?_
 have h:=thn_inl h Y0
 refine Al rfl<|AW hb0 Tryz.func3 rfl rfl ?_
 cases h
 exact z1.gv
 refine Au<|AC<|Av<|Ab (FV.add (i:=0) (j:=1) (r:=1) rfl rfl (by decide))<|Ae rfl<|Aa<|MX.again1<|Ac<|Ab (Bu (i:=1) (j:=3) rfl rfl)<|Aa<|Aj<|Bk rfl<|Au<|Aj<|AA<|Ac<|Ab (FV.idxN (cs:=(cs_Ta p0 ++ cs_Ta q0 ++ cs_Ta a5)) (k:=1) (m:=16) (len:=3) (by kernel_rfl) (by kernel_rfl) rfl rfl rfl (by omega) rfl)<|RG.nl zL z1 fun k5 F4 u2 Z2=>AQ (cs_Ta q0) u2 .hd (onesB rfl) fun p5 d0 b3=>Aa<|Ac<|AR 0 rfl<|Ab (Bc (cs:=[vI b0.fr.fe,vI b0.fr.fh,vI b0.fr.fj,j0]) (by kernel_rfl) rfl (mem_part (d0.memA .t1) 0 4))<|AR 5 rfl<|AP rfl ((d0.memA .t1) 5 _ rfl)<|Ab (AH rfl (d0.memA .hd))<|bk h fun D0 Z3 h=>?_
 have u1:=Tt s1 (Tt Y2 (Tt Z2 b3))
 have b1:=Ao g1 u1
 refine Ba (.tuple #[vI D0.1,vI D0.2.1,vI D0.2.2]) (bd 9) rfl (e3 rfl rfl rfl) (fun p q=>bN_c n (d0.hL0 hL q) b0.fr (d0.kd b1 q) q0 Z3) rfl<|Ae rfl<|Ab (Ag rfl rfl)<|Ab (Ag rfl rfl)<|Ab (Ag rfl rfl)<|Af rfl<|Af rfl<|Af rfl<|Aa<|Ac<|AR 0 rfl<|Ab (Bc (cs:=[vI b0.fr.fe,vI b0.fr.fh,vI b0.fr.fj,j0]) (by kernel_rfl) rfl (mem_part (d0.memA .t1) 0 4))<|AR 5 rfl<|AP rfl ((d0.memA .t1) 5 _ rfl)<|Ab (AH rfl (d0.memA .hd))<|bk h fun E0 b4 h=>Ba (.tuple #[vI E0.1,vI E0.2.1,vI E0.2.2]) (bd 10) rfl (e3 rfl rfl rfl) (fun p q=>aJ_c n (d0.hL0 hL q) b0.fr (d0.kd b1 q) q0 b4) rfl<|Ae rfl<|Ab (Ag rfl rfl)<|Ab (Ag rfl rfl)<|Ab (Ag rfl rfl)<|Af rfl<|Af rfl<|Af rfl<|Aa<|Ac<|AR 0 rfl<|Ab (Bc (cs:=[vI b0.fr.fe,vI b0.fr.fh,vI b0.fr.fj,j0]) (by kernel_rfl) rfl (mem_part (d0.memA .t1) 0 4))<|AR 4 rfl<|AP rfl ((d0.memA .t1) 4 _ rfl)<|AR 5 rfl<|AP rfl ((d0.memA .t1) 5 _ rfl)<|Ab (AH rfl (d0.memA .hd))<|bk h fun U0 c4 h=>?_
 have E1:=Ao j1 u1
 refine Ba (.tuple #[.bool U0.1,vI U0.2]) (bd 11) rfl (e4 rfl rfl rfl rfl) (fun p q=>bw_c n (d0.hL0 hL q) b0.fr (d0.kd b1 q) (d0.kd E1 q) q0 c4) rfl<|Ae rfl<|Ab (Ag rfl rfl)<|Ab (Ag rfl rfl)<|Af rfl<|Af rfl<|Aa<|Ac<|AR 0 rfl<|Ab (Bc (cs:=[vI b0.fr.fe,vI b0.fr.fh,vI b0.fr.fj,j0]) (by kernel_rfl) rfl (mem_part (d0.memA .t1) 0 4))<|AR 4 rfl<|AP rfl ((d0.memA .t1) 4 _ rfl)<|AR 5 rfl<|AP rfl ((d0.memA .t1) 5 _ rfl)<|Ab (AH rfl (d0.memA .hd))<|bk h fun V0 d4 h=>Ba (.tuple #[.bool V0.1,vI V0.2]) (bd 12) rfl (e4 rfl rfl rfl rfl) (fun p q=>aw_c n (d0.hL0 hL q) b0.fr (d0.kd b1 q) (d0.kd E1 q) q0 d4) rfl<|Ae rfl<|Ab (Ag rfl rfl)<|Ab (Ag rfl rfl)<|Af rfl<|Af rfl<|Aa<|Aj<|MX.jo (α:=Bool) (fun M0=>[(10,vP t0),(11,vP u0),(40,p1),(41,vI ((y0.length:Nat):Int)),(42,vI ((s0:Nat):Int)),(14,vP z0),(51,.agg ((cs_Ta p0 ++ cs_Ta q0 ++ cs_Ta a5)).toArray),(52,vI 1),(119,.bool M0)]) (fun M0=>[.cells z0 [vI b0.fr.fe,vI b0.fr.fh,vI b0.fr.fj,j0,k1,vI b0.fk] 48,.cells u0 (cs_Ta a5) 37,.cells t0 [.int .i16 a4.fN.toInt,.int .u8 (a4.fD.toNat:Int)] 32]) (fun M0=>M0) d0 h ?_ ?_
 rintro M0 y5 A1 c3 h
 try dsimp only at h
 refine MX.ifb rfl h (fun I1 h=>?_) (fun I1 h=>?_)
 refine Ac<|Af rfl<|Aa ?_
 have h:=thn_inl h Y0
 refine Al rfl<|AW hb0 Tryz.func3 rfl rfl ?_
 cases h
 exact A1.gv
 refine Au<|AC<|Av<|Ab (FV.add (i:=1) (j:=1) (r:=2) rfl rfl (by decide))<|Ae rfl<|Aa<|MX.again1<|Ac<|Ab (Bu (i:=2) (j:=3) rfl rfl)<|Aa<|Aj<|Bk rfl<|Au<|Aj<|AA<|Ac<|Ab (FV.idxN (cs:=(cs_Ta p0 ++ cs_Ta q0 ++ cs_Ta a5)) (k:=2) (m:=16) (len:=3) (by kernel_rfl) (by kernel_rfl) rfl rfl rfl (by omega) rfl)<|RG.nl zL A1 fun q5 G4 x2 d3=>AQ (cs_Ta a5) x2 .hd (onesB rfl) fun s5 g0 g3=>Aa<|Ac<|AR 0 rfl<|Ab (Bc (cs:=[vI b0.fr.fe,vI b0.fr.fh,vI b0.fr.fj,j0]) (by kernel_rfl) rfl (mem_part (g0.memA .t1) 0 4))<|AR 5 rfl<|AP rfl ((g0.memA .t1) 5 _ rfl)<|Ab (AH rfl (g0.memA .hd))<|bk h fun F0 g4 h=>?_
 have v1:=Tt u1 (Tt c3 (Tt d3 g3))
 have c1:=Ao g1 v1
 refine Ba (.tuple #[vI F0.1,vI F0.2.1,vI F0.2.2]) (bd 9) rfl (e3 rfl rfl rfl) (fun p q=>bN_c n (g0.hL0 hL q) b0.fr (g0.kd c1 q) a5 g4) rfl<|Ae rfl<|Ab (Ag rfl rfl)<|Ab (Ag rfl rfl)<|Ab (Ag rfl rfl)<|Af rfl<|Af rfl<|Af rfl<|Aa<|Ac<|AR 0 rfl<|Ab (Bc (cs:=[vI b0.fr.fe,vI b0.fr.fh,vI b0.fr.fj,j0]) (by kernel_rfl) rfl (mem_part (g0.memA .t1) 0 4))<|AR 5 rfl<|AP rfl ((g0.memA .t1) 5 _ rfl)<|Ab (AH rfl (g0.memA .hd))<|bk h fun G0 j4 h=>Ba (.tuple #[vI G0.1,vI G0.2.1,vI G0.2.2]) (bd 10) rfl (e3 rfl rfl rfl) (fun p q=>aJ_c n (g0.hL0 hL q) b0.fr (g0.kd c1 q) a5 j4) rfl<|Ae rfl<|Ab (Ag rfl rfl)<|Ab (Ag rfl rfl)<|Ab (Ag rfl rfl)<|Af rfl<|Af rfl<|Af rfl<|Aa<|Ac<|AR 0 rfl<|Ab (Bc (cs:=[vI b0.fr.fe,vI b0.fr.fh,vI b0.fr.fj,j0]) (by kernel_rfl) rfl (mem_part (g0.memA .t1) 0 4))<|AR 4 rfl<|AP rfl ((g0.memA .t1) 4 _ rfl)<|AR 5 rfl<|AP rfl ((g0.memA .t1) 5 _ rfl)<|Ab (AH rfl (g0.memA .hd))<|bk h fun W0 k4 h=>?_
 have F1:=Ao j1 v1
 refine Ba (.tuple #[.bool W0.1,vI W0.2]) (bd 11) rfl (e4 rfl rfl rfl rfl) (fun p q=>bw_c n (g0.hL0 hL q) b0.fr (g0.kd c1 q) (g0.kd F1 q) a5 k4) rfl<|Ae rfl<|Ab (Ag rfl rfl)<|Ab (Ag rfl rfl)<|Af rfl<|Af rfl<|Aa<|Ac<|AR 0 rfl<|Ab (Bc (cs:=[vI b0.fr.fe,vI b0.fr.fh,vI b0.fr.fj,j0]) (by kernel_rfl) rfl (mem_part (g0.memA .t1) 0 4))<|AR 4 rfl<|AP rfl ((g0.memA .t1) 4 _ rfl)<|AR 5 rfl<|AP rfl ((g0.memA .t1) 5 _ rfl)<|Ab (AH rfl (g0.memA .hd))<|bk h fun X0 p4 h=>Ba (.tuple #[.bool X0.1,vI X0.2]) (bd 12) rfl (e4 rfl rfl rfl rfl) (fun p q=>aw_c n (g0.hL0 hL q) b0.fr (g0.kd c1 q) (g0.kd F1 q) a5 p4) rfl<|Ae rfl<|Ab (Ag rfl rfl)<|Ab (Ag rfl rfl)<|Af rfl<|Af rfl<|Aa<|Aj<|MX.jo (α:=Bool) (fun P0=>[(10,vP t0),(11,vP u0),(40,p1),(41,vI ((y0.length:Nat):Int)),(42,vI ((s0:Nat):Int)),(14,vP z0),(51,.agg ((cs_Ta p0 ++ cs_Ta q0 ++ cs_Ta a5)).toArray),(52,vI 2),(119,.bool P0)]) (fun P0=>[.cells z0 [vI b0.fr.fe,vI b0.fr.fh,vI b0.fr.fj,j0,k1,vI b0.fk] 48,.cells u0 (cs_Ta a5) 37,.cells t0 [.int .i16 a4.fN.toInt,.int .u8 (a4.fD.toNat:Int)] 32]) (fun P0=>P0) g0 h ?_ ?_
 rintro P0 z5 B1 j3 h
 try dsimp only at h
 refine MX.ifb rfl h (fun J1 h=>?_) (fun J1 h=>?_)
 refine Ac<|Af rfl<|Aa ?_
 have h:=thn_inl h Y0
 refine Al rfl<|AW hb0 Tryz.func3 rfl rfl ?_
 cases h
 exact B1.gv
 refine Au<|AC<|Av<|Ab (FV.add (i:=2) (j:=1) (r:=3) rfl rfl (by decide))<|Ae rfl<|Aa<|MX.again1<|Ac<|Ab (Bu (i:=3) (j:=3) rfl rfl)<|Aa<|Aj<|BF rfl<|Bd rfl<|AC<|Av<|Ab (Bw (i:=s0) (j:=1) rfl rfl (by omega))<|Ae rfl<|Aa ?_
 obtain ⟨y2,k3⟩:=AG B1 .d1
 exact d2 (s0 + 1) y2 (Tt C1 (Tt v1 (Tt j3 k3))) h
 intro A4 J0 h
 try dsimp only at h
 refine Av<|Ae rfl<|Ae rfl<|Ab (BP (i:=F0.1) (j:=G0.1) rfl rfl)<|Ae rfl<|RG.ifn (s:=100) rfl h (fun K1 h=>?_) (fun K1 h=>?_)
 refine AE (Ai rfl)<|AE (Ai rfl)<|AE (BP (i:=F0.2.1) (j:=G0.2.1) rfl rfl)<|Bv rfl rfl<|Ae rfl<|RG.ifn (s:=105) rfl h (fun M1 h=>?_) (fun M1 h=>?_)
 refine AE (Ai rfl)<|AE (Ai rfl)<|AE (BP (i:=F0.2.2) (j:=G0.2.2) rfl rfl)<|Bv rfl rfl<|Ae rfl<|RG.ifn (s:=110) rfl h (fun P1 h=>?_) (fun P1 h=>?_)
 refine AE (Ai rfl)<|AE (Ai rfl)<|AE (FV.neqB (a:=W0.1) (b:=X0.1) Tryz.underlying4 rfl rfl)<|Bv rfl rfl<|Ae rfl<|RG.ifnb (s:=115) rfl h (fun Q1 h=>?_) (fun Q1 h=>?_)
 refine AE (Ai rfl)<|AE (Ai rfl)<|AE (BP (i:=W0.2) (j:=X0.2) rfl rfl)<|Bv rfl rfl<|Aa ?_
 obtain ⟨z2,p3⟩:=AG g0 .d1
 exact J0 (!(decide (W0.2 = X0.2))) z2 p3 h
 refine Ap<|Ap<|Ap<|Bh rfl rfl<|Aa ?_
 obtain ⟨A2,q3⟩:=AG g0 .d1
 exact J0 true A2 q3 h
 refine Ap<|Ap<|Ap<|Bh rfl rfl<|Ae rfl<|Ap<|Ap<|Ap<|Bh rfl rfl<|Aa ?_
 obtain ⟨B2,s3⟩:=AG g0 .d1
 exact J0 true B2 s3 h
 refine Ap<|Ap<|Ap<|Bh rfl rfl<|Ae rfl<|Ap<|Ap<|Ap<|Bh rfl rfl<|Ae rfl<|Ap<|Ap<|Ap<|Bh rfl rfl<|Aa ?_
 obtain ⟨C2,u3⟩:=AG g0 .d1
 exact J0 true C2 u3 h
 refine Ap<|Ap<|Ap<|Bh rfl rfl<|Ae rfl<|Ap<|Ap<|Ap<|Bh rfl rfl<|Ae rfl<|Ap<|Ap<|Ap<|Bh rfl rfl<|Ae rfl<|Ap<|Ap<|Ap<|Bh rfl rfl<|Aa ?_
 obtain ⟨D2,v3⟩:=AG g0 .d1
 exact J0 true D2 v3 h
 intro z4 I0 h
 try dsimp only at h
 refine Av<|Ae rfl<|Ae rfl<|Ab (BP (i:=D0.1) (j:=E0.1) rfl rfl)<|Ae rfl<|RG.ifn (s:=100) rfl h (fun R1 h=>?_) (fun R1 h=>?_)
 refine AE (Ai rfl)<|AE (Ai rfl)<|AE (BP (i:=D0.2.1) (j:=E0.2.1) rfl rfl)<|Bv rfl rfl<|Ae rfl<|RG.ifn (s:=105) rfl h (fun U1 h=>?_) (fun U1 h=>?_)
 refine AE (Ai rfl)<|AE (Ai rfl)<|AE (BP (i:=D0.2.2) (j:=E0.2.2) rfl rfl)<|Bv rfl rfl<|Ae rfl<|RG.ifn (s:=110) rfl h (fun V1 h=>?_) (fun V1 h=>?_)
 refine AE (Ai rfl)<|AE (Ai rfl)<|AE (FV.neqB (a:=U0.1) (b:=V0.1) Tryz.underlying4 rfl rfl)<|Bv rfl rfl<|Ae rfl<|RG.ifnb (s:=115) rfl h (fun W1 h=>?_) (fun W1 h=>?_)
 refine AE (Ai rfl)<|AE (Ai rfl)<|AE (BP (i:=U0.2) (j:=V0.2) rfl rfl)<|Bv rfl rfl<|Aa ?_
 obtain ⟨E2,x3⟩:=AG d0 .d1
 exact I0 (!(decide (U0.2 = V0.2))) E2 x3 h
 refine Ap<|Ap<|Ap<|Bh rfl rfl<|Aa ?_
 obtain ⟨F2,y3⟩:=AG d0 .d1
 exact I0 true F2 y3 h
 refine Ap<|Ap<|Ap<|Bh rfl rfl<|Ae rfl<|Ap<|Ap<|Ap<|Bh rfl rfl<|Aa ?_
 obtain ⟨G2,z3⟩:=AG d0 .d1
 exact I0 true G2 z3 h
 refine Ap<|Ap<|Ap<|Bh rfl rfl<|Ae rfl<|Ap<|Ap<|Ap<|Bh rfl rfl<|Ae rfl<|Ap<|Ap<|Ap<|Bh rfl rfl<|Aa ?_
 obtain ⟨H2,A3⟩:=AG d0 .d1
 exact I0 true H2 A3 h
 refine Ap<|Ap<|Ap<|Bh rfl rfl<|Ae rfl<|Ap<|Ap<|Ap<|Bh rfl rfl<|Ae rfl<|Ap<|Ap<|Ap<|Bh rfl rfl<|Ae rfl<|Ap<|Ap<|Ap<|Bh rfl rfl<|Aa ?_
 obtain ⟨I2,B3⟩:=AG d0 .d1
 exact I0 true I2 B3 h
 intro y4 H0 h
 try dsimp only at h
 refine Av<|Ae rfl<|Ae rfl<|Ab (BP (i:=B0.1) (j:=C0.1) rfl rfl)<|Ae rfl<|RG.ifn (s:=100) rfl h (fun X1 h=>?_) (fun X1 h=>?_)
 refine AE (Ai rfl)<|AE (Ai rfl)<|AE (BP (i:=B0.2.1) (j:=C0.2.1) rfl rfl)<|Bv rfl rfl<|Ae rfl<|RG.ifn (s:=105) rfl h (fun Y1 h=>?_) (fun Y1 h=>?_)
 refine AE (Ai rfl)<|AE (Ai rfl)<|AE (BP (i:=B0.2.2) (j:=C0.2.2) rfl rfl)<|Bv rfl rfl<|Ae rfl<|RG.ifn (s:=110) rfl h (fun Z1 h=>?_) (fun Z1 h=>?_)
 refine AE (Ai rfl)<|AE (Ai rfl)<|AE (FV.neqB (a:=Q0.1) (b:=R0.1) Tryz.underlying4 rfl rfl)<|Bv rfl rfl<|Ae rfl<|RG.ifnb (s:=115) rfl h (fun b2 h=>?_) (fun b2 h=>?_)
 refine AE (Ai rfl)<|AE (Ai rfl)<|AE (BP (i:=Q0.2) (j:=R0.2) rfl rfl)<|Bv rfl rfl<|Aa ?_
 obtain ⟨J2,C3⟩:=AG c0 .d1
 exact H0 (!(decide (Q0.2 = R0.2))) J2 C3 h
 refine Ap<|Ap<|Ap<|Bh rfl rfl<|Aa ?_
 obtain ⟨K2,D3⟩:=AG c0 .d1
 exact H0 true K2 D3 h
 refine Ap<|Ap<|Ap<|Bh rfl rfl<|Ae rfl<|Ap<|Ap<|Ap<|Bh rfl rfl<|Aa ?_
 obtain ⟨M2,E3⟩:=AG c0 .d1
 exact H0 true M2 E3 h
 refine Ap<|Ap<|Ap<|Bh rfl rfl<|Ae rfl<|Ap<|Ap<|Ap<|Bh rfl rfl<|Ae rfl<|Ap<|Ap<|Ap<|Bh rfl rfl<|Aa ?_
 obtain ⟨P2,F3⟩:=AG c0 .d1
 exact H0 true P2 F3 h
 refine Ap<|Ap<|Ap<|Bh rfl rfl<|Ae rfl<|Ap<|Ap<|Ap<|Bh rfl rfl<|Ae rfl<|Ap<|Ap<|Ap<|Bh rfl rfl<|Ae rfl<|Ap<|Ap<|Ap<|Bh rfl rfl<|Aa ?_
 obtain ⟨Q2,G3⟩:=AG c0 .d1
 exact H0 true Q2 G3 h
 refine Bd rfl ?_
 have h:=thn_inr h Y0
 try dsimp only at h
 refine Ac<|Af rfl<|Aa<|Al rfl<|AW hb0 Tryz.func3 rfl rfl ?_
 cases h
 exact y1.gv
 refine Ac<|Af rfl<|Aa<|Al rfl<|AW hb0 Tryz.func3 rfl rfl ?_
 cases h
 exact k0.gv
end Go.Proofs.YtgejkdheojkfiaaGreatDoor
