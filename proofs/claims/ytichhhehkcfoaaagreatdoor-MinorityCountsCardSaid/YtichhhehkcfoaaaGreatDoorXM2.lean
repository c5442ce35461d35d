/- Functions of the program, and what they give: part 2. -/
import Derived.Test.YtichhhehkcfoaaaGreatDoorXM1
namespace Go.Proofs.YtichhhehkcfoaaaGreatDoor
open Go Go.RowKit
set_option maxRecDepth 4000
set_option maxHeartbeats 4000000

structure Tpart where
  fF:Int
  fall:Int
  deriving DecidableEq
instance:Rep Tpart:=Rep.via (β:=Int × Int) fun x=>(x.fF,x.fall)
def tb34_12:List (Nat × Nat × Nat):=[(0,9007199254740992,1024),(0,18014398509481984,16384),(3,36028797018963968,27021597764222976),(4,72057594037927936,36028797018963968),(8,144115188075855872,72057594037927936),(0,288230376151711744,16),(32,576460752303423488,288230376151711744),(0,1152921504606846976,8192),(192,2305843009213693952,1729382256910270464),(256,4611686018427387904,2305843009213693952),(512,9223372036854775808,4611686018427387904),(0,18446744073709551616,8),(3072,36893488147419103232,27670116110564327424),(4096,73786976294838206464,36893488147419103232),(8208,147573952589676412928,73931091482914062336),(32767,295147905179352825856,27021597764222976),(65535,590295810358705651712,295147905179352825856),(98303,0,737869762948382064640)]
theorem op_Tpart {w:World} {L:List Nat} {cs:List Value} {x:Tpart} (h:Rep.R w L cs x):cs = [vI x.fF,vI x.fall]:=by
  obtain ⟨c0,r0,rfl,h0,h⟩:=h
  have e0:c0 = [vI x.fF]:=h0; subst e0
  have e1:r0 = [vI x.fall]:=h; subst e1
  rfl
theorem mk_Tpart {w:World} {L:List Nat} (a0:Int) (a1:Int):Rep.R w L [vI a0,vI a1] (⟨a0,a1⟩:Tpart):=⟨[vI a0],[vI a1],rfl,rfl,rfl⟩
theorem el85:ElT Tryz.prog 85 88 (Rep.size Tpart) 16 (.agg #[vI 0,vI 0]) [vI 0,vI 0]:=⟨Tryz.underlying85,by kernel_rfl,rfl,rfl,rfl,rfl⟩
theorem body9:bodyB Tryz.prog 9 = true:=by kernel_rfl
theorem body48:bodyB Tryz.prog 48 = true:=by kernel_rfl
theorem body59:bodyB Tryz.prog 59 = true:=by kernel_rfl
theorem body77:bodyB Tryz.prog 77 = true:=by kernel_rfl
def minority_grouped_l1 (_n:Nat) (a1:List Int) (a0:TRoll) (a3:Int) (j0:Nat × (List Tpart) → Option (List Tpart)):Nat × (List Tpart) → Option (List Tpart)
  | (b0,c0)=>(if b0 < a1.length then (a1[b0]?).bind fun d0=>(idx c0 d0).bind fun g0=>(a0.fu[b0]?).bind fun p0=>(idx p0.fj a3).bind fun q0=>(chk (g0.fF + q0)).bind fun k0=>(put c0 ((d0.toNat:Nat):Int) (⟨k0,g0.fall⟩:Tpart)).bind fun s0=>j0 (b0 + 1,s0) else some c0)
def minority_grouped_l2 (_n:Nat) (d0:List Int) (g0:Nat × (List Tpart) → Option (List Tpart)):Nat × (List Tpart) → Option (List Tpart)
  | (b0,c0)=>(if b0 < d0.length then (d0[b0]?).bind fun j0=>(c0[b0]?).bind fun k0=>(put c0 ((b0:Nat):Int) (⟨k0.fF,j0⟩:Tpart)).bind fun p0=>g0 (b0 + 1,p0) else some c0)
def minority_grouped_p (n:Nat) (a0:TRoll) (a1:List Int) (a2:Int) (a3:Int):Option (Except Tbroken (List Tpart)):=
  (balance_Totals_p n a0 a1 a2).bind fun b0=>(minority_must_list_int_p n b0.1 b0.2).bind fun k0=>exc k0 (fun p0=>(if a3 < 0 then some (.error (⟨(2:Int)⟩:Tbroken)) else (if a0.fj ≤ a3 then some (.error (⟨(2:Int)⟩:Tbroken)) else (mk a2 (⟨(0:Int),(0:Int)⟩:Tpart)).bind fun j0=>Option.bind (loopF (minority_grouped_l2 n p0) n (0,j0)) (fun d0=>Option.bind (loopF (minority_grouped_l1 n a1 a0 a3) n (0,d0)) (fun g0=>some (.ok g0)))))) (fun c0=>some (.error c0))
theorem minority_grouped_c (n:Nat) (L:List Nat) (w:World) (hL:∀ b ∈ L,b < w.heap.size) (a0:TRoll) {v0_3:Value} (h0_3:Rep.R w L [v0_3] a0.fu) (a1:List Int) {v1_0:Value} (h1_0:Rep.R w L [v1_0] a1) (a2:Int) (a3:Int)  {r:Except Tbroken (List Tpart)} (h:minority_grouped_p n a0 a1 a2 a3 = some r) :
    Calls Tryz.prog 34 #[.agg #[vI a0.fj,vI a0.fh,vI a0.fl,v0_3],v1_0,vI a2,vI a3] w (PGives w (fun (y:List Tpart) w' u=>∃ v0_0:Value,u = v0_0∧Rep.R w' L [v0_0] y) (fun e=>.iface 128 (.agg #[vI e.fB])) r):=by
 unfold minority_grouped_p at h
 have hS0:=Ay w
 refine BE Tryz.func34 rfl rfl rfl (fun _ cs0 hb0 hp0=>?_)
 refine Ac<|Ai .plain rfl (Av hS0 rfl rfl) (fun k5 j0 x0 B4=>?_)
 refine Af rfl<|Aa<|Ac<|Ab (AA rfl (x0.memA .hd))<|Ae rfl<|Ae rfl ?_
 obtain ⟨J0,F3,h⟩:=bi h
 refine Bf (fst:=[]) (cap:=[]) .plain body9 rfl (e3 rfl rfl rfl) (fun w9 hw9=>balance_Totals_c n _ w9 (x0.hL hL hw9) a0 (x0.km h0_3 hw9) a1 (x0.km h1_0 hw9) a2 F3) rfl (fun p5 j5 X1 ⟨Z4,hu_,j1⟩=>?_)
 subst hu_
 obtain ⟨A0,C4⟩:=x0.agr X1
 refine Ab (Ah rfl rfl)<|Ab (Ah rfl rfl) ?_
 obtain ⟨K3,u1,h⟩:=bi h
 rcases K3 with A4 | K0
 have h:=exc_e h
 try dsimp only at h
 refine Bt (fst:=[]) (cap:=[]) .plain body77 rfl (e2 rfl rfl) (fun w9 hw9=>minority_must_list_int_c n _ w9 (A0.hL hL hw9) J0.1 (Ap j1 hw9) J0.2 u1) (fun s5 Y1=>?_)
 obtain ⟨Q1,D4⟩:=A0.agr Y1
 cases h
 exact AP hp0 Tryz.func34 ⟨Q1.ag,rfl⟩
 have h:=exc_o h
 try dsimp only at h
 refine Bf (fst:=[]) (cap:=[]) .plain body77 rfl (e2 rfl rfl) (fun w9 hw9=>AK (minority_must_list_int_c n _ w9 (A0.hL hL hw9) J0.1 (Ap j1 hw9) J0.2 u1)) rfl (fun t5 G3 Z1 ⟨b5,hu_,k1⟩=>?_)
 subst hu_
 obtain ⟨B0,E4⟩:=A0.agr Z1
 refine Af rfl<|Aa<|Ac<|Ae rfl<|Ab (FV.lss (i:=a3) (j:=0) rfl rfl)<|Ae rfl<|RG.ifd (s:=24) rfl h (fun D1 h=>?_) (fun D1 h=>?_)
 refine AI<|AI<|AI<|AI<|BI rfl rfl<|Bj (fst:=[]) (cap:=[]) (vs:=[.bool true,vI 2]) .plain body59 Tryz.func59 rfl rfl rfl rfl (e2 rfl rfl) rfl (fun u4 G4 W2=>?_)
 refine Ac<|Ae rfl<|Aa<|Bh rfl<|Ao<|Ae rfl<|Bj (fst:=[]) (cap:=[]) (vs:=[vI 2]) .plain body48 Tryz.func48 rfl rfl rfl rfl (e1 rfl) rfl (fun x4 H4 X2=>?_)
 refine Ac<|Ae rfl<|Ab (FV.neqN (i:=2) (j:=0) rfl rfl)<|Aa<|Bh rfl<|Ao<|Ae rfl<|Ab (AM (vs:=[vI 2]) (u:=.agg #[vI 2]) (e1 rfl) (fun w9=>by kernel_rfl))<|Ab (Bv (by kernel_rfl) rfl)<|RG.panic .plain rfl<|AP X2 Tryz.func48<|AP W2 Tryz.func59 ?_
 cases h
 exact AP hp0 Tryz.func34 ⟨B0.ag,rfl⟩
 refine AS (Ak rfl)<|RG.fg 0 rfl<|AS (AL rfl ((B0.memA .hd) 0 _ rfl))<|AS (FV.geq (i:=a3) (j:=a0.fj) rfl rfl)<|RG.pf rfl rfl<|Bj (fst:=[]) (cap:=[]) (vs:=[.bool (decide (a0.fj ≤ a3)),vI 2]) .plain body59 Tryz.func59 rfl rfl rfl rfl (e2 rfl rfl) rfl (fun y4 b2 Y2=>?_)
 refine Ac<|Ae rfl<|Aa<|AV rfl h (fun E1 h=>?_) (fun E1 h=>?_)
 refine Ao<|Ae rfl<|Bj (fst:=[]) (cap:=[]) (vs:=[vI 2]) .plain body48 Tryz.func48 rfl rfl rfl rfl (e1 rfl) rfl (fun z4 I4 Z2=>?_)
 refine Ac<|Ae rfl<|Ab (FV.neqN (i:=2) (j:=0) rfl rfl)<|Aa<|Bh rfl<|Ao<|Ae rfl<|Ab (AM (vs:=[vI 2]) (u:=.agg #[vI 2]) (e1 rfl) (fun w9=>by kernel_rfl))<|Ab (Bv (by kernel_rfl) rfl)<|RG.panic .plain rfl<|AP Z2 Tryz.func48<|AP Y2 Tryz.func59 ?_
 cases h
 exact AP hp0 Tryz.func34 ⟨B0.ag,rfl⟩
 refine Au<|MX.fin rfl<|Am (u:=.tuple #[]) b2 Tryz.func59 rfl .nil rfl<|Aa<|Ac<|Ae rfl ?_
 obtain ⟨U0,s1,h⟩:=bi h
 refine Ai .plain rfl (Does.mk (α:=Tpart) s1 B0 el85 rfl) (fun H3 d0 V0 X0=>?_)
 have g2:=AH (cs:=(List.replicate a2.toNat [vI 0,vI 0]).flatten) (xs:=U0) V0 L (Cells.mk s1 (mk_Tpart (0:Int) (0:Int)))
 refine Af rfl<|Aa<|Aj<|Ac<|Ae rfl ?_
 have g1:=Aq k1 X0
 have P4:K0.length ≤ 281474976710656:=AU g1
 refine Ab (Bd (xs:=K0) Tryz.underlying32 rfl g1)<|Ae rfl<|Aa<|Az ?_
 obtain ⟨X4,U2,A2⟩:=bind_in2 h
 refine Bm (α:=Nat × (List Tpart) × (List Value)) (fun ⟨g0,q0,s0⟩=>[(1,v1_0),(3,vI a3),(4,vP j0),(10,(.slice (some ⟨d0,0,none⟩) a2.toNat a2.toNat)),(33,G3),(34,vI ((K0.length:Nat):Int)),(35,vI ((g0:Nat):Int))]) (fun ⟨g0,q0,s0⟩ y0=>St w y0 [.row w.heap.size 88 (Rep.size Tpart) (.slice (some ⟨d0,0,none⟩) a2.toNat a2.toNat) q0.length s0,.cells j0 [vI a0.fj,vI a0.fh,vI a0.fl,v0_3] 38]∧Tr H3 [.row w.heap.size 88 (Rep.size Tpart) (.slice (some ⟨d0,0,none⟩) a2.toNat a2.toNat) U0.length ((List.replicate a2.toNat [vI 0,vI 0]).flatten),.cells j0 [vI a0.fj,vI a0.fh,vI a0.fl,v0_3] 38] y0 [.row w.heap.size 88 (Rep.size Tpart) (.slice (some ⟨d0,0,none⟩) a2.toNat a2.toNat) q0.length s0,.cells j0 [vI a0.fj,vI a0.fh,vI a0.fl,v0_3] 38]∧Cells y0 (bl [.row w.heap.size 88 (Rep.size Tpart) (.slice (some ⟨d0,0,none⟩) a2.toNat a2.toNat) q0.length s0,.cells j0 [vI a0.fj,vI a0.fh,vI a0.fl,v0_3] 38] ++ L) s0 q0) (fun ⟨g0,q0,s0⟩=>(g0,q0)) (0,U0,(List.replicate a2.toNat [vI 0,vI 0]).flatten) U2 ⟨rfl,rfl,rfl,rfl,rfl,rfl,rfl,trivial⟩ ⟨V0,AQ _ _,g2⟩ ?_
 rintro U3 ⟨g0,q0,s0⟩ y0 K1 ⟨v0,W0,C0⟩ h
 unfold minority_grouped_l2 at h
 try dsimp only at h
 refine Ac<|Ab (Br (i:=g0) (j:=K0.length) rfl rfl)<|Aa<|Aj<|AV rfl h (fun B1 h=>?_) (fun B1 h=>?_)
 refine Au<|Aj<|Az<|Ac<|Ae rfl ?_
 obtain ⟨G0,x3,h⟩:=bi h
 have I2:=Aq k1 (Tt X0 W0)
 obtain ⟨M3,W3,p2,D2,F1,b3,H2⟩:=Bk I2 x3
 have q2:F1 = [vI G0]:=b3; subst q2
 refine Ab (Bp 1 g0 rfl p2 rfl rfl D2)<|AY rfl (H2 0 _ rfl)<|Af rfl<|Af rfl<|Aa<|Ao<|Ae rfl<|Ae rfl<|Ae rfl ?_
 obtain ⟨H0,p1,h⟩:=bi h
 obtain ⟨x1,X3,P0,c1,p4,c3,Q4⟩:=St.nth (α:=Tpart) v0 .hd C0 p1
 obtain ⟨z1,Y3,Y0⟩:=St.nthOwn (α:=Tpart) v0 .hd c1
 obtain rfl:x1 = ⟨z1,0,none⟩:=by rw [Y0] at P0; cases P0; rfl
 obtain rfl:=op_Tpart c3
 refine Ab (Bp 2 g0 rfl P0 rfl rfl c1)<|AZ 1 rfl ?_
 obtain ⟨Z3,s2,J4,q4,d3,R4,j2⟩:=St.nthAt (α:=Tpart) v0 .hd C0 p1 Y0
 obtain rfl:=op_Tpart d3
 obtain ⟨I3,D3,h⟩:=bi h
 refine RG.acts' .plain (Acts.setPart (α:=Tpart) (i:=g0) (tot:=1) (ds:=[vI H0.fF,vI H0.fall]) (news:=[vI G0]) (full:=[vI H0.fF,vI G0]) D3 v0 s2 (fun _=>.hd) C0 j2 rfl (by kernel_rfl) rfl rfl rfl rfl (mk_Tpart H0.fF G0) (by kernel_rfl) (o1 rfl)) (fun q5 ⟨G1,P1,U1,c2⟩=>?_)
 refine Aa<|AB<|Ao<|Ab (Bl (i:=g0) (j:=1) rfl rfl (by omega))<|Ae rfl<|Aa ?_
 exact K1 (g0 + 1,I3,G1) _ _ ⟨rfl,rfl,rfl,rfl,rfl,rfl,rfl,trivial⟩ ⟨P1,(Tt W0 U1),c2⟩ h
 refine Be rfl ?_
 have h:=A2 _ h
 try dsimp only at h
 refine Aj<|Ac<|Ae rfl ?_
 have d1:=AO h1_0 v0
 have M4:a1.length ≤ 281474976710656:=AU d1
 refine Ab (Bd (xs:=a1) Tryz.underlying33 rfl d1)<|Ae rfl<|Aa<|Az ?_
 obtain ⟨Y4,V2,B2⟩:=bind_in2 h
 refine Bm (α:=Nat × (List Tpart) × (List Value)) (fun ⟨p0,t0,u0⟩=>[(3,vI a3),(4,vP j0),(10,(.slice (some ⟨d0,0,none⟩) a2.toNat a2.toNat)),(46,v1_0),(47,vI ((a1.length:Nat):Int)),(48,vI ((p0:Nat):Int))]) (fun ⟨p0,t0,u0⟩ F0=>St w F0 [.row w.heap.size 88 (Rep.size Tpart) (.slice (some ⟨d0,0,none⟩) a2.toNat a2.toNat) t0.length u0,.cells j0 [vI a0.fj,vI a0.fh,vI a0.fl,v0_3] 38]∧Tr y0 [.row w.heap.size 88 (Rep.size Tpart) (.slice (some ⟨d0,0,none⟩) a2.toNat a2.toNat) q0.length s0,.cells j0 [vI a0.fj,vI a0.fh,vI a0.fl,v0_3] 38] F0 [.row w.heap.size 88 (Rep.size Tpart) (.slice (some ⟨d0,0,none⟩) a2.toNat a2.toNat) t0.length u0,.cells j0 [vI a0.fj,vI a0.fh,vI a0.fl,v0_3] 38]∧Cells F0 (bl [.row w.heap.size 88 (Rep.size Tpart) (.slice (some ⟨d0,0,none⟩) a2.toNat a2.toNat) t0.length u0,.cells j0 [vI a0.fj,vI a0.fh,vI a0.fl,v0_3] 38] ++ L) u0 t0) (fun ⟨p0,t0,u0⟩=>(p0,t0)) (0,q0,s0) V2 ⟨rfl,rfl,rfl,rfl,rfl,rfl,trivial⟩ ⟨v0,AQ _ _,C0⟩ ?_
 rintro V3 ⟨p0,t0,u0⟩ F0 M1 ⟨k0,V1,D0⟩ h
 unfold minority_grouped_l1 at h
 try dsimp only at h
 refine Ac<|Ab (Br (i:=p0) (j:=a1.length) rfl rfl)<|Aa<|Aj<|AV rfl h (fun C1 h=>?_) (fun C1 h=>?_)
 refine Au<|Aj<|Az<|Ac<|Ae rfl ?_
 obtain ⟨I0,y3,h⟩:=bi h
 have K2:=AO h1_0 k0
 obtain ⟨P3,b4,t2,E2,H1,g3,J2⟩:=Bk K2 y3
 have u2:H1 = [vI I0]:=g3; subst u2
 refine Ab (Bp 1 p0 rfl t2 rfl rfl E2)<|AY rfl (J2 0 _ rfl)<|Af rfl<|Af rfl<|Aa<|dt 17 tb34_12 (fun b0 c0=>?_)
 refine Ag 0 1 b0 rfl c0 (fun _=>Ak rfl) rfl<|Ag 1 3 b0 rfl c0 (fun _=>Ak rfl) rfl ?_
 obtain ⟨z0,z3,h⟩:=bi h
 obtain ⟨b1,q1⟩:=idx_in z3
 obtain ⟨y1,c4,E0,Q0,s4,j3,M2⟩:=St.nth (α:=Tpart) k0 .hd D0 q1
 obtain ⟨A1,d4,Z0⟩:=St.nthOwn (α:=Tpart) k0 .hd Q0
 obtain rfl:y1 = ⟨A1,0,none⟩:=by rw [Z0] at E0; cases E0; rfl
 obtain rfl:=op_Tpart j3
 refine Ag 2 7 b0 rfl c0 (fun _=>Bp 2 (I0.toNat) rfl E0 rfl b1 Q0) rfl<|Ag 3 15 b0 rfl c0 (fun _=>AX 0 rfl) rfl<|AC 4 31 245760 b0 rfl c0 (AL rfl (M2 0 _ rfl)) rfl<|Ag 5 63 b0 rfl c0 (fun _=>AX 3 rfl) rfl<|AC 6 127 259840 b0 rfl c0 (AL rfl ((k0.memA (.tl .hd)) 3 _ rfl)) rfl<|Ag 7 255 b0 rfl c0 (fun _=>Ak rfl) rfl ?_
 obtain ⟨v5,A3,h⟩:=bi h
 have Q2:=AO h0_3 k0
 obtain ⟨Q3,g4,v2,F2,t4,k3,P2⟩:=Bk Q2 A3
 obtain ⟨c5,d5,g5,rfl,p3,V4,W4⟩:=op_TUnit k3
 refine Ag 8 511 b0 rfl c0 (fun _=>Bp 6 p0 rfl v2 rfl rfl F2) rfl<|Ag 9 1023 b0 rfl c0 (fun _=>AX 2 rfl) rfl<|AC 10 2047 258048 b0 rfl c0 (AL rfl (P2 2 _ rfl)) rfl<|Ag 11 4095 b0 rfl c0 (fun _=>Ak rfl) rfl ?_
 obtain ⟨v1,B3,h⟩:=bi h
 obtain ⟨C2,C3⟩:=idx_in B3
 obtain ⟨R3,j4,x2,G2,I1,q3,R2⟩:=Bk p3 C3
 have y2:I1 = [vI v1]:=q3; subst y2
 refine Ag 12 8191 b0 rfl c0 (fun _=>Bp 1 (a3.toNat) rfl x2 rfl C2 G2) rfl<|AC 13 16383 245760 b0 rfl c0 (AL rfl (R2 0 _ rfl)) rfl ?_
 obtain ⟨R0,v3,h⟩:=bi h
 refine Ag 14 32767 b0 rfl c0 (fun _=>BD (i:=z0.fF) (j:=v1) rfl rfl v3) rfl<|Ag 15 65535 b0 rfl c0 (fun _=>Bp 2 (I0.toNat) rfl E0 rfl b1 Q0) rfl<|Ag 16 131071 b0 rfl c0 (fun _=>AX 0 rfl) rfl ?_
 obtain ⟨k4,z2,K4,v4,s3,U4,k2⟩:=St.nthAt (α:=Tpart) k0 .hd D0 q1 Z0
 obtain rfl:=op_Tpart s3
 obtain ⟨J3,E3,h⟩:=bi h
 refine BC (i:=17) (rk b0) (RO.acts (m' :=262143) (sk b0) rfl rfl .plain (Acts.setPart (α:=Tpart) (i:=I0.toNat) (tot:=0) (ds:=[vI z0.fF,vI z0.fall]) (news:=[vI R0]) (full:=[vI R0,vI z0.fall]) E3 k0 z2 (fun _=>.hd) D0 k2 rfl (by kernel_rfl) rfl rfl rfl rfl (mk_Tpart R0 z0.fall) (by kernel_rfl) (o1 rfl)) (fun u5 ⟨J1,R1,W1,d2⟩=>?_))
 refine AE (dk b0)<|AB<|Ao<|Ab (Bl (i:=p0) (j:=1) rfl rfl (by omega))<|Ae rfl<|Aa ?_
 exact M1 (p0 + 1,J3,J1) _ _ ⟨rfl,rfl,rfl,rfl,rfl,rfl,trivial⟩ ⟨R1,(Tt V1 W1),d2⟩ h
 refine Be rfl ?_
 have h:=B2 _ h
 try dsimp only at h
 refine Ac<|Ae rfl<|Af rfl<|Aa<|Al rfl ?_
 have t3:=Bn (α:=Tpart) k0 .hd D0 hL
 have M0:=Bw k0 .hd
 have F4:=Bx k0 .hd
 have u3:=By (α:=Tpart) (v:=(.slice (some ⟨d0,0,none⟩) a2.toNat a2.toNat)) (xs:=t0) M0 L t3
 refine Bb hb0 Tryz.func34 rfl rfl ?_
 cases h
 exact ⟨M0.ag,fun w9 hw9=>okOf_in ⟨(.slice (some ⟨d0,0,none⟩) a2.toNat a2.toNat),rfl,M0.kd u3 hw9⟩⟩
structure TLong where
  fe:Bool
  fo:List UInt64
  deriving DecidableEq
instance:Rep TLong:=Rep.via (β:=Bool × (List UInt64)) fun x=>(x.fe,x.fo)
def wide_trimmed_l1 (_n:Nat) (a1:List UInt64) (c0:Int → Option Int):Int → Option Int
  | b0=>(if 0 < b0 then (chk (b0 - 1)).bind fun d0=>(idx a1 d0).bind fun j0=>(if j0 = (0:UInt64) then (chk (b0 - 1)).bind fun g0=>c0 g0 else some b0) else some b0)
def wide_trimmed_p (n:Nat) (a0:Bool) (a1:List UInt64):Option TLong:=
  jn (fun b0=>(if a0 = true then (cut a1 0 b0).bind fun d0=>some (⟨(decide (0 < b0)),d0⟩:TLong) else (cut a1 0 b0).bind fun g0=>some (⟨false,g0⟩:TLong))) (fun c0=>Option.bind (loopF (wide_trimmed_l1 n a1) n ((a1.length:Nat):Int)) (c0))
theorem wide_trimmed_c (n:Nat) (L:List Nat) (w:World) (_hL:∀ b ∈ L,b < w.heap.size) (a0:Bool) (a1:List UInt64) {v1_0:Value} (h1_0:Rep.R w L [v1_0] a1)  {r:TLong} (h:wide_trimmed_p n a0 a1 = some r) :
    Calls Tryz.prog 133 #[.bool a0,v1_0] w (Gives w fun w' u=>∃ v0_1:Value,u = .agg #[.bool r.fe,v0_1]∧Rep.R w' L [v0_1] r.fo):=by
 unfold wide_trimmed_p at h
 have hS0:=Ay w
 refine AD Tryz.func133 rfl rfl rfl (fun _ cs0 hb0=>?_)
 refine Ac<|Ai .plain rfl (Ar [.bool false,vN] hS0) (fun D0 d0 A0 H1=>?_)
 refine Aa<|Ac<|Ae rfl ?_
 have C0:=AO h1_0 A0
 have I1:a1.length ≤ 281474976710656:=AU C0
 refine Ab (Bd (xs:=a1) Tryz.underlying142 rfl C0)<|Af rfl<|Aa<|Aj<|Az<|MX.joinx (α:=Int) (fun b0=>[(0,.bool a0),(1,v1_0),(4,vP d0),(5,vI b0)]) (fun b0 x0=>St w x0 [.cells d0 [.bool false,vN] 144]∧Tr D0 [.cells d0 [.bool false,vN] 144] x0 [.cells d0 [.bool false,vN] 144]) (fun b0=>b0) (id:=0) rfl h ?_ ?_
 rintro b0 x0 ⟨k0,G1⟩ h
 try dsimp only at h
 refine Ac<|Ae rfl<|Ae rfl<|RG.ifb (s:=21) rfl h (fun F0 h=>?_) (fun F0 h=>?_)
 refine AS (Ak rfl)<|AS (FV.gtr (i:=b0) (j:=0) rfl rfl)<|BI rfl rfl<|Ae rfl<|Ae rfl ?_
 obtain ⟨P1,t1,h⟩:=bi h
 have V0:=AO h1_0 k0
 refine RG.valE .plain rfl (FV.cutL (α:=UInt64) t1 (by kernel_rfl) rfl V0 rfl ⟨_,rfl⟩) (fun g0 u0=>?_)
 obtain ⟨y1,D1,k1,_⟩:=Rep.sl u0
 refine Ab (AM (vs:=[.bool (decide (0 < b0)),g0]) (u:=.agg #[.bool (decide (0 < b0)),g0]) (e2 rfl rfl) (fun w9=>by rw [k1]; try kernel_rfl))<|AJ [.bool (decide (0 < b0)),g0] k0 .hd (o2 rfl (AN u0)) (fun K1 q0 K0=>?_)
 refine Aa<|Al rfl<|Am hb0 Tryz.func133 rfl (.cons (.many (cs:=[.bool (decide (0 < b0)),g0]) (by kernel_rfl) rfl (q0.memA .hd)) .nil) rfl ?_
 cases h
 have W0:=Aq u0 K0
 exact ⟨q0.ag,fun w9 hw9=>⟨g0,rfl,q0.kd W0 hw9⟩⟩
 refine AI<|AI<|RG.pf rfl rfl<|Ae rfl<|Ae rfl ?_
 obtain ⟨Q1,u1,h⟩:=bi h
 have X0:=AO h1_0 k0
 refine RG.valE .plain rfl (FV.cutL (α:=UInt64) u1 (by kernel_rfl) rfl X0 rfl ⟨_,rfl⟩) (fun j0 v0=>?_)
 obtain ⟨z1,E1,p1,_⟩:=Rep.sl v0
 refine Ab (AM (vs:=[.bool false,j0]) (u:=.agg #[.bool false,j0]) (e2 rfl rfl) (fun w9=>by rw [p1]; try kernel_rfl))<|AJ [.bool false,j0] k0 .hd (o2 rfl (AN v0)) (fun M1 s0 M0=>?_)
 refine Aa<|Al rfl<|Am hb0 Tryz.func133 rfl (.cons (.many (cs:=[.bool false,j0]) (by kernel_rfl) rfl (s0.memA .hd)) .nil) rfl ?_
 cases h
 have Y0:=Aq v0 M0
 exact ⟨s0.ag,fun w9 hw9=>⟨j0,rfl,s0.kd Y0 hw9⟩⟩
 intro B1 z0 h
 try dsimp only at h
 obtain ⟨J1,c1,B0⟩:=bind_in2 h
 refine Bm (α:=Int) (fun c0=>[(0,.bool a0),(1,v1_0),(4,vP d0),(5,vI c0)]) (fun c0 y0=>St w y0 [.cells d0 [.bool false,vN] 144]∧Tr D0 [.cells d0 [.bool false,vN] 144] y0 [.cells d0 [.bool false,vN] 144]) (fun c0=>c0) ((a1.length:Nat):Int) c1 ⟨rfl,rfl,rfl,rfl,trivial⟩ ⟨A0,AQ _ _⟩ ?_
 rintro C1 c0 y0 J0 ⟨p0,t0⟩ h
 unfold wide_trimmed_l1 at h
 try dsimp only at h
 refine Aj<|Ac<|Ae rfl<|Ab (FV.gtr (i:=c0) (j:=0) rfl rfl)<|Ae rfl<|RG.ifd (s:=10) rfl h (fun G0 h=>?_) (fun G0 h=>?_)
 refine AS (Ak rfl)<|AS (Ak rfl) ?_
 obtain ⟨v1,g1,h⟩:=bi h
 refine AS (FV.subc (i:=c0) (j:=1) rfl rfl g1) ?_
 obtain ⟨E0,q1,h⟩:=bi h
 obtain ⟨R0,s1⟩:=idx_in q1
 have b1:=AO h1_0 p0
 obtain ⟨A1,F1,P0,U0,I0,d1,Z0⟩:=Bk b1 s1
 have Q0:I0 = [vU E0]:=d1; subst Q0
 refine AS (Bp 1 (v1.toNat) rfl P0 rfl R0 U0)<|AS (AL rfl (Z0 0 _ rfl))<|AS (FV.eqlU (a:=E0) (b:=(0:UInt64)) rfl rfl)<|BI rfl rfl<|Aa<|AV rfl h (fun H0 h=>?_) (fun H0 h=>?_)
 refine Au<|Az<|Ao<|Ae rfl ?_
 obtain ⟨x1,j1,h⟩:=bi h
 refine Ab (FV.subc (i:=c0) (j:=1) rfl rfl j1)<|Af rfl<|Aa<|AB ?_
 exact J0 x1 _ _ ⟨rfl,rfl,rfl,rfl,trivial⟩ ⟨p0,t0⟩ h
 refine Be rfl ?_
 have h:=B0 _ h
 try dsimp only at h
 exact z0 c0 _ _ ⟨rfl,rfl,rfl,rfl,trivial⟩ ⟨p0,t0⟩ h
 refine AI<|AI<|AI<|AI<|AI<|AI<|RG.pf rfl rfl<|Aa<|BB rfl<|Be rfl ?_
 have h:=B0 _ h
 try dsimp only at h
 exact z0 c0 _ _ ⟨rfl,rfl,rfl,rfl,trivial⟩ ⟨p0,t0⟩ h
def tb139_6:List (Nat × Nat × Nat):=[(0,16777216,1),(0,33554432,32),(3,67108864,50331648),(4,134217728,67108864),(0,268435456,2),(0,536870912,32),(48,1073741824,805306368),(64,2147483648,1073741824),(136,4294967296,2281701376),(256,8388608,4294967296)]
def tb139_8:List (Nat × Nat × Nat):=[(0,17179869184,1),(0,34359738368,32),(3,68719476736,51539607552),(4,137438953472,68719476736),(0,274877906944,2),(0,549755813888,32),(48,1099511627776,824633720832),(64,2199023255552,1099511627776),(136,4398046511104,2336462209024),(256,8589934592,4398046511104)]
def wide_compared_l1 (_n:Nat) (a0:List UInt64) (a1:List UInt64) (g0:Int → Option (Int ⊕ Unit)):Int → Option (Int ⊕ Unit)
  | b0=>(if 0 ≤ b0 then (idx a0 b0).bind fun c0=>(idx a1 b0).bind fun d0=>(if c0 < d0 then some (.inl (-1:Int)) else (if d0 < c0 then some (.inl (1:Int)) else (chk (b0 - 1)).bind fun j0=>g0 j0)) else some (.inr ()))
def wide_compared_p (n:Nat) (a0:List UInt64) (a1:List UInt64):Option Int:=
  (if a0.length = a1.length then thn (loopF (wide_compared_l1 n a0 a1) n (((a0.length:Nat):Int) - 1)) (fun _=>some (0:Int)) else some (((a0.length:Nat):Int) - ((a1.length:Nat):Int)))
theorem wide_compared_c (n:Nat) (L:List Nat) (w:World) (_hL:∀ b ∈ L,b < w.heap.size) (a0:List UInt64) {v0_0:Value} (h0_0:Rep.R w L [v0_0] a0) (a1:List UInt64) {v1_0:Value} (h1_0:Rep.R w L [v1_0] a1)  {r:Int} (h:wide_compared_p n a0 a1 = some r) :
    Calls Tryz.prog 139 #[v0_0,v1_0] w (Gives w fun _ u=>u = vI r):=by
 unfold wide_compared_p at h
 have hS0:=Ay w
 refine AD Tryz.func139 rfl rfl rfl (fun _ cs0 hb0=>?_)
 refine Ac<|Af rfl<|Aa<|Aj<|Ac<|Ae rfl ?_
 have hl1:a0.length ≤ 281474976710656:=AU h0_0
 refine Ab (Bd (xs:=a0) Tryz.underlying142 rfl h0_0)<|Ae rfl ?_
 have hl2:a1.length ≤ 281474976710656:=AU h1_0
 refine Ab (Bd (xs:=a1) Tryz.underlying142 rfl h1_0)<|Ab (FV.neqN (i:=a0.length) (j:=a1.length) rfl rfl)<|Aa<|MX.ifn rfl h (fun c3 h=>?_) (fun c3 h=>?_)
 refine Au<|Aj<|Ac<|Ae rfl<|Ab (Bd (xs:=a0) Tryz.underlying142 rfl h0_0)<|Ab (FV.subI (i:=((a0.length:Nat):Int)) (j:=1) rfl rfl (by omega))<|Af rfl<|Aa<|Az ?_
 obtain ⟨q1,R0,p0⟩:=thn_in h
 refine Bm (α:=Int) (fun d0=>[(0,v0_0),(1,v1_0),(5,vI d0)]) (fun d0 q0=>St w q0 []∧Tr w [] q0 []) (fun d0=>d0) (((a0.length:Nat):Int) - 1) R0 ⟨rfl,rfl,rfl,trivial⟩ ⟨hS0,AQ _ _⟩ ?_
 rintro j1 d0 q0 I0 ⟨k0,J0⟩ h
 unfold wide_compared_l1 at h
 try dsimp only at h
 refine Aj<|Ac<|Ae rfl<|Ab (FV.geq (i:=d0) (j:=0) rfl rfl)<|Aa<|AV rfl h (fun D0 h=>?_) (fun D0 h=>?_)
 refine Au<|Aj<|Az<|Az<|Aj<|dt 10 tb139_6 (fun b0 g0=>?_)
 refine Ag 0 1 b0 rfl g0 (fun _=>Ak rfl) rfl<|Ag 1 3 b0 rfl g0 (fun _=>Ak rfl) rfl ?_
 obtain ⟨s0,X0,h⟩:=bi h
 obtain ⟨x0,Y0⟩:=idx_in X0
 have P0:=AO h0_0 k0
 obtain ⟨d1,k1,u0,z0,G0,U0,B0⟩:=Bk P0 Y0
 have K0:G0 = [vU s0]:=U0; subst K0
 refine Ag 2 7 b0 rfl g0 (fun _=>Bp 1 (d0.toNat) rfl u0 rfl x0 z0) rfl<|AC 3 15 768 b0 rfl g0 (AL rfl (B0 0 _ rfl)) rfl<|Ag 4 31 b0 rfl g0 (fun _=>Ak rfl) rfl<|Ag 5 63 b0 rfl g0 (fun _=>Ak rfl) rfl ?_
 obtain ⟨t0,Z0,h⟩:=bi h
 obtain ⟨y0,b1⟩:=idx_in Z0
 have Q0:=AO h1_0 k0
 obtain ⟨g1,p1,v0,A0,H0,V0,C0⟩:=Bk Q0 b1
 have M0:H0 = [vU t0]:=V0; subst M0
 refine Ag 6 127 b0 rfl g0 (fun _=>Bp 1 (d0.toNat) rfl v0 rfl y0 A0) rfl<|AC 7 255 768 b0 rfl g0 (AL rfl (C0 0 _ rfl)) rfl<|Ag 8 511 b0 rfl g0 (fun _=>FV.lssU (a:=s0) (b:=t0) rfl rfl) rfl<|Ag 9 1023 b0 rfl g0 (fun _=>Bi rfl) rfl<|AE (dk b0)<|AV rfl h (fun E0 h=>?_) (fun E0 h=>?_)
 refine Ac<|Af rfl<|Aa ?_
 have h:=thn_inl h p0
 refine Al rfl<|Bb hb0 Tryz.func139 rfl rfl ?_
 cases h
 exact k0.gv
 refine Aj<|dt 10 tb139_8 (fun c0 j0=>?_)
 refine Ag 0 1 c0 rfl j0 (fun _=>Ak rfl) rfl<|Ag 1 3 c0 rfl j0 (fun _=>Ak rfl) rfl<|Ag 2 7 c0 rfl j0 (fun _=>Bp 1 (d0.toNat) rfl u0 rfl x0 z0) rfl<|AC 3 15 768 c0 rfl j0 (AL rfl (B0 0 _ rfl)) rfl<|Ag 4 31 c0 rfl j0 (fun _=>Ak rfl) rfl<|Ag 5 63 c0 rfl j0 (fun _=>Ak rfl) rfl<|Ag 6 127 c0 rfl j0 (fun _=>Bp 1 (d0.toNat) rfl v0 rfl y0 A0) rfl<|AC 7 255 768 c0 rfl j0 (AL rfl (C0 0 _ rfl)) rfl<|Ag 8 511 c0 rfl j0 (fun _=>FV.gtrU (a:=s0) (b:=t0) rfl rfl) rfl<|Ag 9 1023 c0 rfl j0 (fun _=>Bi rfl) rfl<|AE (dk c0)<|AV rfl h (fun F0 h=>?_) (fun F0 h=>?_)
 refine Ac<|Af rfl<|Aa ?_
 have h:=thn_inl h p0
 refine Al rfl<|Bb hb0 Tryz.func139 rfl rfl ?_
 cases h
 exact k0.gv
 refine Au<|AB<|AB<|Ao<|Ae rfl ?_
 obtain ⟨c1,W0,h⟩:=bi h
 refine Ab (FV.subc (i:=d0) (j:=1) rfl rfl W0)<|Af rfl<|Aa ?_
 exact I0 c1 _ _ ⟨rfl,rfl,rfl,trivial⟩ ⟨k0,J0⟩ h
 refine Be rfl ?_
 have h:=thn_inr h p0
 try dsimp only at h
 refine Ac<|Af rfl<|Aa<|Al rfl<|Bb hb0 Tryz.func139 rfl rfl ?_
 cases h
 exact k0.gv
 refine Ac<|Ae rfl<|Ab (Bd (xs:=a0) Tryz.underlying142 rfl h0_0)<|Ae rfl<|Ab (Bd (xs:=a1) Tryz.underlying142 rfl h1_0)<|Ab (FV.subI (i:=((a0.length:Nat):Int)) (j:=((a1.length:Nat):Int)) rfl rfl (by omega))<|Af rfl<|Aa<|Al rfl<|Bb hb0 Tryz.func139 rfl rfl ?_
 cases h
 exact hS0.gv
theorem el142:ElT Tryz.prog 142 49 (Rep.size UInt64) 8 (vW 0) [vW 0]:=⟨Tryz.underlying142,by kernel_rfl,rfl,rfl,rfl,rfl⟩
def wide_taken_l1 (_n:Nat) (a0:List UInt64) (a1:List UInt64) (j0:UInt64 × Nat × (List UInt64) → Option (List UInt64)):UInt64 × Nat × (List UInt64) → Option (List UInt64)
  | (k0,b0,c0)=>(if b0 < a0.length then (a0[b0]?).bind fun q0=>jn (fun p0=>(sub64 q0 p0 k0).bind fun g0=>(c0[b0]?).bind fun u0=>(put c0 ((b0:Nat):Int) g0.1).bind fun t0=>j0 (g0.2,b0 + 1,t0)) (fun d0=>(if b0 < a1.length then (a1[b0]?).bind fun s0=>d0 s0 else d0 (0:UInt64))) else some c0)
def wide_taken_p (n:Nat) (a0:List UInt64) (a1:List UInt64):Option (List UInt64):=
  (mk ((a0.length:Nat):Int) (0:UInt64)).bind fun b0=>Option.bind (loopF (wide_taken_l1 n a0 a1) n ((0:UInt64),0,b0)) (fun c0=>some c0)
theorem wide_taken_c (n:Nat) (L:List Nat) (w:World) (hL:∀ b ∈ L,b < w.heap.size) (a0:List UInt64) {v0_0:Value} (h0_0:Rep.R w L [v0_0] a0) (a1:List UInt64) {v1_0:Value} (h1_0:Rep.R w L [v1_0] a1)  {r:List UInt64} (h:wide_taken_p n a0 a1 = some r) :
    Calls Tryz.prog 140 #[v0_0,v1_0] w (Gives w fun w' u=>∃ v0_0:Value,u = v0_0∧Rep.R w' L [v0_0] r):=by
 unfold wide_taken_p at h
 have hS0:=Ay w
 refine AD Tryz.func140 rfl rfl rfl (fun _ cs0 hb0=>?_)
 refine Ac<|Af rfl<|Aa<|Ac<|Ae rfl ?_
 have hl1:a0.length ≤ 281474976710656:=AU h0_0
 refine Ab (Bd (xs:=a0) Tryz.underlying142 rfl h0_0) ?_
 obtain ⟨A0,H0,h⟩:=bi h
 refine Ai .plain rfl (Does.mk (α:=UInt64) H0 hS0 el142 rfl) (fun M1 d0 s0 d2=>?_)
 have b1:=AH (cs:=(List.replicate ((a0.length:Nat):Int).toNat [vW 0]).flatten) (xs:=A0) s0 L (Cells.mk H0 rfl)
 refine Af rfl<|Aa<|Ac<|Af rfl<|Aa<|Aj<|Ac<|Ae rfl ?_
 have v1:=AO h0_0 s0
 refine Ab (Bd (xs:=a0) Tryz.underlying142 rfl v1)<|Ae rfl<|Aa<|Az ?_
 obtain ⟨p2,A1,q1⟩:=bind_in2 h
 refine Bm (α:=UInt64 × Nat × (List UInt64) × (List Value)) (fun ⟨k0,b0,c0,g0⟩=>[(1,v1_0),(5,(.slice (some ⟨d0,0,none⟩) ((a0.length:Nat):Int).toNat ((a0.length:Nat):Int).toNat)),(6,vU k0),(13,v0_0),(14,vI ((a0.length:Nat):Int)),(15,vI ((b0:Nat):Int))]) (fun ⟨k0,b0,c0,g0⟩ q0=>St w q0 [.row w.heap.size 49 (Rep.size UInt64) (.slice (some ⟨d0,0,none⟩) ((a0.length:Nat):Int).toNat ((a0.length:Nat):Int).toNat) c0.length g0]∧Tr M1 [.row w.heap.size 49 (Rep.size UInt64) (.slice (some ⟨d0,0,none⟩) ((a0.length:Nat):Int).toNat ((a0.length:Nat):Int).toNat) A0.length ((List.replicate ((a0.length:Nat):Int).toNat [vW 0]).flatten)] q0 [.row w.heap.size 49 (Rep.size UInt64) (.slice (some ⟨d0,0,none⟩) ((a0.length:Nat):Int).toNat ((a0.length:Nat):Int).toNat) c0.length g0]∧Cells q0 (bl [.row w.heap.size 49 (Rep.size UInt64) (.slice (some ⟨d0,0,none⟩) ((a0.length:Nat):Int).toNat ((a0.length:Nat):Int).toNat) c0.length g0] ++ L) g0 c0) (fun ⟨k0,b0,c0,g0⟩=>(k0,b0,c0)) ((0:UInt64),0,A0,(List.replicate ((a0.length:Nat):Int).toNat [vW 0]).flatten) A1 ⟨rfl,rfl,rfl,rfl,rfl,rfl,trivial⟩ ⟨s0,AQ _ _,b1⟩ ?_
 rintro W1 ⟨k0,b0,c0,g0⟩ q0 W0 ⟨j0,Y0,D0⟩ h
 unfold wide_taken_l1 at h
 try dsimp only at h
 refine Ac<|Ab (Br (i:=b0) (j:=a0.length) rfl rfl)<|Aa<|Aj<|AV rfl h (fun M0 h=>?_) (fun M0 h=>?_)
 refine Au<|Aj<|Az<|Ac<|Ae rfl ?_
 obtain ⟨z0,G1,h⟩:=bi h
 have y1:=AO h0_0 j0
 obtain ⟨U1,Y1,d1,s1,Q0,B1,x1⟩:=Bk y1 G1
 have g1:Q0 = [vU z0]:=B1; subst g1
 refine Ab (Bp 1 b0 rfl d1 rfl rfl s1)<|AY rfl (x1 0 _ rfl)<|Af rfl<|Af rfl<|Aa<|Ac<|Af rfl<|Aa<|Aj<|Ac<|Ae rfl<|Ae rfl ?_
 have x0:=AO h1_0 j0
 have j2:a1.length ≤ 281474976710656:=AU x0
 refine Ab (Bd (xs:=a1) Tryz.underlying142 rfl x0)<|Ab (Br (i:=b0) (j:=a1.length) rfl rfl)<|Aa<|MX.join (α:=UInt64) (fun p0=>[(1,v1_0),(5,(.slice (some ⟨d0,0,none⟩) ((a0.length:Nat):Int).toNat ((a0.length:Nat):Int).toNat)),(6,vU k0),(13,v0_0),(14,vI ((a0.length:Nat):Int)),(15,vI ((b0:Nat):Int)),(7,vI ((b0:Nat):Int)),(8,vU z0),(9,vU p0)]) (fun p0 y0=>St w y0 [.row w.heap.size 49 (Rep.size UInt64) (.slice (some ⟨d0,0,none⟩) ((a0.length:Nat):Int).toNat ((a0.length:Nat):Int).toNat) c0.length g0]∧Tr q0 [.row w.heap.size 49 (Rep.size UInt64) (.slice (some ⟨d0,0,none⟩) ((a0.length:Nat):Int).toNat ((a0.length:Nat):Int).toNat) c0.length g0] y0 [.row w.heap.size 49 (Rep.size UInt64) (.slice (some ⟨d0,0,none⟩) ((a0.length:Nat):Int).toNat ((a0.length:Nat):Int).toNat) c0.length g0]) (fun p0=>p0) h ?_ ?_
 rintro p0 y0 ⟨t0,C0⟩ h
 try dsimp only at h
 refine Ao<|Ae rfl<|Ae rfl<|Ae rfl<|Ae rfl<|Ae rfl ?_
 obtain ⟨R1,K1,h⟩:=bi h
 refine Ab (FV.sub64 (a:=z0) (b:=p0) (c:=k0) Tryz.func161 rfl (by kernel_rfl) (by kernel_rfl) (by kernel_rfl) rfl rfl rfl K1)<|Ae rfl<|Ab (Ah rfl rfl)<|Ab (Ah rfl rfl) ?_
 obtain ⟨P1,H1,h⟩:=bi h
 have G0:=AR D0 C0
 obtain ⟨J0,Z1,v0,F0,R0,C1,k2⟩:=St.nth (α:=UInt64) t0 .hd G0 H1
 obtain ⟨K0,b2,E0⟩:=St.nthOwn (α:=UInt64) t0 .hd F0
 obtain rfl:J0 = ⟨K0,0,none⟩:=by rw [E0] at v0; cases v0; rfl
 have j1:R0 = [vU P1]:=C1; subst j1
 refine Ab (Bp 1 b0 rfl v0 rfl rfl F0) ?_
 obtain ⟨Q1,J1,h⟩:=bi h
 refine RG.acts' .plain (Acts.set (α:=UInt64) (i:=b0) J1 t0 E0 (fun _=>.hd) G0 rfl rfl rfl rfl rfl (by kernel_rfl)) (fun q2 ⟨U0,X0,Z0,c1⟩=>?_)
 refine Af rfl<|Aa<|AB<|Ao<|Ab (Bl (i:=b0) (j:=1) rfl rfl (by omega))<|Ae rfl<|Aa ?_
 exact W0 (R1.2,b0 + 1,Q1,U0) _ _ ⟨rfl,rfl,rfl,rfl,rfl,rfl,trivial⟩ ⟨X0,(Tt Y0 (Tt C0 Z0)),c1⟩ h
 intro X1 B0 h
 try dsimp only at h
 refine AV rfl h (fun P0 h=>?_) (fun P0 h=>?_)
 refine Ao<|Ae rfl<|Ae rfl ?_
 obtain ⟨I0,I1,h⟩:=bi h
 obtain ⟨V1,c2,k1,u1,V0,D1,z1⟩:=Bk x0 I1
 have p1:V0 = [vU I0]:=D1; subst p1
 refine Ab (Bp 1 b0 rfl k1 rfl rfl u1)<|AY rfl (z1 0 _ rfl)<|Af rfl<|Aa ?_
 exact B0 I0 _ _ ⟨rfl,rfl,rfl,rfl,rfl,rfl,rfl,rfl,rfl,trivial⟩ ⟨j0,AQ _ _⟩ h
 refine Au ?_
 exact B0 (0:UInt64) _ _ ⟨rfl,rfl,rfl,rfl,rfl,rfl,rfl,rfl,rfl,trivial⟩ ⟨j0,AQ _ _⟩ h
 refine Be rfl ?_
 have h:=q1 _ h
 try dsimp only at h
 refine Ac<|Ae rfl<|Af rfl<|Aa<|Al rfl ?_
 have E1:=Bn (α:=UInt64) j0 .hd D0 hL
 have u0:=Bw j0 .hd
 have g2:=Bx j0 .hd
 have F1:=By (α:=UInt64) (v:=(.slice (some ⟨d0,0,none⟩) ((a0.length:Nat):Int).toNat ((a0.length:Nat):Int).toNat)) (xs:=c0) u0 L E1
 refine Bb hb0 Tryz.func140 rfl rfl ?_
 cases h
 exact ⟨u0.ag,fun w9 hw9=>⟨(.slice (some ⟨d0,0,none⟩) ((a0.length:Nat):Int).toNat ((a0.length:Nat):Int).toNat),rfl,u0.kd F1 hw9⟩⟩
def stab0:List UInt8:=[0,1,2,2,3,3,3,3,4,4,4,4,4,4,4,4,5,5,5,5,5,5,5,5,5,5,5,5,5,5,5,5,6,6,6,6,6,6,6,6,6,6,6,6,6,6,6,6,6,6,6,6,6,6,6,6,6,6,6,6,6,6,6,6,7,7,7,7,7,7,7,7,7,7,7,7,7,7,7,7,7,7,7,7,7,7,7,7,7,7,7,7,7,7,7,7,7,7,7,7,7,7,7,7,7,7,7,7,7,7,7,7,7,7,7,7,7,7,7,7,7,7,7,7,7,7,7,7,8,8,8,8,8,8,8,8,8,8,8,8,8,8,8,8,8,8,8,8,8,8,8,8,8,8,8,8,8,8,8,8,8,8,8,8,8,8,8,8,8,8,8,8,8,8,8,8,8,8,8,8,8,8,8,8,8,8,8,8,8,8,8,8,8,8,8,8,8,8,8,8,8,8,8,8,8,8,8,8,8,8,8,8,8,8,8,8,8,8,8,8,8,8,8,8,8,8,8,8,8,8,8,8,8,8,8,8,8,8,8,8,8,8,8,8,8,8,8,8,8,8,8,8,8,8,8,8]
def math_bits_Len64_p (_n:Nat) (a0:UInt64):Option Int:=
  jn (fun (u2,i3)=>jn (fun (b0,g0)=>jn (fun (q0,s0)=>(stab0[(u8of q0).toNat]?).bind fun t0=>(chk (s0 + ((t0.toNat:Nat):Int))).bind fun j0=>some j0) (fun d0=>(if (256:UInt64) ≤ b0 then (chk (g0 + 8)).bind fun k0=>d0 (shrU b0 8,k0) else d0 (b0,g0)))) (fun c0=>(if (65536:UInt64) ≤ u2 then (chk (((i3:Nat):Int) + 16)).bind fun p0=>c0 (shrU u2 16,p0) else c0 (u2,((i3:Nat):Int))))) (fun J7=>(if (4294967296:UInt64) ≤ a0 then J7 (shrU a0 32,32) else J7 (a0,0)))
theorem math_bits_Len64_c (n:Nat) (L:List Nat) (w:World) (_hL:∀ b ∈ L,b < w.heap.size) (a0:UInt64)  {r:Int} (h:math_bits_Len64_p n a0 = some r) :
    Calls Tryz.prog 179 #[vU a0] w (Gives w fun _ u=>u = vI r):=by
 unfold math_bits_Len64_p at h
 have hS0:=Ay w
 refine AD Tryz.func179 rfl rfl rfl (fun _ cs0 hb0=>?_)
 refine Ac<|Af rfl<|Aa<|Aj<|Ac<|Ae rfl<|Ab (FV.geqU (a:=a0) (b:=(4294967296:UInt64)) rfl rfl)<|Aa<|MX.join (α:=UInt64 × Nat) (fun ⟨u2,i3⟩=>[(0,vU u2),(2,vI ((i3:Nat):Int))]) (fun ⟨u2,i3⟩ wx3=>St w wx3 []∧Tr w [] wx3 []) (fun ⟨u2,i3⟩=>(u2,i3)) h ?_ ?_
 rintro ⟨u2,i3⟩ wx3 ⟨hS4,hT5⟩ h
 try dsimp only at h
 refine Aj<|Ac<|Ae rfl<|Ab (FV.geqU (a:=u2) (b:=(65536:UInt64)) rfl rfl)<|Aa<|MX.join (α:=UInt64 × Int) (fun ⟨b0,d0⟩=>[(0,vU b0),(2,vI d0)]) (fun ⟨b0,d0⟩ j0=>St w j0 []∧Tr wx3 [] j0 []) (fun ⟨b0,d0⟩=>(b0,d0)) h ?_ ?_
 rintro ⟨b0,d0⟩ j0 ⟨t0,H0⟩ h
 try dsimp only at h
 refine Aj<|Ac<|Ae rfl<|Ab (FV.geqU (a:=b0) (b:=(256:UInt64)) rfl rfl)<|Aa<|MX.join (α:=UInt64 × Int) (fun ⟨c0,g0⟩=>[(0,vU c0),(2,vI g0)]) (fun ⟨c0,g0⟩ k0=>St w k0 []∧Tr j0 [] k0 []) (fun ⟨c0,g0⟩=>(c0,g0)) h ?_ ?_
 rintro ⟨c0,g0⟩ k0 ⟨y0,I0⟩ h
 try dsimp only at h
 refine Ac<|Ae rfl<|Ae rfl<|Ab (FV.conv8 (a:=c0) Tryz.underlying49 Tryz.underlying5 rfl) ?_
 obtain ⟨p0,C0,h⟩:=bi h
 refine Ab (FV.strIdx (k:=(u8of c0).toNat) (tab:=stab0) Tryz.underlying9 rfl rfl rfl rfl C0) ?_
 have J0:=p0.toNat_lt
 refine Ab (FV.convN (i:=p0.toNat) Tryz.underlying5 Tryz.underlying3 rfl (by omega)) ?_
 obtain ⟨K0,z0,h⟩:=bi h
 refine Ab (BD (i:=g0) (j:=((p0.toNat:Nat):Int)) rfl rfl z0)<|Af rfl<|Aa<|Al rfl<|Bb hb0 Tryz.func179 rfl rfl ?_
 cases h
 exact y0.gv
 intro G0 s0 h
 try dsimp only at h
 refine AV rfl h (fun u0 h=>?_) (fun u0 h=>?_)
 refine Ac<|Ae rfl<|Ab (FV.shrU (a:=b0) (j:=8) rfl rfl)<|Af rfl<|Aa<|Ao<|Ae rfl ?_
 obtain ⟨D0,A0,h⟩:=bi h
 refine Ab (BD (i:=d0) (j:=8) rfl rfl A0)<|Af rfl<|Aa ?_
 exact s0 (shrU b0 8,D0) _ _ ⟨rfl,rfl,trivial⟩ ⟨t0,AQ _ _⟩ h
 refine Au ?_
 exact s0 (b0,d0) _ _ ⟨rfl,rfl,trivial⟩ ⟨t0,AQ _ _⟩ h
 intro F0 q0 h
 try dsimp only at h
 refine AV rfl h (fun v0 h=>?_) (fun v0 h=>?_)
 refine Ac<|Ae rfl<|Ab (FV.shrU (a:=u2) (j:=16) rfl rfl)<|Af rfl<|Aa<|Ao<|Ae rfl ?_
 obtain ⟨E0,B0,h⟩:=bi h
 refine Ab (BD (i:=((i3:Nat):Int)) (j:=16) rfl rfl B0)<|Af rfl<|Aa ?_
 exact q0 (shrU u2 16,E0) _ _ ⟨rfl,rfl,trivial⟩ ⟨hS4,AQ _ _⟩ h
 refine Au ?_
 exact q0 (u2,((i3:Nat):Int)) _ _ ⟨rfl,rfl,trivial⟩ ⟨hS4,AQ _ _⟩ h
 intro J7 hJ8 h
 try dsimp only at h
 refine AV rfl h (fun x0 h=>?_) (fun x0 h=>?_)
 refine Ac<|Ae rfl<|Ab (FV.shrU (a:=a0) (j:=32) rfl rfl)<|Af rfl<|Aa<|Ao<|Af rfl<|Aa ?_
 exact hJ8 (shrU a0 32,32) _ _ ⟨rfl,rfl,trivial⟩ ⟨hS0,AQ _ _⟩ h
 refine Au ?_
 exact hJ8 (a0,0) _ _ ⟨rfl,rfl,trivial⟩ ⟨hS0,AQ _ _⟩ h
theorem body179:bodyB Tryz.prog 179 = true:=by kernel_rfl
def math_bits_LeadingZeros64_p (n:Nat) (a0:UInt64):Option Int:=
  (math_bits_Len64_p n a0).bind fun y1=>(chk (64 - y1)).bind fun s2=>some s2
theorem math_bits_LeadingZeros64_c (n:Nat) (L:List Nat) (w:World) (hL:∀ b ∈ L,b < w.heap.size) (a0:UInt64)  {r:Int} (h:math_bits_LeadingZeros64_p n a0 = some r) :
    Calls Tryz.prog 168 #[vU a0] w (Gives w fun _ u=>u = vI r):=by
 unfold math_bits_LeadingZeros64_p at h
 have hS0:=Ay w
 refine AD Tryz.func168 rfl rfl rfl (fun _ cs0 hb0=>?_)
 refine Ac<|Af rfl<|Aa<|Ac<|Ae rfl ?_
 obtain ⟨y1,hy1,h⟩:=bi h
 refine Bg (vI y1) body179 rfl (e1 rfl) (fun w9 hw9=>math_bits_Len64_c n _ w9 (hS0.hL0 hL hw9) a0 hy1) rfl ?_
 obtain ⟨s2,hs2,h⟩:=bi h
 refine Ab (FV.subc (i:=64) (j:=y1) rfl rfl hs2)<|Af rfl<|Aa<|Al rfl<|Bb hb0 Tryz.func168 rfl rfl ?_
 cases h
 exact hS0.gv
def tb144_6:List (Nat × Nat × Nat):=[(0,268435456,2),(0,536870912,4),(3,1073741824,805306368),(0,2147483648,2),(0,4294967296,4),(24,8589934592,6442450944),(7,64,1073741824),(127,128,8589934592)]
theorem body168:bodyB Tryz.prog 168 = true:=by kernel_rfl
def math_bits_Div64_l1 (_n:Nat) (a2:UInt64) (y8:Int) (a1:UInt64) (d0:UInt64 × UInt64 → Option UInt64):UInt64 × UInt64 → Option UInt64
  | (b0,c0)=>(if (4294967296:UInt64) ≤ b0 then (if (4294967296:UInt64) ≤ (c0 + (shrU (shlU a2 (u64of y8).toNat) 32)) then some (b0 - (1:UInt64)) else d0 (b0 - (1:UInt64),c0 + (shrU (shlU a2 (u64of y8).toNat) 32))) else (if (((4294967296:UInt64) * c0) + ((shlU a1 (u64of y8).toNat) &&& (4294967295:UInt64))) < (b0 * ((shlU a2 (u64of y8).toNat) &&& (4294967295:UInt64))) then (if (4294967296:UInt64) ≤ (c0 + (shrU (shlU a2 (u64of y8).toNat) 32)) then some (b0 - (1:UInt64)) else d0 (b0 - (1:UInt64),c0 + (shrU (shlU a2 (u64of y8).toNat) 32))) else some b0))
def math_bits_Div64_l2 (_n:Nat) (a2:UInt64) (y8:Int) (a1:UInt64) (d0:UInt64 × UInt64 → Option UInt64):UInt64 × UInt64 → Option UInt64
  | (b0,c0)=>(if (4294967296:UInt64) ≤ b0 then (if (4294967296:UInt64) ≤ (c0 + (shrU (shlU a2 (u64of y8).toNat) 32)) then some (b0 - (1:UInt64)) else d0 (b0 - (1:UInt64),c0 + (shrU (shlU a2 (u64of y8).toNat) 32))) else (if (((4294967296:UInt64) * c0) + (shrU (shlU a1 (u64of y8).toNat) 32)) < (b0 * ((shlU a2 (u64of y8).toNat) &&& (4294967295:UInt64))) then (if (4294967296:UInt64) ≤ (c0 + (shrU (shlU a2 (u64of y8).toNat) 32)) then some (b0 - (1:UInt64)) else d0 (b0 - (1:UInt64),c0 + (shrU (shlU a2 (u64of y8).toNat) 32))) else some b0))
def math_bits_Div64_p (n:Nat) (a0:UInt64) (a1:UInt64) (a2:UInt64):Option (UInt64 × UInt64):=
  (if a2 = (0:UInt64) then none else (if a2 ≤ a0 then none else (if a0 = (0:UInt64) then (quoW a1 a2).bind fun s6=>(remW a1 a2).bind fun s7=>some (s6,s7) else (math_bits_LeadingZeros64_p n a2).bind fun y8=>(quoW ((shlU a0 (u64of y8).toNat) ||| (shrU a1 ((64:UInt64) - (u64of y8)).toNat)) (shrU (shlU a2 (u64of y8).toNat) 32)).bind fun s9=>(some (((shlU a0 (u64of y8).toNat) ||| (shrU a1 ((64:UInt64) - (u64of y8)).toNat)) - (s9 * (shrU (shlU a2 (u64of y8).toNat) 32)))).bind fun p0=>jn (fun b0=>(some (((shlU a0 (u64of y8).toNat) ||| (shrU a1 ((64:UInt64) - (u64of y8)).toNat)) * (4294967296:UInt64))).bind fun c0=>(quoW ((c0 + (shrU (shlU a1 (u64of y8).toNat) 32)) - (b0 * (shlU a2 (u64of y8).toNat))) (shrU (shlU a2 (u64of y8).toNat) 32)).bind fun d0=>(some (((c0 + (shrU (shlU a1 (u64of y8).toNat) 32)) - (b0 * (shlU a2 (u64of y8).toNat))) - (d0 * (shrU (shlU a2 (u64of y8).toNat) 32)))).bind fun q0=>jn (fun g0=>(some (((c0 + (shrU (shlU a1 (u64of y8).toNat) 32)) - (b0 * (shlU a2 (u64of y8).toNat))) * (4294967296:UInt64))).bind fun s0=>(some ((s0 + ((shlU a1 (u64of y8).toNat) &&& (4294967295:UInt64))) - (g0 * (shlU a2 (u64of y8).toNat)))).bind fun t0=>some ((b0 * (4294967296:UInt64)) + g0,shrU t0 (u64of y8).toNat)) (fun k0=>Option.bind (loopF (math_bits_Div64_l1 n a2 y8 a1) n (d0,q0)) (k0))) (fun j0=>Option.bind (loopF (math_bits_Div64_l2 n a2 y8 a1) n (s9,p0)) (j0)))))
theorem math_bits_Div64_c (n:Nat) (L:List Nat) (w:World) (hL:∀ b ∈ L,b < w.heap.size) (a0:UInt64) (a1:UInt64) (a2:UInt64)  {r:UInt64 × UInt64} (h:math_bits_Div64_p n a0 a1 a2 = some r) :
    Calls Tryz.prog 144 #[vU a0,vU a1,vU a2] w (Gives w fun _ u=>u = .tuple #[vU r.1,vU r.2]):=by
 unfold math_bits_Div64_p at h
 have hS0:=Ay w
 refine AD Tryz.func144 rfl rfl rfl (fun _ cs0 hb0=>?_)
 refine Ac<|Af rfl<|Af rfl<|Aa<|Aj<|Ac<|Ae rfl<|Ab (FV.eqlU (a:=a2) (b:=(0:UInt64)) rfl rfl)<|Aa<|AV rfl h (fun c1 h=>?_) (fun c1 h=>?_)
 refine Ao ?_
 cases h
 refine Au<|Aj<|Ac<|Ae rfl<|Ae rfl<|Ab (FV.leqU (a:=a2) (b:=a0) rfl rfl)<|Aa<|AV rfl h (fun c2 h=>?_) (fun c2 h=>?_)
 refine Ao ?_
 cases h
 refine Au<|Aj<|Ac<|Ae rfl<|Ab (FV.eqlU (a:=a0) (b:=(0:UInt64)) rfl rfl)<|Aa<|AV rfl h (fun c3 h=>?_) (fun c3 h=>?_)
 refine Aj<|dt 8 tb144_6 (fun kt4 kp5=>?_)
 refine Ag 0 1 kt4 rfl kp5 (fun _=>Ak rfl) rfl<|Ag 1 3 kt4 rfl kp5 (fun _=>Ak rfl) rfl ?_
 obtain ⟨s6,hs6,h⟩:=bi h
 refine Ag 2 7 kt4 rfl kp5 (fun _=>FV.quoV (a:=a1) (b:=a2) rfl rfl hs6) rfl<|Ag 3 15 kt4 rfl kp5 (fun _=>Ak rfl) rfl<|Ag 4 31 kt4 rfl kp5 (fun _=>Ak rfl) rfl ?_
 obtain ⟨s7,hs7,h⟩:=bi h
 refine Ag 5 63 kt4 rfl kp5 (fun _=>FV.remV (a:=a1) (b:=a2) rfl rfl hs7) rfl<|Ag 6 127 kt4 rfl kp5 (fun _=>Bi rfl) rfl<|Ag 7 255 kt4 rfl kp5 (fun _=>Bi rfl) rfl<|AE (dk kt4)<|Al rfl<|Am hb0 Tryz.func144 rfl (.cons (.tmp rfl) (.cons (.tmp rfl) .nil)) rfl ?_
 cases h
 exact hS0.gv
 refine Au<|Ac<|Ae rfl ?_
 obtain ⟨y8,hy8,h⟩:=bi h
 refine Bg (vI y8) body168 rfl (e1 rfl) (fun w9 hw9=>math_bits_LeadingZeros64_c n _ w9 (hS0.hL0 hL hw9) a2 hy8) rfl<|Ab (FV.convU (i:=y8) Tryz.underlying3 Tryz.underlying217 rfl)<|Af rfl<|Aa<|Ac<|Ae rfl<|Ae rfl<|Ab (FV.shlU (a:=a2) (j:=(u64of y8).toNat) rfl rfl)<|Af rfl<|Aa<|Ac<|Ae rfl<|Ab (FV.shrU (a:=shlU a2 (u64of y8).toNat) (j:=32) rfl rfl)<|Af rfl<|Aa<|Ac<|Ae rfl<|Ab (FV.andU (a:=shlU a2 (u64of y8).toNat) (b:=(4294967295:UInt64)) rfl rfl)<|Af rfl<|Aa<|Ac<|Ae rfl<|Ae rfl<|Ab (FV.shlU (a:=a0) (j:=(u64of y8).toNat) rfl rfl) ?_
 refine Ae rfl<|Ae rfl<|Ab (FV.subU (a:=(64:UInt64)) (b:=u64of y8) rfl rfl)<|Ab (FV.shrU (a:=a1) (j:=((64:UInt64) - (u64of y8)).toNat) rfl rfl)<|Ab (FV.orU (a:=shlU a0 (u64of y8).toNat) (b:=shrU a1 ((64:UInt64) - (u64of y8)).toNat) rfl rfl)<|Af rfl<|Aa<|Ac<|Ae rfl<|Ae rfl<|Ab (FV.shlU (a:=a1) (j:=(u64of y8).toNat) rfl rfl)<|Af rfl<|Aa<|Ac<|Ae rfl<|Ab (FV.shrU (a:=shlU a1 (u64of y8).toNat) (j:=32) rfl rfl)<|Af rfl<|Aa<|Ac<|Ae rfl<|Ab (FV.andU (a:=shlU a1 (u64of y8).toNat) (b:=(4294967295:UInt64)) rfl rfl)<|Af rfl<|Aa<|Ac ?_
 refine Ae rfl<|Ae rfl ?_
 obtain ⟨s9,hs9,h⟩:=bi h
 refine Ab (FV.quoV (a:=(shlU a0 (u64of y8).toNat) ||| (shrU a1 ((64:UInt64) - (u64of y8)).toNat)) (b:=shrU (shlU a2 (u64of y8).toNat) 32) rfl rfl hs9)<|Af rfl<|Aa<|Ac<|Ae rfl<|Ae rfl<|Ae rfl<|Ab (FV.mulU (a:=s9) (b:=shrU (shlU a2 (u64of y8).toNat) 32) rfl rfl) ?_
 obtain ⟨p1,b1,h⟩:=bi h
 refine Ab (FV.as (FV.subU (a:=(shlU a0 (u64of y8).toNat) ||| (shrU a1 ((64:UInt64) - (u64of y8)).toNat)) (b:=s9 * (shrU (shlU a2 (u64of y8).toNat) 32)) rfl rfl) (congrArg (fun z:UInt64=>Value.int .u64 (z.toNat:Int)) (Option.some.inj b1)))<|Af rfl<|Aa<|Aj<|Az<|MX.joinx (α:=UInt64) (fun b0=>[(2,vW ((shlU a2 (u64of y8).toNat).toNat:Int)),(8,vW ((u64of y8).toNat:Int)),(9,vW ((shrU (shlU a2 (u64of y8).toNat) 32).toNat:Int)),(10,vW (((shlU a2 (u64of y8).toNat) &&& (4294967295:UInt64)).toNat:Int)),(11,vW (((shlU a0 (u64of y8).toNat) ||| (shrU a1 ((64:UInt64) - (u64of y8)).toNat)).toNat:Int)),(13,vW ((shrU (shlU a1 (u64of y8).toNat) 32).toNat:Int)),(14,vW (((shlU a1 (u64of y8).toNat) &&& (4294967295:UInt64)).toNat:Int)),(15,vU b0)]) (fun b0 v0=>St w v0 []∧Tr w [] v0 []) (fun b0=>b0) (id:=0) rfl h ?_ ?_
 rintro b0 v0 ⟨V0,y1⟩ h
 try dsimp only at h
 refine Ac<|Ae rfl ?_
 obtain ⟨p0,d1,h⟩:=bi h
 refine Ab (FV.as (FV.mulU (a:=(shlU a0 (u64of y8).toNat) ||| (shrU a1 ((64:UInt64) - (u64of y8)).toNat)) (b:=(4294967296:UInt64)) rfl rfl) (congrArg (fun z:UInt64=>Value.int .u64 (z.toNat:Int)) (Option.some.inj d1)))<|Ae rfl<|Ab (FV.addU (a:=p0) (b:=shrU (shlU a1 (u64of y8).toNat) 32) rfl rfl)<|Ae rfl<|Ae rfl<|Ab (FV.mulU (a:=b0) (b:=shlU a2 (u64of y8).toNat) rfl rfl)<|Ab (FV.subU (a:=p0 + (shrU (shlU a1 (u64of y8).toNat) 32)) (b:=b0 * (shlU a2 (u64of y8).toNat)) rfl rfl)<|Af rfl<|Aa<|Ac<|Ae rfl<|Ae rfl ?_
 obtain ⟨B0,Z0,h⟩:=bi h
 refine Ab (FV.quoV (a:=(p0 + (shrU (shlU a1 (u64of y8).toNat) 32)) - (b0 * (shlU a2 (u64of y8).toNat))) (b:=shrU (shlU a2 (u64of y8).toNat) 32) rfl rfl Z0)<|Af rfl<|Aa<|Ac<|Ae rfl<|Ae rfl<|Ae rfl<|Ab (FV.mulU (a:=B0) (b:=shrU (shlU a2 (u64of y8).toNat) 32) rfl rfl) ?_
 obtain ⟨q1,g1,h⟩:=bi h
 refine Ab (FV.as (FV.subU (a:=(p0 + (shrU (shlU a1 (u64of y8).toNat) 32)) - (b0 * (shlU a2 (u64of y8).toNat))) (b:=B0 * (shrU (shlU a2 (u64of y8).toNat) 32)) rfl rfl) (congrArg (fun z:UInt64=>Value.int .u64 (z.toNat:Int)) (Option.some.inj g1)))<|Af rfl<|Aa<|Aj<|Az<|MX.joinx (α:=UInt64) (fun k0=>[(2,vW ((shlU a2 (u64of y8).toNat).toNat:Int)),(8,vW ((u64of y8).toNat:Int)),(14,vW (((shlU a1 (u64of y8).toNat) &&& (4294967295:UInt64)).toNat:Int)),(15,vU b0),(17,vW (((p0 + (shrU (shlU a1 (u64of y8).toNat) 32)) - (b0 * (shlU a2 (u64of y8).toNat))).toNat:Int)),(18,vU k0)]) (fun k0 E0=>St w E0 []∧Tr v0 [] E0 []) (fun k0=>k0) (id:=2) rfl h ?_ ?_
 rintro k0 E0 ⟨W0,z1⟩ h
 try dsimp only at h
 refine Ac<|Ae rfl<|Ab (FV.mulU (a:=b0) (b:=(4294967296:UInt64)) rfl rfl)<|Ae rfl<|Ab (FV.addU (a:=b0 * (4294967296:UInt64)) (b:=k0) rfl rfl)<|Ae rfl ?_
 obtain ⟨H0,j1,h⟩:=bi h
 refine Ab (FV.as (FV.mulU (a:=(p0 + (shrU (shlU a1 (u64of y8).toNat) 32)) - (b0 * (shlU a2 (u64of y8).toNat))) (b:=(4294967296:UInt64)) rfl rfl) (congrArg (fun z:UInt64=>Value.int .u64 (z.toNat:Int)) (Option.some.inj j1)))<|Ae rfl<|Ab (FV.addU (a:=H0) (b:=(shlU a1 (u64of y8).toNat) &&& (4294967295:UInt64)) rfl rfl)<|Ae rfl<|Ae rfl<|Ab (FV.mulU (a:=k0) (b:=shlU a2 (u64of y8).toNat) rfl rfl) ?_
 obtain ⟨s1,k1,h⟩:=bi h
 refine Ab (FV.as (FV.subU (a:=H0 + ((shlU a1 (u64of y8).toNat) &&& (4294967295:UInt64))) (b:=k0 * (shlU a2 (u64of y8).toNat)) rfl rfl) (congrArg (fun z:UInt64=>Value.int .u64 (z.toNat:Int)) (Option.some.inj k1)))<|Ae rfl<|Ab (FV.shrU (a:=s1) (j:=(u64of y8).toNat) rfl rfl)<|Af rfl<|Af rfl<|Aa<|Al rfl<|Am hb0 Tryz.func144 rfl (.cons (.tmp rfl) (.cons (.tmp rfl) .nil)) rfl ?_
 cases h
 exact W0.gv
 intro x1 y0 h
 try dsimp only at h
 obtain ⟨A1,X0,z0⟩:=bind_in2 h
 refine Bm (α:=UInt64 × UInt64) (fun ⟨c0,g0⟩=>[(2,vW ((shlU a2 (u64of y8).toNat).toNat:Int)),(8,vW ((u64of y8).toNat:Int)),(9,vW ((shrU (shlU a2 (u64of y8).toNat) 32).toNat:Int)),(10,vW (((shlU a2 (u64of y8).toNat) &&& (4294967295:UInt64)).toNat:Int)),(14,vW (((shlU a1 (u64of y8).toNat) &&& (4294967295:UInt64)).toNat:Int)),(15,vU b0),(17,vW (((p0 + (shrU (shlU a1 (u64of y8).toNat) 32)) - (b0 * (shlU a2 (u64of y8).toNat))).toNat:Int)),(18,vU c0),(16,vU g0)]) (fun ⟨c0,g0⟩ C0=>St w C0 []∧Tr v0 [] C0 []) (fun ⟨c0,g0⟩=>(c0,g0)) (B0,q1) X0 ⟨rfl,rfl,rfl,rfl,rfl,rfl,rfl,rfl,rfl,trivial⟩ ⟨V0,AQ _ _⟩ ?_
 rintro t1 ⟨c0,g0⟩ C0 F0 ⟨q0,t0⟩ h
 unfold math_bits_Div64_l1 at h
 try dsimp only at h
 refine Aj<|Ac<|Ae rfl<|Ab (FV.geqU (a:=c0) (b:=(4294967296:UInt64)) rfl rfl)<|Ae rfl<|RG.ifd (s:=104) rfl h (fun I0 h=>?_) (fun I0 h=>?_)
 refine AI<|AI<|AI<|AI<|AI<|AI<|AI<|AI<|BI rfl rfl<|Aa<|Bh rfl<|Au<|Az<|Ac<|Ae rfl<|Ab (FV.subU (a:=c0) (b:=(1:UInt64)) rfl rfl)<|Af rfl<|Aa<|Ac<|Ae rfl<|Ae rfl<|Ab (FV.addU (a:=g0) (b:=shrU (shlU a2 (u64of y8).toNat) 32) rfl rfl)<|Af rfl<|Aa ?_
 refine Ac<|Ae rfl<|Ab (FV.geqU (a:=g0 + (shrU (shlU a2 (u64of y8).toNat) 32)) (b:=(4294967296:UInt64)) rfl rfl)<|Aa<|AV rfl h (fun J0 h=>?_) (fun J0 h=>?_)
 refine Be rfl ?_
 have h:=z0 _ h
 try dsimp only at h
 exact y0 (c0 - (1:UInt64)) _ _ ⟨rfl,rfl,rfl,rfl,rfl,rfl,trivial⟩ ⟨q0,t0⟩ h
 refine Au<|AB ?_
 exact F0 (c0 - (1:UInt64),g0 + (shrU (shlU a2 (u64of y8).toNat) 32)) _ _ ⟨rfl,rfl,rfl,rfl,rfl,rfl,rfl,rfl,rfl,trivial⟩ ⟨q0,t0⟩ h
 refine AS (Ak rfl)<|AS (Ak rfl)<|AS (FV.mulU (a:=c0) (b:=(shlU a2 (u64of y8).toNat) &&& (4294967295:UInt64)) rfl rfl)<|AS (Ak rfl)<|AS (FV.mulU (a:=(4294967296:UInt64)) (b:=g0) rfl rfl)<|AS (Ak rfl)<|AS (FV.addU (a:=(4294967296:UInt64) * g0) (b:=(shlU a1 (u64of y8).toNat) &&& (4294967295:UInt64)) rfl rfl)<|AS (FV.gtrU (a:=c0 * ((shlU a2 (u64of y8).toNat) &&& (4294967295:UInt64))) (b:=((4294967296:UInt64) * g0) + ((shlU a1 (u64of y8).toNat) &&& (4294967295:UInt64))) rfl rfl)<|RG.pf rfl rfl<|Aa<|AV rfl h (fun K0 h=>?_) (fun K0 h=>?_)
 refine Au<|Az<|Ac<|Ae rfl<|Ab (FV.subU (a:=c0) (b:=(1:UInt64)) rfl rfl)<|Af rfl<|Aa<|Ac<|Ae rfl<|Ae rfl<|Ab (FV.addU (a:=g0) (b:=shrU (shlU a2 (u64of y8).toNat) 32) rfl rfl)<|Af rfl<|Aa<|Ac<|Ae rfl<|Ab (FV.geqU (a:=g0 + (shrU (shlU a2 (u64of y8).toNat) 32)) (b:=(4294967296:UInt64)) rfl rfl)<|Aa<|AV rfl h (fun M0 h=>?_) (fun M0 h=>?_)
 refine Be rfl ?_
 have h:=z0 _ h
 try dsimp only at h
 exact y0 (c0 - (1:UInt64)) _ _ ⟨rfl,rfl,rfl,rfl,rfl,rfl,trivial⟩ ⟨q0,t0⟩ h
 refine Au<|AB ?_
 exact F0 (c0 - (1:UInt64),g0 + (shrU (shlU a2 (u64of y8).toNat) 32)) _ _ ⟨rfl,rfl,rfl,rfl,rfl,rfl,rfl,rfl,rfl,trivial⟩ ⟨q0,t0⟩ h
 refine Be rfl ?_
 have h:=z0 _ h
 try dsimp only at h
 exact y0 c0 _ _ ⟨rfl,rfl,rfl,rfl,rfl,rfl,trivial⟩ ⟨q0,t0⟩ h
 intro v1 x0 h
 try dsimp only at h
 obtain ⟨B1,Y0,A0⟩:=bind_in2 h
 refine Bm (α:=UInt64 × UInt64) (fun ⟨d0,j0⟩=>[(2,vW ((shlU a2 (u64of y8).toNat).toNat:Int)),(8,vW ((u64of y8).toNat:Int)),(9,vW ((shrU (shlU a2 (u64of y8).toNat) 32).toNat:Int)),(10,vW (((shlU a2 (u64of y8).toNat) &&& (4294967295:UInt64)).toNat:Int)),(11,vW (((shlU a0 (u64of y8).toNat) ||| (shrU a1 ((64:UInt64) - (u64of y8)).toNat)).toNat:Int)),(13,vW ((shrU (shlU a1 (u64of y8).toNat) 32).toNat:Int)),(14,vW (((shlU a1 (u64of y8).toNat) &&& (4294967295:UInt64)).toNat:Int)),(15,vU d0),(16,vU j0)]) (fun ⟨d0,j0⟩ D0=>St w D0 []∧Tr w [] D0 []) (fun ⟨d0,j0⟩=>(d0,j0)) (s9,p1) Y0 ⟨rfl,rfl,rfl,rfl,rfl,rfl,rfl,rfl,rfl,trivial⟩ ⟨hS0,AQ _ _⟩ ?_
 rintro u1 ⟨d0,j0⟩ D0 G0 ⟨s0,u0⟩ h
 unfold math_bits_Div64_l2 at h
 try dsimp only at h
 refine Aj<|Ac<|Ae rfl<|Ab (FV.geqU (a:=d0) (b:=(4294967296:UInt64)) rfl rfl)<|Ae rfl<|RG.ifd (s:=69) rfl h (fun P0 h=>?_) (fun P0 h=>?_)
 refine AI<|AI<|AI<|AI<|AI<|AI<|AI<|AI<|BI rfl rfl<|Aa<|Bh rfl<|Au<|Az<|Ac<|Ae rfl<|Ab (FV.subU (a:=d0) (b:=(1:UInt64)) rfl rfl)<|Af rfl<|Aa<|Ac<|Ae rfl<|Ae rfl<|Ab (FV.addU (a:=j0) (b:=shrU (shlU a2 (u64of y8).toNat) 32) rfl rfl)<|Af rfl<|Aa ?_
 refine Ac<|Ae rfl<|Ab (FV.geqU (a:=j0 + (shrU (shlU a2 (u64of y8).toNat) 32)) (b:=(4294967296:UInt64)) rfl rfl)<|Aa<|AV rfl h (fun Q0 h=>?_) (fun Q0 h=>?_)
 refine Be rfl ?_
 have h:=A0 _ h
 try dsimp only at h
 exact x0 (d0 - (1:UInt64)) _ _ ⟨rfl,rfl,rfl,rfl,rfl,rfl,rfl,rfl,trivial⟩ ⟨s0,u0⟩ h
 refine Au<|AB ?_
 exact G0 (d0 - (1:UInt64),j0 + (shrU (shlU a2 (u64of y8).toNat) 32)) _ _ ⟨rfl,rfl,rfl,rfl,rfl,rfl,rfl,rfl,rfl,trivial⟩ ⟨s0,u0⟩ h
 refine AS (Ak rfl)<|AS (Ak rfl)<|AS (FV.mulU (a:=d0) (b:=(shlU a2 (u64of y8).toNat) &&& (4294967295:UInt64)) rfl rfl)<|AS (Ak rfl)<|AS (FV.mulU (a:=(4294967296:UInt64)) (b:=j0) rfl rfl)<|AS (Ak rfl)<|AS (FV.addU (a:=(4294967296:UInt64) * j0) (b:=shrU (shlU a1 (u64of y8).toNat) 32) rfl rfl)<|AS (FV.gtrU (a:=d0 * ((shlU a2 (u64of y8).toNat) &&& (4294967295:UInt64))) (b:=((4294967296:UInt64) * j0) + (shrU (shlU a1 (u64of y8).toNat) 32)) rfl rfl)<|RG.pf rfl rfl<|Aa<|AV rfl h (fun R0 h=>?_) (fun R0 h=>?_)
 refine Au<|Az<|Ac<|Ae rfl<|Ab (FV.subU (a:=d0) (b:=(1:UInt64)) rfl rfl)<|Af rfl<|Aa<|Ac<|Ae rfl<|Ae rfl<|Ab (FV.addU (a:=j0) (b:=shrU (shlU a2 (u64of y8).toNat) 32) rfl rfl)<|Af rfl<|Aa<|Ac<|Ae rfl<|Ab (FV.geqU (a:=j0 + (shrU (shlU a2 (u64of y8).toNat) 32)) (b:=(4294967296:UInt64)) rfl rfl)<|Aa<|AV rfl h (fun U0 h=>?_) (fun U0 h=>?_)
 refine Be rfl ?_
 have h:=A0 _ h
 try dsimp only at h
 exact x0 (d0 - (1:UInt64)) _ _ ⟨rfl,rfl,rfl,rfl,rfl,rfl,rfl,rfl,trivial⟩ ⟨s0,u0⟩ h
 refine Au<|AB ?_
 exact G0 (d0 - (1:UInt64),j0 + (shrU (shlU a2 (u64of y8).toNat) 32)) _ _ ⟨rfl,rfl,rfl,rfl,rfl,rfl,rfl,rfl,rfl,trivial⟩ ⟨s0,u0⟩ h
 refine Be rfl ?_
 have h:=A0 _ h
 try dsimp only at h
 exact x0 d0 _ _ ⟨rfl,rfl,rfl,rfl,rfl,rfl,rfl,rfl,trivial⟩ ⟨s0,u0⟩ h
def wide_length_p (n:Nat) (a0:List UInt64):Option Int:=
  (if a0.length = 0 then some (0:Int) else (chk (64 * ((a0.length:Nat):Int))).bind fun s3=>(idx a0 (((a0.length:Nat):Int) - 1)).bind fun x4=>(math_bits_LeadingZeros64_p n x4).bind fun c0=>(chk (s3 - c0)).bind fun b0=>some b0)
theorem wide_length_c (n:Nat) (L:List Nat) (w:World) (hL:∀ b ∈ L,b < w.heap.size) (a0:List UInt64) {v0_0:Value} (h0_0:Rep.R w L [v0_0] a0)  {r:Int} (h:wide_length_p n a0 = some r) :
    Calls Tryz.prog 145 #[v0_0] w (Gives w fun _ u=>u = vI r):=by
 unfold wide_length_p at h
 have hS0:=Ay w
 refine AD Tryz.func145 rfl rfl rfl (fun _ cs0 hb0=>?_)
 refine Ac<|Af rfl<|Aa<|Aj<|Ac<|Ae rfl ?_
 have hl1:a0.length ≤ 281474976710656:=AU h0_0
 refine Ab (Bd (xs:=a0) Tryz.underlying142 rfl h0_0)<|Ab (FV.eqlN (i:=a0.length) (j:=0) rfl rfl)<|Aa<|AV rfl h (fun c2 h=>?_) (fun c2 h=>?_)
 refine Ac<|Af rfl<|Aa<|Al rfl<|Bb hb0 Tryz.func145 rfl rfl ?_
 cases h
 exact hS0.gv
 refine Au<|Ac<|Ae rfl<|Ab (Bd (xs:=a0) Tryz.underlying142 rfl h0_0) ?_
 obtain ⟨s3,hs3,h⟩:=bi h
 refine Ab (FV.mulc (i:=64) (j:=((a0.length:Nat):Int)) rfl rfl hs3)<|Ae rfl<|Ae rfl<|Ab (Bd (xs:=a0) Tryz.underlying142 rfl h0_0)<|Ab (FV.subI (i:=((a0.length:Nat):Int)) (j:=1) rfl rfl (by omega)) ?_
 obtain ⟨x4,hx4,h⟩:=bi h
 obtain ⟨hi5,hx6⟩:=idx_in hx4
 obtain ⟨A7,c8,he9,g0,c0,k0,j0⟩:=Bk h0_0 hx6
 have d0:c0 = [vU x4]:=k0; subst d0
 refine Ab (FV.idxAddr (m:=1) (i:=(((a0.length:Nat):Int) - 1).toNat) (by kernel_rfl) rfl he9 rfl hi5 g0)<|AY rfl (j0 0 _ rfl) ?_
 obtain ⟨b0,q0,h⟩:=bi h
 refine Bg (vI b0) body168 rfl (e1 rfl) (fun w9 hw9=>math_bits_LeadingZeros64_c n _ w9 (hS0.hL0 hL hw9) x4 q0) rfl ?_
 obtain ⟨s0,p0,h⟩:=bi h
 refine Ab (FV.subc (i:=s3) (j:=b0) rfl rfl p0)<|Af rfl<|Aa<|Al rfl<|Bb hb0 Tryz.func145 rfl rfl ?_
 cases h
 exact hS0.gv
def tb146_5:List (Nat × Nat × Nat):=[(0,4194304,32),(0,8388608,64),(0,16777216,2),(4,33554432,16777216),(10,67108864,41943040),(17,134217728,71303168),(32,268435456,134217728),(0,536870912,128),(0,1073741824,2),(256,2147483648,1073741824),(640,4294967296,2684354560),(1088,8589934592,4563402752),(4095,17179869184,71303168),(8191,0,25769803776)]
theorem body133:bodyB Tryz.prog 133 = true:=by kernel_rfl
def wide_moved_l1 (_n:Nat) (a0:List UInt64) (a1:Int) (g0:Nat × (List UInt64) → Option (List UInt64)):Nat × (List UInt64) → Option (List UInt64)
  | (b0,c0)=>(if b0 < a0.length then (a0[b0]?).bind fun p0=>(quoI a1 64).bind fun t0=>(chk (((b0:Nat):Int) + t0)).bind fun j0=>(idx c0 j0).bind fun B0=>(remI a1 64).bind fun u0=>(natOf u0).bind fun q0=>(put c0 ((j0.toNat:Nat):Int) (B0 ||| (shlU p0 q0))).bind fun d0=>(remI a1 64).bind fun v0=>(if 0 < v0 then (quoI a1 64).bind fun x0=>(chk (((b0:Nat):Int) + x0)).bind fun y0=>(chk (y0 + 1)).bind fun k0=>(remI a1 64).bind fun z0=>(chk (64 - z0)).bind fun A0=>(natOf A0).bind fun s0=>(idx d0 k0).bind fun D0=>(put d0 ((k0.toNat:Nat):Int) (shrU p0 s0)).bind fun C0=>g0 (b0 + 1,C0) else g0 (b0 + 1,d0)) else some c0)
def wide_moved_p (n:Nat) (a0:List UInt64) (a1:Int):Option (List UInt64):=
  (quoI a1 64).bind fun s2=>(chk (((a0.length:Nat):Int) + s2)).bind fun s3=>(chk (s3 + 1)).bind fun s4=>(mk s4 (0:UInt64)).bind fun b0=>Option.bind (loopF (wide_moved_l1 n a0 a1) n (0,b0)) (fun c0=>(wide_trimmed_p n false c0).bind fun d0=>some d0.fo)
theorem wide_moved_c (n:Nat) (L:List Nat) (w:World) (hL:∀ b ∈ L,b < w.heap.size) (a0:List UInt64) {v0_0:Value} (h0_0:Rep.R w L [v0_0] a0) (a1:Int)  {r:List UInt64} (h:wide_moved_p n a0 a1 = some r) :
    Calls Tryz.prog 146 #[v0_0,vI a1] w (Gives w fun w' u=>∃ v0_0:Value,u = v0_0∧Rep.R w' L [v0_0] r):=by
 unfold wide_moved_p at h
 have hS0:=Ay w
 refine AD Tryz.func146 rfl rfl rfl (fun _ cs0 hb0=>?_)
 refine Ac<|Af rfl<|Aa<|Ac<|Ae rfl ?_
 have hl1:a0.length ≤ 281474976710656:=AU h0_0
 refine Ab (Bd (xs:=a0) Tryz.underlying142 rfl h0_0)<|Ae rfl ?_
 obtain ⟨s2,hs2,h⟩:=bi h
 refine Ab (FV.quoc (i:=a1) (j:=64) rfl rfl hs2) ?_
 obtain ⟨s3,hs3,h⟩:=bi h
 refine Ab (BD (i:=((a0.length:Nat):Int)) (j:=s2) rfl rfl hs3) ?_
 obtain ⟨s4,hs4,h⟩:=bi h
 refine Ab (BD (i:=s3) (j:=1) rfl rfl hs4) ?_
 obtain ⟨D0,P0,h⟩:=bi h
 refine Ai .plain rfl (Does.mk (α:=UInt64) P0 hS0 el142 rfl) (fun H2 p0 v0 Y2=>?_)
 have u1:=AH (cs:=(List.replicate s4.toNat [vW 0]).flatten) (xs:=D0) v0 L (Cells.mk P0 rfl)
 refine Af rfl<|Aa<|Aj<|Ac<|Ae rfl ?_
 have G1:=AO h0_0 v0
 refine Ab (Bd (xs:=a0) Tryz.underlying142 rfl G1)<|Ae rfl<|Aa<|Az ?_
 obtain ⟨g3,K1,B1⟩:=bind_in2 h
 refine Bm (α:=Nat × (List UInt64) × (List Value)) (fun ⟨c0,g0,j0⟩=>[(1,vI a1),(5,(.slice (some ⟨p0,0,none⟩) s4.toNat s4.toNat)),(15,v0_0),(16,vI ((a0.length:Nat):Int)),(17,vI ((c0:Nat):Int))]) (fun ⟨c0,g0,j0⟩ t0=>St w t0 [.row w.heap.size 49 (Rep.size UInt64) (.slice (some ⟨p0,0,none⟩) s4.toNat s4.toNat) g0.length j0]∧Tr H2 [.row w.heap.size 49 (Rep.size UInt64) (.slice (some ⟨p0,0,none⟩) s4.toNat s4.toNat) D0.length ((List.replicate s4.toNat [vW 0]).flatten)] t0 [.row w.heap.size 49 (Rep.size UInt64) (.slice (some ⟨p0,0,none⟩) s4.toNat s4.toNat) g0.length j0]∧Cells t0 (bl [.row w.heap.size 49 (Rep.size UInt64) (.slice (some ⟨p0,0,none⟩) s4.toNat s4.toNat) g0.length j0] ++ L) j0 g0) (fun ⟨c0,g0,j0⟩=>(c0,g0)) (0,D0,(List.replicate s4.toNat [vW 0]).flatten) K1 ⟨rfl,rfl,rfl,rfl,rfl,trivial⟩ ⟨v0,AQ _ _,u1⟩ ?_
 rintro Q2 ⟨c0,g0,j0⟩ t0 E0 ⟨k0,G0,y0⟩ h
 unfold wide_moved_l1 at h
 try dsimp only at h
 refine Ac<|Ab (Br (i:=c0) (j:=a0.length) rfl rfl)<|Aa<|Aj<|AV rfl h (fun Z0 h=>?_) (fun Z0 h=>?_)
 refine Au<|Aj<|Az<|Ac<|Ae rfl ?_
 obtain ⟨u0,k2,h⟩:=bi h
 have I1:=AO h0_0 k0
 obtain ⟨P2,R2,x1,D1,c1,M1,H1⟩:=Bk I1 k2
 have y1:c1 = [vU u0]:=M1; subst y1
 refine Ab (Bp 1 c0 rfl x1 rfl rfl D1)<|AY rfl (H1 0 _ rfl)<|Af rfl<|Af rfl<|Aa<|Aj<|dt 13 tb146_5 (fun b0 d0=>?_)
 refine Ag 0 1 b0 rfl d0 (fun _=>Ak rfl) rfl<|Ag 1 3 b0 rfl d0 (fun _=>Ak rfl) rfl<|Ag 2 7 b0 rfl d0 (fun _=>Ak rfl) rfl ?_
 obtain ⟨A2,W1,h⟩:=bi h
 refine Ag 3 15 b0 rfl d0 (fun _=>FV.quoc (i:=a1) (j:=64) rfl rfl W1) rfl ?_
 obtain ⟨C0,X1,h⟩:=bi h
 refine Ag 4 31 b0 rfl d0 (fun _=>BD (i:=((c0:Nat):Int)) (j:=A2) rfl rfl X1) rfl ?_
 obtain ⟨U0,p2,h⟩:=bi h
 obtain ⟨K0,q2⟩:=idx_in p2
 obtain ⟨V0,U2,s0,B0,d1,P1,J1⟩:=St.nth (α:=UInt64) k0 .hd y0 q2
 obtain ⟨X0,V2,I0⟩:=St.nthOwn (α:=UInt64) k0 .hd B0
 obtain rfl:V0 = ⟨X0,0,none⟩:=by rw [I0] at s0; cases s0; rfl
 have z1:d1 = [vU U0]:=P1; subst z1
 refine Ag 5 63 b0 rfl d0 (fun _=>Bp 1 (C0.toNat) rfl s0 rfl K0 B0) rfl<|AC 6 127 14336 b0 rfl d0 (AL rfl (J1 0 _ rfl)) rfl<|Ag 7 255 b0 rfl d0 (fun _=>Ak rfl) rfl<|Ag 8 511 b0 rfl d0 (fun _=>Ak rfl) rfl ?_
 obtain ⟨B2,Y1,h⟩:=bi h
 refine Ag 9 1023 b0 rfl d0 (fun _=>FV.remc (i:=a1) (j:=64) rfl rfl Y1) rfl ?_
 obtain ⟨z2,E1,h⟩:=bi h
 refine Ag 10 2047 b0 rfl d0 (fun _=>FV.shlI (a:=u0) (i:=B2) rfl rfl E1) rfl<|Ag 11 4095 b0 rfl d0 (fun _=>FV.orU (a:=U0) (b:=shlU u0 z2) rfl rfl) rfl<|Ag 12 8191 b0 rfl d0 (fun _=>Bp 1 (C0.toNat) rfl s0 rfl K0 B0) rfl ?_
 obtain ⟨J2,v2,h⟩:=bi h
 refine BC (i:=13) (rk b0) (RO.acts (m' :=16383) (sk b0) rfl rfl .plain (Acts.set (α:=UInt64) (i:=C0.toNat) v2 k0 I0 (fun _=>.hd) y0 rfl rfl rfl rfl rfl (by kernel_rfl)) (fun k3 ⟨g1,q0,H0,z0⟩=>?_))
 refine AE (dk b0)<|Ac<|Ae rfl ?_
 obtain ⟨C2,Z1,h⟩:=bi h
 refine Ab (FV.remc (i:=a1) (j:=64) rfl rfl Z1)<|Ab (FV.gtr (i:=C2) (j:=0) rfl rfl)<|Aa<|AV rfl h (fun b1 h=>?_) (fun b1 h=>?_)
 refine Ao<|Ae rfl<|Ae rfl<|Ae rfl ?_
 obtain ⟨D2,b2,h⟩:=bi h
 refine Ab (FV.quoc (i:=a1) (j:=64) rfl rfl b2) ?_
 obtain ⟨E2,c2,h⟩:=bi h
 refine Ab (BD (i:=((c0:Nat):Int)) (j:=D2) rfl rfl c2) ?_
 obtain ⟨Q0,d2,h⟩:=bi h
 refine Ab (BD (i:=E2) (j:=1) rfl rfl d2)<|Ae rfl<|Ae rfl ?_
 obtain ⟨F2,g2,h⟩:=bi h
 refine Ab (FV.remc (i:=a1) (j:=64) rfl rfl g2) ?_
 obtain ⟨G2,j2,h⟩:=bi h
 refine Ab (FV.subc (i:=64) (j:=F2) rfl rfl j2) ?_
 obtain ⟨d3,F1,h⟩:=bi h
 refine Ab (FV.shrI (a:=u0) (i:=G2) rfl rfl F1) ?_
 obtain ⟨I2,t2,h⟩:=bi h
 obtain ⟨C1,u2⟩:=idx_in t2
 obtain ⟨W0,W2,A0,M0,j1,Q1,c3⟩:=St.nth (α:=UInt64) q0 .hd z0 u2
 obtain ⟨Y0,X2,J0⟩:=St.nthOwn (α:=UInt64) q0 .hd M0
 obtain rfl:W0 = ⟨Y0,0,none⟩:=by rw [J0] at A0; cases A0; rfl
 have A1:j1 = [vU I2]:=Q1; subst A1
 refine Ab (Bp 1 (Q0.toNat) rfl A0 rfl C1 M0) ?_
 obtain ⟨K2,x2,h⟩:=bi h
 refine RG.acts' .plain (Acts.set (α:=UInt64) (i:=Q0.toNat) x2 q0 J0 (fun _=>.hd) z0 rfl rfl rfl rfl rfl (by kernel_rfl)) (fun p3 ⟨k1,p1,q1,v1⟩=>?_)
 refine Aa<|AB<|Ao<|Ab (Bl (i:=c0) (j:=1) rfl rfl (by omega))<|Ae rfl<|Aa ?_
 exact E0 (c0 + 1,K2,k1) _ _ ⟨rfl,rfl,rfl,rfl,rfl,trivial⟩ ⟨p1,(Tt G0 (Tt H0 q1)),v1⟩ h
 refine Au<|AB<|Ao<|Ab (Bl (i:=c0) (j:=1) rfl rfl (by omega))<|Ae rfl<|Aa ?_
 exact E0 (c0 + 1,J2,g1) _ _ ⟨rfl,rfl,rfl,rfl,rfl,trivial⟩ ⟨q0,(Tt G0 H0),z0⟩ h
 refine Be rfl ?_
 have h:=B1 _ h
 try dsimp only at h
 refine Ac<|Ae rfl ?_
 have R1:=Bn (α:=UInt64) k0 .hd y0 hL
 have x0:=Bw k0 .hd
 have Z2:=Bx k0 .hd
 have U1:=By (α:=UInt64) (v:=(.slice (some ⟨p0,0,none⟩) s4.toNat s4.toNat)) (xs:=g0) x0 L R1
 obtain ⟨M2,y2,h⟩:=bi h
 refine Bf (fst:=[]) (cap:=[]) .plain body133 rfl (e2 rfl rfl) (fun w9 hw9=>wide_trimmed_c n _ w9 (x0.hL hL hw9) false g0 (Ap U1 hw9) y2) rfl (fun q3 j3 s1 ⟨R0,hu_,V1⟩=>?_)
 subst hu_
 obtain ⟨F0,b3⟩:=x0.agr s1
 refine Ab (FV.field1 (cs:=[.bool M2.fe,R0]) (off:=1) (m:=1) (by kernel_rfl) (by kernel_rfl) rfl rfl)<|Af rfl<|Aa<|Al rfl<|Bb hb0 Tryz.func146 rfl rfl ?_
 cases h
 exact ⟨F0.ag,fun w9 hw9=>⟨R0,rfl,F0.kd V1 hw9⟩⟩
def tb121_7:List (Nat × Nat × Nat):=[(0,16777216,16),(0,33554432,128),(0,67108864,64),(0,134217728,1),(0,268435456,128),(24,536870912,402653184),(32,1073741824,536870912),(0,2147483648,2),(128,4294967296,2147483648),(256,8589934592,4294967296),(580,17179869184,9730785280),(1024,8388608,17179869184),(2048,34359738368,8388608),(2048,68719476736,8388608),(8191,137438953472,50331648),(24575,0,171798691840),(65535,64,68719476736)]
def tb121_16:List (Nat × Nat × Nat):=[(0,36893488147419103232,16),(0,73786976294838206464,256),(2,147573952589676412928,73786976294838206464),(5,295147905179352825856,184467440737095516160),(8,590295810358705651712,295147905179352825856),(0,1180591620717411303424,256),(32,2361183241434822606848,1180591620717411303424),(64,4722366482869645213696,2361183241434822606848),(144,9444732965739290427392,5312662293228350865408),(511,18889465931478580854784,184467440737095516160),(1023,0,28334198897217871282176)]
theorem body139:bodyB Tryz.prog 139 = true:=by kernel_rfl
theorem body140:bodyB Tryz.prog 140 = true:=by kernel_rfl
theorem body144:bodyB Tryz.prog 144 = true:=by kernel_rfl
theorem body145:bodyB Tryz.prog 145 = true:=by kernel_rfl
theorem body146:bodyB Tryz.prog 146 = true:=by kernel_rfl
def wide_divided_l1 (n:Nat) (a0:List UInt64) (a1:List UInt64) (j0:UInt64 × Int × (List UInt64) → Option (UInt64 × (List UInt64))):UInt64 × Int × (List UInt64) → Option (UInt64 × (List UInt64))
  | (d0,b0,c0)=>(if 0 ≤ b0 then (idx a0 b0).bind fun p0=>(a1[0]?).bind fun q0=>(math_bits_Div64_p n d0 p0 q0).bind fun g0=>(idx c0 b0).bind fun t0=>(put c0 ((b0.toNat:Nat):Int) g0.1).bind fun s0=>(chk (b0 - 1)).bind fun k0=>j0 (g0.2,k0,s0) else some (d0,c0))
def wide_divided_l2 (n:Nat) (a1:List UInt64) (p0:(List UInt64) × Int × (List UInt64) → Option ((List UInt64) × (List UInt64))):(List UInt64) × Int × (List UInt64) → Option ((List UInt64) × (List UInt64))
  | (c0,b0,d0)=>(if 0 ≤ b0 then (wide_moved_p n a1 b0).bind fun k0=>(wide_compared_p n c0 k0).bind fun z0=>jn (fun (v0,x0)=>(chk (b0 - 1)).bind fun s0=>p0 (v0,s0,x0)) (fun g0=>(if 0 ≤ z0 then (wide_taken_p n c0 k0).bind fun A0=>(wide_trimmed_p n false A0).bind fun B0=>(quoI b0 64).bind fun j0=>(idx d0 j0).bind fun u0=>(remI b0 64).bind fun t0=>(natOf t0).bind fun q0=>(put d0 ((j0.toNat:Nat):Int) (u0 ||| (shlU (1:UInt64) q0))).bind fun y0=>g0 (B0.fo,y0) else g0 (c0,d0))) else some (d0,c0))
def wide_divided_p (n:Nat) (a0:List UInt64) (a1:List UInt64):Option ((List UInt64) × (List UInt64)):=
  (mk ((a0.length:Nat):Int) (0:UInt64)).bind fun b0=>(if a1.length = 1 then Option.bind (loopF (wide_divided_l1 n a0 a1) n ((0:UInt64),((a0.length:Nat):Int) - 1,b0)) (fun (d0,g0)=>(wide_trimmed_p n false ([d0]:List UInt64)).bind fun p0=>some (g0,p0.fo)) else (wide_length_p n a0).bind fun q0=>(wide_length_p n a1).bind fun s0=>(chk (q0 - s0)).bind fun c0=>Option.bind (loopF (wide_divided_l2 n a1) n (a0,c0,b0)) (fun (k0,j0)=>some (k0,j0)))
theorem wide_divided_c (n:Nat) (L:List Nat) (w:World) (hL:∀ b ∈ L,b < w.heap.size) (a0:List UInt64) {v0_0:Value} (h0_0:Rep.R w L [v0_0] a0) (a1:List UInt64) {v1_0:Value} (h1_0:Rep.R w L [v1_0] a1)  {r:(List UInt64) × (List UInt64)} (h:wide_divided_p n a0 a1 = some r) :
    Calls Tryz.prog 121 #[v0_0,v1_0] w (Gives w fun w' u=>∃ v0_0 v1_0:Value,u = .tuple #[v0_0,v1_0]∧Rep.R w' L [v0_0] r.1∧Rep.R w' L [v1_0] r.2):=by
 unfold wide_divided_p at h
 have hS0:=Ay w
 refine AD Tryz.func121 rfl rfl rfl (fun _ cs0 hb0=>?_)
 refine Ac<|Af rfl<|Af rfl<|Aa<|Ac<|Ae rfl ?_
 have hl1:a0.length ≤ 281474976710656:=AU h0_0
 refine Ab (Bd (xs:=a0) Tryz.underlying142 rfl h0_0) ?_
 obtain ⟨K0,F1,h⟩:=bi h
 refine Ai .plain rfl (Does.mk (α:=UInt64) F1 hS0 el142 rfl) (fun I1 b0 t0 y5=>?_)
 have v1:=AH (cs:=(List.replicate ((a0.length:Nat):Int).toNat [vW 0]).flatten) (xs:=K0) t0 L (Cells.mk F1 rfl)
 refine Af rfl<|Aa<|Aj<|Ac<|Ae rfl ?_
 have B1:=AO h1_0 t0
 have z5:a1.length ≤ 281474976710656:=AU B1
 refine Ab (Bd (xs:=a1) Tryz.underlying142 rfl B1)<|Ab (FV.eqlN (i:=a1.length) (j:=1) rfl rfl)<|Aa<|AV rfl h (fun d2 h=>?_) (fun d2 h=>?_)
 refine Ac<|Af rfl<|Aa<|Aj<|Ac<|Ae rfl ?_
 have z3:=AO h0_0 t0
 refine Ab (Bd (xs:=a0) Tryz.underlying142 rfl z3)<|Ab (FV.subI (i:=((a0.length:Nat):Int)) (j:=1) rfl rfl (by omega))<|Af rfl<|Aa<|Az ?_
 obtain ⟨B5,H3,g3⟩:=bind_in2 h
 refine Bm (α:=UInt64 × Int × (List UInt64) × (List Value)) (fun ⟨g0,x0,z0,B0⟩=>[(0,v0_0),(1,v1_0),(4,(.slice (some ⟨b0,0,none⟩) ((a0.length:Nat):Int).toNat ((a0.length:Nat):Int).toNat)),(6,vU g0),(7,vI x0)]) (fun ⟨g0,x0,z0,B0⟩ V0=>St w V0 [.row w.heap.size 49 (Rep.size UInt64) (.slice (some ⟨b0,0,none⟩) ((a0.length:Nat):Int).toNat ((a0.length:Nat):Int).toNat) z0.length B0]∧Tr I1 [.row w.heap.size 49 (Rep.size UInt64) (.slice (some ⟨b0,0,none⟩) ((a0.length:Nat):Int).toNat ((a0.length:Nat):Int).toNat) K0.length ((List.replicate ((a0.length:Nat):Int).toNat [vW 0]).flatten)] V0 [.row w.heap.size 49 (Rep.size UInt64) (.slice (some ⟨b0,0,none⟩) ((a0.length:Nat):Int).toNat ((a0.length:Nat):Int).toNat) z0.length B0]∧Cells V0 (bl [.row w.heap.size 49 (Rep.size UInt64) (.slice (some ⟨b0,0,none⟩) ((a0.length:Nat):Int).toNat ((a0.length:Nat):Int).toNat) z0.length B0] ++ L) B0 z0) (fun ⟨g0,x0,z0,B0⟩=>(g0,x0,z0)) ((0:UInt64),((a0.length:Nat):Int) - 1,K0,(List.replicate ((a0.length:Nat):Int).toNat [vW 0]).flatten) H3 ⟨rfl,rfl,rfl,rfl,rfl,trivial⟩ ⟨t0,AQ _ _,v1⟩ ?_
 rintro j5 ⟨g0,x0,z0,B0⟩ V0 v2 ⟨C0,B2,Z0⟩ h
 unfold wide_divided_l1 at h
 try dsimp only at h
 refine Aj<|Ac<|Ae rfl<|Ab (FV.geq (i:=x0) (j:=0) rfl rfl)<|Aa<|AV rfl h (fun c2 h=>?_) (fun c2 h=>?_)
 refine Au<|Aj<|Az<|dt 15 tb121_7 (fun c0 d0=>?_)
 refine Ag 0 1 c0 rfl d0 (fun _=>Ak rfl) rfl<|Ag 1 3 c0 rfl d0 (fun _=>Ak rfl) rfl<|Ag 2 7 c0 rfl d0 (fun _=>Ak rfl) rfl<|Ag 3 15 c0 rfl d0 (fun _=>Ak rfl) rfl<|Ag 4 31 c0 rfl d0 (fun _=>Ak rfl) rfl ?_
 obtain ⟨J1,u4,h⟩:=bi h
 obtain ⟨k3,v4⟩:=idx_in u4
 have v3:=AO h0_0 C0
 obtain ⟨d5,q5,X2,q3,k2,P3,u3⟩:=Bk v3 v4
 have Y2:k2 = [vU J1]:=P3; subst Y2
 refine Ag 5 63 c0 rfl d0 (fun _=>Bp 1 (x0.toNat) rfl X2 rfl k3 q3) rfl<|AC 6 127 130048 c0 rfl d0 (AL rfl (u3 0 _ rfl)) rfl<|Ag 7 255 c0 rfl d0 (fun _=>Ak rfl) rfl ?_
 obtain ⟨K1,x4,h⟩:=bi h
 have y3:=AO h1_0 C0
 obtain ⟨g5,s5,Z2,s3,p2,Q3,x3⟩:=Bk y3 x4
 have b3:p2 = [vU K1]:=Q3; subst b3
 refine Ag 8 511 c0 rfl d0 (fun _=>Bp 1 0 rfl Z2 rfl rfl s3) rfl<|AC 9 1023 130048 c0 rfl d0 (AL rfl (x3 0 _ rfl)) rfl ?_
 obtain ⟨k1,E4,h⟩:=bi h
 refine BA 10 2047 129024 (.tuple #[vU k1.1,vU k1.2]) c0 rfl d0 body144 rfl (e3 rfl rfl rfl) (fun w9 hw9=>math_bits_Div64_c n _ w9 (C0.hL0 hL hw9) g0 J1 K1 E4) rfl<|Ag 11 4095 c0 rfl d0 (fun _=>Ak rfl) rfl<|Ag 12 8191 c0 rfl d0 (fun _=>Ah rfl rfl) rfl<|Ag 13 16383 c0 rfl d0 (fun _=>Ah rfl rfl) rfl ?_
 obtain ⟨X4,y4,h⟩:=bi h
 obtain ⟨p3,z4⟩:=idx_in y4
 obtain ⟨W1,t5,c1,A1,q2,R3,A5⟩:=St.nth (α:=UInt64) C0 .hd Z0 z4
 obtain ⟨Y1,u5,x1⟩:=St.nthOwn (α:=UInt64) C0 .hd A1
 obtain rfl:W1 = ⟨Y1,0,none⟩:=by rw [x1] at c1; cases c1; rfl
 have c3:q2 = [vU X4]:=R3; subst c3
 refine Ag 14 32767 c0 rfl d0 (fun _=>Bp 1 (x0.toNat) rfl c1 rfl p3 A1) rfl ?_
 obtain ⟨Y4,C4,h⟩:=bi h
 refine BC (i:=15) (rk c0) (RO.acts (m' :=65535) (sk c0) rfl rfl .plain (Acts.set (α:=UInt64) (i:=x0.toNat) C4 C0 x1 (fun _=>.hd) Z0 rfl rfl rfl rfl rfl (by kernel_rfl)) (fun J5 ⟨s2,y2,C2,R2⟩=>?_))
 refine BC (i:=16) (rk c0) (BK (m' :=131071) (sk c0) rfl .plain rfl (Bi rfl) ?_)
 refine AE (dk c0)<|AB<|Ao<|Ae rfl ?_
 obtain ⟨Q4,k4,h⟩:=bi h
 refine Ab (FV.subc (i:=x0) (j:=1) rfl rfl k4)<|Af rfl<|Aa ?_
 exact v2 (k1.2,Q4,Y4,s2) _ _ ⟨rfl,rfl,rfl,rfl,rfl,trivial⟩ ⟨y2,(Tt B2 C2),R2⟩ h
 refine Be rfl ?_
 have h:=g3 _ h
 try dsimp only at h
 refine Ac<|Ae rfl<|Ae rfl<|Ai .plain rfl (Ba (α:=UInt64) (xs:=([g0]:List UInt64)) (vs:=[vU g0]) (ds' :=[vU g0]) rfl C0 el142 rfl (e1 rfl) (by kernel_rfl) rfl) (fun K5 Z1 M0 D2=>?_)
 have U2:=AH (cs:=[vU g0]) (xs:=(([g0]:List UInt64):List UInt64)) M0 L (Ax (cs:=[vU g0]) (ds:=[]) rfl (AT _ _))
 have U3:=Bn (α:=UInt64) M0 .hd U2 hL
 have W0:=Bw M0 .hd
 have E2:=Bx M0 .hd
 have V3:=By (α:=UInt64) (v:=(vS Z1 1)) (xs:=([g0]:List UInt64)) W0 L U3
 obtain ⟨b5,F4,h⟩:=bi h
 refine Bf (fst:=[]) (cap:=[]) .plain body133 rfl (e2 rfl rfl) (fun w9 hw9=>wide_trimmed_c n _ w9 (W0.hL hL hw9) false ([g0]:List UInt64) (Ap V3 hw9) F4) rfl (fun M5 F5 K2 ⟨G1,hu_,W3⟩=>?_)
 subst hu_
 obtain ⟨X0,F2⟩:=W0.agr K2
 refine Ab (FV.field1 (cs:=[.bool b5.fe,G1]) (off:=1) (m:=1) (by kernel_rfl) (by kernel_rfl) rfl rfl)<|Af rfl<|Af rfl<|Aa<|Al rfl ?_
 have J3:=Tt D2 (Tt E2 F2)
 have A3:=AR Z0 J3
 have X3:=Bn (α:=UInt64) X0 .hd A3 hL
 have P0:=Bw X0 .hd
 have G2:=Bx X0 .hd
 have Y3:=By (α:=UInt64) (v:=(.slice (some ⟨b0,0,none⟩) ((a0.length:Nat):Int).toNat ((a0.length:Nat):Int).toNat)) (xs:=z0) P0 L X3
 refine Am hb0 Tryz.func121 rfl (.cons (.tmp rfl) (.cons (.tmp rfl) .nil)) rfl ?_
 cases h
 have B3:=Aq W3 G2
 exact ⟨P0.ag,fun w9 hw9=>⟨(.slice (some ⟨b0,0,none⟩) ((a0.length:Nat):Int).toNat ((a0.length:Nat):Int).toNat),G1,rfl,P0.kd Y3 hw9,P0.kd B3 hw9⟩⟩
 refine Au<|Ac<|Ae rfl<|Af rfl<|Aa<|Aj<|Ac<|Ae rfl ?_
 obtain ⟨P1,G4,h⟩:=bi h
 refine Bg (vI P1) body145 rfl (e1 rfl) (fun w9 hw9=>wide_length_c n _ w9 (t0.hL0 hL hw9) a0 (t0.k0 h0_0 hw9) G4) rfl<|Ae rfl ?_
 obtain ⟨Q1,H4,h⟩:=bi h
 refine Bg (vI Q1) body145 rfl (e1 rfl) (fun w9 hw9=>wide_length_c n _ w9 (t0.hL0 hL hw9) a1 (t0.k0 h1_0 hw9) H4) rfl ?_
 obtain ⟨R4,p4,h⟩:=bi h
 refine Ab (FV.subc (i:=P1) (j:=Q1) rfl rfl p4)<|Af rfl<|Aa<|Az ?_
 have C3:=AO h0_0 t0
 obtain ⟨C5,I3,j3⟩:=bind_in2 h
 refine Bm (α:=(List UInt64) × Int × (List UInt64) × Value × (List Value)) (fun ⟨A0,q0,p0,D0,s0⟩=>[(1,v1_0),(4,(.slice (some ⟨b0,0,none⟩) ((a0.length:Nat):Int).toNat ((a0.length:Nat):Int).toNat)),(5,D0),(8,vI q0)]) (fun ⟨A0,q0,p0,D0,s0⟩ I0=>St w I0 [.row w.heap.size 49 (Rep.size UInt64) (.slice (some ⟨b0,0,none⟩) ((a0.length:Nat):Int).toNat ((a0.length:Nat):Int).toNat) p0.length s0]∧Tr I1 [.row w.heap.size 49 (Rep.size UInt64) (.slice (some ⟨b0,0,none⟩) ((a0.length:Nat):Int).toNat ((a0.length:Nat):Int).toNat) K0.length ((List.replicate ((a0.length:Nat):Int).toNat [vW 0]).flatten)] I0 [.row w.heap.size 49 (Rep.size UInt64) (.slice (some ⟨b0,0,none⟩) ((a0.length:Nat):Int).toNat ((a0.length:Nat):Int).toNat) p0.length s0]∧Rep.R I0 (bl [.row w.heap.size 49 (Rep.size UInt64) (.slice (some ⟨b0,0,none⟩) ((a0.length:Nat):Int).toNat ((a0.length:Nat):Int).toNat) p0.length s0] ++ L) [D0] A0∧Cells I0 (bl [.row w.heap.size 49 (Rep.size UInt64) (.slice (some ⟨b0,0,none⟩) ((a0.length:Nat):Int).toNat ((a0.length:Nat):Int).toNat) p0.length s0] ++ L) s0 p0) (fun ⟨A0,q0,p0,D0,s0⟩=>(A0,q0,p0)) (a0,R4,K0,v0_0,(List.replicate ((a0.length:Nat):Int).toNat [vW 0]).flatten) I3 ⟨rfl,rfl,rfl,rfl,trivial⟩ ⟨t0,AQ _ _,C3,v1⟩ ?_
 rintro k5 ⟨A0,q0,p0,D0,s0⟩ I0 x2 ⟨E0,H2,D1,b1⟩ h
 unfold wide_divided_l2 at h
 try dsimp only at h
 refine Aj<|Ac<|Ae rfl<|Ab (FV.geq (i:=q0) (j:=0) rfl rfl)<|Aa<|AV rfl h (fun g2 h=>?_) (fun g2 h=>?_)
 refine Au<|Aj<|Az<|Ac<|Ae rfl<|Ae rfl ?_
 obtain ⟨R1,I4,h⟩:=bi h
 refine Bf (fst:=[]) (cap:=[]) .plain body146 rfl (e2 rfl rfl) (fun w9 hw9=>wide_moved_c n _ w9 (E0.hL hL hw9) a1 (E0.km h1_0 hw9) q0 I4) rfl (fun W4 G5 M2 ⟨D5,hu_,E1⟩=>?_)
 subst hu_
 obtain ⟨F0,R0⟩:=E0.agr M2
 refine Af rfl<|Aa<|Ac<|Ae rfl<|Ae rfl ?_
 obtain ⟨U1,J4,h⟩:=bi h
 have g1:=Aq D1 R0
 refine Bg (vI U1) body139 rfl (e2 rfl rfl) (fun w9 hw9=>wide_compared_c n _ w9 (F0.hL0 hL hw9) A0 (F0.kd g1 hw9) R1 (F0.kd E1 hw9) J4) rfl<|Ab (FV.geq (i:=U1) (j:=0) rfl rfl)<|Aa<|MX.join (α:=(List UInt64) × (List UInt64) × Value × (List Value)) (fun ⟨H0,v0,G0,y0⟩=>[(1,v1_0),(4,(.slice (some ⟨b0,0,none⟩) ((a0.length:Nat):Int).toNat ((a0.length:Nat):Int).toNat)),(5,G0),(8,vI q0)]) (fun ⟨H0,v0,G0,y0⟩ J0=>St w J0 [.row w.heap.size 49 (Rep.size UInt64) (.slice (some ⟨b0,0,none⟩) ((a0.length:Nat):Int).toNat ((a0.length:Nat):Int).toNat) v0.length y0]∧Tr W4 [.row w.heap.size 49 (Rep.size UInt64) (.slice (some ⟨b0,0,none⟩) ((a0.length:Nat):Int).toNat ((a0.length:Nat):Int).toNat) p0.length s0] J0 [.row w.heap.size 49 (Rep.size UInt64) (.slice (some ⟨b0,0,none⟩) ((a0.length:Nat):Int).toNat ((a0.length:Nat):Int).toNat) v0.length y0]∧Rep.R J0 (bl [.row w.heap.size 49 (Rep.size UInt64) (.slice (some ⟨b0,0,none⟩) ((a0.length:Nat):Int).toNat ((a0.length:Nat):Int).toNat) v0.length y0] ++ L) [G0] H0∧Cells J0 (bl [.row w.heap.size 49 (Rep.size UInt64) (.slice (some ⟨b0,0,none⟩) ((a0.length:Nat):Int).toNat ((a0.length:Nat):Int).toNat) v0.length y0] ++ L) y0 v0) (fun ⟨H0,v0,G0,y0⟩=>(H0,v0)) h ?_ ?_
 rintro ⟨H0,v0,G0,y0⟩ J0 ⟨z2,I2,Z3,V2⟩ h
 try dsimp only at h
 refine AB<|Ao<|Ae rfl ?_
 obtain ⟨U4,q4,h⟩:=bi h
 refine Ab (FV.subc (i:=q0) (j:=1) rfl rfl q4)<|Af rfl<|Aa ?_
 exact x2 (H0,U4,v0,G0,y0) _ _ ⟨rfl,rfl,rfl,rfl,trivial⟩ ⟨z2,(Tt H2 (Tt R0 I2)),Z3,V2⟩ h
 intro p5 p1 h
 try dsimp only at h
 refine AV rfl h (fun j2 h=>?_) (fun j2 h=>?_)
 refine Ac<|Ae rfl<|Ae rfl ?_
 obtain ⟨c5,K4,h⟩:=bi h
 refine Bf (fst:=[]) (cap:=[]) .plain body140 rfl (e2 rfl rfl) (fun w9 hw9=>wide_taken_c n _ w9 (F0.hL hL hw9) A0 (Ap g1 hw9) R1 (Ap E1 hw9) K4) rfl (fun P5 H5 P2 ⟨E5,hu_,b4⟩=>?_)
 subst hu_
 obtain ⟨q1,s1⟩:=F0.agr P2
 obtain ⟨V1,M4,h⟩:=bi h
 refine Bf (fst:=[]) (cap:=[]) .plain body133 rfl (e2 rfl rfl) (fun w9 hw9=>wide_trimmed_c n _ w9 (q1.hL hL hw9) false c5 (Ap b4 hw9) M4) rfl (fun Q5 I5 Q2 ⟨H1,hu_,c4⟩=>?_)
 subst hu_
 obtain ⟨Y0,t1⟩:=q1.agr Q2
 refine Ab (FV.field1 (cs:=[.bool V1.fe,H1]) (off:=1) (m:=1) (by kernel_rfl) (by kernel_rfl) rfl rfl)<|Af rfl<|Aa<|dt 10 tb121_16 (fun j0 u0=>?_)
 refine Ag 0 1 j0 rfl u0 (fun _=>Ak rfl) rfl<|Ag 1 3 j0 rfl u0 (fun _=>Ak rfl) rfl ?_
 obtain ⟨j1,s4,h⟩:=bi h
 refine Ag 2 7 j0 rfl u0 (fun _=>FV.quoc (i:=q0) (j:=64) rfl rfl s4) rfl ?_
 obtain ⟨M1,A4,h⟩:=bi h
 obtain ⟨z1,B4⟩:=idx_in A4
 have K3:=Tt R0 (Tt s1 t1)
 have C1:=AR b1 K3
 obtain ⟨X1,v5,U0,d1,t2,d4,D3⟩:=St.nth (α:=UInt64) Y0 .hd C1 B4
 obtain ⟨b2,x5,y1⟩:=St.nthOwn (α:=UInt64) Y0 .hd d1
 obtain rfl:X1 = ⟨b2,0,none⟩:=by rw [y1] at U0; cases U0; rfl
 have d3:t2 = [vU M1]:=d4; subst d3
 refine Ag 3 15 j0 rfl u0 (fun _=>Bp 1 (j1.toNat) rfl U0 rfl z1 d1) rfl<|AC 4 31 1792 j0 rfl u0 (AL rfl (D3 0 _ rfl)) rfl<|Ag 5 63 j0 rfl u0 (fun _=>Ak rfl) rfl ?_
 obtain ⟨V4,t4,h⟩:=bi h
 refine Ag 6 127 j0 rfl u0 (fun _=>FV.remc (i:=q0) (j:=64) rfl rfl t4) rfl ?_
 obtain ⟨P4,t3,h⟩:=bi h
 refine Ag 7 255 j0 rfl u0 (fun _=>FV.shlI (a:=(1:UInt64)) (i:=V4) rfl rfl t3) rfl<|Ag 8 511 j0 rfl u0 (fun _=>FV.orU (a:=M1) (b:=shlU (1:UInt64) P4) rfl rfl) rfl<|Ag 9 1023 j0 rfl u0 (fun _=>Bp 1 (j1.toNat) rfl U0 rfl z1 d1) rfl ?_
 obtain ⟨Z4,D4,h⟩:=bi h
 refine BC (i:=10) (rk j0) (RO.acts (m' :=2047) (sk j0) rfl rfl .plain (Acts.set (α:=UInt64) (i:=j1.toNat) D4 Y0 y1 (fun _=>.hd) C1 rfl rfl rfl rfl rfl (by kernel_rfl)) (fun R5 ⟨u2,A2,u1,W2⟩=>?_))
 refine AE (dk j0) ?_
 have E3:=Aq c4 u1
 have M3:=Tt s1 (Tt t1 u1)
 exact p1 (V1.fo,Z4,H1,u2) _ _ ⟨rfl,rfl,rfl,rfl,trivial⟩ ⟨A2,M3,E3,W2⟩ h
 refine Au ?_
 have F3:=AR b1 R0
 exact p1 (A0,p0,D0,s0) _ _ ⟨rfl,rfl,rfl,rfl,trivial⟩ ⟨F0,AQ _ _,g1,F3⟩ h
 refine Be rfl ?_
 have h:=j3 _ h
 try dsimp only at h
 refine Ac<|Ae rfl<|Ae rfl<|Af rfl<|Af rfl<|Aa<|Al rfl ?_
 have g4:=Bn (α:=UInt64) E0 .hd b1 hL
 have Q0:=Bw E0 .hd
 have J2:=Bx E0 .hd
 have j4:=By (α:=UInt64) (v:=(.slice (some ⟨b0,0,none⟩) ((a0.length:Nat):Int).toNat ((a0.length:Nat):Int).toNat)) (xs:=p0) Q0 L g4
 refine Am hb0 Tryz.func121 rfl (.cons (.tmp rfl) (.cons (.tmp rfl) .nil)) rfl ?_
 cases h
 have G3:=Aq D1 J2
 exact ⟨Q0.ag,fun w9 hw9=>⟨(.slice (some ⟨b0,0,none⟩) ((a0.length:Nat):Int).toNat ((a0.length:Nat):Int).toNat),D0,rfl,Q0.kd j4 hw9,Q0.kd G3 hw9⟩⟩
def tb97_1:List (Nat × Nat × Nat):=[(0,512,4),(1,1024,512),(0,2048,8),(4,4096,2048),(3,32,1024),(31,64,4096)]
theorem body121:bodyB Tryz.prog 121 = true:=by kernel_rfl
def wide_Long_Common_l1 (n:Nat) (d0:(List UInt64) × (List UInt64) → Option (List UInt64)):(List UInt64) × (List UInt64) → Option (List UInt64)
  | (c0,b0)=>(if 0 < b0.length then (wide_divided_p n c0 b0).bind fun g0=>d0 (b0,g0.2) else some c0)
def wide_Long_Common_p (n:Nat) (a0:TLong) (a1:TLong):Option TLong:=
  Option.bind (loopF (wide_Long_Common_l1 n) n (a0.fo,a1.fo)) (fun b0=>some (⟨false,b0⟩:TLong))
theorem wide_Long_Common_c (n:Nat) (L:List Nat) (w:World) (hL:∀ b ∈ L,b < w.heap.size) (a0:TLong) {v0_1:Value} (h0_1:Rep.R w L [v0_1] a0.fo) (a1:TLong) {v1_1:Value} (h1_1:Rep.R w L [v1_1] a1.fo)  {r:TLong} (h:wide_Long_Common_p n a0 a1 = some r) :
    Calls Tryz.prog 97 #[.agg #[.bool a0.fe,v0_1],.agg #[.bool a1.fe,v1_1]] w (Gives w fun w' u=>∃ v0_1:Value,u = .agg #[.bool r.fe,v0_1]∧Rep.R w' L [v0_1] r.fo):=by
 unfold wide_Long_Common_p at h
 have hS0:=Ay w
 refine AD Tryz.func97 rfl rfl rfl (fun _ cs0 hb0=>?_)
 refine Ac<|Ai .plain rfl (Av hS0 rfl rfl) (fun y1 c1 C0 j1=>?_)
 refine Ai .plain rfl (Av C0 rfl rfl) (fun z1 d1 D0 k1=>?_)
 refine Ai .plain rfl (Ar [.bool false,vN] D0) (fun X0 g0 u0 p1=>?_)
 refine Aa<|Aj<|dt 6 tb97_1 (fun d0 j0=>?_)
 refine Ag 0 1 d0 rfl j0 (fun _=>AX 1 rfl) rfl<|AC 1 3 48 d0 rfl j0 (AL rfl ((u0.memA (.tl (.tl .hd))) 1 _ rfl)) rfl<|Ag 2 7 d0 rfl j0 (fun _=>AX 1 rfl) rfl<|AC 3 15 32 d0 rfl j0 (AL rfl ((u0.memA (.tl .hd)) 1 _ rfl)) rfl<|Ag 4 31 d0 rfl j0 (fun _=>Bi rfl) rfl<|Ag 5 63 d0 rfl j0 (fun _=>Bi rfl) rfl<|AE (dk d0)<|Aj<|Az ?_
 obtain ⟨v0,q1⟩:=AG u0 (.one .hd .done)
 have J0:=AO h0_1 v0
 have K0:=AO h1_1 v0
 obtain ⟨u1,Q0,I0⟩:=bind_in2 h
 refine Bm (α:=(List UInt64) × (List UInt64) × Value × Value) (fun ⟨p0,c0,b0,k0⟩=>[(4,vP g0),(5,b0),(6,k0)]) (fun ⟨p0,c0,b0,k0⟩ q0=>St w q0 [.cells g0 [.bool false,vN] 144]∧Tr X0 [.cells g0 [.bool false,vN] 144] q0 [.cells g0 [.bool false,vN] 144]∧Rep.R q0 (bl [.cells g0 [.bool false,vN] 144] ++ L) [b0] p0∧Rep.R q0 (bl [.cells g0 [.bool false,vN] 144] ++ L) [k0] c0) (fun ⟨p0,c0,b0,k0⟩=>(p0,c0)) (a0.fo,a1.fo,v0_1,v1_1) Q0 ⟨rfl,rfl,rfl,trivial⟩ ⟨v0,AQ _ _,J0,K0⟩ ?_
 rintro b1 ⟨p0,c0,b0,k0⟩ q0 B0 ⟨x0,F0,s0,t0⟩ h
 unfold wide_Long_Common_l1 at h
 try dsimp only at h
 refine Aj<|Ac<|Ae rfl ?_
 have s1:c0.length ≤ 281474976710656:=AU t0
 refine Ab (Bd (xs:=c0) Tryz.underlying142 rfl t0)<|Ab (FV.gtrN (i:=c0.length) (j:=0) rfl rfl)<|Aa<|AV rfl h (fun A0 h=>?_) (fun A0 h=>?_)
 refine Au<|Az<|Ac<|Ae rfl<|Ae rfl ?_
 obtain ⟨Y0,V0,h⟩:=bi h
 refine Bf (fst:=[]) (cap:=[]) .plain body121 rfl (e2 rfl rfl) (fun w9 hw9=>wide_divided_c n _ w9 (x0.hL hL hw9) p0 (Ap s0 hw9) c0 (Ap t0 hw9) V0) rfl (fun A1 x1 H0 ⟨v1,W0,hu_,t1,R0⟩=>?_)
 subst hu_
 obtain ⟨E0,z0⟩:=x0.agr H0
 refine Ae rfl<|Ab (Ah rfl rfl)<|Ab (Ah rfl rfl)<|Af rfl<|Af rfl<|Aa<|Ao<|Ae rfl<|Ae rfl<|Af rfl<|Af rfl<|Aa<|AB ?_
 have M0:=Aq t0 z0
 exact B0 (c0,Y0.2,k0,W0) _ _ ⟨rfl,rfl,rfl,trivial⟩ ⟨E0,(Tt F0 z0),M0,R0⟩ h
 refine Be rfl ?_
 have h:=I0 _ h
 try dsimp only at h
 refine Ac<|Ae rfl ?_
 obtain ⟨Z0,g1,U0,_⟩:=Rep.sl s0
 refine Ab (AM (vs:=[b0]) (u:=.agg #[.bool false,b0]) (e1 rfl) (fun w9=>by rw [U0]; try kernel_rfl))<|AJ [.bool false,b0] x0 .hd (o2 rfl (AN s0)) (fun B1 y0 G0=>?_)
 refine Aa<|Al rfl<|Am hb0 Tryz.func97 rfl (.cons (.many (cs:=[.bool false,b0]) (by kernel_rfl) rfl (y0.memA .hd)) .nil) rfl ?_
 cases h
 have P0:=Aq s0 G0
 exact ⟨y0.ag,fun w9 hw9=>⟨b0,rfl,y0.kd P0 hw9⟩⟩
def wide_Long_Turned_p (n:Nat) (a0:TLong):Option TLong:=
  (wide_trimmed_p n (!a0.fe) a0.fo).bind fun b0=>some b0
theorem wide_Long_Turned_c (n:Nat) (L:List Nat) (w:World) (hL:∀ b ∈ L,b < w.heap.size) (a0:TLong) {v0_1:Value} (h0_1:Rep.R w L [v0_1] a0.fo)  {r:TLong} (h:wide_Long_Turned_p n a0 = some r) :
    Calls Tryz.prog 124 #[.agg #[.bool a0.fe,v0_1]] w (Gives w fun w' u=>∃ v0_1:Value,u = .agg #[.bool r.fe,v0_1]∧Rep.R w' L [v0_1] r.fo):=by
 unfold wide_Long_Turned_p at h
 have hS0:=Ay w
 refine AD Tryz.func124 rfl rfl rfl (fun _ cs0 hb0=>?_)
 refine Ac<|Ai .plain rfl (Av hS0 rfl rfl) (fun C0 v0 k0 y0=>?_)
 refine Ai .plain rfl (Ar [.bool false,vN] k0) (fun D0 x0 b0 z0=>?_)
 refine Aa<|Ac<|AZ 0 rfl<|AY rfl ((b0.memA (.tl .hd)) 0 _ rfl)<|Ab (BG rfl)<|AZ 1 rfl<|AY rfl ((b0.memA (.tl .hd)) 1 _ rfl) ?_
 obtain ⟨j0,u0,h⟩:=bi h
 refine Bf (fst:=[]) (cap:=[]) .plain body133 rfl (e2 rfl rfl) (fun w9 hw9=>wide_trimmed_c n _ w9 (b0.hL hL hw9) (!a0.fe) a0.fo (b0.km h0_1 hw9) u0) rfl (fun E0 B0 s0 ⟨d0,hu_,g0⟩=>?_)
 subst hu_
 obtain ⟨p0,A0⟩:=b0.agr s0
 refine AJ [.bool j0.fe,d0] p0 .hd (o2 rfl (AN g0)) (fun F0 c0 q0=>?_)
 refine Aa<|Al rfl<|Am hb0 Tryz.func124 rfl (.cons (.many (cs:=[.bool j0.fe,d0]) (by kernel_rfl) rfl (c0.memA .hd)) .nil) rfl ?_
 cases h
 have t0:=Aq g0 q0
 exact ⟨c0.ag,fun w9 hw9=>⟨d0,rfl,c0.kd t0 hw9⟩⟩
def wide_added_l1 (_n:Nat) (xs4:List UInt64) (xs7:List UInt64) (k0:UInt64 × Nat × (List UInt64) → Option ((List UInt64) × UInt64)):UInt64 × Nat × (List UInt64) → Option ((List UInt64) × UInt64)
  | (g0,b0,c0)=>(if b0 < xs4.length then (xs4[b0]?).bind fun q0=>jn (fun p0=>(add64 q0 p0 g0).bind fun j0=>(c0[b0]?).bind fun u0=>(put c0 ((b0:Nat):Int) j0.1).bind fun t0=>k0 (j0.2,b0 + 1,t0)) (fun d0=>(if b0 < xs7.length then (xs7[b0]?).bind fun s0=>d0 s0 else d0 (0:UInt64))) else some (c0,g0))
def wide_added_p (n:Nat) (a0:List UInt64) (a1:List UInt64):Option (List UInt64):=
  jn (fun (xs4,xs7)=>(mk ((xs4.length + 1:Nat):Int) (0:UInt64)).bind fun g0=>Option.bind (loopF (wide_added_l1 n xs4 xs7) n ((0:UInt64),0,g0)) (fun (c0,d0)=>(c0[xs4.length]?).bind fun k0=>(put c0 ((xs4.length:Nat):Int) d0).bind fun j0=>some j0)) (fun b0=>(if a0.length < a1.length then b0 (a1,a0) else b0 (a0,a1)))
theorem wide_added_c (n:Nat) (L:List Nat) (w:World) (hL:∀ b ∈ L,b < w.heap.size) (a0:List UInt64) {v0_0:Value} (h0_0:Rep.R w L [v0_0] a0) (a1:List UInt64) {v1_0:Value} (h1_0:Rep.R w L [v1_0] a1)  {r:List UInt64} (h:wide_added_p n a0 a1 = some r) :
    Calls Tryz.prog 138 #[v0_0,v1_0] w (Gives w fun w' u=>∃ v0_0:Value,u = v0_0∧Rep.R w' L [v0_0] r):=by
 unfold wide_added_p at h
 have hS0:=Ay w
 refine AD Tryz.func138 rfl rfl rfl (fun _ cs0 hb0=>?_)
 refine Ac<|Af rfl<|Aa<|Aj<|Ac<|Ae rfl ?_
 have hl1:a0.length ≤ 281474976710656:=AU h0_0
 refine Ab (Bd (xs:=a0) Tryz.underlying142 rfl h0_0)<|Ae rfl ?_
 have hl2:a1.length ≤ 281474976710656:=AU h1_0
 refine Ab (Bd (xs:=a1) Tryz.underlying142 rfl h1_0)<|Ab (Br (i:=a0.length) (j:=a1.length) rfl rfl)<|Aa<|MX.join (α:=(List UInt64) × (List UInt64) × Value × Value) (fun ⟨xs4,xs7,v5,v8⟩=>[(0,v5),(1,v8)]) (fun ⟨xs4,xs7,v5,v8⟩ wx9=>St w wx9 []∧Tr w [] wx9 []∧Rep.R wx9 (bl [] ++ L) [v5] xs4∧Rep.R wx9 (bl [] ++ L) [v8] xs7) (fun ⟨xs4,xs7,v5,v8⟩=>(xs4,xs7)) h ?_ ?_
 rintro ⟨xs4,xs7,v5,v8⟩ wx9 ⟨s1,K2,hr6,hr9⟩ h
 try dsimp only at h
 refine Ac<|Ae rfl ?_
 have Q2:xs4.length ≤ 281474976710656:=AU hr6
 refine Ab (Bd (xs:=xs4) Tryz.underlying142 rfl hr6)<|Ab (Bl (i:=xs4.length) (j:=1) rfl rfl (by omega)) ?_
 obtain ⟨E0,R0,h⟩:=bi h
 refine Ai .plain rfl (Does.mk (α:=UInt64) R0 s1 el142 rfl) (fun q2 c0 H0 t0=>?_)
 have y1:=AH (cs:=(List.replicate ((xs4.length + 1:Nat):Int).toNat [vW 0]).flatten) (xs:=E0) H0 L (Cells.mk R0 rfl)
 refine Af rfl<|Aa<|Ac<|Af rfl<|Aa<|Aj<|Ac<|Ae rfl ?_
 have Q1:=Aq hr6 t0
 refine Ab (Bd (xs:=xs4) Tryz.underlying142 rfl Q1)<|Ae rfl<|Aa<|Az ?_
 obtain ⟨W2,R1,G1⟩:=bind_in2 h
 refine Bm (α:=UInt64 × Nat × (List UInt64) × (List Value)) (fun ⟨j0,b0,d0,g0⟩=>[(0,v5),(1,v8),(5,(.slice (some ⟨c0,0,none⟩) ((xs4.length + 1:Nat):Int).toNat ((xs4.length + 1:Nat):Int).toNat)),(6,vU j0),(21,v5),(22,vI ((xs4.length:Nat):Int)),(23,vI ((b0:Nat):Int))]) (fun ⟨j0,b0,d0,g0⟩ q0=>St w q0 [.row w.heap.size 49 (Rep.size UInt64) (.slice (some ⟨c0,0,none⟩) ((xs4.length + 1:Nat):Int).toNat ((xs4.length + 1:Nat):Int).toNat) d0.length g0]∧Tr q2 [.row w.heap.size 49 (Rep.size UInt64) (.slice (some ⟨c0,0,none⟩) ((xs4.length + 1:Nat):Int).toNat ((xs4.length + 1:Nat):Int).toNat) E0.length ((List.replicate ((xs4.length + 1:Nat):Int).toNat [vW 0]).flatten)] q0 [.row w.heap.size 49 (Rep.size UInt64) (.slice (some ⟨c0,0,none⟩) ((xs4.length + 1:Nat):Int).toNat ((xs4.length + 1:Nat):Int).toNat) d0.length g0]∧Cells q0 (bl [.row w.heap.size 49 (Rep.size UInt64) (.slice (some ⟨c0,0,none⟩) ((xs4.length + 1:Nat):Int).toNat ((xs4.length + 1:Nat):Int).toNat) d0.length g0] ++ L) g0 d0) (fun ⟨j0,b0,d0,g0⟩=>(j0,b0,d0)) ((0:UInt64),0,E0,(List.replicate ((xs4.length + 1:Nat):Int).toNat [vW 0]).flatten) R1 ⟨rfl,rfl,rfl,rfl,rfl,rfl,rfl,trivial⟩ ⟨H0,AQ _ _,y1⟩ ?_
 rintro B2 ⟨j0,b0,d0,g0⟩ q0 q1 ⟨p0,s0,y0⟩ h
 unfold wide_added_l1 at h
 try dsimp only at h
 refine Ac<|Ab (Br (i:=b0) (j:=xs4.length) rfl rfl)<|Aa<|Aj<|AV rfl h (fun Z0 h=>?_) (fun Z0 h=>?_)
 refine Au<|Aj<|Az<|Ac<|Ae rfl ?_
 obtain ⟨D0,b2,h⟩:=bi h
 have K1:=Aq hr6 (Tt t0 s0)
 obtain ⟨y2,D2,A1,H1,d1,U1,J1⟩:=Bk K1 b2
 have B1:d1 = [vU D0]:=U1; subst B1
 refine Ab (Bp 1 b0 rfl A1 rfl rfl H1)<|AY rfl (J1 0 _ rfl)<|Af rfl<|Af rfl<|Aa<|Ac<|Af rfl<|Aa<|Aj<|Ac<|Ae rfl<|Ae rfl ?_
 have B0:=Aq hr9 (Tt t0 s0)
 have R2:xs7.length ≤ 281474976710656:=AU B0
 refine Ab (Bd (xs:=xs7) Tryz.underlying142 rfl B0)<|Ab (Br (i:=b0) (j:=xs7.length) rfl rfl)<|Aa<|MX.join (α:=UInt64) (fun k0=>[(0,v5),(1,v8),(5,(.slice (some ⟨c0,0,none⟩) ((xs4.length + 1:Nat):Int).toNat ((xs4.length + 1:Nat):Int).toNat)),(6,vU j0),(21,v5),(22,vI ((xs4.length:Nat):Int)),(23,vI ((b0:Nat):Int)),(7,vI ((b0:Nat):Int)),(8,vU D0),(9,vU k0)]) (fun k0 C0=>St w C0 [.row w.heap.size 49 (Rep.size UInt64) (.slice (some ⟨c0,0,none⟩) ((xs4.length + 1:Nat):Int).toNat ((xs4.length + 1:Nat):Int).toNat) d0.length g0]∧Tr q0 [.row w.heap.size 49 (Rep.size UInt64) (.slice (some ⟨c0,0,none⟩) ((xs4.length + 1:Nat):Int).toNat ((xs4.length + 1:Nat):Int).toNat) d0.length g0] C0 [.row w.heap.size 49 (Rep.size UInt64) (.slice (some ⟨c0,0,none⟩) ((xs4.length + 1:Nat):Int).toNat ((xs4.length + 1:Nat):Int).toNat) d0.length g0]) (fun k0=>k0) h ?_ ?_
 rintro k0 C0 ⟨u0,I0⟩ h
 try dsimp only at h
 refine Ao<|Ae rfl<|Ae rfl<|Ae rfl<|Ae rfl<|Ae rfl ?_
 obtain ⟨x2,p2,h⟩:=bi h
 refine Ab (FV.add64 (a:=D0) (b:=k0) (c:=j0) Tryz.func160 rfl (by kernel_rfl) (by kernel_rfl) (by kernel_rfl) rfl rfl rfl p2)<|Ae rfl<|Ab (Ah rfl rfl)<|Ab (Ah rfl rfl) ?_
 obtain ⟨s2,c2,h⟩:=bi h
 have Q0:=AR y0 I0
 obtain ⟨V0,E2,z0,M0,g1,V1,U2⟩:=St.nth (α:=UInt64) u0 .hd Q0 c2
 obtain ⟨X0,F2,J0⟩:=St.nthOwn (α:=UInt64) u0 .hd M0
 obtain rfl:V0 = ⟨X0,0,none⟩:=by rw [J0] at z0; cases z0; rfl
 have C1:g1 = [vU s2]:=V1; subst C1
 refine Ab (Bp 1 b0 rfl z0 rfl rfl M0) ?_
 obtain ⟨u2,j2,h⟩:=bi h
 refine RG.acts' .plain (Acts.set (α:=UInt64) (i:=b0) j2 u0 J0 (fun _=>.hd) Q0 rfl rfl rfl rfl rfl (by kernel_rfl)) (fun X2 ⟨j1,u1,v1,x1⟩=>?_)
 refine Af rfl<|Aa<|AB<|Ao<|Ab (Bl (i:=b0) (j:=1) rfl rfl (by omega))<|Ae rfl<|Aa ?_
 exact q1 (x2.2,b0 + 1,u2,j1) _ _ ⟨rfl,rfl,rfl,rfl,rfl,rfl,rfl,trivial⟩ ⟨u1,(Tt s0 (Tt I0 v1)),x1⟩ h
 intro C2 G0 h
 try dsimp only at h
 refine AV rfl h (fun b1 h=>?_) (fun b1 h=>?_)
 refine Ao<|Ae rfl<|Ae rfl ?_
 obtain ⟨U0,d2,h⟩:=bi h
 obtain ⟨z2,G2,D1,I1,k1,W1,M1⟩:=Bk B0 d2
 have E1:k1 = [vU U0]:=W1; subst E1
 refine Ab (Bp 1 b0 rfl D1 rfl rfl I1)<|AY rfl (M1 0 _ rfl)<|Af rfl<|Aa ?_
 exact G0 U0 _ _ ⟨rfl,rfl,rfl,rfl,rfl,rfl,rfl,rfl,rfl,rfl,trivial⟩ ⟨p0,AQ _ _⟩ h
 refine Au ?_
 exact G0 (0:UInt64) _ _ ⟨rfl,rfl,rfl,rfl,rfl,rfl,rfl,rfl,rfl,rfl,trivial⟩ ⟨p0,AQ _ _⟩ h
 refine Be rfl ?_
 have h:=G1 _ h
 try dsimp only at h
 refine Ac<|Ae rfl<|Ae rfl ?_
 have P1:=Aq hr6 (Tt t0 s0)
 refine Ab (Bd (xs:=xs4) Tryz.underlying142 rfl P1)<|Ae rfl ?_
 obtain ⟨t2,g2,h⟩:=bi h
 obtain ⟨W0,H2,A0,P0,p1,X1,V2⟩:=St.nth (α:=UInt64) p0 .hd y0 g2
 obtain ⟨Y0,I2,K0⟩:=St.nthOwn (α:=UInt64) p0 .hd P0
 obtain rfl:W0 = ⟨Y0,0,none⟩:=by rw [K0] at A0; cases A0; rfl
 have F1:p1 = [vU t2]:=X1; subst F1
 refine Ab (Bp 1 (xs4.length) rfl A0 rfl rfl P0) ?_
 obtain ⟨v2,k2,h⟩:=bi h
 refine RG.acts' .plain (Acts.set (α:=UInt64) (i:=xs4.length) k2 p0 K0 (fun _=>.hd) y0 rfl rfl rfl rfl rfl (by kernel_rfl)) (fun Y2 ⟨J2,v0,M2,z1⟩=>?_)
 refine Aa<|Ac<|Ae rfl<|Af rfl<|Aa<|Al rfl ?_
 have Y1:=Bn (α:=UInt64) v0 .hd z1 hL
 have x0:=Bw v0 .hd
 have P2:=Bx v0 .hd
 have Z1:=By (α:=UInt64) (v:=(.slice (some ⟨c0,0,none⟩) ((xs4.length + 1:Nat):Int).toNat ((xs4.length + 1:Nat):Int).toNat)) (xs:=v2) x0 L Y1
 refine Bb hb0 Tryz.func138 rfl rfl ?_
 cases h
 exact ⟨x0.ag,fun w9 hw9=>⟨(.slice (some ⟨c0,0,none⟩) ((xs4.length + 1:Nat):Int).toNat ((xs4.length + 1:Nat):Int).toNat),rfl,x0.kd Z1 hw9⟩⟩
 intro A2 F0 h
 try dsimp only at h
 refine AV rfl h (fun c1 h=>?_) (fun c1 h=>?_)
 refine Ao<|Ae rfl<|Ae rfl<|Af rfl<|Af rfl<|Aa ?_
 exact F0 (a1,a0,v1_0,v0_0) _ _ ⟨rfl,rfl,trivial⟩ ⟨hS0,AQ _ _,h1_0,h0_0⟩ h
 refine Au ?_
 exact F0 (a0,a1,v0_0,v1_0) _ _ ⟨rfl,rfl,trivial⟩ ⟨hS0,AQ _ _,h0_0,h1_0⟩ h
def tb118_2:List (Nat × Nat × Nat):=[(0,1024,4),(1,2048,1024),(0,4096,4),(4,8192,4096),(0,16384,8),(16,32768,16384),(40,65536,40960),(66,131072,67584),(255,0,131088)]
def tb118_5:List (Nat × Nat × Nat):=[(0,67108864,4),(1,134217728,67108864),(0,268435456,4),(4,536870912,268435456),(0,1073741824,8),(16,2147483648,1073741824),(40,4294967296,2684354560),(66,8589934592,4429185024),(255,0,8589934608)]
theorem body138:bodyB Tryz.prog 138 = true:=by kernel_rfl
def wide_Long_Plus_p (n:Nat) (a0:TLong) (a1:TLong):Option TLong:=
  (if (a0.fe == a1.fe) = true then (wide_added_p n a0.fo a1.fo).bind fun j0=>(wide_trimmed_p n a0.fe j0).bind fun k0=>some k0 else (wide_compared_p n a0.fo a1.fo).bind fun p0=>jn (fun (t0,d0,c0,g0)=>(wide_taken_p n g0 d0).bind fun q0=>(wide_trimmed_p n c0 q0).bind fun s0=>some s0) (fun b0=>(if p0 < 0 then b0 (a0.fe,a0.fo,a1.fe,a1.fo) else b0 (a1.fe,a1.fo,a0.fe,a0.fo))))
theorem wide_Long_Plus_c (n:Nat) (L:List Nat) (w:World) (hL:∀ b ∈ L,b < w.heap.size) (a0:TLong) {v0_1:Value} (h0_1:Rep.R w L [v0_1] a0.fo) (a1:TLong) {v1_1:Value} (h1_1:Rep.R w L [v1_1] a1.fo)  {r:TLong} (h:wide_Long_Plus_p n a0 a1 = some r) :
    Calls Tryz.prog 118 #[.agg #[.bool a0.fe,v0_1],.agg #[.bool a1.fe,v1_1]] w (Gives w fun w' u=>∃ v0_1:Value,u = .agg #[.bool r.fe,v0_1]∧Rep.R w' L [v0_1] r.fo):=by
 unfold wide_Long_Plus_p at h
 have hS0:=Ay w
 refine AD Tryz.func118 rfl rfl rfl (fun _ cs0 hb0=>?_)
 refine Ac<|Ai .plain rfl (Av hS0 rfl rfl) (fun s2 s0 X0 U1=>?_)
 refine Ai .plain rfl (Av X0 rfl rfl) (fun t2 t0 Y0 V1=>?_)
 refine Ai .plain rfl (Ar [.bool false,vN] Y0) (fun M1 u0 b0 W1=>?_)
 refine Aa<|Aj<|Ac<|AZ 0 rfl<|AY rfl ((b0.memA (.tl (.tl .hd))) 0 _ rfl)<|AZ 0 rfl<|AY rfl ((b0.memA (.tl .hd)) 0 _ rfl)<|Ab (FV.eqlB (a:=a0.fe) (b:=a1.fe) Tryz.underlying4 rfl rfl)<|Aa<|MX.ifb rfl h (fun V0 h=>?_) (fun V0 h=>?_)
 refine Aj<|dt 8 tb118_2 (fun c0 v0=>?_)
 refine Ag 0 1 c0 rfl v0 (fun _=>AX 0 rfl) rfl<|AC 1 3 384 c0 rfl v0 (AL rfl ((b0.memA (.tl (.tl .hd))) 0 _ rfl)) rfl<|Ag 2 7 c0 rfl v0 (fun _=>AX 1 rfl) rfl<|AC 3 15 448 c0 rfl v0 (AL rfl ((b0.memA (.tl (.tl .hd))) 1 _ rfl)) rfl<|Ag 4 31 c0 rfl v0 (fun _=>AX 1 rfl) rfl<|AC 5 63 448 c0 rfl v0 (AL rfl ((b0.memA (.tl .hd)) 1 _ rfl)) rfl ?_
 obtain ⟨P1,G1,h⟩:=bi h
 refine Bu 6 127 c0 rfl .plain body138 rfl (e2 rfl rfl) (fun w9 hw9=>wide_added_c n _ w9 (b0.hL hL hw9) a0.fo (b0.km h0_1 hw9) a1.fo (b0.km h1_1 hw9) G1) rfl (fun u2 j2 k1 ⟨d2,hu_,C1⟩=>?_)
 subst hu_
 obtain ⟨I0,X1⟩:=b0.agr k1
 obtain ⟨Q0,H1,h⟩:=bi h
 refine Bu 7 255 c0 rfl .plain body133 rfl (e2 rfl rfl) (fun w9 hw9=>wide_trimmed_c n _ w9 (I0.hL hL hw9) a0.fe P1 (Ap C1 hw9) H1) rfl (fun v2 k2 p1 ⟨F0,hu_,M0⟩=>?_)
 subst hu_
 obtain ⟨Z0,Y1⟩:=I0.agr p1
 refine Bq 8 511 c0 rfl rfl .plain (Aw (news:=[.bool Q0.fe,F0]) Z0 .hd rfl rfl rfl rfl rfl rfl (o2 rfl (AN M0))) (fun x2 D0 d1=>?_)
 refine AE (dk c0)<|Al rfl<|Am hb0 Tryz.func118 rfl (.cons (.many (cs:=[.bool Q0.fe,F0]) (by kernel_rfl) rfl (D0.memA .hd)) .nil) rfl ?_
 cases h
 have y1:=Aq M0 d1
 exact ⟨D0.ag,fun w9 hw9=>⟨F0,rfl,D0.kd y1 hw9⟩⟩
 refine Au<|Aj<|Ac<|AZ 1 rfl<|AY rfl ((b0.memA (.tl (.tl .hd))) 1 _ rfl)<|AZ 1 rfl<|AY rfl ((b0.memA (.tl .hd)) 1 _ rfl) ?_
 obtain ⟨R0,I1,h⟩:=bi h
 refine Bg (vI R0) body139 rfl (e2 rfl rfl) (fun w9 hw9=>wide_compared_c n _ w9 (b0.hL0 hL hw9) a0.fo (b0.k0 h0_1 hw9) a1.fo (b0.k0 h1_1 hw9) I1) rfl<|Ab (FV.lss (i:=R0) (j:=0) rfl rfl)<|Aa<|MX.join (α:=Bool × (List UInt64) × Bool × (List UInt64) × Value × Value) (fun ⟨j0,y0,g0,z0,p0,q0⟩=>[(2,vP s0),(3,vP t0),(4,vP u0)]) (fun ⟨j0,y0,g0,z0,p0,q0⟩ B0=>St w B0 [.cells u0 [.bool false,vN] 144,.cells t0 [.bool j0,p0] 144,.cells s0 [.bool g0,q0] 144]∧Tr M1 [.cells u0 [.bool false,vN] 144,.cells t0 [.bool a1.fe,v1_1] 144,.cells s0 [.bool a0.fe,v0_1] 144] B0 [.cells u0 [.bool false,vN] 144,.cells t0 [.bool j0,p0] 144,.cells s0 [.bool g0,q0] 144]∧Rep.R B0 (bl [.cells u0 [.bool false,vN] 144,.cells t0 [.bool j0,p0] 144,.cells s0 [.bool g0,q0] 144] ++ L) [p0] y0∧Rep.R B0 (bl [.cells u0 [.bool false,vN] 144,.cells t0 [.bool j0,p0] 144,.cells s0 [.bool g0,q0] 144] ++ L) [q0] z0) (fun ⟨j0,y0,g0,z0,p0,q0⟩=>(j0,y0,g0,z0)) h ?_ ?_
 rintro ⟨j0,y0,g0,z0,p0,q0⟩ B0 ⟨A0,Z1,D1,E1⟩ h
 try dsimp only at h
 refine Aj<|dt 8 tb118_5 (fun d0 x0=>?_)
 refine Ag 0 1 d0 rfl x0 (fun _=>AX 0 rfl) rfl<|AC 1 3 384 d0 rfl x0 (AL rfl ((A0.memA (.tl (.tl .hd))) 0 _ rfl)) rfl<|Ag 2 7 d0 rfl x0 (fun _=>AX 1 rfl) rfl<|AC 3 15 448 d0 rfl x0 (AL rfl ((A0.memA (.tl (.tl .hd))) 1 _ rfl)) rfl<|Ag 4 31 d0 rfl x0 (fun _=>AX 1 rfl) rfl<|AC 5 63 448 d0 rfl x0 (AL rfl ((A0.memA (.tl .hd)) 1 _ rfl)) rfl ?_
 obtain ⟨Q1,J1,h⟩:=bi h
 refine Bu 6 127 d0 rfl .plain body140 rfl (e2 rfl rfl) (fun w9 hw9=>wide_taken_c n _ w9 (A0.hL hL hw9) z0 (Ap E1 hw9) y0 (Ap D1 hw9) J1) rfl (fun y2 p2 q1 ⟨g2,hu_,F1⟩=>?_)
 subst hu_
 obtain ⟨J0,b2⟩:=A0.agr q1
 obtain ⟨U0,K1,h⟩:=bi h
 refine Bu 7 255 d0 rfl .plain body133 rfl (e2 rfl rfl) (fun w9 hw9=>wide_trimmed_c n _ w9 (J0.hL hL hw9) g0 Q1 (Ap F1 hw9) K1) rfl (fun z2 q2 s1 ⟨G0,hu_,P0⟩=>?_)
 subst hu_
 obtain ⟨b1,c2⟩:=J0.agr s1
 refine Bq 8 511 d0 rfl rfl .plain (Aw (news:=[.bool U0.fe,G0]) b1 .hd rfl rfl rfl rfl rfl rfl (o2 rfl (AN P0))) (fun A2 E0 g1=>?_)
 refine AE (dk d0)<|Al rfl<|Am hb0 Tryz.func118 rfl (.cons (.many (cs:=[.bool U0.fe,G0]) (by kernel_rfl) rfl (E0.memA .hd)) .nil) rfl ?_
 cases h
 have z1:=Aq P0 g1
 exact ⟨E0.ag,fun w9 hw9=>⟨G0,rfl,E0.kd z1 hw9⟩⟩
 intro R1 H0 h
 try dsimp only at h
 refine AV rfl h (fun W0 h=>?_) (fun W0 h=>?_)
 refine Ao<|Ab (AA rfl (b0.memA (.tl .hd)))<|Ab (AA rfl (b0.memA (.tl (.tl .hd)))) ?_
 have A1:=AO h1_1 b0
 refine AJ [.bool a1.fe,v1_1] b0 (.tl (.tl .hd)) (o2 rfl (AN A1)) (fun B2 K0 j1=>?_)
 have B1:=AO h0_1 K0
 refine AJ [.bool a0.fe,v0_1] K0 (.tl .hd) (o2 rfl (AN B1)) (fun C2 C0 c1=>?_)
 refine Aa ?_
 have t1:=AO h0_1 C0
 have u1:=AO h1_1 C0
 exact H0 (a0.fe,a0.fo,a1.fe,a1.fo,v0_1,v1_1) _ _ ⟨rfl,rfl,rfl,trivial⟩ ⟨C0,(Tt j1 c1),t1,u1⟩ h
 refine Au ?_
 have v1:=AO h1_1 b0
 have x1:=AO h0_1 b0
 exact H0 (a1.fe,a1.fo,a0.fe,a0.fo,v1_1,v0_1) _ _ ⟨rfl,rfl,rfl,trivial⟩ ⟨b0,AQ _ _,v1,x1⟩ h
def tb131_2:List (Nat × Nat × Nat):=[(0,262144,4),(1,524288,262144),(0,1048576,8),(4,2097152,1048576),(10,4194304,2621440),(0,8388608,64),(48,16777216,12582912),(0,33554432,4),(128,67108864,33554432),(0,134217728,128),(832,268435456,201326592),(1151,0,16777232),(4095,0,268435488)]
def tb131_8:List (Nat × Nat × Nat):=[(0,35184372088832,16),(0,70368744177664,32),(1,0,35184372088848),(7,0,70368744177696)]
theorem body118:bodyB Tryz.prog 118 = true:=by kernel_rfl
def wide_Long_Parts_p (n:Nat) (a0:TLong) (a1:TLong):Option (TLong × TLong):=
  (wide_divided_p n a0.fo a1.fo).bind fun c0=>(wide_trimmed_p n (!(a0.fe == a1.fe)) c0.1).bind fun d0=>(wide_trimmed_p n a0.fe c0.2).bind fun b0=>(if b0.fe = true then (wide_Long_Plus_p n b0 (⟨false,a1.fo⟩:TLong)).bind fun j0=>(wide_Long_Plus_p n d0 (⟨(!a1.fe),([(1:UInt64)]:List UInt64)⟩:TLong)).bind fun g0=>some (g0,j0) else some (d0,b0))
theorem wide_Long_Parts_c (n:Nat) (L:List Nat) (w:World) (hL:∀ b ∈ L,b < w.heap.size) (a0:TLong) {v0_1:Value} (h0_1:Rep.R w L [v0_1] a0.fo) (a1:TLong) {v1_1:Value} (h1_1:Rep.R w L [v1_1] a1.fo)  {r:TLong × TLong} (h:wide_Long_Parts_p n a0 a1 = some r) :
    Calls Tryz.prog 131 #[.agg #[.bool a0.fe,v0_1],.agg #[.bool a1.fe,v1_1]] w (Gives w fun w' u=>∃ v0_1 v1_1:Value,u = .tuple #[.agg #[.bool r.1.fe,v0_1],.agg #[.bool r.2.fe,v1_1]]∧Rep.R w' L [v0_1] r.1.fo∧Rep.R w' L [v1_1] r.2.fo):=by
 unfold wide_Long_Parts_p at h
 have hS0:=Ay w
 refine AD Tryz.func131 rfl rfl rfl (fun _ cs0 hb0=>?_)
 refine Ac<|Ai .plain rfl (Av hS0 rfl rfl) (fun b4 u1 Y1 H3=>?_)
 refine Ai .plain rfl (Av Y1 rfl rfl) (fun g4 v1 d2 I3=>?_)
 refine Ai .plain rfl (Ar [.bool false,vN] d2) (fun j4 d0 g2 J3=>?_)
 refine Ai .plain rfl (Ar [.bool false,vN] g2) (fun p4 g0 B0 K3=>?_)
 refine Aa<|Ac<|AZ 1 rfl<|Ab (AL rfl ((B0.memA (.tl (.tl (.tl .hd)))) 1 _ rfl))<|AZ 1 rfl<|AY rfl ((B0.memA (.tl (.tl .hd))) 1 _ rfl) ?_
 obtain ⟨R1,x3,h⟩:=bi h
 refine Bf (fst:=[]) (cap:=[]) .plain body121 rfl (e2 rfl rfl) (fun w9 hw9=>wide_divided_c n _ w9 (B0.hL hL hw9) a0.fo (B0.km h0_1 hw9) a1.fo (B0.km h1_1 hw9) x3) rfl (fun q4 U3 D2 ⟨P3,Q3,hu_,s3,t3⟩=>?_)
 subst hu_
 obtain ⟨H0,M3⟩:=B0.agr D2
 refine Ae rfl<|Ab (Ah rfl rfl)<|Ab (Ah rfl rfl)<|Af rfl<|Af rfl<|Aa<|Aj<|dt 11 tb131_2 (fun b0 c0=>?_)
 refine Ag 0 1 b0 rfl c0 (fun _=>AX 0 rfl) rfl<|AC 1 3 7248 b0 rfl c0 (AL rfl ((H0.memA (.tl (.tl (.tl .hd)))) 0 _ rfl)) rfl<|Ag 2 7 b0 rfl c0 (fun _=>AX 0 rfl) rfl<|AC 3 15 7248 b0 rfl c0 (AL rfl ((H0.memA (.tl (.tl .hd))) 0 _ rfl)) rfl<|Ag 4 31 b0 rfl c0 (fun _=>FV.neqB (a:=a0.fe) (b:=a1.fe) Tryz.underlying4 rfl rfl) rfl<|Ag 5 63 b0 rfl c0 (fun _=>Ak rfl) rfl<|Ag 7 191 b0 rfl c0 (fun _=>AX 0 rfl) rfl<|AC 8 447 7168 b0 rfl c0 (AL rfl ((H0.memA (.tl (.tl (.tl .hd)))) 0 _ rfl)) rfl<|Ag 9 959 b0 rfl c0 (fun _=>Ak rfl) rfl ?_
 obtain ⟨v0,y3,h⟩:=bi h
 refine Bu 6 1023 b0 rfl .plain body133 rfl (e2 rfl rfl) (fun w9 hw9=>wide_trimmed_c n _ w9 (H0.hL hL hw9) (!(a0.fe == a1.fe)) R1.1 (Ap s3 hw9) y3) rfl (fun s4 V3 E2 ⟨s0,hu_,K0⟩=>?_)
 subst hu_
 obtain ⟨A1,A2⟩:=H0.agr E2
 obtain ⟨x0,z3,h⟩:=bi h
 have V2:=Aq t3 A2
 refine Bu 10 2047 b0 rfl .plain body133 rfl (e2 rfl rfl) (fun w9 hw9=>wide_trimmed_c n _ w9 (A1.hL hL hw9) a0.fe R1.2 (Ap V2 hw9) z3) rfl (fun t4 W3 F2 ⟨t0,hu_,X0⟩=>?_)
 subst hu_
 obtain ⟨q2,J0⟩:=A1.agr F2
 have W2:=Aq K0 J0
 refine Bq 11 4095 b0 rfl rfl .plain (Aw (news:=[.bool v0.fe,s0]) q2 (.tl .hd) rfl rfl rfl rfl rfl rfl (o2 rfl (AN W2))) (fun u4 s2 y0=>?_)
 have X2:=Aq X0 y0
 refine Bq 12 8191 b0 rfl rfl .plain (Aw (news:=[.bool x0.fe,t0]) s2 .hd rfl rfl rfl rfl rfl rfl (o2 rfl (AN X2))) (fun D3 j0 C0=>?_)
 refine AE (dk b0)<|Aj<|Ac<|AZ 0 rfl<|AY rfl ((j0.memA .hd) 0 _ rfl)<|Aa<|MX.ifb rfl h (fun W1 h=>?_) (fun W1 h=>?_)
 refine Ac<|AZ 1 rfl<|AY rfl ((j0.memA (.tl (.tl .hd))) 1 _ rfl) ?_
 have Y2:=AO h1_1 j0
 obtain ⟨F3,G3,u3,_⟩:=Rep.sl Y2
 refine Ab (AM (vs:=[v1_1]) (u:=.agg #[.bool false,v1_1]) (e1 rfl) (fun w9=>by rw [u3]; try kernel_rfl))<|Ai .plain rfl (Ar [.bool false,vN] j0) (fun v4 V1 B1 I1=>?_)
 have Z2:=AO h1_1 B1
 refine AJ [.bool false,v1_1] B1 .hd (o2 rfl (AN Z2)) (fun x4 I0 J1=>?_)
 refine Aa<|Ac<|Ab (AA rfl (I0.memA (.tl .hd)))<|Ab (AA rfl (I0.memA .hd)) ?_
 obtain ⟨A0,A3,h⟩:=bi h
 have k3:=Tt y0 (Tt C0 (Tt I1 J1))
 have b3:=Aq X0 k3
 refine Bf (fst:=[]) (cap:=[]) .plain body118 rfl (e2 rfl rfl) (fun w9 hw9=>wide_Long_Plus_c n _ w9 (I0.hL hL hw9) x0 (Ap b3 hw9) (⟨false,a1.fo⟩:TLong) (I0.km h1_1 hw9) A3) rfl (fun y4 X3 G2 ⟨u0,hu_,q1⟩=>?_)
 subst hu_
 obtain ⟨t2,B2⟩:=I0.agr G2
 refine AJ [.bool A0.fe,u0] t2 (.tl .hd) (o2 rfl (AN q1)) (fun z4 C1 d1=>?_)
 refine Aa<|Ac<|AZ 0 rfl<|Ab (AL rfl ((C1.memA (.tl (.tl (.tl .hd)))) 0 _ rfl))<|Ab (BG rfl)<|Ai .plain rfl (Ba (α:=UInt64) (xs:=([(1:UInt64)]:List UInt64)) (vs:=[vW 1]) (ds' :=[vW 1]) rfl C1 el142 rfl (e1 rfl) (by kernel_rfl) rfl) (fun A4 D0 D1 g1=>?_)
 have H2:=AH (cs:=[vW 1]) (xs:=(([(1:UInt64)]:List UInt64):List UInt64)) D1 L (Ax (cs:=[vW 1]) (ds:=[]) rfl (AT _ _))
 refine Ab (AM (vs:=[.bool (!a1.fe),(vS D0 1)]) (u:=.agg #[.bool (!a1.fe),(vS D0 1)]) (e2 rfl rfl) (fun w9=>by kernel_rfl))<|Ai .plain rfl (Ar [.bool false,vN] D1) (fun Y3 U1 z1 R0=>?_)
 refine AJ [.bool (!a1.fe),(vS D0 1)] z1 .hd (o2 rfl (St.o1 (α:=UInt64) z1 (.tl .hd))) (fun Z3 E0 U0=>?_)
 refine Aa<|Ao<|Ab (AA rfl (E0.memA (.tl (.tl (.tl (.tl .hd))))))<|Ab (AA rfl (E0.memA .hd)) ?_
 have I2:=AR H2 (Tt R0 U0)
 have p3:=Bn (α:=UInt64) E0 (.tl .hd) I2 hL
 have Y0:=Bw E0 (.tl .hd)
 have Z0:=Bx E0 (.tl .hd)
 have q3:=By (α:=UInt64) (v:=(vS D0 1)) (xs:=([(1:UInt64)]:List UInt64)) Y0 L p3
 obtain ⟨z0,v3,h⟩:=bi h
 have c3:=Tt J0 (Tt y0 (Tt C0 (Tt I1 (Tt J1 (Tt B2 (Tt d1 (Tt g1 (Tt R0 (Tt U0 Z0)))))))))
 have J2:=Aq K0 c3
 refine Bf (fst:=[]) (cap:=[]) .plain body118 rfl (e2 rfl rfl) (fun w9 hw9=>wide_Long_Plus_c n _ w9 (Y0.hL hL hw9) v0 (Ap J2 hw9) (⟨(!a1.fe),([(1:UInt64)]:List UInt64)⟩:TLong) (Ap q3 hw9) v3) rfl (fun c4 R3 C2 ⟨q0,hu_,W0⟩=>?_)
 subst hu_
 obtain ⟨X1,E1⟩:=Y0.agr C2
 refine AJ [.bool z0.fe,q0] X1 (.tl (.tl (.tl .hd))) (o2 rfl (AN W0)) (fun B3 M0 V0=>?_)
 refine Aa<|Aj<|dt 2 tb131_8 (fun k0 P1=>?_)
 refine AC 0 1 12 k0 rfl P1 (AA rfl (M0.memA (.tl (.tl (.tl .hd))))) rfl<|RD.meet (α:=Unit) (fun ()=>[(4,vP d0),(5,vP g0),(46,.agg #[.bool A0.fe,u0])]) (fun () s1=>St w s1 [.cells g0 [.bool A0.fe,u0] 144,.cells d0 [.bool z0.fe,q0] 144]∧Tr B3 [.cells U1 [.bool (!a1.fe),(vS D0 1)] 144,.cells V1 [.bool false,v1_1] 144,.cells g0 [.bool A0.fe,u0] 144,.cells d0 [.bool z0.fe,q0] 144,.cells v1 [.bool a1.fe,v1_1] 144,.cells u1 [.bool a0.fe,v0_1] 144] s1 [.cells g0 [.bool A0.fe,u0] 144,.cells d0 [.bool z0.fe,q0] 144]) 1 7 ?_ ?_
 rintro ⟨⟩ s1 ⟨Z1,F1⟩
 try dsimp only
 have d3:=Tt d1 (Tt g1 (Tt R0 (Tt U0 (Tt Z0 (Tt E1 (Tt V0 F1))))))
 have K2:=Aq q1 d3
 refine Bq 3 15 k0 rfl rfl .plain (Aw (news:=[.bool A0.fe,u0]) Z1 .hd rfl rfl rfl rfl rfl rfl (o2 rfl (AN K2))) (fun d4 F0 u2=>?_)
 refine AE (dk k0)<|Al rfl<|Am hb0 Tryz.func131 rfl (.cons (.many (cs:=[.bool z0.fe,q0]) (by kernel_rfl) rfl (F0.memA (.tl .hd))) (.cons (.many (cs:=[.bool A0.fe,u0]) (by kernel_rfl) rfl (F0.memA .hd)) .nil)) rfl ?_
 cases h
 have K1:=Tt V0 (Tt F1 u2)
 have M2:=Aq W0 K1
 have g3:=Tt d1 (Tt g1 (Tt R0 (Tt U0 (Tt Z0 (Tt E1 K1)))))
 have P2:=Aq q1 g3
 exact ⟨F0.ag,fun w9 hw9=>⟨q0,u0,rfl,F0.kd M2 hw9,F0.kd P2 hw9⟩⟩
 intro x1
 refine BJ [1,2] (rk k0) ⟨?_,?_,trivial⟩
 refine BK (m' :=3) (sk k0) rfl .plain rfl (AA rfl (M0.memA (.tl (.tl .hd)))) ?_
 have k1:=Aq W0 V0
 refine Bq 2 7 k0 rfl rfl .plain (Aw (news:=[.bool z0.fe,q0]) M0 (.tl (.tl (.tl .hd))) rfl rfl rfl rfl rfl rfl (o2 rfl (AN k1))) (fun E3 Q0 c1=>?_)
 obtain ⟨b2,v2⟩:=AG Q0 (.one (.tl (.tl .hd)) (.one (.tl (.tl .hd)) .done))
 exact x1 () _ _ ⟨rfl,rfl,rfl,trivial⟩ ⟨b2,(Tt c1 v2)⟩
 have k1:=Aq W0 V0
 refine RO.now (m' :=5) (sk k0) rfl rfl .plain (Aw (news:=[.bool z0.fe,q0]) M0 (.tl (.tl (.tl .hd))) rfl rfl rfl rfl rfl rfl (o2 rfl (AN k1))) (fun E3 Q0 c1=>?_)
 refine AC 1 7 8 k0 rfl P1 (AA rfl (Q0.memA (.tl (.tl .hd)))) rfl ?_
 obtain ⟨c2,x2⟩:=AG Q0 (.one (.tl (.tl .hd)) (.one (.tl (.tl .hd)) .done))
 exact x1 () _ _ ⟨rfl,rfl,rfl,trivial⟩ ⟨c2,(Tt c1 x2)⟩
 refine Au<|Aj<|dt 2 tb131_8 (fun p0 Q1=>?_)
 refine AC 0 1 12 p0 rfl Q1 (AA rfl (j0.memA (.tl .hd))) rfl<|RD.meet (α:=Unit) (fun ()=>[(4,vP d0),(5,vP g0),(46,.agg #[.bool x0.fe,t0])]) (fun () t1=>St w t1 [.cells g0 [.bool x0.fe,t0] 144,.cells d0 [.bool v0.fe,s0] 144]∧Tr D3 [.cells g0 [.bool x0.fe,t0] 144,.cells d0 [.bool v0.fe,s0] 144,.cells v1 [.bool a1.fe,v1_1] 144,.cells u1 [.bool a0.fe,v0_1] 144] t1 [.cells g0 [.bool x0.fe,t0] 144,.cells d0 [.bool v0.fe,s0] 144]) 1 7 ?_ ?_
 rintro ⟨⟩ t1 ⟨j2,G1⟩
 try dsimp only
 have M1:=Tt y0 (Tt C0 G1)
 have Q2:=Aq X0 M1
 refine Bq 3 15 p0 rfl rfl .plain (Aw (news:=[.bool x0.fe,t0]) j2 .hd rfl rfl rfl rfl rfl rfl (o2 rfl (AN Q2))) (fun k4 G0 H1=>?_)
 refine AE (dk p0)<|Al rfl<|Am hb0 Tryz.func131 rfl (.cons (.many (cs:=[.bool v0.fe,s0]) (by kernel_rfl) rfl (G0.memA (.tl .hd))) (.cons (.many (cs:=[.bool x0.fe,t0]) (by kernel_rfl) rfl (G0.memA .hd)) .nil)) rfl ?_
 cases h
 have j3:=Tt J0 (Tt y0 (Tt C0 (Tt G1 H1)))
 have R2:=Aq K0 j3
 have U2:=Aq X0 (Tt M1 H1)
 exact ⟨G0.ag,fun w9 hw9=>⟨s0,t0,rfl,G0.kd R2 hw9,G0.kd U2 hw9⟩⟩
 intro y1
 refine BJ [1,2] (rk p0) ⟨?_,?_,trivial⟩
 refine BK (m' :=3) (sk p0) rfl .plain rfl (AA rfl (j0.memA .hd)) ?_
 have p1:=Tt J0 (Tt y0 C0)
 have j1:=Aq K0 p1
 refine Bq 2 7 p0 rfl rfl .plain (Aw (news:=[.bool v0.fe,s0]) j0 (.tl .hd) rfl rfl rfl rfl rfl rfl (o2 rfl (AN j1))) (fun C3 P0 b1=>?_)
 obtain ⟨k2,y2⟩:=AG P0 (.one .hd (.one .hd .done))
 exact y1 () _ _ ⟨rfl,rfl,rfl,trivial⟩ ⟨k2,(Tt b1 y2)⟩
 have p1:=Tt J0 (Tt y0 C0)
 have j1:=Aq K0 p1
 refine RO.now (m' :=5) (sk p0) rfl rfl .plain (Aw (news:=[.bool v0.fe,s0]) j0 (.tl .hd) rfl rfl rfl rfl rfl rfl (o2 rfl (AN j1))) (fun C3 P0 b1=>?_)
 refine AC 1 7 8 p0 rfl Q1 (AA rfl (P0.memA .hd)) rfl ?_
 obtain ⟨p2,z2⟩:=AG P0 (.one .hd (.one .hd .done))
 exact y1 () _ _ ⟨rfl,rfl,rfl,trivial⟩ ⟨p2,(Tt b1 z2)⟩
structure TRatio where
  ft:TLong
  fp:TLong
  deriving DecidableEq
instance:Rep TRatio:=Rep.via (β:=TLong × TLong) fun x=>(x.ft,x.fp)
def tb113_5:List (Nat × Nat × Nat):=[(0,134217728,64),(1,268435456,134217728),(0,536870912,256),(6,1073741824,536870912),(11,0,268435520),(31,0,1073742080)]
theorem body97:bodyB Tryz.prog 97 = true:=by kernel_rfl
theorem body124:bodyB Tryz.prog 124 = true:=by kernel_rfl
theorem body131:bodyB Tryz.prog 131 = true:=by kernel_rfl
def share_Lowest_p (n:Nat) (a0:TLong) (a1:TLong):Option TRatio:=
  (wide_Long_Common_p n a0 a1).bind fun c0=>(wide_Long_Parts_p n a0 c0).bind fun d0=>(wide_Long_Parts_p n a1 c0).bind fun b0=>(if b0.1.fe = true then (wide_Long_Turned_p n d0.1).bind fun g0=>(wide_Long_Turned_p n b0.1).bind fun j0=>some (⟨g0,j0⟩:TRatio) else some (⟨d0.1,b0.1⟩:TRatio))
theorem share_Lowest_c (n:Nat) (L:List Nat) (w:World) (hL:∀ b ∈ L,b < w.heap.size) (a0:TLong) {v0_1:Value} (h0_1:Rep.R w L [v0_1] a0.fo) (a1:TLong) {v1_1:Value} (h1_1:Rep.R w L [v1_1] a1.fo)  {r:TRatio} (h:share_Lowest_p n a0 a1 = some r) :
    Calls Tryz.prog 113 #[.agg #[.bool a0.fe,v0_1],.agg #[.bool a1.fe,v1_1]] w (Gives w fun w' u=>∃ v0_1 v0_3:Value,u = .agg #[.bool r.ft.fe,v0_1,.bool r.fp.fe,v0_3]∧Rep.R w' L [v0_1] r.ft.fo∧Rep.R w' L [v0_3] r.fp.fo):=by
 unfold share_Lowest_p at h
 have hS0:=Ay w
 refine AD Tryz.func113 rfl rfl rfl (fun _ cs0 hb0=>?_)
 refine Ac<|Ai .plain rfl (Av hS0 rfl rfl) (fun I3 b3 y1 x3=>?_)
 refine Ai .plain rfl (Av y1 rfl rfl) (fun R3 c3 B1 y3=>?_)
 refine Ai .plain rfl (Ar [.bool false,vN,.bool false,vN] B1) (fun U3 d3 j0 z3=>?_)
 refine Aa<|Ac<|Ab (AA rfl (j0.memA (.tl (.tl .hd))))<|Ab (AA rfl (j0.memA (.tl .hd))) ?_
 obtain ⟨X0,M2,h⟩:=bi h
 refine Bf (fst:=[]) (cap:=[]) .plain body97 rfl (e2 rfl rfl) (fun w9 hw9=>wide_Long_Common_c n _ w9 (j0.hL hL hw9) a0 (j0.km h0_1 hw9) a1 (j0.km h1_1 hw9) M2) rfl (fun V3 D3 V1 ⟨R2,hu_,W0⟩=>?_)
 subst hu_
 obtain ⟨C1,A3⟩:=j0.agr V1
 refine Ai .plain rfl (Ar [.bool false,vN] C1) (fun W3 g3 D1 J0=>?_)
 have p2:=Aq W0 J0
 refine AJ [.bool X0.fe,R2] D1 .hd (o2 rfl (AN p2)) (fun X3 t0 d1=>?_)
 refine Aa<|Ac<|Ab (AA rfl (t0.memA (.tl (.tl (.tl .hd)))))<|Ab (AA rfl (t0.memA .hd)) ?_
 obtain ⟨d0,P2,h⟩:=bi h
 have q2:=Aq W0 (Tt J0 d1)
 refine Bf (fst:=[]) (cap:=[]) .plain body131 rfl (e2 rfl rfl) (fun w9 hw9=>wide_Long_Parts_c n _ w9 (t0.hL hL hw9) a0 (t0.km h0_1 hw9) X0 (Ap q2 hw9) P2) rfl (fun Y3 E3 W1 ⟨q0,U2,hu_,F0,D2⟩=>?_)
 subst hu_
 obtain ⟨E1,Q1⟩:=t0.agr W1
 refine Ae rfl<|Ab (Ah rfl rfl)<|Ab (Ah rfl rfl)<|Ai .plain rfl (Ar [.bool false,vN] E1) (fun Z3 j3 F1 K0=>?_)
 refine Ai .plain rfl (Ar [.bool false,vN] F1) (fun b4 k3 G1 M0=>?_)
 have s2:=Aq F0 (Tt K0 M0)
 refine AJ [.bool d0.1.fe,q0] G1 (.tl .hd) (o2 rfl (AN s2)) (fun c4 H1 g1=>?_)
 have R0:=Tt K0 (Tt M0 g1)
 have t2:=Aq D2 R0
 refine AJ [.bool d0.2.fe,U2] H1 .hd (o2 rfl (AN t2)) (fun d4 u0 P0=>?_)
 refine Aa<|Ac<|Ab (AA rfl (u0.memA (.tl (.tl (.tl (.tl .hd))))))<|Ab (AA rfl (u0.memA (.tl (.tl .hd)))) ?_
 obtain ⟨g0,Q2,h⟩:=bi h
 have C2:=Tt J0 (Tt d1 (Tt Q1 (Tt K0 (Tt M0 (Tt g1 P0)))))
 have u2:=Aq W0 C2
 refine Bf (fst:=[]) (cap:=[]) .plain body131 rfl (e2 rfl rfl) (fun w9 hw9=>wide_Long_Parts_c n _ w9 (u0.hL hL hw9) a1 (u0.km h1_1 hw9) X0 (Ap u2 hw9) Q2) rfl (fun g4 F3 X1 ⟨s0,V2,hu_,G0,E2⟩=>?_)
 subst hu_
 obtain ⟨I1,j1⟩:=u0.agr X1
 refine Ae rfl<|Ab (Ah rfl rfl)<|Ab (Ah rfl rfl)<|Ai .plain rfl (Ar [.bool false,vN] I1) (fun j4 p3 J1 C0=>?_)
 refine Ai .plain rfl (Ar [.bool false,vN] J1) (fun k4 q3 K1 D0=>?_)
 have v2:=Aq G0 (Tt C0 D0)
 refine AJ [.bool g0.1.fe,s0] K1 (.tl .hd) (o2 rfl (AN v2)) (fun p4 M1 Q0=>?_)
 have E0:=Tt C0 (Tt D0 Q0)
 have x2:=Aq E2 E0
 refine AJ [.bool g0.2.fe,V2] M1 .hd (o2 rfl (AN x2)) (fun G3 b0 v0=>?_)
 refine Aa<|Aj<|Ac<|AZ 0 rfl<|AY rfl ((b0.memA (.tl .hd)) 0 _ rfl)<|Aa<|MX.ifb rfl h (fun x1 h=>?_) (fun x1 h=>?_)
 refine dt 4 tb113_5 (fun c0 v1=>?_)
 refine AC 0 1 58 c0 rfl v1 (AA rfl (b0.memA (.tl (.tl (.tl .hd))))) rfl<|AC 2 5 56 c0 rfl v1 (AA rfl (b0.memA (.tl .hd))) rfl ?_
 obtain ⟨x0,J2,h⟩:=bi h
 have y2:=Tt R0 (Tt P0 (Tt j1 (Tt C0 (Tt D0 (Tt Q0 v0)))))
 have Y1:=Aq F0 y2
 refine Bu 1 7 c0 rfl .plain body124 rfl (e1 rfl) (fun w9 hw9=>wide_Long_Turned_c n _ w9 (b0.hL hL hw9) d0.1 (Ap Y1 hw9) J2) rfl (fun H3 B3 R1 ⟨k0,hu_,U0⟩=>?_)
 subst hu_
 obtain ⟨Y0,P1⟩:=b0.agr R1
 obtain ⟨y0,K2,h⟩:=bi h
 have z2:=Tt E0 (Tt v0 P1)
 have Z1:=Aq G0 z2
 refine Bu 3 15 c0 rfl .plain body124 rfl (e1 rfl) (fun w9 hw9=>wide_Long_Turned_c n _ w9 (Y0.hL hL hw9) g0.1 (Ap Z1 hw9) K2) rfl (fun J3 C3 U1 ⟨p0,hu_,V0⟩=>?_)
 subst hu_
 obtain ⟨z1,Z0⟩:=Y0.agr U1
 have b2:=Aq U0 Z0
 refine Bq 4 31 c0 rfl rfl .plain (Aw (news:=[.bool x0.fe,k0]) z1 (.tl (.tl (.tl .hd))) rfl rfl rfl rfl rfl rfl (o2 rfl (AN b2))) (fun K3 A1 B0=>?_)
 have c2:=Aq V0 B0
 refine Bq 5 63 c0 rfl rfl .plain (Aw (news:=[.bool y0.fe,p0]) A1 (.tl .hd) rfl rfl rfl rfl rfl rfl (o2 rfl (AN c2))) (fun M3 H0 I0=>?_)
 refine AE (dk c0)<|Ac<|Ab (AA rfl (H0.memA (.tl (.tl (.tl .hd)))))<|Ab (AA rfl (H0.memA (.tl .hd))) ?_
 have t1:=Tt Z0 (Tt B0 I0)
 have k1:=Aq U0 t1
 obtain ⟨W2,s3,F2,_⟩:=Rep.sl k1
 have p1:=Aq V0 (Tt B0 I0)
 obtain ⟨X2,t3,G2,_⟩:=Rep.sl p1
 refine Ab (AM (vs:=[.agg #[.bool x0.fe,k0],.agg #[.bool y0.fe,p0]]) (u:=.agg #[.bool x0.fe,k0,.bool y0.fe,p0]) (e2 rfl rfl) (fun w9=>by rw [F2,G2]; try kernel_rfl))<|AJ [.bool x0.fe,k0,.bool y0.fe,p0] H0 (.tl (.tl (.tl (.tl (.tl .hd))))) (o4 rfl (AN k1) rfl (AN p1)) (fun P3 z0 b1=>?_)
 refine Aa<|Al rfl<|Am hb0 Tryz.func113 rfl (.cons (.many (cs:=[.bool x0.fe,k0,.bool y0.fe,p0]) (by kernel_rfl) rfl (z0.memA (.tl (.tl (.tl (.tl (.tl .hd))))))) .nil) rfl ?_
 cases h
 have d2:=Aq U0 (Tt t1 b1)
 have A2:=Tt B0 (Tt I0 b1)
 have g2:=Aq V0 A2
 exact ⟨z0.ag,fun w9 hw9=>⟨k0,p0,rfl,z0.kd d2 hw9,z0.kd g2 hw9⟩⟩
 refine Au<|Ac<|Ab (AA rfl (b0.memA (.tl (.tl (.tl .hd)))))<|Ab (AA rfl (b0.memA (.tl .hd))) ?_
 have u1:=Tt R0 (Tt P0 (Tt j1 (Tt C0 (Tt D0 (Tt Q0 v0)))))
 have q1:=Aq F0 u1
 obtain ⟨Y2,u3,H2,_⟩:=Rep.sl q1
 have s1:=Aq G0 (Tt E0 v0)
 obtain ⟨Z2,v3,I2,_⟩:=Rep.sl s1
 refine Ab (AM (vs:=[.agg #[.bool d0.1.fe,q0],.agg #[.bool g0.1.fe,s0]]) (u:=.agg #[.bool d0.1.fe,q0,.bool g0.1.fe,s0]) (e2 rfl rfl) (fun w9=>by rw [H2,I2]; try kernel_rfl))<|AJ [.bool d0.1.fe,q0,.bool g0.1.fe,s0] b0 (.tl (.tl (.tl (.tl (.tl .hd))))) (o4 rfl (AN q1) rfl (AN s1)) (fun Q3 A0 c1=>?_)
 refine Aa<|Al rfl<|Am hb0 Tryz.func113 rfl (.cons (.many (cs:=[.bool d0.1.fe,q0,.bool g0.1.fe,s0]) (by kernel_rfl) rfl (A0.memA (.tl (.tl (.tl (.tl (.tl .hd))))))) .nil) rfl ?_
 cases h
 have j2:=Aq F0 (Tt u1 c1)
 have B2:=Tt E0 (Tt v0 c1)
 have k2:=Aq G0 B2
 exact ⟨A0.ag,fun w9 hw9=>⟨q0,s0,rfl,A0.kd j2 hw9,A0.kd k2 hw9⟩⟩
end Go.Proofs.YtichhhehkcfoaaaGreatDoor
