/- Functions of the program, and what they give: part 5. -/
import Derived.Test.YtichhhehkcfoaaaGreatDoorXM4
namespace Go.Proofs.YtichhhehkcfoaaaGreatDoor
open Go Go.RowKit
set_option maxRecDepth 4000
set_option maxHeartbeats 4000000

def tb58_14:List (Nat × Nat × Nat):=[(0,9007199254740992,512),(0,18014398509481984,2048),(2,36028797018963968,18014398509481984),(0,72057594037927936,64),(8,144115188075855872,72057594037927936),(20,288230376151711744,180143985094819840),(0,576460752303423488,2048),(64,1152921504606846976,576460752303423488),(0,2305843009213693952,2048),(256,4611686018427387904,2305843009213693952),(640,9223372036854775808,5764607523034234880),(0,18446744073709551616,64),(2048,36893488147419103232,18446744073709551616),(0,73786976294838206464,64),(8192,147573952589676412928,73786976294838206464),(20480,295147905179352825856,184467440737095516160),(33824,590295810358705651712,304371277216207601664),(65568,1180591620717411303424,590584040734857363456),(131072,2361183241434822606848,1180591620717411303424),(262144,4722366482869645213696,2361183241434822606848),(262144,9444732965739290427392,2361183241434822606848),(1835008,18889465931478580854784,14167099448608935641088),(2097152,37778931862957161709568,18889465931478580854784),(6291457,75557863725914323419136,37778940870156416450560),(16777215,512,75557863725914323419136)]
theorem body61:bodyB Tryz.prog 61 = true:=by kernel_rfl
theorem body62:bodyB Tryz.prog 62 = true:=by kernel_rfl
theorem body64:bodyB Tryz.prog 64 = true:=by kernel_rfl
theorem body65:bodyB Tryz.prog 65 = true:=by kernel_rfl
def minority_Index_1_l1 (n:Nat) (g0:List Tpart) (k0:Int) (D0:Int) (p0:Nat × (List TShare) → Option (List TShare)):Nat × (List TShare) → Option (List TShare)
  | (b0,d0)=>(if b0 < g0.length then (g0[b0]?).bind fun c0=>(minority_of_p n c0.fF k0).bind fun u0=>exc u0 (fun v0=>(chk (c0.fall - c0.fF)).bind fun q0=>(chk (D0 - k0)).bind fun s0=>(minority_of_p n q0 s0).bind fun x0=>exc x0 (fun y0=>(minority_sub_p n v0 y0).bind fun z0=>exc z0 (fun A0=>(share_Abs_p n A0).bind fun j0=>(minority_must_api_Share_p n j0.1 j0.2).bind fun B0=>exc B0 (fun C0=>(app d0 ([C0]:List TShare)).bind fun t0=>p0 (b0 + 1,t0)) (fun H0=>none)) (fun G0=>none)) (fun F0=>none)) (fun E0=>none) else some d0)
def minority_Index_1_l2 (_n:Nat) (d0:List Tpart) (k0:Nat × Int × Int → Option (Int × Int)):Nat × Int × Int → Option (Int × Int)
  | (b0,g0,j0)=>(if b0 < d0.length then (d0[b0]?).bind fun c0=>(chk (g0 + c0.fF)).bind fun p0=>(chk (j0 + c0.fall)).bind fun q0=>k0 (b0 + 1,p0,q0) else some (g0,j0))
def minority_Index_1_p (n:Nat) (a0:TRoll) (a1:List Int) (a2:Int) (a3:Int):Option (Except Tbroken TShare):=
  (minority_grouped_p n a0 a1 a2 a3).bind fun s0=>exc s0 (fun c0=>Option.bind (loopF (minority_Index_1_l2 n c0) n (0,0,0)) (fun (b0,d0)=>(if b0 = 0 then some (.error (⟨(7:Int)⟩:Tbroken)) else (if b0 = d0 then some (.error (⟨(7:Int)⟩:Tbroken)) else Option.bind (loopF (minority_Index_1_l1 n c0 b0 d0) n (0,([]:List TShare))) (fun q0=>(minority_sum_p n q0).bind fun t0=>exc t0 (fun u0=>(minority_of_p n (2:Int) (1:Int)).bind fun v0=>exc v0 (fun x0=>(minority_div_p n u0 x0).bind fun y0=>exc y0 (fun z0=>some (.ok z0)) (fun p0=>some (.error p0))) (fun k0=>some (.error k0))) (fun j0=>some (.error j0))))))) (fun g0=>some (.error g0))
theorem minority_Index_1_c (n:Nat) (L:List Nat) (w:World) (hL:∀ b ∈ L,b < w.heap.size) (a0:TRoll) {v0_3:Value} (h0_3:Rep.R w L [v0_3] a0.fu) {p0:Nat} (m0:∀ j9 v9,([vI a0.fj,vI a0.fh,vI a0.fl,v0_3]:List Value)[j9]? = some v9 → w.cell? ((⟨p0,0,none⟩:Addr).add j9) = some v9) (a1:List Int) {v1_0:Value} (h1_0:Rep.R w L [v1_0] a1) {p1:Nat} (m1:∀ j9 v9,([v1_0]:List Value)[j9]? = some v9 → w.cell? ((⟨p1,0,none⟩:Addr).add j9) = some v9) (a2:Int) {p2:Nat} (m2:∀ j9 v9,([vI a2]:List Value)[j9]? = some v9 → w.cell? ((⟨p2,0,none⟩:Addr).add j9) = some v9) (a3:Int) {p3:Nat} (m3:∀ j9 v9,([vI a3]:List Value)[j9]? = some v9 → w.cell? ((⟨p3,0,none⟩:Addr).add j9) = some v9)  {r:Except Tbroken TShare} (h:minority_Index_1_p n a0 a1 a2 a3 = some r) :
    Calls Tryz.prog 58 #[.pointer (some ⟨p0,0,none⟩),.pointer (some ⟨p1,0,none⟩),.pointer (some ⟨p2,0,none⟩),.pointer (some ⟨p3,0,none⟩)] w (PGives w (fun (y:TShare) _ u=>u = .agg ((cs_TShare y)).toArray) (fun e=>.iface 128 (.agg #[vI e.fB])) r):=by
 unfold minority_Index_1_p at h
 have hS0:=Ay w
 refine BE Tryz.func58 rfl rfl rfl (fun _ cs0 hb0 hp0=>?_)
 refine Ac<|Ai .plain rfl (Ar zL hS0) (fun W4 u0 k0 D4=>?_)
 refine Aa<|Ac<|Ab (AA rfl (fun j9 v9 h9=>k0.ag.cell0 (m0 j9 v9 h9)))<|AY rfl ((fun j9 v9 h9=>k0.ag.cell0 (m1 j9 v9 h9)) 0 _ rfl)<|AY rfl ((fun j9 v9 h9=>k0.ag.cell0 (m2 j9 v9 h9)) 0 _ rfl)<|AY rfl ((fun j9 v9 h9=>k0.ag.cell0 (m3 j9 v9 h9)) 0 _ rfl) ?_
 obtain ⟨I3,q1,h⟩:=bi h
 rcases I3 with u4 | C0
 have h:=exc_e h
 try dsimp only at h
 refine Bt (fst:=[]) (cap:=[]) .plain body34 rfl (e4 rfl rfl rfl rfl) (fun w9 hw9=>minority_grouped_c n _ w9 (k0.hL hL hw9) a0 (k0.km h0_3 hw9) a1 (k0.km h1_0 hw9) a2 a3 q1) (fun c5 s2=>?_)
 obtain ⟨J1,E4⟩:=k0.agr s2
 cases h
 exact AP hp0 Tryz.func58 ⟨J1.ag,rfl⟩
 have h:=exc_o h
 try dsimp only at h
 refine Bf (fst:=[]) (cap:=[]) .plain body34 rfl (e4 rfl rfl rfl rfl) (fun w9 hw9=>AK (minority_grouped_c n _ w9 (k0.hL hL hw9) a0 (k0.km h0_3 hw9) a1 (k0.km h1_0 hw9) a2 a3 q1)) rfl (fun d5 W0 t2 ⟨V4,hu_,H0⟩=>?_)
 subst hu_
 obtain ⟨K1,F4⟩:=k0.agr t2
 refine Af rfl<|Aa<|Ac<|Ai .plain rfl (Ar [vI 0,vI 0] K1) (fun G3 v0 P1 G0=>?_)
 refine Aa<|Aj<|Ac<|Ae rfl ?_
 have j1:=Aq H0 G0
 have Q4:C0.length ≤ 281474976710656:=AU j1
 refine Ab (Bd (xs:=C0) Tryz.underlying85 rfl j1)<|Ae rfl<|Aa<|Az ?_
 obtain ⟨R4,U2,E2⟩:=bind_in2 h
 refine Bm (α:=Nat × Int × Int) (fun ⟨y0,d0,g0⟩=>[(4,vP u0),(5,W0),(6,vP v0),(17,W0),(18,vI ((C0.length:Nat):Int)),(19,vI ((y0:Nat):Int))]) (fun ⟨y0,d0,g0⟩ I0=>St w I0 [.cells v0 [vI d0,vI g0] 88,.cells u0 zL 53]∧Tr G3 [.cells v0 [vI 0,vI 0] 88,.cells u0 zL 53] I0 [.cells v0 [vI d0,vI g0] 88,.cells u0 zL 53]) (fun ⟨y0,d0,g0⟩=>(y0,d0,g0)) (0,0,0) U2 ⟨rfl,rfl,rfl,rfl,rfl,rfl,trivial⟩ ⟨P1,AQ _ _⟩ ?_
 rintro X3 ⟨y0,d0,g0⟩ I0 E1 ⟨z0,F0⟩ h
 unfold minority_Index_1_l2 at h
 try dsimp only at h
 refine Ac<|Ab (Br (i:=y0) (j:=C0.length) rfl rfl)<|Aa<|Aj<|AV rfl h (fun z1 h=>?_) (fun z1 h=>?_)
 refine Au<|Aj<|Az<|Ac ?_
 obtain ⟨K0,u3,h⟩:=bi h
 have J2:=Aq H0 (Tt G0 F0)
 obtain ⟨V3,d4,C2,G2,j4,g3,I2⟩:=Bk J2 u3
 obtain rfl:=op_Tpart g3
 refine Ab (Bp 2 y0 rfl C2 rfl rfl G2)<|Ab (AA rfl I2)<|Ai .plain rfl (Ar [vI 0,vI 0] z0) (fun X4 Z3 G1 X1=>?_)
 refine AJ [vI K0.fF,vI K0.fall] G1 .hd (onesB rfl) (fun Y4 P0 Y1=>?_)
 refine Aa<|Ac<|AZ 0 rfl<|AY rfl ((P0.memA (.tl .hd)) 0 _ rfl)<|AZ 0 rfl<|AY rfl ((P0.memA .hd) 0 _ rfl) ?_
 obtain ⟨D0,k3,h⟩:=bi h
 refine Ab (BD (i:=d0) (j:=K0.fF) rfl rfl k3)<|AZ 0 rfl<|BH .plain (Bo (j:=0) (old:=[vI d0,vI g0]) (news:=[vI D0]) (new' :=[vI D0,vI g0]) P0 (.tl .hd) rfl rfl rfl rfl rfl rfl (o1 rfl) rfl) (fun Z4 Q0 Z1=>?_)
 refine Aa<|Ao<|AZ 1 rfl<|AY rfl ((Q0.memA (.tl .hd)) 1 _ rfl)<|AZ 1 rfl<|AY rfl ((Q0.memA .hd) 1 _ rfl) ?_
 obtain ⟨V0,q3,h⟩:=bi h
 refine Ab (BD (i:=g0) (j:=K0.fall) rfl rfl q3)<|AZ 1 rfl<|BH .plain (Bo (j:=1) (old:=[vI D0,vI g0]) (news:=[vI V0]) (new' :=[vI D0,vI V0]) Q0 (.tl .hd) rfl rfl rfl rfl rfl rfl (o1 rfl) rfl) (fun b5 H1 b2=>?_)
 refine Aa<|AB<|Ao<|Ab (Bl (i:=y0) (j:=1) rfl rfl (by omega))<|Ae rfl<|Aa ?_
 obtain ⟨I1,c2⟩:=AG H1 (.one (.tl .hd) (.one (.tl .hd) .done))
 have b3:=Tt X1 (Tt Y1 (Tt Z1 (Tt b2 c2)))
 exact E1 (y0 + 1,D0,V0) _ _ ⟨rfl,rfl,rfl,rfl,rfl,rfl,trivial⟩ ⟨I1,(Tt F0 b3)⟩ h
 refine Be rfl ?_
 have h:=E2 _ h
 try dsimp only at h
 refine Ac<|AZ 0 rfl<|AY rfl ((z0.memA .hd) 0 _ rfl)<|Ab (FV.eql (i:=d0) (j:=0) rfl rfl)<|Ae rfl<|RG.ifd (s:=39) rfl h (fun A1 h=>?_) (fun A1 h=>?_)
 refine AI<|AI<|AI<|AI<|AI<|BI rfl rfl<|Bj (fst:=[]) (cap:=[]) (vs:=[.bool true,vI 7]) .plain body59 Tryz.func59 rfl rfl rfl rfl (e2 rfl rfl) rfl (fun k4 K4 W2=>?_)
 refine Ac<|Ae rfl<|Aa<|Bh rfl<|Ao<|Ae rfl<|Bj (fst:=[]) (cap:=[]) (vs:=[vI 7]) .plain body48 Tryz.func48 rfl rfl rfl rfl (e1 rfl) rfl (fun p4 M4 X2=>?_)
 refine Ac<|Ae rfl<|Ab (FV.neqN (i:=7) (j:=0) rfl rfl)<|Aa<|Bh rfl<|Ao<|Ae rfl<|Ab (AM (vs:=[vI 7]) (u:=.agg #[vI 7]) (e1 rfl) (fun w9=>by kernel_rfl))<|Ab (Bv (by kernel_rfl) rfl)<|RG.panic .plain rfl<|AP X2 Tryz.func48<|AP W2 Tryz.func59 ?_
 cases h
 exact AP hp0 Tryz.func58 ⟨z0.ag,rfl⟩
 refine RG.fg 0 rfl<|AS (AL rfl ((z0.memA .hd) 0 _ rfl))<|RG.fg 1 rfl<|AS (AL rfl ((z0.memA .hd) 1 _ rfl))<|AS (FV.eql (i:=d0) (j:=g0) rfl rfl)<|RG.pf rfl rfl<|Bj (fst:=[]) (cap:=[]) (vs:=[.bool (decide (d0 = g0)),vI 7]) .plain body59 Tryz.func59 rfl rfl rfl rfl (e2 rfl rfl) rfl (fun q4 y2 Y2=>?_)
 refine Ac<|Ae rfl<|Aa<|AV rfl h (fun B1 h=>?_) (fun B1 h=>?_)
 refine Ao<|Ae rfl<|Bj (fst:=[]) (cap:=[]) (vs:=[vI 7]) .plain body48 Tryz.func48 rfl rfl rfl rfl (e1 rfl) rfl (fun s4 P4 Z2=>?_)
 refine Ac<|Ae rfl<|Ab (FV.neqN (i:=7) (j:=0) rfl rfl)<|Aa<|Bh rfl<|Ao<|Ae rfl<|Ab (AM (vs:=[vI 7]) (u:=.agg #[vI 7]) (e1 rfl) (fun w9=>by kernel_rfl))<|Ab (Bv (by kernel_rfl) rfl)<|RG.panic .plain rfl<|AP Z2 Tryz.func48<|AP Y2 Tryz.func59 ?_
 cases h
 exact AP hp0 Tryz.func58 ⟨z0.ag,rfl⟩
 refine Au<|MX.fin rfl<|Am (u:=.tuple #[]) y2 Tryz.func59 rfl .nil rfl<|Aa<|Ac<|Af rfl<|Aa<|Aj<|Ac<|Ae rfl ?_
 have K2:=Aq H0 (Tt G0 F0)
 refine Ab (Bd (xs:=C0) Tryz.underlying85 rfl K2)<|Ae rfl<|Aa<|Az ?_
 have b1:=z0.nilRow 53 (Rep.size TShare)
 have d2:=St.nilRowT z0 53 (Rep.size TShare)
 have z2:=AH (cs:=[]) (xs:=([]:List TShare)) b1 L (AT _ _)
 obtain ⟨U4,V2,F2⟩:=bind_in2 h
 refine Bm (α:=Nat × (List TShare) × Value × (List Value)) (fun ⟨x0,s0,B0,A0⟩=>[(4,vP u0),(6,vP v0),(9,B0),(47,W0),(48,vI ((C0.length:Nat):Int)),(49,vI ((x0:Nat):Int))]) (fun ⟨x0,s0,B0,A0⟩ J0=>St w J0 [.row w.heap.size 53 (Rep.size TShare) B0 s0.length A0,.cells v0 [vI d0,vI g0] 88,.cells u0 zL 53]∧Tr I0 [.row w.heap.size 53 (Rep.size TShare) vN (([]:List TShare).length) [],.cells v0 [vI d0,vI g0] 88,.cells u0 zL 53] J0 [.row w.heap.size 53 (Rep.size TShare) B0 s0.length A0,.cells v0 [vI d0,vI g0] 88,.cells u0 zL 53]∧Cells J0 (bl [.row w.heap.size 53 (Rep.size TShare) B0 s0.length A0,.cells v0 [vI d0,vI g0] 88,.cells u0 zL 53] ++ L) A0 s0) (fun ⟨x0,s0,B0,A0⟩=>(x0,s0)) (0,([]:List TShare),vN,[]) V2 ⟨rfl,rfl,rfl,rfl,rfl,rfl,trivial⟩ ⟨b1,AQ _ _,z2⟩ ?_
 rintro Y3 ⟨x0,s0,B0,A0⟩ J0 F1 ⟨j0,d1,U0⟩ h
 unfold minority_Index_1_l1 at h
 try dsimp only at h
 refine Ac<|Ab (Br (i:=x0) (j:=C0.length) rfl rfl)<|Aa<|Aj<|AV rfl h (fun C1 h=>?_) (fun C1 h=>?_)
 refine Au<|Aj<|Az<|Ac ?_
 obtain ⟨E0,v3,h⟩:=bi h
 have c3:=Tt G0 (Tt F0 (Tt d2 d1))
 have P2:=Aq H0 c3
 obtain ⟨W3,g4,D2,H2,t4,j3,M2⟩:=Bk P2 v3
 obtain rfl:=op_Tpart j3
 refine Ab (Bp 2 x0 rfl D2 rfl rfl H2)<|Ab (AA rfl M2)<|Ai .plain rfl (Ar [vI 0,vI 0] j0) (fun g5 b4 M1 g2=>?_)
 refine AJ [vI E0.fF,vI E0.fall] M1 .hd (onesB rfl) (fun j5 q0 j2=>?_)
 refine Aa<|dt 23 tb58_14 (fun b0 c0=>?_)
 refine Ag 0 1 b0 rfl c0 (fun _=>Ak rfl) rfl<|Ag 1 3 b0 rfl c0 (fun _=>AX 0 rfl) rfl<|AC 2 7 33488928 b0 rfl c0 (AL rfl ((q0.memA .hd) 0 _ rfl)) rfl<|Ag 3 15 b0 rfl c0 (fun _=>AX 0 rfl) rfl<|AC 4 31 33488928 b0 rfl c0 (AL rfl ((q0.memA (.tl (.tl .hd))) 0 _ rfl)) rfl ?_
 obtain ⟨J3,y3,h⟩:=bi h
 rcases J3 with v4 | v1
 have h:=exc_e h
 try dsimp only at h
 cases h
 have h:=exc_o h
 try dsimp only at h
 refine BA 5 63 33488896 (.agg ((cs_TShare v1)).toArray) b0 rfl c0 body63 rfl (e2 rfl rfl) (fun w9 hw9=>AK (minority_of_c n _ w9 (q0.hL0 hL hw9) E0.fF d0 y3)) rfl<|Ag 6 127 b0 rfl c0 (fun _=>AX 1 rfl) rfl<|AC 7 255 33489920 b0 rfl c0 (AL rfl ((q0.memA .hd) 1 _ rfl)) rfl<|Ag 8 511 b0 rfl c0 (fun _=>AX 0 rfl) rfl<|AC 9 1023 33489920 b0 rfl c0 (AL rfl ((q0.memA .hd) 0 _ rfl)) rfl ?_
 obtain ⟨D3,s3,h⟩:=bi h
 refine Ag 10 2047 b0 rfl c0 (fun _=>FV.subc (i:=E0.fall) (j:=E0.fF) rfl rfl s3) rfl<|Ag 11 4095 b0 rfl c0 (fun _=>AX 1 rfl) rfl<|AC 12 8191 33521664 b0 rfl c0 (AL rfl ((q0.memA (.tl (.tl .hd))) 1 _ rfl)) rfl<|Ag 13 16383 b0 rfl c0 (fun _=>AX 0 rfl) rfl<|AC 14 32767 33521664 b0 rfl c0 (AL rfl ((q0.memA (.tl (.tl .hd))) 0 _ rfl)) rfl ?_
 obtain ⟨E3,t3,h⟩:=bi h
 refine Ag 15 65535 b0 rfl c0 (fun _=>FV.subc (i:=g0) (j:=d0) rfl rfl t3) rfl ?_
 obtain ⟨K3,z3,h⟩:=bi h
 rcases K3 with x4 | x1
 have h:=exc_e h
 try dsimp only at h
 cases h
 have h:=exc_o h
 try dsimp only at h
 refine BA 16 131071 33423360 (.agg ((cs_TShare x1)).toArray) b0 rfl c0 body63 rfl (e2 rfl rfl) (fun w9 hw9=>AK (minority_of_c n _ w9 (q0.hL0 hL hw9) D3 E3 z3)) rfl ?_
 obtain ⟨M3,A3,h⟩:=bi h
 rcases M3 with y4 | y1
 have h:=exc_e h
 try dsimp only at h
 cases h
 have h:=exc_o h
 try dsimp only at h
 refine BA 17 262143 33292288 (.agg ((cs_TShare y1)).toArray) b0 rfl c0 body62 rfl (e2 rfl rfl) (fun w9 hw9=>AK (minority_sub_c n _ w9 (q0.hL0 hL hw9) v1 x1 A3)) rfl ?_
 obtain ⟨M0,B3,h⟩:=bi h
 refine BA 18 524287 33030144 (.tuple #[.agg ((cs_TShare M0.1)).toArray,vI M0.2]) b0 rfl c0 body61 rfl (e1 rfl) (fun w9 hw9=>share_Abs_c n _ w9 (q0.hL0 hL hw9) y1 B3) rfl<|Ag 19 1048575 b0 rfl c0 (fun _=>Ah rfl rfl) rfl<|Ag 20 2097151 b0 rfl c0 (fun _=>Ah rfl rfl) rfl ?_
 obtain ⟨P3,C3,h⟩:=bi h
 rcases P3 with z4 | t0
 have h:=exc_e h
 try dsimp only at h
 cases h
 have h:=exc_o h
 try dsimp only at h
 refine BA 21 4194303 29360128 (.agg ((cs_TShare t0)).toArray) b0 rfl c0 body60 rfl (e2 rfl rfl) (fun w9 hw9=>AK (minority_must_api_Share_c n _ w9 (q0.hL0 hL hw9) M0.1 M0.2 C3)) rfl<|RD.nu 22 8388607 b0 rfl .plain rfl (Ba (α:=TShare) (xs:=([t0]:List TShare)) (vs:=[.agg ((cs_TShare t0)).toArray]) (ds' :=(cs_TShare t0)) rfl q0 el40 rfl (e1 rfl) (by kernel_rfl) rfl) (fun k5 c4 R0 k2=>?_)
 have A2:=AH (cs:=(cs_TShare t0)) (xs:=(([t0]:List TShare):List TShare)) R0 L (Ax (cs:=(cs_TShare t0)) (ds:=[]) (mk_TShare t0.fN t0.fD) (AT _ _))
 obtain ⟨H3,x3,h⟩:=bi h
 have k1:=Tt g2 (Tt j2 k2)
 have Q2:=AR U0 k1
 refine BC (i:=23) (rk b0) (RO.doesL (m' :=16777215) (sk b0) rfl rfl .plain rfl (DoesL.app (α:=TShare) (ys:=([t0]:List TShare)) x3 R0 (fun _ _=>(.tl (.tl .hd))) el40 rfl rfl Q2 (Src.row (α:=TShare) R0 .hd A2)) (fun F3 p5 ⟨D1,Q1,q2,B2⟩=>?_))
 refine BC (i:=24) (rk b0) (BK (m' :=33554431) (sk b0) rfl .plain rfl (Bi rfl) ?_)
 refine AE (dk b0)<|AB<|Ao<|Ab (Bl (i:=x0) (j:=1) rfl rfl (by omega))<|Ae rfl<|Aa ?_
 obtain ⟨R1,g1⟩:=AG Q1 (.one (.tl (.tl .hd)) (.one (.tl (.tl .hd)) (.one (.tl (.tl .hd)) .done)))
 have R2:=AR B2 g1
 have d3:=Tt k1 (Tt q2 g1)
 exact F1 (x0 + 1,H3,F3,D1) _ _ ⟨rfl,rfl,rfl,rfl,rfl,rfl,trivial⟩ ⟨R1,(Tt d1 d3),R2⟩ h
 refine Be rfl ?_
 have h:=F2 _ h
 try dsimp only at h
 refine Ac<|Ae rfl ?_
 obtain ⟨Q3,s1,h⟩:=bi h
 rcases Q3 with A4 | X0
 have h:=exc_e h
 try dsimp only at h
 refine Bt (fst:=[]) (cap:=[]) .plain body65 rfl (e1 rfl) (fun w9 hw9=>minority_sum_c n _ w9 (j0.hL0 hL hw9) s0 (Ap (St.lend (α:=TShare) (L:=L) j0 .hd U0 hL) hw9) s1) (fun q5 u2=>?_)
 obtain ⟨U1,G4⟩:=j0.agr u2
 cases h
 exact AP hp0 Tryz.func58 ⟨U1.ag,rfl⟩
 have h:=exc_o h
 try dsimp only at h
 refine Bg (.agg ((cs_TShare X0)).toArray) body65 rfl (e1 rfl) (fun w9 hw9=>AK (minority_sum_c n _ w9 (j0.hL0 hL hw9) s0 (Ap (St.lend (α:=TShare) (L:=L) j0 .hd U0 hL) hw9) s1)) rfl ?_
 obtain ⟨R3,t1,h⟩:=bi h
 rcases R3 with B4 | Y0
 have h:=exc_e h
 try dsimp only at h
 refine Bt (fst:=[]) (cap:=[]) .plain body63 rfl (e2 rfl rfl) (fun w9 hw9=>minority_of_c n _ w9 (j0.hL0 hL hw9) (2:Int) (1:Int) t1) (fun s5 v2=>?_)
 obtain ⟨V1,H4⟩:=j0.agr v2
 cases h
 exact AP hp0 Tryz.func58 ⟨V1.ag,rfl⟩
 have h:=exc_o h
 try dsimp only at h
 refine Bg (.agg ((cs_TShare Y0)).toArray) body63 rfl (e2 rfl rfl) (fun w9 hw9=>AK (minority_of_c n _ w9 (j0.hL0 hL hw9) (2:Int) (1:Int) t1)) rfl ?_
 obtain ⟨U3,u1,h⟩:=bi h
 rcases U3 with C4 | Z0
 have h:=exc_e h
 try dsimp only at h
 refine Bt (fst:=[]) (cap:=[]) .plain body64 rfl (e2 rfl rfl) (fun w9 hw9=>minority_div_c n _ w9 (j0.hL0 hL hw9) X0 Y0 u1) (fun t5 x2=>?_)
 obtain ⟨W1,I4⟩:=j0.agr x2
 cases h
 exact AP hp0 Tryz.func58 ⟨W1.ag,rfl⟩
 have h:=exc_o h
 try dsimp only at h
 refine Bg (.agg ((cs_TShare Z0)).toArray) body64 rfl (e2 rfl rfl) (fun w9 hw9=>AK (minority_div_c n _ w9 (j0.hL0 hL hw9) X0 Y0 u1)) rfl<|AJ (cs_TShare Z0) j0 (.tl (.tl .hd)) (onesB rfl) (fun u5 c1 J4=>?_)
 refine Aa<|Al rfl<|Am hb0 Tryz.func58 rfl (.cons (.many (cs:=(cs_TShare Z0)) (by kernel_rfl) rfl (c1.memA (.tl (.tl .hd)))) .nil) rfl ?_
 cases h
 exact ⟨c1.ag,fun w9 hw9=>okOf_in rfl⟩
def tb100_6:List (Nat × Nat × Nat):=[(0,131072,32),(0,262144,8),(2,524288,262144),(1,0,131073),(15,0,524290)]
theorem body57:bodyB Tryz.prog 57 = true:=by kernel_rfl
theorem body58:bodyB Tryz.prog 58 = true:=by kernel_rfl
theorem body100:bodyB Tryz.prog 100 = true:=by kernel_rfl
def minority_Index_p (n:Nat) (a0:TRoll) (a1:List Int) (a2:Int) (a3:Int):Option (TShare × Int):=
  (minority_Index_1_p n a0 a1 a2 a3).bind fun c0=>exc c0 (fun d0=>some (d0,(0:Int))) (fun b0=>some ((⟨((0:UInt64),(0:UInt64),(0:UInt64),(0:UInt64),(0:UInt64),(0:UInt64),(0:UInt64),(0:UInt64)),((0:UInt64),(0:UInt64),(0:UInt64),(0:UInt64),(0:UInt64),(0:UInt64),(0:UInt64),(0:UInt64))⟩:TShare),b0.fB))
theorem minority_Index_c (n:Nat) (L:List Nat) (w:World) (hL:∀ b ∈ L,b < w.heap.size) (a0:TRoll) {v0_3:Value} (h0_3:Rep.R w L [v0_3] a0.fu) (a1:List Int) {v1_0:Value} (h1_0:Rep.R w L [v1_0] a1) (a2:Int) (a3:Int)  {r:TShare × Int} (h:minority_Index_p n a0 a1 a2 a3 = some r) :
    Calls Tryz.prog 20 #[.agg #[vI a0.fj,vI a0.fh,vI a0.fl,v0_3],v1_0,vI a2,vI a3] w (Gives w fun _ u=>u = .tuple #[.agg ((cs_TShare r.1)).toArray,vI r.2]):=by
 unfold minority_Index_p at h
 have hS0:=Ay w
 refine AD Tryz.func20 rfl rfl rfl (fun _ cs0 hb0=>?_)
 refine Ac<|Ai .plain rfl (Av hS0 rfl rfl) (fun b2 g0 F0 I1=>?_)
 have v1:=AO h1_0 F0
 refine Ai .plain rfl (Av F0 rfl (Rep.c1 v1)) (fun p2 j0 W0 K1=>?_)
 refine Ai .plain rfl (Av W0 rfl rfl) (fun q2 p0 X0 M1=>?_)
 refine Ai .plain rfl (Av X0 rfl rfl) (fun s2 q0 Y0 P1=>?_)
 refine Ai .plain rfl (Ar zL Y0) (fun t2 y0 Z0 Q1=>?_)
 refine Af rfl<|Aa<|Ac<|Ab (BF (vs:=[]) (us:=[vP g0,vP j0,vP p0,vP q0]) evs_nil (e4 rfl rfl rfl rfl))<|Bj (fst:=[]) (cap:=[]) (vs:=[.func (.func 58) #[] #[vP g0,vP j0,vP p0,vP q0]]) .plain body57 Tryz.func57 rfl rfl rfl rfl (e1 rfl) rfl (fun C1 I0 Z1=>?_)
 refine Ac<|Ai .plain rfl (Ar zL Z0) (fun u2 s0 b1 R1=>?_)
 refine Ai .plain rfl (Ar [vI 0] b1) (fun v2 d0 b0 U1=>?_)
 refine Aa<|Ac<|Ab (BF (vs:=[]) (us:=[vP s0,vP d0]) evs_nil (e2 rfl rfl))<|RG.defer (fst:=[]) (cap:=[vP s0,vP d0]) (vs:=[]) rfl .plain rfl evs_nil<|Aa<|Ac<|Ae rfl ?_
 obtain ⟨z1,K0,h⟩:=bi h
 rcases z1 with u0 | t0
 have h:=exc_e h
 try dsimp only at h
 refine Bt (fst:=[]) (cap:=[vP g0,vP j0,vP p0,vP q0]) .plain body58 rfl evs_nil (fun w9 hw9=>minority_Index_1_c n _ w9 (b0.hL0 hL hw9) a0 (b0.k0 h0_3 hw9) (fun j9 v9 h9=>hw9.cell0 ((b0.memA (.tl (.tl (.tl (.tl (.tl (.tl .hd))))))) j9 v9 h9)) a1 (b0.k0 h1_0 hw9) (fun j9 v9 h9=>hw9.cell0 ((b0.memA (.tl (.tl (.tl (.tl (.tl .hd)))))) j9 v9 h9)) a2 (fun j9 v9 h9=>hw9.cell0 ((b0.memA (.tl (.tl (.tl (.tl .hd))))) j9 v9 h9)) a3 (fun j9 v9 h9=>hw9.cell0 ((b0.memA (.tl (.tl (.tl .hd)))) j9 v9 h9)) K0) (fun x2 q1=>?_)
 obtain ⟨d1,V1⟩:=b0.agr q1
 refine PN.callD (vs:=[]) (cap:=[vP s0,vP d0]) body100 Tryz.func100 rfl rfl rfl (fun B1 s1 u1=>?_)
 refine Ac<|RG.recover1 .plain s1 rfl<|Af rfl<|Aa<|Ac<|Ae rfl<|Ab (FV.neqI Tryz.underlying20 rfl rfl)<|Aa<|Bh rfl<|Ac<|Ae rfl<|Ab (FV.assertT (by kernel_rfl) rfl)<|Ae rfl<|Ab (Ah rfl rfl)<|Ab (Ah rfl rfl)<|Ai .plain rfl (Ar [vI 0] d1) (fun y2 M0 g1 W1=>?_)
 refine AJ [vI u0.fB] g1 .hd (o1 rfl) (fun z2 j1 X1=>?_)
 refine Af rfl<|Aa<|Aj<|Ac<|Ae rfl<|Ab (BG rfl)<|Aa<|BB rfl<|Au<|Ac<|Ai .plain rfl (Ar zL j1) (fun y1 P0 x0 Y1=>?_)
 refine Aa<|dt 3 tb100_6 (fun c0 C0=>?_)
 refine AC 0 1 24 c0 rfl C0 (AA rfl (x0.memA .hd)) rfl<|Ag 1 3 c0 rfl C0 (fun _=>AX 0 rfl) rfl<|RD.meet (α:=Unit) (fun ()=>[(1,vP d0),(19,vI u0.fB)]) (fun () D0=>St w D0 [.cells d0 [vI 0] 41,.cells s0 zL 53,.cells y0 zL 53,.cells q0 [vI a3] 3,.cells p0 [vI a2] 3,.cells j0 [v1_0] 33,.cells g0 [vI a0.fj,vI a0.fh,vI a0.fl,v0_3] 38]∧Tr y1 [.cells P0 zL 53,.cells M0 [vI u0.fB] 128,.cells d0 [vI 0] 41,.cells s0 zL 53,.cells y0 zL 53,.cells q0 [vI a3] 3,.cells p0 [vI a2] 3,.cells j0 [v1_0] 33,.cells g0 [vI a0.fj,vI a0.fh,vI a0.fl,v0_3] 38] D0 [.cells d0 [vI 0] 41,.cells s0 zL 53,.cells y0 zL 53,.cells q0 [vI a3] 3,.cells p0 [vI a2] 3,.cells j0 [v1_0] 33,.cells g0 [vI a0.fj,vI a0.fh,vI a0.fl,v0_3] 38]) 1 15 ?_ ?_
 rintro ⟨⟩ D0 ⟨Q0,D1⟩
 try dsimp only
 refine Bq 4 31 c0 rfl rfl .plain (Aw (news:=[vI u0.fB]) Q0 .hd rfl rfl rfl rfl rfl rfl (o1 rfl)) (fun c2 z0 E1=>?_)
 refine AE (dk c0)<|MX.fin rfl<|RT.leaveD1 u1 Tryz.func100 rfl .nil<|Am (u:=.tuple #[.agg zM,vI u0.fB]) I0 Tryz.func57 rfl (.cons (.many (cs:=zL) (by kernel_rfl) rfl (z0.memA (.tl .hd))) (.cons (.one (by kernel_rfl) rfl ((z0.memA .hd) 0 _ rfl)) .nil)) rfl<|Ab (Ah rfl rfl)<|Ab (Ah rfl rfl)<|AJ zL z0 (.tl (.tl .hd)) (onesB rfl) (fun d2 G0 F1=>?_)
 refine Af rfl<|Aa<|Al rfl<|Am hb0 Tryz.func20 rfl (.cons (.many (cs:=zL) (by kernel_rfl) rfl (G0.memA (.tl (.tl .hd)))) (.cons (.tmp rfl) .nil)) rfl ?_
 cases h
 exact G0.gv
 intro E0
 refine BJ [2,3] (rk c0) ⟨?_,?_,trivial⟩
 refine BK (m' :=7) (sk c0) rfl .plain rfl (AL rfl ((x0.memA (.tl .hd)) 0 _ rfl))<|Bq 3 15 c0 rfl rfl .plain (Aw (news:=zL) x0 (.tl (.tl (.tl .hd))) rfl rfl rfl rfl rfl rfl (onesB rfl)) (fun x1 v0 B0=>?_)
 obtain ⟨R0,k1⟩:=AG v0 (.one (.tl (.tl .hd)) (.one (.tl (.tl .hd)) (.one (.tl (.tl .hd)) (.one (.tl (.tl .hd)) (.one (.tl (.tl .hd)) (.one (.tl (.tl .hd)) (.one (.tl (.tl .hd)) .done)))))))
 exact E0 () _ _ ⟨rfl,rfl,trivial⟩ ⟨R0,(Tt B0 k1)⟩
 refine RO.now (m' :=11) (sk c0) rfl rfl .plain (Aw (news:=zL) x0 (.tl (.tl (.tl .hd))) rfl rfl rfl rfl rfl rfl (onesB rfl)) (fun x1 v0 B0=>?_)
 refine AC 2 15 16 c0 rfl C0 (AL rfl ((v0.memA (.tl .hd)) 0 _ rfl)) rfl ?_
 obtain ⟨U0,p1⟩:=AG v0 (.one (.tl (.tl .hd)) (.one (.tl (.tl .hd)) (.one (.tl (.tl .hd)) (.one (.tl (.tl .hd)) (.one (.tl (.tl .hd)) (.one (.tl (.tl .hd)) (.one (.tl (.tl .hd)) .done)))))))
 exact E0 () _ _ ⟨rfl,rfl,trivial⟩ ⟨U0,(Tt B0 p1)⟩
 have h:=exc_o h
 try dsimp only at h
 refine RG.callq' (v:=.agg ((cs_TShare t0)).toArray) (fst:=[]) (cap:=[vP g0,vP j0,vP p0,vP q0]) .plain body58 rfl evs_nil (fun w9 hw9=>AK (minority_Index_1_c n _ w9 (b0.hL0 hL hw9) a0 (b0.k0 h0_3 hw9) (fun j9 v9 h9=>hw9.cell0 ((b0.memA (.tl (.tl (.tl (.tl (.tl (.tl .hd))))))) j9 v9 h9)) a1 (b0.k0 h1_0 hw9) (fun j9 v9 h9=>hw9.cell0 ((b0.memA (.tl (.tl (.tl (.tl (.tl .hd)))))) j9 v9 h9)) a2 (fun j9 v9 h9=>hw9.cell0 ((b0.memA (.tl (.tl (.tl (.tl .hd))))) j9 v9 h9)) a3 (fun j9 v9 h9=>hw9.cell0 ((b0.memA (.tl (.tl (.tl .hd)))) j9 v9 h9)) K0)) rfl<|AJ (cs_TShare t0) b0 (.tl .hd) (onesB rfl) (fun g2 V0 G1=>?_)
 refine AJ [vI 0] V0 .hd (o1 rfl) (fun j2 A0 H1=>?_)
 refine Aa<|Al rfl<|RT.callD (vs:=[]) (cap:=[vP s0,vP d0]) body100 Tryz.func100 rfl rfl rfl (fun A1 J0 t1=>?_)
 refine Ac<|RG.recover0 .plain J0 rfl<|Af rfl<|Aa<|Ac<|Ae rfl<|Ab (FV.neqI0 Tryz.underlying20 rfl rfl)<|Aa<|BB rfl<|Au<|MX.fin rfl<|RT.leaveD0 J0 t1 Tryz.func100 rfl .nil<|Am (u:=.tuple #[.agg ((cs_TShare t0)).toArray,vI 0]) I0 Tryz.func57 rfl (.cons (.many (cs:=(cs_TShare t0)) (by kernel_rfl) rfl (A0.memA (.tl .hd))) (.cons (.one (by kernel_rfl) rfl ((A0.memA .hd) 0 _ rfl)) .nil)) rfl<|Ab (Ah rfl rfl)<|Ab (Ah rfl rfl)<|AJ (cs_TShare t0) A0 (.tl (.tl .hd)) (onesB rfl) (fun k2 H0 J1=>?_)
 refine Af rfl<|Aa<|Al rfl<|Am hb0 Tryz.func20 rfl (.cons (.many (cs:=(cs_TShare t0)) (by kernel_rfl) rfl (H0.memA (.tl (.tl .hd)))) (.cons (.tmp rfl) .nil)) rfl ?_
 cases h
 exact H0.gv
theorem el36:ElT Tryz.prog 36 58 (Rep.size TUnit) 104 (.agg #[.string ⟨#[]⟩,vI 0,vN,vN,vN,.bool false]) [.string ⟨#[]⟩,vI 0,vN,vN,vN,.bool false]:=⟨Tryz.underlying36,by kernel_rfl,rfl,rfl,rfl,rfl⟩
def wardmotelaw29_example_p (_n:Nat):Option TRoll:=
  (sadd ⟨#[117]⟩ ⟨#[97]⟩).bind fun c0=>(app ([]:List TUnit) ([(⟨c0,(10:Int),([(1:Int)]:List Int),([(2:Int),(8:Int)]:List Int),([]:List Int),false⟩:TUnit)]:List TUnit)).bind fun k0=>(sadd ⟨#[117]⟩ ⟨#[98]⟩).bind fun d0=>(app k0 ([(⟨d0,(10:Int),([(4:Int)]:List Int),([(3:Int),(2:Int)]:List Int),([]:List Int),false⟩:TUnit)]:List TUnit)).bind fun g0=>(sadd ⟨#[117]⟩ ⟨#[99]⟩).bind fun b0=>(app g0 ([(⟨b0,(20:Int),([(2:Int)]:List Int),([(1:Int),(9:Int)]:List Int),([]:List Int),false⟩:TUnit)]:List TUnit)).bind fun j0=>some (⟨(1:Int),(2:Int),(0:Int),j0⟩:TRoll)
theorem wardmotelaw29_example_c (n:Nat) (L:List Nat) (w:World) (hL:∀ b ∈ L,b < w.heap.size)  {r:TRoll} (h:wardmotelaw29_example_p n = some r) :
    Calls Tryz.prog 22 #[] w (Gives w fun w' u=>∃ (v0_3:Value) (cs0_3:List Value),u = .agg #[vI r.fj,vI r.fh,vI r.fl,v0_3]∧St w w' (rowsOf w.heap.size [(58,Rep.size TUnit,v0_3,r.fu.length,cs0_3)])∧Cells w' (bl (rowsOf w.heap.size [(58,Rep.size TUnit,v0_3,r.fu.length,cs0_3)]) ++ L) cs0_3 (r.fu:List TUnit)):=by
 unfold wardmotelaw29_example_p at h
 have hS0:=Ay w
 refine AD Tryz.func22 rfl rfl rfl (fun _ cs0 hb0=>?_)
 refine Ac<|Ai .plain rfl (Ar [vI 0,vI 0,vI 0,vN] hS0) (fun v4 I3 B1 W3=>?_)
 refine Aa<|Ac<|Ab (AM (vs:=[vI 1,vI 2]) (u:=.agg #[vI 1,vI 2,vI 0,vN]) (e2 rfl rfl) (fun w9=>by kernel_rfl))<|Ai .plain rfl (Ar [vI 0,vI 0,vI 0,vN] B1) (fun E4 M3 F1 Y3=>?_)
 refine AJ [vI 1,vI 2,vI 0,vN] F1 .hd (onesB rfl) (fun J4 H1 b4=>?_)
 refine Aa<|Aj<|Ac<|Ab (AM (vs:=[vI 10,vI 1,vI 2,vI 8]) (u:=.agg #[vI 10,vI 1,vI 2,vI 8]) (e4 rfl rfl rfl rfl) (fun w9=>by kernel_rfl))<|Ab (AM (vs:=[vI 10,vI 4,vI 3,vI 2]) (u:=.agg #[vI 10,vI 4,vI 3,vI 2]) (e4 rfl rfl rfl rfl) (fun w9=>by kernel_rfl))<|Ab (AM (vs:=[vI 20,vI 2,vI 1,vI 9]) (u:=.agg #[vI 20,vI 2,vI 1,vI 9]) (e4 rfl rfl rfl rfl) (fun w9=>by kernel_rfl))<|Ab (AM (vs:=[.agg #[vI 10,vI 1,vI 2,vI 8],.agg #[vI 10,vI 4,vI 3,vI 2],.agg #[vI 20,vI 2,vI 1,vI 9]]) (u:=.agg #[vI 10,vI 1,vI 2,vI 8,vI 10,vI 4,vI 3,vI 2,vI 20,vI 2,vI 1,vI 9]) (e3 rfl rfl rfl) (fun w9=>by kernel_rfl))<|Ae rfl<|Aa<|Az<|MX.loop1<|Ac<|Ab (Br (i:=0) (j:=3) rfl rfl)<|Aa<|Aj<|Bh rfl<|Au<|Aj<|Az<|Ac<|Ae rfl<|Ab (FV.idxN (cs:=[vI 10,vI 1,vI 2,vI 8,vI 10,vI 4,vI 3,vI 2,vI 20,vI 2,vI 1,vI 9]) (k:=0) (m:=4) (len:=3) (by kernel_rfl) (by kernel_rfl) rfl rfl rfl (by omega) rfl)<|Ai .plain rfl (Ar [vI 0,vI 0,vI 0,vI 0] H1) (fun K4 P3 I1 c4=>?_)
 refine Af rfl<|AJ [vI 10,vI 1,vI 2,vI 8] I1 .hd (onesB rfl) (fun M4 D0 d4=>?_)
 refine Aa<|Ao<|AZ 3 rfl<|AY rfl ((D0.memA (.tl .hd)) 3 _ rfl)<|Ae rfl<|Ab (FV.add (i:=97) (j:=0) (r:=97) rfl rfl (by decide))<|Ab (FV.conv (i:=97) Tryz.underlying3 Tryz.underlying21 rfl (by decide))<|Ab (FV.convIS (i:=97) (r:=⟨#[97]⟩) Tryz.underlying21 Tryz.underlying9 rfl (by kernel_rfl)) ?_
 obtain ⟨c0,C3,h⟩:=bi h
 refine Ab (FV.addS C3 rfl rfl)<|Ab (AW (m:=1) (k:=0) (len:=4) (by kernel_rfl) rfl rfl rfl (by omega))<|AY rfl ((D0.memA .hd) 0 _ rfl)<|Ab (AW (m:=1) (k:=1) (len:=4) (by kernel_rfl) rfl rfl rfl (by omega))<|AY rfl ((D0.memA .hd) 1 _ rfl)<|Ai .plain rfl (Ba (α:=Int) (xs:=([(1:Int)]:List Int)) (vs:=[vI 1]) (ds' :=[vI 1]) rfl D0 el32 rfl (e1 rfl) (by kernel_rfl) rfl) (fun P4 p0 E0 g4=>?_)
 have A2:=AH (cs:=[vI 1]) (xs:=(([(1:Int)]:List Int):List Int)) E0 L (Ax (cs:=[vI 1]) (ds:=[]) rfl (AT _ _))
 refine Ab (AW (m:=1) (k:=2) (len:=4) (by kernel_rfl) rfl rfl rfl (by omega))<|AY rfl ((E0.memA (.tl .hd)) 2 _ rfl)<|Ab (AW (m:=1) (k:=3) (len:=4) (by kernel_rfl) rfl rfl rfl (by omega))<|AY rfl ((E0.memA (.tl .hd)) 3 _ rfl)<|Ai .plain rfl (Ba (α:=Int) (xs:=([(2:Int),(8:Int)]:List Int)) (vs:=[vI 2,vI 8]) (ds' :=[vI 2,vI 8]) rfl E0 el32 rfl (e2 rfl rfl) (by kernel_rfl) rfl) (fun Q4 q0 F0 b2=>?_)
 have B2:=AH (cs:=[vI 2,vI 8]) (xs:=(([(2:Int),(8:Int)]:List Int):List Int)) F0 L (Ax (cs:=[vI 2]) (ds:=[vI 8]) rfl (Ax (cs:=[vI 8]) (ds:=[]) rfl (AT _ _)))
 refine Ab (AM (vs:=[.string c0,vI 10,(vS p0 1),(vS q0 2)]) (u:=.agg #[.string c0,vI 10,(vS p0 1),(vS q0 2),vN,.bool false]) (e4 rfl rfl rfl rfl) (fun w9=>by kernel_rfl)) ?_
 have W2:=AR A2 b2
 have x3:=Bn (α:=Int) F0 (.tl .hd) W2 hL
 have G0:=Bw F0 (.tl .hd)
 have c2:=Bx F0 (.tl .hd)
 have z1:=By (α:=Int) (v:=(vS p0 1)) (xs:=([(1:Int)]:List Int)) G0 L x3
 have X2:=AR B2 c2
 have y3:=Bn (α:=Int) G0 .hd X2 hL
 have U0:=Bw G0 .hd
 have u1:=Bx G0 .hd
 have z3:=By (α:=Int) (v:=(vS q0 2)) (xs:=([(2:Int),(8:Int)]:List Int)) U0 L y3
 have u4:=Rep.nilAt (α:=Int) U0 L
 have q4:=Aq z1 u1
 refine Ai .plain rfl (Ba (α:=TUnit) (xs:=([(⟨c0,(10:Int),([(1:Int)]:List Int),([(2:Int),(8:Int)]:List Int),([]:List Int),false⟩:TUnit)]:List TUnit)) (vs:=[.agg #[.string c0,vI 10,(vS p0 1),(vS q0 2),vN,.bool false]]) (ds' :=[.string c0,vI 10,(vS p0 1),(vS q0 2),vN,.bool false]) rfl U0 el36 rfl (e1 rfl) (by kernel_rfl) rfl) (fun R4 Q3 H0 v1=>?_)
 have Y2:=Aq z1 (Tt u1 v1)
 have Z2:=Aq z3 v1
 have A3:=Rep.nilAt (α:=Int) H0 L
 have C2:=AH (cs:=[.string c0,vI 10,(vS p0 1),(vS q0 2),vN,.bool false]) (xs:=(([(⟨c0,(10:Int),([(1:Int)]:List Int),([(2:Int),(8:Int)]:List Int),([]:List Int),false⟩:TUnit)]:List TUnit):List TUnit)) H0 L (Ax (cs:=[.string c0,vI 10,(vS p0 1),(vS q0 2),vN,.bool false]) (ds:=[]) (mk_TUnit c0 (10:Int) ([(1:Int)]:List Int) Y2 ([(2:Int),(8:Int)]:List Int) Z2 ([]:List Int) A3 false) (AT _ _))
 have V0:=H0.nilRow 58 (Rep.size TUnit)
 have d2:=St.nilRowT H0 58 (Rep.size TUnit)
 have D2:=AH (cs:=[]) (xs:=([]:List TUnit)) V0 L (AT _ _)
 obtain ⟨d5,G3,h⟩:=bi h
 have b3:=AR C2 d2
 refine RG.doesL .plain rfl (DoesL.app (α:=TUnit) (ys:=([(⟨c0,(10:Int),([(1:Int)]:List Int),([(2:Int),(8:Int)]:List Int),([]:List Int),false⟩:TUnit)]:List TUnit)) G3 V0 (fun _ _=>.hd) el36 rfl rfl D2 (Src.row (α:=TUnit) V0 (.tl .hd) b3)) (fun g1 U4 ⟨V3,W0,j4,E2⟩=>?_)
 refine AZ 3 rfl<|BH .plain (Bo (j:=3) (old:=[vI 1,vI 2,vI 0,vN]) (news:=[g1]) (new' :=[vI 1,vI 2,vI 0,g1]) W0 (.tl (.tl (.tl .hd))) rfl rfl rfl (St.c1 (α:=TUnit) W0 .hd) rfl rfl (o1 (St.o1 (α:=TUnit) W0 .hd)) rfl) (fun V4 J1 g2=>?_)
 refine Aa<|AB<|Ao<|Ab (FV.add (i:=0) (j:=1) (r:=1) rfl rfl (by decide))<|Ae rfl<|Aa<|MX.again1 ?_
 obtain ⟨K1,j2⟩:=AG J1 (.one .hd (.one (.tl (.tl .hd)) (.one (.tl (.tl .hd)) .done)))
 refine Ac<|Ab (Br (i:=1) (j:=3) rfl rfl)<|Aa<|Aj<|Bh rfl<|Au<|Aj<|Az<|Ac<|Ae rfl<|Ab (FV.idxN (cs:=[vI 10,vI 1,vI 2,vI 8,vI 10,vI 4,vI 3,vI 2,vI 20,vI 2,vI 1,vI 9]) (k:=1) (m:=4) (len:=3) (by kernel_rfl) (by kernel_rfl) rfl rfl rfl (by omega) rfl)<|Ai .plain rfl (Ar [vI 0,vI 0,vI 0,vI 0] K1) (fun W4 R3 M1 k2=>?_)
 refine Af rfl<|AJ [vI 10,vI 4,vI 3,vI 2] M1 .hd (onesB rfl) (fun X4 I0 p2=>?_)
 refine Aa<|Ao<|AZ 3 rfl<|AY rfl ((I0.memA (.tl (.tl .hd))) 3 _ rfl)<|Ae rfl<|Ab (FV.add (i:=97) (j:=1) (r:=98) rfl rfl (by decide))<|Ab (FV.conv (i:=98) Tryz.underlying3 Tryz.underlying21 rfl (by decide))<|Ab (FV.convIS (i:=98) (r:=⟨#[98]⟩) Tryz.underlying21 Tryz.underlying9 rfl (by kernel_rfl)) ?_
 obtain ⟨d0,D3,h⟩:=bi h
 refine Ab (FV.addS D3 rfl rfl)<|Ab (AW (m:=1) (k:=0) (len:=4) (by kernel_rfl) rfl rfl rfl (by omega))<|AY rfl ((I0.memA .hd) 0 _ rfl)<|Ab (AW (m:=1) (k:=1) (len:=4) (by kernel_rfl) rfl rfl rfl (by omega))<|AY rfl ((I0.memA .hd) 1 _ rfl)<|Ai .plain rfl (Ba (α:=Int) (xs:=([(4:Int)]:List Int)) (vs:=[vI 4]) (ds' :=[vI 4]) rfl I0 el32 rfl (e1 rfl) (by kernel_rfl) rfl) (fun Y4 s0 J0 q2=>?_)
 have F2:=AH (cs:=[vI 4]) (xs:=(([(4:Int)]:List Int):List Int)) J0 L (Ax (cs:=[vI 4]) (ds:=[]) rfl (AT _ _))
 refine Ab (AW (m:=1) (k:=2) (len:=4) (by kernel_rfl) rfl rfl rfl (by omega))<|AY rfl ((J0.memA (.tl .hd)) 2 _ rfl)<|Ab (AW (m:=1) (k:=3) (len:=4) (by kernel_rfl) rfl rfl rfl (by omega))<|AY rfl ((J0.memA (.tl .hd)) 3 _ rfl)<|Ai .plain rfl (Ba (α:=Int) (xs:=([(3:Int),(2:Int)]:List Int)) (vs:=[vI 3,vI 2]) (ds' :=[vI 3,vI 2]) rfl J0 el32 rfl (e2 rfl rfl) (by kernel_rfl) rfl) (fun Z4 g0 u0 p1=>?_)
 have s2:=AH (cs:=[vI 3,vI 2]) (xs:=(([(3:Int),(2:Int)]:List Int):List Int)) u0 L (Ax (cs:=[vI 3]) (ds:=[vI 2]) rfl (Ax (cs:=[vI 2]) (ds:=[]) rfl (AT _ _)))
 refine Ab (AM (vs:=[.string d0,vI 10,(vS s0 1),(vS g0 2)]) (u:=.agg #[.string d0,vI 10,(vS s0 1),(vS g0 2),vN,.bool false]) (e4 rfl rfl rfl rfl) (fun w9=>by kernel_rfl)) ?_
 have G2:=AR F2 p1
 have j3:=Bn (α:=Int) u0 (.tl .hd) G2 hL
 have v0:=Bw u0 (.tl .hd)
 have q1:=Bx u0 (.tl .hd)
 have x1:=By (α:=Int) (v:=(vS s0 1)) (xs:=([(4:Int)]:List Int)) v0 L j3
 have H2:=AR s2 q1
 have k3:=Bn (α:=Int) v0 .hd H2 hL
 have K0:=Bw v0 .hd
 have X0:=Bx v0 .hd
 have p3:=By (α:=Int) (v:=(vS g0 2)) (xs:=([(3:Int),(2:Int)]:List Int)) K0 L k3
 have s4:=Rep.nilAt (α:=Int) K0 L
 have k4:=Aq x1 X0
 refine Ai .plain rfl (Ba (α:=TUnit) (xs:=([(⟨d0,(10:Int),([(4:Int)]:List Int),([(3:Int),(2:Int)]:List Int),([]:List Int),false⟩:TUnit)]:List TUnit)) (vs:=[.agg #[.string d0,vI 10,(vS s0 1),(vS g0 2),vN,.bool false]]) (ds' :=[.string d0,vI 10,(vS s0 1),(vS g0 2),vN,.bool false]) rfl K0 el36 rfl (e1 rfl) (by kernel_rfl) rfl) (fun x4 H3 x0 Y0=>?_)
 have I2:=Aq x1 (Tt X0 Y0)
 have J2:=Aq p3 Y0
 have q3:=Rep.nilAt (α:=Int) x0 L
 have t2:=AH (cs:=[.string d0,vI 10,(vS s0 1),(vS g0 2),vN,.bool false]) (xs:=(([(⟨d0,(10:Int),([(4:Int)]:List Int),([(3:Int),(2:Int)]:List Int),([]:List Int),false⟩:TUnit)]:List TUnit):List TUnit)) x0 L (Ax (cs:=[.string d0,vI 10,(vS s0 1),(vS g0 2),vN,.bool false]) (ds:=[]) (mk_TUnit d0 (10:Int) ([(4:Int)]:List Int) I2 ([(3:Int),(2:Int)]:List Int) J2 ([]:List Int) q3 false) (AT _ _))
 obtain ⟨b5,E3,h⟩:=bi h
 have c3:=Tt g2 (Tt j2 (Tt k2 (Tt p2 (Tt q2 (Tt p1 (Tt q1 (Tt X0 Y0)))))))
 have K2:=AR E2 c3
 refine RG.doesL .plain rfl (DoesL.app (α:=TUnit) (ys:=([(⟨d0,(10:Int),([(4:Int)]:List Int),([(3:Int),(2:Int)]:List Int),([]:List Int),false⟩:TUnit)]:List TUnit)) E3 x0 (fun _ _=>(.tl (.tl .hd))) el36 rfl rfl K2 (Src.row (α:=TUnit) x0 .hd t2)) (fun d1 y4 ⟨U3,M0,X3,u2⟩=>?_)
 refine AZ 3 rfl<|BH .plain (Bo (j:=3) (old:=[vI 1,vI 2,vI 0,g1]) (news:=[d1]) (new' :=[vI 1,vI 2,vI 0,d1]) M0 (.tl (.tl (.tl .hd))) rfl rfl rfl (St.c1 (α:=TUnit) M0 (.tl (.tl .hd))) rfl rfl (o1 (St.o1 (α:=TUnit) M0 (.tl (.tl .hd)))) rfl) (fun z4 C1 P1=>?_)
 refine Aa<|AB<|Ao<|Ab (FV.add (i:=1) (j:=1) (r:=2) rfl rfl (by decide))<|Ae rfl<|Aa<|MX.again1 ?_
 obtain ⟨D1,Q1⟩:=AG C1 (.one (.tl (.tl .hd)) (.one (.tl (.tl .hd)) (.one (.tl (.tl .hd)) .done)))
 refine Ac<|Ab (Br (i:=2) (j:=3) rfl rfl)<|Aa<|Aj<|Bh rfl<|Au<|Aj<|Az<|Ac<|Ae rfl<|Ab (FV.idxN (cs:=[vI 10,vI 1,vI 2,vI 8,vI 10,vI 4,vI 3,vI 2,vI 20,vI 2,vI 1,vI 9]) (k:=2) (m:=4) (len:=3) (by kernel_rfl) (by kernel_rfl) rfl rfl rfl (by omega) rfl)<|Ai .plain rfl (Ar [vI 0,vI 0,vI 0,vI 0] D1) (fun A4 J3 E1 R1=>?_)
 refine Af rfl<|AJ [vI 20,vI 2,vI 1,vI 9] E1 .hd (onesB rfl) (fun B4 y0 U1=>?_)
 refine Aa<|Ao<|AZ 3 rfl<|AY rfl ((y0.memA (.tl (.tl .hd))) 3 _ rfl)<|Ae rfl<|Ab (FV.add (i:=97) (j:=2) (r:=99) rfl rfl (by decide))<|Ab (FV.conv (i:=99) Tryz.underlying3 Tryz.underlying21 rfl (by decide))<|Ab (FV.convIS (i:=99) (r:=⟨#[99]⟩) Tryz.underlying21 Tryz.underlying9 rfl (by kernel_rfl)) ?_
 obtain ⟨b0,B3,h⟩:=bi h
 refine Ab (FV.addS B3 rfl rfl)<|Ab (AW (m:=1) (k:=0) (len:=4) (by kernel_rfl) rfl rfl rfl (by omega))<|AY rfl ((y0.memA .hd) 0 _ rfl)<|Ab (AW (m:=1) (k:=1) (len:=4) (by kernel_rfl) rfl rfl rfl (by omega))<|AY rfl ((y0.memA .hd) 1 _ rfl)<|Ai .plain rfl (Ba (α:=Int) (xs:=([(2:Int)]:List Int)) (vs:=[vI 2]) (ds' :=[vI 2]) rfl y0 el32 rfl (e1 rfl) (by kernel_rfl) rfl) (fun C4 j0 z0 V1=>?_)
 have v2:=AH (cs:=[vI 2]) (xs:=(([(2:Int)]:List Int):List Int)) z0 L (Ax (cs:=[vI 2]) (ds:=[]) rfl (AT _ _))
 refine Ab (AW (m:=1) (k:=2) (len:=4) (by kernel_rfl) rfl rfl rfl (by omega))<|AY rfl ((z0.memA (.tl .hd)) 2 _ rfl)<|Ab (AW (m:=1) (k:=3) (len:=4) (by kernel_rfl) rfl rfl rfl (by omega))<|AY rfl ((z0.memA (.tl .hd)) 3 _ rfl)<|Ai .plain rfl (Ba (α:=Int) (xs:=([(1:Int),(9:Int)]:List Int)) (vs:=[vI 1,vI 9]) (ds' :=[vI 1,vI 9]) rfl z0 el32 rfl (e2 rfl rfl) (by kernel_rfl) rfl) (fun D4 k0 A0 s1=>?_)
 have x2:=AH (cs:=[vI 1,vI 9]) (xs:=(([(1:Int),(9:Int)]:List Int):List Int)) A0 L (Ax (cs:=[vI 1]) (ds:=[vI 9]) rfl (Ax (cs:=[vI 9]) (ds:=[]) rfl (AT _ _)))
 refine Ab (AM (vs:=[.string b0,vI 20,(vS j0 1),(vS k0 2)]) (u:=.agg #[.string b0,vI 20,(vS j0 1),(vS k0 2),vN,.bool false]) (e4 rfl rfl rfl rfl) (fun w9=>by kernel_rfl)) ?_
 have M2:=AR v2 s1
 have s3:=Bn (α:=Int) A0 (.tl .hd) M2 hL
 have B0:=Bw A0 (.tl .hd)
 have t1:=Bx A0 (.tl .hd)
 have y1:=By (α:=Int) (v:=(vS j0 1)) (xs:=([(2:Int)]:List Int)) B0 L s3
 have P2:=AR x2 t1
 have t3:=Bn (α:=Int) B0 .hd P2 hL
 have P0:=Bw B0 .hd
 have Z0:=Bx B0 .hd
 have u3:=By (α:=Int) (v:=(vS k0 2)) (xs:=([(1:Int),(9:Int)]:List Int)) P0 L t3
 have t4:=Rep.nilAt (α:=Int) P0 L
 have p4:=Aq y1 Z0
 refine Ai .plain rfl (Ba (α:=TUnit) (xs:=([(⟨b0,(20:Int),([(2:Int)]:List Int),([(1:Int),(9:Int)]:List Int),([]:List Int),false⟩:TUnit)]:List TUnit)) (vs:=[.agg #[.string b0,vI 20,(vS j0 1),(vS k0 2),vN,.bool false]]) (ds' :=[.string b0,vI 20,(vS j0 1),(vS k0 2),vN,.bool false]) rfl P0 el36 rfl (e1 rfl) (by kernel_rfl) rfl) (fun F4 K3 C0 b1=>?_)
 have Q2:=Aq y1 (Tt Z0 b1)
 have R2:=Aq u3 b1
 have v3:=Rep.nilAt (α:=Int) C0 L
 have y2:=AH (cs:=[.string b0,vI 20,(vS j0 1),(vS k0 2),vN,.bool false]) (xs:=(([(⟨b0,(20:Int),([(2:Int)]:List Int),([(1:Int),(9:Int)]:List Int),([]:List Int),false⟩:TUnit)]:List TUnit):List TUnit)) C0 L (Ax (cs:=[.string b0,vI 20,(vS j0 1),(vS k0 2),vN,.bool false]) (ds:=[]) (mk_TUnit b0 (20:Int) ([(2:Int)]:List Int) Q2 ([(1:Int),(9:Int)]:List Int) R2 ([]:List Int) v3 false) (AT _ _))
 obtain ⟨c5,F3,h⟩:=bi h
 have d3:=Tt P1 (Tt Q1 (Tt R1 (Tt U1 (Tt V1 (Tt s1 (Tt t1 (Tt Z0 b1)))))))
 have U2:=AR u2 d3
 refine RG.doesL .plain rfl (DoesL.app (α:=TUnit) (ys:=([(⟨b0,(20:Int),([(2:Int)]:List Int),([(1:Int),(9:Int)]:List Int),([]:List Int),false⟩:TUnit)]:List TUnit)) F3 C0 (fun _ _=>(.tl (.tl .hd))) el36 rfl rfl U2 (Src.row (α:=TUnit) C0 .hd y2)) (fun t0 G4 ⟨A1,Q0,Z3,z2⟩=>?_)
 refine AZ 3 rfl<|BH .plain (Bo (j:=3) (old:=[vI 1,vI 2,vI 0,d1]) (news:=[t0]) (new' :=[vI 1,vI 2,vI 0,t0]) Q0 (.tl (.tl (.tl .hd))) rfl rfl rfl (St.c1 (α:=TUnit) Q0 (.tl (.tl .hd))) rfl rfl (o1 (St.o1 (α:=TUnit) Q0 (.tl (.tl .hd)))) rfl) (fun H4 G1 W1=>?_)
 refine Aa<|AB<|Ao<|Ab (FV.add (i:=2) (j:=1) (r:=3) rfl rfl (by decide))<|Ae rfl<|Aa<|MX.again1 ?_
 obtain ⟨R0,X1⟩:=AG G1 (.one (.tl (.tl .hd)) (.one (.tl (.tl .hd)) (.one (.tl (.tl .hd)) .done)))
 refine Ac<|Ab (Br (i:=3) (j:=3) rfl rfl)<|Aa<|Aj<|BB rfl<|Be rfl<|Ac<|Ab (AA rfl (R0.memA (.tl .hd)))<|AJ [vI 1,vI 2,vI 0,t0] R0 (.tl (.tl .hd)) (o4 rfl rfl rfl (St.o1 (α:=TUnit) R0 .hd)) (fun I4 j1 Y1=>?_)
 refine Aa<|Al rfl<|Am (u:=.agg #[vI 1,vI 2,vI 0,t0]) hb0 Tryz.func22 rfl (.cons (.many (cs:=[vI 1,vI 2,vI 0,t0]) (by kernel_rfl) rfl (j1.memA (.tl (.tl .hd)))) .nil) rfl ?_
 obtain ⟨k1,Z1⟩:=AG j1 (.one .hd .done)
 cases h
 have g3:=Tt W1 (Tt X1 (Tt Y1 Z1))
 have V2:=AR z2 g3
 exact ⟨k1.ag,fun w9 hw9=>⟨t0,A1,rfl,k1.agree hw9,Cells.keep0 V2 hw9⟩⟩
structure Ttold where
  fG:TShare
  fI:TShare
  deriving DecidableEq
instance:Rep Ttold:=Rep.via (β:=TShare × TShare) fun x=>(x.fG,x.fI)
def cs_Ttold (x:Ttold):List Value:=[vU x.fG.fN.1,vU x.fG.fN.2.1,vU x.fG.fN.2.2.1,vU x.fG.fN.2.2.2.1,vU x.fG.fN.2.2.2.2.1,vU x.fG.fN.2.2.2.2.2.1,vU x.fG.fN.2.2.2.2.2.2.1,vU x.fG.fN.2.2.2.2.2.2.2,vU x.fG.fD.1,vU x.fG.fD.2.1,vU x.fG.fD.2.2.1,vU x.fG.fD.2.2.2.1,vU x.fG.fD.2.2.2.2.1,vU x.fG.fD.2.2.2.2.2.1,vU x.fG.fD.2.2.2.2.2.2.1,vU x.fG.fD.2.2.2.2.2.2.2,vU x.fI.fN.1,vU x.fI.fN.2.1,vU x.fI.fN.2.2.1,vU x.fI.fN.2.2.2.1,vU x.fI.fN.2.2.2.2.1,vU x.fI.fN.2.2.2.2.2.1,vU x.fI.fN.2.2.2.2.2.2.1,vU x.fI.fN.2.2.2.2.2.2.2,vU x.fI.fD.1,vU x.fI.fD.2.1,vU x.fI.fD.2.2.1,vU x.fI.fD.2.2.2.1,vU x.fI.fD.2.2.2.2.1,vU x.fI.fD.2.2.2.2.2.1,vU x.fI.fD.2.2.2.2.2.2.1,vU x.fI.fD.2.2.2.2.2.2.2]
def tb91_1:List (Nat × Nat × Nat):=[(0,32,4),(1,64,32),(0,128,8),(4,256,128),(10,512,320),(0,1024,4),(32,2048,1024),(0,4096,8),(128,8192,4096),(336,16384,10240),(528,32768,16896),(2047,0,32784)]
def share_Ratio_Times_p (n:Nat) (a0:TRatio) (a1:TRatio):Option TRatio:=
  (wide_Long_Times_p n a0.ft a1.ft).bind fun b0=>(wide_Long_Times_p n a0.fp a1.fp).bind fun c0=>(share_Lowest_p n b0 c0).bind fun d0=>some d0
theorem share_Ratio_Times_c (n:Nat) (L:List Nat) (w:World) (hL:∀ b ∈ L,b < w.heap.size) (a0:TRatio) {v0_1:Value} (h0_1:Rep.R w L [v0_1] a0.ft.fo) {v0_3:Value} (h0_3:Rep.R w L [v0_3] a0.fp.fo) (a1:TRatio) {v1_1:Value} (h1_1:Rep.R w L [v1_1] a1.ft.fo) {v1_3:Value} (h1_3:Rep.R w L [v1_3] a1.fp.fo)  {r:TRatio} (h:share_Ratio_Times_p n a0 a1 = some r) :
    Calls Tryz.prog 91 #[.agg #[.bool a0.ft.fe,v0_1,.bool a0.fp.fe,v0_3],.agg #[.bool a1.ft.fe,v1_1,.bool a1.fp.fe,v1_3]] w (Gives w fun w' u=>∃ v0_1 v0_3:Value,u = .agg #[.bool r.ft.fe,v0_1,.bool r.fp.fe,v0_3]∧Rep.R w' L [v0_1] r.ft.fo∧Rep.R w' L [v0_3] r.fp.fo):=by
 unfold share_Ratio_Times_p at h
 have hS0:=Ay w
 refine AD Tryz.func91 rfl rfl rfl (fun _ cs0 hb0=>?_)
 refine Ac<|Ai .plain rfl (Av hS0 rfl rfl) (fun p1 R0 x0 W0=>?_)
 refine Ai .plain rfl (Av x0 rfl rfl) (fun q1 U0 y0 X0=>?_)
 refine Ai .plain rfl (Ar [.bool false,vN,.bool false,vN] y0) (fun s1 V0 c0 Y0=>?_)
 refine Aa<|Aj<|dt 11 tb91_1 (fun b0 d0=>?_)
 refine Ag 0 1 b0 rfl d0 (fun _=>AX 0 rfl) rfl<|AC 1 3 3600 b0 rfl d0 (Bc (cs:=[.bool a0.ft.fe,v0_1]) (by kernel_rfl) rfl (mem_part (c0.memA (.tl (.tl .hd))) 0 2)) rfl<|Ag 2 7 b0 rfl d0 (fun _=>AX 0 rfl) rfl<|AC 3 15 3600 b0 rfl d0 (Bc (cs:=[.bool a1.ft.fe,v1_1]) (by kernel_rfl) rfl (mem_part (c0.memA (.tl .hd)) 0 2)) rfl<|Ag 5 47 b0 rfl d0 (fun _=>AX 2 rfl) rfl<|AC 6 111 3584 b0 rfl d0 (Bc (cs:=[.bool a0.fp.fe,v0_3]) (by kernel_rfl) rfl (mem_part (c0.memA (.tl (.tl .hd))) 2 2)) rfl<|Ag 7 239 b0 rfl d0 (fun _=>AX 2 rfl) rfl<|AC 8 495 3584 b0 rfl d0 (Bc (cs:=[.bool a1.fp.fe,v1_3]) (by kernel_rfl) rfl (mem_part (c0.memA (.tl .hd)) 2 2)) rfl ?_
 obtain ⟨P0,J0,h⟩:=bi h
 refine Bu 4 511 b0 rfl .plain body117 rfl (e2 rfl rfl) (fun w9 hw9=>wide_Long_Times_c n _ w9 (c0.hL hL hw9) a0.ft (c0.km h0_1 hw9) a1.ft (c0.km h1_1 hw9) J0) rfl (fun t1 g1 B0 ⟨c1,hu_,H0⟩=>?_)
 subst hu_
 obtain ⟨g0,Z0⟩:=c0.agr B0
 obtain ⟨Q0,K0,h⟩:=bi h
 refine Bu 9 1023 b0 rfl .plain body117 rfl (e2 rfl rfl) (fun w9 hw9=>wide_Long_Times_c n _ w9 (g0.hL hL hw9) a0.fp (g0.km h0_3 hw9) a1.fp (g0.km h1_3 hw9) K0) rfl (fun u1 j1 C0 ⟨d1,hu_,I0⟩=>?_)
 subst hu_
 obtain ⟨s0,A0⟩:=g0.agr C0
 obtain ⟨k0,M0,h⟩:=bi h
 have E0:=Aq H0 A0
 refine Bu 10 2047 b0 rfl .plain body113 rfl (e2 rfl rfl) (fun w9 hw9=>share_Lowest_c n _ w9 (s0.hL hL hw9) P0 (Ap E0 hw9) Q0 (Ap I0 hw9) M0) rfl (fun v1 k1 D0 ⟨p0,q0,hu_,u0,v0⟩=>?_)
 subst hu_
 obtain ⟨z0,b1⟩:=s0.agr D0
 refine Bq 11 4095 b0 rfl rfl .plain (Aw (news:=[.bool k0.ft.fe,p0,.bool k0.fp.fe,q0]) z0 .hd rfl rfl rfl rfl rfl rfl (o4 rfl (AN u0) rfl (AN v0))) (fun x1 j0 t0=>?_)
 refine AE (dk b0)<|Al rfl<|Am hb0 Tryz.func91 rfl (.cons (.many (cs:=[.bool k0.ft.fe,p0,.bool k0.fp.fe,q0]) (by kernel_rfl) rfl (j0.memA .hd)) .nil) rfl ?_
 cases h
 have F0:=Aq u0 t0
 have G0:=Aq v0 t0
 exact ⟨j0.ag,fun w9 hw9=>⟨p0,q0,rfl,j0.kd F0 hw9,j0.kd G0 hw9⟩⟩
theorem body91:bodyB Tryz.prog 91 = true:=by kernel_rfl
def share_Mul_p (n:Nat) (a0:TShare) (a1:TShare):Option (TShare × Int):=
  (share_valid_p n ([a0,a1]:List TShare)).bind fun d0=>(if d0 = true then (share_Read_p n a0).bind fun g0=>(share_Read_p n a1).bind fun j0=>(share_Ratio_Times_p n g0 j0).bind fun k0=>(share_told_p n k0 (0:Int)).bind fun c0=>some (c0.1,c0.2) else (share_told_p n (⟨(⟨false,([]:List UInt64)⟩:TLong),(⟨false,([]:List UInt64)⟩:TLong)⟩:TRatio) (20:Int)).bind fun b0=>some (b0.1,b0.2))
theorem share_Mul_c (n:Nat) (L:List Nat) (w:World) (hL:∀ b ∈ L,b < w.heap.size) (a0:TShare) (a1:TShare)  {r:TShare × Int} (h:share_Mul_p n a0 a1 = some r) :
    Calls Tryz.prog 44 #[.agg ((cs_TShare a0)).toArray,.agg ((cs_TShare a1)).toArray] w (Gives w fun _ u=>u = .tuple #[.agg ((cs_TShare r.1)).toArray,vI r.2]):=by
 unfold share_Mul_p at h
 have hS0:=Ay w
 refine AD Tryz.func44 rfl rfl rfl (fun _ cs0 hb0=>?_)
 refine Ac<|Ai .plain rfl (Av hS0 rfl rfl) (fun s2 y1 I0 J1=>?_)
 refine Ai .plain rfl (Av I0 rfl rfl) (fun t2 z1 J0 K1=>?_)
 refine Ai .plain rfl (Ar zL J0) (fun u2 A1 q0 M1=>?_)
 refine Af rfl<|Aa<|Ac<|Ab (AA rfl (q0.memA (.tl (.tl .hd))))<|Ab (AA rfl (q0.memA (.tl .hd)))<|Bj (fst:=[]) (cap:=[]) (vs:=[.agg ((cs_TShare a0)).toArray,.agg ((cs_TShare a1)).toArray,.func (.func 91) #[] #[]]) .plain body89 Tryz.func89 rfl rfl rfl rfl (e3 rfl rfl rfl) rfl (fun G1 E0 Z1=>?_)
 refine Ac<|Ai .plain rfl (Av q0 rfl rfl) (fun v2 B1 K0 P1=>?_)
 refine Ai .plain rfl (Av K0 rfl rfl) (fun x2 C1 M0 Q1=>?_)
 refine Ai .plain rfl (Ar [.bool false,vN,.bool false,vN] M0) (fun y2 D1 s0 R1=>?_)
 refine Af rfl<|Aa<|Aj<|Ac<|Ab (AA rfl (s0.memA (.tl (.tl .hd))))<|Ab (AA rfl (s0.memA (.tl .hd)))<|Ai .plain rfl (Ba (α:=TShare) (xs:=([a0,a1]:List TShare)) (vs:=[.agg ((cs_TShare a0)).toArray,.agg ((cs_TShare a1)).toArray]) (ds' :=(cs_TShare a0 ++ cs_TShare a1)) rfl s0 el40 rfl (e2 rfl rfl) (by kernel_rfl) rfl) (fun z2 E1 c0 U1=>?_)
 have V0:=AH (cs:=(cs_TShare a0 ++ cs_TShare a1)) (xs:=(([a0,a1]:List TShare):List TShare)) c0 L (Ax (cs:=(cs_TShare a0)) (ds:=(cs_TShare a1)) (mk_TShare a0.fN a0.fD) (Ax (cs:=(cs_TShare a1)) (ds:=[]) (mk_TShare a1.fN a1.fD) (AT _ _)))
 obtain ⟨u1,k1,h⟩:=bi h
 refine Bg (.bool u1) body116 rfl (e1 rfl) (fun w9 hw9=>share_valid_c n _ w9 (c0.hL0 hL hw9) ([a0,a1]:List TShare) (Ap (St.lend (α:=TShare) (L:=L) c0 .hd V0 hL) hw9) k1) rfl<|Ab (BG rfl)<|Aa<|MX.ifnb rfl h (fun H0 h=>?_) (fun H0 h=>?_)
 refine Au<|Aj<|dt 6 tb89_4 (fun b0 t0=>?_)
 refine Ag 0 1 b0 rfl t0 (fun _=>Ak rfl) rfl<|AC 1 3 244 b0 rfl t0 (AA rfl (c0.memA (.tl (.tl (.tl .hd))))) rfl<|AC 3 11 240 b0 rfl t0 (AA rfl (c0.memA (.tl (.tl .hd)))) rfl ?_
 obtain ⟨v1,p1,h⟩:=bi h
 refine Bu 2 15 b0 rfl .plain body95 rfl (e1 rfl) (fun w9 hw9=>share_Read_c n _ w9 (c0.hL hL hw9) a0 p1) rfl (fun A2 j2 Q0 ⟨b2,c2,hu_,b1,c1⟩=>?_)
 subst hu_
 obtain ⟨y0,V1⟩:=c0.agr Q0
 obtain ⟨x1,q1,h⟩:=bi h
 refine Bu 4 31 b0 rfl .plain body95 rfl (e1 rfl) (fun w9 hw9=>share_Read_c n _ w9 (y0.hL hL hw9) a1 q1) rfl (fun B2 k2 R0 ⟨d2,g2,hu_,d1,g1⟩=>?_)
 subst hu_
 obtain ⟨z0,C0⟩:=y0.agr R0
 obtain ⟨d0,s1,h⟩:=bi h
 have W0:=Aq b1 C0
 have X0:=Aq c1 C0
 refine Bu 5 63 b0 rfl .plain body91 rfl (e2 rfl rfl) (fun w9 hw9=>share_Ratio_Times_c n _ w9 (z0.hL hL hw9) v1 (Ap W0 hw9) (Ap X0 hw9) x1 (Ap d1 hw9) (Ap g1 hw9) s1) rfl (fun C2 p2 U0 ⟨u0,v0,hu_,F0,G0⟩=>?_)
 subst hu_
 obtain ⟨P0,W1⟩:=z0.agr U0
 refine Bq 6 127 b0 rfl rfl .plain (Aw (news:=[.bool d0.ft.fe,u0,.bool d0.fp.fe,v0]) P0 (.tl .hd) rfl rfl rfl rfl rfl rfl (o4 rfl (AN F0) rfl (AN G0))) (fun D2 g0 D0=>?_)
 refine BC (i:=7) (rk b0) (BK (m' :=255) (sk b0) rfl .plain rfl (Bi rfl) ?_)
 refine AE (dk b0)<|Al rfl<|Am (u:=.tuple #[.agg #[.bool d0.ft.fe,u0,.bool d0.fp.fe,v0],vI 0]) E0 Tryz.func89 rfl (.cons (.many (cs:=[.bool d0.ft.fe,u0,.bool d0.fp.fe,v0]) (by kernel_rfl) rfl (g0.memA (.tl .hd))) (.cons (.tmp rfl) .nil)) rfl<|Ab (Ah rfl rfl)<|Ab (Ah rfl rfl) ?_
 obtain ⟨k0,t1,h⟩:=bi h
 have Y0:=Aq F0 D0
 have Z0:=Aq G0 D0
 refine Bg (.tuple #[.agg ((cs_TShare k0.1)).toArray,vI k0.2]) body88 rfl (e2 rfl rfl) (fun w9 hw9=>share_told_c n _ w9 (g0.hL0 hL hw9) d0 (g0.kd Y0 hw9) (g0.kd Z0 hw9) (0:Int) t1) rfl<|Ab (Ah rfl rfl)<|Ab (Ah rfl rfl)<|AJ (cs_TShare k0.1) g0 (.tl (.tl (.tl (.tl .hd)))) (onesB rfl) (fun E2 A0 X1=>?_)
 refine Af rfl<|Aa<|Al rfl<|Am hb0 Tryz.func44 rfl (.cons (.many (cs:=(cs_TShare k0.1)) (by kernel_rfl) rfl (A0.memA (.tl (.tl (.tl (.tl .hd)))))) (.cons (.tmp rfl) .nil)) rfl ?_
 cases h
 exact A0.gv
 refine Ac<|Ai .plain rfl (Ar [.bool false,vN,.bool false,vN] c0) (fun F2 F1 B0 Y1=>?_)
 refine Aa<|Ac<|Ab (AA rfl (B0.memA .hd))<|AJ [.bool false,vN,.bool false,vN] B0 (.tl (.tl .hd)) (onesB rfl) (fun G2 p0 H1=>?_)
 refine Af rfl<|Aa<|Al rfl<|Am (u:=.tuple #[.agg #[.bool false,vN,.bool false,vN],vI 20]) E0 Tryz.func89 rfl (.cons (.many (cs:=[.bool false,vN,.bool false,vN]) (by kernel_rfl) rfl (p0.memA (.tl (.tl .hd)))) (.cons (.tmp rfl) .nil)) rfl<|Ab (Ah rfl rfl)<|Ab (Ah rfl rfl) ?_
 obtain ⟨j0,j1,h⟩:=bi h
 refine Bg (.tuple #[.agg ((cs_TShare j0.1)).toArray,vI j0.2]) body88 rfl (e2 rfl rfl) (fun w9 hw9=>share_told_c n _ w9 (p0.hL0 hL hw9) (⟨(⟨false,([]:List UInt64)⟩:TLong),(⟨false,([]:List UInt64)⟩:TLong)⟩:TRatio) (Ap (Rep.nilSlice _ _) hw9) (Ap (Rep.nilSlice _ _) hw9) (20:Int) j1) rfl<|Ab (Ah rfl rfl)<|Ab (Ah rfl rfl)<|AJ (cs_TShare j0.1) p0 (.tl (.tl (.tl (.tl (.tl .hd))))) (onesB rfl) (fun q2 x0 I1=>?_)
 refine Af rfl<|Aa<|Al rfl<|Am hb0 Tryz.func44 rfl (.cons (.many (cs:=(cs_TShare j0.1)) (by kernel_rfl) rfl (x0.memA (.tl (.tl (.tl (.tl (.tl .hd))))))) (.cons (.tmp rfl) .nil)) rfl ?_
 cases h
 exact x0.gv
theorem body44:bodyB Tryz.prog 44 = true:=by kernel_rfl
def minority_mul_p (n:Nat) (a0:TShare) (a1:TShare):Option (Except Tbroken TShare):=
  (share_Mul_p n a0 a1).bind fun b0=>(minority_must_api_Share_p n b0.1 b0.2).bind fun d0=>exc d0 (fun g0=>some (.ok g0)) (fun c0=>some (.error c0))
theorem minority_mul_c (n:Nat) (L:List Nat) (w:World) (hL:∀ b ∈ L,b < w.heap.size) (a0:TShare) (a1:TShare)  {r:Except Tbroken TShare} (h:minority_mul_p n a0 a1 = some r) :
    Calls Tryz.prog 69 #[.agg ((cs_TShare a0)).toArray,.agg ((cs_TShare a1)).toArray] w (PGives w (fun (y:TShare) _ u=>u = .agg ((cs_TShare y)).toArray) (fun e=>.iface 128 (.agg #[vI e.fB])) r):=by
 unfold minority_mul_p at h
 have hS0:=Ay w
 refine BE Tryz.func69 rfl rfl rfl (fun _ cs0 hb0 hp0=>?_)
 refine Ac<|Ai .plain rfl (Av hS0 rfl rfl) (fun F0 v0 k0 A0=>?_)
 refine Ai .plain rfl (Av k0 rfl rfl) (fun G0 x0 p0 B0=>?_)
 refine Ai .plain rfl (Ar zL p0) (fun H0 y0 b0 C0=>?_)
 refine Aa<|Ac<|Ab (AA rfl (b0.memA (.tl (.tl .hd))))<|Ab (AA rfl (b0.memA (.tl .hd))) ?_
 obtain ⟨c0,t0,h⟩:=bi h
 refine Bg (.tuple #[.agg ((cs_TShare c0.1)).toArray,vI c0.2]) body44 rfl (e2 rfl rfl) (fun w9 hw9=>share_Mul_c n _ w9 (b0.hL0 hL hw9) a0 a1 t0) rfl<|Ab (Ah rfl rfl)<|Ab (Ah rfl rfl) ?_
 obtain ⟨u0,j0,h⟩:=bi h
 rcases u0 with z0 | d0
 have h:=exc_e h
 try dsimp only at h
 refine Bt (fst:=[]) (cap:=[]) .plain body60 rfl (e2 rfl rfl) (fun w9 hw9=>minority_must_api_Share_c n _ w9 (b0.hL0 hL hw9) c0.1 c0.2 j0) (fun I0 s0=>?_)
 obtain ⟨q0,D0⟩:=b0.agr s0
 cases h
 exact AP hp0 Tryz.func69 ⟨q0.ag,rfl⟩
 have h:=exc_o h
 try dsimp only at h
 refine Bg (.agg ((cs_TShare d0)).toArray) body60 rfl (e2 rfl rfl) (fun w9 hw9=>AK (minority_must_api_Share_c n _ w9 (b0.hL0 hL hw9) c0.1 c0.2 j0)) rfl<|AJ (cs_TShare d0) b0 .hd (onesB rfl) (fun J0 g0 E0=>?_)
 refine Aa<|Al rfl<|Am hb0 Tryz.func69 rfl (.cons (.many (cs:=(cs_TShare d0)) (by kernel_rfl) rfl (g0.memA .hd)) .nil) rfl ?_
 cases h
 exact ⟨g0.ag,fun w9 hw9=>okOf_in rfl⟩
structure Tpoll where
  fv:TRoll
  fF:Int
  fparty:Int
  deriving DecidableEq
instance:Rep Tpoll:=Rep.via (β:=TRoll × Int × Int) fun x=>(x.fv,x.fF,x.fparty)
theorem minority_poll_points_c (n:Nat) (L:List Nat) (w:World) (_hL:∀ b ∈ L,b < w.heap.size) (a0:Tpoll) {v0_3:Value} (h0_3:Rep.R w L [v0_3] a0.fv.fu)  :
    Calls Tryz.prog 108 #[.agg #[vI a0.fv.fj,vI a0.fv.fh,vI a0.fv.fl,v0_3,vI a0.fF,vI a0.fparty]] w (Gives w fun w' u=>∃ b0:Nat,u = .func (.func 127) #[] #[vP b0]∧St w w' [.cells b0 [vI a0.fv.fj,vI a0.fv.fh,vI a0.fv.fl,v0_3,vI a0.fF,vI a0.fparty] 160]):=by
 have hS0:=Ay w
 refine AD Tryz.func108 rfl rfl rfl (fun _ cs0 hb0=>?_)
 refine Ac<|Ai .plain rfl (Av hS0 rfl rfl) (fun g0 b0 c0 d0=>?_)
 refine Af rfl<|Aa<|Ac<|Ab (BF (vs:=[]) (us:=[vP b0]) evs_nil (e1 rfl))<|Af rfl<|Aa<|Al rfl<|Am (u:=.func (.func 127) #[] #[vP b0]) hb0 Tryz.func108 rfl (.cons (.tmp rfl) .nil) rfl ?_
 exact ⟨c0.ag,fun w9 hw9=>⟨b0,rfl,c0.agree hw9⟩⟩
def tb109_2:List (Nat × Nat × Nat):=[(0,8192,512),(0,16384,64),(0,32768,128),(6,65536,49152),(9,131072,73728),(31,0,131328)]
theorem body69:bodyB Tryz.prog 69 = true:=by kernel_rfl
def minority_fitted_1_p (n:Nat) (a0:TShare) (a1:TShare) (a2:TShare) (a3:TShare):Option (Except Tbroken TShare):=
  (minority_mul_p n a0 a1).bind fun c0=>exc c0 (fun d0=>(minority_mul_p n a2 a3).bind fun g0=>exc g0 (fun j0=>(minority_sub_p n d0 j0).bind fun k0=>exc k0 (fun p0=>some (.ok p0)) (fun s0=>none)) (fun q0=>none)) (fun b0=>some (.error b0))
theorem minority_fitted_1_c (n:Nat) (L:List Nat) (w:World) (hL:∀ b ∈ L,b < w.heap.size) (a0:TShare) (a1:TShare) (a2:TShare) (a3:TShare)  {r:Except Tbroken TShare} (h:minority_fitted_1_p n a0 a1 a2 a3 = some r) :
    Calls Tryz.prog 109 #[.agg ((cs_TShare a0)).toArray,.agg ((cs_TShare a1)).toArray,.agg ((cs_TShare a2)).toArray,.agg ((cs_TShare a3)).toArray] w (PGives w (fun (y:TShare) _ u=>u = .agg ((cs_TShare y)).toArray) (fun e=>.iface 128 (.agg #[vI e.fB])) r):=by
 unfold minority_fitted_1_p at h
 have hS0:=Ay w
 refine BE Tryz.func109 rfl rfl rfl (fun _ cs0 hb0 hp0=>?_)
 refine Ac<|Ai .plain rfl (Av hS0 rfl rfl) (fun g1 G0 t0 U0=>?_)
 refine Ai .plain rfl (Av t0 rfl rfl) (fun j1 H0 u0 V0=>?_)
 refine Ai .plain rfl (Av u0 rfl rfl) (fun k1 I0 v0 W0=>?_)
 refine Ai .plain rfl (Av v0 rfl rfl) (fun p1 J0 x0 X0=>?_)
 refine Ai .plain rfl (Ar zL x0) (fun q1 K0 c0 Y0=>?_)
 refine Aa<|Ac<|Ab (AA rfl (c0.memA (.tl (.tl (.tl (.tl .hd))))))<|Ab (AA rfl (c0.memA (.tl (.tl (.tl .hd))))) ?_
 obtain ⟨D0,q0,h⟩:=bi h
 rcases D0 with P0 | j0
 have h:=exc_e h
 try dsimp only at h
 refine Bt (fst:=[]) (cap:=[]) .plain body69 rfl (e2 rfl rfl) (fun w9 hw9=>minority_mul_c n _ w9 (c0.hL0 hL hw9) a0 a1 q0) (fun s1 A0=>?_)
 obtain ⟨y0,Z0⟩:=c0.agr A0
 cases h
 exact AP hp0 Tryz.func109 ⟨y0.ag,rfl⟩
 have h:=exc_o h
 try dsimp only at h
 refine Bg (.agg ((cs_TShare j0)).toArray) body69 rfl (e2 rfl rfl) (fun w9 hw9=>AK (minority_mul_c n _ w9 (c0.hL0 hL hw9) a0 a1 q0)) rfl<|Ai .plain rfl (Ar zL c0) (fun t1 M0 z0 b1=>?_)
 refine AJ (cs_TShare j0) z0 .hd (onesB rfl) (fun u1 d0 c1=>?_)
 refine Aa<|Aj<|dt 5 tb109_2 (fun b0 g0=>?_)
 refine AC 0 1 48 b0 rfl g0 (AA rfl (d0.memA .hd)) rfl<|AC 1 3 56 b0 rfl g0 (AA rfl (d0.memA (.tl (.tl (.tl .hd))))) rfl<|AC 2 7 56 b0 rfl g0 (AA rfl (d0.memA (.tl (.tl .hd)))) rfl ?_
 obtain ⟨E0,B0,h⟩:=bi h
 rcases E0 with Q0 | s0
 have h:=exc_e h
 try dsimp only at h
 cases h
 have h:=exc_o h
 try dsimp only at h
 refine BA 3 15 48 (.agg ((cs_TShare s0)).toArray) b0 rfl g0 body69 rfl (e2 rfl rfl) (fun w9 hw9=>AK (minority_mul_c n _ w9 (d0.hL0 hL hw9) a2 a3 B0)) rfl ?_
 obtain ⟨F0,C0,h⟩:=bi h
 rcases F0 with R0 | k0
 have h:=exc_e h
 try dsimp only at h
 cases h
 have h:=exc_o h
 try dsimp only at h
 refine BA 4 31 32 (.agg ((cs_TShare k0)).toArray) b0 rfl g0 body62 rfl (e2 rfl rfl) (fun w9 hw9=>AK (minority_sub_c n _ w9 (d0.hL0 hL hw9) j0 s0 C0)) rfl<|Bq 5 63 b0 rfl rfl .plain (Aw (news:=(cs_TShare k0)) d0 (.tl .hd) rfl rfl rfl rfl rfl rfl (onesB rfl)) (fun v1 p0 d1=>?_)
 refine AE (dk b0)<|Al rfl<|Am hb0 Tryz.func109 rfl (.cons (.many (cs:=(cs_TShare k0)) (by kernel_rfl) rfl (p0.memA (.tl .hd))) .nil) rfl ?_
 cases h
 exact ⟨p0.ag,fun w9 hw9=>okOf_in rfl⟩
end Go.Proofs.YtichhhehkcfoaaaGreatDoor
