/- Functions of the program, and what they give: part 5. -/
import Derived.Test.YtfccehcnajelgaaGreatDoorTG4
namespace Go.Proofs.YtfccehcnajelgaaGreatDoor
open Go Go.RowKit
set_option maxRecDepth 4000
set_option maxHeartbeats 4000000

def tb61_13:List (Nat × Nat × Nat):=[(0,4398046511104,512),(0,8796093022208,2048),(2,17592186044416,8796093022208),(4,35184372088832,17592186044416),(0,70368744177664,32),(0,140737488355328,1024),(48,281474976710656,211106232532992),(64,562949953421312,281474976710656),(136,1125899906842624,598134325510144),(256,2251799813685248,1125899906842624),(256,4503599627370496,1125899906842624),(1792,9007199254740992,6755399441055744),(2049,18014398509481984,9011597301252096),(4096,36028797018963968,18014398509481984),(4096,72057594037927936,18014398509481984),(28672,144115188075855872,108086391056891904),(65535,0,144115188075856384)]
def tb61_15:List (Nat × Nat × Nat):=[(0,576460752303423488,512),(0,1152921504606846976,64),(2,2305843009213693952,1152921504606846976),(5,4611686018427387904,2882303761517117440),(8,9223372036854775808,4611686018427387904),(8,18446744073709551616,4611686018427387904),(56,36893488147419103232,27670116110564327424),(127,0,36893488147419103248)]
theorem body19:bodyB Tryz.prog 19 = true:=by kernel_rfl
theorem body21:bodyB Tryz.prog 21 = true:=by kernel_rfl
theorem body22:bodyB Tryz.prog 22 = true:=by kernel_rfl
theorem body62:bodyB Tryz.prog 62 = true:=by kernel_rfl
theorem body63:bodyB Tryz.prog 63 = true:=by kernel_rfl
theorem body66:bodyB Tryz.prog 66 = true:=by kernel_rfl
def interest_Score_1_l1 (n:Nat) (a0:List TInterest) (D0:List TShare) (G0:Nat × UInt64 × UInt64 × UInt64 × UInt64 × UInt64 × UInt64 × UInt64 × UInt64 × UInt64 × UInt64 × UInt64 × UInt64 × UInt64 × UInt64 × UInt64 × UInt64 → Option ((Except Tbroken TShare) ⊕ (UInt64 × UInt64 × UInt64 × UInt64 × UInt64 × UInt64 × UInt64 × UInt64 × UInt64 × UInt64 × UInt64 × UInt64 × UInt64 × UInt64 × UInt64 × UInt64))):Nat × UInt64 × UInt64 × UInt64 × UInt64 × UInt64 × UInt64 × UInt64 × UInt64 × UInt64 × UInt64 × UInt64 × UInt64 × UInt64 × UInt64 × UInt64 × UInt64 → Option ((Except Tbroken TShare) ⊕ (UInt64 × UInt64 × UInt64 × UInt64 × UInt64 × UInt64 × UInt64 × UInt64 × UInt64 × UInt64 × UInt64 × UInt64 × UInt64 × UInt64 × UInt64 × UInt64))
  | (c0,d0,g0,j0,k0,p0,q0,s0,t0,u0,v0,x0,y0,z0,A0,B0,C0)=>(if c0 < a0.length then (a0[c0]?).bind fun K0=>(interest_of_p n K0.fE (1:Int)).bind fun P0=>exc P0 (fun Q0=>(D0[c0]?).bind fun M0=>(share_Mul_p n Q0 M0).bind fun E0=>(interest_must_api_Share_p n E0.1 E0.2).bind fun R0=>exc R0 (fun U0=>(share_Add_p n (⟨(d0,g0,j0,k0,p0,q0,s0,t0),(u0,v0,x0,y0,z0,A0,B0,C0)⟩:TShare) U0).bind fun F0=>(interest_must_api_Share_p n F0.1 F0.2).bind fun V0=>exc V0 (fun b0=>G0 (c0 + 1,b0.fN.1,b0.fN.2.1,b0.fN.2.2.1,b0.fN.2.2.2.1,b0.fN.2.2.2.2.1,b0.fN.2.2.2.2.2.1,b0.fN.2.2.2.2.2.2.1,b0.fN.2.2.2.2.2.2.2,b0.fD.1,b0.fD.2.1,b0.fD.2.2.1,b0.fD.2.2.2.1,b0.fD.2.2.2.2.1,b0.fD.2.2.2.2.2.1,b0.fD.2.2.2.2.2.2.1,b0.fD.2.2.2.2.2.2.2)) (fun J0=>some (.inl (.error J0)))) (fun I0=>some (.inl (.error I0)))) (fun H0=>(D0[c0]?).bind fun _x333=>some (.inl (.error H0))) else some (.inr (d0,g0,j0,k0,p0,q0,s0,t0,u0,v0,x0,y0,z0,A0,B0,C0)))
def interest_Score_1_l2 (_n:Nat) (a0:List TInterest) (d0:Int × Nat → Option Int):Int × Nat → Option Int
  | (c0,b0)=>(if b0 < a0.length then (a0[b0]?).bind fun j0=>(chk (c0 + j0.fE)).bind fun g0=>d0 (g0,b0 + 1) else some c0)
def interest_Score_1_p (n:Nat) (a0:List TInterest) (a1:TRoll) (a2:List Int) (a3:Int):Option (Except Tbroken TShare):=
  (interest_Largest_p n a0 a1 a2 a3).bind fun c0=>(interest_must_list_api_Share_p n c0.1 c0.2).bind fun P0=>exc P0 (fun Q0=>Option.bind (loopF (interest_Score_1_l2 n a0) n (0,0)) (fun g0=>(interest_fail_p n (decide (g0 = 0)) (7:Int)).bind fun K0=>exc K0 (fun _y123=>(interest_of_p n (0:Int) (1:Int)).bind fun M0=>exc M0 (fun b0=>thn (loopF (interest_Score_1_l1 n a0 Q0) n (0,b0.fN.1,b0.fN.2.1,b0.fN.2.2.1,b0.fN.2.2.2.1,b0.fN.2.2.2.2.1,b0.fN.2.2.2.2.2.1,b0.fN.2.2.2.2.2.2.1,b0.fN.2.2.2.2.2.2.2,b0.fD.1,b0.fD.2.1,b0.fD.2.2.1,b0.fD.2.2.2.1,b0.fD.2.2.2.2.1,b0.fD.2.2.2.2.2.1,b0.fD.2.2.2.2.2.2.1,b0.fD.2.2.2.2.2.2.2)) (fun (t0,u0,v0,x0,y0,z0,A0,B0,C0,D0,E0,F0,G0,H0,I0,J0)=>(interest_of_p n g0 (1:Int)).bind fun R0=>exc R0 (fun U0=>(share_Div_p n (⟨(t0,u0,v0,x0,y0,z0,A0,B0),(C0,D0,E0,F0,G0,H0,I0,J0)⟩:TShare) U0).bind fun d0=>(interest_must_api_Share_p n d0.1 d0.2).bind fun V0=>exc V0 (fun W0=>some (.ok W0)) (fun s0=>some (.error s0))) (fun q0=>some (.error q0)))) (fun k0=>some (.error k0))) (fun j0=>some (.error j0)))) (fun p0=>some (.error p0))
theorem interest_Score_1_c (n:Nat) (L:List Nat) (w:World) (hL:∀ b ∈ L,b < w.heap.size) (a0:List TInterest) {v0_0:Value} (h0_0:Rep.R w L [v0_0] a0) {p0:Nat} (m0:∀ j9 v9,([v0_0]:List Value)[j9]? = some v9 → w.cell? ((⟨p0,0,none⟩:Addr).add j9) = some v9) (a1:TRoll) {v1_3:Value} (h1_3:Rep.R w L [v1_3] a1.fo) {p1:Nat} (m1:∀ j9 v9,([vI a1.fh,vI a1.fc,vI a1.fe,v1_3]:List Value)[j9]? = some v9 → w.cell? ((⟨p1,0,none⟩:Addr).add j9) = some v9) (a2:List Int) {v2_0:Value} (h2_0:Rep.R w L [v2_0] a2) {p2:Nat} (m2:∀ j9 v9,([v2_0]:List Value)[j9]? = some v9 → w.cell? ((⟨p2,0,none⟩:Addr).add j9) = some v9) (a3:Int) {p3:Nat} (m3:∀ j9 v9,([vI a3]:List Value)[j9]? = some v9 → w.cell? ((⟨p3,0,none⟩:Addr).add j9) = some v9) (hG0:Glob 0 tab0 w)  {r:Except Tbroken TShare} (h:interest_Score_1_p n a0 a1 a2 a3 = some r) :
    Calls Tryz.prog 61 #[.pointer (some ⟨p0,0,none⟩),.pointer (some ⟨p1,0,none⟩),.pointer (some ⟨p2,0,none⟩),.pointer (some ⟨p3,0,none⟩)] w (PGives w (fun (y:TShare) _ u=>u = .agg ((cs_TShare y)).toArray) (fun e=>.iface 176 (.agg #[vI e.fw])) r):=by
 unfold interest_Score_1_p at h
 have hS0:=AA w
 refine MX.startP Tryz.func61 rfl rfl rfl (fun _ cs0 hb0 hp0=>?_)
 refine Ae<|Al .plain rfl (AD zL hS0) (fun A5 y0 u0 Y4=>?_)
 refine Aa<|Ae<|Ba rfl ((fun j9 v9 h9=>u0.ag.cell0 (m0 j9 v9 h9)) 0 _ rfl)<|Ab (AG rfl (fun j9 v9 h9=>u0.ag.cell0 (m1 j9 v9 h9)))<|Ba rfl ((fun j9 v9 h9=>u0.ag.cell0 (m2 j9 v9 h9)) 0 _ rfl)<|Ba rfl ((fun j9 v9 h9=>u0.ag.cell0 (m3 j9 v9 h9)) 0 _ rfl) ?_
 obtain ⟨g1,R3,h⟩:=bi h
 refine Bm (fst:=[]) (cap:=[]) .plain body19 rfl (e4 rfl rfl rfl rfl) (fun w9 hw9=>interest_Largest_c n _ w9 (u0.hL hL hw9) a0 (u0.km h0_0 hw9) a1 (u0.km h1_3 hw9) a2 (u0.km h2_0 hw9) a3 (hG0.keep (u0.ag.trans hw9)) R3) rfl (fun G5 z5 I2 ⟨x5,hu_,E1⟩=>?_)
 subst hu_
 obtain ⟨b1,b5⟩:=u0.agr I2
 refine Ab (Ag rfl rfl)<|Ab (Ag rfl rfl) ?_
 obtain ⟨g4,I1,h⟩:=bi h
 rcases g4 with P4 | Y5
 have h:=exc_e h
 try dsimp only at h
 refine Bw (fst:=[]) (cap:=[]) .plain body62 rfl (e2 rfl rfl) (fun w9 hw9=>interest_must_list_api_Share_c n _ w9 (b1.hL hL hw9) g1.1 (Aw E1 hw9) g1.2 I1) (fun H5 J2=>?_)
 obtain ⟨q2,c5⟩:=b1.agr J2
 cases h
 exact Bq hp0 Tryz.func61 ⟨q2.ag,rfl⟩
 have h:=exc_o h
 try dsimp only at h
 refine Bm (fst:=[]) (cap:=[]) .plain body62 rfl (e2 rfl rfl) (fun w9 hw9=>Bl (interest_must_list_api_Share_c n _ w9 (b1.hL hL hw9) g1.1 (Aw E1 hw9) g1.2 I1)) rfl (fun Z3 R1 K2 ⟨y5,hu_,F1⟩=>?_)
 subst hu_
 obtain ⟨k1,g5⟩:=b1.agr K2
 refine Af rfl<|Aa<|Ae<|Af rfl<|Aa<|Aj<|Ae<|Ba rfl ((fun j9 v9 h9=>k1.ag.cell0 (m0 j9 v9 h9)) 0 _ rfl) ?_
 have D1:=AI h0_0 k1
 have t5:a0.length ≤ 281474976710656:=AR D1
 refine Ab (AZ (xs:=a0) Tryz.underlying30 rfl D1)<|Ac rfl<|Aa<|Ar ?_
 obtain ⟨v5,A3,Z2⟩:=bind_in2 h
 refine Bc (α:=Int × Nat) (fun ⟨k0,x0⟩=>[(0,.pointer (some ⟨p0,0,none⟩)),(4,vP y0),(5,R1),(6,vI k0),(20,v0_0),(21,vI ((a0.length:Nat):Int)),(22,vI ((x0:Nat):Int))]) (fun ⟨k0,x0⟩ x1=>St w x1 [.cells y0 zL 42]∧Tr Z3 [.cells y0 zL 42] x1 [.cells y0 zL 42]) (fun ⟨k0,x0⟩=>(k0,x0)) (0,0) A3 ⟨rfl,rfl,rfl,rfl,rfl,rfl,rfl,trivial⟩ ⟨k1,AP _ _⟩ ?_
 rintro z4 ⟨k0,x0⟩ x1 b2 ⟨v0,u1⟩ h
 unfold interest_Score_1_l2 at h
 try dsimp only at h
 refine Ae<|Ab (Bd (i:=x0) (j:=a0.length) rfl rfl)<|Aa<|Aj<|AO rfl h (fun Y1 h=>?_) (fun Y1 h=>?_)
 refine Ap<|Aj<|Ar<|Ae ?_
 obtain ⟨d1,K3,h⟩:=bi h
 have k3:=AI h0_0 v0
 obtain ⟨t4,C4,V2,b3,G4,F3,j3⟩:=Bk k3 K3
 obtain rfl:=op_TInterest F3
 refine Ab (Bn 3 x0 rfl V2 rfl rfl b3)<|Ab (AG rfl j3)<|Al .plain rfl (AD [.string ⟨#[]⟩,vI 0,vW 0] v0) (fun B5 A4 c2 B2=>?_)
 refine AY [.string d1.fp,vI d1.fE,vU d1.fo] c2 .hd (onesB rfl) (fun C5 z1 C2=>?_)
 refine Aa<|Am<|Ac rfl<|Be 1 rfl<|Ba rfl ((z1.memA .hd) 1 _ rfl) ?_
 obtain ⟨X3,J3,h⟩:=bi h
 refine Ab (FV.addc (i:=k0) (j:=d1.fE) rfl rfl J3)<|Af rfl<|Aa<|Av<|Am<|Ab (Bi (i:=x0) (j:=1) rfl rfl (by omega))<|Ac rfl<|Aa ?_
 obtain ⟨d2,D2⟩:=AJ z1 (.one (.tl .hd) .done)
 have B3:=Tt B2 (Tt C2 D2)
 exact b2 (X3,x0 + 1) _ _ ⟨rfl,rfl,rfl,rfl,rfl,rfl,rfl,trivial⟩ ⟨d2,(Tt u1 B3)⟩ h
 refine AU rfl ?_
 have h:=Z2 _ h
 try dsimp only at h
 refine Ae<|Ac rfl<|Ab (FV.eql (i:=k0) (j:=0) rfl rfl) ?_
 obtain ⟨c4,G1,h⟩:=bi h
 rcases c4 with K4 | X5
 have h:=exc_e h
 try dsimp only at h
 refine Bw (fst:=[]) (cap:=[]) .plain body63 rfl (e2 rfl rfl) (fun w9 hw9=>interest_fail_c n _ w9 (v0.hL0 hL hw9) (decide (k0 = 0)) (7:Int) G1) (fun D5 G2=>?_)
 obtain ⟨g2,X4⟩:=v0.agr G2
 cases h
 exact Bq hp0 Tryz.func61 ⟨g2.ag,rfl⟩
 have h:=exc_o h
 try dsimp only at h
 refine Bb (.tuple #[]) body63 rfl (e2 rfl rfl) (fun w9 hw9=>Bl (interest_fail_c n _ w9 (v0.hL0 hL hw9) (decide (k0 = 0)) (7:Int) G1)) rfl<|Aa<|Ae ?_
 obtain ⟨d4,H1,h⟩:=bi h
 rcases d4 with M4 | d0
 have h:=exc_e h
 try dsimp only at h
 refine Bw (fst:=[]) (cap:=[]) .plain body64 rfl (e2 rfl rfl) (fun w9 hw9=>interest_of_c n _ w9 (v0.hL0 hL hw9) (0:Int) (1:Int) H1) (fun E5 H2=>?_)
 obtain ⟨j2,Z4⟩:=v0.agr H2
 cases h
 exact Bq hp0 Tryz.func61 ⟨j2.ag,rfl⟩
 have h:=exc_o h
 try dsimp only at h
 refine Bb (.agg ((cs_TShare d0)).toArray) body64 rfl (e2 rfl rfl) (fun w9 hw9=>Bl (interest_of_c n _ w9 (v0.hL0 hL hw9) (0:Int) (1:Int) H1)) rfl<|Al .plain rfl (AD zL v0) (fun F5 Z0 k2 B1=>?_)
 refine AY (cs_TShare d0) k2 .hd (onesB rfl) (fun Y3 j1 C1=>?_)
 refine Aa<|Aj<|Ae<|Ba rfl ((fun j9 v9 h9=>j1.ag.cell0 (m0 j9 v9 h9)) 0 _ rfl) ?_
 have q3:=AI h0_0 j1
 refine Ab (AZ (xs:=a0) Tryz.underlying30 rfl q3)<|Ac rfl<|Aa<|Ar ?_
 obtain ⟨u5,z3,c1⟩:=thn_in h
 refine Bc (α:=Nat × UInt64 × UInt64 × UInt64 × UInt64 × UInt64 × UInt64 × UInt64 × UInt64 × UInt64 × UInt64 × UInt64 × UInt64 × UInt64 × UInt64 × UInt64 × UInt64) (fun ⟨s0,z0,A0,B0,C0,D0,E0,F0,G0,H0,I0,J0,K0,M0,P0,Q0,R0⟩=>[(4,vP y0),(5,R1),(6,vI k0),(9,vP Z0),(35,v0_0),(36,vI ((a0.length:Nat):Int)),(37,vI ((s0:Nat):Int))]) (fun ⟨s0,z0,A0,B0,C0,D0,E0,F0,G0,H0,I0,J0,K0,M0,P0,Q0,R0⟩ v1=>St w v1 [.cells Z0 [vU z0,vU A0,vU B0,vU C0,vU D0,vU E0,vU F0,vU G0,vU H0,vU I0,vU J0,vU K0,vU M0,vU P0,vU Q0,vU R0] 42,.cells y0 zL 42]∧Tr Y3 [.cells Z0 (cs_TShare d0) 42,.cells y0 zL 42] v1 [.cells Z0 [vU z0,vU A0,vU B0,vU C0,vU D0,vU E0,vU F0,vU G0,vU H0,vU I0,vU J0,vU K0,vU M0,vU P0,vU Q0,vU R0] 42,.cells y0 zL 42]) (fun ⟨s0,z0,A0,B0,C0,D0,E0,F0,G0,H0,I0,J0,K0,M0,P0,Q0,R0⟩=>(s0,z0,A0,B0,C0,D0,E0,F0,G0,H0,I0,J0,K0,M0,P0,Q0,R0)) (0,d0.fN.1,d0.fN.2.1,d0.fN.2.2.1,d0.fN.2.2.2.1,d0.fN.2.2.2.2.1,d0.fN.2.2.2.2.2.1,d0.fN.2.2.2.2.2.2.1,d0.fN.2.2.2.2.2.2.2,d0.fD.1,d0.fD.2.1,d0.fD.2.2.1,d0.fD.2.2.2.1,d0.fD.2.2.2.2.1,d0.fD.2.2.2.2.2.1,d0.fD.2.2.2.2.2.2.1,d0.fD.2.2.2.2.2.2.2) z3 ⟨rfl,rfl,rfl,rfl,rfl,rfl,rfl,trivial⟩ ⟨j1,AP _ _⟩ ?_
 rintro y4 ⟨s0,z0,A0,B0,C0,D0,E0,F0,G0,H0,I0,J0,K0,M0,P0,Q0,R0⟩ v1 Z1 ⟨q0,q1⟩ h
 unfold interest_Score_1_l1 at h
 try dsimp only at h
 refine Ae<|Ab (Bd (i:=s0) (j:=a0.length) rfl rfl)<|Aa<|Aj<|AO rfl h (fun X1 h=>?_) (fun X1 h=>?_)
 refine Ap<|Aj<|Ar<|Ae<|Ac rfl ?_
 obtain ⟨Y0,M3,h⟩:=bi h
 have t3:=AI h0_0 q0
 obtain ⟨u4,D4,W2,c3,H4,G3,s3⟩:=Bk t3 M3
 obtain rfl:=op_TInterest G3
 refine Ab (Bn 3 s0 rfl W2 rfl rfl c3)<|Ab (AG rfl s3)<|Al .plain rfl (AD [.string ⟨#[]⟩,vI 0,vW 0] q0) (fun I5 B4 s2 s1=>?_)
 refine Af rfl<|AY [.string Y0.fp,vI Y0.fE,vU Y0.fo] s2 .hd (onesB rfl) (fun J5 j0 t1=>?_)
 refine Aa<|dt 16 tb61_13 (fun b0 c0=>?_)
 refine AE 0 1 126976 b0 rfl c0 (AG rfl (j0.memA (.tl .hd))) rfl<|Ah 1 3 b0 rfl c0 (fun _=>Bj 1 rfl) rfl<|AE 2 7 130824 b0 rfl c0 (AH rfl ((j0.memA .hd) 1 _ rfl)) rfl ?_
 obtain ⟨j4,J1,h⟩:=bi h
 rcases j4 with Q4 | U1
 have h:=exc_e h
 try dsimp only at h
 refine Ah 4 23 b0 rfl c0 (fun _=>Ai rfl) rfl<|Ah 5 55 b0 rfl c0 (fun _=>Ai rfl) rfl ?_
 obtain ⟨W5,P3,h⟩:=bi h
 have C3:=Tt u1 (Tt B1 (Tt C1 (Tt q1 (Tt s1 t1))))
 have v3:=Ay F1 C3
 obtain ⟨v4,E4,X2,d3,I4,H3,u3⟩:=Bk v3 P3
 obtain rfl:=op_TShare H3
 refine Ah 6 119 b0 rfl c0 (fun _=>Bn 16 s0 rfl X2 rfl rfl d3) rfl<|AE 7 247 130816 b0 rfl c0 (AG rfl u3) rfl ?_
 have h:=thn_inl h c1
 refine BB (i:=3) (rk b0) (RO.callE (fst:=[]) (cap:=[]) rfl .plain body64 rfl (e2 rfl rfl) (fun w9 hw9=>interest_of_c n _ w9 (j0.hL0 hL hw9) Y0.fE (1:Int) J1) (fun K5 M2=>?_))
 obtain ⟨t2,d5⟩:=j0.agr M2
 cases h
 exact Bq hp0 Tryz.func61 ⟨t2.ag,rfl⟩
 have h:=exc_o h
 try dsimp only at h
 refine RD.cq 3 15 130816 (.agg ((cs_TShare U1)).toArray) b0 rfl c0 body64 rfl (e2 rfl rfl) (fun w9 hw9=>Bl (interest_of_c n _ w9 (j0.hL0 hL hw9) Y0.fE (1:Int) J1)) rfl<|Ah 4 31 b0 rfl c0 (fun _=>Ai rfl) rfl<|Ah 5 63 b0 rfl c0 (fun _=>Ai rfl) rfl ?_
 obtain ⟨b4,Q3,h⟩:=bi h
 have D3:=Tt u1 (Tt B1 (Tt C1 (Tt q1 (Tt s1 t1))))
 have y3:=Ay F1 D3
 obtain ⟨x4,F4,Y2,g3,J4,I3,x3⟩:=Bk y3 Q3
 obtain rfl:=op_TShare I3
 refine Ah 6 127 b0 rfl c0 (fun _=>Bn 16 s0 rfl Y2 rfl rfl g3) rfl<|AE 7 255 130816 b0 rfl c0 (AG rfl x3) rfl ?_
 obtain ⟨V0,U3,h⟩:=bi h
 refine RD.cq 8 511 130560 (.tuple #[.agg ((cs_TShare V0.1)).toArray,vI V0.2]) b0 rfl c0 body21 rfl (e2 rfl rfl) (fun w9 hw9=>share_Mul_c n _ w9 (j0.hL0 hL hw9) U1 b4 U3) rfl<|Ah 9 1023 b0 rfl c0 (fun _=>Ag rfl rfl) rfl<|Ah 10 2047 b0 rfl c0 (fun _=>Ag rfl rfl) rfl ?_
 obtain ⟨k4,K1,h⟩:=bi h
 rcases k4 with R4 | V1
 have h:=exc_e h
 try dsimp only at h
 have h:=thn_inl h c1
 refine BB (i:=11) (rk b0) (RO.callE (fst:=[]) (cap:=[]) rfl .plain body65 rfl (e2 rfl rfl) (fun w9 hw9=>interest_must_api_Share_c n _ w9 (j0.hL0 hL hw9) V0.1 V0.2 K1) (fun M5 P2=>?_))
 obtain ⟨u2,j5⟩:=j0.agr P2
 cases h
 exact Bq hp0 Tryz.func61 ⟨u2.ag,rfl⟩
 have h:=exc_o h
 try dsimp only at h
 refine RD.cq 11 4095 126976 (.agg ((cs_TShare V1)).toArray) b0 rfl c0 body65 rfl (e2 rfl rfl) (fun w9 hw9=>Bl (interest_must_api_Share_c n _ w9 (j0.hL0 hL hw9) V0.1 V0.2 K1)) rfl ?_
 obtain ⟨W0,V3,h⟩:=bi h
 refine RD.cq 12 8191 122880 (.tuple #[.agg ((cs_TShare W0.1)).toArray,vI W0.2]) b0 rfl c0 body22 rfl (e2 rfl rfl) (fun w9 hw9=>share_Add_c n _ w9 (j0.hL0 hL hw9) (⟨(z0,A0,B0,C0,D0,E0,F0,G0),(H0,I0,J0,K0,M0,P0,Q0,R0)⟩:TShare) V1 V3) rfl<|Ah 13 16383 b0 rfl c0 (fun _=>Ag rfl rfl) rfl<|Ah 14 32767 b0 rfl c0 (fun _=>Ag rfl rfl) rfl ?_
 obtain ⟨p4,M1,h⟩:=bi h
 rcases p4 with U4 | g0
 have h:=exc_e h
 try dsimp only at h
 have h:=thn_inl h c1
 refine BB (i:=15) (rk b0) (RO.callE (fst:=[]) (cap:=[]) rfl .plain body65 rfl (e2 rfl rfl) (fun w9 hw9=>interest_must_api_Share_c n _ w9 (j0.hL0 hL hw9) W0.1 W0.2 M1) (fun P5 Q2=>?_))
 obtain ⟨v2,k5⟩:=j0.agr Q2
 cases h
 exact Bq hp0 Tryz.func61 ⟨v2.ag,rfl⟩
 have h:=exc_o h
 try dsimp only at h
 refine RD.cq 15 65535 65536 (.agg ((cs_TShare g0)).toArray) b0 rfl c0 body65 rfl (e2 rfl rfl) (fun w9 hw9=>Bl (interest_must_api_Share_c n _ w9 (j0.hL0 hL hw9) W0.1 W0.2 M1)) rfl<|By 16 131071 b0 rfl rfl .plain (Az (news:=(cs_TShare g0)) j0 (.tl .hd) rfl rfl rfl rfl rfl rfl (onesB rfl)) (fun Q5 x2 E2=>?_)
 refine AK (dk b0)<|Av<|Am<|Ab (Bi (i:=s0) (j:=1) rfl rfl (by omega))<|Ac rfl<|Aa ?_
 obtain ⟨y2,F2⟩:=AJ x2 (.one (.tl .hd) (.one (.tl .hd) .done))
 have E3:=Tt s1 (Tt t1 (Tt E2 F2))
 exact Z1 (s0 + 1,g0.fN.1,g0.fN.2.1,g0.fN.2.2.1,g0.fN.2.2.2.1,g0.fN.2.2.2.2.1,g0.fN.2.2.2.2.2.1,g0.fN.2.2.2.2.2.2.1,g0.fN.2.2.2.2.2.2.2,g0.fD.1,g0.fD.2.1,g0.fD.2.2.1,g0.fD.2.2.2.1,g0.fD.2.2.2.2.1,g0.fD.2.2.2.2.2.1,g0.fD.2.2.2.2.2.2.1,g0.fD.2.2.2.2.2.2.2) _ _ ⟨rfl,rfl,rfl,rfl,rfl,rfl,rfl,trivial⟩ ⟨y2,(Tt q1 E3)⟩ h
 refine AU rfl ?_
 have h:=thn_inr h c1
 try dsimp only at h
 refine Aj<|dt 7 tb61_15 (fun t0 U0=>?_)
 refine AE 0 1 248 t0 rfl U0 (AG rfl (q0.memA .hd)) rfl<|Ah 1 3 t0 rfl U0 (fun _=>Ai rfl) rfl ?_
 obtain ⟨q4,P1,h⟩:=bi h
 rcases q4 with V4 | W1
 have h:=exc_e h
 try dsimp only at h
 refine BB (i:=2) (rk t0) (RO.callE (fst:=[]) (cap:=[]) rfl .plain body64 rfl (e2 rfl rfl) (fun w9 hw9=>interest_of_c n _ w9 (q0.hL0 hL hw9) k0 (1:Int) P1) (fun R5 R2=>?_))
 obtain ⟨z2,p5⟩:=q0.agr R2
 cases h
 exact Bq hp0 Tryz.func61 ⟨z2.ag,rfl⟩
 have h:=exc_o h
 try dsimp only at h
 refine RD.cq 2 7 248 (.agg ((cs_TShare W1)).toArray) t0 rfl U0 body64 rfl (e2 rfl rfl) (fun w9 hw9=>Bl (interest_of_c n _ w9 (q0.hL0 hL hw9) k0 (1:Int) P1)) rfl ?_
 obtain ⟨X0,W3,h⟩:=bi h
 refine RD.cq 3 15 240 (.tuple #[.agg ((cs_TShare X0.1)).toArray,vI X0.2]) t0 rfl U0 body66 rfl (e2 rfl rfl) (fun w9 hw9=>share_Div_c n _ w9 (q0.hL0 hL hw9) (⟨(z0,A0,B0,C0,D0,E0,F0,G0),(H0,I0,J0,K0,M0,P0,Q0,R0)⟩:TShare) W1 W3) rfl<|Ah 4 31 t0 rfl U0 (fun _=>Ag rfl rfl) rfl<|Ah 5 63 t0 rfl U0 (fun _=>Ag rfl rfl) rfl ?_
 obtain ⟨s4,Q1,h⟩:=bi h
 rcases s4 with W4 | y1
 have h:=exc_e h
 try dsimp only at h
 refine BB (i:=6) (rk t0) (RO.callE (fst:=[]) (cap:=[]) rfl .plain body65 rfl (e2 rfl rfl) (fun w9 hw9=>interest_must_api_Share_c n _ w9 (q0.hL0 hL hw9) X0.1 X0.2 Q1) (fun U5 U2=>?_))
 obtain ⟨A2,q5⟩:=q0.agr U2
 cases h
 exact Bq hp0 Tryz.func61 ⟨A2.ag,rfl⟩
 have h:=exc_o h
 try dsimp only at h
 refine RD.cq 6 127 128 (.agg ((cs_TShare y1)).toArray) t0 rfl U0 body65 rfl (e2 rfl rfl) (fun w9 hw9=>Bl (interest_must_api_Share_c n _ w9 (q0.hL0 hL hw9) X0.1 X0.2 Q1)) rfl<|By 7 255 t0 rfl rfl .plain (Az (news:=(cs_TShare y1)) q0 (.tl .hd) rfl rfl rfl rfl rfl rfl (onesB rfl)) (fun V5 A1 s5=>?_)
 refine AK (dk t0)<|Ak rfl<|Ao hb0 Tryz.func61 rfl (.cons (.many (cs:=(cs_TShare y1)) (by kernel_rfl) rfl (A1.memA (.tl .hd))) .nil) rfl ?_
 cases h
 exact ⟨A1.ag,fun w9 hw9=>okOf_in rfl⟩
def tb104_6:List (Nat × Nat × Nat):=[(0,131072,32),(0,262144,8),(2,524288,262144),(1,0,131073),(15,0,524290)]
theorem body60:bodyB Tryz.prog 60 = true:=by kernel_rfl
theorem body61:bodyB Tryz.prog 61 = true:=by kernel_rfl
theorem body104:bodyB Tryz.prog 104 = true:=by kernel_rfl
def interest_Score_p (n:Nat) (a0:List TInterest) (a1:TRoll) (a2:List Int) (a3:Int):Option (TShare × Int):=
  (interest_Score_1_p n a0 a1 a2 a3).bind fun c0=>exc c0 (fun d0=>some (d0,(0:Int))) (fun b0=>some ((⟨((0:UInt64),(0:UInt64),(0:UInt64),(0:UInt64),(0:UInt64),(0:UInt64),(0:UInt64),(0:UInt64)),((0:UInt64),(0:UInt64),(0:UInt64),(0:UInt64),(0:UInt64),(0:UInt64),(0:UInt64),(0:UInt64))⟩:TShare),b0.fw))
theorem interest_Score_c (n:Nat) (L:List Nat) (w:World) (hL:∀ b ∈ L,b < w.heap.size) (a0:List TInterest) {v0_0:Value} (h0_0:Rep.R w L [v0_0] a0) (a1:TRoll) {v1_3:Value} (h1_3:Rep.R w L [v1_3] a1.fo) (a2:List Int) {v2_0:Value} (h2_0:Rep.R w L [v2_0] a2) (a3:Int) (hG0:Glob 0 tab0 w)  {r:TShare × Int} (h:interest_Score_p n a0 a1 a2 a3 = some r) :
    Calls Tryz.prog 23 #[v0_0,.agg #[vI a1.fh,vI a1.fc,vI a1.fe,v1_3],v2_0,vI a3] w (Gives w fun _ u=>u = .tuple #[.agg ((cs_TShare r.1)).toArray,vI r.2]):=by
 unfold interest_Score_p at h
 have hS0:=AA w
 refine AC Tryz.func23 rfl rfl rfl (fun _ cs0 hb0=>?_)
 refine Ae<|Al .plain rfl (Ax hS0 rfl (Rep.c1 h0_0)) (fun b2 g0 Q0 I1=>?_)
 refine Al .plain rfl (Ax Q0 rfl rfl) (fun p2 j0 H0 K1=>?_)
 have v1:=AI h2_0 H0
 refine Al .plain rfl (Ax H0 rfl (Rep.c1 v1)) (fun q2 p0 X0 M1=>?_)
 refine Al .plain rfl (Ax X0 rfl rfl) (fun s2 q0 Y0 P1=>?_)
 refine Al .plain rfl (AD zL Y0) (fun t2 y0 Z0 Q1=>?_)
 refine Af rfl<|Aa<|Ae<|Ab (FV.makeFunc (vs:=[]) (us:=[vP g0,vP j0,vP p0,vP q0]) evs_nil (e4 rfl rfl rfl rfl))<|Br (fst:=[]) (cap:=[]) (vs:=[.func (.func 61) #[] #[vP g0,vP j0,vP p0,vP q0]]) .plain body60 Tryz.func60 rfl rfl rfl rfl (e1 rfl) rfl (fun C1 I0 Z1=>?_)
 refine Ae<|Al .plain rfl (AD zL Z0) (fun u2 s0 b1 R1=>?_)
 refine Al .plain rfl (AD [vI 0] b1) (fun v2 d0 b0 U1=>?_)
 refine Aa<|Ae<|Ab (FV.makeFunc (vs:=[]) (us:=[vP s0,vP d0]) evs_nil (e2 rfl rfl))<|RG.defer (fst:=[]) (cap:=[vP s0,vP d0]) (vs:=[]) rfl .plain rfl evs_nil<|Aa<|Ae<|Ac rfl ?_
 obtain ⟨z1,K0,h⟩:=bi h
 rcases z1 with u0 | t0
 have h:=exc_e h
 try dsimp only at h
 refine Bw (fst:=[]) (cap:=[vP g0,vP j0,vP p0,vP q0]) .plain body61 rfl evs_nil (fun w9 hw9=>interest_Score_1_c n _ w9 (b0.hL0 hL hw9) a0 (b0.k0 h0_0 hw9) (fun j9 v9 h9=>hw9.cell0 ((b0.memA (.tl (.tl (.tl (.tl (.tl (.tl .hd))))))) j9 v9 h9)) a1 (b0.k0 h1_3 hw9) (fun j9 v9 h9=>hw9.cell0 ((b0.memA (.tl (.tl (.tl (.tl (.tl .hd)))))) j9 v9 h9)) a2 (b0.k0 h2_0 hw9) (fun j9 v9 h9=>hw9.cell0 ((b0.memA (.tl (.tl (.tl (.tl .hd))))) j9 v9 h9)) a3 (fun j9 v9 h9=>hw9.cell0 ((b0.memA (.tl (.tl (.tl .hd)))) j9 v9 h9)) (hG0.keep (b0.ag.trans hw9)) K0) (fun x2 q1=>?_)
 obtain ⟨d1,V1⟩:=b0.agr q1
 refine PN.callD (vs:=[]) (cap:=[vP s0,vP d0]) body104 Tryz.func104 rfl rfl rfl (fun B1 s1 u1=>?_)
 refine Ae<|RG.recover1 .plain s1 rfl<|Af rfl<|Aa<|Ae<|Ac rfl<|Ab (FV.neqI Tryz.underlying20 rfl rfl)<|Aa<|Bf rfl<|Ae<|Ac rfl<|Ab (FV.assertT (by kernel_rfl) rfl)<|Ac rfl<|Ab (Ag rfl rfl)<|Ab (Ag rfl rfl)<|Al .plain rfl (AD [vI 0] d1) (fun y2 M0 g1 W1=>?_)
 refine AY [vI u0.fw] g1 .hd (o1 rfl) (fun z2 j1 X1=>?_)
 refine Af rfl<|Aa<|Aj<|Ae<|Ac rfl<|Ab (Bv rfl)<|Aa<|Bo rfl<|Ap<|Ae<|Al .plain rfl (AD zL j1) (fun y1 P0 x0 Y1=>?_)
 refine Aa<|dt 3 tb104_6 (fun c0 C0=>?_)
 refine AE 0 1 24 c0 rfl C0 (AG rfl (x0.memA .hd)) rfl<|Ah 1 3 c0 rfl C0 (fun _=>Bj 0 rfl) rfl<|RD.meet (α:=Unit) (fun ()=>[(1,vP d0),(19,vI u0.fw)]) (fun () D0=>St w D0 [.cells d0 [vI 0] 35,.cells s0 zL 42,.cells y0 zL 42,.cells q0 [vI a3] 3,.cells p0 [v2_0] 53,.cells j0 [vI a1.fh,vI a1.fc,vI a1.fe,v1_3] 58,.cells g0 [v0_0] 30]∧Tr y1 [.cells P0 zL 42,.cells M0 [vI u0.fw] 176,.cells d0 [vI 0] 35,.cells s0 zL 42,.cells y0 zL 42,.cells q0 [vI a3] 3,.cells p0 [v2_0] 53,.cells j0 [vI a1.fh,vI a1.fc,vI a1.fe,v1_3] 58,.cells g0 [v0_0] 30] D0 [.cells d0 [vI 0] 35,.cells s0 zL 42,.cells y0 zL 42,.cells q0 [vI a3] 3,.cells p0 [v2_0] 53,.cells j0 [vI a1.fh,vI a1.fc,vI a1.fe,v1_3] 58,.cells g0 [v0_0] 30]) 1 15 ?_ ?_
 rintro ⟨⟩ D0 ⟨R0,D1⟩
 try dsimp only
 refine By 4 31 c0 rfl rfl .plain (Az (news:=[vI u0.fw]) R0 .hd rfl rfl rfl rfl rfl rfl (o1 rfl)) (fun c2 z0 E1=>?_)
 refine AK (dk c0)<|MX.fin rfl<|RT.leaveD1 u1 Tryz.func104 rfl .nil<|Ao (u:=.tuple #[.agg zM,vI u0.fw]) I0 Tryz.func60 rfl (.cons (.many (cs:=zL) (by kernel_rfl) rfl (z0.memA (.tl .hd))) (.cons (.one (by kernel_rfl) rfl ((z0.memA .hd) 0 _ rfl)) .nil)) rfl<|Ab (Ag rfl rfl)<|Ab (Ag rfl rfl)<|AY zL z0 (.tl (.tl .hd)) (onesB rfl) (fun d2 F0 F1=>?_)
 refine Af rfl<|Aa<|Ak rfl<|Ao hb0 Tryz.func23 rfl (.cons (.many (cs:=zL) (by kernel_rfl) rfl (F0.memA (.tl (.tl .hd)))) (.cons (.tmp rfl) .nil)) rfl ?_
 cases h
 exact F0.gv
 intro E0
 refine RD.each [2,3] (rk c0) ⟨?_,?_,trivial⟩
 refine RO.val (m' :=7) (sk c0) rfl .plain rfl (AH rfl ((x0.memA (.tl .hd)) 0 _ rfl))<|By 3 15 c0 rfl rfl .plain (Az (news:=zL) x0 (.tl (.tl (.tl .hd))) rfl rfl rfl rfl rfl rfl (onesB rfl)) (fun x1 v0 B0=>?_)
 obtain ⟨U0,k1⟩:=AJ v0 (.one (.tl (.tl .hd)) (.one (.tl (.tl .hd)) (.one (.tl (.tl .hd)) (.one (.tl (.tl .hd)) (.one (.tl (.tl .hd)) (.one (.tl (.tl .hd)) (.one (.tl (.tl .hd)) .done)))))))
 exact E0 () _ _ ⟨rfl,rfl,trivial⟩ ⟨U0,(Tt B0 k1)⟩
 refine RO.now (m' :=11) (sk c0) rfl rfl .plain (Az (news:=zL) x0 (.tl (.tl (.tl .hd))) rfl rfl rfl rfl rfl rfl (onesB rfl)) (fun x1 v0 B0=>?_)
 refine AE 2 15 16 c0 rfl C0 (AH rfl ((v0.memA (.tl .hd)) 0 _ rfl)) rfl ?_
 obtain ⟨V0,p1⟩:=AJ v0 (.one (.tl (.tl .hd)) (.one (.tl (.tl .hd)) (.one (.tl (.tl .hd)) (.one (.tl (.tl .hd)) (.one (.tl (.tl .hd)) (.one (.tl (.tl .hd)) (.one (.tl (.tl .hd)) .done)))))))
 exact E0 () _ _ ⟨rfl,rfl,trivial⟩ ⟨V0,(Tt B0 p1)⟩
 have h:=exc_o h
 try dsimp only at h
 refine RG.callq' (v:=.agg ((cs_TShare t0)).toArray) (fst:=[]) (cap:=[vP g0,vP j0,vP p0,vP q0]) .plain body61 rfl evs_nil (fun w9 hw9=>Bl (interest_Score_1_c n _ w9 (b0.hL0 hL hw9) a0 (b0.k0 h0_0 hw9) (fun j9 v9 h9=>hw9.cell0 ((b0.memA (.tl (.tl (.tl (.tl (.tl (.tl .hd))))))) j9 v9 h9)) a1 (b0.k0 h1_3 hw9) (fun j9 v9 h9=>hw9.cell0 ((b0.memA (.tl (.tl (.tl (.tl (.tl .hd)))))) j9 v9 h9)) a2 (b0.k0 h2_0 hw9) (fun j9 v9 h9=>hw9.cell0 ((b0.memA (.tl (.tl (.tl (.tl .hd))))) j9 v9 h9)) a3 (fun j9 v9 h9=>hw9.cell0 ((b0.memA (.tl (.tl (.tl .hd)))) j9 v9 h9)) (hG0.keep (b0.ag.trans hw9)) K0)) rfl<|AY (cs_TShare t0) b0 (.tl .hd) (onesB rfl) (fun g2 W0 G1=>?_)
 refine AY [vI 0] W0 .hd (o1 rfl) (fun j2 A0 H1=>?_)
 refine Aa<|Ak rfl<|RT.callD (vs:=[]) (cap:=[vP s0,vP d0]) body104 Tryz.func104 rfl rfl rfl (fun A1 J0 t1=>?_)
 refine Ae<|RG.recover0 .plain J0 rfl<|Af rfl<|Aa<|Ae<|Ac rfl<|Ab (FV.neqI0 Tryz.underlying20 rfl rfl)<|Aa<|Bo rfl<|Ap<|MX.fin rfl<|RT.leaveD0 J0 t1 Tryz.func104 rfl .nil<|Ao (u:=.tuple #[.agg ((cs_TShare t0)).toArray,vI 0]) I0 Tryz.func60 rfl (.cons (.many (cs:=(cs_TShare t0)) (by kernel_rfl) rfl (A0.memA (.tl .hd))) (.cons (.one (by kernel_rfl) rfl ((A0.memA .hd) 0 _ rfl)) .nil)) rfl<|Ab (Ag rfl rfl)<|Ab (Ag rfl rfl)<|AY (cs_TShare t0) A0 (.tl (.tl .hd)) (onesB rfl) (fun k2 G0 J1=>?_)
 refine Af rfl<|Aa<|Ak rfl<|Ao hb0 Tryz.func23 rfl (.cons (.many (cs:=(cs_TShare t0)) (by kernel_rfl) rfl (G0.memA (.tl (.tl .hd)))) (.cons (.tmp rfl) .nil)) rfl ?_
 cases h
 exact G0.gv
def tb147_6:List (Nat × Nat × Nat):=[(0,131072,32),(0,262144,8),(2,524288,262144),(1,0,131073),(15,0,524290)]
theorem el69:ElT Tryz.prog 69 75 (Rep.size (List UInt64)) 24 vN [vN]:=⟨Tryz.underlying69,by kernel_rfl,rfl,rfl,rfl,rfl⟩
theorem body67:bodyB Tryz.prog 67 = true:=by kernel_rfl
theorem body106:bodyB Tryz.prog 106 = true:=by kernel_rfl
theorem body107:bodyB Tryz.prog 107 = true:=by kernel_rfl
theorem body147:bodyB Tryz.prog 147 = true:=by kernel_rfl
def interest_Parts_l1 (n:Nat) (a0:List TInterest) (a1:TRoll) (a2:List Int) (a3:Int) (d0:Nat × (List (List UInt64)) → Option (List (List UInt64))):Nat × (List (List UInt64)) → Option (List (List UInt64))
  | (b0,c0)=>(if b0 < a0.length then (a0[b0]?).bind fun g0=>(interest_view_parts_p n (⟨a1,a2,a3⟩:Tview) g0).bind fun k0=>(app c0 ([k0]:List (List UInt64))).bind fun j0=>d0 (b0 + 1,j0) else some c0)
def interest_Parts_p (n:Nat) (a0:List TInterest) (a1:TRoll) (a2:List Int) (a3:Int):Option ((List (List UInt64)) × Int):=
  (balance_Check_p n a1 a2 a3).bind fun k0=>(interest_need_p n k0).bind fun p0=>exc p0 (fun _y64=>(interest_Check_p n ((a2.length:Nat):Int) a0).bind fun g0=>(interest_need_p n g0).bind fun j0=>exc j0 (fun _y1303=>Option.bind (loopF (interest_Parts_l1 n a0 a1 a2 a3) n (0,([]:List (List UInt64)))) (fun d0=>some (d0,(0:Int)))) (fun b0=>some (([]:List (List UInt64)),b0.fw))) (fun c0=>some (([]:List (List UInt64)),c0.fw))
theorem interest_Parts_c (n:Nat) (L:List Nat) (w:World) (hL:∀ b ∈ L,b < w.heap.size) (a0:List TInterest) {v0_0:Value} (h0_0:Rep.R w L [v0_0] a0) (a1:TRoll) {v1_3:Value} (h1_3:Rep.R w L [v1_3] a1.fo) (a2:List Int) {v2_0:Value} (h2_0:Rep.R w L [v2_0] a2) (a3:Int) (hG0:Glob 0 tab0 w)  {r:(List (List UInt64)) × Int} (h:interest_Parts_p n a0 a1 a2 a3 = some r) :
    Calls Tryz.prog 24 #[v0_0,.agg #[vI a1.fh,vI a1.fc,vI a1.fe,v1_3],v2_0,vI a3] w (Gives w fun w' u=>∃ v0_0:Value,u = .tuple #[v0_0,vI r.2]∧Rep.R w' L [v0_0] r.1):=by
 unfold interest_Parts_p at h
 have hS0:=AA w
 refine AC Tryz.func24 rfl rfl rfl (fun _ cs0 hb0=>?_)
 refine Ae<|Al .plain rfl (Ax hS0 rfl rfl) (fun y5 v0 Q0 J4=>?_)
 refine Af rfl<|Af rfl<|Aa<|Ae<|Ac rfl<|Ab (AG rfl (Q0.memA .hd))<|Ac rfl<|Ac rfl<|Br (fst:=[]) (cap:=[]) (vs:=[v0_0,.agg #[vI a1.fh,vI a1.fc,vI a1.fe,v1_3],v2_0,vI a3,.func (.func 68) #[] #[]]) .plain body67 Tryz.func67 rfl rfl rfl rfl (e5 rfl rfl rfl rfl rfl) rfl (fun D4 b1 t5=>?_)
 refine Ae ?_
 have k3:=AI h0_0 Q0
 refine Al .plain rfl (Ax Q0 rfl (Rep.c1 k3)) (fun C5 s0 Z1 Q4=>?_)
 refine Al .plain rfl (Ax Z1 rfl rfl) (fun D5 g0 y1 W4=>?_)
 have A3:=AI h2_0 y1
 refine Al .plain rfl (Ax y1 rfl (Rep.c1 A3)) (fun P5 j0 s2 Y4=>?_)
 refine Al .plain rfl (Ax s2 rfl rfl) (fun Q5 p0 t2 Z4=>?_)
 refine Al .plain rfl (Ax t2 rfl rfl) (fun R5 q0 u2 b5=>?_)
 refine Af rfl<|Af rfl<|Aa<|Ae<|Ab (FV.makeFunc (vs:=[]) (us:=[vP g0,vP j0,vP p0,vP s0,vP q0]) evs_nil (e5 rfl rfl rfl rfl rfl))<|Br (fst:=[]) (cap:=[]) (vs:=[.func (.func 107) #[] #[vP g0,vP j0,vP p0,vP s0,vP q0]]) .plain body106 Tryz.func106 rfl rfl rfl rfl (e1 rfl) rfl (fun F4 d1 u5=>?_)
 refine Ae<|Al .plain rfl (AD [vN] u2) (fun U5 d0 v2 c5=>?_)
 refine Al .plain rfl (AD [vI 0] v2) (fun Y3 c0 b0 d5=>?_)
 refine Aa<|Ae<|Ab (FV.makeFunc (vs:=[]) (us:=[vP d0,vP c0]) evs_nil (e2 rfl rfl))<|RG.defer (fst:=[]) (cap:=[vP d0,vP c0]) (vs:=[]) rfl .plain rfl evs_nil<|Aa<|Ae<|Ac rfl<|Br (fst:=[]) (cap:=[vP g0,vP j0,vP p0,vP s0,vP q0]) (vs:=[]) .plain body107 Tryz.func107 rfl rfl rfl rfl evs_nil rfl (fun G4 R2 F1=>?_)
 refine Ae<|Af rfl<|Aa<|Ae<|Ab (AG rfl (b0.memA (.tl (.tl (.tl (.tl (.tl .hd)))))))<|Ab (AH rfl ((b0.memA (.tl (.tl (.tl (.tl .hd))))) 0 _ rfl))<|Ab (AH rfl ((b0.memA (.tl (.tl (.tl .hd)))) 0 _ rfl)) ?_
 obtain ⟨t1,U3,h⟩:=bi h
 refine Bb (vI t1) body95 rfl (e3 rfl rfl rfl) (fun w9 hw9=>balance_Check_c n _ w9 (b0.hL0 hL hw9) a1 (b0.k0 h1_3 hw9) a2 (b0.k0 h2_0 hw9) a3 U3) rfl ?_
 obtain ⟨g4,J1,h⟩:=bi h
 rcases g4 with D0 | Y5
 have h:=exc_e h
 try dsimp only at h
 refine Bw (fst:=[]) (cap:=[]) .plain body94 rfl (e1 rfl) (fun w9 hw9=>interest_need_c n _ w9 (b0.hL0 hL hw9) t1 J1) (fun V5 Q2=>?_)
 obtain ⟨x2,g5⟩:=b0.agr Q2
 refine Bq F1 Tryz.func107<|PN.callD (vs:=[]) (cap:=[vP d0,vP c0]) body147 Tryz.func147 rfl rfl rfl (fun C4 Y2 j3=>?_)
 refine Ae<|RG.recover1 .plain Y2 rfl<|Af rfl<|Aa<|Ae<|Ac rfl<|Ab (FV.neqI Tryz.underlying20 rfl rfl)<|Aa<|Bf rfl<|Ae<|Ac rfl<|Ab (FV.assertT (by kernel_rfl) rfl)<|Ac rfl<|Ab (Ag rfl rfl)<|Ab (Ag rfl rfl)<|Al .plain rfl (AD [vI 0] x2) (fun W5 M1 y2 j5=>?_)
 refine AY [vI D0.fw] y2 .hd (o1 rfl) (fun b4 X0 k5=>?_)
 refine Af rfl<|Aa<|Aj<|Ae<|Ac rfl<|Ab (Bv rfl)<|Aa<|Bo rfl<|Ap<|Ae<|Af rfl<|Aa<|dt 3 tb147_6 (fun z0 j1=>?_)
 refine Ah 0 1 z0 rfl j1 (fun _=>Ai rfl) rfl<|Ah 1 3 z0 rfl j1 (fun _=>Bj 0 rfl) rfl<|RD.meet (α:=Unit) (fun ()=>[(1,vP c0),(19,vI D0.fw)]) (fun () k1=>St w k1 [.cells c0 [vI 0] 35,.cells d0 [vN] 69,.cells q0 [.func (.func 68) #[] #[]] 135,.cells p0 [vI a3] 3,.cells j0 [v2_0] 53,.cells g0 [vI a1.fh,vI a1.fc,vI a1.fe,v1_3] 58,.cells s0 [v0_0] 30,.cells v0 [vI a1.fh,vI a1.fc,vI a1.fe,v1_3] 58]∧Tr b4 [.cells M1 [vI D0.fw] 176,.cells c0 [vI 0] 35,.cells d0 [vN] 69,.cells q0 [.func (.func 68) #[] #[]] 135,.cells p0 [vI a3] 3,.cells j0 [v2_0] 53,.cells g0 [vI a1.fh,vI a1.fc,vI a1.fe,v1_3] 58,.cells s0 [v0_0] 30,.cells v0 [vI a1.fh,vI a1.fc,vI a1.fe,v1_3] 58] k1 [.cells c0 [vI 0] 35,.cells d0 [vN] 69,.cells q0 [.func (.func 68) #[] #[]] 135,.cells p0 [vI a3] 3,.cells j0 [v2_0] 53,.cells g0 [vI a1.fh,vI a1.fc,vI a1.fe,v1_3] 58,.cells s0 [v0_0] 30,.cells v0 [vI a1.fh,vI a1.fc,vI a1.fe,v1_3] 58]) 1 15 ?_ ?_
 rintro ⟨⟩ k1 ⟨U1,H4⟩
 try dsimp only
 refine By 4 31 z0 rfl rfl .plain (Az (news:=[vI D0.fw]) U1 .hd rfl rfl rfl rfl rfl rfl (o1 rfl)) (fun z5 E0 I4=>?_)
 refine AK (dk z0)<|MX.fin rfl<|RT.leaveD1 j3 Tryz.func147 rfl .nil<|Ao (u:=.tuple #[vN,vI D0.fw]) d1 Tryz.func106 rfl (.cons (.one (by kernel_rfl) rfl ((E0.memA (.tl .hd)) 0 _ rfl)) (.cons (.one (by kernel_rfl) rfl ((E0.memA .hd) 0 _ rfl)) .nil)) rfl<|Ab (Ag rfl rfl)<|Ab (Ag rfl rfl)<|Af rfl<|Af rfl<|Aa<|Ak rfl<|Ao (u:=.tuple #[vN,vI D0.fw]) b1 Tryz.func67 rfl (.cons (.tmp rfl) (.cons (.tmp rfl) .nil)) rfl<|Ab (Ag rfl rfl)<|Ab (Ag rfl rfl)<|Af rfl<|Af rfl<|Aa<|Ak rfl ?_
 have D3:=Rep.nilAt (α:=List UInt64) E0 L
 refine Ao hb0 Tryz.func24 rfl (.cons (.tmp rfl) (.cons (.tmp rfl) .nil)) rfl ?_
 cases h
 exact ⟨E0.ag,fun w9 hw9=>⟨vN,rfl,E0.kd D3 hw9⟩⟩
 intro u1
 refine RD.each [2,3] (rk z0) ⟨?_,?_,trivial⟩
 refine RO.val (m' :=7) (sk z0) rfl .plain rfl (AH rfl ((X0.memA .hd) 0 _ rfl))<|By 3 15 z0 rfl rfl .plain (Az (news:=[vN]) X0 (.tl (.tl .hd)) rfl rfl rfl rfl rfl rfl (o1 rfl)) (fun Z3 J0 Z0=>?_)
 obtain ⟨V1,z2⟩:=AJ J0 (.one (.tl .hd) (.one (.tl .hd) (.one (.tl .hd) (.one (.tl .hd) (.one (.tl .hd) (.one (.tl .hd) (.one (.tl .hd) (.one (.tl .hd) .done))))))))
 exact u1 () _ _ ⟨rfl,rfl,trivial⟩ ⟨V1,(Tt Z0 z2)⟩
 refine RO.now (m' :=11) (sk z0) rfl rfl .plain (Az (news:=[vN]) X0 (.tl (.tl .hd)) rfl rfl rfl rfl rfl rfl (o1 rfl)) (fun Z3 J0 Z0=>?_)
 refine AE 2 15 16 z0 rfl j1 (AH rfl ((J0.memA .hd) 0 _ rfl)) rfl ?_
 obtain ⟨W1,A2⟩:=AJ J0 (.one (.tl .hd) (.one (.tl .hd) (.one (.tl .hd) (.one (.tl .hd) (.one (.tl .hd) (.one (.tl .hd) (.one (.tl .hd) (.one (.tl .hd) .done))))))))
 exact u1 () _ _ ⟨rfl,rfl,trivial⟩ ⟨W1,(Tt Z0 A2)⟩
 have h:=exc_o h
 try dsimp only at h
 refine Bb (.tuple #[]) body94 rfl (e1 rfl) (fun w9 hw9=>Bl (interest_need_c n _ w9 (b0.hL0 hL hw9) t1 J1)) rfl<|Aa<|Ae<|Ab (AH rfl ((b0.memA (.tl (.tl (.tl (.tl .hd))))) 0 _ rfl)) ?_
 have D1:=AI h2_0 b0
 have q5:a2.length ≤ 281474976710656:=AR D1
 refine Ab (AZ (xs:=a2) Tryz.underlying53 rfl D1)<|Ab (AH rfl ((b0.memA (.tl (.tl (.tl (.tl (.tl (.tl .hd))))))) 0 _ rfl)) ?_
 obtain ⟨q1,Q3,h⟩:=bi h
 refine Bb (vI q1) body13 rfl (e2 rfl rfl) (fun w9 hw9=>interest_Check_c n _ w9 (b0.hL0 hL hw9) ((a2.length:Nat):Int) a0 (b0.k0 h0_0 hw9) Q3) rfl ?_
 obtain ⟨d4,I1,h⟩:=bi h
 rcases d4 with C0 | X5
 have h:=exc_e h
 try dsimp only at h
 refine Bw (fst:=[]) (cap:=[]) .plain body94 rfl (e1 rfl) (fun w9 hw9=>interest_need_c n _ w9 (b0.hL0 hL hw9) q1 I1) (fun A5 M2=>?_)
 obtain ⟨X1,K4⟩:=b0.agr M2
 refine Bq F1 Tryz.func107<|PN.callD (vs:=[]) (cap:=[vP d0,vP c0]) body147 Tryz.func147 rfl rfl rfl (fun v4 U2 c3=>?_)
 refine Ae<|RG.recover1 .plain U2 rfl<|Af rfl<|Aa<|Ae<|Ac rfl<|Ab (FV.neqI Tryz.underlying20 rfl rfl)<|Aa<|Bf rfl<|Ae<|Ac rfl<|Ab (FV.assertT (by kernel_rfl) rfl)<|Ac rfl<|Ab (Ag rfl rfl)<|Ab (Ag rfl rfl)<|Al .plain rfl (AD [vI 0] X1) (fun B5 K1 Y1 M4=>?_)
 refine AY [vI C0.fw] Y1 .hd (o1 rfl) (fun W3 R0 P4=>?_)
 refine Af rfl<|Aa<|Aj<|Ae<|Ac rfl<|Ab (Bv rfl)<|Aa<|Bo rfl<|Ap<|Ae<|Af rfl<|Aa<|dt 3 tb147_6 (fun y0 g1=>?_)
 refine Ah 0 1 y0 rfl g1 (fun _=>Ai rfl) rfl<|Ah 1 3 y0 rfl g1 (fun _=>Bj 0 rfl) rfl<|RD.meet (α:=Unit) (fun ()=>[(1,vP c0),(19,vI C0.fw)]) (fun () p1=>St w p1 [.cells c0 [vI 0] 35,.cells d0 [vN] 69,.cells q0 [.func (.func 68) #[] #[]] 135,.cells p0 [vI a3] 3,.cells j0 [v2_0] 53,.cells g0 [vI a1.fh,vI a1.fc,vI a1.fe,v1_3] 58,.cells s0 [v0_0] 30,.cells v0 [vI a1.fh,vI a1.fc,vI a1.fe,v1_3] 58]∧Tr W3 [.cells K1 [vI C0.fw] 176,.cells c0 [vI 0] 35,.cells d0 [vN] 69,.cells q0 [.func (.func 68) #[] #[]] 135,.cells p0 [vI a3] 3,.cells j0 [v2_0] 53,.cells g0 [vI a1.fh,vI a1.fc,vI a1.fe,v1_3] 58,.cells s0 [v0_0] 30,.cells v0 [vI a1.fh,vI a1.fc,vI a1.fe,v1_3] 58] p1 [.cells c0 [vI 0] 35,.cells d0 [vN] 69,.cells q0 [.func (.func 68) #[] #[]] 135,.cells p0 [vI a3] 3,.cells j0 [v2_0] 53,.cells g0 [vI a1.fh,vI a1.fc,vI a1.fe,v1_3] 58,.cells s0 [v0_0] 30,.cells v0 [vI a1.fh,vI a1.fc,vI a1.fe,v1_3] 58]) 1 15 ?_ ?_
 rintro ⟨⟩ p1 ⟨b2,R4⟩
 try dsimp only
 refine By 4 31 y0 rfl rfl .plain (Az (news:=[vI C0.fw]) b2 .hd rfl rfl rfl rfl rfl rfl (o1 rfl)) (fun E5 F0 U4=>?_)
 refine AK (dk y0)<|MX.fin rfl<|RT.leaveD1 c3 Tryz.func147 rfl .nil<|Ao (u:=.tuple #[vN,vI C0.fw]) d1 Tryz.func106 rfl (.cons (.one (by kernel_rfl) rfl ((F0.memA (.tl .hd)) 0 _ rfl)) (.cons (.one (by kernel_rfl) rfl ((F0.memA .hd) 0 _ rfl)) .nil)) rfl<|Ab (Ag rfl rfl)<|Ab (Ag rfl rfl)<|Af rfl<|Af rfl<|Aa<|Ak rfl<|Ao (u:=.tuple #[vN,vI C0.fw]) b1 Tryz.func67 rfl (.cons (.tmp rfl) (.cons (.tmp rfl) .nil)) rfl<|Ab (Ag rfl rfl)<|Ab (Ag rfl rfl)<|Af rfl<|Af rfl<|Aa<|Ak rfl ?_
 have E3:=Rep.nilAt (α:=List UInt64) F0 L
 refine Ao hb0 Tryz.func24 rfl (.cons (.tmp rfl) (.cons (.tmp rfl) .nil)) rfl ?_
 cases h
 exact ⟨F0.ag,fun w9 hw9=>⟨vN,rfl,F0.kd E3 hw9⟩⟩
 intro v1
 refine RD.each [2,3] (rk y0) ⟨?_,?_,trivial⟩
 refine RO.val (m' :=7) (sk y0) rfl .plain rfl (AH rfl ((R0.memA .hd) 0 _ rfl))<|By 3 15 y0 rfl rfl .plain (Az (news:=[vN]) R0 (.tl (.tl .hd)) rfl rfl rfl rfl rfl rfl (o1 rfl)) (fun X3 I0 Y0=>?_)
 obtain ⟨c2,B2⟩:=AJ I0 (.one (.tl .hd) (.one (.tl .hd) (.one (.tl .hd) (.one (.tl .hd) (.one (.tl .hd) (.one (.tl .hd) (.one (.tl .hd) (.one (.tl .hd) .done))))))))
 exact v1 () _ _ ⟨rfl,rfl,trivial⟩ ⟨c2,(Tt Y0 B2)⟩
 refine RO.now (m' :=11) (sk y0) rfl rfl .plain (Az (news:=[vN]) R0 (.tl (.tl .hd)) rfl rfl rfl rfl rfl rfl (o1 rfl)) (fun X3 I0 Y0=>?_)
 refine AE 2 15 16 y0 rfl g1 (AH rfl ((I0.memA .hd) 0 _ rfl)) rfl ?_
 obtain ⟨d2,C2⟩:=AJ I0 (.one (.tl .hd) (.one (.tl .hd) (.one (.tl .hd) (.one (.tl .hd) (.one (.tl .hd) (.one (.tl .hd) (.one (.tl .hd) (.one (.tl .hd) .done))))))))
 exact v1 () _ _ ⟨rfl,rfl,trivial⟩ ⟨d2,(Tt Y0 C2)⟩
 have h:=exc_o h
 try dsimp only at h
 refine Bb (.tuple #[]) body94 rfl (e1 rfl) (fun w9 hw9=>Bl (interest_need_c n _ w9 (b0.hL0 hL hw9) q1 I1)) rfl<|Aa<|Aj<|Ae<|Ab (AH rfl ((b0.memA (.tl (.tl (.tl (.tl (.tl (.tl .hd))))))) 0 _ rfl)) ?_
 have E1:=AI h0_0 b0
 have s5:a0.length ≤ 281474976710656:=AR E1
 refine Ab (AZ (xs:=a0) Tryz.underlying30 rfl E1)<|Ac rfl<|Aa<|Ar ?_
 have U0:=b0.nilRow 75 (Rep.size (List UInt64))
 have V4:=St.nilRowT b0 75 (Rep.size (List UInt64))
 have V2:=AB (cs:=[]) (xs:=([]:List (List UInt64))) U0 L (AM _ _)
 have x1:=U0.nilRow 75 (Rep.size (List UInt64))
 have D2:=St.nilRowT U0 75 (Rep.size (List UInt64))
 have p5:=AB (cs:=[]) (xs:=([]:List (List UInt64))) x1 L (AM _ _)
 have p3:=AF V2 D2
 obtain ⟨v5,B3,b3⟩:=bind_in2 h
 refine Bc (α:=Nat × (List (List UInt64)) × Value × (List Value)) (fun ⟨x0,A0,t0,B0⟩=>[(0,vP g0),(1,vP j0),(2,vP p0),(4,vP q0),(5,t0),(18,v0_0),(19,vI ((a0.length:Nat):Int)),(20,vI ((x0:Nat):Int))]) (fun ⟨x0,A0,t0,B0⟩ M0=>St w M0 [.row w.heap.size 75 (Rep.size (List UInt64)) vN (([]:List (List UInt64)).length) [],.row w.heap.size 75 (Rep.size (List UInt64)) t0 A0.length B0,.cells c0 [vI 0] 35,.cells d0 [vN] 69,.cells q0 [.func (.func 68) #[] #[]] 135,.cells p0 [vI a3] 3,.cells j0 [v2_0] 53,.cells g0 [vI a1.fh,vI a1.fc,vI a1.fe,v1_3] 58,.cells s0 [v0_0] 30,.cells v0 [vI a1.fh,vI a1.fc,vI a1.fe,v1_3] 58]∧Tr Y3 [.row w.heap.size 75 (Rep.size (List UInt64)) vN (([]:List (List UInt64)).length) [],.row w.heap.size 75 (Rep.size (List UInt64)) vN (([]:List (List UInt64)).length) [],.cells c0 [vI 0] 35,.cells d0 [vN] 69,.cells q0 [.func (.func 68) #[] #[]] 135,.cells p0 [vI a3] 3,.cells j0 [v2_0] 53,.cells g0 [vI a1.fh,vI a1.fc,vI a1.fe,v1_3] 58,.cells s0 [v0_0] 30,.cells v0 [vI a1.fh,vI a1.fc,vI a1.fe,v1_3] 58] M0 [.row w.heap.size 75 (Rep.size (List UInt64)) vN (([]:List (List UInt64)).length) [],.row w.heap.size 75 (Rep.size (List UInt64)) t0 A0.length B0,.cells c0 [vI 0] 35,.cells d0 [vN] 69,.cells q0 [.func (.func 68) #[] #[]] 135,.cells p0 [vI a3] 3,.cells j0 [v2_0] 53,.cells g0 [vI a1.fh,vI a1.fc,vI a1.fe,v1_3] 58,.cells s0 [v0_0] 30,.cells v0 [vI a1.fh,vI a1.fc,vI a1.fe,v1_3] 58]∧Cells M0 (bl [.row w.heap.size 75 (Rep.size (List UInt64)) vN (([]:List (List UInt64)).length) [],.row w.heap.size 75 (Rep.size (List UInt64)) t0 A0.length B0,.cells c0 [vI 0] 35,.cells d0 [vN] 69,.cells q0 [.func (.func 68) #[] #[]] 135,.cells p0 [vI a3] 3,.cells j0 [v2_0] 53,.cells g0 [vI a1.fh,vI a1.fc,vI a1.fe,v1_3] 58,.cells s0 [v0_0] 30,.cells v0 [vI a1.fh,vI a1.fc,vI a1.fe,v1_3] 58] ++ L) B0 A0) (fun ⟨x0,A0,t0,B0⟩=>(x0,A0)) (0,([]:List (List UInt64)),vN,[]) B3 ⟨rfl,rfl,rfl,rfl,rfl,rfl,rfl,rfl,trivial⟩ ⟨x1,AP _ _,p3⟩ ?_
 rintro s4 ⟨x0,A0,t0,B0⟩ M0 R1 ⟨G0,E2,B1⟩ h
 unfold interest_Parts_l1 at h
 try dsimp only at h
 refine Ae<|Ab (Bd (i:=x0) (j:=a0.length) rfl rfl)<|Aa<|Aj<|AO rfl h (fun P1 h=>?_) (fun P1 h=>?_)
 refine Ap<|Aj<|Ar<|Ae ?_
 obtain ⟨P0,M3,h⟩:=bi h
 have s3:=AI h0_0 G0
 obtain ⟨j4,x4,Z2,d3,E4,F3,q3⟩:=Bk s3 M3
 obtain rfl:=op_TInterest F3
 refine Ab (Bn 3 x0 rfl Z2 rfl rfl d3)<|Ab (AG rfl q3)<|Al .plain rfl (AD [.string ⟨#[]⟩,vI 0,vW 0] G0) (fun F5 t4 g2 F2=>?_)
 refine AY [.string P0.fp,vI P0.fE,vU P0.fo] g2 .hd (onesB rfl) (fun G5 u0 G2=>?_)
 refine Aa<|Am<|Ac rfl<|Ab (AH rfl ((u0.memA (.tl (.tl (.tl (.tl (.tl .hd)))))) 0 _ rfl))<|Ab (AG rfl (u0.memA (.tl (.tl (.tl (.tl (.tl (.tl (.tl (.tl .hd))))))))))<|Ab (AH rfl ((u0.memA (.tl (.tl (.tl (.tl (.tl (.tl (.tl .hd)))))))) 0 _ rfl))<|Ab (AH rfl ((u0.memA (.tl (.tl (.tl (.tl (.tl (.tl .hd))))))) 0 _ rfl)) ?_
 have t3:=AI h1_3 u0
 obtain ⟨k4,y4,I3,_⟩:=Rep.sl t3
 have u3:=AI h2_0 u0
 obtain ⟨p4,z4,J3,_⟩:=Rep.sl u3
 refine Ab (AW (vs:=[.agg #[vI a1.fh,vI a1.fc,vI a1.fe,v1_3],v2_0,vI a3]) (u:=.agg #[vI a1.fh,vI a1.fc,vI a1.fe,v1_3,v2_0,vI a3]) (e3 rfl rfl rfl) (fun w9=>by rw [I3,J3]; try kernel_rfl))<|Ab (AG rfl (u0.memA .hd)) ?_
 obtain ⟨s1,R3,h⟩:=bi h
 refine Bm (fst:=[]) (cap:=[]) .plain body68 rfl (e2 rfl rfl) (fun w9 hw9=>interest_view_parts_c n _ w9 (u0.hL hL hw9) (⟨a1,a2,a3⟩:Tview) (u0.km h1_3 hw9) (u0.km h2_0 hw9) P0 (hG0.keep (u0.ag.trans hw9)) R3) rfl (fun H5 K0 P2 ⟨x5,hu_,H1⟩=>?_)
 subst hu_
 obtain ⟨j2,H2⟩:=u0.agr P2
 obtain ⟨q4,A4,K3,_⟩:=Rep.sl H1
 refine Al .plain rfl (AV (α:=List UInt64) (xs:=([s1]:List (List UInt64))) (vs:=[K0]) (ds' :=[K0]) rfl j2 el69 rfl (e1 rfl) (by rw [K3]; try kernel_rfl) rfl) (fun I5 u4 V0 z1=>?_)
 have v3:=Ay H1 z1
 have W2:=AB (cs:=[K0]) (xs:=(([s1]:List (List UInt64)):List (List UInt64))) V0 L (Aq (cs:=[K0]) (ds:=[]) v3 (AM _ _))
 obtain ⟨c4,P3,h⟩:=bi h
 have G1:=Tt F2 (Tt G2 (Tt H2 z1))
 have x3:=AF B1 G1
 refine RG.doesL .plain rfl (DoesL.app (α:=List UInt64) (ys:=([s1]:List (List UInt64))) P3 V0 (fun _ _=>(.tl (.tl (.tl .hd)))) el69 rfl rfl x3 (Src.row (α:=List UInt64) V0 .hd W2)) (fun V3 J5 ⟨Q1,k2,I2,X2⟩=>?_)
 refine Af rfl<|Aa<|Av<|Am<|Ab (Bi (i:=x0) (j:=1) rfl rfl (by omega))<|Ac rfl<|Aa ?_
 obtain ⟨p2,A1⟩:=AJ k2 (.one (.tl (.tl .hd)) (.one (.tl (.tl .hd)) (.one (.tl (.tl .hd)) (.one (.tl (.tl .hd)) (.one (.tl (.tl .hd)) (.one (.tl (.tl .hd)) (.one (.tl (.tl .hd)) (.one (.tl (.tl .hd)) (.one (.tl (.tl .hd)) (.one (.tl (.tl .hd)) .done))))))))))
 have y3:=AF X2 A1
 have C3:=Tt G1 (Tt I2 A1)
 exact R1 (x0 + 1,c4,V3,Q1) _ _ ⟨rfl,rfl,rfl,rfl,rfl,rfl,rfl,rfl,trivial⟩ ⟨p2,(Tt E2 C3),y3⟩ h
 refine AU rfl ?_
 have h:=b3 _ h
 try dsimp only at h
 refine Ae<|Ac rfl<|Af rfl<|Aa<|Ak rfl<|Ao (u:=t0) R2 Tryz.func107 rfl (.cons (.tmp rfl) .nil) rfl<|RG.now .plain (Az (news:=[t0]) G0 (.tl (.tl (.tl .hd))) rfl rfl rfl (St.c1 (α:=List UInt64) G0 (.tl .hd)) rfl rfl (o1 (St.o1 (α:=List UInt64) G0 (.tl .hd)))) (fun K5 q2 J2=>?_)
 refine AY [vI 0] q2 (.tl (.tl .hd)) (o1 rfl) (fun M5 H0 K2=>?_)
 refine Aa<|Ak rfl<|RT.callD (vs:=[]) (cap:=[vP d0,vP c0]) body147 Tryz.func147 rfl rfl rfl (fun B4 C1 g3=>?_)
 refine Ae<|RG.recover0 .plain C1 rfl<|Af rfl<|Aa<|Ae<|Ac rfl<|Ab (FV.neqI0 Tryz.underlying20 rfl rfl)<|Aa<|Bo rfl<|Ap<|MX.fin rfl<|RT.leaveD0 C1 g3 Tryz.func147 rfl .nil<|Ao (u:=.tuple #[t0,vI 0]) d1 Tryz.func106 rfl (.cons (.one (by kernel_rfl) rfl ((H0.memA (.tl (.tl (.tl .hd)))) 0 _ rfl)) (.cons (.one (by kernel_rfl) rfl ((H0.memA (.tl (.tl .hd))) 0 _ rfl)) .nil)) rfl<|Ab (Ag rfl rfl)<|Ab (Ag rfl rfl)<|Af rfl<|Af rfl<|Aa<|Ak rfl<|Ao (u:=.tuple #[t0,vI 0]) b1 Tryz.func67 rfl (.cons (.tmp rfl) (.cons (.tmp rfl) .nil)) rfl<|Ab (Ag rfl rfl)<|Ab (Ag rfl rfl)<|Af rfl<|Af rfl ?_
 refine Aa<|Ak rfl ?_
 have z3:=AF B1 (Tt J2 K2)
 have G3:=Bu (α:=List UInt64) H0 (.tl .hd) z3 hL
 have W0:=St.delS H0 (.tl .hd)
 have X4:=St.delT H0 (.tl .hd)
 have H3:=Rep.at_ (α:=List UInt64) (v:=t0) (xs:=A0) W0 L G3
 refine Ao hb0 Tryz.func24 rfl (.cons (.tmp rfl) (.cons (.tmp rfl) .nil)) rfl ?_
 cases h
 exact ⟨W0.ag,fun w9 hw9=>⟨t0,rfl,W0.kd H3 hw9⟩⟩
def interest_view_kept_p (n:Nat) (a0:Tview) (a1:TInterest):Option Bool:=
  (interest_view_parts_p n a0 a1).bind fun b0=>some (decide (b0.length = 1))
theorem interest_view_kept_c (n:Nat) (L:List Nat) (w:World) (hL:∀ b ∈ L,b < w.heap.size) (a0:Tview) {v0_3:Value} (h0_3:Rep.R w L [v0_3] a0.fv.fo) {v0_4:Value} (h0_4:Rep.R w L [v0_4] a0.fplan) (a1:TInterest) (hG0:Glob 0 tab0 w)  {r:Bool} (h:interest_view_kept_p n a0 a1 = some r) :
    Calls Tryz.prog 70 #[.agg #[vI a0.fv.fh,vI a0.fv.fc,vI a0.fv.fe,v0_3,v0_4,vI a0.fk],.agg #[.string a1.fp,vI a1.fE,vU a1.fo]] w (Gives w fun _ u=>u = .bool r):=by
 unfold interest_view_kept_p at h
 have hS0:=AA w
 refine AC Tryz.func70 rfl rfl rfl (fun _ cs0 hb0=>?_)
 refine Ae<|Al .plain rfl (Ax hS0 rfl rfl) (fun A0 q0 g0 t0=>?_)
 refine Al .plain rfl (Ax g0 rfl rfl) (fun B0 s0 b0 u0=>?_)
 refine Af rfl<|Aa<|Ae<|Ab (AG rfl (b0.memA (.tl .hd)))<|Ab (AG rfl (b0.memA .hd)) ?_
 obtain ⟨c0,p0,h⟩:=bi h
 refine Bm (fst:=[]) (cap:=[]) .plain body68 rfl (e2 rfl rfl) (fun w9 hw9=>interest_view_parts_c n _ w9 (b0.hL hL hw9) a0 (b0.km h0_3 hw9) (b0.km h0_4 hw9) a1 (hG0.keep (b0.ag.trans hw9)) p0) rfl (fun C0 z0 k0 ⟨y0,hu_,d0⟩=>?_)
 subst hu_
 obtain ⟨j0,v0⟩:=b0.agr k0
 have x0:c0.length ≤ 281474976710656:=AR d0
 refine Ab (AZ (xs:=c0) Tryz.underlying75 rfl d0)<|Ab (FV.eqlN (i:=c0.length) (j:=1) rfl rfl)<|Af rfl<|Aa<|Ak rfl<|AQ hb0 Tryz.func70 rfl rfl ?_
 cases h
 exact j0.gv
def tb148_6:List (Nat × Nat × Nat):=[(0,131072,32),(0,262144,8),(2,524288,262144),(1,0,131073),(15,0,524290)]
theorem body69:bodyB Tryz.prog 69 = true:=by kernel_rfl
theorem body70:bodyB Tryz.prog 70 = true:=by kernel_rfl
theorem body108:bodyB Tryz.prog 108 = true:=by kernel_rfl
theorem body109:bodyB Tryz.prog 109 = true:=by kernel_rfl
theorem body148:bodyB Tryz.prog 148 = true:=by kernel_rfl
def interest_Kept_l1 (n:Nat) (a0:List TInterest) (a1:TRoll) (a2:List Int) (a3:Int) (d0:Nat × (List Bool) → Option (List Bool)):Nat × (List Bool) → Option (List Bool)
  | (b0,c0)=>(if b0 < a0.length then (a0[b0]?).bind fun g0=>(interest_view_kept_p n (⟨a1,a2,a3⟩:Tview) g0).bind fun k0=>(app c0 ([k0]:List Bool)).bind fun j0=>d0 (b0 + 1,j0) else some c0)
def interest_Kept_p (n:Nat) (a0:List TInterest) (a1:TRoll) (a2:List Int) (a3:Int):Option ((List Bool) × Int):=
  (balance_Check_p n a1 a2 a3).bind fun k0=>(interest_need_p n k0).bind fun p0=>exc p0 (fun _y64=>(interest_Check_p n ((a2.length:Nat):Int) a0).bind fun g0=>(interest_need_p n g0).bind fun j0=>exc j0 (fun _y1303=>Option.bind (loopF (interest_Kept_l1 n a0 a1 a2 a3) n (0,([]:List Bool))) (fun d0=>some (d0,(0:Int)))) (fun b0=>some (([]:List Bool),b0.fw))) (fun c0=>some (([]:List Bool),c0.fw))
theorem interest_Kept_c (n:Nat) (L:List Nat) (w:World) (hL:∀ b ∈ L,b < w.heap.size) (a0:List TInterest) {v0_0:Value} (h0_0:Rep.R w L [v0_0] a0) (a1:TRoll) {v1_3:Value} (h1_3:Rep.R w L [v1_3] a1.fo) (a2:List Int) {v2_0:Value} (h2_0:Rep.R w L [v2_0] a2) (a3:Int) (hG0:Glob 0 tab0 w)  {r:(List Bool) × Int} (h:interest_Kept_p n a0 a1 a2 a3 = some r) :
    Calls Tryz.prog 25 #[v0_0,.agg #[vI a1.fh,vI a1.fc,vI a1.fe,v1_3],v2_0,vI a3] w (Gives w fun w' u=>∃ v0_0:Value,u = .tuple #[v0_0,vI r.2]∧Rep.R w' L [v0_0] r.1):=by
 unfold interest_Kept_p at h
 have hS0:=AA w
 refine AC Tryz.func25 rfl rfl rfl (fun _ cs0 hb0=>?_)
 refine Ae<|Al .plain rfl (Ax hS0 rfl rfl) (fun g5 v0 Q0 A4=>?_)
 refine Af rfl<|Af rfl<|Aa<|Ae<|Ac rfl<|Ab (AG rfl (Q0.memA .hd))<|Ac rfl<|Ac rfl<|Br (fst:=[]) (cap:=[]) (vs:=[v0_0,.agg #[vI a1.fh,vI a1.fc,vI a1.fe,v1_3],v2_0,vI a3,.func (.func 70) #[] #[]]) .plain body69 Tryz.func69 rfl rfl rfl rfl (e5 rfl rfl rfl rfl rfl) rfl (fun t4 b1 b5=>?_)
 refine Ae ?_
 have b3:=AI h0_0 Q0
 refine Al .plain rfl (Ax Q0 rfl (Rep.c1 b3)) (fun q5 s0 W1 E4=>?_)
 refine Al .plain rfl (Ax W1 rfl rfl) (fun s5 g0 x1 I4=>?_)
 have t3:=AI h2_0 x1
 refine Al .plain rfl (Ax x1 rfl (Rep.c1 t3)) (fun B5 j0 j2 K4=>?_)
 refine Al .plain rfl (Ax j2 rfl rfl) (fun C5 p0 k2 M4=>?_)
 refine Al .plain rfl (Ax k2 rfl rfl) (fun D5 q0 p2 P4=>?_)
 refine Af rfl<|Af rfl<|Aa<|Ae<|Ab (FV.makeFunc (vs:=[]) (us:=[vP g0,vP j0,vP p0,vP s0,vP q0]) evs_nil (e5 rfl rfl rfl rfl rfl))<|Br (fst:=[]) (cap:=[]) (vs:=[.func (.func 109) #[] #[vP g0,vP j0,vP p0,vP s0,vP q0]]) .plain body108 Tryz.func108 rfl rfl rfl rfl (e1 rfl) rfl (fun v4 d1 c5=>?_)
 refine Ae<|Al .plain rfl (AD [vN] p2) (fun E5 d0 q2 Q4=>?_)
 refine Al .plain rfl (AD [vI 0] q2) (fun P3 c0 b0 R4=>?_)
 refine Aa<|Ae<|Ab (FV.makeFunc (vs:=[]) (us:=[vP d0,vP c0]) evs_nil (e2 rfl rfl))<|RG.defer (fst:=[]) (cap:=[vP d0,vP c0]) (vs:=[]) rfl .plain rfl evs_nil<|Aa<|Ae<|Ac rfl<|Br (fst:=[]) (cap:=[vP g0,vP j0,vP p0,vP s0,vP q0]) (vs:=[]) .plain body109 Tryz.func109 rfl rfl rfl rfl evs_nil rfl (fun x4 J2 D1=>?_)
 refine Ae<|Af rfl<|Aa<|Ae<|Ab (AG rfl (b0.memA (.tl (.tl (.tl (.tl (.tl .hd)))))))<|Ab (AH rfl ((b0.memA (.tl (.tl (.tl (.tl .hd))))) 0 _ rfl))<|Ab (AH rfl ((b0.memA (.tl (.tl (.tl .hd)))) 0 _ rfl)) ?_
 obtain ⟨s1,I3,h⟩:=bi h
 refine Bb (vI s1) body95 rfl (e3 rfl rfl rfl) (fun w9 hw9=>balance_Check_c n _ w9 (b0.hL0 hL hw9) a1 (b0.k0 h1_3 hw9) a2 (b0.k0 h2_0 hw9) a3 I3) rfl ?_
 obtain ⟨W3,G1,h⟩:=bi h
 rcases W3 with E0 | I5
 have h:=exc_e h
 try dsimp only at h
 refine Bw (fst:=[]) (cap:=[]) .plain body94 rfl (e1 rfl) (fun w9 hw9=>interest_need_c n _ w9 (b0.hL0 hL hw9) s1 G1) (fun F5 I2=>?_)
 obtain ⟨s2,U4⟩:=b0.agr I2
 refine Bq D1 Tryz.func109<|PN.callD (vs:=[]) (cap:=[vP d0,vP c0]) body148 Tryz.func148 rfl rfl rfl (fun s4 R2 Z2=>?_)
 refine Ae<|RG.recover1 .plain R2 rfl<|Af rfl<|Aa<|Ae<|Ac rfl<|Ab (FV.neqI Tryz.underlying20 rfl rfl)<|Aa<|Bf rfl<|Ae<|Ac rfl<|Ab (FV.assertT (by kernel_rfl) rfl)<|Ac rfl<|Ab (Ag rfl rfl)<|Ab (Ag rfl rfl)<|Al .plain rfl (AD [vI 0] s2) (fun G5 I1 t2 V4=>?_)
 refine AY [vI E0.fw] t2 .hd (o1 rfl) (fun R3 X0 W4=>?_)
 refine Af rfl<|Aa<|Aj<|Ae<|Ac rfl<|Ab (Bv rfl)<|Aa<|Bo rfl<|Ap<|Ae<|Af rfl<|Aa<|dt 3 tb148_6 (fun z0 j1=>?_)
 refine Ah 0 1 z0 rfl j1 (fun _=>Ai rfl) rfl<|Ah 1 3 z0 rfl j1 (fun _=>Bj 0 rfl) rfl<|RD.meet (α:=Unit) (fun ()=>[(1,vP c0),(19,vI E0.fw)]) (fun () k1=>St w k1 [.cells c0 [vI 0] 35,.cells d0 [vN] 72,.cells q0 [.func (.func 70) #[] #[]] 138,.cells p0 [vI a3] 3,.cells j0 [v2_0] 53,.cells g0 [vI a1.fh,vI a1.fc,vI a1.fe,v1_3] 58,.cells s0 [v0_0] 30,.cells v0 [vI a1.fh,vI a1.fc,vI a1.fe,v1_3] 58]∧Tr R3 [.cells I1 [vI E0.fw] 176,.cells c0 [vI 0] 35,.cells d0 [vN] 72,.cells q0 [.func (.func 70) #[] #[]] 138,.cells p0 [vI a3] 3,.cells j0 [v2_0] 53,.cells g0 [vI a1.fh,vI a1.fc,vI a1.fe,v1_3] 58,.cells s0 [v0_0] 30,.cells v0 [vI a1.fh,vI a1.fc,vI a1.fe,v1_3] 58] k1 [.cells c0 [vI 0] 35,.cells d0 [vN] 72,.cells q0 [.func (.func 70) #[] #[]] 138,.cells p0 [vI a3] 3,.cells j0 [v2_0] 53,.cells g0 [vI a1.fh,vI a1.fc,vI a1.fe,v1_3] 58,.cells s0 [v0_0] 30,.cells v0 [vI a1.fh,vI a1.fc,vI a1.fe,v1_3] 58]) 1 15 ?_ ?_
 rintro ⟨⟩ k1 ⟨P1,y4⟩
 try dsimp only
 refine By 4 31 z0 rfl rfl .plain (Az (news:=[vI E0.fw]) P1 .hd rfl rfl rfl rfl rfl rfl (o1 rfl)) (fun j5 F0 z4=>?_)
 refine AK (dk z0)<|MX.fin rfl<|RT.leaveD1 Z2 Tryz.func148 rfl .nil<|Ao (u:=.tuple #[vN,vI E0.fw]) d1 Tryz.func108 rfl (.cons (.one (by kernel_rfl) rfl ((F0.memA (.tl .hd)) 0 _ rfl)) (.cons (.one (by kernel_rfl) rfl ((F0.memA .hd) 0 _ rfl)) .nil)) rfl<|Ab (Ag rfl rfl)<|Ab (Ag rfl rfl)<|Af rfl<|Af rfl<|Aa<|Ak rfl<|Ao (u:=.tuple #[vN,vI E0.fw]) b1 Tryz.func69 rfl (.cons (.tmp rfl) (.cons (.tmp rfl) .nil)) rfl<|Ab (Ag rfl rfl)<|Ab (Ag rfl rfl)<|Af rfl<|Af rfl<|Aa<|Ak rfl ?_
 have x3:=Rep.nilAt (α:=Bool) F0 L
 refine Ao hb0 Tryz.func25 rfl (.cons (.tmp rfl) (.cons (.tmp rfl) .nil)) rfl ?_
 cases h
 exact ⟨F0.ag,fun w9 hw9=>⟨vN,rfl,F0.kd x3 hw9⟩⟩
 intro t1
 refine RD.each [2,3] (rk z0) ⟨?_,?_,trivial⟩
 refine RO.val (m' :=7) (sk z0) rfl .plain rfl (AH rfl ((X0.memA .hd) 0 _ rfl))<|By 3 15 z0 rfl rfl .plain (Az (news:=[vN]) X0 (.tl (.tl .hd)) rfl rfl rfl rfl rfl rfl (o1 rfl)) (fun Q3 K0 Z0=>?_)
 obtain ⟨Q1,u2⟩:=AJ K0 (.one (.tl .hd) (.one (.tl .hd) (.one (.tl .hd) (.one (.tl .hd) (.one (.tl .hd) (.one (.tl .hd) (.one (.tl .hd) (.one (.tl .hd) .done))))))))
 exact t1 () _ _ ⟨rfl,rfl,trivial⟩ ⟨Q1,(Tt Z0 u2)⟩
 refine RO.now (m' :=11) (sk z0) rfl rfl .plain (Az (news:=[vN]) X0 (.tl (.tl .hd)) rfl rfl rfl rfl rfl rfl (o1 rfl)) (fun Q3 K0 Z0=>?_)
 refine AE 2 15 16 z0 rfl j1 (AH rfl ((K0.memA .hd) 0 _ rfl)) rfl ?_
 obtain ⟨R1,v2⟩:=AJ K0 (.one (.tl .hd) (.one (.tl .hd) (.one (.tl .hd) (.one (.tl .hd) (.one (.tl .hd) (.one (.tl .hd) (.one (.tl .hd) (.one (.tl .hd) .done))))))))
 exact t1 () _ _ ⟨rfl,rfl,trivial⟩ ⟨R1,(Tt Z0 v2)⟩
 have h:=exc_o h
 try dsimp only at h
 refine Bb (.tuple #[]) body94 rfl (e1 rfl) (fun w9 hw9=>Bl (interest_need_c n _ w9 (b0.hL0 hL hw9) s1 G1)) rfl<|Aa<|Ae<|Ab (AH rfl ((b0.memA (.tl (.tl (.tl (.tl .hd))))) 0 _ rfl)) ?_
 have B1:=AI h2_0 b0
 have Y4:a2.length ≤ 281474976710656:=AR B1
 refine Ab (AZ (xs:=a2) Tryz.underlying53 rfl B1)<|Ab (AH rfl ((b0.memA (.tl (.tl (.tl (.tl (.tl (.tl .hd))))))) 0 _ rfl)) ?_
 obtain ⟨q1,G3,h⟩:=bi h
 refine Bb (vI q1) body13 rfl (e2 rfl rfl) (fun w9 hw9=>interest_Check_c n _ w9 (b0.hL0 hL hw9) ((a2.length:Nat):Int) a0 (b0.k0 h0_0 hw9) G3) rfl ?_
 obtain ⟨V3,F1,h⟩:=bi h
 rcases V3 with D0 | H5
 have h:=exc_e h
 try dsimp only at h
 refine Bw (fst:=[]) (cap:=[]) .plain body94 rfl (e1 rfl) (fun w9 hw9=>interest_need_c n _ w9 (b0.hL0 hL hw9) q1 F1) (fun k5 H2=>?_)
 obtain ⟨U1,B4⟩:=b0.agr H2
 refine Bq D1 Tryz.func109<|PN.callD (vs:=[]) (cap:=[vP d0,vP c0]) body148 Tryz.func148 rfl rfl rfl (fun g4 K2 W2=>?_)
 refine Ae<|RG.recover1 .plain K2 rfl<|Af rfl<|Aa<|Ae<|Ac rfl<|Ab (FV.neqI Tryz.underlying20 rfl rfl)<|Aa<|Bf rfl<|Ae<|Ac rfl<|Ab (FV.assertT (by kernel_rfl) rfl)<|Ac rfl<|Ab (Ag rfl rfl)<|Ab (Ag rfl rfl)<|Al .plain rfl (AD [vI 0] U1) (fun p5 H1 V1 C4=>?_)
 refine AY [vI D0.fw] V1 .hd (o1 rfl) (fun K3 R0 D4=>?_)
 refine Af rfl<|Aa<|Aj<|Ae<|Ac rfl<|Ab (Bv rfl)<|Aa<|Bo rfl<|Ap<|Ae<|Af rfl<|Aa<|dt 3 tb148_6 (fun y0 g1=>?_)
 refine Ah 0 1 y0 rfl g1 (fun _=>Ai rfl) rfl<|Ah 1 3 y0 rfl g1 (fun _=>Bj 0 rfl) rfl<|RD.meet (α:=Unit) (fun ()=>[(1,vP c0),(19,vI D0.fw)]) (fun () p1=>St w p1 [.cells c0 [vI 0] 35,.cells d0 [vN] 72,.cells q0 [.func (.func 70) #[] #[]] 138,.cells p0 [vI a3] 3,.cells j0 [v2_0] 53,.cells g0 [vI a1.fh,vI a1.fc,vI a1.fe,v1_3] 58,.cells s0 [v0_0] 30,.cells v0 [vI a1.fh,vI a1.fc,vI a1.fe,v1_3] 58]∧Tr K3 [.cells H1 [vI D0.fw] 176,.cells c0 [vI 0] 35,.cells d0 [vN] 72,.cells q0 [.func (.func 70) #[] #[]] 138,.cells p0 [vI a3] 3,.cells j0 [v2_0] 53,.cells g0 [vI a1.fh,vI a1.fc,vI a1.fe,v1_3] 58,.cells s0 [v0_0] 30,.cells v0 [vI a1.fh,vI a1.fc,vI a1.fe,v1_3] 58] p1 [.cells c0 [vI 0] 35,.cells d0 [vN] 72,.cells q0 [.func (.func 70) #[] #[]] 138,.cells p0 [vI a3] 3,.cells j0 [v2_0] 53,.cells g0 [vI a1.fh,vI a1.fc,vI a1.fe,v1_3] 58,.cells s0 [v0_0] 30,.cells v0 [vI a1.fh,vI a1.fc,vI a1.fe,v1_3] 58]) 1 15 ?_ ?_
 rintro ⟨⟩ p1 ⟨X1,F4⟩
 try dsimp only
 refine By 4 31 y0 rfl rfl .plain (Az (news:=[vI D0.fw]) X1 .hd rfl rfl rfl rfl rfl rfl (o1 rfl)) (fun t5 G0 G4=>?_)
 refine AK (dk y0)<|MX.fin rfl<|RT.leaveD1 W2 Tryz.func148 rfl .nil<|Ao (u:=.tuple #[vN,vI D0.fw]) d1 Tryz.func108 rfl (.cons (.one (by kernel_rfl) rfl ((G0.memA (.tl .hd)) 0 _ rfl)) (.cons (.one (by kernel_rfl) rfl ((G0.memA .hd) 0 _ rfl)) .nil)) rfl<|Ab (Ag rfl rfl)<|Ab (Ag rfl rfl)<|Af rfl<|Af rfl<|Aa<|Ak rfl<|Ao (u:=.tuple #[vN,vI D0.fw]) b1 Tryz.func69 rfl (.cons (.tmp rfl) (.cons (.tmp rfl) .nil)) rfl<|Ab (Ag rfl rfl)<|Ab (Ag rfl rfl)<|Af rfl<|Af rfl<|Aa<|Ak rfl ?_
 have y3:=Rep.nilAt (α:=Bool) G0 L
 refine Ao hb0 Tryz.func25 rfl (.cons (.tmp rfl) (.cons (.tmp rfl) .nil)) rfl ?_
 cases h
 exact ⟨G0.ag,fun w9 hw9=>⟨vN,rfl,G0.kd y3 hw9⟩⟩
 intro u1
 refine RD.each [2,3] (rk y0) ⟨?_,?_,trivial⟩
 refine RO.val (m' :=7) (sk y0) rfl .plain rfl (AH rfl ((R0.memA .hd) 0 _ rfl))<|By 3 15 y0 rfl rfl .plain (Az (news:=[vN]) R0 (.tl (.tl .hd)) rfl rfl rfl rfl rfl rfl (o1 rfl)) (fun M3 J0 Y0=>?_)
 obtain ⟨Y1,x2⟩:=AJ J0 (.one (.tl .hd) (.one (.tl .hd) (.one (.tl .hd) (.one (.tl .hd) (.one (.tl .hd) (.one (.tl .hd) (.one (.tl .hd) (.one (.tl .hd) .done))))))))
 exact u1 () _ _ ⟨rfl,rfl,trivial⟩ ⟨Y1,(Tt Y0 x2)⟩
 refine RO.now (m' :=11) (sk y0) rfl rfl .plain (Az (news:=[vN]) R0 (.tl (.tl .hd)) rfl rfl rfl rfl rfl rfl (o1 rfl)) (fun M3 J0 Y0=>?_)
 refine AE 2 15 16 y0 rfl g1 (AH rfl ((J0.memA .hd) 0 _ rfl)) rfl ?_
 obtain ⟨Z1,y2⟩:=AJ J0 (.one (.tl .hd) (.one (.tl .hd) (.one (.tl .hd) (.one (.tl .hd) (.one (.tl .hd) (.one (.tl .hd) (.one (.tl .hd) (.one (.tl .hd) .done))))))))
 exact u1 () _ _ ⟨rfl,rfl,trivial⟩ ⟨Z1,(Tt Y0 y2)⟩
 have h:=exc_o h
 try dsimp only at h
 refine Bb (.tuple #[]) body94 rfl (e1 rfl) (fun w9 hw9=>Bl (interest_need_c n _ w9 (b0.hL0 hL hw9) q1 F1)) rfl<|Aa<|Aj<|Ae<|Ab (AH rfl ((b0.memA (.tl (.tl (.tl (.tl (.tl (.tl .hd))))))) 0 _ rfl)) ?_
 have C1:=AI h0_0 b0
 have Z4:a0.length ≤ 281474976710656:=AR C1
 refine Ab (AZ (xs:=a0) Tryz.underlying30 rfl C1)<|Ac rfl<|Aa<|Ar ?_
 have U0:=b0.nilRow 4 (Rep.size Bool)
 have H4:=St.nilRowT b0 4 (Rep.size Bool)
 have M2:=AB (cs:=[]) (xs:=([]:List Bool)) U0 L (AM _ _)
 have v1:=U0.nilRow 4 (Rep.size Bool)
 have z2:=St.nilRowT U0 4 (Rep.size Bool)
 have X4:=AB (cs:=[]) (xs:=([]:List Bool)) v1 L (AM _ _)
 have c3:=AF M2 z2
 obtain ⟨d5,u3,V2⟩:=bind_in2 h
 refine Bc (α:=Nat × (List Bool) × Value × (List Value)) (fun ⟨x0,A0,t0,C0⟩=>[(0,vP g0),(1,vP j0),(2,vP p0),(4,vP q0),(5,t0),(18,v0_0),(19,vI ((a0.length:Nat):Int)),(20,vI ((x0:Nat):Int))]) (fun ⟨x0,A0,t0,C0⟩ M0=>St w M0 [.row w.heap.size 4 (Rep.size Bool) vN (([]:List Bool).length) [],.row w.heap.size 4 (Rep.size Bool) t0 A0.length C0,.cells c0 [vI 0] 35,.cells d0 [vN] 72,.cells q0 [.func (.func 70) #[] #[]] 138,.cells p0 [vI a3] 3,.cells j0 [v2_0] 53,.cells g0 [vI a1.fh,vI a1.fc,vI a1.fe,v1_3] 58,.cells s0 [v0_0] 30,.cells v0 [vI a1.fh,vI a1.fc,vI a1.fe,v1_3] 58]∧Tr P3 [.row w.heap.size 4 (Rep.size Bool) vN (([]:List Bool).length) [],.row w.heap.size 4 (Rep.size Bool) vN (([]:List Bool).length) [],.cells c0 [vI 0] 35,.cells d0 [vN] 72,.cells q0 [.func (.func 70) #[] #[]] 138,.cells p0 [vI a3] 3,.cells j0 [v2_0] 53,.cells g0 [vI a1.fh,vI a1.fc,vI a1.fe,v1_3] 58,.cells s0 [v0_0] 30,.cells v0 [vI a1.fh,vI a1.fc,vI a1.fe,v1_3] 58] M0 [.row w.heap.size 4 (Rep.size Bool) vN (([]:List Bool).length) [],.row w.heap.size 4 (Rep.size Bool) t0 A0.length C0,.cells c0 [vI 0] 35,.cells d0 [vN] 72,.cells q0 [.func (.func 70) #[] #[]] 138,.cells p0 [vI a3] 3,.cells j0 [v2_0] 53,.cells g0 [vI a1.fh,vI a1.fc,vI a1.fe,v1_3] 58,.cells s0 [v0_0] 30,.cells v0 [vI a1.fh,vI a1.fc,vI a1.fe,v1_3] 58]∧Cells M0 (bl [.row w.heap.size 4 (Rep.size Bool) vN (([]:List Bool).length) [],.row w.heap.size 4 (Rep.size Bool) t0 A0.length C0,.cells c0 [vI 0] 35,.cells d0 [vN] 72,.cells q0 [.func (.func 70) #[] #[]] 138,.cells p0 [vI a3] 3,.cells j0 [v2_0] 53,.cells g0 [vI a1.fh,vI a1.fc,vI a1.fe,v1_3] 58,.cells s0 [v0_0] 30,.cells v0 [vI a1.fh,vI a1.fc,vI a1.fe,v1_3] 58] ++ L) C0 A0) (fun ⟨x0,A0,t0,C0⟩=>(x0,A0)) (0,([]:List Bool),vN,[]) u3 ⟨rfl,rfl,rfl,rfl,rfl,rfl,rfl,rfl,trivial⟩ ⟨v1,AP _ _,c3⟩ ?_
 rintro b4 ⟨x0,A0,t0,C0⟩ M0 M1 ⟨H0,A2,z1⟩ h
 unfold interest_Kept_l1 at h
 try dsimp only at h
 refine Ae<|Ab (Bd (i:=x0) (j:=a0.length) rfl rfl)<|Aa<|Aj<|AO rfl h (fun J1 h=>?_) (fun J1 h=>?_)
 refine Ap<|Aj<|Ar<|Ae ?_
 obtain ⟨P0,E3,h⟩:=bi h
 have g3:=AI h0_0 H0
 obtain ⟨X3,j4,U2,X2,u4,z3,d3⟩:=Bk g3 E3
 obtain rfl:=op_TInterest z3
 refine Ab (Bn 3 x0 rfl U2 rfl rfl X2)<|Ab (AG rfl d3)<|Al .plain rfl (AD [.string ⟨#[]⟩,vI 0,vW 0] H0) (fun u5 c4 b2 B2=>?_)
 refine AY [.string P0.fp,vI P0.fE,vU P0.fo] b2 .hd (onesB rfl) (fun v5 u0 C2=>?_)
 refine Aa<|Am<|Ac rfl<|Ab (AH rfl ((u0.memA (.tl (.tl (.tl (.tl (.tl .hd)))))) 0 _ rfl))<|Ab (AG rfl (u0.memA (.tl (.tl (.tl (.tl (.tl (.tl (.tl (.tl .hd))))))))))<|Ab (AH rfl ((u0.memA (.tl (.tl (.tl (.tl (.tl (.tl (.tl .hd)))))))) 0 _ rfl))<|Ab (AH rfl ((u0.memA (.tl (.tl (.tl (.tl (.tl (.tl .hd))))))) 0 _ rfl)) ?_
 have j3:=AI h1_3 u0
 obtain ⟨Y3,k4,C3,_⟩:=Rep.sl j3
 have k3:=AI h2_0 u0
 obtain ⟨Z3,p4,D3,_⟩:=Rep.sl k3
 refine Ab (AW (vs:=[.agg #[vI a1.fh,vI a1.fc,vI a1.fe,v1_3],v2_0,vI a3]) (u:=.agg #[vI a1.fh,vI a1.fc,vI a1.fe,v1_3,v2_0,vI a3]) (e3 rfl rfl rfl) (fun w9=>by rw [C3,D3]; try kernel_rfl))<|Ab (AG rfl (u0.memA .hd)) ?_
 obtain ⟨B0,H3,h⟩:=bi h
 refine Bb (.bool B0) body70 rfl (e2 rfl rfl) (fun w9 hw9=>interest_view_kept_c n _ w9 (u0.hL0 hL hw9) (⟨a1,a2,a3⟩:Tview) (u0.k0 h1_3 hw9) (u0.k0 h2_0 hw9) P0 (hG0.keep (u0.ag.trans hw9)) H3) rfl<|Al .plain rfl (AV (α:=Bool) (xs:=([B0]:List Bool)) (vs:=[.bool B0]) (ds' :=[.bool B0]) rfl u0 el72 rfl (e1 rfl) (by kernel_rfl) rfl) (fun x5 d4 V0 D2=>?_)
 have P2:=AB (cs:=[.bool B0]) (xs:=(([B0]:List Bool):List Bool)) V0 L (Aq (cs:=[.bool B0]) (ds:=[]) rfl (AM _ _))
 obtain ⟨U3,F3,h⟩:=bi h
 have E1:=Tt B2 (Tt C2 D2)
 have p3:=AF z1 E1
 refine RG.doesL .plain rfl (DoesL.app (α:=Bool) (ys:=([B0]:List Bool)) F3 V0 (fun _ _=>(.tl (.tl (.tl .hd)))) el72 rfl rfl p3 (Src.row (α:=Bool) V0 .hd P2)) (fun J3 y5 ⟨K1,c2,E2,Q2⟩=>?_)
 refine Af rfl<|Aa<|Av<|Am<|Ab (Bi (i:=x0) (j:=1) rfl rfl (by omega))<|Ac rfl<|Aa ?_
 obtain ⟨d2,y1⟩:=AJ c2 (.one (.tl (.tl .hd)) (.one (.tl (.tl .hd)) (.one (.tl (.tl .hd)) (.one (.tl (.tl .hd)) (.one (.tl (.tl .hd)) (.one (.tl (.tl .hd)) (.one (.tl (.tl .hd)) (.one (.tl (.tl .hd)) (.one (.tl (.tl .hd)) (.one (.tl (.tl .hd)) .done))))))))))
 have q3:=AF Q2 y1
 have v3:=Tt E1 (Tt E2 y1)
 exact M1 (x0 + 1,U3,J3,K1) _ _ ⟨rfl,rfl,rfl,rfl,rfl,rfl,rfl,rfl,trivial⟩ ⟨d2,(Tt A2 v3),q3⟩ h
 refine AU rfl ?_
 have h:=V2 _ h
 try dsimp only at h
 refine Ae<|Ac rfl<|Af rfl<|Aa<|Ak rfl<|Ao (u:=t0) J2 Tryz.func109 rfl (.cons (.tmp rfl) .nil) rfl<|RG.now .plain (Az (news:=[t0]) H0 (.tl (.tl (.tl .hd))) rfl rfl rfl (St.c1 (α:=Bool) H0 (.tl .hd)) rfl rfl (o1 (St.o1 (α:=Bool) H0 (.tl .hd)))) (fun z5 g2 F2=>?_)
 refine AY [vI 0] g2 (.tl (.tl .hd)) (o1 rfl) (fun A5 I0 G2=>?_)
 refine Aa<|Ak rfl<|RT.callD (vs:=[]) (cap:=[vP d0,vP c0]) body148 Tryz.func148 rfl rfl rfl (fun q4 A1 Y2=>?_)
 refine Ae<|RG.recover0 .plain A1 rfl<|Af rfl<|Aa<|Ae<|Ac rfl<|Ab (FV.neqI0 Tryz.underlying20 rfl rfl)<|Aa<|Bo rfl<|Ap<|MX.fin rfl<|RT.leaveD0 A1 Y2 Tryz.func148 rfl .nil<|Ao (u:=.tuple #[t0,vI 0]) d1 Tryz.func108 rfl (.cons (.one (by kernel_rfl) rfl ((I0.memA (.tl (.tl (.tl .hd)))) 0 _ rfl)) (.cons (.one (by kernel_rfl) rfl ((I0.memA (.tl (.tl .hd))) 0 _ rfl)) .nil)) rfl<|Ab (Ag rfl rfl)<|Ab (Ag rfl rfl)<|Af rfl<|Af rfl<|Aa<|Ak rfl<|Ao (u:=.tuple #[t0,vI 0]) b1 Tryz.func69 rfl (.cons (.tmp rfl) (.cons (.tmp rfl) .nil)) rfl<|Ab (Ag rfl rfl)<|Ab (Ag rfl rfl)<|Af rfl<|Af rfl ?_
 refine Aa<|Ak rfl ?_
 have s3:=AF z1 (Tt F2 G2)
 have A3:=Bu (α:=Bool) I0 (.tl .hd) s3 hL
 have W0:=St.delS I0 (.tl .hd)
 have J4:=St.delT I0 (.tl .hd)
 have B3:=Rep.at_ (α:=Bool) (v:=t0) (xs:=A0) W0 L A3
 refine Ao hb0 Tryz.func25 rfl (.cons (.tmp rfl) (.cons (.tmp rfl) .nil)) rfl ?_
 cases h
 exact ⟨W0.ag,fun w9 hw9=>⟨t0,rfl,W0.kd B3 hw9⟩⟩
def tb28_6:List (Nat × Nat × Nat):=[(0,65536,1),(0,131072,32),(3,262144,196608),(4,524288,262144),(0,1048576,2),(0,2097152,32),(48,4194304,3145728),(64,8388608,4194304),(136,16777216,8912896)]
theorem ex_TShare {a b:TShare} (h0:a.fN.1 = b.fN.1) (h1:a.fN.2.1 = b.fN.2.1) (h2:a.fN.2.2.1 = b.fN.2.2.1) (h3:a.fN.2.2.2.1 = b.fN.2.2.2.1) (h4:a.fN.2.2.2.2.1 = b.fN.2.2.2.2.1) (h5:a.fN.2.2.2.2.2.1 = b.fN.2.2.2.2.2.1) (h6:a.fN.2.2.2.2.2.2.1 = b.fN.2.2.2.2.2.2.1) (h7:a.fN.2.2.2.2.2.2.2 = b.fN.2.2.2.2.2.2.2) (h8:a.fD.1 = b.fD.1) (h9:a.fD.2.1 = b.fD.2.1) (b0:a.fD.2.2.1 = b.fD.2.2.1) (c0:a.fD.2.2.2.1 = b.fD.2.2.2.1) (d0:a.fD.2.2.2.2.1 = b.fD.2.2.2.2.1) (g0:a.fD.2.2.2.2.2.1 = b.fD.2.2.2.2.2.1) (j0:a.fD.2.2.2.2.2.2.1 = b.fD.2.2.2.2.2.2.1) (k0:a.fD.2.2.2.2.2.2.2 = b.fD.2.2.2.2.2.2.2):a = b:=congr (congrArg TShare.mk (ex_A39 (a:=a.fN) (b:=b.fN) h0 h1 h2 h3 h4 h5 h6 h7)) (ex_A39 (a:=a.fD) (b:=b.fD) h8 h9 b0 c0 d0 g0 j0 k0)
theorem eqlD_42 (a b:TShare) (w9:World):(do eqGuard .eql 42 (.tmp 0) (.tmp 0) (.agg #[vU a.fN.1,vU a.fN.2.1,vU a.fN.2.2.1,vU a.fN.2.2.2.1,vU a.fN.2.2.2.2.1,vU a.fN.2.2.2.2.2.1,vU a.fN.2.2.2.2.2.2.1,vU a.fN.2.2.2.2.2.2.2,vU a.fD.1,vU a.fD.2.1,vU a.fD.2.2.1,vU a.fD.2.2.2.1,vU a.fD.2.2.2.2.1,vU a.fD.2.2.2.2.2.1,vU a.fD.2.2.2.2.2.2.1,vU a.fD.2.2.2.2.2.2.2]) (.agg #[vU b.fN.1,vU b.fN.2.1,vU b.fN.2.2.1,vU b.fN.2.2.2.1,vU b.fN.2.2.2.2.1,vU b.fN.2.2.2.2.2.1,vU b.fN.2.2.2.2.2.2.1,vU b.fN.2.2.2.2.2.2.2,vU b.fD.1,vU b.fD.2.1,vU b.fD.2.2.1,vU b.fD.2.2.2.1,vU b.fD.2.2.2.2.1,vU b.fD.2.2.2.2.2.1,vU b.fD.2.2.2.2.2.2.1,vU b.fD.2.2.2.2.2.2.2]); binOp .eql 42 (.agg #[vU a.fN.1,vU a.fN.2.1,vU a.fN.2.2.1,vU a.fN.2.2.2.1,vU a.fN.2.2.2.2.1,vU a.fN.2.2.2.2.2.1,vU a.fN.2.2.2.2.2.2.1,vU a.fN.2.2.2.2.2.2.2,vU a.fD.1,vU a.fD.2.1,vU a.fD.2.2.1,vU a.fD.2.2.2.1,vU a.fD.2.2.2.2.1,vU a.fD.2.2.2.2.2.1,vU a.fD.2.2.2.2.2.2.1,vU a.fD.2.2.2.2.2.2.2]) (.agg #[vU b.fN.1,vU b.fN.2.1,vU b.fN.2.2.1,vU b.fN.2.2.2.1,vU b.fN.2.2.2.2.1,vU b.fN.2.2.2.2.2.1,vU b.fN.2.2.2.2.2.2.1,vU b.fN.2.2.2.2.2.2.2,vU b.fD.1,vU b.fD.2.1,vU b.fD.2.2.1,vU b.fD.2.2.2.1,vU b.fD.2.2.2.2.1,vU b.fD.2.2.2.2.2.1,vU b.fD.2.2.2.2.2.2.1,vU b.fD.2.2.2.2.2.2.2]):Sem Value).run Tryz.prog w9 = .ok (.bool (decide (a = b))) w9:=
  eqAgg (ks:=[.int .u64,.int .u64,.int .u64,.int .u64,.int .u64,.int .u64,.int .u64,.int .u64,.int .u64,.int .u64,.int .u64,.int .u64,.int .u64,.int .u64,.int .u64,.int .u64]) (xs:=[vU a.fN.1,vU a.fN.2.1,vU a.fN.2.2.1,vU a.fN.2.2.2.1,vU a.fN.2.2.2.2.1,vU a.fN.2.2.2.2.2.1,vU a.fN.2.2.2.2.2.2.1,vU a.fN.2.2.2.2.2.2.2,vU a.fD.1,vU a.fD.2.1,vU a.fD.2.2.1,vU a.fD.2.2.2.1,vU a.fD.2.2.2.2.1,vU a.fD.2.2.2.2.2.1,vU a.fD.2.2.2.2.2.2.1,vU a.fD.2.2.2.2.2.2.2]) (ys:=[vU b.fN.1,vU b.fN.2.1,vU b.fN.2.2.1,vU b.fN.2.2.2.1,vU b.fN.2.2.2.2.1,vU b.fN.2.2.2.2.2.1,vU b.fN.2.2.2.2.2.2.1,vU b.fN.2.2.2.2.2.2.2,vU b.fD.1,vU b.fD.2.1,vU b.fD.2.2.1,vU b.fD.2.2.2.1,vU b.fD.2.2.2.2.1,vU b.fD.2.2.2.2.2.1,vU b.fD.2.2.2.2.2.2.1,vU b.fD.2.2.2.2.2.2.2]) (by kernel_rfl) (by kernel_rfl) (by kernel_rfl) rfl rfl ⟨fun h=>by
    simp only [allEq,veq,Bool.and_eq_true,beq_iff_eq,and_true] at h
    obtain ⟨h0,h1,h2,h3,h4,h5,h6,h7,h8,h9,b0,c0,d0,g0,j0,k0⟩:=h
    exact ex_TShare (UInt_inj64 h0) (UInt_inj64 h1) (UInt_inj64 h2) (UInt_inj64 h3) (UInt_inj64 h4) (UInt_inj64 h5) (UInt_inj64 h6) (UInt_inj64 h7) (UInt_inj64 h8) (UInt_inj64 h9) (UInt_inj64 b0) (UInt_inj64 c0) (UInt_inj64 d0) (UInt_inj64 g0) (UInt_inj64 j0) (UInt_inj64 k0),fun h=>by subst h; simp [allEq,veq]⟩ _ _ w9
def slices_Equal_api_Share_api_Share_l1 (_n:Nat) (a0:List TShare) (a1:List TShare) (c0:Nat → Option (Bool ⊕ Unit)):Nat → Option (Bool ⊕ Unit)
  | b0=>(if b0 < a0.length then (a0[b0]?).bind fun d0=>(a1[b0]?).bind fun g0=>(if d0 = g0 then c0 (b0 + 1) else some (.inl false)) else some (.inr ()))
def slices_Equal_api_Share_api_Share_p (n:Nat) (a0:List TShare) (a1:List TShare):Option Bool:=
  (if a0.length = a1.length then thn (loopF (slices_Equal_api_Share_api_Share_l1 n a0 a1) n 0) (fun _=>some true) else some false)
theorem slices_Equal_api_Share_api_Share_c (n:Nat) (L:List Nat) (w:World) (_hL:∀ b ∈ L,b < w.heap.size) (a0:List TShare) {v0_0:Value} (h0_0:Rep.R w L [v0_0] a0) (a1:List TShare) {v1_0:Value} (h1_0:Rep.R w L [v1_0] a1)  {r:Bool} (h:slices_Equal_api_Share_api_Share_p n a0 a1 = some r) :
    Calls Tryz.prog 28 #[v0_0,v1_0] w (Gives w fun _ u=>u = .bool r):=by
 unfold slices_Equal_api_Share_api_Share_p at h
 have hS0:=AA w
 refine AC Tryz.func28 rfl rfl rfl (fun _ cs0 hb0=>?_)
 refine Ae<|Af rfl<|Aa<|Aj<|Ae<|Ac rfl ?_
 have hl1:a0.length ≤ 281474976710656:=AR h0_0
 refine Ab (AZ (xs:=a0) Tryz.underlying60 rfl h0_0)<|Ac rfl ?_
 have hl2:a1.length ≤ 281474976710656:=AR h1_0
 refine Ab (AZ (xs:=a1) Tryz.underlying60 rfl h1_0)<|Ab (FV.neqN (i:=a0.length) (j:=a1.length) rfl rfl)<|Aa<|MX.ifn rfl h (fun c3 h=>?_) (fun c3 h=>?_)
 refine Ap<|Aj<|Ae<|Ac rfl<|Ab (AZ (xs:=a0) Tryz.underlying60 rfl h0_0)<|Ac rfl<|Aa<|Ar ?_
 obtain ⟨W0,F0,k0⟩:=thn_in h
 refine Bc (α:=Nat) (fun b0=>[(0,v0_0),(1,v1_0),(12,vI ((a0.length:Nat):Int)),(13,vI ((b0:Nat):Int))]) (fun b0 j0=>St w j0 []∧Tr w [] j0 []) (fun b0=>b0) 0 F0 ⟨rfl,rfl,rfl,rfl,trivial⟩ ⟨hS0,AP _ _⟩ ?_
 rintro P0 b0 j0 u0 ⟨g0,v0⟩ h
 unfold slices_Equal_api_Share_api_Share_l1 at h
 try dsimp only at h
 refine Ae<|Ab (Bd (i:=b0) (j:=a0.length) rfl rfl)<|Aa<|Aj<|AO rfl h (fun s0 h=>?_) (fun s0 h=>?_)
 refine Ap<|Aj<|Ar<|Ae<|Ac rfl<|Af rfl<|Aa<|Aj<|dt 9 tb28_6 (fun c0 d0=>?_)
 refine Ah 0 1 c0 rfl d0 (fun _=>Ai rfl) rfl<|Ah 1 3 c0 rfl d0 (fun _=>Ai rfl) rfl ?_
 obtain ⟨p0,I0,h⟩:=bi h
 have C0:=AI h0_0 g0
 obtain ⟨K0,Q0,x0,z0,U0,G0,B0⟩:=Bk C0 I0
 obtain rfl:=op_TShare G0
 refine Ah 2 7 c0 rfl d0 (fun _=>Bn 16 b0 rfl x0 rfl rfl z0) rfl<|AE 3 15 256 c0 rfl d0 (AG rfl B0) rfl<|Ah 4 31 c0 rfl d0 (fun _=>Ai rfl) rfl<|Ah 5 63 c0 rfl d0 (fun _=>Ai rfl) rfl ?_
 obtain ⟨q0,J0,h⟩:=bi h
 have E0:=AI h1_0 g0
 obtain ⟨M0,R0,y0,A0,V0,H0,D0⟩:=Bk E0 J0
 obtain rfl:=op_TShare H0
 refine Ah 6 127 c0 rfl d0 (fun _=>Bn 16 b0 rfl y0 rfl rfl A0) rfl<|AE 7 255 256 c0 rfl d0 (AG rfl D0) rfl<|Ah 8 511 c0 rfl d0 (fun _=>FV.neqV (xs:=((cs_TShare p0)).toArray) (ys:=((cs_TShare q0)).toArray) rfl rfl (by kernel_rfl) (eqlD_42 p0 q0)) rfl<|AK (dk c0)<|MX.ifn rfl h (fun t0 h=>?_) (fun t0 h=>?_)
 refine Ap<|Av<|Am<|Ab (Bi (i:=b0) (j:=1) rfl rfl (by omega))<|Ac rfl<|Aa ?_
 exact u0 (b0 + 1) _ _ ⟨rfl,rfl,rfl,rfl,trivial⟩ ⟨g0,v0⟩ h
 refine Ae<|Af rfl<|Aa ?_
 have h:=thn_inl h k0
 refine Ak rfl<|AQ hb0 Tryz.func28 rfl rfl ?_
 cases h
 exact g0.gv
 refine AU rfl ?_
 have h:=thn_inr h k0
 try dsimp only at h
 refine Ae<|Af rfl<|Aa<|Ak rfl<|AQ hb0 Tryz.func28 rfl rfl ?_
 cases h
 exact g0.gv
 refine Ae<|Af rfl<|Aa<|Ak rfl<|AQ hb0 Tryz.func28 rfl rfl ?_
 cases h
 exact hS0.gv
def tb35_6:List (Nat × Nat × Nat):=[(0,65536,1),(0,131072,32),(3,262144,196608),(4,524288,262144),(0,1048576,2),(0,2097152,32),(48,4194304,3145728),(64,8388608,4194304),(136,16777216,8912896)]
def slices_Equal_uint64_uint64_l1 (_n:Nat) (a0:List UInt64) (a1:List UInt64) (b0:Nat → Option (Bool ⊕ Unit)):Nat → Option (Bool ⊕ Unit)
  | i32=>(if i32 < a0.length then (a0[i32]?).bind fun c0=>(a1[i32]?).bind fun d0=>(if c0 = d0 then b0 (i32 + 1) else some (.inl false)) else some (.inr ()))
def slices_Equal_uint64_uint64_p (n:Nat) (a0:List UInt64) (a1:List UInt64):Option Bool:=
  (if a0.length = a1.length then thn (loopF (slices_Equal_uint64_uint64_l1 n a0 a1) n 0) (fun _=>some true) else some false)
theorem slices_Equal_uint64_uint64_c (n:Nat) (L:List Nat) (w:World) (_hL:∀ b ∈ L,b < w.heap.size) (a0:List UInt64) {v0_0:Value} (h0_0:Rep.R w L [v0_0] a0) (a1:List UInt64) {v1_0:Value} (h1_0:Rep.R w L [v1_0] a1)  {r:Bool} (h:slices_Equal_uint64_uint64_p n a0 a1 = some r) :
    Calls Tryz.prog 35 #[v0_0,v1_0] w (Gives w fun _ u=>u = .bool r):=by
 unfold slices_Equal_uint64_uint64_p at h
 have hS0:=AA w
 refine AC Tryz.func35 rfl rfl rfl (fun _ cs0 hb0=>?_)
 refine Ae<|Af rfl<|Aa<|Aj<|Ae<|Ac rfl ?_
 have hl1:a0.length ≤ 281474976710656:=AR h0_0
 refine Ab (AZ (xs:=a0) Tryz.underlying75 rfl h0_0)<|Ac rfl ?_
 have hl2:a1.length ≤ 281474976710656:=AR h1_0
 refine Ab (AZ (xs:=a1) Tryz.underlying75 rfl h1_0)<|Ab (FV.neqN (i:=a0.length) (j:=a1.length) rfl rfl)<|Aa<|MX.ifn rfl h (fun c3 h=>?_) (fun c3 h=>?_)
 refine Ap<|Aj<|Ae<|Ac rfl<|Ab (AZ (xs:=a0) Tryz.underlying75 rfl h0_0)<|Ac rfl<|Aa<|Ar ?_
 obtain ⟨X0,I0,j0⟩:=thn_in h
 refine Bc (α:=Nat) (fun i32=>[(0,v0_0),(1,v1_0),(12,vI ((a0.length:Nat):Int)),(13,vI ((i32:Nat):Int))]) (fun i32 g0=>St w g0 []∧Tr w [] g0 []) (fun i32=>i32) 0 I0 ⟨rfl,rfl,rfl,rfl,trivial⟩ ⟨hS0,AP _ _⟩ ?_
 rintro U0 i32 g0 v0 ⟨d0,x0⟩ h
 unfold slices_Equal_uint64_uint64_l1 at h
 try dsimp only at h
 refine Ae<|Ab (Bd (i:=i32) (j:=a0.length) rfl rfl)<|Aa<|Aj<|AO rfl h (fun q0 h=>?_) (fun q0 h=>?_)
 refine Ap<|Aj<|Ar<|Ae<|Ac rfl<|Af rfl<|Aa<|Aj<|dt 9 tb35_6 (fun b0 c0=>?_)
 refine Ah 0 1 b0 rfl c0 (fun _=>Ai rfl) rfl<|Ah 1 3 b0 rfl c0 (fun _=>Ai rfl) rfl ?_
 obtain ⟨k0,M0,h⟩:=bi h
 have F0:=AI h0_0 d0
 obtain ⟨Q0,V0,y0,C0,t0,J0,E0⟩:=Bk F0 M0
 have z0:t0 = [vU k0]:=J0; subst z0
 refine Ah 2 7 b0 rfl c0 (fun _=>Bn 1 i32 rfl y0 rfl rfl C0) rfl<|AE 3 15 256 b0 rfl c0 (AH rfl (E0 0 _ rfl)) rfl<|Ah 4 31 b0 rfl c0 (fun _=>Ai rfl) rfl<|Ah 5 63 b0 rfl c0 (fun _=>Ai rfl) rfl ?_
 obtain ⟨p0,P0,h⟩:=bi h
 have H0:=AI h1_0 d0
 obtain ⟨R0,W0,A0,D0,u0,K0,G0⟩:=Bk H0 P0
 have B0:u0 = [vU p0]:=K0; subst B0
 refine Ah 6 127 b0 rfl c0 (fun _=>Bn 1 i32 rfl A0 rfl rfl D0) rfl<|AE 7 255 256 b0 rfl c0 (AH rfl (G0 0 _ rfl)) rfl<|Ah 8 511 b0 rfl c0 (fun _=>FV.neqU (a:=k0) (b:=p0) rfl rfl) rfl<|AK (dk b0)<|MX.ifn rfl h (fun s0 h=>?_) (fun s0 h=>?_)
 refine Ap<|Av<|Am<|Ab (Bi (i:=i32) (j:=1) rfl rfl (by omega))<|Ac rfl<|Aa ?_
 exact v0 (i32 + 1) _ _ ⟨rfl,rfl,rfl,rfl,trivial⟩ ⟨d0,x0⟩ h
 refine Ae<|Af rfl<|Aa ?_
 have h:=thn_inl h j0
 refine Ak rfl<|AQ hb0 Tryz.func35 rfl rfl ?_
 cases h
 exact d0.gv
 refine AU rfl ?_
 have h:=thn_inr h j0
 try dsimp only at h
 refine Ae<|Af rfl<|Aa<|Ak rfl<|AQ hb0 Tryz.func35 rfl rfl ?_
 cases h
 exact d0.gv
 refine Ae<|Af rfl<|Aa<|Ak rfl<|AQ hb0 Tryz.func35 rfl rfl ?_
 cases h
 exact hS0.gv
theorem el56:ElT Tryz.prog 56 96 (Rep.size TUnit) 104 (.agg #[.string ⟨#[]⟩,vI 0,vN,vN,vN,.bool false]) [.string ⟨#[]⟩,vI 0,vN,vN,vN,.bool false]:=⟨Tryz.underlying56,by kernel_rfl,rfl,rfl,rfl,rfl⟩
theorem el30:ElT Tryz.prog 30 65 (Rep.size TInterest) 32 (.agg #[.string ⟨#[]⟩,vI 0,vW 0]) [.string ⟨#[]⟩,vI 0,vW 0]:=⟨Tryz.underlying30,by kernel_rfl,rfl,rfl,rfl,rfl⟩
def wardmotelaw27_example_p (_n:Nat):Option (TRoll × (List TInterest)):=
  (app ([]:List TUnit) ([(⟨⟨#[97]⟩,(10:Int),([]:List Int),([]:List Int),([]:List Int),false⟩:TUnit)]:List TUnit)).bind fun c0=>(app c0 ([(⟨⟨#[98]⟩,(20:Int),([]:List Int),([]:List Int),([]:List Int),false⟩:TUnit)]:List TUnit)).bind fun d0=>(app d0 ([(⟨⟨#[99]⟩,(30:Int),([]:List Int),([]:List Int),([]:List Int),false⟩:TUnit)]:List TUnit)).bind fun g0=>(app g0 ([(⟨⟨#[100]⟩,(40:Int),([]:List Int),([]:List Int),([]:List Int),false⟩:TUnit)]:List TUnit)).bind fun b0=>some ((⟨(0:Int),(0:Int),(0:Int),b0⟩:TRoll),([(⟨⟨#[88]⟩,(3:Int),(7:UInt64)⟩:TInterest),(⟨⟨#[89]⟩,(1:Int),(12:UInt64)⟩:TInterest)]:List TInterest))
theorem wardmotelaw27_example_c (n:Nat) (L:List Nat) (w:World) (_hL:∀ b ∈ L,b < w.heap.size)  {r:TRoll × (List TInterest)} (h:wardmotelaw27_example_p n = some r) :
    Calls Tryz.prog 38 #[] w (Gives w fun w' u=>∃ (v0_3 v1_0:Value) (cs0_3 cs1_0:List Value),u = .tuple #[.agg #[vI r.1.fh,vI r.1.fc,vI r.1.fe,v0_3],v1_0]∧St w w' (rowsOf w.heap.size [(96,Rep.size TUnit,v0_3,r.1.fo.length,cs0_3),(65,Rep.size TInterest,v1_0,r.2.length,cs1_0)])∧Cells w' (bl (rowsOf w.heap.size [(96,Rep.size TUnit,v0_3,r.1.fo.length,cs0_3),(65,Rep.size TInterest,v1_0,r.2.length,cs1_0)]) ++ L) cs0_3 (r.1.fo:List TUnit)∧Cells w' (bl (rowsOf w.heap.size [(96,Rep.size TUnit,v0_3,r.1.fo.length,cs0_3),(65,Rep.size TInterest,v1_0,r.2.length,cs1_0)]) ++ L) cs1_0 (r.2:List TInterest)):=by
 unfold wardmotelaw27_example_p at h
 have hS0:=AA w
 refine AC Tryz.func38 rfl rfl rfl (fun _ cs0 hb0=>?_)
 refine Ae<|Al .plain rfl (AD [vI 0,vI 0,vI 0,vN] hS0) (fun G2 b2 U0 u2=>?_)
 refine Af rfl<|Aa<|Ae<|Al .plain rfl (AD [vI 0,vI 0,vI 0,vN] U0) (fun K2 c2 q0 v2=>?_)
 refine Aa<|Aj<|Ae<|Ab (AW (vs:=[.string ⟨#[97]⟩,.string ⟨#[98]⟩,.string ⟨#[99]⟩,.string ⟨#[100]⟩]) (u:=.agg #[.string ⟨#[97]⟩,.string ⟨#[98]⟩,.string ⟨#[99]⟩,.string ⟨#[100]⟩]) (e4 rfl rfl rfl rfl) (fun w9=>by kernel_rfl))<|Ac rfl<|Aa<|Ar<|MX.loop1<|Ae<|Ab (Bd (i:=0) (j:=4) rfl rfl)<|Aa<|Aj<|Bf rfl<|Ap<|Aj<|Ar<|Ae<|Ac rfl<|Ab (FV.idx1 (cs:=[.string ⟨#[97]⟩,.string ⟨#[98]⟩,.string ⟨#[99]⟩,.string ⟨#[100]⟩]) (k:=0) (m:=1) (len:=4) (by kernel_rfl) (by kernel_rfl) rfl rfl rfl (by omega) rfl)<|Af rfl<|Af rfl<|Aa<|Am<|Be 3 rfl ?_
 refine Ba rfl ((q0.memA .hd) 3 _ rfl)<|Ac rfl<|Ac rfl<|Ab (FV.add (i:=0) (j:=1) (r:=1) rfl rfl (by decide))<|Ab (FV.mul (i:=10) (j:=1) (r:=10) rfl rfl (by decide))<|Ab (AW (vs:=[.string ⟨#[97]⟩,vI 10]) (u:=.agg #[.string ⟨#[97]⟩,vI 10,vN,vN,vN,.bool false]) (e2 rfl rfl) (fun w9=>by kernel_rfl)) ?_
 have B2:=Rep.nilAt (α:=Int) q0 L
 refine Al .plain rfl (AV (α:=TUnit) (xs:=([(⟨⟨#[97]⟩,(10:Int),([]:List Int),([]:List Int),([]:List Int),false⟩:TUnit)]:List TUnit)) (vs:=[.agg #[.string ⟨#[97]⟩,vI 10,vN,vN,vN,.bool false]]) (ds' :=[.string ⟨#[97]⟩,vI 10,vN,vN,vN,.bool false]) rfl q0 el56 rfl (e1 rfl) (by kernel_rfl) rfl) (fun M2 d2 c0 x2=>?_)
 have A0:=Rep.nilAt (α:=Int) c0 L
 have z1:=AB (cs:=[.string ⟨#[97]⟩,vI 10,vN,vN,vN,.bool false]) (xs:=(([(⟨⟨#[97]⟩,(10:Int),([]:List Int),([]:List Int),([]:List Int),false⟩:TUnit)]:List TUnit):List TUnit)) c0 L (Aq (cs:=[.string ⟨#[97]⟩,vI 10,vN,vN,vN,.bool false]) (ds:=[]) (mk_TUnit ⟨#[97]⟩ (10:Int) ([]:List Int) A0 ([]:List Int) A0 ([]:List Int) A0 false) (AM _ _))
 have s0:=c0.nilRow 96 (Rep.size TUnit)
 have d1:=St.nilRowT c0 96 (Rep.size TUnit)
 have A1:=AB (cs:=[]) (xs:=([]:List TUnit)) s0 L (AM _ _)
 obtain ⟨c3,X1,h⟩:=bi h
 have K1:=AF z1 d1
 refine RG.doesL .plain rfl (DoesL.app (α:=TUnit) (ys:=([(⟨⟨#[97]⟩,(10:Int),([]:List Int),([]:List Int),([]:List Int),false⟩:TUnit)]:List TUnit)) X1 s0 (fun _ _=>.hd) el56 rfl rfl A1 (Src.row (α:=TUnit) s0 (.tl .hd) K1)) (fun E0 P2 ⟨p2,t0,y2,B1⟩=>?_)
 refine Be 3 rfl<|RG.now .plain (Bz (j:=3) (old:=[vI 0,vI 0,vI 0,vN]) (news:=[E0]) (new' :=[vI 0,vI 0,vI 0,E0]) t0 (.tl (.tl .hd)) rfl rfl rfl (St.c1 (α:=TUnit) t0 .hd) rfl rfl (o1 (St.o1 (α:=TUnit) t0 .hd)) rfl) (fun Q2 V0 g1=>?_)
 refine Aa<|Av<|Am<|Ab (FV.add (i:=0) (j:=1) (r:=1) rfl rfl (by decide))<|Ac rfl<|Aa<|MX.again1 ?_
 obtain ⟨u0,j1⟩:=AJ V0 (.one .hd (.one (.tl .hd) (.one (.tl .hd) .done)))
 refine Ae<|Ab (Bd (i:=1) (j:=4) rfl rfl)<|Aa<|Aj<|Bf rfl<|Ap<|Aj<|Ar<|Ae<|Ac rfl<|Ab (FV.idx1 (cs:=[.string ⟨#[97]⟩,.string ⟨#[98]⟩,.string ⟨#[99]⟩,.string ⟨#[100]⟩]) (k:=1) (m:=1) (len:=4) (by kernel_rfl) (by kernel_rfl) rfl rfl rfl (by omega) rfl)<|Af rfl<|Af rfl<|Aa<|Am<|Be 3 rfl<|Ba rfl ((u0.memA (.tl .hd)) 3 _ rfl)<|Ac rfl<|Ac rfl<|Ab (FV.add (i:=1) (j:=1) (r:=2) rfl rfl (by decide))<|Ab (FV.mul (i:=10) (j:=2) (r:=20) rfl rfl (by decide))<|Ab (AW (vs:=[.string ⟨#[98]⟩,vI 20]) (u:=.agg #[.string ⟨#[98]⟩,vI 20,vN,vN,vN,.bool false]) (e2 rfl rfl) (fun w9=>by kernel_rfl)) ?_
 have C2:=Rep.nilAt (α:=Int) u0 L
 refine Al .plain rfl (AV (α:=TUnit) (xs:=([(⟨⟨#[98]⟩,(20:Int),([]:List Int),([]:List Int),([]:List Int),false⟩:TUnit)]:List TUnit)) (vs:=[.agg #[.string ⟨#[98]⟩,vI 20,vN,vN,vN,.bool false]]) (ds' :=[.string ⟨#[98]⟩,vI 20,vN,vN,vN,.bool false]) rfl u0 el56 rfl (e1 rfl) (by kernel_rfl) rfl) (fun R2 g2 d0 k1=>?_)
 have B0:=Rep.nilAt (α:=Int) d0 L
 have C1:=AB (cs:=[.string ⟨#[98]⟩,vI 20,vN,vN,vN,.bool false]) (xs:=(([(⟨⟨#[98]⟩,(20:Int),([]:List Int),([]:List Int),([]:List Int),false⟩:TUnit)]:List TUnit):List TUnit)) d0 L (Aq (cs:=[.string ⟨#[98]⟩,vI 20,vN,vN,vN,.bool false]) (ds:=[]) (mk_TUnit ⟨#[98]⟩ (20:Int) ([]:List Int) B0 ([]:List Int) B0 ([]:List Int) B0 false) (AM _ _))
 obtain ⟨d3,Y1,h⟩:=bi h
 have U1:=Tt g1 (Tt j1 k1)
 have M1:=AF B1 U1
 refine RG.doesL .plain rfl (DoesL.app (α:=TUnit) (ys:=([(⟨⟨#[98]⟩,(20:Int),([]:List Int),([]:List Int),([]:List Int),false⟩:TUnit)]:List TUnit)) Y1 d0 (fun _ _=>(.tl .hd)) el56 rfl rfl M1 (Src.row (α:=TUnit) d0 .hd C1)) (fun F0 U2 ⟨q2,v0,z2,D1⟩=>?_)
 refine Be 3 rfl<|RG.now .plain (Bz (j:=3) (old:=[vI 0,vI 0,vI 0,E0]) (news:=[F0]) (new' :=[vI 0,vI 0,vI 0,F0]) v0 (.tl (.tl .hd)) rfl rfl rfl (St.c1 (α:=TUnit) v0 (.tl .hd)) rfl rfl (o1 (St.o1 (α:=TUnit) v0 (.tl .hd))) rfl) (fun V2 W0 p1=>?_)
 refine Aa<|Av<|Am<|Ab (FV.add (i:=1) (j:=1) (r:=2) rfl rfl (by decide))<|Ac rfl<|Aa<|MX.again1 ?_
 obtain ⟨x0,q1⟩:=AJ W0 (.one (.tl .hd) (.one (.tl .hd) (.one (.tl .hd) .done)))
 refine Ae<|Ab (Bd (i:=2) (j:=4) rfl rfl)<|Aa<|Aj<|Bf rfl<|Ap<|Aj<|Ar<|Ae<|Ac rfl<|Ab (FV.idx1 (cs:=[.string ⟨#[97]⟩,.string ⟨#[98]⟩,.string ⟨#[99]⟩,.string ⟨#[100]⟩]) (k:=2) (m:=1) (len:=4) (by kernel_rfl) (by kernel_rfl) rfl rfl rfl (by omega) rfl)<|Af rfl<|Af rfl<|Aa<|Am<|Be 3 rfl<|Ba rfl ((x0.memA (.tl .hd)) 3 _ rfl)<|Ac rfl<|Ac rfl<|Ab (FV.add (i:=2) (j:=1) (r:=3) rfl rfl (by decide))<|Ab (FV.mul (i:=10) (j:=3) (r:=30) rfl rfl (by decide))<|Ab (AW (vs:=[.string ⟨#[99]⟩,vI 30]) (u:=.agg #[.string ⟨#[99]⟩,vI 30,vN,vN,vN,.bool false]) (e2 rfl rfl) (fun w9=>by kernel_rfl)) ?_
 have D2:=Rep.nilAt (α:=Int) x0 L
 refine Al .plain rfl (AV (α:=TUnit) (xs:=([(⟨⟨#[99]⟩,(30:Int),([]:List Int),([]:List Int),([]:List Int),false⟩:TUnit)]:List TUnit)) (vs:=[.agg #[.string ⟨#[99]⟩,vI 30,vN,vN,vN,.bool false]]) (ds' :=[.string ⟨#[99]⟩,vI 30,vN,vN,vN,.bool false]) rfl x0 el56 rfl (e1 rfl) (by kernel_rfl) rfl) (fun W2 j2 g0 s1=>?_)
 have C0:=Rep.nilAt (α:=Int) g0 L
 have E1:=AB (cs:=[.string ⟨#[99]⟩,vI 30,vN,vN,vN,.bool false]) (xs:=(([(⟨⟨#[99]⟩,(30:Int),([]:List Int),([]:List Int),([]:List Int),false⟩:TUnit)]:List TUnit):List TUnit)) g0 L (Aq (cs:=[.string ⟨#[99]⟩,vI 30,vN,vN,vN,.bool false]) (ds:=[]) (mk_TUnit ⟨#[99]⟩ (30:Int) ([]:List Int) C0 ([]:List Int) C0 ([]:List Int) C0 false) (AM _ _))
 obtain ⟨g3,Z1,h⟩:=bi h
 have V1:=Tt p1 (Tt q1 s1)
 have P1:=AF D1 V1
 refine RG.doesL .plain rfl (DoesL.app (α:=TUnit) (ys:=([(⟨⟨#[99]⟩,(30:Int),([]:List Int),([]:List Int),([]:List Int),false⟩:TUnit)]:List TUnit)) Z1 g0 (fun _ _=>(.tl .hd)) el56 rfl rfl P1 (Src.row (α:=TUnit) g0 .hd E1)) (fun G0 X2 ⟨s2,y0,A2,F1⟩=>?_)
 refine Be 3 rfl<|RG.now .plain (Bz (j:=3) (old:=[vI 0,vI 0,vI 0,F0]) (news:=[G0]) (new' :=[vI 0,vI 0,vI 0,G0]) y0 (.tl (.tl .hd)) rfl rfl rfl (St.c1 (α:=TUnit) y0 (.tl .hd)) rfl rfl (o1 (St.o1 (α:=TUnit) y0 (.tl .hd))) rfl) (fun Y2 X0 t1=>?_)
 refine Aa<|Av<|Am<|Ab (FV.add (i:=2) (j:=1) (r:=3) rfl rfl (by decide))<|Ac rfl<|Aa<|MX.again1 ?_
 obtain ⟨z0,u1⟩:=AJ X0 (.one (.tl .hd) (.one (.tl .hd) (.one (.tl .hd) .done)))
 refine Ae<|Ab (Bd (i:=3) (j:=4) rfl rfl)<|Aa<|Aj<|Bf rfl<|Ap<|Aj<|Ar<|Ae<|Ac rfl<|Ab (FV.idx1 (cs:=[.string ⟨#[97]⟩,.string ⟨#[98]⟩,.string ⟨#[99]⟩,.string ⟨#[100]⟩]) (k:=3) (m:=1) (len:=4) (by kernel_rfl) (by kernel_rfl) rfl rfl rfl (by omega) rfl)<|Af rfl<|Af rfl<|Aa<|Am<|Be 3 rfl<|Ba rfl ((z0.memA (.tl .hd)) 3 _ rfl)<|Ac rfl<|Ac rfl<|Ab (FV.add (i:=3) (j:=1) (r:=4) rfl rfl (by decide))<|Ab (FV.mul (i:=10) (j:=4) (r:=40) rfl rfl (by decide))<|Ab (AW (vs:=[.string ⟨#[100]⟩,vI 40]) (u:=.agg #[.string ⟨#[100]⟩,vI 40,vN,vN,vN,.bool false]) (e2 rfl rfl) (fun w9=>by kernel_rfl)) ?_
 have E2:=Rep.nilAt (α:=Int) z0 L
 refine Al .plain rfl (AV (α:=TUnit) (xs:=([(⟨⟨#[100]⟩,(40:Int),([]:List Int),([]:List Int),([]:List Int),false⟩:TUnit)]:List TUnit)) (vs:=[.agg #[.string ⟨#[100]⟩,vI 40,vN,vN,vN,.bool false]]) (ds' :=[.string ⟨#[100]⟩,vI 40,vN,vN,vN,.bool false]) rfl z0 el56 rfl (e1 rfl) (by kernel_rfl) rfl) (fun Z2 k2 j0 v1=>?_)
 have D0:=Rep.nilAt (α:=Int) j0 L
 have G1:=AB (cs:=[.string ⟨#[100]⟩,vI 40,vN,vN,vN,.bool false]) (xs:=(([(⟨⟨#[100]⟩,(40:Int),([]:List Int),([]:List Int),([]:List Int),false⟩:TUnit)]:List TUnit):List TUnit)) j0 L (Aq (cs:=[.string ⟨#[100]⟩,vI 40,vN,vN,vN,.bool false]) (ds:=[]) (mk_TUnit ⟨#[100]⟩ (40:Int) ([]:List Int) D0 ([]:List Int) D0 ([]:List Int) D0 false) (AM _ _))
 obtain ⟨b3,W1,h⟩:=bi h
 have Q1:=Tt t1 (Tt u1 v1)
 have H1:=AF F1 Q1
 refine RG.doesL .plain rfl (DoesL.app (α:=TUnit) (ys:=([(⟨⟨#[100]⟩,(40:Int),([]:List Int),([]:List Int),([]:List Int),false⟩:TUnit)]:List TUnit)) W1 j0 (fun _ _=>(.tl .hd)) el56 rfl rfl H1 (Src.row (α:=TUnit) j0 .hd G1)) (fun b0 F2 ⟨Q0,k0,t2,x1⟩=>?_)
 refine Be 3 rfl<|RG.now .plain (Bz (j:=3) (old:=[vI 0,vI 0,vI 0,G0]) (news:=[b0]) (new' :=[vI 0,vI 0,vI 0,b0]) k0 (.tl (.tl .hd)) rfl rfl rfl (St.c1 (α:=TUnit) k0 (.tl .hd)) rfl rfl (o1 (St.o1 (α:=TUnit) k0 (.tl .hd))) rfl) (fun H2 R0 Y0=>?_)
 refine Aa<|Av<|Am<|Ab (FV.add (i:=3) (j:=1) (r:=4) rfl rfl (by decide))<|Ac rfl<|Aa<|MX.again1 ?_
 obtain ⟨I0,Z0⟩:=AJ R0 (.one (.tl .hd) (.one (.tl .hd) (.one (.tl .hd) .done)))
 refine Ae<|Ab (Bd (i:=4) (j:=4) rfl rfl)<|Aa<|Aj<|Bo rfl<|AU rfl<|Ae<|Ab (AG rfl (I0.memA (.tl .hd)))<|Ab (AW (vs:=[.string ⟨#[88]⟩,vI 3,vW 7]) (u:=.agg #[.string ⟨#[88]⟩,vI 3,vW 7]) (e3 rfl rfl rfl) (fun w9=>by kernel_rfl))<|Ab (AW (vs:=[.string ⟨#[89]⟩,vI 1,vW 12]) (u:=.agg #[.string ⟨#[89]⟩,vI 1,vW 12]) (e3 rfl rfl rfl) (fun w9=>by kernel_rfl))<|Al .plain rfl (AV (α:=TInterest) (xs:=([(⟨⟨#[88]⟩,(3:Int),(7:UInt64)⟩:TInterest),(⟨⟨#[89]⟩,(1:Int),(12:UInt64)⟩:TInterest)]:List TInterest)) (vs:=[.agg #[.string ⟨#[88]⟩,vI 3,vW 7],.agg #[.string ⟨#[89]⟩,vI 1,vW 12]]) (ds' :=[.string ⟨#[88]⟩,vI 3,vW 7,.string ⟨#[89]⟩,vI 1,vW 12]) rfl I0 el30 rfl (e2 rfl rfl) (by kernel_rfl) rfl) (fun I2 H0 p0 b1=>?_)
 have y1:=AB (cs:=[.string ⟨#[88]⟩,vI 3,vW 7,.string ⟨#[89]⟩,vI 1,vW 12]) (xs:=(([(⟨⟨#[88]⟩,(3:Int),(7:UInt64)⟩:TInterest),(⟨⟨#[89]⟩,(1:Int),(12:UInt64)⟩:TInterest)]:List TInterest):List TInterest)) p0 L (Aq (cs:=[.string ⟨#[88]⟩,vI 3,vW 7]) (ds:=[.string ⟨#[89]⟩,vI 1,vW 12]) (mk_TInterest ⟨#[88]⟩ (3:Int) (7:UInt64)) (Aq (cs:=[.string ⟨#[89]⟩,vI 1,vW 12]) (ds:=[]) (mk_TInterest ⟨#[89]⟩ (1:Int) (12:UInt64)) (AM _ _)))
 refine AY [vI 0,vI 0,vI 0,b0] p0 (.tl (.tl (.tl .hd))) (o4 rfl rfl rfl (St.o1 (α:=TUnit) p0 (.tl .hd))) (fun J2 J0 M0=>?_)
 refine Af rfl<|Aa<|Ak rfl<|Ao (u:=.tuple #[.agg #[vI 0,vI 0,vI 0,b0],(vS H0 2)]) hb0 Tryz.func38 rfl (.cons (.many (cs:=[vI 0,vI 0,vI 0,b0]) (by kernel_rfl) rfl (J0.memA (.tl (.tl (.tl .hd))))) (.cons (.tmp rfl) .nil)) rfl ?_
 obtain ⟨K0,P0⟩:=AJ J0 (.one (.tl .hd) (.one .hd .done))
 cases h
 have R1:=Tt Y0 (Tt Z0 (Tt b1 (Tt M0 P0)))
 have I1:=AF x1 R1
 have J1:=AF y1 (Tt M0 P0)
 exact ⟨K0.ag,fun w9 hw9=>⟨b0,(vS H0 2),Q0,[.string ⟨#[88]⟩,vI 3,vW 7,.string ⟨#[89]⟩,vI 1,vW 12],rfl,K0.agree hw9,Cells.keep0 I1 hw9,Cells.keep0 J1 hw9⟩⟩
def tb33_6:List (Nat × Nat × Nat):=[(0,65536,1),(0,131072,32),(3,262144,196608),(4,524288,262144),(0,1048576,2),(0,2097152,32),(48,4194304,3145728),(64,8388608,4194304),(136,16777216,8912896)]
def slices_Equal_bool_bool_l1 (_n:Nat) (a0:List Bool) (a1:List Bool) (b0:Nat → Option (Bool ⊕ Unit)):Nat → Option (Bool ⊕ Unit)
  | i32=>(if i32 < a0.length then (a0[i32]?).bind fun c0=>(a1[i32]?).bind fun d0=>(if (c0 == d0) = true then b0 (i32 + 1) else some (.inl false)) else some (.inr ()))
def slices_Equal_bool_bool_p (n:Nat) (a0:List Bool) (a1:List Bool):Option Bool:=
  (if a0.length = a1.length then thn (loopF (slices_Equal_bool_bool_l1 n a0 a1) n 0) (fun _=>some true) else some false)
theorem slices_Equal_bool_bool_c (n:Nat) (L:List Nat) (w:World) (_hL:∀ b ∈ L,b < w.heap.size) (a0:List Bool) {v0_0:Value} (h0_0:Rep.R w L [v0_0] a0) (a1:List Bool) {v1_0:Value} (h1_0:Rep.R w L [v1_0] a1)  {r:Bool} (h:slices_Equal_bool_bool_p n a0 a1 = some r) :
    Calls Tryz.prog 33 #[v0_0,v1_0] w (Gives w fun _ u=>u = .bool r):=by
 unfold slices_Equal_bool_bool_p at h
 have hS0:=AA w
 refine AC Tryz.func33 rfl rfl rfl (fun _ cs0 hb0=>?_)
 refine Ae<|Af rfl<|Aa<|Aj<|Ae<|Ac rfl ?_
 have hl1:a0.length ≤ 281474976710656:=AR h0_0
 refine Ab (AZ (xs:=a0) Tryz.underlying72 rfl h0_0)<|Ac rfl ?_
 have hl2:a1.length ≤ 281474976710656:=AR h1_0
 refine Ab (AZ (xs:=a1) Tryz.underlying72 rfl h1_0)<|Ab (FV.neqN (i:=a0.length) (j:=a1.length) rfl rfl)<|Aa<|MX.ifn rfl h (fun c3 h=>?_) (fun c3 h=>?_)
 refine Ap<|Aj<|Ae<|Ac rfl<|Ab (AZ (xs:=a0) Tryz.underlying72 rfl h0_0)<|Ac rfl<|Aa<|Ar ?_
 obtain ⟨X0,I0,j0⟩:=thn_in h
 refine Bc (α:=Nat) (fun i32=>[(0,v0_0),(1,v1_0),(12,vI ((a0.length:Nat):Int)),(13,vI ((i32:Nat):Int))]) (fun i32 g0=>St w g0 []∧Tr w [] g0 []) (fun i32=>i32) 0 I0 ⟨rfl,rfl,rfl,rfl,trivial⟩ ⟨hS0,AP _ _⟩ ?_
 rintro U0 i32 g0 v0 ⟨d0,x0⟩ h
 unfold slices_Equal_bool_bool_l1 at h
 try dsimp only at h
 refine Ae<|Ab (Bd (i:=i32) (j:=a0.length) rfl rfl)<|Aa<|Aj<|AO rfl h (fun q0 h=>?_) (fun q0 h=>?_)
 refine Ap<|Aj<|Ar<|Ae<|Ac rfl<|Af rfl<|Aa<|Aj<|dt 9 tb33_6 (fun b0 c0=>?_)
 refine Ah 0 1 b0 rfl c0 (fun _=>Ai rfl) rfl<|Ah 1 3 b0 rfl c0 (fun _=>Ai rfl) rfl ?_
 obtain ⟨k0,M0,h⟩:=bi h
 have F0:=AI h0_0 d0
 obtain ⟨Q0,V0,y0,C0,t0,J0,E0⟩:=Bk F0 M0
 have z0:t0 = [.bool k0]:=J0; subst z0
 refine Ah 2 7 b0 rfl c0 (fun _=>Bn 1 i32 rfl y0 rfl rfl C0) rfl<|AE 3 15 256 b0 rfl c0 (AH rfl (E0 0 _ rfl)) rfl<|Ah 4 31 b0 rfl c0 (fun _=>Ai rfl) rfl<|Ah 5 63 b0 rfl c0 (fun _=>Ai rfl) rfl ?_
 obtain ⟨p0,P0,h⟩:=bi h
 have H0:=AI h1_0 d0
 obtain ⟨R0,W0,A0,D0,u0,K0,G0⟩:=Bk H0 P0
 have B0:u0 = [.bool p0]:=K0; subst B0
 refine Ah 6 127 b0 rfl c0 (fun _=>Bn 1 i32 rfl A0 rfl rfl D0) rfl<|AE 7 255 256 b0 rfl c0 (AH rfl (G0 0 _ rfl)) rfl<|Ah 8 511 b0 rfl c0 (fun _=>FV.neqB (a:=k0) (b:=p0) Tryz.underlying4 rfl rfl) rfl<|AK (dk b0)<|MX.ifnb rfl h (fun s0 h=>?_) (fun s0 h=>?_)
 refine Ap<|Av<|Am<|Ab (Bi (i:=i32) (j:=1) rfl rfl (by omega))<|Ac rfl<|Aa ?_
 exact v0 (i32 + 1) _ _ ⟨rfl,rfl,rfl,rfl,trivial⟩ ⟨d0,x0⟩ h
 refine Ae<|Af rfl<|Aa ?_
 have h:=thn_inl h j0
 refine Ak rfl<|AQ hb0 Tryz.func33 rfl rfl ?_
 cases h
 exact d0.gv
 refine AU rfl ?_
 have h:=thn_inr h j0
 try dsimp only at h
 refine Ae<|Af rfl<|Aa<|Ak rfl<|AQ hb0 Tryz.func33 rfl rfl ?_
 cases h
 exact d0.gv
 refine Ae<|Af rfl<|Aa<|Ak rfl<|AQ hb0 Tryz.func33 rfl rfl ?_
 cases h
 exact hS0.gv
theorem body33:bodyB Tryz.prog 33 = true:=by kernel_rfl
def wardmotelaw27_truths_1_p (n:Nat) (a0:List Bool) (a1:Int) (a2:List Bool):Option Bool:=
  (slices_Equal_bool_bool_p n a0 a2).bind fun y1=>(if y1 = true then some (decide (a1 = 0)) else some false)
theorem wardmotelaw27_truths_1_c (n:Nat) (L:List Nat) (w:World) (hL:∀ b ∈ L,b < w.heap.size) (a0:List Bool) {v0_0:Value} (h0_0:Rep.R w L [v0_0] a0) (a1:Int) (a2:List Bool) {v2_0:Value} (h2_0:Rep.R w L [v2_0] a2) {p2:Nat} (m2:∀ j9 v9,([v2_0]:List Value)[j9]? = some v9 → w.cell? ((⟨p2,0,none⟩:Addr).add j9) = some v9)  {r:Bool} (h:wardmotelaw27_truths_1_p n a0 a1 a2 = some r) :
    Calls Tryz.prog 84 #[v0_0,vI a1,.pointer (some ⟨p2,0,none⟩)] w (Gives w fun _ u=>u = .bool r):=by
 unfold wardmotelaw27_truths_1_p at h
 have hS0:=AA w
 refine AC Tryz.func84 rfl rfl rfl (fun _ cs0 hb0=>?_)
 refine Ae<|Af rfl<|Aa<|Ae<|Ac rfl<|Ba rfl ((fun j9 v9 h9=>hS0.ag.cell0 (m2 j9 v9 h9)) 0 _ rfl) ?_
 obtain ⟨y1,hy1,h⟩:=bi h
 refine Bb (.bool y1) body33 rfl (e2 rfl rfl) (fun w9 hw9=>slices_Equal_bool_bool_c n _ w9 (hS0.hL0 hL hw9) a0 (hS0.kd h0_0 hw9) a2 (hS0.kd h2_0 hw9) hy1) rfl<|Ac rfl<|RG.ifb (s:=9) rfl h (fun c2 h=>?_) (fun c2 h=>?_)
 refine AN (Ai rfl)<|AN (FV.eql (i:=a1) (j:=0) rfl rfl)<|Bx rfl rfl<|Af rfl<|Aa<|Ak rfl<|AQ hb0 Tryz.func84 rfl rfl ?_
 cases h
 exact hS0.gv
 refine Au<|Au<|BA rfl rfl<|Af rfl<|Aa<|Ak rfl<|AQ hb0 Tryz.func84 rfl rfl ?_
 cases h
 exact hS0.gv
theorem wardmotelaw27_truths_c (_n:Nat) (L:List Nat) (w:World) (_hL:∀ b ∈ L,b < w.heap.size) (a0:List Bool) {v0_0:Value} (h0_0:Rep.R w L [v0_0] a0)  :
    Calls Tryz.prog 40 #[v0_0] w (Gives w fun w' u=>∃ b0:Nat,u = .func (.func 84) #[] #[vP b0]∧St w w' [.cells b0 [v0_0] 72]):=by
 have hS0:=AA w
 refine AC Tryz.func40 rfl rfl rfl (fun _ cs0 hb0=>?_)
 refine Ae<|Al .plain rfl (Ax hS0 rfl (Rep.c1 h0_0)) (fun g0 b0 c0 d0=>?_)
 refine Af rfl<|Aa<|Ae<|Ab (FV.makeFunc (vs:=[]) (us:=[vP b0]) evs_nil (e1 rfl))<|Af rfl<|Aa<|Ak rfl<|Ao (u:=.func (.func 84) #[] #[vP b0]) hb0 Tryz.func40 rfl (.cons (.tmp rfl) .nil) rfl ?_
 exact ⟨c0.ag,fun w9 hw9=>⟨b0,rfl,c0.agree hw9⟩⟩
def tb85_1:List (Nat × Nat × Nat):=[(0,128,16),(0,256,4),(0,512,8),(6,1024,768),(9,2048,1152),(24,4096,2048),(32,8192,4098),(96,16384,12288),(160,32768,20480),(511,64,32768)]
theorem body20:bodyB Tryz.prog 20 = true:=by kernel_rfl
def wardmotelaw27_is_1_p (n:Nat) (a0:TShare) (a1:Int) (a2:Int) (a3:Int):Option Bool:=
  (wardmotelaw27_of_p n a2 a3).bind fun b0=>(if a0 = b0 then some (decide (a1 = 0)) else some false)
theorem wardmotelaw27_is_1_c (n:Nat) (L:List Nat) (w:World) (hL:∀ b ∈ L,b < w.heap.size) (a0:TShare) (a1:Int) (a2:Int) {p2:Nat} (m2:∀ j9 v9,([vI a2]:List Value)[j9]? = some v9 → w.cell? ((⟨p2,0,none⟩:Addr).add j9) = some v9) (a3:Int) {p3:Nat} (m3:∀ j9 v9,([vI a3]:List Value)[j9]? = some v9 → w.cell? ((⟨p3,0,none⟩:Addr).add j9) = some v9)  {r:Bool} (h:wardmotelaw27_is_1_p n a0 a1 a2 a3 = some r) :
    Calls Tryz.prog 85 #[.agg ((cs_TShare a0)).toArray,vI a1,.pointer (some ⟨p2,0,none⟩),.pointer (some ⟨p3,0,none⟩)] w (Gives w fun _ u=>u = .bool r):=by
 unfold wardmotelaw27_is_1_p at h
 have hS0:=AA w
 refine AC Tryz.func85 rfl rfl rfl (fun _ cs0 hb0=>?_)
 refine Ae<|Al .plain rfl (Ax hS0 rfl rfl) (fun s0 p0 d0 q0=>?_)
 refine Af rfl<|Aa<|Aj<|dt 10 tb85_1 (fun b0 c0=>?_)
 refine AE 0 1 1008 b0 rfl c0 (AG rfl (d0.memA .hd)) rfl<|AE 1 3 1016 b0 rfl c0 (AH rfl ((fun j9 v9 h9=>d0.ag.cell0 (m2 j9 v9 h9)) 0 _ rfl)) rfl<|AE 2 7 1016 b0 rfl c0 (AH rfl ((fun j9 v9 h9=>d0.ag.cell0 (m3 j9 v9 h9)) 0 _ rfl)) rfl ?_
 obtain ⟨g0,k0,h⟩:=bi h
 refine RD.cq 3 15 1008 (.agg ((cs_TShare g0)).toArray) b0 rfl c0 body20 rfl (e2 rfl rfl) (fun w9 hw9=>wardmotelaw27_of_c n _ w9 (d0.hL0 hL hw9) a2 a3 k0) rfl<|Ah 4 31 b0 rfl c0 (fun _=>FV.eqlV (v:=.agg ((cs_TShare a0)).toArray) (u:=.agg ((cs_TShare g0)).toArray) rfl rfl (eqlD_42 a0 g0)) rfl<|Ah 5 63 b0 rfl c0 (fun _=>Ai rfl) rfl<|RD.ifd (s:=12) rfl h (fun j0 h=>?_) (fun j0 h=>?_)
 refine RD.vP 6 127 b0 rfl c0 (.yes rfl rfl) (fun _=>Ai rfl) rfl<|RD.vP 7 255 b0 rfl c0 (.yes rfl rfl) (fun _=>FV.eql (i:=a1) (j:=0) rfl rfl) rfl<|Ah 8 511 b0 rfl c0 (fun _=>FV.pick_t rfl rfl) rfl<|Ah 9 1023 b0 rfl c0 (fun _=>AX rfl) rfl<|AK (dk b0)<|Ak rfl<|AQ hb0 Tryz.func85 rfl rfl ?_
 cases h
 exact d0.gv
 refine Bg 255 2 [(6,13),(7,14)] (F:=[(12,false)]) (U:=[]) b0 c0 (.cons rfl .nil) .nil ?_
 dsimp only [offS,List.map]
 refine Ah 8 511 b0 rfl c0 (fun _=>AS rfl rfl) rfl<|Ah 9 1023 b0 rfl c0 (fun _=>AX rfl) rfl<|AK (dk b0)<|Ak rfl<|AQ hb0 Tryz.func85 rfl rfl ?_
 cases h
 exact d0.gv
theorem wardmotelaw27_is_c (_n:Nat) (L:List Nat) (w:World) (_hL:∀ b ∈ L,b < w.heap.size) (a0:Int) (a1:Int)  :
    Calls Tryz.prog 41 #[vI a0,vI a1] w (Gives w fun w' u=>∃ b0 c0:Nat,u = .func (.func 85) #[] #[vP b0,vP c0]∧St w w' [.cells b0 [vI a0] 3,.cells c0 [vI a1] 3]):=by
 have hS0:=AA w
 refine AC Tryz.func41 rfl rfl rfl (fun _ cs0 hb0=>?_)
 refine Ae<|Al .plain rfl (Ax hS0 rfl rfl) (fun s0 b0 g0 k0=>?_)
 refine Al .plain rfl (Ax g0 rfl rfl) (fun t0 c0 j0 p0=>?_)
 refine Af rfl<|Aa<|Ae<|Ab (FV.makeFunc (vs:=[]) (us:=[vP b0,vP c0]) evs_nil (e2 rfl rfl))<|Af rfl<|Aa<|Ak rfl<|Ao (u:=.func (.func 85) #[] #[vP b0,vP c0]) hb0 Tryz.func41 rfl (.cons (.tmp rfl) .nil) rfl ?_
 obtain ⟨d0,q0⟩:=AJ j0 (.one (.tl .hd) (.one .hd .done))
 exact ⟨d0.ag,fun w9 hw9=>⟨b0,c0,rfl,d0.agree hw9⟩⟩
end Go.Proofs.YtfccehcnajelgaaGreatDoor
