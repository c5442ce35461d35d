/- Functions of the program, and what they give: part 5. -/
import Derived.Test.YtgejkdheojkfiaaGreatDoorPA4
namespace Go.Proofs.YtgejkdheojkfiaaGreatDoor
open Go Go.RowKit
set_option maxRecDepth 4000
set_option maxHeartbeats 4000000

def tb106_6:List (Nat × Nat × Nat):=[(0,131072,32),(0,262144,8),(2,524288,262144),(1,0,131073),(15,0,524290)]
theorem body61:bodyB Tryz.prog 61 = true:=by kernel_rfl
theorem body62:bodyB Tryz.prog 62 = true:=by kernel_rfl
theorem body106:bodyB Tryz.prog 106 = true:=by kernel_rfl
def cv_p (n:Nat) (a0:Tc) (a1:List Int) (a2:Int):Option ((List Ta) × Int):=
  (bq_p n a0 a2 a1).bind fun c0=>exc c0 (fun d0=>some (d0,(0:Int))) (fun b0=>some (([]:List Ta),b0.fA))
theorem cv_c (n:Nat) (L:List Nat) (w:World) (hL:∀ b ∈ L,b < w.heap.size) (a0:Tc) {v0_3:Value} (h0_3:Rep.R w L [v0_3] a0.fo) {a1:List Int} {v1_0:Value} (h1_0:Rep.R w L [v1_0] a1) {a2:Int}  {r:(List Ta) × Int} (h:cv_p n a0 a1 a2 = some r) :
    Calls Tryz.prog 20 #[.agg #[vI a0.fe,vI a0.fh,vI a0.fj,v0_3],v1_0,vI a2] w (Gives w fun w' u=>∃ v0_0:Value,u = .tuple #[v0_0,vI r.2]/\Rep.R w' L [v0_0] r.1):=by
 unfold cv_p at h
 refine AF Tryz.func20 rfl rfl rfl fun _ cs0 hb0=>Ac<|RG.bx (AB w) rfl rfl fun M1 g0 D0 B1=>RG.bx D0 rfl (Rep.c1 (AO h1_0 D0)) fun V1 j0 M0 C1=>RG.bx M0 rfl rfl fun W1 k0 P0 D1=>Af rfl<|Af rfl<|Aa<|Ac<|Ab (BN (vs:=[]) (us:=[vP g0,vP k0,vP j0]) evs_nil (e3 rfl rfl rfl))<|BM (fst:=[]) (cap:=[]) (vs:=[.func (.func 62) #[] #[vP g0,vP k0,vP j0]]) .plain body61 Tryz.func61 rfl rfl rfl rfl (e1 rfl) rfl fun x1 E0 J1=>Ac<|RG.nl [vN] P0 fun X1 p0 Q0 E1=>RG.nl [vI 0] Q0 fun Y1 d0 b0 F1=>Aa<|Ac<|Ab (BN (vs:=[]) (us:=[vP p0,vP d0]) evs_nil (e2 rfl rfl))<|RG.defer (fst:=[]) (cap:=[vP p0,vP d0]) (vs:=[]) rfl .plain rfl evs_nil<|Aa<|Ac<|Ae rfl<|xk h (fun s0 z0 h=>?_) (fun g2 z0 h=>?_)
 refine BH (fst:=[]) (cap:=[vP g0,vP k0,vP j0]) .plain body62 rfl evs_nil (fun p q=>bq_c n _ p (b0.hL hL q) a0 (b0.km h0_3 q) (mem_keep q (b0.memA .t4)) (mem_keep q (b0.memA .t2)) (b0.km h1_0 q) (mem_keep q (b0.memA .t3)) z0) fun Z1 b1=>?_
 obtain ⟨R0,G1⟩:=b0.agr b1
 refine PN.callD (vs:=[]) (cap:=[vP p0,vP d0]) body106 Tryz.func106 rfl rfl rfl fun v1 g1 k1=>Ac<|RG.recover1 .plain g1 rfl<|Af rfl<|Aa<|Ac<|Ae rfl<|Ab (FV.neqI Tryz.underlying20 rfl rfl)<|Aa<|Bk rfl<|Ac<|Ae rfl<|Ab (FV.assertT (by kernel_rfl) rfl)<|Ae rfl<|Ab (Ah rfl rfl)<|Ab (Ah rfl rfl)<|RG.nl [vI 0] R0 fun b2 s1 U0 H1=>AQ [vI s0.fA] U0 .hd (o1 rfl) fun c2 u0 I1=>Af rfl<|Aa<|Aj<|Ac<|Ae rfl<|Ab (Bo rfl)<|Aa<|BF rfl<|Aq<|Ac<|Af rfl<|Aa<|dt 3 tb106_6 fun c0 A0=>Ag 0 1 c0 rfl A0 (fun _=>Ai rfl) rfl<|Ag 1 3 c0 rfl A0 (fun _=>Bd 0 rfl) rfl<|RD.mo (α:=Unit) (fun ()=>[(1,vP d0),(19,vI s0.fA)]) (fun ()=>[.cells d0 [vI 0] 51,.cells p0 [vN] 63,.cells k0 [vI a2] 3,.cells j0 [v1_0] 46,.cells g0 [vI a0.fe,vI a0.fh,vI a0.fj,v0_3] 44]) u0 1 15 ?_ ?_
 rintro ⟨⟩ d2 G0 y1
 try dsimp only
 refine BJ 4 31 c0 rfl rfl .plain (AH (news:=[vI s0.fA]) G0 .hd rfl rfl rfl rfl rfl rfl (o1 rfl)) fun P1 q0 z1=>AM (dk c0)<|MX.fin rfl<|RT.leaveD1 k1 Tryz.func106 rfl .nil<|Ap (u:=.tuple #[vN,vI s0.fA]) E0 Tryz.func61 rfl (.cons (.one (by kernel_rfl) rfl ((q0.memA .t1) 0 _ rfl)) (.cons (.one (by kernel_rfl) rfl ((q0.memA .hd) 0 _ rfl)) .nil)) rfl<|Ab (Ah rfl rfl)<|Ab (Ah rfl rfl)<|Af rfl<|Af rfl<|Aa<|Al rfl ?_
 have p1:=Rep.nilAt (α:=Ta) q0 L
 refine Ap hb0 Tryz.func20 rfl (.cons (.tmp rfl) (.cons (.tmp rfl) .nil)) rfl ?_
 cases h
 exact ⟨q0.ag,fun p q=>⟨vN,rfl,q0.kd p1 q⟩⟩
 intro C0
 refine Bn [2,3] (rk c0) ⟨?_,?_,trivial⟩
 refine Bq (m' :=7) (sk c0) rfl .plain rfl (AL rfl ((u0.memA .hd) 0 _ rfl))<|BJ 3 15 c0 rfl rfl .plain (AH (news:=[vN]) u0 .t2 rfl rfl rfl rfl rfl rfl (o1 rfl)) fun q1 v0 x0=>?_
 obtain ⟨H0,V0⟩:=AI v0 .d1
 exact C0 () H0 (Tt x0 V0)
 refine RO.now (m' :=11) (sk c0) rfl rfl .plain (AH (news:=[vN]) u0 .t2 rfl rfl rfl rfl rfl rfl (o1 rfl)) fun q1 v0 x0=>AG 2 15 16 c0 rfl A0 (AL rfl ((v0.memA .hd) 0 _ rfl)) rfl ?_
 obtain ⟨I0,W0⟩:=AI v0 .d1
 exact C0 () I0 (Tt x0 W0)
 refine AZ (fst:=[]) (cap:=[vP g0,vP k0,vP j0]) .plain body62 rfl evs_nil (fun p q=>Bb (bq_c n _ p (b0.hL hL q) a0 (b0.km h0_3 q) (mem_keep q (b0.memA .t4)) (mem_keep q (b0.memA .t2)) (b0.km h1_0 q) (mem_keep q (b0.memA .t3)) z0)) rfl fun Q1 B0 Z0 ⟨K1,hu_,y0⟩=>?_
 subst hu_
 obtain ⟨J0,A1⟩:=b0.agr Z0
 refine RG.now .plain (AH (news:=[B0]) J0 .t1 rfl rfl rfl (Rep.c1 y0) rfl rfl (o1 (AR y0))) fun R1 K0 X0=>AQ [vI 0] K0 .hd (o1 rfl) fun U1 t0 Y0=>Aa<|Al rfl<|RT.callD (vs:=[]) (cap:=[vP p0,vP d0]) body106 Tryz.func106 rfl rfl rfl fun u1 F0 j1=>Ac<|RG.recover0 .plain F0 rfl<|Af rfl<|Aa<|Ac<|Ae rfl<|Ab (FV.neqI0 Tryz.underlying20 rfl rfl)<|Aa<|BF rfl<|Aq<|MX.fin rfl<|RT.leaveD0 F0 j1 Tryz.func106 rfl .nil<|Ap (u:=.tuple #[B0,vI 0]) E0 Tryz.func61 rfl (.cons (.one (by kernel_rfl) rfl ((t0.memA .t1) 0 _ rfl)) (.cons (.one (by kernel_rfl) rfl ((t0.memA .hd) 0 _ rfl)) .nil)) rfl<|Ab (Ah rfl rfl)<|Ab (Ah rfl rfl)<|Af rfl<|Af rfl<|Aa<|Al rfl<|Ap hb0 Tryz.func20 rfl (.cons (.tmp rfl) (.cons (.tmp rfl) .nil)) rfl ?_
 cases h
 exact ⟨t0.ag,fun p q=>⟨B0,rfl,t0.kd (Ao y0 (Tt X0 Y0)) q⟩⟩
def tb67_2:List (Nat × Nat × Nat):=[(0,1024,16),(0,2048,4),(3,4096,3072),(0,8192,16),(12,16384,8192),(23,32,4096),(63,64,16384)]
def tb67_4:List (Nat × Nat × Nat):=[(0,262144,32),(1,524288,262144),(2,1048576,524288),(0,2097152,32),(12,4194304,3145728),(0,8388608,32),(32,16777216,8388608),(64,33554432,16777216),(0,67108864,32),(400,134217728,100663296),(528,268435456,138412032),(1536,536870912,268435456),(0,1073741824,64),(0,2147483648,2),(14336,4294967296,3221225472),(18432,8589934592,4831838208),(32768,17179869184,8589934592),(32768,34359738368,8589934592),(229376,68719476736,51539607552),(524287,0,68719476744)]
def bV_p (n:Nat) (a0:Tc) (a1:Int) (a2:List Int):Option (Except Tf Ta):=
  (am_p n a0 a1).bind fun z0=>exc z0 (fun d0=>(ak_p n d0 a2).bind fun A0=>exc A0 (fun b0=>(au_p n d0).bind fun g0=>(ae_p n (decide (g0 = 0)) (7:Int)).bind fun B0=>exc B0 (fun _y63=>(b0[0]?).bind fun c0=>(bf_p n c0 b0).bind fun C0=>(bK_p n c0 b0).bind fun D0=>(chk (C0 - D0)).bind fun v0=>(aO_p n v0 (1:Int)).bind fun E0=>exc E0 (fun F0=>(aO_p n g0 a1).bind fun G0=>exc G0 (fun H0=>(cS_p n F0 H0).bind fun j0=>(aa_p n j0.1 j0.2).bind fun x0=>exc x0 (fun y0=>some (.ok y0)) (fun k0=>some (.error k0))) (fun u0=>some (.error u0))) (fun t0=>some (.error t0))) (fun s0=>some (.error s0))) (fun q0=>some (.error q0))) (fun p0=>some (.error p0))
theorem bV_c (n:Nat) (L:List Nat) (w:World) (hL:∀ b ∈ L,b < w.heap.size) (a0:Tc) {v0_3:Value} (h0_3:Rep.R w L [v0_3] a0.fo) {p0:Nat} (m0:∀ j9 v9,([vI a0.fe,vI a0.fh,vI a0.fj,v0_3]:List Value)[j9]? = some v9 -> w.cell? ((⟨p0,0,none⟩:Addr).add j9) = some v9) {a1:Int} {p1:Nat} (m1:∀ j9 v9,([vI a1]:List Value)[j9]? = some v9 -> w.cell? ((⟨p1,0,none⟩:Addr).add j9) = some v9) {a2:List Int} {v2_0:Value} (h2_0:Rep.R w L [v2_0] a2) {p2:Nat} (m2:∀ j9 v9,([v2_0]:List Value)[j9]? = some v9 -> w.cell? ((⟨p2,0,none⟩:Addr).add j9) = some v9)  {r:Except Tf Ta} (h:bV_p n a0 a1 a2 = some r) :
    Calls Tryz.prog 67 #[.pointer (some ⟨p0,0,none⟩),.pointer (some ⟨p1,0,none⟩),.pointer (some ⟨p2,0,none⟩)] w (PGives w (fun (y:Ta) _ u=>u = .agg ((cs_Ta y)).toArray) (fun e=>.iface 120 (.agg #[vI e.fA])) r):=by
 unfold bV_p at h
 refine MX.startP Tryz.func67 rfl rfl rfl fun _ cs0 hb0 hp0=>Ac<|RG.nl zL (AB w) fun z2 K1 k0 b2=>Aa<|Ac<|Ab (AK rfl (fun j9 v9 h9=>k0.ag.cell0 (m0 j9 v9 h9)))<|AP rfl ((fun j9 v9 h9=>k0.ag.cell0 (m1 j9 v9 h9)) 0 _ rfl)<|xk h (fun R1 A0 h=>?_) (fun s0 A0 h=>?_)
 refine BH (fst:=[]) (cap:=[]) .plain body38 rfl (e2 rfl rfl) (fun p q=>am_c n _ p (k0.hL hL q) a0 (k0.km h0_3 q) A0) fun A2 k1=>?_
 obtain ⟨W0,c2⟩:=k0.agr k1
 cases h
 exact Bf hp0 Tryz.func67 ⟨W0.ag,rfl⟩
 refine AZ (fst:=[]) (cap:=[]) .plain body38 rfl (e2 rfl rfl) (fun p q=>Bb (am_c n _ p (k0.hL hL q) a0 (k0.km h0_3 q) A0)) rfl fun B2 u2 q1 ⟨H1,hu_,u0⟩=>?_
 subst hu_
 obtain ⟨X0,d2⟩:=k0.agr q1
 refine RG.nl [vI 0,vI 0,vI 0,vN,vI 0] X0 fun C2 M1 Y0 t0=>AQ [vI s0.fy.fe,vI s0.fy.fh,vI s0.fy.fj,H1,vI s0.fk] Y0 .hd (o5 rfl rfl rfl (AR (Ao u0 t0)) rfl) fun D2 g0 x0=>Aa<|Aj<|dt 7 tb67_2 fun j0 q0=>AG 0 1 116 j0 rfl q0 (AK rfl (g0.memA .hd)) rfl<|AG 1 3 116 j0 rfl q0 (AL rfl ((fun j9 v9 h9=>g0.ag.cell0 (m2 j9 v9 h9)) 0 _ rfl)) rfl<|xk h (fun U1 B0 h=>?_) (fun J2 B0 h=>?_)
 refine AG 3 11 112 j0 rfl q0 (AK rfl (g0.memA .hd)) rfl<|Be (i:=2) (rk j0) (RO.callE (fst:=[]) (cap:=[]) rfl .plain body46 rfl (e2 rfl rfl) (fun p q=>ak_c n _ p (g0.hL hL q) s0 (Ar (Ao u0 (Tt t0 x0)) q) (g0.km h2_0 q) B0) (fun E2 s1=>?_))
 obtain ⟨Z0,g2⟩:=g0.agr s1
 cases h
 exact Bf hp0 Tryz.func67 ⟨Z0.ag,rfl⟩
 refine AG 3 11 112 j0 rfl q0 (AK rfl (g0.memA .hd)) rfl<|BB 2 15 j0 rfl .plain body46 rfl (e2 rfl rfl) (fun p q=>Bb (ak_c n _ p (g0.hL hL q) s0 (Ar (Ao u0 (Tt t0 x0)) q) (g0.km h2_0 q) B0)) rfl fun F2 v2 u1 ⟨t2,hu_,y0⟩=>?_
 subst hu_
 obtain ⟨c0,g1⟩:=g0.agr u1
 refine bk h fun K0 D1 h=>BT 4 31 96 (vI K0) j0 rfl q0 body54 rfl (e1 rfl) (fun p q=>au_c n _ p (c0.hL0 hL q) s0 (c0.kd (Ao u0 (Tt t0 (Tt x0 g1))) q) D1) rfl<|Ag 5 63 j0 rfl q0 (fun _=>AU rfl) rfl<|Ag 6 127 j0 rfl q0 (fun _=>AU rfl) rfl<|AM (dk j0)<|Ac<|Ae rfl<|Ab (FV.eql (i:=K0) (j:=0) rfl rfl)<|xk h (fun V1 C0 h=>?_) (fun K2 C0 h=>?_)
 refine BH (fst:=[]) (cap:=[]) .plain body63 rfl (e2 rfl rfl) (fun p q=>ae_c n _ p (c0.hL0 hL q)  C0) fun G2 v1=>?_
 obtain ⟨b1,j2⟩:=c0.agr v1
 cases h
 exact Bf hp0 Tryz.func67 ⟨b1.ag,rfl⟩
 refine Bi (.tuple #[]) body63 rfl (e2 rfl rfl) (fun p q=>Bb (ae_c n _ p (c0.hL0 hL q)  C0)) rfl<|Aa<|Aj<|dt 19 tb67_4 fun b0 d0=>Ag 0 1 b0 rfl d0 (fun _=>Ai rfl) rfl<|bk h fun I1 C1 h=>?_
 obtain ⟨J1,P1,H0,I0,U0,A1,J0⟩:=Bl y0 C1
 have z1:U0 = [vI I1]:=A1; subst z1
 refine Ag 1 3 b0 rfl d0 (fun _=>Bm 1 0 rfl H0 rfl rfl I0) rfl<|AG 2 7 1035792 b0 rfl d0 (AL rfl (J0 0 _ rfl)) rfl<|Ag 3 15 b0 rfl d0 (fun _=>Ai rfl) rfl<|bk h fun M0 E1 h=>BT 4 31 1035776 (vI M0) b0 rfl d0 body48 rfl (e2 rfl rfl) (fun p q=>bf_c n _ p (c0.hL0 hL q) (c0.kd y0 q) E1) rfl<|Ag 5 63 b0 rfl d0 (fun _=>Ai rfl) rfl<|Ag 6 127 b0 rfl d0 (fun _=>Bm 1 0 rfl H0 rfl rfl I0) rfl<|AG 7 255 1035776 b0 rfl d0 (AL rfl (J0 0 _ rfl)) rfl<|Ag 8 511 b0 rfl d0 (fun _=>Ai rfl) rfl<|bk h fun P0 F1 h=>BT 9 1023 1035264 (vI P0) b0 rfl d0 body47 rfl (e2 rfl rfl) (fun p q=>bK_c n _ p (c0.hL0 hL q) (c0.kd y0 q) F1) rfl<|bk h fun s2 B1 h=>Ag 10 2047 b0 rfl d0 (fun _=>FV.subc (i:=M0) (j:=P0) rfl rfl B1) rfl<|xk h (fun W1 D0 h=>?_) (fun Q0 D0 h=>?_)
 refine Ag 12 6143 b0 rfl d0 (fun _=>Ai rfl) rfl<|AG 13 14335 1032192 b0 rfl d0 (AL rfl ((fun j9 v9 h9=>c0.ag.cell0 (m1 j9 v9 h9)) 0 _ rfl)) rfl<|Be (i:=11) (rk b0) (RO.callE (fst:=[]) (cap:=[]) rfl .plain body53 rfl (e2 rfl rfl) (fun p q=>aO_c n _ p (c0.hL0 hL q)  D0) (fun H2 x1=>?_))
 obtain ⟨c1,k2⟩:=c0.agr x1
 cases h
 exact Bf hp0 Tryz.func67 ⟨c1.ag,rfl⟩
 refine BT 11 4095 1032192 (.agg ((cs_Ta Q0)).toArray) b0 rfl d0 body53 rfl (e2 rfl rfl) (fun p q=>Bb (aO_c n _ p (c0.hL0 hL q)  D0)) rfl<|Ag 12 8191 b0 rfl d0 (fun _=>Ai rfl) rfl<|AG 13 16383 1032192 b0 rfl d0 (AL rfl ((fun j9 v9 h9=>c0.ag.cell0 (m1 j9 v9 h9)) 0 _ rfl)) rfl<|xk h (fun X1 E0 h=>?_) (fun R0 E0 h=>?_)
 refine Be (i:=14) (rk b0) (RO.callE (fst:=[]) (cap:=[]) rfl .plain body53 rfl (e2 rfl rfl) (fun p q=>aO_c n _ p (c0.hL0 hL q)  E0) (fun I2 y1=>?_))
 obtain ⟨d1,q2⟩:=c0.agr y1
 cases h
 exact Bf hp0 Tryz.func67 ⟨d1.ag,rfl⟩
 refine BT 14 32767 1015808 (.agg ((cs_Ta R0)).toArray) b0 rfl d0 body53 rfl (e2 rfl rfl) (fun p q=>Bb (aO_c n _ p (c0.hL0 hL q)  E0)) rfl<|bk h fun v0 G1 h=>BT 15 65535 983040 (.tuple #[.agg ((cs_Ta v0.1)).toArray,vI v0.2]) b0 rfl d0 body65 rfl (e2 rfl rfl) (fun p q=>cS_c n _ p (c0.hL0 hL q) Q0 R0 G1) rfl<|Ag 16 131071 b0 rfl d0 (fun _=>Ah rfl rfl) rfl<|Ag 17 262143 b0 rfl d0 (fun _=>Ah rfl rfl) rfl<|xk h (fun Q1 z0 h=>?_) (fun F0 z0 h=>?_)
 refine Be (i:=18) (rk b0) (RO.callE (fst:=[]) (cap:=[]) rfl .plain body64 rfl (e2 rfl rfl) (fun p q=>aa_c n _ p (c0.hL0 hL q) v0.1 z0) (fun x2 j1=>?_))
 obtain ⟨V0,Y1⟩:=c0.agr j1
 cases h
 exact Bf hp0 Tryz.func67 ⟨V0.ag,rfl⟩
 refine BT 18 524287 524288 (.agg ((cs_Ta F0)).toArray) b0 rfl d0 body64 rfl (e2 rfl rfl) (fun p q=>Bb (aa_c n _ p (c0.hL0 hL q) v0.1 z0)) rfl<|BJ 19 1048575 b0 rfl rfl .plain (AH (news:=(cs_Ta F0)) c0 .t1 rfl rfl rfl rfl rfl rfl (onesB rfl)) fun y2 G0 Z1=>AM (dk b0)<|Al rfl<|Ap hb0 Tryz.func67 rfl (.cons (.many (cs:=(cs_Ta F0)) (by kernel_rfl) rfl (G0.memA .t1)) .nil) rfl ?_
 cases h
 exact ⟨G0.ag,fun p q=>okOf_in rfl⟩
theorem body67:bodyB Tryz.prog 67 = true:=by kernel_rfl
def bT_p (n:Nat) (a0:Tc) (a1:List Int) (a2:Int):Option (Ta × Int):=
  (bV_p n a0 a2 a1).bind fun c0=>exc c0 (fun d0=>some (d0,(0:Int))) (fun b0=>some ((⟨((0:UInt64),(0:UInt64),(0:UInt64),(0:UInt64),(0:UInt64),(0:UInt64),(0:UInt64),(0:UInt64)),((0:UInt64),(0:UInt64),(0:UInt64),(0:UInt64),(0:UInt64),(0:UInt64),(0:UInt64),(0:UInt64))⟩:Ta),b0.fA))
theorem bT_c (n:Nat) (L:List Nat) (w:World) (hL:∀ b ∈ L,b < w.heap.size) (a0:Tc) {v0_3:Value} (h0_3:Rep.R w L [v0_3] a0.fo) {a1:List Int} {v1_0:Value} (h1_0:Rep.R w L [v1_0] a1) {a2:Int}  {r:Ta × Int} (h:bT_p n a0 a1 a2 = some r) :
    Calls Tryz.prog 22 #[.agg #[vI a0.fe,vI a0.fh,vI a0.fj,v0_3],v1_0,vI a2] w (Gives w fun _ u=>u = .tuple #[.agg ((cs_Ta r.1)).toArray,vI r.2]):=by
 unfold bT_p at h
 refine AF Tryz.func22 rfl rfl rfl fun _ cs0 hb0=>Ac<|RG.bx (AB w) rfl rfl fun U1 j0 D0 E1=>RG.bx D0 rfl (Rep.c1 (AO h1_0 D0)) fun b2 p0 Q0 F1=>RG.bx Q0 rfl rfl fun c2 q0 R0 G1=>RG.nl zL R0 fun g2 I0 U0 H1=>Af rfl<|Aa<|Ac<|Ab (BN (vs:=[]) (us:=[vP j0,vP q0,vP p0]) evs_nil (e3 rfl rfl rfl))<|BM (fst:=[]) (cap:=[]) (vs:=[.func (.func 67) #[] #[vP j0,vP q0,vP p0]]) .plain body51 Tryz.func51 rfl rfl rfl rfl (e1 rfl) rfl fun x1 G0 R1=>Ac<|RG.nl zL U0 fun j2 s0 V0 I1=>RG.nl [vI 0] V0 fun k2 d0 b0 J1=>Aa<|Ac<|Ab (BN (vs:=[]) (us:=[vP s0,vP d0]) evs_nil (e2 rfl rfl))<|RG.defer (fst:=[]) (cap:=[vP s0,vP d0]) (vs:=[]) rfl .plain rfl evs_nil<|Aa<|Ac<|Ae rfl<|xk h (fun u0 A0 h=>?_) (fun g0 A0 h=>?_)
 refine BH (fst:=[]) (cap:=[vP j0,vP q0,vP p0]) .plain body67 rfl evs_nil (fun p q=>bV_c n _ p (b0.hL0 hL q) a0 (b0.k0 h0_3 q) (mem_keep q (b0.memA .t5)) (mem_keep q (b0.memA .t3)) (b0.k0 h1_0 q) (mem_keep q (b0.memA .t4)) A0) fun p2 d1=>?_
 obtain ⟨W0,K1⟩:=b0.agr d1
 refine PN.callD (vs:=[]) (cap:=[vP s0,vP d0]) body103 Tryz.func103 rfl rfl rfl fun v1 g1 k1=>Ac<|RG.recover1 .plain g1 rfl<|Af rfl<|Aa<|Ac<|Ae rfl<|Ab (FV.neqI Tryz.underlying20 rfl rfl)<|Aa<|Bk rfl<|Ac<|Ae rfl<|Ab (FV.assertT (by kernel_rfl) rfl)<|Ae rfl<|Ab (Ah rfl rfl)<|Ab (Ah rfl rfl)<|RG.nl [vI 0] W0 fun q2 q1 X0 M1=>AQ [vI u0.fA] X0 .hd (o1 rfl) fun s2 Y0 P1=>Af rfl<|Aa<|Aj<|Ac<|Ae rfl<|Ab (Bo rfl)<|Aa<|BF rfl<|Aq<|Ac<|RG.nl zL Y0 fun u2 s1 t0 Q1=>Aa<|dt 3 tb103_6 fun c0 B0=>AG 0 1 24 c0 rfl B0 (AK rfl (t0.memA .hd)) rfl<|Ag 1 3 c0 rfl B0 (fun _=>Bd 0 rfl) rfl<|RD.mo (α:=Unit) (fun ()=>[(1,vP d0),(19,vI u0.fA)]) (fun ()=>[.cells d0 [vI 0] 51,.cells s0 zL 37,.cells I0 zL 37,.cells q0 [vI a2] 3,.cells p0 [v1_0] 46,.cells j0 [vI a0.fe,vI a0.fh,vI a0.fj,v0_3] 44]) t0 1 15 ?_ ?_
 rintro ⟨⟩ v2 J0 y1
 try dsimp only
 refine BJ 4 31 c0 rfl rfl .plain (AH (news:=[vI u0.fA]) J0 .hd rfl rfl rfl rfl rfl rfl (o1 rfl)) fun V1 x0 z1=>AM (dk c0)<|MX.fin rfl<|RT.leaveD1 k1 Tryz.func103 rfl .nil<|Ap (u:=.tuple #[.agg zM,vI u0.fA]) G0 Tryz.func51 rfl (.cons (.many (cs:=zL) (by kernel_rfl) rfl (x0.memA .t1)) (.cons (.one (by kernel_rfl) rfl ((x0.memA .hd) 0 _ rfl)) .nil)) rfl<|Ab (Ah rfl rfl)<|Ab (Ah rfl rfl)<|AQ zL x0 .t2 (onesB rfl) fun W1 E0 A1=>Af rfl<|Aa<|Al rfl<|Ap hb0 Tryz.func22 rfl (.cons (.many (cs:=zL) (by kernel_rfl) rfl (E0.memA .t2)) (.cons (.tmp rfl) .nil)) rfl ?_
 cases h
 exact E0.gv
 intro C0
 refine Bn [2,3] (rk c0) ⟨?_,?_,trivial⟩
 refine Bq (m' :=7) (sk c0) rfl .plain rfl (AL rfl ((t0.memA .t1) 0 _ rfl))<|BJ 3 15 c0 rfl rfl .plain (AH (news:=zL) t0 .t3 rfl rfl rfl rfl rfl rfl (onesB rfl)) fun p1 v0 z0=>?_
 obtain ⟨K0,Z0⟩:=AI v0 .d2
 exact C0 () K0 (Tt z0 Z0)
 refine RO.now (m' :=11) (sk c0) rfl rfl .plain (AH (news:=zL) t0 .t3 rfl rfl rfl rfl rfl rfl (onesB rfl)) fun p1 v0 z0=>AG 2 15 16 c0 rfl B0 (AL rfl ((v0.memA .t1) 0 _ rfl)) rfl ?_
 obtain ⟨M0,b1⟩:=AI v0 .d2
 exact C0 () M0 (Tt z0 b1)
 refine RG.callq' (v:=.agg ((cs_Ta g0)).toArray) (fst:=[]) (cap:=[vP j0,vP q0,vP p0]) .plain body67 rfl evs_nil (fun p q=>Bb (bV_c n _ p (b0.hL0 hL q) a0 (b0.k0 h0_3 q) (mem_keep q (b0.memA .t5)) (mem_keep q (b0.memA .t3)) (b0.k0 h1_0 q) (mem_keep q (b0.memA .t4)) A0)) rfl<|AQ (cs_Ta g0) b0 .t1 (onesB rfl) fun X1 P0 B1=>AQ [vI 0] P0 .hd (o1 rfl) fun Y1 y0 C1=>Aa<|Al rfl<|RT.callD (vs:=[]) (cap:=[vP s0,vP d0]) body103 Tryz.func103 rfl rfl rfl fun u1 H0 j1=>Ac<|RG.recover0 .plain H0 rfl<|Af rfl<|Aa<|Ac<|Ae rfl<|Ab (FV.neqI0 Tryz.underlying20 rfl rfl)<|Aa<|BF rfl<|Aq<|MX.fin rfl<|RT.leaveD0 H0 j1 Tryz.func103 rfl .nil<|Ap (u:=.tuple #[.agg ((cs_Ta g0)).toArray,vI 0]) G0 Tryz.func51 rfl (.cons (.many (cs:=(cs_Ta g0)) (by kernel_rfl) rfl (y0.memA .t1)) (.cons (.one (by kernel_rfl) rfl ((y0.memA .hd) 0 _ rfl)) .nil)) rfl<|Ab (Ah rfl rfl)<|Ab (Ah rfl rfl)<|AQ (cs_Ta g0) y0 .t2 (onesB rfl) fun Z1 F0 D1=>Af rfl<|Aa<|Al rfl<|Ap hb0 Tryz.func22 rfl (.cons (.many (cs:=(cs_Ta g0)) (by kernel_rfl) rfl (F0.memA .t2)) (.cons (.tmp rfl) .nil)) rfl ?_
 cases h
 exact F0.gv
theorem el42:ElT Tryz.prog 42 101 (Rep.size Tb) 104 (.agg #[.string ⟨#[]⟩,vI 0,vN,vN,vN,.bool false]) [.string ⟨#[]⟩,vI 0,vN,vN,vN,.bool false]:=⟨Tryz.underlying42,by kernel_rfl,rfl,rfl,rfl,rfl⟩
def cI_p (_n:Nat):Option Tc:=
  (app ([]:List Tb) ([(⟨⟨#[97]⟩,(10:Int),([]:List Int),([]:List Int),([]:List Int),false⟩:Tb)]:List Tb)).bind fun c0=>(app c0 ([(⟨⟨#[98]⟩,(20:Int),([]:List Int),([]:List Int),([]:List Int),false⟩:Tb)]:List Tb)).bind fun d0=>(app d0 ([(⟨⟨#[99]⟩,(30:Int),([]:List Int),([]:List Int),([]:List Int),false⟩:Tb)]:List Tb)).bind fun g0=>(app g0 ([(⟨⟨#[100]⟩,(40:Int),([]:List Int),([]:List Int),([]:List Int),false⟩:Tb)]:List Tb)).bind fun b0=>some (⟨(0:Int),(0:Int),(0:Int),b0⟩:Tc)
theorem cI_c (n:Nat) (L:List Nat) (w:World) (hL:∀ b ∈ L,b < w.heap.size)  {r:Tc} (h:cI_p n = some r) :
    Calls Tryz.prog 25 #[] w (Gives w fun w' u=>∃ v0_3:Value,u = .agg #[vI r.fe,vI r.fh,vI r.fj,v0_3]/\Rep.R w' L [v0_3] r.fo):=by
 unfold cI_p at h
 refine AF Tryz.func25 rfl rfl rfl fun _ cs0 hb0=>Ac<|RG.nl [vI 0,vI 0,vI 0,vN] (AB w) fun k2 D1 K0 U1=>Aa<|Ac<|RG.nl [vI 0,vI 0,vI 0,vN] K0 fun s2 E1 t0 V1=>Aa<|Aj<|Ac<|Ab (AX (vs:=[.string ⟨#[97]⟩,.string ⟨#[98]⟩,.string ⟨#[99]⟩,.string ⟨#[100]⟩]) (u:=.agg #[.string ⟨#[97]⟩,.string ⟨#[98]⟩,.string ⟨#[99]⟩,.string ⟨#[100]⟩]) (e4 rfl rfl rfl rfl) (fun p=>by kernel_rfl))<|Ae rfl<|Aa<|Ay<|MX.loop1<|Ac<|Ab (Bu (i:=0) (j:=4) rfl rfl)<|Aa<|Aj<|Bk rfl<|Aq<|Aj<|Ay<|Ac<|Ae rfl<|Ab (FV.idx1 (cs:=[.string ⟨#[97]⟩,.string ⟨#[98]⟩,.string ⟨#[99]⟩,.string ⟨#[100]⟩]) (k:=0) (m:=1) (len:=4) (by kernel_rfl) (by kernel_rfl) rfl rfl rfl (by omega) rfl)<|Af rfl<|Af rfl<|Aa<|Av<|AV 3 rfl<|AP rfl ((t0.memA .hd) 3 _ rfl)<|Ae rfl<|Ae rfl<|Ab (FV.add (i:=0) (j:=1) (r:=1) rfl rfl (by decide))<|Ab (FV.mul (i:=10) (j:=1) (r:=10) rfl rfl (by decide))<|Ab (AX (vs:=[.string ⟨#[97]⟩,vI 10]) (u:=.agg #[.string ⟨#[97]⟩,vI 10,vN,vN,vN,.bool false]) (e2 rfl rfl) (fun p=>by kernel_rfl)) ?_
 have b2:=Rep.nilAt (α:=Int) t0 L
 refine Ak .plain rfl (AE (α:=Tb) (xs:=([(⟨⟨#[97]⟩,(10:Int),([]:List Int),([]:List Int),([]:List Int),false⟩:Tb)]:List Tb)) (vs:=[.agg #[.string ⟨#[97]⟩,vI 10,vN,vN,vN,.bool false]]) (ds' :=[.string ⟨#[97]⟩,vI 10,vN,vN,vN,.bool false]) rfl t0 el42 rfl (e1 rfl) (by kernel_rfl) rfl) fun u2 F1 d0 W1=>?_
 have C0:=Rep.nilAt (α:=Int) d0 L
 have u0:=d0.nilRow 101 (Rep.size Tb)
 refine bk h fun F2 z1 h=>RG.doesL .plain rfl (AW (α:=Tb) (ys:=([(⟨⟨#[97]⟩,(10:Int),([]:List Int),([]:List Int),([]:List Int),false⟩:Tb)]:List Tb)) z1 u0 (fun _ _=>.hd) el42 rfl rfl (Ax (cs:=[]) (xs:=([]:List Tb)) u0 L (AD _ _)) (Src.row (α:=Tb) u0 .t1 (Au (Ax (cs:=[.string ⟨#[97]⟩,vI 10,vN,vN,vN,.bool false]) (xs:=(([(⟨⟨#[97]⟩,(10:Int),([]:List Int),([]:List Int),([]:List Int),false⟩:Tb)]:List Tb):List Tb)) d0 L (Am (cs:=[.string ⟨#[97]⟩,vI 10,vN,vN,vN,.bool false]) (ds:=[]) (mk_Tb ⟨#[97]⟩ (10:Int) ([]:List Int) C0 ([]:List Int) C0 ([]:List Int) C0 false) (AD _ _))) (St.nilRowT d0 101 (Rep.size Tb))))) fun G0 v2 ⟨K1,v0,X1,s1⟩=>AV 3 rfl<|RG.now .plain (BP (j:=3) (old:=[vI 0,vI 0,vI 0,vN]) (news:=[G0]) (new' :=[vI 0,vI 0,vI 0,G0]) v0 .t2 rfl rfl rfl (St.c1 (α:=Tb) v0 .hd) rfl rfl (o1 (St.o1 (α:=Tb) v0 .hd)) rfl) fun x2 M0 W0=>Aa<|AA<|Av<|Ab (FV.add (i:=0) (j:=1) (r:=1) rfl rfl (by decide))<|Ae rfl<|Aa<|MX.again1 ?_
 obtain ⟨x0,X0⟩:=AI M0 (.a0 .d1)
 refine Ac<|Ab (Bu (i:=1) (j:=4) rfl rfl)<|Aa<|Aj<|Bk rfl<|Aq<|Aj<|Ay<|Ac<|Ae rfl<|Ab (FV.idx1 (cs:=[.string ⟨#[97]⟩,.string ⟨#[98]⟩,.string ⟨#[99]⟩,.string ⟨#[100]⟩]) (k:=1) (m:=1) (len:=4) (by kernel_rfl) (by kernel_rfl) rfl rfl rfl (by omega) rfl)<|Af rfl<|Af rfl<|Aa<|Av<|AV 3 rfl<|AP rfl ((x0.memA .t1) 3 _ rfl)<|Ae rfl<|Ae rfl<|Ab (FV.add (i:=1) (j:=1) (r:=2) rfl rfl (by decide))<|Ab (FV.mul (i:=10) (j:=2) (r:=20) rfl rfl (by decide))<|Ab (AX (vs:=[.string ⟨#[98]⟩,vI 20]) (u:=.agg #[.string ⟨#[98]⟩,vI 20,vN,vN,vN,.bool false]) (e2 rfl rfl) (fun p=>by kernel_rfl)) ?_
 have c2:=Rep.nilAt (α:=Int) x0 L
 refine Ak .plain rfl (AE (α:=Tb) (xs:=([(⟨⟨#[98]⟩,(20:Int),([]:List Int),([]:List Int),([]:List Int),false⟩:Tb)]:List Tb)) (vs:=[.agg #[.string ⟨#[98]⟩,vI 20,vN,vN,vN,.bool false]]) (ds' :=[.string ⟨#[98]⟩,vI 20,vN,vN,vN,.bool false]) rfl x0 el42 rfl (e1 rfl) (by kernel_rfl) rfl) fun y2 G1 g0 Y0=>?_
 have D0:=Rep.nilAt (α:=Int) g0 L
 refine bk h fun G2 A1 h=>RG.doesL .plain rfl (AW (α:=Tb) (ys:=([(⟨⟨#[98]⟩,(20:Int),([]:List Int),([]:List Int),([]:List Int),false⟩:Tb)]:List Tb)) A1 g0 (fun _ _=>.t1) el42 rfl rfl (Au s1 (Tt W0 (Tt X0 Y0))) (Src.row (α:=Tb) g0 .hd (Ax (cs:=[.string ⟨#[98]⟩,vI 20,vN,vN,vN,.bool false]) (xs:=(([(⟨⟨#[98]⟩,(20:Int),([]:List Int),([]:List Int),([]:List Int),false⟩:Tb)]:List Tb):List Tb)) g0 L (Am (cs:=[.string ⟨#[98]⟩,vI 20,vN,vN,vN,.bool false]) (ds:=[]) (mk_Tb ⟨#[98]⟩ (20:Int) ([]:List Int) D0 ([]:List Int) D0 ([]:List Int) D0 false) (AD _ _))))) fun H0 z2 ⟨M1,y0,Y1,u1⟩=>AV 3 rfl<|RG.now .plain (BP (j:=3) (old:=[vI 0,vI 0,vI 0,G0]) (news:=[H0]) (new' :=[vI 0,vI 0,vI 0,H0]) y0 .t2 rfl rfl rfl (St.c1 (α:=Tb) y0 .t1) rfl rfl (o1 (St.o1 (α:=Tb) y0 .t1)) rfl) fun A2 P0 Z0=>Aa<|AA<|Av<|Ab (FV.add (i:=1) (j:=1) (r:=2) rfl rfl (by decide))<|Ae rfl<|Aa<|MX.again1 ?_
 obtain ⟨z0,b1⟩:=AI P0 .d1
 refine Ac<|Ab (Bu (i:=2) (j:=4) rfl rfl)<|Aa<|Aj<|Bk rfl<|Aq<|Aj<|Ay<|Ac<|Ae rfl<|Ab (FV.idx1 (cs:=[.string ⟨#[97]⟩,.string ⟨#[98]⟩,.string ⟨#[99]⟩,.string ⟨#[100]⟩]) (k:=2) (m:=1) (len:=4) (by kernel_rfl) (by kernel_rfl) rfl rfl rfl (by omega) rfl)<|Af rfl<|Af rfl<|Aa<|Av<|AV 3 rfl<|AP rfl ((z0.memA .t1) 3 _ rfl)<|Ae rfl<|Ae rfl<|Ab (FV.add (i:=2) (j:=1) (r:=3) rfl rfl (by decide))<|Ab (FV.mul (i:=10) (j:=3) (r:=30) rfl rfl (by decide))<|Ab (AX (vs:=[.string ⟨#[99]⟩,vI 30]) (u:=.agg #[.string ⟨#[99]⟩,vI 30,vN,vN,vN,.bool false]) (e2 rfl rfl) (fun p=>by kernel_rfl)) ?_
 have d2:=Rep.nilAt (α:=Int) z0 L
 refine Ak .plain rfl (AE (α:=Tb) (xs:=([(⟨⟨#[99]⟩,(30:Int),([]:List Int),([]:List Int),([]:List Int),false⟩:Tb)]:List Tb)) (vs:=[.agg #[.string ⟨#[99]⟩,vI 30,vN,vN,vN,.bool false]]) (ds' :=[.string ⟨#[99]⟩,vI 30,vN,vN,vN,.bool false]) rfl z0 el42 rfl (e1 rfl) (by kernel_rfl) rfl) fun B2 H1 j0 g1=>?_
 have E0:=Rep.nilAt (α:=Int) j0 L
 refine bk h fun H2 B1 h=>RG.doesL .plain rfl (AW (α:=Tb) (ys:=([(⟨⟨#[99]⟩,(30:Int),([]:List Int),([]:List Int),([]:List Int),false⟩:Tb)]:List Tb)) B1 j0 (fun _ _=>.t1) el42 rfl rfl (Au u1 (Tt Z0 (Tt b1 g1))) (Src.row (α:=Tb) j0 .hd (Ax (cs:=[.string ⟨#[99]⟩,vI 30,vN,vN,vN,.bool false]) (xs:=(([(⟨⟨#[99]⟩,(30:Int),([]:List Int),([]:List Int),([]:List Int),false⟩:Tb)]:List Tb):List Tb)) j0 L (Am (cs:=[.string ⟨#[99]⟩,vI 30,vN,vN,vN,.bool false]) (ds:=[]) (mk_Tb ⟨#[99]⟩ (30:Int) ([]:List Int) E0 ([]:List Int) E0 ([]:List Int) E0 false) (AD _ _))))) fun I0 C2 ⟨P1,A0,Z1,v1⟩=>AV 3 rfl<|RG.now .plain (BP (j:=3) (old:=[vI 0,vI 0,vI 0,H0]) (news:=[I0]) (new' :=[vI 0,vI 0,vI 0,I0]) A0 .t2 rfl rfl rfl (St.c1 (α:=Tb) A0 .t1) rfl rfl (o1 (St.o1 (α:=Tb) A0 .t1)) rfl) fun D2 Q0 j1=>Aa<|AA<|Av<|Ab (FV.add (i:=2) (j:=1) (r:=3) rfl rfl (by decide))<|Ae rfl<|Aa<|MX.again1 ?_
 obtain ⟨B0,k1⟩:=AI Q0 .d1
 refine Ac<|Ab (Bu (i:=3) (j:=4) rfl rfl)<|Aa<|Aj<|Bk rfl<|Aq<|Aj<|Ay<|Ac<|Ae rfl<|Ab (FV.idx1 (cs:=[.string ⟨#[97]⟩,.string ⟨#[98]⟩,.string ⟨#[99]⟩,.string ⟨#[100]⟩]) (k:=3) (m:=1) (len:=4) (by kernel_rfl) (by kernel_rfl) rfl rfl rfl (by omega) rfl)<|Af rfl<|Af rfl<|Aa<|Av<|AV 3 rfl<|AP rfl ((B0.memA .t1) 3 _ rfl)<|Ae rfl<|Ae rfl<|Ab (FV.add (i:=3) (j:=1) (r:=4) rfl rfl (by decide))<|Ab (FV.mul (i:=10) (j:=4) (r:=40) rfl rfl (by decide))<|Ab (AX (vs:=[.string ⟨#[100]⟩,vI 40]) (u:=.agg #[.string ⟨#[100]⟩,vI 40,vN,vN,vN,.bool false]) (e2 rfl rfl) (fun p=>by kernel_rfl)) ?_
 have g2:=Rep.nilAt (α:=Int) B0 L
 refine Ak .plain rfl (AE (α:=Tb) (xs:=([(⟨⟨#[100]⟩,(40:Int),([]:List Int),([]:List Int),([]:List Int),false⟩:Tb)]:List Tb)) (vs:=[.agg #[.string ⟨#[100]⟩,vI 40,vN,vN,vN,.bool false]]) (ds' :=[.string ⟨#[100]⟩,vI 40,vN,vN,vN,.bool false]) rfl B0 el42 rfl (e1 rfl) (by kernel_rfl) rfl) fun E2 I1 k0 p1=>?_
 have F0:=Rep.nilAt (α:=Int) k0 L
 refine bk h fun C1 y1 h=>RG.doesL .plain rfl (AW (α:=Tb) (ys:=([(⟨⟨#[100]⟩,(40:Int),([]:List Int),([]:List Int),([]:List Int),false⟩:Tb)]:List Tb)) y1 k0 (fun _ _=>.t1) el42 rfl rfl (Au v1 (Tt j1 (Tt k1 p1))) (Src.row (α:=Tb) k0 .hd (Ax (cs:=[.string ⟨#[100]⟩,vI 40,vN,vN,vN,.bool false]) (xs:=(([(⟨⟨#[100]⟩,(40:Int),([]:List Int),([]:List Int),([]:List Int),false⟩:Tb)]:List Tb):List Tb)) k0 L (Am (cs:=[.string ⟨#[100]⟩,vI 40,vN,vN,vN,.bool false]) (ds:=[]) (mk_Tb ⟨#[100]⟩ (40:Int) ([]:List Int) F0 ([]:List Int) F0 ([]:List Int) F0 false) (AD _ _))))) fun b0 j2 ⟨J1,p0,Q1,q1⟩=>AV 3 rfl<|RG.now .plain (BP (j:=3) (old:=[vI 0,vI 0,vI 0,I0]) (news:=[b0]) (new' :=[vI 0,vI 0,vI 0,b0]) p0 .t2 rfl rfl rfl (St.c1 (α:=Tb) p0 .t1) rfl rfl (o1 (St.o1 (α:=Tb) p0 .t1)) rfl) fun p2 J0 R0=>Aa<|AA<|Av<|Ab (FV.add (i:=3) (j:=1) (r:=4) rfl rfl (by decide))<|Ae rfl<|Aa<|MX.again1 ?_
 obtain ⟨q0,U0⟩:=AI J0 .d1
 refine Ac<|Ab (Bu (i:=4) (j:=4) rfl rfl)<|Aa<|Aj<|BF rfl<|Ba rfl<|Ac<|Ab (AK rfl (q0.memA .t1))<|AQ [vI 0,vI 0,vI 0,b0] q0 .t2 (o4 rfl rfl rfl (St.o1 (α:=Tb) q0 .hd)) fun q2 s0 V0=>Aa<|Al rfl ?_
 have c0:=By s0 .hd
 have R1:=Bz s0 .hd
 have x1:=BA (α:=Tb) (v:=b0) (xs:=C1) c0 L (Bj (α:=Tb) s0 .hd (Au q1 (Tt R0 (Tt U0 V0))) hL)
 refine Ap hb0 Tryz.func25 rfl (.cons (.many (cs:=[vI 0,vI 0,vI 0,b0]) (by kernel_rfl) rfl (c0.memA .t1)) .nil) rfl ?_
 cases h
 exact ⟨c0.ag,fun p q=>⟨b0,rfl,c0.kd x1 q⟩⟩
def aX_p (n:Nat) (a0:Int) (a1:Int):Option Ta:=
  (cW_p n a0 a1).bind fun b0=>some b0.1
theorem aX_c (n:Nat) (L:List Nat) (w:World) (hL:∀ b ∈ L,b < w.heap.size) {a0:Int} {a1:Int}  {r:Ta} (h:aX_p n a0 a1 = some r) :
    Calls Tryz.prog 26 #[vI a0,vI a1] w (Gives w fun _ u=>u = .agg ((cs_Ta r)).toArray):=by
 unfold aX_p at h
 refine AF Tryz.func26 rfl rfl rfl fun _ cs0 hb0=>Ac<|RG.nl zL (AB w) fun x0 p0 c0 s0=>Aa<|Ac<|Ae rfl<|Ae rfl<|bk h fun b0 k0 h=>Bi (.tuple #[.agg ((cs_Ta b0.1)).toArray,vI b0.2]) body68 rfl (e2 rfl rfl) (fun p q=>cW_c n _ p (c0.hL0 hL q)  k0) rfl<|Ae rfl<|Ab (Ah rfl rfl)<|Ab (Ah rfl rfl)<|RG.nl zL c0 fun y0 q0 j0 t0=>AQ (cs_Ta b0.1) j0 .hd (onesB rfl) fun z0 d0 u0=>Af rfl<|Aa<|Ac<|Ab (AK rfl (d0.memA .hd))<|AQ (cs_Ta b0.1) d0 .t1 (onesB rfl) fun A0 g0 v0=>Aa<|Al rfl<|Ap hb0 Tryz.func26 rfl (.cons (.many (cs:=(cs_Ta b0.1)) (by kernel_rfl) rfl (g0.memA .t1)) .nil) rfl ?_
 cases h
 exact g0.gv
def tb19_6:List (Nat × Nat × Nat):=[(0,65536,1),(0,131072,32),(3,262144,196608),(4,524288,262144),(0,1048576,2),(0,2097152,32),(48,4194304,3145728),(64,8388608,4194304),(136,16777216,8912896)]
def aJ_l1 (_n:Nat) (a0:List Int) (a1:List Int) (b0:Nat -> Option (Bool ⊕ Unit)):Nat -> Option (Bool ⊕ Unit)
  | i32=>(if i32 < a0.length then (a0[i32]?).bind fun c0=>(a1[i32]?).bind fun d0=>(if c0 = d0 then b0 (i32 + 1) else some (.inl false)) else some (.inr ()))
def aJ_p (n:Nat) (a0:List Int) (a1:List Int):Option Bool:=
  (if a0.length = a1.length then thn (loopF (aJ_l1 n a0 a1) n 0) (fun _=>some true) else some false)
theorem aJ_c (n:Nat) (L:List Nat) (w:World) (_hL:∀ b ∈ L,b < w.heap.size) {a0:List Int} {v0_0:Value} (h0_0:Rep.R w L [v0_0] a0) {a1:List Int} {v1_0:Value} (h1_0:Rep.R w L [v1_0] a1)  {r:Bool} (h:aJ_p n a0 a1 = some r) :
    Calls Tryz.prog 19 #[v0_0,v1_0] w (Gives w fun _ u=>u = .bool r):=by
 unfold aJ_p at h
 have hS0:=AB w
 refine AF Tryz.func19 rfl rfl rfl fun _ cs0 hb0=>Ac<|Af rfl<|Aa<|Aj<|Ac<|Ae rfl ?_
 have hl1:a0.length <= 281474976710656:=AY h0_0
 refine Ab (Bc (xs:=a0) Tryz.underlying45 rfl h0_0)<|Ae rfl ?_
 have hl2:a1.length <= 281474976710656:=AY h1_0
 refine Ab (Bc (xs:=a1) Tryz.underlying45 rfl h1_0)<|Ab (FV.neqN (i:=a0.length) (j:=a1.length) rfl rfl)<|Aa<|MX.ifn rfl h (fun c3 h=>?_) (fun c3 h=>?_)
 refine Aq<|Aj<|Ac<|Ae rfl<|Ab (Bc (xs:=a0) Tryz.underlying45 rfl h0_0)<|Ae rfl<|Aa<|Ay<|tn h fun U0 F0 g0=>MX.lo (α:=Nat) (fun i32=>[(0,v0_0),(1,v1_0),(12,vI ((a0.length:Nat):Int)),(13,vI ((i32:Nat):Int))]) (fun i32=>[]) (fun i32=>i32) 0 F0 hS0 ?_
 rintro P0 i32 V0 u0 d0 v0 h
 unfold aJ_l1 at h
 try dsimp only at h
 refine Ac<|Ab (Bu (i:=i32) (j:=a0.length) rfl rfl)<|Aa<|Aj<|AS rfl h (fun p0 h=>?_) (fun p0 h=>?_)
 refine Aq<|Aj<|Ay<|Ac<|Ae rfl<|Af rfl<|Aa<|Aj<|dt 9 tb19_6 fun b0 c0=>Ag 0 1 b0 rfl c0 (fun _=>Ai rfl) rfl<|Ag 1 3 b0 rfl c0 (fun _=>Ai rfl) rfl<|bk h fun j0 I0 h=>?_
 obtain ⟨K0,Q0,x0,B0,s0,G0,D0⟩:=Bl (AO h0_0 d0) I0
 have y0:s0 = [vI j0]:=G0; subst y0
 refine Ag 2 7 b0 rfl c0 (fun _=>Bm 1 i32 rfl x0 rfl rfl B0) rfl<|AG 3 15 256 b0 rfl c0 (AL rfl (D0 0 _ rfl)) rfl<|Ag 4 31 b0 rfl c0 (fun _=>Ai rfl) rfl<|Ag 5 63 b0 rfl c0 (fun _=>Ai rfl) rfl<|bk h fun k0 J0 h=>?_
 obtain ⟨M0,R0,z0,C0,t0,H0,E0⟩:=Bl (AO h1_0 d0) J0
 have A0:t0 = [vI k0]:=H0; subst A0
 refine Ag 6 127 b0 rfl c0 (fun _=>Bm 1 i32 rfl z0 rfl rfl C0) rfl<|AG 7 255 256 b0 rfl c0 (AL rfl (E0 0 _ rfl)) rfl<|Ag 8 511 b0 rfl c0 (fun _=>FV.neq (i:=j0) (j:=k0) rfl rfl) rfl<|AM (dk b0)<|MX.ifn rfl h (fun q0 h=>?_) (fun q0 h=>?_)
 refine Aq<|AA<|Av<|Ab (Bw (i:=i32) (j:=1) rfl rfl (by omega))<|Ae rfl<|Aa<|u0 (i32 + 1) d0 v0 h
 refine Ac<|Af rfl<|Aa ?_
 have h:=thn_inl h g0
 refine Al rfl<|AT hb0 Tryz.func19 rfl rfl ?_
 cases h
 exact d0.gv
 refine Ba rfl ?_
 have h:=thn_inr h g0
 try dsimp only at h
 refine Ac<|Af rfl<|Aa<|Al rfl<|AT hb0 Tryz.func19 rfl rfl ?_
 cases h
 exact d0.gv
 refine Ac<|Af rfl<|Aa<|Al rfl<|AT hb0 Tryz.func19 rfl rfl ?_
 cases h
 exact hS0.gv
theorem body19:bodyB Tryz.prog 19 = true:=by kernel_rfl
def cJ_p (n:Nat) (a0:List Int) (a1:Int) (a2:List Int):Option Bool:=
  (aJ_p n a0 a2).bind fun y1=>(if y1 = true then some (decide (a1 = 0)) else some false)
theorem cJ_c (n:Nat) (L:List Nat) (w:World) (hL:∀ b ∈ L,b < w.heap.size) {a0:List Int} {v0_0:Value} (h0_0:Rep.R w L [v0_0] a0) {a1:Int} {a2:List Int} {v2_0:Value} (h2_0:Rep.R w L [v2_0] a2) {p2:Nat} (m2:∀ j9 v9,([v2_0]:List Value)[j9]? = some v9 -> w.cell? ((⟨p2,0,none⟩:Addr).add j9) = some v9)  {r:Bool} (h:cJ_p n a0 a1 a2 = some r) :
    Calls Tryz.prog 69 #[v0_0,vI a1,.pointer (some ⟨p2,0,none⟩)] w (Gives w fun _ u=>u = .bool r):=by
 unfold cJ_p at h
 have hS0:=AB w
 refine AF Tryz.func69 rfl rfl rfl fun _ cs0 hb0=>Ac<|Af rfl<|Aa<|Ac<|Ae rfl<|AP rfl ((fun j9 v9 h9=>hS0.ag.cell0 (m2 j9 v9 h9)) 0 _ rfl)<|bk h fun y1 hy1 h=>Bi (.bool y1) body19 rfl (e2 rfl rfl) (fun p q=>aJ_c n _ p (hS0.hL0 hL q) (hS0.kd h0_0 q) (hS0.kd h2_0 q) hy1) rfl<|Ae rfl<|RG.ifb (s:=9) rfl h (fun c2 h=>?_) (fun c2 h=>?_)
 refine AJ (Ai rfl)<|AJ (FV.eql (i:=a1) (j:=0) rfl rfl)<|Br rfl rfl<|Af rfl<|Aa<|Al rfl<|AT hb0 Tryz.func69 rfl rfl ?_
 cases h
 exact hS0.gv
 refine Aw<|Aw<|Bx rfl rfl<|Af rfl<|Aa<|Al rfl<|AT hb0 Tryz.func69 rfl rfl ?_
 cases h
 exact hS0.gv
theorem dr_c (_n:Nat) (L:List Nat) (w:World) (_hL:∀ b ∈ L,b < w.heap.size) (a0:List Int) {v0_0:Value} (h0_0:Rep.R w L [v0_0] a0)  :
    Calls Tryz.prog 27 #[v0_0] w (Gives w fun w' u=>∃ b0:Nat,u = .func (.func 69) #[] #[vP b0]/\St w w' [.cells b0 [v0_0] 45]):=by
 refine AF Tryz.func27 rfl rfl rfl fun _ cs0 hb0=>Ac<|RG.bx (AB w) rfl (Rep.c1 h0_0) fun g0 b0 c0 d0=>Af rfl<|Aa<|Ac<|Ab (BN (vs:=[]) (us:=[vP b0]) evs_nil (e1 rfl))<|Af rfl<|Aa<|Al rfl<|Ap (u:=.func (.func 69) #[] #[vP b0]) hb0 Tryz.func27 rfl (.cons (.tmp rfl) .nil) rfl<|⟨c0.ag,fun p q=>⟨b0,rfl,c0.agree q⟩⟩
def tb70_1:List (Nat × Nat × Nat):=[(0,128,16),(0,256,4),(0,512,8),(6,1024,768),(9,2048,1152),(24,4096,2048),(32,8192,4098),(96,16384,12288),(160,32768,20480),(511,64,32768)]
theorem body26:bodyB Tryz.prog 26 = true:=by kernel_rfl
theorem ex_Ta {a b:Ta} (h0:a.fN.1 = b.fN.1) (h1:a.fN.2.1 = b.fN.2.1) (h2:a.fN.2.2.1 = b.fN.2.2.1) (h3:a.fN.2.2.2.1 = b.fN.2.2.2.1) (h4:a.fN.2.2.2.2.1 = b.fN.2.2.2.2.1) (h5:a.fN.2.2.2.2.2.1 = b.fN.2.2.2.2.2.1) (h6:a.fN.2.2.2.2.2.2.1 = b.fN.2.2.2.2.2.2.1) (h7:a.fN.2.2.2.2.2.2.2 = b.fN.2.2.2.2.2.2.2) (h8:a.fD.1 = b.fD.1) (h9:a.fD.2.1 = b.fD.2.1) (b0:a.fD.2.2.1 = b.fD.2.2.1) (c0:a.fD.2.2.2.1 = b.fD.2.2.2.1) (d0:a.fD.2.2.2.2.1 = b.fD.2.2.2.2.1) (g0:a.fD.2.2.2.2.2.1 = b.fD.2.2.2.2.2.1) (j0:a.fD.2.2.2.2.2.2.1 = b.fD.2.2.2.2.2.2.1) (k0:a.fD.2.2.2.2.2.2.2 = b.fD.2.2.2.2.2.2.2):a = b:=congr (congrArg Ta.mk (ex_A34 (a:=a.fN) (b:=b.fN) h0 h1 h2 h3 h4 h5 h6 h7)) (ex_A34 (a:=a.fD) (b:=b.fD) h8 h9 b0 c0 d0 g0 j0 k0)
theorem eqlD_37 (a b:Ta) (p:World):(do eqGuard .eql 37 (.tmp 0) (.tmp 0) (.agg #[vU a.fN.1,vU a.fN.2.1,vU a.fN.2.2.1,vU a.fN.2.2.2.1,vU a.fN.2.2.2.2.1,vU a.fN.2.2.2.2.2.1,vU a.fN.2.2.2.2.2.2.1,vU a.fN.2.2.2.2.2.2.2,vU a.fD.1,vU a.fD.2.1,vU a.fD.2.2.1,vU a.fD.2.2.2.1,vU a.fD.2.2.2.2.1,vU a.fD.2.2.2.2.2.1,vU a.fD.2.2.2.2.2.2.1,vU a.fD.2.2.2.2.2.2.2]) (.agg #[vU b.fN.1,vU b.fN.2.1,vU b.fN.2.2.1,vU b.fN.2.2.2.1,vU b.fN.2.2.2.2.1,vU b.fN.2.2.2.2.2.1,vU b.fN.2.2.2.2.2.2.1,vU b.fN.2.2.2.2.2.2.2,vU b.fD.1,vU b.fD.2.1,vU b.fD.2.2.1,vU b.fD.2.2.2.1,vU b.fD.2.2.2.2.1,vU b.fD.2.2.2.2.2.1,vU b.fD.2.2.2.2.2.2.1,vU b.fD.2.2.2.2.2.2.2]); binOp .eql 37 (.agg #[vU a.fN.1,vU a.fN.2.1,vU a.fN.2.2.1,vU a.fN.2.2.2.1,vU a.fN.2.2.2.2.1,vU a.fN.2.2.2.2.2.1,vU a.fN.2.2.2.2.2.2.1,vU a.fN.2.2.2.2.2.2.2,vU a.fD.1,vU a.fD.2.1,vU a.fD.2.2.1,vU a.fD.2.2.2.1,vU a.fD.2.2.2.2.1,vU a.fD.2.2.2.2.2.1,vU a.fD.2.2.2.2.2.2.1,vU a.fD.2.2.2.2.2.2.2]) (.agg #[vU b.fN.1,vU b.fN.2.1,vU b.fN.2.2.1,vU b.fN.2.2.2.1,vU b.fN.2.2.2.2.1,vU b.fN.2.2.2.2.2.1,vU b.fN.2.2.2.2.2.2.1,vU b.fN.2.2.2.2.2.2.2,vU b.fD.1,vU b.fD.2.1,vU b.fD.2.2.1,vU b.fD.2.2.2.1,vU b.fD.2.2.2.2.1,vU b.fD.2.2.2.2.2.1,vU b.fD.2.2.2.2.2.2.1,vU b.fD.2.2.2.2.2.2.2]):Sem Value).run Tryz.prog p = .ok (.bool (decide (a = b))) p:=
  eqAgg (ks:=[.int .u64,.int .u64,.int .u64,.int .u64,.int .u64,.int .u64,.int .u64,.int .u64,.int .u64,.int .u64,.int .u64,.int .u64,.int .u64,.int .u64,.int .u64,.int .u64]) (xs:=[vU a.fN.1,vU a.fN.2.1,vU a.fN.2.2.1,vU a.fN.2.2.2.1,vU a.fN.2.2.2.2.1,vU a.fN.2.2.2.2.2.1,vU a.fN.2.2.2.2.2.2.1,vU a.fN.2.2.2.2.2.2.2,vU a.fD.1,vU a.fD.2.1,vU a.fD.2.2.1,vU a.fD.2.2.2.1,vU a.fD.2.2.2.2.1,vU a.fD.2.2.2.2.2.1,vU a.fD.2.2.2.2.2.2.1,vU a.fD.2.2.2.2.2.2.2]) (ys:=[vU b.fN.1,vU b.fN.2.1,vU b.fN.2.2.1,vU b.fN.2.2.2.1,vU b.fN.2.2.2.2.1,vU b.fN.2.2.2.2.2.1,vU b.fN.2.2.2.2.2.2.1,vU b.fN.2.2.2.2.2.2.2,vU b.fD.1,vU b.fD.2.1,vU b.fD.2.2.1,vU b.fD.2.2.2.1,vU b.fD.2.2.2.2.1,vU b.fD.2.2.2.2.2.1,vU b.fD.2.2.2.2.2.2.1,vU b.fD.2.2.2.2.2.2.2]) (by kernel_rfl) (by kernel_rfl) (by kernel_rfl) rfl rfl ⟨fun h=>by
    simp only [allEq,veq,Bool.and_eq_true,beq_iff_eq,and_true] at h
    obtain ⟨h0,h1,h2,h3,h4,h5,h6,h7,h8,h9,b0,c0,d0,g0,j0,k0⟩:=h
    exact ex_Ta (UInt_inj64 h0) (UInt_inj64 h1) (UInt_inj64 h2) (UInt_inj64 h3) (UInt_inj64 h4) (UInt_inj64 h5) (UInt_inj64 h6) (UInt_inj64 h7) (UInt_inj64 h8) (UInt_inj64 h9) (UInt_inj64 b0) (UInt_inj64 c0) (UInt_inj64 d0) (UInt_inj64 g0) (UInt_inj64 j0) (UInt_inj64 k0),fun h=>by subst h; simp [allEq,veq]⟩ _ _ p
def cd_p (n:Nat) (a0:Ta) (a1:Int) (a2:Int) (a3:Int):Option Bool:=
  (aX_p n a2 a3).bind fun b0=>(if a0 = b0 then some (decide (a1 = 0)) else some false)
theorem cd_c (n:Nat) (L:List Nat) (w:World) (hL:∀ b ∈ L,b < w.heap.size) (a0:Ta) {a1:Int} {a2:Int} {p2:Nat} (m2:∀ j9 v9,([vI a2]:List Value)[j9]? = some v9 -> w.cell? ((⟨p2,0,none⟩:Addr).add j9) = some v9) {a3:Int} {p3:Nat} (m3:∀ j9 v9,([vI a3]:List Value)[j9]? = some v9 -> w.cell? ((⟨p3,0,none⟩:Addr).add j9) = some v9)  {r:Bool} (h:cd_p n a0 a1 a2 a3 = some r) :
    Calls Tryz.prog 70 #[.agg ((cs_Ta a0)).toArray,vI a1,.pointer (some ⟨p2,0,none⟩),.pointer (some ⟨p3,0,none⟩)] w (Gives w fun _ u=>u = .bool r):=by
 unfold cd_p at h
 refine AF Tryz.func70 rfl rfl rfl fun _ cs0 hb0=>Ac<|RG.bx (AB w) rfl rfl fun s0 p0 d0 q0=>Af rfl<|Aa<|Aj<|dt 10 tb70_1 fun b0 c0=>AG 0 1 1008 b0 rfl c0 (AK rfl (d0.memA .hd)) rfl<|AG 1 3 1016 b0 rfl c0 (AL rfl ((fun j9 v9 h9=>d0.ag.cell0 (m2 j9 v9 h9)) 0 _ rfl)) rfl<|AG 2 7 1016 b0 rfl c0 (AL rfl ((fun j9 v9 h9=>d0.ag.cell0 (m3 j9 v9 h9)) 0 _ rfl)) rfl<|bk h fun g0 k0 h=>BT 3 15 1008 (.agg ((cs_Ta g0)).toArray) b0 rfl c0 body26 rfl (e2 rfl rfl) (fun p q=>aX_c n _ p (d0.hL0 hL q)  k0) rfl<|Ag 4 31 b0 rfl c0 (fun _=>FV.eqlV (v:=.agg ((cs_Ta a0)).toArray) (u:=.agg ((cs_Ta g0)).toArray) rfl rfl (eqlD_37 a0 g0)) rfl<|Ag 5 63 b0 rfl c0 (fun _=>Ai rfl) rfl<|RD.ifd (s:=12) rfl h (fun j0 h=>?_) (fun j0 h=>?_)
 refine BO 6 127 b0 rfl c0 (.yes rfl rfl) (fun _=>Ai rfl) rfl<|BO 7 255 b0 rfl c0 (.yes rfl rfl) (fun _=>FV.eql (i:=a1) (j:=0) rfl rfl) rfl<|Ag 8 511 b0 rfl c0 (fun _=>BC rfl rfl) rfl<|Ag 9 1023 b0 rfl c0 (fun _=>AU rfl) rfl<|AM (dk b0)<|Al rfl<|AT hb0 Tryz.func70 rfl rfl ?_
 cases h
 exact d0.gv
 refine BD 255 2 [(6,13),(7,14)] (F:=[(12,false)]) (U:=[]) b0 c0 (.cons rfl .nil) .nil ?_
 dsimp only [offS,List.map]
 refine Ag 8 511 b0 rfl c0 (fun _=>Bh rfl rfl) rfl<|Ag 9 1023 b0 rfl c0 (fun _=>AU rfl) rfl<|AM (dk b0)<|Al rfl<|AT hb0 Tryz.func70 rfl rfl ?_
 cases h
 exact d0.gv
theorem dp_c (_n:Nat) (L:List Nat) (w:World) (_hL:∀ b ∈ L,b < w.heap.size) (a0:Int) (a1:Int)  :
    Calls Tryz.prog 28 #[vI a0,vI a1] w (Gives w fun w' u=>∃ b0 c0:Nat,u = .func (.func 70) #[] #[vP b0,vP c0]/\St w w' [.cells b0 [vI a0] 3,.cells c0 [vI a1] 3]):=by
 refine AF Tryz.func28 rfl rfl rfl fun _ cs0 hb0=>Ac<|RG.bx (AB w) rfl rfl fun t0 b0 j0 p0=>RG.bx j0 rfl rfl fun u0 c0 k0 q0=>Af rfl<|Aa<|Ac<|Ab (BN (vs:=[]) (us:=[vP b0,vP c0]) evs_nil (e2 rfl rfl))<|Af rfl<|Aa<|Al rfl<|Ap (u:=.func (.func 70) #[] #[vP b0,vP c0]) hb0 Tryz.func28 rfl (.cons (.tmp rfl) .nil) rfl ?_
 obtain ⟨g0,s0⟩:=AI k0 (.a1 .d0)
 exact ⟨g0.ag,fun p q=>⟨b0,c0,rfl,g0.agree q⟩⟩
def tb29_6:List (Nat × Nat × Nat):=[(0,65536,1),(0,131072,32),(3,262144,196608),(4,524288,262144),(0,1048576,2),(0,2097152,32),(48,4194304,3145728),(64,8388608,4194304),(136,16777216,8912896)]
def aK_l1 (_n:Nat) (a0:List Ta) (a1:List Ta) (c0:Nat -> Option (Bool ⊕ Unit)):Nat -> Option (Bool ⊕ Unit)
  | b0=>(if b0 < a0.length then (a0[b0]?).bind fun d0=>(a1[b0]?).bind fun g0=>(if d0 = g0 then c0 (b0 + 1) else some (.inl false)) else some (.inr ()))
def aK_p (n:Nat) (a0:List Ta) (a1:List Ta):Option Bool:=
  (if a0.length = a1.length then thn (loopF (aK_l1 n a0 a1) n 0) (fun _=>some true) else some false)
theorem aK_c (n:Nat) (L:List Nat) (w:World) (_hL:∀ b ∈ L,b < w.heap.size) {a0:List Ta} {v0_0:Value} (h0_0:Rep.R w L [v0_0] a0) {a1:List Ta} {v1_0:Value} (h1_0:Rep.R w L [v1_0] a1)  {r:Bool} (h:aK_p n a0 a1 = some r) :
    Calls Tryz.prog 29 #[v0_0,v1_0] w (Gives w fun _ u=>u = .bool r):=by
 unfold aK_p at h
 have hS0:=AB w
 refine AF Tryz.func29 rfl rfl rfl fun _ cs0 hb0=>Ac<|Af rfl<|Aa<|Aj<|Ac<|Ae rfl ?_
 have hl1:a0.length <= 281474976710656:=AY h0_0
 refine Ab (Bc (xs:=a0) Tryz.underlying63 rfl h0_0)<|Ae rfl ?_
 have hl2:a1.length <= 281474976710656:=AY h1_0
 refine Ab (Bc (xs:=a1) Tryz.underlying63 rfl h1_0)<|Ab (FV.neqN (i:=a0.length) (j:=a1.length) rfl rfl)<|Aa<|MX.ifn rfl h (fun c3 h=>?_) (fun c3 h=>?_)
 refine Aq<|Aj<|Ac<|Ae rfl<|Ab (Bc (xs:=a0) Tryz.underlying63 rfl h0_0)<|Ae rfl<|Aa<|Ay<|tn h fun R0 C0 j0=>MX.lo (α:=Nat) (fun b0=>[(0,v0_0),(1,v1_0),(12,vI ((a0.length:Nat):Int)),(13,vI ((b0:Nat):Int))]) (fun b0=>[]) (fun b0=>b0) 0 C0 hS0 ?_
 rintro J0 b0 U0 t0 g0 u0 h
 unfold aK_l1 at h
 try dsimp only at h
 refine Ac<|Ab (Bu (i:=b0) (j:=a0.length) rfl rfl)<|Aa<|Aj<|AS rfl h (fun q0 h=>?_) (fun q0 h=>?_)
 refine Aq<|Aj<|Ay<|Ac<|Ae rfl<|Af rfl<|Aa<|Aj<|dt 9 tb29_6 fun c0 d0=>Ag 0 1 c0 rfl d0 (fun _=>Ai rfl) rfl<|Ag 1 3 c0 rfl d0 (fun _=>Ai rfl) rfl<|bk h fun k0 F0 h=>?_
 obtain ⟨H0,K0,v0,y0,P0,D0,A0⟩:=Bl (AO h0_0 g0) F0
 obtain rfl:=op_Ta D0
 refine Ag 2 7 c0 rfl d0 (fun _=>Bm 16 b0 rfl v0 rfl rfl y0) rfl<|AG 3 15 256 c0 rfl d0 (AK rfl A0) rfl<|Ag 4 31 c0 rfl d0 (fun _=>Ai rfl) rfl<|Ag 5 63 c0 rfl d0 (fun _=>Ai rfl) rfl<|bk h fun p0 G0 h=>?_
 obtain ⟨I0,M0,x0,z0,Q0,E0,B0⟩:=Bl (AO h1_0 g0) G0
 obtain rfl:=op_Ta E0
 refine Ag 6 127 c0 rfl d0 (fun _=>Bm 16 b0 rfl x0 rfl rfl z0) rfl<|AG 7 255 256 c0 rfl d0 (AK rfl B0) rfl<|Ag 8 511 c0 rfl d0 (fun _=>FV.neqV (xs:=((cs_Ta k0)).toArray) (ys:=((cs_Ta p0)).toArray) rfl rfl (by kernel_rfl) (eqlD_37 k0 p0)) rfl<|AM (dk c0)<|MX.ifn rfl h (fun s0 h=>?_) (fun s0 h=>?_)
 refine Aq<|AA<|Av<|Ab (Bw (i:=b0) (j:=1) rfl rfl (by omega))<|Ae rfl<|Aa<|t0 (b0 + 1) g0 u0 h
 refine Ac<|Af rfl<|Aa ?_
 have h:=thn_inl h j0
 refine Al rfl<|AT hb0 Tryz.func29 rfl rfl ?_
 cases h
 exact g0.gv
 refine Ba rfl ?_
 have h:=thn_inr h j0
 try dsimp only at h
 refine Ac<|Af rfl<|Aa<|Al rfl<|AT hb0 Tryz.func29 rfl rfl ?_
 cases h
 exact g0.gv
 refine Ac<|Af rfl<|Aa<|Al rfl<|AT hb0 Tryz.func29 rfl rfl ?_
 cases h
 exact hS0.gv
def bW_p (_n:Nat) (a0:Bool) (a1:Int) (a2:Bool):Option Bool:=
  (if (a0 == a2) = true then some (decide (a1 = 0)) else some false)
theorem bW_c (n:Nat) (L:List Nat) (w:World) (_hL:∀ b ∈ L,b < w.heap.size) {a0:Bool} {a1:Int} {a2:Bool} {p2:Nat} (m2:∀ j9 v9,([.bool a2]:List Value)[j9]? = some v9 -> w.cell? ((⟨p2,0,none⟩:Addr).add j9) = some v9)  {r:Bool} (h:bW_p n a0 a1 a2 = some r) :
    Calls Tryz.prog 71 #[.bool a0,vI a1,.pointer (some ⟨p2,0,none⟩)] w (Gives w fun _ u=>u = .bool r):=by
 unfold bW_p at h
 have hS0:=AB w
 refine AF Tryz.func71 rfl rfl rfl fun _ cs0 hb0=>Ac<|Af rfl<|Aa<|Ac<|Ae rfl<|AP rfl ((fun j9 v9 h9=>hS0.ag.cell0 (m2 j9 v9 h9)) 0 _ rfl)<|Ab (FV.eqlB (a:=a0) (b:=a2) Tryz.underlying4 rfl rfl)<|Ae rfl<|RG.ifb (s:=9) rfl h (fun c1 h=>?_) (fun c1 h=>?_)
 refine AJ (Ai rfl)<|AJ (FV.eql (i:=a1) (j:=0) rfl rfl)<|Br rfl rfl<|Af rfl<|Aa<|Al rfl<|AT hb0 Tryz.func71 rfl rfl ?_
 cases h
 exact hS0.gv
 refine Aw<|Aw<|Bx rfl rfl<|Af rfl<|Aa<|Al rfl<|AT hb0 Tryz.func71 rfl rfl ?_
 cases h
 exact hS0.gv
theorem dj_c (_n:Nat) (L:List Nat) (w:World) (_hL:∀ b ∈ L,b < w.heap.size) (a0:Bool)  :
    Calls Tryz.prog 30 #[.bool a0] w (Gives w fun w' u=>∃ b0:Nat,u = .func (.func 71) #[] #[vP b0]/\St w w' [.cells b0 [.bool a0] 4]):=by
 refine AF Tryz.func30 rfl rfl rfl fun _ cs0 hb0=>Ac<|RG.bx (AB w) rfl rfl fun g0 b0 c0 d0=>Af rfl<|Aa<|Ac<|Ab (BN (vs:=[]) (us:=[vP b0]) evs_nil (e1 rfl))<|Af rfl<|Aa<|Al rfl<|Ap (u:=.func (.func 71) #[] #[vP b0]) hb0 Tryz.func30 rfl (.cons (.tmp rfl) .nil) rfl<|⟨c0.ag,fun p q=>⟨b0,rfl,c0.agree q⟩⟩
def tb5_3:List (Nat × Nat × Nat):=[(0,1048576,2),(0,2097152,0),(3,4194304,3145728),(4,524288,4194304),(8,8388608,524288),(8,16777216,524288),(8,33554432,524288),(31,32,8388608),(191,64,16777216),(511,128,33554432)]
def tb5_5:List (Nat × Nat × Nat):=[(0,4294967296,0),(1,8589934592,4294967296),(0,17179869184,2),(0,34359738368,4),(14,68719476736,51539607552),(16,137438953472,68719476736),(16,274877906944,68719476736),(114,549755813888,420906795008),(128,1099511627776,549755813888),(256,2199023255552,1099511627776),(256,4398046511104,1099511627778),(1792,8796093022208,5497558138880),(2304,17592186044416,9895604649984),(2304,35184372088832,9895604649984),(15104,70368744177664,56075093016576),(16640,140737488355328,71468255805440),(49152,281474976710656,140737488355328),(65536,562949953421312,281474976710664),(65536,1125899906842624,281474976710656),(327680,2251799813685248,281474976710656),(851968,4503599627370496,3659174697238528),(1769472,9007199254740992,5348024557502464),(2162688,18014398509481984,9288674231451648),(6291456,36028797018963968,18014398509481984),(8388608,72057594037927936,36028797018963984),(25165824,144115188075855872,108086391056891904),(41943040,288230376151711744,180143985094819840),(75497472,576460752303423488,288230376151711744),(134217728,1152921504606846976,576460752303423488),(134217728,2305843009213693952,576460752303423490),(134217728,4611686018427387904,576460752303423492),(2013265920,9223372036854775808,7493989779944505344),(2281701376,18446744073709551616,9799832789158199296),(2281701376,36893488147419103232,9799832789158199296),(15435038720,73786976294838206464,57069614478038925312),(17314086912,147573952589676412928,74363437047141629952),(68719476735,1024,147573952589676412928)]
def tb5_6:List (Nat × Nat × Nat):=[(0,295147905179352825856,1024),(1,590295810358705651712,295147905179352825856),(2,1180591620717411303424,590295810358705651744),(6,2361183241434822606848,1770887431076116955136),(10,4722366482869645213696,2951479051793528258560),(18,9444732965739290427392,4722366482869645213696),(32,18889465931478580854784,9444732965739290427456),(96,37778931862957161709568,28334198897217871282176),(160,75557863725914323419136,47223664828696452136960),(288,151115727451828646838272,75557863725914323419136),(512,302231454903657293676544,151115727451828646838400),(1536,604462909807314587353088,453347182355485940514816),(2560,1208925819614629174706176,755578637259143234191360),(4608,2417851639229258349412352,1208925819614629174706176),(8192,4835703278458516698824704,2417851639229258349412352),(8192,9671406556917033397649408,2417851639229258349412354),(8192,19342813113834066795298816,2417851639229258349412356),(24576,38685626227668133590597632,2417851639229258349412352),(237568,77371252455336267181195264,70117697537648492132958208),(270336,154742504910672534362390528,79789104094565525530607616),(270336,309485009821345068724781056,79789104094565525530607616),(1859584,618970019642690137449562112,471481069649705378135408640),(2105344,1237940039285380274899124224,621387871281919395798974464),(6291456,2475880078570760549798248448,1237940039285380274899124224),(8388608,4951760157141521099596496896,2475880078570760549798248448),(8388608,9903520314283042199192993792,2475880078570760549798248450),(8388608,19807040628566084398385987584,2475880078570760549798248452),(25165824,39614081257132168796771975168,2475880078570760549798248448),(243269632,79228162514264337593543950336,71800522278552055944149204992),(276824064,158456325028528675187087900672,81704042592835098143342198784),(276824064,316912650057057350374175801344,81704042592835098143342198784),(1904214016,633825300114114700748351602688,482796615321298307210658447360),(2155872256,1267650600228229401496703205376,636301180192685461298149851136),(6442450944,2535301200456458802993406410752,1267650600228229401496703205376),(8589934592,5070602400912917605986812821504,2535301200456458802993406411264),(25769803776,10141204801825835211973625643008,7605903601369376408980219232256),(42949672960,20282409603651670423947251286016,12676506002282294014967032053760),(137438953471,1,20282409603651670423947251286016)]
theorem el46:ElT Tryz.prog 46 3 (Rep.size Int) 8 (vI 0) [vI 0]:=⟨Tryz.underlying46,by kernel_rfl,rfl,rfl,rfl,rfl⟩
theorem body9:bodyB Tryz.prog 9 = true:=by kernel_rfl
theorem body11:bodyB Tryz.prog 11 = true:=by kernel_rfl
theorem body13:bodyB Tryz.prog 13 = true:=by kernel_rfl
theorem body15:bodyB Tryz.prog 15 = true:=by kernel_rfl
theorem body20:bodyB Tryz.prog 20 = true:=by kernel_rfl
theorem body22:bodyB Tryz.prog 22 = true:=by kernel_rfl
theorem body25:bodyB Tryz.prog 25 = true:=by kernel_rfl
theorem body27:bodyB Tryz.prog 27 = true:=by kernel_rfl
theorem body28:bodyB Tryz.prog 28 = true:=by kernel_rfl
theorem body29:bodyB Tryz.prog 29 = true:=by kernel_rfl
theorem body30:bodyB Tryz.prog 30 = true:=by kernel_rfl
theorem body69:bodyB Tryz.prog 69 = true:=by kernel_rfl
theorem body70:bodyB Tryz.prog 70 = true:=by kernel_rfl
theorem body71:bodyB Tryz.prog 71 = true:=by kernel_rfl
def cr_p (n:Nat):Option Bool:=
  (cI_p n).bind fun y1=>(cv_p n y1 ([(0:Int),(0:Int),(0:Int),(1:Int)]:List Int) (2:Int)).bind fun p0=>(aX_p n (1:Int) (10:Int)).bind fun E0=>(cV_p n y1 (3:Int) E0).bind fun c0=>(bB_p n y1 ([(0:Int),(0:Int),(0:Int),(0:Int)]:List Int) (2:Int)).bind fun F0=>jn (fun s0=>(if s0 = true then (if c0.1 = 30 then (if c0.2.1 = 36 then (if c0.2.2 = 0 then (aX_p n (1:Int) (5:Int)).bind fun t0=>(cH_p n y1 ([(0:Int),(0:Int),(0:Int),(1:Int)]:List Int) (2:Int) t0).bind fun d0=>(bW_p n d0.1 d0.2 true).bind fun u0=>(if u0 = true then (aX_p n (1:Int) (6:Int)).bind fun v0=>(cH_p n y1 ([(0:Int),(0:Int),(0:Int),(1:Int)]:List Int) (2:Int) v0).bind fun g0=>(bW_p n g0.1 g0.2 false).bind fun x0=>(if x0 = true then some (decide (F0.2 = 220)) else some false) else some false) else some false) else some false) else some false) else some false)) (fun b0=>(bB_p n y1 ([(0:Int),(0:Int),(0:Int),(1:Int)]:List Int) (2:Int)).bind fun j0=>(cJ_p n j0.1 j0.2 ([(60:Int),(40:Int)]:List Int)).bind fun y0=>(if y0 = true then (ck_p n y1 (2:Int)).bind fun k0=>(cd_p n k0.1 k0.2 (50:Int) (1:Int)).bind fun z0=>(if z0 = true then (aX_p n (1:Int) (5:Int)).bind fun A0=>(aX_p n (-1:Int) (5:Int)).bind fun B0=>(aK_p n p0.1 ([A0,B0]:List Ta)).bind fun C0=>(if C0 = true then (if p0.2 = 0 then (bT_p n y1 ([(0:Int),(0:Int),(0:Int),(1:Int)]:List Int) (2:Int)).bind fun q0=>(cd_p n q0.1 q0.2 (2:Int) (5:Int)).bind fun D0=>b0 D0 else b0 false) else b0 false) else b0 false) else b0 false))
theorem cr_c (n:Nat) (L:List Nat) (w:World) (hL:∀ b ∈ L,b < w.heap.size)  {r:Bool} (h:cr_p n = some r) :
    Calls Tryz.prog 5 #[] w (Gives w fun _ u=>u = .bool r):=by
 unfold cr_p at h
 have hS0:=AB w
 refine AF Tryz.func5 rfl rfl rfl fun _ cs0 hb0=>Ac<|Af rfl<|Aa<|Ac<|bk h fun y1 hy1 h=>AZ (fst:=[]) (cap:=[]) .plain body25 rfl evs_nil (fun p q=>cI_c n _ p (hS0.hL hL q)  hy1) rfl fun w2 vu3 hag4 ⟨v7,hu_,hr8⟩=>?_
 subst hu_
 obtain ⟨hS5,hT6⟩:=hS0.agr hag4
 refine Ak .plain rfl (AE (α:=Int) (xs:=([(0:Int),(0:Int),(0:Int),(1:Int)]:List Int)) (vs:=[vI 0,vI 0,vI 0,vI 1]) (ds' :=[vI 0,vI 0,vI 0,vI 1]) rfl hS5 el46 rfl (e4 rfl rfl rfl rfl) (by kernel_rfl) rfl) fun G4 C1 F1 H1=>RG.nl [vI 0,vI 0,vI 0,vN] F1 fun H4 E1 F2 u1=>AQ [vI y1.fe,vI y1.fh,vI y1.fj,v7] F2 .hd (o4 rfl rfl rfl (AR (Ao hr8 (Tt H1 u1)))) fun K4 b1 M1=>Af rfl<|Aa<|Ac<|Ab (AK rfl (b1.memA .hd))<|Ae rfl ?_
 have p1:=By b1 .t1
 have K0:=BA (α:=Int) (v:=(vS C1 4)) (xs:=([(0:Int),(0:Int),(0:Int),(1:Int)]:List Int)) p1 L (Bj (α:=Int) b1 .t1 (Au (Ax (cs:=[vI 0,vI 0,vI 0,vI 1]) (xs:=(([(0:Int),(0:Int),(0:Int),(1:Int)]:List Int):List Int)) F1 L (Am (cs:=[vI 0]) (ds:=[vI 0,vI 0,vI 1]) rfl (Am (cs:=[vI 0]) (ds:=[vI 0,vI 1]) rfl (Am (cs:=[vI 0]) (ds:=[vI 1]) rfl (Am (cs:=[vI 1]) (ds:=[]) rfl (AD _ _)))))) (Tt u1 M1)) hL)
 refine bk h fun Y3 D3 h=>?_
 have x1:=Tt H1 (Tt u1 (Tt M1 (Bz b1 .t1)))
 refine AZ (fst:=[]) (cap:=[]) .plain body20 rfl (e3 rfl rfl rfl) (fun p q=>cv_c n _ p (p1.hL hL q) y1 (Ar (Ao hr8 x1) q) (Ar K0 q) D3) rfl fun Q4 E4 W2 ⟨v4,hu_,Z2⟩=>?_
 subst hu_
 obtain ⟨G0,g1⟩:=p1.agr W2
 refine Ae rfl<|Ab (Ah rfl rfl)<|Ab (Ah rfl rfl)<|Af rfl<|Af rfl<|Aa<|Aj<|dt 10 tb5_3 fun k0 q0=>AG 0 1 1020 k0 rfl q0 (AK rfl (G0.memA .hd)) rfl<|bk h fun q2 H3 h=>BT 1 3 1020 (.agg ((cs_Ta q2)).toArray) k0 rfl q0 body26 rfl (e2 rfl rfl) (fun p q=>aX_c n _ p (G0.hL0 hL q)  H3) rfl<|bk h fun z0 I3 h=>BT 2 7 1016 (.tuple #[vI z0.1,vI z0.2.1,vI z0.2.2]) k0 rfl q0 body9 rfl (e3 rfl rfl rfl) (fun p q=>cV_c n _ p (G0.hL0 hL q) y1 (G0.kd (Ao hr8 (Tt x1 g1)) q) q2 I3) rfl<|Ag 3 15 k0 rfl q0 (fun _=>Ai rfl) rfl<|Ag 4 31 k0 rfl q0 (fun _=>Ah rfl rfl) rfl<|Ag 5 63 k0 rfl q0 (fun _=>Ah rfl rfl) rfl<|Ag 6 127 k0 rfl q0 (fun _=>Ah rfl rfl) rfl<|Ag 7 255 k0 rfl q0 (fun _=>AU rfl) rfl<|Ag 8 511 k0 rfl q0 (fun _=>AU rfl) rfl<|Ag 9 1023 k0 rfl q0 (fun _=>AU rfl) rfl<|AM (dk k0)<|Ac<|Ab (AK rfl (G0.memA .hd))<|Ak .plain rfl (AE (α:=Int) (xs:=([(0:Int),(0:Int),(0:Int),(0:Int)]:List Int)) (vs:=[vI 0,vI 0,vI 0,vI 0]) (ds' :=[vI 0,vI 0,vI 0,vI 0]) rfl G0 el46 rfl (e4 rfl rfl rfl rfl) (by kernel_rfl) rfl) fun R4 t2 c1 j1=>?_
 have q1:=By c1 .hd
 have k1:=Bz c1 .hd
 refine bk h fun s2 J3 h=>?_
 have z1:=Tt x1 (Tt g1 (Tt j1 k1))
 refine AZ (fst:=[]) (cap:=[]) .plain body13 rfl (e3 rfl rfl rfl) (fun p q=>bB_c n _ p (q1.hL hL q) y1 (Ar (Ao hr8 z1) q) (Ar (BA (α:=Int) (v:=(vS t2 4)) (xs:=([(0:Int),(0:Int),(0:Int),(0:Int)]:List Int)) q1 L (Bj (α:=Int) c1 .hd (Ax (cs:=[vI 0,vI 0,vI 0,vI 0]) (xs:=(([(0:Int),(0:Int),(0:Int),(0:Int)]:List Int):List Int)) c1 L (Am (cs:=[vI 0]) (ds:=[vI 0,vI 0,vI 0]) rfl (Am (cs:=[vI 0]) (ds:=[vI 0,vI 0]) rfl (Am (cs:=[vI 0]) (ds:=[vI 0]) rfl (Am (cs:=[vI 0]) (ds:=[]) rfl (AD _ _)))))) hL)) q) J3) rfl fun U4 F4 X2 ⟨x4,hu_,s4⟩=>?_
 subst hu_
 obtain ⟨s1,J0⟩:=q1.agr X2
 refine Ae rfl<|Ab (Ah rfl rfl)<|Ab (Ah rfl rfl)<|Af rfl<|Af rfl<|Aa<|Aj<|MX.jo (α:=Bool) (fun M0=>[(1,vP E1),(2,(vS C1 4)),(5,vI z0.1),(6,vI z0.2.1),(7,vI z0.2.2),(9,vI s2.2),(10,.bool M0)]) (fun M0=>[.cells E1 [vI y1.fe,vI y1.fh,vI y1.fj,v7] 44]) (fun M0=>M0) s1 h ?_ ?_
 rintro M0 R3 A0 I1 h
 try dsimp only at h
 refine Aj<|dt 38 tb5_6 fun b0 c0=>Ag 0 1 b0 rfl c0 (fun _=>Ai rfl) rfl<|Ag 1 3 b0 rfl c0 (fun _=>Ai rfl) rfl<|RD.ifb (s:=69) rfl h (fun u2 h=>?_) (fun u2 h=>?_)
 refine BO 2 7 b0 rfl c0 (.yes rfl rfl) (fun _=>Ai rfl) rfl<|BO 3 15 b0 rfl c0 (.yes rfl rfl) (fun _=>FV.eql (i:=z0.1) (j:=30) rfl rfl) rfl<|Ag 4 31 b0 rfl c0 (fun _=>BC rfl rfl) rfl<|Ag 5 63 b0 rfl c0 (fun _=>Ai rfl) rfl<|RD.ifd (s:=73) rfl h (fun v2 h=>?_) (fun v2 h=>?_)
 refine BO 6 127 b0 rfl c0 (.yes rfl rfl) (fun _=>Ai rfl) rfl<|BO 7 255 b0 rfl c0 (.yes rfl rfl) (fun _=>FV.eql (i:=z0.2.1) (j:=36) rfl rfl) rfl<|Ag 8 511 b0 rfl c0 (fun _=>BC rfl rfl) rfl<|Ag 9 1023 b0 rfl c0 (fun _=>Ai rfl) rfl<|RD.ifd (s:=77) rfl h (fun x2 h=>?_) (fun x2 h=>?_)
 refine BO 10 2047 b0 rfl c0 (.yes rfl rfl) (fun _=>Ai rfl) rfl<|BO 11 4095 b0 rfl c0 (.yes rfl rfl) (fun _=>FV.eql (i:=z0.2.2) (j:=0) rfl rfl) rfl<|Ag 12 8191 b0 rfl c0 (fun _=>BC rfl rfl) rfl<|Ag 13 16383 b0 rfl c0 (fun _=>Ai rfl) rfl<|RD.ifd (s:=81) rfl h (fun y2 h=>?_) (fun y2 h=>?_)
 refine RD.val (i:=15) (m' :=49151) (W:=274877644800) (tk b0) rfl c0 (.yes rfl rfl) (AK rfl (A0.memA .hd)) rfl<|BO 16 114687 b0 rfl c0 (.yes rfl rfl) (fun _=>Ai rfl) rfl<|BB 14 131071 b0 rfl (.yes rfl rfl) body30 rfl (e1 rfl) (fun p q=>Calls.gives (dj_c n _ p (A0.hL hL q) true) fun (w8:World) (u8:Value) ⟨b0_,hu_,s_⟩=>(⟨b0_,hu_,s_.from q⟩:∃ P0:Nat,u8 = Value.func (.func 71) #[] #[vP P0]/\St R3 w8 [.cells P0 [.bool true] 4])) rfl fun K3 y4 g4 ⟨P0,b3,X1⟩=>?_
 subst b3
 have j0:=mk_push1 A0 X1
 have J1:=mk_tr1 A0 X1
 refine bk h fun d2 p3 h=>RD.callq (i:=17) (m' :=262143) (W:=274877644800) (tk b0) rfl c0 (v:=.agg ((cs_Ta d2)).toArray) (fst:=[]) (cap:=[]) (.yes rfl rfl) body26 rfl (e2 rfl rfl) (fun p q=>aX_c n _ p (j0.hL0 hL q)  p3) rfl<|bk h fun g2 q3 h=>?_
 have P1:=Tt z1 (Tt J0 (Tt I1 J1))
 have Q1:=Tt g1 (Tt j1 (Tt k1 (Tt J0 (Tt I1 J1))))
 refine RD.callq (i:=18) (m' :=524287) (W:=274877382656) (tk b0) rfl c0 (v:=.tuple #[.bool g2.1,vI g2.2]) (fst:=[]) (cap:=[]) (.yes rfl rfl) body11 rfl (e4 rfl rfl rfl rfl) (fun p q=>cH_c n _ p (j0.hL0 hL q) y1 (j0.kd (Ao hr8 P1) q) (j0.kd (Ao K0 Q1) q) d2 q3) rfl<|BO 19 1048575 b0 rfl c0 (.yes rfl rfl) (fun _=>Ah rfl rfl) rfl<|BO 20 2097151 b0 rfl c0 (.yes rfl rfl) (fun _=>Ah rfl rfl) rfl<|bk h fun U3 s3 h=>RD.callq (i:=21) (m' :=4194303) (W:=274873712640) (tk b0) rfl c0 (v:=.bool U3) (fst:=[]) (cap:=[vP P0]) (.yes rfl rfl) body71 rfl (e2 rfl rfl) (fun p q=>bW_c n _ p (j0.hL0 hL q) (mem_keep q (j0.memA .hd)) s3) rfl<|Ag 22 8388607 b0 rfl c0 (fun _=>BC rfl rfl) rfl<|Ag 23 16777215 b0 rfl c0 (fun _=>Ai rfl) rfl<|RD.ifb (s:=91) rfl h (fun z2 h=>?_) (fun z2 h=>?_)
 refine RD.val (i:=25) (m' :=50331647) (W:=274609471488) (tk b0) rfl c0 (.yes rfl rfl) (AK rfl (j0.memA .t1)) rfl<|BO 26 117440511 b0 rfl c0 (.yes rfl rfl) (fun _=>Ai rfl) rfl<|BB 24 134217727 b0 rfl (.yes rfl rfl) body30 rfl (e1 rfl) (fun p q=>Calls.gives (dj_c n _ p (j0.hL hL q) false) fun (w8:World) (u8:Value) ⟨b0_,hu_,s_⟩=>(⟨b0_,hu_,s_.from q⟩:∃ Q0:Nat,u8 = Value.func (.func 71) #[] #[vP Q0]/\St K3 w8 [.cells Q0 [.bool false] 4])) rfl fun I4 z4 j4 ⟨Q0,c3,Y1⟩=>?_
 subst c3
 have B0:=mk_push1 j0 Y1
 have K1:=mk_tr1 j0 Y1
 refine bk h fun j2 t3 h=>RD.callq (i:=27) (m' :=268435455) (W:=274609471488) (tk b0) rfl c0 (v:=.agg ((cs_Ta j2)).toArray) (fst:=[]) (cap:=[]) (.yes rfl rfl) body26 rfl (e2 rfl rfl) (fun p q=>aX_c n _ p (B0.hL0 hL q)  t3) rfl<|bk h fun k2 u3 h=>RD.callq (i:=28) (m' :=536870911) (W:=274341036032) (tk b0) rfl c0 (v:=.tuple #[.bool k2.1,vI k2.2]) (fst:=[]) (cap:=[]) (.yes rfl rfl) body11 rfl (e4 rfl rfl rfl rfl) (fun p q=>cH_c n _ p (B0.hL0 hL q) y1 (B0.kd (Ao hr8 (Tt P1 K1)) q) (B0.kd (Ao K0 (Tt Q1 K1)) q) j2 u3) rfl<|BO 29 1073741823 b0 rfl c0 (.yes rfl rfl) (fun _=>Ah rfl rfl) rfl<|BO 30 2147483647 b0 rfl c0 (.yes rfl rfl) (fun _=>Ah rfl rfl) rfl<|bk h fun V3 v3 h=>RD.callq (i:=31) (m' :=4294967295) (W:=270582939648) (tk b0) rfl c0 (v:=.bool V3) (fst:=[]) (cap:=[vP Q0]) (.yes rfl rfl) body71 rfl (e2 rfl rfl) (fun p q=>bW_c n _ p (B0.hL0 hL q) (mem_keep q (B0.memA .hd)) v3) rfl<|Ag 32 8589934591 b0 rfl c0 (fun _=>BC rfl rfl) rfl<|Ag 33 17179869183 b0 rfl c0 (fun _=>Ai rfl) rfl<|RD.ifb (s:=101) rfl h (fun A2 h=>?_) (fun A2 h=>?_)
 refine BO 34 34359738367 b0 rfl c0 (.yes rfl rfl) (fun _=>Ai rfl) rfl<|BO 35 68719476735 b0 rfl c0 (.yes rfl rfl) (fun _=>FV.eql (i:=s2.2) (j:=220) rfl rfl) rfl<|Ag 36 137438953471 b0 rfl c0 (fun _=>BC rfl rfl) rfl<|Ag 37 274877906943 b0 rfl c0 (fun _=>AU rfl) rfl<|AM (dk b0)<|Al rfl<|AT hb0 Tryz.func5 rfl rfl ?_
 cases h
 exact B0.gv
 refine BD 68719476735 2 [(34,102),(35,103)] (F:=[(101,false)]) (U:=[]) b0 c0 (.cons rfl .nil) .nil ?_
 dsimp only [offS,List.map]
 refine Ag 36 137438953471 b0 rfl c0 (fun _=>Bh rfl rfl) rfl<|Ag 37 274877906943 b0 rfl c0 (fun _=>AU rfl) rfl<|AM (dk b0)<|Al rfl<|AT hb0 Tryz.func5 rfl rfl ?_
 cases h
 exact B0.gv
 refine BD 4294967295 6 [(24,92),(25,93),(26,94),(27,95),(28,96),(29,97),(30,98),(31,99)] (F:=[(91,false)]) (U:=[]) b0 c0 (.cons rfl .nil) .nil ?_
 dsimp only [offS,List.map]
 refine Ag 32 8589934591 b0 rfl c0 (fun _=>Bh rfl rfl) rfl<|Ag 33 17179869183 b0 rfl c0 (fun _=>Ai rfl) rfl<|BD 68719476735 2 [(34,102),(35,103)] (F:=[(101,false)]) (U:=[]) b0 c0 (.cons rfl .nil) .nil ?_
 dsimp only [offS,List.map]
 refine Ag 36 137438953471 b0 rfl c0 (fun _=>Bh rfl rfl) rfl<|Ag 37 274877906943 b0 rfl c0 (fun _=>AU rfl) rfl<|AM (dk b0)<|Al rfl<|AT hb0 Tryz.func5 rfl rfl ?_
 cases h
 exact j0.gv
 refine BD 4194303 16 [(14,82),(15,83),(16,84),(17,85),(18,86),(19,87),(20,88),(21,89)] (F:=[(81,false)]) (U:=[]) b0 c0 (.cons rfl .nil) .nil ?_
 dsimp only [offS,List.map]
 refine Ag 22 8388607 b0 rfl c0 (fun _=>Bh rfl rfl) rfl<|Ag 23 16777215 b0 rfl c0 (fun _=>Ai rfl) rfl<|BD 4294967295 6 [(24,92),(25,93),(26,94),(27,95),(28,96),(29,97),(30,98),(31,99)] (F:=[(91,false)]) (U:=[]) b0 c0 (.cons rfl .nil) .nil ?_
 dsimp only [offS,List.map]
 refine Ag 32 8589934591 b0 rfl c0 (fun _=>Bh rfl rfl) rfl<|Ag 33 17179869183 b0 rfl c0 (fun _=>Ai rfl) rfl<|BD 68719476735 2 [(34,102),(35,103)] (F:=[(101,false)]) (U:=[]) b0 c0 (.cons rfl .nil) .nil ?_
 dsimp only [offS,List.map]
 refine Ag 36 137438953471 b0 rfl c0 (fun _=>Bh rfl rfl) rfl<|Ag 37 274877906943 b0 rfl c0 (fun _=>AU rfl) rfl<|AM (dk b0)<|Al rfl<|AT hb0 Tryz.func5 rfl rfl ?_
 cases h
 exact A0.gv
 refine BD 4095 26 [(10,78),(11,79)] (F:=[(77,false)]) (U:=[]) b0 c0 (.cons rfl .nil) .nil ?_
 dsimp only [offS,List.map]
 refine Ag 12 8191 b0 rfl c0 (fun _=>Bh rfl rfl) rfl<|Ag 13 16383 b0 rfl c0 (fun _=>Ai rfl) rfl<|BD 4194303 16 [(14,82),(15,83),(16,84),(17,85),(18,86),(19,87),(20,88),(21,89)] (F:=[(81,false)]) (U:=[]) b0 c0 (.cons rfl .nil) .nil ?_
 dsimp only [offS,List.map]
 refine Ag 22 8388607 b0 rfl c0 (fun _=>Bh rfl rfl) rfl<|Ag 23 16777215 b0 rfl c0 (fun _=>Ai rfl) rfl<|BD 4294967295 6 [(24,92),(25,93),(26,94),(27,95),(28,96),(29,97),(30,98),(31,99)] (F:=[(91,false)]) (U:=[]) b0 c0 (.cons rfl .nil) .nil ?_
 dsimp only [offS,List.map]
 refine Ag 32 8589934591 b0 rfl c0 (fun _=>Bh rfl rfl) rfl<|Ag 33 17179869183 b0 rfl c0 (fun _=>Ai rfl) rfl<|BD 68719476735 2 [(34,102),(35,103)] (F:=[(101,false)]) (U:=[]) b0 c0 (.cons rfl .nil) .nil ?_
 dsimp only [offS,List.map]
 refine Ag 36 137438953471 b0 rfl c0 (fun _=>Bh rfl rfl) rfl<|Ag 37 274877906943 b0 rfl c0 (fun _=>AU rfl) rfl<|AM (dk b0)<|Al rfl<|AT hb0 Tryz.func5 rfl rfl ?_
 cases h
 exact A0.gv
 refine BD 255 30 [(6,74),(7,75)] (F:=[(73,false)]) (U:=[]) b0 c0 (.cons rfl .nil) .nil ?_
 dsimp only [offS,List.map]
 refine Ag 8 511 b0 rfl c0 (fun _=>Bh rfl rfl) rfl<|Ag 9 1023 b0 rfl c0 (fun _=>Ai rfl) rfl<|BD 4095 26 [(10,78),(11,79)] (F:=[(77,false)]) (U:=[]) b0 c0 (.cons rfl .nil) .nil ?_
 dsimp only [offS,List.map]
 refine Ag 12 8191 b0 rfl c0 (fun _=>Bh rfl rfl) rfl<|Ag 13 16383 b0 rfl c0 (fun _=>Ai rfl) rfl<|BD 4194303 16 [(14,82),(15,83),(16,84),(17,85),(18,86),(19,87),(20,88),(21,89)] (F:=[(81,false)]) (U:=[]) b0 c0 (.cons rfl .nil) .nil ?_
 dsimp only [offS,List.map]
 refine Ag 22 8388607 b0 rfl c0 (fun _=>Bh rfl rfl) rfl<|Ag 23 16777215 b0 rfl c0 (fun _=>Ai rfl) rfl<|BD 4294967295 6 [(24,92),(25,93),(26,94),(27,95),(28,96),(29,97),(30,98),(31,99)] (F:=[(91,false)]) (U:=[]) b0 c0 (.cons rfl .nil) .nil ?_
 dsimp only [offS,List.map]
 refine Ag 32 8589934591 b0 rfl c0 (fun _=>Bh rfl rfl) rfl<|Ag 33 17179869183 b0 rfl c0 (fun _=>Ai rfl) rfl<|BD 68719476735 2 [(34,102),(35,103)] (F:=[(101,false)]) (U:=[]) b0 c0 (.cons rfl .nil) .nil ?_
 dsimp only [offS,List.map]
 refine Ag 36 137438953471 b0 rfl c0 (fun _=>Bh rfl rfl) rfl<|Ag 37 274877906943 b0 rfl c0 (fun _=>AU rfl) rfl<|AM (dk b0)<|Al rfl<|AT hb0 Tryz.func5 rfl rfl ?_
 cases h
 exact A0.gv
 refine BD 15 34 [(2,70),(3,71)] (F:=[(69,false)]) (U:=[]) b0 c0 (.cons rfl .nil) .nil ?_
 dsimp only [offS,List.map]
 refine Ag 4 31 b0 rfl c0 (fun _=>Bh rfl rfl) rfl<|Ag 5 63 b0 rfl c0 (fun _=>Ai rfl) rfl<|BD 255 30 [(6,74),(7,75)] (F:=[(73,false)]) (U:=[]) b0 c0 (.cons rfl .nil) .nil ?_
 dsimp only [offS,List.map]
 refine Ag 8 511 b0 rfl c0 (fun _=>Bh rfl rfl) rfl<|Ag 9 1023 b0 rfl c0 (fun _=>Ai rfl) rfl<|BD 4095 26 [(10,78),(11,79)] (F:=[(77,false)]) (U:=[]) b0 c0 (.cons rfl .nil) .nil ?_
 dsimp only [offS,List.map]
 refine Ag 12 8191 b0 rfl c0 (fun _=>Bh rfl rfl) rfl<|Ag 13 16383 b0 rfl c0 (fun _=>Ai rfl) rfl<|BD 4194303 16 [(14,82),(15,83),(16,84),(17,85),(18,86),(19,87),(20,88),(21,89)] (F:=[(81,false)]) (U:=[]) b0 c0 (.cons rfl .nil) .nil ?_
 dsimp only [offS,List.map]
 refine Ag 22 8388607 b0 rfl c0 (fun _=>Bh rfl rfl) rfl<|Ag 23 16777215 b0 rfl c0 (fun _=>Ai rfl) rfl<|BD 4294967295 6 [(24,92),(25,93),(26,94),(27,95),(28,96),(29,97),(30,98),(31,99)] (F:=[(91,false)]) (U:=[]) b0 c0 (.cons rfl .nil) .nil ?_
 dsimp only [offS,List.map]
 refine Ag 32 8589934591 b0 rfl c0 (fun _=>Bh rfl rfl) rfl<|Ag 33 17179869183 b0 rfl c0 (fun _=>Ai rfl) rfl<|BD 68719476735 2 [(34,102),(35,103)] (F:=[(101,false)]) (U:=[]) b0 c0 (.cons rfl .nil) .nil ?_
 dsimp only [offS,List.map]
 refine Ag 36 137438953471 b0 rfl c0 (fun _=>Bh rfl rfl) rfl<|Ag 37 274877906943 b0 rfl c0 (fun _=>AU rfl) rfl<|AM (dk b0)<|Al rfl<|AT hb0 Tryz.func5 rfl rfl ?_
 cases h
 exact A0.gv
 intro b4 I0 h
 try dsimp only at h
 refine dt 37 tb5_5 fun d0 g0=>AG 2 4 137438953456 d0 rfl g0 (AK rfl (s1.memA .hd)) rfl<|Ag 3 12 d0 rfl g0 (fun _=>Ai rfl) rfl<|BS 0 13 d0 rfl .plain rfl (AE (α:=Int) (xs:=([(60:Int),(40:Int)]:List Int)) (vs:=[vI 60,vI 40]) (ds' :=[vI 60,vI 40]) rfl s1 el45 rfl (e2 rfl rfl) (by kernel_rfl) rfl) fun M3 D1 Y0 C0=>?_
 have Z0:=By Y0 .hd
 have D0:=Bz Y0 .hd
 have W1:=BA (α:=Int) (v:=(vS D1 2)) (xs:=([(60:Int),(40:Int)]:List Int)) Z0 L (Bj (α:=Int) Y0 .hd (Ax (cs:=[vI 60,vI 40]) (xs:=(([(60:Int),(40:Int)]:List Int):List Int)) Y0 L (Am (cs:=[vI 60]) (ds:=[vI 40]) rfl (Am (cs:=[vI 40]) (ds:=[]) rfl (AD _ _)))) hL)
 refine BB 1 15 d0 rfl .plain body27 rfl (e1 rfl) (fun p q=>Calls.gives (dr_c n _ p (Z0.hL hL q) ([(60:Int),(40:Int)]:List Int) (Ar W1 q)) fun (w8:World) (u8:Value) ⟨b0_,hu_,s_⟩=>(⟨b0_,hu_,s_.from q⟩:∃ R0:Nat,u8 = Value.func (.func 69) #[] #[vP R0]/\St M3 w8 [.cells R0 [(vS D1 2)] 45])) rfl fun J4 A4 k4 ⟨R0,g3,Z1⟩=>?_
 subst g3
 have G1:=mk_push1 Z0 Z1
 have v0:=mk_tr1 Z0 Z1
 refine bk h fun V4 x3 h=>?_
 have R1:=Tt z1 (Tt J0 (Tt C0 (Tt D0 v0)))
 have U1:=Tt g1 (Tt j1 (Tt k1 (Tt J0 (Tt C0 (Tt D0 v0)))))
 refine BB 4 31 d0 rfl .plain body13 rfl (e3 rfl rfl rfl) (fun p q=>bB_c n _ p (G1.hL hL q) y1 (Ar (Ao hr8 R1) q) (Ar (Ao K0 U1) q) x3) rfl fun P3 B4 V2 ⟨u4,hu_,Y2⟩=>?_
 subst hu_
 obtain ⟨t0,x0⟩:=G1.agr V2
 refine Ag 5 63 d0 rfl g0 (fun _=>Ah rfl rfl) rfl<|Ag 6 127 d0 rfl g0 (fun _=>Ah rfl rfl) rfl<|bk h fun W3 y3 h=>RD.callq (i:=7) (m' :=255) (W:=137438953216) (tk d0) rfl g0 (v:=.bool W3) (fst:=[]) (cap:=[vP R0]) .plain body69 rfl (e2 rfl rfl) (fun p q=>cJ_c n _ p (t0.hL0 hL q) (t0.kd Y2 q) (t0.kd (Ao W1 (Tt v0 x0)) q) (mem_keep q (t0.memA .hd)) y3) rfl<|Ag 8 511 d0 rfl g0 (fun _=>Ai rfl) rfl<|RD.ifb (s:=40) rfl h (fun B2 h=>?_) (fun B2 h=>?_)
 refine RD.val (i:=10) (m' :=1535) (W:=137438951424) (tk d0) rfl g0 (.yes rfl rfl) (AK rfl (t0.memA .t1)) rfl<|BB 9 2047 d0 rfl (.yes rfl rfl) body28 rfl (e2 rfl rfl) (fun p q=>Calls.gives (dp_c n _ p (t0.hL hL q) (50:Int) (1:Int)) fun (w8:World) (u8:Value) ⟨b0_,b1_,hu_,s_⟩=>(⟨b0_,b1_,hu_,s_.from q⟩:∃ U0 V0:Nat,u8 = Value.func (.func 70) #[] #[vP U0,vP V0]/\St P3 w8 [.cells U0 [vI 50] 3,.cells V0 [vI 1] 3])) rfl fun M4 C4 p4 ⟨U0,V0,j3,b2⟩=>?_
 subst j3
 have u0:=mk_push2 t0 b2
 have F0:=mk_tr2 t0 b2
 refine bk h fun A1 z3 h=>?_
 have V1:=Tt R1 (Tt x0 F0)
 refine RD.callq (i:=11) (m' :=4095) (W:=137438949376) (tk d0) rfl g0 (v:=.tuple #[.agg ((cs_Ta A1.1)).toArray,vI A1.2]) (fst:=[]) (cap:=[]) (.yes rfl rfl) body15 rfl (e2 rfl rfl) (fun p q=>ck_c n _ p (u0.hL0 hL q) y1 (u0.kd (Ao hr8 V1) q) z3) rfl<|BO 12 8191 d0 rfl g0 (.yes rfl rfl) (fun _=>Ah rfl rfl) rfl<|BO 13 16383 d0 rfl g0 (.yes rfl rfl) (fun _=>Ah rfl rfl) rfl<|bk h fun X3 A3 h=>RD.callq (i:=14) (m' :=32767) (W:=137438920704) (tk d0) rfl g0 (v:=.bool X3) (fst:=[]) (cap:=[vP U0,vP V0]) (.yes rfl rfl) body70 rfl (e2 rfl rfl) (fun p q=>cd_c n _ p (u0.hL0 hL q) A1.1 (mem_keep q (u0.memA .hd)) (mem_keep q (u0.memA .t1)) A3) rfl<|Ag 15 65535 d0 rfl g0 (fun _=>BC rfl rfl) rfl<|Ag 16 131071 d0 rfl g0 (fun _=>Ai rfl) rfl<|RD.ifb (s:=48) rfl h (fun C2 h=>?_) (fun C2 h=>?_)
 refine BO 17 262143 d0 rfl g0 (.yes rfl rfl) (fun _=>Ai rfl) rfl<|bk h fun y0 B3 h=>RD.callq (i:=18) (m' :=524287) (W:=137438429184) (tk d0) rfl g0 (v:=.agg ((cs_Ta y0)).toArray) (fst:=[]) (cap:=[]) (.yes rfl rfl) body26 rfl (e2 rfl rfl) (fun p q=>aX_c n _ p (u0.hL0 hL q)  B3) rfl<|bk h fun s0 C3 h=>RD.callq (i:=19) (m' :=1048575) (W:=137437904896) (tk d0) rfl g0 (v:=.agg ((cs_Ta s0)).toArray) (fst:=[]) (cap:=[]) (.yes rfl rfl) body26 rfl (e2 rfl rfl) (fun p q=>aX_c n _ p (u0.hL0 hL q)  C3) rfl<|BS 20 2097151 d0 rfl (.yes rfl rfl) rfl (AE (α:=Ta) (xs:=([y0,s0]:List Ta)) (vs:=[.agg ((cs_Ta y0)).toArray,.agg ((cs_Ta s0)).toArray]) (ds' :=(cs_Ta y0 ++ cs_Ta s0)) rfl u0 el63 rfl (e2 rfl rfl) (by kernel_rfl) rfl) fun Q3 c4 p0 H0=>bk h fun Z3 E3 h=>RD.callq (i:=21) (m' :=4194303) (W:=137434759168) (tk d0) rfl g0 (v:=.bool Z3) (fst:=[]) (cap:=[]) (.yes rfl rfl) body29 rfl (e2 rfl rfl) (fun p q=>aK_c n _ p (p0.hL0 hL q) (p0.kd (Ao Z2 (Tt j1 (Tt k1 (Tt J0 (Tt C0 (Tt D0 (Tt v0 (Tt x0 (Tt F0 H0))))))))) q) (Ar (St.lend (α:=Ta) (L:=L) p0 .hd (Ax (cs:=(cs_Ta y0 ++ cs_Ta s0)) (xs:=(([y0,s0]:List Ta):List Ta)) p0 L (Am (cs:=(cs_Ta y0)) (ds:=(cs_Ta s0)) (mk_Ta y0.fN y0.fD) (Am (cs:=(cs_Ta s0)) (ds:=[]) (mk_Ta s0.fN s0.fD) (AD _ _)))) hL) q) E3) rfl<|Ag 22 8388607 d0 rfl g0 (fun _=>BC rfl rfl) rfl<|Ag 23 16777215 d0 rfl g0 (fun _=>Ai rfl) rfl<|RD.ifb (s:=55) rfl h (fun D2 h=>?_) (fun D2 h=>?_)
 refine BO 24 33554431 d0 rfl g0 (.yes rfl rfl) (fun _=>Ai rfl) rfl<|BO 25 67108863 d0 rfl g0 (.yes rfl rfl) (fun _=>FV.eql (i:=Y3.2) (j:=0) rfl rfl) rfl<|Ag 26 134217727 d0 rfl g0 (fun _=>BC rfl rfl) rfl<|Ag 27 268435455 d0 rfl g0 (fun _=>Ai rfl) rfl<|RD.ifd (s:=59) rfl h (fun E2 h=>?_) (fun E2 h=>?_)
 refine RD.val (i:=29) (m' :=805306367) (W:=135291469824) (tk d0) rfl g0 (.yes rfl rfl) (AK rfl (p0.memA .t4)) rfl<|BO 30 1879048191 d0 rfl g0 (.yes rfl rfl) (fun _=>Ai rfl) rfl<|BB 28 2147483647 d0 rfl (.yes rfl rfl) body28 rfl (e2 rfl rfl) (fun p q=>Calls.gives (dp_c n _ p (p0.hL hL q) (2:Int) (5:Int)) fun (w8:World) (u8:Value) ⟨b0_,b1_,hu_,s_⟩=>(⟨b0_,b1_,hu_,s_.from q⟩:∃ W0 X0:Nat,u8 = Value.func (.func 70) #[] #[vP W0,vP X0]/\St Q3 w8 [.cells W0 [vI 2] 3,.cells X0 [vI 5] 3])) rfl fun P4 D4 q4 ⟨W0,X0,k3,c2⟩=>?_
 subst k3
 have E0:=mk_push2 p0 c2
 have v1:=mk_tr2 p0 c2
 refine bk h fun B1 F3 h=>RD.callq (i:=31) (m' :=4294967295) (W:=133143986176) (tk d0) rfl g0 (v:=.tuple #[.agg ((cs_Ta B1.1)).toArray,vI B1.2]) (fst:=[]) (cap:=[]) (.yes rfl rfl) body22 rfl (e3 rfl rfl rfl) (fun p q=>bT_c n _ p (E0.hL0 hL q) y1 (E0.kd (Ao hr8 (Tt V1 (Tt H0 v1))) q) (E0.kd (Ao K0 (Tt U1 (Tt x0 (Tt F0 (Tt H0 v1))))) q) F3) rfl<|BO 32 8589934591 d0 rfl g0 (.yes rfl rfl) (fun _=>Ah rfl rfl) rfl<|BO 33 17179869183 d0 rfl g0 (.yes rfl rfl) (fun _=>Ah rfl rfl) rfl<|bk h fun p2 G3 h=>RD.callq (i:=34) (m' :=34359738367) (W:=103079215104) (tk d0) rfl g0 (v:=.bool p2) (fst:=[]) (cap:=[vP W0,vP X0]) (.yes rfl rfl) body70 rfl (e2 rfl rfl) (fun p q=>cd_c n _ p (E0.hL0 hL q) B1.1 (mem_keep q (E0.memA .hd)) (mem_keep q (E0.memA .t1)) G3) rfl<|Ag 35 68719476735 d0 rfl g0 (fun _=>BC rfl rfl) rfl<|Ag 36 137438953471 d0 rfl g0 (fun _=>AU rfl) rfl<|AM (dk d0) ?_
 obtain ⟨G2,M2⟩:=AI E0 .d6
 exact I0 p2 G2 (Tt C0 (Tt D0 (Tt v0 (Tt x0 (Tt F0 (Tt H0 (Tt v1 M2))))))) h
 refine BD 34359738367 2 [(28,60),(29,61),(30,62),(31,63),(32,64),(33,65),(34,66)] (F:=[(59,false)]) (U:=[]) d0 g0 (.cons rfl .nil) .nil ?_
 dsimp only [offS,List.map]
 refine Ag 35 68719476735 d0 rfl g0 (fun _=>Bh rfl rfl) rfl<|Ag 36 137438953471 d0 rfl g0 (fun _=>AU rfl) rfl<|AM (dk d0) ?_
 obtain ⟨H2,P2⟩:=AI p0 .d4
 exact I0 false H2 (Tt C0 (Tt D0 (Tt v0 (Tt x0 (Tt F0 (Tt H0 P2)))))) h
 refine BD 67108863 11 [(24,56),(25,57)] (F:=[(55,false)]) (U:=[]) d0 g0 (.cons rfl .nil) .nil ?_
 dsimp only [offS,List.map]
 refine Ag 26 134217727 d0 rfl g0 (fun _=>Bh rfl rfl) rfl<|Ag 27 268435455 d0 rfl g0 (fun _=>Ai rfl) rfl<|BD 34359738367 2 [(28,60),(29,61),(30,62),(31,63),(32,64),(33,65),(34,66)] (F:=[(59,false)]) (U:=[]) d0 g0 (.cons rfl .nil) .nil ?_
 dsimp only [offS,List.map]
 refine Ag 35 68719476735 d0 rfl g0 (fun _=>Bh rfl rfl) rfl<|Ag 36 137438953471 d0 rfl g0 (fun _=>AU rfl) rfl<|AM (dk d0) ?_
 obtain ⟨I2,Q2⟩:=AI p0 .d4
 exact I0 false I2 (Tt C0 (Tt D0 (Tt v0 (Tt x0 (Tt F0 (Tt H0 Q2)))))) h
 refine BD 4194303 15 [(17,49),(18,50),(19,51),(20,52),(21,53)] (F:=[(48,false)]) (U:=[]) d0 g0 (.cons rfl .nil) .nil ?_
 dsimp only [offS,List.map]
 refine Ag 22 8388607 d0 rfl g0 (fun _=>Bh rfl rfl) rfl<|Ag 23 16777215 d0 rfl g0 (fun _=>Ai rfl) rfl<|BD 67108863 11 [(24,56),(25,57)] (F:=[(55,false)]) (U:=[]) d0 g0 (.cons rfl .nil) .nil ?_
 dsimp only [offS,List.map]
 refine Ag 26 134217727 d0 rfl g0 (fun _=>Bh rfl rfl) rfl<|Ag 27 268435455 d0 rfl g0 (fun _=>Ai rfl) rfl<|BD 34359738367 2 [(28,60),(29,61),(30,62),(31,63),(32,64),(33,65),(34,66)] (F:=[(59,false)]) (U:=[]) d0 g0 (.cons rfl .nil) .nil ?_
 dsimp only [offS,List.map]
 refine Ag 35 68719476735 d0 rfl g0 (fun _=>Bh rfl rfl) rfl<|Ag 36 137438953471 d0 rfl g0 (fun _=>AU rfl) rfl<|AM (dk d0) ?_
 obtain ⟨J2,R2⟩:=AI u0 .d3
 exact I0 false J2 (Tt C0 (Tt D0 (Tt v0 (Tt x0 (Tt F0 R2))))) h
 refine BD 32767 22 [(9,41),(10,42),(11,43),(12,44),(13,45),(14,46)] (F:=[(40,false)]) (U:=[]) d0 g0 (.cons rfl .nil) .nil ?_
 dsimp only [offS,List.map]
 refine Ag 15 65535 d0 rfl g0 (fun _=>Bh rfl rfl) rfl<|Ag 16 131071 d0 rfl g0 (fun _=>Ai rfl) rfl<|BD 4194303 15 [(17,49),(18,50),(19,51),(20,52),(21,53)] (F:=[(48,false)]) (U:=[]) d0 g0 (.cons rfl .nil) .nil ?_
 dsimp only [offS,List.map]
 refine Ag 22 8388607 d0 rfl g0 (fun _=>Bh rfl rfl) rfl<|Ag 23 16777215 d0 rfl g0 (fun _=>Ai rfl) rfl<|BD 67108863 11 [(24,56),(25,57)] (F:=[(55,false)]) (U:=[]) d0 g0 (.cons rfl .nil) .nil ?_
 dsimp only [offS,List.map]
 refine Ag 26 134217727 d0 rfl g0 (fun _=>Bh rfl rfl) rfl<|Ag 27 268435455 d0 rfl g0 (fun _=>Ai rfl) rfl<|BD 34359738367 2 [(28,60),(29,61),(30,62),(31,63),(32,64),(33,65),(34,66)] (F:=[(59,false)]) (U:=[]) d0 g0 (.cons rfl .nil) .nil ?_
 dsimp only [offS,List.map]
 refine Ag 35 68719476735 d0 rfl g0 (fun _=>Bh rfl rfl) rfl<|Ag 36 137438953471 d0 rfl g0 (fun _=>AU rfl) rfl<|AM (dk d0) ?_
 obtain ⟨K2,U2⟩:=AI t0 .d1
 exact I0 false K2 (Tt C0 (Tt D0 (Tt v0 (Tt x0 U2)))) h
structure Tj where
  fN:UInt8
  fB:List UInt8
  fMore:List (UInt8 × UInt8)
  fLabels:List UInt8
  fK:UInt8
  deriving DecidableEq
instance:Rep Tj:=Rep.via (β:=UInt8 × (List UInt8) × (List (UInt8 × UInt8)) × (List UInt8) × UInt8) fun x=>(x.fN,x.fB,x.fMore,x.fLabels,x.fK)
def bO_p (_n:Nat) (a0:Tj):Option Int:=
  some ((1 + ((a0.fN % (9:UInt8)).toNat):Nat):Int)
theorem bO_c (n:Nat) (L:List Nat) (w:World) (_hL:∀ b ∈ L,b < w.heap.size) (a0:Tj) {v0_1:Value} (_h0_1:Rep.R w L [v0_1] a0.fB) {v0_2:Value} (_h0_2:Rep.R w L [v0_2] a0.fMore) {v0_3:Value} (_h0_3:Rep.R w L [v0_3] a0.fLabels)  {r:Int} (h:bO_p n a0 = some r) :
    Calls Tryz.prog 72 #[.agg #[.int .u8 (a0.fN.toNat:Int),v0_1,v0_2,v0_3,.int .u8 (a0.fK.toNat:Int)]] w (Gives w fun _ u=>u = vI r):=by
 unfold bO_p at h
 refine AF Tryz.func72 rfl rfl rfl fun _ cs0 hb0=>Ac<|RG.bx (AB w) rfl rfl fun j0 c0 b0 d0=>Af rfl<|Aa<|Ac<|AV 0 rfl<|AP rfl ((b0.memA .hd) 0 _ rfl)<|Ab (FV.rem8 (a:=a0.fN) (b:=(9:UInt8)) rfl rfl (by decide)) ?_
 have g0:=(a0.fN % (9:UInt8)).toNat_lt
 refine Ab (FV.convN (i:=(a0.fN % (9:UInt8)).toNat) Tryz.underlying5 Tryz.underlying3 rfl (by omega))<|Ab (Bw (i:=1) (j:=(a0.fN % (9:UInt8)).toNat) rfl rfl (by omega))<|Af rfl<|Aa<|Al rfl<|AT hb0 Tryz.func72 rfl rfl ?_
 cases h
 exact b0.gv
def bt_p (_n:Nat) (a0:Tj) (a1:Int):Option Int:=
  (if a1 < ((a0.fLabels.length:Nat):Int) then (idx a0.fLabels a1).bind fun b0=>some ((b0.toNat:Nat):Int) else some (0:Int))
theorem bt_c (n:Nat) (L:List Nat) (w:World) (_hL:∀ b ∈ L,b < w.heap.size) (a0:Tj) {v0_1:Value} (_h0_1:Rep.R w L [v0_1] a0.fB) {v0_2:Value} (_h0_2:Rep.R w L [v0_2] a0.fMore) {v0_3:Value} (h0_3:Rep.R w L [v0_3] a0.fLabels) {a1:Int}  {r:Int} (h:bt_p n a0 a1 = some r) :
    Calls Tryz.prog 73 #[.agg #[.int .u8 (a0.fN.toNat:Int),v0_1,v0_2,v0_3,.int .u8 (a0.fK.toNat:Int)],vI a1] w (Gives w fun _ u=>u = vI r):=by
 unfold bt_p at h
 refine AF Tryz.func73 rfl rfl rfl fun _ cs0 hb0=>Ac<|RG.bx (AB w) rfl rfl fun E0 z0 b0 B0=>Af rfl<|Aa<|Aj<|Ac<|Ae rfl<|AV 3 rfl<|AP rfl ((b0.memA .hd) 3 _ rfl) ?_
 have c0:=AO h0_3 b0
 have C0:a0.fLabels.length <= 281474976710656:=AY c0
 refine Ab (Bc (xs:=a0.fLabels) Tryz.underlying22 rfl c0)<|Ab (BR (i:=a1) (j:=((a0.fLabels.length:Nat):Int)) rfl rfl)<|Aa<|AS rfl h (fun g0 h=>?_) (fun g0 h=>?_)
 refine Ac<|AV 3 rfl<|AP rfl ((b0.memA .hd) 3 _ rfl)<|Ae rfl<|bk h fun d0 v0 h=>?_
 obtain ⟨q0,x0⟩:=idx_in v0
 obtain ⟨y0,A0,k0,s0,j0,u0,t0⟩:=Bl c0 x0
 have p0:j0 = [.int .u8 (d0.toNat:Int)]:=u0; subst p0
 refine Ab (Bm 1 (a1.toNat) rfl k0 rfl q0 s0)<|AP rfl (t0 0 _ rfl) ?_
 have D0:=d0.toNat_lt
 refine Ab (FV.convN (i:=d0.toNat) Tryz.underlying5 Tryz.underlying3 rfl (by omega))<|Af rfl<|Aa<|Al rfl<|AT hb0 Tryz.func73 rfl rfl ?_
 cases h
 exact b0.gv
 refine Aq<|Ac<|Af rfl<|Aa<|Al rfl<|AT hb0 Tryz.func73 rfl rfl ?_
 cases h
 exact b0.gv
def aU_l1 (_n:Nat) (a0:List Int) (a1:Int) (d0:Nat -> Option (Bool ⊕ Unit)):Nat -> Option (Bool ⊕ Unit)
  | b0=>(if b0 < a0.length then (a0[b0]?).bind fun c0=>(if c0 < 0 then some (.inl false) else (if a1 <= c0 then some (.inl false) else d0 (b0 + 1))) else some (.inr ()))
def aU_p (n:Nat) (a0:List Int) (a1:Int):Option Bool:=
  thn (loopF (aU_l1 n a0 a1) n 0) (fun _=>(if 1 <= a0.length then some (decide (a0.length <= 64)) else some false))
theorem aU_c (n:Nat) (L:List Nat) (w:World) (_hL:∀ b ∈ L,b < w.heap.size) {a0:List Int} {v0_0:Value} (h0_0:Rep.R w L [v0_0] a0) {a1:Int}  {r:Bool} (h:aU_p n a0 a1 = some r) :
    Calls Tryz.prog 114 #[v0_0,vI a1] w (Gives w fun _ u=>u = .bool r):=by
 unfold aU_p at h
 refine AF Tryz.func114 rfl rfl rfl fun _ cs0 hb0=>Ac<|Af rfl<|Aa<|Aj<|Ac<|Af rfl<|Aa<|Ay<|tn h fun I0 B0 g0=>MX.lo (α:=Nat) (fun b0=>[(0,v0_0),(1,vI a1),(5,vI ((b0:Nat):Int))]) (fun b0=>[]) (fun b0=>b0) 0 B0 (AB w) ?_
 rintro F0 b0 J0 y0 c0 z0 h
 unfold aU_l1 at h
 try dsimp only at h
 refine Aj<|Ac<|Ae rfl<|Ae rfl ?_
 have d0:=AO h0_0 c0
 have H0:a0.length <= 281474976710656:=AY d0
 refine Ab (Bc (xs:=a0) Tryz.underlying46 rfl d0)<|Ab (Bu (i:=b0) (j:=a0.length) rfl rfl)<|Aa<|AS rfl h (fun s0 h=>?_) (fun s0 h=>?_)
 refine Aq<|Aj<|Ay<|Ac<|Ae rfl<|Ae rfl<|bk h fun j0 D0 h=>?_
 obtain ⟨E0,G0,k0,p0,x0,C0,q0⟩:=Bl d0 D0
 have A0:x0 = [vI j0]:=C0; subst A0
 refine Ab (Bm 1 b0 rfl k0 rfl rfl p0)<|AP rfl (q0 0 _ rfl)<|Ab (BR (i:=j0) (j:=0) rfl rfl)<|Ae rfl<|BE (s:=17) rfl h (fun t0 h=>?_) (fun t0 h=>?_)
 refine Aw<|Aw<|Aw<|Aw<|Aw<|Aw<|Br rfl rfl<|Aa<|Bk rfl<|Ac<|Af rfl<|Aa ?_
 have h:=thn_inl h g0
 refine Al rfl<|AT hb0 Tryz.func114 rfl rfl ?_
 cases h
 exact c0.gv
 refine AJ (Ai rfl)<|AJ (Ai rfl)<|AJ (Bm 1 b0 rfl k0 rfl rfl p0)<|AJ (AL rfl (q0 0 _ rfl))<|AJ (Ai rfl)<|AJ (FV.geq (i:=j0) (j:=a1) rfl rfl)<|Bx rfl rfl<|Aa<|AS rfl h (fun u0 h=>?_) (fun u0 h=>?_)
 refine Ac<|Af rfl<|Aa ?_
 have h:=thn_inl h g0
 refine Al rfl<|AT hb0 Tryz.func114 rfl rfl ?_
 cases h
 exact c0.gv
 refine Aq<|AA<|Av<|Ae rfl<|Ab (Bw (i:=b0) (j:=1) rfl rfl (by omega))<|Af rfl<|Aa<|y0 (b0 + 1) c0 z0 h
 refine Ba rfl ?_
 have h:=thn_inr h g0
 try dsimp only at h
 refine Ac<|Ae rfl<|Ab (Bc (xs:=a0) Tryz.underlying46 rfl d0)<|Ab (FV.geqN (i:=a0.length) (j:=1) rfl rfl)<|Ae rfl<|BE (s:=28) rfl h (fun v0 h=>?_) (fun v0 h=>?_)
 refine AJ (Ai rfl)<|AJ (Bc (xs:=a0) Tryz.underlying46 rfl d0)<|AJ (FV.leqN (i:=a0.length) (j:=64) rfl rfl)<|Br rfl rfl<|Af rfl<|Aa<|Al rfl<|AT hb0 Tryz.func114 rfl rfl ?_
 cases h
 exact c0.gv
 refine Aw<|Aw<|Aw<|Bx rfl rfl<|Af rfl<|Aa<|Al rfl<|AT hb0 Tryz.func114 rfl rfl ?_
 cases h
 exact c0.gv
theorem body114:bodyB Tryz.prog 114 = true:=by kernel_rfl
def aZ_l1 (_n:Nat) (a0:List Int) (q0:Int × Nat × (List Int) × (List Int) -> Option (List Int)):Int × Nat × (List Int) × (List Int) -> Option (List Int)
  | (g0,b0,k0,d0)=>(if b0 < a0.length then (a0[b0]?).bind fun c0=>(idx d0 c0).bind fun t0=>jn (fun (y0,p0)=>(idx p0 c0).bind fun u0=>(app k0 ([u0]:List Int)).bind fun v0=>q0 (y0,b0 + 1,v0,p0)) (fun j0=>(if t0 < 0 then (put d0 ((c0.toNat:Nat):Int) g0).bind fun x0=>(chk (g0 + 1)).bind fun s0=>j0 (s0,x0) else j0 (g0,d0))) else some k0)
def aZ_p (n:Nat) (a0:List Int):Option ((List Int) × Int):=
  (aU_p n a0 (8:Int)).bind fun y1=>(if y1 = true then Option.bind (loopF (aZ_l1 n a0) n (0,0,([]:List Int),([(-1:Int),(-1:Int),(-1:Int),(-1:Int),(-1:Int),(-1:Int),(-1:Int),(-1:Int)]:List Int))) (fun b0=>some (b0,(0:Int))) else some (([]:List Int),(210:Int)))
theorem aZ_c (n:Nat) (L:List Nat) (w:World) (hL:∀ b ∈ L,b < w.heap.size) {a0:List Int} {v0_0:Value} (h0_0:Rep.R w L [v0_0] a0)  {r:(List Int) × Int} (h:aZ_p n a0 = some r) :
    Calls Tryz.prog 74 #[v0_0] w (Gives w fun w' u=>∃ v0_0:Value,u = .tuple #[v0_0,vI r.2]/\Rep.R w' L [v0_0] r.1):=by
 unfold aZ_p at h
 have hS0:=AB w
 refine AF Tryz.func74 rfl rfl rfl fun _ cs0 hb0=>Ac<|Af rfl<|Af rfl<|Aa<|Aj<|Ac<|Ae rfl<|bk h fun y1 hy1 h=>Bi (.bool y1) body114 rfl (e2 rfl rfl) (fun p q=>aU_c n _ p (hS0.hL0 hL q) (hS0.kd h0_0 q) hy1) rfl<|Ab (Bo rfl)<|Aa<|MX.ifnb rfl h (fun c2 h=>?_) (fun c2 h=>?_)
 refine Aq<|Ac<|Ak .plain rfl (AE (α:=Int) (xs:=([(-1:Int),(-1:Int),(-1:Int),(-1:Int),(-1:Int),(-1:Int),(-1:Int),(-1:Int)]:List Int)) (vs:=[vI (-1),vI (-1),vI (-1),vI (-1),vI (-1),vI (-1),vI (-1),vI (-1)]) (ds' :=[vI (-1),vI (-1),vI (-1),vI (-1),vI (-1),vI (-1),vI (-1),vI (-1)]) rfl hS0 el45 rfl (e8 rfl rfl rfl rfl rfl rfl rfl rfl) (by kernel_rfl) rfl) fun g3 v0 B0 Z2=>Af rfl<|Aa<|Ac<|Af rfl<|Aa<|Ac<|Af rfl<|Aa<|Aj<|Ac<|Af rfl<|Aa<|Ay ?_
 have K0:=B0.nilRow 3 (Rep.size Int)
 obtain ⟨d3,p2,Z1⟩:=bind_in2 h
 refine MX.lf (α:=Int × Nat × (List Int) × (List Int) × Value × (List Value) × (List Value)) (fun ⟨u0,b0,d0,j0,c0,g0,k0⟩=>[(0,v0_0),(4,(vS v0 8)),(5,vI u0),(6,c0),(7,vI ((b0:Nat):Int))]) (fun ⟨u0,b0,d0,j0,c0,g0,k0⟩=>[.row w.heap.size 3 (Rep.size Int) c0 d0.length g0,.row w.heap.size 3 (Rep.size Int) (vS v0 8) j0.length k0]) (fun ⟨u0,b0,d0,j0,c0,g0,k0⟩ I0=>Cells I0 (bl [.row w.heap.size 3 (Rep.size Int) c0 d0.length g0,.row w.heap.size 3 (Rep.size Int) (vS v0 8) j0.length k0] ++ L) g0 d0/\Cells I0 (bl [.row w.heap.size 3 (Rep.size Int) c0 d0.length g0,.row w.heap.size 3 (Rep.size Int) (vS v0 8) j0.length k0] ++ L) k0 j0) (fun ⟨u0,b0,d0,j0,c0,g0,k0⟩=>(u0,b0,d0,j0)) (0,0,([]:List Int),([(-1:Int),(-1:Int),(-1:Int),(-1:Int),(-1:Int),(-1:Int),(-1:Int),(-1:Int)]:List Int),vN,[],[vI (-1),vI (-1),vI (-1),vI (-1),vI (-1),vI (-1),vI (-1),vI (-1)]) p2 K0 ⟨(Ax (cs:=[]) (xs:=([]:List Int)) K0 L (AD _ _)),(Au (Ax (cs:=[vI (-1),vI (-1),vI (-1),vI (-1),vI (-1),vI (-1),vI (-1),vI (-1)]) (xs:=(([(-1:Int),(-1:Int),(-1:Int),(-1:Int),(-1:Int),(-1:Int),(-1:Int),(-1:Int)]:List Int):List Int)) B0 L (Am (cs:=[vI (-1)]) (ds:=[vI (-1),vI (-1),vI (-1),vI (-1),vI (-1),vI (-1),vI (-1)]) rfl (Am (cs:=[vI (-1)]) (ds:=[vI (-1),vI (-1),vI (-1),vI (-1),vI (-1),vI (-1)]) rfl (Am (cs:=[vI (-1)]) (ds:=[vI (-1),vI (-1),vI (-1),vI (-1),vI (-1)]) rfl (Am (cs:=[vI (-1)]) (ds:=[vI (-1),vI (-1),vI (-1),vI (-1)]) rfl (Am (cs:=[vI (-1)]) (ds:=[vI (-1),vI (-1),vI (-1)]) rfl (Am (cs:=[vI (-1)]) (ds:=[vI (-1),vI (-1)]) rfl (Am (cs:=[vI (-1)]) (ds:=[vI (-1)]) rfl (Am (cs:=[vI (-1)]) (ds:=[]) rfl (AD _ _)))))))))) (St.nilRowT B0 3 (Rep.size Int)))⟩ ?_
 rintro M2 ⟨u0,b0,d0,j0,c0,g0,k0⟩ I0 F1 p0 J1 ⟨R0,E0⟩ h
 unfold aZ_l1 at h
 try dsimp only at h
 refine Aj<|Ac<|Ae rfl<|Ae rfl ?_
 have H0:=AO h0_0 p0
 have c3:a0.length <= 281474976710656:=AY H0
 refine Ab (Bc (xs:=a0) Tryz.underlying46 rfl H0)<|Ab (Bu (i:=b0) (j:=a0.length) rfl rfl)<|Aa<|AS rfl h (fun v1 h=>?_) (fun v1 h=>?_)
 refine Aq<|Aj<|Ay<|Aj<|Ac<|Ae rfl<|Ae rfl<|Ae rfl<|bk h fun y0 g1 h=>?_
 obtain ⟨J2,R2,V0,Y0,z1,q2,b1⟩:=Bl H0 g1
 have R1:z1 = [vI y0]:=q2; subst R1
 refine Ab (Bm 1 b0 rfl V0 rfl rfl Y0)<|AP rfl (b1 0 _ rfl)<|bk h fun k1 z2 h=>?_
 obtain ⟨X0,A2⟩:=idx_in z2
 obtain ⟨p1,U2,A0,G0,A1,s2,g2⟩:=St.nth (α:=Int) p0 .t1 E0 A2
 obtain ⟨s1,V2,W0⟩:=BU (α:=Int) p0 .t1 G0
 obtain rfl:p1 = ⟨s1,0,none⟩:=by rw [W0] at A0; cases A0; rfl
 have U1:A1 = [vI k1]:=s2; subst U1
 refine Ab (Bm 1 (y0.toNat) rfl A0 rfl X0 G0)<|AP rfl (g2 0 _ rfl)<|Ab (BR (i:=k1) (j:=0) rfl rfl)<|Aa<|MX.jf (α:=Int × (List Int) × (List Value)) (fun ⟨x0,q0,s0⟩=>[(0,v0_0),(4,(vS v0 8)),(5,vI x0),(6,c0),(7,vI ((b0:Nat):Int))]) (fun ⟨x0,q0,s0⟩=>[.row w.heap.size 3 (Rep.size Int) c0 d0.length g0,.row w.heap.size 3 (Rep.size Int) (vS v0 8) q0.length s0]) (fun ⟨x0,q0,s0⟩ j1=>Cells j1 (bl [.row w.heap.size 3 (Rep.size Int) c0 d0.length g0,.row w.heap.size 3 (Rep.size Int) (vS v0 8) q0.length s0] ++ L) s0 q0) (fun ⟨x0,q0,s0⟩=>(x0,q0)) p0 h ?_ ?_
 rintro ⟨x0,q0,s0⟩ j1 z0 M0 U0 h
 try dsimp only at h
 refine Av<|Ae rfl<|Ae rfl<|Ae rfl<|Ae rfl ?_
 obtain ⟨K2,W2,V1,d2,B1,t2,j2⟩:=Bl (AO h0_0 z0) g1
 have W1:B1 = [vI y0]:=t2; subst W1
 refine Ab (Bm 1 b0 rfl V1 rfl rfl d2)<|AP rfl (j2 0 _ rfl)<|bk h fun t0 B2 h=>?_
 obtain ⟨b2,C2⟩:=idx_in B2
 obtain ⟨q1,X2,F0,Z0,C1,u2,k2⟩:=St.nth (α:=Int) z0 .t1 U0 C2
 obtain ⟨u1,Y2,X1⟩:=BU (α:=Int) z0 .t1 Z0
 obtain rfl:q1 = ⟨u1,0,none⟩:=by rw [X1] at F0; cases F0; rfl
 have Y1:C1 = [vI t0]:=u2; subst Y1
 refine Ab (Bm 1 (y0.toNat) rfl F0 rfl b2 Z0)<|AP rfl (k2 0 _ rfl)<|Ak .plain rfl (AE (α:=Int) (xs:=([t0]:List Int)) (vs:=[vI t0]) (ds' :=[vI t0]) rfl z0 el46 rfl (e1 rfl) (by kernel_rfl) rfl) fun j3 Q2 C0 P0=>bk h fun H2 D2 h=>RG.doesL .plain rfl (AW (α:=Int) (ys:=([t0]:List Int)) D2 C0 (fun _ _=>.t1) el46 rfl rfl (Au R0 (Tt M0 P0)) (Src.row (α:=Int) C0 .hd (Ax (cs:=[vI t0]) (xs:=(([t0]:List Int):List Int)) C0 L (Am (cs:=[vI t0]) (ds:=[]) rfl (AD _ _))))) fun G2 k3 ⟨D1,G1,K1,P1⟩=>Af rfl<|Aa<|AA<|Av<|Ae rfl<|Ab (Bw (i:=b0) (j:=1) rfl rfl (by omega))<|Af rfl<|Aa ?_
 obtain ⟨H1,Q0⟩:=AI G1 .d1
 have c1:=Tt P0 (Tt K1 Q0)
 exact F1 (x0,b0 + 1,H2,q0,G2,D1,s0) H1 (Tt J1 (Tt M0 c1)) ⟨(Au P1 Q0),(Au U0 c1)⟩ h
 intro P2 J0 h
 try dsimp only at h
 refine AS rfl h (fun x1 h=>?_) (fun x1 h=>?_)
 refine Ac<|Ae rfl<|Ae rfl<|Ae rfl<|Ab (Bm 1 b0 rfl V0 rfl rfl Y0)<|AP rfl (b1 0 _ rfl)<|Ae rfl<|Ab (Bm 1 (y0.toNat) rfl A0 rfl X0 G0)<|bk h fun I2 E2 h=>RG.acts' .plain (Acts.set (α:=Int) (i:=y0.toNat) E2 p0 W0 (fun _=>.t1) E0 rfl rfl rfl rfl rfl (by kernel_rfl)) fun p3 ⟨E1,I1,M1,Q1⟩=>Aa<|Av<|Ae rfl<|bk h fun F2 y2 h=>Ab (BL (i:=u0) (j:=1) rfl rfl y2)<|Af rfl<|Aa<|J0 (F2,I2,E1) I1 M1 Q1 h
 refine Aq<|J0 (u0,j0,k0) p0 (Bv _ _) E0 h
 refine Ba rfl ?_
 have h:=Z1 _ h
 try dsimp only at h
 refine Ac<|Ae rfl<|Af rfl<|Af rfl<|Aa<|Al rfl ?_
 have D0:=By p0 .hd
 have b3:=Bz p0 .hd
 have v2:=BA (α:=Int) (v:=c0) (xs:=d0) D0 L (Bj (α:=Int) p0 .hd R0 hL)
 refine Ap hb0 Tryz.func74 rfl (.cons (.tmp rfl) (.cons (.tmp rfl) .nil)) rfl ?_
 cases h
 exact ⟨D0.ag,fun p q=>⟨c0,rfl,D0.kd v2 q⟩⟩
 refine Ac<|Af rfl<|Af rfl<|Aa<|Al rfl ?_
 have x2:=Rep.nilAt (α:=Int) hS0 L
 refine Ap hb0 Tryz.func74 rfl (.cons (.tmp rfl) (.cons (.tmp rfl) .nil)) rfl ?_
 cases h
 exact ⟨hS0.ag,fun p q=>⟨vN,rfl,hS0.kd x2 q⟩⟩
def tb31_5:List (Nat × Nat × Nat):=[(0,16384,16),(0,32768,2),(0,65536,32),(6,131072,98304),(0,262144,2),(16,524288,262144),(32,1048576,524288),(64,2097152,1048576),(128,4194304,2097152),(264,8388608,4325376),(512,16777216,8388608),(1033,33554432,16793600),(4095,16,33554432)]
theorem body72:bodyB Tryz.prog 72 = true:=by kernel_rfl
theorem body73:bodyB Tryz.prog 73 = true:=by kernel_rfl
theorem body74:bodyB Tryz.prog 74 = true:=by kernel_rfl
def ai_l1 (_n:Nat) (c0:(List Int) × Int) (g0:Int × Nat -> Option Int):Int × Nat -> Option Int
  | (d0,b0)=>(if b0 < c0.1.length then (c0.1[b0]?).bind fun k0=>(chk (k0 + 1)).bind fun j0=>g0 (max d0 j0,b0 + 1) else some d0)
def ai_l2 (n:Nat) (a0:Tj) (d0:Int × (List Int) -> Option (List Int)):Int × (List Int) -> Option (List Int)
  | (b0,c0)=>(bO_p n a0).bind fun p0=>(if b0 < p0 then (bt_p n a0 b0).bind fun q0=>(remI q0 ((1 + ((a0.fK % (8:UInt8)).toNat):Nat):Int)).bind fun j0=>(app c0 ([j0]:List Int)).bind fun k0=>(chk (b0 + 1)).bind fun g0=>d0 (g0,k0) else some c0)
def ai_p (n:Nat) (a0:Tj):Option ((List Int) × Int):=
  Option.bind (loopF (ai_l2 n a0) n (0,([]:List Int))) (fun c0=>(aZ_p n c0).bind fun b0=>Option.bind (loopF (ai_l1 n b0) n (0,0)) (fun d0=>some (b0.1,d0)))
theorem ai_c (n:Nat) (L:List Nat) (w:World) (hL:∀ b ∈ L,b < w.heap.size) (a0:Tj) {v0_1:Value} (h0_1:Rep.R w L [v0_1] a0.fB) {v0_2:Value} (h0_2:Rep.R w L [v0_2] a0.fMore) {v0_3:Value} (h0_3:Rep.R w L [v0_3] a0.fLabels)  {r:(List Int) × Int} (h:ai_p n a0 = some r) :
    Calls Tryz.prog 31 #[.agg #[.int .u8 (a0.fN.toNat:Int),v0_1,v0_2,v0_3,.int .u8 (a0.fK.toNat:Int)]] w (Gives w fun w' u=>∃ v0_0:Value,u = .tuple #[v0_0,vI r.2]/\Rep.R w' L [v0_0] r.1):=by
 unfold ai_p at h
 refine AF Tryz.func31 rfl rfl rfl fun _ cs0 hb0=>Ac<|RG.bx (AB w) rfl rfl fun u2 x0 C0 d2=>Af rfl<|Af rfl<|Aa<|Ac<|Af rfl<|Aa<|Aj<|Ac<|Af rfl<|Aa<|Ay ?_
 have D0:=C0.nilRow 3 (Rep.size Int)
 have g2:=St.nilRowT C0 3 (Rep.size Int)
 obtain ⟨q2,C1,y1⟩:=bind_in2 h
 refine MX.lf (α:=Int × (List Int) × Value × (List Value)) (fun ⟨q0,j0,p0,s0⟩=>[(1,vP x0),(4,p0),(5,vI q0)]) (fun ⟨q0,j0,p0,s0⟩=>[.row w.heap.size 3 (Rep.size Int) p0 j0.length s0,.cells x0 [.int .u8 (a0.fN.toNat:Int),v0_1,v0_2,v0_3,.int .u8 (a0.fK.toNat:Int)] 25]) (fun ⟨q0,j0,p0,s0⟩ K0=>Cells K0 (bl [.row w.heap.size 3 (Rep.size Int) p0 j0.length s0,.cells x0 [.int .u8 (a0.fN.toNat:Int),v0_1,v0_2,v0_3,.int .u8 (a0.fK.toNat:Int)] 25] ++ L) s0 j0) (fun ⟨q0,j0,p0,s0⟩=>(q0,j0)) (0,([]:List Int),vN,[]) C1 D0 (Ax (cs:=[]) (xs:=([]:List Int)) D0 L (AD _ _)) ?_
 rintro X1 ⟨q0,j0,p0,s0⟩ K0 Y0 c0 p1 H0 h
 unfold ai_l2 at h
 try dsimp only at h
 refine Aj<|Ac<|Ae rfl<|Ab (AK rfl (c0.memA .t1))<|bk h fun P0 M1 h=>Bi (vI P0) body72 rfl (e1 rfl) (fun p q=>bO_c n _ p (c0.hL0 hL q) a0 (c0.k0 h0_1 q) (c0.k0 h0_2 q) (c0.k0 h0_3 q) M1) rfl<|Ab (BR (i:=q0) (j:=P0) rfl rfl)<|Aa<|AS rfl h (fun U0 h=>?_) (fun U0 h=>?_)
 refine Aq<|Aj<|Ay<|dt 11 tb31_5 fun b0 d0=>Ag 0 1 b0 rfl d0 (fun _=>Ai rfl) rfl<|AG 1 3 7688 b0 rfl d0 (AK rfl (c0.memA .t1)) rfl<|Ag 2 7 b0 rfl d0 (fun _=>Ai rfl) rfl<|bk h fun Q0 P1 h=>BT 3 15 7680 (vI Q0) b0 rfl d0 body73 rfl (e2 rfl rfl) (fun p q=>bt_c n _ p (c0.hL0 hL q) a0 (c0.k0 h0_1 q) (c0.k0 h0_2 q) (c0.k0 h0_3 q) P1) rfl<|Ag 4 31 b0 rfl d0 (fun _=>Bd 4 rfl) rfl<|AG 5 63 8128 b0 rfl d0 (AL rfl ((c0.memA .t1) 4 _ rfl)) rfl<|Ag 6 127 b0 rfl d0 (fun _=>FV.rem8 (a:=a0.fK) (b:=(8:UInt8)) rfl rfl (by decide)) rfl ?_
 have k2:=(a0.fK % (8:UInt8)).toNat_lt
 refine Ag 7 255 b0 rfl d0 (fun _=>FV.convN (i:=(a0.fK % (8:UInt8)).toNat) Tryz.underlying5 Tryz.underlying3 rfl (by omega)) rfl<|Ag 8 511 b0 rfl d0 (fun _=>Bw (i:=1) (j:=(a0.fK % (8:UInt8)).toNat) rfl rfl (by omega)) rfl<|bk h fun t0 H1 h=>Ag 9 1023 b0 rfl d0 (fun _=>FV.remc (i:=Q0) (j:=((1 + ((a0.fK % (8:UInt8)).toNat):Nat):Int)) rfl rfl H1) rfl<|BS 10 2047 b0 rfl .plain rfl (AE (α:=Int) (xs:=([t0]:List Int)) (vs:=[vI t0]) (ds' :=[vI t0]) rfl c0 el46 rfl (e1 rfl) (by kernel_rfl) rfl) fun x2 Y1 y0 E0=>bk h fun U1 J1 h=>Be (i:=11) (rk b0) (Bs (m' :=4095) (sk b0) rfl rfl .plain rfl (AW (α:=Int) (ys:=([t0]:List Int)) J1 y0 (fun _ _=>.t1) el46 rfl rfl (Au H0 E0) (Src.row (α:=Int) y0 .hd (Ax (cs:=[vI t0]) (xs:=(([t0]:List Int):List Int)) y0 L (Am (cs:=[vI t0]) (ds:=[]) rfl (AD _ _))))) (fun R1 t2 ⟨V0,Z0,j1,s1⟩=>?_))
 refine Be (i:=12) (rk b0) (Bq (m' :=8191) (sk b0) rfl .plain rfl (AU rfl) ?_)
 refine AM (dk b0)<|AA<|Av<|Ae rfl<|bk h fun Q1 F1 h=>Ab (BL (i:=q0) (j:=1) rfl rfl F1)<|Af rfl<|Aa ?_
 obtain ⟨b1,F0⟩:=AI Z0 .d1
 exact Y0 (Q1,U1,R1,V0) b1 (Tt p1 (Tt E0 (Tt j1 F0))) (Au s1 F0) h
 refine Ba rfl ?_
 have h:=y1 _ h
 try dsimp only at h
 refine Ac<|Ae rfl ?_
 have z0:=By c0 .hd
 have b2:=Bz c0 .hd
 refine bk h fun B0 K1 h=>AZ (fst:=[]) (cap:=[]) .plain body74 rfl (e1 rfl) (fun p q=>aZ_c n _ p (z0.hL hL q) (Ar (BA (α:=Int) (v:=p0) (xs:=j0) z0 L (Bj (α:=Int) c0 .hd H0 hL)) q) K1) rfl fun v2 s2 q1 ⟨J0,hu_,D1⟩=>?_
 subst hu_
 obtain ⟨c1,c2⟩:=z0.agr q1
 refine Ae rfl<|Ab (Ah rfl rfl)<|Ab (Ah rfl rfl)<|Af rfl<|Aa<|Ac<|Af rfl<|Aa<|Aj<|Ac<|Af rfl<|Aa<|Ay ?_
 obtain ⟨g1,k1⟩:=AI c1 .done
 obtain ⟨p2,B1,x1⟩:=bind_in2 h
 refine MX.lo (α:=Int × Nat) (fun ⟨u0,g0⟩=>[(4,J0),(6,vI u0),(7,vI ((g0:Nat):Int))]) (fun ⟨u0,g0⟩=>[]) (fun ⟨u0,g0⟩=>(u0,g0)) (0,0) B1 g1 ?_
 rintro W1 ⟨u0,g0⟩ y2 X0 A0 G0 h
 unfold ai_l1 at h
 try dsimp only at h
 refine Aj<|Ac<|Ae rfl<|Ae rfl ?_
 have v0:=Ao D1 (Tt k1 G0)
 have j2:B0.1.length <= 281474976710656:=AY v0
 refine Ab (Bc (xs:=B0.1) Tryz.underlying46 rfl v0)<|Ab (Bu (i:=g0) (j:=B0.1.length) rfl rfl)<|Aa<|AS rfl h (fun R0 h=>?_) (fun R0 h=>?_)
 refine Aq<|Aj<|Ay<|Av<|Ae rfl<|Ae rfl<|Ae rfl<|bk h fun M0 I1 h=>?_
 obtain ⟨V1,Z1,u1,z1,W0,E1,A1⟩:=Bl v0 I1
 have v1:W0 = [vI M0]:=E1; subst v1
 refine Ab (Bm 1 g0 rfl u1 rfl rfl z1)<|AP rfl (A1 0 _ rfl)<|bk h fun I0 G1 h=>Ab (BL (i:=M0) (j:=1) rfl rfl G1)<|Ab (FV.max2 (i:=u0) (j:=I0) rfl rfl)<|Af rfl<|Aa<|AA<|Av<|Ae rfl<|Ab (Bw (i:=g0) (j:=1) rfl rfl (by omega))<|Af rfl<|Aa<|X0 (max u0 I0,g0 + 1) A0 G0 h
 refine Ba rfl ?_
 have h:=x1 _ h
 try dsimp only at h
 refine Ac<|Ae rfl<|Ae rfl<|Af rfl<|Af rfl<|Aa<|Al rfl<|Ap hb0 Tryz.func31 rfl (.cons (.tmp rfl) (.cons (.tmp rfl) .nil)) rfl ?_
 cases h
 exact ⟨A0.ag,fun p q=>⟨J0,rfl,A0.kd v0 q⟩⟩
structure Ti where
  fe:UInt8
  fh:UInt8
  fj:UInt8
  fu:UInt8
  fNums:List UInt8
  deriving DecidableEq
instance:Rep Ti:=Rep.via (β:=UInt8 × UInt8 × UInt8 × UInt8 × (List UInt8)) fun x=>(x.fe,x.fh,x.fj,x.fu,x.fNums)
def tb75_3:List (Nat × Nat × Nat):=[(0,512,4),(1,1024,512),(0,2048,2),(0,4096,4),(8,8192,4096),(16,16384,8192),(36,32768,18432),(66,65536,33792),(128,131072,65536),(256,262144,131072),(1023,16,262144)]
def aQ_p (_n:Nat) (a0:Ti) (a1:Int):Option Int:=
  (if a0.fNums.length = 0 then some (1:Int) else (remI a1 ((a0.fNums.length:Nat):Int)).bind fun b0=>(idx a0.fNums b0).bind fun c0=>some ((c0.toNat:Nat):Int))
theorem aQ_c (n:Nat) (L:List Nat) (w:World) (_hL:∀ b ∈ L,b < w.heap.size) (a0:Ti) {v0_4:Value} (h0_4:Rep.R w L [v0_4] a0.fNums) {a1:Int}  {r:Int} (h:aQ_p n a0 a1 = some r) :
    Calls Tryz.prog 75 #[.agg #[.int .u8 (a0.fe.toNat:Int),.int .u8 (a0.fh.toNat:Int),.int .u8 (a0.fj.toNat:Int),.int .u8 (a0.fu.toNat:Int),v0_4],vI a1] w (Gives w fun _ u=>u = vI r):=by
 unfold aQ_p at h
 refine AF Tryz.func75 rfl rfl rfl fun _ cs0 hb0=>Ac<|RG.bx (AB w) rfl rfl fun I0 D0 d0 F0=>Af rfl<|Aa<|Aj<|Ac<|AV 4 rfl<|AP rfl ((d0.memA .hd) 4 _ rfl) ?_
 have g0:=AO h0_4 d0
 have G0:a0.fNums.length <= 281474976710656:=AY g0
 refine Ab (Bc (xs:=a0.fNums) Tryz.underlying22 rfl g0)<|Ab (BQ (i:=a0.fNums.length) (j:=0) rfl rfl)<|Aa<|AS rfl h (fun k0 h=>?_) (fun k0 h=>?_)
 refine Ac<|Af rfl<|Aa<|Al rfl<|AT hb0 Tryz.func75 rfl rfl ?_
 cases h
 exact d0.gv
 refine Aq<|Aj<|dt 11 tb75_3 fun b0 c0=>Ag 0 1 b0 rfl c0 (fun _=>Bd 4 rfl) rfl<|AG 1 3 1920 b0 rfl c0 (AL rfl ((d0.memA .hd) 4 _ rfl)) rfl<|Ag 2 7 b0 rfl c0 (fun _=>Ai rfl) rfl<|Ag 3 15 b0 rfl c0 (fun _=>Bd 4 rfl) rfl<|AG 4 31 2016 b0 rfl c0 (AL rfl ((d0.memA .hd) 4 _ rfl)) rfl<|AG 5 63 1984 b0 rfl c0 (Bc (xs:=a0.fNums) Tryz.underlying22 rfl g0) rfl<|bk h fun B0 y0 h=>Ag 6 127 b0 rfl c0 (fun _=>FV.remc (i:=a1) (j:=((a0.fNums.length:Nat):Int)) rfl rfl y0) rfl<|bk h fun j0 z0 h=>?_
 obtain ⟨t0,A0⟩:=idx_in z0
 obtain ⟨C0,E0,q0,u0,p0,x0,v0⟩:=Bl g0 A0
 have s0:p0 = [.int .u8 (j0.toNat:Int)]:=x0; subst s0
 refine Ag 7 255 b0 rfl c0 (fun _=>Bm 1 (B0.toNat) rfl q0 rfl t0 u0) rfl<|AG 8 511 1536 b0 rfl c0 (AL rfl (v0 0 _ rfl)) rfl ?_
 have H0:=j0.toNat_lt
 refine Ag 9 1023 b0 rfl c0 (fun _=>FV.convN (i:=j0.toNat) Tryz.underlying5 Tryz.underlying3 rfl (by omega)) rfl<|Ag 10 2047 b0 rfl c0 (fun _=>AU rfl) rfl<|AM (dk b0)<|Al rfl<|AT hb0 Tryz.func75 rfl rfl ?_
 cases h
 exact d0.gv
theorem body75:bodyB Tryz.prog 75 = true:=by kernel_rfl
def av_l1 (n:Nat) (a1:Int) (a2:Int) (a0:Ti) (a3:Int) (d0:Int × (List Int) -> Option (List Int)):Int × (List Int) -> Option (List Int)
  | (b0,c0)=>(if b0 < a1 then (chk (a2 + b0)).bind fun j0=>(aQ_p n a0 j0).bind fun p0=>(app c0 ([min p0 a3]:List Int)).bind fun k0=>(chk (b0 + 1)).bind fun g0=>d0 (g0,k0) else some c0)
def av_p (n:Nat) (a0:Ti) (a1:Int) (a2:Int) (a3:Int):Option (List Int):=
  Option.bind (loopF (av_l1 n a1 a2 a0 a3) n (0,([]:List Int))) (fun b0=>some b0)
theorem av_c (n:Nat) (L:List Nat) (w:World) (hL:∀ b ∈ L,b < w.heap.size) (a0:Ti) {v0_4:Value} (h0_4:Rep.R w L [v0_4] a0.fNums) {a1:Int} {a2:Int} {a3:Int}  {r:List Int} (h:av_p n a0 a1 a2 a3 = some r) :
    Calls Tryz.prog 76 #[.agg #[.int .u8 (a0.fe.toNat:Int),.int .u8 (a0.fh.toNat:Int),.int .u8 (a0.fj.toNat:Int),.int .u8 (a0.fu.toNat:Int),v0_4],vI a1,vI a2,vI a3] w (Gives w fun w' u=>∃ v0_0:Value,u = v0_0/\Rep.R w' L [v0_0] r):=by
 unfold av_p at h
 refine AF Tryz.func76 rfl rfl rfl fun _ cs0 hb0=>Ac<|RG.bx (AB w) rfl rfl fun p1 q0 u0 c1=>Af rfl<|Aa<|Ac<|Af rfl<|Aa<|Aj<|Ac<|Af rfl<|Aa<|Ay ?_
 have v0:=u0.nilRow 3 (Rep.size Int)
 have g1:=St.nilRowT u0 3 (Rep.size Int)
 obtain ⟨j1,K0,J0⟩:=bind_in2 h
 refine MX.lf (α:=Int × (List Int) × Value × (List Value)) (fun ⟨g0,c0,b0,j0⟩=>[(1,vI a1),(2,vI a2),(3,vI a3),(4,vP q0),(9,b0),(10,vI g0)]) (fun ⟨g0,c0,b0,j0⟩=>[.row w.heap.size 3 (Rep.size Int) b0 c0.length j0,.cells q0 [.int .u8 (a0.fe.toNat:Int),.int .u8 (a0.fh.toNat:Int),.int .u8 (a0.fj.toNat:Int),.int .u8 (a0.fu.toNat:Int),v0_4] 27]) (fun ⟨g0,c0,b0,j0⟩ A0=>Cells A0 (bl [.row w.heap.size 3 (Rep.size Int) b0 c0.length j0,.cells q0 [.int .u8 (a0.fe.toNat:Int),.int .u8 (a0.fh.toNat:Int),.int .u8 (a0.fj.toNat:Int),.int .u8 (a0.fu.toNat:Int),v0_4] 27] ++ L) j0 c0) (fun ⟨g0,c0,b0,j0⟩=>(g0,c0)) (0,([]:List Int),vN,[]) K0 v0 (Ax (cs:=[]) (xs:=([]:List Int)) v0 L (AD _ _)) ?_
 rintro Y0 ⟨g0,c0,b0,j0⟩ A0 D0 p0 G0 z0 h
 unfold av_l1 at h
 try dsimp only at h
 refine Aj<|Ac<|Ae rfl<|Ae rfl<|Ab (BR (i:=g0) (j:=a1) rfl rfl)<|Aa<|AS rfl h (fun B0 h=>?_) (fun B0 h=>?_)
 refine Aq<|Aj<|Ay<|Av<|Ae rfl<|Ab (AK rfl (p0.memA .t1))<|Ae rfl<|Ae rfl<|bk h fun k1 Q0 h=>Ab (BL (i:=a2) (j:=g0) rfl rfl Q0)<|bk h fun d0 U0 h=>Bi (vI d0) body75 rfl (e2 rfl rfl) (fun p q=>aQ_c n _ p (p0.hL0 hL q) a0 (p0.k0 h0_4 q) U0) rfl<|Ae rfl<|Ab (FV.min2 (i:=d0) (j:=a3) rfl rfl)<|Ak .plain rfl (AE (α:=Int) (xs:=([min d0 a3]:List Int)) (vs:=[vI (min d0 a3)]) (ds' :=[vI (min d0 a3)]) rfl p0 el45 rfl (e1 rfl) (by kernel_rfl) rfl) fun q1 Z0 t0 y0=>bk h fun X0 R0 h=>RG.doesL .plain rfl (AW (α:=Int) (ys:=([min d0 a3]:List Int)) R0 t0 (fun _ _=>.t1) el45 rfl rfl (Au z0 y0) (Src.row (α:=Int) t0 .hd (Ax (cs:=[vI (min d0 a3)]) (xs:=(([min d0 a3]:List Int):List Int)) t0 L (Am (cs:=[vI (min d0 a3)]) (ds:=[]) rfl (AD _ _))))) fun W0 s1 ⟨C0,F0,H0,I0⟩=>Af rfl<|Aa<|AA<|Av<|Ae rfl<|bk h fun V0 P0 h=>Ab (BL (i:=g0) (j:=1) rfl rfl P0)<|Af rfl<|Aa ?_
 obtain ⟨E0,x0⟩:=AI F0 .d1
 exact D0 (V0,X0,W0,C0) E0 (Tt G0 (Tt y0 (Tt H0 x0))) (Au I0 x0) h
 refine Ba rfl ?_
 have h:=J0 _ h
 try dsimp only at h
 refine Ac<|Ae rfl<|Af rfl<|Aa<|Al rfl ?_
 have s0:=By p0 .hd
 have b1:=Bz p0 .hd
 have M0:=BA (α:=Int) (v:=b0) (xs:=c0) s0 L (Bj (α:=Int) p0 .hd z0 hL)
 refine AT hb0 Tryz.func76 rfl rfl ?_
 cases h
 exact ⟨s0.ag,fun p q=>⟨b0,rfl,s0.kd M0 q⟩⟩
end Go.Proofs.YtgejkdheojkfiaaGreatDoor
