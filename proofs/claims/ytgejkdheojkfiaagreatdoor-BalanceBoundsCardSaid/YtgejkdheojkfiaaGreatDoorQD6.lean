/- Functions of the program, and what they give: part 5. -/
import Derived.Test.YtgejkdheojkfiaaGreatDoorQD4
namespace Go.Proofs.YtgejkdheojkfiaaGreatDoor
open Go Go.RowKit
set_option maxRecDepth 4000
set_option maxHeartbeats 4000000

def dR_p (n:Nat) (a0:Td) (a1:List Int) (a2:Int):Option ((List Ta) × Int):=
  (cU_p n a0 a2 a1).bind fun c0=>exc c0 (fun d0=>some (d0,(0:Int))) (fun b0=>some (([]:List Ta),b0.fB))
theorem dR_c (n:Nat) {L w} (hL:hl L w) (a0:Td) {v0_3:Value} (h0_3:Rep.R w L [v0_3] a0.fo) {a1:List Int} {v1_0:Value} (h1_0:Rep.R w L [v1_0] a1) {a2:Int}  {r:(List Ta) × Int} (h:dR_p n a0 a1 a2 = some r) :
 Cl 20 #[.agg #[vI a0.fe,vI a0.fh,vI a0.fj,v0_3],v1_0,vI a2] w (Gives w fun w' u=>∃ v0_0:Value,u = .tuple #[v0_0,vI r.2]/\Rep.R w' L [v0_0] r.1):=by
 unfold dR_p at h
 refine AD Tryz.func20 rfl rfl rfl fun _ cs0 hb0=>Ac<|RG.bx (Az w) rfl rfl fun M1 g0 D0 B1=>RG.bx D0 rfl (Rep.c1 (AS h1_0 D0)) fun V1 j0 M0 C1=>RG.bx M0 rfl rfl fun W1 k0 P0 D1=>Af rfl<|Af rfl<|Aa<|Ac<|Ab (BW (vs:=[]) (us:=[vP g0,vP k0,vP j0]) evs_nil (e3 rfl rfl rfl))<|BL (fst:=[]) (cap:=[]) (vs:=[.func (.func 62) #[] #[vP g0,vP k0,vP j0]]) .plain (bd 61) Tryz.func61 rfl rfl rfl rfl (e1 rfl) rfl fun x1 E0 J1=>Ac<|RG.nl [vN] P0 fun X1 p0 Q0 E1=>RG.nl [vI 0] Q0 fun Y1 d0 b0 F1=>Aa<|Ac<|Ab (BW (vs:=[]) (us:=[vP p0,vP d0]) evs_nil (e2 rfl rfl))<|RG.defer (fst:=[]) (cap:=[vP p0,vP d0]) (vs:=[]) rfl .plain rfl evs_nil<|Aa<|Ac<|Ae rfl<|xk h (fun s0 z0 h=>?_) (fun g2 z0 h=>?_)
 refine BH (fst:=[]) (cap:=[vP g0,vP k0,vP j0]) .plain (bd 62) rfl evs_nil (fun p q=>cU_c n (b0.hL hL q) a0 (b0.km h0_3 q) (mem_keep q (b0.memA .t4)) (mem_keep q (b0.memA .t2)) (b0.km h1_0 q) (mem_keep q (b0.memA .t3)) z0) fun Z1 b1=>?_
 obtain ⟨R0,G1⟩:=b0.agr b1
 refine PN.callD (vs:=[]) (cap:=[vP p0,vP d0]) (bd 106) Tryz.func106 rfl rfl rfl fun v1 g1 k1=>Ac<|RG.recover1 .plain g1 rfl<|Af rfl<|Aa<|Ac<|Ae rfl<|Ab (FV.neqI Tryz.underlying20 rfl rfl)<|Aa<|Bk rfl<|Ac<|Ae rfl<|Ab (FV.assertT (by kernel_rfl) rfl)<|Ae rfl<|Ab (Ag rfl rfl)<|Ab (Ag rfl rfl)<|RG.nl [vI 0] R0 fun b2 s1 U0 H1=>AQ [vI s0.fB] U0 .hd (o1 rfl) fun c2 u0 I1=>Af rfl<|Aa<|Aj<|Ac<|Ae rfl<|Ab (Bp rfl)<|Aa<|BF rfl<|Au<|Ac<|Af rfl<|Aa<|du 3 fun c0 A0=>Rv 0 c0 rfl A0 (fun _=>Ai rfl)<|Rv 1 c0 rfl A0 (fun _=>Bb 0 rfl)<|RD.mo (α:=Unit) (fun ()=>[(1,vP d0),(19,vI s0.fB)]) (fun ()=>[.cells d0 [vI 0] 51,.cells p0 [vN] 63,.cells k0 [vI a2] 3,.cells j0 [v1_0] 46,.cells g0 [vI a0.fe,vI a0.fh,vI a0.fj,v0_3] 44]) u0 1 15 ?_ ?_
 rintro ⟨⟩ d2 G0 y1
 try dsimp only
 refine BE 4 31 c0 rfl rfl .plain (AF (news:=[vI s0.fB]) G0 .hd rfl rfl rfl rfl rfl rfl (o1 rfl)) fun P1 q0 z1=>AN (dk c0)<|MX.fin rfl<|RT.leaveD1 k1 Tryz.func106 rfl .nil<|Am (u:=.tuple #[vN,vI s0.fB]) E0 Tryz.func61 rfl (.cons (.one (by kernel_rfl) rfl ((q0.memA .t1) 0 _ rfl)) (.cons (.one (by kernel_rfl) rfl ((q0.memA .hd) 0 _ rfl)) .nil)) rfl<|Ab (Ag rfl rfl)<|Ab (Ag rfl rfl)<|Af rfl<|Af rfl<|Aa<|Al rfl ?_
 have p1:=Rep.nilAt (α:=Ta) q0 L
 refine Am hb0 Tryz.func20 rfl (.cons (.tmp rfl) (.cons (.tmp rfl) .nil)) rfl ?_
 cases h
 exact ⟨q0.ag,fun p q=>⟨vN,rfl,q0.kd p1 q⟩⟩
 intro C0
 refine Bm [2,3] (rk c0) ⟨?_,?_,trivial⟩
 refine Bs (m' :=7) (sk c0) rfl .plain rfl (AL rfl ((u0.memA .hd) 0 _ rfl))<|BE 3 15 c0 rfl rfl .plain (AF (news:=[vN]) u0 .t2 rfl rfl rfl rfl rfl rfl (o1 rfl)) fun q1 v0 x0=>?_
 obtain ⟨H0,V0⟩:=AG v0 .d1
 exact C0 () H0 (Tt x0 V0)
 refine RO.now (m' :=11) (sk c0) rfl rfl .plain (AF (news:=[vN]) u0 .t2 rfl rfl rfl rfl rfl rfl (o1 rfl)) fun q1 v0 x0=>Rx 2 16 c0 rfl A0 (AL rfl ((v0.memA .hd) 0 _ rfl)) ?_
 obtain ⟨I0,W0⟩:=AG v0 .d1
 exact C0 () I0 (Tt x0 W0)
 refine AX (fst:=[]) (cap:=[vP g0,vP k0,vP j0]) .plain (bd 62) rfl evs_nil (fun p q=>Bi (cU_c n (b0.hL hL q) a0 (b0.km h0_3 q) (mem_keep q (b0.memA .t4)) (mem_keep q (b0.memA .t2)) (b0.km h1_0 q) (mem_keep q (b0.memA .t3)) z0)) rfl fun Q1 B0 Z0 ⟨K1,hu_,y0⟩=>?_
 subst hu_
 obtain ⟨J0,A1⟩:=b0.agr Z0
 refine RG.now .plain (AF (news:=[B0]) J0 .t1 rfl rfl rfl (Rep.c1 y0) rfl rfl (o1 (AO y0))) fun R1 K0 X0=>AQ [vI 0] K0 .hd (o1 rfl) fun U1 t0 Y0=>Aa<|Al rfl<|RT.callD (vs:=[]) (cap:=[vP p0,vP d0]) (bd 106) Tryz.func106 rfl rfl rfl fun u1 F0 j1=>Ac<|RG.recover0 .plain F0 rfl<|Af rfl<|Aa<|Ac<|Ae rfl<|Ab (FV.neqI0 Tryz.underlying20 rfl rfl)<|Aa<|BF rfl<|Au<|MX.fin rfl<|RT.leaveD0 F0 j1 Tryz.func106 rfl .nil<|Am (u:=.tuple #[B0,vI 0]) E0 Tryz.func61 rfl (.cons (.one (by kernel_rfl) rfl ((t0.memA .t1) 0 _ rfl)) (.cons (.one (by kernel_rfl) rfl ((t0.memA .hd) 0 _ rfl)) .nil)) rfl<|Ab (Ag rfl rfl)<|Ab (Ag rfl rfl)<|Af rfl<|Af rfl<|Aa<|Al rfl<|Am hb0 Tryz.func20 rfl (.cons (.tmp rfl) (.cons (.tmp rfl) .nil)) rfl ?_
 cases h
 exact ⟨t0.ag,fun p q=>⟨B0,rfl,t0.kd (Ao y0 (Tt X0 Y0)) q⟩⟩
def de_p (n:Nat) (a0:Td) (a1:Int) (a2:List Int):Option (Except Tg Ta):=
  (aB_p n a0 a1).bind fun z0=>exc z0 (fun d0=>(ao_p n d0 a2).bind fun A0=>exc A0 (fun b0=>(ay_p n d0).bind fun g0=>(ae_p n (decide (g0 = 0)) (7:Int)).bind fun B0=>exc B0 (fun _y63=>(b0[0]?).bind fun c0=>(bz_p n c0 b0).bind fun C0=>(ca_p n c0 b0).bind fun D0=>(chk (C0 - D0)).bind fun v0=>(aT_p n v0 (1:Int)).bind fun E0=>exc E0 (fun F0=>(aT_p n g0 a1).bind fun G0=>exc G0 (fun H0=>(dQ_p n F0 H0).bind fun j0=>(ab_p n j0.1 j0.2).bind fun x0=>exc x0 (fun y0=>some (.ok y0)) (fun k0=>some (.error k0))) (fun u0=>some (.error u0))) (fun t0=>some (.error t0))) (fun s0=>some (.error s0))) (fun q0=>some (.error q0))) (fun p0=>some (.error p0))
theorem de_c (n:Nat) {L w} (hL:hl L w) (a0:Td) {v0_3:Value} (h0_3:Rep.R w L [v0_3] a0.fo) {p0:Nat} (m0:∀ j9 v9,([vI a0.fe,vI a0.fh,vI a0.fj,v0_3]:List Value)[j9]? = some v9 -> w.cell? ((⟨p0,0,none⟩:Addr).add j9) = some v9) {a1:Int} {p1:Nat} (m1:∀ j9 v9,([vI a1]:List Value)[j9]? = some v9 -> w.cell? ((⟨p1,0,none⟩:Addr).add j9) = some v9) {a2:List Int} {v2_0:Value} (h2_0:Rep.R w L [v2_0] a2) {p2:Nat} (m2:∀ j9 v9,([v2_0]:List Value)[j9]? = some v9 -> w.cell? ((⟨p2,0,none⟩:Addr).add j9) = some v9)  {r:Except Tg Ta} (h:de_p n a0 a1 a2 = some r) :
 Cl 67 #[.pointer (some ⟨p0,0,none⟩),.pointer (some ⟨p1,0,none⟩),.pointer (some ⟨p2,0,none⟩)] w (PGives w (fun (y:Ta) _ u=>u = .agg ((cs_Ta y)).toArray) (fun e=>.iface 120 (.agg #[vI e.fB])) r):=by
 unfold de_p at h
 refine MX.startP Tryz.func67 rfl rfl rfl fun _ cs0 hb0 hp0=>Ac<|RG.nl zL (Az w) fun z2 K1 k0 b2=>Aa<|Ac<|Ab (AH rfl (fun j9 v9 h9=>k0.ag.cell0 (m0 j9 v9 h9)))<|AP rfl ((fun j9 v9 h9=>k0.ag.cell0 (m1 j9 v9 h9)) 0 _ rfl)<|xk h (fun R1 A0 h=>?_) (fun s0 A0 h=>?_)
 refine BH (fst:=[]) (cap:=[]) .plain (bd 38) rfl (e2 rfl rfl) (fun p q=>aB_c n (k0.hL hL q) a0 (k0.km h0_3 q) A0) fun A2 k1=>?_
 obtain ⟨W0,c2⟩:=k0.agr k1
 cases h
 exact Bl hp0 Tryz.func67 ⟨W0.ag,rfl⟩
 refine AX (fst:=[]) (cap:=[]) .plain (bd 38) rfl (e2 rfl rfl) (fun p q=>Bi (aB_c n (k0.hL hL q) a0 (k0.km h0_3 q) A0)) rfl fun B2 u2 q1 ⟨H1,hu_,u0⟩=>?_
 subst hu_
 obtain ⟨X0,d2⟩:=k0.agr q1
 refine RG.nl [vI 0,vI 0,vI 0,vN,vI 0] X0 fun C2 M1 Y0 t0=>AQ [vI s0.fA.fe,vI s0.fA.fh,vI s0.fA.fj,H1,vI s0.fk] Y0 .hd (o5 rfl rfl rfl (AO (Ao u0 t0)) rfl) fun D2 g0 x0=>Aa<|Aj<|du 7 fun j0 q0=>Rx 0 116 j0 rfl q0 (AH rfl (g0.memA .hd))<|Rx 1 116 j0 rfl q0 (AL rfl ((fun j9 v9 h9=>g0.ag.cell0 (m2 j9 v9 h9)) 0 _ rfl))<|xk h (fun U1 B0 h=>?_) (fun J2 B0 h=>?_)
 refine Rx 3 112 j0 rfl q0 (AH rfl (g0.memA .hd))<|Bf (i:=2) (rk j0) (RO.callE (fst:=[]) (cap:=[]) rfl .plain (bd 46) rfl (e2 rfl rfl) (fun p q=>ao_c n (g0.hL hL q) s0 (Aq (Ao u0 (Tt t0 x0)) q) (g0.km h2_0 q) B0) (fun E2 s1=>?_))
 obtain ⟨Z0,g2⟩:=g0.agr s1
 cases h
 exact Bl hp0 Tryz.func67 ⟨Z0.ag,rfl⟩
 refine Rx 3 112 j0 rfl q0 (AH rfl (g0.memA .hd))<|Bn 2 15 j0 rfl .plain (bd 46) rfl (e2 rfl rfl) (fun p q=>Bi (ao_c n (g0.hL hL q) s0 (Aq (Ao u0 (Tt t0 x0)) q) (g0.km h2_0 q) B0)) rfl fun F2 v2 u1 ⟨t2,hu_,y0⟩=>?_
 subst hu_
 obtain ⟨c0,g1⟩:=g0.agr u1
 refine bk h fun K0 D1 h=>BO 4 31 96 (vI K0) j0 rfl q0 (bd 54) rfl (e1 rfl) (fun p q=>ay_c n (c0.hL0 hL q) s0 (c0.kd (Ao u0 (Tt t0 (Tt x0 g1))) q) D1) rfl<|Rv 5 j0 rfl q0 (fun _=>AV rfl)<|Rv 6 j0 rfl q0 (fun _=>AV rfl)<|AN (dk j0)<|Ac<|Ae rfl<|Ab (FV.eql (i:=K0) (j:=0) rfl rfl)<|xk h (fun V1 C0 h=>?_) (fun K2 C0 h=>?_)
 refine BH (fst:=[]) (cap:=[]) .plain (bd 63) rfl (e2 rfl rfl) (fun p q=>ae_c n (c0.hL0 hL q)  C0) fun G2 v1=>?_
 obtain ⟨b1,j2⟩:=c0.agr v1
 cases h
 exact Bl hp0 Tryz.func67 ⟨b1.ag,rfl⟩
 refine Ba (.tuple #[]) (bd 63) rfl (e2 rfl rfl) (fun p q=>Bi (ae_c n (c0.hL0 hL q)  C0)) rfl<|Aa<|Aj<|du 19 fun b0 d0=>Rv 0 b0 rfl d0 (fun _=>Ai rfl)<|bk h fun I1 C1 h=>?_
 obtain ⟨J1,P1,H0,I0,U0,A1,J0⟩:=Br y0 C1
 have z1:U0 = [vI I1]:=A1; subst z1
 refine Rv 1 b0 rfl d0 (fun _=>Bq 1 0 rfl H0 rfl rfl I0)<|Rx 2 1035792 b0 rfl d0 (AL rfl (J0 0 _ rfl))<|Rv 3 b0 rfl d0 (fun _=>Ai rfl)<|bk h fun M0 E1 h=>BO 4 31 1035776 (vI M0) b0 rfl d0 (bd 48) rfl (e2 rfl rfl) (fun p q=>bz_c n (c0.hL0 hL q) (c0.kd y0 q) E1) rfl<|Rv 5 b0 rfl d0 (fun _=>Ai rfl)<|Rv 6 b0 rfl d0 (fun _=>Bq 1 0 rfl H0 rfl rfl I0)<|Rx 7 1035776 b0 rfl d0 (AL rfl (J0 0 _ rfl))<|Rv 8 b0 rfl d0 (fun _=>Ai rfl)<|bk h fun P0 F1 h=>BO 9 1023 1035264 (vI P0) b0 rfl d0 (bd 47) rfl (e2 rfl rfl) (fun p q=>ca_c n (c0.hL0 hL q) (c0.kd y0 q) F1) rfl<|bk h fun s2 B1 h=>Rv 10 b0 rfl d0 (fun _=>FV.subc (i:=M0) (j:=P0) rfl rfl B1)<|xk h (fun W1 D0 h=>?_) (fun Q0 D0 h=>?_)
 refine Rv 12 b0 rfl d0 (fun _=>Ai rfl)<|Rx 13 1032192 b0 rfl d0 (AL rfl ((fun j9 v9 h9=>c0.ag.cell0 (m1 j9 v9 h9)) 0 _ rfl))<|Bf (i:=11) (rk b0) (RO.callE (fst:=[]) (cap:=[]) rfl .plain (bd 53) rfl (e2 rfl rfl) (fun p q=>aT_c n (c0.hL0 hL q)  D0) (fun H2 x1=>?_))
 obtain ⟨c1,k2⟩:=c0.agr x1
 cases h
 exact Bl hp0 Tryz.func67 ⟨c1.ag,rfl⟩
 refine BO 11 4095 1032192 (.agg ((cs_Ta Q0)).toArray) b0 rfl d0 (bd 53) rfl (e2 rfl rfl) (fun p q=>Bi (aT_c n (c0.hL0 hL q)  D0)) rfl<|Rv 12 b0 rfl d0 (fun _=>Ai rfl)<|Rx 13 1032192 b0 rfl d0 (AL rfl ((fun j9 v9 h9=>c0.ag.cell0 (m1 j9 v9 h9)) 0 _ rfl))<|xk h (fun X1 E0 h=>?_) (fun R0 E0 h=>?_)
 refine Bf (i:=14) (rk b0) (RO.callE (fst:=[]) (cap:=[]) rfl .plain (bd 53) rfl (e2 rfl rfl) (fun p q=>aT_c n (c0.hL0 hL q)  E0) (fun I2 y1=>?_))
 obtain ⟨d1,q2⟩:=c0.agr y1
 cases h
 exact Bl hp0 Tryz.func67 ⟨d1.ag,rfl⟩
 refine BO 14 32767 1015808 (.agg ((cs_Ta R0)).toArray) b0 rfl d0 (bd 53) rfl (e2 rfl rfl) (fun p q=>Bi (aT_c n (c0.hL0 hL q)  E0)) rfl<|bk h fun v0 G1 h=>BO 15 65535 983040 (.tuple #[.agg ((cs_Ta v0.1)).toArray,vI v0.2]) b0 rfl d0 (bd 65) rfl (e2 rfl rfl) (fun p q=>dQ_c n (c0.hL0 hL q) Q0 R0 G1) rfl<|Rv 16 b0 rfl d0 (fun _=>Ag rfl rfl)<|Rv 17 b0 rfl d0 (fun _=>Ag rfl rfl)<|xk h (fun Q1 z0 h=>?_) (fun F0 z0 h=>?_)
 refine Bf (i:=18) (rk b0) (RO.callE (fst:=[]) (cap:=[]) rfl .plain (bd 64) rfl (e2 rfl rfl) (fun p q=>ab_c n (c0.hL0 hL q) v0.1 z0) (fun x2 j1=>?_))
 obtain ⟨V0,Y1⟩:=c0.agr j1
 cases h
 exact Bl hp0 Tryz.func67 ⟨V0.ag,rfl⟩
 refine BO 18 524287 524288 (.agg ((cs_Ta F0)).toArray) b0 rfl d0 (bd 64) rfl (e2 rfl rfl) (fun p q=>Bi (ab_c n (c0.hL0 hL q) v0.1 z0)) rfl<|BE 19 1048575 b0 rfl rfl .plain (AF (news:=(cs_Ta F0)) c0 .t1 rfl rfl rfl rfl rfl rfl (onesB rfl)) fun y2 G0 Z1=>AN (dk b0)<|Al rfl<|Am hb0 Tryz.func67 rfl (.cons (.many (cs:=(cs_Ta F0)) (by kernel_rfl) rfl (G0.memA .t1)) .nil) rfl ?_
 cases h
 exact ⟨G0.ag,fun p q=>okOf_in rfl⟩
def dF_p (n:Nat) (a0:Td) (a1:List Int) (a2:Int):Option (Ta × Int):=
  (de_p n a0 a2 a1).bind fun c0=>exc c0 (fun d0=>some (d0,(0:Int))) (fun b0=>some ((⟨((0:UInt64),(0:UInt64),(0:UInt64),(0:UInt64),(0:UInt64),(0:UInt64),(0:UInt64),(0:UInt64)),((0:UInt64),(0:UInt64),(0:UInt64),(0:UInt64),(0:UInt64),(0:UInt64),(0:UInt64),(0:UInt64))⟩:Ta),b0.fB))
theorem dF_c (n:Nat) {L w} (hL:hl L w) (a0:Td) {v0_3:Value} (h0_3:Rep.R w L [v0_3] a0.fo) {a1:List Int} {v1_0:Value} (h1_0:Rep.R w L [v1_0] a1) {a2:Int}  {r:Ta × Int} (h:dF_p n a0 a1 a2 = some r) :
 Cl 22 #[.agg #[vI a0.fe,vI a0.fh,vI a0.fj,v0_3],v1_0,vI a2] w (Gives w fun _ u=>u = .tuple #[.agg ((cs_Ta r.1)).toArray,vI r.2]):=by
 unfold dF_p at h
 refine AD Tryz.func22 rfl rfl rfl fun _ cs0 hb0=>Ac<|RG.bx (Az w) rfl rfl fun U1 j0 D0 E1=>RG.bx D0 rfl (Rep.c1 (AS h1_0 D0)) fun b2 p0 Q0 F1=>RG.bx Q0 rfl rfl fun c2 q0 R0 G1=>RG.nl zL R0 fun g2 I0 U0 H1=>Af rfl<|Aa<|Ac<|Ab (BW (vs:=[]) (us:=[vP j0,vP q0,vP p0]) evs_nil (e3 rfl rfl rfl))<|BL (fst:=[]) (cap:=[]) (vs:=[.func (.func 67) #[] #[vP j0,vP q0,vP p0]]) .plain (bd 51) Tryz.func51 rfl rfl rfl rfl (e1 rfl) rfl fun x1 G0 R1=>Ac<|RG.nl zL U0 fun j2 s0 V0 I1=>RG.nl [vI 0] V0 fun k2 d0 b0 J1=>Aa<|Ac<|Ab (BW (vs:=[]) (us:=[vP s0,vP d0]) evs_nil (e2 rfl rfl))<|RG.defer (fst:=[]) (cap:=[vP s0,vP d0]) (vs:=[]) rfl .plain rfl evs_nil<|Aa<|Ac<|Ae rfl<|xk h (fun u0 A0 h=>?_) (fun g0 A0 h=>?_)
 refine BH (fst:=[]) (cap:=[vP j0,vP q0,vP p0]) .plain (bd 67) rfl evs_nil (fun p q=>de_c n (b0.hL0 hL q) a0 (b0.k0 h0_3 q) (mem_keep q (b0.memA .t5)) (mem_keep q (b0.memA .t3)) (b0.k0 h1_0 q) (mem_keep q (b0.memA .t4)) A0) fun p2 d1=>?_
 obtain ⟨W0,K1⟩:=b0.agr d1
 refine PN.callD (vs:=[]) (cap:=[vP s0,vP d0]) (bd 103) Tryz.func103 rfl rfl rfl fun v1 g1 k1=>Ac<|RG.recover1 .plain g1 rfl<|Af rfl<|Aa<|Ac<|Ae rfl<|Ab (FV.neqI Tryz.underlying20 rfl rfl)<|Aa<|Bk rfl<|Ac<|Ae rfl<|Ab (FV.assertT (by kernel_rfl) rfl)<|Ae rfl<|Ab (Ag rfl rfl)<|Ab (Ag rfl rfl)<|RG.nl [vI 0] W0 fun q2 q1 X0 M1=>AQ [vI u0.fB] X0 .hd (o1 rfl) fun s2 Y0 P1=>Af rfl<|Aa<|Aj<|Ac<|Ae rfl<|Ab (Bp rfl)<|Aa<|BF rfl<|Au<|Ac<|RG.nl zL Y0 fun u2 s1 t0 Q1=>Aa<|du 3 fun c0 B0=>Rx 0 24 c0 rfl B0 (AH rfl (t0.memA .hd))<|Rv 1 c0 rfl B0 (fun _=>Bb 0 rfl)<|RD.mo (α:=Unit) (fun ()=>[(1,vP d0),(19,vI u0.fB)]) (fun ()=>[.cells d0 [vI 0] 51,.cells s0 zL 37,.cells I0 zL 37,.cells q0 [vI a2] 3,.cells p0 [v1_0] 46,.cells j0 [vI a0.fe,vI a0.fh,vI a0.fj,v0_3] 44]) t0 1 15 ?_ ?_
 rintro ⟨⟩ v2 J0 y1
 try dsimp only
 refine BE 4 31 c0 rfl rfl .plain (AF (news:=[vI u0.fB]) J0 .hd rfl rfl rfl rfl rfl rfl (o1 rfl)) fun V1 x0 z1=>AN (dk c0)<|MX.fin rfl<|RT.leaveD1 k1 Tryz.func103 rfl .nil<|Am (u:=.tuple #[.agg zM,vI u0.fB]) G0 Tryz.func51 rfl (.cons (.many (cs:=zL) (by kernel_rfl) rfl (x0.memA .t1)) (.cons (.one (by kernel_rfl) rfl ((x0.memA .hd) 0 _ rfl)) .nil)) rfl<|Ab (Ag rfl rfl)<|Ab (Ag rfl rfl)<|AQ zL x0 .t2 (onesB rfl) fun W1 E0 A1=>Af rfl<|Aa<|Al rfl<|Am hb0 Tryz.func22 rfl (.cons (.many (cs:=zL) (by kernel_rfl) rfl (E0.memA .t2)) (.cons (.tmp rfl) .nil)) rfl ?_
 cases h
 exact E0.gv
 intro C0
 refine Bm [2,3] (rk c0) ⟨?_,?_,trivial⟩
 refine Bs (m' :=7) (sk c0) rfl .plain rfl (AL rfl ((t0.memA .t1) 0 _ rfl))<|BE 3 15 c0 rfl rfl .plain (AF (news:=zL) t0 .t3 rfl rfl rfl rfl rfl rfl (onesB rfl)) fun p1 v0 z0=>?_
 obtain ⟨K0,Z0⟩:=AG v0 .d2
 exact C0 () K0 (Tt z0 Z0)
 refine RO.now (m' :=11) (sk c0) rfl rfl .plain (AF (news:=zL) t0 .t3 rfl rfl rfl rfl rfl rfl (onesB rfl)) fun p1 v0 z0=>Rx 2 16 c0 rfl B0 (AL rfl ((v0.memA .t1) 0 _ rfl)) ?_
 obtain ⟨M0,b1⟩:=AG v0 .d2
 exact C0 () M0 (Tt z0 b1)
 refine RG.callq' (v:=.agg ((cs_Ta g0)).toArray) (fst:=[]) (cap:=[vP j0,vP q0,vP p0]) .plain (bd 67) rfl evs_nil (fun p q=>Bi (de_c n (b0.hL0 hL q) a0 (b0.k0 h0_3 q) (mem_keep q (b0.memA .t5)) (mem_keep q (b0.memA .t3)) (b0.k0 h1_0 q) (mem_keep q (b0.memA .t4)) A0)) rfl<|AQ (cs_Ta g0) b0 .t1 (onesB rfl) fun X1 P0 B1=>AQ [vI 0] P0 .hd (o1 rfl) fun Y1 y0 C1=>Aa<|Al rfl<|RT.callD (vs:=[]) (cap:=[vP s0,vP d0]) (bd 103) Tryz.func103 rfl rfl rfl fun u1 H0 j1=>Ac<|RG.recover0 .plain H0 rfl<|Af rfl<|Aa<|Ac<|Ae rfl<|Ab (FV.neqI0 Tryz.underlying20 rfl rfl)<|Aa<|BF rfl<|Au<|MX.fin rfl<|RT.leaveD0 H0 j1 Tryz.func103 rfl .nil<|Am (u:=.tuple #[.agg ((cs_Ta g0)).toArray,vI 0]) G0 Tryz.func51 rfl (.cons (.many (cs:=(cs_Ta g0)) (by kernel_rfl) rfl (y0.memA .t1)) (.cons (.one (by kernel_rfl) rfl ((y0.memA .hd) 0 _ rfl)) .nil)) rfl<|Ab (Ag rfl rfl)<|Ab (Ag rfl rfl)<|AQ (cs_Ta g0) y0 .t2 (onesB rfl) fun Z1 F0 D1=>Af rfl<|Aa<|Al rfl<|Am hb0 Tryz.func22 rfl (.cons (.many (cs:=(cs_Ta g0)) (by kernel_rfl) rfl (F0.memA .t2)) (.cons (.tmp rfl) .nil)) rfl ?_
 cases h
 exact F0.gv
theorem el42:ElT Tryz.prog 42 101 (Rep.size Tb) 104 (.agg #[.string ⟨#[]⟩,vI 0,vN,vN,vN,.bool false]) [.string ⟨#[]⟩,vI 0,vN,vN,vN,.bool false]:=⟨Tryz.underlying42,by kernel_rfl,rfl,rfl,rfl,rfl⟩
def di_p (_n:Nat):Option Td:=
  (app ([]:List Tb) ([(⟨⟨#[97]⟩,(10:Int),([]:List Int),([]:List Int),([]:List Int),false⟩:Tb)]:List Tb)).bind fun c0=>(app c0 ([(⟨⟨#[98]⟩,(20:Int),([]:List Int),([]:List Int),([]:List Int),false⟩:Tb)]:List Tb)).bind fun d0=>(app d0 ([(⟨⟨#[99]⟩,(30:Int),([]:List Int),([]:List Int),([]:List Int),false⟩:Tb)]:List Tb)).bind fun g0=>(app g0 ([(⟨⟨#[100]⟩,(40:Int),([]:List Int),([]:List Int),([]:List Int),false⟩:Tb)]:List Tb)).bind fun b0=>some (⟨(0:Int),(0:Int),(0:Int),b0⟩:Td)
theorem di_c (n:Nat) {L w} (hL:hl L w)  {r:Td} (h:di_p n = some r) :
 Cl 25 #[] w (Gives w fun w' u=>∃ v0_3:Value,u = .agg #[vI r.fe,vI r.fh,vI r.fj,v0_3]/\Rep.R w' L [v0_3] r.fo):=by
 unfold di_p at h
 refine AD Tryz.func25 rfl rfl rfl fun _ cs0 hb0=>Ac<|RG.nl [vI 0,vI 0,vI 0,vN] (Az w) fun k2 D1 K0 U1=>Aa<|Ac<|RG.nl [vI 0,vI 0,vI 0,vN] K0 fun s2 E1 t0 V1=>Aa<|Aj<|Ac<|Ab (AU (vs:=[.string ⟨#[97]⟩,.string ⟨#[98]⟩,.string ⟨#[99]⟩,.string ⟨#[100]⟩]) (u:=.agg #[.string ⟨#[97]⟩,.string ⟨#[98]⟩,.string ⟨#[99]⟩,.string ⟨#[100]⟩]) (e4 rfl rfl rfl rfl) (fun p=>by kernel_rfl))<|Ae rfl<|Aa<|AA<|MX.loop1<|Ac<|Ab (Bu (i:=0) (j:=4) rfl rfl)<|Aa<|Aj<|Bk rfl<|Au<|Aj<|AA<|Ac<|Ae rfl<|Ab (FV.idx1 (cs:=[.string ⟨#[97]⟩,.string ⟨#[98]⟩,.string ⟨#[99]⟩,.string ⟨#[100]⟩]) (k:=0) (m:=1) (len:=4) (by kernel_rfl) (by kernel_rfl) rfl rfl rfl (by omega) rfl)<|Af rfl<|Af rfl<|Aa<|Av<|AR 3 rfl<|AP rfl ((t0.memA .hd) 3 _ rfl)<|Ae rfl<|Ae rfl<|Ab (FV.add (i:=0) (j:=1) (r:=1) rfl rfl (by decide))<|Ab (FV.mul (i:=10) (j:=1) (r:=10) rfl rfl (by decide))<|Ab (AU (vs:=[.string ⟨#[97]⟩,vI 10]) (u:=.agg #[.string ⟨#[97]⟩,vI 10,vN,vN,vN,.bool false]) (e2 rfl rfl) (fun p=>by kernel_rfl)) ?_
 have b2:=Rep.nilAt (α:=Int) t0 L
 refine Ak .plain rfl (AK (α:=Tb) (xs:=([(⟨⟨#[97]⟩,(10:Int),([]:List Int),([]:List Int),([]:List Int),false⟩:Tb)]:List Tb)) (vs:=[.agg #[.string ⟨#[97]⟩,vI 10,vN,vN,vN,.bool false]]) (ds' :=[.string ⟨#[97]⟩,vI 10,vN,vN,vN,.bool false]) rfl t0 el42 rfl (e1 rfl) (by kernel_rfl) rfl) fun u2 F1 d0 W1=>?_
 have C0:=Rep.nilAt (α:=Int) d0 L
 have u0:=d0.nilRow 101 (Rep.size Tb)
 refine bk h fun F2 z1 h=>RG.doesL .plain rfl (AZ (α:=Tb) (ys:=([(⟨⟨#[97]⟩,(10:Int),([]:List Int),([]:List Int),([]:List Int),false⟩:Tb)]:List Tb)) z1 u0 (fun _ _=>.hd) el42 rfl rfl (AB (cs:=[]) (xs:=([]:List Tb)) u0 L (AJ _ _)) (Src.row (α:=Tb) u0 .t1 (Aw (AB (cs:=[.string ⟨#[97]⟩,vI 10,vN,vN,vN,.bool false]) (xs:=(([(⟨⟨#[97]⟩,(10:Int),([]:List Int),([]:List Int),([]:List Int),false⟩:Tb)]:List Tb):List Tb)) d0 L (Ar (cs:=[.string ⟨#[97]⟩,vI 10,vN,vN,vN,.bool false]) (ds:=[]) (mk_Tb ⟨#[97]⟩ (10:Int) ([]:List Int) C0 ([]:List Int) C0 ([]:List Int) C0 false) (AJ _ _))) (St.nilRowT d0 101 (Rep.size Tb))))) fun G0 v2 ⟨K1,v0,X1,s1⟩=>AR 3 rfl<|RG.now .plain (BQ (j:=3) (old:=[vI 0,vI 0,vI 0,vN]) (news:=[G0]) (new' :=[vI 0,vI 0,vI 0,G0]) v0 .t2 rfl rfl rfl (St.c1 (α:=Tb) v0 .hd) rfl rfl (o1 (St.o1 (α:=Tb) v0 .hd)) rfl) fun x2 M0 W0=>Aa<|AC<|Av<|Ab (FV.add (i:=0) (j:=1) (r:=1) rfl rfl (by decide))<|Ae rfl<|Aa<|MX.again1 ?_
 obtain ⟨x0,X0⟩:=AG M0 (.a0 .d1)
 refine Ac<|Ab (Bu (i:=1) (j:=4) rfl rfl)<|Aa<|Aj<|Bk rfl<|Au<|Aj<|AA<|Ac<|Ae rfl<|Ab (FV.idx1 (cs:=[.string ⟨#[97]⟩,.string ⟨#[98]⟩,.string ⟨#[99]⟩,.string ⟨#[100]⟩]) (k:=1) (m:=1) (len:=4) (by kernel_rfl) (by kernel_rfl) rfl rfl rfl (by omega) rfl)<|Af rfl<|Af rfl<|Aa<|Av<|AR 3 rfl<|AP rfl ((x0.memA .t1) 3 _ rfl)<|Ae rfl<|Ae rfl<|Ab (FV.add (i:=1) (j:=1) (r:=2) rfl rfl (by decide))<|Ab (FV.mul (i:=10) (j:=2) (r:=20) rfl rfl (by decide))<|Ab (AU (vs:=[.string ⟨#[98]⟩,vI 20]) (u:=.agg #[.string ⟨#[98]⟩,vI 20,vN,vN,vN,.bool false]) (e2 rfl rfl) (fun p=>by kernel_rfl)) ?_
 have c2:=Rep.nilAt (α:=Int) x0 L
 refine Ak .plain rfl (AK (α:=Tb) (xs:=([(⟨⟨#[98]⟩,(20:Int),([]:List Int),([]:List Int),([]:List Int),false⟩:Tb)]:List Tb)) (vs:=[.agg #[.string ⟨#[98]⟩,vI 20,vN,vN,vN,.bool false]]) (ds' :=[.string ⟨#[98]⟩,vI 20,vN,vN,vN,.bool false]) rfl x0 el42 rfl (e1 rfl) (by kernel_rfl) rfl) fun y2 G1 g0 Y0=>?_
 have D0:=Rep.nilAt (α:=Int) g0 L
 refine bk h fun G2 A1 h=>RG.doesL .plain rfl (AZ (α:=Tb) (ys:=([(⟨⟨#[98]⟩,(20:Int),([]:List Int),([]:List Int),([]:List Int),false⟩:Tb)]:List Tb)) A1 g0 (fun _ _=>.t1) el42 rfl rfl (Aw s1 (Tt W0 (Tt X0 Y0))) (Src.row (α:=Tb) g0 .hd (AB (cs:=[.string ⟨#[98]⟩,vI 20,vN,vN,vN,.bool false]) (xs:=(([(⟨⟨#[98]⟩,(20:Int),([]:List Int),([]:List Int),([]:List Int),false⟩:Tb)]:List Tb):List Tb)) g0 L (Ar (cs:=[.string ⟨#[98]⟩,vI 20,vN,vN,vN,.bool false]) (ds:=[]) (mk_Tb ⟨#[98]⟩ (20:Int) ([]:List Int) D0 ([]:List Int) D0 ([]:List Int) D0 false) (AJ _ _))))) fun H0 z2 ⟨M1,y0,Y1,u1⟩=>AR 3 rfl<|RG.now .plain (BQ (j:=3) (old:=[vI 0,vI 0,vI 0,G0]) (news:=[H0]) (new' :=[vI 0,vI 0,vI 0,H0]) y0 .t2 rfl rfl rfl (St.c1 (α:=Tb) y0 .t1) rfl rfl (o1 (St.o1 (α:=Tb) y0 .t1)) rfl) fun A2 P0 Z0=>Aa<|AC<|Av<|Ab (FV.add (i:=1) (j:=1) (r:=2) rfl rfl (by decide))<|Ae rfl<|Aa<|MX.again1 ?_
 obtain ⟨z0,b1⟩:=AG P0 .d1
 refine Ac<|Ab (Bu (i:=2) (j:=4) rfl rfl)<|Aa<|Aj<|Bk rfl<|Au<|Aj<|AA<|Ac<|Ae rfl<|Ab (FV.idx1 (cs:=[.string ⟨#[97]⟩,.string ⟨#[98]⟩,.string ⟨#[99]⟩,.string ⟨#[100]⟩]) (k:=2) (m:=1) (len:=4) (by kernel_rfl) (by kernel_rfl) rfl rfl rfl (by omega) rfl)<|Af rfl<|Af rfl<|Aa<|Av<|AR 3 rfl<|AP rfl ((z0.memA .t1) 3 _ rfl)<|Ae rfl<|Ae rfl<|Ab (FV.add (i:=2) (j:=1) (r:=3) rfl rfl (by decide))<|Ab (FV.mul (i:=10) (j:=3) (r:=30) rfl rfl (by decide))<|Ab (AU (vs:=[.string ⟨#[99]⟩,vI 30]) (u:=.agg #[.string ⟨#[99]⟩,vI 30,vN,vN,vN,.bool false]) (e2 rfl rfl) (fun p=>by kernel_rfl)) ?_
 have d2:=Rep.nilAt (α:=Int) z0 L
 refine Ak .plain rfl (AK (α:=Tb) (xs:=([(⟨⟨#[99]⟩,(30:Int),([]:List Int),([]:List Int),([]:List Int),false⟩:Tb)]:List Tb)) (vs:=[.agg #[.string ⟨#[99]⟩,vI 30,vN,vN,vN,.bool false]]) (ds' :=[.string ⟨#[99]⟩,vI 30,vN,vN,vN,.bool false]) rfl z0 el42 rfl (e1 rfl) (by kernel_rfl) rfl) fun B2 H1 j0 g1=>?_
 have E0:=Rep.nilAt (α:=Int) j0 L
 refine bk h fun H2 B1 h=>RG.doesL .plain rfl (AZ (α:=Tb) (ys:=([(⟨⟨#[99]⟩,(30:Int),([]:List Int),([]:List Int),([]:List Int),false⟩:Tb)]:List Tb)) B1 j0 (fun _ _=>.t1) el42 rfl rfl (Aw u1 (Tt Z0 (Tt b1 g1))) (Src.row (α:=Tb) j0 .hd (AB (cs:=[.string ⟨#[99]⟩,vI 30,vN,vN,vN,.bool false]) (xs:=(([(⟨⟨#[99]⟩,(30:Int),([]:List Int),([]:List Int),([]:List Int),false⟩:Tb)]:List Tb):List Tb)) j0 L (Ar (cs:=[.string ⟨#[99]⟩,vI 30,vN,vN,vN,.bool false]) (ds:=[]) (mk_Tb ⟨#[99]⟩ (30:Int) ([]:List Int) E0 ([]:List Int) E0 ([]:List Int) E0 false) (AJ _ _))))) fun I0 C2 ⟨P1,A0,Z1,v1⟩=>AR 3 rfl<|RG.now .plain (BQ (j:=3) (old:=[vI 0,vI 0,vI 0,H0]) (news:=[I0]) (new' :=[vI 0,vI 0,vI 0,I0]) A0 .t2 rfl rfl rfl (St.c1 (α:=Tb) A0 .t1) rfl rfl (o1 (St.o1 (α:=Tb) A0 .t1)) rfl) fun D2 Q0 j1=>Aa<|AC<|Av<|Ab (FV.add (i:=2) (j:=1) (r:=3) rfl rfl (by decide))<|Ae rfl<|Aa<|MX.again1 ?_
 obtain ⟨B0,k1⟩:=AG Q0 .d1
 refine Ac<|Ab (Bu (i:=3) (j:=4) rfl rfl)<|Aa<|Aj<|Bk rfl<|Au<|Aj<|AA<|Ac<|Ae rfl<|Ab (FV.idx1 (cs:=[.string ⟨#[97]⟩,.string ⟨#[98]⟩,.string ⟨#[99]⟩,.string ⟨#[100]⟩]) (k:=3) (m:=1) (len:=4) (by kernel_rfl) (by kernel_rfl) rfl rfl rfl (by omega) rfl)<|Af rfl<|Af rfl<|Aa<|Av<|AR 3 rfl<|AP rfl ((B0.memA .t1) 3 _ rfl)<|Ae rfl<|Ae rfl<|Ab (FV.add (i:=3) (j:=1) (r:=4) rfl rfl (by decide))<|Ab (FV.mul (i:=10) (j:=4) (r:=40) rfl rfl (by decide))<|Ab (AU (vs:=[.string ⟨#[100]⟩,vI 40]) (u:=.agg #[.string ⟨#[100]⟩,vI 40,vN,vN,vN,.bool false]) (e2 rfl rfl) (fun p=>by kernel_rfl)) ?_
 have g2:=Rep.nilAt (α:=Int) B0 L
 refine Ak .plain rfl (AK (α:=Tb) (xs:=([(⟨⟨#[100]⟩,(40:Int),([]:List Int),([]:List Int),([]:List Int),false⟩:Tb)]:List Tb)) (vs:=[.agg #[.string ⟨#[100]⟩,vI 40,vN,vN,vN,.bool false]]) (ds' :=[.string ⟨#[100]⟩,vI 40,vN,vN,vN,.bool false]) rfl B0 el42 rfl (e1 rfl) (by kernel_rfl) rfl) fun E2 I1 k0 p1=>?_
 have F0:=Rep.nilAt (α:=Int) k0 L
 refine bk h fun C1 y1 h=>RG.doesL .plain rfl (AZ (α:=Tb) (ys:=([(⟨⟨#[100]⟩,(40:Int),([]:List Int),([]:List Int),([]:List Int),false⟩:Tb)]:List Tb)) y1 k0 (fun _ _=>.t1) el42 rfl rfl (Aw v1 (Tt j1 (Tt k1 p1))) (Src.row (α:=Tb) k0 .hd (AB (cs:=[.string ⟨#[100]⟩,vI 40,vN,vN,vN,.bool false]) (xs:=(([(⟨⟨#[100]⟩,(40:Int),([]:List Int),([]:List Int),([]:List Int),false⟩:Tb)]:List Tb):List Tb)) k0 L (Ar (cs:=[.string ⟨#[100]⟩,vI 40,vN,vN,vN,.bool false]) (ds:=[]) (mk_Tb ⟨#[100]⟩ (40:Int) ([]:List Int) F0 ([]:List Int) F0 ([]:List Int) F0 false) (AJ _ _))))) fun b0 j2 ⟨J1,p0,Q1,q1⟩=>AR 3 rfl<|RG.now .plain (BQ (j:=3) (old:=[vI 0,vI 0,vI 0,I0]) (news:=[b0]) (new' :=[vI 0,vI 0,vI 0,b0]) p0 .t2 rfl rfl rfl (St.c1 (α:=Tb) p0 .t1) rfl rfl (o1 (St.o1 (α:=Tb) p0 .t1)) rfl) fun p2 J0 R0=>Aa<|AC<|Av<|Ab (FV.add (i:=3) (j:=1) (r:=4) rfl rfl (by decide))<|Ae rfl<|Aa<|MX.again1 ?_
 obtain ⟨q0,U0⟩:=AG J0 .d1
 refine Ac<|Ab (Bu (i:=4) (j:=4) rfl rfl)<|Aa<|Aj<|BF rfl<|Bd rfl<|Ac<|Ab (AH rfl (q0.memA .t1))<|AQ [vI 0,vI 0,vI 0,b0] q0 .t2 (o4 rfl rfl rfl (St.o1 (α:=Tb) q0 .hd)) fun q2 s0 V0=>Aa<|Al rfl ?_
 have c0:=Bz s0 .hd
 have R1:=BA s0 .hd
 have x1:=BB (α:=Tb) (v:=b0) (xs:=C1) c0 L (Bj (α:=Tb) s0 .hd (Aw q1 (Tt R0 (Tt U0 V0))) hL)
 refine Am hb0 Tryz.func25 rfl (.cons (.many (cs:=[vI 0,vI 0,vI 0,b0]) (by kernel_rfl) rfl (c0.memA .t1)) .nil) rfl ?_
 cases h
 exact ⟨c0.ag,fun p q=>⟨b0,rfl,c0.kd x1 q⟩⟩
def bj_p (n:Nat) (a0:Int) (a1:Int):Option Ta:=
  (dJ_p n a0 a1).bind fun b0=>some b0.1
theorem bj_c (n:Nat) {L w} (hL:hl L w) {a0:Int} {a1:Int}  {r:Ta} (h:bj_p n a0 a1 = some r) :
 Cl 26 #[vI a0,vI a1] w (Gives w fun _ u=>u = .agg ((cs_Ta r)).toArray):=by
 unfold bj_p at h
 refine AD Tryz.func26 rfl rfl rfl fun _ cs0 hb0=>Ac<|RG.nl zL (Az w) fun x0 p0 c0 s0=>Aa<|Ac<|Ae rfl<|Ae rfl<|bk h fun b0 k0 h=>Ba (.tuple #[.agg ((cs_Ta b0.1)).toArray,vI b0.2]) (bd 68) rfl (e2 rfl rfl) (fun p q=>dJ_c n (c0.hL0 hL q)  k0) rfl<|Ae rfl<|Ab (Ag rfl rfl)<|Ab (Ag rfl rfl)<|RG.nl zL c0 fun y0 q0 j0 t0=>AQ (cs_Ta b0.1) j0 .hd (onesB rfl) fun z0 d0 u0=>Af rfl<|Aa<|Ac<|Ab (AH rfl (d0.memA .hd))<|AQ (cs_Ta b0.1) d0 .t1 (onesB rfl) fun A0 g0 v0=>Aa<|Al rfl<|Am hb0 Tryz.func26 rfl (.cons (.many (cs:=(cs_Ta b0.1)) (by kernel_rfl) rfl (g0.memA .t1)) .nil) rfl ?_
 cases h
 exact g0.gv
def ce_l1 (_n:Nat) (a0:List Int) (a1:List Int) (b0:Nat -> Option (Bool ⊕ Unit)):Nat -> Option (Bool ⊕ Unit)
  | i32=>(if i32 < a0.length then (a0[i32]?).bind fun c0=>(a1[i32]?).bind fun d0=>(if c0 = d0 then b0 (i32 + 1) else some (.inl false)) else some (.inr ()))
def ce_p (n:Nat) (a0:List Int) (a1:List Int):Option Bool:=
  (if a0.length = a1.length then thn (loopF (ce_l1 n a0 a1) n 0) (fun _=>some true) else some false)
theorem ce_c (n:Nat) {L w} (_hL:hl L w) {a0:List Int} {v0_0:Value} (h0_0:Rep.R w L [v0_0] a0) {a1:List Int} {v1_0:Value} (h1_0:Rep.R w L [v1_0] a1)  {r:Bool} (h:ce_p n a0 a1 = some r) :
 Cl 19 #[v0_0,v1_0] w (Gives w fun _ u=>u = .bool r):=by
 unfold ce_p at h
 have hS0:=Az w
 refine AD Tryz.func19 rfl rfl rfl fun _ cs0 hb0=>Ac<|Af rfl<|Aa<|Aj<|Ac<|Ae rfl ?_
 have hl1:a0.length <= 281474976710656:=AY h0_0
 refine Ab (Be (xs:=a0) Tryz.underlying45 rfl h0_0)<|Ae rfl ?_
 have hl2:a1.length <= 281474976710656:=AY h1_0
 refine Ab (Be (xs:=a1) Tryz.underlying45 rfl h1_0)<|Ab (FV.neqN (i:=a0.length) (j:=a1.length) rfl rfl)<|Aa<|MX.ifn rfl h (fun c3 h=>?_) (fun c3 h=>?_)
 refine Au<|Aj<|Ac<|Ae rfl<|Ab (Be (xs:=a0) Tryz.underlying45 rfl h0_0)<|Ae rfl<|Aa<|AA<|tn h fun U0 F0 g0=>MX.lo (α:=Nat) (fun i32=>[(0,v0_0),(1,v1_0),(12,vI ((a0.length:Nat):Int)),(13,vI ((i32:Nat):Int))]) (fun i32=>[]) (fun i32=>i32) 0 F0 hS0 ?_
 rintro P0 i32 V0 u0 d0 v0 h
 unfold ce_l1 at h
 try dsimp only at h
 refine Ac<|Ab (Bu (i:=i32) (j:=a0.length) rfl rfl)<|Aa<|Aj<|AT rfl h (fun p0 h=>?_) (fun p0 h=>?_)
 refine Au<|Aj<|AA<|Ac<|Ae rfl<|Af rfl<|Aa<|Aj<|du 9 fun b0 c0=>Rv 0 b0 rfl c0 (fun _=>Ai rfl)<|Rv 1 b0 rfl c0 (fun _=>Ai rfl)<|bk h fun j0 I0 h=>?_
 obtain ⟨K0,Q0,x0,B0,s0,G0,D0⟩:=Br (AS h0_0 d0) I0
 have y0:s0 = [vI j0]:=G0; subst y0
 refine Rv 2 b0 rfl c0 (fun _=>Bq 1 i32 rfl x0 rfl rfl B0)<|Rx 3 256 b0 rfl c0 (AL rfl (D0 0 _ rfl))<|Rv 4 b0 rfl c0 (fun _=>Ai rfl)<|Rv 5 b0 rfl c0 (fun _=>Ai rfl)<|bk h fun k0 J0 h=>?_
 obtain ⟨M0,R0,z0,C0,t0,H0,E0⟩:=Br (AS h1_0 d0) J0
 have A0:t0 = [vI k0]:=H0; subst A0
 refine Rv 6 b0 rfl c0 (fun _=>Bq 1 i32 rfl z0 rfl rfl C0)<|Rx 7 256 b0 rfl c0 (AL rfl (E0 0 _ rfl))<|Rv 8 b0 rfl c0 (fun _=>BP (i:=j0) (j:=k0) rfl rfl)<|AN (dk b0)<|MX.ifn rfl h (fun q0 h=>?_) (fun q0 h=>?_)
 refine Au<|AC<|Av<|Ab (Bw (i:=i32) (j:=1) rfl rfl (by omega))<|Ae rfl<|Aa<|u0 (i32 + 1) d0 v0 h
 refine Ac<|Af rfl<|Aa ?_
 have h:=thn_inl h g0
 refine Al rfl<|AW hb0 Tryz.func19 rfl rfl ?_
 cases h
 exact d0.gv
 refine Bd rfl ?_
 have h:=thn_inr h g0
 try dsimp only at h
 refine Ac<|Af rfl<|Aa<|Al rfl<|AW hb0 Tryz.func19 rfl rfl ?_
 cases h
 exact d0.gv
 refine Ac<|Af rfl<|Aa<|Al rfl<|AW hb0 Tryz.func19 rfl rfl ?_
 cases h
 exact hS0.gv
def dj_p (n:Nat) (a0:List Int) (a1:Int) (a2:List Int):Option Bool:=
  (ce_p n a0 a2).bind fun y1=>(if y1 = true then some (decide (a1 = 0)) else some false)
theorem dj_c (n:Nat) {L w} (hL:hl L w) {a0:List Int} {v0_0:Value} (h0_0:Rep.R w L [v0_0] a0) {a1:Int} {a2:List Int} {v2_0:Value} (h2_0:Rep.R w L [v2_0] a2) {p2:Nat} (m2:∀ j9 v9,([v2_0]:List Value)[j9]? = some v9 -> w.cell? ((⟨p2,0,none⟩:Addr).add j9) = some v9)  {r:Bool} (h:dj_p n a0 a1 a2 = some r) :
 Cl 69 #[v0_0,vI a1,.pointer (some ⟨p2,0,none⟩)] w (Gives w fun _ u=>u = .bool r):=by
 unfold dj_p at h
 have hS0:=Az w
 refine AD Tryz.func69 rfl rfl rfl fun _ cs0 hb0=>Ac<|Af rfl<|Aa<|Ac<|Ae rfl<|AP rfl ((fun j9 v9 h9=>hS0.ag.cell0 (m2 j9 v9 h9)) 0 _ rfl)<|bk h fun y1 hy1 h=>Ba (.bool y1) (bd 19) rfl (e2 rfl rfl) (fun p q=>ce_c n (hS0.hL0 hL q) (hS0.kd h0_0 q) (hS0.kd h2_0 q) hy1) rfl<|Ae rfl<|RG.ifb (s:=9) rfl h (fun c2 h=>?_) (fun c2 h=>?_)
 refine AE (Ai rfl)<|AE (FV.eql (i:=a1) (j:=0) rfl rfl)<|Bh rfl rfl<|Af rfl<|Aa<|Al rfl<|AW hb0 Tryz.func69 rfl rfl ?_
 cases h
 exact hS0.gv
 refine Ap<|Ap<|Bv rfl rfl<|Af rfl<|Aa<|Al rfl<|AW hb0 Tryz.func69 rfl rfl ?_
 cases h
 exact hS0.gv
theorem dU_c (_n:Nat) {L w} (_hL:hl L w) (a0:List Int) {v0_0:Value} (h0_0:Rep.R w L [v0_0] a0)  :
 Cl 27 #[v0_0] w (Gives w fun w' u=>∃ b0:Nat,u = .func (.func 69) #[] #[vP b0]/\St w w' [.cells b0 [v0_0] 45]):=by
 refine AD Tryz.func27 rfl rfl rfl fun _ cs0 hb0=>Ac<|RG.bx (Az w) rfl (Rep.c1 h0_0) fun g0 b0 c0 d0=>Af rfl<|Aa<|Ac<|Ab (BW (vs:=[]) (us:=[vP b0]) evs_nil (e1 rfl))<|Af rfl<|Aa<|Al rfl<|Am (u:=.func (.func 69) #[] #[vP b0]) hb0 Tryz.func27 rfl (.cons (.tmp rfl) .nil) rfl<|⟨c0.ag,fun p q=>⟨b0,rfl,c0.agree q⟩⟩
theorem ex_Ta {a b:Ta} (h0:a.fN.1 = b.fN.1) (h1:a.fN.2.1 = b.fN.2.1) (h2:a.fN.2.2.1 = b.fN.2.2.1) (h3:a.fN.2.2.2.1 = b.fN.2.2.2.1) (h4:a.fN.2.2.2.2.1 = b.fN.2.2.2.2.1) (h5:a.fN.2.2.2.2.2.1 = b.fN.2.2.2.2.2.1) (h6:a.fN.2.2.2.2.2.2.1 = b.fN.2.2.2.2.2.2.1) (h7:a.fN.2.2.2.2.2.2.2 = b.fN.2.2.2.2.2.2.2) (h8:a.fD.1 = b.fD.1) (h9:a.fD.2.1 = b.fD.2.1) (b0:a.fD.2.2.1 = b.fD.2.2.1) (c0:a.fD.2.2.2.1 = b.fD.2.2.2.1) (d0:a.fD.2.2.2.2.1 = b.fD.2.2.2.2.1) (g0:a.fD.2.2.2.2.2.1 = b.fD.2.2.2.2.2.1) (j0:a.fD.2.2.2.2.2.2.1 = b.fD.2.2.2.2.2.2.1) (k0:a.fD.2.2.2.2.2.2.2 = b.fD.2.2.2.2.2.2.2):a = b:=congr (congrArg Ta.mk (ex_A34 (a:=a.fN) (b:=b.fN) h0 h1 h2 h3 h4 h5 h6 h7)) (ex_A34 (a:=a.fD) (b:=b.fD) h8 h9 b0 c0 d0 g0 j0 k0)
theorem eqlD_37 (a b:Ta) (p:World):(do eqGuard .eql 37 (.tmp 0) (.tmp 0) (.agg #[vU a.fN.1,vU a.fN.2.1,vU a.fN.2.2.1,vU a.fN.2.2.2.1,vU a.fN.2.2.2.2.1,vU a.fN.2.2.2.2.2.1,vU a.fN.2.2.2.2.2.2.1,vU a.fN.2.2.2.2.2.2.2,vU a.fD.1,vU a.fD.2.1,vU a.fD.2.2.1,vU a.fD.2.2.2.1,vU a.fD.2.2.2.2.1,vU a.fD.2.2.2.2.2.1,vU a.fD.2.2.2.2.2.2.1,vU a.fD.2.2.2.2.2.2.2]) (.agg #[vU b.fN.1,vU b.fN.2.1,vU b.fN.2.2.1,vU b.fN.2.2.2.1,vU b.fN.2.2.2.2.1,vU b.fN.2.2.2.2.2.1,vU b.fN.2.2.2.2.2.2.1,vU b.fN.2.2.2.2.2.2.2,vU b.fD.1,vU b.fD.2.1,vU b.fD.2.2.1,vU b.fD.2.2.2.1,vU b.fD.2.2.2.2.1,vU b.fD.2.2.2.2.2.1,vU b.fD.2.2.2.2.2.2.1,vU b.fD.2.2.2.2.2.2.2]); binOp .eql 37 (.agg #[vU a.fN.1,vU a.fN.2.1,vU a.fN.2.2.1,vU a.fN.2.2.2.1,vU a.fN.2.2.2.2.1,vU a.fN.2.2.2.2.2.1,vU a.fN.2.2.2.2.2.2.1,vU a.fN.2.2.2.2.2.2.2,vU a.fD.1,vU a.fD.2.1,vU a.fD.2.2.1,vU a.fD.2.2.2.1,vU a.fD.2.2.2.2.1,vU a.fD.2.2.2.2.2.1,vU a.fD.2.2.2.2.2.2.1,vU a.fD.2.2.2.2.2.2.2]) (.agg #[vU b.fN.1,vU b.fN.2.1,vU b.fN.2.2.1,vU b.fN.2.2.2.1,vU b.fN.2.2.2.2.1,vU b.fN.2.2.2.2.2.1,vU b.fN.2.2.2.2.2.2.1,vU b.fN.2.2.2.2.2.2.2,vU b.fD.1,vU b.fD.2.1,vU b.fD.2.2.1,vU b.fD.2.2.2.1,vU b.fD.2.2.2.2.1,vU b.fD.2.2.2.2.2.1,vU b.fD.2.2.2.2.2.2.1,vU b.fD.2.2.2.2.2.2.2]):Sem Value).run Tryz.prog p = .ok (.bool (decide (a = b))) p:=
  eqAgg (ks:=[.int .u64,.int .u64,.int .u64,.int .u64,.int .u64,.int .u64,.int .u64,.int .u64,.int .u64,.int .u64,.int .u64,.int .u64,.int .u64,.int .u64,.int .u64,.int .u64]) (xs:=[vU a.fN.1,vU a.fN.2.1,vU a.fN.2.2.1,vU a.fN.2.2.2.1,vU a.fN.2.2.2.2.1,vU a.fN.2.2.2.2.2.1,vU a.fN.2.2.2.2.2.2.1,vU a.fN.2.2.2.2.2.2.2,vU a.fD.1,vU a.fD.2.1,vU a.fD.2.2.1,vU a.fD.2.2.2.1,vU a.fD.2.2.2.2.1,vU a.fD.2.2.2.2.2.1,vU a.fD.2.2.2.2.2.2.1,vU a.fD.2.2.2.2.2.2.2]) (ys:=[vU b.fN.1,vU b.fN.2.1,vU b.fN.2.2.1,vU b.fN.2.2.2.1,vU b.fN.2.2.2.2.1,vU b.fN.2.2.2.2.2.1,vU b.fN.2.2.2.2.2.2.1,vU b.fN.2.2.2.2.2.2.2,vU b.fD.1,vU b.fD.2.1,vU b.fD.2.2.1,vU b.fD.2.2.2.1,vU b.fD.2.2.2.2.1,vU b.fD.2.2.2.2.2.1,vU b.fD.2.2.2.2.2.2.1,vU b.fD.2.2.2.2.2.2.2]) (by kernel_rfl) (by kernel_rfl) (by kernel_rfl) rfl rfl ⟨fun h=>by
    simp only [allEq,veq,Bool.and_eq_true,beq_iff_eq,and_true] at h
    obtain ⟨h0,h1,h2,h3,h4,h5,h6,h7,h8,h9,b0,c0,d0,g0,j0,k0⟩:=h
    exact ex_Ta (UInt_inj64 h0) (UInt_inj64 h1) (UInt_inj64 h2) (UInt_inj64 h3) (UInt_inj64 h4) (UInt_inj64 h5) (UInt_inj64 h6) (UInt_inj64 h7) (UInt_inj64 h8) (UInt_inj64 h9) (UInt_inj64 b0) (UInt_inj64 c0) (UInt_inj64 d0) (UInt_inj64 g0) (UInt_inj64 j0) (UInt_inj64 k0),fun h=>by subst h; simp [allEq,veq]⟩ _ _ p
def cv_p (n:Nat) (a0:Ta) (a1:Int) (a2:Int) (a3:Int):Option Bool:=
  (bj_p n a2 a3).bind fun b0=>(if a0 = b0 then some (decide (a1 = 0)) else some false)
theorem cv_c (n:Nat) {L w} (hL:hl L w) (a0:Ta) {a1:Int} {a2:Int} {p2:Nat} (m2:∀ j9 v9,([vI a2]:List Value)[j9]? = some v9 -> w.cell? ((⟨p2,0,none⟩:Addr).add j9) = some v9) {a3:Int} {p3:Nat} (m3:∀ j9 v9,([vI a3]:List Value)[j9]? = some v9 -> w.cell? ((⟨p3,0,none⟩:Addr).add j9) = some v9)  {r:Bool} (h:cv_p n a0 a1 a2 a3 = some r) :
 Cl 70 #[.agg ((cs_Ta a0)).toArray,vI a1,.pointer (some ⟨p2,0,none⟩),.pointer (some ⟨p3,0,none⟩)] w (Gives w fun _ u=>u = .bool r):=by
 unfold cv_p at h
 refine AD Tryz.func70 rfl rfl rfl fun _ cs0 hb0=>Ac<|RG.bx (Az w) rfl rfl fun s0 p0 d0 q0=>Af rfl<|Aa<|Aj<|du 10 fun b0 c0=>Rx 0 1008 b0 rfl c0 (AH rfl (d0.memA .hd))<|Rx 1 1016 b0 rfl c0 (AL rfl ((fun j9 v9 h9=>d0.ag.cell0 (m2 j9 v9 h9)) 0 _ rfl))<|Rx 2 1016 b0 rfl c0 (AL rfl ((fun j9 v9 h9=>d0.ag.cell0 (m3 j9 v9 h9)) 0 _ rfl))<|bk h fun g0 k0 h=>BO 3 15 1008 (.agg ((cs_Ta g0)).toArray) b0 rfl c0 (bd 26) rfl (e2 rfl rfl) (fun p q=>bj_c n (d0.hL0 hL q)  k0) rfl<|Rv 4 b0 rfl c0 (fun _=>FV.eqlV (v:=.agg ((cs_Ta a0)).toArray) (u:=.agg ((cs_Ta g0)).toArray) rfl rfl (eqlD_37 a0 g0))<|Rv 5 b0 rfl c0 (fun _=>Ai rfl)<|RD.ifd (s:=12) rfl h (fun j0 h=>?_) (fun j0 h=>?_)
 refine BX 6 127 b0 rfl c0 (.yes rfl rfl) (fun _=>Ai rfl) rfl<|BX 7 255 b0 rfl c0 (.yes rfl rfl) (fun _=>FV.eql (i:=a1) (j:=0) rfl rfl) rfl<|Rv 8 b0 rfl c0 (fun _=>BM rfl rfl)<|Rv 9 b0 rfl c0 (fun _=>AV rfl)<|AN (dk b0)<|Al rfl<|AW hb0 Tryz.func70 rfl rfl ?_
 cases h
 exact d0.gv
 refine BK 255 2 [(6,13),(7,14)] (F:=[(12,false)]) (U:=[]) b0 c0 (.cons rfl .nil) .nil ?_
 dsimp only [offS,List.map]
 refine Rv 8 b0 rfl c0 (fun _=>Bo rfl rfl)<|Rv 9 b0 rfl c0 (fun _=>AV rfl)<|AN (dk b0)<|Al rfl<|AW hb0 Tryz.func70 rfl rfl ?_
 cases h
 exact d0.gv
theorem dT_c (_n:Nat) {L w} (_hL:hl L w) (a0:Int) (a1:Int)  :
 Cl 28 #[vI a0,vI a1] w (Gives w fun w' u=>∃ b0 c0:Nat,u = .func (.func 70) #[] #[vP b0,vP c0]/\St w w' [.cells b0 [vI a0] 3,.cells c0 [vI a1] 3]):=by
 refine AD Tryz.func28 rfl rfl rfl fun _ cs0 hb0=>Ac<|RG.bx (Az w) rfl rfl fun t0 b0 j0 p0=>RG.bx j0 rfl rfl fun u0 c0 k0 q0=>Af rfl<|Aa<|Ac<|Ab (BW (vs:=[]) (us:=[vP b0,vP c0]) evs_nil (e2 rfl rfl))<|Af rfl<|Aa<|Al rfl<|Am (u:=.func (.func 70) #[] #[vP b0,vP c0]) hb0 Tryz.func28 rfl (.cons (.tmp rfl) .nil) rfl ?_
 obtain ⟨g0,s0⟩:=AG k0 (.a1 .d0)
 exact ⟨g0.ag,fun p q=>⟨b0,c0,rfl,g0.agree q⟩⟩
def aQ_l1 (_n:Nat) (a0:List Ta) (a1:List Ta) (c0:Nat -> Option (Bool ⊕ Unit)):Nat -> Option (Bool ⊕ Unit)
  | b0=>(if b0 < a0.length then (a0[b0]?).bind fun d0=>(a1[b0]?).bind fun g0=>(if d0 = g0 then c0 (b0 + 1) else some (.inl false)) else some (.inr ()))
def aQ_p (n:Nat) (a0:List Ta) (a1:List Ta):Option Bool:=
  (if a0.length = a1.length then thn (loopF (aQ_l1 n a0 a1) n 0) (fun _=>some true) else some false)
theorem aQ_c (n:Nat) {L w} (_hL:hl L w) {a0:List Ta} {v0_0:Value} (h0_0:Rep.R w L [v0_0] a0) {a1:List Ta} {v1_0:Value} (h1_0:Rep.R w L [v1_0] a1)  {r:Bool} (h:aQ_p n a0 a1 = some r) :
 Cl 29 #[v0_0,v1_0] w (Gives w fun _ u=>u = .bool r):=by
 unfold aQ_p at h
 have hS0:=Az w
 refine AD Tryz.func29 rfl rfl rfl fun _ cs0 hb0=>Ac<|Af rfl<|Aa<|Aj<|Ac<|Ae rfl ?_
 have hl1:a0.length <= 281474976710656:=AY h0_0
 refine Ab (Be (xs:=a0) Tryz.underlying63 rfl h0_0)<|Ae rfl ?_
 have hl2:a1.length <= 281474976710656:=AY h1_0
 refine Ab (Be (xs:=a1) Tryz.underlying63 rfl h1_0)<|Ab (FV.neqN (i:=a0.length) (j:=a1.length) rfl rfl)<|Aa<|MX.ifn rfl h (fun c3 h=>?_) (fun c3 h=>?_)
 refine Au<|Aj<|Ac<|Ae rfl<|Ab (Be (xs:=a0) Tryz.underlying63 rfl h0_0)<|Ae rfl<|Aa<|AA<|tn h fun R0 C0 j0=>MX.lo (α:=Nat) (fun b0=>[(0,v0_0),(1,v1_0),(12,vI ((a0.length:Nat):Int)),(13,vI ((b0:Nat):Int))]) (fun b0=>[]) (fun b0=>b0) 0 C0 hS0 ?_
 rintro J0 b0 U0 t0 g0 u0 h
 unfold aQ_l1 at h
 try dsimp only at h
 refine Ac<|Ab (Bu (i:=b0) (j:=a0.length) rfl rfl)<|Aa<|Aj<|AT rfl h (fun q0 h=>?_) (fun q0 h=>?_)
 refine Au<|Aj<|AA<|Ac<|Ae rfl<|Af rfl<|Aa<|Aj<|du 9 fun c0 d0=>Rv 0 c0 rfl d0 (fun _=>Ai rfl)<|Rv 1 c0 rfl d0 (fun _=>Ai rfl)<|bk h fun k0 F0 h=>?_
 obtain ⟨H0,K0,v0,y0,P0,D0,A0⟩:=Br (AS h0_0 g0) F0
 obtain rfl:=op_Ta D0
 refine Rv 2 c0 rfl d0 (fun _=>Bq 16 b0 rfl v0 rfl rfl y0)<|Rx 3 256 c0 rfl d0 (AH rfl A0)<|Rv 4 c0 rfl d0 (fun _=>Ai rfl)<|Rv 5 c0 rfl d0 (fun _=>Ai rfl)<|bk h fun p0 G0 h=>?_
 obtain ⟨I0,M0,x0,z0,Q0,E0,B0⟩:=Br (AS h1_0 g0) G0
 obtain rfl:=op_Ta E0
 refine Rv 6 c0 rfl d0 (fun _=>Bq 16 b0 rfl x0 rfl rfl z0)<|Rx 7 256 c0 rfl d0 (AH rfl B0)<|Rv 8 c0 rfl d0 (fun _=>FV.neqV (xs:=((cs_Ta k0)).toArray) (ys:=((cs_Ta p0)).toArray) rfl rfl (by kernel_rfl) (eqlD_37 k0 p0))<|AN (dk c0)<|MX.ifn rfl h (fun s0 h=>?_) (fun s0 h=>?_)
 refine Au<|AC<|Av<|Ab (Bw (i:=b0) (j:=1) rfl rfl (by omega))<|Ae rfl<|Aa<|t0 (b0 + 1) g0 u0 h
 refine Ac<|Af rfl<|Aa ?_
 have h:=thn_inl h j0
 refine Al rfl<|AW hb0 Tryz.func29 rfl rfl ?_
 cases h
 exact g0.gv
 refine Bd rfl ?_
 have h:=thn_inr h j0
 try dsimp only at h
 refine Ac<|Af rfl<|Aa<|Al rfl<|AW hb0 Tryz.func29 rfl rfl ?_
 cases h
 exact g0.gv
 refine Ac<|Af rfl<|Aa<|Al rfl<|AW hb0 Tryz.func29 rfl rfl ?_
 cases h
 exact hS0.gv
def co_p (_n:Nat) (a0:Bool) (a1:Int) (a2:Bool):Option Bool:=
  (if (a0 == a2) = true then some (decide (a1 = 0)) else some false)
theorem co_c (n:Nat) {L w} (_hL:hl L w) {a0:Bool} {a1:Int} {a2:Bool} {p2:Nat} (m2:∀ j9 v9,([.bool a2]:List Value)[j9]? = some v9 -> w.cell? ((⟨p2,0,none⟩:Addr).add j9) = some v9)  {r:Bool} (h:co_p n a0 a1 a2 = some r) :
 Cl 71 #[.bool a0,vI a1,.pointer (some ⟨p2,0,none⟩)] w (Gives w fun _ u=>u = .bool r):=by
 unfold co_p at h
 have hS0:=Az w
 refine AD Tryz.func71 rfl rfl rfl fun _ cs0 hb0=>Ac<|Af rfl<|Aa<|Ac<|Ae rfl<|AP rfl ((fun j9 v9 h9=>hS0.ag.cell0 (m2 j9 v9 h9)) 0 _ rfl)<|Ab (FV.eqlB (a:=a0) (b:=a2) Tryz.underlying4 rfl rfl)<|Ae rfl<|RG.ifb (s:=9) rfl h (fun c1 h=>?_) (fun c1 h=>?_)
 refine AE (Ai rfl)<|AE (FV.eql (i:=a1) (j:=0) rfl rfl)<|Bh rfl rfl<|Af rfl<|Aa<|Al rfl<|AW hb0 Tryz.func71 rfl rfl ?_
 cases h
 exact hS0.gv
 refine Ap<|Ap<|Bv rfl rfl<|Af rfl<|Aa<|Al rfl<|AW hb0 Tryz.func71 rfl rfl ?_
 cases h
 exact hS0.gv
theorem dS_c (_n:Nat) {L w} (_hL:hl L w) (a0:Bool)  :
 Cl 30 #[.bool a0] w (Gives w fun w' u=>∃ b0:Nat,u = .func (.func 71) #[] #[vP b0]/\St w w' [.cells b0 [.bool a0] 4]):=by
 refine AD Tryz.func30 rfl rfl rfl fun _ cs0 hb0=>Ac<|RG.bx (Az w) rfl rfl fun g0 b0 c0 d0=>Af rfl<|Aa<|Ac<|Ab (BW (vs:=[]) (us:=[vP b0]) evs_nil (e1 rfl))<|Af rfl<|Aa<|Al rfl<|Am (u:=.func (.func 71) #[] #[vP b0]) hb0 Tryz.func30 rfl (.cons (.tmp rfl) .nil) rfl<|⟨c0.ag,fun p q=>⟨b0,rfl,c0.agree q⟩⟩
theorem el46:ElT Tryz.prog 46 3 (Rep.size Int) 8 (vI 0) [vI 0]:=⟨Tryz.underlying46,by kernel_rfl,rfl,rfl,rfl,rfl⟩
def cN_p (n:Nat):Option Bool:=
  (di_p n).bind fun y1=>(dR_p n y1 ([(0:Int),(0:Int),(0:Int),(1:Int)]:List Int) (2:Int)).bind fun p0=>(bj_p n (1:Int) (10:Int)).bind fun E0=>(bN_p n y1 (3:Int) E0).bind fun c0=>(dh_p n y1 ([(0:Int),(0:Int),(0:Int),(0:Int)]:List Int) (2:Int)).bind fun F0=>jn (fun s0=>(if s0 = true then (if c0.1 = 30 then (if c0.2.1 = 36 then (if c0.2.2 = 0 then (bj_p n (1:Int) (5:Int)).bind fun t0=>(bw_p n y1 ([(0:Int),(0:Int),(0:Int),(1:Int)]:List Int) (2:Int) t0).bind fun d0=>(co_p n d0.1 d0.2 true).bind fun u0=>(if u0 = true then (bj_p n (1:Int) (6:Int)).bind fun v0=>(bw_p n y1 ([(0:Int),(0:Int),(0:Int),(1:Int)]:List Int) (2:Int) v0).bind fun g0=>(co_p n g0.1 g0.2 false).bind fun x0=>(if x0 = true then some (decide (F0.2 = 220)) else some false) else some false) else some false) else some false) else some false) else some false)) (fun b0=>(dh_p n y1 ([(0:Int),(0:Int),(0:Int),(1:Int)]:List Int) (2:Int)).bind fun j0=>(dj_p n j0.1 j0.2 ([(60:Int),(40:Int)]:List Int)).bind fun y0=>(if y0 = true then (dK_p n y1 (2:Int)).bind fun k0=>(cv_p n k0.1 k0.2 (50:Int) (1:Int)).bind fun z0=>(if z0 = true then (bj_p n (1:Int) (5:Int)).bind fun A0=>(bj_p n (-1:Int) (5:Int)).bind fun B0=>(aQ_p n p0.1 ([A0,B0]:List Ta)).bind fun C0=>(if C0 = true then (if p0.2 = 0 then (dF_p n y1 ([(0:Int),(0:Int),(0:Int),(1:Int)]:List Int) (2:Int)).bind fun q0=>(cv_p n q0.1 q0.2 (2:Int) (5:Int)).bind fun D0=>b0 D0 else b0 false) else b0 false) else b0 false) else b0 false))
theorem cN_c (n:Nat) {L w} (hL:hl L w)  {r:Bool} (h:cN_p n = some r) :
 Cl 5 #[] w (Gives w fun _ u=>u = .bool r):=by
 unfold cN_p at h
 have hS0:=Az w
 refine AD Tryz.func5 rfl rfl rfl fun _ cs0 hb0=>Ac<|Af rfl<|Aa<|Ac<|bk h fun y1 hy1 h=>AX (fst:=[]) (cap:=[]) .plain (bd 25) rfl evs_nil (fun p q=>di_c n (hS0.hL hL q)  hy1) rfl fun w2 vu3 hag4 ⟨v7,hu_,hr8⟩=>?_
 subst hu_
 obtain ⟨hS5,hT6⟩:=hS0.agr hag4
 refine Ak .plain rfl (AK (α:=Int) (xs:=([(0:Int),(0:Int),(0:Int),(1:Int)]:List Int)) (vs:=[vI 0,vI 0,vI 0,vI 1]) (ds' :=[vI 0,vI 0,vI 0,vI 1]) rfl hS5 el46 rfl (e4 rfl rfl rfl rfl) (by kernel_rfl) rfl) fun G4 C1 F1 H1=>RG.nl [vI 0,vI 0,vI 0,vN] F1 fun H4 E1 F2 u1=>AQ [vI y1.fe,vI y1.fh,vI y1.fj,v7] F2 .hd (o4 rfl rfl rfl (AO (Ao hr8 (Tt H1 u1)))) fun K4 b1 M1=>Af rfl<|Aa<|Ac<|Ab (AH rfl (b1.memA .hd))<|Ae rfl ?_
 have p1:=Bz b1 .t1
 have K0:=BB (α:=Int) (v:=(vS C1 4)) (xs:=([(0:Int),(0:Int),(0:Int),(1:Int)]:List Int)) p1 L (Bj (α:=Int) b1 .t1 (Aw (AB (cs:=[vI 0,vI 0,vI 0,vI 1]) (xs:=(([(0:Int),(0:Int),(0:Int),(1:Int)]:List Int):List Int)) F1 L (Ar (cs:=[vI 0]) (ds:=[vI 0,vI 0,vI 1]) rfl (Ar (cs:=[vI 0]) (ds:=[vI 0,vI 1]) rfl (Ar (cs:=[vI 0]) (ds:=[vI 1]) rfl (Ar (cs:=[vI 1]) (ds:=[]) rfl (AJ _ _)))))) (Tt u1 M1)) hL)
 refine bk h fun Y3 D3 h=>?_
 have x1:=Tt H1 (Tt u1 (Tt M1 (BA b1 .t1)))
 refine AX (fst:=[]) (cap:=[]) .plain (bd 20) rfl (e3 rfl rfl rfl) (fun p q=>dR_c n (p1.hL hL q) y1 (Aq (Ao hr8 x1) q) (Aq K0 q) D3) rfl fun Q4 E4 W2 ⟨v4,hu_,Z2⟩=>?_
 subst hu_
 obtain ⟨G0,g1⟩:=p1.agr W2
 refine Ae rfl<|Ab (Ag rfl rfl)<|Ab (Ag rfl rfl)<|Af rfl<|Af rfl<|Aa<|Aj<|du 10 fun k0 q0=>Rx 0 1020 k0 rfl q0 (AH rfl (G0.memA .hd))<|bk h fun q2 H3 h=>BO 1 3 1020 (.agg ((cs_Ta q2)).toArray) k0 rfl q0 (bd 26) rfl (e2 rfl rfl) (fun p q=>bj_c n (G0.hL0 hL q)  H3) rfl<|bk h fun z0 I3 h=>BO 2 7 1016 (.tuple #[vI z0.1,vI z0.2.1,vI z0.2.2]) k0 rfl q0 (bd 9) rfl (e3 rfl rfl rfl) (fun p q=>bN_c n (G0.hL0 hL q) y1 (G0.kd (Ao hr8 (Tt x1 g1)) q) q2 I3) rfl<|Rv 3 k0 rfl q0 (fun _=>Ai rfl)<|Rv 4 k0 rfl q0 (fun _=>Ag rfl rfl)<|Rv 5 k0 rfl q0 (fun _=>Ag rfl rfl)<|Rv 6 k0 rfl q0 (fun _=>Ag rfl rfl)<|Rv 7 k0 rfl q0 (fun _=>AV rfl)<|Rv 8 k0 rfl q0 (fun _=>AV rfl)<|Rv 9 k0 rfl q0 (fun _=>AV rfl)<|AN (dk k0)<|Ac<|Ab (AH rfl (G0.memA .hd))<|Ak .plain rfl (AK (α:=Int) (xs:=([(0:Int),(0:Int),(0:Int),(0:Int)]:List Int)) (vs:=[vI 0,vI 0,vI 0,vI 0]) (ds' :=[vI 0,vI 0,vI 0,vI 0]) rfl G0 el46 rfl (e4 rfl rfl rfl rfl) (by kernel_rfl) rfl) fun R4 t2 c1 j1=>?_
 have q1:=Bz c1 .hd
 have k1:=BA c1 .hd
 refine bk h fun s2 J3 h=>?_
 have z1:=Tt x1 (Tt g1 (Tt j1 k1))
 refine AX (fst:=[]) (cap:=[]) .plain (bd 13) rfl (e3 rfl rfl rfl) (fun p q=>dh_c n (q1.hL hL q) y1 (Aq (Ao hr8 z1) q) (Aq (BB (α:=Int) (v:=(vS t2 4)) (xs:=([(0:Int),(0:Int),(0:Int),(0:Int)]:List Int)) q1 L (Bj (α:=Int) c1 .hd (AB (cs:=[vI 0,vI 0,vI 0,vI 0]) (xs:=(([(0:Int),(0:Int),(0:Int),(0:Int)]:List Int):List Int)) c1 L (Ar (cs:=[vI 0]) (ds:=[vI 0,vI 0,vI 0]) rfl (Ar (cs:=[vI 0]) (ds:=[vI 0,vI 0]) rfl (Ar (cs:=[vI 0]) (ds:=[vI 0]) rfl (Ar (cs:=[vI 0]) (ds:=[]) rfl (AJ _ _)))))) hL)) q) J3) rfl fun U4 F4 X2 ⟨x4,hu_,s4⟩=>?_
 subst hu_
 obtain ⟨s1,J0⟩:=q1.agr X2
 refine Ae rfl<|Ab (Ag rfl rfl)<|Ab (Ag rfl rfl)<|Af rfl<|Af rfl<|Aa<|Aj<|MX.jo (α:=Bool) (fun M0=>[(1,vP E1),(2,(vS C1 4)),(5,vI z0.1),(6,vI z0.2.1),(7,vI z0.2.2),(9,vI s2.2),(10,.bool M0)]) (fun M0=>[.cells E1 [vI y1.fe,vI y1.fh,vI y1.fj,v7] 44]) (fun M0=>M0) s1 h ?_ ?_
 rintro M0 R3 A0 I1 h
 try dsimp only at h
 refine Aj<|du 38 fun b0 c0=>Rv 0 b0 rfl c0 (fun _=>Ai rfl)<|Rv 1 b0 rfl c0 (fun _=>Ai rfl)<|RD.ifb (s:=69) rfl h (fun u2 h=>?_) (fun u2 h=>?_)
 refine BX 2 7 b0 rfl c0 (.yes rfl rfl) (fun _=>Ai rfl) rfl<|BX 3 15 b0 rfl c0 (.yes rfl rfl) (fun _=>FV.eql (i:=z0.1) (j:=30) rfl rfl) rfl<|Rv 4 b0 rfl c0 (fun _=>BM rfl rfl)<|Rv 5 b0 rfl c0 (fun _=>Ai rfl)<|RD.ifd (s:=73) rfl h (fun v2 h=>?_) (fun v2 h=>?_)
 refine BX 6 127 b0 rfl c0 (.yes rfl rfl) (fun _=>Ai rfl) rfl<|BX 7 255 b0 rfl c0 (.yes rfl rfl) (fun _=>FV.eql (i:=z0.2.1) (j:=36) rfl rfl) rfl<|Rv 8 b0 rfl c0 (fun _=>BM rfl rfl)<|Rv 9 b0 rfl c0 (fun _=>Ai rfl)<|RD.ifd (s:=77) rfl h (fun x2 h=>?_) (fun x2 h=>?_)
 refine BX 10 2047 b0 rfl c0 (.yes rfl rfl) (fun _=>Ai rfl) rfl<|BX 11 4095 b0 rfl c0 (.yes rfl rfl) (fun _=>FV.eql (i:=z0.2.2) (j:=0) rfl rfl) rfl<|Rv 12 b0 rfl c0 (fun _=>BM rfl rfl)<|Rv 13 b0 rfl c0 (fun _=>Ai rfl)<|RD.ifd (s:=81) rfl h (fun y2 h=>?_) (fun y2 h=>?_)
 refine RD.val (i:=15) (m' :=49151) (W:=274877644800) (tk b0) rfl c0 (.yes rfl rfl) (AH rfl (A0.memA .hd)) rfl<|BX 16 114687 b0 rfl c0 (.yes rfl rfl) (fun _=>Ai rfl) rfl<|Bn 14 131071 b0 rfl (.yes rfl rfl) (bd 30) rfl (e1 rfl) (fun p q=>Calls.gives (dS_c n (A0.hL hL q) true) fun (w8:World) (u8:Value) ⟨b0_,hu_,s_⟩=>(⟨b0_,hu_,s_.from q⟩:∃ P0:Nat,u8 = Value.func (.func 71) #[] #[vP P0]/\St R3 w8 [.cells P0 [.bool true] 4])) rfl fun K3 y4 g4 ⟨P0,b3,X1⟩=>?_
 subst b3
 have j0:=mk_push1 A0 X1
 have J1:=mk_tr1 A0 X1
 refine bk h fun d2 p3 h=>RD.callq (i:=17) (m' :=262143) (W:=274877644800) (tk b0) rfl c0 (v:=.agg ((cs_Ta d2)).toArray) (fst:=[]) (cap:=[]) (.yes rfl rfl) (bd 26) rfl (e2 rfl rfl) (fun p q=>bj_c n (j0.hL0 hL q)  p3) rfl<|bk h fun g2 q3 h=>?_
 have P1:=Tt z1 (Tt J0 (Tt I1 J1))
 have Q1:=Tt g1 (Tt j1 (Tt k1 (Tt J0 (Tt I1 J1))))
 refine RD.callq (i:=18) (m' :=524287) (W:=274877382656) (tk b0) rfl c0 (v:=.tuple #[.bool g2.1,vI g2.2]) (fst:=[]) (cap:=[]) (.yes rfl rfl) (bd 11) rfl (e4 rfl rfl rfl rfl) (fun p q=>bw_c n (j0.hL0 hL q) y1 (j0.kd (Ao hr8 P1) q) (j0.kd (Ao K0 Q1) q) d2 q3) rfl<|BX 19 1048575 b0 rfl c0 (.yes rfl rfl) (fun _=>Ag rfl rfl) rfl<|BX 20 2097151 b0 rfl c0 (.yes rfl rfl) (fun _=>Ag rfl rfl) rfl<|bk h fun U3 s3 h=>RD.callq (i:=21) (m' :=4194303) (W:=274873712640) (tk b0) rfl c0 (v:=.bool U3) (fst:=[]) (cap:=[vP P0]) (.yes rfl rfl) (bd 71) rfl (e2 rfl rfl) (fun p q=>co_c n (j0.hL0 hL q) (mem_keep q (j0.memA .hd)) s3) rfl<|Rv 22 b0 rfl c0 (fun _=>BM rfl rfl)<|Rv 23 b0 rfl c0 (fun _=>Ai rfl)<|RD.ifb (s:=91) rfl h (fun z2 h=>?_) (fun z2 h=>?_)
 refine RD.val (i:=25) (m' :=50331647) (W:=274609471488) (tk b0) rfl c0 (.yes rfl rfl) (AH rfl (j0.memA .t1)) rfl<|BX 26 117440511 b0 rfl c0 (.yes rfl rfl) (fun _=>Ai rfl) rfl<|Bn 24 134217727 b0 rfl (.yes rfl rfl) (bd 30) rfl (e1 rfl) (fun p q=>Calls.gives (dS_c n (j0.hL hL q) false) fun (w8:World) (u8:Value) ⟨b0_,hu_,s_⟩=>(⟨b0_,hu_,s_.from q⟩:∃ Q0:Nat,u8 = Value.func (.func 71) #[] #[vP Q0]/\St K3 w8 [.cells Q0 [.bool false] 4])) rfl fun I4 z4 j4 ⟨Q0,c3,Y1⟩=>?_
 subst c3
 have B0:=mk_push1 j0 Y1
 have K1:=mk_tr1 j0 Y1
 refine bk h fun j2 t3 h=>RD.callq (i:=27) (m' :=268435455) (W:=274609471488) (tk b0) rfl c0 (v:=.agg ((cs_Ta j2)).toArray) (fst:=[]) (cap:=[]) (.yes rfl rfl) (bd 26) rfl (e2 rfl rfl) (fun p q=>bj_c n (B0.hL0 hL q)  t3) rfl<|bk h fun k2 u3 h=>RD.callq (i:=28) (m' :=536870911) (W:=274341036032) (tk b0) rfl c0 (v:=.tuple #[.bool k2.1,vI k2.2]) (fst:=[]) (cap:=[]) (.yes rfl rfl) (bd 11) rfl (e4 rfl rfl rfl rfl) (fun p q=>bw_c n (B0.hL0 hL q) y1 (B0.kd (Ao hr8 (Tt P1 K1)) q) (B0.kd (Ao K0 (Tt Q1 K1)) q) j2 u3) rfl<|BX 29 1073741823 b0 rfl c0 (.yes rfl rfl) (fun _=>Ag rfl rfl) rfl<|BX 30 2147483647 b0 rfl c0 (.yes rfl rfl) (fun _=>Ag rfl rfl) rfl<|bk h fun V3 v3 h=>RD.callq (i:=31) (m' :=4294967295) (W:=270582939648) (tk b0) rfl c0 (v:=.bool V3) (fst:=[]) (cap:=[vP Q0]) (.yes rfl rfl) (bd 71) rfl (e2 rfl rfl) (fun p q=>co_c n (B0.hL0 hL q) (mem_keep q (B0.memA .hd)) v3) rfl<|Rv 32 b0 rfl c0 (fun _=>BM rfl rfl)<|Rv 33 b0 rfl c0 (fun _=>Ai rfl)<|RD.ifb (s:=101) rfl h (fun A2 h=>?_) (fun A2 h=>?_)
 refine BX 34 34359738367 b0 rfl c0 (.yes rfl rfl) (fun _=>Ai rfl) rfl<|BX 35 68719476735 b0 rfl c0 (.yes rfl rfl) (fun _=>FV.eql (i:=s2.2) (j:=220) rfl rfl) rfl<|Rv 36 b0 rfl c0 (fun _=>BM rfl rfl)<|Rv 37 b0 rfl c0 (fun _=>AV rfl)<|AN (dk b0)<|Al rfl<|AW hb0 Tryz.func5 rfl rfl ?_
 cases h
 exact B0.gv
 refine BK 68719476735 2 [(34,102),(35,103)] (F:=[(101,false)]) (U:=[]) b0 c0 (.cons rfl .nil) .nil ?_
 dsimp only [offS,List.map]
 refine Rv 36 b0 rfl c0 (fun _=>Bo rfl rfl)<|Rv 37 b0 rfl c0 (fun _=>AV rfl)<|AN (dk b0)<|Al rfl<|AW hb0 Tryz.func5 rfl rfl ?_
 cases h
 exact B0.gv
 refine BK 4294967295 6 [(24,92),(25,93),(26,94),(27,95),(28,96),(29,97),(30,98),(31,99)] (F:=[(91,false)]) (U:=[]) b0 c0 (.cons rfl .nil) .nil ?_
 dsimp only [offS,List.map]
 refine Rv 32 b0 rfl c0 (fun _=>Bo rfl rfl)<|Rv 33 b0 rfl c0 (fun _=>Ai rfl)<|BK 68719476735 2 [(34,102),(35,103)] (F:=[(101,false)]) (U:=[]) b0 c0 (.cons rfl .nil) .nil ?_
 dsimp only [offS,List.map]
 refine Rv 36 b0 rfl c0 (fun _=>Bo rfl rfl)<|Rv 37 b0 rfl c0 (fun _=>AV rfl)<|AN (dk b0)<|Al rfl<|AW hb0 Tryz.func5 rfl rfl ?_
 cases h
 exact j0.gv
 refine BK 4194303 16 [(14,82),(15,83),(16,84),(17,85),(18,86),(19,87),(20,88),(21,89)] (F:=[(81,false)]) (U:=[]) b0 c0 (.cons rfl .nil) .nil ?_
 dsimp only [offS,List.map]
 refine Rv 22 b0 rfl c0 (fun _=>Bo rfl rfl)<|Rv 23 b0 rfl c0 (fun _=>Ai rfl)<|BK 4294967295 6 [(24,92),(25,93),(26,94),(27,95),(28,96),(29,97),(30,98),(31,99)] (F:=[(91,false)]) (U:=[]) b0 c0 (.cons rfl .nil) .nil ?_
 dsimp only [offS,List.map]
 refine Rv 32 b0 rfl c0 (fun _=>Bo rfl rfl)<|Rv 33 b0 rfl c0 (fun _=>Ai rfl)<|BK 68719476735 2 [(34,102),(35,103)] (F:=[(101,false)]) (U:=[]) b0 c0 (.cons rfl .nil) .nil ?_
 dsimp only [offS,List.map]
 refine Rv 36 b0 rfl c0 (fun _=>Bo rfl rfl)<|Rv 37 b0 rfl c0 (fun _=>AV rfl)<|AN (dk b0)<|Al rfl<|AW hb0 Tryz.func5 rfl rfl ?_
 cases h
 exact A0.gv
 refine BK 4095 26 [(10,78),(11,79)] (F:=[(77,false)]) (U:=[]) b0 c0 (.cons rfl .nil) .nil ?_
 dsimp only [offS,List.map]
 refine Rv 12 b0 rfl c0 (fun _=>Bo rfl rfl)<|Rv 13 b0 rfl c0 (fun _=>Ai rfl)<|BK 4194303 16 [(14,82),(15,83),(16,84),(17,85),(18,86),(19,87),(20,88),(21,89)] (F:=[(81,false)]) (U:=[]) b0 c0 (.cons rfl .nil) .nil ?_
 dsimp only [offS,List.map]
 refine Rv 22 b0 rfl c0 (fun _=>Bo rfl rfl)<|Rv 23 b0 rfl c0 (fun _=>Ai rfl)<|BK 4294967295 6 [(24,92),(25,93),(26,94),(27,95),(28,96),(29,97),(30,98),(31,99)] (F:=[(91,false)]) (U:=[]) b0 c0 (.cons rfl .nil) .nil ?_
 dsimp only [offS,List.map]
 refine Rv 32 b0 rfl c0 (fun _=>Bo rfl rfl)<|Rv 33 b0 rfl c0 (fun _=>Ai rfl)<|BK 68719476735 2 [(34,102),(35,103)] (F:=[(101,false)]) (U:=[]) b0 c0 (.cons rfl .nil) .nil ?_
 dsimp only [offS,List.map]
 refine Rv 36 b0 rfl c0 (fun _=>Bo rfl rfl)<|Rv 37 b0 rfl c0 (fun _=>AV rfl)<|AN (dk b0)<|Al rfl<|AW hb0 Tryz.func5 rfl rfl ?_
 cases h
 exact A0.gv
 refine BK 255 30 [(6,74),(7,75)] (F:=[(73,false)]) (U:=[]) b0 c0 (.cons rfl .nil) .nil ?_
 dsimp only [offS,List.map]
 refine Rv 8 b0 rfl c0 (fun _=>Bo rfl rfl)<|Rv 9 b0 rfl c0 (fun _=>Ai rfl)<|BK 4095 26 [(10,78),(11,79)] (F:=[(77,false)]) (U:=[]) b0 c0 (.cons rfl .nil) .nil ?_
 dsimp only [offS,List.map]
 refine Rv 12 b0 rfl c0 (fun _=>Bo rfl rfl)<|Rv 13 b0 rfl c0 (fun _=>Ai rfl)<|BK 4194303 16 [(14,82),(15,83),(16,84),(17,85),(18,86),(19,87),(20,88),(21,89)] (F:=[(81,false)]) (U:=[]) b0 c0 (.cons rfl .nil) .nil ?_
 dsimp only [offS,List.map]
 refine Rv 22 b0 rfl c0 (fun _=>Bo rfl rfl)<|Rv 23 b0 rfl c0 (fun _=>Ai rfl)<|BK 4294967295 6 [(24,92),(25,93),(26,94),(27,95),(28,96),(29,97),(30,98),(31,99)] (F:=[(91,false)]) (U:=[]) b0 c0 (.cons rfl .nil) .nil ?_
 dsimp only [offS,List.map]
 refine Rv 32 b0 rfl c0 (fun _=>Bo rfl rfl)<|Rv 33 b0 rfl c0 (fun _=>Ai rfl)<|BK 68719476735 2 [(34,102),(35,103)] (F:=[(101,false)]) (U:=[]) b0 c0 (.cons rfl .nil) .nil ?_
 dsimp only [offS,List.map]
 refine Rv 36 b0 rfl c0 (fun _=>Bo rfl rfl)<|Rv 37 b0 rfl c0 (fun _=>AV rfl)<|AN (dk b0)<|Al rfl<|AW hb0 Tryz.func5 rfl rfl ?_
 cases h
 exact A0.gv
 refine BK 15 34 [(2,70),(3,71)] (F:=[(69,false)]) (U:=[]) b0 c0 (.cons rfl .nil) .nil ?_
 dsimp only [offS,List.map]
 refine Rv 4 b0 rfl c0 (fun _=>Bo rfl rfl)<|Rv 5 b0 rfl c0 (fun _=>Ai rfl)<|BK 255 30 [(6,74),(7,75)] (F:=[(73,false)]) (U:=[]) b0 c0 (.cons rfl .nil) .nil ?_
 dsimp only [offS,List.map]
 refine Rv 8 b0 rfl c0 (fun _=>Bo rfl rfl)<|Rv 9 b0 rfl c0 (fun _=>Ai rfl)<|BK 4095 26 [(10,78),(11,79)] (F:=[(77,false)]) (U:=[]) b0 c0 (.cons rfl .nil) .nil ?_
 dsimp only [offS,List.map]
 refine Rv 12 b0 rfl c0 (fun _=>Bo rfl rfl)<|Rv 13 b0 rfl c0 (fun _=>Ai rfl)<|BK 4194303 16 [(14,82),(15,83),(16,84),(17,85),(18,86),(19,87),(20,88),(21,89)] (F:=[(81,false)]) (U:=[]) b0 c0 (.cons rfl .nil) .nil ?_
 dsimp only [offS,List.map]
 refine Rv 22 b0 rfl c0 (fun _=>Bo rfl rfl)<|Rv 23 b0 rfl c0 (fun _=>Ai rfl)<|BK 4294967295 6 [(24,92),(25,93),(26,94),(27,95),(28,96),(29,97),(30,98),(31,99)] (F:=[(91,false)]) (U:=[]) b0 c0 (.cons rfl .nil) .nil ?_
 dsimp only [offS,List.map]
 refine Rv 32 b0 rfl c0 (fun _=>Bo rfl rfl)<|Rv 33 b0 rfl c0 (fun _=>Ai rfl)<|BK 68719476735 2 [(34,102),(35,103)] (F:=[(101,false)]) (U:=[]) b0 c0 (.cons rfl .nil) .nil ?_
 dsimp only [offS,List.map]
 refine Rv 36 b0 rfl c0 (fun _=>Bo rfl rfl)<|Rv 37 b0 rfl c0 (fun _=>AV rfl)<|AN (dk b0)<|Al rfl<|AW hb0 Tryz.func5 rfl rfl ?_
 cases h
 exact A0.gv
 intro b4 I0 h
 try dsimp only at h
 refine du 37 fun d0 g0=>Rx 2 137438953456 d0 rfl g0 (AH rfl (s1.memA .hd))<|Rv 3 d0 rfl g0 (fun _=>Ai rfl)<|BN 0 13 d0 rfl .plain rfl (AK (α:=Int) (xs:=([(60:Int),(40:Int)]:List Int)) (vs:=[vI 60,vI 40]) (ds' :=[vI 60,vI 40]) rfl s1 el45 rfl (e2 rfl rfl) (by kernel_rfl) rfl) fun M3 D1 Y0 C0=>?_
 have Z0:=Bz Y0 .hd
 have D0:=BA Y0 .hd
 have W1:=BB (α:=Int) (v:=(vS D1 2)) (xs:=([(60:Int),(40:Int)]:List Int)) Z0 L (Bj (α:=Int) Y0 .hd (AB (cs:=[vI 60,vI 40]) (xs:=(([(60:Int),(40:Int)]:List Int):List Int)) Y0 L (Ar (cs:=[vI 60]) (ds:=[vI 40]) rfl (Ar (cs:=[vI 40]) (ds:=[]) rfl (AJ _ _)))) hL)
 refine Bn 1 15 d0 rfl .plain (bd 27) rfl (e1 rfl) (fun p q=>Calls.gives (dU_c n (Z0.hL hL q) ([(60:Int),(40:Int)]:List Int) (Aq W1 q)) fun (w8:World) (u8:Value) ⟨b0_,hu_,s_⟩=>(⟨b0_,hu_,s_.from q⟩:∃ R0:Nat,u8 = Value.func (.func 69) #[] #[vP R0]/\St M3 w8 [.cells R0 [(vS D1 2)] 45])) rfl fun J4 A4 k4 ⟨R0,g3,Z1⟩=>?_
 subst g3
 have G1:=mk_push1 Z0 Z1
 have v0:=mk_tr1 Z0 Z1
 refine bk h fun V4 x3 h=>?_
 have R1:=Tt z1 (Tt J0 (Tt C0 (Tt D0 v0)))
 have U1:=Tt g1 (Tt j1 (Tt k1 (Tt J0 (Tt C0 (Tt D0 v0)))))
 refine Bn 4 31 d0 rfl .plain (bd 13) rfl (e3 rfl rfl rfl) (fun p q=>dh_c n (G1.hL hL q) y1 (Aq (Ao hr8 R1) q) (Aq (Ao K0 U1) q) x3) rfl fun P3 B4 V2 ⟨u4,hu_,Y2⟩=>?_
 subst hu_
 obtain ⟨t0,x0⟩:=G1.agr V2
 refine Rv 5 d0 rfl g0 (fun _=>Ag rfl rfl)<|Rv 6 d0 rfl g0 (fun _=>Ag rfl rfl)<|bk h fun W3 y3 h=>RD.callq (i:=7) (m' :=255) (W:=137438953216) (tk d0) rfl g0 (v:=.bool W3) (fst:=[]) (cap:=[vP R0]) .plain (bd 69) rfl (e2 rfl rfl) (fun p q=>dj_c n (t0.hL0 hL q) (t0.kd Y2 q) (t0.kd (Ao W1 (Tt v0 x0)) q) (mem_keep q (t0.memA .hd)) y3) rfl<|Rv 8 d0 rfl g0 (fun _=>Ai rfl)<|RD.ifb (s:=40) rfl h (fun B2 h=>?_) (fun B2 h=>?_)
 refine RD.val (i:=10) (m' :=1535) (W:=137438951424) (tk d0) rfl g0 (.yes rfl rfl) (AH rfl (t0.memA .t1)) rfl<|Bn 9 2047 d0 rfl (.yes rfl rfl) (bd 28) rfl (e2 rfl rfl) (fun p q=>Calls.gives (dT_c n (t0.hL hL q) (50:Int) (1:Int)) fun (w8:World) (u8:Value) ⟨b0_,b1_,hu_,s_⟩=>(⟨b0_,b1_,hu_,s_.from q⟩:∃ U0 V0:Nat,u8 = Value.func (.func 70) #[] #[vP U0,vP V0]/\St P3 w8 [.cells U0 [vI 50] 3,.cells V0 [vI 1] 3])) rfl fun M4 C4 p4 ⟨U0,V0,j3,b2⟩=>?_
 subst j3
 have u0:=mk_push2 t0 b2
 have F0:=mk_tr2 t0 b2
 refine bk h fun A1 z3 h=>?_
 have V1:=Tt R1 (Tt x0 F0)
 refine RD.callq (i:=11) (m' :=4095) (W:=137438949376) (tk d0) rfl g0 (v:=.tuple #[.agg ((cs_Ta A1.1)).toArray,vI A1.2]) (fst:=[]) (cap:=[]) (.yes rfl rfl) (bd 15) rfl (e2 rfl rfl) (fun p q=>dK_c n (u0.hL0 hL q) y1 (u0.kd (Ao hr8 V1) q) z3) rfl<|BX 12 8191 d0 rfl g0 (.yes rfl rfl) (fun _=>Ag rfl rfl) rfl<|BX 13 16383 d0 rfl g0 (.yes rfl rfl) (fun _=>Ag rfl rfl) rfl<|bk h fun X3 A3 h=>RD.callq (i:=14) (m' :=32767) (W:=137438920704) (tk d0) rfl g0 (v:=.bool X3) (fst:=[]) (cap:=[vP U0,vP V0]) (.yes rfl rfl) (bd 70) rfl (e2 rfl rfl) (fun p q=>cv_c n (u0.hL0 hL q) A1.1 (mem_keep q (u0.memA .hd)) (mem_keep q (u0.memA .t1)) A3) rfl<|Rv 15 d0 rfl g0 (fun _=>BM rfl rfl)<|Rv 16 d0 rfl g0 (fun _=>Ai rfl)<|RD.ifb (s:=48) rfl h (fun C2 h=>?_) (fun C2 h=>?_)
 refine BX 17 262143 d0 rfl g0 (.yes rfl rfl) (fun _=>Ai rfl) rfl<|bk h fun y0 B3 h=>RD.callq (i:=18) (m' :=524287) (W:=137438429184) (tk d0) rfl g0 (v:=.agg ((cs_Ta y0)).toArray) (fst:=[]) (cap:=[]) (.yes rfl rfl) (bd 26) rfl (e2 rfl rfl) (fun p q=>bj_c n (u0.hL0 hL q)  B3) rfl<|bk h fun s0 C3 h=>RD.callq (i:=19) (m' :=1048575) (W:=137437904896) (tk d0) rfl g0 (v:=.agg ((cs_Ta s0)).toArray) (fst:=[]) (cap:=[]) (.yes rfl rfl) (bd 26) rfl (e2 rfl rfl) (fun p q=>bj_c n (u0.hL0 hL q)  C3) rfl<|BN 20 2097151 d0 rfl (.yes rfl rfl) rfl (AK (α:=Ta) (xs:=([y0,s0]:List Ta)) (vs:=[.agg ((cs_Ta y0)).toArray,.agg ((cs_Ta s0)).toArray]) (ds' :=(cs_Ta y0 ++ cs_Ta s0)) rfl u0 el63 rfl (e2 rfl rfl) (by kernel_rfl) rfl) fun Q3 c4 p0 H0=>bk h fun Z3 E3 h=>RD.callq (i:=21) (m' :=4194303) (W:=137434759168) (tk d0) rfl g0 (v:=.bool Z3) (fst:=[]) (cap:=[]) (.yes rfl rfl) (bd 29) rfl (e2 rfl rfl) (fun p q=>aQ_c n (p0.hL0 hL q) (p0.kd (Ao Z2 (Tt j1 (Tt k1 (Tt J0 (Tt C0 (Tt D0 (Tt v0 (Tt x0 (Tt F0 H0))))))))) q) (Aq (St.lend (α:=Ta) (L:=L) p0 .hd (AB (cs:=(cs_Ta y0 ++ cs_Ta s0)) (xs:=(([y0,s0]:List Ta):List Ta)) p0 L (Ar (cs:=(cs_Ta y0)) (ds:=(cs_Ta s0)) (mk_Ta y0.fN y0.fD) (Ar (cs:=(cs_Ta s0)) (ds:=[]) (mk_Ta s0.fN s0.fD) (AJ _ _)))) hL) q) E3) rfl<|Rv 22 d0 rfl g0 (fun _=>BM rfl rfl)<|Rv 23 d0 rfl g0 (fun _=>Ai rfl)<|RD.ifb (s:=55) rfl h (fun D2 h=>?_) (fun D2 h=>?_)
 refine BX 24 33554431 d0 rfl g0 (.yes rfl rfl) (fun _=>Ai rfl) rfl<|BX 25 67108863 d0 rfl g0 (.yes rfl rfl) (fun _=>FV.eql (i:=Y3.2) (j:=0) rfl rfl) rfl<|Rv 26 d0 rfl g0 (fun _=>BM rfl rfl)<|Rv 27 d0 rfl g0 (fun _=>Ai rfl)<|RD.ifd (s:=59) rfl h (fun E2 h=>?_) (fun E2 h=>?_)
 refine RD.val (i:=29) (m' :=805306367) (W:=135291469824) (tk d0) rfl g0 (.yes rfl rfl) (AH rfl (p0.memA .t4)) rfl<|BX 30 1879048191 d0 rfl g0 (.yes rfl rfl) (fun _=>Ai rfl) rfl<|Bn 28 2147483647 d0 rfl (.yes rfl rfl) (bd 28) rfl (e2 rfl rfl) (fun p q=>Calls.gives (dT_c n (p0.hL hL q) (2:Int) (5:Int)) fun (w8:World) (u8:Value) ⟨b0_,b1_,hu_,s_⟩=>(⟨b0_,b1_,hu_,s_.from q⟩:∃ W0 X0:Nat,u8 = Value.func (.func 70) #[] #[vP W0,vP X0]/\St Q3 w8 [.cells W0 [vI 2] 3,.cells X0 [vI 5] 3])) rfl fun P4 D4 q4 ⟨W0,X0,k3,c2⟩=>?_
 subst k3
 have E0:=mk_push2 p0 c2
 have v1:=mk_tr2 p0 c2
 refine bk h fun B1 F3 h=>RD.callq (i:=31) (m' :=4294967295) (W:=133143986176) (tk d0) rfl g0 (v:=.tuple #[.agg ((cs_Ta B1.1)).toArray,vI B1.2]) (fst:=[]) (cap:=[]) (.yes rfl rfl) (bd 22) rfl (e3 rfl rfl rfl) (fun p q=>dF_c n (E0.hL0 hL q) y1 (E0.kd (Ao hr8 (Tt V1 (Tt H0 v1))) q) (E0.kd (Ao K0 (Tt U1 (Tt x0 (Tt F0 (Tt H0 v1))))) q) F3) rfl<|BX 32 8589934591 d0 rfl g0 (.yes rfl rfl) (fun _=>Ag rfl rfl) rfl<|BX 33 17179869183 d0 rfl g0 (.yes rfl rfl) (fun _=>Ag rfl rfl) rfl<|bk h fun p2 G3 h=>RD.callq (i:=34) (m' :=34359738367) (W:=103079215104) (tk d0) rfl g0 (v:=.bool p2) (fst:=[]) (cap:=[vP W0,vP X0]) (.yes rfl rfl) (bd 70) rfl (e2 rfl rfl) (fun p q=>cv_c n (E0.hL0 hL q) B1.1 (mem_keep q (E0.memA .hd)) (mem_keep q (E0.memA .t1)) G3) rfl<|Rv 35 d0 rfl g0 (fun _=>BM rfl rfl)<|Rv 36 d0 rfl g0 (fun _=>AV rfl)<|AN (dk d0) ?_
 obtain ⟨G2,M2⟩:=AG E0 .d6
 exact I0 p2 G2 (Tt C0 (Tt D0 (Tt v0 (Tt x0 (Tt F0 (Tt H0 (Tt v1 M2))))))) h
 refine BK 34359738367 2 [(28,60),(29,61),(30,62),(31,63),(32,64),(33,65),(34,66)] (F:=[(59,false)]) (U:=[]) d0 g0 (.cons rfl .nil) .nil ?_
 dsimp only [offS,List.map]
 refine Rv 35 d0 rfl g0 (fun _=>Bo rfl rfl)<|Rv 36 d0 rfl g0 (fun _=>AV rfl)<|AN (dk d0) ?_
 obtain ⟨H2,P2⟩:=AG p0 .d4
 exact I0 false H2 (Tt C0 (Tt D0 (Tt v0 (Tt x0 (Tt F0 (Tt H0 P2)))))) h
 refine BK 67108863 11 [(24,56),(25,57)] (F:=[(55,false)]) (U:=[]) d0 g0 (.cons rfl .nil) .nil ?_
 dsimp only [offS,List.map]
 refine Rv 26 d0 rfl g0 (fun _=>Bo rfl rfl)<|Rv 27 d0 rfl g0 (fun _=>Ai rfl)<|BK 34359738367 2 [(28,60),(29,61),(30,62),(31,63),(32,64),(33,65),(34,66)] (F:=[(59,false)]) (U:=[]) d0 g0 (.cons rfl .nil) .nil ?_
 dsimp only [offS,List.map]
 refine Rv 35 d0 rfl g0 (fun _=>Bo rfl rfl)<|Rv 36 d0 rfl g0 (fun _=>AV rfl)<|AN (dk d0) ?_
 obtain ⟨I2,Q2⟩:=AG p0 .d4
 exact I0 false I2 (Tt C0 (Tt D0 (Tt v0 (Tt x0 (Tt F0 (Tt H0 Q2)))))) h
 refine BK 4194303 15 [(17,49),(18,50),(19,51),(20,52),(21,53)] (F:=[(48,false)]) (U:=[]) d0 g0 (.cons rfl .nil) .nil ?_
 dsimp only [offS,List.map]
 refine Rv 22 d0 rfl g0 (fun _=>Bo rfl rfl)<|Rv 23 d0 rfl g0 (fun _=>Ai rfl)<|BK 67108863 11 [(24,56),(25,57)] (F:=[(55,false)]) (U:=[]) d0 g0 (.cons rfl .nil) .nil ?_
 dsimp only [offS,List.map]
 refine Rv 26 d0 rfl g0 (fun _=>Bo rfl rfl)<|Rv 27 d0 rfl g0 (fun _=>Ai rfl)<|BK 34359738367 2 [(28,60),(29,61),(30,62),(31,63),(32,64),(33,65),(34,66)] (F:=[(59,false)]) (U:=[]) d0 g0 (.cons rfl .nil) .nil ?_
 dsimp only [offS,List.map]
 refine Rv 35 d0 rfl g0 (fun _=>Bo rfl rfl)<|Rv 36 d0 rfl g0 (fun _=>AV rfl)<|AN (dk d0) ?_
 obtain ⟨J2,R2⟩:=AG u0 .d3
 exact I0 false J2 (Tt C0 (Tt D0 (Tt v0 (Tt x0 (Tt F0 R2))))) h
 refine BK 32767 22 [(9,41),(10,42),(11,43),(12,44),(13,45),(14,46)] (F:=[(40,false)]) (U:=[]) d0 g0 (.cons rfl .nil) .nil ?_
 dsimp only [offS,List.map]
 refine Rv 15 d0 rfl g0 (fun _=>Bo rfl rfl)<|Rv 16 d0 rfl g0 (fun _=>Ai rfl)<|BK 4194303 15 [(17,49),(18,50),(19,51),(20,52),(21,53)] (F:=[(48,false)]) (U:=[]) d0 g0 (.cons rfl .nil) .nil ?_
 dsimp only [offS,List.map]
 refine Rv 22 d0 rfl g0 (fun _=>Bo rfl rfl)<|Rv 23 d0 rfl g0 (fun _=>Ai rfl)<|BK 67108863 11 [(24,56),(25,57)] (F:=[(55,false)]) (U:=[]) d0 g0 (.cons rfl .nil) .nil ?_
 dsimp only [offS,List.map]
 refine Rv 26 d0 rfl g0 (fun _=>Bo rfl rfl)<|Rv 27 d0 rfl g0 (fun _=>Ai rfl)<|BK 34359738367 2 [(28,60),(29,61),(30,62),(31,63),(32,64),(33,65),(34,66)] (F:=[(59,false)]) (U:=[]) d0 g0 (.cons rfl .nil) .nil ?_
 dsimp only [offS,List.map]
 refine Rv 35 d0 rfl g0 (fun _=>Bo rfl rfl)<|Rv 36 d0 rfl g0 (fun _=>AV rfl)<|AN (dk d0) ?_
 obtain ⟨K2,U2⟩:=AG t0 .d1
 exact I0 false K2 (Tt C0 (Tt D0 (Tt v0 (Tt x0 U2)))) h
structure Tk where
  fN:UInt8
  fC:List UInt8
  fMore:List (UInt8 × UInt8)
  fLabels:List UInt8
  fK:UInt8
  deriving DecidableEq
instance:Rep Tk:=Rep.via (β:=UInt8 × (List UInt8) × (List (UInt8 × UInt8)) × (List UInt8) × UInt8) fun x=>(x.fN,x.fC,x.fMore,x.fLabels,x.fK)
def cg_p (_n:Nat) (a0:Tk):Option Int:=
  some ((1 + ((a0.fN % (9:UInt8)).toNat):Nat):Int)
theorem cg_c (n:Nat) {L w} (_hL:hl L w) (a0:Tk) {v0_1:Value} (_h0_1:Rep.R w L [v0_1] a0.fC) {v0_2:Value} (_h0_2:Rep.R w L [v0_2] a0.fMore) {v0_3:Value} (_h0_3:Rep.R w L [v0_3] a0.fLabels)  {r:Int} (h:cg_p n a0 = some r) :
 Cl 72 #[.agg #[.int .u8 (a0.fN.toNat:Int),v0_1,v0_2,v0_3,.int .u8 (a0.fK.toNat:Int)]] w (Gives w fun _ u=>u = vI r):=by
 unfold cg_p at h
 refine AD Tryz.func72 rfl rfl rfl fun _ cs0 hb0=>Ac<|RG.bx (Az w) rfl rfl fun j0 c0 b0 d0=>Af rfl<|Aa<|Ac<|AR 0 rfl<|AP rfl ((b0.memA .hd) 0 _ rfl)<|Ab (FV.rem8 (a:=a0.fN) (b:=(9:UInt8)) rfl rfl (by decide)) ?_
 have g0:=(a0.fN % (9:UInt8)).toNat_lt
 refine Ab (FV.convN (i:=(a0.fN % (9:UInt8)).toNat) Tryz.underlying5 Tryz.underlying3 rfl (by omega))<|Ab (Bw (i:=1) (j:=(a0.fN % (9:UInt8)).toNat) rfl rfl (by omega))<|Af rfl<|Aa<|Al rfl<|AW hb0 Tryz.func72 rfl rfl ?_
 cases h
 exact b0.gv
def bK_p (_n:Nat) (a0:Tk) (a1:Int):Option Int:=
  (if a1 < ((a0.fLabels.length:Nat):Int) then (idx a0.fLabels a1).bind fun b0=>some ((b0.toNat:Nat):Int) else some (0:Int))
theorem bK_c (n:Nat) {L w} (_hL:hl L w) (a0:Tk) {v0_1:Value} (_h0_1:Rep.R w L [v0_1] a0.fC) {v0_2:Value} (_h0_2:Rep.R w L [v0_2] a0.fMore) {v0_3:Value} (h0_3:Rep.R w L [v0_3] a0.fLabels) {a1:Int}  {r:Int} (h:bK_p n a0 a1 = some r) :
 Cl 73 #[.agg #[.int .u8 (a0.fN.toNat:Int),v0_1,v0_2,v0_3,.int .u8 (a0.fK.toNat:Int)],vI a1] w (Gives w fun _ u=>u = vI r):=by
 unfold bK_p at h
 refine AD Tryz.func73 rfl rfl rfl fun _ cs0 hb0=>Ac<|RG.bx (Az w) rfl rfl fun E0 z0 b0 B0=>Af rfl<|Aa<|Aj<|Ac<|Ae rfl<|AR 3 rfl<|AP rfl ((b0.memA .hd) 3 _ rfl) ?_
 have c0:=AS h0_3 b0
 have C0:a0.fLabels.length <= 281474976710656:=AY c0
 refine Ab (Be (xs:=a0.fLabels) Tryz.underlying22 rfl c0)<|Ab (BS (i:=a1) (j:=((a0.fLabels.length:Nat):Int)) rfl rfl)<|Aa<|AT rfl h (fun g0 h=>?_) (fun g0 h=>?_)
 refine Ac<|AR 3 rfl<|AP rfl ((b0.memA .hd) 3 _ rfl)<|Ae rfl<|bk h fun d0 v0 h=>?_
 obtain ⟨q0,x0⟩:=idx_in v0
 obtain ⟨y0,A0,k0,s0,j0,u0,t0⟩:=Br c0 x0
 have p0:j0 = [.int .u8 (d0.toNat:Int)]:=u0; subst p0
 refine Ab (Bq 1 (a1.toNat) rfl k0 rfl q0 s0)<|AP rfl (t0 0 _ rfl) ?_
 have D0:=d0.toNat_lt
 refine Ab (FV.convN (i:=d0.toNat) Tryz.underlying5 Tryz.underlying3 rfl (by omega))<|Af rfl<|Aa<|Al rfl<|AW hb0 Tryz.func73 rfl rfl ?_
 cases h
 exact b0.gv
 refine Au<|Ac<|Af rfl<|Aa<|Al rfl<|AW hb0 Tryz.func73 rfl rfl ?_
 cases h
 exact b0.gv
def ba_l1 (_n:Nat) (a0:List Int) (a1:Int) (d0:Nat -> Option (Bool ⊕ Unit)):Nat -> Option (Bool ⊕ Unit)
  | b0=>(if b0 < a0.length then (a0[b0]?).bind fun c0=>(if c0 < 0 then some (.inl false) else (if a1 <= c0 then some (.inl false) else d0 (b0 + 1))) else some (.inr ()))
def ba_p (n:Nat) (a0:List Int) (a1:Int):Option Bool:=
  thn (loopF (ba_l1 n a0 a1) n 0) (fun _=>(if 1 <= a0.length then some (decide (a0.length <= 64)) else some false))
theorem ba_c (n:Nat) {L w} (_hL:hl L w) {a0:List Int} {v0_0:Value} (h0_0:Rep.R w L [v0_0] a0) {a1:Int}  {r:Bool} (h:ba_p n a0 a1 = some r) :
 Cl 114 #[v0_0,vI a1] w (Gives w fun _ u=>u = .bool r):=by
 unfold ba_p at h
 refine AD Tryz.func114 rfl rfl rfl fun _ cs0 hb0=>Ac<|Af rfl<|Aa<|Aj<|Ac<|Af rfl<|Aa<|AA<|tn h fun I0 B0 g0=>MX.lo (α:=Nat) (fun b0=>[(0,v0_0),(1,vI a1),(5,vI ((b0:Nat):Int))]) (fun b0=>[]) (fun b0=>b0) 0 B0 (Az w) ?_
 rintro F0 b0 J0 y0 c0 z0 h
 unfold ba_l1 at h
 try dsimp only at h
 refine Aj<|Ac<|Ae rfl<|Ae rfl ?_
 have d0:=AS h0_0 c0
 have H0:a0.length <= 281474976710656:=AY d0
 refine Ab (Be (xs:=a0) Tryz.underlying46 rfl d0)<|Ab (Bu (i:=b0) (j:=a0.length) rfl rfl)<|Aa<|AT rfl h (fun s0 h=>?_) (fun s0 h=>?_)
 refine Au<|Aj<|AA<|Ac<|Ae rfl<|Ae rfl<|bk h fun j0 D0 h=>?_
 obtain ⟨E0,G0,k0,p0,x0,C0,q0⟩:=Br d0 D0
 have A0:x0 = [vI j0]:=C0; subst A0
 refine Ab (Bq 1 b0 rfl k0 rfl rfl p0)<|AP rfl (q0 0 _ rfl)<|Ab (BS (i:=j0) (j:=0) rfl rfl)<|Ae rfl<|BD (s:=17) rfl h (fun t0 h=>?_) (fun t0 h=>?_)
 refine Ap<|Ap<|Ap<|Ap<|Ap<|Ap<|Bh rfl rfl<|Aa<|Bk rfl<|Ac<|Af rfl<|Aa ?_
 have h:=thn_inl h g0
 refine Al rfl<|AW hb0 Tryz.func114 rfl rfl ?_
 cases h
 exact c0.gv
 refine AE (Ai rfl)<|AE (Ai rfl)<|AE (Bq 1 b0 rfl k0 rfl rfl p0)<|AE (AL rfl (q0 0 _ rfl))<|AE (Ai rfl)<|AE (FV.geq (i:=j0) (j:=a1) rfl rfl)<|Bv rfl rfl<|Aa<|AT rfl h (fun u0 h=>?_) (fun u0 h=>?_)
 refine Ac<|Af rfl<|Aa ?_
 have h:=thn_inl h g0
 refine Al rfl<|AW hb0 Tryz.func114 rfl rfl ?_
 cases h
 exact c0.gv
 refine Au<|AC<|Av<|Ae rfl<|Ab (Bw (i:=b0) (j:=1) rfl rfl (by omega))<|Af rfl<|Aa<|y0 (b0 + 1) c0 z0 h
 refine Bd rfl ?_
 have h:=thn_inr h g0
 try dsimp only at h
 refine Ac<|Ae rfl<|Ab (Be (xs:=a0) Tryz.underlying46 rfl d0)<|Ab (FV.geqN (i:=a0.length) (j:=1) rfl rfl)<|Ae rfl<|BD (s:=28) rfl h (fun v0 h=>?_) (fun v0 h=>?_)
 refine AE (Ai rfl)<|AE (Be (xs:=a0) Tryz.underlying46 rfl d0)<|AE (FV.leqN (i:=a0.length) (j:=64) rfl rfl)<|Bh rfl rfl<|Af rfl<|Aa<|Al rfl<|AW hb0 Tryz.func114 rfl rfl ?_
 cases h
 exact c0.gv
 refine Ap<|Ap<|Ap<|Bv rfl rfl<|Af rfl<|Aa<|Al rfl<|AW hb0 Tryz.func114 rfl rfl ?_
 cases h
 exact c0.gv
def bq_l1 (_n:Nat) (a0:List Int) (q0:Int × Nat × (List Int) × (List Int) -> Option (List Int)):Int × Nat × (List Int) × (List Int) -> Option (List Int)
  | (g0,b0,k0,d0)=>(if b0 < a0.length then (a0[b0]?).bind fun c0=>(idx d0 c0).bind fun t0=>jn (fun (y0,p0)=>(idx p0 c0).bind fun u0=>(app k0 ([u0]:List Int)).bind fun v0=>q0 (y0,b0 + 1,v0,p0)) (fun j0=>(if t0 < 0 then (put d0 ((c0.toNat:Nat):Int) g0).bind fun x0=>(chk (g0 + 1)).bind fun s0=>j0 (s0,x0) else j0 (g0,d0))) else some k0)
def bq_p (n:Nat) (a0:List Int):Option ((List Int) × Int):=
  (ba_p n a0 (8:Int)).bind fun y1=>(if y1 = true then Option.bind (loopF (bq_l1 n a0) n (0,0,([]:List Int),([(-1:Int),(-1:Int),(-1:Int),(-1:Int),(-1:Int),(-1:Int),(-1:Int),(-1:Int)]:List Int))) (fun b0=>some (b0,(0:Int))) else some (([]:List Int),(210:Int)))
theorem bq_c (n:Nat) {L w} (hL:hl L w) {a0:List Int} {v0_0:Value} (h0_0:Rep.R w L [v0_0] a0)  {r:(List Int) × Int} (h:bq_p n a0 = some r) :
 Cl 74 #[v0_0] w (Gives w fun w' u=>∃ v0_0:Value,u = .tuple #[v0_0,vI r.2]/\Rep.R w' L [v0_0] r.1):=by
 unfold bq_p at h
 have hS0:=Az w
 refine AD Tryz.func74 rfl rfl rfl fun _ cs0 hb0=>Ac<|Af rfl<|Af rfl<|Aa<|Aj<|Ac<|Ae rfl<|bk h fun y1 hy1 h=>Ba (.bool y1) (bd 114) rfl (e2 rfl rfl) (fun p q=>ba_c n (hS0.hL0 hL q) (hS0.kd h0_0 q) hy1) rfl<|Ab (Bp rfl)<|Aa<|BU rfl h (fun c2 h=>?_) (fun c2 h=>?_)
 refine Au<|Ac<|Ak .plain rfl (AK (α:=Int) (xs:=([(-1:Int),(-1:Int),(-1:Int),(-1:Int),(-1:Int),(-1:Int),(-1:Int),(-1:Int)]:List Int)) (vs:=[vI (-1),vI (-1),vI (-1),vI (-1),vI (-1),vI (-1),vI (-1),vI (-1)]) (ds' :=[vI (-1),vI (-1),vI (-1),vI (-1),vI (-1),vI (-1),vI (-1),vI (-1)]) rfl hS0 el45 rfl (e8 rfl rfl rfl rfl rfl rfl rfl rfl) (by kernel_rfl) rfl) fun g3 v0 B0 Z2=>Af rfl<|Aa<|Ac<|Af rfl<|Aa<|Ac<|Af rfl<|Aa<|Aj<|Ac<|Af rfl<|Aa<|AA ?_
 have K0:=B0.nilRow 3 (Rep.size Int)
 obtain ⟨d3,p2,Z1⟩:=bind_in2 h
 refine MX.lf (α:=Int × Nat × (List Int) × (List Int) × Value × (List Value) × (List Value)) (fun ⟨u0,b0,d0,j0,c0,g0,k0⟩=>[(0,v0_0),(4,(vS v0 8)),(5,vI u0),(6,c0),(7,vI ((b0:Nat):Int))]) (fun ⟨u0,b0,d0,j0,c0,g0,k0⟩=>[rr w 3 Int c0 d0.length g0,rr w 3 Int (vS v0 8) j0.length k0]) (fun ⟨u0,b0,d0,j0,c0,g0,k0⟩ I0=>Cells I0 (bl [rr w 3 Int c0 d0.length g0,rr w 3 Int (vS v0 8) j0.length k0] ++ L) g0 d0/\Cells I0 (bl [rr w 3 Int c0 d0.length g0,rr w 3 Int (vS v0 8) j0.length k0] ++ L) k0 j0) (fun ⟨u0,b0,d0,j0,c0,g0,k0⟩=>(u0,b0,d0,j0)) (0,0,([]:List Int),([(-1:Int),(-1:Int),(-1:Int),(-1:Int),(-1:Int),(-1:Int),(-1:Int),(-1:Int)]:List Int),vN,[],[vI (-1),vI (-1),vI (-1),vI (-1),vI (-1),vI (-1),vI (-1),vI (-1)]) p2 K0 ⟨(AB (cs:=[]) (xs:=([]:List Int)) K0 L (AJ _ _)),(Aw (AB (cs:=[vI (-1),vI (-1),vI (-1),vI (-1),vI (-1),vI (-1),vI (-1),vI (-1)]) (xs:=(([(-1:Int),(-1:Int),(-1:Int),(-1:Int),(-1:Int),(-1:Int),(-1:Int),(-1:Int)]:List Int):List Int)) B0 L (Ar (cs:=[vI (-1)]) (ds:=[vI (-1),vI (-1),vI (-1),vI (-1),vI (-1),vI (-1),vI (-1)]) rfl (Ar (cs:=[vI (-1)]) (ds:=[vI (-1),vI (-1),vI (-1),vI (-1),vI (-1),vI (-1)]) rfl (Ar (cs:=[vI (-1)]) (ds:=[vI (-1),vI (-1),vI (-1),vI (-1),vI (-1)]) rfl (Ar (cs:=[vI (-1)]) (ds:=[vI (-1),vI (-1),vI (-1),vI (-1)]) rfl (Ar (cs:=[vI (-1)]) (ds:=[vI (-1),vI (-1),vI (-1)]) rfl (Ar (cs:=[vI (-1)]) (ds:=[vI (-1),vI (-1)]) rfl (Ar (cs:=[vI (-1)]) (ds:=[vI (-1)]) rfl (Ar (cs:=[vI (-1)]) (ds:=[]) rfl (AJ _ _)))))))))) (St.nilRowT B0 3 (Rep.size Int)))⟩ ?_
 rintro M2 ⟨u0,b0,d0,j0,c0,g0,k0⟩ I0 F1 p0 J1 ⟨R0,E0⟩ h
 unfold bq_l1 at h
 try dsimp only at h
 refine Aj<|Ac<|Ae rfl<|Ae rfl ?_
 have H0:=AS h0_0 p0
 have c3:a0.length <= 281474976710656:=AY H0
 refine Ab (Be (xs:=a0) Tryz.underlying46 rfl H0)<|Ab (Bu (i:=b0) (j:=a0.length) rfl rfl)<|Aa<|AT rfl h (fun v1 h=>?_) (fun v1 h=>?_)
 refine Au<|Aj<|AA<|Aj<|Ac<|Ae rfl<|Ae rfl<|Ae rfl<|bk h fun y0 g1 h=>?_
 obtain ⟨J2,R2,V0,Y0,z1,q2,b1⟩:=Br H0 g1
 have R1:z1 = [vI y0]:=q2; subst R1
 refine Ab (Bq 1 b0 rfl V0 rfl rfl Y0)<|AP rfl (b1 0 _ rfl)<|bk h fun k1 z2 h=>?_
 obtain ⟨X0,A2⟩:=idx_in z2
 obtain ⟨p1,U2,A0,G0,A1,s2,g2⟩:=St.nth (α:=Int) p0 .t1 E0 A2
 obtain ⟨s1,V2,W0⟩:=BR (α:=Int) p0 .t1 G0
 obtain rfl:p1 = ⟨s1,0,none⟩:=by rw [W0] at A0; cases A0; rfl
 have U1:A1 = [vI k1]:=s2; subst U1
 refine Ab (Bq 1 (y0.toNat) rfl A0 rfl X0 G0)<|AP rfl (g2 0 _ rfl)<|Ab (BS (i:=k1) (j:=0) rfl rfl)<|Aa<|MX.jf (α:=Int × (List Int) × (List Value)) (fun ⟨x0,q0,s0⟩=>[(0,v0_0),(4,(vS v0 8)),(5,vI x0),(6,c0),(7,vI ((b0:Nat):Int))]) (fun ⟨x0,q0,s0⟩=>[rr w 3 Int c0 d0.length g0,rr w 3 Int (vS v0 8) q0.length s0]) (fun ⟨x0,q0,s0⟩ j1=>Cells j1 (bl [rr w 3 Int c0 d0.length g0,rr w 3 Int (vS v0 8) q0.length s0] ++ L) s0 q0) (fun ⟨x0,q0,s0⟩=>(x0,q0)) p0 h ?_ ?_
 rintro ⟨x0,q0,s0⟩ j1 z0 M0 U0 h
 try dsimp only at h
 refine Av<|Ae rfl<|Ae rfl<|Ae rfl<|Ae rfl ?_
 obtain ⟨K2,W2,V1,d2,B1,t2,j2⟩:=Br (AS h0_0 z0) g1
 have W1:B1 = [vI y0]:=t2; subst W1
 refine Ab (Bq 1 b0 rfl V1 rfl rfl d2)<|AP rfl (j2 0 _ rfl)<|bk h fun t0 B2 h=>?_
 obtain ⟨b2,C2⟩:=idx_in B2
 obtain ⟨q1,X2,F0,Z0,C1,u2,k2⟩:=St.nth (α:=Int) z0 .t1 U0 C2
 obtain ⟨u1,Y2,X1⟩:=BR (α:=Int) z0 .t1 Z0
 obtain rfl:q1 = ⟨u1,0,none⟩:=by rw [X1] at F0; cases F0; rfl
 have Y1:C1 = [vI t0]:=u2; subst Y1
 refine Ab (Bq 1 (y0.toNat) rfl F0 rfl b2 Z0)<|AP rfl (k2 0 _ rfl)<|Ak .plain rfl (AK (α:=Int) (xs:=([t0]:List Int)) (vs:=[vI t0]) (ds' :=[vI t0]) rfl z0 el46 rfl (e1 rfl) (by kernel_rfl) rfl) fun j3 Q2 C0 P0=>bk h fun H2 D2 h=>RG.doesL .plain rfl (AZ (α:=Int) (ys:=([t0]:List Int)) D2 C0 (fun _ _=>.t1) el46 rfl rfl (Aw R0 (Tt M0 P0)) (Src.row (α:=Int) C0 .hd (AB (cs:=[vI t0]) (xs:=(([t0]:List Int):List Int)) C0 L (Ar (cs:=[vI t0]) (ds:=[]) rfl (AJ _ _))))) fun G2 k3 ⟨D1,G1,K1,P1⟩=>Af rfl<|Aa<|AC<|Av<|Ae rfl<|Ab (Bw (i:=b0) (j:=1) rfl rfl (by omega))<|Af rfl<|Aa ?_
 obtain ⟨H1,Q0⟩:=AG G1 .d1
 have c1:=Tt P0 (Tt K1 Q0)
 exact F1 (x0,b0 + 1,H2,q0,G2,D1,s0) H1 (Tt J1 (Tt M0 c1)) ⟨(Aw P1 Q0),(Aw U0 c1)⟩ h
 intro P2 J0 h
 try dsimp only at h
 refine AT rfl h (fun x1 h=>?_) (fun x1 h=>?_)
 refine Ac<|Ae rfl<|Ae rfl<|Ae rfl<|Ab (Bq 1 b0 rfl V0 rfl rfl Y0)<|AP rfl (b1 0 _ rfl)<|Ae rfl<|Ab (Bq 1 (y0.toNat) rfl A0 rfl X0 G0)<|bk h fun I2 E2 h=>RG.acts' .plain (Acts.set (α:=Int) (i:=y0.toNat) E2 p0 W0 (fun _=>.t1) E0 rfl rfl rfl rfl rfl (by kernel_rfl)) fun p3 ⟨E1,I1,M1,Q1⟩=>Aa<|Av<|Ae rfl<|bk h fun F2 y2 h=>Ab (BJ (i:=u0) (j:=1) rfl rfl y2)<|Af rfl<|Aa<|J0 (F2,I2,E1) I1 M1 Q1 h
 refine Au<|J0 (u0,j0,k0) p0 (By _ _) E0 h
 refine Bd rfl ?_
 have h:=Z1 _ h
 try dsimp only at h
 refine Ac<|Ae rfl<|Af rfl<|Af rfl<|Aa<|Al rfl ?_
 have D0:=Bz p0 .hd
 have b3:=BA p0 .hd
 have v2:=BB (α:=Int) (v:=c0) (xs:=d0) D0 L (Bj (α:=Int) p0 .hd R0 hL)
 refine Am hb0 Tryz.func74 rfl (.cons (.tmp rfl) (.cons (.tmp rfl) .nil)) rfl ?_
 cases h
 exact ⟨D0.ag,fun p q=>⟨c0,rfl,D0.kd v2 q⟩⟩
 refine Ac<|Af rfl<|Af rfl<|Aa<|Al rfl ?_
 have x2:=Rep.nilAt (α:=Int) hS0 L
 refine Am hb0 Tryz.func74 rfl (.cons (.tmp rfl) (.cons (.tmp rfl) .nil)) rfl ?_
 cases h
 exact ⟨hS0.ag,fun p q=>⟨vN,rfl,hS0.kd x2 q⟩⟩
def aj_l1 (_n:Nat) (c0:(List Int) × Int) (g0:Int × Nat -> Option Int):Int × Nat -> Option Int
  | (d0,b0)=>(if b0 < c0.1.length then (c0.1[b0]?).bind fun k0=>(chk (k0 + 1)).bind fun j0=>g0 (max d0 j0,b0 + 1) else some d0)
def aj_l2 (n:Nat) (a0:Tk) (d0:Int × (List Int) -> Option (List Int)):Int × (List Int) -> Option (List Int)
  | (b0,c0)=>(cg_p n a0).bind fun p0=>(if b0 < p0 then (bK_p n a0 b0).bind fun q0=>(remI q0 ((1 + ((a0.fK % (8:UInt8)).toNat):Nat):Int)).bind fun j0=>(app c0 ([j0]:List Int)).bind fun k0=>(chk (b0 + 1)).bind fun g0=>d0 (g0,k0) else some c0)
def aj_p (n:Nat) (a0:Tk):Option ((List Int) × Int):=
  Option.bind (loopF (aj_l2 n a0) n (0,([]:List Int))) (fun c0=>(bq_p n c0).bind fun b0=>Option.bind (loopF (aj_l1 n b0) n (0,0)) (fun d0=>some (b0.1,d0)))
theorem aj_c (n:Nat) {L w} (hL:hl L w) (a0:Tk) {v0_1:Value} (h0_1:Rep.R w L [v0_1] a0.fC) {v0_2:Value} (h0_2:Rep.R w L [v0_2] a0.fMore) {v0_3:Value} (h0_3:Rep.R w L [v0_3] a0.fLabels)  {r:(List Int) × Int} (h:aj_p n a0 = some r) :
 Cl 31 #[.agg #[.int .u8 (a0.fN.toNat:Int),v0_1,v0_2,v0_3,.int .u8 (a0.fK.toNat:Int)]] w (Gives w fun w' u=>∃ v0_0:Value,u = .tuple #[v0_0,vI r.2]/\Rep.R w' L [v0_0] r.1):=by
 unfold aj_p at h
 refine AD Tryz.func31 rfl rfl rfl fun _ cs0 hb0=>Ac<|RG.bx (Az w) rfl rfl fun u2 x0 C0 d2=>Af rfl<|Af rfl<|Aa<|Ac<|Af rfl<|Aa<|Aj<|Ac<|Af rfl<|Aa<|AA ?_
 have D0:=C0.nilRow 3 (Rep.size Int)
 have g2:=St.nilRowT C0 3 (Rep.size Int)
 obtain ⟨q2,C1,y1⟩:=bind_in2 h
 refine MX.lf (α:=Int × (List Int) × Value × (List Value)) (fun ⟨q0,j0,p0,s0⟩=>[(1,vP x0),(4,p0),(5,vI q0)]) (fun ⟨q0,j0,p0,s0⟩=>[rr w 3 Int p0 j0.length s0,.cells x0 [.int .u8 (a0.fN.toNat:Int),v0_1,v0_2,v0_3,.int .u8 (a0.fK.toNat:Int)] 25]) (fun ⟨q0,j0,p0,s0⟩ K0=>Cells K0 (bl [rr w 3 Int p0 j0.length s0,.cells x0 [.int .u8 (a0.fN.toNat:Int),v0_1,v0_2,v0_3,.int .u8 (a0.fK.toNat:Int)] 25] ++ L) s0 j0) (fun ⟨q0,j0,p0,s0⟩=>(q0,j0)) (0,([]:List Int),vN,[]) C1 D0 (AB (cs:=[]) (xs:=([]:List Int)) D0 L (AJ _ _)) ?_
 rintro X1 ⟨q0,j0,p0,s0⟩ K0 Y0 c0 p1 H0 h
 unfold aj_l2 at h
 try dsimp only at h
 refine Aj<|Ac<|Ae rfl<|Ab (AH rfl (c0.memA .t1))<|bk h fun P0 M1 h=>Ba (vI P0) (bd 72) rfl (e1 rfl) (fun p q=>cg_c n (c0.hL0 hL q) a0 (c0.k0 h0_1 q) (c0.k0 h0_2 q) (c0.k0 h0_3 q) M1) rfl<|Ab (BS (i:=q0) (j:=P0) rfl rfl)<|Aa<|AT rfl h (fun U0 h=>?_) (fun U0 h=>?_)
 refine Au<|Aj<|AA<|du 11 fun b0 d0=>Rv 0 b0 rfl d0 (fun _=>Ai rfl)<|Rx 1 7688 b0 rfl d0 (AH rfl (c0.memA .t1))<|Rv 2 b0 rfl d0 (fun _=>Ai rfl)<|bk h fun Q0 P1 h=>BO 3 15 7680 (vI Q0) b0 rfl d0 (bd 73) rfl (e2 rfl rfl) (fun p q=>bK_c n (c0.hL0 hL q) a0 (c0.k0 h0_1 q) (c0.k0 h0_2 q) (c0.k0 h0_3 q) P1) rfl<|Rv 4 b0 rfl d0 (fun _=>Bb 4 rfl)<|Rx 5 8128 b0 rfl d0 (AL rfl ((c0.memA .t1) 4 _ rfl))<|Rv 6 b0 rfl d0 (fun _=>FV.rem8 (a:=a0.fK) (b:=(8:UInt8)) rfl rfl (by decide)) ?_
 have k2:=(a0.fK % (8:UInt8)).toNat_lt
 refine Rv 7 b0 rfl d0 (fun _=>FV.convN (i:=(a0.fK % (8:UInt8)).toNat) Tryz.underlying5 Tryz.underlying3 rfl (by omega))<|Rv 8 b0 rfl d0 (fun _=>Bw (i:=1) (j:=(a0.fK % (8:UInt8)).toNat) rfl rfl (by omega))<|bk h fun t0 H1 h=>Rv 9 b0 rfl d0 (fun _=>FV.remc (i:=Q0) (j:=((1 + ((a0.fK % (8:UInt8)).toNat):Nat):Int)) rfl rfl H1)<|BN 10 2047 b0 rfl .plain rfl (AK (α:=Int) (xs:=([t0]:List Int)) (vs:=[vI t0]) (ds' :=[vI t0]) rfl c0 el46 rfl (e1 rfl) (by kernel_rfl) rfl) fun x2 Y1 y0 E0=>bk h fun U1 J1 h=>Bf (i:=11) (rk b0) (Bx (m' :=4095) (sk b0) rfl rfl .plain rfl (AZ (α:=Int) (ys:=([t0]:List Int)) J1 y0 (fun _ _=>.t1) el46 rfl rfl (Aw H0 E0) (Src.row (α:=Int) y0 .hd (AB (cs:=[vI t0]) (xs:=(([t0]:List Int):List Int)) y0 L (Ar (cs:=[vI t0]) (ds:=[]) rfl (AJ _ _))))) (fun R1 t2 ⟨V0,Z0,j1,s1⟩=>?_))
 refine Bf (i:=12) (rk b0) (Bs (m' :=8191) (sk b0) rfl .plain rfl (AV rfl) ?_)
 refine AN (dk b0)<|AC<|Av<|Ae rfl<|bk h fun Q1 F1 h=>Ab (BJ (i:=q0) (j:=1) rfl rfl F1)<|Af rfl<|Aa ?_
 obtain ⟨b1,F0⟩:=AG Z0 .d1
 exact Y0 (Q1,U1,R1,V0) b1 (Tt p1 (Tt E0 (Tt j1 F0))) (Aw s1 F0) h
 refine Bd rfl ?_
 have h:=y1 _ h
 try dsimp only at h
 refine Ac<|Ae rfl ?_
 have z0:=Bz c0 .hd
 have b2:=BA c0 .hd
 refine bk h fun B0 K1 h=>AX (fst:=[]) (cap:=[]) .plain (bd 74) rfl (e1 rfl) (fun p q=>bq_c n (z0.hL hL q) (Aq (BB (α:=Int) (v:=p0) (xs:=j0) z0 L (Bj (α:=Int) c0 .hd H0 hL)) q) K1) rfl fun v2 s2 q1 ⟨J0,hu_,D1⟩=>?_
 subst hu_
 obtain ⟨c1,c2⟩:=z0.agr q1
 refine Ae rfl<|Ab (Ag rfl rfl)<|Ab (Ag rfl rfl)<|Af rfl<|Aa<|Ac<|Af rfl<|Aa<|Aj<|Ac<|Af rfl<|Aa<|AA ?_
 obtain ⟨g1,k1⟩:=AG c1 .done
 obtain ⟨p2,B1,x1⟩:=bind_in2 h
 refine MX.lo (α:=Int × Nat) (fun ⟨u0,g0⟩=>[(4,J0),(6,vI u0),(7,vI ((g0:Nat):Int))]) (fun ⟨u0,g0⟩=>[]) (fun ⟨u0,g0⟩=>(u0,g0)) (0,0) B1 g1 ?_
 rintro W1 ⟨u0,g0⟩ y2 X0 A0 G0 h
 unfold aj_l1 at h
 try dsimp only at h
 refine Aj<|Ac<|Ae rfl<|Ae rfl ?_
 have v0:=Ao D1 (Tt k1 G0)
 have j2:B0.1.length <= 281474976710656:=AY v0
 refine Ab (Be (xs:=B0.1) Tryz.underlying46 rfl v0)<|Ab (Bu (i:=g0) (j:=B0.1.length) rfl rfl)<|Aa<|AT rfl h (fun R0 h=>?_) (fun R0 h=>?_)
 refine Au<|Aj<|AA<|Av<|Ae rfl<|Ae rfl<|Ae rfl<|bk h fun M0 I1 h=>?_
 obtain ⟨V1,Z1,u1,z1,W0,E1,A1⟩:=Br v0 I1
 have v1:W0 = [vI M0]:=E1; subst v1
 refine Ab (Bq 1 g0 rfl u1 rfl rfl z1)<|AP rfl (A1 0 _ rfl)<|bk h fun I0 G1 h=>Ab (BJ (i:=M0) (j:=1) rfl rfl G1)<|Ab (FV.max2 (i:=u0) (j:=I0) rfl rfl)<|Af rfl<|Aa<|AC<|Av<|Ae rfl<|Ab (Bw (i:=g0) (j:=1) rfl rfl (by omega))<|Af rfl<|Aa<|X0 (max u0 I0,g0 + 1) A0 G0 h
 refine Bd rfl ?_
 have h:=x1 _ h
 try dsimp only at h
 refine Ac<|Ae rfl<|Ae rfl<|Af rfl<|Af rfl<|Aa<|Al rfl<|Am hb0 Tryz.func31 rfl (.cons (.tmp rfl) (.cons (.tmp rfl) .nil)) rfl ?_
 cases h
 exact ⟨A0.ag,fun p q=>⟨J0,rfl,A0.kd v0 q⟩⟩
structure Tj where
  fe:UInt8
  fh:UInt8
  fj:UInt8
  fu:UInt8
  fNums:List UInt8
  deriving DecidableEq
instance:Rep Tj:=Rep.via (β:=UInt8 × UInt8 × UInt8 × UInt8 × (List UInt8)) fun x=>(x.fe,x.fh,x.fj,x.fu,x.fNums)
def aW_p (_n:Nat) (a0:Tj) (a1:Int):Option Int:=
  (if a0.fNums.length = 0 then some (1:Int) else (remI a1 ((a0.fNums.length:Nat):Int)).bind fun b0=>(idx a0.fNums b0).bind fun c0=>some ((c0.toNat:Nat):Int))
theorem aW_c (n:Nat) {L w} (_hL:hl L w) (a0:Tj) {v0_4:Value} (h0_4:Rep.R w L [v0_4] a0.fNums) {a1:Int}  {r:Int} (h:aW_p n a0 a1 = some r) :
 Cl 75 #[.agg #[.int .u8 (a0.fe.toNat:Int),.int .u8 (a0.fh.toNat:Int),.int .u8 (a0.fj.toNat:Int),.int .u8 (a0.fu.toNat:Int),v0_4],vI a1] w (Gives w fun _ u=>u = vI r):=by
 unfold aW_p at h
 refine AD Tryz.func75 rfl rfl rfl fun _ cs0 hb0=>Ac<|RG.bx (Az w) rfl rfl fun I0 D0 d0 F0=>Af rfl<|Aa<|Aj<|Ac<|AR 4 rfl<|AP rfl ((d0.memA .hd) 4 _ rfl) ?_
 have g0:=AS h0_4 d0
 have G0:a0.fNums.length <= 281474976710656:=AY g0
 refine Ab (Be (xs:=a0.fNums) Tryz.underlying22 rfl g0)<|Ab (BT (i:=a0.fNums.length) (j:=0) rfl rfl)<|Aa<|AT rfl h (fun k0 h=>?_) (fun k0 h=>?_)
 refine Ac<|Af rfl<|Aa<|Al rfl<|AW hb0 Tryz.func75 rfl rfl ?_
 cases h
 exact d0.gv
 refine Au<|Aj<|du 11 fun b0 c0=>Rv 0 b0 rfl c0 (fun _=>Bb 4 rfl)<|Rx 1 1920 b0 rfl c0 (AL rfl ((d0.memA .hd) 4 _ rfl))<|Rv 2 b0 rfl c0 (fun _=>Ai rfl)<|Rv 3 b0 rfl c0 (fun _=>Bb 4 rfl)<|Rx 4 2016 b0 rfl c0 (AL rfl ((d0.memA .hd) 4 _ rfl))<|Rx 5 1984 b0 rfl c0 (Be (xs:=a0.fNums) Tryz.underlying22 rfl g0)<|bk h fun B0 y0 h=>Rv 6 b0 rfl c0 (fun _=>FV.remc (i:=a1) (j:=((a0.fNums.length:Nat):Int)) rfl rfl y0)<|bk h fun j0 z0 h=>?_
 obtain ⟨t0,A0⟩:=idx_in z0
 obtain ⟨C0,E0,q0,u0,p0,x0,v0⟩:=Br g0 A0
 have s0:p0 = [.int .u8 (j0.toNat:Int)]:=x0; subst s0
 refine Rv 7 b0 rfl c0 (fun _=>Bq 1 (B0.toNat) rfl q0 rfl t0 u0)<|Rx 8 1536 b0 rfl c0 (AL rfl (v0 0 _ rfl)) ?_
 have H0:=j0.toNat_lt
 refine Rv 9 b0 rfl c0 (fun _=>FV.convN (i:=j0.toNat) Tryz.underlying5 Tryz.underlying3 rfl (by omega))<|Rv 10 b0 rfl c0 (fun _=>AV rfl)<|AN (dk b0)<|Al rfl<|AW hb0 Tryz.func75 rfl rfl ?_
 cases h
 exact d0.gv
def aA_l1 (n:Nat) (a1:Int) (a2:Int) (a0:Tj) (a3:Int) (d0:Int × (List Int) -> Option (List Int)):Int × (List Int) -> Option (List Int)
  | (b0,c0)=>(if b0 < a1 then (chk (a2 + b0)).bind fun j0=>(aW_p n a0 j0).bind fun p0=>(app c0 ([min p0 a3]:List Int)).bind fun k0=>(chk (b0 + 1)).bind fun g0=>d0 (g0,k0) else some c0)
def aA_p (n:Nat) (a0:Tj) (a1:Int) (a2:Int) (a3:Int):Option (List Int):=
  Option.bind (loopF (aA_l1 n a1 a2 a0 a3) n (0,([]:List Int))) (fun b0=>some b0)
theorem aA_c (n:Nat) {L w} (hL:hl L w) (a0:Tj) {v0_4:Value} (h0_4:Rep.R w L [v0_4] a0.fNums) {a1:Int} {a2:Int} {a3:Int}  {r:List Int} (h:aA_p n a0 a1 a2 a3 = some r) :
 Cl 76 #[.agg #[.int .u8 (a0.fe.toNat:Int),.int .u8 (a0.fh.toNat:Int),.int .u8 (a0.fj.toNat:Int),.int .u8 (a0.fu.toNat:Int),v0_4],vI a1,vI a2,vI a3] w (Gives w fun w' u=>∃ v0_0:Value,u = v0_0/\Rep.R w' L [v0_0] r):=by
 unfold aA_p at h
 refine AD Tryz.func76 rfl rfl rfl fun _ cs0 hb0=>Ac<|RG.bx (Az w) rfl rfl fun p1 q0 u0 c1=>Af rfl<|Aa<|Ac<|Af rfl<|Aa<|Aj<|Ac<|Af rfl<|Aa<|AA ?_
 have v0:=u0.nilRow 3 (Rep.size Int)
 have g1:=St.nilRowT u0 3 (Rep.size Int)
 obtain ⟨j1,K0,J0⟩:=bind_in2 h
 refine MX.lf (α:=Int × (List Int) × Value × (List Value)) (fun ⟨g0,c0,b0,j0⟩=>[(1,vI a1),(2,vI a2),(3,vI a3),(4,vP q0),(9,b0),(10,vI g0)]) (fun ⟨g0,c0,b0,j0⟩=>[rr w 3 Int b0 c0.length j0,.cells q0 [.int .u8 (a0.fe.toNat:Int),.int .u8 (a0.fh.toNat:Int),.int .u8 (a0.fj.toNat:Int),.int .u8 (a0.fu.toNat:Int),v0_4] 27]) (fun ⟨g0,c0,b0,j0⟩ A0=>Cells A0 (bl [rr w 3 Int b0 c0.length j0,.cells q0 [.int .u8 (a0.fe.toNat:Int),.int .u8 (a0.fh.toNat:Int),.int .u8 (a0.fj.toNat:Int),.int .u8 (a0.fu.toNat:Int),v0_4] 27] ++ L) j0 c0) (fun ⟨g0,c0,b0,j0⟩=>(g0,c0)) (0,([]:List Int),vN,[]) K0 v0 (AB (cs:=[]) (xs:=([]:List Int)) v0 L (AJ _ _)) ?_
 rintro Y0 ⟨g0,c0,b0,j0⟩ A0 D0 p0 G0 z0 h
 unfold aA_l1 at h
 try dsimp only at h
 refine Aj<|Ac<|Ae rfl<|Ae rfl<|Ab (BS (i:=g0) (j:=a1) rfl rfl)<|Aa<|AT rfl h (fun B0 h=>?_) (fun B0 h=>?_)
 refine Au<|Aj<|AA<|Av<|Ae rfl<|Ab (AH rfl (p0.memA .t1))<|Ae rfl<|Ae rfl<|bk h fun k1 Q0 h=>Ab (BJ (i:=a2) (j:=g0) rfl rfl Q0)<|bk h fun d0 U0 h=>Ba (vI d0) (bd 75) rfl (e2 rfl rfl) (fun p q=>aW_c n (p0.hL0 hL q) a0 (p0.k0 h0_4 q) U0) rfl<|Ae rfl<|Ab (FV.min2 (i:=d0) (j:=a3) rfl rfl)<|Ak .plain rfl (AK (α:=Int) (xs:=([min d0 a3]:List Int)) (vs:=[vI (min d0 a3)]) (ds' :=[vI (min d0 a3)]) rfl p0 el45 rfl (e1 rfl) (by kernel_rfl) rfl) fun q1 Z0 t0 y0=>bk h fun X0 R0 h=>RG.doesL .plain rfl (AZ (α:=Int) (ys:=([min d0 a3]:List Int)) R0 t0 (fun _ _=>.t1) el45 rfl rfl (Aw z0 y0) (Src.row (α:=Int) t0 .hd (AB (cs:=[vI (min d0 a3)]) (xs:=(([min d0 a3]:List Int):List Int)) t0 L (Ar (cs:=[vI (min d0 a3)]) (ds:=[]) rfl (AJ _ _))))) fun W0 s1 ⟨C0,F0,H0,I0⟩=>Af rfl<|Aa<|AC<|Av<|Ae rfl<|bk h fun V0 P0 h=>Ab (BJ (i:=g0) (j:=1) rfl rfl P0)<|Af rfl<|Aa ?_
 obtain ⟨E0,x0⟩:=AG F0 .d1
 exact D0 (V0,X0,W0,C0) E0 (Tt G0 (Tt y0 (Tt H0 x0))) (Aw I0 x0) h
 refine Bd rfl ?_
 have h:=J0 _ h
 try dsimp only at h
 refine Ac<|Ae rfl<|Af rfl<|Aa<|Al rfl ?_
 have s0:=Bz p0 .hd
 have b1:=BA p0 .hd
 have M0:=BB (α:=Int) (v:=b0) (xs:=c0) s0 L (Bj (α:=Int) p0 .hd z0 hL)
 refine AW hb0 Tryz.func76 rfl rfl ?_
 cases h
 exact ⟨s0.ag,fun p q=>⟨b0,rfl,s0.kd M0 q⟩⟩
end Go.Proofs.YtgejkdheojkfiaaGreatDoor
/- Functions of the program, and what they give: part 6. -/
namespace Go.Proofs.YtgejkdheojkfiaaGreatDoor
open Go Go.RowKit
set_option maxRecDepth 4000
set_option maxHeartbeats 4000000

theorem el22:ElT Tryz.prog 22 5 (Rep.size UInt8) 1 (.int .u8 0) [.int .u8 0]:=⟨Tryz.underlying22,by kernel_rfl,rfl,rfl,rfl,rfl⟩
def ac_l1 (n:Nat) (a0:Tj) (t0:Int) (d0:Nat × (List Int) -> Option (List Int)):Nat × (List Int) -> Option (List Int)
  | (b0,c0)=>(if b0 < ((a0.fj % (3:UInt8)).toNat) then (chk (9 * t0)).bind fun g0=>(chk (g0 + 7)).bind fun j0=>(chk (j0 + ((b0:Nat):Int))).bind fun k0=>(aW_p n a0 k0).bind fun s0=>(remI s0 3).bind fun p0=>(app c0 ([p0]:List Int)).bind fun q0=>d0 (b0 + 1,q0) else some c0)
def ac_l2 (_n:Nat) (a0:Tj) (d0:Nat × (List Tb) -> Option (List Tb)):Nat × (List Tb) -> Option (List Tb)
  | (b0,c0)=>(if b0 < ((a0.fu % (2:UInt8)).toNat) then (mk (((a0.fe % (3:UInt8)).toNat:Nat):Int) (0:Int)).bind fun g0=>(mk (((a0.fh % (4:UInt8)).toNat:Nat):Int) (0:Int)).bind fun j0=>(mk (((a0.fj % (3:UInt8)).toNat:Nat):Int) (0:Int)).bind fun k0=>(app c0 ([(⟨⟨#[115,101,97]⟩,(0:Int),g0,j0,k0,true⟩:Tb)]:List Tb)).bind fun p0=>d0 (b0 + 1,p0) else some c0)
def ac_l3 (n:Nat) (a1:Int) (a0:Tj) (g0:Int × (List Tb) -> Option (List Tb)):Int × (List Tb) -> Option (List Tb)
  | (b0,c0)=>(if b0 < a1 then (remI b0 26).bind fun j0=>(chk (97 + j0)).bind fun k0=>(quoI b0 26).bind fun p0=>(remI p0 26).bind fun q0=>(chk (97 + q0)).bind fun s0=>(chk (9 * b0)).bind fun t0=>(aW_p n a0 t0).bind fun d0=>(sadd ⟨#[117]⟩ (bstr ([u8ofI k0,u8ofI s0]:List UInt8))).bind fun u0=>(chk (9 * b0)).bind fun v0=>(chk (v0 + 1)).bind fun x0=>(aA_p n a0 (((a0.fe % (3:UInt8)).toNat:Nat):Int) x0 d0).bind fun D0=>(chk (9 * b0)).bind fun y0=>(chk (y0 + 3)).bind fun z0=>(aA_p n a0 (((a0.fh % (4:UInt8)).toNat:Nat):Int) z0 (255:Int)).bind fun E0=>Option.bind (loopF (ac_l1 n a0 b0) n (0,([]:List Int))) (fun B0=>(app c0 ([(⟨u0,d0,D0,E0,B0,false⟩:Tb)]:List Tb)).bind fun C0=>(chk (b0 + 1)).bind fun A0=>g0 (A0,C0)) else some c0)
def ac_p (n:Nat) (a0:Tj) (a1:Int):Option Td:=
  Option.bind (loopF (ac_l3 n a1 a0) n (0,([]:List Tb))) (fun c0=>Option.bind (loopF (ac_l2 n a0) n (0,c0)) (fun b0=>some (⟨(((a0.fe % (3:UInt8)).toNat:Nat):Int),(((a0.fh % (4:UInt8)).toNat:Nat):Int),(((a0.fj % (3:UInt8)).toNat:Nat):Int),b0⟩:Td)))
theorem ac_c (n:Nat) {L w} (hL:hl L w) (a0:Tj) {v0_4:Value} (h0_4:Rep.R w L [v0_4] a0.fNums) {a1:Int}  {r:Td} (h:ac_p n a0 a1 = some r) :
 Cl 32 #[.agg #[.int .u8 (a0.fe.toNat:Int),.int .u8 (a0.fh.toNat:Int),.int .u8 (a0.fj.toNat:Int),.int .u8 (a0.fu.toNat:Int),v0_4],vI a1] w (Gives w fun w' u=>∃ v0_3:Value,u = .agg #[vI r.fe,vI r.fh,vI r.fj,v0_3]/\Rep.R w' L [v0_3] r.fo):=by
 unfold ac_p at h
 refine AD Tryz.func32 rfl rfl rfl fun _ cs0 hb0=>Ac<|RG.bx (Az w) rfl rfl fun q8 u0 H4 J7=>RG.nl [vI 0,vI 0,vI 0,vN] H4 fun y8 v0 X1 K7=>Aa<|Ac<|AR 0 rfl<|AP rfl ((X1.memA .t1) 0 _ rfl)<|Ab (FV.rem8 (a:=a0.fe) (b:=(3:UInt8)) rfl rfl (by decide)) ?_
 have V7:=(a0.fe % (3:UInt8)).toNat_lt
 refine Ab (FV.convN (i:=(a0.fe % (3:UInt8)).toNat) Tryz.underlying5 Tryz.underlying3 rfl (by omega))<|AR 1 rfl<|AP rfl ((X1.memA .t1) 1 _ rfl)<|Ab (FV.rem8 (a:=a0.fh) (b:=(4:UInt8)) rfl rfl (by decide)) ?_
 have W7:=(a0.fh % (4:UInt8)).toNat_lt
 refine Ab (FV.convN (i:=(a0.fh % (4:UInt8)).toNat) Tryz.underlying5 Tryz.underlying3 rfl (by omega))<|AR 2 rfl<|AP rfl ((X1.memA .t1) 2 _ rfl)<|Ab (FV.rem8 (a:=a0.fj) (b:=(3:UInt8)) rfl rfl (by decide)) ?_
 have X7:=(a0.fj % (3:UInt8)).toNat_lt
 refine Ab (FV.convN (i:=(a0.fj % (3:UInt8)).toNat) Tryz.underlying5 Tryz.underlying3 rfl (by omega))<|Ab (AU (vs:=[vI (((a0.fe % (3:UInt8)).toNat:Nat):Int),vI (((a0.fh % (4:UInt8)).toNat:Nat):Int),vI (((a0.fj % (3:UInt8)).toNat:Nat):Int)]) (u:=.agg #[vI (((a0.fe % (3:UInt8)).toNat:Nat):Int),vI (((a0.fh % (4:UInt8)).toNat:Nat):Int),vI (((a0.fj % (3:UInt8)).toNat:Nat):Int),vN]) (e3 rfl rfl rfl) (fun p=>by kernel_rfl))<|RG.nl [vI 0,vI 0,vI 0,vN] X1 fun z8 x0 I4 M7=>AQ [vI (((a0.fe % (3:UInt8)).toNat:Nat):Int),vI (((a0.fh % (4:UInt8)).toNat:Nat):Int),vI (((a0.fj % (3:UInt8)).toNat:Nat):Int),vN] I4 .hd (onesB rfl) fun A8 g3 P7=>Aa<|Aj<|Ac<|Af rfl<|Aa<|AA ?_
 have A2:=g3.nilRow 101 (Rep.size Tb)
 have Q7:=St.nilRowT g3 101 (Rep.size Tb)
 have j3:=A2.nilRow 101 (Rep.size Tb)
 have R7:=AB (cs:=[]) (xs:=([]:List Tb)) j3 L (AJ _ _)
 obtain ⟨Z7,M5,I5⟩:=bind_in2 h
 refine MX.lf (α:=Int × (List Tb) × Value × (List Value)) (fun ⟨z0,X0,y0,Z0⟩=>[(1,vI a1),(2,vP u0),(4,vP v0),(5,vP x0),(6,vI z0)]) (fun ⟨z0,X0,y0,Z0⟩=>[rr w 101 Tb vN (([]:List Tb).length) [],rr w 101 Tb y0 X0.length Z0,.cells x0 [vI (((a0.fe % (3:UInt8)).toNat:Nat):Int),vI (((a0.fh % (4:UInt8)).toNat:Nat):Int),vI (((a0.fj % (3:UInt8)).toNat:Nat):Int),y0] 44,.cells v0 [vI 0,vI 0,vI 0,vN] 44,.cells u0 [.int .u8 (a0.fe.toNat:Int),.int .u8 (a0.fh.toNat:Int),.int .u8 (a0.fj.toNat:Int),.int .u8 (a0.fu.toNat:Int),v0_4] 27]) (fun ⟨z0,X0,y0,Z0⟩ c4=>Cells c4 (bl [rr w 101 Tb vN (([]:List Tb).length) [],rr w 101 Tb y0 X0.length Z0,.cells x0 [vI (((a0.fe % (3:UInt8)).toNat:Nat):Int),vI (((a0.fh % (4:UInt8)).toNat:Nat):Int),vI (((a0.fj % (3:UInt8)).toNat:Nat):Int),y0] 44,.cells v0 [vI 0,vI 0,vI 0,vN] 44,.cells u0 [.int .u8 (a0.fe.toNat:Int),.int .u8 (a0.fh.toNat:Int),.int .u8 (a0.fj.toNat:Int),.int .u8 (a0.fu.toNat:Int),v0_4] 27] ++ L) Z0 X0) (fun ⟨z0,X0,y0,Z0⟩=>(z0,X0)) (0,([]:List Tb),vN,[]) M5 j3 (Aw (AB (cs:=[]) (xs:=([]:List Tb)) A2 L (AJ _ _)) (St.nilRowT A2 101 (Rep.size Tb))) ?_
 rintro t7 ⟨z0,X0,y0,Z0⟩ c4 y4 I1 c5 E3 h
 unfold ac_l3 at h
 try dsimp only at h
 refine Aj<|Ac<|Ae rfl<|Ae rfl<|Ab (BS (i:=z0) (j:=a1) rfl rfl)<|Aa<|AT rfl h (fun p4 h=>?_) (fun p4 h=>?_)
 refine Au<|Aj<|AA<|Aj<|du 18 fun c0 q0=>Rv 0 c0 rfl q0 (fun _=>Ai rfl)<|bk h fun H6 R5 h=>Rv 1 c0 rfl q0 (fun _=>FV.remc (i:=z0) (j:=26) rfl rfl R5)<|bk h fun D0 U5 h=>Rv 2 c0 rfl q0 (fun _=>BJ (i:=97) (j:=H6) rfl rfl U5)<|Rv 3 c0 rfl q0 (fun _=>FV.convU8 (i:=D0) Tryz.underlying3 Tryz.underlying5 rfl)<|Rv 4 c0 rfl q0 (fun _=>Ai rfl)<|bk h fun I6 V5 h=>Rv 5 c0 rfl q0 (fun _=>FV.quoc (i:=z0) (j:=26) rfl rfl V5)<|bk h fun J6 W5 h=>Rv 6 c0 rfl q0 (fun _=>FV.remc (i:=I6) (j:=26) rfl rfl W5)<|bk h fun t0 X5 h=>Rv 7 c0 rfl q0 (fun _=>BJ (i:=97) (j:=J6) rfl rfl X5)<|Rv 8 c0 rfl q0 (fun _=>FV.convU8 (i:=t0) Tryz.underlying3 Tryz.underlying5 rfl)<|Rx 12 360448 c0 rfl q0 (AH rfl (I1.memA .t4))<|Rv 13 c0 rfl q0 (fun _=>Ai rfl)<|bk h fun c8 Y5 h=>Rv 14 c0 rfl q0 (fun _=>FV.mulc (i:=9) (j:=z0) rfl rfl Y5)<|bk h fun g0 D6 h=>BO 15 61951 327680 (vI g0) c0 rfl q0 (bd 75) rfl (e2 rfl rfl) (fun p q=>aW_c n (I1.hL0 hL q) a0 (I1.k0 h0_4 q) D6) rfl<|bk h fun j0 Z3 h=>RD.mo (α:=Nat) (fun G1=>[(1,vI a1),(2,vP u0),(4,vP v0),(5,vP x0),(6,vI z0),(44,.agg #[.string j0,vI g0,vN,vN,vN,.bool false]),(7,vP G1)]) (fun G1=>[.cells G1 [.string ⟨#[]⟩,vI 0,vN,vN,vN,.bool false] 101,rr w 101 Tb vN (([]:List Tb).length) [],rr w 101 Tb y0 X0.length Z0,.cells x0 [vI (((a0.fe % (3:UInt8)).toNat:Nat):Int),vI (((a0.fh % (4:UInt8)).toNat:Nat):Int),vI (((a0.fj % (3:UInt8)).toNat:Nat):Int),y0] 44,.cells v0 [vI 0,vI 0,vI 0,vN] 44,.cells u0 [.int .u8 (a0.fe.toNat:Int),.int .u8 (a0.fh.toNat:Int),.int .u8 (a0.fj.toNat:Int),.int .u8 (a0.fu.toNat:Int),v0_4] 27]) I1 1 262143 ?_ ?_
 rintro G1 P8 J4 d5
 try dsimp only
 refine BE 18 524287 c0 rfl rfl .plain (AF (news:=[.string j0,vI g0,vN,vN,vN,.bool false]) J4 .hd rfl rfl rfl rfl rfl rfl (onesB rfl)) fun B8 Q1 g5=>AN (dk c0)<|Ac<|Ab (AH rfl (Q1.memA .t5))<|AR 0 rfl<|AP rfl ((Q1.memA .t3) 0 _ rfl)<|Ae rfl<|bk h fun K6 Z5 h=>Ab (FV.mulc (i:=9) (j:=z0) rfl rfl Z5)<|bk h fun d8 b6 h=>Ab (BJ (i:=K6) (j:=1) rfl rfl b6)<|AR 1 rfl<|AP rfl ((Q1.memA .hd) 1 _ rfl)<|bk h fun s2 E6 h=>AX (fst:=[]) (cap:=[]) .plain (bd 76) rfl (e4 rfl rfl rfl rfl) (fun p q=>aA_c n (Q1.hL hL q) a0 (Q1.km h0_4 q) E6) rfl fun C8 W0 u5 ⟨k8,hu_,c2⟩=>?_
 subst hu_
 obtain ⟨K4,j5⟩:=Q1.agr u5
 refine AR 2 rfl<|RG.now .plain (BQ (j:=2) (old:=[.string j0,vI g0,vN,vN,vN,.bool false]) (news:=[W0]) (new' :=[.string j0,vI g0,W0,vN,vN,.bool false]) K4 .hd rfl rfl rfl (Rep.c1 c2) rfl rfl (o1 (AO c2)) rfl) fun D8 R1 v3=>Aa<|Ac<|Ab (AH rfl (R1.memA .t5))<|AR 1 rfl<|AP rfl ((R1.memA .t3) 1 _ rfl)<|Ae rfl<|bk h fun M6 c6 h=>Ab (FV.mulc (i:=9) (j:=z0) rfl rfl c6)<|bk h fun g8 d6 h=>Ab (BJ (i:=M6) (j:=3) rfl rfl d6)<|bk h fun u2 F6 h=>AX (fst:=[]) (cap:=[]) .plain (bd 76) rfl (e4 rfl rfl rfl rfl) (fun p q=>aA_c n (R1.hL hL q) a0 (R1.km h0_4 q) F6) rfl fun E8 z1 v5 ⟨p8,hu_,g2⟩=>?_
 subst hu_
 obtain ⟨M4,x3⟩:=R1.agr v5
 refine AR 3 rfl<|RG.now .plain (BQ (j:=3) (old:=[.string j0,vI g0,W0,vN,vN,.bool false]) (news:=[z1]) (new' :=[.string j0,vI g0,W0,z1,vN,.bool false]) M4 .hd rfl rfl rfl (Rep.c1 g2) rfl rfl (o1 (AO g2)) rfl) fun F8 k3 V2=>Aa<|Aj<|Ac<|Af rfl<|Aa<|AA ?_
 have p3:=k3.nilRow 3 (Rep.size Int)
 have W2:=St.nilRowT k3 3 (Rep.size Int)
 obtain ⟨b8,P5,J5⟩:=bind_in2 h
 refine MX.lf (α:=Nat × (List Int) × Value × (List Value)) (fun ⟨x1,R0,K0,H1⟩=>[(1,vI a1),(2,vP u0),(4,vP v0),(5,vP x0),(6,vI z0),(7,vP G1),(8,vI ((x1:Nat):Int))]) (fun ⟨x1,R0,K0,H1⟩=>[rr w 3 Int K0 R0.length H1,.cells G1 [.string j0,vI g0,W0,z1,K0,.bool false] 101,rr w 101 Tb vN (([]:List Tb).length) [],rr w 101 Tb y0 X0.length Z0,.cells x0 [vI (((a0.fe % (3:UInt8)).toNat:Nat):Int),vI (((a0.fh % (4:UInt8)).toNat:Nat):Int),vI (((a0.fj % (3:UInt8)).toNat:Nat):Int),y0] 44,.cells v0 [vI 0,vI 0,vI 0,vN] 44,.cells u0 [.int .u8 (a0.fe.toNat:Int),.int .u8 (a0.fh.toNat:Int),.int .u8 (a0.fj.toNat:Int),.int .u8 (a0.fu.toNat:Int),v0_4] 27]) (fun ⟨x1,R0,K0,H1⟩ d4=>Cells d4 (bl [rr w 3 Int K0 R0.length H1,.cells G1 [.string j0,vI g0,W0,z1,K0,.bool false] 101,rr w 101 Tb vN (([]:List Tb).length) [],rr w 101 Tb y0 X0.length Z0,.cells x0 [vI (((a0.fe % (3:UInt8)).toNat:Nat):Int),vI (((a0.fh % (4:UInt8)).toNat:Nat):Int),vI (((a0.fj % (3:UInt8)).toNat:Nat):Int),y0] 44,.cells v0 [vI 0,vI 0,vI 0,vN] 44,.cells u0 [.int .u8 (a0.fe.toNat:Int),.int .u8 (a0.fh.toNat:Int),.int .u8 (a0.fj.toNat:Int),.int .u8 (a0.fu.toNat:Int),v0_4] 27] ++ L) H1 R0) (fun ⟨x1,R0,K0,H1⟩=>(x1,R0)) (0,([]:List Int),vN,[]) P5 p3 (AB (cs:=[]) (xs:=([]:List Int)) p3 L (AJ _ _)) ?_
 rintro u7 ⟨x1,R0,K0,H1⟩ d4 z4 b1 Z1 F3 h
 unfold ac_l1 at h
 try dsimp only at h
 refine Aj<|Ac<|Ae rfl<|AR 2 rfl<|AP rfl ((b1.memA .t4) 2 _ rfl)<|Ab (Bu (i:=x1) (j:=(a0.fj % (3:UInt8)).toNat) rfl rfl)<|Aa<|AT rfl h (fun q4 h=>?_) (fun q4 h=>?_)
 refine Au<|Aj<|AA<|du 11 fun s0 y1=>Rv 0 s0 rfl y1 (fun _=>Bb 4 rfl)<|Rx 1 14336 s0 rfl y1 (AL rfl ((b1.memA .t1) 4 _ rfl))<|Rx 2 16128 s0 rfl y1 (AH rfl (b1.memA .t6))<|Rv 3 s0 rfl y1 (fun _=>Ai rfl)<|bk h fun P6 g6 h=>Rv 4 s0 rfl y1 (fun _=>FV.mulc (i:=9) (j:=z0) rfl rfl g6)<|bk h fun Q6 j6 h=>Rv 5 s0 rfl y1 (fun _=>BJ (i:=P6) (j:=7) rfl rfl j6)<|Rv 6 s0 rfl y1 (fun _=>Ai rfl)<|bk h fun j8 k6 h=>Rv 7 s0 rfl y1 (fun _=>BJ (i:=Q6) (j:=((x1:Nat):Int)) rfl rfl k6)<|bk h fun g4 G6 h=>BO 8 511 15872 (vI g4) s0 rfl y1 (bd 75) rfl (e2 rfl rfl) (fun p q=>aW_c n (b1.hL0 hL q) a0 (b1.k0 h0_4 q) G6) rfl<|bk h fun K1 p6 h=>Rv 9 s0 rfl y1 (fun _=>FV.remc (i:=g4) (j:=3) rfl rfl p6)<|BN 10 2047 s0 rfl .plain rfl (AK (α:=Int) (xs:=([K1]:List Int)) (vs:=[vI K1]) (ds' :=[vI K1]) rfl b1 el45 rfl (e1 rfl) (by kernel_rfl) rfl) fun G8 x7 C2 y3=>bk h fun X6 B6 h=>Bf (i:=11) (rk s0) (Bx (m' :=4095) (sk s0) rfl rfl .plain rfl (AZ (α:=Int) (ys:=([K1]:List Int)) B6 C2 (fun _ _=>.t1) el45 rfl rfl (Aw F3 y3) (Src.row (α:=Int) C2 .hd (AB (cs:=[vI K1]) (xs:=(([K1]:List Int):List Int)) C2 L (Ar (cs:=[vI K1]) (ds:=[]) rfl (AJ _ _))))) (fun Z2 H8 ⟨u4,D2,k5,C5⟩=>?_))
 refine Bf (i:=12) (rk s0) (Bs (m' :=8191) (sk s0) rfl .plain rfl (Bb 4 rfl) ?_)
 refine BE 13 16383 s0 rfl rfl .plain (BQ (j:=4) (old:=[.string j0,vI g0,W0,z1,K0,.bool false]) (news:=[Z2]) (new' :=[.string j0,vI g0,W0,z1,Z2,.bool false]) D2 .t2 rfl rfl rfl (St.c1 (α:=Int) D2 .t1) rfl rfl (o1 (St.o1 (α:=Int) D2 .t1)) rfl) fun I8 P4 z3=>AN (dk s0)<|AC<|Av<|Ae rfl<|Ab (Bw (i:=x1) (j:=1) rfl rfl (by omega))<|Af rfl<|Aa ?_
 obtain ⟨Q4,A3⟩:=AG P4 .d1
 exact z4 (x1 + 1,X6,Z2,u4) Q4 (Tt Z1 (Tt y3 (Tt k5 (Tt z3 A3)))) (Aw C5 (Tt z3 A3)) h
 refine Bd rfl ?_
 have h:=J5 _ h
 try dsimp only at h
 refine Av<|AR 3 rfl<|AP rfl ((b1.memA .t4) 3 _ rfl)<|Ab (AH rfl (b1.memA .t1)) ?_
 have q3:=Bz b1 .hd
 have X2:=BA b1 .hd
 have Y3:=BB (α:=Int) (v:=K0) (xs:=R0) q3 L (Bj (α:=Int) b1 .hd F3 hL)
 have Q3:=Tt v3 (Tt x3 (Tt V2 (Tt W2 (Tt Z1 X2))))
 have R3:=Tt V2 (Tt W2 (Tt Z1 X2))
 obtain ⟨k7,F7,x6,_⟩:=BV (Ao c2 Q3)
 obtain ⟨p7,G7,y6,_⟩:=BV (Ao g2 R3)
 obtain ⟨q7,H7,z6,_⟩:=BV Y3
 refine Ak .plain rfl (AK (α:=Tb) (xs:=([(⟨j0,g0,s2,u2,R0,false⟩:Tb)]:List Tb)) (vs:=[.agg #[.string j0,vI g0,W0,z1,K0,.bool false]]) (ds' :=[.string j0,vI g0,W0,z1,K0,.bool false]) rfl q3 el42 rfl (e1 rfl) (by rw [x6,y6,z6]; try kernel_rfl) rfl) fun J8 y7 E2 b2=>bk h fun Y6 C6 h=>?_
 have U3:=Tt d5 (Tt g5 (Tt j5 (Tt v3 (Tt x3 (Tt V2 (Tt W2 (Tt Z1 (Tt X2 b2))))))))
 refine RG.doesL .plain rfl (AZ (α:=Tb) (ys:=([(⟨j0,g0,s2,u2,R0,false⟩:Tb)]:List Tb)) C6 E2 (fun _ _=>.t3) el42 rfl rfl (Aw E3 U3) (Src.row (α:=Tb) E2 .hd (AB (cs:=[.string j0,vI g0,W0,z1,K0,.bool false]) (xs:=(([(⟨j0,g0,s2,u2,R0,false⟩:Tb)]:List Tb):List Tb)) E2 L (Ar (cs:=[.string j0,vI g0,W0,z1,K0,.bool false]) (ds:=[]) (mk_Tb j0 g0 s2 (Ao c2 (Tt Q3 b2)) u2 (Ao g2 (Tt R3 b2)) R0 (Ao Y3 b2) false) (AJ _ _))))) fun b3 K8 ⟨v4,F2,p5,D5⟩=>AR 3 rfl<|RG.now .plain (BQ (j:=3) (old:=[vI (((a0.fe % (3:UInt8)).toNat:Nat):Int),vI (((a0.fh % (4:UInt8)).toNat:Nat):Int),vI (((a0.fj % (3:UInt8)).toNat:Nat):Int),y0]) (news:=[b3]) (new' :=[vI (((a0.fe % (3:UInt8)).toNat:Nat):Int),vI (((a0.fh % (4:UInt8)).toNat:Nat):Int),vI (((a0.fj % (3:UInt8)).toNat:Nat):Int),b3]) F2 .t4 rfl rfl rfl (St.c1 (α:=Tb) F2 .t3) rfl rfl (o1 (St.o1 (α:=Tb) F2 .t3)) rfl) fun M8 R4 B3=>Aa<|AC<|Av<|Ae rfl<|bk h fun R6 q6 h=>Ab (BJ (i:=z0) (j:=1) rfl rfl q6)<|Af rfl<|Aa ?_
 obtain ⟨U4,C3⟩:=AG R4 .d2
 exact y4 (R6,Y6,b3,v4) U4 (Tt c5 (Tt U3 (Tt p5 (Tt B3 C3)))) (Aw D5 (Tt B3 C3)) h
 intro c3
 refine Bm [9,17] (rk c0) ⟨?_,?_,trivial⟩
 refine BC (m' :=62463) (sk c0) rfl .plain rfl (AK (α:=UInt8) (xs:=([u8ofI D0,u8ofI t0]:List UInt8)) (vs:=[.int .u8 ((u8ofI D0).toNat:Int),.int .u8 ((u8ofI t0).toNat:Int)]) (ds' :=[.int .u8 ((u8ofI D0).toNat:Int),.int .u8 ((u8ofI t0).toNat:Int)]) rfl I1 el22 rfl (e2 rfl rfl) (by kernel_rfl) rfl) fun U6 j4 J1 R2=>?_
 have B5:=AB (cs:=[.int .u8 ((u8ofI D0).toNat:Int),.int .u8 ((u8ofI t0).toNat:Int)]) (xs:=(([u8ofI D0,u8ofI t0]:List UInt8):List UInt8)) J1 L (Ar (cs:=[.int .u8 ((u8ofI D0).toNat:Int)]) (ds:=[.int .u8 ((u8ofI t0).toNat:Int)]) rfl (Ar (cs:=[.int .u8 ((u8ofI t0).toNat:Int)]) (ds:=[]) rfl (AJ _ _)))
 refine Rx 10 329728 c0 rfl q0 (FV.bytesS (xs:=([u8ofI D0,u8ofI t0]:List UInt8)) Tryz.underlying22 Tryz.underlying9 Tryz.underlying5 rfl (Src.row (α:=UInt8) J1 .hd B5))<|Rv 11 c0 rfl q0 (fun _=>FV.addS Z3 rfl rfl)<|Rv 16 c0 rfl q0 (fun _=>AU (vs:=[.string j0,vI g0]) (u:=.agg #[.string j0,vI g0,vN,vN,vN,.bool false]) (e2 rfl rfl) (fun p=>by kernel_rfl))<|BN 17 262143 c0 rfl .plain rfl (Ay [.string ⟨#[]⟩,vI 0,vN,vN,vN,.bool false] J1) fun V6 v2 B2 U2=>?_
 obtain ⟨V4,q5⟩:=AG B2 (.a0 .d1)
 exact c3 v2 V4 (Tt R2 (Tt U2 q5))
 refine BC (m' :=193023) (sk c0) rfl .plain rfl (Ay [.string ⟨#[]⟩,vI 0,vN,vN,vN,.bool false] I1) fun V6 v2 B2 U2=>BN 9 193535 c0 rfl .plain rfl (AK (α:=UInt8) (xs:=([u8ofI D0,u8ofI t0]:List UInt8)) (vs:=[.int .u8 ((u8ofI D0).toNat:Int),.int .u8 ((u8ofI t0).toNat:Int)]) (ds' :=[.int .u8 ((u8ofI D0).toNat:Int),.int .u8 ((u8ofI t0).toNat:Int)]) rfl B2 el22 rfl (e2 rfl rfl) (by kernel_rfl) rfl) fun U6 j4 J1 R2=>Rx 10 329728 c0 rfl q0 (FV.bytesS (xs:=([u8ofI D0,u8ofI t0]:List UInt8)) Tryz.underlying22 Tryz.underlying9 Tryz.underlying5 rfl (Src.row (α:=UInt8) J1 .hd (AB (cs:=[.int .u8 ((u8ofI D0).toNat:Int),.int .u8 ((u8ofI t0).toNat:Int)]) (xs:=(([u8ofI D0,u8ofI t0]:List UInt8):List UInt8)) J1 L (Ar (cs:=[.int .u8 ((u8ofI D0).toNat:Int)]) (ds:=[.int .u8 ((u8ofI t0).toNat:Int)]) rfl (Ar (cs:=[.int .u8 ((u8ofI t0).toNat:Int)]) (ds:=[]) rfl (AJ _ _))))))<|Rv 11 c0 rfl q0 (fun _=>FV.addS Z3 rfl rfl)<|Rv 16 c0 rfl q0 (fun _=>AU (vs:=[.string j0,vI g0]) (u:=.agg #[.string j0,vI g0,vN,vN,vN,.bool false]) (e2 rfl rfl) (fun p=>by kernel_rfl)) ?_
 obtain ⟨W4,s5⟩:=AG J1 .d1
 exact c3 v2 W4 (Tt U2 (Tt R2 s5))
 refine Bd rfl ?_
 have h:=I5 _ h
 try dsimp only at h
 refine Aj<|Ac<|Af rfl<|Aa<|AA ?_
 obtain ⟨Y7,K5,H5⟩:=bind_in2 h
 refine MX.lf (α:=Nat × (List Tb) × Value × (List Value)) (fun ⟨v1,Q0,p0,Y0⟩=>[(2,vP u0),(4,vP v0),(5,vP x0),(9,vI ((v1:Nat):Int))]) (fun ⟨v1,Q0,p0,Y0⟩=>[rr w 101 Tb vN (([]:List Tb).length) [],rr w 101 Tb p0 Q0.length Y0,.cells x0 [vI (((a0.fe % (3:UInt8)).toNat:Nat):Int),vI (((a0.fh % (4:UInt8)).toNat:Nat):Int),vI (((a0.fj % (3:UInt8)).toNat:Nat):Int),p0] 44,.cells v0 [vI 0,vI 0,vI 0,vN] 44,.cells u0 [.int .u8 (a0.fe.toNat:Int),.int .u8 (a0.fh.toNat:Int),.int .u8 (a0.fj.toNat:Int),.int .u8 (a0.fu.toNat:Int),v0_4] 27]) (fun ⟨v1,Q0,p0,Y0⟩ b4=>Cells b4 (bl [rr w 101 Tb vN (([]:List Tb).length) [],rr w 101 Tb p0 Q0.length Y0,.cells x0 [vI (((a0.fe % (3:UInt8)).toNat:Nat):Int),vI (((a0.fh % (4:UInt8)).toNat:Nat):Int),vI (((a0.fj % (3:UInt8)).toNat:Nat):Int),p0] 44,.cells v0 [vI 0,vI 0,vI 0,vN] 44,.cells u0 [.int .u8 (a0.fe.toNat:Int),.int .u8 (a0.fh.toNat:Int),.int .u8 (a0.fj.toNat:Int),.int .u8 (a0.fu.toNat:Int),v0_4] 27] ++ L) Y0 Q0) (fun ⟨v1,Q0,p0,Y0⟩=>(v1,Q0)) (0,X0,y0,Z0) K5 I1 E3 ?_
 rintro s7 ⟨v1,Q0,p0,Y0⟩ b4 x4 U0 X4 D3 h
 unfold ac_l2 at h
 try dsimp only at h
 refine Aj<|Ac<|Ae rfl<|AR 3 rfl<|AP rfl ((U0.memA .t4) 3 _ rfl)<|Ab (FV.rem8 (a:=a0.fu) (b:=(2:UInt8)) rfl rfl (by decide)) ?_
 have U7:=(a0.fu % (2:UInt8)).toNat_lt
 refine Ab (FV.convN (i:=(a0.fu % (2:UInt8)).toNat) Tryz.underlying5 Tryz.underlying3 rfl (by omega))<|Ab (Bu (i:=v1) (j:=(a0.fu % (2:UInt8)).toNat) rfl rfl)<|Aa<|AT rfl h (fun k4 h=>?_) (fun k4 h=>?_)
 refine Au<|Aj<|AA<|du 13 fun b0 A1=>Rv 0 b0 rfl A1 (fun _=>Bb 3 rfl)<|Rx 1 57344 b0 rfl A1 (AL rfl ((U0.memA .t2) 3 _ rfl))<|Rv 2 b0 rfl A1 (fun _=>Bb 0 rfl)<|Rx 3 63504 b0 rfl A1 (AL rfl ((U0.memA .t2) 0 _ rfl))<|Rv 5 b0 rfl A1 (fun _=>Bb 1 rfl)<|Rx 6 63616 b0 rfl A1 (AL rfl ((U0.memA .t2) 1 _ rfl))<|Rv 8 b0 rfl A1 (fun _=>Bb 2 rfl)<|Rx 9 64512 b0 rfl A1 (AL rfl ((U0.memA .t2) 2 _ rfl))<|bk h fun H0 q1 h=>bk h fun I0 s1 h=>bk h fun J0 u1 h=>RD.mf (α:=Value × (List Value) × Value × (List Value) × Value × (List Value)) (fun ⟨E0,B1,F0,C1,G0,D1⟩=>[(2,vP u0),(4,vP v0),(5,vP x0),(9,vI ((v1:Nat):Int)),(97,p0),(100,G0),(103,F0),(106,E0)]) (fun ⟨E0,B1,F0,C1,G0,D1⟩=>[rr w 3 Int E0 J0.length B1,rr w 3 Int F0 I0.length C1,rr w 3 Int G0 H0.length D1,rr w 101 Tb vN (([]:List Tb).length) [],rr w 101 Tb p0 Q0.length Y0,.cells x0 [vI (((a0.fe % (3:UInt8)).toNat:Nat):Int),vI (((a0.fh % (4:UInt8)).toNat:Nat):Int),vI (((a0.fj % (3:UInt8)).toNat:Nat):Int),p0] 44,.cells v0 [vI 0,vI 0,vI 0,vN] 44,.cells u0 [.int .u8 (a0.fe.toNat:Int),.int .u8 (a0.fh.toNat:Int),.int .u8 (a0.fj.toNat:Int),.int .u8 (a0.fu.toNat:Int),v0_4] 27]) (fun ⟨E0,B1,F0,C1,G0,D1⟩ q2=>Cells q2 (bl [rr w 3 Int E0 J0.length B1,rr w 3 Int F0 I0.length C1,rr w 3 Int G0 H0.length D1,rr w 101 Tb vN (([]:List Tb).length) [],rr w 101 Tb p0 Q0.length Y0,.cells x0 [vI (((a0.fe % (3:UInt8)).toNat:Nat):Int),vI (((a0.fh % (4:UInt8)).toNat:Nat):Int),vI (((a0.fj % (3:UInt8)).toNat:Nat):Int),p0] 44,.cells v0 [vI 0,vI 0,vI 0,vN] 44,.cells u0 [.int .u8 (a0.fe.toNat:Int),.int .u8 (a0.fh.toNat:Int),.int .u8 (a0.fj.toNat:Int),.int .u8 (a0.fu.toNat:Int),v0_4] 27] ++ L) B1 (J0:List Int)/\Cells q2 (bl [rr w 3 Int E0 J0.length B1,rr w 3 Int F0 I0.length C1,rr w 3 Int G0 H0.length D1,rr w 101 Tb vN (([]:List Tb).length) [],rr w 101 Tb p0 Q0.length Y0,.cells x0 [vI (((a0.fe % (3:UInt8)).toNat:Nat):Int),vI (((a0.fh % (4:UInt8)).toNat:Nat):Int),vI (((a0.fj % (3:UInt8)).toNat:Nat):Int),p0] 44,.cells v0 [vI 0,vI 0,vI 0,vN] 44,.cells u0 [.int .u8 (a0.fe.toNat:Int),.int .u8 (a0.fh.toNat:Int),.int .u8 (a0.fj.toNat:Int),.int .u8 (a0.fu.toNat:Int),v0_4] 27] ++ L) C1 (I0:List Int)/\Cells q2 (bl [rr w 3 Int E0 J0.length B1,rr w 3 Int F0 I0.length C1,rr w 3 Int G0 H0.length D1,rr w 101 Tb vN (([]:List Tb).length) [],rr w 101 Tb p0 Q0.length Y0,.cells x0 [vI (((a0.fe % (3:UInt8)).toNat:Nat):Int),vI (((a0.fh % (4:UInt8)).toNat:Nat):Int),vI (((a0.fj % (3:UInt8)).toNat:Nat):Int),p0] 44,.cells v0 [vI 0,vI 0,vI 0,vN] 44,.cells u0 [.int .u8 (a0.fe.toNat:Int),.int .u8 (a0.fh.toNat:Int),.int .u8 (a0.fj.toNat:Int),.int .u8 (a0.fu.toNat:Int),v0_4] 27] ++ L) D1 (H0:List Int)) U0 5 2047 ?_ ?_
 rintro ⟨E0,B1,F0,C1,G0,D1⟩ q2 P1 Y4 ⟨x5,y5,z5⟩
 try dsimp only
 obtain ⟨Z6,z7,E5⟩:=St.rowV (α:=Int) P1 .t2
 obtain ⟨b7,A7,F5⟩:=St.rowV (α:=Int) P1 .t1
 obtain ⟨c7,B7,G5⟩:=St.rowV (α:=Int) P1 .hd
 refine Rv 11 b0 rfl A1 (fun _=>AU (vs:=[.string ⟨#[115,101,97]⟩,.bool true,G0,F0,E0]) (u:=.agg #[.string ⟨#[115,101,97]⟩,vI 0,G0,F0,E0,.bool true]) (e5 rfl rfl rfl rfl rfl) (fun p=>by rw [E5,F5,G5]; try kernel_rfl)) ?_
 have U1:=Bz P1 .t2
 have G2:=BA P1 .t2
 have V3:=BB (α:=Int) (v:=G0) (xs:=H0) U1 L (Bj (α:=Int) P1 .t2 z5 hL)
 have V1:=Bz U1 .t1
 have H2:=BA U1 .t1
 have W3:=BB (α:=Int) (v:=F0) (xs:=I0) V1 L (Bj (α:=Int) U1 .t1 (Aw y5 G2) hL)
 have d3:=Bz V1 .hd
 have Y1:=BA V1 .hd
 have X3:=BB (α:=Int) (v:=E0) (xs:=J0) d3 L (Bj (α:=Int) V1 .hd (Aw x5 (Tt G2 H2)) hL)
 obtain ⟨d7,C7,s6,_⟩:=BV (Ao V3 (Tt H2 Y1))
 obtain ⟨g7,D7,u6,_⟩:=BV (Ao W3 Y1)
 obtain ⟨j7,E7,v6,_⟩:=BV X3
 refine BN 12 8191 b0 rfl .plain rfl (AK (α:=Tb) (xs:=([(⟨⟨#[115,101,97]⟩,(0:Int),H0,I0,J0,true⟩:Tb)]:List Tb)) (vs:=[.agg #[.string ⟨#[115,101,97]⟩,vI 0,G0,F0,E0,.bool true]]) (ds' :=[.string ⟨#[115,101,97]⟩,vI 0,G0,F0,E0,.bool true]) rfl d3 el42 rfl (e1 rfl) (by rw [s6,u6,v6]; try kernel_rfl) rfl) fun s8 v7 x2 I2=>?_
 have G3:=Tt H2 (Tt Y1 I2)
 refine bk h fun W6 A6 h=>?_
 have H3:=Tt Y4 (Tt G2 G3)
 refine Bf (i:=13) (rk b0) (Bx (m' :=16383) (sk b0) rfl rfl .plain rfl (AZ (α:=Tb) (ys:=([(⟨⟨#[115,101,97]⟩,(0:Int),H0,I0,J0,true⟩:Tb)]:List Tb)) A6 x2 (fun _ _=>.t2) el42 rfl rfl (Aw D3 H3) (Src.row (α:=Tb) x2 .hd (AB (cs:=[.string ⟨#[115,101,97]⟩,vI 0,G0,F0,E0,.bool true]) (xs:=(([(⟨⟨#[115,101,97]⟩,(0:Int),H0,I0,J0,true⟩:Tb)]:List Tb):List Tb)) x2 L (Ar (cs:=[.string ⟨#[115,101,97]⟩,vI 0,G0,F0,E0,.bool true]) (ds:=[]) (mk_Tb ⟨#[115,101,97]⟩ (0:Int) H0 (Ao V3 G3) I0 (Ao W3 (Tt Y1 I2)) J0 (Ao X3 I2) true) (AJ _ _))))) (fun Y2 t8 ⟨s4,y2,Z4,A5⟩=>?_))
 refine Bf (i:=14) (rk b0) (Bs (m' :=32767) (sk b0) rfl .plain rfl (Bb 3 rfl) ?_)
 refine BE 15 65535 b0 rfl rfl .plain (BQ (j:=3) (old:=[vI (((a0.fe % (3:UInt8)).toNat:Nat):Int),vI (((a0.fh % (4:UInt8)).toNat:Nat):Int),vI (((a0.fj % (3:UInt8)).toNat:Nat):Int),p0]) (news:=[Y2]) (new' :=[vI (((a0.fe % (3:UInt8)).toNat:Nat):Int),vI (((a0.fh % (4:UInt8)).toNat:Nat):Int),vI (((a0.fj % (3:UInt8)).toNat:Nat):Int),Y2]) y2 .t3 rfl rfl rfl (St.c1 (α:=Tb) y2 .t2) rfl rfl (o1 (St.o1 (α:=Tb) y2 .t2)) rfl) fun v8 A4 s3=>AN (dk b0)<|AC<|Av<|Ae rfl<|Ab (Bw (i:=v1) (j:=1) rfl rfl (by omega))<|Af rfl<|Aa ?_
 obtain ⟨B4,u3⟩:=AG A4 .d1
 exact x4 (v1 + 1,W6,Y2,s4) B4 (Tt X4 (Tt H3 (Tt Z4 (Tt s3 u3)))) (Aw A5 (Tt s3 u3)) h
 intro M1
 refine Bm [4,7,10] (rk b0) ⟨?_,?_,?_,trivial⟩
 refine BC (m' :=895) (sk b0) rfl .plain rfl (Does.mk (α:=Int) q1 U0 el45 rfl) fun j2 g1 A0 V0=>?_
 have E1:=AB (cs:=(List.replicate (((a0.fe % (3:UInt8)).toNat:Nat):Int).toNat [vI 0]).flatten) (xs:=H0) A0 L (Cells.mk q1 rfl)
 refine Bm [7,10] (rk b0) ⟨?_,?_,trivial⟩
 refine BC (m' :=1023) (sk b0) rfl .plain rfl (Does.mk (α:=Int) s1 A0 el45 rfl) fun k2 j1 B0 M0=>?_
 have F1:=AB (cs:=(List.replicate (((a0.fh % (4:UInt8)).toNat:Nat):Int).toNat [vI 0]).flatten) (xs:=I0) B0 L (Cells.mk s1 rfl)
 refine BN 10 2047 b0 rfl .plain rfl (Does.mk (α:=Int) u1 B0 el45 rfl) fun p2 k1 C0 P0=>?_
 have p1:=AB (cs:=(List.replicate (((a0.fj % (3:UInt8)).toNat:Nat):Int).toNat [vI 0]).flatten) (xs:=J0) C0 L (Cells.mk u1 rfl)
 exact M1 ((.slice (some ⟨k1,0,none⟩) (((a0.fj % (3:UInt8)).toNat:Nat):Int).toNat (((a0.fj % (3:UInt8)).toNat:Nat):Int).toNat),(List.replicate (((a0.fj % (3:UInt8)).toNat:Nat):Int).toNat [vI 0]).flatten,(.slice (some ⟨j1,0,none⟩) (((a0.fh % (4:UInt8)).toNat:Nat):Int).toNat (((a0.fh % (4:UInt8)).toNat:Nat):Int).toNat),(List.replicate (((a0.fh % (4:UInt8)).toNat:Nat):Int).toNat [vI 0]).flatten,(.slice (some ⟨g1,0,none⟩) (((a0.fe % (3:UInt8)).toNat:Nat):Int).toNat (((a0.fe % (3:UInt8)).toNat:Nat):Int).toNat),(List.replicate (((a0.fe % (3:UInt8)).toNat:Nat):Int).toNat [vI 0]).flatten) C0 (Tt V0 (Tt M0 P0)) ⟨p1,(Aw F1 P0),(Aw E1 (Tt M0 P0))⟩
 refine BC (m' :=1919) (sk b0) rfl .plain rfl (Does.mk (α:=Int) u1 A0 el45 rfl) fun p2 k1 C0 P0=>?_
 have p1:=AB (cs:=(List.replicate (((a0.fj % (3:UInt8)).toNat:Nat):Int).toNat [vI 0]).flatten) (xs:=J0) C0 L (Cells.mk u1 rfl)
 refine BN 7 2047 b0 rfl .plain rfl (Does.mk (α:=Int) s1 C0 el45 rfl) fun k2 j1 B0 M0=>?_
 have F1:=AB (cs:=(List.replicate (((a0.fh % (4:UInt8)).toNat:Nat):Int).toNat [vI 0]).flatten) (xs:=I0) B0 L (Cells.mk s1 rfl)
 obtain ⟨C4,J2⟩:=AG B0 (.a1 .d0)
 have I3:=Tt P0 (Tt M0 J2)
 exact M1 ((.slice (some ⟨k1,0,none⟩) (((a0.fj % (3:UInt8)).toNat:Nat):Int).toNat (((a0.fj % (3:UInt8)).toNat:Nat):Int).toNat),(List.replicate (((a0.fj % (3:UInt8)).toNat:Nat):Int).toNat [vI 0]).flatten,(.slice (some ⟨j1,0,none⟩) (((a0.fh % (4:UInt8)).toNat:Nat):Int).toNat (((a0.fh % (4:UInt8)).toNat:Nat):Int).toNat),(List.replicate (((a0.fh % (4:UInt8)).toNat:Nat):Int).toNat [vI 0]).flatten,(.slice (some ⟨g1,0,none⟩) (((a0.fe % (3:UInt8)).toNat:Nat):Int).toNat (((a0.fe % (3:UInt8)).toNat:Nat):Int).toNat),(List.replicate (((a0.fe % (3:UInt8)).toNat:Nat):Int).toNat [vI 0]).flatten) C4 (Tt V0 I3) ⟨(Aw p1 (Tt M0 J2)),(Aw F1 J2),(Aw E1 I3)⟩
 refine BC (m' :=1007) (sk b0) rfl .plain rfl (Does.mk (α:=Int) s1 U0 el45 rfl) fun k2 j1 B0 M0=>?_
 have F1:=AB (cs:=(List.replicate (((a0.fh % (4:UInt8)).toNat:Nat):Int).toNat [vI 0]).flatten) (xs:=I0) B0 L (Cells.mk s1 rfl)
 refine Bm [4,10] (rk b0) ⟨?_,?_,trivial⟩
 refine BC (m' :=1023) (sk b0) rfl .plain rfl (Does.mk (α:=Int) q1 B0 el45 rfl) fun j2 g1 A0 V0=>?_
 have E1:=AB (cs:=(List.replicate (((a0.fe % (3:UInt8)).toNat:Nat):Int).toNat [vI 0]).flatten) (xs:=H0) A0 L (Cells.mk q1 rfl)
 refine BN 10 2047 b0 rfl .plain rfl (Does.mk (α:=Int) u1 A0 el45 rfl) fun p2 k1 C0 P0=>?_
 have p1:=AB (cs:=(List.replicate (((a0.fj % (3:UInt8)).toNat:Nat):Int).toNat [vI 0]).flatten) (xs:=J0) C0 L (Cells.mk u1 rfl)
 obtain ⟨D4,K2⟩:=AG C0 (.a0 (.a1 .d0))
 have J3:=Tt V0 (Tt P0 K2)
 exact M1 ((.slice (some ⟨k1,0,none⟩) (((a0.fj % (3:UInt8)).toNat:Nat):Int).toNat (((a0.fj % (3:UInt8)).toNat:Nat):Int).toNat),(List.replicate (((a0.fj % (3:UInt8)).toNat:Nat):Int).toNat [vI 0]).flatten,(.slice (some ⟨j1,0,none⟩) (((a0.fh % (4:UInt8)).toNat:Nat):Int).toNat (((a0.fh % (4:UInt8)).toNat:Nat):Int).toNat),(List.replicate (((a0.fh % (4:UInt8)).toNat:Nat):Int).toNat [vI 0]).flatten,(.slice (some ⟨g1,0,none⟩) (((a0.fe % (3:UInt8)).toNat:Nat):Int).toNat (((a0.fe % (3:UInt8)).toNat:Nat):Int).toNat),(List.replicate (((a0.fe % (3:UInt8)).toNat:Nat):Int).toNat [vI 0]).flatten) D4 (Tt M0 J3) ⟨(Aw p1 K2),(Aw F1 J3),(Aw E1 (Tt P0 K2))⟩
 refine BC (m' :=2031) (sk b0) rfl .plain rfl (Does.mk (α:=Int) u1 B0 el45 rfl) fun p2 k1 C0 P0=>?_
 have p1:=AB (cs:=(List.replicate (((a0.fj % (3:UInt8)).toNat:Nat):Int).toNat [vI 0]).flatten) (xs:=J0) C0 L (Cells.mk u1 rfl)
 refine BN 4 2047 b0 rfl .plain rfl (Does.mk (α:=Int) q1 C0 el45 rfl) fun j2 g1 A0 V0=>?_
 have E1:=AB (cs:=(List.replicate (((a0.fe % (3:UInt8)).toNat:Nat):Int).toNat [vI 0]).flatten) (xs:=H0) A0 L (Cells.mk q1 rfl)
 obtain ⟨E4,M2⟩:=AG A0 (.a1 (.a1 .d0))
 have K3:=Tt P0 (Tt V0 M2)
 exact M1 ((.slice (some ⟨k1,0,none⟩) (((a0.fj % (3:UInt8)).toNat:Nat):Int).toNat (((a0.fj % (3:UInt8)).toNat:Nat):Int).toNat),(List.replicate (((a0.fj % (3:UInt8)).toNat:Nat):Int).toNat [vI 0]).flatten,(.slice (some ⟨j1,0,none⟩) (((a0.fh % (4:UInt8)).toNat:Nat):Int).toNat (((a0.fh % (4:UInt8)).toNat:Nat):Int).toNat),(List.replicate (((a0.fh % (4:UInt8)).toNat:Nat):Int).toNat [vI 0]).flatten,(.slice (some ⟨g1,0,none⟩) (((a0.fe % (3:UInt8)).toNat:Nat):Int).toNat (((a0.fe % (3:UInt8)).toNat:Nat):Int).toNat),(List.replicate (((a0.fe % (3:UInt8)).toNat:Nat):Int).toNat [vI 0]).flatten) E4 (Tt M0 K3) ⟨(Aw p1 (Tt V0 M2)),(Aw F1 K3),(Aw E1 M2)⟩
 refine BC (m' :=1903) (sk b0) rfl .plain rfl (Does.mk (α:=Int) u1 U0 el45 rfl) fun p2 k1 C0 P0=>?_
 have p1:=AB (cs:=(List.replicate (((a0.fj % (3:UInt8)).toNat:Nat):Int).toNat [vI 0]).flatten) (xs:=J0) C0 L (Cells.mk u1 rfl)
 refine Bm [4,7] (rk b0) ⟨?_,?_,trivial⟩
 refine BC (m' :=1919) (sk b0) rfl .plain rfl (Does.mk (α:=Int) q1 C0 el45 rfl) fun j2 g1 A0 V0=>?_
 have E1:=AB (cs:=(List.replicate (((a0.fe % (3:UInt8)).toNat:Nat):Int).toNat [vI 0]).flatten) (xs:=H0) A0 L (Cells.mk q1 rfl)
 refine BN 7 2047 b0 rfl .plain rfl (Does.mk (α:=Int) s1 A0 el45 rfl) fun k2 j1 B0 M0=>?_
 have F1:=AB (cs:=(List.replicate (((a0.fh % (4:UInt8)).toNat:Nat):Int).toNat [vI 0]).flatten) (xs:=I0) B0 L (Cells.mk s1 rfl)
 obtain ⟨F4,P2⟩:=AG B0 (.a2 .d0)
 have M3:=Tt V0 (Tt M0 P2)
 exact M1 ((.slice (some ⟨k1,0,none⟩) (((a0.fj % (3:UInt8)).toNat:Nat):Int).toNat (((a0.fj % (3:UInt8)).toNat:Nat):Int).toNat),(List.replicate (((a0.fj % (3:UInt8)).toNat:Nat):Int).toNat [vI 0]).flatten,(.slice (some ⟨j1,0,none⟩) (((a0.fh % (4:UInt8)).toNat:Nat):Int).toNat (((a0.fh % (4:UInt8)).toNat:Nat):Int).toNat),(List.replicate (((a0.fh % (4:UInt8)).toNat:Nat):Int).toNat [vI 0]).flatten,(.slice (some ⟨g1,0,none⟩) (((a0.fe % (3:UInt8)).toNat:Nat):Int).toNat (((a0.fe % (3:UInt8)).toNat:Nat):Int).toNat),(List.replicate (((a0.fe % (3:UInt8)).toNat:Nat):Int).toNat [vI 0]).flatten) F4 (Tt P0 M3) ⟨(Aw p1 M3),(Aw F1 P2),(Aw E1 (Tt M0 P2))⟩
 refine BC (m' :=2031) (sk b0) rfl .plain rfl (Does.mk (α:=Int) s1 C0 el45 rfl) fun k2 j1 B0 M0=>BN 4 2047 b0 rfl .plain rfl (Does.mk (α:=Int) q1 B0 el45 rfl) fun j2 g1 A0 V0=>?_
 obtain ⟨G4,Q2⟩:=AG A0 (.a2 (.a1 .d0))
 have P3:=Tt M0 (Tt V0 Q2)
 exact M1 ((.slice (some ⟨k1,0,none⟩) (((a0.fj % (3:UInt8)).toNat:Nat):Int).toNat (((a0.fj % (3:UInt8)).toNat:Nat):Int).toNat),(List.replicate (((a0.fj % (3:UInt8)).toNat:Nat):Int).toNat [vI 0]).flatten,(.slice (some ⟨j1,0,none⟩) (((a0.fh % (4:UInt8)).toNat:Nat):Int).toNat (((a0.fh % (4:UInt8)).toNat:Nat):Int).toNat),(List.replicate (((a0.fh % (4:UInt8)).toNat:Nat):Int).toNat [vI 0]).flatten,(.slice (some ⟨g1,0,none⟩) (((a0.fe % (3:UInt8)).toNat:Nat):Int).toNat (((a0.fe % (3:UInt8)).toNat:Nat):Int).toNat),(List.replicate (((a0.fe % (3:UInt8)).toNat:Nat):Int).toNat [vI 0]).flatten) G4 (Tt P0 P3) ⟨(Aw p1 P3),(Aw (AB (cs:=(List.replicate (((a0.fh % (4:UInt8)).toNat:Nat):Int).toNat [vI 0]).flatten) (xs:=I0) B0 L (Cells.mk s1 rfl)) (Tt V0 Q2)),(Aw (AB (cs:=(List.replicate (((a0.fe % (3:UInt8)).toNat:Nat):Int).toNat [vI 0]).flatten) (xs:=H0) A0 L (Cells.mk q1 rfl)) Q2)⟩
 refine Bd rfl ?_
 have h:=H5 _ h
 try dsimp only at h
 refine Ac<|Ab (AH rfl (U0.memA .t2))<|AQ [vI (((a0.fe % (3:UInt8)).toNat:Nat):Int),vI (((a0.fh % (4:UInt8)).toNat:Nat):Int),vI (((a0.fj % (3:UInt8)).toNat:Nat):Int),p0] U0 .t3 (o4 rfl rfl rfl (St.o1 (α:=Tb) U0 .t1)) fun x8 z2 b5=>Aa<|Al rfl ?_
 have W1:=Bz z2 .t1
 have I7:=BA z2 .t1
 have Q5:=BB (α:=Tb) (v:=p0) (xs:=Q0) W1 L (Bj (α:=Tb) z2 .t1 (Aw D3 b5) hL)
 refine Am hb0 Tryz.func32 rfl (.cons (.many (cs:=[vI (((a0.fe % (3:UInt8)).toNat:Nat):Int),vI (((a0.fh % (4:UInt8)).toNat:Nat):Int),vI (((a0.fj % (3:UInt8)).toNat:Nat):Int),p0]) (by kernel_rfl) rfl (W1.memA .t2)) .nil) rfl ?_
 cases h
 exact ⟨W1.ag,fun p q=>⟨p0,rfl,W1.kd Q5 q⟩⟩
structure Tn where
  fE:UInt8
  fAt:UInt8
  fN:Int
  deriving DecidableEq
instance:Rep Tn:=Rep.via (β:=UInt8 × UInt8 × Int) fun x=>(x.fE,x.fAt,x.fN)
def cp_p (_n:Nat) (a0:Tn) (a1:List Int):Option (List Int):=
  (app ([]:List Int) a1).bind fun b0=>(if ((a0.fE % (4:UInt8)).toNat) = 0 then (remI ((a0.fAt.toNat:Nat):Int) ((b0.length:Nat):Int)).bind fun c0=>(idx b0 c0).bind fun _x37=>(put b0 ((c0.toNat:Nat):Int) a0.fN).bind fun d0=>some d0 else (if ((a0.fE % (4:UInt8)).toNat) = 1 then (app b0 ([a0.fN]:List Int)).bind fun g0=>some g0 else (if ((a0.fE % (4:UInt8)).toNat) = 2 then (cut b0 0 (((b0.length:Nat):Int) - 1)).bind fun j0=>some j0 else some b0)))
theorem cp_c (n:Nat) {L w} (hL:hl L w) (a0:Tn) {a1:List Int} {v1_0:Value} (h1_0:Rep.R w L [v1_0] a1)  {r:List Int} (h:cp_p n a0 a1 = some r) :
 Cl 33 #[.agg #[.int .u8 (a0.fE.toNat:Int),.int .u8 (a0.fAt.toNat:Int),vI a0.fN],v1_0] w (Gives w fun w' u=>∃ v0_0:Value,u = v0_0/\Rep.R w' L [v0_0] r):=by
 unfold cp_p at h
 refine AD Tryz.func33 rfl rfl rfl fun _ cs0 hb0=>Ac<|RG.bx (Az w) rfl rfl fun d2 B1 A0 K1=>Af rfl<|Aa<|Ac<|Af rfl<|Aa<|Ac<|Ae rfl<|Ae rfl ?_
 have p0:=A0.nilRow 3 (Rep.size Int)
 have M1:=St.nilRowT A0 3 (Rep.size Int)
 refine bk h fun g0 k1 h=>RG.doesL .plain rfl (AZ (α:=Int) (ys:=a1) k1 p0 (fun _ _=>.hd) el46 rfl rfl (AB (cs:=[]) (xs:=([]:List Int)) p0 L (AJ _ _)) (BG (AS h1_0 p0))) fun k0 g2 ⟨H1,b0,P1,j0⟩=>Af rfl<|Aa<|Aj<|Ac<|AR 0 rfl<|AP rfl ((b0.memA .t1) 0 _ rfl)<|Ab (FV.rem8 (a:=a0.fE) (b:=(4:UInt8)) rfl rfl (by decide))<|Aa<|AA<|Ac<|Ab (BT (i:=(a0.fE % (4:UInt8)).toNat) (j:=0) rfl rfl)<|Af rfl<|Aa<|AT rfl h (fun H0 h=>?_) (fun H0 h=>?_)
 refine du 10 fun c0 d0=>Rv 0 c0 rfl d0 (fun _=>Ai rfl)<|Rv 1 c0 rfl d0 (fun _=>Bb 1 rfl)<|Rx 2 1608 c0 rfl d0 (AL rfl ((b0.memA .t1) 1 _ rfl)) ?_
 have c2:=a0.fAt.toNat_lt
 refine Rv 3 c0 rfl d0 (fun _=>FV.convN (i:=a0.fAt.toNat) Tryz.underlying5 Tryz.underlying3 rfl (by omega))<|Rv 4 c0 rfl d0 (fun _=>Ai rfl) ?_
 have Y1:g0.length <= 4294967296:=St.rowLe (α:=Int) b0 .hd
 obtain ⟨z1,D1,R0⟩:=St.rowV (α:=Int) b0 .hd
 refine Rx 5 1600 c0 rfl d0 (FV.lenV Tryz.underlying46 rfl R0)<|bk h fun D0 d1 h=>Rv 6 c0 rfl d0 (fun _=>FV.remc (i:=((a0.fAt.toNat:Nat):Int)) (j:=((g0.length:Nat):Int)) rfl rfl d1)<|Rv 7 c0 rfl d0 (fun _=>Bb 2 rfl)<|Rx 8 1536 c0 rfl d0 (AL rfl ((b0.memA .t1) 2 _ rfl))<|bk h fun v1 g1 h=>?_
 obtain ⟨W0,j1⟩:=idx_in g1
 obtain ⟨F0,E1,z0,C0,K0,X0,b2⟩:=St.nth (α:=Int) b0 .hd j0 j1
 obtain ⟨G0,F1,B0⟩:=BR (α:=Int) b0 .hd C0
 obtain rfl:F0 = ⟨G0,0,none⟩:=by rw [B0] at z0; cases z0; rfl
 have U0:K0 = [vI v1]:=X0; subst U0
 refine Rv 9 c0 rfl d0 (fun _=>Bq 1 (D0.toNat) rfl z0 rfl W0 C0)<|bk h fun x1 p1 h=>Bf (i:=10) (rk c0) (RO.acts (m' :=2047) (sk c0) rfl rfl .plain (Acts.set (α:=Int) (i:=D0.toNat) p1 b0 B0 (fun _=>.hd) j0 rfl rfl rfl rfl rfl (by kernel_rfl)) (fun j2 ⟨I1,q0,Q1,P0⟩=>?_))
 refine AN (dk c0)<|AC<|Ac<|Ae rfl<|Af rfl<|Aa<|Al rfl ?_
 have s0:=Bz q0 .hd
 have R1:=BA q0 .hd
 have Y0:=BB (α:=Int) (v:=k0) (xs:=x1) s0 L (Bj (α:=Int) q0 .hd P0 hL)
 refine AW hb0 Tryz.func33 rfl rfl ?_
 cases h
 exact ⟨s0.ag,fun p q=>⟨k0,rfl,s0.kd Y0 q⟩⟩
 refine Ac<|Ab (BT (i:=(a0.fE % (4:UInt8)).toNat) (j:=1) rfl rfl)<|Af rfl<|Aa<|AT rfl h (fun I0 h=>?_) (fun I0 h=>?_)
 refine Av<|Ae rfl<|AR 2 rfl<|AP rfl ((b0.memA .t1) 2 _ rfl)<|Ak .plain rfl (AK (α:=Int) (xs:=([a0.fN]:List Int)) (vs:=[vI a0.fN]) (ds' :=[vI a0.fN]) rfl b0 el46 rfl (e1 rfl) (by kernel_rfl) rfl) fun k2 C1 t0 M0=>bk h fun y1 q1 h=>RG.doesL .plain rfl (AZ (α:=Int) (ys:=([a0.fN]:List Int)) q1 t0 (fun _ _=>.t1) el46 rfl rfl (Aw j0 M0) (Src.row (α:=Int) t0 .hd (AB (cs:=[vI a0.fN]) (xs:=(([a0.fN]:List Int):List Int)) t0 L (Ar (cs:=[vI a0.fN]) (ds:=[]) rfl (AJ _ _))))) fun E0 p2 ⟨J1,u0,U1,Q0⟩=>Af rfl<|Aa<|AC<|Ac<|Ae rfl<|Af rfl<|Aa<|Al rfl ?_
 have v0:=Bz u0 .t1
 have V1:=BA u0 .t1
 have Z0:=BB (α:=Int) (v:=E0) (xs:=y1) v0 L (Bj (α:=Int) u0 .t1 Q0 hL)
 refine AW hb0 Tryz.func33 rfl rfl ?_
 cases h
 exact ⟨v0.ag,fun p q=>⟨E0,rfl,v0.kd Z0 q⟩⟩
 refine Ac<|Ab (BT (i:=(a0.fE % (4:UInt8)).toNat) (j:=2) rfl rfl)<|Af rfl<|Aa<|AT rfl h (fun J0 h=>?_) (fun J0 h=>?_)
 refine Av<|Ae rfl<|Ae rfl ?_
 have Z1:g0.length <= 4294967296:=St.rowLe (α:=Int) b0 .hd
 obtain ⟨A1,G1,V0⟩:=St.rowV (α:=Int) b0 .hd
 refine Ab (FV.lenV Tryz.underlying46 rfl V0)<|Ab (FV.subI (i:=((g0.length:Nat):Int)) (j:=1) rfl rfl (by omega)) ?_
 have x0:=Bz b0 .hd
 have W1:=BA b0 .hd
 refine bk h fun q2 s1 h=>RG.valE .plain rfl (FV.cutL (α:=Int) s1 (by kernel_rfl) rfl (BB (α:=Int) (v:=k0) (xs:=g0) x0 L (Bj (α:=Int) b0 .hd j0 hL)) rfl ⟨_,rfl⟩) fun u1 b1=>Af rfl<|Aa<|AC<|Ac<|Ae rfl<|Af rfl<|Aa<|Al rfl<|AW hb0 Tryz.func33 rfl rfl ?_
 cases h
 exact ⟨x0.ag,fun p q=>⟨u1,rfl,x0.kd b1 q⟩⟩
 refine Au<|AC<|Ac<|Ae rfl<|Af rfl<|Aa<|Al rfl ?_
 have y0:=Bz b0 .hd
 have X1:=BA b0 .hd
 have c1:=BB (α:=Int) (v:=k0) (xs:=g0) y0 L (Bj (α:=Int) b0 .hd j0 hL)
 refine AW hb0 Tryz.func33 rfl rfl ?_
 cases h
 exact ⟨y0.ag,fun p q=>⟨k0,rfl,y0.kd c1 q⟩⟩
def cq_p (_n:Nat) (a0:Tn) (a1:Td):Option Td:=
  (app ([]:List Tb) a1.fo).bind fun c0=>(if c0.length = 0 then some (⟨a1.fe,a1.fh,a1.fj,c0⟩:Td) else (remI ((a0.fAt.toNat:Nat):Int) ((c0.length:Nat):Int)).bind fun d0=>(idx c0 d0).bind fun b0=>(if ((a0.fE % (7:UInt8)).toNat) = 0 then (put c0 ((d0.toNat:Nat):Int) (⟨b0.fx,a0.fN,b0.fe,b0.fF,b0.fC,b0.fu⟩:Tb)).bind fun j0=>some (⟨a1.fe,a1.fh,a1.fj,j0⟩:Td) else (if ((a0.fE % (7:UInt8)).toNat) = 1 then (app ([a0.fN]:List Int) b0.fF).bind fun p0=>(put c0 ((d0.toNat:Nat):Int) (⟨b0.fx,b0.fv,b0.fe,p0,b0.fC,b0.fu⟩:Tb)).bind fun q0=>some (⟨a1.fe,a1.fh,a1.fj,q0⟩:Td) else (if ((a0.fE % (7:UInt8)).toNat) = 2 then (app ([]:List Int) b0.fe).bind fun k0=>(app k0 ([a0.fN]:List Int)).bind fun s0=>(put c0 ((d0.toNat:Nat):Int) (⟨b0.fx,b0.fv,s0,b0.fF,b0.fC,b0.fu⟩:Tb)).bind fun t0=>some (⟨a1.fe,a1.fh,a1.fj,t0⟩:Td) else (if ((a0.fE % (7:UInt8)).toNat) = 3 then (put c0 ((d0.toNat:Nat):Int) (⟨b0.fx,b0.fv,b0.fe,b0.fF,b0.fC,(!b0.fu)⟩:Tb)).bind fun u0=>some (⟨a1.fe,a1.fh,a1.fj,u0⟩:Td) else (if ((a0.fE % (7:UInt8)).toNat) = 4 then (c0[0]?).bind fun g0=>(put c0 ((d0.toNat:Nat):Int) (⟨g0.fx,b0.fv,b0.fe,b0.fF,b0.fC,b0.fu⟩:Tb)).bind fun v0=>some (⟨a1.fe,a1.fh,a1.fj,v0⟩:Td) else (if ((a0.fE % (7:UInt8)).toNat) = 5 then some (⟨a1.fe,a1.fh,a0.fN,c0⟩:Td) else (put c0 ((d0.toNat:Nat):Int) (⟨b0.fx,b0.fv,b0.fe,b0.fF,([a0.fN]:List Int),b0.fu⟩:Tb)).bind fun x0=>some (⟨a1.fe,a1.fh,a1.fj,x0⟩:Td))))))))
theorem cq_c (n:Nat) {L w} (hL:hl L w) (a0:Tn) (a1:Td) {v1_3:Value} (h1_3:Rep.R w L [v1_3] a1.fo)  {r:Td} (h:cq_p n a0 a1 = some r) :
 Cl 34 #[.agg #[.int .u8 (a0.fE.toNat:Int),.int .u8 (a0.fAt.toNat:Int),vI a0.fN],.agg #[vI a1.fe,vI a1.fh,vI a1.fj,v1_3]] w (Gives w fun w' u=>∃ v0_3:Value,u = .agg #[vI r.fe,vI r.fh,vI r.fj,v0_3]/\Rep.R w' L [v0_3] r.fo):=by
 unfold cq_p at h
 refine AD Tryz.func34 rfl rfl rfl fun _ cs0 hb0=>Ac<|RG.bx (Az w) rfl rfl fun w11 E9 J5 B00=>RG.bx J5 rfl rfl fun w16 F9 K5 E00=>RG.nl [vI 0,vI 0,vI 0,vN] K5 fun w21 Y1 y4 F00=>Aa<|Ac<|Ab (AH rfl (y4.memA .t1))<|RG.nl [vI 0,vI 0,vI 0,vN] y4 fun w26 Z1 A4 I00=>AQ [vI a1.fe,vI a1.fh,vI a1.fj,v1_3] A4 .hd (o4 rfl rfl rfl (AO (AS h1_3 A4))) fun w31 R6 V00=>Aa<|Ac<|Ak .plain rfl (AK (α:=Tb) (xs:=([]:List Tb)) (vs:=[]) (ds' :=[]) rfl R6 el42 rfl evs_nil (by kernel_rfl) rfl) fun w35 G9 s2 W00=>AR 3 rfl<|AP rfl ((s2.memA .t3) 3 _ rfl)<|bk h fun M1 p9 h=>RG.doesL .plain rfl (AZ (α:=Tb) (ys:=a1.fo) p9 s2 (fun _ _=>.hd) el42 rfl rfl (AB (cs:=[]) (xs:=(([]:List Tb):List Tb)) s2 L (AJ _ _)) (BG (AS h1_3 s2))) fun v0 w42 ⟨y2,X2,X00,j1⟩=>AR 3 rfl<|RG.now .plain (BQ (j:=3) (old:=[vI a1.fe,vI a1.fh,vI a1.fj,v1_3]) (news:=[v0]) (new' :=[vI a1.fe,vI a1.fh,vI a1.fj,v0]) X2 .t1 rfl rfl rfl (St.c1 (α:=Tb) X2 .hd) rfl rfl (o1 (St.o1 (α:=Tb) X2 .hd)) rfl) fun w49 u0 g1=>?_
 refine Aa<|Aj<|Ac<|AR 3 rfl<|AP rfl ((u0.memA .t1) 3 _ rfl) ?_
 have k01:M1.length <= 4294967296:=St.rowLe (α:=Tb) u0 .hd
 obtain ⟨B9,R9,R7⟩:=St.rowV (α:=Tb) u0 .hd
 refine Ab (FV.lenV Tryz.underlying42 rfl R7)<|Ab (BT (i:=M1.length) (j:=0) rfl rfl)<|Aa<|AT rfl h (fun H5 h=>?_) (fun H5 h=>?_)
 refine Ac<|Ab (AH rfl (u0.memA .t1))<|AQ [vI a1.fe,vI a1.fh,vI a1.fj,v0] u0 .t2 (o4 rfl rfl rfl (St.o1 (α:=Tb) u0 .hd)) fun w57 Y2 p7=>Aa<|Al rfl ?_
 have u2:=Bz Y2 .hd
 have Y00:=BA Y2 .hd
 have P8:=BB (α:=Tb) (v:=v0) (xs:=M1) u2 L (Bj (α:=Tb) Y2 .hd (Aw j1 (Tt g1 p7)) hL)
 refine Am hb0 Tryz.func34 rfl (.cons (.many (cs:=[vI a1.fe,vI a1.fh,vI a1.fj,v0]) (by kernel_rfl) rfl (u2.memA .t1)) .nil) rfl ?_
 cases h
 exact ⟨u2.ag,fun p q=>⟨v0,rfl,u2.kd P8 q⟩⟩
 refine Au<|Aj<|du 11 fun s1 x1=>Rv 0 s1 rfl x1 (fun _=>Bb 3 rfl)<|Rx 1 1536 s1 rfl x1 (AL rfl ((u0.memA .t1) 3 _ rfl))<|Rv 2 s1 rfl x1 (fun _=>Bb 1 rfl)<|Rx 3 1808 s1 rfl x1 (AL rfl ((u0.memA .t4) 1 _ rfl)) ?_
 have E01:=a0.fAt.toNat_lt
 refine Rv 4 s1 rfl x1 (fun _=>FV.convN (i:=a0.fAt.toNat) Tryz.underlying5 Tryz.underlying3 rfl (by omega))<|Rv 5 s1 rfl x1 (fun _=>Bb 3 rfl)<|Rx 6 1920 s1 rfl x1 (AL rfl ((u0.memA .t1) 3 _ rfl)) ?_
 obtain ⟨C9,U9,U7⟩:=St.rowV (α:=Tb) u0 .hd
 refine Rx 7 1792 s1 rfl x1 (FV.lenV Tryz.underlying42 rfl U7)<|bk h fun K1 V8 h=>Rv 8 s1 rfl x1 (fun _=>FV.remc (i:=((a0.fAt.toNat:Nat):Int)) (j:=((M1.length:Nat):Int)) rfl rfl V8)<|bk h fun g0 X8 h=>?_
 obtain ⟨W7,b1⟩:=idx_in X8
 have I1:=Aw j1 g1
 obtain ⟨A5,V9,b4,H4,x00,Q8,X1⟩:=St.nth (α:=Tb) u0 .hd I1 b1
 obtain ⟨v4,W9,Z0⟩:=BR (α:=Tb) u0 .hd H4
 obtain rfl:A5 = ⟨v4,0,none⟩:=by rw [Z0] at b4; cases b4; rfl
 obtain ⟨v86,v87,v88,rfl,X0,R8,D01⟩:=op_Tb Q8
 refine Rv 9 s1 rfl x1 (fun _=>Bq 6 (K1.toNat) rfl b4 rfl W7 H4)<|Rv 10 s1 rfl x1 (fun _=>AV rfl)<|AN (dk s1)<|Aj<|Ac<|AR 0 rfl<|AP rfl ((u0.memA .t4) 0 _ rfl)<|Ab (FV.rem8 (a:=a0.fE) (b:=(7:UInt8)) rfl rfl (by decide))<|Aa<|AA<|Ac<|Ab (BT (i:=(a0.fE % (7:UInt8)).toNat) (j:=0) rfl rfl)<|Af rfl<|Aa<|AT rfl h (fun I5 h=>?_) (fun I5 h=>?_)
 refine Av<|Ae rfl<|AR 2 rfl<|AP rfl ((u0.memA .t4) 2 _ rfl)<|Ab (FV.nilCheck rfl)<|AR 1 rfl ?_
 obtain ⟨X9,V7,j01,y00,U8,v01,H7⟩:=St.nthAt (α:=Tb) u0 .hd I1 b1 Z0
 obtain ⟨V4,W4,X4,rfl,Y7,Z7,b8⟩:=op_Tb U8
 refine bk h fun u9 Y8 h=>RG.acts' .plain (Acts.setPart (α:=Tb) (i:=K1.toNat) (tot:=1) (ds:=[.string g0.fx,vI g0.fv,V4,W4,X4,.bool g0.fu]) (news:=[vI a0.fN]) (full:=[.string g0.fx,vI a0.fN,V4,W4,X4,.bool g0.fu]) Y8 u0 V7 (fun _=>.hd) I1 H7 rfl (by kernel_rfl) rfl rfl rfl rfl (mk_Tb g0.fx a0.fN g0.fe Y7 g0.fF Z7 g0.fC b8 g0.fu) (by kernel_rfl) (o1 rfl)) fun M01 ⟨Y9,z2,z00,q7⟩=>Aa<|AC<|Ac<|Ab (AH rfl (z2.memA .t1))<|AQ [vI a1.fe,vI a1.fh,vI a1.fj,v0] z2 .t2 (o4 rfl rfl rfl (St.o1 (α:=Tb) z2 .hd)) fun Q01 A2 U6=>Aa<|Al rfl ?_
 have b2:=Bz A2 .hd
 have A00:=BA A2 .hd
 have c8:=BB (α:=Tb) (v:=v0) (xs:=u9) b2 L (Bj (α:=Tb) A2 .hd (Aw q7 U6) hL)
 refine Am hb0 Tryz.func34 rfl (.cons (.many (cs:=[vI a1.fe,vI a1.fh,vI a1.fj,v0]) (by kernel_rfl) rfl (b2.memA .t1)) .nil) rfl ?_
 cases h
 exact ⟨b2.ag,fun p q=>⟨v0,rfl,b2.kd c8 q⟩⟩
 refine Ac<|Ab (BT (i:=(a0.fE % (7:UInt8)).toNat) (j:=1) rfl rfl)<|Af rfl<|Aa<|AT rfl h (fun C5 h=>?_) (fun C5 h=>?_)
 refine du 8 fun d1 R1=>Rv 0 d1 rfl R1 (fun _=>Ai rfl)<|Rv 1 d1 rfl R1 (fun _=>Bb 2 rfl)<|Rx 2 3848 d1 rfl R1 (AL rfl ((u0.memA .t4) 2 _ rfl))<|Rv 4 d1 rfl R1 (fun _=>Ai rfl)<|Rv 5 d1 rfl R1 (fun _=>FV.nilCheck rfl)<|Rv 6 d1 rfl R1 (fun _=>Bb 3 rfl)<|Rx 7 3840 d1 rfl R1 (AL rfl (X1 3 _ rfl))<|BN 3 255 d1 rfl .plain rfl (AK (α:=Int) (xs:=([a0.fN]:List Int)) (vs:=[vI a0.fN]) (ds' :=[vI a0.fN]) rfl u0 el45 rfl (e1 rfl) (by kernel_rfl) rfl) fun R01 D9 x4 B4=>bk h fun x5 Z8 h=>Bf (i:=8) (rk d1) (Bx (m' :=511) (sk d1) rfl rfl .plain rfl (AZ (α:=Int) (ys:=g0.fF) Z8 x4 (fun _ _=>.hd) el45 rfl rfl (AB (cs:=[vI a0.fN]) (xs:=(([a0.fN]:List Int):List Int)) x4 L (Ar (cs:=[vI a0.fN]) (ds:=[]) rfl (AJ _ _))) (BG (Ao R8 B4))) (fun p4 U01 ⟨Z9,B2,V6,s7⟩=>?_))
 refine Bf (i:=9) (rk d1) (Bs (m' :=1023) (sk d1) rfl .plain rfl (FV.nilCheck rfl) ?_)
 refine Bf (i:=10) (rk d1) (Bs (m' :=2047) (sk d1) rfl .plain rfl (Bb 3 rfl) ?_)
 have C2:=Bz B2 .hd
 have g4:=BB (α:=Int) (v:=p4) (xs:=x5) C2 L (Bj (α:=Int) B2 .hd s7 hL)
 have I4:=Aw j1 (Tt g1 (Tt B4 (Tt V6 (BA B2 .hd))))
 obtain ⟨H9,I7,Z00,b00,d8,p01,C7⟩:=St.nthAt (α:=Tb) C2 .hd I4 b1 Z0
 obtain ⟨Y4,q9,Z4,rfl,g8,x01,j8⟩:=op_Tb d8
 refine bk h fun v9 b9 h=>Bf (i:=11) (rk d1) (RO.acts (m' :=4095) (sk d1) rfl rfl .plain (Acts.setPart (α:=Tb) (i:=K1.toNat) (tot:=3) (ds:=[.string g0.fx,vI g0.fv,Y4,q9,Z4,.bool g0.fu]) (news:=[p4]) (full:=[.string g0.fx,vI g0.fv,Y4,p4,Z4,.bool g0.fu]) b9 C2 I7 (fun _=>.hd) I4 C7 rfl (by kernel_rfl) rfl rfl rfl (Rep.c1 g4) (mk_Tb g0.fx g0.fv g0.fe g8 x5 g4 g0.fC j8 g0.fu) (by kernel_rfl) (o1 (AO g4))) (fun V01 ⟨c00,D2,C00,t7⟩=>?_))
 refine AN (dk d1)<|AC<|Ac<|Ab (AH rfl (D2.memA .t1))<|AQ [vI a1.fe,vI a1.fh,vI a1.fj,v0] D2 .t2 (o4 rfl rfl rfl (St.o1 (α:=Tb) D2 .hd)) fun X01 E2 W6=>Aa<|Al rfl ?_
 have c2:=Bz E2 .hd
 have D00:=BA E2 .hd
 have k8:=BB (α:=Tb) (v:=v0) (xs:=v9) c2 L (Bj (α:=Tb) E2 .hd (Aw t7 W6) hL)
 refine Am hb0 Tryz.func34 rfl (.cons (.many (cs:=[vI a1.fe,vI a1.fh,vI a1.fj,v0]) (by kernel_rfl) rfl (c2.memA .t1)) .nil) rfl ?_
 cases h
 exact ⟨c2.ag,fun p q=>⟨v0,rfl,c2.kd k8 q⟩⟩
 refine Ac<|Ab (BT (i:=(a0.fE % (7:UInt8)).toNat) (j:=2) rfl rfl)<|Af rfl<|Aa<|AT rfl h (fun D5 h=>?_) (fun D5 h=>?_)
 refine du 6 fun b0 J1=>Rv 0 b0 rfl J1 (fun _=>Ai rfl)<|Rv 2 b0 rfl J1 (fun _=>Ai rfl)<|Rv 3 b0 rfl J1 (fun _=>FV.nilCheck rfl)<|Rv 4 b0 rfl J1 (fun _=>Bb 2 rfl)<|bk h fun v2 y0 h=>RD.mf (α:=Value × (List Value) × Value × (List Value)) (fun ⟨U1,P1,V1,Q1⟩=>[(4,vP Y1),(5,vP Z1),(59,.pointer (some (Addr.add ⟨v4,0,none⟩ (K1.toNat * 6)))),(65,V1),(68,U1)]) (fun ⟨U1,P1,V1,Q1⟩=>[rr w 3 Int U1 (([a0.fN]:List Int).length) P1,rr w 3 Int V1 v2.length Q1,rr w 101 Tb v0 M1.length y2,.cells Z1 [vI a1.fe,vI a1.fh,vI a1.fj,v0] 44,.cells Y1 [vI 0,vI 0,vI 0,vN] 44]) (fun ⟨U1,P1,V1,Q1⟩ s4=>Cells s4 (bl [rr w 3 Int U1 (([a0.fN]:List Int).length) P1,rr w 3 Int V1 v2.length Q1,rr w 101 Tb v0 M1.length y2,.cells Z1 [vI a1.fe,vI a1.fh,vI a1.fj,v0] 44,.cells Y1 [vI 0,vI 0,vI 0,vN] 44] ++ L) P1 (([a0.fN]:List Int):List Int)/\Cells s4 (bl [rr w 3 Int U1 (([a0.fN]:List Int).length) P1,rr w 3 Int V1 v2.length Q1,rr w 101 Tb v0 M1.length y2,.cells Z1 [vI a1.fe,vI a1.fh,vI a1.fj,v0] 44,.cells Y1 [vI 0,vI 0,vI 0,vN] 44] ++ L) Q1 (v2:List Int)) u0 4 1023 ?_ ?_
 rintro ⟨U1,P1,V1,Q1⟩ s4 z4 X6 ⟨u7,v7⟩
 try dsimp only
 refine bk h fun y5 c9 h=>Bf (i:=10) (rk b0) (Bx (m' :=2047) (sk b0) rfl rfl .plain rfl (AZ (α:=Int) (ys:=([a0.fN]:List Int)) c9 z4 (fun _ _=>.t1) el45 rfl rfl v7 (Src.row (α:=Int) z4 .hd u7)) (fun q4 b02 ⟨d00,F2,Y6,x7⟩=>?_))
 refine Bf (i:=11) (rk b0) (Bs (m' :=4095) (sk b0) rfl .plain rfl (FV.nilCheck rfl) ?_)
 refine Bf (i:=12) (rk b0) (Bs (m' :=8191) (sk b0) rfl .plain rfl (Bb 2 rfl) ?_)
 have G2:=Bz F2 .t1
 have j4:=BB (α:=Int) (v:=q4) (xs:=y5) G2 L (Bj (α:=Int) F2 .t1 x7 hL)
 have J4:=Aw j1 (Tt g1 (Tt X6 (Tt Y6 (BA F2 .t1))))
 obtain ⟨I9,J7,b01,g00,p8,q01,D7⟩:=St.nthAt (α:=Tb) G2 .t1 J4 b1 Z0
 obtain ⟨s9,b5,c5,rfl,y01,q8,s8⟩:=op_Tb p8
 refine bk h fun x9 d9 h=>Bf (i:=13) (rk b0) (RO.acts (m' :=16383) (sk b0) rfl rfl .plain (Acts.setPart (α:=Tb) (i:=K1.toNat) (tot:=2) (ds:=[.string g0.fx,vI g0.fv,s9,b5,c5,.bool g0.fu]) (news:=[q4]) (full:=[.string g0.fx,vI g0.fv,q4,b5,c5,.bool g0.fu]) d9 G2 J7 (fun _=>.t1) J4 D7 rfl (by kernel_rfl) rfl rfl rfl (Rep.c1 j4) (mk_Tb g0.fx g0.fv y5 j4 g0.fF q8 g0.fC s8 g0.fu) (by kernel_rfl) (o1 (AO j4))) (fun c02 ⟨j00,H2,G00,y7⟩=>?_))
 refine AN (dk b0)<|AC<|Ac<|Ab (AH rfl (H2.memA .t2))<|AQ [vI a1.fe,vI a1.fh,vI a1.fj,v0] H2 .t3 (o4 rfl rfl rfl (St.o1 (α:=Tb) H2 .t1)) fun d02 I2 Z6=>Aa<|Al rfl ?_
 have d2:=Bz I2 .t1
 have H00:=BA I2 .t1
 have t8:=BB (α:=Tb) (v:=v0) (xs:=x9) d2 L (Bj (α:=Tb) I2 .t1 (Aw y7 Z6) hL)
 refine Am hb0 Tryz.func34 rfl (.cons (.many (cs:=[vI a1.fe,vI a1.fh,vI a1.fj,v0]) (by kernel_rfl) rfl (d2.memA .t2)) .nil) rfl ?_
 cases h
 exact ⟨d2.ag,fun p q=>⟨v0,rfl,d2.kd t8 q⟩⟩
 intro x0
 refine Bm [1,5,7] (rk b0) ⟨?_,?_,?_,trivial⟩
 refine BC (m' :=31) (sk b0) rfl .plain rfl (AK (α:=Int) (xs:=([]:List Int)) (vs:=[]) (ds' :=[]) rfl u0 el45 rfl evs_nil (by kernel_rfl) rfl) fun u1 p1 k0 j0=>?_
 have t0:=AB (cs:=[]) (xs:=(([]:List Int):List Int)) k0 L (AJ _ _)
 refine Bm [5,7] (rk b0) ⟨?_,?_,trivial⟩
 have v1:=Aw j1 (Tt g1 j0)
 obtain ⟨z1,C1,D1,A1,W0,V0,B1⟩:=St.nthAt (α:=Tb) k0 .t1 v1 b1 Z0
 obtain ⟨W1,F1,G1,rfl,K0,q1,E1⟩:=op_Tb W0
 refine Bs (m' :=63) (sk b0) rfl .plain rfl (AL rfl (V0 2 _ rfl))<|Bm [6,7] (rk b0) ⟨?_,?_,trivial⟩
 refine Bx (m' :=127) (sk b0) rfl rfl .plain rfl (AZ (α:=Int) (ys:=g0.fe) y0 k0 (fun _ _=>.hd) el45 rfl rfl t0 (BG K0)) fun Y0 H1 ⟨Q0,H0,R0,U0⟩=>Bf (i:=7) (rk b0) (Bs (m' :=255) (sk b0) rfl .plain rfl (Bb 2 rfl) ?_)
 refine Bf (i:=8) (rk b0) (Bs (m' :=511) (sk b0) rfl .plain rfl (AL rfl ((H0.memA .t5) 2 _ rfl)) ?_)
 refine BN 9 1023 b0 rfl .plain rfl (AK (α:=Int) (xs:=([a0.fN]:List Int)) (vs:=[vI a0.fN]) (ds' :=[vI a0.fN]) rfl H0 el45 rfl (e1 rfl) (by kernel_rfl) rfl) fun z0 p0 d0 c0=>?_
 have q0:=AB (cs:=[vI a0.fN]) (xs:=(([a0.fN]:List Int):List Int)) d0 L (Ar (cs:=[vI a0.fN]) (ds:=[]) rfl (AJ _ _))
 obtain ⟨M5,Z2⟩:=AG d0 (.a0 (.a0 (.a0 (.a0 (.a0 .done)))))
 exact x0 ((vS p0 1),[vI a0.fN],Y0,Q0) M5 (Tt j0 (Tt R0 (Tt c0 Z2))) ⟨(Aw q0 Z2),(Aw U0 (Tt c0 Z2))⟩
 refine Bs (m' :=191) (sk b0) rfl .plain rfl (Bb 2 rfl)<|Bm [6,8] (rk b0) ⟨?_,?_,trivial⟩
 refine Bx (m' :=255) (sk b0) rfl rfl .plain rfl (AZ (α:=Int) (ys:=g0.fe) y0 k0 (fun _ _=>.hd) el45 rfl rfl t0 (BG K0)) fun Y0 H1 ⟨Q0,H0,R0,U0⟩=>Bf (i:=8) (rk b0) (Bs (m' :=511) (sk b0) rfl .plain rfl (AL rfl ((H0.memA .t5) 2 _ rfl)) ?_)
 refine BN 9 1023 b0 rfl .plain rfl (AK (α:=Int) (xs:=([a0.fN]:List Int)) (vs:=[vI a0.fN]) (ds' :=[vI a0.fN]) rfl H0 el45 rfl (e1 rfl) (by kernel_rfl) rfl) fun z0 p0 d0 c0=>?_
 have q0:=AB (cs:=[vI a0.fN]) (xs:=(([a0.fN]:List Int):List Int)) d0 L (Ar (cs:=[vI a0.fN]) (ds:=[]) rfl (AJ _ _))
 obtain ⟨P5,b3⟩:=AG d0 (.a0 (.a0 (.a0 (.a0 (.a0 .done)))))
 exact x0 ((vS p0 1),[vI a0.fN],Y0,Q0) P5 (Tt j0 (Tt R0 (Tt c0 b3))) ⟨(Aw q0 b3),(Aw U0 (Tt c0 b3))⟩
 refine Bs (m' :=447) (sk b0) rfl .plain rfl (AL rfl ((k0.memA .t5) 2 _ rfl))<|Bm [6,9] (rk b0) ⟨?_,?_,trivial⟩
 refine Bx (m' :=511) (sk b0) rfl rfl .plain rfl (AZ (α:=Int) (ys:=g0.fe) y0 k0 (fun _ _=>.hd) el45 rfl rfl t0 (BG K0)) fun Y0 H1 ⟨Q0,H0,R0,U0⟩=>BN 9 1023 b0 rfl .plain rfl (AK (α:=Int) (xs:=([a0.fN]:List Int)) (vs:=[vI a0.fN]) (ds' :=[vI a0.fN]) rfl H0 el45 rfl (e1 rfl) (by kernel_rfl) rfl) fun z0 p0 d0 c0=>?_
 have q0:=AB (cs:=[vI a0.fN]) (xs:=(([a0.fN]:List Int):List Int)) d0 L (Ar (cs:=[vI a0.fN]) (ds:=[]) rfl (AJ _ _))
 obtain ⟨Q5,c3⟩:=AG d0 (.a0 (.a0 (.a0 (.a0 (.a0 .done)))))
 exact x0 ((vS p0 1),[vI a0.fN],Y0,Q0) Q5 (Tt j0 (Tt R0 (Tt c0 c3))) ⟨(Aw q0 c3),(Aw U0 (Tt c0 c3))⟩
 refine BC (m' :=959) (sk b0) rfl .plain rfl (AK (α:=Int) (xs:=([a0.fN]:List Int)) (vs:=[vI a0.fN]) (ds' :=[vI a0.fN]) rfl k0 el45 rfl (e1 rfl) (by kernel_rfl) rfl) fun z0 p0 d0 c0=>?_
 have q0:=AB (cs:=[vI a0.fN]) (xs:=(([a0.fN]:List Int):List Int)) d0 L (Ar (cs:=[vI a0.fN]) (ds:=[]) rfl (AJ _ _))
 have s0:=Ao K0 c0
 have P0:=Aw t0 c0
 refine Bf (i:=6) (rk b0) (Bx (m' :=1023) (sk b0) rfl rfl .plain rfl (AZ (α:=Int) (ys:=g0.fe) y0 d0 (fun _ _=>.t1) el45 rfl rfl P0 (BG s0)) (fun M0 y1 ⟨G0,I0,C0,J0⟩=>?_))
 obtain ⟨R5,d3⟩:=AG I0 (.a0 (.a0 (.a0 (.a0 (.a0 .done)))))
 exact x0 ((vS p0 1),[vI a0.fN],M0,G0) R5 (Tt j0 (Tt c0 (Tt C0 d3))) ⟨(Aw q0 (Tt C0 d3)),(Aw J0 d3)⟩
 refine Bs (m' :=159) (sk b0) rfl .plain rfl (Bb 2 rfl)<|Bm [5,8] (rk b0) ⟨?_,?_,trivial⟩
 have v1:=Aw j1 (Tt g1 j0)
 obtain ⟨z1,C1,D1,A1,W0,V0,B1⟩:=St.nthAt (α:=Tb) k0 .t1 v1 b1 Z0
 obtain ⟨W1,F1,G1,rfl,K0,q1,E1⟩:=op_Tb W0
 refine Bs (m' :=191) (sk b0) rfl .plain rfl (AL rfl (V0 2 _ rfl))<|Bm [6,8] (rk b0) ⟨?_,?_,trivial⟩
 refine Bx (m' :=255) (sk b0) rfl rfl .plain rfl (AZ (α:=Int) (ys:=g0.fe) y0 k0 (fun _ _=>.hd) el45 rfl rfl t0 (BG K0)) fun Y0 H1 ⟨Q0,H0,R0,U0⟩=>Bf (i:=8) (rk b0) (Bs (m' :=511) (sk b0) rfl .plain rfl (AL rfl ((H0.memA .t5) 2 _ rfl)) ?_)
 refine BN 9 1023 b0 rfl .plain rfl (AK (α:=Int) (xs:=([a0.fN]:List Int)) (vs:=[vI a0.fN]) (ds' :=[vI a0.fN]) rfl H0 el45 rfl (e1 rfl) (by kernel_rfl) rfl) fun z0 p0 d0 c0=>?_
 have q0:=AB (cs:=[vI a0.fN]) (xs:=(([a0.fN]:List Int):List Int)) d0 L (Ar (cs:=[vI a0.fN]) (ds:=[]) rfl (AJ _ _))
 obtain ⟨U5,g3⟩:=AG d0 (.a0 (.a0 (.a0 (.a0 (.a0 .done)))))
 exact x0 ((vS p0 1),[vI a0.fN],Y0,Q0) U5 (Tt j0 (Tt R0 (Tt c0 g3))) ⟨(Aw q0 g3),(Aw U0 (Tt c0 g3))⟩
 refine Bs (m' :=447) (sk b0) rfl .plain rfl (AL rfl ((k0.memA .t5) 2 _ rfl))<|Bm [6,9] (rk b0) ⟨?_,?_,trivial⟩
 refine Bx (m' :=511) (sk b0) rfl rfl .plain rfl (AZ (α:=Int) (ys:=g0.fe) y0 k0 (fun _ _=>.hd) el45 rfl rfl t0 (BG K0)) fun Y0 H1 ⟨Q0,H0,R0,U0⟩=>BN 9 1023 b0 rfl .plain rfl (AK (α:=Int) (xs:=([a0.fN]:List Int)) (vs:=[vI a0.fN]) (ds' :=[vI a0.fN]) rfl H0 el45 rfl (e1 rfl) (by kernel_rfl) rfl) fun z0 p0 d0 c0=>?_
 have q0:=AB (cs:=[vI a0.fN]) (xs:=(([a0.fN]:List Int):List Int)) d0 L (Ar (cs:=[vI a0.fN]) (ds:=[]) rfl (AJ _ _))
 obtain ⟨V5,j3⟩:=AG d0 (.a0 (.a0 (.a0 (.a0 (.a0 .done)))))
 exact x0 ((vS p0 1),[vI a0.fN],Y0,Q0) V5 (Tt j0 (Tt R0 (Tt c0 j3))) ⟨(Aw q0 j3),(Aw U0 (Tt c0 j3))⟩
 refine BC (m' :=959) (sk b0) rfl .plain rfl (AK (α:=Int) (xs:=([a0.fN]:List Int)) (vs:=[vI a0.fN]) (ds' :=[vI a0.fN]) rfl k0 el45 rfl (e1 rfl) (by kernel_rfl) rfl) fun z0 p0 d0 c0=>?_
 have q0:=AB (cs:=[vI a0.fN]) (xs:=(([a0.fN]:List Int):List Int)) d0 L (Ar (cs:=[vI a0.fN]) (ds:=[]) rfl (AJ _ _))
 have s0:=Ao K0 c0
 have P0:=Aw t0 c0
 refine Bf (i:=6) (rk b0) (Bx (m' :=1023) (sk b0) rfl rfl .plain rfl (AZ (α:=Int) (ys:=g0.fe) y0 d0 (fun _ _=>.t1) el45 rfl rfl P0 (BG s0)) (fun M0 y1 ⟨G0,I0,C0,J0⟩=>?_))
 obtain ⟨W5,k3⟩:=AG I0 (.a0 (.a0 (.a0 (.a0 (.a0 .done)))))
 exact x0 ((vS p0 1),[vI a0.fN],M0,G0) W5 (Tt j0 (Tt c0 (Tt C0 k3))) ⟨(Aw q0 (Tt C0 k3)),(Aw J0 k3)⟩
 refine Bs (m' :=415) (sk b0) rfl .plain rfl (AL rfl ((k0.memA .t5) 2 _ rfl))<|Bm [5,9] (rk b0) ⟨?_,?_,trivial⟩
 have v1:=Aw j1 (Tt g1 j0)
 obtain ⟨z1,C1,D1,A1,W0,V0,B1⟩:=St.nthAt (α:=Tb) k0 .t1 v1 b1 Z0
 obtain ⟨W1,F1,G1,rfl,K0,q1,E1⟩:=op_Tb W0
 refine Bs (m' :=447) (sk b0) rfl .plain rfl (AL rfl (V0 2 _ rfl))<|Bm [6,9] (rk b0) ⟨?_,?_,trivial⟩
 refine Bx (m' :=511) (sk b0) rfl rfl .plain rfl (AZ (α:=Int) (ys:=g0.fe) y0 k0 (fun _ _=>.hd) el45 rfl rfl t0 (BG K0)) fun Y0 H1 ⟨Q0,H0,R0,U0⟩=>BN 9 1023 b0 rfl .plain rfl (AK (α:=Int) (xs:=([a0.fN]:List Int)) (vs:=[vI a0.fN]) (ds' :=[vI a0.fN]) rfl H0 el45 rfl (e1 rfl) (by kernel_rfl) rfl) fun z0 p0 d0 c0=>?_
 have q0:=AB (cs:=[vI a0.fN]) (xs:=(([a0.fN]:List Int):List Int)) d0 L (Ar (cs:=[vI a0.fN]) (ds:=[]) rfl (AJ _ _))
 obtain ⟨X5,p3⟩:=AG d0 (.a0 (.a0 (.a0 (.a0 (.a0 .done)))))
 exact x0 ((vS p0 1),[vI a0.fN],Y0,Q0) X5 (Tt j0 (Tt R0 (Tt c0 p3))) ⟨(Aw q0 p3),(Aw U0 (Tt c0 p3))⟩
 refine BC (m' :=959) (sk b0) rfl .plain rfl (AK (α:=Int) (xs:=([a0.fN]:List Int)) (vs:=[vI a0.fN]) (ds' :=[vI a0.fN]) rfl k0 el45 rfl (e1 rfl) (by kernel_rfl) rfl) fun z0 p0 d0 c0=>?_
 have q0:=AB (cs:=[vI a0.fN]) (xs:=(([a0.fN]:List Int):List Int)) d0 L (Ar (cs:=[vI a0.fN]) (ds:=[]) rfl (AJ _ _))
 have s0:=Ao K0 c0
 have P0:=Aw t0 c0
 refine Bf (i:=6) (rk b0) (Bx (m' :=1023) (sk b0) rfl rfl .plain rfl (AZ (α:=Int) (ys:=g0.fe) y0 d0 (fun _ _=>.t1) el45 rfl rfl P0 (BG s0)) (fun M0 y1 ⟨G0,I0,C0,J0⟩=>?_))
 obtain ⟨Y5,q3⟩:=AG I0 (.a0 (.a0 (.a0 (.a0 (.a0 .done)))))
 exact x0 ((vS p0 1),[vI a0.fN],M0,G0) Y5 (Tt j0 (Tt c0 (Tt C0 q3))) ⟨(Aw q0 (Tt C0 q3)),(Aw J0 q3)⟩
 refine BC (m' :=927) (sk b0) rfl .plain rfl (AK (α:=Int) (xs:=([a0.fN]:List Int)) (vs:=[vI a0.fN]) (ds' :=[vI a0.fN]) rfl k0 el45 rfl (e1 rfl) (by kernel_rfl) rfl) fun z0 p0 d0 c0=>?_
 have q0:=AB (cs:=[vI a0.fN]) (xs:=(([a0.fN]:List Int):List Int)) d0 L (Ar (cs:=[vI a0.fN]) (ds:=[]) rfl (AJ _ _))
 have d4:=Tt g1 (Tt j0 c0)
 have c4:=Aw j1 d4
 obtain ⟨z1,C1,D1,A1,W0,V0,B1⟩:=St.nthAt (α:=Tb) d0 .t2 c4 b1 Z0
 obtain ⟨F1,G1,v5,rfl,q1,E1,U4⟩:=op_Tb W0
 refine Rx 5 15424 b0 rfl J1 (AL rfl (V0 2 _ rfl)) ?_
 have s0:=Aw t0 c0
 refine Bf (i:=6) (rk b0) (Bx (m' :=1023) (sk b0) rfl rfl .plain rfl (AZ (α:=Int) (ys:=g0.fe) y0 d0 (fun _ _=>.t1) el45 rfl rfl s0 (BG q1)) (fun F0 k1 ⟨D0,A0,B0,E0⟩=>?_))
 obtain ⟨Z5,s3⟩:=AG A0 (.a0 (.a0 (.a0 (.a0 (.a0 .done)))))
 exact x0 ((vS p0 1),[vI a0.fN],F0,D0) Z5 (Tt j0 (Tt c0 (Tt B0 s3))) ⟨(Aw q0 (Tt B0 s3)),(Aw E0 s3)⟩
 refine Bs (m' :=61) (sk b0) rfl .plain rfl (AL rfl (X1 2 _ rfl))<|Bm [1,7] (rk b0) ⟨?_,?_,trivial⟩
 refine BC (m' :=63) (sk b0) rfl .plain rfl (AK (α:=Int) (xs:=([]:List Int)) (vs:=[]) (ds' :=[]) rfl u0 el45 rfl evs_nil (by kernel_rfl) rfl) fun u1 p1 k0 j0=>?_
 have t0:=AB (cs:=[]) (xs:=(([]:List Int):List Int)) k0 L (AJ _ _)
 refine Bm [6,7] (rk b0) ⟨?_,?_,trivial⟩
 have s0:=Ao X0 j0
 refine Bx (m' :=127) (sk b0) rfl rfl .plain rfl (AZ (α:=Int) (ys:=g0.fe) y0 k0 (fun _ _=>.hd) el45 rfl rfl t0 (BG s0)) fun F0 k1 ⟨D0,A0,B0,E0⟩=>Bf (i:=7) (rk b0) (Bs (m' :=255) (sk b0) rfl .plain rfl (Bb 2 rfl) ?_)
 refine Bf (i:=8) (rk b0) (Bs (m' :=511) (sk b0) rfl .plain rfl (AL rfl ((A0.memA .t5) 2 _ rfl)) ?_)
 refine BN 9 1023 b0 rfl .plain rfl (AK (α:=Int) (xs:=([a0.fN]:List Int)) (vs:=[vI a0.fN]) (ds' :=[vI a0.fN]) rfl A0 el45 rfl (e1 rfl) (by kernel_rfl) rfl) fun z0 p0 d0 c0=>?_
 have q0:=AB (cs:=[vI a0.fN]) (xs:=(([a0.fN]:List Int):List Int)) d0 L (Ar (cs:=[vI a0.fN]) (ds:=[]) rfl (AJ _ _))
 obtain ⟨b6,u3⟩:=AG d0 (.a0 (.a0 (.a0 (.a0 (.a0 .done)))))
 exact x0 ((vS p0 1),[vI a0.fN],F0,D0) b6 (Tt j0 (Tt B0 (Tt c0 u3))) ⟨(Aw q0 u3),(Aw E0 (Tt c0 u3))⟩
 refine Bs (m' :=191) (sk b0) rfl .plain rfl (Bb 2 rfl)<|Bm [6,8] (rk b0) ⟨?_,?_,trivial⟩
 have s0:=Ao X0 j0
 refine Bx (m' :=255) (sk b0) rfl rfl .plain rfl (AZ (α:=Int) (ys:=g0.fe) y0 k0 (fun _ _=>.hd) el45 rfl rfl t0 (BG s0)) fun F0 k1 ⟨D0,A0,B0,E0⟩=>Bf (i:=8) (rk b0) (Bs (m' :=511) (sk b0) rfl .plain rfl (AL rfl ((A0.memA .t5) 2 _ rfl)) ?_)
 refine BN 9 1023 b0 rfl .plain rfl (AK (α:=Int) (xs:=([a0.fN]:List Int)) (vs:=[vI a0.fN]) (ds' :=[vI a0.fN]) rfl A0 el45 rfl (e1 rfl) (by kernel_rfl) rfl) fun z0 p0 d0 c0=>?_
 have q0:=AB (cs:=[vI a0.fN]) (xs:=(([a0.fN]:List Int):List Int)) d0 L (Ar (cs:=[vI a0.fN]) (ds:=[]) rfl (AJ _ _))
 obtain ⟨c6,v3⟩:=AG d0 (.a0 (.a0 (.a0 (.a0 (.a0 .done)))))
 exact x0 ((vS p0 1),[vI a0.fN],F0,D0) c6 (Tt j0 (Tt B0 (Tt c0 v3))) ⟨(Aw q0 v3),(Aw E0 (Tt c0 v3))⟩
 refine Bs (m' :=447) (sk b0) rfl .plain rfl (AL rfl ((k0.memA .t5) 2 _ rfl))<|Bm [6,9] (rk b0) ⟨?_,?_,trivial⟩
 have s0:=Ao X0 j0
 refine Bx (m' :=511) (sk b0) rfl rfl .plain rfl (AZ (α:=Int) (ys:=g0.fe) y0 k0 (fun _ _=>.hd) el45 rfl rfl t0 (BG s0)) fun F0 k1 ⟨D0,A0,B0,E0⟩=>BN 9 1023 b0 rfl .plain rfl (AK (α:=Int) (xs:=([a0.fN]:List Int)) (vs:=[vI a0.fN]) (ds' :=[vI a0.fN]) rfl A0 el45 rfl (e1 rfl) (by kernel_rfl) rfl) fun z0 p0 d0 c0=>?_
 have q0:=AB (cs:=[vI a0.fN]) (xs:=(([a0.fN]:List Int):List Int)) d0 L (Ar (cs:=[vI a0.fN]) (ds:=[]) rfl (AJ _ _))
 obtain ⟨d6,x3⟩:=AG d0 (.a0 (.a0 (.a0 (.a0 (.a0 .done)))))
 exact x0 ((vS p0 1),[vI a0.fN],F0,D0) d6 (Tt j0 (Tt B0 (Tt c0 x3))) ⟨(Aw q0 x3),(Aw E0 (Tt c0 x3))⟩
 refine BC (m' :=959) (sk b0) rfl .plain rfl (AK (α:=Int) (xs:=([a0.fN]:List Int)) (vs:=[vI a0.fN]) (ds' :=[vI a0.fN]) rfl k0 el45 rfl (e1 rfl) (by kernel_rfl) rfl) fun z0 p0 d0 c0=>?_
 have q0:=AB (cs:=[vI a0.fN]) (xs:=(([a0.fN]:List Int):List Int)) d0 L (Ar (cs:=[vI a0.fN]) (ds:=[]) rfl (AJ _ _))
 have s0:=Ao X0 (Tt j0 c0)
 have P0:=Aw t0 c0
 refine Bf (i:=6) (rk b0) (Bx (m' :=1023) (sk b0) rfl rfl .plain rfl (AZ (α:=Int) (ys:=g0.fe) y0 d0 (fun _ _=>.t1) el45 rfl rfl P0 (BG s0)) (fun M0 y1 ⟨G0,I0,C0,J0⟩=>?_))
 obtain ⟨g6,y3⟩:=AG I0 (.a0 (.a0 (.a0 (.a0 (.a0 .done)))))
 exact x0 ((vS p0 1),[vI a0.fN],M0,G0) g6 (Tt j0 (Tt c0 (Tt C0 y3))) ⟨(Aw q0 (Tt C0 y3)),(Aw J0 y3)⟩
 refine Bs (m' :=189) (sk b0) rfl .plain rfl (Bb 2 rfl)<|Bm [1,8] (rk b0) ⟨?_,?_,trivial⟩
 refine BC (m' :=191) (sk b0) rfl .plain rfl (AK (α:=Int) (xs:=([]:List Int)) (vs:=[]) (ds' :=[]) rfl u0 el45 rfl evs_nil (by kernel_rfl) rfl) fun u1 p1 k0 j0=>?_
 have t0:=AB (cs:=[]) (xs:=(([]:List Int):List Int)) k0 L (AJ _ _)
 refine Bm [6,8] (rk b0) ⟨?_,?_,trivial⟩
 have s0:=Ao X0 j0
 refine Bx (m' :=255) (sk b0) rfl rfl .plain rfl (AZ (α:=Int) (ys:=g0.fe) y0 k0 (fun _ _=>.hd) el45 rfl rfl t0 (BG s0)) fun F0 k1 ⟨D0,A0,B0,E0⟩=>Bf (i:=8) (rk b0) (Bs (m' :=511) (sk b0) rfl .plain rfl (AL rfl ((A0.memA .t5) 2 _ rfl)) ?_)
 refine BN 9 1023 b0 rfl .plain rfl (AK (α:=Int) (xs:=([a0.fN]:List Int)) (vs:=[vI a0.fN]) (ds' :=[vI a0.fN]) rfl A0 el45 rfl (e1 rfl) (by kernel_rfl) rfl) fun z0 p0 d0 c0=>?_
 have q0:=AB (cs:=[vI a0.fN]) (xs:=(([a0.fN]:List Int):List Int)) d0 L (Ar (cs:=[vI a0.fN]) (ds:=[]) rfl (AJ _ _))
 obtain ⟨j6,z3⟩:=AG d0 (.a0 (.a0 (.a0 (.a0 (.a0 .done)))))
 exact x0 ((vS p0 1),[vI a0.fN],F0,D0) j6 (Tt j0 (Tt B0 (Tt c0 z3))) ⟨(Aw q0 z3),(Aw E0 (Tt c0 z3))⟩
 refine Bs (m' :=447) (sk b0) rfl .plain rfl (AL rfl ((k0.memA .t5) 2 _ rfl))<|Bm [6,9] (rk b0) ⟨?_,?_,trivial⟩
 have s0:=Ao X0 j0
 refine Bx (m' :=511) (sk b0) rfl rfl .plain rfl (AZ (α:=Int) (ys:=g0.fe) y0 k0 (fun _ _=>.hd) el45 rfl rfl t0 (BG s0)) fun F0 k1 ⟨D0,A0,B0,E0⟩=>BN 9 1023 b0 rfl .plain rfl (AK (α:=Int) (xs:=([a0.fN]:List Int)) (vs:=[vI a0.fN]) (ds' :=[vI a0.fN]) rfl A0 el45 rfl (e1 rfl) (by kernel_rfl) rfl) fun z0 p0 d0 c0=>?_
 have q0:=AB (cs:=[vI a0.fN]) (xs:=(([a0.fN]:List Int):List Int)) d0 L (Ar (cs:=[vI a0.fN]) (ds:=[]) rfl (AJ _ _))
 obtain ⟨k6,A3⟩:=AG d0 (.a0 (.a0 (.a0 (.a0 (.a0 .done)))))
 exact x0 ((vS p0 1),[vI a0.fN],F0,D0) k6 (Tt j0 (Tt B0 (Tt c0 A3))) ⟨(Aw q0 A3),(Aw E0 (Tt c0 A3))⟩
 refine BC (m' :=959) (sk b0) rfl .plain rfl (AK (α:=Int) (xs:=([a0.fN]:List Int)) (vs:=[vI a0.fN]) (ds' :=[vI a0.fN]) rfl k0 el45 rfl (e1 rfl) (by kernel_rfl) rfl) fun z0 p0 d0 c0=>?_
 have q0:=AB (cs:=[vI a0.fN]) (xs:=(([a0.fN]:List Int):List Int)) d0 L (Ar (cs:=[vI a0.fN]) (ds:=[]) rfl (AJ _ _))
 have s0:=Ao X0 (Tt j0 c0)
 have P0:=Aw t0 c0
 refine Bf (i:=6) (rk b0) (Bx (m' :=1023) (sk b0) rfl rfl .plain rfl (AZ (α:=Int) (ys:=g0.fe) y0 d0 (fun _ _=>.t1) el45 rfl rfl P0 (BG s0)) (fun M0 y1 ⟨G0,I0,C0,J0⟩=>?_))
 obtain ⟨p6,B3⟩:=AG I0 (.a0 (.a0 (.a0 (.a0 (.a0 .done)))))
 exact x0 ((vS p0 1),[vI a0.fN],M0,G0) p6 (Tt j0 (Tt c0 (Tt C0 B3))) ⟨(Aw q0 (Tt C0 B3)),(Aw J0 B3)⟩
 refine Bs (m' :=445) (sk b0) rfl .plain rfl (AL rfl ((u0.memA .t4) 2 _ rfl))<|Bm [1,9] (rk b0) ⟨?_,?_,trivial⟩
 refine BC (m' :=447) (sk b0) rfl .plain rfl (AK (α:=Int) (xs:=([]:List Int)) (vs:=[]) (ds' :=[]) rfl u0 el45 rfl evs_nil (by kernel_rfl) rfl) fun u1 p1 k0 j0=>?_
 have t0:=AB (cs:=[]) (xs:=(([]:List Int):List Int)) k0 L (AJ _ _)
 refine Bm [6,9] (rk b0) ⟨?_,?_,trivial⟩
 have s0:=Ao X0 j0
 refine Bx (m' :=511) (sk b0) rfl rfl .plain rfl (AZ (α:=Int) (ys:=g0.fe) y0 k0 (fun _ _=>.hd) el45 rfl rfl t0 (BG s0)) fun F0 k1 ⟨D0,A0,B0,E0⟩=>BN 9 1023 b0 rfl .plain rfl (AK (α:=Int) (xs:=([a0.fN]:List Int)) (vs:=[vI a0.fN]) (ds' :=[vI a0.fN]) rfl A0 el45 rfl (e1 rfl) (by kernel_rfl) rfl) fun z0 p0 d0 c0=>?_
 have q0:=AB (cs:=[vI a0.fN]) (xs:=(([a0.fN]:List Int):List Int)) d0 L (Ar (cs:=[vI a0.fN]) (ds:=[]) rfl (AJ _ _))
 obtain ⟨q6,C3⟩:=AG d0 (.a0 (.a0 (.a0 (.a0 (.a0 .done)))))
 exact x0 ((vS p0 1),[vI a0.fN],F0,D0) q6 (Tt j0 (Tt B0 (Tt c0 C3))) ⟨(Aw q0 C3),(Aw E0 (Tt c0 C3))⟩
 refine BC (m' :=959) (sk b0) rfl .plain rfl (AK (α:=Int) (xs:=([a0.fN]:List Int)) (vs:=[vI a0.fN]) (ds' :=[vI a0.fN]) rfl k0 el45 rfl (e1 rfl) (by kernel_rfl) rfl) fun z0 p0 d0 c0=>?_
 have q0:=AB (cs:=[vI a0.fN]) (xs:=(([a0.fN]:List Int):List Int)) d0 L (Ar (cs:=[vI a0.fN]) (ds:=[]) rfl (AJ _ _))
 have s0:=Ao X0 (Tt j0 c0)
 have P0:=Aw t0 c0
 refine Bf (i:=6) (rk b0) (Bx (m' :=1023) (sk b0) rfl rfl .plain rfl (AZ (α:=Int) (ys:=g0.fe) y0 d0 (fun _ _=>.t1) el45 rfl rfl P0 (BG s0)) (fun M0 y1 ⟨G0,I0,C0,J0⟩=>?_))
 obtain ⟨s6,D3⟩:=AG I0 (.a0 (.a0 (.a0 (.a0 (.a0 .done)))))
 exact x0 ((vS p0 1),[vI a0.fN],M0,G0) s6 (Tt j0 (Tt c0 (Tt C0 D3))) ⟨(Aw q0 (Tt C0 D3)),(Aw J0 D3)⟩
 refine BC (m' :=957) (sk b0) rfl .plain rfl (AK (α:=Int) (xs:=([a0.fN]:List Int)) (vs:=[vI a0.fN]) (ds' :=[vI a0.fN]) rfl u0 el45 rfl (e1 rfl) (by kernel_rfl) rfl) fun z0 p0 d0 c0=>?_
 have q0:=AB (cs:=[vI a0.fN]) (xs:=(([a0.fN]:List Int):List Int)) d0 L (Ar (cs:=[vI a0.fN]) (ds:=[]) rfl (AJ _ _))
 refine BN 1 959 b0 rfl .plain rfl (AK (α:=Int) (xs:=([]:List Int)) (vs:=[]) (ds' :=[]) rfl d0 el45 rfl evs_nil (by kernel_rfl) rfl) fun u1 p1 k0 j0=>?_
 have t0:=AB (cs:=[]) (xs:=(([]:List Int):List Int)) k0 L (AJ _ _)
 have s0:=Ao X0 (Tt c0 j0)
 refine Bf (i:=6) (rk b0) (Bx (m' :=1023) (sk b0) rfl rfl .plain rfl (AZ (α:=Int) (ys:=g0.fe) y0 k0 (fun _ _=>.hd) el45 rfl rfl t0 (BG s0)) (fun F0 k1 ⟨D0,A0,B0,E0⟩=>?_))
 obtain ⟨t6,C4⟩:=AG A0 (.a1 (.a0 (.a0 (.a0 (.a0 .done)))))
 have M4:=Tt j0 (Tt B0 C4)
 exact x0 ((vS p0 1),[vI a0.fN],F0,D0) t6 (Tt c0 M4) ⟨(Aw q0 M4),(Aw E0 C4)⟩
 refine Bs (m' :=157) (sk b0) rfl .plain rfl (Bb 2 rfl)<|Bm [1,5,8] (rk b0) ⟨?_,?_,?_,trivial⟩
 refine BC (m' :=159) (sk b0) rfl .plain rfl (AK (α:=Int) (xs:=([]:List Int)) (vs:=[]) (ds' :=[]) rfl u0 el45 rfl evs_nil (by kernel_rfl) rfl) fun u1 p1 k0 j0=>?_
 have t0:=AB (cs:=[]) (xs:=(([]:List Int):List Int)) k0 L (AJ _ _)
 refine Bm [5,8] (rk b0) ⟨?_,?_,trivial⟩
 have v1:=Aw j1 (Tt g1 j0)
 obtain ⟨z1,C1,D1,A1,W0,V0,B1⟩:=St.nthAt (α:=Tb) k0 .t1 v1 b1 Z0
 obtain ⟨W1,F1,G1,rfl,K0,q1,E1⟩:=op_Tb W0
 refine Bs (m' :=191) (sk b0) rfl .plain rfl (AL rfl (V0 2 _ rfl))<|Bm [6,8] (rk b0) ⟨?_,?_,trivial⟩
 refine Bx (m' :=255) (sk b0) rfl rfl .plain rfl (AZ (α:=Int) (ys:=g0.fe) y0 k0 (fun _ _=>.hd) el45 rfl rfl t0 (BG K0)) fun Y0 H1 ⟨Q0,H0,R0,U0⟩=>Bf (i:=8) (rk b0) (Bs (m' :=511) (sk b0) rfl .plain rfl (AL rfl ((H0.memA .t5) 2 _ rfl)) ?_)
 refine BN 9 1023 b0 rfl .plain rfl (AK (α:=Int) (xs:=([a0.fN]:List Int)) (vs:=[vI a0.fN]) (ds' :=[vI a0.fN]) rfl H0 el45 rfl (e1 rfl) (by kernel_rfl) rfl) fun z0 p0 d0 c0=>?_
 have q0:=AB (cs:=[vI a0.fN]) (xs:=(([a0.fN]:List Int):List Int)) d0 L (Ar (cs:=[vI a0.fN]) (ds:=[]) rfl (AJ _ _))
 obtain ⟨u6,E3⟩:=AG d0 (.a0 (.a0 (.a0 (.a0 (.a0 .done)))))
 exact x0 ((vS p0 1),[vI a0.fN],Y0,Q0) u6 (Tt j0 (Tt R0 (Tt c0 E3))) ⟨(Aw q0 E3),(Aw U0 (Tt c0 E3))⟩
 refine Bs (m' :=447) (sk b0) rfl .plain rfl (AL rfl ((k0.memA .t5) 2 _ rfl))<|Bm [6,9] (rk b0) ⟨?_,?_,trivial⟩
 refine Bx (m' :=511) (sk b0) rfl rfl .plain rfl (AZ (α:=Int) (ys:=g0.fe) y0 k0 (fun _ _=>.hd) el45 rfl rfl t0 (BG K0)) fun Y0 H1 ⟨Q0,H0,R0,U0⟩=>BN 9 1023 b0 rfl .plain rfl (AK (α:=Int) (xs:=([a0.fN]:List Int)) (vs:=[vI a0.fN]) (ds' :=[vI a0.fN]) rfl H0 el45 rfl (e1 rfl) (by kernel_rfl) rfl) fun z0 p0 d0 c0=>?_
 have q0:=AB (cs:=[vI a0.fN]) (xs:=(([a0.fN]:List Int):List Int)) d0 L (Ar (cs:=[vI a0.fN]) (ds:=[]) rfl (AJ _ _))
 obtain ⟨v6,F3⟩:=AG d0 (.a0 (.a0 (.a0 (.a0 (.a0 .done)))))
 exact x0 ((vS p0 1),[vI a0.fN],Y0,Q0) v6 (Tt j0 (Tt R0 (Tt c0 F3))) ⟨(Aw q0 F3),(Aw U0 (Tt c0 F3))⟩
 refine BC (m' :=959) (sk b0) rfl .plain rfl (AK (α:=Int) (xs:=([a0.fN]:List Int)) (vs:=[vI a0.fN]) (ds' :=[vI a0.fN]) rfl k0 el45 rfl (e1 rfl) (by kernel_rfl) rfl) fun z0 p0 d0 c0=>?_
 have q0:=AB (cs:=[vI a0.fN]) (xs:=(([a0.fN]:List Int):List Int)) d0 L (Ar (cs:=[vI a0.fN]) (ds:=[]) rfl (AJ _ _))
 have s0:=Ao K0 c0
 have P0:=Aw t0 c0
 refine Bf (i:=6) (rk b0) (Bx (m' :=1023) (sk b0) rfl rfl .plain rfl (AZ (α:=Int) (ys:=g0.fe) y0 d0 (fun _ _=>.t1) el45 rfl rfl P0 (BG s0)) (fun M0 y1 ⟨G0,I0,C0,J0⟩=>?_))
 obtain ⟨x6,G3⟩:=AG I0 (.a0 (.a0 (.a0 (.a0 (.a0 .done)))))
 exact x0 ((vS p0 1),[vI a0.fN],M0,G0) x6 (Tt j0 (Tt c0 (Tt C0 G3))) ⟨(Aw q0 (Tt C0 G3)),(Aw J0 G3)⟩
 refine Bs (m' :=415) (sk b0) rfl .plain rfl (AL rfl ((k0.memA .t5) 2 _ rfl))<|Bm [5,9] (rk b0) ⟨?_,?_,trivial⟩
 have v1:=Aw j1 (Tt g1 j0)
 obtain ⟨z1,C1,D1,A1,W0,V0,B1⟩:=St.nthAt (α:=Tb) k0 .t1 v1 b1 Z0
 obtain ⟨W1,F1,G1,rfl,K0,q1,E1⟩:=op_Tb W0
 refine Bs (m' :=447) (sk b0) rfl .plain rfl (AL rfl (V0 2 _ rfl))<|Bm [6,9] (rk b0) ⟨?_,?_,trivial⟩
 refine Bx (m' :=511) (sk b0) rfl rfl .plain rfl (AZ (α:=Int) (ys:=g0.fe) y0 k0 (fun _ _=>.hd) el45 rfl rfl t0 (BG K0)) fun Y0 H1 ⟨Q0,H0,R0,U0⟩=>BN 9 1023 b0 rfl .plain rfl (AK (α:=Int) (xs:=([a0.fN]:List Int)) (vs:=[vI a0.fN]) (ds' :=[vI a0.fN]) rfl H0 el45 rfl (e1 rfl) (by kernel_rfl) rfl) fun z0 p0 d0 c0=>?_
 have q0:=AB (cs:=[vI a0.fN]) (xs:=(([a0.fN]:List Int):List Int)) d0 L (Ar (cs:=[vI a0.fN]) (ds:=[]) rfl (AJ _ _))
 obtain ⟨y6,H3⟩:=AG d0 (.a0 (.a0 (.a0 (.a0 (.a0 .done)))))
 exact x0 ((vS p0 1),[vI a0.fN],Y0,Q0) y6 (Tt j0 (Tt R0 (Tt c0 H3))) ⟨(Aw q0 H3),(Aw U0 (Tt c0 H3))⟩
 refine BC (m' :=959) (sk b0) rfl .plain rfl (AK (α:=Int) (xs:=([a0.fN]:List Int)) (vs:=[vI a0.fN]) (ds' :=[vI a0.fN]) rfl k0 el45 rfl (e1 rfl) (by kernel_rfl) rfl) fun z0 p0 d0 c0=>?_
 have q0:=AB (cs:=[vI a0.fN]) (xs:=(([a0.fN]:List Int):List Int)) d0 L (Ar (cs:=[vI a0.fN]) (ds:=[]) rfl (AJ _ _))
 have s0:=Ao K0 c0
 have P0:=Aw t0 c0
 refine Bf (i:=6) (rk b0) (Bx (m' :=1023) (sk b0) rfl rfl .plain rfl (AZ (α:=Int) (ys:=g0.fe) y0 d0 (fun _ _=>.t1) el45 rfl rfl P0 (BG s0)) (fun M0 y1 ⟨G0,I0,C0,J0⟩=>?_))
 obtain ⟨z6,I3⟩:=AG I0 (.a0 (.a0 (.a0 (.a0 (.a0 .done)))))
 exact x0 ((vS p0 1),[vI a0.fN],M0,G0) z6 (Tt j0 (Tt c0 (Tt C0 I3))) ⟨(Aw q0 (Tt C0 I3)),(Aw J0 I3)⟩
 refine BC (m' :=927) (sk b0) rfl .plain rfl (AK (α:=Int) (xs:=([a0.fN]:List Int)) (vs:=[vI a0.fN]) (ds' :=[vI a0.fN]) rfl k0 el45 rfl (e1 rfl) (by kernel_rfl) rfl) fun z0 p0 d0 c0=>?_
 have q0:=AB (cs:=[vI a0.fN]) (xs:=(([a0.fN]:List Int):List Int)) d0 L (Ar (cs:=[vI a0.fN]) (ds:=[]) rfl (AJ _ _))
 have d4:=Tt g1 (Tt j0 c0)
 have c4:=Aw j1 d4
 obtain ⟨z1,C1,D1,A1,W0,V0,B1⟩:=St.nthAt (α:=Tb) d0 .t2 c4 b1 Z0
 obtain ⟨F1,G1,v5,rfl,q1,E1,U4⟩:=op_Tb W0
 refine Rx 5 15424 b0 rfl J1 (AL rfl (V0 2 _ rfl)) ?_
 have s0:=Aw t0 c0
 refine Bf (i:=6) (rk b0) (Bx (m' :=1023) (sk b0) rfl rfl .plain rfl (AZ (α:=Int) (ys:=g0.fe) y0 d0 (fun _ _=>.t1) el45 rfl rfl s0 (BG q1)) (fun F0 k1 ⟨D0,A0,B0,E0⟩=>?_))
 obtain ⟨A6,J3⟩:=AG A0 (.a0 (.a0 (.a0 (.a0 (.a0 .done)))))
 exact x0 ((vS p0 1),[vI a0.fN],F0,D0) A6 (Tt j0 (Tt c0 (Tt B0 J3))) ⟨(Aw q0 (Tt B0 J3)),(Aw E0 J3)⟩
 refine Bs (m' :=189) (sk b0) rfl .plain rfl (AL rfl (X1 2 _ rfl))<|Bm [1,8] (rk b0) ⟨?_,?_,trivial⟩
 refine BC (m' :=191) (sk b0) rfl .plain rfl (AK (α:=Int) (xs:=([]:List Int)) (vs:=[]) (ds' :=[]) rfl u0 el45 rfl evs_nil (by kernel_rfl) rfl) fun u1 p1 k0 j0=>?_
 have t0:=AB (cs:=[]) (xs:=(([]:List Int):List Int)) k0 L (AJ _ _)
 refine Bm [6,8] (rk b0) ⟨?_,?_,trivial⟩
 have s0:=Ao X0 j0
 refine Bx (m' :=255) (sk b0) rfl rfl .plain rfl (AZ (α:=Int) (ys:=g0.fe) y0 k0 (fun _ _=>.hd) el45 rfl rfl t0 (BG s0)) fun F0 k1 ⟨D0,A0,B0,E0⟩=>Bf (i:=8) (rk b0) (Bs (m' :=511) (sk b0) rfl .plain rfl (AL rfl ((A0.memA .t5) 2 _ rfl)) ?_)
 refine BN 9 1023 b0 rfl .plain rfl (AK (α:=Int) (xs:=([a0.fN]:List Int)) (vs:=[vI a0.fN]) (ds' :=[vI a0.fN]) rfl A0 el45 rfl (e1 rfl) (by kernel_rfl) rfl) fun z0 p0 d0 c0=>?_
 have q0:=AB (cs:=[vI a0.fN]) (xs:=(([a0.fN]:List Int):List Int)) d0 L (Ar (cs:=[vI a0.fN]) (ds:=[]) rfl (AJ _ _))
 obtain ⟨B6,K3⟩:=AG d0 (.a0 (.a0 (.a0 (.a0 (.a0 .done)))))
 exact x0 ((vS p0 1),[vI a0.fN],F0,D0) B6 (Tt j0 (Tt B0 (Tt c0 K3))) ⟨(Aw q0 K3),(Aw E0 (Tt c0 K3))⟩
 refine Bs (m' :=447) (sk b0) rfl .plain rfl (AL rfl ((k0.memA .t5) 2 _ rfl))<|Bm [6,9] (rk b0) ⟨?_,?_,trivial⟩
 have s0:=Ao X0 j0
 refine Bx (m' :=511) (sk b0) rfl rfl .plain rfl (AZ (α:=Int) (ys:=g0.fe) y0 k0 (fun _ _=>.hd) el45 rfl rfl t0 (BG s0)) fun F0 k1 ⟨D0,A0,B0,E0⟩=>BN 9 1023 b0 rfl .plain rfl (AK (α:=Int) (xs:=([a0.fN]:List Int)) (vs:=[vI a0.fN]) (ds' :=[vI a0.fN]) rfl A0 el45 rfl (e1 rfl) (by kernel_rfl) rfl) fun z0 p0 d0 c0=>?_
 have q0:=AB (cs:=[vI a0.fN]) (xs:=(([a0.fN]:List Int):List Int)) d0 L (Ar (cs:=[vI a0.fN]) (ds:=[]) rfl (AJ _ _))
 obtain ⟨C6,M3⟩:=AG d0 (.a0 (.a0 (.a0 (.a0 (.a0 .done)))))
 exact x0 ((vS p0 1),[vI a0.fN],F0,D0) C6 (Tt j0 (Tt B0 (Tt c0 M3))) ⟨(Aw q0 M3),(Aw E0 (Tt c0 M3))⟩
 refine BC (m' :=959) (sk b0) rfl .plain rfl (AK (α:=Int) (xs:=([a0.fN]:List Int)) (vs:=[vI a0.fN]) (ds' :=[vI a0.fN]) rfl k0 el45 rfl (e1 rfl) (by kernel_rfl) rfl) fun z0 p0 d0 c0=>?_
 have q0:=AB (cs:=[vI a0.fN]) (xs:=(([a0.fN]:List Int):List Int)) d0 L (Ar (cs:=[vI a0.fN]) (ds:=[]) rfl (AJ _ _))
 have s0:=Ao X0 (Tt j0 c0)
 have P0:=Aw t0 c0
 refine Bf (i:=6) (rk b0) (Bx (m' :=1023) (sk b0) rfl rfl .plain rfl (AZ (α:=Int) (ys:=g0.fe) y0 d0 (fun _ _=>.t1) el45 rfl rfl P0 (BG s0)) (fun M0 y1 ⟨G0,I0,C0,J0⟩=>?_))
 obtain ⟨D6,P3⟩:=AG I0 (.a0 (.a0 (.a0 (.a0 (.a0 .done)))))
 exact x0 ((vS p0 1),[vI a0.fN],M0,G0) D6 (Tt j0 (Tt c0 (Tt C0 P3))) ⟨(Aw q0 (Tt C0 P3)),(Aw J0 P3)⟩
 refine Bs (m' :=445) (sk b0) rfl .plain rfl (AL rfl ((u0.memA .t4) 2 _ rfl))<|Bm [1,9] (rk b0) ⟨?_,?_,trivial⟩
 refine BC (m' :=447) (sk b0) rfl .plain rfl (AK (α:=Int) (xs:=([]:List Int)) (vs:=[]) (ds' :=[]) rfl u0 el45 rfl evs_nil (by kernel_rfl) rfl) fun u1 p1 k0 j0=>?_
 have t0:=AB (cs:=[]) (xs:=(([]:List Int):List Int)) k0 L (AJ _ _)
 refine Bm [6,9] (rk b0) ⟨?_,?_,trivial⟩
 have s0:=Ao X0 j0
 refine Bx (m' :=511) (sk b0) rfl rfl .plain rfl (AZ (α:=Int) (ys:=g0.fe) y0 k0 (fun _ _=>.hd) el45 rfl rfl t0 (BG s0)) fun F0 k1 ⟨D0,A0,B0,E0⟩=>BN 9 1023 b0 rfl .plain rfl (AK (α:=Int) (xs:=([a0.fN]:List Int)) (vs:=[vI a0.fN]) (ds' :=[vI a0.fN]) rfl A0 el45 rfl (e1 rfl) (by kernel_rfl) rfl) fun z0 p0 d0 c0=>?_
 have q0:=AB (cs:=[vI a0.fN]) (xs:=(([a0.fN]:List Int):List Int)) d0 L (Ar (cs:=[vI a0.fN]) (ds:=[]) rfl (AJ _ _))
 obtain ⟨E6,Q3⟩:=AG d0 (.a0 (.a0 (.a0 (.a0 (.a0 .done)))))
 exact x0 ((vS p0 1),[vI a0.fN],F0,D0) E6 (Tt j0 (Tt B0 (Tt c0 Q3))) ⟨(Aw q0 Q3),(Aw E0 (Tt c0 Q3))⟩
 refine BC (m' :=959) (sk b0) rfl .plain rfl (AK (α:=Int) (xs:=([a0.fN]:List Int)) (vs:=[vI a0.fN]) (ds' :=[vI a0.fN]) rfl k0 el45 rfl (e1 rfl) (by kernel_rfl) rfl) fun z0 p0 d0 c0=>?_
 have q0:=AB (cs:=[vI a0.fN]) (xs:=(([a0.fN]:List Int):List Int)) d0 L (Ar (cs:=[vI a0.fN]) (ds:=[]) rfl (AJ _ _))
 have s0:=Ao X0 (Tt j0 c0)
 have P0:=Aw t0 c0
 refine Bf (i:=6) (rk b0) (Bx (m' :=1023) (sk b0) rfl rfl .plain rfl (AZ (α:=Int) (ys:=g0.fe) y0 d0 (fun _ _=>.t1) el45 rfl rfl P0 (BG s0)) (fun M0 y1 ⟨G0,I0,C0,J0⟩=>?_))
 obtain ⟨F6,R3⟩:=AG I0 (.a0 (.a0 (.a0 (.a0 (.a0 .done)))))
 exact x0 ((vS p0 1),[vI a0.fN],M0,G0) F6 (Tt j0 (Tt c0 (Tt C0 R3))) ⟨(Aw q0 (Tt C0 R3)),(Aw J0 R3)⟩
 refine BC (m' :=957) (sk b0) rfl .plain rfl (AK (α:=Int) (xs:=([a0.fN]:List Int)) (vs:=[vI a0.fN]) (ds' :=[vI a0.fN]) rfl u0 el45 rfl (e1 rfl) (by kernel_rfl) rfl) fun z0 p0 d0 c0=>?_
 have q0:=AB (cs:=[vI a0.fN]) (xs:=(([a0.fN]:List Int):List Int)) d0 L (Ar (cs:=[vI a0.fN]) (ds:=[]) rfl (AJ _ _))
 refine BN 1 959 b0 rfl .plain rfl (AK (α:=Int) (xs:=([]:List Int)) (vs:=[]) (ds' :=[]) rfl d0 el45 rfl evs_nil (by kernel_rfl) rfl) fun u1 p1 k0 j0=>?_
 have t0:=AB (cs:=[]) (xs:=(([]:List Int):List Int)) k0 L (AJ _ _)
 have s0:=Ao X0 (Tt c0 j0)
 refine Bf (i:=6) (rk b0) (Bx (m' :=1023) (sk b0) rfl rfl .plain rfl (AZ (α:=Int) (ys:=g0.fe) y0 k0 (fun _ _=>.hd) el45 rfl rfl t0 (BG s0)) (fun F0 k1 ⟨D0,A0,B0,E0⟩=>?_))
 obtain ⟨G6,D4⟩:=AG A0 (.a1 (.a0 (.a0 (.a0 (.a0 .done)))))
 have P4:=Tt j0 (Tt B0 D4)
 exact x0 ((vS p0 1),[vI a0.fN],F0,D0) G6 (Tt c0 P4) ⟨(Aw q0 P4),(Aw E0 D4)⟩
 refine Bs (m' :=413) (sk b0) rfl .plain rfl (AL rfl ((u0.memA .t4) 2 _ rfl))<|Bm [1,5,9] (rk b0) ⟨?_,?_,?_,trivial⟩
 refine BC (m' :=415) (sk b0) rfl .plain rfl (AK (α:=Int) (xs:=([]:List Int)) (vs:=[]) (ds' :=[]) rfl u0 el45 rfl evs_nil (by kernel_rfl) rfl) fun u1 p1 k0 j0=>?_
 have t0:=AB (cs:=[]) (xs:=(([]:List Int):List Int)) k0 L (AJ _ _)
 refine Bm [5,9] (rk b0) ⟨?_,?_,trivial⟩
 have v1:=Aw j1 (Tt g1 j0)
 obtain ⟨z1,C1,D1,A1,W0,V0,B1⟩:=St.nthAt (α:=Tb) k0 .t1 v1 b1 Z0
 obtain ⟨W1,F1,G1,rfl,K0,q1,E1⟩:=op_Tb W0
 refine Bs (m' :=447) (sk b0) rfl .plain rfl (AL rfl (V0 2 _ rfl))<|Bm [6,9] (rk b0) ⟨?_,?_,trivial⟩
 refine Bx (m' :=511) (sk b0) rfl rfl .plain rfl (AZ (α:=Int) (ys:=g0.fe) y0 k0 (fun _ _=>.hd) el45 rfl rfl t0 (BG K0)) fun Y0 H1 ⟨Q0,H0,R0,U0⟩=>BN 9 1023 b0 rfl .plain rfl (AK (α:=Int) (xs:=([a0.fN]:List Int)) (vs:=[vI a0.fN]) (ds' :=[vI a0.fN]) rfl H0 el45 rfl (e1 rfl) (by kernel_rfl) rfl) fun z0 p0 d0 c0=>?_
 have q0:=AB (cs:=[vI a0.fN]) (xs:=(([a0.fN]:List Int):List Int)) d0 L (Ar (cs:=[vI a0.fN]) (ds:=[]) rfl (AJ _ _))
 obtain ⟨H6,U3⟩:=AG d0 (.a0 (.a0 (.a0 (.a0 (.a0 .done)))))
 exact x0 ((vS p0 1),[vI a0.fN],Y0,Q0) H6 (Tt j0 (Tt R0 (Tt c0 U3))) ⟨(Aw q0 U3),(Aw U0 (Tt c0 U3))⟩
 refine BC (m' :=959) (sk b0) rfl .plain rfl (AK (α:=Int) (xs:=([a0.fN]:List Int)) (vs:=[vI a0.fN]) (ds' :=[vI a0.fN]) rfl k0 el45 rfl (e1 rfl) (by kernel_rfl) rfl) fun z0 p0 d0 c0=>?_
 have q0:=AB (cs:=[vI a0.fN]) (xs:=(([a0.fN]:List Int):List Int)) d0 L (Ar (cs:=[vI a0.fN]) (ds:=[]) rfl (AJ _ _))
 have s0:=Ao K0 c0
 have P0:=Aw t0 c0
 refine Bf (i:=6) (rk b0) (Bx (m' :=1023) (sk b0) rfl rfl .plain rfl (AZ (α:=Int) (ys:=g0.fe) y0 d0 (fun _ _=>.t1) el45 rfl rfl P0 (BG s0)) (fun M0 y1 ⟨G0,I0,C0,J0⟩=>?_))
 obtain ⟨I6,V3⟩:=AG I0 (.a0 (.a0 (.a0 (.a0 (.a0 .done)))))
 exact x0 ((vS p0 1),[vI a0.fN],M0,G0) I6 (Tt j0 (Tt c0 (Tt C0 V3))) ⟨(Aw q0 (Tt C0 V3)),(Aw J0 V3)⟩
 refine BC (m' :=927) (sk b0) rfl .plain rfl (AK (α:=Int) (xs:=([a0.fN]:List Int)) (vs:=[vI a0.fN]) (ds' :=[vI a0.fN]) rfl k0 el45 rfl (e1 rfl) (by kernel_rfl) rfl) fun z0 p0 d0 c0=>?_
 have q0:=AB (cs:=[vI a0.fN]) (xs:=(([a0.fN]:List Int):List Int)) d0 L (Ar (cs:=[vI a0.fN]) (ds:=[]) rfl (AJ _ _))
 obtain ⟨z1,C1,D1,A1,W0,V0,B1⟩:=St.nthAt (α:=Tb) d0 .t2 (Aw j1 (Tt g1 (Tt j0 c0))) b1 Z0
 obtain ⟨F1,G1,v5,rfl,q1,E1,U4⟩:=op_Tb W0
 refine Rx 5 15424 b0 rfl J1 (AL rfl (V0 2 _ rfl)) ?_
 have s0:=Aw t0 c0
 refine Bf (i:=6) (rk b0) (Bx (m' :=1023) (sk b0) rfl rfl .plain rfl (AZ (α:=Int) (ys:=g0.fe) y0 d0 (fun _ _=>.t1) el45 rfl rfl s0 (BG q1)) (fun F0 k1 ⟨D0,A0,B0,E0⟩=>?_))
 obtain ⟨J6,W3⟩:=AG A0 (.a0 (.a0 (.a0 (.a0 (.a0 .done)))))
 exact x0 ((vS p0 1),[vI a0.fN],F0,D0) J6 (Tt j0 (Tt c0 (Tt B0 W3))) ⟨(Aw q0 (Tt B0 W3)),(Aw E0 W3)⟩
 refine Bs (m' :=445) (sk b0) rfl .plain rfl (AL rfl (X1 2 _ rfl))<|Bm [1,9] (rk b0) ⟨?_,?_,trivial⟩
 refine BC (m' :=447) (sk b0) rfl .plain rfl (AK (α:=Int) (xs:=([]:List Int)) (vs:=[]) (ds' :=[]) rfl u0 el45 rfl evs_nil (by kernel_rfl) rfl) fun u1 p1 k0 j0=>?_
 have t0:=AB (cs:=[]) (xs:=(([]:List Int):List Int)) k0 L (AJ _ _)
 refine Bm [6,9] (rk b0) ⟨?_,?_,trivial⟩
 have s0:=Ao X0 j0
 refine Bx (m' :=511) (sk b0) rfl rfl .plain rfl (AZ (α:=Int) (ys:=g0.fe) y0 k0 (fun _ _=>.hd) el45 rfl rfl t0 (BG s0)) fun F0 k1 ⟨D0,A0,B0,E0⟩=>BN 9 1023 b0 rfl .plain rfl (AK (α:=Int) (xs:=([a0.fN]:List Int)) (vs:=[vI a0.fN]) (ds' :=[vI a0.fN]) rfl A0 el45 rfl (e1 rfl) (by kernel_rfl) rfl) fun z0 p0 d0 c0=>?_
 have q0:=AB (cs:=[vI a0.fN]) (xs:=(([a0.fN]:List Int):List Int)) d0 L (Ar (cs:=[vI a0.fN]) (ds:=[]) rfl (AJ _ _))
 obtain ⟨K6,X3⟩:=AG d0 (.a0 (.a0 (.a0 (.a0 (.a0 .done)))))
 exact x0 ((vS p0 1),[vI a0.fN],F0,D0) K6 (Tt j0 (Tt B0 (Tt c0 X3))) ⟨(Aw q0 X3),(Aw E0 (Tt c0 X3))⟩
 refine BC (m' :=959) (sk b0) rfl .plain rfl (AK (α:=Int) (xs:=([a0.fN]:List Int)) (vs:=[vI a0.fN]) (ds' :=[vI a0.fN]) rfl k0 el45 rfl (e1 rfl) (by kernel_rfl) rfl) fun z0 p0 d0 c0=>?_
 have q0:=AB (cs:=[vI a0.fN]) (xs:=(([a0.fN]:List Int):List Int)) d0 L (Ar (cs:=[vI a0.fN]) (ds:=[]) rfl (AJ _ _))
 have s0:=Ao X0 (Tt j0 c0)
 refine Bf (i:=6) (rk b0) (Bx (m' :=1023) (sk b0) rfl rfl .plain rfl (AZ (α:=Int) (ys:=g0.fe) y0 d0 (fun _ _=>.t1) el45 rfl rfl (Aw t0 c0) (BG s0)) (fun M0 y1 ⟨G0,I0,C0,J0⟩=>?_))
 obtain ⟨M6,Y3⟩:=AG I0 (.a0 (.a0 (.a0 (.a0 (.a0 .done)))))
 exact x0 ((vS p0 1),[vI a0.fN],M0,G0) M6 (Tt j0 (Tt c0 (Tt C0 Y3))) ⟨(Aw q0 (Tt C0 Y3)),(Aw J0 Y3)⟩
 refine BC (m' :=957) (sk b0) rfl .plain rfl (AK (α:=Int) (xs:=([a0.fN]:List Int)) (vs:=[vI a0.fN]) (ds' :=[vI a0.fN]) rfl u0 el45 rfl (e1 rfl) (by kernel_rfl) rfl) fun z0 p0 d0 c0=>?_
 have q0:=AB (cs:=[vI a0.fN]) (xs:=(([a0.fN]:List Int):List Int)) d0 L (Ar (cs:=[vI a0.fN]) (ds:=[]) rfl (AJ _ _))
 refine BN 1 959 b0 rfl .plain rfl (AK (α:=Int) (xs:=([]:List Int)) (vs:=[]) (ds' :=[]) rfl d0 el45 rfl evs_nil (by kernel_rfl) rfl) fun u1 p1 k0 j0=>?_
 have t0:=AB (cs:=[]) (xs:=(([]:List Int):List Int)) k0 L (AJ _ _)
 have s0:=Ao X0 (Tt c0 j0)
 refine Bf (i:=6) (rk b0) (Bx (m' :=1023) (sk b0) rfl rfl .plain rfl (AZ (α:=Int) (ys:=g0.fe) y0 k0 (fun _ _=>.hd) el45 rfl rfl t0 (BG s0)) (fun F0 k1 ⟨D0,A0,B0,E0⟩=>?_))
 obtain ⟨P6,E4⟩:=AG A0 (.a1 (.a0 (.a0 (.a0 (.a0 .done)))))
 have Q4:=Tt j0 (Tt B0 E4)
 exact x0 ((vS p0 1),[vI a0.fN],F0,D0) P6 (Tt c0 Q4) ⟨(Aw q0 Q4),(Aw E0 E4)⟩
 refine BC (m' :=925) (sk b0) rfl .plain rfl (AK (α:=Int) (xs:=([a0.fN]:List Int)) (vs:=[vI a0.fN]) (ds' :=[vI a0.fN]) rfl u0 el45 rfl (e1 rfl) (by kernel_rfl) rfl) fun z0 p0 d0 c0=>?_
 have q0:=AB (cs:=[vI a0.fN]) (xs:=(([a0.fN]:List Int):List Int)) d0 L (Ar (cs:=[vI a0.fN]) (ds:=[]) rfl (AJ _ _))
 obtain ⟨z1,C1,D1,A1,W0,V0,B1⟩:=St.nthAt (α:=Tb) d0 .t1 (Aw j1 (Tt g1 c0)) b1 Z0
 obtain ⟨W1,F1,G1,rfl,K0,q1,E1⟩:=op_Tb W0
 refine Rx 5 15424 b0 rfl J1 (AL rfl (V0 2 _ rfl))<|BN 1 959 b0 rfl .plain rfl (AK (α:=Int) (xs:=([]:List Int)) (vs:=[]) (ds' :=[]) rfl d0 el45 rfl evs_nil (by kernel_rfl) rfl) fun u1 p1 k0 j0=>Bf (i:=6) (rk b0) (Bx (m' :=1023) (sk b0) rfl rfl .plain rfl (AZ (α:=Int) (ys:=g0.fe) y0 k0 (fun _ _=>.hd) el45 rfl rfl (AB (cs:=[]) (xs:=(([]:List Int):List Int)) k0 L (AJ _ _)) (BG (Ao K0 j0))) (fun F0 k1 ⟨D0,A0,B0,E0⟩=>?_))
 obtain ⟨Q6,F4⟩:=AG A0 (.a1 (.a0 (.a0 (.a0 (.a0 .done)))))
 have R4:=Tt j0 (Tt B0 F4)
 exact x0 ((vS p0 1),[vI a0.fN],F0,D0) Q6 (Tt c0 R4) ⟨(Aw q0 R4),(Aw E0 F4)⟩
 refine Ac<|Ab (BT (i:=(a0.fE % (7:UInt8)).toNat) (j:=3) rfl rfl)<|Af rfl<|Aa<|AT rfl h (fun E5 h=>?_) (fun E5 h=>?_)
 refine Av<|Ae rfl<|Ae rfl<|Ab (FV.nilCheck rfl)<|AR 5 rfl<|AP rfl (X1 5 _ rfl)<|Ab (Bp rfl)<|Ab (FV.nilCheck rfl)<|AR 5 rfl ?_
 obtain ⟨J9,K7,c01,k00,v8,s01,E7⟩:=St.nthAt (α:=Tb) u0 .hd I1 b1 Z0
 obtain ⟨d5,g5,j5,rfl,x8,y8,z8⟩:=op_Tb v8
 refine bk h fun y9 g9 h=>RG.acts' .plain (Acts.setPart (α:=Tb) (i:=K1.toNat) (tot:=5) (ds:=[.string g0.fx,vI g0.fv,d5,g5,j5,.bool g0.fu]) (news:=[.bool (!g0.fu)]) (full:=[.string g0.fx,vI g0.fv,d5,g5,j5,.bool (!g0.fu)]) g9 u0 K7 (fun _=>.hd) I1 E7 rfl (by kernel_rfl) rfl rfl rfl rfl (mk_Tb g0.fx g0.fv g0.fe x8 g0.fF y8 g0.fC z8 (!g0.fu)) (by kernel_rfl) (o1 rfl)) fun g02 ⟨p00,J2,J00,z7⟩=>Aa<|AC<|Ac<|Ab (AH rfl (J2.memA .t1))<|AQ [vI a1.fe,vI a1.fh,vI a1.fj,v0] J2 .t2 (o4 rfl rfl rfl (St.o1 (α:=Tb) J2 .hd)) fun j02 K2 b7=>Aa<|Al rfl ?_
 have g2:=Bz K2 .hd
 have K00:=BA K2 .hd
 have A8:=BB (α:=Tb) (v:=v0) (xs:=y9) g2 L (Bj (α:=Tb) K2 .hd (Aw z7 b7) hL)
 refine Am hb0 Tryz.func34 rfl (.cons (.many (cs:=[vI a1.fe,vI a1.fh,vI a1.fj,v0]) (by kernel_rfl) rfl (g2.memA .t1)) .nil) rfl ?_
 cases h
 exact ⟨g2.ag,fun p q=>⟨v0,rfl,g2.kd A8 q⟩⟩
 refine Ac<|Ab (BT (i:=(a0.fE % (7:UInt8)).toNat) (j:=4) rfl rfl)<|Af rfl<|Aa<|AT rfl h (fun F5 h=>?_) (fun F5 h=>?_)
 refine Av<|Ae rfl<|AR 3 rfl<|AP rfl ((u0.memA .t1) 3 _ rfl)<|bk h fun u4 W8 h=>?_
 obtain ⟨z5,K9,Z3,G4,q00,B8,X7⟩:=St.nth (α:=Tb) u0 .hd I1 W8
 obtain ⟨B5,M9,M7⟩:=BR (α:=Tb) u0 .hd G4
 obtain rfl:z5 = ⟨B5,0,none⟩:=by rw [M7] at Z3; cases Z3; rfl
 obtain ⟨F01,G01,H01,rfl,z01,A01,B01⟩:=op_Tb B8
 refine Ab (Bq 6 0 rfl Z3 rfl rfl G4)<|AR 0 rfl<|AP rfl (X7 0 _ rfl)<|Ab (FV.nilCheck rfl)<|AR 0 rfl ?_
 obtain ⟨P9,P7,d01,s00,C8,t01,F7⟩:=St.nthAt (α:=Tb) u0 .hd I1 b1 Z0
 obtain ⟨k5,p5,q5,rfl,D8,E8,F8⟩:=op_Tb C8
 refine bk h fun z9 j9 h=>RG.acts' .plain (Acts.setPart (α:=Tb) (i:=K1.toNat) (tot:=0) (ds:=[.string g0.fx,vI g0.fv,k5,p5,q5,.bool g0.fu]) (news:=[.string u4.fx]) (full:=[.string u4.fx,vI g0.fv,k5,p5,q5,.bool g0.fu]) j9 u0 P7 (fun _=>.hd) I1 F7 rfl (by kernel_rfl) rfl rfl rfl rfl (mk_Tb u4.fx g0.fv g0.fe D8 g0.fF E8 g0.fC F8 g0.fu) (by kernel_rfl) (o1 rfl)) fun k02 ⟨t00,M2,M00,A7⟩=>Aa<|AC<|Ac<|Ab (AH rfl (M2.memA .t1))<|AQ [vI a1.fe,vI a1.fh,vI a1.fj,v0] M2 .t2 (o4 rfl rfl rfl (St.o1 (α:=Tb) M2 .hd)) fun p02 P2 c7=>Aa<|Al rfl ?_
 have j2:=Bz P2 .hd
 have P00:=BA P2 .hd
 have G8:=BB (α:=Tb) (v:=v0) (xs:=z9) j2 L (Bj (α:=Tb) P2 .hd (Aw A7 c7) hL)
 refine Am hb0 Tryz.func34 rfl (.cons (.many (cs:=[vI a1.fe,vI a1.fh,vI a1.fj,v0]) (by kernel_rfl) rfl (j2.memA .t1)) .nil) rfl ?_
 cases h
 exact ⟨j2.ag,fun p q=>⟨v0,rfl,j2.kd G8 q⟩⟩
 refine Ac<|Ab (BT (i:=(a0.fE % (7:UInt8)).toNat) (j:=5) rfl rfl)<|Af rfl<|Aa<|AT rfl h (fun G5 h=>?_) (fun G5 h=>?_)
 refine Av<|AR 2 rfl<|AP rfl ((u0.memA .t4) 2 _ rfl)<|AR 2 rfl<|RG.now .plain (BQ (j:=2) (old:=[vI a1.fe,vI a1.fh,vI a1.fj,v0]) (news:=[vI a0.fN]) (new' :=[vI a1.fe,vI a1.fh,vI a0.fN,v0]) u0 .t1 rfl rfl rfl rfl rfl rfl (o1 rfl) rfl) fun q02 Q2 d7=>Aa<|AC<|Ac<|Ab (AH rfl (Q2.memA .t1))<|AQ [vI a1.fe,vI a1.fh,vI a0.fN,v0] Q2 .t2 (o4 rfl rfl rfl (St.o1 (α:=Tb) Q2 .hd)) fun s02 R2 g7=>Aa<|Al rfl ?_
 have k2:=Bz R2 .hd
 have Q00:=BA R2 .hd
 have H8:=BB (α:=Tb) (v:=v0) (xs:=M1) k2 L (Bj (α:=Tb) R2 .hd (Aw j1 (Tt g1 (Tt d7 g7))) hL)
 refine Am hb0 Tryz.func34 rfl (.cons (.many (cs:=[vI a1.fe,vI a1.fh,vI a0.fN,v0]) (by kernel_rfl) rfl (k2.memA .t1)) .nil) rfl ?_
 cases h
 exact ⟨k2.ag,fun p q=>⟨v0,rfl,k2.kd H8 q⟩⟩
 refine Av<|Ae rfl<|AR 2 rfl<|AP rfl ((u0.memA .t4) 2 _ rfl)<|Ak .plain rfl (AK (α:=Int) (xs:=([a0.fN]:List Int)) (vs:=[vI a0.fN]) (ds' :=[vI a0.fN]) rfl u0 el45 rfl (e1 rfl) (by kernel_rfl) rfl) fun t02 x2 p2 j7=>Ab (FV.nilCheck rfl)<|AR 4 rfl ?_
 have U2:=Bz p2 .hd
 have k4:=BB (α:=Int) (v:=(vS x2 1)) (xs:=([a0.fN]:List Int)) U2 L (Bj (α:=Int) p2 .hd (AB (cs:=[vI a0.fN]) (xs:=(([a0.fN]:List Int):List Int)) p2 L (Ar (cs:=[vI a0.fN]) (ds:=[]) rfl (AJ _ _))) hL)
 have K4:=Aw j1 (Tt g1 (Tt j7 (BA p2 .hd)))
 obtain ⟨Q9,Q7,g01,u00,I8,u01,G7⟩:=St.nthAt (α:=Tb) U2 .hd K4 b1 Z0
 obtain ⟨s5,u5,t9,rfl,J8,K8,C01⟩:=op_Tb I8
 refine bk h fun A9 k9 h=>RG.acts' .plain (Acts.setPart (α:=Tb) (i:=K1.toNat) (tot:=4) (ds:=[.string g0.fx,vI g0.fv,s5,u5,t9,.bool g0.fu]) (news:=[(vS x2 1)]) (full:=[.string g0.fx,vI g0.fv,s5,u5,(vS x2 1),.bool g0.fu]) k9 U2 Q7 (fun _=>.hd) K4 G7 rfl (by kernel_rfl) rfl rfl rfl (Rep.c1 k4) (mk_Tb g0.fx g0.fv g0.fe J8 g0.fF K8 ([a0.fN]:List Int) k4 g0.fu) (by kernel_rfl) (o1 (AO k4))) fun u02 ⟨v00,V2,R00,B7⟩=>Aa<|AC<|Ac<|Ab (AH rfl (V2.memA .t1))<|AQ [vI a1.fe,vI a1.fh,vI a1.fj,v0] V2 .t2 (o4 rfl rfl rfl (St.o1 (α:=Tb) V2 .hd)) fun v02 W2 k7=>Aa<|Al rfl ?_
 have q2:=Bz W2 .hd
 have U00:=BA W2 .hd
 have M8:=BB (α:=Tb) (v:=v0) (xs:=A9) q2 L (Bj (α:=Tb) W2 .hd (Aw B7 k7) hL)
 refine Am hb0 Tryz.func34 rfl (.cons (.many (cs:=[vI a1.fe,vI a1.fh,vI a1.fj,v0]) (by kernel_rfl) rfl (q2.memA .t1)) .nil) rfl ?_
 cases h
 exact ⟨q2.ag,fun p q=>⟨v0,rfl,q2.kd M8 q⟩⟩
end Go.Proofs.YtgejkdheojkfiaaGreatDoor
