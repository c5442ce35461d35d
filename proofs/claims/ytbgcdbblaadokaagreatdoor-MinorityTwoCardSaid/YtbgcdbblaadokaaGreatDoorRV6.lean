/- Functions of the program, and what they give: part 6. -/
import Derived.Test.YtbgcdbblaadokaaGreatDoorRV5
namespace Go.Proofs.YtbgcdbblaadokaaGreatDoor
open Go Go.RowKit
set_option maxRecDepth 4000
set_option maxHeartbeats 4000000

def tb121_6:List (Nat × Nat × Nat):=[(0,131072,32),(0,262144,8),(2,524288,262144),(1,0,131073),(15,0,524290)]
theorem body100:bodyB Tryz.prog 100 = true:=by kernel_rfl
theorem body101:bodyB Tryz.prog 101 = true:=by kernel_rfl
theorem body121:bodyB Tryz.prog 121 = true:=by kernel_rfl
def balance_Totals_p (n:Nat) (a0:TRoll) (a1:List Int) (a2:Int):Option ((List Int) × Int):=
  (balance_Totals_1_p n a0 a2 a1).bind fun c0=>exc c0 (fun d0=>some (d0,(0:Int))) (fun b0=>some (([]:List Int),b0.fH))
theorem balance_Totals_c (n:Nat) (L:List Nat) (w:World) (hL:∀ b ∈ L,b < w.heap.size) (a0:TRoll) {v0_3:Value} (h0_3:Rep.R w L [v0_3] a0.fE) (a1:List Int) {v1_0:Value} (h1_0:Rep.R w L [v1_0] a1) (a2:Int)  {r:(List Int) × Int} (h:balance_Totals_p n a0 a1 a2 = some r) :
    Calls Tryz.prog 80 #[.agg #[vI a0.fj,vI a0.fh,vI a0.fl,v0_3],v1_0,vI a2] w (Gives w fun w' u=>∃ v0_0:Value,u = .tuple #[v0_0,vI r.2]∧Rep.R w' L [v0_0] r.1):=by
 unfold balance_Totals_p at h
 have hS0:=Ax w
 refine AE Tryz.func80 rfl rfl rfl (fun _ cs0 hb0=>?_)
 refine Ac<|Ai .plain rfl (Ar hS0 rfl rfl) (fun R1 g0 D0 E1=>?_)
 have s1:=AP h1_0 D0
 refine Ai .plain rfl (Ar D0 rfl (Rep.c1 s1)) (fun Y1 j0 Q0 F1=>?_)
 refine Ai .plain rfl (Ar Q0 rfl rfl) (fun Z1 k0 R0 G1=>?_)
 refine Ah rfl<|Ah rfl<|Aa<|Ac<|Ab (BB (vs:=[]) (us:=[vP g0,vP k0,vP j0]) evs_nil (e3 rfl rfl rfl))<|Bc (fst:=[]) (cap:=[]) (vs:=[.func (.func 101) #[] #[vP g0,vP k0,vP j0]]) .plain body100 Tryz.func100 rfl rfl rfl rfl (e1 rfl) rfl (fun A1 E0 P1=>?_)
 refine Ac<|Ai .plain rfl (Au [vN] R0) (fun b2 p0 U0 H1=>?_)
 refine Ai .plain rfl (Au [vI 0] U0) (fun c2 d0 b0 I1=>?_)
 refine Aa<|Ac<|Ab (BB (vs:=[]) (us:=[vP p0,vP d0]) evs_nil (e2 rfl rfl))<|RG.defer (fst:=[]) (cap:=[vP p0,vP d0]) (vs:=[]) rfl .plain rfl evs_nil<|Aa<|Ac<|Ae rfl ?_
 obtain ⟨x1,G0,h⟩:=bi h
 rcases x1 with q0 | j2
 have h:=exc_e h
 try dsimp only at h
 refine Bg (fst:=[]) (cap:=[vP g0,vP k0,vP j0]) .plain body101 rfl evs_nil (fun w9 hw9=>balance_Totals_1_c n _ w9 (b0.hL hL hw9) a0 (b0.km h0_3 hw9) (fun j9 v9 h9=>hw9.cell0 ((b0.memA (.tl (.tl (.tl (.tl .hd))))) j9 v9 h9)) a2 (fun j9 v9 h9=>hw9.cell0 ((b0.memA (.tl (.tl .hd))) j9 v9 h9)) a1 (b0.km h1_0 hw9) (fun j9 v9 h9=>hw9.cell0 ((b0.memA (.tl (.tl (.tl .hd)))) j9 v9 h9)) G0) (fun d2 g1=>?_)
 obtain ⟨V0,J1⟩:=b0.agr g1
 refine PN.callD (vs:=[]) (cap:=[vP p0,vP d0]) body121 Tryz.func121 rfl rfl rfl (fun z1 j1 p1=>?_)
 refine Ac<|RG.recover1 .plain j1 rfl<|Ah rfl<|Aa<|Ac<|Ae rfl<|Ab (FV.neqI Tryz.underlying20 rfl rfl)<|Aa<|AV rfl<|Ac<|Ae rfl<|Ab (FV.assertT (by kernel_rfl) rfl)<|Ae rfl<|Ab (Ag rfl rfl)<|Ab (Ag rfl rfl)<|Ai .plain rfl (Au [vI 0] V0) (fun g2 H0 W0 K1=>?_)
 refine AL [vI q0.fH] W0 .hd (o1 rfl) (fun u1 v0 M1=>?_)
 refine Ah rfl<|Aa<|Ak<|Ac<|Ae rfl<|Ab (FV.not rfl)<|Aa<|Bu rfl<|Av<|Ac<|Ah rfl<|Aa<|dt 3 tb121_6 (fun c0 z0=>?_)
 refine Af 0 1 c0 rfl z0 (fun _=>Aj rfl) rfl<|Af 1 3 c0 rfl z0 (fun _=>AQ 0 rfl) rfl<|RD.meet (α:=Unit) (fun ()=>[(1,vP d0),(19,vI q0.fH)]) (fun () B0=>St w B0 [.cells d0 [vI 0] 35,.cells p0 [vN] 42,.cells k0 [vI a2] 3,.cells j0 [v1_0] 59,.cells g0 [vI a0.fj,vI a0.fh,vI a0.fl,v0_3] 28]∧Tr u1 [.cells H0 [vI q0.fH] 175,.cells d0 [vI 0] 35,.cells p0 [vN] 42,.cells k0 [vI a2] 3,.cells j0 [v1_0] 59,.cells g0 [vI a0.fj,vI a0.fh,vI a0.fl,v0_3] 28] B0 [.cells d0 [vI 0] 35,.cells p0 [vN] 42,.cells k0 [vI a2] 3,.cells j0 [v1_0] 59,.cells g0 [vI a0.fj,vI a0.fh,vI a0.fl,v0_3] 28]) 1 15 ?_ ?_
 rintro ⟨⟩ B0 ⟨I0,B1⟩
 try dsimp only
 refine Bq 4 31 c0 rfl rfl .plain (Aw (news:=[vI q0.fH]) I0 .hd rfl rfl rfl rfl rfl rfl (o1 rfl)) (fun U1 s0 C1=>?_)
 refine AH (dk c0)<|MX.fin rfl<|RT.leaveD1 p1 Tryz.func121 rfl .nil<|Al (u:=.tuple #[vN,vI q0.fH]) E0 Tryz.func100 rfl (.cons (.one (by kernel_rfl) rfl ((s0.memA (.tl .hd)) 0 _ rfl)) (.cons (.one (by kernel_rfl) rfl ((s0.memA .hd) 0 _ rfl)) .nil)) rfl<|Ab (Ag rfl rfl)<|Ab (Ag rfl rfl)<|Ah rfl<|Ah rfl<|Aa<|Am rfl ?_
 have t1:=Rep.nilAt (α:=Int) s0 L
 refine Al hb0 Tryz.func80 rfl (.cons (.tmp rfl) (.cons (.tmp rfl) .nil)) rfl ?_
 cases h
 exact ⟨s0.ag,fun w9 hw9=>⟨vN,rfl,s0.kd t1 hw9⟩⟩
 intro C0
 refine RD.each [2,3] (rk c0) ⟨?_,?_,trivial⟩
 refine RO.val (m' :=7) (sk c0) rfl .plain rfl (AJ rfl ((v0.memA .hd) 0 _ rfl))<|Bq 3 15 c0 rfl rfl .plain (Aw (news:=[vN]) v0 (.tl (.tl .hd)) rfl rfl rfl rfl rfl rfl (o1 rfl)) (fun v1 u0 x0=>?_)
 obtain ⟨J0,X0⟩:=AN u0 (.one (.tl .hd) (.one (.tl .hd) (.one (.tl .hd) (.one (.tl .hd) (.one (.tl .hd) .done)))))
 exact C0 () _ _ ⟨rfl,rfl,trivial⟩ ⟨J0,(Tt x0 X0)⟩
 refine RO.now (m' :=11) (sk c0) rfl rfl .plain (Aw (news:=[vN]) v0 (.tl (.tl .hd)) rfl rfl rfl rfl rfl rfl (o1 rfl)) (fun v1 u0 x0=>?_)
 refine AA 2 15 16 c0 rfl z0 (AJ rfl ((u0.memA .hd) 0 _ rfl)) rfl ?_
 obtain ⟨K0,Y0⟩:=AN u0 (.one (.tl .hd) (.one (.tl .hd) (.one (.tl .hd) (.one (.tl .hd) (.one (.tl .hd) .done)))))
 exact C0 () _ _ ⟨rfl,rfl,trivial⟩ ⟨K0,(Tt x0 Y0)⟩
 have h:=exc_o h
 try dsimp only at h
 refine By (fst:=[]) (cap:=[vP g0,vP k0,vP j0]) .plain body101 rfl evs_nil (fun w9 hw9=>AD (balance_Totals_1_c n _ w9 (b0.hL hL hw9) a0 (b0.km h0_3 hw9) (fun j9 v9 h9=>hw9.cell0 ((b0.memA (.tl (.tl (.tl (.tl .hd))))) j9 v9 h9)) a2 (fun j9 v9 h9=>hw9.cell0 ((b0.memA (.tl (.tl .hd))) j9 v9 h9)) a1 (b0.km h1_0 hw9) (fun j9 v9 h9=>hw9.cell0 ((b0.memA (.tl (.tl (.tl .hd)))) j9 v9 h9)) G0)) rfl (fun V1 A0 d1 ⟨Q1,hu_,y0⟩=>?_)
 subst hu_
 obtain ⟨M0,D1⟩:=b0.agr d1
 refine RG.now .plain (Aw (news:=[A0]) M0 (.tl .hd) rfl rfl rfl (Rep.c1 y0) rfl rfl (o1 (AU y0))) (fun W1 P0 Z0=>?_)
 refine AL [vI 0] P0 .hd (o1 rfl) (fun X1 t0 b1=>?_)
 refine Aa<|Am rfl<|RT.callD (vs:=[]) (cap:=[vP p0,vP d0]) body121 Tryz.func121 rfl rfl rfl (fun y1 F0 k1=>?_)
 refine Ac<|RG.recover0 .plain F0 rfl<|Ah rfl<|Aa<|Ac<|Ae rfl<|Ab (FV.neqI0 Tryz.underlying20 rfl rfl)<|Aa<|Bu rfl<|Av<|MX.fin rfl<|RT.leaveD0 F0 k1 Tryz.func121 rfl .nil<|Al (u:=.tuple #[A0,vI 0]) E0 Tryz.func100 rfl (.cons (.one (by kernel_rfl) rfl ((t0.memA (.tl .hd)) 0 _ rfl)) (.cons (.one (by kernel_rfl) rfl ((t0.memA .hd) 0 _ rfl)) .nil)) rfl<|Ab (Ag rfl rfl)<|Ab (Ag rfl rfl)<|Ah rfl<|Ah rfl<|Aa<|Am rfl<|Al hb0 Tryz.func80 rfl (.cons (.tmp rfl) (.cons (.tmp rfl) .nil)) rfl ?_
 cases h
 have q1:=Ay y0 (Tt Z0 b1)
 exact ⟨t0.ag,fun w9 hw9=>⟨A0,rfl,t0.kd q1 hw9⟩⟩
structure Tpart where
  fL:Int
  fall:Int
  deriving DecidableEq
instance:Rep Tpart:=Rep.via (β:=Int × Int) fun x=>(x.fL,x.fall)
def tb44_12:List (Nat × Nat × Nat):=[(0,9007199254740992,1024),(0,18014398509481984,16384),(3,36028797018963968,27021597764222976),(4,72057594037927936,36028797018963968),(8,144115188075855872,72057594037927936),(0,288230376151711744,16),(32,576460752303423488,288230376151711744),(0,1152921504606846976,8192),(192,2305843009213693952,1729382256910270464),(256,4611686018427387904,2305843009213693952),(512,9223372036854775808,4611686018427387904),(0,18446744073709551616,8),(3072,36893488147419103232,27670116110564327424),(4096,73786976294838206464,36893488147419103232),(8208,147573952589676412928,73931091482914062336),(32767,295147905179352825856,27021597764222976),(65535,590295810358705651712,295147905179352825856),(98303,0,737869762948382064640)]
theorem op_Tpart {w:World} {L:List Nat} {cs:List Value} {x:Tpart} (h:Rep.R w L cs x):cs = [vI x.fL,vI x.fall]:=by
  obtain ⟨c0,r0,rfl,h0,h⟩:=h
  have e0:c0 = [vI x.fL]:=h0; subst e0
  have e1:r0 = [vI x.fall]:=h; subst e1
  rfl
theorem mk_Tpart {w:World} {L:List Nat} (a0:Int) (a1:Int):Rep.R w L [vI a0,vI a1] (⟨a0,a1⟩:Tpart):=⟨[vI a0],[vI a1],rfl,rfl,rfl⟩
theorem el92:ElT Tryz.prog 92 95 (Rep.size Tpart) 16 (.agg #[vI 0,vI 0]) [vI 0,vI 0]:=⟨Tryz.underlying92,by kernel_rfl,rfl,rfl,rfl,rfl⟩
theorem body79:bodyB Tryz.prog 79 = true:=by kernel_rfl
theorem body80:bodyB Tryz.prog 80 = true:=by kernel_rfl
def minority_grouped_l1 (_n:Nat) (a1:List Int) (a0:TRoll) (a3:Int) (j0:Nat × (List Tpart) → Option (List Tpart)):Nat × (List Tpart) → Option (List Tpart)
  | (b0,c0)=>(if b0 < a1.length then (a1[b0]?).bind fun d0=>(idx c0 d0).bind fun g0=>(a0.fE[b0]?).bind fun p0=>(idx p0.fj a3).bind fun q0=>(chk (g0.fL + q0)).bind fun k0=>(put c0 ((d0.toNat:Nat):Int) (⟨k0,g0.fall⟩:Tpart)).bind fun s0=>j0 (b0 + 1,s0) else some c0)
def minority_grouped_l2 (_n:Nat) (d0:List Int) (g0:Nat × (List Tpart) → Option (List Tpart)):Nat × (List Tpart) → Option (List Tpart)
  | (b0,c0)=>(if b0 < d0.length then (d0[b0]?).bind fun j0=>(c0[b0]?).bind fun k0=>(put c0 ((b0:Nat):Int) (⟨k0.fL,j0⟩:Tpart)).bind fun p0=>g0 (b0 + 1,p0) else some c0)
def minority_grouped_p (n:Nat) (a0:TRoll) (a1:List Int) (a2:Int) (a3:Int):Option (Except Tbroken (List Tpart)):=
  (balance_Totals_p n a0 a1 a2).bind fun b0=>(minority_must_list_int_p n b0.1 b0.2).bind fun k0=>exc k0 (fun p0=>(if a3 < 0 then some (.error (⟨(2:Int)⟩:Tbroken)) else (if a0.fj ≤ a3 then some (.error (⟨(2:Int)⟩:Tbroken)) else (mk a2 (⟨(0:Int),(0:Int)⟩:Tpart)).bind fun j0=>Option.bind (loopF (minority_grouped_l2 n p0) n (0,j0)) (fun d0=>Option.bind (loopF (minority_grouped_l1 n a1 a0 a3) n (0,d0)) (fun g0=>some (.ok g0)))))) (fun c0=>some (.error c0))
theorem minority_grouped_c (n:Nat) (L:List Nat) (w:World) (hL:∀ b ∈ L,b < w.heap.size) (a0:TRoll) {v0_3:Value} (h0_3:Rep.R w L [v0_3] a0.fE) (a1:List Int) {v1_0:Value} (h1_0:Rep.R w L [v1_0] a1) (a2:Int) (a3:Int)  {r:Except Tbroken (List Tpart)} (h:minority_grouped_p n a0 a1 a2 a3 = some r) :
    Calls Tryz.prog 44 #[.agg #[vI a0.fj,vI a0.fh,vI a0.fl,v0_3],v1_0,vI a2,vI a3] w (PGives w (fun (y:List Tpart) w' u=>∃ v0_0:Value,u = v0_0∧Rep.R w' L [v0_0] y) (fun e=>.iface 110 (.agg #[vI e.fH])) r):=by
 unfold minority_grouped_p at h
 have hS0:=Ax w
 refine Bz Tryz.func44 rfl rfl rfl (fun _ cs0 hb0 hp0=>?_)
 refine Ac<|Ai .plain rfl (Ar hS0 rfl rfl) (fun k5 j0 x0 B4=>?_)
 refine Ah rfl<|Aa<|Ac<|Ab (Az rfl (x0.memA .hd))<|Ae rfl<|Ae rfl ?_
 obtain ⟨J0,F3,h⟩:=bi h
 refine By (fst:=[]) (cap:=[]) .plain body80 rfl (e3 rfl rfl rfl) (fun w9 hw9=>balance_Totals_c n _ w9 (x0.hL hL hw9) a0 (x0.km h0_3 hw9) a1 (x0.km h1_0 hw9) a2 F3) rfl (fun p5 j5 X1 ⟨Z4,hu_,j1⟩=>?_)
 subst hu_
 obtain ⟨A0,C4⟩:=x0.agr X1
 refine Ab (Ag rfl rfl)<|Ab (Ag rfl rfl) ?_
 obtain ⟨K3,u1,h⟩:=bi h
 rcases K3 with A4 | K0
 have h:=exc_e h
 try dsimp only at h
 refine Bg (fst:=[]) (cap:=[]) .plain body79 rfl (e2 rfl rfl) (fun w9 hw9=>minority_must_list_int_c n _ w9 (A0.hL hL hw9) J0.1 (Aq j1 hw9) J0.2 u1) (fun s5 Y1=>?_)
 obtain ⟨Q1,D4⟩:=A0.agr Y1
 cases h
 exact AG hp0 Tryz.func44 ⟨Q1.ag,rfl⟩
 have h:=exc_o h
 try dsimp only at h
 refine By (fst:=[]) (cap:=[]) .plain body79 rfl (e2 rfl rfl) (fun w9 hw9=>AD (minority_must_list_int_c n _ w9 (A0.hL hL hw9) J0.1 (Aq j1 hw9) J0.2 u1)) rfl (fun t5 G3 Z1 ⟨b5,hu_,k1⟩=>?_)
 subst hu_
 obtain ⟨B0,E4⟩:=A0.agr Z1
 refine Ah rfl<|Aa<|Ac<|Ae rfl<|Ab (FV.lss (i:=a3) (j:=0) rfl rfl)<|Ae rfl<|RG.ifd (s:=24) rfl h (fun D1 h=>?_) (fun D1 h=>?_)
 refine AO<|AO<|AO<|AO<|RG.pt rfl rfl<|Bc (fst:=[]) (cap:=[]) (vs:=[.bool true,vI 2]) .plain body39 Tryz.func39 rfl rfl rfl rfl (e2 rfl rfl) rfl (fun u4 G4 W2=>?_)
 refine Ac<|Ae rfl<|Aa<|AV rfl<|Ao<|Ae rfl<|Bc (fst:=[]) (cap:=[]) (vs:=[vI 2]) .plain body50 Tryz.func50 rfl rfl rfl rfl (e1 rfl) rfl (fun x4 H4 X2=>?_)
 refine Ac<|Ae rfl<|Ab (FV.neqN (i:=2) (j:=0) rfl rfl)<|Aa<|AV rfl<|Ao<|Ae rfl<|Ab (AK (vs:=[vI 2]) (u:=.agg #[vI 2]) (e1 rfl) (fun w9=>by kernel_rfl))<|Ab (Bn (by kernel_rfl) rfl)<|RG.panic .plain rfl<|AG X2 Tryz.func50<|AG W2 Tryz.func39 ?_
 cases h
 exact AG hp0 Tryz.func44 ⟨B0.ag,rfl⟩
 refine AW (Aj rfl)<|RG.fg 0 rfl<|AW (AJ rfl ((B0.memA .hd) 0 _ rfl))<|AW (FV.geq (i:=a3) (j:=a0.fj) rfl rfl)<|RG.pf rfl rfl<|Bc (fst:=[]) (cap:=[]) (vs:=[.bool (decide (a0.fj ≤ a3)),vI 2]) .plain body39 Tryz.func39 rfl rfl rfl rfl (e2 rfl rfl) rfl (fun y4 b2 Y2=>?_)
 refine Ac<|Ae rfl<|Aa<|AX rfl h (fun E1 h=>?_) (fun E1 h=>?_)
 refine Ao<|Ae rfl<|Bc (fst:=[]) (cap:=[]) (vs:=[vI 2]) .plain body50 Tryz.func50 rfl rfl rfl rfl (e1 rfl) rfl (fun z4 I4 Z2=>?_)
 refine Ac<|Ae rfl<|Ab (FV.neqN (i:=2) (j:=0) rfl rfl)<|Aa<|AV rfl<|Ao<|Ae rfl<|Ab (AK (vs:=[vI 2]) (u:=.agg #[vI 2]) (e1 rfl) (fun w9=>by kernel_rfl))<|Ab (Bn (by kernel_rfl) rfl)<|RG.panic .plain rfl<|AG Z2 Tryz.func50<|AG Y2 Tryz.func39 ?_
 cases h
 exact AG hp0 Tryz.func44 ⟨B0.ag,rfl⟩
 refine Av<|MX.fin rfl<|Al (u:=.tuple #[]) b2 Tryz.func39 rfl .nil rfl<|Aa<|Ac<|Ae rfl ?_
 obtain ⟨U0,s1,h⟩:=bi h
 refine Ai .plain rfl (Does.mk (α:=Tpart) s1 B0 el92 rfl) (fun H3 d0 V0 X0=>?_)
 have g2:=AM (cs:=(List.replicate a2.toNat [vI 0,vI 0]).flatten) (xs:=U0) V0 L (Cells.mk s1 (mk_Tpart (0:Int) (0:Int)))
 refine Ah rfl<|Aa<|Ak<|Ac<|Ae rfl ?_
 have g1:=Ay k1 X0
 have P4:K0.length ≤ 281474976710656:=Bi g1
 refine Ab (Bk (xs:=K0) Tryz.underlying42 rfl g1)<|Ae rfl<|Aa<|AB ?_
 obtain ⟨X4,U2,A2⟩:=bind_in2 h
 refine Bw (α:=Nat × (List Tpart) × (List Value)) (fun ⟨g0,q0,s0⟩=>[(1,v1_0),(3,vI a3),(4,vP j0),(10,(.slice (some ⟨d0,0,none⟩) a2.toNat a2.toNat)),(33,G3),(34,vI ((K0.length:Nat):Int)),(35,vI ((g0:Nat):Int))]) (fun ⟨g0,q0,s0⟩ y0=>St w y0 [.row w.heap.size 95 (Rep.size Tpart) (.slice (some ⟨d0,0,none⟩) a2.toNat a2.toNat) q0.length s0,.cells j0 [vI a0.fj,vI a0.fh,vI a0.fl,v0_3] 28]∧Tr H3 [.row w.heap.size 95 (Rep.size Tpart) (.slice (some ⟨d0,0,none⟩) a2.toNat a2.toNat) U0.length ((List.replicate a2.toNat [vI 0,vI 0]).flatten),.cells j0 [vI a0.fj,vI a0.fh,vI a0.fl,v0_3] 28] y0 [.row w.heap.size 95 (Rep.size Tpart) (.slice (some ⟨d0,0,none⟩) a2.toNat a2.toNat) q0.length s0,.cells j0 [vI a0.fj,vI a0.fh,vI a0.fl,v0_3] 28]∧Cells y0 (bl [.row w.heap.size 95 (Rep.size Tpart) (.slice (some ⟨d0,0,none⟩) a2.toNat a2.toNat) q0.length s0,.cells j0 [vI a0.fj,vI a0.fh,vI a0.fl,v0_3] 28] ++ L) s0 q0) (fun ⟨g0,q0,s0⟩=>(g0,q0)) (0,U0,(List.replicate a2.toNat [vI 0,vI 0]).flatten) U2 ⟨rfl,rfl,rfl,rfl,rfl,rfl,rfl,trivial⟩ ⟨V0,Bd _ _,g2⟩ ?_
 rintro U3 ⟨g0,q0,s0⟩ y0 K1 ⟨v0,W0,C0⟩ h
 unfold minority_grouped_l2 at h
 try dsimp only at h
 refine Ac<|Ab (Bm (i:=g0) (j:=K0.length) rfl rfl)<|Aa<|Ak<|AX rfl h (fun B1 h=>?_) (fun B1 h=>?_)
 refine Av<|Ak<|AB<|Ac<|Ae rfl ?_
 obtain ⟨G0,x3,h⟩:=bi h
 have I2:=Ay k1 (Tt X0 W0)
 obtain ⟨M3,W3,p2,D2,F1,b3,H2⟩:=Bo I2 x3
 have q2:F1 = [vI G0]:=b3; subst q2
 refine Ab (Bx 1 g0 rfl p2 rfl rfl D2)<|AZ rfl (H2 0 _ rfl)<|Ah rfl<|Ah rfl<|Aa<|Ao<|Ae rfl<|Ae rfl<|Ae rfl ?_
 obtain ⟨H0,p1,h⟩:=bi h
 obtain ⟨x1,X3,P0,c1,p4,c3,Q4⟩:=St.nth (α:=Tpart) v0 .hd C0 p1
 obtain ⟨z1,Y3,Y0⟩:=St.nthOwn (α:=Tpart) v0 .hd c1
 obtain rfl:x1 = ⟨z1,0,none⟩:=by rw [Y0] at P0; cases P0; rfl
 obtain rfl:=op_Tpart c3
 refine Ab (Bx 2 g0 rfl P0 rfl rfl c1)<|Bf 1 rfl ?_
 obtain ⟨Z3,s2,J4,q4,d3,R4,j2⟩:=St.nthAt (α:=Tpart) v0 .hd C0 p1 Y0
 obtain rfl:=op_Tpart d3
 obtain ⟨I3,D3,h⟩:=bi h
 refine RG.acts' .plain (Acts.setPart (α:=Tpart) (i:=g0) (tot:=1) (ds:=[vI H0.fL,vI H0.fall]) (news:=[vI G0]) (full:=[vI H0.fL,vI G0]) D3 v0 s2 (fun _=>.hd) C0 j2 rfl (by kernel_rfl) rfl rfl rfl rfl (mk_Tpart H0.fL G0) (by kernel_rfl) (o1 rfl)) (fun q5 ⟨G1,P1,U1,c2⟩=>?_)
 refine Aa<|AC<|Ao<|Ab (Bl (i:=g0) (j:=1) rfl rfl (by omega))<|Ae rfl<|Aa ?_
 exact K1 (g0 + 1,I3,G1) _ _ ⟨rfl,rfl,rfl,rfl,rfl,rfl,rfl,trivial⟩ ⟨P1,(Tt W0 U1),c2⟩ h
 refine Bj rfl ?_
 have h:=A2 _ h
 try dsimp only at h
 refine Ak<|Ac<|Ae rfl ?_
 have d1:=AP h1_0 v0
 have M4:a1.length ≤ 281474976710656:=Bi d1
 refine Ab (Bk (xs:=a1) Tryz.underlying59 rfl d1)<|Ae rfl<|Aa<|AB ?_
 obtain ⟨Y4,V2,B2⟩:=bind_in2 h
 refine Bw (α:=Nat × (List Tpart) × (List Value)) (fun ⟨p0,t0,u0⟩=>[(3,vI a3),(4,vP j0),(10,(.slice (some ⟨d0,0,none⟩) a2.toNat a2.toNat)),(46,v1_0),(47,vI ((a1.length:Nat):Int)),(48,vI ((p0:Nat):Int))]) (fun ⟨p0,t0,u0⟩ F0=>St w F0 [.row w.heap.size 95 (Rep.size Tpart) (.slice (some ⟨d0,0,none⟩) a2.toNat a2.toNat) t0.length u0,.cells j0 [vI a0.fj,vI a0.fh,vI a0.fl,v0_3] 28]∧Tr y0 [.row w.heap.size 95 (Rep.size Tpart) (.slice (some ⟨d0,0,none⟩) a2.toNat a2.toNat) q0.length s0,.cells j0 [vI a0.fj,vI a0.fh,vI a0.fl,v0_3] 28] F0 [.row w.heap.size 95 (Rep.size Tpart) (.slice (some ⟨d0,0,none⟩) a2.toNat a2.toNat) t0.length u0,.cells j0 [vI a0.fj,vI a0.fh,vI a0.fl,v0_3] 28]∧Cells F0 (bl [.row w.heap.size 95 (Rep.size Tpart) (.slice (some ⟨d0,0,none⟩) a2.toNat a2.toNat) t0.length u0,.cells j0 [vI a0.fj,vI a0.fh,vI a0.fl,v0_3] 28] ++ L) u0 t0) (fun ⟨p0,t0,u0⟩=>(p0,t0)) (0,q0,s0) V2 ⟨rfl,rfl,rfl,rfl,rfl,rfl,trivial⟩ ⟨v0,Bd _ _,C0⟩ ?_
 rintro V3 ⟨p0,t0,u0⟩ F0 M1 ⟨k0,V1,D0⟩ h
 unfold minority_grouped_l1 at h
 try dsimp only at h
 refine Ac<|Ab (Bm (i:=p0) (j:=a1.length) rfl rfl)<|Aa<|Ak<|AX rfl h (fun C1 h=>?_) (fun C1 h=>?_)
 refine Av<|Ak<|AB<|Ac<|Ae rfl ?_
 obtain ⟨I0,y3,h⟩:=bi h
 have K2:=AP h1_0 k0
 obtain ⟨P3,b4,t2,E2,H1,g3,J2⟩:=Bo K2 y3
 have u2:H1 = [vI I0]:=g3; subst u2
 refine Ab (Bx 1 p0 rfl t2 rfl rfl E2)<|AZ rfl (J2 0 _ rfl)<|Ah rfl<|Ah rfl<|Aa<|dt 17 tb44_12 (fun b0 c0=>?_)
 refine Af 0 1 b0 rfl c0 (fun _=>Aj rfl) rfl<|Af 1 3 b0 rfl c0 (fun _=>Aj rfl) rfl ?_
 obtain ⟨z0,z3,h⟩:=bi h
 obtain ⟨b1,q1⟩:=idx_in z3
 obtain ⟨y1,c4,E0,Q0,s4,j3,M2⟩:=St.nth (α:=Tpart) k0 .hd D0 q1
 obtain ⟨A1,d4,Z0⟩:=St.nthOwn (α:=Tpart) k0 .hd Q0
 obtain rfl:y1 = ⟨A1,0,none⟩:=by rw [Z0] at E0; cases E0; rfl
 obtain rfl:=op_Tpart j3
 refine Af 2 7 b0 rfl c0 (fun _=>Bx 2 (I0.toNat) rfl E0 rfl b1 Q0) rfl<|Af 3 15 b0 rfl c0 (fun _=>AQ 0 rfl) rfl<|AA 4 31 245760 b0 rfl c0 (AJ rfl (M2 0 _ rfl)) rfl<|Af 5 63 b0 rfl c0 (fun _=>AQ 3 rfl) rfl<|AA 6 127 259840 b0 rfl c0 (AJ rfl ((k0.memA (.tl .hd)) 3 _ rfl)) rfl<|Af 7 255 b0 rfl c0 (fun _=>Aj rfl) rfl ?_
 obtain ⟨v5,A3,h⟩:=bi h
 have Q2:=AP h0_3 k0
 obtain ⟨Q3,g4,v2,F2,t4,k3,P2⟩:=Bo Q2 A3
 obtain ⟨c5,d5,g5,rfl,p3,V4,W4⟩:=op_TUnit k3
 refine Af 8 511 b0 rfl c0 (fun _=>Bx 6 p0 rfl v2 rfl rfl F2) rfl<|Af 9 1023 b0 rfl c0 (fun _=>AQ 2 rfl) rfl<|AA 10 2047 258048 b0 rfl c0 (AJ rfl (P2 2 _ rfl)) rfl<|Af 11 4095 b0 rfl c0 (fun _=>Aj rfl) rfl ?_
 obtain ⟨v1,B3,h⟩:=bi h
 obtain ⟨C2,C3⟩:=idx_in B3
 obtain ⟨R3,j4,x2,G2,I1,q3,R2⟩:=Bo p3 C3
 have y2:I1 = [vI v1]:=q3; subst y2
 refine Af 12 8191 b0 rfl c0 (fun _=>Bx 1 (a3.toNat) rfl x2 rfl C2 G2) rfl<|AA 13 16383 245760 b0 rfl c0 (AJ rfl (R2 0 _ rfl)) rfl ?_
 obtain ⟨R0,v3,h⟩:=bi h
 refine Af 14 32767 b0 rfl c0 (fun _=>FV.addc (i:=z0.fL) (j:=v1) rfl rfl v3) rfl<|Af 15 65535 b0 rfl c0 (fun _=>Bx 2 (I0.toNat) rfl E0 rfl b1 Q0) rfl<|Af 16 131071 b0 rfl c0 (fun _=>AQ 0 rfl) rfl ?_
 obtain ⟨k4,z2,K4,v4,s3,U4,k2⟩:=St.nthAt (α:=Tpart) k0 .hd D0 q1 Z0
 obtain rfl:=op_Tpart s3
 obtain ⟨J3,E3,h⟩:=bi h
 refine BC (i:=17) (rk b0) (RO.acts (m' :=262143) (sk b0) rfl rfl .plain (Acts.setPart (α:=Tpart) (i:=I0.toNat) (tot:=0) (ds:=[vI z0.fL,vI z0.fall]) (news:=[vI R0]) (full:=[vI R0,vI z0.fall]) E3 k0 z2 (fun _=>.hd) D0 k2 rfl (by kernel_rfl) rfl rfl rfl rfl (mk_Tpart R0 z0.fall) (by kernel_rfl) (o1 rfl)) (fun u5 ⟨J1,R1,W1,d2⟩=>?_))
 refine AH (dk b0)<|AC<|Ao<|Ab (Bl (i:=p0) (j:=1) rfl rfl (by omega))<|Ae rfl<|Aa ?_
 exact M1 (p0 + 1,J3,J1) _ _ ⟨rfl,rfl,rfl,rfl,rfl,rfl,trivial⟩ ⟨R1,(Tt V1 W1),d2⟩ h
 refine Bj rfl ?_
 have h:=B2 _ h
 try dsimp only at h
 refine Ac<|Ae rfl<|Ah rfl<|Aa<|Am rfl ?_
 have t3:=Br (α:=Tpart) k0 .hd D0 hL
 have M0:=St.delS k0 .hd
 have F4:=St.delT k0 .hd
 have u3:=Rep.at_ (α:=Tpart) (v:=(.slice (some ⟨d0,0,none⟩) a2.toNat a2.toNat)) (xs:=t0) M0 L t3
 refine Be hb0 Tryz.func44 rfl rfl ?_
 cases h
 exact ⟨M0.ag,fun w9 hw9=>okOf_in ⟨(.slice (some ⟨d0,0,none⟩) a2.toNat a2.toNat),rfl,M0.kd u3 hw9⟩⟩
def minority_part_share_p (n:Nat) (a0:Tpart):Option (Except Tbroken TShare):=
  (if a0.fall = 0 then (minority_of_p n (0:Int) (1:Int)).bind fun d0=>exc d0 (fun g0=>some (.ok g0)) (fun b0=>some (.error b0)) else (minority_of_p n a0.fL a0.fall).bind fun j0=>exc j0 (fun k0=>some (.ok k0)) (fun c0=>some (.error c0)))
theorem minority_part_share_c (n:Nat) (L:List Nat) (w:World) (hL:∀ b ∈ L,b < w.heap.size) (a0:Tpart)  {r:Except Tbroken TShare} (h:minority_part_share_p n a0 = some r) :
    Calls Tryz.prog 45 #[.agg #[vI a0.fL,vI a0.fall]] w (PGives w (fun (y:TShare) _ u=>u = .agg ((cs_TShare y)).toArray) (fun e=>.iface 110 (.agg #[vI e.fH])) r):=by
 unfold minority_part_share_p at h
 have hS0:=Ax w
 refine Bz Tryz.func45 rfl rfl rfl (fun _ cs0 hb0 hp0=>?_)
 refine Ac<|Ai .plain rfl (Ar hS0 rfl rfl) (fun K0 A0 s0 E0=>?_)
 refine Ai .plain rfl (Au zL s0) (fun M0 B0 b0 F0=>?_)
 refine Aa<|Ak<|Ac<|Bf 1 rfl<|AZ rfl ((b0.memA (.tl .hd)) 1 _ rfl)<|Ab (FV.eql (i:=a0.fall) (j:=0) rfl rfl)<|Aa<|AX rfl h (fun q0 h=>?_) (fun q0 h=>?_)
 refine Ac ?_
 obtain ⟨y0,k0,h⟩:=bi h
 rcases y0 with C0 | c0
 have h:=exc_e h
 try dsimp only at h
 refine Bg (fst:=[]) (cap:=[]) .plain body31 rfl (e2 rfl rfl) (fun w9 hw9=>minority_of_c n _ w9 (b0.hL0 hL hw9) (0:Int) (1:Int) k0) (fun P0 v0=>?_)
 obtain ⟨t0,G0⟩:=b0.agr v0
 cases h
 exact AG hp0 Tryz.func45 ⟨t0.ag,rfl⟩
 have h:=exc_o h
 try dsimp only at h
 refine Ba (.agg ((cs_TShare c0)).toArray) body31 rfl (e2 rfl rfl) (fun w9 hw9=>AD (minority_of_c n _ w9 (b0.hL0 hL hw9) (0:Int) (1:Int) k0)) rfl<|AL (cs_TShare c0) b0 .hd (onesB rfl) (fun Q0 g0 H0=>?_)
 refine Aa<|Am rfl<|Al hb0 Tryz.func45 rfl (.cons (.many (cs:=(cs_TShare c0)) (by kernel_rfl) rfl (g0.memA .hd)) .nil) rfl ?_
 cases h
 exact ⟨g0.ag,fun w9 hw9=>okOf_in rfl⟩
 refine Av<|Ac<|Bf 0 rfl<|AZ rfl ((b0.memA (.tl .hd)) 0 _ rfl)<|Bf 1 rfl<|AZ rfl ((b0.memA (.tl .hd)) 1 _ rfl) ?_
 obtain ⟨z0,p0,h⟩:=bi h
 rcases z0 with D0 | d0
 have h:=exc_e h
 try dsimp only at h
 refine Bg (fst:=[]) (cap:=[]) .plain body31 rfl (e2 rfl rfl) (fun w9 hw9=>minority_of_c n _ w9 (b0.hL0 hL hw9) a0.fL a0.fall p0) (fun R0 x0=>?_)
 obtain ⟨u0,I0⟩:=b0.agr x0
 cases h
 exact AG hp0 Tryz.func45 ⟨u0.ag,rfl⟩
 have h:=exc_o h
 try dsimp only at h
 refine Ba (.agg ((cs_TShare d0)).toArray) body31 rfl (e2 rfl rfl) (fun w9 hw9=>AD (minority_of_c n _ w9 (b0.hL0 hL hw9) a0.fL a0.fall p0)) rfl<|AL (cs_TShare d0) b0 .hd (onesB rfl) (fun U0 j0 J0=>?_)
 refine Aa<|Am rfl<|Al hb0 Tryz.func45 rfl (.cons (.many (cs:=(cs_TShare d0)) (by kernel_rfl) rfl (j0.memA .hd)) .nil) rfl ?_
 cases h
 exact ⟨j0.ag,fun w9 hw9=>okOf_in rfl⟩
theorem body44:bodyB Tryz.prog 44 = true:=by kernel_rfl
theorem body45:bodyB Tryz.prog 45 = true:=by kernel_rfl
def minority_Shares_1_l1 (n:Nat) (d0:List Tpart) (g0:Nat × (List TShare) → Option ((Except Tbroken (List TShare)) ⊕ (List TShare))):Nat × (List TShare) → Option ((Except Tbroken (List TShare)) ⊕ (List TShare))
  | (b0,c0)=>(if b0 < d0.length then (d0[b0]?).bind fun k0=>(minority_part_share_p n k0).bind fun q0=>exc q0 (fun s0=>(app c0 ([s0]:List TShare)).bind fun p0=>g0 (b0 + 1,p0)) (fun j0=>some (.inl (.error j0))) else some (.inr c0))
def minority_Shares_1_p (n:Nat) (a0:TRoll) (a1:List Int) (a2:Int) (a3:Int):Option (Except Tbroken (List TShare)):=
  (minority_grouped_p n a0 a1 a2 a3).bind fun y1=>exc y1 (fun d0=>thn (loopF (minority_Shares_1_l1 n d0) n (0,([]:List TShare))) (fun c0=>some (.ok c0))) (fun b0=>some (.error b0))
theorem minority_Shares_1_c (n:Nat) (L:List Nat) (w:World) (hL:∀ b ∈ L,b < w.heap.size) (a0:TRoll) {v0_3:Value} (h0_3:Rep.R w L [v0_3] a0.fE) {p0:Nat} (m0:∀ j9 v9,([vI a0.fj,vI a0.fh,vI a0.fl,v0_3]:List Value)[j9]? = some v9 → w.cell? ((⟨p0,0,none⟩:Addr).add j9) = some v9) (a1:List Int) {v1_0:Value} (h1_0:Rep.R w L [v1_0] a1) {p1:Nat} (m1:∀ j9 v9,([v1_0]:List Value)[j9]? = some v9 → w.cell? ((⟨p1,0,none⟩:Addr).add j9) = some v9) (a2:Int) {p2:Nat} (m2:∀ j9 v9,([vI a2]:List Value)[j9]? = some v9 → w.cell? ((⟨p2,0,none⟩:Addr).add j9) = some v9) (a3:Int) {p3:Nat} (m3:∀ j9 v9,([vI a3]:List Value)[j9]? = some v9 → w.cell? ((⟨p3,0,none⟩:Addr).add j9) = some v9)  {r:Except Tbroken (List TShare)} (h:minority_Shares_1_p n a0 a1 a2 a3 = some r) :
    Calls Tryz.prog 43 #[.pointer (some ⟨p0,0,none⟩),.pointer (some ⟨p1,0,none⟩),.pointer (some ⟨p2,0,none⟩),.pointer (some ⟨p3,0,none⟩)] w (PGives w (fun (y:List TShare) w' u=>∃ v0_0:Value,u = v0_0∧Rep.R w' L [v0_0] y) (fun e=>.iface 110 (.agg #[vI e.fH])) r):=by
 unfold minority_Shares_1_p at h
 have hS0:=Ax w
 refine Bz Tryz.func43 rfl rfl rfl (fun _ cs0 hb0 hp0=>?_)
 refine Ac<|Ah rfl<|Aa<|Ak<|Ac<|Ab (Az rfl (fun j9 v9 h9=>hS0.ag.cell0 (m0 j9 v9 h9)))<|AZ rfl ((fun j9 v9 h9=>hS0.ag.cell0 (m1 j9 v9 h9)) 0 _ rfl)<|AZ rfl ((fun j9 v9 h9=>hS0.ag.cell0 (m2 j9 v9 h9)) 0 _ rfl)<|AZ rfl ((fun j9 v9 h9=>hS0.ag.cell0 (m3 j9 v9 h9)) 0 _ rfl) ?_
 obtain ⟨y1,hy1,h⟩:=bi h
 rcases y1 with W1 | u0
 have h:=exc_e h
 try dsimp only at h
 refine Bg (fst:=[]) (cap:=[]) .plain body44 rfl (e4 rfl rfl rfl rfl) (fun w9 hw9=>minority_grouped_c n _ w9 (hS0.hL hL hw9) a0 (Aq h0_3 hw9) a1 (Aq h1_0 hw9) a2 a3 hy1) (fun k2 Z0=>?_)
 obtain ⟨K0,Y1⟩:=hS0.agr Z0
 cases h
 exact AG hp0 Tryz.func43 ⟨K0.ag,rfl⟩
 have h:=exc_o h
 try dsimp only at h
 refine By (fst:=[]) (cap:=[]) .plain body44 rfl (e4 rfl rfl rfl rfl) (fun w9 hw9=>AD (minority_grouped_c n _ w9 (hS0.hL hL hw9) a0 (Aq h0_3 hw9) a1 (Aq h1_0 hw9) a2 a3 hy1)) rfl (fun I1 H1 c1 ⟨j2,hu_,y0⟩=>?_)
 subst hu_
 obtain ⟨z0,c2⟩:=hS0.agr c1
 have d2:u0.length ≤ 281474976710656:=Bi y0
 refine Ab (Bk (xs:=u0) Tryz.underlying92 rfl y0)<|Ae rfl<|Aa<|AB ?_
 have A0:=z0.nilRow 34 (Rep.size TShare)
 have Y0:=St.nilRowT z0 34 (Rep.size TShare)
 have j1:=AM (cs:=[]) (xs:=([]:List TShare)) A0 L (AS _ _)
 obtain ⟨g2,z1,E0⟩:=thn_in h
 refine Bw (α:=Nat × (List TShare) × Value × (List Value)) (fun ⟨c0,g0,d0,j0⟩=>[(4,d0),(11,H1),(12,vI ((u0.length:Nat):Int)),(13,vI ((c0:Nat):Int))]) (fun ⟨c0,g0,d0,j0⟩ s0=>St w s0 [.row w.heap.size 34 (Rep.size TShare) d0 g0.length j0]∧Tr I1 [.row w.heap.size 34 (Rep.size TShare) vN (([]:List TShare).length) []] s0 [.row w.heap.size 34 (Rep.size TShare) d0 g0.length j0]∧Cells s0 (bl [.row w.heap.size 34 (Rep.size TShare) d0 g0.length j0] ++ L) j0 g0) (fun ⟨c0,g0,d0,j0⟩=>(c0,g0)) (0,([]:List TShare),vN,[]) z1 ⟨rfl,rfl,rfl,rfl,trivial⟩ ⟨A0,Bd _ _,j1⟩ ?_
 rintro P1 ⟨c0,g0,d0,j0⟩ s0 J0 ⟨q0,B0,D0⟩ h
 unfold minority_Shares_1_l1 at h
 try dsimp only at h
 refine Ac<|Ab (Bm (i:=c0) (j:=u0.length) rfl rfl)<|Aa<|Ak<|AX rfl h (fun H0 h=>?_) (fun H0 h=>?_)
 refine Av<|Ak<|AB<|Ac ?_
 obtain ⟨t0,E1,h⟩:=bi h
 have u1:=Ay y0 (Tt Y0 B0)
 obtain ⟨M1,U1,k1,q1,V1,B1,s1⟩:=Bo u1 E1
 obtain rfl:=op_Tpart B1
 refine Ab (Bx 2 c0 rfl k1 rfl rfl q1)<|Ab (Az rfl s1)<|Ai .plain rfl (Au [vI 0,vI 0] q0) (fun q2 Q1 M0 U0=>?_)
 refine AL [vI t0.fL,vI t0.fall] M0 .hd (onesB rfl) (fun s2 k0 V0=>?_)
 refine Aa<|Ao<|Ae rfl<|Ab (Az rfl (k0.memA .hd)) ?_
 obtain ⟨K1,G0,h⟩:=bi h
 rcases K1 with X1 | b0
 have h:=exc_e h
 try dsimp only at h
 have h:=thn_inl h E0
 refine Bg (fst:=[]) (cap:=[]) .plain body45 rfl (e1 rfl) (fun w9 hw9=>minority_part_share_c n _ w9 (k0.hL0 hL hw9) t0 G0) (fun t2 b1=>?_)
 obtain ⟨P0,Z1⟩:=k0.agr b1
 cases h
 exact AG hp0 Tryz.func43 ⟨P0.ag,rfl⟩
 have h:=exc_o h
 try dsimp only at h
 refine Ba (.agg ((cs_TShare b0)).toArray) body45 rfl (e1 rfl) (fun w9 hw9=>AD (minority_part_share_c n _ w9 (k0.hL0 hL hw9) t0 G0)) rfl<|Ai .plain rfl (AT (α:=TShare) (xs:=([b0]:List TShare)) (vs:=[.agg ((cs_TShare b0)).toArray]) (ds' :=(cs_TShare b0)) rfl k0 el60 rfl (e1 rfl) (by kernel_rfl) rfl) (fun u2 R1 v0 W0=>?_)
 have d1:=AM (cs:=(cs_TShare b0)) (xs:=(([b0]:List TShare):List TShare)) v0 L (Ap (cs:=(cs_TShare b0)) (ds:=[]) (mk_TShare b0.fN b0.fD) (AS _ _))
 obtain ⟨J1,F1,h⟩:=bi h
 have F0:=Tt U0 (Tt V0 W0)
 have v1:=Bb D0 F0
 refine RG.doesL .plain rfl (DoesL.app (α:=TShare) (ys:=([b0]:List TShare)) F1 v0 (fun _ _=>(.tl (.tl .hd))) el60 rfl rfl v1 (Src.row (α:=TShare) v0 .hd d1)) (fun G1 v2 ⟨I0,Q0,X0,g1⟩=>?_)
 refine Ah rfl<|Aa<|AC<|Ao<|Ab (Bl (i:=c0) (j:=1) rfl rfl (by omega))<|Ae rfl<|Aa ?_
 obtain ⟨R0,C0⟩:=AN Q0 (.one (.tl (.tl .hd)) .done)
 have x1:=Bb g1 C0
 have A1:=Tt F0 (Tt X0 C0)
 exact J0 (c0 + 1,J1,G1,I0) _ _ ⟨rfl,rfl,rfl,rfl,trivial⟩ ⟨R0,(Tt B0 A1),x1⟩ h
 refine Bj rfl ?_
 have h:=thn_inr h E0
 try dsimp only at h
 refine Ac<|Ae rfl<|Ah rfl<|Aa<|Am rfl ?_
 have C1:=Br (α:=TShare) q0 .hd D0 hL
 have x0:=St.delS q0 .hd
 have b2:=St.delT q0 .hd
 have D1:=Rep.at_ (α:=TShare) (v:=d0) (xs:=g0) x0 L C1
 refine Be hb0 Tryz.func43 rfl rfl ?_
 cases h
 exact ⟨x0.ag,fun w9 hw9=>okOf_in ⟨d0,rfl,x0.kd D1 hw9⟩⟩
def tb78_6:List (Nat × Nat × Nat):=[(0,131072,32),(0,262144,8),(2,524288,262144),(1,0,131073),(15,0,524290)]
theorem body42:bodyB Tryz.prog 42 = true:=by kernel_rfl
theorem body43:bodyB Tryz.prog 43 = true:=by kernel_rfl
theorem body78:bodyB Tryz.prog 78 = true:=by kernel_rfl
def minority_Shares_p (n:Nat) (a0:TRoll) (a1:List Int) (a2:Int) (a3:Int):Option ((List TShare) × Int):=
  (minority_Shares_1_p n a0 a1 a2 a3).bind fun c0=>exc c0 (fun d0=>some (d0,(0:Int))) (fun b0=>some (([]:List TShare),b0.fH))
theorem minority_Shares_c (n:Nat) (L:List Nat) (w:World) (hL:∀ b ∈ L,b < w.heap.size) (a0:TRoll) {v0_3:Value} (h0_3:Rep.R w L [v0_3] a0.fE) (a1:List Int) {v1_0:Value} (h1_0:Rep.R w L [v1_0] a1) (a2:Int) (a3:Int)  {r:(List TShare) × Int} (h:minority_Shares_p n a0 a1 a2 a3 = some r) :
    Calls Tryz.prog 18 #[.agg #[vI a0.fj,vI a0.fh,vI a0.fl,v0_3],v1_0,vI a2,vI a3] w (Gives w fun w' u=>∃ v0_0:Value,u = .tuple #[v0_0,vI r.2]∧Rep.R w' L [v0_0] r.1):=by
 unfold minority_Shares_p at h
 have hS0:=Ax w
 refine AE Tryz.func18 rfl rfl rfl (fun _ cs0 hb0=>?_)
 refine Ac<|Ai .plain rfl (Ar hS0 rfl rfl) (fun W1 g0 E0 G1=>?_)
 have u1:=AP h1_0 E0
 refine Ai .plain rfl (Ar E0 rfl (Rep.c1 u1)) (fun c2 j0 R0 H1=>?_)
 refine Ai .plain rfl (Ar R0 rfl rfl) (fun d2 k0 U0 I1=>?_)
 refine Ai .plain rfl (Ar U0 rfl rfl) (fun g2 p0 V0 J1=>?_)
 refine Ah rfl<|Ah rfl<|Aa<|Ac<|Ab (BB (vs:=[]) (us:=[vP g0,vP j0,vP k0,vP p0]) evs_nil (e4 rfl rfl rfl rfl))<|Bc (fst:=[]) (cap:=[]) (vs:=[.func (.func 43) #[] #[vP g0,vP j0,vP k0,vP p0]]) .plain body42 Tryz.func42 rfl rfl rfl rfl (e1 rfl) rfl (fun C1 F0 U1=>?_)
 refine Ac<|Ai .plain rfl (Au [vN] V0) (fun j2 q0 W0 K1=>?_)
 refine Ai .plain rfl (Au [vI 0] W0) (fun k2 d0 b0 M1=>?_)
 refine Aa<|Ac<|Ab (BB (vs:=[]) (us:=[vP q0,vP d0]) evs_nil (e2 rfl rfl))<|RG.defer (fst:=[]) (cap:=[vP q0,vP d0]) (vs:=[]) rfl .plain rfl evs_nil<|Aa<|Ac<|Ae rfl ?_
 obtain ⟨z1,H0,h⟩:=bi h
 rcases z1 with s0 | s2
 have h:=exc_e h
 try dsimp only at h
 refine Bg (fst:=[]) (cap:=[vP g0,vP j0,vP k0,vP p0]) .plain body43 rfl evs_nil (fun w9 hw9=>minority_Shares_1_c n _ w9 (b0.hL hL hw9) a0 (b0.km h0_3 hw9) (fun j9 v9 h9=>hw9.cell0 ((b0.memA (.tl (.tl (.tl (.tl (.tl .hd)))))) j9 v9 h9)) a1 (b0.km h1_0 hw9) (fun j9 v9 h9=>hw9.cell0 ((b0.memA (.tl (.tl (.tl (.tl .hd))))) j9 v9 h9)) a2 (fun j9 v9 h9=>hw9.cell0 ((b0.memA (.tl (.tl (.tl .hd)))) j9 v9 h9)) a3 (fun j9 v9 h9=>hw9.cell0 ((b0.memA (.tl (.tl .hd))) j9 v9 h9)) H0) (fun p2 k1=>?_)
 obtain ⟨X0,P1⟩:=b0.agr k1
 refine PN.callD (vs:=[]) (cap:=[vP q0,vP d0]) body78 Tryz.func78 rfl rfl rfl (fun B1 p1 s1=>?_)
 refine Ac<|RG.recover1 .plain p1 rfl<|Ah rfl<|Aa<|Ac<|Ae rfl<|Ab (FV.neqI Tryz.underlying20 rfl rfl)<|Aa<|AV rfl<|Ac<|Ae rfl<|Ab (FV.assertT (by kernel_rfl) rfl)<|Ae rfl<|Ab (Ag rfl rfl)<|Ab (Ag rfl rfl)<|Ai .plain rfl (Au [vI 0] X0) (fun q2 I0 Y0 Q1=>?_)
 refine AL [vI s0.fH] Y0 .hd (o1 rfl) (fun x1 x0 R1=>?_)
 refine Ah rfl<|Aa<|Ak<|Ac<|Ae rfl<|Ab (FV.not rfl)<|Aa<|Bu rfl<|Av<|Ac<|Ah rfl<|Aa<|dt 3 tb78_6 (fun c0 A0=>?_)
 refine Af 0 1 c0 rfl A0 (fun _=>Aj rfl) rfl<|Af 1 3 c0 rfl A0 (fun _=>AQ 0 rfl) rfl<|RD.meet (α:=Unit) (fun ()=>[(1,vP d0),(19,vI s0.fH)]) (fun () C0=>St w C0 [.cells d0 [vI 0] 35,.cells q0 [vN] 60,.cells p0 [vI a3] 3,.cells k0 [vI a2] 3,.cells j0 [v1_0] 59,.cells g0 [vI a0.fj,vI a0.fh,vI a0.fl,v0_3] 28]∧Tr x1 [.cells I0 [vI s0.fH] 110,.cells d0 [vI 0] 35,.cells q0 [vN] 60,.cells p0 [vI a3] 3,.cells k0 [vI a2] 3,.cells j0 [v1_0] 59,.cells g0 [vI a0.fj,vI a0.fh,vI a0.fl,v0_3] 28] C0 [.cells d0 [vI 0] 35,.cells q0 [vN] 60,.cells p0 [vI a3] 3,.cells k0 [vI a2] 3,.cells j0 [v1_0] 59,.cells g0 [vI a0.fj,vI a0.fh,vI a0.fl,v0_3] 28]) 1 15 ?_ ?_
 rintro ⟨⟩ C0 ⟨J0,D1⟩
 try dsimp only
 refine Bq 4 31 c0 rfl rfl .plain (Aw (news:=[vI s0.fH]) J0 .hd rfl rfl rfl rfl rfl rfl (o1 rfl)) (fun X1 t0 E1=>?_)
 refine AH (dk c0)<|MX.fin rfl<|RT.leaveD1 s1 Tryz.func78 rfl .nil<|Al (u:=.tuple #[vN,vI s0.fH]) F0 Tryz.func42 rfl (.cons (.one (by kernel_rfl) rfl ((t0.memA (.tl .hd)) 0 _ rfl)) (.cons (.one (by kernel_rfl) rfl ((t0.memA .hd) 0 _ rfl)) .nil)) rfl<|Ab (Ag rfl rfl)<|Ab (Ag rfl rfl)<|Ah rfl<|Ah rfl<|Aa<|Am rfl ?_
 have v1:=Rep.nilAt (α:=TShare) t0 L
 refine Al hb0 Tryz.func18 rfl (.cons (.tmp rfl) (.cons (.tmp rfl) .nil)) rfl ?_
 cases h
 exact ⟨t0.ag,fun w9 hw9=>⟨vN,rfl,t0.kd v1 hw9⟩⟩
 intro D0
 refine RD.each [2,3] (rk c0) ⟨?_,?_,trivial⟩
 refine RO.val (m' :=7) (sk c0) rfl .plain rfl (AJ rfl ((x0.memA .hd) 0 _ rfl))<|Bq 3 15 c0 rfl rfl .plain (Aw (news:=[vN]) x0 (.tl (.tl .hd)) rfl rfl rfl rfl rfl rfl (o1 rfl)) (fun y1 v0 y0=>?_)
 obtain ⟨K0,Z0⟩:=AN v0 (.one (.tl .hd) (.one (.tl .hd) (.one (.tl .hd) (.one (.tl .hd) (.one (.tl .hd) (.one (.tl .hd) .done))))))
 exact D0 () _ _ ⟨rfl,rfl,trivial⟩ ⟨K0,(Tt y0 Z0)⟩
 refine RO.now (m' :=11) (sk c0) rfl rfl .plain (Aw (news:=[vN]) x0 (.tl (.tl .hd)) rfl rfl rfl rfl rfl rfl (o1 rfl)) (fun y1 v0 y0=>?_)
 refine AA 2 15 16 c0 rfl A0 (AJ rfl ((v0.memA .hd) 0 _ rfl)) rfl ?_
 obtain ⟨M0,b1⟩:=AN v0 (.one (.tl .hd) (.one (.tl .hd) (.one (.tl .hd) (.one (.tl .hd) (.one (.tl .hd) (.one (.tl .hd) .done))))))
 exact D0 () _ _ ⟨rfl,rfl,trivial⟩ ⟨M0,(Tt y0 b1)⟩
 have h:=exc_o h
 try dsimp only at h
 refine By (fst:=[]) (cap:=[vP g0,vP j0,vP k0,vP p0]) .plain body43 rfl evs_nil (fun w9 hw9=>AD (minority_Shares_1_c n _ w9 (b0.hL hL hw9) a0 (b0.km h0_3 hw9) (fun j9 v9 h9=>hw9.cell0 ((b0.memA (.tl (.tl (.tl (.tl (.tl .hd)))))) j9 v9 h9)) a1 (b0.km h1_0 hw9) (fun j9 v9 h9=>hw9.cell0 ((b0.memA (.tl (.tl (.tl (.tl .hd))))) j9 v9 h9)) a2 (fun j9 v9 h9=>hw9.cell0 ((b0.memA (.tl (.tl (.tl .hd)))) j9 v9 h9)) a3 (fun j9 v9 h9=>hw9.cell0 ((b0.memA (.tl (.tl .hd))) j9 v9 h9)) H0)) rfl (fun Y1 B0 j1 ⟨V1,hu_,z0⟩=>?_)
 subst hu_
 obtain ⟨P0,F1⟩:=b0.agr j1
 refine RG.now .plain (Aw (news:=[B0]) P0 (.tl .hd) rfl rfl rfl (Rep.c1 z0) rfl rfl (o1 (AU z0))) (fun Z1 Q0 d1=>?_)
 refine AL [vI 0] Q0 .hd (o1 rfl) (fun b2 u0 g1=>?_)
 refine Aa<|Am rfl<|RT.callD (vs:=[]) (cap:=[vP q0,vP d0]) body78 Tryz.func78 rfl rfl rfl (fun A1 G0 q1=>?_)
 refine Ac<|RG.recover0 .plain G0 rfl<|Ah rfl<|Aa<|Ac<|Ae rfl<|Ab (FV.neqI0 Tryz.underlying20 rfl rfl)<|Aa<|Bu rfl<|Av<|MX.fin rfl<|RT.leaveD0 G0 q1 Tryz.func78 rfl .nil<|Al (u:=.tuple #[B0,vI 0]) F0 Tryz.func42 rfl (.cons (.one (by kernel_rfl) rfl ((u0.memA (.tl .hd)) 0 _ rfl)) (.cons (.one (by kernel_rfl) rfl ((u0.memA .hd) 0 _ rfl)) .nil)) rfl<|Ab (Ag rfl rfl)<|Ab (Ag rfl rfl)<|Ah rfl<|Ah rfl<|Aa<|Am rfl<|Al hb0 Tryz.func18 rfl (.cons (.tmp rfl) (.cons (.tmp rfl) .nil)) rfl ?_
 cases h
 have t1:=Ay z0 (Tt d1 g1)
 exact ⟨u0.ag,fun w9 hw9=>⟨B0,rfl,u0.kd t1 hw9⟩⟩
def tb19_6:List (Nat × Nat × Nat):=[(0,65536,1),(0,131072,32),(3,262144,196608),(4,524288,262144),(0,1048576,2),(0,2097152,32),(48,4194304,3145728),(64,8388608,4194304),(136,16777216,8912896)]
def slices_Equal_api_Share_api_Share_l1 (_n:Nat) (a0:List TShare) (a1:List TShare) (c0:Nat → Option (Bool ⊕ Unit)):Nat → Option (Bool ⊕ Unit)
  | b0=>(if b0 < a0.length then (a0[b0]?).bind fun d0=>(a1[b0]?).bind fun g0=>(if d0 = g0 then c0 (b0 + 1) else some (.inl false)) else some (.inr ()))
def slices_Equal_api_Share_api_Share_p (n:Nat) (a0:List TShare) (a1:List TShare):Option Bool:=
  (if a0.length = a1.length then thn (loopF (slices_Equal_api_Share_api_Share_l1 n a0 a1) n 0) (fun _=>some true) else some false)
theorem slices_Equal_api_Share_api_Share_c (n:Nat) (L:List Nat) (w:World) (_hL:∀ b ∈ L,b < w.heap.size) (a0:List TShare) {v0_0:Value} (h0_0:Rep.R w L [v0_0] a0) (a1:List TShare) {v1_0:Value} (h1_0:Rep.R w L [v1_0] a1)  {r:Bool} (h:slices_Equal_api_Share_api_Share_p n a0 a1 = some r) :
    Calls Tryz.prog 19 #[v0_0,v1_0] w (Gives w fun _ u=>u = .bool r):=by
 unfold slices_Equal_api_Share_api_Share_p at h
 have hS0:=Ax w
 refine AE Tryz.func19 rfl rfl rfl (fun _ cs0 hb0=>?_)
 refine Ac<|Ah rfl<|Aa<|Ak<|Ac<|Ae rfl ?_
 have hl1:a0.length ≤ 281474976710656:=Bi h0_0
 refine Ab (Bk (xs:=a0) Tryz.underlying60 rfl h0_0)<|Ae rfl ?_
 have hl2:a1.length ≤ 281474976710656:=Bi h1_0
 refine Ab (Bk (xs:=a1) Tryz.underlying60 rfl h1_0)<|Ab (FV.neqN (i:=a0.length) (j:=a1.length) rfl rfl)<|Aa<|MX.ifn rfl h (fun c3 h=>?_) (fun c3 h=>?_)
 refine Av<|Ak<|Ac<|Ae rfl<|Ab (Bk (xs:=a0) Tryz.underlying60 rfl h0_0)<|Ae rfl<|Aa<|AB ?_
 obtain ⟨W0,F0,k0⟩:=thn_in h
 refine Bw (α:=Nat) (fun b0=>[(0,v0_0),(1,v1_0),(12,vI ((a0.length:Nat):Int)),(13,vI ((b0:Nat):Int))]) (fun b0 j0=>St w j0 []∧Tr w [] j0 []) (fun b0=>b0) 0 F0 ⟨rfl,rfl,rfl,rfl,trivial⟩ ⟨hS0,Bd _ _⟩ ?_
 rintro P0 b0 j0 u0 ⟨g0,v0⟩ h
 unfold slices_Equal_api_Share_api_Share_l1 at h
 try dsimp only at h
 refine Ac<|Ab (Bm (i:=b0) (j:=a0.length) rfl rfl)<|Aa<|Ak<|AX rfl h (fun s0 h=>?_) (fun s0 h=>?_)
 refine Av<|Ak<|AB<|Ac<|Ae rfl<|Ah rfl<|Aa<|Ak<|dt 9 tb19_6 (fun c0 d0=>?_)
 refine Af 0 1 c0 rfl d0 (fun _=>Aj rfl) rfl<|Af 1 3 c0 rfl d0 (fun _=>Aj rfl) rfl ?_
 obtain ⟨p0,I0,h⟩:=bi h
 have C0:=AP h0_0 g0
 obtain ⟨K0,Q0,x0,z0,U0,G0,B0⟩:=Bo C0 I0
 obtain rfl:=op_TShare G0
 refine Af 2 7 c0 rfl d0 (fun _=>Bx 16 b0 rfl x0 rfl rfl z0) rfl<|AA 3 15 256 c0 rfl d0 (Az rfl B0) rfl<|Af 4 31 c0 rfl d0 (fun _=>Aj rfl) rfl<|Af 5 63 c0 rfl d0 (fun _=>Aj rfl) rfl ?_
 obtain ⟨q0,J0,h⟩:=bi h
 have E0:=AP h1_0 g0
 obtain ⟨M0,R0,y0,A0,V0,H0,D0⟩:=Bo E0 J0
 obtain rfl:=op_TShare H0
 refine Af 6 127 c0 rfl d0 (fun _=>Bx 16 b0 rfl y0 rfl rfl A0) rfl<|AA 7 255 256 c0 rfl d0 (Az rfl D0) rfl<|Af 8 511 c0 rfl d0 (fun _=>FV.neqV (xs:=((cs_TShare p0)).toArray) (ys:=((cs_TShare q0)).toArray) rfl rfl (by kernel_rfl) (eqlD_34 p0 q0)) rfl<|AH (dk c0)<|MX.ifn rfl h (fun t0 h=>?_) (fun t0 h=>?_)
 refine Av<|AC<|Ao<|Ab (Bl (i:=b0) (j:=1) rfl rfl (by omega))<|Ae rfl<|Aa ?_
 exact u0 (b0 + 1) _ _ ⟨rfl,rfl,rfl,rfl,trivial⟩ ⟨g0,v0⟩ h
 refine Ac<|Ah rfl<|Aa ?_
 have h:=thn_inl h k0
 refine Am rfl<|Be hb0 Tryz.func19 rfl rfl ?_
 cases h
 exact g0.gv
 refine Bj rfl ?_
 have h:=thn_inr h k0
 try dsimp only at h
 refine Ac<|Ah rfl<|Aa<|Am rfl<|Be hb0 Tryz.func19 rfl rfl ?_
 cases h
 exact g0.gv
 refine Ac<|Ah rfl<|Aa<|Am rfl<|Be hb0 Tryz.func19 rfl rfl ?_
 cases h
 exact hS0.gv
def tb47_6:List (Nat × Nat × Nat):=[(0,65536,1),(0,131072,32),(3,262144,196608),(4,524288,262144),(0,1048576,2),(0,2097152,32),(48,4194304,3145728),(64,8388608,4194304),(136,16777216,8912896)]
def slices_Equal_int_int_l1 (_n:Nat) (a0:List Int) (a1:List Int) (b0:Nat → Option (Bool ⊕ Unit)):Nat → Option (Bool ⊕ Unit)
  | i32=>(if i32 < a0.length then (a0[i32]?).bind fun c0=>(a1[i32]?).bind fun d0=>(if c0 = d0 then b0 (i32 + 1) else some (.inl false)) else some (.inr ()))
def slices_Equal_int_int_p (n:Nat) (a0:List Int) (a1:List Int):Option Bool:=
  (if a0.length = a1.length then thn (loopF (slices_Equal_int_int_l1 n a0 a1) n 0) (fun _=>some true) else some false)
theorem slices_Equal_int_int_c (n:Nat) (L:List Nat) (w:World) (_hL:∀ b ∈ L,b < w.heap.size) (a0:List Int) {v0_0:Value} (h0_0:Rep.R w L [v0_0] a0) (a1:List Int) {v1_0:Value} (h1_0:Rep.R w L [v1_0] a1)  {r:Bool} (h:slices_Equal_int_int_p n a0 a1 = some r) :
    Calls Tryz.prog 47 #[v0_0,v1_0] w (Gives w fun _ u=>u = .bool r):=by
 unfold slices_Equal_int_int_p at h
 have hS0:=Ax w
 refine AE Tryz.func47 rfl rfl rfl (fun _ cs0 hb0=>?_)
 refine Ac<|Ah rfl<|Aa<|Ak<|Ac<|Ae rfl ?_
 have hl1:a0.length ≤ 281474976710656:=Bi h0_0
 refine Ab (Bk (xs:=a0) Tryz.underlying42 rfl h0_0)<|Ae rfl ?_
 have hl2:a1.length ≤ 281474976710656:=Bi h1_0
 refine Ab (Bk (xs:=a1) Tryz.underlying42 rfl h1_0)<|Ab (FV.neqN (i:=a0.length) (j:=a1.length) rfl rfl)<|Aa<|MX.ifn rfl h (fun c3 h=>?_) (fun c3 h=>?_)
 refine Av<|Ak<|Ac<|Ae rfl<|Ab (Bk (xs:=a0) Tryz.underlying42 rfl h0_0)<|Ae rfl<|Aa<|AB ?_
 obtain ⟨X0,I0,j0⟩:=thn_in h
 refine Bw (α:=Nat) (fun i32=>[(0,v0_0),(1,v1_0),(12,vI ((a0.length:Nat):Int)),(13,vI ((i32:Nat):Int))]) (fun i32 g0=>St w g0 []∧Tr w [] g0 []) (fun i32=>i32) 0 I0 ⟨rfl,rfl,rfl,rfl,trivial⟩ ⟨hS0,Bd _ _⟩ ?_
 rintro U0 i32 g0 v0 ⟨d0,x0⟩ h
 unfold slices_Equal_int_int_l1 at h
 try dsimp only at h
 refine Ac<|Ab (Bm (i:=i32) (j:=a0.length) rfl rfl)<|Aa<|Ak<|AX rfl h (fun q0 h=>?_) (fun q0 h=>?_)
 refine Av<|Ak<|AB<|Ac<|Ae rfl<|Ah rfl<|Aa<|Ak<|dt 9 tb47_6 (fun b0 c0=>?_)
 refine Af 0 1 b0 rfl c0 (fun _=>Aj rfl) rfl<|Af 1 3 b0 rfl c0 (fun _=>Aj rfl) rfl ?_
 obtain ⟨k0,M0,h⟩:=bi h
 have F0:=AP h0_0 d0
 obtain ⟨Q0,V0,y0,C0,t0,J0,E0⟩:=Bo F0 M0
 have z0:t0 = [vI k0]:=J0; subst z0
 refine Af 2 7 b0 rfl c0 (fun _=>Bx 1 i32 rfl y0 rfl rfl C0) rfl<|AA 3 15 256 b0 rfl c0 (AJ rfl (E0 0 _ rfl)) rfl<|Af 4 31 b0 rfl c0 (fun _=>Aj rfl) rfl<|Af 5 63 b0 rfl c0 (fun _=>Aj rfl) rfl ?_
 obtain ⟨p0,P0,h⟩:=bi h
 have H0:=AP h1_0 d0
 obtain ⟨R0,W0,A0,D0,u0,K0,G0⟩:=Bo H0 P0
 have B0:u0 = [vI p0]:=K0; subst B0
 refine Af 6 127 b0 rfl c0 (fun _=>Bx 1 i32 rfl A0 rfl rfl D0) rfl<|AA 7 255 256 b0 rfl c0 (AJ rfl (G0 0 _ rfl)) rfl<|Af 8 511 b0 rfl c0 (fun _=>FV.neq (i:=k0) (j:=p0) rfl rfl) rfl<|AH (dk b0)<|MX.ifn rfl h (fun s0 h=>?_) (fun s0 h=>?_)
 refine Av<|AC<|Ao<|Ab (Bl (i:=i32) (j:=1) rfl rfl (by omega))<|Ae rfl<|Aa ?_
 exact v0 (i32 + 1) _ _ ⟨rfl,rfl,rfl,rfl,trivial⟩ ⟨d0,x0⟩ h
 refine Ac<|Ah rfl<|Aa ?_
 have h:=thn_inl h j0
 refine Am rfl<|Be hb0 Tryz.func47 rfl rfl ?_
 cases h
 exact d0.gv
 refine Bj rfl ?_
 have h:=thn_inr h j0
 try dsimp only at h
 refine Ac<|Ah rfl<|Aa<|Am rfl<|Be hb0 Tryz.func47 rfl rfl ?_
 cases h
 exact d0.gv
 refine Ac<|Ah rfl<|Aa<|Am rfl<|Be hb0 Tryz.func47 rfl rfl ?_
 cases h
 exact hS0.gv
theorem body47:bodyB Tryz.prog 47 = true:=by kernel_rfl
def wardmotelaw29_lists_1_p (n:Nat) (a0:List Int) (a1:Int) (a2:List Int):Option Bool:=
  (slices_Equal_int_int_p n a0 a2).bind fun y1=>(if y1 = true then some (decide (a1 = 0)) else some false)
theorem wardmotelaw29_lists_1_c (n:Nat) (L:List Nat) (w:World) (hL:∀ b ∈ L,b < w.heap.size) (a0:List Int) {v0_0:Value} (h0_0:Rep.R w L [v0_0] a0) (a1:Int) (a2:List Int) {v2_0:Value} (h2_0:Rep.R w L [v2_0] a2) {p2:Nat} (m2:∀ j9 v9,([v2_0]:List Value)[j9]? = some v9 → w.cell? ((⟨p2,0,none⟩:Addr).add j9) = some v9)  {r:Bool} (h:wardmotelaw29_lists_1_p n a0 a1 a2 = some r) :
    Calls Tryz.prog 46 #[v0_0,vI a1,.pointer (some ⟨p2,0,none⟩)] w (Gives w fun _ u=>u = .bool r):=by
 unfold wardmotelaw29_lists_1_p at h
 have hS0:=Ax w
 refine AE Tryz.func46 rfl rfl rfl (fun _ cs0 hb0=>?_)
 refine Ac<|Ah rfl<|Aa<|Ac<|Ae rfl<|AZ rfl ((fun j9 v9 h9=>hS0.ag.cell0 (m2 j9 v9 h9)) 0 _ rfl) ?_
 obtain ⟨y1,hy1,h⟩:=bi h
 refine Ba (.bool y1) body47 rfl (e2 rfl rfl) (fun w9 hw9=>slices_Equal_int_int_c n _ w9 (hS0.hL0 hL hw9) a0 (hS0.kd h0_0 hw9) a2 (hS0.kd h2_0 hw9) hy1) rfl<|Ae rfl<|RG.ifb (s:=9) rfl h (fun c2 h=>?_) (fun c2 h=>?_)
 refine AW (Aj rfl)<|AW (FV.eql (i:=a1) (j:=0) rfl rfl)<|RG.pt rfl rfl<|Ah rfl<|Aa<|Am rfl<|Be hb0 Tryz.func46 rfl rfl ?_
 cases h
 exact hS0.gv
 refine AO<|AO<|RG.pf rfl rfl<|Ah rfl<|Aa<|Am rfl<|Be hb0 Tryz.func46 rfl rfl ?_
 cases h
 exact hS0.gv
theorem wardmotelaw29_lists_c (n:Nat) (L:List Nat) (w:World) (_hL:∀ b ∈ L,b < w.heap.size) (a0:List Int) {v0_0:Value} (h0_0:Rep.R w L [v0_0] a0)  :
    Calls Tryz.prog 20 #[v0_0] w (Gives w fun w' u=>∃ b0:Nat,u = .func (.func 46) #[] #[vP b0]∧St w w' [.cells b0 [v0_0] 42]):=by
 have hS0:=Ax w
 refine AE Tryz.func20 rfl rfl rfl (fun _ cs0 hb0=>?_)
 refine Ac<|Ai .plain rfl (Ar hS0 rfl (Rep.c1 h0_0)) (fun g0 b0 c0 d0=>?_)
 refine Ah rfl<|Aa<|Ac<|Ab (BB (vs:=[]) (us:=[vP b0]) evs_nil (e1 rfl))<|Ah rfl<|Aa<|Am rfl<|Al (u:=.func (.func 46) #[] #[vP b0]) hb0 Tryz.func20 rfl (.cons (.tmp rfl) .nil) rfl ?_
 exact ⟨c0.ag,fun w9 hw9=>⟨b0,rfl,c0.agree hw9⟩⟩
def tb77_1:List (Nat × Nat × Nat):=[(0,32,4),(1,64,32),(0,128,8),(4,256,128),(10,512,320),(0,1024,8),(32,2048,1024),(0,4096,4),(128,8192,4096),(336,16384,10240),(528,32768,16896),(2047,16,32768)]
def share_Ratio_Cmp_p (n:Nat) (a0:TRatio) (a1:TRatio):Option Int:=
  (wide_Long_Times_p n a0.ft a1.fp).bind fun b0=>(wide_Long_Times_p n a1.ft a0.fp).bind fun c0=>(wide_Long_Cmp_p n b0 c0).bind fun d0=>some d0
theorem share_Ratio_Cmp_c (n:Nat) (L:List Nat) (w:World) (hL:∀ b ∈ L,b < w.heap.size) (a0:TRatio) {v0_1:Value} (h0_1:Rep.R w L [v0_1] a0.ft.fo) {v0_3:Value} (h0_3:Rep.R w L [v0_3] a0.fp.fo) (a1:TRatio) {v1_1:Value} (h1_1:Rep.R w L [v1_1] a1.ft.fo) {v1_3:Value} (h1_3:Rep.R w L [v1_3] a1.fp.fo)  {r:Int} (h:share_Ratio_Cmp_p n a0 a1 = some r) :
    Calls Tryz.prog 77 #[.agg #[.bool a0.ft.fe,v0_1,.bool a0.fp.fe,v0_3],.agg #[.bool a1.ft.fe,v1_1,.bool a1.fp.fe,v1_3]] w (Gives w fun _ u=>u = vI r):=by
 unfold share_Ratio_Cmp_p at h
 have hS0:=Ax w
 refine AE Tryz.func77 rfl rfl rfl (fun _ cs0 hb0=>?_)
 refine Ac<|Ai .plain rfl (Ar hS0 rfl rfl) (fun P0 D0 k0 F0=>?_)
 refine Ai .plain rfl (Ar k0 rfl rfl) (fun Q0 E0 d0 G0=>?_)
 refine Ah rfl<|Aa<|Ak<|dt 12 tb77_1 (fun b0 c0=>?_)
 refine Af 0 1 b0 rfl c0 (fun _=>AQ 0 rfl) rfl<|AA 1 3 3600 b0 rfl c0 (AR (cs:=[.bool a0.ft.fe,v0_1]) (by kernel_rfl) rfl (mem_part (d0.memA (.tl .hd)) 0 2)) rfl<|Af 2 7 b0 rfl c0 (fun _=>AQ 2 rfl) rfl<|AA 3 15 3600 b0 rfl c0 (AR (cs:=[.bool a1.fp.fe,v1_3]) (by kernel_rfl) rfl (mem_part (d0.memA .hd) 2 2)) rfl<|Af 5 47 b0 rfl c0 (fun _=>AQ 0 rfl) rfl<|AA 6 111 3584 b0 rfl c0 (AR (cs:=[.bool a1.ft.fe,v1_1]) (by kernel_rfl) rfl (mem_part (d0.memA .hd) 0 2)) rfl<|Af 7 239 b0 rfl c0 (fun _=>AQ 2 rfl) rfl<|AA 8 495 3584 b0 rfl c0 (AR (cs:=[.bool a0.fp.fe,v0_3]) (by kernel_rfl) rfl (mem_part (d0.memA (.tl .hd)) 2 2)) rfl ?_
 obtain ⟨A0,x0,h⟩:=bi h
 refine Bp 4 511 b0 rfl .plain body98 rfl (e2 rfl rfl) (fun w9 hw9=>wide_Long_Times_c n _ w9 (d0.hL hL hw9) a0.ft (d0.km h0_1 hw9) a1.fp (d0.km h1_3 hw9) x0) rfl (fun R0 K0 q0 ⟨I0,hu_,u0⟩=>?_)
 subst hu_
 obtain ⟨g0,H0⟩:=d0.agr q0
 obtain ⟨B0,y0,h⟩:=bi h
 refine Bp 9 1023 b0 rfl .plain body98 rfl (e2 rfl rfl) (fun w9 hw9=>wide_Long_Times_c n _ w9 (g0.hL hL hw9) a1.ft (g0.km h1_1 hw9) a0.fp (g0.km h0_3 hw9) y0) rfl (fun U0 M0 s0 ⟨J0,hu_,v0⟩=>?_)
 subst hu_
 obtain ⟨j0,p0⟩:=g0.agr s0
 obtain ⟨C0,z0,h⟩:=bi h
 have t0:=Ay u0 p0
 refine BA 10 2047 2048 (vI C0) b0 rfl c0 body86 rfl (e2 rfl rfl) (fun w9 hw9=>wide_Long_Cmp_c n _ w9 (j0.hL0 hL hw9) A0 (j0.kd t0 hw9) B0 (j0.kd v0 hw9) z0) rfl<|Af 11 4095 b0 rfl c0 (fun _=>AY rfl) rfl<|AH (dk b0)<|Am rfl<|Be hb0 Tryz.func77 rfl rfl ?_
 cases h
 exact j0.gv
def tb76_4:List (Nat × Nat × Nat):=[(0,32768,4),(0,65536,8),(2,131072,65536),(0,262144,16),(12,524288,262144),(21,1048576,688128),(63,64,1048576),(127,128,0)]
theorem body76:bodyB Tryz.prog 76 = true:=by kernel_rfl
theorem body77:bodyB Tryz.prog 77 = true:=by kernel_rfl
def share_Cmp_p (n:Nat) (a0:TShare) (a1:TShare):Option (Int × Int):=
  (share_valid_p n ([a0,a1]:List TShare)).bind fun b0=>(if b0 = true then (share_Read_p n a0).bind fun c0=>(share_Read_p n a1).bind fun d0=>(share_Ratio_Cmp_p n c0 d0).bind fun g0=>some (g0,(0:Int)) else some ((0:Int),(20:Int)))
theorem share_Cmp_c (n:Nat) (L:List Nat) (w:World) (hL:∀ b ∈ L,b < w.heap.size) (a0:TShare) (a1:TShare)  {r:Int × Int} (h:share_Cmp_p n a0 a1 = some r) :
    Calls Tryz.prog 40 #[.agg ((cs_TShare a0)).toArray,.agg ((cs_TShare a1)).toArray] w (Gives w fun _ u=>u = .tuple #[vI r.1,vI r.2]):=by
 unfold share_Cmp_p at h
 have hS0:=Ax w
 refine AE Tryz.func40 rfl rfl rfl (fun _ cs0 hb0=>?_)
 refine Ac<|Ai .plain rfl (Ar hS0 rfl rfl) (fun x1 R0 v0 Z0=>?_)
 refine Ai .plain rfl (Ar v0 rfl rfl) (fun y1 U0 j0 b1=>?_)
 refine Ah rfl<|Ah rfl<|Aa<|Ac<|Ab (Az rfl (j0.memA (.tl .hd)))<|Ab (Az rfl (j0.memA .hd))<|Bc (fst:=[]) (cap:=[]) (vs:=[.agg ((cs_TShare a0)).toArray,.agg ((cs_TShare a1)).toArray,.func (.func 77) #[] #[]]) .plain body76 Tryz.func76 rfl rfl rfl rfl (e3 rfl rfl rfl) rfl (fun Y0 s0 k1=>?_)
 refine Ac<|Ai .plain rfl (Ar j0 rfl rfl) (fun z1 V0 x0 c1=>?_)
 refine Ai .plain rfl (Ar x0 rfl rfl) (fun A1 W0 k0 d1=>?_)
 refine Ah rfl<|Ah rfl<|Aa<|Ak<|Ac<|Ab (Az rfl (k0.memA (.tl .hd)))<|Ab (Az rfl (k0.memA .hd))<|Ai .plain rfl (AT (α:=TShare) (xs:=([a0,a1]:List TShare)) (vs:=[.agg ((cs_TShare a0)).toArray,.agg ((cs_TShare a1)).toArray]) (ds' :=(cs_TShare a0 ++ cs_TShare a1)) rfl k0 el60 rfl (e2 rfl rfl) (by kernel_rfl) rfl) (fun B1 X0 c0 g1=>?_)
 have A0:=AM (cs:=(cs_TShare a0 ++ cs_TShare a1)) (xs:=(([a0,a1]:List TShare):List TShare)) c0 L (Ap (cs:=(cs_TShare a0)) (ds:=(cs_TShare a1)) (mk_TShare a0.fN a0.fD) (Ap (cs:=(cs_TShare a1)) (ds:=[]) (mk_TShare a1.fN a1.fD) (AS _ _)))
 obtain ⟨M0,H0,h⟩:=bi h
 refine Ba (.bool M0) body93 rfl (e1 rfl) (fun w9 hw9=>share_valid_c n _ w9 (c0.hL0 hL hw9) ([a0,a1]:List TShare) (Aq (St.lend (α:=TShare) (L:=L) c0 .hd A0 hL) hw9) H0) rfl<|Ab (FV.not rfl)<|Aa<|MX.ifnb rfl h (fun u0 h=>?_) (fun u0 h=>?_)
 refine Av<|Ak<|dt 8 tb76_4 (fun b0 g0=>?_)
 refine Af 0 1 b0 rfl g0 (fun _=>Aj rfl) rfl<|AA 1 3 244 b0 rfl g0 (Az rfl (c0.memA (.tl (.tl .hd)))) rfl<|AA 3 11 240 b0 rfl g0 (Az rfl (c0.memA (.tl .hd))) rfl ?_
 obtain ⟨P0,I0,h⟩:=bi h
 refine Bp 2 15 b0 rfl .plain body83 rfl (e1 rfl) (fun w9 hw9=>share_Read_c n _ w9 (c0.hL hL hw9) a0 I0) rfl (fun C1 u1 y0 ⟨p1,q1,hu_,D0,E0⟩=>?_)
 subst hu_
 obtain ⟨p0,j1⟩:=c0.agr y0
 obtain ⟨Q0,J0,h⟩:=bi h
 refine Bp 4 31 b0 rfl .plain body83 rfl (e1 rfl) (fun w9 hw9=>share_Read_c n _ w9 (p0.hL hL hw9) a1 J0) rfl (fun D1 v1 z0 ⟨s1,t1,hu_,F0,G0⟩=>?_)
 subst hu_
 obtain ⟨d0,q0⟩:=p0.agr z0
 obtain ⟨t0,K0,h⟩:=bi h
 have B0:=Ay D0 q0
 have C0:=Ay E0 q0
 refine BA 5 63 192 (vI t0) b0 rfl g0 body77 rfl (e2 rfl rfl) (fun w9 hw9=>share_Ratio_Cmp_c n _ w9 (d0.hL0 hL hw9) P0 (d0.kd B0 hw9) (d0.kd C0 hw9) Q0 (d0.kd F0 hw9) (d0.kd G0 hw9) K0) rfl<|Af 6 127 b0 rfl g0 (fun _=>AY rfl) rfl<|Af 7 255 b0 rfl g0 (fun _=>AY rfl) rfl<|AH (dk b0)<|Am rfl<|Al (u:=.tuple #[vI t0,vI 0]) s0 Tryz.func76 rfl (.cons (.tmp rfl) (.cons (.tmp rfl) .nil)) rfl<|Ab (Ag rfl rfl)<|Ab (Ag rfl rfl)<|Ah rfl<|Ah rfl<|Aa<|Am rfl<|Al hb0 Tryz.func40 rfl (.cons (.tmp rfl) (.cons (.tmp rfl) .nil)) rfl ?_
 cases h
 exact d0.gv
 refine Ac<|Ah rfl<|Aa<|Ac<|Ae rfl<|Ah rfl<|Ah rfl<|Aa<|Am rfl<|Al (u:=.tuple #[vI 0,vI 20]) s0 Tryz.func76 rfl (.cons (.tmp rfl) (.cons (.tmp rfl) .nil)) rfl<|Ab (Ag rfl rfl)<|Ab (Ag rfl rfl)<|Ah rfl<|Ah rfl<|Aa<|Am rfl<|Al hb0 Tryz.func40 rfl (.cons (.tmp rfl) (.cons (.tmp rfl) .nil)) rfl ?_
 cases h
 exact c0.gv
def minority_must_int_p (_n:Nat) (a0:Int) (a1:Int):Option (Except Tbroken Int):=
  (if a1 = 0 then some (.ok a0) else some (.error (⟨a1⟩:Tbroken)))
theorem minority_must_int_c (n:Nat) (L:List Nat) (w:World) (_hL:∀ b ∈ L,b < w.heap.size) (a0:Int) (a1:Int)  {r:Except Tbroken Int} (h:minority_must_int_p n a0 a1 = some r) :
    Calls Tryz.prog 54 #[vI a0,vI a1] w (PGives w (fun (y:Int) _ u=>u = vI y) (fun e=>.iface 110 (.agg #[vI e.fH])) r):=by
 unfold minority_must_int_p at h
 have hS0:=Ax w
 refine Bz Tryz.func54 rfl rfl rfl (fun _ cs0 hb0 hp0=>?_)
 refine Ac<|Ah rfl<|Aa<|Ak<|Ac<|Ae rfl<|Ab (FV.neq (i:=a1) (j:=0) rfl rfl)<|Aa<|MX.ifn rfl h (fun c1 h=>?_) (fun c1 h=>?_)
 refine Av<|Ac<|Ae rfl<|Ah rfl<|Aa<|Am rfl<|Be hb0 Tryz.func54 rfl rfl ?_
 cases h
 exact ⟨hS0.ag,fun w9 hw9=>okOf_in rfl⟩
 refine Ao<|Ae rfl<|Ab (AK (vs:=[vI a1]) (u:=.agg #[vI a1]) (e1 rfl) (fun w9=>by kernel_rfl))<|Ab (Bn (by kernel_rfl) rfl)<|RG.panic .plain rfl ?_
 cases h
 exact AG hp0 Tryz.func54 ⟨hS0.ag,rfl⟩
def tb53_1:List (Nat × Nat × Nat):=[(0,16,4),(1,32,16),(0,64,2),(6,128,96),(8,256,128),(8,512,128),(56,1024,768),(64,2048,1024),(255,8,2048)]
theorem body40:bodyB Tryz.prog 40 = true:=by kernel_rfl
theorem body54:bodyB Tryz.prog 54 = true:=by kernel_rfl
def minority_Majority_1_1_p (n:Nat) (a0:Tpart) (a1:TShare):Option (Except Tbroken Bool):=
  (minority_part_share_p n a0).bind fun g0=>exc g0 (fun j0=>(share_Cmp_p n j0 a1).bind fun b0=>(minority_must_int_p n b0.1 b0.2).bind fun k0=>exc k0 (fun p0=>some (.ok (decide (0 < p0)))) (fun d0=>some (.error d0))) (fun c0=>some (.error c0))
theorem minority_Majority_1_1_c (n:Nat) (L:List Nat) (w:World) (hL:∀ b ∈ L,b < w.heap.size) (a0:Tpart) (a1:TShare) {p1:Nat} (m1:∀ j9 v9,((cs_TShare a1):List Value)[j9]? = some v9 → w.cell? ((⟨p1,0,none⟩:Addr).add j9) = some v9)  {r:Except Tbroken Bool} (h:minority_Majority_1_1_p n a0 a1 = some r) :
    Calls Tryz.prog 53 #[.agg #[vI a0.fL,vI a0.fall],.pointer (some ⟨p1,0,none⟩)] w (PGives w (fun (y:Bool) _ u=>u = .bool y) (fun e=>.iface 110 (.agg #[vI e.fH])) r):=by
 unfold minority_Majority_1_1_p at h
 have hS0:=Ax w
 refine Bz Tryz.func53 rfl rfl rfl (fun _ cs0 hb0 hp0=>?_)
 refine Ac<|Ai .plain rfl (Ar hS0 rfl rfl) (fun G0 A0 c0 D0=>?_)
 refine Ah rfl<|Aa<|Ak<|dt 9 tb53_1 (fun b0 d0=>?_)
 refine AA 0 1 506 b0 rfl d0 (Az rfl (c0.memA .hd)) rfl ?_
 obtain ⟨y0,j0,h⟩:=bi h
 rcases y0 with B0 | p0
 have h:=exc_e h
 try dsimp only at h
 refine AA 2 5 504 b0 rfl d0 (Az rfl (fun j9 v9 h9=>c0.ag.cell0 (m1 j9 v9 h9))) rfl<|BC (i:=1) (rk b0) (RO.callE (fst:=[]) (cap:=[]) rfl .plain body45 rfl (e1 rfl) (fun w9 hw9=>minority_part_share_c n _ w9 (c0.hL0 hL hw9) a0 j0) (fun H0 u0=>?_))
 obtain ⟨s0,E0⟩:=c0.agr u0
 cases h
 exact AG hp0 Tryz.func53 ⟨s0.ag,rfl⟩
 have h:=exc_o h
 try dsimp only at h
 refine BA 1 3 504 (.agg ((cs_TShare p0)).toArray) b0 rfl d0 body45 rfl (e1 rfl) (fun w9 hw9=>AD (minority_part_share_c n _ w9 (c0.hL0 hL hw9) a0 j0)) rfl<|AA 2 7 504 b0 rfl d0 (Az rfl (fun j9 v9 h9=>c0.ag.cell0 (m1 j9 v9 h9))) rfl ?_
 obtain ⟨g0,x0,h⟩:=bi h
 refine BA 3 15 496 (.tuple #[vI g0.1,vI g0.2]) b0 rfl d0 body40 rfl (e2 rfl rfl) (fun w9 hw9=>share_Cmp_c n _ w9 (c0.hL0 hL hw9) p0 a1 x0) rfl<|Af 4 31 b0 rfl d0 (fun _=>Ag rfl rfl) rfl<|Af 5 63 b0 rfl d0 (fun _=>Ag rfl rfl) rfl ?_
 obtain ⟨z0,k0,h⟩:=bi h
 rcases z0 with C0 | q0
 have h:=exc_e h
 try dsimp only at h
 refine BC (i:=6) (rk b0) (RO.callE (fst:=[]) (cap:=[]) rfl .plain body54 rfl (e2 rfl rfl) (fun w9 hw9=>minority_must_int_c n _ w9 (c0.hL0 hL hw9) g0.1 g0.2 k0) (fun I0 v0=>?_))
 obtain ⟨t0,F0⟩:=c0.agr v0
 cases h
 exact AG hp0 Tryz.func53 ⟨t0.ag,rfl⟩
 have h:=exc_o h
 try dsimp only at h
 refine BA 6 127 384 (vI q0) b0 rfl d0 body54 rfl (e2 rfl rfl) (fun w9 hw9=>AD (minority_must_int_c n _ w9 (c0.hL0 hL hw9) g0.1 g0.2 k0)) rfl<|Af 7 255 b0 rfl d0 (fun _=>FV.gtr (i:=q0) (j:=0) rfl rfl) rfl<|Af 8 511 b0 rfl d0 (fun _=>AY rfl) rfl<|AH (dk b0)<|Am rfl<|Be hb0 Tryz.func53 rfl rfl ?_
 cases h
 exact ⟨c0.ag,fun w9 hw9=>okOf_in rfl⟩
theorem body52:bodyB Tryz.prog 52 = true:=by kernel_rfl
theorem body53:bodyB Tryz.prog 53 = true:=by kernel_rfl
def minority_Majority_1_l1 (n:Nat) (g0:List Tpart) (a4:TShare) (d0:Nat × (List Int) → Option ((Except Tbroken (List Int)) ⊕ (List Int))):Nat × (List Int) → Option ((Except Tbroken (List Int)) ⊕ (List Int))
  | (b0,c0)=>(if b0 < g0.length then (g0[b0]?).bind fun k0=>(minority_Majority_1_1_p n k0 a4).bind fun q0=>exc q0 (fun s0=>(if s0 = true then (app c0 ([((b0:Nat):Int)]:List Int)).bind fun p0=>d0 (b0 + 1,p0) else d0 (b0 + 1,c0))) (fun j0=>some (.inl (.error j0))) else some (.inr c0))
def minority_Majority_1_p (n:Nat) (a0:TRoll) (a1:List Int) (a2:Int) (a3:Int) (a4:TShare):Option (Except Tbroken (List Int)):=
  (minority_grouped_p n a0 a1 a2 a3).bind fun y1=>exc y1 (fun g0=>(share_Check_p n a4).bind fun b0=>(if b0 = 0 then thn (loopF (minority_Majority_1_l1 n g0 a4) n (0,([]:List Int))) (fun d0=>some (.ok d0)) else some (.error (⟨b0⟩:Tbroken)))) (fun c0=>some (.error c0))
theorem minority_Majority_1_c (n:Nat) (L:List Nat) (w:World) (hL:∀ b ∈ L,b < w.heap.size) (a0:TRoll) {v0_3:Value} (h0_3:Rep.R w L [v0_3] a0.fE) {p0:Nat} (m0:∀ j9 v9,([vI a0.fj,vI a0.fh,vI a0.fl,v0_3]:List Value)[j9]? = some v9 → w.cell? ((⟨p0,0,none⟩:Addr).add j9) = some v9) (a1:List Int) {v1_0:Value} (h1_0:Rep.R w L [v1_0] a1) {p1:Nat} (m1:∀ j9 v9,([v1_0]:List Value)[j9]? = some v9 → w.cell? ((⟨p1,0,none⟩:Addr).add j9) = some v9) (a2:Int) {p2:Nat} (m2:∀ j9 v9,([vI a2]:List Value)[j9]? = some v9 → w.cell? ((⟨p2,0,none⟩:Addr).add j9) = some v9) (a3:Int) {p3:Nat} (m3:∀ j9 v9,([vI a3]:List Value)[j9]? = some v9 → w.cell? ((⟨p3,0,none⟩:Addr).add j9) = some v9) (a4:TShare) {p4:Nat} (m4:∀ j9 v9,((cs_TShare a4):List Value)[j9]? = some v9 → w.cell? ((⟨p4,0,none⟩:Addr).add j9) = some v9)  {r:Except Tbroken (List Int)} (h:minority_Majority_1_p n a0 a1 a2 a3 a4 = some r) :
    Calls Tryz.prog 49 #[.pointer (some ⟨p0,0,none⟩),.pointer (some ⟨p1,0,none⟩),.pointer (some ⟨p2,0,none⟩),.pointer (some ⟨p3,0,none⟩),.pointer (some ⟨p4,0,none⟩)] w (PGives w (fun (y:List Int) w' u=>∃ v0_0:Value,u = v0_0∧Rep.R w' L [v0_0] y) (fun e=>.iface 110 (.agg #[vI e.fH])) r):=by
 unfold minority_Majority_1_p at h
 have hS0:=Ax w
 refine Bz Tryz.func49 rfl rfl rfl (fun _ cs0 hb0 hp0=>?_)
 refine Ac<|Ah rfl<|Aa<|Ac<|Ab (Az rfl (fun j9 v9 h9=>hS0.ag.cell0 (m0 j9 v9 h9)))<|AZ rfl ((fun j9 v9 h9=>hS0.ag.cell0 (m1 j9 v9 h9)) 0 _ rfl)<|AZ rfl ((fun j9 v9 h9=>hS0.ag.cell0 (m2 j9 v9 h9)) 0 _ rfl)<|AZ rfl ((fun j9 v9 h9=>hS0.ag.cell0 (m3 j9 v9 h9)) 0 _ rfl) ?_
 obtain ⟨y1,hy1,h⟩:=bi h
 rcases y1 with v2 | v0
 have h:=exc_e h
 try dsimp only at h
 refine Bg (fst:=[]) (cap:=[]) .plain body44 rfl (e4 rfl rfl rfl rfl) (fun w9 hw9=>minority_grouped_c n _ w9 (hS0.hL hL hw9) a0 (Aq h0_3 hw9) a1 (Aq h1_0 hw9) a2 a3 hy1) (fun F2 k1=>?_)
 obtain ⟨V0,y2⟩:=hS0.agr k1
 cases h
 exact AG hp0 Tryz.func49 ⟨V0.ag,rfl⟩
 have h:=exc_o h
 try dsimp only at h
 refine By (fst:=[]) (cap:=[]) .plain body44 rfl (e4 rfl rfl rfl rfl) (fun w9 hw9=>AD (minority_grouped_c n _ w9 (hS0.hL hL hw9) a0 (Aq h0_3 hw9) a1 (Aq h1_0 hw9) a2 a3 hy1)) rfl (fun Y1 M0 s1 ⟨E2,hu_,B0⟩=>?_)
 subst hu_
 obtain ⟨k0,B2⟩:=hS0.agr s1
 refine Ah rfl<|Aa<|Ac<|Ab (Az rfl (fun j9 v9 h9=>k0.ag.cell0 (m4 j9 v9 h9))) ?_
 obtain ⟨q0,W1,h⟩:=bi h
 refine Ba (vI q0) body51 rfl (e1 rfl) (fun w9 hw9=>share_Check_c n _ w9 (k0.hL0 hL hw9) a4 W1) rfl<|Bc (fst:=[]) (cap:=[]) (vs:=[vI q0]) .plain body50 Tryz.func50 rfl rfl rfl rfl (e1 rfl) rfl (fun t2 u1 J1=>?_)
 refine Ac<|Ae rfl<|Ab (FV.neq (i:=q0) (j:=0) rfl rfl)<|Aa<|MX.ifn rfl h (fun R0 h=>?_) (fun R0 h=>?_)
 refine Av<|MX.fin rfl<|Al (u:=.tuple #[]) u1 Tryz.func50 rfl .nil rfl<|Aa<|Ac<|Ae rfl<|Ab (BB (vs:=[]) (us:=[.pointer (some ⟨p4,0,none⟩)]) evs_nil (e1 rfl))<|Bc (fst:=[]) (cap:=[]) (vs:=[M0,.func (.func 53) #[] #[.pointer (some ⟨p4,0,none⟩)]]) .plain body52 Tryz.func52 rfl rfl rfl rfl (e2 rfl rfl) rfl (fun u2 v1 K1=>?_)
 refine Ac<|Ah rfl<|Aa<|Ak<|Ac<|Ae rfl ?_
 have C2:v0.length ≤ 281474976710656:=Bi B0
 refine Ab (Bk (xs:=v0) Tryz.underlying92 rfl B0)<|Ae rfl<|Aa<|AB ?_
 have D0:=k0.nilRow 3 (Rep.size Int)
 have j1:=St.nilRowT k0 3 (Rep.size Int)
 have A1:=AM (cs:=[]) (xs:=([]:List Int)) D0 L (AS _ _)
 obtain ⟨D2,I1,H0⟩:=thn_in h
 refine Bw (α:=Nat × (List Int) × Value × (List Value)) (fun ⟨b0,d0,c0,g0⟩=>[(1,.func (.func 53) #[] #[.pointer (some ⟨p4,0,none⟩)]),(4,c0),(7,M0),(8,vI ((v0.length:Nat):Int)),(9,vI ((b0:Nat):Int))]) (fun ⟨b0,d0,c0,g0⟩ t0=>St w t0 [.row w.heap.size 3 (Rep.size Int) c0 d0.length g0]∧Tr Y1 [.row w.heap.size 3 (Rep.size Int) vN (([]:List Int).length) []] t0 [.row w.heap.size 3 (Rep.size Int) c0 d0.length g0]∧Cells t0 (bl [.row w.heap.size 3 (Rep.size Int) c0 d0.length g0] ++ L) g0 d0) (fun ⟨b0,d0,c0,g0⟩=>(b0,d0)) (0,([]:List Int),vN,[]) I1 ⟨rfl,rfl,rfl,rfl,rfl,trivial⟩ ⟨D0,Bd _ _,A1⟩ ?_
 rintro g2 ⟨b0,d0,c0,g0⟩ t0 C0 ⟨s0,z0,A0⟩ h
 unfold minority_Majority_1_l1 at h
 try dsimp only at h
 refine Ac<|Ab (Bm (i:=b0) (j:=v0.length) rfl rfl)<|Aa<|Ak<|AX rfl h (fun P0 h=>?_) (fun P0 h=>?_)
 refine Av<|Ak<|AB<|Ac<|Ae rfl ?_
 obtain ⟨u0,U1,h⟩:=bi h
 have E1:=Ay B0 (Tt j1 z0)
 obtain ⟨d2,q2,B1,C1,s2,P1,D1⟩:=Bo E1 U1
 obtain rfl:=op_Tpart P1
 refine Ab (Bx 2 b0 rfl B1 rfl rfl C1)<|Ab (Az rfl D1)<|Ai .plain rfl (Au [vI 0,vI 0] s0) (fun G2 j2 W0 E0=>?_)
 refine Ah rfl<|AL [vI u0.fL,vI u0.fall] W0 .hd (onesB rfl) (fun H2 j0 F0=>?_)
 refine Aa<|Ac<|Ae rfl<|Ab (Az rfl (j0.memA .hd)) ?_
 obtain ⟨b2,K0,h⟩:=bi h
 rcases b2 with x2 | c2
 have h:=exc_e h
 try dsimp only at h
 have h:=thn_inl h H0
 refine Bg (fst:=[]) (cap:=[.pointer (some ⟨p4,0,none⟩)]) .plain body53 rfl (e1 rfl) (fun w9 hw9=>minority_Majority_1_1_c n _ w9 (j0.hL0 hL hw9) u0 a4 (fun j9 v9 h9=>hw9.cell0 ((fun j9 v9 h9=>j0.ag.cell0 (m4 j9 v9 h9)) j9 v9 h9)) K0) (fun I2 q1=>?_)
 obtain ⟨X0,z2⟩:=j0.agr q1
 refine AG K1 Tryz.func52 ?_
 cases h
 exact AG hp0 Tryz.func49 ⟨X0.ag,rfl⟩
 have h:=exc_o h
 try dsimp only at h
 refine RG.callq' (v:=.bool c2) (fst:=[]) (cap:=[.pointer (some ⟨p4,0,none⟩)]) .plain body53 rfl (e1 rfl) (fun w9 hw9=>AD (minority_Majority_1_1_c n _ w9 (j0.hL0 hL hw9) u0 a4 (fun j9 v9 h9=>hw9.cell0 ((fun j9 v9 h9=>j0.ag.cell0 (m4 j9 v9 h9)) j9 v9 h9)) K0)) rfl<|Aa<|MX.ifb rfl h (fun Q0 h=>?_) (fun Q0 h=>?_)
 refine Ao<|Ae rfl<|Ae rfl<|Ai .plain rfl (AT (α:=Int) (xs:=([((b0:Nat):Int)]:List Int)) (vs:=[vI ((b0:Nat):Int)]) (ds' :=[vI ((b0:Nat):Int)]) rfl j0 el42 rfl (e1 rfl) (by kernel_rfl) rfl) (fun J2 k2 x0 c1=>?_)
 have x1:=AM (cs:=[vI ((b0:Nat):Int)]) (xs:=(([((b0:Nat):Int)]:List Int):List Int)) x0 L (Ap (cs:=[vI ((b0:Nat):Int)]) (ds:=[]) rfl (AS _ _))
 obtain ⟨Z1,V1,h⟩:=bi h
 have I0:=Tt E0 (Tt F0 c1)
 have F1:=Bb A0 I0
 refine RG.doesL .plain rfl (DoesL.app (α:=Int) (ys:=([((b0:Nat):Int)]:List Int)) V1 x0 (fun _ _=>(.tl (.tl .hd))) el42 rfl rfl F1 (Src.row (α:=Int) x0 .hd x1)) (fun X1 K2 ⟨U0,Y0,d1,z1⟩=>?_)
 refine Ah rfl<|Aa<|AC<|Ao<|Ab (Bl (i:=b0) (j:=1) rfl rfl (by omega))<|Ae rfl<|Aa ?_
 obtain ⟨Z0,G0⟩:=AN Y0 (.one (.tl (.tl .hd)) .done)
 have G1:=Bb z1 G0
 have M1:=Tt I0 (Tt d1 G0)
 exact C0 (b0 + 1,Z1,X1,U0) _ _ ⟨rfl,rfl,rfl,rfl,rfl,trivial⟩ ⟨Z0,(Tt z0 M1),G1⟩ h
 refine Av<|AC<|Ao<|Ab (Bl (i:=b0) (j:=1) rfl rfl (by omega))<|Ae rfl<|Aa ?_
 obtain ⟨b1,g1⟩:=AN j0 (.one (.tl .hd) .done)
 have J0:=Tt E0 (Tt F0 g1)
 have H1:=Bb A0 J0
 exact C0 (b0 + 1,d0,c0,g0) _ _ ⟨rfl,rfl,rfl,rfl,rfl,trivial⟩ ⟨b1,(Tt z0 J0),H1⟩ h
 refine Bj rfl ?_
 have h:=thn_inr h H0
 try dsimp only at h
 refine Ac<|Ae rfl<|Ah rfl<|Aa<|Am rfl<|Al (u:=c0) v1 Tryz.func52 rfl (.cons (.tmp rfl) .nil) rfl<|Ah rfl<|Aa<|Am rfl ?_
 have Q1:=Br (α:=Int) s0 .hd A0 hL
 have y0:=St.delS s0 .hd
 have A2:=St.delT s0 .hd
 have R1:=Rep.at_ (α:=Int) (v:=c0) (xs:=d0) y0 L Q1
 refine Be hb0 Tryz.func49 rfl rfl ?_
 cases h
 exact ⟨y0.ag,fun w9 hw9=>okOf_in ⟨c0,rfl,y0.kd R1 hw9⟩⟩
 refine Ao<|Ae rfl<|Ab (AK (vs:=[vI q0]) (u:=.agg #[vI q0]) (e1 rfl) (fun w9=>by kernel_rfl))<|Ab (Bn (by kernel_rfl) rfl)<|RG.panic .plain rfl<|AG J1 Tryz.func50 ?_
 cases h
 exact AG hp0 Tryz.func49 ⟨k0.ag,rfl⟩
def tb81_6:List (Nat × Nat × Nat):=[(0,131072,32),(0,262144,8),(2,524288,262144),(1,0,131073),(15,0,524290)]
theorem body48:bodyB Tryz.prog 48 = true:=by kernel_rfl
theorem body49:bodyB Tryz.prog 49 = true:=by kernel_rfl
theorem body81:bodyB Tryz.prog 81 = true:=by kernel_rfl
def minority_Majority_p (n:Nat) (a0:TRoll) (a1:List Int) (a2:Int) (a3:Int) (a4:TShare):Option ((List Int) × Int):=
  (minority_Majority_1_p n a0 a1 a2 a3 a4).bind fun c0=>exc c0 (fun d0=>some (d0,(0:Int))) (fun b0=>some (([]:List Int),b0.fH))
theorem minority_Majority_c (n:Nat) (L:List Nat) (w:World) (hL:∀ b ∈ L,b < w.heap.size) (a0:TRoll) {v0_3:Value} (h0_3:Rep.R w L [v0_3] a0.fE) (a1:List Int) {v1_0:Value} (h1_0:Rep.R w L [v1_0] a1) (a2:Int) (a3:Int) (a4:TShare)  {r:(List Int) × Int} (h:minority_Majority_p n a0 a1 a2 a3 a4 = some r) :
    Calls Tryz.prog 21 #[.agg #[vI a0.fj,vI a0.fh,vI a0.fl,v0_3],v1_0,vI a2,vI a3,.agg ((cs_TShare a4)).toArray] w (Gives w fun w' u=>∃ v0_0:Value,u = .tuple #[v0_0,vI r.2]∧Rep.R w' L [v0_0] r.1):=by
 unfold minority_Majority_p at h
 have hS0:=Ax w
 refine AE Tryz.func21 rfl rfl rfl (fun _ cs0 hb0=>?_)
 refine Ac<|Ai .plain rfl (Ar hS0 rfl rfl) (fun Z1 g0 F0 I1=>?_)
 have x1:=AP h1_0 F0
 refine Ai .plain rfl (Ar F0 rfl (Rep.c1 x1)) (fun j2 j0 U0 J1=>?_)
 refine Ai .plain rfl (Ar U0 rfl rfl) (fun k2 k0 V0 K1=>?_)
 refine Ai .plain rfl (Ar V0 rfl rfl) (fun p2 p0 W0 M1=>?_)
 refine Ai .plain rfl (Ar W0 rfl rfl) (fun q2 q0 X0 P1=>?_)
 refine Ah rfl<|Ah rfl<|Aa<|Ac<|Ab (BB (vs:=[]) (us:=[vP g0,vP j0,vP k0,vP p0,vP q0]) evs_nil (e5 rfl rfl rfl rfl rfl))<|Bc (fst:=[]) (cap:=[]) (vs:=[.func (.func 49) #[] #[vP g0,vP j0,vP k0,vP p0,vP q0]]) .plain body48 Tryz.func48 rfl rfl rfl rfl (e1 rfl) rfl (fun E1 G0 X1=>?_)
 refine Ac<|Ai .plain rfl (Au [vN] X0) (fun s2 s0 Y0 Q1=>?_)
 refine Ai .plain rfl (Au [vI 0] Y0) (fun t2 d0 b0 R1=>?_)
 refine Aa<|Ac<|Ab (BB (vs:=[]) (us:=[vP s0,vP d0]) evs_nil (e2 rfl rfl))<|RG.defer (fst:=[]) (cap:=[vP s0,vP d0]) (vs:=[]) rfl .plain rfl evs_nil<|Aa<|Ac<|Ae rfl ?_
 obtain ⟨B1,I0,h⟩:=bi h
 rcases B1 with t0 | x2
 have h:=exc_e h
 try dsimp only at h
 refine Bg (fst:=[]) (cap:=[vP g0,vP j0,vP k0,vP p0,vP q0]) .plain body49 rfl evs_nil (fun w9 hw9=>minority_Majority_1_c n _ w9 (b0.hL hL hw9) a0 (b0.km h0_3 hw9) (fun j9 v9 h9=>hw9.cell0 ((b0.memA (.tl (.tl (.tl (.tl (.tl (.tl .hd))))))) j9 v9 h9)) a1 (b0.km h1_0 hw9) (fun j9 v9 h9=>hw9.cell0 ((b0.memA (.tl (.tl (.tl (.tl (.tl .hd)))))) j9 v9 h9)) a2 (fun j9 v9 h9=>hw9.cell0 ((b0.memA (.tl (.tl (.tl (.tl .hd))))) j9 v9 h9)) a3 (fun j9 v9 h9=>hw9.cell0 ((b0.memA (.tl (.tl (.tl .hd)))) j9 v9 h9)) a4 (fun j9 v9 h9=>hw9.cell0 ((b0.memA (.tl (.tl .hd))) j9 v9 h9)) I0) (fun u2 q1=>?_)
 obtain ⟨Z0,U1⟩:=b0.agr q1
 refine PN.callD (vs:=[]) (cap:=[vP s0,vP d0]) body81 Tryz.func81 rfl rfl rfl (fun D1 s1 u1=>?_)
 refine Ac<|RG.recover1 .plain s1 rfl<|Ah rfl<|Aa<|Ac<|Ae rfl<|Ab (FV.neqI Tryz.underlying20 rfl rfl)<|Aa<|AV rfl<|Ac<|Ae rfl<|Ab (FV.assertT (by kernel_rfl) rfl)<|Ae rfl<|Ab (Ag rfl rfl)<|Ab (Ag rfl rfl)<|Ai .plain rfl (Au [vI 0] Z0) (fun v2 J0 b1 V1=>?_)
 refine AL [vI t0.fH] b1 .hd (o1 rfl) (fun z1 y0 W1=>?_)
 refine Ah rfl<|Aa<|Ak<|Ac<|Ae rfl<|Ab (FV.not rfl)<|Aa<|Bu rfl<|Av<|Ac<|Ah rfl<|Aa<|dt 3 tb81_6 (fun c0 B0=>?_)
 refine Af 0 1 c0 rfl B0 (fun _=>Aj rfl) rfl<|Af 1 3 c0 rfl B0 (fun _=>AQ 0 rfl) rfl<|RD.meet (α:=Unit) (fun ()=>[(1,vP d0),(19,vI t0.fH)]) (fun () D0=>St w D0 [.cells d0 [vI 0] 35,.cells s0 [vN] 42,.cells q0 (cs_TShare a4) 34,.cells p0 [vI a3] 3,.cells k0 [vI a2] 3,.cells j0 [v1_0] 59,.cells g0 [vI a0.fj,vI a0.fh,vI a0.fl,v0_3] 28]∧Tr z1 [.cells J0 [vI t0.fH] 110,.cells d0 [vI 0] 35,.cells s0 [vN] 42,.cells q0 (cs_TShare a4) 34,.cells p0 [vI a3] 3,.cells k0 [vI a2] 3,.cells j0 [v1_0] 59,.cells g0 [vI a0.fj,vI a0.fh,vI a0.fl,v0_3] 28] D0 [.cells d0 [vI 0] 35,.cells s0 [vN] 42,.cells q0 (cs_TShare a4) 34,.cells p0 [vI a3] 3,.cells k0 [vI a2] 3,.cells j0 [v1_0] 59,.cells g0 [vI a0.fj,vI a0.fh,vI a0.fl,v0_3] 28]) 1 15 ?_ ?_
 rintro ⟨⟩ D0 ⟨K0,F1⟩
 try dsimp only
 refine Bq 4 31 c0 rfl rfl .plain (Aw (news:=[vI t0.fH]) K0 .hd rfl rfl rfl rfl rfl rfl (o1 rfl)) (fun b2 u0 G1=>?_)
 refine AH (dk c0)<|MX.fin rfl<|RT.leaveD1 u1 Tryz.func81 rfl .nil<|Al (u:=.tuple #[vN,vI t0.fH]) G0 Tryz.func48 rfl (.cons (.one (by kernel_rfl) rfl ((u0.memA (.tl .hd)) 0 _ rfl)) (.cons (.one (by kernel_rfl) rfl ((u0.memA .hd) 0 _ rfl)) .nil)) rfl<|Ab (Ag rfl rfl)<|Ab (Ag rfl rfl)<|Ah rfl<|Ah rfl<|Aa<|Am rfl ?_
 have y1:=Rep.nilAt (α:=Int) u0 L
 refine Al hb0 Tryz.func21 rfl (.cons (.tmp rfl) (.cons (.tmp rfl) .nil)) rfl ?_
 cases h
 exact ⟨u0.ag,fun w9 hw9=>⟨vN,rfl,u0.kd y1 hw9⟩⟩
 intro E0
 refine RD.each [2,3] (rk c0) ⟨?_,?_,trivial⟩
 refine RO.val (m' :=7) (sk c0) rfl .plain rfl (AJ rfl ((y0.memA .hd) 0 _ rfl))<|Bq 3 15 c0 rfl rfl .plain (Aw (news:=[vN]) y0 (.tl (.tl .hd)) rfl rfl rfl rfl rfl rfl (o1 rfl)) (fun A1 x0 z0=>?_)
 obtain ⟨M0,d1⟩:=AN x0 (.one (.tl .hd) (.one (.tl .hd) (.one (.tl .hd) (.one (.tl .hd) (.one (.tl .hd) (.one (.tl .hd) (.one (.tl .hd) .done)))))))
 exact E0 () _ _ ⟨rfl,rfl,trivial⟩ ⟨M0,(Tt z0 d1)⟩
 refine RO.now (m' :=11) (sk c0) rfl rfl .plain (Aw (news:=[vN]) y0 (.tl (.tl .hd)) rfl rfl rfl rfl rfl rfl (o1 rfl)) (fun A1 x0 z0=>?_)
 refine AA 2 15 16 c0 rfl B0 (AJ rfl ((x0.memA .hd) 0 _ rfl)) rfl ?_
 obtain ⟨P0,g1⟩:=AN x0 (.one (.tl .hd) (.one (.tl .hd) (.one (.tl .hd) (.one (.tl .hd) (.one (.tl .hd) (.one (.tl .hd) (.one (.tl .hd) .done)))))))
 exact E0 () _ _ ⟨rfl,rfl,trivial⟩ ⟨P0,(Tt z0 g1)⟩
 have h:=exc_o h
 try dsimp only at h
 refine By (fst:=[]) (cap:=[vP g0,vP j0,vP k0,vP p0,vP q0]) .plain body49 rfl evs_nil (fun w9 hw9=>AD (minority_Majority_1_c n _ w9 (b0.hL hL hw9) a0 (b0.km h0_3 hw9) (fun j9 v9 h9=>hw9.cell0 ((b0.memA (.tl (.tl (.tl (.tl (.tl (.tl .hd))))))) j9 v9 h9)) a1 (b0.km h1_0 hw9) (fun j9 v9 h9=>hw9.cell0 ((b0.memA (.tl (.tl (.tl (.tl (.tl .hd)))))) j9 v9 h9)) a2 (fun j9 v9 h9=>hw9.cell0 ((b0.memA (.tl (.tl (.tl (.tl .hd))))) j9 v9 h9)) a3 (fun j9 v9 h9=>hw9.cell0 ((b0.memA (.tl (.tl (.tl .hd)))) j9 v9 h9)) a4 (fun j9 v9 h9=>hw9.cell0 ((b0.memA (.tl (.tl .hd))) j9 v9 h9)) I0)) rfl (fun c2 C0 p1 ⟨Y1,hu_,A0⟩=>?_)
 subst hu_
 obtain ⟨Q0,H1⟩:=b0.agr p1
 refine RG.now .plain (Aw (news:=[C0]) Q0 (.tl .hd) rfl rfl rfl (Rep.c1 A0) rfl rfl (o1 (AU A0))) (fun d2 R0 j1=>?_)
 refine AL [vI 0] R0 .hd (o1 rfl) (fun g2 v0 k1=>?_)
 refine Aa<|Am rfl<|RT.callD (vs:=[]) (cap:=[vP s0,vP d0]) body81 Tryz.func81 rfl rfl rfl (fun C1 H0 t1=>?_)
 refine Ac<|RG.recover0 .plain H0 rfl<|Ah rfl<|Aa<|Ac<|Ae rfl<|Ab (FV.neqI0 Tryz.underlying20 rfl rfl)<|Aa<|Bu rfl<|Av<|MX.fin rfl<|RT.leaveD0 H0 t1 Tryz.func81 rfl .nil<|Al (u:=.tuple #[C0,vI 0]) G0 Tryz.func48 rfl (.cons (.one (by kernel_rfl) rfl ((v0.memA (.tl .hd)) 0 _ rfl)) (.cons (.one (by kernel_rfl) rfl ((v0.memA .hd) 0 _ rfl)) .nil)) rfl<|Ab (Ag rfl rfl)<|Ab (Ag rfl rfl)<|Ah rfl<|Ah rfl<|Aa<|Am rfl<|Al hb0 Tryz.func21 rfl (.cons (.tmp rfl) (.cons (.tmp rfl) .nil)) rfl ?_
 cases h
 have v1:=Ay A0 (Tt j1 k1)
 exact ⟨v0.ag,fun w9 hw9=>⟨C0,rfl,v0.kd v1 hw9⟩⟩
def share_Ratio_lesser_p (n:Nat) (a0:TRatio) (a1:TRatio):Option TRatio:=
  (share_Ratio_Cmp_p n a0 a1).bind fun b0=>(if b0 ≤ 0 then some a0 else some a1)
theorem share_Ratio_lesser_c (n:Nat) (L:List Nat) (w:World) (hL:∀ b ∈ L,b < w.heap.size) (a0:TRatio) {v0_1:Value} (h0_1:Rep.R w L [v0_1] a0.ft.fo) {v0_3:Value} (h0_3:Rep.R w L [v0_3] a0.fp.fo) (a1:TRatio) {v1_1:Value} (h1_1:Rep.R w L [v1_1] a1.ft.fo) {v1_3:Value} (h1_3:Rep.R w L [v1_3] a1.fp.fo)  {r:TRatio} (h:share_Ratio_lesser_p n a0 a1 = some r) :
    Calls Tryz.prog 106 #[.agg #[.bool a0.ft.fe,v0_1,.bool a0.fp.fe,v0_3],.agg #[.bool a1.ft.fe,v1_1,.bool a1.fp.fe,v1_3]] w (Gives w fun w' u=>∃ v0_1 v0_3:Value,u = .agg #[.bool r.ft.fe,v0_1,.bool r.fp.fe,v0_3]∧Rep.R w' L [v0_1] r.ft.fo∧Rep.R w' L [v0_3] r.fp.fo):=by
 unfold share_Ratio_lesser_p at h
 have hS0:=Ax w
 refine AE Tryz.func106 rfl rfl rfl (fun _ cs0 hb0=>?_)
 refine Ac<|Ai .plain rfl (Ar hS0 rfl rfl) (fun G0 y0 p0 B0=>?_)
 refine Ai .plain rfl (Ar p0 rfl rfl) (fun H0 z0 q0 C0=>?_)
 refine Ai .plain rfl (Au [.bool false,vN,.bool false,vN] q0) (fun I0 A0 b0 D0=>?_)
 refine Aa<|Ak<|Ac<|Ab (Az rfl (b0.memA (.tl (.tl .hd))))<|Ab (Az rfl (b0.memA (.tl .hd))) ?_
 obtain ⟨g0,x0,h⟩:=bi h
 refine Ba (vI g0) body77 rfl (e2 rfl rfl) (fun w9 hw9=>share_Ratio_Cmp_c n _ w9 (b0.hL0 hL hw9) a0 (b0.k0 h0_1 hw9) (b0.k0 h0_3 hw9) a1 (b0.k0 h1_1 hw9) (b0.k0 h1_3 hw9) x0) rfl<|Ab (FV.leq (i:=g0) (j:=0) rfl rfl)<|Aa<|AX rfl h (fun j0 h=>?_) (fun j0 h=>?_)
 refine Ac<|Ab (Az rfl (b0.memA (.tl (.tl .hd)))) ?_
 have s0:=AP h0_1 b0
 have t0:=AP h0_3 b0
 refine AL [.bool a0.ft.fe,v0_1,.bool a0.fp.fe,v0_3] b0 .hd (o4 rfl (AU s0) rfl (AU t0)) (fun J0 c0 E0=>?_)
 refine Aa<|Am rfl<|Al hb0 Tryz.func106 rfl (.cons (.many (cs:=[.bool a0.ft.fe,v0_1,.bool a0.fp.fe,v0_3]) (by kernel_rfl) rfl (c0.memA .hd)) .nil) rfl ?_
 cases h
 exact ⟨c0.ag,fun w9 hw9=>⟨v0_1,v0_3,rfl,c0.k0 h0_1 hw9,c0.k0 h0_3 hw9⟩⟩
 refine Av<|Ac<|Ab (Az rfl (b0.memA (.tl .hd))) ?_
 have u0:=AP h1_1 b0
 have v0:=AP h1_3 b0
 refine AL [.bool a1.ft.fe,v1_1,.bool a1.fp.fe,v1_3] b0 .hd (o4 rfl (AU u0) rfl (AU v0)) (fun K0 d0 F0=>?_)
 refine Aa<|Am rfl<|Al hb0 Tryz.func106 rfl (.cons (.many (cs:=[.bool a1.ft.fe,v1_1,.bool a1.fp.fe,v1_3]) (by kernel_rfl) rfl (d0.memA .hd)) .nil) rfl ?_
 cases h
 exact ⟨d0.ag,fun w9 hw9=>⟨v1_1,v1_3,rfl,d0.k0 h1_1 hw9,d0.k0 h1_3 hw9⟩⟩
def tb88_1:List (Nat × Nat × Nat):=[(0,32,4),(1,64,32),(0,128,8),(6,256,128),(10,512,320),(16,1024,512),(63,0,1040)]
theorem body106:bodyB Tryz.prog 106 = true:=by kernel_rfl
def share_Ratio_greater_p (n:Nat) (a0:TRatio) (a1:TRatio):Option TRatio:=
  (share_Ratio_Turned_p n a0).bind fun b0=>(share_Ratio_Turned_p n a1).bind fun c0=>(share_Ratio_lesser_p n b0 c0).bind fun d0=>(share_Ratio_Turned_p n d0).bind fun g0=>some g0
theorem share_Ratio_greater_c (n:Nat) (L:List Nat) (w:World) (hL:∀ b ∈ L,b < w.heap.size) (a0:TRatio) {v0_1:Value} (h0_1:Rep.R w L [v0_1] a0.ft.fo) {v0_3:Value} (h0_3:Rep.R w L [v0_3] a0.fp.fo) (a1:TRatio) {v1_1:Value} (h1_1:Rep.R w L [v1_1] a1.ft.fo) {v1_3:Value} (h1_3:Rep.R w L [v1_3] a1.fp.fo)  {r:TRatio} (h:share_Ratio_greater_p n a0 a1 = some r) :
    Calls Tryz.prog 88 #[.agg #[.bool a0.ft.fe,v0_1,.bool a0.fp.fe,v0_3],.agg #[.bool a1.ft.fe,v1_1,.bool a1.fp.fe,v1_3]] w (Gives w fun w' u=>∃ v0_1 v0_3:Value,u = .agg #[.bool r.ft.fe,v0_1,.bool r.fp.fe,v0_3]∧Rep.R w' L [v0_1] r.ft.fo∧Rep.R w' L [v0_3] r.fp.fo):=by
 unfold share_Ratio_greater_p at h
 have hS0:=Ax w
 refine AE Tryz.func88 rfl rfl rfl (fun _ cs0 hb0=>?_)
 refine Ac<|Ai .plain rfl (Ar hS0 rfl rfl) (fun G1 d1 z0 k1=>?_)
 refine Ai .plain rfl (Ar z0 rfl rfl) (fun H1 g1 A0 p1=>?_)
 refine Ai .plain rfl (Au [.bool false,vN,.bool false,vN] A0) (fun I1 j1 c0 q1=>?_)
 refine Aa<|Ak<|dt 6 tb88_1 (fun b0 y0=>?_)
 refine AA 0 1 122 b0 rfl y0 (Az rfl (c0.memA (.tl (.tl .hd)))) rfl<|AA 2 5 120 b0 rfl y0 (Az rfl (c0.memA (.tl .hd))) rfl ?_
 obtain ⟨Z0,V0,h⟩:=bi h
 refine Bp 1 7 b0 rfl .plain body89 rfl (e1 rfl) (fun w9 hw9=>share_Ratio_Turned_c n _ w9 (c0.hL hL hw9) a0 (c0.km h0_1 hw9) (c0.km h0_3 hw9) V0) rfl (fun J1 C1 C0 ⟨v1,x1,hu_,K0,M0⟩=>?_)
 subst hu_
 obtain ⟨d0,s1⟩:=c0.agr C0
 obtain ⟨b1,W0,h⟩:=bi h
 refine Bp 3 15 b0 rfl .plain body89 rfl (e1 rfl) (fun w9 hw9=>share_Ratio_Turned_c n _ w9 (d0.hL hL hw9) a1 (d0.km h1_1 hw9) (d0.km h1_3 hw9) W0) rfl (fun K1 D1 D0 ⟨y1,z1,hu_,P0,Q0⟩=>?_)
 subst hu_
 obtain ⟨q0,t0⟩:=d0.agr D0
 obtain ⟨c1,X0,h⟩:=bi h
 have G0:=Ay K0 t0
 have H0:=Ay M0 t0
 refine Bp 4 31 b0 rfl .plain body106 rfl (e2 rfl rfl) (fun w9 hw9=>share_Ratio_lesser_c n _ w9 (q0.hL hL hw9) Z0 (Aq G0 hw9) (Aq H0 hw9) b1 (Aq P0 hw9) (Aq Q0 hw9) X0) rfl (fun M1 E1 E0 ⟨A1,B1,hu_,R0,U0⟩=>?_)
 subst hu_
 obtain ⟨s0,t1⟩:=q0.agr E0
 obtain ⟨j0,Y0,h⟩:=bi h
 refine Bp 5 63 b0 rfl .plain body89 rfl (e1 rfl) (fun w9 hw9=>share_Ratio_Turned_c n _ w9 (s0.hL hL hw9) c1 (Aq R0 hw9) (Aq U0 hw9) Y0) rfl (fun P1 F1 F0 ⟨k0,p0,hu_,v0,x0⟩=>?_)
 subst hu_
 obtain ⟨B0,u1⟩:=s0.agr F0
 refine Bq 6 127 b0 rfl rfl .plain (Aw (news:=[.bool j0.ft.fe,k0,.bool j0.fp.fe,p0]) B0 .hd rfl rfl rfl rfl rfl rfl (o4 rfl (AU v0) rfl (AU x0))) (fun Q1 g0 u0=>?_)
 refine AH (dk b0)<|Am rfl<|Al hb0 Tryz.func88 rfl (.cons (.many (cs:=[.bool j0.ft.fe,k0,.bool j0.fp.fe,p0]) (by kernel_rfl) rfl (g0.memA .hd)) .nil) rfl ?_
 cases h
 have I0:=Ay v0 u0
 have J0:=Ay x0 u0
 exact ⟨g0.ag,fun w9 hw9=>⟨k0,p0,rfl,g0.kd I0 hw9,g0.kd J0 hw9⟩⟩
def tb87_1:List (Nat × Nat × Nat):=[(0,32,4),(0,64,4),(2,128,64),(5,256,160),(15,0,272)]
theorem body88:bodyB Tryz.prog 88 = true:=by kernel_rfl
def share_Abs_1_p (n:Nat) (a0:TRatio) (_a1:TRatio):Option TRatio:=
  (share_Ratio_Turned_p n a0).bind fun b0=>(share_Ratio_greater_p n a0 b0).bind fun c0=>some c0
theorem share_Abs_1_c (n:Nat) (L:List Nat) (w:World) (hL:∀ b ∈ L,b < w.heap.size) (a0:TRatio) {v0_1:Value} (h0_1:Rep.R w L [v0_1] a0.ft.fo) {v0_3:Value} (h0_3:Rep.R w L [v0_3] a0.fp.fo) (a1:TRatio) {v1_1:Value} (h1_1:Rep.R w L [v1_1] a1.ft.fo) {v1_3:Value} (h1_3:Rep.R w L [v1_3] a1.fp.fo)  {r:TRatio} (h:share_Abs_1_p n a0 a1 = some r) :
    Calls Tryz.prog 87 #[.agg #[.bool a0.ft.fe,v0_1,.bool a0.fp.fe,v0_3],.agg #[.bool a1.ft.fe,v1_1,.bool a1.fp.fe,v1_3]] w (Gives w fun w' u=>∃ v0_1 v0_3:Value,u = .agg #[.bool r.ft.fe,v0_1,.bool r.fp.fe,v0_3]∧Rep.R w' L [v0_1] r.ft.fo∧Rep.R w' L [v0_3] r.fp.fo):=by
 unfold share_Abs_1_p at h
 have hS0:=Ax w
 refine AE Tryz.func87 rfl rfl rfl (fun _ cs0 hb0=>?_)
 refine Ac<|Ai .plain rfl (Ar hS0 rfl rfl) (fun Z0 I0 v0 M0=>?_)
 refine Ai .plain rfl (Ar v0 rfl rfl) (fun b1 J0 x0 P0=>?_)
 refine Ai .plain rfl (Au [.bool false,vN,.bool false,vN] x0) (fun c1 K0 b0 Q0=>?_)
 refine Aa<|Ak<|dt 4 tb87_1 (fun c0 u0=>?_)
 refine AA 0 1 24 c0 rfl u0 (Az rfl (b0.memA (.tl (.tl .hd)))) rfl<|AA 1 3 28 c0 rfl u0 (Az rfl (b0.memA (.tl (.tl .hd)))) rfl ?_
 obtain ⟨H0,F0,h⟩:=bi h
 refine Bp 2 7 c0 rfl .plain body89 rfl (e1 rfl) (fun w9 hw9=>share_Ratio_Turned_c n _ w9 (b0.hL hL hw9) a0 (b0.km h0_1 hw9) (b0.km h0_3 hw9) F0) rfl (fun d1 X0 z0 ⟨V0,W0,hu_,D0,E0⟩=>?_)
 subst hu_
 obtain ⟨d0,R0⟩:=b0.agr z0
 obtain ⟨j0,G0,h⟩:=bi h
 refine Bp 3 15 c0 rfl .plain body88 rfl (e2 rfl rfl) (fun w9 hw9=>share_Ratio_greater_c n _ w9 (d0.hL hL hw9) a0 (d0.km h0_1 hw9) (d0.km h0_3 hw9) H0 (Aq D0 hw9) (Aq E0 hw9) G0) rfl (fun g1 Y0 A0 ⟨k0,p0,hu_,s0,t0⟩=>?_)
 subst hu_
 obtain ⟨y0,U0⟩:=d0.agr A0
 refine Bq 4 31 c0 rfl rfl .plain (Aw (news:=[.bool j0.ft.fe,k0,.bool j0.fp.fe,p0]) y0 .hd rfl rfl rfl rfl rfl rfl (o4 rfl (AU s0) rfl (AU t0))) (fun j1 g0 q0=>?_)
 refine AH (dk c0)<|Am rfl<|Al hb0 Tryz.func87 rfl (.cons (.many (cs:=[.bool j0.ft.fe,k0,.bool j0.fp.fe,p0]) (by kernel_rfl) rfl (g0.memA .hd)) .nil) rfl ?_
 cases h
 have B0:=Ay s0 q0
 have C0:=Ay t0 q0
 exact ⟨g0.ag,fun w9 hw9=>⟨k0,p0,rfl,g0.kd B0 hw9,g0.kd C0 hw9⟩⟩
theorem body87:bodyB Tryz.prog 87 = true:=by kernel_rfl
def share_Abs_p (n:Nat) (a0:TShare):Option (TShare × Int):=
  (share_valid_p n ([a0,a0]:List TShare)).bind fun d0=>(if d0 = true then (share_Read_p n a0).bind fun g0=>(share_Read_p n a0).bind fun j0=>(share_Abs_1_p n g0 j0).bind fun k0=>(share_told_p n k0 (0:Int)).bind fun b0=>some (b0.1,b0.2) else (share_told_p n (⟨(⟨false,([]:List UInt64)⟩:TLong),(⟨false,([]:List UInt64)⟩:TLong)⟩:TRatio) (20:Int)).bind fun c0=>some (c0.1,c0.2))
theorem share_Abs_c (n:Nat) (L:List Nat) (w:World) (hL:∀ b ∈ L,b < w.heap.size) (a0:TShare)  {r:TShare × Int} (h:share_Abs_p n a0 = some r) :
    Calls Tryz.prog 57 #[.agg ((cs_TShare a0)).toArray] w (Gives w fun _ u=>u = .tuple #[.agg ((cs_TShare r.1)).toArray,vI r.2]):=by
 unfold share_Abs_p at h
 have hS0:=Ax w
 refine AE Tryz.func57 rfl rfl rfl (fun _ cs0 hb0=>?_)
 refine Ac<|Ai .plain rfl (Ar hS0 rfl rfl) (fun j2 x1 I0 G1=>?_)
 refine Ai .plain rfl (Au zL I0) (fun k2 y1 p0 H1=>?_)
 refine Ah rfl<|Aa<|Ac<|Ab (Az rfl (p0.memA (.tl .hd)))<|Ab (Az rfl (p0.memA (.tl .hd)))<|Bc (fst:=[]) (cap:=[]) (vs:=[.agg ((cs_TShare a0)).toArray,.agg ((cs_TShare a0)).toArray,.func (.func 87) #[] #[]]) .plain body71 Tryz.func71 rfl rfl rfl rfl (e3 rfl rfl rfl) rfl (fun E1 E0 W1=>?_)
 refine Ac<|Ai .plain rfl (Ar p0 rfl rfl) (fun p2 z1 J0 I1=>?_)
 refine Ai .plain rfl (Ar J0 rfl rfl) (fun q2 A1 K0 J1=>?_)
 refine Ai .plain rfl (Au [.bool false,vN,.bool false,vN] K0) (fun s2 B1 q0 K1=>?_)
 refine Ah rfl<|Aa<|Ak<|Ac<|Ab (Az rfl (q0.memA (.tl (.tl .hd))))<|Ab (Az rfl (q0.memA (.tl .hd)))<|Ai .plain rfl (AT (α:=TShare) (xs:=([a0,a0]:List TShare)) (vs:=[.agg ((cs_TShare a0)).toArray,.agg ((cs_TShare a0)).toArray]) (ds' :=(cs_TShare a0 ++ cs_TShare a0)) rfl q0 el60 rfl (e2 rfl rfl) (by kernel_rfl) rfl) (fun t2 C1 c0 M1=>?_)
 have U0:=AM (cs:=(cs_TShare a0 ++ cs_TShare a0)) (xs:=(([a0,a0]:List TShare):List TShare)) c0 L (Ap (cs:=(cs_TShare a0)) (ds:=(cs_TShare a0)) (mk_TShare a0.fN a0.fD) (Ap (cs:=(cs_TShare a0)) (ds:=[]) (mk_TShare a0.fN a0.fD) (AS _ _)))
 obtain ⟨t1,g1,h⟩:=bi h
 refine Ba (.bool t1) body93 rfl (e1 rfl) (fun w9 hw9=>share_valid_c n _ w9 (c0.hL0 hL hw9) ([a0,a0]:List TShare) (Aq (St.lend (α:=TShare) (L:=L) c0 .hd U0 hL) hw9) g1) rfl<|Ab (FV.not rfl)<|Aa<|MX.ifnb rfl h (fun H0 h=>?_) (fun H0 h=>?_)
 refine Av<|Ak<|dt 6 tb71_4 (fun b0 t0=>?_)
 refine Af 0 1 b0 rfl t0 (fun _=>Aj rfl) rfl<|AA 1 3 244 b0 rfl t0 (Az rfl (c0.memA (.tl (.tl (.tl .hd))))) rfl<|AA 3 11 240 b0 rfl t0 (Az rfl (c0.memA (.tl (.tl .hd)))) rfl ?_
 obtain ⟨u1,j1,h⟩:=bi h
 refine Bp 2 15 b0 rfl .plain body83 rfl (e1 rfl) (fun w9 hw9=>share_Read_c n _ w9 (c0.hL hL hw9) a0 j1) rfl (fun u2 c2 P0 ⟨X1,Y1,hu_,Z0,b1⟩=>?_)
 subst hu_
 obtain ⟨x0,P1⟩:=c0.agr P0
 obtain ⟨v1,k1,h⟩:=bi h
 refine Bp 4 31 b0 rfl .plain body83 rfl (e1 rfl) (fun w9 hw9=>share_Read_c n _ w9 (x0.hL hL hw9) a0 k1) rfl (fun v2 d2 Q0 ⟨Z1,b2,hu_,c1,d1⟩=>?_)
 subst hu_
 obtain ⟨y0,C0⟩:=x0.agr Q0
 obtain ⟨d0,p1,h⟩:=bi h
 have V0:=Ay Z0 C0
 have W0:=Ay b1 C0
 refine Bp 5 63 b0 rfl .plain body87 rfl (e2 rfl rfl) (fun w9 hw9=>share_Abs_1_c n _ w9 (y0.hL hL hw9) u1 (Aq V0 hw9) (Aq W0 hw9) v1 (Aq c1 hw9) (Aq d1 hw9) p1) rfl (fun x2 g2 R0 ⟨u0,v0,hu_,F0,G0⟩=>?_)
 subst hu_
 obtain ⟨M0,Q1⟩:=y0.agr R0
 refine Bq 6 127 b0 rfl rfl .plain (Aw (news:=[.bool d0.ft.fe,u0,.bool d0.fp.fe,v0]) M0 (.tl .hd) rfl rfl rfl rfl rfl rfl (o4 rfl (AU F0) rfl (AU G0))) (fun y2 g0 D0=>?_)
 refine BC (i:=7) (rk b0) (RO.val (m' :=255) (sk b0) rfl .plain rfl (AY rfl) ?_)
 refine AH (dk b0)<|Am rfl<|Al (u:=.tuple #[.agg #[.bool d0.ft.fe,u0,.bool d0.fp.fe,v0],vI 0]) E0 Tryz.func71 rfl (.cons (.many (cs:=[.bool d0.ft.fe,u0,.bool d0.fp.fe,v0]) (by kernel_rfl) rfl (g0.memA (.tl .hd))) (.cons (.tmp rfl) .nil)) rfl<|Ab (Ag rfl rfl)<|Ab (Ag rfl rfl) ?_
 obtain ⟨j0,q1,h⟩:=bi h
 have X0:=Ay F0 D0
 have Y0:=Ay G0 D0
 refine Ba (.tuple #[.agg ((cs_TShare j0.1)).toArray,vI j0.2]) body70 rfl (e2 rfl rfl) (fun w9 hw9=>share_told_c n _ w9 (g0.hL0 hL hw9) d0 (g0.kd X0 hw9) (g0.kd Y0 hw9) (0:Int) q1) rfl<|Ab (Ag rfl rfl)<|Ab (Ag rfl rfl)<|AL (cs_TShare j0.1) g0 (.tl (.tl (.tl (.tl .hd)))) (onesB rfl) (fun z2 z0 R1=>?_)
 refine Ah rfl<|Aa<|Am rfl<|Al hb0 Tryz.func57 rfl (.cons (.many (cs:=(cs_TShare j0.1)) (by kernel_rfl) rfl (z0.memA (.tl (.tl (.tl (.tl .hd)))))) (.cons (.tmp rfl) .nil)) rfl ?_
 cases h
 exact z0.gv
 refine Ac<|Ai .plain rfl (Au [.bool false,vN,.bool false,vN] c0) (fun A2 D1 A0 U1=>?_)
 refine Aa<|Ac<|Ab (Az rfl (A0.memA .hd))<|AL [.bool false,vN,.bool false,vN] A0 (.tl (.tl .hd)) (onesB rfl) (fun B2 s0 V1=>?_)
 refine Ah rfl<|Aa<|Am rfl<|Al (u:=.tuple #[.agg #[.bool false,vN,.bool false,vN],vI 20]) E0 Tryz.func71 rfl (.cons (.many (cs:=[.bool false,vN,.bool false,vN]) (by kernel_rfl) rfl (s0.memA (.tl (.tl .hd)))) (.cons (.tmp rfl) .nil)) rfl<|Ab (Ag rfl rfl)<|Ab (Ag rfl rfl) ?_
 obtain ⟨k0,s1,h⟩:=bi h
 refine Ba (.tuple #[.agg ((cs_TShare k0.1)).toArray,vI k0.2]) body70 rfl (e2 rfl rfl) (fun w9 hw9=>share_told_c n _ w9 (s0.hL0 hL hw9) (⟨(⟨false,([]:List UInt64)⟩:TLong),(⟨false,([]:List UInt64)⟩:TLong)⟩:TRatio) (Aq (Rep.nilSlice _ _) hw9) (Aq (Rep.nilSlice _ _) hw9) (20:Int) s1) rfl<|Ab (Ag rfl rfl)<|Ab (Ag rfl rfl)<|AL (cs_TShare k0.1) s0 (.tl (.tl (.tl (.tl (.tl .hd))))) (onesB rfl) (fun C2 B0 F1=>?_)
 refine Ah rfl<|Aa<|Am rfl<|Al hb0 Tryz.func57 rfl (.cons (.many (cs:=(cs_TShare k0.1)) (by kernel_rfl) rfl (B0.memA (.tl (.tl (.tl (.tl (.tl .hd))))))) (.cons (.tmp rfl) .nil)) rfl ?_
 cases h
 exact B0.gv
def minority_sum_l1 (n:Nat) (a0:List TShare) (D0:Nat × UInt64 × UInt64 × UInt64 × UInt64 × UInt64 × UInt64 × UInt64 × UInt64 × UInt64 × UInt64 × UInt64 × UInt64 × UInt64 × UInt64 × UInt64 × UInt64 → Option ((Except Tbroken TShare) ⊕ (UInt64 × UInt64 × UInt64 × UInt64 × UInt64 × UInt64 × UInt64 × UInt64 × UInt64 × UInt64 × UInt64 × UInt64 × UInt64 × UInt64 × UInt64 × UInt64))):Nat × UInt64 × UInt64 × UInt64 × UInt64 × UInt64 × UInt64 × UInt64 × UInt64 × UInt64 × UInt64 × UInt64 × UInt64 × UInt64 × UInt64 × UInt64 × UInt64 → Option ((Except Tbroken TShare) ⊕ (UInt64 × UInt64 × UInt64 × UInt64 × UInt64 × UInt64 × UInt64 × UInt64 × UInt64 × UInt64 × UInt64 × UInt64 × UInt64 × UInt64 × UInt64 × UInt64))
  | (c0,d0,g0,j0,k0,p0,q0,s0,t0,u0,v0,x0,y0,z0,A0,B0,C0)=>(if c0 < a0.length then (a0[c0]?).bind fun F0=>(minority_add_p n (⟨(d0,g0,j0,k0,p0,q0,s0,t0),(u0,v0,x0,y0,z0,A0,B0,C0)⟩:TShare) F0).bind fun G0=>exc G0 (fun b0=>D0 (c0 + 1,b0.fN.1,b0.fN.2.1,b0.fN.2.2.1,b0.fN.2.2.2.1,b0.fN.2.2.2.2.1,b0.fN.2.2.2.2.2.1,b0.fN.2.2.2.2.2.2.1,b0.fN.2.2.2.2.2.2.2,b0.fD.1,b0.fD.2.1,b0.fD.2.2.1,b0.fD.2.2.2.1,b0.fD.2.2.2.2.1,b0.fD.2.2.2.2.2.1,b0.fD.2.2.2.2.2.2.1,b0.fD.2.2.2.2.2.2.2)) (fun E0=>some (.inl (.error E0))) else some (.inr (d0,g0,j0,k0,p0,q0,s0,t0,u0,v0,x0,y0,z0,A0,B0,C0)))
def minority_sum_p (n:Nat) (a0:List TShare):Option (Except Tbroken TShare):=
  (minority_of_p n (0:Int) (1:Int)).bind fun D0=>exc D0 (fun b0=>thn (loopF (minority_sum_l1 n a0) n (0,b0.fN.1,b0.fN.2.1,b0.fN.2.2.1,b0.fN.2.2.2.1,b0.fN.2.2.2.2.1,b0.fN.2.2.2.2.2.1,b0.fN.2.2.2.2.2.2.1,b0.fN.2.2.2.2.2.2.2,b0.fD.1,b0.fD.2.1,b0.fD.2.2.1,b0.fD.2.2.2.1,b0.fD.2.2.2.2.1,b0.fD.2.2.2.2.2.1,b0.fD.2.2.2.2.2.2.1,b0.fD.2.2.2.2.2.2.2)) (fun (d0,g0,j0,k0,p0,q0,s0,t0,u0,v0,x0,y0,z0,A0,B0,C0)=>some (.ok (⟨(d0,g0,j0,k0,p0,q0,s0,t0),(u0,v0,x0,y0,z0,A0,B0,C0)⟩:TShare)))) (fun c0=>some (.error c0))
theorem minority_sum_c (n:Nat) (L:List Nat) (w:World) (hL:∀ b ∈ L,b < w.heap.size) (a0:List TShare) {v0_0:Value} (h0_0:Rep.R w L [v0_0] a0)  {r:Except Tbroken TShare} (h:minority_sum_p n a0 = some r) :
    Calls Tryz.prog 58 #[v0_0] w (PGives w (fun (y:TShare) _ u=>u = .agg ((cs_TShare y)).toArray) (fun e=>.iface 110 (.agg #[vI e.fH])) r):=by
 unfold minority_sum_p at h
 have hS0:=Ax w
 refine Bz Tryz.func58 rfl rfl rfl (fun _ cs0 hb0 hp0=>?_)
 refine Ac<|Ai .plain rfl (Au zL hS0) (fun c2 F0 H0 R1=>?_)
 refine Aa<|Ac ?_
 obtain ⟨F1,U0,h⟩:=bi h
 rcases F1 with Q1 | b0
 have h:=exc_e h
 try dsimp only at h
 refine Bg (fst:=[]) (cap:=[]) .plain body31 rfl (e2 rfl rfl) (fun w9 hw9=>minority_of_c n _ w9 (H0.hL0 hL hw9) (0:Int) (1:Int) U0) (fun q2 u1=>?_)
 obtain ⟨d1,W1⟩:=H0.agr u1
 cases h
 exact AG hp0 Tryz.func58 ⟨d1.ag,rfl⟩
 have h:=exc_o h
 try dsimp only at h
 refine Ba (.agg ((cs_TShare b0)).toArray) body31 rfl (e2 rfl rfl) (fun w9 hw9=>AD (minority_of_c n _ w9 (H0.hL0 hL hw9) (0:Int) (1:Int) U0)) rfl<|Ai .plain rfl (Au zL H0) (fun s2 G0 g1 X1=>?_)
 refine AL (cs_TShare b0) g1 .hd (onesB rfl) (fun E1 P0 Y1=>?_)
 refine Aa<|Ak<|Ac<|Ae rfl ?_
 have R0:=AP h0_0 P0
 have Z1:a0.length ≤ 281474976710656:=Bi R0
 refine Ab (Bk (xs:=a0) Tryz.underlying60 rfl R0)<|Ae rfl<|Aa<|AB ?_
 obtain ⟨b2,A1,Q0⟩:=thn_in h
 refine Bw (α:=Nat × UInt64 × UInt64 × UInt64 × UInt64 × UInt64 × UInt64 × UInt64 × UInt64 × UInt64 × UInt64 × UInt64 × UInt64 × UInt64 × UInt64 × UInt64 × UInt64) (fun ⟨D0,d0,g0,j0,k0,p0,q0,s0,t0,u0,v0,x0,y0,z0,A0,B0,C0⟩=>[(2,vP F0),(3,vP G0),(7,v0_0),(8,vI ((a0.length:Nat):Int)),(9,vI ((D0:Nat):Int))]) (fun ⟨D0,d0,g0,j0,k0,p0,q0,s0,t0,u0,v0,x0,y0,z0,A0,B0,C0⟩ J0=>St w J0 [.cells G0 [vU d0,vU g0,vU j0,vU k0,vU p0,vU q0,vU s0,vU t0,vU u0,vU v0,vU x0,vU y0,vU z0,vU A0,vU B0,vU C0] 34,.cells F0 zL 34]∧Tr E1 [.cells G0 (cs_TShare b0) 34,.cells F0 zL 34] J0 [.cells G0 [vU d0,vU g0,vU j0,vU k0,vU p0,vU q0,vU s0,vU t0,vU u0,vU v0,vU x0,vU y0,vU z0,vU A0,vU B0,vU C0] 34,.cells F0 zL 34]) (fun ⟨D0,d0,g0,j0,k0,p0,q0,s0,t0,u0,v0,x0,y0,z0,A0,B0,C0⟩=>(D0,d0,g0,j0,k0,p0,q0,s0,t0,u0,v0,x0,y0,z0,A0,B0,C0)) (0,b0.fN.1,b0.fN.2.1,b0.fN.2.2.1,b0.fN.2.2.2.1,b0.fN.2.2.2.2.1,b0.fN.2.2.2.2.2.1,b0.fN.2.2.2.2.2.2.1,b0.fN.2.2.2.2.2.2.2,b0.fD.1,b0.fD.2.1,b0.fD.2.2.1,b0.fD.2.2.2.1,b0.fD.2.2.2.2.1,b0.fD.2.2.2.2.2.1,b0.fD.2.2.2.2.2.2.1,b0.fD.2.2.2.2.2.2.2) A1 ⟨rfl,rfl,rfl,rfl,rfl,trivial⟩ ⟨P0,Bd _ _⟩ ?_
 rintro I1 ⟨D0,d0,g0,j0,k0,p0,q0,s0,t0,u0,v0,x0,y0,z0,A0,B0,C0⟩ J0 X0 ⟨I0,j1⟩ h
 unfold minority_sum_l1 at h
 try dsimp only at h
 refine Ac<|Ab (Bm (i:=D0) (j:=a0.length) rfl rfl)<|Aa<|Ak<|AX rfl h (fun W0 h=>?_) (fun W0 h=>?_)
 refine Av<|Ak<|AB<|Ac ?_
 obtain ⟨K0,D1,h⟩:=bi h
 have z1:=AP h0_0 I0
 obtain ⟨H1,K1,v1,x1,M1,C1,y1⟩:=Bo z1 D1
 obtain rfl:=op_TShare C1
 refine Ab (Bx 16 D0 rfl v1 rfl rfl x1)<|Ab (Az rfl y1)<|Ai .plain rfl (Au zL I0) (fun d2 J1 Y0 k1=>?_)
 refine AL (cs_TShare K0) Y0 .hd (onesB rfl) (fun g2 E0 p1=>?_)
 refine Aa<|Ao<|Ab (Az rfl (E0.memA (.tl .hd)))<|Ab (Az rfl (E0.memA .hd)) ?_
 obtain ⟨G1,V0,h⟩:=bi h
 rcases G1 with P1 | c0
 have h:=exc_e h
 try dsimp only at h
 have h:=thn_inl h Q0
 refine Bg (fst:=[]) (cap:=[]) .plain body65 rfl (e2 rfl rfl) (fun w9 hw9=>minority_add_c n _ w9 (E0.hL0 hL hw9) (⟨(d0,g0,j0,k0,p0,q0,s0,t0),(u0,v0,x0,y0,z0,A0,B0,C0)⟩:TShare) K0 V0) (fun j2 t1=>?_)
 obtain ⟨Z0,U1⟩:=E0.agr t1
 cases h
 exact AG hp0 Tryz.func58 ⟨Z0.ag,rfl⟩
 have h:=exc_o h
 try dsimp only at h
 refine Ba (.agg ((cs_TShare c0)).toArray) body65 rfl (e2 rfl rfl) (fun w9 hw9=>AD (minority_add_c n _ w9 (E0.hL0 hL hw9) (⟨(d0,g0,j0,k0,p0,q0,s0,t0),(u0,v0,x0,y0,z0,A0,B0,C0)⟩:TShare) K0 V0)) rfl<|AL (cs_TShare c0) E0 (.tl .hd) (onesB rfl) (fun k2 b1 q1=>?_)
 refine Aa<|AC<|Ao<|Ab (Bl (i:=D0) (j:=1) rfl rfl (by omega))<|Ae rfl<|Aa ?_
 obtain ⟨c1,s1⟩:=AN b1 (.one (.tl .hd) (.one (.tl .hd) .done))
 have B1:=Tt k1 (Tt p1 (Tt q1 s1))
 exact X0 (D0 + 1,c0.fN.1,c0.fN.2.1,c0.fN.2.2.1,c0.fN.2.2.2.1,c0.fN.2.2.2.2.1,c0.fN.2.2.2.2.2.1,c0.fN.2.2.2.2.2.2.1,c0.fN.2.2.2.2.2.2.2,c0.fD.1,c0.fD.2.1,c0.fD.2.2.1,c0.fD.2.2.2.1,c0.fD.2.2.2.2.1,c0.fD.2.2.2.2.2.1,c0.fD.2.2.2.2.2.2.1,c0.fD.2.2.2.2.2.2.2) _ _ ⟨rfl,rfl,rfl,rfl,rfl,trivial⟩ ⟨c1,(Tt j1 B1)⟩ h
 refine Bj rfl ?_
 have h:=thn_inr h Q0
 try dsimp only at h
 refine Ac<|Ab (Az rfl (I0.memA .hd))<|AL [vU d0,vU g0,vU j0,vU k0,vU p0,vU q0,vU s0,vU t0,vU u0,vU v0,vU x0,vU y0,vU z0,vU A0,vU B0,vU C0] I0 (.tl .hd) (onesB rfl) (fun p2 M0 V1=>?_)
 refine Aa<|Am rfl<|Al hb0 Tryz.func58 rfl (.cons (.many (cs:=[vU d0,vU g0,vU j0,vU k0,vU p0,vU q0,vU s0,vU t0,vU u0,vU v0,vU x0,vU y0,vU z0,vU A0,vU B0,vU C0]) (by kernel_rfl) rfl (M0.memA (.tl .hd))) .nil) rfl ?_
 cases h
 exact ⟨M0.ag,fun w9 hw9=>okOf_in rfl⟩
def tb55_14:List (Nat × Nat × Nat):=[(0,9007199254740992,512),(0,18014398509481984,2048),(2,36028797018963968,18014398509481984),(0,72057594037927936,64),(8,144115188075855872,72057594037927936),(20,288230376151711744,180143985094819840),(0,576460752303423488,2048),(64,1152921504606846976,576460752303423488),(0,2305843009213693952,2048),(256,4611686018427387904,2305843009213693952),(640,9223372036854775808,5764607523034234880),(0,18446744073709551616,64),(2048,36893488147419103232,18446744073709551616),(0,73786976294838206464,64),(8192,147573952589676412928,73786976294838206464),(20480,295147905179352825856,184467440737095516160),(33824,590295810358705651712,304371277216207601664),(65568,1180591620717411303424,590584040734857363456),(131072,2361183241434822606848,1180591620717411303424),(262144,4722366482869645213696,2361183241434822606848),(262144,9444732965739290427392,2361183241434822606848),(1835008,18889465931478580854784,14167099448608935641088),(2097152,37778931862957161709568,18889465931478580854784),(6291457,75557863725914323419136,37778940870156416450560),(16777215,512,75557863725914323419136)]
theorem body57:bodyB Tryz.prog 57 = true:=by kernel_rfl
theorem body58:bodyB Tryz.prog 58 = true:=by kernel_rfl
def minority_Index_1_l1 (n:Nat) (g0:List Tpart) (k0:Int) (D0:Int) (p0:Nat × (List TShare) → Option (List TShare)):Nat × (List TShare) → Option (List TShare)
  | (b0,d0)=>(if b0 < g0.length then (g0[b0]?).bind fun c0=>(minority_of_p n c0.fL k0).bind fun u0=>exc u0 (fun v0=>(chk (c0.fall - c0.fL)).bind fun q0=>(chk (D0 - k0)).bind fun s0=>(minority_of_p n q0 s0).bind fun x0=>exc x0 (fun y0=>(minority_sub_p n v0 y0).bind fun z0=>exc z0 (fun A0=>(share_Abs_p n A0).bind fun j0=>(minority_must_api_Share_p n j0.1 j0.2).bind fun B0=>exc B0 (fun C0=>(app d0 ([C0]:List TShare)).bind fun t0=>p0 (b0 + 1,t0)) (fun H0=>none)) (fun G0=>none)) (fun F0=>none)) (fun E0=>none) else some d0)
def minority_Index_1_l2 (_n:Nat) (d0:List Tpart) (k0:Nat × Int × Int → Option (Int × Int)):Nat × Int × Int → Option (Int × Int)
  | (b0,g0,j0)=>(if b0 < d0.length then (d0[b0]?).bind fun c0=>(chk (g0 + c0.fL)).bind fun p0=>(chk (j0 + c0.fall)).bind fun q0=>k0 (b0 + 1,p0,q0) else some (g0,j0))
def minority_Index_1_p (n:Nat) (a0:TRoll) (a1:List Int) (a2:Int) (a3:Int):Option (Except Tbroken TShare):=
  (minority_grouped_p n a0 a1 a2 a3).bind fun s0=>exc s0 (fun c0=>Option.bind (loopF (minority_Index_1_l2 n c0) n (0,0,0)) (fun (b0,d0)=>(if b0 = 0 then some (.error (⟨(7:Int)⟩:Tbroken)) else (if b0 = d0 then some (.error (⟨(7:Int)⟩:Tbroken)) else Option.bind (loopF (minority_Index_1_l1 n c0 b0 d0) n (0,([]:List TShare))) (fun q0=>(minority_sum_p n q0).bind fun t0=>exc t0 (fun u0=>(minority_of_p n (2:Int) (1:Int)).bind fun v0=>exc v0 (fun x0=>(minority_div_p n u0 x0).bind fun y0=>exc y0 (fun z0=>some (.ok z0)) (fun p0=>some (.error p0))) (fun k0=>some (.error k0))) (fun j0=>some (.error j0))))))) (fun g0=>some (.error g0))
theorem minority_Index_1_c (n:Nat) (L:List Nat) (w:World) (hL:∀ b ∈ L,b < w.heap.size) (a0:TRoll) {v0_3:Value} (h0_3:Rep.R w L [v0_3] a0.fE) {p0:Nat} (m0:∀ j9 v9,([vI a0.fj,vI a0.fh,vI a0.fl,v0_3]:List Value)[j9]? = some v9 → w.cell? ((⟨p0,0,none⟩:Addr).add j9) = some v9) (a1:List Int) {v1_0:Value} (h1_0:Rep.R w L [v1_0] a1) {p1:Nat} (m1:∀ j9 v9,([v1_0]:List Value)[j9]? = some v9 → w.cell? ((⟨p1,0,none⟩:Addr).add j9) = some v9) (a2:Int) {p2:Nat} (m2:∀ j9 v9,([vI a2]:List Value)[j9]? = some v9 → w.cell? ((⟨p2,0,none⟩:Addr).add j9) = some v9) (a3:Int) {p3:Nat} (m3:∀ j9 v9,([vI a3]:List Value)[j9]? = some v9 → w.cell? ((⟨p3,0,none⟩:Addr).add j9) = some v9)  {r:Except Tbroken TShare} (h:minority_Index_1_p n a0 a1 a2 a3 = some r) :
    Calls Tryz.prog 55 #[.pointer (some ⟨p0,0,none⟩),.pointer (some ⟨p1,0,none⟩),.pointer (some ⟨p2,0,none⟩),.pointer (some ⟨p3,0,none⟩)] w (PGives w (fun (y:TShare) _ u=>u = .agg ((cs_TShare y)).toArray) (fun e=>.iface 110 (.agg #[vI e.fH])) r):=by
 unfold minority_Index_1_p at h
 have hS0:=Ax w
 refine Bz Tryz.func55 rfl rfl rfl (fun _ cs0 hb0 hp0=>?_)
 refine Ac<|Ai .plain rfl (Au zL hS0) (fun W4 u0 k0 D4=>?_)
 refine Aa<|Ac<|Ab (Az rfl (fun j9 v9 h9=>k0.ag.cell0 (m0 j9 v9 h9)))<|AZ rfl ((fun j9 v9 h9=>k0.ag.cell0 (m1 j9 v9 h9)) 0 _ rfl)<|AZ rfl ((fun j9 v9 h9=>k0.ag.cell0 (m2 j9 v9 h9)) 0 _ rfl)<|AZ rfl ((fun j9 v9 h9=>k0.ag.cell0 (m3 j9 v9 h9)) 0 _ rfl) ?_
 obtain ⟨I3,q1,h⟩:=bi h
 rcases I3 with u4 | C0
 have h:=exc_e h
 try dsimp only at h
 refine Bg (fst:=[]) (cap:=[]) .plain body44 rfl (e4 rfl rfl rfl rfl) (fun w9 hw9=>minority_grouped_c n _ w9 (k0.hL hL hw9) a0 (k0.km h0_3 hw9) a1 (k0.km h1_0 hw9) a2 a3 q1) (fun c5 s2=>?_)
 obtain ⟨J1,E4⟩:=k0.agr s2
 cases h
 exact AG hp0 Tryz.func55 ⟨J1.ag,rfl⟩
 have h:=exc_o h
 try dsimp only at h
 refine By (fst:=[]) (cap:=[]) .plain body44 rfl (e4 rfl rfl rfl rfl) (fun w9 hw9=>AD (minority_grouped_c n _ w9 (k0.hL hL hw9) a0 (k0.km h0_3 hw9) a1 (k0.km h1_0 hw9) a2 a3 q1)) rfl (fun d5 W0 t2 ⟨V4,hu_,H0⟩=>?_)
 subst hu_
 obtain ⟨K1,F4⟩:=k0.agr t2
 refine Ah rfl<|Aa<|Ac<|Ai .plain rfl (Au [vI 0,vI 0] K1) (fun G3 v0 P1 G0=>?_)
 refine Aa<|Ak<|Ac<|Ae rfl ?_
 have j1:=Ay H0 G0
 have Q4:C0.length ≤ 281474976710656:=Bi j1
 refine Ab (Bk (xs:=C0) Tryz.underlying92 rfl j1)<|Ae rfl<|Aa<|AB ?_
 obtain ⟨R4,U2,E2⟩:=bind_in2 h
 refine Bw (α:=Nat × Int × Int) (fun ⟨y0,d0,g0⟩=>[(4,vP u0),(5,W0),(6,vP v0),(17,W0),(18,vI ((C0.length:Nat):Int)),(19,vI ((y0:Nat):Int))]) (fun ⟨y0,d0,g0⟩ I0=>St w I0 [.cells v0 [vI d0,vI g0] 95,.cells u0 zL 34]∧Tr G3 [.cells v0 [vI 0,vI 0] 95,.cells u0 zL 34] I0 [.cells v0 [vI d0,vI g0] 95,.cells u0 zL 34]) (fun ⟨y0,d0,g0⟩=>(y0,d0,g0)) (0,0,0) U2 ⟨rfl,rfl,rfl,rfl,rfl,rfl,trivial⟩ ⟨P1,Bd _ _⟩ ?_
 rintro X3 ⟨y0,d0,g0⟩ I0 E1 ⟨z0,F0⟩ h
 unfold minority_Index_1_l2 at h
 try dsimp only at h
 refine Ac<|Ab (Bm (i:=y0) (j:=C0.length) rfl rfl)<|Aa<|Ak<|AX rfl h (fun z1 h=>?_) (fun z1 h=>?_)
 refine Av<|Ak<|AB<|Ac ?_
 obtain ⟨K0,u3,h⟩:=bi h
 have J2:=Ay H0 (Tt G0 F0)
 obtain ⟨V3,d4,C2,G2,j4,g3,I2⟩:=Bo J2 u3
 obtain rfl:=op_Tpart g3
 refine Ab (Bx 2 y0 rfl C2 rfl rfl G2)<|Ab (Az rfl I2)<|Ai .plain rfl (Au [vI 0,vI 0] z0) (fun X4 Z3 G1 X1=>?_)
 refine AL [vI K0.fL,vI K0.fall] G1 .hd (onesB rfl) (fun Y4 P0 Y1=>?_)
 refine Aa<|Ac<|Bf 0 rfl<|AZ rfl ((P0.memA (.tl .hd)) 0 _ rfl)<|Bf 0 rfl<|AZ rfl ((P0.memA .hd) 0 _ rfl) ?_
 obtain ⟨D0,k3,h⟩:=bi h
 refine Ab (FV.addc (i:=d0) (j:=K0.fL) rfl rfl k3)<|Bf 0 rfl<|RG.now .plain (Bv (j:=0) (old:=[vI d0,vI g0]) (news:=[vI D0]) (new' :=[vI D0,vI g0]) P0 (.tl .hd) rfl rfl rfl rfl rfl rfl (o1 rfl) rfl) (fun Z4 Q0 Z1=>?_)
 refine Aa<|Ao<|Bf 1 rfl<|AZ rfl ((Q0.memA (.tl .hd)) 1 _ rfl)<|Bf 1 rfl<|AZ rfl ((Q0.memA .hd) 1 _ rfl) ?_
 obtain ⟨V0,q3,h⟩:=bi h
 refine Ab (FV.addc (i:=g0) (j:=K0.fall) rfl rfl q3)<|Bf 1 rfl<|RG.now .plain (Bv (j:=1) (old:=[vI D0,vI g0]) (news:=[vI V0]) (new' :=[vI D0,vI V0]) Q0 (.tl .hd) rfl rfl rfl rfl rfl rfl (o1 rfl) rfl) (fun b5 H1 b2=>?_)
 refine Aa<|AC<|Ao<|Ab (Bl (i:=y0) (j:=1) rfl rfl (by omega))<|Ae rfl<|Aa ?_
 obtain ⟨I1,c2⟩:=AN H1 (.one (.tl .hd) (.one (.tl .hd) .done))
 have b3:=Tt X1 (Tt Y1 (Tt Z1 (Tt b2 c2)))
 exact E1 (y0 + 1,D0,V0) _ _ ⟨rfl,rfl,rfl,rfl,rfl,rfl,trivial⟩ ⟨I1,(Tt F0 b3)⟩ h
 refine Bj rfl ?_
 have h:=E2 _ h
 try dsimp only at h
 refine Ac<|Bf 0 rfl<|AZ rfl ((z0.memA .hd) 0 _ rfl)<|Ab (FV.eql (i:=d0) (j:=0) rfl rfl)<|Ae rfl<|RG.ifd (s:=39) rfl h (fun A1 h=>?_) (fun A1 h=>?_)
 refine AO<|AO<|AO<|AO<|AO<|RG.pt rfl rfl<|Bc (fst:=[]) (cap:=[]) (vs:=[.bool true,vI 7]) .plain body39 Tryz.func39 rfl rfl rfl rfl (e2 rfl rfl) rfl (fun k4 K4 W2=>?_)
 refine Ac<|Ae rfl<|Aa<|AV rfl<|Ao<|Ae rfl<|Bc (fst:=[]) (cap:=[]) (vs:=[vI 7]) .plain body50 Tryz.func50 rfl rfl rfl rfl (e1 rfl) rfl (fun p4 M4 X2=>?_)
 refine Ac<|Ae rfl<|Ab (FV.neqN (i:=7) (j:=0) rfl rfl)<|Aa<|AV rfl<|Ao<|Ae rfl<|Ab (AK (vs:=[vI 7]) (u:=.agg #[vI 7]) (e1 rfl) (fun w9=>by kernel_rfl))<|Ab (Bn (by kernel_rfl) rfl)<|RG.panic .plain rfl<|AG X2 Tryz.func50<|AG W2 Tryz.func39 ?_
 cases h
 exact AG hp0 Tryz.func55 ⟨z0.ag,rfl⟩
 refine RG.fg 0 rfl<|AW (AJ rfl ((z0.memA .hd) 0 _ rfl))<|RG.fg 1 rfl<|AW (AJ rfl ((z0.memA .hd) 1 _ rfl))<|AW (FV.eql (i:=d0) (j:=g0) rfl rfl)<|RG.pf rfl rfl<|Bc (fst:=[]) (cap:=[]) (vs:=[.bool (decide (d0 = g0)),vI 7]) .plain body39 Tryz.func39 rfl rfl rfl rfl (e2 rfl rfl) rfl (fun q4 y2 Y2=>?_)
 refine Ac<|Ae rfl<|Aa<|AX rfl h (fun B1 h=>?_) (fun B1 h=>?_)
 refine Ao<|Ae rfl<|Bc (fst:=[]) (cap:=[]) (vs:=[vI 7]) .plain body50 Tryz.func50 rfl rfl rfl rfl (e1 rfl) rfl (fun s4 P4 Z2=>?_)
 refine Ac<|Ae rfl<|Ab (FV.neqN (i:=7) (j:=0) rfl rfl)<|Aa<|AV rfl<|Ao<|Ae rfl<|Ab (AK (vs:=[vI 7]) (u:=.agg #[vI 7]) (e1 rfl) (fun w9=>by kernel_rfl))<|Ab (Bn (by kernel_rfl) rfl)<|RG.panic .plain rfl<|AG Z2 Tryz.func50<|AG Y2 Tryz.func39 ?_
 cases h
 exact AG hp0 Tryz.func55 ⟨z0.ag,rfl⟩
 refine Av<|MX.fin rfl<|Al (u:=.tuple #[]) y2 Tryz.func39 rfl .nil rfl<|Aa<|Ac<|Ah rfl<|Aa<|Ak<|Ac<|Ae rfl ?_
 have K2:=Ay H0 (Tt G0 F0)
 refine Ab (Bk (xs:=C0) Tryz.underlying92 rfl K2)<|Ae rfl<|Aa<|AB ?_
 have b1:=z0.nilRow 34 (Rep.size TShare)
 have d2:=St.nilRowT z0 34 (Rep.size TShare)
 have z2:=AM (cs:=[]) (xs:=([]:List TShare)) b1 L (AS _ _)
 obtain ⟨U4,V2,F2⟩:=bind_in2 h
 refine Bw (α:=Nat × (List TShare) × Value × (List Value)) (fun ⟨x0,s0,B0,A0⟩=>[(4,vP u0),(6,vP v0),(9,B0),(47,W0),(48,vI ((C0.length:Nat):Int)),(49,vI ((x0:Nat):Int))]) (fun ⟨x0,s0,B0,A0⟩ J0=>St w J0 [.row w.heap.size 34 (Rep.size TShare) B0 s0.length A0,.cells v0 [vI d0,vI g0] 95,.cells u0 zL 34]∧Tr I0 [.row w.heap.size 34 (Rep.size TShare) vN (([]:List TShare).length) [],.cells v0 [vI d0,vI g0] 95,.cells u0 zL 34] J0 [.row w.heap.size 34 (Rep.size TShare) B0 s0.length A0,.cells v0 [vI d0,vI g0] 95,.cells u0 zL 34]∧Cells J0 (bl [.row w.heap.size 34 (Rep.size TShare) B0 s0.length A0,.cells v0 [vI d0,vI g0] 95,.cells u0 zL 34] ++ L) A0 s0) (fun ⟨x0,s0,B0,A0⟩=>(x0,s0)) (0,([]:List TShare),vN,[]) V2 ⟨rfl,rfl,rfl,rfl,rfl,rfl,trivial⟩ ⟨b1,Bd _ _,z2⟩ ?_
 rintro Y3 ⟨x0,s0,B0,A0⟩ J0 F1 ⟨j0,d1,U0⟩ h
 unfold minority_Index_1_l1 at h
 try dsimp only at h
 refine Ac<|Ab (Bm (i:=x0) (j:=C0.length) rfl rfl)<|Aa<|Ak<|AX rfl h (fun C1 h=>?_) (fun C1 h=>?_)
 refine Av<|Ak<|AB<|Ac ?_
 obtain ⟨E0,v3,h⟩:=bi h
 have c3:=Tt G0 (Tt F0 (Tt d2 d1))
 have P2:=Ay H0 c3
 obtain ⟨W3,g4,D2,H2,t4,j3,M2⟩:=Bo P2 v3
 obtain rfl:=op_Tpart j3
 refine Ab (Bx 2 x0 rfl D2 rfl rfl H2)<|Ab (Az rfl M2)<|Ai .plain rfl (Au [vI 0,vI 0] j0) (fun g5 b4 M1 g2=>?_)
 refine AL [vI E0.fL,vI E0.fall] M1 .hd (onesB rfl) (fun j5 q0 j2=>?_)
 refine Aa<|dt 23 tb55_14 (fun b0 c0=>?_)
 refine Af 0 1 b0 rfl c0 (fun _=>Aj rfl) rfl<|Af 1 3 b0 rfl c0 (fun _=>AQ 0 rfl) rfl<|AA 2 7 33488928 b0 rfl c0 (AJ rfl ((q0.memA .hd) 0 _ rfl)) rfl<|Af 3 15 b0 rfl c0 (fun _=>AQ 0 rfl) rfl<|AA 4 31 33488928 b0 rfl c0 (AJ rfl ((q0.memA (.tl (.tl .hd))) 0 _ rfl)) rfl ?_
 obtain ⟨J3,y3,h⟩:=bi h
 rcases J3 with v4 | v1
 have h:=exc_e h
 try dsimp only at h
 cases h
 have h:=exc_o h
 try dsimp only at h
 refine BA 5 63 33488896 (.agg ((cs_TShare v1)).toArray) b0 rfl c0 body31 rfl (e2 rfl rfl) (fun w9 hw9=>AD (minority_of_c n _ w9 (q0.hL0 hL hw9) E0.fL d0 y3)) rfl<|Af 6 127 b0 rfl c0 (fun _=>AQ 1 rfl) rfl<|AA 7 255 33489920 b0 rfl c0 (AJ rfl ((q0.memA .hd) 1 _ rfl)) rfl<|Af 8 511 b0 rfl c0 (fun _=>AQ 0 rfl) rfl<|AA 9 1023 33489920 b0 rfl c0 (AJ rfl ((q0.memA .hd) 0 _ rfl)) rfl ?_
 obtain ⟨D3,s3,h⟩:=bi h
 refine Af 10 2047 b0 rfl c0 (fun _=>FV.subc (i:=E0.fall) (j:=E0.fL) rfl rfl s3) rfl<|Af 11 4095 b0 rfl c0 (fun _=>AQ 1 rfl) rfl<|AA 12 8191 33521664 b0 rfl c0 (AJ rfl ((q0.memA (.tl (.tl .hd))) 1 _ rfl)) rfl<|Af 13 16383 b0 rfl c0 (fun _=>AQ 0 rfl) rfl<|AA 14 32767 33521664 b0 rfl c0 (AJ rfl ((q0.memA (.tl (.tl .hd))) 0 _ rfl)) rfl ?_
 obtain ⟨E3,t3,h⟩:=bi h
 refine Af 15 65535 b0 rfl c0 (fun _=>FV.subc (i:=g0) (j:=d0) rfl rfl t3) rfl ?_
 obtain ⟨K3,z3,h⟩:=bi h
 rcases K3 with x4 | x1
 have h:=exc_e h
 try dsimp only at h
 cases h
 have h:=exc_o h
 try dsimp only at h
 refine BA 16 131071 33423360 (.agg ((cs_TShare x1)).toArray) b0 rfl c0 body31 rfl (e2 rfl rfl) (fun w9 hw9=>AD (minority_of_c n _ w9 (q0.hL0 hL hw9) D3 E3 z3)) rfl ?_
 obtain ⟨M3,A3,h⟩:=bi h
 rcases M3 with y4 | y1
 have h:=exc_e h
 try dsimp only at h
 cases h
 have h:=exc_o h
 try dsimp only at h
 refine BA 17 262143 33292288 (.agg ((cs_TShare y1)).toArray) b0 rfl c0 body29 rfl (e2 rfl rfl) (fun w9 hw9=>AD (minority_sub_c n _ w9 (q0.hL0 hL hw9) v1 x1 A3)) rfl ?_
 obtain ⟨M0,B3,h⟩:=bi h
 refine BA 18 524287 33030144 (.tuple #[.agg ((cs_TShare M0.1)).toArray,vI M0.2]) b0 rfl c0 body57 rfl (e1 rfl) (fun w9 hw9=>share_Abs_c n _ w9 (q0.hL0 hL hw9) y1 B3) rfl<|Af 19 1048575 b0 rfl c0 (fun _=>Ag rfl rfl) rfl<|Af 20 2097151 b0 rfl c0 (fun _=>Ag rfl rfl) rfl ?_
 obtain ⟨P3,C3,h⟩:=bi h
 rcases P3 with z4 | t0
 have h:=exc_e h
 try dsimp only at h
 cases h
 have h:=exc_o h
 try dsimp only at h
 refine BA 21 4194303 29360128 (.agg ((cs_TShare t0)).toArray) b0 rfl c0 body56 rfl (e2 rfl rfl) (fun w9 hw9=>AD (minority_must_api_Share_c n _ w9 (q0.hL0 hL hw9) M0.1 M0.2 C3)) rfl<|RD.nu 22 8388607 b0 rfl .plain rfl (AT (α:=TShare) (xs:=([t0]:List TShare)) (vs:=[.agg ((cs_TShare t0)).toArray]) (ds' :=(cs_TShare t0)) rfl q0 el60 rfl (e1 rfl) (by kernel_rfl) rfl) (fun k5 c4 R0 k2=>?_)
 have A2:=AM (cs:=(cs_TShare t0)) (xs:=(([t0]:List TShare):List TShare)) R0 L (Ap (cs:=(cs_TShare t0)) (ds:=[]) (mk_TShare t0.fN t0.fD) (AS _ _))
 obtain ⟨H3,x3,h⟩:=bi h
 have k1:=Tt g2 (Tt j2 k2)
 have Q2:=Bb U0 k1
 refine BC (i:=23) (rk b0) (RO.doesL (m' :=16777215) (sk b0) rfl rfl .plain rfl (DoesL.app (α:=TShare) (ys:=([t0]:List TShare)) x3 R0 (fun _ _=>(.tl (.tl .hd))) el60 rfl rfl Q2 (Src.row (α:=TShare) R0 .hd A2)) (fun F3 p5 ⟨D1,Q1,q2,B2⟩=>?_))
 refine BC (i:=24) (rk b0) (RO.val (m' :=33554431) (sk b0) rfl .plain rfl (AY rfl) ?_)
 refine AH (dk b0)<|AC<|Ao<|Ab (Bl (i:=x0) (j:=1) rfl rfl (by omega))<|Ae rfl<|Aa ?_
 obtain ⟨R1,g1⟩:=AN Q1 (.one (.tl (.tl .hd)) (.one (.tl (.tl .hd)) (.one (.tl (.tl .hd)) .done)))
 have R2:=Bb B2 g1
 have d3:=Tt k1 (Tt q2 g1)
 exact F1 (x0 + 1,H3,F3,D1) _ _ ⟨rfl,rfl,rfl,rfl,rfl,rfl,trivial⟩ ⟨R1,(Tt d1 d3),R2⟩ h
 refine Bj rfl ?_
 have h:=F2 _ h
 try dsimp only at h
 refine Ac<|Ae rfl ?_
 obtain ⟨Q3,s1,h⟩:=bi h
 rcases Q3 with A4 | X0
 have h:=exc_e h
 try dsimp only at h
 refine Bg (fst:=[]) (cap:=[]) .plain body58 rfl (e1 rfl) (fun w9 hw9=>minority_sum_c n _ w9 (j0.hL0 hL hw9) s0 (Aq (St.lend (α:=TShare) (L:=L) j0 .hd U0 hL) hw9) s1) (fun q5 u2=>?_)
 obtain ⟨U1,G4⟩:=j0.agr u2
 cases h
 exact AG hp0 Tryz.func55 ⟨U1.ag,rfl⟩
 have h:=exc_o h
 try dsimp only at h
 refine Ba (.agg ((cs_TShare X0)).toArray) body58 rfl (e1 rfl) (fun w9 hw9=>AD (minority_sum_c n _ w9 (j0.hL0 hL hw9) s0 (Aq (St.lend (α:=TShare) (L:=L) j0 .hd U0 hL) hw9) s1)) rfl ?_
 obtain ⟨R3,t1,h⟩:=bi h
 rcases R3 with B4 | Y0
 have h:=exc_e h
 try dsimp only at h
 refine Bg (fst:=[]) (cap:=[]) .plain body31 rfl (e2 rfl rfl) (fun w9 hw9=>minority_of_c n _ w9 (j0.hL0 hL hw9) (2:Int) (1:Int) t1) (fun s5 v2=>?_)
 obtain ⟨V1,H4⟩:=j0.agr v2
 cases h
 exact AG hp0 Tryz.func55 ⟨V1.ag,rfl⟩
 have h:=exc_o h
 try dsimp only at h
 refine Ba (.agg ((cs_TShare Y0)).toArray) body31 rfl (e2 rfl rfl) (fun w9 hw9=>AD (minority_of_c n _ w9 (j0.hL0 hL hw9) (2:Int) (1:Int) t1)) rfl ?_
 obtain ⟨U3,u1,h⟩:=bi h
 rcases U3 with C4 | Z0
 have h:=exc_e h
 try dsimp only at h
 refine Bg (fst:=[]) (cap:=[]) .plain body28 rfl (e2 rfl rfl) (fun w9 hw9=>minority_div_c n _ w9 (j0.hL0 hL hw9) X0 Y0 u1) (fun t5 x2=>?_)
 obtain ⟨W1,I4⟩:=j0.agr x2
 cases h
 exact AG hp0 Tryz.func55 ⟨W1.ag,rfl⟩
 have h:=exc_o h
 try dsimp only at h
 refine Ba (.agg ((cs_TShare Z0)).toArray) body28 rfl (e2 rfl rfl) (fun w9 hw9=>AD (minority_div_c n _ w9 (j0.hL0 hL hw9) X0 Y0 u1)) rfl<|AL (cs_TShare Z0) j0 (.tl (.tl .hd)) (onesB rfl) (fun u5 c1 J4=>?_)
 refine Aa<|Am rfl<|Al hb0 Tryz.func55 rfl (.cons (.many (cs:=(cs_TShare Z0)) (by kernel_rfl) rfl (c1.memA (.tl (.tl .hd)))) .nil) rfl ?_
 cases h
 exact ⟨c1.ag,fun w9 hw9=>okOf_in rfl⟩
end Go.Proofs.YtbgcdbblaadokaaGreatDoor
