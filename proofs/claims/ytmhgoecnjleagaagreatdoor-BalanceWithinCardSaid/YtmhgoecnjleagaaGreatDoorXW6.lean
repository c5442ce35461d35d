/- Functions of the program, and what they give: part 6. -/
import Derived.Test.YtmhgoecnjleagaaGreatDoorXW5
namespace Go.Proofs.YtmhgoecnjleagaaGreatDoor
open Go Go.RowKit
set_option maxRecDepth 4000
set_option maxHeartbeats 4000000

theorem body184:bodyB Tryz.prog 184 = true:=by kernel_rfl
def wardmoteref01_less_l1 (_n:Nat) (a0:List Int) (a1:List Int) (p0:Nat × Nat × (List Int) → Option (List Int)):Nat × Nat × (List Int) → Option (List Int)
  | (q0,b0,k0)=>(if b0 < a0.length then (a0[b0]?).bind fun v0=>(chk (v0 - ((q0:Nat):Int))).bind fun j0=>jn (fun c0=>jn (fun (s0,z0)=>(app k0 ([z0]:List Int)).bind fun y0=>p0 (s0,b0 + 1,y0)) (fun g0=>(if c0 < 0 then (chk (c0 + 4294967296)).bind fun t0=>g0 (1,t0) else g0 (0,c0)))) (fun d0=>(if b0 < a1.length then (a1[b0]?).bind fun x0=>(chk (j0 - x0)).bind fun u0=>d0 u0 else d0 j0)) else some k0)
def wardmoteref01_less_p (n:Nat) (a0:List Int) (a1:List Int):Option (List Int):=
  Option.bind (loopF (wardmoteref01_less_l1 n a0 a1) n (0,0,([]:List Int))) (fun b0=>(wardmoteref01_cut_p n b0).bind fun c0=>some c0)
theorem wardmoteref01_less_c (n:Nat) (L:List Nat) (w:World) (hL:∀ b ∈ L,b < w.heap.size) (a0:List Int) {v0_0:Value} (h0_0:Rep.R w L [v0_0] a0) (a1:List Int) {v1_0:Value} (h1_0:Rep.R w L [v1_0] a1)  {r:List Int} (h:wardmoteref01_less_p n a0 a1 = some r) :
    Calls Tryz.prog 183 #[v0_0,v1_0] w (Gives w fun w' u=>∃ v0_0:Value,u = v0_0∧Rep.R w' L [v0_0] r):=by
 unfold wardmoteref01_less_p at h
 have hS0:=Ax w
 refine AA Tryz.func183 rfl rfl rfl (fun _ cs0 hb0=>?_)
 refine Ac<|Ag rfl<|Aa<|Ac<|Ag rfl<|Aa<|Ac<|Ag rfl<|Aa<|Ak<|Ac<|Ag rfl<|Aa<|Az ?_
 have D0:=hS0.nilRow 3 (Rep.size Int)
 have y2:=St.nilRowT hS0 3 (Rep.size Int)
 have q1:=AG (cs:=[]) (xs:=([]:List Int)) D0 L (AO _ _)
 obtain ⟨D2,H1,A1⟩:=bind_in2 h
 refine Bj (α:=Nat × Nat × (List Int) × Value × (List Value)) (fun ⟨q0,g0,c0,b0,d0⟩=>[(0,v0_0),(1,v1_0),(5,b0),(6,vI ((q0:Nat):Int)),(7,vI ((g0:Nat):Int))]) (fun ⟨q0,g0,c0,b0,d0⟩ t0=>St w t0 [.row w.heap.size 3 (Rep.size Int) b0 c0.length d0]∧Tr w [.row w.heap.size 3 (Rep.size Int) vN (([]:List Int).length) []] t0 [.row w.heap.size 3 (Rep.size Int) b0 c0.length d0]∧Cells t0 (bl [.row w.heap.size 3 (Rep.size Int) b0 c0.length d0] ++ L) d0 c0) (fun ⟨q0,g0,c0,b0,d0⟩=>(q0,g0,c0)) (0,0,([]:List Int),vN,[]) H1 ⟨rfl,rfl,rfl,rfl,rfl,trivial⟩ ⟨D0,AP _ _,q1⟩ ?_
 rintro q2 ⟨q0,g0,c0,b0,d0⟩ t0 X0 ⟨p0,c1,H0⟩ h
 unfold wardmoteref01_less_l1 at h
 try dsimp only at h
 refine Ak<|Ac<|Ae rfl<|Ae rfl ?_
 have y0:=AM h0_0 p0
 have B2:a0.length ≤ 281474976710656:=AT y0
 refine Ab (Bb (xs:=a0) Tryz.underlying45 rfl y0)<|Ab (Bn (i:=g0) (j:=a0.length) rfl rfl)<|Aa<|AQ rfl h (fun P0 h=>?_) (fun P0 h=>?_)
 refine Aq<|Ak<|Az<|Ac<|Ae rfl<|Ae rfl ?_
 obtain ⟨K0,W1,h⟩:=bi h
 obtain ⟨k2,v2,v1,B1,U0,J1,D1⟩:=Bm y0 W1
 have x1:U0 = [vI K0]:=J1; subst x1
 refine Ab (Bo 1 g0 rfl v1 rfl rfl B1)<|Bd rfl (D1 0 _ rfl)<|Ae rfl ?_
 obtain ⟨J0,R1,h⟩:=bi h
 refine Ab (FV.subc (i:=K0) (j:=((q0:Nat):Int)) rfl rfl R1)<|Ag rfl<|Aa<|Ak<|Ac<|Ae rfl<|Ae rfl ?_
 have z0:=AM h1_0 p0
 have C2:a1.length ≤ 281474976710656:=AT z0
 refine Ab (Bb (xs:=a1) Tryz.underlying45 rfl z0)<|Ab (Bn (i:=g0) (j:=a1.length) rfl rfl)<|Aa<|MX.join (α:=Int) (fun k0=>[(0,v0_0),(1,v1_0),(5,b0),(6,vI ((q0:Nat):Int)),(7,vI ((g0:Nat):Int)),(8,vI k0)]) (fun k0 u0=>St w u0 [.row w.heap.size 3 (Rep.size Int) b0 c0.length d0]∧Tr t0 [.row w.heap.size 3 (Rep.size Int) b0 c0.length d0] u0 [.row w.heap.size 3 (Rep.size Int) b0 c0.length d0]) (fun k0=>k0) h ?_ ?_
 rintro k0 u0 ⟨E0,d1⟩ h
 try dsimp only at h
 refine Ac<|Ag rfl<|Aa<|Ak<|Ac<|Ae rfl<|Ab (FV.lss (i:=k0) (j:=0) rfl rfl)<|Aa<|MX.join (α:=Nat × Int) (fun ⟨s0,j0⟩=>[(0,v0_0),(1,v1_0),(5,b0),(6,vI ((s0:Nat):Int)),(7,vI ((g0:Nat):Int)),(8,vI j0)]) (fun ⟨s0,j0⟩ A0=>St w A0 [.row w.heap.size 3 (Rep.size Int) b0 c0.length d0]∧Tr u0 [.row w.heap.size 3 (Rep.size Int) b0 c0.length d0] A0 [.row w.heap.size 3 (Rep.size Int) b0 c0.length d0]) (fun ⟨s0,j0⟩=>(s0,j0)) h ?_ ?_
 rintro ⟨s0,j0⟩ A0 ⟨Y0,g1⟩ h
 try dsimp only at h
 refine Ar<|Ae rfl<|Ae rfl<|Aj .plain rfl (AW (α:=Int) (xs:=([j0]:List Int)) (vs:=[vI j0]) (ds' :=[vI j0]) rfl Y0 el45 rfl (e1 rfl) (by kernel_rfl) rfl) (fun F2 u2 v0 j1=>?_)
 have s1:=AG (cs:=[vI j0]) (xs:=(([j0]:List Int):List Int)) v0 L (Au (cs:=[vI j0]) (ds:=[]) rfl (AO _ _))
 obtain ⟨j2,Y1,h⟩:=bi h
 have I0:=Tt d1 (Tt g1 j1)
 have E1:=AN H0 I0
 refine RG.doesL .plain rfl (BJ (α:=Int) (ys:=([j0]:List Int)) Y1 v0 (fun _ _=>(.tl .hd)) el45 rfl rfl E1 (Src.row (α:=Int) v0 .hd s1)) (fun d2 G2 ⟨V0,Z0,k1,u1⟩=>?_)
 refine Ag rfl<|Aa<|AC<|Ar<|Ae rfl<|Ab (Br (i:=g0) (j:=1) rfl rfl (by omega))<|Ag rfl<|Aa ?_
 obtain ⟨b1,G0⟩:=AH Z0 (.one (.tl .hd) .done)
 have F1:=AN u1 G0
 have I1:=Tt I0 (Tt k1 G0)
 exact X0 (s0,g0 + 1,j2,d2,V0) _ _ ⟨rfl,rfl,rfl,rfl,rfl,trivial⟩ ⟨b1,(Tt c1 I1),F1⟩ h
 intro t2 C0 h
 try dsimp only at h
 refine AQ rfl h (fun Q0 h=>?_) (fun Q0 h=>?_)
 refine Ac<|Ae rfl ?_
 obtain ⟨b2,U1,h⟩:=bi h
 refine Ab (BC (i:=k0) (j:=4294967296) rfl rfl U1)<|Ag rfl<|Aa<|Ar<|Ag rfl<|Aa ?_
 exact C0 (1,b2) _ _ ⟨rfl,rfl,rfl,rfl,rfl,rfl,trivial⟩ ⟨E0,AP _ _⟩ h
 refine Aq ?_
 exact C0 (0,k0) _ _ ⟨rfl,rfl,rfl,rfl,rfl,rfl,trivial⟩ ⟨E0,AP _ _⟩ h
 intro s2 B0 h
 try dsimp only at h
 refine AQ rfl h (fun R0 h=>?_) (fun R0 h=>?_)
 refine Ar<|Ae rfl<|Ae rfl<|Ae rfl ?_
 obtain ⟨M0,X1,h⟩:=bi h
 obtain ⟨p2,x2,y1,C1,W0,K1,G1⟩:=Bm z0 X1
 have z1:W0 = [vI M0]:=K1; subst z1
 refine Ab (Bo 1 g0 rfl y1 rfl rfl C1)<|Bd rfl (G1 0 _ rfl) ?_
 obtain ⟨c2,V1,h⟩:=bi h
 refine Ab (FV.subc (i:=J0) (j:=M0) rfl rfl V1)<|Ag rfl<|Aa ?_
 exact B0 c2 _ _ ⟨rfl,rfl,rfl,rfl,rfl,rfl,trivial⟩ ⟨p0,AP _ _⟩ h
 refine Aq ?_
 exact B0 J0 _ _ ⟨rfl,rfl,rfl,rfl,rfl,rfl,trivial⟩ ⟨p0,AP _ _⟩ h
 refine Be rfl ?_
 have h:=A1 _ h
 try dsimp only at h
 refine Ac<|Ae rfl ?_
 have M1:=Bq (α:=Int) p0 .hd H0 hL
 have x0:=BD p0 .hd
 have z2:=BE p0 .hd
 have P1:=BF (α:=Int) (v:=b0) (xs:=c0) x0 L M1
 obtain ⟨I2,Z1,h⟩:=bi h
 refine AX (fst:=[]) (cap:=[]) .plain body184 rfl (e1 rfl) (fun w9 hw9=>wardmoteref01_cut_c n _ w9 (x0.hL hL hw9) c0 (Am P1 hw9) Z1) rfl (fun H2 g2 p1 ⟨E2,hu_,Q1⟩=>?_)
 subst hu_
 obtain ⟨F0,A2⟩:=x0.agr p1
 refine Ag rfl<|Aa<|Al rfl<|Bc hb0 Tryz.func183 rfl rfl ?_
 cases h
 exact ⟨F0.ag,fun w9 hw9=>⟨g2,rfl,F0.kd Q1 hw9⟩⟩
def tb187_6:List (Nat × Nat × Nat):=[(0,8388608,1),(0,16777216,32),(3,33554432,25165824),(4,67108864,33554432),(0,134217728,2),(0,268435456,32),(48,536870912,402653184),(64,1073741824,536870912),(136,2147483648,1140850688)]
def tb187_7:List (Nat × Nat × Nat):=[(0,4294967296,1),(0,8589934592,32),(3,17179869184,12884901888),(4,34359738368,17179869184),(0,68719476736,2),(0,137438953472,32),(48,274877906944,206158430208),(64,549755813888,274877906944),(136,1099511627776,584115552256),(511,16,1099511627776)]
def wardmoteref01_order_l1 (_n:Nat) (a0:List Int) (a1:List Int) (g0:Int → Option (Int ⊕ Unit)):Int → Option (Int ⊕ Unit)
  | b0=>(if 0 ≤ b0 then (idx a0 b0).bind fun c0=>(idx a1 b0).bind fun d0=>(if c0 = d0 then (chk (b0 - 1)).bind fun j0=>g0 j0 else (chk (c0 - d0)).bind fun k0=>some (.inl k0)) else some (.inr ()))
def wardmoteref01_order_p (n:Nat) (a0:List Int) (a1:List Int):Option Int:=
  (if a0.length = a1.length then thn (loopF (wardmoteref01_order_l1 n a0 a1) n (((a0.length:Nat):Int) - 1)) (fun _=>some (0:Int)) else some (((a0.length:Nat):Int) - ((a1.length:Nat):Int)))
theorem wardmoteref01_order_c (n:Nat) (L:List Nat) (w:World) (_hL:∀ b ∈ L,b < w.heap.size) (a0:List Int) {v0_0:Value} (h0_0:Rep.R w L [v0_0] a0) (a1:List Int) {v1_0:Value} (h1_0:Rep.R w L [v1_0] a1)  {r:Int} (h:wardmoteref01_order_p n a0 a1 = some r) :
    Calls Tryz.prog 187 #[v0_0,v1_0] w (Gives w fun _ u=>u = vI r):=by
 unfold wardmoteref01_order_p at h
 have hS0:=Ax w
 refine AA Tryz.func187 rfl rfl rfl (fun _ cs0 hb0=>?_)
 refine Ac<|Ag rfl<|Aa<|Ak<|Ac<|Ae rfl ?_
 have hl1:a0.length ≤ 281474976710656:=AT h0_0
 refine Ab (Bb (xs:=a0) Tryz.underlying45 rfl h0_0)<|Ae rfl ?_
 have hl2:a1.length ≤ 281474976710656:=AT h1_0
 refine Ab (Bb (xs:=a1) Tryz.underlying45 rfl h1_0)<|Ab (FV.neqN (i:=a0.length) (j:=a1.length) rfl rfl)<|Aa<|MX.ifn rfl h (fun c3 h=>?_) (fun c3 h=>?_)
 refine Aq<|Ak<|Ac<|Ae rfl<|Ab (Bb (xs:=a0) Tryz.underlying45 rfl h0_0)<|Ab (FV.subI (i:=((a0.length:Nat):Int)) (j:=1) rfl rfl (by omega))<|Ag rfl<|Aa<|Az ?_
 obtain ⟨q1,Q0,v0⟩:=thn_in h
 refine Bj (α:=Int) (fun c0=>[(0,v0_0),(1,v1_0),(5,vI c0)]) (fun c0 p0=>St w p0 []∧Tr w [] p0 []) (fun c0=>c0) (((a0.length:Nat):Int) - 1) Q0 ⟨rfl,rfl,rfl,trivial⟩ ⟨hS0,AP _ _⟩ ?_
 rintro j1 c0 p0 H0 ⟨k0,I0⟩ h
 unfold wardmoteref01_order_l1 at h
 try dsimp only at h
 refine Ak<|Ac<|Ae rfl<|Ab (FV.geq (i:=c0) (j:=0) rfl rfl)<|Aa<|AQ rfl h (fun D0 h=>?_) (fun D0 h=>?_)
 refine Aq<|Ak<|Az<|Ak<|AF 9 tb187_6 (by kernel_rfl) (by kernel_rfl) (by kernel_rfl) (fun g0 j0=>?_)
 refine Ah 0 1 g0 rfl j0 (fun _=>Ai rfl) rfl<|Ah 1 3 g0 rfl j0 (fun _=>Ai rfl) rfl ?_
 obtain ⟨q0,X0,h⟩:=bi h
 obtain ⟨x0,Y0⟩:=idx_in X0
 have M0:=AM h0_0 k0
 obtain ⟨d1,k1,t0,z0,F0,R0,B0⟩:=Bm M0 Y0
 have J0:F0 = [vI q0]:=R0; subst J0
 refine Ah 2 7 g0 rfl j0 (fun _=>Bo 1 (c0.toNat) rfl t0 rfl x0 z0) rfl<|AD 3 15 256 g0 rfl j0 (AK rfl (B0 0 _ rfl)) rfl<|Ah 4 31 g0 rfl j0 (fun _=>Ai rfl) rfl<|Ah 5 63 g0 rfl j0 (fun _=>Ai rfl) rfl ?_
 obtain ⟨s0,Z0,h⟩:=bi h
 obtain ⟨y0,b1⟩:=idx_in Z0
 have P0:=AM h1_0 k0
 obtain ⟨g1,p1,u0,A0,G0,U0,C0⟩:=Bm P0 b1
 have K0:G0 = [vI s0]:=U0; subst K0
 refine Ah 6 127 g0 rfl j0 (fun _=>Bo 1 (c0.toNat) rfl u0 rfl y0 A0) rfl<|AD 7 255 256 g0 rfl j0 (AK rfl (C0 0 _ rfl)) rfl<|Ah 8 511 g0 rfl j0 (fun _=>FV.neq (i:=q0) (j:=s0) rfl rfl) rfl<|AE (doneD_ok g0 (by kernel_rfl))<|MX.ifn rfl h (fun E0 h=>?_) (fun E0 h=>?_)
 refine Aq<|AC<|Ar<|Ae rfl ?_
 obtain ⟨c1,V0,h⟩:=bi h
 refine Ab (FV.subc (i:=c0) (j:=1) rfl rfl V0)<|Ag rfl<|Aa ?_
 exact H0 c1 _ _ ⟨rfl,rfl,rfl,trivial⟩ ⟨k0,I0⟩ h
 refine Ak<|AF 10 tb187_7 (by kernel_rfl) (by kernel_rfl) (by kernel_rfl) (fun b0 d0=>?_)
 refine Ah 0 1 b0 rfl d0 (fun _=>Ai rfl) rfl<|Ah 1 3 b0 rfl d0 (fun _=>Ai rfl) rfl<|Ah 2 7 b0 rfl d0 (fun _=>Bo 1 (c0.toNat) rfl t0 rfl x0 z0) rfl<|AD 3 15 768 b0 rfl d0 (AK rfl (B0 0 _ rfl)) rfl<|Ah 4 31 b0 rfl d0 (fun _=>Ai rfl) rfl<|Ah 5 63 b0 rfl d0 (fun _=>Ai rfl) rfl<|Ah 6 127 b0 rfl d0 (fun _=>Bo 1 (c0.toNat) rfl u0 rfl y0 A0) rfl<|AD 7 255 768 b0 rfl d0 (AK rfl (C0 0 _ rfl)) rfl ?_
 obtain ⟨s1,W0,h⟩:=bi h
 refine Ah 8 511 b0 rfl d0 (fun _=>FV.subc (i:=q0) (j:=s0) rfl rfl W0) rfl<|Ah 9 1023 b0 rfl d0 (fun _=>AJ rfl) rfl<|AE (doneD_ok b0 (by kernel_rfl)) ?_
 have h:=thn_inl h v0
 refine Al rfl<|Bc hb0 Tryz.func187 rfl rfl ?_
 cases h
 exact k0.gv
 refine Be rfl ?_
 have h:=thn_inr h v0
 try dsimp only at h
 refine Ac<|Ag rfl<|Aa<|Al rfl<|Bc hb0 Tryz.func187 rfl rfl ?_
 cases h
 exact k0.gv
 refine Ac<|Ae rfl<|Ab (Bb (xs:=a0) Tryz.underlying45 rfl h0_0)<|Ae rfl<|Ab (Bb (xs:=a1) Tryz.underlying45 rfl h1_0)<|Ab (FV.subI (i:=((a0.length:Nat):Int)) (j:=((a1.length:Nat):Int)) rfl rfl (by omega))<|Ag rfl<|Aa<|Al rfl<|Bc hb0 Tryz.func187 rfl rfl ?_
 cases h
 exact hS0.gv
structure TLong153 where
  fBelow:Bool
  fD:List Int
  deriving DecidableEq
instance:Rep TLong153:=Rep.via (β:=Bool × (List Int)) fun x=>(x.fBelow,x.fD)
def tb152_15:List (Nat × Nat × Nat):=[(0,35184372088832,512),(1,70368744177664,35184372088832),(0,140737488355328,512),(4,281474976710656,140737488355328),(8,562949953421312,281474976710912),(16,1125899906842624,562949953421312),(0,2251799813685248,64),(0,4503599627370496,512),(192,9007199254740992,6755399441055744),(256,18014398509481984,9007199254740992),(512,36028797018963968,18014398509481984),(0,72057594037927936,512),(2048,144115188075855872,72057594037927936),(4096,288230376151711744,144115188075855872),(9216,576460752303423488,324259173170675712),(16416,1152921504606846976,577586652210266112),(65535,2305843009213693952,70368744177920),(131071,0,3458764513820540928)]
theorem body183:bodyB Tryz.prog 183 = true:=by kernel_rfl
theorem body187:bodyB Tryz.prog 187 = true:=by kernel_rfl
def wardmoteref01_Out_l1 (_n:Nat) (x0:List Int) (y0:Nat × UInt64 × UInt64 × UInt64 × UInt64 × UInt64 × UInt64 × UInt64 × UInt64 → Option (UInt64 × UInt64 × UInt64 × UInt64 × UInt64 × UInt64 × UInt64 × UInt64)):Nat × UInt64 × UInt64 × UInt64 × UInt64 × UInt64 × UInt64 × UInt64 × UInt64 → Option (UInt64 × UInt64 × UInt64 × UInt64 × UInt64 × UInt64 × UInt64 × UInt64)
  | (b0,j0,k0,p0,q0,s0,t0,u0,v0)=>(if b0 < x0.length then (([j0,k0,p0,q0,s0,t0,u0,v0]:List UInt64)[b0 / 2]?).bind fun g0=>(x0[b0]?).bind fun d0=>(chk (32 * ((b0 % 2:Nat):Int))).bind fun z0=>(natOf z0).bind fun c0=>y0 (b0 + 1,setA (b0 / 2) 0 (g0 + (shlU (u64of d0) c0)) j0,setA (b0 / 2) 1 (g0 + (shlU (u64of d0) c0)) k0,setA (b0 / 2) 2 (g0 + (shlU (u64of d0) c0)) p0,setA (b0 / 2) 3 (g0 + (shlU (u64of d0) c0)) q0,setA (b0 / 2) 4 (g0 + (shlU (u64of d0) c0)) s0,setA (b0 / 2) 5 (g0 + (shlU (u64of d0) c0)) t0,setA (b0 / 2) 6 (g0 + (shlU (u64of d0) c0)) u0,setA (b0 / 2) 7 (g0 + (shlU (u64of d0) c0)) v0) else some (j0,k0,p0,q0,s0,t0,u0,v0))
def wardmoteref01_Out_l2 (_n:Nat) (x0:List Int) (y0:Nat × UInt64 × UInt64 × UInt64 × UInt64 × UInt64 × UInt64 × UInt64 × UInt64 → Option (UInt64 × UInt64 × UInt64 × UInt64 × UInt64 × UInt64 × UInt64 × UInt64)):Nat × UInt64 × UInt64 × UInt64 × UInt64 × UInt64 × UInt64 × UInt64 × UInt64 → Option (UInt64 × UInt64 × UInt64 × UInt64 × UInt64 × UInt64 × UInt64 × UInt64)
  | (b0,j0,k0,p0,q0,s0,t0,u0,v0)=>(if b0 < x0.length then (([j0,k0,p0,q0,s0,t0,u0,v0]:List UInt64)[b0 / 2]?).bind fun g0=>(x0[b0]?).bind fun d0=>(chk (32 * ((b0 % 2:Nat):Int))).bind fun z0=>(natOf z0).bind fun c0=>y0 (b0 + 1,setA (b0 / 2) 0 (g0 + (shlU (u64of d0) c0)) j0,setA (b0 / 2) 1 (g0 + (shlU (u64of d0) c0)) k0,setA (b0 / 2) 2 (g0 + (shlU (u64of d0) c0)) p0,setA (b0 / 2) 3 (g0 + (shlU (u64of d0) c0)) q0,setA (b0 / 2) 4 (g0 + (shlU (u64of d0) c0)) s0,setA (b0 / 2) 5 (g0 + (shlU (u64of d0) c0)) t0,setA (b0 / 2) 6 (g0 + (shlU (u64of d0) c0)) u0,setA (b0 / 2) 7 (g0 + (shlU (u64of d0) c0)) v0) else some (j0,k0,p0,q0,s0,t0,u0,v0))
def wardmoteref01_Out_p (n:Nat) (a0:TLong153):Option ((UInt64 × UInt64 × UInt64 × UInt64 × UInt64 × UInt64 × UInt64 × UInt64) × Int):=
  (mk 16 (0:Int)).bind fun c0=>(c0[15]?).bind fun P0=>(put c0 ((15:Nat):Int) (2147483648:Int)).bind fun I0=>(wardmoteref01_order_p n a0.fD I0).bind fun j0=>(if 0 < j0 then some (((0:UInt64),(0:UInt64),(0:UInt64),(0:UInt64),(0:UInt64),(0:UInt64),(0:UInt64),(0:UInt64)),(6:Int)) else (if j0 = 0 then (if a0.fBelow = true then (mk 17 (0:Int)).bind fun g0=>(g0[16]?).bind fun R0=>(put g0 ((16:Nat):Int) (1:Int)).bind fun J0=>(wardmoteref01_less_p n J0 a0.fD).bind fun M0=>Option.bind (loopF (wardmoteref01_Out_l1 n M0) n (0,(0:UInt64),(0:UInt64),(0:UInt64),(0:UInt64),(0:UInt64),(0:UInt64),(0:UInt64),(0:UInt64))) (fun (k0,p0,q0,s0,t0,u0,v0,x0)=>some ((k0,p0,q0,s0,t0,u0,v0,x0),(0:Int))) else some (((0:UInt64),(0:UInt64),(0:UInt64),(0:UInt64),(0:UInt64),(0:UInt64),(0:UInt64),(0:UInt64)),(6:Int))) else jn (fun G0=>Option.bind (loopF (wardmoteref01_Out_l2 n G0) n (0,(0:UInt64),(0:UInt64),(0:UInt64),(0:UInt64),(0:UInt64),(0:UInt64),(0:UInt64),(0:UInt64))) (fun (y0,z0,A0,B0,C0,D0,E0,F0)=>some ((y0,z0,A0,B0,C0,D0,E0,F0),(0:Int)))) (fun b0=>(if a0.fBelow = true then (mk 17 (0:Int)).bind fun d0=>(d0[16]?).bind fun Q0=>(put d0 ((16:Nat):Int) (1:Int)).bind fun H0=>(wardmoteref01_less_p n H0 a0.fD).bind fun K0=>b0 K0 else b0 a0.fD))))
theorem wardmoteref01_Out_c (n:Nat) (L:List Nat) (w:World) (hL:∀ b ∈ L,b < w.heap.size) (a0:TLong153) {v0_1:Value} (h0_1:Rep.R w L [v0_1] a0.fD)  {r:(UInt64 × UInt64 × UInt64 × UInt64 × UInt64 × UInt64 × UInt64 × UInt64) × Int} (h:wardmoteref01_Out_p n a0 = some r) :
    Calls Tryz.prog 152 #[.agg #[.bool a0.fBelow,v0_1]] w (Gives w fun _ u=>u = .tuple #[.agg ((cs_A34 r.1)).toArray,vI r.2]):=by
 unfold wardmoteref01_Out_p at h
 have hS0:=Ax w
 refine AA Tryz.func152 rfl rfl rfl (fun _ cs0 hb0=>?_)
 refine Ac<|Aj .plain rfl (Aw hS0 rfl rfl) (fun A6 t2 M2 P5=>?_)
 refine Aj .plain rfl (Av zP M2) (fun B6 U0 Q2 Q5=>?_)
 refine Ag rfl<|Aa<|Ac ?_
 obtain ⟨U6,H4,h⟩:=bi h
 refine RG.doesH .plain rfl (Does.mkH (α:=Int) (L:=L) H4 Q2 el45 rfl (fun _ _=>rfl)) (fun X4 F6 ⟨H5,p1,V5,U1⟩=>?_)
 refine Ag rfl<|Aa<|Ac<|Ae rfl ?_
 obtain ⟨k5,D4,h⟩:=bi h
 obtain ⟨p2,A5,v1,b2,E2,k4,q6⟩:=St.nth (α:=Int) p1 .hd U1 D4
 obtain ⟨u2,C5,Y1⟩:=St.nthOwn (α:=Int) p1 .hd b2
 obtain rfl:p2 = ⟨u2,0,none⟩:=by rw [Y1] at v1; cases v1; rfl
 have G3:E2 = [vI k5]:=k4; subst G3
 refine Ab (Bo 1 15 rfl v1 rfl rfl b2) ?_
 obtain ⟨j2,K4,h⟩:=bi h
 refine RG.acts' .plain (Acts.set (α:=Int) (i:=15) K4 p1 Y1 (fun _=>.hd) U1 rfl rfl rfl rfl rfl (by kernel_rfl)) (fun g5 ⟨H2,y0,Y5,z3⟩=>?_)
 refine Aa<|Ac<|Bg 1 rfl<|Bd rfl ((y0.memA (.tl (.tl .hd))) 1 _ rfl)<|Ae rfl ?_
 obtain ⟨D1,R4,h⟩:=bi h
 refine Bf (vI D1) body187 rfl (e2 rfl rfl) (fun w9 hw9=>wardmoteref01_order_c n _ w9 (y0.hL0 hL hw9) a0.fD (y0.k0 h0_1 hw9) j2 (Am (St.lend (α:=Int) (L:=L) y0 .hd z3 hL) hw9) R4) rfl<|Ag rfl<|Aa<|Ak<|Ac<|Ae rfl<|Ab (FV.gtr (i:=D1) (j:=0) rfl rfl)<|Ae rfl<|RG.ifd (s:=19) rfl h (fun B2 h=>?_) (fun B2 h=>?_)
 refine AR<|AR<|AR<|RG.un<|RG.un<|RG.un<|AR<|RG.pt rfl rfl<|Aa<|Bp rfl<|Ac<|Ab (AS (vs:=[]) (u:=.agg zQ) evs_nil (fun w9=>by kernel_rfl))<|AL zP y0 (.tl .hd) (onesB rfl) (fun M6 M1 Z5=>?_)
 refine Ag rfl<|Aa<|Al rfl<|Ao hb0 Tryz.func152 rfl (.cons (.many (cs:=zP) (by kernel_rfl) rfl (M1.memA (.tl .hd))) (.cons (.tmp rfl) .nil)) rfl ?_
 cases h
 exact M1.gv
 refine AY (Ai rfl)<|AY (FV.eql (i:=D1) (j:=0) rfl rfl)<|AY (Ai rfl)<|RG.ifd (s:=22) rfl h (fun C2 h=>?_) (fun C2 h=>?_)
 refine RG.fg 0 rfl<|AY (AK rfl ((y0.memA (.tl (.tl .hd))) 0 _ rfl))<|AY (Bz rfl)<|AY (BB rfl rfl)<|RG.pf rfl rfl<|Aa<|MX.ifnb rfl h (fun F1 h=>?_) (fun F1 h=>?_)
 refine Aq<|Ac<|Bg 1 rfl<|Bd rfl ((y0.memA (.tl (.tl .hd))) 1 _ rfl)<|Ag rfl<|Aa<|Ak<|Ac<|Bg 0 rfl<|Bd rfl ((y0.memA (.tl (.tl .hd))) 0 _ rfl)<|Aa<|MX.cond_kt rfl F1<|Ac ?_
 obtain ⟨W6,M4,h⟩:=bi h
 refine RG.doesH .plain rfl (Does.mkH (α:=Int) (L:=L) M4 y0 el45 rfl (fun _ _=>rfl)) (fun Z4 P6 ⟨K5,t1,b6,W1⟩=>?_)
 refine Ag rfl<|Aa<|Ac<|Ae rfl ?_
 obtain ⟨q5,G4,h⟩:=bi h
 obtain ⟨s2,F5,y1,d2,I2,v4,u6⟩:=St.nth (α:=Int) t1 .hd W1 G4
 obtain ⟨x2,G5,Z1⟩:=St.nthOwn (α:=Int) t1 .hd d2
 obtain rfl:s2 = ⟨x2,0,none⟩:=by rw [Z1] at y1; cases y1; rfl
 have H3:I2 = [vI q5]:=v4; subst H3
 refine Ab (Bo 1 16 rfl y1 rfl rfl d2) ?_
 obtain ⟨k2,P4,h⟩:=bi h
 refine RG.acts' .plain (Acts.set (α:=Int) (i:=16) P4 t1 Z1 (fun _=>.hd) W1 rfl rfl rfl rfl rfl (by kernel_rfl)) (fun Q6 ⟨M5,u1,c6,A3⟩=>?_)
 refine Aa<|Ar<|Ae rfl<|Ae rfl ?_
 have x4:=Bq (α:=Int) u1 .hd A3 hL
 have j1:=BD u1 .hd
 have d6:=BE u1 .hd
 have y4:=BF (α:=Int) (v:=Z4) (xs:=k2) j1 L x4
 obtain ⟨E1,U4,h⟩:=bi h
 refine AX (fst:=[]) (cap:=[]) .plain body183 rfl (e2 rfl rfl) (fun w9 hw9=>wardmoteref01_less_c n _ w9 (j1.hL hL hw9) k2 (Am y4 hw9) a0.fD (j1.km h0_1 hw9) U4) rfl (fun R6 c5 x3 ⟨z6,hu_,z4⟩=>?_)
 subst hu_
 obtain ⟨Z2,g6⟩:=j1.agr x3
 refine Ag rfl<|Aa<|Ac<|Aj .plain rfl (Av zP Z2) (fun j5 X0 b3 u3=>?_)
 refine Aa<|Ak<|Ac<|Ag rfl<|Aa<|Az ?_
 obtain ⟨P2,c3⟩:=AH b3 (.one .hd (.one (.tl .hd) .done))
 obtain ⟨v6,Z3,I3⟩:=bind_in2 h
 refine Bj (α:=Nat × UInt64 × UInt64 × UInt64 × UInt64 × UInt64 × UInt64 × UInt64 × UInt64) (fun ⟨b0,z0,A0,B0,C0,D0,E0,F0,G0⟩=>[(2,vP U0),(6,c5),(8,vP X0),(9,vI ((b0:Nat):Int))]) (fun ⟨b0,z0,A0,B0,C0,D0,E0,F0,G0⟩ B1=>St w B1 [.cells X0 [vU z0,vU A0,vU B0,vU C0,vU D0,vU E0,vU F0,vU G0] 35,.cells U0 zP 35]∧Tr j5 [.cells X0 zP 35,.cells U0 zP 35] B1 [.cells X0 [vU z0,vU A0,vU B0,vU C0,vU D0,vU E0,vU F0,vU G0] 35,.cells U0 zP 35]) (fun ⟨b0,z0,A0,B0,C0,D0,E0,F0,G0⟩=>(b0,z0,A0,B0,C0,D0,E0,F0,G0)) (0,(0:UInt64),(0:UInt64),(0:UInt64),(0:UInt64),(0:UInt64),(0:UInt64),(0:UInt64),(0:UInt64)) Z3 ⟨rfl,rfl,rfl,rfl,trivial⟩ ⟨P2,AP _ _⟩ ?_
 rintro v5 ⟨b0,z0,A0,B0,C0,D0,E0,F0,G0⟩ B1 J2 ⟨Z0,P1⟩ h
 unfold wardmoteref01_Out_l1 at h
 try dsimp only at h
 refine Ak<|Ac<|Ae rfl<|Ae rfl ?_
 have c4:=Tt u3 (Tt c3 P1)
 have z1:=Ap z4 c4
 have j6:E1.length ≤ 281474976710656:=AT z1
 refine Ab (Bb (xs:=E1) Tryz.underlying45 rfl z1)<|Ab (Bn (i:=b0) (j:=E1.length) rfl rfl)<|Aa<|AQ rfl h (fun y2 h=>?_) (fun y2 h=>?_)
 refine Aq<|Ak<|Az<|AF 17 tb152_15 (by kernel_rfl) (by kernel_rfl) (by kernel_rfl) (fun j0 v0=>?_)
 refine Ah 0 1 j0 rfl v0 (fun _=>Ai rfl) rfl<|Ah 1 3 j0 rfl v0 (fun _=>FV.quoN (i:=b0) (j:=2) rfl rfl rfl (by omega)) rfl<|Ah 2 7 j0 rfl v0 (fun _=>Ai rfl) rfl<|Ah 3 15 j0 rfl v0 (fun _=>FV.quoN (i:=b0) (j:=2) rfl rfl rfl (by omega)) rfl ?_
 obtain ⟨t0,c1,h⟩:=bi h
 have R3:=mem_elem1 (p:=⟨X0,0,none⟩) (cs:=([z0,A0,B0,C0,D0,E0,F0,G0]:List UInt64).map (fun z9:UInt64=>(vU z9:Value)) ++ []) (i:=b0 / 2) (Z0.memA .hd) (arr_get (fun z9:UInt64=>(vU z9:Value)) c1)
 refine Ah 4 31 j0 rfl v0 (fun _=>AZ (m:=1) (k:=b0 / 2) (len:=8) (by kernel_rfl) rfl rfl rfl (arr_lt c1 rfl)) rfl<|AD 5 63 229376 j0 rfl v0 (AK rfl (R3 0 _ rfl)) rfl<|Ah 6 127 j0 rfl v0 (fun _=>Ai rfl) rfl<|Ah 7 255 j0 rfl v0 (fun _=>Ai rfl) rfl ?_
 obtain ⟨d0,C4,h⟩:=bi h
 obtain ⟨t5,z5,B3,K3,D2,g4,U3⟩:=Bm z1 C4
 have C3:D2 = [vI d0]:=g4; subst C3
 refine Ah 8 511 j0 rfl v0 (fun _=>Bo 1 b0 rfl B3 rfl rfl K3) rfl<|AD 9 1023 246784 j0 rfl v0 (AK rfl (U3 0 _ rfl)) rfl<|Ah 10 2047 j0 rfl v0 (fun _=>FV.convU (i:=d0) Tryz.underlying3 Tryz.underlying33 rfl) rfl<|Ah 11 4095 j0 rfl v0 (fun _=>Ai rfl) rfl<|Ah 12 8191 j0 rfl v0 (fun _=>FV.remN (i:=b0) (j:=2) rfl rfl rfl) rfl ?_
 obtain ⟨V4,A4,h⟩:=bi h
 refine Ah 13 16383 j0 rfl v0 (fun _=>FV.mulc (i:=32) (j:=((b0 % 2:Nat):Int)) rfl rfl A4) rfl ?_
 obtain ⟨q0,M3,h⟩:=bi h
 refine Ah 14 32767 j0 rfl v0 (fun _=>FV.shlI (a:=u64of d0) (i:=V4) rfl rfl M3) rfl<|Ah 15 65535 j0 rfl v0 (fun _=>FV.addU (a:=t0) (b:=shlU (u64of d0) q0) rfl rfl) rfl ?_
 have p6:=mem_elem1 (p:=⟨X0,0,none⟩) (cs:=([z0,A0,B0,C0,D0,E0,F0,G0]:List UInt64).map (fun z9:UInt64=>(vU z9:Value)) ++ []) (i:=b0 / 2) (Z0.memA .hd) (arr_get (fun z9:UInt64=>(vU z9:Value)) c1)
 refine Ah 16 131071 j0 rfl v0 (fun _=>AZ (m:=1) (k:=b0 / 2) (len:=8) (by kernel_rfl) rfl rfl rfl (arr_lt c1 rfl)) rfl<|Bt 17 262143 j0 rfl rfl .plain (Acts.storeArr (fun z9:UInt64=>(vU z9:Value)) (xs:=([z0,A0,B0,C0,D0,E0,F0,G0]:List UInt64)) (pre:=[]) (post:=[]) (i:=b0 / 2) (m:=8) (x:=t0 + (shlU (u64of d0) q0)) (old:=[vU z0,vU A0,vU B0,vU C0,vU D0,vU E0,vU F0,vU G0]) (new' :=[vW ((setA (b0 / 2) 0 (t0 + (shlU (u64of d0) q0)) z0).toNat:Int),vW ((setA (b0 / 2) 1 (t0 + (shlU (u64of d0) q0)) A0).toNat:Int),vW ((setA (b0 / 2) 2 (t0 + (shlU (u64of d0) q0)) B0).toNat:Int),vW ((setA (b0 / 2) 3 (t0 + (shlU (u64of d0) q0)) C0).toNat:Int),vW ((setA (b0 / 2) 4 (t0 + (shlU (u64of d0) q0)) D0).toNat:Int),vW ((setA (b0 / 2) 5 (t0 + (shlU (u64of d0) q0)) E0).toNat:Int),vW ((setA (b0 / 2) 6 (t0 + (shlU (u64of d0) q0)) F0).toNat:Int),vW ((setA (b0 / 2) 7 (t0 + (shlU (u64of d0) q0)) G0).toNat:Int)]) rfl rfl (arr_lt c1 rfl) Z0 .hd rfl (addr_at _ _ _) rfl (by kernel_rfl) (fun _=>⟨rfl,rfl⟩) rfl rfl) (fun C6 R2 d3=>?_)
 refine AE (doneD_ok j0 (by kernel_rfl))<|AC<|Ar<|Ae rfl<|Ab (Br (i:=b0) (j:=1) rfl rfl (by omega))<|Ag rfl<|Aa ?_
 exact J2 (b0 + 1,setA (b0 / 2) 0 (t0 + (shlU (u64of d0) q0)) z0,setA (b0 / 2) 1 (t0 + (shlU (u64of d0) q0)) A0,setA (b0 / 2) 2 (t0 + (shlU (u64of d0) q0)) B0,setA (b0 / 2) 3 (t0 + (shlU (u64of d0) q0)) C0,setA (b0 / 2) 4 (t0 + (shlU (u64of d0) q0)) D0,setA (b0 / 2) 5 (t0 + (shlU (u64of d0) q0)) E0,setA (b0 / 2) 6 (t0 + (shlU (u64of d0) q0)) F0,setA (b0 / 2) 7 (t0 + (shlU (u64of d0) q0)) G0) _ _ ⟨rfl,rfl,rfl,rfl,trivial⟩ ⟨R2,(Tt P1 d3)⟩ h
 refine Be rfl ?_
 have h:=I3 _ h
 try dsimp only at h
 refine Ac<|Ab (AB rfl (Z0.memA .hd))<|AL [vU z0,vU A0,vU B0,vU C0,vU D0,vU E0,vU F0,vU G0] Z0 (.tl .hd) (onesB rfl) (fun D6 H1 R5=>?_)
 refine Ag rfl<|Aa<|Al rfl<|Ao hb0 Tryz.func152 rfl (.cons (.many (cs:=[vU z0,vU A0,vU B0,vU C0,vU D0,vU E0,vU F0,vU G0]) (by kernel_rfl) rfl (H1.memA (.tl .hd))) (.cons (.tmp rfl) .nil)) rfl ?_
 cases h
 exact H1.gv
 refine Ac<|Ab (AS (vs:=[]) (u:=.agg zQ) evs_nil (fun w9=>by kernel_rfl))<|AL zP y0 (.tl .hd) (onesB rfl) (fun E6 I1 U5=>?_)
 refine Ag rfl<|Aa<|Al rfl<|Ao hb0 Tryz.func152 rfl (.cons (.many (cs:=zP) (by kernel_rfl) rfl (I1.memA (.tl .hd))) (.cons (.tmp rfl) .nil)) rfl ?_
 cases h
 exact I1.gv
 refine AR<|AR<|AR<|AY (AV rfl rfl)<|RG.pf rfl rfl<|Aa<|Bv rfl<|Aq<|Ac<|Bg 1 rfl<|Bd rfl ((y0.memA (.tl (.tl .hd))) 1 _ rfl)<|Ag rfl<|Aa<|Ak<|Ac<|Bg 0 rfl<|Bd rfl ((y0.memA (.tl (.tl .hd))) 0 _ rfl)<|Aa<|MX.join (α:=(List Int) × Value) (fun ⟨V0,Y0⟩=>[(2,vP U0),(6,Y0)]) (fun ⟨V0,Y0⟩ k1=>St w k1 [.cells U0 zP 35]∧Tr g5 [.row w.heap.size 3 (Rep.size Int) X4 j2.length H2,.cells U0 zP 35,.cells t2 [.bool a0.fBelow,v0_1] 154] k1 [.cells U0 zP 35]∧Rep.R k1 (bl [.cells U0 zP 35] ++ L) [Y0] V0) (fun ⟨V0,Y0⟩=>V0) h ?_ ?_
 rintro ⟨V0,Y0⟩ k1 ⟨U2,W5,j4⟩ h
 try dsimp only at h
 refine Ac<|Aj .plain rfl (Av zP U2) (fun d5 W0 V2 g3=>?_)
 refine Aa<|Ak<|Ac<|Ag rfl<|Aa<|Az ?_
 obtain ⟨x6,b4,J3⟩:=bind_in2 h
 refine Bj (α:=Nat × UInt64 × UInt64 × UInt64 × UInt64 × UInt64 × UInt64 × UInt64 × UInt64) (fun ⟨c0,H0,I0,J0,K0,M0,P0,Q0,R0⟩=>[(2,vP U0),(6,Y0),(8,vP W0),(9,vI ((c0:Nat):Int))]) (fun ⟨c0,H0,I0,J0,K0,M0,P0,Q0,R0⟩ C1=>St w C1 [.cells W0 [vU H0,vU I0,vU J0,vU K0,vU M0,vU P0,vU Q0,vU R0] 35,.cells U0 zP 35]∧Tr d5 [.cells W0 zP 35,.cells U0 zP 35] C1 [.cells W0 [vU H0,vU I0,vU J0,vU K0,vU M0,vU P0,vU Q0,vU R0] 35,.cells U0 zP 35]) (fun ⟨c0,H0,I0,J0,K0,M0,P0,Q0,R0⟩=>(c0,H0,I0,J0,K0,M0,P0,Q0,R0)) (0,(0:UInt64),(0:UInt64),(0:UInt64),(0:UInt64),(0:UInt64),(0:UInt64),(0:UInt64),(0:UInt64)) b4 ⟨rfl,rfl,rfl,rfl,trivial⟩ ⟨V2,AP _ _⟩ ?_
 rintro y5 ⟨c0,H0,I0,J0,K0,M0,P0,Q0,R0⟩ C1 K2 ⟨b1,Q1⟩ h
 unfold wardmoteref01_Out_l2 at h
 try dsimp only at h
 refine Ak<|Ac<|Ae rfl<|Ae rfl ?_
 have A1:=Ap j4 (Tt g3 Q1)
 have k6:V0.length ≤ 281474976710656:=AT A1
 refine Ab (Bb (xs:=V0) Tryz.underlying45 rfl A1)<|Ab (Bn (i:=c0) (j:=V0.length) rfl rfl)<|Aa<|AQ rfl h (fun z2 h=>?_) (fun z2 h=>?_)
 refine Aq<|Ak<|Az<|AF 17 tb152_15 (by kernel_rfl) (by kernel_rfl) (by kernel_rfl) (fun p0 x0=>?_)
 refine Ah 0 1 p0 rfl x0 (fun _=>Ai rfl) rfl<|Ah 1 3 p0 rfl x0 (fun _=>FV.quoN (i:=c0) (j:=2) rfl rfl rfl (by omega)) rfl<|Ah 2 7 p0 rfl x0 (fun _=>Ai rfl) rfl<|Ah 3 15 p0 rfl x0 (fun _=>FV.quoN (i:=c0) (j:=2) rfl rfl rfl (by omega)) rfl ?_
 obtain ⟨u0,d1,h⟩:=bi h
 have V3:=mem_elem1 (p:=⟨W0,0,none⟩) (cs:=([H0,I0,J0,K0,M0,P0,Q0,R0]:List UInt64).map (fun z9:UInt64=>(vU z9:Value)) ++ []) (i:=c0 / 2) (b1.memA .hd) (arr_get (fun z9:UInt64=>(vU z9:Value)) d1)
 refine Ah 4 31 p0 rfl x0 (fun _=>AZ (m:=1) (k:=c0 / 2) (len:=8) (by kernel_rfl) rfl rfl rfl (arr_lt d1 rfl)) rfl<|AD 5 63 229376 p0 rfl x0 (AK rfl (V3 0 _ rfl)) rfl<|Ah 6 127 p0 rfl x0 (fun _=>Ai rfl) rfl<|Ah 7 255 p0 rfl x0 (fun _=>Ai rfl) rfl ?_
 obtain ⟨g0,E4,h⟩:=bi h
 obtain ⟨u5,B5,D3,P3,F2,p4,W3⟩:=Bm A1 E4
 have E3:F2 = [vI g0]:=p4; subst E3
 refine Ah 8 511 p0 rfl x0 (fun _=>Bo 1 c0 rfl D3 rfl rfl P3) rfl<|AD 9 1023 246784 p0 rfl x0 (AK rfl (W3 0 _ rfl)) rfl<|Ah 10 2047 p0 rfl x0 (fun _=>FV.convU (i:=g0) Tryz.underlying3 Tryz.underlying33 rfl) rfl<|Ah 11 4095 p0 rfl x0 (fun _=>Ai rfl) rfl<|Ah 12 8191 p0 rfl x0 (fun _=>FV.remN (i:=c0) (j:=2) rfl rfl rfl) rfl ?_
 obtain ⟨W4,B4,h⟩:=bi h
 refine Ah 13 16383 p0 rfl x0 (fun _=>FV.mulc (i:=32) (j:=((c0 % 2:Nat):Int)) rfl rfl B4) rfl ?_
 obtain ⟨s0,Q3,h⟩:=bi h
 refine Ah 14 32767 p0 rfl x0 (fun _=>FV.shlI (a:=u64of g0) (i:=W4) rfl rfl Q3) rfl<|Ah 15 65535 p0 rfl x0 (fun _=>FV.addU (a:=u0) (b:=shlU (u64of g0) s0) rfl rfl) rfl ?_
 have s6:=mem_elem1 (p:=⟨W0,0,none⟩) (cs:=([H0,I0,J0,K0,M0,P0,Q0,R0]:List UInt64).map (fun z9:UInt64=>(vU z9:Value)) ++ []) (i:=c0 / 2) (b1.memA .hd) (arr_get (fun z9:UInt64=>(vU z9:Value)) d1)
 refine Ah 16 131071 p0 rfl x0 (fun _=>AZ (m:=1) (k:=c0 / 2) (len:=8) (by kernel_rfl) rfl rfl rfl (arr_lt d1 rfl)) rfl<|Bt 17 262143 p0 rfl rfl .plain (Acts.storeArr (fun z9:UInt64=>(vU z9:Value)) (xs:=([H0,I0,J0,K0,M0,P0,Q0,R0]:List UInt64)) (pre:=[]) (post:=[]) (i:=c0 / 2) (m:=8) (x:=u0 + (shlU (u64of g0) s0)) (old:=[vU H0,vU I0,vU J0,vU K0,vU M0,vU P0,vU Q0,vU R0]) (new' :=[vW ((setA (c0 / 2) 0 (u0 + (shlU (u64of g0) s0)) H0).toNat:Int),vW ((setA (c0 / 2) 1 (u0 + (shlU (u64of g0) s0)) I0).toNat:Int),vW ((setA (c0 / 2) 2 (u0 + (shlU (u64of g0) s0)) J0).toNat:Int),vW ((setA (c0 / 2) 3 (u0 + (shlU (u64of g0) s0)) K0).toNat:Int),vW ((setA (c0 / 2) 4 (u0 + (shlU (u64of g0) s0)) M0).toNat:Int),vW ((setA (c0 / 2) 5 (u0 + (shlU (u64of g0) s0)) P0).toNat:Int),vW ((setA (c0 / 2) 6 (u0 + (shlU (u64of g0) s0)) Q0).toNat:Int),vW ((setA (c0 / 2) 7 (u0 + (shlU (u64of g0) s0)) R0).toNat:Int)]) rfl rfl (arr_lt d1 rfl) b1 .hd rfl (addr_at _ _ _) rfl (by kernel_rfl) (fun _=>⟨rfl,rfl⟩) rfl rfl) (fun G6 W2 j3=>?_)
 refine AE (doneD_ok p0 (by kernel_rfl))<|AC<|Ar<|Ae rfl<|Ab (Br (i:=c0) (j:=1) rfl rfl (by omega))<|Ag rfl<|Aa ?_
 exact K2 (c0 + 1,setA (c0 / 2) 0 (u0 + (shlU (u64of g0) s0)) H0,setA (c0 / 2) 1 (u0 + (shlU (u64of g0) s0)) I0,setA (c0 / 2) 2 (u0 + (shlU (u64of g0) s0)) J0,setA (c0 / 2) 3 (u0 + (shlU (u64of g0) s0)) K0,setA (c0 / 2) 4 (u0 + (shlU (u64of g0) s0)) M0,setA (c0 / 2) 5 (u0 + (shlU (u64of g0) s0)) P0,setA (c0 / 2) 6 (u0 + (shlU (u64of g0) s0)) Q0,setA (c0 / 2) 7 (u0 + (shlU (u64of g0) s0)) R0) _ _ ⟨rfl,rfl,rfl,rfl,trivial⟩ ⟨W2,(Tt Q1 j3)⟩ h
 refine Be rfl ?_
 have h:=J3 _ h
 try dsimp only at h
 refine Ac<|Ab (AB rfl (b1.memA .hd))<|AL [vU H0,vU I0,vU J0,vU K0,vU M0,vU P0,vU Q0,vU R0] b1 (.tl .hd) (onesB rfl) (fun H6 J1 X5=>?_)
 refine Ag rfl<|Aa<|Al rfl<|Ao hb0 Tryz.func152 rfl (.cons (.many (cs:=[vU H0,vU I0,vU J0,vU K0,vU M0,vU P0,vU Q0,vU R0]) (by kernel_rfl) rfl (J1.memA (.tl .hd))) (.cons (.tmp rfl) .nil)) rfl ?_
 cases h
 exact J1.gv
 intro x5 G1 h
 try dsimp only at h
 refine MX.ifb rfl h (fun A2 h=>?_) (fun A2 h=>?_)
 refine Ac ?_
 obtain ⟨V6,I4,h⟩:=bi h
 refine RG.doesH .plain rfl (Does.mkH (α:=Int) (L:=L) I4 y0 el45 rfl (fun _ _=>rfl)) (fun Y4 I6 ⟨I5,q1,k3,V1⟩=>?_)
 refine Ag rfl<|Aa<|Ac<|Ae rfl ?_
 obtain ⟨p5,F4,h⟩:=bi h
 obtain ⟨q2,D5,x1,c2,G2,q4,t6⟩:=St.nth (α:=Int) q1 .hd V1 F4
 obtain ⟨v2,E5,X1⟩:=St.nthOwn (α:=Int) q1 .hd c2
 obtain rfl:q2 = ⟨v2,0,none⟩:=by rw [X1] at x1; cases x1; rfl
 have F3:G2 = [vI p5]:=q4; subst F3
 refine Ab (Bo 1 16 rfl x1 rfl rfl c2) ?_
 obtain ⟨g2,J4,h⟩:=bi h
 refine RG.acts' .plain (Acts.set (α:=Int) (i:=16) J4 q1 X1 (fun _=>.hd) V1 rfl rfl rfl rfl rfl (by kernel_rfl)) (fun J6 ⟨J5,s1,p3,y3⟩=>?_)
 refine Aa<|Ar<|Ae rfl<|Ae rfl ?_
 have s4:=Bq (α:=Int) s1 .hd y3 hL
 have g1:=BD s1 .hd
 have q3:=BE s1 .hd
 have t4:=BF (α:=Int) (v:=Y4) (xs:=g2) g1 L s4
 obtain ⟨s5,Q4,h⟩:=bi h
 refine AX (fst:=[]) (cap:=[]) .plain body183 rfl (e2 rfl rfl) (fun w9 hw9=>wardmoteref01_less_c n _ w9 (g1.hL hL hw9) g2 (Am t4 hw9) a0.fD (g1.km h0_1 hw9) Q4) rfl (fun K6 b5 v3 ⟨y6,hu_,u4⟩=>?_)
 subst hu_
 obtain ⟨X2,s3⟩:=g1.agr v3
 refine Ag rfl<|Aa ?_
 obtain ⟨Y2,R1⟩:=AH X2 (.one (.tl .hd) .done)
 have X3:=Ap u4 R1
 have d4:=Tt k3 (Tt p3 (Tt q3 (Tt s3 R1)))
 exact G1 (s5,b5) _ _ ⟨rfl,rfl,trivial⟩ ⟨Y2,d4,X3⟩ h
 refine Aq ?_
 obtain ⟨K1,t3⟩:=AH y0 (.one (.tl .hd) .done)
 have Y3:=AM h0_1 K1
 exact G1 (a0.fD,v0_1) _ _ ⟨rfl,rfl,trivial⟩ ⟨K1,t3,Y3⟩ h
structure TRatio155 where
  fN:TLong153
  fD:TLong153
  deriving DecidableEq
instance:Rep TRatio155:=Rep.via (β:=TLong153 × TLong153) fun x=>(x.fN,x.fD)
theorem body152:bodyB Tryz.prog 152 = true:=by kernel_rfl
def wardmoteref02_Out_p (n:Nat) (a0:TRatio155):Option (TShare × Int):=
  (wardmoteref01_Out_p n a0.fN).bind fun b0=>(wardmoteref01_Out_p n a0.fD).bind fun c0=>(if b0.2 = 0 then (if c0.2 = 0 then some ((⟨b0.1,c0.1⟩:TShare),(0:Int)) else some ((⟨((0:UInt64),(0:UInt64),(0:UInt64),(0:UInt64),(0:UInt64),(0:UInt64),(0:UInt64),(0:UInt64)),((0:UInt64),(0:UInt64),(0:UInt64),(0:UInt64),(0:UInt64),(0:UInt64),(0:UInt64),(0:UInt64))⟩:TShare),(6:Int))) else some ((⟨((0:UInt64),(0:UInt64),(0:UInt64),(0:UInt64),(0:UInt64),(0:UInt64),(0:UInt64),(0:UInt64)),((0:UInt64),(0:UInt64),(0:UInt64),(0:UInt64),(0:UInt64),(0:UInt64),(0:UInt64),(0:UInt64))⟩:TShare),(6:Int)))
theorem wardmoteref02_Out_c (n:Nat) (L:List Nat) (w:World) (hL:∀ b ∈ L,b < w.heap.size) (a0:TRatio155) {v0_1:Value} (h0_1:Rep.R w L [v0_1] a0.fN.fD) {v0_3:Value} (h0_3:Rep.R w L [v0_3] a0.fD.fD)  {r:TShare × Int} (h:wardmoteref02_Out_p n a0 = some r) :
    Calls Tryz.prog 111 #[.agg #[.bool a0.fN.fBelow,v0_1,.bool a0.fD.fBelow,v0_3]] w (Gives w fun _ u=>u = .tuple #[.agg ((cs_TShare r.1)).toArray,vI r.2]):=by
 unfold wardmoteref02_Out_p at h
 have hS0:=Ax w
 refine AA Tryz.func111 rfl rfl rfl (fun _ cs0 hb0=>?_)
 refine Ac<|Aj .plain rfl (Aw hS0 rfl rfl) (fun R0 B0 v0 F0=>?_)
 refine Aj .plain rfl (Av zL v0) (fun U0 C0 g0 G0=>?_)
 refine Ag rfl<|Aa<|Ac<|Bg 0 rfl<|Ab (Bl (cs:=[.bool a0.fN.fBelow,v0_1]) (by kernel_rfl) rfl (mem_part (g0.memA (.tl .hd)) 0 2)) ?_
 obtain ⟨b0,z0,h⟩:=bi h
 refine Bf (.tuple #[.agg ((cs_A34 b0.1)).toArray,vI b0.2]) body152 rfl (e1 rfl) (fun w9 hw9=>wardmoteref01_Out_c n _ w9 (g0.hL0 hL hw9) a0.fN (g0.k0 h0_1 hw9) z0) rfl<|Ae rfl<|Ab (Af rfl rfl)<|Ab (Af rfl rfl)<|Aj .plain rfl (Av zP g0) (fun V0 D0 x0 H0=>?_)
 refine AL (cs_A34 b0.1) x0 .hd (onesB rfl) (fun W0 j0 I0=>?_)
 refine Ag rfl<|Aa<|Ac<|Bg 2 rfl<|Ab (Bl (cs:=[.bool a0.fD.fBelow,v0_3]) (by kernel_rfl) rfl (mem_part (j0.memA (.tl (.tl .hd))) 2 2)) ?_
 obtain ⟨c0,A0,h⟩:=bi h
 refine Bf (.tuple #[.agg ((cs_A34 c0.1)).toArray,vI c0.2]) body152 rfl (e1 rfl) (fun w9 hw9=>wardmoteref01_Out_c n _ w9 (j0.hL0 hL hw9) a0.fD (j0.k0 h0_3 hw9) A0) rfl<|Ae rfl<|Ab (Af rfl rfl)<|Ab (Af rfl rfl)<|Aj .plain rfl (Av zP j0) (fun X0 E0 y0 J0=>?_)
 refine AL (cs_A34 c0.1) y0 .hd (onesB rfl) (fun Y0 d0 K0=>?_)
 refine Ag rfl<|Aa<|Ak<|Ac<|Ae rfl<|Ab (FV.neq (i:=b0.2) (j:=0) rfl rfl)<|Ae rfl<|RG.ifn (s:=22) rfl h (fun t0 h=>?_) (fun t0 h=>?_)
 refine AY (Ai rfl)<|AY (FV.neq (i:=c0.2) (j:=0) rfl rfl)<|RG.pf rfl rfl<|Aa<|MX.ifn rfl h (fun u0 h=>?_) (fun u0 h=>?_)
 refine Aq<|Ac<|Ab (AB rfl (d0.memA (.tl .hd)))<|Ab (AB rfl (d0.memA .hd))<|Ab (AS (vs:=[.agg ((cs_A34 b0.1)).toArray,.agg ((cs_A34 c0.1)).toArray]) (u:=.agg ((cs_A34 b0.1 ++ cs_A34 c0.1)).toArray) (e2 rfl rfl) (fun w9=>by kernel_rfl))<|AL (cs_A34 b0.1 ++ cs_A34 c0.1) d0 (.tl (.tl .hd)) (onesB rfl) (fun Z0 p0 M0=>?_)
 refine Ag rfl<|Aa<|Al rfl<|Ao hb0 Tryz.func111 rfl (.cons (.many (cs:=(cs_A34 b0.1 ++ cs_A34 c0.1)) (by kernel_rfl) rfl (p0.memA (.tl (.tl .hd)))) (.cons (.tmp rfl) .nil)) rfl ?_
 cases h
 exact p0.gv
 refine Ac<|Ab (AS (vs:=[]) (u:=.agg zM) evs_nil (fun w9=>by kernel_rfl))<|AL zL d0 (.tl (.tl .hd)) (onesB rfl) (fun b1 q0 P0=>?_)
 refine Ag rfl<|Aa<|Al rfl<|Ao hb0 Tryz.func111 rfl (.cons (.many (cs:=zL) (by kernel_rfl) rfl (q0.memA (.tl (.tl .hd)))) (.cons (.tmp rfl) .nil)) rfl ?_
 cases h
 exact q0.gv
 refine AR<|AR<|RG.pt rfl rfl<|Aa<|Bp rfl<|Ac<|Ab (AS (vs:=[]) (u:=.agg zM) evs_nil (fun w9=>by kernel_rfl))<|AL zL d0 (.tl (.tl .hd)) (onesB rfl) (fun c1 s0 Q0=>?_)
 refine Ag rfl<|Aa<|Al rfl<|Ao hb0 Tryz.func111 rfl (.cons (.many (cs:=zL) (by kernel_rfl) rfl (s0.memA (.tl (.tl .hd)))) (.cons (.tmp rfl) .nil)) rfl ?_
 cases h
 exact s0.gv
def wardmoteref01_twice_l1 (_n:Nat) (a0:List Int) (j0:Int × Nat × (List Int) → Option ((List Int) × Int)):Int × Nat × (List Int) → Option ((List Int) × Int)
  | (g0,b0,d0)=>(if b0 < a0.length then (a0[b0]?).bind fun s0=>(chk (2 * s0)).bind fun k0=>(chk (k0 + g0)).bind fun c0=>(remI c0 4294967296).bind fun p0=>(app d0 ([p0]:List Int)).bind fun t0=>(quoI c0 4294967296).bind fun q0=>j0 (q0,b0 + 1,t0) else some (d0,g0))
def wardmoteref01_twice_p (n:Nat) (a0:List Int) (a1:Int):Option (List Int):=
  Option.bind (loopF (wardmoteref01_twice_l1 n a0) n (a1,0,([]:List Int))) (fun (c0,g0)=>(app c0 ([g0]:List Int)).bind fun b0=>(wardmoteref01_cut_p n b0).bind fun d0=>some d0)
theorem wardmoteref01_twice_c (n:Nat) (L:List Nat) (w:World) (hL:∀ b ∈ L,b < w.heap.size) (a0:List Int) {v0_0:Value} (h0_0:Rep.R w L [v0_0] a0) (a1:Int)  {r:List Int} (h:wardmoteref01_twice_p n a0 a1 = some r) :
    Calls Tryz.prog 211 #[v0_0,vI a1] w (Gives w fun w' u=>∃ v0_0:Value,u = v0_0∧Rep.R w' L [v0_0] r):=by
 unfold wardmoteref01_twice_p at h
 have hS0:=Ax w
 refine AA Tryz.func211 rfl rfl rfl (fun _ cs0 hb0=>?_)
 refine Ac<|Ag rfl<|Aa<|Ac<|Ag rfl<|Aa<|Ak<|Ac<|Ag rfl<|Aa<|Az ?_
 have y0:=hS0.nilRow 3 (Rep.size Int)
 have Z1:=St.nilRowT hS0 3 (Rep.size Int)
 have W0:=AG (cs:=[]) (xs:=([]:List Int)) y0 L (AO _ _)
 obtain ⟨j2,s1,d1⟩:=bind_in2 h
 refine Bj (α:=Int × Nat × (List Int) × Value × (List Value)) (fun ⟨b0,c0,d0,k0,g0⟩=>[(0,v0_0),(1,vI b0),(5,k0),(6,vI ((c0:Nat):Int))]) (fun ⟨b0,c0,d0,k0,g0⟩ p0=>St w p0 [.row w.heap.size 3 (Rep.size Int) k0 d0.length g0]∧Tr w [.row w.heap.size 3 (Rep.size Int) vN (([]:List Int).length) []] p0 [.row w.heap.size 3 (Rep.size Int) k0 d0.length g0]∧Cells p0 (bl [.row w.heap.size 3 (Rep.size Int) k0 d0.length g0] ++ L) g0 d0) (fun ⟨b0,c0,d0,k0,g0⟩=>(b0,c0,d0)) (a1,0,([]:List Int),vN,[]) s1 ⟨rfl,rfl,rfl,rfl,trivial⟩ ⟨y0,AP _ _,W0⟩ ?_
 rintro U1 ⟨b0,c0,d0,k0,g0⟩ p0 J0 ⟨v0,R0,C0⟩ h
 unfold wardmoteref01_twice_l1 at h
 try dsimp only at h
 refine Ak<|Ac<|Ae rfl<|Ae rfl ?_
 have x0:=AM h0_0 v0
 have g2:a0.length ≤ 281474976710656:=AT x0
 refine Ab (Bb (xs:=a0) Tryz.underlying45 rfl x0)<|Ab (Bn (i:=c0) (j:=a0.length) rfl rfl)<|Aa<|AQ rfl h (fun G0 h=>?_) (fun G0 h=>?_)
 refine Aq<|Ak<|Az<|Ac<|Ae rfl<|Ae rfl ?_
 obtain ⟨E0,E1,h⟩:=bi h
 obtain ⟨R1,X1,b1,g1,H0,v1,j1⟩:=Bm x0 E1
 have c1:H0 = [vI E0]:=v1; subst c1
 refine Ab (Bo 1 c0 rfl b1 rfl rfl g1)<|Bd rfl (j1 0 _ rfl) ?_
 obtain ⟨I1,A1,h⟩:=bi h
 refine Ab (FV.mulc (i:=2) (j:=E0) rfl rfl A1)<|Ae rfl ?_
 obtain ⟨D0,B1,h⟩:=bi h
 refine Ab (BC (i:=I1) (j:=b0) rfl rfl B1)<|Ag rfl<|Aa<|Ac<|Ae rfl<|Ae rfl ?_
 obtain ⟨j0,C1,h⟩:=bi h
 refine Ab (FV.remc (i:=D0) (j:=4294967296) rfl rfl C1)<|Aj .plain rfl (AW (α:=Int) (xs:=([j0]:List Int)) (vs:=[vI j0]) (ds' :=[vI j0]) rfl v0 el45 rfl (e1 rfl) (by kernel_rfl) rfl) (fun p2 V1 q0 A0=>?_)
 have V0:=AG (cs:=[vI j0]) (xs:=(([j0]:List Int):List Int)) q0 L (Au (cs:=[vI j0]) (ds:=[]) rfl (AO _ _))
 obtain ⟨Q1,F1,h⟩:=bi h
 have k1:=AN C0 A0
 refine RG.doesL .plain rfl (BJ (α:=Int) (ys:=([j0]:List Int)) F1 q0 (fun _ _=>(.tl .hd)) el45 rfl rfl k1 (Src.row (α:=Int) q0 .hd V0)) (fun K1 q2 ⟨I0,K0,P0,X0⟩=>?_)
 refine Ag rfl<|Aa<|Ar<|Ae rfl ?_
 obtain ⟨J1,D1,h⟩:=bi h
 refine Ab (FV.quoc (i:=D0) (j:=4294967296) rfl rfl D1)<|Ag rfl<|Aa<|AC<|Ar<|Ae rfl<|Ab (Br (i:=c0) (j:=1) rfl rfl (by omega))<|Ag rfl<|Aa ?_
 obtain ⟨M0,B0⟩:=AH K0 (.one (.tl .hd) .done)
 have p1:=AN X0 B0
 have u1:=Tt A0 (Tt P0 B0)
 exact J0 (J1,c0 + 1,Q1,K1,I0) _ _ ⟨rfl,rfl,rfl,rfl,trivial⟩ ⟨M0,(Tt R0 u1),p1⟩ h
 refine Be rfl ?_
 have h:=d1 _ h
 try dsimp only at h
 refine Ac<|Ae rfl<|Ae rfl<|Aj .plain rfl (AW (α:=Int) (xs:=([b0]:List Int)) (vs:=[vI b0]) (ds' :=[vI b0]) rfl v0 el45 rfl (e1 rfl) (by kernel_rfl) rfl) (fun s2 W1 s0 Q0=>?_)
 have Y0:=AG (cs:=[vI b0]) (xs:=(([b0]:List Int):List Int)) s0 L (Au (cs:=[vI b0]) (ds:=[]) rfl (AO _ _))
 obtain ⟨F0,G1,h⟩:=bi h
 have q1:=AN C0 Q0
 refine RG.doesL .plain rfl (BJ (α:=Int) (ys:=([b0]:List Int)) G1 s0 (fun _ _=>(.tl .hd)) el45 rfl rfl q1 (Src.row (α:=Int) s0 .hd Y0)) (fun M1 t2 ⟨Y1,t0,b2,Z0⟩=>?_)
 have x1:=Bq (α:=Int) t0 (.tl .hd) Z0 hL
 have u0:=BD t0 (.tl .hd)
 have c2:=BE t0 (.tl .hd)
 have y1:=BF (α:=Int) (v:=M1) (xs:=F0) u0 L x1
 obtain ⟨v2,H1,h⟩:=bi h
 refine AX (fst:=[]) (cap:=[]) .plain body184 rfl (e1 rfl) (fun w9 hw9=>wardmoteref01_cut_c n _ w9 (u0.hL hL hw9) F0 (Am y1 hw9) H1) rfl (fun u2 P1 U0 ⟨k2,hu_,z1⟩=>?_)
 subst hu_
 obtain ⟨z0,d2⟩:=u0.agr U0
 refine Ag rfl<|Aa<|Al rfl<|Bc hb0 Tryz.func211 rfl rfl ?_
 cases h
 exact ⟨z0.ag,fun w9 hw9=>⟨P1,rfl,z0.kd z1 hw9⟩⟩
def tb185_15:List (Nat × Nat × Nat):=[(0,2305843009213693952,128),(0,4611686018427387904,512),(0,9223372036854775808,128),(0,18446744073709551616,512),(12,36893488147419103232,27670116110564327424),(16,73786976294838206464,36893488147419103232),(0,147573952589676412928,1024),(64,295147905179352825856,147573952589676412928),(160,590295810358705651712,368934881474191032320),(511,1180591620717411303424,6917529027641081856),(1023,0,1770887431076116955136)]
theorem body211:bodyB Tryz.prog 211 = true:=by kernel_rfl
def wardmoteref01_parts_l1 (n:Nat) (a0:List Int) (g0:Int) (a1:List Int) (p0:(List Int) × Int × (List Int) → Option ((List Int) × (List Int))):(List Int) × Int × (List Int) → Option ((List Int) × (List Int))
  | (k0,c0,b0)=>(if 0 ≤ c0 then (idx a0 g0).bind fun x0=>(natOf c0).bind fun q0=>(remI (shrS x0 q0) 2).bind fun t0=>(wardmoteref01_twice_p n k0 t0).bind fun d0=>(wardmoteref01_order_p n d0 a1).bind fun C0=>jn (fun (z0,A0)=>(chk (c0 - 1)).bind fun u0=>p0 (z0,u0,A0)) (fun j0=>(if 0 ≤ C0 then (wardmoteref01_less_p n d0 a1).bind fun D0=>(idx b0 g0).bind fun y0=>(natOf c0).bind fun s0=>(chk (y0 + (shlS 1 s0))).bind fun v0=>(put b0 ((g0.toNat:Nat):Int) v0).bind fun B0=>j0 (D0,B0) else j0 (d0,b0))) else some (k0,b0))
def wardmoteref01_parts_l2 (n:Nat) (a0:List Int) (a1:List Int) (g0:(List Int) × Int × (List Int) → Option ((List Int) × (List Int))):(List Int) × Int × (List Int) → Option ((List Int) × (List Int))
  | (c0,b0,d0)=>(if 0 ≤ b0 then Option.bind (loopF (wardmoteref01_parts_l1 n a0 b0 a1) n (c0,31,d0)) (fun (k0,p0)=>(chk (b0 - 1)).bind fun j0=>g0 (k0,j0,p0)) else some (d0,c0))
def wardmoteref01_parts_p (n:Nat) (a0:List Int) (a1:List Int):Option ((List Int) × (List Int)):=
  (if ((a0.length:Nat):Int) ≤ (((a1.length:Nat):Int) - 1) then (app ([]:List Int) a0).bind fun g0=>some (([]:List Int),g0) else (mk (((a0.length:Nat):Int) - (((a1.length:Nat):Int) - 1)) (0:Int)).bind fun b0=>(cut a0 (((a0.length:Nat):Int) - (((a1.length:Nat):Int) - 1)) (a0.length:Int)).bind fun j0=>(app ([]:List Int) j0).bind fun k0=>Option.bind (loopF (wardmoteref01_parts_l2 n a0 a1) n (k0,((b0.length:Nat):Int) - 1,b0)) (fun (d0,c0)=>(wardmoteref01_cut_p n d0).bind fun p0=>some (p0,c0)))
theorem wardmoteref01_parts_c (n:Nat) (L:List Nat) (w:World) (hL:∀ b ∈ L,b < w.heap.size) (a0:List Int) {v0_0:Value} (h0_0:Rep.R w L [v0_0] a0) (a1:List Int) {v1_0:Value} (h1_0:Rep.R w L [v1_0] a1)  {r:(List Int) × (List Int)} (h:wardmoteref01_parts_p n a0 a1 = some r) :
    Calls Tryz.prog 185 #[v0_0,v1_0] w (Gives w fun w' u=>∃ v0_0 v1_0:Value,u = .tuple #[v0_0,v1_0]∧Rep.R w' L [v0_0] r.1∧Rep.R w' L [v1_0] r.2):=by
 unfold wardmoteref01_parts_p at h
 have hS0:=Ax w
 refine AA Tryz.func185 rfl rfl rfl (fun _ cs0 hb0=>?_)
 refine Ac<|Ag rfl<|Ag rfl<|Aa<|Ac<|Ae rfl ?_
 have hl1:a1.length ≤ 281474976710656:=AT h1_0
 refine Ab (Bb (xs:=a1) Tryz.underlying45 rfl h1_0)<|Ab (FV.subI (i:=((a1.length:Nat):Int)) (j:=1) rfl rfl (by omega))<|Ag rfl<|Aa<|Ak<|Ac<|Ae rfl ?_
 have hl2:a0.length ≤ 281474976710656:=AT h0_0
 refine Ab (Bb (xs:=a0) Tryz.underlying45 rfl h0_0)<|Ae rfl<|Ab (FV.leq (i:=((a0.length:Nat):Int)) (j:=((a1.length:Nat):Int) - 1) rfl rfl)<|Aa<|AQ rfl h (fun c3 h=>?_) (fun c3 h=>?_)
 refine Ac<|Aj .plain rfl (AW (α:=Int) (xs:=([]:List Int)) (vs:=[]) (ds' :=[]) rfl hS0 el45 rfl evs_nil (by kernel_rfl) rfl) (fun Z4 z4 R0 H4=>?_)
 have t2:=AG (cs:=[]) (xs:=(([]:List Int):List Int)) R0 L (AO _ _)
 refine Ae rfl ?_
 obtain ⟨k4,I3,h⟩:=bi h
 have X2:=AM h0_0 R0
 refine RG.doesL .plain rfl (BJ (α:=Int) (ys:=a0) I3 R0 (fun _ _=>.hd) el45 rfl rfl t2 (Src.rep X2)) (fun D1 g5 ⟨F4,P0,I4,x2⟩=>?_)
 refine Ag rfl<|Ag rfl<|Aa<|Al rfl ?_
 have P4:=Rep.nilAt (α:=Int) P0 L
 have t3:=Bq (α:=Int) P0 .hd x2 hL
 have G0:=BD P0 .hd
 have J4:=BE P0 .hd
 have u3:=BF (α:=Int) (v:=D1) (xs:=k4) G0 L t3
 refine Ao hb0 Tryz.func185 rfl (.cons (.tmp rfl) (.cons (.tmp rfl) .nil)) rfl ?_
 cases h
 have v3:=Rep.nilAt (α:=Int) G0 L
 exact ⟨G0.ag,fun w9 hw9=>⟨vN,D1,rfl,G0.kd v3 hw9,G0.kd u3 hw9⟩⟩
 refine Aq<|Ac<|Ae rfl<|Ab (Bb (xs:=a0) Tryz.underlying45 rfl h0_0)<|Ae rfl<|Ab (FV.subI (i:=((a0.length:Nat):Int)) (j:=((a1.length:Nat):Int) - 1) rfl rfl (by omega)) ?_
 obtain ⟨F0,C1,h⟩:=bi h
 refine Aj .plain rfl (Does.mk (α:=Int) C1 hS0 el45 rfl) (fun j5 b0 k1 K4=>?_)
 have y2:=AG (cs:=(List.replicate (((a0.length:Nat):Int) - (((a1.length:Nat):Int) - 1)).toNat [vI 0]).flatten) (xs:=F0) k1 L (Cells.mk C1 rfl)
 refine Ag rfl<|Aa<|Ac<|Aj .plain rfl (AW (α:=Int) (xs:=([]:List Int)) (vs:=[]) (ds' :=[]) rfl k1 el45 rfl evs_nil (by kernel_rfl) rfl) (fun k5 A4 X0 g2=>?_)
 have z2:=AG (cs:=[]) (xs:=(([]:List Int):List Int)) X0 L (AO _ _)
 refine Ae rfl<|Ae rfl ?_
 have z1:=AM h0_0 X0
 refine Ab (Bb (xs:=a0) Tryz.underlying45 rfl z1)<|Ae rfl<|Ab (FV.subI (i:=((a0.length:Nat):Int)) (j:=((a1.length:Nat):Int) - 1) rfl rfl (by omega)) ?_
 obtain ⟨q4,K3,h⟩:=bi h
 refine RG.valE .plain rfl (FV.cutL (α:=Int) K3 (by kernel_rfl) rfl z1 ⟨_,rfl⟩ rfl) (fun Y4 x3=>?_)
 obtain ⟨G1,M3,h⟩:=bi h
 refine RG.doesL .plain rfl (BJ (α:=Int) (ys:=q4) M3 X0 (fun _ _=>.hd) el45 rfl rfl z2 (Src.rep x3)) (fun E1 j4 ⟨G4,H0,j2,A2⟩=>?_)
 refine Ag rfl<|Aa<|Ak<|Ac<|Ae rfl ?_
 have M4:F0.length ≤ 4294967296:=St.rowLe (α:=Int) H0 (.tl .hd)
 obtain ⟨u4,E4,E2⟩:=St.rowV (α:=Int) H0 (.tl .hd)
 refine Ab (FV.lenV Tryz.underlying45 rfl E2)<|Ab (FV.subI (i:=((F0.length:Nat):Int)) (j:=1) rfl rfl (by omega))<|Ag rfl<|Aa<|Az ?_
 have y3:=Bq (α:=Int) H0 .hd A2 hL
 have p1:=BD H0 .hd
 have k2:=BE H0 .hd
 have z3:=BF (α:=Int) (v:=E1) (xs:=G1) p1 L y3
 have b3:=Tt g2 (Tt j2 k2)
 have M2:=AN y2 b3
 obtain ⟨Q4,Y2,F2⟩:=bind_in2 h
 refine Bj (α:=(List Int) × Int × (List Int) × Value × (List Value)) (fun ⟨D0,g0,d0,y0,q0⟩=>[(0,v0_0),(1,v1_0),(7,(.slice (some ⟨b0,0,none⟩) (((a0.length:Nat):Int) - (((a1.length:Nat):Int) - 1)).toNat (((a0.length:Nat):Int) - (((a1.length:Nat):Int) - 1)).toNat)),(8,y0),(9,vI g0)]) (fun ⟨D0,g0,d0,y0,q0⟩ C0=>St w C0 [.row w.heap.size 3 (Rep.size Int) (.slice (some ⟨b0,0,none⟩) (((a0.length:Nat):Int) - (((a1.length:Nat):Int) - 1)).toNat (((a0.length:Nat):Int) - (((a1.length:Nat):Int) - 1)).toNat) d0.length q0]∧Tr j4 [.row w.heap.size 3 (Rep.size Int) (.slice (some ⟨b0,0,none⟩) (((a0.length:Nat):Int) - (((a1.length:Nat):Int) - 1)).toNat (((a0.length:Nat):Int) - (((a1.length:Nat):Int) - 1)).toNat) F0.length ((List.replicate (((a0.length:Nat):Int) - (((a1.length:Nat):Int) - 1)).toNat [vI 0]).flatten)] C0 [.row w.heap.size 3 (Rep.size Int) (.slice (some ⟨b0,0,none⟩) (((a0.length:Nat):Int) - (((a1.length:Nat):Int) - 1)).toNat (((a0.length:Nat):Int) - (((a1.length:Nat):Int) - 1)).toNat) d0.length q0]∧Rep.R C0 (bl [.row w.heap.size 3 (Rep.size Int) (.slice (some ⟨b0,0,none⟩) (((a0.length:Nat):Int) - (((a1.length:Nat):Int) - 1)).toNat (((a0.length:Nat):Int) - (((a1.length:Nat):Int) - 1)).toNat) d0.length q0] ++ L) [y0] D0∧Cells C0 (bl [.row w.heap.size 3 (Rep.size Int) (.slice (some ⟨b0,0,none⟩) (((a0.length:Nat):Int) - (((a1.length:Nat):Int) - 1)).toNat (((a0.length:Nat):Int) - (((a1.length:Nat):Int) - 1)).toNat) d0.length q0] ++ L) q0 d0) (fun ⟨D0,g0,d0,y0,q0⟩=>(D0,g0,d0)) (G1,((F0.length:Nat):Int) - 1,F0,E1,(List.replicate (((a0.length:Nat):Int) - (((a1.length:Nat):Int) - 1)).toNat [vI 0]).flatten) Y2 ⟨rfl,rfl,rfl,rfl,rfl,trivial⟩ ⟨p1,AP _ _,z3,M2⟩ ?_
 rintro v4 ⟨D0,g0,d0,y0,q0⟩ C0 V1 ⟨K0,Z1,A1,u1⟩ h
 unfold wardmoteref01_parts_l2 at h
 try dsimp only at h
 refine Ak<|Ac<|Ae rfl<|Ab (FV.geq (i:=g0) (j:=0) rfl rfl)<|Aa<|AQ rfl h (fun K1 h=>?_) (fun K1 h=>?_)
 refine Aq<|Ak<|Az<|Ac<|Ag rfl<|Aa<|Az ?_
 obtain ⟨R4,Z2,G2⟩:=bind_in2 h
 refine Bj (α:=(List Int) × Int × (List Int) × Value × (List Value)) (fun ⟨z0,u0,j0,A0,p0⟩=>[(0,v0_0),(1,v1_0),(7,(.slice (some ⟨b0,0,none⟩) (((a0.length:Nat):Int) - (((a1.length:Nat):Int) - 1)).toNat (((a0.length:Nat):Int) - (((a1.length:Nat):Int) - 1)).toNat)),(8,A0),(9,vI g0),(10,vI u0)]) (fun ⟨z0,u0,j0,A0,p0⟩ I0=>St w I0 [.row w.heap.size 3 (Rep.size Int) (.slice (some ⟨b0,0,none⟩) (((a0.length:Nat):Int) - (((a1.length:Nat):Int) - 1)).toNat (((a0.length:Nat):Int) - (((a1.length:Nat):Int) - 1)).toNat) j0.length p0]∧Tr C0 [.row w.heap.size 3 (Rep.size Int) (.slice (some ⟨b0,0,none⟩) (((a0.length:Nat):Int) - (((a1.length:Nat):Int) - 1)).toNat (((a0.length:Nat):Int) - (((a1.length:Nat):Int) - 1)).toNat) d0.length q0] I0 [.row w.heap.size 3 (Rep.size Int) (.slice (some ⟨b0,0,none⟩) (((a0.length:Nat):Int) - (((a1.length:Nat):Int) - 1)).toNat (((a0.length:Nat):Int) - (((a1.length:Nat):Int) - 1)).toNat) j0.length p0]∧Rep.R I0 (bl [.row w.heap.size 3 (Rep.size Int) (.slice (some ⟨b0,0,none⟩) (((a0.length:Nat):Int) - (((a1.length:Nat):Int) - 1)).toNat (((a0.length:Nat):Int) - (((a1.length:Nat):Int) - 1)).toNat) j0.length p0] ++ L) [A0] z0∧Cells I0 (bl [.row w.heap.size 3 (Rep.size Int) (.slice (some ⟨b0,0,none⟩) (((a0.length:Nat):Int) - (((a1.length:Nat):Int) - 1)).toNat (((a0.length:Nat):Int) - (((a1.length:Nat):Int) - 1)).toNat) j0.length p0] ++ L) p0 j0) (fun ⟨z0,u0,j0,A0,p0⟩=>(z0,u0,j0)) (D0,31,d0,y0,q0) Z2 ⟨rfl,rfl,rfl,rfl,rfl,rfl,trivial⟩ ⟨K0,AP _ _,A1,u1⟩ ?_
 rintro x4 ⟨z0,u0,j0,A0,p0⟩ I0 W1 ⟨M0,q1,B1,Z0⟩ h
 unfold wardmoteref01_parts_l1 at h
 try dsimp only at h
 refine Ak<|Ac<|Ae rfl<|Ab (FV.geq (i:=u0) (j:=0) rfl rfl)<|Aa<|AQ rfl h (fun M1 h=>?_) (fun M1 h=>?_)
 refine Aq<|Ak<|Az<|Ac<|Ae rfl<|Ae rfl<|Ae rfl ?_
 obtain ⟨d1,E3,h⟩:=bi h
 obtain ⟨H2,F3⟩:=idx_in E3
 have Q2:=AM h0_0 M0
 obtain ⟨t4,B4,B2,I2,Q1,d3,P2⟩:=Bm Q2 F3
 have C2:Q1 = [vI d1]:=d3; subst C2
 refine Ab (Bo 1 (g0.toNat) rfl B2 rfl H2 I2)<|Bd rfl (P2 0 _ rfl)<|Ae rfl ?_
 obtain ⟨V3,J2,h⟩:=bi h
 refine Ab (FV.shrSI (i:=d1) (q:=u0) rfl rfl J2) ?_
 obtain ⟨X3,A3,h⟩:=bi h
 refine Ab (FV.remc (i:=shrS d1 V3) (j:=2) rfl rfl A3) ?_
 obtain ⟨g1,P3,h⟩:=bi h
 refine AX (fst:=[]) (cap:=[]) .plain body211 rfl (e2 rfl rfl) (fun w9 hw9=>wardmoteref01_twice_c n _ w9 (M0.hL hL hw9) z0 (Am B1 hw9) X3 P3) rfl (fun g4 b4 p2 ⟨V4,hu_,c1⟩=>?_)
 subst hu_
 obtain ⟨x0,Y0⟩:=M0.agr p2
 refine Ag rfl<|Aa<|Ac<|Ae rfl<|Ae rfl ?_
 obtain ⟨H1,Q3,h⟩:=bi h
 refine Bf (vI H1) body187 rfl (e2 rfl rfl) (fun w9 hw9=>wardmoteref01_order_c n _ w9 (x0.hL0 hL hw9) g1 (x0.kd c1 hw9) a1 (x0.k0 h1_0 hw9) Q3) rfl<|Ab (FV.geq (i:=H1) (j:=0) rfl rfl)<|Aa<|MX.join (α:=(List Int) × (List Int) × Value × (List Value)) (fun ⟨E0,t0,B0,v0⟩=>[(0,v0_0),(1,v1_0),(7,(.slice (some ⟨b0,0,none⟩) (((a0.length:Nat):Int) - (((a1.length:Nat):Int) - 1)).toNat (((a0.length:Nat):Int) - (((a1.length:Nat):Int) - 1)).toNat)),(8,B0),(9,vI g0),(10,vI u0)]) (fun ⟨E0,t0,B0,v0⟩ J0=>St w J0 [.row w.heap.size 3 (Rep.size Int) (.slice (some ⟨b0,0,none⟩) (((a0.length:Nat):Int) - (((a1.length:Nat):Int) - 1)).toNat (((a0.length:Nat):Int) - (((a1.length:Nat):Int) - 1)).toNat) t0.length v0]∧Tr g4 [.row w.heap.size 3 (Rep.size Int) (.slice (some ⟨b0,0,none⟩) (((a0.length:Nat):Int) - (((a1.length:Nat):Int) - 1)).toNat (((a0.length:Nat):Int) - (((a1.length:Nat):Int) - 1)).toNat) j0.length p0] J0 [.row w.heap.size 3 (Rep.size Int) (.slice (some ⟨b0,0,none⟩) (((a0.length:Nat):Int) - (((a1.length:Nat):Int) - 1)).toNat (((a0.length:Nat):Int) - (((a1.length:Nat):Int) - 1)).toNat) t0.length v0]∧Rep.R J0 (bl [.row w.heap.size 3 (Rep.size Int) (.slice (some ⟨b0,0,none⟩) (((a0.length:Nat):Int) - (((a1.length:Nat):Int) - 1)).toNat (((a0.length:Nat):Int) - (((a1.length:Nat):Int) - 1)).toNat) t0.length v0] ++ L) [B0] E0∧Cells J0 (bl [.row w.heap.size 3 (Rep.size Int) (.slice (some ⟨b0,0,none⟩) (((a0.length:Nat):Int) - (((a1.length:Nat):Int) - 1)).toNat (((a0.length:Nat):Int) - (((a1.length:Nat):Int) - 1)).toNat) t0.length v0] ++ L) v0 t0) (fun ⟨E0,t0,B0,v0⟩=>(E0,t0)) h ?_ ?_
 rintro ⟨E0,t0,B0,v0⟩ J0 ⟨X1,b2,g3,u2⟩ h
 try dsimp only at h
 refine AC<|Ar<|Ae rfl ?_
 obtain ⟨Y3,B3,h⟩:=bi h
 refine Ab (FV.subc (i:=u0) (j:=1) rfl rfl B3)<|Ag rfl<|Aa ?_
 exact W1 (E0,Y3,t0,B0,v0) _ _ ⟨rfl,rfl,rfl,rfl,rfl,rfl,trivial⟩ ⟨X1,(Tt q1 (Tt Y0 b2)),g3,u2⟩ h
 intro y4 j1 h
 try dsimp only at h
 refine AQ rfl h (fun P1 h=>?_) (fun P1 h=>?_)
 refine Ac<|Ae rfl<|Ae rfl ?_
 obtain ⟨s4,R3,h⟩:=bi h
 refine AX (fst:=[]) (cap:=[]) .plain body183 rfl (e2 rfl rfl) (fun w9 hw9=>wardmoteref01_less_c n _ w9 (x0.hL hL hw9) g1 (Am c1 hw9) a1 (x0.km h1_0 hw9) R3) rfl (fun b5 c4 q2 ⟨W4,hu_,j3⟩=>?_)
 subst hu_
 obtain ⟨U0,s1⟩:=x0.agr q2
 refine Ag rfl<|Aa<|AF 10 tb185_15 (by kernel_rfl) (by kernel_rfl) (by kernel_rfl) (fun c0 s0=>?_)
 refine Ah 0 1 c0 rfl s0 (fun _=>Ai rfl) rfl<|Ah 1 3 c0 rfl s0 (fun _=>Ai rfl) rfl<|Ah 2 7 c0 rfl s0 (fun _=>Ai rfl) rfl<|Ah 3 15 c0 rfl s0 (fun _=>Ai rfl) rfl ?_
 obtain ⟨F1,G3,h⟩:=bi h
 obtain ⟨x1,H3⟩:=idx_in G3
 have y1:=AN Z0 (Tt Y0 s1)
 obtain ⟨I1,C4,Q0,b1,R1,k3,R2⟩:=St.nth (α:=Int) U0 .hd y1 H3
 obtain ⟨J1,D4,v1⟩:=St.nthOwn (α:=Int) U0 .hd b1
 obtain rfl:I1 = ⟨J1,0,none⟩:=by rw [v1] at Q0; cases Q0; rfl
 have D2:R1 = [vI F1]:=k3; subst D2
 refine Ah 4 31 c0 rfl s0 (fun _=>Bo 1 (g0.toNat) rfl Q0 rfl x1 b1) rfl<|AD 5 63 1792 c0 rfl s0 (AK rfl (R2 0 _ rfl)) rfl<|Ah 6 127 c0 rfl s0 (fun _=>Ai rfl) rfl ?_
 obtain ⟨W3,K2,h⟩:=bi h
 refine Ah 7 255 c0 rfl s0 (fun _=>FV.shlSI (i:=1) (q:=u0) rfl rfl K2) rfl ?_
 obtain ⟨U4,C3,h⟩:=bi h
 refine Ah 8 511 c0 rfl s0 (fun _=>BC (i:=F1) (j:=shlS 1 W3) rfl rfl C3) rfl<|Ah 9 1023 c0 rfl s0 (fun _=>Bo 1 (g0.toNat) rfl Q0 rfl x1 b1) rfl ?_
 obtain ⟨p4,J3,h⟩:=bi h
 refine Bs (i:=10) (readyD_ok c0 (by kernel_rfl)) (RO.acts (m' :=2047) (stepC_ok c0 (by kernel_rfl)) rfl rfl .plain (Acts.set (α:=Int) (i:=g0.toNat) J3 U0 v1 (fun _=>.hd) y1 rfl rfl rfl rfl rfl (by kernel_rfl)) (fun c5 ⟨U1,Y1,t1,v2⟩=>?_))
 refine AE (doneD_ok c0 (by kernel_rfl)) ?_
 have U2:=Ap j3 t1
 exact j1 (s4,p4,c4,U1) _ _ ⟨rfl,rfl,rfl,rfl,rfl,rfl,trivial⟩ ⟨Y1,(Tt s1 t1),U2,v2⟩ h
 refine Aq ?_
 have V2:=AN Z0 Y0
 exact j1 (g1,j0,b4,p0) _ _ ⟨rfl,rfl,rfl,rfl,rfl,rfl,trivial⟩ ⟨x0,AP _ _,c1,V2⟩ h
 refine Be rfl ?_
 have h:=G2 _ h
 try dsimp only at h
 refine AC<|Ar<|Ae rfl ?_
 obtain ⟨Z3,D3,h⟩:=bi h
 refine Ab (FV.subc (i:=g0) (j:=1) rfl rfl D3)<|Ag rfl<|Aa ?_
 exact V1 (z0,Z3,j0,A0,p0) _ _ ⟨rfl,rfl,rfl,rfl,rfl,trivial⟩ ⟨M0,(Tt Z1 q1),B1,Z0⟩ h
 refine Be rfl ?_
 have h:=F2 _ h
 try dsimp only at h
 refine Ac<|Ae rfl ?_
 have p3:=Bq (α:=Int) K0 .hd u1 hL
 have V0:=BD K0 .hd
 have c2:=BE K0 .hd
 have q3:=BF (α:=Int) (v:=(.slice (some ⟨b0,0,none⟩) (((a0.length:Nat):Int) - (((a1.length:Nat):Int) - 1)).toNat (((a0.length:Nat):Int) - (((a1.length:Nat):Int) - 1)).toNat)) (xs:=d0) V0 L p3
 obtain ⟨p5,U3,h⟩:=bi h
 refine AX (fst:=[]) (cap:=[]) .plain body184 rfl (e1 rfl) (fun w9 hw9=>wardmoteref01_cut_c n _ w9 (V0.hL hL hw9) d0 (Am q3 hw9) U3) rfl (fun d5 d4 s2 ⟨X4,hu_,s3⟩=>?_)
 subst hu_
 obtain ⟨W0,d2⟩:=V0.agr s2
 refine Ae rfl<|Ag rfl<|Ag rfl<|Aa<|Al rfl<|Ao hb0 Tryz.func185 rfl (.cons (.tmp rfl) (.cons (.tmp rfl) .nil)) rfl ?_
 cases h
 have W2:=Ap A1 (Tt c2 d2)
 exact ⟨W0.ag,fun w9 hw9=>⟨d4,y0,rfl,W0.kd s3 hw9,W0.kd W2 hw9⟩⟩
def tb150_1:List (Nat × Nat × Nat):=[(0,512,4),(1,1024,512),(0,2048,8),(4,4096,2048),(3,32,1024),(31,64,4096)]
theorem body185:bodyB Tryz.prog 185 = true:=by kernel_rfl
def wardmoteref01_Divisor_l1 (n:Nat) (d0:(List Int) × (List Int) → Option (List Int)):(List Int) × (List Int) → Option (List Int)
  | (c0,b0)=>(if 0 < b0.length then (wardmoteref01_parts_p n c0 b0).bind fun g0=>d0 (b0,g0.2) else some c0)
def wardmoteref01_Divisor_p (n:Nat) (a0:TLong153) (a1:TLong153):Option TLong153:=
  Option.bind (loopF (wardmoteref01_Divisor_l1 n) n (a0.fD,a1.fD)) (fun b0=>some (⟨false,b0⟩:TLong153))
theorem wardmoteref01_Divisor_c (n:Nat) (L:List Nat) (w:World) (hL:∀ b ∈ L,b < w.heap.size) (a0:TLong153) {v0_1:Value} (h0_1:Rep.R w L [v0_1] a0.fD) (a1:TLong153) {v1_1:Value} (h1_1:Rep.R w L [v1_1] a1.fD)  {r:TLong153} (h:wardmoteref01_Divisor_p n a0 a1 = some r) :
    Calls Tryz.prog 150 #[.agg #[.bool a0.fBelow,v0_1],.agg #[.bool a1.fBelow,v1_1]] w (Gives w fun w' u=>∃ v0_1:Value,u = .agg #[.bool r.fBelow,v0_1]∧Rep.R w' L [v0_1] r.fD):=by
 unfold wardmoteref01_Divisor_p at h
 have hS0:=Ax w
 refine AA Tryz.func150 rfl rfl rfl (fun _ cs0 hb0=>?_)
 refine Ac<|Aj .plain rfl (Aw hS0 rfl rfl) (fun y1 c1 C0 j1=>?_)
 refine Aj .plain rfl (Aw C0 rfl rfl) (fun z1 d1 D0 k1=>?_)
 refine Aj .plain rfl (Av [.bool false,vN] D0) (fun X0 g0 u0 p1=>?_)
 refine Aa<|Ak<|AF 6 tb150_1 (by kernel_rfl) (by kernel_rfl) (by kernel_rfl) (fun d0 j0=>?_)
 refine Ah 0 1 d0 rfl j0 (fun _=>Bh 1 rfl) rfl<|AD 1 3 48 d0 rfl j0 (AK rfl ((u0.memA (.tl (.tl .hd))) 1 _ rfl)) rfl<|Ah 2 7 d0 rfl j0 (fun _=>Bh 1 rfl) rfl<|AD 3 15 32 d0 rfl j0 (AK rfl ((u0.memA (.tl .hd)) 1 _ rfl)) rfl<|Ah 4 31 d0 rfl j0 (fun _=>AJ rfl) rfl<|Ah 5 63 d0 rfl j0 (fun _=>AJ rfl) rfl<|AE (doneD_ok d0 (by kernel_rfl))<|Ak<|Az ?_
 obtain ⟨v0,q1⟩:=AH u0 (.one .hd .done)
 have J0:=AM h0_1 v0
 have K0:=AM h1_1 v0
 obtain ⟨u1,Q0,I0⟩:=bind_in2 h
 refine Bj (α:=(List Int) × (List Int) × Value × Value) (fun ⟨p0,c0,b0,k0⟩=>[(4,vP g0),(5,b0),(6,k0)]) (fun ⟨p0,c0,b0,k0⟩ q0=>St w q0 [.cells g0 [.bool false,vN] 154]∧Tr X0 [.cells g0 [.bool false,vN] 154] q0 [.cells g0 [.bool false,vN] 154]∧Rep.R q0 (bl [.cells g0 [.bool false,vN] 154] ++ L) [b0] p0∧Rep.R q0 (bl [.cells g0 [.bool false,vN] 154] ++ L) [k0] c0) (fun ⟨p0,c0,b0,k0⟩=>(p0,c0)) (a0.fD,a1.fD,v0_1,v1_1) Q0 ⟨rfl,rfl,rfl,trivial⟩ ⟨v0,AP _ _,J0,K0⟩ ?_
 rintro b1 ⟨p0,c0,b0,k0⟩ q0 B0 ⟨x0,F0,s0,t0⟩ h
 unfold wardmoteref01_Divisor_l1 at h
 try dsimp only at h
 refine Ak<|Ac<|Ae rfl ?_
 have s1:c0.length ≤ 281474976710656:=AT t0
 refine Ab (Bb (xs:=c0) Tryz.underlying45 rfl t0)<|Ab (FV.gtrN (i:=c0.length) (j:=0) rfl rfl)<|Aa<|AQ rfl h (fun A0 h=>?_) (fun A0 h=>?_)
 refine Aq<|Az<|Ac<|Ae rfl<|Ae rfl ?_
 obtain ⟨Y0,V0,h⟩:=bi h
 refine AX (fst:=[]) (cap:=[]) .plain body185 rfl (e2 rfl rfl) (fun w9 hw9=>wardmoteref01_parts_c n _ w9 (x0.hL hL hw9) p0 (Am s0 hw9) c0 (Am t0 hw9) V0) rfl (fun A1 x1 H0 ⟨v1,W0,hu_,t1,R0⟩=>?_)
 subst hu_
 obtain ⟨E0,z0⟩:=x0.agr H0
 refine Ae rfl<|Ab (Af rfl rfl)<|Ab (Af rfl rfl)<|Ag rfl<|Ag rfl<|Aa<|Ar<|Ae rfl<|Ae rfl<|Ag rfl<|Ag rfl<|Aa<|AC ?_
 have M0:=Ap t0 z0
 exact B0 (c0,Y0.2,k0,W0) _ _ ⟨rfl,rfl,rfl,trivial⟩ ⟨E0,(Tt F0 z0),M0,R0⟩ h
 refine Be rfl ?_
 have h:=I0 _ h
 try dsimp only at h
 refine Ac<|Ae rfl ?_
 obtain ⟨Z0,g1,U0,_⟩:=Rep.sl s0
 refine Ab (AS (vs:=[b0]) (u:=.agg #[.bool false,b0]) (e1 rfl) (fun w9=>by rw [U0]; try kernel_rfl))<|AL [.bool false,b0] x0 .hd (o2 rfl (AI s0)) (fun B1 y0 G0=>?_)
 refine Aa<|Al rfl<|Ao hb0 Tryz.func150 rfl (.cons (.many (cs:=[.bool false,b0]) (by kernel_rfl) rfl (y0.memA .hd)) .nil) rfl ?_
 cases h
 have P0:=Ap s0 G0
 exact ⟨y0.ag,fun w9 hw9=>⟨b0,rfl,y0.kd P0 hw9⟩⟩
def wardmoteref01_made_p (n:Nat) (a0:Bool) (a1:List Int):Option TLong153:=
  (wardmoteref01_cut_p n a1).bind fun b0=>(if a0 = true then some (⟨(decide (0 < b0.length)),b0⟩:TLong153) else some (⟨false,b0⟩:TLong153))
theorem wardmoteref01_made_c (n:Nat) (L:List Nat) (w:World) (hL:∀ b ∈ L,b < w.heap.size) (a0:Bool) (a1:List Int) {v1_0:Value} (h1_0:Rep.R w L [v1_0] a1)  {r:TLong153} (h:wardmoteref01_made_p n a0 a1 = some r) :
    Calls Tryz.prog 182 #[.bool a0,v1_0] w (Gives w fun w' u=>∃ v0_1:Value,u = .agg #[.bool r.fBelow,v0_1]∧Rep.R w' L [v0_1] r.fD):=by
 unfold wardmoteref01_made_p at h
 have hS0:=Ax w
 refine AA Tryz.func182 rfl rfl rfl (fun _ cs0 hb0=>?_)
 refine Ac<|Aj .plain rfl (Av [.bool false,vN] hS0) (fun K0 D0 g0 G0=>?_)
 refine Aa<|Ac<|Ae rfl ?_
 obtain ⟨d0,A0,h⟩:=bi h
 refine AX (fst:=[]) (cap:=[]) .plain body184 rfl (e1 rfl) (fun w9 hw9=>wardmoteref01_cut_c n _ w9 (g0.hL hL hw9) a1 (g0.km h1_0 hw9) A0) rfl (fun M0 b0 u0 ⟨J0,hu_,c0⟩=>?_)
 subst hu_
 obtain ⟨p0,H0⟩:=g0.agr u0
 refine Ag rfl<|Aa<|Ac<|Ae rfl<|Ae rfl<|RG.ifb (s:=8) rfl h (fun q0 h=>?_) (fun q0 h=>?_)
 refine AY (Ai rfl) ?_
 have I0:d0.length ≤ 281474976710656:=AT c0
 refine AY (Bb (xs:=d0) Tryz.underlying45 rfl c0)<|AY (FV.gtrN (i:=d0.length) (j:=0) rfl rfl)<|RG.pt rfl rfl<|Ae rfl ?_
 obtain ⟨B0,E0,y0,_⟩:=Rep.sl c0
 refine Ab (AS (vs:=[.bool (decide (0 < d0.length)),b0]) (u:=.agg #[.bool (decide (0 < d0.length)),b0]) (e2 rfl rfl) (fun w9=>by rw [y0]; try kernel_rfl))<|AL [.bool (decide (0 < d0.length)),b0] p0 .hd (o2 rfl (AI c0)) (fun P0 j0 s0=>?_)
 refine Aa<|Al rfl<|Ao hb0 Tryz.func182 rfl (.cons (.many (cs:=[.bool (decide (0 < d0.length)),b0]) (by kernel_rfl) rfl (j0.memA .hd)) .nil) rfl ?_
 cases h
 have v0:=Ap c0 s0
 exact ⟨j0.ag,fun w9 hw9=>⟨b0,rfl,j0.kd v0 hw9⟩⟩
 refine AR<|AR<|AR<|RG.pf rfl rfl<|Ae rfl ?_
 obtain ⟨C0,F0,z0,_⟩:=Rep.sl c0
 refine Ab (AS (vs:=[.bool false,b0]) (u:=.agg #[.bool false,b0]) (e2 rfl rfl) (fun w9=>by rw [z0]; try kernel_rfl))<|AL [.bool false,b0] p0 .hd (o2 rfl (AI c0)) (fun Q0 k0 t0=>?_)
 refine Aa<|Al rfl<|Ao hb0 Tryz.func182 rfl (.cons (.many (cs:=[.bool false,b0]) (by kernel_rfl) rfl (k0.memA .hd)) .nil) rfl ?_
 cases h
 have x0:=Ap c0 t0
 exact ⟨k0.ag,fun w9 hw9=>⟨b0,rfl,k0.kd x0 hw9⟩⟩
theorem body182:bodyB Tryz.prog 182 = true:=by kernel_rfl
def wardmoteref01_Turn_p (n:Nat) (a0:TLong153):Option TLong153:=
  (wardmoteref01_made_p n (!a0.fBelow) a0.fD).bind fun b0=>some b0
theorem wardmoteref01_Turn_c (n:Nat) (L:List Nat) (w:World) (hL:∀ b ∈ L,b < w.heap.size) (a0:TLong153) {v0_1:Value} (h0_1:Rep.R w L [v0_1] a0.fD)  {r:TLong153} (h:wardmoteref01_Turn_p n a0 = some r) :
    Calls Tryz.prog 156 #[.agg #[.bool a0.fBelow,v0_1]] w (Gives w fun w' u=>∃ v0_1:Value,u = .agg #[.bool r.fBelow,v0_1]∧Rep.R w' L [v0_1] r.fD):=by
 unfold wardmoteref01_Turn_p at h
 have hS0:=Ax w
 refine AA Tryz.func156 rfl rfl rfl (fun _ cs0 hb0=>?_)
 refine Ac<|Aj .plain rfl (Aw hS0 rfl rfl) (fun C0 v0 k0 y0=>?_)
 refine Aj .plain rfl (Av [.bool false,vN] k0) (fun D0 x0 b0 z0=>?_)
 refine Aa<|Ac<|Bg 0 rfl<|Bd rfl ((b0.memA (.tl .hd)) 0 _ rfl)<|Ab (Bz rfl)<|Bg 1 rfl<|Bd rfl ((b0.memA (.tl .hd)) 1 _ rfl) ?_
 obtain ⟨j0,u0,h⟩:=bi h
 refine AX (fst:=[]) (cap:=[]) .plain body182 rfl (e2 rfl rfl) (fun w9 hw9=>wardmoteref01_made_c n _ w9 (b0.hL hL hw9) (!a0.fBelow) a0.fD (b0.km h0_1 hw9) u0) rfl (fun E0 B0 s0 ⟨d0,hu_,g0⟩=>?_)
 subst hu_
 obtain ⟨p0,A0⟩:=b0.agr s0
 refine AL [.bool j0.fBelow,d0] p0 .hd (o2 rfl (AI g0)) (fun F0 c0 q0=>?_)
 refine Aa<|Al rfl<|Ao hb0 Tryz.func156 rfl (.cons (.many (cs:=[.bool j0.fBelow,d0]) (by kernel_rfl) rfl (c0.memA .hd)) .nil) rfl ?_
 cases h
 have t0:=Ap g0 q0
 exact ⟨c0.ag,fun w9 hw9=>⟨d0,rfl,c0.kd t0 hw9⟩⟩
def wardmoteref01_more_l1 (_n:Nat) (a0:List Int) (a1:List Int) (g0:Int × Int × (List Int) → Option (List Int)):Int × Int × (List Int) → Option (List Int)
  | (c0,b0,d0)=>(if b0 < ((a0.length:Nat):Int) then (idx a0 b0).bind fun C0=>(chk (c0 + C0)).bind fun k0=>jn (fun q0=>(remI q0 4294967296).bind fun s0=>(app d0 ([s0]:List Int)).bind fun F0=>(quoI q0 4294967296).bind fun t0=>(chk (b0 + 1)).bind fun u0=>g0 (t0,u0,F0)) (fun j0=>(if b0 < ((a1.length:Nat):Int) then (idx a1 b0).bind fun D0=>(chk (k0 + D0)).bind fun v0=>j0 v0 else j0 k0)) else (if b0 < ((a1.length:Nat):Int) then (idx a1 b0).bind fun E0=>(chk (c0 + E0)).bind fun p0=>(remI p0 4294967296).bind fun x0=>(app d0 ([x0]:List Int)).bind fun G0=>(quoI p0 4294967296).bind fun y0=>g0 (y0,b0 + 1,G0) else (if 0 < c0 then (remI c0 4294967296).bind fun z0=>(app d0 ([z0]:List Int)).bind fun H0=>(quoI c0 4294967296).bind fun A0=>(chk (b0 + 1)).bind fun B0=>g0 (A0,B0,H0) else some d0)))
def wardmoteref01_more_p (n:Nat) (a0:List Int) (a1:List Int):Option (List Int):=
  Option.bind (loopF (wardmoteref01_more_l1 n a0 a1) n (0,0,([]:List Int))) (fun b0=>some b0)
theorem wardmoteref01_more_c (n:Nat) (L:List Nat) (w:World) (hL:∀ b ∈ L,b < w.heap.size) (a0:List Int) {v0_0:Value} (h0_0:Rep.R w L [v0_0] a0) (a1:List Int) {v1_0:Value} (h1_0:Rep.R w L [v1_0] a1)  {r:List Int} (h:wardmoteref01_more_p n a0 a1 = some r) :
    Calls Tryz.prog 189 #[v0_0,v1_0] w (Gives w fun w' u=>∃ v0_0:Value,u = v0_0∧Rep.R w' L [v0_0] r):=by
 unfold wardmoteref01_more_p at h
 have hS0:=Ax w
 refine AA Tryz.func189 rfl rfl rfl (fun _ cs0 hb0=>?_)
 refine Ac<|Ag rfl<|Aa<|Ac<|Ag rfl<|Aa<|Ac<|Ag rfl<|Aa<|Ak<|Ac<|Ag rfl<|Aa<|Az ?_
 have K0:=hS0.nilRow 3 (Rep.size Int)
 have U3:=St.nilRowT hS0 3 (Rep.size Int)
 have G1:=AG (cs:=[]) (xs:=([]:List Int)) K0 L (AO _ _)
 obtain ⟨Z3,z2,Y1⟩:=bind_in2 h
 refine Bj (α:=Int × Int × (List Int) × Value × (List Value)) (fun ⟨k0,b0,d0,c0,g0⟩=>[(0,v0_0),(1,v1_0),(5,c0),(6,vI k0),(7,vI b0)]) (fun ⟨k0,b0,d0,c0,g0⟩ x0=>St w x0 [.row w.heap.size 3 (Rep.size Int) c0 d0.length g0]∧Tr w [.row w.heap.size 3 (Rep.size Int) vN (([]:List Int).length) []] x0 [.row w.heap.size 3 (Rep.size Int) c0 d0.length g0]∧Cells x0 (bl [.row w.heap.size 3 (Rep.size Int) c0 d0.length g0] ++ L) g0 d0) (fun ⟨k0,b0,d0,c0,g0⟩=>(k0,b0,d0)) (0,0,([]:List Int),vN,[]) z2 ⟨rfl,rfl,rfl,rfl,rfl,trivial⟩ ⟨K0,AP _ _,G1⟩ ?_
 rintro H3 ⟨k0,b0,d0,c0,g0⟩ x0 B0 ⟨j0,G0,z0⟩ h
 unfold wardmoteref01_more_l1 at h
 try dsimp only at h
 refine Ak<|Ac<|Ae rfl<|Ae rfl ?_
 have u0:=AM h0_0 j0
 have W3:a0.length ≤ 281474976710656:=AT u0
 refine Ab (Bb (xs:=a0) Tryz.underlying45 rfl u0)<|Ab (FV.lss (i:=b0) (j:=((a0.length:Nat):Int)) rfl rfl)<|Ae rfl<|RG.ifd (s:=12) rfl h (fun y0 h=>?_) (fun y0 h=>?_)
 refine AR<|AR<|AR<|AR<|RG.pt rfl rfl<|Ae rfl<|AR<|AR<|RG.pt rfl rfl<|Aa<|Bp rfl<|Aq<|Ak<|Az<|Ak<|Ac<|Ae rfl<|Ae rfl<|Ab (Bb (xs:=a0) Tryz.underlying45 rfl u0)<|Ab (FV.lss (i:=b0) (j:=((a0.length:Nat):Int)) rfl rfl)<|Aa<|MX.cond_kt rfl (decide_eq_true y0)<|Ar<|Ae rfl ?_
 refine Ae rfl<|Ae rfl ?_
 obtain ⟨Z0,Y2,h⟩:=bi h
 obtain ⟨Z1,Z2⟩:=idx_in Y2
 obtain ⟨E3,P3,Q1,d2,j1,D2,k2⟩:=Bm u0 Z2
 have R1:j1 = [vI Z0]:=D2; subst R1
 refine Ab (Bo 1 (b0.toNat) rfl Q1 rfl Z1 d2)<|Bd rfl (k2 0 _ rfl) ?_
 obtain ⟨X0,I2,h⟩:=bi h
 refine Ab (BC (i:=k0) (j:=Z0) rfl rfl I2)<|Ag rfl<|Aa<|Ak<|Ac<|Ae rfl<|Ae rfl ?_
 have H0:=AM h1_0 j0
 have X3:a1.length ≤ 281474976710656:=AT H0
 refine Ab (Bb (xs:=a1) Tryz.underlying45 rfl H0)<|Ab (FV.lss (i:=b0) (j:=((a1.length:Nat):Int)) rfl rfl)<|Aa<|MX.join (α:=Int) (fun t0=>[(0,v0_0),(1,v1_0),(5,c0),(6,vI t0),(7,vI b0)]) (fun t0 I0=>St w I0 [.row w.heap.size 3 (Rep.size Int) c0 d0.length g0]∧Tr x0 [.row w.heap.size 3 (Rep.size Int) c0 d0.length g0] I0 [.row w.heap.size 3 (Rep.size Int) c0 d0.length g0]) (fun t0=>t0) h ?_ ?_
 rintro t0 I0 ⟨v1,M0⟩ h
 try dsimp only at h
 refine Ac<|Ae rfl<|Ae rfl ?_
 obtain ⟨p0,J2,h⟩:=bi h
 refine Ab (FV.remc (i:=t0) (j:=4294967296) rfl rfl J2)<|Aj .plain rfl (AW (α:=Int) (xs:=([p0]:List Int)) (vs:=[vI p0]) (ds' :=[vI p0]) rfl v1 el45 rfl (e1 rfl) (by kernel_rfl) rfl) (fun b4 J3 C0 P0=>?_)
 have H1:=AG (cs:=[vI p0]) (xs:=(([p0]:List Int):List Int)) C0 L (Au (cs:=[vI p0]) (ds:=[]) rfl (AO _ _))
 obtain ⟨B3,j3,h⟩:=bi h
 have p2:=AN z0 (Tt M0 P0)
 refine RG.doesL .plain rfl (BJ (α:=Int) (ys:=([p0]:List Int)) j3 C0 (fun _ _=>(.tl .hd)) el45 rfl rfl p2 (Src.row (α:=Int) C0 .hd H1)) (fun y3 c4 ⟨k1,x1,D1,I1⟩=>?_)
 refine Ag rfl<|Aa<|Ar<|Ae rfl ?_
 obtain ⟨q3,K2,h⟩:=bi h
 refine Ab (FV.quoc (i:=t0) (j:=4294967296) rfl rfl K2)<|Ag rfl<|Aa<|AC<|Ar<|Ae rfl ?_
 obtain ⟨s3,M2,h⟩:=bi h
 refine Ab (BC (i:=b0) (j:=1) rfl rfl M2)<|Ag rfl<|Aa ?_
 obtain ⟨y1,Q0⟩:=AH x1 (.one (.tl .hd) .done)
 have q2:=AN I1 Q0
 have A2:=Tt M0 (Tt P0 (Tt D1 Q0))
 exact B0 (q3,s3,B3,y3,k1) _ _ ⟨rfl,rfl,rfl,rfl,rfl,trivial⟩ ⟨y1,(Tt G0 A2),q2⟩ h
 intro I3 J0 h
 try dsimp only at h
 refine AQ rfl h (fun d1 h=>?_) (fun d1 h=>?_)
 refine Ar<|Ae rfl<|Ae rfl<|Ae rfl ?_
 obtain ⟨b1,b3,h⟩:=bi h
 obtain ⟨b2,c3⟩:=idx_in b3
 obtain ⟨F3,Q3,U1,g2,p1,E2,s2⟩:=Bm H0 c3
 have V1:p1 = [vI b1]:=E2; subst V1
 refine Ab (Bo 1 (b0.toNat) rfl U1 rfl b2 g2)<|Bd rfl (s2 0 _ rfl) ?_
 obtain ⟨t3,P2,h⟩:=bi h
 refine Ab (BC (i:=X0) (j:=b1) rfl rfl P2)<|Ag rfl<|Aa ?_
 exact J0 t3 _ _ ⟨rfl,rfl,rfl,rfl,rfl,trivial⟩ ⟨j0,AP _ _⟩ h
 refine Aq ?_
 exact J0 X0 _ _ ⟨rfl,rfl,rfl,rfl,rfl,trivial⟩ ⟨j0,AP _ _⟩ h
 refine AY (Ai rfl)<|AY (Ai rfl) ?_
 have v0:=AM h1_0 j0
 have Y3:a1.length ≤ 281474976710656:=AT v0
 refine AY (Bb (xs:=a1) Tryz.underlying45 rfl v0)<|AY (FV.lss (i:=b0) (j:=((a1.length:Nat):Int)) rfl rfl)<|RG.pf rfl rfl<|Ae rfl<|RG.ifd (s:=18) rfl h (fun A0 h=>?_) (fun A0 h=>?_)
 refine AR<|AR<|RG.pt rfl rfl<|Aa<|Bp rfl<|Aq<|Ak<|Az<|Ak<|Ac<|Ae rfl<|Ae rfl<|Ab (Bb (xs:=a0) Tryz.underlying45 rfl u0)<|Ab (FV.lss (i:=b0) (j:=((a0.length:Nat):Int)) rfl rfl)<|Aa<|MX.cond_kf rfl (decide_eq_false y0)<|Aq<|Ak<|Ac<|Ae rfl<|Ae rfl<|Ab (Bb (xs:=a1) Tryz.underlying45 rfl v0)<|Ab (FV.lss (i:=b0) (j:=((a1.length:Nat):Int)) rfl rfl)<|Aa ?_
 refine MX.cond_kt rfl (decide_eq_true A0)<|Ar<|Ae rfl<|Ae rfl<|Ae rfl ?_
 obtain ⟨c1,d3,h⟩:=bi h
 obtain ⟨c2,g3⟩:=idx_in d3
 obtain ⟨G3,R3,W1,j2,q1,F2,t2⟩:=Bm v0 g3
 have X1:q1 = [vI c1]:=F2; subst X1
 refine Ab (Bo 1 (b0.toNat) rfl W1 rfl c2 j2)<|Bd rfl (t2 0 _ rfl) ?_
 obtain ⟨Y0,Q2,h⟩:=bi h
 refine Ab (BC (i:=k0) (j:=c1) rfl rfl Q2)<|Ag rfl<|Aa<|Ac<|Ae rfl<|Ae rfl ?_
 obtain ⟨q0,R2,h⟩:=bi h
 refine Ab (FV.remc (i:=Y0) (j:=4294967296) rfl rfl R2)<|Aj .plain rfl (AW (α:=Int) (xs:=([q0]:List Int)) (vs:=[vI q0]) (ds' :=[vI q0]) rfl j0 el45 rfl (e1 rfl) (by kernel_rfl) rfl) (fun d4 K3 D0 R0=>?_)
 have J1:=AG (cs:=[vI q0]) (xs:=(([q0]:List Int):List Int)) D0 L (Au (cs:=[vI q0]) (ds:=[]) rfl (AO _ _))
 obtain ⟨C3,k3,h⟩:=bi h
 have u2:=AN z0 R0
 refine RG.doesL .plain rfl (BJ (α:=Int) (ys:=([q0]:List Int)) k3 D0 (fun _ _=>(.tl .hd)) el45 rfl rfl u2 (Src.row (α:=Int) D0 .hd J1)) (fun z3 g4 ⟨s1,z1,E1,K1⟩=>?_)
 refine Ag rfl<|Aa<|Ar<|Ae rfl ?_
 obtain ⟨u3,U2,h⟩:=bi h
 refine Ab (FV.quoc (i:=Y0) (j:=4294967296) rfl rfl U2)<|Ag rfl<|Aa<|AC<|Ar<|Ae rfl<|Ab (FV.addI (i:=b0) (j:=1) rfl rfl (by omega))<|Ag rfl<|Aa ?_
 obtain ⟨A1,U0⟩:=AH z1 (.one (.tl .hd) .done)
 have v2:=AN K1 U0
 have B2:=Tt R0 (Tt E1 U0)
 exact B0 (u3,b0 + 1,C3,z3,s1) _ _ ⟨rfl,rfl,rfl,rfl,rfl,trivial⟩ ⟨A1,(Tt G0 B2),v2⟩ h
 refine AY (Ai rfl)<|AY (FV.gtr (i:=k0) (j:=0) rfl rfl)<|RG.pf rfl rfl<|Aa<|AQ rfl h (fun g1 h=>?_) (fun g1 h=>?_)
 refine Aq<|Ak<|Az<|Ak<|Ac<|Ae rfl<|Ae rfl<|Ab (Bb (xs:=a0) Tryz.underlying45 rfl u0)<|Ab (FV.lss (i:=b0) (j:=((a0.length:Nat):Int)) rfl rfl)<|Aa<|MX.cond_kf rfl (decide_eq_false y0)<|Aq<|Ak<|Ac<|Ae rfl<|Ae rfl<|Ab (Bb (xs:=a1) Tryz.underlying45 rfl v0)<|Ab (FV.lss (i:=b0) (j:=((a1.length:Nat):Int)) rfl rfl)<|Aa<|MX.cond_kf rfl (decide_eq_false A0)<|Aq<|Ac<|Ae rfl<|Ae rfl ?_
 obtain ⟨s0,V2,h⟩:=bi h
 refine Ab (FV.remc (i:=k0) (j:=4294967296) rfl rfl V2)<|Aj .plain rfl (AW (α:=Int) (xs:=([s0]:List Int)) (vs:=[vI s0]) (ds' :=[vI s0]) rfl j0 el45 rfl (e1 rfl) (by kernel_rfl) rfl) (fun j4 M3 E0 V0=>?_)
 have M1:=AG (cs:=[vI s0]) (xs:=(([s0]:List Int):List Int)) E0 L (Au (cs:=[vI s0]) (ds:=[]) rfl (AO _ _))
 obtain ⟨D3,p3,h⟩:=bi h
 have x2:=AN z0 V0
 refine RG.doesL .plain rfl (BJ (α:=Int) (ys:=([s0]:List Int)) p3 E0 (fun _ _=>(.tl .hd)) el45 rfl rfl x2 (Src.row (α:=Int) E0 .hd M1)) (fun A3 k4 ⟨u1,B1,F1,P1⟩=>?_)
 refine Ag rfl<|Aa<|Ar<|Ae rfl ?_
 obtain ⟨v3,W2,h⟩:=bi h
 refine Ab (FV.quoc (i:=k0) (j:=4294967296) rfl rfl W2)<|Ag rfl<|Aa<|AC<|Ar<|Ae rfl ?_
 obtain ⟨x3,X2,h⟩:=bi h
 refine Ab (BC (i:=b0) (j:=1) rfl rfl X2)<|Ag rfl<|Aa ?_
 obtain ⟨C1,W0⟩:=AH B1 (.one (.tl .hd) .done)
 have y2:=AN P1 W0
 have C2:=Tt V0 (Tt F1 W0)
 exact B0 (v3,x3,D3,A3,u1) _ _ ⟨rfl,rfl,rfl,rfl,rfl,trivial⟩ ⟨C1,(Tt G0 C2),y2⟩ h
 refine Be rfl ?_
 have h:=Y1 _ h
 try dsimp only at h
 refine Ac<|Ae rfl<|Ag rfl<|Aa<|Al rfl ?_
 have G2:=Bq (α:=Int) j0 .hd z0 hL
 have F0:=BD j0 .hd
 have V3:=BE j0 .hd
 have H2:=BF (α:=Int) (v:=c0) (xs:=d0) F0 L G2
 refine Bc hb0 Tryz.func189 rfl rfl ?_
 cases h
 exact ⟨F0.ag,fun w9 hw9=>⟨c0,rfl,F0.kd H2 hw9⟩⟩
def tb159_2:List (Nat × Nat × Nat):=[(0,1024,4),(1,2048,1024),(0,4096,4),(4,8192,4096),(0,16384,8),(16,32768,16384),(40,65536,40960),(66,131072,67584),(255,0,131088)]
def tb159_4:List (Nat × Nat × Nat):=[(0,16777216,4),(1,33554432,16777216),(0,67108864,4),(4,134217728,67108864),(0,268435456,8),(16,536870912,268435456),(40,1073741824,671088640),(66,2147483648,1107296256),(255,0,2147483664)]
def tb159_5:List (Nat × Nat × Nat):=[(0,4294967296,8),(1,8589934592,4294967296),(0,17179869184,8),(4,34359738368,17179869184),(0,68719476736,4),(16,137438953472,68719476736),(40,274877906944,171798691840),(66,549755813888,283467841536),(255,0,549755813904)]
theorem body189:bodyB Tryz.prog 189 = true:=by kernel_rfl
def wardmoteref01_Plus_p (n:Nat) (a0:TLong153) (a1:TLong153):Option TLong153:=
  (if (a0.fBelow == a1.fBelow) = true then (wardmoteref01_more_p n a0.fD a1.fD).bind fun b0=>(wardmoteref01_made_p n a0.fBelow b0).bind fun c0=>some c0 else (wardmoteref01_order_p n a0.fD a1.fD).bind fun d0=>(if 0 ≤ d0 then (wardmoteref01_less_p n a0.fD a1.fD).bind fun g0=>(wardmoteref01_made_p n a0.fBelow g0).bind fun j0=>some j0 else (wardmoteref01_less_p n a1.fD a0.fD).bind fun k0=>(wardmoteref01_made_p n a1.fBelow k0).bind fun p0=>some p0))
theorem wardmoteref01_Plus_c (n:Nat) (L:List Nat) (w:World) (hL:∀ b ∈ L,b < w.heap.size) (a0:TLong153) {v0_1:Value} (h0_1:Rep.R w L [v0_1] a0.fD) (a1:TLong153) {v1_1:Value} (h1_1:Rep.R w L [v1_1] a1.fD)  {r:TLong153} (h:wardmoteref01_Plus_p n a0 a1 = some r) :
    Calls Tryz.prog 159 #[.agg #[.bool a0.fBelow,v0_1],.agg #[.bool a1.fBelow,v1_1]] w (Gives w fun w' u=>∃ v0_1:Value,u = .agg #[.bool r.fBelow,v0_1]∧Rep.R w' L [v0_1] r.fD):=by
 unfold wardmoteref01_Plus_p at h
 have hS0:=Ax w
 refine AA Tryz.func159 rfl rfl rfl (fun _ cs0 hb0=>?_)
 refine Ac<|Aj .plain rfl (Aw hS0 rfl rfl) (fun k2 F1 M0 I1=>?_)
 refine Aj .plain rfl (Aw M0 rfl rfl) (fun p2 G1 P0 J1=>?_)
 refine Aj .plain rfl (Av [.bool false,vN] P0) (fun q2 H1 b0 K1=>?_)
 refine Aa<|Ak<|Ac<|Bg 0 rfl<|Bd rfl ((b0.memA (.tl (.tl .hd))) 0 _ rfl)<|Bg 0 rfl<|Bd rfl ((b0.memA (.tl .hd)) 0 _ rfl)<|Ab (FV.eqlB (a:=a0.fBelow) (b:=a1.fBelow) Tryz.underlying4 rfl rfl)<|Aa<|MX.ifb rfl h (fun J0 h=>?_) (fun J0 h=>?_)
 refine Ak<|AF 8 tb159_2 (by kernel_rfl) (by kernel_rfl) (by kernel_rfl) (fun c0 j0=>?_)
 refine Ah 0 1 c0 rfl j0 (fun _=>Bh 0 rfl) rfl<|AD 1 3 384 c0 rfl j0 (AK rfl ((b0.memA (.tl (.tl .hd))) 0 _ rfl)) rfl<|Ah 2 7 c0 rfl j0 (fun _=>Bh 1 rfl) rfl<|AD 3 15 448 c0 rfl j0 (AK rfl ((b0.memA (.tl (.tl .hd))) 1 _ rfl)) rfl<|Ah 4 31 c0 rfl j0 (fun _=>Bh 1 rfl) rfl<|AD 5 63 448 c0 rfl j0 (AK rfl ((b0.memA (.tl .hd)) 1 _ rfl)) rfl ?_
 obtain ⟨C1,u1,h⟩:=bi h
 refine Bi 6 127 c0 rfl .plain body189 rfl (e2 rfl rfl) (fun w9 hw9=>wardmoteref01_more_c n _ w9 (b0.hL hL hw9) a0.fD (b0.km h0_1 hw9) a1.fD (b0.km h1_1 hw9) u1) rfl (fun s2 Z1 Y0 ⟨W1,hu_,q1⟩=>?_)
 subst hu_
 obtain ⟨z0,M1⟩:=b0.agr Y0
 obtain ⟨F0,v1,h⟩:=bi h
 refine Bi 7 255 c0 rfl .plain body182 rfl (e2 rfl rfl) (fun w9 hw9=>wardmoteref01_made_c n _ w9 (z0.hL hL hw9) a0.fBelow C1 (Am q1 hw9) v1) rfl (fun t2 b2 Z0 ⟨v0,hu_,C0⟩=>?_)
 subst hu_
 obtain ⟨Q0,P1⟩:=z0.agr Z0
 refine Bt 8 511 c0 rfl rfl .plain (Ay (news:=[.bool F0.fBelow,v0]) Q0 .hd rfl rfl rfl rfl rfl rfl (o2 rfl (AI C0))) (fun u2 s0 V0=>?_)
 refine AE (doneD_ok c0 (by kernel_rfl))<|Al rfl<|Ao hb0 Tryz.func159 rfl (.cons (.many (cs:=[.bool F0.fBelow,v0]) (by kernel_rfl) rfl (s0.memA .hd)) .nil) rfl ?_
 cases h
 have j1:=Ap C0 V0
 exact ⟨s0.ag,fun w9 hw9=>⟨v0,rfl,s0.kd j1 hw9⟩⟩
 refine Aq<|Ak<|Ac<|Bg 1 rfl<|Bd rfl ((b0.memA (.tl (.tl .hd))) 1 _ rfl)<|Bg 1 rfl<|Bd rfl ((b0.memA (.tl .hd)) 1 _ rfl) ?_
 obtain ⟨G0,x1,h⟩:=bi h
 refine Bf (vI G0) body187 rfl (e2 rfl rfl) (fun w9 hw9=>wardmoteref01_order_c n _ w9 (b0.hL0 hL hw9) a0.fD (b0.k0 h0_1 hw9) a1.fD (b0.k0 h1_1 hw9) x1) rfl<|Ab (FV.geq (i:=G0) (j:=0) rfl rfl)<|Aa<|AQ rfl h (fun K0 h=>?_) (fun K0 h=>?_)
 refine Ak<|AF 8 tb159_4 (by kernel_rfl) (by kernel_rfl) (by kernel_rfl) (fun d0 p0=>?_)
 refine Ah 0 1 d0 rfl p0 (fun _=>Bh 0 rfl) rfl<|AD 1 3 384 d0 rfl p0 (AK rfl ((b0.memA (.tl (.tl .hd))) 0 _ rfl)) rfl<|Ah 2 7 d0 rfl p0 (fun _=>Bh 1 rfl) rfl<|AD 3 15 448 d0 rfl p0 (AK rfl ((b0.memA (.tl (.tl .hd))) 1 _ rfl)) rfl<|Ah 4 31 d0 rfl p0 (fun _=>Bh 1 rfl) rfl<|AD 5 63 448 d0 rfl p0 (AK rfl ((b0.memA (.tl .hd)) 1 _ rfl)) rfl ?_
 obtain ⟨D1,y1,h⟩:=bi h
 refine Bi 6 127 d0 rfl .plain body183 rfl (e2 rfl rfl) (fun w9 hw9=>wardmoteref01_less_c n _ w9 (b0.hL hL hw9) a0.fD (b0.km h0_1 hw9) a1.fD (b0.km h1_1 hw9) y1) rfl (fun v2 c2 b1 ⟨X1,hu_,s1⟩=>?_)
 subst hu_
 obtain ⟨A0,Q1⟩:=b0.agr b1
 obtain ⟨H0,z1,h⟩:=bi h
 refine Bi 7 255 d0 rfl .plain body182 rfl (e2 rfl rfl) (fun w9 hw9=>wardmoteref01_made_c n _ w9 (A0.hL hL hw9) a0.fBelow D1 (Am s1 hw9) z1) rfl (fun x2 d2 c1 ⟨x0,hu_,D0⟩=>?_)
 subst hu_
 obtain ⟨R0,R1⟩:=A0.agr c1
 refine Bt 8 511 d0 rfl rfl .plain (Ay (news:=[.bool H0.fBelow,x0]) R0 .hd rfl rfl rfl rfl rfl rfl (o2 rfl (AI D0))) (fun y2 t0 W0=>?_)
 refine AE (doneD_ok d0 (by kernel_rfl))<|Al rfl<|Ao hb0 Tryz.func159 rfl (.cons (.many (cs:=[.bool H0.fBelow,x0]) (by kernel_rfl) rfl (t0.memA .hd)) .nil) rfl ?_
 cases h
 have k1:=Ap D0 W0
 exact ⟨t0.ag,fun w9 hw9=>⟨x0,rfl,t0.kd k1 hw9⟩⟩
 refine Aq<|Ak<|AF 8 tb159_5 (by kernel_rfl) (by kernel_rfl) (by kernel_rfl) (fun g0 q0=>?_)
 refine Ah 0 1 g0 rfl q0 (fun _=>Bh 0 rfl) rfl<|AD 1 3 384 g0 rfl q0 (AK rfl ((b0.memA (.tl .hd)) 0 _ rfl)) rfl<|Ah 2 7 g0 rfl q0 (fun _=>Bh 1 rfl) rfl<|AD 3 15 448 g0 rfl q0 (AK rfl ((b0.memA (.tl .hd)) 1 _ rfl)) rfl<|Ah 4 31 g0 rfl q0 (fun _=>Bh 1 rfl) rfl<|AD 5 63 448 g0 rfl q0 (AK rfl ((b0.memA (.tl (.tl .hd))) 1 _ rfl)) rfl ?_
 obtain ⟨E1,A1,h⟩:=bi h
 refine Bi 6 127 g0 rfl .plain body183 rfl (e2 rfl rfl) (fun w9 hw9=>wardmoteref01_less_c n _ w9 (b0.hL hL hw9) a1.fD (b0.km h1_1 hw9) a0.fD (b0.km h0_1 hw9) A1) rfl (fun z2 g2 d1 ⟨Y1,hu_,t1⟩=>?_)
 subst hu_
 obtain ⟨B0,U1⟩:=b0.agr d1
 obtain ⟨I0,B1,h⟩:=bi h
 refine Bi 7 255 g0 rfl .plain body182 rfl (e2 rfl rfl) (fun w9 hw9=>wardmoteref01_made_c n _ w9 (B0.hL hL hw9) a1.fBelow E1 (Am t1 hw9) B1) rfl (fun A2 j2 g1 ⟨y0,hu_,E0⟩=>?_)
 subst hu_
 obtain ⟨U0,V1⟩:=B0.agr g1
 refine Bt 8 511 g0 rfl rfl .plain (Ay (news:=[.bool I0.fBelow,y0]) U0 .hd rfl rfl rfl rfl rfl rfl (o2 rfl (AI E0))) (fun B2 u0 X0=>?_)
 refine AE (doneD_ok g0 (by kernel_rfl))<|Al rfl<|Ao hb0 Tryz.func159 rfl (.cons (.many (cs:=[.bool I0.fBelow,y0]) (by kernel_rfl) rfl (u0.memA .hd)) .nil) rfl ?_
 cases h
 have p1:=Ap E0 X0
 exact ⟨u0.ag,fun w9 hw9=>⟨y0,rfl,u0.kd p1 hw9⟩⟩
def wardmoteref01_Long1_p (n:Nat) (a0:Int):Option TLong153:=
  jn (fun u16=>(wardmoteref01_made_p n (decide (a0 < 0)) ([i64of (u16 % (4294967296:UInt64)),i64of (u16 / (4294967296:UInt64))]:List Int)).bind fun c0=>some c0) (fun b0=>(if a0 < 0 then b0 (-(u64of a0)) else b0 (u64of a0)))
theorem wardmoteref01_Long1_c (n:Nat) (L:List Nat) (w:World) (hL:∀ b ∈ L,b < w.heap.size) (a0:Int)  {r:TLong153} (h:wardmoteref01_Long1_p n a0 = some r) :
    Calls Tryz.prog 177 #[vI a0] w (Gives w fun w' u=>∃ v0_1:Value,u = .agg #[.bool r.fBelow,v0_1]∧Rep.R w' L [v0_1] r.fD):=by
 unfold wardmoteref01_Long1_p at h
 have hS0:=Ax w
 refine AA Tryz.func177 rfl rfl rfl (fun _ cs0 hb0=>?_)
 refine Ac<|Aj .plain rfl (Av [.bool false,vN] hS0) (fun G0 b0 q0 I0=>?_)
 refine Aa<|Ac<|Ae rfl<|Ab (FV.lss (i:=a0) (j:=0) rfl rfl)<|Ag rfl<|Aa<|Ac<|Ae rfl<|Ab (FV.convU (i:=a0) Tryz.underlying3 Tryz.underlying33 rfl)<|Ag rfl<|Aa<|Ak<|Ac<|Ae rfl<|Aa<|MX.join (α:=UInt64) (fun u16=>[(2,vP b0),(3,.bool (decide (a0 < 0))),(4,vU u16)]) (fun u16 k0=>St w k0 [.cells b0 [.bool false,vN] 154]∧Tr G0 [.cells b0 [.bool false,vN] 154] k0 [.cells b0 [.bool false,vN] 154]) (fun u16=>u16) h ?_ ?_
 rintro u16 k0 ⟨x0,J0⟩ h
 try dsimp only at h
 refine Ac<|Ae rfl<|Ae rfl<|Ab (FV.remU (a:=u16) (b:=(4294967296:UInt64)) rfl rfl (by decide))<|Ab (FV.convUI (a:=u16 % (4294967296:UInt64)) Tryz.underlying33 Tryz.underlying3 rfl)<|Ae rfl<|Ab (FV.quoU (a:=u16) (b:=(4294967296:UInt64)) rfl rfl (by decide))<|Ab (FV.convUI (a:=u16 / (4294967296:UInt64)) Tryz.underlying33 Tryz.underlying3 rfl)<|Aj .plain rfl (AW (α:=Int) (xs:=([i64of (u16 % (4294967296:UInt64)),i64of (u16 / (4294967296:UInt64))]:List Int)) (vs:=[vI (i64of (u16 % (4294967296:UInt64))),vI (i64of (u16 / (4294967296:UInt64)))]) (ds' :=[vI (i64of (u16 % (4294967296:UInt64))),vI (i64of (u16 / (4294967296:UInt64)))]) rfl x0 el45 rfl (e2 rfl rfl) (by kernel_rfl) rfl) (fun R0 u0 c0 K0=>?_)
 have B0:=AG (cs:=[vI (i64of (u16 % (4294967296:UInt64))),vI (i64of (u16 / (4294967296:UInt64)))]) (xs:=(([i64of (u16 % (4294967296:UInt64)),i64of (u16 / (4294967296:UInt64))]:List Int):List Int)) c0 L (Au (cs:=[vI (i64of (u16 % (4294967296:UInt64)))]) (ds:=[vI (i64of (u16 / (4294967296:UInt64)))]) rfl (Au (cs:=[vI (i64of (u16 / (4294967296:UInt64)))]) (ds:=[]) rfl (AO _ _)))
 have D0:=Bq (α:=Int) c0 .hd B0 hL
 have d0:=BD c0 .hd
 have M0:=BE c0 .hd
 have E0:=BF (α:=Int) (v:=(vS u0 2)) (xs:=([i64of (u16 % (4294967296:UInt64)),i64of (u16 / (4294967296:UInt64))]:List Int)) d0 L D0
 obtain ⟨t0,F0,h⟩:=bi h
 refine AX (fst:=[]) (cap:=[]) .plain body182 rfl (e2 rfl rfl) (fun w9 hw9=>wardmoteref01_made_c n _ w9 (d0.hL hL hw9) (decide (a0 < 0)) ([i64of (u16 % (4294967296:UInt64)),i64of (u16 / (4294967296:UInt64))]:List Int) (Am E0 hw9) F0) rfl (fun U0 Q0 A0 ⟨j0,hu_,s0⟩=>?_)
 subst hu_
 obtain ⟨y0,P0⟩:=d0.agr A0
 refine AL [.bool t0.fBelow,j0] y0 .hd (o2 rfl (AI s0)) (fun V0 g0 z0=>?_)
 refine Aa<|Al rfl<|Ao hb0 Tryz.func177 rfl (.cons (.many (cs:=[.bool t0.fBelow,j0]) (by kernel_rfl) rfl (g0.memA .hd)) .nil) rfl ?_
 cases h
 have C0:=Ap s0 z0
 exact ⟨g0.ag,fun w9 hw9=>⟨j0,rfl,g0.kd C0 hw9⟩⟩
 intro H0 p0 h
 try dsimp only at h
 refine AQ rfl h (fun v0 h=>?_) (fun v0 h=>?_)
 refine Ar<|Ae rfl<|Ab (FV.negU (a:=u64of a0) rfl)<|Ag rfl<|Aa ?_
 exact p0 (-(u64of a0)) _ _ ⟨rfl,rfl,rfl,trivial⟩ ⟨q0,AP _ _⟩ h
 refine Aq ?_
 exact p0 (u64of a0) _ _ ⟨rfl,rfl,rfl,trivial⟩ ⟨q0,AP _ _⟩ h
def tb186_1:List (Nat × Nat × Nat):=[(0,32,4),(0,64,8),(2,128,64),(5,256,160),(15,0,272)]
theorem body156:bodyB Tryz.prog 156 = true:=by kernel_rfl
theorem body159:bodyB Tryz.prog 159 = true:=by kernel_rfl
def wardmoteref01_Minus_p (n:Nat) (a0:TLong153) (a1:TLong153):Option TLong153:=
  (wardmoteref01_Turn_p n a1).bind fun b0=>(wardmoteref01_Plus_p n a0 b0).bind fun c0=>some c0
theorem wardmoteref01_Minus_c (n:Nat) (L:List Nat) (w:World) (hL:∀ b ∈ L,b < w.heap.size) (a0:TLong153) {v0_1:Value} (h0_1:Rep.R w L [v0_1] a0.fD) (a1:TLong153) {v1_1:Value} (h1_1:Rep.R w L [v1_1] a1.fD)  {r:TLong153} (h:wardmoteref01_Minus_p n a0 a1 = some r) :
    Calls Tryz.prog 186 #[.agg #[.bool a0.fBelow,v0_1],.agg #[.bool a1.fBelow,v1_1]] w (Gives w fun w' u=>∃ v0_1:Value,u = .agg #[.bool r.fBelow,v0_1]∧Rep.R w' L [v0_1] r.fD):=by
 unfold wardmoteref01_Minus_p at h
 have hS0:=Ax w
 refine AA Tryz.func186 rfl rfl rfl (fun _ cs0 hb0=>?_)
 refine Ac<|Aj .plain rfl (Aw hS0 rfl rfl) (fun U0 E0 s0 H0=>?_)
 refine Aj .plain rfl (Aw s0 rfl rfl) (fun V0 F0 t0 I0=>?_)
 refine Aj .plain rfl (Av [.bool false,vN] t0) (fun W0 G0 c0 J0=>?_)
 refine Aa<|Ak<|AF 4 tb186_1 (by kernel_rfl) (by kernel_rfl) (by kernel_rfl) (fun b0 p0=>?_)
 refine AD 0 1 24 b0 rfl p0 (AB rfl (c0.memA (.tl (.tl .hd)))) rfl<|AD 1 3 28 b0 rfl p0 (AB rfl (c0.memA (.tl .hd))) rfl ?_
 obtain ⟨D0,B0,h⟩:=bi h
 refine Bi 2 7 b0 rfl .plain body156 rfl (e1 rfl) (fun w9 hw9=>wardmoteref01_Turn_c n _ w9 (c0.hL hL hw9) a1 (c0.km h1_1 hw9) B0) rfl (fun X0 Q0 x0 ⟨P0,hu_,A0⟩=>?_)
 subst hu_
 obtain ⟨d0,K0⟩:=c0.agr x0
 obtain ⟨q0,C0,h⟩:=bi h
 refine Bi 3 15 b0 rfl .plain body159 rfl (e2 rfl rfl) (fun w9 hw9=>wardmoteref01_Plus_c n _ w9 (d0.hL hL hw9) a0 (d0.km h0_1 hw9) D0 (Am A0 hw9) C0) rfl (fun Y0 R0 y0 ⟨j0,hu_,k0⟩=>?_)
 subst hu_
 obtain ⟨u0,M0⟩:=d0.agr y0
 refine Bt 4 31 b0 rfl rfl .plain (Ay (news:=[.bool q0.fBelow,j0]) u0 .hd rfl rfl rfl rfl rfl rfl (o2 rfl (AI k0))) (fun Z0 g0 v0=>?_)
 refine AE (doneD_ok b0 (by kernel_rfl))<|Al rfl<|Ao hb0 Tryz.func186 rfl (.cons (.many (cs:=[.bool q0.fBelow,j0]) (by kernel_rfl) rfl (g0.memA .hd)) .nil) rfl ?_
 cases h
 have z0:=Ap k0 v0
 exact ⟨g0.ag,fun w9 hw9=>⟨j0,rfl,g0.kd z0 hw9⟩⟩
def tb188_2:List (Nat × Nat × Nat):=[(0,262144,4),(1,524288,262144),(0,1048576,8),(4,2097152,1048576),(10,4194304,2621440),(0,8388608,64),(48,16777216,12582912),(0,33554432,4),(128,67108864,33554432),(0,134217728,128),(832,268435456,201326592),(0,256,0),(0,512,0),(7295,0,16777472),(16383,0,268435968)]
def tb188_6:List (Nat × Nat × Nat):=[(0,274877906944,256),(0,549755813888,0),(3,1099511627776,824633720832),(7,0,1099511628032)]
def tb188_8:List (Nat × Nat × Nat):=[(0,17592186044416,256),(0,35184372088832,512),(1,0,17592186044432),(7,0,35184372088864)]
def tb188_7:List (Nat × Nat × Nat):=[(0,2199023255552,256),(0,4398046511104,0),(3,8796093022208,6597069766656),(7,0,8796093022464)]
theorem body177:bodyB Tryz.prog 177 = true:=by kernel_rfl
theorem body186:bodyB Tryz.prog 186 = true:=by kernel_rfl
def wardmoteref01_Parts_p (n:Nat) (a0:TLong153) (a1:TLong153):Option (TLong153 × TLong153):=
  (wardmoteref01_parts_p n a0.fD a1.fD).bind fun g0=>(wardmoteref01_made_p n (!(a0.fBelow == a1.fBelow)) g0.1).bind fun b0=>(wardmoteref01_made_p n a0.fBelow g0.2).bind fun c0=>(if c0.fBelow = true then (wardmoteref01_Plus_p n c0 (⟨false,a1.fD⟩:TLong153)).bind fun d0=>(if a1.fBelow = true then (wardmoteref01_Long1_p n (1:Int)).bind fun j0=>(wardmoteref01_Plus_p n b0 j0).bind fun k0=>some (k0,d0) else (wardmoteref01_Long1_p n (1:Int)).bind fun p0=>(wardmoteref01_Minus_p n b0 p0).bind fun q0=>some (q0,d0)) else some (b0,c0))
theorem wardmoteref01_Parts_c (n:Nat) (L:List Nat) (w:World) (hL:∀ b ∈ L,b < w.heap.size) (a0:TLong153) {v0_1:Value} (h0_1:Rep.R w L [v0_1] a0.fD) (a1:TLong153) {v1_1:Value} (h1_1:Rep.R w L [v1_1] a1.fD)  {r:TLong153 × TLong153} (h:wardmoteref01_Parts_p n a0 a1 = some r) :
    Calls Tryz.prog 188 #[.agg #[.bool a0.fBelow,v0_1],.agg #[.bool a1.fBelow,v1_1]] w (Gives w fun w' u=>∃ v0_1 v1_1:Value,u = .tuple #[.agg #[.bool r.1.fBelow,v0_1],.agg #[.bool r.2.fBelow,v1_1]]∧Rep.R w' L [v0_1] r.1.fD∧Rep.R w' L [v1_1] r.2.fD):=by
 unfold wardmoteref01_Parts_p at h
 have hS0:=Ax w
 refine AA Tryz.func188 rfl rfl rfl (fun _ cs0 hb0=>?_)
 refine Ac<|Aj .plain rfl (Aw hS0 rfl rfl) (fun K7 U3 X3 s7=>?_)
 refine Aj .plain rfl (Aw X3 rfl rfl) (fun M7 Y0 Y3 t7=>?_)
 refine Aj .plain rfl (Av [.bool false,vN] Y3) (fun W7 q0 g4 v7=>?_)
 refine Aj .plain rfl (Av [.bool false,vN] g4) (fun X7 s0 F1 x7=>?_)
 refine Aa<|Ac<|Bg 1 rfl<|Ab (AK rfl ((F1.memA (.tl (.tl (.tl .hd)))) 1 _ rfl))<|Bg 1 rfl<|Bd rfl ((F1.memA (.tl (.tl .hd))) 1 _ rfl) ?_
 obtain ⟨t0,Q6,h⟩:=bi h
 refine AX (fst:=[]) (cap:=[]) .plain body185 rfl (e2 rfl rfl) (fun w9 hw9=>wardmoteref01_parts_c n _ w9 (F1.hL hL hw9) a0.fD (F1.km h0_1 hw9) a1.fD (F1.km h1_1 hw9) Q6) rfl (fun b7 I7 j5 ⟨B7,C7,hu_,U1,G0⟩=>?_)
 subst hu_
 obtain ⟨z1,y7⟩:=F1.agr j5
 refine Ae rfl<|Ab (Af rfl rfl)<|Ab (Af rfl rfl)<|Ag rfl<|Ag rfl<|Aa<|Ak<|AF 13 tb188_2 (by kernel_rfl) (by kernel_rfl) (by kernel_rfl) (fun b0 d1=>?_)
 refine Ah 0 1 b0 rfl d1 (fun _=>Bh 0 rfl) rfl<|AD 1 3 25680 b0 rfl d1 (AK rfl ((z1.memA (.tl (.tl (.tl .hd)))) 0 _ rfl)) rfl<|Ah 2 7 b0 rfl d1 (fun _=>Bh 0 rfl) rfl<|AD 3 15 25680 b0 rfl d1 (AK rfl ((z1.memA (.tl (.tl .hd))) 0 _ rfl)) rfl<|Ah 4 31 b0 rfl d1 (fun _=>FV.neqB (a:=a0.fBelow) (b:=a1.fBelow) Tryz.underlying4 rfl rfl) rfl<|Ah 5 63 b0 rfl d1 (fun _=>Ai rfl) rfl<|Ah 7 191 b0 rfl d1 (fun _=>Bh 0 rfl) rfl<|AD 8 447 25600 b0 rfl d1 (AK rfl ((z1.memA (.tl (.tl (.tl .hd)))) 0 _ rfl)) rfl<|Ah 9 959 b0 rfl d1 (fun _=>Ai rfl) rfl ?_
 obtain ⟨M0,V1,h⟩:=bi h
 obtain ⟨x1,I0,h⟩:=bi h
 refine RD.meet (α:=Value × Value × Nat × Nat) (fun ⟨A0,W0,P0,Q0⟩=>[(3,vP Y0),(4,vP q0),(5,vP s0),(24,.agg #[.bool M0.fBelow,A0]),(28,.agg #[.bool x1.fBelow,W0]),(8,vP Q0),(9,vP P0)]) (fun ⟨A0,W0,P0,Q0⟩ b2=>St w b2 [.cells P0 [.bool false,vN] 154,.cells Q0 [.bool false,vN] 154,.cells s0 [.bool false,vN] 154,.cells q0 [.bool false,vN] 154,.cells Y0 [.bool a1.fBelow,v1_1] 154]∧Tr b7 [.cells s0 [.bool false,vN] 154,.cells q0 [.bool false,vN] 154,.cells Y0 [.bool a1.fBelow,v1_1] 154,.cells U3 [.bool a0.fBelow,v0_1] 154] b2 [.cells P0 [.bool false,vN] 154,.cells Q0 [.bool false,vN] 154,.cells s0 [.bool false,vN] 154,.cells q0 [.bool false,vN] 154,.cells Y0 [.bool a1.fBelow,v1_1] 154]∧Rep.R b2 (bl [.cells P0 [.bool false,vN] 154,.cells Q0 [.bool false,vN] 154,.cells s0 [.bool false,vN] 154,.cells q0 [.bool false,vN] 154,.cells Y0 [.bool a1.fBelow,v1_1] 154] ++ L) [A0] M0.fD∧Rep.R b2 (bl [.cells P0 [.bool false,vN] 154,.cells Q0 [.bool false,vN] 154,.cells s0 [.bool false,vN] 154,.cells q0 [.bool false,vN] 154,.cells Y0 [.bool a1.fBelow,v1_1] 154] ++ L) [W0] x1.fD) 2 8191 ?_ ?_
 rintro ⟨A0,W0,P0,Q0⟩ b2 ⟨Z3,u7,I1,t2⟩
 try dsimp only
 refine Bt 13 16383 b0 rfl rfl .plain (Ay (news:=[.bool M0.fBelow,A0]) Z3 (.tl .hd) rfl rfl rfl rfl rfl rfl (o2 rfl (AI I1))) (fun P7 b4 A1=>?_)
 have p5:=Ap t2 A1
 refine Bt 14 32767 b0 rfl rfl .plain (Ay (news:=[.bool x1.fBelow,W0]) b4 .hd rfl rfl rfl rfl rfl rfl (o2 rfl (AI p5))) (fun X6 B0 G1=>?_)
 refine AE (doneD_ok b0 (by kernel_rfl))<|Ak<|Ac<|Bg 0 rfl<|Bd rfl ((B0.memA .hd) 0 _ rfl)<|Aa<|MX.ifb rfl h (fun V3 h=>?_) (fun V3 h=>?_)
 refine Ac<|Ab (AB rfl (B0.memA .hd))<|Bg 1 rfl<|Ab (AK rfl ((B0.memA (.tl (.tl (.tl (.tl .hd))))) 1 _ rfl)) ?_
 have q5:=AM h1_1 B0
 obtain ⟨p7,q7,J6,_⟩:=Rep.sl q5
 refine Ab (AS (vs:=[v1_1]) (u:=.agg #[.bool false,v1_1]) (e1 rfl) (fun w9=>by rw [J6]; try kernel_rfl)) ?_
 obtain ⟨j1,K6,h⟩:=bi h
 have s5:=Ap t2 (Tt A1 G1)
 refine AX (fst:=[]) (cap:=[]) .plain body159 rfl (e2 rfl rfl) (fun w9 hw9=>wardmoteref01_Plus_c n _ w9 (B0.hL hL hw9) x1 (Am s5 hw9) (⟨false,a1.fD⟩:TLong153) (B0.km h1_1 hw9) K6) rfl (fun Q7 D7 Z4 ⟨J0,hu_,R1⟩=>?_)
 subst hu_
 obtain ⟨c4,Z2⟩:=B0.agr Z4
 refine AL [.bool j1.fBelow,J0] c4 .hd (o2 rfl (AI R1)) (fun R7 y1 H1=>?_)
 refine Aa<|Ac<|Bg 0 rfl<|Ab (AK rfl ((y1.memA (.tl (.tl (.tl (.tl .hd))))) 0 _ rfl))<|Aa<|MX.ifb rfl h (fun W3 h=>?_) (fun W3 h=>?_)
 refine AF 3 tb188_6 (by kernel_rfl) (by kernel_rfl) (by kernel_rfl) (fun W1 V6=>?_)
 refine AD 0 1 12 W1 rfl V6 (AB rfl (y1.memA (.tl .hd))) rfl ?_
 obtain ⟨j7,M6,h⟩:=bi h
 refine Bi 1 3 W1 rfl .plain body177 rfl (e1 rfl) (fun w9 hw9=>wardmoteref01_Long1_c n _ w9 (y1.hL hL hw9) (1:Int) M6) rfl (fun U7 E7 b5 ⟨z7,hu_,H6⟩=>?_)
 subst hu_
 obtain ⟨X2,z2⟩:=y1.agr b5
 obtain ⟨D1,P6,h⟩:=bi h
 have s6:=Tt A1 (Tt G1 (Tt Z2 (Tt H1 z2)))
 have t5:=Ap I1 s6
 refine Bi 2 7 W1 rfl .plain body159 rfl (e2 rfl rfl) (fun w9 hw9=>wardmoteref01_Plus_c n _ w9 (X2.hL hL hw9) M0 (Am t5 hw9) j7 (Am H6 hw9) P6) rfl (fun V7 F7 c5 ⟨s1,hu_,u2⟩=>?_)
 subst hu_
 obtain ⟨d4,b3⟩:=X2.agr c5
 refine Bt 3 15 W1 rfl rfl .plain (Ay (news:=[.bool D1.fBelow,s1]) d4 (.tl .hd) rfl rfl rfl rfl rfl rfl (o2 rfl (AI u2))) (fun Y6 c2 q2=>?_)
 refine AE (doneD_ok W1 (by kernel_rfl))<|Ak<|AF 2 tb188_8 (by kernel_rfl) (by kernel_rfl) (by kernel_rfl) (fun k1 P3=>?_)
 refine AD 0 1 12 k1 rfl P3 (AB rfl (c2.memA (.tl .hd))) rfl<|RD.meet (α:=Unit) (fun ()=>[(4,vP q0),(5,vP s0),(45,.agg #[.bool j1.fBelow,J0])]) (fun () P2=>St w P2 [.cells s0 [.bool false,vN] 154,.cells q0 [.bool D1.fBelow,s1] 154]∧Tr Y6 [.cells P0 [.bool j1.fBelow,J0] 154,.cells Q0 [.bool D1.fBelow,s1] 154,.cells s0 [.bool false,vN] 154,.cells q0 [.bool false,vN] 154,.cells Y0 [.bool a1.fBelow,v1_1] 154] P2 [.cells s0 [.bool false,vN] 154,.cells q0 [.bool D1.fBelow,s1] 154]) 1 7 ?_ ?_
 rintro ⟨⟩ P2 ⟨j4,c3⟩
 try dsimp only
 have t6:=Tt H1 (Tt z2 (Tt b3 (Tt q2 c3)))
 have u5:=Ap R1 t6
 refine Bt 3 15 k1 rfl rfl .plain (Ay (news:=[.bool j1.fBelow,J0]) j4 .hd rfl rfl rfl rfl rfl rfl (o2 rfl (AI u5))) (fun Y7 M1 M4=>?_)
 refine AE (doneD_ok k1 (by kernel_rfl))<|Al rfl<|Ao hb0 Tryz.func188 rfl (.cons (.many (cs:=[.bool D1.fBelow,s1]) (by kernel_rfl) rfl (M1.memA (.tl .hd))) (.cons (.many (cs:=[.bool j1.fBelow,J0]) (by kernel_rfl) rfl (M1.memA .hd)) .nil)) rfl ?_
 cases h
 have A3:=Tt q2 (Tt c3 M4)
 have v5:=Ap u2 A3
 have u6:=Tt H1 (Tt z2 (Tt b3 A3))
 have x5:=Ap R1 u6
 exact ⟨M1.ag,fun w9 hw9=>⟨s1,J0,rfl,M1.kd v5 hw9,M1.kd x5 hw9⟩⟩
 intro U2
 refine RD.each [1,2] (readyD_ok k1 (by kernel_rfl)) ⟨?_,?_,trivial⟩
 refine RO.val (m' :=3) (stepC_ok k1 (by kernel_rfl)) rfl .plain rfl (AB rfl (c2.memA .hd)) ?_
 have G2:=Ap u2 q2
 refine Bt 2 7 k1 rfl rfl .plain (Ay (news:=[.bool D1.fBelow,s1]) c2 (.tl (.tl (.tl .hd))) rfl rfl rfl rfl rfl rfl (o2 rfl (AI G2))) (fun Z6 d2 A2=>?_)
 obtain ⟨k4,P4⟩:=AH d2 (.one (.tl (.tl .hd)) (.one (.tl (.tl .hd)) .done))
 exact U2 () _ _ ⟨rfl,rfl,rfl,trivial⟩ ⟨k4,(Tt A2 P4)⟩
 have G2:=Ap u2 q2
 refine RO.now (m' :=5) (stepC_ok k1 (by kernel_rfl)) rfl rfl .plain (Ay (news:=[.bool D1.fBelow,s1]) c2 (.tl (.tl (.tl .hd))) rfl rfl rfl rfl rfl rfl (o2 rfl (AI G2))) (fun Z6 d2 A2=>?_)
 refine AD 1 7 8 k1 rfl P3 (AB rfl (d2.memA .hd)) rfl ?_
 obtain ⟨p4,Q4⟩:=AH d2 (.one (.tl (.tl .hd)) (.one (.tl (.tl .hd)) .done))
 exact U2 () _ _ ⟨rfl,rfl,rfl,trivial⟩ ⟨p4,(Tt A2 Q4)⟩
 refine AF 3 tb188_7 (by kernel_rfl) (by kernel_rfl) (by kernel_rfl) (fun X1 W6=>?_)
 refine AD 0 1 12 X1 rfl W6 (AB rfl (y1.memA (.tl .hd))) rfl ?_
 obtain ⟨k7,R6,h⟩:=bi h
 refine Bi 1 3 X1 rfl .plain body177 rfl (e1 rfl) (fun w9 hw9=>wardmoteref01_Long1_c n _ w9 (y1.hL hL hw9) (1:Int) R6) rfl (fun Z7 G7 d5 ⟨A7,hu_,I6⟩=>?_)
 subst hu_
 obtain ⟨Y2,B2⟩:=y1.agr d5
 obtain ⟨E1,U6,h⟩:=bi h
 have v6:=Tt A1 (Tt G1 (Tt Z2 (Tt H1 B2)))
 have y5:=Ap I1 v6
 refine Bi 2 7 X1 rfl .plain body186 rfl (e2 rfl rfl) (fun w9 hw9=>wardmoteref01_Minus_c n _ w9 (Y2.hL hL hw9) M0 (Am y5 hw9) k7 (Am I6 hw9) U6) rfl (fun b8 H7 g5 ⟨t1,hu_,v2⟩=>?_)
 subst hu_
 obtain ⟨q4,d3⟩:=Y2.agr g5
 refine Bt 3 15 X1 rfl rfl .plain (Ay (news:=[.bool E1.fBelow,t1]) q4 (.tl .hd) rfl rfl rfl rfl rfl rfl (o2 rfl (AI v2))) (fun c7 g2 s2=>?_)
 refine AE (doneD_ok X1 (by kernel_rfl))<|Ak<|AF 2 tb188_8 (by kernel_rfl) (by kernel_rfl) (by kernel_rfl) (fun p1 Q3=>?_)
 refine AD 0 1 12 p1 rfl Q3 (AB rfl (g2.memA (.tl .hd))) rfl<|RD.meet (α:=Unit) (fun ()=>[(4,vP q0),(5,vP s0),(45,.agg #[.bool j1.fBelow,J0])]) (fun () Q2=>St w Q2 [.cells s0 [.bool false,vN] 154,.cells q0 [.bool E1.fBelow,t1] 154]∧Tr c7 [.cells P0 [.bool j1.fBelow,J0] 154,.cells Q0 [.bool E1.fBelow,t1] 154,.cells s0 [.bool false,vN] 154,.cells q0 [.bool false,vN] 154,.cells Y0 [.bool a1.fBelow,v1_1] 154] Q2 [.cells s0 [.bool false,vN] 154,.cells q0 [.bool E1.fBelow,t1] 154]) 1 7 ?_ ?_
 rintro ⟨⟩ Q2 ⟨s4,g3⟩
 try dsimp only
 have x6:=Tt H1 (Tt B2 (Tt d3 (Tt s2 g3)))
 have z5:=Ap R1 x6
 refine Bt 3 15 p1 rfl rfl .plain (Ay (news:=[.bool j1.fBelow,J0]) s4 .hd rfl rfl rfl rfl rfl rfl (o2 rfl (AI z5))) (fun d8 P1 R4=>?_)
 refine AE (doneD_ok p1 (by kernel_rfl))<|Al rfl<|Ao hb0 Tryz.func188 rfl (.cons (.many (cs:=[.bool E1.fBelow,t1]) (by kernel_rfl) rfl (P1.memA (.tl .hd))) (.cons (.many (cs:=[.bool j1.fBelow,J0]) (by kernel_rfl) rfl (P1.memA .hd)) .nil)) rfl ?_
 cases h
 have B3:=Tt s2 (Tt g3 R4)
 have A5:=Ap v2 B3
 have y6:=Tt H1 (Tt B2 (Tt d3 B3))
 have B5:=Ap R1 y6
 exact ⟨P1.ag,fun w9 hw9=>⟨t1,J0,rfl,P1.kd A5 hw9,P1.kd B5 hw9⟩⟩
 intro V2
 refine RD.each [1,2] (readyD_ok p1 (by kernel_rfl)) ⟨?_,?_,trivial⟩
 refine RO.val (m' :=3) (stepC_ok p1 (by kernel_rfl)) rfl .plain rfl (AB rfl (g2.memA .hd)) ?_
 have H2:=Ap v2 s2
 refine Bt 2 7 p1 rfl rfl .plain (Ay (news:=[.bool E1.fBelow,t1]) g2 (.tl (.tl (.tl .hd))) rfl rfl rfl rfl rfl rfl (o2 rfl (AI H2))) (fun d7 k2 C2=>?_)
 obtain ⟨t4,U4⟩:=AH k2 (.one (.tl (.tl .hd)) (.one (.tl (.tl .hd)) .done))
 exact V2 () _ _ ⟨rfl,rfl,rfl,trivial⟩ ⟨t4,(Tt C2 U4)⟩
 have H2:=Ap v2 s2
 refine RO.now (m' :=5) (stepC_ok p1 (by kernel_rfl)) rfl rfl .plain (Ay (news:=[.bool E1.fBelow,t1]) g2 (.tl (.tl (.tl .hd))) rfl rfl rfl rfl rfl rfl (o2 rfl (AI H2))) (fun d7 k2 C2=>?_)
 refine AD 1 7 8 p1 rfl Q3 (AB rfl (k2.memA .hd)) rfl ?_
 obtain ⟨u4,V4⟩:=AH k2 (.one (.tl (.tl .hd)) (.one (.tl (.tl .hd)) .done))
 exact V2 () _ _ ⟨rfl,rfl,rfl,trivial⟩ ⟨u4,(Tt C2 V4)⟩
 refine Aq<|Ak<|AF 2 tb188_8 (by kernel_rfl) (by kernel_rfl) (by kernel_rfl) (fun q1 R3=>?_)
 refine AD 0 1 12 q1 rfl R3 (AB rfl (B0.memA (.tl .hd))) rfl<|RD.meet (α:=Unit) (fun ()=>[(4,vP q0),(5,vP s0),(45,.agg #[.bool x1.fBelow,W0])]) (fun () R2=>St w R2 [.cells s0 [.bool false,vN] 154,.cells q0 [.bool M0.fBelow,A0] 154]∧Tr X6 [.cells P0 [.bool x1.fBelow,W0] 154,.cells Q0 [.bool M0.fBelow,A0] 154,.cells s0 [.bool false,vN] 154,.cells q0 [.bool false,vN] 154,.cells Y0 [.bool a1.fBelow,v1_1] 154] R2 [.cells s0 [.bool false,vN] 154,.cells q0 [.bool M0.fBelow,A0] 154]) 1 7 ?_ ?_
 rintro ⟨⟩ R2 ⟨v4,W4⟩
 try dsimp only
 have J2:=Tt A1 (Tt G1 W4)
 have C5:=Ap t2 J2
 refine Bt 3 15 q1 rfl rfl .plain (Ay (news:=[.bool x1.fBelow,W0]) v4 .hd rfl rfl rfl rfl rfl rfl (o2 rfl (AI C5))) (fun g8 Q1 j3=>?_)
 refine AE (doneD_ok q1 (by kernel_rfl))<|Al rfl<|Ao hb0 Tryz.func188 rfl (.cons (.many (cs:=[.bool M0.fBelow,A0]) (by kernel_rfl) rfl (Q1.memA (.tl .hd))) (.cons (.many (cs:=[.bool x1.fBelow,W0]) (by kernel_rfl) rfl (Q1.memA .hd)) .nil)) rfl ?_
 cases h
 have D5:=Ap I1 (Tt J2 j3)
 have E5:=Ap t2 (Tt J2 j3)
 exact ⟨Q1.ag,fun w9 hw9=>⟨A0,W0,rfl,Q1.kd D5 hw9,Q1.kd E5 hw9⟩⟩
 intro W2
 refine RD.each [1,2] (readyD_ok q1 (by kernel_rfl)) ⟨?_,?_,trivial⟩
 refine RO.val (m' :=3) (stepC_ok q1 (by kernel_rfl)) rfl .plain rfl (AB rfl (B0.memA .hd)) ?_
 have I2:=Ap I1 (Tt A1 G1)
 refine Bt 2 7 q1 rfl rfl .plain (Ay (news:=[.bool M0.fBelow,A0]) B0 (.tl (.tl (.tl .hd))) rfl rfl rfl rfl rfl rfl (o2 rfl (AI I2))) (fun g7 p2 D2=>?_)
 obtain ⟨x4,X4⟩:=AH p2 (.one (.tl (.tl .hd)) (.one (.tl (.tl .hd)) .done))
 exact W2 () _ _ ⟨rfl,rfl,rfl,trivial⟩ ⟨x4,(Tt D2 X4)⟩
 have I2:=Ap I1 (Tt A1 G1)
 refine RO.now (m' :=5) (stepC_ok q1 (by kernel_rfl)) rfl rfl .plain (Ay (news:=[.bool M0.fBelow,A0]) B0 (.tl (.tl (.tl .hd))) rfl rfl rfl rfl rfl rfl (o2 rfl (AI I2))) (fun g7 p2 D2=>?_)
 refine AD 1 7 8 q1 rfl R3 (AB rfl (p2.memA .hd)) rfl ?_
 obtain ⟨y4,Y4⟩:=AH p2 (.one (.tl (.tl .hd)) (.one (.tl (.tl .hd)) .done))
 exact W2 () _ _ ⟨rfl,rfl,rfl,trivial⟩ ⟨y4,(Tt D2 Y4)⟩
 intro z0
 refine RD.each [6,11,12] (readyD_ok b0 (by kernel_rfl)) ⟨?_,?_,?_,trivial⟩
 refine RO.call (m' :=1023) (fst:=[]) (cap:=[]) (stepC_ok b0 (by kernel_rfl)) rfl .plain body182 rfl (e2 rfl rfl) (fun w9 hw9=>wardmoteref01_made_c n _ w9 (z1.hL hL hw9) (!(a0.fBelow == a1.fBelow)) t0.1 (Am U1 hw9) V1) rfl (fun c8 J7 k5 ⟨K1,hu_,J1⟩=>?_)
 subst hu_
 obtain ⟨j2,D0⟩:=z1.agr k5
 refine RD.each [10,11,12] (readyD_ok b0 (by kernel_rfl)) ⟨?_,?_,?_,trivial⟩
 have b1:=Ap G0 D0
 refine RO.call (m' :=2047) (fst:=[]) (cap:=[]) (stepC_ok b0 (by kernel_rfl)) rfl .plain body182 rfl (e2 rfl rfl) (fun w9 hw9=>wardmoteref01_made_c n _ w9 (j2.hL hL hw9) a0.fBelow t0.2 (Am b1 hw9) I0) rfl (fun y2 x2 Z0 ⟨X0,hu_,V0⟩=>?_)
 subst hu_
 obtain ⟨R0,U0⟩:=j2.agr Z0
 refine RD.each [11,12] (readyD_ok b0 (by kernel_rfl)) ⟨?_,?_,trivial⟩
 refine RO.new (m' :=4095) (stepC_ok b0 (by kernel_rfl)) rfl .plain rfl (Av [.bool false,vN] R0) (fun v1 p0 j0 d0=>?_)
 refine RD.nu 12 8191 b0 rfl .plain rfl (Av [.bool false,vN] j0) (fun u1 k0 g0 c0=>?_)
 obtain ⟨z4,k3⟩:=AH g0 (.one .hd (.one .hd (.one .hd (.one .hd (.one .hd .done)))))
 have C3:=Tt U0 (Tt d0 (Tt c0 k3))
 have F5:=Ap J1 C3
 have z6:=Tt d0 (Tt c0 k3)
 have G5:=Ap V0 z6
 exact z0 (K1,X0,k0,p0) _ _ ⟨rfl,rfl,rfl,rfl,rfl,rfl,rfl,trivial⟩ ⟨z4,(Tt D0 C3),F5,G5⟩
 refine RO.new (m' :=6143) (stepC_ok b0 (by kernel_rfl)) rfl .plain rfl (Av [.bool false,vN] R0) (fun u1 k0 g0 c0=>?_)
 refine RD.nu 11 8191 b0 rfl .plain rfl (Av [.bool false,vN] g0) (fun v1 p0 j0 d0=>?_)
 obtain ⟨A4,p3⟩:=AH j0 (.one (.tl .hd) (.one .hd (.one .hd (.one .hd (.one .hd .done)))))
 have D3:=Tt U0 (Tt c0 (Tt d0 p3))
 have H5:=Ap J1 D3
 have A6:=Tt c0 (Tt d0 p3)
 have I5:=Ap V0 A6
 exact z0 (K1,X0,k0,p0) _ _ ⟨rfl,rfl,rfl,rfl,rfl,rfl,rfl,trivial⟩ ⟨A4,(Tt D0 D3),H5,I5⟩
 refine RO.new (m' :=3071) (stepC_ok b0 (by kernel_rfl)) rfl .plain rfl (Av [.bool false,vN] j2) (fun v1 p0 j0 d0=>?_)
 refine RD.each [10,12] (readyD_ok b0 (by kernel_rfl)) ⟨?_,?_,trivial⟩
 have b1:=Ap G0 (Tt D0 d0)
 refine RO.call (m' :=4095) (fst:=[]) (cap:=[]) (stepC_ok b0 (by kernel_rfl)) rfl .plain body182 rfl (e2 rfl rfl) (fun w9 hw9=>wardmoteref01_made_c n _ w9 (j0.hL hL hw9) a0.fBelow t0.2 (Am b1 hw9) I0) rfl (fun y2 x2 Z0 ⟨X0,hu_,V0⟩=>?_)
 subst hu_
 obtain ⟨R0,U0⟩:=j0.agr Z0
 refine RD.nu 12 8191 b0 rfl .plain rfl (Av [.bool false,vN] R0) (fun u1 k0 g0 c0=>?_)
 obtain ⟨B4,q3⟩:=AH g0 (.one .hd (.one .hd (.one .hd (.one .hd (.one .hd .done)))))
 have E3:=Tt d0 (Tt U0 (Tt c0 q3))
 have J5:=Ap J1 E3
 have K5:=Ap V0 (Tt c0 q3)
 exact z0 (K1,X0,k0,p0) _ _ ⟨rfl,rfl,rfl,rfl,rfl,rfl,rfl,trivial⟩ ⟨B4,(Tt D0 E3),J5,K5⟩
 refine RO.new (m' :=7167) (stepC_ok b0 (by kernel_rfl)) rfl .plain rfl (Av [.bool false,vN] j0) (fun u1 k0 g0 c0=>?_)
 have y0:=Tt D0 (Tt d0 c0)
 have F0:=Ap G0 y0
 refine Bi 10 8191 b0 rfl .plain body182 rfl (e2 rfl rfl) (fun w9 hw9=>wardmoteref01_made_c n _ w9 (g0.hL hL hw9) a0.fBelow t0.2 (Am F0 hw9) I0) rfl (fun Z1 Y1 E0 ⟨K0,hu_,H0⟩=>?_)
 subst hu_
 obtain ⟨C0,x0⟩:=g0.agr E0
 obtain ⟨C4,s3⟩:=AH C0 (.one .hd (.one .hd (.one .hd (.one .hd (.one .hd .done)))))
 have F3:=Tt d0 (Tt c0 (Tt x0 s3))
 have M5:=Ap J1 F3
 have P5:=Ap H0 s3
 exact z0 (K1,K0,k0,p0) _ _ ⟨rfl,rfl,rfl,rfl,rfl,rfl,rfl,trivial⟩ ⟨C4,(Tt D0 F3),M5,P5⟩
 refine RO.new (m' :=5119) (stepC_ok b0 (by kernel_rfl)) rfl .plain rfl (Av [.bool false,vN] j2) (fun u1 k0 g0 c0=>?_)
 refine RD.each [10,11] (readyD_ok b0 (by kernel_rfl)) ⟨?_,?_,trivial⟩
 have b1:=Ap G0 (Tt D0 c0)
 refine RO.call (m' :=6143) (fst:=[]) (cap:=[]) (stepC_ok b0 (by kernel_rfl)) rfl .plain body182 rfl (e2 rfl rfl) (fun w9 hw9=>wardmoteref01_made_c n _ w9 (g0.hL hL hw9) a0.fBelow t0.2 (Am b1 hw9) I0) rfl (fun y2 x2 Z0 ⟨X0,hu_,V0⟩=>?_)
 subst hu_
 obtain ⟨R0,U0⟩:=g0.agr Z0
 refine RD.nu 11 8191 b0 rfl .plain rfl (Av [.bool false,vN] R0) (fun v1 p0 j0 d0=>?_)
 obtain ⟨D4,t3⟩:=AH j0 (.one (.tl .hd) (.one .hd (.one .hd (.one .hd (.one .hd .done)))))
 have G3:=Tt c0 (Tt U0 (Tt d0 t3))
 have Q5:=Ap J1 G3
 have R5:=Ap V0 (Tt d0 t3)
 exact z0 (K1,X0,k0,p0) _ _ ⟨rfl,rfl,rfl,rfl,rfl,rfl,rfl,trivial⟩ ⟨D4,(Tt D0 G3),Q5,R5⟩
 refine RO.new (m' :=7167) (stepC_ok b0 (by kernel_rfl)) rfl .plain rfl (Av [.bool false,vN] g0) (fun v1 p0 j0 d0=>?_)
 have y0:=Tt D0 (Tt c0 d0)
 have F0:=Ap G0 y0
 refine Bi 10 8191 b0 rfl .plain body182 rfl (e2 rfl rfl) (fun w9 hw9=>wardmoteref01_made_c n _ w9 (j0.hL hL hw9) a0.fBelow t0.2 (Am F0 hw9) I0) rfl (fun Z1 Y1 E0 ⟨K0,hu_,H0⟩=>?_)
 subst hu_
 obtain ⟨C0,x0⟩:=j0.agr E0
 obtain ⟨E4,u3⟩:=AH C0 (.one (.tl .hd) (.one .hd (.one .hd (.one .hd (.one .hd .done)))))
 have H3:=Tt c0 (Tt d0 (Tt x0 u3))
 have U5:=Ap J1 H3
 have V5:=Ap H0 u3
 exact z0 (K1,K0,k0,p0) _ _ ⟨rfl,rfl,rfl,rfl,rfl,rfl,rfl,trivial⟩ ⟨E4,(Tt D0 H3),U5,V5⟩
 refine RO.new (m' :=3007) (stepC_ok b0 (by kernel_rfl)) rfl .plain rfl (Av [.bool false,vN] z1) (fun v1 p0 j0 d0=>?_)
 refine RD.each [6,12] (readyD_ok b0 (by kernel_rfl)) ⟨?_,?_,trivial⟩
 have C1:=Ap U1 d0
 refine RO.call (m' :=3071) (fst:=[]) (cap:=[]) (stepC_ok b0 (by kernel_rfl)) rfl .plain body182 rfl (e2 rfl rfl) (fun w9 hw9=>wardmoteref01_made_c n _ w9 (j0.hL hL hw9) (!(a0.fBelow == a1.fBelow)) t0.1 (Am C1 hw9) V1) rfl (fun M2 K2 B1 ⟨g1,hu_,c1⟩=>?_)
 subst hu_
 obtain ⟨u0,v0⟩:=j0.agr B1
 refine RD.each [10,12] (readyD_ok b0 (by kernel_rfl)) ⟨?_,?_,trivial⟩
 have b1:=Ap G0 (Tt d0 v0)
 refine RO.call (m' :=4095) (fst:=[]) (cap:=[]) (stepC_ok b0 (by kernel_rfl)) rfl .plain body182 rfl (e2 rfl rfl) (fun w9 hw9=>wardmoteref01_made_c n _ w9 (u0.hL hL hw9) a0.fBelow t0.2 (Am b1 hw9) I0) rfl (fun y2 x2 Z0 ⟨X0,hu_,V0⟩=>?_)
 subst hu_
 obtain ⟨R0,U0⟩:=u0.agr Z0
 refine RD.nu 12 8191 b0 rfl .plain rfl (Av [.bool false,vN] R0) (fun u1 k0 g0 c0=>?_)
 obtain ⟨F4,v3⟩:=AH g0 (.one .hd (.one .hd (.one .hd (.one .hd (.one .hd .done)))))
 have I3:=Tt U0 (Tt c0 v3)
 have W5:=Ap c1 I3
 have X5:=Ap V0 (Tt c0 v3)
 have B6:=Tt d0 (Tt v0 I3)
 exact z0 (g1,X0,k0,p0) _ _ ⟨rfl,rfl,rfl,rfl,rfl,rfl,rfl,trivial⟩ ⟨F4,B6,W5,X5⟩
 refine RO.new (m' :=7167) (stepC_ok b0 (by kernel_rfl)) rfl .plain rfl (Av [.bool false,vN] u0) (fun u1 k0 g0 c0=>?_)
 have y0:=Tt d0 (Tt v0 c0)
 have F0:=Ap G0 y0
 refine Bi 10 8191 b0 rfl .plain body182 rfl (e2 rfl rfl) (fun w9 hw9=>wardmoteref01_made_c n _ w9 (g0.hL hL hw9) a0.fBelow t0.2 (Am F0 hw9) I0) rfl (fun Z1 Y1 E0 ⟨K0,hu_,H0⟩=>?_)
 subst hu_
 obtain ⟨C0,x0⟩:=g0.agr E0
 obtain ⟨G4,x3⟩:=AH C0 (.one .hd (.one .hd (.one .hd (.one .hd (.one .hd .done)))))
 have J3:=Tt c0 (Tt x0 x3)
 have Y5:=Ap c1 J3
 have Z5:=Ap H0 x3
 have C6:=Tt d0 (Tt v0 J3)
 exact z0 (g1,K0,k0,p0) _ _ ⟨rfl,rfl,rfl,rfl,rfl,rfl,rfl,trivial⟩ ⟨G4,C6,Y5,Z5⟩
 refine RO.new (m' :=7103) (stepC_ok b0 (by kernel_rfl)) rfl .plain rfl (Av [.bool false,vN] j0) (fun u1 k0 g0 c0=>?_)
 have C1:=Ap U1 (Tt d0 c0)
 refine Bi 6 7167 b0 rfl .plain body182 rfl (e2 rfl rfl) (fun w9 hw9=>wardmoteref01_made_c n _ w9 (g0.hL hL hw9) (!(a0.fBelow == a1.fBelow)) t0.1 (Am C1 hw9) V1) rfl (fun M2 K2 B1 ⟨g1,hu_,c1⟩=>?_)
 subst hu_
 obtain ⟨u0,v0⟩:=g0.agr B1
 have y0:=Tt d0 (Tt c0 v0)
 have F0:=Ap G0 y0
 refine Bi 10 8191 b0 rfl .plain body182 rfl (e2 rfl rfl) (fun w9 hw9=>wardmoteref01_made_c n _ w9 (u0.hL hL hw9) a0.fBelow t0.2 (Am F0 hw9) I0) rfl (fun Z1 Y1 E0 ⟨K0,hu_,H0⟩=>?_)
 subst hu_
 obtain ⟨C0,x0⟩:=u0.agr E0
 obtain ⟨H4,E2⟩:=AH C0 (.one .hd (.one .hd (.one .hd (.one .hd (.one .hd .done)))))
 have b6:=Ap c1 (Tt x0 E2)
 have c6:=Ap H0 E2
 have D6:=Tt y0 (Tt x0 E2)
 exact z0 (g1,K0,k0,p0) _ _ ⟨rfl,rfl,rfl,rfl,rfl,rfl,rfl,trivial⟩ ⟨H4,D6,b6,c6⟩
 refine RO.new (m' :=5055) (stepC_ok b0 (by kernel_rfl)) rfl .plain rfl (Av [.bool false,vN] z1) (fun u1 k0 g0 c0=>?_)
 refine RD.each [6,11] (readyD_ok b0 (by kernel_rfl)) ⟨?_,?_,trivial⟩
 have C1:=Ap U1 c0
 refine RO.call (m' :=5119) (fst:=[]) (cap:=[]) (stepC_ok b0 (by kernel_rfl)) rfl .plain body182 rfl (e2 rfl rfl) (fun w9 hw9=>wardmoteref01_made_c n _ w9 (g0.hL hL hw9) (!(a0.fBelow == a1.fBelow)) t0.1 (Am C1 hw9) V1) rfl (fun M2 K2 B1 ⟨g1,hu_,c1⟩=>?_)
 subst hu_
 obtain ⟨u0,v0⟩:=g0.agr B1
 refine RD.each [10,11] (readyD_ok b0 (by kernel_rfl)) ⟨?_,?_,trivial⟩
 have b1:=Ap G0 (Tt c0 v0)
 refine RO.call (m' :=6143) (fst:=[]) (cap:=[]) (stepC_ok b0 (by kernel_rfl)) rfl .plain body182 rfl (e2 rfl rfl) (fun w9 hw9=>wardmoteref01_made_c n _ w9 (u0.hL hL hw9) a0.fBelow t0.2 (Am b1 hw9) I0) rfl (fun y2 x2 Z0 ⟨X0,hu_,V0⟩=>?_)
 subst hu_
 obtain ⟨R0,U0⟩:=u0.agr Z0
 refine RD.nu 11 8191 b0 rfl .plain rfl (Av [.bool false,vN] R0) (fun v1 p0 j0 d0=>?_)
 obtain ⟨I4,y3⟩:=AH j0 (.one (.tl .hd) (.one .hd (.one .hd (.one .hd (.one .hd .done)))))
 have K3:=Tt U0 (Tt d0 y3)
 have d6:=Ap c1 K3
 have g6:=Ap V0 (Tt d0 y3)
 have E6:=Tt c0 (Tt v0 K3)
 exact z0 (g1,X0,k0,p0) _ _ ⟨rfl,rfl,rfl,rfl,rfl,rfl,rfl,trivial⟩ ⟨I4,E6,d6,g6⟩
 refine RO.new (m' :=7167) (stepC_ok b0 (by kernel_rfl)) rfl .plain rfl (Av [.bool false,vN] u0) (fun v1 p0 j0 d0=>?_)
 have y0:=Tt c0 (Tt v0 d0)
 have F0:=Ap G0 y0
 refine Bi 10 8191 b0 rfl .plain body182 rfl (e2 rfl rfl) (fun w9 hw9=>wardmoteref01_made_c n _ w9 (j0.hL hL hw9) a0.fBelow t0.2 (Am F0 hw9) I0) rfl (fun Z1 Y1 E0 ⟨K0,hu_,H0⟩=>?_)
 subst hu_
 obtain ⟨C0,x0⟩:=j0.agr E0
 obtain ⟨J4,z3⟩:=AH C0 (.one (.tl .hd) (.one .hd (.one .hd (.one .hd (.one .hd .done)))))
 have M3:=Tt d0 (Tt x0 z3)
 have j6:=Ap c1 M3
 have k6:=Ap H0 z3
 have F6:=Tt c0 (Tt v0 M3)
 exact z0 (g1,K0,k0,p0) _ _ ⟨rfl,rfl,rfl,rfl,rfl,rfl,rfl,trivial⟩ ⟨J4,F6,j6,k6⟩
 refine RO.new (m' :=7103) (stepC_ok b0 (by kernel_rfl)) rfl .plain rfl (Av [.bool false,vN] g0) (fun v1 p0 j0 d0=>?_)
 have C1:=Ap U1 (Tt c0 d0)
 refine Bi 6 7167 b0 rfl .plain body182 rfl (e2 rfl rfl) (fun w9 hw9=>wardmoteref01_made_c n _ w9 (j0.hL hL hw9) (!(a0.fBelow == a1.fBelow)) t0.1 (Am C1 hw9) V1) rfl (fun M2 K2 B1 ⟨g1,hu_,c1⟩=>?_)
 subst hu_
 obtain ⟨u0,v0⟩:=j0.agr B1
 have y0:=Tt c0 (Tt d0 v0)
 have F0:=Ap G0 y0
 refine Bi 10 8191 b0 rfl .plain body182 rfl (e2 rfl rfl) (fun w9 hw9=>wardmoteref01_made_c n _ w9 (u0.hL hL hw9) a0.fBelow t0.2 (Am F0 hw9) I0) rfl (fun Z1 Y1 E0 ⟨K0,hu_,H0⟩=>?_)
 subst hu_
 obtain ⟨C0,x0⟩:=u0.agr E0
 obtain ⟨K4,F2⟩:=AH C0 (.one (.tl .hd) (.one .hd (.one .hd (.one .hd (.one .hd .done)))))
 have p6:=Ap c1 (Tt x0 F2)
 have q6:=Ap H0 F2
 have G6:=Tt y0 (Tt x0 F2)
 exact z0 (g1,K0,k0,p0) _ _ ⟨rfl,rfl,rfl,rfl,rfl,rfl,rfl,trivial⟩ ⟨K4,G6,p6,q6⟩
end Go.Proofs.YtmhgoecnjleagaaGreatDoor
