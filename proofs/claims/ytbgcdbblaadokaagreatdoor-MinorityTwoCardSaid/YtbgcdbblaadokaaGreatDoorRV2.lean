/- Functions of the program, and what they give: part 2. -/
import Derived.Test.YtbgcdbblaadokaaGreatDoorRV1
namespace Go.Proofs.YtbgcdbblaadokaaGreatDoor
open Go Go.RowKit
set_option maxRecDepth 4000
set_option maxHeartbeats 4000000

def tb128_5:List (Nat × Nat × Nat):=[(0,4194304,32),(0,8388608,64),(0,16777216,2),(4,33554432,16777216),(10,67108864,41943040),(17,134217728,71303168),(32,268435456,134217728),(0,536870912,128),(0,1073741824,2),(256,2147483648,1073741824),(640,4294967296,2684354560),(1088,8589934592,4563402752),(4095,17179869184,71303168),(8191,0,25769803776)]
def wide_moved_l1 (_n:Nat) (a0:List UInt64) (a1:Int) (g0:Nat × (List UInt64) → Option (List UInt64)):Nat × (List UInt64) → Option (List UInt64)
  | (b0,c0)=>(if b0 < a0.length then (a0[b0]?).bind fun p0=>(quoI a1 64).bind fun t0=>(chk (((b0:Nat):Int) + t0)).bind fun j0=>(idx c0 j0).bind fun B0=>(remI a1 64).bind fun u0=>(natOf u0).bind fun q0=>(put c0 ((j0.toNat:Nat):Int) (B0 ||| (shlU p0 q0))).bind fun d0=>(remI a1 64).bind fun v0=>(if 0 < v0 then (quoI a1 64).bind fun x0=>(chk (((b0:Nat):Int) + x0)).bind fun y0=>(chk (y0 + 1)).bind fun k0=>(remI a1 64).bind fun z0=>(chk (64 - z0)).bind fun A0=>(natOf A0).bind fun s0=>(idx d0 k0).bind fun D0=>(put d0 ((k0.toNat:Nat):Int) (shrU p0 s0)).bind fun C0=>g0 (b0 + 1,C0) else g0 (b0 + 1,d0)) else some c0)
def wide_moved_p (n:Nat) (a0:List UInt64) (a1:Int):Option (List UInt64):=
  (quoI a1 64).bind fun s2=>(chk (((a0.length:Nat):Int) + s2)).bind fun s3=>(chk (s3 + 1)).bind fun s4=>(mk s4 (0:UInt64)).bind fun b0=>Option.bind (loopF (wide_moved_l1 n a0 a1) n (0,b0)) (fun c0=>(wide_trimmed_p n false c0).bind fun d0=>some d0.fo)
theorem wide_moved_c (n:Nat) (L:List Nat) (w:World) (hL:∀ b ∈ L,b < w.heap.size) (a0:List UInt64) {v0_0:Value} (h0_0:Rep.R w L [v0_0] a0) (a1:Int)  {r:List UInt64} (h:wide_moved_p n a0 a1 = some r) :
    Calls Tryz.prog 128 #[v0_0,vI a1] w (Gives w fun w' u=>∃ v0_0:Value,u = v0_0∧Rep.R w' L [v0_0] r):=by
 unfold wide_moved_p at h
 have hS0:=Ax w
 refine AE Tryz.func128 rfl rfl rfl (fun _ cs0 hb0=>?_)
 refine Ac<|Ah rfl<|Aa<|Ac<|Ae rfl ?_
 have hl1:a0.length ≤ 281474976710656:=Bi h0_0
 refine Ab (Bk (xs:=a0) Tryz.underlying123 rfl h0_0)<|Ae rfl ?_
 obtain ⟨s2,hs2,h⟩:=bi h
 refine Ab (FV.quoc (i:=a1) (j:=64) rfl rfl hs2) ?_
 obtain ⟨s3,hs3,h⟩:=bi h
 refine Ab (FV.addc (i:=((a0.length:Nat):Int)) (j:=s2) rfl rfl hs3) ?_
 obtain ⟨s4,hs4,h⟩:=bi h
 refine Ab (FV.addc (i:=s3) (j:=1) rfl rfl hs4) ?_
 obtain ⟨D0,P0,h⟩:=bi h
 refine Ai .plain rfl (Does.mk (α:=UInt64) P0 hS0 el123 rfl) (fun H2 p0 v0 Y2=>?_)
 have u1:=AM (cs:=(List.replicate s4.toNat [vW 0]).flatten) (xs:=D0) v0 L (Cells.mk P0 rfl)
 refine Ah rfl<|Aa<|Ak<|Ac<|Ae rfl ?_
 have G1:=AP h0_0 v0
 refine Ab (Bk (xs:=a0) Tryz.underlying123 rfl G1)<|Ae rfl<|Aa<|AB ?_
 obtain ⟨g3,K1,B1⟩:=bind_in2 h
 refine Bw (α:=Nat × (List UInt64) × (List Value)) (fun ⟨c0,g0,j0⟩=>[(1,vI a1),(5,(.slice (some ⟨p0,0,none⟩) s4.toNat s4.toNat)),(15,v0_0),(16,vI ((a0.length:Nat):Int)),(17,vI ((c0:Nat):Int))]) (fun ⟨c0,g0,j0⟩ t0=>St w t0 [.row w.heap.size 30 (Rep.size UInt64) (.slice (some ⟨p0,0,none⟩) s4.toNat s4.toNat) g0.length j0]∧Tr H2 [.row w.heap.size 30 (Rep.size UInt64) (.slice (some ⟨p0,0,none⟩) s4.toNat s4.toNat) D0.length ((List.replicate s4.toNat [vW 0]).flatten)] t0 [.row w.heap.size 30 (Rep.size UInt64) (.slice (some ⟨p0,0,none⟩) s4.toNat s4.toNat) g0.length j0]∧Cells t0 (bl [.row w.heap.size 30 (Rep.size UInt64) (.slice (some ⟨p0,0,none⟩) s4.toNat s4.toNat) g0.length j0] ++ L) j0 g0) (fun ⟨c0,g0,j0⟩=>(c0,g0)) (0,D0,(List.replicate s4.toNat [vW 0]).flatten) K1 ⟨rfl,rfl,rfl,rfl,rfl,trivial⟩ ⟨v0,Bd _ _,u1⟩ ?_
 rintro Q2 ⟨c0,g0,j0⟩ t0 E0 ⟨k0,G0,y0⟩ h
 unfold wide_moved_l1 at h
 try dsimp only at h
 refine Ac<|Ab (Bm (i:=c0) (j:=a0.length) rfl rfl)<|Aa<|Ak<|AX rfl h (fun Z0 h=>?_) (fun Z0 h=>?_)
 refine Av<|Ak<|AB<|Ac<|Ae rfl ?_
 obtain ⟨u0,k2,h⟩:=bi h
 have I1:=AP h0_0 k0
 obtain ⟨P2,R2,x1,D1,c1,M1,H1⟩:=Bo I1 k2
 have y1:c1 = [vU u0]:=M1; subst y1
 refine Ab (Bx 1 c0 rfl x1 rfl rfl D1)<|AZ rfl (H1 0 _ rfl)<|Ah rfl<|Ah rfl<|Aa<|Ak<|dt 13 tb128_5 (fun b0 d0=>?_)
 refine Af 0 1 b0 rfl d0 (fun _=>Aj rfl) rfl<|Af 1 3 b0 rfl d0 (fun _=>Aj rfl) rfl<|Af 2 7 b0 rfl d0 (fun _=>Aj rfl) rfl ?_
 obtain ⟨A2,W1,h⟩:=bi h
 refine Af 3 15 b0 rfl d0 (fun _=>FV.quoc (i:=a1) (j:=64) rfl rfl W1) rfl ?_
 obtain ⟨C0,X1,h⟩:=bi h
 refine Af 4 31 b0 rfl d0 (fun _=>FV.addc (i:=((c0:Nat):Int)) (j:=A2) rfl rfl X1) rfl ?_
 obtain ⟨U0,p2,h⟩:=bi h
 obtain ⟨K0,q2⟩:=idx_in p2
 obtain ⟨V0,U2,s0,B0,d1,P1,J1⟩:=St.nth (α:=UInt64) k0 .hd y0 q2
 obtain ⟨X0,V2,I0⟩:=St.nthOwn (α:=UInt64) k0 .hd B0
 obtain rfl:V0 = ⟨X0,0,none⟩:=by rw [I0] at s0; cases s0; rfl
 have z1:d1 = [vU U0]:=P1; subst z1
 refine Af 5 63 b0 rfl d0 (fun _=>Bx 1 (C0.toNat) rfl s0 rfl K0 B0) rfl<|AA 6 127 14336 b0 rfl d0 (AJ rfl (J1 0 _ rfl)) rfl<|Af 7 255 b0 rfl d0 (fun _=>Aj rfl) rfl<|Af 8 511 b0 rfl d0 (fun _=>Aj rfl) rfl ?_
 obtain ⟨B2,Y1,h⟩:=bi h
 refine Af 9 1023 b0 rfl d0 (fun _=>FV.remc (i:=a1) (j:=64) rfl rfl Y1) rfl ?_
 obtain ⟨z2,E1,h⟩:=bi h
 refine Af 10 2047 b0 rfl d0 (fun _=>FV.shlI (a:=u0) (i:=B2) rfl rfl E1) rfl<|Af 11 4095 b0 rfl d0 (fun _=>FV.orU (a:=U0) (b:=shlU u0 z2) rfl rfl) rfl<|Af 12 8191 b0 rfl d0 (fun _=>Bx 1 (C0.toNat) rfl s0 rfl K0 B0) rfl ?_
 obtain ⟨J2,v2,h⟩:=bi h
 refine BC (i:=13) (rk b0) (RO.acts (m' :=16383) (sk b0) rfl rfl .plain (Acts.set (α:=UInt64) (i:=C0.toNat) v2 k0 I0 (fun _=>.hd) y0 rfl rfl rfl rfl rfl (by kernel_rfl)) (fun k3 ⟨g1,q0,H0,z0⟩=>?_))
 refine AH (dk b0)<|Ac<|Ae rfl ?_
 obtain ⟨C2,Z1,h⟩:=bi h
 refine Ab (FV.remc (i:=a1) (j:=64) rfl rfl Z1)<|Ab (FV.gtr (i:=C2) (j:=0) rfl rfl)<|Aa<|AX rfl h (fun b1 h=>?_) (fun b1 h=>?_)
 refine Ao<|Ae rfl<|Ae rfl<|Ae rfl ?_
 obtain ⟨D2,b2,h⟩:=bi h
 refine Ab (FV.quoc (i:=a1) (j:=64) rfl rfl b2) ?_
 obtain ⟨E2,c2,h⟩:=bi h
 refine Ab (FV.addc (i:=((c0:Nat):Int)) (j:=D2) rfl rfl c2) ?_
 obtain ⟨Q0,d2,h⟩:=bi h
 refine Ab (FV.addc (i:=E2) (j:=1) rfl rfl d2)<|Ae rfl<|Ae rfl ?_
 obtain ⟨F2,g2,h⟩:=bi h
 refine Ab (FV.remc (i:=a1) (j:=64) rfl rfl g2) ?_
 obtain ⟨G2,j2,h⟩:=bi h
 refine Ab (FV.subc (i:=64) (j:=F2) rfl rfl j2) ?_
 obtain ⟨d3,F1,h⟩:=bi h
 refine Ab (FV.shrI (a:=u0) (i:=G2) rfl rfl F1) ?_
 obtain ⟨I2,t2,h⟩:=bi h
 obtain ⟨C1,u2⟩:=idx_in t2
 obtain ⟨W0,W2,A0,M0,j1,Q1,c3⟩:=St.nth (α:=UInt64) q0 .hd z0 u2
 obtain ⟨Y0,X2,J0⟩:=St.nthOwn (α:=UInt64) q0 .hd M0
 obtain rfl:W0 = ⟨Y0,0,none⟩:=by rw [J0] at A0; cases A0; rfl
 have A1:j1 = [vU I2]:=Q1; subst A1
 refine Ab (Bx 1 (Q0.toNat) rfl A0 rfl C1 M0) ?_
 obtain ⟨K2,x2,h⟩:=bi h
 refine RG.acts' .plain (Acts.set (α:=UInt64) (i:=Q0.toNat) x2 q0 J0 (fun _=>.hd) z0 rfl rfl rfl rfl rfl (by kernel_rfl)) (fun p3 ⟨k1,p1,q1,v1⟩=>?_)
 refine Aa<|AC<|Ao<|Ab (Bl (i:=c0) (j:=1) rfl rfl (by omega))<|Ae rfl<|Aa ?_
 exact E0 (c0 + 1,K2,k1) _ _ ⟨rfl,rfl,rfl,rfl,rfl,trivial⟩ ⟨p1,(Tt G0 (Tt H0 q1)),v1⟩ h
 refine Av<|AC<|Ao<|Ab (Bl (i:=c0) (j:=1) rfl rfl (by omega))<|Ae rfl<|Aa ?_
 exact E0 (c0 + 1,J2,g1) _ _ ⟨rfl,rfl,rfl,rfl,rfl,trivial⟩ ⟨q0,(Tt G0 H0),z0⟩ h
 refine Bj rfl ?_
 have h:=B1 _ h
 try dsimp only at h
 refine Ac<|Ae rfl ?_
 have R1:=Br (α:=UInt64) k0 .hd y0 hL
 have x0:=St.delS k0 .hd
 have Z2:=St.delT k0 .hd
 have U1:=Rep.at_ (α:=UInt64) (v:=(.slice (some ⟨p0,0,none⟩) s4.toNat s4.toNat)) (xs:=g0) x0 L R1
 obtain ⟨M2,y2,h⟩:=bi h
 refine By (fst:=[]) (cap:=[]) .plain body115 rfl (e2 rfl rfl) (fun w9 hw9=>wide_trimmed_c n _ w9 (x0.hL hL hw9) false g0 (Aq U1 hw9) y2) rfl (fun q3 j3 s1 ⟨R0,hu_,V1⟩=>?_)
 subst hu_
 obtain ⟨F0,b3⟩:=x0.agr s1
 refine Ab (FV.field1 (cs:=[.bool M2.fe,R0]) (off:=1) (m:=1) (by kernel_rfl) (by kernel_rfl) rfl rfl)<|Ah rfl<|Aa<|Am rfl<|Be hb0 Tryz.func128 rfl rfl ?_
 cases h
 exact ⟨F0.ag,fun w9 hw9=>⟨R0,rfl,F0.kd V1 hw9⟩⟩
def tb104_7:List (Nat × Nat × Nat):=[(0,16777216,16),(0,33554432,128),(0,67108864,64),(0,134217728,1),(0,268435456,128),(24,536870912,402653184),(32,1073741824,536870912),(0,2147483648,2),(128,4294967296,2147483648),(256,8589934592,4294967296),(580,17179869184,9730785280),(1024,8388608,17179869184),(2048,34359738368,8388608),(2048,68719476736,8388608),(8191,137438953472,50331648),(24575,0,171798691840),(65535,64,68719476736)]
def tb104_16:List (Nat × Nat × Nat):=[(0,36893488147419103232,16),(0,73786976294838206464,256),(2,147573952589676412928,73786976294838206464),(5,295147905179352825856,184467440737095516160),(8,590295810358705651712,295147905179352825856),(0,1180591620717411303424,256),(32,2361183241434822606848,1180591620717411303424),(64,4722366482869645213696,2361183241434822606848),(144,9444732965739290427392,5312662293228350865408),(511,18889465931478580854784,184467440737095516160),(1023,0,28334198897217871282176)]
theorem body119:bodyB Tryz.prog 119 = true:=by kernel_rfl
theorem body120:bodyB Tryz.prog 120 = true:=by kernel_rfl
theorem body126:bodyB Tryz.prog 126 = true:=by kernel_rfl
theorem body127:bodyB Tryz.prog 127 = true:=by kernel_rfl
theorem body128:bodyB Tryz.prog 128 = true:=by kernel_rfl
def wide_divided_l1 (n:Nat) (a0:List UInt64) (a1:List UInt64) (j0:UInt64 × Int × (List UInt64) → Option (UInt64 × (List UInt64))):UInt64 × Int × (List UInt64) → Option (UInt64 × (List UInt64))
  | (d0,b0,c0)=>(if 0 ≤ b0 then (idx a0 b0).bind fun p0=>(a1[0]?).bind fun q0=>(math_bits_Div64_p n d0 p0 q0).bind fun g0=>(idx c0 b0).bind fun t0=>(put c0 ((b0.toNat:Nat):Int) g0.1).bind fun s0=>(chk (b0 - 1)).bind fun k0=>j0 (g0.2,k0,s0) else some (d0,c0))
def wide_divided_l2 (n:Nat) (a1:List UInt64) (p0:(List UInt64) × Int × (List UInt64) → Option ((List UInt64) × (List UInt64))):(List UInt64) × Int × (List UInt64) → Option ((List UInt64) × (List UInt64))
  | (c0,b0,d0)=>(if 0 ≤ b0 then (wide_moved_p n a1 b0).bind fun k0=>(wide_compared_p n c0 k0).bind fun z0=>jn (fun (v0,x0)=>(chk (b0 - 1)).bind fun s0=>p0 (v0,s0,x0)) (fun g0=>(if 0 ≤ z0 then (wide_taken_p n c0 k0).bind fun A0=>(wide_trimmed_p n false A0).bind fun B0=>(quoI b0 64).bind fun j0=>(idx d0 j0).bind fun u0=>(remI b0 64).bind fun t0=>(natOf t0).bind fun q0=>(put d0 ((j0.toNat:Nat):Int) (u0 ||| (shlU (1:UInt64) q0))).bind fun y0=>g0 (B0.fo,y0) else g0 (c0,d0))) else some (d0,c0))
def wide_divided_p (n:Nat) (a0:List UInt64) (a1:List UInt64):Option ((List UInt64) × (List UInt64)):=
  (mk ((a0.length:Nat):Int) (0:UInt64)).bind fun b0=>(if a1.length = 1 then Option.bind (loopF (wide_divided_l1 n a0 a1) n ((0:UInt64),((a0.length:Nat):Int) - 1,b0)) (fun (d0,g0)=>(wide_trimmed_p n false ([d0]:List UInt64)).bind fun p0=>some (g0,p0.fo)) else (wide_length_p n a0).bind fun q0=>(wide_length_p n a1).bind fun s0=>(chk (q0 - s0)).bind fun c0=>Option.bind (loopF (wide_divided_l2 n a1) n (a0,c0,b0)) (fun (k0,j0)=>some (k0,j0)))
theorem wide_divided_c (n:Nat) (L:List Nat) (w:World) (hL:∀ b ∈ L,b < w.heap.size) (a0:List UInt64) {v0_0:Value} (h0_0:Rep.R w L [v0_0] a0) (a1:List UInt64) {v1_0:Value} (h1_0:Rep.R w L [v1_0] a1)  {r:(List UInt64) × (List UInt64)} (h:wide_divided_p n a0 a1 = some r) :
    Calls Tryz.prog 104 #[v0_0,v1_0] w (Gives w fun w' u=>∃ v0_0 v1_0:Value,u = .tuple #[v0_0,v1_0]∧Rep.R w' L [v0_0] r.1∧Rep.R w' L [v1_0] r.2):=by
 unfold wide_divided_p at h
 have hS0:=Ax w
 refine AE Tryz.func104 rfl rfl rfl (fun _ cs0 hb0=>?_)
 refine Ac<|Ah rfl<|Ah rfl<|Aa<|Ac<|Ae rfl ?_
 have hl1:a0.length ≤ 281474976710656:=Bi h0_0
 refine Ab (Bk (xs:=a0) Tryz.underlying123 rfl h0_0) ?_
 obtain ⟨K0,F1,h⟩:=bi h
 refine Ai .plain rfl (Does.mk (α:=UInt64) F1 hS0 el123 rfl) (fun I1 b0 t0 y5=>?_)
 have v1:=AM (cs:=(List.replicate ((a0.length:Nat):Int).toNat [vW 0]).flatten) (xs:=K0) t0 L (Cells.mk F1 rfl)
 refine Ah rfl<|Aa<|Ak<|Ac<|Ae rfl ?_
 have B1:=AP h1_0 t0
 have z5:a1.length ≤ 281474976710656:=Bi B1
 refine Ab (Bk (xs:=a1) Tryz.underlying123 rfl B1)<|Ab (FV.eqlN (i:=a1.length) (j:=1) rfl rfl)<|Aa<|AX rfl h (fun d2 h=>?_) (fun d2 h=>?_)
 refine Ac<|Ah rfl<|Aa<|Ak<|Ac<|Ae rfl ?_
 have z3:=AP h0_0 t0
 refine Ab (Bk (xs:=a0) Tryz.underlying123 rfl z3)<|Ab (FV.subI (i:=((a0.length:Nat):Int)) (j:=1) rfl rfl (by omega))<|Ah rfl<|Aa<|AB ?_
 obtain ⟨B5,H3,g3⟩:=bind_in2 h
 refine Bw (α:=UInt64 × Int × (List UInt64) × (List Value)) (fun ⟨g0,x0,z0,B0⟩=>[(0,v0_0),(1,v1_0),(4,(.slice (some ⟨b0,0,none⟩) ((a0.length:Nat):Int).toNat ((a0.length:Nat):Int).toNat)),(6,vU g0),(7,vI x0)]) (fun ⟨g0,x0,z0,B0⟩ V0=>St w V0 [.row w.heap.size 30 (Rep.size UInt64) (.slice (some ⟨b0,0,none⟩) ((a0.length:Nat):Int).toNat ((a0.length:Nat):Int).toNat) z0.length B0]∧Tr I1 [.row w.heap.size 30 (Rep.size UInt64) (.slice (some ⟨b0,0,none⟩) ((a0.length:Nat):Int).toNat ((a0.length:Nat):Int).toNat) K0.length ((List.replicate ((a0.length:Nat):Int).toNat [vW 0]).flatten)] V0 [.row w.heap.size 30 (Rep.size UInt64) (.slice (some ⟨b0,0,none⟩) ((a0.length:Nat):Int).toNat ((a0.length:Nat):Int).toNat) z0.length B0]∧Cells V0 (bl [.row w.heap.size 30 (Rep.size UInt64) (.slice (some ⟨b0,0,none⟩) ((a0.length:Nat):Int).toNat ((a0.length:Nat):Int).toNat) z0.length B0] ++ L) B0 z0) (fun ⟨g0,x0,z0,B0⟩=>(g0,x0,z0)) ((0:UInt64),((a0.length:Nat):Int) - 1,K0,(List.replicate ((a0.length:Nat):Int).toNat [vW 0]).flatten) H3 ⟨rfl,rfl,rfl,rfl,rfl,trivial⟩ ⟨t0,Bd _ _,v1⟩ ?_
 rintro j5 ⟨g0,x0,z0,B0⟩ V0 v2 ⟨C0,B2,Z0⟩ h
 unfold wide_divided_l1 at h
 try dsimp only at h
 refine Ak<|Ac<|Ae rfl<|Ab (FV.geq (i:=x0) (j:=0) rfl rfl)<|Aa<|AX rfl h (fun c2 h=>?_) (fun c2 h=>?_)
 refine Av<|Ak<|AB<|dt 15 tb104_7 (fun c0 d0=>?_)
 refine Af 0 1 c0 rfl d0 (fun _=>Aj rfl) rfl<|Af 1 3 c0 rfl d0 (fun _=>Aj rfl) rfl<|Af 2 7 c0 rfl d0 (fun _=>Aj rfl) rfl<|Af 3 15 c0 rfl d0 (fun _=>Aj rfl) rfl<|Af 4 31 c0 rfl d0 (fun _=>Aj rfl) rfl ?_
 obtain ⟨J1,u4,h⟩:=bi h
 obtain ⟨k3,v4⟩:=idx_in u4
 have v3:=AP h0_0 C0
 obtain ⟨d5,q5,X2,q3,k2,P3,u3⟩:=Bo v3 v4
 have Y2:k2 = [vU J1]:=P3; subst Y2
 refine Af 5 63 c0 rfl d0 (fun _=>Bx 1 (x0.toNat) rfl X2 rfl k3 q3) rfl<|AA 6 127 130048 c0 rfl d0 (AJ rfl (u3 0 _ rfl)) rfl<|Af 7 255 c0 rfl d0 (fun _=>Aj rfl) rfl ?_
 obtain ⟨K1,x4,h⟩:=bi h
 have y3:=AP h1_0 C0
 obtain ⟨g5,s5,Z2,s3,p2,Q3,x3⟩:=Bo y3 x4
 have b3:p2 = [vU K1]:=Q3; subst b3
 refine Af 8 511 c0 rfl d0 (fun _=>Bx 1 0 rfl Z2 rfl rfl s3) rfl<|AA 9 1023 130048 c0 rfl d0 (AJ rfl (x3 0 _ rfl)) rfl ?_
 obtain ⟨k1,E4,h⟩:=bi h
 refine BA 10 2047 129024 (.tuple #[vU k1.1,vU k1.2]) c0 rfl d0 body126 rfl (e3 rfl rfl rfl) (fun w9 hw9=>math_bits_Div64_c n _ w9 (C0.hL0 hL hw9) g0 J1 K1 E4) rfl<|Af 11 4095 c0 rfl d0 (fun _=>Aj rfl) rfl<|Af 12 8191 c0 rfl d0 (fun _=>Ag rfl rfl) rfl<|Af 13 16383 c0 rfl d0 (fun _=>Ag rfl rfl) rfl ?_
 obtain ⟨X4,y4,h⟩:=bi h
 obtain ⟨p3,z4⟩:=idx_in y4
 obtain ⟨W1,t5,c1,A1,q2,R3,A5⟩:=St.nth (α:=UInt64) C0 .hd Z0 z4
 obtain ⟨Y1,u5,x1⟩:=St.nthOwn (α:=UInt64) C0 .hd A1
 obtain rfl:W1 = ⟨Y1,0,none⟩:=by rw [x1] at c1; cases c1; rfl
 have c3:q2 = [vU X4]:=R3; subst c3
 refine Af 14 32767 c0 rfl d0 (fun _=>Bx 1 (x0.toNat) rfl c1 rfl p3 A1) rfl ?_
 obtain ⟨Y4,C4,h⟩:=bi h
 refine BC (i:=15) (rk c0) (RO.acts (m' :=65535) (sk c0) rfl rfl .plain (Acts.set (α:=UInt64) (i:=x0.toNat) C4 C0 x1 (fun _=>.hd) Z0 rfl rfl rfl rfl rfl (by kernel_rfl)) (fun J5 ⟨s2,y2,C2,R2⟩=>?_))
 refine BC (i:=16) (rk c0) (RO.val (m' :=131071) (sk c0) rfl .plain rfl (AY rfl) ?_)
 refine AH (dk c0)<|AC<|Ao<|Ae rfl ?_
 obtain ⟨Q4,k4,h⟩:=bi h
 refine Ab (FV.subc (i:=x0) (j:=1) rfl rfl k4)<|Ah rfl<|Aa ?_
 exact v2 (k1.2,Q4,Y4,s2) _ _ ⟨rfl,rfl,rfl,rfl,rfl,trivial⟩ ⟨y2,(Tt B2 C2),R2⟩ h
 refine Bj rfl ?_
 have h:=g3 _ h
 try dsimp only at h
 refine Ac<|Ae rfl<|Ae rfl<|Ai .plain rfl (AT (α:=UInt64) (xs:=([g0]:List UInt64)) (vs:=[vU g0]) (ds' :=[vU g0]) rfl C0 el123 rfl (e1 rfl) (by kernel_rfl) rfl) (fun K5 Z1 M0 D2=>?_)
 have U2:=AM (cs:=[vU g0]) (xs:=(([g0]:List UInt64):List UInt64)) M0 L (Ap (cs:=[vU g0]) (ds:=[]) rfl (AS _ _))
 have U3:=Br (α:=UInt64) M0 .hd U2 hL
 have W0:=St.delS M0 .hd
 have E2:=St.delT M0 .hd
 have V3:=Rep.at_ (α:=UInt64) (v:=(vS Z1 1)) (xs:=([g0]:List UInt64)) W0 L U3
 obtain ⟨b5,F4,h⟩:=bi h
 refine By (fst:=[]) (cap:=[]) .plain body115 rfl (e2 rfl rfl) (fun w9 hw9=>wide_trimmed_c n _ w9 (W0.hL hL hw9) false ([g0]:List UInt64) (Aq V3 hw9) F4) rfl (fun M5 F5 K2 ⟨G1,hu_,W3⟩=>?_)
 subst hu_
 obtain ⟨X0,F2⟩:=W0.agr K2
 refine Ab (FV.field1 (cs:=[.bool b5.fe,G1]) (off:=1) (m:=1) (by kernel_rfl) (by kernel_rfl) rfl rfl)<|Ah rfl<|Ah rfl<|Aa<|Am rfl ?_
 have J3:=Tt D2 (Tt E2 F2)
 have A3:=Bb Z0 J3
 have X3:=Br (α:=UInt64) X0 .hd A3 hL
 have P0:=St.delS X0 .hd
 have G2:=St.delT X0 .hd
 have Y3:=Rep.at_ (α:=UInt64) (v:=(.slice (some ⟨b0,0,none⟩) ((a0.length:Nat):Int).toNat ((a0.length:Nat):Int).toNat)) (xs:=z0) P0 L X3
 refine Al hb0 Tryz.func104 rfl (.cons (.tmp rfl) (.cons (.tmp rfl) .nil)) rfl ?_
 cases h
 have B3:=Ay W3 G2
 exact ⟨P0.ag,fun w9 hw9=>⟨(.slice (some ⟨b0,0,none⟩) ((a0.length:Nat):Int).toNat ((a0.length:Nat):Int).toNat),G1,rfl,P0.kd Y3 hw9,P0.kd B3 hw9⟩⟩
 refine Av<|Ac<|Ae rfl<|Ah rfl<|Aa<|Ak<|Ac<|Ae rfl ?_
 obtain ⟨P1,G4,h⟩:=bi h
 refine Ba (vI P1) body127 rfl (e1 rfl) (fun w9 hw9=>wide_length_c n _ w9 (t0.hL0 hL hw9) a0 (t0.k0 h0_0 hw9) G4) rfl<|Ae rfl ?_
 obtain ⟨Q1,H4,h⟩:=bi h
 refine Ba (vI Q1) body127 rfl (e1 rfl) (fun w9 hw9=>wide_length_c n _ w9 (t0.hL0 hL hw9) a1 (t0.k0 h1_0 hw9) H4) rfl ?_
 obtain ⟨R4,p4,h⟩:=bi h
 refine Ab (FV.subc (i:=P1) (j:=Q1) rfl rfl p4)<|Ah rfl<|Aa<|AB ?_
 have C3:=AP h0_0 t0
 obtain ⟨C5,I3,j3⟩:=bind_in2 h
 refine Bw (α:=(List UInt64) × Int × (List UInt64) × Value × (List Value)) (fun ⟨A0,q0,p0,D0,s0⟩=>[(1,v1_0),(4,(.slice (some ⟨b0,0,none⟩) ((a0.length:Nat):Int).toNat ((a0.length:Nat):Int).toNat)),(5,D0),(8,vI q0)]) (fun ⟨A0,q0,p0,D0,s0⟩ I0=>St w I0 [.row w.heap.size 30 (Rep.size UInt64) (.slice (some ⟨b0,0,none⟩) ((a0.length:Nat):Int).toNat ((a0.length:Nat):Int).toNat) p0.length s0]∧Tr I1 [.row w.heap.size 30 (Rep.size UInt64) (.slice (some ⟨b0,0,none⟩) ((a0.length:Nat):Int).toNat ((a0.length:Nat):Int).toNat) K0.length ((List.replicate ((a0.length:Nat):Int).toNat [vW 0]).flatten)] I0 [.row w.heap.size 30 (Rep.size UInt64) (.slice (some ⟨b0,0,none⟩) ((a0.length:Nat):Int).toNat ((a0.length:Nat):Int).toNat) p0.length s0]∧Rep.R I0 (bl [.row w.heap.size 30 (Rep.size UInt64) (.slice (some ⟨b0,0,none⟩) ((a0.length:Nat):Int).toNat ((a0.length:Nat):Int).toNat) p0.length s0] ++ L) [D0] A0∧Cells I0 (bl [.row w.heap.size 30 (Rep.size UInt64) (.slice (some ⟨b0,0,none⟩) ((a0.length:Nat):Int).toNat ((a0.length:Nat):Int).toNat) p0.length s0] ++ L) s0 p0) (fun ⟨A0,q0,p0,D0,s0⟩=>(A0,q0,p0)) (a0,R4,K0,v0_0,(List.replicate ((a0.length:Nat):Int).toNat [vW 0]).flatten) I3 ⟨rfl,rfl,rfl,rfl,trivial⟩ ⟨t0,Bd _ _,C3,v1⟩ ?_
 rintro k5 ⟨A0,q0,p0,D0,s0⟩ I0 x2 ⟨E0,H2,D1,b1⟩ h
 unfold wide_divided_l2 at h
 try dsimp only at h
 refine Ak<|Ac<|Ae rfl<|Ab (FV.geq (i:=q0) (j:=0) rfl rfl)<|Aa<|AX rfl h (fun g2 h=>?_) (fun g2 h=>?_)
 refine Av<|Ak<|AB<|Ac<|Ae rfl<|Ae rfl ?_
 obtain ⟨R1,I4,h⟩:=bi h
 refine By (fst:=[]) (cap:=[]) .plain body128 rfl (e2 rfl rfl) (fun w9 hw9=>wide_moved_c n _ w9 (E0.hL hL hw9) a1 (E0.km h1_0 hw9) q0 I4) rfl (fun W4 G5 M2 ⟨D5,hu_,E1⟩=>?_)
 subst hu_
 obtain ⟨F0,R0⟩:=E0.agr M2
 refine Ah rfl<|Aa<|Ac<|Ae rfl<|Ae rfl ?_
 obtain ⟨U1,J4,h⟩:=bi h
 have g1:=Ay D1 R0
 refine Ba (vI U1) body119 rfl (e2 rfl rfl) (fun w9 hw9=>wide_compared_c n _ w9 (F0.hL0 hL hw9) A0 (F0.kd g1 hw9) R1 (F0.kd E1 hw9) J4) rfl<|Ab (FV.geq (i:=U1) (j:=0) rfl rfl)<|Aa<|MX.join (α:=(List UInt64) × (List UInt64) × Value × (List Value)) (fun ⟨H0,v0,G0,y0⟩=>[(1,v1_0),(4,(.slice (some ⟨b0,0,none⟩) ((a0.length:Nat):Int).toNat ((a0.length:Nat):Int).toNat)),(5,G0),(8,vI q0)]) (fun ⟨H0,v0,G0,y0⟩ J0=>St w J0 [.row w.heap.size 30 (Rep.size UInt64) (.slice (some ⟨b0,0,none⟩) ((a0.length:Nat):Int).toNat ((a0.length:Nat):Int).toNat) v0.length y0]∧Tr W4 [.row w.heap.size 30 (Rep.size UInt64) (.slice (some ⟨b0,0,none⟩) ((a0.length:Nat):Int).toNat ((a0.length:Nat):Int).toNat) p0.length s0] J0 [.row w.heap.size 30 (Rep.size UInt64) (.slice (some ⟨b0,0,none⟩) ((a0.length:Nat):Int).toNat ((a0.length:Nat):Int).toNat) v0.length y0]∧Rep.R J0 (bl [.row w.heap.size 30 (Rep.size UInt64) (.slice (some ⟨b0,0,none⟩) ((a0.length:Nat):Int).toNat ((a0.length:Nat):Int).toNat) v0.length y0] ++ L) [G0] H0∧Cells J0 (bl [.row w.heap.size 30 (Rep.size UInt64) (.slice (some ⟨b0,0,none⟩) ((a0.length:Nat):Int).toNat ((a0.length:Nat):Int).toNat) v0.length y0] ++ L) y0 v0) (fun ⟨H0,v0,G0,y0⟩=>(H0,v0)) h ?_ ?_
 rintro ⟨H0,v0,G0,y0⟩ J0 ⟨z2,I2,Z3,V2⟩ h
 try dsimp only at h
 refine AC<|Ao<|Ae rfl ?_
 obtain ⟨U4,q4,h⟩:=bi h
 refine Ab (FV.subc (i:=q0) (j:=1) rfl rfl q4)<|Ah rfl<|Aa ?_
 exact x2 (H0,U4,v0,G0,y0) _ _ ⟨rfl,rfl,rfl,rfl,trivial⟩ ⟨z2,(Tt H2 (Tt R0 I2)),Z3,V2⟩ h
 intro p5 p1 h
 try dsimp only at h
 refine AX rfl h (fun j2 h=>?_) (fun j2 h=>?_)
 refine Ac<|Ae rfl<|Ae rfl ?_
 obtain ⟨c5,K4,h⟩:=bi h
 refine By (fst:=[]) (cap:=[]) .plain body120 rfl (e2 rfl rfl) (fun w9 hw9=>wide_taken_c n _ w9 (F0.hL hL hw9) A0 (Aq g1 hw9) R1 (Aq E1 hw9) K4) rfl (fun P5 H5 P2 ⟨E5,hu_,b4⟩=>?_)
 subst hu_
 obtain ⟨q1,s1⟩:=F0.agr P2
 obtain ⟨V1,M4,h⟩:=bi h
 refine By (fst:=[]) (cap:=[]) .plain body115 rfl (e2 rfl rfl) (fun w9 hw9=>wide_trimmed_c n _ w9 (q1.hL hL hw9) false c5 (Aq b4 hw9) M4) rfl (fun Q5 I5 Q2 ⟨H1,hu_,c4⟩=>?_)
 subst hu_
 obtain ⟨Y0,t1⟩:=q1.agr Q2
 refine Ab (FV.field1 (cs:=[.bool V1.fe,H1]) (off:=1) (m:=1) (by kernel_rfl) (by kernel_rfl) rfl rfl)<|Ah rfl<|Aa<|dt 10 tb104_16 (fun j0 u0=>?_)
 refine Af 0 1 j0 rfl u0 (fun _=>Aj rfl) rfl<|Af 1 3 j0 rfl u0 (fun _=>Aj rfl) rfl ?_
 obtain ⟨j1,s4,h⟩:=bi h
 refine Af 2 7 j0 rfl u0 (fun _=>FV.quoc (i:=q0) (j:=64) rfl rfl s4) rfl ?_
 obtain ⟨M1,A4,h⟩:=bi h
 obtain ⟨z1,B4⟩:=idx_in A4
 have K3:=Tt R0 (Tt s1 t1)
 have C1:=Bb b1 K3
 obtain ⟨X1,v5,U0,d1,t2,d4,D3⟩:=St.nth (α:=UInt64) Y0 .hd C1 B4
 obtain ⟨b2,x5,y1⟩:=St.nthOwn (α:=UInt64) Y0 .hd d1
 obtain rfl:X1 = ⟨b2,0,none⟩:=by rw [y1] at U0; cases U0; rfl
 have d3:t2 = [vU M1]:=d4; subst d3
 refine Af 3 15 j0 rfl u0 (fun _=>Bx 1 (j1.toNat) rfl U0 rfl z1 d1) rfl<|AA 4 31 1792 j0 rfl u0 (AJ rfl (D3 0 _ rfl)) rfl<|Af 5 63 j0 rfl u0 (fun _=>Aj rfl) rfl ?_
 obtain ⟨V4,t4,h⟩:=bi h
 refine Af 6 127 j0 rfl u0 (fun _=>FV.remc (i:=q0) (j:=64) rfl rfl t4) rfl ?_
 obtain ⟨P4,t3,h⟩:=bi h
 refine Af 7 255 j0 rfl u0 (fun _=>FV.shlI (a:=(1:UInt64)) (i:=V4) rfl rfl t3) rfl<|Af 8 511 j0 rfl u0 (fun _=>FV.orU (a:=M1) (b:=shlU (1:UInt64) P4) rfl rfl) rfl<|Af 9 1023 j0 rfl u0 (fun _=>Bx 1 (j1.toNat) rfl U0 rfl z1 d1) rfl ?_
 obtain ⟨Z4,D4,h⟩:=bi h
 refine BC (i:=10) (rk j0) (RO.acts (m' :=2047) (sk j0) rfl rfl .plain (Acts.set (α:=UInt64) (i:=j1.toNat) D4 Y0 y1 (fun _=>.hd) C1 rfl rfl rfl rfl rfl (by kernel_rfl)) (fun R5 ⟨u2,A2,u1,W2⟩=>?_))
 refine AH (dk j0) ?_
 have E3:=Ay c4 u1
 have M3:=Tt s1 (Tt t1 u1)
 exact p1 (V1.fo,Z4,H1,u2) _ _ ⟨rfl,rfl,rfl,rfl,trivial⟩ ⟨A2,M3,E3,W2⟩ h
 refine Av ?_
 have F3:=Bb b1 R0
 exact p1 (A0,p0,D0,s0) _ _ ⟨rfl,rfl,rfl,rfl,trivial⟩ ⟨F0,Bd _ _,g1,F3⟩ h
 refine Bj rfl ?_
 have h:=j3 _ h
 try dsimp only at h
 refine Ac<|Ae rfl<|Ae rfl<|Ah rfl<|Ah rfl<|Aa<|Am rfl ?_
 have g4:=Br (α:=UInt64) E0 .hd b1 hL
 have Q0:=St.delS E0 .hd
 have J2:=St.delT E0 .hd
 have j4:=Rep.at_ (α:=UInt64) (v:=(.slice (some ⟨b0,0,none⟩) ((a0.length:Nat):Int).toNat ((a0.length:Nat):Int).toNat)) (xs:=p0) Q0 L g4
 refine Al hb0 Tryz.func104 rfl (.cons (.tmp rfl) (.cons (.tmp rfl) .nil)) rfl ?_
 cases h
 have G3:=Ay D1 J2
 exact ⟨Q0.ag,fun w9 hw9=>⟨(.slice (some ⟨b0,0,none⟩) ((a0.length:Nat):Int).toNat ((a0.length:Nat):Int).toNat),D0,rfl,Q0.kd j4 hw9,Q0.kd G3 hw9⟩⟩
def tb85_1:List (Nat × Nat × Nat):=[(0,512,4),(1,1024,512),(0,2048,8),(4,4096,2048),(3,32,1024),(31,64,4096)]
theorem body104:bodyB Tryz.prog 104 = true:=by kernel_rfl
def wide_Long_Common_l1 (n:Nat) (d0:(List UInt64) × (List UInt64) → Option (List UInt64)):(List UInt64) × (List UInt64) → Option (List UInt64)
  | (c0,b0)=>(if 0 < b0.length then (wide_divided_p n c0 b0).bind fun g0=>d0 (b0,g0.2) else some c0)
def wide_Long_Common_p (n:Nat) (a0:TLong) (a1:TLong):Option TLong:=
  Option.bind (loopF (wide_Long_Common_l1 n) n (a0.fo,a1.fo)) (fun b0=>some (⟨false,b0⟩:TLong))
theorem wide_Long_Common_c (n:Nat) (L:List Nat) (w:World) (hL:∀ b ∈ L,b < w.heap.size) (a0:TLong) {v0_1:Value} (h0_1:Rep.R w L [v0_1] a0.fo) (a1:TLong) {v1_1:Value} (h1_1:Rep.R w L [v1_1] a1.fo)  {r:TLong} (h:wide_Long_Common_p n a0 a1 = some r) :
    Calls Tryz.prog 85 #[.agg #[.bool a0.fe,v0_1],.agg #[.bool a1.fe,v1_1]] w (Gives w fun w' u=>∃ v0_1:Value,u = .agg #[.bool r.fe,v0_1]∧Rep.R w' L [v0_1] r.fo):=by
 unfold wide_Long_Common_p at h
 have hS0:=Ax w
 refine AE Tryz.func85 rfl rfl rfl (fun _ cs0 hb0=>?_)
 refine Ac<|Ai .plain rfl (Ar hS0 rfl rfl) (fun y1 c1 C0 j1=>?_)
 refine Ai .plain rfl (Ar C0 rfl rfl) (fun z1 d1 D0 k1=>?_)
 refine Ai .plain rfl (Au [.bool false,vN] D0) (fun X0 g0 u0 p1=>?_)
 refine Aa<|Ak<|dt 6 tb85_1 (fun d0 j0=>?_)
 refine Af 0 1 d0 rfl j0 (fun _=>AQ 1 rfl) rfl<|AA 1 3 48 d0 rfl j0 (AJ rfl ((u0.memA (.tl (.tl .hd))) 1 _ rfl)) rfl<|Af 2 7 d0 rfl j0 (fun _=>AQ 1 rfl) rfl<|AA 3 15 32 d0 rfl j0 (AJ rfl ((u0.memA (.tl .hd)) 1 _ rfl)) rfl<|Af 4 31 d0 rfl j0 (fun _=>AY rfl) rfl<|Af 5 63 d0 rfl j0 (fun _=>AY rfl) rfl<|AH (dk d0)<|Ak<|AB ?_
 obtain ⟨v0,q1⟩:=AN u0 (.one .hd .done)
 have J0:=AP h0_1 v0
 have K0:=AP h1_1 v0
 obtain ⟨u1,Q0,I0⟩:=bind_in2 h
 refine Bw (α:=(List UInt64) × (List UInt64) × Value × Value) (fun ⟨p0,c0,b0,k0⟩=>[(4,vP g0),(5,b0),(6,k0)]) (fun ⟨p0,c0,b0,k0⟩ q0=>St w q0 [.cells g0 [.bool false,vN] 125]∧Tr X0 [.cells g0 [.bool false,vN] 125] q0 [.cells g0 [.bool false,vN] 125]∧Rep.R q0 (bl [.cells g0 [.bool false,vN] 125] ++ L) [b0] p0∧Rep.R q0 (bl [.cells g0 [.bool false,vN] 125] ++ L) [k0] c0) (fun ⟨p0,c0,b0,k0⟩=>(p0,c0)) (a0.fo,a1.fo,v0_1,v1_1) Q0 ⟨rfl,rfl,rfl,trivial⟩ ⟨v0,Bd _ _,J0,K0⟩ ?_
 rintro b1 ⟨p0,c0,b0,k0⟩ q0 B0 ⟨x0,F0,s0,t0⟩ h
 unfold wide_Long_Common_l1 at h
 try dsimp only at h
 refine Ak<|Ac<|Ae rfl ?_
 have s1:c0.length ≤ 281474976710656:=Bi t0
 refine Ab (Bk (xs:=c0) Tryz.underlying123 rfl t0)<|Ab (FV.gtrN (i:=c0.length) (j:=0) rfl rfl)<|Aa<|AX rfl h (fun A0 h=>?_) (fun A0 h=>?_)
 refine Av<|AB<|Ac<|Ae rfl<|Ae rfl ?_
 obtain ⟨Y0,V0,h⟩:=bi h
 refine By (fst:=[]) (cap:=[]) .plain body104 rfl (e2 rfl rfl) (fun w9 hw9=>wide_divided_c n _ w9 (x0.hL hL hw9) p0 (Aq s0 hw9) c0 (Aq t0 hw9) V0) rfl (fun A1 x1 H0 ⟨v1,W0,hu_,t1,R0⟩=>?_)
 subst hu_
 obtain ⟨E0,z0⟩:=x0.agr H0
 refine Ae rfl<|Ab (Ag rfl rfl)<|Ab (Ag rfl rfl)<|Ah rfl<|Ah rfl<|Aa<|Ao<|Ae rfl<|Ae rfl<|Ah rfl<|Ah rfl<|Aa<|AC ?_
 have M0:=Ay t0 z0
 exact B0 (c0,Y0.2,k0,W0) _ _ ⟨rfl,rfl,rfl,trivial⟩ ⟨E0,(Tt F0 z0),M0,R0⟩ h
 refine Bj rfl ?_
 have h:=I0 _ h
 try dsimp only at h
 refine Ac<|Ae rfl ?_
 obtain ⟨Z0,g1,U0,_⟩:=Rep.sl s0
 refine Ab (AK (vs:=[b0]) (u:=.agg #[.bool false,b0]) (e1 rfl) (fun w9=>by rw [U0]; try kernel_rfl))<|AL [.bool false,b0] x0 .hd (o2 rfl (AU s0)) (fun B1 y0 G0=>?_)
 refine Aa<|Am rfl<|Al hb0 Tryz.func85 rfl (.cons (.many (cs:=[.bool false,b0]) (by kernel_rfl) rfl (y0.memA .hd)) .nil) rfl ?_
 cases h
 have P0:=Ay s0 G0
 exact ⟨y0.ag,fun w9 hw9=>⟨b0,rfl,y0.kd P0 hw9⟩⟩
def wide_added_l1 (_n:Nat) (xs4:List UInt64) (xs7:List UInt64) (k0:UInt64 × Nat × (List UInt64) → Option ((List UInt64) × UInt64)):UInt64 × Nat × (List UInt64) → Option ((List UInt64) × UInt64)
  | (g0,b0,c0)=>(if b0 < xs4.length then (xs4[b0]?).bind fun q0=>jn (fun p0=>(add64 q0 p0 g0).bind fun j0=>(c0[b0]?).bind fun u0=>(put c0 ((b0:Nat):Int) j0.1).bind fun t0=>k0 (j0.2,b0 + 1,t0)) (fun d0=>(if b0 < xs7.length then (xs7[b0]?).bind fun s0=>d0 s0 else d0 (0:UInt64))) else some (c0,g0))
def wide_added_p (n:Nat) (a0:List UInt64) (a1:List UInt64):Option (List UInt64):=
  jn (fun (xs4,xs7)=>(mk ((xs4.length + 1:Nat):Int) (0:UInt64)).bind fun g0=>Option.bind (loopF (wide_added_l1 n xs4 xs7) n ((0:UInt64),0,g0)) (fun (c0,d0)=>(c0[xs4.length]?).bind fun k0=>(put c0 ((xs4.length:Nat):Int) d0).bind fun j0=>some j0)) (fun b0=>(if a0.length < a1.length then b0 (a1,a0) else b0 (a0,a1)))
theorem wide_added_c (n:Nat) (L:List Nat) (w:World) (hL:∀ b ∈ L,b < w.heap.size) (a0:List UInt64) {v0_0:Value} (h0_0:Rep.R w L [v0_0] a0) (a1:List UInt64) {v1_0:Value} (h1_0:Rep.R w L [v1_0] a1)  {r:List UInt64} (h:wide_added_p n a0 a1 = some r) :
    Calls Tryz.prog 118 #[v0_0,v1_0] w (Gives w fun w' u=>∃ v0_0:Value,u = v0_0∧Rep.R w' L [v0_0] r):=by
 unfold wide_added_p at h
 have hS0:=Ax w
 refine AE Tryz.func118 rfl rfl rfl (fun _ cs0 hb0=>?_)
 refine Ac<|Ah rfl<|Aa<|Ak<|Ac<|Ae rfl ?_
 have hl1:a0.length ≤ 281474976710656:=Bi h0_0
 refine Ab (Bk (xs:=a0) Tryz.underlying123 rfl h0_0)<|Ae rfl ?_
 have hl2:a1.length ≤ 281474976710656:=Bi h1_0
 refine Ab (Bk (xs:=a1) Tryz.underlying123 rfl h1_0)<|Ab (Bm (i:=a0.length) (j:=a1.length) rfl rfl)<|Aa<|MX.join (α:=(List UInt64) × (List UInt64) × Value × Value) (fun ⟨xs4,xs7,v5,v8⟩=>[(0,v5),(1,v8)]) (fun ⟨xs4,xs7,v5,v8⟩ wx9=>St w wx9 []∧Tr w [] wx9 []∧Rep.R wx9 (bl [] ++ L) [v5] xs4∧Rep.R wx9 (bl [] ++ L) [v8] xs7) (fun ⟨xs4,xs7,v5,v8⟩=>(xs4,xs7)) h ?_ ?_
 rintro ⟨xs4,xs7,v5,v8⟩ wx9 ⟨s1,K2,hr6,hr9⟩ h
 try dsimp only at h
 refine Ac<|Ae rfl ?_
 have Q2:xs4.length ≤ 281474976710656:=Bi hr6
 refine Ab (Bk (xs:=xs4) Tryz.underlying123 rfl hr6)<|Ab (Bl (i:=xs4.length) (j:=1) rfl rfl (by omega)) ?_
 obtain ⟨E0,R0,h⟩:=bi h
 refine Ai .plain rfl (Does.mk (α:=UInt64) R0 s1 el123 rfl) (fun q2 c0 H0 t0=>?_)
 have y1:=AM (cs:=(List.replicate ((xs4.length + 1:Nat):Int).toNat [vW 0]).flatten) (xs:=E0) H0 L (Cells.mk R0 rfl)
 refine Ah rfl<|Aa<|Ac<|Ah rfl<|Aa<|Ak<|Ac<|Ae rfl ?_
 have Q1:=Ay hr6 t0
 refine Ab (Bk (xs:=xs4) Tryz.underlying123 rfl Q1)<|Ae rfl<|Aa<|AB ?_
 obtain ⟨W2,R1,G1⟩:=bind_in2 h
 refine Bw (α:=UInt64 × Nat × (List UInt64) × (List Value)) (fun ⟨j0,b0,d0,g0⟩=>[(0,v5),(1,v8),(5,(.slice (some ⟨c0,0,none⟩) ((xs4.length + 1:Nat):Int).toNat ((xs4.length + 1:Nat):Int).toNat)),(6,vU j0),(21,v5),(22,vI ((xs4.length:Nat):Int)),(23,vI ((b0:Nat):Int))]) (fun ⟨j0,b0,d0,g0⟩ q0=>St w q0 [.row w.heap.size 30 (Rep.size UInt64) (.slice (some ⟨c0,0,none⟩) ((xs4.length + 1:Nat):Int).toNat ((xs4.length + 1:Nat):Int).toNat) d0.length g0]∧Tr q2 [.row w.heap.size 30 (Rep.size UInt64) (.slice (some ⟨c0,0,none⟩) ((xs4.length + 1:Nat):Int).toNat ((xs4.length + 1:Nat):Int).toNat) E0.length ((List.replicate ((xs4.length + 1:Nat):Int).toNat [vW 0]).flatten)] q0 [.row w.heap.size 30 (Rep.size UInt64) (.slice (some ⟨c0,0,none⟩) ((xs4.length + 1:Nat):Int).toNat ((xs4.length + 1:Nat):Int).toNat) d0.length g0]∧Cells q0 (bl [.row w.heap.size 30 (Rep.size UInt64) (.slice (some ⟨c0,0,none⟩) ((xs4.length + 1:Nat):Int).toNat ((xs4.length + 1:Nat):Int).toNat) d0.length g0] ++ L) g0 d0) (fun ⟨j0,b0,d0,g0⟩=>(j0,b0,d0)) ((0:UInt64),0,E0,(List.replicate ((xs4.length + 1:Nat):Int).toNat [vW 0]).flatten) R1 ⟨rfl,rfl,rfl,rfl,rfl,rfl,rfl,trivial⟩ ⟨H0,Bd _ _,y1⟩ ?_
 rintro B2 ⟨j0,b0,d0,g0⟩ q0 q1 ⟨p0,s0,y0⟩ h
 unfold wide_added_l1 at h
 try dsimp only at h
 refine Ac<|Ab (Bm (i:=b0) (j:=xs4.length) rfl rfl)<|Aa<|Ak<|AX rfl h (fun Z0 h=>?_) (fun Z0 h=>?_)
 refine Av<|Ak<|AB<|Ac<|Ae rfl ?_
 obtain ⟨D0,b2,h⟩:=bi h
 have K1:=Ay hr6 (Tt t0 s0)
 obtain ⟨y2,D2,A1,H1,d1,U1,J1⟩:=Bo K1 b2
 have B1:d1 = [vU D0]:=U1; subst B1
 refine Ab (Bx 1 b0 rfl A1 rfl rfl H1)<|AZ rfl (J1 0 _ rfl)<|Ah rfl<|Ah rfl<|Aa<|Ac<|Ah rfl<|Aa<|Ak<|Ac<|Ae rfl<|Ae rfl ?_
 have B0:=Ay hr9 (Tt t0 s0)
 have R2:xs7.length ≤ 281474976710656:=Bi B0
 refine Ab (Bk (xs:=xs7) Tryz.underlying123 rfl B0)<|Ab (Bm (i:=b0) (j:=xs7.length) rfl rfl)<|Aa<|MX.join (α:=UInt64) (fun k0=>[(0,v5),(1,v8),(5,(.slice (some ⟨c0,0,none⟩) ((xs4.length + 1:Nat):Int).toNat ((xs4.length + 1:Nat):Int).toNat)),(6,vU j0),(21,v5),(22,vI ((xs4.length:Nat):Int)),(23,vI ((b0:Nat):Int)),(7,vI ((b0:Nat):Int)),(8,vU D0),(9,vU k0)]) (fun k0 C0=>St w C0 [.row w.heap.size 30 (Rep.size UInt64) (.slice (some ⟨c0,0,none⟩) ((xs4.length + 1:Nat):Int).toNat ((xs4.length + 1:Nat):Int).toNat) d0.length g0]∧Tr q0 [.row w.heap.size 30 (Rep.size UInt64) (.slice (some ⟨c0,0,none⟩) ((xs4.length + 1:Nat):Int).toNat ((xs4.length + 1:Nat):Int).toNat) d0.length g0] C0 [.row w.heap.size 30 (Rep.size UInt64) (.slice (some ⟨c0,0,none⟩) ((xs4.length + 1:Nat):Int).toNat ((xs4.length + 1:Nat):Int).toNat) d0.length g0]) (fun k0=>k0) h ?_ ?_
 rintro k0 C0 ⟨u0,I0⟩ h
 try dsimp only at h
 refine Ao<|Ae rfl<|Ae rfl<|Ae rfl<|Ae rfl<|Ae rfl ?_
 obtain ⟨x2,p2,h⟩:=bi h
 refine Ab (FV.add64 (a:=D0) (b:=k0) (c:=j0) Tryz.func142 rfl (by kernel_rfl) (by kernel_rfl) (by kernel_rfl) rfl rfl rfl p2)<|Ae rfl<|Ab (Ag rfl rfl)<|Ab (Ag rfl rfl) ?_
 obtain ⟨s2,c2,h⟩:=bi h
 have Q0:=Bb y0 I0
 obtain ⟨V0,E2,z0,M0,g1,V1,U2⟩:=St.nth (α:=UInt64) u0 .hd Q0 c2
 obtain ⟨X0,F2,J0⟩:=St.nthOwn (α:=UInt64) u0 .hd M0
 obtain rfl:V0 = ⟨X0,0,none⟩:=by rw [J0] at z0; cases z0; rfl
 have C1:g1 = [vU s2]:=V1; subst C1
 refine Ab (Bx 1 b0 rfl z0 rfl rfl M0) ?_
 obtain ⟨u2,j2,h⟩:=bi h
 refine RG.acts' .plain (Acts.set (α:=UInt64) (i:=b0) j2 u0 J0 (fun _=>.hd) Q0 rfl rfl rfl rfl rfl (by kernel_rfl)) (fun X2 ⟨j1,u1,v1,x1⟩=>?_)
 refine Ah rfl<|Aa<|AC<|Ao<|Ab (Bl (i:=b0) (j:=1) rfl rfl (by omega))<|Ae rfl<|Aa ?_
 exact q1 (x2.2,b0 + 1,u2,j1) _ _ ⟨rfl,rfl,rfl,rfl,rfl,rfl,rfl,trivial⟩ ⟨u1,(Tt s0 (Tt I0 v1)),x1⟩ h
 intro C2 G0 h
 try dsimp only at h
 refine AX rfl h (fun b1 h=>?_) (fun b1 h=>?_)
 refine Ao<|Ae rfl<|Ae rfl ?_
 obtain ⟨U0,d2,h⟩:=bi h
 obtain ⟨z2,G2,D1,I1,k1,W1,M1⟩:=Bo B0 d2
 have E1:k1 = [vU U0]:=W1; subst E1
 refine Ab (Bx 1 b0 rfl D1 rfl rfl I1)<|AZ rfl (M1 0 _ rfl)<|Ah rfl<|Aa ?_
 exact G0 U0 _ _ ⟨rfl,rfl,rfl,rfl,rfl,rfl,rfl,rfl,rfl,rfl,trivial⟩ ⟨p0,Bd _ _⟩ h
 refine Av ?_
 exact G0 (0:UInt64) _ _ ⟨rfl,rfl,rfl,rfl,rfl,rfl,rfl,rfl,rfl,rfl,trivial⟩ ⟨p0,Bd _ _⟩ h
 refine Bj rfl ?_
 have h:=G1 _ h
 try dsimp only at h
 refine Ac<|Ae rfl<|Ae rfl ?_
 have P1:=Ay hr6 (Tt t0 s0)
 refine Ab (Bk (xs:=xs4) Tryz.underlying123 rfl P1)<|Ae rfl ?_
 obtain ⟨t2,g2,h⟩:=bi h
 obtain ⟨W0,H2,A0,P0,p1,X1,V2⟩:=St.nth (α:=UInt64) p0 .hd y0 g2
 obtain ⟨Y0,I2,K0⟩:=St.nthOwn (α:=UInt64) p0 .hd P0
 obtain rfl:W0 = ⟨Y0,0,none⟩:=by rw [K0] at A0; cases A0; rfl
 have F1:p1 = [vU t2]:=X1; subst F1
 refine Ab (Bx 1 (xs4.length) rfl A0 rfl rfl P0) ?_
 obtain ⟨v2,k2,h⟩:=bi h
 refine RG.acts' .plain (Acts.set (α:=UInt64) (i:=xs4.length) k2 p0 K0 (fun _=>.hd) y0 rfl rfl rfl rfl rfl (by kernel_rfl)) (fun Y2 ⟨J2,v0,M2,z1⟩=>?_)
 refine Aa<|Ac<|Ae rfl<|Ah rfl<|Aa<|Am rfl ?_
 have Y1:=Br (α:=UInt64) v0 .hd z1 hL
 have x0:=St.delS v0 .hd
 have P2:=St.delT v0 .hd
 have Z1:=Rep.at_ (α:=UInt64) (v:=(.slice (some ⟨c0,0,none⟩) ((xs4.length + 1:Nat):Int).toNat ((xs4.length + 1:Nat):Int).toNat)) (xs:=v2) x0 L Y1
 refine Be hb0 Tryz.func118 rfl rfl ?_
 cases h
 exact ⟨x0.ag,fun w9 hw9=>⟨(.slice (some ⟨c0,0,none⟩) ((xs4.length + 1:Nat):Int).toNat ((xs4.length + 1:Nat):Int).toNat),rfl,x0.kd Z1 hw9⟩⟩
 intro A2 F0 h
 try dsimp only at h
 refine AX rfl h (fun c1 h=>?_) (fun c1 h=>?_)
 refine Ao<|Ae rfl<|Ae rfl<|Ah rfl<|Ah rfl<|Aa ?_
 exact F0 (a1,a0,v1_0,v0_0) _ _ ⟨rfl,rfl,trivial⟩ ⟨hS0,Bd _ _,h1_0,h0_0⟩ h
 refine Av ?_
 exact F0 (a0,a1,v0_0,v1_0) _ _ ⟨rfl,rfl,trivial⟩ ⟨hS0,Bd _ _,h0_0,h1_0⟩ h
def tb99_2:List (Nat × Nat × Nat):=[(0,1024,4),(1,2048,1024),(0,4096,4),(4,8192,4096),(0,16384,8),(16,32768,16384),(40,65536,40960),(66,131072,67584),(255,0,131088)]
def tb99_5:List (Nat × Nat × Nat):=[(0,67108864,4),(1,134217728,67108864),(0,268435456,4),(4,536870912,268435456),(0,1073741824,8),(16,2147483648,1073741824),(40,4294967296,2684354560),(66,8589934592,4429185024),(255,0,8589934608)]
theorem body118:bodyB Tryz.prog 118 = true:=by kernel_rfl
def wide_Long_Plus_p (n:Nat) (a0:TLong) (a1:TLong):Option TLong:=
  (if (a0.fe == a1.fe) = true then (wide_added_p n a0.fo a1.fo).bind fun j0=>(wide_trimmed_p n a0.fe j0).bind fun k0=>some k0 else (wide_compared_p n a0.fo a1.fo).bind fun p0=>jn (fun (t0,d0,c0,g0)=>(wide_taken_p n g0 d0).bind fun q0=>(wide_trimmed_p n c0 q0).bind fun s0=>some s0) (fun b0=>(if p0 < 0 then b0 (a0.fe,a0.fo,a1.fe,a1.fo) else b0 (a1.fe,a1.fo,a0.fe,a0.fo))))
theorem wide_Long_Plus_c (n:Nat) (L:List Nat) (w:World) (hL:∀ b ∈ L,b < w.heap.size) (a0:TLong) {v0_1:Value} (h0_1:Rep.R w L [v0_1] a0.fo) (a1:TLong) {v1_1:Value} (h1_1:Rep.R w L [v1_1] a1.fo)  {r:TLong} (h:wide_Long_Plus_p n a0 a1 = some r) :
    Calls Tryz.prog 99 #[.agg #[.bool a0.fe,v0_1],.agg #[.bool a1.fe,v1_1]] w (Gives w fun w' u=>∃ v0_1:Value,u = .agg #[.bool r.fe,v0_1]∧Rep.R w' L [v0_1] r.fo):=by
 unfold wide_Long_Plus_p at h
 have hS0:=Ax w
 refine AE Tryz.func99 rfl rfl rfl (fun _ cs0 hb0=>?_)
 refine Ac<|Ai .plain rfl (Ar hS0 rfl rfl) (fun s2 s0 X0 U1=>?_)
 refine Ai .plain rfl (Ar X0 rfl rfl) (fun t2 t0 Y0 V1=>?_)
 refine Ai .plain rfl (Au [.bool false,vN] Y0) (fun M1 u0 b0 W1=>?_)
 refine Aa<|Ak<|Ac<|Bf 0 rfl<|AZ rfl ((b0.memA (.tl (.tl .hd))) 0 _ rfl)<|Bf 0 rfl<|AZ rfl ((b0.memA (.tl .hd)) 0 _ rfl)<|Ab (FV.eqlB (a:=a0.fe) (b:=a1.fe) Tryz.underlying4 rfl rfl)<|Aa<|MX.ifb rfl h (fun V0 h=>?_) (fun V0 h=>?_)
 refine Ak<|dt 8 tb99_2 (fun c0 v0=>?_)
 refine Af 0 1 c0 rfl v0 (fun _=>AQ 0 rfl) rfl<|AA 1 3 384 c0 rfl v0 (AJ rfl ((b0.memA (.tl (.tl .hd))) 0 _ rfl)) rfl<|Af 2 7 c0 rfl v0 (fun _=>AQ 1 rfl) rfl<|AA 3 15 448 c0 rfl v0 (AJ rfl ((b0.memA (.tl (.tl .hd))) 1 _ rfl)) rfl<|Af 4 31 c0 rfl v0 (fun _=>AQ 1 rfl) rfl<|AA 5 63 448 c0 rfl v0 (AJ rfl ((b0.memA (.tl .hd)) 1 _ rfl)) rfl ?_
 obtain ⟨P1,G1,h⟩:=bi h
 refine Bp 6 127 c0 rfl .plain body118 rfl (e2 rfl rfl) (fun w9 hw9=>wide_added_c n _ w9 (b0.hL hL hw9) a0.fo (b0.km h0_1 hw9) a1.fo (b0.km h1_1 hw9) G1) rfl (fun u2 j2 k1 ⟨d2,hu_,C1⟩=>?_)
 subst hu_
 obtain ⟨I0,X1⟩:=b0.agr k1
 obtain ⟨Q0,H1,h⟩:=bi h
 refine Bp 7 255 c0 rfl .plain body115 rfl (e2 rfl rfl) (fun w9 hw9=>wide_trimmed_c n _ w9 (I0.hL hL hw9) a0.fe P1 (Aq C1 hw9) H1) rfl (fun v2 k2 p1 ⟨F0,hu_,M0⟩=>?_)
 subst hu_
 obtain ⟨Z0,Y1⟩:=I0.agr p1
 refine Bq 8 511 c0 rfl rfl .plain (Aw (news:=[.bool Q0.fe,F0]) Z0 .hd rfl rfl rfl rfl rfl rfl (o2 rfl (AU M0))) (fun x2 D0 d1=>?_)
 refine AH (dk c0)<|Am rfl<|Al hb0 Tryz.func99 rfl (.cons (.many (cs:=[.bool Q0.fe,F0]) (by kernel_rfl) rfl (D0.memA .hd)) .nil) rfl ?_
 cases h
 have y1:=Ay M0 d1
 exact ⟨D0.ag,fun w9 hw9=>⟨F0,rfl,D0.kd y1 hw9⟩⟩
 refine Av<|Ak<|Ac<|Bf 1 rfl<|AZ rfl ((b0.memA (.tl (.tl .hd))) 1 _ rfl)<|Bf 1 rfl<|AZ rfl ((b0.memA (.tl .hd)) 1 _ rfl) ?_
 obtain ⟨R0,I1,h⟩:=bi h
 refine Ba (vI R0) body119 rfl (e2 rfl rfl) (fun w9 hw9=>wide_compared_c n _ w9 (b0.hL0 hL hw9) a0.fo (b0.k0 h0_1 hw9) a1.fo (b0.k0 h1_1 hw9) I1) rfl<|Ab (FV.lss (i:=R0) (j:=0) rfl rfl)<|Aa<|MX.join (α:=Bool × (List UInt64) × Bool × (List UInt64) × Value × Value) (fun ⟨j0,y0,g0,z0,p0,q0⟩=>[(2,vP s0),(3,vP t0),(4,vP u0)]) (fun ⟨j0,y0,g0,z0,p0,q0⟩ B0=>St w B0 [.cells u0 [.bool false,vN] 125,.cells t0 [.bool j0,p0] 125,.cells s0 [.bool g0,q0] 125]∧Tr M1 [.cells u0 [.bool false,vN] 125,.cells t0 [.bool a1.fe,v1_1] 125,.cells s0 [.bool a0.fe,v0_1] 125] B0 [.cells u0 [.bool false,vN] 125,.cells t0 [.bool j0,p0] 125,.cells s0 [.bool g0,q0] 125]∧Rep.R B0 (bl [.cells u0 [.bool false,vN] 125,.cells t0 [.bool j0,p0] 125,.cells s0 [.bool g0,q0] 125] ++ L) [p0] y0∧Rep.R B0 (bl [.cells u0 [.bool false,vN] 125,.cells t0 [.bool j0,p0] 125,.cells s0 [.bool g0,q0] 125] ++ L) [q0] z0) (fun ⟨j0,y0,g0,z0,p0,q0⟩=>(j0,y0,g0,z0)) h ?_ ?_
 rintro ⟨j0,y0,g0,z0,p0,q0⟩ B0 ⟨A0,Z1,D1,E1⟩ h
 try dsimp only at h
 refine Ak<|dt 8 tb99_5 (fun d0 x0=>?_)
 refine Af 0 1 d0 rfl x0 (fun _=>AQ 0 rfl) rfl<|AA 1 3 384 d0 rfl x0 (AJ rfl ((A0.memA (.tl (.tl .hd))) 0 _ rfl)) rfl<|Af 2 7 d0 rfl x0 (fun _=>AQ 1 rfl) rfl<|AA 3 15 448 d0 rfl x0 (AJ rfl ((A0.memA (.tl (.tl .hd))) 1 _ rfl)) rfl<|Af 4 31 d0 rfl x0 (fun _=>AQ 1 rfl) rfl<|AA 5 63 448 d0 rfl x0 (AJ rfl ((A0.memA (.tl .hd)) 1 _ rfl)) rfl ?_
 obtain ⟨Q1,J1,h⟩:=bi h
 refine Bp 6 127 d0 rfl .plain body120 rfl (e2 rfl rfl) (fun w9 hw9=>wide_taken_c n _ w9 (A0.hL hL hw9) z0 (Aq E1 hw9) y0 (Aq D1 hw9) J1) rfl (fun y2 p2 q1 ⟨g2,hu_,F1⟩=>?_)
 subst hu_
 obtain ⟨J0,b2⟩:=A0.agr q1
 obtain ⟨U0,K1,h⟩:=bi h
 refine Bp 7 255 d0 rfl .plain body115 rfl (e2 rfl rfl) (fun w9 hw9=>wide_trimmed_c n _ w9 (J0.hL hL hw9) g0 Q1 (Aq F1 hw9) K1) rfl (fun z2 q2 s1 ⟨G0,hu_,P0⟩=>?_)
 subst hu_
 obtain ⟨b1,c2⟩:=J0.agr s1
 refine Bq 8 511 d0 rfl rfl .plain (Aw (news:=[.bool U0.fe,G0]) b1 .hd rfl rfl rfl rfl rfl rfl (o2 rfl (AU P0))) (fun A2 E0 g1=>?_)
 refine AH (dk d0)<|Am rfl<|Al hb0 Tryz.func99 rfl (.cons (.many (cs:=[.bool U0.fe,G0]) (by kernel_rfl) rfl (E0.memA .hd)) .nil) rfl ?_
 cases h
 have z1:=Ay P0 g1
 exact ⟨E0.ag,fun w9 hw9=>⟨G0,rfl,E0.kd z1 hw9⟩⟩
 intro R1 H0 h
 try dsimp only at h
 refine AX rfl h (fun W0 h=>?_) (fun W0 h=>?_)
 refine Ao<|Ab (Az rfl (b0.memA (.tl .hd)))<|Ab (Az rfl (b0.memA (.tl (.tl .hd)))) ?_
 have A1:=AP h1_1 b0
 refine AL [.bool a1.fe,v1_1] b0 (.tl (.tl .hd)) (o2 rfl (AU A1)) (fun B2 K0 j1=>?_)
 have B1:=AP h0_1 K0
 refine AL [.bool a0.fe,v0_1] K0 (.tl .hd) (o2 rfl (AU B1)) (fun C2 C0 c1=>?_)
 refine Aa ?_
 have t1:=AP h0_1 C0
 have u1:=AP h1_1 C0
 exact H0 (a0.fe,a0.fo,a1.fe,a1.fo,v0_1,v1_1) _ _ ⟨rfl,rfl,rfl,trivial⟩ ⟨C0,(Tt j1 c1),t1,u1⟩ h
 refine Av ?_
 have v1:=AP h1_1 b0
 have x1:=AP h0_1 b0
 exact H0 (a1.fe,a1.fo,a0.fe,a0.fo,v1_1,v0_1) _ _ ⟨rfl,rfl,rfl,trivial⟩ ⟨b0,Bd _ _,v1,x1⟩ h
def wide_Long_Turned_p (n:Nat) (a0:TLong):Option TLong:=
  (wide_trimmed_p n (!a0.fe) a0.fo).bind fun b0=>some b0
theorem wide_Long_Turned_c (n:Nat) (L:List Nat) (w:World) (hL:∀ b ∈ L,b < w.heap.size) (a0:TLong) {v0_1:Value} (h0_1:Rep.R w L [v0_1] a0.fo)  {r:TLong} (h:wide_Long_Turned_p n a0 = some r) :
    Calls Tryz.prog 107 #[.agg #[.bool a0.fe,v0_1]] w (Gives w fun w' u=>∃ v0_1:Value,u = .agg #[.bool r.fe,v0_1]∧Rep.R w' L [v0_1] r.fo):=by
 unfold wide_Long_Turned_p at h
 have hS0:=Ax w
 refine AE Tryz.func107 rfl rfl rfl (fun _ cs0 hb0=>?_)
 refine Ac<|Ai .plain rfl (Ar hS0 rfl rfl) (fun C0 v0 k0 y0=>?_)
 refine Ai .plain rfl (Au [.bool false,vN] k0) (fun D0 x0 b0 z0=>?_)
 refine Aa<|Ac<|Bf 0 rfl<|AZ rfl ((b0.memA (.tl .hd)) 0 _ rfl)<|Ab (FV.not rfl)<|Bf 1 rfl<|AZ rfl ((b0.memA (.tl .hd)) 1 _ rfl) ?_
 obtain ⟨j0,u0,h⟩:=bi h
 refine By (fst:=[]) (cap:=[]) .plain body115 rfl (e2 rfl rfl) (fun w9 hw9=>wide_trimmed_c n _ w9 (b0.hL hL hw9) (!a0.fe) a0.fo (b0.km h0_1 hw9) u0) rfl (fun E0 B0 s0 ⟨d0,hu_,g0⟩=>?_)
 subst hu_
 obtain ⟨p0,A0⟩:=b0.agr s0
 refine AL [.bool j0.fe,d0] p0 .hd (o2 rfl (AU g0)) (fun F0 c0 q0=>?_)
 refine Aa<|Am rfl<|Al hb0 Tryz.func107 rfl (.cons (.many (cs:=[.bool j0.fe,d0]) (by kernel_rfl) rfl (c0.memA .hd)) .nil) rfl ?_
 cases h
 have t0:=Ay g0 q0
 exact ⟨c0.ag,fun w9 hw9=>⟨d0,rfl,c0.kd t0 hw9⟩⟩
def tb105_1:List (Nat × Nat × Nat):=[(0,32,4),(0,64,8),(2,128,64),(5,256,160),(15,0,272)]
theorem body99:bodyB Tryz.prog 99 = true:=by kernel_rfl
theorem body107:bodyB Tryz.prog 107 = true:=by kernel_rfl
def wide_Long_Minus_p (n:Nat) (a0:TLong) (a1:TLong):Option TLong:=
  (wide_Long_Turned_p n a1).bind fun b0=>(wide_Long_Plus_p n a0 b0).bind fun c0=>some c0
theorem wide_Long_Minus_c (n:Nat) (L:List Nat) (w:World) (hL:∀ b ∈ L,b < w.heap.size) (a0:TLong) {v0_1:Value} (h0_1:Rep.R w L [v0_1] a0.fo) (a1:TLong) {v1_1:Value} (h1_1:Rep.R w L [v1_1] a1.fo)  {r:TLong} (h:wide_Long_Minus_p n a0 a1 = some r) :
    Calls Tryz.prog 105 #[.agg #[.bool a0.fe,v0_1],.agg #[.bool a1.fe,v1_1]] w (Gives w fun w' u=>∃ v0_1:Value,u = .agg #[.bool r.fe,v0_1]∧Rep.R w' L [v0_1] r.fo):=by
 unfold wide_Long_Minus_p at h
 have hS0:=Ax w
 refine AE Tryz.func105 rfl rfl rfl (fun _ cs0 hb0=>?_)
 refine Ac<|Ai .plain rfl (Ar hS0 rfl rfl) (fun U0 E0 s0 H0=>?_)
 refine Ai .plain rfl (Ar s0 rfl rfl) (fun V0 F0 t0 I0=>?_)
 refine Ai .plain rfl (Au [.bool false,vN] t0) (fun W0 G0 c0 J0=>?_)
 refine Aa<|Ak<|dt 4 tb105_1 (fun b0 p0=>?_)
 refine AA 0 1 24 b0 rfl p0 (Az rfl (c0.memA (.tl (.tl .hd)))) rfl<|AA 1 3 28 b0 rfl p0 (Az rfl (c0.memA (.tl .hd))) rfl ?_
 obtain ⟨D0,B0,h⟩:=bi h
 refine Bp 2 7 b0 rfl .plain body107 rfl (e1 rfl) (fun w9 hw9=>wide_Long_Turned_c n _ w9 (c0.hL hL hw9) a1 (c0.km h1_1 hw9) B0) rfl (fun X0 Q0 x0 ⟨P0,hu_,A0⟩=>?_)
 subst hu_
 obtain ⟨d0,K0⟩:=c0.agr x0
 obtain ⟨q0,C0,h⟩:=bi h
 refine Bp 3 15 b0 rfl .plain body99 rfl (e2 rfl rfl) (fun w9 hw9=>wide_Long_Plus_c n _ w9 (d0.hL hL hw9) a0 (d0.km h0_1 hw9) D0 (Aq A0 hw9) C0) rfl (fun Y0 R0 y0 ⟨j0,hu_,k0⟩=>?_)
 subst hu_
 obtain ⟨u0,M0⟩:=d0.agr y0
 refine Bq 4 31 b0 rfl rfl .plain (Aw (news:=[.bool q0.fe,j0]) u0 .hd rfl rfl rfl rfl rfl rfl (o2 rfl (AU k0))) (fun Z0 g0 v0=>?_)
 refine AH (dk b0)<|Am rfl<|Al hb0 Tryz.func105 rfl (.cons (.many (cs:=[.bool q0.fe,j0]) (by kernel_rfl) rfl (g0.memA .hd)) .nil) rfl ?_
 cases h
 have z0:=Ay k0 v0
 exact ⟨g0.ag,fun w9 hw9=>⟨j0,rfl,g0.kd z0 hw9⟩⟩
theorem body84:bodyB Tryz.prog 84 = true:=by kernel_rfl
theorem body105:bodyB Tryz.prog 105 = true:=by kernel_rfl
def wide_Long_Cmp_p (n:Nat) (a0:TLong) (a1:TLong):Option Int:=
  (wide_Long_Minus_p n a0 a1).bind fun b0=>(wide_Long_Side_p n b0).bind fun c0=>some c0
theorem wide_Long_Cmp_c (n:Nat) (L:List Nat) (w:World) (hL:∀ b ∈ L,b < w.heap.size) (a0:TLong) {v0_1:Value} (h0_1:Rep.R w L [v0_1] a0.fo) (a1:TLong) {v1_1:Value} (h1_1:Rep.R w L [v1_1] a1.fo)  {r:Int} (h:wide_Long_Cmp_p n a0 a1 = some r) :
    Calls Tryz.prog 86 #[.agg #[.bool a0.fe,v0_1],.agg #[.bool a1.fe,v1_1]] w (Gives w fun _ u=>u = vI r):=by
 unfold wide_Long_Cmp_p at h
 have hS0:=Ax w
 refine AE Tryz.func86 rfl rfl rfl (fun _ cs0 hb0=>?_)
 refine Ac<|Ai .plain rfl (Ar hS0 rfl rfl) (fun B0 t0 d0 v0=>?_)
 refine Ai .plain rfl (Ar d0 rfl rfl) (fun C0 u0 b0 x0=>?_)
 refine Ah rfl<|Aa<|Ac<|Ab (Az rfl (b0.memA (.tl .hd)))<|Ab (Az rfl (b0.memA .hd)) ?_
 obtain ⟨q0,k0,h⟩:=bi h
 refine By (fst:=[]) (cap:=[]) .plain body105 rfl (e2 rfl rfl) (fun w9 hw9=>wide_Long_Minus_c n _ w9 (b0.hL hL hw9) a0 (b0.km h0_1 hw9) a1 (b0.km h1_1 hw9) k0) rfl (fun D0 A0 g0 ⟨z0,hu_,j0⟩=>?_)
 subst hu_
 obtain ⟨c0,y0⟩:=b0.agr g0
 obtain ⟨s0,p0,h⟩:=bi h
 refine Ba (vI s0) body84 rfl (e1 rfl) (fun w9 hw9=>wide_Long_Side_c n _ w9 (c0.hL0 hL hw9) q0 (c0.kd j0 hw9) p0) rfl<|Ah rfl<|Aa<|Am rfl<|Be hb0 Tryz.func86 rfl rfl ?_
 cases h
 exact c0.gv
def tb51_3:List (Nat × Nat × Nat):=[(0,256,16),(1,512,256),(2,1024,512),(4,2048,1024),(12,4096,2048),(16,8192,4112),(48,16384,12288),(16,32768,4112),(144,65536,36864),(336,131072,86016),(16,262144,4104),(1552,524288,397312),(2064,1048576,528384),(4112,2097152,1052672)]
theorem body82:bodyB Tryz.prog 82 = true:=by kernel_rfl
theorem body83:bodyB Tryz.prog 83 = true:=by kernel_rfl
theorem body85:bodyB Tryz.prog 85 = true:=by kernel_rfl
theorem body86:bodyB Tryz.prog 86 = true:=by kernel_rfl
def share_Check_p (n:Nat) (a0:TShare):Option Int:=
  (wide_From_p n (1:Int)).bind fun c0=>(share_Read_p n a0).bind fun b0=>(wide_Long_Side_p n b0.fp).bind fun d0=>(if d0 ≤ 0 then some (20:Int) else (wide_Long_Common_p n b0.ft b0.fp).bind fun g0=>(wide_Long_Cmp_p n g0 c0).bind fun j0=>(if j0 = 0 then some (0:Int) else some (20:Int)))
theorem share_Check_c (n:Nat) (L:List Nat) (w:World) (hL:∀ b ∈ L,b < w.heap.size) (a0:TShare)  {r:Int} (h:share_Check_p n a0 = some r) :
    Calls Tryz.prog 51 #[.agg ((cs_TShare a0)).toArray] w (Gives w fun _ u=>u = vI r):=by
 unfold share_Check_p at h
 have hS0:=Ax w
 refine AE Tryz.func51 rfl rfl rfl (fun _ cs0 hb0=>?_)
 refine Ac<|Ai .plain rfl (Ar hS0 rfl rfl) (fun E1 u1 t0 y1=>?_)
 refine Ah rfl<|Aa<|Ac ?_
 obtain ⟨B0,d1,h⟩:=bi h
 refine By (fst:=[]) (cap:=[]) .plain body82 rfl (e1 rfl) (fun w9 hw9=>wide_From_c n _ w9 (t0.hL hL hw9) (1:Int) d1) rfl (fun F1 B1 Q0 ⟨q1,hu_,x0⟩=>?_)
 subst hu_
 obtain ⟨G0,z1⟩:=t0.agr Q0
 refine Ai .plain rfl (Au [.bool false,vN] G0) (fun G1 v1 H0 u0=>?_)
 have V0:=Ay x0 u0
 refine AL [.bool B0.fe,q1] H0 .hd (o2 rfl (AU V0)) (fun H1 p0 K0=>?_)
 refine Aa<|Ac<|Ab (Az rfl (p0.memA (.tl .hd))) ?_
 obtain ⟨g0,g1,h⟩:=bi h
 refine By (fst:=[]) (cap:=[]) .plain body83 rfl (e1 rfl) (fun w9 hw9=>share_Read_c n _ w9 (p0.hL hL hw9) a0 g1) rfl (fun I1 C1 R0 ⟨A0,s0,hu_,y0,z0⟩=>?_)
 subst hu_
 obtain ⟨I0,M0⟩:=p0.agr R0
 refine Ai .plain rfl (Au [.bool false,vN,.bool false,vN] I0) (fun J1 x1 J0 k0=>?_)
 have W0:=Ay y0 k0
 have X0:=Ay z0 k0
 refine AL [.bool g0.ft.fe,A0,.bool g0.fp.fe,s0] J0 .hd (o4 rfl (AU W0) rfl (AU X0)) (fun K1 d0 q0=>?_)
 refine Aa<|Ak<|Ak<|dt 14 tb51_3 (fun b0 c0=>?_)
 refine Af 0 1 b0 rfl c0 (fun _=>AQ 2 rfl) rfl<|AA 1 3 16380 b0 rfl c0 (AR (cs:=[.bool g0.fp.fe,s0]) (by kernel_rfl) rfl (mem_part (d0.memA .hd) 2 2)) rfl ?_
 obtain ⟨C0,j1,h⟩:=bi h
 have v0:=Ay z0 (Tt k0 q0)
 refine BA 2 7 16376 (vI C0) b0 rfl c0 body84 rfl (e1 rfl) (fun w9 hw9=>wide_Long_Side_c n _ w9 (d0.hL0 hL hw9) g0.fp (d0.kd v0 hw9) j1) rfl<|Af 3 15 b0 rfl c0 (fun _=>FV.leq (i:=C0) (j:=0) rfl rfl) rfl<|Af 4 31 b0 rfl c0 (fun _=>Aj rfl) rfl<|RD.ifd (s:=12) rfl h (fun E0 h=>?_) (fun E0 h=>?_)
 refine Bs 8191 1 [(5,13),(6,14),(7,15),(8,16),(9,17),(10,18),(11,19),(12,20)] (F:=[(12,true)]) (U:=[]) b0 c0 (.cons rfl .nil) .nil ?_
 dsimp only [offS,List.map]
 refine Af 13 16383 b0 rfl c0 (fun _=>FV.pick_t rfl rfl) rfl<|AH (dk b0)<|AV rfl<|Ac<|Ah rfl<|Aa<|Am rfl<|Be hb0 Tryz.func51 rfl rfl ?_
 cases h
 exact d0.gv
 refine RD.vP 5 63 b0 rfl c0 (.yes rfl rfl) (fun _=>AQ 0 rfl) rfl<|RD.val (i:=6) (m' :=127) (W:=14848) (tk b0) rfl c0 (.yes rfl rfl) (AR (cs:=[.bool g0.ft.fe,A0]) (by kernel_rfl) rfl (mem_part (d0.memA .hd) 0 2)) rfl<|RD.vP 7 255 b0 rfl c0 (.yes rfl rfl) (fun _=>AQ 2 rfl) rfl<|RD.val (i:=8) (m' :=511) (W:=14848) (tk b0) rfl c0 (.yes rfl rfl) (AR (cs:=[.bool g0.fp.fe,s0]) (by kernel_rfl) rfl (mem_part (d0.memA .hd) 2 2)) rfl<|RD.val (i:=10) (m' :=1535) (W:=14336) (tk b0) rfl c0 (.yes rfl rfl) (Az rfl (d0.memA (.tl .hd))) rfl ?_
 obtain ⟨s1,k1,h⟩:=bi h
 have Y0:=Ay y0 (Tt k0 q0)
 refine Bp 9 2047 b0 rfl (.yes rfl rfl) body85 rfl (e2 rfl rfl) (fun w9 hw9=>wide_Long_Common_c n _ w9 (d0.hL hL hw9) g0.ft (Aq Y0 hw9) g0.fp (Aq v0 hw9) k1) rfl (fun M1 D1 U0 ⟨A1,hu_,c1⟩=>?_)
 subst hu_
 obtain ⟨j0,P0⟩:=d0.agr U0
 obtain ⟨D0,p1,h⟩:=bi h
 have b1:=Tt u0 (Tt K0 (Tt M0 (Tt k0 (Tt q0 P0))))
 have Z0:=Ay x0 b1
 refine RD.callq (i:=11) (m' :=4095) (W:=12288) (tk b0) rfl c0 (v:=vI D0) (fst:=[]) (cap:=[]) (.yes rfl rfl) body86 rfl (e2 rfl rfl) (fun w9 hw9=>wide_Long_Cmp_c n _ w9 (j0.hL0 hL hw9) s1 (j0.kd c1 hw9) B0 (j0.kd Z0 hw9) p1) rfl<|RD.vP 12 8191 b0 rfl c0 (.yes rfl rfl) (fun _=>FV.neq (i:=D0) (j:=0) rfl rfl) rfl<|Af 13 16383 b0 rfl c0 (fun _=>Bh rfl rfl) rfl<|AH (dk b0)<|MX.ifn rfl h (fun F0 h=>?_) (fun F0 h=>?_)
 refine Av<|Ac<|Ah rfl<|Aa<|Am rfl<|Be hb0 Tryz.func51 rfl rfl ?_
 cases h
 exact j0.gv
 refine Ac<|Ah rfl<|Aa<|Am rfl<|Be hb0 Tryz.func51 rfl rfl ?_
 cases h
 exact j0.gv
theorem body51:bodyB Tryz.prog 51 = true:=by kernel_rfl
def share_valid_1_p (n:Nat) (a0:TShare):Option Bool:=
  (share_Check_p n a0).bind fun b0=>some (decide (b0 = 0))
theorem share_valid_1_c (n:Nat) (L:List Nat) (w:World) (hL:∀ b ∈ L,b < w.heap.size) (a0:TShare)  {r:Bool} (h:share_valid_1_p n a0 = some r) :
    Calls Tryz.prog 111 #[.agg ((cs_TShare a0)).toArray] w (Gives w fun _ u=>u = .bool r):=by
 unfold share_valid_1_p at h
 have hS0:=Ax w
 refine AE Tryz.func111 rfl rfl rfl (fun _ cs0 hb0=>?_)
 refine Ac<|Ai .plain rfl (Ar hS0 rfl rfl) (fun k0 g0 b0 j0=>?_)
 refine Ah rfl<|Aa<|Ac<|Ab (Az rfl (b0.memA .hd)) ?_
 obtain ⟨c0,d0,h⟩:=bi h
 refine Ba (vI c0) body51 rfl (e1 rfl) (fun w9 hw9=>share_Check_c n _ w9 (b0.hL0 hL hw9) a0 d0) rfl<|Ab (FV.eql (i:=c0) (j:=0) rfl rfl)<|Ah rfl<|Aa<|Am rfl<|Be hb0 Tryz.func111 rfl rfl ?_
 cases h
 exact b0.gv
theorem op_A31 {w:World} {L:List Nat} {cs:List Value} {x:UInt64 × UInt64 × UInt64 × UInt64 × UInt64 × UInt64 × UInt64 × UInt64} (h:Rep.R w L cs x):cs = [vU x.1,vU x.2.1,vU x.2.2.1,vU x.2.2.2.1,vU x.2.2.2.2.1,vU x.2.2.2.2.2.1,vU x.2.2.2.2.2.2.1,vU x.2.2.2.2.2.2.2]:=by
  obtain ⟨c0,r0,rfl,h0,h⟩:=h
  have e0:c0 = [vU x.1]:=h0; subst e0
  obtain ⟨c1,r1,rfl,h1,h⟩:=h
  have e1:c1 = [vU x.2.1]:=h1; subst e1
  obtain ⟨c2,r2,rfl,h2,h⟩:=h
  have e2:c2 = [vU x.2.2.1]:=h2; subst e2
  obtain ⟨c3,r3,rfl,h3,h⟩:=h
  have e3:c3 = [vU x.2.2.2.1]:=h3; subst e3
  obtain ⟨c4,r4,rfl,h4,h⟩:=h
  have e4:c4 = [vU x.2.2.2.2.1]:=h4; subst e4
  obtain ⟨c5,r5,rfl,h5,h⟩:=h
  have e5:c5 = [vU x.2.2.2.2.2.1]:=h5; subst e5
  obtain ⟨c6,r6,rfl,h6,h⟩:=h
  have e6:c6 = [vU x.2.2.2.2.2.2.1]:=h6; subst e6
  have e7:r6 = [vU x.2.2.2.2.2.2.2]:=h; subst e7
  rfl
theorem mk_A31 {w:World} {L:List Nat} (a0:UInt64) (a1:UInt64) (a2:UInt64) (a3:UInt64) (a4:UInt64) (a5:UInt64) (a6:UInt64) (a7:UInt64):Rep.R w L [vU a0,vU a1,vU a2,vU a3,vU a4,vU a5,vU a6,vU a7] ((a0,a1,a2,a3,a4,a5,a6,a7):UInt64 × UInt64 × UInt64 × UInt64 × UInt64 × UInt64 × UInt64 × UInt64):=⟨[vU a0],[vU a1,vU a2,vU a3,vU a4,vU a5,vU a6,vU a7],rfl,rfl,⟨[vU a1],[vU a2,vU a3,vU a4,vU a5,vU a6,vU a7],rfl,rfl,⟨[vU a2],[vU a3,vU a4,vU a5,vU a6,vU a7],rfl,rfl,⟨[vU a3],[vU a4,vU a5,vU a6,vU a7],rfl,rfl,⟨[vU a4],[vU a5,vU a6,vU a7],rfl,rfl,⟨[vU a5],[vU a6,vU a7],rfl,rfl,⟨[vU a6],[vU a7],rfl,rfl,rfl⟩⟩⟩⟩⟩⟩⟩
theorem op_TShare {w:World} {L:List Nat} {cs:List Value} {x:TShare} (h:Rep.R w L cs x):cs = [vU x.fN.1,vU x.fN.2.1,vU x.fN.2.2.1,vU x.fN.2.2.2.1,vU x.fN.2.2.2.2.1,vU x.fN.2.2.2.2.2.1,vU x.fN.2.2.2.2.2.2.1,vU x.fN.2.2.2.2.2.2.2,vU x.fD.1,vU x.fD.2.1,vU x.fD.2.2.1,vU x.fD.2.2.2.1,vU x.fD.2.2.2.2.1,vU x.fD.2.2.2.2.2.1,vU x.fD.2.2.2.2.2.2.1,vU x.fD.2.2.2.2.2.2.2]:=by
  obtain ⟨c0,r0,rfl,h0,h⟩:=h
  obtain rfl:=op_A31 (x:=x.fN) h0
  obtain rfl:=op_A31 (x:=x.fD) h
  rfl
theorem mk_TShare {w:World} {L:List Nat} (a0:UInt64 × UInt64 × UInt64 × UInt64 × UInt64 × UInt64 × UInt64 × UInt64) (a1:UInt64 × UInt64 × UInt64 × UInt64 × UInt64 × UInt64 × UInt64 × UInt64):Rep.R w L [vU a0.1,vU a0.2.1,vU a0.2.2.1,vU a0.2.2.2.1,vU a0.2.2.2.2.1,vU a0.2.2.2.2.2.1,vU a0.2.2.2.2.2.2.1,vU a0.2.2.2.2.2.2.2,vU a1.1,vU a1.2.1,vU a1.2.2.1,vU a1.2.2.2.1,vU a1.2.2.2.2.1,vU a1.2.2.2.2.2.1,vU a1.2.2.2.2.2.2.1,vU a1.2.2.2.2.2.2.2] (⟨a0,a1⟩:TShare):=⟨[vU a0.1,vU a0.2.1,vU a0.2.2.1,vU a0.2.2.2.1,vU a0.2.2.2.2.1,vU a0.2.2.2.2.2.1,vU a0.2.2.2.2.2.2.1,vU a0.2.2.2.2.2.2.2],[vU a1.1,vU a1.2.1,vU a1.2.2.1,vU a1.2.2.2.1,vU a1.2.2.2.2.1,vU a1.2.2.2.2.2.1,vU a1.2.2.2.2.2.2.1,vU a1.2.2.2.2.2.2.2],rfl,mk_A31 a0.1 a0.2.1 a0.2.2.1 a0.2.2.2.1 a0.2.2.2.2.1 a0.2.2.2.2.2.1 a0.2.2.2.2.2.2.1 a0.2.2.2.2.2.2.2,mk_A31 a1.1 a1.2.1 a1.2.2.1 a1.2.2.2.1 a1.2.2.2.2.1 a1.2.2.2.2.2.1 a1.2.2.2.2.2.2.1 a1.2.2.2.2.2.2.2⟩
theorem body111:bodyB Tryz.prog 111 = true:=by kernel_rfl
theorem body112:bodyB Tryz.prog 112 = true:=by kernel_rfl
def share_valid_l1 (n:Nat) (a0:List TShare) (c0:Nat → Option (Bool ⊕ Unit)):Nat → Option (Bool ⊕ Unit)
  | b0=>(if b0 < a0.length then (a0[b0]?).bind fun d0=>(share_valid_1_p n d0).bind fun g0=>(if g0 = true then c0 (b0 + 1) else some (.inl false)) else some (.inr ()))
def share_valid_p (n:Nat) (a0:List TShare):Option Bool:=
  thn (loopF (share_valid_l1 n a0) n 0) (fun _=>some true)
theorem share_valid_c (n:Nat) (L:List Nat) (w:World) (hL:∀ b ∈ L,b < w.heap.size) (a0:List TShare) {v0_0:Value} (h0_0:Rep.R w L [v0_0] a0)  {r:Bool} (h:share_valid_p n a0 = some r) :
    Calls Tryz.prog 93 #[v0_0] w (Gives w fun _ u=>u = .bool r):=by
 unfold share_valid_p at h
 have hS0:=Ax w
 refine AE Tryz.func93 rfl rfl rfl (fun _ cs0 hb0=>?_)
 refine Ac<|Ah rfl<|Aa<|Ac<|Ah rfl<|Aa<|Ac<|Ae rfl<|Ae rfl<|Bc (fst:=[]) (cap:=[]) (vs:=[.func (.func 111) #[] #[],v0_0]) .plain body112 Tryz.func112 rfl rfl rfl rfl (e2 rfl rfl) rfl (fun cs2 hb1 hp3=>?_)
 refine Ac<|Ah rfl<|Aa<|Ak<|Ac<|Ae rfl ?_
 have hl4:a0.length ≤ 281474976710656:=Bi h0_0
 refine Ab (Bk (xs:=a0) Tryz.underlying60 rfl h0_0)<|Ae rfl<|Aa<|AB ?_
 obtain ⟨U0,E0,j0⟩:=thn_in h
 refine Bw (α:=Nat) (fun b0=>[(0,.func (.func 111) #[] #[]),(7,v0_0),(8,vI ((a0.length:Nat):Int)),(9,vI ((b0:Nat):Int))]) (fun b0 g0=>St w g0 []∧Tr w [] g0 []) (fun b0=>b0) 0 E0 ⟨rfl,rfl,rfl,rfl,trivial⟩ ⟨hS0,Bd _ _⟩ ?_
 rintro M0 b0 g0 s0 ⟨d0,v0⟩ h
 unfold share_valid_l1 at h
 try dsimp only at h
 refine Ac<|Ab (Bm (i:=b0) (j:=a0.length) rfl rfl)<|Aa<|Ak<|AX rfl h (fun p0 h=>?_) (fun p0 h=>?_)
 refine Av<|Ak<|AB<|Ac ?_
 obtain ⟨k0,H0,h⟩:=bi h
 have D0:=AP h0_0 d0
 obtain ⟨K0,Q0,A0,B0,R0,G0,C0⟩:=Bo D0 H0
 obtain rfl:=op_TShare G0
 refine Ab (Bx 16 b0 rfl A0 rfl rfl B0)<|Ab (Az rfl C0)<|Ai .plain rfl (Au zL d0) (fun V0 P0 t0 x0=>?_)
 refine AL (cs_TShare k0) t0 .hd (onesB rfl) (fun W0 c0 y0=>?_)
 refine Aa<|Ac<|Ae rfl<|Ab (Az rfl (c0.memA .hd)) ?_
 obtain ⟨J0,I0,h⟩:=bi h
 refine Ba (.bool J0) body111 rfl (e1 rfl) (fun w9 hw9=>share_valid_1_c n _ w9 (c0.hL0 hL hw9) k0 I0) rfl<|Ab (FV.not rfl)<|Aa<|MX.ifnb rfl h (fun q0 h=>?_) (fun q0 h=>?_)
 refine Av<|AC<|Ao<|Ab (Bl (i:=b0) (j:=1) rfl rfl (by omega))<|Ae rfl<|Aa ?_
 obtain ⟨u0,z0⟩:=AN c0 .done
 have F0:=Tt x0 (Tt y0 z0)
 exact s0 (b0 + 1) _ _ ⟨rfl,rfl,rfl,rfl,trivial⟩ ⟨u0,(Tt v0 F0)⟩ h
 refine Ac<|Ah rfl<|Aa ?_
 have h:=thn_inl h j0
 refine Am rfl<|Al (u:=.bool false) hb1 Tryz.func112 rfl (.cons (.tmp rfl) .nil) rfl<|Ah rfl<|Aa<|Am rfl<|Be hb0 Tryz.func93 rfl rfl ?_
 cases h
 exact c0.gv
 refine Bj rfl ?_
 have h:=thn_inr h j0
 try dsimp only at h
 refine Ac<|Ah rfl<|Aa<|Am rfl<|Al (u:=.bool true) hb1 Tryz.func112 rfl (.cons (.tmp rfl) .nil) rfl<|Ah rfl<|Aa<|Am rfl<|Be hb0 Tryz.func93 rfl rfl ?_
 cases h
 exact d0.gv
def tb113_2:List (Nat × Nat × Nat):=[(0,262144,4),(1,524288,262144),(0,1048576,8),(4,2097152,1048576),(10,4194304,2621440),(0,8388608,64),(48,16777216,12582912),(0,33554432,4),(128,67108864,33554432),(0,134217728,128),(832,268435456,201326592),(1151,0,16777232),(4095,0,268435488)]
def tb113_8:List (Nat × Nat × Nat):=[(0,35184372088832,16),(0,70368744177664,32),(1,0,35184372088848),(7,0,70368744177696)]
def wide_Long_Parts_p (n:Nat) (a0:TLong) (a1:TLong):Option (TLong × TLong):=
  (wide_divided_p n a0.fo a1.fo).bind fun c0=>(wide_trimmed_p n (!(a0.fe == a1.fe)) c0.1).bind fun d0=>(wide_trimmed_p n a0.fe c0.2).bind fun b0=>(if b0.fe = true then (wide_Long_Plus_p n b0 (⟨false,a1.fo⟩:TLong)).bind fun j0=>(wide_Long_Plus_p n d0 (⟨(!a1.fe),([(1:UInt64)]:List UInt64)⟩:TLong)).bind fun g0=>some (g0,j0) else some (d0,b0))
theorem wide_Long_Parts_c (n:Nat) (L:List Nat) (w:World) (hL:∀ b ∈ L,b < w.heap.size) (a0:TLong) {v0_1:Value} (h0_1:Rep.R w L [v0_1] a0.fo) (a1:TLong) {v1_1:Value} (h1_1:Rep.R w L [v1_1] a1.fo)  {r:TLong × TLong} (h:wide_Long_Parts_p n a0 a1 = some r) :
    Calls Tryz.prog 113 #[.agg #[.bool a0.fe,v0_1],.agg #[.bool a1.fe,v1_1]] w (Gives w fun w' u=>∃ v0_1 v1_1:Value,u = .tuple #[.agg #[.bool r.1.fe,v0_1],.agg #[.bool r.2.fe,v1_1]]∧Rep.R w' L [v0_1] r.1.fo∧Rep.R w' L [v1_1] r.2.fo):=by
 unfold wide_Long_Parts_p at h
 have hS0:=Ax w
 refine AE Tryz.func113 rfl rfl rfl (fun _ cs0 hb0=>?_)
 refine Ac<|Ai .plain rfl (Ar hS0 rfl rfl) (fun b4 u1 Y1 H3=>?_)
 refine Ai .plain rfl (Ar Y1 rfl rfl) (fun g4 v1 d2 I3=>?_)
 refine Ai .plain rfl (Au [.bool false,vN] d2) (fun j4 d0 g2 J3=>?_)
 refine Ai .plain rfl (Au [.bool false,vN] g2) (fun p4 g0 B0 K3=>?_)
 refine Aa<|Ac<|Bf 1 rfl<|Ab (AJ rfl ((B0.memA (.tl (.tl (.tl .hd)))) 1 _ rfl))<|Bf 1 rfl<|AZ rfl ((B0.memA (.tl (.tl .hd))) 1 _ rfl) ?_
 obtain ⟨R1,x3,h⟩:=bi h
 refine By (fst:=[]) (cap:=[]) .plain body104 rfl (e2 rfl rfl) (fun w9 hw9=>wide_divided_c n _ w9 (B0.hL hL hw9) a0.fo (B0.km h0_1 hw9) a1.fo (B0.km h1_1 hw9) x3) rfl (fun q4 U3 D2 ⟨P3,Q3,hu_,s3,t3⟩=>?_)
 subst hu_
 obtain ⟨H0,M3⟩:=B0.agr D2
 refine Ae rfl<|Ab (Ag rfl rfl)<|Ab (Ag rfl rfl)<|Ah rfl<|Ah rfl<|Aa<|Ak<|dt 11 tb113_2 (fun b0 c0=>?_)
 refine Af 0 1 b0 rfl c0 (fun _=>AQ 0 rfl) rfl<|AA 1 3 7248 b0 rfl c0 (AJ rfl ((H0.memA (.tl (.tl (.tl .hd)))) 0 _ rfl)) rfl<|Af 2 7 b0 rfl c0 (fun _=>AQ 0 rfl) rfl<|AA 3 15 7248 b0 rfl c0 (AJ rfl ((H0.memA (.tl (.tl .hd))) 0 _ rfl)) rfl<|Af 4 31 b0 rfl c0 (fun _=>FV.neqB (a:=a0.fe) (b:=a1.fe) Tryz.underlying4 rfl rfl) rfl<|Af 5 63 b0 rfl c0 (fun _=>Aj rfl) rfl<|Af 7 191 b0 rfl c0 (fun _=>AQ 0 rfl) rfl<|AA 8 447 7168 b0 rfl c0 (AJ rfl ((H0.memA (.tl (.tl (.tl .hd)))) 0 _ rfl)) rfl<|Af 9 959 b0 rfl c0 (fun _=>Aj rfl) rfl ?_
 obtain ⟨v0,y3,h⟩:=bi h
 refine Bp 6 1023 b0 rfl .plain body115 rfl (e2 rfl rfl) (fun w9 hw9=>wide_trimmed_c n _ w9 (H0.hL hL hw9) (!(a0.fe == a1.fe)) R1.1 (Aq s3 hw9) y3) rfl (fun s4 V3 E2 ⟨s0,hu_,K0⟩=>?_)
 subst hu_
 obtain ⟨A1,A2⟩:=H0.agr E2
 obtain ⟨x0,z3,h⟩:=bi h
 have V2:=Ay t3 A2
 refine Bp 10 2047 b0 rfl .plain body115 rfl (e2 rfl rfl) (fun w9 hw9=>wide_trimmed_c n _ w9 (A1.hL hL hw9) a0.fe R1.2 (Aq V2 hw9) z3) rfl (fun t4 W3 F2 ⟨t0,hu_,X0⟩=>?_)
 subst hu_
 obtain ⟨q2,J0⟩:=A1.agr F2
 have W2:=Ay K0 J0
 refine Bq 11 4095 b0 rfl rfl .plain (Aw (news:=[.bool v0.fe,s0]) q2 (.tl .hd) rfl rfl rfl rfl rfl rfl (o2 rfl (AU W2))) (fun u4 s2 y0=>?_)
 have X2:=Ay X0 y0
 refine Bq 12 8191 b0 rfl rfl .plain (Aw (news:=[.bool x0.fe,t0]) s2 .hd rfl rfl rfl rfl rfl rfl (o2 rfl (AU X2))) (fun D3 j0 C0=>?_)
 refine AH (dk b0)<|Ak<|Ac<|Bf 0 rfl<|AZ rfl ((j0.memA .hd) 0 _ rfl)<|Aa<|MX.ifb rfl h (fun W1 h=>?_) (fun W1 h=>?_)
 refine Ac<|Bf 1 rfl<|AZ rfl ((j0.memA (.tl (.tl .hd))) 1 _ rfl) ?_
 have Y2:=AP h1_1 j0
 obtain ⟨F3,G3,u3,_⟩:=Rep.sl Y2
 refine Ab (AK (vs:=[v1_1]) (u:=.agg #[.bool false,v1_1]) (e1 rfl) (fun w9=>by rw [u3]; try kernel_rfl))<|Ai .plain rfl (Au [.bool false,vN] j0) (fun v4 V1 B1 I1=>?_)
 have Z2:=AP h1_1 B1
 refine AL [.bool false,v1_1] B1 .hd (o2 rfl (AU Z2)) (fun x4 I0 J1=>?_)
 refine Aa<|Ac<|Ab (Az rfl (I0.memA (.tl .hd)))<|Ab (Az rfl (I0.memA .hd)) ?_
 obtain ⟨A0,A3,h⟩:=bi h
 have k3:=Tt y0 (Tt C0 (Tt I1 J1))
 have b3:=Ay X0 k3
 refine By (fst:=[]) (cap:=[]) .plain body99 rfl (e2 rfl rfl) (fun w9 hw9=>wide_Long_Plus_c n _ w9 (I0.hL hL hw9) x0 (Aq b3 hw9) (⟨false,a1.fo⟩:TLong) (I0.km h1_1 hw9) A3) rfl (fun y4 X3 G2 ⟨u0,hu_,q1⟩=>?_)
 subst hu_
 obtain ⟨t2,B2⟩:=I0.agr G2
 refine AL [.bool A0.fe,u0] t2 (.tl .hd) (o2 rfl (AU q1)) (fun z4 C1 d1=>?_)
 refine Aa<|Ac<|Bf 0 rfl<|Ab (AJ rfl ((C1.memA (.tl (.tl (.tl .hd)))) 0 _ rfl))<|Ab (FV.not rfl)<|Ai .plain rfl (AT (α:=UInt64) (xs:=([(1:UInt64)]:List UInt64)) (vs:=[vW 1]) (ds' :=[vW 1]) rfl C1 el123 rfl (e1 rfl) (by kernel_rfl) rfl) (fun A4 D0 D1 g1=>?_)
 have H2:=AM (cs:=[vW 1]) (xs:=(([(1:UInt64)]:List UInt64):List UInt64)) D1 L (Ap (cs:=[vW 1]) (ds:=[]) rfl (AS _ _))
 refine Ab (AK (vs:=[.bool (!a1.fe),(vS D0 1)]) (u:=.agg #[.bool (!a1.fe),(vS D0 1)]) (e2 rfl rfl) (fun w9=>by kernel_rfl))<|Ai .plain rfl (Au [.bool false,vN] D1) (fun Y3 U1 z1 R0=>?_)
 refine AL [.bool (!a1.fe),(vS D0 1)] z1 .hd (o2 rfl (St.o1 (α:=UInt64) z1 (.tl .hd))) (fun Z3 E0 U0=>?_)
 refine Aa<|Ao<|Ab (Az rfl (E0.memA (.tl (.tl (.tl (.tl .hd))))))<|Ab (Az rfl (E0.memA .hd)) ?_
 have I2:=Bb H2 (Tt R0 U0)
 have p3:=Br (α:=UInt64) E0 (.tl .hd) I2 hL
 have Y0:=St.delS E0 (.tl .hd)
 have Z0:=St.delT E0 (.tl .hd)
 have q3:=Rep.at_ (α:=UInt64) (v:=(vS D0 1)) (xs:=([(1:UInt64)]:List UInt64)) Y0 L p3
 obtain ⟨z0,v3,h⟩:=bi h
 have c3:=Tt J0 (Tt y0 (Tt C0 (Tt I1 (Tt J1 (Tt B2 (Tt d1 (Tt g1 (Tt R0 (Tt U0 Z0)))))))))
 have J2:=Ay K0 c3
 refine By (fst:=[]) (cap:=[]) .plain body99 rfl (e2 rfl rfl) (fun w9 hw9=>wide_Long_Plus_c n _ w9 (Y0.hL hL hw9) v0 (Aq J2 hw9) (⟨(!a1.fe),([(1:UInt64)]:List UInt64)⟩:TLong) (Aq q3 hw9) v3) rfl (fun c4 R3 C2 ⟨q0,hu_,W0⟩=>?_)
 subst hu_
 obtain ⟨X1,E1⟩:=Y0.agr C2
 refine AL [.bool z0.fe,q0] X1 (.tl (.tl (.tl .hd))) (o2 rfl (AU W0)) (fun B3 M0 V0=>?_)
 refine Aa<|Ak<|dt 2 tb113_8 (fun k0 P1=>?_)
 refine AA 0 1 12 k0 rfl P1 (Az rfl (M0.memA (.tl (.tl (.tl .hd))))) rfl<|RD.meet (α:=Unit) (fun ()=>[(4,vP d0),(5,vP g0),(46,.agg #[.bool A0.fe,u0])]) (fun () s1=>St w s1 [.cells g0 [.bool A0.fe,u0] 125,.cells d0 [.bool z0.fe,q0] 125]∧Tr B3 [.cells U1 [.bool (!a1.fe),(vS D0 1)] 125,.cells V1 [.bool false,v1_1] 125,.cells g0 [.bool A0.fe,u0] 125,.cells d0 [.bool z0.fe,q0] 125,.cells v1 [.bool a1.fe,v1_1] 125,.cells u1 [.bool a0.fe,v0_1] 125] s1 [.cells g0 [.bool A0.fe,u0] 125,.cells d0 [.bool z0.fe,q0] 125]) 1 7 ?_ ?_
 rintro ⟨⟩ s1 ⟨Z1,F1⟩
 try dsimp only
 have d3:=Tt d1 (Tt g1 (Tt R0 (Tt U0 (Tt Z0 (Tt E1 (Tt V0 F1))))))
 have K2:=Ay q1 d3
 refine Bq 3 15 k0 rfl rfl .plain (Aw (news:=[.bool A0.fe,u0]) Z1 .hd rfl rfl rfl rfl rfl rfl (o2 rfl (AU K2))) (fun d4 F0 u2=>?_)
 refine AH (dk k0)<|Am rfl<|Al hb0 Tryz.func113 rfl (.cons (.many (cs:=[.bool z0.fe,q0]) (by kernel_rfl) rfl (F0.memA (.tl .hd))) (.cons (.many (cs:=[.bool A0.fe,u0]) (by kernel_rfl) rfl (F0.memA .hd)) .nil)) rfl ?_
 cases h
 have K1:=Tt V0 (Tt F1 u2)
 have M2:=Ay W0 K1
 have g3:=Tt d1 (Tt g1 (Tt R0 (Tt U0 (Tt Z0 (Tt E1 K1)))))
 have P2:=Ay q1 g3
 exact ⟨F0.ag,fun w9 hw9=>⟨q0,u0,rfl,F0.kd M2 hw9,F0.kd P2 hw9⟩⟩
 intro x1
 refine RD.each [1,2] (rk k0) ⟨?_,?_,trivial⟩
 refine RO.val (m' :=3) (sk k0) rfl .plain rfl (Az rfl (M0.memA (.tl (.tl .hd)))) ?_
 have k1:=Ay W0 V0
 refine Bq 2 7 k0 rfl rfl .plain (Aw (news:=[.bool z0.fe,q0]) M0 (.tl (.tl (.tl .hd))) rfl rfl rfl rfl rfl rfl (o2 rfl (AU k1))) (fun E3 Q0 c1=>?_)
 obtain ⟨b2,v2⟩:=AN Q0 (.one (.tl (.tl .hd)) (.one (.tl (.tl .hd)) .done))
 exact x1 () _ _ ⟨rfl,rfl,rfl,trivial⟩ ⟨b2,(Tt c1 v2)⟩
 have k1:=Ay W0 V0
 refine RO.now (m' :=5) (sk k0) rfl rfl .plain (Aw (news:=[.bool z0.fe,q0]) M0 (.tl (.tl (.tl .hd))) rfl rfl rfl rfl rfl rfl (o2 rfl (AU k1))) (fun E3 Q0 c1=>?_)
 refine AA 1 7 8 k0 rfl P1 (Az rfl (Q0.memA (.tl (.tl .hd)))) rfl ?_
 obtain ⟨c2,x2⟩:=AN Q0 (.one (.tl (.tl .hd)) (.one (.tl (.tl .hd)) .done))
 exact x1 () _ _ ⟨rfl,rfl,rfl,trivial⟩ ⟨c2,(Tt c1 x2)⟩
 refine Av<|Ak<|dt 2 tb113_8 (fun p0 Q1=>?_)
 refine AA 0 1 12 p0 rfl Q1 (Az rfl (j0.memA (.tl .hd))) rfl<|RD.meet (α:=Unit) (fun ()=>[(4,vP d0),(5,vP g0),(46,.agg #[.bool x0.fe,t0])]) (fun () t1=>St w t1 [.cells g0 [.bool x0.fe,t0] 125,.cells d0 [.bool v0.fe,s0] 125]∧Tr D3 [.cells g0 [.bool x0.fe,t0] 125,.cells d0 [.bool v0.fe,s0] 125,.cells v1 [.bool a1.fe,v1_1] 125,.cells u1 [.bool a0.fe,v0_1] 125] t1 [.cells g0 [.bool x0.fe,t0] 125,.cells d0 [.bool v0.fe,s0] 125]) 1 7 ?_ ?_
 rintro ⟨⟩ t1 ⟨j2,G1⟩
 try dsimp only
 have M1:=Tt y0 (Tt C0 G1)
 have Q2:=Ay X0 M1
 refine Bq 3 15 p0 rfl rfl .plain (Aw (news:=[.bool x0.fe,t0]) j2 .hd rfl rfl rfl rfl rfl rfl (o2 rfl (AU Q2))) (fun k4 G0 H1=>?_)
 refine AH (dk p0)<|Am rfl<|Al hb0 Tryz.func113 rfl (.cons (.many (cs:=[.bool v0.fe,s0]) (by kernel_rfl) rfl (G0.memA (.tl .hd))) (.cons (.many (cs:=[.bool x0.fe,t0]) (by kernel_rfl) rfl (G0.memA .hd)) .nil)) rfl ?_
 cases h
 have j3:=Tt J0 (Tt y0 (Tt C0 (Tt G1 H1)))
 have R2:=Ay K0 j3
 have U2:=Ay X0 (Tt M1 H1)
 exact ⟨G0.ag,fun w9 hw9=>⟨s0,t0,rfl,G0.kd R2 hw9,G0.kd U2 hw9⟩⟩
 intro y1
 refine RD.each [1,2] (rk p0) ⟨?_,?_,trivial⟩
 refine RO.val (m' :=3) (sk p0) rfl .plain rfl (Az rfl (j0.memA .hd)) ?_
 have p1:=Tt J0 (Tt y0 C0)
 have j1:=Ay K0 p1
 refine Bq 2 7 p0 rfl rfl .plain (Aw (news:=[.bool v0.fe,s0]) j0 (.tl .hd) rfl rfl rfl rfl rfl rfl (o2 rfl (AU j1))) (fun C3 P0 b1=>?_)
 obtain ⟨k2,y2⟩:=AN P0 (.one .hd (.one .hd .done))
 exact y1 () _ _ ⟨rfl,rfl,rfl,trivial⟩ ⟨k2,(Tt b1 y2)⟩
 have p1:=Tt J0 (Tt y0 C0)
 have j1:=Ay K0 p1
 refine RO.now (m' :=5) (sk p0) rfl rfl .plain (Aw (news:=[.bool v0.fe,s0]) j0 (.tl .hd) rfl rfl rfl rfl rfl rfl (o2 rfl (AU j1))) (fun C3 P0 b1=>?_)
 refine AA 1 7 8 p0 rfl Q1 (Az rfl (P0.memA .hd)) rfl ?_
 obtain ⟨p2,z2⟩:=AN P0 (.one .hd (.one .hd .done))
 exact y1 () _ _ ⟨rfl,rfl,rfl,trivial⟩ ⟨p2,(Tt b1 z2)⟩
def tb95_5:List (Nat × Nat × Nat):=[(0,134217728,64),(1,268435456,134217728),(0,536870912,256),(6,1073741824,536870912),(11,0,268435520),(31,0,1073742080)]
theorem body113:bodyB Tryz.prog 113 = true:=by kernel_rfl
def share_Lowest_p (n:Nat) (a0:TLong) (a1:TLong):Option TRatio:=
  (wide_Long_Common_p n a0 a1).bind fun c0=>(wide_Long_Parts_p n a0 c0).bind fun d0=>(wide_Long_Parts_p n a1 c0).bind fun b0=>(if b0.1.fe = true then (wide_Long_Turned_p n d0.1).bind fun g0=>(wide_Long_Turned_p n b0.1).bind fun j0=>some (⟨g0,j0⟩:TRatio) else some (⟨d0.1,b0.1⟩:TRatio))
theorem share_Lowest_c (n:Nat) (L:List Nat) (w:World) (hL:∀ b ∈ L,b < w.heap.size) (a0:TLong) {v0_1:Value} (h0_1:Rep.R w L [v0_1] a0.fo) (a1:TLong) {v1_1:Value} (h1_1:Rep.R w L [v1_1] a1.fo)  {r:TRatio} (h:share_Lowest_p n a0 a1 = some r) :
    Calls Tryz.prog 95 #[.agg #[.bool a0.fe,v0_1],.agg #[.bool a1.fe,v1_1]] w (Gives w fun w' u=>∃ v0_1 v0_3:Value,u = .agg #[.bool r.ft.fe,v0_1,.bool r.fp.fe,v0_3]∧Rep.R w' L [v0_1] r.ft.fo∧Rep.R w' L [v0_3] r.fp.fo):=by
 unfold share_Lowest_p at h
 have hS0:=Ax w
 refine AE Tryz.func95 rfl rfl rfl (fun _ cs0 hb0=>?_)
 refine Ac<|Ai .plain rfl (Ar hS0 rfl rfl) (fun I3 b3 y1 x3=>?_)
 refine Ai .plain rfl (Ar y1 rfl rfl) (fun R3 c3 B1 y3=>?_)
 refine Ai .plain rfl (Au [.bool false,vN,.bool false,vN] B1) (fun U3 d3 j0 z3=>?_)
 refine Aa<|Ac<|Ab (Az rfl (j0.memA (.tl (.tl .hd))))<|Ab (Az rfl (j0.memA (.tl .hd))) ?_
 obtain ⟨X0,M2,h⟩:=bi h
 refine By (fst:=[]) (cap:=[]) .plain body85 rfl (e2 rfl rfl) (fun w9 hw9=>wide_Long_Common_c n _ w9 (j0.hL hL hw9) a0 (j0.km h0_1 hw9) a1 (j0.km h1_1 hw9) M2) rfl (fun V3 D3 V1 ⟨R2,hu_,W0⟩=>?_)
 subst hu_
 obtain ⟨C1,A3⟩:=j0.agr V1
 refine Ai .plain rfl (Au [.bool false,vN] C1) (fun W3 g3 D1 J0=>?_)
 have p2:=Ay W0 J0
 refine AL [.bool X0.fe,R2] D1 .hd (o2 rfl (AU p2)) (fun X3 t0 d1=>?_)
 refine Aa<|Ac<|Ab (Az rfl (t0.memA (.tl (.tl (.tl .hd)))))<|Ab (Az rfl (t0.memA .hd)) ?_
 obtain ⟨d0,P2,h⟩:=bi h
 have q2:=Ay W0 (Tt J0 d1)
 refine By (fst:=[]) (cap:=[]) .plain body113 rfl (e2 rfl rfl) (fun w9 hw9=>wide_Long_Parts_c n _ w9 (t0.hL hL hw9) a0 (t0.km h0_1 hw9) X0 (Aq q2 hw9) P2) rfl (fun Y3 E3 W1 ⟨q0,U2,hu_,F0,D2⟩=>?_)
 subst hu_
 obtain ⟨E1,Q1⟩:=t0.agr W1
 refine Ae rfl<|Ab (Ag rfl rfl)<|Ab (Ag rfl rfl)<|Ai .plain rfl (Au [.bool false,vN] E1) (fun Z3 j3 F1 K0=>?_)
 refine Ai .plain rfl (Au [.bool false,vN] F1) (fun b4 k3 G1 M0=>?_)
 have s2:=Ay F0 (Tt K0 M0)
 refine AL [.bool d0.1.fe,q0] G1 (.tl .hd) (o2 rfl (AU s2)) (fun c4 H1 g1=>?_)
 have R0:=Tt K0 (Tt M0 g1)
 have t2:=Ay D2 R0
 refine AL [.bool d0.2.fe,U2] H1 .hd (o2 rfl (AU t2)) (fun d4 u0 P0=>?_)
 refine Aa<|Ac<|Ab (Az rfl (u0.memA (.tl (.tl (.tl (.tl .hd))))))<|Ab (Az rfl (u0.memA (.tl (.tl .hd)))) ?_
 obtain ⟨g0,Q2,h⟩:=bi h
 have C2:=Tt J0 (Tt d1 (Tt Q1 (Tt K0 (Tt M0 (Tt g1 P0)))))
 have u2:=Ay W0 C2
 refine By (fst:=[]) (cap:=[]) .plain body113 rfl (e2 rfl rfl) (fun w9 hw9=>wide_Long_Parts_c n _ w9 (u0.hL hL hw9) a1 (u0.km h1_1 hw9) X0 (Aq u2 hw9) Q2) rfl (fun g4 F3 X1 ⟨s0,V2,hu_,G0,E2⟩=>?_)
 subst hu_
 obtain ⟨I1,j1⟩:=u0.agr X1
 refine Ae rfl<|Ab (Ag rfl rfl)<|Ab (Ag rfl rfl)<|Ai .plain rfl (Au [.bool false,vN] I1) (fun j4 p3 J1 C0=>?_)
 refine Ai .plain rfl (Au [.bool false,vN] J1) (fun k4 q3 K1 D0=>?_)
 have v2:=Ay G0 (Tt C0 D0)
 refine AL [.bool g0.1.fe,s0] K1 (.tl .hd) (o2 rfl (AU v2)) (fun p4 M1 Q0=>?_)
 have E0:=Tt C0 (Tt D0 Q0)
 have x2:=Ay E2 E0
 refine AL [.bool g0.2.fe,V2] M1 .hd (o2 rfl (AU x2)) (fun G3 b0 v0=>?_)
 refine Aa<|Ak<|Ac<|Bf 0 rfl<|AZ rfl ((b0.memA (.tl .hd)) 0 _ rfl)<|Aa<|MX.ifb rfl h (fun x1 h=>?_) (fun x1 h=>?_)
 refine dt 4 tb95_5 (fun c0 v1=>?_)
 refine AA 0 1 58 c0 rfl v1 (Az rfl (b0.memA (.tl (.tl (.tl .hd))))) rfl<|AA 2 5 56 c0 rfl v1 (Az rfl (b0.memA (.tl .hd))) rfl ?_
 obtain ⟨x0,J2,h⟩:=bi h
 have y2:=Tt R0 (Tt P0 (Tt j1 (Tt C0 (Tt D0 (Tt Q0 v0)))))
 have Y1:=Ay F0 y2
 refine Bp 1 7 c0 rfl .plain body107 rfl (e1 rfl) (fun w9 hw9=>wide_Long_Turned_c n _ w9 (b0.hL hL hw9) d0.1 (Aq Y1 hw9) J2) rfl (fun H3 B3 R1 ⟨k0,hu_,U0⟩=>?_)
 subst hu_
 obtain ⟨Y0,P1⟩:=b0.agr R1
 obtain ⟨y0,K2,h⟩:=bi h
 have z2:=Tt E0 (Tt v0 P1)
 have Z1:=Ay G0 z2
 refine Bp 3 15 c0 rfl .plain body107 rfl (e1 rfl) (fun w9 hw9=>wide_Long_Turned_c n _ w9 (Y0.hL hL hw9) g0.1 (Aq Z1 hw9) K2) rfl (fun J3 C3 U1 ⟨p0,hu_,V0⟩=>?_)
 subst hu_
 obtain ⟨z1,Z0⟩:=Y0.agr U1
 have b2:=Ay U0 Z0
 refine Bq 4 31 c0 rfl rfl .plain (Aw (news:=[.bool x0.fe,k0]) z1 (.tl (.tl (.tl .hd))) rfl rfl rfl rfl rfl rfl (o2 rfl (AU b2))) (fun K3 A1 B0=>?_)
 have c2:=Ay V0 B0
 refine Bq 5 63 c0 rfl rfl .plain (Aw (news:=[.bool y0.fe,p0]) A1 (.tl .hd) rfl rfl rfl rfl rfl rfl (o2 rfl (AU c2))) (fun M3 H0 I0=>?_)
 refine AH (dk c0)<|Ac<|Ab (Az rfl (H0.memA (.tl (.tl (.tl .hd)))))<|Ab (Az rfl (H0.memA (.tl .hd))) ?_
 have t1:=Tt Z0 (Tt B0 I0)
 have k1:=Ay U0 t1
 obtain ⟨W2,s3,F2,_⟩:=Rep.sl k1
 have p1:=Ay V0 (Tt B0 I0)
 obtain ⟨X2,t3,G2,_⟩:=Rep.sl p1
 refine Ab (AK (vs:=[.agg #[.bool x0.fe,k0],.agg #[.bool y0.fe,p0]]) (u:=.agg #[.bool x0.fe,k0,.bool y0.fe,p0]) (e2 rfl rfl) (fun w9=>by rw [F2,G2]; try kernel_rfl))<|AL [.bool x0.fe,k0,.bool y0.fe,p0] H0 (.tl (.tl (.tl (.tl (.tl .hd))))) (o4 rfl (AU k1) rfl (AU p1)) (fun P3 z0 b1=>?_)
 refine Aa<|Am rfl<|Al hb0 Tryz.func95 rfl (.cons (.many (cs:=[.bool x0.fe,k0,.bool y0.fe,p0]) (by kernel_rfl) rfl (z0.memA (.tl (.tl (.tl (.tl (.tl .hd))))))) .nil) rfl ?_
 cases h
 have d2:=Ay U0 (Tt t1 b1)
 have A2:=Tt B0 (Tt I0 b1)
 have g2:=Ay V0 A2
 exact ⟨z0.ag,fun w9 hw9=>⟨k0,p0,rfl,z0.kd d2 hw9,z0.kd g2 hw9⟩⟩
 refine Av<|Ac<|Ab (Az rfl (b0.memA (.tl (.tl (.tl .hd)))))<|Ab (Az rfl (b0.memA (.tl .hd))) ?_
 have u1:=Tt R0 (Tt P0 (Tt j1 (Tt C0 (Tt D0 (Tt Q0 v0)))))
 have q1:=Ay F0 u1
 obtain ⟨Y2,u3,H2,_⟩:=Rep.sl q1
 have s1:=Ay G0 (Tt E0 v0)
 obtain ⟨Z2,v3,I2,_⟩:=Rep.sl s1
 refine Ab (AK (vs:=[.agg #[.bool d0.1.fe,q0],.agg #[.bool g0.1.fe,s0]]) (u:=.agg #[.bool d0.1.fe,q0,.bool g0.1.fe,s0]) (e2 rfl rfl) (fun w9=>by rw [H2,I2]; try kernel_rfl))<|AL [.bool d0.1.fe,q0,.bool g0.1.fe,s0] b0 (.tl (.tl (.tl (.tl (.tl .hd))))) (o4 rfl (AU q1) rfl (AU s1)) (fun Q3 A0 c1=>?_)
 refine Aa<|Am rfl<|Al hb0 Tryz.func95 rfl (.cons (.many (cs:=[.bool d0.1.fe,q0,.bool g0.1.fe,s0]) (by kernel_rfl) rfl (A0.memA (.tl (.tl (.tl (.tl (.tl .hd))))))) .nil) rfl ?_
 cases h
 have j2:=Ay F0 (Tt u1 c1)
 have B2:=Tt E0 (Tt v0 c1)
 have k2:=Ay G0 B2
 exact ⟨A0.ag,fun w9 hw9=>⟨q0,s0,rfl,A0.kd j2 hw9,A0.kd k2 hw9⟩⟩
def math_bits_Mul64_p (_n:Nat) (a0:UInt64) (a1:UInt64):Option (UInt64 × UInt64):=
  (some (((shrU a0 32) * (a1 &&& (4294967295:UInt64))) + (shrU ((a0 &&& (4294967295:UInt64)) * (a1 &&& (4294967295:UInt64))) 32))).bind fun u1=>(some (shrU ((u1 &&& (4294967295:UInt64)) + ((a0 &&& (4294967295:UInt64)) * (shrU a1 32))) 32)).bind fun u2=>some ((((shrU a0 32) * (shrU a1 32)) + (shrU u1 32)) + u2,a0 * a1)
theorem math_bits_Mul64_c (n:Nat) (L:List Nat) (w:World) (_hL:∀ b ∈ L,b < w.heap.size) (a0:UInt64) (a1:UInt64)  {r:UInt64 × UInt64} (h:math_bits_Mul64_p n a0 a1 = some r) :
    Calls Tryz.prog 141 #[vU a0,vU a1] w (Gives w fun _ u=>u = .tuple #[vU r.1,vU r.2]):=by
 unfold math_bits_Mul64_p at h
 have hS0:=Ax w
 refine AE Tryz.func141 rfl rfl rfl (fun _ cs0 hb0=>?_)
 refine Ac<|Ah rfl<|Ah rfl<|Aa<|Ac<|Ae rfl<|Ab (FV.andU (a:=a0) (b:=(4294967295:UInt64)) rfl rfl)<|Ah rfl<|Aa<|Ac<|Ae rfl<|Ab (FV.shrU (a:=a0) (j:=32) rfl rfl)<|Ah rfl<|Aa<|Ac<|Ae rfl<|Ab (FV.andU (a:=a1) (b:=(4294967295:UInt64)) rfl rfl)<|Ah rfl<|Aa<|Ac<|Ae rfl<|Ab (FV.shrU (a:=a1) (j:=32) rfl rfl)<|Ah rfl<|Aa ?_
 refine Ac<|Ae rfl<|Ae rfl<|Ab (FV.mulU (a:=a0 &&& (4294967295:UInt64)) (b:=a1 &&& (4294967295:UInt64)) rfl rfl)<|Ah rfl<|Aa<|Ac<|Ae rfl<|Ae rfl<|Ab (FV.mulU (a:=shrU a0 32) (b:=a1 &&& (4294967295:UInt64)) rfl rfl)<|Ae rfl<|Ab (FV.shrU (a:=(a0 &&& (4294967295:UInt64)) * (a1 &&& (4294967295:UInt64))) (j:=32) rfl rfl) ?_
 obtain ⟨u1,hu1,h⟩:=bi h
 refine Ab (FV.as (FV.addU (a:=(shrU a0 32) * (a1 &&& (4294967295:UInt64))) (b:=shrU ((a0 &&& (4294967295:UInt64)) * (a1 &&& (4294967295:UInt64))) 32) rfl rfl) (congrArg (fun z:UInt64=>Value.int .u64 (z.toNat:Int)) (Option.some.inj hu1)))<|Ah rfl<|Aa<|Ac<|Ae rfl<|Ab (FV.andU (a:=u1) (b:=(4294967295:UInt64)) rfl rfl)<|Ah rfl<|Aa<|Ac<|Ae rfl<|Ab (FV.shrU (a:=u1) (j:=32) rfl rfl)<|Ah rfl<|Aa<|Ac<|Ae rfl<|Ae rfl<|Ae rfl<|Ab (FV.mulU (a:=a0 &&& (4294967295:UInt64)) (b:=shrU a1 32) rfl rfl)<|Ab (FV.addU (a:=u1 &&& (4294967295:UInt64)) (b:=(a0 &&& (4294967295:UInt64)) * (shrU a1 32)) rfl rfl)<|Ah rfl<|Aa<|Ac<|Ae rfl<|Ae rfl ?_
 refine Ab (FV.mulU (a:=shrU a0 32) (b:=shrU a1 32) rfl rfl)<|Ae rfl<|Ab (FV.addU (a:=(shrU a0 32) * (shrU a1 32)) (b:=shrU u1 32) rfl rfl)<|Ae rfl ?_
 obtain ⟨u2,hu2,h⟩:=bi h
 refine Ab (FV.as (FV.shrU (a:=(u1 &&& (4294967295:UInt64)) + ((a0 &&& (4294967295:UInt64)) * (shrU a1 32))) (j:=32) rfl rfl) (congrArg (fun z:UInt64=>Value.int .u64 (z.toNat:Int)) (Option.some.inj hu2)))<|Ab (FV.addU (a:=((shrU a0 32) * (shrU a1 32)) + (shrU u1 32)) (b:=u2) rfl rfl)<|Ah rfl<|Aa<|Ac<|Ae rfl<|Ae rfl<|Ab (FV.mulU (a:=a0) (b:=a1) rfl rfl)<|Ah rfl<|Aa<|Am rfl<|Al hb0 Tryz.func141 rfl (.cons (.tmp rfl) (.cons (.tmp rfl) .nil)) rfl ?_
 cases h
 exact hS0.gv
theorem body141:bodyB Tryz.prog 141 = true:=by kernel_rfl
def wide_multiplied_l1 (n:Nat) (a1:List UInt64) (s0:UInt64) (d0:Nat) (q0:UInt64 × Nat × (List UInt64) → Option ((List UInt64) × UInt64)):UInt64 × Nat × (List UInt64) → Option ((List UInt64) × UInt64)
  | (g0,b0,c0)=>(if b0 < a1.length then (a1[b0]?).bind fun t0=>(math_bits_Mul64_p n s0 t0).bind fun j0=>(c0[d0 + b0]?).bind fun u0=>(add64 u0 j0.2 (0:UInt64)).bind fun k0=>(add64 k0.1 g0 (0:UInt64)).bind fun p0=>(put c0 ((d0 + b0:Nat):Int) p0.1).bind fun v0=>q0 ((j0.1 + k0.2) + p0.2,b0 + 1,v0) else some (c0,g0))
def wide_multiplied_l2 (n:Nat) (a0:List UInt64) (a1:List UInt64) (g0:Nat × (List UInt64) → Option (List UInt64)):Nat × (List UInt64) → Option (List UInt64)
  | (b0,c0)=>(if b0 < a0.length then (a0[b0]?).bind fun k0=>Option.bind (loopF (wide_multiplied_l1 n a1 k0 b0) n ((0:UInt64),0,c0)) (fun (d0,j0)=>(d0[b0 + a1.length]?).bind fun q0=>(put d0 ((b0 + a1.length:Nat):Int) j0).bind fun p0=>g0 (b0 + 1,p0)) else some c0)
def wide_multiplied_p (n:Nat) (a0:List UInt64) (a1:List UInt64):Option (List UInt64):=
  (mk ((a0.length + a1.length:Nat):Int) (0:UInt64)).bind fun b0=>Option.bind (loopF (wide_multiplied_l2 n a0 a1) n (0,b0)) (fun c0=>some c0)
theorem wide_multiplied_c (n:Nat) (L:List Nat) (w:World) (hL:∀ b ∈ L,b < w.heap.size) (a0:List UInt64) {v0_0:Value} (h0_0:Rep.R w L [v0_0] a0) (a1:List UInt64) {v1_0:Value} (h1_0:Rep.R w L [v1_0] a1)  {r:List UInt64} (h:wide_multiplied_p n a0 a1 = some r) :
    Calls Tryz.prog 117 #[v0_0,v1_0] w (Gives w fun w' u=>∃ v0_0:Value,u = v0_0∧Rep.R w' L [v0_0] r):=by
 unfold wide_multiplied_p at h
 have hS0:=Ax w
 refine AE Tryz.func117 rfl rfl rfl (fun _ cs0 hb0=>?_)
 refine Ac<|Ah rfl<|Aa<|Ac<|Ae rfl ?_
 have hl1:a0.length ≤ 281474976710656:=Bi h0_0
 refine Ab (Bk (xs:=a0) Tryz.underlying123 rfl h0_0)<|Ae rfl ?_
 have hl2:a1.length ≤ 281474976710656:=Bi h1_0
 refine Ab (Bk (xs:=a1) Tryz.underlying123 rfl h1_0)<|Ab (Bl (i:=a0.length) (j:=a1.length) rfl rfl (by omega)) ?_
 obtain ⟨G0,P0,h⟩:=bi h
 refine Ai .plain rfl (Does.mk (α:=UInt64) P0 hS0 el123 rfl) (fun C2 d0 B0 V2=>?_)
 have A1:=AM (cs:=(List.replicate ((a0.length + a1.length:Nat):Int).toNat [vW 0]).flatten) (xs:=G0) B0 L (Cells.mk P0 rfl)
 refine Ah rfl<|Aa<|Ak<|Ac<|Ae rfl ?_
 have Q1:=AP h0_0 B0
 refine Ab (Bk (xs:=a0) Tryz.underlying123 rfl Q1)<|Ae rfl<|Aa<|AB ?_
 obtain ⟨Y2,b2,J1⟩:=bind_in2 h
 refine Bw (α:=Nat × (List UInt64) × (List Value)) (fun ⟨b0,g0,j0⟩=>[(1,v1_0),(5,(.slice (some ⟨d0,0,none⟩) ((a0.length + a1.length:Nat):Int).toNat ((a0.length + a1.length:Nat):Int).toNat)),(22,v0_0),(23,vI ((a0.length:Nat):Int)),(24,vI ((b0:Nat):Int))]) (fun ⟨b0,g0,j0⟩ v0=>St w v0 [.row w.heap.size 30 (Rep.size UInt64) (.slice (some ⟨d0,0,none⟩) ((a0.length + a1.length:Nat):Int).toNat ((a0.length + a1.length:Nat):Int).toNat) g0.length j0]∧Tr C2 [.row w.heap.size 30 (Rep.size UInt64) (.slice (some ⟨d0,0,none⟩) ((a0.length + a1.length:Nat):Int).toNat ((a0.length + a1.length:Nat):Int).toNat) G0.length ((List.replicate ((a0.length + a1.length:Nat):Int).toNat [vW 0]).flatten)] v0 [.row w.heap.size 30 (Rep.size UInt64) (.slice (some ⟨d0,0,none⟩) ((a0.length + a1.length:Nat):Int).toNat ((a0.length + a1.length:Nat):Int).toNat) g0.length j0]∧Cells v0 (bl [.row w.heap.size 30 (Rep.size UInt64) (.slice (some ⟨d0,0,none⟩) ((a0.length + a1.length:Nat):Int).toNat ((a0.length + a1.length:Nat):Int).toNat) g0.length j0] ++ L) j0 g0) (fun ⟨b0,g0,j0⟩=>(b0,g0)) (0,G0,(List.replicate ((a0.length + a1.length:Nat):Int).toNat [vW 0]).flatten) b2 ⟨rfl,rfl,rfl,rfl,rfl,trivial⟩ ⟨B0,Bd _ _,A1⟩ ?_
 rintro I2 ⟨b0,g0,j0⟩ v0 q1 ⟨s0,x1,I0⟩ h
 unfold wide_multiplied_l2 at h
 try dsimp only at h
 refine Ac<|Ab (Bm (i:=b0) (j:=a0.length) rfl rfl)<|Aa<|Ak<|AX rfl h (fun Z0 h=>?_) (fun Z0 h=>?_)
 refine Av<|Ak<|AB<|Ac<|Ae rfl ?_
 obtain ⟨F0,s2,h⟩:=bi h
 have U1:=AP h0_0 s0
 obtain ⟨G2,K2,D1,M1,c1,d2,R1⟩:=Bo U1 s2
 have E1:c1 = [vU F0]:=d2; subst E1
 refine Ab (Bx 1 b0 rfl D1 rfl rfl M1)<|AZ rfl (R1 0 _ rfl)<|Ah rfl<|Ah rfl<|Aa<|Ac<|Ah rfl<|Aa<|Ak<|Ac<|Ae rfl ?_
 have V1:=AP h1_0 s0
 refine Ab (Bk (xs:=a1) Tryz.underlying123 rfl V1)<|Ae rfl<|Aa<|AB ?_
 obtain ⟨Z2,c2,K1⟩:=bind_in2 h
 refine Bw (α:=UInt64 × Nat × (List UInt64) × (List Value)) (fun ⟨t0,c0,p0,q0⟩=>[(1,v1_0),(5,(.slice (some ⟨d0,0,none⟩) ((a0.length + a1.length:Nat):Int).toNat ((a0.length + a1.length:Nat):Int).toNat)),(22,v0_0),(23,vI ((a0.length:Nat):Int)),(24,vI ((b0:Nat):Int)),(6,vI ((b0:Nat):Int)),(7,vU F0),(8,vU t0),(29,v1_0),(30,vI ((a1.length:Nat):Int)),(31,vI ((c0:Nat):Int))]) (fun ⟨t0,c0,p0,q0⟩ z0=>St w z0 [.row w.heap.size 30 (Rep.size UInt64) (.slice (some ⟨d0,0,none⟩) ((a0.length + a1.length:Nat):Int).toNat ((a0.length + a1.length:Nat):Int).toNat) p0.length q0]∧Tr v0 [.row w.heap.size 30 (Rep.size UInt64) (.slice (some ⟨d0,0,none⟩) ((a0.length + a1.length:Nat):Int).toNat ((a0.length + a1.length:Nat):Int).toNat) g0.length j0] z0 [.row w.heap.size 30 (Rep.size UInt64) (.slice (some ⟨d0,0,none⟩) ((a0.length + a1.length:Nat):Int).toNat ((a0.length + a1.length:Nat):Int).toNat) p0.length q0]∧Cells z0 (bl [.row w.heap.size 30 (Rep.size UInt64) (.slice (some ⟨d0,0,none⟩) ((a0.length + a1.length:Nat):Int).toNat ((a0.length + a1.length:Nat):Int).toNat) p0.length q0] ++ L) q0 p0) (fun ⟨t0,c0,p0,q0⟩=>(t0,c0,p0)) ((0:UInt64),0,g0,j0) c2 ⟨rfl,rfl,rfl,rfl,rfl,rfl,rfl,rfl,rfl,rfl,rfl,trivial⟩ ⟨s0,Bd _ _,I0⟩ ?_
 rintro J2 ⟨t0,c0,p0,q0⟩ z0 s1 ⟨k0,H0,x0⟩ h
 unfold wide_multiplied_l1 at h
 try dsimp only at h
 refine Ac<|Ab (Bm (i:=c0) (j:=a1.length) rfl rfl)<|Aa<|Ak<|AX rfl h (fun b1 h=>?_) (fun b1 h=>?_)
 refine Av<|Ak<|AB<|Ac<|Ae rfl ?_
 obtain ⟨Q0,t2,h⟩:=bi h
 have X1:=AP h1_0 k0
 obtain ⟨H2,M2,F1,P1,d1,g2,W1⟩:=Bo X1 t2
 have G1:d1 = [vU Q0]:=g2; subst G1
 refine Ab (Bx 1 c0 rfl F1 rfl rfl P1)<|AZ rfl (W1 0 _ rfl)<|Ah rfl<|Ah rfl<|Aa<|Ac<|Ae rfl<|Ae rfl ?_
 obtain ⟨u0,z2,h⟩:=bi h
 refine Ba (.tuple #[vU u0.1,vU u0.2]) body141 rfl (e2 rfl rfl) (fun w9 hw9=>math_bits_Mul64_c n _ w9 (k0.hL0 hL hw9) F0 Q0 z2) rfl<|Ae rfl<|Ab (Ag rfl rfl)<|Ab (Ag rfl rfl)<|Ah rfl<|Ah rfl<|Aa<|Ac<|Ae rfl<|Ae rfl<|Ae rfl<|Ab (Bl (i:=b0) (j:=c0) rfl rfl (by omega)) ?_
 obtain ⟨R0,u2,h⟩:=bi h
 obtain ⟨V0,P2,y0,E0,g1,j2,Y1⟩:=St.nth (α:=UInt64) k0 .hd x0 u2
 obtain ⟨X0,Q2,J0⟩:=St.nthOwn (α:=UInt64) k0 .hd E0
 obtain rfl:V0 = ⟨X0,0,none⟩:=by rw [J0] at y0; cases y0; rfl
 have H1:g1 = [vU R0]:=j2; subst H1
 refine Ab (Bx 1 (b0 + c0) rfl y0 rfl rfl E0)<|AZ rfl (Y1 0 _ rfl)<|Ae rfl ?_
 obtain ⟨A0,A2,h⟩:=bi h
 refine Ab (FV.add64 (a:=R0) (b:=u0.2) (c:=(0:UInt64)) Tryz.func142 rfl (by kernel_rfl) (by kernel_rfl) (by kernel_rfl) rfl rfl rfl A2)<|Ae rfl<|Ab (Ag rfl rfl)<|Ab (Ag rfl rfl)<|Ah rfl<|Ah rfl<|Aa<|Ac<|Ae rfl<|Ae rfl ?_
 obtain ⟨U0,B2,h⟩:=bi h
 refine Ab (FV.add64 (a:=A0.1) (b:=t0) (c:=(0:UInt64)) Tryz.func142 rfl (by kernel_rfl) (by kernel_rfl) (by kernel_rfl) rfl rfl rfl B2)<|Ae rfl<|Ab (Ag rfl rfl)<|Ab (Ag rfl rfl)<|Ah rfl<|Ah rfl<|Aa<|Ao<|Ae rfl<|Ae rfl<|Ae rfl<|Ab (Bl (i:=b0) (j:=c0) rfl rfl (by omega))<|Ae rfl<|Ae rfl<|Ae rfl<|Ab (FV.addU (a:=u0.1) (b:=A0.2) rfl rfl)<|Ae rfl<|Ab (FV.addU (a:=u0.1 + A0.2) (b:=U0.2) rfl rfl)<|Ab (Bx 1 (b0 + c0) rfl y0 rfl rfl E0) ?_
 obtain ⟨E2,x2,h⟩:=bi h
 refine RG.acts' .plain (Acts.set (α:=UInt64) (i:=b0 + c0) x2 k0 J0 (fun _=>.hd) x0 rfl rfl rfl rfl rfl (by kernel_rfl)) (fun b3 ⟨j1,u1,y1,B1⟩=>?_)
 refine Ah rfl<|Aa<|AC<|Ao<|Ab (Bl (i:=c0) (j:=1) rfl rfl (by omega))<|Ae rfl<|Aa ?_
 exact s1 ((u0.1 + A0.2) + U0.2,c0 + 1,E2,j1) _ _ ⟨rfl,rfl,rfl,rfl,rfl,rfl,rfl,rfl,rfl,rfl,rfl,trivial⟩ ⟨u1,(Tt H0 y1),B1⟩ h
 refine Bj rfl ?_
 have h:=K1 _ h
 try dsimp only at h
 refine Ao<|Ae rfl<|Ae rfl<|Ae rfl ?_
 have Z1:=AP h1_0 k0
 refine Ab (Bk (xs:=a1) Tryz.underlying123 rfl Z1)<|Ab (Bl (i:=b0) (j:=a1.length) rfl rfl (by omega))<|Ae rfl ?_
 obtain ⟨D2,v2,h⟩:=bi h
 obtain ⟨W0,R2,D0,M0,k1,k2,X2⟩:=St.nth (α:=UInt64) k0 .hd x0 v2
 obtain ⟨Y0,U2,K0⟩:=St.nthOwn (α:=UInt64) k0 .hd M0
 obtain rfl:W0 = ⟨Y0,0,none⟩:=by rw [K0] at D0; cases D0; rfl
 have I1:k1 = [vU D2]:=k2; subst I1
 refine Ab (Bx 1 (b0 + a1.length) rfl D0 rfl rfl M0) ?_
 obtain ⟨F2,y2,h⟩:=bi h
 refine RG.acts' .plain (Acts.set (α:=UInt64) (i:=b0 + a1.length) y2 k0 K0 (fun _=>.hd) x0 rfl rfl rfl rfl rfl (by kernel_rfl)) (fun c3 ⟨p1,v1,z1,C1⟩=>?_)
 refine Aa<|AC<|Ao<|Ab (Bl (i:=b0) (j:=1) rfl rfl (by omega))<|Ae rfl<|Aa ?_
 exact q1 (b0 + 1,F2,p1) _ _ ⟨rfl,rfl,rfl,rfl,rfl,trivial⟩ ⟨v1,(Tt x1 (Tt H0 z1)),C1⟩ h
 refine Bj rfl ?_
 have h:=J1 _ h
 try dsimp only at h
 refine Ac<|Ae rfl<|Ah rfl<|Aa<|Am rfl ?_
 have p2:=Br (α:=UInt64) s0 .hd I0 hL
 have C0:=St.delS s0 .hd
 have W2:=St.delT s0 .hd
 have q2:=Rep.at_ (α:=UInt64) (v:=(.slice (some ⟨d0,0,none⟩) ((a0.length + a1.length:Nat):Int).toNat ((a0.length + a1.length:Nat):Int).toNat)) (xs:=g0) C0 L p2
 refine Be hb0 Tryz.func117 rfl rfl ?_
 cases h
 exact ⟨C0.ag,fun w9 hw9=>⟨(.slice (some ⟨d0,0,none⟩) ((a0.length + a1.length:Nat):Int).toNat ((a0.length + a1.length:Nat):Int).toNat),rfl,C0.kd q2 hw9⟩⟩
def tb98_1:List (Nat × Nat × Nat):=[(0,32,4),(1,64,32),(0,128,8),(4,256,128),(10,512,320),(0,1024,4),(32,2048,1024),(0,4096,8),(128,8192,4096),(320,16384,10240),(528,32768,16896),(2047,0,32784)]
theorem body117:bodyB Tryz.prog 117 = true:=by kernel_rfl
def wide_Long_Times_p (n:Nat) (a0:TLong) (a1:TLong):Option TLong:=
  (wide_multiplied_p n a0.fo a1.fo).bind fun b0=>(wide_trimmed_p n (!(a0.fe == a1.fe)) b0).bind fun c0=>some c0
theorem wide_Long_Times_c (n:Nat) (L:List Nat) (w:World) (hL:∀ b ∈ L,b < w.heap.size) (a0:TLong) {v0_1:Value} (h0_1:Rep.R w L [v0_1] a0.fo) (a1:TLong) {v1_1:Value} (h1_1:Rep.R w L [v1_1] a1.fo)  {r:TLong} (h:wide_Long_Times_p n a0 a1 = some r) :
    Calls Tryz.prog 98 #[.agg #[.bool a0.fe,v0_1],.agg #[.bool a1.fe,v1_1]] w (Gives w fun w' u=>∃ v0_1:Value,u = .agg #[.bool r.fe,v0_1]∧Rep.R w' L [v0_1] r.fo):=by
 unfold wide_Long_Times_p at h
 have hS0:=Ax w
 refine AE Tryz.func98 rfl rfl rfl (fun _ cs0 hb0=>?_)
 refine Ac<|Ai .plain rfl (Ar hS0 rfl rfl) (fun U0 E0 s0 H0=>?_)
 refine Ai .plain rfl (Ar s0 rfl rfl) (fun V0 F0 t0 I0=>?_)
 refine Ai .plain rfl (Au [.bool false,vN] t0) (fun W0 G0 d0 J0=>?_)
 refine Aa<|Ak<|dt 11 tb98_1 (fun b0 c0=>?_)
 refine Af 0 1 b0 rfl c0 (fun _=>AQ 0 rfl) rfl<|AA 1 3 3088 b0 rfl c0 (AJ rfl ((d0.memA (.tl (.tl .hd))) 0 _ rfl)) rfl<|Af 2 7 b0 rfl c0 (fun _=>AQ 0 rfl) rfl<|AA 3 15 3088 b0 rfl c0 (AJ rfl ((d0.memA (.tl .hd)) 0 _ rfl)) rfl<|Af 4 31 b0 rfl c0 (fun _=>FV.neqB (a:=a0.fe) (b:=a1.fe) Tryz.underlying4 rfl rfl) rfl<|Af 5 63 b0 rfl c0 (fun _=>AQ 1 rfl) rfl<|AA 6 127 3584 b0 rfl c0 (AJ rfl ((d0.memA (.tl (.tl .hd))) 1 _ rfl)) rfl<|Af 7 255 b0 rfl c0 (fun _=>AQ 1 rfl) rfl<|AA 8 511 3584 b0 rfl c0 (AJ rfl ((d0.memA (.tl .hd)) 1 _ rfl)) rfl ?_
 obtain ⟨D0,B0,h⟩:=bi h
 refine Bp 9 1023 b0 rfl .plain body117 rfl (e2 rfl rfl) (fun w9 hw9=>wide_multiplied_c n _ w9 (d0.hL hL hw9) a0.fo (d0.km h0_1 hw9) a1.fo (d0.km h1_1 hw9) B0) rfl (fun X0 Q0 x0 ⟨P0,hu_,A0⟩=>?_)
 subst hu_
 obtain ⟨k0,K0⟩:=d0.agr x0
 obtain ⟨q0,C0,h⟩:=bi h
 refine Bp 10 2047 b0 rfl .plain body115 rfl (e2 rfl rfl) (fun w9 hw9=>wide_trimmed_c n _ w9 (k0.hL hL hw9) (!(a0.fe == a1.fe)) D0 (Aq A0 hw9) C0) rfl (fun Y0 R0 y0 ⟨j0,hu_,p0⟩=>?_)
 subst hu_
 obtain ⟨u0,M0⟩:=k0.agr y0
 refine Bq 11 4095 b0 rfl rfl .plain (Aw (news:=[.bool q0.fe,j0]) u0 .hd rfl rfl rfl rfl rfl rfl (o2 rfl (AU p0))) (fun Z0 g0 v0=>?_)
 refine AH (dk b0)<|Am rfl<|Al hb0 Tryz.func98 rfl (.cons (.many (cs:=[.bool q0.fe,j0]) (by kernel_rfl) rfl (g0.memA .hd)) .nil) rfl ?_
 cases h
 have z0:=Ay p0 v0
 exact ⟨g0.ag,fun w9 hw9=>⟨j0,rfl,g0.kd z0 hw9⟩⟩
def tb73_1:List (Nat × Nat × Nat):=[(0,32,4),(1,64,32),(0,128,8),(4,256,128),(10,512,320),(0,1024,4),(32,2048,1024),(0,4096,8),(128,8192,4096),(336,16384,10240),(528,32768,16896),(2047,0,32784)]
theorem body95:bodyB Tryz.prog 95 = true:=by kernel_rfl
theorem body98:bodyB Tryz.prog 98 = true:=by kernel_rfl
def share_Ratio_Times_p (n:Nat) (a0:TRatio) (a1:TRatio):Option TRatio:=
  (wide_Long_Times_p n a0.ft a1.ft).bind fun b0=>(wide_Long_Times_p n a0.fp a1.fp).bind fun c0=>(share_Lowest_p n b0 c0).bind fun d0=>some d0
theorem share_Ratio_Times_c (n:Nat) (L:List Nat) (w:World) (hL:∀ b ∈ L,b < w.heap.size) (a0:TRatio) {v0_1:Value} (h0_1:Rep.R w L [v0_1] a0.ft.fo) {v0_3:Value} (h0_3:Rep.R w L [v0_3] a0.fp.fo) (a1:TRatio) {v1_1:Value} (h1_1:Rep.R w L [v1_1] a1.ft.fo) {v1_3:Value} (h1_3:Rep.R w L [v1_3] a1.fp.fo)  {r:TRatio} (h:share_Ratio_Times_p n a0 a1 = some r) :
    Calls Tryz.prog 73 #[.agg #[.bool a0.ft.fe,v0_1,.bool a0.fp.fe,v0_3],.agg #[.bool a1.ft.fe,v1_1,.bool a1.fp.fe,v1_3]] w (Gives w fun w' u=>∃ v0_1 v0_3:Value,u = .agg #[.bool r.ft.fe,v0_1,.bool r.fp.fe,v0_3]∧Rep.R w' L [v0_1] r.ft.fo∧Rep.R w' L [v0_3] r.fp.fo):=by
 unfold share_Ratio_Times_p at h
 have hS0:=Ax w
 refine AE Tryz.func73 rfl rfl rfl (fun _ cs0 hb0=>?_)
 refine Ac<|Ai .plain rfl (Ar hS0 rfl rfl) (fun p1 R0 x0 W0=>?_)
 refine Ai .plain rfl (Ar x0 rfl rfl) (fun q1 U0 y0 X0=>?_)
 refine Ai .plain rfl (Au [.bool false,vN,.bool false,vN] y0) (fun s1 V0 c0 Y0=>?_)
 refine Aa<|Ak<|dt 11 tb73_1 (fun b0 d0=>?_)
 refine Af 0 1 b0 rfl d0 (fun _=>AQ 0 rfl) rfl<|AA 1 3 3600 b0 rfl d0 (AR (cs:=[.bool a0.ft.fe,v0_1]) (by kernel_rfl) rfl (mem_part (c0.memA (.tl (.tl .hd))) 0 2)) rfl<|Af 2 7 b0 rfl d0 (fun _=>AQ 0 rfl) rfl<|AA 3 15 3600 b0 rfl d0 (AR (cs:=[.bool a1.ft.fe,v1_1]) (by kernel_rfl) rfl (mem_part (c0.memA (.tl .hd)) 0 2)) rfl<|Af 5 47 b0 rfl d0 (fun _=>AQ 2 rfl) rfl<|AA 6 111 3584 b0 rfl d0 (AR (cs:=[.bool a0.fp.fe,v0_3]) (by kernel_rfl) rfl (mem_part (c0.memA (.tl (.tl .hd))) 2 2)) rfl<|Af 7 239 b0 rfl d0 (fun _=>AQ 2 rfl) rfl<|AA 8 495 3584 b0 rfl d0 (AR (cs:=[.bool a1.fp.fe,v1_3]) (by kernel_rfl) rfl (mem_part (c0.memA (.tl .hd)) 2 2)) rfl ?_
 obtain ⟨P0,J0,h⟩:=bi h
 refine Bp 4 511 b0 rfl .plain body98 rfl (e2 rfl rfl) (fun w9 hw9=>wide_Long_Times_c n _ w9 (c0.hL hL hw9) a0.ft (c0.km h0_1 hw9) a1.ft (c0.km h1_1 hw9) J0) rfl (fun t1 g1 B0 ⟨c1,hu_,H0⟩=>?_)
 subst hu_
 obtain ⟨g0,Z0⟩:=c0.agr B0
 obtain ⟨Q0,K0,h⟩:=bi h
 refine Bp 9 1023 b0 rfl .plain body98 rfl (e2 rfl rfl) (fun w9 hw9=>wide_Long_Times_c n _ w9 (g0.hL hL hw9) a0.fp (g0.km h0_3 hw9) a1.fp (g0.km h1_3 hw9) K0) rfl (fun u1 j1 C0 ⟨d1,hu_,I0⟩=>?_)
 subst hu_
 obtain ⟨s0,A0⟩:=g0.agr C0
 obtain ⟨k0,M0,h⟩:=bi h
 have E0:=Ay H0 A0
 refine Bp 10 2047 b0 rfl .plain body95 rfl (e2 rfl rfl) (fun w9 hw9=>share_Lowest_c n _ w9 (s0.hL hL hw9) P0 (Aq E0 hw9) Q0 (Aq I0 hw9) M0) rfl (fun v1 k1 D0 ⟨p0,q0,hu_,u0,v0⟩=>?_)
 subst hu_
 obtain ⟨z0,b1⟩:=s0.agr D0
 refine Bq 11 4095 b0 rfl rfl .plain (Aw (news:=[.bool k0.ft.fe,p0,.bool k0.fp.fe,q0]) z0 .hd rfl rfl rfl rfl rfl rfl (o4 rfl (AU u0) rfl (AU v0))) (fun x1 j0 t0=>?_)
 refine AH (dk b0)<|Am rfl<|Al hb0 Tryz.func73 rfl (.cons (.many (cs:=[.bool k0.ft.fe,p0,.bool k0.fp.fe,q0]) (by kernel_rfl) rfl (j0.memA .hd)) .nil) rfl ?_
 cases h
 have F0:=Ay u0 t0
 have G0:=Ay v0 t0
 exact ⟨j0.ag,fun w9 hw9=>⟨p0,q0,rfl,j0.kd F0 hw9,j0.kd G0 hw9⟩⟩
def tb71_4:List (Nat × Nat × Nat):=[(0,32768,4),(0,65536,8),(2,131072,65536),(0,262144,16),(12,524288,262144),(21,1048576,688128),(63,0,1048640),(127,128,0)]
theorem el60:ElT Tryz.prog 60 34 (Rep.size TShare) 128 (.agg zM) zL:=⟨Tryz.underlying60,by kernel_rfl,rfl,rfl,rfl,rfl⟩
theorem body70:bodyB Tryz.prog 70 = true:=by kernel_rfl
theorem body71:bodyB Tryz.prog 71 = true:=by kernel_rfl
theorem body73:bodyB Tryz.prog 73 = true:=by kernel_rfl
theorem body93:bodyB Tryz.prog 93 = true:=by kernel_rfl
def share_Mul_p (n:Nat) (a0:TShare) (a1:TShare):Option (TShare × Int):=
  (share_valid_p n ([a0,a1]:List TShare)).bind fun d0=>(if d0 = true then (share_Read_p n a0).bind fun g0=>(share_Read_p n a1).bind fun j0=>(share_Ratio_Times_p n g0 j0).bind fun k0=>(share_told_p n k0 (0:Int)).bind fun c0=>some (c0.1,c0.2) else (share_told_p n (⟨(⟨false,([]:List UInt64)⟩:TLong),(⟨false,([]:List UInt64)⟩:TLong)⟩:TRatio) (20:Int)).bind fun b0=>some (b0.1,b0.2))
theorem share_Mul_c (n:Nat) (L:List Nat) (w:World) (hL:∀ b ∈ L,b < w.heap.size) (a0:TShare) (a1:TShare)  {r:TShare × Int} (h:share_Mul_p n a0 a1 = some r) :
    Calls Tryz.prog 35 #[.agg ((cs_TShare a0)).toArray,.agg ((cs_TShare a1)).toArray] w (Gives w fun _ u=>u = .tuple #[.agg ((cs_TShare r.1)).toArray,vI r.2]):=by
 unfold share_Mul_p at h
 have hS0:=Ax w
 refine AE Tryz.func35 rfl rfl rfl (fun _ cs0 hb0=>?_)
 refine Ac<|Ai .plain rfl (Ar hS0 rfl rfl) (fun s2 y1 I0 J1=>?_)
 refine Ai .plain rfl (Ar I0 rfl rfl) (fun t2 z1 J0 K1=>?_)
 refine Ai .plain rfl (Au zL J0) (fun u2 A1 q0 M1=>?_)
 refine Ah rfl<|Aa<|Ac<|Ab (Az rfl (q0.memA (.tl (.tl .hd))))<|Ab (Az rfl (q0.memA (.tl .hd)))<|Bc (fst:=[]) (cap:=[]) (vs:=[.agg ((cs_TShare a0)).toArray,.agg ((cs_TShare a1)).toArray,.func (.func 73) #[] #[]]) .plain body71 Tryz.func71 rfl rfl rfl rfl (e3 rfl rfl rfl) rfl (fun G1 E0 Z1=>?_)
 refine Ac<|Ai .plain rfl (Ar q0 rfl rfl) (fun v2 B1 K0 P1=>?_)
 refine Ai .plain rfl (Ar K0 rfl rfl) (fun x2 C1 M0 Q1=>?_)
 refine Ai .plain rfl (Au [.bool false,vN,.bool false,vN] M0) (fun y2 D1 s0 R1=>?_)
 refine Ah rfl<|Aa<|Ak<|Ac<|Ab (Az rfl (s0.memA (.tl (.tl .hd))))<|Ab (Az rfl (s0.memA (.tl .hd)))<|Ai .plain rfl (AT (α:=TShare) (xs:=([a0,a1]:List TShare)) (vs:=[.agg ((cs_TShare a0)).toArray,.agg ((cs_TShare a1)).toArray]) (ds' :=(cs_TShare a0 ++ cs_TShare a1)) rfl s0 el60 rfl (e2 rfl rfl) (by kernel_rfl) rfl) (fun z2 E1 c0 U1=>?_)
 have V0:=AM (cs:=(cs_TShare a0 ++ cs_TShare a1)) (xs:=(([a0,a1]:List TShare):List TShare)) c0 L (Ap (cs:=(cs_TShare a0)) (ds:=(cs_TShare a1)) (mk_TShare a0.fN a0.fD) (Ap (cs:=(cs_TShare a1)) (ds:=[]) (mk_TShare a1.fN a1.fD) (AS _ _)))
 obtain ⟨u1,k1,h⟩:=bi h
 refine Ba (.bool u1) body93 rfl (e1 rfl) (fun w9 hw9=>share_valid_c n _ w9 (c0.hL0 hL hw9) ([a0,a1]:List TShare) (Aq (St.lend (α:=TShare) (L:=L) c0 .hd V0 hL) hw9) k1) rfl<|Ab (FV.not rfl)<|Aa<|MX.ifnb rfl h (fun H0 h=>?_) (fun H0 h=>?_)
 refine Av<|Ak<|dt 6 tb71_4 (fun b0 t0=>?_)
 refine Af 0 1 b0 rfl t0 (fun _=>Aj rfl) rfl<|AA 1 3 244 b0 rfl t0 (Az rfl (c0.memA (.tl (.tl (.tl .hd))))) rfl<|AA 3 11 240 b0 rfl t0 (Az rfl (c0.memA (.tl (.tl .hd)))) rfl ?_
 obtain ⟨v1,p1,h⟩:=bi h
 refine Bp 2 15 b0 rfl .plain body83 rfl (e1 rfl) (fun w9 hw9=>share_Read_c n _ w9 (c0.hL hL hw9) a0 p1) rfl (fun A2 j2 Q0 ⟨b2,c2,hu_,b1,c1⟩=>?_)
 subst hu_
 obtain ⟨y0,V1⟩:=c0.agr Q0
 obtain ⟨x1,q1,h⟩:=bi h
 refine Bp 4 31 b0 rfl .plain body83 rfl (e1 rfl) (fun w9 hw9=>share_Read_c n _ w9 (y0.hL hL hw9) a1 q1) rfl (fun B2 k2 R0 ⟨d2,g2,hu_,d1,g1⟩=>?_)
 subst hu_
 obtain ⟨z0,C0⟩:=y0.agr R0
 obtain ⟨d0,s1,h⟩:=bi h
 have W0:=Ay b1 C0
 have X0:=Ay c1 C0
 refine Bp 5 63 b0 rfl .plain body73 rfl (e2 rfl rfl) (fun w9 hw9=>share_Ratio_Times_c n _ w9 (z0.hL hL hw9) v1 (Aq W0 hw9) (Aq X0 hw9) x1 (Aq d1 hw9) (Aq g1 hw9) s1) rfl (fun C2 p2 U0 ⟨u0,v0,hu_,F0,G0⟩=>?_)
 subst hu_
 obtain ⟨P0,W1⟩:=z0.agr U0
 refine Bq 6 127 b0 rfl rfl .plain (Aw (news:=[.bool d0.ft.fe,u0,.bool d0.fp.fe,v0]) P0 (.tl .hd) rfl rfl rfl rfl rfl rfl (o4 rfl (AU F0) rfl (AU G0))) (fun D2 g0 D0=>?_)
 refine BC (i:=7) (rk b0) (RO.val (m' :=255) (sk b0) rfl .plain rfl (AY rfl) ?_)
 refine AH (dk b0)<|Am rfl<|Al (u:=.tuple #[.agg #[.bool d0.ft.fe,u0,.bool d0.fp.fe,v0],vI 0]) E0 Tryz.func71 rfl (.cons (.many (cs:=[.bool d0.ft.fe,u0,.bool d0.fp.fe,v0]) (by kernel_rfl) rfl (g0.memA (.tl .hd))) (.cons (.tmp rfl) .nil)) rfl<|Ab (Ag rfl rfl)<|Ab (Ag rfl rfl) ?_
 obtain ⟨k0,t1,h⟩:=bi h
 have Y0:=Ay F0 D0
 have Z0:=Ay G0 D0
 refine Ba (.tuple #[.agg ((cs_TShare k0.1)).toArray,vI k0.2]) body70 rfl (e2 rfl rfl) (fun w9 hw9=>share_told_c n _ w9 (g0.hL0 hL hw9) d0 (g0.kd Y0 hw9) (g0.kd Z0 hw9) (0:Int) t1) rfl<|Ab (Ag rfl rfl)<|Ab (Ag rfl rfl)<|AL (cs_TShare k0.1) g0 (.tl (.tl (.tl (.tl .hd)))) (onesB rfl) (fun E2 A0 X1=>?_)
 refine Ah rfl<|Aa<|Am rfl<|Al hb0 Tryz.func35 rfl (.cons (.many (cs:=(cs_TShare k0.1)) (by kernel_rfl) rfl (A0.memA (.tl (.tl (.tl (.tl .hd)))))) (.cons (.tmp rfl) .nil)) rfl ?_
 cases h
 exact A0.gv
 refine Ac<|Ai .plain rfl (Au [.bool false,vN,.bool false,vN] c0) (fun F2 F1 B0 Y1=>?_)
 refine Aa<|Ac<|Ab (Az rfl (B0.memA .hd))<|AL [.bool false,vN,.bool false,vN] B0 (.tl (.tl .hd)) (onesB rfl) (fun G2 p0 H1=>?_)
 refine Ah rfl<|Aa<|Am rfl<|Al (u:=.tuple #[.agg #[.bool false,vN,.bool false,vN],vI 20]) E0 Tryz.func71 rfl (.cons (.many (cs:=[.bool false,vN,.bool false,vN]) (by kernel_rfl) rfl (p0.memA (.tl (.tl .hd)))) (.cons (.tmp rfl) .nil)) rfl<|Ab (Ag rfl rfl)<|Ab (Ag rfl rfl) ?_
 obtain ⟨j0,j1,h⟩:=bi h
 refine Ba (.tuple #[.agg ((cs_TShare j0.1)).toArray,vI j0.2]) body70 rfl (e2 rfl rfl) (fun w9 hw9=>share_told_c n _ w9 (p0.hL0 hL hw9) (⟨(⟨false,([]:List UInt64)⟩:TLong),(⟨false,([]:List UInt64)⟩:TLong)⟩:TRatio) (Aq (Rep.nilSlice _ _) hw9) (Aq (Rep.nilSlice _ _) hw9) (20:Int) j1) rfl<|Ab (Ag rfl rfl)<|Ab (Ag rfl rfl)<|AL (cs_TShare j0.1) p0 (.tl (.tl (.tl (.tl (.tl .hd))))) (onesB rfl) (fun q2 x0 I1=>?_)
 refine Ah rfl<|Aa<|Am rfl<|Al hb0 Tryz.func35 rfl (.cons (.many (cs:=(cs_TShare j0.1)) (by kernel_rfl) rfl (x0.memA (.tl (.tl (.tl (.tl (.tl .hd))))))) (.cons (.tmp rfl) .nil)) rfl ?_
 cases h
 exact x0.gv
structure Tbroken where
  fH:Int
  deriving DecidableEq
instance:Rep Tbroken:=Rep.via (β:=Int) fun x=>x.fH
def minority_must_api_Share_p (_n:Nat) (a0:TShare) (a1:Int):Option (Except Tbroken TShare):=
  (if a1 = 0 then some (.ok a0) else some (.error (⟨a1⟩:Tbroken)))
theorem minority_must_api_Share_c (n:Nat) (L:List Nat) (w:World) (_hL:∀ b ∈ L,b < w.heap.size) (a0:TShare) (a1:Int)  {r:Except Tbroken TShare} (h:minority_must_api_Share_p n a0 a1 = some r) :
    Calls Tryz.prog 56 #[.agg ((cs_TShare a0)).toArray,vI a1] w (PGives w (fun (y:TShare) _ u=>u = .agg ((cs_TShare y)).toArray) (fun e=>.iface 110 (.agg #[vI e.fH])) r):=by
 unfold minority_must_api_Share_p at h
 have hS0:=Ax w
 refine Bz Tryz.func56 rfl rfl rfl (fun _ cs0 hb0 hp0=>?_)
 refine Ac<|Ai .plain rfl (Ar hS0 rfl rfl) (fun t0 j0 g0 p0=>?_)
 refine Ai .plain rfl (Au zL g0) (fun u0 k0 b0 q0=>?_)
 refine Aa<|Ak<|Ac<|Ae rfl<|Ab (FV.neq (i:=a1) (j:=0) rfl rfl)<|Aa<|MX.ifn rfl h (fun d0 h=>?_) (fun d0 h=>?_)
 refine Av<|Ac<|Ab (Az rfl (b0.memA (.tl .hd)))<|AL (cs_TShare a0) b0 .hd (onesB rfl) (fun v0 c0 s0=>?_)
 refine Aa<|Am rfl<|Al hb0 Tryz.func56 rfl (.cons (.many (cs:=(cs_TShare a0)) (by kernel_rfl) rfl (c0.memA .hd)) .nil) rfl ?_
 cases h
 exact ⟨c0.ag,fun w9 hw9=>okOf_in rfl⟩
 refine Ao<|Ae rfl<|Ab (AK (vs:=[vI a1]) (u:=.agg #[vI a1]) (e1 rfl) (fun w9=>by kernel_rfl))<|Ab (Bn (by kernel_rfl) rfl)<|RG.panic .plain rfl ?_
 cases h
 exact AG hp0 Tryz.func56 ⟨b0.ag,rfl⟩
theorem body35:bodyB Tryz.prog 35 = true:=by kernel_rfl
theorem body56:bodyB Tryz.prog 56 = true:=by kernel_rfl
def minority_mul_p (n:Nat) (a0:TShare) (a1:TShare):Option (Except Tbroken TShare):=
  (share_Mul_p n a0 a1).bind fun b0=>(minority_must_api_Share_p n b0.1 b0.2).bind fun d0=>exc d0 (fun g0=>some (.ok g0)) (fun c0=>some (.error c0))
theorem minority_mul_c (n:Nat) (L:List Nat) (w:World) (hL:∀ b ∈ L,b < w.heap.size) (a0:TShare) (a1:TShare)  {r:Except Tbroken TShare} (h:minority_mul_p n a0 a1 = some r) :
    Calls Tryz.prog 30 #[.agg ((cs_TShare a0)).toArray,.agg ((cs_TShare a1)).toArray] w (PGives w (fun (y:TShare) _ u=>u = .agg ((cs_TShare y)).toArray) (fun e=>.iface 110 (.agg #[vI e.fH])) r):=by
 unfold minority_mul_p at h
 have hS0:=Ax w
 refine Bz Tryz.func30 rfl rfl rfl (fun _ cs0 hb0 hp0=>?_)
 refine Ac<|Ai .plain rfl (Ar hS0 rfl rfl) (fun F0 v0 k0 A0=>?_)
 refine Ai .plain rfl (Ar k0 rfl rfl) (fun G0 x0 p0 B0=>?_)
 refine Ai .plain rfl (Au zL p0) (fun H0 y0 b0 C0=>?_)
 refine Aa<|Ac<|Ab (Az rfl (b0.memA (.tl (.tl .hd))))<|Ab (Az rfl (b0.memA (.tl .hd))) ?_
 obtain ⟨c0,t0,h⟩:=bi h
 refine Ba (.tuple #[.agg ((cs_TShare c0.1)).toArray,vI c0.2]) body35 rfl (e2 rfl rfl) (fun w9 hw9=>share_Mul_c n _ w9 (b0.hL0 hL hw9) a0 a1 t0) rfl<|Ab (Ag rfl rfl)<|Ab (Ag rfl rfl) ?_
 obtain ⟨u0,j0,h⟩:=bi h
 rcases u0 with z0 | d0
 have h:=exc_e h
 try dsimp only at h
 refine Bg (fst:=[]) (cap:=[]) .plain body56 rfl (e2 rfl rfl) (fun w9 hw9=>minority_must_api_Share_c n _ w9 (b0.hL0 hL hw9) c0.1 c0.2 j0) (fun I0 s0=>?_)
 obtain ⟨q0,D0⟩:=b0.agr s0
 cases h
 exact AG hp0 Tryz.func30 ⟨q0.ag,rfl⟩
 have h:=exc_o h
 try dsimp only at h
 refine Ba (.agg ((cs_TShare d0)).toArray) body56 rfl (e2 rfl rfl) (fun w9 hw9=>AD (minority_must_api_Share_c n _ w9 (b0.hL0 hL hw9) c0.1 c0.2 j0)) rfl<|AL (cs_TShare d0) b0 .hd (onesB rfl) (fun J0 g0 E0=>?_)
 refine Aa<|Am rfl<|Al hb0 Tryz.func30 rfl (.cons (.many (cs:=(cs_TShare d0)) (by kernel_rfl) rfl (g0.memA .hd)) .nil) rfl ?_
 cases h
 exact ⟨g0.ag,fun w9 hw9=>okOf_in rfl⟩
def tb68_3:List (Nat × Nat × Nat):=[(0,1024,4),(1,2048,1024),(0,4096,8),(6,8192,4096),(10,16384,10240),(16,32768,16384),(32,65536,32768),(32,131072,32768),(255,0,65552),(511,32,131072)]
theorem ex_A31 {a b:UInt64 × UInt64 × UInt64 × UInt64 × UInt64 × UInt64 × UInt64 × UInt64} (h0:a.1 = b.1) (h1:a.2.1 = b.2.1) (h2:a.2.2.1 = b.2.2.1) (h3:a.2.2.2.1 = b.2.2.2.1) (h4:a.2.2.2.2.1 = b.2.2.2.2.1) (h5:a.2.2.2.2.2.1 = b.2.2.2.2.2.1) (h6:a.2.2.2.2.2.2.1 = b.2.2.2.2.2.2.1) (h7:a.2.2.2.2.2.2.2 = b.2.2.2.2.2.2.2):a = b:=Prod.ext h0 (Prod.ext h1 (Prod.ext h2 (Prod.ext h3 (Prod.ext h4 (Prod.ext h5 (Prod.ext h6 (h7)))))))
theorem eqlD_32 (a b:UInt64 × UInt64 × UInt64 × UInt64 × UInt64 × UInt64 × UInt64 × UInt64) (w9:World):(do eqGuard .eql 32 (.tmp 0) (.tmp 0) (.agg #[vU a.1,vU a.2.1,vU a.2.2.1,vU a.2.2.2.1,vU a.2.2.2.2.1,vU a.2.2.2.2.2.1,vU a.2.2.2.2.2.2.1,vU a.2.2.2.2.2.2.2]) (.agg #[vU b.1,vU b.2.1,vU b.2.2.1,vU b.2.2.2.1,vU b.2.2.2.2.1,vU b.2.2.2.2.2.1,vU b.2.2.2.2.2.2.1,vU b.2.2.2.2.2.2.2]); binOp .eql 32 (.agg #[vU a.1,vU a.2.1,vU a.2.2.1,vU a.2.2.2.1,vU a.2.2.2.2.1,vU a.2.2.2.2.2.1,vU a.2.2.2.2.2.2.1,vU a.2.2.2.2.2.2.2]) (.agg #[vU b.1,vU b.2.1,vU b.2.2.1,vU b.2.2.2.1,vU b.2.2.2.2.1,vU b.2.2.2.2.2.1,vU b.2.2.2.2.2.2.1,vU b.2.2.2.2.2.2.2]):Sem Value).run Tryz.prog w9 = .ok (.bool (decide (a = b))) w9:=
  eqAgg (ks:=[.int .u64,.int .u64,.int .u64,.int .u64,.int .u64,.int .u64,.int .u64,.int .u64]) (xs:=[vU a.1,vU a.2.1,vU a.2.2.1,vU a.2.2.2.1,vU a.2.2.2.2.1,vU a.2.2.2.2.2.1,vU a.2.2.2.2.2.2.1,vU a.2.2.2.2.2.2.2]) (ys:=[vU b.1,vU b.2.1,vU b.2.2.1,vU b.2.2.2.1,vU b.2.2.2.2.1,vU b.2.2.2.2.2.1,vU b.2.2.2.2.2.2.1,vU b.2.2.2.2.2.2.2]) (by kernel_rfl) (by kernel_rfl) (by kernel_rfl) rfl rfl ⟨fun h=>by
    simp only [allEq,veq,Bool.and_eq_true,beq_iff_eq,and_true] at h
    obtain ⟨h0,h1,h2,h3,h4,h5,h6,h7⟩:=h
    exact ex_A31 (UInt_inj64 h0) (UInt_inj64 h1) (UInt_inj64 h2) (UInt_inj64 h3) (UInt_inj64 h4) (UInt_inj64 h5) (UInt_inj64 h6) (UInt_inj64 h7),fun h=>by subst h; simp [allEq,veq]⟩ _ _ w9
def share_Make_p (n:Nat) (a0:UInt64 × UInt64 × UInt64 × UInt64 × UInt64 × UInt64 × UInt64 × UInt64) (a1:UInt64 × UInt64 × UInt64 × UInt64 × UInt64 × UInt64 × UInt64 × UInt64):Option (TShare × Int):=
  (if a1 = ((0:UInt64),(0:UInt64),(0:UInt64),(0:UInt64),(0:UInt64),(0:UInt64),(0:UInt64),(0:UInt64)) then some ((⟨((0:UInt64),(0:UInt64),(0:UInt64),(0:UInt64),(0:UInt64),(0:UInt64),(0:UInt64),(0:UInt64)),((0:UInt64),(0:UInt64),(0:UInt64),(0:UInt64),(0:UInt64),(0:UInt64),(0:UInt64),(0:UInt64))⟩:TShare),(7:Int)) else (wide_Longer_p n a0).bind fun c0=>(wide_Longer_p n a1).bind fun d0=>(share_Lowest_p n c0 d0).bind fun g0=>(share_Ratio_Told_p n g0).bind fun b0=>some (b0.1,b0.2))
theorem share_Make_c (n:Nat) (L:List Nat) (w:World) (hL:∀ b ∈ L,b < w.heap.size) (a0:UInt64 × UInt64 × UInt64 × UInt64 × UInt64 × UInt64 × UInt64 × UInt64) (a1:UInt64 × UInt64 × UInt64 × UInt64 × UInt64 × UInt64 × UInt64 × UInt64)  {r:TShare × Int} (h:share_Make_p n a0 a1 = some r) :
    Calls Tryz.prog 68 #[.agg ((cs_A31 a0)).toArray,.agg ((cs_A31 a1)).toArray] w (Gives w fun _ u=>u = .tuple #[.agg ((cs_TShare r.1)).toArray,vI r.2]):=by
 unfold share_Make_p at h
 have hS0:=Ax w
 refine AE Tryz.func68 rfl rfl rfl (fun _ cs0 hb0=>?_)
 refine Ac<|Ai .plain rfl (Ar hS0 rfl rfl) (fun t1 Q0 u0 V0=>?_)
 refine Ai .plain rfl (Ar u0 rfl rfl) (fun u1 R0 v0 W0=>?_)
 refine Ai .plain rfl (Au zL v0) (fun v1 U0 c0 X0=>?_)
 refine Ah rfl<|Aa<|Ak<|Ac<|Ab (Az rfl (c0.memA (.tl .hd)))<|Ab (AK (vs:=[]) (u:=.agg zQ) evs_nil (fun w9=>by kernel_rfl))<|Ab (FV.eqlV (v:=.agg ((cs_A31 a1)).toArray) (u:=.agg zQ) rfl rfl (eqlD_32 a1 ((0:UInt64),(0:UInt64),(0:UInt64),(0:UInt64),(0:UInt64),(0:UInt64),(0:UInt64),(0:UInt64))))<|Aa<|AX rfl h (fun t0 h=>?_) (fun t0 h=>?_)
 refine Ac<|Ab (AK (vs:=[]) (u:=.agg zM) evs_nil (fun w9=>by kernel_rfl))<|AL zL c0 .hd (onesB rfl) (fun x1 k0 Y0=>?_)
 refine Ah rfl<|Aa<|Am rfl<|Al hb0 Tryz.func68 rfl (.cons (.many (cs:=zL) (by kernel_rfl) rfl (k0.memA .hd)) (.cons (.tmp rfl) .nil)) rfl ?_
 cases h
 exact k0.gv
 refine Av<|Ak<|dt 8 tb68_3 (fun b0 d0=>?_)
 refine AA 0 1 1018 b0 rfl d0 (Az rfl (c0.memA (.tl (.tl .hd)))) rfl<|AA 2 5 1016 b0 rfl d0 (Az rfl (c0.memA (.tl .hd))) rfl ?_
 obtain ⟨K0,G0,h⟩:=bi h
 refine Bp 1 7 b0 rfl .plain body96 rfl (e1 rfl) (fun w9 hw9=>wide_Longer_c n _ w9 (c0.hL hL hw9) a0 G0) rfl (fun y1 p1 y0 ⟨d1,hu_,C0⟩=>?_)
 subst hu_
 obtain ⟨p0,Z0⟩:=c0.agr y0
 obtain ⟨M0,H0,h⟩:=bi h
 refine Bp 3 15 b0 rfl .plain body96 rfl (e1 rfl) (fun w9 hw9=>wide_Longer_c n _ w9 (p0.hL hL hw9) a1 H0) rfl (fun z1 q1 z0 ⟨g1,hu_,D0⟩=>?_)
 subst hu_
 obtain ⟨q0,x0⟩:=p0.agr z0
 obtain ⟨P0,I0,h⟩:=bi h
 have B0:=Ay C0 x0
 refine Bp 4 31 b0 rfl .plain body95 rfl (e2 rfl rfl) (fun w9 hw9=>share_Lowest_c n _ w9 (q0.hL hL hw9) K0 (Aq B0 hw9) M0 (Aq D0 hw9) I0) rfl (fun A1 s1 A0 ⟨j1,k1,hu_,E0,F0⟩=>?_)
 subst hu_
 obtain ⟨g0,b1⟩:=q0.agr A0
 obtain ⟨j0,J0,h⟩:=bi h
 refine BA 5 63 960 (.tuple #[.agg ((cs_TShare j0.1)).toArray,vI j0.2]) b0 rfl d0 body97 rfl (e1 rfl) (fun w9 hw9=>share_Ratio_Told_c n _ w9 (g0.hL0 hL hw9) P0 (g0.kd E0 hw9) (g0.kd F0 hw9) J0) rfl<|Af 6 127 b0 rfl d0 (fun _=>Ag rfl rfl) rfl<|Af 7 255 b0 rfl d0 (fun _=>Ag rfl rfl) rfl<|Bq 8 511 b0 rfl rfl .plain (Aw (news:=(cs_TShare j0.1)) g0 .hd rfl rfl rfl rfl rfl rfl (onesB rfl)) (fun B1 s0 c1=>?_)
 refine BC (i:=9) (rk b0) (RO.val (m' :=1023) (sk b0) rfl .plain rfl (AY rfl) ?_)
 refine AH (dk b0)<|Am rfl<|Al hb0 Tryz.func68 rfl (.cons (.many (cs:=(cs_TShare j0.1)) (by kernel_rfl) rfl (s0.memA .hd)) (.cons (.tmp rfl) .nil)) rfl ?_
 cases h
 exact s0.gv
theorem body68:bodyB Tryz.prog 68 = true:=by kernel_rfl
def share_Of_p (n:Nat) (a0:Int) (a1:Int):Option (TShare × Int):=
  (wide_Of_p n a0).bind fun c0=>(wide_Of_p n a1).bind fun d0=>(share_Make_p n c0 d0).bind fun b0=>some (b0.1,b0.2)
theorem share_Of_c (n:Nat) (L:List Nat) (w:World) (hL:∀ b ∈ L,b < w.heap.size) (a0:Int) (a1:Int)  {r:TShare × Int} (h:share_Of_p n a0 a1 = some r) :
    Calls Tryz.prog 32 #[vI a0,vI a1] w (Gives w fun _ u=>u = .tuple #[.agg ((cs_TShare r.1)).toArray,vI r.2]):=by
 unfold share_Of_p at h
 have hS0:=Ax w
 refine AE Tryz.func32 rfl rfl rfl (fun _ cs0 hb0=>?_)
 refine Ac<|Ai .plain rfl (Au zL hS0) (fun v0 s0 b0 t0=>?_)
 refine Ah rfl<|Aa<|Ac<|Ae rfl ?_
 obtain ⟨g0,k0,h⟩:=bi h
 refine Ba (.agg ((cs_A31 g0)).toArray) body69 rfl (e1 rfl) (fun w9 hw9=>wide_Of_c n _ w9 (b0.hL0 hL hw9) a0 k0) rfl<|Ae rfl ?_
 obtain ⟨j0,p0,h⟩:=bi h
 refine Ba (.agg ((cs_A31 j0)).toArray) body69 rfl (e1 rfl) (fun w9 hw9=>wide_Of_c n _ w9 (b0.hL0 hL hw9) a1 p0) rfl ?_
 obtain ⟨c0,q0,h⟩:=bi h
 refine Ba (.tuple #[.agg ((cs_TShare c0.1)).toArray,vI c0.2]) body68 rfl (e2 rfl rfl) (fun w9 hw9=>share_Make_c n _ w9 (b0.hL0 hL hw9) g0 j0 q0) rfl<|Ab (Ag rfl rfl)<|Ab (Ag rfl rfl)<|AL (cs_TShare c0.1) b0 .hd (onesB rfl) (fun x0 d0 u0=>?_)
 refine Ah rfl<|Aa<|Am rfl<|Al hb0 Tryz.func32 rfl (.cons (.many (cs:=(cs_TShare c0.1)) (by kernel_rfl) rfl (d0.memA .hd)) (.cons (.tmp rfl) .nil)) rfl ?_
 cases h
 exact d0.gv
theorem body32:bodyB Tryz.prog 32 = true:=by kernel_rfl
def minority_of_p (n:Nat) (a0:Int) (a1:Int):Option (Except Tbroken TShare):=
  (share_Of_p n a0 a1).bind fun b0=>(minority_must_api_Share_p n b0.1 b0.2).bind fun d0=>exc d0 (fun g0=>some (.ok g0)) (fun c0=>some (.error c0))
theorem minority_of_c (n:Nat) (L:List Nat) (w:World) (hL:∀ b ∈ L,b < w.heap.size) (a0:Int) (a1:Int)  {r:Except Tbroken TShare} (h:minority_of_p n a0 a1 = some r) :
    Calls Tryz.prog 31 #[vI a0,vI a1] w (PGives w (fun (y:TShare) _ u=>u = .agg ((cs_TShare y)).toArray) (fun e=>.iface 110 (.agg #[vI e.fH])) r):=by
 unfold minority_of_p at h
 have hS0:=Ax w
 refine Bz Tryz.func31 rfl rfl rfl (fun _ cs0 hb0 hp0=>?_)
 refine Ac<|Ai .plain rfl (Au zL hS0) (fun z0 t0 c0 v0=>?_)
 refine Aa<|Ac<|Ae rfl<|Ae rfl ?_
 obtain ⟨b0,q0,h⟩:=bi h
 refine Ba (.tuple #[.agg ((cs_TShare b0.1)).toArray,vI b0.2]) body32 rfl (e2 rfl rfl) (fun w9 hw9=>share_Of_c n _ w9 (c0.hL0 hL hw9) a0 a1 q0) rfl<|Ab (Ag rfl rfl)<|Ab (Ag rfl rfl) ?_
 obtain ⟨s0,j0,h⟩:=bi h
 rcases s0 with u0 | d0
 have h:=exc_e h
 try dsimp only at h
 refine Bg (fst:=[]) (cap:=[]) .plain body56 rfl (e2 rfl rfl) (fun w9 hw9=>minority_must_api_Share_c n _ w9 (c0.hL0 hL hw9) b0.1 b0.2 j0) (fun A0 p0=>?_)
 obtain ⟨k0,x0⟩:=c0.agr p0
 cases h
 exact AG hp0 Tryz.func31 ⟨k0.ag,rfl⟩
 have h:=exc_o h
 try dsimp only at h
 refine Ba (.agg ((cs_TShare d0)).toArray) body56 rfl (e2 rfl rfl) (fun w9 hw9=>AD (minority_must_api_Share_c n _ w9 (c0.hL0 hL hw9) b0.1 b0.2 j0)) rfl<|AL (cs_TShare d0) c0 .hd (onesB rfl) (fun B0 g0 y0=>?_)
 refine Aa<|Am rfl<|Al hb0 Tryz.func31 rfl (.cons (.many (cs:=(cs_TShare d0)) (by kernel_rfl) rfl (g0.memA .hd)) .nil) rfl ?_
 cases h
 exact ⟨g0.ag,fun w9 hw9=>okOf_in rfl⟩
end Go.Proofs.YtbgcdbblaadokaaGreatDoor
