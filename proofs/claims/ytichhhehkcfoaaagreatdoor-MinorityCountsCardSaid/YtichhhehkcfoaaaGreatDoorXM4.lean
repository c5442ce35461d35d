/- Functions of the program, and what they give: part 4. -/
import Derived.Test.YtichhhehkcfoaaaGreatDoorXM3
namespace Go.Proofs.YtichhhehkcfoaaaGreatDoor
open Go Go.RowKit
set_option maxRecDepth 4000
set_option maxHeartbeats 4000000

theorem body159:bodyB Tryz.prog 159 = true:=by kernel_rfl
def wide_multiplied_l1 (n:Nat) (a1:List UInt64) (s0:UInt64) (d0:Nat) (q0:UInt64 × Nat × (List UInt64) → Option ((List UInt64) × UInt64)):UInt64 × Nat × (List UInt64) → Option ((List UInt64) × UInt64)
  | (g0,b0,c0)=>(if b0 < a1.length then (a1[b0]?).bind fun t0=>(math_bits_Mul64_p n s0 t0).bind fun j0=>(c0[d0 + b0]?).bind fun u0=>(add64 u0 j0.2 (0:UInt64)).bind fun k0=>(add64 k0.1 g0 (0:UInt64)).bind fun p0=>(put c0 ((d0 + b0:Nat):Int) p0.1).bind fun v0=>q0 ((j0.1 + k0.2) + p0.2,b0 + 1,v0) else some (c0,g0))
def wide_multiplied_l2 (n:Nat) (a0:List UInt64) (a1:List UInt64) (g0:Nat × (List UInt64) → Option (List UInt64)):Nat × (List UInt64) → Option (List UInt64)
  | (b0,c0)=>(if b0 < a0.length then (a0[b0]?).bind fun k0=>Option.bind (loopF (wide_multiplied_l1 n a1 k0 b0) n ((0:UInt64),0,c0)) (fun (d0,j0)=>(d0[b0 + a1.length]?).bind fun q0=>(put d0 ((b0 + a1.length:Nat):Int) j0).bind fun p0=>g0 (b0 + 1,p0)) else some c0)
def wide_multiplied_p (n:Nat) (a0:List UInt64) (a1:List UInt64):Option (List UInt64):=
  (mk ((a0.length + a1.length:Nat):Int) (0:UInt64)).bind fun b0=>Option.bind (loopF (wide_multiplied_l2 n a0 a1) n (0,b0)) (fun c0=>some c0)
theorem wide_multiplied_c (n:Nat) (L:List Nat) (w:World) (hL:∀ b ∈ L,b < w.heap.size) (a0:List UInt64) {v0_0:Value} (h0_0:Rep.R w L [v0_0] a0) (a1:List UInt64) {v1_0:Value} (h1_0:Rep.R w L [v1_0] a1)  {r:List UInt64} (h:wide_multiplied_p n a0 a1 = some r) :
    Calls Tryz.prog 137 #[v0_0,v1_0] w (Gives w fun w' u=>∃ v0_0:Value,u = v0_0∧Rep.R w' L [v0_0] r):=by
 unfold wide_multiplied_p at h
 have hS0:=Ay w
 refine AD Tryz.func137 rfl rfl rfl (fun _ cs0 hb0=>?_)
 refine Ac<|Af rfl<|Aa<|Ac<|Ae rfl ?_
 have hl1:a0.length ≤ 281474976710656:=AU h0_0
 refine Ab (Bd (xs:=a0) Tryz.underlying142 rfl h0_0)<|Ae rfl ?_
 have hl2:a1.length ≤ 281474976710656:=AU h1_0
 refine Ab (Bd (xs:=a1) Tryz.underlying142 rfl h1_0)<|Ab (Bl (i:=a0.length) (j:=a1.length) rfl rfl (by omega)) ?_
 obtain ⟨G0,P0,h⟩:=bi h
 refine Ai .plain rfl (Does.mk (α:=UInt64) P0 hS0 el142 rfl) (fun C2 d0 B0 V2=>?_)
 have A1:=AH (cs:=(List.replicate ((a0.length + a1.length:Nat):Int).toNat [vW 0]).flatten) (xs:=G0) B0 L (Cells.mk P0 rfl)
 refine Af rfl<|Aa<|Aj<|Ac<|Ae rfl ?_
 have Q1:=AO h0_0 B0
 refine Ab (Bd (xs:=a0) Tryz.underlying142 rfl Q1)<|Ae rfl<|Aa<|Az ?_
 obtain ⟨Y2,b2,J1⟩:=bind_in2 h
 refine Bm (α:=Nat × (List UInt64) × (List Value)) (fun ⟨b0,g0,j0⟩=>[(1,v1_0),(5,(.slice (some ⟨d0,0,none⟩) ((a0.length + a1.length:Nat):Int).toNat ((a0.length + a1.length:Nat):Int).toNat)),(22,v0_0),(23,vI ((a0.length:Nat):Int)),(24,vI ((b0:Nat):Int))]) (fun ⟨b0,g0,j0⟩ v0=>St w v0 [.row w.heap.size 49 (Rep.size UInt64) (.slice (some ⟨d0,0,none⟩) ((a0.length + a1.length:Nat):Int).toNat ((a0.length + a1.length:Nat):Int).toNat) g0.length j0]∧Tr C2 [.row w.heap.size 49 (Rep.size UInt64) (.slice (some ⟨d0,0,none⟩) ((a0.length + a1.length:Nat):Int).toNat ((a0.length + a1.length:Nat):Int).toNat) G0.length ((List.replicate ((a0.length + a1.length:Nat):Int).toNat [vW 0]).flatten)] v0 [.row w.heap.size 49 (Rep.size UInt64) (.slice (some ⟨d0,0,none⟩) ((a0.length + a1.length:Nat):Int).toNat ((a0.length + a1.length:Nat):Int).toNat) g0.length j0]∧Cells v0 (bl [.row w.heap.size 49 (Rep.size UInt64) (.slice (some ⟨d0,0,none⟩) ((a0.length + a1.length:Nat):Int).toNat ((a0.length + a1.length:Nat):Int).toNat) g0.length j0] ++ L) j0 g0) (fun ⟨b0,g0,j0⟩=>(b0,g0)) (0,G0,(List.replicate ((a0.length + a1.length:Nat):Int).toNat [vW 0]).flatten) b2 ⟨rfl,rfl,rfl,rfl,rfl,trivial⟩ ⟨B0,AQ _ _,A1⟩ ?_
 rintro I2 ⟨b0,g0,j0⟩ v0 q1 ⟨s0,x1,I0⟩ h
 unfold wide_multiplied_l2 at h
 try dsimp only at h
 refine Ac<|Ab (Br (i:=b0) (j:=a0.length) rfl rfl)<|Aa<|Aj<|AV rfl h (fun Z0 h=>?_) (fun Z0 h=>?_)
 refine Au<|Aj<|Az<|Ac<|Ae rfl ?_
 obtain ⟨F0,s2,h⟩:=bi h
 have U1:=AO h0_0 s0
 obtain ⟨G2,K2,D1,M1,c1,d2,R1⟩:=Bk U1 s2
 have E1:c1 = [vU F0]:=d2; subst E1
 refine Ab (Bp 1 b0 rfl D1 rfl rfl M1)<|AY rfl (R1 0 _ rfl)<|Af rfl<|Af rfl<|Aa<|Ac<|Af rfl<|Aa<|Aj<|Ac<|Ae rfl ?_
 have V1:=AO h1_0 s0
 refine Ab (Bd (xs:=a1) Tryz.underlying142 rfl V1)<|Ae rfl<|Aa<|Az ?_
 obtain ⟨Z2,c2,K1⟩:=bind_in2 h
 refine Bm (α:=UInt64 × Nat × (List UInt64) × (List Value)) (fun ⟨t0,c0,p0,q0⟩=>[(1,v1_0),(5,(.slice (some ⟨d0,0,none⟩) ((a0.length + a1.length:Nat):Int).toNat ((a0.length + a1.length:Nat):Int).toNat)),(22,v0_0),(23,vI ((a0.length:Nat):Int)),(24,vI ((b0:Nat):Int)),(6,vI ((b0:Nat):Int)),(7,vU F0),(8,vU t0),(29,v1_0),(30,vI ((a1.length:Nat):Int)),(31,vI ((c0:Nat):Int))]) (fun ⟨t0,c0,p0,q0⟩ z0=>St w z0 [.row w.heap.size 49 (Rep.size UInt64) (.slice (some ⟨d0,0,none⟩) ((a0.length + a1.length:Nat):Int).toNat ((a0.length + a1.length:Nat):Int).toNat) p0.length q0]∧Tr v0 [.row w.heap.size 49 (Rep.size UInt64) (.slice (some ⟨d0,0,none⟩) ((a0.length + a1.length:Nat):Int).toNat ((a0.length + a1.length:Nat):Int).toNat) g0.length j0] z0 [.row w.heap.size 49 (Rep.size UInt64) (.slice (some ⟨d0,0,none⟩) ((a0.length + a1.length:Nat):Int).toNat ((a0.length + a1.length:Nat):Int).toNat) p0.length q0]∧Cells z0 (bl [.row w.heap.size 49 (Rep.size UInt64) (.slice (some ⟨d0,0,none⟩) ((a0.length + a1.length:Nat):Int).toNat ((a0.length + a1.length:Nat):Int).toNat) p0.length q0] ++ L) q0 p0) (fun ⟨t0,c0,p0,q0⟩=>(t0,c0,p0)) ((0:UInt64),0,g0,j0) c2 ⟨rfl,rfl,rfl,rfl,rfl,rfl,rfl,rfl,rfl,rfl,rfl,trivial⟩ ⟨s0,AQ _ _,I0⟩ ?_
 rintro J2 ⟨t0,c0,p0,q0⟩ z0 s1 ⟨k0,H0,x0⟩ h
 unfold wide_multiplied_l1 at h
 try dsimp only at h
 refine Ac<|Ab (Br (i:=c0) (j:=a1.length) rfl rfl)<|Aa<|Aj<|AV rfl h (fun b1 h=>?_) (fun b1 h=>?_)
 refine Au<|Aj<|Az<|Ac<|Ae rfl ?_
 obtain ⟨Q0,t2,h⟩:=bi h
 have X1:=AO h1_0 k0
 obtain ⟨H2,M2,F1,P1,d1,g2,W1⟩:=Bk X1 t2
 have G1:d1 = [vU Q0]:=g2; subst G1
 refine Ab (Bp 1 c0 rfl F1 rfl rfl P1)<|AY rfl (W1 0 _ rfl)<|Af rfl<|Af rfl<|Aa<|Ac<|Ae rfl<|Ae rfl ?_
 obtain ⟨u0,z2,h⟩:=bi h
 refine Bg (.tuple #[vU u0.1,vU u0.2]) body159 rfl (e2 rfl rfl) (fun w9 hw9=>math_bits_Mul64_c n _ w9 (k0.hL0 hL hw9) F0 Q0 z2) rfl<|Ae rfl<|Ab (Ah rfl rfl)<|Ab (Ah rfl rfl)<|Af rfl<|Af rfl<|Aa<|Ac<|Ae rfl<|Ae rfl<|Ae rfl<|Ab (Bl (i:=b0) (j:=c0) rfl rfl (by omega)) ?_
 obtain ⟨R0,u2,h⟩:=bi h
 obtain ⟨V0,P2,y0,E0,g1,j2,Y1⟩:=St.nth (α:=UInt64) k0 .hd x0 u2
 obtain ⟨X0,Q2,J0⟩:=St.nthOwn (α:=UInt64) k0 .hd E0
 obtain rfl:V0 = ⟨X0,0,none⟩:=by rw [J0] at y0; cases y0; rfl
 have H1:g1 = [vU R0]:=j2; subst H1
 refine Ab (Bp 1 (b0 + c0) rfl y0 rfl rfl E0)<|AY rfl (Y1 0 _ rfl)<|Ae rfl ?_
 obtain ⟨A0,A2,h⟩:=bi h
 refine Ab (FV.add64 (a:=R0) (b:=u0.2) (c:=(0:UInt64)) Tryz.func160 rfl (by kernel_rfl) (by kernel_rfl) (by kernel_rfl) rfl rfl rfl A2)<|Ae rfl<|Ab (Ah rfl rfl)<|Ab (Ah rfl rfl)<|Af rfl<|Af rfl<|Aa<|Ac<|Ae rfl<|Ae rfl ?_
 obtain ⟨U0,B2,h⟩:=bi h
 refine Ab (FV.add64 (a:=A0.1) (b:=t0) (c:=(0:UInt64)) Tryz.func160 rfl (by kernel_rfl) (by kernel_rfl) (by kernel_rfl) rfl rfl rfl B2)<|Ae rfl<|Ab (Ah rfl rfl)<|Ab (Ah rfl rfl)<|Af rfl<|Af rfl<|Aa<|Ao<|Ae rfl<|Ae rfl<|Ae rfl<|Ab (Bl (i:=b0) (j:=c0) rfl rfl (by omega))<|Ae rfl<|Ae rfl<|Ae rfl<|Ab (FV.addU (a:=u0.1) (b:=A0.2) rfl rfl)<|Ae rfl<|Ab (FV.addU (a:=u0.1 + A0.2) (b:=U0.2) rfl rfl)<|Ab (Bp 1 (b0 + c0) rfl y0 rfl rfl E0) ?_
 obtain ⟨E2,x2,h⟩:=bi h
 refine RG.acts' .plain (Acts.set (α:=UInt64) (i:=b0 + c0) x2 k0 J0 (fun _=>.hd) x0 rfl rfl rfl rfl rfl (by kernel_rfl)) (fun b3 ⟨j1,u1,y1,B1⟩=>?_)
 refine Af rfl<|Aa<|AB<|Ao<|Ab (Bl (i:=c0) (j:=1) rfl rfl (by omega))<|Ae rfl<|Aa ?_
 exact s1 ((u0.1 + A0.2) + U0.2,c0 + 1,E2,j1) _ _ ⟨rfl,rfl,rfl,rfl,rfl,rfl,rfl,rfl,rfl,rfl,rfl,trivial⟩ ⟨u1,(Tt H0 y1),B1⟩ h
 refine Be rfl ?_
 have h:=K1 _ h
 try dsimp only at h
 refine Ao<|Ae rfl<|Ae rfl<|Ae rfl ?_
 have Z1:=AO h1_0 k0
 refine Ab (Bd (xs:=a1) Tryz.underlying142 rfl Z1)<|Ab (Bl (i:=b0) (j:=a1.length) rfl rfl (by omega))<|Ae rfl ?_
 obtain ⟨D2,v2,h⟩:=bi h
 obtain ⟨W0,R2,D0,M0,k1,k2,X2⟩:=St.nth (α:=UInt64) k0 .hd x0 v2
 obtain ⟨Y0,U2,K0⟩:=St.nthOwn (α:=UInt64) k0 .hd M0
 obtain rfl:W0 = ⟨Y0,0,none⟩:=by rw [K0] at D0; cases D0; rfl
 have I1:k1 = [vU D2]:=k2; subst I1
 refine Ab (Bp 1 (b0 + a1.length) rfl D0 rfl rfl M0) ?_
 obtain ⟨F2,y2,h⟩:=bi h
 refine RG.acts' .plain (Acts.set (α:=UInt64) (i:=b0 + a1.length) y2 k0 K0 (fun _=>.hd) x0 rfl rfl rfl rfl rfl (by kernel_rfl)) (fun c3 ⟨p1,v1,z1,C1⟩=>?_)
 refine Aa<|AB<|Ao<|Ab (Bl (i:=b0) (j:=1) rfl rfl (by omega))<|Ae rfl<|Aa ?_
 exact q1 (b0 + 1,F2,p1) _ _ ⟨rfl,rfl,rfl,rfl,rfl,trivial⟩ ⟨v1,(Tt x1 (Tt H0 z1)),C1⟩ h
 refine Be rfl ?_
 have h:=J1 _ h
 try dsimp only at h
 refine Ac<|Ae rfl<|Af rfl<|Aa<|Al rfl ?_
 have p2:=Bn (α:=UInt64) s0 .hd I0 hL
 have C0:=Bw s0 .hd
 have W2:=Bx s0 .hd
 have q2:=By (α:=UInt64) (v:=(.slice (some ⟨d0,0,none⟩) ((a0.length + a1.length:Nat):Int).toNat ((a0.length + a1.length:Nat):Int).toNat)) (xs:=g0) C0 L p2
 refine Bb hb0 Tryz.func137 rfl rfl ?_
 cases h
 exact ⟨C0.ag,fun w9 hw9=>⟨(.slice (some ⟨d0,0,none⟩) ((a0.length + a1.length:Nat):Int).toNat ((a0.length + a1.length:Nat):Int).toNat),rfl,C0.kd q2 hw9⟩⟩
def tb117_1:List (Nat × Nat × Nat):=[(0,32,4),(1,64,32),(0,128,8),(4,256,128),(10,512,320),(0,1024,4),(32,2048,1024),(0,4096,8),(128,8192,4096),(320,16384,10240),(528,32768,16896),(2047,0,32784)]
theorem body137:bodyB Tryz.prog 137 = true:=by kernel_rfl
def wide_Long_Times_p (n:Nat) (a0:TLong) (a1:TLong):Option TLong:=
  (wide_multiplied_p n a0.fo a1.fo).bind fun b0=>(wide_trimmed_p n (!(a0.fe == a1.fe)) b0).bind fun c0=>some c0
theorem wide_Long_Times_c (n:Nat) (L:List Nat) (w:World) (hL:∀ b ∈ L,b < w.heap.size) (a0:TLong) {v0_1:Value} (h0_1:Rep.R w L [v0_1] a0.fo) (a1:TLong) {v1_1:Value} (h1_1:Rep.R w L [v1_1] a1.fo)  {r:TLong} (h:wide_Long_Times_p n a0 a1 = some r) :
    Calls Tryz.prog 117 #[.agg #[.bool a0.fe,v0_1],.agg #[.bool a1.fe,v1_1]] w (Gives w fun w' u=>∃ v0_1:Value,u = .agg #[.bool r.fe,v0_1]∧Rep.R w' L [v0_1] r.fo):=by
 unfold wide_Long_Times_p at h
 have hS0:=Ay w
 refine AD Tryz.func117 rfl rfl rfl (fun _ cs0 hb0=>?_)
 refine Ac<|Ai .plain rfl (Av hS0 rfl rfl) (fun U0 E0 s0 H0=>?_)
 refine Ai .plain rfl (Av s0 rfl rfl) (fun V0 F0 t0 I0=>?_)
 refine Ai .plain rfl (Ar [.bool false,vN] t0) (fun W0 G0 d0 J0=>?_)
 refine Aa<|Aj<|dt 11 tb117_1 (fun b0 c0=>?_)
 refine Ag 0 1 b0 rfl c0 (fun _=>AX 0 rfl) rfl<|AC 1 3 3088 b0 rfl c0 (AL rfl ((d0.memA (.tl (.tl .hd))) 0 _ rfl)) rfl<|Ag 2 7 b0 rfl c0 (fun _=>AX 0 rfl) rfl<|AC 3 15 3088 b0 rfl c0 (AL rfl ((d0.memA (.tl .hd)) 0 _ rfl)) rfl<|Ag 4 31 b0 rfl c0 (fun _=>FV.neqB (a:=a0.fe) (b:=a1.fe) Tryz.underlying4 rfl rfl) rfl<|Ag 5 63 b0 rfl c0 (fun _=>AX 1 rfl) rfl<|AC 6 127 3584 b0 rfl c0 (AL rfl ((d0.memA (.tl (.tl .hd))) 1 _ rfl)) rfl<|Ag 7 255 b0 rfl c0 (fun _=>AX 1 rfl) rfl<|AC 8 511 3584 b0 rfl c0 (AL rfl ((d0.memA (.tl .hd)) 1 _ rfl)) rfl ?_
 obtain ⟨D0,B0,h⟩:=bi h
 refine Bu 9 1023 b0 rfl .plain body137 rfl (e2 rfl rfl) (fun w9 hw9=>wide_multiplied_c n _ w9 (d0.hL hL hw9) a0.fo (d0.km h0_1 hw9) a1.fo (d0.km h1_1 hw9) B0) rfl (fun X0 Q0 x0 ⟨P0,hu_,A0⟩=>?_)
 subst hu_
 obtain ⟨k0,K0⟩:=d0.agr x0
 obtain ⟨q0,C0,h⟩:=bi h
 refine Bu 10 2047 b0 rfl .plain body133 rfl (e2 rfl rfl) (fun w9 hw9=>wide_trimmed_c n _ w9 (k0.hL hL hw9) (!(a0.fe == a1.fe)) D0 (Ap A0 hw9) C0) rfl (fun Y0 R0 y0 ⟨j0,hu_,p0⟩=>?_)
 subst hu_
 obtain ⟨u0,M0⟩:=k0.agr y0
 refine Bq 11 4095 b0 rfl rfl .plain (Aw (news:=[.bool q0.fe,j0]) u0 .hd rfl rfl rfl rfl rfl rfl (o2 rfl (AN p0))) (fun Z0 g0 v0=>?_)
 refine AE (dk b0)<|Al rfl<|Am hb0 Tryz.func117 rfl (.cons (.many (cs:=[.bool q0.fe,j0]) (by kernel_rfl) rfl (g0.memA .hd)) .nil) rfl ?_
 cases h
 have z0:=Aq p0 v0
 exact ⟨g0.ag,fun w9 hw9=>⟨j0,rfl,g0.kd z0 hw9⟩⟩
def tb87_1:List (Nat × Nat × Nat):=[(0,32,4),(1,64,32),(0,128,8),(4,256,128),(10,512,320),(0,1024,8),(32,2048,1024),(0,4096,4),(128,8192,4096),(336,16384,10240),(528,32768,16896),(2047,16,32768)]
theorem body117:bodyB Tryz.prog 117 = true:=by kernel_rfl
def share_Ratio_Cmp_p (n:Nat) (a0:TRatio) (a1:TRatio):Option Int:=
  (wide_Long_Times_p n a0.ft a1.fp).bind fun b0=>(wide_Long_Times_p n a1.ft a0.fp).bind fun c0=>(wide_Long_Cmp_p n b0 c0).bind fun d0=>some d0
theorem share_Ratio_Cmp_c (n:Nat) (L:List Nat) (w:World) (hL:∀ b ∈ L,b < w.heap.size) (a0:TRatio) {v0_1:Value} (h0_1:Rep.R w L [v0_1] a0.ft.fo) {v0_3:Value} (h0_3:Rep.R w L [v0_3] a0.fp.fo) (a1:TRatio) {v1_1:Value} (h1_1:Rep.R w L [v1_1] a1.ft.fo) {v1_3:Value} (h1_3:Rep.R w L [v1_3] a1.fp.fo)  {r:Int} (h:share_Ratio_Cmp_p n a0 a1 = some r) :
    Calls Tryz.prog 87 #[.agg #[.bool a0.ft.fe,v0_1,.bool a0.fp.fe,v0_3],.agg #[.bool a1.ft.fe,v1_1,.bool a1.fp.fe,v1_3]] w (Gives w fun _ u=>u = vI r):=by
 unfold share_Ratio_Cmp_p at h
 have hS0:=Ay w
 refine AD Tryz.func87 rfl rfl rfl (fun _ cs0 hb0=>?_)
 refine Ac<|Ai .plain rfl (Av hS0 rfl rfl) (fun P0 D0 k0 F0=>?_)
 refine Ai .plain rfl (Av k0 rfl rfl) (fun Q0 E0 d0 G0=>?_)
 refine Af rfl<|Aa<|Aj<|dt 12 tb87_1 (fun b0 c0=>?_)
 refine Ag 0 1 b0 rfl c0 (fun _=>AX 0 rfl) rfl<|AC 1 3 3600 b0 rfl c0 (Bc (cs:=[.bool a0.ft.fe,v0_1]) (by kernel_rfl) rfl (mem_part (d0.memA (.tl .hd)) 0 2)) rfl<|Ag 2 7 b0 rfl c0 (fun _=>AX 2 rfl) rfl<|AC 3 15 3600 b0 rfl c0 (Bc (cs:=[.bool a1.fp.fe,v1_3]) (by kernel_rfl) rfl (mem_part (d0.memA .hd) 2 2)) rfl<|Ag 5 47 b0 rfl c0 (fun _=>AX 0 rfl) rfl<|AC 6 111 3584 b0 rfl c0 (Bc (cs:=[.bool a1.ft.fe,v1_1]) (by kernel_rfl) rfl (mem_part (d0.memA .hd) 0 2)) rfl<|Ag 7 239 b0 rfl c0 (fun _=>AX 2 rfl) rfl<|AC 8 495 3584 b0 rfl c0 (Bc (cs:=[.bool a0.fp.fe,v0_3]) (by kernel_rfl) rfl (mem_part (d0.memA (.tl .hd)) 2 2)) rfl ?_
 obtain ⟨A0,x0,h⟩:=bi h
 refine Bu 4 511 b0 rfl .plain body117 rfl (e2 rfl rfl) (fun w9 hw9=>wide_Long_Times_c n _ w9 (d0.hL hL hw9) a0.ft (d0.km h0_1 hw9) a1.fp (d0.km h1_3 hw9) x0) rfl (fun R0 K0 q0 ⟨I0,hu_,u0⟩=>?_)
 subst hu_
 obtain ⟨g0,H0⟩:=d0.agr q0
 obtain ⟨B0,y0,h⟩:=bi h
 refine Bu 9 1023 b0 rfl .plain body117 rfl (e2 rfl rfl) (fun w9 hw9=>wide_Long_Times_c n _ w9 (g0.hL hL hw9) a1.ft (g0.km h1_1 hw9) a0.fp (g0.km h0_3 hw9) y0) rfl (fun U0 M0 s0 ⟨J0,hu_,v0⟩=>?_)
 subst hu_
 obtain ⟨j0,p0⟩:=g0.agr s0
 obtain ⟨C0,z0,h⟩:=bi h
 have t0:=Aq u0 p0
 refine BA 10 2047 2048 (vI C0) b0 rfl c0 body98 rfl (e2 rfl rfl) (fun w9 hw9=>wide_Long_Cmp_c n _ w9 (j0.hL0 hL hw9) A0 (j0.kd t0 hw9) B0 (j0.kd v0 hw9) z0) rfl<|Ag 11 4095 b0 rfl c0 (fun _=>Bi rfl) rfl<|AE (dk b0)<|Al rfl<|Bb hb0 Tryz.func87 rfl rfl ?_
 cases h
 exact j0.gv
def tb86_4:List (Nat × Nat × Nat):=[(0,32768,4),(0,65536,8),(2,131072,65536),(0,262144,16),(12,524288,262144),(21,1048576,688128),(63,64,1048576),(127,128,0)]
theorem body86:bodyB Tryz.prog 86 = true:=by kernel_rfl
theorem body87:bodyB Tryz.prog 87 = true:=by kernel_rfl
theorem body116:bodyB Tryz.prog 116 = true:=by kernel_rfl
def share_Cmp_p (n:Nat) (a0:TShare) (a1:TShare):Option (Int × Int):=
  (share_valid_p n ([a0,a1]:List TShare)).bind fun b0=>(if b0 = true then (share_Read_p n a0).bind fun c0=>(share_Read_p n a1).bind fun d0=>(share_Ratio_Cmp_p n c0 d0).bind fun g0=>some (g0,(0:Int)) else some ((0:Int),(20:Int)))
theorem share_Cmp_c (n:Nat) (L:List Nat) (w:World) (hL:∀ b ∈ L,b < w.heap.size) (a0:TShare) (a1:TShare)  {r:Int × Int} (h:share_Cmp_p n a0 a1 = some r) :
    Calls Tryz.prog 41 #[.agg ((cs_TShare a0)).toArray,.agg ((cs_TShare a1)).toArray] w (Gives w fun _ u=>u = .tuple #[vI r.1,vI r.2]):=by
 unfold share_Cmp_p at h
 have hS0:=Ay w
 refine AD Tryz.func41 rfl rfl rfl (fun _ cs0 hb0=>?_)
 refine Ac<|Ai .plain rfl (Av hS0 rfl rfl) (fun x1 R0 v0 Z0=>?_)
 refine Ai .plain rfl (Av v0 rfl rfl) (fun y1 U0 j0 b1=>?_)
 refine Af rfl<|Af rfl<|Aa<|Ac<|Ab (AA rfl (j0.memA (.tl .hd)))<|Ab (AA rfl (j0.memA .hd))<|Bj (fst:=[]) (cap:=[]) (vs:=[.agg ((cs_TShare a0)).toArray,.agg ((cs_TShare a1)).toArray,.func (.func 87) #[] #[]]) .plain body86 Tryz.func86 rfl rfl rfl rfl (e3 rfl rfl rfl) rfl (fun Y0 s0 k1=>?_)
 refine Ac<|Ai .plain rfl (Av j0 rfl rfl) (fun z1 V0 x0 c1=>?_)
 refine Ai .plain rfl (Av x0 rfl rfl) (fun A1 W0 k0 d1=>?_)
 refine Af rfl<|Af rfl<|Aa<|Aj<|Ac<|Ab (AA rfl (k0.memA (.tl .hd)))<|Ab (AA rfl (k0.memA .hd))<|Ai .plain rfl (Ba (α:=TShare) (xs:=([a0,a1]:List TShare)) (vs:=[.agg ((cs_TShare a0)).toArray,.agg ((cs_TShare a1)).toArray]) (ds' :=(cs_TShare a0 ++ cs_TShare a1)) rfl k0 el40 rfl (e2 rfl rfl) (by kernel_rfl) rfl) (fun B1 X0 c0 g1=>?_)
 have A0:=AH (cs:=(cs_TShare a0 ++ cs_TShare a1)) (xs:=(([a0,a1]:List TShare):List TShare)) c0 L (Ax (cs:=(cs_TShare a0)) (ds:=(cs_TShare a1)) (mk_TShare a0.fN a0.fD) (Ax (cs:=(cs_TShare a1)) (ds:=[]) (mk_TShare a1.fN a1.fD) (AT _ _)))
 obtain ⟨M0,H0,h⟩:=bi h
 refine Bg (.bool M0) body116 rfl (e1 rfl) (fun w9 hw9=>share_valid_c n _ w9 (c0.hL0 hL hw9) ([a0,a1]:List TShare) (Ap (St.lend (α:=TShare) (L:=L) c0 .hd A0 hL) hw9) H0) rfl<|Ab (BG rfl)<|Aa<|MX.ifnb rfl h (fun u0 h=>?_) (fun u0 h=>?_)
 refine Au<|Aj<|dt 8 tb86_4 (fun b0 g0=>?_)
 refine Ag 0 1 b0 rfl g0 (fun _=>Ak rfl) rfl<|AC 1 3 244 b0 rfl g0 (AA rfl (c0.memA (.tl (.tl .hd)))) rfl<|AC 3 11 240 b0 rfl g0 (AA rfl (c0.memA (.tl .hd))) rfl ?_
 obtain ⟨P0,I0,h⟩:=bi h
 refine Bu 2 15 b0 rfl .plain body95 rfl (e1 rfl) (fun w9 hw9=>share_Read_c n _ w9 (c0.hL hL hw9) a0 I0) rfl (fun C1 u1 y0 ⟨p1,q1,hu_,D0,E0⟩=>?_)
 subst hu_
 obtain ⟨p0,j1⟩:=c0.agr y0
 obtain ⟨Q0,J0,h⟩:=bi h
 refine Bu 4 31 b0 rfl .plain body95 rfl (e1 rfl) (fun w9 hw9=>share_Read_c n _ w9 (p0.hL hL hw9) a1 J0) rfl (fun D1 v1 z0 ⟨s1,t1,hu_,F0,G0⟩=>?_)
 subst hu_
 obtain ⟨d0,q0⟩:=p0.agr z0
 obtain ⟨t0,K0,h⟩:=bi h
 have B0:=Aq D0 q0
 have C0:=Aq E0 q0
 refine BA 5 63 192 (vI t0) b0 rfl g0 body87 rfl (e2 rfl rfl) (fun w9 hw9=>share_Ratio_Cmp_c n _ w9 (d0.hL0 hL hw9) P0 (d0.kd B0 hw9) (d0.kd C0 hw9) Q0 (d0.kd F0 hw9) (d0.kd G0 hw9) K0) rfl<|Ag 6 127 b0 rfl g0 (fun _=>Bi rfl) rfl<|Ag 7 255 b0 rfl g0 (fun _=>Bi rfl) rfl<|AE (dk b0)<|Al rfl<|Am (u:=.tuple #[vI t0,vI 0]) s0 Tryz.func86 rfl (.cons (.tmp rfl) (.cons (.tmp rfl) .nil)) rfl<|Ab (Ah rfl rfl)<|Ab (Ah rfl rfl)<|Af rfl<|Af rfl<|Aa<|Al rfl<|Am hb0 Tryz.func41 rfl (.cons (.tmp rfl) (.cons (.tmp rfl) .nil)) rfl ?_
 cases h
 exact d0.gv
 refine Ac<|Af rfl<|Aa<|Ac<|Ae rfl<|Af rfl<|Af rfl<|Aa<|Al rfl<|Am (u:=.tuple #[vI 0,vI 20]) s0 Tryz.func86 rfl (.cons (.tmp rfl) (.cons (.tmp rfl) .nil)) rfl<|Ab (Ah rfl rfl)<|Ab (Ah rfl rfl)<|Af rfl<|Af rfl<|Aa<|Al rfl<|Am hb0 Tryz.func41 rfl (.cons (.tmp rfl) (.cons (.tmp rfl) .nil)) rfl ?_
 cases h
 exact c0.gv
def minority_must_int_p (_n:Nat) (a0:Int) (a1:Int):Option (Except Tbroken Int):=
  (if a1 = 0 then some (.ok a0) else some (.error (⟨a1⟩:Tbroken)))
theorem minority_must_int_c (n:Nat) (L:List Nat) (w:World) (_hL:∀ b ∈ L,b < w.heap.size) (a0:Int) (a1:Int)  {r:Except Tbroken Int} (h:minority_must_int_p n a0 a1 = some r) :
    Calls Tryz.prog 52 #[vI a0,vI a1] w (PGives w (fun (y:Int) _ u=>u = vI y) (fun e=>.iface 128 (.agg #[vI e.fB])) r):=by
 unfold minority_must_int_p at h
 have hS0:=Ay w
 refine BE Tryz.func52 rfl rfl rfl (fun _ cs0 hb0 hp0=>?_)
 refine Ac<|Af rfl<|Aa<|Aj<|Ac<|Ae rfl<|Ab (FV.neq (i:=a1) (j:=0) rfl rfl)<|Aa<|MX.ifn rfl h (fun c1 h=>?_) (fun c1 h=>?_)
 refine Au<|Ac<|Ae rfl<|Af rfl<|Aa<|Al rfl<|Bb hb0 Tryz.func52 rfl rfl ?_
 cases h
 exact ⟨hS0.ag,fun w9 hw9=>okOf_in rfl⟩
 refine Ao<|Ae rfl<|Ab (AM (vs:=[vI a1]) (u:=.agg #[vI a1]) (e1 rfl) (fun w9=>by kernel_rfl))<|Ab (Bv (by kernel_rfl) rfl)<|RG.panic .plain rfl ?_
 cases h
 exact AP hp0 Tryz.func52 ⟨hS0.ag,rfl⟩
def tb51_1:List (Nat × Nat × Nat):=[(0,16,4),(1,32,16),(0,64,2),(6,128,96),(8,256,128),(8,512,128),(56,1024,768),(64,2048,1024),(255,8,2048)]
theorem body41:bodyB Tryz.prog 41 = true:=by kernel_rfl
theorem body52:bodyB Tryz.prog 52 = true:=by kernel_rfl
def minority_Majority_1_1_p (n:Nat) (a0:Tpart) (a1:TShare):Option (Except Tbroken Bool):=
  (minority_part_share_p n a0).bind fun g0=>exc g0 (fun j0=>(share_Cmp_p n j0 a1).bind fun b0=>(minority_must_int_p n b0.1 b0.2).bind fun k0=>exc k0 (fun p0=>some (.ok (decide (0 < p0)))) (fun d0=>some (.error d0))) (fun c0=>some (.error c0))
theorem minority_Majority_1_1_c (n:Nat) (L:List Nat) (w:World) (hL:∀ b ∈ L,b < w.heap.size) (a0:Tpart) (a1:TShare) {p1:Nat} (m1:∀ j9 v9,((cs_TShare a1):List Value)[j9]? = some v9 → w.cell? ((⟨p1,0,none⟩:Addr).add j9) = some v9)  {r:Except Tbroken Bool} (h:minority_Majority_1_1_p n a0 a1 = some r) :
    Calls Tryz.prog 51 #[.agg #[vI a0.fF,vI a0.fall],.pointer (some ⟨p1,0,none⟩)] w (PGives w (fun (y:Bool) _ u=>u = .bool y) (fun e=>.iface 128 (.agg #[vI e.fB])) r):=by
 unfold minority_Majority_1_1_p at h
 have hS0:=Ay w
 refine BE Tryz.func51 rfl rfl rfl (fun _ cs0 hb0 hp0=>?_)
 refine Ac<|Ai .plain rfl (Av hS0 rfl rfl) (fun G0 A0 c0 D0=>?_)
 refine Af rfl<|Aa<|Aj<|dt 9 tb51_1 (fun b0 d0=>?_)
 refine AC 0 1 506 b0 rfl d0 (AA rfl (c0.memA .hd)) rfl ?_
 obtain ⟨y0,j0,h⟩:=bi h
 rcases y0 with B0 | p0
 have h:=exc_e h
 try dsimp only at h
 refine AC 2 5 504 b0 rfl d0 (AA rfl (fun j9 v9 h9=>c0.ag.cell0 (m1 j9 v9 h9))) rfl<|BC (i:=1) (rk b0) (RO.callE (fst:=[]) (cap:=[]) rfl .plain body35 rfl (e1 rfl) (fun w9 hw9=>minority_part_share_c n _ w9 (c0.hL0 hL hw9) a0 j0) (fun H0 u0=>?_))
 obtain ⟨s0,E0⟩:=c0.agr u0
 cases h
 exact AP hp0 Tryz.func51 ⟨s0.ag,rfl⟩
 have h:=exc_o h
 try dsimp only at h
 refine BA 1 3 504 (.agg ((cs_TShare p0)).toArray) b0 rfl d0 body35 rfl (e1 rfl) (fun w9 hw9=>AK (minority_part_share_c n _ w9 (c0.hL0 hL hw9) a0 j0)) rfl<|AC 2 7 504 b0 rfl d0 (AA rfl (fun j9 v9 h9=>c0.ag.cell0 (m1 j9 v9 h9))) rfl ?_
 obtain ⟨g0,x0,h⟩:=bi h
 refine BA 3 15 496 (.tuple #[vI g0.1,vI g0.2]) b0 rfl d0 body41 rfl (e2 rfl rfl) (fun w9 hw9=>share_Cmp_c n _ w9 (c0.hL0 hL hw9) p0 a1 x0) rfl<|Ag 4 31 b0 rfl d0 (fun _=>Ah rfl rfl) rfl<|Ag 5 63 b0 rfl d0 (fun _=>Ah rfl rfl) rfl ?_
 obtain ⟨z0,k0,h⟩:=bi h
 rcases z0 with C0 | q0
 have h:=exc_e h
 try dsimp only at h
 refine BC (i:=6) (rk b0) (RO.callE (fst:=[]) (cap:=[]) rfl .plain body52 rfl (e2 rfl rfl) (fun w9 hw9=>minority_must_int_c n _ w9 (c0.hL0 hL hw9) g0.1 g0.2 k0) (fun I0 v0=>?_))
 obtain ⟨t0,F0⟩:=c0.agr v0
 cases h
 exact AP hp0 Tryz.func51 ⟨t0.ag,rfl⟩
 have h:=exc_o h
 try dsimp only at h
 refine BA 6 127 384 (vI q0) b0 rfl d0 body52 rfl (e2 rfl rfl) (fun w9 hw9=>AK (minority_must_int_c n _ w9 (c0.hL0 hL hw9) g0.1 g0.2 k0)) rfl<|Ag 7 255 b0 rfl d0 (fun _=>FV.gtr (i:=q0) (j:=0) rfl rfl) rfl<|Ag 8 511 b0 rfl d0 (fun _=>Bi rfl) rfl<|AE (dk b0)<|Al rfl<|Bb hb0 Tryz.func51 rfl rfl ?_
 cases h
 exact ⟨c0.ag,fun w9 hw9=>okOf_in rfl⟩
theorem body50:bodyB Tryz.prog 50 = true:=by kernel_rfl
theorem body51:bodyB Tryz.prog 51 = true:=by kernel_rfl
def minority_Majority_1_l1 (n:Nat) (g0:List Tpart) (a4:TShare) (d0:Nat × (List Int) → Option ((Except Tbroken (List Int)) ⊕ (List Int))):Nat × (List Int) → Option ((Except Tbroken (List Int)) ⊕ (List Int))
  | (b0,c0)=>(if b0 < g0.length then (g0[b0]?).bind fun k0=>(minority_Majority_1_1_p n k0 a4).bind fun q0=>exc q0 (fun s0=>(if s0 = true then (app c0 ([((b0:Nat):Int)]:List Int)).bind fun p0=>d0 (b0 + 1,p0) else d0 (b0 + 1,c0))) (fun j0=>some (.inl (.error j0))) else some (.inr c0))
def minority_Majority_1_p (n:Nat) (a0:TRoll) (a1:List Int) (a2:Int) (a3:Int) (a4:TShare):Option (Except Tbroken (List Int)):=
  (minority_grouped_p n a0 a1 a2 a3).bind fun y1=>exc y1 (fun g0=>(share_Check_p n a4).bind fun b0=>(if b0 = 0 then thn (loopF (minority_Majority_1_l1 n g0 a4) n (0,([]:List Int))) (fun d0=>some (.ok d0)) else some (.error (⟨b0⟩:Tbroken)))) (fun c0=>some (.error c0))
theorem minority_Majority_1_c (n:Nat) (L:List Nat) (w:World) (hL:∀ b ∈ L,b < w.heap.size) (a0:TRoll) {v0_3:Value} (h0_3:Rep.R w L [v0_3] a0.fu) {p0:Nat} (m0:∀ j9 v9,([vI a0.fj,vI a0.fh,vI a0.fl,v0_3]:List Value)[j9]? = some v9 → w.cell? ((⟨p0,0,none⟩:Addr).add j9) = some v9) (a1:List Int) {v1_0:Value} (h1_0:Rep.R w L [v1_0] a1) {p1:Nat} (m1:∀ j9 v9,([v1_0]:List Value)[j9]? = some v9 → w.cell? ((⟨p1,0,none⟩:Addr).add j9) = some v9) (a2:Int) {p2:Nat} (m2:∀ j9 v9,([vI a2]:List Value)[j9]? = some v9 → w.cell? ((⟨p2,0,none⟩:Addr).add j9) = some v9) (a3:Int) {p3:Nat} (m3:∀ j9 v9,([vI a3]:List Value)[j9]? = some v9 → w.cell? ((⟨p3,0,none⟩:Addr).add j9) = some v9) (a4:TShare) {p4:Nat} (m4:∀ j9 v9,((cs_TShare a4):List Value)[j9]? = some v9 → w.cell? ((⟨p4,0,none⟩:Addr).add j9) = some v9)  {r:Except Tbroken (List Int)} (h:minority_Majority_1_p n a0 a1 a2 a3 a4 = some r) :
    Calls Tryz.prog 47 #[.pointer (some ⟨p0,0,none⟩),.pointer (some ⟨p1,0,none⟩),.pointer (some ⟨p2,0,none⟩),.pointer (some ⟨p3,0,none⟩),.pointer (some ⟨p4,0,none⟩)] w (PGives w (fun (y:List Int) w' u=>∃ v0_0:Value,u = v0_0∧Rep.R w' L [v0_0] y) (fun e=>.iface 128 (.agg #[vI e.fB])) r):=by
 unfold minority_Majority_1_p at h
 have hS0:=Ay w
 refine BE Tryz.func47 rfl rfl rfl (fun _ cs0 hb0 hp0=>?_)
 refine Ac<|Af rfl<|Aa<|Ac<|Ab (AA rfl (fun j9 v9 h9=>hS0.ag.cell0 (m0 j9 v9 h9)))<|AY rfl ((fun j9 v9 h9=>hS0.ag.cell0 (m1 j9 v9 h9)) 0 _ rfl)<|AY rfl ((fun j9 v9 h9=>hS0.ag.cell0 (m2 j9 v9 h9)) 0 _ rfl)<|AY rfl ((fun j9 v9 h9=>hS0.ag.cell0 (m3 j9 v9 h9)) 0 _ rfl) ?_
 obtain ⟨y1,hy1,h⟩:=bi h
 rcases y1 with v2 | v0
 have h:=exc_e h
 try dsimp only at h
 refine Bt (fst:=[]) (cap:=[]) .plain body34 rfl (e4 rfl rfl rfl rfl) (fun w9 hw9=>minority_grouped_c n _ w9 (hS0.hL hL hw9) a0 (Ap h0_3 hw9) a1 (Ap h1_0 hw9) a2 a3 hy1) (fun F2 k1=>?_)
 obtain ⟨V0,y2⟩:=hS0.agr k1
 cases h
 exact AP hp0 Tryz.func47 ⟨V0.ag,rfl⟩
 have h:=exc_o h
 try dsimp only at h
 refine Bf (fst:=[]) (cap:=[]) .plain body34 rfl (e4 rfl rfl rfl rfl) (fun w9 hw9=>AK (minority_grouped_c n _ w9 (hS0.hL hL hw9) a0 (Ap h0_3 hw9) a1 (Ap h1_0 hw9) a2 a3 hy1)) rfl (fun Y1 M0 s1 ⟨E2,hu_,B0⟩=>?_)
 subst hu_
 obtain ⟨k0,B2⟩:=hS0.agr s1
 refine Af rfl<|Aa<|Ac<|Ab (AA rfl (fun j9 v9 h9=>k0.ag.cell0 (m4 j9 v9 h9))) ?_
 obtain ⟨q0,W1,h⟩:=bi h
 refine Bg (vI q0) body49 rfl (e1 rfl) (fun w9 hw9=>share_Check_c n _ w9 (k0.hL0 hL hw9) a4 W1) rfl<|Bj (fst:=[]) (cap:=[]) (vs:=[vI q0]) .plain body48 Tryz.func48 rfl rfl rfl rfl (e1 rfl) rfl (fun t2 u1 J1=>?_)
 refine Ac<|Ae rfl<|Ab (FV.neq (i:=q0) (j:=0) rfl rfl)<|Aa<|MX.ifn rfl h (fun R0 h=>?_) (fun R0 h=>?_)
 refine Au<|MX.fin rfl<|Am (u:=.tuple #[]) u1 Tryz.func48 rfl .nil rfl<|Aa<|Ac<|Ae rfl<|Ab (BF (vs:=[]) (us:=[.pointer (some ⟨p4,0,none⟩)]) evs_nil (e1 rfl))<|Bj (fst:=[]) (cap:=[]) (vs:=[M0,.func (.func 51) #[] #[.pointer (some ⟨p4,0,none⟩)]]) .plain body50 Tryz.func50 rfl rfl rfl rfl (e2 rfl rfl) rfl (fun u2 v1 K1=>?_)
 refine Ac<|Af rfl<|Aa<|Aj<|Ac<|Ae rfl ?_
 have C2:v0.length ≤ 281474976710656:=AU B0
 refine Ab (Bd (xs:=v0) Tryz.underlying85 rfl B0)<|Ae rfl<|Aa<|Az ?_
 have D0:=k0.nilRow 3 (Rep.size Int)
 have j1:=St.nilRowT k0 3 (Rep.size Int)
 have A1:=AH (cs:=[]) (xs:=([]:List Int)) D0 L (AT _ _)
 obtain ⟨D2,I1,H0⟩:=thn_in h
 refine Bm (α:=Nat × (List Int) × Value × (List Value)) (fun ⟨b0,d0,c0,g0⟩=>[(1,.func (.func 51) #[] #[.pointer (some ⟨p4,0,none⟩)]),(4,c0),(7,M0),(8,vI ((v0.length:Nat):Int)),(9,vI ((b0:Nat):Int))]) (fun ⟨b0,d0,c0,g0⟩ t0=>St w t0 [.row w.heap.size 3 (Rep.size Int) c0 d0.length g0]∧Tr Y1 [.row w.heap.size 3 (Rep.size Int) vN (([]:List Int).length) []] t0 [.row w.heap.size 3 (Rep.size Int) c0 d0.length g0]∧Cells t0 (bl [.row w.heap.size 3 (Rep.size Int) c0 d0.length g0] ++ L) g0 d0) (fun ⟨b0,d0,c0,g0⟩=>(b0,d0)) (0,([]:List Int),vN,[]) I1 ⟨rfl,rfl,rfl,rfl,rfl,trivial⟩ ⟨D0,AQ _ _,A1⟩ ?_
 rintro g2 ⟨b0,d0,c0,g0⟩ t0 C0 ⟨s0,z0,A0⟩ h
 unfold minority_Majority_1_l1 at h
 try dsimp only at h
 refine Ac<|Ab (Br (i:=b0) (j:=v0.length) rfl rfl)<|Aa<|Aj<|AV rfl h (fun P0 h=>?_) (fun P0 h=>?_)
 refine Au<|Aj<|Az<|Ac<|Ae rfl ?_
 obtain ⟨u0,U1,h⟩:=bi h
 have E1:=Aq B0 (Tt j1 z0)
 obtain ⟨d2,q2,B1,C1,s2,P1,D1⟩:=Bk E1 U1
 obtain rfl:=op_Tpart P1
 refine Ab (Bp 2 b0 rfl B1 rfl rfl C1)<|Ab (AA rfl D1)<|Ai .plain rfl (Ar [vI 0,vI 0] s0) (fun G2 j2 W0 E0=>?_)
 refine Af rfl<|AJ [vI u0.fF,vI u0.fall] W0 .hd (onesB rfl) (fun H2 j0 F0=>?_)
 refine Aa<|Ac<|Ae rfl<|Ab (AA rfl (j0.memA .hd)) ?_
 obtain ⟨b2,K0,h⟩:=bi h
 rcases b2 with x2 | c2
 have h:=exc_e h
 try dsimp only at h
 have h:=thn_inl h H0
 refine Bt (fst:=[]) (cap:=[.pointer (some ⟨p4,0,none⟩)]) .plain body51 rfl (e1 rfl) (fun w9 hw9=>minority_Majority_1_1_c n _ w9 (j0.hL0 hL hw9) u0 a4 (fun j9 v9 h9=>hw9.cell0 ((fun j9 v9 h9=>j0.ag.cell0 (m4 j9 v9 h9)) j9 v9 h9)) K0) (fun I2 q1=>?_)
 obtain ⟨X0,z2⟩:=j0.agr q1
 refine AP K1 Tryz.func50 ?_
 cases h
 exact AP hp0 Tryz.func47 ⟨X0.ag,rfl⟩
 have h:=exc_o h
 try dsimp only at h
 refine RG.callq' (v:=.bool c2) (fst:=[]) (cap:=[.pointer (some ⟨p4,0,none⟩)]) .plain body51 rfl (e1 rfl) (fun w9 hw9=>AK (minority_Majority_1_1_c n _ w9 (j0.hL0 hL hw9) u0 a4 (fun j9 v9 h9=>hw9.cell0 ((fun j9 v9 h9=>j0.ag.cell0 (m4 j9 v9 h9)) j9 v9 h9)) K0)) rfl<|Aa<|MX.ifb rfl h (fun Q0 h=>?_) (fun Q0 h=>?_)
 refine Ao<|Ae rfl<|Ae rfl<|Ai .plain rfl (Ba (α:=Int) (xs:=([((b0:Nat):Int)]:List Int)) (vs:=[vI ((b0:Nat):Int)]) (ds' :=[vI ((b0:Nat):Int)]) rfl j0 el32 rfl (e1 rfl) (by kernel_rfl) rfl) (fun J2 k2 x0 c1=>?_)
 have x1:=AH (cs:=[vI ((b0:Nat):Int)]) (xs:=(([((b0:Nat):Int)]:List Int):List Int)) x0 L (Ax (cs:=[vI ((b0:Nat):Int)]) (ds:=[]) rfl (AT _ _))
 obtain ⟨Z1,V1,h⟩:=bi h
 have I0:=Tt E0 (Tt F0 c1)
 have F1:=AR A0 I0
 refine RG.doesL .plain rfl (DoesL.app (α:=Int) (ys:=([((b0:Nat):Int)]:List Int)) V1 x0 (fun _ _=>(.tl (.tl .hd))) el32 rfl rfl F1 (Src.row (α:=Int) x0 .hd x1)) (fun X1 K2 ⟨U0,Y0,d1,z1⟩=>?_)
 refine Af rfl<|Aa<|AB<|Ao<|Ab (Bl (i:=b0) (j:=1) rfl rfl (by omega))<|Ae rfl<|Aa ?_
 obtain ⟨Z0,G0⟩:=AG Y0 (.one (.tl (.tl .hd)) .done)
 have G1:=AR z1 G0
 have M1:=Tt I0 (Tt d1 G0)
 exact C0 (b0 + 1,Z1,X1,U0) _ _ ⟨rfl,rfl,rfl,rfl,rfl,trivial⟩ ⟨Z0,(Tt z0 M1),G1⟩ h
 refine Au<|AB<|Ao<|Ab (Bl (i:=b0) (j:=1) rfl rfl (by omega))<|Ae rfl<|Aa ?_
 obtain ⟨b1,g1⟩:=AG j0 (.one (.tl .hd) .done)
 have J0:=Tt E0 (Tt F0 g1)
 have H1:=AR A0 J0
 exact C0 (b0 + 1,d0,c0,g0) _ _ ⟨rfl,rfl,rfl,rfl,rfl,trivial⟩ ⟨b1,(Tt z0 J0),H1⟩ h
 refine Be rfl ?_
 have h:=thn_inr h H0
 try dsimp only at h
 refine Ac<|Ae rfl<|Af rfl<|Aa<|Al rfl<|Am (u:=c0) v1 Tryz.func50 rfl (.cons (.tmp rfl) .nil) rfl<|Af rfl<|Aa<|Al rfl ?_
 have Q1:=Bn (α:=Int) s0 .hd A0 hL
 have y0:=Bw s0 .hd
 have A2:=Bx s0 .hd
 have R1:=By (α:=Int) (v:=c0) (xs:=d0) y0 L Q1
 refine Bb hb0 Tryz.func47 rfl rfl ?_
 cases h
 exact ⟨y0.ag,fun w9 hw9=>okOf_in ⟨c0,rfl,y0.kd R1 hw9⟩⟩
 refine Ao<|Ae rfl<|Ab (AM (vs:=[vI q0]) (u:=.agg #[vI q0]) (e1 rfl) (fun w9=>by kernel_rfl))<|Ab (Bv (by kernel_rfl) rfl)<|RG.panic .plain rfl<|AP J1 Tryz.func48 ?_
 cases h
 exact AP hp0 Tryz.func47 ⟨k0.ag,rfl⟩
def tb93_6:List (Nat × Nat × Nat):=[(0,131072,32),(0,262144,8),(2,524288,262144),(1,0,131073),(15,0,524290)]
theorem body46:bodyB Tryz.prog 46 = true:=by kernel_rfl
theorem body47:bodyB Tryz.prog 47 = true:=by kernel_rfl
theorem body93:bodyB Tryz.prog 93 = true:=by kernel_rfl
def minority_Majority_p (n:Nat) (a0:TRoll) (a1:List Int) (a2:Int) (a3:Int) (a4:TShare):Option ((List Int) × Int):=
  (minority_Majority_1_p n a0 a1 a2 a3 a4).bind fun c0=>exc c0 (fun d0=>some (d0,(0:Int))) (fun b0=>some (([]:List Int),b0.fB))
theorem minority_Majority_c (n:Nat) (L:List Nat) (w:World) (hL:∀ b ∈ L,b < w.heap.size) (a0:TRoll) {v0_3:Value} (h0_3:Rep.R w L [v0_3] a0.fu) (a1:List Int) {v1_0:Value} (h1_0:Rep.R w L [v1_0] a1) (a2:Int) (a3:Int) (a4:TShare)  {r:(List Int) × Int} (h:minority_Majority_p n a0 a1 a2 a3 a4 = some r) :
    Calls Tryz.prog 15 #[.agg #[vI a0.fj,vI a0.fh,vI a0.fl,v0_3],v1_0,vI a2,vI a3,.agg ((cs_TShare a4)).toArray] w (Gives w fun w' u=>∃ v0_0:Value,u = .tuple #[v0_0,vI r.2]∧Rep.R w' L [v0_0] r.1):=by
 unfold minority_Majority_p at h
 have hS0:=Ay w
 refine AD Tryz.func15 rfl rfl rfl (fun _ cs0 hb0=>?_)
 refine Ac<|Ai .plain rfl (Av hS0 rfl rfl) (fun Z1 g0 F0 I1=>?_)
 have x1:=AO h1_0 F0
 refine Ai .plain rfl (Av F0 rfl (Rep.c1 x1)) (fun j2 j0 U0 J1=>?_)
 refine Ai .plain rfl (Av U0 rfl rfl) (fun k2 k0 V0 K1=>?_)
 refine Ai .plain rfl (Av V0 rfl rfl) (fun p2 p0 W0 M1=>?_)
 refine Ai .plain rfl (Av W0 rfl rfl) (fun q2 q0 X0 P1=>?_)
 refine Af rfl<|Af rfl<|Aa<|Ac<|Ab (BF (vs:=[]) (us:=[vP g0,vP j0,vP k0,vP p0,vP q0]) evs_nil (e5 rfl rfl rfl rfl rfl))<|Bj (fst:=[]) (cap:=[]) (vs:=[.func (.func 47) #[] #[vP g0,vP j0,vP k0,vP p0,vP q0]]) .plain body46 Tryz.func46 rfl rfl rfl rfl (e1 rfl) rfl (fun E1 G0 X1=>?_)
 refine Ac<|Ai .plain rfl (Ar [vN] X0) (fun s2 s0 Y0 Q1=>?_)
 refine Ai .plain rfl (Ar [vI 0] Y0) (fun t2 d0 b0 R1=>?_)
 refine Aa<|Ac<|Ab (BF (vs:=[]) (us:=[vP s0,vP d0]) evs_nil (e2 rfl rfl))<|RG.defer (fst:=[]) (cap:=[vP s0,vP d0]) (vs:=[]) rfl .plain rfl evs_nil<|Aa<|Ac<|Ae rfl ?_
 obtain ⟨B1,I0,h⟩:=bi h
 rcases B1 with t0 | x2
 have h:=exc_e h
 try dsimp only at h
 refine Bt (fst:=[]) (cap:=[vP g0,vP j0,vP k0,vP p0,vP q0]) .plain body47 rfl evs_nil (fun w9 hw9=>minority_Majority_1_c n _ w9 (b0.hL hL hw9) a0 (b0.km h0_3 hw9) (fun j9 v9 h9=>hw9.cell0 ((b0.memA (.tl (.tl (.tl (.tl (.tl (.tl .hd))))))) j9 v9 h9)) a1 (b0.km h1_0 hw9) (fun j9 v9 h9=>hw9.cell0 ((b0.memA (.tl (.tl (.tl (.tl (.tl .hd)))))) j9 v9 h9)) a2 (fun j9 v9 h9=>hw9.cell0 ((b0.memA (.tl (.tl (.tl (.tl .hd))))) j9 v9 h9)) a3 (fun j9 v9 h9=>hw9.cell0 ((b0.memA (.tl (.tl (.tl .hd)))) j9 v9 h9)) a4 (fun j9 v9 h9=>hw9.cell0 ((b0.memA (.tl (.tl .hd))) j9 v9 h9)) I0) (fun u2 q1=>?_)
 obtain ⟨Z0,U1⟩:=b0.agr q1
 refine PN.callD (vs:=[]) (cap:=[vP s0,vP d0]) body93 Tryz.func93 rfl rfl rfl (fun D1 s1 u1=>?_)
 refine Ac<|RG.recover1 .plain s1 rfl<|Af rfl<|Aa<|Ac<|Ae rfl<|Ab (FV.neqI Tryz.underlying20 rfl rfl)<|Aa<|Bh rfl<|Ac<|Ae rfl<|Ab (FV.assertT (by kernel_rfl) rfl)<|Ae rfl<|Ab (Ah rfl rfl)<|Ab (Ah rfl rfl)<|Ai .plain rfl (Ar [vI 0] Z0) (fun v2 J0 b1 V1=>?_)
 refine AJ [vI t0.fB] b1 .hd (o1 rfl) (fun z1 y0 W1=>?_)
 refine Af rfl<|Aa<|Aj<|Ac<|Ae rfl<|Ab (BG rfl)<|Aa<|BB rfl<|Au<|Ac<|Af rfl<|Aa<|dt 3 tb93_6 (fun c0 B0=>?_)
 refine Ag 0 1 c0 rfl B0 (fun _=>Ak rfl) rfl<|Ag 1 3 c0 rfl B0 (fun _=>AX 0 rfl) rfl<|RD.meet (α:=Unit) (fun ()=>[(1,vP d0),(19,vI t0.fB)]) (fun () D0=>St w D0 [.cells d0 [vI 0] 41,.cells s0 [vN] 32,.cells q0 (cs_TShare a4) 53,.cells p0 [vI a3] 3,.cells k0 [vI a2] 3,.cells j0 [v1_0] 33,.cells g0 [vI a0.fj,vI a0.fh,vI a0.fl,v0_3] 38]∧Tr z1 [.cells J0 [vI t0.fB] 128,.cells d0 [vI 0] 41,.cells s0 [vN] 32,.cells q0 (cs_TShare a4) 53,.cells p0 [vI a3] 3,.cells k0 [vI a2] 3,.cells j0 [v1_0] 33,.cells g0 [vI a0.fj,vI a0.fh,vI a0.fl,v0_3] 38] D0 [.cells d0 [vI 0] 41,.cells s0 [vN] 32,.cells q0 (cs_TShare a4) 53,.cells p0 [vI a3] 3,.cells k0 [vI a2] 3,.cells j0 [v1_0] 33,.cells g0 [vI a0.fj,vI a0.fh,vI a0.fl,v0_3] 38]) 1 15 ?_ ?_
 rintro ⟨⟩ D0 ⟨K0,F1⟩
 try dsimp only
 refine Bq 4 31 c0 rfl rfl .plain (Aw (news:=[vI t0.fB]) K0 .hd rfl rfl rfl rfl rfl rfl (o1 rfl)) (fun b2 u0 G1=>?_)
 refine AE (dk c0)<|MX.fin rfl<|RT.leaveD1 u1 Tryz.func93 rfl .nil<|Am (u:=.tuple #[vN,vI t0.fB]) G0 Tryz.func46 rfl (.cons (.one (by kernel_rfl) rfl ((u0.memA (.tl .hd)) 0 _ rfl)) (.cons (.one (by kernel_rfl) rfl ((u0.memA .hd) 0 _ rfl)) .nil)) rfl<|Ab (Ah rfl rfl)<|Ab (Ah rfl rfl)<|Af rfl<|Af rfl<|Aa<|Al rfl ?_
 have y1:=Rep.nilAt (α:=Int) u0 L
 refine Am hb0 Tryz.func15 rfl (.cons (.tmp rfl) (.cons (.tmp rfl) .nil)) rfl ?_
 cases h
 exact ⟨u0.ag,fun w9 hw9=>⟨vN,rfl,u0.kd y1 hw9⟩⟩
 intro E0
 refine BJ [2,3] (rk c0) ⟨?_,?_,trivial⟩
 refine BK (m' :=7) (sk c0) rfl .plain rfl (AL rfl ((y0.memA .hd) 0 _ rfl))<|Bq 3 15 c0 rfl rfl .plain (Aw (news:=[vN]) y0 (.tl (.tl .hd)) rfl rfl rfl rfl rfl rfl (o1 rfl)) (fun A1 x0 z0=>?_)
 obtain ⟨M0,d1⟩:=AG x0 (.one (.tl .hd) (.one (.tl .hd) (.one (.tl .hd) (.one (.tl .hd) (.one (.tl .hd) (.one (.tl .hd) (.one (.tl .hd) .done)))))))
 exact E0 () _ _ ⟨rfl,rfl,trivial⟩ ⟨M0,(Tt z0 d1)⟩
 refine RO.now (m' :=11) (sk c0) rfl rfl .plain (Aw (news:=[vN]) y0 (.tl (.tl .hd)) rfl rfl rfl rfl rfl rfl (o1 rfl)) (fun A1 x0 z0=>?_)
 refine AC 2 15 16 c0 rfl B0 (AL rfl ((x0.memA .hd) 0 _ rfl)) rfl ?_
 obtain ⟨P0,g1⟩:=AG x0 (.one (.tl .hd) (.one (.tl .hd) (.one (.tl .hd) (.one (.tl .hd) (.one (.tl .hd) (.one (.tl .hd) (.one (.tl .hd) .done)))))))
 exact E0 () _ _ ⟨rfl,rfl,trivial⟩ ⟨P0,(Tt z0 g1)⟩
 have h:=exc_o h
 try dsimp only at h
 refine Bf (fst:=[]) (cap:=[vP g0,vP j0,vP k0,vP p0,vP q0]) .plain body47 rfl evs_nil (fun w9 hw9=>AK (minority_Majority_1_c n _ w9 (b0.hL hL hw9) a0 (b0.km h0_3 hw9) (fun j9 v9 h9=>hw9.cell0 ((b0.memA (.tl (.tl (.tl (.tl (.tl (.tl .hd))))))) j9 v9 h9)) a1 (b0.km h1_0 hw9) (fun j9 v9 h9=>hw9.cell0 ((b0.memA (.tl (.tl (.tl (.tl (.tl .hd)))))) j9 v9 h9)) a2 (fun j9 v9 h9=>hw9.cell0 ((b0.memA (.tl (.tl (.tl (.tl .hd))))) j9 v9 h9)) a3 (fun j9 v9 h9=>hw9.cell0 ((b0.memA (.tl (.tl (.tl .hd)))) j9 v9 h9)) a4 (fun j9 v9 h9=>hw9.cell0 ((b0.memA (.tl (.tl .hd))) j9 v9 h9)) I0)) rfl (fun c2 C0 p1 ⟨Y1,hu_,A0⟩=>?_)
 subst hu_
 obtain ⟨Q0,H1⟩:=b0.agr p1
 refine BH .plain (Aw (news:=[C0]) Q0 (.tl .hd) rfl rfl rfl (Rep.c1 A0) rfl rfl (o1 (AN A0))) (fun d2 R0 j1=>?_)
 refine AJ [vI 0] R0 .hd (o1 rfl) (fun g2 v0 k1=>?_)
 refine Aa<|Al rfl<|RT.callD (vs:=[]) (cap:=[vP s0,vP d0]) body93 Tryz.func93 rfl rfl rfl (fun C1 H0 t1=>?_)
 refine Ac<|RG.recover0 .plain H0 rfl<|Af rfl<|Aa<|Ac<|Ae rfl<|Ab (FV.neqI0 Tryz.underlying20 rfl rfl)<|Aa<|BB rfl<|Au<|MX.fin rfl<|RT.leaveD0 H0 t1 Tryz.func93 rfl .nil<|Am (u:=.tuple #[C0,vI 0]) G0 Tryz.func46 rfl (.cons (.one (by kernel_rfl) rfl ((v0.memA (.tl .hd)) 0 _ rfl)) (.cons (.one (by kernel_rfl) rfl ((v0.memA .hd) 0 _ rfl)) .nil)) rfl<|Ab (Ah rfl rfl)<|Ab (Ah rfl rfl)<|Af rfl<|Af rfl<|Aa<|Al rfl<|Am hb0 Tryz.func15 rfl (.cons (.tmp rfl) (.cons (.tmp rfl) .nil)) rfl ?_
 cases h
 have v1:=Aq A0 (Tt j1 k1)
 exact ⟨v0.ag,fun w9 hw9=>⟨C0,rfl,v0.kd v1 hw9⟩⟩
def tb56_6:List (Nat × Nat × Nat):=[(0,65536,1),(0,131072,32),(3,262144,196608),(4,524288,262144),(0,1048576,2),(0,2097152,32),(48,4194304,3145728),(64,8388608,4194304),(136,16777216,8912896)]
def slices_Equal_int_int_l1 (_n:Nat) (a0:List Int) (a1:List Int) (b0:Nat → Option (Bool ⊕ Unit)):Nat → Option (Bool ⊕ Unit)
  | i32=>(if i32 < a0.length then (a0[i32]?).bind fun c0=>(a1[i32]?).bind fun d0=>(if c0 = d0 then b0 (i32 + 1) else some (.inl false)) else some (.inr ()))
def slices_Equal_int_int_p (n:Nat) (a0:List Int) (a1:List Int):Option Bool:=
  (if a0.length = a1.length then thn (loopF (slices_Equal_int_int_l1 n a0 a1) n 0) (fun _=>some true) else some false)
theorem slices_Equal_int_int_c (n:Nat) (L:List Nat) (w:World) (_hL:∀ b ∈ L,b < w.heap.size) (a0:List Int) {v0_0:Value} (h0_0:Rep.R w L [v0_0] a0) (a1:List Int) {v1_0:Value} (h1_0:Rep.R w L [v1_0] a1)  {r:Bool} (h:slices_Equal_int_int_p n a0 a1 = some r) :
    Calls Tryz.prog 56 #[v0_0,v1_0] w (Gives w fun _ u=>u = .bool r):=by
 unfold slices_Equal_int_int_p at h
 have hS0:=Ay w
 refine AD Tryz.func56 rfl rfl rfl (fun _ cs0 hb0=>?_)
 refine Ac<|Af rfl<|Aa<|Aj<|Ac<|Ae rfl ?_
 have hl1:a0.length ≤ 281474976710656:=AU h0_0
 refine Ab (Bd (xs:=a0) Tryz.underlying32 rfl h0_0)<|Ae rfl ?_
 have hl2:a1.length ≤ 281474976710656:=AU h1_0
 refine Ab (Bd (xs:=a1) Tryz.underlying32 rfl h1_0)<|Ab (FV.neqN (i:=a0.length) (j:=a1.length) rfl rfl)<|Aa<|MX.ifn rfl h (fun c3 h=>?_) (fun c3 h=>?_)
 refine Au<|Aj<|Ac<|Ae rfl<|Ab (Bd (xs:=a0) Tryz.underlying32 rfl h0_0)<|Ae rfl<|Aa<|Az ?_
 obtain ⟨X0,I0,j0⟩:=thn_in h
 refine Bm (α:=Nat) (fun i32=>[(0,v0_0),(1,v1_0),(12,vI ((a0.length:Nat):Int)),(13,vI ((i32:Nat):Int))]) (fun i32 g0=>St w g0 []∧Tr w [] g0 []) (fun i32=>i32) 0 I0 ⟨rfl,rfl,rfl,rfl,trivial⟩ ⟨hS0,AQ _ _⟩ ?_
 rintro U0 i32 g0 v0 ⟨d0,x0⟩ h
 unfold slices_Equal_int_int_l1 at h
 try dsimp only at h
 refine Ac<|Ab (Br (i:=i32) (j:=a0.length) rfl rfl)<|Aa<|Aj<|AV rfl h (fun q0 h=>?_) (fun q0 h=>?_)
 refine Au<|Aj<|Az<|Ac<|Ae rfl<|Af rfl<|Aa<|Aj<|dt 9 tb56_6 (fun b0 c0=>?_)
 refine Ag 0 1 b0 rfl c0 (fun _=>Ak rfl) rfl<|Ag 1 3 b0 rfl c0 (fun _=>Ak rfl) rfl ?_
 obtain ⟨k0,M0,h⟩:=bi h
 have F0:=AO h0_0 d0
 obtain ⟨Q0,V0,y0,C0,t0,J0,E0⟩:=Bk F0 M0
 have z0:t0 = [vI k0]:=J0; subst z0
 refine Ag 2 7 b0 rfl c0 (fun _=>Bp 1 i32 rfl y0 rfl rfl C0) rfl<|AC 3 15 256 b0 rfl c0 (AL rfl (E0 0 _ rfl)) rfl<|Ag 4 31 b0 rfl c0 (fun _=>Ak rfl) rfl<|Ag 5 63 b0 rfl c0 (fun _=>Ak rfl) rfl ?_
 obtain ⟨p0,P0,h⟩:=bi h
 have H0:=AO h1_0 d0
 obtain ⟨R0,W0,A0,D0,u0,K0,G0⟩:=Bk H0 P0
 have B0:u0 = [vI p0]:=K0; subst B0
 refine Ag 6 127 b0 rfl c0 (fun _=>Bp 1 i32 rfl A0 rfl rfl D0) rfl<|AC 7 255 256 b0 rfl c0 (AL rfl (G0 0 _ rfl)) rfl<|Ag 8 511 b0 rfl c0 (fun _=>FV.neq (i:=k0) (j:=p0) rfl rfl) rfl<|AE (dk b0)<|MX.ifn rfl h (fun s0 h=>?_) (fun s0 h=>?_)
 refine Au<|AB<|Ao<|Ab (Bl (i:=i32) (j:=1) rfl rfl (by omega))<|Ae rfl<|Aa ?_
 exact v0 (i32 + 1) _ _ ⟨rfl,rfl,rfl,rfl,trivial⟩ ⟨d0,x0⟩ h
 refine Ac<|Af rfl<|Aa ?_
 have h:=thn_inl h j0
 refine Al rfl<|Bb hb0 Tryz.func56 rfl rfl ?_
 cases h
 exact d0.gv
 refine Be rfl ?_
 have h:=thn_inr h j0
 try dsimp only at h
 refine Ac<|Af rfl<|Aa<|Al rfl<|Bb hb0 Tryz.func56 rfl rfl ?_
 cases h
 exact d0.gv
 refine Ac<|Af rfl<|Aa<|Al rfl<|Bb hb0 Tryz.func56 rfl rfl ?_
 cases h
 exact hS0.gv
theorem body56:bodyB Tryz.prog 56 = true:=by kernel_rfl
def wardmotelaw29_lists_1_p (n:Nat) (a0:List Int) (a1:Int) (a2:List Int):Option Bool:=
  (slices_Equal_int_int_p n a0 a2).bind fun y1=>(if y1 = true then some (decide (a1 = 0)) else some false)
theorem wardmotelaw29_lists_1_c (n:Nat) (L:List Nat) (w:World) (hL:∀ b ∈ L,b < w.heap.size) (a0:List Int) {v0_0:Value} (h0_0:Rep.R w L [v0_0] a0) (a1:Int) (a2:List Int) {v2_0:Value} (h2_0:Rep.R w L [v2_0] a2) {p2:Nat} (m2:∀ j9 v9,([v2_0]:List Value)[j9]? = some v9 → w.cell? ((⟨p2,0,none⟩:Addr).add j9) = some v9)  {r:Bool} (h:wardmotelaw29_lists_1_p n a0 a1 a2 = some r) :
    Calls Tryz.prog 55 #[v0_0,vI a1,.pointer (some ⟨p2,0,none⟩)] w (Gives w fun _ u=>u = .bool r):=by
 unfold wardmotelaw29_lists_1_p at h
 have hS0:=Ay w
 refine AD Tryz.func55 rfl rfl rfl (fun _ cs0 hb0=>?_)
 refine Ac<|Af rfl<|Aa<|Ac<|Ae rfl<|AY rfl ((fun j9 v9 h9=>hS0.ag.cell0 (m2 j9 v9 h9)) 0 _ rfl) ?_
 obtain ⟨y1,hy1,h⟩:=bi h
 refine Bg (.bool y1) body56 rfl (e2 rfl rfl) (fun w9 hw9=>slices_Equal_int_int_c n _ w9 (hS0.hL0 hL hw9) a0 (hS0.kd h0_0 hw9) a2 (hS0.kd h2_0 hw9) hy1) rfl<|Ae rfl<|RG.ifb (s:=9) rfl h (fun c2 h=>?_) (fun c2 h=>?_)
 refine AS (Ak rfl)<|AS (FV.eql (i:=a1) (j:=0) rfl rfl)<|BI rfl rfl<|Af rfl<|Aa<|Al rfl<|Bb hb0 Tryz.func55 rfl rfl ?_
 cases h
 exact hS0.gv
 refine AI<|AI<|RG.pf rfl rfl<|Af rfl<|Aa<|Al rfl<|Bb hb0 Tryz.func55 rfl rfl ?_
 cases h
 exact hS0.gv
theorem wardmotelaw29_lists_c (n:Nat) (L:List Nat) (w:World) (_hL:∀ b ∈ L,b < w.heap.size) (a0:List Int) {v0_0:Value} (h0_0:Rep.R w L [v0_0] a0)  :
    Calls Tryz.prog 18 #[v0_0] w (Gives w fun w' u=>∃ b0:Nat,u = .func (.func 55) #[] #[vP b0]∧St w w' [.cells b0 [v0_0] 32]):=by
 have hS0:=Ay w
 refine AD Tryz.func18 rfl rfl rfl (fun _ cs0 hb0=>?_)
 refine Ac<|Ai .plain rfl (Av hS0 rfl (Rep.c1 h0_0)) (fun g0 b0 c0 d0=>?_)
 refine Af rfl<|Aa<|Ac<|Ab (BF (vs:=[]) (us:=[vP b0]) evs_nil (e1 rfl))<|Af rfl<|Aa<|Al rfl<|Am (u:=.func (.func 55) #[] #[vP b0]) hb0 Tryz.func18 rfl (.cons (.tmp rfl) .nil) rfl ?_
 exact ⟨c0.ag,fun w9 hw9=>⟨b0,rfl,c0.agree hw9⟩⟩
def share_told_p (n:Nat) (a0:TRatio) (a1:Int):Option (TShare × Int):=
  (if a1 = 0 then (share_Ratio_Told_p n a0).bind fun b0=>some (b0.1,b0.2) else some ((⟨((0:UInt64),(0:UInt64),(0:UInt64),(0:UInt64),(0:UInt64),(0:UInt64),(0:UInt64),(0:UInt64)),((0:UInt64),(0:UInt64),(0:UInt64),(0:UInt64),(0:UInt64),(0:UInt64),(0:UInt64),(0:UInt64))⟩:TShare),a1))
theorem share_told_c (n:Nat) (L:List Nat) (w:World) (hL:∀ b ∈ L,b < w.heap.size) (a0:TRatio) {v0_1:Value} (h0_1:Rep.R w L [v0_1] a0.ft.fo) {v0_3:Value} (h0_3:Rep.R w L [v0_3] a0.fp.fo) (a1:Int)  {r:TShare × Int} (h:share_told_p n a0 a1 = some r) :
    Calls Tryz.prog 88 #[.agg #[.bool a0.ft.fe,v0_1,.bool a0.fp.fe,v0_3],vI a1] w (Gives w fun _ u=>u = .tuple #[.agg ((cs_TShare r.1)).toArray,vI r.2]):=by
 unfold share_told_p at h
 have hS0:=Ay w
 refine AD Tryz.func88 rfl rfl rfl (fun _ cs0 hb0=>?_)
 refine Ac<|Ai .plain rfl (Av hS0 rfl rfl) (fun z0 s0 p0 u0=>?_)
 refine Ai .plain rfl (Ar zL p0) (fun A0 t0 b0 v0=>?_)
 refine Af rfl<|Aa<|Aj<|Ac<|Ae rfl<|Ab (FV.neq (i:=a1) (j:=0) rfl rfl)<|Aa<|MX.ifn rfl h (fun j0 h=>?_) (fun j0 h=>?_)
 refine Au<|Ac<|Ab (AA rfl (b0.memA (.tl .hd))) ?_
 obtain ⟨c0,q0,h⟩:=bi h
 refine Bg (.tuple #[.agg ((cs_TShare c0.1)).toArray,vI c0.2]) body115 rfl (e1 rfl) (fun w9 hw9=>share_Ratio_Told_c n _ w9 (b0.hL0 hL hw9) a0 (b0.k0 h0_1 hw9) (b0.k0 h0_3 hw9) q0) rfl<|Ab (Ah rfl rfl)<|Ab (Ah rfl rfl)<|AJ (cs_TShare c0.1) b0 .hd (onesB rfl) (fun B0 d0 x0=>?_)
 refine Af rfl<|Aa<|Al rfl<|Am hb0 Tryz.func88 rfl (.cons (.many (cs:=(cs_TShare c0.1)) (by kernel_rfl) rfl (d0.memA .hd)) (.cons (.tmp rfl) .nil)) rfl ?_
 cases h
 exact d0.gv
 refine Ac<|Ab (AM (vs:=[]) (u:=.agg zM) evs_nil (fun w9=>by kernel_rfl))<|Ae rfl<|AJ zL b0 .hd (onesB rfl) (fun C0 g0 y0=>?_)
 refine Af rfl<|Aa<|Al rfl<|Am hb0 Tryz.func88 rfl (.cons (.many (cs:=zL) (by kernel_rfl) rfl (g0.memA .hd)) (.cons (.tmp rfl) .nil)) rfl ?_
 cases h
 exact g0.gv
def tb103_1:List (Nat × Nat × Nat):=[(0,8,2),(1,16,8),(2,32,16),(0,64,2),(8,128,64),(20,256,160),(63,0,260)]
def share_Ratio_Turned_p (n:Nat) (a0:TRatio):Option TRatio:=
  (wide_Long_Turned_p n a0.ft).bind fun b0=>some (⟨b0,a0.fp⟩:TRatio)
theorem share_Ratio_Turned_c (n:Nat) (L:List Nat) (w:World) (hL:∀ b ∈ L,b < w.heap.size) (a0:TRatio) {v0_1:Value} (h0_1:Rep.R w L [v0_1] a0.ft.fo) {v0_3:Value} (h0_3:Rep.R w L [v0_3] a0.fp.fo)  {r:TRatio} (h:share_Ratio_Turned_p n a0 = some r) :
    Calls Tryz.prog 103 #[.agg #[.bool a0.ft.fe,v0_1,.bool a0.fp.fe,v0_3]] w (Gives w fun w' u=>∃ v0_1 v0_3:Value,u = .agg #[.bool r.ft.fe,v0_1,.bool r.fp.fe,v0_3]∧Rep.R w' L [v0_1] r.ft.fo∧Rep.R w' L [v0_3] r.fp.fo):=by
 unfold share_Ratio_Turned_p at h
 have hS0:=Ay w
 refine AD Tryz.func103 rfl rfl rfl (fun _ cs0 hb0=>?_)
 refine Ac<|Ai .plain rfl (Av hS0 rfl rfl) (fun P0 E0 u0 I0=>?_)
 refine Ai .plain rfl (Ar [.bool false,vN,.bool false,vN] u0) (fun Q0 F0 c0 J0=>?_)
 refine Aa<|Aj<|dt 6 tb103_1 (fun b0 d0=>?_)
 refine Ag 0 1 b0 rfl d0 (fun _=>AX 0 rfl) rfl<|AC 1 3 100 b0 rfl d0 (Bc (cs:=[.bool a0.ft.fe,v0_1]) (by kernel_rfl) rfl (mem_part (c0.memA (.tl .hd)) 0 2)) rfl<|Ag 3 11 b0 rfl d0 (fun _=>AX 2 rfl) rfl<|AC 4 27 96 b0 rfl d0 (Bc (cs:=[.bool a0.fp.fe,v0_3]) (by kernel_rfl) rfl (mem_part (c0.memA (.tl .hd)) 2 2)) rfl ?_
 obtain ⟨p0,B0,h⟩:=bi h
 refine Bu 2 31 b0 rfl .plain body124 rfl (e1 rfl) (fun w9 hw9=>wide_Long_Turned_c n _ w9 (c0.hL hL hw9) a0.ft (c0.km h0_1 hw9) B0) rfl (fun R0 M0 x0 ⟨g0,hu_,q0⟩=>?_)
 subst hu_
 obtain ⟨s0,K0⟩:=c0.agr x0
 obtain ⟨C0,G0,z0,_⟩:=Rep.sl q0
 have t0:=AO h0_3 s0
 obtain ⟨D0,H0,A0,_⟩:=Rep.sl t0
 refine Ag 5 63 b0 rfl d0 (fun _=>AM (vs:=[.agg #[.bool p0.fe,g0],.agg #[.bool a0.fp.fe,v0_3]]) (u:=.agg #[.bool p0.fe,g0,.bool a0.fp.fe,v0_3]) (e2 rfl rfl) (fun w9=>by rw [z0,A0]; try kernel_rfl)) rfl<|Bq 6 127 b0 rfl rfl .plain (Aw (news:=[.bool p0.fe,g0,.bool a0.fp.fe,v0_3]) s0 .hd rfl rfl rfl rfl rfl rfl (o4 rfl (AN q0) rfl (AN t0))) (fun U0 j0 v0=>?_)
 refine AE (dk b0)<|Al rfl<|Am hb0 Tryz.func103 rfl (.cons (.many (cs:=[.bool p0.fe,g0,.bool a0.fp.fe,v0_3]) (by kernel_rfl) rfl (j0.memA .hd)) .nil) rfl ?_
 cases h
 have y0:=Aq q0 v0
 exact ⟨j0.ag,fun w9 hw9=>⟨g0,v0_3,rfl,j0.kd y0 hw9,j0.k0 h0_3 hw9⟩⟩
def share_Ratio_lesser_p (n:Nat) (a0:TRatio) (a1:TRatio):Option TRatio:=
  (share_Ratio_Cmp_p n a0 a1).bind fun b0=>(if b0 ≤ 0 then some a0 else some a1)
theorem share_Ratio_lesser_c (n:Nat) (L:List Nat) (w:World) (hL:∀ b ∈ L,b < w.heap.size) (a0:TRatio) {v0_1:Value} (h0_1:Rep.R w L [v0_1] a0.ft.fo) {v0_3:Value} (h0_3:Rep.R w L [v0_3] a0.fp.fo) (a1:TRatio) {v1_1:Value} (h1_1:Rep.R w L [v1_1] a1.ft.fo) {v1_3:Value} (h1_3:Rep.R w L [v1_3] a1.fp.fo)  {r:TRatio} (h:share_Ratio_lesser_p n a0 a1 = some r) :
    Calls Tryz.prog 123 #[.agg #[.bool a0.ft.fe,v0_1,.bool a0.fp.fe,v0_3],.agg #[.bool a1.ft.fe,v1_1,.bool a1.fp.fe,v1_3]] w (Gives w fun w' u=>∃ v0_1 v0_3:Value,u = .agg #[.bool r.ft.fe,v0_1,.bool r.fp.fe,v0_3]∧Rep.R w' L [v0_1] r.ft.fo∧Rep.R w' L [v0_3] r.fp.fo):=by
 unfold share_Ratio_lesser_p at h
 have hS0:=Ay w
 refine AD Tryz.func123 rfl rfl rfl (fun _ cs0 hb0=>?_)
 refine Ac<|Ai .plain rfl (Av hS0 rfl rfl) (fun G0 y0 p0 B0=>?_)
 refine Ai .plain rfl (Av p0 rfl rfl) (fun H0 z0 q0 C0=>?_)
 refine Ai .plain rfl (Ar [.bool false,vN,.bool false,vN] q0) (fun I0 A0 b0 D0=>?_)
 refine Aa<|Aj<|Ac<|Ab (AA rfl (b0.memA (.tl (.tl .hd))))<|Ab (AA rfl (b0.memA (.tl .hd))) ?_
 obtain ⟨g0,x0,h⟩:=bi h
 refine Bg (vI g0) body87 rfl (e2 rfl rfl) (fun w9 hw9=>share_Ratio_Cmp_c n _ w9 (b0.hL0 hL hw9) a0 (b0.k0 h0_1 hw9) (b0.k0 h0_3 hw9) a1 (b0.k0 h1_1 hw9) (b0.k0 h1_3 hw9) x0) rfl<|Ab (FV.leq (i:=g0) (j:=0) rfl rfl)<|Aa<|AV rfl h (fun j0 h=>?_) (fun j0 h=>?_)
 refine Ac<|Ab (AA rfl (b0.memA (.tl (.tl .hd)))) ?_
 have s0:=AO h0_1 b0
 have t0:=AO h0_3 b0
 refine AJ [.bool a0.ft.fe,v0_1,.bool a0.fp.fe,v0_3] b0 .hd (o4 rfl (AN s0) rfl (AN t0)) (fun J0 c0 E0=>?_)
 refine Aa<|Al rfl<|Am hb0 Tryz.func123 rfl (.cons (.many (cs:=[.bool a0.ft.fe,v0_1,.bool a0.fp.fe,v0_3]) (by kernel_rfl) rfl (c0.memA .hd)) .nil) rfl ?_
 cases h
 exact ⟨c0.ag,fun w9 hw9=>⟨v0_1,v0_3,rfl,c0.k0 h0_1 hw9,c0.k0 h0_3 hw9⟩⟩
 refine Au<|Ac<|Ab (AA rfl (b0.memA (.tl .hd))) ?_
 have u0:=AO h1_1 b0
 have v0:=AO h1_3 b0
 refine AJ [.bool a1.ft.fe,v1_1,.bool a1.fp.fe,v1_3] b0 .hd (o4 rfl (AN u0) rfl (AN v0)) (fun K0 d0 F0=>?_)
 refine Aa<|Al rfl<|Am hb0 Tryz.func123 rfl (.cons (.many (cs:=[.bool a1.ft.fe,v1_1,.bool a1.fp.fe,v1_3]) (by kernel_rfl) rfl (d0.memA .hd)) .nil) rfl ?_
 cases h
 exact ⟨d0.ag,fun w9 hw9=>⟨v1_1,v1_3,rfl,d0.k0 h1_1 hw9,d0.k0 h1_3 hw9⟩⟩
def tb102_1:List (Nat × Nat × Nat):=[(0,32,4),(1,64,32),(0,128,8),(6,256,128),(10,512,320),(16,1024,512),(63,0,1040)]
theorem body103:bodyB Tryz.prog 103 = true:=by kernel_rfl
theorem body123:bodyB Tryz.prog 123 = true:=by kernel_rfl
def share_Ratio_greater_p (n:Nat) (a0:TRatio) (a1:TRatio):Option TRatio:=
  (share_Ratio_Turned_p n a0).bind fun b0=>(share_Ratio_Turned_p n a1).bind fun c0=>(share_Ratio_lesser_p n b0 c0).bind fun d0=>(share_Ratio_Turned_p n d0).bind fun g0=>some g0
theorem share_Ratio_greater_c (n:Nat) (L:List Nat) (w:World) (hL:∀ b ∈ L,b < w.heap.size) (a0:TRatio) {v0_1:Value} (h0_1:Rep.R w L [v0_1] a0.ft.fo) {v0_3:Value} (h0_3:Rep.R w L [v0_3] a0.fp.fo) (a1:TRatio) {v1_1:Value} (h1_1:Rep.R w L [v1_1] a1.ft.fo) {v1_3:Value} (h1_3:Rep.R w L [v1_3] a1.fp.fo)  {r:TRatio} (h:share_Ratio_greater_p n a0 a1 = some r) :
    Calls Tryz.prog 102 #[.agg #[.bool a0.ft.fe,v0_1,.bool a0.fp.fe,v0_3],.agg #[.bool a1.ft.fe,v1_1,.bool a1.fp.fe,v1_3]] w (Gives w fun w' u=>∃ v0_1 v0_3:Value,u = .agg #[.bool r.ft.fe,v0_1,.bool r.fp.fe,v0_3]∧Rep.R w' L [v0_1] r.ft.fo∧Rep.R w' L [v0_3] r.fp.fo):=by
 unfold share_Ratio_greater_p at h
 have hS0:=Ay w
 refine AD Tryz.func102 rfl rfl rfl (fun _ cs0 hb0=>?_)
 refine Ac<|Ai .plain rfl (Av hS0 rfl rfl) (fun G1 d1 z0 k1=>?_)
 refine Ai .plain rfl (Av z0 rfl rfl) (fun H1 g1 A0 p1=>?_)
 refine Ai .plain rfl (Ar [.bool false,vN,.bool false,vN] A0) (fun I1 j1 c0 q1=>?_)
 refine Aa<|Aj<|dt 6 tb102_1 (fun b0 y0=>?_)
 refine AC 0 1 122 b0 rfl y0 (AA rfl (c0.memA (.tl (.tl .hd)))) rfl<|AC 2 5 120 b0 rfl y0 (AA rfl (c0.memA (.tl .hd))) rfl ?_
 obtain ⟨Z0,V0,h⟩:=bi h
 refine Bu 1 7 b0 rfl .plain body103 rfl (e1 rfl) (fun w9 hw9=>share_Ratio_Turned_c n _ w9 (c0.hL hL hw9) a0 (c0.km h0_1 hw9) (c0.km h0_3 hw9) V0) rfl (fun J1 C1 C0 ⟨v1,x1,hu_,K0,M0⟩=>?_)
 subst hu_
 obtain ⟨d0,s1⟩:=c0.agr C0
 obtain ⟨b1,W0,h⟩:=bi h
 refine Bu 3 15 b0 rfl .plain body103 rfl (e1 rfl) (fun w9 hw9=>share_Ratio_Turned_c n _ w9 (d0.hL hL hw9) a1 (d0.km h1_1 hw9) (d0.km h1_3 hw9) W0) rfl (fun K1 D1 D0 ⟨y1,z1,hu_,P0,Q0⟩=>?_)
 subst hu_
 obtain ⟨q0,t0⟩:=d0.agr D0
 obtain ⟨c1,X0,h⟩:=bi h
 have G0:=Aq K0 t0
 have H0:=Aq M0 t0
 refine Bu 4 31 b0 rfl .plain body123 rfl (e2 rfl rfl) (fun w9 hw9=>share_Ratio_lesser_c n _ w9 (q0.hL hL hw9) Z0 (Ap G0 hw9) (Ap H0 hw9) b1 (Ap P0 hw9) (Ap Q0 hw9) X0) rfl (fun M1 E1 E0 ⟨A1,B1,hu_,R0,U0⟩=>?_)
 subst hu_
 obtain ⟨s0,t1⟩:=q0.agr E0
 obtain ⟨j0,Y0,h⟩:=bi h
 refine Bu 5 63 b0 rfl .plain body103 rfl (e1 rfl) (fun w9 hw9=>share_Ratio_Turned_c n _ w9 (s0.hL hL hw9) c1 (Ap R0 hw9) (Ap U0 hw9) Y0) rfl (fun P1 F1 F0 ⟨k0,p0,hu_,v0,x0⟩=>?_)
 subst hu_
 obtain ⟨B0,u1⟩:=s0.agr F0
 refine Bq 6 127 b0 rfl rfl .plain (Aw (news:=[.bool j0.ft.fe,k0,.bool j0.fp.fe,p0]) B0 .hd rfl rfl rfl rfl rfl rfl (o4 rfl (AN v0) rfl (AN x0))) (fun Q1 g0 u0=>?_)
 refine AE (dk b0)<|Al rfl<|Am hb0 Tryz.func102 rfl (.cons (.many (cs:=[.bool j0.ft.fe,k0,.bool j0.fp.fe,p0]) (by kernel_rfl) rfl (g0.memA .hd)) .nil) rfl ?_
 cases h
 have I0:=Aq v0 u0
 have J0:=Aq x0 u0
 exact ⟨g0.ag,fun w9 hw9=>⟨k0,p0,rfl,g0.kd I0 hw9,g0.kd J0 hw9⟩⟩
def tb101_1:List (Nat × Nat × Nat):=[(0,32,4),(0,64,4),(2,128,64),(5,256,160),(15,0,272)]
theorem body102:bodyB Tryz.prog 102 = true:=by kernel_rfl
def share_Abs_1_p (n:Nat) (a0:TRatio) (_a1:TRatio):Option TRatio:=
  (share_Ratio_Turned_p n a0).bind fun b0=>(share_Ratio_greater_p n a0 b0).bind fun c0=>some c0
theorem share_Abs_1_c (n:Nat) (L:List Nat) (w:World) (hL:∀ b ∈ L,b < w.heap.size) (a0:TRatio) {v0_1:Value} (h0_1:Rep.R w L [v0_1] a0.ft.fo) {v0_3:Value} (h0_3:Rep.R w L [v0_3] a0.fp.fo) (a1:TRatio) {v1_1:Value} (h1_1:Rep.R w L [v1_1] a1.ft.fo) {v1_3:Value} (h1_3:Rep.R w L [v1_3] a1.fp.fo)  {r:TRatio} (h:share_Abs_1_p n a0 a1 = some r) :
    Calls Tryz.prog 101 #[.agg #[.bool a0.ft.fe,v0_1,.bool a0.fp.fe,v0_3],.agg #[.bool a1.ft.fe,v1_1,.bool a1.fp.fe,v1_3]] w (Gives w fun w' u=>∃ v0_1 v0_3:Value,u = .agg #[.bool r.ft.fe,v0_1,.bool r.fp.fe,v0_3]∧Rep.R w' L [v0_1] r.ft.fo∧Rep.R w' L [v0_3] r.fp.fo):=by
 unfold share_Abs_1_p at h
 have hS0:=Ay w
 refine AD Tryz.func101 rfl rfl rfl (fun _ cs0 hb0=>?_)
 refine Ac<|Ai .plain rfl (Av hS0 rfl rfl) (fun Z0 I0 v0 M0=>?_)
 refine Ai .plain rfl (Av v0 rfl rfl) (fun b1 J0 x0 P0=>?_)
 refine Ai .plain rfl (Ar [.bool false,vN,.bool false,vN] x0) (fun c1 K0 b0 Q0=>?_)
 refine Aa<|Aj<|dt 4 tb101_1 (fun c0 u0=>?_)
 refine AC 0 1 24 c0 rfl u0 (AA rfl (b0.memA (.tl (.tl .hd)))) rfl<|AC 1 3 28 c0 rfl u0 (AA rfl (b0.memA (.tl (.tl .hd)))) rfl ?_
 obtain ⟨H0,F0,h⟩:=bi h
 refine Bu 2 7 c0 rfl .plain body103 rfl (e1 rfl) (fun w9 hw9=>share_Ratio_Turned_c n _ w9 (b0.hL hL hw9) a0 (b0.km h0_1 hw9) (b0.km h0_3 hw9) F0) rfl (fun d1 X0 z0 ⟨V0,W0,hu_,D0,E0⟩=>?_)
 subst hu_
 obtain ⟨d0,R0⟩:=b0.agr z0
 obtain ⟨j0,G0,h⟩:=bi h
 refine Bu 3 15 c0 rfl .plain body102 rfl (e2 rfl rfl) (fun w9 hw9=>share_Ratio_greater_c n _ w9 (d0.hL hL hw9) a0 (d0.km h0_1 hw9) (d0.km h0_3 hw9) H0 (Ap D0 hw9) (Ap E0 hw9) G0) rfl (fun g1 Y0 A0 ⟨k0,p0,hu_,s0,t0⟩=>?_)
 subst hu_
 obtain ⟨y0,U0⟩:=d0.agr A0
 refine Bq 4 31 c0 rfl rfl .plain (Aw (news:=[.bool j0.ft.fe,k0,.bool j0.fp.fe,p0]) y0 .hd rfl rfl rfl rfl rfl rfl (o4 rfl (AN s0) rfl (AN t0))) (fun j1 g0 q0=>?_)
 refine AE (dk c0)<|Al rfl<|Am hb0 Tryz.func101 rfl (.cons (.many (cs:=[.bool j0.ft.fe,k0,.bool j0.fp.fe,p0]) (by kernel_rfl) rfl (g0.memA .hd)) .nil) rfl ?_
 cases h
 have B0:=Aq s0 q0
 have C0:=Aq t0 q0
 exact ⟨g0.ag,fun w9 hw9=>⟨k0,p0,rfl,g0.kd B0 hw9,g0.kd C0 hw9⟩⟩
def tb89_4:List (Nat × Nat × Nat):=[(0,32768,4),(0,65536,8),(2,131072,65536),(0,262144,16),(12,524288,262144),(21,1048576,688128),(63,0,1048640),(127,128,0)]
theorem body88:bodyB Tryz.prog 88 = true:=by kernel_rfl
theorem body89:bodyB Tryz.prog 89 = true:=by kernel_rfl
theorem body101:bodyB Tryz.prog 101 = true:=by kernel_rfl
def share_Abs_p (n:Nat) (a0:TShare):Option (TShare × Int):=
  (share_valid_p n ([a0,a0]:List TShare)).bind fun d0=>(if d0 = true then (share_Read_p n a0).bind fun g0=>(share_Read_p n a0).bind fun j0=>(share_Abs_1_p n g0 j0).bind fun k0=>(share_told_p n k0 (0:Int)).bind fun b0=>some (b0.1,b0.2) else (share_told_p n (⟨(⟨false,([]:List UInt64)⟩:TLong),(⟨false,([]:List UInt64)⟩:TLong)⟩:TRatio) (20:Int)).bind fun c0=>some (c0.1,c0.2))
theorem share_Abs_c (n:Nat) (L:List Nat) (w:World) (hL:∀ b ∈ L,b < w.heap.size) (a0:TShare)  {r:TShare × Int} (h:share_Abs_p n a0 = some r) :
    Calls Tryz.prog 61 #[.agg ((cs_TShare a0)).toArray] w (Gives w fun _ u=>u = .tuple #[.agg ((cs_TShare r.1)).toArray,vI r.2]):=by
 unfold share_Abs_p at h
 have hS0:=Ay w
 refine AD Tryz.func61 rfl rfl rfl (fun _ cs0 hb0=>?_)
 refine Ac<|Ai .plain rfl (Av hS0 rfl rfl) (fun j2 x1 I0 G1=>?_)
 refine Ai .plain rfl (Ar zL I0) (fun k2 y1 p0 H1=>?_)
 refine Af rfl<|Aa<|Ac<|Ab (AA rfl (p0.memA (.tl .hd)))<|Ab (AA rfl (p0.memA (.tl .hd)))<|Bj (fst:=[]) (cap:=[]) (vs:=[.agg ((cs_TShare a0)).toArray,.agg ((cs_TShare a0)).toArray,.func (.func 101) #[] #[]]) .plain body89 Tryz.func89 rfl rfl rfl rfl (e3 rfl rfl rfl) rfl (fun E1 E0 W1=>?_)
 refine Ac<|Ai .plain rfl (Av p0 rfl rfl) (fun p2 z1 J0 I1=>?_)
 refine Ai .plain rfl (Av J0 rfl rfl) (fun q2 A1 K0 J1=>?_)
 refine Ai .plain rfl (Ar [.bool false,vN,.bool false,vN] K0) (fun s2 B1 q0 K1=>?_)
 refine Af rfl<|Aa<|Aj<|Ac<|Ab (AA rfl (q0.memA (.tl (.tl .hd))))<|Ab (AA rfl (q0.memA (.tl .hd)))<|Ai .plain rfl (Ba (α:=TShare) (xs:=([a0,a0]:List TShare)) (vs:=[.agg ((cs_TShare a0)).toArray,.agg ((cs_TShare a0)).toArray]) (ds' :=(cs_TShare a0 ++ cs_TShare a0)) rfl q0 el40 rfl (e2 rfl rfl) (by kernel_rfl) rfl) (fun t2 C1 c0 M1=>?_)
 have U0:=AH (cs:=(cs_TShare a0 ++ cs_TShare a0)) (xs:=(([a0,a0]:List TShare):List TShare)) c0 L (Ax (cs:=(cs_TShare a0)) (ds:=(cs_TShare a0)) (mk_TShare a0.fN a0.fD) (Ax (cs:=(cs_TShare a0)) (ds:=[]) (mk_TShare a0.fN a0.fD) (AT _ _)))
 obtain ⟨t1,g1,h⟩:=bi h
 refine Bg (.bool t1) body116 rfl (e1 rfl) (fun w9 hw9=>share_valid_c n _ w9 (c0.hL0 hL hw9) ([a0,a0]:List TShare) (Ap (St.lend (α:=TShare) (L:=L) c0 .hd U0 hL) hw9) g1) rfl<|Ab (BG rfl)<|Aa<|MX.ifnb rfl h (fun H0 h=>?_) (fun H0 h=>?_)
 refine Au<|Aj<|dt 6 tb89_4 (fun b0 t0=>?_)
 refine Ag 0 1 b0 rfl t0 (fun _=>Ak rfl) rfl<|AC 1 3 244 b0 rfl t0 (AA rfl (c0.memA (.tl (.tl (.tl .hd))))) rfl<|AC 3 11 240 b0 rfl t0 (AA rfl (c0.memA (.tl (.tl .hd)))) rfl ?_
 obtain ⟨u1,j1,h⟩:=bi h
 refine Bu 2 15 b0 rfl .plain body95 rfl (e1 rfl) (fun w9 hw9=>share_Read_c n _ w9 (c0.hL hL hw9) a0 j1) rfl (fun u2 c2 P0 ⟨X1,Y1,hu_,Z0,b1⟩=>?_)
 subst hu_
 obtain ⟨x0,P1⟩:=c0.agr P0
 obtain ⟨v1,k1,h⟩:=bi h
 refine Bu 4 31 b0 rfl .plain body95 rfl (e1 rfl) (fun w9 hw9=>share_Read_c n _ w9 (x0.hL hL hw9) a0 k1) rfl (fun v2 d2 Q0 ⟨Z1,b2,hu_,c1,d1⟩=>?_)
 subst hu_
 obtain ⟨y0,C0⟩:=x0.agr Q0
 obtain ⟨d0,p1,h⟩:=bi h
 have V0:=Aq Z0 C0
 have W0:=Aq b1 C0
 refine Bu 5 63 b0 rfl .plain body101 rfl (e2 rfl rfl) (fun w9 hw9=>share_Abs_1_c n _ w9 (y0.hL hL hw9) u1 (Ap V0 hw9) (Ap W0 hw9) v1 (Ap c1 hw9) (Ap d1 hw9) p1) rfl (fun x2 g2 R0 ⟨u0,v0,hu_,F0,G0⟩=>?_)
 subst hu_
 obtain ⟨M0,Q1⟩:=y0.agr R0
 refine Bq 6 127 b0 rfl rfl .plain (Aw (news:=[.bool d0.ft.fe,u0,.bool d0.fp.fe,v0]) M0 (.tl .hd) rfl rfl rfl rfl rfl rfl (o4 rfl (AN F0) rfl (AN G0))) (fun y2 g0 D0=>?_)
 refine BC (i:=7) (rk b0) (BK (m' :=255) (sk b0) rfl .plain rfl (Bi rfl) ?_)
 refine AE (dk b0)<|Al rfl<|Am (u:=.tuple #[.agg #[.bool d0.ft.fe,u0,.bool d0.fp.fe,v0],vI 0]) E0 Tryz.func89 rfl (.cons (.many (cs:=[.bool d0.ft.fe,u0,.bool d0.fp.fe,v0]) (by kernel_rfl) rfl (g0.memA (.tl .hd))) (.cons (.tmp rfl) .nil)) rfl<|Ab (Ah rfl rfl)<|Ab (Ah rfl rfl) ?_
 obtain ⟨j0,q1,h⟩:=bi h
 have X0:=Aq F0 D0
 have Y0:=Aq G0 D0
 refine Bg (.tuple #[.agg ((cs_TShare j0.1)).toArray,vI j0.2]) body88 rfl (e2 rfl rfl) (fun w9 hw9=>share_told_c n _ w9 (g0.hL0 hL hw9) d0 (g0.kd X0 hw9) (g0.kd Y0 hw9) (0:Int) q1) rfl<|Ab (Ah rfl rfl)<|Ab (Ah rfl rfl)<|AJ (cs_TShare j0.1) g0 (.tl (.tl (.tl (.tl .hd)))) (onesB rfl) (fun z2 z0 R1=>?_)
 refine Af rfl<|Aa<|Al rfl<|Am hb0 Tryz.func61 rfl (.cons (.many (cs:=(cs_TShare j0.1)) (by kernel_rfl) rfl (z0.memA (.tl (.tl (.tl (.tl .hd)))))) (.cons (.tmp rfl) .nil)) rfl ?_
 cases h
 exact z0.gv
 refine Ac<|Ai .plain rfl (Ar [.bool false,vN,.bool false,vN] c0) (fun A2 D1 A0 U1=>?_)
 refine Aa<|Ac<|Ab (AA rfl (A0.memA .hd))<|AJ [.bool false,vN,.bool false,vN] A0 (.tl (.tl .hd)) (onesB rfl) (fun B2 s0 V1=>?_)
 refine Af rfl<|Aa<|Al rfl<|Am (u:=.tuple #[.agg #[.bool false,vN,.bool false,vN],vI 20]) E0 Tryz.func89 rfl (.cons (.many (cs:=[.bool false,vN,.bool false,vN]) (by kernel_rfl) rfl (s0.memA (.tl (.tl .hd)))) (.cons (.tmp rfl) .nil)) rfl<|Ab (Ah rfl rfl)<|Ab (Ah rfl rfl) ?_
 obtain ⟨k0,s1,h⟩:=bi h
 refine Bg (.tuple #[.agg ((cs_TShare k0.1)).toArray,vI k0.2]) body88 rfl (e2 rfl rfl) (fun w9 hw9=>share_told_c n _ w9 (s0.hL0 hL hw9) (⟨(⟨false,([]:List UInt64)⟩:TLong),(⟨false,([]:List UInt64)⟩:TLong)⟩:TRatio) (Ap (Rep.nilSlice _ _) hw9) (Ap (Rep.nilSlice _ _) hw9) (20:Int) s1) rfl<|Ab (Ah rfl rfl)<|Ab (Ah rfl rfl)<|AJ (cs_TShare k0.1) s0 (.tl (.tl (.tl (.tl (.tl .hd))))) (onesB rfl) (fun C2 B0 F1=>?_)
 refine Af rfl<|Aa<|Al rfl<|Am hb0 Tryz.func61 rfl (.cons (.many (cs:=(cs_TShare k0.1)) (by kernel_rfl) rfl (B0.memA (.tl (.tl (.tl (.tl (.tl .hd))))))) (.cons (.tmp rfl) .nil)) rfl ?_
 cases h
 exact B0.gv
def tb90_1:List (Nat × Nat × Nat):=[(0,32,4),(1,64,32),(0,128,8),(4,256,128),(10,512,320),(0,1024,8),(32,2048,1024),(0,4096,4),(128,8192,4096),(336,16384,10240),(528,32768,16896),(0,65536,4),(2048,131072,65536),(0,262144,8),(8192,524288,262144),(21504,1048576,655360),(33792,2097152,1081344),(131071,0,2097168)]
def share_Ratio_Plus_p (n:Nat) (a0:TRatio) (a1:TRatio):Option TRatio:=
  (wide_Long_Times_p n a0.ft a1.fp).bind fun b0=>(wide_Long_Times_p n a1.ft a0.fp).bind fun c0=>(wide_Long_Plus_p n b0 c0).bind fun d0=>(wide_Long_Times_p n a0.fp a1.fp).bind fun g0=>(share_Lowest_p n d0 g0).bind fun j0=>some j0
theorem share_Ratio_Plus_c (n:Nat) (L:List Nat) (w:World) (hL:∀ b ∈ L,b < w.heap.size) (a0:TRatio) {v0_1:Value} (h0_1:Rep.R w L [v0_1] a0.ft.fo) {v0_3:Value} (h0_3:Rep.R w L [v0_3] a0.fp.fo) (a1:TRatio) {v1_1:Value} (h1_1:Rep.R w L [v1_1] a1.ft.fo) {v1_3:Value} (h1_3:Rep.R w L [v1_3] a1.fp.fo)  {r:TRatio} (h:share_Ratio_Plus_p n a0 a1 = some r) :
    Calls Tryz.prog 90 #[.agg #[.bool a0.ft.fe,v0_1,.bool a0.fp.fe,v0_3],.agg #[.bool a1.ft.fe,v1_1,.bool a1.fp.fe,v1_3]] w (Gives w fun w' u=>∃ v0_1 v0_3:Value,u = .agg #[.bool r.ft.fe,v0_1,.bool r.fp.fe,v0_3]∧Rep.R w' L [v0_1] r.ft.fo∧Rep.R w' L [v0_3] r.fp.fo):=by
 unfold share_Ratio_Plus_p at h
 have hS0:=Ay w
 refine AD Tryz.func90 rfl rfl rfl (fun _ cs0 hb0=>?_)
 refine Ac<|Ai .plain rfl (Av hS0 rfl rfl) (fun I1 k1 z0 s1=>?_)
 refine Ai .plain rfl (Av z0 rfl rfl) (fun J1 p1 A0 t1=>?_)
 refine Ai .plain rfl (Ar [.bool false,vN,.bool false,vN] A0) (fun K1 q1 d0 u1=>?_)
 refine Aa<|Aj<|dt 17 tb90_1 (fun b0 c0=>?_)
 refine Ag 0 1 b0 rfl c0 (fun _=>AX 0 rfl) rfl<|AC 1 3 230928 b0 rfl c0 (Bc (cs:=[.bool a0.ft.fe,v0_1]) (by kernel_rfl) rfl (mem_part (d0.memA (.tl (.tl .hd))) 0 2)) rfl<|Ag 2 7 b0 rfl c0 (fun _=>AX 2 rfl) rfl<|AC 3 15 230928 b0 rfl c0 (Bc (cs:=[.bool a1.fp.fe,v1_3]) (by kernel_rfl) rfl (mem_part (d0.memA (.tl .hd)) 2 2)) rfl<|Ag 5 47 b0 rfl c0 (fun _=>AX 0 rfl) rfl<|AC 6 111 230912 b0 rfl c0 (Bc (cs:=[.bool a1.ft.fe,v1_1]) (by kernel_rfl) rfl (mem_part (d0.memA (.tl .hd)) 0 2)) rfl<|Ag 7 239 b0 rfl c0 (fun _=>AX 2 rfl) rfl<|AC 8 495 230912 b0 rfl c0 (Bc (cs:=[.bool a0.fp.fe,v0_3]) (by kernel_rfl) rfl (mem_part (d0.memA (.tl (.tl .hd))) 2 2)) rfl<|Ag 11 2543 b0 rfl c0 (fun _=>AX 2 rfl) rfl<|AC 12 6639 229376 b0 rfl c0 (Bc (cs:=[.bool a0.fp.fe,v0_3]) (by kernel_rfl) rfl (mem_part (d0.memA (.tl (.tl .hd))) 2 2)) rfl<|Ag 13 14831 b0 rfl c0 (fun _=>AX 2 rfl) rfl<|AC 14 31215 229376 b0 rfl c0 (Bc (cs:=[.bool a1.fp.fe,v1_3]) (by kernel_rfl) rfl (mem_part (d0.memA (.tl .hd)) 2 2)) rfl ?_
 obtain ⟨c1,W0,h⟩:=bi h
 refine Bu 4 31231 b0 rfl .plain body117 rfl (e2 rfl rfl) (fun w9 hw9=>wide_Long_Times_c n _ w9 (d0.hL hL hw9) a0.ft (d0.km h0_1 hw9) a1.fp (d0.km h1_3 hw9) W0) rfl (fun M1 D1 E0 ⟨z1,hu_,Q0⟩=>?_)
 subst hu_
 obtain ⟨g0,v1⟩:=d0.agr E0
 obtain ⟨d1,X0,h⟩:=bi h
 refine Bu 9 31743 b0 rfl .plain body117 rfl (e2 rfl rfl) (fun w9 hw9=>wide_Long_Times_c n _ w9 (g0.hL hL hw9) a1.ft (g0.km h1_1 hw9) a0.fp (g0.km h0_3 hw9) X0) rfl (fun P1 E1 F0 ⟨A1,hu_,R0⟩=>?_)
 subst hu_
 obtain ⟨t0,C0⟩:=g0.agr F0
 obtain ⟨g1,Y0,h⟩:=bi h
 have J0:=Aq Q0 C0
 refine Bu 10 32767 b0 rfl .plain body118 rfl (e2 rfl rfl) (fun w9 hw9=>wide_Long_Plus_c n _ w9 (t0.hL hL hw9) c1 (Ap J0 hw9) d1 (Ap R0 hw9) Y0) rfl (fun Q1 F1 G0 ⟨B1,hu_,U0⟩=>?_)
 subst hu_
 obtain ⟨j0,x1⟩:=t0.agr G0
 obtain ⟨j1,Z0,h⟩:=bi h
 refine Bu 15 65535 b0 rfl .plain body117 rfl (e2 rfl rfl) (fun w9 hw9=>wide_Long_Times_c n _ w9 (j0.hL hL hw9) a0.fp (j0.km h0_3 hw9) a1.fp (j0.km h1_3 hw9) Z0) rfl (fun R1 G1 H0 ⟨C1,hu_,V0⟩=>?_)
 subst hu_
 obtain ⟨u0,D0⟩:=j0.agr H0
 obtain ⟨p0,b1,h⟩:=bi h
 have K0:=Aq U0 D0
 refine Bu 16 131071 b0 rfl .plain body113 rfl (e2 rfl rfl) (fun w9 hw9=>share_Lowest_c n _ w9 (u0.hL hL hw9) g1 (Ap K0 hw9) j1 (Ap V0 hw9) b1) rfl (fun U1 H1 I0 ⟨q0,s0,hu_,x0,y0⟩=>?_)
 subst hu_
 obtain ⟨B0,y1⟩:=u0.agr I0
 refine Bq 17 262143 b0 rfl rfl .plain (Aw (news:=[.bool p0.ft.fe,q0,.bool p0.fp.fe,s0]) B0 .hd rfl rfl rfl rfl rfl rfl (o4 rfl (AN x0) rfl (AN y0))) (fun V1 k0 v0=>?_)
 refine AE (dk b0)<|Al rfl<|Am hb0 Tryz.func90 rfl (.cons (.many (cs:=[.bool p0.ft.fe,q0,.bool p0.fp.fe,s0]) (by kernel_rfl) rfl (k0.memA .hd)) .nil) rfl ?_
 cases h
 have M0:=Aq x0 v0
 have P0:=Aq y0 v0
 exact ⟨k0.ag,fun w9 hw9=>⟨q0,s0,rfl,k0.kd M0 hw9,k0.kd P0 hw9⟩⟩
def tb125_1:List (Nat × Nat × Nat):=[(0,32,4),(0,64,8),(2,128,64),(5,256,160),(15,0,272)]
theorem body90:bodyB Tryz.prog 90 = true:=by kernel_rfl
def share_Ratio_Minus_p (n:Nat) (a0:TRatio) (a1:TRatio):Option TRatio:=
  (share_Ratio_Turned_p n a1).bind fun b0=>(share_Ratio_Plus_p n a0 b0).bind fun c0=>some c0
theorem share_Ratio_Minus_c (n:Nat) (L:List Nat) (w:World) (hL:∀ b ∈ L,b < w.heap.size) (a0:TRatio) {v0_1:Value} (h0_1:Rep.R w L [v0_1] a0.ft.fo) {v0_3:Value} (h0_3:Rep.R w L [v0_3] a0.fp.fo) (a1:TRatio) {v1_1:Value} (h1_1:Rep.R w L [v1_1] a1.ft.fo) {v1_3:Value} (h1_3:Rep.R w L [v1_3] a1.fp.fo)  {r:TRatio} (h:share_Ratio_Minus_p n a0 a1 = some r) :
    Calls Tryz.prog 125 #[.agg #[.bool a0.ft.fe,v0_1,.bool a0.fp.fe,v0_3],.agg #[.bool a1.ft.fe,v1_1,.bool a1.fp.fe,v1_3]] w (Gives w fun w' u=>∃ v0_1 v0_3:Value,u = .agg #[.bool r.ft.fe,v0_1,.bool r.fp.fe,v0_3]∧Rep.R w' L [v0_1] r.ft.fo∧Rep.R w' L [v0_3] r.fp.fo):=by
 unfold share_Ratio_Minus_p at h
 have hS0:=Ay w
 refine AD Tryz.func125 rfl rfl rfl (fun _ cs0 hb0=>?_)
 refine Ac<|Ai .plain rfl (Av hS0 rfl rfl) (fun Z0 I0 v0 M0=>?_)
 refine Ai .plain rfl (Av v0 rfl rfl) (fun b1 J0 x0 P0=>?_)
 refine Ai .plain rfl (Ar [.bool false,vN,.bool false,vN] x0) (fun c1 K0 b0 Q0=>?_)
 refine Aa<|Aj<|dt 4 tb125_1 (fun c0 u0=>?_)
 refine AC 0 1 24 c0 rfl u0 (AA rfl (b0.memA (.tl (.tl .hd)))) rfl<|AC 1 3 28 c0 rfl u0 (AA rfl (b0.memA (.tl .hd))) rfl ?_
 obtain ⟨H0,F0,h⟩:=bi h
 refine Bu 2 7 c0 rfl .plain body103 rfl (e1 rfl) (fun w9 hw9=>share_Ratio_Turned_c n _ w9 (b0.hL hL hw9) a1 (b0.km h1_1 hw9) (b0.km h1_3 hw9) F0) rfl (fun d1 X0 z0 ⟨V0,W0,hu_,D0,E0⟩=>?_)
 subst hu_
 obtain ⟨d0,R0⟩:=b0.agr z0
 obtain ⟨j0,G0,h⟩:=bi h
 refine Bu 3 15 c0 rfl .plain body90 rfl (e2 rfl rfl) (fun w9 hw9=>share_Ratio_Plus_c n _ w9 (d0.hL hL hw9) a0 (d0.km h0_1 hw9) (d0.km h0_3 hw9) H0 (Ap D0 hw9) (Ap E0 hw9) G0) rfl (fun g1 Y0 A0 ⟨k0,p0,hu_,s0,t0⟩=>?_)
 subst hu_
 obtain ⟨y0,U0⟩:=d0.agr A0
 refine Bq 4 31 c0 rfl rfl .plain (Aw (news:=[.bool j0.ft.fe,k0,.bool j0.fp.fe,p0]) y0 .hd rfl rfl rfl rfl rfl rfl (o4 rfl (AN s0) rfl (AN t0))) (fun j1 g0 q0=>?_)
 refine AE (dk c0)<|Al rfl<|Am hb0 Tryz.func125 rfl (.cons (.many (cs:=[.bool j0.ft.fe,k0,.bool j0.fp.fe,p0]) (by kernel_rfl) rfl (g0.memA .hd)) .nil) rfl ?_
 cases h
 have B0:=Aq s0 q0
 have C0:=Aq t0 q0
 exact ⟨g0.ag,fun w9 hw9=>⟨k0,p0,rfl,g0.kd B0 hw9,g0.kd C0 hw9⟩⟩
theorem body125:bodyB Tryz.prog 125 = true:=by kernel_rfl
def share_Sub_p (n:Nat) (a0:TShare) (a1:TShare):Option (TShare × Int):=
  (share_valid_p n ([a0,a1]:List TShare)).bind fun d0=>(if d0 = true then (share_Read_p n a0).bind fun g0=>(share_Read_p n a1).bind fun j0=>(share_Ratio_Minus_p n g0 j0).bind fun k0=>(share_told_p n k0 (0:Int)).bind fun c0=>some (c0.1,c0.2) else (share_told_p n (⟨(⟨false,([]:List UInt64)⟩:TLong),(⟨false,([]:List UInt64)⟩:TLong)⟩:TRatio) (20:Int)).bind fun b0=>some (b0.1,b0.2))
theorem share_Sub_c (n:Nat) (L:List Nat) (w:World) (hL:∀ b ∈ L,b < w.heap.size) (a0:TShare) (a1:TShare)  {r:TShare × Int} (h:share_Sub_p n a0 a1 = some r) :
    Calls Tryz.prog 104 #[.agg ((cs_TShare a0)).toArray,.agg ((cs_TShare a1)).toArray] w (Gives w fun _ u=>u = .tuple #[.agg ((cs_TShare r.1)).toArray,vI r.2]):=by
 unfold share_Sub_p at h
 have hS0:=Ay w
 refine AD Tryz.func104 rfl rfl rfl (fun _ cs0 hb0=>?_)
 refine Ac<|Ai .plain rfl (Av hS0 rfl rfl) (fun s2 y1 I0 J1=>?_)
 refine Ai .plain rfl (Av I0 rfl rfl) (fun t2 z1 J0 K1=>?_)
 refine Ai .plain rfl (Ar zL J0) (fun u2 A1 q0 M1=>?_)
 refine Af rfl<|Aa<|Ac<|Ab (AA rfl (q0.memA (.tl (.tl .hd))))<|Ab (AA rfl (q0.memA (.tl .hd)))<|Bj (fst:=[]) (cap:=[]) (vs:=[.agg ((cs_TShare a0)).toArray,.agg ((cs_TShare a1)).toArray,.func (.func 125) #[] #[]]) .plain body89 Tryz.func89 rfl rfl rfl rfl (e3 rfl rfl rfl) rfl (fun G1 E0 Z1=>?_)
 refine Ac<|Ai .plain rfl (Av q0 rfl rfl) (fun v2 B1 K0 P1=>?_)
 refine Ai .plain rfl (Av K0 rfl rfl) (fun x2 C1 M0 Q1=>?_)
 refine Ai .plain rfl (Ar [.bool false,vN,.bool false,vN] M0) (fun y2 D1 s0 R1=>?_)
 refine Af rfl<|Aa<|Aj<|Ac<|Ab (AA rfl (s0.memA (.tl (.tl .hd))))<|Ab (AA rfl (s0.memA (.tl .hd)))<|Ai .plain rfl (Ba (α:=TShare) (xs:=([a0,a1]:List TShare)) (vs:=[.agg ((cs_TShare a0)).toArray,.agg ((cs_TShare a1)).toArray]) (ds' :=(cs_TShare a0 ++ cs_TShare a1)) rfl s0 el40 rfl (e2 rfl rfl) (by kernel_rfl) rfl) (fun z2 E1 c0 U1=>?_)
 have V0:=AH (cs:=(cs_TShare a0 ++ cs_TShare a1)) (xs:=(([a0,a1]:List TShare):List TShare)) c0 L (Ax (cs:=(cs_TShare a0)) (ds:=(cs_TShare a1)) (mk_TShare a0.fN a0.fD) (Ax (cs:=(cs_TShare a1)) (ds:=[]) (mk_TShare a1.fN a1.fD) (AT _ _)))
 obtain ⟨u1,k1,h⟩:=bi h
 refine Bg (.bool u1) body116 rfl (e1 rfl) (fun w9 hw9=>share_valid_c n _ w9 (c0.hL0 hL hw9) ([a0,a1]:List TShare) (Ap (St.lend (α:=TShare) (L:=L) c0 .hd V0 hL) hw9) k1) rfl<|Ab (BG rfl)<|Aa<|MX.ifnb rfl h (fun H0 h=>?_) (fun H0 h=>?_)
 refine Au<|Aj<|dt 6 tb89_4 (fun b0 t0=>?_)
 refine Ag 0 1 b0 rfl t0 (fun _=>Ak rfl) rfl<|AC 1 3 244 b0 rfl t0 (AA rfl (c0.memA (.tl (.tl (.tl .hd))))) rfl<|AC 3 11 240 b0 rfl t0 (AA rfl (c0.memA (.tl (.tl .hd)))) rfl ?_
 obtain ⟨v1,p1,h⟩:=bi h
 refine Bu 2 15 b0 rfl .plain body95 rfl (e1 rfl) (fun w9 hw9=>share_Read_c n _ w9 (c0.hL hL hw9) a0 p1) rfl (fun A2 j2 Q0 ⟨b2,c2,hu_,b1,c1⟩=>?_)
 subst hu_
 obtain ⟨y0,V1⟩:=c0.agr Q0
 obtain ⟨x1,q1,h⟩:=bi h
 refine Bu 4 31 b0 rfl .plain body95 rfl (e1 rfl) (fun w9 hw9=>share_Read_c n _ w9 (y0.hL hL hw9) a1 q1) rfl (fun B2 k2 R0 ⟨d2,g2,hu_,d1,g1⟩=>?_)
 subst hu_
 obtain ⟨z0,C0⟩:=y0.agr R0
 obtain ⟨d0,s1,h⟩:=bi h
 have W0:=Aq b1 C0
 have X0:=Aq c1 C0
 refine Bu 5 63 b0 rfl .plain body125 rfl (e2 rfl rfl) (fun w9 hw9=>share_Ratio_Minus_c n _ w9 (z0.hL hL hw9) v1 (Ap W0 hw9) (Ap X0 hw9) x1 (Ap d1 hw9) (Ap g1 hw9) s1) rfl (fun C2 p2 U0 ⟨u0,v0,hu_,F0,G0⟩=>?_)
 subst hu_
 obtain ⟨P0,W1⟩:=z0.agr U0
 refine Bq 6 127 b0 rfl rfl .plain (Aw (news:=[.bool d0.ft.fe,u0,.bool d0.fp.fe,v0]) P0 (.tl .hd) rfl rfl rfl rfl rfl rfl (o4 rfl (AN F0) rfl (AN G0))) (fun D2 g0 D0=>?_)
 refine BC (i:=7) (rk b0) (BK (m' :=255) (sk b0) rfl .plain rfl (Bi rfl) ?_)
 refine AE (dk b0)<|Al rfl<|Am (u:=.tuple #[.agg #[.bool d0.ft.fe,u0,.bool d0.fp.fe,v0],vI 0]) E0 Tryz.func89 rfl (.cons (.many (cs:=[.bool d0.ft.fe,u0,.bool d0.fp.fe,v0]) (by kernel_rfl) rfl (g0.memA (.tl .hd))) (.cons (.tmp rfl) .nil)) rfl<|Ab (Ah rfl rfl)<|Ab (Ah rfl rfl) ?_
 obtain ⟨k0,t1,h⟩:=bi h
 have Y0:=Aq F0 D0
 have Z0:=Aq G0 D0
 refine Bg (.tuple #[.agg ((cs_TShare k0.1)).toArray,vI k0.2]) body88 rfl (e2 rfl rfl) (fun w9 hw9=>share_told_c n _ w9 (g0.hL0 hL hw9) d0 (g0.kd Y0 hw9) (g0.kd Z0 hw9) (0:Int) t1) rfl<|Ab (Ah rfl rfl)<|Ab (Ah rfl rfl)<|AJ (cs_TShare k0.1) g0 (.tl (.tl (.tl (.tl .hd)))) (onesB rfl) (fun E2 A0 X1=>?_)
 refine Af rfl<|Aa<|Al rfl<|Am hb0 Tryz.func104 rfl (.cons (.many (cs:=(cs_TShare k0.1)) (by kernel_rfl) rfl (A0.memA (.tl (.tl (.tl (.tl .hd)))))) (.cons (.tmp rfl) .nil)) rfl ?_
 cases h
 exact A0.gv
 refine Ac<|Ai .plain rfl (Ar [.bool false,vN,.bool false,vN] c0) (fun F2 F1 B0 Y1=>?_)
 refine Aa<|Ac<|Ab (AA rfl (B0.memA .hd))<|AJ [.bool false,vN,.bool false,vN] B0 (.tl (.tl .hd)) (onesB rfl) (fun G2 p0 H1=>?_)
 refine Af rfl<|Aa<|Al rfl<|Am (u:=.tuple #[.agg #[.bool false,vN,.bool false,vN],vI 20]) E0 Tryz.func89 rfl (.cons (.many (cs:=[.bool false,vN,.bool false,vN]) (by kernel_rfl) rfl (p0.memA (.tl (.tl .hd)))) (.cons (.tmp rfl) .nil)) rfl<|Ab (Ah rfl rfl)<|Ab (Ah rfl rfl) ?_
 obtain ⟨j0,j1,h⟩:=bi h
 refine Bg (.tuple #[.agg ((cs_TShare j0.1)).toArray,vI j0.2]) body88 rfl (e2 rfl rfl) (fun w9 hw9=>share_told_c n _ w9 (p0.hL0 hL hw9) (⟨(⟨false,([]:List UInt64)⟩:TLong),(⟨false,([]:List UInt64)⟩:TLong)⟩:TRatio) (Ap (Rep.nilSlice _ _) hw9) (Ap (Rep.nilSlice _ _) hw9) (20:Int) j1) rfl<|Ab (Ah rfl rfl)<|Ab (Ah rfl rfl)<|AJ (cs_TShare j0.1) p0 (.tl (.tl (.tl (.tl (.tl .hd))))) (onesB rfl) (fun q2 x0 I1=>?_)
 refine Af rfl<|Aa<|Al rfl<|Am hb0 Tryz.func104 rfl (.cons (.many (cs:=(cs_TShare j0.1)) (by kernel_rfl) rfl (x0.memA (.tl (.tl (.tl (.tl (.tl .hd))))))) (.cons (.tmp rfl) .nil)) rfl ?_
 cases h
 exact x0.gv
theorem body104:bodyB Tryz.prog 104 = true:=by kernel_rfl
def minority_sub_p (n:Nat) (a0:TShare) (a1:TShare):Option (Except Tbroken TShare):=
  (share_Sub_p n a0 a1).bind fun b0=>(minority_must_api_Share_p n b0.1 b0.2).bind fun d0=>exc d0 (fun g0=>some (.ok g0)) (fun c0=>some (.error c0))
theorem minority_sub_c (n:Nat) (L:List Nat) (w:World) (hL:∀ b ∈ L,b < w.heap.size) (a0:TShare) (a1:TShare)  {r:Except Tbroken TShare} (h:minority_sub_p n a0 a1 = some r) :
    Calls Tryz.prog 62 #[.agg ((cs_TShare a0)).toArray,.agg ((cs_TShare a1)).toArray] w (PGives w (fun (y:TShare) _ u=>u = .agg ((cs_TShare y)).toArray) (fun e=>.iface 128 (.agg #[vI e.fB])) r):=by
 unfold minority_sub_p at h
 have hS0:=Ay w
 refine BE Tryz.func62 rfl rfl rfl (fun _ cs0 hb0 hp0=>?_)
 refine Ac<|Ai .plain rfl (Av hS0 rfl rfl) (fun F0 v0 k0 A0=>?_)
 refine Ai .plain rfl (Av k0 rfl rfl) (fun G0 x0 p0 B0=>?_)
 refine Ai .plain rfl (Ar zL p0) (fun H0 y0 b0 C0=>?_)
 refine Aa<|Ac<|Ab (AA rfl (b0.memA (.tl (.tl .hd))))<|Ab (AA rfl (b0.memA (.tl .hd))) ?_
 obtain ⟨c0,t0,h⟩:=bi h
 refine Bg (.tuple #[.agg ((cs_TShare c0.1)).toArray,vI c0.2]) body104 rfl (e2 rfl rfl) (fun w9 hw9=>share_Sub_c n _ w9 (b0.hL0 hL hw9) a0 a1 t0) rfl<|Ab (Ah rfl rfl)<|Ab (Ah rfl rfl) ?_
 obtain ⟨u0,j0,h⟩:=bi h
 rcases u0 with z0 | d0
 have h:=exc_e h
 try dsimp only at h
 refine Bt (fst:=[]) (cap:=[]) .plain body60 rfl (e2 rfl rfl) (fun w9 hw9=>minority_must_api_Share_c n _ w9 (b0.hL0 hL hw9) c0.1 c0.2 j0) (fun I0 s0=>?_)
 obtain ⟨q0,D0⟩:=b0.agr s0
 cases h
 exact AP hp0 Tryz.func62 ⟨q0.ag,rfl⟩
 have h:=exc_o h
 try dsimp only at h
 refine Bg (.agg ((cs_TShare d0)).toArray) body60 rfl (e2 rfl rfl) (fun w9 hw9=>AK (minority_must_api_Share_c n _ w9 (b0.hL0 hL hw9) c0.1 c0.2 j0)) rfl<|AJ (cs_TShare d0) b0 .hd (onesB rfl) (fun J0 g0 E0=>?_)
 refine Aa<|Al rfl<|Am hb0 Tryz.func62 rfl (.cons (.many (cs:=(cs_TShare d0)) (by kernel_rfl) rfl (g0.memA .hd)) .nil) rfl ?_
 cases h
 exact ⟨g0.ag,fun w9 hw9=>okOf_in rfl⟩
def tb126_1:List (Nat × Nat × Nat):=[(0,32,4),(1,64,32),(0,128,8),(4,256,128),(10,512,320),(0,1024,4),(32,2048,1024),(0,4096,8),(128,8192,4096),(336,16384,10240),(528,32768,16896),(2047,0,32784)]
def share_Ratio_Over_p (n:Nat) (a0:TRatio) (a1:TRatio):Option TRatio:=
  (wide_Long_Times_p n a0.ft a1.fp).bind fun b0=>(wide_Long_Times_p n a0.fp a1.ft).bind fun c0=>(share_Lowest_p n b0 c0).bind fun d0=>some d0
theorem share_Ratio_Over_c (n:Nat) (L:List Nat) (w:World) (hL:∀ b ∈ L,b < w.heap.size) (a0:TRatio) {v0_1:Value} (h0_1:Rep.R w L [v0_1] a0.ft.fo) {v0_3:Value} (h0_3:Rep.R w L [v0_3] a0.fp.fo) (a1:TRatio) {v1_1:Value} (h1_1:Rep.R w L [v1_1] a1.ft.fo) {v1_3:Value} (h1_3:Rep.R w L [v1_3] a1.fp.fo)  {r:TRatio} (h:share_Ratio_Over_p n a0 a1 = some r) :
    Calls Tryz.prog 126 #[.agg #[.bool a0.ft.fe,v0_1,.bool a0.fp.fe,v0_3],.agg #[.bool a1.ft.fe,v1_1,.bool a1.fp.fe,v1_3]] w (Gives w fun w' u=>∃ v0_1 v0_3:Value,u = .agg #[.bool r.ft.fe,v0_1,.bool r.fp.fe,v0_3]∧Rep.R w' L [v0_1] r.ft.fo∧Rep.R w' L [v0_3] r.fp.fo):=by
 unfold share_Ratio_Over_p at h
 have hS0:=Ay w
 refine AD Tryz.func126 rfl rfl rfl (fun _ cs0 hb0=>?_)
 refine Ac<|Ai .plain rfl (Av hS0 rfl rfl) (fun p1 R0 x0 W0=>?_)
 refine Ai .plain rfl (Av x0 rfl rfl) (fun q1 U0 y0 X0=>?_)
 refine Ai .plain rfl (Ar [.bool false,vN,.bool false,vN] y0) (fun s1 V0 c0 Y0=>?_)
 refine Aa<|Aj<|dt 11 tb126_1 (fun b0 d0=>?_)
 refine Ag 0 1 b0 rfl d0 (fun _=>AX 0 rfl) rfl<|AC 1 3 3600 b0 rfl d0 (Bc (cs:=[.bool a0.ft.fe,v0_1]) (by kernel_rfl) rfl (mem_part (c0.memA (.tl (.tl .hd))) 0 2)) rfl<|Ag 2 7 b0 rfl d0 (fun _=>AX 2 rfl) rfl<|AC 3 15 3600 b0 rfl d0 (Bc (cs:=[.bool a1.fp.fe,v1_3]) (by kernel_rfl) rfl (mem_part (c0.memA (.tl .hd)) 2 2)) rfl<|Ag 5 47 b0 rfl d0 (fun _=>AX 2 rfl) rfl<|AC 6 111 3584 b0 rfl d0 (Bc (cs:=[.bool a0.fp.fe,v0_3]) (by kernel_rfl) rfl (mem_part (c0.memA (.tl (.tl .hd))) 2 2)) rfl<|Ag 7 239 b0 rfl d0 (fun _=>AX 0 rfl) rfl<|AC 8 495 3584 b0 rfl d0 (Bc (cs:=[.bool a1.ft.fe,v1_1]) (by kernel_rfl) rfl (mem_part (c0.memA (.tl .hd)) 0 2)) rfl ?_
 obtain ⟨P0,J0,h⟩:=bi h
 refine Bu 4 511 b0 rfl .plain body117 rfl (e2 rfl rfl) (fun w9 hw9=>wide_Long_Times_c n _ w9 (c0.hL hL hw9) a0.ft (c0.km h0_1 hw9) a1.fp (c0.km h1_3 hw9) J0) rfl (fun t1 g1 B0 ⟨c1,hu_,H0⟩=>?_)
 subst hu_
 obtain ⟨g0,Z0⟩:=c0.agr B0
 obtain ⟨Q0,K0,h⟩:=bi h
 refine Bu 9 1023 b0 rfl .plain body117 rfl (e2 rfl rfl) (fun w9 hw9=>wide_Long_Times_c n _ w9 (g0.hL hL hw9) a0.fp (g0.km h0_3 hw9) a1.ft (g0.km h1_1 hw9) K0) rfl (fun u1 j1 C0 ⟨d1,hu_,I0⟩=>?_)
 subst hu_
 obtain ⟨s0,A0⟩:=g0.agr C0
 obtain ⟨k0,M0,h⟩:=bi h
 have E0:=Aq H0 A0
 refine Bu 10 2047 b0 rfl .plain body113 rfl (e2 rfl rfl) (fun w9 hw9=>share_Lowest_c n _ w9 (s0.hL hL hw9) P0 (Ap E0 hw9) Q0 (Ap I0 hw9) M0) rfl (fun v1 k1 D0 ⟨p0,q0,hu_,u0,v0⟩=>?_)
 subst hu_
 obtain ⟨z0,b1⟩:=s0.agr D0
 refine Bq 11 4095 b0 rfl rfl .plain (Aw (news:=[.bool k0.ft.fe,p0,.bool k0.fp.fe,q0]) z0 .hd rfl rfl rfl rfl rfl rfl (o4 rfl (AN u0) rfl (AN v0))) (fun x1 j0 t0=>?_)
 refine AE (dk b0)<|Al rfl<|Am hb0 Tryz.func126 rfl (.cons (.many (cs:=[.bool k0.ft.fe,p0,.bool k0.fp.fe,q0]) (by kernel_rfl) rfl (j0.memA .hd)) .nil) rfl ?_
 cases h
 have F0:=Aq u0 t0
 have G0:=Aq v0 t0
 exact ⟨j0.ag,fun w9 hw9=>⟨p0,q0,rfl,j0.kd F0 hw9,j0.kd G0 hw9⟩⟩
theorem body126:bodyB Tryz.prog 126 = true:=by kernel_rfl
def share_Div_p (n:Nat) (a0:TShare) (a1:TShare):Option (TShare × Int):=
  (share_valid_p n ([a0,a1]:List TShare)).bind fun s0=>(if s0 = true then (if a1.fN = ((0:UInt64),(0:UInt64),(0:UInt64),(0:UInt64),(0:UInt64),(0:UInt64),(0:UInt64),(0:UInt64)) then some ((⟨((0:UInt64),(0:UInt64),(0:UInt64),(0:UInt64),(0:UInt64),(0:UInt64),(0:UInt64),(0:UInt64)),((0:UInt64),(0:UInt64),(0:UInt64),(0:UInt64),(0:UInt64),(0:UInt64),(0:UInt64),(0:UInt64))⟩:TShare),(7:Int)) else (share_valid_p n ([a0,a1]:List TShare)).bind fun t0=>(if t0 = true then (share_Read_p n a0).bind fun u0=>(share_Read_p n a1).bind fun v0=>(share_Ratio_Over_p n u0 v0).bind fun x0=>(share_told_p n x0 (0:Int)).bind fun b0=>some (b0.1,b0.2) else (share_told_p n (⟨(⟨false,([]:List UInt64)⟩:TLong),(⟨false,([]:List UInt64)⟩:TLong)⟩:TRatio) (20:Int)).bind fun c0=>some (c0.1,c0.2))) else (share_valid_p n ([a0,a1]:List TShare)).bind fun j0=>(if j0 = true then (share_Read_p n a0).bind fun k0=>(share_Read_p n a1).bind fun p0=>(share_Ratio_Over_p n k0 p0).bind fun q0=>(share_told_p n q0 (0:Int)).bind fun d0=>some (d0.1,d0.2) else (share_told_p n (⟨(⟨false,([]:List UInt64)⟩:TLong),(⟨false,([]:List UInt64)⟩:TLong)⟩:TRatio) (20:Int)).bind fun g0=>some (g0.1,g0.2)))
theorem share_Div_c (n:Nat) (L:List Nat) (w:World) (hL:∀ b ∈ L,b < w.heap.size) (a0:TShare) (a1:TShare)  {r:TShare × Int} (h:share_Div_p n a0 a1 = some r) :
    Calls Tryz.prog 105 #[.agg ((cs_TShare a0)).toArray,.agg ((cs_TShare a1)).toArray] w (Gives w fun _ u=>u = .tuple #[.agg ((cs_TShare r.1)).toArray,vI r.2]):=by
 unfold share_Div_p at h
 have hS0:=Ay w
 refine AD Tryz.func105 rfl rfl rfl (fun _ cs0 hb0=>?_)
 refine Ac<|Ai .plain rfl (Av hS0 rfl rfl) (fun C4 Y2 y1 B3=>?_)
 refine Ai .plain rfl (Av y1 rfl rfl) (fun M4 b3 B1 G3=>?_)
 refine Ai .plain rfl (Ar zL B1) (fun X4 d3 B0 M3=>?_)
 refine Af rfl<|Aa<|Aj<|Ac<|Ab (AA rfl (B0.memA (.tl (.tl .hd))))<|Ab (AA rfl (B0.memA (.tl .hd)))<|Ai .plain rfl (Ba (α:=TShare) (xs:=([a0,a1]:List TShare)) (vs:=[.agg ((cs_TShare a0)).toArray,.agg ((cs_TShare a1)).toArray]) (ds' :=(cs_TShare a0 ++ cs_TShare a1)) rfl B0 el40 rfl (e2 rfl rfl) (by kernel_rfl) rfl) (fun Y4 g3 b0 P3=>?_)
 have Q1:=AH (cs:=(cs_TShare a0 ++ cs_TShare a1)) (xs:=(([a0,a1]:List TShare):List TShare)) b0 L (Ax (cs:=(cs_TShare a0)) (ds:=(cs_TShare a1)) (mk_TShare a0.fN a0.fD) (Ax (cs:=(cs_TShare a1)) (ds:=[]) (mk_TShare a1.fN a1.fD) (AT _ _)))
 obtain ⟨M2,D2,h⟩:=bi h
 refine Bg (.bool M2) body116 rfl (e1 rfl) (fun w9 hw9=>share_valid_c n _ w9 (b0.hL0 hL hw9) ([a0,a1]:List TShare) (Ap (St.lend (α:=TShare) (L:=L) b0 .hd Q1 hL) hw9) D2) rfl<|Ae rfl<|RG.ifb (s:=10) rfl h (fun u1 h=>?_) (fun u1 h=>?_)
 refine RG.fg 0 rfl<|AS (Bc (cs:=(cs_A50 a1.fN)) (by kernel_rfl) rfl (mem_part (b0.memA (.tl (.tl .hd))) 0 8))<|AS (AM (vs:=[]) (u:=.agg zQ) evs_nil (fun w9=>by kernel_rfl))<|AS (FV.eqlV (v:=.agg ((cs_A50 a1.fN)).toArray) (u:=.agg zQ) rfl rfl (eqlD_51 a1.fN ((0:UInt64),(0:UInt64),(0:UInt64),(0:UInt64),(0:UInt64),(0:UInt64),(0:UInt64),(0:UInt64))))<|BI rfl rfl<|Aa<|AV rfl h (fun v1 h=>?_) (fun v1 h=>?_)
 refine Ac<|Ab (AM (vs:=[]) (u:=.agg zM) evs_nil (fun w9=>by kernel_rfl))<|AJ zL b0 (.tl .hd) (onesB rfl) (fun Z4 W0 Q3=>?_)
 refine Af rfl<|Aa<|Al rfl<|Am hb0 Tryz.func105 rfl (.cons (.many (cs:=zL) (by kernel_rfl) rfl (W0.memA (.tl .hd))) (.cons (.tmp rfl) .nil)) rfl ?_
 cases h
 exact W0.gv
 refine Au<|Ac<|Ab (AA rfl (b0.memA (.tl (.tl (.tl .hd)))))<|Ab (AA rfl (b0.memA (.tl (.tl .hd))))<|Bj (fst:=[]) (cap:=[]) (vs:=[.agg ((cs_TShare a0)).toArray,.agg ((cs_TShare a1)).toArray,.func (.func 126) #[] #[]]) .plain body89 Tryz.func89 rfl rfl rfl rfl (e3 rfl rfl rfl) rfl (fun t3 j1 b4=>?_)
 refine Ac<|Ai .plain rfl (Av b0 rfl rfl) (fun b5 j3 D1 R3=>?_)
 refine Ai .plain rfl (Av D1 rfl rfl) (fun c5 k3 E1 U3=>?_)
 refine Ai .plain rfl (Ar [.bool false,vN,.bool false,vN] E1) (fun d5 p3 C0 V3=>?_)
 refine Af rfl<|Aa<|Aj<|Ac<|Ab (AA rfl (C0.memA (.tl (.tl .hd))))<|Ab (AA rfl (C0.memA (.tl .hd)))<|Ai .plain rfl (Ba (α:=TShare) (xs:=([a0,a1]:List TShare)) (vs:=[.agg ((cs_TShare a0)).toArray,.agg ((cs_TShare a1)).toArray]) (ds' :=(cs_TShare a0 ++ cs_TShare a1)) rfl C0 el40 rfl (e2 rfl rfl) (by kernel_rfl) rfl) (fun g5 q3 j0 W3=>?_)
 have R1:=AH (cs:=(cs_TShare a0 ++ cs_TShare a1)) (xs:=(([a0,a1]:List TShare):List TShare)) j0 L (Ax (cs:=(cs_TShare a0)) (ds:=(cs_TShare a1)) (mk_TShare a0.fN a0.fD) (Ax (cs:=(cs_TShare a1)) (ds:=[]) (mk_TShare a1.fN a1.fD) (AT _ _)))
 obtain ⟨P2,E2,h⟩:=bi h
 refine Bg (.bool P2) body116 rfl (e1 rfl) (fun w9 hw9=>share_valid_c n _ w9 (j0.hL0 hL hw9) ([a0,a1]:List TShare) (Ap (St.lend (α:=TShare) (L:=L) j0 .hd R1 hL) hw9) E2) rfl<|Ab (BG rfl)<|Aa<|MX.ifnb rfl h (fun x1 h=>?_) (fun x1 h=>?_)
 refine Au<|Aj<|dt 6 tb89_4 (fun d0 E0=>?_)
 refine Ag 0 1 d0 rfl E0 (fun _=>Ak rfl) rfl<|AC 1 3 244 d0 rfl E0 (AA rfl (j0.memA (.tl (.tl (.tl .hd))))) rfl<|AC 3 11 240 d0 rfl E0 (AA rfl (j0.memA (.tl (.tl .hd)))) rfl ?_
 obtain ⟨Q2,F2,h⟩:=bi h
 refine Bu 2 15 d0 rfl .plain body95 rfl (e1 rfl) (fun w9 hw9=>share_Read_c n _ w9 (j0.hL hL hw9) a0 F2) rfl (fun j5 x4 J1 ⟨k4,p4,hu_,p2,q2⟩=>?_)
 subst hu_
 obtain ⟨X0,X3⟩:=j0.agr J1
 obtain ⟨R2,G2,h⟩:=bi h
 refine Bu 4 31 d0 rfl .plain body95 rfl (e1 rfl) (fun w9 hw9=>share_Read_c n _ w9 (X0.hL hL hw9) a1 G2) rfl (fun k5 y4 K1 ⟨q4,s4,hu_,s2,t2⟩=>?_)
 subst hu_
 obtain ⟨Y0,c1⟩:=X0.agr K1
 obtain ⟨p0,H2,h⟩:=bi h
 have b2:=Aq p2 c1
 have c2:=Aq q2 c1
 refine Bu 5 63 d0 rfl .plain body126 rfl (e2 rfl rfl) (fun w9 hw9=>share_Ratio_Over_c n _ w9 (Y0.hL hL hw9) Q2 (Ap b2 hw9) (Ap c2 hw9) R2 (Ap s2 hw9) (Ap t2 hw9) H2) rfl (fun p5 z4 M1 ⟨H0,I0,hu_,q1,s1⟩=>?_)
 subst hu_
 obtain ⟨F1,Y3⟩:=Y0.agr M1
 refine Bq 6 127 d0 rfl rfl .plain (Aw (news:=[.bool p0.ft.fe,H0,.bool p0.fp.fe,I0]) F1 (.tl .hd) rfl rfl rfl rfl rfl rfl (o4 rfl (AN q1) rfl (AN s1))) (fun q5 s0 d1=>?_)
 refine BC (i:=7) (rk d0) (BK (m' :=255) (sk d0) rfl .plain rfl (Bi rfl) ?_)
 refine AE (dk d0)<|Al rfl<|Am (u:=.tuple #[.agg #[.bool p0.ft.fe,H0,.bool p0.fp.fe,I0],vI 0]) j1 Tryz.func89 rfl (.cons (.many (cs:=[.bool p0.ft.fe,H0,.bool p0.fp.fe,I0]) (by kernel_rfl) rfl (s0.memA (.tl .hd))) (.cons (.tmp rfl) .nil)) rfl<|Ab (Ah rfl rfl)<|Ab (Ah rfl rfl) ?_
 obtain ⟨t0,u2,h⟩:=bi h
 have U1:=Aq q1 d1
 have V1:=Aq s1 d1
 refine Bg (.tuple #[.agg ((cs_TShare t0.1)).toArray,vI t0.2]) body88 rfl (e2 rfl rfl) (fun w9 hw9=>share_told_c n _ w9 (s0.hL0 hL hw9) p0 (s0.kd U1 hw9) (s0.kd V1 hw9) (0:Int) u2) rfl<|Ab (Ah rfl rfl)<|Ab (Ah rfl rfl)<|AJ (cs_TShare t0.1) s0 (.tl (.tl (.tl (.tl (.tl .hd))))) (onesB rfl) (fun A4 J0 u3=>?_)
 refine Af rfl<|Aa<|Al rfl<|Am hb0 Tryz.func105 rfl (.cons (.many (cs:=(cs_TShare t0.1)) (by kernel_rfl) rfl (J0.memA (.tl (.tl (.tl (.tl (.tl .hd))))))) (.cons (.tmp rfl) .nil)) rfl ?_
 cases h
 exact J0.gv
 refine Ac<|Ai .plain rfl (Ar [.bool false,vN,.bool false,vN] j0) (fun B4 U2 K0 v3=>?_)
 refine Aa<|Ac<|Ab (AA rfl (K0.memA .hd))<|AJ [.bool false,vN,.bool false,vN] K0 (.tl (.tl .hd)) (onesB rfl) (fun D4 y0 x3=>?_)
 refine Af rfl<|Aa<|Al rfl<|Am (u:=.tuple #[.agg #[.bool false,vN,.bool false,vN],vI 20]) j1 Tryz.func89 rfl (.cons (.many (cs:=[.bool false,vN,.bool false,vN]) (by kernel_rfl) rfl (y0.memA (.tl (.tl .hd)))) (.cons (.tmp rfl) .nil)) rfl<|Ab (Ah rfl rfl)<|Ab (Ah rfl rfl) ?_
 obtain ⟨u0,v2,h⟩:=bi h
 refine Bg (.tuple #[.agg ((cs_TShare u0.1)).toArray,vI u0.2]) body88 rfl (e2 rfl rfl) (fun w9 hw9=>share_told_c n _ w9 (y0.hL0 hL hw9) (⟨(⟨false,([]:List UInt64)⟩:TLong),(⟨false,([]:List UInt64)⟩:TLong)⟩:TRatio) (Ap (Rep.nilSlice _ _) hw9) (Ap (Rep.nilSlice _ _) hw9) (20:Int) v2) rfl<|Ab (Ah rfl rfl)<|Ab (Ah rfl rfl)<|AJ (cs_TShare u0.1) y0 (.tl (.tl (.tl (.tl (.tl (.tl .hd)))))) (onesB rfl) (fun E4 M0 y3=>?_)
 refine Af rfl<|Aa<|Al rfl<|Am hb0 Tryz.func105 rfl (.cons (.many (cs:=(cs_TShare u0.1)) (by kernel_rfl) rfl (M0.memA (.tl (.tl (.tl (.tl (.tl (.tl .hd)))))))) (.cons (.tmp rfl) .nil)) rfl ?_
 cases h
 exact M0.gv
 refine AI<|AI<|AI<|AI<|RG.pf rfl rfl<|Aa<|BB rfl<|Au<|Ac<|Ab (AA rfl (b0.memA (.tl (.tl (.tl .hd)))))<|Ab (AA rfl (b0.memA (.tl (.tl .hd))))<|Bj (fst:=[]) (cap:=[]) (vs:=[.agg ((cs_TShare a0)).toArray,.agg ((cs_TShare a1)).toArray,.func (.func 126) #[] #[]]) .plain body89 Tryz.func89 rfl rfl rfl rfl (e3 rfl rfl rfl) rfl (fun s3 g1 Z3=>?_)
 refine Ac<|Ai .plain rfl (Av b0 rfl rfl) (fun F4 V2 z1 z3=>?_)
 refine Ai .plain rfl (Av z1 rfl rfl) (fun G4 W2 A1 A3=>?_)
 refine Ai .plain rfl (Ar [.bool false,vN,.bool false,vN] A1) (fun H4 X2 z0 C3=>?_)
 refine Af rfl<|Aa<|Aj<|Ac<|Ab (AA rfl (z0.memA (.tl (.tl .hd))))<|Ab (AA rfl (z0.memA (.tl .hd)))<|Ai .plain rfl (Ba (α:=TShare) (xs:=([a0,a1]:List TShare)) (vs:=[.agg ((cs_TShare a0)).toArray,.agg ((cs_TShare a1)).toArray]) (ds' :=(cs_TShare a0 ++ cs_TShare a1)) rfl z0 el40 rfl (e2 rfl rfl) (by kernel_rfl) rfl) (fun I4 Z2 g0 D3=>?_)
 have P1:=AH (cs:=(cs_TShare a0 ++ cs_TShare a1)) (xs:=(([a0,a1]:List TShare):List TShare)) g0 L (Ax (cs:=(cs_TShare a0)) (ds:=(cs_TShare a1)) (mk_TShare a0.fN a0.fD) (Ax (cs:=(cs_TShare a1)) (ds:=[]) (mk_TShare a1.fN a1.fD) (AT _ _)))
 obtain ⟨I2,x2,h⟩:=bi h
 refine Bg (.bool I2) body116 rfl (e1 rfl) (fun w9 hw9=>share_valid_c n _ w9 (g0.hL0 hL hw9) ([a0,a1]:List TShare) (Ap (St.lend (α:=TShare) (L:=L) g0 .hd P1 hL) hw9) x2) rfl<|Ab (BG rfl)<|Aa<|MX.ifnb rfl h (fun t1 h=>?_) (fun t1 h=>?_)
 refine Au<|Aj<|dt 6 tb89_4 (fun c0 D0=>?_)
 refine Ag 0 1 c0 rfl D0 (fun _=>Ak rfl) rfl<|AC 1 3 244 c0 rfl D0 (AA rfl (g0.memA (.tl (.tl (.tl .hd))))) rfl<|AC 3 11 240 c0 rfl D0 (AA rfl (g0.memA (.tl (.tl .hd)))) rfl ?_
 obtain ⟨J2,y2,h⟩:=bi h
 refine Bu 2 15 c0 rfl .plain body95 rfl (e1 rfl) (fun w9 hw9=>share_Read_c n _ w9 (g0.hL hL hw9) a0 y2) rfl (fun J4 t4 G1 ⟨c4,d4,hu_,d2,g2⟩=>?_)
 subst hu_
 obtain ⟨P0,E3⟩:=g0.agr G1
 obtain ⟨K2,z2,h⟩:=bi h
 refine Bu 4 31 c0 rfl .plain body95 rfl (e1 rfl) (fun w9 hw9=>share_Read_c n _ w9 (P0.hL hL hw9) a1 z2) rfl (fun K4 u4 H1 ⟨g4,j4,hu_,j2,k2⟩=>?_)
 subst hu_
 obtain ⟨Q0,Z0⟩:=P0.agr H1
 obtain ⟨k0,A2,h⟩:=bi h
 have W1:=Aq d2 Z0
 have X1:=Aq g2 Z0
 refine Bu 5 63 c0 rfl .plain body126 rfl (e2 rfl rfl) (fun w9 hw9=>share_Ratio_Over_c n _ w9 (Q0.hL hL hw9) J2 (Ap W1 hw9) (Ap X1 hw9) K2 (Ap j2 hw9) (Ap k2 hw9) A2) rfl (fun P4 v4 I1 ⟨F0,G0,hu_,k1,p1⟩=>?_)
 subst hu_
 obtain ⟨C1,F3⟩:=Q0.agr I1
 refine Bq 6 127 c0 rfl rfl .plain (Aw (news:=[.bool k0.ft.fe,F0,.bool k0.fp.fe,G0]) C1 (.tl .hd) rfl rfl rfl rfl rfl rfl (o4 rfl (AN k1) rfl (AN p1))) (fun Q4 q0 b1=>?_)
 refine BC (i:=7) (rk c0) (BK (m' :=255) (sk c0) rfl .plain rfl (Bi rfl) ?_)
 refine AE (dk c0)<|Al rfl<|Am (u:=.tuple #[.agg #[.bool k0.ft.fe,F0,.bool k0.fp.fe,G0],vI 0]) g1 Tryz.func89 rfl (.cons (.many (cs:=[.bool k0.ft.fe,F0,.bool k0.fp.fe,G0]) (by kernel_rfl) rfl (q0.memA (.tl .hd))) (.cons (.tmp rfl) .nil)) rfl<|Ab (Ah rfl rfl)<|Ab (Ah rfl rfl) ?_
 obtain ⟨v0,B2,h⟩:=bi h
 have Y1:=Aq k1 b1
 have Z1:=Aq p1 b1
 refine Bg (.tuple #[.agg ((cs_TShare v0.1)).toArray,vI v0.2]) body88 rfl (e2 rfl rfl) (fun w9 hw9=>share_told_c n _ w9 (q0.hL0 hL hw9) k0 (q0.kd Y1 hw9) (q0.kd Z1 hw9) (0:Int) B2) rfl<|Ab (Ah rfl rfl)<|Ab (Ah rfl rfl)<|AJ (cs_TShare v0.1) q0 (.tl (.tl (.tl (.tl (.tl .hd))))) (onesB rfl) (fun R4 R0 H3=>?_)
 refine Af rfl<|Aa<|Al rfl<|Am hb0 Tryz.func105 rfl (.cons (.many (cs:=(cs_TShare v0.1)) (by kernel_rfl) rfl (R0.memA (.tl (.tl (.tl (.tl (.tl .hd))))))) (.cons (.tmp rfl) .nil)) rfl ?_
 cases h
 exact R0.gv
 refine Ac<|Ai .plain rfl (Ar [.bool false,vN,.bool false,vN] g0) (fun U4 c3 U0 I3=>?_)
 refine Aa<|Ac<|Ab (AA rfl (U0.memA .hd))<|AJ [.bool false,vN,.bool false,vN] U0 (.tl (.tl .hd)) (onesB rfl) (fun V4 A0 J3=>?_)
 refine Af rfl<|Aa<|Al rfl<|Am (u:=.tuple #[.agg #[.bool false,vN,.bool false,vN],vI 20]) g1 Tryz.func89 rfl (.cons (.many (cs:=[.bool false,vN,.bool false,vN]) (by kernel_rfl) rfl (A0.memA (.tl (.tl .hd)))) (.cons (.tmp rfl) .nil)) rfl<|Ab (Ah rfl rfl)<|Ab (Ah rfl rfl) ?_
 obtain ⟨x0,C2,h⟩:=bi h
 refine Bg (.tuple #[.agg ((cs_TShare x0.1)).toArray,vI x0.2]) body88 rfl (e2 rfl rfl) (fun w9 hw9=>share_told_c n _ w9 (A0.hL0 hL hw9) (⟨(⟨false,([]:List UInt64)⟩:TLong),(⟨false,([]:List UInt64)⟩:TLong)⟩:TRatio) (Ap (Rep.nilSlice _ _) hw9) (Ap (Rep.nilSlice _ _) hw9) (20:Int) C2) rfl<|Ab (Ah rfl rfl)<|Ab (Ah rfl rfl)<|AJ (cs_TShare x0.1) A0 (.tl (.tl (.tl (.tl (.tl (.tl .hd)))))) (onesB rfl) (fun W4 V0 K3=>?_)
 refine Af rfl<|Aa<|Al rfl<|Am hb0 Tryz.func105 rfl (.cons (.many (cs:=(cs_TShare x0.1)) (by kernel_rfl) rfl (V0.memA (.tl (.tl (.tl (.tl (.tl (.tl .hd)))))))) (.cons (.tmp rfl) .nil)) rfl ?_
 cases h
 exact V0.gv
theorem body105:bodyB Tryz.prog 105 = true:=by kernel_rfl
def minority_div_p (n:Nat) (a0:TShare) (a1:TShare):Option (Except Tbroken TShare):=
  (share_Div_p n a0 a1).bind fun b0=>(minority_must_api_Share_p n b0.1 b0.2).bind fun d0=>exc d0 (fun g0=>some (.ok g0)) (fun c0=>some (.error c0))
theorem minority_div_c (n:Nat) (L:List Nat) (w:World) (hL:∀ b ∈ L,b < w.heap.size) (a0:TShare) (a1:TShare)  {r:Except Tbroken TShare} (h:minority_div_p n a0 a1 = some r) :
    Calls Tryz.prog 64 #[.agg ((cs_TShare a0)).toArray,.agg ((cs_TShare a1)).toArray] w (PGives w (fun (y:TShare) _ u=>u = .agg ((cs_TShare y)).toArray) (fun e=>.iface 128 (.agg #[vI e.fB])) r):=by
 unfold minority_div_p at h
 have hS0:=Ay w
 refine BE Tryz.func64 rfl rfl rfl (fun _ cs0 hb0 hp0=>?_)
 refine Ac<|Ai .plain rfl (Av hS0 rfl rfl) (fun F0 v0 k0 A0=>?_)
 refine Ai .plain rfl (Av k0 rfl rfl) (fun G0 x0 p0 B0=>?_)
 refine Ai .plain rfl (Ar zL p0) (fun H0 y0 b0 C0=>?_)
 refine Aa<|Ac<|Ab (AA rfl (b0.memA (.tl (.tl .hd))))<|Ab (AA rfl (b0.memA (.tl .hd))) ?_
 obtain ⟨c0,t0,h⟩:=bi h
 refine Bg (.tuple #[.agg ((cs_TShare c0.1)).toArray,vI c0.2]) body105 rfl (e2 rfl rfl) (fun w9 hw9=>share_Div_c n _ w9 (b0.hL0 hL hw9) a0 a1 t0) rfl<|Ab (Ah rfl rfl)<|Ab (Ah rfl rfl) ?_
 obtain ⟨u0,j0,h⟩:=bi h
 rcases u0 with z0 | d0
 have h:=exc_e h
 try dsimp only at h
 refine Bt (fst:=[]) (cap:=[]) .plain body60 rfl (e2 rfl rfl) (fun w9 hw9=>minority_must_api_Share_c n _ w9 (b0.hL0 hL hw9) c0.1 c0.2 j0) (fun I0 s0=>?_)
 obtain ⟨q0,D0⟩:=b0.agr s0
 cases h
 exact AP hp0 Tryz.func64 ⟨q0.ag,rfl⟩
 have h:=exc_o h
 try dsimp only at h
 refine Bg (.agg ((cs_TShare d0)).toArray) body60 rfl (e2 rfl rfl) (fun w9 hw9=>AK (minority_must_api_Share_c n _ w9 (b0.hL0 hL hw9) c0.1 c0.2 j0)) rfl<|AJ (cs_TShare d0) b0 .hd (onesB rfl) (fun J0 g0 E0=>?_)
 refine Aa<|Al rfl<|Am hb0 Tryz.func64 rfl (.cons (.many (cs:=(cs_TShare d0)) (by kernel_rfl) rfl (g0.memA .hd)) .nil) rfl ?_
 cases h
 exact ⟨g0.ag,fun w9 hw9=>okOf_in rfl⟩
def share_Add_p (n:Nat) (a0:TShare) (a1:TShare):Option (TShare × Int):=
  (share_valid_p n ([a0,a1]:List TShare)).bind fun d0=>(if d0 = true then (share_Read_p n a0).bind fun g0=>(share_Read_p n a1).bind fun j0=>(share_Ratio_Plus_p n g0 j0).bind fun k0=>(share_told_p n k0 (0:Int)).bind fun c0=>some (c0.1,c0.2) else (share_told_p n (⟨(⟨false,([]:List UInt64)⟩:TLong),(⟨false,([]:List UInt64)⟩:TLong)⟩:TRatio) (20:Int)).bind fun b0=>some (b0.1,b0.2))
theorem share_Add_c (n:Nat) (L:List Nat) (w:World) (hL:∀ b ∈ L,b < w.heap.size) (a0:TShare) (a1:TShare)  {r:TShare × Int} (h:share_Add_p n a0 a1 = some r) :
    Calls Tryz.prog 43 #[.agg ((cs_TShare a0)).toArray,.agg ((cs_TShare a1)).toArray] w (Gives w fun _ u=>u = .tuple #[.agg ((cs_TShare r.1)).toArray,vI r.2]):=by
 unfold share_Add_p at h
 have hS0:=Ay w
 refine AD Tryz.func43 rfl rfl rfl (fun _ cs0 hb0=>?_)
 refine Ac<|Ai .plain rfl (Av hS0 rfl rfl) (fun s2 y1 I0 J1=>?_)
 refine Ai .plain rfl (Av I0 rfl rfl) (fun t2 z1 J0 K1=>?_)
 refine Ai .plain rfl (Ar zL J0) (fun u2 A1 q0 M1=>?_)
 refine Af rfl<|Aa<|Ac<|Ab (AA rfl (q0.memA (.tl (.tl .hd))))<|Ab (AA rfl (q0.memA (.tl .hd)))<|Bj (fst:=[]) (cap:=[]) (vs:=[.agg ((cs_TShare a0)).toArray,.agg ((cs_TShare a1)).toArray,.func (.func 90) #[] #[]]) .plain body89 Tryz.func89 rfl rfl rfl rfl (e3 rfl rfl rfl) rfl (fun G1 E0 Z1=>?_)
 refine Ac<|Ai .plain rfl (Av q0 rfl rfl) (fun v2 B1 K0 P1=>?_)
 refine Ai .plain rfl (Av K0 rfl rfl) (fun x2 C1 M0 Q1=>?_)
 refine Ai .plain rfl (Ar [.bool false,vN,.bool false,vN] M0) (fun y2 D1 s0 R1=>?_)
 refine Af rfl<|Aa<|Aj<|Ac<|Ab (AA rfl (s0.memA (.tl (.tl .hd))))<|Ab (AA rfl (s0.memA (.tl .hd)))<|Ai .plain rfl (Ba (α:=TShare) (xs:=([a0,a1]:List TShare)) (vs:=[.agg ((cs_TShare a0)).toArray,.agg ((cs_TShare a1)).toArray]) (ds' :=(cs_TShare a0 ++ cs_TShare a1)) rfl s0 el40 rfl (e2 rfl rfl) (by kernel_rfl) rfl) (fun z2 E1 c0 U1=>?_)
 have V0:=AH (cs:=(cs_TShare a0 ++ cs_TShare a1)) (xs:=(([a0,a1]:List TShare):List TShare)) c0 L (Ax (cs:=(cs_TShare a0)) (ds:=(cs_TShare a1)) (mk_TShare a0.fN a0.fD) (Ax (cs:=(cs_TShare a1)) (ds:=[]) (mk_TShare a1.fN a1.fD) (AT _ _)))
 obtain ⟨u1,k1,h⟩:=bi h
 refine Bg (.bool u1) body116 rfl (e1 rfl) (fun w9 hw9=>share_valid_c n _ w9 (c0.hL0 hL hw9) ([a0,a1]:List TShare) (Ap (St.lend (α:=TShare) (L:=L) c0 .hd V0 hL) hw9) k1) rfl<|Ab (BG rfl)<|Aa<|MX.ifnb rfl h (fun H0 h=>?_) (fun H0 h=>?_)
 refine Au<|Aj<|dt 6 tb89_4 (fun b0 t0=>?_)
 refine Ag 0 1 b0 rfl t0 (fun _=>Ak rfl) rfl<|AC 1 3 244 b0 rfl t0 (AA rfl (c0.memA (.tl (.tl (.tl .hd))))) rfl<|AC 3 11 240 b0 rfl t0 (AA rfl (c0.memA (.tl (.tl .hd)))) rfl ?_
 obtain ⟨v1,p1,h⟩:=bi h
 refine Bu 2 15 b0 rfl .plain body95 rfl (e1 rfl) (fun w9 hw9=>share_Read_c n _ w9 (c0.hL hL hw9) a0 p1) rfl (fun A2 j2 Q0 ⟨b2,c2,hu_,b1,c1⟩=>?_)
 subst hu_
 obtain ⟨y0,V1⟩:=c0.agr Q0
 obtain ⟨x1,q1,h⟩:=bi h
 refine Bu 4 31 b0 rfl .plain body95 rfl (e1 rfl) (fun w9 hw9=>share_Read_c n _ w9 (y0.hL hL hw9) a1 q1) rfl (fun B2 k2 R0 ⟨d2,g2,hu_,d1,g1⟩=>?_)
 subst hu_
 obtain ⟨z0,C0⟩:=y0.agr R0
 obtain ⟨d0,s1,h⟩:=bi h
 have W0:=Aq b1 C0
 have X0:=Aq c1 C0
 refine Bu 5 63 b0 rfl .plain body90 rfl (e2 rfl rfl) (fun w9 hw9=>share_Ratio_Plus_c n _ w9 (z0.hL hL hw9) v1 (Ap W0 hw9) (Ap X0 hw9) x1 (Ap d1 hw9) (Ap g1 hw9) s1) rfl (fun C2 p2 U0 ⟨u0,v0,hu_,F0,G0⟩=>?_)
 subst hu_
 obtain ⟨P0,W1⟩:=z0.agr U0
 refine Bq 6 127 b0 rfl rfl .plain (Aw (news:=[.bool d0.ft.fe,u0,.bool d0.fp.fe,v0]) P0 (.tl .hd) rfl rfl rfl rfl rfl rfl (o4 rfl (AN F0) rfl (AN G0))) (fun D2 g0 D0=>?_)
 refine BC (i:=7) (rk b0) (BK (m' :=255) (sk b0) rfl .plain rfl (Bi rfl) ?_)
 refine AE (dk b0)<|Al rfl<|Am (u:=.tuple #[.agg #[.bool d0.ft.fe,u0,.bool d0.fp.fe,v0],vI 0]) E0 Tryz.func89 rfl (.cons (.many (cs:=[.bool d0.ft.fe,u0,.bool d0.fp.fe,v0]) (by kernel_rfl) rfl (g0.memA (.tl .hd))) (.cons (.tmp rfl) .nil)) rfl<|Ab (Ah rfl rfl)<|Ab (Ah rfl rfl) ?_
 obtain ⟨k0,t1,h⟩:=bi h
 have Y0:=Aq F0 D0
 have Z0:=Aq G0 D0
 refine Bg (.tuple #[.agg ((cs_TShare k0.1)).toArray,vI k0.2]) body88 rfl (e2 rfl rfl) (fun w9 hw9=>share_told_c n _ w9 (g0.hL0 hL hw9) d0 (g0.kd Y0 hw9) (g0.kd Z0 hw9) (0:Int) t1) rfl<|Ab (Ah rfl rfl)<|Ab (Ah rfl rfl)<|AJ (cs_TShare k0.1) g0 (.tl (.tl (.tl (.tl .hd)))) (onesB rfl) (fun E2 A0 X1=>?_)
 refine Af rfl<|Aa<|Al rfl<|Am hb0 Tryz.func43 rfl (.cons (.many (cs:=(cs_TShare k0.1)) (by kernel_rfl) rfl (A0.memA (.tl (.tl (.tl (.tl .hd)))))) (.cons (.tmp rfl) .nil)) rfl ?_
 cases h
 exact A0.gv
 refine Ac<|Ai .plain rfl (Ar [.bool false,vN,.bool false,vN] c0) (fun F2 F1 B0 Y1=>?_)
 refine Aa<|Ac<|Ab (AA rfl (B0.memA .hd))<|AJ [.bool false,vN,.bool false,vN] B0 (.tl (.tl .hd)) (onesB rfl) (fun G2 p0 H1=>?_)
 refine Af rfl<|Aa<|Al rfl<|Am (u:=.tuple #[.agg #[.bool false,vN,.bool false,vN],vI 20]) E0 Tryz.func89 rfl (.cons (.many (cs:=[.bool false,vN,.bool false,vN]) (by kernel_rfl) rfl (p0.memA (.tl (.tl .hd)))) (.cons (.tmp rfl) .nil)) rfl<|Ab (Ah rfl rfl)<|Ab (Ah rfl rfl) ?_
 obtain ⟨j0,j1,h⟩:=bi h
 refine Bg (.tuple #[.agg ((cs_TShare j0.1)).toArray,vI j0.2]) body88 rfl (e2 rfl rfl) (fun w9 hw9=>share_told_c n _ w9 (p0.hL0 hL hw9) (⟨(⟨false,([]:List UInt64)⟩:TLong),(⟨false,([]:List UInt64)⟩:TLong)⟩:TRatio) (Ap (Rep.nilSlice _ _) hw9) (Ap (Rep.nilSlice _ _) hw9) (20:Int) j1) rfl<|Ab (Ah rfl rfl)<|Ab (Ah rfl rfl)<|AJ (cs_TShare j0.1) p0 (.tl (.tl (.tl (.tl (.tl .hd))))) (onesB rfl) (fun q2 x0 I1=>?_)
 refine Af rfl<|Aa<|Al rfl<|Am hb0 Tryz.func43 rfl (.cons (.many (cs:=(cs_TShare j0.1)) (by kernel_rfl) rfl (x0.memA (.tl (.tl (.tl (.tl (.tl .hd))))))) (.cons (.tmp rfl) .nil)) rfl ?_
 cases h
 exact x0.gv
theorem body43:bodyB Tryz.prog 43 = true:=by kernel_rfl
def minority_add_p (n:Nat) (a0:TShare) (a1:TShare):Option (Except Tbroken TShare):=
  (share_Add_p n a0 a1).bind fun b0=>(minority_must_api_Share_p n b0.1 b0.2).bind fun d0=>exc d0 (fun g0=>some (.ok g0)) (fun c0=>some (.error c0))
theorem minority_add_c (n:Nat) (L:List Nat) (w:World) (hL:∀ b ∈ L,b < w.heap.size) (a0:TShare) (a1:TShare)  {r:Except Tbroken TShare} (h:minority_add_p n a0 a1 = some r) :
    Calls Tryz.prog 106 #[.agg ((cs_TShare a0)).toArray,.agg ((cs_TShare a1)).toArray] w (PGives w (fun (y:TShare) _ u=>u = .agg ((cs_TShare y)).toArray) (fun e=>.iface 128 (.agg #[vI e.fB])) r):=by
 unfold minority_add_p at h
 have hS0:=Ay w
 refine BE Tryz.func106 rfl rfl rfl (fun _ cs0 hb0 hp0=>?_)
 refine Ac<|Ai .plain rfl (Av hS0 rfl rfl) (fun F0 v0 k0 A0=>?_)
 refine Ai .plain rfl (Av k0 rfl rfl) (fun G0 x0 p0 B0=>?_)
 refine Ai .plain rfl (Ar zL p0) (fun H0 y0 b0 C0=>?_)
 refine Aa<|Ac<|Ab (AA rfl (b0.memA (.tl (.tl .hd))))<|Ab (AA rfl (b0.memA (.tl .hd))) ?_
 obtain ⟨c0,t0,h⟩:=bi h
 refine Bg (.tuple #[.agg ((cs_TShare c0.1)).toArray,vI c0.2]) body43 rfl (e2 rfl rfl) (fun w9 hw9=>share_Add_c n _ w9 (b0.hL0 hL hw9) a0 a1 t0) rfl<|Ab (Ah rfl rfl)<|Ab (Ah rfl rfl) ?_
 obtain ⟨u0,j0,h⟩:=bi h
 rcases u0 with z0 | d0
 have h:=exc_e h
 try dsimp only at h
 refine Bt (fst:=[]) (cap:=[]) .plain body60 rfl (e2 rfl rfl) (fun w9 hw9=>minority_must_api_Share_c n _ w9 (b0.hL0 hL hw9) c0.1 c0.2 j0) (fun I0 s0=>?_)
 obtain ⟨q0,D0⟩:=b0.agr s0
 cases h
 exact AP hp0 Tryz.func106 ⟨q0.ag,rfl⟩
 have h:=exc_o h
 try dsimp only at h
 refine Bg (.agg ((cs_TShare d0)).toArray) body60 rfl (e2 rfl rfl) (fun w9 hw9=>AK (minority_must_api_Share_c n _ w9 (b0.hL0 hL hw9) c0.1 c0.2 j0)) rfl<|AJ (cs_TShare d0) b0 .hd (onesB rfl) (fun J0 g0 E0=>?_)
 refine Aa<|Al rfl<|Am hb0 Tryz.func106 rfl (.cons (.many (cs:=(cs_TShare d0)) (by kernel_rfl) rfl (g0.memA .hd)) .nil) rfl ?_
 cases h
 exact ⟨g0.ag,fun w9 hw9=>okOf_in rfl⟩
theorem body106:bodyB Tryz.prog 106 = true:=by kernel_rfl
def minority_sum_l1 (n:Nat) (a0:List TShare) (D0:Nat × UInt64 × UInt64 × UInt64 × UInt64 × UInt64 × UInt64 × UInt64 × UInt64 × UInt64 × UInt64 × UInt64 × UInt64 × UInt64 × UInt64 × UInt64 × UInt64 → Option ((Except Tbroken TShare) ⊕ (UInt64 × UInt64 × UInt64 × UInt64 × UInt64 × UInt64 × UInt64 × UInt64 × UInt64 × UInt64 × UInt64 × UInt64 × UInt64 × UInt64 × UInt64 × UInt64))):Nat × UInt64 × UInt64 × UInt64 × UInt64 × UInt64 × UInt64 × UInt64 × UInt64 × UInt64 × UInt64 × UInt64 × UInt64 × UInt64 × UInt64 × UInt64 × UInt64 → Option ((Except Tbroken TShare) ⊕ (UInt64 × UInt64 × UInt64 × UInt64 × UInt64 × UInt64 × UInt64 × UInt64 × UInt64 × UInt64 × UInt64 × UInt64 × UInt64 × UInt64 × UInt64 × UInt64))
  | (c0,d0,g0,j0,k0,p0,q0,s0,t0,u0,v0,x0,y0,z0,A0,B0,C0)=>(if c0 < a0.length then (a0[c0]?).bind fun F0=>(minority_add_p n (⟨(d0,g0,j0,k0,p0,q0,s0,t0),(u0,v0,x0,y0,z0,A0,B0,C0)⟩:TShare) F0).bind fun G0=>exc G0 (fun b0=>D0 (c0 + 1,b0.fN.1,b0.fN.2.1,b0.fN.2.2.1,b0.fN.2.2.2.1,b0.fN.2.2.2.2.1,b0.fN.2.2.2.2.2.1,b0.fN.2.2.2.2.2.2.1,b0.fN.2.2.2.2.2.2.2,b0.fD.1,b0.fD.2.1,b0.fD.2.2.1,b0.fD.2.2.2.1,b0.fD.2.2.2.2.1,b0.fD.2.2.2.2.2.1,b0.fD.2.2.2.2.2.2.1,b0.fD.2.2.2.2.2.2.2)) (fun E0=>some (.inl (.error E0))) else some (.inr (d0,g0,j0,k0,p0,q0,s0,t0,u0,v0,x0,y0,z0,A0,B0,C0)))
def minority_sum_p (n:Nat) (a0:List TShare):Option (Except Tbroken TShare):=
  (minority_of_p n (0:Int) (1:Int)).bind fun D0=>exc D0 (fun b0=>thn (loopF (minority_sum_l1 n a0) n (0,b0.fN.1,b0.fN.2.1,b0.fN.2.2.1,b0.fN.2.2.2.1,b0.fN.2.2.2.2.1,b0.fN.2.2.2.2.2.1,b0.fN.2.2.2.2.2.2.1,b0.fN.2.2.2.2.2.2.2,b0.fD.1,b0.fD.2.1,b0.fD.2.2.1,b0.fD.2.2.2.1,b0.fD.2.2.2.2.1,b0.fD.2.2.2.2.2.1,b0.fD.2.2.2.2.2.2.1,b0.fD.2.2.2.2.2.2.2)) (fun (d0,g0,j0,k0,p0,q0,s0,t0,u0,v0,x0,y0,z0,A0,B0,C0)=>some (.ok (⟨(d0,g0,j0,k0,p0,q0,s0,t0),(u0,v0,x0,y0,z0,A0,B0,C0)⟩:TShare)))) (fun c0=>some (.error c0))
theorem minority_sum_c (n:Nat) (L:List Nat) (w:World) (hL:∀ b ∈ L,b < w.heap.size) (a0:List TShare) {v0_0:Value} (h0_0:Rep.R w L [v0_0] a0)  {r:Except Tbroken TShare} (h:minority_sum_p n a0 = some r) :
    Calls Tryz.prog 65 #[v0_0] w (PGives w (fun (y:TShare) _ u=>u = .agg ((cs_TShare y)).toArray) (fun e=>.iface 128 (.agg #[vI e.fB])) r):=by
 unfold minority_sum_p at h
 have hS0:=Ay w
 refine BE Tryz.func65 rfl rfl rfl (fun _ cs0 hb0 hp0=>?_)
 refine Ac<|Ai .plain rfl (Ar zL hS0) (fun c2 F0 H0 R1=>?_)
 refine Aa<|Ac ?_
 obtain ⟨F1,U0,h⟩:=bi h
 rcases F1 with Q1 | b0
 have h:=exc_e h
 try dsimp only at h
 refine Bt (fst:=[]) (cap:=[]) .plain body63 rfl (e2 rfl rfl) (fun w9 hw9=>minority_of_c n _ w9 (H0.hL0 hL hw9) (0:Int) (1:Int) U0) (fun q2 u1=>?_)
 obtain ⟨d1,W1⟩:=H0.agr u1
 cases h
 exact AP hp0 Tryz.func65 ⟨d1.ag,rfl⟩
 have h:=exc_o h
 try dsimp only at h
 refine Bg (.agg ((cs_TShare b0)).toArray) body63 rfl (e2 rfl rfl) (fun w9 hw9=>AK (minority_of_c n _ w9 (H0.hL0 hL hw9) (0:Int) (1:Int) U0)) rfl<|Ai .plain rfl (Ar zL H0) (fun s2 G0 g1 X1=>?_)
 refine AJ (cs_TShare b0) g1 .hd (onesB rfl) (fun E1 P0 Y1=>?_)
 refine Aa<|Aj<|Ac<|Ae rfl ?_
 have R0:=AO h0_0 P0
 have Z1:a0.length ≤ 281474976710656:=AU R0
 refine Ab (Bd (xs:=a0) Tryz.underlying40 rfl R0)<|Ae rfl<|Aa<|Az ?_
 obtain ⟨b2,A1,Q0⟩:=thn_in h
 refine Bm (α:=Nat × UInt64 × UInt64 × UInt64 × UInt64 × UInt64 × UInt64 × UInt64 × UInt64 × UInt64 × UInt64 × UInt64 × UInt64 × UInt64 × UInt64 × UInt64 × UInt64) (fun ⟨D0,d0,g0,j0,k0,p0,q0,s0,t0,u0,v0,x0,y0,z0,A0,B0,C0⟩=>[(2,vP F0),(3,vP G0),(7,v0_0),(8,vI ((a0.length:Nat):Int)),(9,vI ((D0:Nat):Int))]) (fun ⟨D0,d0,g0,j0,k0,p0,q0,s0,t0,u0,v0,x0,y0,z0,A0,B0,C0⟩ J0=>St w J0 [.cells G0 [vU d0,vU g0,vU j0,vU k0,vU p0,vU q0,vU s0,vU t0,vU u0,vU v0,vU x0,vU y0,vU z0,vU A0,vU B0,vU C0] 53,.cells F0 zL 53]∧Tr E1 [.cells G0 (cs_TShare b0) 53,.cells F0 zL 53] J0 [.cells G0 [vU d0,vU g0,vU j0,vU k0,vU p0,vU q0,vU s0,vU t0,vU u0,vU v0,vU x0,vU y0,vU z0,vU A0,vU B0,vU C0] 53,.cells F0 zL 53]) (fun ⟨D0,d0,g0,j0,k0,p0,q0,s0,t0,u0,v0,x0,y0,z0,A0,B0,C0⟩=>(D0,d0,g0,j0,k0,p0,q0,s0,t0,u0,v0,x0,y0,z0,A0,B0,C0)) (0,b0.fN.1,b0.fN.2.1,b0.fN.2.2.1,b0.fN.2.2.2.1,b0.fN.2.2.2.2.1,b0.fN.2.2.2.2.2.1,b0.fN.2.2.2.2.2.2.1,b0.fN.2.2.2.2.2.2.2,b0.fD.1,b0.fD.2.1,b0.fD.2.2.1,b0.fD.2.2.2.1,b0.fD.2.2.2.2.1,b0.fD.2.2.2.2.2.1,b0.fD.2.2.2.2.2.2.1,b0.fD.2.2.2.2.2.2.2) A1 ⟨rfl,rfl,rfl,rfl,rfl,trivial⟩ ⟨P0,AQ _ _⟩ ?_
 rintro I1 ⟨D0,d0,g0,j0,k0,p0,q0,s0,t0,u0,v0,x0,y0,z0,A0,B0,C0⟩ J0 X0 ⟨I0,j1⟩ h
 unfold minority_sum_l1 at h
 try dsimp only at h
 refine Ac<|Ab (Br (i:=D0) (j:=a0.length) rfl rfl)<|Aa<|Aj<|AV rfl h (fun W0 h=>?_) (fun W0 h=>?_)
 refine Au<|Aj<|Az<|Ac ?_
 obtain ⟨K0,D1,h⟩:=bi h
 have z1:=AO h0_0 I0
 obtain ⟨H1,K1,v1,x1,M1,C1,y1⟩:=Bk z1 D1
 obtain rfl:=op_TShare C1
 refine Ab (Bp 16 D0 rfl v1 rfl rfl x1)<|Ab (AA rfl y1)<|Ai .plain rfl (Ar zL I0) (fun d2 J1 Y0 k1=>?_)
 refine AJ (cs_TShare K0) Y0 .hd (onesB rfl) (fun g2 E0 p1=>?_)
 refine Aa<|Ao<|Ab (AA rfl (E0.memA (.tl .hd)))<|Ab (AA rfl (E0.memA .hd)) ?_
 obtain ⟨G1,V0,h⟩:=bi h
 rcases G1 with P1 | c0
 have h:=exc_e h
 try dsimp only at h
 have h:=thn_inl h Q0
 refine Bt (fst:=[]) (cap:=[]) .plain body106 rfl (e2 rfl rfl) (fun w9 hw9=>minority_add_c n _ w9 (E0.hL0 hL hw9) (⟨(d0,g0,j0,k0,p0,q0,s0,t0),(u0,v0,x0,y0,z0,A0,B0,C0)⟩:TShare) K0 V0) (fun j2 t1=>?_)
 obtain ⟨Z0,U1⟩:=E0.agr t1
 cases h
 exact AP hp0 Tryz.func65 ⟨Z0.ag,rfl⟩
 have h:=exc_o h
 try dsimp only at h
 refine Bg (.agg ((cs_TShare c0)).toArray) body106 rfl (e2 rfl rfl) (fun w9 hw9=>AK (minority_add_c n _ w9 (E0.hL0 hL hw9) (⟨(d0,g0,j0,k0,p0,q0,s0,t0),(u0,v0,x0,y0,z0,A0,B0,C0)⟩:TShare) K0 V0)) rfl<|AJ (cs_TShare c0) E0 (.tl .hd) (onesB rfl) (fun k2 b1 q1=>?_)
 refine Aa<|AB<|Ao<|Ab (Bl (i:=D0) (j:=1) rfl rfl (by omega))<|Ae rfl<|Aa ?_
 obtain ⟨c1,s1⟩:=AG b1 (.one (.tl .hd) (.one (.tl .hd) .done))
 have B1:=Tt k1 (Tt p1 (Tt q1 s1))
 exact X0 (D0 + 1,c0.fN.1,c0.fN.2.1,c0.fN.2.2.1,c0.fN.2.2.2.1,c0.fN.2.2.2.2.1,c0.fN.2.2.2.2.2.1,c0.fN.2.2.2.2.2.2.1,c0.fN.2.2.2.2.2.2.2,c0.fD.1,c0.fD.2.1,c0.fD.2.2.1,c0.fD.2.2.2.1,c0.fD.2.2.2.2.1,c0.fD.2.2.2.2.2.1,c0.fD.2.2.2.2.2.2.1,c0.fD.2.2.2.2.2.2.2) _ _ ⟨rfl,rfl,rfl,rfl,rfl,trivial⟩ ⟨c1,(Tt j1 B1)⟩ h
 refine Be rfl ?_
 have h:=thn_inr h Q0
 try dsimp only at h
 refine Ac<|Ab (AA rfl (I0.memA .hd))<|AJ [vU d0,vU g0,vU j0,vU k0,vU p0,vU q0,vU s0,vU t0,vU u0,vU v0,vU x0,vU y0,vU z0,vU A0,vU B0,vU C0] I0 (.tl .hd) (onesB rfl) (fun p2 M0 V1=>?_)
 refine Aa<|Al rfl<|Am hb0 Tryz.func65 rfl (.cons (.many (cs:=[vU d0,vU g0,vU j0,vU k0,vU p0,vU q0,vU s0,vU t0,vU u0,vU v0,vU x0,vU y0,vU z0,vU A0,vU B0,vU C0]) (by kernel_rfl) rfl (M0.memA (.tl .hd))) .nil) rfl ?_
 cases h
 exact ⟨M0.ag,fun w9 hw9=>okOf_in rfl⟩
end Go.Proofs.YtichhhehkcfoaaaGreatDoor
