import Derived.Test.YtdolpanbfpjnmaaGreatDoorPS2
namespace Go.Proofs.YtdolpanbfpjnmaaGreatDoor
open Go Go.RowKit Tryz
set_option maxRecDepth 4000
set_option maxHeartbeats 4000000

def aL_l1 (n:Nat) (d0:(List UInt64) × (List UInt64) -> Option (List UInt64)):(List UInt64) × (List UInt64) -> Option (List UInt64)
  | (c0,b0)=>(if 0 < b0.length then (aU_p n c0 b0).bind fun g0=>d0 (b0,g0.2) else some c0)
def aL_p (n:Nat) (a0:Th) (a1:Th):Option Th:=
  Option.bind (am (aL_l1 n) n (a0.fo,a1.fo)) (fun b0=>some (⟨false,b0⟩:Th))
theorem aL_c (n:Nat) {L w} (hL:hl L w) (a0:Th) {v0_1:Value} (h0_1:Rep.R w L [v0_1] a0.fo) (a1:Th) {v1_1:Value} (h1_1:Rep.R w L [v1_1] a1.fo)  {r:Th} (h:aL_p n a0 a1 = some r) :
 Cl 112 #[.agg #[.bool a0.fe,v0_1],.agg #[.bool a1.fe,v1_1]] w (ah w fun w' u=>∃ v0_1:Value,u = .agg #[.bool r.fe,v0_1]/\Rep.R w' L [v0_1] r.fo):=by
 unfold aL_p at h
 refine AG func112 rfl rfl rfl fun _ cs0 hb0=>Ac<|RG.bx (Az w) rfl rfl fun s1 W0 C0 Z0=>RG.bx C0 rfl rfl fun u1 X0 D0 b1=>RG.nl [.bool false,vN] D0 fun v1 p0 t0 c1=>Aa<|Ai<|du 6 fun d0 j0=>Rv 0 d0 rfl j0 (fun _=>AU 1 rfl)<|Rx 1 48 d0 rfl j0 (AL rfl ((t0.memA .t2) 1 _ rfl))<|Rv 2 d0 rfl j0 (fun _=>AU 1 rfl)<|Rx 3 32 d0 rfl j0 (AL rfl ((t0.memA .t1) 1 _ rfl))<|Rv 4 d0 rfl j0 (fun _=>Bh rfl)<|Rv 5 d0 rfl j0 (fun _=>Bh rfl)<|AM (dk d0)<|Ai<|AA ?_
 obtain ⟨u0,d1⟩:=AI t0 (.a0 .done)
 obtain ⟨k1,J0,I0⟩:=aq h
 refine MX.lf (α:=(List UInt64) × (List UInt64) × Value × Value) (fun ⟨k0,c0,b0,g0⟩=>[(4,vP p0),(5,b0),(6,g0)]) (fun ⟨k0,c0,b0,g0⟩=>[.cells p0 [.bool false,vN] 151]) (fun ⟨k0,c0,b0,g0⟩ y0=>Rep.R y0 (bl [.cells p0 [.bool false,vN] 151] ++ L) [b0] k0/\Rep.R y0 (bl [.cells p0 [.bool false,vN] 151] ++ L) [g0] c0) (fun ⟨k0,c0,b0,g0⟩=>(k0,c0)) (a0.fo,a1.fo,v0_1,v1_1) J0 u0 ⟨(AS h0_1 u0),(AS h1_1 u0)⟩ ?_
 rintro V0 ⟨k0,c0,b0,g0⟩ y0 B0 v0 F0 ⟨q0,s0⟩ h
 unfold aL_l1 at h
 try dsimp only at h
 refine Ai<|Ac<|Ae rfl ?_
 have g1:c0.length <= 281474976710656:=Ba s0
 refine Ab (Bg (xs:=c0) underlying149 rfl s0)<|Ab (FV.gtrN (i:=c0.length) (j:=0) rfl rfl)<|Aa<|AT rfl h (fun A0 h=>?_) (fun A0 h=>?_)
 refine Ar<|AA<|Ac<|Ae rfl<|Ae rfl<|bk h fun R0 P0 h=>jE (bd 152) rfl (e2 rfl rfl) (fun w9 hw9=>aU_c n (v0.hL hL hw9) (Aq q0 hw9) (Aq s0 hw9) P0) rfl fun x1 q1 H0 ⟨p1,Q0,hu_,j1,K0⟩=>?_
 subst hu_
 obtain ⟨E0,z0⟩:=v0.agr H0
 refine Ae rfl<|Ab (Ah rfl rfl)<|Ab (Ah rfl rfl)<|Af rfl<|Af rfl<|Aa<|Ao<|Ae rfl<|Ae rfl<|Af rfl<|Af rfl<|Aa<|AC<|B0 (c0,R0.2,g0,Q0) E0 (Tt F0 z0) ⟨(Am s0 z0),K0⟩ h
 refine Be rfl ?_
 have h:=I0 _ h
 try dsimp only at h
 refine Ac<|Ae rfl ?_
 obtain ⟨U0,Y0,M0,_⟩:=BQ q0
 refine Ab (AO (vs:=[b0]) (u:=.agg #[.bool false,b0]) (e1 rfl) (fun w9=>by rw [M0]; try kernel_rfl))<|AQ [.bool false,b0] v0 .hd (o2 rfl (AP q0)) fun y1 x0 G0=>Aa<|Al rfl<|Ap hb0 func112 rfl (.cons (.many (cs:=[.bool false,b0]) rfl rfl (x0.memA .hd)) .nil) rfl ?_
 cases h
 exact ⟨x0.ag,fun w9 hw9=>⟨b0,rfl,x0.kd (Am q0 G0) hw9⟩⟩
def bE_p (n:Nat) (a0:Th):Option Th:=
  (ay_p n (!a0.fe) a0.fo).bind fun b0=>some b0
theorem bE_c (n:Nat) {L w} (hL:hl L w) (a0:Th) {v0_1:Value} (h0_1:Rep.R w L [v0_1] a0.fo)  {r:Th} (h:bE_p n a0 = some r) :
 Cl 138 #[.agg #[.bool a0.fe,v0_1]] w (ah w fun w' u=>∃ v0_1:Value,u = .agg #[.bool r.fe,v0_1]/\Rep.R w' L [v0_1] r.fo):=by
 unfold bE_p at h
 refine AG func138 rfl rfl rfl fun _ cs0 hb0=>Ac<|RG.bx (Az w) rfl rfl fun B0 u0 k0 x0=>RG.nl [.bool false,vN] k0 fun C0 v0 b0 y0=>Aa<|Ac<|AX 0 rfl<|AR rfl ((b0.memA .t1) 0 _ rfl)<|Ab (Bp rfl)<|AX 1 rfl<|AR rfl ((b0.memA .t1) 1 _ rfl)<|bk h fun j0 t0 h=>jE (bd 170) rfl (e2 rfl rfl) (fun w9 hw9=>ay_c n (b0.hL hL hw9) (b0.km h0_1 hw9) t0) rfl fun D0 A0 s0 ⟨d0,hu_,g0⟩=>?_
 subst hu_
 obtain ⟨p0,z0⟩:=b0.agr s0
 refine AQ [.bool j0.fe,d0] p0 .hd (o2 rfl (AP g0)) fun E0 c0 q0=>Aa<|Al rfl<|Ap hb0 func138 rfl (.cons (.many (cs:=[.bool j0.fe,d0]) rfl rfl (c0.memA .hd)) .nil) rfl ?_
 cases h
 exact ⟨c0.ag,fun w9 hw9=>⟨d0,rfl,c0.kd (Am g0 q0) hw9⟩⟩
def cI_l1 (_n:Nat) (xs4:List UInt64) (xs7:List UInt64) (k0:UInt64 × Nat × (List UInt64) -> Option ((List UInt64) × UInt64)):UInt64 × Nat × (List UInt64) -> Option ((List UInt64) × UInt64)
  | (g0,b0,c0)=>(if b0 < xs4.length then (xs4[b0]?).bind fun q0=>jn (fun p0=>(add64 q0 p0 g0).bind fun j0=>(c0[b0]?).bind fun _x199=>(put c0 ((b0:Nat):Int) j0.1).bind fun t0=>k0 (j0.2,b0 + 1,t0)) (fun d0=>(if b0 < xs7.length then (xs7[b0]?).bind fun s0=>d0 s0 else d0 (0:UInt64))) else some (c0,g0))
def cI_p (n:Nat) (a0:List UInt64) (a1:List UInt64):Option (List UInt64):=
  jn (fun (xs4,xs7)=>(mk ((xs4.length + 1:Nat):Int) (0:UInt64)).bind fun g0=>Option.bind (am (cI_l1 n xs4 xs7) n (0,0,g0)) (fun (c0,d0)=>(c0[xs4.length]?).bind fun _x229=>(put c0 ((xs4.length:Nat):Int) d0).bind fun j0=>some j0)) (fun b0=>(if a0.length < a1.length then b0 (a1,a0) else b0 (a0,a1)))
theorem cI_c (n:Nat) {L w} (hL:hl L w) {a0:List UInt64} {v0_0:Value} (h0_0:Rep.R w L [v0_0] a0) {a1:List UInt64} {v1_0:Value} (h1_0:Rep.R w L [v1_0] a1)  {r:List UInt64} (h:cI_p n a0 a1 = some r) :
 Cl 204 #[v0_0,v1_0] w (ah w fun w' u=>∃ v0_0:Value,u = v0_0/\Rep.R w' L [v0_0] r):=by
 unfold cI_p at h
 have hS0:=Az w
 refine AG func204 rfl rfl rfl fun _ cs0 hb0=>Ac<|Af rfl<|Aa<|Ai<|Ac<|Ae rfl ?_
 have hl1:a0.length <= 281474976710656:=Ba h0_0
 refine Ab (Bg (xs:=a0) underlying149 rfl h0_0)<|Ae rfl ?_
 have hl2:a1.length <= 281474976710656:=Ba h1_0
 refine Ab (Bg (xs:=a1) underlying149 rfl h1_0)<|Ab (Bq (i:=a0.length) (j:=a1.length) rfl rfl)<|Aa<|MX.jf (α:=(List UInt64) × (List UInt64) × Value × Value) (fun ⟨xs4,xs7,v5,v8⟩=>[(0,v5),(1,v8)]) (fun ⟨xs4,xs7,v5,v8⟩=>[]) (fun ⟨xs4,xs7,v5,v8⟩ wx9=>Rep.R wx9 (bl [] ++ L) [v5] xs4/\Rep.R wx9 (bl [] ++ L) [v8] xs7) (fun ⟨xs4,xs7,v5,v8⟩=>(xs4,xs7)) hS0 h ?_ ?_
 rintro ⟨xs4,xs7,v5,v8⟩ wx9 q1 D2 ⟨hr6,hr9⟩ h
 try dsimp only at h
 refine Ac<|Ae rfl ?_
 have G2:xs4.length <= 281474976710656:=Ba hr6
 refine Ab (Bg (xs:=xs4) underlying149 rfl hr6)<|Ab (Bn (i:=xs4.length) (j:=1) rfl rfl (by omega))<|bk h fun R0 M0 h=>Aj .plain rfl (Does.mk (α:=UInt64) M0 q1 cP rfl) fun M2 j0 E0 s0=>Af rfl<|Aa<|Ac<|Af rfl<|Aa<|Ai<|Ac<|Ae rfl<|Ab (Bg (xs:=xs4) underlying149 rfl (Am hr6 s0))<|Ae rfl<|Aa<|AA ?_
 obtain ⟨K2,J1,E1⟩:=aq h
 refine MX.lf (α:=UInt64 × Nat × (List UInt64) × (List Value)) (fun ⟨g0,b0,c0,d0⟩=>[(0,v5),(1,v8),(5,(.slice (some ⟨j0,0,none⟩) ((xs4.length + 1:Nat):Int).toNat ((xs4.length + 1:Nat):Int).toNat)),(6,vU g0),(21,v5),(22,vI ((xs4.length:Nat):Int)),(23,vI ((b0:Nat):Int))]) (fun ⟨g0,b0,c0,d0⟩=>[rr w 34 UInt64 (.slice (some ⟨j0,0,none⟩) ((xs4.length + 1:Nat):Int).toNat ((xs4.length + 1:Nat):Int).toNat) c0.length d0]) (fun ⟨g0,b0,c0,d0⟩ P0=>Cells P0 (bl [rr w 34 UInt64 (.slice (some ⟨j0,0,none⟩) ((xs4.length + 1:Nat):Int).toNat ((xs4.length + 1:Nat):Int).toNat) c0.length d0] ++ L) d0 c0) (fun ⟨g0,b0,c0,d0⟩=>(g0,b0,c0)) (0,0,R0,(List.replicate ((xs4.length + 1:Nat):Int).toNat [vW 0]).flatten) J1 E0 (AE (cs:=(List.replicate ((xs4.length + 1:Nat):Int).toNat [vW 0]).flatten) (xs:=R0) E0 L (BR M0 rfl)) ?_
 rintro t2 ⟨g0,b0,c0,d0⟩ P0 p1 k0 q0 x0 h
 unfold cI_l1 at h
 try dsimp only at h
 refine Ac<|Ab (Bq (i:=b0) (j:=xs4.length) rfl rfl)<|Aa<|Ai<|AT rfl h (fun Y0 h=>?_) (fun Y0 h=>?_)
 refine Ar<|Ai<|AA<|Ac<|Ae rfl<|bk h fun B0 U1 h=>?_
 obtain ⟨p2,v2,y1,F1,c1,K1,H1⟩:=Bk (Am hr6 (Tt s0 q0)) U1
 have z1:c1 = [vU B0]:=K1; subst z1
 refine Ab (Bj 1 b0 rfl y1 rfl rfl F1)<|AR rfl (H1 0 _ rfl)<|Af rfl<|Af rfl<|Aa<|Ac<|Af rfl<|Aa<|Ai<|Ac<|Ae rfl<|Ae rfl ?_
 have A0:=Am hr9 (Tt s0 q0)
 have H2:xs7.length <= 281474976710656:=Ba A0
 refine Ab (Bg (xs:=xs7) underlying149 rfl A0)<|Ab (Bq (i:=b0) (j:=xs7.length) rfl rfl)<|Aa<|MX.jo (α:=UInt64) (fun p0=>[(0,v5),(1,v8),(5,(.slice (some ⟨j0,0,none⟩) ((xs4.length + 1:Nat):Int).toNat ((xs4.length + 1:Nat):Int).toNat)),(6,vU g0),(21,v5),(22,vI ((xs4.length:Nat):Int)),(23,vI ((b0:Nat):Int)),(7,vI ((b0:Nat):Int)),(8,vU B0),(9,vU p0)]) (fun p0=>[rr w 34 UInt64 (.slice (some ⟨j0,0,none⟩) ((xs4.length + 1:Nat):Int).toNat ((xs4.length + 1:Nat):Int).toNat) c0.length d0]) (fun p0=>p0) k0 h ?_ ?_
 rintro p0 R2 t0 F0 h
 try dsimp only at h
 refine Ao<|Ae rfl<|Ae rfl<|Ae rfl<|Ae rfl<|Ae rfl<|bk h fun k2 b2 h=>Ab (FV.add64 (a:=B0) (b:=p0) (c:=g0) func206 rfl rfl rfl rfl rfl rfl rfl b2)<|Ae rfl<|Ab (Ah rfl rfl)<|Ab (Ah rfl rfl)<|bk h fun c2 V1 h=>?_
 have K0:=AD x0 F0
 obtain ⟨U0,x2,y0,I0,d1,M1,I2⟩:=St.nth (α:=UInt64) t0 .hd K0 V1
 obtain ⟨W0,y2,G0⟩:=BJ (α:=UInt64) t0 .hd I0
 obtain rfl:U0 = ⟨W0,0,none⟩:=by rw [G0] at y0; cases y0; rfl
 have A1:d1 = [vU c2]:=M1; subst A1
 refine Ab (Bj 1 b0 rfl y0 rfl rfl I0)<|bk h fun g2 Y1 h=>RG.acts' .plain (Acts.set (α:=UInt64) (i:=b0) Y1 t0 G0 (fun _=>.hd) K0 rfl rfl rfl rfl rfl rfl) fun P2 ⟨g1,s1,u1,v1⟩=>Af rfl<|Aa<|AC<|Ao<|Ab (Bn (i:=b0) (j:=1) rfl rfl (by omega))<|Ae rfl<|Aa<|p1 (k2.2,b0 + 1,g2,g1) s1 (Tt q0 (Tt F0 u1)) v1 h
 intro u2 D0 h
 try dsimp only at h
 refine AT rfl h (fun Z0 h=>?_) (fun Z0 h=>?_)
 refine Ao<|Ae rfl<|Ae rfl<|bk h fun Q0 W1 h=>?_
 obtain ⟨q2,z2,B1,G1,j1,P1,I1⟩:=Bk A0 W1
 have C1:j1 = [vU Q0]:=P1; subst C1
 refine Ab (Bj 1 b0 rfl B1 rfl rfl G1)<|AR rfl (I1 0 _ rfl)<|Af rfl<|Aa<|D0 Q0 k0 (Bw _ _) h
 refine Ar<|D0 (0:UInt64) k0 (Bw _ _) h
 refine Be rfl ?_
 have h:=E1 _ h
 try dsimp only at h
 refine Ac<|Ae rfl<|Ae rfl<|Ab (Bg (xs:=xs4) underlying149 rfl (Am hr6 (Tt s0 q0)))<|Ae rfl<|bk h fun d2 X1 h=>?_
 obtain ⟨V0,A2,z0,J0,k1,Q1,J2⟩:=St.nth (α:=UInt64) k0 .hd x0 X1
 obtain ⟨X0,B2,H0⟩:=BJ (α:=UInt64) k0 .hd J0
 obtain rfl:V0 = ⟨X0,0,none⟩:=by rw [H0] at z0; cases z0; rfl
 have D1:k1 = [vU d2]:=Q1; subst D1
 refine Ab (Bj 1 (xs4.length) rfl z0 rfl rfl J0)<|bk h fun j2 Z1 h=>RG.acts' .plain (Acts.set (α:=UInt64) (i:=xs4.length) Z1 k0 H0 (fun _=>.hd) x0 rfl rfl rfl rfl rfl rfl) fun Q2 ⟨C2,u0,E2,x1⟩=>Aa<|Ac<|Ae rfl<|Af rfl<|Aa<|Al rfl ?_
 have v0:=Br u0 .hd
 have F2:=Bs u0 .hd
 have R1:=Bu (α:=UInt64) (v:=(.slice (some ⟨j0,0,none⟩) ((xs4.length + 1:Nat):Int).toNat ((xs4.length + 1:Nat):Int).toNat)) (xs:=j2) v0 L (Bf (α:=UInt64) u0 .hd x1 hL)
 refine AY hb0 func204 rfl rfl ?_
 cases h
 exact ⟨v0.ag,fun w9 hw9=>⟨(.slice (some ⟨j0,0,none⟩) ((xs4.length + 1:Nat):Int).toNat ((xs4.length + 1:Nat):Int).toNat),rfl,v0.kd R1 hw9⟩⟩
 intro s2 C0 h
 try dsimp only at h
 refine AT rfl h (fun b1 h=>?_) (fun b1 h=>?_)
 refine Ao<|Ae rfl<|Ae rfl<|Af rfl<|Af rfl<|Aa<|C0 (a1,a0,v1_0,v0_0) hS0 (Bw _ _) ⟨h1_0,h0_0⟩ h
 refine Ar<|C0 (a0,a1,v0_0,v1_0) hS0 (Bw _ _) ⟨h0_0,h1_0⟩ h
def bV_p (n:Nat) (a0:Th) (a1:Th):Option Th:=
  (if (a0.fe == a1.fe) = true then (cI_p n a0.fo a1.fo).bind fun j0=>(ay_p n a0.fe j0).bind fun k0=>some k0 else (bX_p n a0.fo a1.fo).bind fun p0=>jn (fun (_q58,d0,c0,g0)=>(cq_p n g0 d0).bind fun q0=>(ay_p n c0 q0).bind fun s0=>some s0) (fun b0=>(if p0 < 0 then b0 (a0.fe,a0.fo,a1.fe,a1.fo) else b0 (a1.fe,a1.fo,a0.fe,a0.fo))))
theorem bV_c (n:Nat) {L w} (hL:hl L w) (a0:Th) {v0_1:Value} (h0_1:Rep.R w L [v0_1] a0.fo) (a1:Th) {v1_1:Value} (h1_1:Rep.R w L [v1_1] a1.fo)  {r:Th} (h:bV_p n a0 a1 = some r) :
 Cl 189 #[.agg #[.bool a0.fe,v0_1],.agg #[.bool a1.fe,v1_1]] w (ah w fun w' u=>∃ v0_1:Value,u = .agg #[.bool r.fe,v0_1]/\Rep.R w' L [v0_1] r.fo):=by
 unfold bV_p at h
 refine AG func189 rfl rfl rfl fun _ cs0 hb0=>Ac<|RG.bx (Az w) rfl rfl fun Y1 y0 X0 F1=>RG.bx X0 rfl rfl fun Z1 z0 Y0 G1=>RG.nl [.bool false,vN] Y0 fun b2 A0 b0 H1=>Aa<|Ai<|Ac<|AX 0 rfl<|AR rfl ((b0.memA .t2) 0 _ rfl)<|AX 0 rfl<|AR rfl ((b0.memA .t1) 0 _ rfl)<|Ab (FV.eqlB (a:=a0.fe) (b:=a1.fe) underlying4 rfl rfl)<|Aa<|MX.ifb rfl h (fun V0 h=>?_) (fun V0 h=>?_)
 refine Ai<|du 8 fun c0 s0=>Rv 0 c0 rfl s0 (fun _=>AU 0 rfl)<|Rx 1 384 c0 rfl s0 (AL rfl ((b0.memA .t2) 0 _ rfl))<|Rv 2 c0 rfl s0 (fun _=>AU 1 rfl)<|Rx 3 448 c0 rfl s0 (AL rfl ((b0.memA .t2) 1 _ rfl))<|Rv 4 c0 rfl s0 (fun _=>AU 1 rfl)<|Rx 5 448 c0 rfl s0 (AL rfl ((b0.memA .t1) 1 _ rfl))<|bk h fun u2 z1 h=>Bl 6 127 c0 rfl .plain (bd 204) rfl (e2 rfl rfl) (fun w9 hw9=>cI_c n (b0.hL hL hw9) (b0.km h0_1 hw9) (b0.km h1_1 hw9) z1) rfl fun c2 U1 k1 ⟨Q1,hu_,u1⟩=>?_
 subst hu_
 obtain ⟨I0,I1⟩:=b0.agr k1
 refine bk h fun Q0 A1 h=>Bl 7 255 c0 rfl .plain (bd 170) rfl (e2 rfl rfl) (fun w9 hw9=>ay_c n (I0.hL hL hw9) (Aq u1 hw9) A1) rfl fun d2 V1 p1 ⟨E0,hu_,M0⟩=>?_
 subst hu_
 obtain ⟨Z0,J1⟩:=I0.agr p1
 refine Bz 8 511 c0 rfl rfl .plain (Ay (news:=[.bool Q0.fe,E0]) Z0 .hd rfl rfl rfl rfl rfl rfl (o2 rfl (AP M0))) fun g2 C0 d1=>AM (dk c0)<|Al rfl<|Ap hb0 func189 rfl (.cons (.many (cs:=[.bool Q0.fe,E0]) rfl rfl (C0.memA .hd)) .nil) rfl ?_
 cases h
 exact ⟨C0.ag,fun w9 hw9=>⟨E0,rfl,C0.kd (Am M0 d1) hw9⟩⟩
 refine Ar<|Ai<|Ac<|AX 1 rfl<|AR rfl ((b0.memA .t2) 1 _ rfl)<|AX 1 rfl<|AR rfl ((b0.memA .t1) 1 _ rfl)<|bk h fun R0 B1 h=>Bi (vI R0) (bd 187) rfl (e2 rfl rfl) (fun w9 hw9=>bX_c n (b0.hL0 hL hw9) (b0.k0 h0_1 hw9) (b0.k0 h1_1 hw9) B1) rfl<|Ab (BK (i:=R0) (j:=0) rfl rfl)<|Aa<|MX.jf (α:=Bool × (List UInt64) × Bool × (List UInt64) × Value × Value) (fun ⟨g0,u0,j0,v0,p0,q0⟩=>[(2,vP y0),(3,vP z0),(4,vP A0)]) (fun ⟨g0,u0,j0,v0,p0,q0⟩=>[.cells A0 [.bool false,vN] 151,.cells z0 [.bool g0,p0] 151,.cells y0 [.bool j0,q0] 151]) (fun ⟨g0,u0,j0,v0,p0,q0⟩ G0=>Rep.R G0 (bl [.cells A0 [.bool false,vN] 151,.cells z0 [.bool g0,p0] 151,.cells y0 [.bool j0,q0] 151] ++ L) [p0] u0/\Rep.R G0 (bl [.cells A0 [.bool false,vN] 151,.cells z0 [.bool g0,p0] 151,.cells y0 [.bool j0,q0] 151] ++ L) [q0] v0) (fun ⟨g0,u0,j0,v0,p0,q0⟩=>(g0,u0,j0,v0)) b0 h ?_ ?_
 rintro ⟨g0,u0,j0,v0,p0,q0⟩ G0 x0 K1 ⟨v1,x1⟩ h
 try dsimp only at h
 refine Ai<|du 8 fun d0 t0=>Rv 0 d0 rfl t0 (fun _=>AU 0 rfl)<|Rx 1 384 d0 rfl t0 (AL rfl ((x0.memA .t2) 0 _ rfl))<|Rv 2 d0 rfl t0 (fun _=>AU 1 rfl)<|Rx 3 448 d0 rfl t0 (AL rfl ((x0.memA .t2) 1 _ rfl))<|Rv 4 d0 rfl t0 (fun _=>AU 1 rfl)<|Rx 5 448 d0 rfl t0 (AL rfl ((x0.memA .t1) 1 _ rfl))<|bk h fun v2 C1 h=>Bl 6 127 d0 rfl .plain (bd 188) rfl (e2 rfl rfl) (fun w9 hw9=>cq_c n (x0.hL hL hw9) (Aq x1 hw9) (Aq v1 hw9) C1) rfl fun j2 W1 q1 ⟨R1,hu_,y1⟩=>?_
 subst hu_
 obtain ⟨J0,M1⟩:=x0.agr q1
 refine bk h fun U0 D1 h=>Bl 7 255 d0 rfl .plain (bd 170) rfl (e2 rfl rfl) (fun w9 hw9=>ay_c n (J0.hL hL hw9) (Aq y1 hw9) D1) rfl fun k2 X1 s1 ⟨F0,hu_,P0⟩=>?_
 subst hu_
 obtain ⟨b1,P1⟩:=J0.agr s1
 refine Bz 8 511 d0 rfl rfl .plain (Ay (news:=[.bool U0.fe,F0]) b1 .hd rfl rfl rfl rfl rfl rfl (o2 rfl (AP P0))) fun p2 D0 g1=>AM (dk d0)<|Al rfl<|Ap hb0 func189 rfl (.cons (.many (cs:=[.bool U0.fe,F0]) rfl rfl (D0.memA .hd)) .nil) rfl ?_
 cases h
 exact ⟨D0.ag,fun w9 hw9=>⟨F0,rfl,D0.kd (Am P0 g1) hw9⟩⟩
 intro E1 H0 h
 try dsimp only at h
 refine AT rfl h (fun W0 h=>?_) (fun W0 h=>?_)
 refine Ao<|Ab (AF rfl (b0.memA .t1))<|Ab (AF rfl (b0.memA .t2))<|AQ [.bool a1.fe,v1_1] b0 .t2 (o2 rfl (AP (AS h1_1 b0))) fun q2 K0 j1=>AQ [.bool a0.fe,v0_1] K0 .t1 (o2 rfl (AP (AS h0_1 K0))) fun s2 B0 c1=>Aa<|H0 (a0.fe,a0.fo,a1.fe,a1.fo,v0_1,v1_1) B0 (Tt j1 c1) ⟨(AS h0_1 B0),(AS h1_1 B0)⟩ h
 refine Ar<|H0 (a1.fe,a1.fo,a0.fe,a0.fo,v1_1,v0_1) b0 (Bw _ _) ⟨(AS h1_1 b0),(AS h0_1 b0)⟩ h
def cd_p (n:Nat) (a0:Th) (a1:Th):Option (Th × Th):=
  (aU_p n a0.fo a1.fo).bind fun c0=>(ay_p n (!(a0.fe == a1.fe)) c0.1).bind fun d0=>(ay_p n a0.fe c0.2).bind fun b0=>(if b0.fe = true then (bV_p n b0 (⟨false,a1.fo⟩:Th)).bind fun j0=>(bV_p n d0 (⟨(!a1.fe),([(1:UInt64)]:List UInt64)⟩:Th)).bind fun g0=>some (g0,j0) else some (d0,b0))
theorem cd_c (n:Nat) {L w} (hL:hl L w) (a0:Th) {v0_1:Value} (h0_1:Rep.R w L [v0_1] a0.fo) (a1:Th) {v1_1:Value} (h1_1:Rep.R w L [v1_1] a1.fo)  {r:Th × Th} (h:cd_p n a0 a1 = some r) :
 Cl 198 #[.agg #[.bool a0.fe,v0_1],.agg #[.bool a1.fe,v1_1]] w (ah w fun w' u=>∃ v0_1 v1_1:Value,u = .tuple #[.agg #[.bool r.1.fe,v0_1],.agg #[.bool r.2.fe,v1_1]]/\Rep.R w' L [v0_1] r.1.fo/\Rep.R w' L [v1_1] r.2.fo):=by
 unfold cd_p at h
 refine AG func198 rfl rfl rfl fun _ cs0 hb0=>Ac<|RG.bx (Az w) rfl rfl fun x3 R2 K1 X2=>RG.bx K1 rfl rfl fun B3 U2 R1 Y2=>RG.nl [.bool false,vN] R1 fun C3 J0 U1 Z2=>RG.nl [.bool false,vN] U1 fun E3 K0 p0 b3=>Aa<|Ac<|AX 1 rfl<|AR rfl ((p0.memA .t3) 1 _ rfl)<|AX 1 rfl<|AR rfl ((p0.memA .t2) 1 _ rfl)<|bk h fun W3 G2 h=>jE (bd 152) rfl (e2 rfl rfl) (fun w9 hw9=>aU_c n (p0.hL hL hw9) (p0.km h0_1 hw9) (p0.km h1_1 hw9) G2) rfl fun F3 k3 u2 ⟨d3,g3,hu_,C2,D2⟩=>?_
 subst hu_
 obtain ⟨D0,c3⟩:=p0.agr u2
 refine Ae rfl<|Ab (Ah rfl rfl)<|Ab (Ah rfl rfl)<|Af rfl<|Af rfl<|Aa<|Ai<|du 11 fun b0 d0=>Rv 0 b0 rfl d0 (fun _=>AU 0 rfl)<|Rx 1 7248 b0 rfl d0 (AL rfl ((D0.memA .t3) 0 _ rfl))<|Rv 2 b0 rfl d0 (fun _=>AU 0 rfl)<|Rx 3 7248 b0 rfl d0 (AL rfl ((D0.memA .t2) 0 _ rfl))<|Rv 4 b0 rfl d0 (fun _=>FV.neqB (a:=a0.fe) (b:=a1.fe) underlying4 rfl rfl)<|Rv 5 b0 rfl d0 (fun _=>Ak rfl)<|Rv 7 b0 rfl d0 (fun _=>AU 0 rfl)<|Rx 8 7168 b0 rfl d0 (AL rfl ((D0.memA .t3) 0 _ rfl))<|Rv 9 b0 rfl d0 (fun _=>Ak rfl)<|bk h fun x0 H2 h=>Bl 6 1023 b0 rfl .plain (bd 170) rfl (e2 rfl rfl) (fun w9 hw9=>ay_c n (D0.hL hL hw9) (Aq C2 hw9) H2) rfl fun G3 p3 v2 ⟨t0,hu_,G0⟩=>?_
 subst hu_
 obtain ⟨s1,p2⟩:=D0.agr v2
 refine bk h fun y0 I2 h=>Bl 10 2047 b0 rfl .plain (bd 170) rfl (e2 rfl rfl) (fun w9 hw9=>ay_c n (s1.hL hL hw9) (Aq (Am D2 p2) hw9) I2) rfl fun H3 q3 x2 ⟨u0,hu_,X0⟩=>?_
 subst hu_
 obtain ⟨Y1,F0⟩:=s1.agr x2
 refine Bz 11 4095 b0 rfl rfl .plain (Ay (news:=[.bool x0.fe,t0]) Y1 .t1 rfl rfl rfl rfl rfl rfl (o2 rfl (AP (Am G0 F0)))) fun I3 Z1 k0=>Bz 12 8191 b0 rfl rfl .plain (Ay (news:=[.bool y0.fe,u0]) Z1 .hd rfl rfl rfl rfl rfl rfl (o2 rfl (AP (Am X0 k0)))) fun J3 c0 q0=>AM (dk b0)<|Ai<|Ac<|AX 0 rfl<|AR rfl ((c0.memA .hd) 0 _ rfl)<|Aa<|MX.ifb rfl h (fun I1 h=>?_) (fun I1 h=>?_)
 refine Ac<|AX 1 rfl<|AR rfl ((c0.memA .t2) 1 _ rfl) ?_
 obtain ⟨P2,W2,E2,_⟩:=BQ (AS h1_1 c0)
 refine Ab (AO (vs:=[v1_1]) (u:=.agg #[.bool false,v1_1]) (e1 rfl) (fun w9=>by rw [E2]; try kernel_rfl))<|RG.nl [.bool false,vN] c0 fun K3 V2 u1 C1=>AQ [.bool false,v1_1] u1 .hd (o2 rfl (AP (AS h1_1 u1))) fun M3 E0 D1=>Aa<|Ac<|Ab (AF rfl (E0.memA .t1))<|Ab (AF rfl (E0.memA .hd))<|bk h fun I0 J2 h=>jE (bd 189) rfl (e2 rfl rfl) (fun w9 hw9=>bV_c n (E0.hL hL hw9) y0 (Aq (Am X0 (Tt k0 (Tt q0 (Tt C1 D1)))) hw9) (⟨false,a1.fo⟩:Th) (E0.km h1_1 hw9) J2) rfl fun P3 s3 y2 ⟨v0,hu_,j1⟩=>?_
 subst hu_
 obtain ⟨b2,q2⟩:=E0.agr y2
 refine AQ [.bool I0.fe,v0] b2 .t1 (o2 rfl (AP j1)) fun Q3 v1 d1=>Aa<|Ac<|AX 0 rfl<|AR rfl ((v1.memA .t3) 0 _ rfl)<|Ab (Bp rfl)<|Aj .plain rfl (jA ((1:UInt64)) (vW 1) v1 cP (e1 rfl)) fun R3 M0 x1 g1=>Ab (AO (vs:=[.bool (!a1.fe),(vS M0 1)]) (u:=.agg #[.bool (!a1.fe),(vS M0 1)]) (e2 rfl rfl) (fun w9=>by kernel_rfl))<|RG.nl [.bool false,vN] x1 fun u3 Q2 q1 R0=>AQ [.bool (!a1.fe),(vS M0 1)] q1 .hd (o2 rfl (St.o1 (α:=UInt64) q1 .t1)) fun v3 z0 U0=>Aa<|Ao<|Ab (AF rfl (z0.memA .t4))<|Ab (AF rfl (z0.memA .hd)) ?_
 have Y0:=Br z0 .t1
 have Z0:=Bs z0 .t1
 refine bk h fun H0 F2 h=>jE (bd 189) rfl (e2 rfl rfl) (fun w9 hw9=>bV_c n (Y0.hL hL hw9) x0 (Aq (Am G0 (Tt F0 (Tt k0 (Tt q0 (Tt C1 (Tt D1 (Tt q2 (Tt d1 (Tt g1 (Tt R0 (Tt U0 Z0))))))))))) hw9) (⟨(!a1.fe),([(1:UInt64)]:List UInt64)⟩:Th) (Aq (Bu (α:=UInt64) (v:=(vS M0 1)) (xs:=([(1:UInt64)]:List UInt64)) Y0 L (Bf (α:=UInt64) z0 .t1 (AD (jC ((1:UInt64)) (vW 1) x1 L rfl) (Tt R0 U0)) hL)) hw9) F2) rfl fun y3 j3 s2 ⟨s0,hu_,W0⟩=>?_
 subst hu_
 obtain ⟨J1,y1⟩:=Y0.agr s2
 refine AQ [.bool H0.fe,s0] J1 .t3 (o2 rfl (AP W0)) fun z3 A0 V0=>Aa<|Ai<|du 2 fun g0 G1=>Rx 0 12 g0 rfl G1 (AF rfl (A0.memA .t3))<|RD.mo (α:=Unit) (fun ()=>[(4,vP J0),(5,vP K0),(46,.agg #[.bool I0.fe,v0])]) (fun ()=>[.cells K0 [.bool I0.fe,v0] 151,.cells J0 [.bool H0.fe,s0] 151]) A0 1 7 ?_ ?_
 rintro ⟨⟩ U3 M1 z1
 try dsimp only
 refine Bz 3 15 g0 rfl rfl .plain (Ay (news:=[.bool I0.fe,v0]) M1 .hd rfl rfl rfl rfl rfl rfl (o2 rfl (AP (Am j1 (Tt d1 (Tt g1 (Tt R0 (Tt U0 (Tt Z0 (Tt y1 (Tt V0 z1))))))))))) fun A3 B0 c2=>AM (dk g0)<|Al rfl<|Ap hb0 func198 rfl (.cons (.many (cs:=[.bool H0.fe,s0]) rfl rfl (B0.memA .t1)) (.cons (.many (cs:=[.bool I0.fe,v0]) rfl rfl (B0.memA .hd)) .nil)) rfl ?_
 cases h
 have E1:=Tt V0 (Tt z1 c2)
 exact ⟨B0.ag,fun w9 hw9=>⟨s0,v0,rfl,B0.kd (Am W0 E1) hw9,B0.kd (Am j1 (Tt d1 (Tt g1 (Tt R0 (Tt U0 (Tt Z0 (Tt y1 E1))))))) hw9⟩⟩
 intro k1
 refine BB [1,2] (rk g0) ⟨?_,?_,trivial⟩
 refine RO.val (m' :=3) (sk g0) rfl .plain rfl (AF rfl (A0.memA .t2)) ?_
 have A2:=Am W0 V0
 refine Bz 2 7 g0 rfl rfl .plain (Ay (news:=[.bool H0.fe,s0]) A0 .t3 rfl rfl rfl rfl rfl rfl (o2 rfl (AP A2))) fun M2 Q0 c1=>?_
 obtain ⟨P1,d2⟩:=AI Q0 (.a2 (.a2 .done))
 exact k1 () P1 (Tt c1 d2)
 refine RO.now (m' :=5) (sk g0) rfl rfl .plain (Ay (news:=[.bool H0.fe,s0]) A0 .t3 rfl rfl rfl rfl rfl rfl (o2 rfl (AP (Am W0 V0)))) fun M2 Q0 c1=>Rx 1 8 g0 rfl G1 (AF rfl (Q0.memA .t2)) ?_
 obtain ⟨Q1,g2⟩:=AI Q0 (.a2 (.a2 .done))
 exact k1 () Q1 (Tt c1 g2)
 refine Ar<|Ai<|du 2 fun j0 H1=>Rx 0 12 j0 rfl H1 (AF rfl (c0.memA .t1))<|RD.mo (α:=Unit) (fun ()=>[(4,vP J0),(5,vP K0),(46,.agg #[.bool y0.fe,u0])]) (fun ()=>[.cells K0 [.bool y0.fe,u0] 151,.cells J0 [.bool x0.fe,t0] 151]) c0 1 7 ?_ ?_
 rintro ⟨⟩ V3 V1 A1
 try dsimp only
 have F1:=Tt k0 (Tt q0 A1)
 refine Bz 3 15 j0 rfl rfl .plain (Ay (news:=[.bool y0.fe,u0]) V1 .hd rfl rfl rfl rfl rfl rfl (o2 rfl (AP (Am X0 F1)))) fun D3 C0 B1=>AM (dk j0)<|Al rfl<|Ap hb0 func198 rfl (.cons (.many (cs:=[.bool x0.fe,t0]) rfl rfl (C0.memA .t1)) (.cons (.many (cs:=[.bool y0.fe,u0]) rfl rfl (C0.memA .hd)) .nil)) rfl ?_
 cases h
 exact ⟨C0.ag,fun w9 hw9=>⟨t0,u0,rfl,C0.kd (Am G0 (Tt F0 (Tt k0 (Tt q0 (Tt A1 B1))))) hw9,C0.kd (Am X0 (Tt F1 B1)) hw9⟩⟩
 intro p1
 refine BB [1,2] (rk j0) ⟨?_,?_,trivial⟩
 refine RO.val (m' :=3) (sk j0) rfl .plain rfl (AF rfl (c0.memA .hd)) ?_
 have B2:=Tt F0 (Tt k0 q0)
 have z2:=Am G0 B2
 refine Bz 2 7 j0 rfl rfl .plain (Ay (news:=[.bool x0.fe,t0]) c0 .t1 rfl rfl rfl rfl rfl rfl (o2 rfl (AP z2))) fun K2 P0 b1=>?_
 obtain ⟨W1,j2⟩:=AI P0 (.a0 (.a0 .done))
 exact p1 () W1 (Tt b1 j2)
 refine RO.now (m' :=5) (sk j0) rfl rfl .plain (Ay (news:=[.bool x0.fe,t0]) c0 .t1 rfl rfl rfl rfl rfl rfl (o2 rfl (AP (Am G0 (Tt F0 (Tt k0 q0)))))) fun K2 P0 b1=>Rx 1 8 j0 rfl H1 (AF rfl (P0.memA .hd)) ?_
 obtain ⟨X1,k2⟩:=AI P0 (.a0 (.a0 .done))
 exact p1 () X1 (Tt b1 k2)
def cb_p (n:Nat) (a0:Th) (a1:Th):Option Tg:=
  (aL_p n a0 a1).bind fun c0=>(cd_p n a0 c0).bind fun d0=>(cd_p n a1 c0).bind fun b0=>(if b0.1.fe = true then (bE_p n d0.1).bind fun g0=>(bE_p n b0.1).bind fun j0=>some (⟨g0,j0⟩:Tg) else some (⟨d0.1,b0.1⟩:Tg))
theorem cb_c (n:Nat) {L w} (hL:hl L w) (a0:Th) {v0_1:Value} (h0_1:Rep.R w L [v0_1] a0.fo) (a1:Th) {v1_1:Value} (h1_1:Rep.R w L [v1_1] a1.fo)  {r:Tg} (h:cb_p n a0 a1 = some r) :
 Cl 164 #[.agg #[.bool a0.fe,v0_1],.agg #[.bool a1.fe,v1_1]] w (ah w fun w' u=>∃ v0_1 v0_3:Value,u = .agg #[.bool r.fB.fe,v0_1,.bool r.ft.fe,v0_3]/\Rep.R w' L [v0_1] r.fB.fo/\Rep.R w' L [v0_3] r.ft.fo):=by
 unfold cb_p at h
 refine AG func164 rfl rfl rfl fun _ cs0 hb0=>Ac<|RG.bx (Az w) rfl rfl fun k3 D2 z1 U2=>RG.bx z1 rfl rfl fun x3 E2 C1 V2=>RG.nl [.bool false,vN,.bool false,vN] C1 fun y3 F2 j0 W2=>Aa<|Ac<|Ab (AF rfl (j0.memA .t2))<|Ab (AF rfl (j0.memA .t1))<|bk h fun X0 q2 h=>jE (bd 112) rfl (e2 rfl rfl) (fun w9 hw9=>aL_c n (j0.hL hL hw9) a0 (j0.km h0_1 hw9) a1 (j0.km h1_1 hw9) q2) rfl fun z3 b3 W1 ⟨v2,hu_,W0⟩=>?_
 subst hu_
 obtain ⟨D1,X2⟩:=j0.agr W1
 refine RG.nl [.bool false,vN] D1 fun A3 G2 E1 J0=>AQ [.bool X0.fe,v2] E1 .hd (o2 rfl (AP (Am W0 J0))) fun B3 t0 d1=>Aa<|Ac<|Ab (AF rfl (t0.memA .t3))<|Ab (AF rfl (t0.memA .hd))<|bk h fun d0 s2 h=>jE (bd 198) rfl (e2 rfl rfl) (fun w9 hw9=>cd_c n (t0.hL hL hw9) a0 (t0.km h0_1 hw9) X0 (Aq (Am W0 (Tt J0 d1)) hw9) s2) rfl fun C3 c3 X1 ⟨q0,x2,hu_,F0,Z1⟩=>?_
 subst hu_
 obtain ⟨F1,R1⟩:=t0.agr X1
 refine Ae rfl<|Ab (Ah rfl rfl)<|Ab (Ah rfl rfl)<|RG.nl [.bool false,vN] F1 fun D3 H2 G1 K0=>RG.nl [.bool false,vN] G1 fun E3 I2 H1 M0=>AQ [.bool d0.1.fe,q0] H1 .t1 (o2 rfl (AP (Am F0 (Tt K0 M0)))) fun F3 I1 g1=>?_
 have R0:=Tt K0 (Tt M0 g1)
 refine AQ [.bool d0.2.fe,x2] I1 .hd (o2 rfl (AP (Am Z1 R0))) fun G3 u0 P0=>Aa<|Ac<|Ab (AF rfl (u0.memA .t4))<|Ab (AF rfl (u0.memA .t2))<|bk h fun g0 u2 h=>jE (bd 198) rfl (e2 rfl rfl) (fun w9 hw9=>cd_c n (u0.hL hL hw9) a1 (u0.km h1_1 hw9) X0 (Aq (Am W0 (Tt J0 (Tt d1 (Tt R1 (Tt K0 (Tt M0 (Tt g1 P0))))))) hw9) u2) rfl fun H3 d3 Y1 ⟨s0,y2,hu_,G0,b2⟩=>?_
 subst hu_
 obtain ⟨J1,j1⟩:=u0.agr Y1
 refine Ae rfl<|Ab (Ah rfl rfl)<|Ab (Ah rfl rfl)<|RG.nl [.bool false,vN] J1 fun I3 J2 K1 C0=>RG.nl [.bool false,vN] K1 fun J3 K2 M1 D0=>AQ [.bool g0.1.fe,s0] M1 .t1 (o2 rfl (AP (Am G0 (Tt C0 D0)))) fun K3 P1 Q0=>?_
 have E0:=Tt C0 (Tt D0 Q0)
 refine AQ [.bool g0.2.fe,y2] P1 .hd (o2 rfl (AP (Am b2 E0))) fun g3 b0 v0=>Aa<|Ai<|Ac<|AX 0 rfl<|AR rfl ((b0.memA .t1) 0 _ rfl)<|Aa<|MX.ifb rfl h (fun y1 h=>?_) (fun y1 h=>?_)
 refine du 4 fun c0 x1=>Rx 0 58 c0 rfl x1 (AF rfl (b0.memA .t3))<|Rx 2 56 c0 rfl x1 (AF rfl (b0.memA .t1))<|bk h fun x0 k2 h=>Bl 1 7 c0 rfl .plain (bd 138) rfl (e1 rfl) (fun w9 hw9=>bE_c n (b0.hL hL hw9) d0.1 (Aq (Am F0 (Tt R0 (Tt P0 (Tt j1 (Tt C0 (Tt D0 (Tt Q0 v0))))))) hw9) k2) rfl fun j3 Y2 U1 ⟨k0,hu_,U0⟩=>?_
 subst hu_
 obtain ⟨Y0,Q1⟩:=b0.agr U1
 refine bk h fun y0 p2 h=>Bl 3 15 c0 rfl .plain (bd 138) rfl (e1 rfl) (fun w9 hw9=>bE_c n (Y0.hL hL hw9) g0.1 (Aq (Am G0 (Tt E0 (Tt v0 Q1))) hw9) p2) rfl fun p3 Z2 V1 ⟨p0,hu_,V0⟩=>?_
 subst hu_
 obtain ⟨A1,Z0⟩:=Y0.agr V1
 refine Bz 4 31 c0 rfl rfl .plain (Ay (news:=[.bool x0.fe,k0]) A1 .t3 rfl rfl rfl rfl rfl rfl (o2 rfl (AP (Am U0 Z0)))) fun q3 B1 B0=>Bz 5 63 c0 rfl rfl .plain (Ay (news:=[.bool y0.fe,p0]) B1 .t1 rfl rfl rfl rfl rfl rfl (o2 rfl (AP (Am V0 B0)))) fun s3 H0 I0=>AM (dk c0)<|Ac<|Ab (AF rfl (H0.memA .t3))<|Ab (AF rfl (H0.memA .t1)) ?_
 have u1:=Tt Z0 (Tt B0 I0)
 have k1:=Am U0 u1
 obtain ⟨z2,M2,c2,_⟩:=BQ k1
 have p1:=Am V0 (Tt B0 I0)
 obtain ⟨A2,P2,d2,_⟩:=BQ p1
 refine Ab (AO (vs:=[.agg #[.bool x0.fe,k0],.agg #[.bool y0.fe,p0]]) (u:=.agg #[.bool x0.fe,k0,.bool y0.fe,p0]) (e2 rfl rfl) (fun w9=>by rw [c2,d2]; try kernel_rfl))<|AQ [.bool x0.fe,k0,.bool y0.fe,p0] H0 .t5 (o4 rfl (AP k1) rfl (AP p1)) fun u3 z0 b1=>Aa<|Al rfl<|Ap hb0 func164 rfl (.cons (.many (cs:=[.bool x0.fe,k0,.bool y0.fe,p0]) rfl rfl (z0.memA .t5)) .nil) rfl ?_
 cases h
 exact ⟨z0.ag,fun w9 hw9=>⟨k0,p0,rfl,z0.kd (Am U0 (Tt u1 b1)) hw9,z0.kd (Am V0 (Tt B0 (Tt I0 b1))) hw9⟩⟩
 refine Ar<|Ac<|Ab (AF rfl (b0.memA .t3))<|Ab (AF rfl (b0.memA .t1)) ?_
 have v1:=Tt R0 (Tt P0 (Tt j1 (Tt C0 (Tt D0 (Tt Q0 v0)))))
 have q1:=Am F0 v1
 obtain ⟨B2,Q2,g2,_⟩:=BQ q1
 have s1:=Am G0 (Tt E0 v0)
 obtain ⟨C2,R2,j2,_⟩:=BQ s1
 refine Ab (AO (vs:=[.agg #[.bool d0.1.fe,q0],.agg #[.bool g0.1.fe,s0]]) (u:=.agg #[.bool d0.1.fe,q0,.bool g0.1.fe,s0]) (e2 rfl rfl) (fun w9=>by rw [g2,j2]; try kernel_rfl))<|AQ [.bool d0.1.fe,q0,.bool g0.1.fe,s0] b0 .t5 (o4 rfl (AP q1) rfl (AP s1)) fun v3 A0 c1=>Aa<|Al rfl<|Ap hb0 func164 rfl (.cons (.many (cs:=[.bool d0.1.fe,q0,.bool g0.1.fe,s0]) rfl rfl (A0.memA .t5)) .nil) rfl ?_
 cases h
 exact ⟨A0.ag,fun w9 hw9=>⟨q0,s0,rfl,A0.kd (Am F0 (Tt v1 c1)) hw9,A0.kd (Am G0 (Tt E0 (Tt v0 c1))) hw9⟩⟩
theorem nZ {w:World} {L:List Nat} {cs:List Value} {x:U8} (h:Rep.R w L cs x):cs = [vU x.1,vU x.2.1,vU x.2.2.1,vU x.2.2.2.1,vU x.2.2.2.2.1,vU x.2.2.2.2.2.1,vU x.2.2.2.2.2.2.1,vU x.2.2.2.2.2.2.2]:=by
  obtain ⟨c0,r0,rfl,h0,h⟩:=h
  have e0:c0 = [vU x.1]:=h0; subst e0
  obtain ⟨c1,r1,rfl,h1,h⟩:=h
  have e1:c1 = [vU x.2.1]:=h1; subst e1
  obtain ⟨c2,r2,rfl,h2,h⟩:=h
  have e2:c2 = [vU x.2.2.1]:=h2; subst e2
  obtain ⟨c3,r3,rfl,h3,h⟩:=h
  have e3:c3 = [vU x.2.2.2.1]:=h3; subst e3
  obtain ⟨c4,r4,rfl,h4,h⟩:=h
  have e4:c4 = [vU x.2.2.2.2.1]:=h4; subst e4
  obtain ⟨c5,r5,rfl,h5,h⟩:=h
  have e5:c5 = [vU x.2.2.2.2.2.1]:=h5; subst e5
  obtain ⟨c6,r6,rfl,h6,h⟩:=h
  have e6:c6 = [vU x.2.2.2.2.2.2.1]:=h6; subst e6
  have e7:r6 = [vU x.2.2.2.2.2.2.2]:=h; subst e7
  rfl
theorem oC {w:World} {L:List Nat} (a0:UInt64) (a1:UInt64) (a2:UInt64) (a3:UInt64) (a4:UInt64) (a5:UInt64) (a6:UInt64) (a7:UInt64):Rep.R w L [vU a0,vU a1,vU a2,vU a3,vU a4,vU a5,vU a6,vU a7] ((a0,a1,a2,a3,a4,a5,a6,a7):U8):=⟨[vU a0],[vU a1,vU a2,vU a3,vU a4,vU a5,vU a6,vU a7],rfl,rfl,⟨[vU a1],[vU a2,vU a3,vU a4,vU a5,vU a6,vU a7],rfl,rfl,⟨[vU a2],[vU a3,vU a4,vU a5,vU a6,vU a7],rfl,rfl,⟨[vU a3],[vU a4,vU a5,vU a6,vU a7],rfl,rfl,⟨[vU a4],[vU a5,vU a6,vU a7],rfl,rfl,⟨[vU a5],[vU a6,vU a7],rfl,rfl,⟨[vU a6],[vU a7],rfl,rfl,rfl⟩⟩⟩⟩⟩⟩⟩
theorem kM {a b:U8} (h0:a.1 = b.1) (h1:a.2.1 = b.2.1) (h2:a.2.2.1 = b.2.2.1) (h3:a.2.2.2.1 = b.2.2.2.1) (h4:a.2.2.2.2.1 = b.2.2.2.2.1) (h5:a.2.2.2.2.2.1 = b.2.2.2.2.2.1) (h6:a.2.2.2.2.2.2.1 = b.2.2.2.2.2.2.1) (h7:a.2.2.2.2.2.2.2 = b.2.2.2.2.2.2.2):a = b:=Prod.ext h0 (Prod.ext h1 (Prod.ext h2 (Prod.ext h3 (Prod.ext h4 (Prod.ext h5 (Prod.ext h6 (h7)))))))
theorem lR (a b:U8) (w9:World):(do eqGuard .eql 36 (.tmp 0) (.tmp 0) (.agg #[vU a.1,vU a.2.1,vU a.2.2.1,vU a.2.2.2.1,vU a.2.2.2.2.1,vU a.2.2.2.2.2.1,vU a.2.2.2.2.2.2.1,vU a.2.2.2.2.2.2.2]) (.agg #[vU b.1,vU b.2.1,vU b.2.2.1,vU b.2.2.2.1,vU b.2.2.2.2.1,vU b.2.2.2.2.2.1,vU b.2.2.2.2.2.2.1,vU b.2.2.2.2.2.2.2]); binOp .eql 36 (.agg #[vU a.1,vU a.2.1,vU a.2.2.1,vU a.2.2.2.1,vU a.2.2.2.2.1,vU a.2.2.2.2.2.1,vU a.2.2.2.2.2.2.1,vU a.2.2.2.2.2.2.2]) (.agg #[vU b.1,vU b.2.1,vU b.2.2.1,vU b.2.2.2.1,vU b.2.2.2.2.1,vU b.2.2.2.2.2.1,vU b.2.2.2.2.2.2.1,vU b.2.2.2.2.2.2.2]):Sem Value).run Tryz.prog w9 = .ok (.bool (decide (a = b))) w9:=
  eqAgg (ks:=[.int .u64,.int .u64,.int .u64,.int .u64,.int .u64,.int .u64,.int .u64,.int .u64]) (xs:=[vU a.1,vU a.2.1,vU a.2.2.1,vU a.2.2.2.1,vU a.2.2.2.2.1,vU a.2.2.2.2.2.1,vU a.2.2.2.2.2.2.1,vU a.2.2.2.2.2.2.2]) (ys:=[vU b.1,vU b.2.1,vU b.2.2.1,vU b.2.2.2.1,vU b.2.2.2.2.1,vU b.2.2.2.2.2.1,vU b.2.2.2.2.2.2.1,vU b.2.2.2.2.2.2.2]) (by kernel_rfl) (by kernel_rfl) (by kernel_rfl) rfl rfl ⟨fun h=>by
    simp only [bJ,veq,Bool.and_eq_true,beq_iff_eq,and_true] at h
    obtain ⟨h0,h1,h2,h3,h4,h5,h6,h7⟩:=h
    exact kM (az h0) (az h1) (az h2) (az h3) (az h4) (az h5) (az h6) (az h7),fun h=>by subst h; simp [bJ,veq]⟩ _ _ w9
def dN_p (n:Nat) (a0:U8) (a1:U8):Option (Ta × Int):=
  (if a1 = (0,0,0,0,0,0,0,0) then some ((⟨(0,0,0,0,0,0,0,0),(0,0,0,0,0,0,0,0)⟩:Ta),(7:Int)) else (bZ_p n a0).bind fun c0=>(bZ_p n a1).bind fun d0=>(cb_p n c0 d0).bind fun g0=>(bU_p n g0).bind fun b0=>some (b0.1,b0.2))
theorem dN_c (n:Nat) {L w} (hL:hl L w) (a0:U8) (a1:U8)  {r:Ta × Int} (h:dN_p n a0 a1 = some r) :
 Cl 132 #[.agg ((ak a0)).toArray,.agg ((ak a1)).toArray] w (ah w fun _ u=>u = .tuple #[.agg ((ab r.1)).toArray,vI r.2]):=by
 unfold dN_p at h
 refine AG func132 rfl rfl rfl fun _ cs0 hb0=>Ac<|RG.bx (Az w) rfl rfl fun s1 P0 u0 U0=>RG.bx u0 rfl rfl fun u1 Q0 v0 V0=>RG.nl zL v0 fun v1 R0 c0 W0=>Af rfl<|Aa<|Ai<|Ac<|Ab (AF rfl (c0.memA .t1))<|Ab (AO (vs:=[]) (u:=.agg zQ) aj (fun w9=>by kernel_rfl))<|Ab (FV.eqlV (v:=.agg ((ak a1)).toArray) (u:=.agg zQ) rfl rfl (lR a1 (0,0,0,0,0,0,0,0)))<|Aa<|AT rfl h (fun t0 h=>?_) (fun t0 h=>?_)
 refine Ac<|Ab (AO (vs:=[]) (u:=.agg zM) aj (fun w9=>by kernel_rfl))<|AQ zL c0 .hd (ai rfl) fun x1 k0 X0=>Af rfl<|Aa<|Al rfl<|Ap hb0 func132 rfl (.cons (.many (cs:=zL) rfl rfl (k0.memA .hd)) (.cons (.tmp rfl) .nil)) rfl ?_
 cases h
 exact k0.gv
 refine Ar<|Ai<|du 8 fun b0 d0=>Rx 0 1018 b0 rfl d0 (AF rfl (c0.memA .t2))<|Rx 2 1016 b0 rfl d0 (AF rfl (c0.memA .t1))<|bk h fun J0 F0 h=>Bl 1 7 b0 rfl .plain (bd 151) rfl (e1 rfl) (fun w9 hw9=>bZ_c n (c0.hL hL hw9) a0 F0) rfl fun w32 k1 y0 ⟨c1,hu_,B0⟩=>?_
 subst hu_
 obtain ⟨p0,Y0⟩:=c0.agr y0
 refine bk h fun K0 G0 h=>Bl 3 15 b0 rfl .plain (bd 151) rfl (e1 rfl) (fun w9 hw9=>bZ_c n (p0.hL hL hw9) a1 G0) rfl fun y1 p1 z0 ⟨d1,hu_,C0⟩=>?_
 subst hu_
 obtain ⟨q0,x0⟩:=p0.agr z0
 refine bk h fun M0 H0 h=>Bl 4 31 b0 rfl .plain (bd 164) rfl (e2 rfl rfl) (fun w9 hw9=>cb_c n (q0.hL hL hw9) J0 (Aq (Am B0 x0) hw9) K0 (Aq C0 hw9) H0) rfl fun z1 q1 A0 ⟨g1,j1,hu_,D0,E0⟩=>?_
 subst hu_
 obtain ⟨g0,Z0⟩:=q0.agr A0
 refine bk h fun j0 I0 h=>BG 5 63 960 (.tuple #[.agg ((ab j0.1)).toArray,vI j0.2]) b0 rfl d0 (bd 135) rfl (e1 rfl) (fun w9 hw9=>bU_c n (g0.hL0 hL hw9) M0 (g0.kd D0 hw9) (g0.kd E0 hw9) I0) rfl<|Rv 6 b0 rfl d0 (fun _=>Ah rfl rfl)<|Rv 7 b0 rfl d0 (fun _=>Ah rfl rfl)<|Bz 8 511 b0 rfl rfl .plain (Ay (news:=(ab j0.1)) g0 .hd rfl rfl rfl rfl rfl rfl (ai rfl)) fun A1 s0 b1=>Rv 9 b0 rfl d0 (fun _=>Bh rfl)<|AM (dk b0)<|Al rfl<|Ap hb0 func132 rfl (.cons (.many (cs:=(ab j0.1)) rfl rfl (s0.memA .hd)) (.cons (.tmp rfl) .nil)) rfl ?_
 cases h
 exact s0.gv
def dE_l1 (_n:Nat) (t0:Nat × U8 -> Option (U8)):Nat × U8 -> Option (U8)
  | (b0,c0,d0,g0,j0,k0,p0,q0,s0)=>(if b0 < 8 then (([c0,d0,g0,j0,k0,p0,q0,s0]:List UInt64)[b0]?).bind fun _z71=>t0 (b0 + 1,ax b0 0 (18446744073709551615:UInt64) c0,ax b0 1 (18446744073709551615:UInt64) d0,ax b0 2 (18446744073709551615:UInt64) g0,ax b0 3 (18446744073709551615:UInt64) j0,ax b0 4 (18446744073709551615:UInt64) k0,ax b0 5 (18446744073709551615:UInt64) p0,ax b0 6 (18446744073709551615:UInt64) q0,ax b0 7 (18446744073709551615:UInt64) s0) else some (c0,d0,g0,j0,k0,p0,q0,s0))
def dE_p (n:Nat) (a0:Int):Option (U8):=
  (if a0 < 0 then Option.bind (am (dE_l1 n) n (1,ac a0,0,0,0,0,0,0,0)) (fun (b0,c0,d0,g0,j0,k0,p0,q0)=>some (b0,c0,d0,g0,j0,k0,p0,q0)) else some (ac a0,0,0,0,0,0,0,0))
theorem dE_c (n:Nat) {L w} (_hL:hl L w) {a0:Int}  {r:U8} (h:dE_p n a0 = some r) :
 Cl 133 #[vI a0] w (ah w fun _ u=>u = .agg ((ak r)).toArray):=by
 unfold dE_p at h
 refine AG func133 rfl rfl rfl fun _ cs0 hb0=>Ac<|RG.nl zP (Az w) fun Y0 y0 E0 P0=>Aa<|Ac<|Ae rfl<|Ab (FV.convU (i:=a0) underlying3 underlying34 rfl)<|Ab (AO (vs:=[vW ((ac a0).toNat:Int)]) (u:=.agg #[vW ((ac a0).toNat:Int),vW 0,vW 0,vW 0,vW 0,vW 0,vW 0,vW 0]) (e1 rfl) (fun w9=>by kernel_rfl))<|RG.nl zP E0 fun Z0 u0 F0 Q0=>AQ [vW ((ac a0).toNat:Int),vW 0,vW 0,vW 0,vW 0,vW 0,vW 0,vW 0] F0 .hd (ai rfl) fun b1 v0 R0=>Aa<|Ai<|Ac<|Ae rfl<|Ab (BK (i:=a0) (j:=0) rfl rfl)<|Aa<|AT rfl h (fun B0 h=>?_) (fun B0 h=>?_)
 refine Ac<|Af rfl<|Aa<|AA ?_
 obtain ⟨X0,K0,J0⟩:=aq h
 refine MX.lo (α:=Nat × U8) (fun ⟨b0,c0,d0,g0,j0,k0,p0,q0,s0⟩=>[(2,vP y0),(3,vP u0),(4,vI ((b0:Nat):Int))]) (fun ⟨b0,c0,d0,g0,j0,k0,p0,q0,s0⟩=>[.cells u0 [vU c0,vU d0,vU g0,vU j0,vU k0,vU p0,vU q0,vU s0] 36,.cells y0 zP 36]) (fun ⟨b0,c0,d0,g0,j0,k0,p0,q0,s0⟩=>(b0,c0,d0,g0,j0,k0,p0,q0,s0)) (1,ac a0,0,0,0,0,0,0,0) K0 v0 ?_
 rintro M0 ⟨b0,c0,d0,g0,j0,k0,p0,q0,s0⟩ j1 D0 t0 H0 h
 unfold dE_l1 at h
 try dsimp only at h
 refine Ai<|Ac<|Ae rfl<|Ab (Bq (i:=b0) (j:=8) rfl rfl)<|Aa<|AT rfl h (fun C0 h=>?_) (fun C0 h=>?_)
 refine Ar<|Ai<|AA<|Ao<|Ae rfl<|bk h fun k1 x0 h=>?_
 have W0:=aQ (p:=⟨u0,0,none⟩) (cs:=([c0,d0,g0,j0,k0,p0,q0,s0]:List UInt64).map (fun z9:UInt64=>(vU z9:Value)) ++ []) (i:=b0) (t0.memA .hd) (bI (fun z9:UInt64=>(vU z9:Value)) x0)
 refine Ab (Bc (m:=1) (k:=b0) (len:=8) rfl rfl rfl rfl (bb x0 rfl))<|BU .plain (Acts.storeArr (fun z9:UInt64=>(vU z9:Value)) (xs:=([c0,d0,g0,j0,k0,p0,q0,s0]:List UInt64)) (pre:=[]) (post:=[]) (i:=b0) (m:=8) (x:=(18446744073709551615:UInt64)) (old:=[vU c0,vU d0,vU g0,vU j0,vU k0,vU p0,vU q0,vU s0]) (new' :=[vW ((ax b0 0 (18446744073709551615:UInt64) c0).toNat:Int),vW ((ax b0 1 (18446744073709551615:UInt64) d0).toNat:Int),vW ((ax b0 2 (18446744073709551615:UInt64) g0).toNat:Int),vW ((ax b0 3 (18446744073709551615:UInt64) j0).toNat:Int),vW ((ax b0 4 (18446744073709551615:UInt64) k0).toNat:Int),vW ((ax b0 5 (18446744073709551615:UInt64) p0).toNat:Int),vW ((ax b0 6 (18446744073709551615:UInt64) q0).toNat:Int),vW ((ax b0 7 (18446744073709551615:UInt64) s0).toNat:Int)]) rfl rfl (bb x0 rfl) t0 .hd rfl (gm _ _ _) rfl rfl (fun _=>⟨rfl,rfl⟩) rfl rfl) fun c1 G0 I0=>Aa<|AC<|Ao<|Ae rfl<|Ab (Bn (i:=b0) (j:=1) rfl rfl (by omega))<|Af rfl<|Aa<|D0 (b0 + 1,ax b0 0 (18446744073709551615:UInt64) c0,ax b0 1 (18446744073709551615:UInt64) d0,ax b0 2 (18446744073709551615:UInt64) g0,ax b0 3 (18446744073709551615:UInt64) j0,ax b0 4 (18446744073709551615:UInt64) k0,ax b0 5 (18446744073709551615:UInt64) p0,ax b0 6 (18446744073709551615:UInt64) q0,ax b0 7 (18446744073709551615:UInt64) s0) G0 (Tt H0 I0) h
 refine Be rfl ?_
 have h:=J0 _ h
 try dsimp only at h
 refine Ac<|Ab (AF rfl (t0.memA .hd))<|AQ [vU c0,vU d0,vU g0,vU j0,vU k0,vU p0,vU q0,vU s0] t0 .t1 (ai rfl) fun d1 z0 U0=>Aa<|Al rfl<|Ap hb0 func133 rfl (.cons (.many (cs:=[vU c0,vU d0,vU g0,vU j0,vU k0,vU p0,vU q0,vU s0]) rfl rfl (z0.memA .t1)) .nil) rfl ?_
 cases h
 exact z0.gv
 refine Ar<|Ac<|Ab (AF rfl (v0.memA .hd))<|AQ [vW ((ac a0).toNat:Int),vW 0,vW 0,vW 0,vW 0,vW 0,vW 0,vW 0] v0 .t1 (ai rfl) fun g1 A0 V0=>Aa<|Al rfl<|Ap hb0 func133 rfl (.cons (.many (cs:=[vW ((ac a0).toNat:Int),vW 0,vW 0,vW 0,vW 0,vW 0,vW 0,vW 0]) rfl rfl (A0.memA .t1)) .nil) rfl ?_
 cases h
 exact A0.gv
def dG_p (n:Nat) (a0:Int) (a1:Int):Option (Ta × Int):=
  (dE_p n a0).bind fun c0=>(dE_p n a1).bind fun d0=>(dN_p n c0 d0).bind fun b0=>some (b0.1,b0.2)
theorem dG_c (n:Nat) {L w} (hL:hl L w) {a0:Int} {a1:Int}  {r:Ta × Int} (h:dG_p n a0 a1 = some r) :
 Cl 83 #[vI a0,vI a1] w (ah w fun _ u=>u = .tuple #[.agg ((ab r.1)).toArray,vI r.2]):=by
 unfold dG_p at h
 refine AG func83 rfl rfl rfl fun _ cs0 hb0=>Ac<|RG.nl zL (Az w) fun v0 s0 b0 t0=>Af rfl<|Aa<|Ac<|Ae rfl<|bk h fun g0 k0 h=>Bi (.agg ((ak g0)).toArray) (bd 133) rfl (e1 rfl) (fun w9 hw9=>dE_c n (b0.hL0 hL hw9)  k0) rfl<|Ae rfl<|bk h fun j0 p0 h=>Bi (.agg ((ak j0)).toArray) (bd 133) rfl (e1 rfl) (fun w9 hw9=>dE_c n (b0.hL0 hL hw9)  p0) rfl<|bk h fun c0 q0 h=>Bi (.tuple #[.agg ((ab c0.1)).toArray,vI c0.2]) (bd 132) rfl (e2 rfl rfl) (fun w9 hw9=>dN_c n (b0.hL0 hL hw9) g0 j0 q0) rfl<|Ab (Ah rfl rfl)<|Ab (Ah rfl rfl)<|AQ (ab c0.1) b0 .hd (ai rfl) fun x0 d0 u0=>Af rfl<|Aa<|Al rfl<|Ap hb0 func83 rfl (.cons (.many (cs:=(ab c0.1)) rfl rfl (d0.memA .hd)) (.cons (.tmp rfl) .nil)) rfl ?_
 cases h
 exact d0.gv
def al_p (n:Nat) (a0:Int) (a1:Int):Option (Except Te Ta):=
  (dG_p n a0 a1).bind fun b0=>(ae_p n b0.1 b0.2).bind fun d0=>exc d0 (fun g0=>some (.ok g0)) (fun c0=>some (.error c0))
theorem al_c (n:Nat) {L w} (hL:hl L w) {a0:Int} {a1:Int}  {r:Except Te Ta} (h:al_p n a0 a1 = some r) :
 Cl 51 #[vI a0,vI a1] w (aK w (fun (y:Ta) _ u=>u = .agg ((ab y)).toArray) (fun e=>.iface 145 (.agg #[vI e.fE])) r):=by
 unfold al_p at h
 refine BO func51 rfl rfl rfl fun _ cs0 hb0 hp0=>Ac<|RG.nl zL (Az w) fun y0 s0 b0 u0=>Aa<|Ac<|Ae rfl<|Ae rfl<|bk h fun c0 q0 h=>Bi (.tuple #[.agg ((ab c0.1)).toArray,vI c0.2]) (bd 83) rfl (e2 rfl rfl) (fun w9 hw9=>dG_c n (b0.hL0 hL hw9)  q0) rfl<|Ab (Ah rfl rfl)<|Ab (Ah rfl rfl)<|xk h (fun t0 d0 h=>?_) (fun g0 d0 h=>?_)
 refine BC (fst:=[]) (cap:=[]) .plain (bd 48) rfl (e2 rfl rfl) (fun w9 hw9=>ae_c n (b0.hL0 hL hw9) c0.1 d0) fun z0 p0=>?_
 obtain ⟨k0,v0⟩:=b0.agr p0
 cases h
 exact AZ hp0 func51 ⟨k0.ag,rfl⟩
 refine Bi (.agg ((ab g0)).toArray) (bd 48) rfl (e2 rfl rfl) (fun w9 hw9=>AV (ae_c n (b0.hL0 hL hw9) c0.1 d0)) rfl<|AQ (ab g0) b0 .hd (ai rfl) fun A0 j0 x0=>Aa<|Al rfl<|Ap hb0 func51 rfl (.cons (.many (cs:=(ab g0)) rfl rfl (j0.memA .hd)) .nil) rfl ?_
 cases h
 exact ⟨j0.ag,fun w9 hw9=>aC rfl⟩
def bA_p (n:Nat) (a0:Tj):Option (Except Te Ta):=
  (if a0.fall = 0 then (al_p n (0:Int) (1:Int)).bind fun d0=>exc d0 (fun g0=>some (.ok g0)) (fun b0=>some (.error b0)) else (al_p n a0.fL a0.fall).bind fun j0=>exc j0 (fun k0=>some (.ok k0)) (fun c0=>some (.error c0)))
theorem bA_c (n:Nat) {L w} (hL:hl L w) (a0:Tj)  {r:Except Te Ta} (h:bA_p n a0 = some r) :
 Cl 42 #[.agg #[vI a0.fL,vI a0.fall]] w (aK w (fun (y:Ta) _ u=>u = .agg ((ab y)).toArray) (fun e=>.iface 145 (.agg #[vI e.fE])) r):=by
 unfold bA_p at h
 refine BO func42 rfl rfl rfl fun _ cs0 hb0 hp0=>Ac<|RG.bx (Az w) rfl rfl fun I0 y0 s0 C0=>RG.nl zL s0 fun J0 z0 b0 D0=>Aa<|Ai<|Ac<|AX 1 rfl<|AR rfl ((b0.memA .t1) 1 _ rfl)<|Ab (FV.eql (i:=a0.fall) (j:=0) rfl rfl)<|Aa<|AT rfl h (fun q0 h=>?_) (fun q0 h=>?_)
 refine Ac<|xk h (fun A0 c0 h=>?_) (fun g0 c0 h=>?_)
 refine BC (fst:=[]) (cap:=[]) .plain (bd 51) rfl (e2 rfl rfl) (fun w9 hw9=>al_c n (b0.hL0 hL hw9)  c0) fun K0 v0=>?_
 obtain ⟨t0,E0⟩:=b0.agr v0
 cases h
 exact AZ hp0 func42 ⟨t0.ag,rfl⟩
 refine Bi (.agg ((ab g0)).toArray) (bd 51) rfl (e2 rfl rfl) (fun w9 hw9=>AV (al_c n (b0.hL0 hL hw9)  c0)) rfl<|AQ (ab g0) b0 .hd (ai rfl) fun M0 k0 F0=>Aa<|Al rfl<|Ap hb0 func42 rfl (.cons (.many (cs:=(ab g0)) rfl rfl (k0.memA .hd)) .nil) rfl ?_
 cases h
 exact ⟨k0.ag,fun w9 hw9=>aC rfl⟩
 refine Ar<|Ac<|AX 0 rfl<|AR rfl ((b0.memA .t1) 0 _ rfl)<|AX 1 rfl<|AR rfl ((b0.memA .t1) 1 _ rfl)<|xk h (fun B0 d0 h=>?_) (fun j0 d0 h=>?_)
 refine BC (fst:=[]) (cap:=[]) .plain (bd 51) rfl (e2 rfl rfl) (fun w9 hw9=>al_c n (b0.hL0 hL hw9)  d0) fun P0 x0=>?_
 obtain ⟨u0,G0⟩:=b0.agr x0
 cases h
 exact AZ hp0 func42 ⟨u0.ag,rfl⟩
 refine Bi (.agg ((ab j0)).toArray) (bd 51) rfl (e2 rfl rfl) (fun w9 hw9=>AV (al_c n (b0.hL0 hL hw9)  d0)) rfl<|AQ (ab j0) b0 .hd (ai rfl) fun Q0 p0 H0=>Aa<|Al rfl<|Ap hb0 func42 rfl (.cons (.many (cs:=(ab j0)) rfl rfl (p0.memA .hd)) .nil) rfl ?_
 cases h
 exact ⟨p0.ag,fun w9 hw9=>aC rfl⟩
theorem gO {w:World} {L:List Nat} {cs:List Value} {x:Ta} (h:Rep.R w L cs x):cs = [vU x.fN.1,vU x.fN.2.1,vU x.fN.2.2.1,vU x.fN.2.2.2.1,vU x.fN.2.2.2.2.1,vU x.fN.2.2.2.2.2.1,vU x.fN.2.2.2.2.2.2.1,vU x.fN.2.2.2.2.2.2.2,vU x.fD.1,vU x.fD.2.1,vU x.fD.2.2.1,vU x.fD.2.2.2.1,vU x.fD.2.2.2.2.1,vU x.fD.2.2.2.2.2.1,vU x.fD.2.2.2.2.2.2.1,vU x.fD.2.2.2.2.2.2.2]:=by
  obtain ⟨c0,r0,rfl,h0,h⟩:=h
  obtain rfl:=nZ (x:=x.fN) h0
  obtain rfl:=nZ (x:=x.fD) h
  rfl
theorem br {w:World} {L:List Nat} (a0:U8) (a1:U8):Rep.R w L [vU a0.1,vU a0.2.1,vU a0.2.2.1,vU a0.2.2.2.1,vU a0.2.2.2.2.1,vU a0.2.2.2.2.2.1,vU a0.2.2.2.2.2.2.1,vU a0.2.2.2.2.2.2.2,vU a1.1,vU a1.2.1,vU a1.2.2.1,vU a1.2.2.2.1,vU a1.2.2.2.2.1,vU a1.2.2.2.2.2.1,vU a1.2.2.2.2.2.2.1,vU a1.2.2.2.2.2.2.2] (⟨a0,a1⟩:Ta):=⟨[vU a0.1,vU a0.2.1,vU a0.2.2.1,vU a0.2.2.2.1,vU a0.2.2.2.2.1,vU a0.2.2.2.2.2.1,vU a0.2.2.2.2.2.2.1,vU a0.2.2.2.2.2.2.2],[vU a1.1,vU a1.2.1,vU a1.2.2.1,vU a1.2.2.2.1,vU a1.2.2.2.2.1,vU a1.2.2.2.2.2.1,vU a1.2.2.2.2.2.2.1,vU a1.2.2.2.2.2.2.2],rfl,oC a0.1 a0.2.1 a0.2.2.1 a0.2.2.2.1 a0.2.2.2.2.1 a0.2.2.2.2.2.1 a0.2.2.2.2.2.2.1 a0.2.2.2.2.2.2.2,oC a1.1 a1.2.1 a1.2.2.1 a1.2.2.2.1 a1.2.2.2.2.1 a1.2.2.2.2.2.1 a1.2.2.2.2.2.2.1 a1.2.2.2.2.2.2.2⟩
theorem dU:ElT Tryz.prog 53 38 (Rep.size Ta) 128 (.agg zM) zL:=⟨underlying53,by kernel_rfl,rfl,rfl,rfl,rfl⟩
def bj_l1 (n:Nat) (d0:List Tj) (g0:Nat × (List Ta) -> Option ((Except Te (List Ta)) ⊕ (List Ta))):Nat × (List Ta) -> Option ((Except Te (List Ta)) ⊕ (List Ta))
  | (b0,c0)=>(if b0 < d0.length then (d0[b0]?).bind fun k0=>(bA_p n k0).bind fun q0=>exc q0 (fun s0=>(app c0 ([s0]:List Ta)).bind fun p0=>g0 (b0 + 1,p0)) (fun j0=>some (.inl (.error j0))) else some (.inr c0))
def bj_p (n:Nat) (a0:Td) (a1:List Int) (a2:Int) (a3:Int):Option (Except Te (List Ta)):=
  (ap_p n a0 a1 a2 a3).bind fun y1=>exc y1 (fun d0=>thn (am (bj_l1 n d0) n (0,([]:List Ta))) (fun c0=>some (.ok c0))) (fun b0=>some (.error b0))
theorem bj_c (n:Nat) {L w} (hL:hl L w) (a0:Td) {v0_3:Value} (h0_3:Rep.R w L [v0_3] a0.fu) {p0:Nat} (m0:∀ j9 v9,([vI a0.fj,vI a0.fh,vI a0.fl,v0_3]:List Value)[j9]? = some v9 -> w.cell? ((⟨p0,0,none⟩:Addr).add j9) = some v9) {a1:List Int} {v1_0:Value} (h1_0:Rep.R w L [v1_0] a1) {p1:Nat} (m1:∀ j9 v9,([v1_0]:List Value)[j9]? = some v9 -> w.cell? ((⟨p1,0,none⟩:Addr).add j9) = some v9) {a2:Int} {p2:Nat} (m2:∀ j9 v9,([vI a2]:List Value)[j9]? = some v9 -> w.cell? ((⟨p2,0,none⟩:Addr).add j9) = some v9) {a3:Int} {p3:Nat} (m3:∀ j9 v9,([vI a3]:List Value)[j9]? = some v9 -> w.cell? ((⟨p3,0,none⟩:Addr).add j9) = some v9)  {r:Except Te (List Ta)} (h:bj_p n a0 a1 a2 a3 = some r) :
 Cl 40 #[.pointer (some ⟨p0,0,none⟩),.pointer (some ⟨p1,0,none⟩),.pointer (some ⟨p2,0,none⟩),.pointer (some ⟨p3,0,none⟩)] w (aK w (fun (y:List Ta) w' u=>∃ v0_0:Value,u = v0_0/\Rep.R w' L [v0_0] y) (fun e=>.iface 145 (.agg #[vI e.fE])) r):=by
 unfold bj_p at h
 have hS0:=Az w
 refine BO func40 rfl rfl rfl fun _ cs0 hb0 hp0=>Ac<|Af rfl<|Aa<|Ai<|Ac<|Ab (AF rfl (fun j9 v9 h9=>hS0.ag.cell0 (m0 j9 v9 h9)))<|AR rfl ((fun j9 v9 h9=>hS0.ag.cell0 (m1 j9 v9 h9)) 0 _ rfl)<|AR rfl ((fun j9 v9 h9=>hS0.ag.cell0 (m2 j9 v9 h9)) 0 _ rfl)<|AR rfl ((fun j9 v9 h9=>hS0.ag.cell0 (m3 j9 v9 h9)) 0 _ rfl)<|xk h (fun G1 hy1 h=>?_) (fun t0 hy1 h=>?_)
 refine BC (fst:=[]) (cap:=[]) .plain (bd 41) rfl (e4 rfl rfl rfl rfl) (fun w9 hw9=>ap_c n (hS0.hL hL hw9) a0 (Aq h0_3 hw9) (Aq h1_0 hw9) hy1) fun U1 Y0=>?_
 obtain ⟨K0,I1⟩:=hS0.agr Y0
 cases h
 exact AZ hp0 func40 ⟨K0.ag,rfl⟩
 refine jE (bd 41) rfl (e4 rfl rfl rfl rfl) (fun w9 hw9=>AV (ap_c n (hS0.hL hL hw9) a0 (Aq h0_3 hw9) (Aq h1_0 hw9) hy1)) rfl fun b2 y1 b1 ⟨R1,hu_,x0⟩=>?_
 subst hu_
 obtain ⟨z0,M1⟩:=hS0.agr b1
 have P1:t0.length <= 281474976710656:=Ba x0
 refine Ab (Bg (xs:=t0) underlying96 rfl x0)<|Ae rfl<|Aa<|AA ?_
 have A0:=z0.nilRow 38 (Rep.size Ta)
 refine tn h fun Q1 k1 E0=>MX.lf (α:=Nat × (List Ta) × Value × (List Value)) (fun ⟨b0,g0,d0,j0⟩=>[(4,d0),(11,y1),(12,vI ((t0.length:Nat):Int)),(13,vI ((b0:Nat):Int))]) (fun ⟨b0,g0,d0,j0⟩=>[rr w 38 Ta d0 g0.length j0]) (fun ⟨b0,g0,d0,j0⟩ G0=>Cells G0 (bl [rr w 38 Ta d0 g0.length j0] ++ L) j0 g0) (fun ⟨b0,g0,d0,j0⟩=>(b0,g0)) (0,([]:List Ta),vN,[]) k1 A0 (AE (cs:=[]) (xs:=([]:List Ta)) A0 L (AK _ _)) ?_
 rintro B1 ⟨b0,g0,d0,j0⟩ G0 J0 q0 B0 D0 h
 unfold bj_l1 at h
 try dsimp only at h
 refine Ac<|Ab (Bq (i:=b0) (j:=t0.length) rfl rfl)<|Aa<|Ai<|AT rfl h (fun H0 h=>?_) (fun H0 h=>?_)
 refine Ar<|Ai<|AA<|Ac<|bk h fun s0 u1 h=>?_
 obtain ⟨A1,E1,d1,g1,F1,q1,j1⟩:=Bk (Am x0 (Tt (St.nilRowT z0 38 (Rep.size Ta)) B0)) u1
 obtain rfl:=fX q1
 refine Ab (Bj 2 b0 rfl d1 rfl rfl g1)<|Ab (AF rfl j1)<|RG.nl [vI 0,vI 0] q0 fun V1 C1 M0 U0=>AQ [vI s0.fL,vI s0.fall] M0 .hd (ai rfl) fun W1 k0 V0=>Aa<|Ao<|Ae rfl<|Ab (AF rfl (k0.memA .hd))<|xk h (fun H1 y0 h=>?_) (fun c0 y0 h=>?_)
 have h:=au h E0
 refine BC (fst:=[]) (cap:=[]) .plain (bd 42) rfl (e1 rfl) (fun w9 hw9=>bA_c n (k0.hL0 hL hw9) s0 y0) fun X1 Z0=>?_
 obtain ⟨P0,J1⟩:=k0.agr Z0
 cases h
 exact AZ hp0 func40 ⟨P0.ag,rfl⟩
 refine Bi (.agg ((ab c0)).toArray) (bd 42) rfl (e1 rfl) (fun w9 hw9=>AV (bA_c n (k0.hL0 hL hw9) s0 y0)) rfl<|Aj .plain rfl (AN (α:=Ta) (xs:=([c0]:List Ta)) (vs:=[.agg ((ab c0)).toArray]) (ds' :=(ab c0)) rfl k0 dU rfl (e1 rfl) (by kernel_rfl) rfl) fun Y1 D1 u0 W0=>bk h fun z1 v1 h=>?_
 have F0:=Tt U0 (Tt V0 W0)
 refine RG.doesL .plain rfl (Bo (α:=Ta) (ys:=([c0]:List Ta)) v1 u0 (fun _ _=>.t2) dU rfl rfl (AD D0 F0) (Src.row (α:=Ta) u0 .hd (AE (cs:=(ab c0)) (xs:=(([c0]:List Ta):List Ta)) u0 L (Aw (cs:=(ab c0)) (ds:=[]) (br c0.fN c0.fD) (AK _ _))))) fun x1 Z1 ⟨I0,Q0,X0,c1⟩=>Af rfl<|Aa<|AC<|Ao<|Ab (Bn (i:=b0) (j:=1) rfl rfl (by omega))<|Ae rfl<|Aa ?_
 obtain ⟨R0,C0⟩:=AI Q0 .d2
 exact J0 (b0 + 1,z1,x1,I0) R0 (Tt B0 (Tt F0 (Tt X0 C0))) (AD c1 C0) h
 refine Be rfl ?_
 have h:=aF h E0
 try dsimp only at h
 refine Ac<|Ae rfl<|Af rfl<|Aa<|Al rfl ?_
 have v0:=Br q0 .hd
 have K1:=Bs q0 .hd
 have s1:=Bu (α:=Ta) (v:=d0) (xs:=g0) v0 L (Bf (α:=Ta) q0 .hd D0 hL)
 refine AY hb0 func40 rfl rfl ?_
 cases h
 exact ⟨v0.ag,fun w9 hw9=>aC ⟨d0,rfl,v0.kd s1 hw9⟩⟩
def bT_p (n:Nat) (a0:Td) (a1:List Int) (a2:Int) (a3:Int):Option ((List Ta) × Int):=
  (bj_p n a0 a1 a2 a3).bind fun c0=>exc c0 (fun d0=>some (d0,(0:Int))) (fun b0=>some (([]:List Ta),b0.fE))
theorem bT_c (n:Nat) {L w} (hL:hl L w) (a0:Td) {v0_3:Value} (h0_3:Rep.R w L [v0_3] a0.fu) {a1:List Int} {v1_0:Value} (h1_0:Rep.R w L [v1_0] a1) {a2:Int} {a3:Int}  {r:(List Ta) × Int} (h:bT_p n a0 a1 a2 a3 = some r) :
 Cl 12 #[.agg #[vI a0.fj,vI a0.fh,vI a0.fl,v0_3],v1_0,vI a2,vI a3] w (ah w fun w' u=>∃ v0_0:Value,u = .tuple #[v0_0,vI r.2]/\Rep.R w' L [v0_0] r.1):=by
 unfold bT_p at h
 refine AG func12 rfl rfl rfl fun _ cs0 hb0=>Ac<|RG.bx (Az w) rfl rfl fun R1 g0 E0 D1=>RG.bx E0 rfl (Rep.c1 (AS h1_0 E0)) fun Y1 j0 P0 E1=>RG.bx P0 rfl rfl fun Z1 k0 Q0 F1=>RG.bx Q0 rfl rfl fun b2 p0 R0 G1=>Af rfl<|Af rfl<|Aa<|Ac<|Ab (BP (vs:=[]) (us:=[vP g0,vP j0,vP k0,vP p0]) aj (e4 rfl rfl rfl rfl))<|By (fst:=[]) (cap:=[]) (vs:=[.func (.func 40) #[] #[vP g0,vP j0,vP k0,vP p0]]) .plain (bd 39) func39 rfl rfl rfl rfl (e1 rfl) rfl fun z1 F0 P1=>Ac<|RG.nl [vN] R0 fun c2 q0 U0 H1=>RG.nl [vI 0] U0 fun d2 d0 b0 I1=>Aa<|Ac<|Ab (BP (vs:=[]) (us:=[vP q0,vP d0]) aj (e2 rfl rfl))<|RG.defer (fst:=[]) (cap:=[vP q0,vP d0]) (vs:=[]) rfl .plain rfl aj<|Aa<|Ac<|Ae rfl<|xk h (fun t0 A0 h=>?_) (fun q2 A0 h=>?_)
 refine BC (fst:=[]) (cap:=[vP g0,vP j0,vP k0,vP p0]) .plain (bd 40) rfl aj (fun w9 hw9=>bj_c n (b0.hL hL hw9) a0 (b0.km h0_3 hw9) (ao hw9 (b0.memA .t5)) (b0.km h1_0 hw9) (ao hw9 (b0.memA .t4)) (ao hw9 (b0.memA .t3)) (ao hw9 (b0.memA .t2)) A0) fun g2 j1=>?_
 obtain ⟨V0,J1⟩:=b0.agr j1
 refine PN.callD (vs:=[]) (cap:=[vP q0,vP d0]) (bd 88) func88 rfl rfl rfl fun y1 k1 q1=>Ac<|RG.recover1 .plain k1 rfl<|Af rfl<|Aa<|Ac<|Ae rfl<|Ab (FV.neqI underlying20 rfl rfl)<|Aa<|Bb rfl<|Ac<|Ae rfl<|Ab (FV.assertT rfl rfl)<|Ae rfl<|Ab (Ah rfl rfl)<|Ab (Ah rfl rfl)<|RG.nl [vI 0] V0 fun j2 v1 W0 K1=>AQ [vI t0.fE] W0 .hd (o1 rfl) fun k2 v0 M1=>Af rfl<|Aa<|Ai<|Ac<|Ae rfl<|Ab (Bp rfl)<|Aa<|BI rfl<|Ar<|Ac<|Af rfl<|Aa<|du 3 fun c0 B0=>Rv 0 c0 rfl B0 (fun _=>Ak rfl)<|Rv 1 c0 rfl B0 (fun _=>AU 0 rfl)<|RD.mo (α:=Unit) (fun ()=>[(1,vP d0),(19,vI t0.fE)]) (fun ()=>[.cells d0 [vI 0] 54,.cells q0 [vN] 53,.cells p0 [vI a3] 3,.cells k0 [vI a2] 3,.cells j0 [v1_0] 41,.cells g0 [vI a0.fj,vI a0.fh,vI a0.fl,v0_3] 46]) v0 1 15 ?_ ?_
 rintro ⟨⟩ p2 H0 A1
 try dsimp only
 refine Bz 4 31 c0 rfl rfl .plain (Ay (news:=[vI t0.fE]) H0 .hd rfl rfl rfl rfl rfl rfl (o1 rfl)) fun U1 s0 B1=>AM (dk c0)<|MX.fin rfl<|RT.leaveD1 q1 func88 rfl .nil<|Ap (u:=.tuple #[vN,vI t0.fE]) F0 func39 rfl (.cons (.one rfl rfl ((s0.memA .t1) 0 _ rfl)) (.cons (.one rfl rfl ((s0.memA .hd) 0 _ rfl)) .nil)) rfl<|Ab (Ah rfl rfl)<|Ab (Ah rfl rfl)<|Af rfl<|Af rfl<|Aa<|Al rfl ?_
 have s1:=BS (α:=Ta) s0 L
 refine Ap hb0 func12 rfl (.cons (.tmp rfl) (.cons (.tmp rfl) .nil)) rfl ?_
 cases h
 exact ⟨s0.ag,fun w9 hw9=>⟨vN,rfl,s0.kd s1 hw9⟩⟩
 intro D0
 refine BB [2,3] (rk c0) ⟨?_,?_,trivial⟩
 refine RO.val (m' :=7) (sk c0) rfl .plain rfl (AL rfl ((v0.memA .hd) 0 _ rfl))<|Bz 3 15 c0 rfl rfl .plain (Ay (news:=[vN]) v0 .t2 rfl rfl rfl rfl rfl rfl (o1 rfl)) fun u1 x0 y0=>?_
 obtain ⟨I0,X0⟩:=AI x0 .d1
 exact D0 () I0 (Tt y0 X0)
 refine RO.now (m' :=11) (sk c0) rfl rfl .plain (Ay (news:=[vN]) v0 .t2 rfl rfl rfl rfl rfl rfl (o1 rfl)) fun u1 x0 y0=>Rx 2 16 c0 rfl B0 (AL rfl ((x0.memA .hd) 0 _ rfl)) ?_
 obtain ⟨J0,Y0⟩:=AI x0 .d1
 exact D0 () J0 (Tt y0 Y0)
 refine Bd (fst:=[]) (cap:=[vP g0,vP j0,vP k0,vP p0]) .plain (bd 40) rfl aj (fun w9 hw9=>AV (bj_c n (b0.hL hL hw9) a0 (b0.km h0_3 hw9) (ao hw9 (b0.memA .t5)) (b0.km h1_0 hw9) (ao hw9 (b0.memA .t4)) (ao hw9 (b0.memA .t3)) (ao hw9 (b0.memA .t2)) A0)) rfl fun V1 C0 g1 ⟨Q1,hu_,z0⟩=>?_
 subst hu_
 obtain ⟨K0,C1⟩:=b0.agr g1
 refine BU .plain (Ay (news:=[C0]) K0 .t1 rfl rfl rfl (Rep.c1 z0) rfl rfl (o1 (AP z0))) fun W1 M0 Z0=>AQ [vI 0] M0 .hd (o1 rfl) fun X1 u0 b1=>Aa<|Al rfl<|RT.callD (vs:=[]) (cap:=[vP q0,vP d0]) (bd 88) func88 rfl rfl rfl fun x1 G0 p1=>Ac<|RG.recover0 .plain G0 rfl<|Af rfl<|Aa<|Ac<|Ae rfl<|Ab (FV.neqI0 underlying20 rfl rfl)<|Aa<|BI rfl<|Ar<|MX.fin rfl<|RT.leaveD0 G0 p1 func88 rfl .nil<|Ap (u:=.tuple #[C0,vI 0]) F0 func39 rfl (.cons (.one rfl rfl ((u0.memA .t1) 0 _ rfl)) (.cons (.one rfl rfl ((u0.memA .hd) 0 _ rfl)) .nil)) rfl<|Ab (Ah rfl rfl)<|Ab (Ah rfl rfl)<|Af rfl<|Af rfl<|Aa<|Al rfl<|Ap hb0 func12 rfl (.cons (.tmp rfl) (.cons (.tmp rfl) .nil)) rfl ?_
 cases h
 exact ⟨u0.ag,fun w9 hw9=>⟨C0,rfl,u0.kd (Am z0 (Tt Z0 b1)) hw9⟩⟩
def ba_p (n:Nat) (a0:Tg) (a1:Int):Option (Ta × Int):=
  (if a1 = 0 then (bU_p n a0).bind fun b0=>some (b0.1,b0.2) else some ((⟨(0,0,0,0,0,0,0,0),(0,0,0,0,0,0,0,0)⟩:Ta),a1))
theorem ba_c (n:Nat) {L w} (hL:hl L w) (a0:Tg) {v0_1:Value} (h0_1:Rep.R w L [v0_1] a0.fB.fo) {v0_3:Value} (h0_3:Rep.R w L [v0_3] a0.ft.fo) {a1:Int}  {r:Ta × Int} (h:ba_p n a0 a1 = some r) :
 Cl 92 #[.agg #[.bool a0.fB.fe,v0_1,.bool a0.ft.fe,v0_3],vI a1] w (ah w fun _ u=>u = .tuple #[.agg ((ab r.1)).toArray,vI r.2]):=by
 unfold ba_p at h
 refine AG func92 rfl rfl rfl fun _ cs0 hb0=>Ac<|RG.bx (Az w) rfl rfl fun z0 s0 p0 u0=>RG.nl zL p0 fun A0 t0 b0 v0=>Af rfl<|Aa<|Ai<|Ac<|Ae rfl<|Ab (FV.neq (i:=a1) (j:=0) rfl rfl)<|Aa<|MX.ifn rfl h (fun j0 h=>?_) (fun j0 h=>?_)
 refine Ar<|Ac<|Ab (AF rfl (b0.memA .t1))<|bk h fun c0 q0 h=>Bi (.tuple #[.agg ((ab c0.1)).toArray,vI c0.2]) (bd 135) rfl (e1 rfl) (fun w9 hw9=>bU_c n (b0.hL0 hL hw9) a0 (b0.k0 h0_1 hw9) (b0.k0 h0_3 hw9) q0) rfl<|Ab (Ah rfl rfl)<|Ab (Ah rfl rfl)<|AQ (ab c0.1) b0 .hd (ai rfl) fun B0 d0 x0=>Af rfl<|Aa<|Al rfl<|Ap hb0 func92 rfl (.cons (.many (cs:=(ab c0.1)) rfl rfl (d0.memA .hd)) (.cons (.tmp rfl) .nil)) rfl ?_
 cases h
 exact d0.gv
 refine Ac<|Ab (AO (vs:=[]) (u:=.agg zM) aj (fun w9=>by kernel_rfl))<|Ae rfl<|AQ zL b0 .hd (ai rfl) fun C0 g0 y0=>Af rfl<|Aa<|Al rfl<|Ap hb0 func92 rfl (.cons (.many (cs:=zL) rfl rfl (g0.memA .hd)) (.cons (.tmp rfl) .nil)) rfl ?_
 cases h
 exact g0.gv
def aJ_p (n:Nat) (a0:Ta):Option Tg:=
  (bZ_p n a0.fN).bind fun b0=>(bZ_p n a0.fD).bind fun c0=>some (⟨b0,c0⟩:Tg)
theorem aJ_c (n:Nat) {L w} (hL:hl L w) (a0:Ta)  {r:Tg} (h:aJ_p n a0 = some r) :
 Cl 110 #[.agg ((ab a0)).toArray] w (ah w fun w' u=>∃ v0_1 v0_3:Value,u = .agg #[.bool r.fB.fe,v0_1,.bool r.ft.fe,v0_3]/\Rep.R w' L [v0_1] r.fB.fo/\Rep.R w' L [v0_3] r.ft.fo):=by
 unfold aJ_p at h
 refine AG func110 rfl rfl rfl fun _ cs0 hb0=>Ac<|RG.bx (Az w) rfl rfl fun X0 J0 z0 Q0=>RG.nl [.bool false,vN,.bool false,vN] z0 fun Y0 K0 j0 R0=>Aa<|Ai<|du 7 fun b0 c0=>Rv 0 b0 rfl c0 (fun _=>AU 0 rfl)<|Rx 1 228 b0 rfl c0 (AW (cs:=(ak a0.fN)) rfl rfl (ae (j0.memA .t1) 0 8))<|Rv 3 b0 rfl c0 (fun _=>AU 8 rfl)<|Rx 4 224 b0 rfl c0 (AW (cs:=(ak a0.fD)) rfl rfl (ae (j0.memA .t1) 8 8))<|bk h fun p0 F0 h=>Bl 2 31 b0 rfl .plain (bd 151) rfl (e1 rfl) (fun w9 hw9=>bZ_c n (j0.hL hL hw9) a0.fN F0) rfl fun Z0 V0 B0 ⟨d0,hu_,y0⟩=>?_
 subst hu_
 obtain ⟨t0,U0⟩:=j0.agr B0
 refine bk h fun q0 G0 h=>Bl 5 63 b0 rfl .plain (bd 151) rfl (e1 rfl) (fun w9 hw9=>bZ_c n (t0.hL hL hw9) a0.fD G0) rfl fun b1 W0 C0 ⟨g0,hu_,s0⟩=>?_
 subst hu_
 obtain ⟨A0,u0⟩:=t0.agr C0
 have x0:=Am y0 u0
 obtain ⟨H0,M0,D0,_⟩:=BQ x0
 obtain ⟨I0,P0,E0,_⟩:=BQ s0
 refine Rv 6 b0 rfl c0 (fun _=>AO (vs:=[.agg #[.bool p0.fe,d0],.agg #[.bool q0.fe,g0]]) (u:=.agg #[.bool p0.fe,d0,.bool q0.fe,g0]) (e2 rfl rfl) (fun w9=>by rw [D0,E0]; try kernel_rfl))<|Bz 7 255 b0 rfl rfl .plain (Ay (news:=[.bool p0.fe,d0,.bool q0.fe,g0]) A0 .hd rfl rfl rfl rfl rfl rfl (o4 rfl (AP x0) rfl (AP s0))) fun c1 k0 v0=>AM (dk b0)<|Al rfl<|Ap hb0 func110 rfl (.cons (.many (cs:=[.bool p0.fe,d0,.bool q0.fe,g0]) rfl rfl (k0.memA .hd)) .nil) rfl ?_
 cases h
 exact ⟨k0.ag,fun w9 hw9=>⟨d0,g0,rfl,k0.kd (Am y0 (Tt u0 v0)) hw9,k0.kd (Am s0 v0) hw9⟩⟩
def dO_p (n:Nat) (a0:Int):Option Th:=
  (dE_p n a0).bind fun b0=>(bZ_p n b0).bind fun c0=>some c0
theorem dO_c (n:Nat) {L w} (hL:hl L w) {a0:Int}  {r:Th} (h:dO_p n a0 = some r) :
 Cl 109 #[vI a0] w (ah w fun w' u=>∃ v0_1:Value,u = .agg #[.bool r.fe,v0_1]/\Rep.R w' L [v0_1] r.fo):=by
 unfold dO_p at h
 refine AG func109 rfl rfl rfl fun _ cs0 hb0=>Ac<|RG.nl [.bool false,vN] (Az w) fun A0 v0 b0 x0=>Aa<|Ac<|Ae rfl<|bk h fun j0 t0 h=>Bi (.agg ((ak j0)).toArray) (bd 133) rfl (e1 rfl) (fun w9 hw9=>dE_c n (b0.hL0 hL hw9)  t0) rfl<|bk h fun k0 u0 h=>jE (bd 151) rfl (e1 rfl) (fun w9 hw9=>bZ_c n (b0.hL hL hw9) j0 u0) rfl fun B0 z0 s0 ⟨d0,hu_,g0⟩=>?_
 subst hu_
 obtain ⟨p0,y0⟩:=b0.agr s0
 refine AQ [.bool k0.fe,d0] p0 .hd (o2 rfl (AP g0)) fun C0 c0 q0=>Aa<|Al rfl<|Ap hb0 func109 rfl (.cons (.many (cs:=[.bool k0.fe,d0]) rfl rfl (c0.memA .hd)) .nil) rfl ?_
 cases h
 exact ⟨c0.ag,fun w9 hw9=>⟨d0,rfl,c0.kd (Am g0 q0) hw9⟩⟩
def cJ_p (_n:Nat) (a0:Th):Option Int:=
  (if a0.fe = true then some (-1:Int) else (if a0.fo.length = 0 then some (0:Int) else some (1:Int)))
theorem cJ_c (n:Nat) {L w} (_hL:hl L w) (a0:Th) {v0_1:Value} (h0_1:Rep.R w L [v0_1] a0.fo)  {r:Int} (h:cJ_p n a0 = some r) :
 Cl 111 #[.agg #[.bool a0.fe,v0_1]] w (ah w fun _ u=>u = vI r):=by
 unfold cJ_p at h
 refine AG func111 rfl rfl rfl fun _ cs0 hb0=>Ac<|RG.bx (Az w) rfl rfl fun q0 j0 b0 k0=>Af rfl<|Aa<|Ai<|AA<|Ac<|AX 0 rfl<|AR rfl ((b0.memA .hd) 0 _ rfl)<|Af rfl<|Aa<|MX.ifb rfl h (fun d0 h=>?_) (fun d0 h=>?_)
 refine Ac<|Af rfl<|Aa<|Al rfl<|AY hb0 func111 rfl rfl ?_
 cases h
 exact b0.gv
 refine Ac<|AX 1 rfl<|AR rfl ((b0.memA .hd) 1 _ rfl) ?_
 have c0:=AS h0_1 b0
 have p0:a0.fo.length <= 281474976710656:=Ba c0
 refine Ab (Bg (xs:=a0.fo) underlying149 rfl c0)<|Ab (BM (i:=a0.fo.length) (j:=0) rfl rfl)<|Af rfl<|Aa<|AT rfl h (fun g0 h=>?_) (fun g0 h=>?_)
 refine Ac<|Af rfl<|Aa<|Al rfl<|AY hb0 func111 rfl rfl ?_
 cases h
 exact b0.gv
 refine Ar<|AC<|Ac<|Af rfl<|Aa<|Al rfl<|AY hb0 func111 rfl rfl ?_
 cases h
 exact b0.gv
def dn_p (n:Nat) (a0:Th) (a1:Th):Option Th:=
  (bE_p n a1).bind fun b0=>(bV_p n a0 b0).bind fun c0=>some c0
theorem dn_c (n:Nat) {L w} (hL:hl L w) (a0:Th) {v0_1:Value} (h0_1:Rep.R w L [v0_1] a0.fo) (a1:Th) {v1_1:Value} (h1_1:Rep.R w L [v1_1] a1.fo)  {r:Th} (h:dn_p n a0 a1 = some r) :
 Cl 153 #[.agg #[.bool a0.fe,v0_1],.agg #[.bool a1.fe,v1_1]] w (ah w fun w' u=>∃ v0_1:Value,u = .agg #[.bool r.fe,v0_1]/\Rep.R w' L [v0_1] r.fo):=by
 unfold dn_p at h
 refine AG func153 rfl rfl rfl fun _ cs0 hb0=>Ac<|RG.bx (Az w) rfl rfl fun R0 D0 s0 G0=>RG.bx s0 rfl rfl fun U0 E0 t0 H0=>RG.nl [.bool false,vN] t0 fun V0 F0 c0 I0=>Aa<|Ai<|du 4 fun b0 p0=>Rx 0 24 b0 rfl p0 (AF rfl (c0.memA .t2))<|Rx 1 28 b0 rfl p0 (AF rfl (c0.memA .t1))<|bk h fun C0 A0 h=>Bl 2 7 b0 rfl .plain (bd 138) rfl (e1 rfl) (fun w9 hw9=>bE_c n (c0.hL hL hw9) a1 (c0.km h1_1 hw9) A0) rfl fun W0 P0 x0 ⟨M0,hu_,z0⟩=>?_
 subst hu_
 obtain ⟨d0,J0⟩:=c0.agr x0
 refine bk h fun q0 B0 h=>Bl 3 15 b0 rfl .plain (bd 189) rfl (e2 rfl rfl) (fun w9 hw9=>bV_c n (d0.hL hL hw9) a0 (d0.km h0_1 hw9) C0 (Aq z0 hw9) B0) rfl fun X0 Q0 y0 ⟨j0,hu_,k0⟩=>?_
 subst hu_
 obtain ⟨u0,K0⟩:=d0.agr y0
 refine Bz 4 31 b0 rfl rfl .plain (Ay (news:=[.bool q0.fe,j0]) u0 .hd rfl rfl rfl rfl rfl rfl (o2 rfl (AP k0))) fun Y0 g0 v0=>AM (dk b0)<|Al rfl<|Ap hb0 func153 rfl (.cons (.many (cs:=[.bool q0.fe,j0]) rfl rfl (g0.memA .hd)) .nil) rfl ?_
 cases h
 exact ⟨g0.ag,fun w9 hw9=>⟨j0,rfl,g0.kd (Am k0 v0) hw9⟩⟩
def cB_p (n:Nat) (a0:Th) (a1:Th):Option Int:=
  (dn_p n a0 a1).bind fun b0=>(cJ_p n b0).bind fun c0=>some c0
theorem cB_c (n:Nat) {L w} (hL:hl L w) (a0:Th) {v0_1:Value} (h0_1:Rep.R w L [v0_1] a0.fo) (a1:Th) {v1_1:Value} (h1_1:Rep.R w L [v1_1] a1.fo)  {r:Int} (h:cB_p n a0 a1 = some r) :
 Cl 113 #[.agg #[.bool a0.fe,v0_1],.agg #[.bool a1.fe,v1_1]] w (ah w fun _ u=>u = vI r):=by
 unfold cB_p at h
 refine AG func113 rfl rfl rfl fun _ cs0 hb0=>Ac<|RG.bx (Az w) rfl rfl fun B0 t0 d0 v0=>RG.bx d0 rfl rfl fun C0 u0 b0 x0=>Af rfl<|Aa<|Ac<|Ab (AF rfl (b0.memA .t1))<|Ab (AF rfl (b0.memA .hd))<|bk h fun q0 k0 h=>jE (bd 153) rfl (e2 rfl rfl) (fun w9 hw9=>dn_c n (b0.hL hL hw9) a0 (b0.km h0_1 hw9) a1 (b0.km h1_1 hw9) k0) rfl fun D0 A0 g0 ⟨z0,hu_,j0⟩=>?_
 subst hu_
 obtain ⟨c0,y0⟩:=b0.agr g0
 refine bk h fun s0 p0 h=>Bi (vI s0) (bd 111) rfl (e1 rfl) (fun w9 hw9=>cJ_c n (c0.hL0 hL hw9) q0 (c0.kd j0 hw9) p0) rfl<|Af rfl<|Aa<|Al rfl<|AY hb0 func113 rfl rfl ?_
 cases h
 exact c0.gv
def cH_p (n:Nat) (a0:Ta):Option Int:=
  (dO_p n (1:Int)).bind fun c0=>(aJ_p n a0).bind fun b0=>(cJ_p n b0.ft).bind fun d0=>(if d0 <= 0 then some (20:Int) else (aL_p n b0.fB b0.ft).bind fun g0=>(cB_p n g0 c0).bind fun j0=>(if j0 = 0 then some (0:Int) else some (20:Int)))
theorem cH_c (n:Nat) {L w} (hL:hl L w) (a0:Ta)  {r:Int} (h:cH_p n a0 = some r) :
 Cl 62 #[.agg ((ab a0)).toArray] w (ah w fun _ u=>u = vI r):=by
 unfold cH_p at h
 refine AG func62 rfl rfl rfl fun _ cs0 hb0=>Ac<|RG.bx (Az w) rfl rfl fun y1 g1 t0 p1=>Af rfl<|Aa<|Ac<|bk h fun B0 W0 h=>jE (bd 109) rfl (e1 rfl) (fun w9 hw9=>dO_c n (t0.hL hL hw9)  W0) rfl fun z1 u1 Q0 ⟨c1,hu_,x0⟩=>?_
 subst hu_
 obtain ⟨G0,q1⟩:=t0.agr Q0
 refine RG.nl [.bool false,vN] G0 fun A1 j1 H0 u0=>AQ [.bool B0.fe,c1] H0 .hd (o2 rfl (AP (Am x0 u0))) fun B1 p0 K0=>Aa<|Ac<|Ab (AF rfl (p0.memA .t1))<|bk h fun g0 X0 h=>jE (bd 110) rfl (e1 rfl) (fun w9 hw9=>aJ_c n (p0.hL hL hw9) a0 X0) rfl fun C1 v1 R0 ⟨A0,s0,hu_,y0,z0⟩=>?_
 subst hu_
 obtain ⟨I0,M0⟩:=p0.agr R0
 refine RG.nl [.bool false,vN,.bool false,vN] I0 fun D1 k1 J0 k0=>AQ [.bool g0.fB.fe,A0,.bool g0.ft.fe,s0] J0 .hd (o4 rfl (AP (Am y0 k0)) rfl (AP (Am z0 k0))) fun E1 d0 q0=>Aa<|Ai<|Ai<|du 14 fun b0 c0=>Rv 0 b0 rfl c0 (fun _=>AU 2 rfl)<|Rx 1 16380 b0 rfl c0 (AW (cs:=[.bool g0.ft.fe,s0]) rfl rfl (ae (d0.memA .hd) 2 2))<|bk h fun C0 Y0 h=>?_
 have v0:=Am z0 (Tt k0 q0)
 refine BG 2 7 16376 (vI C0) b0 rfl c0 (bd 111) rfl (e1 rfl) (fun w9 hw9=>cJ_c n (d0.hL0 hL hw9) g0.ft (d0.kd v0 hw9) Y0) rfl<|Rv 3 b0 rfl c0 (fun _=>FV.leq (i:=C0) (j:=0) rfl rfl)<|Rv 4 b0 rfl c0 (fun _=>Ak rfl)<|RD.ifd (s:=12) rfl h (fun E0 h=>?_) (fun E0 h=>?_)
 refine BN 8191 1 [(5,13),(6,14),(7,15),(8,16),(9,17),(10,18),(11,19),(12,20)] (F:=[(12,true)]) (U:=[]) b0 c0 (.cons rfl .nil) .nil ?_
 dsimp only [bf,List.map]
 refine Rv 13 b0 rfl c0 (fun _=>BY rfl rfl)<|AM (dk b0)<|Bb rfl<|Ac<|Af rfl<|Aa<|Al rfl<|AY hb0 func62 rfl rfl ?_
 cases h
 exact d0.gv
 refine RD.vP 5 63 b0 rfl c0 (.yes rfl rfl) (fun _=>AU 0 rfl) rfl<|RD.val (i:=6) (m' :=127) (W:=14848) (tk b0) rfl c0 (.yes rfl rfl) (AW (cs:=[.bool g0.fB.fe,A0]) rfl rfl (ae (d0.memA .hd) 0 2)) rfl<|RD.vP 7 255 b0 rfl c0 (.yes rfl rfl) (fun _=>AU 2 rfl) rfl<|RD.val (i:=8) (m' :=511) (W:=14848) (tk b0) rfl c0 (.yes rfl rfl) (AW (cs:=[.bool g0.ft.fe,s0]) rfl rfl (ae (d0.memA .hd) 2 2)) rfl<|RD.val (i:=10) (m' :=1535) (W:=14336) (tk b0) rfl c0 (.yes rfl rfl) (AF rfl (d0.memA .t1)) rfl<|bk h fun d1 Z0 h=>Bl 9 2047 b0 rfl (.yes rfl rfl) (bd 112) rfl (e2 rfl rfl) (fun w9 hw9=>aL_c n (d0.hL hL hw9) g0.fB (Aq (Am y0 (Tt k0 q0)) hw9) g0.ft (Aq v0 hw9) Z0) rfl fun F1 x1 U0 ⟨s1,hu_,V0⟩=>?_
 subst hu_
 obtain ⟨j0,P0⟩:=d0.agr U0
 refine bk h fun D0 b1 h=>RD.callq (i:=11) (m' :=4095) (W:=12288) (tk b0) rfl c0 (v:=vI D0) (fst:=[]) (cap:=[]) (.yes rfl rfl) (bd 113) rfl (e2 rfl rfl) (fun w9 hw9=>cB_c n (j0.hL0 hL hw9) d1 (j0.kd V0 hw9) B0 (j0.kd (Am x0 (Tt u0 (Tt K0 (Tt M0 (Tt k0 (Tt q0 P0)))))) hw9) b1) rfl<|RD.vP 12 8191 b0 rfl c0 (.yes rfl rfl) (fun _=>FV.neq (i:=D0) (j:=0) rfl rfl) rfl<|Rv 13 b0 rfl c0 (fun _=>Bx rfl rfl)<|AM (dk b0)<|MX.ifn rfl h (fun F0 h=>?_) (fun F0 h=>?_)
 refine Ar<|Ac<|Af rfl<|Aa<|Al rfl<|AY hb0 func62 rfl rfl ?_
 cases h
 exact j0.gv
 refine Ac<|Af rfl<|Aa<|Al rfl<|AY hb0 func62 rfl rfl ?_
 cases h
 exact j0.gv
def dA_p (n:Nat) (a0:Ta):Option Bool:=
  (cH_p n a0).bind fun b0=>some (decide (b0 = 0))
theorem dA_c (n:Nat) {L w} (hL:hl L w) (a0:Ta)  {r:Bool} (h:dA_p n a0 = some r) :
 Cl 168 #[.agg ((ab a0)).toArray] w (ah w fun _ u=>u = .bool r):=by
 unfold dA_p at h
 refine AG func168 rfl rfl rfl fun _ cs0 hb0=>Ac<|RG.bx (Az w) rfl rfl fun k0 g0 b0 j0=>Af rfl<|Aa<|Ac<|Ab (AF rfl (b0.memA .hd))<|bk h fun c0 d0 h=>Bi (vI c0) (bd 62) rfl (e1 rfl) (fun w9 hw9=>cH_c n (b0.hL0 hL hw9) a0 d0) rfl<|Ab (FV.eql (i:=c0) (j:=0) rfl rfl)<|Af rfl<|Aa<|Al rfl<|AY hb0 func168 rfl rfl ?_
 cases h
 exact b0.gv
def aX_l1 (n:Nat) (a0:List Ta) (c0:Nat -> Option (Bool ⊕ Unit)):Nat -> Option (Bool ⊕ Unit)
  | b0=>(if b0 < a0.length then (a0[b0]?).bind fun d0=>(dA_p n d0).bind fun g0=>(if g0 = true then c0 (b0 + 1) else some (.inl false)) else some (.inr ()))
def aX_p (n:Nat) (a0:List Ta):Option Bool:=
  thn (am (aX_l1 n a0) n 0) (fun _=>some true)
theorem aX_c (n:Nat) {L w} (hL:hl L w) {a0:List Ta} {v0_0:Value} (h0_0:Rep.R w L [v0_0] a0)  {r:Bool} (h:aX_p n a0 = some r) :
 Cl 136 #[v0_0] w (ah w fun _ u=>u = .bool r):=by
 unfold aX_p at h
 refine AG func136 rfl rfl rfl fun _ cs0 hb0=>Ac<|Af rfl<|Aa<|Ac<|Af rfl<|Aa<|Ac<|Ae rfl<|Ae rfl<|By (fst:=[]) (cap:=[]) (vs:=[.func (.func 168) #[] #[],v0_0]) .plain (bd 169) func169 rfl rfl rfl rfl (e2 rfl rfl) rfl fun cs2 hb1 hp3=>Ac<|Af rfl<|Aa<|Ai<|Ac<|Ae rfl ?_
 have hl4:a0.length <= 281474976710656:=Ba h0_0
 refine Ab (Bg (xs:=a0) underlying53 rfl h0_0)<|Ae rfl<|Aa<|AA<|tn h fun P0 C0 g0=>MX.lo (α:=Nat) (fun b0=>[(0,.func (.func 168) #[] #[]),(7,v0_0),(8,vI ((a0.length:Nat):Int)),(9,vI ((b0:Nat):Int))]) (fun b0=>[]) (fun b0=>b0) 0 C0 (Az w) ?_
 rintro I0 b0 U0 q0 d0 u0 h
 unfold aX_l1 at h
 try dsimp only at h
 refine Ac<|Ab (Bq (i:=b0) (j:=a0.length) rfl rfl)<|Aa<|Ai<|AT rfl h (fun k0 h=>?_) (fun k0 h=>?_)
 refine Ar<|Ai<|AA<|Ac<|bk h fun j0 E0 h=>?_
 obtain ⟨H0,K0,z0,A0,M0,D0,B0⟩:=Bk (AS h0_0 d0) E0
 obtain rfl:=gO D0
 refine Ab (Bj 16 b0 rfl z0 rfl rfl A0)<|Ab (AF rfl B0)<|RG.nl zL d0 fun Q0 J0 s0 v0=>AQ (ab j0) s0 .hd (ai rfl) fun R0 c0 x0=>Aa<|Ac<|Ae rfl<|Ab (AF rfl (c0.memA .hd))<|bk h fun G0 F0 h=>Bi (.bool G0) (bd 168) rfl (e1 rfl) (fun w9 hw9=>dA_c n (c0.hL0 hL hw9) j0 F0) rfl<|Ab (Bp rfl)<|Aa<|BW rfl h (fun p0 h=>?_) (fun p0 h=>?_)
 refine Ar<|AC<|Ao<|Ab (Bn (i:=b0) (j:=1) rfl rfl (by omega))<|Ae rfl<|Aa ?_
 obtain ⟨t0,y0⟩:=AI c0 .done
 exact q0 (b0 + 1) t0 (Tt u0 (Tt v0 (Tt x0 y0))) h
 refine Ac<|Af rfl<|Aa ?_
 have h:=au h g0
 refine Al rfl<|Ap (u:=.bool false) hb1 func169 rfl (.cons (.tmp rfl) .nil) rfl<|Af rfl<|Aa<|Al rfl<|AY hb0 func136 rfl rfl ?_
 cases h
 exact c0.gv
 refine Be rfl ?_
 have h:=aF h g0
 try dsimp only at h
 refine Ac<|Af rfl<|Aa<|Al rfl<|Ap (u:=.bool true) hb1 func169 rfl (.cons (.tmp rfl) .nil) rfl<|Af rfl<|Aa<|Al rfl<|AY hb0 func136 rfl rfl ?_
 cases h
 exact d0.gv
def aV_p (n:Nat) (a0:Tg):Option Tg:=
  (bE_p n a0.fB).bind fun b0=>some (⟨b0,a0.ft⟩:Tg)
theorem aV_c (n:Nat) {L w} (hL:hl L w) (a0:Tg) {v0_1:Value} (h0_1:Rep.R w L [v0_1] a0.fB.fo) {v0_3:Value} (h0_3:Rep.R w L [v0_3] a0.ft.fo)  {r:Tg} (h:aV_p n a0 = some r) :
 Cl 96 #[.agg #[.bool a0.fB.fe,v0_1,.bool a0.ft.fe,v0_3]] w (ah w fun w' u=>∃ v0_1 v0_3:Value,u = .agg #[.bool r.fB.fe,v0_1,.bool r.ft.fe,v0_3]/\Rep.R w' L [v0_1] r.fB.fo/\Rep.R w' L [v0_3] r.ft.fo):=by
 unfold aV_p at h
 refine AG func96 rfl rfl rfl fun _ cs0 hb0=>Ac<|RG.bx (Az w) rfl rfl fun M0 D0 u0 H0=>RG.nl [.bool false,vN,.bool false,vN] u0 fun P0 E0 c0 I0=>Aa<|Ai<|du 6 fun b0 d0=>Rv 0 b0 rfl d0 (fun _=>AU 0 rfl)<|Rx 1 100 b0 rfl d0 (AW (cs:=[.bool a0.fB.fe,v0_1]) rfl rfl (ae (c0.memA .t1) 0 2))<|Rv 3 b0 rfl d0 (fun _=>AU 2 rfl)<|Rx 4 96 b0 rfl d0 (AW (cs:=[.bool a0.ft.fe,v0_3]) rfl rfl (ae (c0.memA .t1) 2 2))<|bk h fun p0 A0 h=>Bl 2 31 b0 rfl .plain (bd 138) rfl (e1 rfl) (fun w9 hw9=>bE_c n (c0.hL hL hw9) a0.fB (c0.km h0_1 hw9) A0) rfl fun Q0 K0 x0 ⟨g0,hu_,q0⟩=>?_
 subst hu_
 obtain ⟨s0,J0⟩:=c0.agr x0
 obtain ⟨B0,F0,y0,_⟩:=BQ q0
 have t0:=AS h0_3 s0
 obtain ⟨C0,G0,z0,_⟩:=BQ t0
 refine Rv 5 b0 rfl d0 (fun _=>AO (vs:=[.agg #[.bool p0.fe,g0],.agg #[.bool a0.ft.fe,v0_3]]) (u:=.agg #[.bool p0.fe,g0,.bool a0.ft.fe,v0_3]) (e2 rfl rfl) (fun w9=>by rw [y0,z0]; try kernel_rfl))<|Bz 6 127 b0 rfl rfl .plain (Ay (news:=[.bool p0.fe,g0,.bool a0.ft.fe,v0_3]) s0 .hd rfl rfl rfl rfl rfl rfl (o4 rfl (AP q0) rfl (AP t0))) fun R0 j0 v0=>AM (dk b0)<|Al rfl<|Ap hb0 func96 rfl (.cons (.many (cs:=[.bool p0.fe,g0,.bool a0.ft.fe,v0_3]) rfl rfl (j0.memA .hd)) .nil) rfl ?_
 cases h
 exact ⟨j0.ag,fun w9 hw9=>⟨g0,v0_3,rfl,j0.kd (Am q0 v0) hw9,j0.k0 h0_3 hw9⟩⟩
def dq_p (_n:Nat) (a0:UInt64) (a1:UInt64):Option (UInt64 × UInt64):=
  (some (((shrU a0 32) * (a1 &&& (4294967295:UInt64))) + (shrU ((a0 &&& (4294967295:UInt64)) * (a1 &&& (4294967295:UInt64))) 32))).bind fun u1=>(some (shrU ((u1 &&& (4294967295:UInt64)) + ((a0 &&& (4294967295:UInt64)) * (shrU a1 32))) 32)).bind fun u2=>some ((((shrU a0 32) * (shrU a1 32)) + (shrU u1 32)) + u2,a0 * a1)
theorem dq_c (n:Nat) {L w} (_hL:hl L w) (a0:UInt64) (a1:UInt64)  {r:UInt64 × UInt64} (h:dq_p n a0 a1 = some r) :
 Cl 205 #[vU a0,vU a1] w (ah w fun _ u=>u = .tuple #[vU r.1,vU r.2]):=by
 unfold dq_p at h
 have hS0:=Az w
 refine AG func205 rfl rfl rfl fun _ cs0 hb0=>Ac<|Af rfl<|Af rfl<|Aa<|Ac<|Ae rfl<|Ab (FV.andU (a:=a0) (b:=(4294967295:UInt64)) rfl rfl)<|Af rfl<|Aa<|Ac<|Ae rfl<|Ab (FV.shrU (a:=a0) (j:=32) rfl rfl)<|Af rfl<|Aa<|Ac<|Ae rfl<|Ab (FV.andU (a:=a1) (b:=(4294967295:UInt64)) rfl rfl)<|Af rfl<|Aa<|Ac<|Ae rfl<|Ab (FV.shrU (a:=a1) (j:=32) rfl rfl)<|Af rfl<|Aa<|Ac<|Ae rfl<|Ae rfl<|Ab (FV.mulU (a:=a0 &&& (4294967295:UInt64)) (b:=a1 &&& (4294967295:UInt64)) rfl rfl)<|Af rfl<|Aa<|Ac<|Ae rfl<|Ae rfl<|Ab (FV.mulU (a:=shrU a0 32) (b:=a1 &&& (4294967295:UInt64)) rfl rfl)<|Ae rfl<|Ab (FV.shrU (a:=(a0 &&& (4294967295:UInt64)) * (a1 &&& (4294967295:UInt64))) (j:=32) rfl rfl)<|bk h fun u1 hu1 h=>Ab (FV.as (FV.addU (a:=(shrU a0 32) * (a1 &&& (4294967295:UInt64))) (b:=shrU ((a0 &&& (4294967295:UInt64)) * (a1 &&& (4294967295:UInt64))) 32) rfl rfl) (congrArg (fun z:UInt64=>Value.int .u64 (z.toNat:Int)) (Option.some.inj hu1)))<|Af rfl<|Aa<|Ac<|Ae rfl<|Ab (FV.andU (a:=u1) (b:=(4294967295:UInt64)) rfl rfl)<|Af rfl<|Aa<|Ac<|Ae rfl<|Ab (FV.shrU (a:=u1) (j:=32) rfl rfl)<|Af rfl<|Aa<|Ac<|Ae rfl<|Ae rfl<|Ae rfl ?_
 refine Ab (FV.mulU (a:=a0 &&& (4294967295:UInt64)) (b:=shrU a1 32) rfl rfl)<|Ab (FV.addU (a:=u1 &&& (4294967295:UInt64)) (b:=(a0 &&& (4294967295:UInt64)) * (shrU a1 32)) rfl rfl)<|Af rfl<|Aa<|Ac<|Ae rfl<|Ae rfl<|Ab (FV.mulU (a:=shrU a0 32) (b:=shrU a1 32) rfl rfl)<|Ae rfl<|Ab (FV.addU (a:=(shrU a0 32) * (shrU a1 32)) (b:=shrU u1 32) rfl rfl)<|Ae rfl<|bk h fun u2 hu2 h=>Ab (FV.as (FV.shrU (a:=(u1 &&& (4294967295:UInt64)) + ((a0 &&& (4294967295:UInt64)) * (shrU a1 32))) (j:=32) rfl rfl) (congrArg (fun z:UInt64=>Value.int .u64 (z.toNat:Int)) (Option.some.inj hu2)))<|Ab (FV.addU (a:=((shrU a0 32) * (shrU a1 32)) + (shrU u1 32)) (b:=u2) rfl rfl)<|Af rfl<|Aa<|Ac<|Ae rfl<|Ae rfl<|Ab (FV.mulU (a:=a0) (b:=a1) rfl rfl)<|Af rfl<|Aa<|Al rfl<|Ap hb0 func205 rfl (.cons (.tmp rfl) (.cons (.tmp rfl) .nil)) rfl ?_
 cases h
 exact hS0.gv
def a9_l1 (n:Nat) (a1:List UInt64) (s0:UInt64) (d0:Nat) (q0:UInt64 × Nat × (List UInt64) -> Option ((List UInt64) × UInt64)):UInt64 × Nat × (List UInt64) -> Option ((List UInt64) × UInt64)
  | (g0,b0,c0)=>(if b0 < a1.length then (a1[b0]?).bind fun t0=>(dq_p n s0 t0).bind fun j0=>(c0[d0 + b0]?).bind fun u0=>(add64 u0 j0.2 (0:UInt64)).bind fun k0=>(add64 k0.1 g0 (0:UInt64)).bind fun p0=>(put c0 ((d0 + b0:Nat):Int) p0.1).bind fun v0=>q0 ((j0.1 + k0.2) + p0.2,b0 + 1,v0) else some (c0,g0))
def a9_l2 (n:Nat) (a0:List UInt64) (a1:List UInt64) (g0:Nat × (List UInt64) -> Option (List UInt64)):Nat × (List UInt64) -> Option (List UInt64)
  | (b0,c0)=>(if b0 < a0.length then (a0[b0]?).bind fun k0=>Option.bind (am (a9_l1 n a1 k0 b0) n (0,0,c0)) (fun (d0,j0)=>(d0[b0 + a1.length]?).bind fun _x490=>(put d0 ((b0 + a1.length:Nat):Int) j0).bind fun p0=>g0 (b0 + 1,p0)) else some c0)
def a9_p (n:Nat) (a0:List UInt64) (a1:List UInt64):Option (List UInt64):=
  (mk ((a0.length + a1.length:Nat):Int) (0:UInt64)).bind fun b0=>Option.bind (am (a9_l2 n a0 a1) n (0,b0)) (fun c0=>some c0)
theorem a9_c (n:Nat) {L w} (hL:hl L w) {a0:List UInt64} {v0_0:Value} (h0_0:Rep.R w L [v0_0] a0) {a1:List UInt64} {v1_0:Value} (h1_0:Rep.R w L [v1_0] a1)  {r:List UInt64} (h:a9_p n a0 a1 = some r) :
 Cl 190 #[v0_0,v1_0] w (ah w fun w' u=>∃ v0_0:Value,u = v0_0/\Rep.R w' L [v0_0] r):=by
 unfold a9_p at h
 refine AG func190 rfl rfl rfl fun _ cs0 hb0=>Ac<|Af rfl<|Aa<|Ac<|Ae rfl ?_
 have hl1:a0.length <= 281474976710656:=Ba h0_0
 refine Ab (Bg (xs:=a0) underlying149 rfl h0_0)<|Ae rfl ?_
 have hl2:a1.length <= 281474976710656:=Ba h1_0
 refine Ab (Bg (xs:=a1) underlying149 rfl h1_0)<|Ab (Bn (i:=a0.length) (j:=a1.length) rfl rfl (by omega))<|bk h fun R0 J0 h=>Aj .plain rfl (Does.mk (α:=UInt64) J0 (Az w) cP rfl) fun Q2 j0 z0 I2=>Af rfl<|Aa<|Ai<|Ac<|Ae rfl<|Ab (Bg (xs:=a0) underlying149 rfl (AS h0_0 z0))<|Ae rfl<|Aa<|AA ?_
 obtain ⟨M2,U1,I1⟩:=aq h
 refine MX.lf (α:=Nat × (List UInt64) × (List Value)) (fun ⟨b0,d0,k0⟩=>[(1,v1_0),(5,(.slice (some ⟨j0,0,none⟩) ((a0.length + a1.length:Nat):Int).toNat ((a0.length + a1.length:Nat):Int).toNat)),(22,v0_0),(23,vI ((a0.length:Nat):Int)),(24,vI ((b0:Nat):Int))]) (fun ⟨b0,d0,k0⟩=>[rr w 34 UInt64 (.slice (some ⟨j0,0,none⟩) ((a0.length + a1.length:Nat):Int).toNat ((a0.length + a1.length:Nat):Int).toNat) d0.length k0]) (fun ⟨b0,d0,k0⟩ K0=>Cells K0 (bl [rr w 34 UInt64 (.slice (some ⟨j0,0,none⟩) ((a0.length + a1.length:Nat):Int).toNat ((a0.length + a1.length:Nat):Int).toNat) d0.length k0] ++ L) k0 d0) (fun ⟨b0,d0,k0⟩=>(b0,d0)) (0,R0,(List.replicate ((a0.length + a1.length:Nat):Int).toNat [vW 0]).flatten) U1 z0 (AE (cs:=(List.replicate ((a0.length + a1.length:Nat):Int).toNat [vW 0]).flatten) (xs:=R0) z0 L (BR J0 rfl)) ?_
 rintro A2 ⟨b0,d0,k0⟩ K0 q1 t0 x1 F0 h
 unfold a9_l2 at h
 try dsimp only at h
 refine Ac<|Ab (Bq (i:=b0) (j:=a0.length) rfl rfl)<|Aa<|Ai<|AT rfl h (fun Z0 h=>?_) (fun Z0 h=>?_)
 refine Ar<|Ai<|AA<|Ac<|Ae rfl<|bk h fun D0 c2 h=>?_
 obtain ⟨y2,C2,C1,K1,c1,W1,P1⟩:=Bk (AS h0_0 t0) c2
 have D1:c1 = [vU D0]:=W1; subst D1
 refine Ab (Bj 1 b0 rfl C1 rfl rfl K1)<|AR rfl (P1 0 _ rfl)<|Af rfl<|Af rfl<|Aa<|Ac<|Af rfl<|Aa<|Ai<|Ac<|Ae rfl<|Ab (Bg (xs:=a1) underlying149 rfl (AS h1_0 t0))<|Ae rfl<|Aa<|AA ?_
 obtain ⟨P2,V1,J1⟩:=aq h
 refine MX.lf (α:=UInt64 × Nat × (List UInt64) × (List Value)) (fun ⟨s0,c0,p0,q0⟩=>[(1,v1_0),(5,(.slice (some ⟨j0,0,none⟩) ((a0.length + a1.length:Nat):Int).toNat ((a0.length + a1.length:Nat):Int).toNat)),(22,v0_0),(23,vI ((a0.length:Nat):Int)),(24,vI ((b0:Nat):Int)),(6,vI ((b0:Nat):Int)),(7,vU D0),(8,vU s0),(29,v1_0),(30,vI ((a1.length:Nat):Int)),(31,vI ((c0:Nat):Int))]) (fun ⟨s0,c0,p0,q0⟩=>[rr w 34 UInt64 (.slice (some ⟨j0,0,none⟩) ((a0.length + a1.length:Nat):Int).toNat ((a0.length + a1.length:Nat):Int).toNat) p0.length q0]) (fun ⟨s0,c0,p0,q0⟩ M0=>Cells M0 (bl [rr w 34 UInt64 (.slice (some ⟨j0,0,none⟩) ((a0.length + a1.length:Nat):Int).toNat ((a0.length + a1.length:Nat):Int).toNat) p0.length q0] ++ L) q0 p0) (fun ⟨s0,c0,p0,q0⟩=>(s0,c0,p0)) (0,0,d0,k0) V1 t0 F0 ?_
 rintro B2 ⟨s0,c0,p0,q0⟩ M0 s1 g0 E0 v0 h
 unfold a9_l1 at h
 try dsimp only at h
 refine Ac<|Ab (Bq (i:=c0) (j:=a1.length) rfl rfl)<|Aa<|Ai<|AT rfl h (fun b1 h=>?_) (fun b1 h=>?_)
 refine Ar<|Ai<|AA<|Ac<|Ae rfl<|bk h fun P0 d2 h=>?_
 obtain ⟨z2,D2,E1,M1,d1,X1,Q1⟩:=Bk (AS h1_0 g0) d2
 have F1:d1 = [vU P0]:=X1; subst F1
 refine Ab (Bj 1 c0 rfl E1 rfl rfl M1)<|AR rfl (Q1 0 _ rfl)<|Af rfl<|Af rfl<|Aa<|Ac<|Ae rfl<|Ae rfl<|bk h fun u0 q2 h=>Bi (.tuple #[vU u0.1,vU u0.2]) (bd 205) rfl (e2 rfl rfl) (fun w9 hw9=>dq_c n (g0.hL0 hL hw9) D0 P0 q2) rfl<|Ae rfl<|Ab (Ah rfl rfl)<|Ab (Ah rfl rfl)<|Af rfl<|Af rfl<|Aa<|Ac<|Ae rfl<|Ae rfl<|Ae rfl<|Ab (Bn (i:=b0) (j:=c0) rfl rfl (by omega))<|bk h fun Q0 g2 h=>?_
 obtain ⟨V0,E2,x0,C0,g1,Y1,R1⟩:=St.nth (α:=UInt64) g0 .hd v0 g2
 obtain ⟨X0,F2,G0⟩:=BJ (α:=UInt64) g0 .hd C0
 obtain rfl:V0 = ⟨X0,0,none⟩:=by rw [G0] at x0; cases x0; rfl
 have G1:g1 = [vU Q0]:=Y1; subst G1
 refine Ab (Bj 1 (b0 + c0) rfl x0 rfl rfl C0)<|AR rfl (R1 0 _ rfl)<|Ae rfl<|bk h fun y0 s2 h=>Ab (FV.add64 (a:=Q0) (b:=u0.2) (c:=(0:UInt64)) func206 rfl rfl rfl rfl rfl rfl rfl s2)<|Ae rfl<|Ab (Ah rfl rfl)<|Ab (Ah rfl rfl)<|Af rfl<|Af rfl<|Aa<|Ac<|Ae rfl<|Ae rfl<|bk h fun U0 t2 h=>Ab (FV.add64 (a:=y0.1) (b:=s0) (c:=(0:UInt64)) func206 rfl rfl rfl rfl rfl rfl rfl t2)<|Ae rfl<|Ab (Ah rfl rfl)<|Ab (Ah rfl rfl)<|Af rfl<|Af rfl<|Aa<|Ao<|Ae rfl<|Ae rfl<|Ae rfl<|Ab (Bn (i:=b0) (j:=c0) rfl rfl (by omega))<|Ae rfl<|Ae rfl<|Ae rfl<|Ab (FV.addU (a:=u0.1) (b:=y0.2) rfl rfl)<|Ae rfl<|Ab (FV.addU (a:=u0.1 + y0.2) (b:=U0.2) rfl rfl)<|Ab (Bj 1 (b0 + c0) rfl x0 rfl rfl C0)<|bk h fun v2 k2 h=>RG.acts' .plain (Acts.set (α:=UInt64) (i:=b0 + c0) k2 g0 G0 (fun _=>.hd) v0 rfl rfl rfl rfl rfl rfl) fun R2 ⟨j1,u1,y1,A1⟩=>Af rfl<|Aa<|AC<|Ao<|Ab (Bn (i:=c0) (j:=1) rfl rfl (by omega))<|Ae rfl<|Aa<|s1 ((u0.1 + y0.2) + U0.2,c0 + 1,v2,j1) u1 (Tt E0 y1) A1 h
 refine Be rfl ?_
 have h:=J1 _ h
 try dsimp only at h
 refine Ao<|Ae rfl<|Ae rfl<|Ae rfl<|Ab (Bg (xs:=a1) underlying149 rfl (AS h1_0 g0))<|Ab (Bn (i:=b0) (j:=a1.length) rfl rfl (by omega))<|Ae rfl<|bk h fun u2 j2 h=>?_
 obtain ⟨W0,G2,B0,I0,k1,Z1,K2⟩:=St.nth (α:=UInt64) g0 .hd v0 j2
 obtain ⟨Y0,H2,H0⟩:=BJ (α:=UInt64) g0 .hd I0
 obtain rfl:W0 = ⟨Y0,0,none⟩:=by rw [H0] at B0; cases B0; rfl
 have H1:k1 = [vU u2]:=Z1; subst H1
 refine Ab (Bj 1 (b0 + a1.length) rfl B0 rfl rfl I0)<|bk h fun x2 p2 h=>RG.acts' .plain (Acts.set (α:=UInt64) (i:=b0 + a1.length) p2 g0 H0 (fun _=>.hd) v0 rfl rfl rfl rfl rfl rfl) fun U2 ⟨p1,v1,z1,B1⟩=>Aa<|AC<|Ao<|Ab (Bn (i:=b0) (j:=1) rfl rfl (by omega))<|Ae rfl<|Aa<|q1 (b0 + 1,x2,p1) v1 (Tt x1 (Tt E0 z1)) B1 h
 refine Be rfl ?_
 have h:=I1 _ h
 try dsimp only at h
 refine Ac<|Ae rfl<|Af rfl<|Aa<|Al rfl ?_
 have A0:=Br t0 .hd
 have J2:=Bs t0 .hd
 have b2:=Bu (α:=UInt64) (v:=(.slice (some ⟨j0,0,none⟩) ((a0.length + a1.length:Nat):Int).toNat ((a0.length + a1.length:Nat):Int).toNat)) (xs:=d0) A0 L (Bf (α:=UInt64) t0 .hd F0 hL)
 refine AY hb0 func190 rfl rfl ?_
 cases h
 exact ⟨A0.ag,fun w9 hw9=>⟨(.slice (some ⟨j0,0,none⟩) ((a0.length + a1.length:Nat):Int).toNat ((a0.length + a1.length:Nat):Int).toNat),rfl,A0.kd b2 hw9⟩⟩
def aI_p (n:Nat) (a0:Th) (a1:Th):Option Th:=
  (a9_p n a0.fo a1.fo).bind fun b0=>(ay_p n (!(a0.fe == a1.fe)) b0).bind fun c0=>some c0
theorem aI_c (n:Nat) {L w} (hL:hl L w) (a0:Th) {v0_1:Value} (h0_1:Rep.R w L [v0_1] a0.fo) (a1:Th) {v1_1:Value} (h1_1:Rep.R w L [v1_1] a1.fo)  {r:Th} (h:aI_p n a0 a1 = some r) :
 Cl 154 #[.agg #[.bool a0.fe,v0_1],.agg #[.bool a1.fe,v1_1]] w (ah w fun w' u=>∃ v0_1:Value,u = .agg #[.bool r.fe,v0_1]/\Rep.R w' L [v0_1] r.fo):=by
 unfold aI_p at h
 refine AG func154 rfl rfl rfl fun _ cs0 hb0=>Ac<|RG.bx (Az w) rfl rfl fun Q0 C0 s0 F0=>RG.bx s0 rfl rfl fun R0 D0 t0 G0=>RG.nl [.bool false,vN] t0 fun U0 E0 d0 H0=>Aa<|Ai<|du 11 fun b0 c0=>Rv 0 b0 rfl c0 (fun _=>AU 0 rfl)<|Rx 1 3088 b0 rfl c0 (AL rfl ((d0.memA .t2) 0 _ rfl))<|Rv 2 b0 rfl c0 (fun _=>AU 0 rfl)<|Rx 3 3088 b0 rfl c0 (AL rfl ((d0.memA .t1) 0 _ rfl))<|Rv 4 b0 rfl c0 (fun _=>FV.neqB (a:=a0.fe) (b:=a1.fe) underlying4 rfl rfl)<|Rv 5 b0 rfl c0 (fun _=>AU 1 rfl)<|Rx 6 3584 b0 rfl c0 (AL rfl ((d0.memA .t2) 1 _ rfl))<|Rv 7 b0 rfl c0 (fun _=>AU 1 rfl)<|Rx 8 3584 b0 rfl c0 (AL rfl ((d0.memA .t1) 1 _ rfl))<|bk h fun Y0 A0 h=>Bl 9 1023 b0 rfl .plain (bd 190) rfl (e2 rfl rfl) (fun w9 hw9=>a9_c n (d0.hL hL hw9) (d0.km h0_1 hw9) (d0.km h1_1 hw9) A0) rfl fun V0 M0 x0 ⟨K0,hu_,z0⟩=>?_
 subst hu_
 obtain ⟨k0,I0⟩:=d0.agr x0
 refine bk h fun q0 B0 h=>Bl 10 2047 b0 rfl .plain (bd 170) rfl (e2 rfl rfl) (fun w9 hw9=>ay_c n (k0.hL hL hw9) (Aq z0 hw9) B0) rfl fun W0 P0 y0 ⟨j0,hu_,p0⟩=>?_
 subst hu_
 obtain ⟨u0,J0⟩:=k0.agr y0
 refine Bz 11 4095 b0 rfl rfl .plain (Ay (news:=[.bool q0.fe,j0]) u0 .hd rfl rfl rfl rfl rfl rfl (o2 rfl (AP p0))) fun X0 g0 v0=>AM (dk b0)<|Al rfl<|Ap hb0 func154 rfl (.cons (.many (cs:=[.bool q0.fe,j0]) rfl rfl (g0.memA .hd)) .nil) rfl ?_
 cases h
 exact ⟨g0.ag,fun w9 hw9=>⟨j0,rfl,g0.kd (Am p0 v0) hw9⟩⟩
def cr_p (n:Nat) (a0:Tg) (a1:Tg):Option Int:=
  (aI_p n a0.fB a1.ft).bind fun b0=>(aI_p n a1.fB a0.ft).bind fun c0=>(cB_p n b0 c0).bind fun d0=>some d0
theorem cr_c (n:Nat) {L w} (hL:hl L w) (a0:Tg) {v0_1:Value} (h0_1:Rep.R w L [v0_1] a0.fB.fo) {v0_3:Value} (h0_3:Rep.R w L [v0_3] a0.ft.fo) (a1:Tg) {v1_1:Value} (h1_1:Rep.R w L [v1_1] a1.fB.fo) {v1_3:Value} (h1_3:Rep.R w L [v1_3] a1.ft.fo)  {r:Int} (h:cr_p n a0 a1 = some r) :
 Cl 115 #[.agg #[.bool a0.fB.fe,v0_1,.bool a0.ft.fe,v0_3],.agg #[.bool a1.fB.fe,v1_1,.bool a1.ft.fe,v1_3]] w (ah w fun _ u=>u = vI r):=by
 unfold cr_p at h
 refine AG func115 rfl rfl rfl fun _ cs0 hb0=>Ac<|RG.bx (Az w) rfl rfl fun M0 C0 k0 E0=>RG.bx k0 rfl rfl fun P0 D0 d0 F0=>Af rfl<|Aa<|Ai<|du 12 fun b0 c0=>Rv 0 b0 rfl c0 (fun _=>AU 0 rfl)<|Rx 1 3600 b0 rfl c0 (AW (cs:=[.bool a0.fB.fe,v0_1]) rfl rfl (ae (d0.memA .t1) 0 2))<|Rv 2 b0 rfl c0 (fun _=>AU 2 rfl)<|Rx 3 3600 b0 rfl c0 (AW (cs:=[.bool a1.ft.fe,v1_3]) rfl rfl (ae (d0.memA .hd) 2 2))<|Rv 5 b0 rfl c0 (fun _=>AU 0 rfl)<|Rx 6 3584 b0 rfl c0 (AW (cs:=[.bool a1.fB.fe,v1_1]) rfl rfl (ae (d0.memA .hd) 0 2))<|Rv 7 b0 rfl c0 (fun _=>AU 2 rfl)<|Rx 8 3584 b0 rfl c0 (AW (cs:=[.bool a0.ft.fe,v0_3]) rfl rfl (ae (d0.memA .t1) 2 2))<|bk h fun z0 v0 h=>Bl 4 511 b0 rfl .plain (bd 154) rfl (e2 rfl rfl) (fun w9 hw9=>aI_c n (d0.hL hL hw9) a0.fB (d0.km h0_1 hw9) a1.ft (d0.km h1_3 hw9) v0) rfl fun Q0 J0 q0 ⟨H0,hu_,t0⟩=>?_
 subst hu_
 obtain ⟨g0,G0⟩:=d0.agr q0
 refine bk h fun A0 x0 h=>Bl 9 1023 b0 rfl .plain (bd 154) rfl (e2 rfl rfl) (fun w9 hw9=>aI_c n (g0.hL hL hw9) a1.fB (g0.km h1_1 hw9) a0.ft (g0.km h0_3 hw9) x0) rfl fun R0 K0 s0 ⟨I0,hu_,u0⟩=>?_
 subst hu_
 obtain ⟨j0,p0⟩:=g0.agr s0
 refine bk h fun B0 y0 h=>BG 10 2047 2048 (vI B0) b0 rfl c0 (bd 113) rfl (e2 rfl rfl) (fun w9 hw9=>cB_c n (j0.hL0 hL hw9) z0 (j0.kd (Am t0 p0) hw9) A0 (j0.kd u0 hw9) y0) rfl<|Rv 11 b0 rfl c0 (fun _=>Bh rfl)<|AM (dk b0)<|Al rfl<|AY hb0 func115 rfl rfl ?_
 cases h
 exact j0.gv
def cY_p (n:Nat) (a0:Tg) (a1:Tg):Option Tg:=
  (cr_p n a0 a1).bind fun b0=>(if b0 <= 0 then some a0 else some a1)
theorem cY_c (n:Nat) {L w} (hL:hl L w) (a0:Tg) {v0_1:Value} (h0_1:Rep.R w L [v0_1] a0.fB.fo) {v0_3:Value} (h0_3:Rep.R w L [v0_3] a0.ft.fo) (a1:Tg) {v1_1:Value} (h1_1:Rep.R w L [v1_1] a1.fB.fo) {v1_3:Value} (h1_3:Rep.R w L [v1_3] a1.ft.fo)  {r:Tg} (h:cY_p n a0 a1 = some r) :
 Cl 137 #[.agg #[.bool a0.fB.fe,v0_1,.bool a0.ft.fe,v0_3],.agg #[.bool a1.fB.fe,v1_1,.bool a1.ft.fe,v1_3]] w (ah w fun w' u=>∃ v0_1 v0_3:Value,u = .agg #[.bool r.fB.fe,v0_1,.bool r.ft.fe,v0_3]/\Rep.R w' L [v0_1] r.fB.fo/\Rep.R w' L [v0_3] r.ft.fo):=by
 unfold cY_p at h
 refine AG func137 rfl rfl rfl fun _ cs0 hb0=>Ac<|RG.bx (Az w) rfl rfl fun C0 t0 p0 x0=>RG.bx p0 rfl rfl fun D0 u0 q0 y0=>RG.nl [.bool false,vN,.bool false,vN] q0 fun E0 v0 b0 z0=>Aa<|Ai<|Ac<|Ab (AF rfl (b0.memA .t2))<|Ab (AF rfl (b0.memA .t1))<|bk h fun g0 s0 h=>Bi (vI g0) (bd 115) rfl (e2 rfl rfl) (fun w9 hw9=>cr_c n (b0.hL0 hL hw9) a0 (b0.k0 h0_1 hw9) (b0.k0 h0_3 hw9) a1 (b0.k0 h1_1 hw9) (b0.k0 h1_3 hw9) s0) rfl<|Ab (FV.leq (i:=g0) (j:=0) rfl rfl)<|Aa<|AT rfl h (fun j0 h=>?_) (fun j0 h=>?_)
 refine Ac<|Ab (AF rfl (b0.memA .t2))<|AQ [.bool a0.fB.fe,v0_1,.bool a0.ft.fe,v0_3] b0 .hd (o4 rfl (AP (AS h0_1 b0)) rfl (AP (AS h0_3 b0))) fun F0 c0 A0=>Aa<|Al rfl<|Ap hb0 func137 rfl (.cons (.many (cs:=[.bool a0.fB.fe,v0_1,.bool a0.ft.fe,v0_3]) rfl rfl (c0.memA .hd)) .nil) rfl ?_
 cases h
 exact ⟨c0.ag,fun w9 hw9=>⟨v0_1,v0_3,rfl,c0.k0 h0_1 hw9,c0.k0 h0_3 hw9⟩⟩
 refine Ar<|Ac<|Ab (AF rfl (b0.memA .t1))<|AQ [.bool a1.fB.fe,v1_1,.bool a1.ft.fe,v1_3] b0 .hd (o4 rfl (AP (AS h1_1 b0)) rfl (AP (AS h1_3 b0))) fun G0 d0 B0=>Aa<|Al rfl<|Ap hb0 func137 rfl (.cons (.many (cs:=[.bool a1.fB.fe,v1_1,.bool a1.ft.fe,v1_3]) rfl rfl (d0.memA .hd)) .nil) rfl ?_
 cases h
 exact ⟨d0.ag,fun w9 hw9=>⟨v1_1,v1_3,rfl,d0.k0 h1_1 hw9,d0.k0 h1_3 hw9⟩⟩
def cR_p (n:Nat) (a0:Tg) (a1:Tg):Option Tg:=
  (aV_p n a0).bind fun b0=>(aV_p n a1).bind fun c0=>(cY_p n b0 c0).bind fun d0=>(aV_p n d0).bind fun g0=>some g0
theorem cR_c (n:Nat) {L w} (hL:hl L w) (a0:Tg) {v0_1:Value} (h0_1:Rep.R w L [v0_1] a0.fB.fo) {v0_3:Value} (h0_3:Rep.R w L [v0_3] a0.ft.fo) (a1:Tg) {v1_1:Value} (h1_1:Rep.R w L [v1_1] a1.fB.fo) {v1_3:Value} (h1_3:Rep.R w L [v1_3] a1.ft.fo)  {r:Tg} (h:cR_p n a0 a1 = some r) :
 Cl 95 #[.agg #[.bool a0.fB.fe,v0_1,.bool a0.ft.fe,v0_3],.agg #[.bool a1.fB.fe,v1_1,.bool a1.ft.fe,v1_3]] w (ah w fun w' u=>∃ v0_1 v0_3:Value,u = .agg #[.bool r.fB.fe,v0_1,.bool r.ft.fe,v0_3]/\Rep.R w' L [v0_1] r.fB.fo/\Rep.R w' L [v0_3] r.ft.fo):=by
 unfold cR_p at h
 refine AG func95 rfl rfl rfl fun _ cs0 hb0=>Ac<|RG.bx (Az w) rfl rfl fun D1 Y0 z0 c1=>RG.bx z0 rfl rfl fun E1 Z0 A0 d1=>RG.nl [.bool false,vN,.bool false,vN] A0 fun F1 b1 c0 g1=>Aa<|Ai<|du 6 fun b0 y0=>Rx 0 122 b0 rfl y0 (AF rfl (c0.memA .t2))<|Rx 2 120 b0 rfl y0 (AF rfl (c0.memA .t1))<|bk h fun V0 P0 h=>Bl 1 7 b0 rfl .plain (bd 96) rfl (e1 rfl) (fun w9 hw9=>aV_c n (c0.hL hL hw9) a0 (c0.km h0_1 hw9) (c0.km h0_3 hw9) P0) rfl fun G1 z1 C0 ⟨q1,s1,hu_,G0,H0⟩=>?_
 subst hu_
 obtain ⟨d0,j1⟩:=c0.agr C0
 refine bk h fun W0 Q0 h=>Bl 3 15 b0 rfl .plain (bd 96) rfl (e1 rfl) (fun w9 hw9=>aV_c n (d0.hL hL hw9) a1 (d0.km h1_1 hw9) (d0.km h1_3 hw9) Q0) rfl fun H1 A1 D0 ⟨u1,v1,hu_,I0,J0⟩=>?_
 subst hu_
 obtain ⟨q0,t0⟩:=d0.agr D0
 refine bk h fun X0 R0 h=>Bl 4 31 b0 rfl .plain (bd 137) rfl (e2 rfl rfl) (fun w9 hw9=>cY_c n (q0.hL hL hw9) V0 (Aq (Am G0 t0) hw9) (Aq (Am H0 t0) hw9) W0 (Aq I0 hw9) (Aq J0 hw9) R0) rfl fun I1 B1 E0 ⟨x1,y1,hu_,K0,M0⟩=>?_
 subst hu_
 obtain ⟨s0,k1⟩:=q0.agr E0
 refine bk h fun j0 U0 h=>Bl 5 63 b0 rfl .plain (bd 96) rfl (e1 rfl) (fun w9 hw9=>aV_c n (s0.hL hL hw9) X0 (Aq K0 hw9) (Aq M0 hw9) U0) rfl fun J1 C1 F0 ⟨k0,p0,hu_,v0,x0⟩=>?_
 subst hu_
 obtain ⟨B0,p1⟩:=s0.agr F0
 refine Bz 6 127 b0 rfl rfl .plain (Ay (news:=[.bool j0.fB.fe,k0,.bool j0.ft.fe,p0]) B0 .hd rfl rfl rfl rfl rfl rfl (o4 rfl (AP v0) rfl (AP x0))) fun K1 g0 u0=>AM (dk b0)<|Al rfl<|Ap hb0 func95 rfl (.cons (.many (cs:=[.bool j0.fB.fe,k0,.bool j0.ft.fe,p0]) rfl rfl (g0.memA .hd)) .nil) rfl ?_
 cases h
 exact ⟨g0.ag,fun w9 hw9=>⟨k0,p0,rfl,g0.kd (Am v0 u0) hw9,g0.kd (Am x0 u0) hw9⟩⟩
def dI_p (n:Nat) (a0:Tg) (_a1:Tg):Option Tg:=
  (aV_p n a0).bind fun b0=>(cR_p n a0 b0).bind fun c0=>some c0
theorem dI_c (n:Nat) {L w} (hL:hl L w) (a0:Tg) {v0_1:Value} (h0_1:Rep.R w L [v0_1] a0.fB.fo) {v0_3:Value} (h0_3:Rep.R w L [v0_3] a0.ft.fo) (a1:Tg) {v1_1:Value} (_h1_1:Rep.R w L [v1_1] a1.fB.fo) {v1_3:Value} (_h1_3:Rep.R w L [v1_3] a1.ft.fo)  {r:Tg} (h:dI_p n a0 a1 = some r) :
 Cl 94 #[.agg #[.bool a0.fB.fe,v0_1,.bool a0.ft.fe,v0_3],.agg #[.bool a1.fB.fe,v1_1,.bool a1.ft.fe,v1_3]] w (ah w fun w' u=>∃ v0_1 v0_3:Value,u = .agg #[.bool r.fB.fe,v0_1,.bool r.ft.fe,v0_3]/\Rep.R w' L [v0_1] r.fB.fo/\Rep.R w' L [v0_3] r.ft.fo):=by
 unfold dI_p at h
 refine AG func94 rfl rfl rfl fun _ cs0 hb0=>Ac<|RG.bx (Az w) rfl rfl fun X0 G0 v0 J0=>RG.bx v0 rfl rfl fun Y0 H0 x0 K0=>RG.nl [.bool false,vN,.bool false,vN] x0 fun Z0 I0 b0 M0=>Aa<|Ai<|du 4 fun c0 u0=>Rx 0 24 c0 rfl u0 (AF rfl (b0.memA .t2))<|Rx 1 28 c0 rfl u0 (AF rfl (b0.memA .t2))<|bk h fun F0 D0 h=>Bl 2 7 c0 rfl .plain (bd 96) rfl (e1 rfl) (fun w9 hw9=>aV_c n (b0.hL hL hw9) a0 (b0.km h0_1 hw9) (b0.km h0_3 hw9) D0) rfl fun b1 V0 z0 ⟨R0,U0,hu_,B0,C0⟩=>?_
 subst hu_
 obtain ⟨d0,P0⟩:=b0.agr z0
 refine bk h fun j0 E0 h=>Bl 3 15 c0 rfl .plain (bd 95) rfl (e2 rfl rfl) (fun w9 hw9=>cR_c n (d0.hL hL hw9) a0 (d0.km h0_1 hw9) (d0.km h0_3 hw9) F0 (Aq B0 hw9) (Aq C0 hw9) E0) rfl fun c1 W0 A0 ⟨k0,p0,hu_,s0,t0⟩=>?_
 subst hu_
 obtain ⟨y0,Q0⟩:=d0.agr A0
 refine Bz 4 31 c0 rfl rfl .plain (Ay (news:=[.bool j0.fB.fe,k0,.bool j0.ft.fe,p0]) y0 .hd rfl rfl rfl rfl rfl rfl (o4 rfl (AP s0) rfl (AP t0))) fun d1 g0 q0=>AM (dk c0)<|Al rfl<|Ap hb0 func94 rfl (.cons (.many (cs:=[.bool j0.fB.fe,k0,.bool j0.ft.fe,p0]) rfl rfl (g0.memA .hd)) .nil) rfl ?_
 cases h
 exact ⟨g0.ag,fun w9 hw9=>⟨k0,p0,rfl,g0.kd (Am s0 q0) hw9,g0.kd (Am t0 q0) hw9⟩⟩

def dP_p (n:Nat) (a0:Ta):Option (Ta × Int):=
  (aX_p n ([a0,a0]:List Ta)).bind fun d0=>(if d0 = true then (aJ_p n a0).bind fun g0=>(aJ_p n a0).bind fun j0=>(dI_p n g0 j0).bind fun k0=>(ba_p n k0 (0:Int)).bind fun b0=>some (b0.1,b0.2) else (ba_p n (⟨(⟨false,([]:List UInt64)⟩:Th),(⟨false,([]:List UInt64)⟩:Th)⟩:Tg) (20:Int)).bind fun c0=>some (c0.1,c0.2))
theorem dP_c (n:Nat) {L w} (hL:hl L w) (a0:Ta)  {r:Ta × Int} (h:dP_p n a0 = some r) :
 Cl 49 #[.agg ((ab a0)).toArray] w (ah w fun _ u=>u = .tuple #[.agg ((ab r.1)).toArray,vI r.2]):=by
 unfold dP_p at h
 refine AG func49 rfl rfl rfl fun _ cs0 hb0=>Ac<|RG.bx (Az w) rfl rfl fun b2 q1 I0 C1=>RG.nl zL I0 fun c2 s1 q0 D1=>Af rfl<|Aa<|Ac<|Ab (AF rfl (q0.memA .t1))<|Ab (AF rfl (q0.memA .t1))<|By (fst:=[]) (cap:=[]) (vs:=[.agg ((ab a0)).toArray,.agg ((ab a0)).toArray,.func (.func 94) #[] #[]]) .plain (bd 93) func93 rfl rfl rfl rfl (e3 rfl rfl rfl) rfl fun A1 E0 Q1=>Ac<|RG.bx q0 rfl rfl fun d2 u1 J0 E1=>RG.bx J0 rfl rfl fun g2 v1 K0 F1=>RG.nl [.bool false,vN,.bool false,vN] K0 fun j2 x1 s0 G1=>Af rfl<|Aa<|Ai<|Ac<|Ab (AF rfl (s0.memA .t2))<|Ab (AF rfl (s0.memA .t1))<|Aj .plain rfl (AN (α:=Ta) (xs:=([a0,a0]:List Ta)) (vs:=[.agg ((ab a0)).toArray,.agg ((ab a0)).toArray]) (ds' :=(ab a0 ++ ab a0)) rfl s0 dU rfl (e2 rfl rfl) (by kernel_rfl) rfl) fun k2 y1 c0 H1=>bk h fun j1 Y0 h=>Bi (.bool j1) (bd 136) rfl (e1 rfl) (fun p q=>aX_c n (c0.hL0 hL q) (Aq (St.lend (α:=Ta) (L:=L) c0 .hd (AE (cs:=(ab a0 ++ ab a0)) (xs:=(([a0,a0]:List Ta):List Ta)) c0 L (Aw (cs:=(ab a0)) (ds:=(ab a0)) (br a0.fN a0.fD) (Aw (cs:=(ab a0)) (ds:=[]) (br a0.fN a0.fD) (AK _ _)))) hL) q) Y0) rfl<|Ab (Bp rfl)<|Aa<|BW rfl h (fun H0 h=>?_) (fun H0 h=>?_)
 refine Ar<|Ai<|du 6 fun b0 j0=>Rv 0 b0 rfl j0 (fun _=>Ak rfl)<|Rx 1 244 b0 rfl j0 (AF rfl (c0.memA .t3))<|Rx 3 240 b0 rfl j0 (AF rfl (c0.memA .t2))<|bk h fun k1 Z0 h=>Bl 2 15 b0 rfl .plain (bd 110) rfl (e1 rfl) (fun p q=>aJ_c n (c0.hL hL q) a0 Z0) rfl fun p2 X1 P0 ⟨R1,U1,hu_,U0,V0⟩=>?_
 subst hu_
 obtain ⟨x0,I1⟩:=c0.agr P0
 refine bk h fun p1 b1 h=>Bl 4 31 b0 rfl .plain (bd 110) rfl (e1 rfl) (fun p q=>aJ_c n (x0.hL hL q) a0 b1) rfl fun q2 Y1 Q0 ⟨V1,W1,hu_,W0,X0⟩=>?_
 subst hu_
 obtain ⟨y0,C0⟩:=x0.agr Q0
 refine bk h fun d0 c1 h=>Bl 5 63 b0 rfl .plain (bd 94) rfl (e2 rfl rfl) (fun p q=>dI_c n (y0.hL hL q) k1 (Aq (Am U0 C0) q) (Aq (Am V0 C0) q) p1 (Aq W0 q) (Aq X0 q) c1) rfl fun s2 Z1 R0 ⟨u0,v0,hu_,F0,G0⟩=>?_
 subst hu_
 obtain ⟨M0,J1⟩:=y0.agr R0
 refine Bz 6 127 b0 rfl rfl .plain (Ay (news:=[.bool d0.fB.fe,u0,.bool d0.ft.fe,v0]) M0 .t1 rfl rfl rfl rfl rfl rfl (o4 rfl (AP F0) rfl (AP G0))) fun u2 g0 D0=>Rv 7 b0 rfl j0 (fun _=>Bh rfl)<|AM (dk b0)<|Al rfl<|Ap (u:=.tuple #[.agg #[.bool d0.fB.fe,u0,.bool d0.ft.fe,v0],vI 0]) E0 func93 rfl (.cons (.many (cs:=[.bool d0.fB.fe,u0,.bool d0.ft.fe,v0]) rfl rfl (g0.memA .t1)) (.cons (.tmp rfl) .nil)) rfl<|Ab (Ah rfl rfl)<|Ab (Ah rfl rfl)<|bk h fun k0 d1 h=>Bi (.tuple #[.agg ((ab k0.1)).toArray,vI k0.2]) (bd 92) rfl (e2 rfl rfl) (fun p q=>ba_c n (g0.hL0 hL q) d0 (g0.kd (Am F0 D0) q) (g0.kd (Am G0 D0) q) d1) rfl<|Ab (Ah rfl rfl)<|Ab (Ah rfl rfl)<|AQ (ab k0.1) g0 .t4 (ai rfl) fun v2 z0 K1=>Af rfl<|Aa<|Al rfl<|Ap hb0 func49 rfl (.cons (.many (cs:=(ab k0.1)) rfl rfl (z0.memA .t4)) (.cons (.tmp rfl) .nil)) rfl ?_
 cases h
 exact z0.gv
 refine Ac<|RG.nl [.bool false,vN,.bool false,vN] c0 fun x2 z1 A0 M1=>Aa<|Ac<|Ab (AF rfl (A0.memA .hd))<|AQ [.bool false,vN,.bool false,vN] A0 .t2 (ai rfl) fun y2 t0 P1=>Af rfl<|Aa<|Al rfl<|Ap (u:=.tuple #[.agg #[.bool false,vN,.bool false,vN],vI 20]) E0 func93 rfl (.cons (.many (cs:=[.bool false,vN,.bool false,vN]) rfl rfl (t0.memA .t2)) (.cons (.tmp rfl) .nil)) rfl<|Ab (Ah rfl rfl)<|Ab (Ah rfl rfl)<|bk h fun p0 g1 h=>Bi (.tuple #[.agg ((ab p0.1)).toArray,vI p0.2]) (bd 92) rfl (e2 rfl rfl) (fun p q=>ba_c n (t0.hL0 hL q) (⟨(⟨false,([]:List UInt64)⟩:Th),(⟨false,([]:List UInt64)⟩:Th)⟩:Tg) (Aq (Rep.nilSlice _ _) q) (Aq (Rep.nilSlice _ _) q) g1) rfl<|Ab (Ah rfl rfl)<|Ab (Ah rfl rfl)<|AQ (ab p0.1) t0 .t5 (ai rfl) fun z2 B0 B1=>Af rfl<|Aa<|Al rfl<|Ap hb0 func49 rfl (.cons (.many (cs:=(ab p0.1)) rfl rfl (B0.memA .t5)) (.cons (.tmp rfl) .nil)) rfl ?_
 cases h
 exact B0.gv
def cu_p (n:Nat) (a0:Tg) (a1:Tg):Option Tg:=
  (aI_p n a0.fB a1.ft).bind fun b0=>(aI_p n a1.fB a0.ft).bind fun c0=>(bV_p n b0 c0).bind fun d0=>(aI_p n a0.ft a1.ft).bind fun g0=>(cb_p n d0 g0).bind fun j0=>some j0
theorem cu_c (n:Nat) {L w} (hL:hl L w) (a0:Tg) {v0_1:Value} (h0_1:Rep.R w L [v0_1] a0.fB.fo) {v0_3:Value} (h0_3:Rep.R w L [v0_3] a0.ft.fo) (a1:Tg) {v1_1:Value} (h1_1:Rep.R w L [v1_1] a1.fB.fo) {v1_3:Value} (h1_3:Rep.R w L [v1_3] a1.ft.fo)  {r:Tg} (h:cu_p n a0 a1 = some r) :
 Cl 171 #[.agg #[.bool a0.fB.fe,v0_1,.bool a0.ft.fe,v0_3],.agg #[.bool a1.fB.fe,v1_1,.bool a1.ft.fe,v1_3]] w (ah w fun w' u=>∃ v0_1 v0_3:Value,u = .agg #[.bool r.fB.fe,v0_1,.bool r.ft.fe,v0_3]/\Rep.R w' L [v0_1] r.fB.fo/\Rep.R w' L [v0_3] r.ft.fo):=by
 unfold cu_p at h
 refine AG func171 rfl rfl rfl fun _ cs0 hb0=>Ac<|RG.bx (Az w) rfl rfl fun F1 c1 z0 j1=>RG.bx z0 rfl rfl fun G1 d1 A0 k1=>RG.nl [.bool false,vN,.bool false,vN] A0 fun H1 g1 d0 p1=>Aa<|Ai<|du 17 fun b0 c0=>Rv 0 b0 rfl c0 (fun _=>AU 0 rfl)<|Rx 1 230928 b0 rfl c0 (AW (cs:=[.bool a0.fB.fe,v0_1]) rfl rfl (ae (d0.memA .t2) 0 2))<|Rv 2 b0 rfl c0 (fun _=>AU 2 rfl)<|Rx 3 230928 b0 rfl c0 (AW (cs:=[.bool a1.ft.fe,v1_3]) rfl rfl (ae (d0.memA .t1) 2 2))<|Rv 5 b0 rfl c0 (fun _=>AU 0 rfl)<|Rx 6 230912 b0 rfl c0 (AW (cs:=[.bool a1.fB.fe,v1_1]) rfl rfl (ae (d0.memA .t1) 0 2))<|Rv 7 b0 rfl c0 (fun _=>AU 2 rfl)<|Rx 8 230912 b0 rfl c0 (AW (cs:=[.bool a0.ft.fe,v0_3]) rfl rfl (ae (d0.memA .t2) 2 2))<|Rv 11 b0 rfl c0 (fun _=>AU 2 rfl)<|Rx 12 229376 b0 rfl c0 (AW (cs:=[.bool a0.ft.fe,v0_3]) rfl rfl (ae (d0.memA .t2) 2 2))<|Rv 13 b0 rfl c0 (fun _=>AU 2 rfl)<|Rx 14 229376 b0 rfl c0 (AW (cs:=[.bool a1.ft.fe,v1_3]) rfl rfl (ae (d0.memA .t1) 2 2))<|bk h fun X0 Q0 h=>Bl 4 31231 b0 rfl .plain (bd 154) rfl (e2 rfl rfl) (fun p q=>aI_c n (d0.hL hL q) a0.fB (d0.km h0_1 q) a1.ft (d0.km h1_3 q) Q0) rfl fun I1 A1 E0 ⟨v1,hu_,J0⟩=>?_
 subst hu_
 obtain ⟨g0,q1⟩:=d0.agr E0
 refine bk h fun Y0 R0 h=>Bl 9 31743 b0 rfl .plain (bd 154) rfl (e2 rfl rfl) (fun p q=>aI_c n (g0.hL hL q) a1.fB (g0.km h1_1 q) a0.ft (g0.km h0_3 q) R0) rfl fun J1 B1 F0 ⟨x1,hu_,K0⟩=>?_
 subst hu_
 obtain ⟨t0,C0⟩:=g0.agr F0
 refine bk h fun Z0 U0 h=>Bl 10 32767 b0 rfl .plain (bd 189) rfl (e2 rfl rfl) (fun p q=>bV_c n (t0.hL hL q) X0 (Aq (Am J0 C0) q) Y0 (Aq K0 q) U0) rfl fun K1 C1 G0 ⟨y1,hu_,M0⟩=>?_
 subst hu_
 obtain ⟨j0,s1⟩:=t0.agr G0
 refine bk h fun b1 V0 h=>Bl 15 65535 b0 rfl .plain (bd 154) rfl (e2 rfl rfl) (fun p q=>aI_c n (j0.hL hL q) a0.ft (j0.km h0_3 q) a1.ft (j0.km h1_3 q) V0) rfl fun M1 D1 H0 ⟨z1,hu_,P0⟩=>?_
 subst hu_
 obtain ⟨u0,D0⟩:=j0.agr H0
 refine bk h fun p0 W0 h=>Bl 16 131071 b0 rfl .plain (bd 164) rfl (e2 rfl rfl) (fun p q=>cb_c n (u0.hL hL q) Z0 (Aq (Am M0 D0) q) b1 (Aq P0 q) W0) rfl fun P1 E1 I0 ⟨q0,s0,hu_,x0,y0⟩=>?_
 subst hu_
 obtain ⟨B0,u1⟩:=u0.agr I0
 refine Bz 17 262143 b0 rfl rfl .plain (Ay (news:=[.bool p0.fB.fe,q0,.bool p0.ft.fe,s0]) B0 .hd rfl rfl rfl rfl rfl rfl (o4 rfl (AP x0) rfl (AP y0))) fun Q1 k0 v0=>AM (dk b0)<|Al rfl<|Ap hb0 func171 rfl (.cons (.many (cs:=[.bool p0.fB.fe,q0,.bool p0.ft.fe,s0]) rfl rfl (k0.memA .hd)) .nil) rfl ?_
 cases h
 exact ⟨k0.ag,fun p q=>⟨q0,s0,rfl,k0.kd (Am x0 v0) q,k0.kd (Am y0 v0) q⟩⟩
def dj_p (n:Nat) (a0:Tg) (a1:Tg):Option Tg:=
  (aV_p n a1).bind fun b0=>(cu_p n a0 b0).bind fun c0=>some c0
theorem dj_c (n:Nat) {L w} (hL:hl L w) (a0:Tg) {v0_1:Value} (h0_1:Rep.R w L [v0_1] a0.fB.fo) {v0_3:Value} (h0_3:Rep.R w L [v0_3] a0.ft.fo) (a1:Tg) {v1_1:Value} (h1_1:Rep.R w L [v1_1] a1.fB.fo) {v1_3:Value} (h1_3:Rep.R w L [v1_3] a1.ft.fo)  {r:Tg} (h:dj_p n a0 a1 = some r) :
 Cl 139 #[.agg #[.bool a0.fB.fe,v0_1,.bool a0.ft.fe,v0_3],.agg #[.bool a1.fB.fe,v1_1,.bool a1.ft.fe,v1_3]] w (ah w fun w' u=>∃ v0_1 v0_3:Value,u = .agg #[.bool r.fB.fe,v0_1,.bool r.ft.fe,v0_3]/\Rep.R w' L [v0_1] r.fB.fo/\Rep.R w' L [v0_3] r.ft.fo):=by
 unfold dj_p at h
 refine AG func139 rfl rfl rfl fun _ cs0 hb0=>Ac<|RG.bx (Az w) rfl rfl fun X0 G0 v0 J0=>RG.bx v0 rfl rfl fun Y0 H0 x0 K0=>RG.nl [.bool false,vN,.bool false,vN] x0 fun Z0 I0 b0 M0=>Aa<|Ai<|du 4 fun c0 u0=>Rx 0 24 c0 rfl u0 (AF rfl (b0.memA .t2))<|Rx 1 28 c0 rfl u0 (AF rfl (b0.memA .t1))<|bk h fun F0 D0 h=>Bl 2 7 c0 rfl .plain (bd 96) rfl (e1 rfl) (fun p q=>aV_c n (b0.hL hL q) a1 (b0.km h1_1 q) (b0.km h1_3 q) D0) rfl fun b1 V0 z0 ⟨R0,U0,hu_,B0,C0⟩=>?_
 subst hu_
 obtain ⟨d0,P0⟩:=b0.agr z0
 refine bk h fun j0 E0 h=>Bl 3 15 c0 rfl .plain (bd 171) rfl (e2 rfl rfl) (fun p q=>cu_c n (d0.hL hL q) a0 (d0.km h0_1 q) (d0.km h0_3 q) F0 (Aq B0 q) (Aq C0 q) E0) rfl fun c1 W0 A0 ⟨k0,p0,hu_,s0,t0⟩=>?_
 subst hu_
 obtain ⟨y0,Q0⟩:=d0.agr A0
 refine Bz 4 31 c0 rfl rfl .plain (Ay (news:=[.bool j0.fB.fe,k0,.bool j0.ft.fe,p0]) y0 .hd rfl rfl rfl rfl rfl rfl (o4 rfl (AP s0) rfl (AP t0))) fun d1 g0 q0=>AM (dk c0)<|Al rfl<|Ap hb0 func139 rfl (.cons (.many (cs:=[.bool j0.fB.fe,k0,.bool j0.ft.fe,p0]) rfl rfl (g0.memA .hd)) .nil) rfl ?_
 cases h
 exact ⟨g0.ag,fun p q=>⟨k0,p0,rfl,g0.kd (Am s0 q0) q,g0.kd (Am t0 q0) q⟩⟩
def dJ_p (n:Nat) (a0:Ta) (a1:Ta):Option (Ta × Int):=
  (aX_p n ([a0,a1]:List Ta)).bind fun d0=>(if d0 = true then (aJ_p n a0).bind fun g0=>(aJ_p n a1).bind fun j0=>(dj_p n g0 j0).bind fun k0=>(ba_p n k0 (0:Int)).bind fun c0=>some (c0.1,c0.2) else (ba_p n (⟨(⟨false,([]:List UInt64)⟩:Th),(⟨false,([]:List UInt64)⟩:Th)⟩:Tg) (20:Int)).bind fun b0=>some (b0.1,b0.2))
theorem dJ_c (n:Nat) {L w} (hL:hl L w) (a0:Ta) (a1:Ta)  {r:Ta × Int} (h:dJ_p n a0 a1 = some r) :
 Cl 97 #[.agg ((ab a0)).toArray,.agg ((ab a1)).toArray] w (ah w fun _ u=>u = .tuple #[.agg ((ab r.1)).toArray,vI r.2]):=by
 unfold dJ_p at h
 refine AG func97 rfl rfl rfl fun _ cs0 hb0=>Ac<|RG.bx (Az w) rfl rfl fun j2 s1 I0 F1=>RG.bx I0 rfl rfl fun k2 u1 J0 G1=>RG.nl zL J0 fun p2 v1 s0 H1=>Af rfl<|Aa<|Ac<|Ab (AF rfl (s0.memA .t2))<|Ab (AF rfl (s0.memA .t1))<|By (fst:=[]) (cap:=[]) (vs:=[.agg ((ab a0)).toArray,.agg ((ab a1)).toArray,.func (.func 139) #[] #[]]) .plain (bd 93) func93 rfl rfl rfl rfl (e3 rfl rfl rfl) rfl fun C1 E0 V1=>Ac<|RG.bx s0 rfl rfl fun q2 x1 K0 I1=>RG.bx K0 rfl rfl fun s2 y1 M0 J1=>RG.nl [.bool false,vN,.bool false,vN] M0 fun u2 z1 t0 K1=>Af rfl<|Aa<|Ai<|Ac<|Ab (AF rfl (t0.memA .t2))<|Ab (AF rfl (t0.memA .t1))<|Aj .plain rfl (AN (α:=Ta) (xs:=([a0,a1]:List Ta)) (vs:=[.agg ((ab a0)).toArray,.agg ((ab a1)).toArray]) (ds' :=(ab a0 ++ ab a1)) rfl t0 dU rfl (e2 rfl rfl) (by kernel_rfl) rfl) fun v2 A1 c0 M1=>?_
 refine bk h fun k1 b1 h=>Bi (.bool k1) (bd 136) rfl (e1 rfl) (fun p q=>aX_c n (c0.hL0 hL q) (Aq (St.lend (α:=Ta) (L:=L) c0 .hd (AE (cs:=(ab a0 ++ ab a1)) (xs:=(([a0,a1]:List Ta):List Ta)) c0 L (Aw (cs:=(ab a0)) (ds:=(ab a1)) (br a0.fN a0.fD) (Aw (cs:=(ab a1)) (ds:=[]) (br a1.fN a1.fD) (AK _ _)))) hL) q) b1) rfl<|Ab (Bp rfl)<|Aa<|BW rfl h (fun H0 h=>?_) (fun H0 h=>?_)
 refine Ar<|Ai<|du 6 fun b0 j0=>Rv 0 b0 rfl j0 (fun _=>Ak rfl)<|Rx 1 244 b0 rfl j0 (AF rfl (c0.memA .t3))<|Rx 3 240 b0 rfl j0 (AF rfl (c0.memA .t2))<|bk h fun p1 c1 h=>Bl 2 15 b0 rfl .plain (bd 110) rfl (e1 rfl) (fun p q=>aJ_c n (c0.hL hL q) a0 c1) rfl fun x2 b2 Q0 ⟨W1,X1,hu_,V0,W0⟩=>?_
 subst hu_
 obtain ⟨y0,P1⟩:=c0.agr Q0
 refine bk h fun q1 d1 h=>Bl 4 31 b0 rfl .plain (bd 110) rfl (e1 rfl) (fun p q=>aJ_c n (y0.hL hL q) a1 d1) rfl fun y2 c2 R0 ⟨Y1,Z1,hu_,X0,Y0⟩=>?_
 subst hu_
 obtain ⟨z0,C0⟩:=y0.agr R0
 refine bk h fun d0 g1 h=>Bl 5 63 b0 rfl .plain (bd 139) rfl (e2 rfl rfl) (fun p q=>dj_c n (z0.hL hL q) p1 (Aq (Am V0 C0) q) (Aq (Am W0 C0) q) q1 (Aq X0 q) (Aq Y0 q) g1) rfl fun z2 d2 U0 ⟨u0,v0,hu_,F0,G0⟩=>?_
 subst hu_
 obtain ⟨P0,Q1⟩:=z0.agr U0
 refine Bz 6 127 b0 rfl rfl .plain (Ay (news:=[.bool d0.fB.fe,u0,.bool d0.ft.fe,v0]) P0 .t1 rfl rfl rfl rfl rfl rfl (o4 rfl (AP F0) rfl (AP G0))) fun A2 g0 D0=>Rv 7 b0 rfl j0 (fun _=>Bh rfl)<|AM (dk b0)<|Al rfl<|Ap (u:=.tuple #[.agg #[.bool d0.fB.fe,u0,.bool d0.ft.fe,v0],vI 0]) E0 func93 rfl (.cons (.many (cs:=[.bool d0.fB.fe,u0,.bool d0.ft.fe,v0]) rfl rfl (g0.memA .t1)) (.cons (.tmp rfl) .nil)) rfl<|Ab (Ah rfl rfl)<|Ab (Ah rfl rfl)<|bk h fun p0 j1 h=>Bi (.tuple #[.agg ((ab p0.1)).toArray,vI p0.2]) (bd 92) rfl (e2 rfl rfl) (fun p q=>ba_c n (g0.hL0 hL q) d0 (g0.kd (Am F0 D0) q) (g0.kd (Am G0 D0) q) j1) rfl<|Ab (Ah rfl rfl)<|Ab (Ah rfl rfl)<|AQ (ab p0.1) g0 .t4 (ai rfl) fun B2 A0 R1=>Af rfl<|Aa<|Al rfl<|Ap hb0 func97 rfl (.cons (.many (cs:=(ab p0.1)) rfl rfl (A0.memA .t4)) (.cons (.tmp rfl) .nil)) rfl ?_
 cases h
 exact A0.gv
 refine Ac<|RG.nl [.bool false,vN,.bool false,vN] c0 fun C2 B1 B0 U1=>Aa<|Ac<|Ab (AF rfl (B0.memA .hd))<|AQ [.bool false,vN,.bool false,vN] B0 .t2 (ai rfl) fun D2 q0 D1=>Af rfl<|Aa<|Al rfl<|Ap (u:=.tuple #[.agg #[.bool false,vN,.bool false,vN],vI 20]) E0 func93 rfl (.cons (.many (cs:=[.bool false,vN,.bool false,vN]) rfl rfl (q0.memA .t2)) (.cons (.tmp rfl) .nil)) rfl<|Ab (Ah rfl rfl)<|Ab (Ah rfl rfl)<|bk h fun k0 Z0 h=>Bi (.tuple #[.agg ((ab k0.1)).toArray,vI k0.2]) (bd 92) rfl (e2 rfl rfl) (fun p q=>ba_c n (q0.hL0 hL q) (⟨(⟨false,([]:List UInt64)⟩:Th),(⟨false,([]:List UInt64)⟩:Th)⟩:Tg) (Aq (Rep.nilSlice _ _) q) (Aq (Rep.nilSlice _ _) q) Z0) rfl<|Ab (Ah rfl rfl)<|Ab (Ah rfl rfl)<|AQ (ab k0.1) q0 .t5 (ai rfl) fun g2 x0 E1=>Af rfl<|Aa<|Al rfl<|Ap hb0 func97 rfl (.cons (.many (cs:=(ab k0.1)) rfl rfl (x0.memA .t5)) (.cons (.tmp rfl) .nil)) rfl ?_
 cases h
 exact x0.gv
def cD_p (n:Nat) (a0:Ta) (a1:Ta):Option (Except Te Ta):=
  (dJ_p n a0 a1).bind fun b0=>(ae_p n b0.1 b0.2).bind fun d0=>exc d0 (fun g0=>some (.ok g0)) (fun c0=>some (.error c0))
theorem cD_c (n:Nat) {L w} (hL:hl L w) (a0:Ta) (a1:Ta)  {r:Except Te Ta} (h:cD_p n a0 a1 = some r) :
 Cl 50 #[.agg ((ab a0)).toArray,.agg ((ab a1)).toArray] w (aK w (fun (y:Ta) _ u=>u = .agg ((ab y)).toArray) (fun e=>.iface 145 (.agg #[vI e.fE])) r):=by
 unfold cD_p at h
 refine BO func50 rfl rfl rfl fun _ cs0 hb0 hp0=>Ac<|RG.bx (Az w) rfl rfl fun E0 u0 k0 z0=>RG.bx k0 rfl rfl fun F0 v0 p0 A0=>RG.nl zL p0 fun G0 x0 b0 B0=>Aa<|Ac<|Ab (AF rfl (b0.memA .t2))<|Ab (AF rfl (b0.memA .t1))<|bk h fun c0 t0 h=>Bi (.tuple #[.agg ((ab c0.1)).toArray,vI c0.2]) (bd 97) rfl (e2 rfl rfl) (fun p q=>dJ_c n (b0.hL0 hL q) a0 a1 t0) rfl<|Ab (Ah rfl rfl)<|Ab (Ah rfl rfl)<|xk h (fun y0 d0 h=>?_) (fun g0 d0 h=>?_)
 refine BC (fst:=[]) (cap:=[]) .plain (bd 48) rfl (e2 rfl rfl) (fun p q=>ae_c n (b0.hL0 hL q) c0.1 d0) fun H0 s0=>?_
 obtain ⟨q0,C0⟩:=b0.agr s0
 cases h
 exact AZ hp0 func50 ⟨q0.ag,rfl⟩
 refine Bi (.agg ((ab g0)).toArray) (bd 48) rfl (e2 rfl rfl) (fun p q=>AV (ae_c n (b0.hL0 hL q) c0.1 d0)) rfl<|AQ (ab g0) b0 .hd (ai rfl) fun I0 j0 D0=>Aa<|Al rfl<|Ap hb0 func50 rfl (.cons (.many (cs:=(ab g0)) rfl rfl (j0.memA .hd)) .nil) rfl ?_
 cases h
 exact ⟨j0.ag,fun p q=>aC rfl⟩
def cv_p (n:Nat) (a0:Tg) (a1:Tg):Option Tg:=
  (aI_p n a0.fB a1.ft).bind fun b0=>(aI_p n a0.ft a1.fB).bind fun c0=>(cb_p n b0 c0).bind fun d0=>some d0
theorem cv_c (n:Nat) {L w} (hL:hl L w) (a0:Tg) {v0_1:Value} (h0_1:Rep.R w L [v0_1] a0.fB.fo) {v0_3:Value} (h0_3:Rep.R w L [v0_3] a0.ft.fo) (a1:Tg) {v1_1:Value} (h1_1:Rep.R w L [v1_1] a1.fB.fo) {v1_3:Value} (h1_3:Rep.R w L [v1_3] a1.ft.fo)  {r:Tg} (h:cv_p n a0 a1 = some r) :
 Cl 140 #[.agg #[.bool a0.fB.fe,v0_1,.bool a0.ft.fe,v0_3],.agg #[.bool a1.fB.fe,v1_1,.bool a1.ft.fe,v1_3]] w (ah w fun w' u=>∃ v0_1 v0_3:Value,u = .agg #[.bool r.fB.fe,v0_1,.bool r.ft.fe,v0_3]/\Rep.R w' L [v0_1] r.fB.fo/\Rep.R w' L [v0_3] r.ft.fo):=by
 unfold cv_p at h
 refine AG func140 rfl rfl rfl fun _ cs0 hb0=>Ac<|RG.bx (Az w) rfl rfl fun g1 M0 x0 R0=>RG.bx x0 rfl rfl fun j1 P0 y0 U0=>RG.nl [.bool false,vN,.bool false,vN] y0 fun k1 Q0 c0 V0=>Aa<|Ai<|du 11 fun b0 d0=>Rv 0 b0 rfl d0 (fun _=>AU 0 rfl)<|Rx 1 3600 b0 rfl d0 (AW (cs:=[.bool a0.fB.fe,v0_1]) rfl rfl (ae (c0.memA .t2) 0 2))<|Rv 2 b0 rfl d0 (fun _=>AU 2 rfl)<|Rx 3 3600 b0 rfl d0 (AW (cs:=[.bool a1.ft.fe,v1_3]) rfl rfl (ae (c0.memA .t1) 2 2))<|Rv 5 b0 rfl d0 (fun _=>AU 2 rfl)<|Rx 6 3584 b0 rfl d0 (AW (cs:=[.bool a0.ft.fe,v0_3]) rfl rfl (ae (c0.memA .t2) 2 2))<|Rv 7 b0 rfl d0 (fun _=>AU 0 rfl)<|Rx 8 3584 b0 rfl d0 (AW (cs:=[.bool a1.fB.fe,v1_1]) rfl rfl (ae (c0.memA .t1) 0 2))<|bk h fun J0 G0 h=>Bl 4 511 b0 rfl .plain (bd 154) rfl (e2 rfl rfl) (fun p q=>aI_c n (c0.hL hL q) a0.fB (c0.km h0_1 q) a1.ft (c0.km h1_3 q) G0) rfl fun p1 b1 B0 ⟨Y0,hu_,E0⟩=>?_
 subst hu_
 obtain ⟨g0,W0⟩:=c0.agr B0
 refine bk h fun K0 H0 h=>Bl 9 1023 b0 rfl .plain (bd 154) rfl (e2 rfl rfl) (fun p q=>aI_c n (g0.hL hL q) a0.ft (g0.km h0_3 q) a1.fB (g0.km h1_1 q) H0) rfl fun q1 c1 C0 ⟨Z0,hu_,F0⟩=>?_
 subst hu_
 obtain ⟨s0,A0⟩:=g0.agr C0
 refine bk h fun k0 I0 h=>Bl 10 2047 b0 rfl .plain (bd 164) rfl (e2 rfl rfl) (fun p q=>cb_c n (s0.hL hL q) J0 (Aq (Am E0 A0) q) K0 (Aq F0 q) I0) rfl fun s1 d1 D0 ⟨p0,q0,hu_,u0,v0⟩=>?_
 subst hu_
 obtain ⟨z0,X0⟩:=s0.agr D0
 refine Bz 11 4095 b0 rfl rfl .plain (Ay (news:=[.bool k0.fB.fe,p0,.bool k0.ft.fe,q0]) z0 .hd rfl rfl rfl rfl rfl rfl (o4 rfl (AP u0) rfl (AP v0))) fun u1 j0 t0=>AM (dk b0)<|Al rfl<|Ap hb0 func140 rfl (.cons (.many (cs:=[.bool k0.fB.fe,p0,.bool k0.ft.fe,q0]) rfl rfl (j0.memA .hd)) .nil) rfl ?_
 cases h
 exact ⟨j0.ag,fun p q=>⟨p0,q0,rfl,j0.kd (Am u0 t0) q,j0.kd (Am v0 t0) q⟩⟩
def dK_p (n:Nat) (a0:Ta) (a1:Ta):Option (Ta × Int):=
  (aX_p n ([a0,a1]:List Ta)).bind fun s0=>(if s0 = true then (if a1.fN = (0,0,0,0,0,0,0,0) then some ((⟨(0,0,0,0,0,0,0,0),(0,0,0,0,0,0,0,0)⟩:Ta),(7:Int)) else (aX_p n ([a0,a1]:List Ta)).bind fun t0=>(if t0 = true then (aJ_p n a0).bind fun u0=>(aJ_p n a1).bind fun v0=>(cv_p n u0 v0).bind fun x0=>(ba_p n x0 (0:Int)).bind fun b0=>some (b0.1,b0.2) else (ba_p n (⟨(⟨false,([]:List UInt64)⟩:Th),(⟨false,([]:List UInt64)⟩:Th)⟩:Tg) (20:Int)).bind fun c0=>some (c0.1,c0.2))) else (aX_p n ([a0,a1]:List Ta)).bind fun j0=>(if j0 = true then (aJ_p n a0).bind fun k0=>(aJ_p n a1).bind fun p0=>(cv_p n k0 p0).bind fun q0=>(ba_p n q0 (0:Int)).bind fun d0=>some (d0.1,d0.2) else (ba_p n (⟨(⟨false,([]:List UInt64)⟩:Th),(⟨false,([]:List UInt64)⟩:Th)⟩:Tg) (20:Int)).bind fun g0=>some (g0.1,g0.2)))
theorem dK_c (n:Nat) {L w} (hL:hl L w) (a0:Ta) (a1:Ta)  {r:Ta × Int} (h:dK_p n a0 a1 = some r) :
 Cl 98 #[.agg ((ab a0)).toArray,.agg ((ab a1)).toArray] w (ah w fun _ u=>u = .tuple #[.agg ((ab r.1)).toArray,vI r.2]):=by
 unfold dK_p at h
 refine AG func98 rfl rfl rfl fun _ cs0 hb0=>Ac<|RG.bx (Az w) rfl rfl fun t4 K2 z1 q3=>RG.bx z1 rfl rfl fun D4 P2 C1 y3=>RG.nl zL C1 fun K4 R2 D0 D3=>Af rfl<|Aa<|Ai<|Ac<|Ab (AF rfl (D0.memA .t2))<|Ab (AF rfl (D0.memA .t1))<|Aj .plain rfl (AN (α:=Ta) (xs:=([a0,a1]:List Ta)) (vs:=[.agg ((ab a0)).toArray,.agg ((ab a1)).toArray]) (ds' :=(ab a0 ++ ab a1)) rfl D0 dU rfl (e2 rfl rfl) (by kernel_rfl) rfl) fun M4 U2 b0 E3=>bk h fun C2 s2 h=>Bi (.bool C2) (bd 136) rfl (e1 rfl) (fun p q=>aX_c n (b0.hL0 hL q) (Aq (St.lend (α:=Ta) (L:=L) b0 .hd (AE (cs:=(ab a0 ++ ab a1)) (xs:=(([a0,a1]:List Ta):List Ta)) b0 L (Aw (cs:=(ab a0)) (ds:=(ab a1)) (br a0.fN a0.fD) (Aw (cs:=(ab a1)) (ds:=[]) (br a1.fN a1.fD) (AK _ _)))) hL) q) s2) rfl<|Ae rfl<|RG.ifb (s:=10) rfl h (fun v1 h=>?_) (fun v1 h=>?_)
 refine RG.fg 0 rfl<|AH (AW (cs:=(ak a1.fN)) rfl rfl (ae (b0.memA .t2) 0 8))<|AH (AO (vs:=[]) (u:=.agg zQ) aj (fun p=>by kernel_rfl))<|AH (FV.eqlV (v:=.agg ((ak a1.fN)).toArray) (u:=.agg zQ) rfl rfl (lR a1.fN (0,0,0,0,0,0,0,0)))<|Bm rfl rfl<|Aa<|AT rfl h (fun x1 h=>?_) (fun x1 h=>?_)
 refine Ac<|Ab (AO (vs:=[]) (u:=.agg zM) aj (fun p=>by kernel_rfl))<|AQ zL b0 .t1 (ai rfl) fun P4 W0 F3=>Af rfl<|Aa<|Al rfl<|Ap hb0 func98 rfl (.cons (.many (cs:=zL) rfl rfl (W0.memA .t1)) (.cons (.tmp rfl) .nil)) rfl ?_
 cases h
 exact W0.gv
 refine Ar<|Ac<|Ab (AF rfl (b0.memA .t3))<|Ab (AF rfl (b0.memA .t2))<|By (fst:=[]) (cap:=[]) (vs:=[.agg ((ab a0)).toArray,.agg ((ab a1)).toArray,.func (.func 140) #[] #[]]) .plain (bd 93) func93 rfl rfl rfl rfl (e3 rfl rfl rfl) rfl fun b3 j1 Q3=>Ac<|RG.bx b0 rfl rfl fun Q4 V2 E1 G3=>RG.bx E1 rfl rfl fun R4 W2 F1 H3=>RG.nl [.bool false,vN,.bool false,vN] F1 fun U4 X2 E0 I3=>Af rfl<|Aa<|Ai<|Ac<|Ab (AF rfl (E0.memA .t2))<|Ab (AF rfl (E0.memA .t1))<|Aj .plain rfl (AN (α:=Ta) (xs:=([a0,a1]:List Ta)) (vs:=[.agg ((ab a0)).toArray,.agg ((ab a1)).toArray]) (ds' :=(ab a0 ++ ab a1)) rfl E0 dU rfl (e2 rfl rfl) (by kernel_rfl) rfl) fun V4 Y2 j0 J3=>bk h fun D2 u2 h=>Bi (.bool D2) (bd 136) rfl (e1 rfl) (fun p q=>aX_c n (j0.hL0 hL q) (Aq (St.lend (α:=Ta) (L:=L) j0 .hd (AE (cs:=(ab a0 ++ ab a1)) (xs:=(([a0,a1]:List Ta):List Ta)) j0 L (Aw (cs:=(ab a0)) (ds:=(ab a1)) (br a0.fN a0.fD) (Aw (cs:=(ab a1)) (ds:=[]) (br a1.fN a1.fD) (AK _ _)))) hL) q) u2) rfl<|Ab (Bp rfl)<|Aa<|BW rfl h (fun y1 h=>?_) (fun y1 h=>?_)
 refine Ar<|Ai<|du 6 fun d0 u0=>Rv 0 d0 rfl u0 (fun _=>Ak rfl)<|Rx 1 244 d0 rfl u0 (AF rfl (j0.memA .t3))<|Rx 3 240 d0 rfl u0 (AF rfl (j0.memA .t2))<|bk h fun E2 v2 h=>Bl 2 15 d0 rfl .plain (bd 110) rfl (e1 rfl) (fun p q=>aJ_c n (j0.hL hL q) a0 v2) rfl fun W4 j4 K1 ⟨X3,Y3,hu_,W1,X1⟩=>?_
 subst hu_
 obtain ⟨X0,K3⟩:=j0.agr K1
 refine bk h fun F2 x2 h=>Bl 4 31 d0 rfl .plain (bd 110) rfl (e1 rfl) (fun p q=>aJ_c n (X0.hL hL q) a1 x2) rfl fun X4 k4 M1 ⟨Z3,b4,hu_,Y1,Z1⟩=>?_
 subst hu_
 obtain ⟨Y0,c1⟩:=X0.agr M1
 refine bk h fun p0 y2 h=>Bl 5 63 d0 rfl .plain (bd 140) rfl (e2 rfl rfl) (fun p q=>cv_c n (Y0.hL hL q) E2 (Aq (Am W1 c1) q) (Aq (Am X1 c1) q) F2 (Aq Y1 q) (Aq Z1 q) y2) rfl fun Y4 p4 P1 ⟨H0,I0,hu_,q1,s1⟩=>?_
 subst hu_
 obtain ⟨G1,M3⟩:=Y0.agr P1
 refine Bz 6 127 d0 rfl rfl .plain (Ay (news:=[.bool p0.fB.fe,H0,.bool p0.ft.fe,I0]) G1 .t1 rfl rfl rfl rfl rfl rfl (o4 rfl (AP q1) rfl (AP s1))) fun Z4 s0 d1=>Rv 7 d0 rfl u0 (fun _=>Bh rfl)<|AM (dk d0)<|Al rfl<|Ap (u:=.tuple #[.agg #[.bool p0.fB.fe,H0,.bool p0.ft.fe,I0],vI 0]) j1 func93 rfl (.cons (.many (cs:=[.bool p0.fB.fe,H0,.bool p0.ft.fe,I0]) rfl rfl (s0.memA .t1)) (.cons (.tmp rfl) .nil)) rfl<|Ab (Ah rfl rfl)<|Ab (Ah rfl rfl)<|bk h fun v0 b2 h=>Bi (.tuple #[.agg ((ab v0.1)).toArray,vI v0.2]) (bd 92) rfl (e2 rfl rfl) (fun p q=>ba_c n (s0.hL0 hL q) p0 (s0.kd (Am q1 d1) q) (s0.kd (Am s1 d1) q) b2) rfl<|Ab (Ah rfl rfl)<|Ab (Ah rfl rfl)<|AQ (ab v0.1) s0 .t5 (ai rfl) fun q4 J0 c3=>Af rfl<|Aa<|Al rfl<|Ap hb0 func98 rfl (.cons (.many (cs:=(ab v0.1)) rfl rfl (J0.memA .t5)) (.cons (.tmp rfl) .nil)) rfl ?_
 cases h
 exact J0.gv
 refine Ac<|RG.nl [.bool false,vN,.bool false,vN] j0 fun s4 G2 K0 d3=>Aa<|Ac<|Ab (AF rfl (K0.memA .hd))<|AQ [.bool false,vN,.bool false,vN] K0 .t2 (ai rfl) fun u4 A0 g3=>Af rfl<|Aa<|Al rfl<|Ap (u:=.tuple #[.agg #[.bool false,vN,.bool false,vN],vI 20]) j1 func93 rfl (.cons (.many (cs:=[.bool false,vN,.bool false,vN]) rfl rfl (A0.memA .t2)) (.cons (.tmp rfl) .nil)) rfl<|Ab (Ah rfl rfl)<|Ab (Ah rfl rfl)<|bk h fun x0 c2 h=>Bi (.tuple #[.agg ((ab x0.1)).toArray,vI x0.2]) (bd 92) rfl (e2 rfl rfl) (fun p q=>ba_c n (A0.hL0 hL q) (⟨(⟨false,([]:List UInt64)⟩:Th),(⟨false,([]:List UInt64)⟩:Th)⟩:Tg) (Aq (Rep.nilSlice _ _) q) (Aq (Rep.nilSlice _ _) q) c2) rfl<|Ab (Ah rfl rfl)<|Ab (Ah rfl rfl)<|AQ (ab x0.1) A0 .t6 (ai rfl) fun v4 M0 j3=>Af rfl<|Aa<|Al rfl<|Ap hb0 func98 rfl (.cons (.many (cs:=(ab x0.1)) rfl rfl (M0.memA .t6)) (.cons (.tmp rfl) .nil)) rfl ?_
 cases h
 exact M0.gv
 refine Au<|Au<|Au<|Au<|Bv rfl rfl<|Aa<|BI rfl<|Ar<|Ac<|Ab (AF rfl (b0.memA .t3))<|Ab (AF rfl (b0.memA .t2))<|By (fst:=[]) (cap:=[]) (vs:=[.agg ((ab a0)).toArray,.agg ((ab a1)).toArray,.func (.func 140) #[] #[]]) .plain (bd 93) func93 rfl rfl rfl rfl (e3 rfl rfl rfl) rfl fun Z2 g1 P3=>Ac<|RG.bx b0 rfl rfl fun x4 H2 A1 k3=>RG.bx A1 rfl rfl fun y4 I2 B1 p3=>RG.nl [.bool false,vN,.bool false,vN] B1 fun z4 J2 B0 s3=>Af rfl<|Aa<|Ai<|Ac<|Ab (AF rfl (B0.memA .t2))<|Ab (AF rfl (B0.memA .t1))<|Aj .plain rfl (AN (α:=Ta) (xs:=([a0,a1]:List Ta)) (vs:=[.agg ((ab a0)).toArray,.agg ((ab a1)).toArray]) (ds' :=(ab a0 ++ ab a1)) rfl B0 dU rfl (e2 rfl rfl) (by kernel_rfl) rfl) fun A4 M2 g0 u3=>bk h fun z2 d2 h=>Bi (.bool z2) (bd 136) rfl (e1 rfl) (fun p q=>aX_c n (g0.hL0 hL q) (Aq (St.lend (α:=Ta) (L:=L) g0 .hd (AE (cs:=(ab a0 ++ ab a1)) (xs:=(([a0,a1]:List Ta):List Ta)) g0 L (Aw (cs:=(ab a0)) (ds:=(ab a1)) (br a0.fN a0.fD) (Aw (cs:=(ab a1)) (ds:=[]) (br a1.fN a1.fD) (AK _ _)))) hL) q) d2) rfl<|Ab (Bp rfl)<|Aa<|BW rfl h (fun u1 h=>?_) (fun u1 h=>?_)
 refine Ar<|Ai<|du 6 fun c0 t0=>Rv 0 c0 rfl t0 (fun _=>Ak rfl)<|Rx 1 244 c0 rfl t0 (AF rfl (g0.memA .t3))<|Rx 3 240 c0 rfl t0 (AF rfl (g0.memA .t2))<|bk h fun A2 g2 h=>Bl 2 15 c0 rfl .plain (bd 110) rfl (e1 rfl) (fun p q=>aJ_c n (g0.hL hL q) a0 g2) rfl fun B4 c4 H1 ⟨R3,U3,hu_,Q1,R1⟩=>?_
 subst hu_
 obtain ⟨P0,v3⟩:=g0.agr H1
 refine bk h fun B2 j2 h=>Bl 4 31 c0 rfl .plain (bd 110) rfl (e1 rfl) (fun p q=>aJ_c n (P0.hL hL q) a1 j2) rfl fun C4 d4 I1 ⟨V3,W3,hu_,U1,V1⟩=>?_
 subst hu_
 obtain ⟨Q0,Z0⟩:=P0.agr I1
 refine bk h fun k0 k2 h=>Bl 5 63 c0 rfl .plain (bd 140) rfl (e2 rfl rfl) (fun p q=>cv_c n (Q0.hL hL q) A2 (Aq (Am Q1 Z0) q) (Aq (Am R1 Z0) q) B2 (Aq U1 q) (Aq V1 q) k2) rfl fun E4 g4 J1 ⟨F0,G0,hu_,k1,p1⟩=>?_
 subst hu_
 obtain ⟨D1,x3⟩:=Q0.agr J1
 refine Bz 6 127 c0 rfl rfl .plain (Ay (news:=[.bool k0.fB.fe,F0,.bool k0.ft.fe,G0]) D1 .t1 rfl rfl rfl rfl rfl rfl (o4 rfl (AP k1) rfl (AP p1))) fun F4 q0 b1=>Rv 7 c0 rfl t0 (fun _=>Bh rfl)<|AM (dk c0)<|Al rfl<|Ap (u:=.tuple #[.agg #[.bool k0.fB.fe,F0,.bool k0.ft.fe,G0],vI 0]) g1 func93 rfl (.cons (.many (cs:=[.bool k0.fB.fe,F0,.bool k0.ft.fe,G0]) rfl rfl (q0.memA .t1)) (.cons (.tmp rfl) .nil)) rfl<|Ab (Ah rfl rfl)<|Ab (Ah rfl rfl)<|bk h fun y0 p2 h=>Bi (.tuple #[.agg ((ab y0.1)).toArray,vI y0.2]) (bd 92) rfl (e2 rfl rfl) (fun p q=>ba_c n (q0.hL0 hL q) k0 (q0.kd (Am k1 b1) q) (q0.kd (Am p1 b1) q) p2) rfl<|Ab (Ah rfl rfl)<|Ab (Ah rfl rfl)<|AQ (ab y0.1) q0 .t5 (ai rfl) fun G4 R0 z3=>Af rfl<|Aa<|Al rfl<|Ap hb0 func98 rfl (.cons (.many (cs:=(ab y0.1)) rfl rfl (R0.memA .t5)) (.cons (.tmp rfl) .nil)) rfl ?_
 cases h
 exact R0.gv
 refine Ac<|RG.nl [.bool false,vN,.bool false,vN] g0 fun H4 Q2 U0 A3=>Aa<|Ac<|Ab (AF rfl (U0.memA .hd))<|AQ [.bool false,vN,.bool false,vN] U0 .t2 (ai rfl) fun I4 C0 B3=>Af rfl<|Aa<|Al rfl<|Ap (u:=.tuple #[.agg #[.bool false,vN,.bool false,vN],vI 20]) g1 func93 rfl (.cons (.many (cs:=[.bool false,vN,.bool false,vN]) rfl rfl (C0.memA .t2)) (.cons (.tmp rfl) .nil)) rfl<|Ab (Ah rfl rfl)<|Ab (Ah rfl rfl)<|bk h fun z0 q2 h=>Bi (.tuple #[.agg ((ab z0.1)).toArray,vI z0.2]) (bd 92) rfl (e2 rfl rfl) (fun p q=>ba_c n (C0.hL0 hL q) (⟨(⟨false,([]:List UInt64)⟩:Th),(⟨false,([]:List UInt64)⟩:Th)⟩:Tg) (Aq (Rep.nilSlice _ _) q) (Aq (Rep.nilSlice _ _) q) q2) rfl<|Ab (Ah rfl rfl)<|Ab (Ah rfl rfl)<|AQ (ab z0.1) C0 .t6 (ai rfl) fun J4 V0 C3=>Af rfl<|Aa<|Al rfl<|Ap hb0 func98 rfl (.cons (.many (cs:=(ab z0.1)) rfl rfl (V0.memA .t6)) (.cons (.tmp rfl) .nil)) rfl ?_
 cases h
 exact V0.gv
def co_p (n:Nat) (a0:Ta) (a1:Ta):Option (Except Te Ta):=
  (dK_p n a0 a1).bind fun b0=>(ae_p n b0.1 b0.2).bind fun d0=>exc d0 (fun g0=>some (.ok g0)) (fun c0=>some (.error c0))
theorem co_c (n:Nat) {L w} (hL:hl L w) (a0:Ta) (a1:Ta)  {r:Except Te Ta} (h:co_p n a0 a1 = some r) :
 Cl 52 #[.agg ((ab a0)).toArray,.agg ((ab a1)).toArray] w (aK w (fun (y:Ta) _ u=>u = .agg ((ab y)).toArray) (fun e=>.iface 145 (.agg #[vI e.fE])) r):=by
 unfold co_p at h
 refine BO func52 rfl rfl rfl fun _ cs0 hb0 hp0=>Ac<|RG.bx (Az w) rfl rfl fun E0 u0 k0 z0=>RG.bx k0 rfl rfl fun F0 v0 p0 A0=>RG.nl zL p0 fun G0 x0 b0 B0=>Aa<|Ac<|Ab (AF rfl (b0.memA .t2))<|Ab (AF rfl (b0.memA .t1))<|bk h fun c0 t0 h=>Bi (.tuple #[.agg ((ab c0.1)).toArray,vI c0.2]) (bd 98) rfl (e2 rfl rfl) (fun p q=>dK_c n (b0.hL0 hL q) a0 a1 t0) rfl<|Ab (Ah rfl rfl)<|Ab (Ah rfl rfl)<|xk h (fun y0 d0 h=>?_) (fun g0 d0 h=>?_)
 refine BC (fst:=[]) (cap:=[]) .plain (bd 48) rfl (e2 rfl rfl) (fun p q=>ae_c n (b0.hL0 hL q) c0.1 d0) fun H0 s0=>?_
 obtain ⟨q0,C0⟩:=b0.agr s0
 cases h
 exact AZ hp0 func52 ⟨q0.ag,rfl⟩
 refine Bi (.agg ((ab g0)).toArray) (bd 48) rfl (e2 rfl rfl) (fun p q=>AV (ae_c n (b0.hL0 hL q) c0.1 d0)) rfl<|AQ (ab g0) b0 .hd (ai rfl) fun I0 j0 D0=>Aa<|Al rfl<|Ap hb0 func52 rfl (.cons (.many (cs:=(ab g0)) rfl rfl (j0.memA .hd)) .nil) rfl ?_
 cases h
 exact ⟨j0.ag,fun p q=>aC rfl⟩
def dL_p (n:Nat) (a0:Ta) (a1:Ta):Option (Ta × Int):=
  (aX_p n ([a0,a1]:List Ta)).bind fun d0=>(if d0 = true then (aJ_p n a0).bind fun g0=>(aJ_p n a1).bind fun j0=>(cu_p n g0 j0).bind fun k0=>(ba_p n k0 (0:Int)).bind fun c0=>some (c0.1,c0.2) else (ba_p n (⟨(⟨false,([]:List UInt64)⟩:Th),(⟨false,([]:List UInt64)⟩:Th)⟩:Tg) (20:Int)).bind fun b0=>some (b0.1,b0.2))
theorem dL_c (n:Nat) {L w} (hL:hl L w) (a0:Ta) (a1:Ta)  {r:Ta × Int} (h:dL_p n a0 a1 = some r) :
 Cl 141 #[.agg ((ab a0)).toArray,.agg ((ab a1)).toArray] w (ah w fun _ u=>u = .tuple #[.agg ((ab r.1)).toArray,vI r.2]):=by
 unfold dL_p at h
 refine AG func141 rfl rfl rfl fun _ cs0 hb0=>Ac<|RG.bx (Az w) rfl rfl fun j2 s1 I0 F1=>RG.bx I0 rfl rfl fun k2 u1 J0 G1=>RG.nl zL J0 fun p2 v1 s0 H1=>Af rfl<|Aa<|Ac<|Ab (AF rfl (s0.memA .t2))<|Ab (AF rfl (s0.memA .t1))<|By (fst:=[]) (cap:=[]) (vs:=[.agg ((ab a0)).toArray,.agg ((ab a1)).toArray,.func (.func 171) #[] #[]]) .plain (bd 93) func93 rfl rfl rfl rfl (e3 rfl rfl rfl) rfl fun C1 E0 V1=>Ac<|RG.bx s0 rfl rfl fun q2 x1 K0 I1=>RG.bx K0 rfl rfl fun s2 y1 M0 J1=>RG.nl [.bool false,vN,.bool false,vN] M0 fun u2 z1 t0 K1=>Af rfl<|Aa<|Ai<|Ac<|Ab (AF rfl (t0.memA .t2))<|Ab (AF rfl (t0.memA .t1))<|Aj .plain rfl (AN (α:=Ta) (xs:=([a0,a1]:List Ta)) (vs:=[.agg ((ab a0)).toArray,.agg ((ab a1)).toArray]) (ds' :=(ab a0 ++ ab a1)) rfl t0 dU rfl (e2 rfl rfl) (by kernel_rfl) rfl) fun v2 A1 c0 M1=>?_
 refine bk h fun k1 b1 h=>Bi (.bool k1) (bd 136) rfl (e1 rfl) (fun p q=>aX_c n (c0.hL0 hL q) (Aq (St.lend (α:=Ta) (L:=L) c0 .hd (AE (cs:=(ab a0 ++ ab a1)) (xs:=(([a0,a1]:List Ta):List Ta)) c0 L (Aw (cs:=(ab a0)) (ds:=(ab a1)) (br a0.fN a0.fD) (Aw (cs:=(ab a1)) (ds:=[]) (br a1.fN a1.fD) (AK _ _)))) hL) q) b1) rfl<|Ab (Bp rfl)<|Aa<|BW rfl h (fun H0 h=>?_) (fun H0 h=>?_)
 refine Ar<|Ai<|du 6 fun b0 j0=>Rv 0 b0 rfl j0 (fun _=>Ak rfl)<|Rx 1 244 b0 rfl j0 (AF rfl (c0.memA .t3))<|Rx 3 240 b0 rfl j0 (AF rfl (c0.memA .t2))<|bk h fun p1 c1 h=>Bl 2 15 b0 rfl .plain (bd 110) rfl (e1 rfl) (fun p q=>aJ_c n (c0.hL hL q) a0 c1) rfl fun x2 b2 Q0 ⟨W1,X1,hu_,V0,W0⟩=>?_
 subst hu_
 obtain ⟨y0,P1⟩:=c0.agr Q0
 refine bk h fun q1 d1 h=>Bl 4 31 b0 rfl .plain (bd 110) rfl (e1 rfl) (fun p q=>aJ_c n (y0.hL hL q) a1 d1) rfl fun y2 c2 R0 ⟨Y1,Z1,hu_,X0,Y0⟩=>?_
 subst hu_
 obtain ⟨z0,C0⟩:=y0.agr R0
 refine bk h fun d0 g1 h=>Bl 5 63 b0 rfl .plain (bd 171) rfl (e2 rfl rfl) (fun p q=>cu_c n (z0.hL hL q) p1 (Aq (Am V0 C0) q) (Aq (Am W0 C0) q) q1 (Aq X0 q) (Aq Y0 q) g1) rfl fun z2 d2 U0 ⟨u0,v0,hu_,F0,G0⟩=>?_
 subst hu_
 obtain ⟨P0,Q1⟩:=z0.agr U0
 refine Bz 6 127 b0 rfl rfl .plain (Ay (news:=[.bool d0.fB.fe,u0,.bool d0.ft.fe,v0]) P0 .t1 rfl rfl rfl rfl rfl rfl (o4 rfl (AP F0) rfl (AP G0))) fun A2 g0 D0=>Rv 7 b0 rfl j0 (fun _=>Bh rfl)<|AM (dk b0)<|Al rfl<|Ap (u:=.tuple #[.agg #[.bool d0.fB.fe,u0,.bool d0.ft.fe,v0],vI 0]) E0 func93 rfl (.cons (.many (cs:=[.bool d0.fB.fe,u0,.bool d0.ft.fe,v0]) rfl rfl (g0.memA .t1)) (.cons (.tmp rfl) .nil)) rfl<|Ab (Ah rfl rfl)<|Ab (Ah rfl rfl)<|bk h fun p0 j1 h=>Bi (.tuple #[.agg ((ab p0.1)).toArray,vI p0.2]) (bd 92) rfl (e2 rfl rfl) (fun p q=>ba_c n (g0.hL0 hL q) d0 (g0.kd (Am F0 D0) q) (g0.kd (Am G0 D0) q) j1) rfl<|Ab (Ah rfl rfl)<|Ab (Ah rfl rfl)<|AQ (ab p0.1) g0 .t4 (ai rfl) fun B2 A0 R1=>Af rfl<|Aa<|Al rfl<|Ap hb0 func141 rfl (.cons (.many (cs:=(ab p0.1)) rfl rfl (A0.memA .t4)) (.cons (.tmp rfl) .nil)) rfl ?_
 cases h
 exact A0.gv
 refine Ac<|RG.nl [.bool false,vN,.bool false,vN] c0 fun C2 B1 B0 U1=>Aa<|Ac<|Ab (AF rfl (B0.memA .hd))<|AQ [.bool false,vN,.bool false,vN] B0 .t2 (ai rfl) fun D2 q0 D1=>Af rfl<|Aa<|Al rfl<|Ap (u:=.tuple #[.agg #[.bool false,vN,.bool false,vN],vI 20]) E0 func93 rfl (.cons (.many (cs:=[.bool false,vN,.bool false,vN]) rfl rfl (q0.memA .t2)) (.cons (.tmp rfl) .nil)) rfl<|Ab (Ah rfl rfl)<|Ab (Ah rfl rfl)<|bk h fun k0 Z0 h=>Bi (.tuple #[.agg ((ab k0.1)).toArray,vI k0.2]) (bd 92) rfl (e2 rfl rfl) (fun p q=>ba_c n (q0.hL0 hL q) (⟨(⟨false,([]:List UInt64)⟩:Th),(⟨false,([]:List UInt64)⟩:Th)⟩:Tg) (Aq (Rep.nilSlice _ _) q) (Aq (Rep.nilSlice _ _) q) Z0) rfl<|Ab (Ah rfl rfl)<|Ab (Ah rfl rfl)<|AQ (ab k0.1) q0 .t5 (ai rfl) fun g2 x0 E1=>Af rfl<|Aa<|Al rfl<|Ap hb0 func141 rfl (.cons (.many (cs:=(ab k0.1)) rfl rfl (x0.memA .t5)) (.cons (.tmp rfl) .nil)) rfl ?_
 cases h
 exact x0.gv
def bR_p (n:Nat) (a0:Ta) (a1:Ta):Option (Except Te Ta):=
  (dL_p n a0 a1).bind fun b0=>(ae_p n b0.1 b0.2).bind fun d0=>exc d0 (fun g0=>some (.ok g0)) (fun c0=>some (.error c0))
theorem bR_c (n:Nat) {L w} (hL:hl L w) (a0:Ta) (a1:Ta)  {r:Except Te Ta} (h:bR_p n a0 a1 = some r) :
 Cl 99 #[.agg ((ab a0)).toArray,.agg ((ab a1)).toArray] w (aK w (fun (y:Ta) _ u=>u = .agg ((ab y)).toArray) (fun e=>.iface 145 (.agg #[vI e.fE])) r):=by
 unfold bR_p at h
 refine BO func99 rfl rfl rfl fun _ cs0 hb0 hp0=>Ac<|RG.bx (Az w) rfl rfl fun E0 u0 k0 z0=>RG.bx k0 rfl rfl fun F0 v0 p0 A0=>RG.nl zL p0 fun G0 x0 b0 B0=>Aa<|Ac<|Ab (AF rfl (b0.memA .t2))<|Ab (AF rfl (b0.memA .t1))<|bk h fun c0 t0 h=>Bi (.tuple #[.agg ((ab c0.1)).toArray,vI c0.2]) (bd 141) rfl (e2 rfl rfl) (fun p q=>dL_c n (b0.hL0 hL q) a0 a1 t0) rfl<|Ab (Ah rfl rfl)<|Ab (Ah rfl rfl)<|xk h (fun y0 d0 h=>?_) (fun g0 d0 h=>?_)
 refine BC (fst:=[]) (cap:=[]) .plain (bd 48) rfl (e2 rfl rfl) (fun p q=>ae_c n (b0.hL0 hL q) c0.1 d0) fun H0 s0=>?_
 obtain ⟨q0,C0⟩:=b0.agr s0
 cases h
 exact AZ hp0 func99 ⟨q0.ag,rfl⟩
 refine Bi (.agg ((ab g0)).toArray) (bd 48) rfl (e2 rfl rfl) (fun p q=>AV (ae_c n (b0.hL0 hL q) c0.1 d0)) rfl<|AQ (ab g0) b0 .hd (ai rfl) fun I0 j0 D0=>Aa<|Al rfl<|Ap hb0 func99 rfl (.cons (.many (cs:=(ab g0)) rfl rfl (j0.memA .hd)) .nil) rfl ?_
 cases h
 exact ⟨j0.ag,fun p q=>aC rfl⟩
def cw_l1 (n:Nat) (a0:List Ta) (D0:Nat × U16 -> Option ((Except Te Ta) ⊕ (U16))):Nat × U16 -> Option ((Except Te Ta) ⊕ (U16))
  | (c0,d0,g0,j0,k0,p0,q0,s0,t0,u0,v0,x0,y0,z0,A0,B0,C0)=>(if c0 < a0.length then (a0[c0]?).bind fun F0=>(bR_p n (⟨(d0,g0,j0,k0,p0,q0,s0,t0),(u0,v0,x0,y0,z0,A0,B0,C0)⟩:Ta) F0).bind fun G0=>exc G0 (fun b0=>D0 (c0 + 1,b0.fN.1,b0.fN.2.1,b0.fN.2.2.1,b0.fN.2.2.2.1,b0.fN.2.2.2.2.1,b0.fN.2.2.2.2.2.1,b0.fN.2.2.2.2.2.2.1,b0.fN.2.2.2.2.2.2.2,b0.fD.1,b0.fD.2.1,b0.fD.2.2.1,b0.fD.2.2.2.1,b0.fD.2.2.2.2.1,b0.fD.2.2.2.2.2.1,b0.fD.2.2.2.2.2.2.1,b0.fD.2.2.2.2.2.2.2)) (fun E0=>some (.inl (.error E0))) else some (.inr (d0,g0,j0,k0,p0,q0,s0,t0,u0,v0,x0,y0,z0,A0,B0,C0)))
def cw_p (n:Nat) (a0:List Ta):Option (Except Te Ta):=
  (al_p n (0:Int) (1:Int)).bind fun D0=>exc D0 (fun b0=>thn (am (cw_l1 n a0) n (0,b0.fN.1,b0.fN.2.1,b0.fN.2.2.1,b0.fN.2.2.2.1,b0.fN.2.2.2.2.1,b0.fN.2.2.2.2.2.1,b0.fN.2.2.2.2.2.2.1,b0.fN.2.2.2.2.2.2.2,b0.fD.1,b0.fD.2.1,b0.fD.2.2.1,b0.fD.2.2.2.1,b0.fD.2.2.2.2.1,b0.fD.2.2.2.2.2.1,b0.fD.2.2.2.2.2.2.1,b0.fD.2.2.2.2.2.2.2)) (fun (d0,g0,j0,k0,p0,q0,s0,t0,u0,v0,x0,y0,z0,A0,B0,C0)=>some (.ok (⟨(d0,g0,j0,k0,p0,q0,s0,t0),(u0,v0,x0,y0,z0,A0,B0,C0)⟩:Ta)))) (fun c0=>some (.error c0))
theorem cw_c (n:Nat) {L w} (hL:hl L w) {a0:List Ta} {v0_0:Value} (h0_0:Rep.R w L [v0_0] a0)  {r:Except Te Ta} (h:cw_p n a0 = some r) :
 Cl 53 #[v0_0] w (aK w (fun (y:Ta) _ u=>u = .agg ((ab y)).toArray) (fun e=>.iface 145 (.agg #[vI e.fE])) r):=by
 unfold cw_p at h
 refine BO func53 rfl rfl rfl fun _ cs0 hb0 hp0=>Ac<|RG.nl zL (Az w) fun X1 K0 F0 K1=>Aa<|Ac<|xk h (fun J1 H0 h=>?_) (fun c0 H0 h=>?_)
 refine BC (fst:=[]) (cap:=[]) .plain (bd 51) rfl (e2 rfl rfl) (fun p q=>al_c n (F0.hL0 hL q)  H0) fun g2 v1=>?_
 obtain ⟨c1,Q1⟩:=F0.agr v1
 cases h
 exact AZ hp0 func53 ⟨c1.ag,rfl⟩
 refine Bi (.agg ((ab c0)).toArray) (bd 51) rfl (e2 rfl rfl) (fun p q=>AV (al_c n (F0.hL0 hL q)  H0)) rfl<|RG.nl zL F0 fun j2 M0 g1 R1=>AQ (ab c0) g1 .hd (ai rfl) fun k2 Q0 U1=>Aa<|Ai<|Ac<|Ae rfl ?_
 have U0:=AS h0_0 Q0
 have V1:a0.length <= 281474976710656:=Ba U0
 refine Ab (Bg (xs:=a0) underlying53 rfl U0)<|Ae rfl<|Aa<|AA<|tn h fun W1 A1 R0=>MX.lo (α:=Nat × U16) (fun ⟨d0,g0,j0,k0,p0,q0,s0,t0,u0,v0,x0,y0,z0,A0,B0,C0,D0⟩=>[(2,vP K0),(3,vP M0),(7,v0_0),(8,vI ((a0.length:Nat):Int)),(9,vI ((d0:Nat):Int))]) (fun ⟨d0,g0,j0,k0,p0,q0,s0,t0,u0,v0,x0,y0,z0,A0,B0,C0,D0⟩=>[.cells M0 [vU g0,vU j0,vU k0,vU p0,vU q0,vU s0,vU t0,vU u0,vU v0,vU x0,vU y0,vU z0,vU A0,vU B0,vU C0,vU D0] 38,.cells K0 zL 38]) (fun ⟨d0,g0,j0,k0,p0,q0,s0,t0,u0,v0,x0,y0,z0,A0,B0,C0,D0⟩=>(d0,g0,j0,k0,p0,q0,s0,t0,u0,v0,x0,y0,z0,A0,B0,C0,D0)) (0,c0.fN.1,c0.fN.2.1,c0.fN.2.2.1,c0.fN.2.2.2.1,c0.fN.2.2.2.2.1,c0.fN.2.2.2.2.2.1,c0.fN.2.2.2.2.2.2.1,c0.fN.2.2.2.2.2.2.2,c0.fD.1,c0.fD.2.1,c0.fD.2.2.1,c0.fD.2.2.2.1,c0.fD.2.2.2.2.1,c0.fD.2.2.2.2.2.1,c0.fD.2.2.2.2.2.2.1,c0.fD.2.2.2.2.2.2.2) A1 Q0 ?_
 rintro E1 ⟨d0,g0,j0,k0,p0,q0,s0,t0,u0,v0,x0,y0,z0,A0,B0,C0,D0⟩ p2 W0 G0 j1 h
 unfold cw_l1 at h
 try dsimp only at h
 refine Ac<|Ab (Bq (i:=d0) (j:=a0.length) rfl rfl)<|Aa<|Ai<|AT rfl h (fun V0 h=>?_) (fun V0 h=>?_)
 refine Ar<|Ai<|AA<|Ac<|bk h fun J0 C1 h=>?_
 obtain ⟨D1,G1,x1,y1,H1,B1,z1⟩:=Bk (AS h0_0 G0) C1
 obtain rfl:=gO B1
 refine Ab (Bj 16 d0 rfl x1 rfl rfl y1)<|Ab (AF rfl z1)<|RG.nl zL G0 fun Y1 F1 X0 k1=>AQ (ab J0) X0 .hd (ai rfl) fun Z1 E0 p1=>Aa<|Ao<|Ab (AF rfl (E0.memA .t1))<|Ab (AF rfl (E0.memA .hd))<|xk h (fun I1 I0 h=>?_) (fun b0 I0 h=>?_)
 have h:=au h R0
 refine BC (fst:=[]) (cap:=[]) .plain (bd 99) rfl (e2 rfl rfl) (fun p q=>bR_c n (E0.hL0 hL q) (⟨(g0,j0,k0,p0,q0,s0,t0,u0),(v0,x0,y0,z0,A0,B0,C0,D0)⟩:Ta) J0 I0) fun b2 u1=>?_
 obtain ⟨Y0,M1⟩:=E0.agr u1
 cases h
 exact AZ hp0 func53 ⟨Y0.ag,rfl⟩
 refine Bi (.agg ((ab b0)).toArray) (bd 99) rfl (e2 rfl rfl) (fun p q=>AV (bR_c n (E0.hL0 hL q) (⟨(g0,j0,k0,p0,q0,s0,t0,u0),(v0,x0,y0,z0,A0,B0,C0,D0)⟩:Ta) J0 I0)) rfl<|AQ (ab b0) E0 .t1 (ai rfl) fun c2 Z0 q1=>Aa<|AC<|Ao<|Ab (Bn (i:=d0) (j:=1) rfl rfl (by omega))<|Ae rfl<|Aa ?_
 obtain ⟨b1,s1⟩:=AI Z0 .d1
 exact W0 (d0 + 1,b0.fN.1,b0.fN.2.1,b0.fN.2.2.1,b0.fN.2.2.2.1,b0.fN.2.2.2.2.1,b0.fN.2.2.2.2.2.1,b0.fN.2.2.2.2.2.2.1,b0.fN.2.2.2.2.2.2.2,b0.fD.1,b0.fD.2.1,b0.fD.2.2.1,b0.fD.2.2.2.1,b0.fD.2.2.2.2.1,b0.fD.2.2.2.2.2.1,b0.fD.2.2.2.2.2.2.1,b0.fD.2.2.2.2.2.2.2) b1 (Tt j1 (Tt k1 (Tt p1 (Tt q1 s1)))) h
 refine Be rfl ?_
 have h:=aF h R0
 try dsimp only at h
 refine Ac<|Ab (AF rfl (G0.memA .hd))<|AQ [vU g0,vU j0,vU k0,vU p0,vU q0,vU s0,vU t0,vU u0,vU v0,vU x0,vU y0,vU z0,vU A0,vU B0,vU C0,vU D0] G0 .t1 (ai rfl) fun d2 P0 P1=>Aa<|Al rfl<|Ap hb0 func53 rfl (.cons (.many (cs:=[vU g0,vU j0,vU k0,vU p0,vU q0,vU s0,vU t0,vU u0,vU v0,vU x0,vU y0,vU z0,vU A0,vU B0,vU C0,vU D0]) rfl rfl (P0.memA .t1)) .nil) rfl ?_
 cases h
 exact ⟨P0.ag,fun p q=>aC rfl⟩
def aG_l1 (n:Nat) (g0:List Tj) (k0:Int) (D0:Int) (p0:Nat × (List Ta) -> Option (List Ta)):Nat × (List Ta) -> Option (List Ta)
  | (b0,d0)=>(if b0 < g0.length then (g0[b0]?).bind fun c0=>(al_p n c0.fL k0).bind fun u0=>exc u0 (fun v0=>(chk (c0.fall - c0.fL)).bind fun q0=>(chk (D0 - k0)).bind fun s0=>(al_p n q0 s0).bind fun x0=>exc x0 (fun y0=>(cD_p n v0 y0).bind fun z0=>exc z0 (fun A0=>(dP_p n A0).bind fun j0=>(ae_p n j0.1 j0.2).bind fun B0=>exc B0 (fun C0=>(app d0 ([C0]:List Ta)).bind fun t0=>p0 (b0 + 1,t0)) (fun _e334=>none)) (fun _e329=>none)) (fun _e325=>none)) (fun _e319=>none) else some d0)
def aG_l2 (_n:Nat) (d0:List Tj) (k0:Nat × Int × Int -> Option (Int × Int)):Nat × Int × Int -> Option (Int × Int)
  | (b0,g0,j0)=>(if b0 < d0.length then (d0[b0]?).bind fun c0=>(chk (g0 + c0.fL)).bind fun p0=>(chk (j0 + c0.fall)).bind fun q0=>k0 (b0 + 1,p0,q0) else some (g0,j0))
def aG_p (n:Nat) (a0:Td) (a1:List Int) (a2:Int) (a3:Int):Option (Except Te Ta):=
  (ap_p n a0 a1 a2 a3).bind fun s0=>exc s0 (fun c0=>Option.bind (am (aG_l2 n c0) n (0,0,0)) (fun (b0,d0)=>(if b0 = 0 then some (.error (⟨(7:Int)⟩:Te)) else (if b0 = d0 then some (.error (⟨(7:Int)⟩:Te)) else Option.bind (am (aG_l1 n c0 b0 d0) n (0,([]:List Ta))) (fun q0=>(cw_p n q0).bind fun t0=>exc t0 (fun u0=>(al_p n (2:Int) (1:Int)).bind fun v0=>exc v0 (fun x0=>(co_p n u0 x0).bind fun y0=>exc y0 (fun z0=>some (.ok z0)) (fun p0=>some (.error p0))) (fun k0=>some (.error k0))) (fun j0=>some (.error j0))))))) (fun g0=>some (.error g0))
theorem aG_c (n:Nat) {L w} (hL:hl L w) (a0:Td) {v0_3:Value} (h0_3:Rep.R w L [v0_3] a0.fu) {p0:Nat} (m0:∀ j9 v9,([vI a0.fj,vI a0.fh,vI a0.fl,v0_3]:List Value)[j9]? = some v9 -> w.cell? ((⟨p0,0,none⟩:Addr).add j9) = some v9) {a1:List Int} {v1_0:Value} (h1_0:Rep.R w L [v1_0] a1) {p1:Nat} (m1:∀ j9 v9,([v1_0]:List Value)[j9]? = some v9 -> w.cell? ((⟨p1,0,none⟩:Addr).add j9) = some v9) {a2:Int} {p2:Nat} (m2:∀ j9 v9,([vI a2]:List Value)[j9]? = some v9 -> w.cell? ((⟨p2,0,none⟩:Addr).add j9) = some v9) {a3:Int} {p3:Nat} (m3:∀ j9 v9,([vI a3]:List Value)[j9]? = some v9 -> w.cell? ((⟨p3,0,none⟩:Addr).add j9) = some v9)  {r:Except Te Ta} (h:aG_p n a0 a1 a2 a3 = some r) :
 Cl 46 #[.pointer (some ⟨p0,0,none⟩),.pointer (some ⟨p1,0,none⟩),.pointer (some ⟨p2,0,none⟩),.pointer (some ⟨p3,0,none⟩)] w (aK w (fun (y:Ta) _ u=>u = .agg ((ab y)).toArray) (fun e=>.iface 145 (.agg #[vI e.fE])) r):=by
 unfold aG_p at h
 refine BO func46 rfl rfl rfl fun _ cs0 hb0 hp0=>Ac<|RG.nl zL (Az w) fun A4 B0 k0 Z3=>Aa<|Ac<|Ab (AF rfl (fun j9 v9 h9=>k0.ag.cell0 (m0 j9 v9 h9)))<|AR rfl ((fun j9 v9 h9=>k0.ag.cell0 (m1 j9 v9 h9)) 0 _ rfl)<|AR rfl ((fun j9 v9 h9=>k0.ag.cell0 (m2 j9 v9 h9)) 0 _ rfl)<|AR rfl ((fun j9 v9 h9=>k0.ag.cell0 (m3 j9 v9 h9)) 0 _ rfl)<|xk h (fun P3 Q0 h=>?_) (fun A0 Q0 h=>?_)
 refine BC (fst:=[]) (cap:=[]) .plain (bd 41) rfl (e4 rfl rfl rfl rfl) (fun p q=>ap_c n (k0.hL hL q) a0 (k0.km h0_3 q) (k0.km h1_0 q) Q0) fun F4 z2=>?_
 obtain ⟨R1,b4⟩:=k0.agr z2
 cases h
 exact AZ hp0 func46 ⟨R1.ag,rfl⟩
 refine jE (bd 41) rfl (e4 rfl rfl rfl rfl) (fun p q=>AV (ap_c n (k0.hL hL q) a0 (k0.km h0_3 q) (k0.km h1_0 q) Q0)) rfl fun G4 X0 A2 ⟨z4,hu_,G0⟩=>?_
 subst hu_
 obtain ⟨U1,c4⟩:=k0.agr A2
 refine Af rfl<|Aa<|Ac<|RG.nl [vI 0,vI 0] U1 fun I4 C0 W1 F0=>Aa<|Ai<|Ac<|Ae rfl ?_
 have s1:=Am G0 F0
 have t4:A0.length <= 281474976710656:=Ba s1
 refine Ab (Bg (xs:=A0) underlying96 rfl s1)<|Ae rfl<|Aa<|AA ?_
 obtain ⟨u4,R2,I2⟩:=aq h
 refine MX.lo (α:=Nat × Int × Int) (fun ⟨u0,j0,d0⟩=>[(4,vP B0),(5,X0),(6,vP C0),(17,X0),(18,vI ((A0.length:Nat):Int)),(19,vI ((u0:Nat):Int))]) (fun ⟨u0,j0,d0⟩=>[.cells C0 [vI j0,vI d0] 99,.cells B0 zL 38]) (fun ⟨u0,j0,d0⟩=>(u0,j0,d0)) (0,0,0) R2 W1 ?_
 rintro z3 ⟨u0,j0,d0⟩ V4 J1 v0 E0 h
 unfold aG_l2 at h
 try dsimp only at h
 refine Ac<|Ab (Bq (i:=u0) (j:=A0.length) rfl rfl)<|Aa<|Ai<|AT rfl h (fun E1 h=>?_) (fun E1 h=>?_)
 refine Ar<|Ai<|AA<|Ac<|bk h fun H0 k3 h=>?_
 obtain ⟨x3,E3,G2,K2,G3,Z2,P2⟩:=Bk (Am G0 (Tt F0 E0)) k3
 obtain rfl:=fX Z2
 refine Ab (Bj 2 u0 rfl G2 rfl rfl K2)<|Ab (AF rfl P2)<|RG.nl [vI 0,vI 0] v0 fun B4 B3 M1 g2=>AQ [vI H0.fL,vI H0.fall] M1 .hd (ai rfl) fun C4 J0 j2=>Aa<|Ac<|AX 0 rfl<|AR rfl ((J0.memA .t1) 0 _ rfl)<|AX 0 rfl<|AR rfl ((J0.memA .hd) 0 _ rfl)<|bk h fun D0 c3 h=>Ab (BE (i:=j0) (j:=H0.fL) rfl rfl c3)<|AX 0 rfl<|BU .plain (BD (j:=0) (old:=[vI j0,vI d0]) (news:=[vI D0]) (new' :=[vI D0,vI d0]) J0 .t1 rfl rfl rfl rfl rfl rfl (o1 rfl) rfl) fun D4 K0 k2=>Aa<|Ao<|AX 1 rfl<|AR rfl ((K0.memA .t1) 1 _ rfl)<|AX 1 rfl<|AR rfl ((K0.memA .hd) 1 _ rfl)<|bk h fun W0 d3 h=>Ab (BE (i:=d0) (j:=H0.fall) rfl rfl d3)<|AX 1 rfl<|BU .plain (BD (j:=1) (old:=[vI D0,vI d0]) (news:=[vI W0]) (new' :=[vI D0,vI W0]) K0 .t1 rfl rfl rfl rfl rfl rfl (o1 rfl) rfl) fun E4 P1 q2=>Aa<|AC<|Ao<|Ab (Bn (i:=u0) (j:=1) rfl rfl (by omega))<|Ae rfl<|Aa ?_
 obtain ⟨Q1,s2⟩:=AI P1 .d1
 exact J1 (u0 + 1,D0,W0) Q1 (Tt E0 (Tt g2 (Tt j2 (Tt k2 (Tt q2 s2))))) h
 refine Be rfl ?_
 have h:=I2 _ h
 try dsimp only at h
 refine Ac<|AX 0 rfl<|AR rfl ((v0.memA .hd) 0 _ rfl)<|Ab (FV.eql (i:=j0) (j:=0) rfl rfl)<|Ae rfl<|BA (s:=39) rfl h (fun F1 h=>?_) (fun F1 h=>?_)
 refine Au<|Au<|Au<|Au<|Au<|Bm rfl rfl<|By (fst:=[]) (cap:=[]) (vs:=[.bool true,vI 7]) .plain (bd 47) func47 rfl rfl rfl rfl (e2 rfl rfl) rfl fun H3 p4 V2=>Ac<|Ae rfl<|Aa<|Bb rfl<|Ao<|Ae rfl<|By (fst:=[]) (cap:=[]) (vs:=[vI 7]) .plain (bd 61) func61 rfl rfl rfl rfl (e1 rfl) rfl fun I3 q4 W2=>Ac<|Ae rfl<|Ab (FV.neqN (i:=7) (j:=0) rfl rfl)<|Aa<|Bb rfl<|Ao<|Ae rfl<|Ab (AO (vs:=[vI 7]) (u:=.agg #[vI 7]) (e1 rfl) (fun p=>by kernel_rfl))<|Ab (BF rfl rfl)<|RG.panic .plain rfl<|AZ W2 func61<|AZ V2 func47 ?_
 cases h
 exact AZ hp0 func46 ⟨v0.ag,rfl⟩
 refine RG.fg 0 rfl<|AH (AL rfl ((v0.memA .hd) 0 _ rfl))<|RG.fg 1 rfl<|AH (AL rfl ((v0.memA .hd) 1 _ rfl))<|AH (FV.eql (i:=j0) (j:=d0) rfl rfl)<|Bv rfl rfl<|By (fst:=[]) (cap:=[]) (vs:=[.bool (decide (j0 = d0)),vI 7]) .plain (bd 47) func47 rfl rfl rfl rfl (e2 rfl rfl) rfl fun J3 E2 X2=>Ac<|Ae rfl<|Aa<|AT rfl h (fun G1 h=>?_) (fun G1 h=>?_)
 refine Ao<|Ae rfl<|By (fst:=[]) (cap:=[]) (vs:=[vI 7]) .plain (bd 61) func61 rfl rfl rfl rfl (e1 rfl) rfl fun K3 s4 Y2=>Ac<|Ae rfl<|Ab (FV.neqN (i:=7) (j:=0) rfl rfl)<|Aa<|Bb rfl<|Ao<|Ae rfl<|Ab (AO (vs:=[vI 7]) (u:=.agg #[vI 7]) (e1 rfl) (fun p=>by kernel_rfl))<|Ab (BF rfl rfl)<|RG.panic .plain rfl<|AZ Y2 func61<|AZ X2 func47 ?_
 cases h
 exact AZ hp0 func46 ⟨v0.ag,rfl⟩
 refine Ar<|MX.fin rfl<|Ap (u:=.tuple #[]) E2 func47 rfl .nil rfl<|Aa<|Ac<|Af rfl<|Aa<|Ai<|Ac<|Ae rfl<|Ab (Bg (xs:=A0) underlying96 rfl (Am G0 (Tt F0 E0)))<|Ae rfl<|Aa<|AA ?_
 have g1:=v0.nilRow 38 (Rep.size Ta)
 obtain ⟨v4,U2,J2⟩:=aq h
 refine MX.lf (α:=Nat × (List Ta) × Value × (List Value)) (fun ⟨s0,x0,z0,y0⟩=>[(4,vP B0),(6,vP C0),(9,z0),(47,X0),(48,vI ((A0.length:Nat):Int)),(49,vI ((s0:Nat):Int))]) (fun ⟨s0,x0,z0,y0⟩=>[rr w 38 Ta z0 x0.length y0,.cells C0 [vI j0,vI d0] 99,.cells B0 zL 38]) (fun ⟨s0,x0,z0,y0⟩ A1=>Cells A1 (bl [rr w 38 Ta z0 x0.length y0,.cells C0 [vI j0,vI d0] 99,.cells B0 zL 38] ++ L) y0 x0) (fun ⟨s0,x0,z0,y0⟩=>(s0,x0)) (0,([]:List Ta),vN,[]) U2 g1 (AE (cs:=[]) (xs:=([]:List Ta)) g1 L (AK _ _)) ?_
 rintro A3 ⟨s0,x0,z0,y0⟩ A1 K1 g0 k1 P0 h
 unfold aG_l1 at h
 try dsimp only at h
 refine Ac<|Ab (Bq (i:=s0) (j:=A0.length) rfl rfl)<|Aa<|Ai<|AT rfl h (fun H1 h=>?_) (fun H1 h=>?_)
 refine Ar<|Ai<|AA<|Ac<|bk h fun I0 q3 h=>?_
 obtain ⟨y3,F3,H2,M2,M3,b3,Q2⟩:=Bk (Am G0 (Tt F0 (Tt E0 (Tt (St.nilRowT v0 38 (Rep.size Ta)) k1)))) q3
 obtain rfl:=fX b3
 refine Ab (Bj 2 s0 rfl H2 rfl rfl M2)<|Ab (AF rfl Q2)<|RG.nl [vI 0,vI 0] g0 fun H4 C3 V1 u2=>AQ [vI I0.fL,vI I0.fall] V1 .hd (ai rfl) fun J4 q0 v2=>Aa<|du 23 fun b0 c0=>Rv 0 b0 rfl c0 (fun _=>Ak rfl)<|Rv 1 b0 rfl c0 (fun _=>AU 0 rfl)<|Rx 2 33488928 b0 rfl c0 (AL rfl ((q0.memA .hd) 0 _ rfl))<|Rv 3 b0 rfl c0 (fun _=>AU 0 rfl)<|Rx 4 33488928 b0 rfl c0 (AL rfl ((q0.memA .t2) 0 _ rfl))<|xk h (fun Q3 v1 h=>?_) (fun B1 v1 h=>?_)
 cases h
 refine BG 5 63 33488896 (.agg ((ab B1)).toArray) b0 rfl c0 (bd 51) rfl (e2 rfl rfl) (fun p q=>AV (al_c n (q0.hL0 hL q)  v1)) rfl<|Rv 6 b0 rfl c0 (fun _=>AU 1 rfl)<|Rx 7 33489920 b0 rfl c0 (AL rfl ((q0.memA .hd) 1 _ rfl))<|Rv 8 b0 rfl c0 (fun _=>AU 0 rfl)<|Rx 9 33489920 b0 rfl c0 (AL rfl ((q0.memA .hd) 0 _ rfl))<|bk h fun x4 g3 h=>Rv 10 b0 rfl c0 (fun _=>FV.subc (i:=I0.fall) (j:=I0.fL) rfl rfl g3)<|Rv 11 b0 rfl c0 (fun _=>AU 1 rfl)<|Rx 12 33521664 b0 rfl c0 (AL rfl ((q0.memA .t2) 1 _ rfl))<|Rv 13 b0 rfl c0 (fun _=>AU 0 rfl)<|Rx 14 33521664 b0 rfl c0 (AL rfl ((q0.memA .t2) 0 _ rfl))<|bk h fun y4 j3 h=>Rv 15 b0 rfl c0 (fun _=>FV.subc (i:=d0) (j:=j0) rfl rfl j3)<|xk h (fun R3 x1 h=>?_) (fun C1 x1 h=>?_)
 cases h
 refine BG 16 131071 33423360 (.agg ((ab C1)).toArray) b0 rfl c0 (bd 51) rfl (e2 rfl rfl) (fun p q=>AV (al_c n (q0.hL0 hL q)  x1)) rfl<|xk h (fun U3 y1 h=>?_) (fun D1 y1 h=>?_)
 cases h
 refine BG 17 262143 33292288 (.agg ((ab D1)).toArray) b0 rfl c0 (bd 50) rfl (e2 rfl rfl) (fun p q=>AV (cD_c n (q0.hL0 hL q) B1 C1 y1)) rfl<|bk h fun Y0 t3 h=>BG 18 524287 33030144 (.tuple #[.agg ((ab Y0.1)).toArray,vI Y0.2]) b0 rfl c0 (bd 49) rfl (e1 rfl) (fun p q=>dP_c n (q0.hL0 hL q) D1 t3) rfl<|Rv 19 b0 rfl c0 (fun _=>Ah rfl rfl)<|Rv 20 b0 rfl c0 (fun _=>Ah rfl rfl)<|xk h (fun V3 z1 h=>?_) (fun t0 z1 h=>?_)
 cases h
 refine BG 21 4194303 29360128 (.agg ((ab t0)).toArray) b0 rfl c0 (bd 48) rfl (e2 rfl rfl) (fun p q=>AV (ae_c n (q0.hL0 hL q) Y0.1 z1)) rfl<|BV 22 8388607 b0 rfl .plain rfl (AN (α:=Ta) (xs:=([t0]:List Ta)) (vs:=[.agg ((ab t0)).toArray]) (ds' :=(ab t0)) rfl q0 dU rfl (e1 rfl) (by kernel_rfl) rfl) fun K4 D3 M0 x2=>bk h fun v3 s3 h=>?_
 have u1:=Tt u2 (Tt v2 x2)
 refine BT (i:=23) (rk b0) (BL (m' :=16777215) (sk b0) rfl rfl .plain rfl (Bo (α:=Ta) (ys:=([t0]:List Ta)) s3 M0 (fun _ _=>.t2) dU rfl rfl (AD P0 u1) (Src.row (α:=Ta) M0 .hd (AE (cs:=(ab t0)) (xs:=(([t0]:List Ta):List Ta)) M0 L (Aw (cs:=(ab t0)) (ds:=[]) (br t0.fN t0.fD) (AK _ _))))) (fun u3 M4 ⟨I1,X1,y2,F2⟩=>?_))
 refine Rv 24 b0 rfl c0 (fun _=>Bh rfl)<|AM (dk b0)<|AC<|Ao<|Ab (Bn (i:=s0) (j:=1) rfl rfl (by omega))<|Ae rfl<|Aa ?_
 obtain ⟨Y1,q1⟩:=AI X1 .d2
 exact K1 (s0 + 1,v3,u3,I1) Y1 (Tt k1 (Tt u1 (Tt y2 q1))) (AD F2 q1) h
 refine Be rfl ?_
 have h:=J2 _ h
 try dsimp only at h
 refine Ac<|Ae rfl<|xk h (fun W3 R0 h=>?_) (fun Z0 R0 h=>?_)
 refine BC (fst:=[]) (cap:=[]) .plain (bd 53) rfl (e1 rfl) (fun p q=>cw_c n (g0.hL0 hL q) (Aq (St.lend (α:=Ta) (L:=L) g0 .hd P0 hL) q) R0) fun P4 B2=>?_
 obtain ⟨Z1,d4⟩:=g0.agr B2
 cases h
 exact AZ hp0 func46 ⟨Z1.ag,rfl⟩
 refine Bi (.agg ((ab Z0)).toArray) (bd 53) rfl (e1 rfl) (fun p q=>AV (cw_c n (g0.hL0 hL q) (Aq (St.lend (α:=Ta) (L:=L) g0 .hd P0 hL) q) R0)) rfl<|xk h (fun X3 U0 h=>?_) (fun b1 U0 h=>?_)
 refine BC (fst:=[]) (cap:=[]) .plain (bd 51) rfl (e2 rfl rfl) (fun p q=>al_c n (g0.hL0 hL q)  U0) fun Q4 C2=>?_
 obtain ⟨b2,g4⟩:=g0.agr C2
 cases h
 exact AZ hp0 func46 ⟨b2.ag,rfl⟩
 refine Bi (.agg ((ab b1)).toArray) (bd 51) rfl (e2 rfl rfl) (fun p q=>AV (al_c n (g0.hL0 hL q)  U0)) rfl<|xk h (fun Y3 V0 h=>?_) (fun c1 V0 h=>?_)
 refine BC (fst:=[]) (cap:=[]) .plain (bd 52) rfl (e2 rfl rfl) (fun p q=>co_c n (g0.hL0 hL q) Z0 b1 V0) fun R4 D2=>?_
 obtain ⟨c2,j4⟩:=g0.agr D2
 cases h
 exact AZ hp0 func46 ⟨c2.ag,rfl⟩
 refine Bi (.agg ((ab c1)).toArray) (bd 52) rfl (e2 rfl rfl) (fun p q=>AV (co_c n (g0.hL0 hL q) Z0 b1 V0)) rfl<|AQ (ab c1) g0 .t2 (ai rfl) fun U4 j1 k4=>Aa<|Al rfl<|Ap hb0 func46 rfl (.cons (.many (cs:=(ab c1)) rfl rfl (j1.memA .t2)) .nil) rfl ?_
 cases h
 exact ⟨j1.ag,fun p q=>aC rfl⟩
def ce_p (n:Nat) (a0:Td) (a1:List Int) (a2:Int) (a3:Int):Option (Ta × Int):=
  (aG_p n a0 a1 a2 a3).bind fun c0=>exc c0 (fun d0=>some (d0,(0:Int))) (fun b0=>some ((⟨(0,0,0,0,0,0,0,0),(0,0,0,0,0,0,0,0)⟩:Ta),b0.fE))
theorem ce_c (n:Nat) {L w} (hL:hl L w) (a0:Td) {v0_3:Value} (h0_3:Rep.R w L [v0_3] a0.fu) {a1:List Int} {v1_0:Value} (h1_0:Rep.R w L [v1_0] a1) {a2:Int} {a3:Int}  {r:Ta × Int} (h:ce_p n a0 a1 a2 a3 = some r) :
 Cl 14 #[.agg #[vI a0.fj,vI a0.fh,vI a0.fl,v0_3],v1_0,vI a2,vI a3] w (ah w fun _ u=>u = .tuple #[.agg ((ab r.1)).toArray,vI r.2]):=by
 unfold ce_p at h
 refine AG func14 rfl rfl rfl fun _ cs0 hb0=>Ac<|RG.bx (Az w) rfl rfl fun X1 j0 E0 F1=>RG.bx E0 rfl (Rep.c1 (AS h1_0 E0)) fun j2 p0 R0 H1=>RG.bx R0 rfl rfl fun k2 q0 U0 I1=>RG.bx U0 rfl rfl fun p2 s0 V0 J1=>RG.nl zL V0 fun w32 J0 W0 K1=>Af rfl<|Aa<|Ac<|Ab (BP (vs:=[]) (us:=[vP j0,vP p0,vP q0,vP s0]) aj (e4 rfl rfl rfl rfl))<|By (fst:=[]) (cap:=[]) (vs:=[.func (.func 46) #[] #[vP j0,vP p0,vP q0,vP s0]]) .plain (bd 45) func45 rfl rfl rfl rfl (e1 rfl) rfl fun z1 H0 W1=>Ac<|RG.nl zL W0 fun q2 t0 X0 M1=>RG.nl [vI 0] X0 fun s2 d0 b0 P1=>Aa<|Ac<|Ab (BP (vs:=[]) (us:=[vP t0,vP d0]) aj (e2 rfl rfl))<|RG.defer (fst:=[]) (cap:=[vP t0,vP d0]) (vs:=[]) rfl .plain rfl aj<|Aa<|Ac ?_
 refine Ae rfl<|xk h (fun v0 B0 h=>?_) (fun g0 B0 h=>?_)
 refine BC (fst:=[]) (cap:=[vP j0,vP p0,vP q0,vP s0]) .plain (bd 46) rfl aj (fun p q=>aG_c n (b0.hL0 hL q) a0 (b0.k0 h0_3 q) (ao q (b0.memA .t6)) (b0.k0 h1_0 q) (ao q (b0.memA .t5)) (ao q (b0.memA .t4)) (ao q (b0.memA .t3)) B0) fun u2 j1=>?_
 obtain ⟨Y0,Q1⟩:=b0.agr j1
 refine PN.callD (vs:=[]) (cap:=[vP t0,vP d0]) (bd 91) func91 rfl rfl rfl fun y1 k1 q1=>Ac<|RG.recover1 .plain k1 rfl<|Af rfl<|Aa<|Ac<|Ae rfl<|Ab (FV.neqI underlying20 rfl rfl)<|Aa<|Bb rfl<|Ac<|Ae rfl<|Ab (FV.assertT rfl rfl)<|Ae rfl<|Ab (Ah rfl rfl)<|Ab (Ah rfl rfl)<|RG.nl [vI 0] Y0 fun v2 u1 Z0 R1=>AQ [vI v0.fE] Z0 .hd (o1 rfl) fun x2 b1 U1=>Af rfl<|Aa<|Ai<|Ac<|Ae rfl<|Ab (Bp rfl)<|Aa<|BI rfl<|Ar<|Ac<|RG.nl zL b1 fun y2 v1 u0 V1=>Aa<|du 3 fun c0 C0=>Rx 0 24 c0 rfl C0 (AF rfl (u0.memA .hd))<|Rv 1 c0 rfl C0 (fun _=>AU 0 rfl)<|RD.mo (α:=Unit) (fun ()=>[(1,vP d0),(19,vI v0.fE)]) (fun ()=>[.cells d0 [vI 0] 54,.cells t0 zL 38,.cells J0 zL 38,.cells s0 [vI a3] 3,.cells q0 [vI a2] 3,.cells p0 [v1_0] 41,.cells j0 [vI a0.fj,vI a0.fh,vI a0.fl,v0_3] 46]) u0 1 15 ?_ ?_
 rintro ⟨⟩ z2 K0 A1
 try dsimp only
 refine Bz 4 31 c0 rfl rfl .plain (Ay (news:=[vI v0.fE]) K0 .hd rfl rfl rfl rfl rfl rfl (o1 rfl)) fun Y1 y0 B1=>AM (dk c0)<|MX.fin rfl<|RT.leaveD1 q1 func91 rfl .nil<|Ap (u:=.tuple #[.agg zM,vI v0.fE]) H0 func45 rfl (.cons (.many (cs:=zL) rfl rfl (y0.memA .t1)) (.cons (.one rfl rfl ((y0.memA .hd) 0 _ rfl)) .nil)) rfl<|Ab (Ah rfl rfl)<|Ab (Ah rfl rfl)<|AQ zL y0 .t2 (ai rfl) fun Z1 F0 C1=>Af rfl<|Aa<|Al rfl<|Ap hb0 func14 rfl (.cons (.many (cs:=zL) rfl rfl (F0.memA .t2)) (.cons (.tmp rfl) .nil)) rfl ?_
 cases h
 exact F0.gv
 intro D0
 refine BB [2,3] (rk c0) ⟨?_,?_,trivial⟩
 refine RO.val (m' :=7) (sk c0) rfl .plain rfl (AL rfl ((u0.memA .t1) 0 _ rfl))<|Bz 3 15 c0 rfl rfl .plain (Ay (news:=zL) u0 .t3 rfl rfl rfl rfl rfl rfl (ai rfl)) fun s1 x0 A0=>?_
 obtain ⟨M0,d1⟩:=AI x0 .d2
 exact D0 () M0 (Tt A0 d1)
 refine RO.now (m' :=11) (sk c0) rfl rfl .plain (Ay (news:=zL) u0 .t3 rfl rfl rfl rfl rfl rfl (ai rfl)) fun s1 x0 A0=>Rx 2 16 c0 rfl C0 (AL rfl ((x0.memA .t1) 0 _ rfl)) ?_
 obtain ⟨P0,g1⟩:=AI x0 .d2
 exact D0 () P0 (Tt A0 g1)
 refine RG.callq' (v:=.agg ((ab g0)).toArray) (fst:=[]) (cap:=[vP j0,vP p0,vP q0,vP s0]) .plain (bd 46) rfl aj (fun p q=>AV (aG_c n (b0.hL0 hL q) a0 (b0.k0 h0_3 q) (ao q (b0.memA .t6)) (b0.k0 h1_0 q) (ao q (b0.memA .t5)) (ao q (b0.memA .t4)) (ao q (b0.memA .t3)) B0)) rfl<|AQ (ab g0) b0 .t1 (ai rfl) fun b2 Q0 D1=>AQ [vI 0] Q0 .hd (o1 rfl) fun c2 z0 E1=>Aa<|Al rfl<|RT.callD (vs:=[]) (cap:=[vP t0,vP d0]) (bd 91) func91 rfl rfl rfl fun x1 I0 p1=>Ac<|RG.recover0 .plain I0 rfl<|Af rfl<|Aa<|Ac<|Ae rfl<|Ab (FV.neqI0 underlying20 rfl rfl)<|Aa<|BI rfl<|Ar<|MX.fin rfl<|RT.leaveD0 I0 p1 func91 rfl .nil<|Ap (u:=.tuple #[.agg ((ab g0)).toArray,vI 0]) H0 func45 rfl (.cons (.many (cs:=(ab g0)) rfl rfl (z0.memA .t1)) (.cons (.one rfl rfl ((z0.memA .hd) 0 _ rfl)) .nil)) rfl<|Ab (Ah rfl rfl)<|Ab (Ah rfl rfl)<|AQ (ab g0) z0 .t2 (ai rfl) fun g2 G0 G1=>Af rfl<|Aa<|Al rfl<|Ap hb0 func14 rfl (.cons (.many (cs:=(ab g0)) rfl rfl (G0.memA .t2)) (.cons (.tmp rfl) .nil)) rfl ?_
 cases h
 exact G0.gv
theorem ex_Ta {a b:Ta} (h0:a.fN.1 = b.fN.1) (h1:a.fN.2.1 = b.fN.2.1) (h2:a.fN.2.2.1 = b.fN.2.2.1) (h3:a.fN.2.2.2.1 = b.fN.2.2.2.1) (h4:a.fN.2.2.2.2.1 = b.fN.2.2.2.2.1) (h5:a.fN.2.2.2.2.2.1 = b.fN.2.2.2.2.2.1) (h6:a.fN.2.2.2.2.2.2.1 = b.fN.2.2.2.2.2.2.1) (h7:a.fN.2.2.2.2.2.2.2 = b.fN.2.2.2.2.2.2.2) (h8:a.fD.1 = b.fD.1) (h9:a.fD.2.1 = b.fD.2.1) (b0:a.fD.2.2.1 = b.fD.2.2.1) (c0:a.fD.2.2.2.1 = b.fD.2.2.2.1) (d0:a.fD.2.2.2.2.1 = b.fD.2.2.2.2.1) (g0:a.fD.2.2.2.2.2.1 = b.fD.2.2.2.2.2.1) (j0:a.fD.2.2.2.2.2.2.1 = b.fD.2.2.2.2.2.2.1) (k0:a.fD.2.2.2.2.2.2.2 = b.fD.2.2.2.2.2.2.2):a = b:=congr (congrArg Ta.mk (kM (a:=a.fN) (b:=b.fN) h0 h1 h2 h3 h4 h5 h6 h7)) (kM (a:=a.fD) (b:=b.fD) h8 h9 b0 c0 d0 g0 j0 k0)
theorem cG (a b:Ta) (p:World):(do eqGuard .eql 38 (.tmp 0) (.tmp 0) (.agg #[vU a.fN.1,vU a.fN.2.1,vU a.fN.2.2.1,vU a.fN.2.2.2.1,vU a.fN.2.2.2.2.1,vU a.fN.2.2.2.2.2.1,vU a.fN.2.2.2.2.2.2.1,vU a.fN.2.2.2.2.2.2.2,vU a.fD.1,vU a.fD.2.1,vU a.fD.2.2.1,vU a.fD.2.2.2.1,vU a.fD.2.2.2.2.1,vU a.fD.2.2.2.2.2.1,vU a.fD.2.2.2.2.2.2.1,vU a.fD.2.2.2.2.2.2.2]) (.agg #[vU b.fN.1,vU b.fN.2.1,vU b.fN.2.2.1,vU b.fN.2.2.2.1,vU b.fN.2.2.2.2.1,vU b.fN.2.2.2.2.2.1,vU b.fN.2.2.2.2.2.2.1,vU b.fN.2.2.2.2.2.2.2,vU b.fD.1,vU b.fD.2.1,vU b.fD.2.2.1,vU b.fD.2.2.2.1,vU b.fD.2.2.2.2.1,vU b.fD.2.2.2.2.2.1,vU b.fD.2.2.2.2.2.2.1,vU b.fD.2.2.2.2.2.2.2]); binOp .eql 38 (.agg #[vU a.fN.1,vU a.fN.2.1,vU a.fN.2.2.1,vU a.fN.2.2.2.1,vU a.fN.2.2.2.2.1,vU a.fN.2.2.2.2.2.1,vU a.fN.2.2.2.2.2.2.1,vU a.fN.2.2.2.2.2.2.2,vU a.fD.1,vU a.fD.2.1,vU a.fD.2.2.1,vU a.fD.2.2.2.1,vU a.fD.2.2.2.2.1,vU a.fD.2.2.2.2.2.1,vU a.fD.2.2.2.2.2.2.1,vU a.fD.2.2.2.2.2.2.2]) (.agg #[vU b.fN.1,vU b.fN.2.1,vU b.fN.2.2.1,vU b.fN.2.2.2.1,vU b.fN.2.2.2.2.1,vU b.fN.2.2.2.2.2.1,vU b.fN.2.2.2.2.2.2.1,vU b.fN.2.2.2.2.2.2.2,vU b.fD.1,vU b.fD.2.1,vU b.fD.2.2.1,vU b.fD.2.2.2.1,vU b.fD.2.2.2.2.1,vU b.fD.2.2.2.2.2.1,vU b.fD.2.2.2.2.2.2.1,vU b.fD.2.2.2.2.2.2.2]):Sem Value).run Tryz.prog p = .ok (.bool (decide (a = b))) p:=
  eqAgg (ks:=[.int .u64,.int .u64,.int .u64,.int .u64,.int .u64,.int .u64,.int .u64,.int .u64,.int .u64,.int .u64,.int .u64,.int .u64,.int .u64,.int .u64,.int .u64,.int .u64]) (xs:=[vU a.fN.1,vU a.fN.2.1,vU a.fN.2.2.1,vU a.fN.2.2.2.1,vU a.fN.2.2.2.2.1,vU a.fN.2.2.2.2.2.1,vU a.fN.2.2.2.2.2.2.1,vU a.fN.2.2.2.2.2.2.2,vU a.fD.1,vU a.fD.2.1,vU a.fD.2.2.1,vU a.fD.2.2.2.1,vU a.fD.2.2.2.2.1,vU a.fD.2.2.2.2.2.1,vU a.fD.2.2.2.2.2.2.1,vU a.fD.2.2.2.2.2.2.2]) (ys:=[vU b.fN.1,vU b.fN.2.1,vU b.fN.2.2.1,vU b.fN.2.2.2.1,vU b.fN.2.2.2.2.1,vU b.fN.2.2.2.2.2.1,vU b.fN.2.2.2.2.2.2.1,vU b.fN.2.2.2.2.2.2.2,vU b.fD.1,vU b.fD.2.1,vU b.fD.2.2.1,vU b.fD.2.2.2.1,vU b.fD.2.2.2.2.1,vU b.fD.2.2.2.2.2.1,vU b.fD.2.2.2.2.2.2.1,vU b.fD.2.2.2.2.2.2.2]) (by kernel_rfl) (by kernel_rfl) (by kernel_rfl) rfl rfl ⟨fun h=>by
    simp only [bJ,veq,Bool.and_eq_true,beq_iff_eq,and_true] at h
    obtain ⟨h0,h1,h2,h3,h4,h5,h6,h7,h8,h9,b0,c0,d0,g0,j0,k0⟩:=h
    exact ex_Ta (az h0) (az h1) (az h2) (az h3) (az h4) (az h5) (az h6) (az h7) (az h8) (az h9) (az b0) (az c0) (az d0) (az g0) (az j0) (az k0),fun h=>by subst h; simp [bJ,veq]⟩ _ _ p
def ai_l1 (_n:Nat) (a0:List Ta) (a1:List Ta) (c0:Nat -> Option (Bool ⊕ Unit)):Nat -> Option (Bool ⊕ Unit)
  | b0=>(if b0 < a0.length then (a0[b0]?).bind fun d0=>(a1[b0]?).bind fun g0=>(if d0 = g0 then c0 (b0 + 1) else some (.inl false)) else some (.inr ()))
def ai_p (n:Nat) (a0:List Ta) (a1:List Ta):Option Bool:=
  (if a0.length = a1.length then thn (am (ai_l1 n a0 a1) n 0) (fun _=>some true) else some false)
theorem ai_c (n:Nat) {L w} (_hL:hl L w) {a0:List Ta} {v0_0:Value} (h0_0:Rep.R w L [v0_0] a0) {a1:List Ta} {v1_0:Value} (h1_0:Rep.R w L [v1_0] a1)  {r:Bool} (h:ai_p n a0 a1 = some r) :
 Cl 16 #[v0_0,v1_0] w (ah w fun _ u=>u = .bool r):=by
 unfold ai_p at h
 have hS0:=Az w
 refine AG func16 rfl rfl rfl fun _ cs0 hb0=>Ac<|Af rfl<|Aa<|Ai<|Ac<|Ae rfl ?_
 have hl1:a0.length <= 281474976710656:=Ba h0_0
 refine Ab (Bg (xs:=a0) underlying53 rfl h0_0)<|Ae rfl ?_
 have hl2:a1.length <= 281474976710656:=Ba h1_0
 refine Ab (Bg (xs:=a1) underlying53 rfl h1_0)<|Ab (FV.neqN (i:=a0.length) (j:=a1.length) rfl rfl)<|Aa<|MX.ifn rfl h (fun c3 h=>?_) (fun c3 h=>?_)
 refine Ar<|Ai<|Ac<|Ae rfl<|Ab (Bg (xs:=a0) underlying53 rfl h0_0)<|Ae rfl<|Aa<|AA<|tn h fun R0 C0 j0=>MX.lo (α:=Nat) (fun b0=>[(0,v0_0),(1,v1_0),(12,vI ((a0.length:Nat):Int)),(13,vI ((b0:Nat):Int))]) (fun b0=>[]) (fun b0=>b0) 0 C0 hS0 ?_
 rintro J0 b0 U0 t0 g0 u0 h
 unfold ai_l1 at h
 try dsimp only at h
 refine Ac<|Ab (Bq (i:=b0) (j:=a0.length) rfl rfl)<|Aa<|Ai<|AT rfl h (fun q0 h=>?_) (fun q0 h=>?_)
 refine Ar<|Ai<|AA<|Ac<|Ae rfl<|Af rfl<|Aa<|Ai<|du 9 fun c0 d0=>Rv 0 c0 rfl d0 (fun _=>Ak rfl)<|Rv 1 c0 rfl d0 (fun _=>Ak rfl)<|bk h fun k0 F0 h=>?_
 obtain ⟨H0,K0,v0,y0,P0,D0,A0⟩:=Bk (AS h0_0 g0) F0
 obtain rfl:=gO D0
 refine Rv 2 c0 rfl d0 (fun _=>Bj 16 b0 rfl v0 rfl rfl y0)<|Rx 3 256 c0 rfl d0 (AF rfl A0)<|Rv 4 c0 rfl d0 (fun _=>Ak rfl)<|Rv 5 c0 rfl d0 (fun _=>Ak rfl)<|bk h fun p0 G0 h=>?_
 obtain ⟨I0,M0,x0,z0,Q0,E0,B0⟩:=Bk (AS h1_0 g0) G0
 obtain rfl:=gO E0
 refine Rv 6 c0 rfl d0 (fun _=>Bj 16 b0 rfl x0 rfl rfl z0)<|Rx 7 256 c0 rfl d0 (AF rfl B0)<|Rv 8 c0 rfl d0 (fun _=>FV.neqV (xs:=((ab k0)).toArray) (ys:=((ab p0)).toArray) rfl rfl (by kernel_rfl) (cG k0 p0))<|AM (dk c0)<|MX.ifn rfl h (fun s0 h=>?_) (fun s0 h=>?_)
 refine Ar<|AC<|Ao<|Ab (Bn (i:=b0) (j:=1) rfl rfl (by omega))<|Ae rfl<|Aa<|t0 (b0 + 1) g0 u0 h
 refine Ac<|Af rfl<|Aa ?_
 have h:=au h j0
 refine Al rfl<|AY hb0 func16 rfl rfl ?_
 cases h
 exact g0.gv
 refine Be rfl ?_
 have h:=aF h j0
 try dsimp only at h
 refine Ac<|Af rfl<|Aa<|Al rfl<|AY hb0 func16 rfl rfl ?_
 cases h
 exact g0.gv
 refine Ac<|Af rfl<|Aa<|Al rfl<|AY hb0 func16 rfl rfl ?_
 cases h
 exact hS0.gv
def cK_p (_n:Nat) (a0:Int) (a1:Int):Option (Except Te Int):=
  (if a1 = 0 then some (.ok a0) else some (.error (⟨a1⟩:Te)))
theorem cK_c (n:Nat) {L w} (_hL:hl L w) {a0:Int} {a1:Int}  {r:Except Te Int} (h:cK_p n a0 a1 = some r) :
 Cl 65 #[vI a0,vI a1] w (aK w (fun (y:Int) _ u=>u = vI y) (fun e=>.iface 145 (.agg #[vI e.fE])) r):=by
 unfold cK_p at h
 have hS0:=Az w
 refine BO func65 rfl rfl rfl fun _ cs0 hb0 hp0=>Ac<|Af rfl<|Aa<|Ai<|Ac<|Ae rfl<|Ab (FV.neq (i:=a1) (j:=0) rfl rfl)<|Aa<|MX.ifn rfl h (fun c1 h=>?_) (fun c1 h=>?_)
 refine Ar<|Ac<|Ae rfl<|Af rfl<|Aa<|Al rfl<|AY hb0 func65 rfl rfl ?_
 cases h
 exact ⟨hS0.ag,fun p q=>aC rfl⟩
 refine Ao<|Ae rfl<|Ab (AO (vs:=[vI a1]) (u:=.agg #[vI a1]) (e1 rfl) (fun p=>by kernel_rfl))<|Ab (BF rfl rfl)<|RG.panic .plain rfl ?_
 cases h
 exact AZ hp0 func65 ⟨hS0.ag,rfl⟩
def dQ_p (n:Nat) (a0:Ta) (a1:Ta):Option (Int × Int):=
  (aX_p n ([a0,a1]:List Ta)).bind fun b0=>(if b0 = true then (aJ_p n a0).bind fun c0=>(aJ_p n a1).bind fun d0=>(cr_p n c0 d0).bind fun g0=>some (g0,(0:Int)) else some ((0:Int),(20:Int)))
theorem dQ_c (n:Nat) {L w} (hL:hl L w) (a0:Ta) (a1:Ta)  {r:Int × Int} (h:dQ_p n a0 a1 = some r) :
 Cl 66 #[.agg ((ab a0)).toArray,.agg ((ab a1)).toArray] w (ah w fun _ u=>u = .tuple #[vI r.1,vI r.2]):=by
 unfold dQ_p at h
 refine AG func66 rfl rfl rfl fun _ cs0 hb0=>Ac<|RG.bx (Az w) rfl rfl fun u1 M0 v0 W0=>RG.bx v0 rfl rfl fun v1 P0 j0 X0=>Af rfl<|Af rfl<|Aa<|Ac<|Ab (AF rfl (j0.memA .t1))<|Ab (AF rfl (j0.memA .hd))<|By (fst:=[]) (cap:=[]) (vs:=[.agg ((ab a0)).toArray,.agg ((ab a1)).toArray,.func (.func 115) #[] #[]]) .plain (bd 114) func114 rfl rfl rfl rfl (e3 rfl rfl rfl) rfl fun V0 s0 d1=>Ac<|RG.bx j0 rfl rfl fun x1 Q0 x0 Y0=>RG.bx x0 rfl rfl fun y1 R0 k0 Z0=>Af rfl<|Af rfl<|Aa<|Ai<|Ac<|Ab (AF rfl (k0.memA .t1))<|Ab (AF rfl (k0.memA .hd))<|Aj .plain rfl (AN (α:=Ta) (xs:=([a0,a1]:List Ta)) (vs:=[.agg ((ab a0)).toArray,.agg ((ab a1)).toArray]) (ds' :=(ab a0 ++ ab a1)) rfl k0 dU rfl (e2 rfl rfl) (by kernel_rfl) rfl) fun z1 U0 c0 b1=>bk h fun I0 E0 h=>Bi (.bool I0) (bd 136) rfl (e1 rfl) (fun p q=>aX_c n (c0.hL0 hL q) (Aq (St.lend (α:=Ta) (L:=L) c0 .hd (AE (cs:=(ab a0 ++ ab a1)) (xs:=(([a0,a1]:List Ta):List Ta)) c0 L (Aw (cs:=(ab a0)) (ds:=(ab a1)) (br a0.fN a0.fD) (Aw (cs:=(ab a1)) (ds:=[]) (br a1.fN a1.fD) (AK _ _)))) hL) q) E0) rfl<|Ab (Bp rfl)<|Aa<|BW rfl h (fun u0 h=>?_) (fun u0 h=>?_)
 refine Ar<|Ai<|du 8 fun b0 g0=>Rv 0 b0 rfl g0 (fun _=>Ak rfl)<|Rx 1 244 b0 rfl g0 (AF rfl (c0.memA .t2))<|Rx 3 240 b0 rfl g0 (AF rfl (c0.memA .t1))<|bk h fun J0 F0 h=>Bl 2 15 b0 rfl .plain (bd 110) rfl (e1 rfl) (fun p q=>aJ_c n (c0.hL hL q) a0 F0) rfl fun A1 q1 y0 ⟨g1,j1,hu_,A0,B0⟩=>?_
 subst hu_
 obtain ⟨p0,c1⟩:=c0.agr y0
 refine bk h fun K0 G0 h=>Bl 4 31 b0 rfl .plain (bd 110) rfl (e1 rfl) (fun p q=>aJ_c n (p0.hL hL q) a1 G0) rfl fun B1 s1 z0 ⟨k1,p1,hu_,C0,D0⟩=>?_
 subst hu_
 obtain ⟨d0,q0⟩:=p0.agr z0
 refine bk h fun t0 H0 h=>BG 5 63 192 (vI t0) b0 rfl g0 (bd 115) rfl (e2 rfl rfl) (fun p q=>cr_c n (d0.hL0 hL q) J0 (d0.kd (Am A0 q0) q) (d0.kd (Am B0 q0) q) K0 (d0.kd C0 q) (d0.kd D0 q) H0) rfl<|Rv 6 b0 rfl g0 (fun _=>Bh rfl)<|Rv 7 b0 rfl g0 (fun _=>Bh rfl)<|AM (dk b0)<|Al rfl<|Ap (u:=.tuple #[vI t0,vI 0]) s0 func114 rfl (.cons (.tmp rfl) (.cons (.tmp rfl) .nil)) rfl<|Ab (Ah rfl rfl)<|Ab (Ah rfl rfl)<|Af rfl<|Af rfl<|Aa<|Al rfl<|Ap hb0 func66 rfl (.cons (.tmp rfl) (.cons (.tmp rfl) .nil)) rfl ?_
 cases h
 exact d0.gv
 refine Ac<|Af rfl<|Aa<|Ac<|Ae rfl<|Af rfl<|Af rfl<|Aa<|Al rfl<|Ap (u:=.tuple #[vI 0,vI 20]) s0 func114 rfl (.cons (.tmp rfl) (.cons (.tmp rfl) .nil)) rfl<|Ab (Ah rfl rfl)<|Ab (Ah rfl rfl)<|Af rfl<|Af rfl<|Aa<|Al rfl<|Ap hb0 func66 rfl (.cons (.tmp rfl) (.cons (.tmp rfl) .nil)) rfl ?_
 cases h
 exact c0.gv
def ck_p (n:Nat) (a0:Tj) (a1:Ta):Option (Except Te Bool):=
  (bA_p n a0).bind fun g0=>exc g0 (fun j0=>(dQ_p n j0 a1).bind fun b0=>(cK_p n b0.1 b0.2).bind fun k0=>exc k0 (fun p0=>some (.ok (decide (0 < p0)))) (fun d0=>some (.error d0))) (fun c0=>some (.error c0))
theorem ck_c (n:Nat) {L w} (hL:hl L w) (a0:Tj) (a1:Ta) {p1:Nat} (m1:∀ j9 v9,((ab a1):List Value)[j9]? = some v9 -> w.cell? ((⟨p1,0,none⟩:Addr).add j9) = some v9)  {r:Except Te Bool} (h:ck_p n a0 a1 = some r) :
 Cl 64 #[.agg #[vI a0.fL,vI a0.fall],.pointer (some ⟨p1,0,none⟩)] w (aK w (fun (y:Bool) _ u=>u = .bool y) (fun e=>.iface 145 (.agg #[vI e.fE])) r):=by
 unfold ck_p at h
 refine BO func64 rfl rfl rfl fun _ cs0 hb0 hp0=>Ac<|RG.bx (Az w) rfl rfl fun E0 y0 c0 B0=>Af rfl<|Aa<|Ai<|du 9 fun b0 d0=>Rx 0 506 b0 rfl d0 (AF rfl (c0.memA .hd))<|xk h (fun z0 g0 h=>?_) (fun k0 g0 h=>?_)
 refine Rx 2 504 b0 rfl d0 (AF rfl (fun j9 v9 h9=>c0.ag.cell0 (m1 j9 v9 h9)))<|BT (i:=1) (rk b0) (RO.callE (fst:=[]) (cap:=[]) rfl .plain (bd 42) rfl (e1 rfl) (fun p q=>bA_c n (c0.hL0 hL q) a0 g0) (fun F0 u0=>?_))
 obtain ⟨s0,C0⟩:=c0.agr u0
 cases h
 exact AZ hp0 func64 ⟨s0.ag,rfl⟩
 refine BG 1 3 504 (.agg ((ab k0)).toArray) b0 rfl d0 (bd 42) rfl (e1 rfl) (fun p q=>AV (bA_c n (c0.hL0 hL q) a0 g0)) rfl<|Rx 2 504 b0 rfl d0 (AF rfl (fun j9 v9 h9=>c0.ag.cell0 (m1 j9 v9 h9)))<|bk h fun p0 x0 h=>BG 3 15 496 (.tuple #[vI p0.1,vI p0.2]) b0 rfl d0 (bd 66) rfl (e2 rfl rfl) (fun p q=>dQ_c n (c0.hL0 hL q) k0 a1 x0) rfl<|Rv 4 b0 rfl d0 (fun _=>Ah rfl rfl)<|Rv 5 b0 rfl d0 (fun _=>Ah rfl rfl)<|xk h (fun A0 j0 h=>?_) (fun q0 j0 h=>?_)
 refine BT (i:=6) (rk b0) (RO.callE (fst:=[]) (cap:=[]) rfl .plain (bd 65) rfl (e2 rfl rfl) (fun p q=>cK_c n (c0.hL0 hL q)  j0) (fun G0 v0=>?_))
 obtain ⟨t0,D0⟩:=c0.agr v0
 cases h
 exact AZ hp0 func64 ⟨t0.ag,rfl⟩
 refine BG 6 127 384 (vI q0) b0 rfl d0 (bd 65) rfl (e2 rfl rfl) (fun p q=>AV (cK_c n (c0.hL0 hL q)  j0)) rfl<|Rv 7 b0 rfl d0 (fun _=>FV.gtr (i:=q0) (j:=0) rfl rfl)<|Rv 8 b0 rfl d0 (fun _=>Bh rfl)<|AM (dk b0)<|Al rfl<|AY hb0 func64 rfl rfl ?_
 cases h
 exact ⟨c0.ag,fun p q=>aC rfl⟩
def aR_l1 (n:Nat) (g0:List Tj) (a4:Ta) (d0:Nat × (List Int) -> Option ((Except Te (List Int)) ⊕ (List Int))):Nat × (List Int) -> Option ((Except Te (List Int)) ⊕ (List Int))
  | (b0,c0)=>(if b0 < g0.length then (g0[b0]?).bind fun k0=>(ck_p n k0 a4).bind fun q0=>exc q0 (fun s0=>(if s0 = true then (app c0 ([((b0:Nat):Int)]:List Int)).bind fun p0=>d0 (b0 + 1,p0) else d0 (b0 + 1,c0))) (fun j0=>some (.inl (.error j0))) else some (.inr c0))
def aR_p (n:Nat) (a0:Td) (a1:List Int) (a2:Int) (a3:Int) (a4:Ta):Option (Except Te (List Int)):=
  (ap_p n a0 a1 a2 a3).bind fun y1=>exc y1 (fun g0=>(cH_p n a4).bind fun b0=>(if b0 = 0 then thn (am (aR_l1 n g0 a4) n (0,([]:List Int))) (fun d0=>some (.ok d0)) else some (.error (⟨b0⟩:Te)))) (fun c0=>some (.error c0))
theorem aR_c (n:Nat) {L w} (hL:hl L w) (a0:Td) {v0_3:Value} (h0_3:Rep.R w L [v0_3] a0.fu) {p0:Nat} (m0:∀ j9 v9,([vI a0.fj,vI a0.fh,vI a0.fl,v0_3]:List Value)[j9]? = some v9 -> w.cell? ((⟨p0,0,none⟩:Addr).add j9) = some v9) {a1:List Int} {v1_0:Value} (h1_0:Rep.R w L [v1_0] a1) {p1:Nat} (m1:∀ j9 v9,([v1_0]:List Value)[j9]? = some v9 -> w.cell? ((⟨p1,0,none⟩:Addr).add j9) = some v9) {a2:Int} {p2:Nat} (m2:∀ j9 v9,([vI a2]:List Value)[j9]? = some v9 -> w.cell? ((⟨p2,0,none⟩:Addr).add j9) = some v9) {a3:Int} {p3:Nat} (m3:∀ j9 v9,([vI a3]:List Value)[j9]? = some v9 -> w.cell? ((⟨p3,0,none⟩:Addr).add j9) = some v9) (a4:Ta) {p4:Nat} (m4:∀ j9 v9,((ab a4):List Value)[j9]? = some v9 -> w.cell? ((⟨p4,0,none⟩:Addr).add j9) = some v9)  {r:Except Te (List Int)} (h:aR_p n a0 a1 a2 a3 a4 = some r) :
 Cl 60 #[.pointer (some ⟨p0,0,none⟩),.pointer (some ⟨p1,0,none⟩),.pointer (some ⟨p2,0,none⟩),.pointer (some ⟨p3,0,none⟩),.pointer (some ⟨p4,0,none⟩)] w (aK w (fun (y:List Int) w' u=>∃ v0_0:Value,u = v0_0/\Rep.R w' L [v0_0] y) (fun e=>.iface 145 (.agg #[vI e.fE])) r):=by
 unfold aR_p at h
 have hS0:=Az w
 refine BO func60 rfl rfl rfl fun _ cs0 hb0 hp0=>Ac<|Af rfl<|Aa<|Ac<|Ab (AF rfl (fun j9 v9 h9=>hS0.ag.cell0 (m0 j9 v9 h9)))<|AR rfl ((fun j9 v9 h9=>hS0.ag.cell0 (m1 j9 v9 h9)) 0 _ rfl)<|AR rfl ((fun j9 v9 h9=>hS0.ag.cell0 (m2 j9 v9 h9)) 0 _ rfl)<|AR rfl ((fun j9 v9 h9=>hS0.ag.cell0 (m3 j9 v9 h9)) 0 _ rfl)<|xk h (fun Z1 hy1 h=>?_) (fun u0 hy1 h=>?_)
 refine BC (fst:=[]) (cap:=[]) .plain (bd 41) rfl (e4 rfl rfl rfl rfl) (fun p q=>ap_c n (hS0.hL hL q) a0 (Aq h0_3 q) (Aq h1_0 q) hy1) fun v2 k1=>?_
 obtain ⟨V0,c2⟩:=hS0.agr k1
 cases h
 exact AZ hp0 func60 ⟨V0.ag,rfl⟩
 refine jE (bd 41) rfl (e4 rfl rfl rfl rfl) (fun p q=>AV (ap_c n (hS0.hL hL q) a0 (Aq h0_3 q) (Aq h1_0 q) hy1)) rfl fun B2 K0 s1 ⟨u2,hu_,A0⟩=>?_
 subst hu_
 obtain ⟨k0,k2⟩:=hS0.agr s1
 refine Af rfl<|Aa<|Ac<|Ab (AF rfl (fun j9 v9 h9=>k0.ag.cell0 (m4 j9 v9 h9)))<|bk h fun q0 I1 h=>Bi (vI q0) (bd 62) rfl (e1 rfl) (fun p q=>cH_c n (k0.hL0 hL q) a4 I1) rfl<|By (fst:=[]) (cap:=[]) (vs:=[vI q0]) .plain (bd 61) func61 rfl rfl rfl rfl (e1 rfl) rfl fun X1 u1 C1=>Ac<|Ae rfl<|Ab (FV.neq (i:=q0) (j:=0) rfl rfl)<|Aa<|MX.ifn rfl h (fun R0 h=>?_) (fun R0 h=>?_)
 refine Ar<|MX.fin rfl<|Ap (u:=.tuple #[]) u1 func61 rfl .nil rfl<|Aa<|Ac<|Ae rfl<|Ab (BP (vs:=[]) (us:=[.pointer (some ⟨p4,0,none⟩)]) aj (e1 rfl))<|By (fst:=[]) (cap:=[]) (vs:=[K0,.func (.func 64) #[] #[.pointer (some ⟨p4,0,none⟩)]]) .plain (bd 63) func63 rfl rfl rfl rfl (e2 rfl rfl) rfl fun Y1 v1 D1=>Ac<|Af rfl<|Aa<|Ai<|Ac<|Ae rfl ?_
 have q2:u0.length <= 281474976710656:=Ba A0
 refine Ab (Bg (xs:=u0) underlying96 rfl A0)<|Ae rfl<|Aa<|AA ?_
 have D0:=k0.nilRow 3 (Rep.size Int)
 refine tn h fun s2 B1 H0=>MX.lf (α:=Nat × (List Int) × Value × (List Value)) (fun ⟨b0,d0,c0,g0⟩=>[(1,.func (.func 64) #[] #[.pointer (some ⟨p4,0,none⟩)]),(4,c0),(7,K0),(8,vI ((u0.length:Nat):Int)),(9,vI ((b0:Nat):Int))]) (fun ⟨b0,d0,c0,g0⟩=>[rr w 3 Int c0 d0.length g0]) (fun ⟨b0,d0,c0,g0⟩ M0=>Cells M0 (bl [rr w 3 Int c0 d0.length g0] ++ L) g0 d0) (fun ⟨b0,d0,c0,g0⟩=>(b0,d0)) (0,([]:List Int),vN,[]) B1 D0 (AE (cs:=[]) (xs:=([]:List Int)) D0 L (AK _ _)) ?_
 rintro Q1 ⟨b0,d0,c0,g0⟩ M0 C0 s0 y0 z0 h
 unfold aR_l1 at h
 try dsimp only at h
 refine Ac<|Ab (Bq (i:=b0) (j:=u0.length) rfl rfl)<|Aa<|Ai<|AT rfl h (fun P0 h=>?_) (fun P0 h=>?_)
 refine Ar<|Ai<|AA<|Ac<|Ae rfl<|bk h fun t0 G1 h=>?_
 obtain ⟨P1,V1,y1,z1,W1,E1,A1⟩:=Bk (Am A0 (Tt (St.nilRowT k0 3 (Rep.size Int)) y0)) G1
 obtain rfl:=fX E1
 refine Ab (Bj 2 b0 rfl y1 rfl rfl z1)<|Ab (AF rfl A1)<|RG.nl [vI 0,vI 0] s0 fun x2 R1 W0 E0=>Af rfl<|AQ [vI t0.fL,vI t0.fall] W0 .hd (ai rfl) fun y2 j0 F0=>Aa<|Ac<|Ae rfl<|Ab (AF rfl (j0.memA .hd))<|xk h (fun b2 B0 h=>?_) (fun M1 B0 h=>?_)
 have h:=au h H0
 refine BC (fst:=[]) (cap:=[.pointer (some ⟨p4,0,none⟩)]) .plain (bd 64) rfl (e1 rfl) (fun p q=>ck_c n (j0.hL0 hL q) t0 a4 (ao q (fun j9 v9 h9=>j0.ag.cell0 (m4 j9 v9 h9))) B0) fun z2 q1=>?_
 obtain ⟨X0,g2⟩:=j0.agr q1
 refine AZ D1 func63 ?_
 cases h
 exact AZ hp0 func60 ⟨X0.ag,rfl⟩
 refine RG.callq' (v:=.bool M1) (fst:=[]) (cap:=[.pointer (some ⟨p4,0,none⟩)]) .plain (bd 64) rfl (e1 rfl) (fun p q=>AV (ck_c n (j0.hL0 hL q) t0 a4 (ao q (fun j9 v9 h9=>j0.ag.cell0 (m4 j9 v9 h9))) B0)) rfl<|Aa<|MX.ifb rfl h (fun Q0 h=>?_) (fun Q0 h=>?_)
 refine Ao<|Ae rfl<|Ae rfl<|Aj .plain rfl (AN (α:=Int) (xs:=([((b0:Nat):Int)]:List Int)) (vs:=[vI ((b0:Nat):Int)]) (ds' :=[vI ((b0:Nat):Int)]) rfl j0 aw rfl (e1 rfl) (by kernel_rfl) rfl) fun A2 U1 v0 c1=>bk h fun K1 H1 h=>?_
 have I0:=Tt E0 (Tt F0 c1)
 refine RG.doesL .plain rfl (Bo (α:=Int) (ys:=([((b0:Nat):Int)]:List Int)) H1 v0 (fun _ _=>.t2) aw rfl rfl (AD z0 I0) (Src.row (α:=Int) v0 .hd (AE (cs:=[vI ((b0:Nat):Int)]) (xs:=(([((b0:Nat):Int)]:List Int):List Int)) v0 L (Aw (cs:=[vI ((b0:Nat):Int)]) (ds:=[]) rfl (AK _ _))))) fun J1 C2 ⟨U0,Y0,g1,x1⟩=>Af rfl<|Aa<|AC<|Ao<|Ab (Bn (i:=b0) (j:=1) rfl rfl (by omega))<|Ae rfl<|Aa ?_
 obtain ⟨Z0,G0⟩:=AI Y0 .d2
 exact C0 (b0 + 1,K1,J1,U0) Z0 (Tt y0 (Tt I0 (Tt g1 G0))) (AD x1 G0) h
 refine Ar<|AC<|Ao<|Ab (Bn (i:=b0) (j:=1) rfl rfl (by omega))<|Ae rfl<|Aa ?_
 obtain ⟨b1,j1⟩:=AI j0 .d1
 have J0:=Tt E0 (Tt F0 j1)
 exact C0 (b0 + 1,d0,c0,g0) b1 (Tt y0 J0) (AD z0 J0) h
 refine Be rfl ?_
 have h:=aF h H0
 try dsimp only at h
 refine Ac<|Ae rfl<|Af rfl<|Aa<|Al rfl<|Ap (u:=c0) v1 func63 rfl (.cons (.tmp rfl) .nil) rfl<|Af rfl<|Aa<|Al rfl ?_
 have x0:=Br s0 .hd
 have j2:=Bs s0 .hd
 have F1:=Bu (α:=Int) (v:=c0) (xs:=d0) x0 L (Bf (α:=Int) s0 .hd z0 hL)
 refine AY hb0 func60 rfl rfl ?_
 cases h
 exact ⟨x0.ag,fun p q=>aC ⟨c0,rfl,x0.kd F1 q⟩⟩
 refine Ao<|Ae rfl<|Ab (AO (vs:=[vI q0]) (u:=.agg #[vI q0]) (e1 rfl) (fun p=>by kernel_rfl))<|Ab (BF rfl rfl)<|RG.panic .plain rfl<|AZ C1 func61 ?_
 cases h
 exact AZ hp0 func60 ⟨k0.ag,rfl⟩
def bN_p (n:Nat) (a0:Td) (a1:List Int) (a2:Int) (a3:Int) (a4:Ta):Option ((List Int) × Int):=
  (aR_p n a0 a1 a2 a3 a4).bind fun c0=>exc c0 (fun d0=>some (d0,(0:Int))) (fun b0=>some (([]:List Int),b0.fE))
theorem bN_c (n:Nat) {L w} (hL:hl L w) (a0:Td) {v0_3:Value} (h0_3:Rep.R w L [v0_3] a0.fu) {a1:List Int} {v1_0:Value} (h1_0:Rep.R w L [v1_0] a1) {a2:Int} {a3:Int} (a4:Ta)  {r:(List Int) × Int} (h:bN_p n a0 a1 a2 a3 a4 = some r) :
 Cl 18 #[.agg #[vI a0.fj,vI a0.fh,vI a0.fl,v0_3],v1_0,vI a2,vI a3,.agg ((ab a4)).toArray] w (ah w fun w' u=>∃ v0_0:Value,u = .tuple #[v0_0,vI r.2]/\Rep.R w' L [v0_0] r.1):=by
 unfold bN_p at h
 refine AG func18 rfl rfl rfl fun _ cs0 hb0=>Ac<|RG.bx (Az w) rfl rfl fun W1 g0 F0 F1=>RG.bx F0 rfl (Rep.c1 (AS h1_0 F0)) fun c2 j0 Q0 G1=>RG.bx Q0 rfl rfl fun d2 k0 R0 H1=>RG.bx R0 rfl rfl fun g2 p0 U0 I1=>RG.bx U0 rfl rfl fun w32 q0 V0 J1=>Af rfl<|Af rfl<|Aa<|Ac<|Ab (BP (vs:=[]) (us:=[vP g0,vP j0,vP k0,vP p0,vP q0]) aj (e5 rfl rfl rfl rfl rfl))<|By (fst:=[]) (cap:=[]) (vs:=[.func (.func 60) #[] #[vP g0,vP j0,vP k0,vP p0,vP q0]]) .plain (bd 59) func59 rfl rfl rfl rfl (e1 rfl) rfl fun B1 G0 U1=>Ac<|RG.nl [vN] V0 fun j2 s0 W0 K1=>RG.nl [vI 0] W0 fun k2 d0 b0 M1=>Aa<|Ac<|Ab (BP (vs:=[]) (us:=[vP s0,vP d0]) aj (e2 rfl rfl))<|RG.defer (fst:=[]) (cap:=[vP s0,vP d0]) (vs:=[]) rfl .plain rfl aj<|Aa<|Ac ?_
 refine Ae rfl<|xk h (fun u0 B0 h=>?_) (fun v2 B0 h=>?_)
 refine BC (fst:=[]) (cap:=[vP g0,vP j0,vP k0,vP p0,vP q0]) .plain (bd 60) rfl aj (fun p q=>aR_c n (b0.hL hL q) a0 (b0.km h0_3 q) (ao q (b0.memA .t6)) (b0.km h1_0 q) (ao q (b0.memA .t5)) (ao q (b0.memA .t4)) (ao q (b0.memA .t3)) a4 (ao q (b0.memA .t2)) B0) fun p2 p1=>?_
 obtain ⟨X0,P1⟩:=b0.agr p1
 refine PN.callD (vs:=[]) (cap:=[vP s0,vP d0]) (bd 108) func108 rfl rfl rfl fun A1 q1 u1=>Ac<|RG.recover1 .plain q1 rfl<|Af rfl<|Aa<|Ac<|Ae rfl<|Ab (FV.neqI underlying20 rfl rfl)<|Aa<|Bb rfl<|Ac<|Ae rfl<|Ab (FV.assertT rfl rfl)<|Ae rfl<|Ab (Ah rfl rfl)<|Ab (Ah rfl rfl)<|RG.nl [vI 0] X0 fun q2 y1 Y0 Q1=>AQ [vI u0.fE] Y0 .hd (o1 rfl) fun s2 x0 R1=>Af rfl<|Aa<|Ai<|Ac<|Ae rfl<|Ab (Bp rfl)<|Aa<|BI rfl<|Ar<|Ac<|Af rfl<|Aa<|du 3 fun c0 C0=>Rv 0 c0 rfl C0 (fun _=>Ak rfl)<|Rv 1 c0 rfl C0 (fun _=>AU 0 rfl)<|RD.mo (α:=Unit) (fun ()=>[(1,vP d0),(19,vI u0.fE)]) (fun ()=>[.cells d0 [vI 0] 54,.cells s0 [vN] 40,.cells q0 (ab a4) 38,.cells p0 [vI a3] 3,.cells k0 [vI a2] 3,.cells j0 [v1_0] 41,.cells g0 [vI a0.fj,vI a0.fh,vI a0.fl,v0_3] 46]) x0 1 15 ?_ ?_
 rintro ⟨⟩ u2 I0 C1
 try dsimp only
 refine Bz 4 31 c0 rfl rfl .plain (Ay (news:=[vI u0.fE]) I0 .hd rfl rfl rfl rfl rfl rfl (o1 rfl)) fun X1 t0 D1=>AM (dk c0)<|MX.fin rfl<|RT.leaveD1 u1 func108 rfl .nil<|Ap (u:=.tuple #[vN,vI u0.fE]) G0 func59 rfl (.cons (.one rfl rfl ((t0.memA .t1) 0 _ rfl)) (.cons (.one rfl rfl ((t0.memA .hd) 0 _ rfl)) .nil)) rfl<|Ab (Ah rfl rfl)<|Ab (Ah rfl rfl)<|Af rfl<|Af rfl<|Aa<|Al rfl ?_
 have v1:=BS (α:=Int) t0 L
 refine Ap hb0 func18 rfl (.cons (.tmp rfl) (.cons (.tmp rfl) .nil)) rfl ?_
 cases h
 exact ⟨t0.ag,fun p q=>⟨vN,rfl,t0.kd v1 q⟩⟩
 intro E0
 refine BB [2,3] (rk c0) ⟨?_,?_,trivial⟩
 refine RO.val (m' :=7) (sk c0) rfl .plain rfl (AL rfl ((x0.memA .hd) 0 _ rfl))<|Bz 3 15 c0 rfl rfl .plain (Ay (news:=[vN]) x0 .t2 rfl rfl rfl rfl rfl rfl (o1 rfl)) fun x1 y0 z0=>?_
 obtain ⟨J0,Z0⟩:=AI y0 .d1
 exact E0 () J0 (Tt z0 Z0)
 refine RO.now (m' :=11) (sk c0) rfl rfl .plain (Ay (news:=[vN]) x0 .t2 rfl rfl rfl rfl rfl rfl (o1 rfl)) fun x1 y0 z0=>Rx 2 16 c0 rfl C0 (AL rfl ((y0.memA .hd) 0 _ rfl)) ?_
 obtain ⟨K0,b1⟩:=AI y0 .d1
 exact E0 () K0 (Tt z0 b1)
 refine Bd (fst:=[]) (cap:=[vP g0,vP j0,vP k0,vP p0,vP q0]) .plain (bd 60) rfl aj (fun p q=>AV (aR_c n (b0.hL hL q) a0 (b0.km h0_3 q) (ao q (b0.memA .t6)) (b0.km h1_0 q) (ao q (b0.memA .t5)) (ao q (b0.memA .t4)) (ao q (b0.memA .t3)) a4 (ao q (b0.memA .t2)) B0)) rfl fun Y1 D0 k1 ⟨V1,hu_,A0⟩=>?_
 subst hu_
 obtain ⟨M0,E1⟩:=b0.agr k1
 refine BU .plain (Ay (news:=[D0]) M0 .t1 rfl rfl rfl (Rep.c1 A0) rfl rfl (o1 (AP A0))) fun Z1 P0 g1=>AQ [vI 0] P0 .hd (o1 rfl) fun b2 v0 j1=>Aa<|Al rfl<|RT.callD (vs:=[]) (cap:=[vP s0,vP d0]) (bd 108) func108 rfl rfl rfl fun z1 H0 s1=>Ac<|RG.recover0 .plain H0 rfl<|Af rfl<|Aa<|Ac<|Ae rfl<|Ab (FV.neqI0 underlying20 rfl rfl)<|Aa<|BI rfl<|Ar<|MX.fin rfl<|RT.leaveD0 H0 s1 func108 rfl .nil<|Ap (u:=.tuple #[D0,vI 0]) G0 func59 rfl (.cons (.one rfl rfl ((v0.memA .t1) 0 _ rfl)) (.cons (.one rfl rfl ((v0.memA .hd) 0 _ rfl)) .nil)) rfl<|Ab (Ah rfl rfl)<|Ab (Ah rfl rfl)<|Af rfl<|Af rfl<|Aa<|Al rfl<|Ap hb0 func18 rfl (.cons (.tmp rfl) (.cons (.tmp rfl) .nil)) rfl ?_
 cases h
 exact ⟨v0.ag,fun p q=>⟨D0,rfl,v0.kd (Am A0 (Tt g1 j1)) q⟩⟩
structure Ttold where
  fM:Ta
  fP:Ta
  deriving DecidableEq
instance:Rep Ttold:=Rep.via (β:=Ta × Ta) fun x=>(x.fM,x.fP)
def cB (x:Ttold):List Value:=[vU x.fM.fN.1,vU x.fM.fN.2.1,vU x.fM.fN.2.2.1,vU x.fM.fN.2.2.2.1,vU x.fM.fN.2.2.2.2.1,vU x.fM.fN.2.2.2.2.2.1,vU x.fM.fN.2.2.2.2.2.2.1,vU x.fM.fN.2.2.2.2.2.2.2,vU x.fM.fD.1,vU x.fM.fD.2.1,vU x.fM.fD.2.2.1,vU x.fM.fD.2.2.2.1,vU x.fM.fD.2.2.2.2.1,vU x.fM.fD.2.2.2.2.2.1,vU x.fM.fD.2.2.2.2.2.2.1,vU x.fM.fD.2.2.2.2.2.2.2,vU x.fP.fN.1,vU x.fP.fN.2.1,vU x.fP.fN.2.2.1,vU x.fP.fN.2.2.2.1,vU x.fP.fN.2.2.2.2.1,vU x.fP.fN.2.2.2.2.2.1,vU x.fP.fN.2.2.2.2.2.2.1,vU x.fP.fN.2.2.2.2.2.2.2,vU x.fP.fD.1,vU x.fP.fD.2.1,vU x.fP.fD.2.2.1,vU x.fP.fD.2.2.2.1,vU x.fP.fD.2.2.2.2.1,vU x.fP.fD.2.2.2.2.2.1,vU x.fP.fD.2.2.2.2.2.2.1,vU x.fP.fD.2.2.2.2.2.2.2]
def dz_p (n:Nat) (a0:Tg) (a1:Tg):Option Tg:=
  (aI_p n a0.fB a1.fB).bind fun b0=>(aI_p n a0.ft a1.ft).bind fun c0=>(cb_p n b0 c0).bind fun d0=>some d0
theorem dz_c (n:Nat) {L w} (hL:hl L w) (a0:Tg) {v0_1:Value} (h0_1:Rep.R w L [v0_1] a0.fB.fo) {v0_3:Value} (h0_3:Rep.R w L [v0_3] a0.ft.fo) (a1:Tg) {v1_1:Value} (h1_1:Rep.R w L [v1_1] a1.fB.fo) {v1_3:Value} (h1_3:Rep.R w L [v1_3] a1.ft.fo)  {r:Tg} (h:dz_p n a0 a1 = some r) :
 Cl 159 #[.agg #[.bool a0.fB.fe,v0_1,.bool a0.ft.fe,v0_3],.agg #[.bool a1.fB.fe,v1_1,.bool a1.ft.fe,v1_3]] w (ah w fun w' u=>∃ v0_1 v0_3:Value,u = .agg #[.bool r.fB.fe,v0_1,.bool r.ft.fe,v0_3]/\Rep.R w' L [v0_1] r.fB.fo/\Rep.R w' L [v0_3] r.ft.fo):=by
 unfold dz_p at h
 refine AG func159 rfl rfl rfl fun _ cs0 hb0=>Ac<|RG.bx (Az w) rfl rfl fun g1 M0 x0 R0=>RG.bx x0 rfl rfl fun j1 P0 y0 U0=>RG.nl [.bool false,vN,.bool false,vN] y0 fun k1 Q0 c0 V0=>Aa<|Ai<|du 11 fun b0 d0=>Rv 0 b0 rfl d0 (fun _=>AU 0 rfl)<|Rx 1 3600 b0 rfl d0 (AW (cs:=[.bool a0.fB.fe,v0_1]) rfl rfl (ae (c0.memA .t2) 0 2))<|Rv 2 b0 rfl d0 (fun _=>AU 0 rfl)<|Rx 3 3600 b0 rfl d0 (AW (cs:=[.bool a1.fB.fe,v1_1]) rfl rfl (ae (c0.memA .t1) 0 2))<|Rv 5 b0 rfl d0 (fun _=>AU 2 rfl)<|Rx 6 3584 b0 rfl d0 (AW (cs:=[.bool a0.ft.fe,v0_3]) rfl rfl (ae (c0.memA .t2) 2 2))<|Rv 7 b0 rfl d0 (fun _=>AU 2 rfl)<|Rx 8 3584 b0 rfl d0 (AW (cs:=[.bool a1.ft.fe,v1_3]) rfl rfl (ae (c0.memA .t1) 2 2))<|bk h fun J0 G0 h=>Bl 4 511 b0 rfl .plain (bd 154) rfl (e2 rfl rfl) (fun p q=>aI_c n (c0.hL hL q) a0.fB (c0.km h0_1 q) a1.fB (c0.km h1_1 q) G0) rfl fun p1 b1 B0 ⟨Y0,hu_,E0⟩=>?_
 subst hu_
 obtain ⟨g0,W0⟩:=c0.agr B0
 refine bk h fun K0 H0 h=>Bl 9 1023 b0 rfl .plain (bd 154) rfl (e2 rfl rfl) (fun p q=>aI_c n (g0.hL hL q) a0.ft (g0.km h0_3 q) a1.ft (g0.km h1_3 q) H0) rfl fun q1 c1 C0 ⟨Z0,hu_,F0⟩=>?_
 subst hu_
 obtain ⟨s0,A0⟩:=g0.agr C0
 refine bk h fun k0 I0 h=>Bl 10 2047 b0 rfl .plain (bd 164) rfl (e2 rfl rfl) (fun p q=>cb_c n (s0.hL hL q) J0 (Aq (Am E0 A0) q) K0 (Aq F0 q) I0) rfl fun s1 d1 D0 ⟨p0,q0,hu_,u0,v0⟩=>?_
 subst hu_
 obtain ⟨z0,X0⟩:=s0.agr D0
 refine Bz 11 4095 b0 rfl rfl .plain (Ay (news:=[.bool k0.fB.fe,p0,.bool k0.ft.fe,q0]) z0 .hd rfl rfl rfl rfl rfl rfl (o4 rfl (AP u0) rfl (AP v0))) fun u1 j0 t0=>AM (dk b0)<|Al rfl<|Ap hb0 func159 rfl (.cons (.many (cs:=[.bool k0.fB.fe,p0,.bool k0.ft.fe,q0]) rfl rfl (j0.memA .hd)) .nil) rfl ?_
 cases h
 exact ⟨j0.ag,fun p q=>⟨p0,q0,rfl,j0.kd (Am u0 t0) q,j0.kd (Am v0 t0) q⟩⟩
def dS_p (n:Nat) (a0:Ta) (a1:Ta):Option (Ta × Int):=
  (aX_p n ([a0,a1]:List Ta)).bind fun d0=>(if d0 = true then (aJ_p n a0).bind fun g0=>(aJ_p n a1).bind fun j0=>(dz_p n g0 j0).bind fun k0=>(ba_p n k0 (0:Int)).bind fun c0=>some (c0.1,c0.2) else (ba_p n (⟨(⟨false,([]:List UInt64)⟩:Th),(⟨false,([]:List UInt64)⟩:Th)⟩:Tg) (20:Int)).bind fun b0=>some (b0.1,b0.2))
theorem dS_c (n:Nat) {L w} (hL:hl L w) (a0:Ta) (a1:Ta)  {r:Ta × Int} (h:dS_p n a0 a1 = some r) :
 Cl 121 #[.agg ((ab a0)).toArray,.agg ((ab a1)).toArray] w (ah w fun _ u=>u = .tuple #[.agg ((ab r.1)).toArray,vI r.2]):=by
 unfold dS_p at h
 refine AG func121 rfl rfl rfl fun _ cs0 hb0=>Ac<|RG.bx (Az w) rfl rfl fun j2 s1 I0 F1=>RG.bx I0 rfl rfl fun k2 u1 J0 G1=>RG.nl zL J0 fun p2 v1 s0 H1=>Af rfl<|Aa<|Ac<|Ab (AF rfl (s0.memA .t2))<|Ab (AF rfl (s0.memA .t1))<|By (fst:=[]) (cap:=[]) (vs:=[.agg ((ab a0)).toArray,.agg ((ab a1)).toArray,.func (.func 159) #[] #[]]) .plain (bd 93) func93 rfl rfl rfl rfl (e3 rfl rfl rfl) rfl fun C1 E0 V1=>Ac<|RG.bx s0 rfl rfl fun q2 x1 K0 I1=>RG.bx K0 rfl rfl fun s2 y1 M0 J1=>RG.nl [.bool false,vN,.bool false,vN] M0 fun u2 z1 t0 K1=>Af rfl<|Aa<|Ai<|Ac<|Ab (AF rfl (t0.memA .t2))<|Ab (AF rfl (t0.memA .t1))<|Aj .plain rfl (AN (α:=Ta) (xs:=([a0,a1]:List Ta)) (vs:=[.agg ((ab a0)).toArray,.agg ((ab a1)).toArray]) (ds' :=(ab a0 ++ ab a1)) rfl t0 dU rfl (e2 rfl rfl) (by kernel_rfl) rfl) fun v2 A1 c0 M1=>?_
 refine bk h fun k1 b1 h=>Bi (.bool k1) (bd 136) rfl (e1 rfl) (fun p q=>aX_c n (c0.hL0 hL q) (Aq (St.lend (α:=Ta) (L:=L) c0 .hd (AE (cs:=(ab a0 ++ ab a1)) (xs:=(([a0,a1]:List Ta):List Ta)) c0 L (Aw (cs:=(ab a0)) (ds:=(ab a1)) (br a0.fN a0.fD) (Aw (cs:=(ab a1)) (ds:=[]) (br a1.fN a1.fD) (AK _ _)))) hL) q) b1) rfl<|Ab (Bp rfl)<|Aa<|BW rfl h (fun H0 h=>?_) (fun H0 h=>?_)
 refine Ar<|Ai<|du 6 fun b0 j0=>Rv 0 b0 rfl j0 (fun _=>Ak rfl)<|Rx 1 244 b0 rfl j0 (AF rfl (c0.memA .t3))<|Rx 3 240 b0 rfl j0 (AF rfl (c0.memA .t2))<|bk h fun p1 c1 h=>Bl 2 15 b0 rfl .plain (bd 110) rfl (e1 rfl) (fun p q=>aJ_c n (c0.hL hL q) a0 c1) rfl fun x2 b2 Q0 ⟨W1,X1,hu_,V0,W0⟩=>?_
 subst hu_
 obtain ⟨y0,P1⟩:=c0.agr Q0
 refine bk h fun q1 d1 h=>Bl 4 31 b0 rfl .plain (bd 110) rfl (e1 rfl) (fun p q=>aJ_c n (y0.hL hL q) a1 d1) rfl fun y2 c2 R0 ⟨Y1,Z1,hu_,X0,Y0⟩=>?_
 subst hu_
 obtain ⟨z0,C0⟩:=y0.agr R0
 refine bk h fun d0 g1 h=>Bl 5 63 b0 rfl .plain (bd 159) rfl (e2 rfl rfl) (fun p q=>dz_c n (z0.hL hL q) p1 (Aq (Am V0 C0) q) (Aq (Am W0 C0) q) q1 (Aq X0 q) (Aq Y0 q) g1) rfl fun z2 d2 U0 ⟨u0,v0,hu_,F0,G0⟩=>?_
 subst hu_
 obtain ⟨P0,Q1⟩:=z0.agr U0
 refine Bz 6 127 b0 rfl rfl .plain (Ay (news:=[.bool d0.fB.fe,u0,.bool d0.ft.fe,v0]) P0 .t1 rfl rfl rfl rfl rfl rfl (o4 rfl (AP F0) rfl (AP G0))) fun A2 g0 D0=>Rv 7 b0 rfl j0 (fun _=>Bh rfl)<|AM (dk b0)<|Al rfl<|Ap (u:=.tuple #[.agg #[.bool d0.fB.fe,u0,.bool d0.ft.fe,v0],vI 0]) E0 func93 rfl (.cons (.many (cs:=[.bool d0.fB.fe,u0,.bool d0.ft.fe,v0]) rfl rfl (g0.memA .t1)) (.cons (.tmp rfl) .nil)) rfl<|Ab (Ah rfl rfl)<|Ab (Ah rfl rfl)<|bk h fun p0 j1 h=>Bi (.tuple #[.agg ((ab p0.1)).toArray,vI p0.2]) (bd 92) rfl (e2 rfl rfl) (fun p q=>ba_c n (g0.hL0 hL q) d0 (g0.kd (Am F0 D0) q) (g0.kd (Am G0 D0) q) j1) rfl<|Ab (Ah rfl rfl)<|Ab (Ah rfl rfl)<|AQ (ab p0.1) g0 .t4 (ai rfl) fun B2 A0 R1=>Af rfl<|Aa<|Al rfl<|Ap hb0 func121 rfl (.cons (.many (cs:=(ab p0.1)) rfl rfl (A0.memA .t4)) (.cons (.tmp rfl) .nil)) rfl ?_
 cases h
 exact A0.gv
 refine Ac<|RG.nl [.bool false,vN,.bool false,vN] c0 fun C2 B1 B0 U1=>Aa<|Ac<|Ab (AF rfl (B0.memA .hd))<|AQ [.bool false,vN,.bool false,vN] B0 .t2 (ai rfl) fun D2 q0 D1=>Af rfl<|Aa<|Al rfl<|Ap (u:=.tuple #[.agg #[.bool false,vN,.bool false,vN],vI 20]) E0 func93 rfl (.cons (.many (cs:=[.bool false,vN,.bool false,vN]) rfl rfl (q0.memA .t2)) (.cons (.tmp rfl) .nil)) rfl<|Ab (Ah rfl rfl)<|Ab (Ah rfl rfl)<|bk h fun k0 Z0 h=>Bi (.tuple #[.agg ((ab k0.1)).toArray,vI k0.2]) (bd 92) rfl (e2 rfl rfl) (fun p q=>ba_c n (q0.hL0 hL q) (⟨(⟨false,([]:List UInt64)⟩:Th),(⟨false,([]:List UInt64)⟩:Th)⟩:Tg) (Aq (Rep.nilSlice _ _) q) (Aq (Rep.nilSlice _ _) q) Z0) rfl<|Ab (Ah rfl rfl)<|Ab (Ah rfl rfl)<|AQ (ab k0.1) q0 .t5 (ai rfl) fun g2 x0 E1=>Af rfl<|Aa<|Al rfl<|Ap hb0 func121 rfl (.cons (.many (cs:=(ab k0.1)) rfl rfl (x0.memA .t5)) (.cons (.tmp rfl) .nil)) rfl ?_
 cases h
 exact x0.gv
def aP_p (n:Nat) (a0:Ta) (a1:Ta):Option (Except Te Ta):=
  (dS_p n a0 a1).bind fun b0=>(ae_p n b0.1 b0.2).bind fun d0=>exc d0 (fun g0=>some (.ok g0)) (fun c0=>some (.error c0))
theorem aP_c (n:Nat) {L w} (hL:hl L w) (a0:Ta) (a1:Ta)  {r:Except Te Ta} (h:aP_p n a0 a1 = some r) :
 Cl 72 #[.agg ((ab a0)).toArray,.agg ((ab a1)).toArray] w (aK w (fun (y:Ta) _ u=>u = .agg ((ab y)).toArray) (fun e=>.iface 145 (.agg #[vI e.fE])) r):=by
 unfold aP_p at h
 refine BO func72 rfl rfl rfl fun _ cs0 hb0 hp0=>Ac<|RG.bx (Az w) rfl rfl fun E0 u0 k0 z0=>RG.bx k0 rfl rfl fun F0 v0 p0 A0=>RG.nl zL p0 fun G0 x0 b0 B0=>Aa<|Ac<|Ab (AF rfl (b0.memA .t2))<|Ab (AF rfl (b0.memA .t1))<|bk h fun c0 t0 h=>Bi (.tuple #[.agg ((ab c0.1)).toArray,vI c0.2]) (bd 121) rfl (e2 rfl rfl) (fun p q=>dS_c n (b0.hL0 hL q) a0 a1 t0) rfl<|Ab (Ah rfl rfl)<|Ab (Ah rfl rfl)<|xk h (fun y0 d0 h=>?_) (fun g0 d0 h=>?_)
 refine BC (fst:=[]) (cap:=[]) .plain (bd 48) rfl (e2 rfl rfl) (fun p q=>ae_c n (b0.hL0 hL q) c0.1 d0) fun H0 s0=>?_
 obtain ⟨q0,C0⟩:=b0.agr s0
 cases h
 exact AZ hp0 func72 ⟨q0.ag,rfl⟩
 refine Bi (.agg ((ab g0)).toArray) (bd 48) rfl (e2 rfl rfl) (fun p q=>AV (ae_c n (b0.hL0 hL q) c0.1 d0)) rfl<|AQ (ab g0) b0 .hd (ai rfl) fun I0 j0 D0=>Aa<|Al rfl<|Ap hb0 func72 rfl (.cons (.many (cs:=(ab g0)) rfl rfl (j0.memA .hd)) .nil) rfl ?_
 cases h
 exact ⟨j0.ag,fun p q=>aC rfl⟩
end Go.Proofs.YtdolpanbfpjnmaaGreatDoor
