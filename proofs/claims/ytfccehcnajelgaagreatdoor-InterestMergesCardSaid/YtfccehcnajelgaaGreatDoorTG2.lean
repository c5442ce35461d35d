/- Functions of the program, and what they give: part 2. -/
import Derived.Test.YtfccehcnajelgaaGreatDoorTG1
namespace Go.Proofs.YtfccehcnajelgaaGreatDoor
open Go Go.RowKit
set_option maxRecDepth 4000
set_option maxHeartbeats 4000000

def tb139_1:List (Nat × Nat × Nat):=[(0,512,4),(1,1024,512),(0,2048,8),(4,4096,2048),(3,32,1024),(31,64,4096)]
theorem body172:bodyB Tryz.prog 172 = true:=by kernel_rfl
def wide_Long_Common_l1 (n:Nat) (d0:(List UInt64) × (List UInt64) → Option (List UInt64)):(List UInt64) × (List UInt64) → Option (List UInt64)
  | (c0,b0)=>(if 0 < b0.length then (wide_divided_p n c0 b0).bind fun g0=>d0 (b0,g0.2) else some c0)
def wide_Long_Common_p (n:Nat) (a0:TLong) (a1:TLong):Option TLong:=
  Option.bind (loopF (wide_Long_Common_l1 n) n (a0.fm,a1.fm)) (fun b0=>some (⟨false,b0⟩:TLong))
theorem wide_Long_Common_c (n:Nat) (L:List Nat) (w:World) (hL:∀ b ∈ L,b < w.heap.size) (a0:TLong) {v0_1:Value} (h0_1:Rep.R w L [v0_1] a0.fm) (a1:TLong) {v1_1:Value} (h1_1:Rep.R w L [v1_1] a1.fm)  {r:TLong} (h:wide_Long_Common_p n a0 a1 = some r) :
    Calls Tryz.prog 139 #[.agg #[.bool a0.fj,v0_1],.agg #[.bool a1.fj,v1_1]] w (Gives w fun w' u=>∃ v0_1:Value,u = .agg #[.bool r.fj,v0_1]∧Rep.R w' L [v0_1] r.fm):=by
 unfold wide_Long_Common_p at h
 have hS0:=AA w
 refine AC Tryz.func139 rfl rfl rfl (fun _ cs0 hb0=>?_)
 refine Ae<|Al .plain rfl (Ax hS0 rfl rfl) (fun y1 c1 C0 j1=>?_)
 refine Al .plain rfl (Ax C0 rfl rfl) (fun z1 d1 D0 k1=>?_)
 refine Al .plain rfl (AD [.bool false,vN] D0) (fun X0 g0 u0 p1=>?_)
 refine Aa<|Aj<|dt 6 tb139_1 (fun d0 j0=>?_)
 refine Ah 0 1 d0 rfl j0 (fun _=>Bj 1 rfl) rfl<|AE 1 3 48 d0 rfl j0 (AH rfl ((u0.memA (.tl (.tl .hd))) 1 _ rfl)) rfl<|Ah 2 7 d0 rfl j0 (fun _=>Bj 1 rfl) rfl<|AE 3 15 32 d0 rfl j0 (AH rfl ((u0.memA (.tl .hd)) 1 _ rfl)) rfl<|Ah 4 31 d0 rfl j0 (fun _=>AX rfl) rfl<|Ah 5 63 d0 rfl j0 (fun _=>AX rfl) rfl<|AK (dk d0)<|Aj<|Ar ?_
 obtain ⟨v0,q1⟩:=AJ u0 (.one .hd .done)
 have J0:=AI h0_1 v0
 have K0:=AI h1_1 v0
 obtain ⟨u1,Q0,I0⟩:=bind_in2 h
 refine Bc (α:=(List UInt64) × (List UInt64) × Value × Value) (fun ⟨p0,c0,b0,k0⟩=>[(4,vP g0),(5,b0),(6,k0)]) (fun ⟨p0,c0,b0,k0⟩ q0=>St w q0 [.cells g0 [.bool false,vN] 122]∧Tr X0 [.cells g0 [.bool false,vN] 122] q0 [.cells g0 [.bool false,vN] 122]∧Rep.R q0 (bl [.cells g0 [.bool false,vN] 122] ++ L) [b0] p0∧Rep.R q0 (bl [.cells g0 [.bool false,vN] 122] ++ L) [k0] c0) (fun ⟨p0,c0,b0,k0⟩=>(p0,c0)) (a0.fm,a1.fm,v0_1,v1_1) Q0 ⟨rfl,rfl,rfl,trivial⟩ ⟨v0,AP _ _,J0,K0⟩ ?_
 rintro b1 ⟨p0,c0,b0,k0⟩ q0 B0 ⟨x0,F0,s0,t0⟩ h
 unfold wide_Long_Common_l1 at h
 try dsimp only at h
 refine Aj<|Ae<|Ac rfl ?_
 have s1:c0.length ≤ 281474976710656:=AR t0
 refine Ab (AZ (xs:=c0) Tryz.underlying75 rfl t0)<|Ab (FV.gtrN (i:=c0.length) (j:=0) rfl rfl)<|Aa<|AO rfl h (fun A0 h=>?_) (fun A0 h=>?_)
 refine Ap<|Ar<|Ae<|Ac rfl<|Ac rfl ?_
 obtain ⟨Y0,V0,h⟩:=bi h
 refine Bm (fst:=[]) (cap:=[]) .plain body172 rfl (e2 rfl rfl) (fun w9 hw9=>wide_divided_c n _ w9 (x0.hL hL hw9) p0 (Aw s0 hw9) c0 (Aw t0 hw9) V0) rfl (fun A1 x1 H0 ⟨v1,W0,hu_,t1,R0⟩=>?_)
 subst hu_
 obtain ⟨E0,z0⟩:=x0.agr H0
 refine Ac rfl<|Ab (Ag rfl rfl)<|Ab (Ag rfl rfl)<|Af rfl<|Af rfl<|Aa<|Am<|Ac rfl<|Ac rfl<|Af rfl<|Af rfl<|Aa<|Av ?_
 have M0:=Ay t0 z0
 exact B0 (c0,Y0.2,k0,W0) _ _ ⟨rfl,rfl,rfl,trivial⟩ ⟨E0,(Tt F0 z0),M0,R0⟩ h
 refine AU rfl ?_
 have h:=I0 _ h
 try dsimp only at h
 refine Ae<|Ac rfl ?_
 obtain ⟨Z0,g1,U0,_⟩:=Rep.sl s0
 refine Ab (AW (vs:=[b0]) (u:=.agg #[.bool false,b0]) (e1 rfl) (fun w9=>by rw [U0]; try kernel_rfl))<|AY [.bool false,b0] x0 .hd (o2 rfl (Bh s0)) (fun B1 y0 G0=>?_)
 refine Aa<|Ak rfl<|Ao hb0 Tryz.func139 rfl (.cons (.many (cs:=[.bool false,b0]) (by kernel_rfl) rfl (y0.memA .hd)) .nil) rfl ?_
 cases h
 have P0:=Ay s0 G0
 exact ⟨y0.ag,fun w9 hw9=>⟨b0,rfl,y0.kd P0 hw9⟩⟩
def wide_added_l1 (_n:Nat) (xs4:List UInt64) (xs7:List UInt64) (k0:UInt64 × Nat × (List UInt64) → Option ((List UInt64) × UInt64)):UInt64 × Nat × (List UInt64) → Option ((List UInt64) × UInt64)
  | (g0,b0,c0)=>(if b0 < xs4.length then (xs4[b0]?).bind fun q0=>jn (fun p0=>(add64 q0 p0 g0).bind fun j0=>(c0[b0]?).bind fun _x199=>(put c0 ((b0:Nat):Int) j0.1).bind fun t0=>k0 (j0.2,b0 + 1,t0)) (fun d0=>(if b0 < xs7.length then (xs7[b0]?).bind fun s0=>d0 s0 else d0 (0:UInt64))) else some (c0,g0))
def wide_added_p (n:Nat) (a0:List UInt64) (a1:List UInt64):Option (List UInt64):=
  jn (fun (xs4,xs7)=>(mk ((xs4.length + 1:Nat):Int) (0:UInt64)).bind fun g0=>Option.bind (loopF (wide_added_l1 n xs4 xs7) n ((0:UInt64),0,g0)) (fun (c0,d0)=>(c0[xs4.length]?).bind fun _x229=>(put c0 ((xs4.length:Nat):Int) d0).bind fun j0=>some j0)) (fun b0=>(if a0.length < a1.length then b0 (a1,a0) else b0 (a0,a1)))
theorem wide_added_c (n:Nat) (L:List Nat) (w:World) (hL:∀ b ∈ L,b < w.heap.size) (a0:List UInt64) {v0_0:Value} (h0_0:Rep.R w L [v0_0] a0) (a1:List UInt64) {v1_0:Value} (h1_0:Rep.R w L [v1_0] a1)  {r:List UInt64} (h:wide_added_p n a0 a1 = some r) :
    Calls Tryz.prog 144 #[v0_0,v1_0] w (Gives w fun w' u=>∃ v0_0:Value,u = v0_0∧Rep.R w' L [v0_0] r):=by
 unfold wide_added_p at h
 have hS0:=AA w
 refine AC Tryz.func144 rfl rfl rfl (fun _ cs0 hb0=>?_)
 refine Ae<|Af rfl<|Aa<|Aj<|Ae<|Ac rfl ?_
 have hl1:a0.length ≤ 281474976710656:=AR h0_0
 refine Ab (AZ (xs:=a0) Tryz.underlying75 rfl h0_0)<|Ac rfl ?_
 have hl2:a1.length ≤ 281474976710656:=AR h1_0
 refine Ab (AZ (xs:=a1) Tryz.underlying75 rfl h1_0)<|Ab (Bd (i:=a0.length) (j:=a1.length) rfl rfl)<|Aa<|MX.join (α:=(List UInt64) × (List UInt64) × Value × Value) (fun ⟨xs4,xs7,v5,v8⟩=>[(0,v5),(1,v8)]) (fun ⟨xs4,xs7,v5,v8⟩ wx9=>St w wx9 []∧Tr w [] wx9 []∧Rep.R wx9 (bl [] ++ L) [v5] xs4∧Rep.R wx9 (bl [] ++ L) [v8] xs7) (fun ⟨xs4,xs7,v5,v8⟩=>(xs4,xs7)) h ?_ ?_
 rintro ⟨xs4,xs7,v5,v8⟩ wx9 ⟨s1,K2,hr6,hr9⟩ h
 try dsimp only at h
 refine Ae<|Ac rfl ?_
 have Q2:xs4.length ≤ 281474976710656:=AR hr6
 refine Ab (AZ (xs:=xs4) Tryz.underlying75 rfl hr6)<|Ab (Bi (i:=xs4.length) (j:=1) rfl rfl (by omega)) ?_
 obtain ⟨E0,R0,h⟩:=bi h
 refine Al .plain rfl (Does.mk (α:=UInt64) R0 s1 el75 rfl) (fun q2 c0 H0 t0=>?_)
 have y1:=AB (cs:=(List.replicate ((xs4.length + 1:Nat):Int).toNat [vW 0]).flatten) (xs:=E0) H0 L (Cells.mk R0 rfl)
 refine Af rfl<|Aa<|Ae<|Af rfl<|Aa<|Aj<|Ae<|Ac rfl ?_
 have Q1:=Ay hr6 t0
 refine Ab (AZ (xs:=xs4) Tryz.underlying75 rfl Q1)<|Ac rfl<|Aa<|Ar ?_
 obtain ⟨W2,R1,G1⟩:=bind_in2 h
 refine Bc (α:=UInt64 × Nat × (List UInt64) × (List Value)) (fun ⟨j0,b0,d0,g0⟩=>[(0,v5),(1,v8),(5,(.slice (some ⟨c0,0,none⟩) ((xs4.length + 1:Nat):Int).toNat ((xs4.length + 1:Nat):Int).toNat)),(6,vU j0),(21,v5),(22,vI ((xs4.length:Nat):Int)),(23,vI ((b0:Nat):Int))]) (fun ⟨j0,b0,d0,g0⟩ q0=>St w q0 [.row w.heap.size 28 (Rep.size UInt64) (.slice (some ⟨c0,0,none⟩) ((xs4.length + 1:Nat):Int).toNat ((xs4.length + 1:Nat):Int).toNat) d0.length g0]∧Tr q2 [.row w.heap.size 28 (Rep.size UInt64) (.slice (some ⟨c0,0,none⟩) ((xs4.length + 1:Nat):Int).toNat ((xs4.length + 1:Nat):Int).toNat) E0.length ((List.replicate ((xs4.length + 1:Nat):Int).toNat [vW 0]).flatten)] q0 [.row w.heap.size 28 (Rep.size UInt64) (.slice (some ⟨c0,0,none⟩) ((xs4.length + 1:Nat):Int).toNat ((xs4.length + 1:Nat):Int).toNat) d0.length g0]∧Cells q0 (bl [.row w.heap.size 28 (Rep.size UInt64) (.slice (some ⟨c0,0,none⟩) ((xs4.length + 1:Nat):Int).toNat ((xs4.length + 1:Nat):Int).toNat) d0.length g0] ++ L) g0 d0) (fun ⟨j0,b0,d0,g0⟩=>(j0,b0,d0)) ((0:UInt64),0,E0,(List.replicate ((xs4.length + 1:Nat):Int).toNat [vW 0]).flatten) R1 ⟨rfl,rfl,rfl,rfl,rfl,rfl,rfl,trivial⟩ ⟨H0,AP _ _,y1⟩ ?_
 rintro B2 ⟨j0,b0,d0,g0⟩ q0 q1 ⟨p0,s0,y0⟩ h
 unfold wide_added_l1 at h
 try dsimp only at h
 refine Ae<|Ab (Bd (i:=b0) (j:=xs4.length) rfl rfl)<|Aa<|Aj<|AO rfl h (fun Z0 h=>?_) (fun Z0 h=>?_)
 refine Ap<|Aj<|Ar<|Ae<|Ac rfl ?_
 obtain ⟨D0,b2,h⟩:=bi h
 have K1:=Ay hr6 (Tt t0 s0)
 obtain ⟨y2,D2,A1,H1,d1,U1,J1⟩:=Bk K1 b2
 have B1:d1 = [vU D0]:=U1; subst B1
 refine Ab (Bn 1 b0 rfl A1 rfl rfl H1)<|Ba rfl (J1 0 _ rfl)<|Af rfl<|Af rfl<|Aa<|Ae<|Af rfl<|Aa<|Aj<|Ae<|Ac rfl<|Ac rfl ?_
 have B0:=Ay hr9 (Tt t0 s0)
 have R2:xs7.length ≤ 281474976710656:=AR B0
 refine Ab (AZ (xs:=xs7) Tryz.underlying75 rfl B0)<|Ab (Bd (i:=b0) (j:=xs7.length) rfl rfl)<|Aa<|MX.join (α:=UInt64) (fun k0=>[(0,v5),(1,v8),(5,(.slice (some ⟨c0,0,none⟩) ((xs4.length + 1:Nat):Int).toNat ((xs4.length + 1:Nat):Int).toNat)),(6,vU j0),(21,v5),(22,vI ((xs4.length:Nat):Int)),(23,vI ((b0:Nat):Int)),(7,vI ((b0:Nat):Int)),(8,vU D0),(9,vU k0)]) (fun k0 C0=>St w C0 [.row w.heap.size 28 (Rep.size UInt64) (.slice (some ⟨c0,0,none⟩) ((xs4.length + 1:Nat):Int).toNat ((xs4.length + 1:Nat):Int).toNat) d0.length g0]∧Tr q0 [.row w.heap.size 28 (Rep.size UInt64) (.slice (some ⟨c0,0,none⟩) ((xs4.length + 1:Nat):Int).toNat ((xs4.length + 1:Nat):Int).toNat) d0.length g0] C0 [.row w.heap.size 28 (Rep.size UInt64) (.slice (some ⟨c0,0,none⟩) ((xs4.length + 1:Nat):Int).toNat ((xs4.length + 1:Nat):Int).toNat) d0.length g0]) (fun k0=>k0) h ?_ ?_
 rintro k0 C0 ⟨u0,I0⟩ h
 try dsimp only at h
 refine Am<|Ac rfl<|Ac rfl<|Ac rfl<|Ac rfl<|Ac rfl ?_
 obtain ⟨x2,p2,h⟩:=bi h
 refine Ab (FV.add64 (a:=D0) (b:=k0) (c:=j0) Tryz.func173 rfl (by kernel_rfl) (by kernel_rfl) (by kernel_rfl) rfl rfl rfl p2)<|Ac rfl<|Ab (Ag rfl rfl)<|Ab (Ag rfl rfl) ?_
 obtain ⟨s2,c2,h⟩:=bi h
 have Q0:=AF y0 I0
 obtain ⟨V0,E2,z0,M0,g1,V1,U2⟩:=St.nth (α:=UInt64) u0 .hd Q0 c2
 obtain ⟨X0,F2,J0⟩:=St.nthOwn (α:=UInt64) u0 .hd M0
 obtain rfl:V0 = ⟨X0,0,none⟩:=by rw [J0] at z0; cases z0; rfl
 have C1:g1 = [vU s2]:=V1; subst C1
 refine Ab (Bn 1 b0 rfl z0 rfl rfl M0) ?_
 obtain ⟨u2,j2,h⟩:=bi h
 refine RG.acts' .plain (Acts.set (α:=UInt64) (i:=b0) j2 u0 J0 (fun _=>.hd) Q0 rfl rfl rfl rfl rfl (by kernel_rfl)) (fun X2 ⟨j1,u1,v1,x1⟩=>?_)
 refine Af rfl<|Aa<|Av<|Am<|Ab (Bi (i:=b0) (j:=1) rfl rfl (by omega))<|Ac rfl<|Aa ?_
 exact q1 (x2.2,b0 + 1,u2,j1) _ _ ⟨rfl,rfl,rfl,rfl,rfl,rfl,rfl,trivial⟩ ⟨u1,(Tt s0 (Tt I0 v1)),x1⟩ h
 intro C2 G0 h
 try dsimp only at h
 refine AO rfl h (fun b1 h=>?_) (fun b1 h=>?_)
 refine Am<|Ac rfl<|Ac rfl ?_
 obtain ⟨U0,d2,h⟩:=bi h
 obtain ⟨z2,G2,D1,I1,k1,W1,M1⟩:=Bk B0 d2
 have E1:k1 = [vU U0]:=W1; subst E1
 refine Ab (Bn 1 b0 rfl D1 rfl rfl I1)<|Ba rfl (M1 0 _ rfl)<|Af rfl<|Aa ?_
 exact G0 U0 _ _ ⟨rfl,rfl,rfl,rfl,rfl,rfl,rfl,rfl,rfl,rfl,trivial⟩ ⟨p0,AP _ _⟩ h
 refine Ap ?_
 exact G0 (0:UInt64) _ _ ⟨rfl,rfl,rfl,rfl,rfl,rfl,rfl,rfl,rfl,rfl,trivial⟩ ⟨p0,AP _ _⟩ h
 refine AU rfl ?_
 have h:=G1 _ h
 try dsimp only at h
 refine Ae<|Ac rfl<|Ac rfl ?_
 have P1:=Ay hr6 (Tt t0 s0)
 refine Ab (AZ (xs:=xs4) Tryz.underlying75 rfl P1)<|Ac rfl ?_
 obtain ⟨t2,g2,h⟩:=bi h
 obtain ⟨W0,H2,A0,P0,p1,X1,V2⟩:=St.nth (α:=UInt64) p0 .hd y0 g2
 obtain ⟨Y0,I2,K0⟩:=St.nthOwn (α:=UInt64) p0 .hd P0
 obtain rfl:W0 = ⟨Y0,0,none⟩:=by rw [K0] at A0; cases A0; rfl
 have F1:p1 = [vU t2]:=X1; subst F1
 refine Ab (Bn 1 (xs4.length) rfl A0 rfl rfl P0) ?_
 obtain ⟨v2,k2,h⟩:=bi h
 refine RG.acts' .plain (Acts.set (α:=UInt64) (i:=xs4.length) k2 p0 K0 (fun _=>.hd) y0 rfl rfl rfl rfl rfl (by kernel_rfl)) (fun Y2 ⟨J2,v0,M2,z1⟩=>?_)
 refine Aa<|Ae<|Ac rfl<|Af rfl<|Aa<|Ak rfl ?_
 have Y1:=Bu (α:=UInt64) v0 .hd z1 hL
 have x0:=St.delS v0 .hd
 have P2:=St.delT v0 .hd
 have Z1:=Rep.at_ (α:=UInt64) (v:=(.slice (some ⟨c0,0,none⟩) ((xs4.length + 1:Nat):Int).toNat ((xs4.length + 1:Nat):Int).toNat)) (xs:=v2) x0 L Y1
 refine AQ hb0 Tryz.func144 rfl rfl ?_
 cases h
 exact ⟨x0.ag,fun w9 hw9=>⟨(.slice (some ⟨c0,0,none⟩) ((xs4.length + 1:Nat):Int).toNat ((xs4.length + 1:Nat):Int).toNat),rfl,x0.kd Z1 hw9⟩⟩
 intro A2 F0 h
 try dsimp only at h
 refine AO rfl h (fun c1 h=>?_) (fun c1 h=>?_)
 refine Am<|Ac rfl<|Ac rfl<|Af rfl<|Af rfl<|Aa ?_
 exact F0 (a1,a0,v1_0,v0_0) _ _ ⟨rfl,rfl,trivial⟩ ⟨hS0,AP _ _,h1_0,h0_0⟩ h
 refine Ap ?_
 exact F0 (a0,a1,v0_0,v1_0) _ _ ⟨rfl,rfl,trivial⟩ ⟨hS0,AP _ _,h0_0,h1_0⟩ h
def tb103_2:List (Nat × Nat × Nat):=[(0,1024,4),(1,2048,1024),(0,4096,4),(4,8192,4096),(0,16384,8),(16,32768,16384),(40,65536,40960),(66,131072,67584),(255,0,131088)]
def tb103_5:List (Nat × Nat × Nat):=[(0,67108864,4),(1,134217728,67108864),(0,268435456,4),(4,536870912,268435456),(0,1073741824,8),(16,2147483648,1073741824),(40,4294967296,2684354560),(66,8589934592,4429185024),(255,0,8589934608)]
theorem body144:bodyB Tryz.prog 144 = true:=by kernel_rfl
def wide_Long_Plus_p (n:Nat) (a0:TLong) (a1:TLong):Option TLong:=
  (if (a0.fj == a1.fj) = true then (wide_added_p n a0.fm a1.fm).bind fun j0=>(wide_trimmed_p n a0.fj j0).bind fun k0=>some k0 else (wide_compared_p n a0.fm a1.fm).bind fun p0=>jn (fun (_q58,d0,c0,g0)=>(wide_taken_p n g0 d0).bind fun q0=>(wide_trimmed_p n c0 q0).bind fun s0=>some s0) (fun b0=>(if p0 < 0 then b0 (a0.fj,a0.fm,a1.fj,a1.fm) else b0 (a1.fj,a1.fm,a0.fj,a0.fm))))
theorem wide_Long_Plus_c (n:Nat) (L:List Nat) (w:World) (hL:∀ b ∈ L,b < w.heap.size) (a0:TLong) {v0_1:Value} (h0_1:Rep.R w L [v0_1] a0.fm) (a1:TLong) {v1_1:Value} (h1_1:Rep.R w L [v1_1] a1.fm)  {r:TLong} (h:wide_Long_Plus_p n a0 a1 = some r) :
    Calls Tryz.prog 103 #[.agg #[.bool a0.fj,v0_1],.agg #[.bool a1.fj,v1_1]] w (Gives w fun w' u=>∃ v0_1:Value,u = .agg #[.bool r.fj,v0_1]∧Rep.R w' L [v0_1] r.fm):=by
 unfold wide_Long_Plus_p at h
 have hS0:=AA w
 refine AC Tryz.func103 rfl rfl rfl (fun _ cs0 hb0=>?_)
 refine Ae<|Al .plain rfl (Ax hS0 rfl rfl) (fun s2 s0 X0 U1=>?_)
 refine Al .plain rfl (Ax X0 rfl rfl) (fun t2 t0 Y0 V1=>?_)
 refine Al .plain rfl (AD [.bool false,vN] Y0) (fun M1 u0 b0 W1=>?_)
 refine Aa<|Aj<|Ae<|Be 0 rfl<|Ba rfl ((b0.memA (.tl (.tl .hd))) 0 _ rfl)<|Be 0 rfl<|Ba rfl ((b0.memA (.tl .hd)) 0 _ rfl)<|Ab (FV.eqlB (a:=a0.fj) (b:=a1.fj) Tryz.underlying4 rfl rfl)<|Aa<|MX.ifb rfl h (fun V0 h=>?_) (fun V0 h=>?_)
 refine Aj<|dt 8 tb103_2 (fun c0 v0=>?_)
 refine Ah 0 1 c0 rfl v0 (fun _=>Bj 0 rfl) rfl<|AE 1 3 384 c0 rfl v0 (AH rfl ((b0.memA (.tl (.tl .hd))) 0 _ rfl)) rfl<|Ah 2 7 c0 rfl v0 (fun _=>Bj 1 rfl) rfl<|AE 3 15 448 c0 rfl v0 (AH rfl ((b0.memA (.tl (.tl .hd))) 1 _ rfl)) rfl<|Ah 4 31 c0 rfl v0 (fun _=>Bj 1 rfl) rfl<|AE 5 63 448 c0 rfl v0 (AH rfl ((b0.memA (.tl .hd)) 1 _ rfl)) rfl ?_
 obtain ⟨P1,G1,h⟩:=bi h
 refine BC 6 127 c0 rfl .plain body144 rfl (e2 rfl rfl) (fun w9 hw9=>wide_added_c n _ w9 (b0.hL hL hw9) a0.fm (b0.km h0_1 hw9) a1.fm (b0.km h1_1 hw9) G1) rfl (fun u2 j2 k1 ⟨d2,hu_,C1⟩=>?_)
 subst hu_
 obtain ⟨I0,X1⟩:=b0.agr k1
 obtain ⟨Q0,H1,h⟩:=bi h
 refine BC 7 255 c0 rfl .plain body142 rfl (e2 rfl rfl) (fun w9 hw9=>wide_trimmed_c n _ w9 (I0.hL hL hw9) a0.fj P1 (Aw C1 hw9) H1) rfl (fun v2 k2 p1 ⟨F0,hu_,M0⟩=>?_)
 subst hu_
 obtain ⟨Z0,Y1⟩:=I0.agr p1
 refine By 8 511 c0 rfl rfl .plain (Az (news:=[.bool Q0.fj,F0]) Z0 .hd rfl rfl rfl rfl rfl rfl (o2 rfl (Bh M0))) (fun x2 D0 d1=>?_)
 refine AK (dk c0)<|Ak rfl<|Ao hb0 Tryz.func103 rfl (.cons (.many (cs:=[.bool Q0.fj,F0]) (by kernel_rfl) rfl (D0.memA .hd)) .nil) rfl ?_
 cases h
 have y1:=Ay M0 d1
 exact ⟨D0.ag,fun w9 hw9=>⟨F0,rfl,D0.kd y1 hw9⟩⟩
 refine Ap<|Aj<|Ae<|Be 1 rfl<|Ba rfl ((b0.memA (.tl (.tl .hd))) 1 _ rfl)<|Be 1 rfl<|Ba rfl ((b0.memA (.tl .hd)) 1 _ rfl) ?_
 obtain ⟨R0,I1,h⟩:=bi h
 refine Bb (vI R0) body145 rfl (e2 rfl rfl) (fun w9 hw9=>wide_compared_c n _ w9 (b0.hL0 hL hw9) a0.fm (b0.k0 h0_1 hw9) a1.fm (b0.k0 h1_1 hw9) I1) rfl<|Ab (FV.lss (i:=R0) (j:=0) rfl rfl)<|Aa<|MX.join (α:=Bool × (List UInt64) × Bool × (List UInt64) × Value × Value) (fun ⟨j0,y0,g0,z0,p0,q0⟩=>[(2,vP s0),(3,vP t0),(4,vP u0)]) (fun ⟨j0,y0,g0,z0,p0,q0⟩ B0=>St w B0 [.cells u0 [.bool false,vN] 122,.cells t0 [.bool j0,p0] 122,.cells s0 [.bool g0,q0] 122]∧Tr M1 [.cells u0 [.bool false,vN] 122,.cells t0 [.bool a1.fj,v1_1] 122,.cells s0 [.bool a0.fj,v0_1] 122] B0 [.cells u0 [.bool false,vN] 122,.cells t0 [.bool j0,p0] 122,.cells s0 [.bool g0,q0] 122]∧Rep.R B0 (bl [.cells u0 [.bool false,vN] 122,.cells t0 [.bool j0,p0] 122,.cells s0 [.bool g0,q0] 122] ++ L) [p0] y0∧Rep.R B0 (bl [.cells u0 [.bool false,vN] 122,.cells t0 [.bool j0,p0] 122,.cells s0 [.bool g0,q0] 122] ++ L) [q0] z0) (fun ⟨j0,y0,g0,z0,p0,q0⟩=>(j0,y0,g0,z0)) h ?_ ?_
 rintro ⟨j0,y0,g0,z0,p0,q0⟩ B0 ⟨A0,Z1,D1,E1⟩ h
 try dsimp only at h
 refine Aj<|dt 8 tb103_5 (fun d0 x0=>?_)
 refine Ah 0 1 d0 rfl x0 (fun _=>Bj 0 rfl) rfl<|AE 1 3 384 d0 rfl x0 (AH rfl ((A0.memA (.tl (.tl .hd))) 0 _ rfl)) rfl<|Ah 2 7 d0 rfl x0 (fun _=>Bj 1 rfl) rfl<|AE 3 15 448 d0 rfl x0 (AH rfl ((A0.memA (.tl (.tl .hd))) 1 _ rfl)) rfl<|Ah 4 31 d0 rfl x0 (fun _=>Bj 1 rfl) rfl<|AE 5 63 448 d0 rfl x0 (AH rfl ((A0.memA (.tl .hd)) 1 _ rfl)) rfl ?_
 obtain ⟨Q1,J1,h⟩:=bi h
 refine BC 6 127 d0 rfl .plain body146 rfl (e2 rfl rfl) (fun w9 hw9=>wide_taken_c n _ w9 (A0.hL hL hw9) z0 (Aw E1 hw9) y0 (Aw D1 hw9) J1) rfl (fun y2 p2 q1 ⟨g2,hu_,F1⟩=>?_)
 subst hu_
 obtain ⟨J0,b2⟩:=A0.agr q1
 obtain ⟨U0,K1,h⟩:=bi h
 refine BC 7 255 d0 rfl .plain body142 rfl (e2 rfl rfl) (fun w9 hw9=>wide_trimmed_c n _ w9 (J0.hL hL hw9) g0 Q1 (Aw F1 hw9) K1) rfl (fun z2 q2 s1 ⟨G0,hu_,P0⟩=>?_)
 subst hu_
 obtain ⟨b1,c2⟩:=J0.agr s1
 refine By 8 511 d0 rfl rfl .plain (Az (news:=[.bool U0.fj,G0]) b1 .hd rfl rfl rfl rfl rfl rfl (o2 rfl (Bh P0))) (fun A2 E0 g1=>?_)
 refine AK (dk d0)<|Ak rfl<|Ao hb0 Tryz.func103 rfl (.cons (.many (cs:=[.bool U0.fj,G0]) (by kernel_rfl) rfl (E0.memA .hd)) .nil) rfl ?_
 cases h
 have z1:=Ay P0 g1
 exact ⟨E0.ag,fun w9 hw9=>⟨G0,rfl,E0.kd z1 hw9⟩⟩
 intro R1 H0 h
 try dsimp only at h
 refine AO rfl h (fun W0 h=>?_) (fun W0 h=>?_)
 refine Am<|Ab (AG rfl (b0.memA (.tl .hd)))<|Ab (AG rfl (b0.memA (.tl (.tl .hd)))) ?_
 have A1:=AI h1_1 b0
 refine AY [.bool a1.fj,v1_1] b0 (.tl (.tl .hd)) (o2 rfl (Bh A1)) (fun B2 K0 j1=>?_)
 have B1:=AI h0_1 K0
 refine AY [.bool a0.fj,v0_1] K0 (.tl .hd) (o2 rfl (Bh B1)) (fun C2 C0 c1=>?_)
 refine Aa ?_
 have t1:=AI h0_1 C0
 have u1:=AI h1_1 C0
 exact H0 (a0.fj,a0.fm,a1.fj,a1.fm,v0_1,v1_1) _ _ ⟨rfl,rfl,rfl,trivial⟩ ⟨C0,(Tt j1 c1),t1,u1⟩ h
 refine Ap ?_
 have v1:=AI h1_1 b0
 have x1:=AI h0_1 b0
 exact H0 (a1.fj,a1.fm,a0.fj,a0.fm,v1_1,v0_1) _ _ ⟨rfl,rfl,rfl,trivial⟩ ⟨b0,AP _ _,v1,x1⟩ h
def tb140_2:List (Nat × Nat × Nat):=[(0,262144,4),(1,524288,262144),(0,1048576,8),(4,2097152,1048576),(10,4194304,2621440),(0,8388608,64),(48,16777216,12582912),(0,33554432,4),(128,67108864,33554432),(0,134217728,128),(832,268435456,201326592),(1151,0,16777232),(4095,0,268435488)]
def tb140_8:List (Nat × Nat × Nat):=[(0,35184372088832,16),(0,70368744177664,32),(1,0,35184372088848),(7,0,70368744177696)]
theorem body103:bodyB Tryz.prog 103 = true:=by kernel_rfl
def wide_Long_Parts_p (n:Nat) (a0:TLong) (a1:TLong):Option (TLong × TLong):=
  (wide_divided_p n a0.fm a1.fm).bind fun c0=>(wide_trimmed_p n (!(a0.fj == a1.fj)) c0.1).bind fun d0=>(wide_trimmed_p n a0.fj c0.2).bind fun b0=>(if b0.fj = true then (wide_Long_Plus_p n b0 (⟨false,a1.fm⟩:TLong)).bind fun j0=>(wide_Long_Plus_p n d0 (⟨(!a1.fj),([(1:UInt64)]:List UInt64)⟩:TLong)).bind fun g0=>some (g0,j0) else some (d0,b0))
theorem wide_Long_Parts_c (n:Nat) (L:List Nat) (w:World) (hL:∀ b ∈ L,b < w.heap.size) (a0:TLong) {v0_1:Value} (h0_1:Rep.R w L [v0_1] a0.fm) (a1:TLong) {v1_1:Value} (h1_1:Rep.R w L [v1_1] a1.fm)  {r:TLong × TLong} (h:wide_Long_Parts_p n a0 a1 = some r) :
    Calls Tryz.prog 140 #[.agg #[.bool a0.fj,v0_1],.agg #[.bool a1.fj,v1_1]] w (Gives w fun w' u=>∃ v0_1 v1_1:Value,u = .tuple #[.agg #[.bool r.1.fj,v0_1],.agg #[.bool r.2.fj,v1_1]]∧Rep.R w' L [v0_1] r.1.fm∧Rep.R w' L [v1_1] r.2.fm):=by
 unfold wide_Long_Parts_p at h
 have hS0:=AA w
 refine AC Tryz.func140 rfl rfl rfl (fun _ cs0 hb0=>?_)
 refine Ae<|Al .plain rfl (Ax hS0 rfl rfl) (fun b4 u1 Y1 H3=>?_)
 refine Al .plain rfl (Ax Y1 rfl rfl) (fun g4 v1 d2 I3=>?_)
 refine Al .plain rfl (AD [.bool false,vN] d2) (fun j4 d0 g2 J3=>?_)
 refine Al .plain rfl (AD [.bool false,vN] g2) (fun p4 g0 B0 K3=>?_)
 refine Aa<|Ae<|Be 1 rfl<|Ab (AH rfl ((B0.memA (.tl (.tl (.tl .hd)))) 1 _ rfl))<|Be 1 rfl<|Ba rfl ((B0.memA (.tl (.tl .hd))) 1 _ rfl) ?_
 obtain ⟨R1,x3,h⟩:=bi h
 refine Bm (fst:=[]) (cap:=[]) .plain body172 rfl (e2 rfl rfl) (fun w9 hw9=>wide_divided_c n _ w9 (B0.hL hL hw9) a0.fm (B0.km h0_1 hw9) a1.fm (B0.km h1_1 hw9) x3) rfl (fun q4 U3 D2 ⟨P3,Q3,hu_,s3,t3⟩=>?_)
 subst hu_
 obtain ⟨H0,M3⟩:=B0.agr D2
 refine Ac rfl<|Ab (Ag rfl rfl)<|Ab (Ag rfl rfl)<|Af rfl<|Af rfl<|Aa<|Aj<|dt 11 tb140_2 (fun b0 c0=>?_)
 refine Ah 0 1 b0 rfl c0 (fun _=>Bj 0 rfl) rfl<|AE 1 3 7248 b0 rfl c0 (AH rfl ((H0.memA (.tl (.tl (.tl .hd)))) 0 _ rfl)) rfl<|Ah 2 7 b0 rfl c0 (fun _=>Bj 0 rfl) rfl<|AE 3 15 7248 b0 rfl c0 (AH rfl ((H0.memA (.tl (.tl .hd))) 0 _ rfl)) rfl<|Ah 4 31 b0 rfl c0 (fun _=>FV.neqB (a:=a0.fj) (b:=a1.fj) Tryz.underlying4 rfl rfl) rfl<|Ah 5 63 b0 rfl c0 (fun _=>Ai rfl) rfl<|Ah 7 191 b0 rfl c0 (fun _=>Bj 0 rfl) rfl<|AE 8 447 7168 b0 rfl c0 (AH rfl ((H0.memA (.tl (.tl (.tl .hd)))) 0 _ rfl)) rfl<|Ah 9 959 b0 rfl c0 (fun _=>Ai rfl) rfl ?_
 obtain ⟨v0,y3,h⟩:=bi h
 refine BC 6 1023 b0 rfl .plain body142 rfl (e2 rfl rfl) (fun w9 hw9=>wide_trimmed_c n _ w9 (H0.hL hL hw9) (!(a0.fj == a1.fj)) R1.1 (Aw s3 hw9) y3) rfl (fun s4 V3 E2 ⟨s0,hu_,K0⟩=>?_)
 subst hu_
 obtain ⟨A1,A2⟩:=H0.agr E2
 obtain ⟨x0,z3,h⟩:=bi h
 have V2:=Ay t3 A2
 refine BC 10 2047 b0 rfl .plain body142 rfl (e2 rfl rfl) (fun w9 hw9=>wide_trimmed_c n _ w9 (A1.hL hL hw9) a0.fj R1.2 (Aw V2 hw9) z3) rfl (fun t4 W3 F2 ⟨t0,hu_,X0⟩=>?_)
 subst hu_
 obtain ⟨q2,J0⟩:=A1.agr F2
 have W2:=Ay K0 J0
 refine By 11 4095 b0 rfl rfl .plain (Az (news:=[.bool v0.fj,s0]) q2 (.tl .hd) rfl rfl rfl rfl rfl rfl (o2 rfl (Bh W2))) (fun u4 s2 y0=>?_)
 have X2:=Ay X0 y0
 refine By 12 8191 b0 rfl rfl .plain (Az (news:=[.bool x0.fj,t0]) s2 .hd rfl rfl rfl rfl rfl rfl (o2 rfl (Bh X2))) (fun D3 j0 C0=>?_)
 refine AK (dk b0)<|Aj<|Ae<|Be 0 rfl<|Ba rfl ((j0.memA .hd) 0 _ rfl)<|Aa<|MX.ifb rfl h (fun W1 h=>?_) (fun W1 h=>?_)
 refine Ae<|Be 1 rfl<|Ba rfl ((j0.memA (.tl (.tl .hd))) 1 _ rfl) ?_
 have Y2:=AI h1_1 j0
 obtain ⟨F3,G3,u3,_⟩:=Rep.sl Y2
 refine Ab (AW (vs:=[v1_1]) (u:=.agg #[.bool false,v1_1]) (e1 rfl) (fun w9=>by rw [u3]; try kernel_rfl))<|Al .plain rfl (AD [.bool false,vN] j0) (fun v4 V1 B1 I1=>?_)
 have Z2:=AI h1_1 B1
 refine AY [.bool false,v1_1] B1 .hd (o2 rfl (Bh Z2)) (fun x4 I0 J1=>?_)
 refine Aa<|Ae<|Ab (AG rfl (I0.memA (.tl .hd)))<|Ab (AG rfl (I0.memA .hd)) ?_
 obtain ⟨A0,A3,h⟩:=bi h
 have k3:=Tt y0 (Tt C0 (Tt I1 J1))
 have b3:=Ay X0 k3
 refine Bm (fst:=[]) (cap:=[]) .plain body103 rfl (e2 rfl rfl) (fun w9 hw9=>wide_Long_Plus_c n _ w9 (I0.hL hL hw9) x0 (Aw b3 hw9) (⟨false,a1.fm⟩:TLong) (I0.km h1_1 hw9) A3) rfl (fun y4 X3 G2 ⟨u0,hu_,q1⟩=>?_)
 subst hu_
 obtain ⟨t2,B2⟩:=I0.agr G2
 refine AY [.bool A0.fj,u0] t2 (.tl .hd) (o2 rfl (Bh q1)) (fun z4 C1 d1=>?_)
 refine Aa<|Ae<|Be 0 rfl<|Ab (AH rfl ((C1.memA (.tl (.tl (.tl .hd)))) 0 _ rfl))<|Ab (Bv rfl)<|Al .plain rfl (AV (α:=UInt64) (xs:=([(1:UInt64)]:List UInt64)) (vs:=[vW 1]) (ds' :=[vW 1]) rfl C1 el75 rfl (e1 rfl) (by kernel_rfl) rfl) (fun A4 D0 D1 g1=>?_)
 have H2:=AB (cs:=[vW 1]) (xs:=(([(1:UInt64)]:List UInt64):List UInt64)) D1 L (Aq (cs:=[vW 1]) (ds:=[]) rfl (AM _ _))
 refine Ab (AW (vs:=[.bool (!a1.fj),(vS D0 1)]) (u:=.agg #[.bool (!a1.fj),(vS D0 1)]) (e2 rfl rfl) (fun w9=>by kernel_rfl))<|Al .plain rfl (AD [.bool false,vN] D1) (fun Y3 U1 z1 R0=>?_)
 refine AY [.bool (!a1.fj),(vS D0 1)] z1 .hd (o2 rfl (St.o1 (α:=UInt64) z1 (.tl .hd))) (fun Z3 E0 U0=>?_)
 refine Aa<|Am<|Ab (AG rfl (E0.memA (.tl (.tl (.tl (.tl .hd))))))<|Ab (AG rfl (E0.memA .hd)) ?_
 have I2:=AF H2 (Tt R0 U0)
 have p3:=Bu (α:=UInt64) E0 (.tl .hd) I2 hL
 have Y0:=St.delS E0 (.tl .hd)
 have Z0:=St.delT E0 (.tl .hd)
 have q3:=Rep.at_ (α:=UInt64) (v:=(vS D0 1)) (xs:=([(1:UInt64)]:List UInt64)) Y0 L p3
 obtain ⟨z0,v3,h⟩:=bi h
 have c3:=Tt J0 (Tt y0 (Tt C0 (Tt I1 (Tt J1 (Tt B2 (Tt d1 (Tt g1 (Tt R0 (Tt U0 Z0)))))))))
 have J2:=Ay K0 c3
 refine Bm (fst:=[]) (cap:=[]) .plain body103 rfl (e2 rfl rfl) (fun w9 hw9=>wide_Long_Plus_c n _ w9 (Y0.hL hL hw9) v0 (Aw J2 hw9) (⟨(!a1.fj),([(1:UInt64)]:List UInt64)⟩:TLong) (Aw q3 hw9) v3) rfl (fun c4 R3 C2 ⟨q0,hu_,W0⟩=>?_)
 subst hu_
 obtain ⟨X1,E1⟩:=Y0.agr C2
 refine AY [.bool z0.fj,q0] X1 (.tl (.tl (.tl .hd))) (o2 rfl (Bh W0)) (fun B3 M0 V0=>?_)
 refine Aa<|Aj<|dt 2 tb140_8 (fun k0 P1=>?_)
 refine AE 0 1 12 k0 rfl P1 (AG rfl (M0.memA (.tl (.tl (.tl .hd))))) rfl<|RD.meet (α:=Unit) (fun ()=>[(4,vP d0),(5,vP g0),(46,.agg #[.bool A0.fj,u0])]) (fun () s1=>St w s1 [.cells g0 [.bool A0.fj,u0] 122,.cells d0 [.bool z0.fj,q0] 122]∧Tr B3 [.cells U1 [.bool (!a1.fj),(vS D0 1)] 122,.cells V1 [.bool false,v1_1] 122,.cells g0 [.bool A0.fj,u0] 122,.cells d0 [.bool z0.fj,q0] 122,.cells v1 [.bool a1.fj,v1_1] 122,.cells u1 [.bool a0.fj,v0_1] 122] s1 [.cells g0 [.bool A0.fj,u0] 122,.cells d0 [.bool z0.fj,q0] 122]) 1 7 ?_ ?_
 rintro ⟨⟩ s1 ⟨Z1,F1⟩
 try dsimp only
 have d3:=Tt d1 (Tt g1 (Tt R0 (Tt U0 (Tt Z0 (Tt E1 (Tt V0 F1))))))
 have K2:=Ay q1 d3
 refine By 3 15 k0 rfl rfl .plain (Az (news:=[.bool A0.fj,u0]) Z1 .hd rfl rfl rfl rfl rfl rfl (o2 rfl (Bh K2))) (fun d4 F0 u2=>?_)
 refine AK (dk k0)<|Ak rfl<|Ao hb0 Tryz.func140 rfl (.cons (.many (cs:=[.bool z0.fj,q0]) (by kernel_rfl) rfl (F0.memA (.tl .hd))) (.cons (.many (cs:=[.bool A0.fj,u0]) (by kernel_rfl) rfl (F0.memA .hd)) .nil)) rfl ?_
 cases h
 have K1:=Tt V0 (Tt F1 u2)
 have M2:=Ay W0 K1
 have g3:=Tt d1 (Tt g1 (Tt R0 (Tt U0 (Tt Z0 (Tt E1 K1)))))
 have P2:=Ay q1 g3
 exact ⟨F0.ag,fun w9 hw9=>⟨q0,u0,rfl,F0.kd M2 hw9,F0.kd P2 hw9⟩⟩
 intro x1
 refine RD.each [1,2] (rk k0) ⟨?_,?_,trivial⟩
 refine RO.val (m' :=3) (sk k0) rfl .plain rfl (AG rfl (M0.memA (.tl (.tl .hd)))) ?_
 have k1:=Ay W0 V0
 refine By 2 7 k0 rfl rfl .plain (Az (news:=[.bool z0.fj,q0]) M0 (.tl (.tl (.tl .hd))) rfl rfl rfl rfl rfl rfl (o2 rfl (Bh k1))) (fun E3 Q0 c1=>?_)
 obtain ⟨b2,v2⟩:=AJ Q0 (.one (.tl (.tl .hd)) (.one (.tl (.tl .hd)) .done))
 exact x1 () _ _ ⟨rfl,rfl,rfl,trivial⟩ ⟨b2,(Tt c1 v2)⟩
 have k1:=Ay W0 V0
 refine RO.now (m' :=5) (sk k0) rfl rfl .plain (Az (news:=[.bool z0.fj,q0]) M0 (.tl (.tl (.tl .hd))) rfl rfl rfl rfl rfl rfl (o2 rfl (Bh k1))) (fun E3 Q0 c1=>?_)
 refine AE 1 7 8 k0 rfl P1 (AG rfl (Q0.memA (.tl (.tl .hd)))) rfl ?_
 obtain ⟨c2,x2⟩:=AJ Q0 (.one (.tl (.tl .hd)) (.one (.tl (.tl .hd)) .done))
 exact x1 () _ _ ⟨rfl,rfl,rfl,trivial⟩ ⟨c2,(Tt c1 x2)⟩
 refine Ap<|Aj<|dt 2 tb140_8 (fun p0 Q1=>?_)
 refine AE 0 1 12 p0 rfl Q1 (AG rfl (j0.memA (.tl .hd))) rfl<|RD.meet (α:=Unit) (fun ()=>[(4,vP d0),(5,vP g0),(46,.agg #[.bool x0.fj,t0])]) (fun () t1=>St w t1 [.cells g0 [.bool x0.fj,t0] 122,.cells d0 [.bool v0.fj,s0] 122]∧Tr D3 [.cells g0 [.bool x0.fj,t0] 122,.cells d0 [.bool v0.fj,s0] 122,.cells v1 [.bool a1.fj,v1_1] 122,.cells u1 [.bool a0.fj,v0_1] 122] t1 [.cells g0 [.bool x0.fj,t0] 122,.cells d0 [.bool v0.fj,s0] 122]) 1 7 ?_ ?_
 rintro ⟨⟩ t1 ⟨j2,G1⟩
 try dsimp only
 have M1:=Tt y0 (Tt C0 G1)
 have Q2:=Ay X0 M1
 refine By 3 15 p0 rfl rfl .plain (Az (news:=[.bool x0.fj,t0]) j2 .hd rfl rfl rfl rfl rfl rfl (o2 rfl (Bh Q2))) (fun k4 G0 H1=>?_)
 refine AK (dk p0)<|Ak rfl<|Ao hb0 Tryz.func140 rfl (.cons (.many (cs:=[.bool v0.fj,s0]) (by kernel_rfl) rfl (G0.memA (.tl .hd))) (.cons (.many (cs:=[.bool x0.fj,t0]) (by kernel_rfl) rfl (G0.memA .hd)) .nil)) rfl ?_
 cases h
 have j3:=Tt J0 (Tt y0 (Tt C0 (Tt G1 H1)))
 have R2:=Ay K0 j3
 have U2:=Ay X0 (Tt M1 H1)
 exact ⟨G0.ag,fun w9 hw9=>⟨s0,t0,rfl,G0.kd R2 hw9,G0.kd U2 hw9⟩⟩
 intro y1
 refine RD.each [1,2] (rk p0) ⟨?_,?_,trivial⟩
 refine RO.val (m' :=3) (sk p0) rfl .plain rfl (AG rfl (j0.memA .hd)) ?_
 have p1:=Tt J0 (Tt y0 C0)
 have j1:=Ay K0 p1
 refine By 2 7 p0 rfl rfl .plain (Az (news:=[.bool v0.fj,s0]) j0 (.tl .hd) rfl rfl rfl rfl rfl rfl (o2 rfl (Bh j1))) (fun C3 P0 b1=>?_)
 obtain ⟨k2,y2⟩:=AJ P0 (.one .hd (.one .hd .done))
 exact y1 () _ _ ⟨rfl,rfl,rfl,trivial⟩ ⟨k2,(Tt b1 y2)⟩
 have p1:=Tt J0 (Tt y0 C0)
 have j1:=Ay K0 p1
 refine RO.now (m' :=5) (sk p0) rfl rfl .plain (Az (news:=[.bool v0.fj,s0]) j0 (.tl .hd) rfl rfl rfl rfl rfl rfl (o2 rfl (Bh j1))) (fun C3 P0 b1=>?_)
 refine AE 1 7 8 p0 rfl Q1 (AG rfl (P0.memA .hd)) rfl ?_
 obtain ⟨p2,z2⟩:=AJ P0 (.one .hd (.one .hd .done))
 exact y1 () _ _ ⟨rfl,rfl,rfl,trivial⟩ ⟨p2,(Tt b1 z2)⟩
def wide_Long_Turned_p (n:Nat) (a0:TLong):Option TLong:=
  (wide_trimmed_p n (!a0.fj) a0.fm).bind fun b0=>some b0
theorem wide_Long_Turned_c (n:Nat) (L:List Nat) (w:World) (hL:∀ b ∈ L,b < w.heap.size) (a0:TLong) {v0_1:Value} (h0_1:Rep.R w L [v0_1] a0.fm)  {r:TLong} (h:wide_Long_Turned_p n a0 = some r) :
    Calls Tryz.prog 141 #[.agg #[.bool a0.fj,v0_1]] w (Gives w fun w' u=>∃ v0_1:Value,u = .agg #[.bool r.fj,v0_1]∧Rep.R w' L [v0_1] r.fm):=by
 unfold wide_Long_Turned_p at h
 have hS0:=AA w
 refine AC Tryz.func141 rfl rfl rfl (fun _ cs0 hb0=>?_)
 refine Ae<|Al .plain rfl (Ax hS0 rfl rfl) (fun C0 v0 k0 y0=>?_)
 refine Al .plain rfl (AD [.bool false,vN] k0) (fun D0 x0 b0 z0=>?_)
 refine Aa<|Ae<|Be 0 rfl<|Ba rfl ((b0.memA (.tl .hd)) 0 _ rfl)<|Ab (Bv rfl)<|Be 1 rfl<|Ba rfl ((b0.memA (.tl .hd)) 1 _ rfl) ?_
 obtain ⟨j0,u0,h⟩:=bi h
 refine Bm (fst:=[]) (cap:=[]) .plain body142 rfl (e2 rfl rfl) (fun w9 hw9=>wide_trimmed_c n _ w9 (b0.hL hL hw9) (!a0.fj) a0.fm (b0.km h0_1 hw9) u0) rfl (fun E0 B0 s0 ⟨d0,hu_,g0⟩=>?_)
 subst hu_
 obtain ⟨p0,A0⟩:=b0.agr s0
 refine AY [.bool j0.fj,d0] p0 .hd (o2 rfl (Bh g0)) (fun F0 c0 q0=>?_)
 refine Aa<|Ak rfl<|Ao hb0 Tryz.func141 rfl (.cons (.many (cs:=[.bool j0.fj,d0]) (by kernel_rfl) rfl (c0.memA .hd)) .nil) rfl ?_
 cases h
 have t0:=Ay g0 q0
 exact ⟨c0.ag,fun w9 hw9=>⟨d0,rfl,c0.kd t0 hw9⟩⟩
def tb101_5:List (Nat × Nat × Nat):=[(0,134217728,64),(1,268435456,134217728),(0,536870912,256),(6,1073741824,536870912),(11,0,268435520),(31,0,1073742080)]
theorem body139:bodyB Tryz.prog 139 = true:=by kernel_rfl
theorem body140:bodyB Tryz.prog 140 = true:=by kernel_rfl
theorem body141:bodyB Tryz.prog 141 = true:=by kernel_rfl
def share_Lowest_p (n:Nat) (a0:TLong) (a1:TLong):Option TRatio:=
  (wide_Long_Common_p n a0 a1).bind fun c0=>(wide_Long_Parts_p n a0 c0).bind fun d0=>(wide_Long_Parts_p n a1 c0).bind fun b0=>(if b0.1.fj = true then (wide_Long_Turned_p n d0.1).bind fun g0=>(wide_Long_Turned_p n b0.1).bind fun j0=>some (⟨g0,j0⟩:TRatio) else some (⟨d0.1,b0.1⟩:TRatio))
theorem share_Lowest_c (n:Nat) (L:List Nat) (w:World) (hL:∀ b ∈ L,b < w.heap.size) (a0:TLong) {v0_1:Value} (h0_1:Rep.R w L [v0_1] a0.fm) (a1:TLong) {v1_1:Value} (h1_1:Rep.R w L [v1_1] a1.fm)  {r:TRatio} (h:share_Lowest_p n a0 a1 = some r) :
    Calls Tryz.prog 101 #[.agg #[.bool a0.fj,v0_1],.agg #[.bool a1.fj,v1_1]] w (Gives w fun w' u=>∃ v0_1 v0_3:Value,u = .agg #[.bool r.fx.fj,v0_1,.bool r.ft.fj,v0_3]∧Rep.R w' L [v0_1] r.fx.fm∧Rep.R w' L [v0_3] r.ft.fm):=by
 unfold share_Lowest_p at h
 have hS0:=AA w
 refine AC Tryz.func101 rfl rfl rfl (fun _ cs0 hb0=>?_)
 refine Ae<|Al .plain rfl (Ax hS0 rfl rfl) (fun I3 b3 y1 x3=>?_)
 refine Al .plain rfl (Ax y1 rfl rfl) (fun R3 c3 B1 y3=>?_)
 refine Al .plain rfl (AD [.bool false,vN,.bool false,vN] B1) (fun U3 d3 j0 z3=>?_)
 refine Aa<|Ae<|Ab (AG rfl (j0.memA (.tl (.tl .hd))))<|Ab (AG rfl (j0.memA (.tl .hd))) ?_
 obtain ⟨X0,M2,h⟩:=bi h
 refine Bm (fst:=[]) (cap:=[]) .plain body139 rfl (e2 rfl rfl) (fun w9 hw9=>wide_Long_Common_c n _ w9 (j0.hL hL hw9) a0 (j0.km h0_1 hw9) a1 (j0.km h1_1 hw9) M2) rfl (fun V3 D3 V1 ⟨R2,hu_,W0⟩=>?_)
 subst hu_
 obtain ⟨C1,A3⟩:=j0.agr V1
 refine Al .plain rfl (AD [.bool false,vN] C1) (fun W3 g3 D1 J0=>?_)
 have p2:=Ay W0 J0
 refine AY [.bool X0.fj,R2] D1 .hd (o2 rfl (Bh p2)) (fun X3 t0 d1=>?_)
 refine Aa<|Ae<|Ab (AG rfl (t0.memA (.tl (.tl (.tl .hd)))))<|Ab (AG rfl (t0.memA .hd)) ?_
 obtain ⟨d0,P2,h⟩:=bi h
 have q2:=Ay W0 (Tt J0 d1)
 refine Bm (fst:=[]) (cap:=[]) .plain body140 rfl (e2 rfl rfl) (fun w9 hw9=>wide_Long_Parts_c n _ w9 (t0.hL hL hw9) a0 (t0.km h0_1 hw9) X0 (Aw q2 hw9) P2) rfl (fun Y3 E3 W1 ⟨q0,U2,hu_,F0,D2⟩=>?_)
 subst hu_
 obtain ⟨E1,Q1⟩:=t0.agr W1
 refine Ac rfl<|Ab (Ag rfl rfl)<|Ab (Ag rfl rfl)<|Al .plain rfl (AD [.bool false,vN] E1) (fun Z3 j3 F1 K0=>?_)
 refine Al .plain rfl (AD [.bool false,vN] F1) (fun b4 k3 G1 M0=>?_)
 have s2:=Ay F0 (Tt K0 M0)
 refine AY [.bool d0.1.fj,q0] G1 (.tl .hd) (o2 rfl (Bh s2)) (fun c4 H1 g1=>?_)
 have R0:=Tt K0 (Tt M0 g1)
 have t2:=Ay D2 R0
 refine AY [.bool d0.2.fj,U2] H1 .hd (o2 rfl (Bh t2)) (fun d4 u0 P0=>?_)
 refine Aa<|Ae<|Ab (AG rfl (u0.memA (.tl (.tl (.tl (.tl .hd))))))<|Ab (AG rfl (u0.memA (.tl (.tl .hd)))) ?_
 obtain ⟨g0,Q2,h⟩:=bi h
 have C2:=Tt J0 (Tt d1 (Tt Q1 (Tt K0 (Tt M0 (Tt g1 P0)))))
 have u2:=Ay W0 C2
 refine Bm (fst:=[]) (cap:=[]) .plain body140 rfl (e2 rfl rfl) (fun w9 hw9=>wide_Long_Parts_c n _ w9 (u0.hL hL hw9) a1 (u0.km h1_1 hw9) X0 (Aw u2 hw9) Q2) rfl (fun g4 F3 X1 ⟨s0,V2,hu_,G0,E2⟩=>?_)
 subst hu_
 obtain ⟨I1,j1⟩:=u0.agr X1
 refine Ac rfl<|Ab (Ag rfl rfl)<|Ab (Ag rfl rfl)<|Al .plain rfl (AD [.bool false,vN] I1) (fun j4 p3 J1 C0=>?_)
 refine Al .plain rfl (AD [.bool false,vN] J1) (fun k4 q3 K1 D0=>?_)
 have v2:=Ay G0 (Tt C0 D0)
 refine AY [.bool g0.1.fj,s0] K1 (.tl .hd) (o2 rfl (Bh v2)) (fun p4 M1 Q0=>?_)
 have E0:=Tt C0 (Tt D0 Q0)
 have x2:=Ay E2 E0
 refine AY [.bool g0.2.fj,V2] M1 .hd (o2 rfl (Bh x2)) (fun G3 b0 v0=>?_)
 refine Aa<|Aj<|Ae<|Be 0 rfl<|Ba rfl ((b0.memA (.tl .hd)) 0 _ rfl)<|Aa<|MX.ifb rfl h (fun x1 h=>?_) (fun x1 h=>?_)
 refine dt 4 tb101_5 (fun c0 v1=>?_)
 refine AE 0 1 58 c0 rfl v1 (AG rfl (b0.memA (.tl (.tl (.tl .hd))))) rfl<|AE 2 5 56 c0 rfl v1 (AG rfl (b0.memA (.tl .hd))) rfl ?_
 obtain ⟨x0,J2,h⟩:=bi h
 have y2:=Tt R0 (Tt P0 (Tt j1 (Tt C0 (Tt D0 (Tt Q0 v0)))))
 have Y1:=Ay F0 y2
 refine BC 1 7 c0 rfl .plain body141 rfl (e1 rfl) (fun w9 hw9=>wide_Long_Turned_c n _ w9 (b0.hL hL hw9) d0.1 (Aw Y1 hw9) J2) rfl (fun H3 B3 R1 ⟨k0,hu_,U0⟩=>?_)
 subst hu_
 obtain ⟨Y0,P1⟩:=b0.agr R1
 obtain ⟨y0,K2,h⟩:=bi h
 have z2:=Tt E0 (Tt v0 P1)
 have Z1:=Ay G0 z2
 refine BC 3 15 c0 rfl .plain body141 rfl (e1 rfl) (fun w9 hw9=>wide_Long_Turned_c n _ w9 (Y0.hL hL hw9) g0.1 (Aw Z1 hw9) K2) rfl (fun J3 C3 U1 ⟨p0,hu_,V0⟩=>?_)
 subst hu_
 obtain ⟨z1,Z0⟩:=Y0.agr U1
 have b2:=Ay U0 Z0
 refine By 4 31 c0 rfl rfl .plain (Az (news:=[.bool x0.fj,k0]) z1 (.tl (.tl (.tl .hd))) rfl rfl rfl rfl rfl rfl (o2 rfl (Bh b2))) (fun K3 A1 B0=>?_)
 have c2:=Ay V0 B0
 refine By 5 63 c0 rfl rfl .plain (Az (news:=[.bool y0.fj,p0]) A1 (.tl .hd) rfl rfl rfl rfl rfl rfl (o2 rfl (Bh c2))) (fun M3 H0 I0=>?_)
 refine AK (dk c0)<|Ae<|Ab (AG rfl (H0.memA (.tl (.tl (.tl .hd)))))<|Ab (AG rfl (H0.memA (.tl .hd))) ?_
 have t1:=Tt Z0 (Tt B0 I0)
 have k1:=Ay U0 t1
 obtain ⟨W2,s3,F2,_⟩:=Rep.sl k1
 have p1:=Ay V0 (Tt B0 I0)
 obtain ⟨X2,t3,G2,_⟩:=Rep.sl p1
 refine Ab (AW (vs:=[.agg #[.bool x0.fj,k0],.agg #[.bool y0.fj,p0]]) (u:=.agg #[.bool x0.fj,k0,.bool y0.fj,p0]) (e2 rfl rfl) (fun w9=>by rw [F2,G2]; try kernel_rfl))<|AY [.bool x0.fj,k0,.bool y0.fj,p0] H0 (.tl (.tl (.tl (.tl (.tl .hd))))) (o4 rfl (Bh k1) rfl (Bh p1)) (fun P3 z0 b1=>?_)
 refine Aa<|Ak rfl<|Ao hb0 Tryz.func101 rfl (.cons (.many (cs:=[.bool x0.fj,k0,.bool y0.fj,p0]) (by kernel_rfl) rfl (z0.memA (.tl (.tl (.tl (.tl (.tl .hd))))))) .nil) rfl ?_
 cases h
 have d2:=Ay U0 (Tt t1 b1)
 have A2:=Tt B0 (Tt I0 b1)
 have g2:=Ay V0 A2
 exact ⟨z0.ag,fun w9 hw9=>⟨k0,p0,rfl,z0.kd d2 hw9,z0.kd g2 hw9⟩⟩
 refine Ap<|Ae<|Ab (AG rfl (b0.memA (.tl (.tl (.tl .hd)))))<|Ab (AG rfl (b0.memA (.tl .hd))) ?_
 have u1:=Tt R0 (Tt P0 (Tt j1 (Tt C0 (Tt D0 (Tt Q0 v0)))))
 have q1:=Ay F0 u1
 obtain ⟨Y2,u3,H2,_⟩:=Rep.sl q1
 have s1:=Ay G0 (Tt E0 v0)
 obtain ⟨Z2,v3,I2,_⟩:=Rep.sl s1
 refine Ab (AW (vs:=[.agg #[.bool d0.1.fj,q0],.agg #[.bool g0.1.fj,s0]]) (u:=.agg #[.bool d0.1.fj,q0,.bool g0.1.fj,s0]) (e2 rfl rfl) (fun w9=>by rw [H2,I2]; try kernel_rfl))<|AY [.bool d0.1.fj,q0,.bool g0.1.fj,s0] b0 (.tl (.tl (.tl (.tl (.tl .hd))))) (o4 rfl (Bh q1) rfl (Bh s1)) (fun Q3 A0 c1=>?_)
 refine Aa<|Ak rfl<|Ao hb0 Tryz.func101 rfl (.cons (.many (cs:=[.bool d0.1.fj,q0,.bool g0.1.fj,s0]) (by kernel_rfl) rfl (A0.memA (.tl (.tl (.tl (.tl (.tl .hd))))))) .nil) rfl ?_
 cases h
 have j2:=Ay F0 (Tt u1 c1)
 have B2:=Tt E0 (Tt v0 c1)
 have k2:=Ay G0 B2
 exact ⟨A0.ag,fun w9 hw9=>⟨q0,s0,rfl,A0.kd j2 hw9,A0.kd k2 hw9⟩⟩
def wide_Read_p (n:Nat) (a0:UInt64 × UInt64 × UInt64 × UInt64 × UInt64 × UInt64 × UInt64 × UInt64):Option TNumber:=
  (if (shrU a0.2.2.2.2.2.2.2 63) = (1:UInt64) then (wide_Size_minus_p n ((0:UInt64),(0:UInt64),(0:UInt64),(0:UInt64),(0:UInt64),(0:UInt64),(0:UInt64),(0:UInt64)) a0).bind fun b0=>some (⟨(decide ((shrU a0.2.2.2.2.2.2.2 63) = (1:UInt64))),b0.1⟩:TNumber) else some (⟨(decide ((shrU a0.2.2.2.2.2.2.2 63) = (1:UInt64))),a0⟩:TNumber))
theorem wide_Read_c (n:Nat) (L:List Nat) (w:World) (hL:∀ b ∈ L,b < w.heap.size) (a0:UInt64 × UInt64 × UInt64 × UInt64 × UInt64 × UInt64 × UInt64 × UInt64)  {r:TNumber} (h:wide_Read_p n a0 = some r) :
    Calls Tryz.prog 162 #[.agg ((cs_A39 a0)).toArray] w (Gives w fun _ u=>u = .agg ((cs_TNumber r)).toArray):=by
 unfold wide_Read_p at h
 have hS0:=AA w
 refine AC Tryz.func162 rfl rfl rfl (fun _ cs0 hb0=>?_)
 refine Ae<|Al .plain rfl (Ax hS0 rfl rfl) (fun F0 u0 q0 y0=>?_)
 refine Al .plain rfl (AD [.bool false,vW 0,vW 0,vW 0,vW 0,vW 0,vW 0,vW 0,vW 0] q0) (fun G0 v0 d0 z0=>?_)
 refine Aa<|Ae<|Ab (AT (m:=1) (k:=7) (len:=8) (by kernel_rfl) rfl rfl rfl (by omega))<|Ba rfl ((d0.memA (.tl .hd)) 7 _ rfl)<|Ab (FV.shrU (a:=a0.2.2.2.2.2.2.2) (j:=63) rfl rfl)<|Ab (FV.eqlU (a:=shrU a0.2.2.2.2.2.2.2 63) (b:=(1:UInt64)) rfl rfl)<|Ab (AG rfl (d0.memA (.tl .hd)))<|Ab (AW (vs:=[.bool (decide ((shrU a0.2.2.2.2.2.2.2 63) = (1:UInt64))),.agg ((cs_A39 a0)).toArray]) (u:=.agg ((([.bool (decide ((shrU a0.2.2.2.2.2.2.2 63) = (1:UInt64)))]:List Value) ++ cs_A39 a0)).toArray) (e2 rfl rfl) (fun w9=>by kernel_rfl))<|Al .plain rfl (AD [.bool false,vW 0,vW 0,vW 0,vW 0,vW 0,vW 0,vW 0,vW 0] d0) (fun H0 x0 s0 A0=>?_)
 refine AY (([.bool (decide ((shrU a0.2.2.2.2.2.2.2 63) = (1:UInt64)))]:List Value) ++ cs_A39 a0) s0 .hd (onesB rfl) (fun I0 b0 B0=>?_)
 refine Aa<|Aj<|Ae<|Be 0 rfl<|Ba rfl ((b0.memA .hd) 0 _ rfl)<|Aa<|AO rfl h (fun p0 h=>?_) (fun p0 h=>?_)
 refine Am<|Ab (AW (vs:=[]) (u:=.agg zQ) evs_nil (fun w9=>by kernel_rfl))<|Be 1 rfl<|Ab (Bp (cs:=(cs_A39 a0)) (by kernel_rfl) rfl (mem_part (b0.memA .hd) 1 8)) ?_
 obtain ⟨c0,t0,h⟩:=bi h
 refine Bb (.tuple #[.agg ((cs_A39 c0.1)).toArray,vU c0.2]) body188 rfl (e2 rfl rfl) (fun w9 hw9=>wide_Size_minus_c n _ w9 (b0.hL0 hL hw9) ((0:UInt64),(0:UInt64),(0:UInt64),(0:UInt64),(0:UInt64),(0:UInt64),(0:UInt64),(0:UInt64)) a0 t0) rfl<|Ac rfl<|Ab (Ag rfl rfl)<|Ab (Ag rfl rfl)<|Be 1 rfl<|RG.now .plain (Bz (j:=1) (old:=(([.bool (decide ((shrU a0.2.2.2.2.2.2.2 63) = (1:UInt64)))]:List Value) ++ cs_A39 a0)) (news:=(cs_A39 c0.1)) (new' :=(([.bool (decide ((shrU a0.2.2.2.2.2.2.2 63) = (1:UInt64)))]:List Value) ++ cs_A39 c0.1)) b0 .hd rfl rfl rfl rfl rfl rfl (onesB rfl) rfl) (fun J0 g0 C0=>?_)
 refine Aa<|Ae<|Ab (AG rfl (g0.memA .hd))<|AY (([.bool (decide ((shrU a0.2.2.2.2.2.2.2 63) = (1:UInt64)))]:List Value) ++ cs_A39 c0.1) g0 (.tl .hd) (onesB rfl) (fun K0 j0 D0=>?_)
 refine Aa<|Ak rfl<|Ao hb0 Tryz.func162 rfl (.cons (.many (cs:=(([.bool (decide ((shrU a0.2.2.2.2.2.2.2 63) = (1:UInt64)))]:List Value) ++ cs_A39 c0.1)) (by kernel_rfl) rfl (j0.memA (.tl .hd))) .nil) rfl ?_
 cases h
 exact j0.gv
 refine Ap<|Ae<|Ab (AG rfl (b0.memA .hd))<|AY (([.bool (decide ((shrU a0.2.2.2.2.2.2.2 63) = (1:UInt64)))]:List Value) ++ cs_A39 a0) b0 (.tl .hd) (onesB rfl) (fun M0 k0 E0=>?_)
 refine Aa<|Ak rfl<|Ao hb0 Tryz.func162 rfl (.cons (.many (cs:=(([.bool (decide ((shrU a0.2.2.2.2.2.2.2 63) = (1:UInt64)))]:List Value) ++ cs_A39 a0)) (by kernel_rfl) rfl (k0.memA (.tl .hd))) .nil) rfl ?_
 cases h
 exact k0.gv
def tb126_2:List (Nat × Nat × Nat):=[(0,64,8),(1,128,64),(0,256,0),(0,512,8),(8,1024,512),(20,2048,1280),(34,4096,2176),(127,0,4100)]
theorem body162:bodyB Tryz.prog 162 = true:=by kernel_rfl
def wide_Longer_p (n:Nat) (a0:UInt64 × UInt64 × UInt64 × UInt64 × UInt64 × UInt64 × UInt64 × UInt64):Option TLong:=
  (wide_Read_p n a0).bind fun b0=>(app ([]:List UInt64) ([b0.fl.1,b0.fl.2.1,b0.fl.2.2.1,b0.fl.2.2.2.1,b0.fl.2.2.2.2.1,b0.fl.2.2.2.2.2.1,b0.fl.2.2.2.2.2.2.1,b0.fl.2.2.2.2.2.2.2]:List UInt64)).bind fun c0=>(wide_trimmed_p n b0.fj c0).bind fun d0=>some d0
theorem wide_Longer_c (n:Nat) (L:List Nat) (w:World) (hL:∀ b ∈ L,b < w.heap.size) (a0:UInt64 × UInt64 × UInt64 × UInt64 × UInt64 × UInt64 × UInt64 × UInt64)  {r:TLong} (h:wide_Longer_p n a0 = some r) :
    Calls Tryz.prog 126 #[.agg ((cs_A39 a0)).toArray] w (Gives w fun w' u=>∃ v0_1:Value,u = .agg #[.bool r.fj,v0_1]∧Rep.R w' L [v0_1] r.fm):=by
 unfold wide_Longer_p at h
 have hS0:=AA w
 refine AC Tryz.func126 rfl rfl rfl (fun _ cs0 hb0=>?_)
 refine Ae<|Al .plain rfl (Ax hS0 rfl rfl) (fun P1 V0 X0 E1=>?_)
 refine Al .plain rfl (AD [.bool false,vN] X0) (fun U1 q0 F0 I1=>?_)
 refine Aa<|Ae<|Ab (AG rfl (F0.memA (.tl .hd))) ?_
 obtain ⟨b0,B1,h⟩:=bi h
 refine Bb (.agg ((cs_TNumber b0)).toArray) body162 rfl (e1 rfl) (fun w9 hw9=>wide_Read_c n _ w9 (F0.hL0 hL hw9) a0 B1) rfl<|Al .plain rfl (AD [.bool false,vW 0,vW 0,vW 0,vW 0,vW 0,vW 0,vW 0,vW 0] F0) (fun V1 J0 d1 J1=>?_)
 refine AY (cs_TNumber b0) d1 .hd (onesB rfl) (fun C1 G0 K1=>?_)
 refine Aa<|Aj<|dt 5 tb126_2 (fun c0 z0=>?_)
 refine Ah 0 1 c0 rfl z0 (fun _=>Bj 0 rfl) rfl<|Ah 3 9 c0 rfl z0 (fun _=>Bj 1 rfl) rfl<|AE 4 25 224 c0 rfl z0 (FV.sliceA (len:=8) (m:=1) (p:=Addr.add ⟨J0,0,none⟩ 1) (by kernel_rfl) rfl) rfl ?_
 obtain ⟨p0,H0,h⟩:=bi h
 refine RD.meet (α:=Value × (List Value)) (fun ⟨g0,j0⟩=>[(2,vP q0),(7,.bool b0.fj),(11,g0)]) (fun ⟨g0,j0⟩ A0=>St w A0 [.row w.heap.size 28 (Rep.size UInt64) g0 p0.length j0,.cells q0 [.bool false,vN] 122]∧Tr C1 [.cells J0 (cs_TNumber b0) 234,.cells q0 [.bool false,vN] 122,.cells V0 (cs_A39 a0) 40] A0 [.row w.heap.size 28 (Rep.size UInt64) g0 p0.length j0,.cells q0 [.bool false,vN] 122]∧Cells A0 (bl [.row w.heap.size 28 (Rep.size UInt64) g0 p0.length j0,.cells q0 [.bool false,vN] 122] ++ L) j0 (p0:List UInt64)) 2 63 ?_ ?_
 rintro ⟨g0,j0⟩ A0 ⟨C0,F1,k1⟩
 try dsimp only
 have y1:=Bu (α:=UInt64) C0 .hd k1 hL
 have D0:=St.delS C0 .hd
 have G1:=St.delT C0 .hd
 have z1:=Rep.at_ (α:=UInt64) (v:=g0) (xs:=p0) D0 L y1
 obtain ⟨U0,A1,h⟩:=bi h
 refine BC 6 127 c0 rfl .plain body142 rfl (e2 rfl rfl) (fun w9 hw9=>wide_trimmed_c n _ w9 (D0.hL hL hw9) b0.fj p0 (Aw z1 hw9) A1) rfl (fun Q1 M1 j1 ⟨I0,hu_,Q0⟩=>?_)
 subst hu_
 obtain ⟨Y0,H1⟩:=D0.agr j1
 refine By 7 255 c0 rfl rfl .plain (Az (news:=[.bool U0.fj,I0]) Y0 .hd rfl rfl rfl rfl rfl rfl (o2 rfl (Bh Q0))) (fun R1 E0 g1=>?_)
 refine AK (dk c0)<|Ak rfl<|Ao hb0 Tryz.func126 rfl (.cons (.many (cs:=[.bool U0.fj,I0]) (by kernel_rfl) rfl (E0.memA .hd)) .nil) rfl ?_
 cases h
 have p1:=Ay Q0 g1
 exact ⟨E0.ag,fun w9 hw9=>⟨I0,rfl,E0.kd p1 hw9⟩⟩
 intro B0
 refine RD.each [1,2] (rk c0) ⟨?_,?_,trivial⟩
 refine RO.val (m' :=27) (sk c0) rfl .plain rfl (AH rfl ((G0.memA .hd) 0 _ rfl))<|RD.nu 2 31 c0 rfl .plain rfl (AV (α:=UInt64) (xs:=([]:List UInt64)) (vs:=[]) (ds' :=[]) rfl G0 el75 rfl evs_nil (by kernel_rfl) rfl) (fun D1 W0 d0 x0=>?_)
 have y0:=AB (cs:=[]) (xs:=(([]:List UInt64):List UInt64)) d0 L (AM _ _)
 refine BB (i:=5) (rk c0) (RO.doesL (m' :=63) (sk c0) rfl rfl .plain rfl (DoesL.app (α:=UInt64) (ys:=([b0.fl.1,b0.fl.2.1,b0.fl.2.2.1,b0.fl.2.2.2.1,b0.fl.2.2.2.2.1,b0.fl.2.2.2.2.2.1,b0.fl.2.2.2.2.2.2.1,b0.fl.2.2.2.2.2.2.2]:List UInt64)) H0 d0 (fun _ _=>.hd) el75 rfl rfl y0 (Src.arr (ds:=[vU b0.fl.1,vU b0.fl.2.1,vU b0.fl.2.2.1,vU b0.fl.2.2.2.1,vU b0.fl.2.2.2.2.1,vU b0.fl.2.2.2.2.2.1,vU b0.fl.2.2.2.2.2.2.1,vU b0.fl.2.2.2.2.2.2.2]) (ys:=([b0.fl.1,b0.fl.2.1,b0.fl.2.2.1,b0.fl.2.2.2.1,b0.fl.2.2.2.2.1,b0.fl.2.2.2.2.2.1,b0.fl.2.2.2.2.2.2.1,b0.fl.2.2.2.2.2.2.2]:List UInt64)) (n:=8) (mem_part (d0.memA (.tl .hd)) 1 8) (Aq (cs:=[vU b0.fl.1]) (ds:=[vU b0.fl.2.1,vU b0.fl.2.2.1,vU b0.fl.2.2.2.1,vU b0.fl.2.2.2.2.1,vU b0.fl.2.2.2.2.2.1,vU b0.fl.2.2.2.2.2.2.1,vU b0.fl.2.2.2.2.2.2.2]) rfl (Aq (cs:=[vU b0.fl.2.1]) (ds:=[vU b0.fl.2.2.1,vU b0.fl.2.2.2.1,vU b0.fl.2.2.2.2.1,vU b0.fl.2.2.2.2.2.1,vU b0.fl.2.2.2.2.2.2.1,vU b0.fl.2.2.2.2.2.2.2]) rfl (Aq (cs:=[vU b0.fl.2.2.1]) (ds:=[vU b0.fl.2.2.2.1,vU b0.fl.2.2.2.2.1,vU b0.fl.2.2.2.2.2.1,vU b0.fl.2.2.2.2.2.2.1,vU b0.fl.2.2.2.2.2.2.2]) rfl (Aq (cs:=[vU b0.fl.2.2.2.1]) (ds:=[vU b0.fl.2.2.2.2.1,vU b0.fl.2.2.2.2.2.1,vU b0.fl.2.2.2.2.2.2.1,vU b0.fl.2.2.2.2.2.2.2]) rfl (Aq (cs:=[vU b0.fl.2.2.2.2.1]) (ds:=[vU b0.fl.2.2.2.2.2.1,vU b0.fl.2.2.2.2.2.2.1,vU b0.fl.2.2.2.2.2.2.2]) rfl (Aq (cs:=[vU b0.fl.2.2.2.2.2.1]) (ds:=[vU b0.fl.2.2.2.2.2.2.1,vU b0.fl.2.2.2.2.2.2.2]) rfl (Aq (cs:=[vU b0.fl.2.2.2.2.2.2.1]) (ds:=[vU b0.fl.2.2.2.2.2.2.2]) rfl (Aq (cs:=[vU b0.fl.2.2.2.2.2.2.2]) (ds:=[]) rfl (AM _ _))))))))) rfl)) (fun v0 R0 ⟨s0,k0,t0,u0⟩=>?_))
 obtain ⟨Z0,K0⟩:=AJ k0 (.one .hd (.one (.tl .hd) .done))
 have q1:=AF u0 K0
 have u1:=Tt x0 (Tt t0 K0)
 exact B0 (v0,s0) _ _ ⟨rfl,rfl,rfl,trivial⟩ ⟨Z0,u1,q1⟩
 refine RO.new (m' :=29) (sk c0) rfl .plain rfl (AV (α:=UInt64) (xs:=([]:List UInt64)) (vs:=[]) (ds' :=[]) rfl G0 el75 rfl evs_nil (by kernel_rfl) rfl) (fun D1 W0 d0 x0=>?_)
 have y0:=AB (cs:=[]) (xs:=(([]:List UInt64):List UInt64)) d0 L (AM _ _)
 refine RD.each [1,5] (rk c0) ⟨?_,?_,trivial⟩
 refine RO.val (m' :=31) (sk c0) rfl .plain rfl (AH rfl ((d0.memA (.tl .hd)) 0 _ rfl))<|BB (i:=5) (rk c0) (RO.doesL (m' :=63) (sk c0) rfl rfl .plain rfl (DoesL.app (α:=UInt64) (ys:=([b0.fl.1,b0.fl.2.1,b0.fl.2.2.1,b0.fl.2.2.2.1,b0.fl.2.2.2.2.1,b0.fl.2.2.2.2.2.1,b0.fl.2.2.2.2.2.2.1,b0.fl.2.2.2.2.2.2.2]:List UInt64)) H0 d0 (fun _ _=>.hd) el75 rfl rfl y0 (Src.arr (ds:=[vU b0.fl.1,vU b0.fl.2.1,vU b0.fl.2.2.1,vU b0.fl.2.2.2.1,vU b0.fl.2.2.2.2.1,vU b0.fl.2.2.2.2.2.1,vU b0.fl.2.2.2.2.2.2.1,vU b0.fl.2.2.2.2.2.2.2]) (ys:=([b0.fl.1,b0.fl.2.1,b0.fl.2.2.1,b0.fl.2.2.2.1,b0.fl.2.2.2.2.1,b0.fl.2.2.2.2.2.1,b0.fl.2.2.2.2.2.2.1,b0.fl.2.2.2.2.2.2.2]:List UInt64)) (n:=8) (mem_part (d0.memA (.tl .hd)) 1 8) (Aq (cs:=[vU b0.fl.1]) (ds:=[vU b0.fl.2.1,vU b0.fl.2.2.1,vU b0.fl.2.2.2.1,vU b0.fl.2.2.2.2.1,vU b0.fl.2.2.2.2.2.1,vU b0.fl.2.2.2.2.2.2.1,vU b0.fl.2.2.2.2.2.2.2]) rfl (Aq (cs:=[vU b0.fl.2.1]) (ds:=[vU b0.fl.2.2.1,vU b0.fl.2.2.2.1,vU b0.fl.2.2.2.2.1,vU b0.fl.2.2.2.2.2.1,vU b0.fl.2.2.2.2.2.2.1,vU b0.fl.2.2.2.2.2.2.2]) rfl (Aq (cs:=[vU b0.fl.2.2.1]) (ds:=[vU b0.fl.2.2.2.1,vU b0.fl.2.2.2.2.1,vU b0.fl.2.2.2.2.2.1,vU b0.fl.2.2.2.2.2.2.1,vU b0.fl.2.2.2.2.2.2.2]) rfl (Aq (cs:=[vU b0.fl.2.2.2.1]) (ds:=[vU b0.fl.2.2.2.2.1,vU b0.fl.2.2.2.2.2.1,vU b0.fl.2.2.2.2.2.2.1,vU b0.fl.2.2.2.2.2.2.2]) rfl (Aq (cs:=[vU b0.fl.2.2.2.2.1]) (ds:=[vU b0.fl.2.2.2.2.2.1,vU b0.fl.2.2.2.2.2.2.1,vU b0.fl.2.2.2.2.2.2.2]) rfl (Aq (cs:=[vU b0.fl.2.2.2.2.2.1]) (ds:=[vU b0.fl.2.2.2.2.2.2.1,vU b0.fl.2.2.2.2.2.2.2]) rfl (Aq (cs:=[vU b0.fl.2.2.2.2.2.2.1]) (ds:=[vU b0.fl.2.2.2.2.2.2.2]) rfl (Aq (cs:=[vU b0.fl.2.2.2.2.2.2.2]) (ds:=[]) rfl (AM _ _))))))))) rfl)) (fun v0 R0 ⟨s0,k0,t0,u0⟩=>?_))
 obtain ⟨b1,M0⟩:=AJ k0 (.one .hd (.one (.tl .hd) .done))
 have s1:=AF u0 M0
 have v1:=Tt x0 (Tt t0 M0)
 exact B0 (v0,s0) _ _ ⟨rfl,rfl,rfl,trivial⟩ ⟨b1,v1,s1⟩
 refine RO.doesL (m' :=61) (sk c0) rfl rfl .plain rfl (DoesL.app (α:=UInt64) (ys:=([b0.fl.1,b0.fl.2.1,b0.fl.2.2.1,b0.fl.2.2.2.1,b0.fl.2.2.2.2.1,b0.fl.2.2.2.2.2.1,b0.fl.2.2.2.2.2.2.1,b0.fl.2.2.2.2.2.2.2]:List UInt64)) H0 d0 (fun _ _=>.hd) el75 rfl rfl y0 (Src.arr (ds:=[vU b0.fl.1,vU b0.fl.2.1,vU b0.fl.2.2.1,vU b0.fl.2.2.2.1,vU b0.fl.2.2.2.2.1,vU b0.fl.2.2.2.2.2.1,vU b0.fl.2.2.2.2.2.2.1,vU b0.fl.2.2.2.2.2.2.2]) (ys:=([b0.fl.1,b0.fl.2.1,b0.fl.2.2.1,b0.fl.2.2.2.1,b0.fl.2.2.2.2.1,b0.fl.2.2.2.2.2.1,b0.fl.2.2.2.2.2.2.1,b0.fl.2.2.2.2.2.2.2]:List UInt64)) (n:=8) (mem_part (d0.memA (.tl .hd)) 1 8) (Aq (cs:=[vU b0.fl.1]) (ds:=[vU b0.fl.2.1,vU b0.fl.2.2.1,vU b0.fl.2.2.2.1,vU b0.fl.2.2.2.2.1,vU b0.fl.2.2.2.2.2.1,vU b0.fl.2.2.2.2.2.2.1,vU b0.fl.2.2.2.2.2.2.2]) rfl (Aq (cs:=[vU b0.fl.2.1]) (ds:=[vU b0.fl.2.2.1,vU b0.fl.2.2.2.1,vU b0.fl.2.2.2.2.1,vU b0.fl.2.2.2.2.2.1,vU b0.fl.2.2.2.2.2.2.1,vU b0.fl.2.2.2.2.2.2.2]) rfl (Aq (cs:=[vU b0.fl.2.2.1]) (ds:=[vU b0.fl.2.2.2.1,vU b0.fl.2.2.2.2.1,vU b0.fl.2.2.2.2.2.1,vU b0.fl.2.2.2.2.2.2.1,vU b0.fl.2.2.2.2.2.2.2]) rfl (Aq (cs:=[vU b0.fl.2.2.2.1]) (ds:=[vU b0.fl.2.2.2.2.1,vU b0.fl.2.2.2.2.2.1,vU b0.fl.2.2.2.2.2.2.1,vU b0.fl.2.2.2.2.2.2.2]) rfl (Aq (cs:=[vU b0.fl.2.2.2.2.1]) (ds:=[vU b0.fl.2.2.2.2.2.1,vU b0.fl.2.2.2.2.2.2.1,vU b0.fl.2.2.2.2.2.2.2]) rfl (Aq (cs:=[vU b0.fl.2.2.2.2.2.1]) (ds:=[vU b0.fl.2.2.2.2.2.2.1,vU b0.fl.2.2.2.2.2.2.2]) rfl (Aq (cs:=[vU b0.fl.2.2.2.2.2.2.1]) (ds:=[vU b0.fl.2.2.2.2.2.2.2]) rfl (Aq (cs:=[vU b0.fl.2.2.2.2.2.2.2]) (ds:=[]) rfl (AM _ _))))))))) rfl)) (fun v0 R0 ⟨s0,k0,t0,u0⟩=>?_)
 refine AE 1 63 192 c0 rfl z0 (AH rfl ((k0.memA (.tl .hd)) 0 _ rfl)) rfl ?_
 obtain ⟨c1,P0⟩:=AJ k0 (.one .hd (.one (.tl .hd) .done))
 have t1:=AF u0 P0
 have x1:=Tt x0 (Tt t0 P0)
 exact B0 (v0,s0) _ _ ⟨rfl,rfl,rfl,trivial⟩ ⟨c1,x1,t1⟩
def tb87_3:List (Nat × Nat × Nat):=[(0,1024,4),(1,2048,1024),(0,4096,8),(6,8192,4096),(10,16384,10240),(16,32768,16384),(32,65536,32768),(32,131072,32768),(255,0,65552),(511,32,131072)]
theorem op_A39 {w:World} {L:List Nat} {cs:List Value} {x:UInt64 × UInt64 × UInt64 × UInt64 × UInt64 × UInt64 × UInt64 × UInt64} (h:Rep.R w L cs x):cs = [vU x.1,vU x.2.1,vU x.2.2.1,vU x.2.2.2.1,vU x.2.2.2.2.1,vU x.2.2.2.2.2.1,vU x.2.2.2.2.2.2.1,vU x.2.2.2.2.2.2.2]:=by
  obtain ⟨c0,r0,rfl,h0,h⟩:=h
  have e0:c0 = [vU x.1]:=h0; subst e0
  obtain ⟨c1,r1,rfl,h1,h⟩:=h
  have e1:c1 = [vU x.2.1]:=h1; subst e1
  obtain ⟨c2,r2,rfl,h2,h⟩:=h
  have e2:c2 = [vU x.2.2.1]:=h2; subst e2
  obtain ⟨c3,r3,rfl,h3,h⟩:=h
  have e3:c3 = [vU x.2.2.2.1]:=h3; subst e3
  obtain ⟨c4,r4,rfl,h4,h⟩:=h
  have e4:c4 = [vU x.2.2.2.2.1]:=h4; subst e4
  obtain ⟨c5,r5,rfl,h5,h⟩:=h
  have e5:c5 = [vU x.2.2.2.2.2.1]:=h5; subst e5
  obtain ⟨c6,r6,rfl,h6,h⟩:=h
  have e6:c6 = [vU x.2.2.2.2.2.2.1]:=h6; subst e6
  have e7:r6 = [vU x.2.2.2.2.2.2.2]:=h; subst e7
  rfl
theorem mk_A39 {w:World} {L:List Nat} (a0:UInt64) (a1:UInt64) (a2:UInt64) (a3:UInt64) (a4:UInt64) (a5:UInt64) (a6:UInt64) (a7:UInt64):Rep.R w L [vU a0,vU a1,vU a2,vU a3,vU a4,vU a5,vU a6,vU a7] ((a0,a1,a2,a3,a4,a5,a6,a7):UInt64 × UInt64 × UInt64 × UInt64 × UInt64 × UInt64 × UInt64 × UInt64):=⟨[vU a0],[vU a1,vU a2,vU a3,vU a4,vU a5,vU a6,vU a7],rfl,rfl,⟨[vU a1],[vU a2,vU a3,vU a4,vU a5,vU a6,vU a7],rfl,rfl,⟨[vU a2],[vU a3,vU a4,vU a5,vU a6,vU a7],rfl,rfl,⟨[vU a3],[vU a4,vU a5,vU a6,vU a7],rfl,rfl,⟨[vU a4],[vU a5,vU a6,vU a7],rfl,rfl,⟨[vU a5],[vU a6,vU a7],rfl,rfl,⟨[vU a6],[vU a7],rfl,rfl,rfl⟩⟩⟩⟩⟩⟩⟩
theorem body98:bodyB Tryz.prog 98 = true:=by kernel_rfl
theorem body101:bodyB Tryz.prog 101 = true:=by kernel_rfl
theorem body126:bodyB Tryz.prog 126 = true:=by kernel_rfl
theorem ex_A39 {a b:UInt64 × UInt64 × UInt64 × UInt64 × UInt64 × UInt64 × UInt64 × UInt64} (h0:a.1 = b.1) (h1:a.2.1 = b.2.1) (h2:a.2.2.1 = b.2.2.1) (h3:a.2.2.2.1 = b.2.2.2.1) (h4:a.2.2.2.2.1 = b.2.2.2.2.1) (h5:a.2.2.2.2.2.1 = b.2.2.2.2.2.1) (h6:a.2.2.2.2.2.2.1 = b.2.2.2.2.2.2.1) (h7:a.2.2.2.2.2.2.2 = b.2.2.2.2.2.2.2):a = b:=Prod.ext h0 (Prod.ext h1 (Prod.ext h2 (Prod.ext h3 (Prod.ext h4 (Prod.ext h5 (Prod.ext h6 (h7)))))))
theorem eqlD_40 (a b:UInt64 × UInt64 × UInt64 × UInt64 × UInt64 × UInt64 × UInt64 × UInt64) (w9:World):(do eqGuard .eql 40 (.tmp 0) (.tmp 0) (.agg #[vU a.1,vU a.2.1,vU a.2.2.1,vU a.2.2.2.1,vU a.2.2.2.2.1,vU a.2.2.2.2.2.1,vU a.2.2.2.2.2.2.1,vU a.2.2.2.2.2.2.2]) (.agg #[vU b.1,vU b.2.1,vU b.2.2.1,vU b.2.2.2.1,vU b.2.2.2.2.1,vU b.2.2.2.2.2.1,vU b.2.2.2.2.2.2.1,vU b.2.2.2.2.2.2.2]); binOp .eql 40 (.agg #[vU a.1,vU a.2.1,vU a.2.2.1,vU a.2.2.2.1,vU a.2.2.2.2.1,vU a.2.2.2.2.2.1,vU a.2.2.2.2.2.2.1,vU a.2.2.2.2.2.2.2]) (.agg #[vU b.1,vU b.2.1,vU b.2.2.1,vU b.2.2.2.1,vU b.2.2.2.2.1,vU b.2.2.2.2.2.1,vU b.2.2.2.2.2.2.1,vU b.2.2.2.2.2.2.2]):Sem Value).run Tryz.prog w9 = .ok (.bool (decide (a = b))) w9:=
  eqAgg (ks:=[.int .u64,.int .u64,.int .u64,.int .u64,.int .u64,.int .u64,.int .u64,.int .u64]) (xs:=[vU a.1,vU a.2.1,vU a.2.2.1,vU a.2.2.2.1,vU a.2.2.2.2.1,vU a.2.2.2.2.2.1,vU a.2.2.2.2.2.2.1,vU a.2.2.2.2.2.2.2]) (ys:=[vU b.1,vU b.2.1,vU b.2.2.1,vU b.2.2.2.1,vU b.2.2.2.2.1,vU b.2.2.2.2.2.1,vU b.2.2.2.2.2.2.1,vU b.2.2.2.2.2.2.2]) (by kernel_rfl) (by kernel_rfl) (by kernel_rfl) rfl rfl ⟨fun h=>by
    simp only [allEq,veq,Bool.and_eq_true,beq_iff_eq,and_true] at h
    obtain ⟨h0,h1,h2,h3,h4,h5,h6,h7⟩:=h
    exact ex_A39 (UInt_inj64 h0) (UInt_inj64 h1) (UInt_inj64 h2) (UInt_inj64 h3) (UInt_inj64 h4) (UInt_inj64 h5) (UInt_inj64 h6) (UInt_inj64 h7),fun h=>by subst h; simp [allEq,veq]⟩ _ _ w9
def share_Make_p (n:Nat) (a0:UInt64 × UInt64 × UInt64 × UInt64 × UInt64 × UInt64 × UInt64 × UInt64) (a1:UInt64 × UInt64 × UInt64 × UInt64 × UInt64 × UInt64 × UInt64 × UInt64):Option (TShare × Int):=
  (if a1 = ((0:UInt64),(0:UInt64),(0:UInt64),(0:UInt64),(0:UInt64),(0:UInt64),(0:UInt64),(0:UInt64)) then some ((⟨((0:UInt64),(0:UInt64),(0:UInt64),(0:UInt64),(0:UInt64),(0:UInt64),(0:UInt64),(0:UInt64)),((0:UInt64),(0:UInt64),(0:UInt64),(0:UInt64),(0:UInt64),(0:UInt64),(0:UInt64),(0:UInt64))⟩:TShare),(7:Int)) else (wide_Longer_p n a0).bind fun c0=>(wide_Longer_p n a1).bind fun d0=>(share_Lowest_p n c0 d0).bind fun g0=>(share_Ratio_Told_p n g0).bind fun b0=>some (b0.1,b0.2))
theorem share_Make_c (n:Nat) (L:List Nat) (w:World) (hL:∀ b ∈ L,b < w.heap.size) (a0:UInt64 × UInt64 × UInt64 × UInt64 × UInt64 × UInt64 × UInt64 × UInt64) (a1:UInt64 × UInt64 × UInt64 × UInt64 × UInt64 × UInt64 × UInt64 × UInt64)  {r:TShare × Int} (h:share_Make_p n a0 a1 = some r) :
    Calls Tryz.prog 87 #[.agg ((cs_A39 a0)).toArray,.agg ((cs_A39 a1)).toArray] w (Gives w fun _ u=>u = .tuple #[.agg ((cs_TShare r.1)).toArray,vI r.2]):=by
 unfold share_Make_p at h
 have hS0:=AA w
 refine AC Tryz.func87 rfl rfl rfl (fun _ cs0 hb0=>?_)
 refine Ae<|Al .plain rfl (Ax hS0 rfl rfl) (fun t1 Q0 u0 V0=>?_)
 refine Al .plain rfl (Ax u0 rfl rfl) (fun u1 R0 v0 W0=>?_)
 refine Al .plain rfl (AD zL v0) (fun v1 U0 c0 X0=>?_)
 refine Af rfl<|Aa<|Aj<|Ae<|Ab (AG rfl (c0.memA (.tl .hd)))<|Ab (AW (vs:=[]) (u:=.agg zQ) evs_nil (fun w9=>by kernel_rfl))<|Ab (FV.eqlV (v:=.agg ((cs_A39 a1)).toArray) (u:=.agg zQ) rfl rfl (eqlD_40 a1 ((0:UInt64),(0:UInt64),(0:UInt64),(0:UInt64),(0:UInt64),(0:UInt64),(0:UInt64),(0:UInt64))))<|Aa<|AO rfl h (fun t0 h=>?_) (fun t0 h=>?_)
 refine Ae<|Ab (AW (vs:=[]) (u:=.agg zM) evs_nil (fun w9=>by kernel_rfl))<|AY zL c0 .hd (onesB rfl) (fun x1 k0 Y0=>?_)
 refine Af rfl<|Aa<|Ak rfl<|Ao hb0 Tryz.func87 rfl (.cons (.many (cs:=zL) (by kernel_rfl) rfl (k0.memA .hd)) (.cons (.tmp rfl) .nil)) rfl ?_
 cases h
 exact k0.gv
 refine Ap<|Aj<|dt 8 tb87_3 (fun b0 d0=>?_)
 refine AE 0 1 1018 b0 rfl d0 (AG rfl (c0.memA (.tl (.tl .hd)))) rfl<|AE 2 5 1016 b0 rfl d0 (AG rfl (c0.memA (.tl .hd))) rfl ?_
 obtain ⟨K0,G0,h⟩:=bi h
 refine BC 1 7 b0 rfl .plain body126 rfl (e1 rfl) (fun w9 hw9=>wide_Longer_c n _ w9 (c0.hL hL hw9) a0 G0) rfl (fun y1 p1 y0 ⟨d1,hu_,C0⟩=>?_)
 subst hu_
 obtain ⟨p0,Z0⟩:=c0.agr y0
 obtain ⟨M0,H0,h⟩:=bi h
 refine BC 3 15 b0 rfl .plain body126 rfl (e1 rfl) (fun w9 hw9=>wide_Longer_c n _ w9 (p0.hL hL hw9) a1 H0) rfl (fun z1 q1 z0 ⟨g1,hu_,D0⟩=>?_)
 subst hu_
 obtain ⟨q0,x0⟩:=p0.agr z0
 obtain ⟨P0,I0,h⟩:=bi h
 have B0:=Ay C0 x0
 refine BC 4 31 b0 rfl .plain body101 rfl (e2 rfl rfl) (fun w9 hw9=>share_Lowest_c n _ w9 (q0.hL hL hw9) K0 (Aw B0 hw9) M0 (Aw D0 hw9) I0) rfl (fun A1 s1 A0 ⟨j1,k1,hu_,E0,F0⟩=>?_)
 subst hu_
 obtain ⟨g0,b1⟩:=q0.agr A0
 obtain ⟨j0,J0,h⟩:=bi h
 refine RD.cq 5 63 960 (.tuple #[.agg ((cs_TShare j0.1)).toArray,vI j0.2]) b0 rfl d0 body98 rfl (e1 rfl) (fun w9 hw9=>share_Ratio_Told_c n _ w9 (g0.hL0 hL hw9) P0 (g0.kd E0 hw9) (g0.kd F0 hw9) J0) rfl<|Ah 6 127 b0 rfl d0 (fun _=>Ag rfl rfl) rfl<|Ah 7 255 b0 rfl d0 (fun _=>Ag rfl rfl) rfl<|By 8 511 b0 rfl rfl .plain (Az (news:=(cs_TShare j0.1)) g0 .hd rfl rfl rfl rfl rfl rfl (onesB rfl)) (fun B1 s0 c1=>?_)
 refine BB (i:=9) (rk b0) (RO.val (m' :=1023) (sk b0) rfl .plain rfl (AX rfl) ?_)
 refine AK (dk b0)<|Ak rfl<|Ao hb0 Tryz.func87 rfl (.cons (.many (cs:=(cs_TShare j0.1)) (by kernel_rfl) rfl (s0.memA .hd)) (.cons (.tmp rfl) .nil)) rfl ?_
 cases h
 exact s0.gv
def wide_Of_l1 (_n:Nat) (t0:Nat × UInt64 × UInt64 × UInt64 × UInt64 × UInt64 × UInt64 × UInt64 × UInt64 → Option (UInt64 × UInt64 × UInt64 × UInt64 × UInt64 × UInt64 × UInt64 × UInt64)):Nat × UInt64 × UInt64 × UInt64 × UInt64 × UInt64 × UInt64 × UInt64 × UInt64 → Option (UInt64 × UInt64 × UInt64 × UInt64 × UInt64 × UInt64 × UInt64 × UInt64)
  | (b0,c0,d0,g0,j0,k0,p0,q0,s0)=>(if b0 < 8 then (([c0,d0,g0,j0,k0,p0,q0,s0]:List UInt64)[b0]?).bind fun _z71=>t0 (b0 + 1,setA b0 0 (18446744073709551615:UInt64) c0,setA b0 1 (18446744073709551615:UInt64) d0,setA b0 2 (18446744073709551615:UInt64) g0,setA b0 3 (18446744073709551615:UInt64) j0,setA b0 4 (18446744073709551615:UInt64) k0,setA b0 5 (18446744073709551615:UInt64) p0,setA b0 6 (18446744073709551615:UInt64) q0,setA b0 7 (18446744073709551615:UInt64) s0) else some (c0,d0,g0,j0,k0,p0,q0,s0))
def wide_Of_p (n:Nat) (a0:Int):Option (UInt64 × UInt64 × UInt64 × UInt64 × UInt64 × UInt64 × UInt64 × UInt64):=
  (if a0 < 0 then Option.bind (loopF (wide_Of_l1 n) n (1,u64of a0,(0:UInt64),(0:UInt64),(0:UInt64),(0:UInt64),(0:UInt64),(0:UInt64),(0:UInt64))) (fun (b0,c0,d0,g0,j0,k0,p0,q0)=>some (b0,c0,d0,g0,j0,k0,p0,q0)) else some (u64of a0,(0:UInt64),(0:UInt64),(0:UInt64),(0:UInt64),(0:UInt64),(0:UInt64),(0:UInt64)))
theorem wide_Of_c (n:Nat) (L:List Nat) (w:World) (_hL:∀ b ∈ L,b < w.heap.size) (a0:Int)  {r:UInt64 × UInt64 × UInt64 × UInt64 × UInt64 × UInt64 × UInt64 × UInt64} (h:wide_Of_p n a0 = some r) :
    Calls Tryz.prog 88 #[vI a0] w (Gives w fun _ u=>u = .agg ((cs_A39 r)).toArray):=by
 unfold wide_Of_p at h
 have hS0:=AA w
 refine AC Tryz.func88 rfl rfl rfl (fun _ cs0 hb0=>?_)
 refine Ae<|Al .plain rfl (AD zP hS0) (fun b1 u0 F0 R0=>?_)
 refine Aa<|Ae<|Ac rfl<|Ab (FV.convU (i:=a0) Tryz.underlying3 Tryz.underlying28 rfl)<|Ab (AW (vs:=[vW ((u64of a0).toNat:Int)]) (u:=.agg #[vW ((u64of a0).toNat:Int),vW 0,vW 0,vW 0,vW 0,vW 0,vW 0,vW 0]) (e1 rfl) (fun w9=>by kernel_rfl))<|Al .plain rfl (AD zP F0) (fun c1 t0 G0 U0=>?_)
 refine AY [vW ((u64of a0).toNat:Int),vW 0,vW 0,vW 0,vW 0,vW 0,vW 0,vW 0] G0 .hd (onesB rfl) (fun P0 x0 V0=>?_)
 refine Aa<|Aj<|Ae<|Ac rfl<|Ab (FV.lss (i:=a0) (j:=0) rfl rfl)<|Aa<|AO rfl h (fun C0 h=>?_) (fun C0 h=>?_)
 refine Ae<|Af rfl<|Aa<|Ar ?_
 obtain ⟨Z0,M0,K0⟩:=bind_in2 h
 refine Bc (α:=Nat × UInt64 × UInt64 × UInt64 × UInt64 × UInt64 × UInt64 × UInt64 × UInt64) (fun ⟨b0,c0,d0,g0,j0,k0,p0,q0,s0⟩=>[(2,vP u0),(3,vP t0),(4,vI ((b0:Nat):Int))]) (fun ⟨b0,c0,d0,g0,j0,k0,p0,q0,s0⟩ z0=>St w z0 [.cells t0 [vU c0,vU d0,vU g0,vU j0,vU k0,vU p0,vU q0,vU s0] 40,.cells u0 zP 40]∧Tr P0 [.cells t0 [vW ((u64of a0).toNat:Int),vW 0,vW 0,vW 0,vW 0,vW 0,vW 0,vW 0] 40,.cells u0 zP 40] z0 [.cells t0 [vU c0,vU d0,vU g0,vU j0,vU k0,vU p0,vU q0,vU s0] 40,.cells u0 zP 40]) (fun ⟨b0,c0,d0,g0,j0,k0,p0,q0,s0⟩=>(b0,c0,d0,g0,j0,k0,p0,q0,s0)) (1,u64of a0,(0:UInt64),(0:UInt64),(0:UInt64),(0:UInt64),(0:UInt64),(0:UInt64),(0:UInt64)) M0 ⟨rfl,rfl,rfl,trivial⟩ ⟨x0,AP _ _⟩ ?_
 rintro Q0 ⟨b0,c0,d0,g0,j0,k0,p0,q0,s0⟩ z0 E0 ⟨v0,I0⟩ h
 unfold wide_Of_l1 at h
 try dsimp only at h
 refine Aj<|Ae<|Ac rfl<|Ab (Bd (i:=b0) (j:=8) rfl rfl)<|Aa<|AO rfl h (fun D0 h=>?_) (fun D0 h=>?_)
 refine Ap<|Aj<|Ar<|Am<|Ac rfl ?_
 obtain ⟨k1,y0,h⟩:=bi h
 have Y0:=mem_elem1 (p:=⟨t0,0,none⟩) (cs:=([c0,d0,g0,j0,k0,p0,q0,s0]:List UInt64).map (fun z9:UInt64=>(vU z9:Value)) ++ []) (i:=b0) (v0.memA .hd) (arr_get (fun z9:UInt64=>(vU z9:Value)) y0)
 refine Ab (AT (m:=1) (k:=b0) (len:=8) (by kernel_rfl) rfl rfl rfl (arr_lt y0 rfl))<|RG.now .plain (Acts.storeArr (fun z9:UInt64=>(vU z9:Value)) (xs:=([c0,d0,g0,j0,k0,p0,q0,s0]:List UInt64)) (pre:=[]) (post:=[]) (i:=b0) (m:=8) (x:=(18446744073709551615:UInt64)) (old:=[vU c0,vU d0,vU g0,vU j0,vU k0,vU p0,vU q0,vU s0]) (new' :=[vW ((setA b0 0 (18446744073709551615:UInt64) c0).toNat:Int),vW ((setA b0 1 (18446744073709551615:UInt64) d0).toNat:Int),vW ((setA b0 2 (18446744073709551615:UInt64) g0).toNat:Int),vW ((setA b0 3 (18446744073709551615:UInt64) j0).toNat:Int),vW ((setA b0 4 (18446744073709551615:UInt64) k0).toNat:Int),vW ((setA b0 5 (18446744073709551615:UInt64) p0).toNat:Int),vW ((setA b0 6 (18446744073709551615:UInt64) q0).toNat:Int),vW ((setA b0 7 (18446744073709551615:UInt64) s0).toNat:Int)]) rfl rfl (arr_lt y0 rfl) v0 .hd rfl (addr_at _ _ _) rfl (by kernel_rfl) (fun _=>⟨rfl,rfl⟩) rfl rfl) (fun d1 H0 J0=>?_)
 refine Aa<|Av<|Am<|Ac rfl<|Ab (Bi (i:=b0) (j:=1) rfl rfl (by omega))<|Af rfl<|Aa ?_
 exact E0 (b0 + 1,setA b0 0 (18446744073709551615:UInt64) c0,setA b0 1 (18446744073709551615:UInt64) d0,setA b0 2 (18446744073709551615:UInt64) g0,setA b0 3 (18446744073709551615:UInt64) j0,setA b0 4 (18446744073709551615:UInt64) k0,setA b0 5 (18446744073709551615:UInt64) p0,setA b0 6 (18446744073709551615:UInt64) q0,setA b0 7 (18446744073709551615:UInt64) s0) _ _ ⟨rfl,rfl,rfl,trivial⟩ ⟨H0,(Tt I0 J0)⟩ h
 refine AU rfl ?_
 have h:=K0 _ h
 try dsimp only at h
 refine Ae<|Ab (AG rfl (v0.memA .hd))<|AY [vU c0,vU d0,vU g0,vU j0,vU k0,vU p0,vU q0,vU s0] v0 (.tl .hd) (onesB rfl) (fun g1 A0 W0=>?_)
 refine Aa<|Ak rfl<|Ao hb0 Tryz.func88 rfl (.cons (.many (cs:=[vU c0,vU d0,vU g0,vU j0,vU k0,vU p0,vU q0,vU s0]) (by kernel_rfl) rfl (A0.memA (.tl .hd))) .nil) rfl ?_
 cases h
 exact A0.gv
 refine Ap<|Ae<|Ab (AG rfl (x0.memA .hd))<|AY [vW ((u64of a0).toNat:Int),vW 0,vW 0,vW 0,vW 0,vW 0,vW 0,vW 0] x0 (.tl .hd) (onesB rfl) (fun j1 B0 X0=>?_)
 refine Aa<|Ak rfl<|Ao hb0 Tryz.func88 rfl (.cons (.many (cs:=[vW ((u64of a0).toNat:Int),vW 0,vW 0,vW 0,vW 0,vW 0,vW 0,vW 0]) (by kernel_rfl) rfl (B0.memA (.tl .hd))) .nil) rfl ?_
 cases h
 exact B0.gv
theorem body87:bodyB Tryz.prog 87 = true:=by kernel_rfl
theorem body88:bodyB Tryz.prog 88 = true:=by kernel_rfl
def share_Of_p (n:Nat) (a0:Int) (a1:Int):Option (TShare × Int):=
  (wide_Of_p n a0).bind fun c0=>(wide_Of_p n a1).bind fun d0=>(share_Make_p n c0 d0).bind fun b0=>some (b0.1,b0.2)
theorem share_Of_c (n:Nat) (L:List Nat) (w:World) (hL:∀ b ∈ L,b < w.heap.size) (a0:Int) (a1:Int)  {r:TShare × Int} (h:share_Of_p n a0 a1 = some r) :
    Calls Tryz.prog 45 #[vI a0,vI a1] w (Gives w fun _ u=>u = .tuple #[.agg ((cs_TShare r.1)).toArray,vI r.2]):=by
 unfold share_Of_p at h
 have hS0:=AA w
 refine AC Tryz.func45 rfl rfl rfl (fun _ cs0 hb0=>?_)
 refine Ae<|Al .plain rfl (AD zL hS0) (fun v0 s0 b0 t0=>?_)
 refine Af rfl<|Aa<|Ae<|Ac rfl ?_
 obtain ⟨g0,k0,h⟩:=bi h
 refine Bb (.agg ((cs_A39 g0)).toArray) body88 rfl (e1 rfl) (fun w9 hw9=>wide_Of_c n _ w9 (b0.hL0 hL hw9) a0 k0) rfl<|Ac rfl ?_
 obtain ⟨j0,p0,h⟩:=bi h
 refine Bb (.agg ((cs_A39 j0)).toArray) body88 rfl (e1 rfl) (fun w9 hw9=>wide_Of_c n _ w9 (b0.hL0 hL hw9) a1 p0) rfl ?_
 obtain ⟨c0,q0,h⟩:=bi h
 refine Bb (.tuple #[.agg ((cs_TShare c0.1)).toArray,vI c0.2]) body87 rfl (e2 rfl rfl) (fun w9 hw9=>share_Make_c n _ w9 (b0.hL0 hL hw9) g0 j0 q0) rfl<|Ab (Ag rfl rfl)<|Ab (Ag rfl rfl)<|AY (cs_TShare c0.1) b0 .hd (onesB rfl) (fun x0 d0 u0=>?_)
 refine Af rfl<|Aa<|Ak rfl<|Ao hb0 Tryz.func45 rfl (.cons (.many (cs:=(cs_TShare c0.1)) (by kernel_rfl) rfl (d0.memA .hd)) (.cons (.tmp rfl) .nil)) rfl ?_
 cases h
 exact d0.gv
def math_bits_OnesCount64_p (_n:Nat) (a0:UInt64):Option Int:=
  (some (((shrU a0 1) &&& (6148914691236517205:UInt64)) + (a0 &&& (6148914691236517205:UInt64)))).bind fun u1=>(some (((shrU u1 2) &&& (3689348814741910323:UInt64)) + (u1 &&& (3689348814741910323:UInt64)))).bind fun u2=>(some ((((shrU u2 4) + u2) &&& (1085102592571150095:UInt64)) + (shrU (((shrU u2 4) + u2) &&& (1085102592571150095:UInt64)) 8))).bind fun u3=>some (andI (i64of ((u3 + (shrU u3 16)) + (shrU (u3 + (shrU u3 16)) 32))) 127)
theorem math_bits_OnesCount64_c (n:Nat) (L:List Nat) (w:World) (_hL:∀ b ∈ L,b < w.heap.size) (a0:UInt64)  {r:Int} (h:math_bits_OnesCount64_p n a0 = some r) :
    Calls Tryz.prog 46 #[vU a0] w (Gives w fun _ u=>u = vI r):=by
 unfold math_bits_OnesCount64_p at h
 have hS0:=AA w
 refine AC Tryz.func46 rfl rfl rfl (fun _ cs0 hb0=>?_)
 refine Ae<|Af rfl<|Aa<|Ae<|Ac rfl<|Ab (FV.shrU (a:=a0) (j:=1) rfl rfl)<|Ab (FV.andU (a:=shrU a0 1) (b:=(6148914691236517205:UInt64)) rfl rfl)<|Ac rfl<|Ab (FV.andU (a:=a0) (b:=(6148914691236517205:UInt64)) rfl rfl) ?_
 obtain ⟨u1,hu1,h⟩:=bi h
 refine Ab (FV.as (FV.addU (a:=(shrU a0 1) &&& (6148914691236517205:UInt64)) (b:=a0 &&& (6148914691236517205:UInt64)) rfl rfl) (congrArg (fun z:UInt64=>Value.int .u64 (z.toNat:Int)) (Option.some.inj hu1)))<|Af rfl<|Aa<|Ae<|Ac rfl<|Ab (FV.shrU (a:=u1) (j:=2) rfl rfl)<|Ab (FV.andU (a:=shrU u1 2) (b:=(3689348814741910323:UInt64)) rfl rfl)<|Ac rfl<|Ab (FV.andU (a:=u1) (b:=(3689348814741910323:UInt64)) rfl rfl) ?_
 obtain ⟨u2,hu2,h⟩:=bi h
 refine Ab (FV.as (FV.addU (a:=(shrU u1 2) &&& (3689348814741910323:UInt64)) (b:=u1 &&& (3689348814741910323:UInt64)) rfl rfl) (congrArg (fun z:UInt64=>Value.int .u64 (z.toNat:Int)) (Option.some.inj hu2)))<|Af rfl<|Aa<|Ae<|Ac rfl<|Ab (FV.shrU (a:=u2) (j:=4) rfl rfl)<|Ac rfl<|Ab (FV.addU (a:=shrU u2 4) (b:=u2) rfl rfl)<|Ab (FV.andU (a:=(shrU u2 4) + u2) (b:=(1085102592571150095:UInt64)) rfl rfl)<|Af rfl<|Aa<|Ae<|Ac rfl<|Ac rfl<|Ab (FV.shrU (a:=((shrU u2 4) + u2) &&& (1085102592571150095:UInt64)) (j:=8) rfl rfl) ?_
 obtain ⟨u3,hu3,h⟩:=bi h
 refine Ab (FV.as (FV.addU (a:=((shrU u2 4) + u2) &&& (1085102592571150095:UInt64)) (b:=shrU (((shrU u2 4) + u2) &&& (1085102592571150095:UInt64)) 8) rfl rfl) (congrArg (fun z:UInt64=>Value.int .u64 (z.toNat:Int)) (Option.some.inj hu3)))<|Af rfl<|Aa<|Ae<|Ac rfl<|Ac rfl<|Ab (FV.shrU (a:=u3) (j:=16) rfl rfl)<|Ab (FV.addU (a:=u3) (b:=shrU u3 16) rfl rfl)<|Af rfl<|Aa<|Ae<|Ac rfl<|Ac rfl<|Ab (FV.shrU (a:=u3 + (shrU u3 16)) (j:=32) rfl rfl)<|Ab (FV.addU (a:=u3 + (shrU u3 16)) (b:=shrU (u3 + (shrU u3 16)) 32) rfl rfl)<|Af rfl<|Aa<|Ae<|Ac rfl<|Ab (FV.convUI (a:=(u3 + (shrU u3 16)) + (shrU (u3 + (shrU u3 16)) 32)) Tryz.underlying28 Tryz.underlying3 rfl)<|Ab (FV.andI (i:=i64of ((u3 + (shrU u3 16)) + (shrU (u3 + (shrU u3 16)) 32))) (j:=127) rfl rfl)<|Af rfl<|Aa<|Ak rfl ?_
 refine AQ hb0 Tryz.func46 rfl rfl ?_
 cases h
 exact hS0.gv
theorem body45:bodyB Tryz.prog 45 = true:=by kernel_rfl
theorem body46:bodyB Tryz.prog 46 = true:=by kernel_rfl
def interest_Overlap_p (n:Nat) (a0:UInt64) (a1:UInt64):Option (TShare × Int):=
  (if (a0 ||| a1) = (0:UInt64) then some ((⟨((0:UInt64),(0:UInt64),(0:UInt64),(0:UInt64),(0:UInt64),(0:UInt64),(0:UInt64),(0:UInt64)),((0:UInt64),(0:UInt64),(0:UInt64),(0:UInt64),(0:UInt64),(0:UInt64),(0:UInt64),(0:UInt64))⟩:TShare),(7:Int)) else (math_bits_OnesCount64_p n (a0 &&& a1)).bind fun c0=>(math_bits_OnesCount64_p n (a0 ||| a1)).bind fun d0=>(share_Of_p n c0 d0).bind fun b0=>some (b0.1,b0.2))
theorem interest_Overlap_c (n:Nat) (L:List Nat) (w:World) (hL:∀ b ∈ L,b < w.heap.size) (a0:UInt64) (a1:UInt64)  {r:TShare × Int} (h:interest_Overlap_p n a0 a1 = some r) :
    Calls Tryz.prog 15 #[vU a0,vU a1] w (Gives w fun _ u=>u = .tuple #[.agg ((cs_TShare r.1)).toArray,vI r.2]):=by
 unfold interest_Overlap_p at h
 have hS0:=AA w
 refine AC Tryz.func15 rfl rfl rfl (fun _ cs0 hb0=>?_)
 refine Ae<|Al .plain rfl (AD zL hS0) (fun z0 u0 b0 v0=>?_)
 refine Af rfl<|Aa<|Aj<|Ae<|Ac rfl<|Ac rfl<|Ab (FV.orU (a:=a0) (b:=a1) rfl rfl)<|Ab (FV.eqlU (a:=a0 ||| a1) (b:=(0:UInt64)) rfl rfl)<|Aa<|AO rfl h (fun p0 h=>?_) (fun p0 h=>?_)
 refine Ae<|Ab (AW (vs:=[]) (u:=.agg zM) evs_nil (fun w9=>by kernel_rfl))<|AY zL b0 .hd (onesB rfl) (fun A0 d0 x0=>?_)
 refine Af rfl<|Aa<|Ak rfl<|Ao hb0 Tryz.func15 rfl (.cons (.many (cs:=zL) (by kernel_rfl) rfl (d0.memA .hd)) (.cons (.tmp rfl) .nil)) rfl ?_
 cases h
 exact d0.gv
 refine Ap<|Ae<|Ac rfl<|Ac rfl<|Ab (FV.andU (a:=a0) (b:=a1) rfl rfl) ?_
 obtain ⟨j0,q0,h⟩:=bi h
 refine Bb (vI j0) body46 rfl (e1 rfl) (fun w9 hw9=>math_bits_OnesCount64_c n _ w9 (b0.hL0 hL hw9) (a0 &&& a1) q0) rfl<|Ac rfl<|Ac rfl<|Ab (FV.orU (a:=a0) (b:=a1) rfl rfl) ?_
 obtain ⟨k0,s0,h⟩:=bi h
 refine Bb (vI k0) body46 rfl (e1 rfl) (fun w9 hw9=>math_bits_OnesCount64_c n _ w9 (b0.hL0 hL hw9) (a0 ||| a1) s0) rfl ?_
 obtain ⟨c0,t0,h⟩:=bi h
 refine Bb (.tuple #[.agg ((cs_TShare c0.1)).toArray,vI c0.2]) body45 rfl (e2 rfl rfl) (fun w9 hw9=>share_Of_c n _ w9 (b0.hL0 hL hw9) j0 k0 t0) rfl<|Ab (Ag rfl rfl)<|Ab (Ag rfl rfl)<|AY (cs_TShare c0.1) b0 .hd (onesB rfl) (fun B0 g0 y0=>?_)
 refine Af rfl<|Aa<|Ak rfl<|Ao hb0 Tryz.func15 rfl (.cons (.many (cs:=(cs_TShare c0.1)) (by kernel_rfl) rfl (g0.memA .hd)) (.cons (.tmp rfl) .nil)) rfl ?_
 cases h
 exact g0.gv
structure Tbroken where
  fw:Int
  deriving DecidableEq
instance:Rep Tbroken:=Rep.via (β:=Int) fun x=>x.fw
def interest_need_p (_n:Nat) (a0:Int):Option (Except Tbroken Unit):=
  (if a0 = 0 then some (.ok ()) else some (.error (⟨a0⟩:Tbroken)))
theorem interest_need_c (n:Nat) (L:List Nat) (w:World) (_hL:∀ b ∈ L,b < w.heap.size) (a0:Int)  {r:Except Tbroken Unit} (h:interest_need_p n a0 = some r) :
    Calls Tryz.prog 94 #[vI a0] w (PGives w (fun (_y:Unit) _ u=>u = .tuple #[]) (fun e=>.iface 176 (.agg #[vI e.fw])) r):=by
 unfold interest_need_p at h
 have hS0:=AA w
 refine MX.startP Tryz.func94 rfl rfl rfl (fun _ cs0 hb0 hp0=>?_)
 refine Ae<|Ac rfl<|Ab (FV.neq (i:=a0) (j:=0) rfl rfl)<|Aa<|MX.ifn rfl h (fun c1 h=>?_) (fun c1 h=>?_)
 refine Ap<|MX.fin rfl<|Ao hb0 Tryz.func94 rfl .nil rfl ?_
 cases h
 exact ⟨hS0.ag,fun w9 hw9=>okOf_in rfl⟩
 refine Am<|Ac rfl<|Ab (AW (vs:=[vI a0]) (u:=.agg #[vI a0]) (e1 rfl) (fun w9=>by kernel_rfl))<|Ab (FV.makeInterface (by kernel_rfl) rfl)<|RG.panic .plain rfl ?_
 cases h
 exact Bq hp0 Tryz.func94 ⟨hS0.ag,rfl⟩
def balance_need_p (_n:Nat) (a0:Int):Option (Except Tbroken Unit):=
  (if a0 = 0 then some (.ok ()) else some (.error (⟨a0⟩:Tbroken)))
theorem balance_need_c (n:Nat) (L:List Nat) (w:World) (_hL:∀ b ∈ L,b < w.heap.size) (a0:Int)  {r:Except Tbroken Unit} (h:balance_need_p n a0 = some r) :
    Calls Tryz.prog 165 #[vI a0] w (PGives w (fun (_y:Unit) _ u=>u = .tuple #[]) (fun e=>.iface 237 (.agg #[vI e.fw])) r):=by
 unfold balance_need_p at h
 have hS0:=AA w
 refine MX.startP Tryz.func165 rfl rfl rfl (fun _ cs0 hb0 hp0=>?_)
 refine Ae<|Ac rfl<|Ab (FV.neq (i:=a0) (j:=0) rfl rfl)<|Aa<|MX.ifn rfl h (fun c1 h=>?_) (fun c1 h=>?_)
 refine Ap<|MX.fin rfl<|Ao hb0 Tryz.func165 rfl .nil rfl ?_
 cases h
 exact ⟨hS0.ag,fun w9 hw9=>okOf_in rfl⟩
 refine Am<|Ac rfl<|Ab (AW (vs:=[vI a0]) (u:=.agg #[vI a0]) (e1 rfl) (fun w9=>by kernel_rfl))<|Ab (FV.makeInterface (by kernel_rfl) rfl)<|RG.panic .plain rfl ?_
 cases h
 exact Bq hp0 Tryz.func165 ⟨hS0.ag,rfl⟩
def slices_Index_bool_bool_l1 (_n:Nat) (a0:List Bool) (a1:Bool) (c0:Nat → Option (Int ⊕ Unit)):Nat → Option (Int ⊕ Unit)
  | b0=>(if b0 < a0.length then (a0[b0]?).bind fun d0=>(if (a1 == d0) = true then some (.inl ((b0:Nat):Int)) else c0 (b0 + 1)) else some (.inr ()))
def slices_Index_bool_bool_p (n:Nat) (a0:List Bool) (a1:Bool):Option Int:=
  thn (loopF (slices_Index_bool_bool_l1 n a0 a1) n 0) (fun _=>some (-1:Int))
theorem slices_Index_bool_bool_c (n:Nat) (L:List Nat) (w:World) (_hL:∀ b ∈ L,b < w.heap.size) (a0:List Bool) {v0_0:Value} (h0_0:Rep.R w L [v0_0] a0) (a1:Bool)  {r:Int} (h:slices_Index_bool_bool_p n a0 a1 = some r) :
    Calls Tryz.prog 206 #[v0_0,.bool a1] w (Gives w fun _ u=>u = vI r):=by
 unfold slices_Index_bool_bool_p at h
 have hS0:=AA w
 refine AC Tryz.func206 rfl rfl rfl (fun _ cs0 hb0=>?_)
 refine Ae<|Af rfl<|Aa<|Aj<|Ae<|Ac rfl ?_
 have hl1:a0.length ≤ 281474976710656:=AR h0_0
 refine Ab (AZ (xs:=a0) Tryz.underlying72 rfl h0_0)<|Ac rfl<|Aa<|Ar ?_
 obtain ⟨G0,A0,g0⟩:=thn_in h
 refine Bc (α:=Nat) (fun b0=>[(0,v0_0),(1,.bool a1),(7,vI ((a0.length:Nat):Int)),(8,vI ((b0:Nat):Int))]) (fun b0 d0=>St w d0 []∧Tr w [] d0 []) (fun b0=>b0) 0 A0 ⟨rfl,rfl,rfl,rfl,trivial⟩ ⟨hS0,AP _ _⟩ ?_
 rintro E0 b0 d0 s0 ⟨c0,t0⟩ h
 unfold slices_Index_bool_bool_l1 at h
 try dsimp only at h
 refine Ae<|Ab (Bd (i:=b0) (j:=a0.length) rfl rfl)<|Aa<|Aj<|AO rfl h (fun k0 h=>?_) (fun k0 h=>?_)
 refine Ap<|Aj<|Ar<|Ae<|Ac rfl<|Af rfl<|Aa<|Ae<|Ac rfl<|Ac rfl<|Ac rfl ?_
 obtain ⟨j0,C0,h⟩:=bi h
 have z0:=AI h0_0 c0
 obtain ⟨D0,F0,u0,x0,q0,B0,y0⟩:=Bk z0 C0
 have v0:q0 = [.bool j0]:=B0; subst v0
 refine Ab (Bn 1 b0 rfl u0 rfl rfl x0)<|Ba rfl (y0 0 _ rfl)<|Ab (FV.eqlB (a:=a1) (b:=j0) Tryz.underlying4 rfl rfl)<|Aa<|MX.ifb rfl h (fun p0 h=>?_) (fun p0 h=>?_)
 refine Ae<|Ac rfl<|Af rfl<|Aa ?_
 have h:=thn_inl h g0
 refine Ak rfl<|AQ hb0 Tryz.func206 rfl rfl ?_
 cases h
 exact c0.gv
 refine Ap<|Av<|Am<|Ab (Bi (i:=b0) (j:=1) rfl rfl (by omega))<|Ac rfl<|Aa ?_
 exact s0 (b0 + 1) _ _ ⟨rfl,rfl,rfl,rfl,trivial⟩ ⟨c0,t0⟩ h
 refine AU rfl ?_
 have h:=thn_inr h g0
 try dsimp only at h
 refine Ae<|Af rfl<|Aa<|Ak rfl<|AQ hb0 Tryz.func206 rfl rfl ?_
 cases h
 exact c0.gv
theorem body206:bodyB Tryz.prog 206 = true:=by kernel_rfl
def slices_Contains_bool_bool_p (n:Nat) (a0:List Bool) (a1:Bool):Option Bool:=
  (slices_Index_bool_bool_p n a0 a1).bind fun y1=>some (decide (0 ≤ y1))
theorem slices_Contains_bool_bool_c (n:Nat) (L:List Nat) (w:World) (hL:∀ b ∈ L,b < w.heap.size) (a0:List Bool) {v0_0:Value} (h0_0:Rep.R w L [v0_0] a0) (a1:Bool)  {r:Bool} (h:slices_Contains_bool_bool_p n a0 a1 = some r) :
    Calls Tryz.prog 200 #[v0_0,.bool a1] w (Gives w fun _ u=>u = .bool r):=by
 unfold slices_Contains_bool_bool_p at h
 have hS0:=AA w
 refine AC Tryz.func200 rfl rfl rfl (fun _ cs0 hb0=>?_)
 refine Ae<|Af rfl<|Aa<|Ae<|Ac rfl<|Ac rfl ?_
 obtain ⟨y1,hy1,h⟩:=bi h
 refine Bb (vI y1) body206 rfl (e2 rfl rfl) (fun w9 hw9=>slices_Index_bool_bool_c n _ w9 (hS0.hL0 hL hw9) a0 (hS0.kd h0_0 hw9) a1 hy1) rfl<|Ab (FV.geq (i:=y1) (j:=0) rfl rfl)<|Af rfl<|Aa<|Ak rfl<|AQ hb0 Tryz.func200 rfl rfl ?_
 cases h
 exact hS0.gv
theorem body200:bodyB Tryz.prog 200 = true:=by kernel_rfl
def units_every_p (n:Nat) (a0:List Bool):Option Bool:=
  (slices_Contains_bool_bool_p n a0 false).bind fun y1=>some (!y1)
theorem units_every_c (n:Nat) (L:List Nat) (w:World) (hL:∀ b ∈ L,b < w.heap.size) (a0:List Bool) {v0_0:Value} (h0_0:Rep.R w L [v0_0] a0)  {r:Bool} (h:units_every_p n a0 = some r) :
    Calls Tryz.prog 189 #[v0_0] w (Gives w fun _ u=>u = .bool r):=by
 unfold units_every_p at h
 have hS0:=AA w
 refine AC Tryz.func189 rfl rfl rfl (fun _ cs0 hb0=>?_)
 refine Ae<|Af rfl<|Aa<|Ae<|Ac rfl ?_
 obtain ⟨y1,hy1,h⟩:=bi h
 refine Bb (.bool y1) body200 rfl (e2 rfl rfl) (fun w9 hw9=>slices_Contains_bool_bool_c n _ w9 (hS0.hL0 hL hw9) a0 (hS0.kd h0_0 hw9) false hy1) rfl<|Ab (Bv rfl)<|Af rfl<|Aa<|Ak rfl<|AQ hb0 Tryz.func189 rfl rfl ?_
 cases h
 exact hS0.gv
def strings_trimLeftByte_l1 (_n:Nat) (a1:UInt8) (c0:ByteArray → Option ByteArray):ByteArray → Option ByteArray
  | b0=>(if 0 < b0.size then (b0.data[0]?).bind fun g0=>(if g0.toNat = a1.toNat then (scut b0 1 (b0.size:Int)).bind fun d0=>c0 d0 else some b0) else some b0)
def strings_trimLeftByte_p (n:Nat) (a0:ByteArray) (a1:UInt8):Option ByteArray:=
  jn (fun c0=>some c0) (fun b0=>Option.bind (loopF (strings_trimLeftByte_l1 n a1) n a0) (b0))
theorem strings_trimLeftByte_c (n:Nat) (L:List Nat) (w:World) (_hL:∀ b ∈ L,b < w.heap.size) (a0:ByteArray) (a1:UInt8)  {r:ByteArray} (h:strings_trimLeftByte_p n a0 a1 = some r) :
    Calls Tryz.prog 207 #[.string a0,.int .u8 (a1.toNat:Int)] w (Gives w fun _ u=>u = .string r):=by
 unfold strings_trimLeftByte_p at h
 have hS0:=AA w
 refine AC Tryz.func207 rfl rfl rfl (fun _ cs0 hb0=>?_)
 refine Ae<|Af rfl<|Aa<|Aj<|Ar<|MX.joinx (α:=ByteArray) (fun c0=>[(0,.string c0)]) (fun c0 j0=>St w j0 []∧Tr w [] j0 []) (fun c0=>c0) (id:=0) rfl h ?_ ?_
 rintro c0 j0 ⟨v0,E0⟩ h
 try dsimp only at h
 refine Ae<|Ac rfl<|Af rfl<|Aa<|Ak rfl<|AQ hb0 Tryz.func207 rfl rfl ?_
 cases h
 exact v0.gv
 intro C0 p0 h
 try dsimp only at h
 obtain ⟨F0,x0,q0⟩:=bind_in2 h
 refine Bc (α:=ByteArray) (fun b0=>[(0,.string b0),(1,.int .u8 (a1.toNat:Int))]) (fun b0 k0=>St w k0 []∧Tr w [] k0 []) (fun b0=>b0) a0 x0 ⟨rfl,rfl,trivial⟩ ⟨hS0,AP _ _⟩ ?_
 rintro D0 b0 k0 u0 ⟨d0,g0⟩ h
 unfold strings_trimLeftByte_l1 at h
 try dsimp only at h
 refine Aj<|Ae<|Ac rfl<|Ab (Bs Tryz.underlying9 rfl)<|Ab (FV.gtrN (i:=b0.size) (j:=0) rfl rfl)<|Ac rfl<|RG.ifd (s:=8) rfl h (fun s0 h=>?_) (fun s0 h=>?_)
 refine AN (Ai rfl) ?_
 obtain ⟨B0,z0,h⟩:=bi h
 refine AN (FV.strAt (k:=0) Tryz.underlying9 rfl rfl rfl z0)<|AN (Ai rfl)<|AN (FV.eqlN (i:=B0.toNat) (j:=a1.toNat) rfl rfl)<|Bx rfl rfl<|Aa<|AO rfl h (fun t0 h=>?_) (fun t0 h=>?_)
 refine Ap<|Ar<|Am<|Ac rfl ?_
 obtain ⟨A0,y0,h⟩:=bi h
 refine Ab (FV.strCut y0 Tryz.underlying9 rfl ⟨_,rfl⟩ rfl)<|Af rfl<|Aa<|Av ?_
 exact u0 A0 _ _ ⟨rfl,rfl,trivial⟩ ⟨d0,g0⟩ h
 refine AU rfl ?_
 have h:=q0 _ h
 try dsimp only at h
 exact p0 b0 _ _ ⟨rfl,trivial⟩ ⟨d0,g0⟩ h
 refine Au<|Au<|Au<|Au<|BA rfl rfl<|Aa<|Bo rfl<|AU rfl ?_
 have h:=q0 _ h
 try dsimp only at h
 exact p0 b0 _ _ ⟨rfl,trivial⟩ ⟨d0,g0⟩ h
def strings_trimRightByte_l1 (_n:Nat) (a1:UInt8) (c0:ByteArray → Option ByteArray):ByteArray → Option ByteArray
  | b0=>(if 0 < b0.size then (chk (((b0.size:Nat):Int) - 1)).bind fun d0=>(sidx b0 d0).bind fun k0=>(if k0.toNat = a1.toNat then (chk (((b0.size:Nat):Int) - 1)).bind fun g0=>(scut b0 0 g0).bind fun j0=>c0 j0 else some b0) else some b0)
def strings_trimRightByte_p (n:Nat) (a0:ByteArray) (a1:UInt8):Option ByteArray:=
  jn (fun c0=>some c0) (fun b0=>Option.bind (loopF (strings_trimRightByte_l1 n a1) n a0) (b0))
theorem strings_trimRightByte_c (n:Nat) (L:List Nat) (w:World) (_hL:∀ b ∈ L,b < w.heap.size) (a0:ByteArray) (a1:UInt8)  {r:ByteArray} (h:strings_trimRightByte_p n a0 a1 = some r) :
    Calls Tryz.prog 208 #[.string a0,.int .u8 (a1.toNat:Int)] w (Gives w fun _ u=>u = .string r):=by
 unfold strings_trimRightByte_p at h
 have hS0:=AA w
 refine AC Tryz.func208 rfl rfl rfl (fun _ cs0 hb0=>?_)
 refine Ae<|Af rfl<|Aa<|Aj<|Ar<|MX.joinx (α:=ByteArray) (fun c0=>[(0,.string c0)]) (fun c0 j0=>St w j0 []∧Tr w [] j0 []) (fun c0=>c0) (id:=0) rfl h ?_ ?_
 rintro c0 j0 ⟨v0,J0⟩ h
 try dsimp only at h
 refine Ae<|Ac rfl<|Af rfl<|Aa<|Ak rfl<|AQ hb0 Tryz.func208 rfl rfl ?_
 cases h
 exact v0.gv
 intro H0 p0 h
 try dsimp only at h
 obtain ⟨K0,y0,q0⟩:=bind_in2 h
 refine Bc (α:=ByteArray) (fun b0=>[(0,.string b0),(1,.int .u8 (a1.toNat:Int))]) (fun b0 k0=>St w k0 []∧Tr w [] k0 []) (fun b0=>b0) a0 y0 ⟨rfl,rfl,trivial⟩ ⟨hS0,AP _ _⟩ ?_
 rintro I0 b0 k0 u0 ⟨d0,g0⟩ h
 unfold strings_trimRightByte_l1 at h
 try dsimp only at h
 refine Aj<|Ae<|Ac rfl<|Ab (Bs Tryz.underlying9 rfl)<|Ab (FV.gtrN (i:=b0.size) (j:=0) rfl rfl)<|Ac rfl<|RG.ifd (s:=8) rfl h (fun s0 h=>?_) (fun s0 h=>?_)
 refine AN (Ai rfl)<|AN (Ai rfl)<|AN (Bs Tryz.underlying9 rfl) ?_
 obtain ⟨E0,z0,h⟩:=bi h
 refine AN (FV.subc (i:=((b0.size:Nat):Int)) (j:=1) rfl rfl z0) ?_
 obtain ⟨G0,D0,h⟩:=bi h
 obtain ⟨x0,C0⟩:=sidx_in D0
 refine AN (FV.strAt (k:=E0.toNat) Tryz.underlying9 rfl rfl x0 C0)<|AN (Ai rfl)<|AN (FV.eqlN (i:=G0.toNat) (j:=a1.toNat) rfl rfl)<|Bx rfl rfl<|Aa<|AO rfl h (fun t0 h=>?_) (fun t0 h=>?_)
 refine Ap<|Ar<|Am<|Ac rfl<|Ac rfl<|Ab (Bs Tryz.underlying9 rfl) ?_
 obtain ⟨M0,A0,h⟩:=bi h
 refine Ab (FV.subc (i:=((b0.size:Nat):Int)) (j:=1) rfl rfl A0) ?_
 obtain ⟨F0,B0,h⟩:=bi h
 refine Ab (FV.strCut B0 Tryz.underlying9 rfl rfl ⟨_,rfl⟩)<|Af rfl<|Aa<|Av ?_
 exact u0 F0 _ _ ⟨rfl,rfl,trivial⟩ ⟨d0,g0⟩ h
 refine AU rfl ?_
 have h:=q0 _ h
 try dsimp only at h
 exact p0 b0 _ _ ⟨rfl,trivial⟩ ⟨d0,g0⟩ h
 refine Au<|Au<|Au<|Au<|Au<|Au<|Au<|BA rfl rfl<|Aa<|Bo rfl<|AU rfl ?_
 have h:=q0 _ h
 try dsimp only at h
 exact p0 b0 _ _ ⟨rfl,trivial⟩ ⟨d0,g0⟩ h
def internal_stringslite_IndexByte_p (_n:Nat) (_a0:ByteArray) (_a1:UInt8):Option Int:=
  none
theorem internal_stringslite_IndexByte_c (n:Nat) (L:List Nat) (w:World) (_hL:∀ b ∈ L,b < w.heap.size) (a0:ByteArray) (a1:UInt8)  {r:Int} (h:internal_stringslite_IndexByte_p n a0 a1 = some r) :
    Calls Tryz.prog 228 #[.string a0,.int .u8 (a1.toNat:Int)] w (Gives w fun _ u=>u = vI r):=by
 unfold internal_stringslite_IndexByte_p at h
 have hS0:=AA w
 refine AC Tryz.func228 rfl rfl rfl (fun _ cs0 hb0=>?_)
 refine Ae<|Af rfl<|Aa<|Ae<|Ac rfl<|Ac rfl ?_
 cases h
theorem body228:bodyB Tryz.prog 228 = true:=by kernel_rfl
def strings_IndexByte_p (n:Nat) (a0:ByteArray) (a1:UInt8):Option Int:=
  (internal_stringslite_IndexByte_p n a0 a1).bind fun y1=>some y1
theorem strings_IndexByte_c (n:Nat) (L:List Nat) (w:World) (hL:∀ b ∈ L,b < w.heap.size) (a0:ByteArray) (a1:UInt8)  {r:Int} (h:strings_IndexByte_p n a0 a1 = some r) :
    Calls Tryz.prog 224 #[.string a0,.int .u8 (a1.toNat:Int)] w (Gives w fun _ u=>u = vI r):=by
 unfold strings_IndexByte_p at h
 have hS0:=AA w
 refine AC Tryz.func224 rfl rfl rfl (fun _ cs0 hb0=>?_)
 refine Ae<|Af rfl<|Aa<|Ae<|Ac rfl<|Ac rfl ?_
 obtain ⟨y1,hy1,h⟩:=bi h
 refine Bb (vI y1) body228 rfl (e2 rfl rfl) (fun w9 hw9=>internal_stringslite_IndexByte_c n _ w9 (hS0.hL0 hL hw9) a0 a1 hy1) rfl<|Af rfl<|Aa<|Ak rfl<|AQ hb0 Tryz.func224 rfl rfl ?_
 cases h
 exact hS0.gv
def unicode_utf8_ValidRune_p (_n:Nat) (a0:Int):Option Bool:=
  (if 0 ≤ a0 then (if a0 < 55296 then some true else (if 57343 < a0 then (if a0 ≤ 1114111 then some true else some false) else some false)) else (if 57343 < a0 then (if a0 ≤ 1114111 then some true else some false) else some false))
theorem unicode_utf8_ValidRune_c (n:Nat) (L:List Nat) (w:World) (_hL:∀ b ∈ L,b < w.heap.size) (a0:Int)  {r:Bool} (h:unicode_utf8_ValidRune_p n a0 = some r) :
    Calls Tryz.prog 225 #[.int .i32 a0] w (Gives w fun _ u=>u = .bool r):=by
 unfold unicode_utf8_ValidRune_p at h
 have hS0:=AA w
 refine AC Tryz.func225 rfl rfl rfl (fun _ cs0 hb0=>?_)
 refine Ae<|Af rfl<|Aa<|Aj<|Ar<|Ae<|Ac rfl<|Ab (FV.leq (i:=0) (j:=a0) rfl rfl)<|Ac rfl<|RG.ifd (s:=6) rfl h (fun c1 h=>?_) (fun c1 h=>?_)
 refine AN (Ai rfl)<|AN (FV.lss (i:=a0) (j:=55296) rfl rfl)<|Bx rfl rfl<|Af rfl<|Aa<|AO rfl h (fun c2 h=>?_) (fun c2 h=>?_)
 refine Ae<|Af rfl<|Aa<|Ak rfl<|AQ hb0 Tryz.func225 rfl rfl ?_
 cases h
 exact hS0.gv
 refine Ae<|Ac rfl<|Ab (FV.lss (i:=57343) (j:=a0) rfl rfl)<|Ac rfl<|RG.ifd (s:=13) rfl h (fun c3 h=>?_) (fun c3 h=>?_)
 refine AN (Ai rfl)<|AN (FV.leq (i:=a0) (j:=1114111) rfl rfl)<|Bx rfl rfl<|Af rfl<|Aa<|AO rfl h (fun c4 h=>?_) (fun c4 h=>?_)
 refine Ae<|Af rfl<|Aa<|Ak rfl<|AQ hb0 Tryz.func225 rfl rfl ?_
 cases h
 exact hS0.gv
 refine Ap<|Av<|Ae<|Af rfl<|Aa<|Ak rfl<|AQ hb0 Tryz.func225 rfl rfl ?_
 cases h
 exact hS0.gv
 refine Au<|Au<|BA rfl rfl<|Af rfl<|Aa<|Bo rfl<|Ap<|Av<|Ae<|Af rfl<|Aa<|Ak rfl<|AQ hb0 Tryz.func225 rfl rfl ?_
 cases h
 exact hS0.gv
 refine Au<|Au<|BA rfl rfl<|Af rfl<|Aa<|Bo rfl<|Ae<|Ac rfl<|Ab (FV.lss (i:=57343) (j:=a0) rfl rfl)<|Ac rfl<|RG.ifd (s:=13) rfl h (fun c5 h=>?_) (fun c5 h=>?_)
 refine AN (Ai rfl)<|AN (FV.leq (i:=a0) (j:=1114111) rfl rfl)<|Bx rfl rfl<|Af rfl<|Aa<|AO rfl h (fun c6 h=>?_) (fun c6 h=>?_)
 refine Ae<|Af rfl<|Aa<|Ak rfl<|AQ hb0 Tryz.func225 rfl rfl ?_
 cases h
 exact hS0.gv
 refine Ap<|Av<|Ae<|Af rfl<|Aa<|Ak rfl<|AQ hb0 Tryz.func225 rfl rfl ?_
 cases h
 exact hS0.gv
 refine Au<|Au<|BA rfl rfl<|Af rfl<|Aa<|Bo rfl<|Ap<|Av<|Ae<|Af rfl<|Aa<|Ak rfl<|AQ hb0 Tryz.func225 rfl rfl ?_
 cases h
 exact hS0.gv
def internal_bytealg_Cutover_p (_n:Nat) (a0:Int):Option Int:=
  (chk (a0 + 16)).bind fun s1=>(quoI s1 8).bind fun s2=>some s2
theorem internal_bytealg_Cutover_c (n:Nat) (L:List Nat) (w:World) (_hL:∀ b ∈ L,b < w.heap.size) (a0:Int)  {r:Int} (h:internal_bytealg_Cutover_p n a0 = some r) :
    Calls Tryz.prog 226 #[vI a0] w (Gives w fun _ u=>u = vI r):=by
 unfold internal_bytealg_Cutover_p at h
 have hS0:=AA w
 refine AC Tryz.func226 rfl rfl rfl (fun _ cs0 hb0=>?_)
 refine Ae<|Af rfl<|Aa<|Ae<|Ac rfl ?_
 obtain ⟨s1,hs1,h⟩:=bi h
 refine Ab (FV.addc (i:=a0) (j:=16) rfl rfl hs1) ?_
 obtain ⟨s2,hs2,h⟩:=bi h
 refine Ab (FV.quoc (i:=s1) (j:=8) rfl rfl hs2)<|Af rfl<|Aa<|Ak rfl<|AQ hb0 Tryz.func226 rfl rfl ?_
 cases h
 exact hS0.gv
def unicode_utf8_RuneStart_p (_n:Nat) (a0:UInt8):Option Bool:=
  some (!(decide (((a0 &&& (192:UInt8)).toNat) = 128)))
theorem unicode_utf8_RuneStart_c (n:Nat) (L:List Nat) (w:World) (_hL:∀ b ∈ L,b < w.heap.size) (a0:UInt8)  {r:Bool} (h:unicode_utf8_RuneStart_p n a0 = some r) :
    Calls Tryz.prog 223 #[.int .u8 (a0.toNat:Int)] w (Gives w fun _ u=>u = .bool r):=by
 unfold unicode_utf8_RuneStart_p at h
 have hS0:=AA w
 refine AC Tryz.func223 rfl rfl rfl (fun _ cs0 hb0=>?_)
 refine Ae<|Af rfl<|Aa<|Ae<|Ac rfl<|Ab (FV.and8 (a:=a0) (b:=(192:UInt8)) rfl rfl)<|Ab (FV.neqN (i:=(a0 &&& (192:UInt8)).toNat) (j:=128) rfl rfl)<|Af rfl<|Aa<|Ak rfl<|AQ hb0 Tryz.func223 rfl rfl ?_
 cases h
 exact hS0.gv
def tb201_4:List (Nat × Nat × Nat):=[(0,4194304,1),(0,8388608,2),(2,16777216,8388608),(5,33554432,20971520),(0,67108864,2),(16,134217728,67108864),(40,268435456,167772160),(127,16,268435456)]
theorem body207:bodyB Tryz.prog 207 = true:=by kernel_rfl
theorem body208:bodyB Tryz.prog 208 = true:=by kernel_rfl
theorem body209:bodyB Tryz.prog 209 = true:=by kernel_rfl
theorem body210:bodyB Tryz.prog 210 = true:=by kernel_rfl
theorem body211:bodyB Tryz.prog 211 = true:=by kernel_rfl
theorem body216:bodyB Tryz.prog 216 = true:=by kernel_rfl
def strings_Trim_l1 (_n:Nat) (g0:List Bool) (c0:ByteArray → Option ByteArray):ByteArray → Option ByteArray
  | b0=>(if 0 < b0.size then (b0.data[0]?).bind fun j0=>(g0[j0.toNat]?).bind fun k0=>(if k0 = true then (scut b0 1 (b0.size:Int)).bind fun d0=>c0 d0 else some b0) else some b0)
def strings_Trim_l2 (_n:Nat) (k0:List Bool) (c0:ByteArray → Option ByteArray):ByteArray → Option ByteArray
  | b0=>(if 0 < b0.size then (chk (((b0.size:Nat):Int) - 1)).bind fun d0=>(sidx b0 d0).bind fun p0=>(k0[p0.toNat]?).bind fun q0=>(if q0 = true then (chk (((b0.size:Nat):Int) - 1)).bind fun g0=>(scut b0 0 g0).bind fun j0=>c0 j0 else some b0) else some b0)
def strings_Trim_l3 (_n:Nat) (a1:ByteArray) (g0:Nat × (List Bool) → Option (ByteArray ⊕ (List Bool))):Nat × (List Bool) → Option (ByteArray ⊕ (List Bool))
  | (b0,c0)=>(if b0 < a1.size then (a1.data[b0]?).bind fun d0=>(if 128 ≤ d0.toNat then (none).map .inl else (c0[d0.toNat]?).bind fun _z82=>g0 (b0 + 1,(c0.set d0.toNat true))) else some (.inr c0))
def strings_Trim_l4 (_n:Nat) (g0:List Bool) (c0:ByteArray → Option ByteArray):ByteArray → Option ByteArray
  | b0=>(if 0 < b0.size then (b0.data[0]?).bind fun j0=>(g0[j0.toNat]?).bind fun k0=>(if k0 = true then (scut b0 1 (b0.size:Int)).bind fun d0=>c0 d0 else some b0) else some b0)
def strings_Trim_l5 (_n:Nat) (k0:List Bool) (c0:ByteArray → Option ByteArray):ByteArray → Option ByteArray
  | b0=>(if 0 < b0.size then (chk (((b0.size:Nat):Int) - 1)).bind fun d0=>(sidx b0 d0).bind fun p0=>(k0[p0.toNat]?).bind fun q0=>(if q0 = true then (chk (((b0.size:Nat):Int) - 1)).bind fun g0=>(scut b0 0 g0).bind fun j0=>c0 j0 else some b0) else some b0)
def strings_Trim_l6 (_n:Nat) (a1:ByteArray) (g0:Int × (List Bool) → Option (ByteArray ⊕ (List Bool))):Int × (List Bool) → Option (ByteArray ⊕ (List Bool))
  | (c0,b0)=>(if c0 < ((a1.size:Nat):Int) then (sidx a1 c0).bind fun d0=>(if 128 ≤ d0.toNat then (none).map .inl else (b0[d0.toNat]?).bind fun _z372=>(chk (c0 + 1)).bind fun j0=>g0 (j0,(b0.set d0.toNat true))) else some (.inr b0))
def strings_Trim_p (n:Nat) (a0:ByteArray) (a1:ByteArray):Option ByteArray:=
  (if a0 = ⟨#[]⟩ then some a0 else (if a1 = ⟨#[]⟩ then some a0 else (if a1.size = 1 then (a1.data[0]?).bind fun z4=>(if z4.toNat < 128 then (a1.data[0]?).bind fun z8=>(strings_trimRightByte_p n a0 z8).bind fun y9=>(a1.data[0]?).bind fun v0=>(strings_trimLeftByte_p n y9 v0).bind fun u0=>some u0 else thn (loopF (strings_Trim_l3 n a1) n (0,(List.replicate 256 false))) (fun c0=>jn (fun p0=>jn (fun q0=>some q0) (fun g0=>Option.bind (loopF (strings_Trim_l1 n c0) n p0) (g0))) (fun d0=>Option.bind (loopF (strings_Trim_l2 n c0) n a0) (d0)))) else thn (loopF (strings_Trim_l6 n a1) n (0,(List.replicate 256 false))) (fun b0=>jn (fun s0=>jn (fun t0=>some t0) (fun k0=>Option.bind (loopF (strings_Trim_l4 n b0) n s0) (k0))) (fun j0=>Option.bind (loopF (strings_Trim_l5 n b0) n a0) (j0))))))
theorem strings_Trim_c (n:Nat) (L:List Nat) (w:World) (hL:∀ b ∈ L,b < w.heap.size) (a0:ByteArray) (a1:ByteArray)  {r:ByteArray} (h:strings_Trim_p n a0 a1 = some r) :
    Calls Tryz.prog 201 #[.string a0,.string a1] w (Gives w fun _ u=>u = .string r):=by
 unfold strings_Trim_p at h
 have hS0:=AA w
 refine AC Tryz.func201 rfl rfl rfl (fun _ cs0 hb0=>?_)
 refine Ae<|Af rfl<|Aa<|Aj<|Ae<|Ac rfl<|Ab (FV.eqlS rfl rfl)<|Ac rfl<|RG.ifd (s:=9) rfl h (fun c1 h=>?_) (fun c1 h=>?_)
 refine Au<|Au<|Bx rfl rfl<|Aa<|Bf rfl<|Ae<|Ac rfl<|Af rfl<|Aa<|Ak rfl<|AQ hb0 Tryz.func201 rfl rfl ?_
 cases h
 exact hS0.gv
 refine AN (Ai rfl)<|AN (FV.eqlS rfl rfl)<|BA rfl rfl<|Aa<|AO rfl h (fun c2 h=>?_) (fun c2 h=>?_)
 refine Ae<|Ac rfl<|Af rfl<|Aa<|Ak rfl<|AQ hb0 Tryz.func201 rfl rfl ?_
 cases h
 exact hS0.gv
 refine Ap<|Aj<|Ae<|Ac rfl<|Ab (Bs Tryz.underlying9 rfl)<|Ab (FV.eqlN (i:=a1.size) (j:=1) rfl rfl)<|Ac rfl<|RG.ifd (s:=17) rfl h (fun c3 h=>?_) (fun c3 h=>?_)
 refine AN (Ai rfl) ?_
 obtain ⟨z4,hz4,h⟩:=bi h
 refine AN (FV.strAt (k:=0) Tryz.underlying9 rfl rfl rfl hz4)<|AN (Bd (i:=z4.toNat) (j:=128) rfl rfl)<|Bx rfl rfl<|Aa<|AO rfl h (fun c5 h=>?_) (fun c5 h=>?_)
 refine Aj<|dt 8 tb201_4 (fun kt6 kp7=>?_)
 refine Ah 0 1 kt6 rfl kp7 (fun _=>Ai rfl) rfl<|Ah 1 3 kt6 rfl kp7 (fun _=>Ai rfl) rfl ?_
 obtain ⟨z8,hz8,h⟩:=bi h
 refine Ah 2 7 kt6 rfl kp7 (fun _=>FV.strAt (k:=0) Tryz.underlying9 rfl rfl rfl hz8) rfl ?_
 obtain ⟨y9,hy9,h⟩:=bi h
 refine RD.cq 3 15 192 (.string y9) kt6 rfl kp7 body208 rfl (e2 rfl rfl) (fun w9 hw9=>strings_trimRightByte_c n _ w9 (hS0.hL0 hL hw9) a0 z8 hy9) rfl<|Ah 4 31 kt6 rfl kp7 (fun _=>Ai rfl) rfl ?_
 obtain ⟨Q4,u4,h⟩:=bi h
 refine Ah 5 63 kt6 rfl kp7 (fun _=>FV.strAt (k:=0) Tryz.underlying9 rfl rfl rfl u4) rfl ?_
 obtain ⟨P4,t4,h⟩:=bi h
 refine RD.cq 6 127 128 (.string P4) kt6 rfl kp7 body207 rfl (e2 rfl rfl) (fun w9 hw9=>strings_trimLeftByte_c n _ w9 (hS0.hL0 hL hw9) y9 Q4 t4) rfl<|Ah 7 255 kt6 rfl kp7 (fun _=>AX rfl) rfl<|AK (dk kt6)<|Ak rfl<|AQ hb0 Tryz.func201 rfl rfl ?_
 cases h
 exact hS0.gv
 refine Ap<|Aj<|Ae<|Ac rfl<|Br (fst:=[]) (cap:=[]) (vs:=[.string a1]) .plain body209 Tryz.func209 rfl rfl rfl rfl (e1 rfl) rfl (fun v5 H1 q6=>?_)
 refine Ae ?_
 have A3:(List.replicate 256 false).length = 256:=List.length_replicate
 refine Al .plain rfl (AD ((List.replicate 256 false).map (fun z9:Bool=>(.bool z9:Value))) hS0) (fun K4 z0 F2 I5=>?_)
 refine Af rfl<|Aa<|Aj<|Ae<|Af rfl<|Aa<|Ar ?_
 obtain ⟨G6,W3,R1⟩:=thn_in h
 refine Bc (α:=Nat × (List Bool)) (fun ⟨s0,c0⟩=>[(0,.string a1),(2,vP z0),(4,vI ((s0:Nat):Int))]) (fun ⟨s0,c0⟩ p1=>St w p1 [.cells z0 (c0.map (fun z9:Bool=>(.bool z9:Value))) 274]∧Tr K4 [.cells z0 ((List.replicate 256 false).map (fun z9:Bool=>(.bool z9:Value))) 274] p1 [.cells z0 (c0.map (fun z9:Bool=>(.bool z9:Value))) 274]∧c0.length = 256) (fun ⟨s0,c0⟩=>(s0,c0)) (0,(List.replicate 256 false)) W3 ⟨rfl,rfl,rfl,trivial⟩ ⟨F2,AP _ _,A3⟩ ?_
 rintro q5 ⟨s0,c0⟩ p1 D2 ⟨C0,d3,k0⟩ h
 unfold strings_Trim_l3 at h
 try dsimp only at h
 refine Aj<|Ae<|Ac rfl<|Ac rfl<|Ab (Bs Tryz.underlying9 rfl)<|Ab (Bd (i:=s0) (j:=a1.size) rfl rfl)<|Aa<|AO rfl h (fun v2 h=>?_) (fun v2 h=>?_)
 refine Ap<|Aj<|Ar<|Ae<|Ac rfl<|Ac rfl ?_
 obtain ⟨G0,C4,h⟩:=bi h
 refine Ab (FV.strAt (k:=s0) Tryz.underlying9 rfl rfl rfl C4)<|Af rfl<|Aa<|Aj<|Ae<|Ac rfl<|Ab (FV.geqN (i:=G0.toNat) (j:=128) rfl rfl)<|Aa<|AO rfl h (fun x2 h=>?_) (fun x2 h=>?_)
 refine Ae<|Ab (Bp (cs:=c0.map (fun z9:Bool=>(.bool z9:Value))) (by rw [List.length_map,k0]; kernel_rfl) rfl (C0.memA .hd))<|RG.now .plain (Acts.storeBig (fun z9:Bool=>(.bool z9:Value)) (m:=256) k0 k0 C0 .hd rfl rfl (by kernel_rfl) (fun _=>rfl)) (fun U6 D1 Y5=>?_)
 refine Af rfl<|Aa ?_
 have h:=thn_map h R1
 refine Ak rfl<|Ao (u:=.tuple #[.agg (c0.map (fun z9:Bool=>(.bool z9:Value))).toArray,.bool false]) H1 Tryz.func209 rfl (.cons (.many (cs:=c0.map (fun z9:Bool=>(.bool z9:Value))) (by rw [List.length_map,k0]; kernel_rfl) rfl (D1.memA .hd)) (.cons (.tmp rfl) .nil)) rfl<|Ac rfl<|Ab (Ag rfl rfl)<|Ab (Ag rfl rfl) ?_
 have F3:(List.replicate 256 false).length = 256:=List.length_replicate
 refine Al .plain rfl (AD ((List.replicate 256 false).map (fun z9:Bool=>(.bool z9:Value))) D1) (fun V6 t5 V2 Z5=>?_)
 refine RG.now .plain (Acts.storeBig (fun z9:Bool=>(.bool z9:Value)) (m:=256) F3 k0 V2 .hd rfl rfl (by kernel_rfl) (fun _=>rfl)) (fun W6 G5 b6=>?_)
 refine Af rfl<|Aa<|Ae<|Ac rfl<|Aa<|Bo rfl<|Ap<|Ae<|Ac rfl<|Ac rfl ?_
 cases h
 refine Ap<|Am<|Ac rfl ?_
 obtain ⟨c7,X0,h⟩:=bi h
 have k6:=mem_elem1 (p:=⟨z0,0,none⟩) (cs:=c0.map (fun z9:Bool=>(.bool z9:Value))) (i:=G0.toNat) (C0.memA .hd) (arr_get0 (fun z9:Bool=>(.bool z9:Value)) X0)
 refine Ab (AT (m:=1) (k:=G0.toNat) (len:=256) (by kernel_rfl) rfl rfl rfl (arr_lt X0 k0)) ?_
 have G3:(c0.set G0.toNat true).length = 256:=by rw [List.length_set]; exact k0
 refine RG.now .plain (Acts.setBig (fun z9:Bool=>(.bool z9:Value)) (i:=G0.toNat) (x:=true) (m:=256) k0 (arr_lt X0 k0) C0 .hd rfl (addr_at _ _ _) rfl (by kernel_rfl) (fun _=>⟨rfl,rfl⟩)) (fun X6 W2 g3=>?_)
 refine Aa<|Av<|Am<|Ac rfl<|Ab (Bi (i:=s0) (j:=1) rfl rfl (by omega))<|Af rfl<|Aa ?_
 exact D2 (s0 + 1,(c0.set G0.toNat true)) _ _ ⟨rfl,rfl,rfl,trivial⟩ ⟨W2,(Tt d3 g3),G3⟩ h
 refine AU rfl ?_
 have h:=thn_inr h R1
 try dsimp only at h
 refine Ae<|Ab (Bp (cs:=c0.map (fun z9:Bool=>(.bool z9:Value))) (by rw [List.length_map,k0]; kernel_rfl) rfl (C0.memA .hd))<|RG.now .plain (Acts.storeBig (fun z9:Bool=>(.bool z9:Value)) (m:=256) k0 k0 C0 .hd rfl rfl (by kernel_rfl) (fun _=>rfl)) (fun Y6 E1 c6=>?_)
 refine Af rfl<|Aa<|Ak rfl<|Ao (u:=.tuple #[.agg (c0.map (fun z9:Bool=>(.bool z9:Value))).toArray,.bool true]) H1 Tryz.func209 rfl (.cons (.many (cs:=c0.map (fun z9:Bool=>(.bool z9:Value))) (by rw [List.length_map,k0]; kernel_rfl) rfl (E1.memA .hd)) (.cons (.tmp rfl) .nil)) rfl<|Ac rfl<|Ab (Ag rfl rfl)<|Ab (Ag rfl rfl) ?_
 have H3:(List.replicate 256 false).length = 256:=List.length_replicate
 refine Al .plain rfl (AD ((List.replicate 256 false).map (fun z9:Bool=>(.bool z9:Value))) E1) (fun Z6 g0 X2 d6=>?_)
 refine RG.now .plain (Acts.storeBig (fun z9:Bool=>(.bool z9:Value)) (m:=256) H3 k0 X2 .hd rfl rfl (by kernel_rfl) (fun _=>rfl)) (fun Z1 Y2 g6=>?_)
 refine Af rfl<|Aa<|Ae<|Ac rfl<|Aa<|Bf rfl<|Ae<|Ac rfl<|Br (fst:=[]) (cap:=[]) (vs:=[.string a0,vP g0]) .plain body211 Tryz.func211 rfl rfl rfl rfl (e2 rfl rfl) rfl (fun u5 j3 p6=>?_)
 refine Ae<|Af rfl<|Aa<|Aj<|Ar<|MX.joinx (α:=ByteArray) (fun t0=>[(0,.string t0)]) (fun t0 H0=>St w H0 [.cells g0 (c0.map (fun z9:Bool=>(.bool z9:Value))) 274]∧Tr Z1 [.cells g0 (c0.map (fun z9:Bool=>(.bool z9:Value))) 274,.cells z0 (c0.map (fun z9:Bool=>(.bool z9:Value))) 274] H0 [.cells g0 (c0.map (fun z9:Bool=>(.bool z9:Value))) 274]) (fun t0=>t0) (id:=0) rfl h ?_ ?_
 rintro t0 H0 ⟨E2,H5⟩ h
 try dsimp only at h
 refine Ae<|Ac rfl<|Af rfl<|Aa<|Ak rfl<|Ao (u:=.string t0) j3 Tryz.func211 rfl (.cons (.tmp rfl) .nil) rfl<|Br (fst:=[]) (cap:=[]) (vs:=[.string t0,vP g0]) .plain body210 Tryz.func210 rfl rfl rfl rfl (e2 rfl rfl) rfl (fun x5 k3 s6=>?_)
 refine Ae<|Af rfl<|Aa<|Aj<|Ar<|MX.joinx (α:=ByteArray) (fun D0=>[(0,.string D0)]) (fun D0 Y0=>St w Y0 [.cells g0 (c0.map (fun z9:Bool=>(.bool z9:Value))) 274]∧Tr H0 [.cells g0 (c0.map (fun z9:Bool=>(.bool z9:Value))) 274] Y0 [.cells g0 (c0.map (fun z9:Bool=>(.bool z9:Value))) 274]) (fun D0=>D0) (id:=0) rfl h ?_ ?_
 rintro D0 Y0 ⟨G2,J5⟩ h
 try dsimp only at h
 refine Ae<|Ac rfl<|Af rfl<|Aa<|Ak rfl<|Ao (u:=.string D0) k3 Tryz.func210 rfl (.cons (.tmp rfl) .nil) rfl<|Af rfl<|Aa<|Ak rfl<|AQ hb0 Tryz.func201 rfl rfl ?_
 cases h
 exact G2.gv
 intro Y4 y1 h
 try dsimp only at h
 obtain ⟨B6,P3,J1⟩:=bind_in2 h
 refine Bc (α:=ByteArray) (fun u0=>[(0,.string u0),(1,vP g0)]) (fun u0 Z0=>St w Z0 [.cells g0 (c0.map (fun z9:Bool=>(.bool z9:Value))) 274]∧Tr H0 [.cells g0 (c0.map (fun z9:Bool=>(.bool z9:Value))) 274] Z0 [.cells g0 (c0.map (fun z9:Bool=>(.bool z9:Value))) 274]) (fun u0=>u0) t0 P3 ⟨rfl,rfl,trivial⟩ ⟨E2,AP _ _⟩ ?_
 rintro Z4 u0 Z0 y2 ⟨J0,Q0⟩ h
 unfold strings_Trim_l1 at h
 try dsimp only at h
 refine Aj<|Ae<|Ac rfl<|Ab (Bs Tryz.underlying9 rfl)<|Ab (FV.gtrN (i:=u0.size) (j:=0) rfl rfl)<|Aa<|AO rfl h (fun b2 h=>?_) (fun b2 h=>?_)
 refine Ap<|Ar<|Aj<|Ae<|Ac rfl<|Ac rfl ?_
 obtain ⟨q1,v4,h⟩:=bi h
 refine Ab (FV.strAt (k:=0) Tryz.underlying9 rfl rfl rfl v4)<|Br (fst:=[]) (cap:=[]) (vs:=[vP g0,.int .u8 (q1.toNat:Int)]) .plain body216 Tryz.func216 rfl rfl rfl rfl (e2 rfl rfl) rfl (fun y5 p3 t6=>?_)
 refine Ae<|Af rfl<|Aa<|Ae<|Ac rfl<|Ac rfl<|Ab (FV.nilCheck rfl) ?_
 obtain ⟨R4,U1,h⟩:=bi h
 have I3:=mem_elem1 (p:=⟨g0,0,none⟩) (cs:=c0.map (fun z9:Bool=>(.bool z9:Value))) (i:=q1.toNat) (J0.memA .hd) (arr_get0 (fun z9:Bool=>(.bool z9:Value)) U1)
 refine Ab (AT (m:=1) (k:=q1.toNat) (len:=256) (by kernel_rfl) rfl rfl rfl (arr_lt U1 k0))<|Ba rfl (I3 0 _ rfl)<|Af rfl<|Aa<|Ak rfl<|Ao (u:=.bool R4) p3 Tryz.func216 rfl (.cons (.tmp rfl) .nil) rfl<|Ab (Bv rfl)<|Aa<|MX.ifnb rfl h (fun d2 h=>?_) (fun d2 h=>?_)
 refine Ap<|Am<|Ac rfl ?_
 obtain ⟨D4,X3,h⟩:=bi h
 refine Ab (FV.strCut X3 Tryz.underlying9 rfl ⟨_,rfl⟩ rfl)<|Af rfl<|Aa<|Av ?_
 exact y2 D4 _ _ ⟨rfl,rfl,trivial⟩ ⟨J0,Q0⟩ h
 refine AU rfl ?_
 have h:=J1 _ h
 try dsimp only at h
 exact y1 u0 _ _ ⟨rfl,trivial⟩ ⟨J0,Q0⟩ h
 refine AU rfl ?_
 have h:=J1 _ h
 try dsimp only at h
 exact y1 u0 _ _ ⟨rfl,trivial⟩ ⟨J0,Q0⟩ h
 intro X4 x1 h
 try dsimp only at h
 obtain ⟨H2,F1⟩:=AJ Y2 (.one .hd .done)
 obtain ⟨C6,Q3,K1⟩:=bind_in2 h
 refine Bc (α:=ByteArray) (fun p0=>[(0,.string p0),(1,vP g0)]) (fun p0 b1=>St w b1 [.cells g0 (c0.map (fun z9:Bool=>(.bool z9:Value))) 274]∧Tr Z1 [.cells g0 (c0.map (fun z9:Bool=>(.bool z9:Value))) 274] b1 [.cells g0 (c0.map (fun z9:Bool=>(.bool z9:Value))) 274]) (fun p0=>p0) a0 Q3 ⟨rfl,rfl,trivial⟩ ⟨H2,AP _ _⟩ ?_
 rintro b5 p0 b1 z2 ⟨K0,R0⟩ h
 unfold strings_Trim_l2 at h
 try dsimp only at h
 refine Aj<|Ae<|Ac rfl<|Ab (Bs Tryz.underlying9 rfl)<|Ab (FV.gtrN (i:=p0.size) (j:=0) rfl rfl)<|Aa<|AO rfl h (fun g2 h=>?_) (fun g2 h=>?_)
 refine Ap<|Ar<|Aj<|Ae<|Ac rfl<|Ac rfl<|Ac rfl<|Ab (Bs Tryz.underlying9 rfl) ?_
 obtain ⟨E4,Y3,h⟩:=bi h
 refine Ab (FV.subc (i:=((p0.size:Nat):Int)) (j:=1) rfl rfl Y3) ?_
 obtain ⟨s1,x4,h⟩:=bi h
 obtain ⟨x3,p4⟩:=sidx_in x4
 refine Ab (FV.strAt (k:=E4.toNat) Tryz.underlying9 rfl rfl x3 p4)<|Br (fst:=[]) (cap:=[]) (vs:=[vP g0,.int .u8 (s1.toNat:Int)]) .plain body216 Tryz.func216 rfl rfl rfl rfl (e2 rfl rfl) rfl (fun z5 q3 u6=>?_)
 refine Ae<|Af rfl<|Aa<|Ae<|Ac rfl<|Ac rfl<|Ab (FV.nilCheck rfl) ?_
 obtain ⟨U4,V1,h⟩:=bi h
 have J3:=mem_elem1 (p:=⟨g0,0,none⟩) (cs:=c0.map (fun z9:Bool=>(.bool z9:Value))) (i:=s1.toNat) (K0.memA .hd) (arr_get0 (fun z9:Bool=>(.bool z9:Value)) V1)
 refine Ab (AT (m:=1) (k:=s1.toNat) (len:=256) (by kernel_rfl) rfl rfl rfl (arr_lt V1 k0))<|Ba rfl (J3 0 _ rfl)<|Af rfl<|Aa<|Ak rfl<|Ao (u:=.bool U4) q3 Tryz.func216 rfl (.cons (.tmp rfl) .nil) rfl<|Ab (Bv rfl)<|Aa<|MX.ifnb rfl h (fun j2 h=>?_) (fun j2 h=>?_)
 refine Ap<|Am<|Ac rfl<|Ac rfl<|Ab (Bs Tryz.underlying9 rfl) ?_
 obtain ⟨H6,Z3,h⟩:=bi h
 refine Ab (FV.subc (i:=((p0.size:Nat):Int)) (j:=1) rfl rfl Z3) ?_
 obtain ⟨F4,b4,h⟩:=bi h
 refine Ab (FV.strCut b4 Tryz.underlying9 rfl rfl ⟨_,rfl⟩)<|Af rfl<|Aa<|Av ?_
 exact z2 F4 _ _ ⟨rfl,rfl,trivial⟩ ⟨K0,R0⟩ h
 refine AU rfl ?_
 have h:=K1 _ h
 try dsimp only at h
 exact x1 p0 _ _ ⟨rfl,trivial⟩ ⟨K0,(Tt F1 R0)⟩ h
 refine AU rfl ?_
 have h:=K1 _ h
 try dsimp only at h
 exact x1 p0 _ _ ⟨rfl,trivial⟩ ⟨K0,(Tt F1 R0)⟩ h
 refine Au<|Au<|Au<|BA rfl rfl<|Aa<|Bo rfl<|Ap<|Aj<|Ae<|Ac rfl<|Br (fst:=[]) (cap:=[]) (vs:=[.string a1]) .plain body209 Tryz.func209 rfl rfl rfl rfl (e1 rfl) rfl (fun A5 I1 v6=>?_)
 refine Ae ?_
 have B3:(List.replicate 256 false).length = 256:=List.length_replicate
 refine Al .plain rfl (AD ((List.replicate 256 false).map (fun z9:Bool=>(.bool z9:Value))) hS0) (fun M4 A0 I2 K5=>?_)
 refine Af rfl<|Aa<|Aj<|Ae<|Af rfl<|Aa<|Ar ?_
 obtain ⟨D6,R3,M1⟩:=thn_in h
 refine Bc (α:=Int × (List Bool)) (fun ⟨y0,b0⟩=>[(0,.string a1),(2,vP A0),(4,vI y0)]) (fun ⟨y0,b0⟩ d1=>St w d1 [.cells A0 (b0.map (fun z9:Bool=>(.bool z9:Value))) 274]∧Tr M4 [.cells A0 ((List.replicate 256 false).map (fun z9:Bool=>(.bool z9:Value))) 274] d1 [.cells A0 (b0.map (fun z9:Bool=>(.bool z9:Value))) 274]∧b0.length = 256) (fun ⟨y0,b0⟩=>(y0,b0)) (0,(List.replicate 256 false)) R3 ⟨rfl,rfl,rfl,trivial⟩ ⟨I2,AP _ _,B3⟩ ?_
 rintro d5 ⟨y0,b0⟩ d1 A2 ⟨B0,Z2,j0⟩ h
 unfold strings_Trim_l6 at h
 try dsimp only at h
 refine Aj<|Ae<|Ac rfl<|Ac rfl<|Ab (Bs Tryz.underlying9 rfl)<|Ab (FV.lss (i:=y0) (j:=((a1.size:Nat):Int)) rfl rfl)<|Aa<|AO rfl h (fun k2 h=>?_) (fun k2 h=>?_)
 refine Ap<|Aj<|Ar<|Ae<|Ac rfl<|Ac rfl ?_
 obtain ⟨F0,y4,h⟩:=bi h
 obtain ⟨y3,q4⟩:=sidx_in y4
 refine Ab (FV.strAt (k:=y0.toNat) Tryz.underlying9 rfl rfl y3 q4)<|Af rfl<|Aa<|Aj<|Ae<|Ac rfl<|Ab (FV.geqN (i:=F0.toNat) (j:=128) rfl rfl)<|Aa<|AO rfl h (fun p2 h=>?_) (fun p2 h=>?_)
 refine Ae<|Ab (Bp (cs:=b0.map (fun z9:Bool=>(.bool z9:Value))) (by rw [List.length_map,j0]; kernel_rfl) rfl (B0.memA .hd))<|RG.now .plain (Acts.storeBig (fun z9:Bool=>(.bool z9:Value)) (m:=256) j0 j0 B0 .hd rfl rfl (by kernel_rfl) (fun _=>rfl)) (fun J6 B1 M5=>?_)
 refine Af rfl<|Aa ?_
 have h:=thn_map h M1
 refine Ak rfl<|Ao (u:=.tuple #[.agg (b0.map (fun z9:Bool=>(.bool z9:Value))).toArray,.bool false]) I1 Tryz.func209 rfl (.cons (.many (cs:=b0.map (fun z9:Bool=>(.bool z9:Value))) (by rw [List.length_map,j0]; kernel_rfl) rfl (B1.memA .hd)) (.cons (.tmp rfl) .nil)) rfl<|Ac rfl<|Ab (Ag rfl rfl)<|Ab (Ag rfl rfl) ?_
 have C3:(List.replicate 256 false).length = 256:=List.length_replicate
 refine Al .plain rfl (AD ((List.replicate 256 false).map (fun z9:Bool=>(.bool z9:Value))) B1) (fun K6 s5 J2 P5=>?_)
 refine RG.now .plain (Acts.storeBig (fun z9:Bool=>(.bool z9:Value)) (m:=256) C3 j0 J2 .hd rfl rfl (by kernel_rfl) (fun _=>rfl)) (fun M6 F5 Q5=>?_)
 refine Af rfl<|Aa<|Ae<|Ac rfl<|Aa<|Bo rfl<|Ap<|Ae<|Ac rfl<|Ac rfl ?_
 cases h
 refine Ap<|Am<|Ac rfl ?_
 obtain ⟨b7,W0,h⟩:=bi h
 have j6:=mem_elem1 (p:=⟨A0,0,none⟩) (cs:=b0.map (fun z9:Bool=>(.bool z9:Value))) (i:=F0.toNat) (B0.memA .hd) (arr_get0 (fun z9:Bool=>(.bool z9:Value)) W0)
 refine Ab (AT (m:=1) (k:=F0.toNat) (len:=256) (by kernel_rfl) rfl rfl rfl (arr_lt W0 j0)) ?_
 have D3:(b0.set F0.toNat true).length = 256:=by rw [List.length_set]; exact j0
 refine RG.now .plain (Acts.setBig (fun z9:Bool=>(.bool z9:Value)) (i:=F0.toNat) (x:=true) (m:=256) j0 (arr_lt W0 j0) B0 .hd rfl (addr_at _ _ _) rfl (by kernel_rfl) (fun _=>⟨rfl,rfl⟩)) (fun P6 K2 b3=>?_)
 refine Aa<|Av<|Am<|Ac rfl ?_
 obtain ⟨G4,c4,h⟩:=bi h
 refine Ab (FV.addc (i:=y0) (j:=1) rfl rfl c4)<|Af rfl<|Aa ?_
 exact A2 (G4,(b0.set F0.toNat true)) _ _ ⟨rfl,rfl,rfl,trivial⟩ ⟨K2,(Tt Z2 b3),D3⟩ h
 refine AU rfl ?_
 have h:=thn_inr h M1
 try dsimp only at h
 refine Ae<|Ab (Bp (cs:=b0.map (fun z9:Bool=>(.bool z9:Value))) (by rw [List.length_map,j0]; kernel_rfl) rfl (B0.memA .hd))<|RG.now .plain (Acts.storeBig (fun z9:Bool=>(.bool z9:Value)) (m:=256) j0 j0 B0 .hd rfl rfl (by kernel_rfl) (fun _=>rfl)) (fun Q6 C1 R5=>?_)
 refine Af rfl<|Aa<|Ak rfl<|Ao (u:=.tuple #[.agg (b0.map (fun z9:Bool=>(.bool z9:Value))).toArray,.bool true]) I1 Tryz.func209 rfl (.cons (.many (cs:=b0.map (fun z9:Bool=>(.bool z9:Value))) (by rw [List.length_map,j0]; kernel_rfl) rfl (C1.memA .hd)) (.cons (.tmp rfl) .nil)) rfl<|Ac rfl<|Ab (Ag rfl rfl)<|Ab (Ag rfl rfl) ?_
 have E3:(List.replicate 256 false).length = 256:=List.length_replicate
 refine Al .plain rfl (AD ((List.replicate 256 false).map (fun z9:Bool=>(.bool z9:Value))) C1) (fun R6 d0 M2 U5=>?_)
 refine RG.now .plain (Acts.storeBig (fun z9:Bool=>(.bool z9:Value)) (m:=256) E3 j0 M2 .hd rfl rfl (by kernel_rfl) (fun _=>rfl)) (fun Y1 P2 V5=>?_)
 refine Af rfl<|Aa<|Ae<|Ac rfl<|Aa<|Bf rfl<|Ae<|Ac rfl<|Br (fst:=[]) (cap:=[]) (vs:=[.string a0,vP d0]) .plain body211 Tryz.func211 rfl rfl rfl rfl (e2 rfl rfl) rfl (fun B5 s3 x6=>?_)
 refine Ae<|Af rfl<|Aa<|Aj<|Ar<|MX.joinx (α:=ByteArray) (fun v0=>[(0,.string v0)]) (fun v0 I0=>St w I0 [.cells d0 (b0.map (fun z9:Bool=>(.bool z9:Value))) 274]∧Tr Y1 [.cells d0 (b0.map (fun z9:Bool=>(.bool z9:Value))) 274,.cells A0 (b0.map (fun z9:Bool=>(.bool z9:Value))) 274] I0 [.cells d0 (b0.map (fun z9:Bool=>(.bool z9:Value))) 274]) (fun v0=>v0) (id:=0) rfl h ?_ ?_
 rintro v0 I0 ⟨Q2,W5⟩ h
 try dsimp only at h
 refine Ae<|Ac rfl<|Af rfl<|Aa<|Ak rfl<|Ao (u:=.string v0) s3 Tryz.func211 rfl (.cons (.tmp rfl) .nil) rfl<|Br (fst:=[]) (cap:=[]) (vs:=[.string v0,vP d0]) .plain body210 Tryz.func210 rfl rfl rfl rfl (e2 rfl rfl) rfl (fun C5 t3 y6=>?_)
 refine Ae<|Af rfl<|Aa<|Aj<|Ar<|MX.joinx (α:=ByteArray) (fun E0=>[(0,.string E0)]) (fun E0 g1=>St w g1 [.cells d0 (b0.map (fun z9:Bool=>(.bool z9:Value))) 274]∧Tr I0 [.cells d0 (b0.map (fun z9:Bool=>(.bool z9:Value))) 274] g1 [.cells d0 (b0.map (fun z9:Bool=>(.bool z9:Value))) 274]) (fun E0=>E0) (id:=0) rfl h ?_ ?_
 rintro E0 g1 ⟨R2,X5⟩ h
 try dsimp only at h
 refine Ae<|Ac rfl<|Af rfl<|Aa<|Ak rfl<|Ao (u:=.string E0) t3 Tryz.func210 rfl (.cons (.tmp rfl) .nil) rfl<|Af rfl<|Aa<|Ak rfl<|AQ hb0 Tryz.func201 rfl rfl ?_
 cases h
 exact R2.gv
 intro j5 A1 h
 try dsimp only at h
 obtain ⟨E6,U3,P1⟩:=bind_in2 h
 refine Bc (α:=ByteArray) (fun x0=>[(0,.string x0),(1,vP d0)]) (fun x0 j1=>St w j1 [.cells d0 (b0.map (fun z9:Bool=>(.bool z9:Value))) 274]∧Tr I0 [.cells d0 (b0.map (fun z9:Bool=>(.bool z9:Value))) 274] j1 [.cells d0 (b0.map (fun z9:Bool=>(.bool z9:Value))) 274]) (fun x0=>x0) v0 U3 ⟨rfl,rfl,trivial⟩ ⟨Q2,AP _ _⟩ ?_
 rintro k5 x0 j1 B2 ⟨M0,U0⟩ h
 unfold strings_Trim_l4 at h
 try dsimp only at h
 refine Aj<|Ae<|Ac rfl<|Ab (Bs Tryz.underlying9 rfl)<|Ab (FV.gtrN (i:=x0.size) (j:=0) rfl rfl)<|Aa<|AO rfl h (fun q2 h=>?_) (fun q2 h=>?_)
 refine Ap<|Ar<|Aj<|Ae<|Ac rfl<|Ac rfl ?_
 obtain ⟨u1,A4,h⟩:=bi h
 refine Ab (FV.strAt (k:=0) Tryz.underlying9 rfl rfl rfl A4)<|Br (fst:=[]) (cap:=[]) (vs:=[vP d0,.int .u8 (u1.toNat:Int)]) .plain body216 Tryz.func216 rfl rfl rfl rfl (e2 rfl rfl) rfl (fun D5 u3 z6=>?_)
 refine Ae<|Af rfl<|Aa<|Ae<|Ac rfl<|Ac rfl<|Ab (FV.nilCheck rfl) ?_
 obtain ⟨V4,W1,h⟩:=bi h
 have K3:=mem_elem1 (p:=⟨d0,0,none⟩) (cs:=b0.map (fun z9:Bool=>(.bool z9:Value))) (i:=u1.toNat) (M0.memA .hd) (arr_get0 (fun z9:Bool=>(.bool z9:Value)) W1)
 refine Ab (AT (m:=1) (k:=u1.toNat) (len:=256) (by kernel_rfl) rfl rfl rfl (arr_lt W1 j0))<|Ba rfl (K3 0 _ rfl)<|Af rfl<|Aa<|Ak rfl<|Ao (u:=.bool V4) u3 Tryz.func216 rfl (.cons (.tmp rfl) .nil) rfl<|Ab (Bv rfl)<|Aa<|MX.ifnb rfl h (fun s2 h=>?_) (fun s2 h=>?_)
 refine Ap<|Am<|Ac rfl ?_
 obtain ⟨H4,d4,h⟩:=bi h
 refine Ab (FV.strCut d4 Tryz.underlying9 rfl ⟨_,rfl⟩ rfl)<|Af rfl<|Aa<|Av ?_
 exact B2 H4 _ _ ⟨rfl,rfl,trivial⟩ ⟨M0,U0⟩ h
 refine AU rfl ?_
 have h:=P1 _ h
 try dsimp only at h
 exact A1 x0 _ _ ⟨rfl,trivial⟩ ⟨M0,U0⟩ h
 refine AU rfl ?_
 have h:=P1 _ h
 try dsimp only at h
 exact A1 x0 _ _ ⟨rfl,trivial⟩ ⟨M0,U0⟩ h
 intro g5 z1 h
 try dsimp only at h
 obtain ⟨U2,G1⟩:=AJ P2 (.one .hd .done)
 obtain ⟨F6,V3,Q1⟩:=bind_in2 h
 refine Bc (α:=ByteArray) (fun q0=>[(0,.string q0),(1,vP d0)]) (fun q0 k1=>St w k1 [.cells d0 (b0.map (fun z9:Bool=>(.bool z9:Value))) 274]∧Tr Y1 [.cells d0 (b0.map (fun z9:Bool=>(.bool z9:Value))) 274] k1 [.cells d0 (b0.map (fun z9:Bool=>(.bool z9:Value))) 274]) (fun q0=>q0) a0 V3 ⟨rfl,rfl,trivial⟩ ⟨U2,AP _ _⟩ ?_
 rintro p5 q0 k1 C2 ⟨P0,V0⟩ h
 unfold strings_Trim_l5 at h
 try dsimp only at h
 refine Aj<|Ae<|Ac rfl<|Ab (Bs Tryz.underlying9 rfl)<|Ab (FV.gtrN (i:=q0.size) (j:=0) rfl rfl)<|Aa<|AO rfl h (fun t2 h=>?_) (fun t2 h=>?_)
 refine Ap<|Ar<|Aj<|Ae<|Ac rfl<|Ac rfl<|Ac rfl<|Ab (Bs Tryz.underlying9 rfl) ?_
 obtain ⟨I4,g4,h⟩:=bi h
 refine Ab (FV.subc (i:=((q0.size:Nat):Int)) (j:=1) rfl rfl g4) ?_
 obtain ⟨v1,B4,h⟩:=bi h
 obtain ⟨z3,s4⟩:=sidx_in B4
 refine Ab (FV.strAt (k:=I4.toNat) Tryz.underlying9 rfl rfl z3 s4)<|Br (fst:=[]) (cap:=[]) (vs:=[vP d0,.int .u8 (v1.toNat:Int)]) .plain body216 Tryz.func216 rfl rfl rfl rfl (e2 rfl rfl) rfl (fun E5 v3 A6=>?_)
 refine Ae<|Af rfl<|Aa<|Ae<|Ac rfl<|Ac rfl<|Ab (FV.nilCheck rfl) ?_
 obtain ⟨W4,X1,h⟩:=bi h
 have M3:=mem_elem1 (p:=⟨d0,0,none⟩) (cs:=b0.map (fun z9:Bool=>(.bool z9:Value))) (i:=v1.toNat) (P0.memA .hd) (arr_get0 (fun z9:Bool=>(.bool z9:Value)) X1)
 refine Ab (AT (m:=1) (k:=v1.toNat) (len:=256) (by kernel_rfl) rfl rfl rfl (arr_lt X1 j0))<|Ba rfl (M3 0 _ rfl)<|Af rfl<|Aa<|Ak rfl<|Ao (u:=.bool W4) v3 Tryz.func216 rfl (.cons (.tmp rfl) .nil) rfl<|Ab (Bv rfl)<|Aa<|MX.ifnb rfl h (fun u2 h=>?_) (fun u2 h=>?_)
 refine Ap<|Am<|Ac rfl<|Ac rfl<|Ab (Bs Tryz.underlying9 rfl) ?_
 obtain ⟨I6,j4,h⟩:=bi h
 refine Ab (FV.subc (i:=((q0.size:Nat):Int)) (j:=1) rfl rfl j4) ?_
 obtain ⟨J4,k4,h⟩:=bi h
 refine Ab (FV.strCut k4 Tryz.underlying9 rfl rfl ⟨_,rfl⟩)<|Af rfl<|Aa<|Av ?_
 exact C2 J4 _ _ ⟨rfl,rfl,trivial⟩ ⟨P0,V0⟩ h
 refine AU rfl ?_
 have h:=Q1 _ h
 try dsimp only at h
 exact z1 q0 _ _ ⟨rfl,trivial⟩ ⟨P0,(Tt G1 V0)⟩ h
 refine AU rfl ?_
 have h:=Q1 _ h
 try dsimp only at h
 exact z1 q0 _ _ ⟨rfl,trivial⟩ ⟨P0,(Tt G1 V0)⟩ h
end Go.Proofs.YtfccehcnajelgaaGreatDoor
