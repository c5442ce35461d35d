/- Functions of the program, and what they give: part 6. -/
import Derived.Test.YtmhgoecnjleagaaGreatDoorZN5
namespace Go.Proofs.YtmhgoecnjleagaaGreatDoor
open Go Go.RowKit
set_option maxRecDepth 4000
set_option maxHeartbeats 4000000

theorem body121:bodyB Tryz.prog 121 = true:=by kernel_rfl
def wardmoteref21_Canon_l1 (_n:Nat) (a0:List Int) (q0:Int × Nat × (List Int) × (List Int) → Option (List Int)):Int × Nat × (List Int) × (List Int) → Option (List Int)
  | (g0,b0,k0,d0)=>(if b0 < a0.length then (a0[b0]?).bind fun c0=>(idx d0 c0).bind fun t0=>jn (fun (y0,p0)=>(idx p0 c0).bind fun u0=>(app k0 ([u0]:List Int)).bind fun v0=>q0 (y0,b0 + 1,v0,p0)) (fun j0=>(if t0 < 0 then (put d0 ((c0.toNat:Nat):Int) g0).bind fun x0=>(chk (g0 + 1)).bind fun s0=>j0 (s0,x0) else j0 (g0,d0))) else some k0)
def wardmoteref21_Canon_p (n:Nat) (a0:List Int):Option ((List Int) × Int):=
  (wardmoteref21_Labels_p n a0 (8:Int)).bind fun y1=>(if y1 = true then Option.bind (loopF (wardmoteref21_Canon_l1 n a0) n (0,0,([]:List Int),([(-1:Int),(-1:Int),(-1:Int),(-1:Int),(-1:Int),(-1:Int),(-1:Int),(-1:Int)]:List Int))) (fun b0=>some (b0,(0:Int))) else some (([]:List Int),(210:Int)))
theorem wardmoteref21_Canon_c (n:Nat) (L:List Nat) (w:World) (hL:∀ b ∈ L,b < w.heap.size) (a0:List Int) {v0_0:Value} (h0_0:Rep.R w L [v0_0] a0)  {r:(List Int) × Int} (h:wardmoteref21_Canon_p n a0 = some r) :
    Calls Tryz.prog 63 #[v0_0] w (Gives w fun w' u=>∃ v0_0:Value,u = .tuple #[v0_0,vI r.2]∧Rep.R w' L [v0_0] r.1):=by
 unfold wardmoteref21_Canon_p at h
 have hS0:=Aw w
 refine AA Tryz.func63 rfl rfl rfl (fun _ cs0 hb0=>?_)
 refine Ac<|Ag rfl<|Ag rfl<|Aa<|Aj<|Ac<|Ae rfl ?_
 obtain ⟨y1,hy1,h⟩:=bi h
 refine Bd (.bool y1) body121 rfl (e2 rfl rfl) (fun w9 hw9=>wardmoteref21_Labels_c n _ w9 (hS0.hL0 hL hw9) a0 (hS0.kd h0_0 hw9) (8:Int) hy1) rfl<|Ab (By rfl)<|Aa<|MX.ifnb rfl h (fun c2 h=>?_) (fun c2 h=>?_)
 refine Aq<|Ac<|Ak .plain rfl (AY (α:=Int) (xs:=([(-1:Int),(-1:Int),(-1:Int),(-1:Int),(-1:Int),(-1:Int),(-1:Int),(-1:Int)]:List Int)) (vs:=[vI (-1),vI (-1),vI (-1),vI (-1),vI (-1),vI (-1),vI (-1),vI (-1)]) (ds' :=[vI (-1),vI (-1),vI (-1),vI (-1),vI (-1),vI (-1),vI (-1),vI (-1)]) rfl hS0 el45 rfl (e8 rfl rfl rfl rfl rfl rfl rfl rfl) (by kernel_rfl) rfl) (fun U2 j0 D0 s3=>?_)
 have M1:=AE (cs:=[vI (-1),vI (-1),vI (-1),vI (-1),vI (-1),vI (-1),vI (-1),vI (-1)]) (xs:=(([(-1:Int),(-1:Int),(-1:Int),(-1:Int),(-1:Int),(-1:Int),(-1:Int),(-1:Int)]:List Int):List Int)) D0 L (Ao (cs:=[vI (-1)]) (ds:=[vI (-1),vI (-1),vI (-1),vI (-1),vI (-1),vI (-1),vI (-1)]) rfl (Ao (cs:=[vI (-1)]) (ds:=[vI (-1),vI (-1),vI (-1),vI (-1),vI (-1),vI (-1)]) rfl (Ao (cs:=[vI (-1)]) (ds:=[vI (-1),vI (-1),vI (-1),vI (-1),vI (-1)]) rfl (Ao (cs:=[vI (-1)]) (ds:=[vI (-1),vI (-1),vI (-1),vI (-1)]) rfl (Ao (cs:=[vI (-1)]) (ds:=[vI (-1),vI (-1),vI (-1)]) rfl (Ao (cs:=[vI (-1)]) (ds:=[vI (-1),vI (-1)]) rfl (Ao (cs:=[vI (-1)]) (ds:=[vI (-1)]) rfl (Ao (cs:=[vI (-1)]) (ds:=[]) rfl (AO _ _)))))))))
 refine Ag rfl<|Aa<|Ac<|Ag rfl<|Aa<|Ac<|Ag rfl<|Aa<|Aj<|Ac<|Ag rfl<|Aa<|Av ?_
 have M0:=D0.nilRow 3 (Rep.size Int)
 have H1:=St.nilRowT D0 3 (Rep.size Int)
 have P1:=AE (cs:=[]) (xs:=([]:List Int)) M0 L (AO _ _)
 have k2:=AR M1 H1
 obtain ⟨v3,y2,d2⟩:=bind_in2 h
 refine Bi (α:=Int × Nat × (List Int) × (List Int) × Value × (List Value) × (List Value)) (fun ⟨v0,g0,c0,k0,b0,d0,p0⟩=>[(0,v0_0),(4,(vS j0 8)),(5,vI v0),(6,b0),(7,vI ((g0:Nat):Int))]) (fun ⟨v0,g0,c0,k0,b0,d0,p0⟩ x0=>St w x0 [.row w.heap.size 3 (Rep.size Int) b0 c0.length d0,.row w.heap.size 3 (Rep.size Int) (vS j0 8) k0.length p0]∧Tr U2 [.row w.heap.size 3 (Rep.size Int) vN (([]:List Int).length) [],.row w.heap.size 3 (Rep.size Int) (vS j0 8) (([(-1:Int),(-1:Int),(-1:Int),(-1:Int),(-1:Int),(-1:Int),(-1:Int),(-1:Int)]:List Int).length) [vI (-1),vI (-1),vI (-1),vI (-1),vI (-1),vI (-1),vI (-1),vI (-1)]] x0 [.row w.heap.size 3 (Rep.size Int) b0 c0.length d0,.row w.heap.size 3 (Rep.size Int) (vS j0 8) k0.length p0]∧Cells x0 (bl [.row w.heap.size 3 (Rep.size Int) b0 c0.length d0,.row w.heap.size 3 (Rep.size Int) (vS j0 8) k0.length p0] ++ L) d0 c0∧Cells x0 (bl [.row w.heap.size 3 (Rep.size Int) b0 c0.length d0,.row w.heap.size 3 (Rep.size Int) (vS j0 8) k0.length p0] ++ L) p0 k0) (fun ⟨v0,g0,c0,k0,b0,d0,p0⟩=>(v0,g0,c0,k0)) (0,0,([]:List Int),([(-1:Int),(-1:Int),(-1:Int),(-1:Int),(-1:Int),(-1:Int),(-1:Int),(-1:Int)]:List Int),vN,[],[vI (-1),vI (-1),vI (-1),vI (-1),vI (-1),vI (-1),vI (-1),vI (-1)]) y2 ⟨rfl,rfl,rfl,rfl,rfl,trivial⟩ ⟨M0,AV _ _,P1,k2⟩ ?_
 rintro Z2 ⟨v0,g0,c0,k0,b0,d0,p0⟩ x0 D1 ⟨t0,I1,U0,G0⟩ h
 unfold wardmoteref21_Canon_l1 at h
 try dsimp only at h
 refine Aj<|Ac<|Ae rfl<|Ae rfl ?_
 have J0:=AN h0_0 t0
 have u3:a0.length ≤ 281474976710656:=AZ J0
 refine Ab (Be (xs:=a0) Tryz.underlying46 rfl J0)<|Ab (Bj (i:=g0) (j:=a0.length) rfl rfl)<|Aa<|AS rfl h (fun t1 h=>?_) (fun t1 h=>?_)
 refine Aq<|Aj<|Av<|Aj<|Ac<|Ae rfl<|Ae rfl<|Ae rfl ?_
 obtain ⟨y0,g1,h⟩:=bi h
 obtain ⟨X2,d3,W0,Z0,v1,z2,c1⟩:=Bk J0 g1
 have V1:v1 = [vI y0]:=z2; subst V1
 refine Ab (Bm 1 g0 rfl W0 rfl rfl Z0)<|Bb rfl (c1 0 _ rfl) ?_
 obtain ⟨j1,H2,h⟩:=bi h
 obtain ⟨Y0,I2⟩:=idx_in H2
 obtain ⟨k1,g3,B0,I0,x1,A2,p2⟩:=St.nth (α:=Int) t0 (.tl .hd) G0 I2
 obtain ⟨q1,j3,X0⟩:=St.nthOwn (α:=Int) t0 (.tl .hd) I0
 obtain rfl:k1 = ⟨q1,0,none⟩:=by rw [X0] at B0; cases B0; rfl
 have W1:x1 = [vI j1]:=A2; subst W1
 refine Ab (Bm 1 (y0.toNat) rfl B0 rfl Y0 I0)<|Bb rfl (p2 0 _ rfl)<|Ab (FV.lss (i:=j1) (j:=0) rfl rfl)<|Aa<|MX.join (α:=Int × (List Int) × (List Value)) (fun ⟨z0,q0,s0⟩=>[(0,v0_0),(4,(vS j0 8)),(5,vI z0),(6,b0),(7,vI ((g0:Nat):Int))]) (fun ⟨z0,q0,s0⟩ C0=>St w C0 [.row w.heap.size 3 (Rep.size Int) b0 c0.length d0,.row w.heap.size 3 (Rep.size Int) (vS j0 8) q0.length s0]∧Tr x0 [.row w.heap.size 3 (Rep.size Int) b0 c0.length d0,.row w.heap.size 3 (Rep.size Int) (vS j0 8) k0.length p0] C0 [.row w.heap.size 3 (Rep.size Int) b0 c0.length d0,.row w.heap.size 3 (Rep.size Int) (vS j0 8) q0.length s0]∧Cells C0 (bl [.row w.heap.size 3 (Rep.size Int) b0 c0.length d0,.row w.heap.size 3 (Rep.size Int) (vS j0 8) q0.length s0] ++ L) s0 q0) (fun ⟨z0,q0,s0⟩=>(z0,q0)) h ?_ ?_
 rintro ⟨z0,q0,s0⟩ C0 ⟨A0,P0,V0⟩ h
 try dsimp only at h
 refine Ar<|Ae rfl<|Ae rfl<|Ae rfl<|Ae rfl ?_
 have s2:=AN h0_0 A0
 obtain ⟨Y2,k3,X1,j2,z1,B2,q2⟩:=Bk s2 g1
 have Y1:z1 = [vI y0]:=B2; subst Y1
 refine Ab (Bm 1 g0 rfl X1 rfl rfl j2)<|Bb rfl (q2 0 _ rfl) ?_
 obtain ⟨u0,J2,h⟩:=bi h
 obtain ⟨g2,K2⟩:=idx_in J2
 obtain ⟨p1,p3,H0,b1,A1,C2,t2⟩:=St.nth (α:=Int) A0 (.tl .hd) V0 K2
 obtain ⟨s1,q3,Z1⟩:=St.nthOwn (α:=Int) A0 (.tl .hd) b1
 obtain rfl:p1 = ⟨s1,0,none⟩:=by rw [Z1] at H0; cases H0; rfl
 have b2:A1 = [vI u0]:=C2; subst b2
 refine Ab (Bm 1 (y0.toNat) rfl H0 rfl g2 b1)<|Bb rfl (t2 0 _ rfl)<|Ak .plain rfl (AY (α:=Int) (xs:=([u0]:List Int)) (vs:=[vI u0]) (ds' :=[vI u0]) rfl A0 el46 rfl (e1 rfl) (by kernel_rfl) rfl) (fun x3 c3 E0 Q0=>?_)
 have Q1:=AE (cs:=[vI u0]) (xs:=(([u0]:List Int):List Int)) E0 L (Ao (cs:=[vI u0]) (ds:=[]) rfl (AO _ _))
 obtain ⟨V2,M2,h⟩:=bi h
 have u2:=AR U0 (Tt P0 Q0)
 refine RG.doesL .plain rfl (DoesL.app (α:=Int) (ys:=([u0]:List Int)) M2 E0 (fun _ _=>(.tl .hd)) el46 rfl rfl u2 (Src.row (α:=Int) E0 .hd Q1)) (fun R2 y3 ⟨B1,E1,J1,R1⟩=>?_)
 refine Ag rfl<|Aa<|Az<|Ar<|Ae rfl<|Ab (Bq (i:=g0) (j:=1) rfl rfl (by omega))<|Ag rfl<|Aa ?_
 obtain ⟨F1,R0⟩:=AI E1 (.one (.tl .hd) (.one (.tl .hd) .done))
 have v2:=AR R1 R0
 have d1:=Tt Q0 (Tt J1 R0)
 have x2:=AR V0 d1
 exact D1 (z0,g0 + 1,V2,q0,R2,B1,s0) _ _ ⟨rfl,rfl,rfl,rfl,rfl,trivial⟩ ⟨F1,(Tt I1 (Tt P0 d1)),v2,x2⟩ h
 intro b3 K0 h
 try dsimp only at h
 refine AS rfl h (fun u1 h=>?_) (fun u1 h=>?_)
 refine Ac<|Ae rfl<|Ae rfl<|Ae rfl<|Ab (Bm 1 g0 rfl W0 rfl rfl Z0)<|Bb rfl (c1 0 _ rfl)<|Ae rfl<|Ab (Bm 1 (y0.toNat) rfl B0 rfl Y0 I0) ?_
 obtain ⟨W2,P2,h⟩:=bi h
 refine RG.acts' .plain (Acts.set (α:=Int) (i:=y0.toNat) P2 t0 X0 (fun _=>(.tl .hd)) G0 rfl rfl rfl rfl rfl (by kernel_rfl)) (fun z3 ⟨C1,G1,K1,U1⟩=>?_)
 refine Aa<|Ar<|Ae rfl ?_
 obtain ⟨Q2,G2,h⟩:=bi h
 refine Ab (FV.addc (i:=v0) (j:=1) rfl rfl G2)<|Ag rfl<|Aa ?_
 exact K0 (Q2,W2,C1) _ _ ⟨rfl,rfl,rfl,rfl,rfl,trivial⟩ ⟨G1,K1,U1⟩ h
 refine Aq ?_
 exact K0 (v0,k0,p0) _ _ ⟨rfl,rfl,rfl,rfl,rfl,trivial⟩ ⟨t0,AV _ _,G0⟩ h
 refine Ba rfl ?_
 have h:=d2 _ h
 try dsimp only at h
 refine Ac<|Ae rfl<|Ag rfl<|Ag rfl<|Aa<|Al rfl ?_
 have D2:=Bt (α:=Int) t0 .hd U0 hL
 have F0:=St.delS t0 .hd
 have t3:=St.delT t0 .hd
 have E2:=Rep.at_ (α:=Int) (v:=b0) (xs:=c0) F0 L D2
 refine Am hb0 Tryz.func63 rfl (.cons (.tmp rfl) (.cons (.tmp rfl) .nil)) rfl ?_
 cases h
 exact ⟨F0.ag,fun w9 hw9=>⟨b0,rfl,F0.kd E2 hw9⟩⟩
 refine Ac<|Ag rfl<|Ag rfl<|Aa<|Al rfl ?_
 have F2:=Rep.nilAt (α:=Int) hS0 L
 refine Am hb0 Tryz.func63 rfl (.cons (.tmp rfl) (.cons (.tmp rfl) .nil)) rfl ?_
 cases h
 exact ⟨hS0.ag,fun w9 hw9=>⟨vN,rfl,hS0.kd F2 hw9⟩⟩
def tb17_5:List (Nat × Nat × Nat):=[(0,16384,16),(0,32768,2),(0,65536,32),(6,131072,98304),(0,262144,2),(16,524288,262144),(32,1048576,524288),(64,2097152,1048576),(128,4194304,2097152),(264,8388608,4325376),(512,16777216,8388608),(1033,33554432,16793600),(4095,16,33554432)]
theorem body61:bodyB Tryz.prog 61 = true:=by kernel_rfl
theorem body62:bodyB Tryz.prog 62 = true:=by kernel_rfl
theorem body63:bodyB Tryz.prog 63 = true:=by kernel_rfl
def wardmoteref21_Draft_Loose_l1 (_n:Nat) (c0:(List Int) × Int) (g0:Int × Nat → Option Int):Int × Nat → Option Int
  | (d0,b0)=>(if b0 < c0.1.length then (c0.1[b0]?).bind fun k0=>(chk (k0 + 1)).bind fun j0=>g0 (max d0 j0,b0 + 1) else some d0)
def wardmoteref21_Draft_Loose_l2 (n:Nat) (a0:TDraft) (d0:Int × (List Int) → Option (List Int)):Int × (List Int) → Option (List Int)
  | (b0,c0)=>(wardmoteref21_Draft_Units_p n a0).bind fun p0=>(if b0 < p0 then (wardmoteref21_Draft_label_p n a0 b0).bind fun q0=>(remI q0 ((1 + ((a0.fK % (8:UInt8)).toNat):Nat):Int)).bind fun j0=>(app c0 ([j0]:List Int)).bind fun k0=>(chk (b0 + 1)).bind fun g0=>d0 (g0,k0) else some c0)
def wardmoteref21_Draft_Loose_p (n:Nat) (a0:TDraft):Option ((List Int) × Int):=
  Option.bind (loopF (wardmoteref21_Draft_Loose_l2 n a0) n (0,([]:List Int))) (fun c0=>(wardmoteref21_Canon_p n c0).bind fun b0=>Option.bind (loopF (wardmoteref21_Draft_Loose_l1 n b0) n (0,0)) (fun d0=>some (b0.1,d0)))
theorem wardmoteref21_Draft_Loose_c (n:Nat) (L:List Nat) (w:World) (hL:∀ b ∈ L,b < w.heap.size) (a0:TDraft) {v0_1:Value} (h0_1:Rep.R w L [v0_1] a0.fParents) {v0_2:Value} (h0_2:Rep.R w L [v0_2] a0.fMore) {v0_3:Value} (h0_3:Rep.R w L [v0_3] a0.fLabels)  {r:(List Int) × Int} (h:wardmoteref21_Draft_Loose_p n a0 = some r) :
    Calls Tryz.prog 17 #[.agg #[.int .u8 (a0.fN.toNat:Int),v0_1,v0_2,v0_3,.int .u8 (a0.fK.toNat:Int)]] w (Gives w fun w' u=>∃ v0_0:Value,u = .tuple #[v0_0,vI r.2]∧Rep.R w' L [v0_0] r.1):=by
 unfold wardmoteref21_Draft_Loose_p at h
 have hS0:=Aw w
 refine AA Tryz.func17 rfl rfl rfl (fun _ cs0 hb0=>?_)
 refine Ac<|Ak .plain rfl (Ax hS0 rfl rfl) (fun b2 v0 E0 u2=>?_)
 refine Ag rfl<|Ag rfl<|Aa<|Ac<|Ag rfl<|Aa<|Aj<|Ac<|Ag rfl<|Aa<|Av ?_
 have F0:=E0.nilRow 3 (Rep.size Int)
 have v2:=St.nilRowT E0 3 (Rep.size Int)
 have u1:=AE (cs:=[]) (xs:=([]:List Int)) F0 L (AO _ _)
 obtain ⟨A2,F1,z1⟩:=bind_in2 h
 refine Bi (α:=Int × (List Int) × Value × (List Value)) (fun ⟨q0,g0,p0,s0⟩=>[(1,vP v0),(4,p0),(5,vI q0)]) (fun ⟨q0,g0,p0,s0⟩ y0=>St w y0 [.row w.heap.size 3 (Rep.size Int) p0 g0.length s0,.cells v0 [.int .u8 (a0.fN.toNat:Int),v0_1,v0_2,v0_3,.int .u8 (a0.fK.toNat:Int)] 25]∧Tr b2 [.row w.heap.size 3 (Rep.size Int) vN (([]:List Int).length) [],.cells v0 [.int .u8 (a0.fN.toNat:Int),v0_1,v0_2,v0_3,.int .u8 (a0.fK.toNat:Int)] 25] y0 [.row w.heap.size 3 (Rep.size Int) p0 g0.length s0,.cells v0 [.int .u8 (a0.fN.toNat:Int),v0_1,v0_2,v0_3,.int .u8 (a0.fK.toNat:Int)] 25]∧Cells y0 (bl [.row w.heap.size 3 (Rep.size Int) p0 g0.length s0,.cells v0 [.int .u8 (a0.fN.toNat:Int),v0_1,v0_2,v0_3,.int .u8 (a0.fK.toNat:Int)] 25] ++ L) s0 g0) (fun ⟨q0,g0,p0,s0⟩=>(q0,g0)) (0,([]:List Int),vN,[]) F1 ⟨rfl,rfl,rfl,trivial⟩ ⟨F0,AV _ _,u1⟩ ?_
 rintro k2 ⟨q0,g0,p0,s0⟩ y0 Z0 ⟨c0,p1,J0⟩ h
 unfold wardmoteref21_Draft_Loose_l2 at h
 try dsimp only at h
 refine Aj<|Ac<|Ae rfl<|Ab (AD rfl (c0.memA (.tl .hd))) ?_
 obtain ⟨Q0,W1,h⟩:=bi h
 refine Bd (vI Q0) body61 rfl (e1 rfl) (fun w9 hw9=>wardmoteref21_Draft_Units_c n _ w9 (c0.hL0 hL hw9) a0 (c0.k0 h0_1 hw9) (c0.k0 h0_2 hw9) (c0.k0 h0_3 hw9) W1) rfl<|Ab (FV.lss (i:=q0) (j:=Q0) rfl rfl)<|Aa<|AS rfl h (fun V0 h=>?_) (fun V0 h=>?_)
 refine Aq<|Aj<|Av<|AH 11 tb17_5 (by kernel_rfl) (by kernel_rfl) (by kernel_rfl) (fun b0 d0=>?_)
 refine Ah 0 1 b0 rfl d0 (fun _=>Ai rfl) rfl<|AB 1 3 7688 b0 rfl d0 (AD rfl (c0.memA (.tl .hd))) rfl<|Ah 2 7 b0 rfl d0 (fun _=>Ai rfl) rfl ?_
 obtain ⟨R0,X1,h⟩:=bi h
 refine RD.cq 3 15 7680 (vI R0) b0 rfl d0 body62 rfl (e2 rfl rfl) (fun w9 hw9=>wardmoteref21_Draft_label_c n _ w9 (c0.hL0 hL hw9) a0 (c0.k0 h0_1 hw9) (c0.k0 h0_2 hw9) (c0.k0 h0_3 hw9) q0 X1) rfl<|Ah 4 31 b0 rfl d0 (fun _=>Bh 4 rfl) rfl<|AB 5 63 8128 b0 rfl d0 (AJ rfl ((c0.memA (.tl .hd)) 4 _ rfl)) rfl<|Ah 6 127 b0 rfl d0 (fun _=>FV.rem8 (a:=a0.fK) (b:=(8:UInt8)) rfl rfl (by decide)) rfl ?_
 have y2:=(a0.fK % (8:UInt8)).toNat_lt
 refine Ah 7 255 b0 rfl d0 (fun _=>FV.convN (i:=(a0.fK % (8:UInt8)).toNat) Tryz.underlying5 Tryz.underlying3 rfl (by omega)) rfl<|Ah 8 511 b0 rfl d0 (fun _=>Bq (i:=1) (j:=(a0.fK % (8:UInt8)).toNat) rfl rfl (by omega)) rfl ?_
 obtain ⟨t0,Q1,h⟩:=bi h
 refine Ah 9 1023 b0 rfl d0 (fun _=>FV.remc (i:=R0) (j:=((1 + ((a0.fK % (8:UInt8)).toNat):Nat):Int)) rfl rfl Q1) rfl<|RD.nu 10 2047 b0 rfl .plain rfl (AY (α:=Int) (xs:=([t0]:List Int)) (vs:=[vI t0]) (ds' :=[vI t0]) rfl c0 el46 rfl (e1 rfl) (by kernel_rfl) rfl) (fun D2 p2 z0 G0=>?_)
 have s1:=AE (cs:=[vI t0]) (xs:=(([t0]:List Int):List Int)) z0 L (Ao (cs:=[vI t0]) (ds:=[]) rfl (AO _ _))
 obtain ⟨d2,U1,h⟩:=bi h
 have B1:=AR J0 G0
 refine Bo (i:=11) (readyD_ok b0 (by kernel_rfl)) (RO.doesL (m' :=4095) (stepC_ok b0 (by kernel_rfl)) rfl rfl .plain rfl (DoesL.app (α:=Int) (ys:=([t0]:List Int)) U1 z0 (fun _ _=>(.tl .hd)) el46 rfl rfl B1 (Src.row (α:=Int) z0 .hd s1)) (fun Z1 C2 ⟨W0,b1,j1,t1⟩=>?_))
 refine Bo (i:=12) (readyD_ok b0 (by kernel_rfl)) (RO.val (m' :=8191) (stepC_ok b0 (by kernel_rfl)) rfl .plain rfl (AK rfl) ?_)
 refine AG (doneD_ok b0 (by kernel_rfl))<|Az<|Ar<|Ae rfl ?_
 obtain ⟨Y1,M1,h⟩:=bi h
 refine Ab (FV.addc (i:=q0) (j:=1) rfl rfl M1)<|Ag rfl<|Aa ?_
 obtain ⟨c1,H0⟩:=AI b1 (.one (.tl .hd) (.one (.tl .hd) .done))
 have C1:=AR t1 H0
 have G1:=Tt G0 (Tt j1 H0)
 exact Z0 (Y1,d2,Z1,W0) _ _ ⟨rfl,rfl,rfl,trivial⟩ ⟨c1,(Tt p1 G1),C1⟩ h
 refine Ba rfl ?_
 have h:=z1 _ h
 try dsimp only at h
 refine Ac<|Ae rfl ?_
 have H1:=Bt (α:=Int) c0 .hd J0 hL
 have A0:=St.delS c0 .hd
 have s2:=St.delT c0 .hd
 have I1:=Rep.at_ (α:=Int) (v:=p0) (xs:=g0) A0 L H1
 obtain ⟨D0,V1,h⟩:=bi h
 refine Bc (fst:=[]) (cap:=[]) .plain body63 rfl (e1 rfl) (fun w9 hw9=>wardmoteref21_Canon_c n _ w9 (A0.hL hL hw9) g0 (Ap I1 hw9) V1) rfl (fun c2 B2 q1 ⟨M0,hu_,J1⟩=>?_)
 subst hu_
 obtain ⟨d1,t2⟩:=A0.agr q1
 refine Ae rfl<|Ab (Af rfl rfl)<|Ab (Af rfl rfl)<|Ag rfl<|Aa<|Ac<|Ag rfl<|Aa<|Aj<|Ac<|Ag rfl<|Aa<|Av ?_
 obtain ⟨g1,k1⟩:=AI d1 .done
 obtain ⟨z2,E1,y1⟩:=bind_in2 h
 refine Bi (α:=Int × Nat) (fun ⟨u0,j0⟩=>[(4,M0),(6,vI u0),(7,vI ((j0:Nat):Int))]) (fun ⟨u0,j0⟩ C0=>St w C0 []∧Tr c2 [] C0 []) (fun ⟨u0,j0⟩=>(u0,j0)) (0,0) E1 ⟨rfl,rfl,rfl,trivial⟩ ⟨g1,AV _ _⟩ ?_
 rintro j2 ⟨u0,j0⟩ C0 Y0 ⟨B0,I0⟩ h
 unfold wardmoteref21_Draft_Loose_l1 at h
 try dsimp only at h
 refine Aj<|Ac<|Ae rfl<|Ae rfl ?_
 have x0:=Au J1 (Tt k1 I0)
 have x2:D0.1.length ≤ 281474976710656:=AZ x0
 refine Ab (Be (xs:=D0.1) Tryz.underlying46 rfl x0)<|Ab (Bj (i:=j0) (j:=D0.1.length) rfl rfl)<|Aa<|AS rfl h (fun U0 h=>?_) (fun U0 h=>?_)
 refine Aq<|Aj<|Av<|Ar<|Ae rfl<|Ae rfl<|Ae rfl ?_
 obtain ⟨P0,R1,h⟩:=bi h
 obtain ⟨g2,q2,v1,A1,X0,K1,D1⟩:=Bk x0 R1
 have x1:X0 = [vI P0]:=K1; subst x1
 refine Ab (Bm 1 j0 rfl v1 rfl rfl A1)<|Bb rfl (D1 0 _ rfl) ?_
 obtain ⟨K0,P1,h⟩:=bi h
 refine Ab (FV.addc (i:=P0) (j:=1) rfl rfl P1)<|Ab (FV.max2 (i:=u0) (j:=K0) rfl rfl)<|Ag rfl<|Aa<|Az<|Ar<|Ae rfl<|Ab (Bq (i:=j0) (j:=1) rfl rfl (by omega))<|Ag rfl<|Aa ?_
 exact Y0 (max u0 K0,j0 + 1) _ _ ⟨rfl,rfl,rfl,trivial⟩ ⟨B0,I0⟩ h
 refine Ba rfl ?_
 have h:=y1 _ h
 try dsimp only at h
 refine Ac<|Ae rfl<|Ae rfl<|Ag rfl<|Ag rfl<|Aa<|Al rfl<|Am hb0 Tryz.func17 rfl (.cons (.tmp rfl) (.cons (.tmp rfl) .nil)) rfl ?_
 cases h
 exact ⟨B0.ag,fun w9 hw9=>⟨M0,rfl,B0.kd x0 hw9⟩⟩
structure TDraft26 where
  fGroups:UInt8
  fParties:UInt8
  fLevels:UInt8
  fWater:UInt8
  fNums:List UInt8
  deriving DecidableEq
instance:Rep TDraft26:=Rep.via (β:=UInt8 × UInt8 × UInt8 × UInt8 × (List UInt8)) fun x=>(x.fGroups,x.fParties,x.fLevels,x.fWater,x.fNums)
def tb64_3:List (Nat × Nat × Nat):=[(0,512,4),(1,1024,512),(0,2048,2),(0,4096,4),(8,8192,4096),(16,16384,8192),(36,32768,18432),(66,65536,33792),(128,131072,65536),(256,262144,131072),(1023,16,262144)]
def wardmoteref22_Draft_num_p (_n:Nat) (a0:TDraft26) (a1:Int):Option Int:=
  (if a0.fNums.length = 0 then some (1:Int) else (remI a1 ((a0.fNums.length:Nat):Int)).bind fun b0=>(idx a0.fNums b0).bind fun c0=>some ((c0.toNat:Nat):Int))
theorem wardmoteref22_Draft_num_c (n:Nat) (L:List Nat) (w:World) (_hL:∀ b ∈ L,b < w.heap.size) (a0:TDraft26) {v0_4:Value} (h0_4:Rep.R w L [v0_4] a0.fNums) (a1:Int)  {r:Int} (h:wardmoteref22_Draft_num_p n a0 a1 = some r) :
    Calls Tryz.prog 64 #[.agg #[.int .u8 (a0.fGroups.toNat:Int),.int .u8 (a0.fParties.toNat:Int),.int .u8 (a0.fLevels.toNat:Int),.int .u8 (a0.fWater.toNat:Int),v0_4],vI a1] w (Gives w fun _ u=>u = vI r):=by
 unfold wardmoteref22_Draft_num_p at h
 have hS0:=Aw w
 refine AA Tryz.func64 rfl rfl rfl (fun _ cs0 hb0=>?_)
 refine Ac<|Ak .plain rfl (Ax hS0 rfl rfl) (fun I0 D0 d0 F0=>?_)
 refine Ag rfl<|Aa<|Aj<|Ac<|Bg 4 rfl<|Bb rfl ((d0.memA .hd) 4 _ rfl) ?_
 have g0:=AN h0_4 d0
 have G0:a0.fNums.length ≤ 281474976710656:=AZ g0
 refine Ab (Be (xs:=a0.fNums) Tryz.underlying22 rfl g0)<|Ab (FV.eqlN (i:=a0.fNums.length) (j:=0) rfl rfl)<|Aa<|AS rfl h (fun k0 h=>?_) (fun k0 h=>?_)
 refine Ac<|Ag rfl<|Aa<|Al rfl<|AX hb0 Tryz.func64 rfl rfl ?_
 cases h
 exact d0.gv
 refine Aq<|Aj<|AH 11 tb64_3 (by kernel_rfl) (by kernel_rfl) (by kernel_rfl) (fun b0 c0=>?_)
 refine Ah 0 1 b0 rfl c0 (fun _=>Bh 4 rfl) rfl<|AB 1 3 1920 b0 rfl c0 (AJ rfl ((d0.memA .hd) 4 _ rfl)) rfl<|Ah 2 7 b0 rfl c0 (fun _=>Ai rfl) rfl<|Ah 3 15 b0 rfl c0 (fun _=>Bh 4 rfl) rfl<|AB 4 31 2016 b0 rfl c0 (AJ rfl ((d0.memA .hd) 4 _ rfl)) rfl<|AB 5 63 1984 b0 rfl c0 (Be (xs:=a0.fNums) Tryz.underlying22 rfl g0) rfl ?_
 obtain ⟨B0,y0,h⟩:=bi h
 refine Ah 6 127 b0 rfl c0 (fun _=>FV.remc (i:=a1) (j:=((a0.fNums.length:Nat):Int)) rfl rfl y0) rfl ?_
 obtain ⟨j0,z0,h⟩:=bi h
 obtain ⟨t0,A0⟩:=idx_in z0
 obtain ⟨C0,E0,q0,u0,p0,x0,v0⟩:=Bk g0 A0
 have s0:p0 = [.int .u8 (j0.toNat:Int)]:=x0; subst s0
 refine Ah 7 255 b0 rfl c0 (fun _=>Bm 1 (B0.toNat) rfl q0 rfl t0 u0) rfl<|AB 8 511 1536 b0 rfl c0 (AJ rfl (v0 0 _ rfl)) rfl ?_
 have H0:=j0.toNat_lt
 refine Ah 9 1023 b0 rfl c0 (fun _=>FV.convN (i:=j0.toNat) Tryz.underlying5 Tryz.underlying3 rfl (by omega)) rfl<|Ah 10 2047 b0 rfl c0 (fun _=>AK rfl) rfl<|AG (doneD_ok b0 (by kernel_rfl))<|Al rfl<|AX hb0 Tryz.func64 rfl rfl ?_
 cases h
 exact d0.gv
theorem body64:bodyB Tryz.prog 64 = true:=by kernel_rfl
def wardmoteref22_Draft_list_l1 (n:Nat) (a1:Int) (a2:Int) (a0:TDraft26) (a3:Int) (d0:Int × (List Int) → Option (List Int)):Int × (List Int) → Option (List Int)
  | (b0,c0)=>(if b0 < a1 then (chk (a2 + b0)).bind fun j0=>(wardmoteref22_Draft_num_p n a0 j0).bind fun p0=>(app c0 ([min p0 a3]:List Int)).bind fun k0=>(chk (b0 + 1)).bind fun g0=>d0 (g0,k0) else some c0)
def wardmoteref22_Draft_list_p (n:Nat) (a0:TDraft26) (a1:Int) (a2:Int) (a3:Int):Option (List Int):=
  Option.bind (loopF (wardmoteref22_Draft_list_l1 n a1 a2 a0 a3) n (0,([]:List Int))) (fun b0=>some b0)
theorem wardmoteref22_Draft_list_c (n:Nat) (L:List Nat) (w:World) (hL:∀ b ∈ L,b < w.heap.size) (a0:TDraft26) {v0_4:Value} (h0_4:Rep.R w L [v0_4] a0.fNums) (a1:Int) (a2:Int) (a3:Int)  {r:List Int} (h:wardmoteref22_Draft_list_p n a0 a1 a2 a3 = some r) :
    Calls Tryz.prog 65 #[.agg #[.int .u8 (a0.fGroups.toNat:Int),.int .u8 (a0.fParties.toNat:Int),.int .u8 (a0.fLevels.toNat:Int),.int .u8 (a0.fWater.toNat:Int),v0_4],vI a1,vI a2,vI a3] w (Gives w fun w' u=>∃ v0_0:Value,u = v0_0∧Rep.R w' L [v0_0] r):=by
 unfold wardmoteref22_Draft_list_p at h
 have hS0:=Aw w
 refine AA Tryz.func65 rfl rfl rfl (fun _ cs0 hb0=>?_)
 refine Ac<|Ak .plain rfl (Ax hS0 rfl rfl) (fun j1 q0 v0 u1=>?_)
 refine Ag rfl<|Aa<|Ac<|Ag rfl<|Aa<|Aj<|Ac<|Ag rfl<|Aa<|Av ?_
 have x0:=v0.nilRow 3 (Rep.size Int)
 have v1:=St.nilRowT v0 3 (Rep.size Int)
 have I0:=AE (cs:=[]) (xs:=([]:List Int)) x0 L (AO _ _)
 obtain ⟨x1,R0,M0⟩:=bind_in2 h
 refine Bi (α:=Int × (List Int) × Value × (List Value)) (fun ⟨g0,c0,b0,j0⟩=>[(1,vI a1),(2,vI a2),(3,vI a3),(4,vP q0),(9,b0),(10,vI g0)]) (fun ⟨g0,c0,b0,j0⟩ s0=>St w s0 [.row w.heap.size 3 (Rep.size Int) b0 c0.length j0,.cells q0 [.int .u8 (a0.fGroups.toNat:Int),.int .u8 (a0.fParties.toNat:Int),.int .u8 (a0.fLevels.toNat:Int),.int .u8 (a0.fWater.toNat:Int),v0_4] 27]∧Tr j1 [.row w.heap.size 3 (Rep.size Int) vN (([]:List Int).length) [],.cells q0 [.int .u8 (a0.fGroups.toNat:Int),.int .u8 (a0.fParties.toNat:Int),.int .u8 (a0.fLevels.toNat:Int),.int .u8 (a0.fWater.toNat:Int),v0_4] 27] s0 [.row w.heap.size 3 (Rep.size Int) b0 c0.length j0,.cells q0 [.int .u8 (a0.fGroups.toNat:Int),.int .u8 (a0.fParties.toNat:Int),.int .u8 (a0.fLevels.toNat:Int),.int .u8 (a0.fWater.toNat:Int),v0_4] 27]∧Cells s0 (bl [.row w.heap.size 3 (Rep.size Int) b0 c0.length j0,.cells q0 [.int .u8 (a0.fGroups.toNat:Int),.int .u8 (a0.fParties.toNat:Int),.int .u8 (a0.fLevels.toNat:Int),.int .u8 (a0.fWater.toNat:Int),v0_4] 27] ++ L) j0 c0) (fun ⟨g0,c0,b0,j0⟩=>(g0,c0)) (0,([]:List Int),vN,[]) R0 ⟨rfl,rfl,rfl,rfl,rfl,rfl,trivial⟩ ⟨x0,AV _ _,I0⟩ ?_
 rintro p1 ⟨g0,c0,b0,j0⟩ s0 D0 ⟨p0,G0,A0⟩ h
 unfold wardmoteref22_Draft_list_l1 at h
 try dsimp only at h
 refine Aj<|Ac<|Ae rfl<|Ae rfl<|Ab (FV.lss (i:=g0) (j:=a1) rfl rfl)<|Aa<|AS rfl h (fun B0 h=>?_) (fun B0 h=>?_)
 refine Aq<|Aj<|Av<|Ar<|Ae rfl<|Ab (AD rfl (p0.memA (.tl .hd)))<|Ae rfl<|Ae rfl ?_
 obtain ⟨d1,Y0,h⟩:=bi h
 refine Ab (FV.addc (i:=a2) (j:=g0) rfl rfl Y0) ?_
 obtain ⟨d0,b1,h⟩:=bi h
 refine Bd (vI d0) body64 rfl (e2 rfl rfl) (fun w9 hw9=>wardmoteref22_Draft_num_c n _ w9 (p0.hL0 hL hw9) a0 (p0.k0 h0_4 hw9) d1 b1) rfl<|Ae rfl<|Ab (FV.min2 (i:=d0) (j:=a3) rfl rfl)<|Ak .plain rfl (AY (α:=Int) (xs:=([min d0 a3]:List Int)) (vs:=[vI (min d0 a3)]) (ds' :=[vI (min d0 a3)]) rfl p0 el45 rfl (e1 rfl) (by kernel_rfl) rfl) (fun y1 q1 u0 z0=>?_)
 have J0:=AE (cs:=[vI (min d0 a3)]) (xs:=(([min d0 a3]:List Int):List Int)) u0 L (Ao (cs:=[vI (min d0 a3)]) (ds:=[]) rfl (AO _ _))
 obtain ⟨k1,Z0,h⟩:=bi h
 have Q0:=AR A0 z0
 refine RG.doesL .plain rfl (DoesL.app (α:=Int) (ys:=([min d0 a3]:List Int)) Z0 u0 (fun _ _=>(.tl .hd)) el45 rfl rfl Q0 (Src.row (α:=Int) u0 .hd J0)) (fun g1 z1 ⟨C0,F0,H0,K0⟩=>?_)
 refine Ag rfl<|Aa<|Az<|Ar<|Ae rfl ?_
 obtain ⟨c1,X0,h⟩:=bi h
 refine Ab (FV.addc (i:=g0) (j:=1) rfl rfl X0)<|Ag rfl<|Aa ?_
 obtain ⟨E0,y0⟩:=AI F0 (.one (.tl .hd) (.one (.tl .hd) .done))
 have P0:=AR K0 y0
 have U0:=Tt z0 (Tt H0 y0)
 exact D0 (c1,k1,g1,C0) _ _ ⟨rfl,rfl,rfl,rfl,rfl,rfl,trivial⟩ ⟨E0,(Tt G0 U0),P0⟩ h
 refine Ba rfl ?_
 have h:=M0 _ h
 try dsimp only at h
 refine Ac<|Ae rfl<|Ag rfl<|Aa<|Al rfl ?_
 have V0:=Bt (α:=Int) p0 .hd A0 hL
 have t0:=St.delS p0 .hd
 have s1:=St.delT p0 .hd
 have W0:=Rep.at_ (α:=Int) (v:=b0) (xs:=c0) t0 L V0
 refine AX hb0 Tryz.func65 rfl rfl ?_
 cases h
 exact ⟨t0.ag,fun w9 hw9=>⟨b0,rfl,t0.kd W0 hw9⟩⟩
def tb18_5:List (Nat × Nat × Nat):=[(0,268435456,64),(1,536870912,268435456),(2,1073741824,536870912),(4,2147483648,1073741824),(0,4294967296,64),(16,8589934592,4294967296),(32,17179869184,8589934592),(64,34359738368,17179869184),(128,68719476736,34359738368),(264,137438953472,70866960384),(512,274877906944,137438953472),(1024,549755813888,274877906944),(0,1099511627776,4),(0,2199023255552,64),(8192,4398046511104,2199023255552),(20480,8796093022208,5497558138880),(34816,17592186044416,9345848836096),(0,128,0),(262143,0,17592186044544)]
def tb18_11:List (Nat × Nat × Nat):=[(0,590295810358705651712,128),(1,1180591620717411303424,590295810358705651712),(0,2361183241434822606848,4),(0,4722366482869645213696,64),(8,9444732965739290427392,4722366482869645213696),(16,18889465931478580854784,9444732965739290427392),(0,37778931862957161709568,256),(96,75557863725914323419136,56668397794435742564352),(132,151115727451828646838272,77919046967349146025984),(256,302231454903657293676544,151115727451828646838272),(512,604462909807314587353088,302231454903657293676544),(1282,1208925819614629174706176,605643501428031998656512),(4095,2417851639229258349412352,128),(8191,0,3626777458843887524118528)]
def tb18_16:List (Nat × Nat × Nat):=[(0,79228162514264337593543950336,32),(1,158456325028528675187087900672,79228162514264337593543950336),(0,316912650057057350374175801344,32),(4,633825300114114700748351602688,316912650057057350374175801344),(8,1267650600228229401496703205376,633825300114114700748351602688),(0,2535301200456458802993406410752,32),(32,5070602400912917605986812821504,2535301200456458802993406410752),(64,10141204801825835211973625643008,5070602400912917605986812821504),(0,20282409603651670423947251286016,32),(256,40564819207303340847894502572032,20282409603651670423947251286016),(512,81129638414606681695789005144064,40564819207303340847894502572032),(1168,162259276829213363391578010288128,92538493816660746309259333992448),(2048,324518553658426726783156020576256,162259276829213363391578010288128),(4098,649037107316853453566312041152512,324677009983455255458343108476928),(16383,1298074214633706907132624082305024,32),(32767,0,1947111321950560360698936123457536)]
theorem el22:ElT Tryz.prog 22 5 (Rep.size UInt8) 1 (.int .u8 0) [.int .u8 0]:=⟨Tryz.underlying22,by kernel_rfl,rfl,rfl,rfl,rfl⟩
theorem body65:bodyB Tryz.prog 65 = true:=by kernel_rfl
def wardmoteref22_Draft_Roll_l1 (n:Nat) (a0:TDraft26) (t0:Int) (d0:Nat × (List Int) → Option (List Int)):Nat × (List Int) → Option (List Int)
  | (b0,c0)=>(if b0 < ((a0.fLevels % (3:UInt8)).toNat) then (chk (9 * t0)).bind fun g0=>(chk (g0 + 7)).bind fun j0=>(chk (j0 + ((b0:Nat):Int))).bind fun k0=>(wardmoteref22_Draft_num_p n a0 k0).bind fun s0=>(remI s0 3).bind fun p0=>(app c0 ([p0]:List Int)).bind fun q0=>d0 (b0 + 1,q0) else some c0)
def wardmoteref22_Draft_Roll_l2 (_n:Nat) (a0:TDraft26) (d0:Nat × (List TUnit) → Option (List TUnit)):Nat × (List TUnit) → Option (List TUnit)
  | (b0,c0)=>(if b0 < ((a0.fWater % (2:UInt8)).toNat) then (mk (((a0.fGroups % (3:UInt8)).toNat:Nat):Int) (0:Int)).bind fun g0=>(mk (((a0.fParties % (4:UInt8)).toNat:Nat):Int) (0:Int)).bind fun j0=>(mk (((a0.fLevels % (3:UInt8)).toNat:Nat):Int) (0:Int)).bind fun k0=>(app c0 ([(⟨⟨#[115,101,97]⟩,(0:Int),g0,j0,k0,true⟩:TUnit)]:List TUnit)).bind fun p0=>d0 (b0 + 1,p0) else some c0)
def wardmoteref22_Draft_Roll_l3 (n:Nat) (a1:Int) (a0:TDraft26) (g0:Int × (List TUnit) → Option (List TUnit)):Int × (List TUnit) → Option (List TUnit)
  | (b0,c0)=>(if b0 < a1 then (remI b0 26).bind fun j0=>(chk (97 + j0)).bind fun k0=>(quoI b0 26).bind fun p0=>(remI p0 26).bind fun q0=>(chk (97 + q0)).bind fun s0=>(chk (9 * b0)).bind fun t0=>(wardmoteref22_Draft_num_p n a0 t0).bind fun d0=>(sadd ⟨#[117]⟩ (bstr ([u8ofI k0,u8ofI s0]:List UInt8))).bind fun u0=>(chk (9 * b0)).bind fun v0=>(chk (v0 + 1)).bind fun x0=>(wardmoteref22_Draft_list_p n a0 (((a0.fGroups % (3:UInt8)).toNat:Nat):Int) x0 d0).bind fun D0=>(chk (9 * b0)).bind fun y0=>(chk (y0 + 3)).bind fun z0=>(wardmoteref22_Draft_list_p n a0 (((a0.fParties % (4:UInt8)).toNat:Nat):Int) z0 (255:Int)).bind fun E0=>Option.bind (loopF (wardmoteref22_Draft_Roll_l1 n a0 b0) n (0,([]:List Int))) (fun B0=>(app c0 ([(⟨u0,d0,D0,E0,B0,false⟩:TUnit)]:List TUnit)).bind fun C0=>(chk (b0 + 1)).bind fun A0=>g0 (A0,C0)) else some c0)
def wardmoteref22_Draft_Roll_p (n:Nat) (a0:TDraft26) (a1:Int):Option TRoll:=
  Option.bind (loopF (wardmoteref22_Draft_Roll_l3 n a1 a0) n (0,([]:List TUnit))) (fun c0=>Option.bind (loopF (wardmoteref22_Draft_Roll_l2 n a0) n (0,c0)) (fun b0=>some (⟨(((a0.fGroups % (3:UInt8)).toNat:Nat):Int),(((a0.fParties % (4:UInt8)).toNat:Nat):Int),(((a0.fLevels % (3:UInt8)).toNat:Nat):Int),b0⟩:TRoll)))
theorem wardmoteref22_Draft_Roll_c (n:Nat) (L:List Nat) (w:World) (hL:∀ b ∈ L,b < w.heap.size) (a0:TDraft26) {v0_4:Value} (h0_4:Rep.R w L [v0_4] a0.fNums) (a1:Int)  {r:TRoll} (h:wardmoteref22_Draft_Roll_p n a0 a1 = some r) :
    Calls Tryz.prog 18 #[.agg #[.int .u8 (a0.fGroups.toNat:Int),.int .u8 (a0.fParties.toNat:Int),.int .u8 (a0.fLevels.toNat:Int),.int .u8 (a0.fWater.toNat:Int),v0_4],vI a1] w (Gives w fun w' u=>∃ v0_3:Value,u = .agg #[vI r.fGroups,vI r.fParties,vI r.fLevels,v0_3]∧Rep.R w' L [v0_3] r.fUnits):=by
 unfold wardmoteref22_Draft_Roll_p at h
 have hS0:=Aw w
 refine AA Tryz.func18 rfl rfl rfl (fun _ cs0 hb0=>?_)
 refine Ac<|Ak .plain rfl (Ax hS0 rfl rfl) (fun F9 g0 C4 k9=>?_)
 refine Ak .plain rfl (Ay [vI 0,vI 0,vI 0,vN] C4) (fun K9 j0 X1 p9=>?_)
 refine Aa<|Ac<|Bg 0 rfl<|Bb rfl ((X1.memA (.tl .hd)) 0 _ rfl)<|Ab (FV.rem8 (a:=a0.fGroups) (b:=(3:UInt8)) rfl rfl (by decide)) ?_
 have x9:=(a0.fGroups % (3:UInt8)).toNat_lt
 refine Ab (FV.convN (i:=(a0.fGroups % (3:UInt8)).toNat) Tryz.underlying5 Tryz.underlying3 rfl (by omega))<|Bg 1 rfl<|Bb rfl ((X1.memA (.tl .hd)) 1 _ rfl)<|Ab (FV.rem8 (a:=a0.fParties) (b:=(4:UInt8)) rfl rfl (by decide)) ?_
 have y9:=(a0.fParties % (4:UInt8)).toNat_lt
 refine Ab (FV.convN (i:=(a0.fParties % (4:UInt8)).toNat) Tryz.underlying5 Tryz.underlying3 rfl (by omega))<|Bg 2 rfl<|Bb rfl ((X1.memA (.tl .hd)) 2 _ rfl)<|Ab (FV.rem8 (a:=a0.fLevels) (b:=(3:UInt8)) rfl rfl (by decide)) ?_
 have z9:=(a0.fLevels % (3:UInt8)).toNat_lt
 refine Ab (FV.convN (i:=(a0.fLevels % (3:UInt8)).toNat) Tryz.underlying5 Tryz.underlying3 rfl (by omega))<|Ab (AW (vs:=[vI (((a0.fGroups % (3:UInt8)).toNat:Nat):Int),vI (((a0.fParties % (4:UInt8)).toNat:Nat):Int),vI (((a0.fLevels % (3:UInt8)).toNat:Nat):Int)]) (u:=.agg #[vI (((a0.fGroups % (3:UInt8)).toNat:Nat):Int),vI (((a0.fParties % (4:UInt8)).toNat:Nat):Int),vI (((a0.fLevels % (3:UInt8)).toNat:Nat):Int),vN]) (e3 rfl rfl rfl) (fun w9=>by kernel_rfl))<|Ak .plain rfl (Ay [vI 0,vI 0,vI 0,vN] X1) (fun M9 p0 D4 q9=>?_)
 refine AM [vI (((a0.fGroups % (3:UInt8)).toNat:Nat):Int),vI (((a0.fParties % (4:UInt8)).toNat:Nat):Int),vI (((a0.fLevels % (3:UInt8)).toNat:Nat):Int),vN] D4 .hd (onesB rfl) (fun s8 g3 s9=>?_)
 refine Aa<|Aj<|Ac<|Ag rfl<|Aa<|Av ?_
 have y2:=g3.nilRow 65 (Rep.size TUnit)
 have t9:=St.nilRowT g3 65 (Rep.size TUnit)
 have x5:=AE (cs:=[]) (xs:=([]:List TUnit)) y2 L (AO _ _)
 have j3:=y2.nilRow 65 (Rep.size TUnit)
 have W4:=St.nilRowT y2 65 (Rep.size TUnit)
 have u9:=AE (cs:=[]) (xs:=([]:List TUnit)) j3 L (AO _ _)
 have A6:=AR x5 W4
 obtain ⟨B9,M6,H5⟩:=bind_in2 h
 refine Bi (α:=Int × (List TUnit) × Value × (List Value)) (fun ⟨P0,y0,d0,z0⟩=>[(1,vI a1),(2,vP g0),(4,vP j0),(5,vP p0),(6,vI P0)]) (fun ⟨P0,y0,d0,z0⟩ P1=>St w P1 [.row w.heap.size 65 (Rep.size TUnit) vN (([]:List TUnit).length) [],.row w.heap.size 65 (Rep.size TUnit) d0 y0.length z0,.cells p0 [vI (((a0.fGroups % (3:UInt8)).toNat:Nat):Int),vI (((a0.fParties % (4:UInt8)).toNat:Nat):Int),vI (((a0.fLevels % (3:UInt8)).toNat:Nat):Int),d0] 44,.cells j0 [vI 0,vI 0,vI 0,vN] 44,.cells g0 [.int .u8 (a0.fGroups.toNat:Int),.int .u8 (a0.fParties.toNat:Int),.int .u8 (a0.fLevels.toNat:Int),.int .u8 (a0.fWater.toNat:Int),v0_4] 27]∧Tr s8 [.row w.heap.size 65 (Rep.size TUnit) vN (([]:List TUnit).length) [],.row w.heap.size 65 (Rep.size TUnit) vN (([]:List TUnit).length) [],.cells p0 [vI (((a0.fGroups % (3:UInt8)).toNat:Nat):Int),vI (((a0.fParties % (4:UInt8)).toNat:Nat):Int),vI (((a0.fLevels % (3:UInt8)).toNat:Nat):Int),vN] 44,.cells j0 [vI 0,vI 0,vI 0,vN] 44,.cells g0 [.int .u8 (a0.fGroups.toNat:Int),.int .u8 (a0.fParties.toNat:Int),.int .u8 (a0.fLevels.toNat:Int),.int .u8 (a0.fWater.toNat:Int),v0_4] 27] P1 [.row w.heap.size 65 (Rep.size TUnit) vN (([]:List TUnit).length) [],.row w.heap.size 65 (Rep.size TUnit) d0 y0.length z0,.cells p0 [vI (((a0.fGroups % (3:UInt8)).toNat:Nat):Int),vI (((a0.fParties % (4:UInt8)).toNat:Nat):Int),vI (((a0.fLevels % (3:UInt8)).toNat:Nat):Int),d0] 44,.cells j0 [vI 0,vI 0,vI 0,vN] 44,.cells g0 [.int .u8 (a0.fGroups.toNat:Int),.int .u8 (a0.fParties.toNat:Int),.int .u8 (a0.fLevels.toNat:Int),.int .u8 (a0.fWater.toNat:Int),v0_4] 27]∧Cells P1 (bl [.row w.heap.size 65 (Rep.size TUnit) vN (([]:List TUnit).length) [],.row w.heap.size 65 (Rep.size TUnit) d0 y0.length z0,.cells p0 [vI (((a0.fGroups % (3:UInt8)).toNat:Nat):Int),vI (((a0.fParties % (4:UInt8)).toNat:Nat):Int),vI (((a0.fLevels % (3:UInt8)).toNat:Nat):Int),d0] 44,.cells j0 [vI 0,vI 0,vI 0,vN] 44,.cells g0 [.int .u8 (a0.fGroups.toNat:Int),.int .u8 (a0.fParties.toNat:Int),.int .u8 (a0.fLevels.toNat:Int),.int .u8 (a0.fWater.toNat:Int),v0_4] 27] ++ L) z0 y0) (fun ⟨P0,y0,d0,z0⟩=>(P0,y0)) (0,([]:List TUnit),vN,[]) M6 ⟨rfl,rfl,rfl,rfl,rfl,trivial⟩ ⟨j3,AV _ _,A6⟩ ?_
 rintro M8 ⟨P0,y0,d0,z0⟩ P1 s4 ⟨J1,X4,D3⟩ h
 unfold wardmoteref22_Draft_Roll_l3 at h
 try dsimp only at h
 refine Aj<|Ac<|Ae rfl<|Ae rfl<|Ab (FV.lss (i:=P0) (j:=a1) rfl rfl)<|Aa<|AS rfl h (fun d4 h=>?_) (fun d4 h=>?_)
 refine Aq<|Aj<|Av<|Aj<|AH 18 tb18_5 (by kernel_rfl) (by kernel_rfl) (by kernel_rfl) (fun q0 u0=>?_)
 refine Ah 0 1 q0 rfl u0 (fun _=>Ai rfl) rfl ?_
 obtain ⟨W7,j7,h⟩:=bi h
 refine Ah 1 3 q0 rfl u0 (fun _=>FV.remc (i:=P0) (j:=26) rfl rfl j7) rfl ?_
 obtain ⟨G0,k7,h⟩:=bi h
 refine Ah 2 7 q0 rfl u0 (fun _=>FV.addc (i:=97) (j:=W7) rfl rfl k7) rfl<|Ah 3 15 q0 rfl u0 (fun _=>FV.convU8 (i:=G0) Tryz.underlying3 Tryz.underlying5 rfl) rfl<|Ah 4 31 q0 rfl u0 (fun _=>Ai rfl) rfl ?_
 obtain ⟨X7,p7,h⟩:=bi h
 refine Ah 5 63 q0 rfl u0 (fun _=>FV.quoc (i:=P0) (j:=26) rfl rfl p7) rfl ?_
 obtain ⟨Y7,q7,h⟩:=bi h
 refine Ah 6 127 q0 rfl u0 (fun _=>FV.remc (i:=X7) (j:=26) rfl rfl q7) rfl ?_
 obtain ⟨x0,s7,h⟩:=bi h
 refine Ah 7 255 q0 rfl u0 (fun _=>FV.addc (i:=97) (j:=Y7) rfl rfl s7) rfl<|Ah 8 511 q0 rfl u0 (fun _=>FV.convU8 (i:=x0) Tryz.underlying3 Tryz.underlying5 rfl) rfl<|AB 12 4607 360448 q0 rfl u0 (AD rfl (J1.memA (.tl (.tl (.tl (.tl .hd)))))) rfl<|Ah 13 12799 q0 rfl u0 (fun _=>Ai rfl) rfl ?_
 obtain ⟨Z7,t7,h⟩:=bi h
 refine Ah 14 29183 q0 rfl u0 (fun _=>FV.mulc (i:=9) (j:=P0) rfl rfl t7) rfl ?_
 obtain ⟨s0,Q7,h⟩:=bi h
 refine RD.cq 15 61951 327680 (vI s0) q0 rfl u0 body64 rfl (e2 rfl rfl) (fun w9 hw9=>wardmoteref22_Draft_num_c n _ w9 (J1.hL0 hL hw9) a0 (J1.k0 h0_4 hw9) Z7 Q7) rfl ?_
 obtain ⟨t0,Y3,h⟩:=bi h
 refine RD.meet (α:=Nat) (fun k1=>[(1,vI a1),(2,vP g0),(4,vP j0),(5,vP p0),(6,vI P0),(44,.agg #[.string t0,vI s0,vN,vN,vN,.bool false]),(7,vP k1)]) (fun k1 b3=>St w b3 [.cells k1 [.string ⟨#[]⟩,vI 0,vN,vN,vN,.bool false] 65,.row w.heap.size 65 (Rep.size TUnit) vN (([]:List TUnit).length) [],.row w.heap.size 65 (Rep.size TUnit) d0 y0.length z0,.cells p0 [vI (((a0.fGroups % (3:UInt8)).toNat:Nat):Int),vI (((a0.fParties % (4:UInt8)).toNat:Nat):Int),vI (((a0.fLevels % (3:UInt8)).toNat:Nat):Int),d0] 44,.cells j0 [vI 0,vI 0,vI 0,vN] 44,.cells g0 [.int .u8 (a0.fGroups.toNat:Int),.int .u8 (a0.fParties.toNat:Int),.int .u8 (a0.fLevels.toNat:Int),.int .u8 (a0.fWater.toNat:Int),v0_4] 27]∧Tr P1 [.row w.heap.size 65 (Rep.size TUnit) vN (([]:List TUnit).length) [],.row w.heap.size 65 (Rep.size TUnit) d0 y0.length z0,.cells p0 [vI (((a0.fGroups % (3:UInt8)).toNat:Nat):Int),vI (((a0.fParties % (4:UInt8)).toNat:Nat):Int),vI (((a0.fLevels % (3:UInt8)).toNat:Nat):Int),d0] 44,.cells j0 [vI 0,vI 0,vI 0,vN] 44,.cells g0 [.int .u8 (a0.fGroups.toNat:Int),.int .u8 (a0.fParties.toNat:Int),.int .u8 (a0.fLevels.toNat:Int),.int .u8 (a0.fWater.toNat:Int),v0_4] 27] b3 [.cells k1 [.string ⟨#[]⟩,vI 0,vN,vN,vN,.bool false] 65,.row w.heap.size 65 (Rep.size TUnit) vN (([]:List TUnit).length) [],.row w.heap.size 65 (Rep.size TUnit) d0 y0.length z0,.cells p0 [vI (((a0.fGroups % (3:UInt8)).toNat:Nat):Int),vI (((a0.fParties % (4:UInt8)).toNat:Nat):Int),vI (((a0.fLevels % (3:UInt8)).toNat:Nat):Int),d0] 44,.cells j0 [vI 0,vI 0,vI 0,vN] 44,.cells g0 [.int .u8 (a0.fGroups.toNat:Int),.int .u8 (a0.fParties.toNat:Int),.int .u8 (a0.fLevels.toNat:Int),.int .u8 (a0.fWater.toNat:Int),v0_4] 27]) 1 262143 ?_ ?_
 rintro k1 b3 ⟨E4,Y4⟩
 try dsimp only
 refine BA 18 524287 q0 rfl rfl .plain (AC (news:=[.string t0,vI s0,vN,vN,vN,.bool false]) E4 .hd rfl rfl rfl rfl rfl rfl (onesB rfl)) (fun P9 K1 Z4=>?_)
 refine AG (doneD_ok q0 (by kernel_rfl))<|Ac<|Ab (AD rfl (K1.memA (.tl (.tl (.tl (.tl (.tl .hd)))))))<|Bg 0 rfl<|Ab (AJ rfl ((K1.memA (.tl (.tl (.tl .hd)))) 0 _ rfl))<|Ae rfl ?_
 obtain ⟨b8,u7,h⟩:=bi h
 refine Ab (FV.mulc (i:=9) (j:=P0) rfl rfl u7) ?_
 obtain ⟨c8,v7,h⟩:=bi h
 refine Ab (FV.addc (i:=b8) (j:=1) rfl rfl v7)<|Bg 1 rfl<|Bb rfl ((K1.memA .hd) 1 _ rfl) ?_
 obtain ⟨q2,R7,h⟩:=bi h
 refine Bc (fst:=[]) (cap:=[]) .plain body65 rfl (e4 rfl rfl rfl rfl) (fun w9 hw9=>wardmoteref22_Draft_list_c n _ w9 (K1.hL hL hw9) a0 (K1.km h0_4 hw9) (((a0.fGroups % (3:UInt8)).toNat:Nat):Int) c8 s0 R7) rfl (fun Q9 Q0 k5 ⟨D9,hu_,c2⟩=>?_)
 subst hu_
 obtain ⟨F4,b5⟩:=K1.agr k5
 refine Bg 2 rfl<|RG.now .plain (Bz (j:=2) (old:=[.string t0,vI s0,vN,vN,vN,.bool false]) (news:=[Q0]) (new' :=[.string t0,vI s0,Q0,vN,vN,.bool false]) F4 .hd rfl rfl rfl (Rep.c1 c2) rfl rfl (o1 (AP c2)) rfl) (fun R9 Q1 u3=>?_)
 refine Aa<|Ac<|Ab (AD rfl (Q1.memA (.tl (.tl (.tl (.tl (.tl .hd)))))))<|Bg 1 rfl<|Ab (AJ rfl ((Q1.memA (.tl (.tl (.tl .hd)))) 1 _ rfl))<|Ae rfl ?_
 obtain ⟨d8,x7,h⟩:=bi h
 refine Ab (FV.mulc (i:=9) (j:=P0) rfl rfl x7) ?_
 obtain ⟨g8,y7,h⟩:=bi h
 refine Ab (FV.addc (i:=d8) (j:=3) rfl rfl y7) ?_
 obtain ⟨s2,U7,h⟩:=bi h
 refine Bc (fst:=[]) (cap:=[]) .plain body65 rfl (e4 rfl rfl rfl rfl) (fun w9 hw9=>wardmoteref22_Draft_list_c n _ w9 (Q1.hL hL hw9) a0 (Q1.km h0_4 hw9) (((a0.fParties % (4:UInt8)).toNat:Nat):Int) g8 (255:Int) U7) rfl (fun U9 Y0 p5 ⟨E9,hu_,d2⟩=>?_)
 subst hu_
 obtain ⟨G4,v3⟩:=Q1.agr p5
 refine Bg 3 rfl<|RG.now .plain (Bz (j:=3) (old:=[.string t0,vI s0,Q0,vN,vN,.bool false]) (news:=[Y0]) (new' :=[.string t0,vI s0,Q0,Y0,vN,.bool false]) G4 .hd rfl rfl rfl (Rep.c1 d2) rfl rfl (o1 (AP d2)) rfl) (fun x8 k3 R2=>?_)
 refine Aa<|Aj<|Ac<|Ag rfl<|Aa<|Av ?_
 have p3:=k3.nilRow 3 (Rep.size Int)
 have U2:=St.nilRowT k3 3 (Rep.size Int)
 have y5:=AE (cs:=[]) (xs:=([]:List Int)) p3 L (AO _ _)
 obtain ⟨C9,P6,I5⟩:=bind_in2 h
 refine Bi (α:=Nat × (List Int) × Value × (List Value)) (fun ⟨z1,W0,K0,E1⟩=>[(1,vI a1),(2,vP g0),(4,vP j0),(5,vP p0),(6,vI P0),(7,vP k1),(8,vI ((z1:Nat):Int))]) (fun ⟨z1,W0,K0,E1⟩ p2=>St w p2 [.row w.heap.size 3 (Rep.size Int) K0 W0.length E1,.cells k1 [.string t0,vI s0,Q0,Y0,K0,.bool false] 65,.row w.heap.size 65 (Rep.size TUnit) vN (([]:List TUnit).length) [],.row w.heap.size 65 (Rep.size TUnit) d0 y0.length z0,.cells p0 [vI (((a0.fGroups % (3:UInt8)).toNat:Nat):Int),vI (((a0.fParties % (4:UInt8)).toNat:Nat):Int),vI (((a0.fLevels % (3:UInt8)).toNat:Nat):Int),d0] 44,.cells j0 [vI 0,vI 0,vI 0,vN] 44,.cells g0 [.int .u8 (a0.fGroups.toNat:Int),.int .u8 (a0.fParties.toNat:Int),.int .u8 (a0.fLevels.toNat:Int),.int .u8 (a0.fWater.toNat:Int),v0_4] 27]∧Tr x8 [.row w.heap.size 3 (Rep.size Int) vN (([]:List Int).length) [],.cells k1 [.string t0,vI s0,Q0,Y0,vN,.bool false] 65,.row w.heap.size 65 (Rep.size TUnit) vN (([]:List TUnit).length) [],.row w.heap.size 65 (Rep.size TUnit) d0 y0.length z0,.cells p0 [vI (((a0.fGroups % (3:UInt8)).toNat:Nat):Int),vI (((a0.fParties % (4:UInt8)).toNat:Nat):Int),vI (((a0.fLevels % (3:UInt8)).toNat:Nat):Int),d0] 44,.cells j0 [vI 0,vI 0,vI 0,vN] 44,.cells g0 [.int .u8 (a0.fGroups.toNat:Int),.int .u8 (a0.fParties.toNat:Int),.int .u8 (a0.fLevels.toNat:Int),.int .u8 (a0.fWater.toNat:Int),v0_4] 27] p2 [.row w.heap.size 3 (Rep.size Int) K0 W0.length E1,.cells k1 [.string t0,vI s0,Q0,Y0,K0,.bool false] 65,.row w.heap.size 65 (Rep.size TUnit) vN (([]:List TUnit).length) [],.row w.heap.size 65 (Rep.size TUnit) d0 y0.length z0,.cells p0 [vI (((a0.fGroups % (3:UInt8)).toNat:Nat):Int),vI (((a0.fParties % (4:UInt8)).toNat:Nat):Int),vI (((a0.fLevels % (3:UInt8)).toNat:Nat):Int),d0] 44,.cells j0 [vI 0,vI 0,vI 0,vN] 44,.cells g0 [.int .u8 (a0.fGroups.toNat:Int),.int .u8 (a0.fParties.toNat:Int),.int .u8 (a0.fLevels.toNat:Int),.int .u8 (a0.fWater.toNat:Int),v0_4] 27]∧Cells p2 (bl [.row w.heap.size 3 (Rep.size Int) K0 W0.length E1,.cells k1 [.string t0,vI s0,Q0,Y0,K0,.bool false] 65,.row w.heap.size 65 (Rep.size TUnit) vN (([]:List TUnit).length) [],.row w.heap.size 65 (Rep.size TUnit) d0 y0.length z0,.cells p0 [vI (((a0.fGroups % (3:UInt8)).toNat:Nat):Int),vI (((a0.fParties % (4:UInt8)).toNat:Nat):Int),vI (((a0.fLevels % (3:UInt8)).toNat:Nat):Int),d0] 44,.cells j0 [vI 0,vI 0,vI 0,vN] 44,.cells g0 [.int .u8 (a0.fGroups.toNat:Int),.int .u8 (a0.fParties.toNat:Int),.int .u8 (a0.fLevels.toNat:Int),.int .u8 (a0.fWater.toNat:Int),v0_4] 27] ++ L) E1 W0) (fun ⟨z1,W0,K0,E1⟩=>(z1,W0)) (0,([]:List Int),vN,[]) P6 ⟨rfl,rfl,rfl,rfl,rfl,rfl,rfl,trivial⟩ ⟨p3,AV _ _,y5⟩ ?_
 rintro P8 ⟨z1,W0,K0,E1⟩ p2 t4 ⟨b1,Z1,E3⟩ h
 unfold wardmoteref22_Draft_Roll_l1 at h
 try dsimp only at h
 refine Aj<|Ac<|Ae rfl<|Bg 2 rfl<|Ab (AJ rfl ((b1.memA (.tl (.tl (.tl (.tl .hd))))) 2 _ rfl))<|Ab (Bj (i:=z1) (j:=(a0.fLevels % (3:UInt8)).toNat) rfl rfl)<|Aa<|AS rfl h (fun g4 h=>?_) (fun g4 h=>?_)
 refine Aq<|Aj<|Av<|AH 11 tb18_11 (by kernel_rfl) (by kernel_rfl) (by kernel_rfl) (fun v0 x1=>?_)
 refine Ah 0 1 v0 rfl x1 (fun _=>Bh 4 rfl) rfl<|AB 1 3 14336 v0 rfl x1 (AJ rfl ((b1.memA (.tl .hd)) 4 _ rfl)) rfl<|AB 2 7 16128 v0 rfl x1 (AD rfl (b1.memA (.tl (.tl (.tl (.tl (.tl (.tl .hd)))))))) rfl<|Ah 3 15 v0 rfl x1 (fun _=>Ai rfl) rfl ?_
 obtain ⟨j8,z7,h⟩:=bi h
 refine Ah 4 31 v0 rfl x1 (fun _=>FV.mulc (i:=9) (j:=P0) rfl rfl z7) rfl ?_
 obtain ⟨k8,A7,h⟩:=bi h
 refine Ah 5 63 v0 rfl x1 (fun _=>FV.addc (i:=j8) (j:=7) rfl rfl A7) rfl<|Ah 6 127 v0 rfl x1 (fun _=>Ai rfl) rfl ?_
 obtain ⟨p8,B7,h⟩:=bi h
 refine Ah 7 255 v0 rfl x1 (fun _=>FV.addc (i:=k8) (j:=((z1:Nat):Int)) rfl rfl B7) rfl ?_
 obtain ⟨Z3,V7,h⟩:=bi h
 refine RD.cq 8 511 15872 (vI Z3) v0 rfl x1 body64 rfl (e2 rfl rfl) (fun w9 hw9=>wardmoteref22_Draft_num_c n _ w9 (b1.hL0 hL hw9) a0 (b1.k0 h0_4 hw9) p8 V7) rfl ?_
 obtain ⟨G1,C7,h⟩:=bi h
 refine Ah 9 1023 v0 rfl x1 (fun _=>FV.remc (i:=Z3) (j:=3) rfl rfl C7) rfl<|RD.nu 10 2047 v0 rfl .plain rfl (AY (α:=Int) (xs:=([G1]:List Int)) (vs:=[vI G1]) (ds' :=[vI G1]) rfl b1 el45 rfl (e1 rfl) (by kernel_rfl) rfl) (fun V9 R8 A2 x3=>?_)
 have z5:=AE (cs:=[vI G1]) (xs:=(([G1]:List Int):List Int)) A2 L (Ao (cs:=[vI G1]) (ds:=[]) rfl (AO _ _))
 obtain ⟨z8,M7,h⟩:=bi h
 have B6:=AR E3 x3
 refine Bo (i:=11) (readyD_ok v0 (by kernel_rfl)) (RO.doesL (m' :=4095) (stepC_ok v0 (by kernel_rfl)) rfl rfl .plain rfl (DoesL.app (α:=Int) (ys:=([G1]:List Int)) M7 A2 (fun _ _=>(.tl .hd)) el45 rfl rfl B6 (Src.row (α:=Int) A2 .hd z5)) (fun Y2 W9 ⟨k4,B2,c5,A5⟩=>?_))
 refine Bo (i:=12) (readyD_ok v0 (by kernel_rfl)) (RO.val (m' :=8191) (stepC_ok v0 (by kernel_rfl)) rfl .plain rfl (Bh 4 rfl) ?_)
 refine BA 13 16383 v0 rfl rfl .plain (Bz (j:=4) (old:=[.string t0,vI s0,Q0,Y0,K0,.bool false]) (news:=[Y2]) (new' :=[.string t0,vI s0,Q0,Y0,Y2,.bool false]) B2 (.tl (.tl .hd)) rfl rfl rfl (St.c1 (α:=Int) B2 (.tl .hd)) rfl rfl (o1 (St.o1 (α:=Int) B2 (.tl .hd))) rfl) (fun X9 H4 y3=>?_)
 refine AG (doneD_ok v0 (by kernel_rfl))<|Az<|Ar<|Ae rfl<|Ab (Bq (i:=z1) (j:=1) rfl rfl (by omega))<|Ag rfl<|Aa ?_
 obtain ⟨I4,z3⟩:=AI H4 (.one (.tl .hd) (.one (.tl .hd) (.one (.tl .hd) (.one (.tl .hd) (.one (.tl .hd) (.one (.tl .hd) (.one (.tl .hd) .done)))))))
 have C6:=AR A5 (Tt y3 z3)
 have U6:=Tt x3 (Tt c5 (Tt y3 z3))
 exact t4 (z1 + 1,z8,Y2,k4) _ _ ⟨rfl,rfl,rfl,rfl,rfl,rfl,rfl,trivial⟩ ⟨I4,(Tt Z1 U6),C6⟩ h
 refine Ba rfl ?_
 have h:=I5 _ h
 try dsimp only at h
 refine Ar<|Bg 3 rfl<|Ab (AJ rfl ((b1.memA (.tl (.tl (.tl (.tl .hd))))) 3 _ rfl))<|Ab (AD rfl (b1.memA (.tl .hd))) ?_
 have g7:=Bt (α:=Int) b1 .hd E3 hL
 have q3:=St.delS b1 .hd
 have V2:=St.delT b1 .hd
 have X3:=Rep.at_ (α:=Int) (v:=K0) (xs:=W0) q3 L g7
 have P3:=Tt u3 (Tt v3 (Tt R2 (Tt U2 (Tt Z1 V2))))
 have D6:=Au c2 P3
 have Q3:=Tt R2 (Tt U2 (Tt Z1 V2))
 have E6:=Au d2 Q3
 obtain ⟨H8,c9,H7,_⟩:=Rep.sl D6
 obtain ⟨I8,d9,I7,_⟩:=Rep.sl E6
 obtain ⟨J8,g9,J7,_⟩:=Rep.sl X3
 refine Ak .plain rfl (AY (α:=TUnit) (xs:=([(⟨t0,s0,q2,s2,W0,false⟩:TUnit)]:List TUnit)) (vs:=[.agg #[.string t0,vI s0,Q0,Y0,K0,.bool false]]) (ds' :=[.string t0,vI s0,Q0,Y0,K0,.bool false]) rfl q3 el42 rfl (e1 rfl) (by rw [H7,I7,J7]; try kernel_rfl) rfl) (fun Y9 U8 C2 b2=>?_)
 have F6:=Au c2 (Tt P3 b2)
 have G6:=Au d2 (Tt Q3 b2)
 have H6:=Au X3 b2
 have B5:=AE (cs:=[.string t0,vI s0,Q0,Y0,K0,.bool false]) (xs:=(([(⟨t0,s0,q2,s2,W0,false⟩:TUnit)]:List TUnit):List TUnit)) C2 L (Ao (cs:=[.string t0,vI s0,Q0,Y0,K0,.bool false]) (ds:=[]) (mk_TUnit t0 s0 q2 F6 s2 G6 W0 H6 false) (AO _ _))
 obtain ⟨A8,P7,h⟩:=bi h
 have R3:=Tt Y4 (Tt Z4 (Tt b5 (Tt u3 (Tt v3 (Tt R2 (Tt U2 (Tt Z1 (Tt V2 b2))))))))
 have I6:=AR D3 R3
 refine RG.doesL .plain rfl (DoesL.app (α:=TUnit) (ys:=([(⟨t0,s0,q2,s2,W0,false⟩:TUnit)]:List TUnit)) P7 C2 (fun _ _=>(.tl (.tl (.tl .hd)))) el42 rfl rfl I6 (Src.row (α:=TUnit) C2 .hd B5)) (fun Z2 Z9 ⟨p4,D2,d5,C5⟩=>?_)
 refine Bg 3 rfl<|RG.now .plain (Bz (j:=3) (old:=[vI (((a0.fGroups % (3:UInt8)).toNat:Nat):Int),vI (((a0.fParties % (4:UInt8)).toNat:Nat):Int),vI (((a0.fLevels % (3:UInt8)).toNat:Nat):Int),d0]) (news:=[Z2]) (new' :=[vI (((a0.fGroups % (3:UInt8)).toNat:Nat):Int),vI (((a0.fParties % (4:UInt8)).toNat:Nat):Int),vI (((a0.fLevels % (3:UInt8)).toNat:Nat):Int),Z2]) D2 (.tl (.tl (.tl (.tl .hd)))) rfl rfl rfl (St.c1 (α:=TUnit) D2 (.tl (.tl (.tl .hd)))) rfl rfl (o1 (St.o1 (α:=TUnit) D2 (.tl (.tl (.tl .hd))))) rfl) (fun b00 J4 A3=>?_)
 refine Aa<|Az<|Ar<|Ae rfl ?_
 obtain ⟨q8,D7,h⟩:=bi h
 refine Ab (FV.addc (i:=P0) (j:=1) rfl rfl D7)<|Ag rfl<|Aa ?_
 obtain ⟨K4,B3⟩:=AI J4 (.one (.tl (.tl .hd)) (.one (.tl (.tl .hd)) (.one (.tl (.tl .hd)) (.one (.tl (.tl .hd)) (.one (.tl (.tl .hd)) .done)))))
 have J6:=AR C5 (Tt A3 B3)
 have V6:=Tt R3 (Tt d5 (Tt A3 B3))
 exact s4 (q8,A8,Z2,p4) _ _ ⟨rfl,rfl,rfl,rfl,rfl,trivial⟩ ⟨K4,(Tt X4 V6),J6⟩ h
 intro c3
 refine RD.each [9,17] (readyD_ok q0 (by kernel_rfl)) ⟨?_,?_,trivial⟩
 refine RO.new (m' :=62463) (stepC_ok q0 (by kernel_rfl)) rfl .plain rfl (AY (α:=UInt8) (xs:=([u8ofI G0,u8ofI x0]:List UInt8)) (vs:=[.int .u8 ((u8ofI G0).toNat:Int),.int .u8 ((u8ofI x0).toNat:Int)]) (ds' :=[.int .u8 ((u8ofI G0).toNat:Int),.int .u8 ((u8ofI x0).toNat:Int)]) rfl J1 el22 rfl (e2 rfl rfl) (by kernel_rfl) rfl) (fun t8 b4 F1 P2=>?_)
 have W2:=AE (cs:=[.int .u8 ((u8ofI G0).toNat:Int),.int .u8 ((u8ofI x0).toNat:Int)]) (xs:=(([u8ofI G0,u8ofI x0]:List UInt8):List UInt8)) F1 L (Ao (cs:=[.int .u8 ((u8ofI G0).toNat:Int)]) (ds:=[.int .u8 ((u8ofI x0).toNat:Int)]) rfl (Ao (cs:=[.int .u8 ((u8ofI x0).toNat:Int)]) (ds:=[]) rfl (AO _ _)))
 refine AB 10 63487 329728 q0 rfl u0 (FV.bytesS (xs:=([u8ofI G0,u8ofI x0]:List UInt8)) Tryz.underlying22 Tryz.underlying9 Tryz.underlying5 rfl (Src.row (α:=UInt8) F1 .hd W2)) rfl<|Ah 11 65535 q0 rfl u0 (fun _=>FV.addS Y3 rfl rfl) rfl<|Ah 16 131071 q0 rfl u0 (fun _=>AW (vs:=[.string t0,vI s0]) (u:=.agg #[.string t0,vI s0,vN,vN,vN,.bool false]) (e2 rfl rfl) (fun w9=>by kernel_rfl)) rfl<|RD.nu 17 262143 q0 rfl .plain rfl (Ay [.string ⟨#[]⟩,vI 0,vN,vN,vN,.bool false] F1) (fun v8 t2 z2 Q2=>?_)
 obtain ⟨M4,g5⟩:=AI z2 (.one .hd (.one (.tl .hd) (.one (.tl .hd) (.one (.tl .hd) (.one (.tl .hd) (.one (.tl .hd) .done))))))
 have W6:=Tt P2 (Tt Q2 g5)
 exact c3 t2 _ _ ⟨rfl,rfl,rfl,rfl,rfl,rfl,rfl,trivial⟩ ⟨M4,W6⟩
 refine RO.new (m' :=193023) (stepC_ok q0 (by kernel_rfl)) rfl .plain rfl (Ay [.string ⟨#[]⟩,vI 0,vN,vN,vN,.bool false] J1) (fun v8 t2 z2 Q2=>?_)
 refine RD.nu 9 193535 q0 rfl .plain rfl (AY (α:=UInt8) (xs:=([u8ofI G0,u8ofI x0]:List UInt8)) (vs:=[.int .u8 ((u8ofI G0).toNat:Int),.int .u8 ((u8ofI x0).toNat:Int)]) (ds' :=[.int .u8 ((u8ofI G0).toNat:Int),.int .u8 ((u8ofI x0).toNat:Int)]) rfl z2 el22 rfl (e2 rfl rfl) (by kernel_rfl) rfl) (fun t8 b4 F1 P2=>?_)
 have W2:=AE (cs:=[.int .u8 ((u8ofI G0).toNat:Int),.int .u8 ((u8ofI x0).toNat:Int)]) (xs:=(([u8ofI G0,u8ofI x0]:List UInt8):List UInt8)) F1 L (Ao (cs:=[.int .u8 ((u8ofI G0).toNat:Int)]) (ds:=[.int .u8 ((u8ofI x0).toNat:Int)]) rfl (Ao (cs:=[.int .u8 ((u8ofI x0).toNat:Int)]) (ds:=[]) rfl (AO _ _)))
 refine AB 10 194559 329728 q0 rfl u0 (FV.bytesS (xs:=([u8ofI G0,u8ofI x0]:List UInt8)) Tryz.underlying22 Tryz.underlying9 Tryz.underlying5 rfl (Src.row (α:=UInt8) F1 .hd W2)) rfl<|Ah 11 196607 q0 rfl u0 (fun _=>FV.addS Y3 rfl rfl) rfl<|Ah 16 262143 q0 rfl u0 (fun _=>AW (vs:=[.string t0,vI s0]) (u:=.agg #[.string t0,vI s0,vN,vN,vN,.bool false]) (e2 rfl rfl) (fun w9=>by kernel_rfl)) rfl ?_
 obtain ⟨P4,j5⟩:=AI F1 (.one (.tl .hd) (.one (.tl .hd) (.one (.tl .hd) (.one (.tl .hd) (.one (.tl .hd) (.one (.tl .hd) .done))))))
 have X6:=Tt Q2 (Tt P2 j5)
 exact c3 t2 _ _ ⟨rfl,rfl,rfl,rfl,rfl,rfl,rfl,trivial⟩ ⟨P4,X6⟩
 refine Ba rfl ?_
 have h:=H5 _ h
 try dsimp only at h
 refine Aj<|Ac<|Ag rfl<|Aa<|Av ?_
 obtain ⟨A9,K6,G5⟩:=bind_in2 h
 refine Bi (α:=Nat × (List TUnit) × Value × (List Value)) (fun ⟨y1,M0,c0,R0⟩=>[(2,vP g0),(4,vP j0),(5,vP p0),(9,vI ((y1:Nat):Int))]) (fun ⟨y1,M0,c0,R0⟩ R1=>St w R1 [.row w.heap.size 65 (Rep.size TUnit) vN (([]:List TUnit).length) [],.row w.heap.size 65 (Rep.size TUnit) c0 M0.length R0,.cells p0 [vI (((a0.fGroups % (3:UInt8)).toNat:Nat):Int),vI (((a0.fParties % (4:UInt8)).toNat:Nat):Int),vI (((a0.fLevels % (3:UInt8)).toNat:Nat):Int),c0] 44,.cells j0 [vI 0,vI 0,vI 0,vN] 44,.cells g0 [.int .u8 (a0.fGroups.toNat:Int),.int .u8 (a0.fParties.toNat:Int),.int .u8 (a0.fLevels.toNat:Int),.int .u8 (a0.fWater.toNat:Int),v0_4] 27]∧Tr P1 [.row w.heap.size 65 (Rep.size TUnit) vN (([]:List TUnit).length) [],.row w.heap.size 65 (Rep.size TUnit) d0 y0.length z0,.cells p0 [vI (((a0.fGroups % (3:UInt8)).toNat:Nat):Int),vI (((a0.fParties % (4:UInt8)).toNat:Nat):Int),vI (((a0.fLevels % (3:UInt8)).toNat:Nat):Int),d0] 44,.cells j0 [vI 0,vI 0,vI 0,vN] 44,.cells g0 [.int .u8 (a0.fGroups.toNat:Int),.int .u8 (a0.fParties.toNat:Int),.int .u8 (a0.fLevels.toNat:Int),.int .u8 (a0.fWater.toNat:Int),v0_4] 27] R1 [.row w.heap.size 65 (Rep.size TUnit) vN (([]:List TUnit).length) [],.row w.heap.size 65 (Rep.size TUnit) c0 M0.length R0,.cells p0 [vI (((a0.fGroups % (3:UInt8)).toNat:Nat):Int),vI (((a0.fParties % (4:UInt8)).toNat:Nat):Int),vI (((a0.fLevels % (3:UInt8)).toNat:Nat):Int),c0] 44,.cells j0 [vI 0,vI 0,vI 0,vN] 44,.cells g0 [.int .u8 (a0.fGroups.toNat:Int),.int .u8 (a0.fParties.toNat:Int),.int .u8 (a0.fLevels.toNat:Int),.int .u8 (a0.fWater.toNat:Int),v0_4] 27]∧Cells R1 (bl [.row w.heap.size 65 (Rep.size TUnit) vN (([]:List TUnit).length) [],.row w.heap.size 65 (Rep.size TUnit) c0 M0.length R0,.cells p0 [vI (((a0.fGroups % (3:UInt8)).toNat:Nat):Int),vI (((a0.fParties % (4:UInt8)).toNat:Nat):Int),vI (((a0.fLevels % (3:UInt8)).toNat:Nat):Int),c0] 44,.cells j0 [vI 0,vI 0,vI 0,vN] 44,.cells g0 [.int .u8 (a0.fGroups.toNat:Int),.int .u8 (a0.fParties.toNat:Int),.int .u8 (a0.fLevels.toNat:Int),.int .u8 (a0.fWater.toNat:Int),v0_4] 27] ++ L) R0 M0) (fun ⟨y1,M0,c0,R0⟩=>(y1,M0)) (0,y0,d0,z0) K6 ⟨rfl,rfl,rfl,rfl,trivial⟩ ⟨J1,AV _ _,D3⟩ ?_
 rintro K8 ⟨y1,M0,c0,R0⟩ R1 q4 ⟨Z0,Q4,C3⟩ h
 unfold wardmoteref22_Draft_Roll_l2 at h
 try dsimp only at h
 refine Aj<|Ac<|Ae rfl<|Bg 3 rfl<|Ab (AJ rfl ((Z0.memA (.tl (.tl (.tl (.tl .hd))))) 3 _ rfl))<|Ab (FV.rem8 (a:=a0.fWater) (b:=(2:UInt8)) rfl rfl (by decide)) ?_
 have v9:=(a0.fWater % (2:UInt8)).toNat_lt
 refine Ab (FV.convN (i:=(a0.fWater % (2:UInt8)).toNat) Tryz.underlying5 Tryz.underlying3 rfl (by omega))<|Ab (Bj (i:=y1) (j:=(a0.fWater % (2:UInt8)).toNat) rfl rfl)<|Aa<|AS rfl h (fun c4 h=>?_) (fun c4 h=>?_)
 refine Aq<|Aj<|Av<|AH 13 tb18_16 (by kernel_rfl) (by kernel_rfl) (by kernel_rfl) (fun b0 A1=>?_)
 refine Ah 0 1 b0 rfl A1 (fun _=>Bh 3 rfl) rfl<|AB 1 3 57344 b0 rfl A1 (AJ rfl ((Z0.memA (.tl (.tl .hd))) 3 _ rfl)) rfl<|Ah 2 7 b0 rfl A1 (fun _=>Bh 0 rfl) rfl<|AB 3 15 63504 b0 rfl A1 (AJ rfl ((Z0.memA (.tl (.tl .hd))) 0 _ rfl)) rfl<|Ah 5 47 b0 rfl A1 (fun _=>Bh 1 rfl) rfl<|AB 6 111 63616 b0 rfl A1 (AJ rfl ((Z0.memA (.tl (.tl .hd))) 1 _ rfl)) rfl<|Ah 8 367 b0 rfl A1 (fun _=>Bh 2 rfl) rfl<|AB 9 879 64512 b0 rfl A1 (AJ rfl ((Z0.memA (.tl (.tl .hd))) 2 _ rfl)) rfl ?_
 obtain ⟨A0,t1,h⟩:=bi h
 obtain ⟨B0,u1,h⟩:=bi h
 obtain ⟨C0,v1,h⟩:=bi h
 refine RD.meet (α:=Value × (List Value) × Value × (List Value) × Value × (List Value)) (fun ⟨H0,B1,I0,C1,J0,D1⟩=>[(2,vP g0),(4,vP j0),(5,vP p0),(9,vI ((y1:Nat):Int)),(97,c0),(100,J0),(103,I0),(106,H0)]) (fun ⟨H0,B1,I0,C1,J0,D1⟩ M1=>St w M1 [.row w.heap.size 3 (Rep.size Int) H0 C0.length B1,.row w.heap.size 3 (Rep.size Int) I0 B0.length C1,.row w.heap.size 3 (Rep.size Int) J0 A0.length D1,.row w.heap.size 65 (Rep.size TUnit) vN (([]:List TUnit).length) [],.row w.heap.size 65 (Rep.size TUnit) c0 M0.length R0,.cells p0 [vI (((a0.fGroups % (3:UInt8)).toNat:Nat):Int),vI (((a0.fParties % (4:UInt8)).toNat:Nat):Int),vI (((a0.fLevels % (3:UInt8)).toNat:Nat):Int),c0] 44,.cells j0 [vI 0,vI 0,vI 0,vN] 44,.cells g0 [.int .u8 (a0.fGroups.toNat:Int),.int .u8 (a0.fParties.toNat:Int),.int .u8 (a0.fLevels.toNat:Int),.int .u8 (a0.fWater.toNat:Int),v0_4] 27]∧Tr R1 [.row w.heap.size 65 (Rep.size TUnit) vN (([]:List TUnit).length) [],.row w.heap.size 65 (Rep.size TUnit) c0 M0.length R0,.cells p0 [vI (((a0.fGroups % (3:UInt8)).toNat:Nat):Int),vI (((a0.fParties % (4:UInt8)).toNat:Nat):Int),vI (((a0.fLevels % (3:UInt8)).toNat:Nat):Int),c0] 44,.cells j0 [vI 0,vI 0,vI 0,vN] 44,.cells g0 [.int .u8 (a0.fGroups.toNat:Int),.int .u8 (a0.fParties.toNat:Int),.int .u8 (a0.fLevels.toNat:Int),.int .u8 (a0.fWater.toNat:Int),v0_4] 27] M1 [.row w.heap.size 3 (Rep.size Int) H0 C0.length B1,.row w.heap.size 3 (Rep.size Int) I0 B0.length C1,.row w.heap.size 3 (Rep.size Int) J0 A0.length D1,.row w.heap.size 65 (Rep.size TUnit) vN (([]:List TUnit).length) [],.row w.heap.size 65 (Rep.size TUnit) c0 M0.length R0,.cells p0 [vI (((a0.fGroups % (3:UInt8)).toNat:Nat):Int),vI (((a0.fParties % (4:UInt8)).toNat:Nat):Int),vI (((a0.fLevels % (3:UInt8)).toNat:Nat):Int),c0] 44,.cells j0 [vI 0,vI 0,vI 0,vN] 44,.cells g0 [.int .u8 (a0.fGroups.toNat:Int),.int .u8 (a0.fParties.toNat:Int),.int .u8 (a0.fLevels.toNat:Int),.int .u8 (a0.fWater.toNat:Int),v0_4] 27]∧Cells M1 (bl [.row w.heap.size 3 (Rep.size Int) H0 C0.length B1,.row w.heap.size 3 (Rep.size Int) I0 B0.length C1,.row w.heap.size 3 (Rep.size Int) J0 A0.length D1,.row w.heap.size 65 (Rep.size TUnit) vN (([]:List TUnit).length) [],.row w.heap.size 65 (Rep.size TUnit) c0 M0.length R0,.cells p0 [vI (((a0.fGroups % (3:UInt8)).toNat:Nat):Int),vI (((a0.fParties % (4:UInt8)).toNat:Nat):Int),vI (((a0.fLevels % (3:UInt8)).toNat:Nat):Int),c0] 44,.cells j0 [vI 0,vI 0,vI 0,vN] 44,.cells g0 [.int .u8 (a0.fGroups.toNat:Int),.int .u8 (a0.fParties.toNat:Int),.int .u8 (a0.fLevels.toNat:Int),.int .u8 (a0.fWater.toNat:Int),v0_4] 27] ++ L) B1 (C0:List Int)∧Cells M1 (bl [.row w.heap.size 3 (Rep.size Int) H0 C0.length B1,.row w.heap.size 3 (Rep.size Int) I0 B0.length C1,.row w.heap.size 3 (Rep.size Int) J0 A0.length D1,.row w.heap.size 65 (Rep.size TUnit) vN (([]:List TUnit).length) [],.row w.heap.size 65 (Rep.size TUnit) c0 M0.length R0,.cells p0 [vI (((a0.fGroups % (3:UInt8)).toNat:Nat):Int),vI (((a0.fParties % (4:UInt8)).toNat:Nat):Int),vI (((a0.fLevels % (3:UInt8)).toNat:Nat):Int),c0] 44,.cells j0 [vI 0,vI 0,vI 0,vN] 44,.cells g0 [.int .u8 (a0.fGroups.toNat:Int),.int .u8 (a0.fParties.toNat:Int),.int .u8 (a0.fLevels.toNat:Int),.int .u8 (a0.fWater.toNat:Int),v0_4] 27] ++ L) C1 (B0:List Int)∧Cells M1 (bl [.row w.heap.size 3 (Rep.size Int) H0 C0.length B1,.row w.heap.size 3 (Rep.size Int) I0 B0.length C1,.row w.heap.size 3 (Rep.size Int) J0 A0.length D1,.row w.heap.size 65 (Rep.size TUnit) vN (([]:List TUnit).length) [],.row w.heap.size 65 (Rep.size TUnit) c0 M0.length R0,.cells p0 [vI (((a0.fGroups % (3:UInt8)).toNat:Nat):Int),vI (((a0.fParties % (4:UInt8)).toNat:Nat):Int),vI (((a0.fLevels % (3:UInt8)).toNat:Nat):Int),c0] 44,.cells j0 [vI 0,vI 0,vI 0,vN] 44,.cells g0 [.int .u8 (a0.fGroups.toNat:Int),.int .u8 (a0.fParties.toNat:Int),.int .u8 (a0.fLevels.toNat:Int),.int .u8 (a0.fWater.toNat:Int),v0_4] 27] ++ L) D1 (A0:List Int)) 5 2047 ?_ ?_
 rintro ⟨H0,B1,I0,C1,J0,D1⟩ M1 ⟨I1,R4,q5,s5,t5⟩
 try dsimp only
 obtain ⟨B8,V8,D5⟩:=St.rowV (α:=Int) I1 (.tl (.tl .hd))
 obtain ⟨C8,W8,E5⟩:=St.rowV (α:=Int) I1 (.tl .hd)
 obtain ⟨D8,X8,F5⟩:=St.rowV (α:=Int) I1 .hd
 refine Ah 11 4095 b0 rfl A1 (fun _=>AW (vs:=[.string ⟨#[115,101,97]⟩,.bool true,J0,I0,H0]) (u:=.agg #[.string ⟨#[115,101,97]⟩,vI 0,J0,I0,H0,.bool true]) (e5 rfl rfl rfl rfl rfl) (fun w9=>by rw [D5,E5,F5]; try kernel_rfl)) rfl ?_
 have Y6:=Bt (α:=Int) I1 (.tl (.tl .hd)) t5 hL
 have U1:=St.delS I1 (.tl (.tl .hd))
 have E2:=St.delT I1 (.tl (.tl .hd))
 have U3:=Rep.at_ (α:=Int) (v:=J0) (xs:=A0) U1 L Y6
 have J5:=AR s5 E2
 have Z6:=Bt (α:=Int) U1 (.tl .hd) J5 hL
 have V1:=St.delS U1 (.tl .hd)
 have F2:=St.delT U1 (.tl .hd)
 have V3:=Rep.at_ (α:=Int) (v:=I0) (xs:=B0) V1 L Z6
 have K5:=AR q5 (Tt E2 F2)
 have b7:=Bt (α:=Int) V1 .hd K5 hL
 have d3:=St.delS V1 .hd
 have Y1:=St.delT V1 .hd
 have W3:=Rep.at_ (α:=Int) (v:=H0) (xs:=C0) d3 L b7
 have M5:=Au U3 (Tt F2 Y1)
 have P5:=Au V3 Y1
 obtain ⟨E8,Y8,E7,_⟩:=Rep.sl M5
 obtain ⟨F8,Z8,F7,_⟩:=Rep.sl P5
 obtain ⟨G8,b9,G7,_⟩:=Rep.sl W3
 refine RD.nu 12 8191 b0 rfl .plain rfl (AY (α:=TUnit) (xs:=([(⟨⟨#[115,101,97]⟩,(0:Int),A0,B0,C0,true⟩:TUnit)]:List TUnit)) (vs:=[.agg #[.string ⟨#[115,101,97]⟩,vI 0,J0,I0,H0,.bool true]]) (ds' :=[.string ⟨#[115,101,97]⟩,vI 0,J0,I0,H0,.bool true]) rfl d3 el42 rfl (e1 rfl) (by rw [E7,F7,G7]; try kernel_rfl) rfl) (fun G9 Q8 u2 G2=>?_)
 have F3:=Tt F2 (Tt Y1 G2)
 have Q5:=Au U3 F3
 have R5:=Au V3 (Tt Y1 G2)
 have U5:=Au W3 G2
 have u5:=AE (cs:=[.string ⟨#[115,101,97]⟩,vI 0,J0,I0,H0,.bool true]) (xs:=(([(⟨⟨#[115,101,97]⟩,(0:Int),A0,B0,C0,true⟩:TUnit)]:List TUnit):List TUnit)) u2 L (Ao (cs:=[.string ⟨#[115,101,97]⟩,vI 0,J0,I0,H0,.bool true]) (ds:=[]) (mk_TUnit ⟨#[115,101,97]⟩ (0:Int) A0 Q5 B0 R5 C0 U5 true) (AO _ _))
 obtain ⟨y8,K7,h⟩:=bi h
 have G3:=Tt R4 (Tt E2 F3)
 have V5:=AR C3 G3
 refine Bo (i:=13) (readyD_ok b0 (by kernel_rfl)) (RO.doesL (m' :=16383) (stepC_ok b0 (by kernel_rfl)) rfl rfl .plain rfl (DoesL.app (α:=TUnit) (ys:=([(⟨⟨#[115,101,97]⟩,(0:Int),A0,B0,C0,true⟩:TUnit)]:List TUnit)) K7 u2 (fun _ _=>(.tl (.tl .hd))) el42 rfl rfl V5 (Src.row (α:=TUnit) u2 .hd u5)) (fun X2 H9 ⟨j4,v2,U4,v5⟩=>?_))
 refine Bo (i:=14) (readyD_ok b0 (by kernel_rfl)) (RO.val (m' :=32767) (stepC_ok b0 (by kernel_rfl)) rfl .plain rfl (Bh 3 rfl) ?_)
 refine BA 15 65535 b0 rfl rfl .plain (Bz (j:=3) (old:=[vI (((a0.fGroups % (3:UInt8)).toNat:Nat):Int),vI (((a0.fParties % (4:UInt8)).toNat:Nat):Int),vI (((a0.fLevels % (3:UInt8)).toNat:Nat):Int),c0]) (news:=[X2]) (new' :=[vI (((a0.fGroups % (3:UInt8)).toNat:Nat):Int),vI (((a0.fParties % (4:UInt8)).toNat:Nat):Int),vI (((a0.fLevels % (3:UInt8)).toNat:Nat):Int),X2]) v2 (.tl (.tl (.tl .hd))) rfl rfl rfl (St.c1 (α:=TUnit) v2 (.tl (.tl .hd))) rfl rfl (o1 (St.o1 (α:=TUnit) v2 (.tl (.tl .hd)))) rfl) (fun I9 u4 s3=>?_)
 refine AG (doneD_ok b0 (by kernel_rfl))<|Az<|Ar<|Ae rfl<|Ab (Bq (i:=y1) (j:=1) rfl rfl (by omega))<|Ag rfl<|Aa ?_
 obtain ⟨v4,t3⟩:=AI u4 (.one (.tl .hd) (.one (.tl .hd) (.one (.tl .hd) (.one (.tl .hd) (.one (.tl .hd) .done)))))
 have W5:=AR v5 (Tt s3 t3)
 have Q6:=Tt G3 (Tt U4 (Tt s3 t3))
 exact q4 (y1 + 1,y8,X2,j4) _ _ ⟨rfl,rfl,rfl,rfl,trivial⟩ ⟨v4,(Tt Q4 Q6),W5⟩ h
 intro H1
 refine RD.each [4,7,10] (readyD_ok b0 (by kernel_rfl)) ⟨?_,?_,?_,trivial⟩
 refine RO.new (m' :=895) (stepC_ok b0 (by kernel_rfl)) rfl .plain rfl (Does.mk (α:=Int) t1 Z0 el45 rfl) (fun g2 d1 D0 X0=>?_)
 have p1:=AE (cs:=(List.replicate (((a0.fGroups % (3:UInt8)).toNat:Nat):Int).toNat [vI 0]).flatten) (xs:=A0) D0 L (Cells.mk t1 rfl)
 refine RD.each [7,10] (readyD_ok b0 (by kernel_rfl)) ⟨?_,?_,trivial⟩
 refine RO.new (m' :=1023) (stepC_ok b0 (by kernel_rfl)) rfl .plain rfl (Does.mk (α:=Int) u1 D0 el45 rfl) (fun j2 g1 E0 U0=>?_)
 have q1:=AE (cs:=(List.replicate (((a0.fParties % (4:UInt8)).toNat:Nat):Int).toNat [vI 0]).flatten) (xs:=B0) E0 L (Cells.mk u1 rfl)
 refine RD.nu 10 2047 b0 rfl .plain rfl (Does.mk (α:=Int) v1 E0 el45 rfl) (fun k2 j1 F0 V0=>?_)
 have s1:=AE (cs:=(List.replicate (((a0.fLevels % (3:UInt8)).toNat:Nat):Int).toNat [vI 0]).flatten) (xs:=C0) F0 L (Cells.mk v1 rfl)
 have X5:=AR q1 V0
 have Y5:=AR p1 (Tt U0 V0)
 have R6:=Tt X0 (Tt U0 V0)
 exact H1 ((.slice (some ⟨j1,0,none⟩) (((a0.fLevels % (3:UInt8)).toNat:Nat):Int).toNat (((a0.fLevels % (3:UInt8)).toNat:Nat):Int).toNat),(List.replicate (((a0.fLevels % (3:UInt8)).toNat:Nat):Int).toNat [vI 0]).flatten,(.slice (some ⟨g1,0,none⟩) (((a0.fParties % (4:UInt8)).toNat:Nat):Int).toNat (((a0.fParties % (4:UInt8)).toNat:Nat):Int).toNat),(List.replicate (((a0.fParties % (4:UInt8)).toNat:Nat):Int).toNat [vI 0]).flatten,(.slice (some ⟨d1,0,none⟩) (((a0.fGroups % (3:UInt8)).toNat:Nat):Int).toNat (((a0.fGroups % (3:UInt8)).toNat:Nat):Int).toNat),(List.replicate (((a0.fGroups % (3:UInt8)).toNat:Nat):Int).toNat [vI 0]).flatten) _ _ ⟨rfl,rfl,rfl,rfl,rfl,rfl,rfl,rfl,trivial⟩ ⟨F0,R6,s1,X5,Y5⟩
 refine RO.new (m' :=1919) (stepC_ok b0 (by kernel_rfl)) rfl .plain rfl (Does.mk (α:=Int) v1 D0 el45 rfl) (fun k2 j1 F0 V0=>?_)
 have s1:=AE (cs:=(List.replicate (((a0.fLevels % (3:UInt8)).toNat:Nat):Int).toNat [vI 0]).flatten) (xs:=C0) F0 L (Cells.mk v1 rfl)
 refine RD.nu 7 2047 b0 rfl .plain rfl (Does.mk (α:=Int) u1 F0 el45 rfl) (fun j2 g1 E0 U0=>?_)
 have q1:=AE (cs:=(List.replicate (((a0.fParties % (4:UInt8)).toNat:Nat):Int).toNat [vI 0]).flatten) (xs:=B0) E0 L (Cells.mk u1 rfl)
 obtain ⟨x4,H2⟩:=AI E0 (.one (.tl .hd) (.one .hd (.one .hd (.one .hd (.one .hd (.one .hd (.one .hd (.one .hd .done))))))))
 have Z5:=AR s1 (Tt U0 H2)
 have b6:=AR q1 H2
 have H3:=Tt V0 (Tt U0 H2)
 have c6:=AR p1 H3
 exact H1 ((.slice (some ⟨j1,0,none⟩) (((a0.fLevels % (3:UInt8)).toNat:Nat):Int).toNat (((a0.fLevels % (3:UInt8)).toNat:Nat):Int).toNat),(List.replicate (((a0.fLevels % (3:UInt8)).toNat:Nat):Int).toNat [vI 0]).flatten,(.slice (some ⟨g1,0,none⟩) (((a0.fParties % (4:UInt8)).toNat:Nat):Int).toNat (((a0.fParties % (4:UInt8)).toNat:Nat):Int).toNat),(List.replicate (((a0.fParties % (4:UInt8)).toNat:Nat):Int).toNat [vI 0]).flatten,(.slice (some ⟨d1,0,none⟩) (((a0.fGroups % (3:UInt8)).toNat:Nat):Int).toNat (((a0.fGroups % (3:UInt8)).toNat:Nat):Int).toNat),(List.replicate (((a0.fGroups % (3:UInt8)).toNat:Nat):Int).toNat [vI 0]).flatten) _ _ ⟨rfl,rfl,rfl,rfl,rfl,rfl,rfl,rfl,trivial⟩ ⟨x4,(Tt X0 H3),Z5,b6,c6⟩
 refine RO.new (m' :=1007) (stepC_ok b0 (by kernel_rfl)) rfl .plain rfl (Does.mk (α:=Int) u1 Z0 el45 rfl) (fun j2 g1 E0 U0=>?_)
 have q1:=AE (cs:=(List.replicate (((a0.fParties % (4:UInt8)).toNat:Nat):Int).toNat [vI 0]).flatten) (xs:=B0) E0 L (Cells.mk u1 rfl)
 refine RD.each [4,10] (readyD_ok b0 (by kernel_rfl)) ⟨?_,?_,trivial⟩
 refine RO.new (m' :=1023) (stepC_ok b0 (by kernel_rfl)) rfl .plain rfl (Does.mk (α:=Int) t1 E0 el45 rfl) (fun g2 d1 D0 X0=>?_)
 have p1:=AE (cs:=(List.replicate (((a0.fGroups % (3:UInt8)).toNat:Nat):Int).toNat [vI 0]).flatten) (xs:=A0) D0 L (Cells.mk t1 rfl)
 refine RD.nu 10 2047 b0 rfl .plain rfl (Does.mk (α:=Int) v1 D0 el45 rfl) (fun k2 j1 F0 V0=>?_)
 have s1:=AE (cs:=(List.replicate (((a0.fLevels % (3:UInt8)).toNat:Nat):Int).toNat [vI 0]).flatten) (xs:=C0) F0 L (Cells.mk v1 rfl)
 obtain ⟨y4,I2⟩:=AI F0 (.one .hd (.one (.tl .hd) (.one .hd (.one .hd (.one .hd (.one .hd (.one .hd (.one .hd .done))))))))
 have d6:=AR s1 I2
 have I3:=Tt X0 (Tt V0 I2)
 have g6:=AR q1 I3
 have j6:=AR p1 (Tt V0 I2)
 exact H1 ((.slice (some ⟨j1,0,none⟩) (((a0.fLevels % (3:UInt8)).toNat:Nat):Int).toNat (((a0.fLevels % (3:UInt8)).toNat:Nat):Int).toNat),(List.replicate (((a0.fLevels % (3:UInt8)).toNat:Nat):Int).toNat [vI 0]).flatten,(.slice (some ⟨g1,0,none⟩) (((a0.fParties % (4:UInt8)).toNat:Nat):Int).toNat (((a0.fParties % (4:UInt8)).toNat:Nat):Int).toNat),(List.replicate (((a0.fParties % (4:UInt8)).toNat:Nat):Int).toNat [vI 0]).flatten,(.slice (some ⟨d1,0,none⟩) (((a0.fGroups % (3:UInt8)).toNat:Nat):Int).toNat (((a0.fGroups % (3:UInt8)).toNat:Nat):Int).toNat),(List.replicate (((a0.fGroups % (3:UInt8)).toNat:Nat):Int).toNat [vI 0]).flatten) _ _ ⟨rfl,rfl,rfl,rfl,rfl,rfl,rfl,rfl,trivial⟩ ⟨y4,(Tt U0 I3),d6,g6,j6⟩
 refine RO.new (m' :=2031) (stepC_ok b0 (by kernel_rfl)) rfl .plain rfl (Does.mk (α:=Int) v1 E0 el45 rfl) (fun k2 j1 F0 V0=>?_)
 have s1:=AE (cs:=(List.replicate (((a0.fLevels % (3:UInt8)).toNat:Nat):Int).toNat [vI 0]).flatten) (xs:=C0) F0 L (Cells.mk v1 rfl)
 refine RD.nu 4 2047 b0 rfl .plain rfl (Does.mk (α:=Int) t1 F0 el45 rfl) (fun g2 d1 D0 X0=>?_)
 have p1:=AE (cs:=(List.replicate (((a0.fGroups % (3:UInt8)).toNat:Nat):Int).toNat [vI 0]).flatten) (xs:=A0) D0 L (Cells.mk t1 rfl)
 obtain ⟨z4,J2⟩:=AI D0 (.one (.tl .hd) (.one (.tl .hd) (.one .hd (.one .hd (.one .hd (.one .hd (.one .hd (.one .hd .done))))))))
 have k6:=AR s1 (Tt X0 J2)
 have J3:=Tt V0 (Tt X0 J2)
 have p6:=AR q1 J3
 have q6:=AR p1 J2
 exact H1 ((.slice (some ⟨j1,0,none⟩) (((a0.fLevels % (3:UInt8)).toNat:Nat):Int).toNat (((a0.fLevels % (3:UInt8)).toNat:Nat):Int).toNat),(List.replicate (((a0.fLevels % (3:UInt8)).toNat:Nat):Int).toNat [vI 0]).flatten,(.slice (some ⟨g1,0,none⟩) (((a0.fParties % (4:UInt8)).toNat:Nat):Int).toNat (((a0.fParties % (4:UInt8)).toNat:Nat):Int).toNat),(List.replicate (((a0.fParties % (4:UInt8)).toNat:Nat):Int).toNat [vI 0]).flatten,(.slice (some ⟨d1,0,none⟩) (((a0.fGroups % (3:UInt8)).toNat:Nat):Int).toNat (((a0.fGroups % (3:UInt8)).toNat:Nat):Int).toNat),(List.replicate (((a0.fGroups % (3:UInt8)).toNat:Nat):Int).toNat [vI 0]).flatten) _ _ ⟨rfl,rfl,rfl,rfl,rfl,rfl,rfl,rfl,trivial⟩ ⟨z4,(Tt U0 J3),k6,p6,q6⟩
 refine RO.new (m' :=1903) (stepC_ok b0 (by kernel_rfl)) rfl .plain rfl (Does.mk (α:=Int) v1 Z0 el45 rfl) (fun k2 j1 F0 V0=>?_)
 have s1:=AE (cs:=(List.replicate (((a0.fLevels % (3:UInt8)).toNat:Nat):Int).toNat [vI 0]).flatten) (xs:=C0) F0 L (Cells.mk v1 rfl)
 refine RD.each [4,7] (readyD_ok b0 (by kernel_rfl)) ⟨?_,?_,trivial⟩
 refine RO.new (m' :=1919) (stepC_ok b0 (by kernel_rfl)) rfl .plain rfl (Does.mk (α:=Int) t1 F0 el45 rfl) (fun g2 d1 D0 X0=>?_)
 have p1:=AE (cs:=(List.replicate (((a0.fGroups % (3:UInt8)).toNat:Nat):Int).toNat [vI 0]).flatten) (xs:=A0) D0 L (Cells.mk t1 rfl)
 refine RD.nu 7 2047 b0 rfl .plain rfl (Does.mk (α:=Int) u1 D0 el45 rfl) (fun j2 g1 E0 U0=>?_)
 have q1:=AE (cs:=(List.replicate (((a0.fParties % (4:UInt8)).toNat:Nat):Int).toNat [vI 0]).flatten) (xs:=B0) E0 L (Cells.mk u1 rfl)
 obtain ⟨A4,K2⟩:=AI E0 (.one (.tl (.tl .hd)) (.one .hd (.one .hd (.one .hd (.one .hd (.one .hd (.one .hd (.one .hd .done))))))))
 have K3:=Tt X0 (Tt U0 K2)
 have s6:=AR s1 K3
 have t6:=AR q1 K2
 have u6:=AR p1 (Tt U0 K2)
 exact H1 ((.slice (some ⟨j1,0,none⟩) (((a0.fLevels % (3:UInt8)).toNat:Nat):Int).toNat (((a0.fLevels % (3:UInt8)).toNat:Nat):Int).toNat),(List.replicate (((a0.fLevels % (3:UInt8)).toNat:Nat):Int).toNat [vI 0]).flatten,(.slice (some ⟨g1,0,none⟩) (((a0.fParties % (4:UInt8)).toNat:Nat):Int).toNat (((a0.fParties % (4:UInt8)).toNat:Nat):Int).toNat),(List.replicate (((a0.fParties % (4:UInt8)).toNat:Nat):Int).toNat [vI 0]).flatten,(.slice (some ⟨d1,0,none⟩) (((a0.fGroups % (3:UInt8)).toNat:Nat):Int).toNat (((a0.fGroups % (3:UInt8)).toNat:Nat):Int).toNat),(List.replicate (((a0.fGroups % (3:UInt8)).toNat:Nat):Int).toNat [vI 0]).flatten) _ _ ⟨rfl,rfl,rfl,rfl,rfl,rfl,rfl,rfl,trivial⟩ ⟨A4,(Tt V0 K3),s6,t6,u6⟩
 refine RO.new (m' :=2031) (stepC_ok b0 (by kernel_rfl)) rfl .plain rfl (Does.mk (α:=Int) u1 F0 el45 rfl) (fun j2 g1 E0 U0=>?_)
 have q1:=AE (cs:=(List.replicate (((a0.fParties % (4:UInt8)).toNat:Nat):Int).toNat [vI 0]).flatten) (xs:=B0) E0 L (Cells.mk u1 rfl)
 refine RD.nu 4 2047 b0 rfl .plain rfl (Does.mk (α:=Int) t1 E0 el45 rfl) (fun g2 d1 D0 X0=>?_)
 have p1:=AE (cs:=(List.replicate (((a0.fGroups % (3:UInt8)).toNat:Nat):Int).toNat [vI 0]).flatten) (xs:=A0) D0 L (Cells.mk t1 rfl)
 obtain ⟨B4,M2⟩:=AI D0 (.one (.tl (.tl .hd)) (.one (.tl .hd) (.one .hd (.one .hd (.one .hd (.one .hd (.one .hd (.one .hd .done))))))))
 have M3:=Tt U0 (Tt X0 M2)
 have v6:=AR s1 M3
 have x6:=AR q1 (Tt X0 M2)
 have y6:=AR p1 M2
 exact H1 ((.slice (some ⟨j1,0,none⟩) (((a0.fLevels % (3:UInt8)).toNat:Nat):Int).toNat (((a0.fLevels % (3:UInt8)).toNat:Nat):Int).toNat),(List.replicate (((a0.fLevels % (3:UInt8)).toNat:Nat):Int).toNat [vI 0]).flatten,(.slice (some ⟨g1,0,none⟩) (((a0.fParties % (4:UInt8)).toNat:Nat):Int).toNat (((a0.fParties % (4:UInt8)).toNat:Nat):Int).toNat),(List.replicate (((a0.fParties % (4:UInt8)).toNat:Nat):Int).toNat [vI 0]).flatten,(.slice (some ⟨d1,0,none⟩) (((a0.fGroups % (3:UInt8)).toNat:Nat):Int).toNat (((a0.fGroups % (3:UInt8)).toNat:Nat):Int).toNat),(List.replicate (((a0.fGroups % (3:UInt8)).toNat:Nat):Int).toNat [vI 0]).flatten) _ _ ⟨rfl,rfl,rfl,rfl,rfl,rfl,rfl,rfl,trivial⟩ ⟨B4,(Tt V0 M3),v6,x6,y6⟩
 refine Ba rfl ?_
 have h:=G5 _ h
 try dsimp only at h
 refine Ac<|Ab (AD rfl (Z0.memA (.tl (.tl .hd))))<|AM [vI (((a0.fGroups % (3:UInt8)).toNat:Nat):Int),vI (((a0.fParties % (4:UInt8)).toNat:Nat):Int),vI (((a0.fLevels % (3:UInt8)).toNat:Nat):Int),c0] Z0 (.tl (.tl (.tl .hd))) (o4 rfl rfl rfl (St.o1 (α:=TUnit) Z0 (.tl .hd))) (fun J9 x2 V4=>?_)
 refine Aa<|Al rfl ?_
 have z6:=AR C3 V4
 have c7:=Bt (α:=TUnit) x2 (.tl .hd) z6 hL
 have W1:=St.delS x2 (.tl .hd)
 have j9:=St.delT x2 (.tl .hd)
 have d7:=Rep.at_ (α:=TUnit) (v:=c0) (xs:=M0) W1 L c7
 refine Am hb0 Tryz.func18 rfl (.cons (.many (cs:=[vI (((a0.fGroups % (3:UInt8)).toNat:Nat):Int),vI (((a0.fParties % (4:UInt8)).toNat:Nat):Int),vI (((a0.fLevels % (3:UInt8)).toNat:Nat):Int),c0]) (by kernel_rfl) rfl (W1.memA (.tl (.tl .hd)))) .nil) rfl ?_
 cases h
 exact ⟨W1.ag,fun w9 hw9=>⟨c0,rfl,W1.kd d7 hw9⟩⟩
def slices_Clone_api_Plan_int_p (_n:Nat) (a0:List Int):Option (List Int):=
  nilCase a0 (some ([]:List Int)) ((app ([]:List Int) a0).bind fun b0=>some b0)
theorem slices_Clone_api_Plan_int_c (n:Nat) (L:List Nat) (w:World) (_hL:∀ b ∈ L,b < w.heap.size) (a0:List Int) {v0_0:Value} (h0_0:Rep.R w L [v0_0] a0)  {r:List Int} (h:slices_Clone_api_Plan_int_p n a0 = some r) :
    Calls Tryz.prog 39 #[v0_0] w (Gives w fun w' u=>∃ (v0_0:Value) (cs0_0:List Value),u = v0_0∧St w w' (rowsOf w.heap.size [(3,Rep.size Int,v0_0,r.length,cs0_0)])∧Cells w' (bl (rowsOf w.heap.size [(3,Rep.size Int,v0_0,r.length,cs0_0)]) ++ L) cs0_0 (r:List Int)):=by
 unfold slices_Clone_api_Plan_int_p at h
 have hS0:=Aw w
 refine AA Tryz.func39 rfl rfl rfl (fun _ cs0 hb0=>?_)
 refine Ac<|Ag rfl<|Aa<|Aj<|Ac<|Ae rfl ?_
 rcases Rep.nilOr h0_0 with ⟨c1,he3,hx4⟩ | ⟨ad2,c1,he3⟩
 have h:=nilCase_n h hx4
 refine Ab (FV.eqlNil1 Tryz.underlying46 rfl he3 rfl)<|Aa<|Bn rfl<|Ac<|Ag rfl<|Aa<|Al rfl ?_
 have b0:=hS0.nilRow 3 (Rep.size Int)
 have v0:=St.nilRowT hS0 3 (Rep.size Int)
 have k0:=AE (cs:=[]) (xs:=([]:List Int)) b0 L (AO _ _)
 refine Am (u:=vN) hb0 Tryz.func39 rfl (.cons (.tmp rfl) .nil) rfl ?_
 cases h
 exact ⟨b0.ag,fun w9 hw9=>⟨vN,[],rfl,b0.agree hw9,Cells.keep0 k0 hw9⟩⟩
 have h:=nilCase_s h
 refine Ab (FV.eqlNil0 Tryz.underlying46 rfl he3 rfl)<|Aa<|Br rfl<|Aq<|Ac<|Ak .plain rfl (AY (α:=Int) (xs:=([]:List Int)) (vs:=[]) (ds' :=[]) rfl hS0 el46 rfl evs_nil (by kernel_rfl) rfl) (fun z0 u0 c0 x0=>?_)
 have p0:=AE (cs:=[]) (xs:=(([]:List Int):List Int)) c0 L (AO _ _)
 refine Ae rfl ?_
 obtain ⟨B0,t0,h⟩:=bi h
 have s0:=AN h0_0 c0
 refine RG.doesL .plain rfl (DoesL.app (α:=Int) (ys:=a0) t0 c0 (fun _ _=>.hd) el46 rfl rfl p0 (Src.rep s0)) (fun g0 A0 ⟨j0,d0,y0,q0⟩=>?_)
 refine Ag rfl<|Aa<|Al rfl<|Am (u:=g0) hb0 Tryz.func39 rfl (.cons (.tmp rfl) .nil) rfl ?_
 cases h
 exact ⟨d0.ag,fun w9 hw9=>⟨g0,j0,rfl,d0.agree hw9,Cells.keep0 q0 hw9⟩⟩
def slices_Index_api_Plan_int_l1 (_n:Nat) (a0:List Int) (a1:Int) (c0:Nat → Option (Int ⊕ Unit)):Nat → Option (Int ⊕ Unit)
  | b0=>(if b0 < a0.length then (a0[b0]?).bind fun d0=>(if a1 = d0 then some (.inl ((b0:Nat):Int)) else c0 (b0 + 1)) else some (.inr ()))
def slices_Index_api_Plan_int_p (n:Nat) (a0:List Int) (a1:Int):Option Int:=
  thn (loopF (slices_Index_api_Plan_int_l1 n a0 a1) n 0) (fun _=>some (-1:Int))
theorem slices_Index_api_Plan_int_c (n:Nat) (L:List Nat) (w:World) (_hL:∀ b ∈ L,b < w.heap.size) (a0:List Int) {v0_0:Value} (h0_0:Rep.R w L [v0_0] a0) (a1:Int)  {r:Int} (h:slices_Index_api_Plan_int_p n a0 a1 = some r) :
    Calls Tryz.prog 93 #[v0_0,vI a1] w (Gives w fun _ u=>u = vI r):=by
 unfold slices_Index_api_Plan_int_p at h
 have hS0:=Aw w
 refine AA Tryz.func93 rfl rfl rfl (fun _ cs0 hb0=>?_)
 refine Ac<|Ag rfl<|Aa<|Aj<|Ac<|Ae rfl ?_
 have hl1:a0.length ≤ 281474976710656:=AZ h0_0
 refine Ab (Be (xs:=a0) Tryz.underlying46 rfl h0_0)<|Ae rfl<|Aa<|Av ?_
 obtain ⟨G0,A0,g0⟩:=thn_in h
 refine Bi (α:=Nat) (fun b0=>[(0,v0_0),(1,vI a1),(7,vI ((a0.length:Nat):Int)),(8,vI ((b0:Nat):Int))]) (fun b0 d0=>St w d0 []∧Tr w [] d0 []) (fun b0=>b0) 0 A0 ⟨rfl,rfl,rfl,rfl,trivial⟩ ⟨hS0,AV _ _⟩ ?_
 rintro E0 b0 d0 s0 ⟨c0,t0⟩ h
 unfold slices_Index_api_Plan_int_l1 at h
 try dsimp only at h
 refine Ac<|Ab (Bj (i:=b0) (j:=a0.length) rfl rfl)<|Aa<|Aj<|AS rfl h (fun k0 h=>?_) (fun k0 h=>?_)
 refine Aq<|Aj<|Av<|Ac<|Ae rfl<|Ag rfl<|Aa<|Ac<|Ae rfl<|Ae rfl<|Ae rfl ?_
 obtain ⟨j0,C0,h⟩:=bi h
 have z0:=AN h0_0 c0
 obtain ⟨D0,F0,u0,x0,q0,B0,y0⟩:=Bk z0 C0
 have v0:q0 = [vI j0]:=B0; subst v0
 refine Ab (Bm 1 b0 rfl u0 rfl rfl x0)<|Bb rfl (y0 0 _ rfl)<|Ab (FV.eql (i:=a1) (j:=j0) rfl rfl)<|Aa<|AS rfl h (fun p0 h=>?_) (fun p0 h=>?_)
 refine Ac<|Ae rfl<|Ag rfl<|Aa ?_
 have h:=thn_inl h g0
 refine Al rfl<|AX hb0 Tryz.func93 rfl rfl ?_
 cases h
 exact c0.gv
 refine Aq<|Az<|Ar<|Ab (Bq (i:=b0) (j:=1) rfl rfl (by omega))<|Ae rfl<|Aa ?_
 exact s0 (b0 + 1) _ _ ⟨rfl,rfl,rfl,rfl,trivial⟩ ⟨c0,t0⟩ h
 refine Ba rfl ?_
 have h:=thn_inr h g0
 try dsimp only at h
 refine Ac<|Ag rfl<|Aa<|Al rfl<|AX hb0 Tryz.func93 rfl rfl ?_
 cases h
 exact c0.gv
theorem body93:bodyB Tryz.prog 93 = true:=by kernel_rfl
def slices_Contains_api_Plan_int_p (n:Nat) (a0:List Int) (a1:Int):Option Bool:=
  (slices_Index_api_Plan_int_p n a0 a1).bind fun y1=>some (decide (0 ≤ y1))
theorem slices_Contains_api_Plan_int_c (n:Nat) (L:List Nat) (w:World) (hL:∀ b ∈ L,b < w.heap.size) (a0:List Int) {v0_0:Value} (h0_0:Rep.R w L [v0_0] a0) (a1:Int)  {r:Bool} (h:slices_Contains_api_Plan_int_p n a0 a1 = some r) :
    Calls Tryz.prog 40 #[v0_0,vI a1] w (Gives w fun _ u=>u = .bool r):=by
 unfold slices_Contains_api_Plan_int_p at h
 have hS0:=Aw w
 refine AA Tryz.func40 rfl rfl rfl (fun _ cs0 hb0=>?_)
 refine Ac<|Ag rfl<|Aa<|Ac<|Ae rfl<|Ae rfl ?_
 obtain ⟨y1,hy1,h⟩:=bi h
 refine Bd (vI y1) body93 rfl (e2 rfl rfl) (fun w9 hw9=>slices_Index_api_Plan_int_c n _ w9 (hS0.hL0 hL hw9) a0 (hS0.kd h0_0 hw9) a1 hy1) rfl<|Ab (FV.geq (i:=y1) (j:=0) rfl rfl)<|Ag rfl<|Aa<|Al rfl<|AX hb0 Tryz.func40 rfl rfl ?_
 cases h
 exact hS0.gv
def slices_Clone_int_int_p (_n:Nat) (a0:List Int):Option (List Int):=
  nilCase a0 (some ([]:List Int)) ((app ([]:List Int) a0).bind fun b0=>some b0)
theorem slices_Clone_int_int_c (n:Nat) (L:List Nat) (w:World) (_hL:∀ b ∈ L,b < w.heap.size) (a0:List Int) {v0_0:Value} (h0_0:Rep.R w L [v0_0] a0)  {r:List Int} (h:slices_Clone_int_int_p n a0 = some r) :
    Calls Tryz.prog 41 #[v0_0] w (Gives w fun w' u=>∃ (v0_0:Value) (cs0_0:List Value),u = v0_0∧St w w' (rowsOf w.heap.size [(3,Rep.size Int,v0_0,r.length,cs0_0)])∧Cells w' (bl (rowsOf w.heap.size [(3,Rep.size Int,v0_0,r.length,cs0_0)]) ++ L) cs0_0 (r:List Int)):=by
 unfold slices_Clone_int_int_p at h
 have hS0:=Aw w
 refine AA Tryz.func41 rfl rfl rfl (fun _ cs0 hb0=>?_)
 refine Ac<|Ag rfl<|Aa<|Aj<|Ac<|Ae rfl ?_
 rcases Rep.nilOr h0_0 with ⟨c1,he3,hx4⟩ | ⟨ad2,c1,he3⟩
 have h:=nilCase_n h hx4
 refine Ab (FV.eqlNil1 Tryz.underlying45 rfl he3 rfl)<|Aa<|Bn rfl<|Ac<|Ag rfl<|Aa<|Al rfl ?_
 have b0:=hS0.nilRow 3 (Rep.size Int)
 have v0:=St.nilRowT hS0 3 (Rep.size Int)
 have k0:=AE (cs:=[]) (xs:=([]:List Int)) b0 L (AO _ _)
 refine Am (u:=vN) hb0 Tryz.func41 rfl (.cons (.tmp rfl) .nil) rfl ?_
 cases h
 exact ⟨b0.ag,fun w9 hw9=>⟨vN,[],rfl,b0.agree hw9,Cells.keep0 k0 hw9⟩⟩
 have h:=nilCase_s h
 refine Ab (FV.eqlNil0 Tryz.underlying45 rfl he3 rfl)<|Aa<|Br rfl<|Aq<|Ac<|Ak .plain rfl (AY (α:=Int) (xs:=([]:List Int)) (vs:=[]) (ds' :=[]) rfl hS0 el45 rfl evs_nil (by kernel_rfl) rfl) (fun z0 u0 c0 x0=>?_)
 have p0:=AE (cs:=[]) (xs:=(([]:List Int):List Int)) c0 L (AO _ _)
 refine Ae rfl ?_
 obtain ⟨B0,t0,h⟩:=bi h
 have s0:=AN h0_0 c0
 refine RG.doesL .plain rfl (DoesL.app (α:=Int) (ys:=a0) t0 c0 (fun _ _=>.hd) el45 rfl rfl p0 (Src.rep s0)) (fun g0 A0 ⟨j0,d0,y0,q0⟩=>?_)
 refine Ag rfl<|Aa<|Al rfl<|Am (u:=g0) hb0 Tryz.func41 rfl (.cons (.tmp rfl) .nil) rfl ?_
 cases h
 exact ⟨d0.ag,fun w9 hw9=>⟨g0,j0,rfl,d0.agree hw9,Cells.keep0 q0 hw9⟩⟩
def tb7_30:List (Nat × Nat × Nat):=[(0,46768052394588893382517914646921056628989841375232,16384),(0,93536104789177786765035829293842113257979682750464,2048),(0,187072209578355573530071658587684226515959365500928,67108864),(6,374144419156711147060143317175368453031918731001856,280608314367533360295107487881526339773939048251392),(8,748288838313422294120286634350736906063837462003712,374144419156711147060143317175368453031918731001856),(17,1496577676626844588240573268701473812127674924007424,795056890708011187502804548997657962692827303378944),(32,2993155353253689176481146537402947624255349848014848,1496577676626844588240573268701473812127674924007424),(0,5986310706507378352962293074805895248510699696029696,8192),(128,11972621413014756705924586149611790497021399392059392,5986310706507378352962293074805895248510699696029696),(0,23945242826029513411849172299223580994042798784118784,67108864),(768,47890485652059026823698344598447161988085597568237568,35917864239044270117773758448835371491064198176178176),(1024,95780971304118053647396689196894323976171195136475136,47890485652059026823698344598447161988085597568237568),(2048,191561942608236107294793378393788647952342390272950272,95780971304118053647396689196894323976171195136475136),(4160,383123885216472214589586756787577295904684780545900544,194555097961489796471274524931191595576597740120965120),(16383,766247770432944429179173513575154591809369561091801088,795056890708011187502804548997657962692827303378944),(32767,0,1149371655649416643768760270362731887714054341637701632)]
def tb7_31:List (Nat × Nat × Nat):=[(0,1532495540865888858358347027150309183618739122183602176,16384),(0,3064991081731777716716694054300618367237478244367204352,65536),(0,6129982163463555433433388108601236734474956488734408704,67108864),(6,12259964326927110866866776217202473468949912977468817408,9194973245195333150150082162901855101712434733101613056),(8,24519928653854221733733552434404946937899825954937634816,12259964326927110866866776217202473468949912977468817408),(17,49039857307708443467467104868809893875799651909875269632,26052424194720110592091899461555256121518565077121236992),(32,98079714615416886934934209737619787751599303819750539264,49039857307708443467467104868809893875799651909875269632),(0,196159429230833773869868419475239575503198607639501078528,8192),(128,392318858461667547739736838950479151006397215279002157056,196159429230833773869868419475239575503198607639501078528),(0,784637716923335095479473677900958302012794430558004314112,67108864),(768,1569275433846670190958947355801916604025588861116008628224,1176956575385002643219210516851437453019191645837006471168),(1024,3138550867693340381917894711603833208051177722232017256448,1569275433846670190958947355801916604025588861116008628224),(2048,6277101735386680763835789423207666416102355444464034512896,3138550867693340381917894711603833208051177722232017256448),(4160,12554203470773361527671578846415332832204710888928069025792,6375181450002097650770723632945286203853954748283785052160),(16383,25108406941546723055343157692830665664409421777856138051584,26052424194720110592091899461555256121518565077121236992),(32767,0,37662610412320084583014736539245998496614132666784207077376)]
theorem body9:bodyB Tryz.prog 9 = true:=by kernel_rfl
theorem body17:bodyB Tryz.prog 17 = true:=by kernel_rfl
theorem body18:bodyB Tryz.prog 18 = true:=by kernel_rfl
theorem body39:bodyB Tryz.prog 39 = true:=by kernel_rfl
theorem body40:bodyB Tryz.prog 40 = true:=by kernel_rfl
theorem body41:bodyB Tryz.prog 41 = true:=by kernel_rfl
def wardmotelaw22_BalanceNames_l1 (_n:Nat) (c0:(List Int) × Int) (a2:UInt8) (q0:(List Int) × Int) (p0:(List Int) × Int) (d0:Nat → Option (Bool ⊕ Unit)):Nat → Option (Bool ⊕ Unit)
  | b0=>(if b0 < c0.1.length then (c0.1[b0]?).bind fun j0=>(remI ((b0 + a2.toNat:Nat):Int) q0.2).bind fun g0=>(idx p0.1 g0).bind fun k0=>(if k0 = j0 then d0 (b0 + 1) else some (.inl false)) else some (.inr ()))
def wardmotelaw22_BalanceNames_l2 (_n:Nat) (s0:List Int) (a2:UInt8) (q0:(List Int) × Int) (d0:Nat × (List Int) → Option (List Int)):Nat × (List Int) → Option (List Int)
  | (b0,c0)=>(if b0 < s0.length then (c0[b0]?).bind fun k0=>(chk (k0 + ((a2.toNat:Nat):Int))).bind fun g0=>(remI g0 q0.2).bind fun j0=>(put c0 ((b0:Nat):Int) j0).bind fun p0=>d0 (b0 + 1,p0) else some c0)
def wardmotelaw22_BalanceNames_p (n:Nat) (a0:TDraft) (a1:TDraft26) (a2:UInt8) (a3:UInt8) (a4:UInt8):Option Bool:=
  (wardmotelaw22_works_p n).bind fun K0=>(if K0 = true then (wardmoteref21_Draft_Loose_p n a0).bind fun b0=>(wardmoteref22_Draft_Roll_p n a1 ((b0.1.length:Nat):Int)).bind fun d0=>(balance_Totals_p n d0 b0.1 b0.2).bind fun j0=>(slices_Clone_api_Plan_int_p n b0.1).bind fun C0=>Option.bind (loopF (wardmotelaw22_BalanceNames_l2 n C0 a2 b0) n (0,C0)) (fun v0=>(balance_Totals_p n d0 v0 b0.2).bind fun q0=>(balance_Spread_p n d0 b0.1 b0.2).bind fun y0=>(balance_Spread_p n d0 v0 b0.2).bind fun z0=>jn (fun D0=>(if D0 = true then some false else thn (loopF (wardmotelaw22_BalanceNames_l1 n j0 a2 b0 q0) n 0) (fun _=>(remI ((a3.toNat:Nat):Int) ((b0.1.length:Nat):Int)).bind fun g0=>(slices_Clone_api_Plan_int_p n b0.1).bind fun A0=>(remI ((a4.toNat:Nat):Int) b0.2).bind fun E0=>(idx A0 g0).bind fun Q0=>(put A0 ((g0.toNat:Nat):Int) E0).bind fun p0=>(balance_Totals_p n d0 p0 b0.2).bind fun s0=>(idx b0.1 g0).bind fun k0=>(slices_Contains_api_Plan_int_p n p0 k0).bind fun M0=>(if M0 = true then (slices_Clone_int_int_p n j0.1).bind fun B0=>(idx B0 k0).bind fun H0=>(idx d0.fUnits g0).bind fun t0=>(chk (H0 - t0.fPeople)).bind fun F0=>(put B0 ((k0.toNat:Nat):Int) F0).bind fun x0=>(idx p0 g0).bind fun u0=>(idx x0 u0).bind fun I0=>(chk (I0 + t0.fPeople)).bind fun G0=>(put x0 ((u0.toNat:Nat):Int) G0).bind fun J0=>(wardmotelaw22_is_1_p n s0.1 s0.2 J0).bind fun P0=>some P0 else some (decide (s0.2 = 220)))))) (fun c0=>(if j0.2 = 0 then (if q0.2 = 0 then (if y0.1 = z0.1 then (if y0.2 = z0.2 then (if ((j0.1.length:Nat):Int) = b0.2 then c0 (!(decide (((q0.1.length:Nat):Int) = b0.2))) else c0 true) else c0 true) else c0 true) else c0 true) else c0 true))) else some false)
theorem wardmotelaw22_BalanceNames_c (n:Nat) (L:List Nat) (w:World) (hL:∀ b ∈ L,b < w.heap.size) (a0:TDraft) {v0_1:Value} (h0_1:Rep.R w L [v0_1] a0.fParents) {v0_2:Value} (h0_2:Rep.R w L [v0_2] a0.fMore) {v0_3:Value} (h0_3:Rep.R w L [v0_3] a0.fLabels) (a1:TDraft26) {v1_4:Value} (h1_4:Rep.R w L [v1_4] a1.fNums) (a2:UInt8) (a3:UInt8) (a4:UInt8)  {r:Bool} (h:wardmotelaw22_BalanceNames_p n a0 a1 a2 a3 a4 = some r) :
    Calls Tryz.prog 7 #[.agg #[.int .u8 (a0.fN.toNat:Int),v0_1,v0_2,v0_3,.int .u8 (a0.fK.toNat:Int)],.agg #[.int .u8 (a1.fGroups.toNat:Int),.int .u8 (a1.fParties.toNat:Int),.int .u8 (a1.fLevels.toNat:Int),.int .u8 (a1.fWater.toNat:Int),v1_4],.int .u8 (a2.toNat:Int),.int .u8 (a3.toNat:Int),.int .u8 (a4.toNat:Int)] w (Gives w fun _ u=>u = .bool r):=by
 unfold wardmotelaw22_BalanceNames_p at h
 have hS0:=Aw w
 refine AA Tryz.func7 rfl rfl rfl (fun _ cs0 hb0=>?_)
 refine Ac<|Ak .plain rfl (Ax hS0 rfl rfl) (fun w11 W9 I4 E00=>?_)
 refine Ak .plain rfl (Ax I4 rfl rfl) (fun w16 X9 y0 F00=>?_)
 refine Ag rfl<|Aa<|Aj<|Ac ?_
 obtain ⟨B9,W8,h⟩:=bi h
 refine Bd (.bool B9) body9 rfl evs_nil (fun w9 hw9=>wardmotelaw22_works_c n _ w9 (y0.hL0 hL hw9)  W8) rfl<|Ab (By rfl)<|Aa<|MX.ifnb rfl h (fun Z3 h=>?_) (fun Z3 h=>?_)
 refine Aq<|Ac<|Ab (AD rfl (y0.memA (.tl .hd))) ?_
 obtain ⟨d0,X8,h⟩:=bi h
 refine Bc (fst:=[]) (cap:=[]) .plain body17 rfl (e1 rfl) (fun w9 hw9=>wardmoteref21_Draft_Loose_c n _ w9 (y0.hL hL hw9) a0 (y0.km h0_1 hw9) (y0.km h0_2 hw9) (y0.km h0_3 hw9) X8) rfl (fun w23 I01 v5 ⟨x2,hu_,C0⟩=>?_)
 subst hu_
 obtain ⟨y1,G00⟩:=y0.agr v5
 refine Ae rfl<|Ab (Af rfl rfl)<|Ab (Af rfl rfl)<|Ag rfl<|Ag rfl<|Aa<|Ac<|Ab (AD rfl (y1.memA .hd))<|Ae rfl ?_
 have P00:d0.1.length ≤ 281474976710656:=AZ C0
 refine Ab (Be (xs:=d0.1) Tryz.underlying46 rfl C0) ?_
 obtain ⟨c0,Z8,h⟩:=bi h
 refine Bc (fst:=[]) (cap:=[]) .plain body18 rfl (e2 rfl rfl) (fun w9 hw9=>wardmoteref22_Draft_Roll_c n _ w9 (y1.hL hL hw9) a1 (y1.km h1_4 hw9) ((d0.1.length:Nat):Int) Z8) rfl (fun w32 J01 x5 ⟨u0,hu_,D0⟩=>?_)
 subst hu_
 obtain ⟨Q4,c5⟩:=y1.agr x5
 refine Ak .plain rfl (Ay [vI 0,vI 0,vI 0,vN] Q4) (fun w40 q0 R4 q1=>?_)
 have Z6:=Au D0 q1
 refine AM [vI c0.fGroups,vI c0.fParties,vI c0.fLevels,u0] R4 .hd (o4 rfl rfl rfl (AP Z6)) (fun w45 c2 J1=>?_)
 refine Aa<|Ac<|Ab (AD rfl (c2.memA .hd))<|Ae rfl<|Ae rfl ?_
 obtain ⟨x0,g9,h⟩:=bi h
 have k7:=Au D0 (Tt q1 J1)
 have u2:=Tt c5 (Tt q1 J1)
 have s7:=Au C0 u2
 refine Bc (fst:=[]) (cap:=[]) .plain body19 rfl (e3 rfl rfl rfl) (fun w9 hw9=>balance_Totals_c n _ w9 (c2.hL hL hw9) c0 (Ap k7 hw9) d0.1 (Ap s7 hw9) d0.2 g9) rfl (fun w52 P01 z5 ⟨U1,hu_,R1⟩=>?_)
 subst hu_
 obtain ⟨D1,K1⟩:=c2.agr z5
 refine Ae rfl<|Ab (Af rfl rfl)<|Ab (Af rfl rfl)<|Ag rfl<|Ag rfl<|Aa<|Ac<|Ae rfl ?_
 obtain ⟨Z0,p9,h⟩:=bi h
 have t7:=Au C0 (Tt u2 K1)
 refine Bc (fst:=[]) (cap:=[]) .plain body39 rfl (e1 rfl) (fun w9 hw9=>own_gives (b0:=w.heap.size) (slices_Clone_api_Plan_int_c n _ w9 (D1.hL hL hw9) d0.1 (Ap t7 hw9) p9) hw9 (Nat.le_trans D1.ag.size hw9.size)) rfl (fun y9 X0 K00 ⟨v68,Y1,t8,A3,F5⟩=>?_)
 subst t8
 have E1:=own_push D1 A3
 have s1:=own_tr D1 A3
 have G5:=AE (cs:=Y1) (xs:=(Z0:List Int)) E1 L (own_cells F5)
 refine Ag rfl<|Aa<|Aj<|Ac<|Ae rfl ?_
 have U00:Z0.length ≤ 4294967296:=St.rowLe (α:=Int) E1 .hd
 obtain ⟨Q9,c75,d6⟩:=St.rowV (α:=Int) E1 .hd
 refine Ab (FV.lenV Tryz.underlying46 rfl d6)<|Ae rfl<|Aa<|Av ?_
 obtain ⟨J4,V0⟩:=AI E1 (.one .hd (.one .hd .done))
 have z6:=AR G5 V0
 obtain ⟨p01,u7,g6⟩:=bind_in2 h
 refine Bi (α:=Nat × (List Int) × (List Value)) (fun ⟨s0,v0,E0⟩=>[(2,.int .u8 (a2.toNat:Int)),(3,.int .u8 (a3.toNat:Int)),(4,.int .u8 (a4.toNat:Int)),(11,x2),(12,vI d0.2),(13,vP q0),(14,U1),(15,vI x0.2),(16,X0),(48,vI ((Z0.length:Nat):Int)),(49,vI ((s0:Nat):Int))]) (fun ⟨s0,v0,E0⟩ V1=>St w V1 [.row w.heap.size 3 (Rep.size Int) X0 v0.length E0,.cells q0 [vI c0.fGroups,vI c0.fParties,vI c0.fLevels,u0] 44]∧Tr y9 [.row w.heap.size 3 (Rep.size Int) X0 Z0.length Y1,.cells q0 [vI c0.fGroups,vI c0.fParties,vI c0.fLevels,u0] 44] V1 [.row w.heap.size 3 (Rep.size Int) X0 v0.length E0,.cells q0 [vI c0.fGroups,vI c0.fParties,vI c0.fLevels,u0] 44]∧Cells V1 (bl [.row w.heap.size 3 (Rep.size Int) X0 v0.length E0,.cells q0 [vI c0.fGroups,vI c0.fParties,vI c0.fLevels,u0] 44] ++ L) E0 v0) (fun ⟨s0,v0,E0⟩=>(s0,v0)) (0,Z0,Y1) u7 ⟨rfl,rfl,rfl,rfl,rfl,rfl,rfl,rfl,rfl,rfl,rfl,trivial⟩ ⟨J4,AV _ _,z6⟩ ?_
 rintro R9 ⟨s0,v0,E0⟩ V1 G4 ⟨F0,W0,g2⟩ h
 unfold wardmotelaw22_BalanceNames_l2 at h
 try dsimp only at h
 refine Ac<|Ab (Bj (i:=s0) (j:=Z0.length) rfl rfl)<|Aa<|Aj<|AS rfl h (fun Y3 h=>?_) (fun Y3 h=>?_)
 refine Aq<|Aj<|Av<|Ac<|Ae rfl<|Ag rfl<|Aa<|Ar<|Ae rfl<|Ae rfl<|Ae rfl<|Ae rfl ?_
 obtain ⟨D3,v8,h⟩:=bi h
 obtain ⟨J3,Y9,M1,k2,t4,F7,A6⟩:=St.nth (α:=Int) F0 .hd g2 v8
 obtain ⟨Q3,Z9,I2⟩:=St.nthOwn (α:=Int) F0 .hd k2
 obtain rfl:J3 = ⟨Q3,0,none⟩:=by rw [I2] at M1; cases M1; rfl
 have H5:t4 = [vI D3]:=F7; subst H5
 refine Ab (Bm 1 s0 rfl M1 rfl rfl k2)<|Bb rfl (A6 0 _ rfl)<|Ae rfl ?_
 have d01:=a2.toNat_lt
 refine Ab (FV.convN (i:=a2.toNat) Tryz.underlying5 Tryz.underlying3 rfl (by omega)) ?_
 obtain ⟨q9,Z7,h⟩:=bi h
 refine Ab (FV.addc (i:=D3) (j:=((a2.toNat:Nat):Int)) rfl rfl Z7)<|Ae rfl ?_
 obtain ⟨s01,b8,h⟩:=bi h
 refine Ab (FV.remc (i:=q9) (j:=d0.2) rfl rfl b8)<|Ab (Bm 1 s0 rfl M1 rfl rfl k2) ?_
 obtain ⟨A9,K8,h⟩:=bi h
 refine RG.acts' .plain (Acts.set (α:=Int) (i:=s0) K8 F0 I2 (fun _=>.hd) g2 rfl rfl rfl rfl rfl (by kernel_rfl)) (fun U01 ⟨u4,K4,b5,A5⟩=>?_)
 refine Aa<|Az<|Ar<|Ab (Bq (i:=s0) (j:=1) rfl rfl (by omega))<|Ae rfl<|Aa ?_
 exact G4 (s0 + 1,A9,u4) _ _ ⟨rfl,rfl,rfl,rfl,rfl,rfl,rfl,rfl,rfl,rfl,rfl,trivial⟩ ⟨K4,(Tt W0 b5),A5⟩ h
 refine Ba rfl ?_
 have h:=g6 _ h
 try dsimp only at h
 refine Ac<|Ab (AD rfl (F0.memA (.tl .hd)))<|Ae rfl<|Ae rfl ?_
 have G7:=Bt (α:=Int) F0 .hd g2 hL
 have Z1:=St.delS F0 .hd
 have j1:=St.delT F0 .hd
 have q3:=Rep.at_ (α:=Int) (v:=X0) (xs:=v0) Z1 L G7
 obtain ⟨v1,R8,h⟩:=bi h
 have s2:=Tt q1 (Tt J1 (Tt K1 (Tt s1 (Tt V0 (Tt W0 j1)))))
 have B6:=Au D0 s2
 refine Bc (fst:=[]) (cap:=[]) .plain body19 rfl (e3 rfl rfl rfl) (fun w9 hw9=>balance_Totals_c n _ w9 (Z1.hL hL hw9) c0 (Ap B6 hw9) v0 (Ap q3 hw9) d0.2 R8) rfl (fun V01 H01 u5 ⟨B3,hu_,s3⟩=>?_)
 subst hu_
 obtain ⟨b1,H0⟩:=Z1.agr u5
 refine Ae rfl<|Ab (Af rfl rfl)<|Ab (Af rfl rfl)<|Ag rfl<|Ag rfl<|Aa<|Ac<|Ab (AD rfl (b1.memA .hd))<|Ae rfl<|Ae rfl ?_
 obtain ⟨P0,U8,h⟩:=bi h
 have C6:=Au D0 (Tt s2 H0)
 have c3:=Tt u2 (Tt K1 (Tt s1 (Tt V0 (Tt W0 (Tt j1 H0)))))
 have D6:=Au C0 c3
 refine Bd (.tuple #[.agg ((cs_TShare P0.1)).toArray,vI P0.2]) body33 rfl (e3 rfl rfl rfl) (fun w9 hw9=>balance_Spread_c n _ w9 (b1.hL0 hL hw9) c0 (b1.kd C6 hw9) d0.1 (b1.kd D6 hw9) d0.2 U8) rfl<|Ae rfl<|Ab (Af rfl rfl)<|Ab (Af rfl rfl)<|Ak .plain rfl (Ay [.int .u64 0,.int .u64 0,.int .u64 0,.int .u64 0,.int .u64 0,.int .u64 0,.int .u64 0,.int .u64 0,.int .u64 0,.int .u64 0,.int .u64 0,.int .u64 0,.int .u64 0,.int .u64 0,.int .u64 0,.int .u64 0] b1) (fun W01 R3 M4 A0=>?_)
 refine AM (cs_TShare P0.1) M4 .hd (onesB rfl) (fun X01 c1 B0=>?_)
 refine Ag rfl<|Aa<|Ac<|Ab (AD rfl (c1.memA (.tl .hd)))<|Ae rfl<|Ae rfl ?_
 obtain ⟨Q0,V8,h⟩:=bi h
 have d3:=Tt s2 (Tt H0 (Tt A0 B0))
 have E6:=Au D0 d3
 have x7:=Tt H0 (Tt A0 B0)
 have F6:=Au q3 x7
 refine Bd (.tuple #[.agg ((cs_TShare Q0.1)).toArray,vI Q0.2]) body33 rfl (e3 rfl rfl rfl) (fun w9 hw9=>balance_Spread_c n _ w9 (c1.hL0 hL hw9) c0 (c1.kd E6 hw9) v0 (c1.kd F6 hw9) d0.2 V8) rfl<|Ae rfl<|Ab (Af rfl rfl)<|Ab (Af rfl rfl)<|Ak .plain rfl (Ay [.int .u64 0,.int .u64 0,.int .u64 0,.int .u64 0,.int .u64 0,.int .u64 0,.int .u64 0,.int .u64 0,.int .u64 0,.int .u64 0,.int .u64 0,.int .u64 0,.int .u64 0,.int .u64 0,.int .u64 0,.int .u64 0] c1) (fun Y01 U3 P4 I0=>?_)
 refine AM (cs_TShare Q0.1) P4 .hd (onesB rfl) (fun u9 z0 J0=>?_)
 refine Ag rfl<|Aa<|Aj<|Aj<|MX.join (α:=Bool) (fun u1=>[(2,.int .u8 (a2.toNat:Int)),(3,.int .u8 (a3.toNat:Int)),(4,.int .u8 (a4.toNat:Int)),(11,x2),(12,vI d0.2),(13,vP q0),(14,U1),(18,B3),(113,.bool u1)]) (fun u1 W1=>St w W1 [.cells q0 [vI c0.fGroups,vI c0.fParties,vI c0.fLevels,u0] 44]∧Tr u9 [.cells U3 (cs_TShare Q0.1) 37,.cells R3 (cs_TShare P0.1) 37,.cells q0 [vI c0.fGroups,vI c0.fParties,vI c0.fLevels,u0] 44] W1 [.cells q0 [vI c0.fGroups,vI c0.fParties,vI c0.fLevels,u0] 44]) (fun u1=>u1) h ?_ ?_
 rintro u1 W1 ⟨C2,k1⟩ h
 try dsimp only at h
 refine MX.ifb rfl h (fun b4 h=>?_) (fun b4 h=>?_)
 refine Ac<|Ag rfl<|Aa<|Al rfl<|AX hb0 Tryz.func7 rfl rfl ?_
 cases h
 exact C2.gv
 refine Aq<|Aj<|Ac<|Ae rfl ?_
 have t2:=Tt s1 (Tt V0 (Tt W0 (Tt j1 (Tt H0 (Tt A0 (Tt B0 (Tt I0 (Tt J0 k1))))))))
 have X2:=Au R1 t2
 have M00:x0.1.length ≤ 281474976710656:=AZ X2
 refine Ab (Be (xs:=x0.1) Tryz.underlying45 rfl X2)<|Ae rfl<|Aa<|Av ?_
 obtain ⟨q01,v7,P2⟩:=thn_in h
 refine Bi (α:=Nat) (fun t0=>[(2,.int .u8 (a2.toNat:Int)),(3,.int .u8 (a3.toNat:Int)),(4,.int .u8 (a4.toNat:Int)),(11,x2),(12,vI d0.2),(13,vP q0),(14,U1),(18,B3),(114,U1),(115,vI ((x0.1.length:Nat):Int)),(116,vI ((t0:Nat):Int))]) (fun t0 y2=>St w y2 [.cells q0 [vI c0.fGroups,vI c0.fParties,vI c0.fLevels,u0] 44]∧Tr W1 [.cells q0 [vI c0.fGroups,vI c0.fParties,vI c0.fLevels,u0] 44] y2 [.cells q0 [vI c0.fGroups,vI c0.fParties,vI c0.fLevels,u0] 44]) (fun t0=>t0) 0 v7 ⟨rfl,rfl,rfl,rfl,rfl,rfl,rfl,rfl,rfl,rfl,rfl,trivial⟩ ⟨C2,AV _ _⟩ ?_
 rintro V9 t0 y2 H4 ⟨U0,K0⟩ h
 unfold wardmotelaw22_BalanceNames_l1 at h
 try dsimp only at h
 refine Ac<|Ab (Bj (i:=t0) (j:=x0.1.length) rfl rfl)<|Aa<|Aj<|AS rfl h (fun c4 h=>?_) (fun c4 h=>?_)
 refine Aq<|Aj<|Av<|Ac<|Ae rfl ?_
 obtain ⟨E3,x8,h⟩:=bi h
 have H6:=Au R1 (Tt t2 K0)
 obtain ⟨G9,b00,I5,q6,v4,H7,G6⟩:=Bk H6 x8
 have J5:v4 = [vI E3]:=H7; subst J5
 refine Ab (Bm 1 t0 rfl I5 rfl rfl q6)<|Bb rfl (G6 0 _ rfl)<|Ag rfl<|Ag rfl<|Aa<|Ac<|Ae rfl<|Ae rfl<|Ae rfl ?_
 have g01:=a2.toNat_lt
 refine Ab (FV.convN (i:=a2.toNat) Tryz.underlying5 Tryz.underlying3 rfl (by omega))<|Ab (Bq (i:=t0) (j:=a2.toNat) rfl rfl (by omega))<|Ae rfl ?_
 obtain ⟨s9,c8,h⟩:=bi h
 refine Ab (FV.remc (i:=((t0 + a2.toNat:Nat):Int)) (j:=d0.2) rfl rfl c8) ?_
 obtain ⟨F3,y8,h⟩:=bi h
 obtain ⟨j6,z8⟩:=idx_in y8
 have y7:=Tt A0 (Tt B0 (Tt I0 (Tt J0 (Tt k1 K0))))
 have J6:=Au s3 y7
 obtain ⟨H9,c00,K5,s6,x4,I7,I6⟩:=Bk J6 z8
 have M5:x4 = [vI F3]:=I7; subst M5
 refine Ab (Bm 1 (s9.toNat) rfl K5 rfl j6 s6)<|Bb rfl (I6 0 _ rfl)<|Ae rfl<|Ab (FV.neq (i:=F3) (j:=E3) rfl rfl)<|Aa<|MX.ifn rfl h (fun d4 h=>?_) (fun d4 h=>?_)
 refine Aq<|Az<|Ar<|Ab (Bq (i:=t0) (j:=1) rfl rfl (by omega))<|Ae rfl<|Aa ?_
 exact H4 (t0 + 1) _ _ ⟨rfl,rfl,rfl,rfl,rfl,rfl,rfl,rfl,rfl,rfl,rfl,trivial⟩ ⟨U0,K0⟩ h
 refine Ac<|Ag rfl<|Aa ?_
 have h:=thn_inl h P2
 refine Al rfl<|AX hb0 Tryz.func7 rfl rfl ?_
 cases h
 exact U0.gv
 refine Ba rfl ?_
 have h:=thn_inr h P2
 try dsimp only at h
 refine Ac<|Ae rfl ?_
 have j01:=a3.toNat_lt
 refine Ab (FV.convN (i:=a3.toNat) Tryz.underlying5 Tryz.underlying3 rfl (by omega))<|Ae rfl ?_
 have g3:=Tt c3 (Tt A0 (Tt B0 (Tt I0 (Tt J0 (Tt k1 K0)))))
 have Y2:=Au C0 g3
 refine Ab (Be (xs:=d0.1) Tryz.underlying46 rfl Y2) ?_
 obtain ⟨M0,d8,h⟩:=bi h
 refine Ab (FV.remc (i:=((a3.toNat:Nat):Int)) (j:=((d0.1.length:Nat):Int)) rfl rfl d8)<|Ag rfl<|Aa<|Ac<|Ae rfl ?_
 obtain ⟨C9,Y8,h⟩:=bi h
 refine Bc (fst:=[]) (cap:=[]) .plain body39 rfl (e1 rfl) (fun w9 hw9=>own_gives (b0:=w.heap.size) (slices_Clone_api_Plan_int_c n _ w9 (U0.hL hL hw9) d0.1 (Ap Y2 hw9) Y8) hw9 (Nat.le_trans U0.ag.size hw9.size)) rfl (fun b02 t9 H00 ⟨x01,y4,p8,x3,B5⟩=>?_)
 subst p8
 have z1:=own_push U0 x3
 have F1:=own_tr U0 x3
 have F2:=AE (cs:=y4) (xs:=(C9:List Int)) z1 L (own_cells B5)
 refine Ag rfl<|Aa<|Ac<|Ae rfl<|Ae rfl<|Ae rfl ?_
 have k01:=a4.toNat_lt
 refine Ab (FV.convN (i:=a4.toNat) Tryz.underlying5 Tryz.underlying3 rfl (by omega))<|Ae rfl ?_
 obtain ⟨t01,g8,h⟩:=bi h
 refine Ab (FV.remc (i:=((a4.toNat:Nat):Int)) (j:=d0.2) rfl rfl g8) ?_
 obtain ⟨z9,A8,h⟩:=bi h
 obtain ⟨k6,B8⟩:=idx_in A8
 obtain ⟨K3,d00,j2,W2,z4,J7,V00⟩:=St.nth (α:=Int) z1 .hd F2 B8
 obtain ⟨V3,g00,J2⟩:=St.nthOwn (α:=Int) z1 .hd W2
 obtain rfl:K3 = ⟨V3,0,none⟩:=by rw [J2] at j2; cases j2; rfl
 have P5:z4 = [vI z9]:=J7; subst P5
 refine Ab (Bm 1 (M0.toNat) rfl j2 rfl k6 W2) ?_
 obtain ⟨z2,M8,h⟩:=bi h
 refine RG.acts' .plain (Acts.set (α:=Int) (i:=M0.toNat) M8 z1 J2 (fun _=>.hd) F2 rfl rfl rfl rfl rfl (by kernel_rfl)) (fun d02 ⟨z00,A1,G1,C5⟩=>?_)
 refine Aa<|Ac<|Ab (AD rfl (A1.memA (.tl .hd)))<|Ae rfl<|Ae rfl ?_
 have K7:=Bt (α:=Int) A1 .hd C5 hL
 have b2:=St.delS A1 .hd
 have H1:=St.delT A1 .hd
 have v2:=Rep.at_ (α:=Int) (v:=t9) (xs:=z2) b2 L K7
 obtain ⟨B2,b9,h⟩:=bi h
 have j3:=Tt d3 (Tt I0 (Tt J0 (Tt k1 (Tt K0 (Tt F1 (Tt G1 H1))))))
 have K6:=Au D0 j3
 refine Bc (fst:=[]) (cap:=[]) .plain body19 rfl (e3 rfl rfl rfl) (fun w9 hw9=>balance_Totals_c n _ w9 (b2.hL hL hw9) c0 (Ap K6 hw9) z2 (Ap v2 hw9) d0.2 b9) rfl (fun g02 K01 y5 ⟨y01,hu_,M7⟩=>?_)
 subst hu_
 obtain ⟨G0,p1⟩:=b2.agr y5
 refine Ae rfl<|Ab (Af rfl rfl)<|Ab (Af rfl rfl)<|Ag rfl<|Ag rfl<|Aa<|Aj<|Ac<|Ae rfl<|Ae rfl<|Ae rfl ?_
 obtain ⟨Y0,C8,h⟩:=bi h
 obtain ⟨Q2,u3⟩:=idx_in C8
 have k3:=Tt g3 (Tt F1 (Tt G1 (Tt H1 p1)))
 have P6:=Au C0 k3
 obtain ⟨I9,j00,Q5,t6,A4,P7,M6⟩:=Bk P6 u3
 have R5:A4 = [vI Y0]:=P7; subst R5
 refine Ab (Bm 1 (M0.toNat) rfl Q5 rfl Q2 t6)<|Bb rfl (M6 0 _ rfl) ?_
 obtain ⟨D9,c9,h⟩:=bi h
 have Q6:=Au v2 p1
 refine Bd (.bool D9) body40 rfl (e2 rfl rfl) (fun w9 hw9=>slices_Contains_api_Plan_int_c n _ w9 (G0.hL0 hL hw9) z2 (G0.kd Q6 hw9) Y0 c9) rfl<|Ab (By rfl)<|Aa<|MX.ifnb rfl h (fun g4 h=>?_) (fun g4 h=>?_)
 refine Aq<|Ac<|Ae rfl ?_
 obtain ⟨E9,d9,h⟩:=bi h
 have z7:=Tt t2 (Tt K0 (Tt F1 (Tt G1 (Tt H1 p1))))
 have R6:=Au R1 z7
 refine Bc (fst:=[]) (cap:=[]) .plain body41 rfl (e1 rfl) (fun w9 hw9=>own_gives (b0:=w.heap.size) (slices_Clone_int_int_c n _ w9 (G0.hL hL hw9) x0.1 (Ap R6 hw9) d9) hw9 (Nat.le_trans G0.ag.size hw9.size)) rfl (fun j02 C3 I00 ⟨z01,B4,q8,y3,D5⟩=>?_)
 subst q8
 have d1:=own_push G0 y3
 have I1:=own_tr G0 y3
 have G2:=AE (cs:=B4) (xs:=(E9:List Int)) d1 L (own_cells D5)
 refine Ag rfl<|Aa<|Aj<|AH 15 tb7_30 (by kernel_rfl) (by kernel_rfl) (by kernel_rfl) (fun g0 k0=>?_)
 refine Ah 0 1 g0 rfl k0 (fun _=>Ai rfl) rfl<|Ah 1 3 g0 rfl k0 (fun _=>Ai rfl) rfl<|Ah 2 7 g0 rfl k0 (fun _=>Ai rfl) rfl ?_
 have V6:=Au C0 (Tt k3 I1)
 obtain ⟨J9,k00,U5,u6,C4,Q7,U6⟩:=Bk V6 u3
 have V5:C4 = [vI Y0]:=Q7; subst V5
 refine Ah 3 15 g0 rfl k0 (fun _=>Bm 1 (M0.toNat) rfl U5 rfl Q2 u6) rfl<|AB 4 31 57440 g0 rfl k0 (AJ rfl (U6 0 _ rfl)) rfl ?_
 obtain ⟨G3,D8,h⟩:=bi h
 obtain ⟨R2,E8⟩:=idx_in D8
 obtain ⟨M3,p00,P1,p2,D4,R7,W6⟩:=St.nth (α:=Int) d1 .hd G2 E8
 obtain ⟨W3,q00,K2⟩:=St.nthOwn (α:=Int) d1 .hd p2
 obtain rfl:M3 = ⟨W3,0,none⟩:=by rw [K2] at P1; cases P1; rfl
 have W5:D4 = [vI G3]:=R7; subst W5
 refine Ah 5 63 g0 rfl k0 (fun _=>Bm 1 (Y0.toNat) rfl P1 rfl R2 p2) rfl<|AB 6 127 57344 g0 rfl k0 (AJ rfl (W6 0 _ rfl)) rfl<|Ah 7 255 g0 rfl k0 (fun _=>Bh 3 rfl) rfl<|AB 8 511 64512 g0 rfl k0 (AJ rfl ((d1.memA (.tl .hd)) 3 _ rfl)) rfl<|Ah 9 1023 g0 rfl k0 (fun _=>Ai rfl) rfl ?_
 obtain ⟨H3,F8,h⟩:=bi h
 obtain ⟨U2,v3⟩:=idx_in F8
 have A7:=Tt j3 (Tt p1 I1)
 have Y6:=Au D0 A7
 obtain ⟨K9,s00,X5,v6,A00,U7,X6⟩:=Bk Y6 v3
 obtain ⟨A01,B01,C01,rfl,W00,X00,Y00⟩:=op_TUnit U7
 refine Ah 10 2047 g0 rfl k0 (fun _=>Bm 6 (M0.toNat) rfl X5 rfl U2 v6) rfl<|Ah 11 4095 g0 rfl k0 (fun _=>Bh 1 rfl) rfl<|AB 12 8191 57344 g0 rfl k0 (AJ rfl (X6 1 _ rfl)) rfl ?_
 obtain ⟨u01,j8,h⟩:=bi h
 refine Ah 13 16383 g0 rfl k0 (fun _=>FV.subc (i:=G3) (j:=H3.fPeople) rfl rfl j8) rfl<|Ah 14 32767 g0 rfl k0 (fun _=>Bm 1 (Y0.toNat) rfl P1 rfl R2 p2) rfl ?_
 obtain ⟨u02,P8,h⟩:=bi h
 refine Bo (i:=15) (readyD_ok g0 (by kernel_rfl)) (RO.acts (m' :=65535) (stepC_ok g0 (by kernel_rfl)) rfl rfl .plain (Acts.set (α:=Int) (i:=Y0.toNat) P8 d1 K2 (fun _=>.hd) G2 rfl rfl rfl rfl rfl (by kernel_rfl)) (fun p02 ⟨B00,B1,D2,H2⟩=>?_))
 refine AG (doneD_ok g0 (by kernel_rfl))<|Aj<|AH 15 tb7_31 (by kernel_rfl) (by kernel_rfl) (by kernel_rfl) (fun j0 p0=>?_)
 refine Ah 0 1 j0 rfl p0 (fun _=>Ai rfl) rfl<|Ah 1 3 j0 rfl p0 (fun _=>Ai rfl) rfl<|Ah 2 7 j0 rfl p0 (fun _=>Ai rfl) rfl ?_
 obtain ⟨X1,G8,h⟩:=bi h
 obtain ⟨p6,H8⟩:=idx_in G8
 have p3:=Tt p1 (Tt I1 D2)
 have c7:=Au v2 p3
 obtain ⟨M9,t00,Y5,x6,E4,V7,b7⟩:=Bk c7 H8
 have Z5:E4 = [vI X1]:=V7; subst Z5
 refine Ah 3 15 j0 rfl p0 (fun _=>Bm 1 (M0.toNat) rfl Y5 rfl p6 x6) rfl<|AB 4 31 57440 j0 rfl p0 (AJ rfl (b7 0 _ rfl)) rfl ?_
 obtain ⟨I3,I8,h⟩:=bi h
 obtain ⟨V2,J8⟩:=idx_in I8
 obtain ⟨P3,u00,Q1,q2,F4,W7,d7⟩:=St.nth (α:=Int) B1 .hd H2 J8
 obtain ⟨X3,v00,M2⟩:=St.nthOwn (α:=Int) B1 .hd q2
 obtain rfl:P3 = ⟨X3,0,none⟩:=by rw [M2] at Q1; cases Q1; rfl
 have b6:F4 = [vI I3]:=W7; subst b6
 refine Ah 5 63 j0 rfl p0 (fun _=>Bm 1 (X1.toNat) rfl Q1 rfl V2 q2) rfl<|AB 6 127 57344 j0 rfl p0 (AJ rfl (d7 0 _ rfl)) rfl<|Ah 7 255 j0 rfl p0 (fun _=>Bh 3 rfl) rfl<|AB 8 511 64512 j0 rfl p0 (AJ rfl ((B1.memA (.tl .hd)) 3 _ rfl)) rfl<|Ah 9 1023 j0 rfl p0 (fun _=>Ai rfl) rfl ?_
 have B7:=Tt q1 (Tt J1 (Tt K1 (Tt s1 (Tt V0 (Tt W0 (Tt j1 (Tt H0 (Tt A0 (Tt B0 (Tt I0 (Tt J0 (Tt k1 (Tt K0 (Tt F1 (Tt G1 (Tt H1 p3))))))))))))))))
 have j7:=Au D0 B7
 obtain ⟨P9,x00,c6,y6,C00,X7,g7⟩:=Bk j7 v3
 obtain ⟨D01,E01,F01,rfl,Z00,b01,c01⟩:=op_TUnit X7
 refine Ah 10 2047 j0 rfl p0 (fun _=>Bm 6 (M0.toNat) rfl c6 rfl U2 y6) rfl<|Ah 11 4095 j0 rfl p0 (fun _=>Bh 1 rfl) rfl<|AB 12 8191 57344 j0 rfl p0 (AJ rfl (g7 1 _ rfl)) rfl ?_
 obtain ⟨v01,k8,h⟩:=bi h
 refine Ah 13 16383 j0 rfl p0 (fun _=>FV.addc (i:=I3) (j:=H3.fPeople) rfl rfl k8) rfl<|Ah 14 32767 j0 rfl p0 (fun _=>Bm 1 (X1.toNat) rfl Q1 rfl V2 q2) rfl ?_
 obtain ⟨A2,Q8,h⟩:=bi h
 refine Bo (i:=15) (readyD_ok j0 (by kernel_rfl)) (RO.acts (m' :=65535) (stepC_ok j0 (by kernel_rfl)) rfl rfl .plain (Acts.set (α:=Int) (i:=X1.toNat) Q8 B1 M2 (fun _=>.hd) H2 rfl rfl rfl rfl rfl (by kernel_rfl)) (fun x9 ⟨D00,d2,d5,E5⟩=>?_))
 refine AG (doneD_ok j0 (by kernel_rfl))<|Ac<|Ae rfl ?_
 have Y7:=Bt (α:=Int) d2 .hd E5 hL
 have C1:=St.delS d2 .hd
 have g5:=St.delT d2 .hd
 have t3:=Rep.at_ (α:=Int) (v:=C3) (xs:=A2) C1 L Y7
 refine Bc (fst:=[]) (cap:=[]) .plain body37 rfl (e1 rfl) (fun w9 hw9=>Calls.gives (wardmotelaw22_is_c n _ w9 (C1.hL hL hw9) A2 (Ap t3 hw9)) fun (w8:World) (u8:Value) ⟨b0_,hu_,s_⟩=>(⟨b0_,hu_,s_.from hw9⟩:∃ x1:Nat,u8 = Value.func (.func 91) #[] #[vP x1]∧St x9 w8 [.cells x1 [C3] 45])) rfl (fun s02 M01 J00 ⟨x1,s8,z3⟩=>?_)
 subst s8
 have g1:=mk_push1 C1 z3
 have E2:=mk_tr1 C1 z3
 refine Ae rfl<|Ae rfl ?_
 obtain ⟨F9,k9,h⟩:=bi h
 have C7:=Tt I1 (Tt D2 (Tt d5 (Tt g5 E2)))
 have p7:=Au M7 C7
 have q7:=Au t3 E2
 refine RG.callq' (v:=.bool F9) (fst:=[]) (cap:=[vP x1]) .plain body91 rfl (e2 rfl rfl) (fun w9 hw9=>wardmotelaw22_is_1_c n _ w9 (g1.hL0 hL hw9) B2.1 (g1.kd p7 hw9) B2.2 A2 (g1.kd q7 hw9) (fun j9 v9 h9=>hw9.cell0 ((g1.memA .hd) j9 v9 h9)) k9) rfl<|Ag rfl<|Aa<|Al rfl<|AX hb0 Tryz.func7 rfl rfl ?_
 cases h
 exact g1.gv
 refine Ac<|Ae rfl<|Ab (FV.eql (i:=B2.2) (j:=220) rfl rfl)<|Ag rfl<|Aa<|Al rfl<|AX hb0 Tryz.func7 rfl rfl ?_
 cases h
 exact G0.gv
 intro U9 R0 h
 try dsimp only at h
 refine Ar<|Ae rfl<|Ab (FV.neq (i:=x0.2) (j:=0) rfl rfl)<|Ae rfl<|RG.ifn (s:=88) rfl h (fun j4 h=>?_) (fun j4 h=>?_)
 refine AT (Ai rfl)<|AT (FV.neq (i:=v1.2) (j:=0) rfl rfl)<|RG.pf rfl rfl<|Ae rfl<|RG.ifn (s:=92) rfl h (fun k4 h=>?_) (fun k4 h=>?_)
 refine AT (AD rfl (z0.memA (.tl .hd)))<|AT (AD rfl (z0.memA .hd))<|AT (FV.neqV (xs:=((cs_TShare P0.1)).toArray) (ys:=((cs_TShare Q0.1)).toArray) rfl rfl (by kernel_rfl) (eqlD_37 P0.1 Q0.1))<|RG.pf rfl rfl<|Ae rfl<|RG.ifn (s:=97) rfl h (fun p4 h=>?_) (fun p4 h=>?_)
 refine AT (Ai rfl)<|AT (Ai rfl)<|AT (FV.neq (i:=P0.2) (j:=Q0.2) rfl rfl)<|RG.pf rfl rfl<|Ae rfl<|RG.ifn (s:=102) rfl h (fun q4 h=>?_) (fun q4 h=>?_)
 refine AT (Ai rfl) ?_
 have D7:=Tt s1 (Tt V0 (Tt W0 (Tt j1 (Tt H0 (Tt A0 (Tt B0 (Tt I0 J0)))))))
 have Z2:=Au R1 D7
 have Q00:x0.1.length ≤ 281474976710656:=AZ Z2
 refine AT (Be (xs:=x0.1) Tryz.underlying45 rfl Z2)<|AT (Ai rfl)<|AT (FV.neq (i:=((x0.1.length:Nat):Int)) (j:=d0.2) rfl rfl)<|RG.pf rfl rfl<|Ae rfl<|RG.ifn (s:=108) rfl h (fun s4 h=>?_) (fun s4 h=>?_)
 refine AT (Ai rfl) ?_
 have E7:=Tt A0 (Tt B0 (Tt I0 J0))
 have b3:=Au s3 E7
 have R00:v1.1.length ≤ 281474976710656:=AZ b3
 refine AT (Be (xs:=v1.1) Tryz.underlying45 rfl b3)<|AT (Ai rfl)<|AT (FV.neq (i:=((v1.1.length:Nat):Int)) (j:=d0.2) rfl rfl)<|RG.pf rfl rfl<|Aa ?_
 obtain ⟨U4,j5⟩:=AI z0 (.one (.tl (.tl .hd)) .done)
 exact R0 (!(decide (((v1.1.length:Nat):Int) = d0.2))) _ _ ⟨rfl,rfl,rfl,rfl,rfl,rfl,rfl,rfl,rfl,trivial⟩ ⟨U4,j5⟩ h
 refine AF<|AF<|AF<|AF<|RG.pt rfl rfl<|Aa ?_
 obtain ⟨V4,k5⟩:=AI z0 (.one (.tl (.tl .hd)) .done)
 exact R0 true _ _ ⟨rfl,rfl,rfl,rfl,rfl,rfl,rfl,rfl,rfl,trivial⟩ ⟨V4,k5⟩ h
 refine AF<|AF<|AF<|AF<|RG.pt rfl rfl<|Ae rfl<|AF<|AF<|AF<|AF<|RG.pt rfl rfl<|Aa ?_
 obtain ⟨W4,p5⟩:=AI z0 (.one (.tl (.tl .hd)) .done)
 exact R0 true _ _ ⟨rfl,rfl,rfl,rfl,rfl,rfl,rfl,rfl,rfl,trivial⟩ ⟨W4,p5⟩ h
 refine AF<|AF<|AF<|RG.pt rfl rfl<|Ae rfl<|AF<|AF<|AF<|AF<|RG.pt rfl rfl<|Ae rfl<|AF<|AF<|AF<|AF<|RG.pt rfl rfl<|Aa ?_
 obtain ⟨X4,q5⟩:=AI z0 (.one (.tl (.tl .hd)) .done)
 exact R0 true _ _ ⟨rfl,rfl,rfl,rfl,rfl,rfl,rfl,rfl,rfl,trivial⟩ ⟨X4,q5⟩ h
 refine AF<|AF<|AF<|RG.pt rfl rfl<|Ae rfl<|AF<|AF<|AF<|RG.pt rfl rfl<|Ae rfl<|AF<|AF<|AF<|AF<|RG.pt rfl rfl<|Ae rfl<|AF<|AF<|AF<|AF<|RG.pt rfl rfl<|Aa ?_
 obtain ⟨Y4,s5⟩:=AI z0 (.one (.tl (.tl .hd)) .done)
 exact R0 true _ _ ⟨rfl,rfl,rfl,rfl,rfl,rfl,rfl,rfl,rfl,trivial⟩ ⟨Y4,s5⟩ h
 refine AF<|AF<|RG.pt rfl rfl<|Ae rfl<|AF<|AF<|AF<|RG.pt rfl rfl<|Ae rfl<|AF<|AF<|AF<|RG.pt rfl rfl<|Ae rfl<|AF<|AF<|AF<|AF<|RG.pt rfl rfl<|Ae rfl<|AF<|AF<|AF<|AF ?_
 refine RG.pt rfl rfl<|Aa ?_
 obtain ⟨Z4,t5⟩:=AI z0 (.one (.tl (.tl .hd)) .done)
 exact R0 true _ _ ⟨rfl,rfl,rfl,rfl,rfl,rfl,rfl,rfl,rfl,trivial⟩ ⟨Z4,t5⟩ h
 refine Ac<|Ag rfl<|Aa<|Al rfl<|AX hb0 Tryz.func7 rfl rfl ?_
 cases h
 exact y0.gv
end Go.Proofs.YtmhgoecnjleagaaGreatDoor
