/- Functions of the program, and what they give: part 9. -/
import Derived.Test.YtichhhehkcfoaaaGreatDoorXM8
namespace Go.Proofs.YtichhhehkcfoaaaGreatDoor
open Go Go.RowKit
set_option maxRecDepth 4000
set_option maxHeartbeats 4000000

def tb164_1:List (Nat × Nat × Nat):=[(0,512,4),(1,1024,512),(0,2048,8),(4,4096,2048),(3,32,1024),(31,64,4096)]
theorem body176:bodyB Tryz.prog 176 = true:=by kernel_rfl
def wardmoteref01_Divisor_l1 (n:Nat) (d0:(List Int) × (List Int) → Option (List Int)):(List Int) × (List Int) → Option (List Int)
  | (c0,b0)=>(if 0 < b0.length then (wardmoteref01_parts_p n c0 b0).bind fun g0=>d0 (b0,g0.2) else some c0)
def wardmoteref01_Divisor_p (n:Nat) (a0:TLong175) (a1:TLong175):Option TLong175:=
  Option.bind (loopF (wardmoteref01_Divisor_l1 n) n (a0.fD,a1.fD)) (fun b0=>some (⟨false,b0⟩:TLong175))
theorem wardmoteref01_Divisor_c (n:Nat) (L:List Nat) (w:World) (hL:∀ b ∈ L,b < w.heap.size) (a0:TLong175) {v0_1:Value} (h0_1:Rep.R w L [v0_1] a0.fD) (a1:TLong175) {v1_1:Value} (h1_1:Rep.R w L [v1_1] a1.fD)  {r:TLong175} (h:wardmoteref01_Divisor_p n a0 a1 = some r) :
    Calls Tryz.prog 164 #[.agg #[.bool a0.fe,v0_1],.agg #[.bool a1.fe,v1_1]] w (Gives w fun w' u=>∃ v0_1:Value,u = .agg #[.bool r.fe,v0_1]∧Rep.R w' L [v0_1] r.fD):=by
 unfold wardmoteref01_Divisor_p at h
 have hS0:=Ay w
 refine AD Tryz.func164 rfl rfl rfl (fun _ cs0 hb0=>?_)
 refine Ac<|Ai .plain rfl (Av hS0 rfl rfl) (fun y1 c1 C0 j1=>?_)
 refine Ai .plain rfl (Av C0 rfl rfl) (fun z1 d1 D0 k1=>?_)
 refine Ai .plain rfl (Ar [.bool false,vN] D0) (fun X0 g0 u0 p1=>?_)
 refine Aa<|Aj<|dt 6 tb164_1 (fun d0 j0=>?_)
 refine Ag 0 1 d0 rfl j0 (fun _=>AX 1 rfl) rfl<|AC 1 3 48 d0 rfl j0 (AL rfl ((u0.memA (.tl (.tl .hd))) 1 _ rfl)) rfl<|Ag 2 7 d0 rfl j0 (fun _=>AX 1 rfl) rfl<|AC 3 15 32 d0 rfl j0 (AL rfl ((u0.memA (.tl .hd)) 1 _ rfl)) rfl<|Ag 4 31 d0 rfl j0 (fun _=>Bi rfl) rfl<|Ag 5 63 d0 rfl j0 (fun _=>Bi rfl) rfl<|AE (dk d0)<|Aj<|Az ?_
 obtain ⟨v0,q1⟩:=AG u0 (.one .hd .done)
 have J0:=AO h0_1 v0
 have K0:=AO h1_1 v0
 obtain ⟨u1,Q0,I0⟩:=bind_in2 h
 refine Bm (α:=(List Int) × (List Int) × Value × Value) (fun ⟨p0,c0,b0,k0⟩=>[(4,vP g0),(5,b0),(6,k0)]) (fun ⟨p0,c0,b0,k0⟩ q0=>St w q0 [.cells g0 [.bool false,vN] 176]∧Tr X0 [.cells g0 [.bool false,vN] 176] q0 [.cells g0 [.bool false,vN] 176]∧Rep.R q0 (bl [.cells g0 [.bool false,vN] 176] ++ L) [b0] p0∧Rep.R q0 (bl [.cells g0 [.bool false,vN] 176] ++ L) [k0] c0) (fun ⟨p0,c0,b0,k0⟩=>(p0,c0)) (a0.fD,a1.fD,v0_1,v1_1) Q0 ⟨rfl,rfl,rfl,trivial⟩ ⟨v0,AQ _ _,J0,K0⟩ ?_
 rintro b1 ⟨p0,c0,b0,k0⟩ q0 B0 ⟨x0,F0,s0,t0⟩ h
 unfold wardmoteref01_Divisor_l1 at h
 try dsimp only at h
 refine Aj<|Ac<|Ae rfl ?_
 have s1:c0.length ≤ 281474976710656:=AU t0
 refine Ab (Bd (xs:=c0) Tryz.underlying32 rfl t0)<|Ab (FV.gtrN (i:=c0.length) (j:=0) rfl rfl)<|Aa<|AV rfl h (fun A0 h=>?_) (fun A0 h=>?_)
 refine Au<|Az<|Ac<|Ae rfl<|Ae rfl ?_
 obtain ⟨Y0,V0,h⟩:=bi h
 refine Bf (fst:=[]) (cap:=[]) .plain body176 rfl (e2 rfl rfl) (fun w9 hw9=>wardmoteref01_parts_c n _ w9 (x0.hL hL hw9) p0 (Ap s0 hw9) c0 (Ap t0 hw9) V0) rfl (fun A1 x1 H0 ⟨v1,W0,hu_,t1,R0⟩=>?_)
 subst hu_
 obtain ⟨E0,z0⟩:=x0.agr H0
 refine Ae rfl<|Ab (Ah rfl rfl)<|Ab (Ah rfl rfl)<|Af rfl<|Af rfl<|Aa<|Ao<|Ae rfl<|Ae rfl<|Af rfl<|Af rfl<|Aa<|AB ?_
 have M0:=Aq t0 z0
 exact B0 (c0,Y0.2,k0,W0) _ _ ⟨rfl,rfl,rfl,trivial⟩ ⟨E0,(Tt F0 z0),M0,R0⟩ h
 refine Be rfl ?_
 have h:=I0 _ h
 try dsimp only at h
 refine Ac<|Ae rfl ?_
 obtain ⟨Z0,g1,U0,_⟩:=Rep.sl s0
 refine Ab (AM (vs:=[b0]) (u:=.agg #[.bool false,b0]) (e1 rfl) (fun w9=>by rw [U0]; try kernel_rfl))<|AJ [.bool false,b0] x0 .hd (o2 rfl (AN s0)) (fun B1 y0 G0=>?_)
 refine Aa<|Al rfl<|Am hb0 Tryz.func164 rfl (.cons (.many (cs:=[.bool false,b0]) (by kernel_rfl) rfl (y0.memA .hd)) .nil) rfl ?_
 cases h
 have P0:=Aq s0 G0
 exact ⟨y0.ag,fun w9 hw9=>⟨b0,rfl,y0.kd P0 hw9⟩⟩
def wardmoteref01_made_p (n:Nat) (a0:Bool) (a1:List Int):Option TLong175:=
  (wardmoteref01_cut_p n a1).bind fun b0=>(if a0 = true then some (⟨(decide (0 < b0.length)),b0⟩:TLong175) else some (⟨false,b0⟩:TLong175))
theorem wardmoteref01_made_c (n:Nat) (L:List Nat) (w:World) (hL:∀ b ∈ L,b < w.heap.size) (a0:Bool) (a1:List Int) {v1_0:Value} (h1_0:Rep.R w L [v1_0] a1)  {r:TLong175} (h:wardmoteref01_made_p n a0 a1 = some r) :
    Calls Tryz.prog 167 #[.bool a0,v1_0] w (Gives w fun w' u=>∃ v0_1:Value,u = .agg #[.bool r.fe,v0_1]∧Rep.R w' L [v0_1] r.fD):=by
 unfold wardmoteref01_made_p at h
 have hS0:=Ay w
 refine AD Tryz.func167 rfl rfl rfl (fun _ cs0 hb0=>?_)
 refine Ac<|Ai .plain rfl (Ar [.bool false,vN] hS0) (fun K0 D0 g0 G0=>?_)
 refine Aa<|Ac<|Ae rfl ?_
 obtain ⟨d0,A0,h⟩:=bi h
 refine Bf (fst:=[]) (cap:=[]) .plain body175 rfl (e1 rfl) (fun w9 hw9=>wardmoteref01_cut_c n _ w9 (g0.hL hL hw9) a1 (g0.km h1_0 hw9) A0) rfl (fun M0 b0 u0 ⟨J0,hu_,c0⟩=>?_)
 subst hu_
 obtain ⟨p0,H0⟩:=g0.agr u0
 refine Af rfl<|Aa<|Ac<|Ae rfl<|Ae rfl<|RG.ifb (s:=8) rfl h (fun q0 h=>?_) (fun q0 h=>?_)
 refine AS (Ak rfl) ?_
 have I0:d0.length ≤ 281474976710656:=AU c0
 refine AS (Bd (xs:=d0) Tryz.underlying32 rfl c0)<|AS (FV.gtrN (i:=d0.length) (j:=0) rfl rfl)<|BI rfl rfl<|Ae rfl ?_
 obtain ⟨B0,E0,y0,_⟩:=Rep.sl c0
 refine Ab (AM (vs:=[.bool (decide (0 < d0.length)),b0]) (u:=.agg #[.bool (decide (0 < d0.length)),b0]) (e2 rfl rfl) (fun w9=>by rw [y0]; try kernel_rfl))<|AJ [.bool (decide (0 < d0.length)),b0] p0 .hd (o2 rfl (AN c0)) (fun P0 j0 s0=>?_)
 refine Aa<|Al rfl<|Am hb0 Tryz.func167 rfl (.cons (.many (cs:=[.bool (decide (0 < d0.length)),b0]) (by kernel_rfl) rfl (j0.memA .hd)) .nil) rfl ?_
 cases h
 have v0:=Aq c0 s0
 exact ⟨j0.ag,fun w9 hw9=>⟨b0,rfl,j0.kd v0 hw9⟩⟩
 refine AI<|AI<|AI<|RG.pf rfl rfl<|Ae rfl ?_
 obtain ⟨C0,F0,z0,_⟩:=Rep.sl c0
 refine Ab (AM (vs:=[.bool false,b0]) (u:=.agg #[.bool false,b0]) (e2 rfl rfl) (fun w9=>by rw [z0]; try kernel_rfl))<|AJ [.bool false,b0] p0 .hd (o2 rfl (AN c0)) (fun Q0 k0 t0=>?_)
 refine Aa<|Al rfl<|Am hb0 Tryz.func167 rfl (.cons (.many (cs:=[.bool false,b0]) (by kernel_rfl) rfl (k0.memA .hd)) .nil) rfl ?_
 cases h
 have x0:=Aq c0 t0
 exact ⟨k0.ag,fun w9 hw9=>⟨b0,rfl,k0.kd x0 hw9⟩⟩
theorem body167:bodyB Tryz.prog 167 = true:=by kernel_rfl
def wardmoteref01_Turn_p (n:Nat) (a0:TLong175):Option TLong175:=
  (wardmoteref01_made_p n (!a0.fe) a0.fD).bind fun b0=>some b0
theorem wardmoteref01_Turn_c (n:Nat) (L:List Nat) (w:World) (hL:∀ b ∈ L,b < w.heap.size) (a0:TLong175) {v0_1:Value} (h0_1:Rep.R w L [v0_1] a0.fD)  {r:TLong175} (h:wardmoteref01_Turn_p n a0 = some r) :
    Calls Tryz.prog 165 #[.agg #[.bool a0.fe,v0_1]] w (Gives w fun w' u=>∃ v0_1:Value,u = .agg #[.bool r.fe,v0_1]∧Rep.R w' L [v0_1] r.fD):=by
 unfold wardmoteref01_Turn_p at h
 have hS0:=Ay w
 refine AD Tryz.func165 rfl rfl rfl (fun _ cs0 hb0=>?_)
 refine Ac<|Ai .plain rfl (Av hS0 rfl rfl) (fun C0 v0 k0 y0=>?_)
 refine Ai .plain rfl (Ar [.bool false,vN] k0) (fun D0 x0 b0 z0=>?_)
 refine Aa<|Ac<|AZ 0 rfl<|AY rfl ((b0.memA (.tl .hd)) 0 _ rfl)<|Ab (BG rfl)<|AZ 1 rfl<|AY rfl ((b0.memA (.tl .hd)) 1 _ rfl) ?_
 obtain ⟨j0,u0,h⟩:=bi h
 refine Bf (fst:=[]) (cap:=[]) .plain body167 rfl (e2 rfl rfl) (fun w9 hw9=>wardmoteref01_made_c n _ w9 (b0.hL hL hw9) (!a0.fe) a0.fD (b0.km h0_1 hw9) u0) rfl (fun E0 B0 s0 ⟨d0,hu_,g0⟩=>?_)
 subst hu_
 obtain ⟨p0,A0⟩:=b0.agr s0
 refine AJ [.bool j0.fe,d0] p0 .hd (o2 rfl (AN g0)) (fun F0 c0 q0=>?_)
 refine Aa<|Al rfl<|Am hb0 Tryz.func165 rfl (.cons (.many (cs:=[.bool j0.fe,d0]) (by kernel_rfl) rfl (c0.memA .hd)) .nil) rfl ?_
 cases h
 have t0:=Aq g0 q0
 exact ⟨c0.ag,fun w9 hw9=>⟨d0,rfl,c0.kd t0 hw9⟩⟩
def wardmoteref01_Long1_p (n:Nat) (a0:Int):Option TLong175:=
  jn (fun u16=>(wardmoteref01_made_p n (decide (a0 < 0)) ([i64of (u16 % (4294967296:UInt64)),i64of (u16 / (4294967296:UInt64))]:List Int)).bind fun c0=>some c0) (fun b0=>(if a0 < 0 then b0 (-(u64of a0)) else b0 (u64of a0)))
theorem wardmoteref01_Long1_c (n:Nat) (L:List Nat) (w:World) (hL:∀ b ∈ L,b < w.heap.size) (a0:Int)  {r:TLong175} (h:wardmoteref01_Long1_p n a0 = some r) :
    Calls Tryz.prog 143 #[vI a0] w (Gives w fun w' u=>∃ v0_1:Value,u = .agg #[.bool r.fe,v0_1]∧Rep.R w' L [v0_1] r.fD):=by
 unfold wardmoteref01_Long1_p at h
 have hS0:=Ay w
 refine AD Tryz.func143 rfl rfl rfl (fun _ cs0 hb0=>?_)
 refine Ac<|Ai .plain rfl (Ar [.bool false,vN] hS0) (fun G0 b0 q0 I0=>?_)
 refine Aa<|Ac<|Ae rfl<|Ab (FV.lss (i:=a0) (j:=0) rfl rfl)<|Af rfl<|Aa<|Ac<|Ae rfl<|Ab (FV.convU (i:=a0) Tryz.underlying3 Tryz.underlying49 rfl)<|Af rfl<|Aa<|Aj<|Ac<|Ae rfl<|Aa<|MX.join (α:=UInt64) (fun u16=>[(2,vP b0),(3,.bool (decide (a0 < 0))),(4,vU u16)]) (fun u16 k0=>St w k0 [.cells b0 [.bool false,vN] 176]∧Tr G0 [.cells b0 [.bool false,vN] 176] k0 [.cells b0 [.bool false,vN] 176]) (fun u16=>u16) h ?_ ?_
 rintro u16 k0 ⟨x0,J0⟩ h
 try dsimp only at h
 refine Ac<|Ae rfl<|Ae rfl<|Ab (FV.remU (a:=u16) (b:=(4294967296:UInt64)) rfl rfl (by decide))<|Ab (FV.convUI (a:=u16 % (4294967296:UInt64)) Tryz.underlying49 Tryz.underlying3 rfl)<|Ae rfl<|Ab (FV.quoU (a:=u16) (b:=(4294967296:UInt64)) rfl rfl (by decide))<|Ab (FV.convUI (a:=u16 / (4294967296:UInt64)) Tryz.underlying49 Tryz.underlying3 rfl)<|Ai .plain rfl (Ba (α:=Int) (xs:=([i64of (u16 % (4294967296:UInt64)),i64of (u16 / (4294967296:UInt64))]:List Int)) (vs:=[vI (i64of (u16 % (4294967296:UInt64))),vI (i64of (u16 / (4294967296:UInt64)))]) (ds' :=[vI (i64of (u16 % (4294967296:UInt64))),vI (i64of (u16 / (4294967296:UInt64)))]) rfl x0 el32 rfl (e2 rfl rfl) (by kernel_rfl) rfl) (fun R0 u0 c0 K0=>?_)
 have B0:=AH (cs:=[vI (i64of (u16 % (4294967296:UInt64))),vI (i64of (u16 / (4294967296:UInt64)))]) (xs:=(([i64of (u16 % (4294967296:UInt64)),i64of (u16 / (4294967296:UInt64))]:List Int):List Int)) c0 L (Ax (cs:=[vI (i64of (u16 % (4294967296:UInt64)))]) (ds:=[vI (i64of (u16 / (4294967296:UInt64)))]) rfl (Ax (cs:=[vI (i64of (u16 / (4294967296:UInt64)))]) (ds:=[]) rfl (AT _ _)))
 have D0:=Bn (α:=Int) c0 .hd B0 hL
 have d0:=Bw c0 .hd
 have M0:=Bx c0 .hd
 have E0:=By (α:=Int) (v:=(vS u0 2)) (xs:=([i64of (u16 % (4294967296:UInt64)),i64of (u16 / (4294967296:UInt64))]:List Int)) d0 L D0
 obtain ⟨t0,F0,h⟩:=bi h
 refine Bf (fst:=[]) (cap:=[]) .plain body167 rfl (e2 rfl rfl) (fun w9 hw9=>wardmoteref01_made_c n _ w9 (d0.hL hL hw9) (decide (a0 < 0)) ([i64of (u16 % (4294967296:UInt64)),i64of (u16 / (4294967296:UInt64))]:List Int) (Ap E0 hw9) F0) rfl (fun U0 Q0 A0 ⟨j0,hu_,s0⟩=>?_)
 subst hu_
 obtain ⟨y0,P0⟩:=d0.agr A0
 refine AJ [.bool t0.fe,j0] y0 .hd (o2 rfl (AN s0)) (fun V0 g0 z0=>?_)
 refine Aa<|Al rfl<|Am hb0 Tryz.func143 rfl (.cons (.many (cs:=[.bool t0.fe,j0]) (by kernel_rfl) rfl (g0.memA .hd)) .nil) rfl ?_
 cases h
 have C0:=Aq s0 z0
 exact ⟨g0.ag,fun w9 hw9=>⟨j0,rfl,g0.kd C0 hw9⟩⟩
 intro H0 p0 h
 try dsimp only at h
 refine AV rfl h (fun v0 h=>?_) (fun v0 h=>?_)
 refine Ao<|Ae rfl<|Ab (FV.negU (a:=u64of a0) rfl)<|Af rfl<|Aa ?_
 exact p0 (-(u64of a0)) _ _ ⟨rfl,rfl,rfl,trivial⟩ ⟨q0,AQ _ _⟩ h
 refine Au ?_
 exact p0 (u64of a0) _ _ ⟨rfl,rfl,rfl,trivial⟩ ⟨q0,AQ _ _⟩ h
def wardmoteref01_more_l1 (_n:Nat) (a1:List Int) (a0:List Int) (s0:Int × Int × (List Int) → Option (List Int)):Int × Int × (List Int) → Option (List Int)
  | (d0,b0,k0)=>jn (fun t0=>(if t0 = true then jn (fun p0=>jn (fun q0=>(remI q0 4294967296).bind fun u0=>(app k0 ([u0]:List Int)).bind fun C0=>(quoI q0 4294967296).bind fun v0=>(chk (b0 + 1)).bind fun x0=>s0 (v0,x0,C0)) (fun j0=>(if b0 < ((a1.length:Nat):Int) then (idx a1 b0).bind fun A0=>(chk (p0 + A0)).bind fun y0=>j0 y0 else j0 p0))) (fun g0=>(if b0 < ((a0.length:Nat):Int) then (idx a0 b0).bind fun B0=>(chk (d0 + B0)).bind fun z0=>g0 z0 else g0 d0)) else some k0)) (fun c0=>(if b0 < ((a0.length:Nat):Int) then c0 true else (if b0 < ((a1.length:Nat):Int) then c0 true else c0 (decide (0 < d0)))))
def wardmoteref01_more_p (n:Nat) (a0:List Int) (a1:List Int):Option (List Int):=
  Option.bind (loopF (wardmoteref01_more_l1 n a1 a0) n (0,0,([]:List Int))) (fun b0=>some b0)
theorem wardmoteref01_more_c (n:Nat) (L:List Nat) (w:World) (hL:∀ b ∈ L,b < w.heap.size) (a0:List Int) {v0_0:Value} (h0_0:Rep.R w L [v0_0] a0) (a1:List Int) {v1_0:Value} (h1_0:Rep.R w L [v1_0] a1)  {r:List Int} (h:wardmoteref01_more_p n a0 a1 = some r) :
    Calls Tryz.prog 184 #[v0_0,v1_0] w (Gives w fun w' u=>∃ v0_0:Value,u = v0_0∧Rep.R w' L [v0_0] r):=by
 unfold wardmoteref01_more_p at h
 have hS0:=Ay w
 refine AD Tryz.func184 rfl rfl rfl (fun _ cs0 hb0=>?_)
 refine Ac<|Af rfl<|Aa<|Ac<|Af rfl<|Aa<|Ac<|Af rfl<|Aa<|Aj<|Ac<|Af rfl<|Aa<|Az ?_
 have I0:=hS0.nilRow 3 (Rep.size Int)
 have M2:=St.nilRowT hS0 3 (Rep.size Int)
 have z1:=AH (cs:=[]) (xs:=([]:List Int)) I0 L (AT _ _)
 obtain ⟨W2,V1,G1⟩:=bind_in2 h
 refine Bm (α:=Int × Int × (List Int) × Value × (List Value)) (fun ⟨j0,g0,c0,b0,d0⟩=>[(0,v0_0),(1,v1_0),(5,b0),(6,vI j0),(7,vI g0)]) (fun ⟨j0,g0,c0,b0,d0⟩ v0=>St w v0 [.row w.heap.size 3 (Rep.size Int) b0 c0.length d0]∧Tr w [.row w.heap.size 3 (Rep.size Int) vN (([]:List Int).length) []] v0 [.row w.heap.size 3 (Rep.size Int) b0 c0.length d0]∧Cells v0 (bl [.row w.heap.size 3 (Rep.size Int) b0 c0.length d0] ++ L) d0 c0) (fun ⟨j0,g0,c0,b0,d0⟩=>(j0,g0,c0)) (0,0,([]:List Int),vN,[]) V1 ⟨rfl,rfl,rfl,rfl,rfl,trivial⟩ ⟨I0,AQ _ _,z1⟩ ?_
 rintro E2 ⟨j0,g0,c0,b0,d0⟩ v0 j1 ⟨t0,s1,M0⟩ h
 unfold wardmoteref01_more_l1 at h
 try dsimp only at h
 refine Aj<|Aj<|MX.join (α:=Bool) (fun u0=>[(0,v0_0),(1,v1_0),(5,b0),(6,vI j0),(7,vI g0),(21,.bool u0)]) (fun u0 x0=>St w x0 [.row w.heap.size 3 (Rep.size Int) b0 c0.length d0]∧Tr v0 [.row w.heap.size 3 (Rep.size Int) b0 c0.length d0] x0 [.row w.heap.size 3 (Rep.size Int) b0 c0.length d0]) (fun u0=>u0) h ?_ ?_
 rintro u0 x0 ⟨s0,J0⟩ h
 try dsimp only at h
 refine MX.ifb rfl h (fun W0 h=>?_) (fun W0 h=>?_)
 refine Au<|Aj<|Az<|Aj<|Ac<|Ae rfl<|Ae rfl ?_
 have D0:=AO h0_0 s0
 have Q2:a0.length ≤ 281474976710656:=AU D0
 refine Ab (Bd (xs:=a0) Tryz.underlying32 rfl D0)<|Ab (FV.lss (i:=g0) (j:=((a0.length:Nat):Int)) rfl rfl)<|Aa<|MX.join (α:=Int) (fun p0=>[(0,v0_0),(1,v1_0),(5,b0),(6,vI p0),(7,vI g0)]) (fun p0 y0=>St w y0 [.row w.heap.size 3 (Rep.size Int) b0 c0.length d0]∧Tr x0 [.row w.heap.size 3 (Rep.size Int) b0 c0.length d0] y0 [.row w.heap.size 3 (Rep.size Int) b0 c0.length d0]) (fun p0=>p0) h ?_ ?_
 rintro p0 y0 ⟨A0,u1⟩ h
 try dsimp only at h
 refine Aj<|Ac<|Ae rfl<|Ae rfl ?_
 have E0:=AO h1_0 A0
 have R2:a1.length ≤ 281474976710656:=AU E0
 refine Ab (Bd (xs:=a1) Tryz.underlying32 rfl E0)<|Ab (FV.lss (i:=g0) (j:=((a1.length:Nat):Int)) rfl rfl)<|Aa<|MX.join (α:=Int) (fun q0=>[(0,v0_0),(1,v1_0),(5,b0),(6,vI q0),(7,vI g0)]) (fun q0 F0=>St w F0 [.row w.heap.size 3 (Rep.size Int) b0 c0.length d0]∧Tr y0 [.row w.heap.size 3 (Rep.size Int) b0 c0.length d0] F0 [.row w.heap.size 3 (Rep.size Int) b0 c0.length d0]) (fun q0=>q0) h ?_ ?_
 rintro q0 F0 ⟨k1,v1⟩ h
 try dsimp only at h
 refine Ac<|Ae rfl<|Ae rfl ?_
 obtain ⟨k0,c2,h⟩:=bi h
 refine Ab (FV.remc (i:=q0) (j:=4294967296) rfl rfl c2)<|Ai .plain rfl (Ba (α:=Int) (xs:=([k0]:List Int)) (vs:=[vI k0]) (ds' :=[vI k0]) rfl k1 el32 rfl (e1 rfl) (by kernel_rfl) rfl) (fun X2 I2 B0 x1=>?_)
 have A1:=AH (cs:=[vI k0]) (xs:=(([k0]:List Int):List Int)) B0 L (Ax (cs:=[vI k0]) (ds:=[]) rfl (AT _ _))
 obtain ⟨B2,u2,h⟩:=bi h
 have R0:=Tt J0 (Tt u1 (Tt v1 x1))
 have M1:=AR M0 R0
 refine RG.doesL .plain rfl (DoesL.app (α:=Int) (ys:=([k0]:List Int)) u2 B0 (fun _ _=>(.tl .hd)) el32 rfl rfl M1 (Src.row (α:=Int) B0 .hd A1)) (fun A2 Y2 ⟨c1,p1,y1,B1⟩=>?_)
 refine Af rfl<|Aa<|Ao<|Ae rfl ?_
 obtain ⟨v2,d2,h⟩:=bi h
 refine Ab (FV.quoc (i:=q0) (j:=4294967296) rfl rfl d2)<|Af rfl<|Aa<|AB<|Ao<|Ae rfl ?_
 obtain ⟨x2,g2,h⟩:=bi h
 refine Ab (BD (i:=g0) (j:=1) rfl rfl g2)<|Af rfl<|Aa ?_
 obtain ⟨q1,K0⟩:=AG p1 (.one (.tl .hd) .done)
 have P1:=AR B1 K0
 have W1:=Tt R0 (Tt y1 K0)
 exact j1 (v2,x2,B2,A2,c1) _ _ ⟨rfl,rfl,rfl,rfl,rfl,trivial⟩ ⟨q1,(Tt s1 W1),P1⟩ h
 intro H2 H0 h
 try dsimp only at h
 refine AV rfl h (fun X0 h=>?_) (fun X0 h=>?_)
 refine Ao<|Ae rfl<|Ae rfl<|Ae rfl ?_
 obtain ⟨U0,p2,h⟩:=bi h
 obtain ⟨H1,q2⟩:=idx_in p2
 obtain ⟨C2,J2,C1,J1,d1,X1,Q1⟩:=Bk E0 q2
 have D1:d1 = [vI U0]:=X1; subst D1
 refine Ab (Bp 1 (g0.toNat) rfl C1 rfl H1 J1)<|AY rfl (Q1 0 _ rfl) ?_
 obtain ⟨y2,j2,h⟩:=bi h
 refine Ab (BD (i:=p0) (j:=U0) rfl rfl j2)<|Af rfl<|Aa ?_
 exact H0 y2 _ _ ⟨rfl,rfl,rfl,rfl,rfl,trivial⟩ ⟨A0,AQ _ _⟩ h
 refine Au ?_
 exact H0 p0 _ _ ⟨rfl,rfl,rfl,rfl,rfl,trivial⟩ ⟨A0,AQ _ _⟩ h
 intro G2 G0 h
 try dsimp only at h
 refine AV rfl h (fun Y0 h=>?_) (fun Y0 h=>?_)
 refine Ao<|Ae rfl<|Ae rfl<|Ae rfl ?_
 obtain ⟨V0,s2,h⟩:=bi h
 obtain ⟨I1,t2⟩:=idx_in s2
 obtain ⟨D2,K2,E1,K1,g1,Y1,R1⟩:=Bk D0 t2
 have F1:g1 = [vI V0]:=Y1; subst F1
 refine Ab (Bp 1 (g0.toNat) rfl E1 rfl I1 K1)<|AY rfl (R1 0 _ rfl) ?_
 obtain ⟨z2,k2,h⟩:=bi h
 refine Ab (BD (i:=j0) (j:=V0) rfl rfl k2)<|Af rfl<|Aa ?_
 exact G0 z2 _ _ ⟨rfl,rfl,rfl,rfl,rfl,trivial⟩ ⟨s0,AQ _ _⟩ h
 refine Au ?_
 exact G0 j0 _ _ ⟨rfl,rfl,rfl,rfl,rfl,trivial⟩ ⟨s0,AQ _ _⟩ h
 refine Be rfl ?_
 have h:=G1 _ h
 try dsimp only at h
 refine Ac<|Ae rfl<|Af rfl<|Aa<|Al rfl ?_
 have U1:=AR M0 J0
 have Z1:=Bn (α:=Int) s0 .hd U1 hL
 have C0:=Bw s0 .hd
 have P2:=Bx s0 .hd
 have b2:=By (α:=Int) (v:=b0) (xs:=c0) C0 L Z1
 refine Bb hb0 Tryz.func184 rfl rfl ?_
 cases h
 exact ⟨C0.ag,fun w9 hw9=>⟨b0,rfl,C0.kd b2 hw9⟩⟩
 intro F2 z0 h
 try dsimp only at h
 refine Ao<|Ae rfl<|Ae rfl ?_
 have P0:=AO h0_0 t0
 have U2:a0.length ≤ 281474976710656:=AU P0
 refine Ab (Bd (xs:=a0) Tryz.underlying32 rfl P0)<|Ab (FV.lss (i:=g0) (j:=((a0.length:Nat):Int)) rfl rfl)<|Ae rfl<|RG.ifd (s:=12) rfl h (fun Z0 h=>?_) (fun Z0 h=>?_)
 refine AI<|AI<|AI<|AI<|BI rfl rfl<|Ae rfl<|AI<|AI<|BI rfl rfl<|Aa ?_
 exact z0 true _ _ ⟨rfl,rfl,rfl,rfl,rfl,rfl,trivial⟩ ⟨t0,AQ _ _⟩ h
 refine AS (Ak rfl)<|AS (Ak rfl) ?_
 have Q0:=AO h1_0 t0
 have V2:a1.length ≤ 281474976710656:=AU Q0
 refine AS (Bd (xs:=a1) Tryz.underlying32 rfl Q0)<|AS (FV.lss (i:=g0) (j:=((a1.length:Nat):Int)) rfl rfl)<|RG.pf rfl rfl<|Ae rfl<|RG.ifd (s:=18) rfl h (fun b1 h=>?_) (fun b1 h=>?_)
 refine AI<|AI<|BI rfl rfl<|Aa ?_
 exact z0 true _ _ ⟨rfl,rfl,rfl,rfl,rfl,rfl,trivial⟩ ⟨t0,AQ _ _⟩ h
 refine AS (Ak rfl)<|AS (FV.gtr (i:=j0) (j:=0) rfl rfl)<|RG.pf rfl rfl<|Aa ?_
 exact z0 (decide (0 < j0)) _ _ ⟨rfl,rfl,rfl,rfl,rfl,rfl,trivial⟩ ⟨t0,AQ _ _⟩ h
def tb177_2:List (Nat × Nat × Nat):=[(0,1024,4),(1,2048,1024),(0,4096,4),(4,8192,4096),(0,16384,8),(16,32768,16384),(40,65536,40960),(66,131072,67584),(255,0,131088)]
def tb177_4:List (Nat × Nat × Nat):=[(0,16777216,4),(1,33554432,16777216),(0,67108864,4),(4,134217728,67108864),(0,268435456,8),(16,536870912,268435456),(40,1073741824,671088640),(66,2147483648,1107296256),(255,0,2147483664)]
def tb177_5:List (Nat × Nat × Nat):=[(0,4294967296,8),(1,8589934592,4294967296),(0,17179869184,8),(4,34359738368,17179869184),(0,68719476736,4),(16,137438953472,68719476736),(40,274877906944,171798691840),(66,549755813888,283467841536),(255,0,549755813904)]
theorem body184:bodyB Tryz.prog 184 = true:=by kernel_rfl
def wardmoteref01_Plus_p (n:Nat) (a0:TLong175) (a1:TLong175):Option TLong175:=
  (if (a0.fe == a1.fe) = true then (wardmoteref01_more_p n a0.fD a1.fD).bind fun b0=>(wardmoteref01_made_p n a0.fe b0).bind fun c0=>some c0 else (wardmoteref01_order_p n a0.fD a1.fD).bind fun d0=>(if 0 ≤ d0 then (wardmoteref01_less_p n a0.fD a1.fD).bind fun g0=>(wardmoteref01_made_p n a0.fe g0).bind fun j0=>some j0 else (wardmoteref01_less_p n a1.fD a0.fD).bind fun k0=>(wardmoteref01_made_p n a1.fe k0).bind fun p0=>some p0))
theorem wardmoteref01_Plus_c (n:Nat) (L:List Nat) (w:World) (hL:∀ b ∈ L,b < w.heap.size) (a0:TLong175) {v0_1:Value} (h0_1:Rep.R w L [v0_1] a0.fD) (a1:TLong175) {v1_1:Value} (h1_1:Rep.R w L [v1_1] a1.fD)  {r:TLong175} (h:wardmoteref01_Plus_p n a0 a1 = some r) :
    Calls Tryz.prog 177 #[.agg #[.bool a0.fe,v0_1],.agg #[.bool a1.fe,v1_1]] w (Gives w fun w' u=>∃ v0_1:Value,u = .agg #[.bool r.fe,v0_1]∧Rep.R w' L [v0_1] r.fD):=by
 unfold wardmoteref01_Plus_p at h
 have hS0:=Ay w
 refine AD Tryz.func177 rfl rfl rfl (fun _ cs0 hb0=>?_)
 refine Ac<|Ai .plain rfl (Av hS0 rfl rfl) (fun k2 F1 M0 I1=>?_)
 refine Ai .plain rfl (Av M0 rfl rfl) (fun p2 G1 P0 J1=>?_)
 refine Ai .plain rfl (Ar [.bool false,vN] P0) (fun q2 H1 b0 K1=>?_)
 refine Aa<|Aj<|Ac<|AZ 0 rfl<|AY rfl ((b0.memA (.tl (.tl .hd))) 0 _ rfl)<|AZ 0 rfl<|AY rfl ((b0.memA (.tl .hd)) 0 _ rfl)<|Ab (FV.eqlB (a:=a0.fe) (b:=a1.fe) Tryz.underlying4 rfl rfl)<|Aa<|MX.ifb rfl h (fun J0 h=>?_) (fun J0 h=>?_)
 refine Aj<|dt 8 tb177_2 (fun c0 j0=>?_)
 refine Ag 0 1 c0 rfl j0 (fun _=>AX 0 rfl) rfl<|AC 1 3 384 c0 rfl j0 (AL rfl ((b0.memA (.tl (.tl .hd))) 0 _ rfl)) rfl<|Ag 2 7 c0 rfl j0 (fun _=>AX 1 rfl) rfl<|AC 3 15 448 c0 rfl j0 (AL rfl ((b0.memA (.tl (.tl .hd))) 1 _ rfl)) rfl<|Ag 4 31 c0 rfl j0 (fun _=>AX 1 rfl) rfl<|AC 5 63 448 c0 rfl j0 (AL rfl ((b0.memA (.tl .hd)) 1 _ rfl)) rfl ?_
 obtain ⟨C1,u1,h⟩:=bi h
 refine Bu 6 127 c0 rfl .plain body184 rfl (e2 rfl rfl) (fun w9 hw9=>wardmoteref01_more_c n _ w9 (b0.hL hL hw9) a0.fD (b0.km h0_1 hw9) a1.fD (b0.km h1_1 hw9) u1) rfl (fun s2 Z1 Y0 ⟨W1,hu_,q1⟩=>?_)
 subst hu_
 obtain ⟨z0,M1⟩:=b0.agr Y0
 obtain ⟨F0,v1,h⟩:=bi h
 refine Bu 7 255 c0 rfl .plain body167 rfl (e2 rfl rfl) (fun w9 hw9=>wardmoteref01_made_c n _ w9 (z0.hL hL hw9) a0.fe C1 (Ap q1 hw9) v1) rfl (fun t2 b2 Z0 ⟨v0,hu_,C0⟩=>?_)
 subst hu_
 obtain ⟨Q0,P1⟩:=z0.agr Z0
 refine Bq 8 511 c0 rfl rfl .plain (Aw (news:=[.bool F0.fe,v0]) Q0 .hd rfl rfl rfl rfl rfl rfl (o2 rfl (AN C0))) (fun u2 s0 V0=>?_)
 refine AE (dk c0)<|Al rfl<|Am hb0 Tryz.func177 rfl (.cons (.many (cs:=[.bool F0.fe,v0]) (by kernel_rfl) rfl (s0.memA .hd)) .nil) rfl ?_
 cases h
 have j1:=Aq C0 V0
 exact ⟨s0.ag,fun w9 hw9=>⟨v0,rfl,s0.kd j1 hw9⟩⟩
 refine Au<|Aj<|Ac<|AZ 1 rfl<|AY rfl ((b0.memA (.tl (.tl .hd))) 1 _ rfl)<|AZ 1 rfl<|AY rfl ((b0.memA (.tl .hd)) 1 _ rfl) ?_
 obtain ⟨G0,x1,h⟩:=bi h
 refine Bg (vI G0) body162 rfl (e2 rfl rfl) (fun w9 hw9=>wardmoteref01_order_c n _ w9 (b0.hL0 hL hw9) a0.fD (b0.k0 h0_1 hw9) a1.fD (b0.k0 h1_1 hw9) x1) rfl<|Ab (FV.geq (i:=G0) (j:=0) rfl rfl)<|Aa<|AV rfl h (fun K0 h=>?_) (fun K0 h=>?_)
 refine Aj<|dt 8 tb177_4 (fun d0 p0=>?_)
 refine Ag 0 1 d0 rfl p0 (fun _=>AX 0 rfl) rfl<|AC 1 3 384 d0 rfl p0 (AL rfl ((b0.memA (.tl (.tl .hd))) 0 _ rfl)) rfl<|Ag 2 7 d0 rfl p0 (fun _=>AX 1 rfl) rfl<|AC 3 15 448 d0 rfl p0 (AL rfl ((b0.memA (.tl (.tl .hd))) 1 _ rfl)) rfl<|Ag 4 31 d0 rfl p0 (fun _=>AX 1 rfl) rfl<|AC 5 63 448 d0 rfl p0 (AL rfl ((b0.memA (.tl .hd)) 1 _ rfl)) rfl ?_
 obtain ⟨D1,y1,h⟩:=bi h
 refine Bu 6 127 d0 rfl .plain body163 rfl (e2 rfl rfl) (fun w9 hw9=>wardmoteref01_less_c n _ w9 (b0.hL hL hw9) a0.fD (b0.km h0_1 hw9) a1.fD (b0.km h1_1 hw9) y1) rfl (fun v2 c2 b1 ⟨X1,hu_,s1⟩=>?_)
 subst hu_
 obtain ⟨A0,Q1⟩:=b0.agr b1
 obtain ⟨H0,z1,h⟩:=bi h
 refine Bu 7 255 d0 rfl .plain body167 rfl (e2 rfl rfl) (fun w9 hw9=>wardmoteref01_made_c n _ w9 (A0.hL hL hw9) a0.fe D1 (Ap s1 hw9) z1) rfl (fun x2 d2 c1 ⟨x0,hu_,D0⟩=>?_)
 subst hu_
 obtain ⟨R0,R1⟩:=A0.agr c1
 refine Bq 8 511 d0 rfl rfl .plain (Aw (news:=[.bool H0.fe,x0]) R0 .hd rfl rfl rfl rfl rfl rfl (o2 rfl (AN D0))) (fun y2 t0 W0=>?_)
 refine AE (dk d0)<|Al rfl<|Am hb0 Tryz.func177 rfl (.cons (.many (cs:=[.bool H0.fe,x0]) (by kernel_rfl) rfl (t0.memA .hd)) .nil) rfl ?_
 cases h
 have k1:=Aq D0 W0
 exact ⟨t0.ag,fun w9 hw9=>⟨x0,rfl,t0.kd k1 hw9⟩⟩
 refine Au<|Aj<|dt 8 tb177_5 (fun g0 q0=>?_)
 refine Ag 0 1 g0 rfl q0 (fun _=>AX 0 rfl) rfl<|AC 1 3 384 g0 rfl q0 (AL rfl ((b0.memA (.tl .hd)) 0 _ rfl)) rfl<|Ag 2 7 g0 rfl q0 (fun _=>AX 1 rfl) rfl<|AC 3 15 448 g0 rfl q0 (AL rfl ((b0.memA (.tl .hd)) 1 _ rfl)) rfl<|Ag 4 31 g0 rfl q0 (fun _=>AX 1 rfl) rfl<|AC 5 63 448 g0 rfl q0 (AL rfl ((b0.memA (.tl (.tl .hd))) 1 _ rfl)) rfl ?_
 obtain ⟨E1,A1,h⟩:=bi h
 refine Bu 6 127 g0 rfl .plain body163 rfl (e2 rfl rfl) (fun w9 hw9=>wardmoteref01_less_c n _ w9 (b0.hL hL hw9) a1.fD (b0.km h1_1 hw9) a0.fD (b0.km h0_1 hw9) A1) rfl (fun z2 g2 d1 ⟨Y1,hu_,t1⟩=>?_)
 subst hu_
 obtain ⟨B0,U1⟩:=b0.agr d1
 obtain ⟨I0,B1,h⟩:=bi h
 refine Bu 7 255 g0 rfl .plain body167 rfl (e2 rfl rfl) (fun w9 hw9=>wardmoteref01_made_c n _ w9 (B0.hL hL hw9) a1.fe E1 (Ap t1 hw9) B1) rfl (fun A2 j2 g1 ⟨y0,hu_,E0⟩=>?_)
 subst hu_
 obtain ⟨U0,V1⟩:=B0.agr g1
 refine Bq 8 511 g0 rfl rfl .plain (Aw (news:=[.bool I0.fe,y0]) U0 .hd rfl rfl rfl rfl rfl rfl (o2 rfl (AN E0))) (fun B2 u0 X0=>?_)
 refine AE (dk g0)<|Al rfl<|Am hb0 Tryz.func177 rfl (.cons (.many (cs:=[.bool I0.fe,y0]) (by kernel_rfl) rfl (u0.memA .hd)) .nil) rfl ?_
 cases h
 have p1:=Aq E0 X0
 exact ⟨u0.ag,fun w9 hw9=>⟨y0,rfl,u0.kd p1 hw9⟩⟩
def tb178_1:List (Nat × Nat × Nat):=[(0,32,4),(0,64,8),(2,128,64),(5,256,160),(15,0,272)]
theorem body165:bodyB Tryz.prog 165 = true:=by kernel_rfl
theorem body177:bodyB Tryz.prog 177 = true:=by kernel_rfl
def wardmoteref01_Minus_p (n:Nat) (a0:TLong175) (a1:TLong175):Option TLong175:=
  (wardmoteref01_Turn_p n a1).bind fun b0=>(wardmoteref01_Plus_p n a0 b0).bind fun c0=>some c0
theorem wardmoteref01_Minus_c (n:Nat) (L:List Nat) (w:World) (hL:∀ b ∈ L,b < w.heap.size) (a0:TLong175) {v0_1:Value} (h0_1:Rep.R w L [v0_1] a0.fD) (a1:TLong175) {v1_1:Value} (h1_1:Rep.R w L [v1_1] a1.fD)  {r:TLong175} (h:wardmoteref01_Minus_p n a0 a1 = some r) :
    Calls Tryz.prog 178 #[.agg #[.bool a0.fe,v0_1],.agg #[.bool a1.fe,v1_1]] w (Gives w fun w' u=>∃ v0_1:Value,u = .agg #[.bool r.fe,v0_1]∧Rep.R w' L [v0_1] r.fD):=by
 unfold wardmoteref01_Minus_p at h
 have hS0:=Ay w
 refine AD Tryz.func178 rfl rfl rfl (fun _ cs0 hb0=>?_)
 refine Ac<|Ai .plain rfl (Av hS0 rfl rfl) (fun U0 E0 s0 H0=>?_)
 refine Ai .plain rfl (Av s0 rfl rfl) (fun V0 F0 t0 I0=>?_)
 refine Ai .plain rfl (Ar [.bool false,vN] t0) (fun W0 G0 c0 J0=>?_)
 refine Aa<|Aj<|dt 4 tb178_1 (fun b0 p0=>?_)
 refine AC 0 1 24 b0 rfl p0 (AA rfl (c0.memA (.tl (.tl .hd)))) rfl<|AC 1 3 28 b0 rfl p0 (AA rfl (c0.memA (.tl .hd))) rfl ?_
 obtain ⟨D0,B0,h⟩:=bi h
 refine Bu 2 7 b0 rfl .plain body165 rfl (e1 rfl) (fun w9 hw9=>wardmoteref01_Turn_c n _ w9 (c0.hL hL hw9) a1 (c0.km h1_1 hw9) B0) rfl (fun X0 Q0 x0 ⟨P0,hu_,A0⟩=>?_)
 subst hu_
 obtain ⟨d0,K0⟩:=c0.agr x0
 obtain ⟨q0,C0,h⟩:=bi h
 refine Bu 3 15 b0 rfl .plain body177 rfl (e2 rfl rfl) (fun w9 hw9=>wardmoteref01_Plus_c n _ w9 (d0.hL hL hw9) a0 (d0.km h0_1 hw9) D0 (Ap A0 hw9) C0) rfl (fun Y0 R0 y0 ⟨j0,hu_,k0⟩=>?_)
 subst hu_
 obtain ⟨u0,M0⟩:=d0.agr y0
 refine Bq 4 31 b0 rfl rfl .plain (Aw (news:=[.bool q0.fe,j0]) u0 .hd rfl rfl rfl rfl rfl rfl (o2 rfl (AN k0))) (fun Z0 g0 v0=>?_)
 refine AE (dk b0)<|Al rfl<|Am hb0 Tryz.func178 rfl (.cons (.many (cs:=[.bool q0.fe,j0]) (by kernel_rfl) rfl (g0.memA .hd)) .nil) rfl ?_
 cases h
 have z0:=Aq k0 v0
 exact ⟨g0.ag,fun w9 hw9=>⟨j0,rfl,g0.kd z0 hw9⟩⟩
def tb166_2:List (Nat × Nat × Nat):=[(0,262144,4),(1,524288,262144),(0,1048576,8),(4,2097152,1048576),(10,4194304,2621440),(0,8388608,64),(48,16777216,12582912),(0,33554432,4),(128,67108864,33554432),(0,134217728,128),(832,268435456,201326592),(0,256,0),(0,512,0),(7295,0,16777472),(16383,0,268435968)]
def tb166_6:List (Nat × Nat × Nat):=[(0,274877906944,256),(0,549755813888,0),(3,1099511627776,824633720832),(7,0,1099511628032)]
def tb166_8:List (Nat × Nat × Nat):=[(0,17592186044416,256),(0,35184372088832,512),(1,0,17592186044432),(7,0,35184372088864)]
def tb166_7:List (Nat × Nat × Nat):=[(0,2199023255552,256),(0,4398046511104,0),(3,8796093022208,6597069766656),(7,0,8796093022464)]
theorem body143:bodyB Tryz.prog 143 = true:=by kernel_rfl
theorem body178:bodyB Tryz.prog 178 = true:=by kernel_rfl
def wardmoteref01_Parts_p (n:Nat) (a0:TLong175) (a1:TLong175):Option (TLong175 × TLong175):=
  (wardmoteref01_parts_p n a0.fD a1.fD).bind fun g0=>(wardmoteref01_made_p n (!(a0.fe == a1.fe)) g0.1).bind fun b0=>(wardmoteref01_made_p n a0.fe g0.2).bind fun c0=>(if c0.fe = true then (wardmoteref01_Plus_p n c0 (⟨false,a1.fD⟩:TLong175)).bind fun d0=>(if a1.fe = true then (wardmoteref01_Long1_p n (1:Int)).bind fun j0=>(wardmoteref01_Plus_p n b0 j0).bind fun k0=>some (k0,d0) else (wardmoteref01_Long1_p n (1:Int)).bind fun p0=>(wardmoteref01_Minus_p n b0 p0).bind fun q0=>some (q0,d0)) else some (b0,c0))
theorem wardmoteref01_Parts_c (n:Nat) (L:List Nat) (w:World) (hL:∀ b ∈ L,b < w.heap.size) (a0:TLong175) {v0_1:Value} (h0_1:Rep.R w L [v0_1] a0.fD) (a1:TLong175) {v1_1:Value} (h1_1:Rep.R w L [v1_1] a1.fD)  {r:TLong175 × TLong175} (h:wardmoteref01_Parts_p n a0 a1 = some r) :
    Calls Tryz.prog 166 #[.agg #[.bool a0.fe,v0_1],.agg #[.bool a1.fe,v1_1]] w (Gives w fun w' u=>∃ v0_1 v1_1:Value,u = .tuple #[.agg #[.bool r.1.fe,v0_1],.agg #[.bool r.2.fe,v1_1]]∧Rep.R w' L [v0_1] r.1.fD∧Rep.R w' L [v1_1] r.2.fD):=by
 unfold wardmoteref01_Parts_p at h
 have hS0:=Ay w
 refine AD Tryz.func166 rfl rfl rfl (fun _ cs0 hb0=>?_)
 refine Ac<|Ai .plain rfl (Av hS0 rfl rfl) (fun K7 U3 X3 s7=>?_)
 refine Ai .plain rfl (Av X3 rfl rfl) (fun M7 Y0 Y3 t7=>?_)
 refine Ai .plain rfl (Ar [.bool false,vN] Y3) (fun W7 q0 g4 v7=>?_)
 refine Ai .plain rfl (Ar [.bool false,vN] g4) (fun X7 s0 F1 x7=>?_)
 refine Aa<|Ac<|AZ 1 rfl<|Ab (AL rfl ((F1.memA (.tl (.tl (.tl .hd)))) 1 _ rfl))<|AZ 1 rfl<|AY rfl ((F1.memA (.tl (.tl .hd))) 1 _ rfl) ?_
 obtain ⟨t0,Q6,h⟩:=bi h
 refine Bf (fst:=[]) (cap:=[]) .plain body176 rfl (e2 rfl rfl) (fun w9 hw9=>wardmoteref01_parts_c n _ w9 (F1.hL hL hw9) a0.fD (F1.km h0_1 hw9) a1.fD (F1.km h1_1 hw9) Q6) rfl (fun b7 I7 j5 ⟨B7,C7,hu_,U1,G0⟩=>?_)
 subst hu_
 obtain ⟨z1,y7⟩:=F1.agr j5
 refine Ae rfl<|Ab (Ah rfl rfl)<|Ab (Ah rfl rfl)<|Af rfl<|Af rfl<|Aa<|Aj<|dt 13 tb166_2 (fun b0 d1=>?_)
 refine Ag 0 1 b0 rfl d1 (fun _=>AX 0 rfl) rfl<|AC 1 3 25680 b0 rfl d1 (AL rfl ((z1.memA (.tl (.tl (.tl .hd)))) 0 _ rfl)) rfl<|Ag 2 7 b0 rfl d1 (fun _=>AX 0 rfl) rfl<|AC 3 15 25680 b0 rfl d1 (AL rfl ((z1.memA (.tl (.tl .hd))) 0 _ rfl)) rfl<|Ag 4 31 b0 rfl d1 (fun _=>FV.neqB (a:=a0.fe) (b:=a1.fe) Tryz.underlying4 rfl rfl) rfl<|Ag 5 63 b0 rfl d1 (fun _=>Ak rfl) rfl<|Ag 7 191 b0 rfl d1 (fun _=>AX 0 rfl) rfl<|AC 8 447 25600 b0 rfl d1 (AL rfl ((z1.memA (.tl (.tl (.tl .hd)))) 0 _ rfl)) rfl<|Ag 9 959 b0 rfl d1 (fun _=>Ak rfl) rfl ?_
 obtain ⟨M0,V1,h⟩:=bi h
 obtain ⟨x1,I0,h⟩:=bi h
 refine RD.meet (α:=Value × Value × Nat × Nat) (fun ⟨A0,W0,P0,Q0⟩=>[(3,vP Y0),(4,vP q0),(5,vP s0),(24,.agg #[.bool M0.fe,A0]),(28,.agg #[.bool x1.fe,W0]),(8,vP Q0),(9,vP P0)]) (fun ⟨A0,W0,P0,Q0⟩ b2=>St w b2 [.cells P0 [.bool false,vN] 176,.cells Q0 [.bool false,vN] 176,.cells s0 [.bool false,vN] 176,.cells q0 [.bool false,vN] 176,.cells Y0 [.bool a1.fe,v1_1] 176]∧Tr b7 [.cells s0 [.bool false,vN] 176,.cells q0 [.bool false,vN] 176,.cells Y0 [.bool a1.fe,v1_1] 176,.cells U3 [.bool a0.fe,v0_1] 176] b2 [.cells P0 [.bool false,vN] 176,.cells Q0 [.bool false,vN] 176,.cells s0 [.bool false,vN] 176,.cells q0 [.bool false,vN] 176,.cells Y0 [.bool a1.fe,v1_1] 176]∧Rep.R b2 (bl [.cells P0 [.bool false,vN] 176,.cells Q0 [.bool false,vN] 176,.cells s0 [.bool false,vN] 176,.cells q0 [.bool false,vN] 176,.cells Y0 [.bool a1.fe,v1_1] 176] ++ L) [A0] M0.fD∧Rep.R b2 (bl [.cells P0 [.bool false,vN] 176,.cells Q0 [.bool false,vN] 176,.cells s0 [.bool false,vN] 176,.cells q0 [.bool false,vN] 176,.cells Y0 [.bool a1.fe,v1_1] 176] ++ L) [W0] x1.fD) 2 8191 ?_ ?_
 rintro ⟨A0,W0,P0,Q0⟩ b2 ⟨Z3,u7,I1,t2⟩
 try dsimp only
 refine Bq 13 16383 b0 rfl rfl .plain (Aw (news:=[.bool M0.fe,A0]) Z3 (.tl .hd) rfl rfl rfl rfl rfl rfl (o2 rfl (AN I1))) (fun P7 b4 A1=>?_)
 have p5:=Aq t2 A1
 refine Bq 14 32767 b0 rfl rfl .plain (Aw (news:=[.bool x1.fe,W0]) b4 .hd rfl rfl rfl rfl rfl rfl (o2 rfl (AN p5))) (fun X6 B0 G1=>?_)
 refine AE (dk b0)<|Aj<|Ac<|AZ 0 rfl<|AY rfl ((B0.memA .hd) 0 _ rfl)<|Aa<|MX.ifb rfl h (fun V3 h=>?_) (fun V3 h=>?_)
 refine Ac<|Ab (AA rfl (B0.memA .hd))<|AZ 1 rfl<|Ab (AL rfl ((B0.memA (.tl (.tl (.tl (.tl .hd))))) 1 _ rfl)) ?_
 have q5:=AO h1_1 B0
 obtain ⟨p7,q7,J6,_⟩:=Rep.sl q5
 refine Ab (AM (vs:=[v1_1]) (u:=.agg #[.bool false,v1_1]) (e1 rfl) (fun w9=>by rw [J6]; try kernel_rfl)) ?_
 obtain ⟨j1,K6,h⟩:=bi h
 have s5:=Aq t2 (Tt A1 G1)
 refine Bf (fst:=[]) (cap:=[]) .plain body177 rfl (e2 rfl rfl) (fun w9 hw9=>wardmoteref01_Plus_c n _ w9 (B0.hL hL hw9) x1 (Ap s5 hw9) (⟨false,a1.fD⟩:TLong175) (B0.km h1_1 hw9) K6) rfl (fun Q7 D7 Z4 ⟨J0,hu_,R1⟩=>?_)
 subst hu_
 obtain ⟨c4,Z2⟩:=B0.agr Z4
 refine AJ [.bool j1.fe,J0] c4 .hd (o2 rfl (AN R1)) (fun R7 y1 H1=>?_)
 refine Aa<|Ac<|AZ 0 rfl<|Ab (AL rfl ((y1.memA (.tl (.tl (.tl (.tl .hd))))) 0 _ rfl))<|Aa<|MX.ifb rfl h (fun W3 h=>?_) (fun W3 h=>?_)
 refine dt 3 tb166_6 (fun W1 V6=>?_)
 refine AC 0 1 12 W1 rfl V6 (AA rfl (y1.memA (.tl .hd))) rfl ?_
 obtain ⟨j7,M6,h⟩:=bi h
 refine Bu 1 3 W1 rfl .plain body143 rfl (e1 rfl) (fun w9 hw9=>wardmoteref01_Long1_c n _ w9 (y1.hL hL hw9) (1:Int) M6) rfl (fun U7 E7 b5 ⟨z7,hu_,H6⟩=>?_)
 subst hu_
 obtain ⟨X2,z2⟩:=y1.agr b5
 obtain ⟨D1,P6,h⟩:=bi h
 have s6:=Tt A1 (Tt G1 (Tt Z2 (Tt H1 z2)))
 have t5:=Aq I1 s6
 refine Bu 2 7 W1 rfl .plain body177 rfl (e2 rfl rfl) (fun w9 hw9=>wardmoteref01_Plus_c n _ w9 (X2.hL hL hw9) M0 (Ap t5 hw9) j7 (Ap H6 hw9) P6) rfl (fun V7 F7 c5 ⟨s1,hu_,u2⟩=>?_)
 subst hu_
 obtain ⟨d4,b3⟩:=X2.agr c5
 refine Bq 3 15 W1 rfl rfl .plain (Aw (news:=[.bool D1.fe,s1]) d4 (.tl .hd) rfl rfl rfl rfl rfl rfl (o2 rfl (AN u2))) (fun Y6 c2 q2=>?_)
 refine AE (dk W1)<|Aj<|dt 2 tb166_8 (fun k1 P3=>?_)
 refine AC 0 1 12 k1 rfl P3 (AA rfl (c2.memA (.tl .hd))) rfl<|RD.meet (α:=Unit) (fun ()=>[(4,vP q0),(5,vP s0),(45,.agg #[.bool j1.fe,J0])]) (fun () P2=>St w P2 [.cells s0 [.bool false,vN] 176,.cells q0 [.bool D1.fe,s1] 176]∧Tr Y6 [.cells P0 [.bool j1.fe,J0] 176,.cells Q0 [.bool D1.fe,s1] 176,.cells s0 [.bool false,vN] 176,.cells q0 [.bool false,vN] 176,.cells Y0 [.bool a1.fe,v1_1] 176] P2 [.cells s0 [.bool false,vN] 176,.cells q0 [.bool D1.fe,s1] 176]) 1 7 ?_ ?_
 rintro ⟨⟩ P2 ⟨j4,c3⟩
 try dsimp only
 have t6:=Tt H1 (Tt z2 (Tt b3 (Tt q2 c3)))
 have u5:=Aq R1 t6
 refine Bq 3 15 k1 rfl rfl .plain (Aw (news:=[.bool j1.fe,J0]) j4 .hd rfl rfl rfl rfl rfl rfl (o2 rfl (AN u5))) (fun Y7 M1 M4=>?_)
 refine AE (dk k1)<|Al rfl<|Am hb0 Tryz.func166 rfl (.cons (.many (cs:=[.bool D1.fe,s1]) (by kernel_rfl) rfl (M1.memA (.tl .hd))) (.cons (.many (cs:=[.bool j1.fe,J0]) (by kernel_rfl) rfl (M1.memA .hd)) .nil)) rfl ?_
 cases h
 have A3:=Tt q2 (Tt c3 M4)
 have v5:=Aq u2 A3
 have u6:=Tt H1 (Tt z2 (Tt b3 A3))
 have x5:=Aq R1 u6
 exact ⟨M1.ag,fun w9 hw9=>⟨s1,J0,rfl,M1.kd v5 hw9,M1.kd x5 hw9⟩⟩
 intro U2
 refine BJ [1,2] (rk k1) ⟨?_,?_,trivial⟩
 refine BK (m' :=3) (sk k1) rfl .plain rfl (AA rfl (c2.memA .hd)) ?_
 have G2:=Aq u2 q2
 refine Bq 2 7 k1 rfl rfl .plain (Aw (news:=[.bool D1.fe,s1]) c2 (.tl (.tl (.tl .hd))) rfl rfl rfl rfl rfl rfl (o2 rfl (AN G2))) (fun Z6 d2 A2=>?_)
 obtain ⟨k4,P4⟩:=AG d2 (.one (.tl (.tl .hd)) (.one (.tl (.tl .hd)) .done))
 exact U2 () _ _ ⟨rfl,rfl,rfl,trivial⟩ ⟨k4,(Tt A2 P4)⟩
 have G2:=Aq u2 q2
 refine RO.now (m' :=5) (sk k1) rfl rfl .plain (Aw (news:=[.bool D1.fe,s1]) c2 (.tl (.tl (.tl .hd))) rfl rfl rfl rfl rfl rfl (o2 rfl (AN G2))) (fun Z6 d2 A2=>?_)
 refine AC 1 7 8 k1 rfl P3 (AA rfl (d2.memA .hd)) rfl ?_
 obtain ⟨p4,Q4⟩:=AG d2 (.one (.tl (.tl .hd)) (.one (.tl (.tl .hd)) .done))
 exact U2 () _ _ ⟨rfl,rfl,rfl,trivial⟩ ⟨p4,(Tt A2 Q4)⟩
 refine dt 3 tb166_7 (fun X1 W6=>?_)
 refine AC 0 1 12 X1 rfl W6 (AA rfl (y1.memA (.tl .hd))) rfl ?_
 obtain ⟨k7,R6,h⟩:=bi h
 refine Bu 1 3 X1 rfl .plain body143 rfl (e1 rfl) (fun w9 hw9=>wardmoteref01_Long1_c n _ w9 (y1.hL hL hw9) (1:Int) R6) rfl (fun Z7 G7 d5 ⟨A7,hu_,I6⟩=>?_)
 subst hu_
 obtain ⟨Y2,B2⟩:=y1.agr d5
 obtain ⟨E1,U6,h⟩:=bi h
 have v6:=Tt A1 (Tt G1 (Tt Z2 (Tt H1 B2)))
 have y5:=Aq I1 v6
 refine Bu 2 7 X1 rfl .plain body178 rfl (e2 rfl rfl) (fun w9 hw9=>wardmoteref01_Minus_c n _ w9 (Y2.hL hL hw9) M0 (Ap y5 hw9) k7 (Ap I6 hw9) U6) rfl (fun b8 H7 g5 ⟨t1,hu_,v2⟩=>?_)
 subst hu_
 obtain ⟨q4,d3⟩:=Y2.agr g5
 refine Bq 3 15 X1 rfl rfl .plain (Aw (news:=[.bool E1.fe,t1]) q4 (.tl .hd) rfl rfl rfl rfl rfl rfl (o2 rfl (AN v2))) (fun c7 g2 s2=>?_)
 refine AE (dk X1)<|Aj<|dt 2 tb166_8 (fun p1 Q3=>?_)
 refine AC 0 1 12 p1 rfl Q3 (AA rfl (g2.memA (.tl .hd))) rfl<|RD.meet (α:=Unit) (fun ()=>[(4,vP q0),(5,vP s0),(45,.agg #[.bool j1.fe,J0])]) (fun () Q2=>St w Q2 [.cells s0 [.bool false,vN] 176,.cells q0 [.bool E1.fe,t1] 176]∧Tr c7 [.cells P0 [.bool j1.fe,J0] 176,.cells Q0 [.bool E1.fe,t1] 176,.cells s0 [.bool false,vN] 176,.cells q0 [.bool false,vN] 176,.cells Y0 [.bool a1.fe,v1_1] 176] Q2 [.cells s0 [.bool false,vN] 176,.cells q0 [.bool E1.fe,t1] 176]) 1 7 ?_ ?_
 rintro ⟨⟩ Q2 ⟨s4,g3⟩
 try dsimp only
 have x6:=Tt H1 (Tt B2 (Tt d3 (Tt s2 g3)))
 have z5:=Aq R1 x6
 refine Bq 3 15 p1 rfl rfl .plain (Aw (news:=[.bool j1.fe,J0]) s4 .hd rfl rfl rfl rfl rfl rfl (o2 rfl (AN z5))) (fun d8 P1 R4=>?_)
 refine AE (dk p1)<|Al rfl<|Am hb0 Tryz.func166 rfl (.cons (.many (cs:=[.bool E1.fe,t1]) (by kernel_rfl) rfl (P1.memA (.tl .hd))) (.cons (.many (cs:=[.bool j1.fe,J0]) (by kernel_rfl) rfl (P1.memA .hd)) .nil)) rfl ?_
 cases h
 have B3:=Tt s2 (Tt g3 R4)
 have A5:=Aq v2 B3
 have y6:=Tt H1 (Tt B2 (Tt d3 B3))
 have B5:=Aq R1 y6
 exact ⟨P1.ag,fun w9 hw9=>⟨t1,J0,rfl,P1.kd A5 hw9,P1.kd B5 hw9⟩⟩
 intro V2
 refine BJ [1,2] (rk p1) ⟨?_,?_,trivial⟩
 refine BK (m' :=3) (sk p1) rfl .plain rfl (AA rfl (g2.memA .hd)) ?_
 have H2:=Aq v2 s2
 refine Bq 2 7 p1 rfl rfl .plain (Aw (news:=[.bool E1.fe,t1]) g2 (.tl (.tl (.tl .hd))) rfl rfl rfl rfl rfl rfl (o2 rfl (AN H2))) (fun d7 k2 C2=>?_)
 obtain ⟨t4,U4⟩:=AG k2 (.one (.tl (.tl .hd)) (.one (.tl (.tl .hd)) .done))
 exact V2 () _ _ ⟨rfl,rfl,rfl,trivial⟩ ⟨t4,(Tt C2 U4)⟩
 have H2:=Aq v2 s2
 refine RO.now (m' :=5) (sk p1) rfl rfl .plain (Aw (news:=[.bool E1.fe,t1]) g2 (.tl (.tl (.tl .hd))) rfl rfl rfl rfl rfl rfl (o2 rfl (AN H2))) (fun d7 k2 C2=>?_)
 refine AC 1 7 8 p1 rfl Q3 (AA rfl (k2.memA .hd)) rfl ?_
 obtain ⟨u4,V4⟩:=AG k2 (.one (.tl (.tl .hd)) (.one (.tl (.tl .hd)) .done))
 exact V2 () _ _ ⟨rfl,rfl,rfl,trivial⟩ ⟨u4,(Tt C2 V4)⟩
 refine Au<|Aj<|dt 2 tb166_8 (fun q1 R3=>?_)
 refine AC 0 1 12 q1 rfl R3 (AA rfl (B0.memA (.tl .hd))) rfl<|RD.meet (α:=Unit) (fun ()=>[(4,vP q0),(5,vP s0),(45,.agg #[.bool x1.fe,W0])]) (fun () R2=>St w R2 [.cells s0 [.bool false,vN] 176,.cells q0 [.bool M0.fe,A0] 176]∧Tr X6 [.cells P0 [.bool x1.fe,W0] 176,.cells Q0 [.bool M0.fe,A0] 176,.cells s0 [.bool false,vN] 176,.cells q0 [.bool false,vN] 176,.cells Y0 [.bool a1.fe,v1_1] 176] R2 [.cells s0 [.bool false,vN] 176,.cells q0 [.bool M0.fe,A0] 176]) 1 7 ?_ ?_
 rintro ⟨⟩ R2 ⟨v4,W4⟩
 try dsimp only
 have J2:=Tt A1 (Tt G1 W4)
 have C5:=Aq t2 J2
 refine Bq 3 15 q1 rfl rfl .plain (Aw (news:=[.bool x1.fe,W0]) v4 .hd rfl rfl rfl rfl rfl rfl (o2 rfl (AN C5))) (fun g8 Q1 j3=>?_)
 refine AE (dk q1)<|Al rfl<|Am hb0 Tryz.func166 rfl (.cons (.many (cs:=[.bool M0.fe,A0]) (by kernel_rfl) rfl (Q1.memA (.tl .hd))) (.cons (.many (cs:=[.bool x1.fe,W0]) (by kernel_rfl) rfl (Q1.memA .hd)) .nil)) rfl ?_
 cases h
 have D5:=Aq I1 (Tt J2 j3)
 have E5:=Aq t2 (Tt J2 j3)
 exact ⟨Q1.ag,fun w9 hw9=>⟨A0,W0,rfl,Q1.kd D5 hw9,Q1.kd E5 hw9⟩⟩
 intro W2
 refine BJ [1,2] (rk q1) ⟨?_,?_,trivial⟩
 refine BK (m' :=3) (sk q1) rfl .plain rfl (AA rfl (B0.memA .hd)) ?_
 have I2:=Aq I1 (Tt A1 G1)
 refine Bq 2 7 q1 rfl rfl .plain (Aw (news:=[.bool M0.fe,A0]) B0 (.tl (.tl (.tl .hd))) rfl rfl rfl rfl rfl rfl (o2 rfl (AN I2))) (fun g7 p2 D2=>?_)
 obtain ⟨x4,X4⟩:=AG p2 (.one (.tl (.tl .hd)) (.one (.tl (.tl .hd)) .done))
 exact W2 () _ _ ⟨rfl,rfl,rfl,trivial⟩ ⟨x4,(Tt D2 X4)⟩
 have I2:=Aq I1 (Tt A1 G1)
 refine RO.now (m' :=5) (sk q1) rfl rfl .plain (Aw (news:=[.bool M0.fe,A0]) B0 (.tl (.tl (.tl .hd))) rfl rfl rfl rfl rfl rfl (o2 rfl (AN I2))) (fun g7 p2 D2=>?_)
 refine AC 1 7 8 q1 rfl R3 (AA rfl (p2.memA .hd)) rfl ?_
 obtain ⟨y4,Y4⟩:=AG p2 (.one (.tl (.tl .hd)) (.one (.tl (.tl .hd)) .done))
 exact W2 () _ _ ⟨rfl,rfl,rfl,trivial⟩ ⟨y4,(Tt D2 Y4)⟩
 intro z0
 refine BJ [6,11,12] (rk b0) ⟨?_,?_,?_,trivial⟩
 refine RO.call (m' :=1023) (fst:=[]) (cap:=[]) (sk b0) rfl .plain body167 rfl (e2 rfl rfl) (fun w9 hw9=>wardmoteref01_made_c n _ w9 (z1.hL hL hw9) (!(a0.fe == a1.fe)) t0.1 (Ap U1 hw9) V1) rfl (fun c8 J7 k5 ⟨K1,hu_,J1⟩=>?_)
 subst hu_
 obtain ⟨j2,D0⟩:=z1.agr k5
 refine BJ [10,11,12] (rk b0) ⟨?_,?_,?_,trivial⟩
 have b1:=Aq G0 D0
 refine RO.call (m' :=2047) (fst:=[]) (cap:=[]) (sk b0) rfl .plain body167 rfl (e2 rfl rfl) (fun w9 hw9=>wardmoteref01_made_c n _ w9 (j2.hL hL hw9) a0.fe t0.2 (Ap b1 hw9) I0) rfl (fun y2 x2 Z0 ⟨X0,hu_,V0⟩=>?_)
 subst hu_
 obtain ⟨R0,U0⟩:=j2.agr Z0
 refine BJ [11,12] (rk b0) ⟨?_,?_,trivial⟩
 refine RO.new (m' :=4095) (sk b0) rfl .plain rfl (Ar [.bool false,vN] R0) (fun v1 p0 j0 d0=>?_)
 refine RD.nu 12 8191 b0 rfl .plain rfl (Ar [.bool false,vN] j0) (fun u1 k0 g0 c0=>?_)
 obtain ⟨z4,k3⟩:=AG g0 (.one .hd (.one .hd (.one .hd (.one .hd (.one .hd .done)))))
 have C3:=Tt U0 (Tt d0 (Tt c0 k3))
 have F5:=Aq J1 C3
 have z6:=Tt d0 (Tt c0 k3)
 have G5:=Aq V0 z6
 exact z0 (K1,X0,k0,p0) _ _ ⟨rfl,rfl,rfl,rfl,rfl,rfl,rfl,trivial⟩ ⟨z4,(Tt D0 C3),F5,G5⟩
 refine RO.new (m' :=6143) (sk b0) rfl .plain rfl (Ar [.bool false,vN] R0) (fun u1 k0 g0 c0=>?_)
 refine RD.nu 11 8191 b0 rfl .plain rfl (Ar [.bool false,vN] g0) (fun v1 p0 j0 d0=>?_)
 obtain ⟨A4,p3⟩:=AG j0 (.one (.tl .hd) (.one .hd (.one .hd (.one .hd (.one .hd .done)))))
 have D3:=Tt U0 (Tt c0 (Tt d0 p3))
 have H5:=Aq J1 D3
 have A6:=Tt c0 (Tt d0 p3)
 have I5:=Aq V0 A6
 exact z0 (K1,X0,k0,p0) _ _ ⟨rfl,rfl,rfl,rfl,rfl,rfl,rfl,trivial⟩ ⟨A4,(Tt D0 D3),H5,I5⟩
 refine RO.new (m' :=3071) (sk b0) rfl .plain rfl (Ar [.bool false,vN] j2) (fun v1 p0 j0 d0=>?_)
 refine BJ [10,12] (rk b0) ⟨?_,?_,trivial⟩
 have b1:=Aq G0 (Tt D0 d0)
 refine RO.call (m' :=4095) (fst:=[]) (cap:=[]) (sk b0) rfl .plain body167 rfl (e2 rfl rfl) (fun w9 hw9=>wardmoteref01_made_c n _ w9 (j0.hL hL hw9) a0.fe t0.2 (Ap b1 hw9) I0) rfl (fun y2 x2 Z0 ⟨X0,hu_,V0⟩=>?_)
 subst hu_
 obtain ⟨R0,U0⟩:=j0.agr Z0
 refine RD.nu 12 8191 b0 rfl .plain rfl (Ar [.bool false,vN] R0) (fun u1 k0 g0 c0=>?_)
 obtain ⟨B4,q3⟩:=AG g0 (.one .hd (.one .hd (.one .hd (.one .hd (.one .hd .done)))))
 have E3:=Tt d0 (Tt U0 (Tt c0 q3))
 have J5:=Aq J1 E3
 have K5:=Aq V0 (Tt c0 q3)
 exact z0 (K1,X0,k0,p0) _ _ ⟨rfl,rfl,rfl,rfl,rfl,rfl,rfl,trivial⟩ ⟨B4,(Tt D0 E3),J5,K5⟩
 refine RO.new (m' :=7167) (sk b0) rfl .plain rfl (Ar [.bool false,vN] j0) (fun u1 k0 g0 c0=>?_)
 have y0:=Tt D0 (Tt d0 c0)
 have F0:=Aq G0 y0
 refine Bu 10 8191 b0 rfl .plain body167 rfl (e2 rfl rfl) (fun w9 hw9=>wardmoteref01_made_c n _ w9 (g0.hL hL hw9) a0.fe t0.2 (Ap F0 hw9) I0) rfl (fun Z1 Y1 E0 ⟨K0,hu_,H0⟩=>?_)
 subst hu_
 obtain ⟨C0,x0⟩:=g0.agr E0
 obtain ⟨C4,s3⟩:=AG C0 (.one .hd (.one .hd (.one .hd (.one .hd (.one .hd .done)))))
 have F3:=Tt d0 (Tt c0 (Tt x0 s3))
 have M5:=Aq J1 F3
 have P5:=Aq H0 s3
 exact z0 (K1,K0,k0,p0) _ _ ⟨rfl,rfl,rfl,rfl,rfl,rfl,rfl,trivial⟩ ⟨C4,(Tt D0 F3),M5,P5⟩
 refine RO.new (m' :=5119) (sk b0) rfl .plain rfl (Ar [.bool false,vN] j2) (fun u1 k0 g0 c0=>?_)
 refine BJ [10,11] (rk b0) ⟨?_,?_,trivial⟩
 have b1:=Aq G0 (Tt D0 c0)
 refine RO.call (m' :=6143) (fst:=[]) (cap:=[]) (sk b0) rfl .plain body167 rfl (e2 rfl rfl) (fun w9 hw9=>wardmoteref01_made_c n _ w9 (g0.hL hL hw9) a0.fe t0.2 (Ap b1 hw9) I0) rfl (fun y2 x2 Z0 ⟨X0,hu_,V0⟩=>?_)
 subst hu_
 obtain ⟨R0,U0⟩:=g0.agr Z0
 refine RD.nu 11 8191 b0 rfl .plain rfl (Ar [.bool false,vN] R0) (fun v1 p0 j0 d0=>?_)
 obtain ⟨D4,t3⟩:=AG j0 (.one (.tl .hd) (.one .hd (.one .hd (.one .hd (.one .hd .done)))))
 have G3:=Tt c0 (Tt U0 (Tt d0 t3))
 have Q5:=Aq J1 G3
 have R5:=Aq V0 (Tt d0 t3)
 exact z0 (K1,X0,k0,p0) _ _ ⟨rfl,rfl,rfl,rfl,rfl,rfl,rfl,trivial⟩ ⟨D4,(Tt D0 G3),Q5,R5⟩
 refine RO.new (m' :=7167) (sk b0) rfl .plain rfl (Ar [.bool false,vN] g0) (fun v1 p0 j0 d0=>?_)
 have y0:=Tt D0 (Tt c0 d0)
 have F0:=Aq G0 y0
 refine Bu 10 8191 b0 rfl .plain body167 rfl (e2 rfl rfl) (fun w9 hw9=>wardmoteref01_made_c n _ w9 (j0.hL hL hw9) a0.fe t0.2 (Ap F0 hw9) I0) rfl (fun Z1 Y1 E0 ⟨K0,hu_,H0⟩=>?_)
 subst hu_
 obtain ⟨C0,x0⟩:=j0.agr E0
 obtain ⟨E4,u3⟩:=AG C0 (.one (.tl .hd) (.one .hd (.one .hd (.one .hd (.one .hd .done)))))
 have H3:=Tt c0 (Tt d0 (Tt x0 u3))
 have U5:=Aq J1 H3
 have V5:=Aq H0 u3
 exact z0 (K1,K0,k0,p0) _ _ ⟨rfl,rfl,rfl,rfl,rfl,rfl,rfl,trivial⟩ ⟨E4,(Tt D0 H3),U5,V5⟩
 refine RO.new (m' :=3007) (sk b0) rfl .plain rfl (Ar [.bool false,vN] z1) (fun v1 p0 j0 d0=>?_)
 refine BJ [6,12] (rk b0) ⟨?_,?_,trivial⟩
 have C1:=Aq U1 d0
 refine RO.call (m' :=3071) (fst:=[]) (cap:=[]) (sk b0) rfl .plain body167 rfl (e2 rfl rfl) (fun w9 hw9=>wardmoteref01_made_c n _ w9 (j0.hL hL hw9) (!(a0.fe == a1.fe)) t0.1 (Ap C1 hw9) V1) rfl (fun M2 K2 B1 ⟨g1,hu_,c1⟩=>?_)
 subst hu_
 obtain ⟨u0,v0⟩:=j0.agr B1
 refine BJ [10,12] (rk b0) ⟨?_,?_,trivial⟩
 have b1:=Aq G0 (Tt d0 v0)
 refine RO.call (m' :=4095) (fst:=[]) (cap:=[]) (sk b0) rfl .plain body167 rfl (e2 rfl rfl) (fun w9 hw9=>wardmoteref01_made_c n _ w9 (u0.hL hL hw9) a0.fe t0.2 (Ap b1 hw9) I0) rfl (fun y2 x2 Z0 ⟨X0,hu_,V0⟩=>?_)
 subst hu_
 obtain ⟨R0,U0⟩:=u0.agr Z0
 refine RD.nu 12 8191 b0 rfl .plain rfl (Ar [.bool false,vN] R0) (fun u1 k0 g0 c0=>?_)
 obtain ⟨F4,v3⟩:=AG g0 (.one .hd (.one .hd (.one .hd (.one .hd (.one .hd .done)))))
 have I3:=Tt U0 (Tt c0 v3)
 have W5:=Aq c1 I3
 have X5:=Aq V0 (Tt c0 v3)
 have B6:=Tt d0 (Tt v0 I3)
 exact z0 (g1,X0,k0,p0) _ _ ⟨rfl,rfl,rfl,rfl,rfl,rfl,rfl,trivial⟩ ⟨F4,B6,W5,X5⟩
 refine RO.new (m' :=7167) (sk b0) rfl .plain rfl (Ar [.bool false,vN] u0) (fun u1 k0 g0 c0=>?_)
 have y0:=Tt d0 (Tt v0 c0)
 have F0:=Aq G0 y0
 refine Bu 10 8191 b0 rfl .plain body167 rfl (e2 rfl rfl) (fun w9 hw9=>wardmoteref01_made_c n _ w9 (g0.hL hL hw9) a0.fe t0.2 (Ap F0 hw9) I0) rfl (fun Z1 Y1 E0 ⟨K0,hu_,H0⟩=>?_)
 subst hu_
 obtain ⟨C0,x0⟩:=g0.agr E0
 obtain ⟨G4,x3⟩:=AG C0 (.one .hd (.one .hd (.one .hd (.one .hd (.one .hd .done)))))
 have J3:=Tt c0 (Tt x0 x3)
 have Y5:=Aq c1 J3
 have Z5:=Aq H0 x3
 have C6:=Tt d0 (Tt v0 J3)
 exact z0 (g1,K0,k0,p0) _ _ ⟨rfl,rfl,rfl,rfl,rfl,rfl,rfl,trivial⟩ ⟨G4,C6,Y5,Z5⟩
 refine RO.new (m' :=7103) (sk b0) rfl .plain rfl (Ar [.bool false,vN] j0) (fun u1 k0 g0 c0=>?_)
 have C1:=Aq U1 (Tt d0 c0)
 refine Bu 6 7167 b0 rfl .plain body167 rfl (e2 rfl rfl) (fun w9 hw9=>wardmoteref01_made_c n _ w9 (g0.hL hL hw9) (!(a0.fe == a1.fe)) t0.1 (Ap C1 hw9) V1) rfl (fun M2 K2 B1 ⟨g1,hu_,c1⟩=>?_)
 subst hu_
 obtain ⟨u0,v0⟩:=g0.agr B1
 have y0:=Tt d0 (Tt c0 v0)
 have F0:=Aq G0 y0
 refine Bu 10 8191 b0 rfl .plain body167 rfl (e2 rfl rfl) (fun w9 hw9=>wardmoteref01_made_c n _ w9 (u0.hL hL hw9) a0.fe t0.2 (Ap F0 hw9) I0) rfl (fun Z1 Y1 E0 ⟨K0,hu_,H0⟩=>?_)
 subst hu_
 obtain ⟨C0,x0⟩:=u0.agr E0
 obtain ⟨H4,E2⟩:=AG C0 (.one .hd (.one .hd (.one .hd (.one .hd (.one .hd .done)))))
 have b6:=Aq c1 (Tt x0 E2)
 have c6:=Aq H0 E2
 have D6:=Tt y0 (Tt x0 E2)
 exact z0 (g1,K0,k0,p0) _ _ ⟨rfl,rfl,rfl,rfl,rfl,rfl,rfl,trivial⟩ ⟨H4,D6,b6,c6⟩
 refine RO.new (m' :=5055) (sk b0) rfl .plain rfl (Ar [.bool false,vN] z1) (fun u1 k0 g0 c0=>?_)
 refine BJ [6,11] (rk b0) ⟨?_,?_,trivial⟩
 have C1:=Aq U1 c0
 refine RO.call (m' :=5119) (fst:=[]) (cap:=[]) (sk b0) rfl .plain body167 rfl (e2 rfl rfl) (fun w9 hw9=>wardmoteref01_made_c n _ w9 (g0.hL hL hw9) (!(a0.fe == a1.fe)) t0.1 (Ap C1 hw9) V1) rfl (fun M2 K2 B1 ⟨g1,hu_,c1⟩=>?_)
 subst hu_
 obtain ⟨u0,v0⟩:=g0.agr B1
 refine BJ [10,11] (rk b0) ⟨?_,?_,trivial⟩
 have b1:=Aq G0 (Tt c0 v0)
 refine RO.call (m' :=6143) (fst:=[]) (cap:=[]) (sk b0) rfl .plain body167 rfl (e2 rfl rfl) (fun w9 hw9=>wardmoteref01_made_c n _ w9 (u0.hL hL hw9) a0.fe t0.2 (Ap b1 hw9) I0) rfl (fun y2 x2 Z0 ⟨X0,hu_,V0⟩=>?_)
 subst hu_
 obtain ⟨R0,U0⟩:=u0.agr Z0
 refine RD.nu 11 8191 b0 rfl .plain rfl (Ar [.bool false,vN] R0) (fun v1 p0 j0 d0=>?_)
 obtain ⟨I4,y3⟩:=AG j0 (.one (.tl .hd) (.one .hd (.one .hd (.one .hd (.one .hd .done)))))
 have K3:=Tt U0 (Tt d0 y3)
 have d6:=Aq c1 K3
 have g6:=Aq V0 (Tt d0 y3)
 have E6:=Tt c0 (Tt v0 K3)
 exact z0 (g1,X0,k0,p0) _ _ ⟨rfl,rfl,rfl,rfl,rfl,rfl,rfl,trivial⟩ ⟨I4,E6,d6,g6⟩
 refine RO.new (m' :=7167) (sk b0) rfl .plain rfl (Ar [.bool false,vN] u0) (fun v1 p0 j0 d0=>?_)
 have y0:=Tt c0 (Tt v0 d0)
 have F0:=Aq G0 y0
 refine Bu 10 8191 b0 rfl .plain body167 rfl (e2 rfl rfl) (fun w9 hw9=>wardmoteref01_made_c n _ w9 (j0.hL hL hw9) a0.fe t0.2 (Ap F0 hw9) I0) rfl (fun Z1 Y1 E0 ⟨K0,hu_,H0⟩=>?_)
 subst hu_
 obtain ⟨C0,x0⟩:=j0.agr E0
 obtain ⟨J4,z3⟩:=AG C0 (.one (.tl .hd) (.one .hd (.one .hd (.one .hd (.one .hd .done)))))
 have M3:=Tt d0 (Tt x0 z3)
 have j6:=Aq c1 M3
 have k6:=Aq H0 z3
 have F6:=Tt c0 (Tt v0 M3)
 exact z0 (g1,K0,k0,p0) _ _ ⟨rfl,rfl,rfl,rfl,rfl,rfl,rfl,trivial⟩ ⟨J4,F6,j6,k6⟩
 refine RO.new (m' :=7103) (sk b0) rfl .plain rfl (Ar [.bool false,vN] g0) (fun v1 p0 j0 d0=>?_)
 have C1:=Aq U1 (Tt c0 d0)
 refine Bu 6 7167 b0 rfl .plain body167 rfl (e2 rfl rfl) (fun w9 hw9=>wardmoteref01_made_c n _ w9 (j0.hL hL hw9) (!(a0.fe == a1.fe)) t0.1 (Ap C1 hw9) V1) rfl (fun M2 K2 B1 ⟨g1,hu_,c1⟩=>?_)
 subst hu_
 obtain ⟨u0,v0⟩:=j0.agr B1
 have y0:=Tt c0 (Tt d0 v0)
 have F0:=Aq G0 y0
 refine Bu 10 8191 b0 rfl .plain body167 rfl (e2 rfl rfl) (fun w9 hw9=>wardmoteref01_made_c n _ w9 (u0.hL hL hw9) a0.fe t0.2 (Ap F0 hw9) I0) rfl (fun Z1 Y1 E0 ⟨K0,hu_,H0⟩=>?_)
 subst hu_
 obtain ⟨C0,x0⟩:=u0.agr E0
 obtain ⟨K4,F2⟩:=AG C0 (.one (.tl .hd) (.one .hd (.one .hd (.one .hd (.one .hd .done)))))
 have p6:=Aq c1 (Tt x0 F2)
 have q6:=Aq H0 F2
 have G6:=Tt y0 (Tt x0 F2)
 exact z0 (g1,K0,k0,p0) _ _ ⟨rfl,rfl,rfl,rfl,rfl,rfl,rfl,trivial⟩ ⟨K4,G6,p6,q6⟩
theorem body164:bodyB Tryz.prog 164 = true:=by kernel_rfl
theorem body166:bodyB Tryz.prog 166 = true:=by kernel_rfl
def wardmoteref02_Lowest_p (n:Nat) (a0:TLong175) (a1:TLong175):Option TRatio177:=
  (wardmoteref01_Divisor_p n a0 a1).bind fun b0=>jn (fun (d0,g0)=>(wardmoteref01_Parts_p n a0 (⟨d0,g0⟩:TLong175)).bind fun k0=>(wardmoteref01_Parts_p n a1 (⟨d0,g0⟩:TLong175)).bind fun p0=>some (⟨k0.1,p0.1⟩:TRatio177)) (fun c0=>(if a1.fe = true then (wardmoteref01_Turn_p n b0).bind fun j0=>c0 (j0.fe,j0.fD) else c0 (b0.fe,b0.fD)))
theorem wardmoteref02_Lowest_c (n:Nat) (L:List Nat) (w:World) (hL:∀ b ∈ L,b < w.heap.size) (a0:TLong175) {v0_1:Value} (h0_1:Rep.R w L [v0_1] a0.fD) (a1:TLong175) {v1_1:Value} (h1_1:Rep.R w L [v1_1] a1.fD)  {r:TRatio177} (h:wardmoteref02_Lowest_p n a0 a1 = some r) :
    Calls Tryz.prog 142 #[.agg #[.bool a0.fe,v0_1],.agg #[.bool a1.fe,v1_1]] w (Gives w fun w' u=>∃ v0_1 v0_3:Value,u = .agg #[.bool r.fN.fe,v0_1,.bool r.fD.fe,v0_3]∧Rep.R w' L [v0_1] r.fN.fD∧Rep.R w' L [v0_3] r.fD.fD):=by
 unfold wardmoteref02_Lowest_p at h
 have hS0:=Ay w
 refine AD Tryz.func142 rfl rfl rfl (fun _ cs0 hb0=>?_)
 refine Ac<|Ai .plain rfl (Av hS0 rfl rfl) (fun d3 s0 y1 Q2=>?_)
 refine Ai .plain rfl (Av y1 rfl rfl) (fun t3 t0 B1 R2=>?_)
 refine Ai .plain rfl (Ar [.bool false,vN,.bool false,vN] B1) (fun u3 u0 g0 U2=>?_)
 refine Aa<|Ac<|Ab (AA rfl (g0.memA (.tl (.tl .hd))))<|Ab (AA rfl (g0.memA (.tl .hd))) ?_
 obtain ⟨A0,y2,h⟩:=bi h
 refine Bf (fst:=[]) (cap:=[]) .plain body164 rfl (e2 rfl rfl) (fun w9 hw9=>wardmoteref01_Divisor_c n _ w9 (g0.hL hL hw9) a0 (g0.km h0_1 hw9) a1 (g0.km h1_1 hw9) y2) rfl (fun v3 Y2 Q1 ⟨R0,hu_,P0⟩=>?_)
 subst hu_
 obtain ⟨C1,V2⟩:=g0.agr Q1
 refine Ai .plain rfl (Ar [.bool false,vN] C1) (fun x3 v0 D1 H0=>?_)
 have d2:=Aq P0 H0
 refine AJ [.bool A0.fe,R0] D1 .hd (o2 rfl (AN d2)) (fun D2 x0 Z0=>?_)
 refine Aa<|Aj<|Ac<|AZ 0 rfl<|AY rfl ((x0.memA (.tl (.tl .hd))) 0 _ rfl)<|Aa<|MX.join (α:=Bool × (List Int) × Value) (fun ⟨b0,d0,c0⟩=>[(2,vP s0),(3,vP t0),(4,vP u0),(5,vP v0)]) (fun ⟨b0,d0,c0⟩ C0=>St w C0 [.cells v0 [.bool b0,c0] 176,.cells u0 [.bool false,vN,.bool false,vN] 178,.cells t0 [.bool a1.fe,v1_1] 176,.cells s0 [.bool a0.fe,v0_1] 176]∧Tr D2 [.cells v0 [.bool A0.fe,R0] 176,.cells u0 [.bool false,vN,.bool false,vN] 178,.cells t0 [.bool a1.fe,v1_1] 176,.cells s0 [.bool a0.fe,v0_1] 176] C0 [.cells v0 [.bool b0,c0] 176,.cells u0 [.bool false,vN,.bool false,vN] 178,.cells t0 [.bool a1.fe,v1_1] 176,.cells s0 [.bool a0.fe,v0_1] 176]∧Rep.R C0 (bl [.cells v0 [.bool b0,c0] 176,.cells u0 [.bool false,vN,.bool false,vN] 178,.cells t0 [.bool a1.fe,v1_1] 176,.cells s0 [.bool a0.fe,v0_1] 176] ++ L) [c0] d0) (fun ⟨b0,d0,c0⟩=>(b0,d0)) h ?_ ?_
 rintro ⟨b0,d0,c0⟩ C0 ⟨y0,W2,q1⟩ h
 try dsimp only at h
 refine Ac<|Ab (AA rfl (y0.memA (.tl (.tl (.tl .hd)))))<|Ab (AA rfl (y0.memA .hd)) ?_
 obtain ⟨p0,z2,h⟩:=bi h
 refine Bf (fst:=[]) (cap:=[]) .plain body166 rfl (e2 rfl rfl) (fun w9 hw9=>wardmoteref01_Parts_c n _ w9 (y0.hL hL hw9) a0 (y0.km h0_1 hw9) (⟨b0,d0⟩:TLong175) (Ap q1 hw9) z2) rfl (fun y3 Z2 R1 ⟨k0,C2,hu_,Q0,t2⟩=>?_)
 subst hu_
 obtain ⟨E1,M1⟩:=y0.agr R1
 refine Ae rfl<|Ab (Ah rfl rfl)<|Ab (Ah rfl rfl)<|Ai .plain rfl (Ar [.bool false,vN] E1) (fun z3 J2 F1 I0=>?_)
 refine Ai .plain rfl (Ar [.bool false,vN] F1) (fun A3 K2 G1 J0=>?_)
 have g2:=Aq Q0 (Tt I0 J0)
 refine AJ [.bool p0.1.fe,k0] G1 (.tl .hd) (o2 rfl (AN g2)) (fun B3 H1 b1=>?_)
 have k1:=Tt I0 (Tt J0 b1)
 have j2:=Aq t2 k1
 refine AJ [.bool p0.2.fe,C2] H1 .hd (o2 rfl (AN j2)) (fun C3 z0 c1=>?_)
 refine Aa<|Ac<|Ab (AA rfl (z0.memA (.tl (.tl (.tl (.tl .hd))))))<|Ab (AA rfl (z0.memA (.tl (.tl .hd)))) ?_
 obtain ⟨q0,A2,h⟩:=bi h
 have q2:=Tt M1 (Tt I0 (Tt J0 (Tt b1 c1)))
 have k2:=Aq q1 q2
 refine Bf (fst:=[]) (cap:=[]) .plain body166 rfl (e2 rfl rfl) (fun w9 hw9=>wardmoteref01_Parts_c n _ w9 (z0.hL hL hw9) a1 (z0.km h1_1 hw9) (⟨b0,d0⟩:TLong175) (Ap k2 hw9) A2) rfl (fun D3 b3 U1 ⟨j0,B2,hu_,M0,s2⟩=>?_)
 subst hu_
 obtain ⟨I1,J1⟩:=z0.agr U1
 refine Ae rfl<|Ab (Ah rfl rfl)<|Ab (Ah rfl rfl)<|Ai .plain rfl (Ar [.bool false,vN] I1) (fun c3 H2 u1 E0=>?_)
 refine Ai .plain rfl (Ar [.bool false,vN] u1) (fun g3 I2 v1 F0=>?_)
 have V1:=Aq M0 (Tt E0 F0)
 refine AJ [.bool q0.1.fe,j0] v1 (.tl .hd) (o2 rfl (AN V1)) (fun j3 x1 W0=>?_)
 have K0:=Tt E0 (Tt F0 W0)
 have W1:=Aq s2 K0
 refine AJ [.bool q0.2.fe,B2] x1 .hd (o2 rfl (AN W1)) (fun k3 D0 G0=>?_)
 refine Aa<|Ac<|Ab (AA rfl (D0.memA (.tl (.tl (.tl .hd)))))<|Ab (AA rfl (D0.memA (.tl .hd))) ?_
 have j1:=Tt k1 (Tt c1 (Tt J1 (Tt E0 (Tt F0 (Tt W0 G0)))))
 have d1:=Aq Q0 j1
 obtain ⟨E2,M2,u2,_⟩:=Rep.sl d1
 have g1:=Aq M0 (Tt K0 G0)
 obtain ⟨F2,P2,v2,_⟩:=Rep.sl g1
 refine Ab (AM (vs:=[.agg #[.bool p0.1.fe,k0],.agg #[.bool q0.1.fe,j0]]) (u:=.agg #[.bool p0.1.fe,k0,.bool q0.1.fe,j0]) (e2 rfl rfl) (fun w9=>by rw [u2,v2]; try kernel_rfl))<|AJ [.bool p0.1.fe,k0,.bool q0.1.fe,j0] D0 (.tl (.tl (.tl (.tl (.tl .hd))))) (o4 rfl (AN d1) rfl (AN g1)) (fun p3 B0 X0=>?_)
 refine Aa<|Al rfl<|Am hb0 Tryz.func142 rfl (.cons (.many (cs:=[.bool p0.1.fe,k0,.bool q0.1.fe,j0]) (by kernel_rfl) rfl (B0.memA (.tl (.tl (.tl (.tl (.tl .hd))))))) .nil) rfl ?_
 cases h
 have X1:=Aq Q0 (Tt j1 X0)
 have p2:=Tt K0 (Tt G0 X0)
 have Y1:=Aq M0 p2
 exact ⟨B0.ag,fun w9 hw9=>⟨k0,j0,rfl,B0.kd X1 hw9,B0.kd Y1 hw9⟩⟩
 intro G2 V0 h
 try dsimp only at h
 refine MX.ifb rfl h (fun t1 h=>?_) (fun t1 h=>?_)
 refine Ao<|Ab (AA rfl (x0.memA .hd)) ?_
 obtain ⟨U0,x2,h⟩:=bi h
 have Z1:=Aq P0 (Tt H0 Z0)
 refine Bf (fst:=[]) (cap:=[]) .plain body165 rfl (e1 rfl) (fun w9 hw9=>wardmoteref01_Turn_c n _ w9 (x0.hL hL hw9) A0 (Ap Z1 hw9) x2) rfl (fun q3 X2 P1 ⟨s1,hu_,p1⟩=>?_)
 subst hu_
 obtain ⟨z1,K1⟩:=x0.agr P1
 refine AJ [.bool U0.fe,s1] z1 .hd (o2 rfl (AN p1)) (fun s3 A1 Y0=>?_)
 refine Aa ?_
 have b2:=Aq p1 Y0
 exact V0 (U0.fe,U0.fD,s1) _ _ ⟨rfl,rfl,rfl,rfl,trivial⟩ ⟨A1,(Tt K1 Y0),b2⟩ h
 refine Au ?_
 have c2:=Aq P0 (Tt H0 Z0)
 exact V0 (A0.fe,A0.fD,R0) _ _ ⟨rfl,rfl,rfl,rfl,trivial⟩ ⟨x0,AQ _ _,c2⟩ h
theorem body142:bodyB Tryz.prog 142 = true:=by kernel_rfl
def wardmoteref02_Quick_p (n:Nat) (a0:Int) (a1:Int):Option TRatio177:=
  (wardmoteref01_Long1_p n a0).bind fun b0=>(wardmoteref01_Long1_p n a1).bind fun c0=>(wardmoteref02_Lowest_p n b0 c0).bind fun d0=>some d0
theorem wardmoteref02_Quick_c (n:Nat) (L:List Nat) (w:World) (hL:∀ b ∈ L,b < w.heap.size) (a0:Int) (a1:Int)  {r:TRatio177} (h:wardmoteref02_Quick_p n a0 a1 = some r) :
    Calls Tryz.prog 120 #[vI a0,vI a1] w (Gives w fun w' u=>∃ v0_1 v0_3:Value,u = .agg #[.bool r.fN.fe,v0_1,.bool r.fD.fe,v0_3]∧Rep.R w' L [v0_1] r.fN.fD∧Rep.R w' L [v0_3] r.fD.fD):=by
 unfold wardmoteref02_Quick_p at h
 have hS0:=Ay w
 refine AD Tryz.func120 rfl rfl rfl (fun _ cs0 hb0=>?_)
 refine Ac<|Ai .plain rfl (Ar [.bool false,vN,.bool false,vN] hS0) (fun Y0 K0 j0 M0=>?_)
 refine Aa<|Ac<|Ae rfl ?_
 obtain ⟨I0,F0,h⟩:=bi h
 refine Bf (fst:=[]) (cap:=[]) .plain body143 rfl (e1 rfl) (fun w9 hw9=>wardmoteref01_Long1_c n _ w9 (j0.hL hL hw9) a0 F0) rfl (fun Z0 V0 x0 ⟨R0,hu_,D0⟩=>?_)
 subst hu_
 obtain ⟨k0,P0⟩:=j0.agr x0
 refine Ae rfl ?_
 obtain ⟨J0,G0,h⟩:=bi h
 refine Bf (fst:=[]) (cap:=[]) .plain body143 rfl (e1 rfl) (fun w9 hw9=>wardmoteref01_Long1_c n _ w9 (k0.hL hL hw9) a1 G0) rfl (fun b1 W0 y0 ⟨U0,hu_,E0⟩=>?_)
 subst hu_
 obtain ⟨p0,v0⟩:=k0.agr y0
 obtain ⟨c0,H0,h⟩:=bi h
 have A0:=Aq D0 v0
 refine Bf (fst:=[]) (cap:=[]) .plain body142 rfl (e2 rfl rfl) (fun w9 hw9=>wardmoteref02_Lowest_c n _ w9 (p0.hL hL hw9) I0 (Ap A0 hw9) J0 (Ap E0 hw9) H0) rfl (fun c1 X0 z0 ⟨d0,g0,hu_,s0,t0⟩=>?_)
 subst hu_
 obtain ⟨u0,Q0⟩:=p0.agr z0
 refine AJ [.bool c0.fN.fe,d0,.bool c0.fD.fe,g0] u0 .hd (o4 rfl (AN s0) rfl (AN t0)) (fun d1 b0 q0=>?_)
 refine Aa<|Al rfl<|Am hb0 Tryz.func120 rfl (.cons (.many (cs:=[.bool c0.fN.fe,d0,.bool c0.fD.fe,g0]) (by kernel_rfl) rfl (b0.memA .hd)) .nil) rfl ?_
 cases h
 have B0:=Aq s0 q0
 have C0:=Aq t0 q0
 exact ⟨b0.ag,fun w9 hw9=>⟨d0,g0,rfl,b0.kd B0 hw9,b0.kd C0 hw9⟩⟩
theorem body119:bodyB Tryz.prog 119 = true:=by kernel_rfl
theorem body120:bodyB Tryz.prog 120 = true:=by kernel_rfl
def wardmoteref02_Of_p (n:Nat) (a0:Int) (a1:Int):Option (TShare × Int):=
  (if a1 = 0 then some ((⟨((0:UInt64),(0:UInt64),(0:UInt64),(0:UInt64),(0:UInt64),(0:UInt64),(0:UInt64),(0:UInt64)),((0:UInt64),(0:UInt64),(0:UInt64),(0:UInt64),(0:UInt64),(0:UInt64),(0:UInt64),(0:UInt64))⟩:TShare),(7:Int)) else (wardmoteref02_Quick_p n a0 a1).bind fun c0=>(wardmoteref02_Out_p n c0).bind fun b0=>some (b0.1,b0.2))
theorem wardmoteref02_Of_c (n:Nat) (L:List Nat) (w:World) (hL:∀ b ∈ L,b < w.heap.size) (a0:Int) (a1:Int)  {r:TShare × Int} (h:wardmoteref02_Of_p n a0 a1 = some r) :
    Calls Tryz.prog 92 #[vI a0,vI a1] w (Gives w fun _ u=>u = .tuple #[.agg ((cs_TShare r.1)).toArray,vI r.2]):=by
 unfold wardmoteref02_Of_p at h
 have hS0:=Ay w
 refine AD Tryz.func92 rfl rfl rfl (fun _ cs0 hb0=>?_)
 refine Ac<|Ai .plain rfl (Ar zL hS0) (fun F0 x0 d0 y0=>?_)
 refine Af rfl<|Aa<|Aj<|Ac<|Ae rfl<|Ab (FV.eql (i:=a1) (j:=0) rfl rfl)<|Aa<|AV rfl h (fun k0 h=>?_) (fun k0 h=>?_)
 refine Ac<|Ab (AM (vs:=[]) (u:=.agg zM) evs_nil (fun w9=>by kernel_rfl))<|AJ zL d0 .hd (onesB rfl) (fun G0 g0 z0=>?_)
 refine Af rfl<|Aa<|Al rfl<|Am hb0 Tryz.func92 rfl (.cons (.many (cs:=zL) (by kernel_rfl) rfl (g0.memA .hd)) (.cons (.tmp rfl) .nil)) rfl ?_
 cases h
 exact g0.gv
 refine Au<|Ac<|Ae rfl<|Ae rfl ?_
 obtain ⟨v0,t0,h⟩:=bi h
 refine Bf (fst:=[]) (cap:=[]) .plain body120 rfl (e2 rfl rfl) (fun w9 hw9=>wardmoteref02_Quick_c n _ w9 (d0.hL hL hw9) a0 a1 t0) rfl (fun H0 E0 p0 ⟨C0,D0,hu_,q0,s0⟩=>?_)
 subst hu_
 obtain ⟨b0,A0⟩:=d0.agr p0
 obtain ⟨c0,u0,h⟩:=bi h
 refine Bg (.tuple #[.agg ((cs_TShare c0.1)).toArray,vI c0.2]) body119 rfl (e1 rfl) (fun w9 hw9=>wardmoteref02_Out_c n _ w9 (b0.hL0 hL hw9) v0 (b0.kd q0 hw9) (b0.kd s0 hw9) u0) rfl<|Ab (Ah rfl rfl)<|Ab (Ah rfl rfl)<|AJ (cs_TShare c0.1) b0 .hd (onesB rfl) (fun I0 j0 B0=>?_)
 refine Af rfl<|Aa<|Al rfl<|Am hb0 Tryz.func92 rfl (.cons (.many (cs:=(cs_TShare c0.1)) (by kernel_rfl) rfl (j0.memA .hd)) (.cons (.tmp rfl) .nil)) rfl ?_
 cases h
 exact j0.gv
theorem body92:bodyB Tryz.prog 92 = true:=by kernel_rfl
def wardmoteref22_Of_p (n:Nat) (a0:Int) (a1:Int):Option TShare:=
  (wardmoteref02_Of_p n a0 a1).bind fun b0=>some b0.1
theorem wardmoteref22_Of_c (n:Nat) (L:List Nat) (w:World) (hL:∀ b ∈ L,b < w.heap.size) (a0:Int) (a1:Int)  {r:TShare} (h:wardmoteref22_Of_p n a0 a1 = some r) :
    Calls Tryz.prog 45 #[vI a0,vI a1] w (Gives w fun _ u=>u = .agg ((cs_TShare r)).toArray):=by
 unfold wardmoteref22_Of_p at h
 have hS0:=Ay w
 refine AD Tryz.func45 rfl rfl rfl (fun _ cs0 hb0=>?_)
 refine Ac<|Ai .plain rfl (Ar zL hS0) (fun x0 p0 c0 s0=>?_)
 refine Aa<|Ac<|Ae rfl<|Ae rfl ?_
 obtain ⟨b0,k0,h⟩:=bi h
 refine Bg (.tuple #[.agg ((cs_TShare b0.1)).toArray,vI b0.2]) body92 rfl (e2 rfl rfl) (fun w9 hw9=>wardmoteref02_Of_c n _ w9 (c0.hL0 hL hw9) a0 a1 k0) rfl<|Ae rfl<|Ab (Ah rfl rfl)<|Ab (Ah rfl rfl)<|Ai .plain rfl (Ar zL c0) (fun y0 q0 j0 t0=>?_)
 refine AJ (cs_TShare b0.1) j0 .hd (onesB rfl) (fun z0 d0 u0=>?_)
 refine Af rfl<|Aa<|Ac<|Ab (AA rfl (d0.memA .hd))<|AJ (cs_TShare b0.1) d0 (.tl .hd) (onesB rfl) (fun A0 g0 v0=>?_)
 refine Aa<|Al rfl<|Am hb0 Tryz.func45 rfl (.cons (.many (cs:=(cs_TShare b0.1)) (by kernel_rfl) rfl (g0.memA (.tl .hd))) .nil) rfl ?_
 cases h
 exact g0.gv
structure TPart where
  fN:Int16
  fD:UInt8
  deriving DecidableEq
instance:Rep TPart:=Rep.via (β:=Int16 × UInt8) fun x=>(x.fN,x.fD)
def tb14_4:List (Nat × Nat × Nat):=[(0,2048,8),(0,4096,2),(2,8192,4096),(4,16384,8192),(8,32768,16384),(17,65536,34816),(0,131072,2),(64,262144,131072),(128,524288,262144),(256,1048576,524288),(544,2097152,1114112),(2047,0,2097156)]
theorem body45:bodyB Tryz.prog 45 = true:=by kernel_rfl
def wardmoteref22_Part_Unit_p (n:Nat) (a0:TPart):Option TShare:=
  jn (fun g0=>(remI g0 ((a0.fD.toNat + 2:Nat):Int)).bind fun c0=>(wardmoteref22_Of_p n c0 ((1 + a0.fD.toNat:Nat):Int)).bind fun d0=>some d0) (fun b0=>(if a0.fN.toInt < 0 then b0 ((-1) - a0.fN.toInt) else b0 a0.fN.toInt))
theorem wardmoteref22_Part_Unit_c (n:Nat) (L:List Nat) (w:World) (hL:∀ b ∈ L,b < w.heap.size) (a0:TPart)  {r:TShare} (h:wardmoteref22_Part_Unit_p n a0 = some r) :
    Calls Tryz.prog 14 #[.agg #[.int .i16 a0.fN.toInt,.int .u8 (a0.fD.toNat:Int)]] w (Gives w fun _ u=>u = .agg ((cs_TShare r)).toArray):=by
 unfold wardmoteref22_Part_Unit_p at h
 have hS0:=Ay w
 refine AD Tryz.func14 rfl rfl rfl (fun _ cs0 hb0=>?_)
 refine Ac<|Ai .plain rfl (Av hS0 rfl rfl) (fun M0 g0 x0 D0=>?_)
 refine Ai .plain rfl (Ar zL x0) (fun B0 j0 p0 E0=>?_)
 refine Aa<|Ac<|AZ 0 rfl<|AY rfl ((p0.memA (.tl .hd)) 0 _ rfl) ?_
 have H0:=Int16.le_toInt a0.fN
 have I0:=Int16.toInt_lt a0.fN
 refine Ab (FV.convI16 (i:=a0.fN) Tryz.underlying28 Tryz.underlying3 rfl)<|Af rfl<|Aa<|Aj<|Ac<|Ae rfl<|Ab (FV.lss (i:=a0.fN.toInt) (j:=0) rfl rfl)<|Aa<|MX.join (α:=Int) (fun d0=>[(1,vP g0),(2,vP j0),(3,vI d0)]) (fun d0 q0=>St w q0 [.cells j0 zL 53,.cells g0 [.int .i16 a0.fN.toInt,.int .u8 (a0.fD.toNat:Int)] 30]∧Tr B0 [.cells j0 zL 53,.cells g0 [.int .i16 a0.fN.toInt,.int .u8 (a0.fD.toNat:Int)] 30] q0 [.cells j0 zL 53,.cells g0 [.int .i16 a0.fN.toInt,.int .u8 (a0.fD.toNat:Int)] 30]) (fun d0=>d0) h ?_ ?_
 rintro d0 q0 ⟨k0,F0⟩ h
 try dsimp only at h
 refine Aj<|dt 11 tb14_4 (fun b0 c0=>?_)
 refine Ag 0 1 b0 rfl c0 (fun _=>Ak rfl) rfl<|Ag 1 3 b0 rfl c0 (fun _=>AX 1 rfl) rfl<|AC 2 7 3128 b0 rfl c0 (AL rfl ((k0.memA (.tl .hd)) 1 _ rfl)) rfl ?_
 have J0:=a0.fD.toNat_lt
 refine Ag 3 15 b0 rfl c0 (fun _=>FV.convN (i:=a0.fD.toNat) Tryz.underlying5 Tryz.underlying3 rfl (by omega)) rfl<|Ag 4 31 b0 rfl c0 (fun _=>Bl (i:=a0.fD.toNat) (j:=2) rfl rfl (by omega)) rfl ?_
 obtain ⟨A0,y0,h⟩:=bi h
 refine Ag 5 63 b0 rfl c0 (fun _=>FV.remc (i:=d0) (j:=((a0.fD.toNat + 2:Nat):Int)) rfl rfl y0) rfl<|Ag 6 127 b0 rfl c0 (fun _=>AX 1 rfl) rfl<|AC 7 255 3840 b0 rfl c0 (AL rfl ((k0.memA (.tl .hd)) 1 _ rfl)) rfl ?_
 have K0:=a0.fD.toNat_lt
 refine Ag 8 511 b0 rfl c0 (fun _=>FV.convN (i:=a0.fD.toNat) Tryz.underlying5 Tryz.underlying3 rfl (by omega)) rfl<|Ag 9 1023 b0 rfl c0 (fun _=>Bl (i:=1) (j:=a0.fD.toNat) rfl rfl (by omega)) rfl ?_
 obtain ⟨s0,z0,h⟩:=bi h
 refine BA 10 2047 2048 (.agg ((cs_TShare s0)).toArray) b0 rfl c0 body45 rfl (e2 rfl rfl) (fun w9 hw9=>wardmoteref22_Of_c n _ w9 (k0.hL0 hL hw9) A0 ((1 + a0.fD.toNat:Nat):Int) z0) rfl<|Bq 11 4095 b0 rfl rfl .plain (Aw (news:=(cs_TShare s0)) k0 .hd rfl rfl rfl rfl rfl rfl (onesB rfl)) (fun P0 u0 G0=>?_)
 refine AE (dk b0)<|Al rfl<|Am hb0 Tryz.func14 rfl (.cons (.many (cs:=(cs_TShare s0)) (by kernel_rfl) rfl (u0.memA .hd)) .nil) rfl ?_
 cases h
 exact u0.gv
 intro C0 t0 h
 try dsimp only at h
 refine AV rfl h (fun v0 h=>?_) (fun v0 h=>?_)
 refine Ao<|Ae rfl<|Ab (FV.subI (i:=(-1)) (j:=a0.fN.toInt) rfl rfl (by omega))<|Af rfl<|Aa ?_
 exact t0 ((-1) - a0.fN.toInt) _ _ ⟨rfl,rfl,rfl,trivial⟩ ⟨p0,AQ _ _⟩ h
 refine Au ?_
 exact t0 a0.fN.toInt _ _ ⟨rfl,rfl,rfl,trivial⟩ ⟨p0,AQ _ _⟩ h
def slices_Index_int_int_l1 (_n:Nat) (a0:List Int) (a1:Int) (c0:Nat → Option (Int ⊕ Unit)):Nat → Option (Int ⊕ Unit)
  | b0=>(if b0 < a0.length then (a0[b0]?).bind fun d0=>(if a1 = d0 then some (.inl ((b0:Nat):Int)) else c0 (b0 + 1)) else some (.inr ()))
def slices_Index_int_int_p (n:Nat) (a0:List Int) (a1:Int):Option Int:=
  thn (loopF (slices_Index_int_int_l1 n a0 a1) n 0) (fun _=>some (-1:Int))
theorem slices_Index_int_int_c (n:Nat) (L:List Nat) (w:World) (_hL:∀ b ∈ L,b < w.heap.size) (a0:List Int) {v0_0:Value} (h0_0:Rep.R w L [v0_0] a0) (a1:Int)  {r:Int} (h:slices_Index_int_int_p n a0 a1 = some r) :
    Calls Tryz.prog 53 #[v0_0,vI a1] w (Gives w fun _ u=>u = vI r):=by
 unfold slices_Index_int_int_p at h
 have hS0:=Ay w
 refine AD Tryz.func53 rfl rfl rfl (fun _ cs0 hb0=>?_)
 refine Ac<|Af rfl<|Aa<|Aj<|Ac<|Ae rfl ?_
 have hl1:a0.length ≤ 281474976710656:=AU h0_0
 refine Ab (Bd (xs:=a0) Tryz.underlying32 rfl h0_0)<|Ae rfl<|Aa<|Az ?_
 obtain ⟨G0,A0,g0⟩:=thn_in h
 refine Bm (α:=Nat) (fun b0=>[(0,v0_0),(1,vI a1),(7,vI ((a0.length:Nat):Int)),(8,vI ((b0:Nat):Int))]) (fun b0 d0=>St w d0 []∧Tr w [] d0 []) (fun b0=>b0) 0 A0 ⟨rfl,rfl,rfl,rfl,trivial⟩ ⟨hS0,AQ _ _⟩ ?_
 rintro E0 b0 d0 s0 ⟨c0,t0⟩ h
 unfold slices_Index_int_int_l1 at h
 try dsimp only at h
 refine Ac<|Ab (Br (i:=b0) (j:=a0.length) rfl rfl)<|Aa<|Aj<|AV rfl h (fun k0 h=>?_) (fun k0 h=>?_)
 refine Au<|Aj<|Az<|Ac<|Ae rfl<|Af rfl<|Aa<|Ac<|Ae rfl<|Ae rfl<|Ae rfl ?_
 obtain ⟨j0,C0,h⟩:=bi h
 have z0:=AO h0_0 c0
 obtain ⟨D0,F0,u0,x0,q0,B0,y0⟩:=Bk z0 C0
 have v0:q0 = [vI j0]:=B0; subst v0
 refine Ab (Bp 1 b0 rfl u0 rfl rfl x0)<|AY rfl (y0 0 _ rfl)<|Ab (FV.eql (i:=a1) (j:=j0) rfl rfl)<|Aa<|AV rfl h (fun p0 h=>?_) (fun p0 h=>?_)
 refine Ac<|Ae rfl<|Af rfl<|Aa ?_
 have h:=thn_inl h g0
 refine Al rfl<|Bb hb0 Tryz.func53 rfl rfl ?_
 cases h
 exact c0.gv
 refine Au<|AB<|Ao<|Ab (Bl (i:=b0) (j:=1) rfl rfl (by omega))<|Ae rfl<|Aa ?_
 exact s0 (b0 + 1) _ _ ⟨rfl,rfl,rfl,rfl,trivial⟩ ⟨c0,t0⟩ h
 refine Be rfl ?_
 have h:=thn_inr h g0
 try dsimp only at h
 refine Ac<|Af rfl<|Aa<|Al rfl<|Bb hb0 Tryz.func53 rfl rfl ?_
 cases h
 exact c0.gv
theorem body53:bodyB Tryz.prog 53 = true:=by kernel_rfl
def slices_Contains_int_int_p (n:Nat) (a0:List Int) (a1:Int):Option Bool:=
  (slices_Index_int_int_p n a0 a1).bind fun y1=>some (decide (0 ≤ y1))
theorem slices_Contains_int_int_c (n:Nat) (L:List Nat) (w:World) (hL:∀ b ∈ L,b < w.heap.size) (a0:List Int) {v0_0:Value} (h0_0:Rep.R w L [v0_0] a0) (a1:Int)  {r:Bool} (h:slices_Contains_int_int_p n a0 a1 = some r) :
    Calls Tryz.prog 16 #[v0_0,vI a1] w (Gives w fun _ u=>u = .bool r):=by
 unfold slices_Contains_int_int_p at h
 have hS0:=Ay w
 refine AD Tryz.func16 rfl rfl rfl (fun _ cs0 hb0=>?_)
 refine Ac<|Af rfl<|Aa<|Ac<|Ae rfl<|Ae rfl ?_
 obtain ⟨y1,hy1,h⟩:=bi h
 refine Bg (vI y1) body53 rfl (e2 rfl rfl) (fun w9 hw9=>slices_Index_int_int_c n _ w9 (hS0.hL0 hL hw9) a0 (hS0.kd h0_0 hw9) a1 hy1) rfl<|Ab (FV.geq (i:=y1) (j:=0) rfl rfl)<|Af rfl<|Aa<|Al rfl<|Bb hb0 Tryz.func16 rfl rfl ?_
 cases h
 exact hS0.gv
def cmp_isNaN_int_p (_n:Nat) (a0:Int):Option Bool:=
  some (!(decide (a0 = a0)))
theorem cmp_isNaN_int_c (n:Nat) (L:List Nat) (w:World) (_hL:∀ b ∈ L,b < w.heap.size) (a0:Int)  {r:Bool} (h:cmp_isNaN_int_p n a0 = some r) :
    Calls Tryz.prog 99 #[vI a0] w (Gives w fun _ u=>u = .bool r):=by
 unfold cmp_isNaN_int_p at h
 have hS0:=Ay w
 refine AD Tryz.func99 rfl rfl rfl (fun _ cs0 hb0=>?_)
 refine Ac<|Af rfl<|Aa<|Ac<|Ae rfl<|Ae rfl<|Ab (FV.neq (i:=a0) (j:=a0) rfl rfl)<|Af rfl<|Aa<|Al rfl<|Bb hb0 Tryz.func99 rfl rfl ?_
 cases h
 exact hS0.gv
theorem body99:bodyB Tryz.prog 99 = true:=by kernel_rfl
def cmp_Less_int_p (n:Nat) (a0:Int) (a1:Int):Option Bool:=
  (cmp_isNaN_int_p n a0).bind fun y1=>(if y1 = true then (cmp_isNaN_int_p n a1).bind fun y3=>(if y3 = true then some (decide (a0 < a1)) else some true) else some (decide (a0 < a1)))
theorem cmp_Less_int_c (n:Nat) (L:List Nat) (w:World) (hL:∀ b ∈ L,b < w.heap.size) (a0:Int) (a1:Int)  {r:Bool} (h:cmp_Less_int_p n a0 a1 = some r) :
    Calls Tryz.prog 54 #[vI a0,vI a1] w (Gives w fun _ u=>u = .bool r):=by
 unfold cmp_Less_int_p at h
 have hS0:=Ay w
 refine AD Tryz.func54 rfl rfl rfl (fun _ cs0 hb0=>?_)
 refine Ac<|Af rfl<|Aa<|Ac<|Ae rfl ?_
 obtain ⟨y1,hy1,h⟩:=bi h
 refine Bg (.bool y1) body99 rfl (e1 rfl) (fun w9 hw9=>cmp_isNaN_int_c n _ w9 (hS0.hL0 hL hw9) a0 hy1) rfl<|Ae rfl<|RG.ifb (s:=7) rfl h (fun c2 h=>?_) (fun c2 h=>?_)
 refine AS (Ak rfl) ?_
 obtain ⟨y3,hy3,h⟩:=bi h
 refine RG.callq' (v:=.bool y3) (fst:=[]) (cap:=[]) (.yes rfl rfl) body99 rfl (e1 rfl) (fun w9 hw9=>cmp_isNaN_int_c n _ w9 (hS0.hL0 hL hw9) a1 hy3) rfl<|AS (BG rfl)<|BI rfl rfl<|Ae rfl<|RG.ifnb (s:=12) rfl h (fun c4 h=>?_) (fun c4 h=>?_)
 refine AS (Ak rfl)<|AS (Ak rfl)<|AS (FV.lss (i:=a0) (j:=a1) rfl rfl)<|RG.pf rfl rfl<|Af rfl<|Aa<|Al rfl<|Bb hb0 Tryz.func54 rfl rfl ?_
 cases h
 exact hS0.gv
 refine AI<|AI<|AI<|BI rfl rfl<|Af rfl<|Aa<|Al rfl<|Bb hb0 Tryz.func54 rfl rfl ?_
 cases h
 exact hS0.gv
 refine AI<|AI<|AI<|RG.pf rfl rfl<|Ae rfl<|AS (Ak rfl)<|AS (Ak rfl)<|AS (FV.lss (i:=a0) (j:=a1) rfl rfl)<|RG.pf rfl rfl<|Af rfl<|Aa<|Al rfl<|Bb hb0 Tryz.func54 rfl rfl ?_
 cases h
 exact hS0.gv
def tb17_4:List (Nat × Nat × Nat):=[(0,2048,1),(0,4096,8),(3,8192,6144),(4,16384,8192),(0,32768,1),(0,65536,8),(32,131072,65536),(80,262144,163840),(128,524288,262144),(264,1048576,540672)]
theorem body54:bodyB Tryz.prog 54 = true:=by kernel_rfl
def slices_IsSorted_int_int_l1 (n:Nat) (a0:List Int) (c0:Int → Option (Bool ⊕ Unit)):Int → Option (Bool ⊕ Unit)
  | b0=>(if 0 < b0 then (idx a0 b0).bind fun j0=>(chk (b0 - 1)).bind fun d0=>(idx a0 d0).bind fun k0=>(cmp_Less_int_p n j0 k0).bind fun p0=>(if p0 = true then some (.inl false) else (chk (b0 - 1)).bind fun g0=>c0 g0) else some (.inr ()))
def slices_IsSorted_int_int_p (n:Nat) (a0:List Int):Option Bool:=
  thn (loopF (slices_IsSorted_int_int_l1 n a0) n (((a0.length:Nat):Int) - 1)) (fun _=>some true)
theorem slices_IsSorted_int_int_c (n:Nat) (L:List Nat) (w:World) (hL:∀ b ∈ L,b < w.heap.size) (a0:List Int) {v0_0:Value} (h0_0:Rep.R w L [v0_0] a0)  {r:Bool} (h:slices_IsSorted_int_int_p n a0 = some r) :
    Calls Tryz.prog 17 #[v0_0] w (Gives w fun _ u=>u = .bool r):=by
 unfold slices_IsSorted_int_int_p at h
 have hS0:=Ay w
 refine AD Tryz.func17 rfl rfl rfl (fun _ cs0 hb0=>?_)
 refine Ac<|Af rfl<|Aa<|Aj<|Ac<|Ae rfl ?_
 have hl1:a0.length ≤ 281474976710656:=AU h0_0
 refine Ab (Bd (xs:=a0) Tryz.underlying32 rfl h0_0)<|Ab (FV.subI (i:=((a0.length:Nat):Int)) (j:=1) rfl rfl (by omega))<|Af rfl<|Aa<|Az ?_
 obtain ⟨q1,K0,k0⟩:=thn_in h
 refine Bm (α:=Int) (fun d0=>[(0,v0_0),(3,vI d0)]) (fun d0 j0=>St w j0 []∧Tr w [] j0 []) (fun d0=>d0) (((a0.length:Nat):Int) - 1) K0 ⟨rfl,rfl,trivial⟩ ⟨hS0,AQ _ _⟩ ?_
 rintro j1 d0 j0 y0 ⟨g0,z0⟩ h
 unfold slices_IsSorted_int_int_l1 at h
 try dsimp only at h
 refine Aj<|Ac<|Ae rfl<|Ab (FV.gtr (i:=d0) (j:=0) rfl rfl)<|Aa<|AV rfl h (fun t0 h=>?_) (fun t0 h=>?_)
 refine Au<|Aj<|Az<|Aj<|dt 10 tb17_4 (fun b0 c0=>?_)
 refine Ag 0 1 b0 rfl c0 (fun _=>Ak rfl) rfl<|Ag 1 3 b0 rfl c0 (fun _=>Ak rfl) rfl ?_
 obtain ⟨q0,U0,h⟩:=bi h
 obtain ⟨E0,V0⟩:=idx_in U0
 have p0:=AO h0_0 g0
 obtain ⟨d1,k1,A0,G0,v0,M0,I0⟩:=Bk p0 V0
 have B0:v0 = [vI q0]:=M0; subst B0
 refine Ag 2 7 b0 rfl c0 (fun _=>Bp 1 (d0.toNat) rfl A0 rfl E0 G0) rfl<|AC 3 15 512 b0 rfl c0 (AL rfl (I0 0 _ rfl)) rfl<|Ag 4 31 b0 rfl c0 (fun _=>Ak rfl) rfl<|Ag 5 63 b0 rfl c0 (fun _=>Ak rfl) rfl ?_
 obtain ⟨Z0,Q0,h⟩:=bi h
 refine Ag 6 127 b0 rfl c0 (fun _=>FV.subc (i:=d0) (j:=1) rfl rfl Q0) rfl ?_
 obtain ⟨s0,W0,h⟩:=bi h
 obtain ⟨F0,X0⟩:=idx_in W0
 obtain ⟨g1,p1,C0,H0,x0,P0,J0⟩:=Bk p0 X0
 have D0:x0 = [vI s0]:=P0; subst D0
 refine Ag 7 255 b0 rfl c0 (fun _=>Bp 1 (Z0.toNat) rfl C0 rfl F0 H0) rfl<|AC 8 511 512 b0 rfl c0 (AL rfl (J0 0 _ rfl)) rfl ?_
 obtain ⟨c1,Y0,h⟩:=bi h
 refine BA 9 1023 0 (.bool c1) b0 rfl c0 body54 rfl (e2 rfl rfl) (fun w9 hw9=>cmp_Less_int_c n _ w9 (g0.hL0 hL hw9) q0 s0 Y0) rfl<|AE (dk b0)<|MX.ifb rfl h (fun u0 h=>?_) (fun u0 h=>?_)
 refine Ac<|Af rfl<|Aa ?_
 have h:=thn_inl h k0
 refine Al rfl<|Bb hb0 Tryz.func17 rfl rfl ?_
 cases h
 exact g0.gv
 refine Au<|AB<|Ao<|Ae rfl ?_
 obtain ⟨b1,R0,h⟩:=bi h
 refine Ab (FV.subc (i:=d0) (j:=1) rfl rfl R0)<|Af rfl<|Aa ?_
 exact y0 b1 _ _ ⟨rfl,rfl,trivial⟩ ⟨g0,z0⟩ h
 refine Be rfl ?_
 have h:=thn_inr h k0
 try dsimp only at h
 refine Ac<|Af rfl<|Aa<|Al rfl<|Bb hb0 Tryz.func17 rfl rfl ?_
 cases h
 exact g0.gv
end Go.Proofs.YtichhhehkcfoaaaGreatDoor
