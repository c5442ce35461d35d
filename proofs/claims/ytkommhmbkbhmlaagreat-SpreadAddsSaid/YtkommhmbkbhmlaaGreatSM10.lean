import Derived.Test.YtkommhmbkbhmlaaGreatSM8
namespace Go.Proofs.YtkommhmbkbhmlaaGreat
open Go Go.RowKit Tryz
set_option maxRecDepth 4000
set_option maxHeartbeats 4000000

def aD_l1 (n:Nat) (d0:(List Int) × (List Int) -> Option (List Int)):(List Int) × (List Int) -> Option (List Int)
  | (c0,b0)=>(if 0 < b0.length then (aw_p n c0 b0).bind fun g0=>d0 (b0,g0.2) else some c0)
def aD_p (n:Nat) (a0:Tf) (a1:Tf):Option Tf:=
  Option.bind (ao (aD_l1 n) n (a0.fD,a1.fD)) (fun b0=>some (⟨false,b0⟩:Tf))
theorem aD_c (n:Nat) {L w} (hL:hl L w) (a0:Tf) {v0_1:Value} (h0_1:Rep.R w L [v0_1] a0.fD) (a1:Tf) {v1_1:Value} (h1_1:Rep.R w L [v1_1] a1.fD)  {r:Tf} (h:aD_p n a0 a1 = some r) :
 Cl 157 #[.agg #[.bool a0.fe,v0_1],.agg #[.bool a1.fe,v1_1]] w (ak w fun w' u=>∃ v0_1:Value,u = .agg #[.bool r.fe,v0_1]/\Rep.R w' L [v0_1] r.fD):=by
 unfold aD_p at h
 refine AI func157 rfl rfl rfl fun _ cs0 hb0=>Ae<|RG.bx (AH w) rfl rfl fun s1 W0 C0 Z0=>RG.bx C0 rfl rfl fun u1 X0 D0 b1=>RG.nl [.bool false,vN] D0 fun v1 p0 t0 c1=>Aa<|Ak<|du 6 fun d0 j0=>Rv 0 d0 rfl j0 (fun _=>Bk 1 rfl)<|Rx 1 48 d0 rfl j0 (Bj rfl ((t0.memA .t2) 1 _ rfl))<|Rv 2 d0 rfl j0 (fun _=>Bk 1 rfl)<|Rx 3 32 d0 rfl j0 (Bj rfl ((t0.memA .t1) 1 _ rfl))<|Rv 4 d0 rfl j0 (fun _=>Bc rfl)<|Rv 5 d0 rfl j0 (fun _=>Bc rfl)<|AG (dk d0)<|Ak<|Ax ?_
 obtain ⟨u0,d1⟩:=Az t0 (.a0 .done)
 obtain ⟨k1,J0,I0⟩:=am h
 refine MX.lf (α:=(List Int) × (List Int) × Value × Value) (fun ⟨k0,c0,b0,g0⟩=>[(4,vP p0),(5,b0),(6,g0)]) (fun ⟨k0,c0,b0,g0⟩=>[.cells p0 [.bool false,vN] 142]) (fun ⟨k0,c0,b0,g0⟩ y0=>Rep.R y0 (bl [.cells p0 [.bool false,vN] 142] ++ L) [b0] k0/\Rep.R y0 (bl [.cells p0 [.bool false,vN] 142] ++ L) [g0] c0) (fun ⟨k0,c0,b0,g0⟩=>(k0,c0)) (a0.fD,a1.fD,v0_1,v1_1) J0 u0 ⟨(AF h0_1 u0),(AF h1_1 u0)⟩ ?_
 rintro V0 ⟨k0,c0,b0,g0⟩ y0 B0 v0 F0 ⟨q0,s0⟩ h
 unfold aD_l1 at h
 try dsimp only at h
 refine Ak<|Ae<|Ac rfl ?_
 have g1:c0.length <= 281474976710656:=AX s0
 refine Ab (AZ (xs:=c0) underlying140 rfl s0)<|Ab (FV.gtrN (i:=c0.length) (j:=0) rfl rfl)<|Aa<|AV rfl h (fun A0 h=>?_) (fun A0 h=>?_)
 refine Av<|Ax<|Ae<|Ac rfl<|Ac rfl<|bk h fun R0 P0 h=>jE (bd 184) rfl (e2 rfl rfl) (fun w9 hw9=>aw_c n (v0.hL hL hw9) (Ai q0 hw9) (Ai s0 hw9) P0) rfl fun x1 q1 H0 ⟨p1,Q0,hu_,j1,K0⟩=>?_
 subst hu_
 obtain ⟨E0,z0⟩:=v0.agr H0
 refine Ac rfl<|Ab (Af rfl rfl)<|Ab (Af rfl rfl)<|Ag rfl<|Ag rfl<|Aa<|Ao<|Ac rfl<|Ac rfl<|Ag rfl<|Ag rfl<|Aa<|Ay<|B0 (c0,R0.2,g0,Q0) E0 (Tt F0 z0) ⟨(Ah s0 z0),K0⟩ h
 refine Ba rfl ?_
 have h:=I0 _ h
 try dsimp only at h
 refine Ae<|Ac rfl ?_
 obtain ⟨U0,Y0,M0,_⟩:=Bp q0
 refine Ab (AR (vs:=[b0]) (u:=.agg #[.bool false,b0]) (e1 rfl) (fun w9=>by rw [M0]; try kernel_rfl))<|AJ [.bool false,b0] v0 .hd (o2 rfl (AA q0)) fun y1 x0 G0=>Aa<|Ar rfl<|Ap hb0 func157 rfl (.cons (.many (cs:=[.bool false,b0]) rfl rfl (x0.memA .hd)) .nil) rfl ?_
 cases h
 exact ⟨x0.ag,fun w9 hw9=>⟨b0,rfl,x0.kd (Ah q0 G0) hw9⟩⟩
def ab_p (n:Nat) (a0:Bool) (a1:List Int):Option Tf:=
  (au_p n a1).bind fun b0=>(if a0 = true then some (⟨(decide (0 < b0.length)),b0⟩:Tf) else some (⟨false,b0⟩:Tf))
theorem ab_c (n:Nat) {L w} (hL:hl L w) {a0:Bool} {a1:List Int} {v1_0:Value} (h1_0:Rep.R w L [v1_0] a1)  {r:Tf} (h:ab_p n a0 a1 = some r) :
 Cl 178 #[.bool a0,v1_0] w (ak w fun w' u=>∃ v0_1:Value,u = .agg #[.bool r.fe,v0_1]/\Rep.R w' L [v0_1] r.fD):=by
 unfold ab_p at h
 refine AI func178 rfl rfl rfl fun _ cs0 hb0=>Ae<|RG.nl [.bool false,vN] (AH w) fun I0 B0 g0 E0=>Aa<|Ae<|Ac rfl<|bk h fun d0 y0 h=>jE (bd 181) rfl (e1 rfl) (fun w9 hw9=>au_c n (g0.hL hL hw9) (g0.km h1_0 hw9) y0) rfl fun J0 b0 u0 ⟨H0,hu_,c0⟩=>?_
 subst hu_
 obtain ⟨p0,F0⟩:=g0.agr u0
 refine Ag rfl<|Aa<|Ae<|Ac rfl<|Ac rfl<|RG.ifb (s:=8) rfl h (fun q0 h=>?_) (fun q0 h=>?_)
 refine AQ (Aq rfl) ?_
 have G0:d0.length <= 281474976710656:=AX c0
 refine AQ (AZ (xs:=d0) underlying140 rfl c0)<|AQ (FV.gtrN (i:=d0.length) (j:=0) rfl rfl)<|Bz rfl rfl<|Ac rfl ?_
 obtain ⟨z0,C0,v0,_⟩:=Bp c0
 refine Ab (AR (vs:=[.bool (decide (0 < d0.length)),b0]) (u:=.agg #[.bool (decide (0 < d0.length)),b0]) (e2 rfl rfl) (fun w9=>by rw [v0]; try kernel_rfl))<|AJ [.bool (decide (0 < d0.length)),b0] p0 .hd (o2 rfl (AA c0)) fun K0 j0 s0=>Aa<|Ar rfl<|Ap hb0 func178 rfl (.cons (.many (cs:=[.bool (decide (0 < d0.length)),b0]) rfl rfl (j0.memA .hd)) .nil) rfl ?_
 cases h
 exact ⟨j0.ag,fun w9 hw9=>⟨b0,rfl,j0.kd (Ah c0 s0) hw9⟩⟩
 refine Aj<|Aj<|Aj<|Bd rfl rfl<|Ac rfl ?_
 obtain ⟨A0,D0,x0,_⟩:=Bp c0
 refine Ab (AR (vs:=[.bool false,b0]) (u:=.agg #[.bool false,b0]) (e2 rfl rfl) (fun w9=>by rw [x0]; try kernel_rfl))<|AJ [.bool false,b0] p0 .hd (o2 rfl (AA c0)) fun M0 k0 t0=>Aa<|Ar rfl<|Ap hb0 func178 rfl (.cons (.many (cs:=[.bool false,b0]) rfl rfl (k0.memA .hd)) .nil) rfl ?_
 cases h
 exact ⟨k0.ag,fun w9 hw9=>⟨b0,rfl,k0.kd (Ah c0 t0) hw9⟩⟩
def bE_p (n:Nat) (a0:Tf):Option Tf:=
  (ab_p n (!a0.fe) a0.fD).bind fun b0=>some b0
theorem bE_c (n:Nat) {L w} (hL:hl L w) (a0:Tf) {v0_1:Value} (h0_1:Rep.R w L [v0_1] a0.fD)  {r:Tf} (h:bE_p n a0 = some r) :
 Cl 158 #[.agg #[.bool a0.fe,v0_1]] w (ak w fun w' u=>∃ v0_1:Value,u = .agg #[.bool r.fe,v0_1]/\Rep.R w' L [v0_1] r.fD):=by
 unfold bE_p at h
 refine AI func158 rfl rfl rfl fun _ cs0 hb0=>Ae<|RG.bx (AH w) rfl rfl fun B0 u0 k0 x0=>RG.nl [.bool false,vN] k0 fun C0 v0 b0 y0=>Aa<|Ae<|Bo 0 rfl<|Bv rfl ((b0.memA .t1) 0 _ rfl)<|Ab (FV.not rfl)<|Bo 1 rfl<|Bv rfl ((b0.memA .t1) 1 _ rfl)<|bk h fun j0 t0 h=>jE (bd 178) rfl (e2 rfl rfl) (fun w9 hw9=>ab_c n (b0.hL hL hw9) (b0.km h0_1 hw9) t0) rfl fun D0 A0 s0 ⟨d0,hu_,g0⟩=>?_
 subst hu_
 obtain ⟨p0,z0⟩:=b0.agr s0
 refine AJ [.bool j0.fe,d0] p0 .hd (o2 rfl (AA g0)) fun E0 c0 q0=>Aa<|Ar rfl<|Ap hb0 func158 rfl (.cons (.many (cs:=[.bool j0.fe,d0]) rfl rfl (c0.memA .hd)) .nil) rfl ?_
 cases h
 exact ⟨c0.ag,fun w9 hw9=>⟨d0,rfl,c0.kd (Ah g0 q0) hw9⟩⟩
def aG_p (n:Nat) (a0:Int):Option Tf:=
  jn (fun u16=>(ab_p n (decide (a0 < 0)) ([aC (u16 % (4294967296:UInt64)),aC (u16 / (4294967296:UInt64))]:List Int)).bind fun c0=>some c0) (fun b0=>(if a0 < 0 then b0 (-(ac a0)) else b0 (ac a0)))
theorem aG_c (n:Nat) {L w} (hL:hl L w) {a0:Int}  {r:Tf} (h:aG_p n a0 = some r) :
 Cl 149 #[vI a0] w (ak w fun w' u=>∃ v0_1:Value,u = .agg #[.bool r.fe,v0_1]/\Rep.R w' L [v0_1] r.fD):=by
 unfold aG_p at h
 refine AI func149 rfl rfl rfl fun _ cs0 hb0=>Ae<|RG.nl [.bool false,vN] (AH w) fun I0 k0 c0 C0=>Aa<|Ae<|Ac rfl<|Ab (FV.lss (i:=a0) (j:=0) rfl rfl)<|Ag rfl<|Aa<|Ae<|Ac rfl<|Ab (FV.convU (i:=a0) underlying3 underlying30 rfl)<|Ag rfl<|Aa<|Ak<|Ae<|Ac rfl<|Aa<|MX.jo (α:=UInt64) (fun u16=>[(2,vP k0),(3,.bool (decide (a0 < 0))),(4,vU u16)]) (fun u16=>[.cells k0 [.bool false,vN] 142]) (fun u16=>u16) c0 h ?_ ?_
 rintro u16 P0 v0 D0 h
 try dsimp only at h
 refine Ae<|Ac rfl<|Ac rfl<|Ab (FV.remU (a:=u16) (b:=(4294967296:UInt64)) rfl rfl (by decide))<|Ab (FV.convUI (a:=u16 % (4294967296:UInt64)) underlying30 underlying3 rfl)<|Ac rfl<|Ab (FV.quoU (a:=u16) (b:=(4294967296:UInt64)) rfl rfl (by decide))<|Ab (FV.convUI (a:=u16 / (4294967296:UInt64)) underlying30 underlying3 rfl)<|Al .plain rfl (AS (α:=Int) (xs:=([aC (u16 % (4294967296:UInt64)),aC (u16 / (4294967296:UInt64))]:List Int)) (vs:=[vI (aC (u16 % (4294967296:UInt64))),vI (aC (u16 / (4294967296:UInt64)))]) (ds' :=[vI (aC (u16 % (4294967296:UInt64))),vI (aC (u16 / (4294967296:UInt64)))]) rfl v0 aY rfl (e2 rfl rfl) (by kernel_rfl) rfl) fun J0 t0 b0 E0=>?_
 have d0:=BC b0 .hd
 have F0:=BD b0 .hd
 refine bk h fun s0 A0 h=>jE (bd 178) rfl (e2 rfl rfl) (fun w9 hw9=>ab_c n (d0.hL hL hw9) (Ai (BE (α:=Int) (v:=(vS t0 2)) (xs:=([aC (u16 % (4294967296:UInt64)),aC (u16 / (4294967296:UInt64))]:List Int)) d0 L (Bm (α:=Int) b0 .hd (AK (cs:=[vI (aC (u16 % (4294967296:UInt64))),vI (aC (u16 / (4294967296:UInt64)))]) (xs:=(([aC (u16 % (4294967296:UInt64)),aC (u16 / (4294967296:UInt64))]:List Int):List Int)) b0 L (AD (cs:=[vI (aC (u16 % (4294967296:UInt64)))]) (ds:=[vI (aC (u16 / (4294967296:UInt64)))]) rfl (AD (cs:=[vI (aC (u16 / (4294967296:UInt64)))]) (ds:=[]) rfl (AO _ _)))) hL)) hw9) A0) rfl fun K0 H0 z0 ⟨j0,hu_,q0⟩=>?_
 subst hu_
 obtain ⟨x0,G0⟩:=d0.agr z0
 refine AJ [.bool s0.fe,j0] x0 .hd (o2 rfl (AA q0)) fun M0 g0 y0=>Aa<|Ar rfl<|Ap hb0 func149 rfl (.cons (.many (cs:=[.bool s0.fe,j0]) rfl rfl (g0.memA .hd)) .nil) rfl ?_
 cases h
 exact ⟨g0.ag,fun w9 hw9=>⟨j0,rfl,g0.kd (Ah q0 y0) hw9⟩⟩
 intro B0 p0 h
 try dsimp only at h
 refine AV rfl h (fun u0 h=>?_) (fun u0 h=>?_)
 refine Ao<|Ac rfl<|Ab (FV.negU (a:=ac a0) rfl)<|Ag rfl<|Aa<|p0 (-(ac a0)) c0 (BI _ _) h
 refine Av<|p0 (ac a0) c0 (BI _ _) h
def bc_l1 (_n:Nat) (a0:List Int) (a1:List Int) (g0:Int × Int × (List Int) -> Option (List Int)):Int × Int × (List Int) -> Option (List Int)
  | (c0,b0,d0)=>(if b0 < ((a0.length:Nat):Int) then (idx a0 b0).bind fun C0=>(chk (c0 + C0)).bind fun k0=>jn (fun q0=>(cX q0 4294967296).bind fun s0=>(app d0 ([s0]:List Int)).bind fun F0=>(dK q0 4294967296).bind fun t0=>(chk (b0 + 1)).bind fun u0=>g0 (t0,u0,F0)) (fun j0=>(if b0 < ((a1.length:Nat):Int) then (idx a1 b0).bind fun D0=>(chk (k0 + D0)).bind fun v0=>j0 v0 else j0 k0)) else (if b0 < ((a1.length:Nat):Int) then (idx a1 b0).bind fun E0=>(chk (c0 + E0)).bind fun p0=>(cX p0 4294967296).bind fun x0=>(app d0 ([x0]:List Int)).bind fun G0=>(dK p0 4294967296).bind fun y0=>g0 (y0,b0 + 1,G0) else (if 0 < c0 then (cX c0 4294967296).bind fun z0=>(app d0 ([z0]:List Int)).bind fun H0=>(dK c0 4294967296).bind fun A0=>(chk (b0 + 1)).bind fun B0=>g0 (A0,B0,H0) else some d0)))
def bc_p (n:Nat) (a0:List Int) (a1:List Int):Option (List Int):=
  Option.bind (ao (bc_l1 n a0 a1) n (0,0,([]:List Int))) (fun b0=>some b0)
theorem bc_c (n:Nat) {L w} (hL:hl L w) {a0:List Int} {v0_0:Value} (h0_0:Rep.R w L [v0_0] a0) {a1:List Int} {v1_0:Value} (h1_0:Rep.R w L [v1_0] a1)  {r:List Int} (h:bc_p n a0 a1 = some r) :
 Cl 183 #[v0_0,v1_0] w (ak w fun w' u=>∃ v0_0:Value,u = v0_0/\Rep.R w' L [v0_0] r):=by
 unfold bc_p at h
 have hS0:=AH w
 refine AI func183 rfl rfl rfl fun _ cs0 hb0=>Ae<|Ag rfl<|Aa<|Ae<|Ag rfl<|Aa<|Ae<|Ag rfl<|Aa<|Ak<|Ae<|Ag rfl<|Aa<|Ax ?_
 have I0:=hS0.nilRow 3 (Rep.size Int)
 have B3:=St.nilRowT hS0 3 (Rep.size Int)
 obtain ⟨G3,j2,U1⟩:=am h
 refine MX.lf (α:=Int × Int × (List Int) × Value × (List Value)) (fun ⟨g0,b0,j0,d0,k0⟩=>[(0,v0_0),(1,v1_0),(5,d0),(6,vI g0),(7,vI b0)]) (fun ⟨g0,b0,j0,d0,k0⟩=>[rr w 3 Int d0 j0.length k0]) (fun ⟨g0,b0,j0,d0,k0⟩ X0=>Cells X0 (bl [rr w 3 Int d0 j0.length k0] ++ L) k0 j0) (fun ⟨g0,b0,j0,d0,k0⟩=>(g0,b0,j0)) (0,0,([]:List Int),vN,[]) j2 I0 (AK (cs:=[]) (xs:=([]:List Int)) I0 L (AO _ _)) ?_
 rintro s3 ⟨g0,b0,j0,d0,k0⟩ X0 A0 c0 F0 y0 h
 unfold bc_l1 at h
 try dsimp only at h
 refine Ak<|Ae<|Ac rfl<|Ac rfl ?_
 have u0:=AF h0_0 c0
 have D3:a0.length <= 281474976710656:=AX u0
 refine Ab (AZ (xs:=a0) underlying140 rfl u0)<|Ab (FV.lss (i:=b0) (j:=((a0.length:Nat):Int)) rfl rfl)<|Ac rfl<|RG.ifd (s:=12) rfl h (fun x0 h=>?_) (fun x0 h=>?_)
 refine Aj<|Aj<|Aj<|Aj<|Bz rfl rfl<|Ac rfl<|Aj<|Aj<|Bz rfl rfl<|Aa<|AU rfl<|Av<|Ak<|Ax<|Ak<|Ae<|Ac rfl<|Ac rfl<|Ab (AZ (xs:=a0) underlying140 rfl u0)<|Ab (FV.lss (i:=b0) (j:=((a0.length:Nat):Int)) rfl rfl)<|Aa<|MX.cond_kt rfl (decide_eq_true x0)<|Ao<|Ac rfl<|Ac rfl<|Ac rfl<|bk h fun Y0 F2 h=>?_
 obtain ⟨V1,G2⟩:=aU F2
 obtain ⟨k3,y3,J1,Y1,j1,k2,c2⟩:=Bh u0 G2
 have K1:j1 = [vI Y0]:=k2; subst K1
 refine Ab (Bs 1 (b0.toNat) rfl J1 rfl V1 Y1)<|Bv rfl (c2 0 _ rfl)<|bk h fun V0 t2 h=>Ab (FV.addc (i:=g0) (j:=Y0) rfl rfl t2)<|Ag rfl<|Aa<|Ak<|Ae<|Ac rfl<|Ac rfl ?_
 have G0:=AF h1_0 c0
 have E3:a1.length <= 281474976710656:=AX G0
 refine Ab (AZ (xs:=a1) underlying140 rfl G0)<|Ab (FV.lss (i:=b0) (j:=((a1.length:Nat):Int)) rfl rfl)<|Aa<|MX.jo (α:=Int) (fun t0=>[(0,v0_0),(1,v1_0),(5,d0),(6,vI t0),(7,vI b0)]) (fun t0=>[rr w 3 Int d0 j0.length k0]) (fun t0=>t0) c0 h ?_ ?_
 rintro t0 Q3 v1 J0 h
 try dsimp only at h
 refine Ae<|Ac rfl<|Ac rfl<|bk h fun p0 u2 h=>Ab (FV.remc (i:=t0) (j:=4294967296) rfl rfl u2)<|Al .plain rfl (jA p0 (vI p0) v1 aY (e1 rfl)) fun H3 u3 B0 K0=>bk h fun d3 M2 h=>BB .plain rfl (Bl (α:=Int) (ys:=([p0]:List Int)) M2 B0 (fun _ _=>.t1) aY rfl rfl (AT y0 (Tt J0 K0)) (BJ (α:=Int) B0 .hd (jC p0 (vI p0) B0 L rfl))) fun Z2 I3 ⟨k1,x1,D1,G1⟩=>Ag rfl<|Aa<|Ao<|Ac rfl<|bk h fun R2 v2 h=>Ab (FV.quoc (i:=t0) (j:=4294967296) rfl rfl v2)<|Ag rfl<|Aa<|Ay<|Ao<|Ac rfl<|bk h fun U2 x2 h=>Ab (FV.addc (i:=b0) (j:=1) rfl rfl x2)<|Ag rfl<|Aa ?_
 obtain ⟨y1,M0⟩:=Az x1 .d1
 exact A0 (R2,U2,d3,Z2,k1) y1 (Tt F0 (Tt J0 (Tt K0 (Tt D1 M0)))) (AT G1 M0) h
 intro t3 H0 h
 try dsimp only at h
 refine AV rfl h (fun c1 h=>?_) (fun c1 h=>?_)
 refine Ao<|Ac rfl<|Ac rfl<|Ac rfl<|bk h fun Z0 H2 h=>?_
 obtain ⟨W1,I2⟩:=aU H2
 obtain ⟨p3,z3,M1,Z1,p1,p2,d2⟩:=Bh G0 I2
 have P1:p1 = [vI Z0]:=p2; subst P1
 refine Ab (Bs 1 (b0.toNat) rfl M1 rfl W1 Z1)<|Bv rfl (d2 0 _ rfl)<|bk h fun V2 y2 h=>Ab (FV.addc (i:=V0) (j:=Z0) rfl rfl y2)<|Ag rfl<|Aa<|H0 V2 c0 (BI _ _) h
 refine Av<|H0 V0 c0 (BI _ _) h
 refine AQ (Aq rfl)<|AQ (Aq rfl) ?_
 have v0:=AF h1_0 c0
 have F3:a1.length <= 281474976710656:=AX v0
 refine AQ (AZ (xs:=a1) underlying140 rfl v0)<|AQ (FV.lss (i:=b0) (j:=((a1.length:Nat):Int)) rfl rfl)<|Bd rfl rfl<|Ac rfl<|RG.ifd (s:=18) rfl h (fun z0 h=>?_) (fun z0 h=>?_)
 refine Aj<|Aj<|Bz rfl rfl<|Aa<|AU rfl<|Av<|Ak<|Ax<|Ak<|Ae<|Ac rfl<|Ac rfl<|Ab (AZ (xs:=a0) underlying140 rfl u0)<|Ab (FV.lss (i:=b0) (j:=((a0.length:Nat):Int)) rfl rfl)<|Aa<|MX.cond_kf rfl (decide_eq_false x0)<|Av<|Ak<|Ae<|Ac rfl<|Ac rfl<|Ab (AZ (xs:=a1) underlying140 rfl v0)<|Ab (FV.lss (i:=b0) (j:=((a1.length:Nat):Int)) rfl rfl)<|Aa<|MX.cond_kt rfl (decide_eq_true z0)<|Ao<|Ac rfl<|Ac rfl<|Ac rfl<|bk h fun b1 J2 h=>?_
 obtain ⟨X1,K2⟩:=aU J2
 obtain ⟨q3,A3,Q1,b2,q1,q2,g2⟩:=Bh v0 K2
 have R1:q1 = [vI b1]:=q2; subst R1
 refine Ab (Bs 1 (b0.toNat) rfl Q1 rfl X1 b2)<|Bv rfl (g2 0 _ rfl)<|bk h fun W0 z2 h=>Ab (FV.addc (i:=g0) (j:=b1) rfl rfl z2)<|Ag rfl<|Aa<|Ae<|Ac rfl<|Ac rfl<|bk h fun q0 A2 h=>Ab (FV.remc (i:=W0) (j:=4294967296) rfl rfl A2)<|Al .plain rfl (jA q0 (vI q0) c0 aY (e1 rfl)) fun J3 v3 C0 P0=>bk h fun g3 P2 h=>BB .plain rfl (Bl (α:=Int) (ys:=([q0]:List Int)) P2 C0 (fun _ _=>.t1) aY rfl rfl (AT y0 P0) (BJ (α:=Int) C0 .hd (jC q0 (vI q0) C0 L rfl))) fun b3 K3 ⟨s1,z1,E1,H1⟩=>Ag rfl<|Aa<|Ao<|Ac rfl<|bk h fun W2 B2 h=>Ab (FV.quoc (i:=W0) (j:=4294967296) rfl rfl B2)<|Ag rfl<|Aa<|Ay<|Ao<|Ac rfl<|Ab (FV.addI (i:=b0) (j:=1) rfl rfl (by omega))<|Ag rfl<|Aa ?_
 obtain ⟨A1,Q0⟩:=Az z1 .d1
 exact A0 (W2,b0 + 1,g3,b3,s1) A1 (Tt F0 (Tt P0 (Tt E1 Q0))) (AT H1 Q0) h
 refine AQ (Aq rfl)<|AQ (FV.gtr (i:=g0) (j:=0) rfl rfl)<|Bd rfl rfl<|Aa<|AV rfl h (fun g1 h=>?_) (fun g1 h=>?_)
 refine Av<|Ak<|Ax<|Ak<|Ae<|Ac rfl<|Ac rfl<|Ab (AZ (xs:=a0) underlying140 rfl u0)<|Ab (FV.lss (i:=b0) (j:=((a0.length:Nat):Int)) rfl rfl)<|Aa<|MX.cond_kf rfl (decide_eq_false x0)<|Av<|Ak<|Ae<|Ac rfl<|Ac rfl<|Ab (AZ (xs:=a1) underlying140 rfl v0)<|Ab (FV.lss (i:=b0) (j:=((a1.length:Nat):Int)) rfl rfl)<|Aa<|MX.cond_kf rfl (decide_eq_false z0)<|Av<|Ae<|Ac rfl<|Ac rfl<|bk h fun s0 C2 h=>Ab (FV.remc (i:=g0) (j:=4294967296) rfl rfl C2)<|Al .plain rfl (jA s0 (vI s0) c0 aY (e1 rfl)) fun M3 x3 D0 R0=>bk h fun j3 Q2 h=>BB .plain rfl (Bl (α:=Int) (ys:=([s0]:List Int)) Q2 D0 (fun _ _=>.t1) aY rfl rfl (AT y0 R0) (BJ (α:=Int) D0 .hd (jC s0 (vI s0) D0 L rfl))) fun c3 P3 ⟨u1,B1,F1,I1⟩=>Ag rfl<|Aa<|Ao<|Ac rfl<|bk h fun X2 D2 h=>Ab (FV.quoc (i:=g0) (j:=4294967296) rfl rfl D2)<|Ag rfl<|Aa<|Ay<|Ao<|Ac rfl<|bk h fun Y2 E2 h=>Ab (FV.addc (i:=b0) (j:=1) rfl rfl E2)<|Ag rfl<|Aa ?_
 obtain ⟨C1,U0⟩:=Az B1 .d1
 exact A0 (X2,Y2,j3,c3,u1) C1 (Tt F0 (Tt R0 (Tt F1 U0))) (AT I1 U0) h
 refine Ba rfl ?_
 have h:=U1 _ h
 try dsimp only at h
 refine Ae<|Ac rfl<|Ag rfl<|Aa<|Ar rfl ?_
 have E0:=BC c0 .hd
 have C3:=BD c0 .hd
 have s2:=BE (α:=Int) (v:=d0) (xs:=j0) E0 L (Bm (α:=Int) c0 .hd y0 hL)
 refine Be hb0 func183 rfl rfl ?_
 cases h
 exact ⟨E0.ag,fun w9 hw9=>⟨d0,rfl,E0.kd s2 hw9⟩⟩
def aU_p (n:Nat) (a0:Tf) (a1:Tf):Option Tf:=
  (if (a0.fe == a1.fe) = true then (bc_p n a0.fD a1.fD).bind fun b0=>(ab_p n a0.fe b0).bind fun c0=>some c0 else (aB_p n a0.fD a1.fD).bind fun d0=>(if 0 <= d0 then (am_p n a0.fD a1.fD).bind fun g0=>(ab_p n a0.fe g0).bind fun j0=>some j0 else (am_p n a1.fD a0.fD).bind fun k0=>(ab_p n a1.fe k0).bind fun p0=>some p0))
theorem aU_c (n:Nat) {L w} (hL:hl L w) (a0:Tf) {v0_1:Value} (h0_1:Rep.R w L [v0_1] a0.fD) (a1:Tf) {v1_1:Value} (h1_1:Rep.R w L [v1_1] a1.fD)  {r:Tf} (h:aU_p n a0 a1 = some r) :
 Cl 154 #[.agg #[.bool a0.fe,v0_1],.agg #[.bool a1.fe,v1_1]] w (ak w fun w' u=>∃ v0_1:Value,u = .agg #[.bool r.fe,v0_1]/\Rep.R w' L [v0_1] r.fD):=by
 unfold aU_p at h
 refine AI func154 rfl rfl rfl fun _ cs0 hb0=>Ae<|RG.bx (AH w) rfl rfl fun b2 A1 M0 D1=>RG.bx M0 rfl rfl fun c2 B1 P0 E1=>RG.nl [.bool false,vN] P0 fun d2 C1 b0 F1=>Aa<|Ak<|Ae<|Bo 0 rfl<|Bv rfl ((b0.memA .t2) 0 _ rfl)<|Bo 0 rfl<|Bv rfl ((b0.memA .t1) 0 _ rfl)<|Ab (FV.eqlB (a:=a0.fe) (b:=a1.fe) underlying4 rfl rfl)<|Aa<|MX.ifb rfl h (fun J0 h=>?_) (fun J0 h=>?_)
 refine Ak<|du 8 fun c0 j0=>Rv 0 c0 rfl j0 (fun _=>Bk 0 rfl)<|Rx 1 384 c0 rfl j0 (Bj rfl ((b0.memA .t2) 0 _ rfl))<|Rv 2 c0 rfl j0 (fun _=>Bk 1 rfl)<|Rx 3 448 c0 rfl j0 (Bj rfl ((b0.memA .t2) 1 _ rfl))<|Rv 4 c0 rfl j0 (fun _=>Bk 1 rfl)<|Rx 5 448 c0 rfl j0 (Bj rfl ((b0.memA .t1) 1 _ rfl))<|bk h fun y2 q1 h=>AW 6 127 c0 rfl .plain (bd 183) rfl (e2 rfl rfl) (fun w9 hw9=>bc_c n (b0.hL hL hw9) (b0.km h0_1 hw9) (b0.km h1_1 hw9) q1) rfl fun g2 U1 Y0 ⟨P1,hu_,j1⟩=>?_
 subst hu_
 obtain ⟨z0,G1⟩:=b0.agr Y0
 refine bk h fun F0 s1 h=>AW 7 255 c0 rfl .plain (bd 178) rfl (e2 rfl rfl) (fun w9 hw9=>ab_c n (z0.hL hL hw9) (Ai j1 hw9) s1) rfl fun j2 V1 Z0 ⟨v0,hu_,C0⟩=>?_
 subst hu_
 obtain ⟨Q0,H1⟩:=z0.agr Z0
 refine Bq 8 511 c0 rfl rfl .plain (AC (news:=[.bool F0.fe,v0]) Q0 .hd rfl rfl rfl rfl rfl rfl (o2 rfl (AA C0))) fun k2 s0 V0=>AG (dk c0)<|Ar rfl<|Ap hb0 func154 rfl (.cons (.many (cs:=[.bool F0.fe,v0]) rfl rfl (s0.memA .hd)) .nil) rfl ?_
 cases h
 exact ⟨s0.ag,fun w9 hw9=>⟨v0,rfl,s0.kd (Ah C0 V0) hw9⟩⟩
 refine Av<|Ak<|Ae<|Bo 1 rfl<|Bv rfl ((b0.memA .t2) 1 _ rfl)<|Bo 1 rfl<|Bv rfl ((b0.memA .t1) 1 _ rfl)<|bk h fun G0 u1 h=>Bb (vI G0) (bd 175) rfl (e2 rfl rfl) (fun w9 hw9=>aB_c n (b0.hL0 hL hw9) (b0.k0 h0_1 hw9) (b0.k0 h1_1 hw9) u1) rfl<|Ab (FV.geq (i:=G0) (j:=0) rfl rfl)<|Aa<|AV rfl h (fun K0 h=>?_) (fun K0 h=>?_)
 refine Ak<|du 8 fun d0 p0=>Rv 0 d0 rfl p0 (fun _=>Bk 0 rfl)<|Rx 1 384 d0 rfl p0 (Bj rfl ((b0.memA .t2) 0 _ rfl))<|Rv 2 d0 rfl p0 (fun _=>Bk 1 rfl)<|Rx 3 448 d0 rfl p0 (Bj rfl ((b0.memA .t2) 1 _ rfl))<|Rv 4 d0 rfl p0 (fun _=>Bk 1 rfl)<|Rx 5 448 d0 rfl p0 (Bj rfl ((b0.memA .t1) 1 _ rfl))<|bk h fun z2 v1 h=>AW 6 127 d0 rfl .plain (bd 176) rfl (e2 rfl rfl) (fun w9 hw9=>am_c n (b0.hL hL hw9) (b0.km h0_1 hw9) (b0.km h1_1 hw9) v1) rfl fun p2 W1 b1 ⟨Q1,hu_,k1⟩=>?_
 subst hu_
 obtain ⟨A0,I1⟩:=b0.agr b1
 refine bk h fun H0 x1 h=>AW 7 255 d0 rfl .plain (bd 178) rfl (e2 rfl rfl) (fun w9 hw9=>ab_c n (A0.hL hL hw9) (Ai k1 hw9) x1) rfl fun q2 X1 c1 ⟨x0,hu_,D0⟩=>?_
 subst hu_
 obtain ⟨R0,J1⟩:=A0.agr c1
 refine Bq 8 511 d0 rfl rfl .plain (AC (news:=[.bool H0.fe,x0]) R0 .hd rfl rfl rfl rfl rfl rfl (o2 rfl (AA D0))) fun s2 t0 W0=>AG (dk d0)<|Ar rfl<|Ap hb0 func154 rfl (.cons (.many (cs:=[.bool H0.fe,x0]) rfl rfl (t0.memA .hd)) .nil) rfl ?_
 cases h
 exact ⟨t0.ag,fun w9 hw9=>⟨x0,rfl,t0.kd (Ah D0 W0) hw9⟩⟩
 refine Av<|Ak<|du 8 fun g0 q0=>Rv 0 g0 rfl q0 (fun _=>Bk 0 rfl)<|Rx 1 384 g0 rfl q0 (Bj rfl ((b0.memA .t1) 0 _ rfl))<|Rv 2 g0 rfl q0 (fun _=>Bk 1 rfl)<|Rx 3 448 g0 rfl q0 (Bj rfl ((b0.memA .t1) 1 _ rfl))<|Rv 4 g0 rfl q0 (fun _=>Bk 1 rfl)<|Rx 5 448 g0 rfl q0 (Bj rfl ((b0.memA .t2) 1 _ rfl))<|bk h fun A2 y1 h=>AW 6 127 g0 rfl .plain (bd 176) rfl (e2 rfl rfl) (fun w9 hw9=>am_c n (b0.hL hL hw9) (b0.km h1_1 hw9) (b0.km h0_1 hw9) y1) rfl fun u2 Y1 d1 ⟨R1,hu_,p1⟩=>?_
 subst hu_
 obtain ⟨B0,K1⟩:=b0.agr d1
 refine bk h fun I0 z1 h=>AW 7 255 g0 rfl .plain (bd 178) rfl (e2 rfl rfl) (fun w9 hw9=>ab_c n (B0.hL hL hw9) (Ai p1 hw9) z1) rfl fun v2 Z1 g1 ⟨y0,hu_,E0⟩=>?_
 subst hu_
 obtain ⟨U0,M1⟩:=B0.agr g1
 refine Bq 8 511 g0 rfl rfl .plain (AC (news:=[.bool I0.fe,y0]) U0 .hd rfl rfl rfl rfl rfl rfl (o2 rfl (AA E0))) fun x2 u0 X0=>AG (dk g0)<|Ar rfl<|Ap hb0 func154 rfl (.cons (.many (cs:=[.bool I0.fe,y0]) rfl rfl (u0.memA .hd)) .nil) rfl ?_
 cases h
 exact ⟨u0.ag,fun w9 hw9=>⟨y0,rfl,u0.kd (Ah E0 X0) hw9⟩⟩
def bG_p (n:Nat) (a0:Tf) (a1:Tf):Option Tf:=
  (bE_p n a1).bind fun b0=>(aU_p n a0 b0).bind fun c0=>some c0
theorem bG_c (n:Nat) {L w} (hL:hl L w) (a0:Tf) {v0_1:Value} (h0_1:Rep.R w L [v0_1] a0.fD) (a1:Tf) {v1_1:Value} (h1_1:Rep.R w L [v1_1] a1.fD)  {r:Tf} (h:bG_p n a0 a1 = some r) :
 Cl 185 #[.agg #[.bool a0.fe,v0_1],.agg #[.bool a1.fe,v1_1]] w (ak w fun w' u=>∃ v0_1:Value,u = .agg #[.bool r.fe,v0_1]/\Rep.R w' L [v0_1] r.fD):=by
 unfold bG_p at h
 refine AI func185 rfl rfl rfl fun _ cs0 hb0=>Ae<|RG.bx (AH w) rfl rfl fun R0 D0 s0 G0=>RG.bx s0 rfl rfl fun U0 E0 t0 H0=>RG.nl [.bool false,vN] t0 fun V0 F0 c0 I0=>Aa<|Ak<|du 4 fun b0 p0=>Rx 0 24 b0 rfl p0 (Aw rfl (c0.memA .t2))<|Rx 1 28 b0 rfl p0 (Aw rfl (c0.memA .t1))<|bk h fun C0 A0 h=>AW 2 7 b0 rfl .plain (bd 158) rfl (e1 rfl) (fun w9 hw9=>bE_c n (c0.hL hL hw9) a1 (c0.km h1_1 hw9) A0) rfl fun W0 P0 x0 ⟨M0,hu_,z0⟩=>?_
 subst hu_
 obtain ⟨d0,J0⟩:=c0.agr x0
 refine bk h fun q0 B0 h=>AW 3 15 b0 rfl .plain (bd 154) rfl (e2 rfl rfl) (fun w9 hw9=>aU_c n (d0.hL hL hw9) a0 (d0.km h0_1 hw9) C0 (Ai z0 hw9) B0) rfl fun X0 Q0 y0 ⟨j0,hu_,k0⟩=>?_
 subst hu_
 obtain ⟨u0,K0⟩:=d0.agr y0
 refine Bq 4 31 b0 rfl rfl .plain (AC (news:=[.bool q0.fe,j0]) u0 .hd rfl rfl rfl rfl rfl rfl (o2 rfl (AA k0))) fun Y0 g0 v0=>AG (dk b0)<|Ar rfl<|Ap hb0 func185 rfl (.cons (.many (cs:=[.bool q0.fe,j0]) rfl rfl (g0.memA .hd)) .nil) rfl ?_
 cases h
 exact ⟨g0.ag,fun w9 hw9=>⟨j0,rfl,g0.kd (Ah k0 v0) hw9⟩⟩
def bf_p (n:Nat) (a0:Tf) (a1:Tf):Option (Tf × Tf):=
  (aw_p n a0.fD a1.fD).bind fun g0=>(ab_p n (!(a0.fe == a1.fe)) g0.1).bind fun b0=>(ab_p n a0.fe g0.2).bind fun c0=>(if c0.fe = true then (aU_p n c0 (⟨false,a1.fD⟩:Tf)).bind fun d0=>(if a1.fe = true then (aG_p n (1:Int)).bind fun j0=>(aU_p n b0 j0).bind fun k0=>some (k0,d0) else (aG_p n (1:Int)).bind fun p0=>(bG_p n b0 p0).bind fun q0=>some (q0,d0)) else some (b0,c0))
theorem bf_c (n:Nat) {L w} (hL:hl L w) (a0:Tf) {v0_1:Value} (h0_1:Rep.R w L [v0_1] a0.fD) (a1:Tf) {v1_1:Value} (h1_1:Rep.R w L [v1_1] a1.fD)  {r:Tf × Tf} (h:bf_p n a0 a1 = some r) :
 Cl 177 #[.agg #[.bool a0.fe,v0_1],.agg #[.bool a1.fe,v1_1]] w (ak w fun w' u=>∃ v0_1 v1_1:Value,u = .tuple #[.agg #[.bool r.1.fe,v0_1],.agg #[.bool r.2.fe,v1_1]]/\Rep.R w' L [v0_1] r.1.fD/\Rep.R w' L [v1_1] r.2.fD):=by
 unfold bf_p at h
 refine AI func177 rfl rfl rfl fun _ cs0 hb0=>Ae<|RG.bx (AH w) rfl rfl fun k6 H5 Q3 J5=>RG.bx Q3 rfl rfl fun p6 c2 R3 K5=>RG.nl [.bool false,vN] R3 fun z6 G0 Y3 P5=>RG.nl [.bool false,vN] Y3 fun A6 H0 z1 Q5=>Aa<|Ae<|Bo 1 rfl<|Bv rfl ((z1.memA .t3) 1 _ rfl)<|Bo 1 rfl<|Bv rfl ((z1.memA .t2) 1 _ rfl)<|bk h fun P6 v5 h=>jE (bd 184) rfl (e2 rfl rfl) (fun w9 hw9=>aw_c n (z1.hL hL hw9) (z1.km h0_1 hw9) (z1.km h1_1 hw9) v5) rfl fun B6 g6 b5 ⟨W5,X5,hu_,R1,B0⟩=>?_
 subst hu_
 obtain ⟨Z0,R5⟩:=z1.agr b5
 refine Ac rfl<|Ab (Af rfl rfl)<|Ab (Af rfl rfl)<|Ag rfl<|Ag rfl<|Aa<|Ak<|du 13 fun b0 V0=>Rv 0 b0 rfl V0 (fun _=>Bk 0 rfl)<|Rx 1 25680 b0 rfl V0 (Bj rfl ((Z0.memA .t3) 0 _ rfl))<|Rv 2 b0 rfl V0 (fun _=>Bk 0 rfl)<|Rx 3 25680 b0 rfl V0 (Bj rfl ((Z0.memA .t2) 0 _ rfl))<|Rv 4 b0 rfl V0 (fun _=>FV.neqB (a:=a0.fe) (b:=a1.fe) underlying4 rfl rfl)<|Rv 5 b0 rfl V0 (fun _=>Aq rfl)<|Rv 7 b0 rfl V0 (fun _=>Bk 0 rfl)<|Rx 8 25600 b0 rfl V0 (Bj rfl ((Z0.memA .t3) 0 _ rfl))<|Rv 9 b0 rfl V0 (fun _=>Aq rfl)<|bk h fun Y0 U1 h=>bk h fun y1 D0 h=>RD.mf (α:=Value × Value × Nat × Nat) (fun ⟨E0,M0,k1,p1⟩=>[(3,vP c2),(4,vP G0),(5,vP H0),(24,.agg #[.bool Y0.fe,E0]),(28,.agg #[.bool y1.fe,M0]),(8,vP p1),(9,vP k1)]) (fun ⟨E0,M0,k1,p1⟩=>[.cells k1 [.bool false,vN] 142,.cells p1 [.bool false,vN] 142,.cells H0 [.bool false,vN] 142,.cells G0 [.bool false,vN] 142,.cells c2 [.bool a1.fe,v1_1] 142]) (fun ⟨E0,M0,k1,p1⟩ J2=>Rep.R J2 (bl [.cells k1 [.bool false,vN] 142,.cells p1 [.bool false,vN] 142,.cells H0 [.bool false,vN] 142,.cells G0 [.bool false,vN] 142,.cells c2 [.bool a1.fe,v1_1] 142] ++ L) [E0] Y0.fD/\Rep.R J2 (bl [.cells k1 [.bool false,vN] 142,.cells p1 [.bool false,vN] 142,.cells H0 [.bool false,vN] 142,.cells G0 [.bool false,vN] 142,.cells c2 [.bool a1.fe,v1_1] 142] ++ L) [M0] y1.fD) Z0 2 8191 ?_ ?_
 rintro ⟨E0,M0,k1,p1⟩ J2 U3 M5 ⟨C1,s2⟩
 try dsimp only
 refine Bq 13 16383 b0 rfl rfl .plain (AC (news:=[.bool Y0.fe,E0]) U3 .t1 rfl rfl rfl rfl rfl rfl (o2 rfl (AA C1))) fun q6 V3 s1=>Bq 14 32767 b0 rfl rfl .plain (AC (news:=[.bool y1.fe,M0]) V3 .hd rfl rfl rfl rfl rfl rfl (o2 rfl (AA (Ah s2 s1)))) fun s6 x0 A1=>AG (dk b0)<|Ak<|Ae<|Bo 0 rfl<|Bv rfl ((x0.memA .hd) 0 _ rfl)<|Aa<|MX.ifb rfl h (fun M3 h=>?_) (fun M3 h=>?_)
 refine Ae<|Ab (Aw rfl (x0.memA .hd))<|Bo 1 rfl<|Bv rfl ((x0.memA .t4) 1 _ rfl) ?_
 obtain ⟨G5,I5,q5,_⟩:=Bp (AF h1_1 x0)
 refine Ab (AR (vs:=[v1_1]) (u:=.agg #[.bool false,v1_1]) (e1 rfl) (fun w9=>by rw [q5]; try kernel_rfl))<|bk h fun x1 s5 h=>jE (bd 154) rfl (e2 rfl rfl) (fun w9 hw9=>aU_c n (x0.hL hL hw9) y1 (Ai (Ah s2 (Tt s1 A1)) hw9) (⟨false,a1.fD⟩:Tf) (x0.km h1_1 hw9) s5) rfl fun t6 Y5 V4 ⟨W0,hu_,Q1⟩=>?_
 subst hu_
 obtain ⟨W3,U2⟩:=x0.agr V4
 refine AJ [.bool x1.fe,W0] W3 .hd (o2 rfl (AA Q1)) fun u6 q1 B1=>Aa<|Ae<|Bo 0 rfl<|Bv rfl ((q1.memA .t4) 0 _ rfl)<|Aa<|MX.ifb rfl h (fun P3 h=>?_) (fun P3 h=>?_)
 refine du 3 fun V1 z5=>Rx 0 12 V1 rfl z5 (Aw rfl (q1.memA .t1))<|bk h fun E5 t5 h=>AW 1 3 V1 rfl .plain (bd 149) rfl (e1 rfl) (fun w9 hw9=>aG_c n (q1.hL hL hw9)  t5) rfl fun v6 Z5 W4 ⟨U5,hu_,k5⟩=>?_
 subst hu_
 obtain ⟨Q2,z2⟩:=q1.agr W4
 refine bk h fun Z1 u5 h=>AW 2 7 V1 rfl .plain (bd 154) rfl (e2 rfl rfl) (fun w9 hw9=>aU_c n (Q2.hL hL hw9) Y0 (Ai (Ah C1 (Tt s1 (Tt A1 (Tt U2 (Tt B1 z2))))) hw9) E5 (Ai k5 hw9) u5) rfl fun x6 b6 X4 ⟨E1,hu_,u2⟩=>?_
 subst hu_
 obtain ⟨X3,V2⟩:=Q2.agr X4
 refine Bq 3 15 V1 rfl rfl .plain (AC (news:=[.bool Z1.fe,E1]) X3 .t1 rfl rfl rfl rfl rfl rfl (o2 rfl (AA u2))) fun y6 H1 p2=>AG (dk V1)<|Ak<|du 2 fun b1 I3=>Rx 0 12 b1 rfl I3 (Aw rfl (H1.memA .t1))<|RD.mo (α:=Unit) (fun ()=>[(4,vP G0),(5,vP H0),(45,.agg #[.bool x1.fe,W0])]) (fun ()=>[.cells H0 [.bool false,vN] 142,.cells G0 [.bool Z1.fe,E1] 142]) H1 1 7 ?_ ?_
 rintro ⟨⟩ J6 Z3 W2
 try dsimp only
 refine Bq 3 15 b1 rfl rfl .plain (AC (news:=[.bool x1.fe,W0]) Z3 .hd rfl rfl rfl rfl rfl rfl (o2 rfl (AA (Ah Q1 (Tt B1 (Tt z2 (Tt V2 (Tt p2 W2)))))))) fun C6 I1 H4=>AG (dk b1)<|Ar rfl<|Ap hb0 func177 rfl (.cons (.many (cs:=[.bool Z1.fe,E1]) rfl rfl (I1.memA .t1)) (.cons (.many (cs:=[.bool x1.fe,W0]) rfl rfl (I1.memA .hd)) .nil)) rfl ?_
 cases h
 have v3:=Tt p2 (Tt W2 H4)
 exact ⟨I1.ag,fun w9 hw9=>⟨E1,W0,rfl,I1.kd (Ah u2 v3) hw9,I1.kd (Ah Q1 (Tt B1 (Tt z2 (Tt V2 v3)))) hw9⟩⟩
 intro K2
 refine BF [1,2] (rk b1) ⟨?_,?_,trivial⟩
 refine BM (m' :=3) (sk b1) rfl .plain rfl (Aw rfl (H1.memA .hd)) ?_
 have d5:=Ah u2 p2
 refine Bq 2 7 b1 rfl rfl .plain (AC (news:=[.bool Z1.fe,E1]) H1 .t3 rfl rfl rfl rfl rfl rfl (o2 rfl (AA d5))) fun B5 d2 A2=>?_
 obtain ⟨b4,I4⟩:=Az d2 (.a2 (.a2 .done))
 exact K2 () b4 (Tt A2 I4)
 refine RO.now (m' :=5) (sk b1) rfl rfl .plain (AC (news:=[.bool Z1.fe,E1]) H1 .t3 rfl rfl rfl rfl rfl rfl (o2 rfl (AA (Ah u2 p2)))) fun B5 d2 A2=>Rx 1 8 b1 rfl I3 (Aw rfl (d2.memA .hd)) ?_
 obtain ⟨c4,J4⟩:=Az d2 (.a2 (.a2 .done))
 exact K2 () c4 (Tt A2 J4)
 refine du 3 fun W1 A5=>Rx 0 12 W1 rfl A5 (Aw rfl (q1.memA .t1))<|bk h fun F5 x5 h=>AW 1 3 W1 rfl .plain (bd 149) rfl (e1 rfl) (fun w9 hw9=>aG_c n (q1.hL hL hw9)  x5) rfl fun D6 c6 Y4 ⟨V5,hu_,p5⟩=>?_
 subst hu_
 obtain ⟨R2,B2⟩:=q1.agr Y4
 refine bk h fun b2 y5 h=>AW 2 7 W1 rfl .plain (bd 185) rfl (e2 rfl rfl) (fun w9 hw9=>bG_c n (R2.hL hL hw9) Y0 (Ai (Ah C1 (Tt s1 (Tt A1 (Tt U2 (Tt B1 B2))))) hw9) F5 (Ai p5 hw9) y5) rfl fun E6 d6 Z4 ⟨F1,hu_,v2⟩=>?_
 subst hu_
 obtain ⟨d4,X2⟩:=R2.agr Z4
 refine Bq 3 15 W1 rfl rfl .plain (AC (news:=[.bool b2.fe,F1]) d4 .t1 rfl rfl rfl rfl rfl rfl (o2 rfl (AA v2))) fun F6 J1 q2=>AG (dk W1)<|Ak<|du 2 fun c1 J3=>Rx 0 12 c1 rfl J3 (Aw rfl (J1.memA .t1))<|RD.mo (α:=Unit) (fun ()=>[(4,vP G0),(5,vP H0),(45,.agg #[.bool x1.fe,W0])]) (fun ()=>[.cells H0 [.bool false,vN] 142,.cells G0 [.bool b2.fe,F1] 142]) J1 1 7 ?_ ?_
 rintro ⟨⟩ K6 g4 Y2
 try dsimp only
 refine Bq 3 15 c1 rfl rfl .plain (AC (news:=[.bool x1.fe,W0]) g4 .hd rfl rfl rfl rfl rfl rfl (o2 rfl (AA (Ah Q1 (Tt B1 (Tt B2 (Tt X2 (Tt q2 Y2)))))))) fun H6 K1 K4=>AG (dk c1)<|Ar rfl<|Ap hb0 func177 rfl (.cons (.many (cs:=[.bool b2.fe,F1]) rfl rfl (K1.memA .t1)) (.cons (.many (cs:=[.bool x1.fe,W0]) rfl rfl (K1.memA .hd)) .nil)) rfl ?_
 cases h
 have x3:=Tt q2 (Tt Y2 K4)
 exact ⟨K1.ag,fun w9 hw9=>⟨F1,W0,rfl,K1.kd (Ah v2 x3) hw9,K1.kd (Ah Q1 (Tt B1 (Tt B2 (Tt X2 x3)))) hw9⟩⟩
 intro M2
 refine BF [1,2] (rk c1) ⟨?_,?_,trivial⟩
 refine BM (m' :=3) (sk c1) rfl .plain rfl (Aw rfl (J1.memA .hd)) ?_
 have g5:=Ah v2 q2
 refine Bq 2 7 c1 rfl rfl .plain (AC (news:=[.bool b2.fe,F1]) J1 .t3 rfl rfl rfl rfl rfl rfl (o2 rfl (AA g5))) fun C5 j2 C2=>?_
 obtain ⟨j4,M4⟩:=Az j2 (.a2 (.a2 .done))
 exact M2 () j4 (Tt C2 M4)
 refine RO.now (m' :=5) (sk c1) rfl rfl .plain (AC (news:=[.bool b2.fe,F1]) J1 .t3 rfl rfl rfl rfl rfl rfl (o2 rfl (AA (Ah v2 q2)))) fun C5 j2 C2=>Rx 1 8 c1 rfl J3 (Aw rfl (j2.memA .hd)) ?_
 obtain ⟨k4,P4⟩:=Az j2 (.a2 (.a2 .done))
 exact M2 () k4 (Tt C2 P4)
 refine Av<|Ak<|du 2 fun d1 K3=>Rx 0 12 d1 rfl K3 (Aw rfl (x0.memA .t1))<|RD.mo (α:=Unit) (fun ()=>[(4,vP G0),(5,vP H0),(45,.agg #[.bool y1.fe,M0])]) (fun ()=>[.cells H0 [.bool false,vN] 142,.cells G0 [.bool Y0.fe,E0] 142]) x0 1 7 ?_ ?_
 rintro ⟨⟩ M6 p4 Q4
 try dsimp only
 have G2:=Tt s1 (Tt A1 Q4)
 refine Bq 3 15 d1 rfl rfl .plain (AC (news:=[.bool y1.fe,M0]) p4 .hd rfl rfl rfl rfl rfl rfl (o2 rfl (AA (Ah s2 G2)))) fun I6 M1 Z2=>AG (dk d1)<|Ar rfl<|Ap hb0 func177 rfl (.cons (.many (cs:=[.bool Y0.fe,E0]) rfl rfl (M1.memA .t1)) (.cons (.many (cs:=[.bool y1.fe,M0]) rfl rfl (M1.memA .hd)) .nil)) rfl ?_
 cases h
 exact ⟨M1.ag,fun w9 hw9=>⟨E0,M0,rfl,M1.kd (Ah C1 (Tt G2 Z2)) hw9,M1.kd (Ah s2 (Tt G2 Z2)) hw9⟩⟩
 intro P2
 refine BF [1,2] (rk d1) ⟨?_,?_,trivial⟩
 refine BM (m' :=3) (sk d1) rfl .plain rfl (Aw rfl (x0.memA .hd)) ?_
 have j5:=Ah C1 (Tt s1 A1)
 refine Bq 2 7 d1 rfl rfl .plain (AC (news:=[.bool Y0.fe,E0]) x0 .t3 rfl rfl rfl rfl rfl rfl (o2 rfl (AA j5))) fun D5 k2 D2=>?_
 obtain ⟨q4,R4⟩:=Az k2 (.a2 (.a2 .done))
 exact P2 () q4 (Tt D2 R4)
 refine RO.now (m' :=5) (sk d1) rfl rfl .plain (AC (news:=[.bool Y0.fe,E0]) x0 .t3 rfl rfl rfl rfl rfl rfl (o2 rfl (AA (Ah C1 (Tt s1 A1))))) fun D5 k2 D2=>Rx 1 8 d1 rfl K3 (Aw rfl (k2.memA .hd)) ?_
 obtain ⟨s4,U4⟩:=Az k2 (.a2 (.a2 .done))
 exact P2 () s4 (Tt D2 U4)
 intro v0
 refine BF [6,11,12] (rk b0) ⟨?_,?_,?_,trivial⟩
 refine RO.call (m' :=1023) (fst:=[]) (cap:=[]) (sk b0) rfl .plain (bd 178) rfl (e2 rfl rfl) (fun w9 hw9=>ab_c n (Z0.hL hL hw9) (Ai R1 hw9) U1) rfl fun G6 j6 c5 ⟨G1,hu_,D1⟩=>?_
 subst hu_
 obtain ⟨g2,z0⟩:=Z0.agr c5
 refine BF [10,11,12] (rk b0) ⟨?_,?_,?_,trivial⟩
 have v1:=Ah B0 z0
 refine RO.call (m' :=2047) (fst:=[]) (cap:=[]) (sk b0) rfl .plain (bd 178) rfl (e2 rfl rfl) (fun w9 hw9=>ab_c n (g2.hL hL hw9) (Ai v1 hw9) D0) rfl fun y2 x2 Q0 ⟨P0,hu_,K0⟩=>?_
 subst hu_
 obtain ⟨I0,J0⟩:=g2.agr Q0
 refine BF [11,12] (rk b0) ⟨?_,?_,trivial⟩
 refine RO.new (m' :=4095) (sk b0) rfl .plain rfl (Au [.bool false,vN] I0) fun j1 p0 j0 d0=>RD.nu 12 8191 b0 rfl .plain rfl (Au [.bool false,vN] j0) fun g1 k0 g0 c0=>?_
 obtain ⟨u4,b3⟩:=Az g0 (.a0 (.a0 (.a0 (.a0 (.a0 .done)))))
 have y3:=Tt J0 (Tt d0 (Tt c0 b3))
 exact v0 (G1,P0,k0,p0) u4 (Tt z0 y3) ⟨(Ah D1 y3),(Ah K0 (Tt d0 (Tt c0 b3)))⟩
 refine RO.new (m' :=6143) (sk b0) rfl .plain rfl (Au [.bool false,vN] I0) fun g1 k0 g0 c0=>RD.nu 11 8191 b0 rfl .plain rfl (Au [.bool false,vN] g0) fun j1 p0 j0 d0=>?_
 obtain ⟨v4,c3⟩:=Az j0 (.a1 (.a0 (.a0 (.a0 (.a0 .done)))))
 have z3:=Tt J0 (Tt c0 (Tt d0 c3))
 exact v0 (G1,P0,k0,p0) v4 (Tt z0 z3) ⟨(Ah D1 z3),(Ah K0 (Tt c0 (Tt d0 c3)))⟩
 refine RO.new (m' :=3071) (sk b0) rfl .plain rfl (Au [.bool false,vN] g2) fun j1 p0 j0 d0=>BF [10,12] (rk b0) ⟨?_,?_,trivial⟩
 have v1:=Ah B0 (Tt z0 d0)
 refine RO.call (m' :=4095) (fst:=[]) (cap:=[]) (sk b0) rfl .plain (bd 178) rfl (e2 rfl rfl) (fun w9 hw9=>ab_c n (j0.hL hL hw9) (Ai v1 hw9) D0) rfl fun y2 x2 Q0 ⟨P0,hu_,K0⟩=>?_
 subst hu_
 obtain ⟨I0,J0⟩:=j0.agr Q0
 refine RD.nu 12 8191 b0 rfl .plain rfl (Au [.bool false,vN] I0) fun g1 k0 g0 c0=>?_
 obtain ⟨x4,d3⟩:=Az g0 (.a0 (.a0 (.a0 (.a0 (.a0 .done)))))
 have A3:=Tt d0 (Tt J0 (Tt c0 d3))
 exact v0 (G1,P0,k0,p0) x4 (Tt z0 A3) ⟨(Ah D1 A3),(Ah K0 (Tt c0 d3))⟩
 refine RO.new (m' :=7167) (sk b0) rfl .plain rfl (Au [.bool false,vN] j0) fun g1 k0 g0 c0=>?_
 have u0:=Tt z0 (Tt d0 c0)
 have R0:=Ah B0 u0
 refine AW 10 8191 b0 rfl .plain (bd 178) rfl (e2 rfl rfl) (fun w9 hw9=>ab_c n (g0.hL hL hw9) (Ai R0 hw9) D0) rfl fun Y1 X1 A0 ⟨F0,hu_,C0⟩=>?_
 subst hu_
 obtain ⟨y0,t0⟩:=g0.agr A0
 obtain ⟨y4,g3⟩:=Az y0 (.a0 (.a0 (.a0 (.a0 (.a0 .done)))))
 have B3:=Tt d0 (Tt c0 (Tt t0 g3))
 exact v0 (G1,F0,k0,p0) y4 (Tt z0 B3) ⟨(Ah D1 B3),(Ah C0 g3)⟩
 refine RO.new (m' :=5119) (sk b0) rfl .plain rfl (Au [.bool false,vN] g2) fun g1 k0 g0 c0=>BF [10,11] (rk b0) ⟨?_,?_,trivial⟩
 have v1:=Ah B0 (Tt z0 c0)
 refine RO.call (m' :=6143) (fst:=[]) (cap:=[]) (sk b0) rfl .plain (bd 178) rfl (e2 rfl rfl) (fun w9 hw9=>ab_c n (g0.hL hL hw9) (Ai v1 hw9) D0) rfl fun y2 x2 Q0 ⟨P0,hu_,K0⟩=>?_
 subst hu_
 obtain ⟨I0,J0⟩:=g0.agr Q0
 refine RD.nu 11 8191 b0 rfl .plain rfl (Au [.bool false,vN] I0) fun j1 p0 j0 d0=>?_
 obtain ⟨z4,j3⟩:=Az j0 (.a1 (.a0 (.a0 (.a0 (.a0 .done)))))
 have C3:=Tt c0 (Tt J0 (Tt d0 j3))
 exact v0 (G1,P0,k0,p0) z4 (Tt z0 C3) ⟨(Ah D1 C3),(Ah K0 (Tt d0 j3))⟩
 refine RO.new (m' :=7167) (sk b0) rfl .plain rfl (Au [.bool false,vN] g0) fun j1 p0 j0 d0=>?_
 have u0:=Tt z0 (Tt c0 d0)
 have R0:=Ah B0 u0
 refine AW 10 8191 b0 rfl .plain (bd 178) rfl (e2 rfl rfl) (fun w9 hw9=>ab_c n (j0.hL hL hw9) (Ai R0 hw9) D0) rfl fun Y1 X1 A0 ⟨F0,hu_,C0⟩=>?_
 subst hu_
 obtain ⟨y0,t0⟩:=j0.agr A0
 obtain ⟨A4,k3⟩:=Az y0 (.a1 (.a0 (.a0 (.a0 (.a0 .done)))))
 have D3:=Tt c0 (Tt d0 (Tt t0 k3))
 exact v0 (G1,F0,k0,p0) A4 (Tt z0 D3) ⟨(Ah D1 D3),(Ah C0 k3)⟩
 refine RO.new (m' :=3007) (sk b0) rfl .plain rfl (Au [.bool false,vN] Z0) fun j1 p0 j0 d0=>BF [6,12] (rk b0) ⟨?_,?_,trivial⟩
 have P1:=Ah R1 d0
 refine RO.call (m' :=3071) (fst:=[]) (cap:=[]) (sk b0) rfl .plain (bd 178) rfl (e2 rfl rfl) (fun w9 hw9=>ab_c n (j0.hL hL hw9) (Ai P1 hw9) U1) rfl fun I2 H2 u1 ⟨X0,hu_,U0⟩=>?_
 subst hu_
 obtain ⟨q0,s0⟩:=j0.agr u1
 refine BF [10,12] (rk b0) ⟨?_,?_,trivial⟩
 have v1:=Ah B0 (Tt d0 s0)
 refine RO.call (m' :=4095) (fst:=[]) (cap:=[]) (sk b0) rfl .plain (bd 178) rfl (e2 rfl rfl) (fun w9 hw9=>ab_c n (q0.hL hL hw9) (Ai v1 hw9) D0) rfl fun y2 x2 Q0 ⟨P0,hu_,K0⟩=>?_
 subst hu_
 obtain ⟨I0,J0⟩:=q0.agr Q0
 refine RD.nu 12 8191 b0 rfl .plain rfl (Au [.bool false,vN] I0) fun g1 k0 g0 c0=>?_
 obtain ⟨B4,p3⟩:=Az g0 (.a0 (.a0 (.a0 (.a0 (.a0 .done)))))
 have E3:=Tt J0 (Tt c0 p3)
 exact v0 (X0,P0,k0,p0) B4 (Tt d0 (Tt s0 E3)) ⟨(Ah U0 E3),(Ah K0 (Tt c0 p3))⟩
 refine RO.new (m' :=7167) (sk b0) rfl .plain rfl (Au [.bool false,vN] q0) fun g1 k0 g0 c0=>?_
 have u0:=Tt d0 (Tt s0 c0)
 have R0:=Ah B0 u0
 refine AW 10 8191 b0 rfl .plain (bd 178) rfl (e2 rfl rfl) (fun w9 hw9=>ab_c n (g0.hL hL hw9) (Ai R0 hw9) D0) rfl fun Y1 X1 A0 ⟨F0,hu_,C0⟩=>?_
 subst hu_
 obtain ⟨y0,t0⟩:=g0.agr A0
 obtain ⟨C4,q3⟩:=Az y0 (.a0 (.a0 (.a0 (.a0 (.a0 .done)))))
 have F3:=Tt c0 (Tt t0 q3)
 exact v0 (X0,F0,k0,p0) C4 (Tt d0 (Tt s0 F3)) ⟨(Ah U0 F3),(Ah C0 q3)⟩
 refine RO.new (m' :=7103) (sk b0) rfl .plain rfl (Au [.bool false,vN] j0) fun g1 k0 g0 c0=>?_
 have P1:=Ah R1 (Tt d0 c0)
 refine AW 6 7167 b0 rfl .plain (bd 178) rfl (e2 rfl rfl) (fun w9 hw9=>ab_c n (g0.hL hL hw9) (Ai P1 hw9) U1) rfl fun I2 H2 u1 ⟨X0,hu_,U0⟩=>?_
 subst hu_
 obtain ⟨q0,s0⟩:=g0.agr u1
 have u0:=Tt d0 (Tt c0 s0)
 have R0:=Ah B0 u0
 refine AW 10 8191 b0 rfl .plain (bd 178) rfl (e2 rfl rfl) (fun w9 hw9=>ab_c n (q0.hL hL hw9) (Ai R0 hw9) D0) rfl fun Y1 X1 A0 ⟨F0,hu_,C0⟩=>?_
 subst hu_
 obtain ⟨y0,t0⟩:=q0.agr A0
 obtain ⟨D4,E2⟩:=Az y0 (.a0 (.a0 (.a0 (.a0 (.a0 .done)))))
 exact v0 (X0,F0,k0,p0) D4 (Tt u0 (Tt t0 E2)) ⟨(Ah U0 (Tt t0 E2)),(Ah C0 E2)⟩
 refine RO.new (m' :=5055) (sk b0) rfl .plain rfl (Au [.bool false,vN] Z0) fun g1 k0 g0 c0=>BF [6,11] (rk b0) ⟨?_,?_,trivial⟩
 have P1:=Ah R1 c0
 refine RO.call (m' :=5119) (fst:=[]) (cap:=[]) (sk b0) rfl .plain (bd 178) rfl (e2 rfl rfl) (fun w9 hw9=>ab_c n (g0.hL hL hw9) (Ai P1 hw9) U1) rfl fun I2 H2 u1 ⟨X0,hu_,U0⟩=>?_
 subst hu_
 obtain ⟨q0,s0⟩:=g0.agr u1
 refine BF [10,11] (rk b0) ⟨?_,?_,trivial⟩
 refine RO.call (m' :=6143) (fst:=[]) (cap:=[]) (sk b0) rfl .plain (bd 178) rfl (e2 rfl rfl) (fun w9 hw9=>ab_c n (q0.hL hL hw9) (Ai (Ah B0 (Tt c0 s0)) hw9) D0) rfl fun y2 x2 Q0 ⟨P0,hu_,K0⟩=>?_
 subst hu_
 obtain ⟨I0,J0⟩:=q0.agr Q0
 refine RD.nu 11 8191 b0 rfl .plain rfl (Au [.bool false,vN] I0) fun j1 p0 j0 d0=>?_
 obtain ⟨E4,s3⟩:=Az j0 (.a1 (.a0 (.a0 (.a0 (.a0 .done)))))
 have G3:=Tt J0 (Tt d0 s3)
 exact v0 (X0,P0,k0,p0) E4 (Tt c0 (Tt s0 G3)) ⟨(Ah U0 G3),(Ah K0 (Tt d0 s3))⟩
 refine RO.new (m' :=7167) (sk b0) rfl .plain rfl (Au [.bool false,vN] q0) fun j1 p0 j0 d0=>?_
 have u0:=Tt c0 (Tt s0 d0)
 have R0:=Ah B0 u0
 refine AW 10 8191 b0 rfl .plain (bd 178) rfl (e2 rfl rfl) (fun w9 hw9=>ab_c n (j0.hL hL hw9) (Ai R0 hw9) D0) rfl fun Y1 X1 A0 ⟨F0,hu_,C0⟩=>?_
 subst hu_
 obtain ⟨y0,t0⟩:=j0.agr A0
 obtain ⟨F4,u3⟩:=Az y0 (.a1 (.a0 (.a0 (.a0 (.a0 .done)))))
 have H3:=Tt d0 (Tt t0 u3)
 exact v0 (X0,F0,k0,p0) F4 (Tt c0 (Tt s0 H3)) ⟨(Ah U0 H3),(Ah C0 u3)⟩
 refine RO.new (m' :=7103) (sk b0) rfl .plain rfl (Au [.bool false,vN] g0) fun j1 p0 j0 d0=>AW 6 7167 b0 rfl .plain (bd 178) rfl (e2 rfl rfl) (fun w9 hw9=>ab_c n (j0.hL hL hw9) (Ai (Ah R1 (Tt c0 d0)) hw9) U1) rfl fun I2 H2 u1 ⟨X0,hu_,U0⟩=>?_
 subst hu_
 obtain ⟨q0,s0⟩:=j0.agr u1
 have u0:=Tt c0 (Tt d0 s0)
 refine AW 10 8191 b0 rfl .plain (bd 178) rfl (e2 rfl rfl) (fun w9 hw9=>ab_c n (q0.hL hL hw9) (Ai (Ah B0 u0) hw9) D0) rfl fun Y1 X1 A0 ⟨F0,hu_,C0⟩=>?_
 subst hu_
 obtain ⟨y0,t0⟩:=q0.agr A0
 obtain ⟨G4,F2⟩:=Az y0 (.a1 (.a0 (.a0 (.a0 (.a0 .done)))))
 exact v0 (X0,F0,k0,p0) G4 (Tt u0 (Tt t0 F2)) ⟨(Ah U0 (Tt t0 F2)),(Ah C0 F2)⟩
def aQ_p (n:Nat) (a0:Tf) (a1:Tf):Option Tg:=
  (aD_p n a0 a1).bind fun b0=>jn (fun (d0,g0)=>(bf_p n a0 (⟨d0,g0⟩:Tf)).bind fun k0=>(bf_p n a1 (⟨d0,g0⟩:Tf)).bind fun p0=>some (⟨k0.1,p0.1⟩:Tg)) (fun c0=>(if a1.fe = true then (bE_p n b0).bind fun j0=>c0 (j0.fe,j0.fD) else c0 (b0.fe,b0.fD)))
theorem aQ_c (n:Nat) {L w} (hL:hl L w) (a0:Tf) {v0_1:Value} (h0_1:Rep.R w L [v0_1] a0.fD) (a1:Tf) {v1_1:Value} (h1_1:Rep.R w L [v1_1] a1.fD)  {r:Tg} (h:aQ_p n a0 a1 = some r) :
 Cl 148 #[.agg #[.bool a0.fe,v0_1],.agg #[.bool a1.fe,v1_1]] w (ak w fun w' u=>∃ v0_1 v0_3:Value,u = .agg #[.bool r.fN.fe,v0_1,.bool r.fD.fe,v0_3]/\Rep.R w' L [v0_1] r.fN.fD/\Rep.R w' L [v0_3] r.fD.fD):=by
 unfold aQ_p at h
 refine AI func148 rfl rfl rfl fun _ cs0 hb0=>Ae<|RG.bx (AH w) rfl rfl fun M2 y0 z1 B2=>RG.bx z1 rfl rfl fun X2 z0 C1 C2=>RG.nl [.bool false,vN,.bool false,vN] C1 fun Y2 A0 g0 D2=>Aa<|Ae<|Ab (Aw rfl (g0.memA .t2))<|Ab (Aw rfl (g0.memA .t1))<|bk h fun x0 c2 h=>jE (bd 157) rfl (e2 rfl rfl) (fun w9 hw9=>aD_c n (g0.hL hL hw9) a0 (g0.km h0_1 hw9) a1 (g0.km h1_1 hw9) c2) rfl fun Z2 H2 R1 ⟨q1,hu_,M0⟩=>?_
 subst hu_
 obtain ⟨D1,E2⟩:=g0.agr R1
 refine RG.nl [.bool false,vN] D1 fun b3 B0 E1 G0=>AJ [.bool x0.fe,q1] E1 .hd (o2 rfl (AA (Ah M0 G0))) fun c3 j0 X0=>Aa<|Ak<|Ae<|Bo 0 rfl<|Bv rfl ((j0.memA .t2) 0 _ rfl)<|Aa<|MX.jf (α:=Bool × (List Int) × Value) (fun ⟨b0,c0,d0⟩=>[(2,vP y0),(3,vP z0),(4,vP A0),(5,vP B0)]) (fun ⟨b0,c0,d0⟩=>[.cells B0 [.bool b0,d0] 142,.cells A0 [.bool false,vN,.bool false,vN] 144,.cells z0 [.bool a1.fe,v1_1] 142,.cells y0 [.bool a0.fe,v0_1] 142]) (fun ⟨b0,c0,d0⟩ s1=>Rep.R s1 (bl [.cells B0 [.bool b0,d0] 142,.cells A0 [.bool false,vN,.bool false,vN] 144,.cells z0 [.bool a1.fe,v1_1] 142,.cells y0 [.bool a0.fe,v0_1] 142] ++ L) [d0] c0) (fun ⟨b0,c0,d0⟩=>(b0,c0)) j0 h ?_ ?_
 rintro ⟨b0,c0,d0⟩ s1 t0 F2 k1 h
 try dsimp only at h
 refine Ae<|Ab (Aw rfl (t0.memA .t3))<|Ab (Aw rfl (t0.memA .hd))<|bk h fun q0 d2 h=>jE (bd 177) rfl (e2 rfl rfl) (fun w9 hw9=>bf_c n (t0.hL hL hw9) a0 (t0.km h0_1 hw9) (⟨b0,c0⟩:Tf) (Ai k1 hw9) d2) rfl fun d3 I2 U1 ⟨p0,k2,hu_,P0,X1⟩=>?_
 subst hu_
 obtain ⟨F1,P1⟩:=t0.agr U1
 refine Ac rfl<|Ab (Af rfl rfl)<|Ab (Af rfl rfl)<|RG.nl [.bool false,vN] F1 fun g3 x2 G1 H0=>RG.nl [.bool false,vN] G1 fun j3 y2 H1 I0=>AJ [.bool q0.1.fe,p0] H1 .t1 (o2 rfl (AA (Ah P0 (Tt H0 I0)))) fun k3 I1 Y0=>?_
 have g1:=Tt H0 (Tt I0 Y0)
 refine AJ [.bool q0.2.fe,k2] I1 .hd (o2 rfl (AA (Ah X1 g1))) fun p3 u0 Z0=>Aa<|Ae<|Ab (Aw rfl (u0.memA .t4))<|Ab (Aw rfl (u0.memA .t2))<|bk h fun s0 g2 h=>jE (bd 177) rfl (e2 rfl rfl) (fun w9 hw9=>bf_c n (u0.hL hL hw9) a1 (u0.km h1_1 hw9) (⟨b0,c0⟩:Tf) (Ai (Ah k1 (Tt P1 (Tt H0 (Tt I0 (Tt Y0 Z0))))) hw9) g2) rfl fun q3 J2 V1 ⟨k0,j2,hu_,K0,W1⟩=>?_
 subst hu_
 obtain ⟨J1,K1⟩:=u0.agr V1
 refine Ac rfl<|Ab (Af rfl rfl)<|Ab (Af rfl rfl)<|RG.nl [.bool false,vN] J1 fun K2 u2 v1 D0=>RG.nl [.bool false,vN] v1 fun P2 v2 x1 E0=>AJ [.bool s0.1.fe,k0] x1 .t1 (o2 rfl (AA (Ah K0 (Tt D0 E0)))) fun Q2 y1 U0=>?_
 have J0:=Tt D0 (Tt E0 U0)
 refine AJ [.bool s0.2.fe,j2] y1 .hd (o2 rfl (AA (Ah W1 J0))) fun R2 C0 F0=>Aa<|Ae<|Ab (Aw rfl (C0.memA .t3))<|Ab (Aw rfl (C0.memA .t1)) ?_
 have d1:=Tt g1 (Tt Z0 (Tt K1 (Tt D0 (Tt E0 (Tt U0 F0)))))
 have b1:=Ah P0 d1
 obtain ⟨p2,z2,Y1,_⟩:=Bp b1
 have c1:=Ah K0 (Tt J0 F0)
 obtain ⟨q2,A2,Z1,_⟩:=Bp c1
 refine Ab (AR (vs:=[.agg #[.bool q0.1.fe,p0],.agg #[.bool s0.1.fe,k0]]) (u:=.agg #[.bool q0.1.fe,p0,.bool s0.1.fe,k0]) (e2 rfl rfl) (fun w9=>by rw [Y1,Z1]; try kernel_rfl))<|AJ [.bool q0.1.fe,p0,.bool s0.1.fe,k0] C0 .t5 (o4 rfl (AA b1) rfl (AA c1)) fun U2 v0 V0=>Aa<|Ar rfl<|Ap hb0 func148 rfl (.cons (.many (cs:=[.bool q0.1.fe,p0,.bool s0.1.fe,k0]) rfl rfl (v0.memA .t5)) .nil) rfl ?_
 cases h
 exact ⟨v0.ag,fun w9 hw9=>⟨p0,k0,rfl,v0.kd (Ah P0 (Tt d1 V0)) hw9,v0.kd (Ah K0 (Tt J0 (Tt F0 V0))) hw9⟩⟩
 intro s2 R0 h
 try dsimp only at h
 refine MX.ifb rfl h (fun u1 h=>?_) (fun u1 h=>?_)
 refine Ao<|Ab (Aw rfl (j0.memA .hd))<|bk h fun Q0 b2 h=>jE (bd 158) rfl (e1 rfl) (fun w9 hw9=>bE_c n (j0.hL hL hw9) x0 (Ai (Ah M0 (Tt G0 X0)) hw9) b2) rfl fun V2 G2 Q1 ⟨p1,hu_,j1⟩=>?_
 subst hu_
 obtain ⟨A1,M1⟩:=j0.agr Q1
 refine AJ [.bool Q0.fe,p1] A1 .hd (o2 rfl (AA j1)) fun W2 B1 W0=>Aa<|R0 (Q0.fe,Q0.fD,p1) B1 (Tt M1 W0) (Ah j1 W0) h
 refine Av<|R0 (x0.fe,x0.fD,q1) j0 (BI _ _) (Ah M0 (Tt G0 X0)) h
def bt_p (n:Nat) (a0:Int) (a1:Int):Option Tg:=
  (aG_p n a0).bind fun b0=>(aG_p n a1).bind fun c0=>(aQ_p n b0 c0).bind fun d0=>some d0
theorem bt_c (n:Nat) {L w} (hL:hl L w) {a0:Int} {a1:Int}  {r:Tg} (h:bt_p n a0 a1 = some r) :
 Cl 97 #[vI a0,vI a1] w (ak w fun w' u=>∃ v0_1 v0_3:Value,u = .agg #[.bool r.fN.fe,v0_1,.bool r.fD.fe,v0_3]/\Rep.R w' L [v0_1] r.fN.fD/\Rep.R w' L [v0_3] r.fD.fD):=by
 unfold bt_p at h
 refine AI func97 rfl rfl rfl fun _ cs0 hb0=>Ae<|RG.nl [.bool false,vN,.bool false,vN] (AH w) fun V0 H0 j0 I0=>Aa<|Ae<|Ac rfl<|bk h fun F0 C0 h=>jE (bd 149) rfl (e1 rfl) (fun w9 hw9=>aG_c n (j0.hL hL hw9)  C0) rfl fun W0 Q0 x0 ⟨M0,hu_,A0⟩=>?_
 subst hu_
 obtain ⟨k0,J0⟩:=j0.agr x0
 refine Ac rfl<|bk h fun G0 D0 h=>jE (bd 149) rfl (e1 rfl) (fun w9 hw9=>aG_c n (k0.hL hL hw9)  D0) rfl fun X0 R0 y0 ⟨P0,hu_,B0⟩=>?_
 subst hu_
 obtain ⟨p0,v0⟩:=k0.agr y0
 refine bk h fun c0 E0 h=>jE (bd 148) rfl (e2 rfl rfl) (fun w9 hw9=>aQ_c n (p0.hL hL hw9) F0 (Ai (Ah A0 v0) hw9) G0 (Ai B0 hw9) E0) rfl fun Y0 U0 z0 ⟨d0,g0,hu_,s0,t0⟩=>?_
 subst hu_
 obtain ⟨u0,K0⟩:=p0.agr z0
 refine AJ [.bool c0.fN.fe,d0,.bool c0.fD.fe,g0] u0 .hd (o4 rfl (AA s0) rfl (AA t0)) fun Z0 b0 q0=>Aa<|Ar rfl<|Ap hb0 func97 rfl (.cons (.many (cs:=[.bool c0.fN.fe,d0,.bool c0.fD.fe,g0]) rfl rfl (b0.memA .hd)) .nil) rfl ?_
 cases h
 exact ⟨b0.ag,fun w9 hw9=>⟨d0,g0,rfl,b0.kd (Ah s0 q0) hw9,b0.kd (Ah t0 q0) hw9⟩⟩
def cy_p (n:Nat) (a0:Int) (a1:Int):Option (Tb × Int):=
  (if a1 = 0 then some ((⟨(0,0,0,0,0,0,0,0),(0,0,0,0,0,0,0,0)⟩:Tb),(7:Int)) else (bt_p n a0 a1).bind fun c0=>(bb_p n c0).bind fun b0=>some (b0.1,b0.2))
theorem cy_c (n:Nat) {L w} (hL:hl L w) {a0:Int} {a1:Int}  {r:Tb × Int} (h:cy_p n a0 a1 = some r) :
 Cl 34 #[vI a0,vI a1] w (ak w fun _ u=>u = .tuple #[.agg ((aa r.1)).toArray,vI r.2]):=by
 unfold cy_p at h
 refine AI func34 rfl rfl rfl fun _ cs0 hb0=>Ae<|RG.nl zL (AH w) fun F0 x0 d0 y0=>Ag rfl<|Aa<|Ak<|Ae<|Ac rfl<|Ab (FV.eql (i:=a1) (j:=0) rfl rfl)<|Aa<|AV rfl h (fun k0 h=>?_) (fun k0 h=>?_)
 refine Ae<|Ab (AR (vs:=[]) (u:=.agg zM) ar (fun w9=>by kernel_rfl))<|AJ zL d0 .hd (ai rfl) fun G0 g0 z0=>Ag rfl<|Aa<|Ar rfl<|Ap hb0 func34 rfl (.cons (.many (cs:=zL) rfl rfl (g0.memA .hd)) (.cons (.tmp rfl) .nil)) rfl ?_
 cases h
 exact g0.gv
 refine Av<|Ae<|Ac rfl<|Ac rfl<|bk h fun v0 t0 h=>jE (bd 97) rfl (e2 rfl rfl) (fun w9 hw9=>bt_c n (d0.hL hL hw9)  t0) rfl fun H0 E0 p0 ⟨C0,D0,hu_,q0,s0⟩=>?_
 subst hu_
 obtain ⟨b0,A0⟩:=d0.agr p0
 refine bk h fun c0 u0 h=>Bb (.tuple #[.agg ((aa c0.1)).toArray,vI c0.2]) (bd 96) rfl (e1 rfl) (fun w9 hw9=>bb_c n (b0.hL0 hL hw9) v0 (b0.kd q0 hw9) (b0.kd s0 hw9) u0) rfl<|Ab (Af rfl rfl)<|Ab (Af rfl rfl)<|AJ (aa c0.1) b0 .hd (ai rfl) fun I0 j0 B0=>Ag rfl<|Aa<|Ar rfl<|Ap hb0 func34 rfl (.cons (.many (cs:=(aa c0.1)) rfl rfl (j0.memA .hd)) (.cons (.tmp rfl) .nil)) rfl ?_
 cases h
 exact j0.gv
structure Tk where
  fe:Bool
  fBits:List UInt16
  fp:UInt32
  deriving DecidableEq
instance:Rep Tk:=Rep.via (β:=Bool × (List UInt16) × UInt32) fun x=>(x.fe,x.fBits,x.fp)
def aK_p (_n:Nat) (a0:Tk):Option Int:=
  (if a0.fe = true then some (-(((a0.fp % (1000001:UInt32)).toNat:Nat):Int)) else some (((a0.fp % (1000001:UInt32)).toNat:Nat):Int))
theorem aK_c (n:Nat) {L w} (_hL:hl L w) (a0:Tk) {v0_1:Value} (_h0_1:Rep.R w L [v0_1] a0.fBits)  {r:Int} (h:aK_p n a0 = some r) :
 Cl 111 #[.agg #[.bool a0.fe,v0_1,.int .u32 (a0.fp.toNat:Int)]] w (ak w fun _ u=>u = vI r):=by
 unfold aK_p at h
 refine AI func111 rfl rfl rfl fun _ cs0 hb0=>Ae<|RG.bx (AH w) rfl rfl fun k0 d0 b0 g0=>Ag rfl<|Aa<|Ae<|Bo 2 rfl<|Bv rfl ((b0.memA .hd) 2 _ rfl)<|Ab (FV.rem32 (a:=a0.fp) (b:=(1000001:UInt32)) rfl rfl (by decide)) ?_
 have j0:=(a0.fp % (1000001:UInt32)).toNat_lt
 refine Ab (FV.convN (i:=(a0.fp % (1000001:UInt32)).toNat) underlying75 underlying3 rfl (by omega))<|Ag rfl<|Aa<|Ak<|Ae<|Bo 0 rfl<|Bv rfl ((b0.memA .hd) 0 _ rfl)<|Aa<|MX.ifb rfl h (fun c0 h=>?_) (fun c0 h=>?_)
 refine Ae<|Ac rfl<|Ab (FV.negI (i:=(((a0.fp % (1000001:UInt32)).toNat:Nat):Int)) rfl (by omega))<|Ag rfl<|Aa<|Ar rfl<|Be hb0 func111 rfl rfl ?_
 cases h
 exact b0.gv
 refine Av<|Ae<|Ac rfl<|Ag rfl<|Aa<|Ar rfl<|Be hb0 func111 rfl rfl ?_
 cases h
 exact b0.gv
def bh_p (n:Nat) (a0:Int):Option (U8):=
  (aG_p n a0).bind fun b0=>(av_p n b0).bind fun c0=>some c0.1
theorem bh_c (n:Nat) {L w} (hL:hl L w) {a0:Int}  {r:U8} (h:bh_p n a0 = some r) :
 Cl 113 #[vI a0] w (ak w fun _ u=>u = .agg ((aj r)).toArray):=by
 unfold bh_p at h
 refine AI func113 rfl rfl rfl fun _ cs0 hb0=>Ae<|RG.nl zP (AH w) fun F0 v0 d0 y0=>Aa<|Ae<|Ac rfl<|bk h fun u0 s0 h=>jE (bd 149) rfl (e1 rfl) (fun w9 hw9=>aG_c n (d0.hL hL hw9)  s0) rfl fun G0 E0 p0 ⟨D0,hu_,q0⟩=>?_
 subst hu_
 obtain ⟨c0,z0⟩:=d0.agr p0
 refine bk h fun b0 t0 h=>Bb (.tuple #[.agg ((aj b0.1)).toArray,vI b0.2]) (bd 147) rfl (e1 rfl) (fun w9 hw9=>av_c n (c0.hL0 hL hw9) u0 (c0.kd q0 hw9) t0) rfl<|Ac rfl<|Ab (Af rfl rfl)<|Ab (Af rfl rfl)<|RG.nl zP c0 fun H0 x0 k0 A0=>AJ (aj b0.1) k0 .hd (ai rfl) fun I0 g0 B0=>Ag rfl<|Aa<|Ae<|Ab (Aw rfl (g0.memA .hd))<|AJ (aj b0.1) g0 .t1 (ai rfl) fun w32 j0 C0=>Aa<|Ar rfl<|Ap hb0 func113 rfl (.cons (.many (cs:=(aj b0.1)) rfl rfl (j0.memA .t1)) .nil) rfl ?_
 cases h
 exact j0.gv
def aR_l1 (_n:Nat) (a0:U8) (g0:Nat × (List Int) -> Option (List Int)):Nat × (List Int) -> Option (List Int)
  | (b0,c0)=>(if b0 < 8 then (([a0.1,a0.2.1,a0.2.2.1,a0.2.2.2.1,a0.2.2.2.2.1,a0.2.2.2.2.2.1,a0.2.2.2.2.2.2.1,a0.2.2.2.2.2.2.2]:List UInt64)[b0]?).bind fun d0=>(app c0 ([aC (d0 % (4294967296:UInt64)),aC (d0 / (4294967296:UInt64))]:List Int)).bind fun j0=>g0 (b0 + 1,j0) else some c0)
def aR_p (n:Nat) (a0:U8):Option (List Int):=
  Option.bind (ao (aR_l1 n a0) n (0,([]:List Int))) (fun b0=>some b0)
theorem aR_c (n:Nat) {L w} (hL:hl L w) (a0:U8)  {r:List Int} (h:aR_p n a0 = some r) :
 Cl 180 #[.agg ((aj a0)).toArray] w (ak w fun w' u=>∃ v0_0:Value,u = v0_0/\Rep.R w' L [v0_0] r):=by
 unfold aR_p at h
 refine AI func180 rfl rfl rfl fun _ cs0 hb0=>Ae<|RG.bx (AH w) rfl rfl fun j1 s0 x0 Z0=>Ag rfl<|Aa<|Ae<|Ag rfl<|Aa<|Ak<|Ae<|Ag rfl<|Aa<|Ax ?_
 have y0:=x0.nilRow 3 (Rep.size Int)
 have b1:=St.nilRowT x0 3 (Rep.size Int)
 obtain ⟨c1,P0,M0⟩:=am h
 refine MX.lf (α:=Nat × (List Int) × Value × (List Value)) (fun ⟨d0,k0,j0,p0⟩=>[(1,vP s0),(3,j0),(4,vI ((d0:Nat):Int))]) (fun ⟨d0,k0,j0,p0⟩=>[rr w 3 Int j0 k0.length p0,.cells s0 (aj a0) 32]) (fun ⟨d0,k0,j0,p0⟩ C0=>Cells C0 (bl [rr w 3 Int j0 k0.length p0,.cells s0 (aj a0) 32] ++ L) p0 k0) (fun ⟨d0,k0,j0,p0⟩=>(d0,k0)) (0,([]:List Int),vN,[]) P0 y0 (AK (cs:=[]) (xs:=([]:List Int)) y0 L (AO _ _)) ?_
 rintro W0 ⟨d0,k0,j0,p0⟩ C0 F0 q0 J0 B0 h
 unfold aR_l1 at h
 try dsimp only at h
 refine Ak<|Ae<|Ac rfl<|Ab (AY (i:=d0) (j:=8) rfl rfl)<|Aa<|AV rfl h (fun D0 h=>?_) (fun D0 h=>?_)
 refine Av<|Ak<|Ax<|du 12 fun c0 g0=>Rv 0 c0 rfl g0 (fun _=>Aq rfl)<|Rv 1 c0 rfl g0 (fun _=>Aq rfl)<|bk h fun b0 t0 h=>Rv 2 c0 rfl g0 (fun _=>AP (m:=1) (k:=d0) (len:=8) rfl rfl rfl rfl (bG t0 rfl))<|Rx 3 14384 c0 rfl g0 (Bj rfl ((aT (p:=⟨s0,0,none⟩) (cs:=([a0.1,a0.2.1,a0.2.2.1,a0.2.2.2.1,a0.2.2.2.2.1,a0.2.2.2.2.2.1,a0.2.2.2.2.2.2.1,a0.2.2.2.2.2.2.2]:List UInt64).map (fun z9:UInt64=>(vU z9:Value)) ++ []) (i:=d0) (q0.memA .t1) (bC (fun z9:UInt64=>(vU z9:Value)) t0)) 0 _ rfl))<|Rv 4 c0 rfl g0 (fun _=>FV.remU (a:=b0) (b:=(4294967296:UInt64)) rfl rfl (by decide))<|Rv 5 c0 rfl g0 (fun _=>FV.convUI (a:=b0 % (4294967296:UInt64)) underlying30 underlying3 rfl)<|Rv 6 c0 rfl g0 (fun _=>Aq rfl)<|Rv 7 c0 rfl g0 (fun _=>AP (m:=1) (k:=d0) (len:=8) rfl rfl rfl rfl (bG t0 rfl))<|Rx 8 15872 c0 rfl g0 (Bj rfl ((aT (p:=⟨s0,0,none⟩) (cs:=([a0.1,a0.2.1,a0.2.2.1,a0.2.2.2.1,a0.2.2.2.2.1,a0.2.2.2.2.2.1,a0.2.2.2.2.2.2.1,a0.2.2.2.2.2.2.2]:List UInt64).map (fun z9:UInt64=>(vU z9:Value)) ++ []) (i:=d0) (q0.memA .t1) (bC (fun z9:UInt64=>(vU z9:Value)) t0)) 0 _ rfl))<|Rv 9 c0 rfl g0 (fun _=>FV.quoU (a:=b0) (b:=(4294967296:UInt64)) rfl rfl (by decide))<|Rv 10 c0 rfl g0 (fun _=>FV.convUI (a:=b0 / (4294967296:UInt64)) underlying30 underlying3 rfl)<|RD.nu 11 4095 c0 rfl .plain rfl (AS (α:=Int) (xs:=([aC (b0 % (4294967296:UInt64)),aC (b0 / (4294967296:UInt64))]:List Int)) (vs:=[vI (aC (b0 % (4294967296:UInt64))),vI (aC (b0 / (4294967296:UInt64)))]) (ds' :=[vI (aC (b0 % (4294967296:UInt64))),vI (aC (b0 / (4294967296:UInt64)))]) rfl q0 aY rfl (e2 rfl rfl) (by kernel_rfl) rfl) fun k1 X0 v0 A0=>bk h fun V0 R0 h=>BH (i:=12) (rk c0) (RO.doesL (m' :=8191) (sk c0) rfl rfl .plain rfl (Bl (α:=Int) (ys:=([aC (b0 % (4294967296:UInt64)),aC (b0 / (4294967296:UInt64))]:List Int)) R0 v0 (fun _ _=>.t1) aY rfl rfl (AT B0 A0) (BJ (α:=Int) v0 .hd (AK (cs:=[vI (aC (b0 % (4294967296:UInt64))),vI (aC (b0 / (4294967296:UInt64)))]) (xs:=(([aC (b0 % (4294967296:UInt64)),aC (b0 / (4294967296:UInt64))]:List Int):List Int)) v0 L (AD (cs:=[vI (aC (b0 % (4294967296:UInt64)))]) (ds:=[vI (aC (b0 / (4294967296:UInt64)))]) rfl (AD (cs:=[vI (aC (b0 / (4294967296:UInt64)))]) (ds:=[]) rfl (AO _ _)))))) (fun U0 g1 ⟨E0,G0,I0,K0⟩=>?_))
 refine BH (i:=13) (rk c0) (BM (m' :=16383) (sk c0) rfl .plain rfl (Bc rfl) ?_)
 refine AG (dk c0)<|Ay<|Ao<|Ac rfl<|Ab (Bf (i:=d0) (j:=1) rfl rfl (by omega))<|Ag rfl<|Aa ?_
 obtain ⟨H0,z0⟩:=Az G0 .d1
 exact F0 (d0 + 1,V0,U0,E0) H0 (Tt J0 (Tt A0 (Tt I0 z0))) (AT K0 z0) h
 refine Ba rfl ?_
 have h:=M0 _ h
 try dsimp only at h
 refine Ae<|Ac rfl<|Ag rfl<|Aa<|Ar rfl ?_
 have u0:=BC q0 .hd
 have Y0:=BD q0 .hd
 have Q0:=BE (α:=Int) (v:=j0) (xs:=k0) u0 L (Bm (α:=Int) q0 .hd B0 hL)
 refine Be hb0 func180 rfl rfl ?_
 cases h
 exact ⟨u0.ag,fun w9 hw9=>⟨j0,rfl,u0.kd Q0 hw9⟩⟩
def aj_p (n:Nat) (a0:U8):Option Tf:=
  (aR_p n a0).bind fun c0=>(if a0.2.2.2.2.2.2.2 < (9223372036854775808:UInt64) then (ab_p n false c0).bind fun g0=>some g0 else (mk 17 (0:Int)).bind fun b0=>(b0[16]?).bind fun _x49=>(put b0 ((16:Nat):Int) (1:Int)).bind fun d0=>(au_p n c0).bind fun j0=>(am_p n d0 j0).bind fun k0=>(ab_p n true k0).bind fun p0=>some p0)
theorem aj_c (n:Nat) {L w} (hL:hl L w) (a0:U8)  {r:Tf} (h:aj_p n a0 = some r) :
 Cl 152 #[.agg ((aj a0)).toArray] w (ak w fun w' u=>∃ v0_1:Value,u = .agg #[.bool r.fe,v0_1]/\Rep.R w' L [v0_1] r.fD):=by
 unfold aj_p at h
 refine AI func152 rfl rfl rfl fun _ cs0 hb0=>Ae<|RG.bx (AH w) rfl rfl fun g2 D1 J0 J1=>RG.nl [.bool false,vN] J0 fun j2 E1 c0 K1=>Aa<|Ae<|Ab (Aw rfl (c0.memA .t1))<|bk h fun A2 u1 h=>jE (bd 180) rfl (e1 rfl) (fun w9 hw9=>aR_c n (c0.hL hL hw9) a0 u1) rfl fun k2 Y1 W0 ⟨V1,hu_,A0⟩=>?_
 subst hu_
 obtain ⟨b0,M1⟩:=c0.agr W0
 refine Ag rfl<|Aa<|Ak<|Ae<|Ab (AP (m:=1) (k:=7) (len:=8) rfl rfl rfl rfl (by omega))<|Bv rfl ((b0.memA .t1) 7 _ rfl)<|Ab (FV.lssU (a:=a0.2.2.2.2.2.2.2) (b:=(9223372036854775808:UInt64)) rfl rfl)<|Aa<|AV rfl h (fun H0 h=>?_) (fun H0 h=>?_)
 refine Ae<|Ac rfl<|bk h fun D0 v1 h=>jE (bd 178) rfl (e2 rfl rfl) (fun w9 hw9=>ab_c n (b0.hL hL hw9) (Ai A0 hw9) v1) rfl fun p2 Z1 X0 ⟨s0,hu_,B0⟩=>?_
 subst hu_
 obtain ⟨K0,P1⟩:=b0.agr X0
 refine AJ [.bool D0.fe,s0] K0 .hd (o2 rfl (AA B0)) fun q2 d0 Q0=>Aa<|Ar rfl<|Ap hb0 func152 rfl (.cons (.many (cs:=[.bool D0.fe,s0]) rfl rfl (d0.memA .hd)) .nil) rfl ?_
 cases h
 exact ⟨d0.ag,fun w9 hw9=>⟨s0,rfl,d0.kd (Ah B0 Q0) hw9⟩⟩
 refine Av<|Ae<|bk h fun z2 q1 h=>RG.doesH .plain rfl (Does.mkH (α:=Int) (L:=L) q1 b0 aY rfl (fun _ _=>rfl)) fun A1 s2 ⟨H1,g0,R0,x0⟩=>Ag rfl<|Aa<|Ae<|Ac rfl<|bk h fun B1 p1 h=>?_
 obtain ⟨F0,F1,q0,z0,I0,g1,U1⟩:=St.nth (α:=Int) g0 .hd x0 p1
 obtain ⟨G0,G1,y0⟩:=St.nthOwn (α:=Int) g0 .hd z0
 obtain rfl:F0 = ⟨G0,0,none⟩:=by rw [y0] at q0; cases q0; rfl
 have d1:I0 = [vI B1]:=g1; subst d1
 refine Ab (Bs 1 16 rfl q0 rfl rfl z0)<|bk h fun C1 s1 h=>RG.acts' .plain (Acts.set (α:=Int) (i:=16) s1 g0 y0 (fun _=>.hd) x0 rfl rfl rfl rfl rfl rfl) fun t2 ⟨I1,u0,U0,c1⟩=>Aa<|Ae<|Ac rfl<|Ac rfl<|bk h fun B2 x1 h=>jE (bd 181) rfl (e1 rfl) (fun w9 hw9=>au_c n (u0.hL hL hw9) (Ai (Ah A0 (Tt R0 U0)) hw9) x1) rfl fun u2 b2 Y0 ⟨W1,hu_,j1⟩=>?_
 subst hu_
 obtain ⟨j0,V0⟩:=u0.agr Y0
 have k0:=BC j0 .hd
 refine bk h fun C2 y1 h=>jE (bd 176) rfl (e2 rfl rfl) (fun w9 hw9=>am_c n (k0.hL hL hw9) (Ai (BE (α:=Int) (v:=A1) (xs:=C1) k0 L (Bm (α:=Int) j0 .hd (AT c1 V0) hL)) hw9) (Ai (Ah j1 (BD j0 .hd)) hw9) y1) rfl fun v2 c2 Z0 ⟨X1,hu_,k1⟩=>?_
 subst hu_
 obtain ⟨v0,Q1⟩:=k0.agr Z0
 refine bk h fun E0 z1 h=>jE (bd 178) rfl (e2 rfl rfl) (fun w9 hw9=>ab_c n (v0.hL hL hw9) (Ai k1 hw9) z1) rfl fun x2 d2 b1 ⟨t0,hu_,C0⟩=>?_
 subst hu_
 obtain ⟨M0,R1⟩:=v0.agr b1
 refine AJ [.bool E0.fe,t0] M0 .hd (o2 rfl (AA C0)) fun y2 p0 P0=>Aa<|Ar rfl<|Ap hb0 func152 rfl (.cons (.many (cs:=[.bool E0.fe,t0]) rfl rfl (p0.memA .hd)) .nil) rfl ?_
 cases h
 exact ⟨p0.ag,fun w9 hw9=>⟨t0,rfl,p0.kd (Ah C0 P0) hw9⟩⟩
def bL_p (n:Nat) (a0:U8) (a1:U8):Option (Tb × Int):=
  (if a1 = (0,0,0,0,0,0,0,0) then some ((⟨(0,0,0,0,0,0,0,0),(0,0,0,0,0,0,0,0)⟩:Tb),(7:Int)) else (aj_p n a0).bind fun c0=>(aj_p n a1).bind fun d0=>(aQ_p n c0 d0).bind fun g0=>(bb_p n g0).bind fun b0=>some (b0.1,b0.2))
theorem bL_c (n:Nat) {L w} (hL:hl L w) (a0:U8) (a1:U8)  {r:Tb × Int} (h:bL_p n a0 a1 = some r) :
 Cl 155 #[.agg ((aj a0)).toArray,.agg ((aj a1)).toArray] w (ak w fun _ u=>u = .tuple #[.agg ((aa r.1)).toArray,vI r.2]):=by
 unfold bL_p at h
 refine AI func155 rfl rfl rfl fun _ cs0 hb0=>Ae<|RG.bx (AH w) rfl rfl fun s1 P0 u0 U0=>RG.bx u0 rfl rfl fun u1 Q0 v0 V0=>RG.nl zL v0 fun v1 R0 c0 W0=>Ag rfl<|Aa<|Ak<|Ae<|Ab (Aw rfl (c0.memA .t1))<|Ab (AR (vs:=[]) (u:=.agg zQ) ar (fun w9=>by kernel_rfl))<|Ab (FV.eqlV (v:=.agg ((aj a1)).toArray) (u:=.agg zQ) rfl rfl (mp a1 (0,0,0,0,0,0,0,0)))<|Aa<|AV rfl h (fun t0 h=>?_) (fun t0 h=>?_)
 refine Ae<|Ab (AR (vs:=[]) (u:=.agg zM) ar (fun w9=>by kernel_rfl))<|AJ zL c0 .hd (ai rfl) fun x1 k0 X0=>Ag rfl<|Aa<|Ar rfl<|Ap hb0 func155 rfl (.cons (.many (cs:=zL) rfl rfl (k0.memA .hd)) (.cons (.tmp rfl) .nil)) rfl ?_
 cases h
 exact k0.gv
 refine Av<|Ak<|du 8 fun b0 d0=>Rx 0 1018 b0 rfl d0 (Aw rfl (c0.memA .t2))<|Rx 2 1016 b0 rfl d0 (Aw rfl (c0.memA .t1))<|bk h fun J0 F0 h=>AW 1 7 b0 rfl .plain (bd 152) rfl (e1 rfl) (fun w9 hw9=>aj_c n (c0.hL hL hw9) a0 F0) rfl fun w32 k1 y0 ⟨c1,hu_,B0⟩=>?_
 subst hu_
 obtain ⟨p0,Y0⟩:=c0.agr y0
 refine bk h fun K0 G0 h=>AW 3 15 b0 rfl .plain (bd 152) rfl (e1 rfl) (fun w9 hw9=>aj_c n (p0.hL hL hw9) a1 G0) rfl fun y1 p1 z0 ⟨d1,hu_,C0⟩=>?_
 subst hu_
 obtain ⟨q0,x0⟩:=p0.agr z0
 refine bk h fun M0 H0 h=>AW 4 31 b0 rfl .plain (bd 148) rfl (e2 rfl rfl) (fun w9 hw9=>aQ_c n (q0.hL hL hw9) J0 (Ai (Ah B0 x0) hw9) K0 (Ai C0 hw9) H0) rfl fun z1 q1 A0 ⟨g1,j1,hu_,D0,E0⟩=>?_
 subst hu_
 obtain ⟨g0,Z0⟩:=q0.agr A0
 refine bk h fun j0 I0 h=>RD.cq 5 63 960 (.tuple #[.agg ((aa j0.1)).toArray,vI j0.2]) b0 rfl d0 (bd 96) rfl (e1 rfl) (fun w9 hw9=>bb_c n (g0.hL0 hL hw9) M0 (g0.kd D0 hw9) (g0.kd E0 hw9) I0) rfl<|Rv 6 b0 rfl d0 (fun _=>Af rfl rfl)<|Rv 7 b0 rfl d0 (fun _=>Af rfl rfl)<|Bq 8 511 b0 rfl rfl .plain (AC (news:=(aa j0.1)) g0 .hd rfl rfl rfl rfl rfl rfl (ai rfl)) fun A1 s0 b1=>BH (i:=9) (rk b0) (BM (m' :=1023) (sk b0) rfl .plain rfl (Bc rfl) ?_)
 refine AG (dk b0)<|Ar rfl<|Ap hb0 func155 rfl (.cons (.many (cs:=(aa j0.1)) rfl rfl (s0.memA .hd)) (.cons (.tmp rfl) .nil)) rfl ?_
 cases h
 exact s0.gv
def bM_p (n:Nat) (a0:U8) (a1:U8):Option Tb:=
  (bL_p n a0 a1).bind fun b0=>(if b0.2 = 0 then some b0.1 else (bh_p n (1:Int)).bind fun c0=>(bL_p n a0 c0).bind fun d0=>some d0.1)
theorem bM_c (n:Nat) {L w} (hL:hl L w) (a0:U8) (a1:U8)  {r:Tb} (h:bM_p n a0 a1 = some r) :
 Cl 112 #[.agg ((aj a0)).toArray,.agg ((aj a1)).toArray] w (ak w fun _ u=>u = .agg ((aa r)).toArray):=by
 unfold bM_p at h
 refine AI func112 rfl rfl rfl fun _ cs0 hb0=>Ae<|RG.bx (AH w) rfl rfl fun R0 C0 v0 G0=>RG.bx v0 rfl rfl fun U0 D0 x0 H0=>RG.nl zL x0 fun V0 E0 k0 I0=>Aa<|Ae<|Ab (Aw rfl (k0.memA .t2))<|Ab (Aw rfl (k0.memA .t1))<|bk h fun g0 z0 h=>Bb (.tuple #[.agg ((aa g0.1)).toArray,vI g0.2]) (bd 155) rfl (e2 rfl rfl) (fun w9 hw9=>bL_c n (k0.hL0 hL hw9) a0 a1 z0) rfl<|Ac rfl<|Ab (Af rfl rfl)<|Ab (Af rfl rfl)<|RG.nl zL k0 fun W0 F0 y0 J0=>AJ (aa g0.1) y0 .hd (ai rfl) fun X0 c0 K0=>Ag rfl<|Aa<|Ak<|Ae<|Ac rfl<|Ab (Bw (i:=g0.2) (j:=0) rfl rfl)<|Aa<|BN rfl h (fun u0 h=>?_) (fun u0 h=>?_)
 refine Av<|Ae<|Ab (Aw rfl (c0.memA .hd))<|AJ (aa g0.1) c0 .t1 (ai rfl) fun Y0 p0 M0=>Aa<|Ar rfl<|Ap hb0 func112 rfl (.cons (.many (cs:=(aa g0.1)) rfl rfl (p0.memA .t1)) .nil) rfl ?_
 cases h
 exact p0.gv
 refine du 6 fun b0 d0=>Rx 0 124 b0 rfl d0 (Aw rfl (c0.memA .t3))<|bk h fun t0 A0 h=>RD.cq 1 3 124 (.agg ((aj t0)).toArray) b0 rfl d0 (bd 113) rfl (e1 rfl) (fun w9 hw9=>bh_c n (c0.hL0 hL hw9)  A0) rfl<|bk h fun j0 B0 h=>RD.cq 2 7 120 (.tuple #[.agg ((aa j0.1)).toArray,vI j0.2]) b0 rfl d0 (bd 155) rfl (e2 rfl rfl) (fun w9 hw9=>bL_c n (c0.hL0 hL hw9) a0 t0 B0) rfl<|Rv 3 b0 rfl d0 (fun _=>Aq rfl)<|Rv 4 b0 rfl d0 (fun _=>Af rfl rfl)<|Rv 5 b0 rfl d0 (fun _=>Af rfl rfl)<|Bq 6 127 b0 rfl rfl .plain (AC (news:=(aa j0.1)) c0 .hd rfl rfl rfl rfl rfl rfl (ai rfl)) fun Z0 q0 P0=>AG (dk b0)<|Ae<|Ab (Aw rfl (q0.memA .hd))<|AJ (aa j0.1) q0 .t1 (ai rfl) fun b1 s0 Q0=>Aa<|Ar rfl<|Ap hb0 func112 rfl (.cons (.many (cs:=(aa j0.1)) rfl rfl (s0.memA .t1)) .nil) rfl ?_
 cases h
 exact s0.gv
structure Th where
  fN:Tk
  fD:Tk
  deriving DecidableEq
instance:Rep Th:=Rep.via (β:=Tk × Tk) fun x=>(x.fN,x.fD)
def aF_p (n:Nat) (a0:Th):Option Tb:=
  (aK_p n a0.fD).bind fun b0=>jn (fun u0=>(aK_p n a0.fN).bind fun p0=>(cX p0 1000).bind fun d0=>(bh_p n d0).bind fun q0=>(cX u0 24).bind fun g0=>(chk (1 + g0)).bind fun j0=>(bh_p n j0).bind fun s0=>(bM_p n q0 s0).bind fun t0=>some t0) (fun c0=>(if b0 < 0 then (chk (-b0)).bind fun k0=>c0 k0 else c0 b0))
theorem aF_c (n:Nat) {L w} (hL:hl L w) (a0:Th) {v0_1:Value} (h0_1:Rep.R w L [v0_1] a0.fN.fBits) {v0_4:Value} (h0_4:Rep.R w L [v0_4] a0.fD.fBits)  {r:Tb} (h:aF_p n a0 = some r) :
 Cl 42 #[.agg #[.bool a0.fN.fe,v0_1,.int .u32 (a0.fN.fp.toNat:Int),.bool a0.fD.fe,v0_4,.int .u32 (a0.fD.fp.toNat:Int)]] w (ak w fun _ u=>u = .agg ((aa r)).toArray):=by
 unfold aF_p at h
 refine AI func42 rfl rfl rfl fun _ cs0 hb0=>Ae<|RG.bx (AH w) rfl rfl fun X0 p0 z0 P0=>RG.nl zL z0 fun Y0 q0 c0 Q0=>Aa<|Ae<|Bo 3 rfl<|Ab (AN (cs:=[.bool a0.fD.fe,v0_4,.int .u32 (a0.fD.fp.toNat:Int)]) rfl rfl (ae (c0.memA .t1) 3 3))<|bk h fun g0 E0 h=>Bb (vI g0) (bd 111) rfl (e1 rfl) (fun w9 hw9=>aK_c n (c0.hL0 hL hw9) a0.fD (c0.k0 h0_4 hw9) E0) rfl<|Ag rfl<|Aa<|Ak<|Ae<|Ac rfl<|Ab (FV.lss (i:=g0) (j:=0) rfl rfl)<|Aa<|MX.jo (α:=Int) (fun d0=>[(1,vP p0),(2,vP q0),(3,vI d0)]) (fun d0=>[.cells q0 zL 34,.cells p0 [.bool a0.fN.fe,v0_1,.int .u32 (a0.fN.fp.toNat:Int),.bool a0.fD.fe,v0_4,.int .u32 (a0.fD.fp.toNat:Int)] 79]) (fun d0=>d0) c0 h ?_ ?_
 rintro d0 b1 b0 R0 h
 try dsimp only at h
 refine Ae<|Bo 0 rfl<|Ab (AN (cs:=[.bool a0.fN.fe,v0_1,.int .u32 (a0.fN.fp.toNat:Int)]) rfl rfl (ae (b0.memA .t1) 0 3))<|bk h fun u0 F0 h=>Bb (vI u0) (bd 111) rfl (e1 rfl) (fun w9 hw9=>aK_c n (b0.hL0 hL hw9) a0.fN (b0.k0 h0_1 hw9) F0) rfl<|bk h fun V0 A0 h=>Ab (FV.remc (i:=u0) (j:=1000) rfl rfl A0)<|bk h fun v0 G0 h=>Bb (.agg ((aj v0)).toArray) (bd 113) rfl (e1 rfl) (fun w9 hw9=>bh_c n (b0.hL0 hL hw9)  G0) rfl<|Ac rfl<|bk h fun J0 B0 h=>Ab (FV.remc (i:=d0) (j:=24) rfl rfl B0)<|bk h fun W0 C0 h=>Ab (FV.addc (i:=1) (j:=J0) rfl rfl C0)<|bk h fun x0 H0 h=>Bb (.agg ((aj x0)).toArray) (bd 113) rfl (e1 rfl) (fun w9 hw9=>bh_c n (b0.hL0 hL hw9)  H0) rfl<|bk h fun j0 I0 h=>Bb (.agg ((aa j0)).toArray) (bd 112) rfl (e2 rfl rfl) (fun w9 hw9=>bM_c n (b0.hL0 hL hw9) v0 x0 I0) rfl<|AJ (aa j0) b0 .hd (ai rfl) fun Z0 t0 U0=>Aa<|Ar rfl<|Ap hb0 func42 rfl (.cons (.many (cs:=(aa j0)) rfl rfl (t0.memA .hd)) .nil) rfl ?_
 cases h
 exact t0.gv
 intro M0 s0 h
 try dsimp only at h
 refine AV rfl h (fun y0 h=>?_) (fun y0 h=>?_)
 refine Ao<|Ac rfl<|bk h fun K0 D0 h=>Ab (FV.negc (i:=g0) rfl D0)<|Ag rfl<|Aa<|s0 K0 c0 (BI _ _) h
 refine Av<|s0 g0 c0 (BI _ _) h
def cd_p (_n:Nat) (a0:Tf):Option Bool:=
  (if a0.fD.length = 1 then (a0.fD[0]?).bind fun b0=>(if b0 = 1 then some (!a0.fe) else some false) else some false)
theorem cd_c (n:Nat) {L w} (_hL:hl L w) (a0:Tf) {v0_1:Value} (h0_1:Rep.R w L [v0_1] a0.fD)  {r:Bool} (h:cd_p n a0 = some r) :
 Cl 156 #[.agg #[.bool a0.fe,v0_1]] w (ak w fun _ u=>u = .bool r):=by
 unfold cd_p at h
 refine AI func156 rfl rfl rfl fun _ cs0 hb0=>Ae<|RG.bx (AH w) rfl rfl fun C0 y0 b0 A0=>Ag rfl<|Aa<|Ae<|Bo 1 rfl<|Bv rfl ((b0.memA .hd) 1 _ rfl) ?_
 have c0:=AF h0_1 b0
 have B0:a0.fD.length <= 281474976710656:=AX c0
 refine Ab (AZ (xs:=a0.fD) underlying140 rfl c0)<|Ab (FV.eqlN (i:=a0.fD.length) (j:=1) rfl rfl)<|Ac rfl<|RG.ifd (s:=7) rfl h (fun g0 h=>?_) (fun g0 h=>?_)
 refine RG.fg 1 rfl<|AQ (Bj rfl ((b0.memA .hd) 1 _ rfl))<|bk h fun d0 v0 h=>?_
 obtain ⟨x0,z0,p0,s0,k0,u0,t0⟩:=Bh c0 v0
 have q0:k0 = [vI d0]:=u0; subst q0
 refine AQ (Bs 1 0 rfl p0 rfl rfl s0)<|AQ (Bj rfl (t0 0 _ rfl))<|AQ (FV.eql (i:=d0) (j:=1) rfl rfl)<|Bz rfl rfl<|Ac rfl<|RG.ifd (s:=14) rfl h (fun j0 h=>?_) (fun j0 h=>?_)
 refine RG.fg 0 rfl<|AQ (Bj rfl ((b0.memA .hd) 0 _ rfl))<|AQ (FV.not rfl)<|Bz rfl rfl<|Ag rfl<|Aa<|Ar rfl<|Be hb0 func156 rfl rfl ?_
 cases h
 exact b0.gv
 refine Aj<|Aj<|Aj<|Bd rfl rfl<|Ag rfl<|Aa<|Ar rfl<|Be hb0 func156 rfl rfl ?_
 cases h
 exact b0.gv
 refine Aj<|Aj<|Aj<|Aj<|Aj<|Bd rfl rfl<|Ac rfl<|Aj<|Aj<|Aj<|Bd rfl rfl<|Ag rfl<|Aa<|Ar rfl<|Be hb0 func156 rfl rfl ?_
 cases h
 exact b0.gv
def bI_p (n:Nat) (a0:Tb):Option Bool:=
  (aj_p n a0.fN).bind fun g0=>(aj_p n a0.fD).bind fun b0=>(if b0.fe = true then some false else (if 0 < b0.fD.length then (aD_p n g0 b0).bind fun c0=>(cd_p n c0).bind fun d0=>some d0 else some false))
theorem bI_c (n:Nat) {L w} (hL:hl L w) (a0:Tb)  {r:Bool} (h:bI_p n a0 = some r) :
 Cl 114 #[.agg ((aa a0)).toArray] w (ak w fun _ u=>u = .bool r):=by
 unfold bI_p at h
 refine AI func114 rfl rfl rfl fun _ cs0 hb0=>Ae<|RG.bx (AH w) rfl rfl fun H2 A2 M0 B2=>Ag rfl<|Aa<|Ak<|du 8 fun b0 V0=>Rv 0 b0 rfl V0 (fun _=>Bk 0 rfl)<|Rx 1 804 b0 rfl V0 (AN (cs:=(aj a0.fN)) rfl rfl (ae (M0.memA .hd) 0 8))<|Rv 3 b0 rfl V0 (fun _=>Bk 8 rfl)<|Rx 4 800 b0 rfl V0 (AN (cs:=(aj a0.fD)) rfl rfl (ae (M0.memA .hd) 8 8))<|bk h fun Y0 U0 h=>bk h fun P0 C0 h=>RD.mf (α:=Value × Value × Nat × Nat) (fun ⟨Q0,R0,J0,K0⟩=>[(7,.agg #[.bool Y0.fe,Q0]),(10,.agg #[.bool P0.fe,R0]),(3,vP K0),(4,vP J0)]) (fun ⟨Q0,R0,J0,K0⟩=>[.cells J0 [.bool false,vN] 142,.cells K0 [.bool false,vN] 142]) (fun ⟨Q0,R0,J0,K0⟩ j1=>Rep.R j1 (bl [.cells J0 [.bool false,vN] 142,.cells K0 [.bool false,vN] 142] ++ L) [Q0] Y0.fD/\Rep.R j1 (bl [.cells J0 [.bool false,vN] 142,.cells K0 [.bool false,vN] 142] ++ L) [R0] P0.fD) M0 2 255 ?_ ?_
 rintro ⟨Q0,R0,J0,K0⟩ j1 V1 C2 ⟨P1,Q1⟩
 try dsimp only
 refine Bq 8 511 b0 rfl rfl .plain (AC (news:=[.bool Y0.fe,Q0]) V1 .t1 rfl rfl rfl rfl rfl rfl (o2 rfl (AA P1))) fun I2 W1 b1=>Bq 9 1023 b0 rfl rfl .plain (AC (news:=[.bool P0.fe,R0]) W1 .hd rfl rfl rfl rfl rfl rfl (o2 rfl (AA (Ah Q1 b1)))) fun J2 G0 k1=>AG (dk b0)<|Ae<|Bo 0 rfl<|Bv rfl ((G0.memA .hd) 0 _ rfl)<|Ab (FV.not rfl)<|Ac rfl<|RG.ifnb (s:=14) rfl h (fun R1 h=>?_) (fun R1 h=>?_)
 refine Aj<|Aj<|Aj<|Aj<|Bd rfl rfl<|Ac rfl<|Aj<|Aj<|Aj<|Aj<|Bd rfl rfl<|Ag rfl<|Aa<|Ar rfl<|Be hb0 func114 rfl rfl ?_
 cases h
 exact G0.gv
 refine RG.fg 1 rfl<|AQ (Bj rfl ((G0.memA .hd) 1 _ rfl)) ?_
 have g1:=Ah Q1 (Tt b1 k1)
 have E2:P0.fD.length <= 281474976710656:=AX g1
 refine AQ (AZ (xs:=P0.fD) underlying140 rfl g1)<|AQ (FV.gtrN (i:=P0.fD.length) (j:=0) rfl rfl)<|Bz rfl rfl<|Ac rfl<|RG.ifd (s:=20) rfl h (fun U1 h=>?_) (fun U1 h=>?_)
 refine AQ (Aw rfl (G0.memA .t1))<|AQ (Aw rfl (G0.memA .hd))<|bk h fun y2 v2 h=>AM (fst:=[]) (cap:=[]) (.yes rfl rfl) (bd 157) rfl (e2 rfl rfl) (fun w9 hw9=>aD_c n (G0.hL hL hw9) Y0 (Ai (Ah P1 (Tt b1 k1)) hw9) P0 (Ai g1 hw9) v2) rfl fun K2 G2 t2 ⟨F2,hu_,u2⟩=>?_
 subst hu_
 obtain ⟨Z0,D2⟩:=G0.agr t2
 refine bk h fun z2 x2 h=>BP (v:=.bool z2) (fst:=[]) (cap:=[]) (.yes rfl rfl) (bd 156) rfl (e1 rfl) (fun w9 hw9=>cd_c n (Z0.hL0 hL hw9) y2 (Z0.kd u2 hw9) x2) rfl<|Bz rfl rfl<|Ag rfl<|Aa<|Ar rfl<|Be hb0 func114 rfl rfl ?_
 cases h
 exact Z0.gv
 refine Aj<|Aj<|Aj<|Aj<|Bd rfl rfl<|Ag rfl<|Aa<|Ar rfl<|Be hb0 func114 rfl rfl ?_
 cases h
 exact G0.gv
 intro B0
 refine BF [2,6,7] (rk b0) ⟨?_,?_,?_,trivial⟩
 refine RO.call (m' :=31) (fst:=[]) (cap:=[]) (sk b0) rfl .plain (bd 152) rfl (e1 rfl) (fun w9 hw9=>aj_c n (M0.hL hL hw9) a0.fN U0) rfl fun X0 W0 F0 ⟨A0,hu_,z0⟩=>?_
 subst hu_
 obtain ⟨x0,y0⟩:=M0.agr F0
 refine BF [5,6,7] (rk b0) ⟨?_,?_,?_,trivial⟩
 refine RO.call (m' :=63) (fst:=[]) (cap:=[]) (sk b0) rfl .plain (bd 152) rfl (e1 rfl) (fun w9 hw9=>aj_c n (x0.hL hL hw9) a0.fD C0) rfl fun E0 D0 t0 ⟨s0,hu_,q0⟩=>?_
 subst hu_
 obtain ⟨p0,j0⟩:=x0.agr t0
 refine BF [6,7] (rk b0) ⟨?_,?_,trivial⟩
 refine RO.new (m' :=127) (sk b0) rfl .plain rfl (Au [.bool false,vN] p0) fun I0 v0 d0 k0=>RD.nu 7 255 b0 rfl .plain rfl (Au [.bool false,vN] d0) fun H0 u0 c0 g0=>?_
 obtain ⟨X1,p1⟩:=Az c0 (.a0 (.a0 .done))
 have C1:=Tt j0 (Tt k0 (Tt g0 p1))
 exact B0 (A0,s0,u0,v0) X1 (Tt y0 C1) ⟨(Ah z0 C1),(Ah q0 (Tt k0 (Tt g0 p1)))⟩
 refine RO.new (m' :=191) (sk b0) rfl .plain rfl (Au [.bool false,vN] p0) fun H0 u0 c0 g0=>RD.nu 6 255 b0 rfl .plain rfl (Au [.bool false,vN] c0) fun I0 v0 d0 k0=>?_
 obtain ⟨Y1,q1⟩:=Az d0 (.a1 (.a0 .done))
 have D1:=Tt j0 (Tt g0 (Tt k0 q1))
 exact B0 (A0,s0,u0,v0) Y1 (Tt y0 D1) ⟨(Ah z0 D1),(Ah q0 (Tt g0 (Tt k0 q1)))⟩
 refine RO.new (m' :=95) (sk b0) rfl .plain rfl (Au [.bool false,vN] x0) fun I0 v0 d0 k0=>BF [5,7] (rk b0) ⟨?_,?_,trivial⟩
 refine RO.call (m' :=127) (fst:=[]) (cap:=[]) (sk b0) rfl .plain (bd 152) rfl (e1 rfl) (fun w9 hw9=>aj_c n (d0.hL hL hw9) a0.fD C0) rfl fun E0 D0 t0 ⟨s0,hu_,q0⟩=>?_
 subst hu_
 obtain ⟨p0,j0⟩:=d0.agr t0
 refine RD.nu 7 255 b0 rfl .plain rfl (Au [.bool false,vN] p0) fun H0 u0 c0 g0=>?_
 obtain ⟨Z1,s1⟩:=Az c0 (.a0 (.a0 .done))
 have E1:=Tt k0 (Tt j0 (Tt g0 s1))
 exact B0 (A0,s0,u0,v0) Z1 (Tt y0 E1) ⟨(Ah z0 E1),(Ah q0 (Tt g0 s1))⟩
 refine RO.new (m' :=223) (sk b0) rfl .plain rfl (Au [.bool false,vN] d0) fun H0 u0 c0 g0=>AW 5 255 b0 rfl .plain (bd 152) rfl (e1 rfl) (fun w9 hw9=>aj_c n (c0.hL hL hw9) a0.fD C0) rfl fun E0 D0 t0 ⟨s0,hu_,q0⟩=>?_
 subst hu_
 obtain ⟨p0,j0⟩:=c0.agr t0
 obtain ⟨b2,u1⟩:=Az p0 (.a0 (.a0 .done))
 have F1:=Tt k0 (Tt g0 (Tt j0 u1))
 exact B0 (A0,s0,u0,v0) b2 (Tt y0 F1) ⟨(Ah z0 F1),(Ah q0 u1)⟩
 refine RO.new (m' :=159) (sk b0) rfl .plain rfl (Au [.bool false,vN] x0) fun H0 u0 c0 g0=>BF [5,6] (rk b0) ⟨?_,?_,trivial⟩
 refine RO.call (m' :=191) (fst:=[]) (cap:=[]) (sk b0) rfl .plain (bd 152) rfl (e1 rfl) (fun w9 hw9=>aj_c n (c0.hL hL hw9) a0.fD C0) rfl fun E0 D0 t0 ⟨s0,hu_,q0⟩=>?_
 subst hu_
 obtain ⟨p0,j0⟩:=c0.agr t0
 refine RD.nu 6 255 b0 rfl .plain rfl (Au [.bool false,vN] p0) fun I0 v0 d0 k0=>?_
 obtain ⟨c2,v1⟩:=Az d0 (.a1 (.a0 .done))
 have G1:=Tt g0 (Tt j0 (Tt k0 v1))
 exact B0 (A0,s0,u0,v0) c2 (Tt y0 G1) ⟨(Ah z0 G1),(Ah q0 (Tt k0 v1))⟩
 refine RO.new (m' :=223) (sk b0) rfl .plain rfl (Au [.bool false,vN] c0) fun I0 v0 d0 k0=>AW 5 255 b0 rfl .plain (bd 152) rfl (e1 rfl) (fun w9 hw9=>aj_c n (d0.hL hL hw9) a0.fD C0) rfl fun E0 D0 t0 ⟨s0,hu_,q0⟩=>?_
 subst hu_
 obtain ⟨p0,j0⟩:=d0.agr t0
 obtain ⟨d2,x1⟩:=Az p0 (.a1 (.a0 .done))
 have H1:=Tt g0 (Tt k0 (Tt j0 x1))
 exact B0 (A0,s0,u0,v0) d2 (Tt y0 H1) ⟨(Ah z0 H1),(Ah q0 x1)⟩
 refine RO.new (m' :=91) (sk b0) rfl .plain rfl (Au [.bool false,vN] M0) fun I0 v0 d0 k0=>BF [2,7] (rk b0) ⟨?_,?_,trivial⟩
 refine RO.call (m' :=95) (fst:=[]) (cap:=[]) (sk b0) rfl .plain (bd 152) rfl (e1 rfl) (fun w9 hw9=>aj_c n (d0.hL hL hw9) a0.fN U0) rfl fun X0 W0 F0 ⟨A0,hu_,z0⟩=>?_
 subst hu_
 obtain ⟨x0,y0⟩:=d0.agr F0
 refine BF [5,7] (rk b0) ⟨?_,?_,trivial⟩
 refine RO.call (m' :=127) (fst:=[]) (cap:=[]) (sk b0) rfl .plain (bd 152) rfl (e1 rfl) (fun w9 hw9=>aj_c n (x0.hL hL hw9) a0.fD C0) rfl fun E0 D0 t0 ⟨s0,hu_,q0⟩=>?_
 subst hu_
 obtain ⟨p0,j0⟩:=x0.agr t0
 refine RD.nu 7 255 b0 rfl .plain rfl (Au [.bool false,vN] p0) fun H0 u0 c0 g0=>?_
 obtain ⟨g2,y1⟩:=Az c0 (.a0 (.a0 .done))
 have I1:=Tt j0 (Tt g0 y1)
 exact B0 (A0,s0,u0,v0) g2 (Tt k0 (Tt y0 I1)) ⟨(Ah z0 I1),(Ah q0 (Tt g0 y1))⟩
 refine RO.new (m' :=223) (sk b0) rfl .plain rfl (Au [.bool false,vN] x0) fun H0 u0 c0 g0=>AW 5 255 b0 rfl .plain (bd 152) rfl (e1 rfl) (fun w9 hw9=>aj_c n (c0.hL hL hw9) a0.fD C0) rfl fun E0 D0 t0 ⟨s0,hu_,q0⟩=>?_
 subst hu_
 obtain ⟨p0,j0⟩:=c0.agr t0
 obtain ⟨j2,z1⟩:=Az p0 (.a0 (.a0 .done))
 have J1:=Tt g0 (Tt j0 z1)
 exact B0 (A0,s0,u0,v0) j2 (Tt k0 (Tt y0 J1)) ⟨(Ah z0 J1),(Ah q0 z1)⟩
 refine RO.new (m' :=219) (sk b0) rfl .plain rfl (Au [.bool false,vN] d0) fun H0 u0 c0 g0=>AW 2 223 b0 rfl .plain (bd 152) rfl (e1 rfl) (fun w9 hw9=>aj_c n (c0.hL hL hw9) a0.fN U0) rfl fun X0 W0 F0 ⟨A0,hu_,z0⟩=>?_
 subst hu_
 obtain ⟨x0,y0⟩:=c0.agr F0
 refine AW 5 255 b0 rfl .plain (bd 152) rfl (e1 rfl) (fun w9 hw9=>aj_c n (x0.hL hL hw9) a0.fD C0) rfl fun E0 D0 t0 ⟨s0,hu_,q0⟩=>?_
 subst hu_
 obtain ⟨p0,j0⟩:=x0.agr t0
 obtain ⟨k2,c1⟩:=Az p0 (.a0 (.a0 .done))
 exact B0 (A0,s0,u0,v0) k2 (Tt k0 (Tt g0 (Tt y0 (Tt j0 c1)))) ⟨(Ah z0 (Tt j0 c1)),(Ah q0 c1)⟩
 refine RO.new (m' :=155) (sk b0) rfl .plain rfl (Au [.bool false,vN] M0) fun H0 u0 c0 g0=>BF [2,6] (rk b0) ⟨?_,?_,trivial⟩
 refine RO.call (m' :=159) (fst:=[]) (cap:=[]) (sk b0) rfl .plain (bd 152) rfl (e1 rfl) (fun w9 hw9=>aj_c n (c0.hL hL hw9) a0.fN U0) rfl fun X0 W0 F0 ⟨A0,hu_,z0⟩=>?_
 subst hu_
 obtain ⟨x0,y0⟩:=c0.agr F0
 refine BF [5,6] (rk b0) ⟨?_,?_,trivial⟩
 refine RO.call (m' :=191) (fst:=[]) (cap:=[]) (sk b0) rfl .plain (bd 152) rfl (e1 rfl) (fun w9 hw9=>aj_c n (x0.hL hL hw9) a0.fD C0) rfl fun E0 D0 t0 ⟨s0,hu_,q0⟩=>?_
 subst hu_
 obtain ⟨p0,j0⟩:=x0.agr t0
 refine RD.nu 6 255 b0 rfl .plain rfl (Au [.bool false,vN] p0) fun I0 v0 d0 k0=>?_
 obtain ⟨p2,A1⟩:=Az d0 (.a1 (.a0 .done))
 have K1:=Tt j0 (Tt k0 A1)
 exact B0 (A0,s0,u0,v0) p2 (Tt g0 (Tt y0 K1)) ⟨(Ah z0 K1),(Ah q0 (Tt k0 A1))⟩
 refine RO.new (m' :=223) (sk b0) rfl .plain rfl (Au [.bool false,vN] x0) fun I0 v0 d0 k0=>AW 5 255 b0 rfl .plain (bd 152) rfl (e1 rfl) (fun w9 hw9=>aj_c n (d0.hL hL hw9) a0.fD C0) rfl fun E0 D0 t0 ⟨s0,hu_,q0⟩=>?_
 subst hu_
 obtain ⟨p0,j0⟩:=d0.agr t0
 obtain ⟨q2,B1⟩:=Az p0 (.a1 (.a0 .done))
 have M1:=Tt k0 (Tt j0 B1)
 exact B0 (A0,s0,u0,v0) q2 (Tt g0 (Tt y0 M1)) ⟨(Ah z0 M1),(Ah q0 B1)⟩
 refine RO.new (m' :=219) (sk b0) rfl .plain rfl (Au [.bool false,vN] c0) fun I0 v0 d0 k0=>AW 2 223 b0 rfl .plain (bd 152) rfl (e1 rfl) (fun w9 hw9=>aj_c n (d0.hL hL hw9) a0.fN U0) rfl fun X0 W0 F0 ⟨A0,hu_,z0⟩=>?_
 subst hu_
 obtain ⟨x0,y0⟩:=d0.agr F0
 refine AW 5 255 b0 rfl .plain (bd 152) rfl (e1 rfl) (fun w9 hw9=>aj_c n (x0.hL hL hw9) a0.fD C0) rfl fun E0 D0 t0 ⟨s0,hu_,q0⟩=>?_
 subst hu_
 obtain ⟨p0,j0⟩:=x0.agr t0
 obtain ⟨s2,d1⟩:=Az p0 (.a1 (.a0 .done))
 exact B0 (A0,s0,u0,v0) s2 (Tt g0 (Tt k0 (Tt y0 (Tt j0 d1)))) ⟨(Ah z0 (Tt j0 d1)),(Ah q0 d1)⟩
def aS_l1 (n:Nat) (a0:List Tb) (c0:Nat -> Option (Bool ⊕ Unit)):Nat -> Option (Bool ⊕ Unit)
  | b0=>(if b0 < a0.length then (a0[b0]?).bind fun d0=>(bI_p n d0).bind fun g0=>(if g0 = true then c0 (b0 + 1) else some (.inl false)) else some (.inr ()))
def aS_p (n:Nat) (a0:List Tb):Option Bool:=
  thn (ao (aS_l1 n a0) n 0) (fun _=>some true)
theorem aS_c (n:Nat) {L w} (hL:hl L w) {a0:List Tb} {v0_0:Value} (h0_0:Rep.R w L [v0_0] a0)  {r:Bool} (h:aS_p n a0 = some r) :
 Cl 102 #[v0_0] w (ak w fun _ u=>u = .bool r):=by
 unfold aS_p at h
 refine AI func102 rfl rfl rfl fun _ cs0 hb0=>Ae<|Ag rfl<|Aa<|Ak<|Ae<|Ag rfl<|Aa<|Ax<|tn h fun H0 v0 g0=>MX.lo (α:=Nat) (fun b0=>[(0,v0_0),(3,vI ((b0:Nat):Int))]) (fun b0=>[]) (fun b0=>b0) 0 v0 (AH w) ?_
 rintro D0 b0 I0 p0 c0 q0 h
 unfold aS_l1 at h
 try dsimp only at h
 refine Ak<|Ae<|Ac rfl<|Ac rfl ?_
 have d0:=AF h0_0 c0
 have G0:a0.length <= 281474976710656:=AX d0
 refine Ab (AZ (xs:=a0) underlying51 rfl d0)<|Ab (AY (i:=b0) (j:=a0.length) rfl rfl)<|Aa<|AV rfl h (fun j0 h=>?_) (fun j0 h=>?_)
 refine Av<|Ak<|Ax<|Ae<|Ac rfl<|Ac rfl<|bk h fun A0 y0 h=>?_
 obtain ⟨C0,E0,s0,t0,F0,x0,u0⟩:=Bh d0 y0
 obtain rfl:=cY x0
 refine Ab (Bs 16 b0 rfl s0 rfl rfl t0)<|Ab (Aw rfl u0)<|bk h fun B0 z0 h=>Bb (.bool B0) (bd 114) rfl (e1 rfl) (fun w9 hw9=>bI_c n (c0.hL0 hL hw9) A0 z0) rfl<|Ab (FV.not rfl)<|Aa<|MX.ifnb rfl h (fun k0 h=>?_) (fun k0 h=>?_)
 refine Av<|Ay<|Ao<|Ac rfl<|Ab (Bf (i:=b0) (j:=1) rfl rfl (by omega))<|Ag rfl<|Aa<|p0 (b0 + 1) c0 q0 h
 refine Ae<|Ag rfl<|Aa ?_
 have h:=bE h g0
 refine Ar rfl<|Be hb0 func102 rfl rfl ?_
 cases h
 exact c0.gv
 refine Ba rfl ?_
 have h:=br h g0
 try dsimp only at h
 refine Ae<|Ag rfl<|Aa<|Ar rfl<|Be hb0 func102 rfl rfl ?_
 cases h
 exact c0.gv
def cm_p (n:Nat) (a0:Tb):Option Tg:=
  (aj_p n a0.fN).bind fun b0=>(aj_p n a0.fD).bind fun c0=>some (⟨b0,c0⟩:Tg)
theorem cm_c (n:Nat) {L w} (hL:hl L w) (a0:Tb)  {r:Tg} (h:cm_p n a0 = some r) :
 Cl 104 #[.agg ((aa a0)).toArray] w (ak w fun w' u=>∃ v0_1 v0_3:Value,u = .agg #[.bool r.fN.fe,v0_1,.bool r.fD.fe,v0_3]/\Rep.R w' L [v0_1] r.fN.fD/\Rep.R w' L [v0_3] r.fD.fD):=by
 unfold cm_p at h
 refine AI func104 rfl rfl rfl fun _ cs0 hb0=>Ae<|RG.bx (AH w) rfl rfl fun X0 J0 z0 Q0=>RG.nl [.bool false,vN,.bool false,vN] z0 fun Y0 K0 j0 R0=>Aa<|Ak<|du 7 fun b0 c0=>Rv 0 b0 rfl c0 (fun _=>Bk 0 rfl)<|Rx 1 228 b0 rfl c0 (AN (cs:=(aj a0.fN)) rfl rfl (ae (j0.memA .t1) 0 8))<|Rv 3 b0 rfl c0 (fun _=>Bk 8 rfl)<|Rx 4 224 b0 rfl c0 (AN (cs:=(aj a0.fD)) rfl rfl (ae (j0.memA .t1) 8 8))<|bk h fun p0 F0 h=>AW 2 31 b0 rfl .plain (bd 152) rfl (e1 rfl) (fun w9 hw9=>aj_c n (j0.hL hL hw9) a0.fN F0) rfl fun Z0 V0 B0 ⟨d0,hu_,y0⟩=>?_
 subst hu_
 obtain ⟨t0,U0⟩:=j0.agr B0
 refine bk h fun q0 G0 h=>AW 5 63 b0 rfl .plain (bd 152) rfl (e1 rfl) (fun w9 hw9=>aj_c n (t0.hL hL hw9) a0.fD G0) rfl fun b1 W0 C0 ⟨g0,hu_,s0⟩=>?_
 subst hu_
 obtain ⟨A0,u0⟩:=t0.agr C0
 have x0:=Ah y0 u0
 obtain ⟨H0,M0,D0,_⟩:=Bp x0
 obtain ⟨I0,P0,E0,_⟩:=Bp s0
 refine Rv 6 b0 rfl c0 (fun _=>AR (vs:=[.agg #[.bool p0.fe,d0],.agg #[.bool q0.fe,g0]]) (u:=.agg #[.bool p0.fe,d0,.bool q0.fe,g0]) (e2 rfl rfl) (fun w9=>by rw [D0,E0]; try kernel_rfl))<|Bq 7 255 b0 rfl rfl .plain (AC (news:=[.bool p0.fe,d0,.bool q0.fe,g0]) A0 .hd rfl rfl rfl rfl rfl rfl (o4 rfl (AA x0) rfl (AA s0))) fun c1 k0 v0=>AG (dk b0)<|Ar rfl<|Ap hb0 func104 rfl (.cons (.many (cs:=[.bool p0.fe,d0,.bool q0.fe,g0]) rfl rfl (k0.memA .hd)) .nil) rfl ?_
 cases h
 exact ⟨k0.ag,fun w9 hw9=>⟨d0,g0,rfl,k0.kd (Ah y0 (Tt u0 v0)) hw9,k0.kd (Ah s0 v0) hw9⟩⟩
def aq_l1 (_n:Nat) (a1:List Int) (c0:Nat) (a0:List Int) (q0:UInt64 × Nat × (List Int) -> Option ((List Int) × UInt64)):UInt64 × Nat × (List Int) -> Option ((List Int) × UInt64)
  | (d0,b0,g0)=>(if b0 < a1.length then (g0[c0 + b0]?).bind fun j0=>(a0[c0]?).bind fun k0=>(a1[b0]?).bind fun p0=>(put g0 ((c0 + b0:Nat):Int) (aC (((d0 + (ac j0)) + ((ac k0) * (ac p0))) % (4294967296:UInt64)))).bind fun s0=>q0 (((d0 + (ac j0)) + ((ac k0) * (ac p0))) / (4294967296:UInt64),b0 + 1,s0) else some (g0,d0))
def aq_l2 (n:Nat) (a0:List Int) (a1:List Int) (g0:Nat × (List Int) -> Option (List Int)):Nat × (List Int) -> Option (List Int)
  | (b0,c0)=>(if b0 < a0.length then Option.bind (ao (aq_l1 n a1 b0 a0) n (0,0,c0)) (fun (d0,j0)=>(d0[b0 + a1.length]?).bind fun _x537=>(put d0 ((b0 + a1.length:Nat):Int) (aC j0)).bind fun k0=>g0 (b0 + 1,k0)) else some c0)
def aq_p (n:Nat) (a0:List Int) (a1:List Int):Option (List Int):=
  (mk ((a0.length + a1.length:Nat):Int) (0:Int)).bind fun b0=>Option.bind (ao (aq_l2 n a0 a1) n (0,b0)) (fun c0=>(au_p n c0).bind fun d0=>some d0)
theorem aq_c (n:Nat) {L w} (hL:hl L w) {a0:List Int} {v0_0:Value} (h0_0:Rep.R w L [v0_0] a0) {a1:List Int} {v1_0:Value} (h1_0:Rep.R w L [v1_0] a1)  {r:List Int} (h:aq_p n a0 a1 = some r) :
 Cl 182 #[v0_0,v1_0] w (ak w fun w' u=>∃ v0_0:Value,u = v0_0/\Rep.R w' L [v0_0] r):=by
 unfold aq_p at h
 refine AI func182 rfl rfl rfl fun _ cs0 hb0=>Ae<|Ag rfl<|Aa<|Ae<|Ac rfl ?_
 have hl1:a0.length <= 281474976710656:=AX h0_0
 refine Ab (AZ (xs:=a0) underlying140 rfl h0_0)<|Ac rfl ?_
 have hl2:a1.length <= 281474976710656:=AX h1_0
 refine Ab (AZ (xs:=a1) underlying140 rfl h1_0)<|Ab (Bf (i:=a0.length) (j:=a1.length) rfl rfl (by omega))<|bk h fun V0 Q0 h=>Al .plain rfl (Does.mk (α:=Int) Q0 (AH w) aY rfl) fun V2 x0 G0 J2=>Ag rfl<|Aa<|Ak<|Ae<|Ag rfl<|Aa<|Ax ?_
 obtain ⟨Q2,W1,K1⟩:=am h
 refine MX.lf (α:=Nat × (List Int) × (List Value)) (fun ⟨d0,k0,p0⟩=>[(0,v0_0),(1,v1_0),(5,(.slice (some ⟨x0,0,none⟩) ((a0.length + a1.length:Nat):Int).toNat ((a0.length + a1.length:Nat):Int).toNat)),(6,vI ((d0:Nat):Int))]) (fun ⟨d0,k0,p0⟩=>[rr w 3 Int (.slice (some ⟨x0,0,none⟩) ((a0.length + a1.length:Nat):Int).toNat ((a0.length + a1.length:Nat):Int).toNat) k0.length p0]) (fun ⟨d0,k0,p0⟩ R0=>Cells R0 (bl [rr w 3 Int (.slice (some ⟨x0,0,none⟩) ((a0.length + a1.length:Nat):Int).toNat ((a0.length + a1.length:Nat):Int).toNat) k0.length p0] ++ L) p0 k0) (fun ⟨d0,k0,p0⟩=>(d0,k0)) (0,V0,(List.replicate ((a0.length + a1.length:Nat):Int).toNat [vI 0]).flatten) W1 G0 (AK (cs:=(List.replicate ((a0.length + a1.length:Nat):Int).toNat [vI 0]).flatten) (xs:=V0) G0 L (Cells.mk Q0 rfl)) ?_
 rintro B2 ⟨d0,k0,p0⟩ R0 s1 z0 y1 J0 h
 unfold aq_l2 at h
 try dsimp only at h
 refine Ak<|Ae<|Ac rfl<|Ac rfl<|Ab (AZ (xs:=a0) underlying140 rfl (AF h0_0 z0))<|Ab (AY (i:=d0) (j:=a0.length) rfl rfl)<|Aa<|AV rfl h (fun b1 h=>?_) (fun b1 h=>?_)
 refine Av<|Ak<|Ax<|Ae<|Ag rfl<|Aa<|Ak<|Ae<|Ag rfl<|Aa<|Ax ?_
 obtain ⟨R2,X1,M1⟩:=am h
 refine MX.lf (α:=UInt64 × Nat × (List Int) × (List Value)) (fun ⟨j0,g0,v0,y0⟩=>[(0,v0_0),(1,v1_0),(5,(.slice (some ⟨x0,0,none⟩) ((a0.length + a1.length:Nat):Int).toNat ((a0.length + a1.length:Nat):Int).toNat)),(6,vI ((d0:Nat):Int)),(7,vU j0),(8,vI ((g0:Nat):Int))]) (fun ⟨j0,g0,v0,y0⟩=>[rr w 3 Int (.slice (some ⟨x0,0,none⟩) ((a0.length + a1.length:Nat):Int).toNat ((a0.length + a1.length:Nat):Int).toNat) v0.length y0]) (fun ⟨j0,g0,v0,y0⟩ U0=>Cells U0 (bl [rr w 3 Int (.slice (some ⟨x0,0,none⟩) ((a0.length + a1.length:Nat):Int).toNat ((a0.length + a1.length:Nat):Int).toNat) v0.length y0] ++ L) y0 v0) (fun ⟨j0,g0,v0,y0⟩=>(j0,g0,v0)) (0,0,k0,p0) X1 z0 J0 ?_
 rintro C2 ⟨j0,g0,v0,y0⟩ U0 u1 q0 I0 A0 h
 unfold aq_l1 at h
 try dsimp only at h
 refine Ak<|Ae<|Ac rfl<|Ac rfl ?_
 have F0:=AF h1_0 q0
 refine Ab (AZ (xs:=a1) underlying140 rfl F0)<|Ab (AY (i:=g0) (j:=a1.length) rfl rfl)<|Aa<|AV rfl h (fun c1 h=>?_) (fun c1 h=>?_)
 refine Av<|Ak<|Ax<|Ak<|du 22 fun b0 c0=>Rv 0 b0 rfl c0 (fun _=>Aq rfl)<|Rv 1 b0 rfl c0 (fun _=>Aq rfl)<|Rv 2 b0 rfl c0 (fun _=>Aq rfl)<|Rv 3 b0 rfl c0 (fun _=>Aq rfl)<|Rv 4 b0 rfl c0 (fun _=>Bf (i:=d0) (j:=g0) rfl rfl (by omega))<|bk h fun s0 g2 h=>?_
 obtain ⟨W0,D2,B0,E0,d1,Y1,R1⟩:=St.nth (α:=Int) q0 .hd A0 g2
 obtain ⟨Y0,E2,K0⟩:=St.nthOwn (α:=Int) q0 .hd E0
 obtain rfl:W0 = ⟨Y0,0,none⟩:=by rw [K0] at B0; cases B0; rfl
 have E1:d1 = [vI s0]:=Y1; subst E1
 refine Rv 5 b0 rfl c0 (fun _=>Bs 1 (d0 + g0) rfl B0 rfl rfl E0)<|Rx 6 3146112 b0 rfl c0 (Bj rfl (R1 0 _ rfl))<|Rv 7 b0 rfl c0 (fun _=>FV.convU (i:=s0) underlying3 underlying30 rfl)<|Rv 8 b0 rfl c0 (fun _=>FV.addU (a:=j0) (b:=ac s0) rfl rfl)<|Rv 9 b0 rfl c0 (fun _=>Aq rfl)<|Rv 10 b0 rfl c0 (fun _=>Aq rfl)<|bk h fun t0 j2 h=>?_
 obtain ⟨z2,F2,F1,P1,g1,Z1,U1⟩:=Bh (AF h0_0 q0) j2
 have G1:g1 = [vI t0]:=Z1; subst G1
 refine Rv 11 b0 rfl c0 (fun _=>Bs 1 d0 rfl F1 rfl rfl P1)<|Rx 12 3678208 b0 rfl c0 (Bj rfl (U1 0 _ rfl))<|Rv 13 b0 rfl c0 (fun _=>FV.convU (i:=t0) underlying3 underlying30 rfl)<|Rv 14 b0 rfl c0 (fun _=>Aq rfl)<|Rv 15 b0 rfl c0 (fun _=>Aq rfl)<|bk h fun u0 k2 h=>?_
 obtain ⟨A2,G2,H1,Q1,j1,b2,V1⟩:=Bh F0 k2
 have I1:j1 = [vI u0]:=b2; subst I1
 refine Rv 16 b0 rfl c0 (fun _=>Bs 1 g0 rfl H1 rfl rfl Q1)<|Rx 17 3932160 b0 rfl c0 (Bj rfl (V1 0 _ rfl))<|Rv 18 b0 rfl c0 (fun _=>FV.convU (i:=u0) underlying3 underlying30 rfl)<|Rv 19 b0 rfl c0 (fun _=>FV.mulU (a:=ac t0) (b:=ac u0) rfl rfl)<|Rv 20 b0 rfl c0 (fun _=>FV.addU (a:=j0 + (ac s0)) (b:=(ac t0) * (ac u0)) rfl rfl)<|Rv 21 b0 rfl c0 (fun _=>Bc rfl)<|AG (dk b0)<|Ae<|Ac rfl<|Ac rfl<|Ac rfl<|Ab (Bf (i:=d0) (j:=g0) rfl rfl (by omega))<|Ac rfl<|Ab (FV.remU (a:=(j0 + (ac s0)) + ((ac t0) * (ac u0))) (b:=(4294967296:UInt64)) rfl rfl (by decide))<|Ab (FV.convUI (a:=((j0 + (ac s0)) + ((ac t0) * (ac u0))) % (4294967296:UInt64)) underlying30 underlying3 rfl)<|Ab (Bs 1 (d0 + g0) rfl B0 rfl rfl E0)<|bk h fun x2 q2 h=>RG.acts' .plain (Acts.set (α:=Int) (i:=d0 + g0) q2 q0 K0 (fun _=>.hd) A0 rfl rfl rfl rfl rfl rfl) fun W2 ⟨k1,v1,z1,C1⟩=>Aa<|Ao<|Ac rfl<|Ab (FV.quoU (a:=(j0 + (ac s0)) + ((ac t0) * (ac u0))) (b:=(4294967296:UInt64)) rfl rfl (by decide))<|Ag rfl<|Aa<|Ay<|Ao<|Ac rfl<|Ab (Bf (i:=g0) (j:=1) rfl rfl (by omega))<|Ag rfl<|Aa<|u1 (((j0 + (ac s0)) + ((ac t0) * (ac u0))) / (4294967296:UInt64),g0 + 1,x2,k1) v1 (Tt I0 z1) C1 h
 refine Ba rfl ?_
 have h:=M1 _ h
 try dsimp only at h
 refine Ao<|Ac rfl<|Ac rfl<|Ac rfl<|Ab (AZ (xs:=a1) underlying140 rfl F0)<|Ab (Bf (i:=d0) (j:=a1.length) rfl rfl (by omega))<|Ac rfl<|Ab (FV.convUI (a:=j0) underlying30 underlying3 rfl)<|bk h fun v2 p2 h=>?_
 obtain ⟨X0,H2,D0,P0,p1,c2,P2⟩:=St.nth (α:=Int) q0 .hd A0 p2
 obtain ⟨Z0,I2,M0⟩:=St.nthOwn (α:=Int) q0 .hd P0
 obtain rfl:X0 = ⟨Z0,0,none⟩:=by rw [M0] at D0; cases D0; rfl
 have J1:p1 = [vI v2]:=c2; subst J1
 refine Ab (Bs 1 (d0 + a1.length) rfl D0 rfl rfl P0)<|bk h fun y2 s2 h=>RG.acts' .plain (Acts.set (α:=Int) (i:=d0 + a1.length) s2 q0 M0 (fun _=>.hd) A0 rfl rfl rfl rfl rfl rfl) fun X2 ⟨q1,x1,A1,D1⟩=>Aa<|Ay<|Ao<|Ac rfl<|Ab (Bf (i:=d0) (j:=1) rfl rfl (by omega))<|Ag rfl<|Aa<|s1 (d0 + 1,y2,q1) x1 (Tt y1 (Tt I0 A1)) D1 h
 refine Ba rfl ?_
 have h:=K1 _ h
 try dsimp only at h
 refine Ae<|Ac rfl ?_
 have C0:=BC z0 .hd
 have K2:=BD z0 .hd
 refine bk h fun Z2 t2 h=>jE (bd 181) rfl (e1 rfl) (fun w9 hw9=>au_c n (C0.hL hL hw9) (Ai (BE (α:=Int) (v:=(.slice (some ⟨x0,0,none⟩) ((a0.length + a1.length:Nat):Int).toNat ((a0.length + a1.length:Nat):Int).toNat)) (xs:=k0) C0 L (Bm (α:=Int) z0 .hd J0 hL)) hw9) t2) rfl fun Y2 u2 B1 ⟨U2,hu_,d2⟩=>?_
 subst hu_
 obtain ⟨H0,M2⟩:=C0.agr B1
 refine Ag rfl<|Aa<|Ar rfl<|Be hb0 func182 rfl rfl ?_
 cases h
 exact ⟨H0.ag,fun w9 hw9=>⟨u2,rfl,H0.kd d2 hw9⟩⟩
def aH_p (n:Nat) (a0:Tf) (a1:Tf):Option Tf:=
  (aq_p n a0.fD a1.fD).bind fun b0=>(ab_p n (!(a0.fe == a1.fe)) b0).bind fun c0=>some c0
theorem aH_c (n:Nat) {L w} (hL:hl L w) (a0:Tf) {v0_1:Value} (h0_1:Rep.R w L [v0_1] a0.fD) (a1:Tf) {v1_1:Value} (h1_1:Rep.R w L [v1_1] a1.fD)  {r:Tf} (h:aH_p n a0 a1 = some r) :
 Cl 153 #[.agg #[.bool a0.fe,v0_1],.agg #[.bool a1.fe,v1_1]] w (ak w fun w' u=>∃ v0_1:Value,u = .agg #[.bool r.fe,v0_1]/\Rep.R w' L [v0_1] r.fD):=by
 unfold aH_p at h
 refine AI func153 rfl rfl rfl fun _ cs0 hb0=>Ae<|RG.bx (AH w) rfl rfl fun Q0 C0 s0 F0=>RG.bx s0 rfl rfl fun R0 D0 t0 G0=>RG.nl [.bool false,vN] t0 fun U0 E0 d0 H0=>Aa<|Ak<|du 11 fun b0 c0=>Rv 0 b0 rfl c0 (fun _=>Bk 0 rfl)<|Rx 1 3088 b0 rfl c0 (Bj rfl ((d0.memA .t2) 0 _ rfl))<|Rv 2 b0 rfl c0 (fun _=>Bk 0 rfl)<|Rx 3 3088 b0 rfl c0 (Bj rfl ((d0.memA .t1) 0 _ rfl))<|Rv 4 b0 rfl c0 (fun _=>FV.neqB (a:=a0.fe) (b:=a1.fe) underlying4 rfl rfl)<|Rv 5 b0 rfl c0 (fun _=>Bk 1 rfl)<|Rx 6 3584 b0 rfl c0 (Bj rfl ((d0.memA .t2) 1 _ rfl))<|Rv 7 b0 rfl c0 (fun _=>Bk 1 rfl)<|Rx 8 3584 b0 rfl c0 (Bj rfl ((d0.memA .t1) 1 _ rfl))<|bk h fun Y0 A0 h=>AW 9 1023 b0 rfl .plain (bd 182) rfl (e2 rfl rfl) (fun w9 hw9=>aq_c n (d0.hL hL hw9) (d0.km h0_1 hw9) (d0.km h1_1 hw9) A0) rfl fun V0 M0 x0 ⟨K0,hu_,z0⟩=>?_
 subst hu_
 obtain ⟨k0,I0⟩:=d0.agr x0
 refine bk h fun q0 B0 h=>AW 10 2047 b0 rfl .plain (bd 178) rfl (e2 rfl rfl) (fun w9 hw9=>ab_c n (k0.hL hL hw9) (Ai z0 hw9) B0) rfl fun W0 P0 y0 ⟨j0,hu_,p0⟩=>?_
 subst hu_
 obtain ⟨u0,J0⟩:=k0.agr y0
 refine Bq 11 4095 b0 rfl rfl .plain (AC (news:=[.bool q0.fe,j0]) u0 .hd rfl rfl rfl rfl rfl rfl (o2 rfl (AA p0))) fun X0 g0 v0=>AG (dk b0)<|Ar rfl<|Ap hb0 func153 rfl (.cons (.many (cs:=[.bool q0.fe,j0]) rfl rfl (g0.memA .hd)) .nil) rfl ?_
 cases h
 exact ⟨g0.ag,fun w9 hw9=>⟨j0,rfl,g0.kd (Ah p0 v0) hw9⟩⟩

def bU_p (n:Nat) (a0:Tg) (a1:Tg):Option Tg:=
  (aH_p n a0.fN a1.fD).bind fun b0=>(aH_p n a1.fN a0.fD).bind fun c0=>(aU_p n b0 c0).bind fun d0=>(aH_p n a0.fD a1.fD).bind fun g0=>(aQ_p n d0 g0).bind fun j0=>some j0
theorem bU_c (n:Nat) {L w} (hL:hl L w) (a0:Tg) {v0_1:Value} (h0_1:Rep.R w L [v0_1] a0.fN.fD) {v0_3:Value} (h0_3:Rep.R w L [v0_3] a0.fD.fD) (a1:Tg) {v1_1:Value} (h1_1:Rep.R w L [v1_1] a1.fN.fD) {v1_3:Value} (h1_3:Rep.R w L [v1_3] a1.fD.fD)  {r:Tg} (h:bU_p n a0 a1 = some r) :
 Cl 110 #[.agg #[.bool a0.fN.fe,v0_1,.bool a0.fD.fe,v0_3],.agg #[.bool a1.fN.fe,v1_1,.bool a1.fD.fe,v1_3]] w (ak w fun w' u=>∃ v0_1 v0_3:Value,u = .agg #[.bool r.fN.fe,v0_1,.bool r.fD.fe,v0_3]/\Rep.R w' L [v0_1] r.fN.fD/\Rep.R w' L [v0_3] r.fD.fD):=by
 unfold bU_p at h
 refine AI func110 rfl rfl rfl fun _ cs0 hb0=>Ae<|RG.bx (AH w) rfl rfl fun F1 c1 z0 j1=>RG.bx z0 rfl rfl fun G1 d1 A0 k1=>RG.nl [.bool false,vN,.bool false,vN] A0 fun H1 g1 d0 p1=>Aa<|Ak<|du 17 fun b0 c0=>Rv 0 b0 rfl c0 (fun _=>Bk 0 rfl)<|Rx 1 230928 b0 rfl c0 (AN (cs:=[.bool a0.fN.fe,v0_1]) rfl rfl (ae (d0.memA .t2) 0 2))<|Rv 2 b0 rfl c0 (fun _=>Bk 2 rfl)<|Rx 3 230928 b0 rfl c0 (AN (cs:=[.bool a1.fD.fe,v1_3]) rfl rfl (ae (d0.memA .t1) 2 2))<|Rv 5 b0 rfl c0 (fun _=>Bk 0 rfl)<|Rx 6 230912 b0 rfl c0 (AN (cs:=[.bool a1.fN.fe,v1_1]) rfl rfl (ae (d0.memA .t1) 0 2))<|Rv 7 b0 rfl c0 (fun _=>Bk 2 rfl)<|Rx 8 230912 b0 rfl c0 (AN (cs:=[.bool a0.fD.fe,v0_3]) rfl rfl (ae (d0.memA .t2) 2 2))<|Rv 11 b0 rfl c0 (fun _=>Bk 2 rfl)<|Rx 12 229376 b0 rfl c0 (AN (cs:=[.bool a0.fD.fe,v0_3]) rfl rfl (ae (d0.memA .t2) 2 2))<|Rv 13 b0 rfl c0 (fun _=>Bk 2 rfl)<|Rx 14 229376 b0 rfl c0 (AN (cs:=[.bool a1.fD.fe,v1_3]) rfl rfl (ae (d0.memA .t1) 2 2))<|bk h fun X0 Q0 h=>AW 4 31231 b0 rfl .plain (bd 153) rfl (e2 rfl rfl) (fun p q=>aH_c n (d0.hL hL q) a0.fN (d0.km h0_1 q) a1.fD (d0.km h1_3 q) Q0) rfl fun I1 A1 E0 ⟨v1,hu_,J0⟩=>?_
 subst hu_
 obtain ⟨g0,q1⟩:=d0.agr E0
 refine bk h fun Y0 R0 h=>AW 9 31743 b0 rfl .plain (bd 153) rfl (e2 rfl rfl) (fun p q=>aH_c n (g0.hL hL q) a1.fN (g0.km h1_1 q) a0.fD (g0.km h0_3 q) R0) rfl fun J1 B1 F0 ⟨x1,hu_,K0⟩=>?_
 subst hu_
 obtain ⟨t0,C0⟩:=g0.agr F0
 refine bk h fun Z0 U0 h=>AW 10 32767 b0 rfl .plain (bd 154) rfl (e2 rfl rfl) (fun p q=>aU_c n (t0.hL hL q) X0 (Ai (Ah J0 C0) q) Y0 (Ai K0 q) U0) rfl fun K1 C1 G0 ⟨y1,hu_,M0⟩=>?_
 subst hu_
 obtain ⟨j0,s1⟩:=t0.agr G0
 refine bk h fun b1 V0 h=>AW 15 65535 b0 rfl .plain (bd 153) rfl (e2 rfl rfl) (fun p q=>aH_c n (j0.hL hL q) a0.fD (j0.km h0_3 q) a1.fD (j0.km h1_3 q) V0) rfl fun M1 D1 H0 ⟨z1,hu_,P0⟩=>?_
 subst hu_
 obtain ⟨u0,D0⟩:=j0.agr H0
 refine bk h fun p0 W0 h=>AW 16 131071 b0 rfl .plain (bd 148) rfl (e2 rfl rfl) (fun p q=>aQ_c n (u0.hL hL q) Z0 (Ai (Ah M0 D0) q) b1 (Ai P0 q) W0) rfl fun P1 E1 I0 ⟨q0,s0,hu_,x0,y0⟩=>?_
 subst hu_
 obtain ⟨B0,u1⟩:=u0.agr I0
 refine Bq 17 262143 b0 rfl rfl .plain (AC (news:=[.bool p0.fN.fe,q0,.bool p0.fD.fe,s0]) B0 .hd rfl rfl rfl rfl rfl rfl (o4 rfl (AA x0) rfl (AA y0))) fun Q1 k0 v0=>AG (dk b0)<|Ar rfl<|Ap hb0 func110 rfl (.cons (.many (cs:=[.bool p0.fN.fe,q0,.bool p0.fD.fe,s0]) rfl rfl (k0.memA .hd)) .nil) rfl ?_
 cases h
 exact ⟨k0.ag,fun p q=>⟨q0,s0,rfl,k0.kd (Ah x0 v0) q,k0.kd (Ah y0 v0) q⟩⟩
def bP_p (n:Nat) (a0:Tf) (a1:Tf):Option Int:=
  (bG_p n a0 a1).bind fun b0=>(if b0.fe = true then some (-1:Int) else (if 0 < b0.fD.length then some (1:Int) else some (0:Int)))
theorem bP_c (n:Nat) {L w} (hL:hl L w) (a0:Tf) {v0_1:Value} (h0_1:Rep.R w L [v0_1] a0.fD) (a1:Tf) {v1_1:Value} (h1_1:Rep.R w L [v1_1] a1.fD)  {r:Int} (h:bP_p n a0 a1 = some r) :
 Cl 159 #[.agg #[.bool a0.fe,v0_1],.agg #[.bool a1.fe,v1_1]] w (ak w fun _ u=>u = vI r):=by
 unfold bP_p at h
 refine AI func159 rfl rfl rfl fun _ cs0 hb0=>Ae<|RG.bx (AH w) rfl rfl fun I0 A0 s0 D0=>RG.bx s0 rfl rfl fun J0 B0 b0 E0=>Ag rfl<|Aa<|Ae<|Ab (Aw rfl (b0.memA .t1))<|Ab (Aw rfl (b0.memA .hd))<|bk h fun d0 y0 h=>jE (bd 185) rfl (e2 rfl rfl) (fun p q=>bG_c n (b0.hL hL q) a0 (b0.km h0_1 q) a1 (b0.km h1_1 q) y0) rfl fun K0 H0 x0 ⟨z0,hu_,k0⟩=>?_
 subst hu_
 obtain ⟨t0,F0⟩:=b0.agr x0
 refine RG.nl [.bool false,vN] t0 fun M0 C0 u0 g0=>AJ [.bool d0.fe,z0] u0 .hd (o2 rfl (AA (Ah k0 g0))) fun P0 c0 v0=>Aa<|Ak<|Ae<|Bo 0 rfl<|Bv rfl ((c0.memA .hd) 0 _ rfl)<|Aa<|MX.ifb rfl h (fun p0 h=>?_) (fun p0 h=>?_)
 refine Ae<|Ag rfl<|Aa<|Ar rfl<|Be hb0 func159 rfl rfl ?_
 cases h
 exact c0.gv
 refine Av<|Ak<|Ae<|Bo 1 rfl<|Bv rfl ((c0.memA .hd) 1 _ rfl) ?_
 have j0:=Ah k0 (Tt g0 v0)
 have G0:d0.fD.length <= 281474976710656:=AX j0
 refine Ab (AZ (xs:=d0.fD) underlying140 rfl j0)<|Ab (FV.gtrN (i:=d0.fD.length) (j:=0) rfl rfl)<|Aa<|AV rfl h (fun q0 h=>?_) (fun q0 h=>?_)
 refine Ae<|Ag rfl<|Aa<|Ar rfl<|Be hb0 func159 rfl rfl ?_
 cases h
 exact c0.gv
 refine Av<|Ae<|Ag rfl<|Aa<|Ar rfl<|Be hb0 func159 rfl rfl ?_
 cases h
 exact c0.gv
def bQ_p (n:Nat) (a0:Tg) (a1:Tg):Option Int:=
  (aH_p n a0.fN a1.fD).bind fun b0=>(aH_p n a1.fN a0.fD).bind fun c0=>(bP_p n b0 c0).bind fun d0=>some d0
theorem bQ_c (n:Nat) {L w} (hL:hl L w) (a0:Tg) {v0_1:Value} (h0_1:Rep.R w L [v0_1] a0.fN.fD) {v0_3:Value} (h0_3:Rep.R w L [v0_3] a0.fD.fD) (a1:Tg) {v1_1:Value} (h1_1:Rep.R w L [v1_1] a1.fN.fD) {v1_3:Value} (h1_3:Rep.R w L [v1_3] a1.fD.fD)  {r:Int} (h:bQ_p n a0 a1 = some r) :
 Cl 120 #[.agg #[.bool a0.fN.fe,v0_1,.bool a0.fD.fe,v0_3],.agg #[.bool a1.fN.fe,v1_1,.bool a1.fD.fe,v1_3]] w (ak w fun _ u=>u = vI r):=by
 unfold bQ_p at h
 refine AI func120 rfl rfl rfl fun _ cs0 hb0=>Ae<|RG.bx (AH w) rfl rfl fun M0 C0 k0 E0=>RG.bx k0 rfl rfl fun P0 D0 d0 F0=>Ag rfl<|Aa<|Ak<|du 12 fun b0 c0=>Rv 0 b0 rfl c0 (fun _=>Bk 0 rfl)<|Rx 1 3600 b0 rfl c0 (AN (cs:=[.bool a0.fN.fe,v0_1]) rfl rfl (ae (d0.memA .t1) 0 2))<|Rv 2 b0 rfl c0 (fun _=>Bk 2 rfl)<|Rx 3 3600 b0 rfl c0 (AN (cs:=[.bool a1.fD.fe,v1_3]) rfl rfl (ae (d0.memA .hd) 2 2))<|Rv 5 b0 rfl c0 (fun _=>Bk 0 rfl)<|Rx 6 3584 b0 rfl c0 (AN (cs:=[.bool a1.fN.fe,v1_1]) rfl rfl (ae (d0.memA .hd) 0 2))<|Rv 7 b0 rfl c0 (fun _=>Bk 2 rfl)<|Rx 8 3584 b0 rfl c0 (AN (cs:=[.bool a0.fD.fe,v0_3]) rfl rfl (ae (d0.memA .t1) 2 2))<|bk h fun z0 v0 h=>AW 4 511 b0 rfl .plain (bd 153) rfl (e2 rfl rfl) (fun p q=>aH_c n (d0.hL hL q) a0.fN (d0.km h0_1 q) a1.fD (d0.km h1_3 q) v0) rfl fun Q0 J0 q0 ⟨H0,hu_,t0⟩=>?_
 subst hu_
 obtain ⟨g0,G0⟩:=d0.agr q0
 refine bk h fun A0 x0 h=>AW 9 1023 b0 rfl .plain (bd 153) rfl (e2 rfl rfl) (fun p q=>aH_c n (g0.hL hL q) a1.fN (g0.km h1_1 q) a0.fD (g0.km h0_3 q) x0) rfl fun R0 K0 s0 ⟨I0,hu_,u0⟩=>?_
 subst hu_
 obtain ⟨j0,p0⟩:=g0.agr s0
 refine bk h fun B0 y0 h=>RD.cq 10 2047 2048 (vI B0) b0 rfl c0 (bd 159) rfl (e2 rfl rfl) (fun p q=>bP_c n (j0.hL0 hL q) z0 (j0.kd (Ah t0 p0) q) A0 (j0.kd u0 q) y0) rfl<|Rv 11 b0 rfl c0 (fun _=>Bc rfl)<|AG (dk b0)<|Ar rfl<|Be hb0 func120 rfl rfl ?_
 cases h
 exact j0.gv
structure Td where
  fo:Tg
  fP:Tg
  deriving DecidableEq
instance:Rep Td:=Rep.via (β:=Tg × Tg) fun x=>(x.fo,x.fP)
theorem op_Tf {w:World} {L:List Nat} {cs:List Value} {x:Tf} (h:Rep.R w L cs x):∃ v1:Value,cs = [.bool x.fe,v1]/\Rep.R w L [v1] x.fD:=by
  obtain ⟨c0,r0,rfl,h0,h⟩:=h
  have e0:c0 = [.bool x.fe]:=h0; subst e0
  obtain ⟨v1,rfl,kv1⟩:=dn (xs:=x.fD) h
  exact ⟨v1,rfl,kv1⟩
theorem mk_Tf {w:World} {L:List Nat} (a0:Bool) (a1:List Int) {u1:Value} (h1:Rep.R w L [u1] a1):Rep.R w L [.bool a0,u1] (⟨a0,a1⟩:Tf):=⟨[.bool a0],[u1],rfl,rfl,h1⟩
theorem op_Tg {w:World} {L:List Nat} {cs:List Value} {x:Tg} (h:Rep.R w L cs x):∃ v1 v3:Value,cs = [.bool x.fN.fe,v1,.bool x.fD.fe,v3]/\Rep.R w L [v1] x.fN.fD/\Rep.R w L [v3] x.fD.fD:=by
  obtain ⟨c0,r0,rfl,h0,h⟩:=h
  obtain ⟨v1,rfl,kv1⟩:=op_Tf (x:=x.fN) h0
  obtain ⟨v3,rfl,kv3⟩:=op_Tf (x:=x.fD) h
  exact ⟨v1,v3,rfl,kv1,kv3⟩
theorem mk_Tg {w:World} {L:List Nat} (a0:Tf) {u1:Value} (h1:Rep.R w L [u1] a0.fD) (a1:Tf) {u3:Value} (h3:Rep.R w L [u3] a1.fD):Rep.R w L [.bool a0.fe,u1,.bool a1.fe,u3] (⟨a0,a1⟩:Tg):=⟨[.bool a0.fe,u1],[.bool a1.fe,u3],rfl,mk_Tf a0.fe a0.fD h1,mk_Tf a1.fe a1.fD h3⟩
theorem lW {w:World} {L:List Nat} {cs:List Value} {x:Td} (h:Rep.R w L cs x):∃ v1 v3 v5 v7:Value,cs = [.bool x.fo.fN.fe,v1,.bool x.fo.fD.fe,v3,.bool x.fP.fN.fe,v5,.bool x.fP.fD.fe,v7]/\Rep.R w L [v1] x.fo.fN.fD/\Rep.R w L [v3] x.fo.fD.fD/\Rep.R w L [v5] x.fP.fN.fD/\Rep.R w L [v7] x.fP.fD.fD:=by
  obtain ⟨c0,r0,rfl,h0,h⟩:=h
  obtain ⟨v1,v3,rfl,kv1,kv3⟩:=op_Tg (x:=x.fo) h0
  obtain ⟨v5,v7,rfl,kv5,kv7⟩:=op_Tg (x:=x.fP) h
  exact ⟨v1,v3,v5,v7,rfl,kv1,kv3,kv5,kv7⟩
theorem kG {w:World} {L:List Nat} (a0:Tg) {u1:Value} (h1:Rep.R w L [u1] a0.fN.fD) {u3:Value} (h3:Rep.R w L [u3] a0.fD.fD) (a1:Tg) {u5:Value} (h5:Rep.R w L [u5] a1.fN.fD) {u7:Value} (h7:Rep.R w L [u7] a1.fD.fD):Rep.R w L [.bool a0.fN.fe,u1,.bool a0.fD.fe,u3,.bool a1.fN.fe,u5,.bool a1.fD.fe,u7] (⟨a0,a1⟩:Td):=⟨[.bool a0.fN.fe,u1,.bool a0.fD.fe,u3],[.bool a1.fN.fe,u5,.bool a1.fD.fe,u7],rfl,mk_Tg a0.fN h1 a0.fD h3,mk_Tg a1.fN h5 a1.fD h7⟩
theorem em:ElT Tryz.prog 150 158 (Rep.size Td) 128 (.agg #[.bool false,vN,.bool false,vN,.bool false,vN,.bool false,vN]) [.bool false,vN,.bool false,vN,.bool false,vN,.bool false,vN]:=⟨underlying150,by kernel_rfl,rfl,rfl,rfl,rfl⟩
def bn_l1 (n:Nat) (a0:List Td) (a1:Tg) (a2:Tg) (j0:Bool × Nat × (List Td) -> Option (Bool × (List Td))):Bool × Nat × (List Td) -> Option (Bool × (List Td))
  | (d0,b0,c0)=>(if b0 < a0.length then (a0[b0]?).bind fun g0=>(bQ_p n g0.fo a1).bind fun p0=>(if d0 = true then (app c0 ([g0]:List Td)).bind fun s0=>j0 (d0,b0 + 1,s0) else (if p0 = 0 then (bU_p n g0.fP a2).bind fun y0=>(app c0 ([(⟨a1,y0⟩:Td)]:List Td)).bind fun t0=>j0 (true,b0 + 1,t0) else jn (fun (q0,u0)=>(app u0 ([g0]:List Td)).bind fun v0=>j0 (q0,b0 + 1,v0)) (fun k0=>(if 0 < p0 then (app c0 ([(⟨a1,a2⟩:Td)]:List Td)).bind fun x0=>k0 (true,x0) else k0 (d0,c0))))) else some (d0,c0))
def bn_p (n:Nat) (a0:List Td) (a1:Tg) (a2:Tg):Option (List Td):=
  Option.bind (ao (bn_l1 n a0 a1 a2) n (false,0,([]:List Td))) (fun (c0,b0)=>(if c0 = true then some b0 else (app b0 ([(⟨a1,a2⟩:Td)]:List Td)).bind fun d0=>some d0))
theorem bn_c (n:Nat) {L w} (hL:hl L w) {a0:List Td} {v0_0:Value} (h0_0:Rep.R w L [v0_0] a0) (a1:Tg) {v1_1:Value} (h1_1:Rep.R w L [v1_1] a1.fN.fD) {v1_3:Value} (h1_3:Rep.R w L [v1_3] a1.fD.fD) (a2:Tg) {v2_1:Value} (h2_1:Rep.R w L [v2_1] a2.fN.fD) {v2_3:Value} (h2_3:Rep.R w L [v2_3] a2.fD.fD)  {r:List Td} (h:bn_p n a0 a1 a2 = some r) :
 Cl 106 #[v0_0,.agg #[.bool a1.fN.fe,v1_1,.bool a1.fD.fe,v1_3],.agg #[.bool a2.fN.fe,v2_1,.bool a2.fD.fe,v2_3]] w (ak w fun w' u=>∃ v0_0:Value,u = v0_0/\Rep.R w' L [v0_0] r):=by
 unfold bn_p at h
 refine AI func106 rfl rfl rfl fun _ cs0 hb0=>Ae<|RG.bx (AH w) rfl rfl fun t7 E0 I2 b7=>RG.bx I2 rfl rfl fun u7 F0 I1 c7=>Ag rfl<|Aa<|Ae<|Ag rfl<|Aa<|Ae<|Ag rfl<|Aa<|Ak<|Ae<|Ag rfl<|Aa<|Ax ?_
 have J1:=I1.nilRow 158 (Rep.size Td)
 have d7:=St.nilRowT I1 158 (Rep.size Td)
 obtain ⟨q7,y3,u3⟩:=am h
 refine MX.lf (α:=Bool × Nat × (List Td) × Value × (List Value)) (fun ⟨x0,d0,q0,p0,u0⟩=>[(0,v0_0),(4,vP E0),(5,vP F0),(7,p0),(8,.bool x0),(9,vI ((d0:Nat):Int))]) (fun ⟨x0,d0,q0,p0,u0⟩=>[rr w 158 Td p0 q0.length u0,.cells F0 [.bool a2.fN.fe,v2_1,.bool a2.fD.fe,v2_3] 144,.cells E0 [.bool a1.fN.fe,v1_1,.bool a1.fD.fe,v1_3] 144]) (fun ⟨x0,d0,q0,p0,u0⟩ y2=>Cells y2 (bl [rr w 158 Td p0 q0.length u0,.cells F0 [.bool a2.fN.fe,v2_1,.bool a2.fD.fe,v2_3] 144,.cells E0 [.bool a1.fN.fe,v1_1,.bool a1.fD.fe,v1_3] 144] ++ L) u0 q0) (fun ⟨x0,d0,q0,p0,u0⟩=>(x0,d0,q0)) (false,0,([]:List Td),vN,[]) y3 J1 (AK (cs:=[]) (xs:=([]:List Td)) J1 L (AO _ _)) ?_
 rintro Q5 ⟨x0,d0,q0,p0,u0⟩ y2 c1 c0 u1 I0 h
 unfold bn_l1 at h
 try dsimp only at h
 refine Ak<|Ae<|Ac rfl<|Ac rfl ?_
 have y1:=AF h0_0 c0
 have p7:a0.length <= 281474976710656:=AX y1
 refine Ab (AZ (xs:=a0) underlying150 rfl y1)<|Ab (AY (i:=d0) (j:=a0.length) rfl rfl)<|Aa<|AV rfl h (fun A2 h=>?_) (fun A2 h=>?_)
 refine Av<|Ak<|Ax<|Ak<|du 8 fun t0 v0=>Rv 0 t0 rfl v0 (fun _=>Aq rfl)<|Rv 1 t0 rfl v0 (fun _=>Aq rfl)<|bk h fun b0 v2 h=>?_
 obtain ⟨U4,Z5,v1,x1,X6,z3,z1⟩:=Bh y1 v2
 obtain ⟨P0,Q0,R0,U0,rfl,A1,B1,C1,D1⟩:=lW z3
 refine Rv 2 t0 rfl v0 (fun _=>Bs 8 d0 rfl v1 rfl rfl x1)<|Rv 3 t0 rfl v0 (fun _=>Bk 0 rfl)<|Rx 4 192 t0 rfl v0 (AN (cs:=[.bool b0.fo.fN.fe,P0,.bool b0.fo.fD.fe,Q0]) rfl rfl (ae z1 0 4))<|Rx 5 192 t0 rfl v0 (Aw rfl (c0.memA .t2))<|bk h fun G1 E4 h=>RD.cq 6 127 128 (vI G1) t0 rfl v0 (bd 120) rfl (e2 rfl rfl) (fun p q=>bQ_c n (c0.hL0 hL q) b0.fo (c0.kd A1 q) (c0.kd B1 q) a1 (c0.k0 h1_1 q) (c0.k0 h1_3 q) E4) rfl<|Rv 7 t0 rfl v0 (fun _=>Bc rfl)<|AG (dk t0)<|Ak<|Ae<|Ac rfl<|Ab (FV.not rfl)<|Ac rfl<|RG.ifnb (s:=26) rfl h (fun b1 h=>?_) (fun b1 h=>?_)
 refine Aj<|Aj<|Bd rfl rfl<|Aa<|BG rfl<|Av<|Ak<|Ae<|Ac rfl<|Ab (FV.not rfl)<|Ac rfl<|RG.known (s:=44) rfl (nX b1)<|Aj<|Aj<|Bd rfl rfl<|Aa<|BG rfl<|Av<|Ao<|Ac rfl<|Ac rfl<|Ac rfl<|Ab (Bs 8 d0 rfl v1 rfl rfl x1)<|Ab (Aw rfl z1) ?_
 obtain ⟨V4,b6,D3,_⟩:=Bp A1
 obtain ⟨W4,c6,E3,_⟩:=Bp B1
 obtain ⟨X4,d6,F3,_⟩:=Bp C1
 obtain ⟨Y4,g6,G3,_⟩:=Bp D1
 refine Al .plain rfl (AS (α:=Td) (xs:=([b0]:List Td)) (vs:=[.agg #[.bool b0.fo.fN.fe,P0,.bool b0.fo.fD.fe,Q0,.bool b0.fP.fN.fe,R0,.bool b0.fP.fD.fe,U0]]) (ds' :=[.bool b0.fo.fN.fe,P0,.bool b0.fo.fD.fe,Q0,.bool b0.fP.fN.fe,R0,.bool b0.fP.fD.fe,U0]) rfl c0 em rfl (e1 rfl) (by rw [D3,E3,F3,G3]; try kernel_rfl) rfl) fun v7 U5 g1 G0=>bk h fun K4 z4 h=>BB .plain rfl (Bl (α:=Td) (ys:=([b0]:List Td)) z4 g1 (fun _ _=>.t1) em rfl rfl (AT I0 G0) (BJ (α:=Td) g1 .hd (AK (cs:=[.bool b0.fo.fN.fe,P0,.bool b0.fo.fD.fe,Q0,.bool b0.fP.fN.fe,R0,.bool b0.fP.fD.fe,U0]) (xs:=(([b0]:List Td):List Td)) g1 L (AD (cs:=[.bool b0.fo.fN.fe,P0,.bool b0.fo.fD.fe,Q0,.bool b0.fP.fN.fe,R0,.bool b0.fP.fD.fe,U0]) (ds:=[]) (kG b0.fo (Ah A1 G0) (Ah B1 G0) b0.fP (Ah C1 G0) (Ah D1 G0)) (AO _ _))))) fun G4 x7 ⟨E2,J2,W2,g3⟩=>Ag rfl<|Aa<|Ay<|Ao<|Ac rfl<|Ab (Bf (i:=d0) (j:=1) rfl rfl (by omega))<|Ag rfl<|Aa ?_
 obtain ⟨K2,M1⟩:=Az J2 .d1
 exact c1 (x0,d0 + 1,K4,G4,E2) K2 (Tt u1 (Tt G0 (Tt W2 M1))) (AT g3 M1) h
 refine AQ (Aq rfl)<|AQ (FV.eql (i:=G1) (j:=0) rfl rfl)<|Bz rfl rfl<|Aa<|AV rfl h (fun B2 h=>?_) (fun B2 h=>?_)
 refine Ak<|du 11 fun g0 s0=>Rv 0 g0 rfl s0 (fun _=>Aq rfl)<|Rx 1 7680 g0 rfl s0 (Aw rfl (c0.memA .t2))<|Rv 2 g0 rfl s0 (fun _=>Aq rfl)<|Rv 3 g0 rfl s0 (fun _=>Aq rfl)<|Rv 4 g0 rfl s0 (fun _=>Bs 8 d0 rfl v1 rfl rfl x1)<|Rv 5 g0 rfl s0 (fun _=>Bk 4 rfl)<|Rx 6 7936 g0 rfl s0 (AN (cs:=[.bool b0.fP.fN.fe,R0,.bool b0.fP.fD.fe,U0]) rfl rfl (ae z1 4 4))<|Rx 7 7936 g0 rfl s0 (Aw rfl (c0.memA .t1))<|bk h fun j0 F4 h=>AW 8 511 g0 rfl .plain (bd 110) rfl (e2 rfl rfl) (fun p q=>bU_c n (c0.hL hL q) b0.fP (Ai C1 q) (Ai D1 q) a2 (c0.km h2_1 q) (c0.km h2_3 q) F4) rfl fun y7 s7 d3 ⟨J0,K0,hu_,E1,F1⟩=>?_
 subst hu_
 obtain ⟨j1,P1⟩:=c0.agr d3
 have W1:=AF h1_1 j1
 obtain ⟨Z4,j6,H3,_⟩:=Bp W1
 have X1:=AF h1_3 j1
 obtain ⟨b5,k6,I3,_⟩:=Bp X1
 obtain ⟨c5,p6,J3,_⟩:=Bp E1
 obtain ⟨d5,q6,K3,_⟩:=Bp F1
 refine Rv 9 g0 rfl s0 (fun _=>AR (vs:=[.agg #[.bool a1.fN.fe,v1_1,.bool a1.fD.fe,v1_3],.agg #[.bool j0.fN.fe,J0,.bool j0.fD.fe,K0]]) (u:=.agg #[.bool a1.fN.fe,v1_1,.bool a1.fD.fe,v1_3,.bool j0.fN.fe,J0,.bool j0.fD.fe,K0]) (e2 rfl rfl) (fun p=>by rw [H3,I3,J3,K3]; try kernel_rfl)) ?_
 obtain ⟨g5,s6,M3,_⟩:=Bp W1
 obtain ⟨j5,t6,P3,_⟩:=Bp X1
 obtain ⟨k5,u6,Q3,_⟩:=Bp E1
 obtain ⟨p5,v6,R3,_⟩:=Bp F1
 refine RD.nu 10 2047 g0 rfl .plain rfl (AS (α:=Td) (xs:=([(⟨a1,j0⟩:Td)]:List Td)) (vs:=[.agg #[.bool a1.fN.fe,v1_1,.bool a1.fD.fe,v1_3,.bool j0.fN.fe,J0,.bool j0.fD.fe,K0]]) (ds' :=[.bool a1.fN.fe,v1_1,.bool a1.fD.fe,v1_3,.bool j0.fN.fe,J0,.bool j0.fD.fe,K0]) rfl j1 em rfl (e1 rfl) (by rw [M3,P3,Q3,R3]; try kernel_rfl) rfl) fun z7 V5 M0 V0=>bk h fun M4 A4 h=>BH (i:=11) (rk g0) (RO.doesL (m' :=4095) (sk g0) rfl rfl .plain rfl (Bl (α:=Td) (ys:=([(⟨a1,j0⟩:Td)]:List Td)) A4 M0 (fun _ _=>.t1) em rfl rfl (AT I0 (Tt P1 V0)) (BJ (α:=Td) M0 .hd (AK (cs:=[.bool a1.fN.fe,v1_1,.bool a1.fD.fe,v1_3,.bool j0.fN.fe,J0,.bool j0.fD.fe,K0]) (xs:=(([(⟨a1,j0⟩:Td)]:List Td):List Td)) M0 L (AD (cs:=[.bool a1.fN.fe,v1_1,.bool a1.fD.fe,v1_3,.bool j0.fN.fe,J0,.bool j0.fD.fe,K0]) (ds:=[]) (kG a1 (AF h1_1 M0) (AF h1_3 M0) j0 (Ah E1 V0) (Ah F1 V0)) (AO _ _))))) (fun H4 A7 ⟨F2,M2,X2,j3⟩=>?_))
 refine BH (i:=12) (rk g0) (BM (m' :=8191) (sk g0) rfl .plain rfl (Bc rfl) ?_)
 refine AG (dk g0)<|Ae<|Ag rfl<|Aa<|Ba rfl<|Ao<|Ac rfl<|Ab (Bf (i:=d0) (j:=1) rfl rfl (by omega))<|Ag rfl<|Aa ?_
 obtain ⟨P2,Q1⟩:=Az M2 .d1
 exact c1 (true,d0 + 1,M4,H4,F2) P2 (Tt u1 (Tt P1 (Tt V0 (Tt X2 Q1)))) (AT j3 Q1) h
 refine Av<|Ak<|Ae<|Ac rfl<|Ab (FV.not rfl)<|Ac rfl<|RG.known (s:=44) rfl (nX (Bool.eq_false_iff.2 b1))<|AQ (Aq rfl)<|AQ (FV.gtr (i:=G1) (j:=0) rfl rfl)<|Bz rfl rfl<|Aa<|MX.jf (α:=Bool × (List Td) × Value × (List Value)) (fun ⟨C0,y0,D0,z0⟩=>[(0,v0_0),(4,vP E0),(5,vP F0),(7,D0),(8,.bool C0),(9,vI ((d0:Nat):Int))]) (fun ⟨C0,y0,D0,z0⟩=>[rr w 158 Td D0 y0.length z0,.cells F0 [.bool a2.fN.fe,v2_1,.bool a2.fD.fe,v2_3] 144,.cells E0 [.bool a1.fN.fe,v1_1,.bool a1.fD.fe,v1_3] 144]) (fun ⟨C0,y0,D0,z0⟩ z2=>Cells z2 (bl [rr w 158 Td D0 y0.length z0,.cells F0 [.bool a2.fN.fe,v2_1,.bool a2.fD.fe,v2_3] 144,.cells E0 [.bool a1.fN.fe,v1_1,.bool a1.fD.fe,v1_3] 144] ++ L) z0 y0) (fun ⟨C0,y0,D0,z0⟩=>(C0,y0)) c0 h ?_ ?_
 rintro ⟨C0,y0,D0,z0⟩ z2 K1 Y2 k3 h
 try dsimp only at h
 refine Ao<|Ac rfl<|Ac rfl<|Ac rfl ?_
 obtain ⟨q5,x6,t3,v3,Y6,A3,x3⟩:=Bh (AF h0_0 K1) v2
 obtain ⟨W0,X0,Y0,Z0,rfl,p2,q2,s2,u2⟩:=lW A3
 refine Ab (Bs 8 d0 rfl t3 rfl rfl v3)<|Ab (Aw rfl x3) ?_
 obtain ⟨s5,y6,U3,_⟩:=Bp p2
 obtain ⟨t5,z6,V3,_⟩:=Bp q2
 obtain ⟨u5,A6,W3,_⟩:=Bp s2
 obtain ⟨v5,B6,X3,_⟩:=Bp u2
 refine Al .plain rfl (AS (α:=Td) (xs:=([b0]:List Td)) (vs:=[.agg #[.bool b0.fo.fN.fe,W0,.bool b0.fo.fD.fe,X0,.bool b0.fP.fN.fe,Y0,.bool b0.fP.fD.fe,Z0]]) (ds' :=[.bool b0.fo.fN.fe,W0,.bool b0.fo.fD.fe,X0,.bool b0.fP.fN.fe,Y0,.bool b0.fP.fD.fe,Z0]) rfl K1 em rfl (e1 rfl) (by rw [U3,V3,W3,X3]; try kernel_rfl) rfl) fun B7 W5 k1 H0=>bk h fun P4 B4 h=>BB .plain rfl (Bl (α:=Td) (ys:=([b0]:List Td)) B4 k1 (fun _ _=>.t1) em rfl rfl (AT k3 H0) (BJ (α:=Td) k1 .hd (AK (cs:=[.bool b0.fo.fN.fe,W0,.bool b0.fo.fD.fe,X0,.bool b0.fP.fN.fe,Y0,.bool b0.fP.fD.fe,Z0]) (xs:=(([b0]:List Td):List Td)) k1 L (AD (cs:=[.bool b0.fo.fN.fe,W0,.bool b0.fo.fD.fe,X0,.bool b0.fP.fN.fe,Y0,.bool b0.fP.fD.fe,Z0]) (ds:=[]) (kG b0.fo (Ah p2 H0) (Ah q2 H0) b0.fP (Ah s2 H0) (Ah u2 H0)) (AO _ _))))) fun I4 C7 ⟨G2,Q2,Z2,p3⟩=>Ag rfl<|Aa<|Ay<|Ao<|Ac rfl<|Ab (Bf (i:=d0) (j:=1) rfl rfl (by omega))<|Ag rfl<|Aa ?_
 obtain ⟨R2,R1⟩:=Az Q2 .d1
 exact c1 (C0,d0 + 1,P4,I4,G2) R2 (Tt u1 (Tt Y2 (Tt H0 (Tt Z2 R1)))) (AT p3 R1) h
 intro R5 H1 h
 try dsimp only at h
 refine AV rfl h (fun C2 h=>?_) (fun C2 h=>?_)
 refine Ae<|Ac rfl<|Ab (Aw rfl (c0.memA .t2))<|Ab (Aw rfl (c0.memA .t1)) ?_
 have Y1:=AF h1_1 c0
 obtain ⟨x5,C6,Y3,_⟩:=Bp Y1
 have Z1:=AF h1_3 c0
 obtain ⟨y5,D6,Z3,_⟩:=Bp Z1
 have b2:=AF h2_1 c0
 obtain ⟨z5,E6,b4,_⟩:=Bp b2
 have c2:=AF h2_3 c0
 obtain ⟨A5,F6,c4,_⟩:=Bp c2
 refine Ab (AR (vs:=[.agg #[.bool a1.fN.fe,v1_1,.bool a1.fD.fe,v1_3],.agg #[.bool a2.fN.fe,v2_1,.bool a2.fD.fe,v2_3]]) (u:=.agg #[.bool a1.fN.fe,v1_1,.bool a1.fD.fe,v1_3,.bool a2.fN.fe,v2_1,.bool a2.fD.fe,v2_3]) (e2 rfl rfl) (fun p=>by rw [Y3,Z3,b4,c4]; try kernel_rfl)) ?_
 obtain ⟨B5,G6,d4,_⟩:=Bp Y1
 obtain ⟨C5,H6,g4,_⟩:=Bp Z1
 obtain ⟨D5,I6,j4,_⟩:=Bp b2
 obtain ⟨E5,J6,k4,_⟩:=Bp c2
 refine Al .plain rfl (AS (α:=Td) (xs:=([(⟨a1,a2⟩:Td)]:List Td)) (vs:=[.agg #[.bool a1.fN.fe,v1_1,.bool a1.fD.fe,v1_3,.bool a2.fN.fe,v2_1,.bool a2.fD.fe,v2_3]]) (ds' :=[.bool a1.fN.fe,v1_1,.bool a1.fD.fe,v1_3,.bool a2.fN.fe,v2_1,.bool a2.fD.fe,v2_3]) rfl c0 em rfl (e1 rfl) (by rw [d4,g4,j4,k4]; try kernel_rfl) rfl) fun D7 X5 A0 U1=>bk h fun Q4 C4 h=>BB .plain rfl (Bl (α:=Td) (ys:=([(⟨a1,a2⟩:Td)]:List Td)) C4 A0 (fun _ _=>.t1) em rfl rfl (AT I0 U1) (BJ (α:=Td) A0 .hd (AK (cs:=[.bool a1.fN.fe,v1_1,.bool a1.fD.fe,v1_3,.bool a2.fN.fe,v2_1,.bool a2.fD.fe,v2_3]) (xs:=(([(⟨a1,a2⟩:Td)]:List Td):List Td)) A0 L (AD (cs:=[.bool a1.fN.fe,v1_1,.bool a1.fD.fe,v1_3,.bool a2.fN.fe,v2_1,.bool a2.fD.fe,v2_3]) (ds:=[]) (kG a1 (AF h1_1 A0) (AF h1_3 A0) a2 (AF h2_1 A0) (AF h2_3 A0)) (AO _ _))))) fun J4 E7 ⟨H2,U2,b3,q3⟩=>Ag rfl<|Aa<|Ao<|Ag rfl<|Aa ?_
 obtain ⟨V2,V1⟩:=Az U2 .d1
 exact H1 (true,Q4,J4,H2) V2 (Tt U1 (Tt b3 V1)) (AT q3 V1) h
 refine Av<|H1 (x0,q0,p0,u0) c0 (BI _ _) I0 h
 refine Ba rfl ?_
 have h:=u3 _ h
 try dsimp only at h
 refine Ak<|Ae<|Ac rfl<|Ab (FV.not rfl)<|Aa<|MX.ifnb rfl h (fun D2 h=>?_) (fun D2 h=>?_)
 refine Av<|Ae<|Ac rfl<|Ag rfl<|Aa<|Ar rfl ?_
 have p1:=BC c0 .hd
 have g7:=BD c0 .hd
 have B3:=BE (α:=Td) (v:=p0) (xs:=q0) p1 L (Bm (α:=Td) c0 .hd I0 hL)
 refine Be hb0 func106 rfl rfl ?_
 cases h
 exact ⟨p1.ag,fun p q=>⟨p0,rfl,p1.kd B3 q⟩⟩
 refine Ao<|Ac rfl<|Ab (Aw rfl (c0.memA .t2))<|Ab (Aw rfl (c0.memA .t1)) ?_
 have d2:=AF h1_1 c0
 obtain ⟨F5,K6,p4,_⟩:=Bp d2
 have g2:=AF h1_3 c0
 obtain ⟨G5,M6,q4,_⟩:=Bp g2
 have j2:=AF h2_1 c0
 obtain ⟨H5,P6,s4,_⟩:=Bp j2
 have k2:=AF h2_3 c0
 obtain ⟨I5,Q6,t4,_⟩:=Bp k2
 refine Ab (AR (vs:=[.agg #[.bool a1.fN.fe,v1_1,.bool a1.fD.fe,v1_3],.agg #[.bool a2.fN.fe,v2_1,.bool a2.fD.fe,v2_3]]) (u:=.agg #[.bool a1.fN.fe,v1_1,.bool a1.fD.fe,v1_3,.bool a2.fN.fe,v2_1,.bool a2.fD.fe,v2_3]) (e2 rfl rfl) (fun p=>by rw [p4,q4,s4,t4]; try kernel_rfl)) ?_
 obtain ⟨J5,R6,u4,_⟩:=Bp d2
 obtain ⟨K5,U6,v4,_⟩:=Bp g2
 obtain ⟨M5,V6,x4,_⟩:=Bp j2
 obtain ⟨P5,W6,y4,_⟩:=Bp k2
 refine Al .plain rfl (AS (α:=Td) (xs:=([(⟨a1,a2⟩:Td)]:List Td)) (vs:=[.agg #[.bool a1.fN.fe,v1_1,.bool a1.fD.fe,v1_3,.bool a2.fN.fe,v2_1,.bool a2.fD.fe,v2_3]]) (ds' :=[.bool a1.fN.fe,v1_1,.bool a1.fD.fe,v1_3,.bool a2.fN.fe,v2_1,.bool a2.fD.fe,v2_3]) rfl c0 em rfl (e1 rfl) (by rw [u4,v4,x4,y4]; try kernel_rfl) rfl) fun F7 Y5 B0 c3=>bk h fun R4 D4 h=>BB .plain rfl (Bl (α:=Td) (ys:=([(⟨a1,a2⟩:Td)]:List Td)) D4 B0 (fun _ _=>.t1) em rfl rfl (AT I0 c3) (BJ (α:=Td) B0 .hd (AK (cs:=[.bool a1.fN.fe,v1_1,.bool a1.fD.fe,v1_3,.bool a2.fN.fe,v2_1,.bool a2.fD.fe,v2_3]) (xs:=(([(⟨a1,a2⟩:Td)]:List Td):List Td)) B0 L (AD (cs:=[.bool a1.fN.fe,v1_1,.bool a1.fD.fe,v1_3,.bool a2.fN.fe,v2_1,.bool a2.fD.fe,v2_3]) (ds:=[]) (kG a1 (AF h1_1 B0) (AF h1_3 B0) a2 (AF h2_1 B0) (AF h2_3 B0)) (AO _ _))))) fun x2 G7 ⟨Z6,q1,j7,s3⟩=>Ag rfl<|Aa<|Ae<|Ac rfl<|Ag rfl<|Aa<|Ar rfl ?_
 have s1:=BC q1 .t1
 have k7:=BD q1 .t1
 have C3:=BE (α:=Td) (v:=x2) (xs:=R4) s1 L (Bm (α:=Td) q1 .t1 s3 hL)
 refine Be hb0 func106 rfl rfl ?_
 cases h
 exact ⟨s1.ag,fun p q=>⟨x2,rfl,s1.kd C3 q⟩⟩
def bp_l1 (n:Nat) (a0:List Td) (k0:Nat × (List Ta) -> Option (((List Ta) × Int) ⊕ (List Ta))):Nat × (List Ta) -> Option (((List Ta) × Int) ⊕ (List Ta))
  | (b0,d0)=>(if b0 < a0.length then (a0[b0]?).bind fun c0=>(bb_p n c0.fo).bind fun g0=>(bb_p n c0.fP).bind fun j0=>(if g0.2 = 0 then (if j0.2 = 0 then (app d0 ([(⟨g0.1,j0.1⟩:Ta)]:List Ta)).bind fun p0=>k0 (b0 + 1,p0) else some (.inl (([]:List Ta),(6:Int)))) else some (.inl (([]:List Ta),(6:Int)))) else some (.inr d0))
def bp_p (n:Nat) (a0:List Td):Option ((List Ta) × Int):=
  (if 400 < a0.length then some (([]:List Ta),(3:Int)) else thn (ao (bp_l1 n a0) n (0,([]:List Ta))) (fun b0=>some (b0,(0:Int))))
theorem bp_c (n:Nat) {L w} (hL:hl L w) {a0:List Td} {v0_0:Value} (h0_0:Rep.R w L [v0_0] a0)  {r:(List Ta) × Int} (h:bp_p n a0 = some r) :
 Cl 108 #[v0_0] w (ak w fun w' u=>∃ v0_0:Value,u = .tuple #[v0_0,vI r.2]/\Rep.R w' L [v0_0] r.1):=by
 unfold bp_p at h
 have hS0:=AH w
 refine AI func108 rfl rfl rfl fun _ cs0 hb0=>Ae<|Ag rfl<|Ag rfl<|Aa<|Ak<|Ae<|Ac rfl ?_
 have hl1:a0.length <= 281474976710656:=AX h0_0
 refine Ab (AZ (xs:=a0) underlying150 rfl h0_0)<|Ab (FV.gtrN (i:=a0.length) (j:=400) rfl rfl)<|Aa<|AV rfl h (fun c2 h=>?_) (fun c2 h=>?_)
 refine Ae<|Ag rfl<|Ag rfl<|Aa<|Ar rfl ?_
 have hr3:=By (α:=Ta) hS0 L
 refine Ap hb0 func108 rfl (.cons (.tmp rfl) (.cons (.tmp rfl) .nil)) rfl ?_
 cases h
 exact ⟨hS0.ag,fun p q=>⟨vN,rfl,hS0.kd hr3 q⟩⟩
 refine Av<|Ae<|Ag rfl<|Aa<|Ak<|Ae<|Ag rfl<|Aa<|Ax ?_
 have y0:=hS0.nilRow 37 (Rep.size Ta)
 have d2:=St.nilRowT hS0 37 (Rep.size Ta)
 refine tn h fun s2 q1 x0=>MX.lf (α:=Nat × (List Ta) × Value × (List Value)) (fun ⟨d0,k0,j0,q0⟩=>[(0,v0_0),(4,j0),(5,vI ((d0:Nat):Int))]) (fun ⟨d0,k0,j0,q0⟩=>[rr w 37 Ta j0 k0.length q0]) (fun ⟨d0,k0,j0,q0⟩ E0=>Cells E0 (bl [rr w 37 Ta j0 k0.length q0] ++ L) q0 k0) (fun ⟨d0,k0,j0,q0⟩=>(d0,k0)) (0,([]:List Ta),vN,[]) q1 y0 (AK (cs:=[]) (xs:=([]:List Ta)) y0 L (AO _ _)) ?_
 rintro R1 ⟨d0,k0,j0,q0⟩ E0 J0 p0 R0 A0 h
 unfold bp_l1 at h
 try dsimp only at h
 refine Ak<|Ae<|Ac rfl<|Ac rfl ?_
 have B0:=AF h0_0 p0
 refine Ab (AZ (xs:=a0) underlying150 rfl B0)<|Ab (AY (i:=d0) (j:=a0.length) rfl rfl)<|Aa<|AV rfl h (fun F0 h=>?_) (fun F0 h=>?_)
 refine Av<|Ak<|Ax<|Ae<|Ac rfl<|Ac rfl<|bk h fun s0 D0 h=>?_
 obtain ⟨P1,X1,c1,g1,Z1,s1,k1⟩:=Bh B0 D0
 obtain ⟨G1,H1,t2,u2,rfl,u1,v1,j2,k2⟩:=lW s1
 refine Ab (Bs 8 d0 rfl c1 rfl rfl g1)<|Bo 0 rfl<|Ab (AN (cs:=[.bool s0.fo.fN.fe,G1,.bool s0.fo.fD.fe,H1]) rfl rfl (ae k1 0 4))<|bk h fun b0 E1 h=>Bb (.tuple #[.agg ((aa b0.1)).toArray,vI b0.2]) (bd 96) rfl (e1 rfl) (fun p q=>bb_c n (p0.hL0 hL q) s0.fo (p0.kd u1 q) (p0.kd v1 q) E1) rfl<|Ac rfl<|Ab (Af rfl rfl)<|Ab (Af rfl rfl)<|RG.nl zL p0 fun y2 U1 K0 U0=>AJ (aa b0.1) K0 .hd (ai rfl) fun z2 t0 V0=>Ag rfl<|Aa<|Ae<|Ac rfl<|Ac rfl ?_
 obtain ⟨Q1,Y1,d1,j1,b2,x1,p1⟩:=Bh (AF h0_0 t0) D0
 obtain ⟨v2,x2,I1,J1,rfl,p2,q2,y1,z1⟩:=lW x1
 refine Ab (Bs 8 d0 rfl d1 rfl rfl j1)<|Bo 4 rfl<|Ab (AN (cs:=[.bool s0.fP.fN.fe,I1,.bool s0.fP.fD.fe,J1]) rfl rfl (ae p1 4 4))<|bk h fun c0 F1 h=>Bb (.tuple #[.agg ((aa c0.1)).toArray,vI c0.2]) (bd 96) rfl (e1 rfl) (fun p q=>bb_c n (t0.hL0 hL q) s0.fP (t0.kd y1 q) (t0.kd z1 q) F1) rfl<|Ac rfl<|Ab (Af rfl rfl)<|Ab (Af rfl rfl)<|RG.nl zL t0 fun A2 V1 M0 W0=>AJ (aa c0.1) M0 .hd (ai rfl) fun B2 g0 X0=>Ag rfl<|Aa<|Ak<|Ae<|Ac rfl<|Ab (Bw (i:=b0.2) (j:=0) rfl rfl)<|Ac rfl<|RG.ifn (s:=39) rfl h (fun G0 h=>?_) (fun G0 h=>?_)
 refine AQ (Aq rfl)<|AQ (Bw (i:=c0.2) (j:=0) rfl rfl)<|Bd rfl rfl<|Aa<|BN rfl h (fun H0 h=>?_) (fun H0 h=>?_)
 refine Av<|Ao<|Ac rfl<|Ab (Aw rfl (g0.memA .t1))<|Ab (Aw rfl (g0.memA .hd))<|Ab (AR (vs:=[.agg ((aa b0.1)).toArray,.agg ((aa c0.1)).toArray]) (u:=.agg ((aa b0.1 ++ aa c0.1)).toArray) (e2 rfl rfl) (fun p=>by kernel_rfl))<|Al .plain rfl (AS (α:=Ta) (xs:=([(⟨b0.1,c0.1⟩:Ta)]:List Ta)) (vs:=[.agg ((aa b0.1 ++ aa c0.1)).toArray]) (ds' :=(aa b0.1 ++ aa c0.1)) rfl g0 ek rfl (e1 rfl) (by kernel_rfl) rfl) fun C2 W1 u0 Y0=>bk h fun M1 D1 h=>?_
 have C0:=Tt U0 (Tt V0 (Tt W0 (Tt X0 Y0)))
 refine BB .plain rfl (Bl (α:=Ta) (ys:=([(⟨b0.1,c0.1⟩:Ta)]:List Ta)) D1 u0 (fun _ _=>.t3) ek rfl rfl (AT A0 C0) (BJ (α:=Ta) u0 .hd (AK (cs:=(aa b0.1 ++ aa c0.1)) (xs:=(([(⟨b0.1,c0.1⟩:Ta)]:List Ta):List Ta)) u0 L (AD (cs:=(aa b0.1 ++ aa c0.1)) (ds:=[]) (bA b0.1 c0.1) (AO _ _))))) fun K1 D2 ⟨I0,P0,Z0,b1⟩=>Ag rfl<|Aa<|Ay<|Ao<|Ac rfl<|Ab (Bf (i:=d0) (j:=1) rfl rfl (by omega))<|Ag rfl<|Aa ?_
 obtain ⟨Q0,z0⟩:=Az P0 .d3
 exact J0 (d0 + 1,M1,K1,I0) Q0 (Tt R0 (Tt C0 (Tt Z0 z0))) (AT b1 z0) h
 refine Ae<|Ag rfl<|Ag rfl<|Aa ?_
 have h:=bE h x0
 refine Ar rfl ?_
 have A1:=By (α:=Ta) g0 L
 refine Ap hb0 func108 rfl (.cons (.tmp rfl) (.cons (.tmp rfl) .nil)) rfl ?_
 cases h
 exact ⟨g0.ag,fun p q=>⟨vN,rfl,g0.kd A1 q⟩⟩
 refine Aj<|Aj<|Bz rfl rfl<|Aa<|AU rfl<|Ae<|Ag rfl<|Ag rfl<|Aa ?_
 have h:=bE h x0
 refine Ar rfl ?_
 have B1:=By (α:=Ta) g0 L
 refine Ap hb0 func108 rfl (.cons (.tmp rfl) (.cons (.tmp rfl) .nil)) rfl ?_
 cases h
 exact ⟨g0.ag,fun p q=>⟨vN,rfl,g0.kd B1 q⟩⟩
 refine Ba rfl ?_
 have h:=br h x0
 try dsimp only at h
 refine Ae<|Ac rfl<|Ag rfl<|Ag rfl<|Aa<|Ar rfl ?_
 have v0:=BC p0 .hd
 have g2:=BD p0 .hd
 have C1:=BE (α:=Ta) (v:=j0) (xs:=k0) v0 L (Bm (α:=Ta) p0 .hd A0 hL)
 refine Ap hb0 func108 rfl (.cons (.tmp rfl) (.cons (.tmp rfl) .nil)) rfl ?_
 cases h
 exact ⟨v0.ag,fun p q=>⟨j0,rfl,v0.kd C1 q⟩⟩
def aW_l1 (n:Nat) (a0:List Tb) (d0:(List Td) × Nat -> Option (List Td)):(List Td) × Nat -> Option (List Td)
  | (c0,b0)=>(if b0 < a0.length then (a0[b0]?).bind fun g0=>(cm_p n g0).bind fun k0=>(bt_p n (1:Int) ((a0.length:Nat):Int)).bind fun p0=>(bn_p n c0 k0 p0).bind fun j0=>d0 (j0,b0 + 1) else some c0)
def aW_p (n:Nat) (a0:List Tb):Option ((List Ta) × Int):=
  (if 400 < a0.length then some (([]:List Ta),(3:Int)) else (aS_p n a0).bind fun y4=>(if y4 = true then (if a0.length = 0 then some (([]:List Ta),(4:Int)) else Option.bind (ao (aW_l1 n a0) n (([]:List Td),0)) (fun c0=>(bp_p n c0).bind fun b0=>some (b0.1,b0.2))) else some (([]:List Ta),(20:Int))))
theorem aW_c (n:Nat) {L w} (hL:hl L w) {a0:List Tb} {v0_0:Value} (h0_0:Rep.R w L [v0_0] a0)  {r:(List Ta) × Int} (h:aW_p n a0 = some r) :
 Cl 62 #[v0_0] w (ak w fun w' u=>∃ v0_0:Value,u = .tuple #[v0_0,vI r.2]/\Rep.R w' L [v0_0] r.1):=by
 unfold aW_p at h
 have hS0:=AH w
 refine AI func62 rfl rfl rfl fun _ cs0 hb0=>Ae<|Ag rfl<|Ag rfl<|Aa<|Ak<|Ae<|Ac rfl ?_
 have hl1:a0.length <= 281474976710656:=AX h0_0
 refine Ab (AZ (xs:=a0) underlying51 rfl h0_0)<|Ab (FV.gtrN (i:=a0.length) (j:=400) rfl rfl)<|Aa<|AV rfl h (fun c2 h=>?_) (fun c2 h=>?_)
 refine Ae<|Ag rfl<|Ag rfl<|Aa<|Ar rfl ?_
 have hr3:=By (α:=Ta) hS0 L
 refine Ap hb0 func62 rfl (.cons (.tmp rfl) (.cons (.tmp rfl) .nil)) rfl ?_
 cases h
 exact ⟨hS0.ag,fun p q=>⟨vN,rfl,hS0.kd hr3 q⟩⟩
 refine Av<|Ak<|Ae<|Ac rfl<|bk h fun y4 hy4 h=>Bb (.bool y4) (bd 102) rfl (e1 rfl) (fun p q=>aS_c n (hS0.hL0 hL q) (hS0.kd h0_0 q) hy4) rfl<|Ab (FV.not rfl)<|Aa<|MX.ifnb rfl h (fun c5 h=>?_) (fun c5 h=>?_)
 refine Av<|Ak<|Ae<|Ac rfl<|Ab (AZ (xs:=a0) underlying51 rfl h0_0)<|Ab (FV.eqlN (i:=a0.length) (j:=0) rfl rfl)<|Aa<|AV rfl h (fun c6 h=>?_) (fun c6 h=>?_)
 refine Ae<|Ag rfl<|Ag rfl<|Aa<|Ar rfl ?_
 have hr7:=By (α:=Ta) hS0 L
 refine Ap hb0 func62 rfl (.cons (.tmp rfl) (.cons (.tmp rfl) .nil)) rfl ?_
 cases h
 exact ⟨hS0.ag,fun p q=>⟨vN,rfl,hS0.kd hr7 q⟩⟩
 refine Av<|Ae<|Ag rfl<|Aa<|Ak<|Ae<|Ag rfl<|Aa<|Ax ?_
 obtain ⟨z1,K0,H0⟩:=am h
 refine MX.lf (α:=(List Td) × Nat × Value) (fun ⟨d0,b0,c0⟩=>[(0,v0_0),(4,c0),(5,vI ((b0:Nat):Int))]) (fun ⟨d0,b0,c0⟩=>[]) (fun ⟨d0,b0,c0⟩ v0=>Rep.R v0 (bl [] ++ L) [c0] d0) (fun ⟨d0,b0,c0⟩=>(d0,b0)) (([]:List Td),0,vN) K0 hS0 (By (α:=Td) hS0 L) ?_
 rintro u1 ⟨d0,b0,c0⟩ v0 y0 g0 B0 u0 h
 unfold aW_l1 at h
 try dsimp only at h
 refine Ak<|Ae<|Ac rfl<|Ac rfl ?_
 have t0:=AF h0_0 g0
 refine Ab (AZ (xs:=a0) underlying51 rfl t0)<|Ab (AY (i:=b0) (j:=a0.length) rfl rfl)<|Aa<|AV rfl h (fun x0 h=>?_) (fun x0 h=>?_)
 refine Av<|Ak<|Ax<|Ao<|Ac rfl<|Ac rfl<|Ac rfl<|bk h fun k1 Y0 h=>?_
 obtain ⟨t1,v1,G0,I0,x1,V0,J0⟩:=Bh t0 Y0
 obtain rfl:=cY V0
 refine Ab (Bs 16 b0 rfl G0 rfl rfl I0)<|Ab (Aw rfl J0)<|bk h fun q1 c1 h=>jE (bd 104) rfl (e1 rfl) (fun p q=>cm_c n (g0.hL hL q) k1 c1) rfl fun K1 G1 E0 ⟨B1,C1,hu_,W0,X0⟩=>?_
 subst hu_
 obtain ⟨k0,s0⟩:=g0.agr E0
 refine Ac rfl<|Ab (AZ (xs:=a0) underlying51 rfl (AF h0_0 k0))<|bk h fun s1 d1 h=>jE (bd 97) rfl (e2 rfl rfl) (fun p q=>bt_c n (k0.hL hL q)  d1) rfl fun M1 H1 F0 ⟨D1,E1,hu_,M0,P0⟩=>?_
 subst hu_
 obtain ⟨q0,j0⟩:=k0.agr F0
 refine bk h fun p1 Z0 h=>jE (bd 106) rfl (e3 rfl rfl rfl) (fun p q=>bn_c n (q0.hL hL q) (Ai (Ah u0 (Tt s0 j0)) q) q1 (Ai (Ah W0 j0) q) (Ai (Ah X0 j0) q) s1 (Ai M0 q) (Ai P0 q) Z0) rfl fun I1 j1 C0 ⟨A1,hu_,Q0⟩=>?_
 subst hu_
 obtain ⟨z0,A0⟩:=q0.agr C0
 refine Ag rfl<|Aa<|Ay<|Ao<|Ac rfl<|Ab (Bf (i:=b0) (j:=1) rfl rfl (by omega))<|Ag rfl<|Aa<|y0 (p1,b0 + 1,j1) z0 (Tt B0 (Tt s0 (Tt j0 A0))) Q0 h
 refine Ba rfl ?_
 have h:=H0 _ h
 try dsimp only at h
 refine Ae<|Ac rfl<|bk h fun P1 b1 h=>jE (bd 108) rfl (e1 rfl) (fun p q=>bp_c n (g0.hL hL q) (Ai u0 q) b1) rfl fun J1 F1 D0 ⟨g1,hu_,R0⟩=>?_
 subst hu_
 obtain ⟨p0,y1⟩:=g0.agr D0
 refine Ab (Af rfl rfl)<|Ab (Af rfl rfl)<|Ag rfl<|Ag rfl<|Aa<|Ar rfl<|Ap hb0 func62 rfl (.cons (.tmp rfl) (.cons (.tmp rfl) .nil)) rfl ?_
 cases h
 exact ⟨p0.ag,fun p q=>⟨g1,rfl,p0.kd R0 q⟩⟩
 refine Ae<|Ag rfl<|Ag rfl<|Aa<|Ar rfl ?_
 have U0:=By (α:=Ta) hS0 L
 refine Ap hb0 func62 rfl (.cons (.tmp rfl) (.cons (.tmp rfl) .nil)) rfl ?_
 cases h
 exact ⟨hS0.ag,fun p q=>⟨vN,rfl,hS0.kd U0 q⟩⟩
structure Ti where
  fL:List Th
  deriving DecidableEq
instance:Rep Ti:=Rep.via (β:=(List Th)) fun x=>x.fL
theorem op_Tk {w:World} {L:List Nat} {cs:List Value} {x:Tk} (h:Rep.R w L cs x):∃ v1:Value,cs = [.bool x.fe,v1,.int .u32 (x.fp.toNat:Int)]/\Rep.R w L [v1] x.fBits:=by
  obtain ⟨c0,r0,rfl,h0,h⟩:=h
  have e0:c0 = [.bool x.fe]:=h0; subst e0
  obtain ⟨c1,r1,rfl,h1,h⟩:=h
  obtain ⟨v1,rfl,kv1⟩:=dn (xs:=x.fBits) h1
  have e2:r1 = [.int .u32 (x.fp.toNat:Int)]:=h; subst e2
  exact ⟨v1,rfl,kv1⟩
theorem op_Th {w:World} {L:List Nat} {cs:List Value} {x:Th} (h:Rep.R w L cs x):∃ v1 v4:Value,cs = [.bool x.fN.fe,v1,.int .u32 (x.fN.fp.toNat:Int),.bool x.fD.fe,v4,.int .u32 (x.fD.fp.toNat:Int)]/\Rep.R w L [v1] x.fN.fBits/\Rep.R w L [v4] x.fD.fBits:=by
  obtain ⟨c0,r0,rfl,h0,h⟩:=h
  obtain ⟨v1,rfl,kv1⟩:=op_Tk (x:=x.fN) h0
  obtain ⟨v4,rfl,kv4⟩:=op_Tk (x:=x.fD) h
  exact ⟨v1,v4,rfl,kv1,kv4⟩
def ak_l1 (n:Nat) (a0:Ti) (d0:Nat × (List Tb) -> Option (List Tb)):Nat × (List Tb) -> Option (List Tb)
  | (b0,c0)=>(if b0 < a0.fL.length then (if b0 < 8 then (a0.fL[b0]?).bind fun g0=>(aF_p n g0).bind fun k0=>(app c0 ([k0]:List Tb)).bind fun j0=>d0 (b0 + 1,j0) else some c0) else some c0)
def ak_p (n:Nat) (a0:Ti):Option (List Ta):=
  jn (fun b0=>jn (fun g0=>(aW_p n g0).bind fun k0=>some k0.1) (fun c0=>(if b0.length = 0 then (cy_p n (0:Int) (1:Int)).bind fun p0=>(app b0 ([p0.1]:List Tb)).bind fun j0=>c0 j0 else c0 b0))) (fun d0=>Option.bind (ao (ak_l1 n a0) n (0,([]:List Tb))) (d0))
theorem ak_c (n:Nat) {L w} (hL:hl L w) (a0:Ti) {v0_0:Value} (h0_0:Rep.R w L [v0_0] a0.fL)  {r:List Ta} (h:ak_p n a0 = some r) :
 Cl 33 #[.agg #[v0_0]] w (ak w fun w' u=>∃ v0_0:Value,u = v0_0/\Rep.R w' L [v0_0] r):=by
 unfold ak_p at h
 refine AI func33 rfl rfl rfl fun _ cs0 hb0=>Ae<|RG.bx (AH w) rfl rfl fun d3 z0 K0 M2=>Ag rfl<|Aa<|Ae<|Ag rfl<|Aa<|Ak<|Ae<|Ag rfl<|Aa<|Ax ?_
 have A0:=K0.nilRow 34 (Rep.size Tb)
 have P2:=St.nilRowT K0 34 (Rep.size Tb)
 have J1:=AK (cs:=[]) (xs:=([]:List Tb)) A0 L (AO _ _)
 refine MX.xf (α:=(List Tb) × Value × (List Value)) 0 (fun ⟨d0,u0,t0⟩=>[(3,u0)]) (fun ⟨d0,u0,t0⟩=>[rr w 34 Tb u0 d0.length t0]) (fun ⟨d0,u0,t0⟩ b1=>Cells b1 (bl [rr w 34 Tb u0 d0.length t0] ++ L) t0 d0) (fun ⟨d0,u0,t0⟩=>d0) A0 rfl h ?_ ?_
 rintro ⟨d0,u0,t0⟩ b1 y0 Q2 X0 h
 try dsimp only at h
 refine Ak<|Ae<|Ac rfl ?_
 have W2:d0.length <= 4294967296:=St.rowLe (α:=Tb) y0 .hd
 obtain ⟨A2,I2,Q1⟩:=St.rowV (α:=Tb) y0 .hd
 refine Ab (FV.lenV underlying51 rfl Q1)<|Ab (FV.eqlN (i:=d0.length) (j:=0) rfl rfl)<|Aa<|MX.jf (α:=(List Tb) × Value × (List Value)) (fun ⟨s0,v0,x0⟩=>[(3,v0)]) (fun ⟨s0,v0,x0⟩=>[rr w 34 Tb v0 s0.length x0]) (fun ⟨s0,v0,x0⟩ c1=>Cells c1 (bl [rr w 34 Tb v0 s0.length x0] ++ L) x0 s0) (fun ⟨s0,v0,x0⟩=>s0) y0 h ?_ ?_
 rintro ⟨s0,v0,x0⟩ c1 B0 R2 K1 h
 try dsimp only at h
 refine Ae<|Ac rfl ?_
 have C0:=BC B0 .hd
 have U2:=BD B0 .hd
 refine bk h fun u3 k2 h=>jE (bd 62) rfl (e1 rfl) (fun p q=>aW_c n (C0.hL hL q) (Ai (BE (α:=Tb) (v:=v0) (xs:=s0) C0 L (Bm (α:=Tb) B0 .hd K1 hL)) q) k2) rfl fun g3 c3 I1 ⟨s2,hu_,X1⟩=>?_
 subst hu_
 obtain ⟨M0,V2⟩:=C0.agr I1
 refine Ac rfl<|Ab (Af rfl rfl)<|Ab (Af rfl rfl)<|Ag rfl<|Ag rfl<|Aa<|Ae<|Ac rfl<|Ag rfl<|Aa<|Ar rfl<|Be hb0 func33 rfl rfl ?_
 cases h
 exact ⟨M0.ag,fun p q=>⟨s2,rfl,M0.kd X1 q⟩⟩
 intro D2 J0 h
 try dsimp only at h
 refine AV rfl h (fun j1 h=>?_) (fun j1 h=>?_)
 refine Ae<|bk h fun b0 p2 h=>Bb (.tuple #[.agg ((aa b0.1)).toArray,vI b0.2]) (bd 34) rfl (e2 rfl rfl) (fun p q=>cy_c n (y0.hL0 hL q)  p2) rfl<|Ac rfl<|Ab (Af rfl rfl)<|Ab (Af rfl rfl)<|RG.nl zL y0 fun j3 F2 v1 D1=>AJ (aa b0.1) v1 .hd (ai rfl) fun k3 P0 E1=>Ag rfl<|Aa<|Ao<|Ac rfl<|Ab (Aw rfl (P0.memA .hd))<|Al .plain rfl (AS (α:=Tb) (xs:=([b0.1]:List Tb)) (vs:=[.agg ((aa b0.1)).toArray]) (ds' :=(aa b0.1)) rfl P0 gd rfl (e1 rfl) (by kernel_rfl) rfl) fun p3 G2 D0 F1=>bk h fun y2 g2 h=>?_
 have Z0:=Tt D1 (Tt E1 F1)
 refine BB .plain rfl (Bl (α:=Tb) (ys:=([b0.1]:List Tb)) g2 D0 (fun _ _=>.t2) gd rfl rfl (AT X0 Z0) (BJ (α:=Tb) D0 .hd (AK (cs:=(aa b0.1)) (xs:=(([b0.1]:List Tb):List Tb)) D0 L (AD (cs:=(aa b0.1)) (ds:=[]) (bR b0.1.fN b0.1.fD) (AO _ _))))) fun u2 q3 ⟨q1,x1,G1,M1⟩=>Ag rfl<|Aa ?_
 obtain ⟨y1,Q0⟩:=Az x1 .d2
 exact J0 (y2,u2,q1) y1 (Tt Z0 (Tt G1 Q0)) (AT M1 Q0) h
 refine Av<|J0 (d0,u0,t0) y0 (BI _ _) X0 h
 intro C2 I0 h
 try dsimp only at h
 obtain ⟨Y2,W1,Y0⟩:=am h
 refine MX.lf (α:=Nat × (List Tb) × Value × (List Value)) (fun ⟨c0,g0,q0,k0⟩=>[(1,vP z0),(3,q0),(4,vI ((c0:Nat):Int))]) (fun ⟨c0,g0,q0,k0⟩=>[rr w 34 Tb q0 g0.length k0,.cells z0 [v0_0] 66]) (fun ⟨c0,g0,q0,k0⟩ g1=>Cells g1 (bl [rr w 34 Tb q0 g0.length k0,.cells z0 [v0_0] 66] ++ L) k0 g0) (fun ⟨c0,g0,q0,k0⟩=>(c0,g0)) (0,([]:List Tb),vN,[]) W1 A0 J1 ?_
 rintro E2 ⟨c0,g0,q0,k0⟩ g1 u1 p0 F0 G0 h
 unfold ak_l1 at h
 try dsimp only at h
 refine Ak<|Ae<|Ac rfl<|Bo 0 rfl<|Bv rfl ((p0.memA .t1) 0 _ rfl) ?_
 have H0:=AF h0_0 p0
 have X2:a0.fL.length <= 281474976710656:=AX H0
 refine Ab (AZ (xs:=a0.fL) underlying64 rfl H0)<|Ab (AY (i:=c0) (j:=a0.fL.length) rfl rfl)<|Ac rfl<|RG.ifd (s:=14) rfl h (fun k1 h=>?_) (fun k1 h=>?_)
 refine AQ (Aq rfl)<|AQ (AY (i:=c0) (j:=8) rfl rfl)<|Bz rfl rfl<|Aa<|AV rfl h (fun p1 h=>?_) (fun p1 h=>?_)
 refine Av<|Ak<|Ax<|Ao<|Ac rfl<|Bo 0 rfl<|Bv rfl ((p0.memA .t1) 0 _ rfl)<|Ac rfl<|bk h fun x2 c2 h=>?_
 obtain ⟨B2,J2,R1,U1,K2,Y1,V1⟩:=Bh H0 c2
 obtain ⟨Z2,b3,rfl,Z1,b2⟩:=op_Th Y1
 refine Ab (Bs 6 c0 rfl R1 rfl rfl U1)<|Ab (Aw rfl V1)<|bk h fun j0 q2 h=>Bb (.agg ((aa j0)).toArray) (bd 42) rfl (e1 rfl) (fun p q=>aF_c n (p0.hL0 hL q) x2 (p0.kd Z1 q) (p0.kd b2 q) q2) rfl<|Al .plain rfl (AS (α:=Tb) (xs:=([j0]:List Tb)) (vs:=[.agg ((aa j0)).toArray]) (ds' :=(aa j0)) rfl p0 gd rfl (e1 rfl) (by kernel_rfl) rfl) fun s3 H2 E0 R0=>bk h fun z2 j2 h=>BB .plain rfl (Bl (α:=Tb) (ys:=([j0]:List Tb)) j2 E0 (fun _ _=>.t1) gd rfl rfl (AT G0 R0) (BJ (α:=Tb) E0 .hd (AK (cs:=(aa j0)) (xs:=(([j0]:List Tb):List Tb)) E0 L (AD (cs:=(aa j0)) (ds:=[]) (bR j0.fN j0.fD) (AO _ _))))) fun v2 t3 ⟨s1,z1,H1,P1⟩=>Ag rfl<|Aa<|Ay<|Ao<|Ac rfl<|Ab (Bf (i:=c0) (j:=1) rfl rfl (by omega))<|Ag rfl<|Aa ?_
 obtain ⟨A1,U0⟩:=Az z1 .d1
 exact u1 (c0 + 1,z2,v2,s1) A1 (Tt F0 (Tt R0 (Tt H1 U0))) (AT P1 U0) h
 refine Ba rfl ?_
 have h:=Y0 _ h
 try dsimp only at h
 obtain ⟨B1,V0⟩:=Az p0 (.a0 .done)
 exact I0 (g0,q0,k0) B1 (Tt F0 V0) (AT G0 V0) h
 refine Aj<|Aj<|Bd rfl rfl<|Aa<|BG rfl<|Ba rfl ?_
 have h:=Y0 _ h
 try dsimp only at h
 obtain ⟨C1,W0⟩:=Az p0 (.a0 .done)
 exact I0 (g0,q0,k0) C1 (Tt F0 W0) (AT G0 W0) h
def cn_p (n:Nat) (a0:Tc) (a1:Int):Option (Tb × Int):=
  (if a1 = 0 then (ac_p n a0).bind fun b0=>some (b0.1,b0.2) else some ((⟨(0,0,0,0,0,0,0,0),(0,0,0,0,0,0,0,0)⟩:Tb),a1))
theorem cn_c (n:Nat) {L w} (hL:hl L w) (a0:Tc) {v0_1:Value} (h0_1:Rep.R w L [v0_1] a0.fj.fk) {v0_3:Value} (h0_3:Rep.R w L [v0_3] a0.fh.fk) {a1:Int}  {r:Tb × Int} (h:cn_p n a0 a1 = some r) :
 Cl 122 #[.agg #[.bool a0.fj.fe,v0_1,.bool a0.fh.fe,v0_3],vI a1] w (ak w fun _ u=>u = .tuple #[.agg ((aa r.1)).toArray,vI r.2]):=by
 unfold cn_p at h
 refine AI func122 rfl rfl rfl fun _ cs0 hb0=>Ae<|RG.bx (AH w) rfl rfl fun z0 s0 p0 u0=>RG.nl zL p0 fun A0 t0 b0 v0=>Ag rfl<|Aa<|Ak<|Ae<|Ac rfl<|Ab (Bw (i:=a1) (j:=0) rfl rfl)<|Aa<|BN rfl h (fun j0 h=>?_) (fun j0 h=>?_)
 refine Av<|Ae<|Ab (Aw rfl (b0.memA .t1))<|bk h fun c0 q0 h=>Bb (.tuple #[.agg ((aa c0.1)).toArray,vI c0.2]) (bd 77) rfl (e1 rfl) (fun p q=>ac_c n (b0.hL0 hL q) a0 (b0.k0 h0_1 q) (b0.k0 h0_3 q) q0) rfl<|Ab (Af rfl rfl)<|Ab (Af rfl rfl)<|AJ (aa c0.1) b0 .hd (ai rfl) fun B0 d0 x0=>Ag rfl<|Aa<|Ar rfl<|Ap hb0 func122 rfl (.cons (.many (cs:=(aa c0.1)) rfl rfl (d0.memA .hd)) (.cons (.tmp rfl) .nil)) rfl ?_
 cases h
 exact d0.gv
 refine Ae<|Ab (AR (vs:=[]) (u:=.agg zM) ar (fun p=>by kernel_rfl))<|Ac rfl<|AJ zL b0 .hd (ai rfl) fun C0 g0 y0=>Ag rfl<|Aa<|Ar rfl<|Ap hb0 func122 rfl (.cons (.many (cs:=zL) rfl rfl (g0.memA .hd)) (.cons (.tmp rfl) .nil)) rfl ?_
 cases h
 exact g0.gv
def cH_p (n:Nat) (a0:Tb):Option Bool:=
  (bV_p n a0).bind fun b0=>some (decide (b0 = 0))
theorem cH_c (n:Nat) {L w} (hL:hl L w) (a0:Tb)  {r:Bool} (h:cH_p n a0 = some r) :
 Cl 160 #[.agg ((aa a0)).toArray] w (ak w fun _ u=>u = .bool r):=by
 unfold cH_p at h
 refine AI func160 rfl rfl rfl fun _ cs0 hb0=>Ae<|RG.bx (AH w) rfl rfl fun k0 g0 b0 j0=>Ag rfl<|Aa<|Ae<|Ab (Aw rfl (b0.memA .hd))<|bk h fun c0 d0 h=>Bb (vI c0) (bd 65) rfl (e1 rfl) (fun p q=>bV_c n (b0.hL0 hL q) a0 d0) rfl<|Ab (FV.eql (i:=c0) (j:=0) rfl rfl)<|Ag rfl<|Aa<|Ar rfl<|Be hb0 func160 rfl rfl ?_
 cases h
 exact b0.gv
def bN_l1 (n:Nat) (a0:List Tb) (c0:Nat -> Option (Bool ⊕ Unit)):Nat -> Option (Bool ⊕ Unit)
  | b0=>(if b0 < a0.length then (a0[b0]?).bind fun d0=>(cH_p n d0).bind fun g0=>(if g0 = true then c0 (b0 + 1) else some (.inl false)) else some (.inr ()))
def bN_p (n:Nat) (a0:List Tb):Option Bool:=
  thn (ao (bN_l1 n a0) n 0) (fun _=>some true)
theorem bN_c (n:Nat) {L w} (hL:hl L w) {a0:List Tb} {v0_0:Value} (h0_0:Rep.R w L [v0_0] a0)  {r:Bool} (h:bN_p n a0 = some r) :
 Cl 126 #[v0_0] w (ak w fun _ u=>u = .bool r):=by
 unfold bN_p at h
 refine AI func126 rfl rfl rfl fun _ cs0 hb0=>Ae<|Ag rfl<|Aa<|Ae<|Ag rfl<|Aa<|Ae<|Ac rfl<|Ac rfl<|Bx (fst:=[]) (cap:=[]) (vs:=[.func (.func 160) #[] #[],v0_0]) .plain (bd 161) func161 rfl rfl rfl rfl (e2 rfl rfl) rfl fun cs2 hb1 hp3=>Ae<|Ag rfl<|Aa<|Ak<|Ae<|Ac rfl ?_
 have hl4:a0.length <= 281474976710656:=AX h0_0
 refine Ab (AZ (xs:=a0) underlying51 rfl h0_0)<|Ac rfl<|Aa<|Ax<|tn h fun P0 C0 g0=>MX.lo (α:=Nat) (fun b0=>[(0,.func (.func 160) #[] #[]),(7,v0_0),(8,vI ((a0.length:Nat):Int)),(9,vI ((b0:Nat):Int))]) (fun b0=>[]) (fun b0=>b0) 0 C0 (AH w) ?_
 rintro I0 b0 U0 q0 d0 u0 h
 unfold bN_l1 at h
 try dsimp only at h
 refine Ae<|Ab (AY (i:=b0) (j:=a0.length) rfl rfl)<|Aa<|Ak<|AV rfl h (fun k0 h=>?_) (fun k0 h=>?_)
 refine Av<|Ak<|Ax<|Ae<|bk h fun j0 E0 h=>?_
 obtain ⟨H0,K0,z0,A0,M0,D0,B0⟩:=Bh (AF h0_0 d0) E0
 obtain rfl:=cY D0
 refine Ab (Bs 16 b0 rfl z0 rfl rfl A0)<|Ab (Aw rfl B0)<|RG.nl zL d0 fun Q0 J0 s0 v0=>AJ (aa j0) s0 .hd (ai rfl) fun R0 c0 x0=>Aa<|Ae<|Ac rfl<|Ab (Aw rfl (c0.memA .hd))<|bk h fun G0 F0 h=>Bb (.bool G0) (bd 160) rfl (e1 rfl) (fun p q=>cH_c n (c0.hL0 hL q) j0 F0) rfl<|Ab (FV.not rfl)<|Aa<|MX.ifnb rfl h (fun p0 h=>?_) (fun p0 h=>?_)
 refine Av<|Ay<|Ao<|Ab (Bf (i:=b0) (j:=1) rfl rfl (by omega))<|Ac rfl<|Aa ?_
 obtain ⟨t0,y0⟩:=Az c0 .done
 exact q0 (b0 + 1) t0 (Tt u0 (Tt v0 (Tt x0 y0))) h
 refine Ae<|Ag rfl<|Aa ?_
 have h:=bE h g0
 refine Ar rfl<|Ap (u:=.bool false) hb1 func161 rfl (.cons (.tmp rfl) .nil) rfl<|Ag rfl<|Aa<|Ar rfl<|Be hb0 func126 rfl rfl ?_
 cases h
 exact c0.gv
 refine Ba rfl ?_
 have h:=br h g0
 try dsimp only at h
 refine Ae<|Ag rfl<|Aa<|Ar rfl<|Ap (u:=.bool true) hb1 func161 rfl (.cons (.tmp rfl) .nil) rfl<|Ag rfl<|Aa<|Ar rfl<|Be hb0 func126 rfl rfl ?_
 cases h
 exact d0.gv
def cE_p (n:Nat) (a0:Tb) (a1:Tb):Option (Tb × Int):=
  (bN_p n ([a0,a1]:List Tb)).bind fun d0=>(if d0 = true then (ah_p n a0).bind fun g0=>(ah_p n a1).bind fun j0=>(ao_p n g0 j0).bind fun k0=>(cn_p n k0 (0:Int)).bind fun c0=>some (c0.1,c0.2) else (cn_p n (⟨(⟨false,([]:List UInt64)⟩:Te),(⟨false,([]:List UInt64)⟩:Te)⟩:Tc) (20:Int)).bind fun b0=>some (b0.1,b0.2))
theorem cE_c (n:Nat) {L w} (hL:hl L w) (a0:Tb) (a1:Tb)  {r:Tb × Int} (h:cE_p n a0 a1 = some r) :
 Cl 51 #[.agg ((aa a0)).toArray,.agg ((aa a1)).toArray] w (ak w fun _ u=>u = .tuple #[.agg ((aa r.1)).toArray,vI r.2]):=by
 unfold cE_p at h
 refine AI func51 rfl rfl rfl fun _ cs0 hb0=>Ae<|RG.bx (AH w) rfl rfl fun j2 s1 I0 F1=>RG.bx I0 rfl rfl fun k2 u1 J0 G1=>RG.nl zL J0 fun p2 v1 q0 H1=>Ag rfl<|Aa<|Ae<|Ab (Aw rfl (q0.memA .t2))<|Ab (Aw rfl (q0.memA .t1))<|Bx (fst:=[]) (cap:=[]) (vs:=[.agg ((aa a0)).toArray,.agg ((aa a1)).toArray,.func (.func 80) #[] #[]]) .plain (bd 123) func123 rfl rfl rfl rfl (e3 rfl rfl rfl) rfl fun C1 E0 V1=>Ae<|RG.bx q0 rfl rfl fun q2 x1 K0 I1=>RG.bx K0 rfl rfl fun s2 y1 M0 J1=>RG.nl [.bool false,vN,.bool false,vN] M0 fun u2 z1 s0 K1=>Ag rfl<|Aa<|Ak<|Ae<|Ab (Aw rfl (s0.memA .t2))<|Ab (Aw rfl (s0.memA .t1))<|Al .plain rfl (AS (α:=Tb) (xs:=([a0,a1]:List Tb)) (vs:=[.agg ((aa a0)).toArray,.agg ((aa a1)).toArray]) (ds' :=(aa a0 ++ aa a1)) rfl s0 gd rfl (e2 rfl rfl) (by kernel_rfl) rfl) fun v2 A1 c0 M1=>?_
 refine bk h fun k1 b1 h=>Bb (.bool k1) (bd 126) rfl (e1 rfl) (fun p q=>bN_c n (c0.hL0 hL q) (Ai (St.lend (α:=Tb) (L:=L) c0 .hd (AK (cs:=(aa a0 ++ aa a1)) (xs:=(([a0,a1]:List Tb):List Tb)) c0 L (AD (cs:=(aa a0)) (ds:=(aa a1)) (bR a0.fN a0.fD) (AD (cs:=(aa a1)) (ds:=[]) (bR a1.fN a1.fD) (AO _ _)))) hL) q) b1) rfl<|Ab (FV.not rfl)<|Aa<|MX.ifnb rfl h (fun H0 h=>?_) (fun H0 h=>?_)
 refine Av<|Ak<|du 6 fun b0 t0=>Rv 0 b0 rfl t0 (fun _=>Aq rfl)<|Rx 1 244 b0 rfl t0 (Aw rfl (c0.memA .t3))<|Rx 3 240 b0 rfl t0 (Aw rfl (c0.memA .t2))<|bk h fun p1 c1 h=>AW 2 15 b0 rfl .plain (bd 68) rfl (e1 rfl) (fun p q=>ah_c n (c0.hL hL q) a0 c1) rfl fun x2 b2 Q0 ⟨W1,X1,hu_,V0,W0⟩=>?_
 subst hu_
 obtain ⟨y0,P1⟩:=c0.agr Q0
 refine bk h fun q1 d1 h=>AW 4 31 b0 rfl .plain (bd 68) rfl (e1 rfl) (fun p q=>ah_c n (y0.hL hL q) a1 d1) rfl fun y2 c2 R0 ⟨Y1,Z1,hu_,X0,Y0⟩=>?_
 subst hu_
 obtain ⟨z0,C0⟩:=y0.agr R0
 refine bk h fun d0 g1 h=>AW 5 63 b0 rfl .plain (bd 80) rfl (e2 rfl rfl) (fun p q=>ao_c n (z0.hL hL q) p1 (Ai (Ah V0 C0) q) (Ai (Ah W0 C0) q) q1 (Ai X0 q) (Ai Y0 q) g1) rfl fun z2 d2 U0 ⟨u0,v0,hu_,F0,G0⟩=>?_
 subst hu_
 obtain ⟨P0,Q1⟩:=z0.agr U0
 refine Bq 6 127 b0 rfl rfl .plain (AC (news:=[.bool d0.fj.fe,u0,.bool d0.fh.fe,v0]) P0 .t1 rfl rfl rfl rfl rfl rfl (o4 rfl (AA F0) rfl (AA G0))) fun A2 g0 D0=>BH (i:=7) (rk b0) (BM (m' :=255) (sk b0) rfl .plain rfl (Bc rfl) ?_)
 refine AG (dk b0)<|Ar rfl<|Ap (u:=.tuple #[.agg #[.bool d0.fj.fe,u0,.bool d0.fh.fe,v0],vI 0]) E0 func123 rfl (.cons (.many (cs:=[.bool d0.fj.fe,u0,.bool d0.fh.fe,v0]) rfl rfl (g0.memA .t1)) (.cons (.tmp rfl) .nil)) rfl<|Ab (Af rfl rfl)<|Ab (Af rfl rfl)<|bk h fun k0 j1 h=>Bb (.tuple #[.agg ((aa k0.1)).toArray,vI k0.2]) (bd 122) rfl (e2 rfl rfl) (fun p q=>cn_c n (g0.hL0 hL q) d0 (g0.kd (Ah F0 D0) q) (g0.kd (Ah G0 D0) q) j1) rfl<|Ab (Af rfl rfl)<|Ab (Af rfl rfl)<|AJ (aa k0.1) g0 .t4 (ai rfl) fun B2 A0 R1=>Ag rfl<|Aa<|Ar rfl<|Ap hb0 func51 rfl (.cons (.many (cs:=(aa k0.1)) rfl rfl (A0.memA .t4)) (.cons (.tmp rfl) .nil)) rfl ?_
 cases h
 exact A0.gv
 refine Ae<|RG.nl [.bool false,vN,.bool false,vN] c0 fun C2 B1 B0 U1=>Aa<|Ae<|Ab (Aw rfl (B0.memA .hd))<|AJ [.bool false,vN,.bool false,vN] B0 .t2 (ai rfl) fun D2 p0 D1=>Ag rfl<|Aa<|Ar rfl<|Ap (u:=.tuple #[.agg #[.bool false,vN,.bool false,vN],vI 20]) E0 func123 rfl (.cons (.many (cs:=[.bool false,vN,.bool false,vN]) rfl rfl (p0.memA .t2)) (.cons (.tmp rfl) .nil)) rfl<|Ab (Af rfl rfl)<|Ab (Af rfl rfl)<|bk h fun j0 Z0 h=>Bb (.tuple #[.agg ((aa j0.1)).toArray,vI j0.2]) (bd 122) rfl (e2 rfl rfl) (fun p q=>cn_c n (p0.hL0 hL q) (⟨(⟨false,([]:List UInt64)⟩:Te),(⟨false,([]:List UInt64)⟩:Te)⟩:Tc) (Ai (Rep.nilSlice _ _) q) (Ai (Rep.nilSlice _ _) q) Z0) rfl<|Ab (Af rfl rfl)<|Ab (Af rfl rfl)<|AJ (aa j0.1) p0 .t5 (ai rfl) fun g2 x0 E1=>Ag rfl<|Aa<|Ar rfl<|Ap hb0 func51 rfl (.cons (.many (cs:=(aa j0.1)) rfl rfl (x0.memA .t5)) (.cons (.tmp rfl) .nil)) rfl ?_
 cases h
 exact x0.gv
def cA_p (n:Nat) (a0:Tb) (a1:Tb):Option (Tb × Int):=
  (bN_p n ([a0,a1]:List Tb)).bind fun d0=>(if d0 = true then (ah_p n a0).bind fun g0=>(ah_p n a1).bind fun j0=>(aa_p n g0 j0).bind fun k0=>(cn_p n k0 (0:Int)).bind fun c0=>some (c0.1,c0.2) else (cn_p n (⟨(⟨false,([]:List UInt64)⟩:Te),(⟨false,([]:List UInt64)⟩:Te)⟩:Tc) (20:Int)).bind fun b0=>some (b0.1,b0.2))
theorem cA_c (n:Nat) {L w} (hL:hl L w) (a0:Tb) (a1:Tb)  {r:Tb × Int} (h:cA_p n a0 a1 = some r) :
 Cl 52 #[.agg ((aa a0)).toArray,.agg ((aa a1)).toArray] w (ak w fun _ u=>u = .tuple #[.agg ((aa r.1)).toArray,vI r.2]):=by
 unfold cA_p at h
 refine AI func52 rfl rfl rfl fun _ cs0 hb0=>Ae<|RG.bx (AH w) rfl rfl fun j2 s1 I0 F1=>RG.bx I0 rfl rfl fun k2 u1 J0 G1=>RG.nl zL J0 fun p2 v1 q0 H1=>Ag rfl<|Aa<|Ae<|Ab (Aw rfl (q0.memA .t2))<|Ab (Aw rfl (q0.memA .t1))<|Bx (fst:=[]) (cap:=[]) (vs:=[.agg ((aa a0)).toArray,.agg ((aa a1)).toArray,.func (.func 81) #[] #[]]) .plain (bd 123) func123 rfl rfl rfl rfl (e3 rfl rfl rfl) rfl fun C1 E0 V1=>Ae<|RG.bx q0 rfl rfl fun q2 x1 K0 I1=>RG.bx K0 rfl rfl fun s2 y1 M0 J1=>RG.nl [.bool false,vN,.bool false,vN] M0 fun u2 z1 s0 K1=>Ag rfl<|Aa<|Ak<|Ae<|Ab (Aw rfl (s0.memA .t2))<|Ab (Aw rfl (s0.memA .t1))<|Al .plain rfl (AS (α:=Tb) (xs:=([a0,a1]:List Tb)) (vs:=[.agg ((aa a0)).toArray,.agg ((aa a1)).toArray]) (ds' :=(aa a0 ++ aa a1)) rfl s0 gd rfl (e2 rfl rfl) (by kernel_rfl) rfl) fun v2 A1 c0 M1=>?_
 refine bk h fun k1 b1 h=>Bb (.bool k1) (bd 126) rfl (e1 rfl) (fun p q=>bN_c n (c0.hL0 hL q) (Ai (St.lend (α:=Tb) (L:=L) c0 .hd (AK (cs:=(aa a0 ++ aa a1)) (xs:=(([a0,a1]:List Tb):List Tb)) c0 L (AD (cs:=(aa a0)) (ds:=(aa a1)) (bR a0.fN a0.fD) (AD (cs:=(aa a1)) (ds:=[]) (bR a1.fN a1.fD) (AO _ _)))) hL) q) b1) rfl<|Ab (FV.not rfl)<|Aa<|MX.ifnb rfl h (fun H0 h=>?_) (fun H0 h=>?_)
 refine Av<|Ak<|du 6 fun b0 t0=>Rv 0 b0 rfl t0 (fun _=>Aq rfl)<|Rx 1 244 b0 rfl t0 (Aw rfl (c0.memA .t3))<|Rx 3 240 b0 rfl t0 (Aw rfl (c0.memA .t2))<|bk h fun p1 c1 h=>AW 2 15 b0 rfl .plain (bd 68) rfl (e1 rfl) (fun p q=>ah_c n (c0.hL hL q) a0 c1) rfl fun x2 b2 Q0 ⟨W1,X1,hu_,V0,W0⟩=>?_
 subst hu_
 obtain ⟨y0,P1⟩:=c0.agr Q0
 refine bk h fun q1 d1 h=>AW 4 31 b0 rfl .plain (bd 68) rfl (e1 rfl) (fun p q=>ah_c n (y0.hL hL q) a1 d1) rfl fun y2 c2 R0 ⟨Y1,Z1,hu_,X0,Y0⟩=>?_
 subst hu_
 obtain ⟨z0,C0⟩:=y0.agr R0
 refine bk h fun d0 g1 h=>AW 5 63 b0 rfl .plain (bd 81) rfl (e2 rfl rfl) (fun p q=>aa_c n (z0.hL hL q) p1 (Ai (Ah V0 C0) q) (Ai (Ah W0 C0) q) q1 (Ai X0 q) (Ai Y0 q) g1) rfl fun z2 d2 U0 ⟨u0,v0,hu_,F0,G0⟩=>?_
 subst hu_
 obtain ⟨P0,Q1⟩:=z0.agr U0
 refine Bq 6 127 b0 rfl rfl .plain (AC (news:=[.bool d0.fj.fe,u0,.bool d0.fh.fe,v0]) P0 .t1 rfl rfl rfl rfl rfl rfl (o4 rfl (AA F0) rfl (AA G0))) fun A2 g0 D0=>BH (i:=7) (rk b0) (BM (m' :=255) (sk b0) rfl .plain rfl (Bc rfl) ?_)
 refine AG (dk b0)<|Ar rfl<|Ap (u:=.tuple #[.agg #[.bool d0.fj.fe,u0,.bool d0.fh.fe,v0],vI 0]) E0 func123 rfl (.cons (.many (cs:=[.bool d0.fj.fe,u0,.bool d0.fh.fe,v0]) rfl rfl (g0.memA .t1)) (.cons (.tmp rfl) .nil)) rfl<|Ab (Af rfl rfl)<|Ab (Af rfl rfl)<|bk h fun k0 j1 h=>Bb (.tuple #[.agg ((aa k0.1)).toArray,vI k0.2]) (bd 122) rfl (e2 rfl rfl) (fun p q=>cn_c n (g0.hL0 hL q) d0 (g0.kd (Ah F0 D0) q) (g0.kd (Ah G0 D0) q) j1) rfl<|Ab (Af rfl rfl)<|Ab (Af rfl rfl)<|AJ (aa k0.1) g0 .t4 (ai rfl) fun B2 A0 R1=>Ag rfl<|Aa<|Ar rfl<|Ap hb0 func52 rfl (.cons (.many (cs:=(aa k0.1)) rfl rfl (A0.memA .t4)) (.cons (.tmp rfl) .nil)) rfl ?_
 cases h
 exact A0.gv
 refine Ae<|RG.nl [.bool false,vN,.bool false,vN] c0 fun C2 B1 B0 U1=>Aa<|Ae<|Ab (Aw rfl (B0.memA .hd))<|AJ [.bool false,vN,.bool false,vN] B0 .t2 (ai rfl) fun D2 p0 D1=>Ag rfl<|Aa<|Ar rfl<|Ap (u:=.tuple #[.agg #[.bool false,vN,.bool false,vN],vI 20]) E0 func123 rfl (.cons (.many (cs:=[.bool false,vN,.bool false,vN]) rfl rfl (p0.memA .t2)) (.cons (.tmp rfl) .nil)) rfl<|Ab (Af rfl rfl)<|Ab (Af rfl rfl)<|bk h fun j0 Z0 h=>Bb (.tuple #[.agg ((aa j0.1)).toArray,vI j0.2]) (bd 122) rfl (e2 rfl rfl) (fun p q=>cn_c n (p0.hL0 hL q) (⟨(⟨false,([]:List UInt64)⟩:Te),(⟨false,([]:List UInt64)⟩:Te)⟩:Tc) (Ai (Rep.nilSlice _ _) q) (Ai (Rep.nilSlice _ _) q) Z0) rfl<|Ab (Af rfl rfl)<|Ab (Af rfl rfl)<|AJ (aa j0.1) p0 .t5 (ai rfl) fun g2 x0 E1=>Ag rfl<|Aa<|Ar rfl<|Ap hb0 func52 rfl (.cons (.many (cs:=(aa j0.1)) rfl rfl (x0.memA .t5)) (.cons (.tmp rfl) .nil)) rfl ?_
 cases h
 exact x0.gv
end Go.Proofs.YtkommhmbkbhmlaaGreat
