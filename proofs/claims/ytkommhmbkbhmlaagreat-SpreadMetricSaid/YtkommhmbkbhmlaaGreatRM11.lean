import Derived.Test.YtkommhmbkbhmlaaGreatRM10
namespace Go.Proofs.YtkommhmbkbhmlaaGreat
open Go Go.RowKit Tryz
set_option maxRecDepth 4000
set_option maxHeartbeats 4000000

def bt_p (n:Nat) (a0:Th):Option Ta:=
  (ay_p n a0.fN).bind fun b0=>(ay_p n a0.fD).bind fun c0=>jn (fun A0=>jn (fun j0=>(bY j0 24).bind fun k0=>(chk (2 + k0)).bind fun p0=>(bY A0 p0).bind fun q0=>(aI_p n q0).bind fun x0=>(bY j0 24).bind fun s0=>(chk (1 + s0)).bind fun t0=>(aI_p n t0).bind fun y0=>(bn_p n x0 y0).bind fun z0=>some z0) (fun g0=>(if c0 < 0 then (chk (-c0)).bind fun u0=>g0 u0 else g0 c0))) (fun d0=>(if b0 < 0 then (chk (-b0)).bind fun v0=>d0 v0 else d0 b0))
theorem bt_c (n:Nat) {L w} (hL:hl L w) (a0:Th) {v0_1:Value} (h0_1:Rep.R w L [v0_1] a0.fN.fBits) {v0_4:Value} (h0_4:Rep.R w L [v0_4] a0.fD.fBits)  {r:Ta} (h:bt_p n a0 = some r) :
 Cl 48 #[.agg #[.bool a0.fN.fc,v0_1,.int .u32 (a0.fN.fm.toNat:Int),.bool a0.fD.fc,v0_4,.int .u32 (a0.fD.fm.toNat:Int)]] w (ak w fun _ u=>u = .agg ((aa r)).toArray):=by
 unfold bt_p at h
 refine AI func48 rfl rfl rfl fun _ cs0 hb0=>Ae<|RG.bx (AH w) rfl rfl fun B1 q1 E0 s1=>RG.nl zL E0 fun C1 q0 b0 u1=>Aa<|Ak<|du 8 fun c0 d0=>Rv 0 c0 rfl d0 (fun _=>Bk 0 rfl)<|Rx 1 228 c0 rfl d0 (AN (cs:=[.bool a0.fN.fc,v0_1,.int .u32 (a0.fN.fm.toNat:Int)]) rfl rfl (ae (b0.memA .t1) 0 3))<|bk h fun t0 V0 h=>RD.cq 2 7 224 (vI t0) c0 rfl d0 (bd 111) rfl (e1 rfl) (fun p q=>ay_c n (b0.hL0 hL q) a0.fN (b0.k0 h0_1 q) V0) rfl<|Rv 3 c0 rfl d0 (fun _=>Bk 3 rfl)<|Rx 4 224 c0 rfl d0 (AN (cs:=[.bool a0.fD.fc,v0_4,.int .u32 (a0.fD.fm.toNat:Int)]) rfl rfl (ae (b0.memA .t1) 3 3))<|bk h fun p0 W0 h=>RD.cq 5 63 192 (vI p0) c0 rfl d0 (bd 111) rfl (e1 rfl) (fun p q=>ay_c n (b0.hL0 hL q) a0.fD (b0.k0 h0_4 q) W0) rfl<|Rv 6 c0 rfl d0 (fun _=>Bc rfl)<|Rv 7 c0 rfl d0 (fun _=>Bc rfl)<|AG (dk c0)<|Ak<|Ae<|Ac rfl<|Ab (FV.lss (i:=t0) (j:=0) rfl rfl)<|Aa<|MX.jo (α:=Int) (fun g0=>[(2,vP q0),(3,vI g0),(4,vI p0)]) (fun g0=>[.cells q0 zL 34]) (fun g0=>g0) b0 h ?_ ?_
 rintro g0 E1 u0 v1 h
 try dsimp only at h
 refine Ak<|Ae<|Ac rfl<|Ab (FV.lss (i:=p0) (j:=0) rfl rfl)<|Aa<|MX.jo (α:=Int) (fun j0=>[(2,vP q0),(3,vI g0),(4,vI j0)]) (fun j0=>[.cells q0 zL 34]) (fun j0=>j0) u0 h ?_ ?_
 rintro j0 F1 s0 x1 h
 try dsimp only at h
 refine Ae<|Ac rfl<|Ac rfl<|bk h fun b1 J0 h=>Ab (FV.remc (i:=j0) (j:=24) rfl rfl J0)<|bk h fun c1 K0 h=>Ab (FV.addc (i:=2) (j:=b1) rfl rfl K0)<|bk h fun z1 M0 h=>Ab (FV.remc (i:=g0) (j:=c1) rfl rfl M0)<|bk h fun A0 X0 h=>Bb (.agg ((aj A0)).toArray) (bd 113) rfl (e1 rfl) (fun p q=>aI_c n (s0.hL0 hL q)  X0) rfl<|Ac rfl<|bk h fun d1 P0 h=>Ab (FV.remc (i:=j0) (j:=24) rfl rfl P0)<|bk h fun A1 Q0 h=>Ab (FV.addc (i:=1) (j:=d1) rfl rfl Q0)<|bk h fun B0 Y0 h=>Bb (.agg ((aj B0)).toArray) (bd 113) rfl (e1 rfl) (fun p q=>aI_c n (s0.hL0 hL q)  Y0) rfl<|bk h fun v0 Z0 h=>Bb (.agg ((aa v0)).toArray) (bd 112) rfl (e2 rfl rfl) (fun p q=>bn_c n (s0.hL0 hL q) A0 B0 Z0) rfl<|AJ (aa v0) s0 .hd (ai rfl) fun D1 z0 y1=>Aa<|Ar rfl<|Ap hb0 func48 rfl (.cons (.many (cs:=(aa v0)) rfl rfl (z0.memA .hd)) .nil) rfl ?_
 cases h
 exact z0.gv
 intro p1 y0 h
 try dsimp only at h
 refine AV rfl h (fun C0 h=>?_) (fun C0 h=>?_)
 refine Ao<|Ac rfl<|bk h fun g1 R0 h=>Ab (FV.negc (i:=p0) rfl R0)<|Ag rfl<|Aa<|y0 g1 u0 (BI _ _) h
 refine Av<|y0 p0 u0 (BI _ _) h
 intro k1 x0 h
 try dsimp only at h
 refine AV rfl h (fun D0 h=>?_) (fun D0 h=>?_)
 refine Ao<|Ac rfl<|bk h fun j1 U0 h=>Ab (FV.negc (i:=t0) rfl U0)<|Ag rfl<|Aa ?_
 obtain ⟨F0,H0⟩:=Az b0 (.a0 .done)
 exact x0 j1 F0 H0 h
 refine Av ?_
 obtain ⟨G0,I0⟩:=Az b0 (.a0 .done)
 exact x0 t0 G0 I0 h
def cQ_p (n:Nat) (a0:Ta) (a1:Ta):Option (Ta × Int):=
  (bs_p n ([a0,a1]:List Ta)).bind fun d0=>(if d0 = true then (ai_p n a0).bind fun g0=>(ai_p n a1).bind fun j0=>(bP_p n g0 j0).bind fun k0=>(bM_p n k0 (0:Int)).bind fun c0=>some (c0.1,c0.2) else (bM_p n (⟨(⟨false,([]:List UInt64)⟩:Te),(⟨false,([]:List UInt64)⟩:Te)⟩:Tc) (20:Int)).bind fun b0=>some (b0.1,b0.2))
theorem cQ_c (n:Nat) {L w} (hL:hl L w) (a0:Ta) (a1:Ta)  {r:Ta × Int} (h:cQ_p n a0 a1 = some r) :
 Cl 53 #[.agg ((aa a0)).toArray,.agg ((aa a1)).toArray] w (ak w fun _ u=>u = .tuple #[.agg ((aa r.1)).toArray,vI r.2]):=by
 unfold cQ_p at h
 refine AI func53 rfl rfl rfl fun _ cs0 hb0=>Ae<|RG.bx (AH w) rfl rfl fun j2 s1 I0 F1=>RG.bx I0 rfl rfl fun k2 u1 J0 G1=>RG.nl zL J0 fun p2 v1 q0 H1=>Ag rfl<|Aa<|Ae<|Ab (Aw rfl (q0.memA .t2))<|Ab (Aw rfl (q0.memA .t1))<|Bx (fst:=[]) (cap:=[]) (vs:=[.agg ((aa a0)).toArray,.agg ((aa a1)).toArray,.func (.func 79) #[] #[]]) .plain (bd 123) func123 rfl rfl rfl rfl (e3 rfl rfl rfl) rfl fun C1 E0 V1=>Ae<|RG.bx q0 rfl rfl fun q2 x1 K0 I1=>RG.bx K0 rfl rfl fun s2 y1 M0 J1=>RG.nl [.bool false,vN,.bool false,vN] M0 fun u2 z1 s0 K1=>Ag rfl<|Aa<|Ak<|Ae<|Ab (Aw rfl (s0.memA .t2))<|Ab (Aw rfl (s0.memA .t1))<|Al .plain rfl (AS (α:=Ta) (xs:=([a0,a1]:List Ta)) (vs:=[.agg ((aa a0)).toArray,.agg ((aa a1)).toArray]) (ds' :=(aa a0 ++ aa a1)) rfl s0 eT rfl (e2 rfl rfl) (by kernel_rfl) rfl) fun v2 A1 c0 M1=>?_
 refine bk h fun k1 b1 h=>Bb (.bool k1) (bd 126) rfl (e1 rfl) (fun p q=>bs_c n (c0.hL0 hL q) (Ai (St.lend (α:=Ta) (L:=L) c0 .hd (AK (cs:=(aa a0 ++ aa a1)) (xs:=(([a0,a1]:List Ta):List Ta)) c0 L (AD (cs:=(aa a0)) (ds:=(aa a1)) (bn a0.fN a0.fD) (AD (cs:=(aa a1)) (ds:=[]) (bn a1.fN a1.fD) (AO _ _)))) hL) q) b1) rfl<|Ab (FV.not rfl)<|Aa<|MX.ifnb rfl h (fun H0 h=>?_) (fun H0 h=>?_)
 refine Av<|Ak<|du 6 fun b0 t0=>Rv 0 b0 rfl t0 (fun _=>Aq rfl)<|Rx 1 244 b0 rfl t0 (Aw rfl (c0.memA .t3))<|Rx 3 240 b0 rfl t0 (Aw rfl (c0.memA .t2))<|bk h fun p1 c1 h=>AW 2 15 b0 rfl .plain (bd 68) rfl (e1 rfl) (fun p q=>ai_c n (c0.hL hL q) a0 c1) rfl fun x2 b2 Q0 ⟨W1,X1,hu_,V0,W0⟩=>?_
 subst hu_
 obtain ⟨y0,P1⟩:=c0.agr Q0
 refine bk h fun q1 d1 h=>AW 4 31 b0 rfl .plain (bd 68) rfl (e1 rfl) (fun p q=>ai_c n (y0.hL hL q) a1 d1) rfl fun y2 c2 R0 ⟨Y1,Z1,hu_,X0,Y0⟩=>?_
 subst hu_
 obtain ⟨z0,C0⟩:=y0.agr R0
 refine bk h fun d0 g1 h=>AW 5 63 b0 rfl .plain (bd 79) rfl (e2 rfl rfl) (fun p q=>bP_c n (z0.hL hL q) p1 (Ai (Ah V0 C0) q) (Ai (Ah W0 C0) q) q1 (Ai X0 q) (Ai Y0 q) g1) rfl fun z2 d2 U0 ⟨u0,v0,hu_,F0,G0⟩=>?_
 subst hu_
 obtain ⟨P0,Q1⟩:=z0.agr U0
 refine Bq 6 127 b0 rfl rfl .plain (AC (news:=[.bool d0.fh.fc,u0,.bool d0.fe.fc,v0]) P0 .t1 rfl rfl rfl rfl rfl rfl (o4 rfl (AA F0) rfl (AA G0))) fun A2 g0 D0=>BH (i:=7) (rk b0) (BM (m' :=255) (sk b0) rfl .plain rfl (Bc rfl) ?_)
 refine AG (dk b0)<|Ar rfl<|Ap (u:=.tuple #[.agg #[.bool d0.fh.fc,u0,.bool d0.fe.fc,v0],vI 0]) E0 func123 rfl (.cons (.many (cs:=[.bool d0.fh.fc,u0,.bool d0.fe.fc,v0]) rfl rfl (g0.memA .t1)) (.cons (.tmp rfl) .nil)) rfl<|Ab (Af rfl rfl)<|Ab (Af rfl rfl)<|bk h fun k0 j1 h=>Bb (.tuple #[.agg ((aa k0.1)).toArray,vI k0.2]) (bd 122) rfl (e2 rfl rfl) (fun p q=>bM_c n (g0.hL0 hL q) d0 (g0.kd (Ah F0 D0) q) (g0.kd (Ah G0 D0) q) j1) rfl<|Ab (Af rfl rfl)<|Ab (Af rfl rfl)<|AJ (aa k0.1) g0 .t4 (ai rfl) fun B2 A0 R1=>Ag rfl<|Aa<|Ar rfl<|Ap hb0 func53 rfl (.cons (.many (cs:=(aa k0.1)) rfl rfl (A0.memA .t4)) (.cons (.tmp rfl) .nil)) rfl ?_
 cases h
 exact A0.gv
 refine Ae<|RG.nl [.bool false,vN,.bool false,vN] c0 fun C2 B1 B0 U1=>Aa<|Ae<|Ab (Aw rfl (B0.memA .hd))<|AJ [.bool false,vN,.bool false,vN] B0 .t2 (ai rfl) fun D2 p0 D1=>Ag rfl<|Aa<|Ar rfl<|Ap (u:=.tuple #[.agg #[.bool false,vN,.bool false,vN],vI 20]) E0 func123 rfl (.cons (.many (cs:=[.bool false,vN,.bool false,vN]) rfl rfl (p0.memA .t2)) (.cons (.tmp rfl) .nil)) rfl<|Ab (Af rfl rfl)<|Ab (Af rfl rfl)<|bk h fun j0 Z0 h=>Bb (.tuple #[.agg ((aa j0.1)).toArray,vI j0.2]) (bd 122) rfl (e2 rfl rfl) (fun p q=>bM_c n (p0.hL0 hL q) (⟨(⟨false,([]:List UInt64)⟩:Te),(⟨false,([]:List UInt64)⟩:Te)⟩:Tc) (Ai (Rep.nilSlice _ _) q) (Ai (Rep.nilSlice _ _) q) Z0) rfl<|Ab (Af rfl rfl)<|Ab (Af rfl rfl)<|AJ (aa j0.1) p0 .t5 (ai rfl) fun g2 x0 E1=>Ag rfl<|Aa<|Ar rfl<|Ap hb0 func53 rfl (.cons (.many (cs:=(aa j0.1)) rfl rfl (x0.memA .t5)) (.cons (.tmp rfl) .nil)) rfl ?_
 cases h
 exact x0.gv
def cm_p (n:Nat) (a0:Ta) (a1:Ta):Option (Int × Int):=
  (bs_p n ([a0,a1]:List Ta)).bind fun b0=>(if b0 = true then (ai_p n a0).bind fun c0=>(ai_p n a1).bind fun d0=>(aB_p n c0 d0).bind fun g0=>some (g0,(0:Int)) else some ((0:Int),(20:Int)))
theorem cm_c (n:Nat) {L w} (hL:hl L w) (a0:Ta) (a1:Ta)  {r:Int × Int} (h:cm_p n a0 a1 = some r) :
 Cl 54 #[.agg ((aa a0)).toArray,.agg ((aa a1)).toArray] w (ak w fun _ u=>u = .tuple #[vI r.1,vI r.2]):=by
 unfold cm_p at h
 refine AI func54 rfl rfl rfl fun _ cs0 hb0=>Ae<|RG.bx (AH w) rfl rfl fun u1 M0 v0 W0=>RG.bx v0 rfl rfl fun v1 P0 j0 X0=>Ag rfl<|Ag rfl<|Aa<|Ae<|Ab (Aw rfl (j0.memA .t1))<|Ab (Aw rfl (j0.memA .hd))<|Bx (fst:=[]) (cap:=[]) (vs:=[.agg ((aa a0)).toArray,.agg ((aa a1)).toArray,.func (.func 69) #[] #[]]) .plain (bd 124) func124 rfl rfl rfl rfl (e3 rfl rfl rfl) rfl fun V0 s0 d1=>Ae<|RG.bx j0 rfl rfl fun x1 Q0 x0 Y0=>RG.bx x0 rfl rfl fun y1 R0 k0 Z0=>Ag rfl<|Ag rfl<|Aa<|Ak<|Ae<|Ab (Aw rfl (k0.memA .t1))<|Ab (Aw rfl (k0.memA .hd))<|Al .plain rfl (AS (α:=Ta) (xs:=([a0,a1]:List Ta)) (vs:=[.agg ((aa a0)).toArray,.agg ((aa a1)).toArray]) (ds' :=(aa a0 ++ aa a1)) rfl k0 eT rfl (e2 rfl rfl) (by kernel_rfl) rfl) fun z1 U0 c0 b1=>bk h fun I0 E0 h=>Bb (.bool I0) (bd 126) rfl (e1 rfl) (fun p q=>bs_c n (c0.hL0 hL q) (Ai (St.lend (α:=Ta) (L:=L) c0 .hd (AK (cs:=(aa a0 ++ aa a1)) (xs:=(([a0,a1]:List Ta):List Ta)) c0 L (AD (cs:=(aa a0)) (ds:=(aa a1)) (bn a0.fN a0.fD) (AD (cs:=(aa a1)) (ds:=[]) (bn a1.fN a1.fD) (AO _ _)))) hL) q) E0) rfl<|Ab (FV.not rfl)<|Aa<|MX.ifnb rfl h (fun u0 h=>?_) (fun u0 h=>?_)
 refine Av<|Ak<|du 8 fun b0 g0=>Rv 0 b0 rfl g0 (fun _=>Aq rfl)<|Rx 1 244 b0 rfl g0 (Aw rfl (c0.memA .t2))<|Rx 3 240 b0 rfl g0 (Aw rfl (c0.memA .t1))<|bk h fun J0 F0 h=>AW 2 15 b0 rfl .plain (bd 68) rfl (e1 rfl) (fun p q=>ai_c n (c0.hL hL q) a0 F0) rfl fun A1 q1 y0 ⟨g1,j1,hu_,A0,B0⟩=>?_
 subst hu_
 obtain ⟨p0,c1⟩:=c0.agr y0
 refine bk h fun K0 G0 h=>AW 4 31 b0 rfl .plain (bd 68) rfl (e1 rfl) (fun p q=>ai_c n (p0.hL hL q) a1 G0) rfl fun B1 s1 z0 ⟨k1,p1,hu_,C0,D0⟩=>?_
 subst hu_
 obtain ⟨d0,q0⟩:=p0.agr z0
 refine bk h fun t0 H0 h=>RD.cq 5 63 192 (vI t0) b0 rfl g0 (bd 69) rfl (e2 rfl rfl) (fun p q=>aB_c n (d0.hL0 hL q) J0 (d0.kd (Ah A0 q0) q) (d0.kd (Ah B0 q0) q) K0 (d0.kd C0 q) (d0.kd D0 q) H0) rfl<|Rv 6 b0 rfl g0 (fun _=>Bc rfl)<|Rv 7 b0 rfl g0 (fun _=>Bc rfl)<|AG (dk b0)<|Ar rfl<|Ap (u:=.tuple #[vI t0,vI 0]) s0 func124 rfl (.cons (.tmp rfl) (.cons (.tmp rfl) .nil)) rfl<|Ab (Af rfl rfl)<|Ab (Af rfl rfl)<|Ag rfl<|Ag rfl<|Aa<|Ar rfl<|Ap hb0 func54 rfl (.cons (.tmp rfl) (.cons (.tmp rfl) .nil)) rfl ?_
 cases h
 exact d0.gv
 refine Ae<|Ag rfl<|Aa<|Ae<|Ac rfl<|Ag rfl<|Ag rfl<|Aa<|Ar rfl<|Ap (u:=.tuple #[vI 0,vI 20]) s0 func124 rfl (.cons (.tmp rfl) (.cons (.tmp rfl) .nil)) rfl<|Ab (Af rfl rfl)<|Ab (Af rfl rfl)<|Ag rfl<|Ag rfl<|Aa<|Ar rfl<|Ap hb0 func54 rfl (.cons (.tmp rfl) (.cons (.tmp rfl) .nil)) rfl ?_
 cases h
 exact c0.gv
def bp_p (n:Nat) (a0:Ti) (a1:Ti) (a2:Ti) (a3:Th):Option Bool:=
  (bZ_p n).bind fun K0=>(if K0 = true then (am_p n a0).bind fun d0=>(am_p n a1).bind fun g0=>(am_p n a2).bind fun z0=>(ap_p n d0 g0).bind fun c0=>(ap_p n g0 d0).bind fun A0=>(ap_p n d0 z0).bind fun B0=>(ap_p n z0 g0).bind fun C0=>(cM_p n B0.1 C0.1).bind fun q0=>jn (fun D0=>(if D0 = true then some false else (bt_p n a3).bind fun j0=>(ae_p n (1:Int) (1:Int)).bind fun E0=>(cQ_p n E0 j0).bind fun s0=>(aA_p n ([d0,g0]:List (List Tb)) ([s0.1,j0]:List Ta)).bind fun k0=>(ap_p n d0 k0.1).bind fun p0=>(if s0.2 = 0 then (if k0.2 = 0 then (if p0.2 = 0 then (aM_p n k0.1).bind fun F0=>(if F0 = 0 then (ae_p n (0:Int) (1:Int)).bind fun G0=>(ae_p n (1:Int) (1:Int)).bind fun H0=>(cm_p n G0 c0.1).bind fun t0=>(if t0.2 = 0 then (if 0 < t0.1 then some false else (cm_p n c0.1 H0).bind fun u0=>(if u0.2 = 0 then (if 0 < u0.1 then some false else (cm_p n c0.1 q0.1).bind fun v0=>(if v0.2 = 0 then (if 0 < v0.1 then some false else (cm_p n p0.1 j0).bind fun x0=>(if x0.2 = 0 then (if 0 < x0.1 then some false else (cP_p n j0 c0.1).bind fun y0=>(if y0.2 = 0 then some (decide (p0.1 = y0.1)) else some false)) else some false)) else some false)) else some false)) else some false) else some false) else some false) else some false) else some false))) (fun b0=>(if c0.2 = 0 then (if A0.2 = 0 then (if B0.2 = 0 then (if C0.2 = 0 then (if q0.2 = 0 then (if c0.1 = A0.1 then (ae_p n (0:Int) (1:Int)).bind fun I0=>(bQ_p n d0 g0).bind fun J0=>b0 (!((decide (c0.1 = I0)) == J0)) else b0 true) else b0 true) else b0 true) else b0 true) else b0 true) else b0 true)) else some false)
theorem bp_c (n:Nat) {L w} (hL:hl L w) (a0:Ti) {v0_0:Value} (h0_0:Rep.R w L [v0_0] a0.fL) (a1:Ti) {v1_0:Value} (h1_0:Rep.R w L [v1_0] a1.fL) (a2:Ti) {v2_0:Value} (h2_0:Rep.R w L [v2_0] a2.fL) (a3:Th) {v3_1:Value} (h3_1:Rep.R w L [v3_1] a3.fN.fBits) {v3_4:Value} (h3_4:Rep.R w L [v3_4] a3.fD.fBits)  {r:Bool} (h:bp_p n a0 a1 a2 a3 = some r) :
 Cl 8 #[.agg #[v0_0],.agg #[v1_0],.agg #[v2_0],.agg #[.bool a3.fN.fc,v3_1,.int .u32 (a3.fN.fm.toNat:Int),.bool a3.fD.fc,v3_4,.int .u32 (a3.fD.fm.toNat:Int)]] w (ak w fun _ u=>u = .bool r):=by
 unfold bp_p at h
 refine AI func8 rfl rfl rfl fun _ cs0 hb0=>Ae<|RG.bx (AH w) rfl rfl fun D6 x5 x3 P5=>RG.bx x3 rfl rfl fun J6 A5 B3 Q5=>RG.bx B3 rfl rfl fun U6 E5 D3 V5=>RG.bx D3 rfl rfl fun c7 j2 B0 q6=>Ag rfl<|Aa<|Ak<|Ae<|bk h fun q5 Y4 h=>Bb (.bool q5) (bd 12) rfl ar (fun p q=>bZ_c n (B0.hL0 hL q)  Y4) rfl<|Ab (FV.not rfl)<|Aa<|MX.ifnb rfl h (fun s3 h=>?_) (fun s3 h=>?_)
 refine Av<|Ak<|du 9 fun A0 M0=>Rx 0 490 A0 rfl M0 (Aw rfl (B0.memA .t3))<|Rx 2 488 A0 rfl M0 (Aw rfl (B0.memA .t2))<|Rx 4 480 A0 rfl M0 (Aw rfl (B0.memA .t1))<|bk h fun c2 Z4 h=>AW 1 23 A0 rfl .plain (bd 33) rfl (e1 rfl) (fun p q=>am_c n (B0.hL hL q) a0 (B0.km h0_0 q) Z4) rfl fun p7 Y0 y4 ⟨v6,hu_,D0⟩=>?_
 subst hu_
 obtain ⟨Q1,t6⟩:=B0.agr y4
 refine bk h fun d2 b5 h=>AW 3 31 A0 rfl .plain (bd 33) rfl (e1 rfl) (fun p q=>am_c n (Q1.hL hL q) a1 (Q1.km h1_0 q) b5) rfl fun q7 P0 z4 ⟨x6,hu_,J0⟩=>?_
 subst hu_
 obtain ⟨R1,V1⟩:=Q1.agr z4
 refine bk h fun C7 c5 h=>AW 5 63 A0 rfl .plain (bd 33) rfl (e1 rfl) (fun p q=>am_c n (R1.hL hL q) a2 (R1.km h2_0 q) c5) rfl fun s7 A6 A4 ⟨y6,hu_,E2⟩=>?_
 subst hu_
 obtain ⟨x1,U0⟩:=R1.agr A4
 refine Rv 6 A0 rfl M0 (fun _=>Bc rfl)<|Rv 7 A0 rfl M0 (fun _=>Bc rfl)<|Rv 8 A0 rfl M0 (fun _=>Bc rfl)<|AG (dk A0)<|Ae<|Ac rfl<|Ac rfl<|bk h fun d0 d5 h=>Bb (.tuple #[.agg ((aa d0.1)).toArray,vI d0.2]) (bd 25) rfl (e2 rfl rfl) (fun p q=>ap_c n (x1.hL0 hL q) (x1.kd (Ah D0 (Tt V1 U0)) q) (x1.kd (Ah J0 U0) q) d5) rfl<|Ac rfl<|Ab (Af rfl rfl)<|Ab (Af rfl rfl)<|RG.nl zL x1 fun t7 k2 Y3 W1=>AJ (aa d0.1) Y3 .hd (ai rfl) fun u7 y1 X1=>Ag rfl<|Aa<|Ae<|Ac rfl<|Ac rfl<|bk h fun R0 g5 h=>?_
 have H1:=Tt U0 (Tt W1 X1)
 refine Bb (.tuple #[.agg ((aa R0.1)).toArray,vI R0.2]) (bd 25) rfl (e2 rfl rfl) (fun p q=>ap_c n (y1.hL0 hL q) (y1.kd (Ah J0 H1) q) (y1.kd (Ah D0 (Tt V1 H1)) q) g5) rfl<|Ac rfl<|Ab (Af rfl rfl)<|Ab (Af rfl rfl)<|RG.nl zL y1 fun v7 I5 Z3 F1=>AJ (aa R0.1) Z3 .hd (ai rfl) fun x7 z1 G1=>Ag rfl<|Aa<|Ae<|Ac rfl<|Ac rfl<|bk h fun b1 j5 h=>?_
 have Z1:=Tt V1 (Tt U0 (Tt W1 (Tt X1 (Tt F1 G1))))
 have B2:=Tt W1 (Tt X1 (Tt F1 G1))
 refine Bb (.tuple #[.agg ((aa b1.1)).toArray,vI b1.2]) (bd 25) rfl (e2 rfl rfl) (fun p q=>ap_c n (z1.hL0 hL q) (z1.kd (Ah D0 Z1) q) (z1.kd (Ah E2 B2) q) j5) rfl<|Ac rfl<|Ab (Af rfl rfl)<|Ab (Af rfl rfl)<|RG.nl zL z1 fun y7 J5 b4 V0=>AJ (aa b1.1) b4 .hd (ai rfl) fun z7 A1 W0=>Ag rfl<|Aa<|Ae<|Ac rfl<|Ac rfl<|bk h fun c1 k5 h=>?_
 have C2:=Tt B2 (Tt V0 W0)
 refine Bb (.tuple #[.agg ((aa c1.1)).toArray,vI c1.2]) (bd 25) rfl (e2 rfl rfl) (fun p q=>ap_c n (A1.hL0 hL q) (A1.kd (Ah E2 C2) q) (A1.kd (Ah J0 (Tt U0 C2)) q) k5) rfl<|Ac rfl<|Ab (Af rfl rfl)<|Ab (Af rfl rfl)<|RG.nl zL A1 fun A7 v5 u3 B1=>AJ (aa c1.1) u3 .hd (ai rfl) fun B6 g1 C1=>Ag rfl<|Aa<|Ae<|Ab (Aw rfl (g1.memA .t1))<|Ab (Aw rfl (g1.memA .hd))<|bk h fun p0 D4 h=>Bb (.tuple #[.agg ((aa p0.1)).toArray,vI p0.2]) (bd 52) rfl (e2 rfl rfl) (fun p q=>cM_c n (g1.hL0 hL q) b1.1 c1.1 D4) rfl<|Ac rfl<|Ab (Af rfl rfl)<|Ab (Af rfl rfl)<|RG.nl zL g1 fun C6 g2 v3 D1=>AJ (aa p0.1) v3 .hd (ai rfl) fun E6 q0 E1=>Ag rfl<|Aa<|Ak<|Ak<|MX.jo (α:=Bool) (fun X0=>[(7,vP j2),(9,Y0),(10,P0),(12,vP k2),(20,vP g2),(100,.bool X0)]) (fun X0=>[.cells g2 (aa p0.1) 34,.cells k2 (aa d0.1) 34,.cells j2 [.bool a3.fN.fc,v3_1,.int .u32 (a3.fN.fm.toNat:Int),.bool a3.fD.fc,v3_4,.int .u32 (a3.fD.fm.toNat:Int)] 79]) (fun X0=>X0) q0 h ?_ ?_
 rintro X0 B7 E0 p2 h
 try dsimp only at h
 refine MX.ifb rfl h (fun J2 h=>?_) (fun J2 h=>?_)
 refine Ae<|Ag rfl<|Aa<|Ar rfl<|Be hb0 func8 rfl rfl ?_
 cases h
 exact E0.gv
 refine Av<|Ae<|Ab (Aw rfl (E0.memA .t2))<|bk h fun g0 E4 h=>Bb (.agg ((aa g0)).toArray) (bd 48) rfl (e1 rfl) (fun p q=>bt_c n (E0.hL0 hL q) a3 (E0.k0 h3_1 q) (E0.k0 h3_4 q) E4) rfl<|RG.nl zL E0 fun F6 y5 y3 q2=>AJ (aa g0) y3 .hd (ai rfl) fun G6 j1 s2=>Aa<|Ak<|du 7 fun z0 K0=>bk h fun F2 F4 h=>RD.cq 0 1 444 (.agg ((aa F2)).toArray) z0 rfl K0 (bd 15) rfl (e2 rfl rfl) (fun p q=>ae_c n (j1.hL0 hL q)  F4) rfl<|Rx 1 444 z0 rfl K0 (Aw rfl (j1.memA .hd))<|bk h fun v0 G4 h=>RD.cq 2 7 440 (.tuple #[.agg ((aa v0.1)).toArray,vI v0.2]) z0 rfl K0 (bd 53) rfl (e2 rfl rfl) (fun p q=>cQ_c n (j1.hL0 hL q) F2 g0 G4) rfl<|Rv 3 z0 rfl K0 (fun _=>Aq rfl)<|Rv 4 z0 rfl K0 (fun _=>Af rfl rfl)<|Rv 5 z0 rfl K0 (fun _=>Af rfl rfl)<|RD.nu 6 127 z0 rfl .plain rfl (Au zL j1) fun H6 z5 z3 u2=>Bq 7 255 z0 rfl rfl .plain (AC (news:=(aa v0.1)) z3 .hd rfl rfl rfl rfl rfl rfl (ai rfl)) fun I6 A3 v2=>BH (i:=8) (rk z0) (BM (m' :=511) (sk z0) rfl .plain rfl (Bc rfl) ?_)
 refine AG (dk z0)<|Ae<|Ac rfl<|Ac rfl ?_
 have Y1:=Tt Z1 (Tt V0 (Tt W0 (Tt B1 (Tt C1 (Tt D1 (Tt E1 (Tt p2 (Tt q2 (Tt s2 (Tt u2 v2))))))))))
 have A2:=Tt H1 (Tt F1 (Tt G1 (Tt V0 (Tt W0 (Tt B1 (Tt C1 (Tt D1 (Tt E1 (Tt p2 (Tt q2 (Tt s2 (Tt u2 v2))))))))))))
 obtain ⟨s5,K5,B4,_⟩:=Bp (Ah D0 Y1)
 obtain ⟨t5,M5,C4,_⟩:=Bp (Ah J0 A2)
 refine Al .plain rfl (AS (α:=List Tb) (xs:=([c2,d2]:List (List Tb))) (vs:=[Y0,P0]) (ds' :=[Y0,P0]) rfl A3 lh rfl (e2 rfl rfl) (by rw [B4,C4]; try kernel_rfl) rfl) fun K6 H2 k1 U1=>Ab (Aw rfl (k1.memA .t1))<|Ab (Aw rfl (k1.memA .t2))<|Al .plain rfl (AS (α:=Ta) (xs:=([v0.1,g0]:List Ta)) (vs:=[.agg ((aa v0.1)).toArray,.agg ((aa g0)).toArray]) (ds' :=(aa v0.1 ++ aa g0)) rfl k1 eT rfl (e2 rfl rfl) (by kernel_rfl) rfl) fun M6 I2 p1 x2=>?_
 have q1:=BC p1 .t1
 have y2:=BD p1 .t1
 have P1:=BC q1 .hd
 have z2:=BD q1 .hd
 refine bk h fun p5 H4 h=>jE (bd 31) rfl (e2 rfl rfl) (fun p q=>aA_c n (P1.hL hL q) (Ai (Ah (BE (α:=List Tb) (v:=(vS H2 2)) (xs:=([c2,d2]:List (List Tb))) q1 L (Bm (α:=List Tb) p1 .t1 (AT (AK (cs:=[Y0,P0]) (xs:=(([c2,d2]:List (List Tb)):List (List Tb))) k1 L (AD (cs:=[Y0]) (ds:=[P0]) (Ah D0 (Tt Y1 U1)) (AD (cs:=[P0]) (ds:=[]) (Ah J0 (Tt A2 U1)) (AO _ _)))) x2) hL)) z2) q) (Ai (BE (α:=Ta) (v:=(vS I2 2)) (xs:=([v0.1,g0]:List Ta)) P1 L (Bm (α:=Ta) q1 .hd (AT (AK (cs:=(aa v0.1 ++ aa g0)) (xs:=(([v0.1,g0]:List Ta):List Ta)) p1 L (AD (cs:=(aa v0.1)) (ds:=(aa g0)) (bn v0.1.fN v0.1.fD) (AD (cs:=(aa g0)) (ds:=[]) (bn g0.fN g0.fD) (AO _ _)))) y2) hL)) q) H4) rfl fun P6 z6 x4 ⟨u6,hu_,D2⟩=>?_
 subst hu_
 obtain ⟨s1,c4⟩:=P1.agr x4
 refine Ac rfl<|Ab (Af rfl rfl)<|Ab (Af rfl rfl)<|Ag rfl<|Ag rfl<|Aa<|Ae<|Ac rfl<|Ac rfl<|bk h fun j0 I4 h=>Bb (.tuple #[.agg ((aa j0.1)).toArray,vI j0.2]) (bd 25) rfl (e2 rfl rfl) (fun p q=>ap_c n (s1.hL0 hL q) (s1.kd (Ah D0 (Tt Y1 (Tt U1 (Tt x2 (Tt y2 (Tt z2 c4)))))) q) (s1.kd D2 q) I4) rfl<|Ac rfl<|Ab (Af rfl rfl)<|Ab (Af rfl rfl)<|RG.nl zL s1 fun Q6 B5 C3 d4=>AJ (aa j0.1) C3 .hd (ai rfl) fun R6 s0 g4=>Ag rfl<|Aa<|Ak<|Ae<|Ac rfl<|Ab (Bw (i:=v0.2) (j:=0) rfl rfl)<|Ac rfl<|RG.ifn (s:=127) rfl h (fun K2 h=>?_) (fun K2 h=>?_)
 refine AQ (Aq rfl)<|AQ (Bw (i:=p5.2) (j:=0) rfl rfl)<|Bd rfl rfl<|Ac rfl<|RG.ifn (s:=131) rfl h (fun M2 h=>?_) (fun M2 h=>?_)
 refine AQ (Aq rfl)<|AQ (Bw (i:=j0.2) (j:=0) rfl rfl)<|Bd rfl rfl<|Ac rfl<|RG.ifn (s:=135) rfl h (fun P2 h=>?_) (fun P2 h=>?_)
 refine AQ (Aq rfl)<|bk h fun G2 J4 h=>BP (v:=vI G2) (fst:=[]) (cap:=[]) (.yes rfl rfl) (bd 16) rfl (e1 rfl) (fun p q=>aM_c n (s0.hL0 hL q) (s0.kd (Ah D2 (Tt d4 g4)) q) J4) rfl<|AQ (Bw (i:=G2) (j:=0) rfl rfl)<|Bd rfl rfl<|Aa<|BN rfl h (fun Q2 h=>?_) (fun Q2 h=>?_)
 refine Av<|Ak<|Ak<|du 14 fun t0 u0=>bk h fun x0 K4 h=>RD.cq 0 1 4148 (.agg ((aa x0)).toArray) t0 rfl u0 (bd 15) rfl (e2 rfl rfl) (fun p q=>ae_c n (s0.hL0 hL q)  K4) rfl<|Rx 1 4100 t0 rfl u0 (Aw rfl (s0.memA .t4))<|Rv 2 t0 rfl u0 (fun _=>AR (vs:=[.agg ((aa x0)).toArray,.agg ((aa d0.1)).toArray]) (u:=.agg ((aa x0 ++ aa d0.1)).toArray) (e2 rfl rfl) (fun p=>by kernel_rfl))<|Rx 3 4128 t0 rfl u0 (Aw rfl (s0.memA .t4))<|bk h fun y0 M4 h=>RD.cq 4 31 4128 (.agg ((aa y0)).toArray) t0 rfl u0 (bd 15) rfl (e2 rfl rfl) (fun p q=>ae_c n (s0.hL0 hL q)  M4) rfl<|Rv 5 t0 rfl u0 (fun _=>AR (vs:=[.agg ((aa d0.1)).toArray,.agg ((aa y0)).toArray]) (u:=.agg ((aa d0.1 ++ aa y0)).toArray) (e2 rfl rfl) (fun p=>by kernel_rfl))<|Rx 6 4352 t0 rfl u0 (Aw rfl (s0.memA .t4))<|Rx 7 4352 t0 rfl u0 (Aw rfl (s0.memA .t3))<|Rv 8 t0 rfl u0 (fun _=>AR (vs:=[.agg ((aa d0.1)).toArray,.agg ((aa p0.1)).toArray]) (u:=.agg ((aa d0.1 ++ aa p0.1)).toArray) (e2 rfl rfl) (fun p=>by kernel_rfl))<|Rx 9 6144 t0 rfl u0 (Aw rfl (s0.memA .hd))<|Rx 10 6144 t0 rfl u0 (Aw rfl (s0.memA .t2))<|Rv 11 t0 rfl u0 (fun _=>AR (vs:=[.agg ((aa j0.1)).toArray,.agg ((aa g0)).toArray]) (u:=.agg ((aa j0.1 ++ aa g0)).toArray) (e2 rfl rfl) (fun p=>by kernel_rfl))<|Rv 12 t0 rfl u0 (fun _=>AR (vs:=[.agg ((aa x0 ++ aa d0.1)).toArray,.agg ((aa d0.1 ++ aa y0)).toArray,.agg ((aa d0.1 ++ aa p0.1)).toArray,.agg ((aa j0.1 ++ aa g0)).toArray]) (u:=.agg ((aa x0 ++ aa d0.1 ++ aa d0.1 ++ aa y0 ++ aa d0.1 ++ aa p0.1 ++ aa j0.1 ++ aa g0)).toArray) (e4 rfl rfl rfl rfl) (fun p=>by kernel_rfl))<|Rv 13 t0 rfl u0 (fun _=>Aq rfl)<|AG (dk t0)<|Ax<|MX.loop1<|Ae<|Ab (AY (i:=0) (j:=4) rfl rfl)<|Aa<|Ak<|AU rfl<|Av<|Ak<|Ax<|Ae<|Ab (FV.idxN (cs:=(aa x0 ++ aa d0.1 ++ aa d0.1 ++ aa y0 ++ aa d0.1 ++ aa p0.1 ++ aa j0.1 ++ aa g0)) (k:=0) (m:=32) (len:=4) rfl rfl rfl rfl rfl (by omega) rfl)<|RG.nl [vW 0,vW 0,vW 0,vW 0,vW 0,vW 0,vW 0,vW 0,vW 0,vW 0,vW 0,vW 0,vW 0,vW 0,vW 0,vW 0,vW 0,vW 0,vW 0,vW 0,vW 0,vW 0,vW 0,vW 0,vW 0,vW 0,vW 0,vW 0,vW 0,vW 0,vW 0,vW 0] s0 fun V6 C5 E3 R5=>AJ (aa x0 ++ aa d0.1) E3 .hd (ai rfl) fun W6 F0 U5=>Aa<|Ae<|Ab (AP (m:=16) (k:=0) (len:=2) rfl rfl rfl rfl (by omega))<|Ab (AN (cs:=(aa x0)) rfl rfl (ae (F0.memA .hd) 0 16))<|Ab (AP (m:=16) (k:=1) (len:=2) rfl rfl rfl rfl (by omega))<|Ab (AN (cs:=(aa d0.1)) rfl rfl (ae (F0.memA .hd) 16 16)) ?_
 refine bk h fun I1 P4 h=>Bb (.tuple #[vI I1.1,vI I1.2]) (bd 54) rfl (e2 rfl rfl) (fun p q=>cm_c n (F0.hL0 hL q) x0 d0.1 P4) rfl<|Ac rfl<|Ab (Af rfl rfl)<|Ab (Af rfl rfl)<|Ag rfl<|Ag rfl<|Aa<|Ae<|Ac rfl<|Ab (Bw (i:=I1.2) (j:=0) rfl rfl)<|Ac rfl<|RG.ifn (s:=166) rfl h (fun R2 h=>?_) (fun R2 h=>?_)
 refine AQ (Aq rfl)<|AQ (FV.gtr (i:=I1.1) (j:=0) rfl rfl)<|Bd rfl rfl<|Aa<|AV rfl h (fun U2 h=>?_) (fun U2 h=>?_)
 refine Ae<|Ag rfl<|Aa<|Ar rfl<|Be hb0 func8 rfl rfl ?_
 cases h
 exact F0.gv
 refine Av<|Ay<|Ao<|Ab (FV.add (i:=0) (j:=1) (r:=1) rfl rfl (by decide))<|Ac rfl<|Aa<|BA ?_
 obtain ⟨F3,W5⟩:=Az F0 (.a1 (.a2 (.a3 .done)))
 refine Ae<|Ab (AY (i:=1) (j:=4) rfl rfl)<|Aa<|Ak<|AU rfl<|Av<|Ak<|Ax<|Ae<|Ab (FV.idxN (cs:=(aa x0 ++ aa d0.1 ++ aa d0.1 ++ aa y0 ++ aa d0.1 ++ aa p0.1 ++ aa j0.1 ++ aa g0)) (k:=1) (m:=32) (len:=4) rfl rfl rfl rfl rfl (by omega) rfl)<|RG.nl [vW 0,vW 0,vW 0,vW 0,vW 0,vW 0,vW 0,vW 0,vW 0,vW 0,vW 0,vW 0,vW 0,vW 0,vW 0,vW 0,vW 0,vW 0,vW 0,vW 0,vW 0,vW 0,vW 0,vW 0,vW 0,vW 0,vW 0,vW 0,vW 0,vW 0,vW 0,vW 0] F3 fun X6 D5 G3 X5=>AJ (aa d0.1 ++ aa y0) G3 .hd (ai rfl) fun Y6 G0 Y5=>Aa<|Ae<|Ab (AP (m:=16) (k:=0) (len:=2) rfl rfl rfl rfl (by omega))<|Ab (AN (cs:=(aa d0.1)) rfl rfl (ae (G0.memA .hd) 0 16))<|Ab (AP (m:=16) (k:=1) (len:=2) rfl rfl rfl rfl (by omega))<|Ab (AN (cs:=(aa y0)) rfl rfl (ae (G0.memA .hd) 16 16))<|bk h fun J1 Q4 h=>Bb (.tuple #[vI J1.1,vI J1.2]) (bd 54) rfl (e2 rfl rfl) (fun p q=>cm_c n (G0.hL0 hL q) d0.1 y0 Q4) rfl<|Ac rfl<|Ab (Af rfl rfl)<|Ab (Af rfl rfl)<|Ag rfl<|Ag rfl<|Aa<|Ae<|Ac rfl<|Ab (Bw (i:=J1.2) (j:=0) rfl rfl)<|Ac rfl<|RG.ifn (s:=166) rfl h (fun V2 h=>?_) (fun V2 h=>?_)
 refine AQ (Aq rfl)<|AQ (FV.gtr (i:=J1.1) (j:=0) rfl rfl)<|Bd rfl rfl<|Aa<|AV rfl h (fun W2 h=>?_) (fun W2 h=>?_)
 refine Ae<|Ag rfl<|Aa<|Ar rfl<|Be hb0 func8 rfl rfl ?_
 cases h
 exact G0.gv
 refine Av<|Ay<|Ao<|Ab (FV.add (i:=1) (j:=1) (r:=2) rfl rfl (by decide))<|Ac rfl<|Aa<|BA ?_
 obtain ⟨H3,Z5⟩:=Az G0 .d1
 refine Ae<|Ab (AY (i:=2) (j:=4) rfl rfl)<|Aa<|Ak<|AU rfl<|Av<|Ak<|Ax<|Ae<|Ab (FV.idxN (cs:=(aa x0 ++ aa d0.1 ++ aa d0.1 ++ aa y0 ++ aa d0.1 ++ aa p0.1 ++ aa j0.1 ++ aa g0)) (k:=2) (m:=32) (len:=4) rfl rfl rfl rfl rfl (by omega) rfl)<|RG.nl [vW 0,vW 0,vW 0,vW 0,vW 0,vW 0,vW 0,vW 0,vW 0,vW 0,vW 0,vW 0,vW 0,vW 0,vW 0,vW 0,vW 0,vW 0,vW 0,vW 0,vW 0,vW 0,vW 0,vW 0,vW 0,vW 0,vW 0,vW 0,vW 0,vW 0,vW 0,vW 0] H3 fun Z6 F5 I3 b6=>AJ (aa d0.1 ++ aa p0.1) I3 .hd (ai rfl) fun b7 H0 c6=>Aa<|Ae<|Ab (AP (m:=16) (k:=0) (len:=2) rfl rfl rfl rfl (by omega))<|Ab (AN (cs:=(aa d0.1)) rfl rfl (ae (H0.memA .hd) 0 16))<|Ab (AP (m:=16) (k:=1) (len:=2) rfl rfl rfl rfl (by omega))<|Ab (AN (cs:=(aa p0.1)) rfl rfl (ae (H0.memA .hd) 16 16))<|bk h fun K1 R4 h=>Bb (.tuple #[vI K1.1,vI K1.2]) (bd 54) rfl (e2 rfl rfl) (fun p q=>cm_c n (H0.hL0 hL q) d0.1 p0.1 R4) rfl<|Ac rfl<|Ab (Af rfl rfl)<|Ab (Af rfl rfl)<|Ag rfl<|Ag rfl<|Aa<|Ae<|Ac rfl<|Ab (Bw (i:=K1.2) (j:=0) rfl rfl)<|Ac rfl<|RG.ifn (s:=166) rfl h (fun X2 h=>?_) (fun X2 h=>?_)
 refine AQ (Aq rfl)<|AQ (FV.gtr (i:=K1.1) (j:=0) rfl rfl)<|Bd rfl rfl<|Aa<|AV rfl h (fun Y2 h=>?_) (fun Y2 h=>?_)
 refine Ae<|Ag rfl<|Aa<|Ar rfl<|Be hb0 func8 rfl rfl ?_
 cases h
 exact H0.gv
 refine Av<|Ay<|Ao<|Ab (FV.add (i:=2) (j:=1) (r:=3) rfl rfl (by decide))<|Ac rfl<|Aa<|BA ?_
 obtain ⟨J3,d6⟩:=Az H0 .d1
 refine Ae<|Ab (AY (i:=3) (j:=4) rfl rfl)<|Aa<|Ak<|AU rfl<|Av<|Ak<|Ax<|Ae<|Ab (FV.idxN (cs:=(aa x0 ++ aa d0.1 ++ aa d0.1 ++ aa y0 ++ aa d0.1 ++ aa p0.1 ++ aa j0.1 ++ aa g0)) (k:=3) (m:=32) (len:=4) rfl rfl rfl rfl rfl (by omega) rfl)<|RG.nl [vW 0,vW 0,vW 0,vW 0,vW 0,vW 0,vW 0,vW 0,vW 0,vW 0,vW 0,vW 0,vW 0,vW 0,vW 0,vW 0,vW 0,vW 0,vW 0,vW 0,vW 0,vW 0,vW 0,vW 0,vW 0,vW 0,vW 0,vW 0,vW 0,vW 0,vW 0,vW 0] J3 fun d7 G5 K3 g6=>AJ (aa j0.1 ++ aa g0) K3 .hd (ai rfl) fun g7 I0 j6=>Aa<|Ae<|Ab (AP (m:=16) (k:=0) (len:=2) rfl rfl rfl rfl (by omega))<|Ab (AN (cs:=(aa j0.1)) rfl rfl (ae (I0.memA .hd) 0 16))<|Ab (AP (m:=16) (k:=1) (len:=2) rfl rfl rfl rfl (by omega))<|Ab (AN (cs:=(aa g0)) rfl rfl (ae (I0.memA .hd) 16 16))<|bk h fun M1 U4 h=>Bb (.tuple #[vI M1.1,vI M1.2]) (bd 54) rfl (e2 rfl rfl) (fun p q=>cm_c n (I0.hL0 hL q) j0.1 g0 U4) rfl<|Ac rfl<|Ab (Af rfl rfl)<|Ab (Af rfl rfl)<|Ag rfl<|Ag rfl<|Aa<|Ae<|Ac rfl<|Ab (Bw (i:=M1.2) (j:=0) rfl rfl)<|Ac rfl<|RG.ifn (s:=166) rfl h (fun Z2 h=>?_) (fun Z2 h=>?_)
 refine AQ (Aq rfl)<|AQ (FV.gtr (i:=M1.1) (j:=0) rfl rfl)<|Bd rfl rfl<|Aa<|AV rfl h (fun b3 h=>?_) (fun b3 h=>?_)
 refine Ae<|Ag rfl<|Aa<|Ar rfl<|Be hb0 func8 rfl rfl ?_
 cases h
 exact I0.gv
 refine Av<|Ay<|Ao<|Ab (FV.add (i:=3) (j:=1) (r:=4) rfl rfl (by decide))<|Ac rfl<|Aa<|BA ?_
 obtain ⟨u1,k6⟩:=Az I0 .d1
 refine Ae<|Ab (AY (i:=4) (j:=4) rfl rfl)<|Aa<|Ak<|BG rfl<|Ba rfl<|Ae<|Ab (Aw rfl (u1.memA .t1))<|Ab (Aw rfl (u1.memA .t2))<|bk h fun Q0 V4 h=>Bb (.tuple #[.agg ((aa Q0.1)).toArray,vI Q0.2]) (bd 51) rfl (e2 rfl rfl) (fun p q=>cP_c n (u1.hL0 hL q) g0 d0.1 V4) rfl<|Ac rfl<|Ab (Af rfl rfl)<|Ab (Af rfl rfl)<|RG.nl zL u1 fun j7 H5 M3 p6=>AJ (aa Q0.1) M3 .hd (ai rfl) fun k7 v1 s6=>Ag rfl<|Aa<|Ae<|Ac rfl<|Ab (FV.eql (i:=Q0.2) (j:=0) rfl rfl)<|Ac rfl<|RG.ifd (s:=179) rfl h (fun c3 h=>?_) (fun c3 h=>?_)
 refine AQ (Aw rfl (v1.memA .t1))<|AQ (Aw rfl (v1.memA .hd))<|AQ (FV.eqlV (v:=.agg ((aa j0.1)).toArray) (u:=.agg ((aa Q0.1)).toArray) rfl rfl (dF j0.1 Q0.1))<|Bz rfl rfl<|Ag rfl<|Aa<|Ar rfl<|Be hb0 func8 rfl rfl ?_
 cases h
 exact v1.gv
 refine Aj<|Aj<|Aj<|Bd rfl rfl<|Ag rfl<|Aa<|Ar rfl<|Be hb0 func8 rfl rfl ?_
 cases h
 exact v1.gv
 refine Aj<|Aj<|Bz rfl rfl<|Aa<|AU rfl<|Ae<|Ag rfl<|Aa<|Ar rfl<|Be hb0 func8 rfl rfl ?_
 cases h
 exact I0.gv
 refine Aj<|Aj<|Bz rfl rfl<|Aa<|AU rfl<|Ae<|Ag rfl<|Aa<|Ar rfl<|Be hb0 func8 rfl rfl ?_
 cases h
 exact H0.gv
 refine Aj<|Aj<|Bz rfl rfl<|Aa<|AU rfl<|Ae<|Ag rfl<|Aa<|Ar rfl<|Be hb0 func8 rfl rfl ?_
 cases h
 exact G0.gv
 refine Aj<|Aj<|Bz rfl rfl<|Aa<|AU rfl<|Ae<|Ag rfl<|Aa<|Ar rfl<|Be hb0 func8 rfl rfl ?_
 cases h
 exact F0.gv
 refine Ae<|Ag rfl<|Aa<|Ar rfl<|Be hb0 func8 rfl rfl ?_
 cases h
 exact s0.gv
 refine Aj<|Aj<|Aj<|Bz rfl rfl<|Aa<|AU rfl<|Ae<|Ag rfl<|Aa<|Ar rfl<|Be hb0 func8 rfl rfl ?_
 cases h
 exact s0.gv
 refine Aj<|Aj<|Bz rfl rfl<|Ac rfl<|Aj<|Aj<|Aj<|Bz rfl rfl<|Aa<|AU rfl<|Ae<|Ag rfl<|Aa<|Ar rfl<|Be hb0 func8 rfl rfl ?_
 cases h
 exact s0.gv
 refine Aj<|Aj<|Bz rfl rfl<|Ac rfl<|Aj<|Aj<|Bz rfl rfl<|Ac rfl<|Aj<|Aj<|Aj<|Bz rfl rfl<|Aa<|AU rfl<|Ae<|Ag rfl<|Aa<|Ar rfl<|Be hb0 func8 rfl rfl ?_
 cases h
 exact s0.gv
 intro u5 C0 h
 try dsimp only at h
 refine du 32 fun b0 c0=>Rv 0 b0 rfl c0 (fun _=>Aq rfl)<|Rv 1 b0 rfl c0 (fun _=>Bw (i:=d0.2) (j:=0) rfl rfl)<|Rv 2 b0 rfl c0 (fun _=>Aq rfl)<|RD.ifn (s:=71) rfl h (fun d3 h=>?_) (fun d3 h=>?_)
 refine BO 3 15 b0 rfl c0 (.yes rfl rfl) (fun _=>Aq rfl) rfl<|BO 4 31 b0 rfl c0 (.yes rfl rfl) (fun _=>Bw (i:=R0.2) (j:=0) rfl rfl) rfl<|Rv 5 b0 rfl c0 (fun _=>Bg rfl rfl)<|Rv 6 b0 rfl c0 (fun _=>Aq rfl)<|RD.ifn (s:=75) rfl h (fun g3 h=>?_) (fun g3 h=>?_)
 refine BO 7 255 b0 rfl c0 (.yes rfl rfl) (fun _=>Aq rfl) rfl<|BO 8 511 b0 rfl c0 (.yes rfl rfl) (fun _=>Bw (i:=b1.2) (j:=0) rfl rfl) rfl<|Rv 9 b0 rfl c0 (fun _=>Bg rfl rfl)<|Rv 10 b0 rfl c0 (fun _=>Aq rfl)<|RD.ifn (s:=79) rfl h (fun j3 h=>?_) (fun j3 h=>?_)
 refine BO 11 4095 b0 rfl c0 (.yes rfl rfl) (fun _=>Aq rfl) rfl<|BO 12 8191 b0 rfl c0 (.yes rfl rfl) (fun _=>Bw (i:=c1.2) (j:=0) rfl rfl) rfl<|Rv 13 b0 rfl c0 (fun _=>Bg rfl rfl)<|Rv 14 b0 rfl c0 (fun _=>Aq rfl)<|RD.ifn (s:=83) rfl h (fun k3 h=>?_) (fun k3 h=>?_)
 refine BO 15 65535 b0 rfl c0 (.yes rfl rfl) (fun _=>Aq rfl) rfl<|BO 16 131071 b0 rfl c0 (.yes rfl rfl) (fun _=>Bw (i:=p0.2) (j:=0) rfl rfl) rfl<|Rv 17 b0 rfl c0 (fun _=>Bg rfl rfl)<|Rv 18 b0 rfl c0 (fun _=>Aq rfl)<|RD.ifn (s:=87) rfl h (fun p3 h=>?_) (fun p3 h=>?_)
 refine RD.val (i:=19) (m' :=1048575) (W:=4292870144) (tk b0) rfl c0 (.yes rfl rfl) (Aw rfl (q0.memA .t4)) rfl<|RD.val (i:=20) (m' :=2097151) (W:=4292870144) (tk b0) rfl c0 (.yes rfl rfl) (Aw rfl (q0.memA .t3)) rfl<|BO 21 4194303 b0 rfl c0 (.yes rfl rfl) (fun _=>FV.neqV (xs:=((aa d0.1)).toArray) (ys:=((aa R0.1)).toArray) rfl rfl (by kernel_rfl) (dF d0.1 R0.1)) rfl<|Rv 22 b0 rfl c0 (fun _=>Bg rfl rfl)<|Rv 23 b0 rfl c0 (fun _=>Aq rfl)<|RD.ifn (s:=92) rfl h (fun q3 h=>?_) (fun q3 h=>?_)
 refine RD.val (i:=24) (m' :=33554431) (W:=3288334336) (tk b0) rfl c0 (.yes rfl rfl) (Aw rfl (q0.memA .t4)) rfl<|bk h fun Z0 W4 h=>RD.callq (i:=25) (m' :=67108863) (W:=3825205248) (tk b0) rfl c0 (v:=.agg ((aa Z0)).toArray) (fst:=[]) (cap:=[]) (.yes rfl rfl) (bd 15) rfl (e2 rfl rfl) (fun p q=>ae_c n (q0.hL0 hL q)  W4) rfl<|BO 26 134217727 b0 rfl c0 (.yes rfl rfl) (fun _=>FV.eqlV (v:=.agg ((aa d0.1)).toArray) (u:=.agg ((aa Z0)).toArray) rfl rfl (dF d0.1 Z0)) rfl<|BO 27 268435455 b0 rfl c0 (.yes rfl rfl) (fun _=>Aq rfl) rfl<|BO 28 536870911 b0 rfl c0 (.yes rfl rfl) (fun _=>Aq rfl) rfl<|bk h fun b2 X4 h=>RD.callq (i:=29) (m' :=1073741823) (W:=3221225472) (tk b0) rfl c0 (v:=.bool b2) (fst:=[]) (cap:=[]) (.yes rfl rfl) (bd 17) rfl (e2 rfl rfl) (fun p q=>bQ_c n (q0.hL0 hL q) (q0.kd (Ah D0 (Tt Z1 (Tt V0 (Tt W0 (Tt B1 (Tt C1 (Tt D1 E1))))))) q) (q0.kd (Ah J0 (Tt H1 (Tt F1 (Tt G1 (Tt V0 (Tt W0 (Tt B1 (Tt C1 (Tt D1 E1))))))))) q) X4) rfl<|BO 30 2147483647 b0 rfl c0 (.yes rfl rfl) (fun _=>FV.neqB (a:=(decide (d0.1 = Z0))) (b:=b2) underlying4 rfl rfl) rfl<|Rv 31 b0 rfl c0 (fun _=>Bg rfl rfl)<|AG (dk b0) ?_
 obtain ⟨P3,j4⟩:=Az q0 (.a0 (.a3 (.a3 .done)))
 exact C0 (!((decide (d0.1 = Z0)) == b2)) P3 j4 h
 refine Bi 2147483647 1 [(24,93),(25,94),(26,95),(27,96),(28,97),(29,98),(30,99)] (F:=[(92,true)]) (U:=[]) b0 c0 (.cons rfl .nil) .nil ?_
 dsimp only [aF,List.map]
 refine Rv 31 b0 rfl c0 (fun _=>Br rfl rfl)<|AG (dk b0) ?_
 obtain ⟨Q3,k4⟩:=Az q0 (.a0 (.a3 (.a3 .done)))
 exact C0 true Q3 k4 h
 refine Bi 4194303 10 [(19,88),(20,89),(21,90)] (F:=[(87,true)]) (U:=[]) b0 c0 (.cons rfl .nil) .nil ?_
 dsimp only [aF,List.map]
 refine Rv 22 b0 rfl c0 (fun _=>Br rfl rfl)<|Rv 23 b0 rfl c0 (fun _=>Aq rfl)<|Bi 2147483647 1 [(24,93),(25,94),(26,95),(27,96),(28,97),(29,98),(30,99)] (F:=[(92,true)]) (U:=[]) b0 c0 (.cons rfl .nil) .nil ?_
 dsimp only [aF,List.map]
 refine Rv 31 b0 rfl c0 (fun _=>Br rfl rfl)<|AG (dk b0) ?_
 obtain ⟨R3,p4⟩:=Az q0 (.a0 (.a3 (.a3 .done)))
 exact C0 true R3 p4 h
 refine Bi 131071 15 [(15,84),(16,85)] (F:=[(83,true)]) (U:=[]) b0 c0 (.cons rfl .nil) .nil ?_
 dsimp only [aF,List.map]
 refine Rv 17 b0 rfl c0 (fun _=>Br rfl rfl)<|Rv 18 b0 rfl c0 (fun _=>Aq rfl)<|Bi 4194303 10 [(19,88),(20,89),(21,90)] (F:=[(87,true)]) (U:=[]) b0 c0 (.cons rfl .nil) .nil ?_
 dsimp only [aF,List.map]
 refine Rv 22 b0 rfl c0 (fun _=>Br rfl rfl)<|Rv 23 b0 rfl c0 (fun _=>Aq rfl)<|Bi 2147483647 1 [(24,93),(25,94),(26,95),(27,96),(28,97),(29,98),(30,99)] (F:=[(92,true)]) (U:=[]) b0 c0 (.cons rfl .nil) .nil ?_
 dsimp only [aF,List.map]
 refine Rv 31 b0 rfl c0 (fun _=>Br rfl rfl)<|AG (dk b0) ?_
 obtain ⟨U3,q4⟩:=Az q0 (.a0 (.a3 (.a3 .done)))
 exact C0 true U3 q4 h
 refine Bi 8191 19 [(11,80),(12,81)] (F:=[(79,true)]) (U:=[]) b0 c0 (.cons rfl .nil) .nil ?_
 dsimp only [aF,List.map]
 refine Rv 13 b0 rfl c0 (fun _=>Br rfl rfl)<|Rv 14 b0 rfl c0 (fun _=>Aq rfl)<|Bi 131071 15 [(15,84),(16,85)] (F:=[(83,true)]) (U:=[]) b0 c0 (.cons rfl .nil) .nil ?_
 dsimp only [aF,List.map]
 refine Rv 17 b0 rfl c0 (fun _=>Br rfl rfl)<|Rv 18 b0 rfl c0 (fun _=>Aq rfl)<|Bi 4194303 10 [(19,88),(20,89),(21,90)] (F:=[(87,true)]) (U:=[]) b0 c0 (.cons rfl .nil) .nil ?_
 dsimp only [aF,List.map]
 refine Rv 22 b0 rfl c0 (fun _=>Br rfl rfl)<|Rv 23 b0 rfl c0 (fun _=>Aq rfl)<|Bi 2147483647 1 [(24,93),(25,94),(26,95),(27,96),(28,97),(29,98),(30,99)] (F:=[(92,true)]) (U:=[]) b0 c0 (.cons rfl .nil) .nil ?_
 dsimp only [aF,List.map]
 refine Rv 31 b0 rfl c0 (fun _=>Br rfl rfl)<|AG (dk b0) ?_
 obtain ⟨V3,s4⟩:=Az q0 (.a0 (.a3 (.a3 .done)))
 exact C0 true V3 s4 h
 refine Bi 511 23 [(7,76),(8,77)] (F:=[(75,true)]) (U:=[]) b0 c0 (.cons rfl .nil) .nil ?_
 dsimp only [aF,List.map]
 refine Rv 9 b0 rfl c0 (fun _=>Br rfl rfl)<|Rv 10 b0 rfl c0 (fun _=>Aq rfl)<|Bi 8191 19 [(11,80),(12,81)] (F:=[(79,true)]) (U:=[]) b0 c0 (.cons rfl .nil) .nil ?_
 dsimp only [aF,List.map]
 refine Rv 13 b0 rfl c0 (fun _=>Br rfl rfl)<|Rv 14 b0 rfl c0 (fun _=>Aq rfl)<|Bi 131071 15 [(15,84),(16,85)] (F:=[(83,true)]) (U:=[]) b0 c0 (.cons rfl .nil) .nil ?_
 dsimp only [aF,List.map]
 refine Rv 17 b0 rfl c0 (fun _=>Br rfl rfl)<|Rv 18 b0 rfl c0 (fun _=>Aq rfl)<|Bi 4194303 10 [(19,88),(20,89),(21,90)] (F:=[(87,true)]) (U:=[]) b0 c0 (.cons rfl .nil) .nil ?_
 dsimp only [aF,List.map]
 refine Rv 22 b0 rfl c0 (fun _=>Br rfl rfl)<|Rv 23 b0 rfl c0 (fun _=>Aq rfl)<|Bi 2147483647 1 [(24,93),(25,94),(26,95),(27,96),(28,97),(29,98),(30,99)] (F:=[(92,true)]) (U:=[]) b0 c0 (.cons rfl .nil) .nil ?_
 dsimp only [aF,List.map]
 refine Rv 31 b0 rfl c0 (fun _=>Br rfl rfl)<|AG (dk b0) ?_
 obtain ⟨W3,u4⟩:=Az q0 (.a0 (.a3 (.a3 .done)))
 exact C0 true W3 u4 h
 refine Bi 31 27 [(3,72),(4,73)] (F:=[(71,true)]) (U:=[]) b0 c0 (.cons rfl .nil) .nil ?_
 dsimp only [aF,List.map]
 refine Rv 5 b0 rfl c0 (fun _=>Br rfl rfl)<|Rv 6 b0 rfl c0 (fun _=>Aq rfl)<|Bi 511 23 [(7,76),(8,77)] (F:=[(75,true)]) (U:=[]) b0 c0 (.cons rfl .nil) .nil ?_
 dsimp only [aF,List.map]
 refine Rv 9 b0 rfl c0 (fun _=>Br rfl rfl)<|Rv 10 b0 rfl c0 (fun _=>Aq rfl)<|Bi 8191 19 [(11,80),(12,81)] (F:=[(79,true)]) (U:=[]) b0 c0 (.cons rfl .nil) .nil ?_
 dsimp only [aF,List.map]
 refine Rv 13 b0 rfl c0 (fun _=>Br rfl rfl)<|Rv 14 b0 rfl c0 (fun _=>Aq rfl)<|Bi 131071 15 [(15,84),(16,85)] (F:=[(83,true)]) (U:=[]) b0 c0 (.cons rfl .nil) .nil ?_
 dsimp only [aF,List.map]
 refine Rv 17 b0 rfl c0 (fun _=>Br rfl rfl)<|Rv 18 b0 rfl c0 (fun _=>Aq rfl)<|Bi 4194303 10 [(19,88),(20,89),(21,90)] (F:=[(87,true)]) (U:=[]) b0 c0 (.cons rfl .nil) .nil ?_
 dsimp only [aF,List.map]
 refine Rv 22 b0 rfl c0 (fun _=>Br rfl rfl)<|Rv 23 b0 rfl c0 (fun _=>Aq rfl)<|Bi 2147483647 1 [(24,93),(25,94),(26,95),(27,96),(28,97),(29,98),(30,99)] (F:=[(92,true)]) (U:=[]) b0 c0 (.cons rfl .nil) .nil ?_
 dsimp only [aF,List.map]
 refine Rv 31 b0 rfl c0 (fun _=>Br rfl rfl)<|AG (dk b0) ?_
 obtain ⟨X3,v4⟩:=Az q0 (.a0 (.a3 (.a3 .done)))
 exact C0 true X3 v4 h
 refine Ae<|Ag rfl<|Aa<|Ar rfl<|Be hb0 func8 rfl rfl ?_
 cases h
 exact B0.gv
end Go.Proofs.YtkommhmbkbhmlaaGreat
