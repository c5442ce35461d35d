import Derived.Test.YtkommhmbkbhmlaaGreatWX10
namespace Go.Proofs.YtkommhmbkbhmlaaGreat
open Go Go.RowKit Tryz
set_option maxRecDepth 4000
set_option maxHeartbeats 4000000

def aU_l1 (n:Nat) (a0:List Tb) (q0:Nat × Bool × (List Int) × Bool × (List Int) -> Option (Bool ⊕ (Bool × (List Int) × Bool × (List Int)))):Nat × Bool × (List Int) × Bool × (List Int) -> Option (Bool ⊕ (Bool × (List Int) × Bool × (List Int)))
  | (c0,d0,j0,g0,k0)=>(if c0 < a0.length then (a0[c0]?).bind fun s0=>(aG_p n s0).bind fun p0=>(if p0.fN.fc = true then some (.inl false) else (aX_p n (⟨(⟨d0,j0⟩:Te),(⟨g0,k0⟩:Te)⟩:Tg) p0).bind fun b0=>q0 (c0 + 1,b0.fN.fc,b0.fN.fD,b0.fD.fc,b0.fD.fD)) else some (.inr (d0,j0,g0,k0)))
def aU_p (n:Nat) (a0:List Tb):Option Bool:=
  (bE_p n).bind fun y1=>thn (am (aU_l1 n a0) n (0,y1.fN.fc,y1.fN.fD,y1.fD.fc,y1.fD.fD)) (fun (b0,d0,c0,g0)=>(bS_p n).bind fun j0=>(aJ_p n (⟨(⟨b0,d0⟩:Te),(⟨c0,g0⟩:Te)⟩:Tg) j0).bind fun k0=>some (decide (k0 = 0)))
theorem aU_c (n:Nat) {L w} (hL:hl L w) {a0:List Tb} {v0_0:Value} (h0_0:Rep.R w L [v0_0] a0)  {r:Bool} (h:aU_p n a0 = some r) :
 Cl 103 #[v0_0] w (ai w fun _ u=>u = .bool r):=by
 unfold aU_p at h
 have hS0:=AK w
 refine AL func103 rfl rfl rfl fun _ cs0 hb0=>Ae<|Ag rfl<|Aa<|Ae<|bk h fun y1 hy1 h=>jE (bd 116) rfl ap (fun p q=>bE_c n (hS0.hL hL q)  hy1) rfl fun w2 vu3 hag4 ⟨v7,v8,hu_,hr9,M0⟩=>?_
 subst hu_
 obtain ⟨hS5,hT6⟩:=hS0.agr hag4
 refine RG.nl [.bool false,vN,.bool false,vN] hS5 fun v2 y0 j1 z0=>AT [.bool y1.fN.fc,v7,.bool y1.fD.fc,v8] j1 .hd (o4 rfl (Az (Af hr9 z0)) rfl (Az (Af M0 z0))) fun z2 q1 I0=>Aa<|Aj<|Ae<|Ag rfl<|Aa<|Av<|tn h fun k2 H1 K0=>BR (α:=Nat × Bool × (List Int) × Bool × (List Int) × Value × Value) (fun ⟨b0,c0,k0,d0,p0,g0,j0⟩=>[(0,v0_0),(3,vP y0),(4,vI ((b0:Nat):Int))]) (fun ⟨b0,c0,k0,d0,p0,g0,j0⟩=>[.cells y0 [.bool c0,g0,.bool d0,j0] 144]) (fun ⟨b0,c0,k0,d0,p0,g0,j0⟩ G0=>Rep.R G0 (bl [.cells y0 [.bool c0,g0,.bool d0,j0] 144] ++ L) [g0] k0/\Rep.R G0 (bl [.cells y0 [.bool c0,g0,.bool d0,j0] 144] ++ L) [j0] p0) (fun ⟨b0,c0,k0,d0,p0,g0,j0⟩=>(b0,c0,k0,d0,p0)) (0,y1.fN.fc,y1.fN.fD,y1.fD.fc,y1.fD.fD,v7,v8) H1 q1 ⟨(Af hr9 (Tt z0 I0)),(Af M0 (Tt z0 I0))⟩ ?_
 rintro b2 ⟨b0,c0,k0,d0,p0,g0,j0⟩ G0 g1 q0 x1 ⟨P0,Q0⟩ h
 unfold aU_l1 at h
 try dsimp only at h
 refine Aj<|Ae<|Ac rfl<|Ac rfl ?_
 have E0:=AG h0_0 q0
 have j2:a0.length <= 281474976710656:=AX E0
 refine Ab (AY (xs:=a0) underlying51 rfl E0)<|Ab (AU (i:=b0) (j:=a0.length) rfl rfl)<|Aa<|AW rfl h (fun b1 h=>?_) (fun b1 h=>?_)
 refine Aq<|Aj<|Av<|Ae<|Ac rfl<|Ac rfl<|bk h fun X1 M1 h=>?_
 obtain ⟨Z1,d2,E1,F1,g2,I1,G1⟩:=Be E0 M1
 obtain rfl:=cD I1
 refine Ab (Bf 16 b0 rfl E1 rfl rfl F1)<|Ab (AA rfl G1)<|bk h fun H0 P1 h=>jE (bd 104) rfl (e1 rfl) (fun p q=>aG_c n (q0.hL hL q) X1 P1) rfl fun x2 s2 B1 ⟨V1,W1,hu_,R0,U0⟩=>?_
 subst hu_
 obtain ⟨k1,z1⟩:=q0.agr B1
 refine RG.nl [.bool false,vN,.bool false,vN] k1 fun y2 c2 p1 x0=>AT [.bool H0.fN.fc,V1,.bool H0.fD.fc,W1] p1 .hd (o4 rfl (Az (Af R0 x0)) rfl (Az (Af U0 x0))) fun A2 s0 B0=>Aa<|Aj<|Ae<|Bk 0 rfl<|Bk 0 rfl<|Bd rfl ((dm (s0.memA .hd) 0) 0 _ rfl)<|Aa<|MX.ifb rfl h (fun c1 h=>?_) (fun c1 h=>?_)
 refine Ae<|Ag rfl<|Aa ?_
 have h:=aS h K0
 refine Ar rfl<|Bb hb0 func103 rfl rfl ?_
 cases h
 exact s0.gv
 refine Aq<|Am<|Ab (AA rfl (s0.memA .t1))<|Ab (AA rfl (s0.memA .hd))<|bk h fun v0 Q1 h=>?_
 have F0:=Tt z1 (Tt x0 B0)
 refine jE (bd 110) rfl (e2 rfl rfl) (fun p q=>aX_c n (s0.hL hL q) (⟨(⟨c0,k0⟩:Te),(⟨d0,p0⟩:Te)⟩:Tg) (Ah (Af P0 F0) q) (Ah (Af Q0 F0) q) H0 (Ah (Af R0 (Tt x0 B0)) q) (Ah (Af U0 (Tt x0 B0)) q) Q1) rfl fun B2 t2 C1 ⟨X0,Y0,hu_,V0,W0⟩=>?_
 subst hu_
 obtain ⟨s1,A1⟩:=s0.agr C1
 refine AT [.bool v0.fN.fc,X0,.bool v0.fD.fc,Y0] s1 .t1 (o4 rfl (Az V0) rfl (Az W0)) fun C2 u1 C0=>Aa<|Aw<|Am<|Ac rfl<|Ab (Bc (i:=b0) (j:=1) rfl rfl (by omega))<|Ag rfl<|Aa ?_
 obtain ⟨v1,D0⟩:=AB u1 .d1
 exact g1 (b0 + 1,v0.fN.fc,v0.fN.fD,v0.fD.fc,v0.fD.fD,X0,Y0) v1 (Tt x1 (Tt F0 (Tt A1 (Tt C0 D0)))) ⟨(Af V0 (Tt C0 D0)),(Af W0 (Tt C0 D0))⟩ h
 refine Ba rfl ?_
 have h:=aY h K0
 try dsimp only at h
 refine Aj<|du 5 fun u0 A0=>Rx 0 28 u0 rfl A0 (AA rfl (q0.memA .hd))<|bk h fun Y1 R1 h=>AZ 1 3 u0 rfl .plain (bd 121) rfl ap (fun p q=>bS_c n (q0.hL hL q)  R1) rfl fun D2 u2 D1 ⟨p2,q2,hu_,J1,K1⟩=>?_
 subst hu_
 obtain ⟨t0,J0⟩:=q0.agr D1
 refine bk h fun Z0 U1 h=>RD.cq 2 7 24 (vI Z0) u0 rfl A0 (bd 120) rfl (e2 rfl rfl) (fun p q=>aJ_c n (t0.hL0 hL q) (⟨(⟨c0,k0⟩:Te),(⟨d0,p0⟩:Te)⟩:Tg) (t0.kd (Af P0 J0) q) (t0.kd (Af Q0 J0) q) Y1 (t0.kd J1 q) (t0.kd K1 q) U1) rfl<|Rv 3 u0 rfl A0 (fun _=>FV.eql (i:=Z0) (j:=0) rfl rfl)<|Rv 4 u0 rfl A0 (fun _=>Bo rfl)<|AN (dk u0)<|Ar rfl<|Bb hb0 func103 rfl rfl ?_
 cases h
 exact t0.gv
def ci_p (_n:Nat) (a0:Tg):Option Bool:=
  some (decide (a0.fN.fD.length = 0))
theorem ci_c (n:Nat) {L w} (_hL:hl L w) (a0:Tg) {v0_1:Value} (h0_1:Rep.R w L [v0_1] a0.fN.fD) {v0_3:Value} (_h0_3:Rep.R w L [v0_3] a0.fD.fD)  {r:Bool} (h:ci_p n a0 = some r) :
 Cl 105 #[.agg #[.bool a0.fN.fc,v0_1,.bool a0.fD.fc,v0_3]] w (ai w fun _ u=>u = .bool r):=by
 unfold ci_p at h
 refine AL func105 rfl rfl rfl fun _ cs0 hb0=>Ae<|RG.bx (AK w) rfl rfl fun k0 d0 b0 g0=>Ag rfl<|Aa<|Ae<|Bk 0 rfl<|Bk 1 rfl<|Bd rfl ((dm (b0.memA .hd) 0) 1 _ rfl) ?_
 have c0:=AG h0_1 b0
 have j0:a0.fN.fD.length <= 281474976710656:=AX c0
 refine Ab (AY (xs:=a0.fN.fD) underlying140 rfl c0)<|Ab (FV.eqlN (i:=a0.fN.fD.length) (j:=0) rfl rfl)<|Ag rfl<|Aa<|Ar rfl<|Bb hb0 func105 rfl rfl ?_
 cases h
 exact b0.gv
def bY_p (n:Nat) (a0:Tg) (a1:Tg):Option Tg:=
  (aC_p n a0.fN a1.fN).bind fun b0=>(aC_p n a0.fD a1.fD).bind fun c0=>(aT_p n b0 c0).bind fun d0=>some d0
theorem bY_c (n:Nat) {L w} (hL:hl L w) (a0:Tg) {v0_1:Value} (h0_1:Rep.R w L [v0_1] a0.fN.fD) {v0_3:Value} (h0_3:Rep.R w L [v0_3] a0.fD.fD) (a1:Tg) {v1_1:Value} (h1_1:Rep.R w L [v1_1] a1.fN.fD) {v1_3:Value} (h1_3:Rep.R w L [v1_3] a1.fD.fD)  {r:Tg} (h:bY_p n a0 a1 = some r) :
 Cl 107 #[.agg #[.bool a0.fN.fc,v0_1,.bool a0.fD.fc,v0_3],.agg #[.bool a1.fN.fc,v1_1,.bool a1.fD.fc,v1_3]] w (ai w fun w' u=>∃ v0_1 v0_3:Value,u = .agg #[.bool r.fN.fc,v0_1,.bool r.fD.fc,v0_3]/\Rep.R w' L [v0_1] r.fN.fD/\Rep.R w' L [v0_3] r.fD.fD):=by
 unfold bY_p at h
 refine AL func107 rfl rfl rfl fun _ cs0 hb0=>Ae<|RG.bx (AK w) rfl rfl fun g1 M0 x0 R0=>RG.bx x0 rfl rfl fun j1 P0 y0 U0=>RG.nl [.bool false,vN,.bool false,vN] y0 fun k1 Q0 c0 V0=>Aa<|Aj<|du 11 fun b0 d0=>Rv 0 b0 rfl d0 (fun _=>Bh 0 rfl)<|Rx 1 3600 b0 rfl d0 (AQ (cs:=[.bool a0.fN.fc,v0_1]) rfl rfl (ae (c0.memA .t2) 0 2))<|Rv 2 b0 rfl d0 (fun _=>Bh 0 rfl)<|Rx 3 3600 b0 rfl d0 (AQ (cs:=[.bool a1.fN.fc,v1_1]) rfl rfl (ae (c0.memA .t1) 0 2))<|Rv 5 b0 rfl d0 (fun _=>Bh 2 rfl)<|Rx 6 3584 b0 rfl d0 (AQ (cs:=[.bool a0.fD.fc,v0_3]) rfl rfl (ae (c0.memA .t2) 2 2))<|Rv 7 b0 rfl d0 (fun _=>Bh 2 rfl)<|Rx 8 3584 b0 rfl d0 (AQ (cs:=[.bool a1.fD.fc,v1_3]) rfl rfl (ae (c0.memA .t1) 2 2))<|bk h fun J0 G0 h=>AZ 4 511 b0 rfl .plain (bd 153) rfl (e2 rfl rfl) (fun p q=>aC_c n (c0.hL hL q) a0.fN (c0.km h0_1 q) a1.fN (c0.km h1_1 q) G0) rfl fun p1 b1 B0 ⟨Y0,hu_,E0⟩=>?_
 subst hu_
 obtain ⟨g0,W0⟩:=c0.agr B0
 refine bk h fun K0 H0 h=>AZ 9 1023 b0 rfl .plain (bd 153) rfl (e2 rfl rfl) (fun p q=>aC_c n (g0.hL hL q) a0.fD (g0.km h0_3 q) a1.fD (g0.km h1_3 q) H0) rfl fun q1 c1 C0 ⟨Z0,hu_,F0⟩=>?_
 subst hu_
 obtain ⟨s0,A0⟩:=g0.agr C0
 refine bk h fun k0 I0 h=>AZ 10 2047 b0 rfl .plain (bd 148) rfl (e2 rfl rfl) (fun p q=>aT_c n (s0.hL hL q) J0 (Ah (Af E0 A0) q) K0 (Ah F0 q) I0) rfl fun s1 d1 D0 ⟨p0,q0,hu_,u0,v0⟩=>?_
 subst hu_
 obtain ⟨z0,X0⟩:=s0.agr D0
 refine BC 11 4095 b0 rfl rfl .plain (AD (news:=[.bool k0.fN.fc,p0,.bool k0.fD.fc,q0]) z0 .hd rfl rfl rfl rfl rfl rfl (o4 rfl (Az u0) rfl (Az v0))) fun u1 j0 t0=>AN (dk b0)<|Ar rfl<|Au hb0 func107 rfl (.cons (.many (cs:=[.bool k0.fN.fc,p0,.bool k0.fD.fc,q0]) rfl rfl (j0.memA .hd)) .nil) rfl ?_
 cases h
 exact ⟨j0.ag,fun p q=>⟨p0,q0,rfl,j0.kd (Af u0 t0) q,j0.kd (Af v0 t0) q⟩⟩
def ac_l1 (n:Nat) (a0:List (List Ta)) (p0:Nat) (j0:Tg) (k0:(List Td) × Nat -> Option (List Td)):(List Td) × Nat -> Option (List Td)
  | (c0,b0)=>(a0[p0]?).bind fun d0=>(if b0 < d0.length then (ci_p n j0).bind fun q0=>(if q0 = true then some c0 else (d0[b0]?).bind fun g0=>(aG_p n g0.fm).bind fun s0=>(aG_p n g0.fP).bind fun t0=>(bY_p n j0 t0).bind fun u0=>(aO_p n c0 s0 u0).bind fun v0=>k0 (v0,b0 + 1)) else some c0)
def ac_l2 (n:Nat) (a0:List (List Ta)) (a1:List Tb) (d0:(List Td) × Nat -> Option (List Td)):(List Td) × Nat -> Option (List Td)
  | (c0,b0)=>(if b0 < a0.length then (a1[b0]?).bind fun j0=>(aG_p n j0).bind fun p0=>jn (fun k0=>d0 (k0,b0 + 1)) (fun g0=>Option.bind (am (ac_l1 n a0 b0 p0) n (c0,0)) (g0)) else some c0)
def ac_l3 (n:Nat) (a0:List (List Ta)) (c0:Nat -> Option (((List Ta) × Int) ⊕ Unit)):Nat -> Option (((List Ta) × Int) ⊕ Unit)
  | b0=>(if b0 < a0.length then (a0[b0]?).bind fun d0=>(aS_p n d0).bind fun g0=>(if g0 = true then c0 (b0 + 1) else some (.inl (([]:List Ta),(50:Int)))) else some (.inr ()))
def ac_p (n:Nat) (a0:List (List Ta)) (a1:List Tb):Option ((List Ta) × Int):=
  (if 40 < a0.length then some (([]:List Ta),(3:Int)) else (if 40 < a1.length then some (([]:List Ta),(3:Int)) else thn (am (ac_l3 n a0) n 0) (fun _=>(au_p n a1).bind fun d0=>(if d0 = true then (if a0.length = a1.length then (aU_p n a1).bind fun g0=>(if g0 = true then Option.bind (am (ac_l2 n a0 a1) n (([]:List Td),0)) (fun c0=>(aP_p n c0).bind fun b0=>some (b0.1,b0.2)) else some (([]:List Ta),(2:Int))) else some (([]:List Ta),(2:Int))) else some (([]:List Ta),(20:Int))))))
theorem ac_c (n:Nat) {L w} (hL:hl L w) {a0:List (List Ta)} {v0_0:Value} (h0_0:Rep.R w L [v0_0] a0) {a1:List Tb} {v1_0:Value} (h1_0:Rep.R w L [v1_0] a1)  {r:(List Ta) × Int} (h:ac_p n a0 a1 = some r) :
 Cl 38 #[v0_0,v1_0] w (ai w fun w' u=>∃ v0_0:Value,u = .tuple #[v0_0,vI r.2]/\Rep.R w' L [v0_0] r.1):=by
 unfold ac_p at h
 have hS0:=AK w
 refine AL func38 rfl rfl rfl fun _ cs0 hb0=>Ae<|Ag rfl<|Ag rfl<|Aa<|Aj<|Ae<|Ac rfl ?_
 have hl1:a0.length <= 281474976710656:=AX h0_0
 refine Ab (AY (xs:=a0) underlying57 rfl h0_0)<|Ab (FV.gtrN (i:=a0.length) (j:=40) rfl rfl)<|Ac rfl<|RG.ifd (s:=14) rfl h (fun c2 h=>?_) (fun c2 h=>?_)
 refine Ap<|Ap<|Ap<|Br rfl rfl<|Aa<|AE rfl<|Ae<|Ag rfl<|Ag rfl<|Aa<|Ar rfl ?_
 have hr3:=Bm (α:=Ta) hS0 L
 refine Au hb0 func38 rfl (.cons (.tmp rfl) (.cons (.tmp rfl) .nil)) rfl ?_
 cases h
 exact ⟨hS0.ag,fun p q=>⟨vN,rfl,hS0.kd hr3 q⟩⟩
 refine AM (Al rfl) ?_
 have hl4:a1.length <= 281474976710656:=AX h1_0
 refine AM (AY (xs:=a1) underlying51 rfl h1_0)<|AM (FV.gtrN (i:=a1.length) (j:=40) rfl rfl)<|Bs rfl rfl<|Aa<|AW rfl h (fun c5 h=>?_) (fun c5 h=>?_)
 refine Ae<|Ag rfl<|Ag rfl<|Aa<|Ar rfl ?_
 have hr6:=Bm (α:=Ta) hS0 L
 refine Au hb0 func38 rfl (.cons (.tmp rfl) (.cons (.tmp rfl) .nil)) rfl ?_
 cases h
 exact ⟨hS0.ag,fun p q=>⟨vN,rfl,hS0.kd hr6 q⟩⟩
 refine Aq<|Aj<|Ae<|Ag rfl<|Aa<|Av<|tn h fun x4 F2 u1=>MX.lo (α:=Nat) (fun q0=>[(0,v0_0),(1,v1_0),(6,vI ((q0:Nat):Int))]) (fun q0=>[]) (fun q0=>q0) 0 F2 hS0 ?_
 rintro Y3 q0 b5 R1 c0 g2 h
 unfold ac_l3 at h
 try dsimp only at h
 refine Aj<|Ae<|Ac rfl<|Ac rfl ?_
 have K0:=AG h0_0 c0
 refine Ab (AY (xs:=a0) underlying57 rfl K0)<|Ab (AU (i:=q0) (j:=a0.length) rfl rfl)<|Aa<|AW rfl h (fun G1 h=>?_) (fun G1 h=>?_)
 refine Aq<|Aj<|Av<|Ae<|Ac rfl<|Ac rfl<|bk h fun d5 k3 h=>?_
 obtain ⟨U3,d4,y2,B2,p4,I2,D2⟩:=Be K0 k3
 obtain ⟨z4,rfl,J2⟩:=bG I2
 refine Ab (Bf 1 q0 rfl y2 rfl rfl B2)<|Bd rfl (D2 0 _ rfl)<|bk h fun G3 t3 h=>Bj (.bool G3) (bd 101) rfl (e1 rfl) (fun p q=>aS_c n (c0.hL0 hL q) (c0.kd J2 q) t3) rfl<|Ab (Bz rfl)<|Aa<|MX.ifnb rfl h (fun H1 h=>?_) (fun H1 h=>?_)
 refine Aq<|Aw<|Am<|Ac rfl<|Ab (Bc (i:=q0) (j:=1) rfl rfl (by omega))<|Ag rfl<|Aa<|R1 (q0 + 1) c0 g2 h
 refine Ae<|Ag rfl<|Ag rfl<|Aa ?_
 have h:=aS h u1
 refine Ar rfl ?_
 have K2:=Bm (α:=Ta) c0 L
 refine Au hb0 func38 rfl (.cons (.tmp rfl) (.cons (.tmp rfl) .nil)) rfl ?_
 cases h
 exact ⟨c0.ag,fun p q=>⟨vN,rfl,c0.kd K2 q⟩⟩
 refine Ba rfl ?_
 have h:=aY h u1
 try dsimp only at h
 refine Aj<|Ae<|Ac rfl<|bk h fun H3 u3 h=>Bj (.bool H3) (bd 102) rfl (e1 rfl) (fun p q=>au_c n (c0.hL0 hL q) (c0.k0 h1_0 q) u3) rfl<|Ab (Bz rfl)<|Aa<|MX.ifnb rfl h (fun I1 h=>?_) (fun I1 h=>?_)
 refine Aq<|Aj<|Ae<|Ac rfl<|Ab (AY (xs:=a0) underlying57 rfl K0)<|Ac rfl<|Ab (AY (xs:=a1) underlying51 rfl (AG h1_0 c0))<|Ab (FV.neqN (i:=a0.length) (j:=a1.length) rfl rfl)<|Ac rfl<|RG.ifn (s:=39) rfl h (fun J1 h=>?_) (fun J1 h=>?_)
 refine AM (Al rfl)<|bk h fun I3 v3 h=>BG (v:=.bool I3) (fst:=[]) (cap:=[]) (.yes rfl rfl) (bd 103) rfl (e1 rfl) (fun p q=>aU_c n (c0.hL0 hL q) (c0.k0 h1_0 q) v3) rfl<|AM (Bz rfl)<|Bs rfl rfl<|Aa<|MX.ifnb rfl h (fun K1 h=>?_) (fun K1 h=>?_)
 refine Aq<|Ae<|Ag rfl<|Aa<|Aj<|Ae<|Ag rfl<|Aa<|Av ?_
 obtain ⟨v4,E2,z2⟩:=ao h
 refine BR (α:=(List Td) × Nat × Value) (fun ⟨y0,g0,v0⟩=>[(0,v0_0),(1,v1_0),(7,v0),(8,vI ((g0:Nat):Int))]) (fun ⟨y0,g0,v0⟩=>[]) (fun ⟨y0,g0,v0⟩ C1=>Rep.R C1 (bl [] ++ L) [v0] y0) (fun ⟨y0,g0,v0⟩=>(y0,g0)) (([]:List Td),0,vN) E2 c0 (Bm (α:=Td) c0 L) ?_
 rintro X3 ⟨y0,g0,v0⟩ C1 Q1 A0 d2 B1 h
 unfold ac_l2 at h
 try dsimp only at h
 refine Aj<|Ae<|Ac rfl<|Ac rfl<|Ab (AY (xs:=a0) underlying57 rfl (AG h0_0 A0))<|Ab (AU (i:=g0) (j:=a0.length) rfl rfl)<|Aa<|AW rfl h (fun F1 h=>?_) (fun F1 h=>?_)
 refine Aq<|Aj<|Av<|Ae<|Ac rfl<|Ac rfl<|bk h fun F3 j3 h=>?_
 obtain ⟨R3,c4,x2,A2,k4,H2,C2⟩:=Be (AG h1_0 A0) j3
 obtain rfl:=cD H2
 refine Ab (Bf 16 g0 rfl x2 rfl rfl A2)<|Ab (AA rfl C2)<|bk h fun u0 s3 h=>jE (bd 104) rfl (e1 rfl) (fun p q=>aG_c n (A0.hL hL q) F3 s3) rfl fun Q4 I4 p2 ⟨W0,X0,hu_,Q0,R0⟩=>?_
 subst hu_
 obtain ⟨V1,k1⟩:=A0.agr p2
 refine RG.nl [.bool false,vN,.bool false,vN] V1 fun R4 F0 W1 B0=>AT [.bool u0.fN.fc,W0,.bool u0.fD.fc,X0] W1 .hd (o4 rfl (Az (Af Q0 B0)) rfl (Az (Af R0 B0))) fun U4 b1 G0=>Aa<|Ae<|Ag rfl<|Aa<|Av<|MX.xf (α:=(List Td) × Value) 4 (fun ⟨z0,x0⟩=>[(0,v0_0),(1,v1_0),(7,x0),(8,vI ((g0:Nat):Int))]) (fun ⟨z0,x0⟩=>[]) (fun ⟨z0,x0⟩ D1=>Rep.R D1 (bl [] ++ L) [x0] z0) (fun ⟨z0,x0⟩=>z0) b1 rfl h ?_ ?_
 rintro ⟨z0,x0⟩ D1 X1 j2 M2 h
 try dsimp only at h
 refine Aw<|Am<|Ac rfl<|Ab (Bc (i:=g0) (j:=1) rfl rfl (by omega))<|Ag rfl<|Aa<|Q1 (z0,g0 + 1,x0) X1 (Tt d2 (Tt k1 (Tt B0 (Tt G0 j2)))) M2 h
 intro Z3 Z0 h
 try dsimp only at h
 obtain ⟨y4,G2,v1⟩:=ao h
 refine BR (α:=(List Td) × Nat × Value) (fun ⟨t0,j0,s0⟩=>[(0,v0_0),(1,v1_0),(7,s0),(8,vI ((g0:Nat):Int)),(9,vP F0),(10,vI ((j0:Nat):Int))]) (fun ⟨t0,j0,s0⟩=>[.cells F0 [.bool u0.fN.fc,W0,.bool u0.fD.fc,X0] 144]) (fun ⟨t0,j0,s0⟩ E1=>Rep.R E1 (bl [.cells F0 [.bool u0.fN.fc,W0,.bool u0.fD.fc,X0] 144] ++ L) [s0] t0) (fun ⟨t0,j0,s0⟩=>(t0,j0)) (y0,0,v0) G2 b1 (Af B1 (Tt k1 (Tt B0 G0))) ?_
 rintro b4 ⟨t0,j0,s0⟩ E1 U1 p0 C0 U0 h
 unfold ac_l1 at h
 try dsimp only at h
 refine Aj<|Ae<|Ac rfl<|Ac rfl<|Ac rfl<|bk h fun Y0 p3 h=>?_
 obtain ⟨V3,g4,I0,J0,q4,P2,M0⟩:=Be (AG h0_0 p0) p3
 obtain ⟨A4,rfl,V0⟩:=bG P2
 refine Ab (Bf 1 g0 rfl I0 rfl rfl J0)<|Bd rfl (M0 0 _ rfl) ?_
 have u4:Y0.length <= 281474976710656:=AX V0
 refine Ab (AY (xs:=Y0) underlying24 rfl V0)<|Ab (AU (i:=j0) (j:=Y0.length) rfl rfl)<|Ac rfl<|RG.ifd (s:=62) rfl h (fun M1 h=>?_) (fun M1 h=>?_)
 refine AM (AA rfl (p0.memA .hd))<|bk h fun J3 x3 h=>?_
 have P0:=Tt B0 (Tt G0 C0)
 refine BG (v:=.bool J3) (fst:=[]) (cap:=[]) (.yes rfl rfl) (bd 105) rfl (e1 rfl) (fun p q=>ci_c n (p0.hL0 hL q) u0 (p0.kd (Af Q0 P0) q) (p0.kd (Af R0 P0) q) x3) rfl<|AM (Bz rfl)<|Br rfl rfl<|Aa<|MX.ifnb rfl h (fun P1 h=>?_) (fun P1 h=>?_)
 refine Ba rfl ?_
 have h:=v1 _ h
 try dsimp only at h
 obtain ⟨Y1,p1⟩:=AB p0 .done
 exact Z0 (t0,s0) Y1 (Tt C0 p1) (Af U0 p1) h
 refine Aq<|Aj<|Av<|du 23 fun b0 d0=>Rv 0 b0 rfl d0 (fun _=>Al rfl)<|Rv 1 b0 rfl d0 (fun _=>Al rfl)<|Rv 2 b0 rfl d0 (fun _=>Al rfl)<|Rv 3 b0 rfl d0 (fun _=>Bf 1 g0 rfl I0 rfl rfl J0)<|Rx 4 7865280 b0 rfl d0 (Bn rfl (M0 0 _ rfl))<|Rv 5 b0 rfl d0 (fun _=>Al rfl)<|bk h fun E0 q3 h=>?_
 obtain ⟨W3,j4,t1,x1,s4,Q2,y1⟩:=Be V0 q3
 obtain rfl:=aF Q2
 refine Rv 6 b0 rfl d0 (fun _=>Bf 32 j0 rfl t1 rfl rfl x1)<|Rv 7 b0 rfl d0 (fun _=>Bh 0 rfl)<|Rx 8 7864832 b0 rfl d0 (AQ (cs:=(ab E0.fm)) rfl rfl (ae y1 0 16))<|Rx 10 7340032 b0 rfl d0 (AA rfl (p0.memA .hd))<|Rv 11 b0 rfl d0 (fun _=>Al rfl)<|Rv 12 b0 rfl d0 (fun _=>Al rfl)<|Rv 13 b0 rfl d0 (fun _=>Bf 1 g0 rfl I0 rfl rfl J0)<|Rx 14 8323072 b0 rfl d0 (Bn rfl (M0 0 _ rfl))<|Rv 15 b0 rfl d0 (fun _=>Al rfl)<|Rv 16 b0 rfl d0 (fun _=>Bf 32 j0 rfl t1 rfl rfl x1)<|Rv 17 b0 rfl d0 (fun _=>Bh 16 rfl)<|Rx 18 7864320 b0 rfl d0 (AQ (cs:=(ab E0.fP)) rfl rfl (ae y1 16 16))<|bk h fun K3 y3 h=>AZ 9 524287 b0 rfl .plain (bd 104) rfl (e1 rfl) (fun p q=>aG_c n (p0.hL hL q) E0.fm y3) rfl fun V4 J4 q2 ⟨B4,C4,hu_,R2,U2⟩=>?_
 subst hu_
 obtain ⟨c1,q1⟩:=p0.agr q2
 refine bk h fun M3 z3 h=>AZ 19 1048575 b0 rfl .plain (bd 104) rfl (e1 rfl) (fun p q=>aG_c n (c1.hL hL q) E0.fP z3) rfl fun W4 K4 s2 ⟨D4,E4,hu_,V2,W2⟩=>?_
 subst hu_
 obtain ⟨d1,D0⟩:=c1.agr s2
 refine bk h fun P3 A3 h=>?_
 have z1:=Tt P0 (Tt q1 D0)
 refine AZ 20 2097151 b0 rfl .plain (bd 107) rfl (e2 rfl rfl) (fun p q=>bY_c n (d1.hL hL q) u0 (Ah (Af Q0 z1) q) (Ah (Af R0 z1) q) M3 (Ah V2 q) (Ah W2 q) A3) rfl fun X4 M4 t2 ⟨F4,G4,hu_,X2,Y2⟩=>?_
 subst hu_
 obtain ⟨g1,H0⟩:=d1.agr t2
 refine bk h fun Q3 B3 h=>?_
 have A1:=Tt q1 (Tt D0 H0)
 refine AZ 21 4194303 b0 rfl .plain (bd 106) rfl (e3 rfl rfl rfl) (fun p q=>aO_c n (g1.hL hL q) (Ah (Af U0 A1) q) K3 (Ah (Af R2 (Tt D0 H0)) q) (Ah (Af U2 (Tt D0 H0)) q) P3 (Ah X2 q) (Ah Y2 q) B3) rfl fun Y4 E3 u2 ⟨H4,hu_,Z2⟩=>?_
 subst hu_
 obtain ⟨Z1,k2⟩:=g1.agr u2
 refine Rv 22 b0 rfl d0 (fun _=>Bo rfl)<|AN (dk b0)<|Aw<|Am<|Ac rfl<|Ab (Bc (i:=j0) (j:=1) rfl rfl (by omega))<|Ag rfl<|Aa<|U1 (Q3,j0 + 1,E3) Z1 (Tt C0 (Tt A1 k2)) Z2 h
 refine Ap<|Ap<|Ap<|Bs rfl rfl<|Aa<|Bv rfl<|Ba rfl ?_
 have h:=v1 _ h
 try dsimp only at h
 obtain ⟨b2,s1⟩:=AB p0 .done
 exact Z0 (t0,s0) b2 (Tt C0 s1) (Af U0 s1) h
 refine Ba rfl ?_
 have h:=z2 _ h
 try dsimp only at h
 refine Ae<|Ac rfl<|bk h fun g5 C3 h=>jE (bd 108) rfl (e1 rfl) (fun p q=>aP_c n (A0.hL hL q) (Ah B1 q) C3) rfl fun Z4 P4 v2 ⟨D3,hu_,b3⟩=>?_
 subst hu_
 obtain ⟨j1,t4⟩:=A0.agr v2
 refine Ab (Ai rfl rfl)<|Ab (Ai rfl rfl)<|Ag rfl<|Ag rfl<|Aa<|Ar rfl<|Au hb0 func38 rfl (.cons (.tmp rfl) (.cons (.tmp rfl) .nil)) rfl ?_
 cases h
 exact ⟨j1.ag,fun p q=>⟨D3,rfl,j1.kd b3 q⟩⟩
 refine Ae<|Ag rfl<|Ag rfl<|Aa<|Ar rfl ?_
 have c3:=Bm (α:=Ta) c0 L
 refine Au hb0 func38 rfl (.cons (.tmp rfl) (.cons (.tmp rfl) .nil)) rfl ?_
 cases h
 exact ⟨c0.ag,fun p q=>⟨vN,rfl,c0.kd c3 q⟩⟩
 refine Ap<|Ap<|Ap<|Br rfl rfl<|Aa<|AE rfl<|Ae<|Ag rfl<|Ag rfl<|Aa<|Ar rfl ?_
 have d3:=Bm (α:=Ta) c0 L
 refine Au hb0 func38 rfl (.cons (.tmp rfl) (.cons (.tmp rfl) .nil)) rfl ?_
 cases h
 exact ⟨c0.ag,fun p q=>⟨vN,rfl,c0.kd d3 q⟩⟩
 refine Ae<|Ag rfl<|Ag rfl<|Aa<|Ar rfl ?_
 have g3:=Bm (α:=Ta) c0 L
 refine Au hb0 func38 rfl (.cons (.tmp rfl) (.cons (.tmp rfl) .nil)) rfl ?_
 cases h
 exact ⟨c0.ag,fun p q=>⟨vN,rfl,c0.kd g3 q⟩⟩
def aj_l1 (_n:Nat) (a0:List Ta) (a1:List Ta) (c0:Nat -> Option (Bool ⊕ Unit)):Nat -> Option (Bool ⊕ Unit)
  | b0=>(if b0 < a0.length then (a0[b0]?).bind fun d0=>(a1[b0]?).bind fun g0=>(if d0 = g0 then c0 (b0 + 1) else some (.inl false)) else some (.inr ()))
def aj_p (n:Nat) (a0:List Ta) (a1:List Ta):Option Bool:=
  (if a0.length = a1.length then thn (am (aj_l1 n a0 a1) n 0) (fun _=>some true) else some false)
theorem aj_c (n:Nat) {L w} (_hL:hl L w) {a0:List Ta} {v0_0:Value} (h0_0:Rep.R w L [v0_0] a0) {a1:List Ta} {v1_0:Value} (h1_0:Rep.R w L [v1_0] a1)  {r:Bool} (h:aj_p n a0 a1 = some r) :
 Cl 39 #[v0_0,v1_0] w (ai w fun _ u=>u = .bool r):=by
 unfold aj_p at h
 have hS0:=AK w
 refine AL func39 rfl rfl rfl fun _ cs0 hb0=>Ae<|Ag rfl<|Aa<|Aj<|Ae<|Ac rfl ?_
 have hl1:a0.length <= 281474976710656:=AX h0_0
 refine Ab (AY (xs:=a0) underlying24 rfl h0_0)<|Ac rfl ?_
 have hl2:a1.length <= 281474976710656:=AX h1_0
 refine Ab (AY (xs:=a1) underlying24 rfl h1_0)<|Ab (FV.neqN (i:=a0.length) (j:=a1.length) rfl rfl)<|Aa<|BI rfl h (fun c3 h=>?_) (fun c3 h=>?_)
 refine Aq<|Aj<|Ae<|Ag rfl<|Aa<|Av<|tn h fun U0 D0 j0=>MX.lo (α:=Nat) (fun b0=>[(0,v0_0),(1,v1_0),(5,vI ((b0:Nat):Int))]) (fun b0=>[]) (fun b0=>b0) 0 D0 hS0 ?_
 rintro K0 b0 V0 u0 g0 v0 h
 unfold aj_l1 at h
 try dsimp only at h
 refine Aj<|Ae<|Ac rfl<|Ac rfl ?_
 have k0:=AG h0_0 g0
 refine Ab (AY (xs:=a0) underlying24 rfl k0)<|Ab (AU (i:=b0) (j:=a0.length) rfl rfl)<|Aa<|AW rfl h (fun s0 h=>?_) (fun s0 h=>?_)
 refine Aq<|Aj<|Av<|Aj<|du 9 fun c0 d0=>Rv 0 c0 rfl d0 (fun _=>Al rfl)<|Rv 1 c0 rfl d0 (fun _=>Al rfl)<|bk h fun p0 G0 h=>?_
 obtain ⟨I0,M0,x0,z0,Q0,E0,B0⟩:=Be k0 G0
 obtain rfl:=aF E0
 refine Rv 2 c0 rfl d0 (fun _=>Bf 32 b0 rfl x0 rfl rfl z0)<|Rx 3 256 c0 rfl d0 (AA rfl B0)<|Rv 4 c0 rfl d0 (fun _=>Al rfl)<|Rv 5 c0 rfl d0 (fun _=>Al rfl)<|bk h fun q0 H0 h=>?_
 obtain ⟨J0,P0,y0,A0,R0,F0,C0⟩:=Be (AG h1_0 g0) H0
 obtain rfl:=aF F0
 refine Rv 6 c0 rfl d0 (fun _=>Bf 32 b0 rfl y0 rfl rfl A0)<|Rx 7 256 c0 rfl d0 (AA rfl C0)<|Rv 8 c0 rfl d0 (fun _=>FV.neqV (xs:=((au p0)).toArray) (ys:=((au q0)).toArray) rfl rfl (by kernel_rfl) (my p0 q0))<|AN (dk c0)<|BI rfl h (fun t0 h=>?_) (fun t0 h=>?_)
 refine Aq<|Aw<|Am<|Ac rfl<|Ab (Bc (i:=b0) (j:=1) rfl rfl (by omega))<|Ag rfl<|Aa<|u0 (b0 + 1) g0 v0 h
 refine Ae<|Ag rfl<|Aa ?_
 have h:=aS h j0
 refine Ar rfl<|Bb hb0 func39 rfl rfl ?_
 cases h
 exact g0.gv
 refine Ba rfl ?_
 have h:=aY h j0
 try dsimp only at h
 refine Ae<|Ag rfl<|Aa<|Ar rfl<|Bb hb0 func39 rfl rfl ?_
 cases h
 exact g0.gv
 refine Ae<|Ag rfl<|Aa<|Ar rfl<|Bb hb0 func39 rfl rfl ?_
 cases h
 exact hS0.gv
theorem op_Th {w:World} {L:List Nat} {cs:List Value} {x:Th} (h:Rep.R w L cs x):∃ v0:Value,cs = [v0]/\Rep.R w L [v0] x.fL:=by
  obtain ⟨v0,rfl,kv0⟩:=bG (xs:=x.fL) h
  exact ⟨v0,rfl,kv0⟩
def am_l1 (n:Nat) (j0:List Th) (y0:Int) (a4:List UInt8) (k0:Nat × (List Tb) × (List (List Ta)) -> Option ((List (List Ta)) × (List Tb))):Nat × (List Tb) × (List (List Ta)) -> Option ((List (List Ta)) × (List Tb))
  | (b0,d0,g0)=>(if b0 < j0.length then (j0[b0]?).bind fun q0=>(aI_p n q0).bind fun v0=>(app g0 ([v0]:List (List Ta))).bind fun t0=>jn (fun p0=>(bO_p n ((p0:Nat):Int) (max y0 1)).bind fun x0=>(app d0 ([x0.1]:List Tb)).bind fun u0=>k0 (b0 + 1,u0,t0)) (fun c0=>(if b0 < a4.length then (a4[b0]?).bind fun s0=>c0 s0.toNat else c0 0)) else some (g0,d0))
def am_l2 (_n:Nat) (c0:List UInt8) (g0:Int × Nat -> Option Int):Int × Nat -> Option Int
  | (d0,b0)=>(if b0 < c0.length then (c0[b0]?).bind fun k0=>(chk (d0 + ((k0.toNat:Nat):Int))).bind fun j0=>g0 (j0,b0 + 1) else some d0)
def am_p (n:Nat) (a0:List Ta) (a1:List Th) (a2:TBend) (a3:List Tb) (a4:List UInt8):Option Bool:=
  (cq_p n).bind fun V0=>(if V0 = true then (cut a4 0 ((min a4.length 4:Nat):Int)).bind fun Q0=>Option.bind (am (am_l2 n Q0) n (0,0)) (fun p1=>(cut a1 0 ((min a1.length 4:Nat):Int)).bind fun R0=>Option.bind (am (am_l1 n R0 p1 a4) n (0,([]:List Tb),([]:List (List Ta)))) (fun (b0,c0)=>(aY_p n b0).bind fun j0=>jn (fun d0=>(bD_p n a0).bind fun g0=>(cut a3 0 ((min a3.length 4:Nat):Int)).bind fun p0=>(ai_p n b0 p0).bind fun t0=>(ac_p n b0 p0).bind fun u0=>(aj_p n t0.1 u0.1).bind fun W0=>(if W0 = true then (if t0.2 = u0.2 then (ai_p n b0 c0).bind fun v0=>(ac_p n b0 c0).bind fun x0=>(aj_p n v0.1 x0.1).bind fun X0=>(if X0 = true then (if v0.2 = x0.2 then (ai_p n b0 ([a2.fA]:List Tb)).bind fun y0=>(ac_p n b0 ([a2.fA]:List Tb)).bind fun z0=>(aj_p n y0.1 z0.1).bind fun Y0=>(if Y0 = true then (if y0.2 = z0.2 then (cut a3 0 ((min a3.length 4:Nat):Int)).bind fun q0=>(ai_p n d0 q0).bind fun A0=>(ac_p n d0 q0).bind fun B0=>(aj_p n A0.1 B0.1).bind fun Z0=>(if Z0 = true then (if A0.2 = B0.2 then (ai_p n d0 c0).bind fun C0=>(ac_p n d0 c0).bind fun D0=>(aj_p n C0.1 D0.1).bind fun b1=>(if b1 = true then (if C0.2 = D0.2 then (ai_p n d0 ([a2.fA]:List Tb)).bind fun E0=>(ac_p n d0 ([a2.fA]:List Tb)).bind fun F0=>(aj_p n E0.1 F0.1).bind fun c1=>(if c1 = true then (if E0.2 = F0.2 then (cut a3 0 ((min a3.length 4:Nat):Int)).bind fun s0=>(ai_p n ([g0]:List (List Ta)) s0).bind fun G0=>(ac_p n ([g0]:List (List Ta)) s0).bind fun H0=>(aj_p n G0.1 H0.1).bind fun d1=>(if d1 = true then (if G0.2 = H0.2 then (ai_p n ([g0]:List (List Ta)) c0).bind fun I0=>(ac_p n ([g0]:List (List Ta)) c0).bind fun J0=>(aj_p n I0.1 J0.1).bind fun g1=>(if g1 = true then (if I0.2 = J0.2 then (ai_p n ([g0]:List (List Ta)) ([a2.fA]:List Tb)).bind fun K0=>(ac_p n ([g0]:List (List Ta)) ([a2.fA]:List Tb)).bind fun M0=>(aj_p n K0.1 M0.1).bind fun j1=>(if j1 = true then (if K0.2 = M0.2 then some true else some false) else some false) else some false) else some false) else some false) else some false) else some false) else some false) else some false) else some false) else some false) else some false) else some false) else some false) else some false) else some false) else some false) else some false)) (fun k0=>(if 0 < j0.length then (j0[0]?).bind fun P0=>(bR_p n a2 P0).bind fun k1=>(put j0 ((0:Nat):Int) k1).bind fun U0=>k0 U0 else k0 j0)))) else some false)
theorem am_c (n:Nat) {L w} (hL:hl L w) {a0:List Ta} {v0_0:Value} (h0_0:Rep.R w L [v0_0] a0) {a1:List Th} {v1_0:Value} (h1_0:Rep.R w L [v1_0] a1) (a2:TBend) {a3:List Tb} {v3_0:Value} (h3_0:Rep.R w L [v3_0] a3) {a4:List UInt8} {v4_0:Value} (h4_0:Rep.R w L [v4_0] a4)  {r:Bool} (h:am_p n a0 a1 a2 a3 a4 = some r) :
 Cl 4 #[v0_0,v1_0,.agg ((bK a2)).toArray,v3_0,v4_0] w (ai w fun _ u=>u = .bool r):=by
 unfold am_p at h
 refine AL func4 rfl rfl rfl fun _ cs0 hb0=>Ae<|RG.bx (AK w) rfl rfl fun w11 t0 Q1 t02=>Ag rfl<|Aa<|Aj<|Ae<|bk h fun y15 p9 h=>Bj (.bool y15) (bd 12) rfl ap (fun p q=>cq_c n (Q1.hL0 hL q)  p9) rfl<|Ab (Bz rfl)<|Aa<|MX.ifnb rfl h (fun u5 h=>?_) (fun u5 h=>?_)
 refine Aq<|Ae<|Ag rfl<|Aa<|Ae<|Ag rfl<|Aa<|Ae<|Ag rfl<|Aa<|Aj<|Ae<|Ac rfl<|Ac rfl ?_
 have Z2:=AG h4_0 Q1
 have v02:a4.length <= 281474976710656:=AX Z2
 refine Ab (AY (xs:=a4) underlying63 rfl Z2)<|Ab (FV.min2N (i:=a4.length) (j:=4) rfl rfl)<|bk h fun v2 Y8 h=>RG.valE .plain rfl (FV.cutL (α:=UInt8) Y8 rfl rfl Z2 rfl ⟨_,rfl⟩) fun v20 s3=>?_
 have x02:v2.length <= 281474976710656:=AX s3
 refine Ab (AY (xs:=v2) underlying63 rfl s3)<|Ac rfl<|Aa<|Av ?_
 obtain ⟨o66,V7,H7⟩:=ao h
 refine MX.lo (α:=Int × Nat) (fun ⟨F0,C0⟩=>[(0,v0_0),(1,v1_0),(3,v3_0),(4,v4_0),(7,vP t0),(11,vN),(12,vN),(13,vI F0),(36,v20),(37,vI ((v2.length:Nat):Int)),(38,vI ((C0:Nat):Int))]) (fun ⟨F0,C0⟩=>[.cells t0 (bK a2) 62]) (fun ⟨F0,C0⟩=>(F0,C0)) (0,0) V7 Q1 ?_
 rintro J68 ⟨F0,C0⟩ V04 d6 W1 q4 h
 unfold am_l2 at h
 try dsimp only at h
 refine Ae<|Ab (AU (i:=C0) (j:=v2.length) rfl rfl)<|Aa<|Aj<|AW rfl h (fun E5 h=>?_) (fun E5 h=>?_)
 refine Aq<|Aj<|Av<|Ae<|bk h fun u2 X8 h=>?_
 obtain ⟨A72,c73,D7,K7,Z5,t8,Q7⟩:=Be (Af s3 q4) X8
 have E7:Z5 = [.int .u8 (u2.toNat:Int)]:=t8; subst E7
 refine Ab (Bf 1 C0 rfl D7 rfl rfl K7)<|Bd rfl (Q7 0 _ rfl)<|Ag rfl<|Aa<|Am<|Ac rfl<|Ac rfl ?_
 have F02:=u2.toNat_lt
 refine Ab (FV.convN (i:=u2.toNat) underlying5 underlying3 rfl (by omega))<|bk h fun s82 G8 h=>Ab (FV.addc (i:=F0) (j:=((u2.toNat:Nat):Int)) rfl rfl G8)<|Ag rfl<|Aa<|Aw<|Am<|Ab (Bc (i:=C0) (j:=1) rfl rfl (by omega))<|Ac rfl<|Aa<|d6 (s82,C0 + 1) W1 q4 h
 refine Ba rfl ?_
 have h:=H7 _ h
 try dsimp only at h
 refine Aj<|Ae<|Ac rfl<|Ac rfl ?_
 have c3:=AG h1_0 W1
 have A02:a1.length <= 281474976710656:=AX c3
 refine Ab (AY (xs:=a1) underlying60 rfl c3)<|Ab (FV.min2N (i:=a1.length) (j:=4) rfl rfl)<|bk h fun P1 j9 h=>RG.valE .plain rfl (FV.cutL (α:=Th) j9 rfl rfl c3 rfl ⟨_,rfl⟩) fun g5 x3=>?_
 have B02:P1.length <= 281474976710656:=AX x3
 refine Ab (AY (xs:=P1) underlying60 rfl x3)<|Ac rfl<|Aa<|Av ?_
 have I2:=W1.nilRow 24 (Rep.size (List Ta))
 have W3:=I2.nilRow 34 (Rep.size Tb)
 have v4:=BT I2 34 (Rep.size Tb)
 obtain ⟨G02,U7,G7⟩:=ao h
 refine BR (α:=Nat × (List Tb) × (List (List Ta)) × Value × (List Value) × Value × (List Value)) (fun ⟨g0,j0,B0,c0,u0,d0,G0⟩=>[(0,v0_0),(3,v3_0),(4,v4_0),(7,vP t0),(11,d0),(12,c0),(13,vI F0),(51,g5),(52,vI ((P1.length:Nat):Int)),(53,vI ((g0:Nat):Int))]) (fun ⟨g0,j0,B0,c0,u0,d0,G0⟩=>[rr w 34 Tb c0 j0.length u0,rr w 24 (List Ta) d0 B0.length G0,.cells t0 (bK a2) 62]) (fun ⟨g0,j0,B0,c0,u0,d0,G0⟩ z3=>Cells z3 (bl [rr w 34 Tb c0 j0.length u0,rr w 24 (List Ta) d0 B0.length G0,.cells t0 (bK a2) 62] ++ L) u0 j0/\Cells z3 (bl [rr w 34 Tb c0 j0.length u0,rr w 24 (List Ta) d0 B0.length G0,.cells t0 (bK a2) 62] ++ L) G0 B0) (fun ⟨g0,j0,B0,c0,u0,d0,G0⟩=>(g0,j0,B0)) (0,([]:List Tb),([]:List (List Ta)),vN,[],vN,[]) U7 W3 ⟨(AJ (cs:=[]) (xs:=([]:List Tb)) W3 L (AR _ _)),(AO (AJ (cs:=[]) (xs:=([]:List (List Ta))) I2 L (AR _ _)) v4)⟩ ?_
 rintro B01 ⟨g0,j0,B0,c0,u0,d0,G0⟩ z3 c6 R1 X3 ⟨x4,y4⟩ h
 unfold am_l1 at h
 try dsimp only at h
 refine Ae<|Ab (AU (i:=g0) (j:=P1.length) rfl rfl)<|Aa<|Aj<|AW rfl h (fun v5 h=>?_) (fun v5 h=>?_)
 refine Aq<|Aj<|Av<|Ae<|Ac rfl<|bk h fun q00 V8 h=>?_
 obtain ⟨d01,J01,x7,I7,p02,W7,M7⟩:=Be (Af x3 (Tt (BT W1 24 (Rep.size (List Ta))) (Tt v4 X3))) V8
 obtain ⟨k00,rfl,R4⟩:=op_Th W7
 refine Ab (Bf 1 g0 rfl x7 rfl rfl I7)<|Ab (AA rfl M7)<|RG.nl [vN] R1 fun V03 F01 g6 Z1=>Ag rfl<|AT [k00] g6 .hd (o1 (Az (Af R4 Z1))) fun W03 y2 K2=>Aa<|Ae<|Ac rfl<|Ab (AA rfl (y2.memA .hd))<|bk h fun A3 q9 h=>jE (bd 33) rfl (e1 rfl) (fun p q=>aI_c n (y2.hL hL q) q00 (Ah (Af R4 (Tt Z1 K2)) q) q9) rfl fun X03 p2 D6 ⟨I02,hu_,U4⟩=>?_
 subst hu_
 obtain ⟨j6,Y3⟩:=y2.agr D6
 obtain ⟨g01,K01,I8,_⟩:=Bi U4
 refine Ao .plain rfl (AV (α:=List Ta) (xs:=([A3]:List (List Ta))) (vs:=[p2]) (ds' :=[p2]) rfl j6 gu rfl (e1 rfl) (by rw [I8]; try kernel_rfl) rfl) fun Y03 G01 z2 M2=>bk h fun k5 Z8 h=>?_
 have H4:=Tt Z1 (Tt K2 (Tt Y3 M2))
 refine BA .plain rfl (Bl (α:=List Ta) (ys:=([A3]:List (List Ta))) Z8 z2 (fun _ _=>.t3) gu rfl rfl (AO y4 H4) (BH (α:=List Ta) z2 .hd (AJ (cs:=[p2]) (xs:=(([A3]:List (List Ta)):List (List Ta))) z2 L (AC (cs:=[p2]) (ds:=[]) (Af U4 M2) (AR _ _))))) fun y3 Z03 ⟨C3,U1,Z3,g7⟩=>Ag rfl<|Aa<|Ae<|Ag rfl<|Aa<|Aj<|Ae<|Ac rfl<|Ac rfl ?_
 have C4:=AG h4_0 U1
 refine Ab (AY (xs:=a4) underlying63 rfl C4)<|Ab (AU (i:=g0) (j:=a4.length) rfl rfl)<|Aa<|MX.jo (α:=Nat) (fun I1=>[(0,v0_0),(3,v3_0),(4,v4_0),(7,vP t0),(11,y3),(12,c0),(13,vI F0),(51,g5),(52,vI ((P1.length:Nat):Int)),(53,vI ((g0:Nat):Int)),(18,vI ((I1:Nat):Int))]) (fun I1=>[rr w 34 Tb c0 j0.length u0,rr w 24 (List Ta) y3 k5.length C3,.cells t0 (bK a2) 62]) (fun I1=>I1) U1 h ?_ ?_
 rintro I1 U04 G3 b4 h
 try dsimp only at h
 refine Ae<|Ac rfl<|Ac rfl<|Ab (FV.max2 (i:=F0) (j:=1) rfl rfl)<|bk h fun s0 s9 h=>Bj (.tuple #[.agg ((ab s0.1)).toArray,vI s0.2]) (bd 34) rfl (e2 rfl rfl) (fun p q=>bO_c n (G3.hL0 hL q)  s9) rfl<|Ac rfl<|Ab (Ai rfl rfl)<|Ab (Ai rfl rfl)<|RG.nl zL G3 fun b04 H01 k6 c4=>AT (ab s0.1) k6 .hd (ak rfl) fun c04 H3 d4=>Ag rfl<|Aa<|Am<|Ac rfl<|Ab (AA rfl (H3.memA .hd))<|Ao .plain rfl (AV (α:=Tb) (xs:=([s0.1]:List Tb)) (vs:=[.agg ((ab s0.1)).toArray]) (ds' :=(ab s0.1)) rfl H3 eH rfl (e1 rfl) (by kernel_rfl) rfl) fun d04 I01 A2 g4=>bk h fun s00 b9 h=>BA .plain rfl (Bl (α:=Tb) (ys:=([s0.1]:List Tb)) b9 A2 (fun _ _=>.t2) eH rfl rfl (AO x4 (Tt H4 (Tt Z3 (Tt b4 (Tt c4 (Tt d4 g4)))))) (BH (α:=Tb) A2 .hd (AJ (cs:=(ab s0.1)) (xs:=(([s0.1]:List Tb):List Tb)) A2 L (AC (cs:=(ab s0.1)) (ds:=[]) (cb s0.1.fN s0.1.fD) (AR _ _))))) fun p00 g04 ⟨X5,p6,x6,j7⟩=>Ag rfl<|Aa<|Aw<|Am<|Ab (Bc (i:=g0) (j:=1) rfl rfl (by omega))<|Ac rfl<|Aa ?_
 obtain ⟨q6,j4⟩:=AB p6 .d2
 have I4:=Tt b4 (Tt c4 (Tt d4 (Tt g4 (Tt x6 j4))))
 exact c6 (g0 + 1,s00,k5,p00,X5,y3,C3) q6 (Tt X3 (Tt Z1 (Tt K2 (Tt Y3 (Tt M2 (Tt Z3 I4)))))) ⟨(AO j7 j4),(AO g7 I4)⟩ h
 intro C01 E3 h
 try dsimp only at h
 refine AW rfl h (fun x5 h=>?_) (fun x5 h=>?_)
 refine Am<|Ac rfl<|Ac rfl<|bk h fun s2 W8 h=>?_
 obtain ⟨j01,M01,y7,J7,Y5,X7,P7⟩:=Be C4 W8
 have z7:Y5 = [.int .u8 (s2.toNat:Int)]:=X7; subst z7
 refine Ab (Bf 1 g0 rfl y7 rfl rfl J7)<|Bd rfl (P7 0 _ rfl) ?_
 have E02:=s2.toNat_lt
 refine Ab (FV.convN (i:=s2.toNat) underlying5 underlying3 rfl (by omega))<|Ag rfl<|Aa ?_
 obtain ⟨s6,y6⟩:=AB U1 .d2
 exact E3 s2.toNat s6 y6 h
 refine Aq ?_
 obtain ⟨t6,z6⟩:=AB U1 .d2
 exact E3 0 t6 z6 h
 refine Ba rfl ?_
 have h:=G7 _ h
 try dsimp only at h
 refine Ae<|Ac rfl ?_
 have B1:=Bw R1 .t1
 have A6:=Bx R1 .t1
 have Q0:=By (α:=List Ta) (v:=d0) (xs:=B0) B1 L (Bg (α:=List Ta) R1 .t1 y4 hL)
 refine bk h fun x2 t9 h=>jE (bd 35) rfl (e1 rfl) (fun p q=>fT (b0:=w.heap.size) (aY_c n (B1.hL hL q) (Ah Q0 q) t9) q (Nat.le_trans B1.ag.size q.size)) rfl fun j04 D0 u02 ⟨J02,D3,H8,d5,k7⟩=>?_
 subst H8
 have v0:=iP B1 d5
 have k4:=lw B1 d5
 have W2:=AJ (cs:=D3) (xs:=(x2:List (List Ta))) v0 L (fS k7)
 refine Ag rfl<|Aa<|Aj<|Ae<|Ac rfl ?_
 have y02:x2.length <= 4294967296:=St.rowLe (α:=List Ta) v0 .hd
 obtain ⟨k01,P01,A7⟩:=St.rowV (α:=List Ta) v0 .hd
 refine Ab (FV.lenV underlying57 rfl A7)<|Ab (FV.gtrN (i:=x2.length) (j:=0) rfl rfl)<|Aa<|MX.jf (α:=(List (List Ta)) × (List Value)) (fun ⟨E0,U0⟩=>[(0,v0_0),(3,v3_0),(7,vP t0),(11,d0),(12,c0),(21,D0)]) (fun ⟨E0,U0⟩=>[rr w 24 (List Ta) D0 E0.length U0,rr w 34 Tb c0 j0.length u0,.cells t0 (bK a2) 62]) (fun ⟨E0,U0⟩ j5=>Cells j5 (bl [rr w 24 (List Ta) D0 E0.length U0,rr w 34 Tb c0 j0.length u0,.cells t0 (bK a2) 62] ++ L) U0 E0) (fun ⟨E0,U0⟩=>E0) v0 h ?_ ?_
 rintro ⟨E0,U0⟩ j5 B2 p4 p7 h
 try dsimp only at h
 refine Aj<|Ae<|Ac rfl<|Ac rfl<|Ac rfl<|bk h fun B3 u9 h=>jE (bd 37) rfl (e1 rfl) (fun p q=>bD_c n (B2.hL hL q) (B2.km h0_0 q) u9) rfl fun k04 q2 E6 ⟨K02,hu_,V4⟩=>?_
 subst hu_
 obtain ⟨u6,P2⟩:=B2.agr E6
 obtain ⟨p01,Q01,J8,_⟩:=Bi V4
 refine Ao .plain rfl (AV (α:=List Ta) (xs:=([B3]:List (List Ta))) (vs:=[q2]) (ds' :=[q2]) rfl u6 gu rfl (e1 rfl) (by rw [J8]; try kernel_rfl) rfl) fun p04 b1 C1 b2=>?_
 have q7:=AJ (cs:=[q2]) (xs:=(([B3]:List (List Ta)):List (List Ta))) C1 L (AC (cs:=[q2]) (ds:=[]) (Af V4 b2) (AR _ _))
 have d3:=Tt k4 (Tt p4 (Tt P2 b2))
 obtain ⟨q01,R01,K8,_⟩:=Bi (Af Q0 d3)
 obtain ⟨s01,U01,B7⟩:=St.rowV (α:=List Ta) C1 .t1
 refine Ab (AS (vs:=[d0,D0,(vS b1 1)]) (u:=.agg #[d0,D0,(vS b1 1)]) (e3 rfl rfl rfl) (fun p=>by rw [K8,B7]; try kernel_rfl))<|Ac rfl<|Aa<|Av<|MX.loop1<|Ae<|Ab (AU (i:=0) (j:=3) rfl rfl)<|Aa<|Aj<|AE rfl<|Aq<|Aj<|Av<|Ae<|Ab (FV.idx1 (cs:=[d0,D0,(vS b1 1)]) (k:=0) (m:=1) (len:=3) rfl rfl rfl rfl rfl (by omega) rfl)<|Ag rfl<|Aa<|Aj<|du 11 fun k0 x0=>Rv 0 k0 rfl x0 (fun _=>Al rfl)<|Rv 1 k0 rfl x0 (fun _=>Al rfl) ?_
 have b3:=AG h3_0 C1
 have z02:a3.length <= 281474976710656:=AX b3
 refine Rx 2 536 k0 rfl x0 (AY (xs:=a3) underlying51 rfl b3)<|Rv 3 k0 rfl x0 (fun _=>FV.min2N (i:=a3.length) (j:=4) rfl rfl)<|bk h fun X04 c9 h=>RD.valE (i:=4) (m' :=31) (W:=512) (tk k0) rfl x0 .plain rfl (FV.cutL (α:=Tb) c9 rfl rfl b3 rfl ⟨_,rfl⟩) fun J1 W4=>Rv 5 k0 rfl x0 (fun _=>Al rfl)<|Rv 6 k0 rfl x0 (fun _=>Bh 2 rfl)<|Rx 7 768 k0 rfl x0 (AQ (cs:=(ab a2.fA)) rfl rfl (ae (C1.memA .t3) 2 16))<|Rv 10 k0 rfl x0 (fun _=>Al rfl)<|RD.nu 8 1535 k0 rfl .plain rfl (AV (α:=Tb) (xs:=([a2.fA]:List Tb)) (vs:=[.agg ((ab a2.fA)).toArray]) (ds' :=(ab a2.fA)) rfl C1 eH rfl (e1 rfl) (by kernel_rfl) rfl) fun q04 c1 V1 X0=>?_
 have s7:=AJ (cs:=(ab a2.fA)) (xs:=(([a2.fA]:List Tb):List Tb)) V1 L (AC (cs:=(ab a2.fA)) (ds:=[]) (cb a2.fA.fN a2.fA.fD) (AR _ _))
 have D4:=Af W4 X0
 obtain ⟨t01,V01,M8,_⟩:=Bi D4
 obtain ⟨u01,W01,C7⟩:=St.rowV (α:=Tb) V1 .t3
 refine Rv 9 k0 rfl x0 (fun _=>AS (vs:=[J1,c0,(vS c1 1)]) (u:=.agg #[J1,c0,(vS c1 1)]) (e3 rfl rfl rfl) (fun p=>by rw [M8,C7]; try kernel_rfl))<|AN (dk k0)<|Av<|MX.loop1<|Ae<|Ab (AU (i:=0) (j:=3) rfl rfl)<|Aa<|Aj<|AE rfl<|Aq<|Aj<|Av<|Ae<|Ab (FV.idx1 (cs:=[J1,c0,(vS c1 1)]) (k:=0) (m:=1) (len:=3) rfl rfl rfl rfl rfl (by omega) rfl)<|Ag rfl<|Aa<|Ae<|Ac rfl<|Ac rfl<|bk h fun v00 v9 h=>jE (bd 31) rfl (e2 rfl rfl) (fun p q=>ai_c n (V1.hL hL q) (Ah (Af Q0 (Tt d3 X0)) q) (Ah D4 q) v9) rfl fun s04 v03 F6 ⟨M02,hu_,Y7⟩=>?_
 subst hu_
 obtain ⟨I3,k1⟩:=V1.agr F6
 refine Ac rfl<|Ab (Ai rfl rfl)<|Ab (Ai rfl rfl)<|Ag rfl<|Ag rfl<|Aa<|Ae<|Ac rfl<|Ac rfl<|bk h fun x00 x9 h=>?_
 have J4:=Tt d3 (Tt X0 k1)
 refine jE (bd 38) rfl (e2 rfl rfl) (fun p q=>ac_c n (I3.hL hL q) (Ah (Af Q0 J4) q) (Ah (Af W4 (Tt X0 k1)) q) x9) rfl fun t04 x03 G6 ⟨P02,hu_,Z7⟩=>?_
 subst hu_
 obtain ⟨H0,p1⟩:=I3.agr G6
 refine Ac rfl<|Ab (Ai rfl rfl)<|Ab (Ai rfl rfl)<|Ag rfl<|Ag rfl<|Aa<|Ae<|Ac rfl<|Ac rfl<|bk h fun y00 y9 h=>Bj (.bool y00) (bd 39) rfl (e2 rfl rfl) (fun p q=>aj_c n (H0.hL0 hL q) (H0.kd (Af Y7 p1) q) (H0.kd Z7 q) y9) rfl<|Ab (Bz rfl)<|Ac rfl<|BP (s:=134) rfl h (fun y5 h=>?_) (fun y5 h=>?_)
 refine AM (Al rfl)<|AM (Al rfl)<|AM (BB (i:=v00.2) (j:=x00.2) rfl rfl)<|Bs rfl rfl<|Aa<|BI rfl h (fun z5 h=>?_) (fun z5 h=>?_)
 refine Aq<|Aw<|Am<|Ab (BL (i:=0) (j:=1) (r:=1) rfl rfl (by decide))<|Ac rfl<|Aa<|Bp<|Ae<|Ab (AU (i:=1) (j:=3) rfl rfl)<|Aa<|Aj<|AE rfl<|Aq<|Aj<|Av<|Ae<|Ab (FV.idx1 (cs:=[J1,c0,(vS c1 1)]) (k:=1) (m:=1) (len:=3) rfl rfl rfl rfl rfl (by omega) rfl)<|Ag rfl<|Aa<|Ae<|Ac rfl<|Ac rfl ?_
 have C2:=Bw H0 .t3
 have c2:=Bx H0 .t3
 have R0:=By (α:=Tb) (v:=c0) (xs:=j0) C2 L (Bg (α:=Tb) H0 .t3 (AO x4 (Tt A6 (Tt k4 (Tt p4 (Tt P2 (Tt b2 (Tt X0 (Tt k1 p1)))))))) hL)
 refine bk h fun z00 z9 h=>?_
 have g3:=Tt J4 (Tt p1 c2)
 refine jE (bd 31) rfl (e2 rfl rfl) (fun p q=>ai_c n (C2.hL hL q) (Ah (Af Q0 g3) q) (Ah R0 q) z9) rfl fun u04 y03 H6 ⟨Q02,hu_,b8⟩=>?_
 subst hu_
 obtain ⟨J3,Y0⟩:=C2.agr H6
 refine Ac rfl<|Ab (Ai rfl rfl)<|Ab (Ai rfl rfl)<|Ag rfl<|Ag rfl<|Aa<|Ae<|Ac rfl<|Ac rfl<|bk h fun A00 A9 h=>jE (bd 38) rfl (e2 rfl rfl) (fun p q=>ac_c n (J3.hL hL q) (Ah (Af Q0 (Tt g3 Y0)) q) (Ah (Af R0 Y0) q) A9) rfl fun v04 z03 I6 ⟨R02,hu_,c8⟩=>?_
 subst hu_
 obtain ⟨I0,q1⟩:=J3.agr I6
 refine Ac rfl<|Ab (Ai rfl rfl)<|Ab (Ai rfl rfl)<|Ag rfl<|Ag rfl<|Aa<|Ae<|Ac rfl<|Ac rfl<|bk h fun B00 B9 h=>Bj (.bool B00) (bd 39) rfl (e2 rfl rfl) (fun p q=>aj_c n (I0.hL0 hL q) (I0.kd (Af b8 q1) q) (I0.kd c8 q) B9) rfl<|Ab (Bz rfl)<|Ac rfl<|BP (s:=134) rfl h (fun A5 h=>?_) (fun A5 h=>?_)
 refine AM (Al rfl)<|AM (Al rfl)<|AM (BB (i:=z00.2) (j:=A00.2) rfl rfl)<|Bs rfl rfl<|Aa<|BI rfl h (fun B5 h=>?_) (fun B5 h=>?_)
 refine Aq<|Aw<|Am<|Ab (BL (i:=1) (j:=1) (r:=2) rfl rfl (by decide))<|Ac rfl<|Aa<|Bp<|Ae<|Ab (AU (i:=2) (j:=3) rfl rfl)<|Aa<|Aj<|AE rfl<|Aq<|Aj<|Av<|Ae<|Ab (FV.idx1 (cs:=[J1,c0,(vS c1 1)]) (k:=2) (m:=1) (len:=3) rfl rfl rfl rfl rfl (by omega) rfl)<|Ag rfl<|Aa<|Ae<|Ac rfl<|Ac rfl ?_
 have D2:=Bw I0 .hd
 have g2:=Bx I0 .hd
 have X4:=By (α:=Tb) (v:=(vS c1 1)) (xs:=([a2.fA]:List Tb)) D2 L (Bg (α:=Tb) I0 .hd (AO s7 (Tt k1 (Tt p1 (Tt c2 (Tt Y0 q1))))) hL)
 refine bk h fun C00 C9 h=>?_
 have K4:=Tt g3 (Tt Y0 (Tt q1 g2))
 refine jE (bd 31) rfl (e2 rfl rfl) (fun p q=>ai_c n (D2.hL hL q) (Ah (Af Q0 K4) q) (Ah X4 q) C9) rfl fun x04 A03 J6 ⟨U02,hu_,d8⟩=>?_
 subst hu_
 obtain ⟨K3,D1⟩:=D2.agr J6
 refine Ac rfl<|Ab (Ai rfl rfl)<|Ab (Ai rfl rfl)<|Ag rfl<|Ag rfl<|Aa<|Ae<|Ac rfl<|Ac rfl<|bk h fun D00 D9 h=>jE (bd 38) rfl (e2 rfl rfl) (fun p q=>ac_c n (K3.hL hL q) (Ah (Af Q0 (Tt K4 D1)) q) (Ah (Af X4 D1) q) D9) rfl fun y04 B03 K6 ⟨V02,hu_,g8⟩=>?_
 subst hu_
 obtain ⟨J0,j2⟩:=K3.agr K6
 refine Ac rfl<|Ab (Ai rfl rfl)<|Ab (Ai rfl rfl)<|Ag rfl<|Ag rfl<|Aa<|Ae<|Ac rfl<|Ac rfl<|bk h fun E00 E9 h=>Bj (.bool E00) (bd 39) rfl (e2 rfl rfl) (fun p q=>aj_c n (J0.hL0 hL q) (J0.kd (Af d8 j2) q) (J0.kd g8 q) E9) rfl<|Ab (Bz rfl)<|Ac rfl<|BP (s:=134) rfl h (fun C5 h=>?_) (fun C5 h=>?_)
 refine AM (Al rfl)<|AM (Al rfl)<|AM (BB (i:=C00.2) (j:=D00.2) rfl rfl)<|Bs rfl rfl<|Aa<|BI rfl h (fun D5 h=>?_) (fun D5 h=>?_)
 refine Aq<|Aw<|Am<|Ab (BL (i:=2) (j:=1) (r:=3) rfl rfl (by decide))<|Ac rfl<|Aa<|Bp<|Ae<|Ab (AU (i:=3) (j:=3) rfl rfl)<|Aa<|Aj<|Bv rfl<|Ba rfl<|Aw<|Am<|Ab (BL (i:=0) (j:=1) (r:=1) rfl rfl (by decide))<|Ac rfl<|Aa<|Bp<|Ae<|Ab (AU (i:=1) (j:=3) rfl rfl)<|Aa<|Aj<|AE rfl<|Aq<|Aj<|Av<|Ae<|Ab (FV.idx1 (cs:=[d0,D0,(vS b1 1)]) (k:=1) (m:=1) (len:=3) rfl rfl rfl rfl rfl (by omega) rfl)<|Ag rfl<|Aa<|Aj<|du 11 fun p0 y0=>Rv 0 p0 rfl y0 (fun _=>Al rfl)<|Rv 1 p0 rfl y0 (fun _=>Al rfl) ?_
 have E4:=AG h3_0 J0
 refine Rx 2 536 p0 rfl y0 (AY (xs:=a3) underlying51 rfl E4)<|Rv 3 p0 rfl y0 (fun _=>FV.min2N (i:=a3.length) (j:=4) rfl rfl)<|bk h fun Y04 d9 h=>RD.valE (i:=4) (m' :=31) (W:=512) (tk p0) rfl y0 .plain rfl (FV.cutL (α:=Tb) d9 rfl rfl E4 rfl ⟨_,rfl⟩) fun K1 u3=>Rv 5 p0 rfl y0 (fun _=>Al rfl)<|Rv 6 p0 rfl y0 (fun _=>Bh 2 rfl)<|Rx 7 768 p0 rfl y0 (AQ (cs:=(ab a2.fA)) rfl rfl (ae (J0.memA .t2) 2 16))<|Rv 10 p0 rfl y0 (fun _=>Al rfl)<|RD.nu 8 1535 p0 rfl .plain rfl (AV (α:=Tb) (xs:=([a2.fA]:List Tb)) (vs:=[.agg ((ab a2.fA)).toArray]) (ds' :=(ab a2.fA)) rfl J0 eH rfl (e1 rfl) (by kernel_rfl) rfl) fun z04 d1 X1 s1=>?_
 have t7:=AJ (cs:=(ab a2.fA)) (xs:=(([a2.fA]:List Tb):List Tb)) X1 L (AC (cs:=(ab a2.fA)) (ds:=[]) (cb a2.fA.fN a2.fA.fD) (AR _ _))
 obtain ⟨v01,X01,P8,_⟩:=Bi (Af u3 s1)
 have j3:=Tt Y0 (Tt q1 (Tt g2 (Tt D1 (Tt j2 s1))))
 obtain ⟨x01,Y01,Q8,_⟩:=Bi (Af R0 j3)
 refine Rv 9 p0 rfl y0 (fun _=>AS (vs:=[K1,c0,(vS d1 1)]) (u:=.agg #[K1,c0,(vS d1 1)]) (e3 rfl rfl rfl) (fun p=>by rw [P8,Q8]; try kernel_rfl))<|AN (dk p0)<|Av<|MX.loop1<|Ae<|Ab (AU (i:=0) (j:=3) rfl rfl)<|Aa<|Aj<|AE rfl<|Aq<|Aj<|Av<|Ae<|Ab (FV.idx1 (cs:=[K1,c0,(vS d1 1)]) (k:=0) (m:=1) (len:=3) rfl rfl rfl rfl rfl (by omega) rfl)<|Ag rfl<|Aa<|Ae<|Ac rfl<|Ac rfl ?_
 have E2:=Bw X1 .t2
 have u1:=Bx X1 .t2
 have y1:=By (α:=List Ta) (v:=D0) (xs:=E0) E2 L (Bg (α:=List Ta) X1 .t2 (AO p7 (Tt P2 (Tt b2 (Tt X0 (Tt k1 (Tt p1 (Tt c2 j3))))))) hL)
 refine bk h fun F00 F9 h=>jE (bd 31) rfl (e2 rfl rfl) (fun p q=>ai_c n (E2.hL hL q) (Ah y1 q) (Ah (Af u3 (Tt s1 u1)) q) F9) rfl fun A04 C03 M6 ⟨W02,hu_,j8⟩=>?_
 subst hu_
 obtain ⟨M3,Z0⟩:=E2.agr M6
 refine Ac rfl<|Ab (Ai rfl rfl)<|Ab (Ai rfl rfl)<|Ag rfl<|Ag rfl<|Aa<|Ae<|Ac rfl<|Ac rfl<|bk h fun G00 G9 h=>jE (bd 38) rfl (e2 rfl rfl) (fun p q=>ac_c n (M3.hL hL q) (Ah (Af y1 Z0) q) (Ah (Af u3 (Tt s1 (Tt u1 Z0))) q) G9) rfl fun B04 D03 P6 ⟨X02,hu_,k8⟩=>?_
 subst hu_
 obtain ⟨V0,v1⟩:=M3.agr P6
 refine Ac rfl<|Ab (Ai rfl rfl)<|Ab (Ai rfl rfl)<|Ag rfl<|Ag rfl<|Aa<|Ae<|Ac rfl<|Ac rfl<|bk h fun H00 H9 h=>Bj (.bool H00) (bd 39) rfl (e2 rfl rfl) (fun p q=>aj_c n (V0.hL0 hL q) (V0.kd (Af j8 v1) q) (V0.kd k8 q) H9) rfl<|Ab (Bz rfl)<|Ac rfl<|BP (s:=134) rfl h (fun F5 h=>?_) (fun F5 h=>?_)
 refine AM (Al rfl)<|AM (Al rfl)<|AM (BB (i:=F00.2) (j:=G00.2) rfl rfl)<|Bs rfl rfl<|Aa<|BI rfl h (fun G5 h=>?_) (fun G5 h=>?_)
 refine Aq<|Aw<|Am<|Ab (BL (i:=0) (j:=1) (r:=1) rfl rfl (by decide))<|Ac rfl<|Aa<|Bp<|Ae<|Ab (AU (i:=1) (j:=3) rfl rfl)<|Aa<|Aj<|AE rfl<|Aq<|Aj<|Av<|Ae<|Ab (FV.idx1 (cs:=[K1,c0,(vS d1 1)]) (k:=1) (m:=1) (len:=3) rfl rfl rfl rfl rfl (by omega) rfl)<|Ag rfl<|Aa<|Ae<|Ac rfl<|Ac rfl<|bk h fun I00 I9 h=>jE (bd 31) rfl (e2 rfl rfl) (fun p q=>ai_c n (V0.hL hL q) (Ah (Af y1 (Tt Z0 v1)) q) (Ah (Af R0 (Tt j3 (Tt u1 (Tt Z0 v1)))) q) I9) rfl fun C04 E03 Q6 ⟨Y02,hu_,p8⟩=>?_
 subst hu_
 obtain ⟨P3,Q2⟩:=V0.agr Q6
 refine Ac rfl<|Ab (Ai rfl rfl)<|Ab (Ai rfl rfl)<|Ag rfl<|Ag rfl<|Aa<|Ae<|Ac rfl<|Ac rfl<|bk h fun J00 J9 h=>?_
 have k3:=Tt Z0 (Tt v1 Q2)
 have M4:=Tt Y0 (Tt q1 (Tt g2 (Tt D1 (Tt j2 (Tt s1 (Tt u1 k3))))))
 refine jE (bd 38) rfl (e2 rfl rfl) (fun p q=>ac_c n (P3.hL hL q) (Ah (Af y1 k3) q) (Ah (Af R0 M4) q) J9) rfl fun D04 F03 R6 ⟨Z02,hu_,q8⟩=>?_
 subst hu_
 obtain ⟨K0,E1⟩:=P3.agr R6
 refine Ac rfl<|Ab (Ai rfl rfl)<|Ab (Ai rfl rfl)<|Ag rfl<|Ag rfl<|Aa<|Ae<|Ac rfl<|Ac rfl<|bk h fun K00 K9 h=>Bj (.bool K00) (bd 39) rfl (e2 rfl rfl) (fun p q=>aj_c n (K0.hL0 hL q) (K0.kd (Af p8 E1) q) (K0.kd q8 q) K9) rfl<|Ab (Bz rfl)<|Ac rfl<|BP (s:=134) rfl h (fun H5 h=>?_) (fun H5 h=>?_)
 refine AM (Al rfl)<|AM (Al rfl)<|AM (BB (i:=I00.2) (j:=J00.2) rfl rfl)<|Bs rfl rfl<|Aa<|BI rfl h (fun I5 h=>?_) (fun I5 h=>?_)
 refine Aq<|Aw<|Am<|Ab (BL (i:=1) (j:=1) (r:=2) rfl rfl (by decide))<|Ac rfl<|Aa<|Bp<|Ae<|Ab (AU (i:=2) (j:=3) rfl rfl)<|Aa<|Aj<|AE rfl<|Aq<|Aj<|Av<|Ae<|Ab (FV.idx1 (cs:=[K1,c0,(vS d1 1)]) (k:=2) (m:=1) (len:=3) rfl rfl rfl rfl rfl (by omega) rfl)<|Ag rfl<|Aa<|Ae<|Ac rfl<|Ac rfl ?_
 have F2:=Bw K0 .hd
 have R2:=Bx K0 .hd
 have Y4:=By (α:=Tb) (v:=(vS d1 1)) (xs:=([a2.fA]:List Tb)) F2 L (Bg (α:=Tb) K0 .hd (AO t7 (Tt u1 (Tt Z0 (Tt v1 (Tt Q2 E1))))) hL)
 refine bk h fun M00 M9 h=>?_
 have P4:=Tt k3 (Tt E1 R2)
 refine jE (bd 31) rfl (e2 rfl rfl) (fun p q=>ai_c n (F2.hL hL q) (Ah (Af y1 P4) q) (Ah Y4 q) M9) rfl fun E04 G03 U6 ⟨b03,hu_,s8⟩=>?_
 subst hu_
 obtain ⟨Q3,k2⟩:=F2.agr U6
 refine Ac rfl<|Ab (Ai rfl rfl)<|Ab (Ai rfl rfl)<|Ag rfl<|Ag rfl<|Aa<|Ae<|Ac rfl<|Ac rfl<|bk h fun P00 P9 h=>jE (bd 38) rfl (e2 rfl rfl) (fun p q=>ac_c n (Q3.hL hL q) (Ah (Af y1 (Tt P4 k2)) q) (Ah (Af Y4 k2) q) P9) rfl fun F04 H03 V6 ⟨c03,hu_,v8⟩=>?_
 subst hu_
 obtain ⟨M0,U2⟩:=Q3.agr V6
 refine Ac rfl<|Ab (Ai rfl rfl)<|Ab (Ai rfl rfl)<|Ag rfl<|Ag rfl<|Aa<|Ae<|Ac rfl<|Ac rfl<|bk h fun Q00 Q9 h=>Bj (.bool Q00) (bd 39) rfl (e2 rfl rfl) (fun p q=>aj_c n (M0.hL0 hL q) (M0.kd (Af s8 U2) q) (M0.kd v8 q) Q9) rfl<|Ab (Bz rfl)<|Ac rfl<|BP (s:=134) rfl h (fun J5 h=>?_) (fun J5 h=>?_)
 refine AM (Al rfl)<|AM (Al rfl)<|AM (BB (i:=M00.2) (j:=P00.2) rfl rfl)<|Bs rfl rfl<|Aa<|BI rfl h (fun K5 h=>?_) (fun K5 h=>?_)
 refine Aq<|Aw<|Am<|Ab (BL (i:=2) (j:=1) (r:=3) rfl rfl (by decide))<|Ac rfl<|Aa<|Bp<|Ae<|Ab (AU (i:=3) (j:=3) rfl rfl)<|Aa<|Aj<|Bv rfl<|Ba rfl<|Aw<|Am<|Ab (BL (i:=1) (j:=1) (r:=2) rfl rfl (by decide))<|Ac rfl<|Aa<|Bp<|Ae<|Ab (AU (i:=2) (j:=3) rfl rfl)<|Aa<|Aj<|AE rfl<|Aq<|Aj<|Av<|Ae<|Ab (FV.idx1 (cs:=[d0,D0,(vS b1 1)]) (k:=2) (m:=1) (len:=3) rfl rfl rfl rfl rfl (by omega) rfl)<|Ag rfl<|Aa<|Aj<|du 11 fun q0 z0=>Rv 0 q0 rfl z0 (fun _=>Al rfl)<|Rv 1 q0 rfl z0 (fun _=>Al rfl) ?_
 have F4:=AG h3_0 M0
 refine Rx 2 536 q0 rfl z0 (AY (xs:=a3) underlying51 rfl F4)<|Rv 3 q0 rfl z0 (fun _=>FV.min2N (i:=a3.length) (j:=4) rfl rfl)<|bk h fun Z04 g9 h=>RD.valE (i:=4) (m' :=31) (W:=512) (tk q0) rfl z0 .plain rfl (FV.cutL (α:=Tb) g9 rfl rfl F4 rfl ⟨_,rfl⟩) fun M1 v3=>Rv 5 q0 rfl z0 (fun _=>Al rfl)<|Rv 6 q0 rfl z0 (fun _=>Bh 2 rfl)<|Rx 7 768 q0 rfl z0 (AQ (cs:=(ab a2.fA)) rfl rfl (ae (M0.memA .t1) 2 16))<|Rv 10 q0 rfl z0 (fun _=>Al rfl)<|RD.nu 8 1535 q0 rfl .plain rfl (AV (α:=Tb) (xs:=([a2.fA]:List Tb)) (vs:=[.agg ((ab a2.fA)).toArray]) (ds' :=(ab a2.fA)) rfl M0 eH rfl (e1 rfl) (by kernel_rfl) rfl) fun G04 g1 Y1 F1=>?_
 have u7:=AJ (cs:=(ab a2.fA)) (xs:=(([a2.fA]:List Tb):List Tb)) Y1 L (AC (cs:=(ab a2.fA)) (ds:=[]) (cb a2.fA.fN a2.fA.fD) (AR _ _))
 obtain ⟨z01,b02,R8,_⟩:=Bi (Af v3 F1)
 have p3:=Tt M4 (Tt E1 (Tt R2 (Tt k2 (Tt U2 F1))))
 obtain ⟨A01,c02,U8,_⟩:=Bi (Af R0 p3)
 refine Rv 9 q0 rfl z0 (fun _=>AS (vs:=[M1,c0,(vS g1 1)]) (u:=.agg #[M1,c0,(vS g1 1)]) (e3 rfl rfl rfl) (fun p=>by rw [R8,U8]; try kernel_rfl))<|AN (dk q0)<|Av<|MX.loop1<|Ae<|Ab (AU (i:=0) (j:=3) rfl rfl)<|Aa<|Aj<|AE rfl<|Aq<|Aj<|Av<|Ae<|Ab (FV.idx1 (cs:=[M1,c0,(vS g1 1)]) (k:=0) (m:=1) (len:=3) rfl rfl rfl rfl rfl (by omega) rfl)<|Ag rfl<|Aa<|Ae<|Ac rfl<|Ac rfl ?_
 have G2:=Bw Y1 .t1
 have G1:=Bx Y1 .t1
 have z1:=By (α:=List Ta) (v:=(vS b1 1)) (xs:=([B3]:List (List Ta))) G2 L (Bg (α:=List Ta) Y1 .t1 (AO q7 (Tt X0 (Tt k1 (Tt p1 (Tt c2 p3))))) hL)
 refine bk h fun R00 R9 h=>jE (bd 31) rfl (e2 rfl rfl) (fun p q=>ai_c n (G2.hL hL q) (Ah z1 q) (Ah (Af v3 (Tt F1 G1)) q) R9) rfl fun H04 I03 W6 ⟨d03,hu_,x8⟩=>?_
 subst hu_
 obtain ⟨R3,x1⟩:=G2.agr W6
 refine Ac rfl<|Ab (Ai rfl rfl)<|Ab (Ai rfl rfl)<|Ag rfl<|Ag rfl<|Aa<|Ae<|Ac rfl<|Ac rfl<|bk h fun U00 U9 h=>jE (bd 38) rfl (e2 rfl rfl) (fun p q=>ac_c n (R3.hL hL q) (Ah (Af z1 x1) q) (Ah (Af v3 (Tt F1 (Tt G1 x1))) q) U9) rfl fun I04 J03 X6 ⟨g03,hu_,y8⟩=>?_
 subst hu_
 obtain ⟨W0,H1⟩:=R3.agr X6
 refine Ac rfl<|Ab (Ai rfl rfl)<|Ab (Ai rfl rfl)<|Ag rfl<|Ag rfl<|Aa<|Ae<|Ac rfl<|Ac rfl<|bk h fun V00 V9 h=>Bj (.bool V00) (bd 39) rfl (e2 rfl rfl) (fun p q=>aj_c n (W0.hL0 hL q) (W0.kd (Af x8 H1) q) (W0.kd y8 q) V9) rfl<|Ab (Bz rfl)<|Ac rfl<|BP (s:=134) rfl h (fun M5 h=>?_) (fun M5 h=>?_)
 refine AM (Al rfl)<|AM (Al rfl)<|AM (BB (i:=R00.2) (j:=U00.2) rfl rfl)<|Bs rfl rfl<|Aa<|BI rfl h (fun P5 h=>?_) (fun P5 h=>?_)
 refine Aq<|Aw<|Am<|Ab (BL (i:=0) (j:=1) (r:=1) rfl rfl (by decide))<|Ac rfl<|Aa<|Bp<|Ae<|Ab (AU (i:=1) (j:=3) rfl rfl)<|Aa<|Aj<|AE rfl<|Aq<|Aj<|Av<|Ae<|Ab (FV.idx1 (cs:=[M1,c0,(vS g1 1)]) (k:=1) (m:=1) (len:=3) rfl rfl rfl rfl rfl (by omega) rfl)<|Ag rfl<|Aa<|Ae<|Ac rfl<|Ac rfl<|bk h fun W00 W9 h=>jE (bd 31) rfl (e2 rfl rfl) (fun p q=>ai_c n (W0.hL hL q) (Ah (Af z1 (Tt x1 H1)) q) (Ah (Af R0 (Tt p3 (Tt G1 (Tt x1 H1)))) q) W9) rfl fun J04 K03 Y6 ⟨j03,hu_,z8⟩=>?_
 subst hu_
 obtain ⟨U3,s4⟩:=W0.agr Y6
 refine Ac rfl<|Ab (Ai rfl rfl)<|Ab (Ai rfl rfl)<|Ag rfl<|Ag rfl<|Aa<|Ae<|Ac rfl<|Ac rfl<|bk h fun X00 X9 h=>?_
 have q3:=Tt x1 (Tt H1 s4)
 refine jE (bd 38) rfl (e2 rfl rfl) (fun p q=>ac_c n (U3.hL hL q) (Ah (Af z1 q3) q) (Ah (Af R0 (Tt Y0 (Tt q1 (Tt g2 (Tt D1 (Tt j2 (Tt s1 (Tt u1 (Tt Z0 (Tt v1 (Tt Q2 (Tt E1 (Tt R2 (Tt k2 (Tt U2 (Tt F1 (Tt G1 q3))))))))))))))))) q) X9) rfl fun K04 M03 Z6 ⟨k03,hu_,A8⟩=>?_
 subst hu_
 obtain ⟨P0,V2⟩:=U3.agr Z6
 refine Ac rfl<|Ab (Ai rfl rfl)<|Ab (Ai rfl rfl)<|Ag rfl<|Ag rfl<|Aa<|Ae<|Ac rfl<|Ac rfl<|bk h fun Y00 Y9 h=>Bj (.bool Y00) (bd 39) rfl (e2 rfl rfl) (fun p q=>aj_c n (P0.hL0 hL q) (P0.kd (Af z8 V2) q) (P0.kd A8 q) Y9) rfl<|Ab (Bz rfl)<|Ac rfl<|BP (s:=134) rfl h (fun Q5 h=>?_) (fun Q5 h=>?_)
 refine AM (Al rfl)<|AM (Al rfl)<|AM (BB (i:=W00.2) (j:=X00.2) rfl rfl)<|Bs rfl rfl<|Aa<|BI rfl h (fun R5 h=>?_) (fun R5 h=>?_)
 refine Aq<|Aw<|Am<|Ab (BL (i:=1) (j:=1) (r:=2) rfl rfl (by decide))<|Ac rfl<|Aa<|Bp<|Ae<|Ab (AU (i:=2) (j:=3) rfl rfl)<|Aa<|Aj<|AE rfl<|Aq<|Aj<|Av<|Ae<|Ab (FV.idx1 (cs:=[M1,c0,(vS g1 1)]) (k:=2) (m:=1) (len:=3) rfl rfl rfl rfl rfl (by omega) rfl)<|Ag rfl<|Aa<|Ae<|Ac rfl<|Ac rfl ?_
 have H2:=Bw P0 .hd
 have Z4:=By (α:=Tb) (v:=(vS g1 1)) (xs:=([a2.fA]:List Tb)) H2 L (Bg (α:=Tb) P0 .hd (AO u7 (Tt G1 (Tt x1 (Tt H1 (Tt s4 V2))))) hL)
 refine bk h fun Z00 Z9 h=>?_
 have Q4:=Tt q3 (Tt V2 (Bx P0 .hd))
 refine jE (bd 31) rfl (e2 rfl rfl) (fun p q=>ai_c n (H2.hL hL q) (Ah (Af z1 Q4) q) (Ah Z4 q) Z9) rfl fun M04 P03 b7 ⟨p03,hu_,B8⟩=>?_
 subst hu_
 obtain ⟨V3,t4⟩:=H2.agr b7
 refine Ac rfl<|Ab (Ai rfl rfl)<|Ab (Ai rfl rfl)<|Ag rfl<|Ag rfl<|Aa<|Ae<|Ac rfl<|Ac rfl<|bk h fun b01 b00 h=>jE (bd 38) rfl (e2 rfl rfl) (fun p q=>ac_c n (V3.hL hL q) (Ah (Af z1 (Tt Q4 t4)) q) (Ah (Af Z4 t4) q) b00) rfl fun P04 Q03 c7 ⟨q03,hu_,C8⟩=>?_
 subst hu_
 obtain ⟨j1,B6⟩:=V3.agr c7
 refine Ac rfl<|Ab (Ai rfl rfl)<|Ab (Ai rfl rfl)<|Ag rfl<|Ag rfl<|Aa<|Ae<|Ac rfl<|Ac rfl<|bk h fun c01 c00 h=>Bj (.bool c01) (bd 39) rfl (e2 rfl rfl) (fun p q=>aj_c n (j1.hL0 hL q) (j1.kd (Af B8 B6) q) (j1.kd C8 q) c00) rfl<|Ab (Bz rfl)<|Ac rfl<|BP (s:=134) rfl h (fun U5 h=>?_) (fun U5 h=>?_)
 refine AM (Al rfl)<|AM (Al rfl)<|AM (BB (i:=Z00.2) (j:=b01.2) rfl rfl)<|Bs rfl rfl<|Aa<|BI rfl h (fun V5 h=>?_) (fun V5 h=>?_)
 refine Aq<|Aw<|Am<|Ab (BL (i:=2) (j:=1) (r:=3) rfl rfl (by decide))<|Ac rfl<|Aa<|Bp<|Ae<|Ab (AU (i:=3) (j:=3) rfl rfl)<|Aa<|Aj<|Bv rfl<|Ba rfl<|Aw<|Am<|Ab (BL (i:=2) (j:=1) (r:=3) rfl rfl (by decide))<|Ac rfl<|Aa<|Bp<|Ae<|Ab (AU (i:=3) (j:=3) rfl rfl)<|Aa<|Aj<|Bv rfl<|Ba rfl<|Ae<|Ag rfl<|Aa<|Ar rfl<|Bb hb0 func4 rfl rfl ?_
 cases h
 exact j1.gv
 refine Ae<|Ag rfl<|Aa<|Ar rfl<|Bb hb0 func4 rfl rfl ?_
 cases h
 exact j1.gv
 refine Ap<|Ap<|Ap<|Br rfl rfl<|Aa<|AE rfl<|Ae<|Ag rfl<|Aa<|Ar rfl<|Bb hb0 func4 rfl rfl ?_
 cases h
 exact j1.gv
 refine Ae<|Ag rfl<|Aa<|Ar rfl<|Bb hb0 func4 rfl rfl ?_
 cases h
 exact P0.gv
 refine Ap<|Ap<|Ap<|Br rfl rfl<|Aa<|AE rfl<|Ae<|Ag rfl<|Aa<|Ar rfl<|Bb hb0 func4 rfl rfl ?_
 cases h
 exact P0.gv
 refine Ae<|Ag rfl<|Aa<|Ar rfl<|Bb hb0 func4 rfl rfl ?_
 cases h
 exact W0.gv
 refine Ap<|Ap<|Ap<|Br rfl rfl<|Aa<|AE rfl<|Ae<|Ag rfl<|Aa<|Ar rfl<|Bb hb0 func4 rfl rfl ?_
 cases h
 exact W0.gv
 refine Ae<|Ag rfl<|Aa<|Ar rfl<|Bb hb0 func4 rfl rfl ?_
 cases h
 exact M0.gv
 refine Ap<|Ap<|Ap<|Br rfl rfl<|Aa<|AE rfl<|Ae<|Ag rfl<|Aa<|Ar rfl<|Bb hb0 func4 rfl rfl ?_
 cases h
 exact M0.gv
 refine Ae<|Ag rfl<|Aa<|Ar rfl<|Bb hb0 func4 rfl rfl ?_
 cases h
 exact K0.gv
 refine Ap<|Ap<|Ap<|Br rfl rfl<|Aa<|AE rfl<|Ae<|Ag rfl<|Aa<|Ar rfl<|Bb hb0 func4 rfl rfl ?_
 cases h
 exact K0.gv
 refine Ae<|Ag rfl<|Aa<|Ar rfl<|Bb hb0 func4 rfl rfl ?_
 cases h
 exact V0.gv
 refine Ap<|Ap<|Ap<|Br rfl rfl<|Aa<|AE rfl<|Ae<|Ag rfl<|Aa<|Ar rfl<|Bb hb0 func4 rfl rfl ?_
 cases h
 exact V0.gv
 refine Ae<|Ag rfl<|Aa<|Ar rfl<|Bb hb0 func4 rfl rfl ?_
 cases h
 exact J0.gv
 refine Ap<|Ap<|Ap<|Br rfl rfl<|Aa<|AE rfl<|Ae<|Ag rfl<|Aa<|Ar rfl<|Bb hb0 func4 rfl rfl ?_
 cases h
 exact J0.gv
 refine Ae<|Ag rfl<|Aa<|Ar rfl<|Bb hb0 func4 rfl rfl ?_
 cases h
 exact I0.gv
 refine Ap<|Ap<|Ap<|Br rfl rfl<|Aa<|AE rfl<|Ae<|Ag rfl<|Aa<|Ar rfl<|Bb hb0 func4 rfl rfl ?_
 cases h
 exact I0.gv
 refine Ae<|Ag rfl<|Aa<|Ar rfl<|Bb hb0 func4 rfl rfl ?_
 cases h
 exact H0.gv
 refine Ap<|Ap<|Ap<|Br rfl rfl<|Aa<|AE rfl<|Ae<|Ag rfl<|Aa<|Ar rfl<|Bb hb0 func4 rfl rfl ?_
 cases h
 exact H0.gv
 intro D01 F3 h
 try dsimp only at h
 refine AW rfl h (fun W5 h=>?_) (fun W5 h=>?_)
 refine du 7 fun A0 A1=>Rv 0 A0 rfl A1 (fun _=>Al rfl)<|Rx 1 224 A0 rfl A1 (AA rfl (v0.memA .t2))<|Rv 2 A0 rfl A1 (fun _=>Al rfl)<|bk h fun W04 c5 h=>?_
 obtain ⟨p5,d02,X2,A4,q02,D8,R7⟩:=St.nth (α:=List Ta) v0 .hd W2 c5
 obtain ⟨s5,g02,F7⟩:=BE (α:=List Ta) v0 .hd A4
 obtain rfl:p5 = ⟨s5,0,none⟩:=by rw [F7] at X2; cases X2; rfl
 obtain ⟨s03,rfl,E8⟩:=bG D8
 refine Rv 3 A0 rfl A1 (fun _=>Bf 1 0 rfl X2 rfl rfl A4)<|Rx 4 224 A0 rfl A1 (Bn rfl (R7 0 _ rfl))<|bk h fun b05 d00 h=>AZ 5 63 A0 rfl .plain (bd 36) rfl (e2 rfl rfl) (fun p q=>bR_c n (v0.hL hL q) a2 (Ah E8 q) d00) rfl fun Q04 R03 d7 ⟨t03,hu_,b5⟩=>?_
 subst hu_
 obtain ⟨J2,u4⟩:=v0.agr d7
 have G4:=AO W2 u4
 obtain ⟨q5,j02,Y2,B4,s02,F8,C02⟩:=St.nth (α:=List Ta) J2 .hd G4 c5
 obtain ⟨t5,k02,z4⟩:=BE (α:=List Ta) J2 .hd B4
 obtain rfl:q5 = ⟨t5,0,none⟩:=by rw [z4] at Y2; cases Y2; rfl
 obtain ⟨u03,rfl,D02⟩:=bG F8
 refine Rv 6 A0 rfl A1 (fun _=>Bf 1 0 rfl Y2 rfl rfl B4)<|bk h fun t00 k9 h=>BJ (i:=7) (rk A0) (RO.acts (m' :=255) (sk A0) rfl rfl .plain (Acts.set (α:=List Ta) (i:=0) k9 J2 z4 (fun _=>.hd) G4 rfl rfl rfl (Rep.cells1 b5) b5 rfl) (fun R04 ⟨b6,v6,C6,v7⟩=>?_))
 refine AN (dk A0)<|F3 (t00,b6) v6 (Tt u4 C6) v7 h
 refine Aq<|F3 (x2,D3) v0 (BO _ _) W2 h
 refine Ae<|Ag rfl<|Aa<|Ar rfl<|Bb hb0 func4 rfl rfl ?_
 cases h
 exact Q1.gv

end Go.Proofs.YtkommhmbkbhmlaaGreat
