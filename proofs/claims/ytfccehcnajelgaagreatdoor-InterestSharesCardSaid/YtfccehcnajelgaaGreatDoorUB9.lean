import Derived.Test.YtfccehcnajelgaaGreatDoorUB8
namespace Go.Proofs.YtfccehcnajelgaaGreatDoor
open Go Go.RowKit Tryz
set_option maxRecDepth 4000
set_option maxHeartbeats 4000000

def aJ_p (n:Nat) (a0:Tb):Option Bool:=
  (ap_p n a0.fN).bind fun g0=>(ap_p n a0.fD).bind fun b0=>(if b0.fc = true then some false else (if 0 < b0.fD.length then (aU_p n g0 b0).bind fun c0=>(cJ_p n c0).bind fun d0=>some d0 else some false))
theorem aJ_c (n:Nat) {L w} (hL:hl L w) (a0:Tb)  {r:Bool} (h:aJ_p n a0 = some r) :
 Cl 114 #[.agg ((ac a0)).toArray] w (ae w fun _ u=>u = .bool r):=by
 unfold aJ_p at h
 refine AF func114 rfl rfl rfl fun _ cs0 hb0=>Ae<|RG.bx (AC w) rfl rfl fun H2 A2 M0 B2=>Af rfl<|Aa<|Ai<|du 8 fun b0 V0=>Rv 0 b0 rfl V0 (fun _=>Be 0 rfl)<|Rx 1 804 b0 rfl V0 (Bo (cs:=(ak a0.fN)) rfl rfl (ai (M0.memA .hd) 0 8))<|Rv 3 b0 rfl V0 (fun _=>Be 8 rfl)<|Rx 4 800 b0 rfl V0 (Bo (cs:=(ak a0.fD)) rfl rfl (ai (M0.memA .hd) 8 8))<|bk h fun Y0 U0 h=>bk h fun P0 C0 h=>RD.mf (α:=Value × Value × Nat × Nat) (fun ⟨Q0,R0,J0,K0⟩=>[(7,.agg #[.bool Y0.fc,Q0]),(10,.agg #[.bool P0.fc,R0]),(3,vP K0),(4,vP J0)]) (fun ⟨Q0,R0,J0,K0⟩=>[.cells J0 [.bool false,vN] 189,.cells K0 [.bool false,vN] 189]) (fun ⟨Q0,R0,J0,K0⟩ j1=>Rep.R j1 (bl [.cells J0 [.bool false,vN] 189,.cells K0 [.bool false,vN] 189] ++ L) [Q0] Y0.fD/\Rep.R j1 (bl [.cells J0 [.bool false,vN] 189,.cells K0 [.bool false,vN] 189] ++ L) [R0] P0.fD) M0 2 255 ?_ ?_
 rintro ⟨Q0,R0,J0,K0⟩ j1 V1 C2 ⟨P1,Q1⟩
 try dsimp only
 refine BB 8 511 b0 rfl rfl .plain (AD (news:=[.bool Y0.fc,Q0]) V1 .t1 rfl rfl rfl rfl rfl rfl (o2 rfl (AY P1))) fun I2 W1 b1=>BB 9 1023 b0 rfl rfl .plain (AD (news:=[.bool P0.fc,R0]) W1 .hd rfl rfl rfl rfl rfl rfl (o2 rfl (AY (Aq Q1 b1)))) fun J2 G0 k1=>AR (dk b0)<|Ae<|AT 0 rfl<|AL rfl ((G0.memA .hd) 0 _ rfl)<|Ab (Bp rfl)<|Ac rfl<|RG.ifnb (s:=14) rfl h (fun R1 h=>?_) (fun R1 h=>?_)
 refine Al<|Al<|Al<|Al<|Bn rfl rfl<|Ac rfl<|Al<|Al<|Al<|Al<|Bn rfl rfl<|Af rfl<|Aa<|Ak rfl<|AQ hb0 func114 rfl rfl ?_
 cases h
 exact G0.gv
 refine RG.fg 1 rfl<|Az (AN rfl ((G0.memA .hd) 1 _ rfl)) ?_
 have g1:=Aq Q1 (Tt b1 k1)
 have E2:P0.fD.length <= 281474976710656:=AS g1
 refine Az (AW (xs:=P0.fD) underlying52 rfl g1)<|Az (FV.gtrN (i:=P0.fD.length) (j:=0) rfl rfl)<|Bl rfl rfl<|Ac rfl<|Bv (s:=20) rfl h (fun U1 h=>?_) (fun U1 h=>?_)
 refine Az (AK rfl (G0.memA .t1))<|Az (AK rfl (G0.memA .hd))<|bk h fun y2 v2 h=>Bb (fst:=[]) (cap:=[]) (.yes rfl rfl) (bd 155) rfl (e2 rfl rfl) (fun p q=>aU_c n (G0.hL hL q) Y0 (Av (Aq P1 (Tt b1 k1)) q) P0 (Av g1 q) v2) rfl fun K2 G2 t2 ⟨F2,hu_,u2⟩=>?_
 subst hu_
 obtain ⟨Z0,D2⟩:=G0.agr t2
 refine bk h fun z2 x2 h=>RG.callq' (v:=.bool z2) (fst:=[]) (cap:=[]) (.yes rfl rfl) (bd 154) rfl (e1 rfl) (fun p q=>cJ_c n (Z0.hL0 hL q) y2 (Z0.kd u2 q) x2) rfl<|Bl rfl rfl<|Af rfl<|Aa<|Ak rfl<|AQ hb0 func114 rfl rfl ?_
 cases h
 exact Z0.gv
 refine Al<|Al<|Al<|Al<|Bn rfl rfl<|Af rfl<|Aa<|Ak rfl<|AQ hb0 func114 rfl rfl ?_
 cases h
 exact G0.gv
 intro B0
 refine By [2,6,7] (rk b0) ⟨?_,?_,?_,trivial⟩
 refine RO.call (m' :=31) (fst:=[]) (cap:=[]) (sk b0) rfl .plain (bd 153) rfl (e1 rfl) (fun p q=>ap_c n (M0.hL hL q) a0.fN U0) rfl fun X0 W0 F0 ⟨A0,hu_,z0⟩=>?_
 subst hu_
 obtain ⟨x0,y0⟩:=M0.agr F0
 refine By [5,6,7] (rk b0) ⟨?_,?_,?_,trivial⟩
 refine RO.call (m' :=63) (fst:=[]) (cap:=[]) (sk b0) rfl .plain (bd 153) rfl (e1 rfl) (fun p q=>ap_c n (x0.hL hL q) a0.fD C0) rfl fun E0 D0 t0 ⟨s0,hu_,q0⟩=>?_
 subst hu_
 obtain ⟨p0,j0⟩:=x0.agr t0
 refine By [6,7] (rk b0) ⟨?_,?_,trivial⟩
 refine BG (m' :=127) (sk b0) rfl .plain rfl (AE [.bool false,vN] p0) fun I0 v0 d0 k0=>BV 7 255 b0 rfl .plain rfl (AE [.bool false,vN] d0) fun H0 u0 c0 g0=>?_
 obtain ⟨X1,p1⟩:=AH c0 (.a0 (.a0 .done))
 have C1:=Tt j0 (Tt k0 (Tt g0 p1))
 exact B0 (A0,s0,u0,v0) X1 (Tt y0 C1) ⟨(Aq z0 C1),(Aq q0 (Tt k0 (Tt g0 p1)))⟩
 refine BG (m' :=191) (sk b0) rfl .plain rfl (AE [.bool false,vN] p0) fun H0 u0 c0 g0=>BV 6 255 b0 rfl .plain rfl (AE [.bool false,vN] c0) fun I0 v0 d0 k0=>?_
 obtain ⟨Y1,q1⟩:=AH d0 (.a1 (.a0 .done))
 have D1:=Tt j0 (Tt g0 (Tt k0 q1))
 exact B0 (A0,s0,u0,v0) Y1 (Tt y0 D1) ⟨(Aq z0 D1),(Aq q0 (Tt g0 (Tt k0 q1)))⟩
 refine BG (m' :=95) (sk b0) rfl .plain rfl (AE [.bool false,vN] x0) fun I0 v0 d0 k0=>By [5,7] (rk b0) ⟨?_,?_,trivial⟩
 refine RO.call (m' :=127) (fst:=[]) (cap:=[]) (sk b0) rfl .plain (bd 153) rfl (e1 rfl) (fun p q=>ap_c n (d0.hL hL q) a0.fD C0) rfl fun E0 D0 t0 ⟨s0,hu_,q0⟩=>?_
 subst hu_
 obtain ⟨p0,j0⟩:=d0.agr t0
 refine BV 7 255 b0 rfl .plain rfl (AE [.bool false,vN] p0) fun H0 u0 c0 g0=>?_
 obtain ⟨Z1,s1⟩:=AH c0 (.a0 (.a0 .done))
 have E1:=Tt k0 (Tt j0 (Tt g0 s1))
 exact B0 (A0,s0,u0,v0) Z1 (Tt y0 E1) ⟨(Aq z0 E1),(Aq q0 (Tt g0 s1))⟩
 refine BG (m' :=223) (sk b0) rfl .plain rfl (AE [.bool false,vN] d0) fun H0 u0 c0 g0=>Bu 5 255 b0 rfl .plain (bd 153) rfl (e1 rfl) (fun p q=>ap_c n (c0.hL hL q) a0.fD C0) rfl fun E0 D0 t0 ⟨s0,hu_,q0⟩=>?_
 subst hu_
 obtain ⟨p0,j0⟩:=c0.agr t0
 obtain ⟨b2,u1⟩:=AH p0 (.a0 (.a0 .done))
 have F1:=Tt k0 (Tt g0 (Tt j0 u1))
 exact B0 (A0,s0,u0,v0) b2 (Tt y0 F1) ⟨(Aq z0 F1),(Aq q0 u1)⟩
 refine BG (m' :=159) (sk b0) rfl .plain rfl (AE [.bool false,vN] x0) fun H0 u0 c0 g0=>By [5,6] (rk b0) ⟨?_,?_,trivial⟩
 refine RO.call (m' :=191) (fst:=[]) (cap:=[]) (sk b0) rfl .plain (bd 153) rfl (e1 rfl) (fun p q=>ap_c n (c0.hL hL q) a0.fD C0) rfl fun E0 D0 t0 ⟨s0,hu_,q0⟩=>?_
 subst hu_
 obtain ⟨p0,j0⟩:=c0.agr t0
 refine BV 6 255 b0 rfl .plain rfl (AE [.bool false,vN] p0) fun I0 v0 d0 k0=>?_
 obtain ⟨c2,v1⟩:=AH d0 (.a1 (.a0 .done))
 have G1:=Tt g0 (Tt j0 (Tt k0 v1))
 exact B0 (A0,s0,u0,v0) c2 (Tt y0 G1) ⟨(Aq z0 G1),(Aq q0 (Tt k0 v1))⟩
 refine BG (m' :=223) (sk b0) rfl .plain rfl (AE [.bool false,vN] c0) fun I0 v0 d0 k0=>Bu 5 255 b0 rfl .plain (bd 153) rfl (e1 rfl) (fun p q=>ap_c n (d0.hL hL q) a0.fD C0) rfl fun E0 D0 t0 ⟨s0,hu_,q0⟩=>?_
 subst hu_
 obtain ⟨p0,j0⟩:=d0.agr t0
 obtain ⟨d2,x1⟩:=AH p0 (.a1 (.a0 .done))
 have H1:=Tt g0 (Tt k0 (Tt j0 x1))
 exact B0 (A0,s0,u0,v0) d2 (Tt y0 H1) ⟨(Aq z0 H1),(Aq q0 x1)⟩
 refine BG (m' :=91) (sk b0) rfl .plain rfl (AE [.bool false,vN] M0) fun I0 v0 d0 k0=>By [2,7] (rk b0) ⟨?_,?_,trivial⟩
 refine RO.call (m' :=95) (fst:=[]) (cap:=[]) (sk b0) rfl .plain (bd 153) rfl (e1 rfl) (fun p q=>ap_c n (d0.hL hL q) a0.fN U0) rfl fun X0 W0 F0 ⟨A0,hu_,z0⟩=>?_
 subst hu_
 obtain ⟨x0,y0⟩:=d0.agr F0
 refine By [5,7] (rk b0) ⟨?_,?_,trivial⟩
 refine RO.call (m' :=127) (fst:=[]) (cap:=[]) (sk b0) rfl .plain (bd 153) rfl (e1 rfl) (fun p q=>ap_c n (x0.hL hL q) a0.fD C0) rfl fun E0 D0 t0 ⟨s0,hu_,q0⟩=>?_
 subst hu_
 obtain ⟨p0,j0⟩:=x0.agr t0
 refine BV 7 255 b0 rfl .plain rfl (AE [.bool false,vN] p0) fun H0 u0 c0 g0=>?_
 obtain ⟨g2,y1⟩:=AH c0 (.a0 (.a0 .done))
 have I1:=Tt j0 (Tt g0 y1)
 exact B0 (A0,s0,u0,v0) g2 (Tt k0 (Tt y0 I1)) ⟨(Aq z0 I1),(Aq q0 (Tt g0 y1))⟩
 refine BG (m' :=223) (sk b0) rfl .plain rfl (AE [.bool false,vN] x0) fun H0 u0 c0 g0=>Bu 5 255 b0 rfl .plain (bd 153) rfl (e1 rfl) (fun p q=>ap_c n (c0.hL hL q) a0.fD C0) rfl fun E0 D0 t0 ⟨s0,hu_,q0⟩=>?_
 subst hu_
 obtain ⟨p0,j0⟩:=c0.agr t0
 obtain ⟨j2,z1⟩:=AH p0 (.a0 (.a0 .done))
 have J1:=Tt g0 (Tt j0 z1)
 exact B0 (A0,s0,u0,v0) j2 (Tt k0 (Tt y0 J1)) ⟨(Aq z0 J1),(Aq q0 z1)⟩
 refine BG (m' :=219) (sk b0) rfl .plain rfl (AE [.bool false,vN] d0) fun H0 u0 c0 g0=>Bu 2 223 b0 rfl .plain (bd 153) rfl (e1 rfl) (fun p q=>ap_c n (c0.hL hL q) a0.fN U0) rfl fun X0 W0 F0 ⟨A0,hu_,z0⟩=>?_
 subst hu_
 obtain ⟨x0,y0⟩:=c0.agr F0
 refine Bu 5 255 b0 rfl .plain (bd 153) rfl (e1 rfl) (fun p q=>ap_c n (x0.hL hL q) a0.fD C0) rfl fun E0 D0 t0 ⟨s0,hu_,q0⟩=>?_
 subst hu_
 obtain ⟨p0,j0⟩:=x0.agr t0
 obtain ⟨k2,c1⟩:=AH p0 (.a0 (.a0 .done))
 exact B0 (A0,s0,u0,v0) k2 (Tt k0 (Tt g0 (Tt y0 (Tt j0 c1)))) ⟨(Aq z0 (Tt j0 c1)),(Aq q0 c1)⟩
 refine BG (m' :=155) (sk b0) rfl .plain rfl (AE [.bool false,vN] M0) fun H0 u0 c0 g0=>By [2,6] (rk b0) ⟨?_,?_,trivial⟩
 refine RO.call (m' :=159) (fst:=[]) (cap:=[]) (sk b0) rfl .plain (bd 153) rfl (e1 rfl) (fun p q=>ap_c n (c0.hL hL q) a0.fN U0) rfl fun X0 W0 F0 ⟨A0,hu_,z0⟩=>?_
 subst hu_
 obtain ⟨x0,y0⟩:=c0.agr F0
 refine By [5,6] (rk b0) ⟨?_,?_,trivial⟩
 refine RO.call (m' :=191) (fst:=[]) (cap:=[]) (sk b0) rfl .plain (bd 153) rfl (e1 rfl) (fun p q=>ap_c n (x0.hL hL q) a0.fD C0) rfl fun E0 D0 t0 ⟨s0,hu_,q0⟩=>?_
 subst hu_
 obtain ⟨p0,j0⟩:=x0.agr t0
 refine BV 6 255 b0 rfl .plain rfl (AE [.bool false,vN] p0) fun I0 v0 d0 k0=>?_
 obtain ⟨p2,A1⟩:=AH d0 (.a1 (.a0 .done))
 have K1:=Tt j0 (Tt k0 A1)
 exact B0 (A0,s0,u0,v0) p2 (Tt g0 (Tt y0 K1)) ⟨(Aq z0 K1),(Aq q0 (Tt k0 A1))⟩
 refine BG (m' :=223) (sk b0) rfl .plain rfl (AE [.bool false,vN] x0) fun I0 v0 d0 k0=>Bu 5 255 b0 rfl .plain (bd 153) rfl (e1 rfl) (fun p q=>ap_c n (d0.hL hL q) a0.fD C0) rfl fun E0 D0 t0 ⟨s0,hu_,q0⟩=>?_
 subst hu_
 obtain ⟨p0,j0⟩:=d0.agr t0
 obtain ⟨q2,B1⟩:=AH p0 (.a1 (.a0 .done))
 have M1:=Tt k0 (Tt j0 B1)
 exact B0 (A0,s0,u0,v0) q2 (Tt g0 (Tt y0 M1)) ⟨(Aq z0 M1),(Aq q0 B1)⟩
 refine BG (m' :=219) (sk b0) rfl .plain rfl (AE [.bool false,vN] c0) fun I0 v0 d0 k0=>Bu 2 223 b0 rfl .plain (bd 153) rfl (e1 rfl) (fun p q=>ap_c n (d0.hL hL q) a0.fN U0) rfl fun X0 W0 F0 ⟨A0,hu_,z0⟩=>?_
 subst hu_
 obtain ⟨x0,y0⟩:=d0.agr F0
 refine Bu 5 255 b0 rfl .plain (bd 153) rfl (e1 rfl) (fun p q=>ap_c n (x0.hL hL q) a0.fD C0) rfl fun E0 D0 t0 ⟨s0,hu_,q0⟩=>?_
 subst hu_
 obtain ⟨p0,j0⟩:=x0.agr t0
 obtain ⟨s2,d1⟩:=AH p0 (.a1 (.a0 .done))
 exact B0 (A0,s0,u0,v0) s2 (Tt g0 (Tt k0 (Tt y0 (Tt j0 d1)))) ⟨(Aq z0 (Tt j0 d1)),(Aq q0 d1)⟩
def aw_l1 (_n:Nat) (a1:List Int) (c0:Nat) (a0:List Int) (q0:UInt64 × Nat × (List Int) -> Option ((List Int) × UInt64)):UInt64 × Nat × (List Int) -> Option ((List Int) × UInt64)
  | (d0,b0,g0)=>(if b0 < a1.length then (g0[c0 + b0]?).bind fun j0=>(a0[c0]?).bind fun k0=>(a1[b0]?).bind fun p0=>(put g0 ((c0 + b0:Nat):Int) (az (((d0 + (ab j0)) + ((ab k0) * (ab p0))) % (4294967296:UInt64)))).bind fun s0=>q0 (((d0 + (ab j0)) + ((ab k0) * (ab p0))) / (4294967296:UInt64),b0 + 1,s0) else some (g0,d0))
def aw_l2 (n:Nat) (a0:List Int) (a1:List Int) (g0:Nat × (List Int) -> Option (List Int)):Nat × (List Int) -> Option (List Int)
  | (b0,c0)=>(if b0 < a0.length then Option.bind (ah (aw_l1 n a1 b0 a0) n (0,0,c0)) (fun (d0,j0)=>(d0[b0 + a1.length]?).bind fun _x537=>(put d0 ((b0 + a1.length:Nat):Int) (az j0)).bind fun k0=>g0 (b0 + 1,k0)) else some c0)
def aw_p (n:Nat) (a0:List Int) (a1:List Int):Option (List Int):=
  (mk ((a0.length + a1.length:Nat):Int) (0:Int)).bind fun b0=>Option.bind (ah (aw_l2 n a0 a1) n (0,b0)) (fun c0=>(az_p n c0).bind fun d0=>some d0)
theorem aw_c (n:Nat) {L w} (hL:hl L w) {a0:List Int} {v0_0:Value} (h0_0:Rep.R w L [v0_0] a0) {a1:List Int} {v1_0:Value} (h1_0:Rep.R w L [v1_0] a1)  {r:List Int} (h:aw_p n a0 a1 = some r) :
 Cl 186 #[v0_0,v1_0] w (ae w fun w' u=>∃ v0_0:Value,u = v0_0/\Rep.R w' L [v0_0] r):=by
 unfold aw_p at h
 refine AF func186 rfl rfl rfl fun _ cs0 hb0=>Ae<|Af rfl<|Aa<|Ae<|Ac rfl ?_
 have hl1:a0.length <= 281474976710656:=AS h0_0
 refine Ab (AW (xs:=a0) underlying52 rfl h0_0)<|Ac rfl ?_
 have hl2:a1.length <= 281474976710656:=AS h1_0
 refine Ab (AW (xs:=a1) underlying52 rfl h1_0)<|Ab (Bf (i:=a0.length) (j:=a1.length) rfl rfl (by omega))<|bk h fun V0 Q0 h=>Ao .plain rfl (Does.mk (α:=Int) Q0 (AC w) ay rfl) fun V2 x0 G0 J2=>Af rfl<|Aa<|Ai<|Ae<|Af rfl<|Aa<|Au ?_
 obtain ⟨Q2,W1,K1⟩:=ao h
 refine MX.lf (α:=Nat × (List Int) × (List Value)) (fun ⟨d0,k0,p0⟩=>[(0,v0_0),(1,v1_0),(5,(.slice (some ⟨x0,0,none⟩) ((a0.length + a1.length:Nat):Int).toNat ((a0.length + a1.length:Nat):Int).toNat)),(6,vI ((d0:Nat):Int))]) (fun ⟨d0,k0,p0⟩=>[rr w 3 Int (.slice (some ⟨x0,0,none⟩) ((a0.length + a1.length:Nat):Int).toNat ((a0.length + a1.length:Nat):Int).toNat) k0.length p0]) (fun ⟨d0,k0,p0⟩ R0=>Cells R0 (bl [rr w 3 Int (.slice (some ⟨x0,0,none⟩) ((a0.length + a1.length:Nat):Int).toNat ((a0.length + a1.length:Nat):Int).toNat) k0.length p0] ++ L) p0 k0) (fun ⟨d0,k0,p0⟩=>(d0,k0)) (0,V0,(List.replicate ((a0.length + a1.length:Nat):Int).toNat [vI 0]).flatten) W1 G0 (AB (cs:=(List.replicate ((a0.length + a1.length:Nat):Int).toNat [vI 0]).flatten) (xs:=V0) G0 L (Cells.mk Q0 rfl)) ?_
 rintro B2 ⟨d0,k0,p0⟩ R0 s1 z0 y1 J0 h
 unfold aw_l2 at h
 try dsimp only at h
 refine Ai<|Ae<|Ac rfl<|Ac rfl<|Ab (AW (xs:=a0) underlying52 rfl (AM h0_0 z0))<|Ab (Bj (i:=d0) (j:=a0.length) rfl rfl)<|Aa<|AO rfl h (fun b1 h=>?_) (fun b1 h=>?_)
 refine Ap<|Ai<|Au<|Ae<|Af rfl<|Aa<|Ai<|Ae<|Af rfl<|Aa<|Au ?_
 obtain ⟨R2,X1,M1⟩:=ao h
 refine MX.lf (α:=UInt64 × Nat × (List Int) × (List Value)) (fun ⟨j0,g0,v0,y0⟩=>[(0,v0_0),(1,v1_0),(5,(.slice (some ⟨x0,0,none⟩) ((a0.length + a1.length:Nat):Int).toNat ((a0.length + a1.length:Nat):Int).toNat)),(6,vI ((d0:Nat):Int)),(7,vU j0),(8,vI ((g0:Nat):Int))]) (fun ⟨j0,g0,v0,y0⟩=>[rr w 3 Int (.slice (some ⟨x0,0,none⟩) ((a0.length + a1.length:Nat):Int).toNat ((a0.length + a1.length:Nat):Int).toNat) v0.length y0]) (fun ⟨j0,g0,v0,y0⟩ U0=>Cells U0 (bl [rr w 3 Int (.slice (some ⟨x0,0,none⟩) ((a0.length + a1.length:Nat):Int).toNat ((a0.length + a1.length:Nat):Int).toNat) v0.length y0] ++ L) y0 v0) (fun ⟨j0,g0,v0,y0⟩=>(j0,g0,v0)) (0,0,k0,p0) X1 z0 J0 ?_
 rintro C2 ⟨j0,g0,v0,y0⟩ U0 u1 q0 I0 A0 h
 unfold aw_l1 at h
 try dsimp only at h
 refine Ai<|Ae<|Ac rfl<|Ac rfl ?_
 have F0:=AM h1_0 q0
 refine Ab (AW (xs:=a1) underlying52 rfl F0)<|Ab (Bj (i:=g0) (j:=a1.length) rfl rfl)<|Aa<|AO rfl h (fun c1 h=>?_) (fun c1 h=>?_)
 refine Ap<|Ai<|Au<|Ai<|du 22 fun b0 c0=>Rv 0 b0 rfl c0 (fun _=>Ah rfl)<|Rv 1 b0 rfl c0 (fun _=>Ah rfl)<|Rv 2 b0 rfl c0 (fun _=>Ah rfl)<|Rv 3 b0 rfl c0 (fun _=>Ah rfl)<|Rv 4 b0 rfl c0 (fun _=>Bf (i:=d0) (j:=g0) rfl rfl (by omega))<|bk h fun s0 g2 h=>?_
 obtain ⟨W0,D2,B0,E0,d1,Y1,R1⟩:=St.nth (α:=Int) q0 .hd A0 g2
 obtain ⟨Y0,E2,K0⟩:=BL (α:=Int) q0 .hd E0
 obtain rfl:W0 = ⟨Y0,0,none⟩:=by rw [K0] at B0; cases B0; rfl
 have E1:d1 = [vI s0]:=Y1; subst E1
 refine Rv 5 b0 rfl c0 (fun _=>Bi 1 (d0 + g0) rfl B0 rfl rfl E0)<|Rx 6 3146112 b0 rfl c0 (AN rfl (R1 0 _ rfl))<|Rv 7 b0 rfl c0 (fun _=>FV.convU (i:=s0) underlying3 underlying28 rfl)<|Rv 8 b0 rfl c0 (fun _=>FV.addU (a:=j0) (b:=ab s0) rfl rfl)<|Rv 9 b0 rfl c0 (fun _=>Ah rfl)<|Rv 10 b0 rfl c0 (fun _=>Ah rfl)<|bk h fun t0 j2 h=>?_
 obtain ⟨z2,F2,F1,P1,g1,Z1,U1⟩:=Bg (AM h0_0 q0) j2
 have G1:g1 = [vI t0]:=Z1; subst G1
 refine Rv 11 b0 rfl c0 (fun _=>Bi 1 d0 rfl F1 rfl rfl P1)<|Rx 12 3678208 b0 rfl c0 (AN rfl (U1 0 _ rfl))<|Rv 13 b0 rfl c0 (fun _=>FV.convU (i:=t0) underlying3 underlying28 rfl)<|Rv 14 b0 rfl c0 (fun _=>Ah rfl)<|Rv 15 b0 rfl c0 (fun _=>Ah rfl)<|bk h fun u0 k2 h=>?_
 obtain ⟨A2,G2,H1,Q1,j1,b2,V1⟩:=Bg F0 k2
 have I1:j1 = [vI u0]:=b2; subst I1
 refine Rv 16 b0 rfl c0 (fun _=>Bi 1 g0 rfl H1 rfl rfl Q1)<|Rx 17 3932160 b0 rfl c0 (AN rfl (V1 0 _ rfl))<|Rv 18 b0 rfl c0 (fun _=>FV.convU (i:=u0) underlying3 underlying28 rfl)<|Rv 19 b0 rfl c0 (fun _=>FV.mulU (a:=ab t0) (b:=ab u0) rfl rfl)<|Rv 20 b0 rfl c0 (fun _=>FV.addU (a:=j0 + (ab s0)) (b:=(ab t0) * (ab u0)) rfl rfl)<|Rv 21 b0 rfl c0 (fun _=>Bm rfl)<|AR (dk b0)<|Ae<|Ac rfl<|Ac rfl<|Ac rfl<|Ab (Bf (i:=d0) (j:=g0) rfl rfl (by omega))<|Ac rfl<|Ab (FV.remU (a:=(j0 + (ab s0)) + ((ab t0) * (ab u0))) (b:=(4294967296:UInt64)) rfl rfl (by decide))<|Ab (FV.convUI (a:=((j0 + (ab s0)) + ((ab t0) * (ab u0))) % (4294967296:UInt64)) underlying28 underlying3 rfl)<|Ab (Bi 1 (d0 + g0) rfl B0 rfl rfl E0)<|bk h fun x2 q2 h=>RG.acts' .plain (Acts.set (α:=Int) (i:=d0 + g0) q2 q0 K0 (fun _=>.hd) A0 rfl rfl rfl rfl rfl rfl) fun W2 ⟨k1,v1,z1,C1⟩=>Aa<|Am<|Ac rfl<|Ab (FV.quoU (a:=(j0 + (ab s0)) + ((ab t0) * (ab u0))) (b:=(4294967296:UInt64)) rfl rfl (by decide))<|Af rfl<|Aa<|Aw<|Am<|Ac rfl<|Ab (Bf (i:=g0) (j:=1) rfl rfl (by omega))<|Af rfl<|Aa<|u1 (((j0 + (ab s0)) + ((ab t0) * (ab u0))) / (4294967296:UInt64),g0 + 1,x2,k1) v1 (Tt I0 z1) C1 h
 refine AV rfl ?_
 have h:=M1 _ h
 try dsimp only at h
 refine Am<|Ac rfl<|Ac rfl<|Ac rfl<|Ab (AW (xs:=a1) underlying52 rfl F0)<|Ab (Bf (i:=d0) (j:=a1.length) rfl rfl (by omega))<|Ac rfl<|Ab (FV.convUI (a:=j0) underlying28 underlying3 rfl)<|bk h fun v2 p2 h=>?_
 obtain ⟨X0,H2,D0,P0,p1,c2,P2⟩:=St.nth (α:=Int) q0 .hd A0 p2
 obtain ⟨Z0,I2,M0⟩:=BL (α:=Int) q0 .hd P0
 obtain rfl:X0 = ⟨Z0,0,none⟩:=by rw [M0] at D0; cases D0; rfl
 have J1:p1 = [vI v2]:=c2; subst J1
 refine Ab (Bi 1 (d0 + a1.length) rfl D0 rfl rfl P0)<|bk h fun y2 s2 h=>RG.acts' .plain (Acts.set (α:=Int) (i:=d0 + a1.length) s2 q0 M0 (fun _=>.hd) A0 rfl rfl rfl rfl rfl rfl) fun X2 ⟨q1,x1,A1,D1⟩=>Aa<|Aw<|Am<|Ac rfl<|Ab (Bf (i:=d0) (j:=1) rfl rfl (by omega))<|Af rfl<|Aa<|s1 (d0 + 1,y2,q1) x1 (Tt y1 (Tt I0 A1)) D1 h
 refine AV rfl ?_
 have h:=K1 _ h
 try dsimp only at h
 refine Ae<|Ac rfl ?_
 have C0:=Bq z0 .hd
 have K2:=Br z0 .hd
 refine bk h fun Z2 t2 h=>jE (bd 181) rfl (e1 rfl) (fun p q=>az_c n (C0.hL hL q) (Av (Bs (α:=Int) (v:=(.slice (some ⟨x0,0,none⟩) ((a0.length + a1.length:Nat):Int).toNat ((a0.length + a1.length:Nat):Int).toNat)) (xs:=k0) C0 L (Ba (α:=Int) z0 .hd J0 hL)) q) t2) rfl fun Y2 u2 B1 ⟨U2,hu_,d2⟩=>?_
 subst hu_
 obtain ⟨H0,M2⟩:=C0.agr B1
 refine Af rfl<|Aa<|Ak rfl<|AQ hb0 func186 rfl rfl ?_
 cases h
 exact ⟨H0.ag,fun p q=>⟨u2,rfl,H0.kd d2 q⟩⟩
def aF_p (n:Nat) (a0:Td) (a1:Td):Option Td:=
  (aw_p n a0.fD a1.fD).bind fun b0=>(aa_p n (!(a0.fc == a1.fc)) b0).bind fun c0=>some c0
theorem aF_c (n:Nat) {L w} (hL:hl L w) (a0:Td) {v0_1:Value} (h0_1:Rep.R w L [v0_1] a0.fD) (a1:Td) {v1_1:Value} (h1_1:Rep.R w L [v1_1] a1.fD)  {r:Td} (h:aF_p n a0 a1 = some r) :
 Cl 158 #[.agg #[.bool a0.fc,v0_1],.agg #[.bool a1.fc,v1_1]] w (ae w fun w' u=>∃ v0_1:Value,u = .agg #[.bool r.fc,v0_1]/\Rep.R w' L [v0_1] r.fD):=by
 unfold aF_p at h
 refine AF func158 rfl rfl rfl fun _ cs0 hb0=>Ae<|RG.bx (AC w) rfl rfl fun Q0 C0 s0 F0=>RG.bx s0 rfl rfl fun R0 D0 t0 G0=>RG.nl [.bool false,vN] t0 fun U0 E0 d0 H0=>Aa<|Ai<|du 11 fun b0 c0=>Rv 0 b0 rfl c0 (fun _=>Be 0 rfl)<|Rx 1 3088 b0 rfl c0 (AN rfl ((d0.memA .t2) 0 _ rfl))<|Rv 2 b0 rfl c0 (fun _=>Be 0 rfl)<|Rx 3 3088 b0 rfl c0 (AN rfl ((d0.memA .t1) 0 _ rfl))<|Rv 4 b0 rfl c0 (fun _=>FV.neqB (a:=a0.fc) (b:=a1.fc) underlying4 rfl rfl)<|Rv 5 b0 rfl c0 (fun _=>Be 1 rfl)<|Rx 6 3584 b0 rfl c0 (AN rfl ((d0.memA .t2) 1 _ rfl))<|Rv 7 b0 rfl c0 (fun _=>Be 1 rfl)<|Rx 8 3584 b0 rfl c0 (AN rfl ((d0.memA .t1) 1 _ rfl))<|bk h fun Y0 A0 h=>Bu 9 1023 b0 rfl .plain (bd 186) rfl (e2 rfl rfl) (fun p q=>aw_c n (d0.hL hL q) (d0.km h0_1 q) (d0.km h1_1 q) A0) rfl fun V0 M0 x0 ⟨K0,hu_,z0⟩=>?_
 subst hu_
 obtain ⟨k0,I0⟩:=d0.agr x0
 refine bk h fun q0 B0 h=>Bu 10 2047 b0 rfl .plain (bd 179) rfl (e2 rfl rfl) (fun p q=>aa_c n (k0.hL hL q) (Av z0 q) B0) rfl fun W0 P0 y0 ⟨j0,hu_,p0⟩=>?_
 subst hu_
 obtain ⟨u0,J0⟩:=k0.agr y0
 refine BB 11 4095 b0 rfl rfl .plain (AD (news:=[.bool q0.fc,j0]) u0 .hd rfl rfl rfl rfl rfl rfl (o2 rfl (AY p0))) fun X0 g0 v0=>AR (dk b0)<|Ak rfl<|Ar hb0 func158 rfl (.cons (.many (cs:=[.bool q0.fc,j0]) rfl rfl (g0.memA .hd)) .nil) rfl ?_
 cases h
 exact ⟨g0.ag,fun p q=>⟨j0,rfl,g0.kd (Aq p0 v0) q⟩⟩
def cy_p (n:Nat) (a0:Tg) (a1:Tg):Option Tg:=
  (aF_p n a0.fN a1.fN).bind fun b0=>(aF_p n a0.fD a1.fD).bind fun c0=>(aZ_p n b0 c0).bind fun d0=>some d0
theorem cy_c (n:Nat) {L w} (hL:hl L w) (a0:Tg) {v0_1:Value} (h0_1:Rep.R w L [v0_1] a0.fN.fD) {v0_3:Value} (h0_3:Rep.R w L [v0_3] a0.fD.fD) (a1:Tg) {v1_1:Value} (h1_1:Rep.R w L [v1_1] a1.fN.fD) {v1_3:Value} (h1_3:Rep.R w L [v1_3] a1.fD.fD)  {r:Tg} (h:cy_p n a0 a1 = some r) :
 Cl 116 #[.agg #[.bool a0.fN.fc,v0_1,.bool a0.fD.fc,v0_3],.agg #[.bool a1.fN.fc,v1_1,.bool a1.fD.fc,v1_3]] w (ae w fun w' u=>∃ v0_1 v0_3:Value,u = .agg #[.bool r.fN.fc,v0_1,.bool r.fD.fc,v0_3]/\Rep.R w' L [v0_1] r.fN.fD/\Rep.R w' L [v0_3] r.fD.fD):=by
 unfold cy_p at h
 refine AF func116 rfl rfl rfl fun _ cs0 hb0=>Ae<|RG.bx (AC w) rfl rfl fun g1 M0 x0 R0=>RG.bx x0 rfl rfl fun j1 P0 y0 U0=>RG.nl [.bool false,vN,.bool false,vN] y0 fun k1 Q0 c0 V0=>Aa<|Ai<|du 11 fun b0 d0=>Rv 0 b0 rfl d0 (fun _=>Be 0 rfl)<|Rx 1 3600 b0 rfl d0 (Bo (cs:=[.bool a0.fN.fc,v0_1]) rfl rfl (ai (c0.memA .t2) 0 2))<|Rv 2 b0 rfl d0 (fun _=>Be 0 rfl)<|Rx 3 3600 b0 rfl d0 (Bo (cs:=[.bool a1.fN.fc,v1_1]) rfl rfl (ai (c0.memA .t1) 0 2))<|Rv 5 b0 rfl d0 (fun _=>Be 2 rfl)<|Rx 6 3584 b0 rfl d0 (Bo (cs:=[.bool a0.fD.fc,v0_3]) rfl rfl (ai (c0.memA .t2) 2 2))<|Rv 7 b0 rfl d0 (fun _=>Be 2 rfl)<|Rx 8 3584 b0 rfl d0 (Bo (cs:=[.bool a1.fD.fc,v1_3]) rfl rfl (ai (c0.memA .t1) 2 2))<|bk h fun J0 G0 h=>Bu 4 511 b0 rfl .plain (bd 158) rfl (e2 rfl rfl) (fun p q=>aF_c n (c0.hL hL q) a0.fN (c0.km h0_1 q) a1.fN (c0.km h1_1 q) G0) rfl fun p1 b1 B0 ⟨Y0,hu_,E0⟩=>?_
 subst hu_
 obtain ⟨g0,W0⟩:=c0.agr B0
 refine bk h fun K0 H0 h=>Bu 9 1023 b0 rfl .plain (bd 158) rfl (e2 rfl rfl) (fun p q=>aF_c n (g0.hL hL q) a0.fD (g0.km h0_3 q) a1.fD (g0.km h1_3 q) H0) rfl fun q1 c1 C0 ⟨Z0,hu_,F0⟩=>?_
 subst hu_
 obtain ⟨s0,A0⟩:=g0.agr C0
 refine bk h fun k0 I0 h=>Bu 10 2047 b0 rfl .plain (bd 157) rfl (e2 rfl rfl) (fun p q=>aZ_c n (s0.hL hL q) J0 (Av (Aq E0 A0) q) K0 (Av F0 q) I0) rfl fun s1 d1 D0 ⟨p0,q0,hu_,u0,v0⟩=>?_
 subst hu_
 obtain ⟨z0,X0⟩:=s0.agr D0
 refine BB 11 4095 b0 rfl rfl .plain (AD (news:=[.bool k0.fN.fc,p0,.bool k0.fD.fc,q0]) z0 .hd rfl rfl rfl rfl rfl rfl (o4 rfl (AY u0) rfl (AY v0))) fun u1 j0 t0=>AR (dk b0)<|Ak rfl<|Ar hb0 func116 rfl (.cons (.many (cs:=[.bool k0.fN.fc,p0,.bool k0.fD.fc,q0]) rfl rfl (j0.memA .hd)) .nil) rfl ?_
 cases h
 exact ⟨j0.ag,fun p q=>⟨p0,q0,rfl,j0.kd (Aq u0 t0) q,j0.kd (Aq v0 t0) q⟩⟩
def bg_p (n:Nat) (a0:Tb):Option Tg:=
  (ap_p n a0.fN).bind fun b0=>(ap_p n a0.fD).bind fun c0=>some (⟨b0,c0⟩:Tg)
theorem bg_c (n:Nat) {L w} (hL:hl L w) (a0:Tb)  {r:Tg} (h:bg_p n a0 = some r) :
 Cl 117 #[.agg ((ac a0)).toArray] w (ae w fun w' u=>∃ v0_1 v0_3:Value,u = .agg #[.bool r.fN.fc,v0_1,.bool r.fD.fc,v0_3]/\Rep.R w' L [v0_1] r.fN.fD/\Rep.R w' L [v0_3] r.fD.fD):=by
 unfold bg_p at h
 refine AF func117 rfl rfl rfl fun _ cs0 hb0=>Ae<|RG.bx (AC w) rfl rfl fun X0 J0 z0 Q0=>RG.nl [.bool false,vN,.bool false,vN] z0 fun Y0 K0 j0 R0=>Aa<|Ai<|du 7 fun b0 c0=>Rv 0 b0 rfl c0 (fun _=>Be 0 rfl)<|Rx 1 228 b0 rfl c0 (Bo (cs:=(ak a0.fN)) rfl rfl (ai (j0.memA .t1) 0 8))<|Rv 3 b0 rfl c0 (fun _=>Be 8 rfl)<|Rx 4 224 b0 rfl c0 (Bo (cs:=(ak a0.fD)) rfl rfl (ai (j0.memA .t1) 8 8))<|bk h fun p0 F0 h=>Bu 2 31 b0 rfl .plain (bd 153) rfl (e1 rfl) (fun p q=>ap_c n (j0.hL hL q) a0.fN F0) rfl fun Z0 V0 B0 ⟨d0,hu_,y0⟩=>?_
 subst hu_
 obtain ⟨t0,U0⟩:=j0.agr B0
 refine bk h fun q0 G0 h=>Bu 5 63 b0 rfl .plain (bd 153) rfl (e1 rfl) (fun p q=>ap_c n (t0.hL hL q) a0.fD G0) rfl fun b1 W0 C0 ⟨g0,hu_,s0⟩=>?_
 subst hu_
 obtain ⟨A0,u0⟩:=t0.agr C0
 have x0:=Aq y0 u0
 obtain ⟨H0,M0,D0,_⟩:=BI x0
 obtain ⟨I0,P0,E0,_⟩:=BI s0
 refine Rv 6 b0 rfl c0 (fun _=>AU (vs:=[.agg #[.bool p0.fc,d0],.agg #[.bool q0.fc,g0]]) (u:=.agg #[.bool p0.fc,d0,.bool q0.fc,g0]) (e2 rfl rfl) (fun p=>by rw [D0,E0]; try kernel_rfl))<|BB 7 255 b0 rfl rfl .plain (AD (news:=[.bool p0.fc,d0,.bool q0.fc,g0]) A0 .hd rfl rfl rfl rfl rfl rfl (o4 rfl (AY x0) rfl (AY s0))) fun c1 k0 v0=>AR (dk b0)<|Ak rfl<|Ar hb0 func117 rfl (.cons (.many (cs:=[.bool p0.fc,d0,.bool q0.fc,g0]) rfl rfl (k0.memA .hd)) .nil) rfl ?_
 cases h
 exact ⟨k0.ag,fun p q=>⟨d0,g0,rfl,k0.kd (Aq y0 (Tt u0 v0)) q,k0.kd (Aq s0 v0) q⟩⟩
def cK_p (n:Nat) (a0:Tb) (a1:Tb):Option (Tb × Int):=
  (aJ_p n a0).bind fun c0=>(if c0 = true then (aJ_p n a1).bind fun d0=>(if d0 = true then (bg_p n a0).bind fun g0=>(bg_p n a1).bind fun j0=>(cy_p n g0 j0).bind fun k0=>(bC_p n k0).bind fun b0=>some (b0.1,b0.2) else some ((⟨(0,0,0,0,0,0,0,0),(0,0,0,0,0,0,0,0)⟩:Tb),(20:Int))) else some ((⟨(0,0,0,0,0,0,0,0),(0,0,0,0,0,0,0,0)⟩:Tb),(20:Int)))
theorem cK_c (n:Nat) {L w} (hL:hl L w) (a0:Tb) (a1:Tb)  {r:Tb × Int} (h:cK_p n a0 a1 = some r) :
 Cl 75 #[.agg ((ac a0)).toArray,.agg ((ac a1)).toArray] w (ae w fun _ u=>u = .tuple #[.agg ((ac r.1)).toArray,vI r.2]):=by
 unfold cK_p at h
 refine AF func75 rfl rfl rfl fun _ cs0 hb0=>Ae<|RG.bx (AC w) rfl rfl fun F1 Z0 y0 d1=>RG.bx y0 rfl rfl fun G1 b1 z0 g1=>RG.nl zL z0 fun H1 c1 c0 j1=>Af rfl<|Aa<|Ai<|Ae<|Ab (AK rfl (c0.memA .t2))<|bk h fun U0 J0 h=>Bk (.bool U0) (bd 114) rfl (e1 rfl) (fun p q=>aJ_c n (c0.hL0 hL q) a0 J0) rfl<|Ab (Bp rfl)<|Ac rfl<|RG.ifnb (s:=9) rfl h (fun v0 h=>?_) (fun v0 h=>?_)
 refine Az (AK rfl (c0.memA .t1))<|bk h fun V0 K0 h=>RG.callq' (v:=.bool V0) (fst:=[]) (cap:=[]) (.yes rfl rfl) (bd 114) rfl (e1 rfl) (fun p q=>aJ_c n (c0.hL0 hL q) a1 K0) rfl<|Az (Bp rfl)<|Bn rfl rfl<|Aa<|BU rfl h (fun x0 h=>?_) (fun x0 h=>?_)
 refine Ap<|Ai<|du 8 fun b0 d0=>Rx 0 1018 b0 rfl d0 (AK rfl (c0.memA .t2))<|Rx 2 1016 b0 rfl d0 (AK rfl (c0.memA .t1))<|bk h fun W0 M0 h=>Bu 1 7 b0 rfl .plain (bd 117) rfl (e1 rfl) (fun p q=>bg_c n (c0.hL hL q) a0 M0) rfl fun w32 C1 A0 ⟨v1,x1,hu_,D0,E0⟩=>?_
 subst hu_
 obtain ⟨k0,k1⟩:=c0.agr A0
 refine bk h fun X0 P0 h=>Bu 3 15 b0 rfl .plain (bd 117) rfl (e1 rfl) (fun p q=>bg_c n (k0.hL hL q) a1 P0) rfl fun I1 D1 B0 ⟨y1,z1,hu_,F0,G0⟩=>?_
 subst hu_
 obtain ⟨p0,u0⟩:=k0.agr B0
 refine bk h fun Y0 Q0 h=>Bu 4 31 b0 rfl .plain (bd 116) rfl (e2 rfl rfl) (fun p q=>cy_c n (p0.hL hL q) W0 (Av (Aq D0 u0) q) (Av (Aq E0 u0) q) X0 (Av F0 q) (Av G0 q) Q0) rfl fun J1 E1 C0 ⟨A1,B1,hu_,H0,I0⟩=>?_
 subst hu_
 obtain ⟨g0,p1⟩:=p0.agr C0
 refine bk h fun j0 R0 h=>RD.cq 5 63 960 (.tuple #[.agg ((ac j0.1)).toArray,vI j0.2]) b0 rfl d0 (bd 115) rfl (e1 rfl) (fun p q=>bC_c n (g0.hL0 hL q) Y0 (g0.kd H0 q) (g0.kd I0 q) R0) rfl<|Rv 6 b0 rfl d0 (fun _=>Aj rfl rfl)<|Rv 7 b0 rfl d0 (fun _=>Aj rfl rfl)<|BB 8 511 b0 rfl rfl .plain (AD (news:=(ac j0.1)) g0 .hd rfl rfl rfl rfl rfl rfl (aq rfl)) fun K1 q0 q1=>Rv 9 b0 rfl d0 (fun _=>Bm rfl)<|AR (dk b0)<|Ak rfl<|Ar hb0 func75 rfl (.cons (.many (cs:=(ac j0.1)) rfl rfl (q0.memA .hd)) (.cons (.tmp rfl) .nil)) rfl ?_
 cases h
 exact q0.gv
 refine Ae<|Ab (AU (vs:=[]) (u:=.agg zM) am (fun p=>by kernel_rfl))<|AX zL c0 .hd (aq rfl) fun M1 s0 s1=>Af rfl<|Aa<|Ak rfl<|Ar hb0 func75 rfl (.cons (.many (cs:=zL) rfl rfl (s0.memA .hd)) (.cons (.tmp rfl) .nil)) rfl ?_
 cases h
 exact s0.gv
 refine Al<|Al<|Al<|Bl rfl rfl<|Aa<|AZ rfl<|Ae<|Ab (AU (vs:=[]) (u:=.agg zM) am (fun p=>by kernel_rfl))<|AX zL c0 .hd (aq rfl) fun P1 t0 u1=>Af rfl<|Aa<|Ak rfl<|Ar hb0 func75 rfl (.cons (.many (cs:=zL) rfl rfl (t0.memA .hd)) (.cons (.tmp rfl) .nil)) rfl ?_
 cases h
 exact t0.gv
def cC_p (n:Nat) (a0:Tg) (a1:Tg):Option Tg:=
  (aF_p n a0.fN a1.fD).bind fun b0=>(aF_p n a1.fN a0.fD).bind fun c0=>(bt_p n b0 c0).bind fun d0=>(aF_p n a0.fD a1.fD).bind fun g0=>(aZ_p n d0 g0).bind fun j0=>some j0
theorem cC_c (n:Nat) {L w} (hL:hl L w) (a0:Tg) {v0_1:Value} (h0_1:Rep.R w L [v0_1] a0.fN.fD) {v0_3:Value} (h0_3:Rep.R w L [v0_3] a0.fD.fD) (a1:Tg) {v1_1:Value} (h1_1:Rep.R w L [v1_1] a1.fN.fD) {v1_3:Value} (h1_3:Rep.R w L [v1_3] a1.fD.fD)  {r:Tg} (h:cC_p n a0 a1 = some r) :
 Cl 118 #[.agg #[.bool a0.fN.fc,v0_1,.bool a0.fD.fc,v0_3],.agg #[.bool a1.fN.fc,v1_1,.bool a1.fD.fc,v1_3]] w (ae w fun w' u=>∃ v0_1 v0_3:Value,u = .agg #[.bool r.fN.fc,v0_1,.bool r.fD.fc,v0_3]/\Rep.R w' L [v0_1] r.fN.fD/\Rep.R w' L [v0_3] r.fD.fD):=by
 unfold cC_p at h
 refine AF func118 rfl rfl rfl fun _ cs0 hb0=>Ae<|RG.bx (AC w) rfl rfl fun F1 c1 z0 j1=>RG.bx z0 rfl rfl fun G1 d1 A0 k1=>RG.nl [.bool false,vN,.bool false,vN] A0 fun H1 g1 d0 p1=>Aa<|Ai<|du 17 fun b0 c0=>Rv 0 b0 rfl c0 (fun _=>Be 0 rfl)<|Rx 1 230928 b0 rfl c0 (Bo (cs:=[.bool a0.fN.fc,v0_1]) rfl rfl (ai (d0.memA .t2) 0 2))<|Rv 2 b0 rfl c0 (fun _=>Be 2 rfl)<|Rx 3 230928 b0 rfl c0 (Bo (cs:=[.bool a1.fD.fc,v1_3]) rfl rfl (ai (d0.memA .t1) 2 2))<|Rv 5 b0 rfl c0 (fun _=>Be 0 rfl)<|Rx 6 230912 b0 rfl c0 (Bo (cs:=[.bool a1.fN.fc,v1_1]) rfl rfl (ai (d0.memA .t1) 0 2))<|Rv 7 b0 rfl c0 (fun _=>Be 2 rfl)<|Rx 8 230912 b0 rfl c0 (Bo (cs:=[.bool a0.fD.fc,v0_3]) rfl rfl (ai (d0.memA .t2) 2 2))<|Rv 11 b0 rfl c0 (fun _=>Be 2 rfl)<|Rx 12 229376 b0 rfl c0 (Bo (cs:=[.bool a0.fD.fc,v0_3]) rfl rfl (ai (d0.memA .t2) 2 2))<|Rv 13 b0 rfl c0 (fun _=>Be 2 rfl)<|Rx 14 229376 b0 rfl c0 (Bo (cs:=[.bool a1.fD.fc,v1_3]) rfl rfl (ai (d0.memA .t1) 2 2))<|bk h fun X0 Q0 h=>Bu 4 31231 b0 rfl .plain (bd 158) rfl (e2 rfl rfl) (fun p q=>aF_c n (d0.hL hL q) a0.fN (d0.km h0_1 q) a1.fD (d0.km h1_3 q) Q0) rfl fun I1 A1 E0 ⟨v1,hu_,J0⟩=>?_
 subst hu_
 obtain ⟨g0,q1⟩:=d0.agr E0
 refine bk h fun Y0 R0 h=>Bu 9 31743 b0 rfl .plain (bd 158) rfl (e2 rfl rfl) (fun p q=>aF_c n (g0.hL hL q) a1.fN (g0.km h1_1 q) a0.fD (g0.km h0_3 q) R0) rfl fun J1 B1 F0 ⟨x1,hu_,K0⟩=>?_
 subst hu_
 obtain ⟨t0,C0⟩:=g0.agr F0
 refine bk h fun Z0 U0 h=>Bu 10 32767 b0 rfl .plain (bd 159) rfl (e2 rfl rfl) (fun p q=>bt_c n (t0.hL hL q) X0 (Av (Aq J0 C0) q) Y0 (Av K0 q) U0) rfl fun K1 C1 G0 ⟨y1,hu_,M0⟩=>?_
 subst hu_
 obtain ⟨j0,s1⟩:=t0.agr G0
 refine bk h fun b1 V0 h=>Bu 15 65535 b0 rfl .plain (bd 158) rfl (e2 rfl rfl) (fun p q=>aF_c n (j0.hL hL q) a0.fD (j0.km h0_3 q) a1.fD (j0.km h1_3 q) V0) rfl fun M1 D1 H0 ⟨z1,hu_,P0⟩=>?_
 subst hu_
 obtain ⟨u0,D0⟩:=j0.agr H0
 refine bk h fun p0 W0 h=>Bu 16 131071 b0 rfl .plain (bd 157) rfl (e2 rfl rfl) (fun p q=>aZ_c n (u0.hL hL q) Z0 (Av (Aq M0 D0) q) b1 (Av P0 q) W0) rfl fun P1 E1 I0 ⟨q0,s0,hu_,x0,y0⟩=>?_
 subst hu_
 obtain ⟨B0,u1⟩:=u0.agr I0
 refine BB 17 262143 b0 rfl rfl .plain (AD (news:=[.bool p0.fN.fc,q0,.bool p0.fD.fc,s0]) B0 .hd rfl rfl rfl rfl rfl rfl (o4 rfl (AY x0) rfl (AY y0))) fun Q1 k0 v0=>AR (dk b0)<|Ak rfl<|Ar hb0 func118 rfl (.cons (.many (cs:=[.bool p0.fN.fc,q0,.bool p0.fD.fc,s0]) rfl rfl (k0.memA .hd)) .nil) rfl ?_
 cases h
 exact ⟨k0.ag,fun p q=>⟨q0,s0,rfl,k0.kd (Aq x0 v0) q,k0.kd (Aq y0 v0) q⟩⟩
def cL_p (n:Nat) (a0:Tb) (a1:Tb):Option (Tb × Int):=
  (aJ_p n a0).bind fun c0=>(if c0 = true then (aJ_p n a1).bind fun d0=>(if d0 = true then (bg_p n a0).bind fun g0=>(bg_p n a1).bind fun j0=>(cC_p n g0 j0).bind fun k0=>(bC_p n k0).bind fun b0=>some (b0.1,b0.2) else some ((⟨(0,0,0,0,0,0,0,0),(0,0,0,0,0,0,0,0)⟩:Tb),(20:Int))) else some ((⟨(0,0,0,0,0,0,0,0),(0,0,0,0,0,0,0,0)⟩:Tb),(20:Int)))
theorem cL_c (n:Nat) {L w} (hL:hl L w) (a0:Tb) (a1:Tb)  {r:Tb × Int} (h:cL_p n a0 a1 = some r) :
 Cl 76 #[.agg ((ac a0)).toArray,.agg ((ac a1)).toArray] w (ae w fun _ u=>u = .tuple #[.agg ((ac r.1)).toArray,vI r.2]):=by
 unfold cL_p at h
 refine AF func76 rfl rfl rfl fun _ cs0 hb0=>Ae<|RG.bx (AC w) rfl rfl fun F1 Z0 y0 d1=>RG.bx y0 rfl rfl fun G1 b1 z0 g1=>RG.nl zL z0 fun H1 c1 c0 j1=>Af rfl<|Aa<|Ai<|Ae<|Ab (AK rfl (c0.memA .t2))<|bk h fun U0 J0 h=>Bk (.bool U0) (bd 114) rfl (e1 rfl) (fun p q=>aJ_c n (c0.hL0 hL q) a0 J0) rfl<|Ab (Bp rfl)<|Ac rfl<|RG.ifnb (s:=9) rfl h (fun v0 h=>?_) (fun v0 h=>?_)
 refine Az (AK rfl (c0.memA .t1))<|bk h fun V0 K0 h=>RG.callq' (v:=.bool V0) (fst:=[]) (cap:=[]) (.yes rfl rfl) (bd 114) rfl (e1 rfl) (fun p q=>aJ_c n (c0.hL0 hL q) a1 K0) rfl<|Az (Bp rfl)<|Bn rfl rfl<|Aa<|BU rfl h (fun x0 h=>?_) (fun x0 h=>?_)
 refine Ap<|Ai<|du 8 fun b0 d0=>Rx 0 1018 b0 rfl d0 (AK rfl (c0.memA .t2))<|Rx 2 1016 b0 rfl d0 (AK rfl (c0.memA .t1))<|bk h fun W0 M0 h=>Bu 1 7 b0 rfl .plain (bd 117) rfl (e1 rfl) (fun p q=>bg_c n (c0.hL hL q) a0 M0) rfl fun w32 C1 A0 ⟨v1,x1,hu_,D0,E0⟩=>?_
 subst hu_
 obtain ⟨k0,k1⟩:=c0.agr A0
 refine bk h fun X0 P0 h=>Bu 3 15 b0 rfl .plain (bd 117) rfl (e1 rfl) (fun p q=>bg_c n (k0.hL hL q) a1 P0) rfl fun I1 D1 B0 ⟨y1,z1,hu_,F0,G0⟩=>?_
 subst hu_
 obtain ⟨p0,u0⟩:=k0.agr B0
 refine bk h fun Y0 Q0 h=>Bu 4 31 b0 rfl .plain (bd 118) rfl (e2 rfl rfl) (fun p q=>cC_c n (p0.hL hL q) W0 (Av (Aq D0 u0) q) (Av (Aq E0 u0) q) X0 (Av F0 q) (Av G0 q) Q0) rfl fun J1 E1 C0 ⟨A1,B1,hu_,H0,I0⟩=>?_
 subst hu_
 obtain ⟨g0,p1⟩:=p0.agr C0
 refine bk h fun j0 R0 h=>RD.cq 5 63 960 (.tuple #[.agg ((ac j0.1)).toArray,vI j0.2]) b0 rfl d0 (bd 115) rfl (e1 rfl) (fun p q=>bC_c n (g0.hL0 hL q) Y0 (g0.kd H0 q) (g0.kd I0 q) R0) rfl<|Rv 6 b0 rfl d0 (fun _=>Aj rfl rfl)<|Rv 7 b0 rfl d0 (fun _=>Aj rfl rfl)<|BB 8 511 b0 rfl rfl .plain (AD (news:=(ac j0.1)) g0 .hd rfl rfl rfl rfl rfl rfl (aq rfl)) fun K1 q0 q1=>Rv 9 b0 rfl d0 (fun _=>Bm rfl)<|AR (dk b0)<|Ak rfl<|Ar hb0 func76 rfl (.cons (.many (cs:=(ac j0.1)) rfl rfl (q0.memA .hd)) (.cons (.tmp rfl) .nil)) rfl ?_
 cases h
 exact q0.gv
 refine Ae<|Ab (AU (vs:=[]) (u:=.agg zM) am (fun p=>by kernel_rfl))<|AX zL c0 .hd (aq rfl) fun M1 s0 s1=>Af rfl<|Aa<|Ak rfl<|Ar hb0 func76 rfl (.cons (.many (cs:=zL) rfl rfl (s0.memA .hd)) (.cons (.tmp rfl) .nil)) rfl ?_
 cases h
 exact s0.gv
 refine Al<|Al<|Al<|Bl rfl rfl<|Aa<|AZ rfl<|Ae<|Ab (AU (vs:=[]) (u:=.agg zM) am (fun p=>by kernel_rfl))<|AX zL c0 .hd (aq rfl) fun P1 t0 u1=>Af rfl<|Aa<|Ak rfl<|Ar hb0 func76 rfl (.cons (.many (cs:=zL) rfl rfl (t0.memA .hd)) (.cons (.tmp rfl) .nil)) rfl ?_
 cases h
 exact t0.gv
def cV_p (_n:Nat) (a0:Tg):Option Bool:=
  some (decide (a0.fN.fD.length = 0))
theorem cV_c (n:Nat) {L w} (_hL:hl L w) (a0:Tg) {v0_1:Value} (h0_1:Rep.R w L [v0_1] a0.fN.fD) {v0_3:Value} (_h0_3:Rep.R w L [v0_3] a0.fD.fD)  {r:Bool} (h:cV_p n a0 = some r) :
 Cl 119 #[.agg #[.bool a0.fN.fc,v0_1,.bool a0.fD.fc,v0_3]] w (ae w fun _ u=>u = .bool r):=by
 unfold cV_p at h
 refine AF func119 rfl rfl rfl fun _ cs0 hb0=>Ae<|RG.bx (AC w) rfl rfl fun k0 d0 b0 g0=>Af rfl<|Aa<|Ae<|AT 0 rfl<|AT 1 rfl<|AL rfl ((eS (b0.memA .hd) 0) 1 _ rfl) ?_
 have c0:=AM h0_1 b0
 have j0:a0.fN.fD.length <= 281474976710656:=AS c0
 refine Ab (AW (xs:=a0.fN.fD) underlying52 rfl c0)<|Ab (BF (i:=a0.fN.fD.length) (j:=0) rfl rfl)<|Af rfl<|Aa<|Ak rfl<|AQ hb0 func119 rfl rfl ?_
 cases h
 exact b0.gv
def cD_p (n:Nat) (a0:Tg) (a1:Tg):Option Tg:=
  (aF_p n a0.fN a1.fD).bind fun b0=>(aF_p n a0.fD a1.fN).bind fun c0=>(aZ_p n b0 c0).bind fun d0=>some d0
theorem cD_c (n:Nat) {L w} (hL:hl L w) (a0:Tg) {v0_1:Value} (h0_1:Rep.R w L [v0_1] a0.fN.fD) {v0_3:Value} (h0_3:Rep.R w L [v0_3] a0.fD.fD) (a1:Tg) {v1_1:Value} (h1_1:Rep.R w L [v1_1] a1.fN.fD) {v1_3:Value} (h1_3:Rep.R w L [v1_3] a1.fD.fD)  {r:Tg} (h:cD_p n a0 a1 = some r) :
 Cl 120 #[.agg #[.bool a0.fN.fc,v0_1,.bool a0.fD.fc,v0_3],.agg #[.bool a1.fN.fc,v1_1,.bool a1.fD.fc,v1_3]] w (ae w fun w' u=>∃ v0_1 v0_3:Value,u = .agg #[.bool r.fN.fc,v0_1,.bool r.fD.fc,v0_3]/\Rep.R w' L [v0_1] r.fN.fD/\Rep.R w' L [v0_3] r.fD.fD):=by
 unfold cD_p at h
 refine AF func120 rfl rfl rfl fun _ cs0 hb0=>Ae<|RG.bx (AC w) rfl rfl fun g1 M0 x0 R0=>RG.bx x0 rfl rfl fun j1 P0 y0 U0=>RG.nl [.bool false,vN,.bool false,vN] y0 fun k1 Q0 c0 V0=>Aa<|Ai<|du 11 fun b0 d0=>Rv 0 b0 rfl d0 (fun _=>Be 0 rfl)<|Rx 1 3600 b0 rfl d0 (Bo (cs:=[.bool a0.fN.fc,v0_1]) rfl rfl (ai (c0.memA .t2) 0 2))<|Rv 2 b0 rfl d0 (fun _=>Be 2 rfl)<|Rx 3 3600 b0 rfl d0 (Bo (cs:=[.bool a1.fD.fc,v1_3]) rfl rfl (ai (c0.memA .t1) 2 2))<|Rv 5 b0 rfl d0 (fun _=>Be 2 rfl)<|Rx 6 3584 b0 rfl d0 (Bo (cs:=[.bool a0.fD.fc,v0_3]) rfl rfl (ai (c0.memA .t2) 2 2))<|Rv 7 b0 rfl d0 (fun _=>Be 0 rfl)<|Rx 8 3584 b0 rfl d0 (Bo (cs:=[.bool a1.fN.fc,v1_1]) rfl rfl (ai (c0.memA .t1) 0 2))<|bk h fun J0 G0 h=>Bu 4 511 b0 rfl .plain (bd 158) rfl (e2 rfl rfl) (fun p q=>aF_c n (c0.hL hL q) a0.fN (c0.km h0_1 q) a1.fD (c0.km h1_3 q) G0) rfl fun p1 b1 B0 ⟨Y0,hu_,E0⟩=>?_
 subst hu_
 obtain ⟨g0,W0⟩:=c0.agr B0
 refine bk h fun K0 H0 h=>Bu 9 1023 b0 rfl .plain (bd 158) rfl (e2 rfl rfl) (fun p q=>aF_c n (g0.hL hL q) a0.fD (g0.km h0_3 q) a1.fN (g0.km h1_1 q) H0) rfl fun q1 c1 C0 ⟨Z0,hu_,F0⟩=>?_
 subst hu_
 obtain ⟨s0,A0⟩:=g0.agr C0
 refine bk h fun k0 I0 h=>Bu 10 2047 b0 rfl .plain (bd 157) rfl (e2 rfl rfl) (fun p q=>aZ_c n (s0.hL hL q) J0 (Av (Aq E0 A0) q) K0 (Av F0 q) I0) rfl fun s1 d1 D0 ⟨p0,q0,hu_,u0,v0⟩=>?_
 subst hu_
 obtain ⟨z0,X0⟩:=s0.agr D0
 refine BB 11 4095 b0 rfl rfl .plain (AD (news:=[.bool k0.fN.fc,p0,.bool k0.fD.fc,q0]) z0 .hd rfl rfl rfl rfl rfl rfl (o4 rfl (AY u0) rfl (AY v0))) fun u1 j0 t0=>AR (dk b0)<|Ak rfl<|Ar hb0 func120 rfl (.cons (.many (cs:=[.bool k0.fN.fc,p0,.bool k0.fD.fc,q0]) rfl rfl (j0.memA .hd)) .nil) rfl ?_
 cases h
 exact ⟨j0.ag,fun p q=>⟨p0,q0,rfl,j0.kd (Aq u0 t0) q,j0.kd (Aq v0 t0) q⟩⟩
def cM_p (n:Nat) (a0:Tb) (a1:Tb):Option (Tb × Int):=
  (aJ_p n a0).bind fun d0=>(if d0 = true then (aJ_p n a1).bind fun g0=>(if g0 = true then (bg_p n a1).bind fun b0=>(cV_p n b0).bind fun j0=>(if j0 = true then some ((⟨(0,0,0,0,0,0,0,0),(0,0,0,0,0,0,0,0)⟩:Tb),(7:Int)) else (bg_p n a0).bind fun k0=>(cD_p n k0 b0).bind fun p0=>(bC_p n p0).bind fun c0=>some (c0.1,c0.2)) else some ((⟨(0,0,0,0,0,0,0,0),(0,0,0,0,0,0,0,0)⟩:Tb),(20:Int))) else some ((⟨(0,0,0,0,0,0,0,0),(0,0,0,0,0,0,0,0)⟩:Tb),(20:Int)))
theorem cM_c (n:Nat) {L w} (hL:hl L w) (a0:Tb) (a1:Tb)  {r:Tb × Int} (h:cM_p n a0 a1 = some r) :
 Cl 77 #[.agg ((ac a0)).toArray,.agg ((ac a1)).toArray] w (ae w fun _ u=>u = .tuple #[.agg ((ac r.1)).toArray,vI r.2]):=by
 unfold cM_p at h
 refine AF func77 rfl rfl rfl fun _ cs0 hb0=>Ae<|RG.bx (AC w) rfl rfl fun V1 v1 F0 A1=>RG.bx F0 rfl rfl fun W1 x1 G0 B1=>RG.nl zL G0 fun X1 y1 c0 C1=>Af rfl<|Aa<|Ai<|Ae<|Ab (AK rfl (c0.memA .t2))<|bk h fun k1 W0 h=>Bk (.bool k1) (bd 114) rfl (e1 rfl) (fun p q=>aJ_c n (c0.hL0 hL q) a0 W0) rfl<|Ab (Bp rfl)<|Ac rfl<|RG.ifnb (s:=10) rfl h (fun C0 h=>?_) (fun C0 h=>?_)
 refine Az (AK rfl (c0.memA .t1))<|bk h fun p1 X0 h=>RG.callq' (v:=.bool p1) (fst:=[]) (cap:=[]) (.yes rfl rfl) (bd 114) rfl (e1 rfl) (fun p q=>aJ_c n (c0.hL0 hL q) a1 X0) rfl<|Az (Bp rfl)<|Bn rfl rfl<|Aa<|BU rfl h (fun D0 h=>?_) (fun D0 h=>?_)
 refine Ap<|Ae<|Ab (AK rfl (c0.memA .t1))<|bk h fun p0 Y0 h=>jE (bd 117) rfl (e1 rfl) (fun p q=>bg_c n (c0.hL hL q) a1 Y0) rfl fun Y1 Q1 K0 ⟨g1,j1,hu_,t0,u0⟩=>?_
 subst hu_
 obtain ⟨H0,D1⟩:=c0.agr K0
 refine RG.nl [.bool false,vN,.bool false,vN] H0 fun Z1 z1 I0 j0=>AX [.bool p0.fN.fc,g1,.bool p0.fD.fc,j1] I0 .hd (o4 rfl (AY (Aq t0 j0)) rfl (AY (Aq u0 j0))) fun b2 d0 s0=>Aa<|Ai<|Ae<|Ab (AK rfl (d0.memA .hd))<|bk h fun q1 Z0 h=>Bk (.bool q1) (bd 119) rfl (e1 rfl) (fun p q=>cV_c n (d0.hL0 hL q) p0 (d0.kd (Aq t0 (Tt j0 s0)) q) (d0.kd (Aq u0 (Tt j0 s0)) q) Z0) rfl<|Aa<|MX.ifb rfl h (fun E0 h=>?_) (fun E0 h=>?_)
 refine Ae<|Ab (AU (vs:=[]) (u:=.agg zM) am (fun p=>by kernel_rfl))<|AX zL d0 .t1 (aq rfl) fun c2 v0 E1=>Af rfl<|Aa<|Ak rfl<|Ar hb0 func77 rfl (.cons (.many (cs:=zL) rfl rfl (v0.memA .t1)) (.cons (.tmp rfl) .nil)) rfl ?_
 cases h
 exact v0.gv
 refine Ap<|Ai<|du 7 fun b0 g0=>Rx 0 506 b0 rfl g0 (AK rfl (d0.memA .t3))<|Rx 2 504 b0 rfl g0 (AK rfl (d0.memA .hd))<|bk h fun s1 b1 h=>Bu 1 7 b0 rfl .plain (bd 117) rfl (e1 rfl) (fun p q=>bg_c n (d0.hL hL q) a0 b1) rfl fun d2 R1 M0 ⟨J1,K1,hu_,Q0,R0⟩=>?_
 subst hu_
 obtain ⟨x0,J0⟩:=d0.agr M0
 refine bk h fun u1 c1 h=>?_
 have B0:=Tt j0 (Tt s0 J0)
 refine Bu 3 15 b0 rfl .plain (bd 120) rfl (e2 rfl rfl) (fun p q=>cD_c n (x0.hL hL q) s1 (Av Q0 q) (Av R0 q) p0 (Av (Aq t0 B0) q) (Av (Aq u0 B0) q) c1) rfl fun g2 U1 P0 ⟨M1,P1,hu_,U0,V0⟩=>?_
 subst hu_
 obtain ⟨k0,F1⟩:=x0.agr P0
 refine bk h fun q0 d1 h=>RD.cq 4 31 480 (.tuple #[.agg ((ac q0.1)).toArray,vI q0.2]) b0 rfl g0 (bd 115) rfl (e1 rfl) (fun p q=>bC_c n (k0.hL0 hL q) u1 (k0.kd U0 q) (k0.kd V0 q) d1) rfl<|Rv 5 b0 rfl g0 (fun _=>Aj rfl rfl)<|Rv 6 b0 rfl g0 (fun _=>Aj rfl rfl)<|BB 7 255 b0 rfl rfl .plain (AD (news:=(ac q0.1)) k0 .t1 rfl rfl rfl rfl rfl rfl (aq rfl)) fun j2 y0 G1=>Rv 8 b0 rfl g0 (fun _=>Bm rfl)<|AR (dk b0)<|Ak rfl<|Ar hb0 func77 rfl (.cons (.many (cs:=(ac q0.1)) rfl rfl (y0.memA .t1)) (.cons (.tmp rfl) .nil)) rfl ?_
 cases h
 exact y0.gv
 refine Ae<|Ab (AU (vs:=[]) (u:=.agg zM) am (fun p=>by kernel_rfl))<|AX zL c0 .hd (aq rfl) fun k2 z0 H1=>Af rfl<|Aa<|Ak rfl<|Ar hb0 func77 rfl (.cons (.many (cs:=zL) rfl rfl (z0.memA .hd)) (.cons (.tmp rfl) .nil)) rfl ?_
 cases h
 exact z0.gv
 refine Al<|Al<|Al<|Bl rfl rfl<|Aa<|AZ rfl<|Ae<|Ab (AU (vs:=[]) (u:=.agg zM) am (fun p=>by kernel_rfl))<|AX zL c0 .hd (aq rfl) fun p2 A0 I1=>Af rfl<|Aa<|Ak rfl<|Ar hb0 func77 rfl (.cons (.many (cs:=zL) rfl rfl (A0.memA .hd)) (.cons (.tmp rfl) .nil)) rfl ?_
 cases h
 exact A0.gv
def aq_l1 (n:Nat) (a0:List Ta) (a1:Te) (a2:List Int) (a3:Int) (F0:Nat × U16 -> Option ((Tb × Int) ⊕ (U16))):Nat × U16 -> Option ((Tb × Int) ⊕ (U16))
  | (c0,g0,j0,k0,p0,q0,s0,t0,u0,v0,x0,y0,z0,A0,B0,C0,D0)=>(if c0 < a0.length then (a0[c0]?).bind fun E0=>(bL_p n E0.fE (1:Int)).bind fun G0=>(aV_p n E0 a1 a2 a3).bind fun H0=>(cK_p n G0 H0).bind fun d0=>(if d0.2 = 0 then (cL_p n (⟨(g0,j0,k0,p0,q0,s0,t0,u0),(v0,x0,y0,z0,A0,B0,C0,D0)⟩:Tb) d0.1).bind fun b0=>(if b0.2 = 0 then F0 (c0 + 1,b0.1.fN.1,b0.1.fN.2.1,b0.1.fN.2.2.1,b0.1.fN.2.2.2.1,b0.1.fN.2.2.2.2.1,b0.1.fN.2.2.2.2.2.1,b0.1.fN.2.2.2.2.2.2.1,b0.1.fN.2.2.2.2.2.2.2,b0.1.fD.1,b0.1.fD.2.1,b0.1.fD.2.2.1,b0.1.fD.2.2.2.1,b0.1.fD.2.2.2.2.1,b0.1.fD.2.2.2.2.2.1,b0.1.fD.2.2.2.2.2.2.1,b0.1.fD.2.2.2.2.2.2.2) else some (.inl ((⟨(0,0,0,0,0,0,0,0),(0,0,0,0,0,0,0,0)⟩:Tb),b0.2))) else some (.inl ((⟨(0,0,0,0,0,0,0,0),(0,0,0,0,0,0,0,0)⟩:Tb),d0.2))) else some (.inr (g0,j0,k0,p0,q0,s0,t0,u0,v0,x0,y0,z0,A0,B0,C0,D0)))
def aq_l2 (_n:Nat) (a0:List Ta) (d0:Int × Nat -> Option Int):Int × Nat -> Option Int
  | (c0,b0)=>(if b0 < a0.length then (a0[b0]?).bind fun j0=>(chk (c0 + j0.fE)).bind fun g0=>d0 (g0,b0 + 1) else some c0)
def aq_p (n:Nat) (a0:List Ta) (a1:Te) (a2:List Int) (a3:Int):Option (Tb × Int):=
  (aD_p n a0 a1 a2 a3).bind fun c0=>(if c0 = 0 then Option.bind (ah (aq_l2 n a0) n (0,0)) (fun g0=>(if g0 = 0 then some ((⟨(0,0,0,0,0,0,0,0),(0,0,0,0,0,0,0,0)⟩:Tb),(7:Int)) else (bL_p n (0:Int) (1:Int)).bind fun b0=>thn (ah (aq_l1 n a0 a1 a2 a3) n (0,b0.fN.1,b0.fN.2.1,b0.fN.2.2.1,b0.fN.2.2.2.1,b0.fN.2.2.2.2.1,b0.fN.2.2.2.2.2.1,b0.fN.2.2.2.2.2.2.1,b0.fN.2.2.2.2.2.2.2,b0.fD.1,b0.fD.2.1,b0.fD.2.2.1,b0.fD.2.2.2.1,b0.fD.2.2.2.2.1,b0.fD.2.2.2.2.2.1,b0.fD.2.2.2.2.2.2.1,b0.fD.2.2.2.2.2.2.2)) (fun (j0,k0,p0,q0,s0,t0,u0,v0,x0,y0,z0,A0,B0,C0,D0,E0)=>(bL_p n g0 (1:Int)).bind fun F0=>(cM_p n (⟨(j0,k0,p0,q0,s0,t0,u0,v0),(x0,y0,z0,A0,B0,C0,D0,E0)⟩:Tb) F0).bind fun d0=>some (d0.1,d0.2)))) else some ((⟨(0,0,0,0,0,0,0,0),(0,0,0,0,0,0,0,0)⟩:Tb),c0))
theorem aq_c (n:Nat) {L w} (hL:hl L w) {a0:List Ta} {v0_0:Value} (h0_0:Rep.R w L [v0_0] a0) (a1:Te) {v1_3:Value} (h1_3:Rep.R w L [v1_3] a1.fm) {a2:List Int} {v2_0:Value} (h2_0:Rep.R w L [v2_0] a2) {a3:Int}  {r:Tb × Int} (h:aq_p n a0 a1 a2 a3 = some r) :
 Cl 37 #[v0_0,.agg #[vI a1.fh,vI a1.fe,vI a1.fj,v1_3],v2_0,vI a3] w (ae w fun _ u=>u = .tuple #[.agg ((ac r.1)).toArray,vI r.2]):=by
 unfold aq_p at h
 refine AF func37 rfl rfl rfl fun _ cs0 hb0=>Ae<|RG.bx (AC w) rfl rfl fun s3 V0 K1 W2=>RG.nl zL K1 fun t3 W0 u0 X2=>Af rfl<|Aa<|Ai<|Ae<|Ac rfl<|Ab (AK rfl (u0.memA .t1))<|Ac rfl<|Ac rfl<|bk h fun y1 x2 h=>Bk (vI y1) (bd 72) rfl (e4 rfl rfl rfl rfl) (fun p q=>aD_c n (u0.hL0 hL q) (u0.k0 h0_0 q) a1 (u0.k0 h1_3 q) (u0.k0 h2_0 q) x2) rfl<|Af rfl<|Aa<|Ae<|Ac rfl<|Ab (FV.neq (i:=y1) (j:=0) rfl rfl)<|Aa<|MX.ifn rfl h (fun C1 h=>?_) (fun C1 h=>?_)
 refine Ap<|Ae<|Af rfl<|Aa<|Ai<|Ae<|Af rfl<|Aa<|Au ?_
 obtain ⟨q3,k2,c2⟩:=ao h
 refine BT (α:=Int × Nat) (fun ⟨t0,q0⟩=>[(0,v0_0),(2,v2_0),(3,vI a3),(5,vP V0),(8,vP W0),(11,vI t0),(12,vI ((q0:Nat):Int))]) (fun ⟨t0,q0⟩=>[.cells W0 zL 42,.cells V0 [vI a1.fh,vI a1.fe,vI a1.fj,v1_3] 58]) (fun ⟨t0,q0⟩=>(t0,q0)) (0,0) k2 u0 ?_
 rintro M2 ⟨t0,q0⟩ G3 J1 R0 Z1 h
 unfold aq_l2 at h
 try dsimp only at h
 refine Ai<|Ae<|Ac rfl<|Ac rfl ?_
 have Z0:=AM h0_0 R0
 have k3:a0.length <= 281474976710656:=AS Z0
 refine Ab (AW (xs:=a0) underlying30 rfl Z0)<|Ab (Bj (i:=q0) (j:=a0.length) rfl rfl)<|Aa<|AO rfl h (fun G1 h=>?_) (fun G1 h=>?_)
 refine Ap<|Ai<|Au<|Am<|Ac rfl<|Ac rfl<|Ac rfl<|bk h fun H2 v2 h=>?_
 obtain ⟨J2,R2,b2,d2,V2,q2,g2⟩:=Bg Z0 v2
 obtain rfl:=bw q2
 refine Ab (Bi 3 q0 rfl b2 rfl rfl d2)<|AT 1 rfl<|AL rfl (g2 1 _ rfl)<|bk h fun F2 s2 h=>Ab (BE (i:=t0) (j:=H2.fE) rfl rfl s2)<|Af rfl<|Aa<|Aw<|Am<|Ac rfl<|Ab (Bf (i:=q0) (j:=1) rfl rfl (by omega))<|Af rfl<|Aa<|J1 (F2,q0 + 1) R0 Z1 h
 refine AV rfl ?_
 have h:=c2 _ h
 try dsimp only at h
 refine Ai<|Ae<|Ac rfl<|Ab (FV.eql (i:=t0) (j:=0) rfl rfl)<|Aa<|AO rfl h (fun H1 h=>?_) (fun H1 h=>?_)
 refine Ae<|Ab (AU (vs:=[]) (u:=.agg zM) am (fun p=>by kernel_rfl))<|AX zL R0 .hd (aq rfl) fun C3 q1 d3=>Af rfl<|Aa<|Ak rfl<|Ar hb0 func37 rfl (.cons (.many (cs:=zL) rfl rfl (q1.memA .hd)) (.cons (.tmp rfl) .nil)) rfl ?_
 cases h
 exact q1.gv
 refine Ap<|Ae<|bk h fun g0 E2 h=>Bk (.agg ((ac g0)).toArray) (bd 47) rfl (e2 rfl rfl) (fun p q=>bL_c n (R0.hL0 hL q)  E2) rfl<|RG.nl zL R0 fun D3 b1 Q1 g3=>AX (ac g0) Q1 .hd (aq rfl) fun E3 R1 j3=>Aa<|Ai<|Ae<|Af rfl<|Aa<|Au<|tn h fun p3 j2 Y0=>BT (α:=Nat × U16) (fun ⟨p0,x0,y0,z0,A0,B0,C0,D0,E0,F0,G0,H0,I0,J0,K0,M0,P0⟩=>[(0,v0_0),(2,v2_0),(3,vI a3),(5,vP V0),(8,vP W0),(11,vI t0),(13,vP b1),(14,vI ((p0:Nat):Int))]) (fun ⟨p0,x0,y0,z0,A0,B0,C0,D0,E0,F0,G0,H0,I0,J0,K0,M0,P0⟩=>[.cells b1 [vU x0,vU y0,vU z0,vU A0,vU B0,vU C0,vU D0,vU E0,vU F0,vU G0,vU H0,vU I0,vU J0,vU K0,vU M0,vU P0] 42,.cells W0 zL 42,.cells V0 [vI a1.fh,vI a1.fe,vI a1.fj,v1_3] 58]) (fun ⟨p0,x0,y0,z0,A0,B0,C0,D0,E0,F0,G0,H0,I0,J0,K0,M0,P0⟩=>(p0,x0,y0,z0,A0,B0,C0,D0,E0,F0,G0,H0,I0,J0,K0,M0,P0)) (0,g0.fN.1,g0.fN.2.1,g0.fN.2.2.1,g0.fN.2.2.2.1,g0.fN.2.2.2.2.1,g0.fN.2.2.2.2.2.1,g0.fN.2.2.2.2.2.2.1,g0.fN.2.2.2.2.2.2.2,g0.fD.1,g0.fD.2.1,g0.fD.2.2.1,g0.fD.2.2.2.1,g0.fD.2.2.2.2.1,g0.fD.2.2.2.2.2.1,g0.fD.2.2.2.2.2.2.1,g0.fD.2.2.2.2.2.2.2) j2 R1 ?_
 rintro K2 ⟨p0,x0,y0,z0,A0,B0,C0,D0,E0,F0,G0,H0,I0,J0,K0,M0,P0⟩ F3 I1 j0 U1 h
 unfold aq_l1 at h
 try dsimp only at h
 refine Ai<|Ae<|Ac rfl<|Ac rfl ?_
 have v1:=AM h0_0 j0
 refine Ab (AW (xs:=a0) underlying30 rfl v1)<|Ab (Bj (i:=p0) (j:=a0.length) rfl rfl)<|Aa<|AO rfl h (fun D1 h=>?_) (fun D1 h=>?_)
 refine Ap<|Ai<|Au<|Ai<|du 19 fun b0 d0=>Rv 0 b0 rfl d0 (fun _=>Ah rfl)<|Rv 1 b0 rfl d0 (fun _=>Ah rfl)<|bk h fun G2 u2 h=>?_
 obtain ⟨I2,Q2,s1,u1,U2,p2,x1⟩:=Bg v1 u2
 obtain rfl:=bw p2
 refine Rv 2 b0 rfl d0 (fun _=>Bi 3 p0 rfl s1 rfl rfl u1)<|Rv 3 b0 rfl d0 (fun _=>Be 1 rfl)<|Rx 4 1826848 b0 rfl d0 (AN rfl (x1 1 _ rfl))<|bk h fun z1 y2 h=>RD.cq 5 63 1826816 (.agg ((ac z1)).toArray) b0 rfl d0 (bd 47) rfl (e2 rfl rfl) (fun p q=>bL_c n (j0.hL0 hL q)  y2) rfl<|Rv 6 b0 rfl d0 (fun _=>Ah rfl)<|Rv 7 b0 rfl d0 (fun _=>Ah rfl)<|Rv 8 b0 rfl d0 (fun _=>Bi 3 p0 rfl s1 rfl rfl u1)<|Rx 9 1826816 b0 rfl d0 (AK rfl x1)<|Rx 10 1826816 b0 rfl d0 (AK rfl (j0.memA .t2))<|Rv 11 b0 rfl d0 (fun _=>Ah rfl)<|Rv 12 b0 rfl d0 (fun _=>Ah rfl)<|bk h fun A1 z2 h=>RD.cq 13 16383 1818624 (.agg ((ac A1)).toArray) b0 rfl d0 (bd 74) rfl (e4 rfl rfl rfl rfl) (fun p q=>aV_c n (j0.hL0 hL q) G2 a1 (j0.k0 h1_3 q) (j0.k0 h2_0 q) z2) rfl<|bk h fun U0 A2 h=>RD.cq 14 32767 1802240 (.tuple #[.agg ((ac U0.1)).toArray,vI U0.2]) b0 rfl d0 (bd 75) rfl (e2 rfl rfl) (fun p q=>cK_c n (j0.hL0 hL q) z1 A1 A2) rfl<|Rv 15 b0 rfl d0 (fun _=>Ah rfl)<|Rv 16 b0 rfl d0 (fun _=>Aj rfl rfl)<|Rv 17 b0 rfl d0 (fun _=>Aj rfl rfl)<|BV 18 524287 b0 rfl .plain rfl (AE zL j0) fun u3 P2 M1 V1=>BB 19 1048575 b0 rfl rfl .plain (AD (news:=(ac U0.1)) M1 .hd rfl rfl rfl rfl rfl rfl (aq rfl)) fun v3 Q0 W1=>Rv 20 b0 rfl d0 (fun _=>Bm rfl)<|AR (dk b0)<|Ai<|Ae<|Ac rfl<|Ab (FV.neq (i:=U0.2) (j:=0) rfl rfl)<|Aa<|MX.ifn rfl h (fun E1 h=>?_) (fun E1 h=>?_)
 refine Ap<|Ae<|Ab (AK rfl (Q0.memA .t1))<|Ab (AK rfl (Q0.memA .hd))<|bk h fun c0 B2 h=>Bk (.tuple #[.agg ((ac c0.1)).toArray,vI c0.2]) (bd 76) rfl (e2 rfl rfl) (fun p q=>cL_c n (Q0.hL0 hL q) (⟨(x0,y0,z0,A0,B0,C0,D0,E0),(F0,G0,H0,I0,J0,K0,M0,P0)⟩:Tb) U0.1 B2) rfl<|Ac rfl<|Ab (Aj rfl rfl)<|Ab (Aj rfl rfl)<|AX (ac c0.1) Q0 .t1 (aq rfl) fun x3 c1 X1=>Af rfl<|Aa<|Ae<|Ac rfl<|Ab (FV.neq (i:=c0.2) (j:=0) rfl rfl)<|Aa<|MX.ifn rfl h (fun F1 h=>?_) (fun F1 h=>?_)
 refine Ap<|Aw<|Am<|Ac rfl<|Ab (Bf (i:=p0) (j:=1) rfl rfl (by omega))<|Af rfl<|Aa ?_
 obtain ⟨P1,Y1⟩:=AH c1 .d1
 exact I1 (p0 + 1,c0.1.fN.1,c0.1.fN.2.1,c0.1.fN.2.2.1,c0.1.fN.2.2.2.1,c0.1.fN.2.2.2.2.1,c0.1.fN.2.2.2.2.2.1,c0.1.fN.2.2.2.2.2.2.1,c0.1.fN.2.2.2.2.2.2.2,c0.1.fD.1,c0.1.fD.2.1,c0.1.fD.2.2.1,c0.1.fD.2.2.2.1,c0.1.fD.2.2.2.2.1,c0.1.fD.2.2.2.2.2.1,c0.1.fD.2.2.2.2.2.2.1,c0.1.fD.2.2.2.2.2.2.2) P1 (Tt U1 (Tt V1 (Tt W1 (Tt X1 Y1)))) h
 refine Ae<|Ab (AU (vs:=[]) (u:=.agg zM) am (fun p=>by kernel_rfl))<|Ac rfl<|AX zL c1 .t2 (aq rfl) fun y3 g1 Y2=>Af rfl<|Aa ?_
 have h:=ap h Y0
 refine Ak rfl<|Ar hb0 func37 rfl (.cons (.many (cs:=zL) rfl rfl (g1.memA .t2)) (.cons (.tmp rfl) .nil)) rfl ?_
 cases h
 exact g1.gv
 refine Ae<|Ab (AU (vs:=[]) (u:=.agg zM) am (fun p=>by kernel_rfl))<|Ac rfl<|AX zL Q0 .t2 (aq rfl) fun z3 j1 Z2=>Af rfl<|Aa ?_
 have h:=ap h Y0
 refine Ak rfl<|Ar hb0 func37 rfl (.cons (.many (cs:=zL) rfl rfl (j1.memA .t2)) (.cons (.tmp rfl) .nil)) rfl ?_
 cases h
 exact j1.gv
 refine AV rfl ?_
 have h:=aA h Y0
 try dsimp only at h
 refine Ai<|du 6 fun s0 v0=>Rx 0 248 s0 rfl v0 (AK rfl (j0.memA .hd))<|Rv 1 s0 rfl v0 (fun _=>Ah rfl)<|bk h fun B1 C2 h=>RD.cq 2 7 248 (.agg ((ac B1)).toArray) s0 rfl v0 (bd 47) rfl (e2 rfl rfl) (fun p q=>bL_c n (j0.hL0 hL q)  C2) rfl<|bk h fun X0 D2 h=>RD.cq 3 15 240 (.tuple #[.agg ((ac X0.1)).toArray,vI X0.2]) s0 rfl v0 (bd 77) rfl (e2 rfl rfl) (fun p q=>cM_c n (j0.hL0 hL q) (⟨(x0,y0,z0,A0,B0,C0,D0,E0),(F0,G0,H0,I0,J0,K0,M0,P0)⟩:Tb) B1 D2) rfl<|Rv 4 s0 rfl v0 (fun _=>Aj rfl rfl)<|Rv 5 s0 rfl v0 (fun _=>Aj rfl rfl)<|BB 6 127 s0 rfl rfl .plain (AD (news:=(ac X0.1)) j0 .t1 rfl rfl rfl rfl rfl rfl (aq rfl)) fun A3 k1 b3=>Rv 7 s0 rfl v0 (fun _=>Bm rfl)<|AR (dk s0)<|Ak rfl<|Ar hb0 func37 rfl (.cons (.many (cs:=(ac X0.1)) rfl rfl (k1.memA .t1)) (.cons (.tmp rfl) .nil)) rfl ?_
 cases h
 exact k1.gv
 refine Ae<|Ab (AU (vs:=[]) (u:=.agg zM) am (fun p=>by kernel_rfl))<|Ac rfl<|AX zL u0 .hd (aq rfl) fun B3 p1 c3=>Af rfl<|Aa<|Ak rfl<|Ar hb0 func37 rfl (.cons (.many (cs:=zL) rfl rfl (p1.memA .hd)) (.cons (.tmp rfl) .nil)) rfl ?_
 cases h
 exact p1.gv
structure T84 where
  fl:List Ta
  fr:Te
  fp:List Int
  deriving DecidableEq
instance:Rep T84:=Rep.via (β:=(List Ta) × Te × (List Int)) fun x=>(x.fl,x.fr,x.fp)
theorem op_Te {w:World} {L:List Nat} {cs:List Value} {x:Te} (h:Rep.R w L cs x):∃ v3:Value,cs = [vI x.fh,vI x.fe,vI x.fj,v3]/\Rep.R w L [v3] x.fm:=by
  obtain ⟨c0,r0,rfl,h0,h⟩:=h
  have e0:c0 = [vI x.fh]:=h0; subst e0
  obtain ⟨c1,r1,rfl,h1,h⟩:=h
  have e1:c1 = [vI x.fe]:=h1; subst e1
  obtain ⟨c2,r2,rfl,h2,h⟩:=h
  have e2:c2 = [vI x.fj]:=h2; subst e2
  obtain ⟨v3,rfl,kv3⟩:=bc (xs:=x.fm) h
  exact ⟨v3,rfl,kv3⟩
theorem mk_Te {w:World} {L:List Nat} (a0:Int) (a1:Int) (a2:Int) (a3:List Tc) {u3:Value} (h3:Rep.R w L [u3] a3):Rep.R w L [vI a0,vI a1,vI a2,u3] (⟨a0,a1,a2,a3⟩:Te):=⟨[vI a0],[vI a1,vI a2,u3],rfl,rfl,⟨[vI a1],[vI a2,u3],rfl,rfl,⟨[vI a2],[u3],rfl,rfl,h3⟩⟩⟩
theorem op_T84 {w:World} {L:List Nat} {cs:List Value} {x:T84} (h:Rep.R w L cs x):∃ v0 v4 v5:Value,cs = [v0,vI x.fr.fh,vI x.fr.fe,vI x.fr.fj,v4,v5]/\Rep.R w L [v0] x.fl/\Rep.R w L [v4] x.fr.fm/\Rep.R w L [v5] x.fp:=by
  obtain ⟨c0,r0,rfl,h0,h⟩:=h
  obtain ⟨v0,rfl,kv0⟩:=bc (xs:=x.fl) h0
  obtain ⟨c1,r1,rfl,h1,h⟩:=h
  obtain ⟨v4,rfl,kv4⟩:=op_Te (x:=x.fr) h1
  obtain ⟨v5,rfl,kv5⟩:=bc (xs:=x.fp) h
  exact ⟨v0,v4,v5,rfl,kv0,kv4,kv5⟩
theorem iV {w:World} {L:List Nat} (a0:List Ta) {u0:Value} (h0:Rep.R w L [u0] a0) (a1:Te) {u4:Value} (h4:Rep.R w L [u4] a1.fm) (a2:List Int) {u5:Value} (h5:Rep.R w L [u5] a2):Rep.R w L [u0,vI a1.fh,vI a1.fe,vI a1.fj,u4,u5] (⟨a0,a1,a2⟩:T84):=⟨[u0],[vI a1.fh,vI a1.fe,vI a1.fj,u4,u5],rfl,h0,⟨[vI a1.fh,vI a1.fe,vI a1.fj,u4],[u5],rfl,mk_Te a1.fh a1.fe a1.fj a1.fm h4,h5⟩⟩
def ab_l1 (n:Nat) (c0:(List (List UInt64)) × Int) (k0:(List (List UInt64)) × Int) (d0:Nat -> Option ((Bool ⊕ Unit) ⊕ Unit)):Nat -> Option ((Bool ⊕ Unit) ⊕ Unit)
  | b0=>(if b0 < c0.1.length then (c0.1[b0]?).bind fun g0=>(k0.1[b0]?).bind fun j0=>(ay_p n g0 j0).bind fun p0=>(if p0 = true then d0 (b0 + 1) else some (.inl (.inl false))) else some (.inr ()))
def ab_l2 (n:Nat) (p0:List Ta) (k0:Te) (c0:(List Int) × Int) (D0:List Ta) (z0:Te) (A0:List Int) (y0:Nat -> Option (Bool ⊕ Unit)):Nat -> Option (Bool ⊕ Unit)
  | d0=>(if d0 < 4 then (([(⟨p0,k0,c0.1⟩:T84),(⟨D0,k0,c0.1⟩:T84),(⟨p0,z0,c0.1⟩:T84),(⟨p0,k0,A0⟩:T84)]:List T84)[d0]?).bind fun b0=>(bD_p n b0.fl b0.fr b0.fp c0.2).bind fun q0=>(bc_p n b0.fl b0.fr b0.fp c0.2).bind fun s0=>(bs_p n b0.fl b0.fr b0.fp c0.2).bind fun g0=>(aX_p n b0.fl b0.fr b0.fp c0.2).bind fun j0=>(aK_p n q0.1 s0.1).bind fun B0=>(if B0 = true then (if q0.2 = s0.2 then (if g0.2 = j0.2 then (if g0.1.length = j0.1.length then thn (ah (ab_l1 n g0 j0) n 0) (fun _=>(aO_p n b0.fl b0.fr b0.fp c0.2).bind fun t0=>(aL_p n b0.fl b0.fr b0.fp c0.2).bind fun u0=>(cm_p n b0.fl b0.fr b0.fp c0.2).bind fun v0=>(aq_p n b0.fl b0.fr b0.fp c0.2).bind fun x0=>(ae_p n t0.1 u0.1).bind fun C0=>(if C0 = true then (if t0.2 = u0.2 then (if v0.1 = x0.1 then (if v0.2 = x0.2 then y0 (d0 + 1) else some (.inl false)) else some (.inl false)) else some (.inl false)) else some (.inl false))) else some (.inl false)) else some (.inl false)) else some (.inl false)) else some (.inl false)) else some (.inr ()))
def ab_p (n:Nat) (a0:Tk) (a1:Tj) (a2:Tp) (a3:TBend) (a4:Tl) (a5:Tl):Option Bool:=
  (cN_p n).bind fun k0=>(if k0 = true then (ai_p n a0).bind fun b0=>(ac_p n a1 ((b0.1.length:Nat):Int)).bind fun c0=>(aS_p n a2 ((b0.1.length:Nat):Int)).bind fun d0=>(bj_p n a3 d0).bind fun p0=>(cn_p n a4 c0).bind fun g0=>(co_p n a5 b0.1).bind fun j0=>thn (ah (ab_l2 n d0 c0 b0 p0 g0 j0) n 0) (fun _=>some true) else some false)
theorem ab_c (n:Nat) {L w} (hL:hl L w) (a0:Tk) {v0_1:Value} (h0_1:Rep.R w L [v0_1] a0.fI) {v0_2:Value} (h0_2:Rep.R w L [v0_2] a0.fMore) {v0_3:Value} (h0_3:Rep.R w L [v0_3] a0.fLabels) (a1:Tj) {v1_4:Value} (h1_4:Rep.R w L [v1_4] a1.fNums) (a2:Tp) {v2_0:Value} (h2_0:Rep.R w L [v2_0] a2.fL) (a3:TBend) (a4:Tl) (a5:Tl) (hG0:Glob 0 tab0 w)  {r:Bool} (h:ab_p n a0 a1 a2 a3 a4 a5 = some r) :
 Cl 8 #[.agg #[.int .u8 (a0.fN.toNat:Int),v0_1,v0_2,v0_3,.int .u8 (a0.fK.toNat:Int)],.agg #[.int .u8 (a1.fh.toNat:Int),.int .u8 (a1.fe.toNat:Int),.int .u8 (a1.fj.toNat:Int),.int .u8 (a1.fv.toNat:Int),v1_4],.agg #[v2_0],.agg #[.int .u8 (a3.fJ.toNat:Int),.int .u8 (a3.fAt.toNat:Int),vI a3.fN,.string a3.ft],.agg #[.int .u8 (a4.fJ.toNat:Int),.int .u8 (a4.fAt.toNat:Int),vI a4.fN],.agg #[.int .u8 (a5.fJ.toNat:Int),.int .u8 (a5.fAt.toNat:Int),vI a5.fN]] w (ae w fun _ u=>u = .bool r):=by
 unfold ab_p at h
 refine AF func8 rfl rfl rfl fun _ cs0 hb0=>Ae<|RG.bx (AC w) rfl rfl fun A8 F6 x3 C7=>RG.bx x3 rfl rfl fun D8 G6 z3 D7=>RG.bx z3 rfl rfl fun E8 H6 A3 E7=>RG.bx A3 rfl rfl fun F8 I6 B3 F7=>RG.bx B3 rfl rfl fun G8 J6 C3 G7=>RG.bx C3 rfl rfl fun H8 K6 B0 H7=>Af rfl<|Aa<|Ai<|Ae<|bk h fun M5 s5 h=>Bk (.bool M5) (bd 10) rfl am (fun p q=>cN_c n (B0.hL0 hL q) (hG0.keep (B0.ag.trans q)) s5) rfl<|Ab (Bp rfl)<|Aa<|BU rfl h (fun W2 h=>?_) (fun W2 h=>?_)
 refine Ap<|Ae<|Ab (AK rfl (B0.memA .t5))<|bk h fun A0 u5 h=>jE (bd 17) rfl (e1 rfl) (fun p q=>ai_c n (B0.hL hL q) a0 (B0.km h0_1 q) (B0.km h0_2 q) (B0.km h0_3 q) u5) rfl fun I8 p8 P3 ⟨q0,hu_,J0⟩=>?_
 subst hu_
 obtain ⟨V0,I7⟩:=B0.agr P3
 refine Ac rfl<|Ab (Aj rfl rfl)<|Ab (Aj rfl rfl)<|Af rfl<|Af rfl<|Aa<|Ae<|Ab (AK rfl (V0.memA .t4))<|Ac rfl ?_
 have K7:A0.1.length <= 281474976710656:=AS J0
 refine Ab (AW (xs:=A0.1) underlying53 rfl J0)<|bk h fun c0 B5 h=>jE (bd 18) rfl (e2 rfl rfl) (fun p q=>mw (b0:=w.heap.size) (ac_c n (V0.hL hL q) a1 (V0.km h1_4 q) B5) q (Nat.le_trans V0.ag.size q.size)) rfl fun U8 x8 J7 ⟨k0,s3,H4,J2,b4⟩=>?_
 subst H4
 have y2:=ns V0 J2
 have R1:=own_tr V0 J2
 have c4:=AB (cs:=s3) (xs:=(c0.fm:List Tc)) y2 L (fT b4)
 refine RG.nl [vI 0,vI 0,vI 0,vN] y2 fun c9 Q6 z2 E1=>AX [vI c0.fh,vI c0.fe,vI c0.fj,k0] z2 .hd (o4 rfl rfl rfl (St.o1 (α:=Tc) z2 .t1)) fun d9 x1 F1=>Aa<|Ae<|Ab (AK rfl (x1.memA .t5))<|Ac rfl ?_
 have j2:=Tt R1 (Tt E1 F1)
 refine Ab (AW (xs:=A0.1) underlying53 rfl (Aq J0 j2))<|bk h fun d1 I5 h=>jE (bd 11) rfl (e2 rfl rfl) (fun p q=>aS_c n (x1.hL hL q) a2 (x1.km h2_0 q) I5) rfl fun g9 s0 Y3 ⟨j8,hu_,v1⟩=>?_
 subst hu_
 obtain ⟨v0,u1⟩:=x1.agr Y3
 refine Af rfl<|Aa<|Ai<|Ai<|du 24 fun g0 j0=>Rv 0 g0 rfl j0 (fun _=>Ah rfl)<|Rx 1 4194312 g0 rfl j0 (AK rfl (v0.memA .hd))<|Rv 2 g0 rfl j0 (fun _=>Ah rfl) ?_
 obtain ⟨A6,u7,d5,_⟩:=BI v1
 obtain ⟨B6,v7,k4⟩:=St.rowV (α:=Tc) v0 .t1
 obtain ⟨C6,x7,g5,_⟩:=BI (Aq J0 (Tt j2 u1))
 refine Rv 3 g0 rfl j0 (fun _=>AU (vs:=[s0,.agg #[vI c0.fh,vI c0.fe,vI c0.fj,k0],q0]) (u:=.agg #[s0,vI c0.fh,vI c0.fe,vI c0.fj,k0,q0]) (e3 rfl rfl rfl) (fun p=>by rw [d5,k4,g5]; try kernel_rfl))<|Rx 4 7381568 g0 rfl j0 (AK rfl (v0.memA .t4))<|Rv 5 g0 rfl j0 (fun _=>Ah rfl)<|Rx 7 4194816 g0 rfl j0 (AK rfl (v0.memA .hd))<|Rv 8 g0 rfl j0 (fun _=>Ah rfl)<|Rv 10 g0 rfl j0 (fun _=>Ah rfl)<|Rx 11 7380992 g0 rfl j0 (AK rfl (v0.memA .t3))<|Rx 12 7380992 g0 rfl j0 (AK rfl (v0.memA .hd))<|Rv 14 g0 rfl j0 (fun _=>Ah rfl)<|Rv 16 g0 rfl j0 (fun _=>Ah rfl)<|Rx 17 6291456 g0 rfl j0 (AK rfl (v0.memA .hd))<|Rx 18 7340032 g0 rfl j0 (AK rfl (v0.memA .t2))<|Rv 19 g0 rfl j0 (fun _=>Ah rfl)<|Rv 23 g0 rfl j0 (fun _=>Ah rfl)<|bk h fun U2 J5 h=>Bu 6 9395711 g0 rfl .plain (bd 12) rfl (e2 rfl rfl) (fun p q=>bj_c n (v0.hL hL q) a3 (Av v1 q) J5) rfl fun j9 Z0 Z3 ⟨V7,hu_,k2⟩=>?_
 subst hu_
 obtain ⟨y1,Y1⟩:=v0.agr Z3
 obtain ⟨Y5,R6,I4,_⟩:=BI k2
 obtain ⟨Z5,U6,d4⟩:=St.rowV (α:=Tc) y1 .t1
 obtain ⟨b6,V6,J4,_⟩:=BI (Aq J0 (Tt j2 (Tt u1 Y1)))
 refine Rv 9 g0 rfl j0 (fun _=>AU (vs:=[Z0,.agg #[vI c0.fh,vI c0.fe,vI c0.fj,k0],q0]) (u:=.agg #[Z0,vI c0.fh,vI c0.fe,vI c0.fj,k0,q0]) (e3 rfl rfl rfl) (fun p=>by rw [I4,d4,J4]; try kernel_rfl)) ?_
 have M1:=Bq y1 .t1
 have P1:=Br y1 .t1
 have p2:=Bs (α:=Tc) (v:=k0) (xs:=c0.fm) M1 L (Ba (α:=Tc) y1 .t1 (Ay c4 (Tt E1 (Tt F1 (Tt u1 Y1)))) hL)
 refine bk h fun p0 p5 h=>Bu 13 9404415 g0 rfl .plain (bd 29) rfl (e2 rfl rfl) (fun p q=>cn_c n (M1.hL hL q) a4 c0 (Av p2 q) p5) rfl fun B8 k8 K3 ⟨X0,hu_,q2⟩=>?_
 subst hu_
 obtain ⟨v2,z1⟩:=M1.agr K3
 have G1:=Tt Y1 (Tt P1 z1)
 obtain ⟨c6,W6,K4,_⟩:=BI (Aq v1 G1)
 obtain ⟨d6,X6,M4,_⟩:=BI q2
 have F2:=Tt R1 (Tt E1 (Tt F1 (Tt u1 G1)))
 have C2:=Aq J0 F2
 obtain ⟨g6,Y6,P4,_⟩:=BI C2
 refine Rv 15 g0 rfl j0 (fun _=>AU (vs:=[s0,.agg #[vI p0.fh,vI p0.fe,vI p0.fj,X0],q0]) (u:=.agg #[s0,vI p0.fh,vI p0.fe,vI p0.fj,X0,q0]) (e3 rfl rfl rfl) (fun p=>by rw [K4,M4,P4]; try kernel_rfl))<|bk h fun R2 q5 h=>Bu 20 10485759 g0 rfl .plain (bd 30) rfl (e2 rfl rfl) (fun p q=>co_c n (v2.hL hL q) a5 (Av C2 q) q5) rfl fun C8 Y0 M3 ⟨W7,hu_,s2⟩=>?_
 subst hu_
 obtain ⟨y3,I0⟩:=v2.agr M3
 have D2:=Aq v1 (Tt G1 I0)
 obtain ⟨j6,Z6,Q4,_⟩:=BI D2
 have E2:=Aq p2 (Tt z1 I0)
 obtain ⟨k6,b7,R4,_⟩:=BI E2
 obtain ⟨p6,c7,U4,_⟩:=BI s2
 refine Rv 21 g0 rfl j0 (fun _=>AU (vs:=[s0,.agg #[vI c0.fh,vI c0.fe,vI c0.fj,k0],Y0]) (u:=.agg #[s0,vI c0.fh,vI c0.fe,vI c0.fj,k0,Y0]) (e3 rfl rfl rfl) (fun p=>by rw [Q4,R4,U4]; try kernel_rfl)) ?_
 obtain ⟨q6,d7,V4,_⟩:=BI D2
 obtain ⟨s6,g7,W4,_⟩:=BI E2
 obtain ⟨t6,j7,X4,_⟩:=BI (Aq J0 (Tt F2 I0))
 obtain ⟨u6,k7,Y4,_⟩:=BI (Aq k2 (Tt P1 (Tt z1 I0)))
 obtain ⟨v6,p7,Z4,_⟩:=BI (Aq q2 I0)
 obtain ⟨x6,q7,b5,_⟩:=BI s2
 refine Rv 22 g0 rfl j0 (fun _=>AU (vs:=[.agg #[s0,vI c0.fh,vI c0.fe,vI c0.fj,k0,q0],.agg #[Z0,vI c0.fh,vI c0.fe,vI c0.fj,k0,q0],.agg #[s0,vI p0.fh,vI p0.fe,vI p0.fj,X0,q0],.agg #[s0,vI c0.fh,vI c0.fe,vI c0.fj,k0,Y0]]) (u:=.agg #[s0,vI c0.fh,vI c0.fe,vI c0.fj,k0,q0,Z0,vI c0.fh,vI c0.fe,vI c0.fj,k0,q0,s0,vI p0.fh,vI p0.fe,vI p0.fj,X0,q0,s0,vI c0.fh,vI c0.fe,vI c0.fj,k0,Y0]) (e4 rfl rfl rfl rfl) (fun p=>by rw [V4,W4,X4,Y4,Z4,b5]; try kernel_rfl))<|AR (dk g0)<|Au ?_
 obtain ⟨D3,A1⟩:=AH y3 .done
 refine tn h fun R7 v4 x0=>BT (α:=Nat) (fun K0=>[(14,vI A0.2),(69,vI ((K0:Nat):Int)),(68,.agg #[s0,vI c0.fh,vI c0.fe,vI c0.fj,k0,q0,Z0,vI c0.fh,vI c0.fe,vI c0.fj,k0,q0,s0,vI p0.fh,vI p0.fe,vI p0.fj,X0,q0,s0,vI c0.fh,vI c0.fe,vI c0.fj,k0,Y0])]) (fun K0=>[]) (fun K0=>K0) 0 v4 D3 ?_
 rintro D6 K0 k9 u3 x2 p1 h
 unfold ab_l2 at h
 try dsimp only at h
 refine Ae<|Ab (Bj (i:=K0) (j:=4) rfl rfl)<|Aa<|Ai<|AO rfl h (fun X2 h=>?_) (fun X2 h=>?_)
 refine Ap<|Ai<|Au<|Ae<|bk h fun d0 K5 h=>?_
 have G2:=Tt G1 (Tt I0 (Tt A1 p1))
 have b2:=Aq v1 G2
 have H2:=Tt z1 (Tt I0 (Tt A1 p1))
 have c2:=Aq p2 H2
 have d2:=Aq J0 (Tt R1 (Tt E1 (Tt F1 (Tt u1 G2))))
 refine RG.valE .plain rfl (FV.idxR (css:=[[s0,vI c0.fh,vI c0.fe,vI c0.fj,k0,q0],[Z0,vI c0.fh,vI c0.fe,vI c0.fj,k0,q0],[s0,vI p0.fh,vI p0.fe,vI p0.fj,X0,q0],[s0,vI c0.fh,vI c0.fe,vI c0.fj,k0,Y0]]) (xs:=([(⟨d1,c0,A0.1⟩:T84),(⟨U2,c0,A0.1⟩:T84),(⟨d1,p0,A0.1⟩:T84),(⟨d1,c0,R2⟩:T84)]:List T84)) (len:=4) rfl rfl rfl rfl rfl rfl rfl (.cons (iV d1 b2 c0 c2 A0.1 d2) (.cons (iV U2 (Aq k2 (Tt P1 H2)) c0 c2 A0.1 d2) (.cons (iV d1 b2 p0 (Aq q2 (Tt I0 (Tt A1 p1))) A0.1 d2) (.cons (iV d1 b2 c0 c2 R2 (Aq s2 (Tt A1 p1))) .nil)))) K5) fun X7 ⟨y7,c5,y4⟩=>?_
 subst c5
 obtain ⟨K2,z0,M2,rfl,D0,E0,F0⟩:=op_T84 y4
 refine RG.nl [vN,vI 0,vI 0,vI 0,vN,vN] x2 fun J8 V2 E3 M0=>AX [K2,vI d0.fr.fh,vI d0.fr.fe,vI d0.fr.fj,z0,M2] E3 .hd (o6 (AY (Aq D0 M0)) rfl rfl rfl (AY (Aq E0 M0)) (AY (Aq F0 M0))) fun K8 U0 B1=>Aa<|Ae<|AT 0 rfl<|AL rfl ((U0.memA .hd) 0 _ rfl)<|AT 1 rfl<|Ab (Bo (cs:=[vI d0.fr.fh,vI d0.fr.fe,vI d0.fr.fj,z0]) rfl rfl (ai (U0.memA .hd) 1 4))<|AT 5 rfl<|AL rfl ((U0.memA .hd) 5 _ rfl)<|Ac rfl<|bk h fun P5 v5 h=>jE (bd 25) rfl (e4 rfl rfl rfl rfl) (fun p q=>bD_c n (U0.hL hL q) (Av (Aq D0 (Tt M0 B1)) q) d0.fr (Av (Aq E0 (Tt M0 B1)) q) (Av (Aq F0 (Tt M0 B1)) q) (hG0.keep (U0.ag.trans q)) v5) rfl fun M8 q8 Q3 ⟨Y7,hu_,z4⟩=>?_
 subst hu_
 obtain ⟨g1,I3⟩:=U0.agr Q3
 refine Ac rfl<|Ab (Aj rfl rfl)<|Ab (Aj rfl rfl)<|Af rfl<|Af rfl<|Aa<|Ae<|AT 0 rfl<|AL rfl ((g1.memA .hd) 0 _ rfl)<|AT 1 rfl<|Ab (Bo (cs:=[vI d0.fr.fh,vI d0.fr.fe,vI d0.fr.fj,z0]) rfl rfl (ai (g1.memA .hd) 1 4))<|AT 5 rfl<|AL rfl ((g1.memA .hd) 5 _ rfl)<|Ac rfl<|bk h fun Q5 x5 h=>?_
 have P0:=Tt M0 (Tt B1 I3)
 refine jE (bd 31) rfl (e4 rfl rfl rfl rfl) (fun p q=>bc_c n (g1.hL hL q) (Av (Aq D0 P0) q) d0.fr (Av (Aq E0 P0) q) (Av (Aq F0 P0) q) x5) rfl fun P8 s8 R3 ⟨Z7,hu_,A4⟩=>?_
 subst hu_
 obtain ⟨W0,q1⟩:=g1.agr R3
 refine Ac rfl<|Ab (Aj rfl rfl)<|Ab (Aj rfl rfl)<|Af rfl<|Af rfl<|Aa<|Ae<|AT 0 rfl<|AL rfl ((W0.memA .hd) 0 _ rfl)<|AT 1 rfl<|Ab (Bo (cs:=[vI d0.fr.fh,vI d0.fr.fe,vI d0.fr.fj,z0]) rfl rfl (ai (W0.memA .hd) 1 4))<|AT 5 rfl<|AL rfl ((W0.memA .hd) 5 _ rfl)<|Ac rfl<|bk h fun R0 y5 h=>jE (bd 24) rfl (e4 rfl rfl rfl rfl) (fun p q=>bs_c n (W0.hL hL q) (Av (Aq D0 (Tt P0 q1)) q) d0.fr (Av (Aq E0 (Tt P0 q1)) q) (Av (Aq F0 (Tt P0 q1)) q) (hG0.keep (W0.ag.trans q)) y5) rfl fun Q8 t8 U3 ⟨P2,hu_,I2⟩=>?_
 subst hu_
 obtain ⟨j1,Q1⟩:=W0.agr U3
 refine Ac rfl<|Ab (Aj rfl rfl)<|Ab (Aj rfl rfl)<|Af rfl<|Af rfl<|Aa<|Ae<|AT 0 rfl<|AL rfl ((j1.memA .hd) 0 _ rfl)<|AT 1 rfl<|Ab (Bo (cs:=[vI d0.fr.fh,vI d0.fr.fe,vI d0.fr.fj,z0]) rfl rfl (ai (j1.memA .hd) 1 4))<|AT 5 rfl<|AL rfl ((j1.memA .hd) 5 _ rfl)<|Ac rfl<|bk h fun K1 z5 h=>?_
 have H1:=Tt P0 (Tt q1 Q1)
 refine jE (bd 32) rfl (e4 rfl rfl rfl rfl) (fun p q=>aX_c n (j1.hL hL q) (Av (Aq D0 H1) q) d0.fr (Av (Aq E0 H1) q) (Av (Aq F0 H1) q) z5) rfl fun R8 v8 V3 ⟨Q2,hu_,u2⟩=>?_
 subst hu_
 obtain ⟨G0,s1⟩:=j1.agr V3
 refine Ac rfl<|Ab (Aj rfl rfl)<|Ab (Aj rfl rfl)<|Af rfl<|Af rfl<|Aa<|Ai<|Ae<|Ac rfl<|Ac rfl<|bk h fun R5 A5 h=>Bk (.bool R5) (bd 33) rfl (e2 rfl rfl) (fun p q=>aK_c n (G0.hL0 hL q) (G0.kd (Aq z4 (Tt q1 (Tt Q1 s1))) q) (G0.kd (Aq A4 (Tt Q1 s1)) q) A5) rfl<|Ab (Bp rfl)<|Ac rfl<|RG.ifnb (s:=120) rfl h (fun Y2 h=>?_) (fun Y2 h=>?_)
 refine Az (Ah rfl)<|Az (Ah rfl)<|Az (FV.neq (i:=P5.2) (j:=Q5.2) rfl rfl)<|Bn rfl rfl<|Ac rfl<|RG.ifn (s:=125) rfl h (fun Z2 h=>?_) (fun Z2 h=>?_)
 refine Az (Ah rfl)<|Az (Ah rfl)<|Az (FV.neq (i:=R0.2) (j:=K1.2) rfl rfl)<|Bn rfl rfl<|Ac rfl<|RG.ifn (s:=130) rfl h (fun b3 h=>?_) (fun b3 h=>?_)
 refine Az (Ah rfl)<|Az (Ah rfl)<|BH (fst:=[]) (cap:=[]) (vs:=[P2,Q2,.func (.func 35) #[] #[]]) (.yes rfl rfl) (bd 34) func34 rfl rfl rfl rfl (e3 rfl rfl rfl) rfl fun z7 Z1 Q7=>Ae<|Af rfl<|Aa<|Ai<|Ae<|Ac rfl ?_
 have g2:=Aq I2 s1
 have M7:R0.1.length <= 281474976710656:=AS g2
 refine Ab (AW (xs:=R0.1) underlying69 rfl g2)<|Ac rfl ?_
 have P7:K1.1.length <= 281474976710656:=AS u2
 refine Ab (AW (xs:=K1.1) underlying69 rfl u2)<|Ab (FV.neqN (i:=R0.1.length) (j:=K1.1.length) rfl rfl)<|Aa<|MX.ifn rfl h (fun c3 h=>?_) (fun c3 h=>?_)
 refine Ap<|Ai<|Ae<|Ac rfl<|Ab (AW (xs:=R0.1) underlying69 rfl g2)<|Ac rfl<|Aa<|Au<|tn h fun U7 x4 B2=>BT (α:=Nat) (fun y0=>[(1,Q2),(2,.func (.func 35) #[] #[]),(15,P2),(16,vI ((R0.1.length:Nat):Int)),(17,vI ((y0:Nat):Int))]) (fun y0=>[.cells V2 [K2,vI d0.fr.fh,vI d0.fr.fe,vI d0.fr.fj,z0,M2] 84]) (fun y0=>y0) 0 x4 G0 ?_
 rintro E6 y0 p9 v3 t0 C1 h
 unfold ab_l1 at h
 try dsimp only at h
 refine Ae<|Ab (Bj (i:=y0) (j:=R0.1.length) rfl rfl)<|Aa<|Ai<|AO rfl h (fun d3 h=>?_) (fun d3 h=>?_)
 refine Ap<|Ai<|Au<|Ae<|Ac rfl<|bk h fun q9 j5 h=>?_
 obtain ⟨y6,s7,g4,p4,A7,B4,s4⟩:=Bg (Aq I2 (Tt s1 C1)) j5
 obtain ⟨b8,rfl,C4⟩:=bc B4
 refine Ab (Bi 1 y0 rfl g4 rfl rfl p4)<|AL rfl (s4 0 _ rfl)<|Af rfl<|Af rfl<|Aa<|Ae<|Ac rfl<|Ac rfl<|bk h fun s9 k5 h=>?_
 obtain ⟨z6,t7,j4,q4,B7,D4,u4⟩:=Bg (Aq u2 C1) k5
 obtain ⟨c8,rfl,E4⟩:=bc D4
 refine Ab (Bi 1 y0 rfl j4 rfl rfl q4)<|AL rfl (u4 0 _ rfl)<|Af rfl<|Aa<|Ae<|Ac rfl<|Ac rfl<|Ac rfl<|bk h fun U5 C5 h=>Bk (.bool U5) (bd 35) rfl (e2 rfl rfl) (fun p q=>ay_c n (t0.hL0 hL q) (t0.kd C4 q) (t0.kd E4 q) C5) rfl<|Ab (Bp rfl)<|Aa<|BU rfl h (fun g3 h=>?_) (fun g3 h=>?_)
 refine Ap<|Aw<|Am<|Ab (Bf (i:=y0) (j:=1) rfl rfl (by omega))<|Ac rfl<|Aa<|v3 (y0 + 1) t0 C1 h
 refine Ae<|Af rfl<|Aa ?_
 have h:=ap h B2
 refine Ak rfl<|Ar (u:=.bool false) Z1 func34 rfl (.cons (.tmp rfl) .nil) rfl<|Az (Bp rfl)<|Bn rfl rfl<|Aa<|AZ rfl<|Ae<|Af rfl<|Aa ?_
 have h:=ap h x0
 refine Ak rfl<|AQ hb0 func8 rfl rfl ?_
 cases h
 exact t0.gv
 refine AV rfl ?_
 have h:=aA h B2
 try dsimp only at h
 refine Ae<|Af rfl<|Aa<|Ak rfl<|Ar (u:=.bool true) Z1 func34 rfl (.cons (.tmp rfl) .nil) rfl<|Az (Bp rfl)<|Bn rfl rfl<|Aa<|BA rfl<|Ap<|Ae<|AT 0 rfl<|AL rfl ((t0.memA .hd) 0 _ rfl)<|AT 1 rfl<|Ab (Bo (cs:=[vI d0.fr.fh,vI d0.fr.fe,vI d0.fr.fj,z0]) rfl rfl (ai (t0.memA .hd) 1 4))<|AT 5 rfl<|AL rfl ((t0.memA .hd) 5 _ rfl)<|Ac rfl<|bk h fun V5 D5 h=>?_
 have Q0:=Tt H1 (Tt s1 C1)
 refine jE (bd 19) rfl (e4 rfl rfl rfl rfl) (fun p q=>aO_c n (t0.hL hL q) (Av (Aq D0 Q0) q) d0.fr (Av (Aq E0 Q0) q) (Av (Aq F0 Q0) q) (hG0.keep (t0.ag.trans q)) D5) rfl fun V8 y8 W3 ⟨d8,hu_,F4⟩=>?_
 subst hu_
 obtain ⟨k1,D1⟩:=t0.agr W3
 refine Ac rfl<|Ab (Aj rfl rfl)<|Ab (Aj rfl rfl)<|Af rfl<|Af rfl<|Aa<|Ae<|AT 0 rfl<|AL rfl ((k1.memA .hd) 0 _ rfl)<|AT 1 rfl<|Ab (Bo (cs:=[vI d0.fr.fh,vI d0.fr.fe,vI d0.fr.fj,z0]) rfl rfl (ai (k1.memA .hd) 1 4))<|AT 5 rfl<|AL rfl ((k1.memA .hd) 5 _ rfl)<|Ac rfl<|bk h fun W5 E5 h=>jE (bd 36) rfl (e4 rfl rfl rfl rfl) (fun p q=>aL_c n (k1.hL hL q) (Av (Aq D0 (Tt Q0 D1)) q) d0.fr (Av (Aq E0 (Tt Q0 D1)) q) (Av (Aq F0 (Tt Q0 D1)) q) E5) rfl fun W8 z8 X3 ⟨g8,hu_,G4⟩=>?_
 subst hu_
 obtain ⟨C0,A2⟩:=k1.agr X3
 refine Ac rfl<|Ab (Aj rfl rfl)<|Ab (Aj rfl rfl)<|Af rfl<|Af rfl<|Aa<|Ae<|AT 0 rfl<|AL rfl ((C0.memA .hd) 0 _ rfl)<|AT 1 rfl<|Ab (Bo (cs:=[vI d0.fr.fh,vI d0.fr.fe,vI d0.fr.fj,z0]) rfl rfl (ai (C0.memA .hd) 1 4))<|AT 5 rfl<|AL rfl ((C0.memA .hd) 5 _ rfl)<|Ac rfl<|bk h fun b1 F5 h=>?_
 have I1:=Tt Q0 (Tt D1 A2)
 refine Bk (.tuple #[.agg ((ac b1.1)).toArray,vI b1.2]) (bd 23) rfl (e4 rfl rfl rfl rfl) (fun p q=>cm_c n (C0.hL0 hL q) (C0.kd (Aq D0 I1) q) d0.fr (C0.kd (Aq E0 I1) q) (C0.kd (Aq F0 I1) q) (hG0.keep (C0.ag.trans q)) F5) rfl<|Ac rfl<|Ab (Aj rfl rfl)<|Ab (Aj rfl rfl)<|RG.nl zL C0 fun X8 M6 F3 U1=>AX (ac b1.1) F3 .hd (aq rfl) fun Y8 H0 V1=>Af rfl<|Aa<|Ae<|AT 0 rfl<|AL rfl ((H0.memA .t1) 0 _ rfl)<|AT 1 rfl<|Ab (Bo (cs:=[vI d0.fr.fh,vI d0.fr.fe,vI d0.fr.fj,z0]) rfl rfl (ai (H0.memA .t1) 1 4))<|AT 5 rfl<|AL rfl ((H0.memA .t1) 5 _ rfl)<|Ac rfl<|bk h fun c1 G5 h=>?_
 have J1:=Tt I1 (Tt U1 V1)
 refine Bk (.tuple #[.agg ((ac c1.1)).toArray,vI c1.2]) (bd 37) rfl (e4 rfl rfl rfl rfl) (fun p q=>aq_c n (H0.hL0 hL q) (H0.kd (Aq D0 J1) q) d0.fr (H0.kd (Aq E0 J1) q) (H0.kd (Aq F0 J1) q) G5) rfl<|Ac rfl<|Ab (Aj rfl rfl)<|Ab (Aj rfl rfl)<|RG.nl zL H0 fun Z8 P6 G3 W1=>AX (ac c1.1) G3 .hd (aq rfl) fun b9 u0 X1=>Af rfl<|Aa<|Ae<|Ac rfl<|Ac rfl<|bk h fun X5 H5 h=>Bk (.bool X5) (bd 28) rfl (e2 rfl rfl) (fun p q=>ae_c n (u0.hL0 hL q) (u0.kd (Aq F4 (Tt A2 (Tt U1 (Tt V1 (Tt W1 X1))))) q) (u0.kd (Aq G4 (Tt U1 (Tt V1 (Tt W1 X1)))) q) H5) rfl<|Ab (Bp rfl)<|Ac rfl<|RG.ifnb (s:=184) rfl h (fun j3 h=>?_) (fun j3 h=>?_)
 refine Az (Ah rfl)<|Az (Ah rfl)<|Az (FV.neq (i:=V5.2) (j:=W5.2) rfl rfl)<|Bn rfl rfl<|Ac rfl<|RG.ifn (s:=189) rfl h (fun k3 h=>?_) (fun k3 h=>?_)
 refine Az (AK rfl (u0.memA .t1))<|Az (AK rfl (u0.memA .hd))<|Az (FV.neqV (xs:=((ac b1.1)).toArray) (ys:=((ac c1.1)).toArray) rfl rfl (by kernel_rfl) (jr b1.1 c1.1))<|Bn rfl rfl<|Ac rfl<|RG.ifn (s:=194) rfl h (fun p3 h=>?_) (fun p3 h=>?_)
 refine Az (Ah rfl)<|Az (Ah rfl)<|Az (FV.neq (i:=b1.2) (j:=c1.2) rfl rfl)<|Bn rfl rfl<|Aa<|MX.ifn rfl h (fun q3 h=>?_) (fun q3 h=>?_)
 refine Ap<|Aw<|Am<|Ab (Bf (i:=K0) (j:=1) rfl rfl (by omega))<|Ac rfl<|Aa ?_
 obtain ⟨H3,J3⟩:=AH u0 .done
 exact u3 (K0 + 1) H3 (Tt p1 (Tt J1 (Tt W1 (Tt X1 J3)))) h
 refine Ae<|Af rfl<|Aa ?_
 have h:=ap h x0
 refine Ak rfl<|AQ hb0 func8 rfl rfl ?_
 cases h
 exact u0.gv
 refine Al<|Al<|Al<|Bl rfl rfl<|Aa<|AZ rfl<|Ae<|Af rfl<|Aa ?_
 have h:=ap h x0
 refine Ak rfl<|AQ hb0 func8 rfl rfl ?_
 cases h
 exact u0.gv
 refine Al<|Al<|Al<|Bl rfl rfl<|Ac rfl<|Al<|Al<|Al<|Bl rfl rfl<|Aa<|AZ rfl<|Ae<|Af rfl<|Aa ?_
 have h:=ap h x0
 refine Ak rfl<|AQ hb0 func8 rfl rfl ?_
 cases h
 exact u0.gv
 refine Al<|Al<|Al<|Bl rfl rfl<|Ac rfl<|Al<|Al<|Al<|Bl rfl rfl<|Ac rfl<|Al<|Al<|Al<|Bl rfl rfl<|Aa<|AZ rfl<|Ae<|Af rfl<|Aa ?_
 have h:=ap h x0
 refine Ak rfl<|AQ hb0 func8 rfl rfl ?_
 cases h
 exact u0.gv
 refine Ae<|Af rfl<|Aa<|Ak rfl<|Ar (u:=.bool false) Z1 func34 rfl (.cons (.tmp rfl) .nil) rfl<|Az (Bp rfl)<|Bn rfl rfl<|Aa<|AZ rfl<|Ae<|Af rfl<|Aa ?_
 have h:=ap h x0
 refine Ak rfl<|AQ hb0 func8 rfl rfl ?_
 cases h
 exact G0.gv
 refine Al<|Al<|Al<|Al<|Bl rfl rfl<|Aa<|AZ rfl<|Ae<|Af rfl<|Aa ?_
 have h:=ap h x0
 refine Ak rfl<|AQ hb0 func8 rfl rfl ?_
 cases h
 exact G0.gv
 refine Al<|Al<|Al<|Bl rfl rfl<|Ac rfl<|Al<|Al<|Al<|Al<|Bl rfl rfl<|Aa<|AZ rfl<|Ae<|Af rfl<|Aa ?_
 have h:=ap h x0
 refine Ak rfl<|AQ hb0 func8 rfl rfl ?_
 cases h
 exact G0.gv
 refine Al<|Al<|Al<|Bl rfl rfl<|Ac rfl<|Al<|Al<|Al<|Bl rfl rfl<|Ac rfl<|Al<|Al<|Al<|Al<|Bl rfl rfl<|Aa<|AZ rfl<|Ae<|Af rfl<|Aa ?_
 have h:=ap h x0
 refine Ak rfl<|AQ hb0 func8 rfl rfl ?_
 cases h
 exact G0.gv
 refine AV rfl ?_
 have h:=aA h x0
 try dsimp only at h
 refine Ae<|Af rfl<|Aa<|Ak rfl<|AQ hb0 func8 rfl rfl ?_
 cases h
 exact x2.gv
 refine Ae<|Af rfl<|Aa<|Ak rfl<|AQ hb0 func8 rfl rfl ?_
 cases h
 exact B0.gv
end Go.Proofs.YtfccehcnajelgaaGreatDoor
