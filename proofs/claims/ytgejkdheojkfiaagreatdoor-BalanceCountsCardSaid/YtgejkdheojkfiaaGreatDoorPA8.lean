/- Functions of the program, and what they give: part 7. -/
import Derived.Test.YtgejkdheojkfiaaGreatDoorPA6
namespace Go.Proofs.YtgejkdheojkfiaaGreatDoor
open Go Go.RowKit
set_option maxRecDepth 4000
set_option maxHeartbeats 4000000

structure Th where
  fr:Tc
  fp:List Int
  fk:Int
  deriving DecidableEq
instance:Rep Th:=Rep.via (β:=Tc × (List Int) × Int) fun x=>(x.fr,x.fp,x.fk)
theorem op_Tc {w:World} {L:List Nat} {cs:List Value} {x:Tc} (h:Rep.R w L cs x):∃ v3:Value,cs = [vI x.fe,vI x.fh,vI x.fj,v3]/\Rep.R w L [v3] x.fo:=by
  obtain ⟨c0,r0,rfl,h0,h⟩:=h
  have e0:c0 = [vI x.fe]:=h0; subst e0
  obtain ⟨c1,r1,rfl,h1,h⟩:=h
  have e1:c1 = [vI x.fh]:=h1; subst e1
  obtain ⟨c2,r2,rfl,h2,h⟩:=h
  have e2:c2 = [vI x.fj]:=h2; subst e2
  obtain ⟨v3,rfl,kv3⟩:=lst_one (xs:=x.fo) h
  exact ⟨v3,rfl,kv3⟩
theorem mk_Tc {w:World} {L:List Nat} (a0:Int) (a1:Int) (a2:Int) (a3:List Tb) {u3:Value} (h3:Rep.R w L [u3] a3):Rep.R w L [vI a0,vI a1,vI a2,u3] (⟨a0,a1,a2,a3⟩:Tc):=⟨[vI a0],[vI a1,vI a2,u3],rfl,rfl,⟨[vI a1],[vI a2,u3],rfl,rfl,⟨[vI a2],[u3],rfl,rfl,h3⟩⟩⟩
theorem op_Th {w:World} {L:List Nat} {cs:List Value} {x:Th} (h:Rep.R w L cs x):∃ v3 v4:Value,cs = [vI x.fr.fe,vI x.fr.fh,vI x.fr.fj,v3,v4,vI x.fk]/\Rep.R w L [v3] x.fr.fo/\Rep.R w L [v4] x.fp:=by
  obtain ⟨c0,r0,rfl,h0,h⟩:=h
  obtain ⟨v3,rfl,kv3⟩:=op_Tc (x:=x.fr) h0
  obtain ⟨c1,r1,rfl,h1,h⟩:=h
  obtain ⟨v4,rfl,kv4⟩:=lst_one (xs:=x.fp) h1
  have e2:r1 = [vI x.fk]:=h; subst e2
  exact ⟨v3,v4,rfl,kv3,kv4⟩
theorem mk_Th {w:World} {L:List Nat} (a0:Tc) {u3:Value} (h3:Rep.R w L [u3] a0.fo) (a1:List Int) {u4:Value} (h4:Rep.R w L [u4] a1) (a2:Int):Rep.R w L [vI a0.fe,vI a0.fh,vI a0.fj,u3,u4,vI a2] (⟨a0,a1,a2⟩:Th):=⟨[vI a0.fe,vI a0.fh,vI a0.fj,u3],[u4,vI a2],rfl,mk_Tc a0.fe a0.fh a0.fj a0.fo h3,⟨[u4],[vI a2],rfl,h4,rfl⟩⟩
theorem el39:ElT Tryz.prog 39 48 (Rep.size Th) 80 (.agg #[vI 0,vI 0,vI 0,vN,vN,vI 0]) [vI 0,vI 0,vI 0,vN,vN,vI 0]:=⟨Tryz.underlying39,by kernel_rfl,rfl,rfl,rfl,rfl⟩
def bZ_p (n:Nat) (a0:Tj) (a1:Ti) (a2:Tl) (a3:Tl) (a4:Int):Option (List Th):=
  (ai_p n a0).bind fun b0=>(ac_p n a1 ((b0.1.length:Nat):Int)).bind fun c0=>(bX_p n a2 b0.1).bind fun d0=>(bY_p n a3 c0).bind fun g0=>some ([(⟨c0,b0.1,b0.2⟩:Th),(⟨c0,d0,b0.2⟩:Th),(⟨g0,b0.1,b0.2⟩:Th),(⟨c0,b0.1,a4⟩:Th),(⟨(⟨(0:Int),(0:Int),(0:Int),([]:List Tb)⟩:Tc),([]:List Int),(0:Int)⟩:Th)]:List Th)
theorem bZ_c (n:Nat) {L w} (hL:hl L w) (a0:Tj) {v0_1:Value} (h0_1:Rep.R w L [v0_1] a0.fB) {v0_2:Value} (h0_2:Rep.R w L [v0_2] a0.fMore) {v0_3:Value} (h0_3:Rep.R w L [v0_3] a0.fLabels) (a1:Ti) {v1_4:Value} (h1_4:Rep.R w L [v1_4] a1.fNums) (a2:Tl) (a3:Tl) {a4:Int}  {r:List Th} (h:bZ_p n a0 a1 a2 a3 a4 = some r) :
 Cl 6 #[.agg #[.int .u8 (a0.fN.toNat:Int),v0_1,v0_2,v0_3,.int .u8 (a0.fK.toNat:Int)],.agg #[.int .u8 (a1.fe.toNat:Int),.int .u8 (a1.fh.toNat:Int),.int .u8 (a1.fj.toNat:Int),.int .u8 (a1.fu.toNat:Int),v1_4],.agg #[.int .u8 (a2.fE.toNat:Int),.int .u8 (a2.fAt.toNat:Int),vI a2.fN],.agg #[.int .u8 (a3.fE.toNat:Int),.int .u8 (a3.fAt.toNat:Int),vI a3.fN],vI a4] w (Gives w fun w' u=>∃ v0_0:Value,u = v0_0/\Rep.R w' L [v0_0] r):=by
 unfold bZ_p at h
 refine AF Tryz.func6 rfl rfl rfl fun _ cs0 hb0=>Ac<|RG.bx (AB w) rfl rfl fun Z2 j2 c1 H2=>RG.bx c1 rfl rfl fun c3 k2 d1 J2=>RG.bx d1 rfl rfl fun d3 p2 g1 K2=>RG.bx g1 rfl rfl fun g3 q2 v0 M2=>Af rfl<|Aa<|Ac<|Ab (AK rfl (v0.memA .t3))<|bk h fun c0 J1 h=>AZ (fst:=[]) (cap:=[]) .plain (bd 31) rfl (e1 rfl) (fun w9 hw9=>ai_c n (v0.hL hL hw9) a0 (v0.km h0_1 hw9) (v0.km h0_2 hw9) (v0.km h0_3 hw9) J1) rfl fun j3 W2 p1 ⟨j0,hu_,y0⟩=>?_
 subst hu_
 obtain ⟨A0,P2⟩:=v0.agr p1
 refine Ae rfl<|Ab (Ah rfl rfl)<|Ab (Ah rfl rfl)<|Af rfl<|Af rfl<|Aa<|Ac<|Ab (AK rfl (A0.memA .t2))<|Ae rfl ?_
 have Q2:c0.1.length <= 281474976710656:=AY y0
 refine Ab (Bc (xs:=c0.1) Tryz.underlying46 rfl y0)<|bk h fun b0 K1 h=>AZ (fst:=[]) (cap:=[]) .plain (bd 32) rfl (e2 rfl rfl) (fun w9 hw9=>ac_c n (A0.hL hL hw9) a1 (A0.km h1_4 hw9) K1) rfl fun k3 X2 q1 ⟨k0,hu_,z0⟩=>?_
 subst hu_
 obtain ⟨j1,U0⟩:=A0.agr q1
 refine RG.nl [vI 0,vI 0,vI 0,vN] j1 fun p3 s2 k1 B0=>AQ [vI b0.fe,vI b0.fh,vI b0.fj,k0] k1 .hd (o4 rfl rfl rfl (AR (Ao z0 B0))) fun q3 q0 G0=>Aa<|Aj<|du 23 fun g0 p0=>Rx 0 6291464 g0 rfl p0 (AK rfl (q0.memA .hd))<|Rv 1 g0 rfl p0 (fun _=>Ai rfl)<|Rv 2 g0 rfl p0 (fun _=>Ai rfl) ?_
 have X0:=Ao z0 (Tt B0 G0)
 obtain ⟨X1,A2,C1,_⟩:=BV X0
 have b1:=Tt U0 (Tt B0 G0)
 have J0:=Ao y0 b1
 obtain ⟨Y1,B2,D1,_⟩:=BV J0
 refine Rv 3 g0 rfl p0 (fun _=>AX (vs:=[.agg #[vI b0.fe,vI b0.fh,vI b0.fj,k0],j0,vI c0.2]) (u:=.agg #[vI b0.fe,vI b0.fh,vI b0.fj,k0,j0,vI c0.2]) (e3 rfl rfl rfl) (fun w9=>by rw [C1,D1]; try kernel_rfl))<|Rx 4 6291968 g0 rfl p0 (AK rfl (q0.memA .hd))<|Rx 5 6328960 g0 rfl p0 (AK rfl (q0.memA .t2))<|Rv 6 g0 rfl p0 (fun _=>Ai rfl)<|Rv 8 g0 rfl p0 (fun _=>Ai rfl)<|Rx 10 6328320 g0 rfl p0 (AK rfl (q0.memA .t1))<|Rx 11 6328320 g0 rfl p0 (AK rfl (q0.memA .hd))<|Rv 13 g0 rfl p0 (fun _=>Ai rfl)<|Rv 14 g0 rfl p0 (fun _=>Ai rfl)<|Rx 16 6815744 g0 rfl p0 (AK rfl (q0.memA .hd))<|Rv 17 g0 rfl p0 (fun _=>Ai rfl)<|Rv 18 g0 rfl p0 (fun _=>Ai rfl) ?_
 obtain ⟨Z1,C2,E1,_⟩:=BV X0
 obtain ⟨b2,D2,F1,_⟩:=BV J0
 refine Rv 19 g0 rfl p0 (fun _=>AX (vs:=[.agg #[vI b0.fe,vI b0.fh,vI b0.fj,k0],j0,vI a4]) (u:=.agg #[vI b0.fe,vI b0.fh,vI b0.fj,k0,j0,vI a4]) (e3 rfl rfl rfl) (fun w9=>by rw [E1,F1]; try kernel_rfl))<|Rv 20 g0 rfl p0 (fun _=>AX (vs:=[]) (u:=.agg #[vI 0,vI 0,vI 0,vN,vN,vI 0]) evs_nil (fun w9=>by kernel_rfl))<|bk h fun C0 M1 h=>BB 7 2059775 g0 rfl .plain (bd 33) rfl (e2 rfl rfl) (fun w9 hw9=>bX_c n (q0.hL hL hw9) a2 (Ar J0 hw9) M1) rfl fun s3 t0 s1 ⟨V2,hu_,M0⟩=>?_
 subst hu_
 obtain ⟨R0,V0⟩:=q0.agr s1
 have K0:=Tt B0 (Tt G0 V0)
 have Y0:=Ao z0 K0
 obtain ⟨c2,E2,G1,_⟩:=BV Y0
 obtain ⟨d2,F2,H1,_⟩:=BV M0
 refine Rv 9 g0 rfl p0 (fun _=>AX (vs:=[.agg #[vI b0.fe,vI b0.fh,vI b0.fj,k0],t0,vI c0.2]) (u:=.agg #[vI b0.fe,vI b0.fh,vI b0.fj,k0,t0,vI c0.2]) (e3 rfl rfl rfl) (fun w9=>by rw [G1,H1]; try kernel_rfl))<|bk h fun d0 P1 h=>BB 12 2064383 g0 rfl .plain (bd 34) rfl (e2 rfl rfl) (fun w9 hw9=>bY_c n (R0.hL hL hw9) a3 b0 (Ar Y0 hw9) P1) rfl fun u3 Y2 u1 ⟨s0,hu_,P0⟩=>?_
 subst hu_
 obtain ⟨E0,x0⟩:=R0.agr u1
 obtain ⟨g2,G2,I1,_⟩:=BV P0
 have W0:=Ao y0 (Tt b1 (Tt V0 x0))
 obtain ⟨Q1,u2,x1,_⟩:=BV W0
 refine Rv 15 g0 rfl p0 (fun _=>AX (vs:=[.agg #[vI d0.fe,vI d0.fh,vI d0.fj,s0],j0,vI c0.2]) (u:=.agg #[vI d0.fe,vI d0.fh,vI d0.fj,s0,j0,vI c0.2]) (e3 rfl rfl rfl) (fun w9=>by rw [I1,x1]; try kernel_rfl)) ?_
 have R2:=Rep.nilAt (α:=Tb) E0 L
 have U2:=Rep.nilAt (α:=Int) E0 L
 obtain ⟨R1,v2,y1,_⟩:=BV (Ao z0 (Tt K0 x0))
 obtain ⟨U1,x2,z1,_⟩:=BV W0
 obtain ⟨V1,y2,A1,_⟩:=BV (Ao M0 x0)
 obtain ⟨W1,z2,B1,_⟩:=BV P0
 refine BS 21 4194303 g0 rfl .plain rfl (AE (α:=Th) (xs:=([(⟨b0,c0.1,c0.2⟩:Th),(⟨b0,C0,c0.2⟩:Th),(⟨d0,c0.1,c0.2⟩:Th),(⟨b0,c0.1,a4⟩:Th),(⟨(⟨(0:Int),(0:Int),(0:Int),([]:List Tb)⟩:Tc),([]:List Int),(0:Int)⟩:Th)]:List Th)) (vs:=[.agg #[vI b0.fe,vI b0.fh,vI b0.fj,k0,j0,vI c0.2],.agg #[vI b0.fe,vI b0.fh,vI b0.fj,k0,t0,vI c0.2],.agg #[vI d0.fe,vI d0.fh,vI d0.fj,s0,j0,vI c0.2],.agg #[vI b0.fe,vI b0.fh,vI b0.fj,k0,j0,vI a4],.agg #[vI 0,vI 0,vI 0,vN,vN,vI 0]]) (ds' :=[vI b0.fe,vI b0.fh,vI b0.fj,k0,j0,vI c0.2,vI b0.fe,vI b0.fh,vI b0.fj,k0,t0,vI c0.2,vI d0.fe,vI d0.fh,vI d0.fj,s0,j0,vI c0.2,vI b0.fe,vI b0.fh,vI b0.fj,k0,j0,vI a4,vI 0,vI 0,vI 0,vN,vN,vI 0]) rfl E0 el39 rfl (e5 rfl rfl rfl rfl rfl) (by rw [y1,z1,A1,B1]; try kernel_rfl) rfl) fun b3 Q0 u0 F0=>?_
 have Z0:=Tt K0 (Tt x0 F0)
 have H0:=Ao z0 Z0
 have I0:=Ao y0 (Tt U0 Z0)
 refine Rv 22 g0 rfl p0 (fun _=>AU rfl)<|AM (dk g0)<|Al rfl ?_
 have D0:=By u0 .hd
 have I2:=Bz u0 .hd
 have v1:=BA (α:=Th) (v:=(vS Q0 5)) (xs:=([(⟨b0,c0.1,c0.2⟩:Th),(⟨b0,C0,c0.2⟩:Th),(⟨d0,c0.1,c0.2⟩:Th),(⟨b0,c0.1,a4⟩:Th),(⟨(⟨(0:Int),(0:Int),(0:Int),([]:List Tb)⟩:Tc),([]:List Int),(0:Int)⟩:Th)]:List Th)) D0 L (Bj (α:=Th) u0 .hd (Ax (cs:=[vI b0.fe,vI b0.fh,vI b0.fj,k0,j0,vI c0.2,vI b0.fe,vI b0.fh,vI b0.fj,k0,t0,vI c0.2,vI d0.fe,vI d0.fh,vI d0.fj,s0,j0,vI c0.2,vI b0.fe,vI b0.fh,vI b0.fj,k0,j0,vI a4,vI 0,vI 0,vI 0,vN,vN,vI 0]) (xs:=(([(⟨b0,c0.1,c0.2⟩:Th),(⟨b0,C0,c0.2⟩:Th),(⟨d0,c0.1,c0.2⟩:Th),(⟨b0,c0.1,a4⟩:Th),(⟨(⟨(0:Int),(0:Int),(0:Int),([]:List Tb)⟩:Tc),([]:List Int),(0:Int)⟩:Th)]:List Th):List Th)) u0 L (Am (cs:=[vI b0.fe,vI b0.fh,vI b0.fj,k0,j0,vI c0.2]) (ds:=[vI b0.fe,vI b0.fh,vI b0.fj,k0,t0,vI c0.2,vI d0.fe,vI d0.fh,vI d0.fj,s0,j0,vI c0.2,vI b0.fe,vI b0.fh,vI b0.fj,k0,j0,vI a4,vI 0,vI 0,vI 0,vN,vN,vI 0]) (mk_Th b0 H0 c0.1 I0 c0.2) (Am (cs:=[vI b0.fe,vI b0.fh,vI b0.fj,k0,t0,vI c0.2]) (ds:=[vI d0.fe,vI d0.fh,vI d0.fj,s0,j0,vI c0.2,vI b0.fe,vI b0.fh,vI b0.fj,k0,j0,vI a4,vI 0,vI 0,vI 0,vN,vN,vI 0]) (mk_Th b0 H0 C0 (Ao M0 (Tt x0 F0)) c0.2) (Am (cs:=[vI d0.fe,vI d0.fh,vI d0.fj,s0,j0,vI c0.2]) (ds:=[vI b0.fe,vI b0.fh,vI b0.fj,k0,j0,vI a4,vI 0,vI 0,vI 0,vN,vN,vI 0]) (mk_Th d0 (Ao P0 F0) c0.1 I0 c0.2) (Am (cs:=[vI b0.fe,vI b0.fh,vI b0.fj,k0,j0,vI a4]) (ds:=[vI 0,vI 0,vI 0,vN,vN,vI 0]) (mk_Th b0 H0 c0.1 I0 a4) (Am (cs:=[vI 0,vI 0,vI 0,vN,vN,vI 0]) (ds:=[]) (mk_Th (⟨(0:Int),(0:Int),(0:Int),([]:List Tb)⟩:Tc) (Rep.nilAt (α:=Tb) u0 L) ([]:List Int) (Rep.nilAt (α:=Int) u0 L) (0:Int)) (AD _ _))))))) hL)
 refine AT hb0 Tryz.func6 rfl rfl ?_
 cases h
 exact ⟨D0.ag,fun w9 hw9=>⟨(vS Q0 5),rfl,D0.kd v1 hw9⟩⟩
def br_l1 (_n:Nat) (a0:ByteArray) (g0:Int -> Option (Bool ⊕ Unit)):Int -> Option (Bool ⊕ Unit)
  | d0=>(if d0 < ((a0.size:Nat):Int) then (sidx a0 d0).bind fun b0=>jn (fun j0=>(if j0 = true then some (.inl false) else (chk (d0 + 1)).bind fun k0=>g0 k0)) (fun c0=>(if 65 <= b0.toNat then (if b0.toNat <= 90 then c0 false else (if 97 <= b0.toNat then (if b0.toNat <= 122 then c0 false else (if 48 <= b0.toNat then (if b0.toNat <= 57 then c0 false else (if b0.toNat = 45 then c0 false else c0 (!(decide (b0.toNat = 95))))) else (if b0.toNat = 45 then c0 false else c0 (!(decide (b0.toNat = 95)))))) else (if 48 <= b0.toNat then (if b0.toNat <= 57 then c0 false else (if b0.toNat = 45 then c0 false else c0 (!(decide (b0.toNat = 95))))) else (if b0.toNat = 45 then c0 false else c0 (!(decide (b0.toNat = 95))))))) else (if 97 <= b0.toNat then (if b0.toNat <= 122 then c0 false else (if 48 <= b0.toNat then (if b0.toNat <= 57 then c0 false else (if b0.toNat = 45 then c0 false else c0 (!(decide (b0.toNat = 95))))) else (if b0.toNat = 45 then c0 false else c0 (!(decide (b0.toNat = 95)))))) else (if 48 <= b0.toNat then (if b0.toNat <= 57 then c0 false else (if b0.toNat = 45 then c0 false else c0 (!(decide (b0.toNat = 95))))) else (if b0.toNat = 45 then c0 false else c0 (!(decide (b0.toNat = 95)))))))) else some (.inr ()))
def br_p (n:Nat) (a0:ByteArray):Option Bool:=
  thn (loopF (br_l1 n a0) n 0) (fun _=>(if 1 <= a0.size then some (decide (a0.size <= 12)) else some false))
theorem br_c (n:Nat) {L w} (_hL:hl L w) {a0:ByteArray}  {r:Bool} (h:br_p n a0 = some r) :
 Cl 170 #[.string a0] w (Gives w fun _ u=>u = .bool r):=by
 unfold br_p at h
 refine AF Tryz.func170 rfl rfl rfl fun _ cs0 hb0=>Ac<|Af rfl<|Aa<|Aj<|Ac<|Af rfl<|Aa<|Ay<|tn h fun q1 b1 p0=>MX.lo (α:=Int) (fun g0=>[(0,.string a0),(3,vI g0)]) (fun g0=>[]) (fun g0=>g0) 0 b1 (AB w) ?_
 rintro k1 g0 s1 W0 c0 X0 h
 unfold br_l1 at h
 try dsimp only at h
 refine Aj<|Ac<|Ae rfl<|Ae rfl<|Ab (BK Tryz.underlying9 rfl)<|Ab (BR (i:=g0) (j:=((a0.size:Nat):Int)) rfl rfl)<|Aa<|AS rfl h (fun q0 h=>?_) (fun q0 h=>?_)
 refine Aq<|Aj<|Ay<|Ac<|Ae rfl<|Ae rfl<|bk h fun b0 g1 h=>?_
 obtain ⟨Z0,d1⟩:=sidx_in g1
 refine Ab (FV.strAt (k:=g0.toNat) Tryz.underlying9 rfl rfl Z0 d1)<|Af rfl<|Aa<|Aj<|MX.jo (α:=Bool) (fun j0=>[(0,.string a0),(3,vI g0),(44,.bool j0)]) (fun j0=>[]) (fun j0=>j0) c0 h ?_ ?_
 rintro j0 u1 k0 Y0 h
 try dsimp only at h
 refine MX.ifb rfl h (fun s0 h=>?_) (fun s0 h=>?_)
 refine Ac<|Af rfl<|Aa ?_
 have h:=thn_inl h p0
 refine Al rfl<|AT hb0 Tryz.func170 rfl rfl ?_
 cases h
 exact k0.gv
 refine Aq<|AA<|Av<|Ae rfl<|bk h fun j1 c1 h=>Ab (BL (i:=g0) (j:=1) rfl rfl c1)<|Af rfl<|Aa<|W0 j1 k0 (Tt X0 Y0) h
 intro p1 d0 h
 try dsimp only at h
 refine Av<|Ae rfl<|Ab (FV.geqN (i:=b0.toNat) (j:=65) rfl rfl)<|Ae rfl<|BE (s:=16) rfl h (fun t0 h=>?_) (fun t0 h=>?_)
 refine AJ (Ai rfl)<|AJ (FV.leqN (i:=b0.toNat) (j:=90) rfl rfl)<|Br rfl rfl<|Ae rfl<|BE (s:=20) rfl h (fun u0 h=>?_) (fun u0 h=>?_)
 refine Aw<|Aw<|Aw<|RG.un<|RG.un<|Aw<|Br rfl rfl<|Ae rfl<|Aw<|Aw<|Aw<|RG.un<|RG.un<|Aw<|Br rfl rfl<|Ae rfl<|Aw<|Aw<|Br rfl rfl<|Ae rfl<|Aw<|Aw<|Br rfl rfl<|Ab (Bo rfl)<|Aa<|d0 false c0 (Bv _ _) h
 refine AJ (Ai rfl)<|AJ (FV.geqN (i:=b0.toNat) (j:=97) rfl rfl)<|AJ (Ai rfl)<|BE (s:=23) rfl h (fun v0 h=>?_) (fun v0 h=>?_)
 refine AJ (Ai rfl)<|AJ (FV.leqN (i:=b0.toNat) (j:=122) rfl rfl)<|AJ (BC rfl rfl)<|Bx rfl rfl<|Ae rfl<|BE (s:=28) rfl h (fun x0 h=>?_) (fun x0 h=>?_)
 refine Aw<|Aw<|Aw<|RG.un<|RG.un<|Aw<|Br rfl rfl<|Ae rfl<|Aw<|Aw<|Br rfl rfl<|Ae rfl<|Aw<|Aw<|Br rfl rfl<|Ab (Bo rfl)<|Aa<|d0 false c0 (Bv _ _) h
 refine AJ (Ai rfl)<|AJ (FV.geqN (i:=b0.toNat) (j:=48) rfl rfl)<|AJ (Ai rfl)<|BE (s:=31) rfl h (fun y0 h=>?_) (fun y0 h=>?_)
 refine AJ (Ai rfl)<|AJ (FV.leqN (i:=b0.toNat) (j:=57) rfl rfl)<|AJ (BC rfl rfl)<|Bx rfl rfl<|Ae rfl<|BE (s:=36) rfl h (fun z0 h=>?_) (fun z0 h=>?_)
 refine Aw<|Aw<|Br rfl rfl<|Ae rfl<|Aw<|Aw<|Br rfl rfl<|Ab (Bo rfl)<|Aa<|d0 false c0 (Bv _ _) h
 refine AJ (Ai rfl)<|AJ (BQ (i:=b0.toNat) (j:=45) rfl rfl)<|Bx rfl rfl<|Ae rfl<|BE (s:=40) rfl h (fun A0 h=>?_) (fun A0 h=>?_)
 refine Aw<|Aw<|Br rfl rfl<|Ab (Bo rfl)<|Aa<|d0 false c0 (Bv _ _) h
 refine AJ (Ai rfl)<|AJ (BQ (i:=b0.toNat) (j:=95) rfl rfl)<|Bx rfl rfl<|Ab (Bo rfl)<|Aa<|d0 (!(decide (b0.toNat = 95))) c0 (Bv _ _) h
 refine Aw<|Aw<|AJ (Bh rfl rfl)<|Bx rfl rfl<|Ae rfl<|AJ (Ai rfl)<|AJ (BQ (i:=b0.toNat) (j:=45) rfl rfl)<|Bx rfl rfl<|Ae rfl<|BE (s:=40) rfl h (fun B0 h=>?_) (fun B0 h=>?_)
 refine Aw<|Aw<|Br rfl rfl<|Ab (Bo rfl)<|Aa<|d0 false c0 (Bv _ _) h
 refine AJ (Ai rfl)<|AJ (BQ (i:=b0.toNat) (j:=95) rfl rfl)<|Bx rfl rfl<|Ab (Bo rfl)<|Aa<|d0 (!(decide (b0.toNat = 95))) c0 (Bv _ _) h
 refine Aw<|Aw<|AJ (Bh rfl rfl)<|Bx rfl rfl<|Ae rfl<|AJ (Ai rfl)<|AJ (FV.geqN (i:=b0.toNat) (j:=48) rfl rfl)<|AJ (Ai rfl)<|BE (s:=31) rfl h (fun C0 h=>?_) (fun C0 h=>?_)
 refine AJ (Ai rfl)<|AJ (FV.leqN (i:=b0.toNat) (j:=57) rfl rfl)<|AJ (BC rfl rfl)<|Bx rfl rfl<|Ae rfl<|BE (s:=36) rfl h (fun D0 h=>?_) (fun D0 h=>?_)
 refine Aw<|Aw<|Br rfl rfl<|Ae rfl<|Aw<|Aw<|Br rfl rfl<|Ab (Bo rfl)<|Aa<|d0 false c0 (Bv _ _) h
 refine AJ (Ai rfl)<|AJ (BQ (i:=b0.toNat) (j:=45) rfl rfl)<|Bx rfl rfl<|Ae rfl<|BE (s:=40) rfl h (fun E0 h=>?_) (fun E0 h=>?_)
 refine Aw<|Aw<|Br rfl rfl<|Ab (Bo rfl)<|Aa<|d0 false c0 (Bv _ _) h
 refine AJ (Ai rfl)<|AJ (BQ (i:=b0.toNat) (j:=95) rfl rfl)<|Bx rfl rfl<|Ab (Bo rfl)<|Aa<|d0 (!(decide (b0.toNat = 95))) c0 (Bv _ _) h
 refine Aw<|Aw<|AJ (Bh rfl rfl)<|Bx rfl rfl<|Ae rfl<|AJ (Ai rfl)<|AJ (BQ (i:=b0.toNat) (j:=45) rfl rfl)<|Bx rfl rfl<|Ae rfl<|BE (s:=40) rfl h (fun F0 h=>?_) (fun F0 h=>?_)
 refine Aw<|Aw<|Br rfl rfl<|Ab (Bo rfl)<|Aa<|d0 false c0 (Bv _ _) h
 refine AJ (Ai rfl)<|AJ (BQ (i:=b0.toNat) (j:=95) rfl rfl)<|Bx rfl rfl<|Ab (Bo rfl)<|Aa<|d0 (!(decide (b0.toNat = 95))) c0 (Bv _ _) h
 refine Aw<|Aw<|Bx rfl rfl<|Ae rfl<|AJ (Ai rfl)<|AJ (FV.geqN (i:=b0.toNat) (j:=97) rfl rfl)<|AJ (Ai rfl)<|BE (s:=23) rfl h (fun G0 h=>?_) (fun G0 h=>?_)
 refine AJ (Ai rfl)<|AJ (FV.leqN (i:=b0.toNat) (j:=122) rfl rfl)<|AJ (BC rfl rfl)<|Bx rfl rfl<|Ae rfl<|BE (s:=28) rfl h (fun H0 h=>?_) (fun H0 h=>?_)
 refine Aw<|Aw<|Aw<|RG.un<|RG.un<|Aw<|Br rfl rfl<|Ae rfl<|Aw<|Aw<|Br rfl rfl<|Ae rfl<|Aw<|Aw<|Br rfl rfl<|Ab (Bo rfl)<|Aa<|d0 false c0 (Bv _ _) h
 refine AJ (Ai rfl)<|AJ (FV.geqN (i:=b0.toNat) (j:=48) rfl rfl)<|AJ (Ai rfl)<|BE (s:=31) rfl h (fun I0 h=>?_) (fun I0 h=>?_)
 refine AJ (Ai rfl)<|AJ (FV.leqN (i:=b0.toNat) (j:=57) rfl rfl)<|AJ (BC rfl rfl)<|Bx rfl rfl<|Ae rfl<|BE (s:=36) rfl h (fun J0 h=>?_) (fun J0 h=>?_)
 refine Aw<|Aw<|Br rfl rfl<|Ae rfl<|Aw<|Aw<|Br rfl rfl<|Ab (Bo rfl)<|Aa<|d0 false c0 (Bv _ _) h
 refine AJ (Ai rfl)<|AJ (BQ (i:=b0.toNat) (j:=45) rfl rfl)<|Bx rfl rfl<|Ae rfl<|BE (s:=40) rfl h (fun K0 h=>?_) (fun K0 h=>?_)
 refine Aw<|Aw<|Br rfl rfl<|Ab (Bo rfl)<|Aa<|d0 false c0 (Bv _ _) h
 refine AJ (Ai rfl)<|AJ (BQ (i:=b0.toNat) (j:=95) rfl rfl)<|Bx rfl rfl<|Ab (Bo rfl)<|Aa<|d0 (!(decide (b0.toNat = 95))) c0 (Bv _ _) h
 refine Aw<|Aw<|AJ (Bh rfl rfl)<|Bx rfl rfl<|Ae rfl<|AJ (Ai rfl)<|AJ (BQ (i:=b0.toNat) (j:=45) rfl rfl)<|Bx rfl rfl<|Ae rfl<|BE (s:=40) rfl h (fun M0 h=>?_) (fun M0 h=>?_)
 refine Aw<|Aw<|Br rfl rfl<|Ab (Bo rfl)<|Aa<|d0 false c0 (Bv _ _) h
 refine AJ (Ai rfl)<|AJ (BQ (i:=b0.toNat) (j:=95) rfl rfl)<|Bx rfl rfl<|Ab (Bo rfl)<|Aa<|d0 (!(decide (b0.toNat = 95))) c0 (Bv _ _) h
 refine Aw<|Aw<|AJ (Bh rfl rfl)<|Bx rfl rfl<|Ae rfl<|AJ (Ai rfl)<|AJ (FV.geqN (i:=b0.toNat) (j:=48) rfl rfl)<|AJ (Ai rfl)<|BE (s:=31) rfl h (fun P0 h=>?_) (fun P0 h=>?_)
 refine AJ (Ai rfl)<|AJ (FV.leqN (i:=b0.toNat) (j:=57) rfl rfl)<|AJ (BC rfl rfl)<|Bx rfl rfl<|Ae rfl<|BE (s:=36) rfl h (fun Q0 h=>?_) (fun Q0 h=>?_)
 refine Aw<|Aw<|Br rfl rfl<|Ae rfl<|Aw<|Aw<|Br rfl rfl<|Ab (Bo rfl)<|Aa<|d0 false c0 (Bv _ _) h
 refine AJ (Ai rfl)<|AJ (BQ (i:=b0.toNat) (j:=45) rfl rfl)<|Bx rfl rfl<|Ae rfl<|BE (s:=40) rfl h (fun R0 h=>?_) (fun R0 h=>?_)
 refine Aw<|Aw<|Br rfl rfl<|Ab (Bo rfl)<|Aa<|d0 false c0 (Bv _ _) h
 refine AJ (Ai rfl)<|AJ (BQ (i:=b0.toNat) (j:=95) rfl rfl)<|Bx rfl rfl<|Ab (Bo rfl)<|Aa<|d0 (!(decide (b0.toNat = 95))) c0 (Bv _ _) h
 refine Aw<|Aw<|AJ (Bh rfl rfl)<|Bx rfl rfl<|Ae rfl<|AJ (Ai rfl)<|AJ (BQ (i:=b0.toNat) (j:=45) rfl rfl)<|Bx rfl rfl<|Ae rfl<|BE (s:=40) rfl h (fun U0 h=>?_) (fun U0 h=>?_)
 refine Aw<|Aw<|Br rfl rfl<|Ab (Bo rfl)<|Aa<|d0 false c0 (Bv _ _) h
 refine AJ (Ai rfl)<|AJ (BQ (i:=b0.toNat) (j:=95) rfl rfl)<|Bx rfl rfl<|Ab (Bo rfl)<|Aa<|d0 (!(decide (b0.toNat = 95))) c0 (Bv _ _) h
 refine Ba rfl ?_
 have h:=thn_inr h p0
 try dsimp only at h
 refine Ac<|Ae rfl<|Ab (BK Tryz.underlying9 rfl)<|Ab (FV.geqN (i:=a0.size) (j:=1) rfl rfl)<|Ae rfl<|BE (s:=48) rfl h (fun V0 h=>?_) (fun V0 h=>?_)
 refine AJ (Ai rfl)<|AJ (BK Tryz.underlying9 rfl)<|AJ (FV.leqN (i:=a0.size) (j:=12) rfl rfl)<|Br rfl rfl<|Af rfl<|Aa<|Al rfl<|AT hb0 Tryz.func170 rfl rfl ?_
 cases h
 exact c0.gv
 refine Aw<|Aw<|Aw<|Bx rfl rfl<|Af rfl<|Aa<|Al rfl<|AT hb0 Tryz.func170 rfl rfl ?_
 cases h
 exact c0.gv
def al_l1 (_n:Nat) (a0:List Int) (a2:Int) (d0:Nat -> Option (Bool ⊕ Unit)):Nat -> Option (Bool ⊕ Unit)
  | b0=>(if b0 < a0.length then (a0[b0]?).bind fun c0=>(if c0 < 0 then some (.inl false) else (if a2 < c0 then some (.inl false) else d0 (b0 + 1))) else some (.inr ()))
def al_p (n:Nat) (a0:List Int) (a1:Int) (a2:Int):Option Bool:=
  thn (loopF (al_l1 n a0 a2) n 0) (fun _=>some (decide (((a0.length:Nat):Int) = a1)))
theorem al_c (n:Nat) {L w} (_hL:hl L w) {a0:List Int} {v0_0:Value} (h0_0:Rep.R w L [v0_0] a0) {a1:Int} {a2:Int}  {r:Bool} (h:al_p n a0 a1 a2 = some r) :
 Cl 171 #[v0_0,vI a1,vI a2] w (Gives w fun _ u=>u = .bool r):=by
 unfold al_p at h
 refine AF Tryz.func171 rfl rfl rfl fun _ cs0 hb0=>Ac<|Af rfl<|Aa<|Aj<|Ac<|Af rfl<|Aa<|Ay<|tn h fun H0 A0 g0=>MX.lo (α:=Nat) (fun b0=>[(0,v0_0),(1,vI a1),(2,vI a2),(7,vI ((b0:Nat):Int))]) (fun b0=>[]) (fun b0=>b0) 0 A0 (AB w) ?_
 rintro E0 b0 I0 x0 c0 y0 h
 unfold al_l1 at h
 try dsimp only at h
 refine Aj<|Ac<|Ae rfl<|Ae rfl ?_
 have d0:=AO h0_0 c0
 have G0:a0.length <= 281474976710656:=AY d0
 refine Ab (Bc (xs:=a0) Tryz.underlying45 rfl d0)<|Ab (Bu (i:=b0) (j:=a0.length) rfl rfl)<|Aa<|AS rfl h (fun s0 h=>?_) (fun s0 h=>?_)
 refine Aq<|Aj<|Ay<|Ac<|Ae rfl<|Ae rfl<|bk h fun j0 C0 h=>?_
 obtain ⟨D0,F0,k0,p0,v0,B0,q0⟩:=Bl d0 C0
 have z0:v0 = [vI j0]:=B0; subst z0
 refine Ab (Bm 1 b0 rfl k0 rfl rfl p0)<|AP rfl (q0 0 _ rfl)<|Ab (BR (i:=j0) (j:=0) rfl rfl)<|Ae rfl<|BE (s:=19) rfl h (fun t0 h=>?_) (fun t0 h=>?_)
 refine Aw<|Aw<|Aw<|Aw<|Aw<|Aw<|Br rfl rfl<|Aa<|Bk rfl<|Ac<|Af rfl<|Aa ?_
 have h:=thn_inl h g0
 refine Al rfl<|AT hb0 Tryz.func171 rfl rfl ?_
 cases h
 exact c0.gv
 refine AJ (Ai rfl)<|AJ (Ai rfl)<|AJ (Bm 1 b0 rfl k0 rfl rfl p0)<|AJ (AL rfl (q0 0 _ rfl))<|AJ (Ai rfl)<|AJ (FV.gtr (i:=j0) (j:=a2) rfl rfl)<|Bx rfl rfl<|Aa<|AS rfl h (fun u0 h=>?_) (fun u0 h=>?_)
 refine Ac<|Af rfl<|Aa ?_
 have h:=thn_inl h g0
 refine Al rfl<|AT hb0 Tryz.func171 rfl rfl ?_
 cases h
 exact c0.gv
 refine Aq<|AA<|Av<|Ae rfl<|Ab (Bw (i:=b0) (j:=1) rfl rfl (by omega))<|Af rfl<|Aa<|x0 (b0 + 1) c0 y0 h
 refine Ba rfl ?_
 have h:=thn_inr h g0
 try dsimp only at h
 refine Ac<|Ae rfl<|Ab (Bc (xs:=a0) Tryz.underlying45 rfl d0)<|Ae rfl<|Ab (FV.eql (i:=((a0.length:Nat):Int)) (j:=a1) rfl rfl)<|Af rfl<|Aa<|Al rfl<|AT hb0 Tryz.func171 rfl rfl ?_
 cases h
 exact c0.gv
def cj_p (n:Nat) (a0:Tc) (a1:Tb):Option Bool:=
  (br_p n a1.fw).bind fun b0=>(if b0 = true then (if a1.fv < 0 then some false else (if 1000000000 < a1.fv then some false else (al_p n a1.fe a0.fe a1.fv).bind fun c0=>(if c0 = true then (al_p n a1.fC a0.fh (1000000000:Int)).bind fun d0=>(if d0 = true then (al_p n a1.fB a0.fj (63:Int)).bind fun g0=>(if g0 = true then (if a1.fu = true then (if a1.fv = 0 then (al_p n a1.fC a0.fh (0:Int)).bind fun j0=>(if j0 = true then (al_p n a1.fB a0.fj (0:Int)).bind fun k0=>some k0 else some false) else some false) else some true) else some false) else some false) else some false))) else some false)
theorem cj_c (n:Nat) {L w} (hL:hl L w) (a0:Tc) {v0_3:Value} (_h0_3:Rep.R w L [v0_3] a0.fo) (a1:Tb) {v1_2:Value} (h1_2:Rep.R w L [v1_2] a1.fe) {v1_3:Value} (h1_3:Rep.R w L [v1_3] a1.fC) {v1_4:Value} (h1_4:Rep.R w L [v1_4] a1.fB)  {r:Bool} (h:cj_p n a0 a1 = some r) :
 Cl 142 #[.agg #[vI a0.fe,vI a0.fh,vI a0.fj,v0_3],.agg #[.string a1.fw,vI a1.fv,v1_2,v1_3,v1_4,.bool a1.fu]] w (Gives w fun _ u=>u = .bool r):=by
 unfold cj_p at h
 refine AF Tryz.func142 rfl rfl rfl fun _ cs0 hb0=>Ac<|RG.bx (AB w) rfl rfl fun Q0 J0 v0 M0=>RG.bx v0 rfl rfl fun R0 K0 b0 P0=>Af rfl<|Aa<|Aj<|Ac<|AV 0 rfl<|AP rfl ((b0.memA .hd) 0 _ rfl)<|bk h fun D0 x0 h=>Bi (.bool D0) (bd 170) rfl (e1 rfl) (fun w9 hw9=>br_c n (b0.hL0 hL hw9)  x0) rfl<|Ab (Bo rfl)<|Ae rfl<|RG.ifnb (s:=9) rfl h (fun c0 h=>?_) (fun c0 h=>?_)
 refine RG.fg 1 rfl<|AJ (AL rfl ((b0.memA .hd) 1 _ rfl))<|AJ (BR (i:=a1.fv) (j:=0) rfl rfl)<|Bx rfl rfl<|Ae rfl<|BE (s:=14) rfl h (fun d0 h=>?_) (fun d0 h=>?_)
 refine Aw<|Aw<|Aw<|Br rfl rfl<|Aa<|Bk rfl<|Ac<|Af rfl<|Aa<|Al rfl<|AT hb0 Tryz.func142 rfl rfl ?_
 cases h
 exact b0.gv
 refine RG.fg 1 rfl<|AJ (AL rfl ((b0.memA .hd) 1 _ rfl))<|AJ (FV.gtr (i:=a1.fv) (j:=1000000000) rfl rfl)<|Bx rfl rfl<|Aa<|AS rfl h (fun g0 h=>?_) (fun g0 h=>?_)
 refine Ac<|Af rfl<|Aa<|Al rfl<|AT hb0 Tryz.func142 rfl rfl ?_
 cases h
 exact b0.gv
 refine Aq<|Aj<|Ac<|AV 2 rfl<|AP rfl ((b0.memA .hd) 2 _ rfl)<|AV 0 rfl<|AP rfl ((b0.memA .t1) 0 _ rfl)<|AV 1 rfl<|AP rfl ((b0.memA .hd) 1 _ rfl)<|bk h fun E0 y0 h=>Bi (.bool E0) (bd 171) rfl (e3 rfl rfl rfl) (fun w9 hw9=>al_c n (b0.hL0 hL hw9) (b0.k0 h1_2 hw9) y0) rfl<|Ab (Bo rfl)<|Ae rfl<|RG.ifnb (s:=27) rfl h (fun j0 h=>?_) (fun j0 h=>?_)
 refine RG.fg 3 rfl<|AJ (AL rfl ((b0.memA .hd) 3 _ rfl))<|RG.fg 1 rfl<|AJ (AL rfl ((b0.memA .t1) 1 _ rfl))<|bk h fun F0 z0 h=>RG.callq' (v:=.bool F0) (fst:=[]) (cap:=[]) (.yes rfl rfl) (bd 171) rfl (e3 rfl rfl rfl) (fun w9 hw9=>al_c n (b0.hL0 hL hw9) (b0.k0 h1_3 hw9) z0) rfl<|AJ (Bo rfl)<|Bx rfl rfl<|Ae rfl<|RG.ifnb (s:=35) rfl h (fun p0 h=>?_) (fun p0 h=>?_)
 refine RG.fg 4 rfl<|AJ (AL rfl ((b0.memA .hd) 4 _ rfl))<|RG.fg 2 rfl<|AJ (AL rfl ((b0.memA .t1) 2 _ rfl))<|bk h fun G0 A0 h=>RG.callq' (v:=.bool G0) (fst:=[]) (cap:=[]) (.yes rfl rfl) (bd 171) rfl (e3 rfl rfl rfl) (fun w9 hw9=>al_c n (b0.hL0 hL hw9) (b0.k0 h1_4 hw9) A0) rfl<|AJ (Bo rfl)<|Bx rfl rfl<|Aa<|MX.ifnb rfl h (fun q0 h=>?_) (fun q0 h=>?_)
 refine Aq<|Aj<|Ac<|AV 5 rfl<|AP rfl ((b0.memA .hd) 5 _ rfl)<|Aa<|MX.ifb rfl h (fun s0 h=>?_) (fun s0 h=>?_)
 refine Ac<|AV 1 rfl<|AP rfl ((b0.memA .hd) 1 _ rfl)<|Ab (FV.eql (i:=a1.fv) (j:=0) rfl rfl)<|Ae rfl<|BE (s:=48) rfl h (fun t0 h=>?_) (fun t0 h=>?_)
 refine RG.fg 3 rfl<|AJ (AL rfl ((b0.memA .hd) 3 _ rfl))<|RG.fg 1 rfl<|AJ (AL rfl ((b0.memA .t1) 1 _ rfl))<|bk h fun H0 B0 h=>RG.callq' (v:=.bool H0) (fst:=[]) (cap:=[]) (.yes rfl rfl) (bd 171) rfl (e3 rfl rfl rfl) (fun w9 hw9=>al_c n (b0.hL0 hL hw9) (b0.k0 h1_3 hw9) B0) rfl<|Br rfl rfl<|Ae rfl<|RG.ifb (s:=55) rfl h (fun u0 h=>?_) (fun u0 h=>?_)
 refine RG.fg 4 rfl<|AJ (AL rfl ((b0.memA .hd) 4 _ rfl))<|RG.fg 2 rfl<|AJ (AL rfl ((b0.memA .t1) 2 _ rfl))<|bk h fun I0 C0 h=>RG.callq' (v:=.bool I0) (fst:=[]) (cap:=[]) (.yes rfl rfl) (bd 171) rfl (e3 rfl rfl rfl) (fun w9 hw9=>al_c n (b0.hL0 hL hw9) (b0.k0 h1_4 hw9) C0) rfl<|Br rfl rfl<|Af rfl<|Aa<|Al rfl<|AT hb0 Tryz.func142 rfl rfl ?_
 cases h
 exact b0.gv
 refine Aw<|Aw<|Aw<|Aw<|Aw<|Bx rfl rfl<|Af rfl<|Aa<|Al rfl<|AT hb0 Tryz.func142 rfl rfl ?_
 cases h
 exact b0.gv
 refine Aw<|Aw<|Aw<|Aw<|Aw<|Bx rfl rfl<|Ae rfl<|Aw<|Aw<|Aw<|Aw<|Aw<|Bx rfl rfl<|Af rfl<|Aa<|Al rfl<|AT hb0 Tryz.func142 rfl rfl ?_
 cases h
 exact b0.gv
 refine Aq<|Ac<|Af rfl<|Aa<|Al rfl<|AT hb0 Tryz.func142 rfl rfl ?_
 cases h
 exact b0.gv
 refine Ac<|Af rfl<|Aa<|Al rfl<|AT hb0 Tryz.func142 rfl rfl ?_
 cases h
 exact b0.gv
 refine Aw<|Aw<|Aw<|Aw<|Aw<|Aw<|Br rfl rfl<|Aa<|Bk rfl<|Ac<|Af rfl<|Aa<|Al rfl<|AT hb0 Tryz.func142 rfl rfl ?_
 cases h
 exact b0.gv
 refine Aw<|Aw<|Aw<|Aw<|Aw<|Aw<|Br rfl rfl<|Ae rfl<|Aw<|Aw<|Aw<|Aw<|Aw<|Aw<|Br rfl rfl<|Aa<|Bk rfl<|Ac<|Af rfl<|Aa<|Al rfl<|AT hb0 Tryz.func142 rfl rfl ?_
 cases h
 exact b0.gv
 refine Aw<|Aw<|Aw<|Br rfl rfl<|Ae rfl<|Aw<|Aw<|Aw<|Br rfl rfl<|Aa<|Bk rfl<|Ac<|Af rfl<|Aa<|Al rfl<|AT hb0 Tryz.func142 rfl rfl ?_
 cases h
 exact b0.gv
def aj_l1 (_n:Nat) (j0:Nat) (a0:Tc) (d0:Tb) (c0:Nat -> Option ((Int ⊕ Unit) ⊕ Unit)):Nat -> Option ((Int ⊕ Unit) ⊕ Unit)
  | b0=>(if b0 < j0 then (a0.fo[b0]?).bind fun g0=>(if g0.fw = d0.fw then some (.inl (.inl (161:Int))) else (if g0.fu = true then (if d0.fu = true then c0 (b0 + 1) else some (.inl (.inl (161:Int)))) else c0 (b0 + 1))) else some (.inr ()))
def aj_l2 (n:Nat) (a0:Tc) (d0:Nat -> Option (Int ⊕ Unit)):Nat -> Option (Int ⊕ Unit)
  | b0=>(if b0 < a0.fo.length then (a0.fo[b0]?).bind fun c0=>(cj_p n a0 c0).bind fun g0=>(if g0 = true then thn (loopF (aj_l1 n b0 a0 c0) n 0) (fun _=>d0 (b0 + 1)) else some (.inl (161:Int))) else some (.inr ()))
def aj_p (n:Nat) (a0:Tc):Option Int:=
  jn (fun c0=>(if c0 = true then some (161:Int) else (if a0.fo.length < 1 then some (161:Int) else (if 64 < a0.fo.length then some (161:Int) else (a0.fo[0]?).bind fun d0=>(if d0.fu = true then some (161:Int) else thn (loopF (aj_l2 n a0) n 0) (fun _=>some (0:Int))))))) (fun b0=>(if a0.fe < 0 then b0 true else (if 6 < a0.fe then b0 true else (if a0.fh < 0 then b0 true else (if 12 < a0.fh then b0 true else (if a0.fj < 0 then b0 true else b0 (decide (3 < a0.fj))))))))
theorem aj_c (n:Nat) {L w} (hL:hl L w) (a0:Tc) {v0_3:Value} (h0_3:Rep.R w L [v0_3] a0.fo)  {r:Int} (h:aj_p n a0 = some r) :
 Cl 104 #[.agg #[vI a0.fe,vI a0.fh,vI a0.fj,v0_3]] w (Gives w fun _ u=>u = vI r):=by
 unfold aj_p at h
 refine AF Tryz.func104 rfl rfl rfl fun _ cs0 hb0=>Ac<|RG.bx (AB w) rfl rfl fun Z2 v0 d0 t2=>Af rfl<|Aa<|Aj<|Aj<|MX.jo (α:=Bool) (fun y0=>[(1,vP v0),(32,.bool y0)]) (fun y0=>[.cells v0 [vI a0.fe,vI a0.fh,vI a0.fj,v0_3] 44]) (fun y0=>y0) d0 h ?_ ?_
 rintro y0 c3 s0 u2 h
 try dsimp only at h
 refine MX.ifb rfl h (fun V0 h=>?_) (fun V0 h=>?_)
 refine Ac<|Af rfl<|Aa<|Al rfl<|AT hb0 Tryz.func104 rfl rfl ?_
 cases h
 exact s0.gv
 refine Aq<|Aj<|Ac<|AV 3 rfl<|AP rfl ((s0.memA .hd) 3 _ rfl) ?_
 have A0:=AO h0_3 s0
 have v2:a0.fo.length <= 281474976710656:=AY A0
 refine Ab (Bc (xs:=a0.fo) Tryz.underlying42 rfl A0)<|Ab (Bu (i:=a0.fo.length) (j:=1) rfl rfl)<|Ae rfl<|BE (s:=37) rfl h (fun j1 h=>?_) (fun j1 h=>?_)
 refine Aw<|Aw<|Aw<|Aw<|Br rfl rfl<|Ae rfl<|Aw<|Aw<|Aw<|Aw<|Aw<|Br rfl rfl<|Aa<|Bk rfl<|Ac<|Af rfl<|Aa<|Al rfl<|AT hb0 Tryz.func104 rfl rfl ?_
 cases h
 exact s0.gv
 refine RG.fg 3 rfl<|AJ (AL rfl ((s0.memA .hd) 3 _ rfl))<|AJ (Bc (xs:=a0.fo) Tryz.underlying42 rfl A0)<|AJ (FV.gtrN (i:=a0.fo.length) (j:=64) rfl rfl)<|Bx rfl rfl<|Ae rfl<|BE (s:=43) rfl h (fun k1 h=>?_) (fun k1 h=>?_)
 refine Aw<|Aw<|Aw<|Aw<|Aw<|Br rfl rfl<|Aa<|Bk rfl<|Ac<|Af rfl<|Aa<|Al rfl<|AT hb0 Tryz.func104 rfl rfl ?_
 cases h
 exact s0.gv
 refine RG.fg 3 rfl<|AJ (AL rfl ((s0.memA .hd) 3 _ rfl))<|bk h fun j3 M1 h=>?_
 obtain ⟨X1,j2,v1,y1,s2,J1,A1⟩:=Bl A0 M1
 obtain ⟨W2,X2,Y2,rfl,D2,E2,F2⟩:=op_Tb J1
 refine AJ (Bm 6 0 rfl v1 rfl rfl y1)<|RG.fg 5 rfl<|AJ (AL rfl (A1 5 _ rfl))<|Bx rfl rfl<|Aa<|MX.ifb rfl h (fun p1 h=>?_) (fun p1 h=>?_)
 refine Ac<|Af rfl<|Aa<|Al rfl<|AT hb0 Tryz.func104 rfl rfl ?_
 cases h
 exact s0.gv
 refine Aq<|Aj<|Ac<|Af rfl<|Aa<|Ay<|tn h fun G2 B1 z0=>MX.lo (α:=Nat) (fun g0=>[(1,vP v0),(3,vI ((g0:Nat):Int))]) (fun g0=>[.cells v0 [vI a0.fe,vI a0.fh,vI a0.fj,v0_3] 44]) (fun g0=>g0) 0 B1 s0 ?_
 rintro Y1 g0 b3 q1 j0 s1 h
 unfold aj_l2 at h
 try dsimp only at h
 refine Aj<|Ac<|Ae rfl<|AV 3 rfl<|AP rfl ((j0.memA .hd) 3 _ rfl) ?_
 have I0:=AO h0_3 j0
 refine Ab (Bc (xs:=a0.fo) Tryz.underlying42 rfl I0)<|Ab (Bu (i:=g0) (j:=a0.fo.length) rfl rfl)<|Aa<|AS rfl h (fun Q0 h=>?_) (fun Q0 h=>?_)
 refine Aq<|Aj<|Ay<|Aj<|Aj<|du 8 fun t0 u0=>Rx 0 192 t0 rfl u0 (AK rfl (j0.memA .hd))<|Rv 1 t0 rfl u0 (fun _=>Bd 3 rfl)<|Rx 2 240 t0 rfl u0 (AL rfl ((j0.memA .hd) 3 _ rfl))<|Rv 3 t0 rfl u0 (fun _=>Ai rfl)<|bk h fun Q1 P0 h=>?_
 obtain ⟨U1,c2,u1,x1,k2,D1,z1⟩:=Bl I0 P0
 obtain ⟨I2,J2,K2,rfl,E1,F1,G1⟩:=op_Tb D1
 refine Rv 4 t0 rfl u0 (fun _=>Bm 6 g0 rfl u1 rfl rfl x1)<|Rx 5 192 t0 rfl u0 (AK rfl z1)<|bk h fun R1 P1 h=>BT 6 127 128 (.bool R1) t0 rfl u0 (bd 142) rfl (e2 rfl rfl) (fun w9 hw9=>cj_c n (j0.hL0 hL hw9) a0 (j0.k0 h0_3 hw9) Q1 (j0.kd E1 hw9) (j0.kd F1 hw9) (j0.kd G1 hw9) P1) rfl<|Rv 7 t0 rfl u0 (fun _=>Bo rfl)<|AM (dk t0)<|MX.ifnb rfl h (fun R0 h=>?_) (fun R0 h=>?_)
 refine Aq<|Ac<|Af rfl<|Aa<|Ay<|tn h fun H2 C1 C0=>MX.lo (α:=Nat) (fun p0=>[(1,vP v0),(3,vI ((g0:Nat):Int)),(4,vI ((p0:Nat):Int))]) (fun p0=>[.cells v0 [vI a0.fe,vI a0.fh,vI a0.fj,v0_3] 44]) (fun p0=>p0) 0 C1 j0 ?_
 rintro Z1 p0 d3 D0 q0 B0 h
 unfold aj_l1 at h
 try dsimp only at h
 refine Aj<|Ac<|Ae rfl<|Ae rfl<|Ab (Bu (i:=p0) (j:=g0) rfl rfl)<|Aa<|AS rfl h (fun U0 h=>?_) (fun U0 h=>?_)
 refine Aq<|Aj<|Ay<|Aj<|du 30 fun b0 c0=>Rv 0 b0 rfl c0 (fun _=>Bd 3 rfl)<|Rx 1 1073737784 b0 rfl c0 (AL rfl ((q0.memA .hd) 3 _ rfl))<|Rv 2 b0 rfl c0 (fun _=>Ai rfl)<|bk h fun g3 K1 h=>?_
 have K0:=AO h0_3 q0
 obtain ⟨V1,d2,E0,G0,p2,H1,J0⟩:=Bl K0 K1
 obtain ⟨M2,P2,Q2,rfl,x2,y2,z2⟩:=op_Tb H1
 refine Rv 3 b0 rfl c0 (fun _=>Bm 6 p0 rfl E0 rfl rfl G0)<|Rv 4 b0 rfl c0 (fun _=>Bd 0 rfl)<|Rx 5 1073737728 b0 rfl c0 (AL rfl (J0 0 _ rfl))<|Rv 6 b0 rfl c0 (fun _=>Bd 3 rfl)<|Rx 7 1073741312 b0 rfl c0 (AL rfl ((q0.memA .hd) 3 _ rfl))<|Rv 8 b0 rfl c0 (fun _=>Ai rfl) ?_
 obtain ⟨W1,g2,F0,H0,q2,I1,M0⟩:=Bl K0 P0
 obtain ⟨R2,U2,V2,rfl,A2,B2,C2⟩:=op_Tb I1
 refine Rv 9 b0 rfl c0 (fun _=>Bm 6 g0 rfl F0 rfl rfl H0)<|Rv 10 b0 rfl c0 (fun _=>Bd 0 rfl)<|Rx 11 1073737728 b0 rfl c0 (AL rfl (M0 0 _ rfl))<|Rv 12 b0 rfl c0 (fun _=>FV.eqlS rfl rfl)<|Rv 13 b0 rfl c0 (fun _=>Ai rfl)<|RD.ifd (s:=83) rfl h (fun W0 h=>?_) (fun W0 h=>?_)
 refine BD 536870911 1 [(14,84),(15,85),(16,86),(17,87),(18,88),(19,89),(20,90),(21,91),(22,92),(23,93),(24,94),(25,95),(26,96),(27,97),(28,98)] (F:=[(83,true)]) (U:=[]) b0 c0 (.cons rfl .nil) .nil ?_
 dsimp only [offS,List.map]
 refine Rv 29 b0 rfl c0 (fun _=>BC rfl rfl)<|AM (dk b0)<|Bk rfl<|Ac<|Af rfl<|Aa ?_
 have h:=thn_inl h C0
 have h:=thn_inl h z0
 refine Al rfl<|AT hb0 Tryz.func104 rfl rfl ?_
 cases h
 exact q0.gv
 refine BO 14 32767 b0 rfl c0 (.yes rfl rfl) (fun _=>Bd 3 rfl) rfl<|RD.val (i:=15) (m' :=65535) (W:=1073610752) (tk b0) rfl c0 (.yes rfl rfl) (AL rfl ((q0.memA .hd) 3 _ rfl)) rfl<|BO 16 131071 b0 rfl c0 (.yes rfl rfl) (fun _=>Ai rfl) rfl<|BO 17 262143 b0 rfl c0 (.yes rfl rfl) (fun _=>Bm 6 p0 rfl E0 rfl rfl G0) rfl<|BO 18 524287 b0 rfl c0 (.yes rfl rfl) (fun _=>Bd 5 rfl) rfl<|RD.val (i:=19) (m' :=1048575) (W:=1072693248) (tk b0) rfl c0 (.yes rfl rfl) (AL rfl (J0 5 _ rfl)) rfl<|BO 20 2097151 b0 rfl c0 (.yes rfl rfl) (fun _=>Ai rfl) rfl<|RD.ifb (s:=90) rfl h (fun X0 h=>?_) (fun X0 h=>?_)
 refine BO 21 4194303 b0 rfl c0 (.yes rfl rfl) (fun _=>Bd 3 rfl) rfl<|RD.val (i:=22) (m' :=8388607) (W:=1056964608) (tk b0) rfl c0 (.yes rfl rfl) (AL rfl ((q0.memA .hd) 3 _ rfl)) rfl<|BO 23 16777215 b0 rfl c0 (.yes rfl rfl) (fun _=>Ai rfl) rfl<|BO 24 33554431 b0 rfl c0 (.yes rfl rfl) (fun _=>Bm 6 g0 rfl F0 rfl rfl H0) rfl<|BO 25 67108863 b0 rfl c0 (.yes rfl rfl) (fun _=>Bd 5 rfl) rfl<|RD.val (i:=26) (m' :=134217727) (W:=939524096) (tk b0) rfl c0 (.yes rfl rfl) (AL rfl (M0 5 _ rfl)) rfl<|BO 27 268435455 b0 rfl c0 (.yes rfl rfl) (fun _=>Bo rfl) rfl<|BO 28 536870911 b0 rfl c0 (.yes rfl rfl) (fun _=>BC rfl rfl) rfl<|Rv 29 b0 rfl c0 (fun _=>Bh rfl rfl)<|AM (dk b0)<|MX.ifnb rfl h (fun Y0 h=>?_) (fun Y0 h=>?_)
 refine Aq<|AA<|Av<|Ae rfl<|Ab (Bw (i:=p0) (j:=1) rfl rfl (by omega))<|Af rfl<|Aa<|D0 (p0 + 1) q0 B0 h
 refine Ac<|Af rfl<|Aa ?_
 have h:=thn_inl h C0
 have h:=thn_inl h z0
 refine Al rfl<|AT hb0 Tryz.func104 rfl rfl ?_
 cases h
 exact q0.gv
 refine BD 268435455 2 [(21,91),(22,92),(23,93),(24,94),(25,95),(26,96),(27,97)] (F:=[(90,false)]) (U:=[]) b0 c0 (.cons rfl .nil) .nil ?_
 dsimp only [offS,List.map]
 refine BO 28 536870911 b0 rfl c0 (.yes rfl rfl) (fun _=>Bh rfl rfl) rfl<|Rv 29 b0 rfl c0 (fun _=>Bh rfl rfl)<|AM (dk b0)<|BF rfl<|Aq<|AA<|Av<|Ae rfl<|Ab (Bw (i:=p0) (j:=1) rfl rfl (by omega))<|Af rfl<|Aa<|D0 (p0 + 1) q0 B0 h
 refine Ba rfl ?_
 have h:=thn_inr h C0
 try dsimp only at h
 refine AA<|Av<|Ae rfl<|Ab (Bw (i:=g0) (j:=1) rfl rfl (by omega))<|Af rfl<|Aa<|q1 (g0 + 1) q0 (Tt s1 B0) h
 refine Ac<|Af rfl<|Aa ?_
 have h:=thn_inl h z0
 refine Al rfl<|AT hb0 Tryz.func104 rfl rfl ?_
 cases h
 exact j0.gv
 refine Ba rfl ?_
 have h:=thn_inr h z0
 try dsimp only at h
 refine Ac<|Af rfl<|Aa<|Al rfl<|AT hb0 Tryz.func104 rfl rfl ?_
 cases h
 exact j0.gv
 intro b2 x0 h
 try dsimp only at h
 refine Av<|AV 0 rfl<|AP rfl ((d0.memA .hd) 0 _ rfl)<|Ab (BR (i:=a0.fe) (j:=0) rfl rfl)<|Ae rfl<|BE (s:=8) rfl h (fun Z0 h=>?_) (fun Z0 h=>?_)
 refine Aw<|Aw<|Aw<|Br rfl rfl<|Ae rfl<|Aw<|Aw<|Aw<|Br rfl rfl<|Ae rfl<|Aw<|Aw<|Aw<|Br rfl rfl<|Ae rfl<|Aw<|Aw<|Aw<|Br rfl rfl<|Ae rfl<|Aw<|Aw<|Aw<|Br rfl rfl<|Aa<|x0 true d0 (Bv _ _) h
 refine RG.fg 0 rfl<|AJ (AL rfl ((d0.memA .hd) 0 _ rfl))<|AJ (FV.gtr (i:=a0.fe) (j:=6) rfl rfl)<|Bx rfl rfl<|Ae rfl<|BE (s:=13) rfl h (fun b1 h=>?_) (fun b1 h=>?_)
 refine Aw<|Aw<|Aw<|Br rfl rfl<|Ae rfl<|Aw<|Aw<|Aw<|Br rfl rfl<|Ae rfl<|Aw<|Aw<|Aw<|Br rfl rfl<|Ae rfl<|Aw<|Aw<|Aw<|Br rfl rfl<|Aa<|x0 true d0 (Bv _ _) h
 refine RG.fg 1 rfl<|AJ (AL rfl ((d0.memA .hd) 1 _ rfl))<|AJ (BR (i:=a0.fh) (j:=0) rfl rfl)<|Bx rfl rfl<|Ae rfl<|BE (s:=18) rfl h (fun c1 h=>?_) (fun c1 h=>?_)
 refine Aw<|Aw<|Aw<|Br rfl rfl<|Ae rfl<|Aw<|Aw<|Aw<|Br rfl rfl<|Ae rfl<|Aw<|Aw<|Aw<|Br rfl rfl<|Aa<|x0 true d0 (Bv _ _) h
 refine RG.fg 1 rfl<|AJ (AL rfl ((d0.memA .hd) 1 _ rfl))<|AJ (FV.gtr (i:=a0.fh) (j:=12) rfl rfl)<|Bx rfl rfl<|Ae rfl<|BE (s:=23) rfl h (fun d1 h=>?_) (fun d1 h=>?_)
 refine Aw<|Aw<|Aw<|Br rfl rfl<|Ae rfl<|Aw<|Aw<|Aw<|Br rfl rfl<|Aa<|x0 true d0 (Bv _ _) h
 refine RG.fg 2 rfl<|AJ (AL rfl ((d0.memA .hd) 2 _ rfl))<|AJ (BR (i:=a0.fj) (j:=0) rfl rfl)<|Bx rfl rfl<|Ae rfl<|BE (s:=28) rfl h (fun g1 h=>?_) (fun g1 h=>?_)
 refine Aw<|Aw<|Aw<|Br rfl rfl<|Aa<|x0 true d0 (Bv _ _) h
 refine RG.fg 2 rfl<|AJ (AL rfl ((d0.memA .hd) 2 _ rfl))<|AJ (FV.gtr (i:=a0.fj) (j:=3) rfl rfl)<|Bx rfl rfl<|Aa<|x0 (decide (3 < a0.fj)) d0 (Bv _ _) h
def aV_p (n:Nat) (a0:Tc) (a1:Int):Option Int:=
  (aj_p n a0).bind fun b0=>(if b0 = 0 then (if a1 < 1 then some (2:Int) else (if 8 < a1 then some (2:Int) else some (0:Int))) else some b0)
theorem aV_c (n:Nat) {L w} (hL:hl L w) (a0:Tc) {v0_3:Value} (h0_3:Rep.R w L [v0_3] a0.fo) {a1:Int}  {r:Int} (h:aV_p n a0 a1 = some r) :
 Cl 55 #[.agg #[vI a0.fe,vI a0.fh,vI a0.fj,v0_3],vI a1] w (Gives w fun _ u=>u = vI r):=by
 unfold aV_p at h
 refine AF Tryz.func55 rfl rfl rfl fun _ cs0 hb0=>Ac<|RG.bx (AB w) rfl rfl fun t0 q0 b0 s0=>Af rfl<|Aa<|Aj<|Ac<|Ab (AK rfl (b0.memA .hd))<|bk h fun c0 p0 h=>Bi (vI c0) (bd 104) rfl (e1 rfl) (fun w9 hw9=>aj_c n (b0.hL0 hL hw9) a0 (b0.k0 h0_3 hw9) p0) rfl<|Af rfl<|Aa<|Ac<|Ae rfl<|Ab (FV.neq (i:=c0) (j:=0) rfl rfl)<|Aa<|MX.ifn rfl h (fun d0 h=>?_) (fun d0 h=>?_)
 refine Aq<|Aj<|Ac<|Ae rfl<|Ab (BR (i:=a1) (j:=1) rfl rfl)<|Ae rfl<|BE (s:=13) rfl h (fun g0 h=>?_) (fun g0 h=>?_)
 refine Aw<|Aw<|Br rfl rfl<|Aa<|Bk rfl<|Ac<|Af rfl<|Aa<|Al rfl<|AT hb0 Tryz.func55 rfl rfl ?_
 cases h
 exact b0.gv
 refine AJ (Ai rfl)<|AJ (FV.gtr (i:=a1) (j:=8) rfl rfl)<|Bx rfl rfl<|Aa<|AS rfl h (fun j0 h=>?_) (fun j0 h=>?_)
 refine Ac<|Af rfl<|Aa<|Al rfl<|AT hb0 Tryz.func55 rfl rfl ?_
 cases h
 exact b0.gv
 refine Aq<|Ac<|Af rfl<|Aa<|Al rfl<|AT hb0 Tryz.func55 rfl rfl ?_
 cases h
 exact b0.gv
 refine Ac<|Ae rfl<|Af rfl<|Aa<|Al rfl<|AT hb0 Tryz.func55 rfl rfl ?_
 cases h
 exact b0.gv
def aE_l1 (_n:Nat) (a2:Int) (j0:List Bool) (c0:Int -> Option (Bool ⊕ Unit)):Int -> Option (Bool ⊕ Unit)
  | b0=>(if b0 < a2 then (idx j0 b0).bind fun g0=>(if g0 = true then (chk (b0 + 1)).bind fun d0=>c0 d0 else some (.inl false)) else some (.inr ()))
def aE_l2 (_n:Nat) (a1:Int) (a0:List Int) (a2:Int) (g0:Int × (List Bool) -> Option (Bool ⊕ (List Bool))):Int × (List Bool) -> Option (Bool ⊕ (List Bool))
  | (d0,c0)=>(if d0 < a1 then (idx a0 d0).bind fun b0=>(if b0 < 0 then some (.inl false) else (if a2 <= b0 then some (.inl false) else (idx c0 b0).bind fun _x127=>(put c0 ((b0.toNat:Nat):Int) true).bind fun k0=>(chk (d0 + 1)).bind fun j0=>g0 (j0,k0))) else some (.inr c0))
def aE_p (n:Nat) (a0:List Int) (a1:Int) (a2:Int):Option Bool:=
  (if ((a0.length:Nat):Int) = a1 then (mk a2 false).bind fun c0=>thn (loopF (aE_l2 n a1 a0 a2) n (0,c0)) (fun b0=>thn (loopF (aE_l1 n a2 b0) n 0) (fun _=>some true)) else some false)
theorem aE_c (n:Nat) {L w} (_hL:hl L w) {a0:List Int} {v0_0:Value} (h0_0:Rep.R w L [v0_0] a0) {a1:Int} {a2:Int}  {r:Bool} (h:aE_p n a0 a1 a2 = some r) :
 Cl 59 #[v0_0,vI a1,vI a2] w (Gives w fun _ u=>u = .bool r):=by
 unfold aE_p at h
 have hS0:=AB w
 refine AF Tryz.func59 rfl rfl rfl fun _ cs0 hb0=>Ac<|Af rfl<|Aa<|Aj<|Ac<|Ae rfl ?_
 have hl1:a0.length <= 281474976710656:=AY h0_0
 refine Ab (Bc (xs:=a0) Tryz.underlying46 rfl h0_0)<|Ae rfl<|Ab (FV.neq (i:=((a0.length:Nat):Int)) (j:=a1) rfl rfl)<|Aa<|MX.ifn rfl h (fun c2 h=>?_) (fun c2 h=>?_)
 refine Aq<|Ac<|Ae rfl<|bk h fun J0 H0 h=>Ak .plain rfl (Does.mk (α:=Bool) H0 hS0 el142 rfl) fun x2 k0 B0 s2=>Af rfl<|Aa<|Aj<|Ac<|Af rfl<|Aa<|Ay<|tn h fun u2 B1 x0=>MX.lf (α:=Int × (List Bool) × (List Value)) (fun ⟨b0,c0,d0⟩=>[(0,v0_0),(1,vI a1),(2,vI a2),(7,(.slice (some ⟨k0,0,none⟩) a2.toNat a2.toNat)),(8,vI b0)]) (fun ⟨b0,c0,d0⟩=>[rr w 4 Bool (.slice (some ⟨k0,0,none⟩) a2.toNat a2.toNat) c0.length d0]) (fun ⟨b0,c0,d0⟩ I0=>Cells I0 (bl [rr w 4 Bool (.slice (some ⟨k0,0,none⟩) a2.toNat a2.toNat) c0.length d0] ++ L) d0 c0) (fun ⟨b0,c0,d0⟩=>(b0,c0)) (0,J0,(List.replicate a2.toNat [.bool false]).flatten) B1 B0 (Ax (cs:=(List.replicate a2.toNat [.bool false]).flatten) (xs:=J0) B0 L (Cells.mk H0 rfl)) ?_
 rintro b2 ⟨b0,c0,d0⟩ I0 d1 j0 k1 s0 h
 unfold aE_l2 at h
 try dsimp only at h
 refine Aj<|Ac<|Ae rfl<|Ae rfl<|Ab (BR (i:=b0) (j:=a1) rfl rfl)<|Aa<|AS rfl h (fun R0 h=>?_) (fun R0 h=>?_)
 refine Aq<|Aj<|Ay<|Aj<|Ac<|Ae rfl<|Ae rfl<|bk h fun q0 I1 h=>?_
 obtain ⟨y0,J1⟩:=idx_in I1
 obtain ⟨Z1,g2,t0,z0,Y0,D1,A0⟩:=Bl (AO h0_0 j0) J1
 have s1:Y0 = [vI q0]:=D1; subst s1
 refine Ab (Bm 1 (b0.toNat) rfl t0 rfl y0 z0)<|AP rfl (A0 0 _ rfl)<|Ab (BR (i:=q0) (j:=0) rfl rfl)<|Ae rfl<|BE (s:=26) rfl h (fun U0 h=>?_) (fun U0 h=>?_)
 refine Aw<|Aw<|Aw<|Aw<|Aw<|Aw<|Br rfl rfl<|Aa<|Bk rfl<|Ac<|Af rfl<|Aa ?_
 have h:=thn_inl h x0
 refine Al rfl<|AT hb0 Tryz.func59 rfl rfl ?_
 cases h
 exact j0.gv
 refine AJ (Ai rfl)<|AJ (Ai rfl)<|AJ (Bm 1 (b0.toNat) rfl t0 rfl y0 z0)<|AJ (AL rfl (A0 0 _ rfl))<|AJ (Ai rfl)<|AJ (FV.geq (i:=q0) (j:=a2) rfl rfl)<|Bx rfl rfl<|Aa<|AS rfl h (fun V0 h=>?_) (fun V0 h=>?_)
 refine Ac<|Af rfl<|Aa ?_
 have h:=thn_inl h x0
 refine Al rfl<|AT hb0 Tryz.func59 rfl rfl ?_
 cases h
 exact j0.gv
 refine Aq<|Av<|Ae rfl<|Ae rfl<|Ae rfl<|Ab (Bm 1 (b0.toNat) rfl t0 rfl y0 z0)<|AP rfl (A0 0 _ rfl)<|bk h fun W1 K1 h=>?_
 obtain ⟨y1,M1⟩:=idx_in K1
 obtain ⟨K0,j2,u0,F0,Z0,E1,t2⟩:=St.nth (α:=Bool) j0 .hd s0 M1
 obtain ⟨P0,k2,D0⟩:=BU (α:=Bool) j0 .hd F0
 obtain rfl:K0 = ⟨P0,0,none⟩:=by rw [D0] at u0; cases u0; rfl
 have u1:Z0 = [.bool W1]:=E1; subst u1
 refine Ab (Bm 1 (q0.toNat) rfl u0 rfl y1 F0)<|bk h fun Y1 R1 h=>RG.acts' .plain (Acts.set (α:=Bool) (i:=q0.toNat) R1 j0 D0 (fun _=>.hd) s0 rfl rfl rfl rfl rfl (by kernel_rfl)) fun y2 ⟨b1,j1,p1,q1⟩=>Aa<|AA<|Av<|Ae rfl<|bk h fun U1 G1 h=>Ab (BL (i:=b0) (j:=1) rfl rfl G1)<|Af rfl<|Aa<|d1 (U1,Y1,b1) j1 (Tt k1 p1) q1 h
 refine Ba rfl ?_
 have h:=thn_inr h x0
 try dsimp only at h
 refine Aj<|Ac<|Af rfl<|Aa<|Ay<|tn h fun v2 C1 E0=>MX.lo (α:=Int) (fun g0=>[(2,vI a2),(7,(.slice (some ⟨k0,0,none⟩) a2.toNat a2.toNat)),(9,vI g0)]) (fun g0=>[rr w 4 Bool (.slice (some ⟨k0,0,none⟩) a2.toNat a2.toNat) c0.length d0]) (fun g0=>g0) 0 C1 j0 ?_
 rintro d2 g0 z2 g1 p0 C0 h
 unfold aE_l1 at h
 try dsimp only at h
 refine Aj<|Ac<|Ae rfl<|Ae rfl<|Ab (BR (i:=g0) (j:=a2) rfl rfl)<|Aa<|AS rfl h (fun W0 h=>?_) (fun W0 h=>?_)
 refine Aq<|Aj<|Ay<|Ac<|Ae rfl<|Ae rfl<|bk h fun X1 P1 h=>?_
 obtain ⟨z1,Q1⟩:=idx_in P1
 obtain ⟨M0,p2,v0,G0,c1,F1,A1⟩:=St.nth (α:=Bool) p0 .hd (Au s0 C0) Q1
 obtain ⟨Q0,q2,v1⟩:=BU (α:=Bool) p0 .hd G0
 obtain rfl:M0 = ⟨Q0,0,none⟩:=by rw [v1] at v0; cases v0; rfl
 have x1:c1 = [.bool X1]:=F1; subst x1
 refine Ab (Bm 1 (g0.toNat) rfl v0 rfl z1 G0)<|AP rfl (A1 0 _ rfl)<|Ab (Bo rfl)<|Aa<|MX.ifnb rfl h (fun X0 h=>?_) (fun X0 h=>?_)
 refine Aq<|AA<|Av<|Ae rfl<|bk h fun V1 H1 h=>Ab (BL (i:=g0) (j:=1) rfl rfl H1)<|Af rfl<|Aa<|g1 V1 p0 C0 h
 refine Ac<|Af rfl<|Aa ?_
 have h:=thn_inl h E0
 refine Al rfl<|AT hb0 Tryz.func59 rfl rfl ?_
 cases h
 exact p0.gv
 refine Ba rfl ?_
 have h:=thn_inr h E0
 try dsimp only at h
 refine Ac<|Af rfl<|Aa<|Al rfl<|AT hb0 Tryz.func59 rfl rfl ?_
 cases h
 exact p0.gv
 refine Ac<|Af rfl<|Aa<|Al rfl<|AT hb0 Tryz.func59 rfl rfl ?_
 cases h
 exact hS0.gv
def a9_l1 (_n:Nat) (a0:Tc) (c0:Nat -> Option Nat):Nat -> Option Nat
  | b0=>(if b0 < a0.fo.length then (a0.fo[b0]?).bind fun d0=>(if d0.fu = true then some b0 else c0 (b0 + 1)) else some b0)
def a9_p (n:Nat) (a0:Tc):Option Int:=
  jn (fun c0=>some ((c0:Nat):Int)) (fun b0=>Option.bind (loopF (a9_l1 n a0) n 0) (b0))
theorem a9_c (n:Nat) {L w} (_hL:hl L w) (a0:Tc) {v0_3:Value} (h0_3:Rep.R w L [v0_3] a0.fo)  {r:Int} (h:a9_p n a0 = some r) :
 Cl 143 #[.agg #[vI a0.fe,vI a0.fh,vI a0.fj,v0_3]] w (Gives w fun _ u=>u = vI r):=by
 unfold a9_p at h
 refine AF Tryz.func143 rfl rfl rfl fun _ cs0 hb0=>Ac<|RG.bx (AB w) rfl rfl fun d1 k0 q0 Q0=>Af rfl<|Aa<|Ac<|Af rfl<|Aa<|Aj<|Ay<|MX.xo (α:=Nat) 0 (fun d0=>[(3,vI ((d0:Nat):Int))]) (fun d0=>[]) (fun d0=>d0) q0 rfl h ?_ ?_
 rintro d0 j1 z0 R0 h
 try dsimp only at h
 refine Ac<|Ae rfl<|Af rfl<|Aa<|Al rfl<|AT hb0 Tryz.func143 rfl rfl ?_
 cases h
 exact z0.gv
 intro K0 p0 h
 try dsimp only at h
 obtain ⟨Y0,F0,s0⟩:=bind_in2 h
 refine MX.lo (α:=Nat) (fun b0=>[(1,vP k0),(3,vI ((b0:Nat):Int))]) (fun b0=>[.cells k0 [vI a0.fe,vI a0.fh,vI a0.fj,v0_3] 44]) (fun b0=>b0) 0 F0 q0 ?_
 rintro J0 b0 g1 v0 c0 g0 h
 unfold a9_l1 at h
 try dsimp only at h
 refine Aj<|Ac<|Ae rfl<|AV 3 rfl<|AP rfl ((c0.memA .hd) 3 _ rfl) ?_
 have j0:=AO h0_3 c0
 have U0:a0.fo.length <= 281474976710656:=AY j0
 refine Ab (Bc (xs:=a0.fo) Tryz.underlying42 rfl j0)<|Ab (Bu (i:=b0) (j:=a0.fo.length) rfl rfl)<|Ae rfl<|BE (s:=9) rfl h (fun t0 h=>?_) (fun t0 h=>?_)
 refine RG.fg 3 rfl<|AJ (AL rfl ((c0.memA .hd) 3 _ rfl))<|AJ (Ai rfl)<|bk h fun k1 H0 h=>?_
 obtain ⟨I0,M0,C0,D0,P0,G0,E0⟩:=Bl j0 H0
 obtain ⟨Z0,b1,c1,rfl,V0,W0,X0⟩:=op_Tb G0
 refine AJ (Bm 6 b0 rfl C0 rfl rfl D0)<|RG.fg 5 rfl<|AJ (AL rfl (E0 5 _ rfl))<|AJ (Bo rfl)<|Br rfl rfl<|Aa<|MX.ifnb rfl h (fun u0 h=>?_) (fun u0 h=>?_)
 refine Ba rfl ?_
 have h:=s0 _ h
 try dsimp only at h
 obtain ⟨x0,A0⟩:=AI c0 .done
 exact p0 b0 x0 (Tt g0 A0) h
 refine Aq<|Ay<|Av<|Ae rfl<|Ab (Bw (i:=b0) (j:=1) rfl rfl (by omega))<|Af rfl<|Aa<|AA<|v0 (b0 + 1) c0 g0 h
 refine Aw<|Aw<|Aw<|Aw<|Aw<|Aw<|Aw<|Bx rfl rfl<|Aa<|BF rfl<|Ba rfl ?_
 have h:=s0 _ h
 try dsimp only at h
 obtain ⟨y0,B0⟩:=AI c0 .done
 exact p0 b0 y0 (Tt g0 B0) h
def cm_p (n:Nat) (a0:Tc):Option (Int × Int):=
  (aj_p n a0).bind fun b0=>(if b0 = 0 then (a9_p n a0).bind fun c0=>some (c0,(0:Int)) else some ((0:Int),b0))
theorem cm_c (n:Nat) {L w} (hL:hl L w) (a0:Tc) {v0_3:Value} (h0_3:Rep.R w L [v0_3] a0.fo)  {r:Int × Int} (h:cm_p n a0 = some r) :
 Cl 105 #[.agg #[vI a0.fe,vI a0.fh,vI a0.fj,v0_3]] w (Gives w fun _ u=>u = .tuple #[vI r.1,vI r.2]):=by
 unfold cm_p at h
 refine AF Tryz.func105 rfl rfl rfl fun _ cs0 hb0=>Ac<|RG.bx (AB w) rfl rfl fun t0 q0 b0 s0=>Af rfl<|Af rfl<|Aa<|Aj<|Ac<|Ab (AK rfl (b0.memA .hd))<|bk h fun c0 g0 h=>Bi (vI c0) (bd 104) rfl (e1 rfl) (fun w9 hw9=>aj_c n (b0.hL0 hL hw9) a0 (b0.k0 h0_3 hw9) g0) rfl<|Af rfl<|Aa<|Ac<|Ae rfl<|Ab (FV.neq (i:=c0) (j:=0) rfl rfl)<|Aa<|MX.ifn rfl h (fun d0 h=>?_) (fun d0 h=>?_)
 refine Aq<|Ac<|Ab (AK rfl (b0.memA .hd))<|bk h fun p0 j0 h=>Bi (vI p0) (bd 143) rfl (e1 rfl) (fun w9 hw9=>a9_c n (b0.hL0 hL hw9) a0 (b0.k0 h0_3 hw9) j0) rfl<|Af rfl<|Af rfl<|Aa<|Al rfl<|Ap hb0 Tryz.func105 rfl (.cons (.tmp rfl) (.cons (.tmp rfl) .nil)) rfl ?_
 cases h
 exact b0.gv
 refine Ac<|Ae rfl<|Af rfl<|Af rfl<|Aa<|Al rfl<|Ap hb0 Tryz.func105 rfl (.cons (.tmp rfl) (.cons (.tmp rfl) .nil)) rfl ?_
 cases h
 exact b0.gv
def bC_p (n:Nat) (a0:Tc):Option Int:=
  (cm_p n a0).bind fun b0=>some b0.1
theorem bC_c (n:Nat) {L w} (hL:hl L w) (a0:Tc) {v0_3:Value} (h0_3:Rep.R w L [v0_3] a0.fo)  {r:Int} (h:bC_p n a0 = some r) :
 Cl 60 #[.agg #[vI a0.fe,vI a0.fh,vI a0.fj,v0_3]] w (Gives w fun _ u=>u = vI r):=by
 unfold bC_p at h
 refine AF Tryz.func60 rfl rfl rfl fun _ cs0 hb0=>Ac<|RG.bx (AB w) rfl rfl fun p0 g0 b0 j0=>Af rfl<|Aa<|Ac<|Ab (AK rfl (b0.memA .hd))<|bk h fun c0 d0 h=>Bi (.tuple #[vI c0.1,vI c0.2]) (bd 105) rfl (e1 rfl) (fun w9 hw9=>cm_c n (b0.hL0 hL hw9) a0 (b0.k0 h0_3 hw9) d0) rfl<|Ae rfl<|Ab (Ah rfl rfl)<|Ab (Ah rfl rfl)<|Af rfl<|Af rfl<|Aa<|Ac<|Ae rfl<|Af rfl<|Aa<|Al rfl<|AT hb0 Tryz.func60 rfl rfl ?_
 cases h
 exact b0.gv
def ba_p (n:Nat) (a0:Tc) (a1:List Int) (a2:Int):Option Int:=
  (aV_p n a0 a2).bind fun b0=>(if b0 = 0 then (bC_p n a0).bind fun c0=>(aE_p n a1 c0 a2).bind fun d0=>(if d0 = true then some (0:Int) else some (220:Int)) else some b0)
theorem ba_c (n:Nat) {L w} (hL:hl L w) (a0:Tc) {v0_3:Value} (h0_3:Rep.R w L [v0_3] a0.fo) {a1:List Int} {v1_0:Value} (h1_0:Rep.R w L [v1_0] a1) {a2:Int}  {r:Int} (h:ba_p n a0 a1 a2 = some r) :
 Cl 18 #[.agg #[vI a0.fe,vI a0.fh,vI a0.fj,v0_3],v1_0,vI a2] w (Gives w fun _ u=>u = vI r):=by
 unfold ba_p at h
 refine AF Tryz.func18 rfl rfl rfl fun _ cs0 hb0=>Ac<|RG.bx (AB w) rfl rfl fun x0 u0 b0 v0=>Af rfl<|Aa<|Aj<|Ac<|Ab (AK rfl (b0.memA .hd))<|Ae rfl<|bk h fun c0 j0 h=>Bi (vI c0) (bd 55) rfl (e2 rfl rfl) (fun w9 hw9=>aV_c n (b0.hL0 hL hw9) a0 (b0.k0 h0_3 hw9) j0) rfl<|Af rfl<|Aa<|Ac<|Ae rfl<|Ab (FV.neq (i:=c0) (j:=0) rfl rfl)<|Aa<|MX.ifn rfl h (fun d0 h=>?_) (fun d0 h=>?_)
 refine Aq<|Aj<|Ac<|Ae rfl<|Ab (AK rfl (b0.memA .hd))<|bk h fun s0 p0 h=>Bi (vI s0) (bd 60) rfl (e1 rfl) (fun w9 hw9=>bC_c n (b0.hL0 hL hw9) a0 (b0.k0 h0_3 hw9) p0) rfl<|Ae rfl<|bk h fun t0 q0 h=>Bi (.bool t0) (bd 59) rfl (e3 rfl rfl rfl) (fun w9 hw9=>aE_c n (b0.hL0 hL hw9) (b0.k0 h1_0 hw9) q0) rfl<|Ab (Bo rfl)<|Aa<|MX.ifnb rfl h (fun g0 h=>?_) (fun g0 h=>?_)
 refine Aq<|Ac<|Af rfl<|Aa<|Al rfl<|AT hb0 Tryz.func18 rfl rfl ?_
 cases h
 exact b0.gv
 refine Ac<|Af rfl<|Aa<|Al rfl<|AT hb0 Tryz.func18 rfl rfl ?_
 cases h
 exact b0.gv
 refine Ac<|Ae rfl<|Af rfl<|Aa<|Al rfl<|AT hb0 Tryz.func18 rfl rfl ?_
 cases h
 exact b0.gv
def ap_l1 (_n:Nat) (a1:List Int) (a0:Tc) (g0:Nat × (List Int) -> Option (List Int)):Nat × (List Int) -> Option (List Int)
  | (b0,c0)=>(if b0 < a1.length then (a1[b0]?).bind fun d0=>(idx c0 d0).bind fun k0=>(a0.fo[b0]?).bind fun p0=>(chk (k0 + p0.fv)).bind fun j0=>(put c0 ((d0.toNat:Nat):Int) j0).bind fun q0=>g0 (b0 + 1,q0) else some c0)
def ap_p (n:Nat) (a0:Tc) (a1:List Int) (a2:Int):Option ((List Int) × Int):=
  (ba_p n a0 a1 a2).bind fun b0=>(if b0 = 0 then (mk a2 (0:Int)).bind fun d0=>Option.bind (loopF (ap_l1 n a1 a0) n (0,d0)) (fun c0=>some (c0,(0:Int))) else some (([]:List Int),b0))
theorem ap_c (n:Nat) {L w} (hL:hl L w) (a0:Tc) {v0_3:Value} (h0_3:Rep.R w L [v0_3] a0.fo) {a1:List Int} {v1_0:Value} (h1_0:Rep.R w L [v1_0] a1) {a2:Int}  {r:(List Int) × Int} (h:ap_p n a0 a1 a2 = some r) :
 Cl 14 #[.agg #[vI a0.fe,vI a0.fh,vI a0.fj,v0_3],v1_0,vI a2] w (Gives w fun w' u=>∃ v0_0:Value,u = .tuple #[v0_0,vI r.2]/\Rep.R w' L [v0_0] r.1):=by
 unfold ap_p at h
 refine AF Tryz.func14 rfl rfl rfl fun _ cs0 hb0=>Ac<|RG.bx (AB w) rfl rfl fun u2 v0 p0 Y1=>Af rfl<|Af rfl<|Aa<|Aj<|Ac<|Ab (AK rfl (p0.memA .hd))<|Ae rfl<|Ae rfl<|bk h fun M0 I1 h=>Bi (vI M0) (bd 18) rfl (e3 rfl rfl rfl) (fun w9 hw9=>ba_c n (p0.hL0 hL hw9) a0 (p0.k0 h0_3 hw9) (p0.k0 h1_0 hw9) I1) rfl<|Af rfl<|Aa<|Ac<|Ae rfl<|Ab (FV.neq (i:=M0) (j:=0) rfl rfl)<|Aa<|MX.ifn rfl h (fun U0 h=>?_) (fun U0 h=>?_)
 refine Aq<|Ac<|Ae rfl<|bk h fun K0 H0 h=>Ak .plain rfl (Does.mk (α:=Int) H0 p0 el45 rfl) fun v2 s0 B0 b2=>Af rfl<|Aa<|Aj<|Ac<|Af rfl<|Aa<|Ay ?_
 obtain ⟨k2,v1,p1⟩:=bind_in2 h
 refine MX.lf (α:=Nat × (List Int) × (List Value)) (fun ⟨d0,j0,q0⟩=>[(1,v1_0),(3,vP v0),(9,(.slice (some ⟨s0,0,none⟩) a2.toNat a2.toNat)),(10,vI ((d0:Nat):Int))]) (fun ⟨d0,j0,q0⟩=>[rr w 3 Int (.slice (some ⟨s0,0,none⟩) a2.toNat a2.toNat) j0.length q0,.cells v0 [vI a0.fe,vI a0.fh,vI a0.fj,v0_3] 44]) (fun ⟨d0,j0,q0⟩ I0=>Cells I0 (bl [rr w 3 Int (.slice (some ⟨s0,0,none⟩) a2.toNat a2.toNat) j0.length q0,.cells v0 [vI a0.fe,vI a0.fh,vI a0.fj,v0_3] 44] ++ L) q0 j0) (fun ⟨d0,j0,q0⟩=>(d0,j0)) (0,K0,(List.replicate a2.toNat [vI 0]).flatten) v1 B0 (Ax (cs:=(List.replicate a2.toNat [vI 0]).flatten) (xs:=K0) B0 L (Cells.mk H0 rfl)) ?_
 rintro Q1 ⟨d0,j0,q0⟩ I0 Y0 g0 b1 y0 h
 unfold ap_l1 at h
 try dsimp only at h
 refine Aj<|Ac<|Ae rfl<|Ae rfl ?_
 have A0:=AO h1_0 g0
 have c2:a1.length <= 281474976710656:=AY A0
 refine Ab (Bc (xs:=a1) Tryz.underlying46 rfl A0)<|Ab (Bu (i:=d0) (j:=a1.length) rfl rfl)<|Aa<|AS rfl h (fun R0 h=>?_) (fun R0 h=>?_)
 refine Aq<|Aj<|Ay<|du 20 fun b0 c0=>Rv 0 b0 rfl c0 (fun _=>Ai rfl)<|Rv 1 b0 rfl c0 (fun _=>Ai rfl)<|Rv 2 b0 rfl c0 (fun _=>Ai rfl)<|bk h fun u0 D1 h=>?_
 obtain ⟨M1,R1,C0,F0,V0,x1,G0⟩:=Bl A0 D1
 have g1:V0 = [vI u0]:=x1; subst g1
 refine Rv 3 b0 rfl c0 (fun _=>Bm 1 d0 rfl C0 rfl rfl F0)<|Rx 4 1572864 b0 rfl c0 (AL rfl (G0 0 _ rfl))<|Rv 5 b0 rfl c0 (fun _=>Ai rfl)<|Rv 6 b0 rfl c0 (fun _=>Ai rfl)<|Rv 7 b0 rfl c0 (fun _=>Ai rfl)<|Rv 8 b0 rfl c0 (fun _=>Bm 1 d0 rfl C0 rfl rfl F0)<|Rx 9 1838080 b0 rfl c0 (AL rfl (G0 0 _ rfl))<|bk h fun J0 E1 h=>?_
 obtain ⟨E0,F1⟩:=idx_in E1
 obtain ⟨P0,U1,t0,z0,W0,y1,s1⟩:=St.nth (α:=Int) g0 .hd y0 F1
 obtain ⟨Q0,V1,D0⟩:=BU (α:=Int) g0 .hd z0
 obtain rfl:P0 = ⟨Q0,0,none⟩:=by rw [D0] at t0; cases t0; rfl
 have j1:W0 = [vI J0]:=y1; subst j1
 refine Rv 10 b0 rfl c0 (fun _=>Bm 1 (u0.toNat) rfl t0 rfl E0 z0)<|Rx 11 1835008 b0 rfl c0 (AL rfl (s1 0 _ rfl))<|Rv 12 b0 rfl c0 (fun _=>Bd 3 rfl)<|Rx 13 2064384 b0 rfl c0 (AL rfl ((g0.memA .t1) 3 _ rfl))<|Rv 14 b0 rfl c0 (fun _=>Ai rfl)<|bk h fun J1 G1 h=>?_
 obtain ⟨P1,W1,k1,q1,X1,z1,u1⟩:=Bl (AO h0_3 g0) G1
 obtain ⟨q2,s2,t2,rfl,d2,g2,j2⟩:=op_Tb z1
 refine Rv 15 b0 rfl c0 (fun _=>Bm 6 d0 rfl k1 rfl rfl q1)<|Rv 16 b0 rfl c0 (fun _=>Bd 1 rfl)<|Rx 17 1835008 b0 rfl c0 (AL rfl (u1 1 _ rfl))<|bk h fun p2 C1 h=>Rv 18 b0 rfl c0 (fun _=>BL (i:=J0) (j:=J1.fv) rfl rfl C1)<|Rv 19 b0 rfl c0 (fun _=>Bm 1 (u0.toNat) rfl t0 rfl E0 z0)<|bk h fun K1 H1 h=>Be (i:=20) (rk b0) (RO.acts (m' :=2097151) (sk b0) rfl rfl .plain (Acts.set (α:=Int) (i:=u0.toNat) H1 g0 D0 (fun _=>.hd) y0 rfl rfl rfl rfl rfl (by kernel_rfl)) (fun x2 ⟨X0,Z0,c1,d1⟩=>?_))
 refine AM (dk b0)<|AA<|Av<|Ae rfl<|Ab (Bw (i:=d0) (j:=1) rfl rfl (by omega))<|Af rfl<|Aa<|Y0 (d0 + 1,K1,X0) Z0 (Tt b1 c1) d1 h
 refine Ba rfl ?_
 have h:=p1 _ h
 try dsimp only at h
 refine Ac<|Ae rfl<|Af rfl<|Af rfl<|Aa<|Al rfl ?_
 have x0:=By g0 .hd
 have Z1:=Bz g0 .hd
 have A1:=BA (α:=Int) (v:=(.slice (some ⟨s0,0,none⟩) a2.toNat a2.toNat)) (xs:=j0) x0 L (Bj (α:=Int) g0 .hd y0 hL)
 refine Ap hb0 Tryz.func14 rfl (.cons (.tmp rfl) (.cons (.tmp rfl) .nil)) rfl ?_
 cases h
 exact ⟨x0.ag,fun w9 hw9=>⟨(.slice (some ⟨s0,0,none⟩) a2.toNat a2.toNat),rfl,x0.kd A1 hw9⟩⟩
 refine Ac<|Ae rfl<|Af rfl<|Af rfl<|Aa<|Al rfl ?_
 have B1:=Rep.nilAt (α:=Int) p0 L
 refine Ap hb0 Tryz.func14 rfl (.cons (.tmp rfl) (.cons (.tmp rfl) .nil)) rfl ?_
 cases h
 exact ⟨p0.ag,fun w9 hw9=>⟨vN,rfl,p0.kd B1 hw9⟩⟩
def aF_l1 (_n:Nat) (a0:List Int) (c0:Int -> Option Int):Int -> Option Int
  | b0=>(if 0 < b0 then (chk (b0 - 1)).bind fun d0=>(idx a0 d0).bind fun j0=>(if j0 = 0 then (chk (b0 - 1)).bind fun g0=>c0 g0 else some b0) else some b0)
def aF_p (n:Nat) (a0:List Int):Option (List Int):=
  jn (fun d0=>(cut a0 0 d0).bind fun c0=>some c0) (fun b0=>Option.bind (loopF (aF_l1 n a0) n ((a0.length:Nat):Int)) (b0))
theorem aF_c (n:Nat) {L w} (_hL:hl L w) {a0:List Int} {v0_0:Value} (h0_0:Rep.R w L [v0_0] a0)  {r:List Int} (h:aF_p n a0 = some r) :
 Cl 163 #[v0_0] w (Gives w fun w' u=>∃ v0_0:Value,u = v0_0/\Rep.R w' L [v0_0] r):=by
 unfold aF_p at h
 have hS0:=AB w
 refine AF Tryz.func163 rfl rfl rfl fun _ cs0 hb0=>Ac<|Af rfl<|Aa<|Ac<|Ae rfl ?_
 have hl1:a0.length <= 281474976710656:=AY h0_0
 refine Ab (Bc (xs:=a0) Tryz.underlying45 rfl h0_0)<|Af rfl<|Aa<|Aj<|Ay<|MX.xo (α:=Int) 0 (fun c0=>[(0,v0_0),(3,vI c0)]) (fun c0=>[]) (fun c0=>c0) hS0 rfl h ?_ ?_
 rintro c0 Y0 g0 W0 h
 try dsimp only at h
 refine Ac<|Ae rfl<|Ae rfl<|bk h fun b1 J0 h=>RG.valE .plain rfl (FV.cutL (α:=Int) J0 (by kernel_rfl) rfl (AO h0_0 g0) rfl ⟨_,rfl⟩) fun P0 D0=>Af rfl<|Aa<|Al rfl<|AT hb0 Tryz.func163 rfl rfl ?_
 cases h
 exact ⟨g0.ag,fun w9 hw9=>⟨P0,rfl,g0.kd D0 hw9⟩⟩
 intro R0 k0 h
 try dsimp only at h
 obtain ⟨X0,C0,p0⟩:=bind_in2 h
 refine MX.lo (α:=Int) (fun b0=>[(0,v0_0),(3,vI b0)]) (fun b0=>[]) (fun b0=>b0) ((a0.length:Nat):Int) C0 hS0 ?_
 rintro U0 b0 Z0 v0 d0 j0 h
 unfold aF_l1 at h
 try dsimp only at h
 refine Aj<|Ac<|Ae rfl<|Ab (FV.gtr (i:=b0) (j:=0) rfl rfl)<|Ae rfl<|BE (s:=8) rfl h (fun s0 h=>?_) (fun s0 h=>?_)
 refine AJ (Ai rfl)<|AJ (Ai rfl)<|bk h fun K0 F0 h=>AJ (FV.subc (i:=b0) (j:=1) rfl rfl F0)<|bk h fun q0 H0 h=>?_
 obtain ⟨z0,I0⟩:=idx_in H0
 obtain ⟨Q0,V0,x0,A0,u0,E0,B0⟩:=Bl (AO h0_0 d0) I0
 have y0:u0 = [vI q0]:=E0; subst y0
 refine AJ (Bm 1 (K0.toNat) rfl x0 rfl z0 A0)<|AJ (AL rfl (B0 0 _ rfl))<|AJ (FV.eql (i:=q0) (j:=0) rfl rfl)<|Br rfl rfl<|Aa<|AS rfl h (fun t0 h=>?_) (fun t0 h=>?_)
 refine Aq<|Ay<|Av<|Ae rfl<|bk h fun M0 G0 h=>Ab (FV.subc (i:=b0) (j:=1) rfl rfl G0)<|Af rfl<|Aa<|AA<|v0 M0 d0 j0 h
 refine Ba rfl ?_
 have h:=p0 _ h
 try dsimp only at h
 exact k0 b0 d0 j0 h
 refine Aw<|Aw<|Aw<|Aw<|Aw<|Aw<|Bx rfl rfl<|Aa<|BF rfl<|Ba rfl ?_
 have h:=p0 _ h
 try dsimp only at h
 exact k0 b0 d0 j0 h
def ar_l1 (_n:Nat) (a0:List Int) (a1:List Int) (p0:Nat × Nat × (List Int) -> Option (List Int)):Nat × Nat × (List Int) -> Option (List Int)
  | (q0,b0,k0)=>(if b0 < a0.length then (a0[b0]?).bind fun v0=>(chk (v0 - ((q0:Nat):Int))).bind fun j0=>jn (fun c0=>jn (fun (s0,z0)=>(app k0 ([z0]:List Int)).bind fun y0=>p0 (s0,b0 + 1,y0)) (fun g0=>(if c0 < 0 then (chk (c0 + 4294967296)).bind fun t0=>g0 (1,t0) else g0 (0,c0)))) (fun d0=>(if b0 < a1.length then (a1[b0]?).bind fun x0=>(chk (j0 - x0)).bind fun u0=>d0 u0 else d0 j0)) else some k0)
def ar_p (n:Nat) (a0:List Int) (a1:List Int):Option (List Int):=
  Option.bind (loopF (ar_l1 n a0 a1) n (0,0,([]:List Int))) (fun b0=>(aF_p n b0).bind fun c0=>some c0)
theorem ar_c (n:Nat) {L w} (hL:hl L w) {a0:List Int} {v0_0:Value} (h0_0:Rep.R w L [v0_0] a0) {a1:List Int} {v1_0:Value} (h1_0:Rep.R w L [v1_0] a1)  {r:List Int} (h:ar_p n a0 a1 = some r) :
 Cl 162 #[v0_0,v1_0] w (Gives w fun w' u=>∃ v0_0:Value,u = v0_0/\Rep.R w' L [v0_0] r):=by
 unfold ar_p at h
 have hS0:=AB w
 refine AF Tryz.func162 rfl rfl rfl fun _ cs0 hb0=>Ac<|Af rfl<|Aa<|Ac<|Af rfl<|Aa<|Ac<|Af rfl<|Aa<|Aj<|Ac<|Af rfl<|Aa<|Ay ?_
 have B0:=hS0.nilRow 3 (Rep.size Int)
 have k2:=St.nilRowT hS0 3 (Rep.size Int)
 obtain ⟨u2,C1,x1⟩:=bind_in2 h
 refine MX.lf (α:=Nat × Nat × (List Int) × Value × (List Value)) (fun ⟨p0,b0,g0,c0,j0⟩=>[(0,v0_0),(1,v1_0),(5,c0),(6,vI ((p0:Nat):Int)),(7,vI ((b0:Nat):Int))]) (fun ⟨p0,b0,g0,c0,j0⟩=>[rr w 3 Int c0 g0.length j0]) (fun ⟨p0,b0,g0,c0,j0⟩ H0=>Cells H0 (bl [rr w 3 Int c0 g0.length j0] ++ L) j0 g0) (fun ⟨p0,b0,g0,c0,j0⟩=>(p0,b0,g0)) (0,0,([]:List Int),vN,[]) C1 B0 (Ax (cs:=[]) (xs:=([]:List Int)) B0 L (AD _ _)) ?_
 rintro Z1 ⟨p0,b0,g0,c0,j0⟩ H0 V0 k0 Z0 E0 h
 unfold ar_l1 at h
 try dsimp only at h
 refine Aj<|Ac<|Ae rfl<|Ae rfl ?_
 have x0:=AO h0_0 k0
 have s2:a0.length <= 281474976710656:=AY x0
 refine Ab (Bc (xs:=a0) Tryz.underlying45 rfl x0)<|Ab (Bu (i:=b0) (j:=a0.length) rfl rfl)<|Aa<|AS rfl h (fun K0 h=>?_) (fun K0 h=>?_)
 refine Aq<|Aj<|Ay<|Ac<|Ae rfl<|Ae rfl<|bk h fun I0 J1 h=>?_
 obtain ⟨X1,g2,q1,y1,Q0,D1,A1⟩:=Bl x0 J1
 have s1:Q0 = [vI I0]:=D1; subst s1
 refine Ab (Bm 1 b0 rfl q1 rfl rfl y1)<|AP rfl (A1 0 _ rfl)<|Ae rfl<|bk h fun G0 G1 h=>Ab (FV.subc (i:=I0) (j:=((p0:Nat):Int)) rfl rfl G1)<|Af rfl<|Aa<|Aj<|Ac<|Ae rfl<|Ae rfl ?_
 have y0:=AO h1_0 k0
 have t2:a1.length <= 281474976710656:=AY y0
 refine Ab (Bc (xs:=a1) Tryz.underlying45 rfl y0)<|Ab (Bu (i:=b0) (j:=a1.length) rfl rfl)<|Aa<|MX.jo (α:=Int) (fun q0=>[(0,v0_0),(1,v1_0),(5,c0),(6,vI ((p0:Nat):Int)),(7,vI ((b0:Nat):Int)),(8,vI q0)]) (fun q0=>[rr w 3 Int c0 g0.length j0]) (fun q0=>q0) k0 h ?_ ?_
 rintro q0 A2 t0 b1 h
 try dsimp only at h
 refine Ac<|Af rfl<|Aa<|Aj<|Ac<|Ae rfl<|Ab (BR (i:=q0) (j:=0) rfl rfl)<|Aa<|MX.jo (α:=Nat × Int) (fun ⟨s0,d0⟩=>[(0,v0_0),(1,v1_0),(5,c0),(6,vI ((s0:Nat):Int)),(7,vI ((b0:Nat):Int)),(8,vI d0)]) (fun ⟨s0,d0⟩=>[rr w 3 Int c0 g0.length j0]) (fun ⟨s0,d0⟩=>(s0,d0)) t0 h ?_ ?_
 rintro ⟨s0,d0⟩ B2 W0 c1 h
 try dsimp only at h
 refine Av<|Ae rfl<|Ae rfl<|Ak .plain rfl (AE (α:=Int) (xs:=([d0]:List Int)) (vs:=[vI d0]) (ds' :=[vI d0]) rfl W0 el45 rfl (e1 rfl) (by kernel_rfl) rfl) fun x2 d2 u0 g1=>bk h fun W1 M1 h=>?_
 have F0:=Tt b1 (Tt c1 g1)
 refine RG.doesL .plain rfl (AW (α:=Int) (ys:=([d0]:List Int)) M1 u0 (fun _ _=>.t1) el45 rfl rfl (Au E0 F0) (Src.row (α:=Int) u0 .hd (Ax (cs:=[vI d0]) (xs:=(([d0]:List Int):List Int)) u0 L (Am (cs:=[vI d0]) (ds:=[]) rfl (AD _ _))))) fun U1 y2 ⟨R0,X0,j1,p1⟩=>Af rfl<|Aa<|AA<|Av<|Ae rfl<|Ab (Bw (i:=b0) (j:=1) rfl rfl (by omega))<|Af rfl<|Aa ?_
 obtain ⟨Y0,D0⟩:=AI X0 .d1
 exact V0 (s0,b0 + 1,W1,U1,R0) Y0 (Tt Z0 (Tt F0 (Tt j1 D0))) (Au p1 D0) h
 intro c2 A0 h
 try dsimp only at h
 refine AS rfl h (fun M0 h=>?_) (fun M0 h=>?_)
 refine Ac<|Ae rfl<|bk h fun Q1 H1 h=>Ab (BL (i:=q0) (j:=4294967296) rfl rfl H1)<|Af rfl<|Aa<|Av<|Af rfl<|Aa<|A0 (1,Q1) t0 (Bv _ _) h
 refine Aq<|A0 (0,q0) t0 (Bv _ _) h
 intro b2 z0 h
 try dsimp only at h
 refine AS rfl h (fun P0 h=>?_) (fun P0 h=>?_)
 refine Av<|Ae rfl<|Ae rfl<|Ae rfl<|bk h fun J0 K1 h=>?_
 obtain ⟨Y1,j2,u1,z1,U0,E1,B1⟩:=Bl y0 K1
 have v1:U0 = [vI J0]:=E1; subst v1
 refine Ab (Bm 1 b0 rfl u1 rfl rfl z1)<|AP rfl (B1 0 _ rfl)<|bk h fun R1 I1 h=>Ab (FV.subc (i:=G0) (j:=J0) rfl rfl I1)<|Af rfl<|Aa<|z0 R1 k0 (Bv _ _) h
 refine Aq<|z0 G0 k0 (Bv _ _) h
 refine Ba rfl ?_
 have h:=x1 _ h
 try dsimp only at h
 refine Ac<|Ae rfl ?_
 have v0:=By k0 .hd
 have p2:=Bz k0 .hd
 refine bk h fun C2 P1 h=>AZ (fst:=[]) (cap:=[]) .plain (bd 163) rfl (e1 rfl) (fun w9 hw9=>aF_c n (v0.hL hL hw9) (Ar (BA (α:=Int) (v:=c0) (xs:=g0) v0 L (Bj (α:=Int) k0 .hd E0 hL)) hw9) P1) rfl fun z2 V1 k1 ⟨v2,hu_,F1⟩=>?_
 subst hu_
 obtain ⟨C0,q2⟩:=v0.agr k1
 refine Af rfl<|Aa<|Al rfl<|AT hb0 Tryz.func162 rfl rfl ?_
 cases h
 exact ⟨C0.ag,fun w9 hw9=>⟨V1,rfl,C0.kd F1 hw9⟩⟩
def aC_l1 (_n:Nat) (a0:List Int) (a1:List Int) (g0:Int -> Option (Int ⊕ Unit)):Int -> Option (Int ⊕ Unit)
  | b0=>(if 0 <= b0 then (idx a0 b0).bind fun c0=>(idx a1 b0).bind fun d0=>(if c0 = d0 then (chk (b0 - 1)).bind fun j0=>g0 j0 else (chk (c0 - d0)).bind fun k0=>some (.inl k0)) else some (.inr ()))
def aC_p (n:Nat) (a0:List Int) (a1:List Int):Option Int:=
  (if a0.length = a1.length then thn (loopF (aC_l1 n a0 a1) n (((a0.length:Nat):Int) - 1)) (fun _=>some (0:Int)) else some (((a0.length:Nat):Int) - ((a1.length:Nat):Int)))
theorem aC_c (n:Nat) {L w} (_hL:hl L w) {a0:List Int} {v0_0:Value} (h0_0:Rep.R w L [v0_0] a0) {a1:List Int} {v1_0:Value} (h1_0:Rep.R w L [v1_0] a1)  {r:Int} (h:aC_p n a0 a1 = some r) :
 Cl 166 #[v0_0,v1_0] w (Gives w fun _ u=>u = vI r):=by
 unfold aC_p at h
 have hS0:=AB w
 refine AF Tryz.func166 rfl rfl rfl fun _ cs0 hb0=>Ac<|Af rfl<|Aa<|Aj<|Ac<|Ae rfl ?_
 have hl1:a0.length <= 281474976710656:=AY h0_0
 refine Ab (Bc (xs:=a0) Tryz.underlying45 rfl h0_0)<|Ae rfl ?_
 have hl2:a1.length <= 281474976710656:=AY h1_0
 refine Ab (Bc (xs:=a1) Tryz.underlying45 rfl h1_0)<|Ab (FV.neqN (i:=a0.length) (j:=a1.length) rfl rfl)<|Aa<|MX.ifn rfl h (fun c3 h=>?_) (fun c3 h=>?_)
 refine Aq<|Aj<|Ac<|Ae rfl<|Ab (Bc (xs:=a0) Tryz.underlying45 rfl h0_0)<|Ab (FV.subI (i:=((a0.length:Nat):Int)) (j:=1) rfl rfl (by omega))<|Af rfl<|Aa<|Ay<|tn h fun j1 K0 u0=>MX.lo (α:=Int) (fun c0=>[(0,v0_0),(1,v1_0),(5,vI c0)]) (fun c0=>[]) (fun c0=>c0) (((a0.length:Nat):Int) - 1) K0 hS0 ?_
 rintro c1 c0 p1 G0 k0 H0 h
 unfold aC_l1 at h
 try dsimp only at h
 refine Aj<|Ac<|Ae rfl<|Ab (FV.geq (i:=c0) (j:=0) rfl rfl)<|Aa<|AS rfl h (fun C0 h=>?_) (fun C0 h=>?_)
 refine Aq<|Aj<|Ay<|Aj<|du 9 fun g0 j0=>Rv 0 g0 rfl j0 (fun _=>Ai rfl)<|Rv 1 g0 rfl j0 (fun _=>Ai rfl)<|bk h fun p0 U0 h=>?_
 obtain ⟨v0,V0⟩:=idx_in U0
 obtain ⟨Z0,d1,s0,y0,E0,M0,A0⟩:=Bl (AO h0_0 k0) V0
 have I0:E0 = [vI p0]:=M0; subst I0
 refine Rv 2 g0 rfl j0 (fun _=>Bm 1 (c0.toNat) rfl s0 rfl v0 y0)<|Rx 3 256 g0 rfl j0 (AL rfl (A0 0 _ rfl))<|Rv 4 g0 rfl j0 (fun _=>Ai rfl)<|Rv 5 g0 rfl j0 (fun _=>Ai rfl)<|bk h fun q0 W0 h=>?_
 obtain ⟨x0,X0⟩:=idx_in W0
 obtain ⟨b1,g1,t0,z0,F0,P0,B0⟩:=Bl (AO h1_0 k0) X0
 have J0:F0 = [vI q0]:=P0; subst J0
 refine Rv 6 g0 rfl j0 (fun _=>Bm 1 (c0.toNat) rfl t0 rfl x0 z0)<|Rx 7 256 g0 rfl j0 (AL rfl (B0 0 _ rfl))<|Rv 8 g0 rfl j0 (fun _=>FV.neq (i:=p0) (j:=q0) rfl rfl)<|AM (dk g0)<|MX.ifn rfl h (fun D0 h=>?_) (fun D0 h=>?_)
 refine Aq<|AA<|Av<|Ae rfl<|bk h fun Y0 Q0 h=>Ab (FV.subc (i:=c0) (j:=1) rfl rfl Q0)<|Af rfl<|Aa<|G0 Y0 k0 H0 h
 refine Aj<|du 10 fun b0 d0=>Rv 0 b0 rfl d0 (fun _=>Ai rfl)<|Rv 1 b0 rfl d0 (fun _=>Ai rfl)<|Rv 2 b0 rfl d0 (fun _=>Bm 1 (c0.toNat) rfl s0 rfl v0 y0)<|Rx 3 768 b0 rfl d0 (AL rfl (A0 0 _ rfl))<|Rv 4 b0 rfl d0 (fun _=>Ai rfl)<|Rv 5 b0 rfl d0 (fun _=>Ai rfl)<|Rv 6 b0 rfl d0 (fun _=>Bm 1 (c0.toNat) rfl t0 rfl x0 z0)<|Rx 7 768 b0 rfl d0 (AL rfl (B0 0 _ rfl))<|bk h fun k1 R0 h=>Rv 8 b0 rfl d0 (fun _=>FV.subc (i:=p0) (j:=q0) rfl rfl R0)<|Rv 9 b0 rfl d0 (fun _=>AU rfl)<|AM (dk b0) ?_
 have h:=thn_inl h u0
 refine Al rfl<|AT hb0 Tryz.func166 rfl rfl ?_
 cases h
 exact k0.gv
 refine Ba rfl ?_
 have h:=thn_inr h u0
 try dsimp only at h
 refine Ac<|Af rfl<|Aa<|Al rfl<|AT hb0 Tryz.func166 rfl rfl ?_
 cases h
 exact k0.gv
 refine Ac<|Ae rfl<|Ab (Bc (xs:=a0) Tryz.underlying45 rfl h0_0)<|Ae rfl<|Ab (Bc (xs:=a1) Tryz.underlying45 rfl h1_0)<|Ab (FV.subI (i:=((a0.length:Nat):Int)) (j:=((a1.length:Nat):Int)) rfl rfl (by omega))<|Af rfl<|Aa<|Al rfl<|AT hb0 Tryz.func166 rfl rfl ?_
 cases h
 exact hS0.gv
structure Td where
  fc:Bool
  fD:List Int
  deriving DecidableEq
instance:Rep Td:=Rep.via (β:=Bool × (List Int)) fun x=>(x.fc,x.fD)
def aw_l1 (_n:Nat) (x0:List Int) (y0:Nat × UInt64 × UInt64 × UInt64 × UInt64 × UInt64 × UInt64 × UInt64 × UInt64 -> Option (UInt64 × UInt64 × UInt64 × UInt64 × UInt64 × UInt64 × UInt64 × UInt64)):Nat × UInt64 × UInt64 × UInt64 × UInt64 × UInt64 × UInt64 × UInt64 × UInt64 -> Option (UInt64 × UInt64 × UInt64 × UInt64 × UInt64 × UInt64 × UInt64 × UInt64)
  | (b0,j0,k0,p0,q0,s0,t0,u0,v0)=>(if b0 < x0.length then (([j0,k0,p0,q0,s0,t0,u0,v0]:List UInt64)[b0 / 2]?).bind fun g0=>(x0[b0]?).bind fun d0=>(chk (32 * ((b0 % 2:Nat):Int))).bind fun z0=>(natOf z0).bind fun c0=>y0 (b0 + 1,setA (b0 / 2) 0 (g0 + (shlU (u64of d0) c0)) j0,setA (b0 / 2) 1 (g0 + (shlU (u64of d0) c0)) k0,setA (b0 / 2) 2 (g0 + (shlU (u64of d0) c0)) p0,setA (b0 / 2) 3 (g0 + (shlU (u64of d0) c0)) q0,setA (b0 / 2) 4 (g0 + (shlU (u64of d0) c0)) s0,setA (b0 / 2) 5 (g0 + (shlU (u64of d0) c0)) t0,setA (b0 / 2) 6 (g0 + (shlU (u64of d0) c0)) u0,setA (b0 / 2) 7 (g0 + (shlU (u64of d0) c0)) v0) else some (j0,k0,p0,q0,s0,t0,u0,v0))
def aw_l2 (_n:Nat) (x0:List Int) (y0:Nat × UInt64 × UInt64 × UInt64 × UInt64 × UInt64 × UInt64 × UInt64 × UInt64 -> Option (UInt64 × UInt64 × UInt64 × UInt64 × UInt64 × UInt64 × UInt64 × UInt64)):Nat × UInt64 × UInt64 × UInt64 × UInt64 × UInt64 × UInt64 × UInt64 × UInt64 -> Option (UInt64 × UInt64 × UInt64 × UInt64 × UInt64 × UInt64 × UInt64 × UInt64)
  | (b0,j0,k0,p0,q0,s0,t0,u0,v0)=>(if b0 < x0.length then (([j0,k0,p0,q0,s0,t0,u0,v0]:List UInt64)[b0 / 2]?).bind fun g0=>(x0[b0]?).bind fun d0=>(chk (32 * ((b0 % 2:Nat):Int))).bind fun z0=>(natOf z0).bind fun c0=>y0 (b0 + 1,setA (b0 / 2) 0 (g0 + (shlU (u64of d0) c0)) j0,setA (b0 / 2) 1 (g0 + (shlU (u64of d0) c0)) k0,setA (b0 / 2) 2 (g0 + (shlU (u64of d0) c0)) p0,setA (b0 / 2) 3 (g0 + (shlU (u64of d0) c0)) q0,setA (b0 / 2) 4 (g0 + (shlU (u64of d0) c0)) s0,setA (b0 / 2) 5 (g0 + (shlU (u64of d0) c0)) t0,setA (b0 / 2) 6 (g0 + (shlU (u64of d0) c0)) u0,setA (b0 / 2) 7 (g0 + (shlU (u64of d0) c0)) v0) else some (j0,k0,p0,q0,s0,t0,u0,v0))
def aw_p (n:Nat) (a0:Td):Option ((UInt64 × UInt64 × UInt64 × UInt64 × UInt64 × UInt64 × UInt64 × UInt64) × Int):=
  (mk 16 (0:Int)).bind fun c0=>(c0[15]?).bind fun _x28=>(put c0 ((15:Nat):Int) (2147483648:Int)).bind fun I0=>(aC_p n a0.fD I0).bind fun j0=>(if 0 < j0 then some (((0:UInt64),(0:UInt64),(0:UInt64),(0:UInt64),(0:UInt64),(0:UInt64),(0:UInt64),(0:UInt64)),(6:Int)) else (if j0 = 0 then (if a0.fc = true then (mk 17 (0:Int)).bind fun g0=>(g0[16]?).bind fun _x61=>(put g0 ((16:Nat):Int) (1:Int)).bind fun J0=>(ar_p n J0 a0.fD).bind fun M0=>Option.bind (loopF (aw_l1 n M0) n (0,(0:UInt64),(0:UInt64),(0:UInt64),(0:UInt64),(0:UInt64),(0:UInt64),(0:UInt64),(0:UInt64))) (fun (k0,p0,q0,s0,t0,u0,v0,x0)=>some ((k0,p0,q0,s0,t0,u0,v0,x0),(0:Int))) else some (((0:UInt64),(0:UInt64),(0:UInt64),(0:UInt64),(0:UInt64),(0:UInt64),(0:UInt64),(0:UInt64)),(6:Int))) else jn (fun G0=>Option.bind (loopF (aw_l2 n G0) n (0,(0:UInt64),(0:UInt64),(0:UInt64),(0:UInt64),(0:UInt64),(0:UInt64),(0:UInt64),(0:UInt64))) (fun (y0,z0,A0,B0,C0,D0,E0,F0)=>some ((y0,z0,A0,B0,C0,D0,E0,F0),(0:Int)))) (fun b0=>(if a0.fc = true then (mk 17 (0:Int)).bind fun d0=>(d0[16]?).bind fun _x369=>(put d0 ((16:Nat):Int) (1:Int)).bind fun H0=>(ar_p n H0 a0.fD).bind fun K0=>b0 K0 else b0 a0.fD))))
theorem aw_c (n:Nat) {L w} (hL:hl L w) (a0:Td) {v0_1:Value} (h0_1:Rep.R w L [v0_1] a0.fD)  {r:(UInt64 × UInt64 × UInt64 × UInt64 × UInt64 × UInt64 × UInt64 × UInt64) × Int} (h:aw_p n a0 = some r) :
 Cl 132 #[.agg #[.bool a0.fc,v0_1]] w (Gives w fun _ u=>u = .tuple #[.agg ((cs_A34 r.1)).toArray,vI r.2]):=by
 unfold aw_p at h
 refine AF Tryz.func132 rfl rfl rfl fun _ cs0 hb0=>Ac<|RG.bx (AB w) rfl rfl fun c6 X4 G2 x5=>RG.nl zP G2 fun d6 V0 I2 y5=>Af rfl<|Aa<|Ac<|bk h fun G6 q4 h=>RG.doesH .plain rfl (Does.mkH (α:=Int) (L:=L) q4 I2 el45 rfl (fun _ _=>rfl)) fun Y5 p6 ⟨p5,k1,B5,Q1⟩=>Af rfl<|Aa<|Ac<|Ae rfl<|bk h fun H4 g4 h=>?_
 obtain ⟨d2,Z4,v1,Y1,A2,U3,Q5⟩:=St.nth (α:=Int) k1 .hd Q1 g4
 obtain ⟨k2,c5,W1⟩:=BU (α:=Int) k1 .hd Y1
 obtain rfl:d2 = ⟨k2,0,none⟩:=by rw [W1] at v1; cases v1; rfl
 have B3:A2 = [vI H4]:=U3; subst B3
 refine Ab (Bm 1 15 rfl v1 rfl rfl Y1)<|bk h fun I6 u4 h=>RG.acts' .plain (Acts.set (α:=Int) (i:=15) u4 k1 W1 (fun _=>.hd) Q1 rfl rfl rfl rfl rfl (by kernel_rfl)) fun y6 ⟨t5,y0,E5,t3⟩=>Aa<|Ac<|AV 1 rfl<|AP rfl ((y0.memA .t2) 1 _ rfl)<|Ae rfl<|bk h fun B1 z4 h=>Bi (vI B1) (bd 166) rfl (e2 rfl rfl) (fun w9 hw9=>aC_c n (y0.hL0 hL hw9) (y0.k0 h0_1 hw9) (Ar (St.lend (α:=Int) (L:=L) y0 .hd t3 hL) hw9) z4) rfl<|Af rfl<|Aa<|Aj<|Ac<|Ae rfl<|Ab (FV.gtr (i:=B1) (j:=0) rfl rfl)<|Ae rfl<|BE (s:=19) rfl h (fun x2 h=>?_) (fun x2 h=>?_)
 refine Aw<|Aw<|Aw<|RG.un<|RG.un<|RG.un<|Aw<|Br rfl rfl<|Aa<|Bk rfl<|Ac<|Ab (AX (vs:=[]) (u:=.agg zQ) evs_nil (fun w9=>by kernel_rfl))<|AQ zP y0 .t1 (onesB rfl) fun z6 J1 F5=>Af rfl<|Aa<|Al rfl<|Ap hb0 Tryz.func132 rfl (.cons (.many (cs:=zP) (by kernel_rfl) rfl (J1.memA .t1)) (.cons (.tmp rfl) .nil)) rfl ?_
 cases h
 exact J1.gv
 refine AJ (Ai rfl)<|AJ (FV.eql (i:=B1) (j:=0) rfl rfl)<|AJ (Ai rfl)<|BE (s:=22) rfl h (fun y2 h=>?_) (fun y2 h=>?_)
 refine RG.fg 0 rfl<|AJ (AL rfl ((y0.memA .t2) 0 _ rfl))<|AJ (Bo rfl)<|AJ (BC rfl rfl)<|Bx rfl rfl<|Aa<|MX.ifnb rfl h (fun D1 h=>?_) (fun D1 h=>?_)
 refine Aq<|Ac<|AV 1 rfl<|AP rfl ((y0.memA .t2) 1 _ rfl)<|Af rfl<|Aa<|Aj<|Ac<|AV 0 rfl<|AP rfl ((y0.memA .t2) 0 _ rfl)<|Aa<|MX.cond_kt rfl D1<|Ac<|bk h fun J6 v4 h=>RG.doesH .plain rfl (Does.mkH (α:=Int) (L:=L) v4 y0 el45 rfl (fun _ _=>rfl)) fun E4 A6 ⟨u5,s1,G5,U1⟩=>Af rfl<|Aa<|Ac<|Ae rfl<|bk h fun J4 p4 h=>?_
 obtain ⟨j2,j5,y1,b2,D2,Y3,V5⟩:=St.nth (α:=Int) s1 .hd U1 p4
 obtain ⟨q2,k5,X1⟩:=BU (α:=Int) s1 .hd b2
 obtain rfl:j2 = ⟨q2,0,none⟩:=by rw [X1] at y1; cases y1; rfl
 have C3:D2 = [vI J4]:=Y3; subst C3
 refine Ab (Bm 1 16 rfl y1 rfl rfl b2)<|bk h fun M4 x4 h=>RG.acts' .plain (Acts.set (α:=Int) (i:=16) x4 s1 X1 (fun _=>.hd) U1 rfl rfl rfl rfl rfl (by kernel_rfl)) fun B6 ⟨v5,u1,H5,u3⟩=>Aa<|Av<|Ae rfl<|Ae rfl ?_
 have j1:=By u1 .hd
 have I5:=Bz u1 .hd
 refine bk h fun C1 A4 h=>AZ (fst:=[]) (cap:=[]) .plain (bd 162) rfl (e2 rfl rfl) (fun w9 hw9=>ar_c n (j1.hL hL hw9) (Ar (BA (α:=Int) (v:=E4) (xs:=M4) j1 L (Bj (α:=Int) u1 .hd u3 hL)) hw9) (j1.km h0_1 hw9) A4) rfl fun C6 G4 q3 ⟨b6,hu_,Z3⟩=>?_
 subst hu_
 obtain ⟨U2,J5⟩:=j1.agr q3
 refine Af rfl<|Aa<|Ac<|RG.nl zP U2 fun D6 d1 V2 k3=>Aa<|Aj<|Ac<|Af rfl<|Aa<|Ay ?_
 obtain ⟨H2,W2⟩:=AI V2 (.a0 (.a1 .done))
 obtain ⟨W5,M3,D3⟩:=bind_in2 h
 refine MX.lo (α:=Nat × UInt64 × UInt64 × UInt64 × UInt64 × UInt64 × UInt64 × UInt64 × UInt64) (fun ⟨b0,z0,A0,B0,C0,D0,E0,F0,G0⟩=>[(2,vP V0),(6,G4),(8,vP d1),(9,vI ((b0:Nat):Int))]) (fun ⟨b0,z0,A0,B0,C0,D0,E0,F0,G0⟩=>[.cells d1 [vU z0,vU A0,vU B0,vU C0,vU D0,vU E0,vU F0,vU G0] 35,.cells V0 zP 35]) (fun ⟨b0,z0,A0,B0,C0,D0,E0,F0,G0⟩=>(b0,z0,A0,B0,C0,D0,E0,F0,G0)) (0,(0:UInt64),(0:UInt64),(0:UInt64),(0:UInt64),(0:UInt64),(0:UInt64),(0:UInt64),(0:UInt64)) M3 H2 ?_
 rintro U4 ⟨b0,z0,A0,B0,C0,D0,E0,F0,G0⟩ E6 E2 X0 K1 h
 unfold aw_l1 at h
 try dsimp only at h
 refine Aj<|Ac<|Ae rfl<|Ae rfl ?_
 have z1:=Ao Z3 (Tt k3 (Tt W2 K1))
 have K5:C1.length <= 281474976710656:=AY z1
 refine Ab (Bc (xs:=C1) Tryz.underlying45 rfl z1)<|Ab (Bu (i:=b0) (j:=C1.length) rfl rfl)<|Aa<|AS rfl h (fun s2 h=>?_) (fun s2 h=>?_)
 refine Aq<|Aj<|Ay<|du 17 fun j0 v0=>Rv 0 j0 rfl v0 (fun _=>Ai rfl)<|Rv 1 j0 rfl v0 (fun _=>FV.quoN (i:=b0) (j:=2) rfl rfl rfl (by omega))<|Rv 2 j0 rfl v0 (fun _=>Ai rfl)<|Rv 3 j0 rfl v0 (fun _=>FV.quoN (i:=b0) (j:=2) rfl rfl rfl (by omega))<|bk h fun t0 Z0 h=>Rv 4 j0 rfl v0 (fun _=>Bg (m:=1) (k:=b0 / 2) (len:=8) (by kernel_rfl) rfl rfl rfl (arr_lt Z0 rfl))<|Rx 5 229376 j0 rfl v0 (AL rfl ((mem_elem1 (p:=⟨d1,0,none⟩) (cs:=([z0,A0,B0,C0,D0,E0,F0,G0]:List UInt64).map (fun z9:UInt64=>(vU z9:Value)) ++ []) (i:=b0 / 2) (X0.memA .hd) (arr_get (fun z9:UInt64=>(vU z9:Value)) Z0)) 0 _ rfl))<|Rv 6 j0 rfl v0 (fun _=>Ai rfl)<|Rv 7 j0 rfl v0 (fun _=>Ai rfl)<|bk h fun d0 d4 h=>?_
 obtain ⟨Q4,Y4,v3,F3,z2,Q3,J3⟩:=Bl z1 d4
 have x3:z2 = [vI d0]:=Q3; subst x3
 refine Rv 8 j0 rfl v0 (fun _=>Bm 1 b0 rfl v3 rfl rfl F3)<|Rx 9 246784 j0 rfl v0 (AL rfl (J3 0 _ rfl))<|Rv 10 j0 rfl v0 (fun _=>FV.convU (i:=d0) Tryz.underlying3 Tryz.underlying33 rfl)<|Rv 11 j0 rfl v0 (fun _=>Ai rfl)<|Rv 12 j0 rfl v0 (fun _=>FV.remN (i:=b0) (j:=2) rfl rfl rfl)<|bk h fun B4 b4 h=>Rv 13 j0 rfl v0 (fun _=>FV.mulc (i:=32) (j:=((b0 % 2:Nat):Int)) rfl rfl b4)<|bk h fun q0 G3 h=>Rv 14 j0 rfl v0 (fun _=>FV.shlI (a:=u64of d0) (i:=B4) rfl rfl G3)<|Rv 15 j0 rfl v0 (fun _=>FV.addU (a:=t0) (b:=shlU (u64of d0) q0) rfl rfl) ?_
 have P5:=mem_elem1 (p:=⟨d1,0,none⟩) (cs:=([z0,A0,B0,C0,D0,E0,F0,G0]:List UInt64).map (fun z9:UInt64=>(vU z9:Value)) ++ []) (i:=b0 / 2) (X0.memA .hd) (arr_get (fun z9:UInt64=>(vU z9:Value)) Z0)
 refine Rv 16 j0 rfl v0 (fun _=>Bg (m:=1) (k:=b0 / 2) (len:=8) (by kernel_rfl) rfl rfl rfl (arr_lt Z0 rfl))<|BJ 17 262143 j0 rfl rfl .plain (Acts.storeArr (fun z9:UInt64=>(vU z9:Value)) (xs:=([z0,A0,B0,C0,D0,E0,F0,G0]:List UInt64)) (pre:=[]) (post:=[]) (i:=b0 / 2) (m:=8) (x:=t0 + (shlU (u64of d0) q0)) (old:=[vU z0,vU A0,vU B0,vU C0,vU D0,vU E0,vU F0,vU G0]) (new' :=[vW ((setA (b0 / 2) 0 (t0 + (shlU (u64of d0) q0)) z0).toNat:Int),vW ((setA (b0 / 2) 1 (t0 + (shlU (u64of d0) q0)) A0).toNat:Int),vW ((setA (b0 / 2) 2 (t0 + (shlU (u64of d0) q0)) B0).toNat:Int),vW ((setA (b0 / 2) 3 (t0 + (shlU (u64of d0) q0)) C0).toNat:Int),vW ((setA (b0 / 2) 4 (t0 + (shlU (u64of d0) q0)) D0).toNat:Int),vW ((setA (b0 / 2) 5 (t0 + (shlU (u64of d0) q0)) E0).toNat:Int),vW ((setA (b0 / 2) 6 (t0 + (shlU (u64of d0) q0)) F0).toNat:Int),vW ((setA (b0 / 2) 7 (t0 + (shlU (u64of d0) q0)) G0).toNat:Int)]) rfl rfl (arr_lt Z0 rfl) X0 .hd rfl (addr_at _ _ _) rfl (by kernel_rfl) (fun _=>⟨rfl,rfl⟩) rfl rfl) fun g6 J2 X2=>AM (dk j0)<|AA<|Av<|Ae rfl<|Ab (Bw (i:=b0) (j:=1) rfl rfl (by omega))<|Af rfl<|Aa<|E2 (b0 + 1,setA (b0 / 2) 0 (t0 + (shlU (u64of d0) q0)) z0,setA (b0 / 2) 1 (t0 + (shlU (u64of d0) q0)) A0,setA (b0 / 2) 2 (t0 + (shlU (u64of d0) q0)) B0,setA (b0 / 2) 3 (t0 + (shlU (u64of d0) q0)) C0,setA (b0 / 2) 4 (t0 + (shlU (u64of d0) q0)) D0,setA (b0 / 2) 5 (t0 + (shlU (u64of d0) q0)) E0,setA (b0 / 2) 6 (t0 + (shlU (u64of d0) q0)) F0,setA (b0 / 2) 7 (t0 + (shlU (u64of d0) q0)) G0) J2 (Tt K1 X2) h
 refine Ba rfl ?_
 have h:=D3 _ h
 try dsimp only at h
 refine Ac<|Ab (AK rfl (X0.memA .hd))<|AQ [vU z0,vU A0,vU B0,vU C0,vU D0,vU E0,vU F0,vU G0] X0 .t1 (onesB rfl) fun j6 F1 z5=>Af rfl<|Aa<|Al rfl<|Ap hb0 Tryz.func132 rfl (.cons (.many (cs:=[vU z0,vU A0,vU B0,vU C0,vU D0,vU E0,vU F0,vU G0]) (by kernel_rfl) rfl (F1.memA .t1)) (.cons (.tmp rfl) .nil)) rfl ?_
 cases h
 exact F1.gv
 refine Ac<|Ab (AX (vs:=[]) (u:=.agg zQ) evs_nil (fun w9=>by kernel_rfl))<|AQ zP y0 .t1 (onesB rfl) fun k6 G1 A5=>Af rfl<|Aa<|Al rfl<|Ap hb0 Tryz.func132 rfl (.cons (.many (cs:=zP) (by kernel_rfl) rfl (G1.memA .t1)) (.cons (.tmp rfl) .nil)) rfl ?_
 cases h
 exact G1.gv
 refine Aw<|Aw<|Aw<|AJ (Bh rfl rfl)<|Bx rfl rfl<|Aa<|BF rfl<|Aq<|Ac<|AV 1 rfl<|AP rfl ((y0.memA .t2) 1 _ rfl)<|Af rfl<|Aa<|Aj<|Ac<|AV 0 rfl<|AP rfl ((y0.memA .t2) 0 _ rfl)<|Aa<|MX.jf (α:=(List Int) × Value) (fun ⟨U0,W0⟩=>[(2,vP V0),(6,W0)]) (fun ⟨U0,W0⟩=>[.cells V0 zP 35]) (fun ⟨U0,W0⟩ c2=>Rep.R c2 (bl [.cells V0 zP 35] ++ L) [W0] U0) (fun ⟨U0,W0⟩=>U0) y0 h ?_ ?_
 rintro ⟨U0,W0⟩ c2 K2 C5 R3 h
 try dsimp only at h
 refine Ac<|RG.nl zP K2 fun q6 c1 M2 Y2=>Aa<|Aj<|Ac<|Af rfl<|Aa<|Ay ?_
 obtain ⟨X5,P3,E3⟩:=bind_in2 h
 refine MX.lo (α:=Nat × UInt64 × UInt64 × UInt64 × UInt64 × UInt64 × UInt64 × UInt64 × UInt64) (fun ⟨c0,H0,I0,J0,K0,M0,P0,Q0,R0⟩=>[(2,vP V0),(6,W0),(8,vP c1),(9,vI ((c0:Nat):Int))]) (fun ⟨c0,H0,I0,J0,K0,M0,P0,Q0,R0⟩=>[.cells c1 [vU H0,vU I0,vU J0,vU K0,vU M0,vU P0,vU Q0,vU R0] 35,.cells V0 zP 35]) (fun ⟨c0,H0,I0,J0,K0,M0,P0,Q0,R0⟩=>(c0,H0,I0,J0,K0,M0,P0,Q0,R0)) (0,(0:UInt64),(0:UInt64),(0:UInt64),(0:UInt64),(0:UInt64),(0:UInt64),(0:UInt64),(0:UInt64)) P3 M2 ?_
 rintro W4 ⟨c0,H0,I0,J0,K0,M0,P0,Q0,R0⟩ F6 F2 Y0 M1 h
 unfold aw_l2 at h
 try dsimp only at h
 refine Aj<|Ac<|Ae rfl<|Ae rfl ?_
 have A1:=Ao R3 (Tt Y2 M1)
 have M5:U0.length <= 281474976710656:=AY A1
 refine Ab (Bc (xs:=U0) Tryz.underlying45 rfl A1)<|Ab (Bu (i:=c0) (j:=U0.length) rfl rfl)<|Aa<|AS rfl h (fun u2 h=>?_) (fun u2 h=>?_)
 refine Aq<|Aj<|Ay<|du 17 fun p0 x0=>Rv 0 p0 rfl x0 (fun _=>Ai rfl)<|Rv 1 p0 rfl x0 (fun _=>FV.quoN (i:=c0) (j:=2) rfl rfl rfl (by omega))<|Rv 2 p0 rfl x0 (fun _=>Ai rfl)<|Rv 3 p0 rfl x0 (fun _=>FV.quoN (i:=c0) (j:=2) rfl rfl rfl (by omega))<|bk h fun u0 b1 h=>Rv 4 p0 rfl x0 (fun _=>Bg (m:=1) (k:=c0 / 2) (len:=8) (by kernel_rfl) rfl rfl rfl (arr_lt b1 rfl))<|Rx 5 229376 p0 rfl x0 (AL rfl ((mem_elem1 (p:=⟨c1,0,none⟩) (cs:=([H0,I0,J0,K0,M0,P0,Q0,R0]:List UInt64).map (fun z9:UInt64=>(vU z9:Value)) ++ []) (i:=c0 / 2) (Y0.memA .hd) (arr_get (fun z9:UInt64=>(vU z9:Value)) b1)) 0 _ rfl))<|Rv 6 p0 rfl x0 (fun _=>Ai rfl)<|Rv 7 p0 rfl x0 (fun _=>Ai rfl)<|bk h fun g0 j4 h=>?_
 obtain ⟨R4,b5,y3,H3,B2,V3,K3⟩:=Bl A1 j4
 have z3:B2 = [vI g0]:=V3; subst z3
 refine Rv 8 p0 rfl x0 (fun _=>Bm 1 c0 rfl y3 rfl rfl H3)<|Rx 9 246784 p0 rfl x0 (AL rfl (K3 0 _ rfl))<|Rv 10 p0 rfl x0 (fun _=>FV.convU (i:=g0) Tryz.underlying3 Tryz.underlying33 rfl)<|Rv 11 p0 rfl x0 (fun _=>Ai rfl)<|Rv 12 p0 rfl x0 (fun _=>FV.remN (i:=c0) (j:=2) rfl rfl rfl)<|bk h fun C4 c4 h=>Rv 13 p0 rfl x0 (fun _=>FV.mulc (i:=32) (j:=((c0 % 2:Nat):Int)) rfl rfl c4)<|bk h fun s0 I3 h=>Rv 14 p0 rfl x0 (fun _=>FV.shlI (a:=u64of g0) (i:=C4) rfl rfl I3)<|Rv 15 p0 rfl x0 (fun _=>FV.addU (a:=u0) (b:=shlU (u64of g0) s0) rfl rfl) ?_
 have R5:=mem_elem1 (p:=⟨c1,0,none⟩) (cs:=([H0,I0,J0,K0,M0,P0,Q0,R0]:List UInt64).map (fun z9:UInt64=>(vU z9:Value)) ++ []) (i:=c0 / 2) (Y0.memA .hd) (arr_get (fun z9:UInt64=>(vU z9:Value)) b1)
 refine Rv 16 p0 rfl x0 (fun _=>Bg (m:=1) (k:=c0 / 2) (len:=8) (by kernel_rfl) rfl rfl rfl (arr_lt b1 rfl))<|BJ 17 262143 p0 rfl rfl .plain (Acts.storeArr (fun z9:UInt64=>(vU z9:Value)) (xs:=([H0,I0,J0,K0,M0,P0,Q0,R0]:List UInt64)) (pre:=[]) (post:=[]) (i:=c0 / 2) (m:=8) (x:=u0 + (shlU (u64of g0) s0)) (old:=[vU H0,vU I0,vU J0,vU K0,vU M0,vU P0,vU Q0,vU R0]) (new' :=[vW ((setA (c0 / 2) 0 (u0 + (shlU (u64of g0) s0)) H0).toNat:Int),vW ((setA (c0 / 2) 1 (u0 + (shlU (u64of g0) s0)) I0).toNat:Int),vW ((setA (c0 / 2) 2 (u0 + (shlU (u64of g0) s0)) J0).toNat:Int),vW ((setA (c0 / 2) 3 (u0 + (shlU (u64of g0) s0)) K0).toNat:Int),vW ((setA (c0 / 2) 4 (u0 + (shlU (u64of g0) s0)) M0).toNat:Int),vW ((setA (c0 / 2) 5 (u0 + (shlU (u64of g0) s0)) P0).toNat:Int),vW ((setA (c0 / 2) 6 (u0 + (shlU (u64of g0) s0)) Q0).toNat:Int),vW ((setA (c0 / 2) 7 (u0 + (shlU (u64of g0) s0)) R0).toNat:Int)]) rfl rfl (arr_lt b1 rfl) Y0 .hd rfl (addr_at _ _ _) rfl (by kernel_rfl) (fun _=>⟨rfl,rfl⟩) rfl rfl) fun s6 P2 Z2=>AM (dk p0)<|AA<|Av<|Ae rfl<|Ab (Bw (i:=c0) (j:=1) rfl rfl (by omega))<|Af rfl<|Aa<|F2 (c0 + 1,setA (c0 / 2) 0 (u0 + (shlU (u64of g0) s0)) H0,setA (c0 / 2) 1 (u0 + (shlU (u64of g0) s0)) I0,setA (c0 / 2) 2 (u0 + (shlU (u64of g0) s0)) J0,setA (c0 / 2) 3 (u0 + (shlU (u64of g0) s0)) K0,setA (c0 / 2) 4 (u0 + (shlU (u64of g0) s0)) M0,setA (c0 / 2) 5 (u0 + (shlU (u64of g0) s0)) P0,setA (c0 / 2) 6 (u0 + (shlU (u64of g0) s0)) Q0,setA (c0 / 2) 7 (u0 + (shlU (u64of g0) s0)) R0) P2 (Tt M1 Z2) h
 refine Ba rfl ?_
 have h:=E3 _ h
 try dsimp only at h
 refine Ac<|Ab (AK rfl (Y0.memA .hd))<|AQ [vU H0,vU I0,vU J0,vU K0,vU M0,vU P0,vU Q0,vU R0] Y0 .t1 (onesB rfl) fun t6 H1 D5=>Af rfl<|Aa<|Al rfl<|Ap hb0 Tryz.func132 rfl (.cons (.many (cs:=[vU H0,vU I0,vU J0,vU K0,vU M0,vU P0,vU Q0,vU R0]) (by kernel_rfl) rfl (H1.memA .t1)) (.cons (.tmp rfl) .nil)) rfl ?_
 cases h
 exact H1.gv
 intro V4 E1 h
 try dsimp only at h
 refine MX.ifb rfl h (fun v2 h=>?_) (fun v2 h=>?_)
 refine Ac<|bk h fun H6 s4 h=>RG.doesH .plain rfl (Does.mkH (α:=Int) (L:=L) s4 y0 el45 rfl (fun _ _=>rfl)) fun D4 u6 ⟨q5,p1,b3,R1⟩=>Af rfl<|Aa<|Ac<|Ae rfl<|bk h fun I4 k4 h=>?_
 obtain ⟨g2,d5,x1,Z1,C2,W3,U5⟩:=St.nth (α:=Int) p1 .hd R1 k4
 obtain ⟨p2,g5,V1⟩:=BU (α:=Int) p1 .hd Z1
 obtain rfl:g2 = ⟨p2,0,none⟩:=by rw [V1] at x1; cases x1; rfl
 have A3:C2 = [vI I4]:=W3; subst A3
 refine Ab (Bm 1 16 rfl x1 rfl rfl Z1)<|bk h fun K4 t4 h=>RG.acts' .plain (Acts.set (α:=Int) (i:=16) t4 p1 V1 (fun _=>.hd) R1 rfl rfl rfl rfl rfl (by kernel_rfl)) fun v6 ⟨s5,q1,c3,s3⟩=>Aa<|Av<|Ae rfl<|Ae rfl ?_
 have g1:=By q1 .hd
 have d3:=Bz q1 .hd
 refine bk h fun P4 y4 h=>AZ (fst:=[]) (cap:=[]) .plain (bd 162) rfl (e2 rfl rfl) (fun w9 hw9=>ar_c n (g1.hL hL hw9) (Ar (BA (α:=Int) (v:=D4) (xs:=K4) g1 L (Bj (α:=Int) q1 .hd s3 hL)) hw9) (g1.km h0_1 hw9) y4) rfl fun x6 F4 p3 ⟨Z5,hu_,X3⟩=>?_
 subst hu_
 obtain ⟨Q2,g3⟩:=g1.agr p3
 refine Af rfl<|Aa ?_
 obtain ⟨R2,P1⟩:=AI Q2 (.a1 .done)
 exact E1 (P4,F4) R2 (Tt b3 (Tt c3 (Tt d3 (Tt g3 P1)))) (Ao X3 P1) h
 refine Aq ?_
 obtain ⟨I1,j3⟩:=AI y0 (.a1 .done)
 exact E1 (a0.fD,v0_1) I1 j3 (AO h0_1 I1) h
structure Tm where
  fN:Td
  fD:Td
  deriving DecidableEq
instance:Rep Tm:=Rep.via (β:=Td × Td) fun x=>(x.fN,x.fD)
def cq_p (n:Nat) (a0:Tm):Option (Ta × Int):=
  (aw_p n a0.fN).bind fun b0=>(aw_p n a0.fD).bind fun c0=>(if b0.2 = 0 then (if c0.2 = 0 then some ((⟨b0.1,c0.1⟩:Ta),(0:Int)) else some ((⟨((0:UInt64),(0:UInt64),(0:UInt64),(0:UInt64),(0:UInt64),(0:UInt64),(0:UInt64),(0:UInt64)),((0:UInt64),(0:UInt64),(0:UInt64),(0:UInt64),(0:UInt64),(0:UInt64),(0:UInt64),(0:UInt64))⟩:Ta),(6:Int))) else some ((⟨((0:UInt64),(0:UInt64),(0:UInt64),(0:UInt64),(0:UInt64),(0:UInt64),(0:UInt64),(0:UInt64)),((0:UInt64),(0:UInt64),(0:UInt64),(0:UInt64),(0:UInt64),(0:UInt64),(0:UInt64),(0:UInt64))⟩:Ta),(6:Int)))
theorem cq_c (n:Nat) {L w} (hL:hl L w) (a0:Tm) {v0_1:Value} (h0_1:Rep.R w L [v0_1] a0.fN.fD) {v0_3:Value} (h0_3:Rep.R w L [v0_3] a0.fD.fD)  {r:Ta × Int} (h:cq_p n a0 = some r) :
 Cl 92 #[.agg #[.bool a0.fN.fc,v0_1,.bool a0.fD.fc,v0_3]] w (Gives w fun _ u=>u = .tuple #[.agg ((cs_Ta r.1)).toArray,vI r.2]):=by
 unfold cq_p at h
 refine AF Tryz.func92 rfl rfl rfl fun _ cs0 hb0=>Ac<|RG.bx (AB w) rfl rfl fun R0 B0 v0 F0=>RG.nl zL v0 fun U0 C0 g0 G0=>Af rfl<|Aa<|Ac<|AV 0 rfl<|Ab (Bp (cs:=[.bool a0.fN.fc,v0_1]) (by kernel_rfl) rfl (mem_part (g0.memA .t1) 0 2))<|bk h fun b0 z0 h=>Bi (.tuple #[.agg ((cs_A34 b0.1)).toArray,vI b0.2]) (bd 132) rfl (e1 rfl) (fun w9 hw9=>aw_c n (g0.hL0 hL hw9) a0.fN (g0.k0 h0_1 hw9) z0) rfl<|Ae rfl<|Ab (Ah rfl rfl)<|Ab (Ah rfl rfl)<|RG.nl zP g0 fun V0 D0 x0 H0=>AQ (cs_A34 b0.1) x0 .hd (onesB rfl) fun W0 j0 I0=>Af rfl<|Aa<|Ac<|AV 2 rfl<|Ab (Bp (cs:=[.bool a0.fD.fc,v0_3]) (by kernel_rfl) rfl (mem_part (j0.memA .t2) 2 2))<|bk h fun c0 A0 h=>Bi (.tuple #[.agg ((cs_A34 c0.1)).toArray,vI c0.2]) (bd 132) rfl (e1 rfl) (fun w9 hw9=>aw_c n (j0.hL0 hL hw9) a0.fD (j0.k0 h0_3 hw9) A0) rfl<|Ae rfl<|Ab (Ah rfl rfl)<|Ab (Ah rfl rfl)<|RG.nl zP j0 fun X0 E0 y0 J0=>AQ (cs_A34 c0.1) y0 .hd (onesB rfl) fun Y0 d0 K0=>Af rfl<|Aa<|Aj<|Ac<|Ae rfl<|Ab (FV.neq (i:=b0.2) (j:=0) rfl rfl) ?_
 refine Ae rfl<|RG.ifn (s:=22) rfl h (fun t0 h=>?_) (fun t0 h=>?_)
 refine AJ (Ai rfl)<|AJ (FV.neq (i:=c0.2) (j:=0) rfl rfl)<|Bx rfl rfl<|Aa<|MX.ifn rfl h (fun u0 h=>?_) (fun u0 h=>?_)
 refine Aq<|Ac<|Ab (AK rfl (d0.memA .t1))<|Ab (AK rfl (d0.memA .hd))<|Ab (AX (vs:=[.agg ((cs_A34 b0.1)).toArray,.agg ((cs_A34 c0.1)).toArray]) (u:=.agg ((cs_A34 b0.1 ++ cs_A34 c0.1)).toArray) (e2 rfl rfl) (fun w9=>by kernel_rfl))<|AQ (cs_A34 b0.1 ++ cs_A34 c0.1) d0 .t2 (onesB rfl) fun Z0 p0 M0=>Af rfl<|Aa<|Al rfl<|Ap hb0 Tryz.func92 rfl (.cons (.many (cs:=(cs_A34 b0.1 ++ cs_A34 c0.1)) (by kernel_rfl) rfl (p0.memA .t2)) (.cons (.tmp rfl) .nil)) rfl ?_
 cases h
 exact p0.gv
 refine Ac<|Ab (AX (vs:=[]) (u:=.agg zM) evs_nil (fun w9=>by kernel_rfl))<|AQ zL d0 .t2 (onesB rfl) fun b1 q0 P0=>Af rfl<|Aa<|Al rfl<|Ap hb0 Tryz.func92 rfl (.cons (.many (cs:=zL) (by kernel_rfl) rfl (q0.memA .t2)) (.cons (.tmp rfl) .nil)) rfl ?_
 cases h
 exact q0.gv
 refine Aw<|Aw<|Br rfl rfl<|Aa<|Bk rfl<|Ac<|Ab (AX (vs:=[]) (u:=.agg zM) evs_nil (fun w9=>by kernel_rfl))<|AQ zL d0 .t2 (onesB rfl) fun c1 s0 Q0=>Af rfl<|Aa<|Al rfl<|Ap hb0 Tryz.func92 rfl (.cons (.many (cs:=zL) (by kernel_rfl) rfl (s0.memA .t2)) (.cons (.tmp rfl) .nil)) rfl ?_
 cases h
 exact s0.gv
def bb_l1 (_n:Nat) (a0:List Int) (j0:Int × Nat × (List Int) -> Option ((List Int) × Int)):Int × Nat × (List Int) -> Option ((List Int) × Int)
  | (g0,b0,d0)=>(if b0 < a0.length then (a0[b0]?).bind fun s0=>(chk (2 * s0)).bind fun k0=>(chk (k0 + g0)).bind fun c0=>(remI c0 4294967296).bind fun p0=>(app d0 ([p0]:List Int)).bind fun t0=>(quoI c0 4294967296).bind fun q0=>j0 (q0,b0 + 1,t0) else some (d0,g0))
def bb_p (n:Nat) (a0:List Int) (a1:Int):Option (List Int):=
  Option.bind (loopF (bb_l1 n a0) n (a1,0,([]:List Int))) (fun (c0,g0)=>(app c0 ([g0]:List Int)).bind fun b0=>(aF_p n b0).bind fun d0=>some d0)
theorem bb_c (n:Nat) {L w} (hL:hl L w) {a0:List Int} {v0_0:Value} (h0_0:Rep.R w L [v0_0] a0) {a1:Int}  {r:List Int} (h:bb_p n a0 a1 = some r) :
 Cl 192 #[v0_0,vI a1] w (Gives w fun w' u=>∃ v0_0:Value,u = v0_0/\Rep.R w' L [v0_0] r):=by
 unfold bb_p at h
 have hS0:=AB w
 refine AF Tryz.func192 rfl rfl rfl fun _ cs0 hb0=>Ac<|Af rfl<|Aa<|Ac<|Af rfl<|Aa<|Aj<|Ac<|Af rfl<|Aa<|Ay ?_
 have x0:=hS0.nilRow 3 (Rep.size Int)
 have P1:=St.nilRowT hS0 3 (Rep.size Int)
 obtain ⟨W1,c1,Y0⟩:=bind_in2 h
 refine MX.lf (α:=Int × Nat × (List Int) × Value × (List Value)) (fun ⟨b0,c0,d0,k0,g0⟩=>[(0,v0_0),(1,vI b0),(5,k0),(6,vI ((c0:Nat):Int))]) (fun ⟨b0,c0,d0,k0,g0⟩=>[rr w 3 Int k0 d0.length g0]) (fun ⟨b0,c0,d0,k0,g0⟩ D0=>Cells D0 (bl [rr w 3 Int k0 d0.length g0] ++ L) g0 d0) (fun ⟨b0,c0,d0,k0,g0⟩=>(b0,c0,d0)) (a1,0,([]:List Int),vN,[]) c1 x0 (Ax (cs:=[]) (xs:=([]:List Int)) x0 L (AD _ _)) ?_
 rintro H1 ⟨b0,c0,d0,k0,g0⟩ D0 I0 u0 Q0 B0 h
 unfold bb_l1 at h
 try dsimp only at h
 refine Aj<|Ac<|Ae rfl<|Ae rfl ?_
 have v0:=AO h0_0 u0
 have V1:a0.length <= 281474976710656:=AY v0
 refine Ab (Bc (xs:=a0) Tryz.underlying45 rfl v0)<|Ab (Bu (i:=c0) (j:=a0.length) rfl rfl)<|Aa<|AS rfl h (fun F0 h=>?_) (fun F0 h=>?_)
 refine Aq<|Aj<|Ay<|Ac<|Ae rfl<|Ae rfl<|bk h fun E0 u1 h=>?_
 obtain ⟨G1,K1,W0,Z0,G0,g1,b1⟩:=Bl v0 u1
 have X0:G0 = [vI E0]:=g1; subst X0
 refine Ab (Bm 1 c0 rfl W0 rfl rfl Z0)<|AP rfl (b1 0 _ rfl)<|bk h fun z1 k1 h=>Ab (FV.mulc (i:=2) (j:=E0) rfl rfl k1)<|Ae rfl<|bk h fun C0 p1 h=>Ab (BL (i:=z1) (j:=b0) rfl rfl p1)<|Af rfl<|Aa<|Ac<|Ae rfl<|Ae rfl<|bk h fun j0 q1 h=>Ab (FV.remc (i:=C0) (j:=4294967296) rfl rfl q1)<|Ak .plain rfl (AE (α:=Int) (xs:=([j0]:List Int)) (vs:=[vI j0]) (ds' :=[vI j0]) rfl u0 el45 rfl (e1 rfl) (by kernel_rfl) rfl) fun Y1 I1 p0 z0=>bk h fun E1 v1 h=>RG.doesL .plain rfl (AW (α:=Int) (ys:=([j0]:List Int)) v1 p0 (fun _ _=>.t1) el45 rfl rfl (Au B0 z0) (Src.row (α:=Int) p0 .hd (Ax (cs:=[vI j0]) (xs:=(([j0]:List Int):List Int)) p0 L (Am (cs:=[vI j0]) (ds:=[]) rfl (AD _ _))))) fun B1 Z1 ⟨H0,J0,M0,U0⟩=>Af rfl<|Aa<|Av<|Ae rfl<|bk h fun A1 s1 h=>Ab (FV.quoc (i:=C0) (j:=4294967296) rfl rfl s1)<|Af rfl<|Aa<|AA<|Av<|Ae rfl<|Ab (Bw (i:=c0) (j:=1) rfl rfl (by omega))<|Af rfl<|Aa ?_
 obtain ⟨K0,A0⟩:=AI J0 .d1
 exact I0 (A1,c0 + 1,E1,B1,H0) K0 (Tt Q0 (Tt z0 (Tt M0 A0))) (Au U0 A0) h
 refine Ba rfl ?_
 have h:=Y0 _ h
 try dsimp only at h
 refine Ac<|Ae rfl<|Ae rfl<|Ak .plain rfl (AE (α:=Int) (xs:=([b0]:List Int)) (vs:=[vI b0]) (ds' :=[vI b0]) rfl u0 el45 rfl (e1 rfl) (by kernel_rfl) rfl) fun b2 J1 q0 P0=>bk h fun F1 x1 h=>RG.doesL .plain rfl (AW (α:=Int) (ys:=([b0]:List Int)) x1 q0 (fun _ _=>.t1) el45 rfl rfl (Au B0 P0) (Src.row (α:=Int) q0 .hd (Ax (cs:=[vI b0]) (xs:=(([b0]:List Int):List Int)) q0 L (Am (cs:=[vI b0]) (ds:=[]) rfl (AD _ _))))) fun C1 c2 ⟨M1,s0,Q1,V0⟩=>?_
 have t0:=By s0 .t1
 have R1:=Bz s0 .t1
 refine bk h fun g2 y1 h=>AZ (fst:=[]) (cap:=[]) .plain (bd 163) rfl (e1 rfl) (fun w9 hw9=>aF_c n (t0.hL hL hw9) (Ar (BA (α:=Int) (v:=C1) (xs:=F1) t0 L (Bj (α:=Int) s0 .t1 V0 hL)) hw9) y1) rfl fun d2 D1 R0 ⟨X1,hu_,j1⟩=>?_
 subst hu_
 obtain ⟨y0,U1⟩:=t0.agr R0
 refine Af rfl<|Aa<|Al rfl<|AT hb0 Tryz.func192 rfl rfl ?_
 cases h
 exact ⟨y0.ag,fun w9 hw9=>⟨D1,rfl,y0.kd j1 hw9⟩⟩
end Go.Proofs.YtgejkdheojkfiaaGreatDoor
/- Functions of the program, and what they give: part 8. -/
namespace Go.Proofs.YtgejkdheojkfiaaGreatDoor
open Go Go.RowKit
set_option maxRecDepth 4000
set_option maxHeartbeats 4000000

def aq_l1 (n:Nat) (a0:List Int) (g0:Int) (a1:List Int) (p0:(List Int) × Int × (List Int) -> Option ((List Int) × (List Int))):(List Int) × Int × (List Int) -> Option ((List Int) × (List Int))
  | (k0,c0,b0)=>(if 0 <= c0 then (idx a0 g0).bind fun x0=>(natOf c0).bind fun q0=>(remI (shrS x0 q0) 2).bind fun t0=>(bb_p n k0 t0).bind fun d0=>(aC_p n d0 a1).bind fun C0=>jn (fun (z0,A0)=>(chk (c0 - 1)).bind fun u0=>p0 (z0,u0,A0)) (fun j0=>(if 0 <= C0 then (ar_p n d0 a1).bind fun D0=>(idx b0 g0).bind fun y0=>(natOf c0).bind fun s0=>(chk (y0 + (shlS 1 s0))).bind fun v0=>(put b0 ((g0.toNat:Nat):Int) v0).bind fun B0=>j0 (D0,B0) else j0 (d0,b0))) else some (k0,b0))
def aq_l2 (n:Nat) (a0:List Int) (a1:List Int) (g0:(List Int) × Int × (List Int) -> Option ((List Int) × (List Int))):(List Int) × Int × (List Int) -> Option ((List Int) × (List Int))
  | (c0,b0,d0)=>(if 0 <= b0 then Option.bind (loopF (aq_l1 n a0 b0 a1) n (c0,31,d0)) (fun (k0,p0)=>(chk (b0 - 1)).bind fun j0=>g0 (k0,j0,p0)) else some (d0,c0))
def aq_p (n:Nat) (a0:List Int) (a1:List Int):Option ((List Int) × (List Int)):=
  (if ((a0.length:Nat):Int) <= (((a1.length:Nat):Int) - 1) then (app ([]:List Int) a0).bind fun g0=>some (([]:List Int),g0) else (mk (((a0.length:Nat):Int) - (((a1.length:Nat):Int) - 1)) (0:Int)).bind fun b0=>(cut a0 (((a0.length:Nat):Int) - (((a1.length:Nat):Int) - 1)) (a0.length:Int)).bind fun j0=>(app ([]:List Int) j0).bind fun k0=>Option.bind (loopF (aq_l2 n a0 a1) n (k0,((b0.length:Nat):Int) - 1,b0)) (fun (d0,c0)=>(aF_p n d0).bind fun p0=>some (p0,c0)))
theorem aq_c (n:Nat) {L w} (hL:hl L w) {a0:List Int} {v0_0:Value} (h0_0:Rep.R w L [v0_0] a0) {a1:List Int} {v1_0:Value} (h1_0:Rep.R w L [v1_0] a1)  {r:(List Int) × (List Int)} (h:aq_p n a0 a1 = some r) :
 Cl 164 #[v0_0,v1_0] w (Gives w fun w' u=>∃ v0_0 v1_0:Value,u = .tuple #[v0_0,v1_0]/\Rep.R w' L [v0_0] r.1/\Rep.R w' L [v1_0] r.2):=by
 unfold aq_p at h
 have hS0:=AB w
 refine AF Tryz.func164 rfl rfl rfl fun _ cs0 hb0=>Ac<|Af rfl<|Af rfl<|Aa<|Ac<|Ae rfl ?_
 have hl1:a1.length <= 281474976710656:=AY h1_0
 refine Ab (Bc (xs:=a1) Tryz.underlying45 rfl h1_0)<|Ab (FV.subI (i:=((a1.length:Nat):Int)) (j:=1) rfl rfl (by omega))<|Af rfl<|Aa<|Aj<|Ac<|Ae rfl ?_
 have hl2:a0.length <= 281474976710656:=AY h0_0
 refine Ab (Bc (xs:=a0) Tryz.underlying45 rfl h0_0)<|Ae rfl<|Ab (FV.leq (i:=((a0.length:Nat):Int)) (j:=((a1.length:Nat):Int) - 1) rfl rfl)<|Aa<|AS rfl h (fun c3 h=>?_) (fun c3 h=>?_)
 refine Ac<|Ak .plain rfl (AE (α:=Int) (xs:=([]:List Int)) (vs:=[]) (ds' :=[]) rfl hS0 el45 rfl evs_nil (by kernel_rfl) rfl) fun C4 V3 M0 g4=>Ae rfl<|bk h fun G3 p3 h=>RG.doesL .plain rfl (AW (α:=Int) (ys:=a0) p3 M0 (fun _ _=>.hd) el45 rfl rfl (Ax (cs:=[]) (xs:=(([]:List Int):List Int)) M0 L (AD _ _)) (BG (AO h0_0 M0))) fun D1 H4 ⟨c4,J0,j4,u2⟩=>Af rfl<|Af rfl<|Aa<|Al rfl ?_
 have s4:=Rep.nilAt (α:=Int) J0 L
 have E0:=By J0 .hd
 have k4:=Bz J0 .hd
 have V2:=BA (α:=Int) (v:=D1) (xs:=G3) E0 L (Bj (α:=Int) J0 .hd u2 hL)
 refine Ap hb0 Tryz.func164 rfl (.cons (.tmp rfl) (.cons (.tmp rfl) .nil)) rfl ?_
 cases h
 exact ⟨E0.ag,fun w9 hw9=>⟨vN,D1,rfl,E0.kd (Rep.nilAt (α:=Int) E0 L) hw9,E0.kd V2 hw9⟩⟩
 refine Aq<|Ac<|Ae rfl<|Ab (Bc (xs:=a0) Tryz.underlying45 rfl h0_0)<|Ae rfl<|Ab (FV.subI (i:=((a0.length:Nat):Int)) (j:=((a1.length:Nat):Int) - 1) rfl rfl (by omega))<|bk h fun G0 C1 h=>Ak .plain rfl (Does.mk (α:=Int) C1 hS0 el45 rfl) fun I4 c0 j1 p4=>Af rfl<|Aa<|Ac<|Ak .plain rfl (AE (α:=Int) (xs:=([]:List Int)) (vs:=[]) (ds' :=[]) rfl j1 el45 rfl evs_nil (by kernel_rfl) rfl) fun J4 W3 U0 g2=>Ae rfl<|Ae rfl ?_
 have z1:=AO h0_0 U0
 refine Ab (Bc (xs:=a0) Tryz.underlying45 rfl z1)<|Ae rfl<|Ab (FV.subI (i:=((a0.length:Nat):Int)) (j:=((a1.length:Nat):Int) - 1) rfl rfl (by omega))<|bk h fun I3 s3 h=>RG.valE .plain rfl (FV.cutL (α:=Int) s3 (by kernel_rfl) rfl z1 ⟨_,rfl⟩ rfl) fun B4 W2=>bk h fun G1 t3 h=>RG.doesL .plain rfl (AW (α:=Int) (ys:=I3) t3 U0 (fun _ _=>.hd) el45 rfl rfl (Ax (cs:=[]) (xs:=(([]:List Int):List Int)) U0 L (AD _ _)) (BG W2)) fun E1 K4 ⟨d4,F0,j2,v2⟩=>Af rfl<|Aa<|Aj<|Ac<|Ae rfl ?_
 have q4:G0.length <= 4294967296:=St.rowLe (α:=Int) F0 .t1
 obtain ⟨P3,b4,A2⟩:=St.rowV (α:=Int) F0 .t1
 refine Ab (FV.lenV Tryz.underlying45 rfl A2)<|Ab (FV.subI (i:=((G0.length:Nat):Int)) (j:=1) rfl rfl (by omega))<|Af rfl<|Aa<|Ay ?_
 have k1:=By F0 .hd
 obtain ⟨t4,J2,B2⟩:=bind_in2 h
 refine MX.lf (α:=(List Int) × Int × (List Int) × Value × (List Value)) (fun ⟨B0,b0,g0,y0,u0⟩=>[(0,v0_0),(1,v1_0),(7,(.slice (some ⟨c0,0,none⟩) (((a0.length:Nat):Int) - (((a1.length:Nat):Int) - 1)).toNat (((a0.length:Nat):Int) - (((a1.length:Nat):Int) - 1)).toNat)),(8,y0),(9,vI b0)]) (fun ⟨B0,b0,g0,y0,u0⟩=>[rr w 3 Int (.slice (some ⟨c0,0,none⟩) (((a0.length:Nat):Int) - (((a1.length:Nat):Int) - 1)).toNat (((a0.length:Nat):Int) - (((a1.length:Nat):Int) - 1)).toNat) g0.length u0]) (fun ⟨B0,b0,g0,y0,u0⟩ Z0=>Rep.R Z0 (bl [rr w 3 Int (.slice (some ⟨c0,0,none⟩) (((a0.length:Nat):Int) - (((a1.length:Nat):Int) - 1)).toNat (((a0.length:Nat):Int) - (((a1.length:Nat):Int) - 1)).toNat) g0.length u0] ++ L) [y0] B0/\Cells Z0 (bl [rr w 3 Int (.slice (some ⟨c0,0,none⟩) (((a0.length:Nat):Int) - (((a1.length:Nat):Int) - 1)).toNat (((a0.length:Nat):Int) - (((a1.length:Nat):Int) - 1)).toNat) g0.length u0] ++ L) u0 g0) (fun ⟨B0,b0,g0,y0,u0⟩=>(B0,b0,g0)) (G1,((G0.length:Nat):Int) - 1,G0,E1,(List.replicate (((a0.length:Nat):Int) - (((a1.length:Nat):Int) - 1)).toNat [vI 0]).flatten) J2 k1 ⟨(BA (α:=Int) (v:=E1) (xs:=G1) k1 L (Bj (α:=Int) F0 .hd v2 hL)),(Au (Ax (cs:=(List.replicate (((a0.length:Nat):Int) - (((a1.length:Nat):Int) - 1)).toNat [vI 0]).flatten) (xs:=G0) j1 L (Cells.mk C1 rfl)) (Tt g2 (Tt j2 (Bz F0 .hd))))⟩ ?_
 rintro Q3 ⟨B0,b0,g0,y0,u0⟩ Z0 V1 H0 Z1 ⟨A1,u1⟩ h
 unfold aq_l2 at h
 try dsimp only at h
 refine Aj<|Ac<|Ae rfl<|Ab (FV.geq (i:=b0) (j:=0) rfl rfl)<|Aa<|AS rfl h (fun K1 h=>?_) (fun K1 h=>?_)
 refine Aq<|Aj<|Ay<|Ac<|Af rfl<|Aa<|Ay ?_
 obtain ⟨u4,K2,C2⟩:=bind_in2 h
 refine MX.lf (α:=(List Int) × Int × (List Int) × Value × (List Value)) (fun ⟨C0,p0,j0,z0,q0⟩=>[(0,v0_0),(1,v1_0),(7,(.slice (some ⟨c0,0,none⟩) (((a0.length:Nat):Int) - (((a1.length:Nat):Int) - 1)).toNat (((a0.length:Nat):Int) - (((a1.length:Nat):Int) - 1)).toNat)),(8,z0),(9,vI b0),(10,vI p0)]) (fun ⟨C0,p0,j0,z0,q0⟩=>[rr w 3 Int (.slice (some ⟨c0,0,none⟩) (((a0.length:Nat):Int) - (((a1.length:Nat):Int) - 1)).toNat (((a0.length:Nat):Int) - (((a1.length:Nat):Int) - 1)).toNat) j0.length q0]) (fun ⟨C0,p0,j0,z0,q0⟩ b1=>Rep.R b1 (bl [rr w 3 Int (.slice (some ⟨c0,0,none⟩) (((a0.length:Nat):Int) - (((a1.length:Nat):Int) - 1)).toNat (((a0.length:Nat):Int) - (((a1.length:Nat):Int) - 1)).toNat) j0.length q0] ++ L) [z0] C0/\Cells b1 (bl [rr w 3 Int (.slice (some ⟨c0,0,none⟩) (((a0.length:Nat):Int) - (((a1.length:Nat):Int) - 1)).toNat (((a0.length:Nat):Int) - (((a1.length:Nat):Int) - 1)).toNat) j0.length q0] ++ L) q0 j0) (fun ⟨C0,p0,j0,z0,q0⟩=>(C0,p0,j0)) (B0,31,g0,y0,u0) K2 H0 ⟨A1,u1⟩ ?_
 rintro R3 ⟨C0,p0,j0,z0,q0⟩ b1 W1 I0 p1 ⟨B1,W0⟩ h
 unfold aq_l1 at h
 try dsimp only at h
 refine Aj<|Ac<|Ae rfl<|Ab (FV.geq (i:=p0) (j:=0) rfl rfl)<|Aa<|AS rfl h (fun M1 h=>?_) (fun M1 h=>?_)
 refine Aq<|Aj<|Ay<|Ac<|Ae rfl<|Ae rfl<|Ae rfl<|bk h fun d1 d3 h=>?_
 obtain ⟨D2,g3⟩:=idx_in d3
 obtain ⟨M3,X3,x2,E2,Q1,M2,H2⟩:=Bl (AO h0_0 I0) g3
 have y2:Q1 = [vI d1]:=M2; subst y2
 refine Ab (Bm 1 (b0.toNat) rfl x2 rfl D2 E2)<|AP rfl (H2 0 _ rfl)<|Ae rfl<|bk h fun z3 F2 h=>Ab (FV.shrSI (i:=d1) (q:=p0) rfl rfl F2)<|bk h fun v4 X2 h=>Ab (FV.remc (i:=shrS d1 z3) (j:=2) rfl rfl X2)<|bk h fun J3 u3 h=>AZ (fst:=[]) (cap:=[]) .plain (bd 192) rfl (e2 rfl rfl) (fun w9 hw9=>bb_c n (I0.hL hL hw9) (Ar B1 hw9) u3) rfl fun D4 D3 k2 ⟨y4,hu_,Y0⟩=>?_
 subst hu_
 obtain ⟨x0,V0⟩:=I0.agr k2
 refine Af rfl<|Aa<|Ac<|Ae rfl<|Ae rfl<|bk h fun H1 v3 h=>Bi (vI H1) (bd 166) rfl (e2 rfl rfl) (fun w9 hw9=>aC_c n (x0.hL0 hL hw9) (x0.kd Y0 hw9) (x0.k0 h1_0 hw9) v3) rfl<|Ab (FV.geq (i:=H1) (j:=0) rfl rfl)<|Aa<|MX.jf (α:=(List Int) × (List Int) × Value × (List Value)) (fun ⟨D0,t0,A0,v0⟩=>[(0,v0_0),(1,v1_0),(7,(.slice (some ⟨c0,0,none⟩) (((a0.length:Nat):Int) - (((a1.length:Nat):Int) - 1)).toNat (((a0.length:Nat):Int) - (((a1.length:Nat):Int) - 1)).toNat)),(8,A0),(9,vI b0),(10,vI p0)]) (fun ⟨D0,t0,A0,v0⟩=>[rr w 3 Int (.slice (some ⟨c0,0,none⟩) (((a0.length:Nat):Int) - (((a1.length:Nat):Int) - 1)).toNat (((a0.length:Nat):Int) - (((a1.length:Nat):Int) - 1)).toNat) t0.length v0]) (fun ⟨D0,t0,A0,v0⟩ c1=>Rep.R c1 (bl [rr w 3 Int (.slice (some ⟨c0,0,none⟩) (((a0.length:Nat):Int) - (((a1.length:Nat):Int) - 1)).toNat (((a0.length:Nat):Int) - (((a1.length:Nat):Int) - 1)).toNat) t0.length v0] ++ L) [A0] D0/\Cells c1 (bl [rr w 3 Int (.slice (some ⟨c0,0,none⟩) (((a0.length:Nat):Int) - (((a1.length:Nat):Int) - 1)).toNat (((a0.length:Nat):Int) - (((a1.length:Nat):Int) - 1)).toNat) t0.length v0] ++ L) v0 t0) (fun ⟨D0,t0,A0,v0⟩=>(D0,t0)) x0 h ?_ ?_
 rintro ⟨D0,t0,A0,v0⟩ c1 X1 b2 ⟨P2,s2⟩ h
 try dsimp only at h
 refine AA<|Av<|Ae rfl<|bk h fun B3 Y2 h=>Ab (FV.subc (i:=p0) (j:=1) rfl rfl Y2)<|Af rfl<|Aa<|W1 (D0,B3,t0,A0,v0) X1 (Tt p1 (Tt V0 b2)) ⟨P2,s2⟩ h
 intro U3 g1 h
 try dsimp only at h
 refine AS rfl h (fun P1 h=>?_) (fun P1 h=>?_)
 refine Ac<|Ae rfl<|Ae rfl<|bk h fun K3 x3 h=>AZ (fst:=[]) (cap:=[]) .plain (bd 162) rfl (e2 rfl rfl) (fun w9 hw9=>ar_c n (x0.hL hL hw9) (Ar Y0 hw9) (x0.km h1_0 hw9) x3) rfl fun E4 E3 p2 ⟨z4,hu_,Q2⟩=>?_
 subst hu_
 obtain ⟨P0,q1⟩:=x0.agr p2
 refine Af rfl<|Aa<|du 10 fun d0 s0=>Rv 0 d0 rfl s0 (fun _=>Ai rfl)<|Rv 1 d0 rfl s0 (fun _=>Ai rfl)<|Rv 2 d0 rfl s0 (fun _=>Ai rfl)<|Rv 3 d0 rfl s0 (fun _=>Ai rfl)<|bk h fun F1 j3 h=>?_
 obtain ⟨x1,k3⟩:=idx_in j3
 have y1:=Au W0 (Tt V0 q1)
 obtain ⟨I1,Y3,K0,X0,R1,R2,I2⟩:=St.nth (α:=Int) P0 .hd y1 k3
 obtain ⟨J1,Z3,v1⟩:=BU (α:=Int) P0 .hd X0
 obtain rfl:I1 = ⟨J1,0,none⟩:=by rw [v1] at K0; cases K0; rfl
 have z2:R1 = [vI F1]:=R2; subst z2
 refine Rv 4 d0 rfl s0 (fun _=>Bm 1 (b0.toNat) rfl K0 rfl x1 X0)<|Rx 5 1792 d0 rfl s0 (AL rfl (I2 0 _ rfl))<|Rv 6 d0 rfl s0 (fun _=>Ai rfl)<|bk h fun A3 G2 h=>Rv 7 d0 rfl s0 (fun _=>FV.shlSI (i:=1) (q:=p0) rfl rfl G2)<|bk h fun x4 Z2 h=>Rv 8 d0 rfl s0 (fun _=>BL (i:=F1) (j:=shlS 1 A3) rfl rfl Z2)<|Rv 9 d0 rfl s0 (fun _=>Bm 1 (b0.toNat) rfl K0 rfl x1 X0)<|bk h fun H3 q3 h=>Be (i:=10) (rk d0) (RO.acts (m' :=2047) (sk d0) rfl rfl .plain (Acts.set (α:=Int) (i:=b0.toNat) q3 P0 v1 (fun _=>.hd) y1 rfl rfl rfl rfl rfl (by kernel_rfl)) (fun F4 ⟨U1,Y1,s1,t2⟩=>?_))
 refine AM (dk d0)<|g1 (K3,H3,E3,U1) Y1 (Tt q1 s1) ⟨(Ao Q2 s1),t2⟩ h
 refine Aq<|g1 (J3,j0,D3,q0) x0 (Bv _ _) ⟨Y0,(Au W0 V0)⟩ h
 refine Ba rfl ?_
 have h:=C2 _ h
 try dsimp only at h
 refine AA<|Av<|Ae rfl<|bk h fun C3 b3 h=>Ab (FV.subc (i:=b0) (j:=1) rfl rfl b3)<|Af rfl<|Aa<|V1 (C0,C3,j0,z0,q0) I0 (Tt Z1 p1) ⟨B1,W0⟩ h
 refine Ba rfl ?_
 have h:=B2 _ h
 try dsimp only at h
 refine Ac<|Ae rfl ?_
 have Q0:=By H0 .hd
 have c2:=Bz H0 .hd
 refine bk h fun M4 y3 h=>AZ (fst:=[]) (cap:=[]) .plain (bd 163) rfl (e1 rfl) (fun w9 hw9=>aF_c n (Q0.hL hL hw9) (Ar (BA (α:=Int) (v:=(.slice (some ⟨c0,0,none⟩) (((a0.length:Nat):Int) - (((a1.length:Nat):Int) - 1)).toNat (((a0.length:Nat):Int) - (((a1.length:Nat):Int) - 1)).toNat)) (xs:=g0) Q0 L (Bj (α:=Int) H0 .hd u1 hL)) hw9) y3) rfl fun G4 F3 q2 ⟨A4,hu_,U2⟩=>?_
 subst hu_
 obtain ⟨R0,d2⟩:=Q0.agr q2
 refine Ae rfl<|Af rfl<|Af rfl<|Aa<|Al rfl<|Ap hb0 Tryz.func164 rfl (.cons (.tmp rfl) (.cons (.tmp rfl) .nil)) rfl ?_
 cases h
 exact ⟨R0.ag,fun w9 hw9=>⟨F3,y0,rfl,R0.kd U2 hw9,R0.kd (Ao A1 (Tt c2 d2)) hw9⟩⟩
def aS_l1 (n:Nat) (d0:(List Int) × (List Int) -> Option (List Int)):(List Int) × (List Int) -> Option (List Int)
  | (c0,b0)=>(if 0 < b0.length then (aq_p n c0 b0).bind fun g0=>d0 (b0,g0.2) else some c0)
def aS_p (n:Nat) (a0:Td) (a1:Td):Option Td:=
  Option.bind (loopF (aS_l1 n) n (a0.fD,a1.fD)) (fun b0=>some (⟨false,b0⟩:Td))
theorem aS_c (n:Nat) {L w} (hL:hl L w) (a0:Td) {v0_1:Value} (h0_1:Rep.R w L [v0_1] a0.fD) (a1:Td) {v1_1:Value} (h1_1:Rep.R w L [v1_1] a1.fD)  {r:Td} (h:aS_p n a0 a1 = some r) :
 Cl 130 #[.agg #[.bool a0.fc,v0_1],.agg #[.bool a1.fc,v1_1]] w (Gives w fun w' u=>∃ v0_1:Value,u = .agg #[.bool r.fc,v0_1]/\Rep.R w' L [v0_1] r.fD):=by
 unfold aS_p at h
 refine AF Tryz.func130 rfl rfl rfl fun _ cs0 hb0=>Ac<|RG.bx (AB w) rfl rfl fun s1 W0 C0 Z0=>RG.bx C0 rfl rfl fun u1 X0 D0 b1=>RG.nl [.bool false,vN] D0 fun v1 p0 t0 c1=>Aa<|Aj<|du 6 fun d0 j0=>Rv 0 d0 rfl j0 (fun _=>Bd 1 rfl)<|Rx 1 48 d0 rfl j0 (AL rfl ((t0.memA .t2) 1 _ rfl))<|Rv 2 d0 rfl j0 (fun _=>Bd 1 rfl)<|Rx 3 32 d0 rfl j0 (AL rfl ((t0.memA .t1) 1 _ rfl))<|Rv 4 d0 rfl j0 (fun _=>AU rfl)<|Rv 5 d0 rfl j0 (fun _=>AU rfl)<|AM (dk d0)<|Aj<|Ay ?_
 obtain ⟨u0,d1⟩:=AI t0 (.a0 .done)
 obtain ⟨k1,J0,I0⟩:=bind_in2 h
 refine MX.lf (α:=(List Int) × (List Int) × Value × Value) (fun ⟨k0,c0,b0,g0⟩=>[(4,vP p0),(5,b0),(6,g0)]) (fun ⟨k0,c0,b0,g0⟩=>[.cells p0 [.bool false,vN] 134]) (fun ⟨k0,c0,b0,g0⟩ y0=>Rep.R y0 (bl [.cells p0 [.bool false,vN] 134] ++ L) [b0] k0/\Rep.R y0 (bl [.cells p0 [.bool false,vN] 134] ++ L) [g0] c0) (fun ⟨k0,c0,b0,g0⟩=>(k0,c0)) (a0.fD,a1.fD,v0_1,v1_1) J0 u0 ⟨(AO h0_1 u0),(AO h1_1 u0)⟩ ?_
 rintro V0 ⟨k0,c0,b0,g0⟩ y0 B0 v0 F0 ⟨q0,s0⟩ h
 unfold aS_l1 at h
 try dsimp only at h
 refine Aj<|Ac<|Ae rfl ?_
 have g1:c0.length <= 281474976710656:=AY s0
 refine Ab (Bc (xs:=c0) Tryz.underlying45 rfl s0)<|Ab (FV.gtrN (i:=c0.length) (j:=0) rfl rfl)<|Aa<|AS rfl h (fun A0 h=>?_) (fun A0 h=>?_)
 refine Aq<|Ay<|Ac<|Ae rfl<|Ae rfl<|bk h fun R0 P0 h=>AZ (fst:=[]) (cap:=[]) .plain (bd 164) rfl (e2 rfl rfl) (fun w9 hw9=>aq_c n (v0.hL hL hw9) (Ar q0 hw9) (Ar s0 hw9) P0) rfl fun x1 q1 H0 ⟨p1,Q0,hu_,j1,K0⟩=>?_
 subst hu_
 obtain ⟨E0,z0⟩:=v0.agr H0
 refine Ae rfl<|Ab (Ah rfl rfl)<|Ab (Ah rfl rfl)<|Af rfl<|Af rfl<|Aa<|Av<|Ae rfl<|Ae rfl<|Af rfl<|Af rfl<|Aa<|AA<|B0 (c0,R0.2,g0,Q0) E0 (Tt F0 z0) ⟨(Ao s0 z0),K0⟩ h
 refine Ba rfl ?_
 have h:=I0 _ h
 try dsimp only at h
 refine Ac<|Ae rfl ?_
 obtain ⟨U0,Y0,M0,_⟩:=BV q0
 refine Ab (AX (vs:=[b0]) (u:=.agg #[.bool false,b0]) (e1 rfl) (fun w9=>by rw [M0]; try kernel_rfl))<|AQ [.bool false,b0] v0 .hd (o2 rfl (AR q0)) fun y1 x0 G0=>Aa<|Al rfl<|Ap hb0 Tryz.func130 rfl (.cons (.many (cs:=[.bool false,b0]) (by kernel_rfl) rfl (x0.memA .hd)) .nil) rfl ?_
 cases h
 exact ⟨x0.ag,fun w9 hw9=>⟨b0,rfl,x0.kd (Ao q0 G0) hw9⟩⟩
def ab_p (n:Nat) (a0:Bool) (a1:List Int):Option Td:=
  (aF_p n a1).bind fun b0=>(if a0 = true then some (⟨(decide (0 < b0.length)),b0⟩:Td) else some (⟨false,b0⟩:Td))
theorem ab_c (n:Nat) {L w} (hL:hl L w) {a0:Bool} {a1:List Int} {v1_0:Value} (h1_0:Rep.R w L [v1_0] a1)  {r:Td} (h:ab_p n a0 a1 = some r) :
 Cl 161 #[.bool a0,v1_0] w (Gives w fun w' u=>∃ v0_1:Value,u = .agg #[.bool r.fc,v0_1]/\Rep.R w' L [v0_1] r.fD):=by
 unfold ab_p at h
 refine AF Tryz.func161 rfl rfl rfl fun _ cs0 hb0=>Ac<|RG.nl [.bool false,vN] (AB w) fun I0 B0 g0 E0=>Aa<|Ac<|Ae rfl<|bk h fun d0 y0 h=>AZ (fst:=[]) (cap:=[]) .plain (bd 163) rfl (e1 rfl) (fun w9 hw9=>aF_c n (g0.hL hL hw9) (g0.km h1_0 hw9) y0) rfl fun J0 b0 u0 ⟨H0,hu_,c0⟩=>?_
 subst hu_
 obtain ⟨p0,F0⟩:=g0.agr u0
 refine Af rfl<|Aa<|Ac<|Ae rfl<|Ae rfl<|RG.ifb (s:=8) rfl h (fun q0 h=>?_) (fun q0 h=>?_)
 refine AJ (Ai rfl) ?_
 have G0:d0.length <= 281474976710656:=AY c0
 refine AJ (Bc (xs:=d0) Tryz.underlying45 rfl c0)<|AJ (FV.gtrN (i:=d0.length) (j:=0) rfl rfl)<|Br rfl rfl<|Ae rfl ?_
 obtain ⟨z0,C0,v0,_⟩:=BV c0
 refine Ab (AX (vs:=[.bool (decide (0 < d0.length)),b0]) (u:=.agg #[.bool (decide (0 < d0.length)),b0]) (e2 rfl rfl) (fun w9=>by rw [v0]; try kernel_rfl))<|AQ [.bool (decide (0 < d0.length)),b0] p0 .hd (o2 rfl (AR c0)) fun K0 j0 s0=>Aa<|Al rfl<|Ap hb0 Tryz.func161 rfl (.cons (.many (cs:=[.bool (decide (0 < d0.length)),b0]) (by kernel_rfl) rfl (j0.memA .hd)) .nil) rfl ?_
 cases h
 exact ⟨j0.ag,fun w9 hw9=>⟨b0,rfl,j0.kd (Ao c0 s0) hw9⟩⟩
 refine Aw<|Aw<|Aw<|Bx rfl rfl<|Ae rfl ?_
 obtain ⟨A0,D0,x0,_⟩:=BV c0
 refine Ab (AX (vs:=[.bool false,b0]) (u:=.agg #[.bool false,b0]) (e2 rfl rfl) (fun w9=>by rw [x0]; try kernel_rfl))<|AQ [.bool false,b0] p0 .hd (o2 rfl (AR c0)) fun M0 k0 t0=>Aa<|Al rfl<|Ap hb0 Tryz.func161 rfl (.cons (.many (cs:=[.bool false,b0]) (by kernel_rfl) rfl (k0.memA .hd)) .nil) rfl ?_
 cases h
 exact ⟨k0.ag,fun w9 hw9=>⟨b0,rfl,k0.kd (Ao c0 t0) hw9⟩⟩
def bR_p (n:Nat) (a0:Td):Option Td:=
  (ab_p n (!a0.fc) a0.fD).bind fun b0=>some b0
theorem bR_c (n:Nat) {L w} (hL:hl L w) (a0:Td) {v0_1:Value} (h0_1:Rep.R w L [v0_1] a0.fD)  {r:Td} (h:bR_p n a0 = some r) :
 Cl 136 #[.agg #[.bool a0.fc,v0_1]] w (Gives w fun w' u=>∃ v0_1:Value,u = .agg #[.bool r.fc,v0_1]/\Rep.R w' L [v0_1] r.fD):=by
 unfold bR_p at h
 refine AF Tryz.func136 rfl rfl rfl fun _ cs0 hb0=>Ac<|RG.bx (AB w) rfl rfl fun B0 u0 k0 x0=>RG.nl [.bool false,vN] k0 fun C0 v0 b0 y0=>Aa<|Ac<|AV 0 rfl<|AP rfl ((b0.memA .t1) 0 _ rfl)<|Ab (Bo rfl)<|AV 1 rfl<|AP rfl ((b0.memA .t1) 1 _ rfl)<|bk h fun j0 t0 h=>AZ (fst:=[]) (cap:=[]) .plain (bd 161) rfl (e2 rfl rfl) (fun w9 hw9=>ab_c n (b0.hL hL hw9) (b0.km h0_1 hw9) t0) rfl fun D0 A0 s0 ⟨d0,hu_,g0⟩=>?_
 subst hu_
 obtain ⟨p0,z0⟩:=b0.agr s0
 refine AQ [.bool j0.fc,d0] p0 .hd (o2 rfl (AR g0)) fun E0 c0 q0=>Aa<|Al rfl<|Ap hb0 Tryz.func136 rfl (.cons (.many (cs:=[.bool j0.fc,d0]) (by kernel_rfl) rfl (c0.memA .hd)) .nil) rfl ?_
 cases h
 exact ⟨c0.ag,fun w9 hw9=>⟨d0,rfl,c0.kd (Ao g0 q0) hw9⟩⟩
def ce_l1 (_n:Nat) (a0:List Int) (a1:List Int) (g0:Int × Int × (List Int) -> Option (List Int)):Int × Int × (List Int) -> Option (List Int)
  | (c0,b0,d0)=>(if b0 < ((a0.length:Nat):Int) then (idx a0 b0).bind fun C0=>(chk (c0 + C0)).bind fun k0=>jn (fun q0=>(remI q0 4294967296).bind fun s0=>(app d0 ([s0]:List Int)).bind fun F0=>(quoI q0 4294967296).bind fun t0=>(chk (b0 + 1)).bind fun u0=>g0 (t0,u0,F0)) (fun j0=>(if b0 < ((a1.length:Nat):Int) then (idx a1 b0).bind fun D0=>(chk (k0 + D0)).bind fun v0=>j0 v0 else j0 k0)) else (if b0 < ((a1.length:Nat):Int) then (idx a1 b0).bind fun E0=>(chk (c0 + E0)).bind fun p0=>(remI p0 4294967296).bind fun x0=>(app d0 ([x0]:List Int)).bind fun G0=>(quoI p0 4294967296).bind fun y0=>g0 (y0,b0 + 1,G0) else (if 0 < c0 then (remI c0 4294967296).bind fun z0=>(app d0 ([z0]:List Int)).bind fun H0=>(quoI c0 4294967296).bind fun A0=>(chk (b0 + 1)).bind fun B0=>g0 (A0,B0,H0) else some d0)))
def ce_p (n:Nat) (a0:List Int) (a1:List Int):Option (List Int):=
  Option.bind (loopF (ce_l1 n a0 a1) n (0,0,([]:List Int))) (fun b0=>some b0)
theorem ce_c (n:Nat) {L w} (hL:hl L w) {a0:List Int} {v0_0:Value} (h0_0:Rep.R w L [v0_0] a0) {a1:List Int} {v1_0:Value} (h1_0:Rep.R w L [v1_0] a1)  {r:List Int} (h:ce_p n a0 a1 = some r) :
 Cl 168 #[v0_0,v1_0] w (Gives w fun w' u=>∃ v0_0:Value,u = v0_0/\Rep.R w' L [v0_0] r):=by
 unfold ce_p at h
 have hS0:=AB w
 refine AF Tryz.func168 rfl rfl rfl fun _ cs0 hb0=>Ac<|Af rfl<|Aa<|Ac<|Af rfl<|Aa<|Ac<|Af rfl<|Aa<|Aj<|Ac<|Af rfl<|Aa<|Ay ?_
 have I0:=hS0.nilRow 3 (Rep.size Int)
 have B3:=St.nilRowT hS0 3 (Rep.size Int)
 obtain ⟨G3,j2,U1⟩:=bind_in2 h
 refine MX.lf (α:=Int × Int × (List Int) × Value × (List Value)) (fun ⟨g0,b0,j0,d0,k0⟩=>[(0,v0_0),(1,v1_0),(5,d0),(6,vI g0),(7,vI b0)]) (fun ⟨g0,b0,j0,d0,k0⟩=>[rr w 3 Int d0 j0.length k0]) (fun ⟨g0,b0,j0,d0,k0⟩ X0=>Cells X0 (bl [rr w 3 Int d0 j0.length k0] ++ L) k0 j0) (fun ⟨g0,b0,j0,d0,k0⟩=>(g0,b0,j0)) (0,0,([]:List Int),vN,[]) j2 I0 (Ax (cs:=[]) (xs:=([]:List Int)) I0 L (AD _ _)) ?_
 rintro s3 ⟨g0,b0,j0,d0,k0⟩ X0 A0 c0 F0 y0 h
 unfold ce_l1 at h
 try dsimp only at h
 refine Aj<|Ac<|Ae rfl<|Ae rfl ?_
 have u0:=AO h0_0 c0
 have D3:a0.length <= 281474976710656:=AY u0
 refine Ab (Bc (xs:=a0) Tryz.underlying45 rfl u0)<|Ab (BR (i:=b0) (j:=((a0.length:Nat):Int)) rfl rfl)<|Ae rfl<|BE (s:=12) rfl h (fun x0 h=>?_) (fun x0 h=>?_)
 refine Aw<|Aw<|Aw<|Aw<|Br rfl rfl<|Ae rfl<|Aw<|Aw<|Br rfl rfl<|Aa<|Bk rfl<|Aq<|Aj<|Ay<|Aj<|Ac<|Ae rfl<|Ae rfl<|Ab (Bc (xs:=a0) Tryz.underlying45 rfl u0)<|Ab (BR (i:=b0) (j:=((a0.length:Nat):Int)) rfl rfl)<|Aa<|MX.cond_kt rfl (decide_eq_true x0)<|Av<|Ae rfl<|Ae rfl<|Ae rfl<|bk h fun Y0 F2 h=>?_
 obtain ⟨V1,G2⟩:=idx_in F2
 obtain ⟨k3,y3,J1,Y1,j1,k2,c2⟩:=Bl u0 G2
 have K1:j1 = [vI Y0]:=k2; subst K1
 refine Ab (Bm 1 (b0.toNat) rfl J1 rfl V1 Y1)<|AP rfl (c2 0 _ rfl)<|bk h fun V0 t2 h=>Ab (BL (i:=g0) (j:=Y0) rfl rfl t2)<|Af rfl<|Aa<|Aj<|Ac<|Ae rfl<|Ae rfl ?_
 have G0:=AO h1_0 c0
 have E3:a1.length <= 281474976710656:=AY G0
 refine Ab (Bc (xs:=a1) Tryz.underlying45 rfl G0)<|Ab (BR (i:=b0) (j:=((a1.length:Nat):Int)) rfl rfl)<|Aa<|MX.jo (α:=Int) (fun t0=>[(0,v0_0),(1,v1_0),(5,d0),(6,vI t0),(7,vI b0)]) (fun t0=>[rr w 3 Int d0 j0.length k0]) (fun t0=>t0) c0 h ?_ ?_
 rintro t0 Q3 v1 J0 h
 try dsimp only at h
 refine Ac<|Ae rfl<|Ae rfl<|bk h fun p0 u2 h=>Ab (FV.remc (i:=t0) (j:=4294967296) rfl rfl u2)<|Ak .plain rfl (AE (α:=Int) (xs:=([p0]:List Int)) (vs:=[vI p0]) (ds' :=[vI p0]) rfl v1 el45 rfl (e1 rfl) (by kernel_rfl) rfl) fun H3 u3 B0 K0=>bk h fun d3 M2 h=>RG.doesL .plain rfl (AW (α:=Int) (ys:=([p0]:List Int)) M2 B0 (fun _ _=>.t1) el45 rfl rfl (Au y0 (Tt J0 K0)) (Src.row (α:=Int) B0 .hd (Ax (cs:=[vI p0]) (xs:=(([p0]:List Int):List Int)) B0 L (Am (cs:=[vI p0]) (ds:=[]) rfl (AD _ _))))) fun Z2 I3 ⟨k1,x1,D1,G1⟩=>Af rfl<|Aa<|Av<|Ae rfl<|bk h fun R2 v2 h=>Ab (FV.quoc (i:=t0) (j:=4294967296) rfl rfl v2)<|Af rfl<|Aa<|AA<|Av<|Ae rfl<|bk h fun U2 x2 h=>Ab (BL (i:=b0) (j:=1) rfl rfl x2)<|Af rfl<|Aa ?_
 obtain ⟨y1,M0⟩:=AI x1 .d1
 exact A0 (R2,U2,d3,Z2,k1) y1 (Tt F0 (Tt J0 (Tt K0 (Tt D1 M0)))) (Au G1 M0) h
 intro t3 H0 h
 try dsimp only at h
 refine AS rfl h (fun c1 h=>?_) (fun c1 h=>?_)
 refine Av<|Ae rfl<|Ae rfl<|Ae rfl<|bk h fun Z0 H2 h=>?_
 obtain ⟨W1,I2⟩:=idx_in H2
 obtain ⟨p3,z3,M1,Z1,p1,p2,d2⟩:=Bl G0 I2
 have P1:p1 = [vI Z0]:=p2; subst P1
 refine Ab (Bm 1 (b0.toNat) rfl M1 rfl W1 Z1)<|AP rfl (d2 0 _ rfl)<|bk h fun V2 y2 h=>Ab (BL (i:=V0) (j:=Z0) rfl rfl y2)<|Af rfl<|Aa<|H0 V2 c0 (Bv _ _) h
 refine Aq<|H0 V0 c0 (Bv _ _) h
 refine AJ (Ai rfl)<|AJ (Ai rfl) ?_
 have v0:=AO h1_0 c0
 have F3:a1.length <= 281474976710656:=AY v0
 refine AJ (Bc (xs:=a1) Tryz.underlying45 rfl v0)<|AJ (BR (i:=b0) (j:=((a1.length:Nat):Int)) rfl rfl)<|Bx rfl rfl<|Ae rfl<|BE (s:=18) rfl h (fun z0 h=>?_) (fun z0 h=>?_)
 refine Aw<|Aw<|Br rfl rfl<|Aa<|Bk rfl<|Aq<|Aj<|Ay<|Aj<|Ac<|Ae rfl<|Ae rfl<|Ab (Bc (xs:=a0) Tryz.underlying45 rfl u0)<|Ab (BR (i:=b0) (j:=((a0.length:Nat):Int)) rfl rfl)<|Aa<|MX.cond_kf rfl (decide_eq_false x0)<|Aq<|Aj<|Ac<|Ae rfl<|Ae rfl<|Ab (Bc (xs:=a1) Tryz.underlying45 rfl v0)<|Ab (BR (i:=b0) (j:=((a1.length:Nat):Int)) rfl rfl)<|Aa<|MX.cond_kt rfl (decide_eq_true z0)<|Av<|Ae rfl<|Ae rfl<|Ae rfl<|bk h fun b1 J2 h=>?_
 obtain ⟨X1,K2⟩:=idx_in J2
 obtain ⟨q3,A3,Q1,b2,q1,q2,g2⟩:=Bl v0 K2
 have R1:q1 = [vI b1]:=q2; subst R1
 refine Ab (Bm 1 (b0.toNat) rfl Q1 rfl X1 b2)<|AP rfl (g2 0 _ rfl)<|bk h fun W0 z2 h=>Ab (BL (i:=g0) (j:=b1) rfl rfl z2)<|Af rfl<|Aa<|Ac<|Ae rfl<|Ae rfl<|bk h fun q0 A2 h=>Ab (FV.remc (i:=W0) (j:=4294967296) rfl rfl A2)<|Ak .plain rfl (AE (α:=Int) (xs:=([q0]:List Int)) (vs:=[vI q0]) (ds' :=[vI q0]) rfl c0 el45 rfl (e1 rfl) (by kernel_rfl) rfl) fun J3 v3 C0 P0=>bk h fun g3 P2 h=>RG.doesL .plain rfl (AW (α:=Int) (ys:=([q0]:List Int)) P2 C0 (fun _ _=>.t1) el45 rfl rfl (Au y0 P0) (Src.row (α:=Int) C0 .hd (Ax (cs:=[vI q0]) (xs:=(([q0]:List Int):List Int)) C0 L (Am (cs:=[vI q0]) (ds:=[]) rfl (AD _ _))))) fun b3 K3 ⟨s1,z1,E1,H1⟩=>Af rfl<|Aa<|Av<|Ae rfl<|bk h fun W2 B2 h=>Ab (FV.quoc (i:=W0) (j:=4294967296) rfl rfl B2)<|Af rfl<|Aa<|AA<|Av<|Ae rfl<|Ab (FV.addI (i:=b0) (j:=1) rfl rfl (by omega))<|Af rfl<|Aa ?_
 obtain ⟨A1,Q0⟩:=AI z1 .d1
 exact A0 (W2,b0 + 1,g3,b3,s1) A1 (Tt F0 (Tt P0 (Tt E1 Q0))) (Au H1 Q0) h
 refine AJ (Ai rfl)<|AJ (FV.gtr (i:=g0) (j:=0) rfl rfl)<|Bx rfl rfl<|Aa<|AS rfl h (fun g1 h=>?_) (fun g1 h=>?_)
 refine Aq<|Aj<|Ay<|Aj<|Ac<|Ae rfl<|Ae rfl<|Ab (Bc (xs:=a0) Tryz.underlying45 rfl u0)<|Ab (BR (i:=b0) (j:=((a0.length:Nat):Int)) rfl rfl)<|Aa<|MX.cond_kf rfl (decide_eq_false x0)<|Aq<|Aj<|Ac<|Ae rfl<|Ae rfl<|Ab (Bc (xs:=a1) Tryz.underlying45 rfl v0)<|Ab (BR (i:=b0) (j:=((a1.length:Nat):Int)) rfl rfl)<|Aa<|MX.cond_kf rfl (decide_eq_false z0)<|Aq<|Ac<|Ae rfl<|Ae rfl<|bk h fun s0 C2 h=>Ab (FV.remc (i:=g0) (j:=4294967296) rfl rfl C2)<|Ak .plain rfl (AE (α:=Int) (xs:=([s0]:List Int)) (vs:=[vI s0]) (ds' :=[vI s0]) rfl c0 el45 rfl (e1 rfl) (by kernel_rfl) rfl) fun M3 x3 D0 R0=>bk h fun j3 Q2 h=>RG.doesL .plain rfl (AW (α:=Int) (ys:=([s0]:List Int)) Q2 D0 (fun _ _=>.t1) el45 rfl rfl (Au y0 R0) (Src.row (α:=Int) D0 .hd (Ax (cs:=[vI s0]) (xs:=(([s0]:List Int):List Int)) D0 L (Am (cs:=[vI s0]) (ds:=[]) rfl (AD _ _))))) fun c3 P3 ⟨u1,B1,F1,I1⟩=>Af rfl<|Aa<|Av<|Ae rfl<|bk h fun X2 D2 h=>Ab (FV.quoc (i:=g0) (j:=4294967296) rfl rfl D2)<|Af rfl<|Aa<|AA<|Av<|Ae rfl<|bk h fun Y2 E2 h=>Ab (BL (i:=b0) (j:=1) rfl rfl E2)<|Af rfl<|Aa ?_
 obtain ⟨C1,U0⟩:=AI B1 .d1
 exact A0 (X2,Y2,j3,c3,u1) C1 (Tt F0 (Tt R0 (Tt F1 U0))) (Au I1 U0) h
 refine Ba rfl ?_
 have h:=U1 _ h
 try dsimp only at h
 refine Ac<|Ae rfl<|Af rfl<|Aa<|Al rfl ?_
 have E0:=By c0 .hd
 have C3:=Bz c0 .hd
 have s2:=BA (α:=Int) (v:=d0) (xs:=j0) E0 L (Bj (α:=Int) c0 .hd y0 hL)
 refine AT hb0 Tryz.func168 rfl rfl ?_
 cases h
 exact ⟨E0.ag,fun w9 hw9=>⟨d0,rfl,E0.kd s2 hw9⟩⟩
def bS_p (n:Nat) (a0:Td) (a1:Td):Option Td:=
  (if (a0.fc == a1.fc) = true then (ce_p n a0.fD a1.fD).bind fun b0=>(ab_p n a0.fc b0).bind fun c0=>some c0 else (aC_p n a0.fD a1.fD).bind fun d0=>(if 0 <= d0 then (ar_p n a0.fD a1.fD).bind fun g0=>(ab_p n a0.fc g0).bind fun j0=>some j0 else (ar_p n a1.fD a0.fD).bind fun k0=>(ab_p n a1.fc k0).bind fun p0=>some p0))
theorem bS_c (n:Nat) {L w} (hL:hl L w) (a0:Td) {v0_1:Value} (h0_1:Rep.R w L [v0_1] a0.fD) (a1:Td) {v1_1:Value} (h1_1:Rep.R w L [v1_1] a1.fD)  {r:Td} (h:bS_p n a0 a1 = some r) :
 Cl 139 #[.agg #[.bool a0.fc,v0_1],.agg #[.bool a1.fc,v1_1]] w (Gives w fun w' u=>∃ v0_1:Value,u = .agg #[.bool r.fc,v0_1]/\Rep.R w' L [v0_1] r.fD):=by
 unfold bS_p at h
 refine AF Tryz.func139 rfl rfl rfl fun _ cs0 hb0=>Ac<|RG.bx (AB w) rfl rfl fun b2 A1 M0 D1=>RG.bx M0 rfl rfl fun c2 B1 P0 E1=>RG.nl [.bool false,vN] P0 fun d2 C1 b0 F1=>Aa<|Aj<|Ac<|AV 0 rfl<|AP rfl ((b0.memA .t2) 0 _ rfl)<|AV 0 rfl<|AP rfl ((b0.memA .t1) 0 _ rfl)<|Ab (FV.eqlB (a:=a0.fc) (b:=a1.fc) Tryz.underlying4 rfl rfl)<|Aa<|MX.ifb rfl h (fun J0 h=>?_) (fun J0 h=>?_)
 refine Aj<|du 8 fun c0 j0=>Rv 0 c0 rfl j0 (fun _=>Bd 0 rfl)<|Rx 1 384 c0 rfl j0 (AL rfl ((b0.memA .t2) 0 _ rfl))<|Rv 2 c0 rfl j0 (fun _=>Bd 1 rfl)<|Rx 3 448 c0 rfl j0 (AL rfl ((b0.memA .t2) 1 _ rfl))<|Rv 4 c0 rfl j0 (fun _=>Bd 1 rfl)<|Rx 5 448 c0 rfl j0 (AL rfl ((b0.memA .t1) 1 _ rfl))<|bk h fun y2 q1 h=>BB 6 127 c0 rfl .plain (bd 168) rfl (e2 rfl rfl) (fun w9 hw9=>ce_c n (b0.hL hL hw9) (b0.km h0_1 hw9) (b0.km h1_1 hw9) q1) rfl fun g2 U1 Y0 ⟨P1,hu_,j1⟩=>?_
 subst hu_
 obtain ⟨z0,G1⟩:=b0.agr Y0
 refine bk h fun F0 s1 h=>BB 7 255 c0 rfl .plain (bd 161) rfl (e2 rfl rfl) (fun w9 hw9=>ab_c n (z0.hL hL hw9) (Ar j1 hw9) s1) rfl fun j2 V1 Z0 ⟨v0,hu_,C0⟩=>?_
 subst hu_
 obtain ⟨Q0,H1⟩:=z0.agr Z0
 refine BJ 8 511 c0 rfl rfl .plain (AH (news:=[.bool F0.fc,v0]) Q0 .hd rfl rfl rfl rfl rfl rfl (o2 rfl (AR C0))) fun k2 s0 V0=>AM (dk c0)<|Al rfl<|Ap hb0 Tryz.func139 rfl (.cons (.many (cs:=[.bool F0.fc,v0]) (by kernel_rfl) rfl (s0.memA .hd)) .nil) rfl ?_
 cases h
 exact ⟨s0.ag,fun w9 hw9=>⟨v0,rfl,s0.kd (Ao C0 V0) hw9⟩⟩
 refine Aq<|Aj<|Ac<|AV 1 rfl<|AP rfl ((b0.memA .t2) 1 _ rfl)<|AV 1 rfl<|AP rfl ((b0.memA .t1) 1 _ rfl)<|bk h fun G0 u1 h=>Bi (vI G0) (bd 166) rfl (e2 rfl rfl) (fun w9 hw9=>aC_c n (b0.hL0 hL hw9) (b0.k0 h0_1 hw9) (b0.k0 h1_1 hw9) u1) rfl<|Ab (FV.geq (i:=G0) (j:=0) rfl rfl)<|Aa<|AS rfl h (fun K0 h=>?_) (fun K0 h=>?_)
 refine Aj<|du 8 fun d0 p0=>Rv 0 d0 rfl p0 (fun _=>Bd 0 rfl)<|Rx 1 384 d0 rfl p0 (AL rfl ((b0.memA .t2) 0 _ rfl))<|Rv 2 d0 rfl p0 (fun _=>Bd 1 rfl)<|Rx 3 448 d0 rfl p0 (AL rfl ((b0.memA .t2) 1 _ rfl))<|Rv 4 d0 rfl p0 (fun _=>Bd 1 rfl)<|Rx 5 448 d0 rfl p0 (AL rfl ((b0.memA .t1) 1 _ rfl))<|bk h fun z2 v1 h=>BB 6 127 d0 rfl .plain (bd 162) rfl (e2 rfl rfl) (fun w9 hw9=>ar_c n (b0.hL hL hw9) (b0.km h0_1 hw9) (b0.km h1_1 hw9) v1) rfl fun p2 W1 b1 ⟨Q1,hu_,k1⟩=>?_
 subst hu_
 obtain ⟨A0,I1⟩:=b0.agr b1
 refine bk h fun H0 x1 h=>BB 7 255 d0 rfl .plain (bd 161) rfl (e2 rfl rfl) (fun w9 hw9=>ab_c n (A0.hL hL hw9) (Ar k1 hw9) x1) rfl fun q2 X1 c1 ⟨x0,hu_,D0⟩=>?_
 subst hu_
 obtain ⟨R0,J1⟩:=A0.agr c1
 refine BJ 8 511 d0 rfl rfl .plain (AH (news:=[.bool H0.fc,x0]) R0 .hd rfl rfl rfl rfl rfl rfl (o2 rfl (AR D0))) fun s2 t0 W0=>AM (dk d0)<|Al rfl<|Ap hb0 Tryz.func139 rfl (.cons (.many (cs:=[.bool H0.fc,x0]) (by kernel_rfl) rfl (t0.memA .hd)) .nil) rfl ?_
 cases h
 exact ⟨t0.ag,fun w9 hw9=>⟨x0,rfl,t0.kd (Ao D0 W0) hw9⟩⟩
 refine Aq<|Aj<|du 8 fun g0 q0=>Rv 0 g0 rfl q0 (fun _=>Bd 0 rfl)<|Rx 1 384 g0 rfl q0 (AL rfl ((b0.memA .t1) 0 _ rfl))<|Rv 2 g0 rfl q0 (fun _=>Bd 1 rfl)<|Rx 3 448 g0 rfl q0 (AL rfl ((b0.memA .t1) 1 _ rfl))<|Rv 4 g0 rfl q0 (fun _=>Bd 1 rfl)<|Rx 5 448 g0 rfl q0 (AL rfl ((b0.memA .t2) 1 _ rfl))<|bk h fun A2 y1 h=>BB 6 127 g0 rfl .plain (bd 162) rfl (e2 rfl rfl) (fun w9 hw9=>ar_c n (b0.hL hL hw9) (b0.km h1_1 hw9) (b0.km h0_1 hw9) y1) rfl fun u2 Y1 d1 ⟨R1,hu_,p1⟩=>?_
 subst hu_
 obtain ⟨B0,K1⟩:=b0.agr d1
 refine bk h fun I0 z1 h=>BB 7 255 g0 rfl .plain (bd 161) rfl (e2 rfl rfl) (fun w9 hw9=>ab_c n (B0.hL hL hw9) (Ar p1 hw9) z1) rfl fun v2 Z1 g1 ⟨y0,hu_,E0⟩=>?_
 subst hu_
 obtain ⟨U0,M1⟩:=B0.agr g1
 refine BJ 8 511 g0 rfl rfl .plain (AH (news:=[.bool I0.fc,y0]) U0 .hd rfl rfl rfl rfl rfl rfl (o2 rfl (AR E0))) fun x2 u0 X0=>AM (dk g0)<|Al rfl<|Ap hb0 Tryz.func139 rfl (.cons (.many (cs:=[.bool I0.fc,y0]) (by kernel_rfl) rfl (u0.memA .hd)) .nil) rfl ?_
 cases h
 exact ⟨u0.ag,fun w9 hw9=>⟨y0,rfl,u0.kd (Ao E0 X0) hw9⟩⟩
def aT_p (n:Nat) (a0:Int):Option Td:=
  jn (fun u16=>(ab_p n (decide (a0 < 0)) ([i64of (u16 % (4294967296:UInt64)),i64of (u16 / (4294967296:UInt64))]:List Int)).bind fun c0=>some c0) (fun b0=>(if a0 < 0 then b0 (-(u64of a0)) else b0 (u64of a0)))
theorem aT_c (n:Nat) {L w} (hL:hl L w) {a0:Int}  {r:Td} (h:aT_p n a0 = some r) :
 Cl 152 #[vI a0] w (Gives w fun w' u=>∃ v0_1:Value,u = .agg #[.bool r.fc,v0_1]/\Rep.R w' L [v0_1] r.fD):=by
 unfold aT_p at h
 refine AF Tryz.func152 rfl rfl rfl fun _ cs0 hb0=>Ac<|RG.nl [.bool false,vN] (AB w) fun I0 k0 c0 C0=>Aa<|Ac<|Ae rfl<|Ab (BR (i:=a0) (j:=0) rfl rfl)<|Af rfl<|Aa<|Ac<|Ae rfl<|Ab (FV.convU (i:=a0) Tryz.underlying3 Tryz.underlying33 rfl)<|Af rfl<|Aa<|Aj<|Ac<|Ae rfl<|Aa<|MX.jo (α:=UInt64) (fun u16=>[(2,vP k0),(3,.bool (decide (a0 < 0))),(4,vU u16)]) (fun u16=>[.cells k0 [.bool false,vN] 134]) (fun u16=>u16) c0 h ?_ ?_
 rintro u16 P0 v0 D0 h
 try dsimp only at h
 refine Ac<|Ae rfl<|Ae rfl<|Ab (FV.remU (a:=u16) (b:=(4294967296:UInt64)) rfl rfl (by decide))<|Ab (FV.convUI (a:=u16 % (4294967296:UInt64)) Tryz.underlying33 Tryz.underlying3 rfl)<|Ae rfl<|Ab (FV.quoU (a:=u16) (b:=(4294967296:UInt64)) rfl rfl (by decide))<|Ab (FV.convUI (a:=u16 / (4294967296:UInt64)) Tryz.underlying33 Tryz.underlying3 rfl)<|Ak .plain rfl (AE (α:=Int) (xs:=([i64of (u16 % (4294967296:UInt64)),i64of (u16 / (4294967296:UInt64))]:List Int)) (vs:=[vI (i64of (u16 % (4294967296:UInt64))),vI (i64of (u16 / (4294967296:UInt64)))]) (ds' :=[vI (i64of (u16 % (4294967296:UInt64))),vI (i64of (u16 / (4294967296:UInt64)))]) rfl v0 el45 rfl (e2 rfl rfl) (by kernel_rfl) rfl) fun J0 t0 b0 E0=>?_
 have d0:=By b0 .hd
 have F0:=Bz b0 .hd
 refine bk h fun s0 A0 h=>AZ (fst:=[]) (cap:=[]) .plain (bd 161) rfl (e2 rfl rfl) (fun w9 hw9=>ab_c n (d0.hL hL hw9) (Ar (BA (α:=Int) (v:=(vS t0 2)) (xs:=([i64of (u16 % (4294967296:UInt64)),i64of (u16 / (4294967296:UInt64))]:List Int)) d0 L (Bj (α:=Int) b0 .hd (Ax (cs:=[vI (i64of (u16 % (4294967296:UInt64))),vI (i64of (u16 / (4294967296:UInt64)))]) (xs:=(([i64of (u16 % (4294967296:UInt64)),i64of (u16 / (4294967296:UInt64))]:List Int):List Int)) b0 L (Am (cs:=[vI (i64of (u16 % (4294967296:UInt64)))]) (ds:=[vI (i64of (u16 / (4294967296:UInt64)))]) rfl (Am (cs:=[vI (i64of (u16 / (4294967296:UInt64)))]) (ds:=[]) rfl (AD _ _)))) hL)) hw9) A0) rfl fun K0 H0 z0 ⟨j0,hu_,q0⟩=>?_
 subst hu_
 obtain ⟨x0,G0⟩:=d0.agr z0
 refine AQ [.bool s0.fc,j0] x0 .hd (o2 rfl (AR q0)) fun M0 g0 y0=>Aa<|Al rfl<|Ap hb0 Tryz.func152 rfl (.cons (.many (cs:=[.bool s0.fc,j0]) (by kernel_rfl) rfl (g0.memA .hd)) .nil) rfl ?_
 cases h
 exact ⟨g0.ag,fun w9 hw9=>⟨j0,rfl,g0.kd (Ao q0 y0) hw9⟩⟩
 intro B0 p0 h
 try dsimp only at h
 refine AS rfl h (fun u0 h=>?_) (fun u0 h=>?_)
 refine Av<|Ae rfl<|Ab (FV.negU (a:=u64of a0) rfl)<|Af rfl<|Aa<|p0 (-(u64of a0)) c0 (Bv _ _) h
 refine Aq<|p0 (u64of a0) c0 (Bv _ _) h
def cD_p (n:Nat) (a0:Td) (a1:Td):Option Td:=
  (bR_p n a1).bind fun b0=>(bS_p n a0 b0).bind fun c0=>some c0
theorem cD_c (n:Nat) {L w} (hL:hl L w) (a0:Td) {v0_1:Value} (h0_1:Rep.R w L [v0_1] a0.fD) (a1:Td) {v1_1:Value} (h1_1:Rep.R w L [v1_1] a1.fD)  {r:Td} (h:cD_p n a0 a1 = some r) :
 Cl 165 #[.agg #[.bool a0.fc,v0_1],.agg #[.bool a1.fc,v1_1]] w (Gives w fun w' u=>∃ v0_1:Value,u = .agg #[.bool r.fc,v0_1]/\Rep.R w' L [v0_1] r.fD):=by
 unfold cD_p at h
 refine AF Tryz.func165 rfl rfl rfl fun _ cs0 hb0=>Ac<|RG.bx (AB w) rfl rfl fun R0 D0 s0 G0=>RG.bx s0 rfl rfl fun U0 E0 t0 H0=>RG.nl [.bool false,vN] t0 fun V0 F0 c0 I0=>Aa<|Aj<|du 4 fun b0 p0=>Rx 0 24 b0 rfl p0 (AK rfl (c0.memA .t2))<|Rx 1 28 b0 rfl p0 (AK rfl (c0.memA .t1))<|bk h fun C0 A0 h=>BB 2 7 b0 rfl .plain (bd 136) rfl (e1 rfl) (fun w9 hw9=>bR_c n (c0.hL hL hw9) a1 (c0.km h1_1 hw9) A0) rfl fun W0 P0 x0 ⟨M0,hu_,z0⟩=>?_
 subst hu_
 obtain ⟨d0,J0⟩:=c0.agr x0
 refine bk h fun q0 B0 h=>BB 3 15 b0 rfl .plain (bd 139) rfl (e2 rfl rfl) (fun w9 hw9=>bS_c n (d0.hL hL hw9) a0 (d0.km h0_1 hw9) C0 (Ar z0 hw9) B0) rfl fun X0 Q0 y0 ⟨j0,hu_,k0⟩=>?_
 subst hu_
 obtain ⟨u0,K0⟩:=d0.agr y0
 refine BJ 4 31 b0 rfl rfl .plain (AH (news:=[.bool q0.fc,j0]) u0 .hd rfl rfl rfl rfl rfl rfl (o2 rfl (AR k0))) fun Y0 g0 v0=>AM (dk b0)<|Al rfl<|Ap hb0 Tryz.func165 rfl (.cons (.many (cs:=[.bool q0.fc,j0]) (by kernel_rfl) rfl (g0.memA .hd)) .nil) rfl ?_
 cases h
 exact ⟨g0.ag,fun w9 hw9=>⟨j0,rfl,g0.kd (Ao k0 v0) hw9⟩⟩
def bh_p (n:Nat) (a0:Td) (a1:Td):Option (Td × Td):=
  (aq_p n a0.fD a1.fD).bind fun g0=>(ab_p n (!(a0.fc == a1.fc)) g0.1).bind fun b0=>(ab_p n a0.fc g0.2).bind fun c0=>(if c0.fc = true then (bS_p n c0 (⟨false,a1.fD⟩:Td)).bind fun d0=>(if a1.fc = true then (aT_p n (1:Int)).bind fun j0=>(bS_p n b0 j0).bind fun k0=>some (k0,d0) else (aT_p n (1:Int)).bind fun p0=>(cD_p n b0 p0).bind fun q0=>some (q0,d0)) else some (b0,c0))
theorem bh_c (n:Nat) {L w} (hL:hl L w) (a0:Td) {v0_1:Value} (h0_1:Rep.R w L [v0_1] a0.fD) (a1:Td) {v1_1:Value} (h1_1:Rep.R w L [v1_1] a1.fD)  {r:Td × Td} (h:bh_p n a0 a1 = some r) :
 Cl 167 #[.agg #[.bool a0.fc,v0_1],.agg #[.bool a1.fc,v1_1]] w (Gives w fun w' u=>∃ v0_1 v1_1:Value,u = .tuple #[.agg #[.bool r.1.fc,v0_1],.agg #[.bool r.2.fc,v1_1]]/\Rep.R w' L [v0_1] r.1.fD/\Rep.R w' L [v1_1] r.2.fD):=by
 unfold bh_p at h
 refine AF Tryz.func167 rfl rfl rfl fun _ cs0 hb0=>Ac<|RG.bx (AB w) rfl rfl fun k6 H5 Q3 J5=>RG.bx Q3 rfl rfl fun p6 c2 R3 K5=>RG.nl [.bool false,vN] R3 fun z6 G0 Y3 P5=>RG.nl [.bool false,vN] Y3 fun A6 H0 z1 Q5=>Aa<|Ac<|AV 1 rfl<|AP rfl ((z1.memA .t3) 1 _ rfl)<|AV 1 rfl<|AP rfl ((z1.memA .t2) 1 _ rfl)<|bk h fun P6 v5 h=>AZ (fst:=[]) (cap:=[]) .plain (bd 164) rfl (e2 rfl rfl) (fun w9 hw9=>aq_c n (z1.hL hL hw9) (z1.km h0_1 hw9) (z1.km h1_1 hw9) v5) rfl fun B6 g6 b5 ⟨W5,X5,hu_,R1,B0⟩=>?_
 subst hu_
 obtain ⟨Z0,R5⟩:=z1.agr b5
 refine Ae rfl<|Ab (Ah rfl rfl)<|Ab (Ah rfl rfl)<|Af rfl<|Af rfl<|Aa<|Aj<|du 13 fun b0 V0=>Rv 0 b0 rfl V0 (fun _=>Bd 0 rfl)<|Rx 1 25680 b0 rfl V0 (AL rfl ((Z0.memA .t3) 0 _ rfl))<|Rv 2 b0 rfl V0 (fun _=>Bd 0 rfl)<|Rx 3 25680 b0 rfl V0 (AL rfl ((Z0.memA .t2) 0 _ rfl))<|Rv 4 b0 rfl V0 (fun _=>FV.neqB (a:=a0.fc) (b:=a1.fc) Tryz.underlying4 rfl rfl)<|Rv 5 b0 rfl V0 (fun _=>Ai rfl)<|Rv 7 b0 rfl V0 (fun _=>Bd 0 rfl)<|Rx 8 25600 b0 rfl V0 (AL rfl ((Z0.memA .t3) 0 _ rfl))<|Rv 9 b0 rfl V0 (fun _=>Ai rfl)<|bk h fun Y0 U1 h=>bk h fun y1 D0 h=>RD.mf (α:=Value × Value × Nat × Nat) (fun ⟨E0,M0,k1,p1⟩=>[(3,vP c2),(4,vP G0),(5,vP H0),(24,.agg #[.bool Y0.fc,E0]),(28,.agg #[.bool y1.fc,M0]),(8,vP p1),(9,vP k1)]) (fun ⟨E0,M0,k1,p1⟩=>[.cells k1 [.bool false,vN] 134,.cells p1 [.bool false,vN] 134,.cells H0 [.bool false,vN] 134,.cells G0 [.bool false,vN] 134,.cells c2 [.bool a1.fc,v1_1] 134]) (fun ⟨E0,M0,k1,p1⟩ J2=>Rep.R J2 (bl [.cells k1 [.bool false,vN] 134,.cells p1 [.bool false,vN] 134,.cells H0 [.bool false,vN] 134,.cells G0 [.bool false,vN] 134,.cells c2 [.bool a1.fc,v1_1] 134] ++ L) [E0] Y0.fD/\Rep.R J2 (bl [.cells k1 [.bool false,vN] 134,.cells p1 [.bool false,vN] 134,.cells H0 [.bool false,vN] 134,.cells G0 [.bool false,vN] 134,.cells c2 [.bool a1.fc,v1_1] 134] ++ L) [M0] y1.fD) Z0 2 8191 ?_ ?_
 rintro ⟨E0,M0,k1,p1⟩ J2 U3 M5 ⟨C1,s2⟩
 try dsimp only
 refine BJ 13 16383 b0 rfl rfl .plain (AH (news:=[.bool Y0.fc,E0]) U3 .t1 rfl rfl rfl rfl rfl rfl (o2 rfl (AR C1))) fun q6 V3 s1=>BJ 14 32767 b0 rfl rfl .plain (AH (news:=[.bool y1.fc,M0]) V3 .hd rfl rfl rfl rfl rfl rfl (o2 rfl (AR (Ao s2 s1)))) fun s6 x0 A1=>AM (dk b0)<|Aj<|Ac<|AV 0 rfl<|AP rfl ((x0.memA .hd) 0 _ rfl)<|Aa<|MX.ifb rfl h (fun M3 h=>?_) (fun M3 h=>?_)
 refine Ac<|Ab (AK rfl (x0.memA .hd))<|AV 1 rfl<|AP rfl ((x0.memA .t4) 1 _ rfl) ?_
 obtain ⟨G5,I5,q5,_⟩:=BV (AO h1_1 x0)
 refine Ab (AX (vs:=[v1_1]) (u:=.agg #[.bool false,v1_1]) (e1 rfl) (fun w9=>by rw [q5]; try kernel_rfl))<|bk h fun x1 s5 h=>AZ (fst:=[]) (cap:=[]) .plain (bd 139) rfl (e2 rfl rfl) (fun w9 hw9=>bS_c n (x0.hL hL hw9) y1 (Ar (Ao s2 (Tt s1 A1)) hw9) (⟨false,a1.fD⟩:Td) (x0.km h1_1 hw9) s5) rfl fun t6 Y5 V4 ⟨W0,hu_,Q1⟩=>?_
 subst hu_
 obtain ⟨W3,U2⟩:=x0.agr V4
 refine AQ [.bool x1.fc,W0] W3 .hd (o2 rfl (AR Q1)) fun u6 q1 B1=>Aa<|Ac<|AV 0 rfl<|AP rfl ((q1.memA .t4) 0 _ rfl)<|Aa<|MX.ifb rfl h (fun P3 h=>?_) (fun P3 h=>?_)
 refine du 3 fun V1 z5=>Rx 0 12 V1 rfl z5 (AK rfl (q1.memA .t1))<|bk h fun E5 t5 h=>BB 1 3 V1 rfl .plain (bd 152) rfl (e1 rfl) (fun w9 hw9=>aT_c n (q1.hL hL hw9)  t5) rfl fun v6 Z5 W4 ⟨U5,hu_,k5⟩=>?_
 subst hu_
 obtain ⟨Q2,z2⟩:=q1.agr W4
 refine bk h fun Z1 u5 h=>BB 2 7 V1 rfl .plain (bd 139) rfl (e2 rfl rfl) (fun w9 hw9=>bS_c n (Q2.hL hL hw9) Y0 (Ar (Ao C1 (Tt s1 (Tt A1 (Tt U2 (Tt B1 z2))))) hw9) E5 (Ar k5 hw9) u5) rfl fun x6 b6 X4 ⟨E1,hu_,u2⟩=>?_
 subst hu_
 obtain ⟨X3,V2⟩:=Q2.agr X4
 refine BJ 3 15 V1 rfl rfl .plain (AH (news:=[.bool Z1.fc,E1]) X3 .t1 rfl rfl rfl rfl rfl rfl (o2 rfl (AR u2))) fun y6 H1 p2=>AM (dk V1)<|Aj<|du 2 fun b1 I3=>Rx 0 12 b1 rfl I3 (AK rfl (H1.memA .t1))<|RD.mo (α:=Unit) (fun ()=>[(4,vP G0),(5,vP H0),(45,.agg #[.bool x1.fc,W0])]) (fun ()=>[.cells H0 [.bool false,vN] 134,.cells G0 [.bool Z1.fc,E1] 134]) H1 1 7 ?_ ?_
 rintro ⟨⟩ J6 Z3 W2
 try dsimp only
 refine BJ 3 15 b1 rfl rfl .plain (AH (news:=[.bool x1.fc,W0]) Z3 .hd rfl rfl rfl rfl rfl rfl (o2 rfl (AR (Ao Q1 (Tt B1 (Tt z2 (Tt V2 (Tt p2 W2)))))))) fun C6 I1 H4=>AM (dk b1)<|Al rfl<|Ap hb0 Tryz.func167 rfl (.cons (.many (cs:=[.bool Z1.fc,E1]) (by kernel_rfl) rfl (I1.memA .t1)) (.cons (.many (cs:=[.bool x1.fc,W0]) (by kernel_rfl) rfl (I1.memA .hd)) .nil)) rfl ?_
 cases h
 have v3:=Tt p2 (Tt W2 H4)
 exact ⟨I1.ag,fun w9 hw9=>⟨E1,W0,rfl,I1.kd (Ao u2 v3) hw9,I1.kd (Ao Q1 (Tt B1 (Tt z2 (Tt V2 v3)))) hw9⟩⟩
 intro K2
 refine Bn [1,2] (rk b1) ⟨?_,?_,trivial⟩
 refine Bq (m' :=3) (sk b1) rfl .plain rfl (AK rfl (H1.memA .hd)) ?_
 have d5:=Ao u2 p2
 refine BJ 2 7 b1 rfl rfl .plain (AH (news:=[.bool Z1.fc,E1]) H1 .t3 rfl rfl rfl rfl rfl rfl (o2 rfl (AR d5))) fun B5 d2 A2=>?_
 obtain ⟨b4,I4⟩:=AI d2 (.a2 (.a2 .done))
 exact K2 () b4 (Tt A2 I4)
 refine RO.now (m' :=5) (sk b1) rfl rfl .plain (AH (news:=[.bool Z1.fc,E1]) H1 .t3 rfl rfl rfl rfl rfl rfl (o2 rfl (AR (Ao u2 p2)))) fun B5 d2 A2=>Rx 1 8 b1 rfl I3 (AK rfl (d2.memA .hd)) ?_
 obtain ⟨c4,J4⟩:=AI d2 (.a2 (.a2 .done))
 exact K2 () c4 (Tt A2 J4)
 refine du 3 fun W1 A5=>Rx 0 12 W1 rfl A5 (AK rfl (q1.memA .t1))<|bk h fun F5 x5 h=>BB 1 3 W1 rfl .plain (bd 152) rfl (e1 rfl) (fun w9 hw9=>aT_c n (q1.hL hL hw9)  x5) rfl fun D6 c6 Y4 ⟨V5,hu_,p5⟩=>?_
 subst hu_
 obtain ⟨R2,B2⟩:=q1.agr Y4
 refine bk h fun b2 y5 h=>BB 2 7 W1 rfl .plain (bd 165) rfl (e2 rfl rfl) (fun w9 hw9=>cD_c n (R2.hL hL hw9) Y0 (Ar (Ao C1 (Tt s1 (Tt A1 (Tt U2 (Tt B1 B2))))) hw9) F5 (Ar p5 hw9) y5) rfl fun E6 d6 Z4 ⟨F1,hu_,v2⟩=>?_
 subst hu_
 obtain ⟨d4,X2⟩:=R2.agr Z4
 refine BJ 3 15 W1 rfl rfl .plain (AH (news:=[.bool b2.fc,F1]) d4 .t1 rfl rfl rfl rfl rfl rfl (o2 rfl (AR v2))) fun F6 J1 q2=>AM (dk W1)<|Aj<|du 2 fun c1 J3=>Rx 0 12 c1 rfl J3 (AK rfl (J1.memA .t1))<|RD.mo (α:=Unit) (fun ()=>[(4,vP G0),(5,vP H0),(45,.agg #[.bool x1.fc,W0])]) (fun ()=>[.cells H0 [.bool false,vN] 134,.cells G0 [.bool b2.fc,F1] 134]) J1 1 7 ?_ ?_
 rintro ⟨⟩ K6 g4 Y2
 try dsimp only
 refine BJ 3 15 c1 rfl rfl .plain (AH (news:=[.bool x1.fc,W0]) g4 .hd rfl rfl rfl rfl rfl rfl (o2 rfl (AR (Ao Q1 (Tt B1 (Tt B2 (Tt X2 (Tt q2 Y2)))))))) fun H6 K1 K4=>AM (dk c1)<|Al rfl<|Ap hb0 Tryz.func167 rfl (.cons (.many (cs:=[.bool b2.fc,F1]) (by kernel_rfl) rfl (K1.memA .t1)) (.cons (.many (cs:=[.bool x1.fc,W0]) (by kernel_rfl) rfl (K1.memA .hd)) .nil)) rfl ?_
 cases h
 have x3:=Tt q2 (Tt Y2 K4)
 exact ⟨K1.ag,fun w9 hw9=>⟨F1,W0,rfl,K1.kd (Ao v2 x3) hw9,K1.kd (Ao Q1 (Tt B1 (Tt B2 (Tt X2 x3)))) hw9⟩⟩
 intro M2
 refine Bn [1,2] (rk c1) ⟨?_,?_,trivial⟩
 refine Bq (m' :=3) (sk c1) rfl .plain rfl (AK rfl (J1.memA .hd)) ?_
 have g5:=Ao v2 q2
 refine BJ 2 7 c1 rfl rfl .plain (AH (news:=[.bool b2.fc,F1]) J1 .t3 rfl rfl rfl rfl rfl rfl (o2 rfl (AR g5))) fun C5 j2 C2=>?_
 obtain ⟨j4,M4⟩:=AI j2 (.a2 (.a2 .done))
 exact M2 () j4 (Tt C2 M4)
 refine RO.now (m' :=5) (sk c1) rfl rfl .plain (AH (news:=[.bool b2.fc,F1]) J1 .t3 rfl rfl rfl rfl rfl rfl (o2 rfl (AR (Ao v2 q2)))) fun C5 j2 C2=>Rx 1 8 c1 rfl J3 (AK rfl (j2.memA .hd)) ?_
 obtain ⟨k4,P4⟩:=AI j2 (.a2 (.a2 .done))
 exact M2 () k4 (Tt C2 P4)
 refine Aq<|Aj<|du 2 fun d1 K3=>Rx 0 12 d1 rfl K3 (AK rfl (x0.memA .t1))<|RD.mo (α:=Unit) (fun ()=>[(4,vP G0),(5,vP H0),(45,.agg #[.bool y1.fc,M0])]) (fun ()=>[.cells H0 [.bool false,vN] 134,.cells G0 [.bool Y0.fc,E0] 134]) x0 1 7 ?_ ?_
 rintro ⟨⟩ M6 p4 Q4
 try dsimp only
 have G2:=Tt s1 (Tt A1 Q4)
 refine BJ 3 15 d1 rfl rfl .plain (AH (news:=[.bool y1.fc,M0]) p4 .hd rfl rfl rfl rfl rfl rfl (o2 rfl (AR (Ao s2 G2)))) fun I6 M1 Z2=>AM (dk d1)<|Al rfl<|Ap hb0 Tryz.func167 rfl (.cons (.many (cs:=[.bool Y0.fc,E0]) (by kernel_rfl) rfl (M1.memA .t1)) (.cons (.many (cs:=[.bool y1.fc,M0]) (by kernel_rfl) rfl (M1.memA .hd)) .nil)) rfl ?_
 cases h
 exact ⟨M1.ag,fun w9 hw9=>⟨E0,M0,rfl,M1.kd (Ao C1 (Tt G2 Z2)) hw9,M1.kd (Ao s2 (Tt G2 Z2)) hw9⟩⟩
 intro P2
 refine Bn [1,2] (rk d1) ⟨?_,?_,trivial⟩
 refine Bq (m' :=3) (sk d1) rfl .plain rfl (AK rfl (x0.memA .hd)) ?_
 have j5:=Ao C1 (Tt s1 A1)
 refine BJ 2 7 d1 rfl rfl .plain (AH (news:=[.bool Y0.fc,E0]) x0 .t3 rfl rfl rfl rfl rfl rfl (o2 rfl (AR j5))) fun D5 k2 D2=>?_
 obtain ⟨q4,R4⟩:=AI k2 (.a2 (.a2 .done))
 exact P2 () q4 (Tt D2 R4)
 refine RO.now (m' :=5) (sk d1) rfl rfl .plain (AH (news:=[.bool Y0.fc,E0]) x0 .t3 rfl rfl rfl rfl rfl rfl (o2 rfl (AR (Ao C1 (Tt s1 A1))))) fun D5 k2 D2=>Rx 1 8 d1 rfl K3 (AK rfl (k2.memA .hd)) ?_
 obtain ⟨s4,U4⟩:=AI k2 (.a2 (.a2 .done))
 exact P2 () s4 (Tt D2 U4)
 intro v0
 refine Bn [6,11,12] (rk b0) ⟨?_,?_,?_,trivial⟩
 refine RO.call (m' :=1023) (fst:=[]) (cap:=[]) (sk b0) rfl .plain (bd 161) rfl (e2 rfl rfl) (fun w9 hw9=>ab_c n (Z0.hL hL hw9) (Ar R1 hw9) U1) rfl fun G6 j6 c5 ⟨G1,hu_,D1⟩=>?_
 subst hu_
 obtain ⟨g2,z0⟩:=Z0.agr c5
 refine Bn [10,11,12] (rk b0) ⟨?_,?_,?_,trivial⟩
 have v1:=Ao B0 z0
 refine RO.call (m' :=2047) (fst:=[]) (cap:=[]) (sk b0) rfl .plain (bd 161) rfl (e2 rfl rfl) (fun w9 hw9=>ab_c n (g2.hL hL hw9) (Ar v1 hw9) D0) rfl fun y2 x2 Q0 ⟨P0,hu_,K0⟩=>?_
 subst hu_
 obtain ⟨I0,J0⟩:=g2.agr Q0
 refine Bn [11,12] (rk b0) ⟨?_,?_,trivial⟩
 refine BI (m' :=4095) (sk b0) rfl .plain rfl (AC [.bool false,vN] I0) fun j1 p0 j0 d0=>BS 12 8191 b0 rfl .plain rfl (AC [.bool false,vN] j0) fun g1 k0 g0 c0=>?_
 obtain ⟨u4,b3⟩:=AI g0 (.a0 (.a0 (.a0 (.a0 (.a0 .done)))))
 have y3:=Tt J0 (Tt d0 (Tt c0 b3))
 exact v0 (G1,P0,k0,p0) u4 (Tt z0 y3) ⟨(Ao D1 y3),(Ao K0 (Tt d0 (Tt c0 b3)))⟩
 refine BI (m' :=6143) (sk b0) rfl .plain rfl (AC [.bool false,vN] I0) fun g1 k0 g0 c0=>BS 11 8191 b0 rfl .plain rfl (AC [.bool false,vN] g0) fun j1 p0 j0 d0=>?_
 obtain ⟨v4,c3⟩:=AI j0 (.a1 (.a0 (.a0 (.a0 (.a0 .done)))))
 have z3:=Tt J0 (Tt c0 (Tt d0 c3))
 exact v0 (G1,P0,k0,p0) v4 (Tt z0 z3) ⟨(Ao D1 z3),(Ao K0 (Tt c0 (Tt d0 c3)))⟩
 refine BI (m' :=3071) (sk b0) rfl .plain rfl (AC [.bool false,vN] g2) fun j1 p0 j0 d0=>Bn [10,12] (rk b0) ⟨?_,?_,trivial⟩
 have v1:=Ao B0 (Tt z0 d0)
 refine RO.call (m' :=4095) (fst:=[]) (cap:=[]) (sk b0) rfl .plain (bd 161) rfl (e2 rfl rfl) (fun w9 hw9=>ab_c n (j0.hL hL hw9) (Ar v1 hw9) D0) rfl fun y2 x2 Q0 ⟨P0,hu_,K0⟩=>?_
 subst hu_
 obtain ⟨I0,J0⟩:=j0.agr Q0
 refine BS 12 8191 b0 rfl .plain rfl (AC [.bool false,vN] I0) fun g1 k0 g0 c0=>?_
 obtain ⟨x4,d3⟩:=AI g0 (.a0 (.a0 (.a0 (.a0 (.a0 .done)))))
 have A3:=Tt d0 (Tt J0 (Tt c0 d3))
 exact v0 (G1,P0,k0,p0) x4 (Tt z0 A3) ⟨(Ao D1 A3),(Ao K0 (Tt c0 d3))⟩
 refine BI (m' :=7167) (sk b0) rfl .plain rfl (AC [.bool false,vN] j0) fun g1 k0 g0 c0=>?_
 have u0:=Tt z0 (Tt d0 c0)
 have R0:=Ao B0 u0
 refine BB 10 8191 b0 rfl .plain (bd 161) rfl (e2 rfl rfl) (fun w9 hw9=>ab_c n (g0.hL hL hw9) (Ar R0 hw9) D0) rfl fun Y1 X1 A0 ⟨F0,hu_,C0⟩=>?_
 subst hu_
 obtain ⟨y0,t0⟩:=g0.agr A0
 obtain ⟨y4,g3⟩:=AI y0 (.a0 (.a0 (.a0 (.a0 (.a0 .done)))))
 have B3:=Tt d0 (Tt c0 (Tt t0 g3))
 exact v0 (G1,F0,k0,p0) y4 (Tt z0 B3) ⟨(Ao D1 B3),(Ao C0 g3)⟩
 refine BI (m' :=5119) (sk b0) rfl .plain rfl (AC [.bool false,vN] g2) fun g1 k0 g0 c0=>Bn [10,11] (rk b0) ⟨?_,?_,trivial⟩
 have v1:=Ao B0 (Tt z0 c0)
 refine RO.call (m' :=6143) (fst:=[]) (cap:=[]) (sk b0) rfl .plain (bd 161) rfl (e2 rfl rfl) (fun w9 hw9=>ab_c n (g0.hL hL hw9) (Ar v1 hw9) D0) rfl fun y2 x2 Q0 ⟨P0,hu_,K0⟩=>?_
 subst hu_
 obtain ⟨I0,J0⟩:=g0.agr Q0
 refine BS 11 8191 b0 rfl .plain rfl (AC [.bool false,vN] I0) fun j1 p0 j0 d0=>?_
 obtain ⟨z4,j3⟩:=AI j0 (.a1 (.a0 (.a0 (.a0 (.a0 .done)))))
 have C3:=Tt c0 (Tt J0 (Tt d0 j3))
 exact v0 (G1,P0,k0,p0) z4 (Tt z0 C3) ⟨(Ao D1 C3),(Ao K0 (Tt d0 j3))⟩
 refine BI (m' :=7167) (sk b0) rfl .plain rfl (AC [.bool false,vN] g0) fun j1 p0 j0 d0=>?_
 have u0:=Tt z0 (Tt c0 d0)
 have R0:=Ao B0 u0
 refine BB 10 8191 b0 rfl .plain (bd 161) rfl (e2 rfl rfl) (fun w9 hw9=>ab_c n (j0.hL hL hw9) (Ar R0 hw9) D0) rfl fun Y1 X1 A0 ⟨F0,hu_,C0⟩=>?_
 subst hu_
 obtain ⟨y0,t0⟩:=j0.agr A0
 obtain ⟨A4,k3⟩:=AI y0 (.a1 (.a0 (.a0 (.a0 (.a0 .done)))))
 have D3:=Tt c0 (Tt d0 (Tt t0 k3))
 exact v0 (G1,F0,k0,p0) A4 (Tt z0 D3) ⟨(Ao D1 D3),(Ao C0 k3)⟩
 refine BI (m' :=3007) (sk b0) rfl .plain rfl (AC [.bool false,vN] Z0) fun j1 p0 j0 d0=>Bn [6,12] (rk b0) ⟨?_,?_,trivial⟩
 have P1:=Ao R1 d0
 refine RO.call (m' :=3071) (fst:=[]) (cap:=[]) (sk b0) rfl .plain (bd 161) rfl (e2 rfl rfl) (fun w9 hw9=>ab_c n (j0.hL hL hw9) (Ar P1 hw9) U1) rfl fun I2 H2 u1 ⟨X0,hu_,U0⟩=>?_
 subst hu_
 obtain ⟨q0,s0⟩:=j0.agr u1
 refine Bn [10,12] (rk b0) ⟨?_,?_,trivial⟩
 have v1:=Ao B0 (Tt d0 s0)
 refine RO.call (m' :=4095) (fst:=[]) (cap:=[]) (sk b0) rfl .plain (bd 161) rfl (e2 rfl rfl) (fun w9 hw9=>ab_c n (q0.hL hL hw9) (Ar v1 hw9) D0) rfl fun y2 x2 Q0 ⟨P0,hu_,K0⟩=>?_
 subst hu_
 obtain ⟨I0,J0⟩:=q0.agr Q0
 refine BS 12 8191 b0 rfl .plain rfl (AC [.bool false,vN] I0) fun g1 k0 g0 c0=>?_
 obtain ⟨B4,p3⟩:=AI g0 (.a0 (.a0 (.a0 (.a0 (.a0 .done)))))
 have E3:=Tt J0 (Tt c0 p3)
 exact v0 (X0,P0,k0,p0) B4 (Tt d0 (Tt s0 E3)) ⟨(Ao U0 E3),(Ao K0 (Tt c0 p3))⟩
 refine BI (m' :=7167) (sk b0) rfl .plain rfl (AC [.bool false,vN] q0) fun g1 k0 g0 c0=>?_
 have u0:=Tt d0 (Tt s0 c0)
 have R0:=Ao B0 u0
 refine BB 10 8191 b0 rfl .plain (bd 161) rfl (e2 rfl rfl) (fun w9 hw9=>ab_c n (g0.hL hL hw9) (Ar R0 hw9) D0) rfl fun Y1 X1 A0 ⟨F0,hu_,C0⟩=>?_
 subst hu_
 obtain ⟨y0,t0⟩:=g0.agr A0
 obtain ⟨C4,q3⟩:=AI y0 (.a0 (.a0 (.a0 (.a0 (.a0 .done)))))
 have F3:=Tt c0 (Tt t0 q3)
 exact v0 (X0,F0,k0,p0) C4 (Tt d0 (Tt s0 F3)) ⟨(Ao U0 F3),(Ao C0 q3)⟩
 refine BI (m' :=7103) (sk b0) rfl .plain rfl (AC [.bool false,vN] j0) fun g1 k0 g0 c0=>?_
 have P1:=Ao R1 (Tt d0 c0)
 refine BB 6 7167 b0 rfl .plain (bd 161) rfl (e2 rfl rfl) (fun w9 hw9=>ab_c n (g0.hL hL hw9) (Ar P1 hw9) U1) rfl fun I2 H2 u1 ⟨X0,hu_,U0⟩=>?_
 subst hu_
 obtain ⟨q0,s0⟩:=g0.agr u1
 have u0:=Tt d0 (Tt c0 s0)
 have R0:=Ao B0 u0
 refine BB 10 8191 b0 rfl .plain (bd 161) rfl (e2 rfl rfl) (fun w9 hw9=>ab_c n (q0.hL hL hw9) (Ar R0 hw9) D0) rfl fun Y1 X1 A0 ⟨F0,hu_,C0⟩=>?_
 subst hu_
 obtain ⟨y0,t0⟩:=q0.agr A0
 obtain ⟨D4,E2⟩:=AI y0 (.a0 (.a0 (.a0 (.a0 (.a0 .done)))))
 exact v0 (X0,F0,k0,p0) D4 (Tt u0 (Tt t0 E2)) ⟨(Ao U0 (Tt t0 E2)),(Ao C0 E2)⟩
 refine BI (m' :=5055) (sk b0) rfl .plain rfl (AC [.bool false,vN] Z0) fun g1 k0 g0 c0=>Bn [6,11] (rk b0) ⟨?_,?_,trivial⟩
 have P1:=Ao R1 c0
 refine RO.call (m' :=5119) (fst:=[]) (cap:=[]) (sk b0) rfl .plain (bd 161) rfl (e2 rfl rfl) (fun w9 hw9=>ab_c n (g0.hL hL hw9) (Ar P1 hw9) U1) rfl fun I2 H2 u1 ⟨X0,hu_,U0⟩=>?_
 subst hu_
 obtain ⟨q0,s0⟩:=g0.agr u1
 refine Bn [10,11] (rk b0) ⟨?_,?_,trivial⟩
 refine RO.call (m' :=6143) (fst:=[]) (cap:=[]) (sk b0) rfl .plain (bd 161) rfl (e2 rfl rfl) (fun w9 hw9=>ab_c n (q0.hL hL hw9) (Ar (Ao B0 (Tt c0 s0)) hw9) D0) rfl fun y2 x2 Q0 ⟨P0,hu_,K0⟩=>?_
 subst hu_
 obtain ⟨I0,J0⟩:=q0.agr Q0
 refine BS 11 8191 b0 rfl .plain rfl (AC [.bool false,vN] I0) fun j1 p0 j0 d0=>?_
 obtain ⟨E4,s3⟩:=AI j0 (.a1 (.a0 (.a0 (.a0 (.a0 .done)))))
 have G3:=Tt J0 (Tt d0 s3)
 exact v0 (X0,P0,k0,p0) E4 (Tt c0 (Tt s0 G3)) ⟨(Ao U0 G3),(Ao K0 (Tt d0 s3))⟩
 refine BI (m' :=7167) (sk b0) rfl .plain rfl (AC [.bool false,vN] q0) fun j1 p0 j0 d0=>?_
 have u0:=Tt c0 (Tt s0 d0)
 have R0:=Ao B0 u0
 refine BB 10 8191 b0 rfl .plain (bd 161) rfl (e2 rfl rfl) (fun w9 hw9=>ab_c n (j0.hL hL hw9) (Ar R0 hw9) D0) rfl fun Y1 X1 A0 ⟨F0,hu_,C0⟩=>?_
 subst hu_
 obtain ⟨y0,t0⟩:=j0.agr A0
 obtain ⟨F4,u3⟩:=AI y0 (.a1 (.a0 (.a0 (.a0 (.a0 .done)))))
 have H3:=Tt d0 (Tt t0 u3)
 exact v0 (X0,F0,k0,p0) F4 (Tt c0 (Tt s0 H3)) ⟨(Ao U0 H3),(Ao C0 u3)⟩
 refine BI (m' :=7103) (sk b0) rfl .plain rfl (AC [.bool false,vN] g0) fun j1 p0 j0 d0=>BB 6 7167 b0 rfl .plain (bd 161) rfl (e2 rfl rfl) (fun w9 hw9=>ab_c n (j0.hL hL hw9) (Ar (Ao R1 (Tt c0 d0)) hw9) U1) rfl fun I2 H2 u1 ⟨X0,hu_,U0⟩=>?_
 subst hu_
 obtain ⟨q0,s0⟩:=j0.agr u1
 have u0:=Tt c0 (Tt d0 s0)
 refine BB 10 8191 b0 rfl .plain (bd 161) rfl (e2 rfl rfl) (fun w9 hw9=>ab_c n (q0.hL hL hw9) (Ar (Ao B0 u0) hw9) D0) rfl fun Y1 X1 A0 ⟨F0,hu_,C0⟩=>?_
 subst hu_
 obtain ⟨y0,t0⟩:=q0.agr A0
 obtain ⟨G4,F2⟩:=AI y0 (.a1 (.a0 (.a0 (.a0 (.a0 .done)))))
 exact v0 (X0,F0,k0,p0) G4 (Tt u0 (Tt t0 F2)) ⟨(Ao U0 (Tt t0 F2)),(Ao C0 F2)⟩
def bN_p (n:Nat) (a0:Td) (a1:Td):Option Tm:=
  (aS_p n a0 a1).bind fun b0=>jn (fun (d0,g0)=>(bh_p n a0 (⟨d0,g0⟩:Td)).bind fun k0=>(bh_p n a1 (⟨d0,g0⟩:Td)).bind fun p0=>some (⟨k0.1,p0.1⟩:Tm)) (fun c0=>(if a1.fc = true then (bR_p n b0).bind fun j0=>c0 (j0.fc,j0.fD) else c0 (b0.fc,b0.fD)))
theorem bN_c (n:Nat) {L w} (hL:hl L w) (a0:Td) {v0_1:Value} (h0_1:Rep.R w L [v0_1] a0.fD) (a1:Td) {v1_1:Value} (h1_1:Rep.R w L [v1_1] a1.fD)  {r:Tm} (h:bN_p n a0 a1 = some r) :
 Cl 138 #[.agg #[.bool a0.fc,v0_1],.agg #[.bool a1.fc,v1_1]] w (Gives w fun w' u=>∃ v0_1 v0_3:Value,u = .agg #[.bool r.fN.fc,v0_1,.bool r.fD.fc,v0_3]/\Rep.R w' L [v0_1] r.fN.fD/\Rep.R w' L [v0_3] r.fD.fD):=by
 unfold bN_p at h
 refine AF Tryz.func138 rfl rfl rfl fun _ cs0 hb0=>Ac<|RG.bx (AB w) rfl rfl fun M2 y0 z1 B2=>RG.bx z1 rfl rfl fun X2 z0 C1 C2=>RG.nl [.bool false,vN,.bool false,vN] C1 fun Y2 A0 g0 D2=>Aa<|Ac<|Ab (AK rfl (g0.memA .t2))<|Ab (AK rfl (g0.memA .t1))<|bk h fun x0 c2 h=>AZ (fst:=[]) (cap:=[]) .plain (bd 130) rfl (e2 rfl rfl) (fun w9 hw9=>aS_c n (g0.hL hL hw9) a0 (g0.km h0_1 hw9) a1 (g0.km h1_1 hw9) c2) rfl fun Z2 H2 R1 ⟨q1,hu_,M0⟩=>?_
 subst hu_
 obtain ⟨D1,E2⟩:=g0.agr R1
 refine RG.nl [.bool false,vN] D1 fun b3 B0 E1 G0=>AQ [.bool x0.fc,q1] E1 .hd (o2 rfl (AR (Ao M0 G0))) fun c3 j0 X0=>Aa<|Aj<|Ac<|AV 0 rfl<|AP rfl ((j0.memA .t2) 0 _ rfl)<|Aa<|MX.jf (α:=Bool × (List Int) × Value) (fun ⟨b0,c0,d0⟩=>[(2,vP y0),(3,vP z0),(4,vP A0),(5,vP B0)]) (fun ⟨b0,c0,d0⟩=>[.cells B0 [.bool b0,d0] 134,.cells A0 [.bool false,vN,.bool false,vN] 136,.cells z0 [.bool a1.fc,v1_1] 134,.cells y0 [.bool a0.fc,v0_1] 134]) (fun ⟨b0,c0,d0⟩ s1=>Rep.R s1 (bl [.cells B0 [.bool b0,d0] 134,.cells A0 [.bool false,vN,.bool false,vN] 136,.cells z0 [.bool a1.fc,v1_1] 134,.cells y0 [.bool a0.fc,v0_1] 134] ++ L) [d0] c0) (fun ⟨b0,c0,d0⟩=>(b0,c0)) j0 h ?_ ?_
 rintro ⟨b0,c0,d0⟩ s1 t0 F2 k1 h
 try dsimp only at h
 refine Ac<|Ab (AK rfl (t0.memA .t3))<|Ab (AK rfl (t0.memA .hd))<|bk h fun q0 d2 h=>AZ (fst:=[]) (cap:=[]) .plain (bd 167) rfl (e2 rfl rfl) (fun w9 hw9=>bh_c n (t0.hL hL hw9) a0 (t0.km h0_1 hw9) (⟨b0,c0⟩:Td) (Ar k1 hw9) d2) rfl fun d3 I2 U1 ⟨p0,k2,hu_,P0,X1⟩=>?_
 subst hu_
 obtain ⟨F1,P1⟩:=t0.agr U1
 refine Ae rfl<|Ab (Ah rfl rfl)<|Ab (Ah rfl rfl)<|RG.nl [.bool false,vN] F1 fun g3 x2 G1 H0=>RG.nl [.bool false,vN] G1 fun j3 y2 H1 I0=>AQ [.bool q0.1.fc,p0] H1 .t1 (o2 rfl (AR (Ao P0 (Tt H0 I0)))) fun k3 I1 Y0=>?_
 have g1:=Tt H0 (Tt I0 Y0)
 refine AQ [.bool q0.2.fc,k2] I1 .hd (o2 rfl (AR (Ao X1 g1))) fun p3 u0 Z0=>Aa<|Ac<|Ab (AK rfl (u0.memA .t4))<|Ab (AK rfl (u0.memA .t2))<|bk h fun s0 g2 h=>AZ (fst:=[]) (cap:=[]) .plain (bd 167) rfl (e2 rfl rfl) (fun w9 hw9=>bh_c n (u0.hL hL hw9) a1 (u0.km h1_1 hw9) (⟨b0,c0⟩:Td) (Ar (Ao k1 (Tt P1 (Tt H0 (Tt I0 (Tt Y0 Z0))))) hw9) g2) rfl fun q3 J2 V1 ⟨k0,j2,hu_,K0,W1⟩=>?_
 subst hu_
 obtain ⟨J1,K1⟩:=u0.agr V1
 refine Ae rfl<|Ab (Ah rfl rfl)<|Ab (Ah rfl rfl)<|RG.nl [.bool false,vN] J1 fun K2 u2 v1 D0=>RG.nl [.bool false,vN] v1 fun P2 v2 x1 E0=>AQ [.bool s0.1.fc,k0] x1 .t1 (o2 rfl (AR (Ao K0 (Tt D0 E0)))) fun Q2 y1 U0=>?_
 have J0:=Tt D0 (Tt E0 U0)
 refine AQ [.bool s0.2.fc,j2] y1 .hd (o2 rfl (AR (Ao W1 J0))) fun R2 C0 F0=>Aa<|Ac<|Ab (AK rfl (C0.memA .t3))<|Ab (AK rfl (C0.memA .t1)) ?_
 have d1:=Tt g1 (Tt Z0 (Tt K1 (Tt D0 (Tt E0 (Tt U0 F0)))))
 have b1:=Ao P0 d1
 obtain ⟨p2,z2,Y1,_⟩:=BV b1
 have c1:=Ao K0 (Tt J0 F0)
 obtain ⟨q2,A2,Z1,_⟩:=BV c1
 refine Ab (AX (vs:=[.agg #[.bool q0.1.fc,p0],.agg #[.bool s0.1.fc,k0]]) (u:=.agg #[.bool q0.1.fc,p0,.bool s0.1.fc,k0]) (e2 rfl rfl) (fun w9=>by rw [Y1,Z1]; try kernel_rfl))<|AQ [.bool q0.1.fc,p0,.bool s0.1.fc,k0] C0 .t5 (o4 rfl (AR b1) rfl (AR c1)) fun U2 v0 V0=>Aa<|Al rfl<|Ap hb0 Tryz.func138 rfl (.cons (.many (cs:=[.bool q0.1.fc,p0,.bool s0.1.fc,k0]) (by kernel_rfl) rfl (v0.memA .t5)) .nil) rfl ?_
 cases h
 exact ⟨v0.ag,fun w9 hw9=>⟨p0,k0,rfl,v0.kd (Ao P0 (Tt d1 V0)) hw9,v0.kd (Ao K0 (Tt J0 (Tt F0 V0))) hw9⟩⟩
 intro s2 R0 h
 try dsimp only at h
 refine MX.ifb rfl h (fun u1 h=>?_) (fun u1 h=>?_)
 refine Av<|Ab (AK rfl (j0.memA .hd))<|bk h fun Q0 b2 h=>AZ (fst:=[]) (cap:=[]) .plain (bd 136) rfl (e1 rfl) (fun w9 hw9=>bR_c n (j0.hL hL hw9) x0 (Ar (Ao M0 (Tt G0 X0)) hw9) b2) rfl fun V2 G2 Q1 ⟨p1,hu_,j1⟩=>?_
 subst hu_
 obtain ⟨A1,M1⟩:=j0.agr Q1
 refine AQ [.bool Q0.fc,p1] A1 .hd (o2 rfl (AR j1)) fun W2 B1 W0=>Aa<|R0 (Q0.fc,Q0.fD,p1) B1 (Tt M1 W0) (Ao j1 W0) h
 refine Aq<|R0 (x0.fc,x0.fD,q1) j0 (Bv _ _) (Ao M0 (Tt G0 X0)) h
def ct_p (n:Nat) (a0:Int) (a1:Int):Option Tm:=
  (aT_p n a0).bind fun b0=>(aT_p n a1).bind fun c0=>(bN_p n b0 c0).bind fun d0=>some d0
theorem ct_c (n:Nat) {L w} (hL:hl L w) {a0:Int} {a1:Int}  {r:Tm} (h:ct_p n a0 a1 = some r) :
 Cl 115 #[vI a0,vI a1] w (Gives w fun w' u=>∃ v0_1 v0_3:Value,u = .agg #[.bool r.fN.fc,v0_1,.bool r.fD.fc,v0_3]/\Rep.R w' L [v0_1] r.fN.fD/\Rep.R w' L [v0_3] r.fD.fD):=by
 unfold ct_p at h
 refine AF Tryz.func115 rfl rfl rfl fun _ cs0 hb0=>Ac<|RG.nl [.bool false,vN,.bool false,vN] (AB w) fun V0 H0 j0 I0=>Aa<|Ac<|Ae rfl<|bk h fun F0 C0 h=>AZ (fst:=[]) (cap:=[]) .plain (bd 152) rfl (e1 rfl) (fun w9 hw9=>aT_c n (j0.hL hL hw9)  C0) rfl fun W0 Q0 x0 ⟨M0,hu_,A0⟩=>?_
 subst hu_
 obtain ⟨k0,J0⟩:=j0.agr x0
 refine Ae rfl<|bk h fun G0 D0 h=>AZ (fst:=[]) (cap:=[]) .plain (bd 152) rfl (e1 rfl) (fun w9 hw9=>aT_c n (k0.hL hL hw9)  D0) rfl fun X0 R0 y0 ⟨P0,hu_,B0⟩=>?_
 subst hu_
 obtain ⟨p0,v0⟩:=k0.agr y0
 refine bk h fun c0 E0 h=>AZ (fst:=[]) (cap:=[]) .plain (bd 138) rfl (e2 rfl rfl) (fun w9 hw9=>bN_c n (p0.hL hL hw9) F0 (Ar (Ao A0 v0) hw9) G0 (Ar B0 hw9) E0) rfl fun Y0 U0 z0 ⟨d0,g0,hu_,s0,t0⟩=>?_
 subst hu_
 obtain ⟨u0,K0⟩:=p0.agr z0
 refine AQ [.bool c0.fN.fc,d0,.bool c0.fD.fc,g0] u0 .hd (o4 rfl (AR s0) rfl (AR t0)) fun Z0 b0 q0=>Aa<|Al rfl<|Ap hb0 Tryz.func115 rfl (.cons (.many (cs:=[.bool c0.fN.fc,d0,.bool c0.fD.fc,g0]) (by kernel_rfl) rfl (b0.memA .hd)) .nil) rfl ?_
 cases h
 exact ⟨b0.ag,fun w9 hw9=>⟨d0,g0,rfl,b0.kd (Ao s0 q0) hw9,b0.kd (Ao t0 q0) hw9⟩⟩
def cG_p (n:Nat) (a0:Int) (a1:Int):Option (Ta × Int):=
  (if a1 = 0 then some ((⟨((0:UInt64),(0:UInt64),(0:UInt64),(0:UInt64),(0:UInt64),(0:UInt64),(0:UInt64),(0:UInt64)),((0:UInt64),(0:UInt64),(0:UInt64),(0:UInt64),(0:UInt64),(0:UInt64),(0:UInt64),(0:UInt64))⟩:Ta),(7:Int)) else (ct_p n a0 a1).bind fun c0=>(cq_p n c0).bind fun b0=>some (b0.1,b0.2))
theorem cG_c (n:Nat) {L w} (hL:hl L w) {a0:Int} {a1:Int}  {r:Ta × Int} (h:cG_p n a0 a1 = some r) :
 Cl 77 #[vI a0,vI a1] w (Gives w fun _ u=>u = .tuple #[.agg ((cs_Ta r.1)).toArray,vI r.2]):=by
 unfold cG_p at h
 refine AF Tryz.func77 rfl rfl rfl fun _ cs0 hb0=>Ac<|RG.nl zL (AB w) fun F0 x0 d0 y0=>Af rfl<|Aa<|Aj<|Ac<|Ae rfl<|Ab (FV.eql (i:=a1) (j:=0) rfl rfl)<|Aa<|AS rfl h (fun k0 h=>?_) (fun k0 h=>?_)
 refine Ac<|Ab (AX (vs:=[]) (u:=.agg zM) evs_nil (fun w9=>by kernel_rfl))<|AQ zL d0 .hd (onesB rfl) fun G0 g0 z0=>Af rfl<|Aa<|Al rfl<|Ap hb0 Tryz.func77 rfl (.cons (.many (cs:=zL) (by kernel_rfl) rfl (g0.memA .hd)) (.cons (.tmp rfl) .nil)) rfl ?_
 cases h
 exact g0.gv
 refine Aq<|Ac<|Ae rfl<|Ae rfl<|bk h fun v0 t0 h=>AZ (fst:=[]) (cap:=[]) .plain (bd 115) rfl (e2 rfl rfl) (fun w9 hw9=>ct_c n (d0.hL hL hw9)  t0) rfl fun H0 E0 p0 ⟨C0,D0,hu_,q0,s0⟩=>?_
 subst hu_
 obtain ⟨b0,A0⟩:=d0.agr p0
 refine bk h fun c0 u0 h=>Bi (.tuple #[.agg ((cs_Ta c0.1)).toArray,vI c0.2]) (bd 92) rfl (e1 rfl) (fun w9 hw9=>cq_c n (b0.hL0 hL hw9) v0 (b0.kd q0 hw9) (b0.kd s0 hw9) u0) rfl<|Ab (Ah rfl rfl)<|Ab (Ah rfl rfl)<|AQ (cs_Ta c0.1) b0 .hd (onesB rfl) fun I0 j0 B0=>Af rfl<|Aa<|Al rfl<|Ap hb0 Tryz.func77 rfl (.cons (.many (cs:=(cs_Ta c0.1)) (by kernel_rfl) rfl (j0.memA .hd)) (.cons (.tmp rfl) .nil)) rfl ?_
 cases h
 exact j0.gv
def bI_p (n:Nat) (a0:Int) (a1:Int):Option Ta:=
  (cG_p n a0 a1).bind fun b0=>some b0.1
theorem bI_c (n:Nat) {L w} (hL:hl L w) {a0:Int} {a1:Int}  {r:Ta} (h:bI_p n a0 a1 = some r) :
 Cl 35 #[vI a0,vI a1] w (Gives w fun _ u=>u = .agg ((cs_Ta r)).toArray):=by
 unfold bI_p at h
 refine AF Tryz.func35 rfl rfl rfl fun _ cs0 hb0=>Ac<|RG.nl zL (AB w) fun x0 p0 c0 s0=>Aa<|Ac<|Ae rfl<|Ae rfl<|bk h fun b0 k0 h=>Bi (.tuple #[.agg ((cs_Ta b0.1)).toArray,vI b0.2]) (bd 77) rfl (e2 rfl rfl) (fun w9 hw9=>cG_c n (c0.hL0 hL hw9)  k0) rfl<|Ae rfl<|Ab (Ah rfl rfl)<|Ab (Ah rfl rfl)<|RG.nl zL c0 fun y0 q0 j0 t0=>AQ (cs_Ta b0.1) j0 .hd (onesB rfl) fun z0 d0 u0=>Af rfl<|Aa<|Ac<|Ab (AK rfl (d0.memA .hd))<|AQ (cs_Ta b0.1) d0 .t1 (onesB rfl) fun A0 g0 v0=>Aa<|Al rfl<|Ap hb0 Tryz.func35 rfl (.cons (.many (cs:=(cs_Ta b0.1)) (by kernel_rfl) rfl (g0.memA .t1)) .nil) rfl ?_
 cases h
 exact g0.gv
def ay_l1 (n:Nat) (a0:Tc) (d0:Int × Int -> Option Int):Int × Int -> Option Int
  | (c0,b0)=>(bC_p n a0).bind fun p0=>(if b0 < p0 then (idx a0.fo b0).bind fun k0=>(chk (c0 + k0.fv)).bind fun g0=>(chk (b0 + 1)).bind fun j0=>d0 (g0,j0) else some c0)
def ay_p (n:Nat) (a0:Tc):Option Int:=
  Option.bind (loopF (ay_l1 n a0) n (0,0)) (fun b0=>some b0)
theorem ay_c (n:Nat) {L w} (hL:hl L w) (a0:Tc) {v0_3:Value} (h0_3:Rep.R w L [v0_3] a0.fo)  {r:Int} (h:ay_p n a0 = some r) :
 Cl 56 #[.agg #[vI a0.fe,vI a0.fh,vI a0.fj,v0_3]] w (Gives w fun _ u=>u = vI r):=by
 unfold ay_p at h
 refine AF Tryz.func56 rfl rfl rfl fun _ cs0 hb0=>Ac<|RG.bx (AB w) rfl rfl fun c1 g0 s0 R0=>Af rfl<|Aa<|Ac<|Af rfl<|Aa<|Aj<|Ac<|Af rfl<|Aa<|Ay ?_
 obtain ⟨X0,A0,v0⟩:=bind_in2 h
 refine MX.lo (α:=Int × Int) (fun ⟨d0,b0⟩=>[(1,vP g0),(3,vI d0),(4,vI b0)]) (fun ⟨d0,b0⟩=>[.cells g0 [vI a0.fe,vI a0.fh,vI a0.fj,v0_3] 44]) (fun ⟨d0,b0⟩=>(d0,b0)) (0,0) A0 s0 ?_
 rintro M0 ⟨d0,b0⟩ d1 q0 c0 t0 h
 unfold ay_l1 at h
 try dsimp only at h
 refine Aj<|Ac<|Ae rfl<|Ab (AK rfl (c0.memA .hd))<|bk h fun j0 G0 h=>Bi (vI j0) (bd 60) rfl (e1 rfl) (fun w9 hw9=>bC_c n (c0.hL0 hL hw9) a0 (c0.k0 h0_3 hw9) G0) rfl<|Ab (BR (i:=b0) (j:=j0) rfl rfl)<|Aa<|AS rfl h (fun p0 h=>?_) (fun p0 h=>?_)
 refine Aq<|Aj<|Ay<|Av<|Ae rfl<|AV 3 rfl<|AP rfl ((c0.memA .hd) 3 _ rfl)<|Ae rfl<|bk h fun J0 E0 h=>?_
 obtain ⟨x0,F0⟩:=idx_in E0
 obtain ⟨K0,P0,u0,y0,Q0,B0,z0⟩:=Bl (AO h0_3 c0) F0
 obtain ⟨Y0,Z0,b1,rfl,U0,V0,W0⟩:=op_Tb B0
 refine Ab (Bm 6 (b0.toNat) rfl u0 rfl x0 y0)<|AV 1 rfl<|AP rfl (z0 1 _ rfl)<|bk h fun H0 C0 h=>Ab (BL (i:=d0) (j:=J0.fv) rfl rfl C0)<|Af rfl<|Aa<|AA<|Av<|Ae rfl<|bk h fun I0 D0 h=>Ab (BL (i:=b0) (j:=1) rfl rfl D0)<|Af rfl<|Aa<|q0 (H0,I0) c0 t0 h
 refine Ba rfl ?_
 have h:=v0 _ h
 try dsimp only at h
 refine Ac<|Ae rfl<|Af rfl<|Aa<|Al rfl<|AT hb0 Tryz.func56 rfl rfl ?_
 cases h
 exact c0.gv
def bE_p (n:Nat) (a0:Tc) (a1:Int):Option (Ta × Int):=
  (aV_p n a0 a1).bind fun b0=>(if b0 = 0 then (ay_p n a0).bind fun c0=>(bI_p n c0 a1).bind fun d0=>some (d0,(0:Int)) else some ((⟨((0:UInt64),(0:UInt64),(0:UInt64),(0:UInt64),(0:UInt64),(0:UInt64),(0:UInt64),(0:UInt64)),((0:UInt64),(0:UInt64),(0:UInt64),(0:UInt64),(0:UInt64),(0:UInt64),(0:UInt64),(0:UInt64))⟩:Ta),b0))
theorem bE_c (n:Nat) {L w} (hL:hl L w) (a0:Tc) {v0_3:Value} (h0_3:Rep.R w L [v0_3] a0.fo) {a1:Int}  {r:Ta × Int} (h:bE_p n a0 a1 = some r) :
 Cl 16 #[.agg #[vI a0.fe,vI a0.fh,vI a0.fj,v0_3],vI a1] w (Gives w fun _ u=>u = .tuple #[.agg ((cs_Ta r.1)).toArray,vI r.2]):=by
 unfold bE_p at h
 refine AF Tryz.func16 rfl rfl rfl fun _ cs0 hb0=>Ac<|RG.bx (AB w) rfl rfl fun D0 x0 q0 z0=>RG.nl zL q0 fun E0 y0 b0 A0=>Af rfl<|Aa<|Aj<|Ac<|Ab (AK rfl (b0.memA .t1))<|Ae rfl<|bk h fun j0 s0 h=>Bi (vI j0) (bd 55) rfl (e2 rfl rfl) (fun w9 hw9=>aV_c n (b0.hL0 hL hw9) a0 (b0.k0 h0_3 hw9) s0) rfl<|Af rfl<|Aa<|Ac<|Ae rfl<|Ab (FV.neq (i:=j0) (j:=0) rfl rfl)<|Aa<|MX.ifn rfl h (fun p0 h=>?_) (fun p0 h=>?_)
 refine Aq<|Ac<|Ab (AK rfl (b0.memA .t1))<|bk h fun v0 t0 h=>Bi (vI v0) (bd 56) rfl (e1 rfl) (fun w9 hw9=>ay_c n (b0.hL0 hL hw9) a0 (b0.k0 h0_3 hw9) t0) rfl<|Ae rfl<|bk h fun c0 u0 h=>Bi (.agg ((cs_Ta c0)).toArray) (bd 35) rfl (e2 rfl rfl) (fun w9 hw9=>bI_c n (b0.hL0 hL hw9)  u0) rfl<|AQ (cs_Ta c0) b0 .hd (onesB rfl) fun F0 d0 B0=>Af rfl<|Aa<|Al rfl<|Ap hb0 Tryz.func16 rfl (.cons (.many (cs:=(cs_Ta c0)) (by kernel_rfl) rfl (d0.memA .hd)) (.cons (.tmp rfl) .nil)) rfl ?_
 cases h
 exact d0.gv
 refine Ac<|Ab (AX (vs:=[]) (u:=.agg zM) evs_nil (fun w9=>by kernel_rfl))<|Ae rfl<|AQ zL b0 .hd (onesB rfl) fun G0 g0 C0=>Af rfl<|Aa<|Al rfl<|Ap hb0 Tryz.func16 rfl (.cons (.many (cs:=zL) (by kernel_rfl) rfl (g0.memA .hd)) (.cons (.tmp rfl) .nil)) rfl ?_
 cases h
 exact g0.gv
def cw_p (n:Nat) (a0:Tc) (a1:Int) (a2:List Int):Option (Except Tf Bool):=
  (am_p n a0 a1).bind fun y3=>exc y3 (fun d0=>(ah_p n d0 a2).bind fun g0=>exc g0 (fun _y26=>some (.ok true)) (fun c0=>some (.error c0))) (fun b0=>some (.error b0))
theorem cw_c (n:Nat) {L w} (hL:hl L w) (a0:Tc) {v0_3:Value} (h0_3:Rep.R w L [v0_3] a0.fo) {p0:Nat} (m0:∀ j9 v9,([vI a0.fe,vI a0.fh,vI a0.fj,v0_3]:List Value)[j9]? = some v9 -> w.cell? ((⟨p0,0,none⟩:Addr).add j9) = some v9) {a1:Int} {p1:Nat} (m1:∀ j9 v9,([vI a1]:List Value)[j9]? = some v9 -> w.cell? ((⟨p1,0,none⟩:Addr).add j9) = some v9) {a2:List Int} {v2_0:Value} (h2_0:Rep.R w L [v2_0] a2) {p2:Nat} (m2:∀ j9 v9,([v2_0]:List Value)[j9]? = some v9 -> w.cell? ((⟨p2,0,none⟩:Addr).add j9) = some v9)  {r:Except Tf Bool} (h:cw_p n a0 a1 a2 = some r) :
 Cl 57 #[.pointer (some ⟨p0,0,none⟩),.pointer (some ⟨p1,0,none⟩),.pointer (some ⟨p2,0,none⟩)] w (PGives w (fun (y:Bool) _ u=>u = .bool y) (fun e=>.iface 120 (.agg #[vI e.fA])) r):=by
 unfold cw_p at h
 have hS0:=AB w
 refine MX.startP Tryz.func57 rfl rfl rfl fun _ cs0 hb0 hp0=>Ac<|Af rfl<|Aa<|Aj<|du 5 fun kt1 kp2=>Rx 0 20 kt1 rfl kp2 (AK rfl (fun j9 v9 h9=>hS0.ag.cell0 (m0 j9 v9 h9)))<|Rx 1 20 kt1 rfl kp2 (AL rfl ((fun j9 v9 h9=>hS0.ag.cell0 (m1 j9 v9 h9)) 0 _ rfl))<|xk h (fun v0 hy3 h=>?_) (fun g0 hy3 h=>?_)
 refine Rx 3 16 kt1 rfl kp2 (AL rfl ((fun j9 v9 h9=>hS0.ag.cell0 (m2 j9 v9 h9)) 0 _ rfl))<|Be (i:=2) (rk kt1) (RO.callE (fst:=[]) (cap:=[]) rfl .plain (bd 38) rfl (e2 rfl rfl) (fun w9 hw9=>am_c n (hS0.hL hL hw9) a0 (Ar h0_3 hw9) hy3) (fun D0 s0=>?_))
 obtain ⟨j0,y0⟩:=hS0.agr s0
 cases h
 exact Bf hp0 Tryz.func57 ⟨j0.ag,rfl⟩
 refine Rx 3 16 kt1 rfl kp2 (AL rfl ((fun j9 v9 h9=>hS0.ag.cell0 (m2 j9 v9 h9)) 0 _ rfl))<|BB 2 15 kt1 rfl .plain (bd 38) rfl (e2 rfl rfl) (fun w9 hw9=>Bb (am_c n (hS0.hL hL hw9) a0 (Ar h0_3 hw9) hy3)) rfl fun E0 C0 t0 ⟨B0,hu_,d0⟩=>?_
 subst hu_
 obtain ⟨b0,z0⟩:=hS0.agr t0
 refine xk h (fun x0 c0 h=>?_) (fun G0 c0 h=>?_)
 refine Be (i:=4) (rk kt1) (RO.callE (fst:=[]) (cap:=[]) rfl .plain (bd 58) rfl (e2 rfl rfl) (fun w9 hw9=>ah_c n (b0.hL0 hL hw9) g0 (b0.kd d0 hw9) (b0.k0 h2_0 hw9) c0) (fun F0 u0=>?_))
 obtain ⟨q0,A0⟩:=b0.agr u0
 cases h
 exact Bf hp0 Tryz.func57 ⟨q0.ag,rfl⟩
 refine BT 4 31 0 (.tuple #[]) kt1 rfl kp2 (bd 58) rfl (e2 rfl rfl) (fun w9 hw9=>Bb (ah_c n (b0.hL0 hL hw9) g0 (b0.kd d0 hw9) (b0.k0 h2_0 hw9) c0)) rfl<|AM (dk kt1)<|Ac<|Af rfl<|Aa<|Al rfl<|AT hb0 Tryz.func57 rfl rfl ?_
 cases h
 exact ⟨b0.ag,fun w9 hw9=>okOf_in rfl⟩
def cy_p (n:Nat) (a0:Tc) (a1:List Int) (a2:Int):Option Int:=
  (cw_p n a0 a2 a1).bind fun c0=>exc c0 (fun _y41=>some (0:Int)) (fun b0=>some b0.fA)
theorem cy_c (n:Nat) {L w} (hL:hl L w) (a0:Tc) {v0_3:Value} (h0_3:Rep.R w L [v0_3] a0.fo) {a1:List Int} {v1_0:Value} (h1_0:Rep.R w L [v1_0] a1) {a2:Int}  {r:Int} (h:cy_p n a0 a1 a2 = some r) :
 Cl 17 #[.agg #[vI a0.fe,vI a0.fh,vI a0.fj,v0_3],v1_0,vI a2] w (Gives w fun _ u=>u = vI r):=by
 unfold cy_p at h
 refine AF Tryz.func17 rfl rfl rfl fun _ cs0 hb0=>Ac<|RG.bx (AB w) rfl rfl fun G1 g0 D0 x1=>RG.bx D0 rfl (Rep.c1 (AO h1_0 D0)) fun K1 j0 K0 y1=>RG.bx K0 rfl rfl fun M1 p0 M0 z1=>Af rfl<|Aa<|Ac<|Ab (BN (vs:=[]) (us:=[vP g0,vP p0,vP j0]) evs_nil (e3 rfl rfl rfl))<|BM (fst:=[]) (cap:=[]) (vs:=[.func (.func 57) #[] #[vP g0,vP p0,vP j0]]) .plain (bd 44) Tryz.func44 rfl rfl rfl rfl (e1 rfl) rfl fun p1 E0 F1=>Ac<|RG.nl [.bool false] M0 fun P1 q0 P0 A1=>RG.nl [vI 0] P0 fun Q1 d0 b0 B1=>Aa<|Ac<|Ab (BN (vs:=[]) (us:=[vP q0,vP d0]) evs_nil (e2 rfl rfl))<|RG.defer (fst:=[]) (cap:=[vP q0,vP d0]) (vs:=[]) rfl .plain rfl evs_nil<|Aa<|Ac<|Ae rfl<|xk h (fun s0 z0 h=>?_) (fun B0 z0 h=>?_)
 refine BH (fst:=[]) (cap:=[vP g0,vP p0,vP j0]) .plain (bd 57) rfl evs_nil (fun w9 hw9=>cw_c n (b0.hL0 hL hw9) a0 (b0.k0 h0_3 hw9) (mem_keep hw9 (b0.memA .t4)) (mem_keep hw9 (b0.memA .t2)) (b0.k0 h1_0 hw9) (mem_keep hw9 (b0.memA .t3)) z0) fun R1 W0=>?_
 obtain ⟨Q0,C1⟩:=b0.agr W0
 refine PN.callD (vs:=[]) (cap:=[vP q0,vP d0]) (bd 100) Tryz.func100 rfl rfl rfl fun k1 X0 Z0=>Ac<|RG.recover1 .plain X0 rfl<|Af rfl<|Aa<|Ac<|Ae rfl<|Ab (FV.neqI Tryz.underlying20 rfl rfl)<|Aa<|Bk rfl<|Ac<|Ae rfl<|Ab (FV.assertT (by kernel_rfl) rfl)<|Ae rfl<|Ab (Ah rfl rfl)<|Ab (Ah rfl rfl)<|RG.nl [vI 0] Q0 fun U1 g1 R0 D1=>AQ [vI s0.fA] R0 .hd (o1 rfl) fun V1 t0 E1=>Af rfl<|Aa<|Aj<|Ac<|Ae rfl<|Ab (Bo rfl)<|Aa<|BF rfl<|Aq<|Ac<|Af rfl<|Aa<|du 3 fun c0 A0=>Rv 0 c0 rfl A0 (fun _=>Ai rfl)<|Rv 1 c0 rfl A0 (fun _=>Bd 0 rfl)<|RD.mo (α:=Unit) (fun ()=>[(1,vP d0),(19,vI s0.fA)]) (fun ()=>[.cells d0 [vI 0] 51,.cells q0 [.bool false] 4,.cells p0 [vI a2] 3,.cells j0 [v1_0] 46,.cells g0 [vI a0.fe,vI a0.fh,vI a0.fj,v0_3] 44]) t0 1 15 ?_ ?_
 rintro ⟨⟩ W1 G0 q1
 try dsimp only
 refine BJ 4 31 c0 rfl rfl .plain (AH (news:=[vI s0.fA]) G0 .hd rfl rfl rfl rfl rfl rfl (o1 rfl)) fun H1 v0 s1=>AM (dk c0)<|MX.fin rfl<|RT.leaveD1 Z0 Tryz.func100 rfl .nil<|Ap (u:=.tuple #[.bool false,vI s0.fA]) E0 Tryz.func44 rfl (.cons (.one (by kernel_rfl) rfl ((v0.memA .t1) 0 _ rfl)) (.cons (.one (by kernel_rfl) rfl ((v0.memA .hd) 0 _ rfl)) .nil)) rfl<|Ae rfl<|Ab (Ah rfl rfl)<|Ab (Ah rfl rfl)<|Af rfl<|Af rfl<|Aa<|Ac<|Ae rfl<|Af rfl<|Aa<|Al rfl<|AT hb0 Tryz.func17 rfl rfl ?_
 cases h
 exact v0.gv
 intro C0
 refine Bn [2,3] (rk c0) ⟨?_,?_,trivial⟩
 refine Bq (m' :=7) (sk c0) rfl .plain rfl (AL rfl ((t0.memA .hd) 0 _ rfl))<|BJ 3 15 c0 rfl rfl .plain (AH (news:=[.bool false]) t0 .t2 rfl rfl rfl rfl rfl rfl (o1 rfl)) fun b1 u0 y0=>?_
 obtain ⟨H0,U0⟩:=AI u0 .d1
 exact C0 () H0 (Tt y0 U0)
 refine RO.now (m' :=11) (sk c0) rfl rfl .plain (AH (news:=[.bool false]) t0 .t2 rfl rfl rfl rfl rfl rfl (o1 rfl)) fun b1 u0 y0=>Rx 2 16 c0 rfl A0 (AL rfl ((u0.memA .hd) 0 _ rfl)) ?_
 obtain ⟨I0,V0⟩:=AI u0 .d1
 exact C0 () I0 (Tt y0 V0)
 refine RG.callq' (v:=.bool B0) (fst:=[]) (cap:=[vP g0,vP p0,vP j0]) .plain (bd 57) rfl evs_nil (fun w9 hw9=>Bb (cw_c n (b0.hL0 hL hw9) a0 (b0.k0 h0_3 hw9) (mem_keep hw9 (b0.memA .t4)) (mem_keep hw9 (b0.memA .t2)) (b0.k0 h1_0 hw9) (mem_keep hw9 (b0.memA .t3)) z0)) rfl<|AQ [.bool B0] b0 .t1 (o1 rfl) fun I1 J0 u1=>AQ [vI 0] J0 .hd (o1 rfl) fun J1 x0 v1=>Aa<|Al rfl<|RT.callD (vs:=[]) (cap:=[vP q0,vP d0]) (bd 100) Tryz.func100 rfl rfl rfl fun j1 F0 Y0=>Ac<|RG.recover0 .plain F0 rfl<|Af rfl<|Aa<|Ac<|Ae rfl<|Ab (FV.neqI0 Tryz.underlying20 rfl rfl)<|Aa<|BF rfl<|Aq<|MX.fin rfl<|RT.leaveD0 F0 Y0 Tryz.func100 rfl .nil<|Ap (u:=.tuple #[.bool B0,vI 0]) E0 Tryz.func44 rfl (.cons (.one (by kernel_rfl) rfl ((x0.memA .t1) 0 _ rfl)) (.cons (.one (by kernel_rfl) rfl ((x0.memA .hd) 0 _ rfl)) .nil)) rfl<|Ae rfl<|Ab (Ah rfl rfl)<|Ab (Ah rfl rfl)<|Af rfl<|Af rfl<|Aa<|Ac<|Ae rfl<|Af rfl<|Aa<|Al rfl<|AT hb0 Tryz.func17 rfl rfl ?_
 cases h
 exact x0.gv
def aP_l1 (n:Nat) (a2:Int) (u0:(List Int) × Int) (d0:Int) (g0:Int × (List Ta) -> Option (List Ta)):Int × (List Ta) -> Option (List Ta)
  | (b0,c0)=>(if b0 < a2 then (idx u0.1 b0).bind fun q0=>(chk (q0 * a2)).bind fun j0=>(chk (j0 - d0)).bind fun k0=>(bI_p n k0 d0).bind fun t0=>(app c0 ([t0]:List Ta)).bind fun s0=>(chk (b0 + 1)).bind fun p0=>g0 (p0,s0) else some c0)
def aP_p (n:Nat) (a0:Tc) (a1:List Int) (a2:Int):Option ((List Ta) × Int):=
  (ap_p n a0 a1 a2).bind fun b0=>(if b0.2 = 0 then (ay_p n a0).bind fun c0=>(if c0 = 0 then some (([]:List Ta),(7:Int)) else Option.bind (loopF (aP_l1 n a2 b0 c0) n (0,([]:List Ta))) (fun d0=>some (d0,(0:Int)))) else some (([]:List Ta),b0.2))
theorem aP_c (n:Nat) {L w} (hL:hl L w) (a0:Tc) {v0_3:Value} (h0_3:Rep.R w L [v0_3] a0.fo) {a1:List Int} {v1_0:Value} (h1_0:Rep.R w L [v1_0] a1) {a2:Int}  {r:(List Ta) × Int} (h:aP_p n a0 a1 a2 = some r) :
 Cl 21 #[.agg #[vI a0.fe,vI a0.fh,vI a0.fj,v0_3],v1_0,vI a2] w (Gives w fun w' u=>∃ v0_0:Value,u = .tuple #[v0_0,vI r.2]/\Rep.R w' L [v0_0] r.1):=by
 unfold aP_p at h
 refine AF Tryz.func21 rfl rfl rfl fun _ cs0 hb0=>Ac<|RG.bx (AB w) rfl rfl fun b2 P1 s0 U1=>Af rfl<|Af rfl<|Aa<|Ac<|Ab (AK rfl (s0.memA .hd))<|Ae rfl<|Ae rfl<|bk h fun J1 C1 h=>AZ (fst:=[]) (cap:=[]) .plain (bd 14) rfl (e3 rfl rfl rfl) (fun w9 hw9=>ap_c n (s0.hL hL hw9) a0 (s0.km h0_3 hw9) (s0.km h1_0 hw9) C1) rfl fun g2 Z1 U0 ⟨H1,hu_,q1⟩=>?_
 subst hu_
 obtain ⟨b0,W1⟩:=s0.agr U0
 refine Ae rfl<|Ab (Ah rfl rfl)<|Ab (Ah rfl rfl)<|Af rfl<|Af rfl<|Aa<|Aj<|Ac<|Ae rfl<|Ab (FV.neq (i:=J1.2) (j:=0) rfl rfl)<|Aa<|MX.ifn rfl h (fun G0 h=>?_) (fun G0 h=>?_)
 refine Aq<|Ac<|Ab (AK rfl (b0.memA .hd))<|bk h fun t0 D1 h=>Bi (vI t0) (bd 56) rfl (e1 rfl) (fun w9 hw9=>ay_c n (b0.hL0 hL hw9) a0 (b0.k0 h0_3 hw9) D1) rfl<|Af rfl<|Aa<|Aj<|Ac<|Ae rfl<|Ab (FV.eql (i:=t0) (j:=0) rfl rfl)<|Aa<|AS rfl h (fun H0 h=>?_) (fun H0 h=>?_)
 refine Ac<|Af rfl<|Af rfl<|Aa<|Al rfl ?_
 have s1:=Rep.nilAt (α:=Ta) b0 L
 refine Ap hb0 Tryz.func21 rfl (.cons (.tmp rfl) (.cons (.tmp rfl) .nil)) rfl ?_
 cases h
 exact ⟨b0.ag,fun w9 hw9=>⟨vN,rfl,b0.kd s1 hw9⟩⟩
 refine Aq<|Ac<|Af rfl<|Aa<|Aj<|Ac<|Af rfl<|Aa<|Ay ?_
 have x0:=b0.nilRow 37 (Rep.size Ta)
 obtain ⟨M0,y0⟩:=AI x0 (.a0 .done)
 obtain ⟨X1,g1,Y0⟩:=bind_in2 h
 refine MX.lf (α:=Int × (List Ta) × Value × (List Value)) (fun ⟨j0,g0,d0,p0⟩=>[(2,vI a2),(8,H1),(10,vI t0),(11,d0),(12,vI j0)]) (fun ⟨j0,g0,d0,p0⟩=>[rr w 37 Ta d0 g0.length p0]) (fun ⟨j0,g0,d0,p0⟩ D0=>Cells D0 (bl [rr w 37 Ta d0 g0.length p0] ++ L) p0 g0) (fun ⟨j0,g0,d0,p0⟩=>(j0,g0)) (0,([]:List Ta),vN,[]) g1 M0 (Au (Ax (cs:=[]) (xs:=([]:List Ta)) x0 L (AD _ _)) y0) ?_
 rintro M1 ⟨j0,g0,d0,p0⟩ D0 K0 q0 z0 C0 h
 unfold aP_l1 at h
 try dsimp only at h
 refine Aj<|Ac<|Ae rfl<|Ae rfl<|Ab (BR (i:=j0) (j:=a2) rfl rfl)<|Aa<|AS rfl h (fun F0 h=>?_) (fun F0 h=>?_)
 refine Aq<|Aj<|Ay<|Av<|Ae rfl<|Ae rfl<|Ae rfl<|bk h fun E0 y1 h=>?_
 obtain ⟨Z0,z1⟩:=idx_in y1
 obtain ⟨K1,R1,W0,b1,I0,j1,c1⟩:=Bl (Ao q1 (Tt (St.nilRowT b0 37 (Rep.size Ta)) (Tt y0 z0))) z1
 have X0:I0 = [vI E0]:=j1; subst X0
 refine Ab (Bm 1 (j0.toNat) rfl W0 rfl Z0 b1)<|AP rfl (c1 0 _ rfl)<|Ae rfl<|bk h fun E1 u1 h=>Ab (FV.mulc (i:=E0) (j:=a2) rfl rfl u1)<|Ae rfl<|bk h fun Y1 v1 h=>Ab (FV.subc (i:=E1) (j:=t0) rfl rfl v1)<|Ae rfl<|bk h fun c0 B1 h=>Bi (.agg ((cs_Ta c0)).toArray) (bd 35) rfl (e2 rfl rfl) (fun w9 hw9=>bI_c n (q0.hL0 hL hw9)  B1) rfl<|Ak .plain rfl (AE (α:=Ta) (xs:=([c0]:List Ta)) (vs:=[.agg ((cs_Ta c0)).toArray]) (ds' :=(cs_Ta c0)) rfl q0 el63 rfl (e1 rfl) (by kernel_rfl) rfl) fun c2 Q1 u0 A0=>bk h fun I1 A1 h=>RG.doesL .plain rfl (AW (α:=Ta) (ys:=([c0]:List Ta)) A1 u0 (fun _ _=>.t1) el63 rfl rfl (Au C0 A0) (Src.row (α:=Ta) u0 .hd (Ax (cs:=(cs_Ta c0)) (xs:=(([c0]:List Ta):List Ta)) u0 L (Am (cs:=(cs_Ta c0)) (ds:=[]) (mk_Ta c0.fN c0.fD) (AD _ _))))) fun G1 d2 ⟨J0,P0,R0,V0⟩=>Af rfl<|Aa<|AA<|Av<|Ae rfl<|bk h fun F1 x1 h=>Ab (BL (i:=j0) (j:=1) rfl rfl x1)<|Af rfl<|Aa ?_
 obtain ⟨Q0,B0⟩:=AI P0 .d1
 exact K0 (F1,I1,G1,J0) Q0 (Tt z0 (Tt A0 (Tt R0 B0))) (Au V0 B0) h
 refine Ba rfl ?_
 have h:=Y0 _ h
 try dsimp only at h
 refine Ac<|Ae rfl<|Af rfl<|Af rfl<|Aa<|Al rfl ?_
 have v0:=By q0 .hd
 have V1:=Bz q0 .hd
 have k1:=BA (α:=Ta) (v:=d0) (xs:=g0) v0 L (Bj (α:=Ta) q0 .hd C0 hL)
 refine Ap hb0 Tryz.func21 rfl (.cons (.tmp rfl) (.cons (.tmp rfl) .nil)) rfl ?_
 cases h
 exact ⟨v0.ag,fun w9 hw9=>⟨d0,rfl,v0.kd k1 hw9⟩⟩
 refine Ac<|Ae rfl<|Af rfl<|Af rfl<|Aa<|Al rfl ?_
 have p1:=Rep.nilAt (α:=Ta) b0 L
 refine Ap hb0 Tryz.func21 rfl (.cons (.tmp rfl) (.cons (.tmp rfl) .nil)) rfl ?_
 cases h
 exact ⟨b0.ag,fun w9 hw9=>⟨vN,rfl,b0.kd p1 hw9⟩⟩
def az_l1 (_n:Nat) (a2:Int) (p0:(List Int) × Int) (j0:Int × Int × Int -> Option (Int × Int)):Int × Int × Int -> Option (Int × Int)
  | (d0,g0,b0)=>(if b0 < a2 then (idx p0.1 b0).bind fun c0=>(chk (b0 + 1)).bind fun k0=>j0 (min d0 c0,max g0 c0,k0) else some (g0,d0))
def az_p (n:Nat) (a0:Tc) (a1:List Int) (a2:Int):Option (Ta × Int):=
  (ap_p n a0 a1 a2).bind fun b0=>(if b0.2 = 0 then (ay_p n a0).bind fun d0=>(if d0 = 0 then some ((⟨((0:UInt64),(0:UInt64),(0:UInt64),(0:UInt64),(0:UInt64),(0:UInt64),(0:UInt64),(0:UInt64)),((0:UInt64),(0:UInt64),(0:UInt64),(0:UInt64),(0:UInt64),(0:UInt64),(0:UInt64),(0:UInt64))⟩:Ta),(7:Int)) else (b0.1[0]?).bind fun c0=>Option.bind (loopF (az_l1 n a2 b0) n (c0,c0,1)) (fun (q0,p0)=>(chk (q0 - p0)).bind fun g0=>(chk (g0 * a2)).bind fun j0=>(bI_p n j0 d0).bind fun k0=>some (k0,(0:Int)))) else some ((⟨((0:UInt64),(0:UInt64),(0:UInt64),(0:UInt64),(0:UInt64),(0:UInt64),(0:UInt64),(0:UInt64)),((0:UInt64),(0:UInt64),(0:UInt64),(0:UInt64),(0:UInt64),(0:UInt64),(0:UInt64),(0:UInt64))⟩:Ta),b0.2))
theorem az_c (n:Nat) {L w} (hL:hl L w) (a0:Tc) {v0_3:Value} (h0_3:Rep.R w L [v0_3] a0.fo) {a1:List Int} {v1_0:Value} (h1_0:Rep.R w L [v1_0] a1) {a2:Int}  {r:Ta × Int} (h:az_p n a0 a1 a2 = some r) :
 Cl 23 #[.agg #[vI a0.fe,vI a0.fh,vI a0.fj,v0_3],v1_0,vI a2] w (Gives w fun _ u=>u = .tuple #[.agg ((cs_Ta r.1)).toArray,vI r.2]):=by
 unfold az_p at h
 refine AF Tryz.func23 rfl rfl rfl fun _ cs0 hb0=>Ac<|RG.bx (AB w) rfl rfl fun c2 K1 Y0 U1=>RG.nl zL Y0 fun j2 A0 t0 V1=>Af rfl<|Aa<|Ac<|Ab (AK rfl (t0.memA .t1))<|Ae rfl<|Ae rfl<|bk h fun G1 B1 h=>AZ (fst:=[]) (cap:=[]) .plain (bd 14) rfl (e3 rfl rfl rfl) (fun w9 hw9=>ap_c n (t0.hL hL hw9) a0 (t0.km h0_3 hw9) (t0.km h1_0 hw9) B1) rfl fun k2 b2 c1 ⟨F1,hu_,P0⟩=>?_
 subst hu_
 obtain ⟨s0,W1⟩:=t0.agr c1
 refine Ae rfl<|Ab (Ah rfl rfl)<|Ab (Ah rfl rfl)<|Af rfl<|Af rfl<|Aa<|Aj<|Ac<|Ae rfl<|Ab (FV.neq (i:=G1.2) (j:=0) rfl rfl)<|Aa<|MX.ifn rfl h (fun R0 h=>?_) (fun R0 h=>?_)
 refine Aq<|Ac<|Ab (AK rfl (s0.memA .t1))<|bk h fun z0 C1 h=>Bi (vI z0) (bd 56) rfl (e1 rfl) (fun w9 hw9=>ay_c n (s0.hL0 hL hw9) a0 (s0.k0 h0_3 hw9) C1) rfl<|Af rfl<|Aa<|Aj<|Ac<|Ae rfl<|Ab (FV.eql (i:=z0) (j:=0) rfl rfl)<|Aa<|AS rfl h (fun U0 h=>?_) (fun U0 h=>?_)
 refine Ac<|Ab (AX (vs:=[]) (u:=.agg zM) evs_nil (fun w9=>by kernel_rfl))<|AQ zL s0 .hd (onesB rfl) fun p2 D0 X1=>Af rfl<|Aa<|Al rfl<|Ap hb0 Tryz.func23 rfl (.cons (.many (cs:=zL) (by kernel_rfl) rfl (D0.memA .hd)) (.cons (.tmp rfl) .nil)) rfl ?_
 cases h
 exact D0.gv
 refine Aq<|Aj<|du 8 fun d0 j0=>Rv 0 d0 rfl j0 (fun _=>Ai rfl)<|bk h fun x0 z1 h=>?_
 obtain ⟨I1,P1,G0,J0,W0,q1,M0⟩:=Bl P0 z1
 have g1:W0 = [vI x0]:=q1; subst g1
 refine Rv 1 d0 rfl j0 (fun _=>Bm 1 0 rfl G0 rfl rfl J0)<|Rx 2 192 d0 rfl j0 (AL rfl (M0 0 _ rfl))<|Rv 3 d0 rfl j0 (fun _=>Ai rfl)<|Rv 4 d0 rfl j0 (fun _=>Bm 1 0 rfl G0 rfl rfl J0)<|Rx 5 128 d0 rfl j0 (AL rfl (M0 0 _ rfl))<|Rv 6 d0 rfl j0 (fun _=>AU rfl)<|Rv 7 d0 rfl j0 (fun _=>AU rfl)<|AM (dk d0)<|Aj<|Ac<|Af rfl<|Aa<|Ay ?_
 obtain ⟨Z0,b1⟩:=AI s0 (.a0 .done)
 obtain ⟨Y1,k1,j1⟩:=bind_in2 h
 refine MX.lo (α:=Int × Int × Int) (fun ⟨p0,q0,g0⟩=>[(2,vI a2),(6,vP A0),(8,F1),(10,vI z0),(11,vI p0),(12,vI q0),(13,vI g0)]) (fun ⟨p0,q0,g0⟩=>[.cells A0 zL 37]) (fun ⟨p0,q0,g0⟩=>(p0,q0,g0)) (x0,x0,1) k1 Z0 ?_
 rintro J1 ⟨p0,q0,g0⟩ q2 X0 v0 E0 h
 unfold az_l1 at h
 try dsimp only at h
 refine Aj<|Ac<|Ae rfl<|Ae rfl<|Ab (BR (i:=g0) (j:=a2) rfl rfl)<|Aa<|AS rfl h (fun Q0 h=>?_) (fun Q0 h=>?_)
 refine Aq<|Aj<|Ay<|du 14 fun b0 c0=>Rv 0 b0 rfl c0 (fun _=>Ai rfl)<|Rv 1 b0 rfl c0 (fun _=>Ai rfl)<|Rv 2 b0 rfl c0 (fun _=>Ai rfl)<|bk h fun u0 x1 h=>?_
 obtain ⟨H0,y1⟩:=idx_in x1
 obtain ⟨H1,M1,F0,I0,V0,p1,K0⟩:=Bl (Ao P0 (Tt b1 E0)) y1
 have d1:V0 = [vI u0]:=p1; subst d1
 refine Rv 3 b0 rfl c0 (fun _=>Bm 1 (g0.toNat) rfl F0 rfl H0 I0)<|Rx 4 12320 b0 rfl c0 (AL rfl (K0 0 _ rfl))<|Rv 5 b0 rfl c0 (fun _=>FV.min2 (i:=p0) (j:=u0) rfl rfl)<|Rv 6 b0 rfl c0 (fun _=>Ai rfl)<|Rv 7 b0 rfl c0 (fun _=>Ai rfl)<|Rv 8 b0 rfl c0 (fun _=>Ai rfl)<|Rv 9 b0 rfl c0 (fun _=>Bm 1 (g0.toNat) rfl F0 rfl H0 I0)<|Rx 10 10240 b0 rfl c0 (AL rfl (K0 0 _ rfl))<|Rv 11 b0 rfl c0 (fun _=>FV.max2 (i:=q0) (j:=u0) rfl rfl)<|Rv 12 b0 rfl c0 (fun _=>AU rfl)<|Rv 13 b0 rfl c0 (fun _=>AU rfl)<|AM (dk b0)<|AA<|Av<|Ae rfl<|bk h fun D1 s1 h=>Ab (BL (i:=g0) (j:=1) rfl rfl s1)<|Af rfl<|Aa<|X0 (min p0 u0,max q0 u0,D1) v0 E0 h
 refine Ba rfl ?_
 have h:=j1 _ h
 try dsimp only at h
 refine Ac<|Ae rfl<|Ae rfl<|bk h fun E1 u1 h=>Ab (FV.subc (i:=q0) (j:=p0) rfl rfl u1)<|Ae rfl<|bk h fun Z1 v1 h=>Ab (FV.mulc (i:=E1) (j:=a2) rfl rfl v1)<|Ae rfl<|bk h fun y0 A1 h=>Bi (.agg ((cs_Ta y0)).toArray) (bd 35) rfl (e2 rfl rfl) (fun w9 hw9=>bI_c n (v0.hL0 hL hw9)  A1) rfl<|AQ (cs_Ta y0) v0 .hd (onesB rfl) fun d2 B0 Q1=>Af rfl<|Aa<|Al rfl<|Ap hb0 Tryz.func23 rfl (.cons (.many (cs:=(cs_Ta y0)) (by kernel_rfl) rfl (B0.memA .hd)) (.cons (.tmp rfl) .nil)) rfl ?_
 cases h
 exact B0.gv
 refine Ac<|Ab (AX (vs:=[]) (u:=.agg zM) evs_nil (fun w9=>by kernel_rfl))<|Ae rfl<|AQ zL s0 .hd (onesB rfl) fun g2 C0 R1=>Af rfl<|Aa<|Al rfl<|Ap hb0 Tryz.func23 rfl (.cons (.many (cs:=zL) (by kernel_rfl) rfl (C0.memA .hd)) (.cons (.tmp rfl) .nil)) rfl ?_
 cases h
 exact C0.gv
def aN_l1 (_n:Nat) (a0:List Ta) (a1:List Ta) (c0:Nat -> Option (Bool ⊕ Unit)):Nat -> Option (Bool ⊕ Unit)
  | b0=>(if b0 < a0.length then (a0[b0]?).bind fun d0=>(a1[b0]?).bind fun g0=>(if d0 = g0 then c0 (b0 + 1) else some (.inl false)) else some (.inr ()))
def aN_p (n:Nat) (a0:List Ta) (a1:List Ta):Option Bool:=
  (if a0.length = a1.length then thn (loopF (aN_l1 n a0 a1) n 0) (fun _=>some true) else some false)
theorem aN_c (n:Nat) {L w} (_hL:hl L w) {a0:List Ta} {v0_0:Value} (h0_0:Rep.R w L [v0_0] a0) {a1:List Ta} {v1_0:Value} (h1_0:Rep.R w L [v1_0] a1)  {r:Bool} (h:aN_p n a0 a1 = some r) :
 Cl 24 #[v0_0,v1_0] w (Gives w fun _ u=>u = .bool r):=by
 unfold aN_p at h
 have hS0:=AB w
 refine AF Tryz.func24 rfl rfl rfl fun _ cs0 hb0=>Ac<|Af rfl<|Aa<|Aj<|Ac<|Ae rfl ?_
 have hl1:a0.length <= 281474976710656:=AY h0_0
 refine Ab (Bc (xs:=a0) Tryz.underlying63 rfl h0_0)<|Ae rfl ?_
 have hl2:a1.length <= 281474976710656:=AY h1_0
 refine Ab (Bc (xs:=a1) Tryz.underlying63 rfl h1_0)<|Ab (FV.neqN (i:=a0.length) (j:=a1.length) rfl rfl)<|Aa<|MX.ifn rfl h (fun c3 h=>?_) (fun c3 h=>?_)
 refine Aq<|Aj<|Ac<|Af rfl<|Aa<|Ay<|tn h fun U0 D0 j0=>MX.lo (α:=Nat) (fun b0=>[(0,v0_0),(1,v1_0),(5,vI ((b0:Nat):Int))]) (fun b0=>[]) (fun b0=>b0) 0 D0 hS0 ?_
 rintro K0 b0 V0 u0 g0 v0 h
 unfold aN_l1 at h
 try dsimp only at h
 refine Aj<|Ac<|Ae rfl<|Ae rfl ?_
 have k0:=AO h0_0 g0
 refine Ab (Bc (xs:=a0) Tryz.underlying63 rfl k0)<|Ab (Bu (i:=b0) (j:=a0.length) rfl rfl)<|Aa<|AS rfl h (fun s0 h=>?_) (fun s0 h=>?_)
 refine Aq<|Aj<|Ay<|Aj<|du 9 fun c0 d0=>Rv 0 c0 rfl d0 (fun _=>Ai rfl)<|Rv 1 c0 rfl d0 (fun _=>Ai rfl)<|bk h fun p0 G0 h=>?_
 obtain ⟨I0,M0,x0,z0,Q0,E0,B0⟩:=Bl k0 G0
 obtain rfl:=op_Ta E0
 refine Rv 2 c0 rfl d0 (fun _=>Bm 16 b0 rfl x0 rfl rfl z0)<|Rx 3 256 c0 rfl d0 (AK rfl B0)<|Rv 4 c0 rfl d0 (fun _=>Ai rfl)<|Rv 5 c0 rfl d0 (fun _=>Ai rfl)<|bk h fun q0 H0 h=>?_
 obtain ⟨J0,P0,y0,A0,R0,F0,C0⟩:=Bl (AO h1_0 g0) H0
 obtain rfl:=op_Ta F0
 refine Rv 6 c0 rfl d0 (fun _=>Bm 16 b0 rfl y0 rfl rfl A0)<|Rx 7 256 c0 rfl d0 (AK rfl C0)<|Rv 8 c0 rfl d0 (fun _=>FV.neqV (xs:=((cs_Ta p0)).toArray) (ys:=((cs_Ta q0)).toArray) rfl rfl (by kernel_rfl) (eqlD_37 p0 q0))<|AM (dk c0)<|MX.ifn rfl h (fun t0 h=>?_) (fun t0 h=>?_)
 refine Aq<|AA<|Av<|Ae rfl<|Ab (Bw (i:=b0) (j:=1) rfl rfl (by omega))<|Af rfl<|Aa<|u0 (b0 + 1) g0 v0 h
 refine Ac<|Af rfl<|Aa ?_
 have h:=thn_inl h j0
 refine Al rfl<|AT hb0 Tryz.func24 rfl rfl ?_
 cases h
 exact g0.gv
 refine Ba rfl ?_
 have h:=thn_inr h j0
 try dsimp only at h
 refine Ac<|Af rfl<|Aa<|Al rfl<|AT hb0 Tryz.func24 rfl rfl ?_
 cases h
 exact g0.gv
 refine Ac<|Af rfl<|Aa<|Al rfl<|AT hb0 Tryz.func24 rfl rfl ?_
 cases h
 exact hS0.gv
end Go.Proofs.YtgejkdheojkfiaaGreatDoor
