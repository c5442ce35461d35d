/- Functions of the program, and what they give: part 7. -/
import Derived.Test.YtgejkdheojkfiaaGreatDoorPA6
namespace Go.Proofs.YtgejkdheojkfiaaGreatDoor
open Go Go.RowKit
set_option maxRecDepth 4000
set_option maxHeartbeats 4000000

structure Th where
  fr:Tc
  fp:List Int
  fk:Int
  deriving DecidableEq
instance:Rep Th:=Rep.via (β:=Tc × (List Int) × Int) fun x=>(x.fr,x.fp,x.fk)
def tb6_3:List (Nat × Nat × Nat):=[(0,8388608,8192),(0,16777216,2048),(0,33554432,4096),(7,67108864,58720256),(0,134217728,8192),(0,268435456,128),(0,536870912,2048),(96,1073741824,805306368),(0,2147483648,4096),(400,4294967296,3355443200),(0,8589934592,256),(0,17179869184,8192),(3200,34359738368,25769803776),(0,68719476736,2048),(0,137438953472,4096),(28672,274877906944,240518168576),(0,549755813888,8192),(0,1099511627776,2048),(0,2199023255552,16),(458752,4398046511104,3848290697216),(0,8796093022208,0),(1606152,17592186044416,13473379516416),(4194303,1024,17592186044416)]
theorem op_Tc {w:World} {L:List Nat} {cs:List Value} {x:Tc} (h:Rep.R w L cs x):∃ v3:Value,cs = [vI x.fe,vI x.fh,vI x.fj,v3]/\Rep.R w L [v3] x.fo:=by
  obtain ⟨c0,r0,rfl,h0,h⟩:=h
  have e0:c0 = [vI x.fe]:=h0; subst e0
  obtain ⟨c1,r1,rfl,h1,h⟩:=h
  have e1:c1 = [vI x.fh]:=h1; subst e1
  obtain ⟨c2,r2,rfl,h2,h⟩:=h
  have e2:c2 = [vI x.fj]:=h2; subst e2
  obtain ⟨v3,rfl,kv3⟩:=lst_one (xs:=x.fo) h
  exact ⟨v3,rfl,kv3⟩
theorem mk_Tc {w:World} {L:List Nat} (a0:Int) (a1:Int) (a2:Int) (a3:List Tb) {u3:Value} (h3:Rep.R w L [u3] a3):Rep.R w L [vI a0,vI a1,vI a2,u3] (⟨a0,a1,a2,a3⟩:Tc):=⟨[vI a0],[vI a1,vI a2,u3],rfl,rfl,⟨[vI a1],[vI a2,u3],rfl,rfl,⟨[vI a2],[u3],rfl,rfl,h3⟩⟩⟩
theorem op_Th {w:World} {L:List Nat} {cs:List Value} {x:Th} (h:Rep.R w L cs x):∃ v3 v4:Value,cs = [vI x.fr.fe,vI x.fr.fh,vI x.fr.fj,v3,v4,vI x.fk]/\Rep.R w L [v3] x.fr.fo/\Rep.R w L [v4] x.fp:=by
  obtain ⟨c0,r0,rfl,h0,h⟩:=h
  obtain ⟨v3,rfl,kv3⟩:=op_Tc (x:=x.fr) h0
  obtain ⟨c1,r1,rfl,h1,h⟩:=h
  obtain ⟨v4,rfl,kv4⟩:=lst_one (xs:=x.fp) h1
  have e2:r1 = [vI x.fk]:=h; subst e2
  exact ⟨v3,v4,rfl,kv3,kv4⟩
theorem mk_Th {w:World} {L:List Nat} (a0:Tc) {u3:Value} (h3:Rep.R w L [u3] a0.fo) (a1:List Int) {u4:Value} (h4:Rep.R w L [u4] a1) (a2:Int):Rep.R w L [vI a0.fe,vI a0.fh,vI a0.fj,u3,u4,vI a2] (⟨a0,a1,a2⟩:Th):=⟨[vI a0.fe,vI a0.fh,vI a0.fj,u3],[u4,vI a2],rfl,mk_Tc a0.fe a0.fh a0.fj a0.fo h3,⟨[u4],[vI a2],rfl,h4,rfl⟩⟩
theorem el39:ElT Tryz.prog 39 48 (Rep.size Th) 80 (.agg #[vI 0,vI 0,vI 0,vN,vN,vI 0]) [vI 0,vI 0,vI 0,vN,vN,vI 0]:=⟨Tryz.underlying39,by kernel_rfl,rfl,rfl,rfl,rfl⟩
theorem body31:bodyB Tryz.prog 31 = true:=by kernel_rfl
theorem body32:bodyB Tryz.prog 32 = true:=by kernel_rfl
theorem body33:bodyB Tryz.prog 33 = true:=by kernel_rfl
theorem body34:bodyB Tryz.prog 34 = true:=by kernel_rfl
def bZ_p (n:Nat) (a0:Tj) (a1:Ti) (a2:Tl) (a3:Tl) (a4:Int):Option (List Th):=
  (ai_p n a0).bind fun b0=>(ac_p n a1 ((b0.1.length:Nat):Int)).bind fun c0=>(bX_p n a2 b0.1).bind fun d0=>(bY_p n a3 c0).bind fun g0=>some ([(⟨c0,b0.1,b0.2⟩:Th),(⟨c0,d0,b0.2⟩:Th),(⟨g0,b0.1,b0.2⟩:Th),(⟨c0,b0.1,a4⟩:Th),(⟨(⟨(0:Int),(0:Int),(0:Int),([]:List Tb)⟩:Tc),([]:List Int),(0:Int)⟩:Th)]:List Th)
theorem bZ_c (n:Nat) (L:List Nat) (w:World) (hL:∀ b ∈ L,b < w.heap.size) (a0:Tj) {v0_1:Value} (h0_1:Rep.R w L [v0_1] a0.fB) {v0_2:Value} (h0_2:Rep.R w L [v0_2] a0.fMore) {v0_3:Value} (h0_3:Rep.R w L [v0_3] a0.fLabels) (a1:Ti) {v1_4:Value} (h1_4:Rep.R w L [v1_4] a1.fNums) (a2:Tl) (a3:Tl) {a4:Int}  {r:List Th} (h:bZ_p n a0 a1 a2 a3 a4 = some r) :
    Calls Tryz.prog 6 #[.agg #[.int .u8 (a0.fN.toNat:Int),v0_1,v0_2,v0_3,.int .u8 (a0.fK.toNat:Int)],.agg #[.int .u8 (a1.fe.toNat:Int),.int .u8 (a1.fh.toNat:Int),.int .u8 (a1.fj.toNat:Int),.int .u8 (a1.fu.toNat:Int),v1_4],.agg #[.int .u8 (a2.fE.toNat:Int),.int .u8 (a2.fAt.toNat:Int),vI a2.fN],.agg #[.int .u8 (a3.fE.toNat:Int),.int .u8 (a3.fAt.toNat:Int),vI a3.fN],vI a4] w (Gives w fun w' u=>∃ v0_0:Value,u = v0_0/\Rep.R w' L [v0_0] r):=by
 unfold bZ_p at h
 refine AF Tryz.func6 rfl rfl rfl fun _ cs0 hb0=>Ac<|RG.bx (AB w) rfl rfl fun Z2 j2 c1 H2=>RG.bx c1 rfl rfl fun c3 k2 d1 J2=>RG.bx d1 rfl rfl fun d3 p2 g1 K2=>RG.bx g1 rfl rfl fun g3 q2 v0 M2=>Af rfl<|Aa<|Ac<|Ab (AK rfl (v0.memA .t3))<|bk h fun c0 J1 h=>AZ (fst:=[]) (cap:=[]) .plain body31 rfl (e1 rfl) (fun w9 hw9=>ai_c n _ w9 (v0.hL hL hw9) a0 (v0.km h0_1 hw9) (v0.km h0_2 hw9) (v0.km h0_3 hw9) J1) rfl fun j3 W2 p1 ⟨j0,hu_,y0⟩=>?_
 subst hu_
 obtain ⟨A0,P2⟩:=v0.agr p1
 refine Ae rfl<|Ab (Ah rfl rfl)<|Ab (Ah rfl rfl)<|Af rfl<|Af rfl<|Aa<|Ac<|Ab (AK rfl (A0.memA .t2))<|Ae rfl ?_
 have Q2:c0.1.length <= 281474976710656:=AY y0
 refine Ab (Bc (xs:=c0.1) Tryz.underlying46 rfl y0)<|bk h fun b0 K1 h=>AZ (fst:=[]) (cap:=[]) .plain body32 rfl (e2 rfl rfl) (fun w9 hw9=>ac_c n _ w9 (A0.hL hL hw9) a1 (A0.km h1_4 hw9) K1) rfl fun k3 X2 q1 ⟨k0,hu_,z0⟩=>?_
 subst hu_
 obtain ⟨j1,U0⟩:=A0.agr q1
 refine RG.nl [vI 0,vI 0,vI 0,vN] j1 fun p3 s2 k1 B0=>AQ [vI b0.fe,vI b0.fh,vI b0.fj,k0] k1 .hd (o4 rfl rfl rfl (AR (Ao z0 B0))) fun q3 q0 G0=>Aa<|Aj<|dt 23 tb6_3 fun g0 p0=>AG 0 1 6291464 g0 rfl p0 (AK rfl (q0.memA .hd)) rfl<|Ag 1 3 g0 rfl p0 (fun _=>Ai rfl) rfl<|Ag 2 7 g0 rfl p0 (fun _=>Ai rfl) rfl ?_
 have X0:=Ao z0 (Tt B0 G0)
 obtain ⟨X1,A2,C1,_⟩:=BV X0
 have b1:=Tt U0 (Tt B0 G0)
 have J0:=Ao y0 b1
 obtain ⟨Y1,B2,D1,_⟩:=BV J0
 refine Ag 3 15 g0 rfl p0 (fun _=>AX (vs:=[.agg #[vI b0.fe,vI b0.fh,vI b0.fj,k0],j0,vI c0.2]) (u:=.agg #[vI b0.fe,vI b0.fh,vI b0.fj,k0,j0,vI c0.2]) (e3 rfl rfl rfl) (fun w9=>by rw [C1,D1]; try kernel_rfl)) rfl<|AG 4 31 6291968 g0 rfl p0 (AK rfl (q0.memA .hd)) rfl<|AG 5 63 6328960 g0 rfl p0 (AK rfl (q0.memA .t2)) rfl<|Ag 6 127 g0 rfl p0 (fun _=>Ai rfl) rfl<|Ag 8 383 g0 rfl p0 (fun _=>Ai rfl) rfl<|AG 10 1407 6328320 g0 rfl p0 (AK rfl (q0.memA .t1)) rfl<|AG 11 3455 6328320 g0 rfl p0 (AK rfl (q0.memA .hd)) rfl<|Ag 13 11647 g0 rfl p0 (fun _=>Ai rfl) rfl<|Ag 14 28031 g0 rfl p0 (fun _=>Ai rfl) rfl<|AG 16 93567 6815744 g0 rfl p0 (AK rfl (q0.memA .hd)) rfl<|Ag 17 224639 g0 rfl p0 (fun _=>Ai rfl) rfl<|Ag 18 486783 g0 rfl p0 (fun _=>Ai rfl) rfl ?_
 obtain ⟨Z1,C2,E1,_⟩:=BV X0
 obtain ⟨b2,D2,F1,_⟩:=BV J0
 refine Ag 19 1011071 g0 rfl p0 (fun _=>AX (vs:=[.agg #[vI b0.fe,vI b0.fh,vI b0.fj,k0],j0,vI a4]) (u:=.agg #[vI b0.fe,vI b0.fh,vI b0.fj,k0,j0,vI a4]) (e3 rfl rfl rfl) (fun w9=>by rw [E1,F1]; try kernel_rfl)) rfl<|Ag 20 2059647 g0 rfl p0 (fun _=>AX (vs:=[]) (u:=.agg #[vI 0,vI 0,vI 0,vN,vN,vI 0]) evs_nil (fun w9=>by kernel_rfl)) rfl<|bk h fun C0 M1 h=>BB 7 2059775 g0 rfl .plain body33 rfl (e2 rfl rfl) (fun w9 hw9=>bX_c n _ w9 (q0.hL hL hw9) a2 (Ar J0 hw9) M1) rfl fun s3 t0 s1 ⟨V2,hu_,M0⟩=>?_
 subst hu_
 obtain ⟨R0,V0⟩:=q0.agr s1
 have K0:=Tt B0 (Tt G0 V0)
 have Y0:=Ao z0 K0
 obtain ⟨c2,E2,G1,_⟩:=BV Y0
 obtain ⟨d2,F2,H1,_⟩:=BV M0
 refine Ag 9 2060287 g0 rfl p0 (fun _=>AX (vs:=[.agg #[vI b0.fe,vI b0.fh,vI b0.fj,k0],t0,vI c0.2]) (u:=.agg #[vI b0.fe,vI b0.fh,vI b0.fj,k0,t0,vI c0.2]) (e3 rfl rfl rfl) (fun w9=>by rw [G1,H1]; try kernel_rfl)) rfl<|bk h fun d0 P1 h=>BB 12 2064383 g0 rfl .plain body34 rfl (e2 rfl rfl) (fun w9 hw9=>bY_c n _ w9 (R0.hL hL hw9) a3 b0 (Ar Y0 hw9) P1) rfl fun u3 Y2 u1 ⟨s0,hu_,P0⟩=>?_
 subst hu_
 obtain ⟨E0,x0⟩:=R0.agr u1
 obtain ⟨g2,G2,I1,_⟩:=BV P0
 have W0:=Ao y0 (Tt b1 (Tt V0 x0))
 obtain ⟨Q1,u2,x1,_⟩:=BV W0
 refine Ag 15 2097151 g0 rfl p0 (fun _=>AX (vs:=[.agg #[vI d0.fe,vI d0.fh,vI d0.fj,s0],j0,vI c0.2]) (u:=.agg #[vI d0.fe,vI d0.fh,vI d0.fj,s0,j0,vI c0.2]) (e3 rfl rfl rfl) (fun w9=>by rw [I1,x1]; try kernel_rfl)) rfl ?_
 have R2:=Rep.nilAt (α:=Tb) E0 L
 have U2:=Rep.nilAt (α:=Int) E0 L
 obtain ⟨R1,v2,y1,_⟩:=BV (Ao z0 (Tt K0 x0))
 obtain ⟨U1,x2,z1,_⟩:=BV W0
 obtain ⟨V1,y2,A1,_⟩:=BV (Ao M0 x0)
 obtain ⟨W1,z2,B1,_⟩:=BV P0
 refine BS 21 4194303 g0 rfl .plain rfl (AE (α:=Th) (xs:=([(⟨b0,c0.1,c0.2⟩:Th),(⟨b0,C0,c0.2⟩:Th),(⟨d0,c0.1,c0.2⟩:Th),(⟨b0,c0.1,a4⟩:Th),(⟨(⟨(0:Int),(0:Int),(0:Int),([]:List Tb)⟩:Tc),([]:List Int),(0:Int)⟩:Th)]:List Th)) (vs:=[.agg #[vI b0.fe,vI b0.fh,vI b0.fj,k0,j0,vI c0.2],.agg #[vI b0.fe,vI b0.fh,vI b0.fj,k0,t0,vI c0.2],.agg #[vI d0.fe,vI d0.fh,vI d0.fj,s0,j0,vI c0.2],.agg #[vI b0.fe,vI b0.fh,vI b0.fj,k0,j0,vI a4],.agg #[vI 0,vI 0,vI 0,vN,vN,vI 0]]) (ds' :=[vI b0.fe,vI b0.fh,vI b0.fj,k0,j0,vI c0.2,vI b0.fe,vI b0.fh,vI b0.fj,k0,t0,vI c0.2,vI d0.fe,vI d0.fh,vI d0.fj,s0,j0,vI c0.2,vI b0.fe,vI b0.fh,vI b0.fj,k0,j0,vI a4,vI 0,vI 0,vI 0,vN,vN,vI 0]) rfl E0 el39 rfl (e5 rfl rfl rfl rfl rfl) (by rw [y1,z1,A1,B1]; try kernel_rfl) rfl) fun b3 Q0 u0 F0=>?_
 have Z0:=Tt K0 (Tt x0 F0)
 have H0:=Ao z0 Z0
 have I0:=Ao y0 (Tt U0 Z0)
 refine Ag 22 8388607 g0 rfl p0 (fun _=>AU rfl) rfl<|AM (dk g0)<|Al rfl ?_
 have D0:=By u0 .hd
 have I2:=Bz u0 .hd
 have v1:=BA (α:=Th) (v:=(vS Q0 5)) (xs:=([(⟨b0,c0.1,c0.2⟩:Th),(⟨b0,C0,c0.2⟩:Th),(⟨d0,c0.1,c0.2⟩:Th),(⟨b0,c0.1,a4⟩:Th),(⟨(⟨(0:Int),(0:Int),(0:Int),([]:List Tb)⟩:Tc),([]:List Int),(0:Int)⟩:Th)]:List Th)) D0 L (Bj (α:=Th) u0 .hd (Ax (cs:=[vI b0.fe,vI b0.fh,vI b0.fj,k0,j0,vI c0.2,vI b0.fe,vI b0.fh,vI b0.fj,k0,t0,vI c0.2,vI d0.fe,vI d0.fh,vI d0.fj,s0,j0,vI c0.2,vI b0.fe,vI b0.fh,vI b0.fj,k0,j0,vI a4,vI 0,vI 0,vI 0,vN,vN,vI 0]) (xs:=(([(⟨b0,c0.1,c0.2⟩:Th),(⟨b0,C0,c0.2⟩:Th),(⟨d0,c0.1,c0.2⟩:Th),(⟨b0,c0.1,a4⟩:Th),(⟨(⟨(0:Int),(0:Int),(0:Int),([]:List Tb)⟩:Tc),([]:List Int),(0:Int)⟩:Th)]:List Th):List Th)) u0 L (Am (cs:=[vI b0.fe,vI b0.fh,vI b0.fj,k0,j0,vI c0.2]) (ds:=[vI b0.fe,vI b0.fh,vI b0.fj,k0,t0,vI c0.2,vI d0.fe,vI d0.fh,vI d0.fj,s0,j0,vI c0.2,vI b0.fe,vI b0.fh,vI b0.fj,k0,j0,vI a4,vI 0,vI 0,vI 0,vN,vN,vI 0]) (mk_Th b0 H0 c0.1 I0 c0.2) (Am (cs:=[vI b0.fe,vI b0.fh,vI b0.fj,k0,t0,vI c0.2]) (ds:=[vI d0.fe,vI d0.fh,vI d0.fj,s0,j0,vI c0.2,vI b0.fe,vI b0.fh,vI b0.fj,k0,j0,vI a4,vI 0,vI 0,vI 0,vN,vN,vI 0]) (mk_Th b0 H0 C0 (Ao M0 (Tt x0 F0)) c0.2) (Am (cs:=[vI d0.fe,vI d0.fh,vI d0.fj,s0,j0,vI c0.2]) (ds:=[vI b0.fe,vI b0.fh,vI b0.fj,k0,j0,vI a4,vI 0,vI 0,vI 0,vN,vN,vI 0]) (mk_Th d0 (Ao P0 F0) c0.1 I0 c0.2) (Am (cs:=[vI b0.fe,vI b0.fh,vI b0.fj,k0,j0,vI a4]) (ds:=[vI 0,vI 0,vI 0,vN,vN,vI 0]) (mk_Th b0 H0 c0.1 I0 a4) (Am (cs:=[vI 0,vI 0,vI 0,vN,vN,vI 0]) (ds:=[]) (mk_Th (⟨(0:Int),(0:Int),(0:Int),([]:List Tb)⟩:Tc) (Rep.nilAt (α:=Tb) u0 L) ([]:List Int) (Rep.nilAt (α:=Int) u0 L) (0:Int)) (AD _ _))))))) hL)
 refine AT hb0 Tryz.func6 rfl rfl ?_
 cases h
 exact ⟨D0.ag,fun w9 hw9=>⟨(vS Q0 5),rfl,D0.kd v1 hw9⟩⟩
def br_l1 (_n:Nat) (a0:ByteArray) (g0:Int -> Option (Bool ⊕ Unit)):Int -> Option (Bool ⊕ Unit)
  | d0=>(if d0 < ((a0.size:Nat):Int) then (sidx a0 d0).bind fun b0=>jn (fun j0=>(if j0 = true then some (.inl false) else (chk (d0 + 1)).bind fun k0=>g0 k0)) (fun c0=>(if 65 <= b0.toNat then (if b0.toNat <= 90 then c0 false else (if 97 <= b0.toNat then (if b0.toNat <= 122 then c0 false else (if 48 <= b0.toNat then (if b0.toNat <= 57 then c0 false else (if b0.toNat = 45 then c0 false else c0 (!(decide (b0.toNat = 95))))) else (if b0.toNat = 45 then c0 false else c0 (!(decide (b0.toNat = 95)))))) else (if 48 <= b0.toNat then (if b0.toNat <= 57 then c0 false else (if b0.toNat = 45 then c0 false else c0 (!(decide (b0.toNat = 95))))) else (if b0.toNat = 45 then c0 false else c0 (!(decide (b0.toNat = 95))))))) else (if 97 <= b0.toNat then (if b0.toNat <= 122 then c0 false else (if 48 <= b0.toNat then (if b0.toNat <= 57 then c0 false else (if b0.toNat = 45 then c0 false else c0 (!(decide (b0.toNat = 95))))) else (if b0.toNat = 45 then c0 false else c0 (!(decide (b0.toNat = 95)))))) else (if 48 <= b0.toNat then (if b0.toNat <= 57 then c0 false else (if b0.toNat = 45 then c0 false else c0 (!(decide (b0.toNat = 95))))) else (if b0.toNat = 45 then c0 false else c0 (!(decide (b0.toNat = 95)))))))) else some (.inr ()))
def br_p (n:Nat) (a0:ByteArray):Option Bool:=
  thn (loopF (br_l1 n a0) n 0) (fun _=>(if 1 <= a0.size then some (decide (a0.size <= 12)) else some false))
theorem br_c (n:Nat) (L:List Nat) (w:World) (_hL:∀ b ∈ L,b < w.heap.size) {a0:ByteArray}  {r:Bool} (h:br_p n a0 = some r) :
    Calls Tryz.prog 170 #[.string a0] w (Gives w fun _ u=>u = .bool r):=by
 unfold br_p at h
 refine AF Tryz.func170 rfl rfl rfl fun _ cs0 hb0=>Ac<|Af rfl<|Aa<|Aj<|Ac<|Af rfl<|Aa<|Ay<|tn h fun q1 b1 p0=>MX.lo (α:=Int) (fun g0=>[(0,.string a0),(3,vI g0)]) (fun g0=>[]) (fun g0=>g0) 0 b1 (AB w) ?_
 rintro k1 g0 s1 W0 c0 X0 h
 unfold br_l1 at h
 try dsimp only at h
 refine Aj<|Ac<|Ae rfl<|Ae rfl<|Ab (BK Tryz.underlying9 rfl)<|Ab (BR (i:=g0) (j:=((a0.size:Nat):Int)) rfl rfl)<|Aa<|AS rfl h (fun q0 h=>?_) (fun q0 h=>?_)
 refine Aq<|Aj<|Ay<|Ac<|Ae rfl<|Ae rfl<|bk h fun b0 g1 h=>?_
 obtain ⟨Z0,d1⟩:=sidx_in g1
 refine Ab (FV.strAt (k:=g0.toNat) Tryz.underlying9 rfl rfl Z0 d1)<|Af rfl<|Aa<|Aj<|MX.jo (α:=Bool) (fun j0=>[(0,.string a0),(3,vI g0),(44,.bool j0)]) (fun j0=>[]) (fun j0=>j0) c0 h ?_ ?_
 rintro j0 u1 k0 Y0 h
 try dsimp only at h
 refine MX.ifb rfl h (fun s0 h=>?_) (fun s0 h=>?_)
 refine Ac<|Af rfl<|Aa ?_
 have h:=thn_inl h p0
 refine Al rfl<|AT hb0 Tryz.func170 rfl rfl ?_
 cases h
 exact k0.gv
 refine Aq<|AA<|Av<|Ae rfl<|bk h fun j1 c1 h=>Ab (BL (i:=g0) (j:=1) rfl rfl c1)<|Af rfl<|Aa<|W0 j1 k0 (Tt X0 Y0) h
 intro p1 d0 h
 try dsimp only at h
 refine Av<|Ae rfl<|Ab (FV.geqN (i:=b0.toNat) (j:=65) rfl rfl)<|Ae rfl<|BE (s:=16) rfl h (fun t0 h=>?_) (fun t0 h=>?_)
 refine AJ (Ai rfl)<|AJ (FV.leqN (i:=b0.toNat) (j:=90) rfl rfl)<|Br rfl rfl<|Ae rfl<|BE (s:=20) rfl h (fun u0 h=>?_) (fun u0 h=>?_)
 refine Aw<|Aw<|Aw<|RG.un<|RG.un<|Aw<|Br rfl rfl<|Ae rfl<|Aw<|Aw<|Aw<|RG.un<|RG.un<|Aw<|Br rfl rfl<|Ae rfl<|Aw<|Aw<|Br rfl rfl<|Ae rfl<|Aw<|Aw<|Br rfl rfl<|Ab (Bo rfl)<|Aa<|d0 false c0 (Bv _ _) h
 refine AJ (Ai rfl)<|AJ (FV.geqN (i:=b0.toNat) (j:=97) rfl rfl)<|AJ (Ai rfl)<|BE (s:=23) rfl h (fun v0 h=>?_) (fun v0 h=>?_)
 refine AJ (Ai rfl)<|AJ (FV.leqN (i:=b0.toNat) (j:=122) rfl rfl)<|AJ (BC rfl rfl)<|Bx rfl rfl<|Ae rfl<|BE (s:=28) rfl h (fun x0 h=>?_) (fun x0 h=>?_)
 refine Aw<|Aw<|Aw<|RG.un<|RG.un<|Aw<|Br rfl rfl<|Ae rfl<|Aw<|Aw<|Br rfl rfl<|Ae rfl<|Aw<|Aw<|Br rfl rfl<|Ab (Bo rfl)<|Aa<|d0 false c0 (Bv _ _) h
 refine AJ (Ai rfl)<|AJ (FV.geqN (i:=b0.toNat) (j:=48) rfl rfl)<|AJ (Ai rfl)<|BE (s:=31) rfl h (fun y0 h=>?_) (fun y0 h=>?_)
 refine AJ (Ai rfl)<|AJ (FV.leqN (i:=b0.toNat) (j:=57) rfl rfl)<|AJ (BC rfl rfl)<|Bx rfl rfl<|Ae rfl<|BE (s:=36) rfl h (fun z0 h=>?_) (fun z0 h=>?_)
 refine Aw<|Aw<|Br rfl rfl<|Ae rfl<|Aw<|Aw<|Br rfl rfl<|Ab (Bo rfl)<|Aa<|d0 false c0 (Bv _ _) h
 refine AJ (Ai rfl)<|AJ (BQ (i:=b0.toNat) (j:=45) rfl rfl)<|Bx rfl rfl<|Ae rfl<|BE (s:=40) rfl h (fun A0 h=>?_) (fun A0 h=>?_)
 refine Aw<|Aw<|Br rfl rfl<|Ab (Bo rfl)<|Aa<|d0 false c0 (Bv _ _) h
 refine AJ (Ai rfl)<|AJ (BQ (i:=b0.toNat) (j:=95) rfl rfl)<|Bx rfl rfl<|Ab (Bo rfl)<|Aa<|d0 (!(decide (b0.toNat = 95))) c0 (Bv _ _) h
 refine Aw<|Aw<|AJ (Bh rfl rfl)<|Bx rfl rfl<|Ae rfl<|AJ (Ai rfl)<|AJ (BQ (i:=b0.toNat) (j:=45) rfl rfl)<|Bx rfl rfl<|Ae rfl<|BE (s:=40) rfl h (fun B0 h=>?_) (fun B0 h=>?_)
 refine Aw<|Aw<|Br rfl rfl<|Ab (Bo rfl)<|Aa<|d0 false c0 (Bv _ _) h
 refine AJ (Ai rfl)<|AJ (BQ (i:=b0.toNat) (j:=95) rfl rfl)<|Bx rfl rfl<|Ab (Bo rfl)<|Aa<|d0 (!(decide (b0.toNat = 95))) c0 (Bv _ _) h
 refine Aw<|Aw<|AJ (Bh rfl rfl)<|Bx rfl rfl<|Ae rfl<|AJ (Ai rfl)<|AJ (FV.geqN (i:=b0.toNat) (j:=48) rfl rfl)<|AJ (Ai rfl)<|BE (s:=31) rfl h (fun C0 h=>?_) (fun C0 h=>?_)
 refine AJ (Ai rfl)<|AJ (FV.leqN (i:=b0.toNat) (j:=57) rfl rfl)<|AJ (BC rfl rfl)<|Bx rfl rfl<|Ae rfl<|BE (s:=36) rfl h (fun D0 h=>?_) (fun D0 h=>?_)
 refine Aw<|Aw<|Br rfl rfl<|Ae rfl<|Aw<|Aw<|Br rfl rfl<|Ab (Bo rfl)<|Aa<|d0 false c0 (Bv _ _) h
 refine AJ (Ai rfl)<|AJ (BQ (i:=b0.toNat) (j:=45) rfl rfl)<|Bx rfl rfl<|Ae rfl<|BE (s:=40) rfl h (fun E0 h=>?_) (fun E0 h=>?_)
 refine Aw<|Aw<|Br rfl rfl<|Ab (Bo rfl)<|Aa<|d0 false c0 (Bv _ _) h
 refine AJ (Ai rfl)<|AJ (BQ (i:=b0.toNat) (j:=95) rfl rfl)<|Bx rfl rfl<|Ab (Bo rfl)<|Aa<|d0 (!(decide (b0.toNat = 95))) c0 (Bv _ _) h
 refine Aw<|Aw<|AJ (Bh rfl rfl)<|Bx rfl rfl<|Ae rfl<|AJ (Ai rfl)<|AJ (BQ (i:=b0.toNat) (j:=45) rfl rfl)<|Bx rfl rfl<|Ae rfl<|BE (s:=40) rfl h (fun F0 h=>?_) (fun F0 h=>?_)
 refine Aw<|Aw<|Br rfl rfl<|Ab (Bo rfl)<|Aa<|d0 false c0 (Bv _ _) h
 refine AJ (Ai rfl)<|AJ (BQ (i:=b0.toNat) (j:=95) rfl rfl)<|Bx rfl rfl<|Ab (Bo rfl)<|Aa<|d0 (!(decide (b0.toNat = 95))) c0 (Bv _ _) h
 refine Aw<|Aw<|Bx rfl rfl<|Ae rfl<|AJ (Ai rfl)<|AJ (FV.geqN (i:=b0.toNat) (j:=97) rfl rfl)<|AJ (Ai rfl)<|BE (s:=23) rfl h (fun G0 h=>?_) (fun G0 h=>?_)
 refine AJ (Ai rfl)<|AJ (FV.leqN (i:=b0.toNat) (j:=122) rfl rfl)<|AJ (BC rfl rfl)<|Bx rfl rfl<|Ae rfl<|BE (s:=28) rfl h (fun H0 h=>?_) (fun H0 h=>?_)
 refine Aw<|Aw<|Aw<|RG.un<|RG.un<|Aw<|Br rfl rfl<|Ae rfl<|Aw<|Aw<|Br rfl rfl<|Ae rfl<|Aw<|Aw<|Br rfl rfl<|Ab (Bo rfl)<|Aa<|d0 false c0 (Bv _ _) h
 refine AJ (Ai rfl)<|AJ (FV.geqN (i:=b0.toNat) (j:=48) rfl rfl)<|AJ (Ai rfl)<|BE (s:=31) rfl h (fun I0 h=>?_) (fun I0 h=>?_)
 refine AJ (Ai rfl)<|AJ (FV.leqN (i:=b0.toNat) (j:=57) rfl rfl)<|AJ (BC rfl rfl)<|Bx rfl rfl<|Ae rfl<|BE (s:=36) rfl h (fun J0 h=>?_) (fun J0 h=>?_)
 refine Aw<|Aw<|Br rfl rfl<|Ae rfl<|Aw<|Aw<|Br rfl rfl<|Ab (Bo rfl)<|Aa<|d0 false c0 (Bv _ _) h
 refine AJ (Ai rfl)<|AJ (BQ (i:=b0.toNat) (j:=45) rfl rfl)<|Bx rfl rfl<|Ae rfl<|BE (s:=40) rfl h (fun K0 h=>?_) (fun K0 h=>?_)
 refine Aw<|Aw<|Br rfl rfl<|Ab (Bo rfl)<|Aa<|d0 false c0 (Bv _ _) h
 refine AJ (Ai rfl)<|AJ (BQ (i:=b0.toNat) (j:=95) rfl rfl)<|Bx rfl rfl<|Ab (Bo rfl)<|Aa<|d0 (!(decide (b0.toNat = 95))) c0 (Bv _ _) h
 refine Aw<|Aw<|AJ (Bh rfl rfl)<|Bx rfl rfl<|Ae rfl<|AJ (Ai rfl)<|AJ (BQ (i:=b0.toNat) (j:=45) rfl rfl)<|Bx rfl rfl<|Ae rfl<|BE (s:=40) rfl h (fun M0 h=>?_) (fun M0 h=>?_)
 refine Aw<|Aw<|Br rfl rfl<|Ab (Bo rfl)<|Aa<|d0 false c0 (Bv _ _) h
 refine AJ (Ai rfl)<|AJ (BQ (i:=b0.toNat) (j:=95) rfl rfl)<|Bx rfl rfl<|Ab (Bo rfl)<|Aa<|d0 (!(decide (b0.toNat = 95))) c0 (Bv _ _) h
 refine Aw<|Aw<|AJ (Bh rfl rfl)<|Bx rfl rfl<|Ae rfl<|AJ (Ai rfl)<|AJ (FV.geqN (i:=b0.toNat) (j:=48) rfl rfl)<|AJ (Ai rfl)<|BE (s:=31) rfl h (fun P0 h=>?_) (fun P0 h=>?_)
 refine AJ (Ai rfl)<|AJ (FV.leqN (i:=b0.toNat) (j:=57) rfl rfl)<|AJ (BC rfl rfl)<|Bx rfl rfl<|Ae rfl<|BE (s:=36) rfl h (fun Q0 h=>?_) (fun Q0 h=>?_)
 refine Aw<|Aw<|Br rfl rfl<|Ae rfl<|Aw<|Aw<|Br rfl rfl<|Ab (Bo rfl)<|Aa<|d0 false c0 (Bv _ _) h
 refine AJ (Ai rfl)<|AJ (BQ (i:=b0.toNat) (j:=45) rfl rfl)<|Bx rfl rfl<|Ae rfl<|BE (s:=40) rfl h (fun R0 h=>?_) (fun R0 h=>?_)
 refine Aw<|Aw<|Br rfl rfl<|Ab (Bo rfl)<|Aa<|d0 false c0 (Bv _ _) h
 refine AJ (Ai rfl)<|AJ (BQ (i:=b0.toNat) (j:=95) rfl rfl)<|Bx rfl rfl<|Ab (Bo rfl)<|Aa<|d0 (!(decide (b0.toNat = 95))) c0 (Bv _ _) h
 refine Aw<|Aw<|AJ (Bh rfl rfl)<|Bx rfl rfl<|Ae rfl<|AJ (Ai rfl)<|AJ (BQ (i:=b0.toNat) (j:=45) rfl rfl)<|Bx rfl rfl<|Ae rfl<|BE (s:=40) rfl h (fun U0 h=>?_) (fun U0 h=>?_)
 refine Aw<|Aw<|Br rfl rfl<|Ab (Bo rfl)<|Aa<|d0 false c0 (Bv _ _) h
 refine AJ (Ai rfl)<|AJ (BQ (i:=b0.toNat) (j:=95) rfl rfl)<|Bx rfl rfl<|Ab (Bo rfl)<|Aa<|d0 (!(decide (b0.toNat = 95))) c0 (Bv _ _) h
 refine Ba rfl ?_
 have h:=thn_inr h p0
 try dsimp only at h
 refine Ac<|Ae rfl<|Ab (BK Tryz.underlying9 rfl)<|Ab (FV.geqN (i:=a0.size) (j:=1) rfl rfl)<|Ae rfl<|BE (s:=48) rfl h (fun V0 h=>?_) (fun V0 h=>?_)
 refine AJ (Ai rfl)<|AJ (BK Tryz.underlying9 rfl)<|AJ (FV.leqN (i:=a0.size) (j:=12) rfl rfl)<|Br rfl rfl<|Af rfl<|Aa<|Al rfl<|AT hb0 Tryz.func170 rfl rfl ?_
 cases h
 exact c0.gv
 refine Aw<|Aw<|Aw<|Bx rfl rfl<|Af rfl<|Aa<|Al rfl<|AT hb0 Tryz.func170 rfl rfl ?_
 cases h
 exact c0.gv
def al_l1 (_n:Nat) (a0:List Int) (a2:Int) (d0:Nat -> Option (Bool ⊕ Unit)):Nat -> Option (Bool ⊕ Unit)
  | b0=>(if b0 < a0.length then (a0[b0]?).bind fun c0=>(if c0 < 0 then some (.inl false) else (if a2 < c0 then some (.inl false) else d0 (b0 + 1))) else some (.inr ()))
def al_p (n:Nat) (a0:List Int) (a1:Int) (a2:Int):Option Bool:=
  thn (loopF (al_l1 n a0 a2) n 0) (fun _=>some (decide (((a0.length:Nat):Int) = a1)))
theorem al_c (n:Nat) (L:List Nat) (w:World) (_hL:∀ b ∈ L,b < w.heap.size) {a0:List Int} {v0_0:Value} (h0_0:Rep.R w L [v0_0] a0) {a1:Int} {a2:Int}  {r:Bool} (h:al_p n a0 a1 a2 = some r) :
    Calls Tryz.prog 171 #[v0_0,vI a1,vI a2] w (Gives w fun _ u=>u = .bool r):=by
 unfold al_p at h
 refine AF Tryz.func171 rfl rfl rfl fun _ cs0 hb0=>Ac<|Af rfl<|Aa<|Aj<|Ac<|Af rfl<|Aa<|Ay<|tn h fun H0 A0 g0=>MX.lo (α:=Nat) (fun b0=>[(0,v0_0),(1,vI a1),(2,vI a2),(7,vI ((b0:Nat):Int))]) (fun b0=>[]) (fun b0=>b0) 0 A0 (AB w) ?_
 rintro E0 b0 I0 x0 c0 y0 h
 unfold al_l1 at h
 try dsimp only at h
 refine Aj<|Ac<|Ae rfl<|Ae rfl ?_
 have d0:=AO h0_0 c0
 have G0:a0.length <= 281474976710656:=AY d0
 refine Ab (Bc (xs:=a0) Tryz.underlying45 rfl d0)<|Ab (Bu (i:=b0) (j:=a0.length) rfl rfl)<|Aa<|AS rfl h (fun s0 h=>?_) (fun s0 h=>?_)
 refine Aq<|Aj<|Ay<|Ac<|Ae rfl<|Ae rfl<|bk h fun j0 C0 h=>?_
 obtain ⟨D0,F0,k0,p0,v0,B0,q0⟩:=Bl d0 C0
 have z0:v0 = [vI j0]:=B0; subst z0
 refine Ab (Bm 1 b0 rfl k0 rfl rfl p0)<|AP rfl (q0 0 _ rfl)<|Ab (BR (i:=j0) (j:=0) rfl rfl)<|Ae rfl<|BE (s:=19) rfl h (fun t0 h=>?_) (fun t0 h=>?_)
 refine Aw<|Aw<|Aw<|Aw<|Aw<|Aw<|Br rfl rfl<|Aa<|Bk rfl<|Ac<|Af rfl<|Aa ?_
 have h:=thn_inl h g0
 refine Al rfl<|AT hb0 Tryz.func171 rfl rfl ?_
 cases h
 exact c0.gv
 refine AJ (Ai rfl)<|AJ (Ai rfl)<|AJ (Bm 1 b0 rfl k0 rfl rfl p0)<|AJ (AL rfl (q0 0 _ rfl))<|AJ (Ai rfl)<|AJ (FV.gtr (i:=j0) (j:=a2) rfl rfl)<|Bx rfl rfl<|Aa<|AS rfl h (fun u0 h=>?_) (fun u0 h=>?_)
 refine Ac<|Af rfl<|Aa ?_
 have h:=thn_inl h g0
 refine Al rfl<|AT hb0 Tryz.func171 rfl rfl ?_
 cases h
 exact c0.gv
 refine Aq<|AA<|Av<|Ae rfl<|Ab (Bw (i:=b0) (j:=1) rfl rfl (by omega))<|Af rfl<|Aa<|x0 (b0 + 1) c0 y0 h
 refine Ba rfl ?_
 have h:=thn_inr h g0
 try dsimp only at h
 refine Ac<|Ae rfl<|Ab (Bc (xs:=a0) Tryz.underlying45 rfl d0)<|Ae rfl<|Ab (FV.eql (i:=((a0.length:Nat):Int)) (j:=a1) rfl rfl)<|Af rfl<|Aa<|Al rfl<|AT hb0 Tryz.func171 rfl rfl ?_
 cases h
 exact c0.gv
theorem body170:bodyB Tryz.prog 170 = true:=by kernel_rfl
theorem body171:bodyB Tryz.prog 171 = true:=by kernel_rfl
def cj_p (n:Nat) (a0:Tc) (a1:Tb):Option Bool:=
  (br_p n a1.fw).bind fun b0=>(if b0 = true then (if a1.fv < 0 then some false else (if 1000000000 < a1.fv then some false else (al_p n a1.fe a0.fe a1.fv).bind fun c0=>(if c0 = true then (al_p n a1.fC a0.fh (1000000000:Int)).bind fun d0=>(if d0 = true then (al_p n a1.fB a0.fj (63:Int)).bind fun g0=>(if g0 = true then (if a1.fu = true then (if a1.fv = 0 then (al_p n a1.fC a0.fh (0:Int)).bind fun j0=>(if j0 = true then (al_p n a1.fB a0.fj (0:Int)).bind fun k0=>some k0 else some false) else some false) else some true) else some false) else some false) else some false))) else some false)
theorem cj_c (n:Nat) (L:List Nat) (w:World) (hL:∀ b ∈ L,b < w.heap.size) (a0:Tc) {v0_3:Value} (_h0_3:Rep.R w L [v0_3] a0.fo) (a1:Tb) {v1_2:Value} (h1_2:Rep.R w L [v1_2] a1.fe) {v1_3:Value} (h1_3:Rep.R w L [v1_3] a1.fC) {v1_4:Value} (h1_4:Rep.R w L [v1_4] a1.fB)  {r:Bool} (h:cj_p n a0 a1 = some r) :
    Calls Tryz.prog 142 #[.agg #[vI a0.fe,vI a0.fh,vI a0.fj,v0_3],.agg #[.string a1.fw,vI a1.fv,v1_2,v1_3,v1_4,.bool a1.fu]] w (Gives w fun _ u=>u = .bool r):=by
 unfold cj_p at h
 refine AF Tryz.func142 rfl rfl rfl fun _ cs0 hb0=>Ac<|RG.bx (AB w) rfl rfl fun Q0 J0 v0 M0=>RG.bx v0 rfl rfl fun R0 K0 b0 P0=>Af rfl<|Aa<|Aj<|Ac<|AV 0 rfl<|AP rfl ((b0.memA .hd) 0 _ rfl)<|bk h fun D0 x0 h=>Bi (.bool D0) body170 rfl (e1 rfl) (fun w9 hw9=>br_c n _ w9 (b0.hL0 hL hw9)  x0) rfl<|Ab (Bo rfl)<|Ae rfl<|RG.ifnb (s:=9) rfl h (fun c0 h=>?_) (fun c0 h=>?_)
 refine RG.fg 1 rfl<|AJ (AL rfl ((b0.memA .hd) 1 _ rfl))<|AJ (BR (i:=a1.fv) (j:=0) rfl rfl)<|Bx rfl rfl<|Ae rfl<|BE (s:=14) rfl h (fun d0 h=>?_) (fun d0 h=>?_)
 refine Aw<|Aw<|Aw<|Br rfl rfl<|Aa<|Bk rfl<|Ac<|Af rfl<|Aa<|Al rfl<|AT hb0 Tryz.func142 rfl rfl ?_
 cases h
 exact b0.gv
 refine RG.fg 1 rfl<|AJ (AL rfl ((b0.memA .hd) 1 _ rfl))<|AJ (FV.gtr (i:=a1.fv) (j:=1000000000) rfl rfl)<|Bx rfl rfl<|Aa<|AS rfl h (fun g0 h=>?_) (fun g0 h=>?_)
 refine Ac<|Af rfl<|Aa<|Al rfl<|AT hb0 Tryz.func142 rfl rfl ?_
 cases h
 exact b0.gv
 refine Aq<|Aj<|Ac<|AV 2 rfl<|AP rfl ((b0.memA .hd) 2 _ rfl)<|AV 0 rfl<|AP rfl ((b0.memA .t1) 0 _ rfl)<|AV 1 rfl<|AP rfl ((b0.memA .hd) 1 _ rfl)<|bk h fun E0 y0 h=>Bi (.bool E0) body171 rfl (e3 rfl rfl rfl) (fun w9 hw9=>al_c n _ w9 (b0.hL0 hL hw9) (b0.k0 h1_2 hw9) y0) rfl<|Ab (Bo rfl)<|Ae rfl<|RG.ifnb (s:=27) rfl h (fun j0 h=>?_) (fun j0 h=>?_)
 refine RG.fg 3 rfl<|AJ (AL rfl ((b0.memA .hd) 3 _ rfl))<|RG.fg 1 rfl<|AJ (AL rfl ((b0.memA .t1) 1 _ rfl))<|bk h fun F0 z0 h=>RG.callq' (v:=.bool F0) (fst:=[]) (cap:=[]) (.yes rfl rfl) body171 rfl (e3 rfl rfl rfl) (fun w9 hw9=>al_c n _ w9 (b0.hL0 hL hw9) (b0.k0 h1_3 hw9) z0) rfl<|AJ (Bo rfl)<|Bx rfl rfl<|Ae rfl<|RG.ifnb (s:=35) rfl h (fun p0 h=>?_) (fun p0 h=>?_)
 refine RG.fg 4 rfl<|AJ (AL rfl ((b0.memA .hd) 4 _ rfl))<|RG.fg 2 rfl<|AJ (AL rfl ((b0.memA .t1) 2 _ rfl))<|bk h fun G0 A0 h=>RG.callq' (v:=.bool G0) (fst:=[]) (cap:=[]) (.yes rfl rfl) body171 rfl (e3 rfl rfl rfl) (fun w9 hw9=>al_c n _ w9 (b0.hL0 hL hw9) (b0.k0 h1_4 hw9) A0) rfl<|AJ (Bo rfl)<|Bx rfl rfl<|Aa<|MX.ifnb rfl h (fun q0 h=>?_) (fun q0 h=>?_)
 refine Aq<|Aj<|Ac<|AV 5 rfl<|AP rfl ((b0.memA .hd) 5 _ rfl)<|Aa<|MX.ifb rfl h (fun s0 h=>?_) (fun s0 h=>?_)
 refine Ac<|AV 1 rfl<|AP rfl ((b0.memA .hd) 1 _ rfl)<|Ab (FV.eql (i:=a1.fv) (j:=0) rfl rfl)<|Ae rfl<|BE (s:=48) rfl h (fun t0 h=>?_) (fun t0 h=>?_)
 refine RG.fg 3 rfl<|AJ (AL rfl ((b0.memA .hd) 3 _ rfl))<|RG.fg 1 rfl<|AJ (AL rfl ((b0.memA .t1) 1 _ rfl))<|bk h fun H0 B0 h=>RG.callq' (v:=.bool H0) (fst:=[]) (cap:=[]) (.yes rfl rfl) body171 rfl (e3 rfl rfl rfl) (fun w9 hw9=>al_c n _ w9 (b0.hL0 hL hw9) (b0.k0 h1_3 hw9) B0) rfl<|Br rfl rfl<|Ae rfl<|RG.ifb (s:=55) rfl h (fun u0 h=>?_) (fun u0 h=>?_)
 refine RG.fg 4 rfl<|AJ (AL rfl ((b0.memA .hd) 4 _ rfl))<|RG.fg 2 rfl<|AJ (AL rfl ((b0.memA .t1) 2 _ rfl))<|bk h fun I0 C0 h=>RG.callq' (v:=.bool I0) (fst:=[]) (cap:=[]) (.yes rfl rfl) body171 rfl (e3 rfl rfl rfl) (fun w9 hw9=>al_c n _ w9 (b0.hL0 hL hw9) (b0.k0 h1_4 hw9) C0) rfl<|Br rfl rfl<|Af rfl<|Aa<|Al rfl<|AT hb0 Tryz.func142 rfl rfl ?_
 cases h
 exact b0.gv
 refine Aw<|Aw<|Aw<|Aw<|Aw<|Bx rfl rfl<|Af rfl<|Aa<|Al rfl<|AT hb0 Tryz.func142 rfl rfl ?_
 cases h
 exact b0.gv
 refine Aw<|Aw<|Aw<|Aw<|Aw<|Bx rfl rfl<|Ae rfl<|Aw<|Aw<|Aw<|Aw<|Aw<|Bx rfl rfl<|Af rfl<|Aa<|Al rfl<|AT hb0 Tryz.func142 rfl rfl ?_
 cases h
 exact b0.gv
 refine Aq<|Ac<|Af rfl<|Aa<|Al rfl<|AT hb0 Tryz.func142 rfl rfl ?_
 cases h
 exact b0.gv
 refine Ac<|Af rfl<|Aa<|Al rfl<|AT hb0 Tryz.func142 rfl rfl ?_
 cases h
 exact b0.gv
 refine Aw<|Aw<|Aw<|Aw<|Aw<|Aw<|Br rfl rfl<|Aa<|Bk rfl<|Ac<|Af rfl<|Aa<|Al rfl<|AT hb0 Tryz.func142 rfl rfl ?_
 cases h
 exact b0.gv
 refine Aw<|Aw<|Aw<|Aw<|Aw<|Aw<|Br rfl rfl<|Ae rfl<|Aw<|Aw<|Aw<|Aw<|Aw<|Aw<|Br rfl rfl<|Aa<|Bk rfl<|Ac<|Af rfl<|Aa<|Al rfl<|AT hb0 Tryz.func142 rfl rfl ?_
 cases h
 exact b0.gv
 refine Aw<|Aw<|Aw<|Br rfl rfl<|Ae rfl<|Aw<|Aw<|Aw<|Br rfl rfl<|Aa<|Bk rfl<|Ac<|Af rfl<|Aa<|Al rfl<|AT hb0 Tryz.func142 rfl rfl ?_
 cases h
 exact b0.gv
def tb104_8:List (Nat × Nat × Nat):=[(0,144115188075855872,2),(0,288230376151711744,2),(2,576460752303423488,288230376151711744),(0,1152921504606846976,8),(12,2305843009213693952,1729382256910270464),(16,4611686018427387904,2305843009213693952),(33,9223372036854775808,4755801206503243776),(64,18446744073709551616,9223372036854775808)]
def tb104_13:List (Nat × Nat × Nat):=[(0,1180591620717411303424,2),(1,2361183241434822606848,1180591620717411303424),(0,4722366482869645213696,16),(6,9444732965739290427392,7083549724304467820544),(8,18889465931478580854784,9444732965739290427392),(16,37778931862957161709568,18889465931478580854784),(0,75557863725914323419136,2),(64,151115727451828646838272,75557863725914323419136),(0,302231454903657293676544,8),(384,604462909807314587353088,453347182355485940514816),(512,1208925819614629174706176,604462909807314587353088),(1024,2417851639229258349412352,1208925819614629174706176),(2080,4835703278458516698824704,2455630571092215511121920),(4096,9671406556917033397649408,4835703278458516698824704),(8192,19342813113834066795298816,9671406556917033397649410),(24576,38685626227668133590597632,29014219670751100192948224),(8192,77371252455336267181195264,9671406556917033397649424),(106496,154742504910672534362390528,125728285239921434169442304),(139264,309485009821345068724781056,164413911467589567760039936),(270336,618970019642690137449562112,319156416378262102122430464),(532480,1237940039285380274899124224,628641426199607170847211520),(1048576,2475880078570760549798248448,1237940039285380274899124226),(3145728,4951760157141521099596496896,3713820117856140824697372672),(1048576,9903520314283042199192993792,1237940039285380274899124232),(13631488,19807040628566084398385987584,16093220510709943573688614912),(17825792,39614081257132168796771975168,21044980667851464673285111808),(34603008,79228162514264337593543950336,40852021296417549071671099392),(68157440,158456325028528675187087900672,80466102553549717868443074560),(135274496,316912650057057350374175801344,159703936474370972495384674304),(268443648,633825300114114700748351602688,316922321463614267407573450752)]
theorem body142:bodyB Tryz.prog 142 = true:=by kernel_rfl
def aj_l1 (_n:Nat) (j0:Nat) (a0:Tc) (d0:Tb) (c0:Nat -> Option ((Int ⊕ Unit) ⊕ Unit)):Nat -> Option ((Int ⊕ Unit) ⊕ Unit)
  | b0=>(if b0 < j0 then (a0.fo[b0]?).bind fun g0=>(if g0.fw = d0.fw then some (.inl (.inl (161:Int))) else (if g0.fu = true then (if d0.fu = true then c0 (b0 + 1) else some (.inl (.inl (161:Int)))) else c0 (b0 + 1))) else some (.inr ()))
def aj_l2 (n:Nat) (a0:Tc) (d0:Nat -> Option (Int ⊕ Unit)):Nat -> Option (Int ⊕ Unit)
  | b0=>(if b0 < a0.fo.length then (a0.fo[b0]?).bind fun c0=>(cj_p n a0 c0).bind fun g0=>(if g0 = true then thn (loopF (aj_l1 n b0 a0 c0) n 0) (fun _=>d0 (b0 + 1)) else some (.inl (161:Int))) else some (.inr ()))
def aj_p (n:Nat) (a0:Tc):Option Int:=
  jn (fun c0=>(if c0 = true then some (161:Int) else (if a0.fo.length < 1 then some (161:Int) else (if 64 < a0.fo.length then some (161:Int) else (a0.fo[0]?).bind fun d0=>(if d0.fu = true then some (161:Int) else thn (loopF (aj_l2 n a0) n 0) (fun _=>some (0:Int))))))) (fun b0=>(if a0.fe < 0 then b0 true else (if 6 < a0.fe then b0 true else (if a0.fh < 0 then b0 true else (if 12 < a0.fh then b0 true else (if a0.fj < 0 then b0 true else b0 (decide (3 < a0.fj))))))))
theorem aj_c (n:Nat) (L:List Nat) (w:World) (hL:∀ b ∈ L,b < w.heap.size) (a0:Tc) {v0_3:Value} (h0_3:Rep.R w L [v0_3] a0.fo)  {r:Int} (h:aj_p n a0 = some r) :
    Calls Tryz.prog 104 #[.agg #[vI a0.fe,vI a0.fh,vI a0.fj,v0_3]] w (Gives w fun _ u=>u = vI r):=by
 unfold aj_p at h
 refine AF Tryz.func104 rfl rfl rfl fun _ cs0 hb0=>Ac<|RG.bx (AB w) rfl rfl fun Z2 v0 d0 t2=>Af rfl<|Aa<|Aj<|Aj<|MX.jo (α:=Bool) (fun y0=>[(1,vP v0),(32,.bool y0)]) (fun y0=>[.cells v0 [vI a0.fe,vI a0.fh,vI a0.fj,v0_3] 44]) (fun y0=>y0) d0 h ?_ ?_
 rintro y0 c3 s0 u2 h
 try dsimp only at h
 refine MX.ifb rfl h (fun V0 h=>?_) (fun V0 h=>?_)
 refine Ac<|Af rfl<|Aa<|Al rfl<|AT hb0 Tryz.func104 rfl rfl ?_
 cases h
 exact s0.gv
 refine Aq<|Aj<|Ac<|AV 3 rfl<|AP rfl ((s0.memA .hd) 3 _ rfl) ?_
 have A0:=AO h0_3 s0
 have v2:a0.fo.length <= 281474976710656:=AY A0
 refine Ab (Bc (xs:=a0.fo) Tryz.underlying42 rfl A0)<|Ab (Bu (i:=a0.fo.length) (j:=1) rfl rfl)<|Ae rfl<|BE (s:=37) rfl h (fun j1 h=>?_) (fun j1 h=>?_)
 refine Aw<|Aw<|Aw<|Aw<|Br rfl rfl<|Ae rfl<|Aw<|Aw<|Aw<|Aw<|Aw<|Br rfl rfl<|Aa<|Bk rfl<|Ac<|Af rfl<|Aa<|Al rfl<|AT hb0 Tryz.func104 rfl rfl ?_
 cases h
 exact s0.gv
 refine RG.fg 3 rfl<|AJ (AL rfl ((s0.memA .hd) 3 _ rfl))<|AJ (Bc (xs:=a0.fo) Tryz.underlying42 rfl A0)<|AJ (FV.gtrN (i:=a0.fo.length) (j:=64) rfl rfl)<|Bx rfl rfl<|Ae rfl<|BE (s:=43) rfl h (fun k1 h=>?_) (fun k1 h=>?_)
 refine Aw<|Aw<|Aw<|Aw<|Aw<|Br rfl rfl<|Aa<|Bk rfl<|Ac<|Af rfl<|Aa<|Al rfl<|AT hb0 Tryz.func104 rfl rfl ?_
 cases h
 exact s0.gv
 refine RG.fg 3 rfl<|AJ (AL rfl ((s0.memA .hd) 3 _ rfl))<|bk h fun j3 M1 h=>?_
 obtain ⟨X1,j2,v1,y1,s2,J1,A1⟩:=Bl A0 M1
 obtain ⟨W2,X2,Y2,rfl,D2,E2,F2⟩:=op_Tb J1
 refine AJ (Bm 6 0 rfl v1 rfl rfl y1)<|RG.fg 5 rfl<|AJ (AL rfl (A1 5 _ rfl))<|Bx rfl rfl<|Aa<|MX.ifb rfl h (fun p1 h=>?_) (fun p1 h=>?_)
 refine Ac<|Af rfl<|Aa<|Al rfl<|AT hb0 Tryz.func104 rfl rfl ?_
 cases h
 exact s0.gv
 refine Aq<|Aj<|Ac<|Af rfl<|Aa<|Ay<|tn h fun G2 B1 z0=>MX.lo (α:=Nat) (fun g0=>[(1,vP v0),(3,vI ((g0:Nat):Int))]) (fun g0=>[.cells v0 [vI a0.fe,vI a0.fh,vI a0.fj,v0_3] 44]) (fun g0=>g0) 0 B1 s0 ?_
 rintro Y1 g0 b3 q1 j0 s1 h
 unfold aj_l2 at h
 try dsimp only at h
 refine Aj<|Ac<|Ae rfl<|AV 3 rfl<|AP rfl ((j0.memA .hd) 3 _ rfl) ?_
 have I0:=AO h0_3 j0
 refine Ab (Bc (xs:=a0.fo) Tryz.underlying42 rfl I0)<|Ab (Bu (i:=g0) (j:=a0.fo.length) rfl rfl)<|Aa<|AS rfl h (fun Q0 h=>?_) (fun Q0 h=>?_)
 refine Aq<|Aj<|Ay<|Aj<|Aj<|dt 8 tb104_8 fun t0 u0=>AG 0 1 192 t0 rfl u0 (AK rfl (j0.memA .hd)) rfl<|Ag 1 3 t0 rfl u0 (fun _=>Bd 3 rfl) rfl<|AG 2 7 240 t0 rfl u0 (AL rfl ((j0.memA .hd) 3 _ rfl)) rfl<|Ag 3 15 t0 rfl u0 (fun _=>Ai rfl) rfl<|bk h fun Q1 P0 h=>?_
 obtain ⟨U1,c2,u1,x1,k2,D1,z1⟩:=Bl I0 P0
 obtain ⟨I2,J2,K2,rfl,E1,F1,G1⟩:=op_Tb D1
 refine Ag 4 31 t0 rfl u0 (fun _=>Bm 6 g0 rfl u1 rfl rfl x1) rfl<|AG 5 63 192 t0 rfl u0 (AK rfl z1) rfl<|bk h fun R1 P1 h=>BT 6 127 128 (.bool R1) t0 rfl u0 body142 rfl (e2 rfl rfl) (fun w9 hw9=>cj_c n _ w9 (j0.hL0 hL hw9) a0 (j0.k0 h0_3 hw9) Q1 (j0.kd E1 hw9) (j0.kd F1 hw9) (j0.kd G1 hw9) P1) rfl<|Ag 7 255 t0 rfl u0 (fun _=>Bo rfl) rfl<|AM (dk t0)<|MX.ifnb rfl h (fun R0 h=>?_) (fun R0 h=>?_)
 refine Aq<|Ac<|Af rfl<|Aa<|Ay<|tn h fun H2 C1 C0=>MX.lo (α:=Nat) (fun p0=>[(1,vP v0),(3,vI ((g0:Nat):Int)),(4,vI ((p0:Nat):Int))]) (fun p0=>[.cells v0 [vI a0.fe,vI a0.fh,vI a0.fj,v0_3] 44]) (fun p0=>p0) 0 C1 j0 ?_
 rintro Z1 p0 d3 D0 q0 B0 h
 unfold aj_l1 at h
 try dsimp only at h
 refine Aj<|Ac<|Ae rfl<|Ae rfl<|Ab (Bu (i:=p0) (j:=g0) rfl rfl)<|Aa<|AS rfl h (fun U0 h=>?_) (fun U0 h=>?_)
 refine Aq<|Aj<|Ay<|Aj<|dt 30 tb104_13 fun b0 c0=>Ag 0 1 b0 rfl c0 (fun _=>Bd 3 rfl) rfl<|AG 1 3 1073737784 b0 rfl c0 (AL rfl ((q0.memA .hd) 3 _ rfl)) rfl<|Ag 2 7 b0 rfl c0 (fun _=>Ai rfl) rfl<|bk h fun g3 K1 h=>?_
 have K0:=AO h0_3 q0
 obtain ⟨V1,d2,E0,G0,p2,H1,J0⟩:=Bl K0 K1
 obtain ⟨M2,P2,Q2,rfl,x2,y2,z2⟩:=op_Tb H1
 refine Ag 3 15 b0 rfl c0 (fun _=>Bm 6 p0 rfl E0 rfl rfl G0) rfl<|Ag 4 31 b0 rfl c0 (fun _=>Bd 0 rfl) rfl<|AG 5 63 1073737728 b0 rfl c0 (AL rfl (J0 0 _ rfl)) rfl<|Ag 6 127 b0 rfl c0 (fun _=>Bd 3 rfl) rfl<|AG 7 255 1073741312 b0 rfl c0 (AL rfl ((q0.memA .hd) 3 _ rfl)) rfl<|Ag 8 511 b0 rfl c0 (fun _=>Ai rfl) rfl ?_
 obtain ⟨W1,g2,F0,H0,q2,I1,M0⟩:=Bl K0 P0
 obtain ⟨R2,U2,V2,rfl,A2,B2,C2⟩:=op_Tb I1
 refine Ag 9 1023 b0 rfl c0 (fun _=>Bm 6 g0 rfl F0 rfl rfl H0) rfl<|Ag 10 2047 b0 rfl c0 (fun _=>Bd 0 rfl) rfl<|AG 11 4095 1073737728 b0 rfl c0 (AL rfl (M0 0 _ rfl)) rfl<|Ag 12 8191 b0 rfl c0 (fun _=>FV.eqlS rfl rfl) rfl<|Ag 13 16383 b0 rfl c0 (fun _=>Ai rfl) rfl<|RD.ifd (s:=83) rfl h (fun W0 h=>?_) (fun W0 h=>?_)
 refine BD 536870911 1 [(14,84),(15,85),(16,86),(17,87),(18,88),(19,89),(20,90),(21,91),(22,92),(23,93),(24,94),(25,95),(26,96),(27,97),(28,98)] (F:=[(83,true)]) (U:=[]) b0 c0 (.cons rfl .nil) .nil ?_
 dsimp only [offS,List.map]
 refine Ag 29 1073741823 b0 rfl c0 (fun _=>BC rfl rfl) rfl<|AM (dk b0)<|Bk rfl<|Ac<|Af rfl<|Aa ?_
 have h:=thn_inl h C0
 have h:=thn_inl h z0
 refine Al rfl<|AT hb0 Tryz.func104 rfl rfl ?_
 cases h
 exact q0.gv
 refine BO 14 32767 b0 rfl c0 (.yes rfl rfl) (fun _=>Bd 3 rfl) rfl<|RD.val (i:=15) (m' :=65535) (W:=1073610752) (tk b0) rfl c0 (.yes rfl rfl) (AL rfl ((q0.memA .hd) 3 _ rfl)) rfl<|BO 16 131071 b0 rfl c0 (.yes rfl rfl) (fun _=>Ai rfl) rfl<|BO 17 262143 b0 rfl c0 (.yes rfl rfl) (fun _=>Bm 6 p0 rfl E0 rfl rfl G0) rfl<|BO 18 524287 b0 rfl c0 (.yes rfl rfl) (fun _=>Bd 5 rfl) rfl<|RD.val (i:=19) (m' :=1048575) (W:=1072693248) (tk b0) rfl c0 (.yes rfl rfl) (AL rfl (J0 5 _ rfl)) rfl<|BO 20 2097151 b0 rfl c0 (.yes rfl rfl) (fun _=>Ai rfl) rfl<|RD.ifb (s:=90) rfl h (fun X0 h=>?_) (fun X0 h=>?_)
 refine BO 21 4194303 b0 rfl c0 (.yes rfl rfl) (fun _=>Bd 3 rfl) rfl<|RD.val (i:=22) (m' :=8388607) (W:=1056964608) (tk b0) rfl c0 (.yes rfl rfl) (AL rfl ((q0.memA .hd) 3 _ rfl)) rfl<|BO 23 16777215 b0 rfl c0 (.yes rfl rfl) (fun _=>Ai rfl) rfl<|BO 24 33554431 b0 rfl c0 (.yes rfl rfl) (fun _=>Bm 6 g0 rfl F0 rfl rfl H0) rfl<|BO 25 67108863 b0 rfl c0 (.yes rfl rfl) (fun _=>Bd 5 rfl) rfl<|RD.val (i:=26) (m' :=134217727) (W:=939524096) (tk b0) rfl c0 (.yes rfl rfl) (AL rfl (M0 5 _ rfl)) rfl<|BO 27 268435455 b0 rfl c0 (.yes rfl rfl) (fun _=>Bo rfl) rfl<|BO 28 536870911 b0 rfl c0 (.yes rfl rfl) (fun _=>BC rfl rfl) rfl<|Ag 29 1073741823 b0 rfl c0 (fun _=>Bh rfl rfl) rfl<|AM (dk b0)<|MX.ifnb rfl h (fun Y0 h=>?_) (fun Y0 h=>?_)
 refine Aq<|AA<|Av<|Ae rfl<|Ab (Bw (i:=p0) (j:=1) rfl rfl (by omega))<|Af rfl<|Aa<|D0 (p0 + 1) q0 B0 h
 refine Ac<|Af rfl<|Aa ?_
 have h:=thn_inl h C0
 have h:=thn_inl h z0
 refine Al rfl<|AT hb0 Tryz.func104 rfl rfl ?_
 cases h
 exact q0.gv
 refine BD 268435455 2 [(21,91),(22,92),(23,93),(24,94),(25,95),(26,96),(27,97)] (F:=[(90,false)]) (U:=[]) b0 c0 (.cons rfl .nil) .nil ?_
 dsimp only [offS,List.map]
 refine BO 28 536870911 b0 rfl c0 (.yes rfl rfl) (fun _=>Bh rfl rfl) rfl<|Ag 29 1073741823 b0 rfl c0 (fun _=>Bh rfl rfl) rfl<|AM (dk b0)<|BF rfl<|Aq<|AA<|Av<|Ae rfl<|Ab (Bw (i:=p0) (j:=1) rfl rfl (by omega))<|Af rfl<|Aa<|D0 (p0 + 1) q0 B0 h
 refine Ba rfl ?_
 have h:=thn_inr h C0
 try dsimp only at h
 refine AA<|Av<|Ae rfl<|Ab (Bw (i:=g0) (j:=1) rfl rfl (by omega))<|Af rfl<|Aa<|q1 (g0 + 1) q0 (Tt s1 B0) h
 refine Ac<|Af rfl<|Aa ?_
 have h:=thn_inl h z0
 refine Al rfl<|AT hb0 Tryz.func104 rfl rfl ?_
 cases h
 exact j0.gv
 refine Ba rfl ?_
 have h:=thn_inr h z0
 try dsimp only at h
 refine Ac<|Af rfl<|Aa<|Al rfl<|AT hb0 Tryz.func104 rfl rfl ?_
 cases h
 exact j0.gv
 intro b2 x0 h
 try dsimp only at h
 refine Av<|AV 0 rfl<|AP rfl ((d0.memA .hd) 0 _ rfl)<|Ab (BR (i:=a0.fe) (j:=0) rfl rfl)<|Ae rfl<|BE (s:=8) rfl h (fun Z0 h=>?_) (fun Z0 h=>?_)
 refine Aw<|Aw<|Aw<|Br rfl rfl<|Ae rfl<|Aw<|Aw<|Aw<|Br rfl rfl<|Ae rfl<|Aw<|Aw<|Aw<|Br rfl rfl<|Ae rfl<|Aw<|Aw<|Aw<|Br rfl rfl<|Ae rfl<|Aw<|Aw<|Aw<|Br rfl rfl<|Aa<|x0 true d0 (Bv _ _) h
 refine RG.fg 0 rfl<|AJ (AL rfl ((d0.memA .hd) 0 _ rfl))<|AJ (FV.gtr (i:=a0.fe) (j:=6) rfl rfl)<|Bx rfl rfl<|Ae rfl<|BE (s:=13) rfl h (fun b1 h=>?_) (fun b1 h=>?_)
 refine Aw<|Aw<|Aw<|Br rfl rfl<|Ae rfl<|Aw<|Aw<|Aw<|Br rfl rfl<|Ae rfl<|Aw<|Aw<|Aw<|Br rfl rfl<|Ae rfl<|Aw<|Aw<|Aw<|Br rfl rfl<|Aa<|x0 true d0 (Bv _ _) h
 refine RG.fg 1 rfl<|AJ (AL rfl ((d0.memA .hd) 1 _ rfl))<|AJ (BR (i:=a0.fh) (j:=0) rfl rfl)<|Bx rfl rfl<|Ae rfl<|BE (s:=18) rfl h (fun c1 h=>?_) (fun c1 h=>?_)
 refine Aw<|Aw<|Aw<|Br rfl rfl<|Ae rfl<|Aw<|Aw<|Aw<|Br rfl rfl<|Ae rfl<|Aw<|Aw<|Aw<|Br rfl rfl<|Aa<|x0 true d0 (Bv _ _) h
 refine RG.fg 1 rfl<|AJ (AL rfl ((d0.memA .hd) 1 _ rfl))<|AJ (FV.gtr (i:=a0.fh) (j:=12) rfl rfl)<|Bx rfl rfl<|Ae rfl<|BE (s:=23) rfl h (fun d1 h=>?_) (fun d1 h=>?_)
 refine Aw<|Aw<|Aw<|Br rfl rfl<|Ae rfl<|Aw<|Aw<|Aw<|Br rfl rfl<|Aa<|x0 true d0 (Bv _ _) h
 refine RG.fg 2 rfl<|AJ (AL rfl ((d0.memA .hd) 2 _ rfl))<|AJ (BR (i:=a0.fj) (j:=0) rfl rfl)<|Bx rfl rfl<|Ae rfl<|BE (s:=28) rfl h (fun g1 h=>?_) (fun g1 h=>?_)
 refine Aw<|Aw<|Aw<|Br rfl rfl<|Aa<|x0 true d0 (Bv _ _) h
 refine RG.fg 2 rfl<|AJ (AL rfl ((d0.memA .hd) 2 _ rfl))<|AJ (FV.gtr (i:=a0.fj) (j:=3) rfl rfl)<|Bx rfl rfl<|Aa<|x0 (decide (3 < a0.fj)) d0 (Bv _ _) h
theorem body104:bodyB Tryz.prog 104 = true:=by kernel_rfl
def aV_p (n:Nat) (a0:Tc) (a1:Int):Option Int:=
  (aj_p n a0).bind fun b0=>(if b0 = 0 then (if a1 < 1 then some (2:Int) else (if 8 < a1 then some (2:Int) else some (0:Int))) else some b0)
theorem aV_c (n:Nat) (L:List Nat) (w:World) (hL:∀ b ∈ L,b < w.heap.size) (a0:Tc) {v0_3:Value} (h0_3:Rep.R w L [v0_3] a0.fo) {a1:Int}  {r:Int} (h:aV_p n a0 a1 = some r) :
    Calls Tryz.prog 55 #[.agg #[vI a0.fe,vI a0.fh,vI a0.fj,v0_3],vI a1] w (Gives w fun _ u=>u = vI r):=by
 unfold aV_p at h
 refine AF Tryz.func55 rfl rfl rfl fun _ cs0 hb0=>Ac<|RG.bx (AB w) rfl rfl fun t0 q0 b0 s0=>Af rfl<|Aa<|Aj<|Ac<|Ab (AK rfl (b0.memA .hd))<|bk h fun c0 p0 h=>Bi (vI c0) body104 rfl (e1 rfl) (fun w9 hw9=>aj_c n _ w9 (b0.hL0 hL hw9) a0 (b0.k0 h0_3 hw9) p0) rfl<|Af rfl<|Aa<|Ac<|Ae rfl<|Ab (FV.neq (i:=c0) (j:=0) rfl rfl)<|Aa<|MX.ifn rfl h (fun d0 h=>?_) (fun d0 h=>?_)
 refine Aq<|Aj<|Ac<|Ae rfl<|Ab (BR (i:=a1) (j:=1) rfl rfl)<|Ae rfl<|BE (s:=13) rfl h (fun g0 h=>?_) (fun g0 h=>?_)
 refine Aw<|Aw<|Br rfl rfl<|Aa<|Bk rfl<|Ac<|Af rfl<|Aa<|Al rfl<|AT hb0 Tryz.func55 rfl rfl ?_
 cases h
 exact b0.gv
 refine AJ (Ai rfl)<|AJ (FV.gtr (i:=a1) (j:=8) rfl rfl)<|Bx rfl rfl<|Aa<|AS rfl h (fun j0 h=>?_) (fun j0 h=>?_)
 refine Ac<|Af rfl<|Aa<|Al rfl<|AT hb0 Tryz.func55 rfl rfl ?_
 cases h
 exact b0.gv
 refine Aq<|Ac<|Af rfl<|Aa<|Al rfl<|AT hb0 Tryz.func55 rfl rfl ?_
 cases h
 exact b0.gv
 refine Ac<|Ae rfl<|Af rfl<|Aa<|Al rfl<|AT hb0 Tryz.func55 rfl rfl ?_
 cases h
 exact b0.gv
def aE_l1 (_n:Nat) (a2:Int) (j0:List Bool) (c0:Int -> Option (Bool ⊕ Unit)):Int -> Option (Bool ⊕ Unit)
  | b0=>(if b0 < a2 then (idx j0 b0).bind fun g0=>(if g0 = true then (chk (b0 + 1)).bind fun d0=>c0 d0 else some (.inl false)) else some (.inr ()))
def aE_l2 (_n:Nat) (a1:Int) (a0:List Int) (a2:Int) (g0:Int × (List Bool) -> Option (Bool ⊕ (List Bool))):Int × (List Bool) -> Option (Bool ⊕ (List Bool))
  | (d0,c0)=>(if d0 < a1 then (idx a0 d0).bind fun b0=>(if b0 < 0 then some (.inl false) else (if a2 <= b0 then some (.inl false) else (idx c0 b0).bind fun _x127=>(put c0 ((b0.toNat:Nat):Int) true).bind fun k0=>(chk (d0 + 1)).bind fun j0=>g0 (j0,k0))) else some (.inr c0))
def aE_p (n:Nat) (a0:List Int) (a1:Int) (a2:Int):Option Bool:=
  (if ((a0.length:Nat):Int) = a1 then (mk a2 false).bind fun c0=>thn (loopF (aE_l2 n a1 a0 a2) n (0,c0)) (fun b0=>thn (loopF (aE_l1 n a2 b0) n 0) (fun _=>some true)) else some false)
theorem aE_c (n:Nat) (L:List Nat) (w:World) (_hL:∀ b ∈ L,b < w.heap.size) {a0:List Int} {v0_0:Value} (h0_0:Rep.R w L [v0_0] a0) {a1:Int} {a2:Int}  {r:Bool} (h:aE_p n a0 a1 a2 = some r) :
    Calls Tryz.prog 59 #[v0_0,vI a1,vI a2] w (Gives w fun _ u=>u = .bool r):=by
 unfold aE_p at h
 have hS0:=AB w
 refine AF Tryz.func59 rfl rfl rfl fun _ cs0 hb0=>Ac<|Af rfl<|Aa<|Aj<|Ac<|Ae rfl ?_
 have hl1:a0.length <= 281474976710656:=AY h0_0
 refine Ab (Bc (xs:=a0) Tryz.underlying46 rfl h0_0)<|Ae rfl<|Ab (FV.neq (i:=((a0.length:Nat):Int)) (j:=a1) rfl rfl)<|Aa<|MX.ifn rfl h (fun c2 h=>?_) (fun c2 h=>?_)
 refine Aq<|Ac<|Ae rfl<|bk h fun J0 H0 h=>Ak .plain rfl (Does.mk (α:=Bool) H0 hS0 el142 rfl) fun x2 k0 B0 s2=>Af rfl<|Aa<|Aj<|Ac<|Af rfl<|Aa<|Ay<|tn h fun u2 B1 x0=>MX.lf (α:=Int × (List Bool) × (List Value)) (fun ⟨b0,c0,d0⟩=>[(0,v0_0),(1,vI a1),(2,vI a2),(7,(.slice (some ⟨k0,0,none⟩) a2.toNat a2.toNat)),(8,vI b0)]) (fun ⟨b0,c0,d0⟩=>[.row w.heap.size 4 (Rep.size Bool) (.slice (some ⟨k0,0,none⟩) a2.toNat a2.toNat) c0.length d0]) (fun ⟨b0,c0,d0⟩ I0=>Cells I0 (bl [.row w.heap.size 4 (Rep.size Bool) (.slice (some ⟨k0,0,none⟩) a2.toNat a2.toNat) c0.length d0] ++ L) d0 c0) (fun ⟨b0,c0,d0⟩=>(b0,c0)) (0,J0,(List.replicate a2.toNat [.bool false]).flatten) B1 B0 (Ax (cs:=(List.replicate a2.toNat [.bool false]).flatten) (xs:=J0) B0 L (Cells.mk H0 rfl)) ?_
 rintro b2 ⟨b0,c0,d0⟩ I0 d1 j0 k1 s0 h
 unfold aE_l2 at h
 try dsimp only at h
 refine Aj<|Ac<|Ae rfl<|Ae rfl<|Ab (BR (i:=b0) (j:=a1) rfl rfl)<|Aa<|AS rfl h (fun R0 h=>?_) (fun R0 h=>?_)
 refine Aq<|Aj<|Ay<|Aj<|Ac<|Ae rfl<|Ae rfl<|bk h fun q0 I1 h=>?_
 obtain ⟨y0,J1⟩:=idx_in I1
 obtain ⟨Z1,g2,t0,z0,Y0,D1,A0⟩:=Bl (AO h0_0 j0) J1
 have s1:Y0 = [vI q0]:=D1; subst s1
 refine Ab (Bm 1 (b0.toNat) rfl t0 rfl y0 z0)<|AP rfl (A0 0 _ rfl)<|Ab (BR (i:=q0) (j:=0) rfl rfl)<|Ae rfl<|BE (s:=26) rfl h (fun U0 h=>?_) (fun U0 h=>?_)
 refine Aw<|Aw<|Aw<|Aw<|Aw<|Aw<|Br rfl rfl<|Aa<|Bk rfl<|Ac<|Af rfl<|Aa ?_
 have h:=thn_inl h x0
 refine Al rfl<|AT hb0 Tryz.func59 rfl rfl ?_
 cases h
 exact j0.gv
 refine AJ (Ai rfl)<|AJ (Ai rfl)<|AJ (Bm 1 (b0.toNat) rfl t0 rfl y0 z0)<|AJ (AL rfl (A0 0 _ rfl))<|AJ (Ai rfl)<|AJ (FV.geq (i:=q0) (j:=a2) rfl rfl)<|Bx rfl rfl<|Aa<|AS rfl h (fun V0 h=>?_) (fun V0 h=>?_)
 refine Ac<|Af rfl<|Aa ?_
 have h:=thn_inl h x0
 refine Al rfl<|AT hb0 Tryz.func59 rfl rfl ?_
 cases h
 exact j0.gv
 refine Aq<|Av<|Ae rfl<|Ae rfl<|Ae rfl<|Ab (Bm 1 (b0.toNat) rfl t0 rfl y0 z0)<|AP rfl (A0 0 _ rfl)<|bk h fun W1 K1 h=>?_
 obtain ⟨y1,M1⟩:=idx_in K1
 obtain ⟨K0,j2,u0,F0,Z0,E1,t2⟩:=St.nth (α:=Bool) j0 .hd s0 M1
 obtain ⟨P0,k2,D0⟩:=BU (α:=Bool) j0 .hd F0
 obtain rfl:K0 = ⟨P0,0,none⟩:=by rw [D0] at u0; cases u0; rfl
 have u1:Z0 = [.bool W1]:=E1; subst u1
 refine Ab (Bm 1 (q0.toNat) rfl u0 rfl y1 F0)<|bk h fun Y1 R1 h=>RG.acts' .plain (Acts.set (α:=Bool) (i:=q0.toNat) R1 j0 D0 (fun _=>.hd) s0 rfl rfl rfl rfl rfl (by kernel_rfl)) fun y2 ⟨b1,j1,p1,q1⟩=>Aa<|AA<|Av<|Ae rfl<|bk h fun U1 G1 h=>Ab (BL (i:=b0) (j:=1) rfl rfl G1)<|Af rfl<|Aa<|d1 (U1,Y1,b1) j1 (Tt k1 p1) q1 h
 refine Ba rfl ?_
 have h:=thn_inr h x0
 try dsimp only at h
 refine Aj<|Ac<|Af rfl<|Aa<|Ay<|tn h fun v2 C1 E0=>MX.lo (α:=Int) (fun g0=>[(2,vI a2),(7,(.slice (some ⟨k0,0,none⟩) a2.toNat a2.toNat)),(9,vI g0)]) (fun g0=>[.row w.heap.size 4 (Rep.size Bool) (.slice (some ⟨k0,0,none⟩) a2.toNat a2.toNat) c0.length d0]) (fun g0=>g0) 0 C1 j0 ?_
 rintro d2 g0 z2 g1 p0 C0 h
 unfold aE_l1 at h
 try dsimp only at h
 refine Aj<|Ac<|Ae rfl<|Ae rfl<|Ab (BR (i:=g0) (j:=a2) rfl rfl)<|Aa<|AS rfl h (fun W0 h=>?_) (fun W0 h=>?_)
 refine Aq<|Aj<|Ay<|Ac<|Ae rfl<|Ae rfl<|bk h fun X1 P1 h=>?_
 obtain ⟨z1,Q1⟩:=idx_in P1
 obtain ⟨M0,p2,v0,G0,c1,F1,A1⟩:=St.nth (α:=Bool) p0 .hd (Au s0 C0) Q1
 obtain ⟨Q0,q2,v1⟩:=BU (α:=Bool) p0 .hd G0
 obtain rfl:M0 = ⟨Q0,0,none⟩:=by rw [v1] at v0; cases v0; rfl
 have x1:c1 = [.bool X1]:=F1; subst x1
 refine Ab (Bm 1 (g0.toNat) rfl v0 rfl z1 G0)<|AP rfl (A1 0 _ rfl)<|Ab (Bo rfl)<|Aa<|MX.ifnb rfl h (fun X0 h=>?_) (fun X0 h=>?_)
 refine Aq<|AA<|Av<|Ae rfl<|bk h fun V1 H1 h=>Ab (BL (i:=g0) (j:=1) rfl rfl H1)<|Af rfl<|Aa<|g1 V1 p0 C0 h
 refine Ac<|Af rfl<|Aa ?_
 have h:=thn_inl h E0
 refine Al rfl<|AT hb0 Tryz.func59 rfl rfl ?_
 cases h
 exact p0.gv
 refine Ba rfl ?_
 have h:=thn_inr h E0
 try dsimp only at h
 refine Ac<|Af rfl<|Aa<|Al rfl<|AT hb0 Tryz.func59 rfl rfl ?_
 cases h
 exact p0.gv
 refine Ac<|Af rfl<|Aa<|Al rfl<|AT hb0 Tryz.func59 rfl rfl ?_
 cases h
 exact hS0.gv
def a9_l1 (_n:Nat) (a0:Tc) (c0:Nat -> Option Nat):Nat -> Option Nat
  | b0=>(if b0 < a0.fo.length then (a0.fo[b0]?).bind fun d0=>(if d0.fu = true then some b0 else c0 (b0 + 1)) else some b0)
def a9_p (n:Nat) (a0:Tc):Option Int:=
  jn (fun c0=>some ((c0:Nat):Int)) (fun b0=>Option.bind (loopF (a9_l1 n a0) n 0) (b0))
theorem a9_c (n:Nat) (L:List Nat) (w:World) (_hL:∀ b ∈ L,b < w.heap.size) (a0:Tc) {v0_3:Value} (h0_3:Rep.R w L [v0_3] a0.fo)  {r:Int} (h:a9_p n a0 = some r) :
    Calls Tryz.prog 143 #[.agg #[vI a0.fe,vI a0.fh,vI a0.fj,v0_3]] w (Gives w fun _ u=>u = vI r):=by
 unfold a9_p at h
 refine AF Tryz.func143 rfl rfl rfl fun _ cs0 hb0=>Ac<|RG.bx (AB w) rfl rfl fun d1 k0 q0 Q0=>Af rfl<|Aa<|Ac<|Af rfl<|Aa<|Aj<|Ay<|MX.xo (α:=Nat) 0 (fun d0=>[(3,vI ((d0:Nat):Int))]) (fun d0=>[]) (fun d0=>d0) q0 rfl h ?_ ?_
 rintro d0 j1 z0 R0 h
 try dsimp only at h
 refine Ac<|Ae rfl<|Af rfl<|Aa<|Al rfl<|AT hb0 Tryz.func143 rfl rfl ?_
 cases h
 exact z0.gv
 intro K0 p0 h
 try dsimp only at h
 obtain ⟨Y0,F0,s0⟩:=bind_in2 h
 refine MX.lo (α:=Nat) (fun b0=>[(1,vP k0),(3,vI ((b0:Nat):Int))]) (fun b0=>[.cells k0 [vI a0.fe,vI a0.fh,vI a0.fj,v0_3] 44]) (fun b0=>b0) 0 F0 q0 ?_
 rintro J0 b0 g1 v0 c0 g0 h
 unfold a9_l1 at h
 try dsimp only at h
 refine Aj<|Ac<|Ae rfl<|AV 3 rfl<|AP rfl ((c0.memA .hd) 3 _ rfl) ?_
 have j0:=AO h0_3 c0
 have U0:a0.fo.length <= 281474976710656:=AY j0
 refine Ab (Bc (xs:=a0.fo) Tryz.underlying42 rfl j0)<|Ab (Bu (i:=b0) (j:=a0.fo.length) rfl rfl)<|Ae rfl<|BE (s:=9) rfl h (fun t0 h=>?_) (fun t0 h=>?_)
 refine RG.fg 3 rfl<|AJ (AL rfl ((c0.memA .hd) 3 _ rfl))<|AJ (Ai rfl)<|bk h fun k1 H0 h=>?_
 obtain ⟨I0,M0,C0,D0,P0,G0,E0⟩:=Bl j0 H0
 obtain ⟨Z0,b1,c1,rfl,V0,W0,X0⟩:=op_Tb G0
 refine AJ (Bm 6 b0 rfl C0 rfl rfl D0)<|RG.fg 5 rfl<|AJ (AL rfl (E0 5 _ rfl))<|AJ (Bo rfl)<|Br rfl rfl<|Aa<|MX.ifnb rfl h (fun u0 h=>?_) (fun u0 h=>?_)
 refine Ba rfl ?_
 have h:=s0 _ h
 try dsimp only at h
 obtain ⟨x0,A0⟩:=AI c0 .done
 exact p0 b0 x0 (Tt g0 A0) h
 refine Aq<|Ay<|Av<|Ae rfl<|Ab (Bw (i:=b0) (j:=1) rfl rfl (by omega))<|Af rfl<|Aa<|AA<|v0 (b0 + 1) c0 g0 h
 refine Aw<|Aw<|Aw<|Aw<|Aw<|Aw<|Aw<|Bx rfl rfl<|Aa<|BF rfl<|Ba rfl ?_
 have h:=s0 _ h
 try dsimp only at h
 obtain ⟨y0,B0⟩:=AI c0 .done
 exact p0 b0 y0 (Tt g0 B0) h
theorem body143:bodyB Tryz.prog 143 = true:=by kernel_rfl
def cm_p (n:Nat) (a0:Tc):Option (Int × Int):=
  (aj_p n a0).bind fun b0=>(if b0 = 0 then (a9_p n a0).bind fun c0=>some (c0,(0:Int)) else some ((0:Int),b0))
theorem cm_c (n:Nat) (L:List Nat) (w:World) (hL:∀ b ∈ L,b < w.heap.size) (a0:Tc) {v0_3:Value} (h0_3:Rep.R w L [v0_3] a0.fo)  {r:Int × Int} (h:cm_p n a0 = some r) :
    Calls Tryz.prog 105 #[.agg #[vI a0.fe,vI a0.fh,vI a0.fj,v0_3]] w (Gives w fun _ u=>u = .tuple #[vI r.1,vI r.2]):=by
 unfold cm_p at h
 refine AF Tryz.func105 rfl rfl rfl fun _ cs0 hb0=>Ac<|RG.bx (AB w) rfl rfl fun t0 q0 b0 s0=>Af rfl<|Af rfl<|Aa<|Aj<|Ac<|Ab (AK rfl (b0.memA .hd))<|bk h fun c0 g0 h=>Bi (vI c0) body104 rfl (e1 rfl) (fun w9 hw9=>aj_c n _ w9 (b0.hL0 hL hw9) a0 (b0.k0 h0_3 hw9) g0) rfl<|Af rfl<|Aa<|Ac<|Ae rfl<|Ab (FV.neq (i:=c0) (j:=0) rfl rfl)<|Aa<|MX.ifn rfl h (fun d0 h=>?_) (fun d0 h=>?_)
 refine Aq<|Ac<|Ab (AK rfl (b0.memA .hd))<|bk h fun p0 j0 h=>Bi (vI p0) body143 rfl (e1 rfl) (fun w9 hw9=>a9_c n _ w9 (b0.hL0 hL hw9) a0 (b0.k0 h0_3 hw9) j0) rfl<|Af rfl<|Af rfl<|Aa<|Al rfl<|Ap hb0 Tryz.func105 rfl (.cons (.tmp rfl) (.cons (.tmp rfl) .nil)) rfl ?_
 cases h
 exact b0.gv
 refine Ac<|Ae rfl<|Af rfl<|Af rfl<|Aa<|Al rfl<|Ap hb0 Tryz.func105 rfl (.cons (.tmp rfl) (.cons (.tmp rfl) .nil)) rfl ?_
 cases h
 exact b0.gv
theorem body105:bodyB Tryz.prog 105 = true:=by kernel_rfl
def bC_p (n:Nat) (a0:Tc):Option Int:=
  (cm_p n a0).bind fun b0=>some b0.1
theorem bC_c (n:Nat) (L:List Nat) (w:World) (hL:∀ b ∈ L,b < w.heap.size) (a0:Tc) {v0_3:Value} (h0_3:Rep.R w L [v0_3] a0.fo)  {r:Int} (h:bC_p n a0 = some r) :
    Calls Tryz.prog 60 #[.agg #[vI a0.fe,vI a0.fh,vI a0.fj,v0_3]] w (Gives w fun _ u=>u = vI r):=by
 unfold bC_p at h
 refine AF Tryz.func60 rfl rfl rfl fun _ cs0 hb0=>Ac<|RG.bx (AB w) rfl rfl fun p0 g0 b0 j0=>Af rfl<|Aa<|Ac<|Ab (AK rfl (b0.memA .hd))<|bk h fun c0 d0 h=>Bi (.tuple #[vI c0.1,vI c0.2]) body105 rfl (e1 rfl) (fun w9 hw9=>cm_c n _ w9 (b0.hL0 hL hw9) a0 (b0.k0 h0_3 hw9) d0) rfl<|Ae rfl<|Ab (Ah rfl rfl)<|Ab (Ah rfl rfl)<|Af rfl<|Af rfl<|Aa<|Ac<|Ae rfl<|Af rfl<|Aa<|Al rfl<|AT hb0 Tryz.func60 rfl rfl ?_
 cases h
 exact b0.gv
theorem body55:bodyB Tryz.prog 55 = true:=by kernel_rfl
theorem body59:bodyB Tryz.prog 59 = true:=by kernel_rfl
theorem body60:bodyB Tryz.prog 60 = true:=by kernel_rfl
def ba_p (n:Nat) (a0:Tc) (a1:List Int) (a2:Int):Option Int:=
  (aV_p n a0 a2).bind fun b0=>(if b0 = 0 then (bC_p n a0).bind fun c0=>(aE_p n a1 c0 a2).bind fun d0=>(if d0 = true then some (0:Int) else some (220:Int)) else some b0)
theorem ba_c (n:Nat) (L:List Nat) (w:World) (hL:∀ b ∈ L,b < w.heap.size) (a0:Tc) {v0_3:Value} (h0_3:Rep.R w L [v0_3] a0.fo) {a1:List Int} {v1_0:Value} (h1_0:Rep.R w L [v1_0] a1) {a2:Int}  {r:Int} (h:ba_p n a0 a1 a2 = some r) :
    Calls Tryz.prog 18 #[.agg #[vI a0.fe,vI a0.fh,vI a0.fj,v0_3],v1_0,vI a2] w (Gives w fun _ u=>u = vI r):=by
 unfold ba_p at h
 refine AF Tryz.func18 rfl rfl rfl fun _ cs0 hb0=>Ac<|RG.bx (AB w) rfl rfl fun x0 u0 b0 v0=>Af rfl<|Aa<|Aj<|Ac<|Ab (AK rfl (b0.memA .hd))<|Ae rfl<|bk h fun c0 j0 h=>Bi (vI c0) body55 rfl (e2 rfl rfl) (fun w9 hw9=>aV_c n _ w9 (b0.hL0 hL hw9) a0 (b0.k0 h0_3 hw9) j0) rfl<|Af rfl<|Aa<|Ac<|Ae rfl<|Ab (FV.neq (i:=c0) (j:=0) rfl rfl)<|Aa<|MX.ifn rfl h (fun d0 h=>?_) (fun d0 h=>?_)
 refine Aq<|Aj<|Ac<|Ae rfl<|Ab (AK rfl (b0.memA .hd))<|bk h fun s0 p0 h=>Bi (vI s0) body60 rfl (e1 rfl) (fun w9 hw9=>bC_c n _ w9 (b0.hL0 hL hw9) a0 (b0.k0 h0_3 hw9) p0) rfl<|Ae rfl<|bk h fun t0 q0 h=>Bi (.bool t0) body59 rfl (e3 rfl rfl rfl) (fun w9 hw9=>aE_c n _ w9 (b0.hL0 hL hw9) (b0.k0 h1_0 hw9) q0) rfl<|Ab (Bo rfl)<|Aa<|MX.ifnb rfl h (fun g0 h=>?_) (fun g0 h=>?_)
 refine Aq<|Ac<|Af rfl<|Aa<|Al rfl<|AT hb0 Tryz.func18 rfl rfl ?_
 cases h
 exact b0.gv
 refine Ac<|Af rfl<|Aa<|Al rfl<|AT hb0 Tryz.func18 rfl rfl ?_
 cases h
 exact b0.gv
 refine Ac<|Ae rfl<|Af rfl<|Aa<|Al rfl<|AT hb0 Tryz.func18 rfl rfl ?_
 cases h
 exact b0.gv
def tb14_8:List (Nat × Nat × Nat):=[(0,67108864,512),(0,134217728,2),(0,268435456,1024),(6,536870912,402653184),(8,1073741824,536870912),(0,2147483648,512),(0,4294967296,2),(0,8589934592,1024),(192,17179869184,12884901888),(256,34359738368,17179869184),(544,68719476736,36507222016),(1024,137438953472,68719476736),(0,274877906944,8),(4096,549755813888,274877906944),(0,1099511627776,1024),(24576,2199023255552,1649267441664),(32768,4398046511104,2199023255552),(65536,8796093022208,4398046511104),(133120,17592186044416,8933531975680),(524287,35184372088832,1140850688),(1048575,0,52776558133248)]
theorem body18:bodyB Tryz.prog 18 = true:=by kernel_rfl
def ap_l1 (_n:Nat) (a1:List Int) (a0:Tc) (g0:Nat × (List Int) -> Option (List Int)):Nat × (List Int) -> Option (List Int)
  | (b0,c0)=>(if b0 < a1.length then (a1[b0]?).bind fun d0=>(idx c0 d0).bind fun k0=>(a0.fo[b0]?).bind fun p0=>(chk (k0 + p0.fv)).bind fun j0=>(put c0 ((d0.toNat:Nat):Int) j0).bind fun q0=>g0 (b0 + 1,q0) else some c0)
def ap_p (n:Nat) (a0:Tc) (a1:List Int) (a2:Int):Option ((List Int) × Int):=
  (ba_p n a0 a1 a2).bind fun b0=>(if b0 = 0 then (mk a2 (0:Int)).bind fun d0=>Option.bind (loopF (ap_l1 n a1 a0) n (0,d0)) (fun c0=>some (c0,(0:Int))) else some (([]:List Int),b0))
theorem ap_c (n:Nat) (L:List Nat) (w:World) (hL:∀ b ∈ L,b < w.heap.size) (a0:Tc) {v0_3:Value} (h0_3:Rep.R w L [v0_3] a0.fo) {a1:List Int} {v1_0:Value} (h1_0:Rep.R w L [v1_0] a1) {a2:Int}  {r:(List Int) × Int} (h:ap_p n a0 a1 a2 = some r) :
    Calls Tryz.prog 14 #[.agg #[vI a0.fe,vI a0.fh,vI a0.fj,v0_3],v1_0,vI a2] w (Gives w fun w' u=>∃ v0_0:Value,u = .tuple #[v0_0,vI r.2]/\Rep.R w' L [v0_0] r.1):=by
 unfold ap_p at h
 refine AF Tryz.func14 rfl rfl rfl fun _ cs0 hb0=>Ac<|RG.bx (AB w) rfl rfl fun u2 v0 p0 Y1=>Af rfl<|Af rfl<|Aa<|Aj<|Ac<|Ab (AK rfl (p0.memA .hd))<|Ae rfl<|Ae rfl<|bk h fun M0 I1 h=>Bi (vI M0) body18 rfl (e3 rfl rfl rfl) (fun w9 hw9=>ba_c n _ w9 (p0.hL0 hL hw9) a0 (p0.k0 h0_3 hw9) (p0.k0 h1_0 hw9) I1) rfl<|Af rfl<|Aa<|Ac<|Ae rfl<|Ab (FV.neq (i:=M0) (j:=0) rfl rfl)<|Aa<|MX.ifn rfl h (fun U0 h=>?_) (fun U0 h=>?_)
 refine Aq<|Ac<|Ae rfl<|bk h fun K0 H0 h=>Ak .plain rfl (Does.mk (α:=Int) H0 p0 el45 rfl) fun v2 s0 B0 b2=>Af rfl<|Aa<|Aj<|Ac<|Af rfl<|Aa<|Ay ?_
 obtain ⟨k2,v1,p1⟩:=bind_in2 h
 refine MX.lf (α:=Nat × (List Int) × (List Value)) (fun ⟨d0,j0,q0⟩=>[(1,v1_0),(3,vP v0),(9,(.slice (some ⟨s0,0,none⟩) a2.toNat a2.toNat)),(10,vI ((d0:Nat):Int))]) (fun ⟨d0,j0,q0⟩=>[.row w.heap.size 3 (Rep.size Int) (.slice (some ⟨s0,0,none⟩) a2.toNat a2.toNat) j0.length q0,.cells v0 [vI a0.fe,vI a0.fh,vI a0.fj,v0_3] 44]) (fun ⟨d0,j0,q0⟩ I0=>Cells I0 (bl [.row w.heap.size 3 (Rep.size Int) (.slice (some ⟨s0,0,none⟩) a2.toNat a2.toNat) j0.length q0,.cells v0 [vI a0.fe,vI a0.fh,vI a0.fj,v0_3] 44] ++ L) q0 j0) (fun ⟨d0,j0,q0⟩=>(d0,j0)) (0,K0,(List.replicate a2.toNat [vI 0]).flatten) v1 B0 (Ax (cs:=(List.replicate a2.toNat [vI 0]).flatten) (xs:=K0) B0 L (Cells.mk H0 rfl)) ?_
 rintro Q1 ⟨d0,j0,q0⟩ I0 Y0 g0 b1 y0 h
 unfold ap_l1 at h
 try dsimp only at h
 refine Aj<|Ac<|Ae rfl<|Ae rfl ?_
 have A0:=AO h1_0 g0
 have c2:a1.length <= 281474976710656:=AY A0
 refine Ab (Bc (xs:=a1) Tryz.underlying46 rfl A0)<|Ab (Bu (i:=d0) (j:=a1.length) rfl rfl)<|Aa<|AS rfl h (fun R0 h=>?_) (fun R0 h=>?_)
 refine Aq<|Aj<|Ay<|dt 20 tb14_8 fun b0 c0=>Ag 0 1 b0 rfl c0 (fun _=>Ai rfl) rfl<|Ag 1 3 b0 rfl c0 (fun _=>Ai rfl) rfl<|Ag 2 7 b0 rfl c0 (fun _=>Ai rfl) rfl<|bk h fun u0 D1 h=>?_
 obtain ⟨M1,R1,C0,F0,V0,x1,G0⟩:=Bl A0 D1
 have g1:V0 = [vI u0]:=x1; subst g1
 refine Ag 3 15 b0 rfl c0 (fun _=>Bm 1 d0 rfl C0 rfl rfl F0) rfl<|AG 4 31 1572864 b0 rfl c0 (AL rfl (G0 0 _ rfl)) rfl<|Ag 5 63 b0 rfl c0 (fun _=>Ai rfl) rfl<|Ag 6 127 b0 rfl c0 (fun _=>Ai rfl) rfl<|Ag 7 255 b0 rfl c0 (fun _=>Ai rfl) rfl<|Ag 8 511 b0 rfl c0 (fun _=>Bm 1 d0 rfl C0 rfl rfl F0) rfl<|AG 9 1023 1838080 b0 rfl c0 (AL rfl (G0 0 _ rfl)) rfl<|bk h fun J0 E1 h=>?_
 obtain ⟨E0,F1⟩:=idx_in E1
 obtain ⟨P0,U1,t0,z0,W0,y1,s1⟩:=St.nth (α:=Int) g0 .hd y0 F1
 obtain ⟨Q0,V1,D0⟩:=BU (α:=Int) g0 .hd z0
 obtain rfl:P0 = ⟨Q0,0,none⟩:=by rw [D0] at t0; cases t0; rfl
 have j1:W0 = [vI J0]:=y1; subst j1
 refine Ag 10 2047 b0 rfl c0 (fun _=>Bm 1 (u0.toNat) rfl t0 rfl E0 z0) rfl<|AG 11 4095 1835008 b0 rfl c0 (AL rfl (s1 0 _ rfl)) rfl<|Ag 12 8191 b0 rfl c0 (fun _=>Bd 3 rfl) rfl<|AG 13 16383 2064384 b0 rfl c0 (AL rfl ((g0.memA .t1) 3 _ rfl)) rfl<|Ag 14 32767 b0 rfl c0 (fun _=>Ai rfl) rfl<|bk h fun J1 G1 h=>?_
 obtain ⟨P1,W1,k1,q1,X1,z1,u1⟩:=Bl (AO h0_3 g0) G1
 obtain ⟨q2,s2,t2,rfl,d2,g2,j2⟩:=op_Tb z1
 refine Ag 15 65535 b0 rfl c0 (fun _=>Bm 6 d0 rfl k1 rfl rfl q1) rfl<|Ag 16 131071 b0 rfl c0 (fun _=>Bd 1 rfl) rfl<|AG 17 262143 1835008 b0 rfl c0 (AL rfl (u1 1 _ rfl)) rfl<|bk h fun p2 C1 h=>Ag 18 524287 b0 rfl c0 (fun _=>BL (i:=J0) (j:=J1.fv) rfl rfl C1) rfl<|Ag 19 1048575 b0 rfl c0 (fun _=>Bm 1 (u0.toNat) rfl t0 rfl E0 z0) rfl<|bk h fun K1 H1 h=>Be (i:=20) (rk b0) (RO.acts (m' :=2097151) (sk b0) rfl rfl .plain (Acts.set (α:=Int) (i:=u0.toNat) H1 g0 D0 (fun _=>.hd) y0 rfl rfl rfl rfl rfl (by kernel_rfl)) (fun x2 ⟨X0,Z0,c1,d1⟩=>?_))
 refine AM (dk b0)<|AA<|Av<|Ae rfl<|Ab (Bw (i:=d0) (j:=1) rfl rfl (by omega))<|Af rfl<|Aa<|Y0 (d0 + 1,K1,X0) Z0 (Tt b1 c1) d1 h
 refine Ba rfl ?_
 have h:=p1 _ h
 try dsimp only at h
 refine Ac<|Ae rfl<|Af rfl<|Af rfl<|Aa<|Al rfl ?_
 have x0:=By g0 .hd
 have Z1:=Bz g0 .hd
 have A1:=BA (α:=Int) (v:=(.slice (some ⟨s0,0,none⟩) a2.toNat a2.toNat)) (xs:=j0) x0 L (Bj (α:=Int) g0 .hd y0 hL)
 refine Ap hb0 Tryz.func14 rfl (.cons (.tmp rfl) (.cons (.tmp rfl) .nil)) rfl ?_
 cases h
 exact ⟨x0.ag,fun w9 hw9=>⟨(.slice (some ⟨s0,0,none⟩) a2.toNat a2.toNat),rfl,x0.kd A1 hw9⟩⟩
 refine Ac<|Ae rfl<|Af rfl<|Af rfl<|Aa<|Al rfl ?_
 have B1:=Rep.nilAt (α:=Int) p0 L
 refine Ap hb0 Tryz.func14 rfl (.cons (.tmp rfl) (.cons (.tmp rfl) .nil)) rfl ?_
 cases h
 exact ⟨p0.ag,fun w9 hw9=>⟨vN,rfl,p0.kd B1 hw9⟩⟩
def aF_l1 (_n:Nat) (a0:List Int) (c0:Int -> Option Int):Int -> Option Int
  | b0=>(if 0 < b0 then (chk (b0 - 1)).bind fun d0=>(idx a0 d0).bind fun j0=>(if j0 = 0 then (chk (b0 - 1)).bind fun g0=>c0 g0 else some b0) else some b0)
def aF_p (n:Nat) (a0:List Int):Option (List Int):=
  jn (fun d0=>(cut a0 0 d0).bind fun c0=>some c0) (fun b0=>Option.bind (loopF (aF_l1 n a0) n ((a0.length:Nat):Int)) (b0))
theorem aF_c (n:Nat) (L:List Nat) (w:World) (_hL:∀ b ∈ L,b < w.heap.size) {a0:List Int} {v0_0:Value} (h0_0:Rep.R w L [v0_0] a0)  {r:List Int} (h:aF_p n a0 = some r) :
    Calls Tryz.prog 163 #[v0_0] w (Gives w fun w' u=>∃ v0_0:Value,u = v0_0/\Rep.R w' L [v0_0] r):=by
 unfold aF_p at h
 have hS0:=AB w
 refine AF Tryz.func163 rfl rfl rfl fun _ cs0 hb0=>Ac<|Af rfl<|Aa<|Ac<|Ae rfl ?_
 have hl1:a0.length <= 281474976710656:=AY h0_0
 refine Ab (Bc (xs:=a0) Tryz.underlying45 rfl h0_0)<|Af rfl<|Aa<|Aj<|Ay<|MX.xo (α:=Int) 0 (fun c0=>[(0,v0_0),(3,vI c0)]) (fun c0=>[]) (fun c0=>c0) hS0 rfl h ?_ ?_
 rintro c0 Y0 g0 W0 h
 try dsimp only at h
 refine Ac<|Ae rfl<|Ae rfl<|bk h fun b1 J0 h=>RG.valE .plain rfl (FV.cutL (α:=Int) J0 (by kernel_rfl) rfl (AO h0_0 g0) rfl ⟨_,rfl⟩) fun P0 D0=>Af rfl<|Aa<|Al rfl<|AT hb0 Tryz.func163 rfl rfl ?_
 cases h
 exact ⟨g0.ag,fun w9 hw9=>⟨P0,rfl,g0.kd D0 hw9⟩⟩
 intro R0 k0 h
 try dsimp only at h
 obtain ⟨X0,C0,p0⟩:=bind_in2 h
 refine MX.lo (α:=Int) (fun b0=>[(0,v0_0),(3,vI b0)]) (fun b0=>[]) (fun b0=>b0) ((a0.length:Nat):Int) C0 hS0 ?_
 rintro U0 b0 Z0 v0 d0 j0 h
 unfold aF_l1 at h
 try dsimp only at h
 refine Aj<|Ac<|Ae rfl<|Ab (FV.gtr (i:=b0) (j:=0) rfl rfl)<|Ae rfl<|BE (s:=8) rfl h (fun s0 h=>?_) (fun s0 h=>?_)
 refine AJ (Ai rfl)<|AJ (Ai rfl)<|bk h fun K0 F0 h=>AJ (FV.subc (i:=b0) (j:=1) rfl rfl F0)<|bk h fun q0 H0 h=>?_
 obtain ⟨z0,I0⟩:=idx_in H0
 obtain ⟨Q0,V0,x0,A0,u0,E0,B0⟩:=Bl (AO h0_0 d0) I0
 have y0:u0 = [vI q0]:=E0; subst y0
 refine AJ (Bm 1 (K0.toNat) rfl x0 rfl z0 A0)<|AJ (AL rfl (B0 0 _ rfl))<|AJ (FV.eql (i:=q0) (j:=0) rfl rfl)<|Br rfl rfl<|Aa<|AS rfl h (fun t0 h=>?_) (fun t0 h=>?_)
 refine Aq<|Ay<|Av<|Ae rfl<|bk h fun M0 G0 h=>Ab (FV.subc (i:=b0) (j:=1) rfl rfl G0)<|Af rfl<|Aa<|AA<|v0 M0 d0 j0 h
 refine Ba rfl ?_
 have h:=p0 _ h
 try dsimp only at h
 exact k0 b0 d0 j0 h
 refine Aw<|Aw<|Aw<|Aw<|Aw<|Aw<|Bx rfl rfl<|Aa<|BF rfl<|Ba rfl ?_
 have h:=p0 _ h
 try dsimp only at h
 exact k0 b0 d0 j0 h
theorem body163:bodyB Tryz.prog 163 = true:=by kernel_rfl
def ar_l1 (_n:Nat) (a0:List Int) (a1:List Int) (p0:Nat × Nat × (List Int) -> Option (List Int)):Nat × Nat × (List Int) -> Option (List Int)
  | (q0,b0,k0)=>(if b0 < a0.length then (a0[b0]?).bind fun v0=>(chk (v0 - ((q0:Nat):Int))).bind fun j0=>jn (fun c0=>jn (fun (s0,z0)=>(app k0 ([z0]:List Int)).bind fun y0=>p0 (s0,b0 + 1,y0)) (fun g0=>(if c0 < 0 then (chk (c0 + 4294967296)).bind fun t0=>g0 (1,t0) else g0 (0,c0)))) (fun d0=>(if b0 < a1.length then (a1[b0]?).bind fun x0=>(chk (j0 - x0)).bind fun u0=>d0 u0 else d0 j0)) else some k0)
def ar_p (n:Nat) (a0:List Int) (a1:List Int):Option (List Int):=
  Option.bind (loopF (ar_l1 n a0 a1) n (0,0,([]:List Int))) (fun b0=>(aF_p n b0).bind fun c0=>some c0)
theorem ar_c (n:Nat) (L:List Nat) (w:World) (hL:∀ b ∈ L,b < w.heap.size) {a0:List Int} {v0_0:Value} (h0_0:Rep.R w L [v0_0] a0) {a1:List Int} {v1_0:Value} (h1_0:Rep.R w L [v1_0] a1)  {r:List Int} (h:ar_p n a0 a1 = some r) :
    Calls Tryz.prog 162 #[v0_0,v1_0] w (Gives w fun w' u=>∃ v0_0:Value,u = v0_0/\Rep.R w' L [v0_0] r):=by
 unfold ar_p at h
 have hS0:=AB w
 refine AF Tryz.func162 rfl rfl rfl fun _ cs0 hb0=>Ac<|Af rfl<|Aa<|Ac<|Af rfl<|Aa<|Ac<|Af rfl<|Aa<|Aj<|Ac<|Af rfl<|Aa<|Ay ?_
 have B0:=hS0.nilRow 3 (Rep.size Int)
 have k2:=St.nilRowT hS0 3 (Rep.size Int)
 obtain ⟨u2,C1,x1⟩:=bind_in2 h
 refine MX.lf (α:=Nat × Nat × (List Int) × Value × (List Value)) (fun ⟨p0,b0,g0,c0,j0⟩=>[(0,v0_0),(1,v1_0),(5,c0),(6,vI ((p0:Nat):Int)),(7,vI ((b0:Nat):Int))]) (fun ⟨p0,b0,g0,c0,j0⟩=>[.row w.heap.size 3 (Rep.size Int) c0 g0.length j0]) (fun ⟨p0,b0,g0,c0,j0⟩ H0=>Cells H0 (bl [.row w.heap.size 3 (Rep.size Int) c0 g0.length j0] ++ L) j0 g0) (fun ⟨p0,b0,g0,c0,j0⟩=>(p0,b0,g0)) (0,0,([]:List Int),vN,[]) C1 B0 (Ax (cs:=[]) (xs:=([]:List Int)) B0 L (AD _ _)) ?_
 rintro Z1 ⟨p0,b0,g0,c0,j0⟩ H0 V0 k0 Z0 E0 h
 unfold ar_l1 at h
 try dsimp only at h
 refine Aj<|Ac<|Ae rfl<|Ae rfl ?_
 have x0:=AO h0_0 k0
 have s2:a0.length <= 281474976710656:=AY x0
 refine Ab (Bc (xs:=a0) Tryz.underlying45 rfl x0)<|Ab (Bu (i:=b0) (j:=a0.length) rfl rfl)<|Aa<|AS rfl h (fun K0 h=>?_) (fun K0 h=>?_)
 refine Aq<|Aj<|Ay<|Ac<|Ae rfl<|Ae rfl<|bk h fun I0 J1 h=>?_
 obtain ⟨X1,g2,q1,y1,Q0,D1,A1⟩:=Bl x0 J1
 have s1:Q0 = [vI I0]:=D1; subst s1
 refine Ab (Bm 1 b0 rfl q1 rfl rfl y1)<|AP rfl (A1 0 _ rfl)<|Ae rfl<|bk h fun G0 G1 h=>Ab (FV.subc (i:=I0) (j:=((p0:Nat):Int)) rfl rfl G1)<|Af rfl<|Aa<|Aj<|Ac<|Ae rfl<|Ae rfl ?_
 have y0:=AO h1_0 k0
 have t2:a1.length <= 281474976710656:=AY y0
 refine Ab (Bc (xs:=a1) Tryz.underlying45 rfl y0)<|Ab (Bu (i:=b0) (j:=a1.length) rfl rfl)<|Aa<|MX.jo (α:=Int) (fun q0=>[(0,v0_0),(1,v1_0),(5,c0),(6,vI ((p0:Nat):Int)),(7,vI ((b0:Nat):Int)),(8,vI q0)]) (fun q0=>[.row w.heap.size 3 (Rep.size Int) c0 g0.length j0]) (fun q0=>q0) k0 h ?_ ?_
 rintro q0 A2 t0 b1 h
 try dsimp only at h
 refine Ac<|Af rfl<|Aa<|Aj<|Ac<|Ae rfl<|Ab (BR (i:=q0) (j:=0) rfl rfl)<|Aa<|MX.jo (α:=Nat × Int) (fun ⟨s0,d0⟩=>[(0,v0_0),(1,v1_0),(5,c0),(6,vI ((s0:Nat):Int)),(7,vI ((b0:Nat):Int)),(8,vI d0)]) (fun ⟨s0,d0⟩=>[.row w.heap.size 3 (Rep.size Int) c0 g0.length j0]) (fun ⟨s0,d0⟩=>(s0,d0)) t0 h ?_ ?_
 rintro ⟨s0,d0⟩ B2 W0 c1 h
 try dsimp only at h
 refine Av<|Ae rfl<|Ae rfl<|Ak .plain rfl (AE (α:=Int) (xs:=([d0]:List Int)) (vs:=[vI d0]) (ds' :=[vI d0]) rfl W0 el45 rfl (e1 rfl) (by kernel_rfl) rfl) fun x2 d2 u0 g1=>bk h fun W1 M1 h=>?_
 have F0:=Tt b1 (Tt c1 g1)
 refine RG.doesL .plain rfl (AW (α:=Int) (ys:=([d0]:List Int)) M1 u0 (fun _ _=>.t1) el45 rfl rfl (Au E0 F0) (Src.row (α:=Int) u0 .hd (Ax (cs:=[vI d0]) (xs:=(([d0]:List Int):List Int)) u0 L (Am (cs:=[vI d0]) (ds:=[]) rfl (AD _ _))))) fun U1 y2 ⟨R0,X0,j1,p1⟩=>Af rfl<|Aa<|AA<|Av<|Ae rfl<|Ab (Bw (i:=b0) (j:=1) rfl rfl (by omega))<|Af rfl<|Aa ?_
 obtain ⟨Y0,D0⟩:=AI X0 .d1
 exact V0 (s0,b0 + 1,W1,U1,R0) Y0 (Tt Z0 (Tt F0 (Tt j1 D0))) (Au p1 D0) h
 intro c2 A0 h
 try dsimp only at h
 refine AS rfl h (fun M0 h=>?_) (fun M0 h=>?_)
 refine Ac<|Ae rfl<|bk h fun Q1 H1 h=>Ab (BL (i:=q0) (j:=4294967296) rfl rfl H1)<|Af rfl<|Aa<|Av<|Af rfl<|Aa<|A0 (1,Q1) t0 (Bv _ _) h
 refine Aq<|A0 (0,q0) t0 (Bv _ _) h
 intro b2 z0 h
 try dsimp only at h
 refine AS rfl h (fun P0 h=>?_) (fun P0 h=>?_)
 refine Av<|Ae rfl<|Ae rfl<|Ae rfl<|bk h fun J0 K1 h=>?_
 obtain ⟨Y1,j2,u1,z1,U0,E1,B1⟩:=Bl y0 K1
 have v1:U0 = [vI J0]:=E1; subst v1
 refine Ab (Bm 1 b0 rfl u1 rfl rfl z1)<|AP rfl (B1 0 _ rfl)<|bk h fun R1 I1 h=>Ab (FV.subc (i:=G0) (j:=J0) rfl rfl I1)<|Af rfl<|Aa<|z0 R1 k0 (Bv _ _) h
 refine Aq<|z0 G0 k0 (Bv _ _) h
 refine Ba rfl ?_
 have h:=x1 _ h
 try dsimp only at h
 refine Ac<|Ae rfl ?_
 have v0:=By k0 .hd
 have p2:=Bz k0 .hd
 refine bk h fun C2 P1 h=>AZ (fst:=[]) (cap:=[]) .plain body163 rfl (e1 rfl) (fun w9 hw9=>aF_c n _ w9 (v0.hL hL hw9) (Ar (BA (α:=Int) (v:=c0) (xs:=g0) v0 L (Bj (α:=Int) k0 .hd E0 hL)) hw9) P1) rfl fun z2 V1 k1 ⟨v2,hu_,F1⟩=>?_
 subst hu_
 obtain ⟨C0,q2⟩:=v0.agr k1
 refine Af rfl<|Aa<|Al rfl<|AT hb0 Tryz.func162 rfl rfl ?_
 cases h
 exact ⟨C0.ag,fun w9 hw9=>⟨V1,rfl,C0.kd F1 hw9⟩⟩
def tb166_6:List (Nat × Nat × Nat):=[(0,8388608,1),(0,16777216,32),(3,33554432,25165824),(4,67108864,33554432),(0,134217728,2),(0,268435456,32),(48,536870912,402653184),(64,1073741824,536870912),(136,2147483648,1140850688)]
def tb166_7:List (Nat × Nat × Nat):=[(0,4294967296,1),(0,8589934592,32),(3,17179869184,12884901888),(4,34359738368,17179869184),(0,68719476736,2),(0,137438953472,32),(48,274877906944,206158430208),(64,549755813888,274877906944),(136,1099511627776,584115552256),(511,16,1099511627776)]
def aC_l1 (_n:Nat) (a0:List Int) (a1:List Int) (g0:Int -> Option (Int ⊕ Unit)):Int -> Option (Int ⊕ Unit)
  | b0=>(if 0 <= b0 then (idx a0 b0).bind fun c0=>(idx a1 b0).bind fun d0=>(if c0 = d0 then (chk (b0 - 1)).bind fun j0=>g0 j0 else (chk (c0 - d0)).bind fun k0=>some (.inl k0)) else some (.inr ()))
def aC_p (n:Nat) (a0:List Int) (a1:List Int):Option Int:=
  (if a0.length = a1.length then thn (loopF (aC_l1 n a0 a1) n (((a0.length:Nat):Int) - 1)) (fun _=>some (0:Int)) else some (((a0.length:Nat):Int) - ((a1.length:Nat):Int)))
theorem aC_c (n:Nat) (L:List Nat) (w:World) (_hL:∀ b ∈ L,b < w.heap.size) {a0:List Int} {v0_0:Value} (h0_0:Rep.R w L [v0_0] a0) {a1:List Int} {v1_0:Value} (h1_0:Rep.R w L [v1_0] a1)  {r:Int} (h:aC_p n a0 a1 = some r) :
    Calls Tryz.prog 166 #[v0_0,v1_0] w (Gives w fun _ u=>u = vI r):=by
 unfold aC_p at h
 have hS0:=AB w
 refine AF Tryz.func166 rfl rfl rfl fun _ cs0 hb0=>Ac<|Af rfl<|Aa<|Aj<|Ac<|Ae rfl ?_
 have hl1:a0.length <= 281474976710656:=AY h0_0
 refine Ab (Bc (xs:=a0) Tryz.underlying45 rfl h0_0)<|Ae rfl ?_
 have hl2:a1.length <= 281474976710656:=AY h1_0
 refine Ab (Bc (xs:=a1) Tryz.underlying45 rfl h1_0)<|Ab (FV.neqN (i:=a0.length) (j:=a1.length) rfl rfl)<|Aa<|MX.ifn rfl h (fun c3 h=>?_) (fun c3 h=>?_)
 refine Aq<|Aj<|Ac<|Ae rfl<|Ab (Bc (xs:=a0) Tryz.underlying45 rfl h0_0)<|Ab (FV.subI (i:=((a0.length:Nat):Int)) (j:=1) rfl rfl (by omega))<|Af rfl<|Aa<|Ay<|tn h fun j1 K0 u0=>MX.lo (α:=Int) (fun c0=>[(0,v0_0),(1,v1_0),(5,vI c0)]) (fun c0=>[]) (fun c0=>c0) (((a0.length:Nat):Int) - 1) K0 hS0 ?_
 rintro c1 c0 p1 G0 k0 H0 h
 unfold aC_l1 at h
 try dsimp only at h
 refine Aj<|Ac<|Ae rfl<|Ab (FV.geq (i:=c0) (j:=0) rfl rfl)<|Aa<|AS rfl h (fun C0 h=>?_) (fun C0 h=>?_)
 refine Aq<|Aj<|Ay<|Aj<|dt 9 tb166_6 fun g0 j0=>Ag 0 1 g0 rfl j0 (fun _=>Ai rfl) rfl<|Ag 1 3 g0 rfl j0 (fun _=>Ai rfl) rfl<|bk h fun p0 U0 h=>?_
 obtain ⟨v0,V0⟩:=idx_in U0
 obtain ⟨Z0,d1,s0,y0,E0,M0,A0⟩:=Bl (AO h0_0 k0) V0
 have I0:E0 = [vI p0]:=M0; subst I0
 refine Ag 2 7 g0 rfl j0 (fun _=>Bm 1 (c0.toNat) rfl s0 rfl v0 y0) rfl<|AG 3 15 256 g0 rfl j0 (AL rfl (A0 0 _ rfl)) rfl<|Ag 4 31 g0 rfl j0 (fun _=>Ai rfl) rfl<|Ag 5 63 g0 rfl j0 (fun _=>Ai rfl) rfl<|bk h fun q0 W0 h=>?_
 obtain ⟨x0,X0⟩:=idx_in W0
 obtain ⟨b1,g1,t0,z0,F0,P0,B0⟩:=Bl (AO h1_0 k0) X0
 have J0:F0 = [vI q0]:=P0; subst J0
 refine Ag 6 127 g0 rfl j0 (fun _=>Bm 1 (c0.toNat) rfl t0 rfl x0 z0) rfl<|AG 7 255 256 g0 rfl j0 (AL rfl (B0 0 _ rfl)) rfl<|Ag 8 511 g0 rfl j0 (fun _=>FV.neq (i:=p0) (j:=q0) rfl rfl) rfl<|AM (dk g0)<|MX.ifn rfl h (fun D0 h=>?_) (fun D0 h=>?_)
 refine Aq<|AA<|Av<|Ae rfl<|bk h fun Y0 Q0 h=>Ab (FV.subc (i:=c0) (j:=1) rfl rfl Q0)<|Af rfl<|Aa<|G0 Y0 k0 H0 h
 refine Aj<|dt 10 tb166_7 fun b0 d0=>Ag 0 1 b0 rfl d0 (fun _=>Ai rfl) rfl<|Ag 1 3 b0 rfl d0 (fun _=>Ai rfl) rfl<|Ag 2 7 b0 rfl d0 (fun _=>Bm 1 (c0.toNat) rfl s0 rfl v0 y0) rfl<|AG 3 15 768 b0 rfl d0 (AL rfl (A0 0 _ rfl)) rfl<|Ag 4 31 b0 rfl d0 (fun _=>Ai rfl) rfl<|Ag 5 63 b0 rfl d0 (fun _=>Ai rfl) rfl<|Ag 6 127 b0 rfl d0 (fun _=>Bm 1 (c0.toNat) rfl t0 rfl x0 z0) rfl<|AG 7 255 768 b0 rfl d0 (AL rfl (B0 0 _ rfl)) rfl<|bk h fun k1 R0 h=>Ag 8 511 b0 rfl d0 (fun _=>FV.subc (i:=p0) (j:=q0) rfl rfl R0) rfl<|Ag 9 1023 b0 rfl d0 (fun _=>AU rfl) rfl<|AM (dk b0) ?_
 have h:=thn_inl h u0
 refine Al rfl<|AT hb0 Tryz.func166 rfl rfl ?_
 cases h
 exact k0.gv
 refine Ba rfl ?_
 have h:=thn_inr h u0
 try dsimp only at h
 refine Ac<|Af rfl<|Aa<|Al rfl<|AT hb0 Tryz.func166 rfl rfl ?_
 cases h
 exact k0.gv
 refine Ac<|Ae rfl<|Ab (Bc (xs:=a0) Tryz.underlying45 rfl h0_0)<|Ae rfl<|Ab (Bc (xs:=a1) Tryz.underlying45 rfl h1_0)<|Ab (FV.subI (i:=((a0.length:Nat):Int)) (j:=((a1.length:Nat):Int)) rfl rfl (by omega))<|Af rfl<|Aa<|Al rfl<|AT hb0 Tryz.func166 rfl rfl ?_
 cases h
 exact hS0.gv
structure Td where
  fc:Bool
  fD:List Int
  deriving DecidableEq
instance:Rep Td:=Rep.via (β:=Bool × (List Int)) fun x=>(x.fc,x.fD)
def tb132_15:List (Nat × Nat × Nat):=[(0,35184372088832,512),(1,70368744177664,35184372088832),(0,140737488355328,512),(4,281474976710656,140737488355328),(8,562949953421312,281474976710912),(16,1125899906842624,562949953421312),(0,2251799813685248,64),(0,4503599627370496,512),(192,9007199254740992,6755399441055744),(256,18014398509481984,9007199254740992),(512,36028797018963968,18014398509481984),(0,72057594037927936,512),(2048,144115188075855872,72057594037927936),(4096,288230376151711744,144115188075855872),(9216,576460752303423488,324259173170675712),(16416,1152921504606846976,577586652210266112),(65535,2305843009213693952,70368744177920),(131071,0,3458764513820540928)]
theorem body162:bodyB Tryz.prog 162 = true:=by kernel_rfl
theorem body166:bodyB Tryz.prog 166 = true:=by kernel_rfl
def aw_l1 (_n:Nat) (x0:List Int) (y0:Nat × UInt64 × UInt64 × UInt64 × UInt64 × UInt64 × UInt64 × UInt64 × UInt64 -> Option (UInt64 × UInt64 × UInt64 × UInt64 × UInt64 × UInt64 × UInt64 × UInt64)):Nat × UInt64 × UInt64 × UInt64 × UInt64 × UInt64 × UInt64 × UInt64 × UInt64 -> Option (UInt64 × UInt64 × UInt64 × UInt64 × UInt64 × UInt64 × UInt64 × UInt64)
  | (b0,j0,k0,p0,q0,s0,t0,u0,v0)=>(if b0 < x0.length then (([j0,k0,p0,q0,s0,t0,u0,v0]:List UInt64)[b0 / 2]?).bind fun g0=>(x0[b0]?).bind fun d0=>(chk (32 * ((b0 % 2:Nat):Int))).bind fun z0=>(natOf z0).bind fun c0=>y0 (b0 + 1,setA (b0 / 2) 0 (g0 + (shlU (u64of d0) c0)) j0,setA (b0 / 2) 1 (g0 + (shlU (u64of d0) c0)) k0,setA (b0 / 2) 2 (g0 + (shlU (u64of d0) c0)) p0,setA (b0 / 2) 3 (g0 + (shlU (u64of d0) c0)) q0,setA (b0 / 2) 4 (g0 + (shlU (u64of d0) c0)) s0,setA (b0 / 2) 5 (g0 + (shlU (u64of d0) c0)) t0,setA (b0 / 2) 6 (g0 + (shlU (u64of d0) c0)) u0,setA (b0 / 2) 7 (g0 + (shlU (u64of d0) c0)) v0) else some (j0,k0,p0,q0,s0,t0,u0,v0))
def aw_l2 (_n:Nat) (x0:List Int) (y0:Nat × UInt64 × UInt64 × UInt64 × UInt64 × UInt64 × UInt64 × UInt64 × UInt64 -> Option (UInt64 × UInt64 × UInt64 × UInt64 × UInt64 × UInt64 × UInt64 × UInt64)):Nat × UInt64 × UInt64 × UInt64 × UInt64 × UInt64 × UInt64 × UInt64 × UInt64 -> Option (UInt64 × UInt64 × UInt64 × UInt64 × UInt64 × UInt64 × UInt64 × UInt64)
  | (b0,j0,k0,p0,q0,s0,t0,u0,v0)=>(if b0 < x0.length then (([j0,k0,p0,q0,s0,t0,u0,v0]:List UInt64)[b0 / 2]?).bind fun g0=>(x0[b0]?).bind fun d0=>(chk (32 * ((b0 % 2:Nat):Int))).bind fun z0=>(natOf z0).bind fun c0=>y0 (b0 + 1,setA (b0 / 2) 0 (g0 + (shlU (u64of d0) c0)) j0,setA (b0 / 2) 1 (g0 + (shlU (u64of d0) c0)) k0,setA (b0 / 2) 2 (g0 + (shlU (u64of d0) c0)) p0,setA (b0 / 2) 3 (g0 + (shlU (u64of d0) c0)) q0,setA (b0 / 2) 4 (g0 + (shlU (u64of d0) c0)) s0,setA (b0 / 2) 5 (g0 + (shlU (u64of d0) c0)) t0,setA (b0 / 2) 6 (g0 + (shlU (u64of d0) c0)) u0,setA (b0 / 2) 7 (g0 + (shlU (u64of d0) c0)) v0) else some (j0,k0,p0,q0,s0,t0,u0,v0))
def aw_p (n:Nat) (a0:Td):Option ((UInt64 × UInt64 × UInt64 × UInt64 × UInt64 × UInt64 × UInt64 × UInt64) × Int):=
  (mk 16 (0:Int)).bind fun c0=>(c0[15]?).bind fun _x28=>(put c0 ((15:Nat):Int) (2147483648:Int)).bind fun I0=>(aC_p n a0.fD I0).bind fun j0=>(if 0 < j0 then some (((0:UInt64),(0:UInt64),(0:UInt64),(0:UInt64),(0:UInt64),(0:UInt64),(0:UInt64),(0:UInt64)),(6:Int)) else (if j0 = 0 then (if a0.fc = true then (mk 17 (0:Int)).bind fun g0=>(g0[16]?).bind fun _x61=>(put g0 ((16:Nat):Int) (1:Int)).bind fun J0=>(ar_p n J0 a0.fD).bind fun M0=>Option.bind (loopF (aw_l1 n M0) n (0,(0:UInt64),(0:UInt64),(0:UInt64),(0:UInt64),(0:UInt64),(0:UInt64),(0:UInt64),(0:UInt64))) (fun (k0,p0,q0,s0,t0,u0,v0,x0)=>some ((k0,p0,q0,s0,t0,u0,v0,x0),(0:Int))) else some (((0:UInt64),(0:UInt64),(0:UInt64),(0:UInt64),(0:UInt64),(0:UInt64),(0:UInt64),(0:UInt64)),(6:Int))) else jn (fun G0=>Option.bind (loopF (aw_l2 n G0) n (0,(0:UInt64),(0:UInt64),(0:UInt64),(0:UInt64),(0:UInt64),(0:UInt64),(0:UInt64),(0:UInt64))) (fun (y0,z0,A0,B0,C0,D0,E0,F0)=>some ((y0,z0,A0,B0,C0,D0,E0,F0),(0:Int)))) (fun b0=>(if a0.fc = true then (mk 17 (0:Int)).bind fun d0=>(d0[16]?).bind fun _x369=>(put d0 ((16:Nat):Int) (1:Int)).bind fun H0=>(ar_p n H0 a0.fD).bind fun K0=>b0 K0 else b0 a0.fD))))
theorem aw_c (n:Nat) (L:List Nat) (w:World) (hL:∀ b ∈ L,b < w.heap.size) (a0:Td) {v0_1:Value} (h0_1:Rep.R w L [v0_1] a0.fD)  {r:(UInt64 × UInt64 × UInt64 × UInt64 × UInt64 × UInt64 × UInt64 × UInt64) × Int} (h:aw_p n a0 = some r) :
    Calls Tryz.prog 132 #[.agg #[.bool a0.fc,v0_1]] w (Gives w fun _ u=>u = .tuple #[.agg ((cs_A34 r.1)).toArray,vI r.2]):=by
 unfold aw_p at h
 refine AF Tryz.func132 rfl rfl rfl fun _ cs0 hb0=>Ac<|RG.bx (AB w) rfl rfl fun c6 X4 G2 x5=>RG.nl zP G2 fun d6 V0 I2 y5=>Af rfl<|Aa<|Ac<|bk h fun G6 q4 h=>RG.doesH .plain rfl (Does.mkH (α:=Int) (L:=L) q4 I2 el45 rfl (fun _ _=>rfl)) fun Y5 p6 ⟨p5,k1,B5,Q1⟩=>Af rfl<|Aa<|Ac<|Ae rfl<|bk h fun H4 g4 h=>?_
 obtain ⟨d2,Z4,v1,Y1,A2,U3,Q5⟩:=St.nth (α:=Int) k1 .hd Q1 g4
 obtain ⟨k2,c5,W1⟩:=BU (α:=Int) k1 .hd Y1
 obtain rfl:d2 = ⟨k2,0,none⟩:=by rw [W1] at v1; cases v1; rfl
 have B3:A2 = [vI H4]:=U3; subst B3
 refine Ab (Bm 1 15 rfl v1 rfl rfl Y1)<|bk h fun I6 u4 h=>RG.acts' .plain (Acts.set (α:=Int) (i:=15) u4 k1 W1 (fun _=>.hd) Q1 rfl rfl rfl rfl rfl (by kernel_rfl)) fun y6 ⟨t5,y0,E5,t3⟩=>Aa<|Ac<|AV 1 rfl<|AP rfl ((y0.memA .t2) 1 _ rfl)<|Ae rfl<|bk h fun B1 z4 h=>Bi (vI B1) body166 rfl (e2 rfl rfl) (fun w9 hw9=>aC_c n _ w9 (y0.hL0 hL hw9) (y0.k0 h0_1 hw9) (Ar (St.lend (α:=Int) (L:=L) y0 .hd t3 hL) hw9) z4) rfl<|Af rfl<|Aa<|Aj<|Ac<|Ae rfl<|Ab (FV.gtr (i:=B1) (j:=0) rfl rfl)<|Ae rfl<|BE (s:=19) rfl h (fun x2 h=>?_) (fun x2 h=>?_)
 refine Aw<|Aw<|Aw<|RG.un<|RG.un<|RG.un<|Aw<|Br rfl rfl<|Aa<|Bk rfl<|Ac<|Ab (AX (vs:=[]) (u:=.agg zQ) evs_nil (fun w9=>by kernel_rfl))<|AQ zP y0 .t1 (onesB rfl) fun z6 J1 F5=>Af rfl<|Aa<|Al rfl<|Ap hb0 Tryz.func132 rfl (.cons (.many (cs:=zP) (by kernel_rfl) rfl (J1.memA .t1)) (.cons (.tmp rfl) .nil)) rfl ?_
 cases h
 exact J1.gv
 refine AJ (Ai rfl)<|AJ (FV.eql (i:=B1) (j:=0) rfl rfl)<|AJ (Ai rfl)<|BE (s:=22) rfl h (fun y2 h=>?_) (fun y2 h=>?_)
 refine RG.fg 0 rfl<|AJ (AL rfl ((y0.memA .t2) 0 _ rfl))<|AJ (Bo rfl)<|AJ (BC rfl rfl)<|Bx rfl rfl<|Aa<|MX.ifnb rfl h (fun D1 h=>?_) (fun D1 h=>?_)
 refine Aq<|Ac<|AV 1 rfl<|AP rfl ((y0.memA .t2) 1 _ rfl)<|Af rfl<|Aa<|Aj<|Ac<|AV 0 rfl<|AP rfl ((y0.memA .t2) 0 _ rfl)<|Aa<|MX.cond_kt rfl D1<|Ac<|bk h fun J6 v4 h=>RG.doesH .plain rfl (Does.mkH (α:=Int) (L:=L) v4 y0 el45 rfl (fun _ _=>rfl)) fun E4 A6 ⟨u5,s1,G5,U1⟩=>Af rfl<|Aa<|Ac<|Ae rfl<|bk h fun J4 p4 h=>?_
 obtain ⟨j2,j5,y1,b2,D2,Y3,V5⟩:=St.nth (α:=Int) s1 .hd U1 p4
 obtain ⟨q2,k5,X1⟩:=BU (α:=Int) s1 .hd b2
 obtain rfl:j2 = ⟨q2,0,none⟩:=by rw [X1] at y1; cases y1; rfl
 have C3:D2 = [vI J4]:=Y3; subst C3
 refine Ab (Bm 1 16 rfl y1 rfl rfl b2)<|bk h fun M4 x4 h=>RG.acts' .plain (Acts.set (α:=Int) (i:=16) x4 s1 X1 (fun _=>.hd) U1 rfl rfl rfl rfl rfl (by kernel_rfl)) fun B6 ⟨v5,u1,H5,u3⟩=>Aa<|Av<|Ae rfl<|Ae rfl ?_
 have j1:=By u1 .hd
 have I5:=Bz u1 .hd
 refine bk h fun C1 A4 h=>AZ (fst:=[]) (cap:=[]) .plain body162 rfl (e2 rfl rfl) (fun w9 hw9=>ar_c n _ w9 (j1.hL hL hw9) (Ar (BA (α:=Int) (v:=E4) (xs:=M4) j1 L (Bj (α:=Int) u1 .hd u3 hL)) hw9) (j1.km h0_1 hw9) A4) rfl fun C6 G4 q3 ⟨b6,hu_,Z3⟩=>?_
 subst hu_
 obtain ⟨U2,J5⟩:=j1.agr q3
 refine Af rfl<|Aa<|Ac<|RG.nl zP U2 fun D6 d1 V2 k3=>Aa<|Aj<|Ac<|Af rfl<|Aa<|Ay ?_
 obtain ⟨H2,W2⟩:=AI V2 (.a0 (.a1 .done))
 obtain ⟨W5,M3,D3⟩:=bind_in2 h
 refine MX.lo (α:=Nat × UInt64 × UInt64 × UInt64 × UInt64 × UInt64 × UInt64 × UInt64 × UInt64) (fun ⟨b0,z0,A0,B0,C0,D0,E0,F0,G0⟩=>[(2,vP V0),(6,G4),(8,vP d1),(9,vI ((b0:Nat):Int))]) (fun ⟨b0,z0,A0,B0,C0,D0,E0,F0,G0⟩=>[.cells d1 [vU z0,vU A0,vU B0,vU C0,vU D0,vU E0,vU F0,vU G0] 35,.cells V0 zP 35]) (fun ⟨b0,z0,A0,B0,C0,D0,E0,F0,G0⟩=>(b0,z0,A0,B0,C0,D0,E0,F0,G0)) (0,(0:UInt64),(0:UInt64),(0:UInt64),(0:UInt64),(0:UInt64),(0:UInt64),(0:UInt64),(0:UInt64)) M3 H2 ?_
 rintro U4 ⟨b0,z0,A0,B0,C0,D0,E0,F0,G0⟩ E6 E2 X0 K1 h
 unfold aw_l1 at h
 try dsimp only at h
 refine Aj<|Ac<|Ae rfl<|Ae rfl ?_
 have z1:=Ao Z3 (Tt k3 (Tt W2 K1))
 have K5:C1.length <= 281474976710656:=AY z1
 refine Ab (Bc (xs:=C1) Tryz.underlying45 rfl z1)<|Ab (Bu (i:=b0) (j:=C1.length) rfl rfl)<|Aa<|AS rfl h (fun s2 h=>?_) (fun s2 h=>?_)
 refine Aq<|Aj<|Ay<|dt 17 tb132_15 fun j0 v0=>Ag 0 1 j0 rfl v0 (fun _=>Ai rfl) rfl<|Ag 1 3 j0 rfl v0 (fun _=>FV.quoN (i:=b0) (j:=2) rfl rfl rfl (by omega)) rfl<|Ag 2 7 j0 rfl v0 (fun _=>Ai rfl) rfl<|Ag 3 15 j0 rfl v0 (fun _=>FV.quoN (i:=b0) (j:=2) rfl rfl rfl (by omega)) rfl<|bk h fun t0 Z0 h=>Ag 4 31 j0 rfl v0 (fun _=>Bg (m:=1) (k:=b0 / 2) (len:=8) (by kernel_rfl) rfl rfl rfl (arr_lt Z0 rfl)) rfl<|AG 5 63 229376 j0 rfl v0 (AL rfl ((mem_elem1 (p:=⟨d1,0,none⟩) (cs:=([z0,A0,B0,C0,D0,E0,F0,G0]:List UInt64).map (fun z9:UInt64=>(vU z9:Value)) ++ []) (i:=b0 / 2) (X0.memA .hd) (arr_get (fun z9:UInt64=>(vU z9:Value)) Z0)) 0 _ rfl)) rfl<|Ag 6 127 j0 rfl v0 (fun _=>Ai rfl) rfl<|Ag 7 255 j0 rfl v0 (fun _=>Ai rfl) rfl<|bk h fun d0 d4 h=>?_
 obtain ⟨Q4,Y4,v3,F3,z2,Q3,J3⟩:=Bl z1 d4
 have x3:z2 = [vI d0]:=Q3; subst x3
 refine Ag 8 511 j0 rfl v0 (fun _=>Bm 1 b0 rfl v3 rfl rfl F3) rfl<|AG 9 1023 246784 j0 rfl v0 (AL rfl (J3 0 _ rfl)) rfl<|Ag 10 2047 j0 rfl v0 (fun _=>FV.convU (i:=d0) Tryz.underlying3 Tryz.underlying33 rfl) rfl<|Ag 11 4095 j0 rfl v0 (fun _=>Ai rfl) rfl<|Ag 12 8191 j0 rfl v0 (fun _=>FV.remN (i:=b0) (j:=2) rfl rfl rfl) rfl<|bk h fun B4 b4 h=>Ag 13 16383 j0 rfl v0 (fun _=>FV.mulc (i:=32) (j:=((b0 % 2:Nat):Int)) rfl rfl b4) rfl<|bk h fun q0 G3 h=>Ag 14 32767 j0 rfl v0 (fun _=>FV.shlI (a:=u64of d0) (i:=B4) rfl rfl G3) rfl<|Ag 15 65535 j0 rfl v0 (fun _=>FV.addU (a:=t0) (b:=shlU (u64of d0) q0) rfl rfl) rfl ?_
 have P5:=mem_elem1 (p:=⟨d1,0,none⟩) (cs:=([z0,A0,B0,C0,D0,E0,F0,G0]:List UInt64).map (fun z9:UInt64=>(vU z9:Value)) ++ []) (i:=b0 / 2) (X0.memA .hd) (arr_get (fun z9:UInt64=>(vU z9:Value)) Z0)
 refine Ag 16 131071 j0 rfl v0 (fun _=>Bg (m:=1) (k:=b0 / 2) (len:=8) (by kernel_rfl) rfl rfl rfl (arr_lt Z0 rfl)) rfl<|BJ 17 262143 j0 rfl rfl .plain (Acts.storeArr (fun z9:UInt64=>(vU z9:Value)) (xs:=([z0,A0,B0,C0,D0,E0,F0,G0]:List UInt64)) (pre:=[]) (post:=[]) (i:=b0 / 2) (m:=8) (x:=t0 + (shlU (u64of d0) q0)) (old:=[vU z0,vU A0,vU B0,vU C0,vU D0,vU E0,vU F0,vU G0]) (new' :=[vW ((setA (b0 / 2) 0 (t0 + (shlU (u64of d0) q0)) z0).toNat:Int),vW ((setA (b0 / 2) 1 (t0 + (shlU (u64of d0) q0)) A0).toNat:Int),vW ((setA (b0 / 2) 2 (t0 + (shlU (u64of d0) q0)) B0).toNat:Int),vW ((setA (b0 / 2) 3 (t0 + (shlU (u64of d0) q0)) C0).toNat:Int),vW ((setA (b0 / 2) 4 (t0 + (shlU (u64of d0) q0)) D0).toNat:Int),vW ((setA (b0 / 2) 5 (t0 + (shlU (u64of d0) q0)) E0).toNat:Int),vW ((setA (b0 / 2) 6 (t0 + (shlU (u64of d0) q0)) F0).toNat:Int),vW ((setA (b0 / 2) 7 (t0 + (shlU (u64of d0) q0)) G0).toNat:Int)]) rfl rfl (arr_lt Z0 rfl) X0 .hd rfl (addr_at _ _ _) rfl (by kernel_rfl) (fun _=>⟨rfl,rfl⟩) rfl rfl) fun g6 J2 X2=>AM (dk j0)<|AA<|Av<|Ae rfl<|Ab (Bw (i:=b0) (j:=1) rfl rfl (by omega))<|Af rfl<|Aa<|E2 (b0 + 1,setA (b0 / 2) 0 (t0 + (shlU (u64of d0) q0)) z0,setA (b0 / 2) 1 (t0 + (shlU (u64of d0) q0)) A0,setA (b0 / 2) 2 (t0 + (shlU (u64of d0) q0)) B0,setA (b0 / 2) 3 (t0 + (shlU (u64of d0) q0)) C0,setA (b0 / 2) 4 (t0 + (shlU (u64of d0) q0)) D0,setA (b0 / 2) 5 (t0 + (shlU (u64of d0) q0)) E0,setA (b0 / 2) 6 (t0 + (shlU (u64of d0) q0)) F0,setA (b0 / 2) 7 (t0 + (shlU (u64of d0) q0)) G0) J2 (Tt K1 X2) h
 refine Ba rfl ?_
 have h:=D3 _ h
 try dsimp only at h
 refine Ac<|Ab (AK rfl (X0.memA .hd))<|AQ [vU z0,vU A0,vU B0,vU C0,vU D0,vU E0,vU F0,vU G0] X0 .t1 (onesB rfl) fun j6 F1 z5=>Af rfl<|Aa<|Al rfl<|Ap hb0 Tryz.func132 rfl (.cons (.many (cs:=[vU z0,vU A0,vU B0,vU C0,vU D0,vU E0,vU F0,vU G0]) (by kernel_rfl) rfl (F1.memA .t1)) (.cons (.tmp rfl) .nil)) rfl ?_
 cases h
 exact F1.gv
 refine Ac<|Ab (AX (vs:=[]) (u:=.agg zQ) evs_nil (fun w9=>by kernel_rfl))<|AQ zP y0 .t1 (onesB rfl) fun k6 G1 A5=>Af rfl<|Aa<|Al rfl<|Ap hb0 Tryz.func132 rfl (.cons (.many (cs:=zP) (by kernel_rfl) rfl (G1.memA .t1)) (.cons (.tmp rfl) .nil)) rfl ?_
 cases h
 exact G1.gv
 refine Aw<|Aw<|Aw<|AJ (Bh rfl rfl)<|Bx rfl rfl<|Aa<|BF rfl<|Aq<|Ac<|AV 1 rfl<|AP rfl ((y0.memA .t2) 1 _ rfl)<|Af rfl<|Aa<|Aj<|Ac<|AV 0 rfl<|AP rfl ((y0.memA .t2) 0 _ rfl)<|Aa<|MX.jf (α:=(List Int) × Value) (fun ⟨U0,W0⟩=>[(2,vP V0),(6,W0)]) (fun ⟨U0,W0⟩=>[.cells V0 zP 35]) (fun ⟨U0,W0⟩ c2=>Rep.R c2 (bl [.cells V0 zP 35] ++ L) [W0] U0) (fun ⟨U0,W0⟩=>U0) y0 h ?_ ?_
 rintro ⟨U0,W0⟩ c2 K2 C5 R3 h
 try dsimp only at h
 refine Ac<|RG.nl zP K2 fun q6 c1 M2 Y2=>Aa<|Aj<|Ac<|Af rfl<|Aa<|Ay ?_
 obtain ⟨X5,P3,E3⟩:=bind_in2 h
 refine MX.lo (α:=Nat × UInt64 × UInt64 × UInt64 × UInt64 × UInt64 × UInt64 × UInt64 × UInt64) (fun ⟨c0,H0,I0,J0,K0,M0,P0,Q0,R0⟩=>[(2,vP V0),(6,W0),(8,vP c1),(9,vI ((c0:Nat):Int))]) (fun ⟨c0,H0,I0,J0,K0,M0,P0,Q0,R0⟩=>[.cells c1 [vU H0,vU I0,vU J0,vU K0,vU M0,vU P0,vU Q0,vU R0] 35,.cells V0 zP 35]) (fun ⟨c0,H0,I0,J0,K0,M0,P0,Q0,R0⟩=>(c0,H0,I0,J0,K0,M0,P0,Q0,R0)) (0,(0:UInt64),(0:UInt64),(0:UInt64),(0:UInt64),(0:UInt64),(0:UInt64),(0:UInt64),(0:UInt64)) P3 M2 ?_
 rintro W4 ⟨c0,H0,I0,J0,K0,M0,P0,Q0,R0⟩ F6 F2 Y0 M1 h
 unfold aw_l2 at h
 try dsimp only at h
 refine Aj<|Ac<|Ae rfl<|Ae rfl ?_
 have A1:=Ao R3 (Tt Y2 M1)
 have M5:U0.length <= 281474976710656:=AY A1
 refine Ab (Bc (xs:=U0) Tryz.underlying45 rfl A1)<|Ab (Bu (i:=c0) (j:=U0.length) rfl rfl)<|Aa<|AS rfl h (fun u2 h=>?_) (fun u2 h=>?_)
 refine Aq<|Aj<|Ay<|dt 17 tb132_15 fun p0 x0=>Ag 0 1 p0 rfl x0 (fun _=>Ai rfl) rfl<|Ag 1 3 p0 rfl x0 (fun _=>FV.quoN (i:=c0) (j:=2) rfl rfl rfl (by omega)) rfl<|Ag 2 7 p0 rfl x0 (fun _=>Ai rfl) rfl<|Ag 3 15 p0 rfl x0 (fun _=>FV.quoN (i:=c0) (j:=2) rfl rfl rfl (by omega)) rfl<|bk h fun u0 b1 h=>Ag 4 31 p0 rfl x0 (fun _=>Bg (m:=1) (k:=c0 / 2) (len:=8) (by kernel_rfl) rfl rfl rfl (arr_lt b1 rfl)) rfl<|AG 5 63 229376 p0 rfl x0 (AL rfl ((mem_elem1 (p:=⟨c1,0,none⟩) (cs:=([H0,I0,J0,K0,M0,P0,Q0,R0]:List UInt64).map (fun z9:UInt64=>(vU z9:Value)) ++ []) (i:=c0 / 2) (Y0.memA .hd) (arr_get (fun z9:UInt64=>(vU z9:Value)) b1)) 0 _ rfl)) rfl<|Ag 6 127 p0 rfl x0 (fun _=>Ai rfl) rfl<|Ag 7 255 p0 rfl x0 (fun _=>Ai rfl) rfl<|bk h fun g0 j4 h=>?_
 obtain ⟨R4,b5,y3,H3,B2,V3,K3⟩:=Bl A1 j4
 have z3:B2 = [vI g0]:=V3; subst z3
 refine Ag 8 511 p0 rfl x0 (fun _=>Bm 1 c0 rfl y3 rfl rfl H3) rfl<|AG 9 1023 246784 p0 rfl x0 (AL rfl (K3 0 _ rfl)) rfl<|Ag 10 2047 p0 rfl x0 (fun _=>FV.convU (i:=g0) Tryz.underlying3 Tryz.underlying33 rfl) rfl<|Ag 11 4095 p0 rfl x0 (fun _=>Ai rfl) rfl<|Ag 12 8191 p0 rfl x0 (fun _=>FV.remN (i:=c0) (j:=2) rfl rfl rfl) rfl<|bk h fun C4 c4 h=>Ag 13 16383 p0 rfl x0 (fun _=>FV.mulc (i:=32) (j:=((c0 % 2:Nat):Int)) rfl rfl c4) rfl<|bk h fun s0 I3 h=>Ag 14 32767 p0 rfl x0 (fun _=>FV.shlI (a:=u64of g0) (i:=C4) rfl rfl I3) rfl<|Ag 15 65535 p0 rfl x0 (fun _=>FV.addU (a:=u0) (b:=shlU (u64of g0) s0) rfl rfl) rfl ?_
 have R5:=mem_elem1 (p:=⟨c1,0,none⟩) (cs:=([H0,I0,J0,K0,M0,P0,Q0,R0]:List UInt64).map (fun z9:UInt64=>(vU z9:Value)) ++ []) (i:=c0 / 2) (Y0.memA .hd) (arr_get (fun z9:UInt64=>(vU z9:Value)) b1)
 refine Ag 16 131071 p0 rfl x0 (fun _=>Bg (m:=1) (k:=c0 / 2) (len:=8) (by kernel_rfl) rfl rfl rfl (arr_lt b1 rfl)) rfl<|BJ 17 262143 p0 rfl rfl .plain (Acts.storeArr (fun z9:UInt64=>(vU z9:Value)) (xs:=([H0,I0,J0,K0,M0,P0,Q0,R0]:List UInt64)) (pre:=[]) (post:=[]) (i:=c0 / 2) (m:=8) (x:=u0 + (shlU (u64of g0) s0)) (old:=[vU H0,vU I0,vU J0,vU K0,vU M0,vU P0,vU Q0,vU R0]) (new' :=[vW ((setA (c0 / 2) 0 (u0 + (shlU (u64of g0) s0)) H0).toNat:Int),vW ((setA (c0 / 2) 1 (u0 + (shlU (u64of g0) s0)) I0).toNat:Int),vW ((setA (c0 / 2) 2 (u0 + (shlU (u64of g0) s0)) J0).toNat:Int),vW ((setA (c0 / 2) 3 (u0 + (shlU (u64of g0) s0)) K0).toNat:Int),vW ((setA (c0 / 2) 4 (u0 + (shlU (u64of g0) s0)) M0).toNat:Int),vW ((setA (c0 / 2) 5 (u0 + (shlU (u64of g0) s0)) P0).toNat:Int),vW ((setA (c0 / 2) 6 (u0 + (shlU (u64of g0) s0)) Q0).toNat:Int),vW ((setA (c0 / 2) 7 (u0 + (shlU (u64of g0) s0)) R0).toNat:Int)]) rfl rfl (arr_lt b1 rfl) Y0 .hd rfl (addr_at _ _ _) rfl (by kernel_rfl) (fun _=>⟨rfl,rfl⟩) rfl rfl) fun s6 P2 Z2=>AM (dk p0)<|AA<|Av<|Ae rfl<|Ab (Bw (i:=c0) (j:=1) rfl rfl (by omega))<|Af rfl<|Aa<|F2 (c0 + 1,setA (c0 / 2) 0 (u0 + (shlU (u64of g0) s0)) H0,setA (c0 / 2) 1 (u0 + (shlU (u64of g0) s0)) I0,setA (c0 / 2) 2 (u0 + (shlU (u64of g0) s0)) J0,setA (c0 / 2) 3 (u0 + (shlU (u64of g0) s0)) K0,setA (c0 / 2) 4 (u0 + (shlU (u64of g0) s0)) M0,setA (c0 / 2) 5 (u0 + (shlU (u64of g0) s0)) P0,setA (c0 / 2) 6 (u0 + (shlU (u64of g0) s0)) Q0,setA (c0 / 2) 7 (u0 + (shlU (u64of g0) s0)) R0) P2 (Tt M1 Z2) h
 refine Ba rfl ?_
 have h:=E3 _ h
 try dsimp only at h
 refine Ac<|Ab (AK rfl (Y0.memA .hd))<|AQ [vU H0,vU I0,vU J0,vU K0,vU M0,vU P0,vU Q0,vU R0] Y0 .t1 (onesB rfl) fun t6 H1 D5=>Af rfl<|Aa<|Al rfl<|Ap hb0 Tryz.func132 rfl (.cons (.many (cs:=[vU H0,vU I0,vU J0,vU K0,vU M0,vU P0,vU Q0,vU R0]) (by kernel_rfl) rfl (H1.memA .t1)) (.cons (.tmp rfl) .nil)) rfl ?_
 cases h
 exact H1.gv
 intro V4 E1 h
 try dsimp only at h
 refine MX.ifb rfl h (fun v2 h=>?_) (fun v2 h=>?_)
 refine Ac<|bk h fun H6 s4 h=>RG.doesH .plain rfl (Does.mkH (α:=Int) (L:=L) s4 y0 el45 rfl (fun _ _=>rfl)) fun D4 u6 ⟨q5,p1,b3,R1⟩=>Af rfl<|Aa<|Ac<|Ae rfl<|bk h fun I4 k4 h=>?_
 obtain ⟨g2,d5,x1,Z1,C2,W3,U5⟩:=St.nth (α:=Int) p1 .hd R1 k4
 obtain ⟨p2,g5,V1⟩:=BU (α:=Int) p1 .hd Z1
 obtain rfl:g2 = ⟨p2,0,none⟩:=by rw [V1] at x1; cases x1; rfl
 have A3:C2 = [vI I4]:=W3; subst A3
 refine Ab (Bm 1 16 rfl x1 rfl rfl Z1)<|bk h fun K4 t4 h=>RG.acts' .plain (Acts.set (α:=Int) (i:=16) t4 p1 V1 (fun _=>.hd) R1 rfl rfl rfl rfl rfl (by kernel_rfl)) fun v6 ⟨s5,q1,c3,s3⟩=>Aa<|Av<|Ae rfl<|Ae rfl ?_
 have g1:=By q1 .hd
 have d3:=Bz q1 .hd
 refine bk h fun P4 y4 h=>AZ (fst:=[]) (cap:=[]) .plain body162 rfl (e2 rfl rfl) (fun w9 hw9=>ar_c n _ w9 (g1.hL hL hw9) (Ar (BA (α:=Int) (v:=D4) (xs:=K4) g1 L (Bj (α:=Int) q1 .hd s3 hL)) hw9) (g1.km h0_1 hw9) y4) rfl fun x6 F4 p3 ⟨Z5,hu_,X3⟩=>?_
 subst hu_
 obtain ⟨Q2,g3⟩:=g1.agr p3
 refine Af rfl<|Aa ?_
 obtain ⟨R2,P1⟩:=AI Q2 (.a1 .done)
 exact E1 (P4,F4) R2 (Tt b3 (Tt c3 (Tt d3 (Tt g3 P1)))) (Ao X3 P1) h
 refine Aq ?_
 obtain ⟨I1,j3⟩:=AI y0 (.a1 .done)
 exact E1 (a0.fD,v0_1) I1 j3 (AO h0_1 I1) h
structure Tm where
  fN:Td
  fD:Td
  deriving DecidableEq
instance:Rep Tm:=Rep.via (β:=Td × Td) fun x=>(x.fN,x.fD)
theorem body132:bodyB Tryz.prog 132 = true:=by kernel_rfl
def cq_p (n:Nat) (a0:Tm):Option (Ta × Int):=
  (aw_p n a0.fN).bind fun b0=>(aw_p n a0.fD).bind fun c0=>(if b0.2 = 0 then (if c0.2 = 0 then some ((⟨b0.1,c0.1⟩:Ta),(0:Int)) else some ((⟨((0:UInt64),(0:UInt64),(0:UInt64),(0:UInt64),(0:UInt64),(0:UInt64),(0:UInt64),(0:UInt64)),((0:UInt64),(0:UInt64),(0:UInt64),(0:UInt64),(0:UInt64),(0:UInt64),(0:UInt64),(0:UInt64))⟩:Ta),(6:Int))) else some ((⟨((0:UInt64),(0:UInt64),(0:UInt64),(0:UInt64),(0:UInt64),(0:UInt64),(0:UInt64),(0:UInt64)),((0:UInt64),(0:UInt64),(0:UInt64),(0:UInt64),(0:UInt64),(0:UInt64),(0:UInt64),(0:UInt64))⟩:Ta),(6:Int)))
theorem cq_c (n:Nat) (L:List Nat) (w:World) (hL:∀ b ∈ L,b < w.heap.size) (a0:Tm) {v0_1:Value} (h0_1:Rep.R w L [v0_1] a0.fN.fD) {v0_3:Value} (h0_3:Rep.R w L [v0_3] a0.fD.fD)  {r:Ta × Int} (h:cq_p n a0 = some r) :
    Calls Tryz.prog 92 #[.agg #[.bool a0.fN.fc,v0_1,.bool a0.fD.fc,v0_3]] w (Gives w fun _ u=>u = .tuple #[.agg ((cs_Ta r.1)).toArray,vI r.2]):=by
 unfold cq_p at h
 refine AF Tryz.func92 rfl rfl rfl fun _ cs0 hb0=>Ac<|RG.bx (AB w) rfl rfl fun R0 B0 v0 F0=>RG.nl zL v0 fun U0 C0 g0 G0=>Af rfl<|Aa<|Ac<|AV 0 rfl<|Ab (Bp (cs:=[.bool a0.fN.fc,v0_1]) (by kernel_rfl) rfl (mem_part (g0.memA .t1) 0 2))<|bk h fun b0 z0 h=>Bi (.tuple #[.agg ((cs_A34 b0.1)).toArray,vI b0.2]) body132 rfl (e1 rfl) (fun w9 hw9=>aw_c n _ w9 (g0.hL0 hL hw9) a0.fN (g0.k0 h0_1 hw9) z0) rfl<|Ae rfl<|Ab (Ah rfl rfl)<|Ab (Ah rfl rfl)<|RG.nl zP g0 fun V0 D0 x0 H0=>AQ (cs_A34 b0.1) x0 .hd (onesB rfl) fun W0 j0 I0=>Af rfl<|Aa<|Ac<|AV 2 rfl<|Ab (Bp (cs:=[.bool a0.fD.fc,v0_3]) (by kernel_rfl) rfl (mem_part (j0.memA .t2) 2 2))<|bk h fun c0 A0 h=>Bi (.tuple #[.agg ((cs_A34 c0.1)).toArray,vI c0.2]) body132 rfl (e1 rfl) (fun w9 hw9=>aw_c n _ w9 (j0.hL0 hL hw9) a0.fD (j0.k0 h0_3 hw9) A0) rfl<|Ae rfl<|Ab (Ah rfl rfl)<|Ab (Ah rfl rfl)<|RG.nl zP j0 fun X0 E0 y0 J0=>AQ (cs_A34 c0.1) y0 .hd (onesB rfl) fun Y0 d0 K0=>Af rfl<|Aa<|Aj<|Ac<|Ae rfl<|Ab (FV.neq (i:=b0.2) (j:=0) rfl rfl) ?_
 refine Ae rfl<|RG.ifn (s:=22) rfl h (fun t0 h=>?_) (fun t0 h=>?_)
 refine AJ (Ai rfl)<|AJ (FV.neq (i:=c0.2) (j:=0) rfl rfl)<|Bx rfl rfl<|Aa<|MX.ifn rfl h (fun u0 h=>?_) (fun u0 h=>?_)
 refine Aq<|Ac<|Ab (AK rfl (d0.memA .t1))<|Ab (AK rfl (d0.memA .hd))<|Ab (AX (vs:=[.agg ((cs_A34 b0.1)).toArray,.agg ((cs_A34 c0.1)).toArray]) (u:=.agg ((cs_A34 b0.1 ++ cs_A34 c0.1)).toArray) (e2 rfl rfl) (fun w9=>by kernel_rfl))<|AQ (cs_A34 b0.1 ++ cs_A34 c0.1) d0 .t2 (onesB rfl) fun Z0 p0 M0=>Af rfl<|Aa<|Al rfl<|Ap hb0 Tryz.func92 rfl (.cons (.many (cs:=(cs_A34 b0.1 ++ cs_A34 c0.1)) (by kernel_rfl) rfl (p0.memA .t2)) (.cons (.tmp rfl) .nil)) rfl ?_
 cases h
 exact p0.gv
 refine Ac<|Ab (AX (vs:=[]) (u:=.agg zM) evs_nil (fun w9=>by kernel_rfl))<|AQ zL d0 .t2 (onesB rfl) fun b1 q0 P0=>Af rfl<|Aa<|Al rfl<|Ap hb0 Tryz.func92 rfl (.cons (.many (cs:=zL) (by kernel_rfl) rfl (q0.memA .t2)) (.cons (.tmp rfl) .nil)) rfl ?_
 cases h
 exact q0.gv
 refine Aw<|Aw<|Br rfl rfl<|Aa<|Bk rfl<|Ac<|Ab (AX (vs:=[]) (u:=.agg zM) evs_nil (fun w9=>by kernel_rfl))<|AQ zL d0 .t2 (onesB rfl) fun c1 s0 Q0=>Af rfl<|Aa<|Al rfl<|Ap hb0 Tryz.func92 rfl (.cons (.many (cs:=zL) (by kernel_rfl) rfl (s0.memA .t2)) (.cons (.tmp rfl) .nil)) rfl ?_
 cases h
 exact s0.gv
def bb_l1 (_n:Nat) (a0:List Int) (j0:Int × Nat × (List Int) -> Option ((List Int) × Int)):Int × Nat × (List Int) -> Option ((List Int) × Int)
  | (g0,b0,d0)=>(if b0 < a0.length then (a0[b0]?).bind fun s0=>(chk (2 * s0)).bind fun k0=>(chk (k0 + g0)).bind fun c0=>(remI c0 4294967296).bind fun p0=>(app d0 ([p0]:List Int)).bind fun t0=>(quoI c0 4294967296).bind fun q0=>j0 (q0,b0 + 1,t0) else some (d0,g0))
def bb_p (n:Nat) (a0:List Int) (a1:Int):Option (List Int):=
  Option.bind (loopF (bb_l1 n a0) n (a1,0,([]:List Int))) (fun (c0,g0)=>(app c0 ([g0]:List Int)).bind fun b0=>(aF_p n b0).bind fun d0=>some d0)
theorem bb_c (n:Nat) (L:List Nat) (w:World) (hL:∀ b ∈ L,b < w.heap.size) {a0:List Int} {v0_0:Value} (h0_0:Rep.R w L [v0_0] a0) {a1:Int}  {r:List Int} (h:bb_p n a0 a1 = some r) :
    Calls Tryz.prog 192 #[v0_0,vI a1] w (Gives w fun w' u=>∃ v0_0:Value,u = v0_0/\Rep.R w' L [v0_0] r):=by
 unfold bb_p at h
 have hS0:=AB w
 refine AF Tryz.func192 rfl rfl rfl fun _ cs0 hb0=>Ac<|Af rfl<|Aa<|Ac<|Af rfl<|Aa<|Aj<|Ac<|Af rfl<|Aa<|Ay ?_
 have x0:=hS0.nilRow 3 (Rep.size Int)
 have P1:=St.nilRowT hS0 3 (Rep.size Int)
 obtain ⟨W1,c1,Y0⟩:=bind_in2 h
 refine MX.lf (α:=Int × Nat × (List Int) × Value × (List Value)) (fun ⟨b0,c0,d0,k0,g0⟩=>[(0,v0_0),(1,vI b0),(5,k0),(6,vI ((c0:Nat):Int))]) (fun ⟨b0,c0,d0,k0,g0⟩=>[.row w.heap.size 3 (Rep.size Int) k0 d0.length g0]) (fun ⟨b0,c0,d0,k0,g0⟩ D0=>Cells D0 (bl [.row w.heap.size 3 (Rep.size Int) k0 d0.length g0] ++ L) g0 d0) (fun ⟨b0,c0,d0,k0,g0⟩=>(b0,c0,d0)) (a1,0,([]:List Int),vN,[]) c1 x0 (Ax (cs:=[]) (xs:=([]:List Int)) x0 L (AD _ _)) ?_
 rintro H1 ⟨b0,c0,d0,k0,g0⟩ D0 I0 u0 Q0 B0 h
 unfold bb_l1 at h
 try dsimp only at h
 refine Aj<|Ac<|Ae rfl<|Ae rfl ?_
 have v0:=AO h0_0 u0
 have V1:a0.length <= 281474976710656:=AY v0
 refine Ab (Bc (xs:=a0) Tryz.underlying45 rfl v0)<|Ab (Bu (i:=c0) (j:=a0.length) rfl rfl)<|Aa<|AS rfl h (fun F0 h=>?_) (fun F0 h=>?_)
 refine Aq<|Aj<|Ay<|Ac<|Ae rfl<|Ae rfl<|bk h fun E0 u1 h=>?_
 obtain ⟨G1,K1,W0,Z0,G0,g1,b1⟩:=Bl v0 u1
 have X0:G0 = [vI E0]:=g1; subst X0
 refine Ab (Bm 1 c0 rfl W0 rfl rfl Z0)<|AP rfl (b1 0 _ rfl)<|bk h fun z1 k1 h=>Ab (FV.mulc (i:=2) (j:=E0) rfl rfl k1)<|Ae rfl<|bk h fun C0 p1 h=>Ab (BL (i:=z1) (j:=b0) rfl rfl p1)<|Af rfl<|Aa<|Ac<|Ae rfl<|Ae rfl<|bk h fun j0 q1 h=>Ab (FV.remc (i:=C0) (j:=4294967296) rfl rfl q1)<|Ak .plain rfl (AE (α:=Int) (xs:=([j0]:List Int)) (vs:=[vI j0]) (ds' :=[vI j0]) rfl u0 el45 rfl (e1 rfl) (by kernel_rfl) rfl) fun Y1 I1 p0 z0=>bk h fun E1 v1 h=>RG.doesL .plain rfl (AW (α:=Int) (ys:=([j0]:List Int)) v1 p0 (fun _ _=>.t1) el45 rfl rfl (Au B0 z0) (Src.row (α:=Int) p0 .hd (Ax (cs:=[vI j0]) (xs:=(([j0]:List Int):List Int)) p0 L (Am (cs:=[vI j0]) (ds:=[]) rfl (AD _ _))))) fun B1 Z1 ⟨H0,J0,M0,U0⟩=>Af rfl<|Aa<|Av<|Ae rfl<|bk h fun A1 s1 h=>Ab (FV.quoc (i:=C0) (j:=4294967296) rfl rfl s1)<|Af rfl<|Aa<|AA<|Av<|Ae rfl<|Ab (Bw (i:=c0) (j:=1) rfl rfl (by omega))<|Af rfl<|Aa ?_
 obtain ⟨K0,A0⟩:=AI J0 .d1
 exact I0 (A1,c0 + 1,E1,B1,H0) K0 (Tt Q0 (Tt z0 (Tt M0 A0))) (Au U0 A0) h
 refine Ba rfl ?_
 have h:=Y0 _ h
 try dsimp only at h
 refine Ac<|Ae rfl<|Ae rfl<|Ak .plain rfl (AE (α:=Int) (xs:=([b0]:List Int)) (vs:=[vI b0]) (ds' :=[vI b0]) rfl u0 el45 rfl (e1 rfl) (by kernel_rfl) rfl) fun b2 J1 q0 P0=>bk h fun F1 x1 h=>RG.doesL .plain rfl (AW (α:=Int) (ys:=([b0]:List Int)) x1 q0 (fun _ _=>.t1) el45 rfl rfl (Au B0 P0) (Src.row (α:=Int) q0 .hd (Ax (cs:=[vI b0]) (xs:=(([b0]:List Int):List Int)) q0 L (Am (cs:=[vI b0]) (ds:=[]) rfl (AD _ _))))) fun C1 c2 ⟨M1,s0,Q1,V0⟩=>?_
 have t0:=By s0 .t1
 have R1:=Bz s0 .t1
 refine bk h fun g2 y1 h=>AZ (fst:=[]) (cap:=[]) .plain body163 rfl (e1 rfl) (fun w9 hw9=>aF_c n _ w9 (t0.hL hL hw9) (Ar (BA (α:=Int) (v:=C1) (xs:=F1) t0 L (Bj (α:=Int) s0 .t1 V0 hL)) hw9) y1) rfl fun d2 D1 R0 ⟨X1,hu_,j1⟩=>?_
 subst hu_
 obtain ⟨y0,U1⟩:=t0.agr R0
 refine Af rfl<|Aa<|Al rfl<|AT hb0 Tryz.func192 rfl rfl ?_
 cases h
 exact ⟨y0.ag,fun w9 hw9=>⟨D1,rfl,y0.kd j1 hw9⟩⟩
end Go.Proofs.YtgejkdheojkfiaaGreatDoor
