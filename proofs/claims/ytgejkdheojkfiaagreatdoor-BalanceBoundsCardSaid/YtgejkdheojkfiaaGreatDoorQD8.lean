/- Functions of the program, and what they give: part 7. -/
import Derived.Test.YtgejkdheojkfiaaGreatDoorQD6
namespace Go.Proofs.YtgejkdheojkfiaaGreatDoor
open Go Go.RowKit
set_option maxRecDepth 4000
set_option maxHeartbeats 4000000

structure Ti where
  fr:Td
  fp:List Int
  fk:Int
  deriving DecidableEq
instance:Rep Ti:=Rep.via (β:=Td × (List Int) × Int) fun x=>(x.fr,x.fp,x.fk)
theorem op_Td {w:World} {L:List Nat} {cs:List Value} {x:Td} (h:Rep.R w L cs x):∃ v3:Value,cs = [vI x.fe,vI x.fh,vI x.fj,v3]/\Rep.R w L [v3] x.fo:=by
  obtain ⟨c0,r0,rfl,h0,h⟩:=h
  have e0:c0 = [vI x.fe]:=h0; subst e0
  obtain ⟨c1,r1,rfl,h1,h⟩:=h
  have e1:c1 = [vI x.fh]:=h1; subst e1
  obtain ⟨c2,r2,rfl,h2,h⟩:=h
  have e2:c2 = [vI x.fj]:=h2; subst e2
  obtain ⟨v3,rfl,kv3⟩:=lst_one (xs:=x.fo) h
  exact ⟨v3,rfl,kv3⟩
theorem mk_Td {w:World} {L:List Nat} (a0:Int) (a1:Int) (a2:Int) (a3:List Tb) {u3:Value} (h3:Rep.R w L [u3] a3):Rep.R w L [vI a0,vI a1,vI a2,u3] (⟨a0,a1,a2,a3⟩:Td):=⟨[vI a0],[vI a1,vI a2,u3],rfl,rfl,⟨[vI a1],[vI a2,u3],rfl,rfl,⟨[vI a2],[u3],rfl,rfl,h3⟩⟩⟩
theorem op_Ti {w:World} {L:List Nat} {cs:List Value} {x:Ti} (h:Rep.R w L cs x):∃ v3 v4:Value,cs = [vI x.fr.fe,vI x.fr.fh,vI x.fr.fj,v3,v4,vI x.fk]/\Rep.R w L [v3] x.fr.fo/\Rep.R w L [v4] x.fp:=by
  obtain ⟨c0,r0,rfl,h0,h⟩:=h
  obtain ⟨v3,rfl,kv3⟩:=op_Td (x:=x.fr) h0
  obtain ⟨c1,r1,rfl,h1,h⟩:=h
  obtain ⟨v4,rfl,kv4⟩:=lst_one (xs:=x.fp) h1
  have e2:r1 = [vI x.fk]:=h; subst e2
  exact ⟨v3,v4,rfl,kv3,kv4⟩
theorem mk_Ti {w:World} {L:List Nat} (a0:Td) {u3:Value} (h3:Rep.R w L [u3] a0.fo) (a1:List Int) {u4:Value} (h4:Rep.R w L [u4] a1) (a2:Int):Rep.R w L [vI a0.fe,vI a0.fh,vI a0.fj,u3,u4,vI a2] (⟨a0,a1,a2⟩:Ti):=⟨[vI a0.fe,vI a0.fh,vI a0.fj,u3],[u4,vI a2],rfl,mk_Td a0.fe a0.fh a0.fj a0.fo h3,⟨[u4],[vI a2],rfl,h4,rfl⟩⟩
theorem el39:ElT Tryz.prog 39 48 (Rep.size Ti) 80 (.agg #[vI 0,vI 0,vI 0,vN,vN,vI 0]) [vI 0,vI 0,vI 0,vN,vN,vI 0]:=⟨Tryz.underlying39,by kernel_rfl,rfl,rfl,rfl,rfl⟩
def cr_p (n:Nat) (a0:Tk) (a1:Tj) (a2:Tn) (a3:Tn) (a4:Int):Option (List Ti):=
  (aj_p n a0).bind fun b0=>(ac_p n a1 ((b0.1.length:Nat):Int)).bind fun c0=>(cp_p n a2 b0.1).bind fun d0=>(cq_p n a3 c0).bind fun g0=>some ([(⟨c0,b0.1,b0.2⟩:Ti),(⟨c0,d0,b0.2⟩:Ti),(⟨g0,b0.1,b0.2⟩:Ti),(⟨c0,b0.1,a4⟩:Ti),(⟨(⟨(0:Int),(0:Int),(0:Int),([]:List Tb)⟩:Td),([]:List Int),(0:Int)⟩:Ti)]:List Ti)
theorem cr_c (n:Nat) {L w} (hL:hl L w) (a0:Tk) {v0_1:Value} (h0_1:Rep.R w L [v0_1] a0.fC) {v0_2:Value} (h0_2:Rep.R w L [v0_2] a0.fMore) {v0_3:Value} (h0_3:Rep.R w L [v0_3] a0.fLabels) (a1:Tj) {v1_4:Value} (h1_4:Rep.R w L [v1_4] a1.fNums) (a2:Tn) (a3:Tn) {a4:Int}  {r:List Ti} (h:cr_p n a0 a1 a2 a3 a4 = some r) :
 Cl 6 #[.agg #[.int .u8 (a0.fN.toNat:Int),v0_1,v0_2,v0_3,.int .u8 (a0.fK.toNat:Int)],.agg #[.int .u8 (a1.fe.toNat:Int),.int .u8 (a1.fh.toNat:Int),.int .u8 (a1.fj.toNat:Int),.int .u8 (a1.fu.toNat:Int),v1_4],.agg #[.int .u8 (a2.fE.toNat:Int),.int .u8 (a2.fAt.toNat:Int),vI a2.fN],.agg #[.int .u8 (a3.fE.toNat:Int),.int .u8 (a3.fAt.toNat:Int),vI a3.fN],vI a4] w (Gives w fun w' u=>∃ v0_0:Value,u = v0_0/\Rep.R w' L [v0_0] r):=by
 unfold cr_p at h
 refine AD Tryz.func6 rfl rfl rfl fun _ cs0 hb0=>Ac<|RG.bx (Az w) rfl rfl fun Z2 j2 c1 H2=>RG.bx c1 rfl rfl fun c3 k2 d1 J2=>RG.bx d1 rfl rfl fun d3 p2 g1 K2=>RG.bx g1 rfl rfl fun g3 q2 v0 M2=>Af rfl<|Aa<|Ac<|Ab (AH rfl (v0.memA .t3))<|bk h fun c0 J1 h=>AX (fst:=[]) (cap:=[]) .plain (bd 31) rfl (e1 rfl) (fun w9 hw9=>aj_c n (v0.hL hL hw9) a0 (v0.km h0_1 hw9) (v0.km h0_2 hw9) (v0.km h0_3 hw9) J1) rfl fun j3 W2 p1 ⟨j0,hu_,y0⟩=>?_
 subst hu_
 obtain ⟨A0,P2⟩:=v0.agr p1
 refine Ae rfl<|Ab (Ag rfl rfl)<|Ab (Ag rfl rfl)<|Af rfl<|Af rfl<|Aa<|Ac<|Ab (AH rfl (A0.memA .t2))<|Ae rfl ?_
 have Q2:c0.1.length <= 281474976710656:=AY y0
 refine Ab (Be (xs:=c0.1) Tryz.underlying46 rfl y0)<|bk h fun b0 K1 h=>AX (fst:=[]) (cap:=[]) .plain (bd 32) rfl (e2 rfl rfl) (fun w9 hw9=>ac_c n (A0.hL hL hw9) a1 (A0.km h1_4 hw9) K1) rfl fun k3 X2 q1 ⟨k0,hu_,z0⟩=>?_
 subst hu_
 obtain ⟨j1,U0⟩:=A0.agr q1
 refine RG.nl [vI 0,vI 0,vI 0,vN] j1 fun p3 s2 k1 B0=>AQ [vI b0.fe,vI b0.fh,vI b0.fj,k0] k1 .hd (o4 rfl rfl rfl (AO (Ao z0 B0))) fun q3 q0 G0=>Aa<|Aj<|du 23 fun g0 p0=>Rx 0 6291464 g0 rfl p0 (AH rfl (q0.memA .hd))<|Rv 1 g0 rfl p0 (fun _=>Ai rfl)<|Rv 2 g0 rfl p0 (fun _=>Ai rfl) ?_
 have X0:=Ao z0 (Tt B0 G0)
 obtain ⟨X1,A2,C1,_⟩:=BV X0
 have b1:=Tt U0 (Tt B0 G0)
 have J0:=Ao y0 b1
 obtain ⟨Y1,B2,D1,_⟩:=BV J0
 refine Rv 3 g0 rfl p0 (fun _=>AU (vs:=[.agg #[vI b0.fe,vI b0.fh,vI b0.fj,k0],j0,vI c0.2]) (u:=.agg #[vI b0.fe,vI b0.fh,vI b0.fj,k0,j0,vI c0.2]) (e3 rfl rfl rfl) (fun w9=>by rw [C1,D1]; try kernel_rfl))<|Rx 4 6291968 g0 rfl p0 (AH rfl (q0.memA .hd))<|Rx 5 6328960 g0 rfl p0 (AH rfl (q0.memA .t2))<|Rv 6 g0 rfl p0 (fun _=>Ai rfl)<|Rv 8 g0 rfl p0 (fun _=>Ai rfl)<|Rx 10 6328320 g0 rfl p0 (AH rfl (q0.memA .t1))<|Rx 11 6328320 g0 rfl p0 (AH rfl (q0.memA .hd))<|Rv 13 g0 rfl p0 (fun _=>Ai rfl)<|Rv 14 g0 rfl p0 (fun _=>Ai rfl)<|Rx 16 6815744 g0 rfl p0 (AH rfl (q0.memA .hd))<|Rv 17 g0 rfl p0 (fun _=>Ai rfl)<|Rv 18 g0 rfl p0 (fun _=>Ai rfl) ?_
 obtain ⟨Z1,C2,E1,_⟩:=BV X0
 obtain ⟨b2,D2,F1,_⟩:=BV J0
 refine Rv 19 g0 rfl p0 (fun _=>AU (vs:=[.agg #[vI b0.fe,vI b0.fh,vI b0.fj,k0],j0,vI a4]) (u:=.agg #[vI b0.fe,vI b0.fh,vI b0.fj,k0,j0,vI a4]) (e3 rfl rfl rfl) (fun w9=>by rw [E1,F1]; try kernel_rfl))<|Rv 20 g0 rfl p0 (fun _=>AU (vs:=[]) (u:=.agg #[vI 0,vI 0,vI 0,vN,vN,vI 0]) evs_nil (fun w9=>by kernel_rfl))<|bk h fun C0 M1 h=>Bn 7 2059775 g0 rfl .plain (bd 33) rfl (e2 rfl rfl) (fun w9 hw9=>cp_c n (q0.hL hL hw9) a2 (Aq J0 hw9) M1) rfl fun s3 t0 s1 ⟨V2,hu_,M0⟩=>?_
 subst hu_
 obtain ⟨R0,V0⟩:=q0.agr s1
 have K0:=Tt B0 (Tt G0 V0)
 have Y0:=Ao z0 K0
 obtain ⟨c2,E2,G1,_⟩:=BV Y0
 obtain ⟨d2,F2,H1,_⟩:=BV M0
 refine Rv 9 g0 rfl p0 (fun _=>AU (vs:=[.agg #[vI b0.fe,vI b0.fh,vI b0.fj,k0],t0,vI c0.2]) (u:=.agg #[vI b0.fe,vI b0.fh,vI b0.fj,k0,t0,vI c0.2]) (e3 rfl rfl rfl) (fun w9=>by rw [G1,H1]; try kernel_rfl))<|bk h fun d0 P1 h=>Bn 12 2064383 g0 rfl .plain (bd 34) rfl (e2 rfl rfl) (fun w9 hw9=>cq_c n (R0.hL hL hw9) a3 b0 (Aq Y0 hw9) P1) rfl fun u3 Y2 u1 ⟨s0,hu_,P0⟩=>?_
 subst hu_
 obtain ⟨E0,x0⟩:=R0.agr u1
 obtain ⟨g2,G2,I1,_⟩:=BV P0
 have W0:=Ao y0 (Tt b1 (Tt V0 x0))
 obtain ⟨Q1,u2,x1,_⟩:=BV W0
 refine Rv 15 g0 rfl p0 (fun _=>AU (vs:=[.agg #[vI d0.fe,vI d0.fh,vI d0.fj,s0],j0,vI c0.2]) (u:=.agg #[vI d0.fe,vI d0.fh,vI d0.fj,s0,j0,vI c0.2]) (e3 rfl rfl rfl) (fun w9=>by rw [I1,x1]; try kernel_rfl)) ?_
 have R2:=Rep.nilAt (α:=Tb) E0 L
 have U2:=Rep.nilAt (α:=Int) E0 L
 obtain ⟨R1,v2,y1,_⟩:=BV (Ao z0 (Tt K0 x0))
 obtain ⟨U1,x2,z1,_⟩:=BV W0
 obtain ⟨V1,y2,A1,_⟩:=BV (Ao M0 x0)
 obtain ⟨W1,z2,B1,_⟩:=BV P0
 refine BN 21 4194303 g0 rfl .plain rfl (AK (α:=Ti) (xs:=([(⟨b0,c0.1,c0.2⟩:Ti),(⟨b0,C0,c0.2⟩:Ti),(⟨d0,c0.1,c0.2⟩:Ti),(⟨b0,c0.1,a4⟩:Ti),(⟨(⟨(0:Int),(0:Int),(0:Int),([]:List Tb)⟩:Td),([]:List Int),(0:Int)⟩:Ti)]:List Ti)) (vs:=[.agg #[vI b0.fe,vI b0.fh,vI b0.fj,k0,j0,vI c0.2],.agg #[vI b0.fe,vI b0.fh,vI b0.fj,k0,t0,vI c0.2],.agg #[vI d0.fe,vI d0.fh,vI d0.fj,s0,j0,vI c0.2],.agg #[vI b0.fe,vI b0.fh,vI b0.fj,k0,j0,vI a4],.agg #[vI 0,vI 0,vI 0,vN,vN,vI 0]]) (ds' :=[vI b0.fe,vI b0.fh,vI b0.fj,k0,j0,vI c0.2,vI b0.fe,vI b0.fh,vI b0.fj,k0,t0,vI c0.2,vI d0.fe,vI d0.fh,vI d0.fj,s0,j0,vI c0.2,vI b0.fe,vI b0.fh,vI b0.fj,k0,j0,vI a4,vI 0,vI 0,vI 0,vN,vN,vI 0]) rfl E0 el39 rfl (e5 rfl rfl rfl rfl rfl) (by rw [y1,z1,A1,B1]; try kernel_rfl) rfl) fun b3 Q0 u0 F0=>?_
 have Z0:=Tt K0 (Tt x0 F0)
 have H0:=Ao z0 Z0
 have I0:=Ao y0 (Tt U0 Z0)
 refine Rv 22 g0 rfl p0 (fun _=>AV rfl)<|AN (dk g0)<|Al rfl ?_
 have D0:=Bz u0 .hd
 have I2:=BA u0 .hd
 have v1:=BB (α:=Ti) (v:=(vS Q0 5)) (xs:=([(⟨b0,c0.1,c0.2⟩:Ti),(⟨b0,C0,c0.2⟩:Ti),(⟨d0,c0.1,c0.2⟩:Ti),(⟨b0,c0.1,a4⟩:Ti),(⟨(⟨(0:Int),(0:Int),(0:Int),([]:List Tb)⟩:Td),([]:List Int),(0:Int)⟩:Ti)]:List Ti)) D0 L (Bj (α:=Ti) u0 .hd (AB (cs:=[vI b0.fe,vI b0.fh,vI b0.fj,k0,j0,vI c0.2,vI b0.fe,vI b0.fh,vI b0.fj,k0,t0,vI c0.2,vI d0.fe,vI d0.fh,vI d0.fj,s0,j0,vI c0.2,vI b0.fe,vI b0.fh,vI b0.fj,k0,j0,vI a4,vI 0,vI 0,vI 0,vN,vN,vI 0]) (xs:=(([(⟨b0,c0.1,c0.2⟩:Ti),(⟨b0,C0,c0.2⟩:Ti),(⟨d0,c0.1,c0.2⟩:Ti),(⟨b0,c0.1,a4⟩:Ti),(⟨(⟨(0:Int),(0:Int),(0:Int),([]:List Tb)⟩:Td),([]:List Int),(0:Int)⟩:Ti)]:List Ti):List Ti)) u0 L (Ar (cs:=[vI b0.fe,vI b0.fh,vI b0.fj,k0,j0,vI c0.2]) (ds:=[vI b0.fe,vI b0.fh,vI b0.fj,k0,t0,vI c0.2,vI d0.fe,vI d0.fh,vI d0.fj,s0,j0,vI c0.2,vI b0.fe,vI b0.fh,vI b0.fj,k0,j0,vI a4,vI 0,vI 0,vI 0,vN,vN,vI 0]) (mk_Ti b0 H0 c0.1 I0 c0.2) (Ar (cs:=[vI b0.fe,vI b0.fh,vI b0.fj,k0,t0,vI c0.2]) (ds:=[vI d0.fe,vI d0.fh,vI d0.fj,s0,j0,vI c0.2,vI b0.fe,vI b0.fh,vI b0.fj,k0,j0,vI a4,vI 0,vI 0,vI 0,vN,vN,vI 0]) (mk_Ti b0 H0 C0 (Ao M0 (Tt x0 F0)) c0.2) (Ar (cs:=[vI d0.fe,vI d0.fh,vI d0.fj,s0,j0,vI c0.2]) (ds:=[vI b0.fe,vI b0.fh,vI b0.fj,k0,j0,vI a4,vI 0,vI 0,vI 0,vN,vN,vI 0]) (mk_Ti d0 (Ao P0 F0) c0.1 I0 c0.2) (Ar (cs:=[vI b0.fe,vI b0.fh,vI b0.fj,k0,j0,vI a4]) (ds:=[vI 0,vI 0,vI 0,vN,vN,vI 0]) (mk_Ti b0 H0 c0.1 I0 a4) (Ar (cs:=[vI 0,vI 0,vI 0,vN,vN,vI 0]) (ds:=[]) (mk_Ti (⟨(0:Int),(0:Int),(0:Int),([]:List Tb)⟩:Td) (Rep.nilAt (α:=Tb) u0 L) ([]:List Int) (Rep.nilAt (α:=Int) u0 L) (0:Int)) (AJ _ _))))))) hL)
 refine AW hb0 Tryz.func6 rfl rfl ?_
 cases h
 exact ⟨D0.ag,fun w9 hw9=>⟨(vS Q0 5),rfl,D0.kd v1 hw9⟩⟩
def av_l1 (_n:Nat) (a0:List Int) (c0:Int -> Option Int):Int -> Option Int
  | b0=>(if 0 < b0 then (chk (b0 - 1)).bind fun d0=>(idx a0 d0).bind fun j0=>(if j0 = 0 then (chk (b0 - 1)).bind fun g0=>c0 g0 else some b0) else some b0)
def av_p (n:Nat) (a0:List Int):Option (List Int):=
  jn (fun d0=>(cut a0 0 d0).bind fun c0=>some c0) (fun b0=>Option.bind (loopF (av_l1 n a0) n ((a0.length:Nat):Int)) (b0))
theorem av_c (n:Nat) {L w} (_hL:hl L w) {a0:List Int} {v0_0:Value} (h0_0:Rep.R w L [v0_0] a0)  {r:List Int} (h:av_p n a0 = some r) :
 Cl 163 #[v0_0] w (Gives w fun w' u=>∃ v0_0:Value,u = v0_0/\Rep.R w' L [v0_0] r):=by
 unfold av_p at h
 have hS0:=Az w
 refine AD Tryz.func163 rfl rfl rfl fun _ cs0 hb0=>Ac<|Af rfl<|Aa<|Ac<|Ae rfl ?_
 have hl1:a0.length <= 281474976710656:=AY h0_0
 refine Ab (Be (xs:=a0) Tryz.underlying45 rfl h0_0)<|Af rfl<|Aa<|Aj<|AA<|MX.xo (α:=Int) 0 (fun c0=>[(0,v0_0),(3,vI c0)]) (fun c0=>[]) (fun c0=>c0) hS0 rfl h ?_ ?_
 rintro c0 Y0 g0 W0 h
 try dsimp only at h
 refine Ac<|Ae rfl<|Ae rfl<|bk h fun b1 J0 h=>RG.valE .plain rfl (FV.cutL (α:=Int) J0 (by kernel_rfl) rfl (AS h0_0 g0) rfl ⟨_,rfl⟩) fun P0 D0=>Af rfl<|Aa<|Al rfl<|AW hb0 Tryz.func163 rfl rfl ?_
 cases h
 exact ⟨g0.ag,fun w9 hw9=>⟨P0,rfl,g0.kd D0 hw9⟩⟩
 intro R0 k0 h
 try dsimp only at h
 obtain ⟨X0,C0,p0⟩:=bind_in2 h
 refine MX.lo (α:=Int) (fun b0=>[(0,v0_0),(3,vI b0)]) (fun b0=>[]) (fun b0=>b0) ((a0.length:Nat):Int) C0 hS0 ?_
 rintro U0 b0 Z0 v0 d0 j0 h
 unfold av_l1 at h
 try dsimp only at h
 refine Aj<|Ac<|Ae rfl<|Ab (FV.gtr (i:=b0) (j:=0) rfl rfl)<|Ae rfl<|BD (s:=8) rfl h (fun s0 h=>?_) (fun s0 h=>?_)
 refine AE (Ai rfl)<|AE (Ai rfl)<|bk h fun K0 F0 h=>AE (FV.subc (i:=b0) (j:=1) rfl rfl F0)<|bk h fun q0 H0 h=>?_
 obtain ⟨z0,I0⟩:=idx_in H0
 obtain ⟨Q0,V0,x0,A0,u0,E0,B0⟩:=Br (AS h0_0 d0) I0
 have y0:u0 = [vI q0]:=E0; subst y0
 refine AE (Bq 1 (K0.toNat) rfl x0 rfl z0 A0)<|AE (AL rfl (B0 0 _ rfl))<|AE (FV.eql (i:=q0) (j:=0) rfl rfl)<|Bh rfl rfl<|Aa<|AT rfl h (fun t0 h=>?_) (fun t0 h=>?_)
 refine Au<|AA<|Av<|Ae rfl<|bk h fun M0 G0 h=>Ab (FV.subc (i:=b0) (j:=1) rfl rfl G0)<|Af rfl<|Aa<|AC<|v0 M0 d0 j0 h
 refine Bd rfl ?_
 have h:=p0 _ h
 try dsimp only at h
 exact k0 b0 d0 j0 h
 refine Ap<|Ap<|Ap<|Ap<|Ap<|Ap<|Bv rfl rfl<|Aa<|BF rfl<|Bd rfl ?_
 have h:=p0 _ h
 try dsimp only at h
 exact k0 b0 d0 j0 h
def am_l1 (_n:Nat) (a0:List Int) (a1:List Int) (p0:Nat × Nat × (List Int) -> Option (List Int)):Nat × Nat × (List Int) -> Option (List Int)
  | (q0,b0,k0)=>(if b0 < a0.length then (a0[b0]?).bind fun v0=>(chk (v0 - ((q0:Nat):Int))).bind fun j0=>jn (fun c0=>jn (fun (s0,z0)=>(app k0 ([z0]:List Int)).bind fun y0=>p0 (s0,b0 + 1,y0)) (fun g0=>(if c0 < 0 then (chk (c0 + 4294967296)).bind fun t0=>g0 (1,t0) else g0 (0,c0)))) (fun d0=>(if b0 < a1.length then (a1[b0]?).bind fun x0=>(chk (j0 - x0)).bind fun u0=>d0 u0 else d0 j0)) else some k0)
def am_p (n:Nat) (a0:List Int) (a1:List Int):Option (List Int):=
  Option.bind (loopF (am_l1 n a0 a1) n (0,0,([]:List Int))) (fun b0=>(av_p n b0).bind fun c0=>some c0)
theorem am_c (n:Nat) {L w} (hL:hl L w) {a0:List Int} {v0_0:Value} (h0_0:Rep.R w L [v0_0] a0) {a1:List Int} {v1_0:Value} (h1_0:Rep.R w L [v1_0] a1)  {r:List Int} (h:am_p n a0 a1 = some r) :
 Cl 162 #[v0_0,v1_0] w (Gives w fun w' u=>∃ v0_0:Value,u = v0_0/\Rep.R w' L [v0_0] r):=by
 unfold am_p at h
 have hS0:=Az w
 refine AD Tryz.func162 rfl rfl rfl fun _ cs0 hb0=>Ac<|Af rfl<|Aa<|Ac<|Af rfl<|Aa<|Ac<|Af rfl<|Aa<|Aj<|Ac<|Af rfl<|Aa<|AA ?_
 have B0:=hS0.nilRow 3 (Rep.size Int)
 have k2:=St.nilRowT hS0 3 (Rep.size Int)
 obtain ⟨u2,C1,x1⟩:=bind_in2 h
 refine MX.lf (α:=Nat × Nat × (List Int) × Value × (List Value)) (fun ⟨p0,b0,g0,c0,j0⟩=>[(0,v0_0),(1,v1_0),(5,c0),(6,vI ((p0:Nat):Int)),(7,vI ((b0:Nat):Int))]) (fun ⟨p0,b0,g0,c0,j0⟩=>[rr w 3 Int c0 g0.length j0]) (fun ⟨p0,b0,g0,c0,j0⟩ H0=>Cells H0 (bl [rr w 3 Int c0 g0.length j0] ++ L) j0 g0) (fun ⟨p0,b0,g0,c0,j0⟩=>(p0,b0,g0)) (0,0,([]:List Int),vN,[]) C1 B0 (AB (cs:=[]) (xs:=([]:List Int)) B0 L (AJ _ _)) ?_
 rintro Z1 ⟨p0,b0,g0,c0,j0⟩ H0 V0 k0 Z0 E0 h
 unfold am_l1 at h
 try dsimp only at h
 refine Aj<|Ac<|Ae rfl<|Ae rfl ?_
 have x0:=AS h0_0 k0
 have s2:a0.length <= 281474976710656:=AY x0
 refine Ab (Be (xs:=a0) Tryz.underlying45 rfl x0)<|Ab (Bu (i:=b0) (j:=a0.length) rfl rfl)<|Aa<|AT rfl h (fun K0 h=>?_) (fun K0 h=>?_)
 refine Au<|Aj<|AA<|Ac<|Ae rfl<|Ae rfl<|bk h fun I0 J1 h=>?_
 obtain ⟨X1,g2,q1,y1,Q0,D1,A1⟩:=Br x0 J1
 have s1:Q0 = [vI I0]:=D1; subst s1
 refine Ab (Bq 1 b0 rfl q1 rfl rfl y1)<|AP rfl (A1 0 _ rfl)<|Ae rfl<|bk h fun G0 G1 h=>Ab (FV.subc (i:=I0) (j:=((p0:Nat):Int)) rfl rfl G1)<|Af rfl<|Aa<|Aj<|Ac<|Ae rfl<|Ae rfl ?_
 have y0:=AS h1_0 k0
 have t2:a1.length <= 281474976710656:=AY y0
 refine Ab (Be (xs:=a1) Tryz.underlying45 rfl y0)<|Ab (Bu (i:=b0) (j:=a1.length) rfl rfl)<|Aa<|MX.jo (α:=Int) (fun q0=>[(0,v0_0),(1,v1_0),(5,c0),(6,vI ((p0:Nat):Int)),(7,vI ((b0:Nat):Int)),(8,vI q0)]) (fun q0=>[rr w 3 Int c0 g0.length j0]) (fun q0=>q0) k0 h ?_ ?_
 rintro q0 A2 t0 b1 h
 try dsimp only at h
 refine Ac<|Af rfl<|Aa<|Aj<|Ac<|Ae rfl<|Ab (BS (i:=q0) (j:=0) rfl rfl)<|Aa<|MX.jo (α:=Nat × Int) (fun ⟨s0,d0⟩=>[(0,v0_0),(1,v1_0),(5,c0),(6,vI ((s0:Nat):Int)),(7,vI ((b0:Nat):Int)),(8,vI d0)]) (fun ⟨s0,d0⟩=>[rr w 3 Int c0 g0.length j0]) (fun ⟨s0,d0⟩=>(s0,d0)) t0 h ?_ ?_
 rintro ⟨s0,d0⟩ B2 W0 c1 h
 try dsimp only at h
 refine Av<|Ae rfl<|Ae rfl<|Ak .plain rfl (AK (α:=Int) (xs:=([d0]:List Int)) (vs:=[vI d0]) (ds' :=[vI d0]) rfl W0 el45 rfl (e1 rfl) (by kernel_rfl) rfl) fun x2 d2 u0 g1=>bk h fun W1 M1 h=>?_
 have F0:=Tt b1 (Tt c1 g1)
 refine RG.doesL .plain rfl (AZ (α:=Int) (ys:=([d0]:List Int)) M1 u0 (fun _ _=>.t1) el45 rfl rfl (Aw E0 F0) (Src.row (α:=Int) u0 .hd (AB (cs:=[vI d0]) (xs:=(([d0]:List Int):List Int)) u0 L (Ar (cs:=[vI d0]) (ds:=[]) rfl (AJ _ _))))) fun U1 y2 ⟨R0,X0,j1,p1⟩=>Af rfl<|Aa<|AC<|Av<|Ae rfl<|Ab (Bw (i:=b0) (j:=1) rfl rfl (by omega))<|Af rfl<|Aa ?_
 obtain ⟨Y0,D0⟩:=AG X0 .d1
 exact V0 (s0,b0 + 1,W1,U1,R0) Y0 (Tt Z0 (Tt F0 (Tt j1 D0))) (Aw p1 D0) h
 intro c2 A0 h
 try dsimp only at h
 refine AT rfl h (fun M0 h=>?_) (fun M0 h=>?_)
 refine Ac<|Ae rfl<|bk h fun Q1 H1 h=>Ab (BJ (i:=q0) (j:=4294967296) rfl rfl H1)<|Af rfl<|Aa<|Av<|Af rfl<|Aa<|A0 (1,Q1) t0 (By _ _) h
 refine Au<|A0 (0,q0) t0 (By _ _) h
 intro b2 z0 h
 try dsimp only at h
 refine AT rfl h (fun P0 h=>?_) (fun P0 h=>?_)
 refine Av<|Ae rfl<|Ae rfl<|Ae rfl<|bk h fun J0 K1 h=>?_
 obtain ⟨Y1,j2,u1,z1,U0,E1,B1⟩:=Br y0 K1
 have v1:U0 = [vI J0]:=E1; subst v1
 refine Ab (Bq 1 b0 rfl u1 rfl rfl z1)<|AP rfl (B1 0 _ rfl)<|bk h fun R1 I1 h=>Ab (FV.subc (i:=G0) (j:=J0) rfl rfl I1)<|Af rfl<|Aa<|z0 R1 k0 (By _ _) h
 refine Au<|z0 G0 k0 (By _ _) h
 refine Bd rfl ?_
 have h:=x1 _ h
 try dsimp only at h
 refine Ac<|Ae rfl ?_
 have v0:=Bz k0 .hd
 have p2:=BA k0 .hd
 refine bk h fun C2 P1 h=>AX (fst:=[]) (cap:=[]) .plain (bd 163) rfl (e1 rfl) (fun w9 hw9=>av_c n (v0.hL hL hw9) (Aq (BB (α:=Int) (v:=c0) (xs:=g0) v0 L (Bj (α:=Int) k0 .hd E0 hL)) hw9) P1) rfl fun z2 V1 k1 ⟨v2,hu_,F1⟩=>?_
 subst hu_
 obtain ⟨C0,q2⟩:=v0.agr k1
 refine Af rfl<|Aa<|Al rfl<|AW hb0 Tryz.func162 rfl rfl ?_
 cases h
 exact ⟨C0.ag,fun w9 hw9=>⟨V1,rfl,C0.kd F1 hw9⟩⟩
def aI_l1 (_n:Nat) (a0:List Int) (a1:List Int) (g0:Int -> Option (Int ⊕ Unit)):Int -> Option (Int ⊕ Unit)
  | b0=>(if 0 <= b0 then (idx a0 b0).bind fun c0=>(idx a1 b0).bind fun d0=>(if c0 = d0 then (chk (b0 - 1)).bind fun j0=>g0 j0 else (chk (c0 - d0)).bind fun k0=>some (.inl k0)) else some (.inr ()))
def aI_p (n:Nat) (a0:List Int) (a1:List Int):Option Int:=
  (if a0.length = a1.length then thn (loopF (aI_l1 n a0 a1) n (((a0.length:Nat):Int) - 1)) (fun _=>some (0:Int)) else some (((a0.length:Nat):Int) - ((a1.length:Nat):Int)))
theorem aI_c (n:Nat) {L w} (_hL:hl L w) {a0:List Int} {v0_0:Value} (h0_0:Rep.R w L [v0_0] a0) {a1:List Int} {v1_0:Value} (h1_0:Rep.R w L [v1_0] a1)  {r:Int} (h:aI_p n a0 a1 = some r) :
 Cl 166 #[v0_0,v1_0] w (Gives w fun _ u=>u = vI r):=by
 unfold aI_p at h
 have hS0:=Az w
 refine AD Tryz.func166 rfl rfl rfl fun _ cs0 hb0=>Ac<|Af rfl<|Aa<|Aj<|Ac<|Ae rfl ?_
 have hl1:a0.length <= 281474976710656:=AY h0_0
 refine Ab (Be (xs:=a0) Tryz.underlying45 rfl h0_0)<|Ae rfl ?_
 have hl2:a1.length <= 281474976710656:=AY h1_0
 refine Ab (Be (xs:=a1) Tryz.underlying45 rfl h1_0)<|Ab (FV.neqN (i:=a0.length) (j:=a1.length) rfl rfl)<|Aa<|MX.ifn rfl h (fun c3 h=>?_) (fun c3 h=>?_)
 refine Au<|Aj<|Ac<|Ae rfl<|Ab (Be (xs:=a0) Tryz.underlying45 rfl h0_0)<|Ab (FV.subI (i:=((a0.length:Nat):Int)) (j:=1) rfl rfl (by omega))<|Af rfl<|Aa<|AA<|tn h fun j1 K0 u0=>MX.lo (α:=Int) (fun c0=>[(0,v0_0),(1,v1_0),(5,vI c0)]) (fun c0=>[]) (fun c0=>c0) (((a0.length:Nat):Int) - 1) K0 hS0 ?_
 rintro c1 c0 p1 G0 k0 H0 h
 unfold aI_l1 at h
 try dsimp only at h
 refine Aj<|Ac<|Ae rfl<|Ab (FV.geq (i:=c0) (j:=0) rfl rfl)<|Aa<|AT rfl h (fun C0 h=>?_) (fun C0 h=>?_)
 refine Au<|Aj<|AA<|Aj<|du 9 fun g0 j0=>Rv 0 g0 rfl j0 (fun _=>Ai rfl)<|Rv 1 g0 rfl j0 (fun _=>Ai rfl)<|bk h fun p0 U0 h=>?_
 obtain ⟨v0,V0⟩:=idx_in U0
 obtain ⟨Z0,d1,s0,y0,E0,M0,A0⟩:=Br (AS h0_0 k0) V0
 have I0:E0 = [vI p0]:=M0; subst I0
 refine Rv 2 g0 rfl j0 (fun _=>Bq 1 (c0.toNat) rfl s0 rfl v0 y0)<|Rx 3 256 g0 rfl j0 (AL rfl (A0 0 _ rfl))<|Rv 4 g0 rfl j0 (fun _=>Ai rfl)<|Rv 5 g0 rfl j0 (fun _=>Ai rfl)<|bk h fun q0 W0 h=>?_
 obtain ⟨x0,X0⟩:=idx_in W0
 obtain ⟨b1,g1,t0,z0,F0,P0,B0⟩:=Br (AS h1_0 k0) X0
 have J0:F0 = [vI q0]:=P0; subst J0
 refine Rv 6 g0 rfl j0 (fun _=>Bq 1 (c0.toNat) rfl t0 rfl x0 z0)<|Rx 7 256 g0 rfl j0 (AL rfl (B0 0 _ rfl))<|Rv 8 g0 rfl j0 (fun _=>BP (i:=p0) (j:=q0) rfl rfl)<|AN (dk g0)<|MX.ifn rfl h (fun D0 h=>?_) (fun D0 h=>?_)
 refine Au<|AC<|Av<|Ae rfl<|bk h fun Y0 Q0 h=>Ab (FV.subc (i:=c0) (j:=1) rfl rfl Q0)<|Af rfl<|Aa<|G0 Y0 k0 H0 h
 refine Aj<|du 10 fun b0 d0=>Rv 0 b0 rfl d0 (fun _=>Ai rfl)<|Rv 1 b0 rfl d0 (fun _=>Ai rfl)<|Rv 2 b0 rfl d0 (fun _=>Bq 1 (c0.toNat) rfl s0 rfl v0 y0)<|Rx 3 768 b0 rfl d0 (AL rfl (A0 0 _ rfl))<|Rv 4 b0 rfl d0 (fun _=>Ai rfl)<|Rv 5 b0 rfl d0 (fun _=>Ai rfl)<|Rv 6 b0 rfl d0 (fun _=>Bq 1 (c0.toNat) rfl t0 rfl x0 z0)<|Rx 7 768 b0 rfl d0 (AL rfl (B0 0 _ rfl))<|bk h fun k1 R0 h=>Rv 8 b0 rfl d0 (fun _=>FV.subc (i:=p0) (j:=q0) rfl rfl R0)<|Rv 9 b0 rfl d0 (fun _=>AV rfl)<|AN (dk b0) ?_
 have h:=thn_inl h u0
 refine Al rfl<|AW hb0 Tryz.func166 rfl rfl ?_
 cases h
 exact k0.gv
 refine Bd rfl ?_
 have h:=thn_inr h u0
 try dsimp only at h
 refine Ac<|Af rfl<|Aa<|Al rfl<|AW hb0 Tryz.func166 rfl rfl ?_
 cases h
 exact k0.gv
 refine Ac<|Ae rfl<|Ab (Be (xs:=a0) Tryz.underlying45 rfl h0_0)<|Ae rfl<|Ab (Be (xs:=a1) Tryz.underlying45 rfl h1_0)<|Ab (FV.subI (i:=((a0.length:Nat):Int)) (j:=((a1.length:Nat):Int)) rfl rfl (by omega))<|Af rfl<|Aa<|Al rfl<|AW hb0 Tryz.func166 rfl rfl ?_
 cases h
 exact hS0.gv
structure Tc where
  fc:Bool
  fD:List Int
  deriving DecidableEq
instance:Rep Tc:=Rep.via (β:=Bool × (List Int)) fun x=>(x.fc,x.fD)
def ap_l1 (_n:Nat) (x0:List Int) (y0:Nat × UInt64 × UInt64 × UInt64 × UInt64 × UInt64 × UInt64 × UInt64 × UInt64 -> Option (UInt64 × UInt64 × UInt64 × UInt64 × UInt64 × UInt64 × UInt64 × UInt64)):Nat × UInt64 × UInt64 × UInt64 × UInt64 × UInt64 × UInt64 × UInt64 × UInt64 -> Option (UInt64 × UInt64 × UInt64 × UInt64 × UInt64 × UInt64 × UInt64 × UInt64)
  | (b0,j0,k0,p0,q0,s0,t0,u0,v0)=>(if b0 < x0.length then (([j0,k0,p0,q0,s0,t0,u0,v0]:List UInt64)[b0 / 2]?).bind fun g0=>(x0[b0]?).bind fun d0=>(chk (32 * ((b0 % 2:Nat):Int))).bind fun z0=>(natOf z0).bind fun c0=>y0 (b0 + 1,setA (b0 / 2) 0 (g0 + (shlU (u64of d0) c0)) j0,setA (b0 / 2) 1 (g0 + (shlU (u64of d0) c0)) k0,setA (b0 / 2) 2 (g0 + (shlU (u64of d0) c0)) p0,setA (b0 / 2) 3 (g0 + (shlU (u64of d0) c0)) q0,setA (b0 / 2) 4 (g0 + (shlU (u64of d0) c0)) s0,setA (b0 / 2) 5 (g0 + (shlU (u64of d0) c0)) t0,setA (b0 / 2) 6 (g0 + (shlU (u64of d0) c0)) u0,setA (b0 / 2) 7 (g0 + (shlU (u64of d0) c0)) v0) else some (j0,k0,p0,q0,s0,t0,u0,v0))
def ap_l2 (_n:Nat) (x0:List Int) (y0:Nat × UInt64 × UInt64 × UInt64 × UInt64 × UInt64 × UInt64 × UInt64 × UInt64 -> Option (UInt64 × UInt64 × UInt64 × UInt64 × UInt64 × UInt64 × UInt64 × UInt64)):Nat × UInt64 × UInt64 × UInt64 × UInt64 × UInt64 × UInt64 × UInt64 × UInt64 -> Option (UInt64 × UInt64 × UInt64 × UInt64 × UInt64 × UInt64 × UInt64 × UInt64)
  | (b0,j0,k0,p0,q0,s0,t0,u0,v0)=>(if b0 < x0.length then (([j0,k0,p0,q0,s0,t0,u0,v0]:List UInt64)[b0 / 2]?).bind fun g0=>(x0[b0]?).bind fun d0=>(chk (32 * ((b0 % 2:Nat):Int))).bind fun z0=>(natOf z0).bind fun c0=>y0 (b0 + 1,setA (b0 / 2) 0 (g0 + (shlU (u64of d0) c0)) j0,setA (b0 / 2) 1 (g0 + (shlU (u64of d0) c0)) k0,setA (b0 / 2) 2 (g0 + (shlU (u64of d0) c0)) p0,setA (b0 / 2) 3 (g0 + (shlU (u64of d0) c0)) q0,setA (b0 / 2) 4 (g0 + (shlU (u64of d0) c0)) s0,setA (b0 / 2) 5 (g0 + (shlU (u64of d0) c0)) t0,setA (b0 / 2) 6 (g0 + (shlU (u64of d0) c0)) u0,setA (b0 / 2) 7 (g0 + (shlU (u64of d0) c0)) v0) else some (j0,k0,p0,q0,s0,t0,u0,v0))
def ap_p (n:Nat) (a0:Tc):Option ((UInt64 × UInt64 × UInt64 × UInt64 × UInt64 × UInt64 × UInt64 × UInt64) × Int):=
  (mk 16 (0:Int)).bind fun c0=>(c0[15]?).bind fun _x28=>(put c0 ((15:Nat):Int) (2147483648:Int)).bind fun I0=>(aI_p n a0.fD I0).bind fun j0=>(if 0 < j0 then some (((0:UInt64),(0:UInt64),(0:UInt64),(0:UInt64),(0:UInt64),(0:UInt64),(0:UInt64),(0:UInt64)),(6:Int)) else (if j0 = 0 then (if a0.fc = true then (mk 17 (0:Int)).bind fun g0=>(g0[16]?).bind fun _x61=>(put g0 ((16:Nat):Int) (1:Int)).bind fun J0=>(am_p n J0 a0.fD).bind fun M0=>Option.bind (loopF (ap_l1 n M0) n (0,(0:UInt64),(0:UInt64),(0:UInt64),(0:UInt64),(0:UInt64),(0:UInt64),(0:UInt64),(0:UInt64))) (fun (k0,p0,q0,s0,t0,u0,v0,x0)=>some ((k0,p0,q0,s0,t0,u0,v0,x0),(0:Int))) else some (((0:UInt64),(0:UInt64),(0:UInt64),(0:UInt64),(0:UInt64),(0:UInt64),(0:UInt64),(0:UInt64)),(6:Int))) else jn (fun G0=>Option.bind (loopF (ap_l2 n G0) n (0,(0:UInt64),(0:UInt64),(0:UInt64),(0:UInt64),(0:UInt64),(0:UInt64),(0:UInt64),(0:UInt64))) (fun (y0,z0,A0,B0,C0,D0,E0,F0)=>some ((y0,z0,A0,B0,C0,D0,E0,F0),(0:Int)))) (fun b0=>(if a0.fc = true then (mk 17 (0:Int)).bind fun d0=>(d0[16]?).bind fun _x369=>(put d0 ((16:Nat):Int) (1:Int)).bind fun H0=>(am_p n H0 a0.fD).bind fun K0=>b0 K0 else b0 a0.fD))))
theorem ap_c (n:Nat) {L w} (hL:hl L w) (a0:Tc) {v0_1:Value} (h0_1:Rep.R w L [v0_1] a0.fD)  {r:(UInt64 × UInt64 × UInt64 × UInt64 × UInt64 × UInt64 × UInt64 × UInt64) × Int} (h:ap_p n a0 = some r) :
 Cl 132 #[.agg #[.bool a0.fc,v0_1]] w (Gives w fun _ u=>u = .tuple #[.agg ((cs_A34 r.1)).toArray,vI r.2]):=by
 unfold ap_p at h
 refine AD Tryz.func132 rfl rfl rfl fun _ cs0 hb0=>Ac<|RG.bx (Az w) rfl rfl fun c6 X4 G2 x5=>RG.nl zP G2 fun d6 V0 I2 y5=>Af rfl<|Aa<|Ac<|bk h fun G6 q4 h=>RG.doesH .plain rfl (Does.mkH (α:=Int) (L:=L) q4 I2 el45 rfl (fun _ _=>rfl)) fun Y5 p6 ⟨p5,k1,B5,Q1⟩=>Af rfl<|Aa<|Ac<|Ae rfl<|bk h fun H4 g4 h=>?_
 obtain ⟨d2,Z4,v1,Y1,A2,U3,Q5⟩:=St.nth (α:=Int) k1 .hd Q1 g4
 obtain ⟨k2,c5,W1⟩:=BR (α:=Int) k1 .hd Y1
 obtain rfl:d2 = ⟨k2,0,none⟩:=by rw [W1] at v1; cases v1; rfl
 have B3:A2 = [vI H4]:=U3; subst B3
 refine Ab (Bq 1 15 rfl v1 rfl rfl Y1)<|bk h fun I6 u4 h=>RG.acts' .plain (Acts.set (α:=Int) (i:=15) u4 k1 W1 (fun _=>.hd) Q1 rfl rfl rfl rfl rfl (by kernel_rfl)) fun y6 ⟨t5,y0,E5,t3⟩=>Aa<|Ac<|AR 1 rfl<|AP rfl ((y0.memA .t2) 1 _ rfl)<|Ae rfl<|bk h fun B1 z4 h=>Ba (vI B1) (bd 166) rfl (e2 rfl rfl) (fun w9 hw9=>aI_c n (y0.hL0 hL hw9) (y0.k0 h0_1 hw9) (Aq (St.lend (α:=Int) (L:=L) y0 .hd t3 hL) hw9) z4) rfl<|Af rfl<|Aa<|Aj<|Ac<|Ae rfl<|Ab (FV.gtr (i:=B1) (j:=0) rfl rfl)<|Ae rfl<|BD (s:=19) rfl h (fun x2 h=>?_) (fun x2 h=>?_)
 refine Ap<|Ap<|Ap<|RG.un<|RG.un<|RG.un<|Ap<|Bh rfl rfl<|Aa<|Bk rfl<|Ac<|Ab (AU (vs:=[]) (u:=.agg zQ) evs_nil (fun w9=>by kernel_rfl))<|AQ zP y0 .t1 (onesB rfl) fun z6 J1 F5=>Af rfl<|Aa<|Al rfl<|Am hb0 Tryz.func132 rfl (.cons (.many (cs:=zP) (by kernel_rfl) rfl (J1.memA .t1)) (.cons (.tmp rfl) .nil)) rfl ?_
 cases h
 exact J1.gv
 refine AE (Ai rfl)<|AE (FV.eql (i:=B1) (j:=0) rfl rfl)<|AE (Ai rfl)<|BD (s:=22) rfl h (fun y2 h=>?_) (fun y2 h=>?_)
 refine RG.fg 0 rfl<|AE (AL rfl ((y0.memA .t2) 0 _ rfl))<|AE (Bp rfl)<|AE (BM rfl rfl)<|Bv rfl rfl<|Aa<|BU rfl h (fun D1 h=>?_) (fun D1 h=>?_)
 refine Au<|Ac<|AR 1 rfl<|AP rfl ((y0.memA .t2) 1 _ rfl)<|Af rfl<|Aa<|Aj<|Ac<|AR 0 rfl<|AP rfl ((y0.memA .t2) 0 _ rfl)<|Aa<|MX.cond_kt rfl D1<|Ac<|bk h fun J6 v4 h=>RG.doesH .plain rfl (Does.mkH (α:=Int) (L:=L) v4 y0 el45 rfl (fun _ _=>rfl)) fun E4 A6 ⟨u5,s1,G5,U1⟩=>Af rfl<|Aa<|Ac<|Ae rfl<|bk h fun J4 p4 h=>?_
 obtain ⟨j2,j5,y1,b2,D2,Y3,V5⟩:=St.nth (α:=Int) s1 .hd U1 p4
 obtain ⟨q2,k5,X1⟩:=BR (α:=Int) s1 .hd b2
 obtain rfl:j2 = ⟨q2,0,none⟩:=by rw [X1] at y1; cases y1; rfl
 have C3:D2 = [vI J4]:=Y3; subst C3
 refine Ab (Bq 1 16 rfl y1 rfl rfl b2)<|bk h fun M4 x4 h=>RG.acts' .plain (Acts.set (α:=Int) (i:=16) x4 s1 X1 (fun _=>.hd) U1 rfl rfl rfl rfl rfl (by kernel_rfl)) fun B6 ⟨v5,u1,H5,u3⟩=>Aa<|Av<|Ae rfl<|Ae rfl ?_
 have j1:=Bz u1 .hd
 have I5:=BA u1 .hd
 refine bk h fun C1 A4 h=>AX (fst:=[]) (cap:=[]) .plain (bd 162) rfl (e2 rfl rfl) (fun w9 hw9=>am_c n (j1.hL hL hw9) (Aq (BB (α:=Int) (v:=E4) (xs:=M4) j1 L (Bj (α:=Int) u1 .hd u3 hL)) hw9) (j1.km h0_1 hw9) A4) rfl fun C6 G4 q3 ⟨b6,hu_,Z3⟩=>?_
 subst hu_
 obtain ⟨U2,J5⟩:=j1.agr q3
 refine Af rfl<|Aa<|Ac<|RG.nl zP U2 fun D6 d1 V2 k3=>Aa<|Aj<|Ac<|Af rfl<|Aa<|AA ?_
 obtain ⟨H2,W2⟩:=AG V2 (.a0 (.a1 .done))
 obtain ⟨W5,M3,D3⟩:=bind_in2 h
 refine MX.lo (α:=Nat × UInt64 × UInt64 × UInt64 × UInt64 × UInt64 × UInt64 × UInt64 × UInt64) (fun ⟨b0,z0,A0,B0,C0,D0,E0,F0,G0⟩=>[(2,vP V0),(6,G4),(8,vP d1),(9,vI ((b0:Nat):Int))]) (fun ⟨b0,z0,A0,B0,C0,D0,E0,F0,G0⟩=>[.cells d1 [vU z0,vU A0,vU B0,vU C0,vU D0,vU E0,vU F0,vU G0] 35,.cells V0 zP 35]) (fun ⟨b0,z0,A0,B0,C0,D0,E0,F0,G0⟩=>(b0,z0,A0,B0,C0,D0,E0,F0,G0)) (0,(0:UInt64),(0:UInt64),(0:UInt64),(0:UInt64),(0:UInt64),(0:UInt64),(0:UInt64),(0:UInt64)) M3 H2 ?_
 rintro U4 ⟨b0,z0,A0,B0,C0,D0,E0,F0,G0⟩ E6 E2 X0 K1 h
 unfold ap_l1 at h
 try dsimp only at h
 refine Aj<|Ac<|Ae rfl<|Ae rfl ?_
 have z1:=Ao Z3 (Tt k3 (Tt W2 K1))
 have K5:C1.length <= 281474976710656:=AY z1
 refine Ab (Be (xs:=C1) Tryz.underlying45 rfl z1)<|Ab (Bu (i:=b0) (j:=C1.length) rfl rfl)<|Aa<|AT rfl h (fun s2 h=>?_) (fun s2 h=>?_)
 refine Au<|Aj<|AA<|du 17 fun j0 v0=>Rv 0 j0 rfl v0 (fun _=>Ai rfl)<|Rv 1 j0 rfl v0 (fun _=>FV.quoN (i:=b0) (j:=2) rfl rfl rfl (by omega))<|Rv 2 j0 rfl v0 (fun _=>Ai rfl)<|Rv 3 j0 rfl v0 (fun _=>FV.quoN (i:=b0) (j:=2) rfl rfl rfl (by omega))<|bk h fun t0 Z0 h=>Rv 4 j0 rfl v0 (fun _=>Bg (m:=1) (k:=b0 / 2) (len:=8) (by kernel_rfl) rfl rfl rfl (arr_lt Z0 rfl))<|Rx 5 229376 j0 rfl v0 (AL rfl ((mem_elem1 (p:=⟨d1,0,none⟩) (cs:=([z0,A0,B0,C0,D0,E0,F0,G0]:List UInt64).map (fun z9:UInt64=>(vU z9:Value)) ++ []) (i:=b0 / 2) (X0.memA .hd) (arr_get (fun z9:UInt64=>(vU z9:Value)) Z0)) 0 _ rfl))<|Rv 6 j0 rfl v0 (fun _=>Ai rfl)<|Rv 7 j0 rfl v0 (fun _=>Ai rfl)<|bk h fun d0 d4 h=>?_
 obtain ⟨Q4,Y4,v3,F3,z2,Q3,J3⟩:=Br z1 d4
 have x3:z2 = [vI d0]:=Q3; subst x3
 refine Rv 8 j0 rfl v0 (fun _=>Bq 1 b0 rfl v3 rfl rfl F3)<|Rx 9 246784 j0 rfl v0 (AL rfl (J3 0 _ rfl))<|Rv 10 j0 rfl v0 (fun _=>FV.convU (i:=d0) Tryz.underlying3 Tryz.underlying33 rfl)<|Rv 11 j0 rfl v0 (fun _=>Ai rfl)<|Rv 12 j0 rfl v0 (fun _=>FV.remN (i:=b0) (j:=2) rfl rfl rfl)<|bk h fun B4 b4 h=>Rv 13 j0 rfl v0 (fun _=>FV.mulc (i:=32) (j:=((b0 % 2:Nat):Int)) rfl rfl b4)<|bk h fun q0 G3 h=>Rv 14 j0 rfl v0 (fun _=>FV.shlI (a:=u64of d0) (i:=B4) rfl rfl G3)<|Rv 15 j0 rfl v0 (fun _=>FV.addU (a:=t0) (b:=shlU (u64of d0) q0) rfl rfl) ?_
 have P5:=mem_elem1 (p:=⟨d1,0,none⟩) (cs:=([z0,A0,B0,C0,D0,E0,F0,G0]:List UInt64).map (fun z9:UInt64=>(vU z9:Value)) ++ []) (i:=b0 / 2) (X0.memA .hd) (arr_get (fun z9:UInt64=>(vU z9:Value)) Z0)
 refine Rv 16 j0 rfl v0 (fun _=>Bg (m:=1) (k:=b0 / 2) (len:=8) (by kernel_rfl) rfl rfl rfl (arr_lt Z0 rfl))<|BE 17 262143 j0 rfl rfl .plain (Acts.storeArr (fun z9:UInt64=>(vU z9:Value)) (xs:=([z0,A0,B0,C0,D0,E0,F0,G0]:List UInt64)) (pre:=[]) (post:=[]) (i:=b0 / 2) (m:=8) (x:=t0 + (shlU (u64of d0) q0)) (old:=[vU z0,vU A0,vU B0,vU C0,vU D0,vU E0,vU F0,vU G0]) (new' :=[vW ((setA (b0 / 2) 0 (t0 + (shlU (u64of d0) q0)) z0).toNat:Int),vW ((setA (b0 / 2) 1 (t0 + (shlU (u64of d0) q0)) A0).toNat:Int),vW ((setA (b0 / 2) 2 (t0 + (shlU (u64of d0) q0)) B0).toNat:Int),vW ((setA (b0 / 2) 3 (t0 + (shlU (u64of d0) q0)) C0).toNat:Int),vW ((setA (b0 / 2) 4 (t0 + (shlU (u64of d0) q0)) D0).toNat:Int),vW ((setA (b0 / 2) 5 (t0 + (shlU (u64of d0) q0)) E0).toNat:Int),vW ((setA (b0 / 2) 6 (t0 + (shlU (u64of d0) q0)) F0).toNat:Int),vW ((setA (b0 / 2) 7 (t0 + (shlU (u64of d0) q0)) G0).toNat:Int)]) rfl rfl (arr_lt Z0 rfl) X0 .hd rfl (addr_at _ _ _) rfl (by kernel_rfl) (fun _=>⟨rfl,rfl⟩) rfl rfl) fun g6 J2 X2=>AN (dk j0)<|AC<|Av<|Ae rfl<|Ab (Bw (i:=b0) (j:=1) rfl rfl (by omega))<|Af rfl<|Aa<|E2 (b0 + 1,setA (b0 / 2) 0 (t0 + (shlU (u64of d0) q0)) z0,setA (b0 / 2) 1 (t0 + (shlU (u64of d0) q0)) A0,setA (b0 / 2) 2 (t0 + (shlU (u64of d0) q0)) B0,setA (b0 / 2) 3 (t0 + (shlU (u64of d0) q0)) C0,setA (b0 / 2) 4 (t0 + (shlU (u64of d0) q0)) D0,setA (b0 / 2) 5 (t0 + (shlU (u64of d0) q0)) E0,setA (b0 / 2) 6 (t0 + (shlU (u64of d0) q0)) F0,setA (b0 / 2) 7 (t0 + (shlU (u64of d0) q0)) G0) J2 (Tt K1 X2) h
 refine Bd rfl ?_
 have h:=D3 _ h
 try dsimp only at h
 refine Ac<|Ab (AH rfl (X0.memA .hd))<|AQ [vU z0,vU A0,vU B0,vU C0,vU D0,vU E0,vU F0,vU G0] X0 .t1 (onesB rfl) fun j6 F1 z5=>Af rfl<|Aa<|Al rfl<|Am hb0 Tryz.func132 rfl (.cons (.many (cs:=[vU z0,vU A0,vU B0,vU C0,vU D0,vU E0,vU F0,vU G0]) (by kernel_rfl) rfl (F1.memA .t1)) (.cons (.tmp rfl) .nil)) rfl ?_
 cases h
 exact F1.gv
 refine Ac<|Ab (AU (vs:=[]) (u:=.agg zQ) evs_nil (fun w9=>by kernel_rfl))<|AQ zP y0 .t1 (onesB rfl) fun k6 G1 A5=>Af rfl<|Aa<|Al rfl<|Am hb0 Tryz.func132 rfl (.cons (.many (cs:=zP) (by kernel_rfl) rfl (G1.memA .t1)) (.cons (.tmp rfl) .nil)) rfl ?_
 cases h
 exact G1.gv
 refine Ap<|Ap<|Ap<|AE (Bo rfl rfl)<|Bv rfl rfl<|Aa<|BF rfl<|Au<|Ac<|AR 1 rfl<|AP rfl ((y0.memA .t2) 1 _ rfl)<|Af rfl<|Aa<|Aj<|Ac<|AR 0 rfl<|AP rfl ((y0.memA .t2) 0 _ rfl)<|Aa<|MX.jf (α:=(List Int) × Value) (fun ⟨U0,W0⟩=>[(2,vP V0),(6,W0)]) (fun ⟨U0,W0⟩=>[.cells V0 zP 35]) (fun ⟨U0,W0⟩ c2=>Rep.R c2 (bl [.cells V0 zP 35] ++ L) [W0] U0) (fun ⟨U0,W0⟩=>U0) y0 h ?_ ?_
 rintro ⟨U0,W0⟩ c2 K2 C5 R3 h
 try dsimp only at h
 refine Ac<|RG.nl zP K2 fun q6 c1 M2 Y2=>Aa<|Aj<|Ac<|Af rfl<|Aa<|AA ?_
 obtain ⟨X5,P3,E3⟩:=bind_in2 h
 refine MX.lo (α:=Nat × UInt64 × UInt64 × UInt64 × UInt64 × UInt64 × UInt64 × UInt64 × UInt64) (fun ⟨c0,H0,I0,J0,K0,M0,P0,Q0,R0⟩=>[(2,vP V0),(6,W0),(8,vP c1),(9,vI ((c0:Nat):Int))]) (fun ⟨c0,H0,I0,J0,K0,M0,P0,Q0,R0⟩=>[.cells c1 [vU H0,vU I0,vU J0,vU K0,vU M0,vU P0,vU Q0,vU R0] 35,.cells V0 zP 35]) (fun ⟨c0,H0,I0,J0,K0,M0,P0,Q0,R0⟩=>(c0,H0,I0,J0,K0,M0,P0,Q0,R0)) (0,(0:UInt64),(0:UInt64),(0:UInt64),(0:UInt64),(0:UInt64),(0:UInt64),(0:UInt64),(0:UInt64)) P3 M2 ?_
 rintro W4 ⟨c0,H0,I0,J0,K0,M0,P0,Q0,R0⟩ F6 F2 Y0 M1 h
 unfold ap_l2 at h
 try dsimp only at h
 refine Aj<|Ac<|Ae rfl<|Ae rfl ?_
 have A1:=Ao R3 (Tt Y2 M1)
 have M5:U0.length <= 281474976710656:=AY A1
 refine Ab (Be (xs:=U0) Tryz.underlying45 rfl A1)<|Ab (Bu (i:=c0) (j:=U0.length) rfl rfl)<|Aa<|AT rfl h (fun u2 h=>?_) (fun u2 h=>?_)
 refine Au<|Aj<|AA<|du 17 fun p0 x0=>Rv 0 p0 rfl x0 (fun _=>Ai rfl)<|Rv 1 p0 rfl x0 (fun _=>FV.quoN (i:=c0) (j:=2) rfl rfl rfl (by omega))<|Rv 2 p0 rfl x0 (fun _=>Ai rfl)<|Rv 3 p0 rfl x0 (fun _=>FV.quoN (i:=c0) (j:=2) rfl rfl rfl (by omega))<|bk h fun u0 b1 h=>Rv 4 p0 rfl x0 (fun _=>Bg (m:=1) (k:=c0 / 2) (len:=8) (by kernel_rfl) rfl rfl rfl (arr_lt b1 rfl))<|Rx 5 229376 p0 rfl x0 (AL rfl ((mem_elem1 (p:=⟨c1,0,none⟩) (cs:=([H0,I0,J0,K0,M0,P0,Q0,R0]:List UInt64).map (fun z9:UInt64=>(vU z9:Value)) ++ []) (i:=c0 / 2) (Y0.memA .hd) (arr_get (fun z9:UInt64=>(vU z9:Value)) b1)) 0 _ rfl))<|Rv 6 p0 rfl x0 (fun _=>Ai rfl)<|Rv 7 p0 rfl x0 (fun _=>Ai rfl)<|bk h fun g0 j4 h=>?_
 obtain ⟨R4,b5,y3,H3,B2,V3,K3⟩:=Br A1 j4
 have z3:B2 = [vI g0]:=V3; subst z3
 refine Rv 8 p0 rfl x0 (fun _=>Bq 1 c0 rfl y3 rfl rfl H3)<|Rx 9 246784 p0 rfl x0 (AL rfl (K3 0 _ rfl))<|Rv 10 p0 rfl x0 (fun _=>FV.convU (i:=g0) Tryz.underlying3 Tryz.underlying33 rfl)<|Rv 11 p0 rfl x0 (fun _=>Ai rfl)<|Rv 12 p0 rfl x0 (fun _=>FV.remN (i:=c0) (j:=2) rfl rfl rfl)<|bk h fun C4 c4 h=>Rv 13 p0 rfl x0 (fun _=>FV.mulc (i:=32) (j:=((c0 % 2:Nat):Int)) rfl rfl c4)<|bk h fun s0 I3 h=>Rv 14 p0 rfl x0 (fun _=>FV.shlI (a:=u64of g0) (i:=C4) rfl rfl I3)<|Rv 15 p0 rfl x0 (fun _=>FV.addU (a:=u0) (b:=shlU (u64of g0) s0) rfl rfl) ?_
 have R5:=mem_elem1 (p:=⟨c1,0,none⟩) (cs:=([H0,I0,J0,K0,M0,P0,Q0,R0]:List UInt64).map (fun z9:UInt64=>(vU z9:Value)) ++ []) (i:=c0 / 2) (Y0.memA .hd) (arr_get (fun z9:UInt64=>(vU z9:Value)) b1)
 refine Rv 16 p0 rfl x0 (fun _=>Bg (m:=1) (k:=c0 / 2) (len:=8) (by kernel_rfl) rfl rfl rfl (arr_lt b1 rfl))<|BE 17 262143 p0 rfl rfl .plain (Acts.storeArr (fun z9:UInt64=>(vU z9:Value)) (xs:=([H0,I0,J0,K0,M0,P0,Q0,R0]:List UInt64)) (pre:=[]) (post:=[]) (i:=c0 / 2) (m:=8) (x:=u0 + (shlU (u64of g0) s0)) (old:=[vU H0,vU I0,vU J0,vU K0,vU M0,vU P0,vU Q0,vU R0]) (new' :=[vW ((setA (c0 / 2) 0 (u0 + (shlU (u64of g0) s0)) H0).toNat:Int),vW ((setA (c0 / 2) 1 (u0 + (shlU (u64of g0) s0)) I0).toNat:Int),vW ((setA (c0 / 2) 2 (u0 + (shlU (u64of g0) s0)) J0).toNat:Int),vW ((setA (c0 / 2) 3 (u0 + (shlU (u64of g0) s0)) K0).toNat:Int),vW ((setA (c0 / 2) 4 (u0 + (shlU (u64of g0) s0)) M0).toNat:Int),vW ((setA (c0 / 2) 5 (u0 + (shlU (u64of g0) s0)) P0).toNat:Int),vW ((setA (c0 / 2) 6 (u0 + (shlU (u64of g0) s0)) Q0).toNat:Int),vW ((setA (c0 / 2) 7 (u0 + (shlU (u64of g0) s0)) R0).toNat:Int)]) rfl rfl (arr_lt b1 rfl) Y0 .hd rfl (addr_at _ _ _) rfl (by kernel_rfl) (fun _=>⟨rfl,rfl⟩) rfl rfl) fun s6 P2 Z2=>AN (dk p0)<|AC<|Av<|Ae rfl<|Ab (Bw (i:=c0) (j:=1) rfl rfl (by omega))<|Af rfl<|Aa<|F2 (c0 + 1,setA (c0 / 2) 0 (u0 + (shlU (u64of g0) s0)) H0,setA (c0 / 2) 1 (u0 + (shlU (u64of g0) s0)) I0,setA (c0 / 2) 2 (u0 + (shlU (u64of g0) s0)) J0,setA (c0 / 2) 3 (u0 + (shlU (u64of g0) s0)) K0,setA (c0 / 2) 4 (u0 + (shlU (u64of g0) s0)) M0,setA (c0 / 2) 5 (u0 + (shlU (u64of g0) s0)) P0,setA (c0 / 2) 6 (u0 + (shlU (u64of g0) s0)) Q0,setA (c0 / 2) 7 (u0 + (shlU (u64of g0) s0)) R0) P2 (Tt M1 Z2) h
 refine Bd rfl ?_
 have h:=E3 _ h
 try dsimp only at h
 refine Ac<|Ab (AH rfl (Y0.memA .hd))<|AQ [vU H0,vU I0,vU J0,vU K0,vU M0,vU P0,vU Q0,vU R0] Y0 .t1 (onesB rfl) fun t6 H1 D5=>Af rfl<|Aa<|Al rfl<|Am hb0 Tryz.func132 rfl (.cons (.many (cs:=[vU H0,vU I0,vU J0,vU K0,vU M0,vU P0,vU Q0,vU R0]) (by kernel_rfl) rfl (H1.memA .t1)) (.cons (.tmp rfl) .nil)) rfl ?_
 cases h
 exact H1.gv
 intro V4 E1 h
 try dsimp only at h
 refine MX.ifb rfl h (fun v2 h=>?_) (fun v2 h=>?_)
 refine Ac<|bk h fun H6 s4 h=>RG.doesH .plain rfl (Does.mkH (α:=Int) (L:=L) s4 y0 el45 rfl (fun _ _=>rfl)) fun D4 u6 ⟨q5,p1,b3,R1⟩=>Af rfl<|Aa<|Ac<|Ae rfl<|bk h fun I4 k4 h=>?_
 obtain ⟨g2,d5,x1,Z1,C2,W3,U5⟩:=St.nth (α:=Int) p1 .hd R1 k4
 obtain ⟨p2,g5,V1⟩:=BR (α:=Int) p1 .hd Z1
 obtain rfl:g2 = ⟨p2,0,none⟩:=by rw [V1] at x1; cases x1; rfl
 have A3:C2 = [vI I4]:=W3; subst A3
 refine Ab (Bq 1 16 rfl x1 rfl rfl Z1)<|bk h fun K4 t4 h=>RG.acts' .plain (Acts.set (α:=Int) (i:=16) t4 p1 V1 (fun _=>.hd) R1 rfl rfl rfl rfl rfl (by kernel_rfl)) fun v6 ⟨s5,q1,c3,s3⟩=>Aa<|Av<|Ae rfl<|Ae rfl ?_
 have g1:=Bz q1 .hd
 have d3:=BA q1 .hd
 refine bk h fun P4 y4 h=>AX (fst:=[]) (cap:=[]) .plain (bd 162) rfl (e2 rfl rfl) (fun w9 hw9=>am_c n (g1.hL hL hw9) (Aq (BB (α:=Int) (v:=D4) (xs:=K4) g1 L (Bj (α:=Int) q1 .hd s3 hL)) hw9) (g1.km h0_1 hw9) y4) rfl fun x6 F4 p3 ⟨Z5,hu_,X3⟩=>?_
 subst hu_
 obtain ⟨Q2,g3⟩:=g1.agr p3
 refine Af rfl<|Aa ?_
 obtain ⟨R2,P1⟩:=AG Q2 (.a1 .done)
 exact E1 (P4,F4) R2 (Tt b3 (Tt c3 (Tt d3 (Tt g3 P1)))) (Ao X3 P1) h
 refine Au ?_
 obtain ⟨I1,j3⟩:=AG y0 (.a1 .done)
 exact E1 (a0.fD,v0_1) I1 j3 (AS h0_1 I1) h
structure Tf where
  fN:Tc
  fD:Tc
  deriving DecidableEq
instance:Rep Tf:=Rep.via (β:=Tc × Tc) fun x=>(x.fN,x.fD)
def bA_p (n:Nat) (a0:Tf):Option (Ta × Int):=
  (ap_p n a0.fN).bind fun b0=>(ap_p n a0.fD).bind fun c0=>(if b0.2 = 0 then (if c0.2 = 0 then some ((⟨b0.1,c0.1⟩:Ta),(0:Int)) else some ((⟨((0:UInt64),(0:UInt64),(0:UInt64),(0:UInt64),(0:UInt64),(0:UInt64),(0:UInt64),(0:UInt64)),((0:UInt64),(0:UInt64),(0:UInt64),(0:UInt64),(0:UInt64),(0:UInt64),(0:UInt64),(0:UInt64))⟩:Ta),(6:Int))) else some ((⟨((0:UInt64),(0:UInt64),(0:UInt64),(0:UInt64),(0:UInt64),(0:UInt64),(0:UInt64),(0:UInt64)),((0:UInt64),(0:UInt64),(0:UInt64),(0:UInt64),(0:UInt64),(0:UInt64),(0:UInt64),(0:UInt64))⟩:Ta),(6:Int)))
theorem bA_c (n:Nat) {L w} (hL:hl L w) (a0:Tf) {v0_1:Value} (h0_1:Rep.R w L [v0_1] a0.fN.fD) {v0_3:Value} (h0_3:Rep.R w L [v0_3] a0.fD.fD)  {r:Ta × Int} (h:bA_p n a0 = some r) :
 Cl 92 #[.agg #[.bool a0.fN.fc,v0_1,.bool a0.fD.fc,v0_3]] w (Gives w fun _ u=>u = .tuple #[.agg ((cs_Ta r.1)).toArray,vI r.2]):=by
 unfold bA_p at h
 refine AD Tryz.func92 rfl rfl rfl fun _ cs0 hb0=>Ac<|RG.bx (Az w) rfl rfl fun R0 B0 v0 F0=>RG.nl zL v0 fun U0 C0 g0 G0=>Af rfl<|Aa<|Ac<|AR 0 rfl<|Ab (Bc (cs:=[.bool a0.fN.fc,v0_1]) (by kernel_rfl) rfl (mem_part (g0.memA .t1) 0 2))<|bk h fun b0 z0 h=>Ba (.tuple #[.agg ((cs_A34 b0.1)).toArray,vI b0.2]) (bd 132) rfl (e1 rfl) (fun w9 hw9=>ap_c n (g0.hL0 hL hw9) a0.fN (g0.k0 h0_1 hw9) z0) rfl<|Ae rfl<|Ab (Ag rfl rfl)<|Ab (Ag rfl rfl)<|RG.nl zP g0 fun V0 D0 x0 H0=>AQ (cs_A34 b0.1) x0 .hd (onesB rfl) fun W0 j0 I0=>Af rfl<|Aa<|Ac<|AR 2 rfl<|Ab (Bc (cs:=[.bool a0.fD.fc,v0_3]) (by kernel_rfl) rfl (mem_part (j0.memA .t2) 2 2))<|bk h fun c0 A0 h=>Ba (.tuple #[.agg ((cs_A34 c0.1)).toArray,vI c0.2]) (bd 132) rfl (e1 rfl) (fun w9 hw9=>ap_c n (j0.hL0 hL hw9) a0.fD (j0.k0 h0_3 hw9) A0) rfl<|Ae rfl<|Ab (Ag rfl rfl)<|Ab (Ag rfl rfl)<|RG.nl zP j0 fun X0 E0 y0 J0=>AQ (cs_A34 c0.1) y0 .hd (onesB rfl) fun Y0 d0 K0=>Af rfl<|Aa<|Aj<|Ac<|Ae rfl<|Ab (BP (i:=b0.2) (j:=0) rfl rfl) ?_
 refine Ae rfl<|RG.ifn (s:=22) rfl h (fun t0 h=>?_) (fun t0 h=>?_)
 refine AE (Ai rfl)<|AE (BP (i:=c0.2) (j:=0) rfl rfl)<|Bv rfl rfl<|Aa<|MX.ifn rfl h (fun u0 h=>?_) (fun u0 h=>?_)
 refine Au<|Ac<|Ab (AH rfl (d0.memA .t1))<|Ab (AH rfl (d0.memA .hd))<|Ab (AU (vs:=[.agg ((cs_A34 b0.1)).toArray,.agg ((cs_A34 c0.1)).toArray]) (u:=.agg ((cs_A34 b0.1 ++ cs_A34 c0.1)).toArray) (e2 rfl rfl) (fun w9=>by kernel_rfl))<|AQ (cs_A34 b0.1 ++ cs_A34 c0.1) d0 .t2 (onesB rfl) fun Z0 p0 M0=>Af rfl<|Aa<|Al rfl<|Am hb0 Tryz.func92 rfl (.cons (.many (cs:=(cs_A34 b0.1 ++ cs_A34 c0.1)) (by kernel_rfl) rfl (p0.memA .t2)) (.cons (.tmp rfl) .nil)) rfl ?_
 cases h
 exact p0.gv
 refine Ac<|Ab (AU (vs:=[]) (u:=.agg zM) evs_nil (fun w9=>by kernel_rfl))<|AQ zL d0 .t2 (onesB rfl) fun b1 q0 P0=>Af rfl<|Aa<|Al rfl<|Am hb0 Tryz.func92 rfl (.cons (.many (cs:=zL) (by kernel_rfl) rfl (q0.memA .t2)) (.cons (.tmp rfl) .nil)) rfl ?_
 cases h
 exact q0.gv
 refine Ap<|Ap<|Bh rfl rfl<|Aa<|Bk rfl<|Ac<|Ab (AU (vs:=[]) (u:=.agg zM) evs_nil (fun w9=>by kernel_rfl))<|AQ zL d0 .t2 (onesB rfl) fun c1 s0 Q0=>Af rfl<|Aa<|Al rfl<|Am hb0 Tryz.func92 rfl (.cons (.many (cs:=zL) (by kernel_rfl) rfl (s0.memA .t2)) (.cons (.tmp rfl) .nil)) rfl ?_
 cases h
 exact s0.gv
def br_l1 (_n:Nat) (a0:List Int) (j0:Int × Nat × (List Int) -> Option ((List Int) × Int)):Int × Nat × (List Int) -> Option ((List Int) × Int)
  | (g0,b0,d0)=>(if b0 < a0.length then (a0[b0]?).bind fun s0=>(chk (2 * s0)).bind fun k0=>(chk (k0 + g0)).bind fun c0=>(remI c0 4294967296).bind fun p0=>(app d0 ([p0]:List Int)).bind fun t0=>(quoI c0 4294967296).bind fun q0=>j0 (q0,b0 + 1,t0) else some (d0,g0))
def br_p (n:Nat) (a0:List Int) (a1:Int):Option (List Int):=
  Option.bind (loopF (br_l1 n a0) n (a1,0,([]:List Int))) (fun (c0,g0)=>(app c0 ([g0]:List Int)).bind fun b0=>(av_p n b0).bind fun d0=>some d0)
theorem br_c (n:Nat) {L w} (hL:hl L w) {a0:List Int} {v0_0:Value} (h0_0:Rep.R w L [v0_0] a0) {a1:Int}  {r:List Int} (h:br_p n a0 a1 = some r) :
 Cl 192 #[v0_0,vI a1] w (Gives w fun w' u=>∃ v0_0:Value,u = v0_0/\Rep.R w' L [v0_0] r):=by
 unfold br_p at h
 have hS0:=Az w
 refine AD Tryz.func192 rfl rfl rfl fun _ cs0 hb0=>Ac<|Af rfl<|Aa<|Ac<|Af rfl<|Aa<|Aj<|Ac<|Af rfl<|Aa<|AA ?_
 have x0:=hS0.nilRow 3 (Rep.size Int)
 have P1:=St.nilRowT hS0 3 (Rep.size Int)
 obtain ⟨W1,c1,Y0⟩:=bind_in2 h
 refine MX.lf (α:=Int × Nat × (List Int) × Value × (List Value)) (fun ⟨b0,c0,d0,k0,g0⟩=>[(0,v0_0),(1,vI b0),(5,k0),(6,vI ((c0:Nat):Int))]) (fun ⟨b0,c0,d0,k0,g0⟩=>[rr w 3 Int k0 d0.length g0]) (fun ⟨b0,c0,d0,k0,g0⟩ D0=>Cells D0 (bl [rr w 3 Int k0 d0.length g0] ++ L) g0 d0) (fun ⟨b0,c0,d0,k0,g0⟩=>(b0,c0,d0)) (a1,0,([]:List Int),vN,[]) c1 x0 (AB (cs:=[]) (xs:=([]:List Int)) x0 L (AJ _ _)) ?_
 rintro H1 ⟨b0,c0,d0,k0,g0⟩ D0 I0 u0 Q0 B0 h
 unfold br_l1 at h
 try dsimp only at h
 refine Aj<|Ac<|Ae rfl<|Ae rfl ?_
 have v0:=AS h0_0 u0
 have V1:a0.length <= 281474976710656:=AY v0
 refine Ab (Be (xs:=a0) Tryz.underlying45 rfl v0)<|Ab (Bu (i:=c0) (j:=a0.length) rfl rfl)<|Aa<|AT rfl h (fun F0 h=>?_) (fun F0 h=>?_)
 refine Au<|Aj<|AA<|Ac<|Ae rfl<|Ae rfl<|bk h fun E0 u1 h=>?_
 obtain ⟨G1,K1,W0,Z0,G0,g1,b1⟩:=Br v0 u1
 have X0:G0 = [vI E0]:=g1; subst X0
 refine Ab (Bq 1 c0 rfl W0 rfl rfl Z0)<|AP rfl (b1 0 _ rfl)<|bk h fun z1 k1 h=>Ab (FV.mulc (i:=2) (j:=E0) rfl rfl k1)<|Ae rfl<|bk h fun C0 p1 h=>Ab (BJ (i:=z1) (j:=b0) rfl rfl p1)<|Af rfl<|Aa<|Ac<|Ae rfl<|Ae rfl<|bk h fun j0 q1 h=>Ab (FV.remc (i:=C0) (j:=4294967296) rfl rfl q1)<|Ak .plain rfl (AK (α:=Int) (xs:=([j0]:List Int)) (vs:=[vI j0]) (ds' :=[vI j0]) rfl u0 el45 rfl (e1 rfl) (by kernel_rfl) rfl) fun Y1 I1 p0 z0=>bk h fun E1 v1 h=>RG.doesL .plain rfl (AZ (α:=Int) (ys:=([j0]:List Int)) v1 p0 (fun _ _=>.t1) el45 rfl rfl (Aw B0 z0) (Src.row (α:=Int) p0 .hd (AB (cs:=[vI j0]) (xs:=(([j0]:List Int):List Int)) p0 L (Ar (cs:=[vI j0]) (ds:=[]) rfl (AJ _ _))))) fun B1 Z1 ⟨H0,J0,M0,U0⟩=>Af rfl<|Aa<|Av<|Ae rfl<|bk h fun A1 s1 h=>Ab (FV.quoc (i:=C0) (j:=4294967296) rfl rfl s1)<|Af rfl<|Aa<|AC<|Av<|Ae rfl<|Ab (Bw (i:=c0) (j:=1) rfl rfl (by omega))<|Af rfl<|Aa ?_
 obtain ⟨K0,A0⟩:=AG J0 .d1
 exact I0 (A1,c0 + 1,E1,B1,H0) K0 (Tt Q0 (Tt z0 (Tt M0 A0))) (Aw U0 A0) h
 refine Bd rfl ?_
 have h:=Y0 _ h
 try dsimp only at h
 refine Ac<|Ae rfl<|Ae rfl<|Ak .plain rfl (AK (α:=Int) (xs:=([b0]:List Int)) (vs:=[vI b0]) (ds' :=[vI b0]) rfl u0 el45 rfl (e1 rfl) (by kernel_rfl) rfl) fun b2 J1 q0 P0=>bk h fun F1 x1 h=>RG.doesL .plain rfl (AZ (α:=Int) (ys:=([b0]:List Int)) x1 q0 (fun _ _=>.t1) el45 rfl rfl (Aw B0 P0) (Src.row (α:=Int) q0 .hd (AB (cs:=[vI b0]) (xs:=(([b0]:List Int):List Int)) q0 L (Ar (cs:=[vI b0]) (ds:=[]) rfl (AJ _ _))))) fun C1 c2 ⟨M1,s0,Q1,V0⟩=>?_
 have t0:=Bz s0 .t1
 have R1:=BA s0 .t1
 refine bk h fun g2 y1 h=>AX (fst:=[]) (cap:=[]) .plain (bd 163) rfl (e1 rfl) (fun w9 hw9=>av_c n (t0.hL hL hw9) (Aq (BB (α:=Int) (v:=C1) (xs:=F1) t0 L (Bj (α:=Int) s0 .t1 V0 hL)) hw9) y1) rfl fun d2 D1 R0 ⟨X1,hu_,j1⟩=>?_
 subst hu_
 obtain ⟨y0,U1⟩:=t0.agr R0
 refine Af rfl<|Aa<|Al rfl<|AW hb0 Tryz.func192 rfl rfl ?_
 cases h
 exact ⟨y0.ag,fun w9 hw9=>⟨D1,rfl,y0.kd j1 hw9⟩⟩
def ax_l1 (n:Nat) (a0:List Int) (g0:Int) (a1:List Int) (p0:(List Int) × Int × (List Int) -> Option ((List Int) × (List Int))):(List Int) × Int × (List Int) -> Option ((List Int) × (List Int))
  | (k0,c0,b0)=>(if 0 <= c0 then (idx a0 g0).bind fun x0=>(natOf c0).bind fun q0=>(remI (shrS x0 q0) 2).bind fun t0=>(br_p n k0 t0).bind fun d0=>(aI_p n d0 a1).bind fun C0=>jn (fun (z0,A0)=>(chk (c0 - 1)).bind fun u0=>p0 (z0,u0,A0)) (fun j0=>(if 0 <= C0 then (am_p n d0 a1).bind fun D0=>(idx b0 g0).bind fun y0=>(natOf c0).bind fun s0=>(chk (y0 + (shlS 1 s0))).bind fun v0=>(put b0 ((g0.toNat:Nat):Int) v0).bind fun B0=>j0 (D0,B0) else j0 (d0,b0))) else some (k0,b0))
def ax_l2 (n:Nat) (a0:List Int) (a1:List Int) (g0:(List Int) × Int × (List Int) -> Option ((List Int) × (List Int))):(List Int) × Int × (List Int) -> Option ((List Int) × (List Int))
  | (c0,b0,d0)=>(if 0 <= b0 then Option.bind (loopF (ax_l1 n a0 b0 a1) n (c0,31,d0)) (fun (k0,p0)=>(chk (b0 - 1)).bind fun j0=>g0 (k0,j0,p0)) else some (d0,c0))
def ax_p (n:Nat) (a0:List Int) (a1:List Int):Option ((List Int) × (List Int)):=
  (if ((a0.length:Nat):Int) <= (((a1.length:Nat):Int) - 1) then (app ([]:List Int) a0).bind fun g0=>some (([]:List Int),g0) else (mk (((a0.length:Nat):Int) - (((a1.length:Nat):Int) - 1)) (0:Int)).bind fun b0=>(cut a0 (((a0.length:Nat):Int) - (((a1.length:Nat):Int) - 1)) (a0.length:Int)).bind fun j0=>(app ([]:List Int) j0).bind fun k0=>Option.bind (loopF (ax_l2 n a0 a1) n (k0,((b0.length:Nat):Int) - 1,b0)) (fun (d0,c0)=>(av_p n d0).bind fun p0=>some (p0,c0)))
theorem ax_c (n:Nat) {L w} (hL:hl L w) {a0:List Int} {v0_0:Value} (h0_0:Rep.R w L [v0_0] a0) {a1:List Int} {v1_0:Value} (h1_0:Rep.R w L [v1_0] a1)  {r:(List Int) × (List Int)} (h:ax_p n a0 a1 = some r) :
 Cl 164 #[v0_0,v1_0] w (Gives w fun w' u=>∃ v0_0 v1_0:Value,u = .tuple #[v0_0,v1_0]/\Rep.R w' L [v0_0] r.1/\Rep.R w' L [v1_0] r.2):=by
 unfold ax_p at h
 have hS0:=Az w
 refine AD Tryz.func164 rfl rfl rfl fun _ cs0 hb0=>Ac<|Af rfl<|Af rfl<|Aa<|Ac<|Ae rfl ?_
 have hl1:a1.length <= 281474976710656:=AY h1_0
 refine Ab (Be (xs:=a1) Tryz.underlying45 rfl h1_0)<|Ab (FV.subI (i:=((a1.length:Nat):Int)) (j:=1) rfl rfl (by omega))<|Af rfl<|Aa<|Aj<|Ac<|Ae rfl ?_
 have hl2:a0.length <= 281474976710656:=AY h0_0
 refine Ab (Be (xs:=a0) Tryz.underlying45 rfl h0_0)<|Ae rfl<|Ab (FV.leq (i:=((a0.length:Nat):Int)) (j:=((a1.length:Nat):Int) - 1) rfl rfl)<|Aa<|AT rfl h (fun c3 h=>?_) (fun c3 h=>?_)
 refine Ac<|Ak .plain rfl (AK (α:=Int) (xs:=([]:List Int)) (vs:=[]) (ds' :=[]) rfl hS0 el45 rfl evs_nil (by kernel_rfl) rfl) fun C4 V3 M0 g4=>Ae rfl<|bk h fun G3 p3 h=>RG.doesL .plain rfl (AZ (α:=Int) (ys:=a0) p3 M0 (fun _ _=>.hd) el45 rfl rfl (AB (cs:=[]) (xs:=(([]:List Int):List Int)) M0 L (AJ _ _)) (BG (AS h0_0 M0))) fun D1 H4 ⟨c4,J0,j4,u2⟩=>Af rfl<|Af rfl<|Aa<|Al rfl ?_
 have s4:=Rep.nilAt (α:=Int) J0 L
 have E0:=Bz J0 .hd
 have k4:=BA J0 .hd
 have V2:=BB (α:=Int) (v:=D1) (xs:=G3) E0 L (Bj (α:=Int) J0 .hd u2 hL)
 refine Am hb0 Tryz.func164 rfl (.cons (.tmp rfl) (.cons (.tmp rfl) .nil)) rfl ?_
 cases h
 exact ⟨E0.ag,fun w9 hw9=>⟨vN,D1,rfl,E0.kd (Rep.nilAt (α:=Int) E0 L) hw9,E0.kd V2 hw9⟩⟩
 refine Au<|Ac<|Ae rfl<|Ab (Be (xs:=a0) Tryz.underlying45 rfl h0_0)<|Ae rfl<|Ab (FV.subI (i:=((a0.length:Nat):Int)) (j:=((a1.length:Nat):Int) - 1) rfl rfl (by omega))<|bk h fun G0 C1 h=>Ak .plain rfl (Does.mk (α:=Int) C1 hS0 el45 rfl) fun I4 c0 j1 p4=>Af rfl<|Aa<|Ac<|Ak .plain rfl (AK (α:=Int) (xs:=([]:List Int)) (vs:=[]) (ds' :=[]) rfl j1 el45 rfl evs_nil (by kernel_rfl) rfl) fun J4 W3 U0 g2=>Ae rfl<|Ae rfl ?_
 have z1:=AS h0_0 U0
 refine Ab (Be (xs:=a0) Tryz.underlying45 rfl z1)<|Ae rfl<|Ab (FV.subI (i:=((a0.length:Nat):Int)) (j:=((a1.length:Nat):Int) - 1) rfl rfl (by omega))<|bk h fun I3 s3 h=>RG.valE .plain rfl (FV.cutL (α:=Int) s3 (by kernel_rfl) rfl z1 ⟨_,rfl⟩ rfl) fun B4 W2=>bk h fun G1 t3 h=>RG.doesL .plain rfl (AZ (α:=Int) (ys:=I3) t3 U0 (fun _ _=>.hd) el45 rfl rfl (AB (cs:=[]) (xs:=(([]:List Int):List Int)) U0 L (AJ _ _)) (BG W2)) fun E1 K4 ⟨d4,F0,j2,v2⟩=>Af rfl<|Aa<|Aj<|Ac<|Ae rfl ?_
 have q4:G0.length <= 4294967296:=St.rowLe (α:=Int) F0 .t1
 obtain ⟨P3,b4,A2⟩:=St.rowV (α:=Int) F0 .t1
 refine Ab (FV.lenV Tryz.underlying45 rfl A2)<|Ab (FV.subI (i:=((G0.length:Nat):Int)) (j:=1) rfl rfl (by omega))<|Af rfl<|Aa<|AA ?_
 have k1:=Bz F0 .hd
 obtain ⟨t4,J2,B2⟩:=bind_in2 h
 refine MX.lf (α:=(List Int) × Int × (List Int) × Value × (List Value)) (fun ⟨B0,b0,g0,y0,u0⟩=>[(0,v0_0),(1,v1_0),(7,(.slice (some ⟨c0,0,none⟩) (((a0.length:Nat):Int) - (((a1.length:Nat):Int) - 1)).toNat (((a0.length:Nat):Int) - (((a1.length:Nat):Int) - 1)).toNat)),(8,y0),(9,vI b0)]) (fun ⟨B0,b0,g0,y0,u0⟩=>[rr w 3 Int (.slice (some ⟨c0,0,none⟩) (((a0.length:Nat):Int) - (((a1.length:Nat):Int) - 1)).toNat (((a0.length:Nat):Int) - (((a1.length:Nat):Int) - 1)).toNat) g0.length u0]) (fun ⟨B0,b0,g0,y0,u0⟩ Z0=>Rep.R Z0 (bl [rr w 3 Int (.slice (some ⟨c0,0,none⟩) (((a0.length:Nat):Int) - (((a1.length:Nat):Int) - 1)).toNat (((a0.length:Nat):Int) - (((a1.length:Nat):Int) - 1)).toNat) g0.length u0] ++ L) [y0] B0/\Cells Z0 (bl [rr w 3 Int (.slice (some ⟨c0,0,none⟩) (((a0.length:Nat):Int) - (((a1.length:Nat):Int) - 1)).toNat (((a0.length:Nat):Int) - (((a1.length:Nat):Int) - 1)).toNat) g0.length u0] ++ L) u0 g0) (fun ⟨B0,b0,g0,y0,u0⟩=>(B0,b0,g0)) (G1,((G0.length:Nat):Int) - 1,G0,E1,(List.replicate (((a0.length:Nat):Int) - (((a1.length:Nat):Int) - 1)).toNat [vI 0]).flatten) J2 k1 ⟨(BB (α:=Int) (v:=E1) (xs:=G1) k1 L (Bj (α:=Int) F0 .hd v2 hL)),(Aw (AB (cs:=(List.replicate (((a0.length:Nat):Int) - (((a1.length:Nat):Int) - 1)).toNat [vI 0]).flatten) (xs:=G0) j1 L (Cells.mk C1 rfl)) (Tt g2 (Tt j2 (BA F0 .hd))))⟩ ?_
 rintro Q3 ⟨B0,b0,g0,y0,u0⟩ Z0 V1 H0 Z1 ⟨A1,u1⟩ h
 unfold ax_l2 at h
 try dsimp only at h
 refine Aj<|Ac<|Ae rfl<|Ab (FV.geq (i:=b0) (j:=0) rfl rfl)<|Aa<|AT rfl h (fun K1 h=>?_) (fun K1 h=>?_)
 refine Au<|Aj<|AA<|Ac<|Af rfl<|Aa<|AA ?_
 obtain ⟨u4,K2,C2⟩:=bind_in2 h
 refine MX.lf (α:=(List Int) × Int × (List Int) × Value × (List Value)) (fun ⟨C0,p0,j0,z0,q0⟩=>[(0,v0_0),(1,v1_0),(7,(.slice (some ⟨c0,0,none⟩) (((a0.length:Nat):Int) - (((a1.length:Nat):Int) - 1)).toNat (((a0.length:Nat):Int) - (((a1.length:Nat):Int) - 1)).toNat)),(8,z0),(9,vI b0),(10,vI p0)]) (fun ⟨C0,p0,j0,z0,q0⟩=>[rr w 3 Int (.slice (some ⟨c0,0,none⟩) (((a0.length:Nat):Int) - (((a1.length:Nat):Int) - 1)).toNat (((a0.length:Nat):Int) - (((a1.length:Nat):Int) - 1)).toNat) j0.length q0]) (fun ⟨C0,p0,j0,z0,q0⟩ b1=>Rep.R b1 (bl [rr w 3 Int (.slice (some ⟨c0,0,none⟩) (((a0.length:Nat):Int) - (((a1.length:Nat):Int) - 1)).toNat (((a0.length:Nat):Int) - (((a1.length:Nat):Int) - 1)).toNat) j0.length q0] ++ L) [z0] C0/\Cells b1 (bl [rr w 3 Int (.slice (some ⟨c0,0,none⟩) (((a0.length:Nat):Int) - (((a1.length:Nat):Int) - 1)).toNat (((a0.length:Nat):Int) - (((a1.length:Nat):Int) - 1)).toNat) j0.length q0] ++ L) q0 j0) (fun ⟨C0,p0,j0,z0,q0⟩=>(C0,p0,j0)) (B0,31,g0,y0,u0) K2 H0 ⟨A1,u1⟩ ?_
 rintro R3 ⟨C0,p0,j0,z0,q0⟩ b1 W1 I0 p1 ⟨B1,W0⟩ h
 unfold ax_l1 at h
 try dsimp only at h
 refine Aj<|Ac<|Ae rfl<|Ab (FV.geq (i:=p0) (j:=0) rfl rfl)<|Aa<|AT rfl h (fun M1 h=>?_) (fun M1 h=>?_)
 refine Au<|Aj<|AA<|Ac<|Ae rfl<|Ae rfl<|Ae rfl<|bk h fun d1 d3 h=>?_
 obtain ⟨D2,g3⟩:=idx_in d3
 obtain ⟨M3,X3,x2,E2,Q1,M2,H2⟩:=Br (AS h0_0 I0) g3
 have y2:Q1 = [vI d1]:=M2; subst y2
 refine Ab (Bq 1 (b0.toNat) rfl x2 rfl D2 E2)<|AP rfl (H2 0 _ rfl)<|Ae rfl<|bk h fun z3 F2 h=>Ab (FV.shrSI (i:=d1) (q:=p0) rfl rfl F2)<|bk h fun v4 X2 h=>Ab (FV.remc (i:=shrS d1 z3) (j:=2) rfl rfl X2)<|bk h fun J3 u3 h=>AX (fst:=[]) (cap:=[]) .plain (bd 192) rfl (e2 rfl rfl) (fun w9 hw9=>br_c n (I0.hL hL hw9) (Aq B1 hw9) u3) rfl fun D4 D3 k2 ⟨y4,hu_,Y0⟩=>?_
 subst hu_
 obtain ⟨x0,V0⟩:=I0.agr k2
 refine Af rfl<|Aa<|Ac<|Ae rfl<|Ae rfl<|bk h fun H1 v3 h=>Ba (vI H1) (bd 166) rfl (e2 rfl rfl) (fun w9 hw9=>aI_c n (x0.hL0 hL hw9) (x0.kd Y0 hw9) (x0.k0 h1_0 hw9) v3) rfl<|Ab (FV.geq (i:=H1) (j:=0) rfl rfl)<|Aa<|MX.jf (α:=(List Int) × (List Int) × Value × (List Value)) (fun ⟨D0,t0,A0,v0⟩=>[(0,v0_0),(1,v1_0),(7,(.slice (some ⟨c0,0,none⟩) (((a0.length:Nat):Int) - (((a1.length:Nat):Int) - 1)).toNat (((a0.length:Nat):Int) - (((a1.length:Nat):Int) - 1)).toNat)),(8,A0),(9,vI b0),(10,vI p0)]) (fun ⟨D0,t0,A0,v0⟩=>[rr w 3 Int (.slice (some ⟨c0,0,none⟩) (((a0.length:Nat):Int) - (((a1.length:Nat):Int) - 1)).toNat (((a0.length:Nat):Int) - (((a1.length:Nat):Int) - 1)).toNat) t0.length v0]) (fun ⟨D0,t0,A0,v0⟩ c1=>Rep.R c1 (bl [rr w 3 Int (.slice (some ⟨c0,0,none⟩) (((a0.length:Nat):Int) - (((a1.length:Nat):Int) - 1)).toNat (((a0.length:Nat):Int) - (((a1.length:Nat):Int) - 1)).toNat) t0.length v0] ++ L) [A0] D0/\Cells c1 (bl [rr w 3 Int (.slice (some ⟨c0,0,none⟩) (((a0.length:Nat):Int) - (((a1.length:Nat):Int) - 1)).toNat (((a0.length:Nat):Int) - (((a1.length:Nat):Int) - 1)).toNat) t0.length v0] ++ L) v0 t0) (fun ⟨D0,t0,A0,v0⟩=>(D0,t0)) x0 h ?_ ?_
 rintro ⟨D0,t0,A0,v0⟩ c1 X1 b2 ⟨P2,s2⟩ h
 try dsimp only at h
 refine AC<|Av<|Ae rfl<|bk h fun B3 Y2 h=>Ab (FV.subc (i:=p0) (j:=1) rfl rfl Y2)<|Af rfl<|Aa<|W1 (D0,B3,t0,A0,v0) X1 (Tt p1 (Tt V0 b2)) ⟨P2,s2⟩ h
 intro U3 g1 h
 try dsimp only at h
 refine AT rfl h (fun P1 h=>?_) (fun P1 h=>?_)
 refine Ac<|Ae rfl<|Ae rfl<|bk h fun K3 x3 h=>AX (fst:=[]) (cap:=[]) .plain (bd 162) rfl (e2 rfl rfl) (fun w9 hw9=>am_c n (x0.hL hL hw9) (Aq Y0 hw9) (x0.km h1_0 hw9) x3) rfl fun E4 E3 p2 ⟨z4,hu_,Q2⟩=>?_
 subst hu_
 obtain ⟨P0,q1⟩:=x0.agr p2
 refine Af rfl<|Aa<|du 10 fun d0 s0=>Rv 0 d0 rfl s0 (fun _=>Ai rfl)<|Rv 1 d0 rfl s0 (fun _=>Ai rfl)<|Rv 2 d0 rfl s0 (fun _=>Ai rfl)<|Rv 3 d0 rfl s0 (fun _=>Ai rfl)<|bk h fun F1 j3 h=>?_
 obtain ⟨x1,k3⟩:=idx_in j3
 have y1:=Aw W0 (Tt V0 q1)
 obtain ⟨I1,Y3,K0,X0,R1,R2,I2⟩:=St.nth (α:=Int) P0 .hd y1 k3
 obtain ⟨J1,Z3,v1⟩:=BR (α:=Int) P0 .hd X0
 obtain rfl:I1 = ⟨J1,0,none⟩:=by rw [v1] at K0; cases K0; rfl
 have z2:R1 = [vI F1]:=R2; subst z2
 refine Rv 4 d0 rfl s0 (fun _=>Bq 1 (b0.toNat) rfl K0 rfl x1 X0)<|Rx 5 1792 d0 rfl s0 (AL rfl (I2 0 _ rfl))<|Rv 6 d0 rfl s0 (fun _=>Ai rfl)<|bk h fun A3 G2 h=>Rv 7 d0 rfl s0 (fun _=>FV.shlSI (i:=1) (q:=p0) rfl rfl G2)<|bk h fun x4 Z2 h=>Rv 8 d0 rfl s0 (fun _=>BJ (i:=F1) (j:=shlS 1 A3) rfl rfl Z2)<|Rv 9 d0 rfl s0 (fun _=>Bq 1 (b0.toNat) rfl K0 rfl x1 X0)<|bk h fun H3 q3 h=>Bf (i:=10) (rk d0) (RO.acts (m' :=2047) (sk d0) rfl rfl .plain (Acts.set (α:=Int) (i:=b0.toNat) q3 P0 v1 (fun _=>.hd) y1 rfl rfl rfl rfl rfl (by kernel_rfl)) (fun F4 ⟨U1,Y1,s1,t2⟩=>?_))
 refine AN (dk d0)<|g1 (K3,H3,E3,U1) Y1 (Tt q1 s1) ⟨(Ao Q2 s1),t2⟩ h
 refine Au<|g1 (J3,j0,D3,q0) x0 (By _ _) ⟨Y0,(Aw W0 V0)⟩ h
 refine Bd rfl ?_
 have h:=C2 _ h
 try dsimp only at h
 refine AC<|Av<|Ae rfl<|bk h fun C3 b3 h=>Ab (FV.subc (i:=b0) (j:=1) rfl rfl b3)<|Af rfl<|Aa<|V1 (C0,C3,j0,z0,q0) I0 (Tt Z1 p1) ⟨B1,W0⟩ h
 refine Bd rfl ?_
 have h:=B2 _ h
 try dsimp only at h
 refine Ac<|Ae rfl ?_
 have Q0:=Bz H0 .hd
 have c2:=BA H0 .hd
 refine bk h fun M4 y3 h=>AX (fst:=[]) (cap:=[]) .plain (bd 163) rfl (e1 rfl) (fun w9 hw9=>av_c n (Q0.hL hL hw9) (Aq (BB (α:=Int) (v:=(.slice (some ⟨c0,0,none⟩) (((a0.length:Nat):Int) - (((a1.length:Nat):Int) - 1)).toNat (((a0.length:Nat):Int) - (((a1.length:Nat):Int) - 1)).toNat)) (xs:=g0) Q0 L (Bj (α:=Int) H0 .hd u1 hL)) hw9) y3) rfl fun G4 F3 q2 ⟨A4,hu_,U2⟩=>?_
 subst hu_
 obtain ⟨R0,d2⟩:=Q0.agr q2
 refine Ae rfl<|Af rfl<|Af rfl<|Aa<|Al rfl<|Am hb0 Tryz.func164 rfl (.cons (.tmp rfl) (.cons (.tmp rfl) .nil)) rfl ?_
 cases h
 exact ⟨R0.ag,fun w9 hw9=>⟨F3,y0,rfl,R0.kd U2 hw9,R0.kd (Ao A1 (Tt c2 d2)) hw9⟩⟩
def aL_l1 (n:Nat) (d0:(List Int) × (List Int) -> Option (List Int)):(List Int) × (List Int) -> Option (List Int)
  | (c0,b0)=>(if 0 < b0.length then (ax_p n c0 b0).bind fun g0=>d0 (b0,g0.2) else some c0)
def aL_p (n:Nat) (a0:Tc) (a1:Tc):Option Tc:=
  Option.bind (loopF (aL_l1 n) n (a0.fD,a1.fD)) (fun b0=>some (⟨false,b0⟩:Tc))
theorem aL_c (n:Nat) {L w} (hL:hl L w) (a0:Tc) {v0_1:Value} (h0_1:Rep.R w L [v0_1] a0.fD) (a1:Tc) {v1_1:Value} (h1_1:Rep.R w L [v1_1] a1.fD)  {r:Tc} (h:aL_p n a0 a1 = some r) :
 Cl 130 #[.agg #[.bool a0.fc,v0_1],.agg #[.bool a1.fc,v1_1]] w (Gives w fun w' u=>∃ v0_1:Value,u = .agg #[.bool r.fc,v0_1]/\Rep.R w' L [v0_1] r.fD):=by
 unfold aL_p at h
 refine AD Tryz.func130 rfl rfl rfl fun _ cs0 hb0=>Ac<|RG.bx (Az w) rfl rfl fun s1 W0 C0 Z0=>RG.bx C0 rfl rfl fun u1 X0 D0 b1=>RG.nl [.bool false,vN] D0 fun v1 p0 t0 c1=>Aa<|Aj<|du 6 fun d0 j0=>Rv 0 d0 rfl j0 (fun _=>Bb 1 rfl)<|Rx 1 48 d0 rfl j0 (AL rfl ((t0.memA .t2) 1 _ rfl))<|Rv 2 d0 rfl j0 (fun _=>Bb 1 rfl)<|Rx 3 32 d0 rfl j0 (AL rfl ((t0.memA .t1) 1 _ rfl))<|Rv 4 d0 rfl j0 (fun _=>AV rfl)<|Rv 5 d0 rfl j0 (fun _=>AV rfl)<|AN (dk d0)<|Aj<|AA ?_
 obtain ⟨u0,d1⟩:=AG t0 (.a0 .done)
 obtain ⟨k1,J0,I0⟩:=bind_in2 h
 refine MX.lf (α:=(List Int) × (List Int) × Value × Value) (fun ⟨k0,c0,b0,g0⟩=>[(4,vP p0),(5,b0),(6,g0)]) (fun ⟨k0,c0,b0,g0⟩=>[.cells p0 [.bool false,vN] 134]) (fun ⟨k0,c0,b0,g0⟩ y0=>Rep.R y0 (bl [.cells p0 [.bool false,vN] 134] ++ L) [b0] k0/\Rep.R y0 (bl [.cells p0 [.bool false,vN] 134] ++ L) [g0] c0) (fun ⟨k0,c0,b0,g0⟩=>(k0,c0)) (a0.fD,a1.fD,v0_1,v1_1) J0 u0 ⟨(AS h0_1 u0),(AS h1_1 u0)⟩ ?_
 rintro V0 ⟨k0,c0,b0,g0⟩ y0 B0 v0 F0 ⟨q0,s0⟩ h
 unfold aL_l1 at h
 try dsimp only at h
 refine Aj<|Ac<|Ae rfl ?_
 have g1:c0.length <= 281474976710656:=AY s0
 refine Ab (Be (xs:=c0) Tryz.underlying45 rfl s0)<|Ab (FV.gtrN (i:=c0.length) (j:=0) rfl rfl)<|Aa<|AT rfl h (fun A0 h=>?_) (fun A0 h=>?_)
 refine Au<|AA<|Ac<|Ae rfl<|Ae rfl<|bk h fun R0 P0 h=>AX (fst:=[]) (cap:=[]) .plain (bd 164) rfl (e2 rfl rfl) (fun w9 hw9=>ax_c n (v0.hL hL hw9) (Aq q0 hw9) (Aq s0 hw9) P0) rfl fun x1 q1 H0 ⟨p1,Q0,hu_,j1,K0⟩=>?_
 subst hu_
 obtain ⟨E0,z0⟩:=v0.agr H0
 refine Ae rfl<|Ab (Ag rfl rfl)<|Ab (Ag rfl rfl)<|Af rfl<|Af rfl<|Aa<|Av<|Ae rfl<|Ae rfl<|Af rfl<|Af rfl<|Aa<|AC<|B0 (c0,R0.2,g0,Q0) E0 (Tt F0 z0) ⟨(Ao s0 z0),K0⟩ h
 refine Bd rfl ?_
 have h:=I0 _ h
 try dsimp only at h
 refine Ac<|Ae rfl ?_
 obtain ⟨U0,Y0,M0,_⟩:=BV q0
 refine Ab (AU (vs:=[b0]) (u:=.agg #[.bool false,b0]) (e1 rfl) (fun w9=>by rw [M0]; try kernel_rfl))<|AQ [.bool false,b0] v0 .hd (o2 rfl (AO q0)) fun y1 x0 G0=>Aa<|Al rfl<|Am hb0 Tryz.func130 rfl (.cons (.many (cs:=[.bool false,b0]) (by kernel_rfl) rfl (x0.memA .hd)) .nil) rfl ?_
 cases h
 exact ⟨x0.ag,fun w9 hw9=>⟨b0,rfl,x0.kd (Ao q0 G0) hw9⟩⟩
def aa_p (n:Nat) (a0:Bool) (a1:List Int):Option Tc:=
  (av_p n a1).bind fun b0=>(if a0 = true then some (⟨(decide (0 < b0.length)),b0⟩:Tc) else some (⟨false,b0⟩:Tc))
theorem aa_c (n:Nat) {L w} (hL:hl L w) {a0:Bool} {a1:List Int} {v1_0:Value} (h1_0:Rep.R w L [v1_0] a1)  {r:Tc} (h:aa_p n a0 a1 = some r) :
 Cl 161 #[.bool a0,v1_0] w (Gives w fun w' u=>∃ v0_1:Value,u = .agg #[.bool r.fc,v0_1]/\Rep.R w' L [v0_1] r.fD):=by
 unfold aa_p at h
 refine AD Tryz.func161 rfl rfl rfl fun _ cs0 hb0=>Ac<|RG.nl [.bool false,vN] (Az w) fun I0 B0 g0 E0=>Aa<|Ac<|Ae rfl<|bk h fun d0 y0 h=>AX (fst:=[]) (cap:=[]) .plain (bd 163) rfl (e1 rfl) (fun w9 hw9=>av_c n (g0.hL hL hw9) (g0.km h1_0 hw9) y0) rfl fun J0 b0 u0 ⟨H0,hu_,c0⟩=>?_
 subst hu_
 obtain ⟨p0,F0⟩:=g0.agr u0
 refine Af rfl<|Aa<|Ac<|Ae rfl<|Ae rfl<|RG.ifb (s:=8) rfl h (fun q0 h=>?_) (fun q0 h=>?_)
 refine AE (Ai rfl) ?_
 have G0:d0.length <= 281474976710656:=AY c0
 refine AE (Be (xs:=d0) Tryz.underlying45 rfl c0)<|AE (FV.gtrN (i:=d0.length) (j:=0) rfl rfl)<|Bh rfl rfl<|Ae rfl ?_
 obtain ⟨z0,C0,v0,_⟩:=BV c0
 refine Ab (AU (vs:=[.bool (decide (0 < d0.length)),b0]) (u:=.agg #[.bool (decide (0 < d0.length)),b0]) (e2 rfl rfl) (fun w9=>by rw [v0]; try kernel_rfl))<|AQ [.bool (decide (0 < d0.length)),b0] p0 .hd (o2 rfl (AO c0)) fun K0 j0 s0=>Aa<|Al rfl<|Am hb0 Tryz.func161 rfl (.cons (.many (cs:=[.bool (decide (0 < d0.length)),b0]) (by kernel_rfl) rfl (j0.memA .hd)) .nil) rfl ?_
 cases h
 exact ⟨j0.ag,fun w9 hw9=>⟨b0,rfl,j0.kd (Ao c0 s0) hw9⟩⟩
 refine Ap<|Ap<|Ap<|Bv rfl rfl<|Ae rfl ?_
 obtain ⟨A0,D0,x0,_⟩:=BV c0
 refine Ab (AU (vs:=[.bool false,b0]) (u:=.agg #[.bool false,b0]) (e2 rfl rfl) (fun w9=>by rw [x0]; try kernel_rfl))<|AQ [.bool false,b0] p0 .hd (o2 rfl (AO c0)) fun M0 k0 t0=>Aa<|Al rfl<|Am hb0 Tryz.func161 rfl (.cons (.many (cs:=[.bool false,b0]) (by kernel_rfl) rfl (k0.memA .hd)) .nil) rfl ?_
 cases h
 exact ⟨k0.ag,fun w9 hw9=>⟨b0,rfl,k0.kd (Ao c0 t0) hw9⟩⟩
def bm_p (n:Nat) (a0:Tc):Option Tc:=
  (aa_p n (!a0.fc) a0.fD).bind fun b0=>some b0
theorem bm_c (n:Nat) {L w} (hL:hl L w) (a0:Tc) {v0_1:Value} (h0_1:Rep.R w L [v0_1] a0.fD)  {r:Tc} (h:bm_p n a0 = some r) :
 Cl 136 #[.agg #[.bool a0.fc,v0_1]] w (Gives w fun w' u=>∃ v0_1:Value,u = .agg #[.bool r.fc,v0_1]/\Rep.R w' L [v0_1] r.fD):=by
 unfold bm_p at h
 refine AD Tryz.func136 rfl rfl rfl fun _ cs0 hb0=>Ac<|RG.bx (Az w) rfl rfl fun B0 u0 k0 x0=>RG.nl [.bool false,vN] k0 fun C0 v0 b0 y0=>Aa<|Ac<|AR 0 rfl<|AP rfl ((b0.memA .t1) 0 _ rfl)<|Ab (Bp rfl)<|AR 1 rfl<|AP rfl ((b0.memA .t1) 1 _ rfl)<|bk h fun j0 t0 h=>AX (fst:=[]) (cap:=[]) .plain (bd 161) rfl (e2 rfl rfl) (fun w9 hw9=>aa_c n (b0.hL hL hw9) (b0.km h0_1 hw9) t0) rfl fun D0 A0 s0 ⟨d0,hu_,g0⟩=>?_
 subst hu_
 obtain ⟨p0,z0⟩:=b0.agr s0
 refine AQ [.bool j0.fc,d0] p0 .hd (o2 rfl (AO g0)) fun E0 c0 q0=>Aa<|Al rfl<|Am hb0 Tryz.func136 rfl (.cons (.many (cs:=[.bool j0.fc,d0]) (by kernel_rfl) rfl (c0.memA .hd)) .nil) rfl ?_
 cases h
 exact ⟨c0.ag,fun w9 hw9=>⟨d0,rfl,c0.kd (Ao g0 q0) hw9⟩⟩
def bC_l1 (_n:Nat) (a0:List Int) (a1:List Int) (g0:Int × Int × (List Int) -> Option (List Int)):Int × Int × (List Int) -> Option (List Int)
  | (c0,b0,d0)=>(if b0 < ((a0.length:Nat):Int) then (idx a0 b0).bind fun C0=>(chk (c0 + C0)).bind fun k0=>jn (fun q0=>(remI q0 4294967296).bind fun s0=>(app d0 ([s0]:List Int)).bind fun F0=>(quoI q0 4294967296).bind fun t0=>(chk (b0 + 1)).bind fun u0=>g0 (t0,u0,F0)) (fun j0=>(if b0 < ((a1.length:Nat):Int) then (idx a1 b0).bind fun D0=>(chk (k0 + D0)).bind fun v0=>j0 v0 else j0 k0)) else (if b0 < ((a1.length:Nat):Int) then (idx a1 b0).bind fun E0=>(chk (c0 + E0)).bind fun p0=>(remI p0 4294967296).bind fun x0=>(app d0 ([x0]:List Int)).bind fun G0=>(quoI p0 4294967296).bind fun y0=>g0 (y0,b0 + 1,G0) else (if 0 < c0 then (remI c0 4294967296).bind fun z0=>(app d0 ([z0]:List Int)).bind fun H0=>(quoI c0 4294967296).bind fun A0=>(chk (b0 + 1)).bind fun B0=>g0 (A0,B0,H0) else some d0)))
def bC_p (n:Nat) (a0:List Int) (a1:List Int):Option (List Int):=
  Option.bind (loopF (bC_l1 n a0 a1) n (0,0,([]:List Int))) (fun b0=>some b0)
theorem bC_c (n:Nat) {L w} (hL:hl L w) {a0:List Int} {v0_0:Value} (h0_0:Rep.R w L [v0_0] a0) {a1:List Int} {v1_0:Value} (h1_0:Rep.R w L [v1_0] a1)  {r:List Int} (h:bC_p n a0 a1 = some r) :
 Cl 168 #[v0_0,v1_0] w (Gives w fun w' u=>∃ v0_0:Value,u = v0_0/\Rep.R w' L [v0_0] r):=by
 unfold bC_p at h
 have hS0:=Az w
 refine AD Tryz.func168 rfl rfl rfl fun _ cs0 hb0=>Ac<|Af rfl<|Aa<|Ac<|Af rfl<|Aa<|Ac<|Af rfl<|Aa<|Aj<|Ac<|Af rfl<|Aa<|AA ?_
 have I0:=hS0.nilRow 3 (Rep.size Int)
 have B3:=St.nilRowT hS0 3 (Rep.size Int)
 obtain ⟨G3,j2,U1⟩:=bind_in2 h
 refine MX.lf (α:=Int × Int × (List Int) × Value × (List Value)) (fun ⟨g0,b0,j0,d0,k0⟩=>[(0,v0_0),(1,v1_0),(5,d0),(6,vI g0),(7,vI b0)]) (fun ⟨g0,b0,j0,d0,k0⟩=>[rr w 3 Int d0 j0.length k0]) (fun ⟨g0,b0,j0,d0,k0⟩ X0=>Cells X0 (bl [rr w 3 Int d0 j0.length k0] ++ L) k0 j0) (fun ⟨g0,b0,j0,d0,k0⟩=>(g0,b0,j0)) (0,0,([]:List Int),vN,[]) j2 I0 (AB (cs:=[]) (xs:=([]:List Int)) I0 L (AJ _ _)) ?_
 rintro s3 ⟨g0,b0,j0,d0,k0⟩ X0 A0 c0 F0 y0 h
 unfold bC_l1 at h
 try dsimp only at h
 refine Aj<|Ac<|Ae rfl<|Ae rfl ?_
 have u0:=AS h0_0 c0
 have D3:a0.length <= 281474976710656:=AY u0
 refine Ab (Be (xs:=a0) Tryz.underlying45 rfl u0)<|Ab (BS (i:=b0) (j:=((a0.length:Nat):Int)) rfl rfl)<|Ae rfl<|BD (s:=12) rfl h (fun x0 h=>?_) (fun x0 h=>?_)
 refine Ap<|Ap<|Ap<|Ap<|Bh rfl rfl<|Ae rfl<|Ap<|Ap<|Bh rfl rfl<|Aa<|Bk rfl<|Au<|Aj<|AA<|Aj<|Ac<|Ae rfl<|Ae rfl<|Ab (Be (xs:=a0) Tryz.underlying45 rfl u0)<|Ab (BS (i:=b0) (j:=((a0.length:Nat):Int)) rfl rfl)<|Aa<|MX.cond_kt rfl (decide_eq_true x0)<|Av<|Ae rfl<|Ae rfl<|Ae rfl<|bk h fun Y0 F2 h=>?_
 obtain ⟨V1,G2⟩:=idx_in F2
 obtain ⟨k3,y3,J1,Y1,j1,k2,c2⟩:=Br u0 G2
 have K1:j1 = [vI Y0]:=k2; subst K1
 refine Ab (Bq 1 (b0.toNat) rfl J1 rfl V1 Y1)<|AP rfl (c2 0 _ rfl)<|bk h fun V0 t2 h=>Ab (BJ (i:=g0) (j:=Y0) rfl rfl t2)<|Af rfl<|Aa<|Aj<|Ac<|Ae rfl<|Ae rfl ?_
 have G0:=AS h1_0 c0
 have E3:a1.length <= 281474976710656:=AY G0
 refine Ab (Be (xs:=a1) Tryz.underlying45 rfl G0)<|Ab (BS (i:=b0) (j:=((a1.length:Nat):Int)) rfl rfl)<|Aa<|MX.jo (α:=Int) (fun t0=>[(0,v0_0),(1,v1_0),(5,d0),(6,vI t0),(7,vI b0)]) (fun t0=>[rr w 3 Int d0 j0.length k0]) (fun t0=>t0) c0 h ?_ ?_
 rintro t0 Q3 v1 J0 h
 try dsimp only at h
 refine Ac<|Ae rfl<|Ae rfl<|bk h fun p0 u2 h=>Ab (FV.remc (i:=t0) (j:=4294967296) rfl rfl u2)<|Ak .plain rfl (AK (α:=Int) (xs:=([p0]:List Int)) (vs:=[vI p0]) (ds' :=[vI p0]) rfl v1 el45 rfl (e1 rfl) (by kernel_rfl) rfl) fun H3 u3 B0 K0=>bk h fun d3 M2 h=>RG.doesL .plain rfl (AZ (α:=Int) (ys:=([p0]:List Int)) M2 B0 (fun _ _=>.t1) el45 rfl rfl (Aw y0 (Tt J0 K0)) (Src.row (α:=Int) B0 .hd (AB (cs:=[vI p0]) (xs:=(([p0]:List Int):List Int)) B0 L (Ar (cs:=[vI p0]) (ds:=[]) rfl (AJ _ _))))) fun Z2 I3 ⟨k1,x1,D1,G1⟩=>Af rfl<|Aa<|Av<|Ae rfl<|bk h fun R2 v2 h=>Ab (FV.quoc (i:=t0) (j:=4294967296) rfl rfl v2)<|Af rfl<|Aa<|AC<|Av<|Ae rfl<|bk h fun U2 x2 h=>Ab (BJ (i:=b0) (j:=1) rfl rfl x2)<|Af rfl<|Aa ?_
 obtain ⟨y1,M0⟩:=AG x1 .d1
 exact A0 (R2,U2,d3,Z2,k1) y1 (Tt F0 (Tt J0 (Tt K0 (Tt D1 M0)))) (Aw G1 M0) h
 intro t3 H0 h
 try dsimp only at h
 refine AT rfl h (fun c1 h=>?_) (fun c1 h=>?_)
 refine Av<|Ae rfl<|Ae rfl<|Ae rfl<|bk h fun Z0 H2 h=>?_
 obtain ⟨W1,I2⟩:=idx_in H2
 obtain ⟨p3,z3,M1,Z1,p1,p2,d2⟩:=Br G0 I2
 have P1:p1 = [vI Z0]:=p2; subst P1
 refine Ab (Bq 1 (b0.toNat) rfl M1 rfl W1 Z1)<|AP rfl (d2 0 _ rfl)<|bk h fun V2 y2 h=>Ab (BJ (i:=V0) (j:=Z0) rfl rfl y2)<|Af rfl<|Aa<|H0 V2 c0 (By _ _) h
 refine Au<|H0 V0 c0 (By _ _) h
 refine AE (Ai rfl)<|AE (Ai rfl) ?_
 have v0:=AS h1_0 c0
 have F3:a1.length <= 281474976710656:=AY v0
 refine AE (Be (xs:=a1) Tryz.underlying45 rfl v0)<|AE (BS (i:=b0) (j:=((a1.length:Nat):Int)) rfl rfl)<|Bv rfl rfl<|Ae rfl<|BD (s:=18) rfl h (fun z0 h=>?_) (fun z0 h=>?_)
 refine Ap<|Ap<|Bh rfl rfl<|Aa<|Bk rfl<|Au<|Aj<|AA<|Aj<|Ac<|Ae rfl<|Ae rfl<|Ab (Be (xs:=a0) Tryz.underlying45 rfl u0)<|Ab (BS (i:=b0) (j:=((a0.length:Nat):Int)) rfl rfl)<|Aa<|MX.cond_kf rfl (decide_eq_false x0)<|Au<|Aj<|Ac<|Ae rfl<|Ae rfl<|Ab (Be (xs:=a1) Tryz.underlying45 rfl v0)<|Ab (BS (i:=b0) (j:=((a1.length:Nat):Int)) rfl rfl)<|Aa<|MX.cond_kt rfl (decide_eq_true z0)<|Av<|Ae rfl<|Ae rfl<|Ae rfl<|bk h fun b1 J2 h=>?_
 obtain ⟨X1,K2⟩:=idx_in J2
 obtain ⟨q3,A3,Q1,b2,q1,q2,g2⟩:=Br v0 K2
 have R1:q1 = [vI b1]:=q2; subst R1
 refine Ab (Bq 1 (b0.toNat) rfl Q1 rfl X1 b2)<|AP rfl (g2 0 _ rfl)<|bk h fun W0 z2 h=>Ab (BJ (i:=g0) (j:=b1) rfl rfl z2)<|Af rfl<|Aa<|Ac<|Ae rfl<|Ae rfl<|bk h fun q0 A2 h=>Ab (FV.remc (i:=W0) (j:=4294967296) rfl rfl A2)<|Ak .plain rfl (AK (α:=Int) (xs:=([q0]:List Int)) (vs:=[vI q0]) (ds' :=[vI q0]) rfl c0 el45 rfl (e1 rfl) (by kernel_rfl) rfl) fun J3 v3 C0 P0=>bk h fun g3 P2 h=>RG.doesL .plain rfl (AZ (α:=Int) (ys:=([q0]:List Int)) P2 C0 (fun _ _=>.t1) el45 rfl rfl (Aw y0 P0) (Src.row (α:=Int) C0 .hd (AB (cs:=[vI q0]) (xs:=(([q0]:List Int):List Int)) C0 L (Ar (cs:=[vI q0]) (ds:=[]) rfl (AJ _ _))))) fun b3 K3 ⟨s1,z1,E1,H1⟩=>Af rfl<|Aa<|Av<|Ae rfl<|bk h fun W2 B2 h=>Ab (FV.quoc (i:=W0) (j:=4294967296) rfl rfl B2)<|Af rfl<|Aa<|AC<|Av<|Ae rfl<|Ab (FV.addI (i:=b0) (j:=1) rfl rfl (by omega))<|Af rfl<|Aa ?_
 obtain ⟨A1,Q0⟩:=AG z1 .d1
 exact A0 (W2,b0 + 1,g3,b3,s1) A1 (Tt F0 (Tt P0 (Tt E1 Q0))) (Aw H1 Q0) h
 refine AE (Ai rfl)<|AE (FV.gtr (i:=g0) (j:=0) rfl rfl)<|Bv rfl rfl<|Aa<|AT rfl h (fun g1 h=>?_) (fun g1 h=>?_)
 refine Au<|Aj<|AA<|Aj<|Ac<|Ae rfl<|Ae rfl<|Ab (Be (xs:=a0) Tryz.underlying45 rfl u0)<|Ab (BS (i:=b0) (j:=((a0.length:Nat):Int)) rfl rfl)<|Aa<|MX.cond_kf rfl (decide_eq_false x0)<|Au<|Aj<|Ac<|Ae rfl<|Ae rfl<|Ab (Be (xs:=a1) Tryz.underlying45 rfl v0)<|Ab (BS (i:=b0) (j:=((a1.length:Nat):Int)) rfl rfl)<|Aa<|MX.cond_kf rfl (decide_eq_false z0)<|Au<|Ac<|Ae rfl<|Ae rfl<|bk h fun s0 C2 h=>Ab (FV.remc (i:=g0) (j:=4294967296) rfl rfl C2)<|Ak .plain rfl (AK (α:=Int) (xs:=([s0]:List Int)) (vs:=[vI s0]) (ds' :=[vI s0]) rfl c0 el45 rfl (e1 rfl) (by kernel_rfl) rfl) fun M3 x3 D0 R0=>bk h fun j3 Q2 h=>RG.doesL .plain rfl (AZ (α:=Int) (ys:=([s0]:List Int)) Q2 D0 (fun _ _=>.t1) el45 rfl rfl (Aw y0 R0) (Src.row (α:=Int) D0 .hd (AB (cs:=[vI s0]) (xs:=(([s0]:List Int):List Int)) D0 L (Ar (cs:=[vI s0]) (ds:=[]) rfl (AJ _ _))))) fun c3 P3 ⟨u1,B1,F1,I1⟩=>Af rfl<|Aa<|Av<|Ae rfl<|bk h fun X2 D2 h=>Ab (FV.quoc (i:=g0) (j:=4294967296) rfl rfl D2)<|Af rfl<|Aa<|AC<|Av<|Ae rfl<|bk h fun Y2 E2 h=>Ab (BJ (i:=b0) (j:=1) rfl rfl E2)<|Af rfl<|Aa ?_
 obtain ⟨C1,U0⟩:=AG B1 .d1
 exact A0 (X2,Y2,j3,c3,u1) C1 (Tt F0 (Tt R0 (Tt F1 U0))) (Aw I1 U0) h
 refine Bd rfl ?_
 have h:=U1 _ h
 try dsimp only at h
 refine Ac<|Ae rfl<|Af rfl<|Aa<|Al rfl ?_
 have E0:=Bz c0 .hd
 have C3:=BA c0 .hd
 have s2:=BB (α:=Int) (v:=d0) (xs:=j0) E0 L (Bj (α:=Int) c0 .hd y0 hL)
 refine AW hb0 Tryz.func168 rfl rfl ?_
 cases h
 exact ⟨E0.ag,fun w9 hw9=>⟨d0,rfl,E0.kd s2 hw9⟩⟩
def bn_p (n:Nat) (a0:Tc) (a1:Tc):Option Tc:=
  (if (a0.fc == a1.fc) = true then (bC_p n a0.fD a1.fD).bind fun b0=>(aa_p n a0.fc b0).bind fun c0=>some c0 else (aI_p n a0.fD a1.fD).bind fun d0=>(if 0 <= d0 then (am_p n a0.fD a1.fD).bind fun g0=>(aa_p n a0.fc g0).bind fun j0=>some j0 else (am_p n a1.fD a0.fD).bind fun k0=>(aa_p n a1.fc k0).bind fun p0=>some p0))
theorem bn_c (n:Nat) {L w} (hL:hl L w) (a0:Tc) {v0_1:Value} (h0_1:Rep.R w L [v0_1] a0.fD) (a1:Tc) {v1_1:Value} (h1_1:Rep.R w L [v1_1] a1.fD)  {r:Tc} (h:bn_p n a0 a1 = some r) :
 Cl 139 #[.agg #[.bool a0.fc,v0_1],.agg #[.bool a1.fc,v1_1]] w (Gives w fun w' u=>∃ v0_1:Value,u = .agg #[.bool r.fc,v0_1]/\Rep.R w' L [v0_1] r.fD):=by
 unfold bn_p at h
 refine AD Tryz.func139 rfl rfl rfl fun _ cs0 hb0=>Ac<|RG.bx (Az w) rfl rfl fun b2 A1 M0 D1=>RG.bx M0 rfl rfl fun c2 B1 P0 E1=>RG.nl [.bool false,vN] P0 fun d2 C1 b0 F1=>Aa<|Aj<|Ac<|AR 0 rfl<|AP rfl ((b0.memA .t2) 0 _ rfl)<|AR 0 rfl<|AP rfl ((b0.memA .t1) 0 _ rfl)<|Ab (FV.eqlB (a:=a0.fc) (b:=a1.fc) Tryz.underlying4 rfl rfl)<|Aa<|MX.ifb rfl h (fun J0 h=>?_) (fun J0 h=>?_)
 refine Aj<|du 8 fun c0 j0=>Rv 0 c0 rfl j0 (fun _=>Bb 0 rfl)<|Rx 1 384 c0 rfl j0 (AL rfl ((b0.memA .t2) 0 _ rfl))<|Rv 2 c0 rfl j0 (fun _=>Bb 1 rfl)<|Rx 3 448 c0 rfl j0 (AL rfl ((b0.memA .t2) 1 _ rfl))<|Rv 4 c0 rfl j0 (fun _=>Bb 1 rfl)<|Rx 5 448 c0 rfl j0 (AL rfl ((b0.memA .t1) 1 _ rfl))<|bk h fun y2 q1 h=>Bn 6 127 c0 rfl .plain (bd 168) rfl (e2 rfl rfl) (fun w9 hw9=>bC_c n (b0.hL hL hw9) (b0.km h0_1 hw9) (b0.km h1_1 hw9) q1) rfl fun g2 U1 Y0 ⟨P1,hu_,j1⟩=>?_
 subst hu_
 obtain ⟨z0,G1⟩:=b0.agr Y0
 refine bk h fun F0 s1 h=>Bn 7 255 c0 rfl .plain (bd 161) rfl (e2 rfl rfl) (fun w9 hw9=>aa_c n (z0.hL hL hw9) (Aq j1 hw9) s1) rfl fun j2 V1 Z0 ⟨v0,hu_,C0⟩=>?_
 subst hu_
 obtain ⟨Q0,H1⟩:=z0.agr Z0
 refine BE 8 511 c0 rfl rfl .plain (AF (news:=[.bool F0.fc,v0]) Q0 .hd rfl rfl rfl rfl rfl rfl (o2 rfl (AO C0))) fun k2 s0 V0=>AN (dk c0)<|Al rfl<|Am hb0 Tryz.func139 rfl (.cons (.many (cs:=[.bool F0.fc,v0]) (by kernel_rfl) rfl (s0.memA .hd)) .nil) rfl ?_
 cases h
 exact ⟨s0.ag,fun w9 hw9=>⟨v0,rfl,s0.kd (Ao C0 V0) hw9⟩⟩
 refine Au<|Aj<|Ac<|AR 1 rfl<|AP rfl ((b0.memA .t2) 1 _ rfl)<|AR 1 rfl<|AP rfl ((b0.memA .t1) 1 _ rfl)<|bk h fun G0 u1 h=>Ba (vI G0) (bd 166) rfl (e2 rfl rfl) (fun w9 hw9=>aI_c n (b0.hL0 hL hw9) (b0.k0 h0_1 hw9) (b0.k0 h1_1 hw9) u1) rfl<|Ab (FV.geq (i:=G0) (j:=0) rfl rfl)<|Aa<|AT rfl h (fun K0 h=>?_) (fun K0 h=>?_)
 refine Aj<|du 8 fun d0 p0=>Rv 0 d0 rfl p0 (fun _=>Bb 0 rfl)<|Rx 1 384 d0 rfl p0 (AL rfl ((b0.memA .t2) 0 _ rfl))<|Rv 2 d0 rfl p0 (fun _=>Bb 1 rfl)<|Rx 3 448 d0 rfl p0 (AL rfl ((b0.memA .t2) 1 _ rfl))<|Rv 4 d0 rfl p0 (fun _=>Bb 1 rfl)<|Rx 5 448 d0 rfl p0 (AL rfl ((b0.memA .t1) 1 _ rfl))<|bk h fun z2 v1 h=>Bn 6 127 d0 rfl .plain (bd 162) rfl (e2 rfl rfl) (fun w9 hw9=>am_c n (b0.hL hL hw9) (b0.km h0_1 hw9) (b0.km h1_1 hw9) v1) rfl fun p2 W1 b1 ⟨Q1,hu_,k1⟩=>?_
 subst hu_
 obtain ⟨A0,I1⟩:=b0.agr b1
 refine bk h fun H0 x1 h=>Bn 7 255 d0 rfl .plain (bd 161) rfl (e2 rfl rfl) (fun w9 hw9=>aa_c n (A0.hL hL hw9) (Aq k1 hw9) x1) rfl fun q2 X1 c1 ⟨x0,hu_,D0⟩=>?_
 subst hu_
 obtain ⟨R0,J1⟩:=A0.agr c1
 refine BE 8 511 d0 rfl rfl .plain (AF (news:=[.bool H0.fc,x0]) R0 .hd rfl rfl rfl rfl rfl rfl (o2 rfl (AO D0))) fun s2 t0 W0=>AN (dk d0)<|Al rfl<|Am hb0 Tryz.func139 rfl (.cons (.many (cs:=[.bool H0.fc,x0]) (by kernel_rfl) rfl (t0.memA .hd)) .nil) rfl ?_
 cases h
 exact ⟨t0.ag,fun w9 hw9=>⟨x0,rfl,t0.kd (Ao D0 W0) hw9⟩⟩
 refine Au<|Aj<|du 8 fun g0 q0=>Rv 0 g0 rfl q0 (fun _=>Bb 0 rfl)<|Rx 1 384 g0 rfl q0 (AL rfl ((b0.memA .t1) 0 _ rfl))<|Rv 2 g0 rfl q0 (fun _=>Bb 1 rfl)<|Rx 3 448 g0 rfl q0 (AL rfl ((b0.memA .t1) 1 _ rfl))<|Rv 4 g0 rfl q0 (fun _=>Bb 1 rfl)<|Rx 5 448 g0 rfl q0 (AL rfl ((b0.memA .t2) 1 _ rfl))<|bk h fun A2 y1 h=>Bn 6 127 g0 rfl .plain (bd 162) rfl (e2 rfl rfl) (fun w9 hw9=>am_c n (b0.hL hL hw9) (b0.km h1_1 hw9) (b0.km h0_1 hw9) y1) rfl fun u2 Y1 d1 ⟨R1,hu_,p1⟩=>?_
 subst hu_
 obtain ⟨B0,K1⟩:=b0.agr d1
 refine bk h fun I0 z1 h=>Bn 7 255 g0 rfl .plain (bd 161) rfl (e2 rfl rfl) (fun w9 hw9=>aa_c n (B0.hL hL hw9) (Aq p1 hw9) z1) rfl fun v2 Z1 g1 ⟨y0,hu_,E0⟩=>?_
 subst hu_
 obtain ⟨U0,M1⟩:=B0.agr g1
 refine BE 8 511 g0 rfl rfl .plain (AF (news:=[.bool I0.fc,y0]) U0 .hd rfl rfl rfl rfl rfl rfl (o2 rfl (AO E0))) fun x2 u0 X0=>AN (dk g0)<|Al rfl<|Am hb0 Tryz.func139 rfl (.cons (.many (cs:=[.bool I0.fc,y0]) (by kernel_rfl) rfl (u0.memA .hd)) .nil) rfl ?_
 cases h
 exact ⟨u0.ag,fun w9 hw9=>⟨y0,rfl,u0.kd (Ao E0 X0) hw9⟩⟩
def az_p (n:Nat) (a0:Int):Option Tc:=
  jn (fun u16=>(aa_p n (decide (a0 < 0)) ([i64of (u16 % (4294967296:UInt64)),i64of (u16 / (4294967296:UInt64))]:List Int)).bind fun c0=>some c0) (fun b0=>(if a0 < 0 then b0 (-(u64of a0)) else b0 (u64of a0)))
theorem az_c (n:Nat) {L w} (hL:hl L w) {a0:Int}  {r:Tc} (h:az_p n a0 = some r) :
 Cl 152 #[vI a0] w (Gives w fun w' u=>∃ v0_1:Value,u = .agg #[.bool r.fc,v0_1]/\Rep.R w' L [v0_1] r.fD):=by
 unfold az_p at h
 refine AD Tryz.func152 rfl rfl rfl fun _ cs0 hb0=>Ac<|RG.nl [.bool false,vN] (Az w) fun I0 k0 c0 C0=>Aa<|Ac<|Ae rfl<|Ab (BS (i:=a0) (j:=0) rfl rfl)<|Af rfl<|Aa<|Ac<|Ae rfl<|Ab (FV.convU (i:=a0) Tryz.underlying3 Tryz.underlying33 rfl)<|Af rfl<|Aa<|Aj<|Ac<|Ae rfl<|Aa<|MX.jo (α:=UInt64) (fun u16=>[(2,vP k0),(3,.bool (decide (a0 < 0))),(4,vU u16)]) (fun u16=>[.cells k0 [.bool false,vN] 134]) (fun u16=>u16) c0 h ?_ ?_
 rintro u16 P0 v0 D0 h
 try dsimp only at h
 refine Ac<|Ae rfl<|Ae rfl<|Ab (FV.remU (a:=u16) (b:=(4294967296:UInt64)) rfl rfl (by decide))<|Ab (FV.convUI (a:=u16 % (4294967296:UInt64)) Tryz.underlying33 Tryz.underlying3 rfl)<|Ae rfl<|Ab (FV.quoU (a:=u16) (b:=(4294967296:UInt64)) rfl rfl (by decide))<|Ab (FV.convUI (a:=u16 / (4294967296:UInt64)) Tryz.underlying33 Tryz.underlying3 rfl)<|Ak .plain rfl (AK (α:=Int) (xs:=([i64of (u16 % (4294967296:UInt64)),i64of (u16 / (4294967296:UInt64))]:List Int)) (vs:=[vI (i64of (u16 % (4294967296:UInt64))),vI (i64of (u16 / (4294967296:UInt64)))]) (ds' :=[vI (i64of (u16 % (4294967296:UInt64))),vI (i64of (u16 / (4294967296:UInt64)))]) rfl v0 el45 rfl (e2 rfl rfl) (by kernel_rfl) rfl) fun J0 t0 b0 E0=>?_
 have d0:=Bz b0 .hd
 have F0:=BA b0 .hd
 refine bk h fun s0 A0 h=>AX (fst:=[]) (cap:=[]) .plain (bd 161) rfl (e2 rfl rfl) (fun w9 hw9=>aa_c n (d0.hL hL hw9) (Aq (BB (α:=Int) (v:=(vS t0 2)) (xs:=([i64of (u16 % (4294967296:UInt64)),i64of (u16 / (4294967296:UInt64))]:List Int)) d0 L (Bj (α:=Int) b0 .hd (AB (cs:=[vI (i64of (u16 % (4294967296:UInt64))),vI (i64of (u16 / (4294967296:UInt64)))]) (xs:=(([i64of (u16 % (4294967296:UInt64)),i64of (u16 / (4294967296:UInt64))]:List Int):List Int)) b0 L (Ar (cs:=[vI (i64of (u16 % (4294967296:UInt64)))]) (ds:=[vI (i64of (u16 / (4294967296:UInt64)))]) rfl (Ar (cs:=[vI (i64of (u16 / (4294967296:UInt64)))]) (ds:=[]) rfl (AJ _ _)))) hL)) hw9) A0) rfl fun K0 H0 z0 ⟨j0,hu_,q0⟩=>?_
 subst hu_
 obtain ⟨x0,G0⟩:=d0.agr z0
 refine AQ [.bool s0.fc,j0] x0 .hd (o2 rfl (AO q0)) fun M0 g0 y0=>Aa<|Al rfl<|Am hb0 Tryz.func152 rfl (.cons (.many (cs:=[.bool s0.fc,j0]) (by kernel_rfl) rfl (g0.memA .hd)) .nil) rfl ?_
 cases h
 exact ⟨g0.ag,fun w9 hw9=>⟨j0,rfl,g0.kd (Ao q0 y0) hw9⟩⟩
 intro B0 p0 h
 try dsimp only at h
 refine AT rfl h (fun u0 h=>?_) (fun u0 h=>?_)
 refine Av<|Ae rfl<|Ab (FV.negU (a:=u64of a0) rfl)<|Af rfl<|Aa<|p0 (-(u64of a0)) c0 (By _ _) h
 refine Au<|p0 (u64of a0) c0 (By _ _) h
def bS_p (n:Nat) (a0:Tc) (a1:Tc):Option Tc:=
  (bm_p n a1).bind fun b0=>(bn_p n a0 b0).bind fun c0=>some c0
theorem bS_c (n:Nat) {L w} (hL:hl L w) (a0:Tc) {v0_1:Value} (h0_1:Rep.R w L [v0_1] a0.fD) (a1:Tc) {v1_1:Value} (h1_1:Rep.R w L [v1_1] a1.fD)  {r:Tc} (h:bS_p n a0 a1 = some r) :
 Cl 165 #[.agg #[.bool a0.fc,v0_1],.agg #[.bool a1.fc,v1_1]] w (Gives w fun w' u=>∃ v0_1:Value,u = .agg #[.bool r.fc,v0_1]/\Rep.R w' L [v0_1] r.fD):=by
 unfold bS_p at h
 refine AD Tryz.func165 rfl rfl rfl fun _ cs0 hb0=>Ac<|RG.bx (Az w) rfl rfl fun R0 D0 s0 G0=>RG.bx s0 rfl rfl fun U0 E0 t0 H0=>RG.nl [.bool false,vN] t0 fun V0 F0 c0 I0=>Aa<|Aj<|du 4 fun b0 p0=>Rx 0 24 b0 rfl p0 (AH rfl (c0.memA .t2))<|Rx 1 28 b0 rfl p0 (AH rfl (c0.memA .t1))<|bk h fun C0 A0 h=>Bn 2 7 b0 rfl .plain (bd 136) rfl (e1 rfl) (fun w9 hw9=>bm_c n (c0.hL hL hw9) a1 (c0.km h1_1 hw9) A0) rfl fun W0 P0 x0 ⟨M0,hu_,z0⟩=>?_
 subst hu_
 obtain ⟨d0,J0⟩:=c0.agr x0
 refine bk h fun q0 B0 h=>Bn 3 15 b0 rfl .plain (bd 139) rfl (e2 rfl rfl) (fun w9 hw9=>bn_c n (d0.hL hL hw9) a0 (d0.km h0_1 hw9) C0 (Aq z0 hw9) B0) rfl fun X0 Q0 y0 ⟨j0,hu_,k0⟩=>?_
 subst hu_
 obtain ⟨u0,K0⟩:=d0.agr y0
 refine BE 4 31 b0 rfl rfl .plain (AF (news:=[.bool q0.fc,j0]) u0 .hd rfl rfl rfl rfl rfl rfl (o2 rfl (AO k0))) fun Y0 g0 v0=>AN (dk b0)<|Al rfl<|Am hb0 Tryz.func165 rfl (.cons (.many (cs:=[.bool q0.fc,j0]) (by kernel_rfl) rfl (g0.memA .hd)) .nil) rfl ?_
 cases h
 exact ⟨g0.ag,fun w9 hw9=>⟨j0,rfl,g0.kd (Ao k0 v0) hw9⟩⟩
end Go.Proofs.YtgejkdheojkfiaaGreatDoor
/- Functions of the program, and what they give: part 8. -/
namespace Go.Proofs.YtgejkdheojkfiaaGreatDoor
open Go Go.RowKit
set_option maxRecDepth 4000
set_option maxHeartbeats 4000000

def aN_p (n:Nat) (a0:Tc) (a1:Tc):Option (Tc × Tc):=
  (ax_p n a0.fD a1.fD).bind fun g0=>(aa_p n (!(a0.fc == a1.fc)) g0.1).bind fun b0=>(aa_p n a0.fc g0.2).bind fun c0=>(if c0.fc = true then (bn_p n c0 (⟨false,a1.fD⟩:Tc)).bind fun d0=>(if a1.fc = true then (az_p n (1:Int)).bind fun j0=>(bn_p n b0 j0).bind fun k0=>some (k0,d0) else (az_p n (1:Int)).bind fun p0=>(bS_p n b0 p0).bind fun q0=>some (q0,d0)) else some (b0,c0))
theorem aN_c (n:Nat) {L w} (hL:hl L w) (a0:Tc) {v0_1:Value} (h0_1:Rep.R w L [v0_1] a0.fD) (a1:Tc) {v1_1:Value} (h1_1:Rep.R w L [v1_1] a1.fD)  {r:Tc × Tc} (h:aN_p n a0 a1 = some r) :
 Cl 167 #[.agg #[.bool a0.fc,v0_1],.agg #[.bool a1.fc,v1_1]] w (Gives w fun w' u=>∃ v0_1 v1_1:Value,u = .tuple #[.agg #[.bool r.1.fc,v0_1],.agg #[.bool r.2.fc,v1_1]]/\Rep.R w' L [v0_1] r.1.fD/\Rep.R w' L [v1_1] r.2.fD):=by
 unfold aN_p at h
 refine AD Tryz.func167 rfl rfl rfl fun _ cs0 hb0=>Ac<|RG.bx (Az w) rfl rfl fun k6 H5 Q3 J5=>RG.bx Q3 rfl rfl fun p6 c2 R3 K5=>RG.nl [.bool false,vN] R3 fun z6 G0 Y3 P5=>RG.nl [.bool false,vN] Y3 fun A6 H0 z1 Q5=>Aa<|Ac<|AR 1 rfl<|AP rfl ((z1.memA .t3) 1 _ rfl)<|AR 1 rfl<|AP rfl ((z1.memA .t2) 1 _ rfl)<|bk h fun P6 v5 h=>AX (fst:=[]) (cap:=[]) .plain (bd 164) rfl (e2 rfl rfl) (fun w9 hw9=>ax_c n (z1.hL hL hw9) (z1.km h0_1 hw9) (z1.km h1_1 hw9) v5) rfl fun B6 g6 b5 ⟨W5,X5,hu_,R1,B0⟩=>?_
 subst hu_
 obtain ⟨Z0,R5⟩:=z1.agr b5
 refine Ae rfl<|Ab (Ag rfl rfl)<|Ab (Ag rfl rfl)<|Af rfl<|Af rfl<|Aa<|Aj<|du 13 fun b0 V0=>Rv 0 b0 rfl V0 (fun _=>Bb 0 rfl)<|Rx 1 25680 b0 rfl V0 (AL rfl ((Z0.memA .t3) 0 _ rfl))<|Rv 2 b0 rfl V0 (fun _=>Bb 0 rfl)<|Rx 3 25680 b0 rfl V0 (AL rfl ((Z0.memA .t2) 0 _ rfl))<|Rv 4 b0 rfl V0 (fun _=>FV.neqB (a:=a0.fc) (b:=a1.fc) Tryz.underlying4 rfl rfl)<|Rv 5 b0 rfl V0 (fun _=>Ai rfl)<|Rv 7 b0 rfl V0 (fun _=>Bb 0 rfl)<|Rx 8 25600 b0 rfl V0 (AL rfl ((Z0.memA .t3) 0 _ rfl))<|Rv 9 b0 rfl V0 (fun _=>Ai rfl)<|bk h fun Y0 U1 h=>bk h fun y1 D0 h=>RD.mf (α:=Value × Value × Nat × Nat) (fun ⟨E0,M0,k1,p1⟩=>[(3,vP c2),(4,vP G0),(5,vP H0),(24,.agg #[.bool Y0.fc,E0]),(28,.agg #[.bool y1.fc,M0]),(8,vP p1),(9,vP k1)]) (fun ⟨E0,M0,k1,p1⟩=>[.cells k1 [.bool false,vN] 134,.cells p1 [.bool false,vN] 134,.cells H0 [.bool false,vN] 134,.cells G0 [.bool false,vN] 134,.cells c2 [.bool a1.fc,v1_1] 134]) (fun ⟨E0,M0,k1,p1⟩ J2=>Rep.R J2 (bl [.cells k1 [.bool false,vN] 134,.cells p1 [.bool false,vN] 134,.cells H0 [.bool false,vN] 134,.cells G0 [.bool false,vN] 134,.cells c2 [.bool a1.fc,v1_1] 134] ++ L) [E0] Y0.fD/\Rep.R J2 (bl [.cells k1 [.bool false,vN] 134,.cells p1 [.bool false,vN] 134,.cells H0 [.bool false,vN] 134,.cells G0 [.bool false,vN] 134,.cells c2 [.bool a1.fc,v1_1] 134] ++ L) [M0] y1.fD) Z0 2 8191 ?_ ?_
 rintro ⟨E0,M0,k1,p1⟩ J2 U3 M5 ⟨C1,s2⟩
 try dsimp only
 refine BE 13 16383 b0 rfl rfl .plain (AF (news:=[.bool Y0.fc,E0]) U3 .t1 rfl rfl rfl rfl rfl rfl (o2 rfl (AO C1))) fun q6 V3 s1=>BE 14 32767 b0 rfl rfl .plain (AF (news:=[.bool y1.fc,M0]) V3 .hd rfl rfl rfl rfl rfl rfl (o2 rfl (AO (Ao s2 s1)))) fun s6 x0 A1=>AN (dk b0)<|Aj<|Ac<|AR 0 rfl<|AP rfl ((x0.memA .hd) 0 _ rfl)<|Aa<|MX.ifb rfl h (fun M3 h=>?_) (fun M3 h=>?_)
 refine Ac<|Ab (AH rfl (x0.memA .hd))<|AR 1 rfl<|AP rfl ((x0.memA .t4) 1 _ rfl) ?_
 obtain ⟨G5,I5,q5,_⟩:=BV (AS h1_1 x0)
 refine Ab (AU (vs:=[v1_1]) (u:=.agg #[.bool false,v1_1]) (e1 rfl) (fun w9=>by rw [q5]; try kernel_rfl))<|bk h fun x1 s5 h=>AX (fst:=[]) (cap:=[]) .plain (bd 139) rfl (e2 rfl rfl) (fun w9 hw9=>bn_c n (x0.hL hL hw9) y1 (Aq (Ao s2 (Tt s1 A1)) hw9) (⟨false,a1.fD⟩:Tc) (x0.km h1_1 hw9) s5) rfl fun t6 Y5 V4 ⟨W0,hu_,Q1⟩=>?_
 subst hu_
 obtain ⟨W3,U2⟩:=x0.agr V4
 refine AQ [.bool x1.fc,W0] W3 .hd (o2 rfl (AO Q1)) fun u6 q1 B1=>Aa<|Ac<|AR 0 rfl<|AP rfl ((q1.memA .t4) 0 _ rfl)<|Aa<|MX.ifb rfl h (fun P3 h=>?_) (fun P3 h=>?_)
 refine du 3 fun V1 z5=>Rx 0 12 V1 rfl z5 (AH rfl (q1.memA .t1))<|bk h fun E5 t5 h=>Bn 1 3 V1 rfl .plain (bd 152) rfl (e1 rfl) (fun w9 hw9=>az_c n (q1.hL hL hw9)  t5) rfl fun v6 Z5 W4 ⟨U5,hu_,k5⟩=>?_
 subst hu_
 obtain ⟨Q2,z2⟩:=q1.agr W4
 refine bk h fun Z1 u5 h=>Bn 2 7 V1 rfl .plain (bd 139) rfl (e2 rfl rfl) (fun w9 hw9=>bn_c n (Q2.hL hL hw9) Y0 (Aq (Ao C1 (Tt s1 (Tt A1 (Tt U2 (Tt B1 z2))))) hw9) E5 (Aq k5 hw9) u5) rfl fun x6 b6 X4 ⟨E1,hu_,u2⟩=>?_
 subst hu_
 obtain ⟨X3,V2⟩:=Q2.agr X4
 refine BE 3 15 V1 rfl rfl .plain (AF (news:=[.bool Z1.fc,E1]) X3 .t1 rfl rfl rfl rfl rfl rfl (o2 rfl (AO u2))) fun y6 H1 p2=>AN (dk V1)<|Aj<|du 2 fun b1 I3=>Rx 0 12 b1 rfl I3 (AH rfl (H1.memA .t1))<|RD.mo (α:=Unit) (fun ()=>[(4,vP G0),(5,vP H0),(45,.agg #[.bool x1.fc,W0])]) (fun ()=>[.cells H0 [.bool false,vN] 134,.cells G0 [.bool Z1.fc,E1] 134]) H1 1 7 ?_ ?_
 rintro ⟨⟩ J6 Z3 W2
 try dsimp only
 refine BE 3 15 b1 rfl rfl .plain (AF (news:=[.bool x1.fc,W0]) Z3 .hd rfl rfl rfl rfl rfl rfl (o2 rfl (AO (Ao Q1 (Tt B1 (Tt z2 (Tt V2 (Tt p2 W2)))))))) fun C6 I1 H4=>AN (dk b1)<|Al rfl<|Am hb0 Tryz.func167 rfl (.cons (.many (cs:=[.bool Z1.fc,E1]) (by kernel_rfl) rfl (I1.memA .t1)) (.cons (.many (cs:=[.bool x1.fc,W0]) (by kernel_rfl) rfl (I1.memA .hd)) .nil)) rfl ?_
 cases h
 have v3:=Tt p2 (Tt W2 H4)
 exact ⟨I1.ag,fun w9 hw9=>⟨E1,W0,rfl,I1.kd (Ao u2 v3) hw9,I1.kd (Ao Q1 (Tt B1 (Tt z2 (Tt V2 v3)))) hw9⟩⟩
 intro K2
 refine Bm [1,2] (rk b1) ⟨?_,?_,trivial⟩
 refine Bs (m' :=3) (sk b1) rfl .plain rfl (AH rfl (H1.memA .hd)) ?_
 have d5:=Ao u2 p2
 refine BE 2 7 b1 rfl rfl .plain (AF (news:=[.bool Z1.fc,E1]) H1 .t3 rfl rfl rfl rfl rfl rfl (o2 rfl (AO d5))) fun B5 d2 A2=>?_
 obtain ⟨b4,I4⟩:=AG d2 (.a2 (.a2 .done))
 exact K2 () b4 (Tt A2 I4)
 refine RO.now (m' :=5) (sk b1) rfl rfl .plain (AF (news:=[.bool Z1.fc,E1]) H1 .t3 rfl rfl rfl rfl rfl rfl (o2 rfl (AO (Ao u2 p2)))) fun B5 d2 A2=>Rx 1 8 b1 rfl I3 (AH rfl (d2.memA .hd)) ?_
 obtain ⟨c4,J4⟩:=AG d2 (.a2 (.a2 .done))
 exact K2 () c4 (Tt A2 J4)
 refine du 3 fun W1 A5=>Rx 0 12 W1 rfl A5 (AH rfl (q1.memA .t1))<|bk h fun F5 x5 h=>Bn 1 3 W1 rfl .plain (bd 152) rfl (e1 rfl) (fun w9 hw9=>az_c n (q1.hL hL hw9)  x5) rfl fun D6 c6 Y4 ⟨V5,hu_,p5⟩=>?_
 subst hu_
 obtain ⟨R2,B2⟩:=q1.agr Y4
 refine bk h fun b2 y5 h=>Bn 2 7 W1 rfl .plain (bd 165) rfl (e2 rfl rfl) (fun w9 hw9=>bS_c n (R2.hL hL hw9) Y0 (Aq (Ao C1 (Tt s1 (Tt A1 (Tt U2 (Tt B1 B2))))) hw9) F5 (Aq p5 hw9) y5) rfl fun E6 d6 Z4 ⟨F1,hu_,v2⟩=>?_
 subst hu_
 obtain ⟨d4,X2⟩:=R2.agr Z4
 refine BE 3 15 W1 rfl rfl .plain (AF (news:=[.bool b2.fc,F1]) d4 .t1 rfl rfl rfl rfl rfl rfl (o2 rfl (AO v2))) fun F6 J1 q2=>AN (dk W1)<|Aj<|du 2 fun c1 J3=>Rx 0 12 c1 rfl J3 (AH rfl (J1.memA .t1))<|RD.mo (α:=Unit) (fun ()=>[(4,vP G0),(5,vP H0),(45,.agg #[.bool x1.fc,W0])]) (fun ()=>[.cells H0 [.bool false,vN] 134,.cells G0 [.bool b2.fc,F1] 134]) J1 1 7 ?_ ?_
 rintro ⟨⟩ K6 g4 Y2
 try dsimp only
 refine BE 3 15 c1 rfl rfl .plain (AF (news:=[.bool x1.fc,W0]) g4 .hd rfl rfl rfl rfl rfl rfl (o2 rfl (AO (Ao Q1 (Tt B1 (Tt B2 (Tt X2 (Tt q2 Y2)))))))) fun H6 K1 K4=>AN (dk c1)<|Al rfl<|Am hb0 Tryz.func167 rfl (.cons (.many (cs:=[.bool b2.fc,F1]) (by kernel_rfl) rfl (K1.memA .t1)) (.cons (.many (cs:=[.bool x1.fc,W0]) (by kernel_rfl) rfl (K1.memA .hd)) .nil)) rfl ?_
 cases h
 have x3:=Tt q2 (Tt Y2 K4)
 exact ⟨K1.ag,fun w9 hw9=>⟨F1,W0,rfl,K1.kd (Ao v2 x3) hw9,K1.kd (Ao Q1 (Tt B1 (Tt B2 (Tt X2 x3)))) hw9⟩⟩
 intro M2
 refine Bm [1,2] (rk c1) ⟨?_,?_,trivial⟩
 refine Bs (m' :=3) (sk c1) rfl .plain rfl (AH rfl (J1.memA .hd)) ?_
 have g5:=Ao v2 q2
 refine BE 2 7 c1 rfl rfl .plain (AF (news:=[.bool b2.fc,F1]) J1 .t3 rfl rfl rfl rfl rfl rfl (o2 rfl (AO g5))) fun C5 j2 C2=>?_
 obtain ⟨j4,M4⟩:=AG j2 (.a2 (.a2 .done))
 exact M2 () j4 (Tt C2 M4)
 refine RO.now (m' :=5) (sk c1) rfl rfl .plain (AF (news:=[.bool b2.fc,F1]) J1 .t3 rfl rfl rfl rfl rfl rfl (o2 rfl (AO (Ao v2 q2)))) fun C5 j2 C2=>Rx 1 8 c1 rfl J3 (AH rfl (j2.memA .hd)) ?_
 obtain ⟨k4,P4⟩:=AG j2 (.a2 (.a2 .done))
 exact M2 () k4 (Tt C2 P4)
 refine Au<|Aj<|du 2 fun d1 K3=>Rx 0 12 d1 rfl K3 (AH rfl (x0.memA .t1))<|RD.mo (α:=Unit) (fun ()=>[(4,vP G0),(5,vP H0),(45,.agg #[.bool y1.fc,M0])]) (fun ()=>[.cells H0 [.bool false,vN] 134,.cells G0 [.bool Y0.fc,E0] 134]) x0 1 7 ?_ ?_
 rintro ⟨⟩ M6 p4 Q4
 try dsimp only
 have G2:=Tt s1 (Tt A1 Q4)
 refine BE 3 15 d1 rfl rfl .plain (AF (news:=[.bool y1.fc,M0]) p4 .hd rfl rfl rfl rfl rfl rfl (o2 rfl (AO (Ao s2 G2)))) fun I6 M1 Z2=>AN (dk d1)<|Al rfl<|Am hb0 Tryz.func167 rfl (.cons (.many (cs:=[.bool Y0.fc,E0]) (by kernel_rfl) rfl (M1.memA .t1)) (.cons (.many (cs:=[.bool y1.fc,M0]) (by kernel_rfl) rfl (M1.memA .hd)) .nil)) rfl ?_
 cases h
 exact ⟨M1.ag,fun w9 hw9=>⟨E0,M0,rfl,M1.kd (Ao C1 (Tt G2 Z2)) hw9,M1.kd (Ao s2 (Tt G2 Z2)) hw9⟩⟩
 intro P2
 refine Bm [1,2] (rk d1) ⟨?_,?_,trivial⟩
 refine Bs (m' :=3) (sk d1) rfl .plain rfl (AH rfl (x0.memA .hd)) ?_
 have j5:=Ao C1 (Tt s1 A1)
 refine BE 2 7 d1 rfl rfl .plain (AF (news:=[.bool Y0.fc,E0]) x0 .t3 rfl rfl rfl rfl rfl rfl (o2 rfl (AO j5))) fun D5 k2 D2=>?_
 obtain ⟨q4,R4⟩:=AG k2 (.a2 (.a2 .done))
 exact P2 () q4 (Tt D2 R4)
 refine RO.now (m' :=5) (sk d1) rfl rfl .plain (AF (news:=[.bool Y0.fc,E0]) x0 .t3 rfl rfl rfl rfl rfl rfl (o2 rfl (AO (Ao C1 (Tt s1 A1))))) fun D5 k2 D2=>Rx 1 8 d1 rfl K3 (AH rfl (k2.memA .hd)) ?_
 obtain ⟨s4,U4⟩:=AG k2 (.a2 (.a2 .done))
 exact P2 () s4 (Tt D2 U4)
 intro v0
 refine Bm [6,11,12] (rk b0) ⟨?_,?_,?_,trivial⟩
 refine RO.call (m' :=1023) (fst:=[]) (cap:=[]) (sk b0) rfl .plain (bd 161) rfl (e2 rfl rfl) (fun w9 hw9=>aa_c n (Z0.hL hL hw9) (Aq R1 hw9) U1) rfl fun G6 j6 c5 ⟨G1,hu_,D1⟩=>?_
 subst hu_
 obtain ⟨g2,z0⟩:=Z0.agr c5
 refine Bm [10,11,12] (rk b0) ⟨?_,?_,?_,trivial⟩
 have v1:=Ao B0 z0
 refine RO.call (m' :=2047) (fst:=[]) (cap:=[]) (sk b0) rfl .plain (bd 161) rfl (e2 rfl rfl) (fun w9 hw9=>aa_c n (g2.hL hL hw9) (Aq v1 hw9) D0) rfl fun y2 x2 Q0 ⟨P0,hu_,K0⟩=>?_
 subst hu_
 obtain ⟨I0,J0⟩:=g2.agr Q0
 refine Bm [11,12] (rk b0) ⟨?_,?_,trivial⟩
 refine BC (m' :=4095) (sk b0) rfl .plain rfl (Ay [.bool false,vN] I0) fun j1 p0 j0 d0=>BN 12 8191 b0 rfl .plain rfl (Ay [.bool false,vN] j0) fun g1 k0 g0 c0=>?_
 obtain ⟨u4,b3⟩:=AG g0 (.a0 (.a0 (.a0 (.a0 (.a0 .done)))))
 have y3:=Tt J0 (Tt d0 (Tt c0 b3))
 exact v0 (G1,P0,k0,p0) u4 (Tt z0 y3) ⟨(Ao D1 y3),(Ao K0 (Tt d0 (Tt c0 b3)))⟩
 refine BC (m' :=6143) (sk b0) rfl .plain rfl (Ay [.bool false,vN] I0) fun g1 k0 g0 c0=>BN 11 8191 b0 rfl .plain rfl (Ay [.bool false,vN] g0) fun j1 p0 j0 d0=>?_
 obtain ⟨v4,c3⟩:=AG j0 (.a1 (.a0 (.a0 (.a0 (.a0 .done)))))
 have z3:=Tt J0 (Tt c0 (Tt d0 c3))
 exact v0 (G1,P0,k0,p0) v4 (Tt z0 z3) ⟨(Ao D1 z3),(Ao K0 (Tt c0 (Tt d0 c3)))⟩
 refine BC (m' :=3071) (sk b0) rfl .plain rfl (Ay [.bool false,vN] g2) fun j1 p0 j0 d0=>Bm [10,12] (rk b0) ⟨?_,?_,trivial⟩
 have v1:=Ao B0 (Tt z0 d0)
 refine RO.call (m' :=4095) (fst:=[]) (cap:=[]) (sk b0) rfl .plain (bd 161) rfl (e2 rfl rfl) (fun w9 hw9=>aa_c n (j0.hL hL hw9) (Aq v1 hw9) D0) rfl fun y2 x2 Q0 ⟨P0,hu_,K0⟩=>?_
 subst hu_
 obtain ⟨I0,J0⟩:=j0.agr Q0
 refine BN 12 8191 b0 rfl .plain rfl (Ay [.bool false,vN] I0) fun g1 k0 g0 c0=>?_
 obtain ⟨x4,d3⟩:=AG g0 (.a0 (.a0 (.a0 (.a0 (.a0 .done)))))
 have A3:=Tt d0 (Tt J0 (Tt c0 d3))
 exact v0 (G1,P0,k0,p0) x4 (Tt z0 A3) ⟨(Ao D1 A3),(Ao K0 (Tt c0 d3))⟩
 refine BC (m' :=7167) (sk b0) rfl .plain rfl (Ay [.bool false,vN] j0) fun g1 k0 g0 c0=>?_
 have u0:=Tt z0 (Tt d0 c0)
 have R0:=Ao B0 u0
 refine Bn 10 8191 b0 rfl .plain (bd 161) rfl (e2 rfl rfl) (fun w9 hw9=>aa_c n (g0.hL hL hw9) (Aq R0 hw9) D0) rfl fun Y1 X1 A0 ⟨F0,hu_,C0⟩=>?_
 subst hu_
 obtain ⟨y0,t0⟩:=g0.agr A0
 obtain ⟨y4,g3⟩:=AG y0 (.a0 (.a0 (.a0 (.a0 (.a0 .done)))))
 have B3:=Tt d0 (Tt c0 (Tt t0 g3))
 exact v0 (G1,F0,k0,p0) y4 (Tt z0 B3) ⟨(Ao D1 B3),(Ao C0 g3)⟩
 refine BC (m' :=5119) (sk b0) rfl .plain rfl (Ay [.bool false,vN] g2) fun g1 k0 g0 c0=>Bm [10,11] (rk b0) ⟨?_,?_,trivial⟩
 have v1:=Ao B0 (Tt z0 c0)
 refine RO.call (m' :=6143) (fst:=[]) (cap:=[]) (sk b0) rfl .plain (bd 161) rfl (e2 rfl rfl) (fun w9 hw9=>aa_c n (g0.hL hL hw9) (Aq v1 hw9) D0) rfl fun y2 x2 Q0 ⟨P0,hu_,K0⟩=>?_
 subst hu_
 obtain ⟨I0,J0⟩:=g0.agr Q0
 refine BN 11 8191 b0 rfl .plain rfl (Ay [.bool false,vN] I0) fun j1 p0 j0 d0=>?_
 obtain ⟨z4,j3⟩:=AG j0 (.a1 (.a0 (.a0 (.a0 (.a0 .done)))))
 have C3:=Tt c0 (Tt J0 (Tt d0 j3))
 exact v0 (G1,P0,k0,p0) z4 (Tt z0 C3) ⟨(Ao D1 C3),(Ao K0 (Tt d0 j3))⟩
 refine BC (m' :=7167) (sk b0) rfl .plain rfl (Ay [.bool false,vN] g0) fun j1 p0 j0 d0=>?_
 have u0:=Tt z0 (Tt c0 d0)
 have R0:=Ao B0 u0
 refine Bn 10 8191 b0 rfl .plain (bd 161) rfl (e2 rfl rfl) (fun w9 hw9=>aa_c n (j0.hL hL hw9) (Aq R0 hw9) D0) rfl fun Y1 X1 A0 ⟨F0,hu_,C0⟩=>?_
 subst hu_
 obtain ⟨y0,t0⟩:=j0.agr A0
 obtain ⟨A4,k3⟩:=AG y0 (.a1 (.a0 (.a0 (.a0 (.a0 .done)))))
 have D3:=Tt c0 (Tt d0 (Tt t0 k3))
 exact v0 (G1,F0,k0,p0) A4 (Tt z0 D3) ⟨(Ao D1 D3),(Ao C0 k3)⟩
 refine BC (m' :=3007) (sk b0) rfl .plain rfl (Ay [.bool false,vN] Z0) fun j1 p0 j0 d0=>Bm [6,12] (rk b0) ⟨?_,?_,trivial⟩
 have P1:=Ao R1 d0
 refine RO.call (m' :=3071) (fst:=[]) (cap:=[]) (sk b0) rfl .plain (bd 161) rfl (e2 rfl rfl) (fun w9 hw9=>aa_c n (j0.hL hL hw9) (Aq P1 hw9) U1) rfl fun I2 H2 u1 ⟨X0,hu_,U0⟩=>?_
 subst hu_
 obtain ⟨q0,s0⟩:=j0.agr u1
 refine Bm [10,12] (rk b0) ⟨?_,?_,trivial⟩
 have v1:=Ao B0 (Tt d0 s0)
 refine RO.call (m' :=4095) (fst:=[]) (cap:=[]) (sk b0) rfl .plain (bd 161) rfl (e2 rfl rfl) (fun w9 hw9=>aa_c n (q0.hL hL hw9) (Aq v1 hw9) D0) rfl fun y2 x2 Q0 ⟨P0,hu_,K0⟩=>?_
 subst hu_
 obtain ⟨I0,J0⟩:=q0.agr Q0
 refine BN 12 8191 b0 rfl .plain rfl (Ay [.bool false,vN] I0) fun g1 k0 g0 c0=>?_
 obtain ⟨B4,p3⟩:=AG g0 (.a0 (.a0 (.a0 (.a0 (.a0 .done)))))
 have E3:=Tt J0 (Tt c0 p3)
 exact v0 (X0,P0,k0,p0) B4 (Tt d0 (Tt s0 E3)) ⟨(Ao U0 E3),(Ao K0 (Tt c0 p3))⟩
 refine BC (m' :=7167) (sk b0) rfl .plain rfl (Ay [.bool false,vN] q0) fun g1 k0 g0 c0=>?_
 have u0:=Tt d0 (Tt s0 c0)
 have R0:=Ao B0 u0
 refine Bn 10 8191 b0 rfl .plain (bd 161) rfl (e2 rfl rfl) (fun w9 hw9=>aa_c n (g0.hL hL hw9) (Aq R0 hw9) D0) rfl fun Y1 X1 A0 ⟨F0,hu_,C0⟩=>?_
 subst hu_
 obtain ⟨y0,t0⟩:=g0.agr A0
 obtain ⟨C4,q3⟩:=AG y0 (.a0 (.a0 (.a0 (.a0 (.a0 .done)))))
 have F3:=Tt c0 (Tt t0 q3)
 exact v0 (X0,F0,k0,p0) C4 (Tt d0 (Tt s0 F3)) ⟨(Ao U0 F3),(Ao C0 q3)⟩
 refine BC (m' :=7103) (sk b0) rfl .plain rfl (Ay [.bool false,vN] j0) fun g1 k0 g0 c0=>?_
 have P1:=Ao R1 (Tt d0 c0)
 refine Bn 6 7167 b0 rfl .plain (bd 161) rfl (e2 rfl rfl) (fun w9 hw9=>aa_c n (g0.hL hL hw9) (Aq P1 hw9) U1) rfl fun I2 H2 u1 ⟨X0,hu_,U0⟩=>?_
 subst hu_
 obtain ⟨q0,s0⟩:=g0.agr u1
 have u0:=Tt d0 (Tt c0 s0)
 have R0:=Ao B0 u0
 refine Bn 10 8191 b0 rfl .plain (bd 161) rfl (e2 rfl rfl) (fun w9 hw9=>aa_c n (q0.hL hL hw9) (Aq R0 hw9) D0) rfl fun Y1 X1 A0 ⟨F0,hu_,C0⟩=>?_
 subst hu_
 obtain ⟨y0,t0⟩:=q0.agr A0
 obtain ⟨D4,E2⟩:=AG y0 (.a0 (.a0 (.a0 (.a0 (.a0 .done)))))
 exact v0 (X0,F0,k0,p0) D4 (Tt u0 (Tt t0 E2)) ⟨(Ao U0 (Tt t0 E2)),(Ao C0 E2)⟩
 refine BC (m' :=5055) (sk b0) rfl .plain rfl (Ay [.bool false,vN] Z0) fun g1 k0 g0 c0=>Bm [6,11] (rk b0) ⟨?_,?_,trivial⟩
 have P1:=Ao R1 c0
 refine RO.call (m' :=5119) (fst:=[]) (cap:=[]) (sk b0) rfl .plain (bd 161) rfl (e2 rfl rfl) (fun w9 hw9=>aa_c n (g0.hL hL hw9) (Aq P1 hw9) U1) rfl fun I2 H2 u1 ⟨X0,hu_,U0⟩=>?_
 subst hu_
 obtain ⟨q0,s0⟩:=g0.agr u1
 refine Bm [10,11] (rk b0) ⟨?_,?_,trivial⟩
 refine RO.call (m' :=6143) (fst:=[]) (cap:=[]) (sk b0) rfl .plain (bd 161) rfl (e2 rfl rfl) (fun w9 hw9=>aa_c n (q0.hL hL hw9) (Aq (Ao B0 (Tt c0 s0)) hw9) D0) rfl fun y2 x2 Q0 ⟨P0,hu_,K0⟩=>?_
 subst hu_
 obtain ⟨I0,J0⟩:=q0.agr Q0
 refine BN 11 8191 b0 rfl .plain rfl (Ay [.bool false,vN] I0) fun j1 p0 j0 d0=>?_
 obtain ⟨E4,s3⟩:=AG j0 (.a1 (.a0 (.a0 (.a0 (.a0 .done)))))
 have G3:=Tt J0 (Tt d0 s3)
 exact v0 (X0,P0,k0,p0) E4 (Tt c0 (Tt s0 G3)) ⟨(Ao U0 G3),(Ao K0 (Tt d0 s3))⟩
 refine BC (m' :=7167) (sk b0) rfl .plain rfl (Ay [.bool false,vN] q0) fun j1 p0 j0 d0=>?_
 have u0:=Tt c0 (Tt s0 d0)
 have R0:=Ao B0 u0
 refine Bn 10 8191 b0 rfl .plain (bd 161) rfl (e2 rfl rfl) (fun w9 hw9=>aa_c n (j0.hL hL hw9) (Aq R0 hw9) D0) rfl fun Y1 X1 A0 ⟨F0,hu_,C0⟩=>?_
 subst hu_
 obtain ⟨y0,t0⟩:=j0.agr A0
 obtain ⟨F4,u3⟩:=AG y0 (.a1 (.a0 (.a0 (.a0 (.a0 .done)))))
 have H3:=Tt d0 (Tt t0 u3)
 exact v0 (X0,F0,k0,p0) F4 (Tt c0 (Tt s0 H3)) ⟨(Ao U0 H3),(Ao C0 u3)⟩
 refine BC (m' :=7103) (sk b0) rfl .plain rfl (Ay [.bool false,vN] g0) fun j1 p0 j0 d0=>Bn 6 7167 b0 rfl .plain (bd 161) rfl (e2 rfl rfl) (fun w9 hw9=>aa_c n (j0.hL hL hw9) (Aq (Ao R1 (Tt c0 d0)) hw9) U1) rfl fun I2 H2 u1 ⟨X0,hu_,U0⟩=>?_
 subst hu_
 obtain ⟨q0,s0⟩:=j0.agr u1
 have u0:=Tt c0 (Tt d0 s0)
 refine Bn 10 8191 b0 rfl .plain (bd 161) rfl (e2 rfl rfl) (fun w9 hw9=>aa_c n (q0.hL hL hw9) (Aq (Ao B0 u0) hw9) D0) rfl fun Y1 X1 A0 ⟨F0,hu_,C0⟩=>?_
 subst hu_
 obtain ⟨y0,t0⟩:=q0.agr A0
 obtain ⟨G4,F2⟩:=AG y0 (.a1 (.a0 (.a0 (.a0 (.a0 .done)))))
 exact v0 (X0,F0,k0,p0) G4 (Tt u0 (Tt t0 F2)) ⟨(Ao U0 (Tt t0 F2)),(Ao C0 F2)⟩
def bb_p (n:Nat) (a0:Tc) (a1:Tc):Option Tf:=
  (aL_p n a0 a1).bind fun b0=>jn (fun (d0,g0)=>(aN_p n a0 (⟨d0,g0⟩:Tc)).bind fun k0=>(aN_p n a1 (⟨d0,g0⟩:Tc)).bind fun p0=>some (⟨k0.1,p0.1⟩:Tf)) (fun c0=>(if a1.fc = true then (bm_p n b0).bind fun j0=>c0 (j0.fc,j0.fD) else c0 (b0.fc,b0.fD)))
theorem bb_c (n:Nat) {L w} (hL:hl L w) (a0:Tc) {v0_1:Value} (h0_1:Rep.R w L [v0_1] a0.fD) (a1:Tc) {v1_1:Value} (h1_1:Rep.R w L [v1_1] a1.fD)  {r:Tf} (h:bb_p n a0 a1 = some r) :
 Cl 138 #[.agg #[.bool a0.fc,v0_1],.agg #[.bool a1.fc,v1_1]] w (Gives w fun w' u=>∃ v0_1 v0_3:Value,u = .agg #[.bool r.fN.fc,v0_1,.bool r.fD.fc,v0_3]/\Rep.R w' L [v0_1] r.fN.fD/\Rep.R w' L [v0_3] r.fD.fD):=by
 unfold bb_p at h
 refine AD Tryz.func138 rfl rfl rfl fun _ cs0 hb0=>Ac<|RG.bx (Az w) rfl rfl fun M2 y0 z1 B2=>RG.bx z1 rfl rfl fun X2 z0 C1 C2=>RG.nl [.bool false,vN,.bool false,vN] C1 fun Y2 A0 g0 D2=>Aa<|Ac<|Ab (AH rfl (g0.memA .t2))<|Ab (AH rfl (g0.memA .t1))<|bk h fun x0 c2 h=>AX (fst:=[]) (cap:=[]) .plain (bd 130) rfl (e2 rfl rfl) (fun w9 hw9=>aL_c n (g0.hL hL hw9) a0 (g0.km h0_1 hw9) a1 (g0.km h1_1 hw9) c2) rfl fun Z2 H2 R1 ⟨q1,hu_,M0⟩=>?_
 subst hu_
 obtain ⟨D1,E2⟩:=g0.agr R1
 refine RG.nl [.bool false,vN] D1 fun b3 B0 E1 G0=>AQ [.bool x0.fc,q1] E1 .hd (o2 rfl (AO (Ao M0 G0))) fun c3 j0 X0=>Aa<|Aj<|Ac<|AR 0 rfl<|AP rfl ((j0.memA .t2) 0 _ rfl)<|Aa<|MX.jf (α:=Bool × (List Int) × Value) (fun ⟨b0,c0,d0⟩=>[(2,vP y0),(3,vP z0),(4,vP A0),(5,vP B0)]) (fun ⟨b0,c0,d0⟩=>[.cells B0 [.bool b0,d0] 134,.cells A0 [.bool false,vN,.bool false,vN] 136,.cells z0 [.bool a1.fc,v1_1] 134,.cells y0 [.bool a0.fc,v0_1] 134]) (fun ⟨b0,c0,d0⟩ s1=>Rep.R s1 (bl [.cells B0 [.bool b0,d0] 134,.cells A0 [.bool false,vN,.bool false,vN] 136,.cells z0 [.bool a1.fc,v1_1] 134,.cells y0 [.bool a0.fc,v0_1] 134] ++ L) [d0] c0) (fun ⟨b0,c0,d0⟩=>(b0,c0)) j0 h ?_ ?_
 rintro ⟨b0,c0,d0⟩ s1 t0 F2 k1 h
 try dsimp only at h
 refine Ac<|Ab (AH rfl (t0.memA .t3))<|Ab (AH rfl (t0.memA .hd))<|bk h fun q0 d2 h=>AX (fst:=[]) (cap:=[]) .plain (bd 167) rfl (e2 rfl rfl) (fun w9 hw9=>aN_c n (t0.hL hL hw9) a0 (t0.km h0_1 hw9) (⟨b0,c0⟩:Tc) (Aq k1 hw9) d2) rfl fun d3 I2 U1 ⟨p0,k2,hu_,P0,X1⟩=>?_
 subst hu_
 obtain ⟨F1,P1⟩:=t0.agr U1
 refine Ae rfl<|Ab (Ag rfl rfl)<|Ab (Ag rfl rfl)<|RG.nl [.bool false,vN] F1 fun g3 x2 G1 H0=>RG.nl [.bool false,vN] G1 fun j3 y2 H1 I0=>AQ [.bool q0.1.fc,p0] H1 .t1 (o2 rfl (AO (Ao P0 (Tt H0 I0)))) fun k3 I1 Y0=>?_
 have g1:=Tt H0 (Tt I0 Y0)
 refine AQ [.bool q0.2.fc,k2] I1 .hd (o2 rfl (AO (Ao X1 g1))) fun p3 u0 Z0=>Aa<|Ac<|Ab (AH rfl (u0.memA .t4))<|Ab (AH rfl (u0.memA .t2))<|bk h fun s0 g2 h=>AX (fst:=[]) (cap:=[]) .plain (bd 167) rfl (e2 rfl rfl) (fun w9 hw9=>aN_c n (u0.hL hL hw9) a1 (u0.km h1_1 hw9) (⟨b0,c0⟩:Tc) (Aq (Ao k1 (Tt P1 (Tt H0 (Tt I0 (Tt Y0 Z0))))) hw9) g2) rfl fun q3 J2 V1 ⟨k0,j2,hu_,K0,W1⟩=>?_
 subst hu_
 obtain ⟨J1,K1⟩:=u0.agr V1
 refine Ae rfl<|Ab (Ag rfl rfl)<|Ab (Ag rfl rfl)<|RG.nl [.bool false,vN] J1 fun K2 u2 v1 D0=>RG.nl [.bool false,vN] v1 fun P2 v2 x1 E0=>AQ [.bool s0.1.fc,k0] x1 .t1 (o2 rfl (AO (Ao K0 (Tt D0 E0)))) fun Q2 y1 U0=>?_
 have J0:=Tt D0 (Tt E0 U0)
 refine AQ [.bool s0.2.fc,j2] y1 .hd (o2 rfl (AO (Ao W1 J0))) fun R2 C0 F0=>Aa<|Ac<|Ab (AH rfl (C0.memA .t3))<|Ab (AH rfl (C0.memA .t1)) ?_
 have d1:=Tt g1 (Tt Z0 (Tt K1 (Tt D0 (Tt E0 (Tt U0 F0)))))
 have b1:=Ao P0 d1
 obtain ⟨p2,z2,Y1,_⟩:=BV b1
 have c1:=Ao K0 (Tt J0 F0)
 obtain ⟨q2,A2,Z1,_⟩:=BV c1
 refine Ab (AU (vs:=[.agg #[.bool q0.1.fc,p0],.agg #[.bool s0.1.fc,k0]]) (u:=.agg #[.bool q0.1.fc,p0,.bool s0.1.fc,k0]) (e2 rfl rfl) (fun w9=>by rw [Y1,Z1]; try kernel_rfl))<|AQ [.bool q0.1.fc,p0,.bool s0.1.fc,k0] C0 .t5 (o4 rfl (AO b1) rfl (AO c1)) fun U2 v0 V0=>Aa<|Al rfl<|Am hb0 Tryz.func138 rfl (.cons (.many (cs:=[.bool q0.1.fc,p0,.bool s0.1.fc,k0]) (by kernel_rfl) rfl (v0.memA .t5)) .nil) rfl ?_
 cases h
 exact ⟨v0.ag,fun w9 hw9=>⟨p0,k0,rfl,v0.kd (Ao P0 (Tt d1 V0)) hw9,v0.kd (Ao K0 (Tt J0 (Tt F0 V0))) hw9⟩⟩
 intro s2 R0 h
 try dsimp only at h
 refine MX.ifb rfl h (fun u1 h=>?_) (fun u1 h=>?_)
 refine Av<|Ab (AH rfl (j0.memA .hd))<|bk h fun Q0 b2 h=>AX (fst:=[]) (cap:=[]) .plain (bd 136) rfl (e1 rfl) (fun w9 hw9=>bm_c n (j0.hL hL hw9) x0 (Aq (Ao M0 (Tt G0 X0)) hw9) b2) rfl fun V2 G2 Q1 ⟨p1,hu_,j1⟩=>?_
 subst hu_
 obtain ⟨A1,M1⟩:=j0.agr Q1
 refine AQ [.bool Q0.fc,p1] A1 .hd (o2 rfl (AO j1)) fun W2 B1 W0=>Aa<|R0 (Q0.fc,Q0.fD,p1) B1 (Tt M1 W0) (Ao j1 W0) h
 refine Au<|R0 (x0.fc,x0.fD,q1) j0 (By _ _) (Ao M0 (Tt G0 X0)) h
def cO_p (n:Nat) (a0:Int) (a1:Int):Option Tf:=
  (az_p n a0).bind fun b0=>(az_p n a1).bind fun c0=>(bb_p n b0 c0).bind fun d0=>some d0
theorem cO_c (n:Nat) {L w} (hL:hl L w) {a0:Int} {a1:Int}  {r:Tf} (h:cO_p n a0 a1 = some r) :
 Cl 115 #[vI a0,vI a1] w (Gives w fun w' u=>∃ v0_1 v0_3:Value,u = .agg #[.bool r.fN.fc,v0_1,.bool r.fD.fc,v0_3]/\Rep.R w' L [v0_1] r.fN.fD/\Rep.R w' L [v0_3] r.fD.fD):=by
 unfold cO_p at h
 refine AD Tryz.func115 rfl rfl rfl fun _ cs0 hb0=>Ac<|RG.nl [.bool false,vN,.bool false,vN] (Az w) fun V0 H0 j0 I0=>Aa<|Ac<|Ae rfl<|bk h fun F0 C0 h=>AX (fst:=[]) (cap:=[]) .plain (bd 152) rfl (e1 rfl) (fun w9 hw9=>az_c n (j0.hL hL hw9)  C0) rfl fun W0 Q0 x0 ⟨M0,hu_,A0⟩=>?_
 subst hu_
 obtain ⟨k0,J0⟩:=j0.agr x0
 refine Ae rfl<|bk h fun G0 D0 h=>AX (fst:=[]) (cap:=[]) .plain (bd 152) rfl (e1 rfl) (fun w9 hw9=>az_c n (k0.hL hL hw9)  D0) rfl fun X0 R0 y0 ⟨P0,hu_,B0⟩=>?_
 subst hu_
 obtain ⟨p0,v0⟩:=k0.agr y0
 refine bk h fun c0 E0 h=>AX (fst:=[]) (cap:=[]) .plain (bd 138) rfl (e2 rfl rfl) (fun w9 hw9=>bb_c n (p0.hL hL hw9) F0 (Aq (Ao A0 v0) hw9) G0 (Aq B0 hw9) E0) rfl fun Y0 U0 z0 ⟨d0,g0,hu_,s0,t0⟩=>?_
 subst hu_
 obtain ⟨u0,K0⟩:=p0.agr z0
 refine AQ [.bool c0.fN.fc,d0,.bool c0.fD.fc,g0] u0 .hd (o4 rfl (AO s0) rfl (AO t0)) fun Z0 b0 q0=>Aa<|Al rfl<|Am hb0 Tryz.func115 rfl (.cons (.many (cs:=[.bool c0.fN.fc,d0,.bool c0.fD.fc,g0]) (by kernel_rfl) rfl (b0.memA .hd)) .nil) rfl ?_
 cases h
 exact ⟨b0.ag,fun w9 hw9=>⟨d0,g0,rfl,b0.kd (Ao s0 q0) hw9,b0.kd (Ao t0 q0) hw9⟩⟩
def df_p (n:Nat) (a0:Int) (a1:Int):Option (Ta × Int):=
  (if a1 = 0 then some ((⟨((0:UInt64),(0:UInt64),(0:UInt64),(0:UInt64),(0:UInt64),(0:UInt64),(0:UInt64),(0:UInt64)),((0:UInt64),(0:UInt64),(0:UInt64),(0:UInt64),(0:UInt64),(0:UInt64),(0:UInt64),(0:UInt64))⟩:Ta),(7:Int)) else (cO_p n a0 a1).bind fun c0=>(bA_p n c0).bind fun b0=>some (b0.1,b0.2))
theorem df_c (n:Nat) {L w} (hL:hl L w) {a0:Int} {a1:Int}  {r:Ta × Int} (h:df_p n a0 a1 = some r) :
 Cl 77 #[vI a0,vI a1] w (Gives w fun _ u=>u = .tuple #[.agg ((cs_Ta r.1)).toArray,vI r.2]):=by
 unfold df_p at h
 refine AD Tryz.func77 rfl rfl rfl fun _ cs0 hb0=>Ac<|RG.nl zL (Az w) fun F0 x0 d0 y0=>Af rfl<|Aa<|Aj<|Ac<|Ae rfl<|Ab (FV.eql (i:=a1) (j:=0) rfl rfl)<|Aa<|AT rfl h (fun k0 h=>?_) (fun k0 h=>?_)
 refine Ac<|Ab (AU (vs:=[]) (u:=.agg zM) evs_nil (fun w9=>by kernel_rfl))<|AQ zL d0 .hd (onesB rfl) fun G0 g0 z0=>Af rfl<|Aa<|Al rfl<|Am hb0 Tryz.func77 rfl (.cons (.many (cs:=zL) (by kernel_rfl) rfl (g0.memA .hd)) (.cons (.tmp rfl) .nil)) rfl ?_
 cases h
 exact g0.gv
 refine Au<|Ac<|Ae rfl<|Ae rfl<|bk h fun v0 t0 h=>AX (fst:=[]) (cap:=[]) .plain (bd 115) rfl (e2 rfl rfl) (fun w9 hw9=>cO_c n (d0.hL hL hw9)  t0) rfl fun H0 E0 p0 ⟨C0,D0,hu_,q0,s0⟩=>?_
 subst hu_
 obtain ⟨b0,A0⟩:=d0.agr p0
 refine bk h fun c0 u0 h=>Ba (.tuple #[.agg ((cs_Ta c0.1)).toArray,vI c0.2]) (bd 92) rfl (e1 rfl) (fun w9 hw9=>bA_c n (b0.hL0 hL hw9) v0 (b0.kd q0 hw9) (b0.kd s0 hw9) u0) rfl<|Ab (Ag rfl rfl)<|Ab (Ag rfl rfl)<|AQ (cs_Ta c0.1) b0 .hd (onesB rfl) fun I0 j0 B0=>Af rfl<|Aa<|Al rfl<|Am hb0 Tryz.func77 rfl (.cons (.many (cs:=(cs_Ta c0.1)) (by kernel_rfl) rfl (j0.memA .hd)) (.cons (.tmp rfl) .nil)) rfl ?_
 cases h
 exact j0.gv
def aX_p (n:Nat) (a0:Int) (a1:Int):Option Ta:=
  (df_p n a0 a1).bind fun b0=>some b0.1
theorem aX_c (n:Nat) {L w} (hL:hl L w) {a0:Int} {a1:Int}  {r:Ta} (h:aX_p n a0 a1 = some r) :
 Cl 35 #[vI a0,vI a1] w (Gives w fun _ u=>u = .agg ((cs_Ta r)).toArray):=by
 unfold aX_p at h
 refine AD Tryz.func35 rfl rfl rfl fun _ cs0 hb0=>Ac<|RG.nl zL (Az w) fun x0 p0 c0 s0=>Aa<|Ac<|Ae rfl<|Ae rfl<|bk h fun b0 k0 h=>Ba (.tuple #[.agg ((cs_Ta b0.1)).toArray,vI b0.2]) (bd 77) rfl (e2 rfl rfl) (fun w9 hw9=>df_c n (c0.hL0 hL hw9)  k0) rfl<|Ae rfl<|Ab (Ag rfl rfl)<|Ab (Ag rfl rfl)<|RG.nl zL c0 fun y0 q0 j0 t0=>AQ (cs_Ta b0.1) j0 .hd (onesB rfl) fun z0 d0 u0=>Af rfl<|Aa<|Ac<|Ab (AH rfl (d0.memA .hd))<|AQ (cs_Ta b0.1) d0 .t1 (onesB rfl) fun A0 g0 v0=>Aa<|Al rfl<|Am hb0 Tryz.func35 rfl (.cons (.many (cs:=(cs_Ta b0.1)) (by kernel_rfl) rfl (g0.memA .t1)) .nil) rfl ?_
 cases h
 exact g0.gv
structure Tp where
  fN:Int16
  fD:UInt8
  deriving DecidableEq
instance:Rep Tp:=Rep.via (β:=Int16 × UInt8) fun x=>(x.fN,x.fD)
def bY_p (n:Nat) (a0:Tp):Option Ta:=
  jn (fun g0=>(remI g0 ((a0.fD.toNat + 2:Nat):Int)).bind fun c0=>(aX_p n c0 ((1 + a0.fD.toNat:Nat):Int)).bind fun d0=>some d0) (fun b0=>(if a0.fN.toInt < 0 then b0 ((-1) - a0.fN.toInt) else b0 a0.fN.toInt))
theorem bY_c (n:Nat) {L w} (hL:hl L w) (a0:Tp)  {r:Ta} (h:bY_p n a0 = some r) :
 Cl 7 #[.agg #[.int .i16 a0.fN.toInt,.int .u8 (a0.fD.toNat:Int)]] w (Gives w fun _ u=>u = .agg ((cs_Ta r)).toArray):=by
 unfold bY_p at h
 refine AD Tryz.func7 rfl rfl rfl fun _ cs0 hb0=>Ac<|RG.bx (Az w) rfl rfl fun J0 p0 v0 A0=>RG.nl zL v0 fun K0 q0 g0 B0=>Aa<|Ac<|AR 0 rfl<|AP rfl ((g0.memA .t1) 0 _ rfl) ?_
 have E0:=Int16.le_toInt a0.fN
 have F0:=Int16.toInt_lt a0.fN
 refine Ab (FV.convI16 (i:=a0.fN) Tryz.underlying30 Tryz.underlying3 rfl)<|Af rfl<|Aa<|Aj<|Ac<|Ae rfl<|Ab (BS (i:=a0.fN.toInt) (j:=0) rfl rfl)<|Aa<|MX.jo (α:=Int) (fun d0=>[(1,vP p0),(2,vP q0),(3,vI d0)]) (fun d0=>[.cells q0 zL 37,.cells p0 [.int .i16 a0.fN.toInt,.int .u8 (a0.fD.toNat:Int)] 32]) (fun d0=>d0) g0 h ?_ ?_
 rintro d0 P0 j0 C0 h
 try dsimp only at h
 refine Aj<|du 11 fun b0 c0=>Rv 0 b0 rfl c0 (fun _=>Ai rfl)<|Rv 1 b0 rfl c0 (fun _=>Bb 1 rfl)<|Rx 2 3128 b0 rfl c0 (AL rfl ((j0.memA .t1) 1 _ rfl)) ?_
 have G0:=a0.fD.toNat_lt
 refine Rv 3 b0 rfl c0 (fun _=>FV.convN (i:=a0.fD.toNat) Tryz.underlying5 Tryz.underlying3 rfl (by omega))<|Rv 4 b0 rfl c0 (fun _=>Bw (i:=a0.fD.toNat) (j:=2) rfl rfl (by omega))<|bk h fun I0 x0 h=>Rv 5 b0 rfl c0 (fun _=>FV.remc (i:=d0) (j:=((a0.fD.toNat + 2:Nat):Int)) rfl rfl x0)<|Rv 6 b0 rfl c0 (fun _=>Bb 1 rfl)<|Rx 7 3840 b0 rfl c0 (AL rfl ((j0.memA .t1) 1 _ rfl)) ?_
 have H0:=a0.fD.toNat_lt
 refine Rv 8 b0 rfl c0 (fun _=>FV.convN (i:=a0.fD.toNat) Tryz.underlying5 Tryz.underlying3 rfl (by omega))<|Rv 9 b0 rfl c0 (fun _=>Bw (i:=1) (j:=a0.fD.toNat) rfl rfl (by omega))<|bk h fun k0 y0 h=>BO 10 2047 2048 (.agg ((cs_Ta k0)).toArray) b0 rfl c0 (bd 35) rfl (e2 rfl rfl) (fun w9 hw9=>aX_c n (j0.hL0 hL hw9)  y0) rfl<|BE 11 4095 b0 rfl rfl .plain (AF (news:=(cs_Ta k0)) j0 .hd rfl rfl rfl rfl rfl rfl (onesB rfl)) fun M0 t0 D0=>AN (dk b0)<|Al rfl<|Am hb0 Tryz.func7 rfl (.cons (.many (cs:=(cs_Ta k0)) (by kernel_rfl) rfl (t0.memA .hd)) .nil) rfl ?_
 cases h
 exact t0.gv
 intro z0 s0 h
 try dsimp only at h
 refine AT rfl h (fun u0 h=>?_) (fun u0 h=>?_)
 refine Av<|Ae rfl<|Ab (FV.subI (i:=(-1)) (j:=a0.fN.toInt) rfl rfl (by omega))<|Af rfl<|Aa<|s0 ((-1) - a0.fN.toInt) g0 (By _ _) h
 refine Au<|s0 a0.fN.toInt g0 (By _ _) h
def bO_p (n:Nat) (a0:Tp):Option Ta:=
  (aX_p n a0.fN.toInt ((1 + a0.fD.toNat:Nat):Int)).bind fun b0=>some b0
theorem bO_c (n:Nat) {L w} (hL:hl L w) (a0:Tp)  {r:Ta} (h:bO_p n a0 = some r) :
 Cl 8 #[.agg #[.int .i16 a0.fN.toInt,.int .u8 (a0.fD.toNat:Int)]] w (Gives w fun _ u=>u = .agg ((cs_Ta r)).toArray):=by
 unfold bO_p at h
 refine AD Tryz.func8 rfl rfl rfl fun _ cs0 hb0=>Ac<|RG.bx (Az w) rfl rfl fun y0 k0 g0 q0=>RG.nl zL g0 fun z0 p0 b0 s0=>Aa<|Ac<|AR 0 rfl<|AP rfl ((b0.memA .t1) 0 _ rfl) ?_
 have u0:=Int16.le_toInt a0.fN
 have v0:=Int16.toInt_lt a0.fN
 refine Ab (FV.convI16 (i:=a0.fN) Tryz.underlying30 Tryz.underlying3 rfl)<|AR 1 rfl<|AP rfl ((b0.memA .t1) 1 _ rfl) ?_
 have x0:=a0.fD.toNat_lt
 refine Ab (FV.convN (i:=a0.fD.toNat) Tryz.underlying5 Tryz.underlying3 rfl (by omega))<|Ab (Bw (i:=1) (j:=a0.fD.toNat) rfl rfl (by omega))<|bk h fun c0 j0 h=>Ba (.agg ((cs_Ta c0)).toArray) (bd 35) rfl (e2 rfl rfl) (fun w9 hw9=>aX_c n (b0.hL0 hL hw9)  j0) rfl<|AQ (cs_Ta c0) b0 .hd (onesB rfl) fun A0 d0 t0=>Aa<|Al rfl<|Am hb0 Tryz.func8 rfl (.cons (.many (cs:=(cs_Ta c0)) (by kernel_rfl) rfl (d0.memA .hd)) .nil) rfl ?_
 cases h
 exact d0.gv
def bI_l1 (_n:Nat) (a0:ByteArray) (g0:Int -> Option (Bool ⊕ Unit)):Int -> Option (Bool ⊕ Unit)
  | d0=>(if d0 < ((a0.size:Nat):Int) then (sidx a0 d0).bind fun b0=>jn (fun j0=>(if j0 = true then some (.inl false) else (chk (d0 + 1)).bind fun k0=>g0 k0)) (fun c0=>(if 65 <= b0.toNat then (if b0.toNat <= 90 then c0 false else (if 97 <= b0.toNat then (if b0.toNat <= 122 then c0 false else (if 48 <= b0.toNat then (if b0.toNat <= 57 then c0 false else (if b0.toNat = 45 then c0 false else c0 (!(decide (b0.toNat = 95))))) else (if b0.toNat = 45 then c0 false else c0 (!(decide (b0.toNat = 95)))))) else (if 48 <= b0.toNat then (if b0.toNat <= 57 then c0 false else (if b0.toNat = 45 then c0 false else c0 (!(decide (b0.toNat = 95))))) else (if b0.toNat = 45 then c0 false else c0 (!(decide (b0.toNat = 95))))))) else (if 97 <= b0.toNat then (if b0.toNat <= 122 then c0 false else (if 48 <= b0.toNat then (if b0.toNat <= 57 then c0 false else (if b0.toNat = 45 then c0 false else c0 (!(decide (b0.toNat = 95))))) else (if b0.toNat = 45 then c0 false else c0 (!(decide (b0.toNat = 95)))))) else (if 48 <= b0.toNat then (if b0.toNat <= 57 then c0 false else (if b0.toNat = 45 then c0 false else c0 (!(decide (b0.toNat = 95))))) else (if b0.toNat = 45 then c0 false else c0 (!(decide (b0.toNat = 95)))))))) else some (.inr ()))
def bI_p (n:Nat) (a0:ByteArray):Option Bool:=
  thn (loopF (bI_l1 n a0) n 0) (fun _=>(if 1 <= a0.size then some (decide (a0.size <= 12)) else some false))
theorem bI_c (n:Nat) {L w} (_hL:hl L w) {a0:ByteArray}  {r:Bool} (h:bI_p n a0 = some r) :
 Cl 170 #[.string a0] w (Gives w fun _ u=>u = .bool r):=by
 unfold bI_p at h
 refine AD Tryz.func170 rfl rfl rfl fun _ cs0 hb0=>Ac<|Af rfl<|Aa<|Aj<|Ac<|Af rfl<|Aa<|AA<|tn h fun q1 b1 p0=>MX.lo (α:=Int) (fun g0=>[(0,.string a0),(3,vI g0)]) (fun g0=>[]) (fun g0=>g0) 0 b1 (Az w) ?_
 rintro k1 g0 s1 W0 c0 X0 h
 unfold bI_l1 at h
 try dsimp only at h
 refine Aj<|Ac<|Ae rfl<|Ae rfl<|Ab (BI Tryz.underlying9 rfl)<|Ab (BS (i:=g0) (j:=((a0.size:Nat):Int)) rfl rfl)<|Aa<|AT rfl h (fun q0 h=>?_) (fun q0 h=>?_)
 refine Au<|Aj<|AA<|Ac<|Ae rfl<|Ae rfl<|bk h fun b0 g1 h=>?_
 obtain ⟨Z0,d1⟩:=sidx_in g1
 refine Ab (FV.strAt (k:=g0.toNat) Tryz.underlying9 rfl rfl Z0 d1)<|Af rfl<|Aa<|Aj<|MX.jo (α:=Bool) (fun j0=>[(0,.string a0),(3,vI g0),(44,.bool j0)]) (fun j0=>[]) (fun j0=>j0) c0 h ?_ ?_
 rintro j0 u1 k0 Y0 h
 try dsimp only at h
 refine MX.ifb rfl h (fun s0 h=>?_) (fun s0 h=>?_)
 refine Ac<|Af rfl<|Aa ?_
 have h:=thn_inl h p0
 refine Al rfl<|AW hb0 Tryz.func170 rfl rfl ?_
 cases h
 exact k0.gv
 refine Au<|AC<|Av<|Ae rfl<|bk h fun j1 c1 h=>Ab (BJ (i:=g0) (j:=1) rfl rfl c1)<|Af rfl<|Aa<|W0 j1 k0 (Tt X0 Y0) h
 intro p1 d0 h
 try dsimp only at h
 refine Av<|Ae rfl<|Ab (FV.geqN (i:=b0.toNat) (j:=65) rfl rfl)<|Ae rfl<|BD (s:=16) rfl h (fun t0 h=>?_) (fun t0 h=>?_)
 refine AE (Ai rfl)<|AE (FV.leqN (i:=b0.toNat) (j:=90) rfl rfl)<|Bh rfl rfl<|Ae rfl<|BD (s:=20) rfl h (fun u0 h=>?_) (fun u0 h=>?_)
 refine Ap<|Ap<|Ap<|RG.un<|RG.un<|Ap<|Bh rfl rfl<|Ae rfl<|Ap<|Ap<|Ap<|RG.un<|RG.un<|Ap<|Bh rfl rfl<|Ae rfl<|Ap<|Ap<|Bh rfl rfl<|Ae rfl<|Ap<|Ap<|Bh rfl rfl<|Ab (Bp rfl)<|Aa<|d0 false c0 (By _ _) h
 refine AE (Ai rfl)<|AE (FV.geqN (i:=b0.toNat) (j:=97) rfl rfl)<|AE (Ai rfl)<|BD (s:=23) rfl h (fun v0 h=>?_) (fun v0 h=>?_)
 refine AE (Ai rfl)<|AE (FV.leqN (i:=b0.toNat) (j:=122) rfl rfl)<|AE (BM rfl rfl)<|Bv rfl rfl<|Ae rfl<|BD (s:=28) rfl h (fun x0 h=>?_) (fun x0 h=>?_)
 refine Ap<|Ap<|Ap<|RG.un<|RG.un<|Ap<|Bh rfl rfl<|Ae rfl<|Ap<|Ap<|Bh rfl rfl<|Ae rfl<|Ap<|Ap<|Bh rfl rfl<|Ab (Bp rfl)<|Aa<|d0 false c0 (By _ _) h
 refine AE (Ai rfl)<|AE (FV.geqN (i:=b0.toNat) (j:=48) rfl rfl)<|AE (Ai rfl)<|BD (s:=31) rfl h (fun y0 h=>?_) (fun y0 h=>?_)
 refine AE (Ai rfl)<|AE (FV.leqN (i:=b0.toNat) (j:=57) rfl rfl)<|AE (BM rfl rfl)<|Bv rfl rfl<|Ae rfl<|BD (s:=36) rfl h (fun z0 h=>?_) (fun z0 h=>?_)
 refine Ap<|Ap<|Bh rfl rfl<|Ae rfl<|Ap<|Ap<|Bh rfl rfl<|Ab (Bp rfl)<|Aa<|d0 false c0 (By _ _) h
 refine AE (Ai rfl)<|AE (BT (i:=b0.toNat) (j:=45) rfl rfl)<|Bv rfl rfl<|Ae rfl<|BD (s:=40) rfl h (fun A0 h=>?_) (fun A0 h=>?_)
 refine Ap<|Ap<|Bh rfl rfl<|Ab (Bp rfl)<|Aa<|d0 false c0 (By _ _) h
 refine AE (Ai rfl)<|AE (BT (i:=b0.toNat) (j:=95) rfl rfl)<|Bv rfl rfl<|Ab (Bp rfl)<|Aa<|d0 (!(decide (b0.toNat = 95))) c0 (By _ _) h
 refine Ap<|Ap<|AE (Bo rfl rfl)<|Bv rfl rfl<|Ae rfl<|AE (Ai rfl)<|AE (BT (i:=b0.toNat) (j:=45) rfl rfl)<|Bv rfl rfl<|Ae rfl<|BD (s:=40) rfl h (fun B0 h=>?_) (fun B0 h=>?_)
 refine Ap<|Ap<|Bh rfl rfl<|Ab (Bp rfl)<|Aa<|d0 false c0 (By _ _) h
 refine AE (Ai rfl)<|AE (BT (i:=b0.toNat) (j:=95) rfl rfl)<|Bv rfl rfl<|Ab (Bp rfl)<|Aa<|d0 (!(decide (b0.toNat = 95))) c0 (By _ _) h
 refine Ap<|Ap<|AE (Bo rfl rfl)<|Bv rfl rfl<|Ae rfl<|AE (Ai rfl)<|AE (FV.geqN (i:=b0.toNat) (j:=48) rfl rfl)<|AE (Ai rfl)<|BD (s:=31) rfl h (fun C0 h=>?_) (fun C0 h=>?_)
 refine AE (Ai rfl)<|AE (FV.leqN (i:=b0.toNat) (j:=57) rfl rfl)<|AE (BM rfl rfl)<|Bv rfl rfl<|Ae rfl<|BD (s:=36) rfl h (fun D0 h=>?_) (fun D0 h=>?_)
 refine Ap<|Ap<|Bh rfl rfl<|Ae rfl<|Ap<|Ap<|Bh rfl rfl<|Ab (Bp rfl)<|Aa<|d0 false c0 (By _ _) h
 refine AE (Ai rfl)<|AE (BT (i:=b0.toNat) (j:=45) rfl rfl)<|Bv rfl rfl<|Ae rfl<|BD (s:=40) rfl h (fun E0 h=>?_) (fun E0 h=>?_)
 refine Ap<|Ap<|Bh rfl rfl<|Ab (Bp rfl)<|Aa<|d0 false c0 (By _ _) h
 refine AE (Ai rfl)<|AE (BT (i:=b0.toNat) (j:=95) rfl rfl)<|Bv rfl rfl<|Ab (Bp rfl)<|Aa<|d0 (!(decide (b0.toNat = 95))) c0 (By _ _) h
 refine Ap<|Ap<|AE (Bo rfl rfl)<|Bv rfl rfl<|Ae rfl<|AE (Ai rfl)<|AE (BT (i:=b0.toNat) (j:=45) rfl rfl)<|Bv rfl rfl<|Ae rfl<|BD (s:=40) rfl h (fun F0 h=>?_) (fun F0 h=>?_)
 refine Ap<|Ap<|Bh rfl rfl<|Ab (Bp rfl)<|Aa<|d0 false c0 (By _ _) h
 refine AE (Ai rfl)<|AE (BT (i:=b0.toNat) (j:=95) rfl rfl)<|Bv rfl rfl<|Ab (Bp rfl)<|Aa<|d0 (!(decide (b0.toNat = 95))) c0 (By _ _) h
 refine Ap<|Ap<|Bv rfl rfl<|Ae rfl<|AE (Ai rfl)<|AE (FV.geqN (i:=b0.toNat) (j:=97) rfl rfl)<|AE (Ai rfl)<|BD (s:=23) rfl h (fun G0 h=>?_) (fun G0 h=>?_)
 refine AE (Ai rfl)<|AE (FV.leqN (i:=b0.toNat) (j:=122) rfl rfl)<|AE (BM rfl rfl)<|Bv rfl rfl<|Ae rfl<|BD (s:=28) rfl h (fun H0 h=>?_) (fun H0 h=>?_)
 refine Ap<|Ap<|Ap<|RG.un<|RG.un<|Ap<|Bh rfl rfl<|Ae rfl<|Ap<|Ap<|Bh rfl rfl<|Ae rfl<|Ap<|Ap<|Bh rfl rfl<|Ab (Bp rfl)<|Aa<|d0 false c0 (By _ _) h
 refine AE (Ai rfl)<|AE (FV.geqN (i:=b0.toNat) (j:=48) rfl rfl)<|AE (Ai rfl)<|BD (s:=31) rfl h (fun I0 h=>?_) (fun I0 h=>?_)
 refine AE (Ai rfl)<|AE (FV.leqN (i:=b0.toNat) (j:=57) rfl rfl)<|AE (BM rfl rfl)<|Bv rfl rfl<|Ae rfl<|BD (s:=36) rfl h (fun J0 h=>?_) (fun J0 h=>?_)
 refine Ap<|Ap<|Bh rfl rfl<|Ae rfl<|Ap<|Ap<|Bh rfl rfl<|Ab (Bp rfl)<|Aa<|d0 false c0 (By _ _) h
 refine AE (Ai rfl)<|AE (BT (i:=b0.toNat) (j:=45) rfl rfl)<|Bv rfl rfl<|Ae rfl<|BD (s:=40) rfl h (fun K0 h=>?_) (fun K0 h=>?_)
 refine Ap<|Ap<|Bh rfl rfl<|Ab (Bp rfl)<|Aa<|d0 false c0 (By _ _) h
 refine AE (Ai rfl)<|AE (BT (i:=b0.toNat) (j:=95) rfl rfl)<|Bv rfl rfl<|Ab (Bp rfl)<|Aa<|d0 (!(decide (b0.toNat = 95))) c0 (By _ _) h
 refine Ap<|Ap<|AE (Bo rfl rfl)<|Bv rfl rfl<|Ae rfl<|AE (Ai rfl)<|AE (BT (i:=b0.toNat) (j:=45) rfl rfl)<|Bv rfl rfl<|Ae rfl<|BD (s:=40) rfl h (fun M0 h=>?_) (fun M0 h=>?_)
 refine Ap<|Ap<|Bh rfl rfl<|Ab (Bp rfl)<|Aa<|d0 false c0 (By _ _) h
 refine AE (Ai rfl)<|AE (BT (i:=b0.toNat) (j:=95) rfl rfl)<|Bv rfl rfl<|Ab (Bp rfl)<|Aa<|d0 (!(decide (b0.toNat = 95))) c0 (By _ _) h
 refine Ap<|Ap<|AE (Bo rfl rfl)<|Bv rfl rfl<|Ae rfl<|AE (Ai rfl)<|AE (FV.geqN (i:=b0.toNat) (j:=48) rfl rfl)<|AE (Ai rfl)<|BD (s:=31) rfl h (fun P0 h=>?_) (fun P0 h=>?_)
 refine AE (Ai rfl)<|AE (FV.leqN (i:=b0.toNat) (j:=57) rfl rfl)<|AE (BM rfl rfl)<|Bv rfl rfl<|Ae rfl<|BD (s:=36) rfl h (fun Q0 h=>?_) (fun Q0 h=>?_)
 refine Ap<|Ap<|Bh rfl rfl<|Ae rfl<|Ap<|Ap<|Bh rfl rfl<|Ab (Bp rfl)<|Aa<|d0 false c0 (By _ _) h
 refine AE (Ai rfl)<|AE (BT (i:=b0.toNat) (j:=45) rfl rfl)<|Bv rfl rfl<|Ae rfl<|BD (s:=40) rfl h (fun R0 h=>?_) (fun R0 h=>?_)
 refine Ap<|Ap<|Bh rfl rfl<|Ab (Bp rfl)<|Aa<|d0 false c0 (By _ _) h
 refine AE (Ai rfl)<|AE (BT (i:=b0.toNat) (j:=95) rfl rfl)<|Bv rfl rfl<|Ab (Bp rfl)<|Aa<|d0 (!(decide (b0.toNat = 95))) c0 (By _ _) h
 refine Ap<|Ap<|AE (Bo rfl rfl)<|Bv rfl rfl<|Ae rfl<|AE (Ai rfl)<|AE (BT (i:=b0.toNat) (j:=45) rfl rfl)<|Bv rfl rfl<|Ae rfl<|BD (s:=40) rfl h (fun U0 h=>?_) (fun U0 h=>?_)
 refine Ap<|Ap<|Bh rfl rfl<|Ab (Bp rfl)<|Aa<|d0 false c0 (By _ _) h
 refine AE (Ai rfl)<|AE (BT (i:=b0.toNat) (j:=95) rfl rfl)<|Bv rfl rfl<|Ab (Bp rfl)<|Aa<|d0 (!(decide (b0.toNat = 95))) c0 (By _ _) h
 refine Bd rfl ?_
 have h:=thn_inr h p0
 try dsimp only at h
 refine Ac<|Ae rfl<|Ab (BI Tryz.underlying9 rfl)<|Ab (FV.geqN (i:=a0.size) (j:=1) rfl rfl)<|Ae rfl<|BD (s:=48) rfl h (fun V0 h=>?_) (fun V0 h=>?_)
 refine AE (Ai rfl)<|AE (BI Tryz.underlying9 rfl)<|AE (FV.leqN (i:=a0.size) (j:=12) rfl rfl)<|Bh rfl rfl<|Af rfl<|Aa<|Al rfl<|AW hb0 Tryz.func170 rfl rfl ?_
 cases h
 exact c0.gv
 refine Ap<|Ap<|Ap<|Bv rfl rfl<|Af rfl<|Aa<|Al rfl<|AW hb0 Tryz.func170 rfl rfl ?_
 cases h
 exact c0.gv
def aq_l1 (_n:Nat) (a0:List Int) (a2:Int) (d0:Nat -> Option (Bool ⊕ Unit)):Nat -> Option (Bool ⊕ Unit)
  | b0=>(if b0 < a0.length then (a0[b0]?).bind fun c0=>(if c0 < 0 then some (.inl false) else (if a2 < c0 then some (.inl false) else d0 (b0 + 1))) else some (.inr ()))
def aq_p (n:Nat) (a0:List Int) (a1:Int) (a2:Int):Option Bool:=
  thn (loopF (aq_l1 n a0 a2) n 0) (fun _=>some (decide (((a0.length:Nat):Int) = a1)))
theorem aq_c (n:Nat) {L w} (_hL:hl L w) {a0:List Int} {v0_0:Value} (h0_0:Rep.R w L [v0_0] a0) {a1:Int} {a2:Int}  {r:Bool} (h:aq_p n a0 a1 a2 = some r) :
 Cl 171 #[v0_0,vI a1,vI a2] w (Gives w fun _ u=>u = .bool r):=by
 unfold aq_p at h
 refine AD Tryz.func171 rfl rfl rfl fun _ cs0 hb0=>Ac<|Af rfl<|Aa<|Aj<|Ac<|Af rfl<|Aa<|AA<|tn h fun H0 A0 g0=>MX.lo (α:=Nat) (fun b0=>[(0,v0_0),(1,vI a1),(2,vI a2),(7,vI ((b0:Nat):Int))]) (fun b0=>[]) (fun b0=>b0) 0 A0 (Az w) ?_
 rintro E0 b0 I0 x0 c0 y0 h
 unfold aq_l1 at h
 try dsimp only at h
 refine Aj<|Ac<|Ae rfl<|Ae rfl ?_
 have d0:=AS h0_0 c0
 have G0:a0.length <= 281474976710656:=AY d0
 refine Ab (Be (xs:=a0) Tryz.underlying45 rfl d0)<|Ab (Bu (i:=b0) (j:=a0.length) rfl rfl)<|Aa<|AT rfl h (fun s0 h=>?_) (fun s0 h=>?_)
 refine Au<|Aj<|AA<|Ac<|Ae rfl<|Ae rfl<|bk h fun j0 C0 h=>?_
 obtain ⟨D0,F0,k0,p0,v0,B0,q0⟩:=Br d0 C0
 have z0:v0 = [vI j0]:=B0; subst z0
 refine Ab (Bq 1 b0 rfl k0 rfl rfl p0)<|AP rfl (q0 0 _ rfl)<|Ab (BS (i:=j0) (j:=0) rfl rfl)<|Ae rfl<|BD (s:=19) rfl h (fun t0 h=>?_) (fun t0 h=>?_)
 refine Ap<|Ap<|Ap<|Ap<|Ap<|Ap<|Bh rfl rfl<|Aa<|Bk rfl<|Ac<|Af rfl<|Aa ?_
 have h:=thn_inl h g0
 refine Al rfl<|AW hb0 Tryz.func171 rfl rfl ?_
 cases h
 exact c0.gv
 refine AE (Ai rfl)<|AE (Ai rfl)<|AE (Bq 1 b0 rfl k0 rfl rfl p0)<|AE (AL rfl (q0 0 _ rfl))<|AE (Ai rfl)<|AE (FV.gtr (i:=j0) (j:=a2) rfl rfl)<|Bv rfl rfl<|Aa<|AT rfl h (fun u0 h=>?_) (fun u0 h=>?_)
 refine Ac<|Af rfl<|Aa ?_
 have h:=thn_inl h g0
 refine Al rfl<|AW hb0 Tryz.func171 rfl rfl ?_
 cases h
 exact c0.gv
 refine Au<|AC<|Av<|Ae rfl<|Ab (Bw (i:=b0) (j:=1) rfl rfl (by omega))<|Af rfl<|Aa<|x0 (b0 + 1) c0 y0 h
 refine Bd rfl ?_
 have h:=thn_inr h g0
 try dsimp only at h
 refine Ac<|Ae rfl<|Ab (Be (xs:=a0) Tryz.underlying45 rfl d0)<|Ae rfl<|Ab (FV.eql (i:=((a0.length:Nat):Int)) (j:=a1) rfl rfl)<|Af rfl<|Aa<|Al rfl<|AW hb0 Tryz.func171 rfl rfl ?_
 cases h
 exact c0.gv
def cz_p (n:Nat) (a0:Td) (a1:Tb):Option Bool:=
  (bI_p n a1.fx).bind fun b0=>(if b0 = true then (if a1.fv < 0 then some false else (if 1000000000 < a1.fv then some false else (aq_p n a1.fe a0.fe a1.fv).bind fun c0=>(if c0 = true then (aq_p n a1.fF a0.fh (1000000000:Int)).bind fun d0=>(if d0 = true then (aq_p n a1.fC a0.fj (63:Int)).bind fun g0=>(if g0 = true then (if a1.fu = true then (if a1.fv = 0 then (aq_p n a1.fF a0.fh (0:Int)).bind fun j0=>(if j0 = true then (aq_p n a1.fC a0.fj (0:Int)).bind fun k0=>some k0 else some false) else some false) else some true) else some false) else some false) else some false))) else some false)
theorem cz_c (n:Nat) {L w} (hL:hl L w) (a0:Td) {v0_3:Value} (_h0_3:Rep.R w L [v0_3] a0.fo) (a1:Tb) {v1_2:Value} (h1_2:Rep.R w L [v1_2] a1.fe) {v1_3:Value} (h1_3:Rep.R w L [v1_3] a1.fF) {v1_4:Value} (h1_4:Rep.R w L [v1_4] a1.fC)  {r:Bool} (h:cz_p n a0 a1 = some r) :
 Cl 142 #[.agg #[vI a0.fe,vI a0.fh,vI a0.fj,v0_3],.agg #[.string a1.fx,vI a1.fv,v1_2,v1_3,v1_4,.bool a1.fu]] w (Gives w fun _ u=>u = .bool r):=by
 unfold cz_p at h
 refine AD Tryz.func142 rfl rfl rfl fun _ cs0 hb0=>Ac<|RG.bx (Az w) rfl rfl fun Q0 J0 v0 M0=>RG.bx v0 rfl rfl fun R0 K0 b0 P0=>Af rfl<|Aa<|Aj<|Ac<|AR 0 rfl<|AP rfl ((b0.memA .hd) 0 _ rfl)<|bk h fun D0 x0 h=>Ba (.bool D0) (bd 170) rfl (e1 rfl) (fun w9 hw9=>bI_c n (b0.hL0 hL hw9)  x0) rfl<|Ab (Bp rfl)<|Ae rfl<|RG.ifnb (s:=9) rfl h (fun c0 h=>?_) (fun c0 h=>?_)
 refine RG.fg 1 rfl<|AE (AL rfl ((b0.memA .hd) 1 _ rfl))<|AE (BS (i:=a1.fv) (j:=0) rfl rfl)<|Bv rfl rfl<|Ae rfl<|BD (s:=14) rfl h (fun d0 h=>?_) (fun d0 h=>?_)
 refine Ap<|Ap<|Ap<|Bh rfl rfl<|Aa<|Bk rfl<|Ac<|Af rfl<|Aa<|Al rfl<|AW hb0 Tryz.func142 rfl rfl ?_
 cases h
 exact b0.gv
 refine RG.fg 1 rfl<|AE (AL rfl ((b0.memA .hd) 1 _ rfl))<|AE (FV.gtr (i:=a1.fv) (j:=1000000000) rfl rfl)<|Bv rfl rfl<|Aa<|AT rfl h (fun g0 h=>?_) (fun g0 h=>?_)
 refine Ac<|Af rfl<|Aa<|Al rfl<|AW hb0 Tryz.func142 rfl rfl ?_
 cases h
 exact b0.gv
 refine Au<|Aj<|Ac<|AR 2 rfl<|AP rfl ((b0.memA .hd) 2 _ rfl)<|AR 0 rfl<|AP rfl ((b0.memA .t1) 0 _ rfl)<|AR 1 rfl<|AP rfl ((b0.memA .hd) 1 _ rfl)<|bk h fun E0 y0 h=>Ba (.bool E0) (bd 171) rfl (e3 rfl rfl rfl) (fun w9 hw9=>aq_c n (b0.hL0 hL hw9) (b0.k0 h1_2 hw9) y0) rfl<|Ab (Bp rfl)<|Ae rfl<|RG.ifnb (s:=27) rfl h (fun j0 h=>?_) (fun j0 h=>?_)
 refine RG.fg 3 rfl<|AE (AL rfl ((b0.memA .hd) 3 _ rfl))<|RG.fg 1 rfl<|AE (AL rfl ((b0.memA .t1) 1 _ rfl))<|bk h fun F0 z0 h=>RG.callq' (v:=.bool F0) (fst:=[]) (cap:=[]) (.yes rfl rfl) (bd 171) rfl (e3 rfl rfl rfl) (fun w9 hw9=>aq_c n (b0.hL0 hL hw9) (b0.k0 h1_3 hw9) z0) rfl<|AE (Bp rfl)<|Bv rfl rfl<|Ae rfl<|RG.ifnb (s:=35) rfl h (fun p0 h=>?_) (fun p0 h=>?_)
 refine RG.fg 4 rfl<|AE (AL rfl ((b0.memA .hd) 4 _ rfl))<|RG.fg 2 rfl<|AE (AL rfl ((b0.memA .t1) 2 _ rfl))<|bk h fun G0 A0 h=>RG.callq' (v:=.bool G0) (fst:=[]) (cap:=[]) (.yes rfl rfl) (bd 171) rfl (e3 rfl rfl rfl) (fun w9 hw9=>aq_c n (b0.hL0 hL hw9) (b0.k0 h1_4 hw9) A0) rfl<|AE (Bp rfl)<|Bv rfl rfl<|Aa<|BU rfl h (fun q0 h=>?_) (fun q0 h=>?_)
 refine Au<|Aj<|Ac<|AR 5 rfl<|AP rfl ((b0.memA .hd) 5 _ rfl)<|Aa<|MX.ifb rfl h (fun s0 h=>?_) (fun s0 h=>?_)
 refine Ac<|AR 1 rfl<|AP rfl ((b0.memA .hd) 1 _ rfl)<|Ab (FV.eql (i:=a1.fv) (j:=0) rfl rfl)<|Ae rfl<|BD (s:=48) rfl h (fun t0 h=>?_) (fun t0 h=>?_)
 refine RG.fg 3 rfl<|AE (AL rfl ((b0.memA .hd) 3 _ rfl))<|RG.fg 1 rfl<|AE (AL rfl ((b0.memA .t1) 1 _ rfl))<|bk h fun H0 B0 h=>RG.callq' (v:=.bool H0) (fst:=[]) (cap:=[]) (.yes rfl rfl) (bd 171) rfl (e3 rfl rfl rfl) (fun w9 hw9=>aq_c n (b0.hL0 hL hw9) (b0.k0 h1_3 hw9) B0) rfl<|Bh rfl rfl<|Ae rfl<|RG.ifb (s:=55) rfl h (fun u0 h=>?_) (fun u0 h=>?_)
 refine RG.fg 4 rfl<|AE (AL rfl ((b0.memA .hd) 4 _ rfl))<|RG.fg 2 rfl<|AE (AL rfl ((b0.memA .t1) 2 _ rfl))<|bk h fun I0 C0 h=>RG.callq' (v:=.bool I0) (fst:=[]) (cap:=[]) (.yes rfl rfl) (bd 171) rfl (e3 rfl rfl rfl) (fun w9 hw9=>aq_c n (b0.hL0 hL hw9) (b0.k0 h1_4 hw9) C0) rfl<|Bh rfl rfl<|Af rfl<|Aa<|Al rfl<|AW hb0 Tryz.func142 rfl rfl ?_
 cases h
 exact b0.gv
 refine Ap<|Ap<|Ap<|Ap<|Ap<|Bv rfl rfl<|Af rfl<|Aa<|Al rfl<|AW hb0 Tryz.func142 rfl rfl ?_
 cases h
 exact b0.gv
 refine Ap<|Ap<|Ap<|Ap<|Ap<|Bv rfl rfl<|Ae rfl<|Ap<|Ap<|Ap<|Ap<|Ap<|Bv rfl rfl<|Af rfl<|Aa<|Al rfl<|AW hb0 Tryz.func142 rfl rfl ?_
 cases h
 exact b0.gv
 refine Au<|Ac<|Af rfl<|Aa<|Al rfl<|AW hb0 Tryz.func142 rfl rfl ?_
 cases h
 exact b0.gv
 refine Ac<|Af rfl<|Aa<|Al rfl<|AW hb0 Tryz.func142 rfl rfl ?_
 cases h
 exact b0.gv
 refine Ap<|Ap<|Ap<|Ap<|Ap<|Ap<|Bh rfl rfl<|Aa<|Bk rfl<|Ac<|Af rfl<|Aa<|Al rfl<|AW hb0 Tryz.func142 rfl rfl ?_
 cases h
 exact b0.gv
 refine Ap<|Ap<|Ap<|Ap<|Ap<|Ap<|Bh rfl rfl<|Ae rfl<|Ap<|Ap<|Ap<|Ap<|Ap<|Ap<|Bh rfl rfl<|Aa<|Bk rfl<|Ac<|Af rfl<|Aa<|Al rfl<|AW hb0 Tryz.func142 rfl rfl ?_
 cases h
 exact b0.gv
 refine Ap<|Ap<|Ap<|Bh rfl rfl<|Ae rfl<|Ap<|Ap<|Ap<|Bh rfl rfl<|Aa<|Bk rfl<|Ac<|Af rfl<|Aa<|Al rfl<|AW hb0 Tryz.func142 rfl rfl ?_
 cases h
 exact b0.gv
def al_l1 (_n:Nat) (j0:Nat) (a0:Td) (d0:Tb) (c0:Nat -> Option ((Int ⊕ Unit) ⊕ Unit)):Nat -> Option ((Int ⊕ Unit) ⊕ Unit)
  | b0=>(if b0 < j0 then (a0.fo[b0]?).bind fun g0=>(if g0.fx = d0.fx then some (.inl (.inl (161:Int))) else (if g0.fu = true then (if d0.fu = true then c0 (b0 + 1) else some (.inl (.inl (161:Int)))) else c0 (b0 + 1))) else some (.inr ()))
def al_l2 (n:Nat) (a0:Td) (d0:Nat -> Option (Int ⊕ Unit)):Nat -> Option (Int ⊕ Unit)
  | b0=>(if b0 < a0.fo.length then (a0.fo[b0]?).bind fun c0=>(cz_p n a0 c0).bind fun g0=>(if g0 = true then thn (loopF (al_l1 n b0 a0 c0) n 0) (fun _=>d0 (b0 + 1)) else some (.inl (161:Int))) else some (.inr ()))
def al_p (n:Nat) (a0:Td):Option Int:=
  jn (fun c0=>(if c0 = true then some (161:Int) else (if a0.fo.length < 1 then some (161:Int) else (if 64 < a0.fo.length then some (161:Int) else (a0.fo[0]?).bind fun d0=>(if d0.fu = true then some (161:Int) else thn (loopF (al_l2 n a0) n 0) (fun _=>some (0:Int))))))) (fun b0=>(if a0.fe < 0 then b0 true else (if 6 < a0.fe then b0 true else (if a0.fh < 0 then b0 true else (if 12 < a0.fh then b0 true else (if a0.fj < 0 then b0 true else b0 (decide (3 < a0.fj))))))))
theorem al_c (n:Nat) {L w} (hL:hl L w) (a0:Td) {v0_3:Value} (h0_3:Rep.R w L [v0_3] a0.fo)  {r:Int} (h:al_p n a0 = some r) :
 Cl 104 #[.agg #[vI a0.fe,vI a0.fh,vI a0.fj,v0_3]] w (Gives w fun _ u=>u = vI r):=by
 unfold al_p at h
 refine AD Tryz.func104 rfl rfl rfl fun _ cs0 hb0=>Ac<|RG.bx (Az w) rfl rfl fun Z2 v0 d0 t2=>Af rfl<|Aa<|Aj<|Aj<|MX.jo (α:=Bool) (fun y0=>[(1,vP v0),(32,.bool y0)]) (fun y0=>[.cells v0 [vI a0.fe,vI a0.fh,vI a0.fj,v0_3] 44]) (fun y0=>y0) d0 h ?_ ?_
 rintro y0 c3 s0 u2 h
 try dsimp only at h
 refine MX.ifb rfl h (fun V0 h=>?_) (fun V0 h=>?_)
 refine Ac<|Af rfl<|Aa<|Al rfl<|AW hb0 Tryz.func104 rfl rfl ?_
 cases h
 exact s0.gv
 refine Au<|Aj<|Ac<|AR 3 rfl<|AP rfl ((s0.memA .hd) 3 _ rfl) ?_
 have A0:=AS h0_3 s0
 have v2:a0.fo.length <= 281474976710656:=AY A0
 refine Ab (Be (xs:=a0.fo) Tryz.underlying42 rfl A0)<|Ab (Bu (i:=a0.fo.length) (j:=1) rfl rfl)<|Ae rfl<|BD (s:=37) rfl h (fun j1 h=>?_) (fun j1 h=>?_)
 refine Ap<|Ap<|Ap<|Ap<|Bh rfl rfl<|Ae rfl<|Ap<|Ap<|Ap<|Ap<|Ap<|Bh rfl rfl<|Aa<|Bk rfl<|Ac<|Af rfl<|Aa<|Al rfl<|AW hb0 Tryz.func104 rfl rfl ?_
 cases h
 exact s0.gv
 refine RG.fg 3 rfl<|AE (AL rfl ((s0.memA .hd) 3 _ rfl))<|AE (Be (xs:=a0.fo) Tryz.underlying42 rfl A0)<|AE (FV.gtrN (i:=a0.fo.length) (j:=64) rfl rfl)<|Bv rfl rfl<|Ae rfl<|BD (s:=43) rfl h (fun k1 h=>?_) (fun k1 h=>?_)
 refine Ap<|Ap<|Ap<|Ap<|Ap<|Bh rfl rfl<|Aa<|Bk rfl<|Ac<|Af rfl<|Aa<|Al rfl<|AW hb0 Tryz.func104 rfl rfl ?_
 cases h
 exact s0.gv
 refine RG.fg 3 rfl<|AE (AL rfl ((s0.memA .hd) 3 _ rfl))<|bk h fun j3 M1 h=>?_
 obtain ⟨X1,j2,v1,y1,s2,J1,A1⟩:=Br A0 M1
 obtain ⟨W2,X2,Y2,rfl,D2,E2,F2⟩:=op_Tb J1
 refine AE (Bq 6 0 rfl v1 rfl rfl y1)<|RG.fg 5 rfl<|AE (AL rfl (A1 5 _ rfl))<|Bv rfl rfl<|Aa<|MX.ifb rfl h (fun p1 h=>?_) (fun p1 h=>?_)
 refine Ac<|Af rfl<|Aa<|Al rfl<|AW hb0 Tryz.func104 rfl rfl ?_
 cases h
 exact s0.gv
 refine Au<|Aj<|Ac<|Af rfl<|Aa<|AA<|tn h fun G2 B1 z0=>MX.lo (α:=Nat) (fun g0=>[(1,vP v0),(3,vI ((g0:Nat):Int))]) (fun g0=>[.cells v0 [vI a0.fe,vI a0.fh,vI a0.fj,v0_3] 44]) (fun g0=>g0) 0 B1 s0 ?_
 rintro Y1 g0 b3 q1 j0 s1 h
 unfold al_l2 at h
 try dsimp only at h
 refine Aj<|Ac<|Ae rfl<|AR 3 rfl<|AP rfl ((j0.memA .hd) 3 _ rfl) ?_
 have I0:=AS h0_3 j0
 refine Ab (Be (xs:=a0.fo) Tryz.underlying42 rfl I0)<|Ab (Bu (i:=g0) (j:=a0.fo.length) rfl rfl)<|Aa<|AT rfl h (fun Q0 h=>?_) (fun Q0 h=>?_)
 refine Au<|Aj<|AA<|Aj<|Aj<|du 8 fun t0 u0=>Rx 0 192 t0 rfl u0 (AH rfl (j0.memA .hd))<|Rv 1 t0 rfl u0 (fun _=>Bb 3 rfl)<|Rx 2 240 t0 rfl u0 (AL rfl ((j0.memA .hd) 3 _ rfl))<|Rv 3 t0 rfl u0 (fun _=>Ai rfl)<|bk h fun Q1 P0 h=>?_
 obtain ⟨U1,c2,u1,x1,k2,D1,z1⟩:=Br I0 P0
 obtain ⟨I2,J2,K2,rfl,E1,F1,G1⟩:=op_Tb D1
 refine Rv 4 t0 rfl u0 (fun _=>Bq 6 g0 rfl u1 rfl rfl x1)<|Rx 5 192 t0 rfl u0 (AH rfl z1)<|bk h fun R1 P1 h=>BO 6 127 128 (.bool R1) t0 rfl u0 (bd 142) rfl (e2 rfl rfl) (fun w9 hw9=>cz_c n (j0.hL0 hL hw9) a0 (j0.k0 h0_3 hw9) Q1 (j0.kd E1 hw9) (j0.kd F1 hw9) (j0.kd G1 hw9) P1) rfl<|Rv 7 t0 rfl u0 (fun _=>Bp rfl)<|AN (dk t0)<|BU rfl h (fun R0 h=>?_) (fun R0 h=>?_)
 refine Au<|Ac<|Af rfl<|Aa<|AA<|tn h fun H2 C1 C0=>MX.lo (α:=Nat) (fun p0=>[(1,vP v0),(3,vI ((g0:Nat):Int)),(4,vI ((p0:Nat):Int))]) (fun p0=>[.cells v0 [vI a0.fe,vI a0.fh,vI a0.fj,v0_3] 44]) (fun p0=>p0) 0 C1 j0 ?_
 rintro Z1 p0 d3 D0 q0 B0 h
 unfold al_l1 at h
 try dsimp only at h
 refine Aj<|Ac<|Ae rfl<|Ae rfl<|Ab (Bu (i:=p0) (j:=g0) rfl rfl)<|Aa<|AT rfl h (fun U0 h=>?_) (fun U0 h=>?_)
 refine Au<|Aj<|AA<|Aj<|du 30 fun b0 c0=>Rv 0 b0 rfl c0 (fun _=>Bb 3 rfl)<|Rx 1 1073737784 b0 rfl c0 (AL rfl ((q0.memA .hd) 3 _ rfl))<|Rv 2 b0 rfl c0 (fun _=>Ai rfl)<|bk h fun g3 K1 h=>?_
 have K0:=AS h0_3 q0
 obtain ⟨V1,d2,E0,G0,p2,H1,J0⟩:=Br K0 K1
 obtain ⟨M2,P2,Q2,rfl,x2,y2,z2⟩:=op_Tb H1
 refine Rv 3 b0 rfl c0 (fun _=>Bq 6 p0 rfl E0 rfl rfl G0)<|Rv 4 b0 rfl c0 (fun _=>Bb 0 rfl)<|Rx 5 1073737728 b0 rfl c0 (AL rfl (J0 0 _ rfl))<|Rv 6 b0 rfl c0 (fun _=>Bb 3 rfl)<|Rx 7 1073741312 b0 rfl c0 (AL rfl ((q0.memA .hd) 3 _ rfl))<|Rv 8 b0 rfl c0 (fun _=>Ai rfl) ?_
 obtain ⟨W1,g2,F0,H0,q2,I1,M0⟩:=Br K0 P0
 obtain ⟨R2,U2,V2,rfl,A2,B2,C2⟩:=op_Tb I1
 refine Rv 9 b0 rfl c0 (fun _=>Bq 6 g0 rfl F0 rfl rfl H0)<|Rv 10 b0 rfl c0 (fun _=>Bb 0 rfl)<|Rx 11 1073737728 b0 rfl c0 (AL rfl (M0 0 _ rfl))<|Rv 12 b0 rfl c0 (fun _=>FV.eqlS rfl rfl)<|Rv 13 b0 rfl c0 (fun _=>Ai rfl)<|RD.ifd (s:=83) rfl h (fun W0 h=>?_) (fun W0 h=>?_)
 refine BK 536870911 1 [(14,84),(15,85),(16,86),(17,87),(18,88),(19,89),(20,90),(21,91),(22,92),(23,93),(24,94),(25,95),(26,96),(27,97),(28,98)] (F:=[(83,true)]) (U:=[]) b0 c0 (.cons rfl .nil) .nil ?_
 dsimp only [offS,List.map]
 refine Rv 29 b0 rfl c0 (fun _=>BM rfl rfl)<|AN (dk b0)<|Bk rfl<|Ac<|Af rfl<|Aa ?_
 have h:=thn_inl h C0
 have h:=thn_inl h z0
 refine Al rfl<|AW hb0 Tryz.func104 rfl rfl ?_
 cases h
 exact q0.gv
 refine BX 14 32767 b0 rfl c0 (.yes rfl rfl) (fun _=>Bb 3 rfl) rfl<|RD.val (i:=15) (m' :=65535) (W:=1073610752) (tk b0) rfl c0 (.yes rfl rfl) (AL rfl ((q0.memA .hd) 3 _ rfl)) rfl<|BX 16 131071 b0 rfl c0 (.yes rfl rfl) (fun _=>Ai rfl) rfl<|BX 17 262143 b0 rfl c0 (.yes rfl rfl) (fun _=>Bq 6 p0 rfl E0 rfl rfl G0) rfl<|BX 18 524287 b0 rfl c0 (.yes rfl rfl) (fun _=>Bb 5 rfl) rfl<|RD.val (i:=19) (m' :=1048575) (W:=1072693248) (tk b0) rfl c0 (.yes rfl rfl) (AL rfl (J0 5 _ rfl)) rfl<|BX 20 2097151 b0 rfl c0 (.yes rfl rfl) (fun _=>Ai rfl) rfl<|RD.ifb (s:=90) rfl h (fun X0 h=>?_) (fun X0 h=>?_)
 refine BX 21 4194303 b0 rfl c0 (.yes rfl rfl) (fun _=>Bb 3 rfl) rfl<|RD.val (i:=22) (m' :=8388607) (W:=1056964608) (tk b0) rfl c0 (.yes rfl rfl) (AL rfl ((q0.memA .hd) 3 _ rfl)) rfl<|BX 23 16777215 b0 rfl c0 (.yes rfl rfl) (fun _=>Ai rfl) rfl<|BX 24 33554431 b0 rfl c0 (.yes rfl rfl) (fun _=>Bq 6 g0 rfl F0 rfl rfl H0) rfl<|BX 25 67108863 b0 rfl c0 (.yes rfl rfl) (fun _=>Bb 5 rfl) rfl<|RD.val (i:=26) (m' :=134217727) (W:=939524096) (tk b0) rfl c0 (.yes rfl rfl) (AL rfl (M0 5 _ rfl)) rfl<|BX 27 268435455 b0 rfl c0 (.yes rfl rfl) (fun _=>Bp rfl) rfl<|BX 28 536870911 b0 rfl c0 (.yes rfl rfl) (fun _=>BM rfl rfl) rfl<|Rv 29 b0 rfl c0 (fun _=>Bo rfl rfl)<|AN (dk b0)<|BU rfl h (fun Y0 h=>?_) (fun Y0 h=>?_)
 refine Au<|AC<|Av<|Ae rfl<|Ab (Bw (i:=p0) (j:=1) rfl rfl (by omega))<|Af rfl<|Aa<|D0 (p0 + 1) q0 B0 h
 refine Ac<|Af rfl<|Aa ?_
 have h:=thn_inl h C0
 have h:=thn_inl h z0
 refine Al rfl<|AW hb0 Tryz.func104 rfl rfl ?_
 cases h
 exact q0.gv
 refine BK 268435455 2 [(21,91),(22,92),(23,93),(24,94),(25,95),(26,96),(27,97)] (F:=[(90,false)]) (U:=[]) b0 c0 (.cons rfl .nil) .nil ?_
 dsimp only [offS,List.map]
 refine BX 28 536870911 b0 rfl c0 (.yes rfl rfl) (fun _=>Bo rfl rfl) rfl<|Rv 29 b0 rfl c0 (fun _=>Bo rfl rfl)<|AN (dk b0)<|BF rfl<|Au<|AC<|Av<|Ae rfl<|Ab (Bw (i:=p0) (j:=1) rfl rfl (by omega))<|Af rfl<|Aa<|D0 (p0 + 1) q0 B0 h
 refine Bd rfl ?_
 have h:=thn_inr h C0
 try dsimp only at h
 refine AC<|Av<|Ae rfl<|Ab (Bw (i:=g0) (j:=1) rfl rfl (by omega))<|Af rfl<|Aa<|q1 (g0 + 1) q0 (Tt s1 B0) h
 refine Ac<|Af rfl<|Aa ?_
 have h:=thn_inl h z0
 refine Al rfl<|AW hb0 Tryz.func104 rfl rfl ?_
 cases h
 exact j0.gv
 refine Bd rfl ?_
 have h:=thn_inr h z0
 try dsimp only at h
 refine Ac<|Af rfl<|Aa<|Al rfl<|AW hb0 Tryz.func104 rfl rfl ?_
 cases h
 exact j0.gv
 intro b2 x0 h
 try dsimp only at h
 refine Av<|AR 0 rfl<|AP rfl ((d0.memA .hd) 0 _ rfl)<|Ab (BS (i:=a0.fe) (j:=0) rfl rfl)<|Ae rfl<|BD (s:=8) rfl h (fun Z0 h=>?_) (fun Z0 h=>?_)
 refine Ap<|Ap<|Ap<|Bh rfl rfl<|Ae rfl<|Ap<|Ap<|Ap<|Bh rfl rfl<|Ae rfl<|Ap<|Ap<|Ap<|Bh rfl rfl<|Ae rfl<|Ap<|Ap<|Ap<|Bh rfl rfl<|Ae rfl<|Ap<|Ap<|Ap<|Bh rfl rfl<|Aa<|x0 true d0 (By _ _) h
 refine RG.fg 0 rfl<|AE (AL rfl ((d0.memA .hd) 0 _ rfl))<|AE (FV.gtr (i:=a0.fe) (j:=6) rfl rfl)<|Bv rfl rfl<|Ae rfl<|BD (s:=13) rfl h (fun b1 h=>?_) (fun b1 h=>?_)
 refine Ap<|Ap<|Ap<|Bh rfl rfl<|Ae rfl<|Ap<|Ap<|Ap<|Bh rfl rfl<|Ae rfl<|Ap<|Ap<|Ap<|Bh rfl rfl<|Ae rfl<|Ap<|Ap<|Ap<|Bh rfl rfl<|Aa<|x0 true d0 (By _ _) h
 refine RG.fg 1 rfl<|AE (AL rfl ((d0.memA .hd) 1 _ rfl))<|AE (BS (i:=a0.fh) (j:=0) rfl rfl)<|Bv rfl rfl<|Ae rfl<|BD (s:=18) rfl h (fun c1 h=>?_) (fun c1 h=>?_)
 refine Ap<|Ap<|Ap<|Bh rfl rfl<|Ae rfl<|Ap<|Ap<|Ap<|Bh rfl rfl<|Ae rfl<|Ap<|Ap<|Ap<|Bh rfl rfl<|Aa<|x0 true d0 (By _ _) h
 refine RG.fg 1 rfl<|AE (AL rfl ((d0.memA .hd) 1 _ rfl))<|AE (FV.gtr (i:=a0.fh) (j:=12) rfl rfl)<|Bv rfl rfl<|Ae rfl<|BD (s:=23) rfl h (fun d1 h=>?_) (fun d1 h=>?_)
 refine Ap<|Ap<|Ap<|Bh rfl rfl<|Ae rfl<|Ap<|Ap<|Ap<|Bh rfl rfl<|Aa<|x0 true d0 (By _ _) h
 refine RG.fg 2 rfl<|AE (AL rfl ((d0.memA .hd) 2 _ rfl))<|AE (BS (i:=a0.fj) (j:=0) rfl rfl)<|Bv rfl rfl<|Ae rfl<|BD (s:=28) rfl h (fun g1 h=>?_) (fun g1 h=>?_)
 refine Ap<|Ap<|Ap<|Bh rfl rfl<|Aa<|x0 true d0 (By _ _) h
 refine RG.fg 2 rfl<|AE (AL rfl ((d0.memA .hd) 2 _ rfl))<|AE (FV.gtr (i:=a0.fj) (j:=3) rfl rfl)<|Bv rfl rfl<|Aa<|x0 (decide (3 < a0.fj)) d0 (By _ _) h
def bg_p (n:Nat) (a0:Td) (a1:Int):Option Int:=
  (al_p n a0).bind fun b0=>(if b0 = 0 then (if a1 < 1 then some (2:Int) else (if 8 < a1 then some (2:Int) else some (0:Int))) else some b0)
theorem bg_c (n:Nat) {L w} (hL:hl L w) (a0:Td) {v0_3:Value} (h0_3:Rep.R w L [v0_3] a0.fo) {a1:Int}  {r:Int} (h:bg_p n a0 a1 = some r) :
 Cl 55 #[.agg #[vI a0.fe,vI a0.fh,vI a0.fj,v0_3],vI a1] w (Gives w fun _ u=>u = vI r):=by
 unfold bg_p at h
 refine AD Tryz.func55 rfl rfl rfl fun _ cs0 hb0=>Ac<|RG.bx (Az w) rfl rfl fun t0 q0 b0 s0=>Af rfl<|Aa<|Aj<|Ac<|Ab (AH rfl (b0.memA .hd))<|bk h fun c0 p0 h=>Ba (vI c0) (bd 104) rfl (e1 rfl) (fun w9 hw9=>al_c n (b0.hL0 hL hw9) a0 (b0.k0 h0_3 hw9) p0) rfl<|Af rfl<|Aa<|Ac<|Ae rfl<|Ab (BP (i:=c0) (j:=0) rfl rfl)<|Aa<|MX.ifn rfl h (fun d0 h=>?_) (fun d0 h=>?_)
 refine Au<|Aj<|Ac<|Ae rfl<|Ab (BS (i:=a1) (j:=1) rfl rfl)<|Ae rfl<|BD (s:=13) rfl h (fun g0 h=>?_) (fun g0 h=>?_)
 refine Ap<|Ap<|Bh rfl rfl<|Aa<|Bk rfl<|Ac<|Af rfl<|Aa<|Al rfl<|AW hb0 Tryz.func55 rfl rfl ?_
 cases h
 exact b0.gv
 refine AE (Ai rfl)<|AE (FV.gtr (i:=a1) (j:=8) rfl rfl)<|Bv rfl rfl<|Aa<|AT rfl h (fun j0 h=>?_) (fun j0 h=>?_)
 refine Ac<|Af rfl<|Aa<|Al rfl<|AW hb0 Tryz.func55 rfl rfl ?_
 cases h
 exact b0.gv
 refine Au<|Ac<|Af rfl<|Aa<|Al rfl<|AW hb0 Tryz.func55 rfl rfl ?_
 cases h
 exact b0.gv
 refine Ac<|Ae rfl<|Af rfl<|Aa<|Al rfl<|AW hb0 Tryz.func55 rfl rfl ?_
 cases h
 exact b0.gv
def bs_l1 (_n:Nat) (a0:Td) (c0:Nat -> Option Nat):Nat -> Option Nat
  | b0=>(if b0 < a0.fo.length then (a0.fo[b0]?).bind fun d0=>(if d0.fu = true then some b0 else c0 (b0 + 1)) else some b0)
def bs_p (n:Nat) (a0:Td):Option Int:=
  jn (fun c0=>some ((c0:Nat):Int)) (fun b0=>Option.bind (loopF (bs_l1 n a0) n 0) (b0))
theorem bs_c (n:Nat) {L w} (_hL:hl L w) (a0:Td) {v0_3:Value} (h0_3:Rep.R w L [v0_3] a0.fo)  {r:Int} (h:bs_p n a0 = some r) :
 Cl 143 #[.agg #[vI a0.fe,vI a0.fh,vI a0.fj,v0_3]] w (Gives w fun _ u=>u = vI r):=by
 unfold bs_p at h
 refine AD Tryz.func143 rfl rfl rfl fun _ cs0 hb0=>Ac<|RG.bx (Az w) rfl rfl fun d1 k0 q0 Q0=>Af rfl<|Aa<|Ac<|Af rfl<|Aa<|Aj<|AA<|MX.xo (α:=Nat) 0 (fun d0=>[(3,vI ((d0:Nat):Int))]) (fun d0=>[]) (fun d0=>d0) q0 rfl h ?_ ?_
 rintro d0 j1 z0 R0 h
 try dsimp only at h
 refine Ac<|Ae rfl<|Af rfl<|Aa<|Al rfl<|AW hb0 Tryz.func143 rfl rfl ?_
 cases h
 exact z0.gv
 intro K0 p0 h
 try dsimp only at h
 obtain ⟨Y0,F0,s0⟩:=bind_in2 h
 refine MX.lo (α:=Nat) (fun b0=>[(1,vP k0),(3,vI ((b0:Nat):Int))]) (fun b0=>[.cells k0 [vI a0.fe,vI a0.fh,vI a0.fj,v0_3] 44]) (fun b0=>b0) 0 F0 q0 ?_
 rintro J0 b0 g1 v0 c0 g0 h
 unfold bs_l1 at h
 try dsimp only at h
 refine Aj<|Ac<|Ae rfl<|AR 3 rfl<|AP rfl ((c0.memA .hd) 3 _ rfl) ?_
 have j0:=AS h0_3 c0
 have U0:a0.fo.length <= 281474976710656:=AY j0
 refine Ab (Be (xs:=a0.fo) Tryz.underlying42 rfl j0)<|Ab (Bu (i:=b0) (j:=a0.fo.length) rfl rfl)<|Ae rfl<|BD (s:=9) rfl h (fun t0 h=>?_) (fun t0 h=>?_)
 refine RG.fg 3 rfl<|AE (AL rfl ((c0.memA .hd) 3 _ rfl))<|AE (Ai rfl)<|bk h fun k1 H0 h=>?_
 obtain ⟨I0,M0,C0,D0,P0,G0,E0⟩:=Br j0 H0
 obtain ⟨Z0,b1,c1,rfl,V0,W0,X0⟩:=op_Tb G0
 refine AE (Bq 6 b0 rfl C0 rfl rfl D0)<|RG.fg 5 rfl<|AE (AL rfl (E0 5 _ rfl))<|AE (Bp rfl)<|Bh rfl rfl<|Aa<|BU rfl h (fun u0 h=>?_) (fun u0 h=>?_)
 refine Bd rfl ?_
 have h:=s0 _ h
 try dsimp only at h
 obtain ⟨x0,A0⟩:=AG c0 .done
 exact p0 b0 x0 (Tt g0 A0) h
 refine Au<|AA<|Av<|Ae rfl<|Ab (Bw (i:=b0) (j:=1) rfl rfl (by omega))<|Af rfl<|Aa<|AC<|v0 (b0 + 1) c0 g0 h
 refine Ap<|Ap<|Ap<|Ap<|Ap<|Ap<|Ap<|Bv rfl rfl<|Aa<|BF rfl<|Bd rfl ?_
 have h:=s0 _ h
 try dsimp only at h
 obtain ⟨y0,B0⟩:=AG c0 .done
 exact p0 b0 y0 (Tt g0 B0) h
def cC_p (n:Nat) (a0:Td):Option (Int × Int):=
  (al_p n a0).bind fun b0=>(if b0 = 0 then (bs_p n a0).bind fun c0=>some (c0,(0:Int)) else some ((0:Int),b0))
theorem cC_c (n:Nat) {L w} (hL:hl L w) (a0:Td) {v0_3:Value} (h0_3:Rep.R w L [v0_3] a0.fo)  {r:Int × Int} (h:cC_p n a0 = some r) :
 Cl 105 #[.agg #[vI a0.fe,vI a0.fh,vI a0.fj,v0_3]] w (Gives w fun _ u=>u = .tuple #[vI r.1,vI r.2]):=by
 unfold cC_p at h
 refine AD Tryz.func105 rfl rfl rfl fun _ cs0 hb0=>Ac<|RG.bx (Az w) rfl rfl fun t0 q0 b0 s0=>Af rfl<|Af rfl<|Aa<|Aj<|Ac<|Ab (AH rfl (b0.memA .hd))<|bk h fun c0 g0 h=>Ba (vI c0) (bd 104) rfl (e1 rfl) (fun w9 hw9=>al_c n (b0.hL0 hL hw9) a0 (b0.k0 h0_3 hw9) g0) rfl<|Af rfl<|Aa<|Ac<|Ae rfl<|Ab (BP (i:=c0) (j:=0) rfl rfl)<|Aa<|MX.ifn rfl h (fun d0 h=>?_) (fun d0 h=>?_)
 refine Au<|Ac<|Ab (AH rfl (b0.memA .hd))<|bk h fun p0 j0 h=>Ba (vI p0) (bd 143) rfl (e1 rfl) (fun w9 hw9=>bs_c n (b0.hL0 hL hw9) a0 (b0.k0 h0_3 hw9) j0) rfl<|Af rfl<|Af rfl<|Aa<|Al rfl<|Am hb0 Tryz.func105 rfl (.cons (.tmp rfl) (.cons (.tmp rfl) .nil)) rfl ?_
 cases h
 exact b0.gv
 refine Ac<|Ae rfl<|Af rfl<|Af rfl<|Aa<|Al rfl<|Am hb0 Tryz.func105 rfl (.cons (.tmp rfl) (.cons (.tmp rfl) .nil)) rfl ?_
 cases h
 exact b0.gv
def bP_p (n:Nat) (a0:Td):Option Int:=
  (cC_p n a0).bind fun b0=>some b0.1
theorem bP_c (n:Nat) {L w} (hL:hl L w) (a0:Td) {v0_3:Value} (h0_3:Rep.R w L [v0_3] a0.fo)  {r:Int} (h:bP_p n a0 = some r) :
 Cl 60 #[.agg #[vI a0.fe,vI a0.fh,vI a0.fj,v0_3]] w (Gives w fun _ u=>u = vI r):=by
 unfold bP_p at h
 refine AD Tryz.func60 rfl rfl rfl fun _ cs0 hb0=>Ac<|RG.bx (Az w) rfl rfl fun p0 g0 b0 j0=>Af rfl<|Aa<|Ac<|Ab (AH rfl (b0.memA .hd))<|bk h fun c0 d0 h=>Ba (.tuple #[vI c0.1,vI c0.2]) (bd 105) rfl (e1 rfl) (fun w9 hw9=>cC_c n (b0.hL0 hL hw9) a0 (b0.k0 h0_3 hw9) d0) rfl<|Ae rfl<|Ab (Ag rfl rfl)<|Ab (Ag rfl rfl)<|Af rfl<|Af rfl<|Aa<|Ac<|Ae rfl<|Af rfl<|Aa<|Al rfl<|AW hb0 Tryz.func60 rfl rfl ?_
 cases h
 exact b0.gv
def bc_l1 (n:Nat) (a0:Td) (d0:Int × Int -> Option Int):Int × Int -> Option Int
  | (c0,b0)=>(bP_p n a0).bind fun p0=>(if b0 < p0 then (idx a0.fo b0).bind fun k0=>(chk (c0 + k0.fv)).bind fun g0=>(chk (b0 + 1)).bind fun j0=>d0 (g0,j0) else some c0)
def bc_p (n:Nat) (a0:Td):Option Int:=
  Option.bind (loopF (bc_l1 n a0) n (0,0)) (fun b0=>some b0)
theorem bc_c (n:Nat) {L w} (hL:hl L w) (a0:Td) {v0_3:Value} (h0_3:Rep.R w L [v0_3] a0.fo)  {r:Int} (h:bc_p n a0 = some r) :
 Cl 56 #[.agg #[vI a0.fe,vI a0.fh,vI a0.fj,v0_3]] w (Gives w fun _ u=>u = vI r):=by
 unfold bc_p at h
 refine AD Tryz.func56 rfl rfl rfl fun _ cs0 hb0=>Ac<|RG.bx (Az w) rfl rfl fun c1 g0 s0 R0=>Af rfl<|Aa<|Ac<|Af rfl<|Aa<|Aj<|Ac<|Af rfl<|Aa<|AA ?_
 obtain ⟨X0,A0,v0⟩:=bind_in2 h
 refine MX.lo (α:=Int × Int) (fun ⟨d0,b0⟩=>[(1,vP g0),(3,vI d0),(4,vI b0)]) (fun ⟨d0,b0⟩=>[.cells g0 [vI a0.fe,vI a0.fh,vI a0.fj,v0_3] 44]) (fun ⟨d0,b0⟩=>(d0,b0)) (0,0) A0 s0 ?_
 rintro M0 ⟨d0,b0⟩ d1 q0 c0 t0 h
 unfold bc_l1 at h
 try dsimp only at h
 refine Aj<|Ac<|Ae rfl<|Ab (AH rfl (c0.memA .hd))<|bk h fun j0 G0 h=>Ba (vI j0) (bd 60) rfl (e1 rfl) (fun w9 hw9=>bP_c n (c0.hL0 hL hw9) a0 (c0.k0 h0_3 hw9) G0) rfl<|Ab (BS (i:=b0) (j:=j0) rfl rfl)<|Aa<|AT rfl h (fun p0 h=>?_) (fun p0 h=>?_)
 refine Au<|Aj<|AA<|Av<|Ae rfl<|AR 3 rfl<|AP rfl ((c0.memA .hd) 3 _ rfl)<|Ae rfl<|bk h fun J0 E0 h=>?_
 obtain ⟨x0,F0⟩:=idx_in E0
 obtain ⟨K0,P0,u0,y0,Q0,B0,z0⟩:=Br (AS h0_3 c0) F0
 obtain ⟨Y0,Z0,b1,rfl,U0,V0,W0⟩:=op_Tb B0
 refine Ab (Bq 6 (b0.toNat) rfl u0 rfl x0 y0)<|AR 1 rfl<|AP rfl (z0 1 _ rfl)<|bk h fun H0 C0 h=>Ab (BJ (i:=d0) (j:=J0.fv) rfl rfl C0)<|Af rfl<|Aa<|AC<|Av<|Ae rfl<|bk h fun I0 D0 h=>Ab (BJ (i:=b0) (j:=1) rfl rfl D0)<|Af rfl<|Aa<|q0 (H0,I0) c0 t0 h
 refine Bd rfl ?_
 have h:=v0 _ h
 try dsimp only at h
 refine Ac<|Ae rfl<|Af rfl<|Aa<|Al rfl<|AW hb0 Tryz.func56 rfl rfl ?_
 cases h
 exact c0.gv
def bT_p (n:Nat) (a0:Td) (a1:Int):Option (Ta × Int):=
  (bg_p n a0 a1).bind fun b0=>(if b0 = 0 then (bc_p n a0).bind fun c0=>(aX_p n c0 a1).bind fun d0=>some (d0,(0:Int)) else some ((⟨((0:UInt64),(0:UInt64),(0:UInt64),(0:UInt64),(0:UInt64),(0:UInt64),(0:UInt64),(0:UInt64)),((0:UInt64),(0:UInt64),(0:UInt64),(0:UInt64),(0:UInt64),(0:UInt64),(0:UInt64),(0:UInt64))⟩:Ta),b0))
theorem bT_c (n:Nat) {L w} (hL:hl L w) (a0:Td) {v0_3:Value} (h0_3:Rep.R w L [v0_3] a0.fo) {a1:Int}  {r:Ta × Int} (h:bT_p n a0 a1 = some r) :
 Cl 16 #[.agg #[vI a0.fe,vI a0.fh,vI a0.fj,v0_3],vI a1] w (Gives w fun _ u=>u = .tuple #[.agg ((cs_Ta r.1)).toArray,vI r.2]):=by
 unfold bT_p at h
 refine AD Tryz.func16 rfl rfl rfl fun _ cs0 hb0=>Ac<|RG.bx (Az w) rfl rfl fun D0 x0 q0 z0=>RG.nl zL q0 fun E0 y0 b0 A0=>Af rfl<|Aa<|Aj<|Ac<|Ab (AH rfl (b0.memA .t1))<|Ae rfl<|bk h fun j0 s0 h=>Ba (vI j0) (bd 55) rfl (e2 rfl rfl) (fun w9 hw9=>bg_c n (b0.hL0 hL hw9) a0 (b0.k0 h0_3 hw9) s0) rfl<|Af rfl<|Aa<|Ac<|Ae rfl<|Ab (BP (i:=j0) (j:=0) rfl rfl)<|Aa<|MX.ifn rfl h (fun p0 h=>?_) (fun p0 h=>?_)
 refine Au<|Ac<|Ab (AH rfl (b0.memA .t1))<|bk h fun v0 t0 h=>Ba (vI v0) (bd 56) rfl (e1 rfl) (fun w9 hw9=>bc_c n (b0.hL0 hL hw9) a0 (b0.k0 h0_3 hw9) t0) rfl<|Ae rfl<|bk h fun c0 u0 h=>Ba (.agg ((cs_Ta c0)).toArray) (bd 35) rfl (e2 rfl rfl) (fun w9 hw9=>aX_c n (b0.hL0 hL hw9)  u0) rfl<|AQ (cs_Ta c0) b0 .hd (onesB rfl) fun F0 d0 B0=>Af rfl<|Aa<|Al rfl<|Am hb0 Tryz.func16 rfl (.cons (.many (cs:=(cs_Ta c0)) (by kernel_rfl) rfl (d0.memA .hd)) (.cons (.tmp rfl) .nil)) rfl ?_
 cases h
 exact d0.gv
 refine Ac<|Ab (AU (vs:=[]) (u:=.agg zM) evs_nil (fun w9=>by kernel_rfl))<|Ae rfl<|AQ zL b0 .hd (onesB rfl) fun G0 g0 C0=>Af rfl<|Aa<|Al rfl<|Am hb0 Tryz.func16 rfl (.cons (.many (cs:=zL) (by kernel_rfl) rfl (g0.memA .hd)) (.cons (.tmp rfl) .nil)) rfl ?_
 cases h
 exact g0.gv
def bf_l1 (_n:Nat) (a0:UInt64 × UInt64 × UInt64 × UInt64 × UInt64 × UInt64 × UInt64 × UInt64) (g0:Nat × (List Int) -> Option (List Int)):Nat × (List Int) -> Option (List Int)
  | (b0,c0)=>(if b0 < 8 then (([a0.1,a0.2.1,a0.2.2.1,a0.2.2.2.1,a0.2.2.2.2.1,a0.2.2.2.2.2.1,a0.2.2.2.2.2.2.1,a0.2.2.2.2.2.2.2]:List UInt64)[b0]?).bind fun d0=>(app c0 ([i64of (d0 % (4294967296:UInt64)),i64of (d0 / (4294967296:UInt64))]:List Int)).bind fun j0=>g0 (b0 + 1,j0) else some c0)
def bf_p (n:Nat) (a0:UInt64 × UInt64 × UInt64 × UInt64 × UInt64 × UInt64 × UInt64 × UInt64):Option (List Int):=
  Option.bind (loopF (bf_l1 n a0) n (0,([]:List Int))) (fun b0=>some b0)
theorem bf_c (n:Nat) {L w} (hL:hl L w) (a0:UInt64 × UInt64 × UInt64 × UInt64 × UInt64 × UInt64 × UInt64 × UInt64)  {r:List Int} (h:bf_p n a0 = some r) :
 Cl 160 #[.agg ((cs_A34 a0)).toArray] w (Gives w fun w' u=>∃ v0_0:Value,u = v0_0/\Rep.R w' L [v0_0] r):=by
 unfold bf_p at h
 refine AD Tryz.func160 rfl rfl rfl fun _ cs0 hb0=>Ac<|RG.bx (Az w) rfl rfl fun j1 s0 x0 Z0=>Af rfl<|Aa<|Ac<|Af rfl<|Aa<|Aj<|Ac<|Af rfl<|Aa<|AA ?_
 have y0:=x0.nilRow 3 (Rep.size Int)
 have b1:=St.nilRowT x0 3 (Rep.size Int)
 obtain ⟨c1,P0,M0⟩:=bind_in2 h
 refine MX.lf (α:=Nat × (List Int) × Value × (List Value)) (fun ⟨d0,k0,j0,p0⟩=>[(1,vP s0),(3,j0),(4,vI ((d0:Nat):Int))]) (fun ⟨d0,k0,j0,p0⟩=>[rr w 3 Int j0 k0.length p0,.cells s0 (cs_A34 a0) 35]) (fun ⟨d0,k0,j0,p0⟩ C0=>Cells C0 (bl [rr w 3 Int j0 k0.length p0,.cells s0 (cs_A34 a0) 35] ++ L) p0 k0) (fun ⟨d0,k0,j0,p0⟩=>(d0,k0)) (0,([]:List Int),vN,[]) P0 y0 (AB (cs:=[]) (xs:=([]:List Int)) y0 L (AJ _ _)) ?_
 rintro W0 ⟨d0,k0,j0,p0⟩ C0 F0 q0 J0 B0 h
 unfold bf_l1 at h
 try dsimp only at h
 refine Aj<|Ac<|Ae rfl<|Ab (Bu (i:=d0) (j:=8) rfl rfl)<|Aa<|AT rfl h (fun D0 h=>?_) (fun D0 h=>?_)
 refine Au<|Aj<|AA<|du 12 fun c0 g0=>Rv 0 c0 rfl g0 (fun _=>Ai rfl)<|Rv 1 c0 rfl g0 (fun _=>Ai rfl)<|bk h fun b0 t0 h=>Rv 2 c0 rfl g0 (fun _=>Bg (m:=1) (k:=d0) (len:=8) (by kernel_rfl) rfl rfl rfl (arr_lt t0 rfl))<|Rx 3 14384 c0 rfl g0 (AL rfl ((mem_elem1 (p:=⟨s0,0,none⟩) (cs:=([a0.1,a0.2.1,a0.2.2.1,a0.2.2.2.1,a0.2.2.2.2.1,a0.2.2.2.2.2.1,a0.2.2.2.2.2.2.1,a0.2.2.2.2.2.2.2]:List UInt64).map (fun z9:UInt64=>(vU z9:Value)) ++ []) (i:=d0) (q0.memA .t1) (arr_get (fun z9:UInt64=>(vU z9:Value)) t0)) 0 _ rfl))<|Rv 4 c0 rfl g0 (fun _=>FV.remU (a:=b0) (b:=(4294967296:UInt64)) rfl rfl (by decide))<|Rv 5 c0 rfl g0 (fun _=>FV.convUI (a:=b0 % (4294967296:UInt64)) Tryz.underlying33 Tryz.underlying3 rfl)<|Rv 6 c0 rfl g0 (fun _=>Ai rfl)<|Rv 7 c0 rfl g0 (fun _=>Bg (m:=1) (k:=d0) (len:=8) (by kernel_rfl) rfl rfl rfl (arr_lt t0 rfl))<|Rx 8 15872 c0 rfl g0 (AL rfl ((mem_elem1 (p:=⟨s0,0,none⟩) (cs:=([a0.1,a0.2.1,a0.2.2.1,a0.2.2.2.1,a0.2.2.2.2.1,a0.2.2.2.2.2.1,a0.2.2.2.2.2.2.1,a0.2.2.2.2.2.2.2]:List UInt64).map (fun z9:UInt64=>(vU z9:Value)) ++ []) (i:=d0) (q0.memA .t1) (arr_get (fun z9:UInt64=>(vU z9:Value)) t0)) 0 _ rfl))<|Rv 9 c0 rfl g0 (fun _=>FV.quoU (a:=b0) (b:=(4294967296:UInt64)) rfl rfl (by decide))<|Rv 10 c0 rfl g0 (fun _=>FV.convUI (a:=b0 / (4294967296:UInt64)) Tryz.underlying33 Tryz.underlying3 rfl)<|BN 11 4095 c0 rfl .plain rfl (AK (α:=Int) (xs:=([i64of (b0 % (4294967296:UInt64)),i64of (b0 / (4294967296:UInt64))]:List Int)) (vs:=[vI (i64of (b0 % (4294967296:UInt64))),vI (i64of (b0 / (4294967296:UInt64)))]) (ds' :=[vI (i64of (b0 % (4294967296:UInt64))),vI (i64of (b0 / (4294967296:UInt64)))]) rfl q0 el45 rfl (e2 rfl rfl) (by kernel_rfl) rfl) fun k1 X0 v0 A0=>bk h fun V0 R0 h=>Bf (i:=12) (rk c0) (Bx (m' :=8191) (sk c0) rfl rfl .plain rfl (AZ (α:=Int) (ys:=([i64of (b0 % (4294967296:UInt64)),i64of (b0 / (4294967296:UInt64))]:List Int)) R0 v0 (fun _ _=>.t1) el45 rfl rfl (Aw B0 A0) (Src.row (α:=Int) v0 .hd (AB (cs:=[vI (i64of (b0 % (4294967296:UInt64))),vI (i64of (b0 / (4294967296:UInt64)))]) (xs:=(([i64of (b0 % (4294967296:UInt64)),i64of (b0 / (4294967296:UInt64))]:List Int):List Int)) v0 L (Ar (cs:=[vI (i64of (b0 % (4294967296:UInt64)))]) (ds:=[vI (i64of (b0 / (4294967296:UInt64)))]) rfl (Ar (cs:=[vI (i64of (b0 / (4294967296:UInt64)))]) (ds:=[]) rfl (AJ _ _)))))) (fun U0 g1 ⟨E0,G0,I0,K0⟩=>?_))
 refine Bf (i:=13) (rk c0) (Bs (m' :=16383) (sk c0) rfl .plain rfl (AV rfl) ?_)
 refine AN (dk c0)<|AC<|Av<|Ae rfl<|Ab (Bw (i:=d0) (j:=1) rfl rfl (by omega))<|Af rfl<|Aa ?_
 obtain ⟨H0,z0⟩:=AG G0 .d1
 exact F0 (d0 + 1,V0,U0,E0) H0 (Tt J0 (Tt A0 (Tt I0 z0))) (Aw K0 z0) h
 refine Bd rfl ?_
 have h:=M0 _ h
 try dsimp only at h
 refine Ac<|Ae rfl<|Af rfl<|Aa<|Al rfl ?_
 have u0:=Bz q0 .hd
 have Y0:=BA q0 .hd
 have Q0:=BB (α:=Int) (v:=j0) (xs:=k0) u0 L (Bj (α:=Int) q0 .hd B0 hL)
 refine AW hb0 Tryz.func160 rfl rfl ?_
 cases h
 exact ⟨u0.ag,fun w9 hw9=>⟨j0,rfl,u0.kd Q0 hw9⟩⟩
def ai_p (n:Nat) (a0:UInt64 × UInt64 × UInt64 × UInt64 × UInt64 × UInt64 × UInt64 × UInt64):Option Tc:=
  (bf_p n a0).bind fun c0=>(if a0.2.2.2.2.2.2.2 < (9223372036854775808:UInt64) then (aa_p n false c0).bind fun g0=>some g0 else (mk 17 (0:Int)).bind fun b0=>(b0[16]?).bind fun _x49=>(put b0 ((16:Nat):Int) (1:Int)).bind fun d0=>(av_p n c0).bind fun j0=>(am_p n d0 j0).bind fun k0=>(aa_p n true k0).bind fun p0=>some p0)
theorem ai_c (n:Nat) {L w} (hL:hl L w) (a0:UInt64 × UInt64 × UInt64 × UInt64 × UInt64 × UInt64 × UInt64 × UInt64)  {r:Tc} (h:ai_p n a0 = some r) :
 Cl 128 #[.agg ((cs_A34 a0)).toArray] w (Gives w fun w' u=>∃ v0_1:Value,u = .agg #[.bool r.fc,v0_1]/\Rep.R w' L [v0_1] r.fD):=by
 unfold ai_p at h
 refine AD Tryz.func128 rfl rfl rfl fun _ cs0 hb0=>Ac<|RG.bx (Az w) rfl rfl fun g2 D1 J0 J1=>RG.nl [.bool false,vN] J0 fun j2 E1 c0 K1=>Aa<|Ac<|Ab (AH rfl (c0.memA .t1))<|bk h fun A2 u1 h=>AX (fst:=[]) (cap:=[]) .plain (bd 160) rfl (e1 rfl) (fun w9 hw9=>bf_c n (c0.hL hL hw9) a0 u1) rfl fun k2 Y1 W0 ⟨V1,hu_,A0⟩=>?_
 subst hu_
 obtain ⟨b0,M1⟩:=c0.agr W0
 refine Af rfl<|Aa<|Aj<|Ac<|Ab (Bg (m:=1) (k:=7) (len:=8) (by kernel_rfl) rfl rfl rfl (by omega))<|AP rfl ((b0.memA .t1) 7 _ rfl)<|Ab (FV.lssU (a:=a0.2.2.2.2.2.2.2) (b:=(9223372036854775808:UInt64)) rfl rfl)<|Aa<|AT rfl h (fun H0 h=>?_) (fun H0 h=>?_)
 refine Ac<|Ae rfl<|bk h fun D0 v1 h=>AX (fst:=[]) (cap:=[]) .plain (bd 161) rfl (e2 rfl rfl) (fun w9 hw9=>aa_c n (b0.hL hL hw9) (Aq A0 hw9) v1) rfl fun p2 Z1 X0 ⟨s0,hu_,B0⟩=>?_
 subst hu_
 obtain ⟨K0,P1⟩:=b0.agr X0
 refine AQ [.bool D0.fc,s0] K0 .hd (o2 rfl (AO B0)) fun q2 d0 Q0=>Aa<|Al rfl<|Am hb0 Tryz.func128 rfl (.cons (.many (cs:=[.bool D0.fc,s0]) (by kernel_rfl) rfl (d0.memA .hd)) .nil) rfl ?_
 cases h
 exact ⟨d0.ag,fun w9 hw9=>⟨s0,rfl,d0.kd (Ao B0 Q0) hw9⟩⟩
 refine Au<|Ac<|bk h fun z2 q1 h=>RG.doesH .plain rfl (Does.mkH (α:=Int) (L:=L) q1 b0 el45 rfl (fun _ _=>rfl)) fun A1 s2 ⟨H1,g0,R0,x0⟩=>Af rfl<|Aa<|Ac<|Ae rfl<|bk h fun B1 p1 h=>?_
 obtain ⟨F0,F1,q0,z0,I0,g1,U1⟩:=St.nth (α:=Int) g0 .hd x0 p1
 obtain ⟨G0,G1,y0⟩:=BR (α:=Int) g0 .hd z0
 obtain rfl:F0 = ⟨G0,0,none⟩:=by rw [y0] at q0; cases q0; rfl
 have d1:I0 = [vI B1]:=g1; subst d1
 refine Ab (Bq 1 16 rfl q0 rfl rfl z0)<|bk h fun C1 s1 h=>RG.acts' .plain (Acts.set (α:=Int) (i:=16) s1 g0 y0 (fun _=>.hd) x0 rfl rfl rfl rfl rfl (by kernel_rfl)) fun t2 ⟨I1,u0,U0,c1⟩=>Aa<|Ac<|Ae rfl<|Ae rfl<|bk h fun B2 x1 h=>AX (fst:=[]) (cap:=[]) .plain (bd 163) rfl (e1 rfl) (fun w9 hw9=>av_c n (u0.hL hL hw9) (Aq (Ao A0 (Tt R0 U0)) hw9) x1) rfl fun u2 b2 Y0 ⟨W1,hu_,j1⟩=>?_
 subst hu_
 obtain ⟨j0,V0⟩:=u0.agr Y0
 have k0:=Bz j0 .hd
 refine bk h fun C2 y1 h=>AX (fst:=[]) (cap:=[]) .plain (bd 162) rfl (e2 rfl rfl) (fun w9 hw9=>am_c n (k0.hL hL hw9) (Aq (BB (α:=Int) (v:=A1) (xs:=C1) k0 L (Bj (α:=Int) j0 .hd (Aw c1 V0) hL)) hw9) (Aq (Ao j1 (BA j0 .hd)) hw9) y1) rfl fun v2 c2 Z0 ⟨X1,hu_,k1⟩=>?_
 subst hu_
 obtain ⟨v0,Q1⟩:=k0.agr Z0
 refine bk h fun E0 z1 h=>AX (fst:=[]) (cap:=[]) .plain (bd 161) rfl (e2 rfl rfl) (fun w9 hw9=>aa_c n (v0.hL hL hw9) (Aq k1 hw9) z1) rfl fun x2 d2 b1 ⟨t0,hu_,C0⟩=>?_
 subst hu_
 obtain ⟨M0,R1⟩:=v0.agr b1
 refine AQ [.bool E0.fc,t0] M0 .hd (o2 rfl (AO C0)) fun y2 p0 P0=>Aa<|Al rfl<|Am hb0 Tryz.func128 rfl (.cons (.many (cs:=[.bool E0.fc,t0]) (by kernel_rfl) rfl (p0.memA .hd)) .nil) rfl ?_
 cases h
 exact ⟨p0.ag,fun w9 hw9=>⟨t0,rfl,p0.kd (Ao C0 P0) hw9⟩⟩
def cI_p (_n:Nat) (a0:Tc):Option Bool:=
  (if a0.fD.length = 1 then (a0.fD[0]?).bind fun b0=>(if b0 = 1 then some (!a0.fc) else some false) else some false)
theorem cI_c (n:Nat) {L w} (_hL:hl L w) (a0:Tc) {v0_1:Value} (h0_1:Rep.R w L [v0_1] a0.fD)  {r:Bool} (h:cI_p n a0 = some r) :
 Cl 129 #[.agg #[.bool a0.fc,v0_1]] w (Gives w fun _ u=>u = .bool r):=by
 unfold cI_p at h
 refine AD Tryz.func129 rfl rfl rfl fun _ cs0 hb0=>Ac<|RG.bx (Az w) rfl rfl fun C0 y0 b0 A0=>Af rfl<|Aa<|Ac<|AR 1 rfl<|AP rfl ((b0.memA .hd) 1 _ rfl) ?_
 have c0:=AS h0_1 b0
 have B0:a0.fD.length <= 281474976710656:=AY c0
 refine Ab (Be (xs:=a0.fD) Tryz.underlying45 rfl c0)<|Ab (BT (i:=a0.fD.length) (j:=1) rfl rfl)<|Ae rfl<|BD (s:=7) rfl h (fun g0 h=>?_) (fun g0 h=>?_)
 refine RG.fg 1 rfl<|AE (AL rfl ((b0.memA .hd) 1 _ rfl))<|bk h fun d0 v0 h=>?_
 obtain ⟨x0,z0,p0,s0,k0,u0,t0⟩:=Br c0 v0
 have q0:k0 = [vI d0]:=u0; subst q0
 refine AE (Bq 1 0 rfl p0 rfl rfl s0)<|AE (AL rfl (t0 0 _ rfl))<|AE (FV.eql (i:=d0) (j:=1) rfl rfl)<|Bh rfl rfl<|Ae rfl<|BD (s:=14) rfl h (fun j0 h=>?_) (fun j0 h=>?_)
 refine RG.fg 0 rfl<|AE (AL rfl ((b0.memA .hd) 0 _ rfl))<|AE (Bp rfl)<|Bh rfl rfl<|Af rfl<|Aa<|Al rfl<|AW hb0 Tryz.func129 rfl rfl ?_
 cases h
 exact b0.gv
 refine Ap<|Ap<|Ap<|Bv rfl rfl<|Af rfl<|Aa<|Al rfl<|AW hb0 Tryz.func129 rfl rfl ?_
 cases h
 exact b0.gv
 refine Ap<|Ap<|Ap<|Ap<|Ap<|Bv rfl rfl<|Ae rfl<|Ap<|Ap<|Ap<|Bv rfl rfl<|Af rfl<|Aa<|Al rfl<|AW hb0 Tryz.func129 rfl rfl ?_
 cases h
 exact b0.gv
def ah_p (n:Nat) (a0:Ta):Option Bool:=
  (ai_p n a0.fN).bind fun g0=>(ai_p n a0.fD).bind fun b0=>(if b0.fc = true then some false else (if 0 < b0.fD.length then (aL_p n g0 b0).bind fun c0=>(cI_p n c0).bind fun d0=>some d0 else some false))
theorem ah_c (n:Nat) {L w} (hL:hl L w) (a0:Ta)  {r:Bool} (h:ah_p n a0 = some r) :
 Cl 90 #[.agg ((cs_Ta a0)).toArray] w (Gives w fun _ u=>u = .bool r):=by
 unfold ah_p at h
 refine AD Tryz.func90 rfl rfl rfl fun _ cs0 hb0=>Ac<|RG.bx (Az w) rfl rfl fun H2 A2 M0 B2=>Af rfl<|Aa<|Aj<|du 8 fun b0 V0=>Rv 0 b0 rfl V0 (fun _=>Bb 0 rfl)<|Rx 1 804 b0 rfl V0 (Bc (cs:=(cs_A34 a0.fN)) (by kernel_rfl) rfl (mem_part (M0.memA .hd) 0 8))<|Rv 3 b0 rfl V0 (fun _=>Bb 8 rfl)<|Rx 4 800 b0 rfl V0 (Bc (cs:=(cs_A34 a0.fD)) (by kernel_rfl) rfl (mem_part (M0.memA .hd) 8 8))<|bk h fun Y0 U0 h=>bk h fun P0 C0 h=>RD.mf (α:=Value × Value × Nat × Nat) (fun ⟨Q0,R0,J0,K0⟩=>[(7,.agg #[.bool Y0.fc,Q0]),(10,.agg #[.bool P0.fc,R0]),(3,vP K0),(4,vP J0)]) (fun ⟨Q0,R0,J0,K0⟩=>[.cells J0 [.bool false,vN] 134,.cells K0 [.bool false,vN] 134]) (fun ⟨Q0,R0,J0,K0⟩ j1=>Rep.R j1 (bl [.cells J0 [.bool false,vN] 134,.cells K0 [.bool false,vN] 134] ++ L) [Q0] Y0.fD/\Rep.R j1 (bl [.cells J0 [.bool false,vN] 134,.cells K0 [.bool false,vN] 134] ++ L) [R0] P0.fD) M0 2 255 ?_ ?_
 rintro ⟨Q0,R0,J0,K0⟩ j1 V1 C2 ⟨P1,Q1⟩
 try dsimp only
 refine BE 8 511 b0 rfl rfl .plain (AF (news:=[.bool Y0.fc,Q0]) V1 .t1 rfl rfl rfl rfl rfl rfl (o2 rfl (AO P1))) fun I2 W1 b1=>BE 9 1023 b0 rfl rfl .plain (AF (news:=[.bool P0.fc,R0]) W1 .hd rfl rfl rfl rfl rfl rfl (o2 rfl (AO (Ao Q1 b1)))) fun J2 G0 k1=>AN (dk b0)<|Ac<|AR 0 rfl<|AP rfl ((G0.memA .hd) 0 _ rfl)<|Ab (Bp rfl)<|Ae rfl<|RG.ifnb (s:=14) rfl h (fun R1 h=>?_) (fun R1 h=>?_)
 refine Ap<|Ap<|Ap<|Ap<|Bv rfl rfl<|Ae rfl<|Ap<|Ap<|Ap<|Ap<|Bv rfl rfl<|Af rfl<|Aa<|Al rfl<|AW hb0 Tryz.func90 rfl rfl ?_
 cases h
 exact G0.gv
 refine RG.fg 1 rfl<|AE (AL rfl ((G0.memA .hd) 1 _ rfl)) ?_
 have g1:=Ao Q1 (Tt b1 k1)
 have E2:P0.fD.length <= 281474976710656:=AY g1
 refine AE (Be (xs:=P0.fD) Tryz.underlying45 rfl g1)<|AE (FV.gtrN (i:=P0.fD.length) (j:=0) rfl rfl)<|Bh rfl rfl<|Ae rfl<|BD (s:=20) rfl h (fun U1 h=>?_) (fun U1 h=>?_)
 refine AE (AH rfl (G0.memA .t1))<|AE (AH rfl (G0.memA .hd))<|bk h fun y2 v2 h=>AX (fst:=[]) (cap:=[]) (.yes rfl rfl) (bd 130) rfl (e2 rfl rfl) (fun w9 hw9=>aL_c n (G0.hL hL hw9) Y0 (Aq (Ao P1 (Tt b1 k1)) hw9) P0 (Aq g1 hw9) v2) rfl fun K2 G2 t2 ⟨F2,hu_,u2⟩=>?_
 subst hu_
 obtain ⟨Z0,D2⟩:=G0.agr t2
 refine bk h fun z2 x2 h=>RG.callq' (v:=.bool z2) (fst:=[]) (cap:=[]) (.yes rfl rfl) (bd 129) rfl (e1 rfl) (fun w9 hw9=>cI_c n (Z0.hL0 hL hw9) y2 (Z0.kd u2 hw9) x2) rfl<|Bh rfl rfl<|Af rfl<|Aa<|Al rfl<|AW hb0 Tryz.func90 rfl rfl ?_
 cases h
 exact Z0.gv
 refine Ap<|Ap<|Ap<|Ap<|Bv rfl rfl<|Af rfl<|Aa<|Al rfl<|AW hb0 Tryz.func90 rfl rfl ?_
 cases h
 exact G0.gv
 intro B0
 refine Bm [2,6,7] (rk b0) ⟨?_,?_,?_,trivial⟩
 refine RO.call (m' :=31) (fst:=[]) (cap:=[]) (sk b0) rfl .plain (bd 128) rfl (e1 rfl) (fun w9 hw9=>ai_c n (M0.hL hL hw9) a0.fN U0) rfl fun X0 W0 F0 ⟨A0,hu_,z0⟩=>?_
 subst hu_
 obtain ⟨x0,y0⟩:=M0.agr F0
 refine Bm [5,6,7] (rk b0) ⟨?_,?_,?_,trivial⟩
 refine RO.call (m' :=63) (fst:=[]) (cap:=[]) (sk b0) rfl .plain (bd 128) rfl (e1 rfl) (fun w9 hw9=>ai_c n (x0.hL hL hw9) a0.fD C0) rfl fun E0 D0 t0 ⟨s0,hu_,q0⟩=>?_
 subst hu_
 obtain ⟨p0,j0⟩:=x0.agr t0
 refine Bm [6,7] (rk b0) ⟨?_,?_,trivial⟩
 refine BC (m' :=127) (sk b0) rfl .plain rfl (Ay [.bool false,vN] p0) fun I0 v0 d0 k0=>BN 7 255 b0 rfl .plain rfl (Ay [.bool false,vN] d0) fun H0 u0 c0 g0=>?_
 obtain ⟨X1,p1⟩:=AG c0 (.a0 (.a0 .done))
 have C1:=Tt j0 (Tt k0 (Tt g0 p1))
 exact B0 (A0,s0,u0,v0) X1 (Tt y0 C1) ⟨(Ao z0 C1),(Ao q0 (Tt k0 (Tt g0 p1)))⟩
 refine BC (m' :=191) (sk b0) rfl .plain rfl (Ay [.bool false,vN] p0) fun H0 u0 c0 g0=>BN 6 255 b0 rfl .plain rfl (Ay [.bool false,vN] c0) fun I0 v0 d0 k0=>?_
 obtain ⟨Y1,q1⟩:=AG d0 (.a1 (.a0 .done))
 have D1:=Tt j0 (Tt g0 (Tt k0 q1))
 exact B0 (A0,s0,u0,v0) Y1 (Tt y0 D1) ⟨(Ao z0 D1),(Ao q0 (Tt g0 (Tt k0 q1)))⟩
 refine BC (m' :=95) (sk b0) rfl .plain rfl (Ay [.bool false,vN] x0) fun I0 v0 d0 k0=>Bm [5,7] (rk b0) ⟨?_,?_,trivial⟩
 refine RO.call (m' :=127) (fst:=[]) (cap:=[]) (sk b0) rfl .plain (bd 128) rfl (e1 rfl) (fun w9 hw9=>ai_c n (d0.hL hL hw9) a0.fD C0) rfl fun E0 D0 t0 ⟨s0,hu_,q0⟩=>?_
 subst hu_
 obtain ⟨p0,j0⟩:=d0.agr t0
 refine BN 7 255 b0 rfl .plain rfl (Ay [.bool false,vN] p0) fun H0 u0 c0 g0=>?_
 obtain ⟨Z1,s1⟩:=AG c0 (.a0 (.a0 .done))
 have E1:=Tt k0 (Tt j0 (Tt g0 s1))
 exact B0 (A0,s0,u0,v0) Z1 (Tt y0 E1) ⟨(Ao z0 E1),(Ao q0 (Tt g0 s1))⟩
 refine BC (m' :=223) (sk b0) rfl .plain rfl (Ay [.bool false,vN] d0) fun H0 u0 c0 g0=>Bn 5 255 b0 rfl .plain (bd 128) rfl (e1 rfl) (fun w9 hw9=>ai_c n (c0.hL hL hw9) a0.fD C0) rfl fun E0 D0 t0 ⟨s0,hu_,q0⟩=>?_
 subst hu_
 obtain ⟨p0,j0⟩:=c0.agr t0
 obtain ⟨b2,u1⟩:=AG p0 (.a0 (.a0 .done))
 have F1:=Tt k0 (Tt g0 (Tt j0 u1))
 exact B0 (A0,s0,u0,v0) b2 (Tt y0 F1) ⟨(Ao z0 F1),(Ao q0 u1)⟩
 refine BC (m' :=159) (sk b0) rfl .plain rfl (Ay [.bool false,vN] x0) fun H0 u0 c0 g0=>Bm [5,6] (rk b0) ⟨?_,?_,trivial⟩
 refine RO.call (m' :=191) (fst:=[]) (cap:=[]) (sk b0) rfl .plain (bd 128) rfl (e1 rfl) (fun w9 hw9=>ai_c n (c0.hL hL hw9) a0.fD C0) rfl fun E0 D0 t0 ⟨s0,hu_,q0⟩=>?_
 subst hu_
 obtain ⟨p0,j0⟩:=c0.agr t0
 refine BN 6 255 b0 rfl .plain rfl (Ay [.bool false,vN] p0) fun I0 v0 d0 k0=>?_
 obtain ⟨c2,v1⟩:=AG d0 (.a1 (.a0 .done))
 have G1:=Tt g0 (Tt j0 (Tt k0 v1))
 exact B0 (A0,s0,u0,v0) c2 (Tt y0 G1) ⟨(Ao z0 G1),(Ao q0 (Tt k0 v1))⟩
 refine BC (m' :=223) (sk b0) rfl .plain rfl (Ay [.bool false,vN] c0) fun I0 v0 d0 k0=>Bn 5 255 b0 rfl .plain (bd 128) rfl (e1 rfl) (fun w9 hw9=>ai_c n (d0.hL hL hw9) a0.fD C0) rfl fun E0 D0 t0 ⟨s0,hu_,q0⟩=>?_
 subst hu_
 obtain ⟨p0,j0⟩:=d0.agr t0
 obtain ⟨d2,x1⟩:=AG p0 (.a1 (.a0 .done))
 have H1:=Tt g0 (Tt k0 (Tt j0 x1))
 exact B0 (A0,s0,u0,v0) d2 (Tt y0 H1) ⟨(Ao z0 H1),(Ao q0 x1)⟩
 refine BC (m' :=91) (sk b0) rfl .plain rfl (Ay [.bool false,vN] M0) fun I0 v0 d0 k0=>Bm [2,7] (rk b0) ⟨?_,?_,trivial⟩
 refine RO.call (m' :=95) (fst:=[]) (cap:=[]) (sk b0) rfl .plain (bd 128) rfl (e1 rfl) (fun w9 hw9=>ai_c n (d0.hL hL hw9) a0.fN U0) rfl fun X0 W0 F0 ⟨A0,hu_,z0⟩=>?_
 subst hu_
 obtain ⟨x0,y0⟩:=d0.agr F0
 refine Bm [5,7] (rk b0) ⟨?_,?_,trivial⟩
 refine RO.call (m' :=127) (fst:=[]) (cap:=[]) (sk b0) rfl .plain (bd 128) rfl (e1 rfl) (fun w9 hw9=>ai_c n (x0.hL hL hw9) a0.fD C0) rfl fun E0 D0 t0 ⟨s0,hu_,q0⟩=>?_
 subst hu_
 obtain ⟨p0,j0⟩:=x0.agr t0
 refine BN 7 255 b0 rfl .plain rfl (Ay [.bool false,vN] p0) fun H0 u0 c0 g0=>?_
 obtain ⟨g2,y1⟩:=AG c0 (.a0 (.a0 .done))
 have I1:=Tt j0 (Tt g0 y1)
 exact B0 (A0,s0,u0,v0) g2 (Tt k0 (Tt y0 I1)) ⟨(Ao z0 I1),(Ao q0 (Tt g0 y1))⟩
 refine BC (m' :=223) (sk b0) rfl .plain rfl (Ay [.bool false,vN] x0) fun H0 u0 c0 g0=>Bn 5 255 b0 rfl .plain (bd 128) rfl (e1 rfl) (fun w9 hw9=>ai_c n (c0.hL hL hw9) a0.fD C0) rfl fun E0 D0 t0 ⟨s0,hu_,q0⟩=>?_
 subst hu_
 obtain ⟨p0,j0⟩:=c0.agr t0
 obtain ⟨j2,z1⟩:=AG p0 (.a0 (.a0 .done))
 have J1:=Tt g0 (Tt j0 z1)
 exact B0 (A0,s0,u0,v0) j2 (Tt k0 (Tt y0 J1)) ⟨(Ao z0 J1),(Ao q0 z1)⟩
 refine BC (m' :=219) (sk b0) rfl .plain rfl (Ay [.bool false,vN] d0) fun H0 u0 c0 g0=>Bn 2 223 b0 rfl .plain (bd 128) rfl (e1 rfl) (fun w9 hw9=>ai_c n (c0.hL hL hw9) a0.fN U0) rfl fun X0 W0 F0 ⟨A0,hu_,z0⟩=>?_
 subst hu_
 obtain ⟨x0,y0⟩:=c0.agr F0
 refine Bn 5 255 b0 rfl .plain (bd 128) rfl (e1 rfl) (fun w9 hw9=>ai_c n (x0.hL hL hw9) a0.fD C0) rfl fun E0 D0 t0 ⟨s0,hu_,q0⟩=>?_
 subst hu_
 obtain ⟨p0,j0⟩:=x0.agr t0
 obtain ⟨k2,c1⟩:=AG p0 (.a0 (.a0 .done))
 exact B0 (A0,s0,u0,v0) k2 (Tt k0 (Tt g0 (Tt y0 (Tt j0 c1)))) ⟨(Ao z0 (Tt j0 c1)),(Ao q0 c1)⟩
 refine BC (m' :=155) (sk b0) rfl .plain rfl (Ay [.bool false,vN] M0) fun H0 u0 c0 g0=>Bm [2,6] (rk b0) ⟨?_,?_,trivial⟩
 refine RO.call (m' :=159) (fst:=[]) (cap:=[]) (sk b0) rfl .plain (bd 128) rfl (e1 rfl) (fun w9 hw9=>ai_c n (c0.hL hL hw9) a0.fN U0) rfl fun X0 W0 F0 ⟨A0,hu_,z0⟩=>?_
 subst hu_
 obtain ⟨x0,y0⟩:=c0.agr F0
 refine Bm [5,6] (rk b0) ⟨?_,?_,trivial⟩
 refine RO.call (m' :=191) (fst:=[]) (cap:=[]) (sk b0) rfl .plain (bd 128) rfl (e1 rfl) (fun w9 hw9=>ai_c n (x0.hL hL hw9) a0.fD C0) rfl fun E0 D0 t0 ⟨s0,hu_,q0⟩=>?_
 subst hu_
 obtain ⟨p0,j0⟩:=x0.agr t0
 refine BN 6 255 b0 rfl .plain rfl (Ay [.bool false,vN] p0) fun I0 v0 d0 k0=>?_
 obtain ⟨p2,A1⟩:=AG d0 (.a1 (.a0 .done))
 have K1:=Tt j0 (Tt k0 A1)
 exact B0 (A0,s0,u0,v0) p2 (Tt g0 (Tt y0 K1)) ⟨(Ao z0 K1),(Ao q0 (Tt k0 A1))⟩
 refine BC (m' :=223) (sk b0) rfl .plain rfl (Ay [.bool false,vN] x0) fun I0 v0 d0 k0=>Bn 5 255 b0 rfl .plain (bd 128) rfl (e1 rfl) (fun w9 hw9=>ai_c n (d0.hL hL hw9) a0.fD C0) rfl fun E0 D0 t0 ⟨s0,hu_,q0⟩=>?_
 subst hu_
 obtain ⟨p0,j0⟩:=d0.agr t0
 obtain ⟨q2,B1⟩:=AG p0 (.a1 (.a0 .done))
 have M1:=Tt k0 (Tt j0 B1)
 exact B0 (A0,s0,u0,v0) q2 (Tt g0 (Tt y0 M1)) ⟨(Ao z0 M1),(Ao q0 B1)⟩
 refine BC (m' :=219) (sk b0) rfl .plain rfl (Ay [.bool false,vN] c0) fun I0 v0 d0 k0=>Bn 2 223 b0 rfl .plain (bd 128) rfl (e1 rfl) (fun w9 hw9=>ai_c n (d0.hL hL hw9) a0.fN U0) rfl fun X0 W0 F0 ⟨A0,hu_,z0⟩=>?_
 subst hu_
 obtain ⟨x0,y0⟩:=d0.agr F0
 refine Bn 5 255 b0 rfl .plain (bd 128) rfl (e1 rfl) (fun w9 hw9=>ai_c n (x0.hL hL hw9) a0.fD C0) rfl fun E0 D0 t0 ⟨s0,hu_,q0⟩=>?_
 subst hu_
 obtain ⟨p0,j0⟩:=x0.agr t0
 obtain ⟨s2,d1⟩:=AG p0 (.a1 (.a0 .done))
 exact B0 (A0,s0,u0,v0) s2 (Tt g0 (Tt k0 (Tt y0 (Tt j0 d1)))) ⟨(Ao z0 (Tt j0 d1)),(Ao q0 d1)⟩
def bD_p (n:Nat) (a0:Tc) (a1:Tc):Option Int:=
  (bS_p n a0 a1).bind fun b0=>(if b0.fc = true then some (-1:Int) else (if 0 < b0.fD.length then some (1:Int) else some (0:Int)))
theorem bD_c (n:Nat) {L w} (hL:hl L w) (a0:Tc) {v0_1:Value} (h0_1:Rep.R w L [v0_1] a0.fD) (a1:Tc) {v1_1:Value} (h1_1:Rep.R w L [v1_1] a1.fD)  {r:Int} (h:bD_p n a0 a1 = some r) :
 Cl 131 #[.agg #[.bool a0.fc,v0_1],.agg #[.bool a1.fc,v1_1]] w (Gives w fun _ u=>u = vI r):=by
 unfold bD_p at h
 refine AD Tryz.func131 rfl rfl rfl fun _ cs0 hb0=>Ac<|RG.bx (Az w) rfl rfl fun I0 A0 s0 D0=>RG.bx s0 rfl rfl fun J0 B0 b0 E0=>Af rfl<|Aa<|Ac<|Ab (AH rfl (b0.memA .t1))<|Ab (AH rfl (b0.memA .hd))<|bk h fun d0 y0 h=>AX (fst:=[]) (cap:=[]) .plain (bd 165) rfl (e2 rfl rfl) (fun w9 hw9=>bS_c n (b0.hL hL hw9) a0 (b0.km h0_1 hw9) a1 (b0.km h1_1 hw9) y0) rfl fun K0 H0 x0 ⟨z0,hu_,k0⟩=>?_
 subst hu_
 obtain ⟨t0,F0⟩:=b0.agr x0
 refine RG.nl [.bool false,vN] t0 fun M0 C0 u0 g0=>AQ [.bool d0.fc,z0] u0 .hd (o2 rfl (AO (Ao k0 g0))) fun P0 c0 v0=>Aa<|Aj<|Ac<|AR 0 rfl<|AP rfl ((c0.memA .hd) 0 _ rfl)<|Aa<|MX.ifb rfl h (fun p0 h=>?_) (fun p0 h=>?_)
 refine Ac<|Af rfl<|Aa<|Al rfl<|AW hb0 Tryz.func131 rfl rfl ?_
 cases h
 exact c0.gv
 refine Au<|Aj<|Ac<|AR 1 rfl<|AP rfl ((c0.memA .hd) 1 _ rfl) ?_
 have j0:=Ao k0 (Tt g0 v0)
 have G0:d0.fD.length <= 281474976710656:=AY j0
 refine Ab (Be (xs:=d0.fD) Tryz.underlying45 rfl j0)<|Ab (FV.gtrN (i:=d0.fD.length) (j:=0) rfl rfl)<|Aa<|AT rfl h (fun q0 h=>?_) (fun q0 h=>?_)
 refine Ac<|Af rfl<|Aa<|Al rfl<|AW hb0 Tryz.func131 rfl rfl ?_
 cases h
 exact c0.gv
 refine Au<|Ac<|Af rfl<|Aa<|Al rfl<|AW hb0 Tryz.func131 rfl rfl ?_
 cases h
 exact c0.gv
def cS_p (n:Nat) (a0:UInt64 × UInt64 × UInt64 × UInt64 × UInt64 × UInt64 × UInt64 × UInt64):Option Int:=
  (ai_p n a0).bind fun b0=>(bD_p n b0 (⟨false,([]:List Int)⟩:Tc)).bind fun c0=>some c0
theorem cS_c (n:Nat) {L w} (hL:hl L w) (a0:UInt64 × UInt64 × UInt64 × UInt64 × UInt64 × UInt64 × UInt64 × UInt64)  {r:Int} (h:cS_p n a0 = some r) :
 Cl 91 #[.agg ((cs_A34 a0)).toArray] w (Gives w fun _ u=>u = vI r):=by
 unfold cS_p at h
 refine AD Tryz.func91 rfl rfl rfl fun _ cs0 hb0=>Ac<|RG.bx (Az w) rfl rfl fun y0 s0 b0 t0=>Af rfl<|Aa<|Ac<|Ab (AH rfl (b0.memA .hd))<|bk h fun p0 j0 h=>AX (fst:=[]) (cap:=[]) .plain (bd 128) rfl (e1 rfl) (fun w9 hw9=>ai_c n (b0.hL hL hw9) a0 j0) rfl fun z0 x0 d0 ⟨v0,hu_,g0⟩=>?_
 subst hu_
 obtain ⟨c0,u0⟩:=b0.agr d0
 refine Ab (AU (vs:=[]) (u:=.agg #[.bool false,vN]) evs_nil (fun w9=>by kernel_rfl))<|bk h fun q0 k0 h=>Ba (vI q0) (bd 131) rfl (e2 rfl rfl) (fun w9 hw9=>bD_c n (c0.hL0 hL hw9) p0 (c0.kd g0 hw9) (⟨false,([]:List Int)⟩:Tc) (Aq (Rep.nilSlice _ _) hw9) k0) rfl<|Af rfl<|Aa<|Al rfl<|AW hb0 Tryz.func91 rfl rfl ?_
 cases h
 exact c0.gv
def ck_p (n:Nat) (a0:Ta):Option (Int × Int):=
  (ah_p n a0).bind fun b0=>(if b0 = true then (cS_p n a0.fN).bind fun c0=>some (c0,(0:Int)) else some ((0:Int),(20:Int)))
theorem ck_c (n:Nat) {L w} (hL:hl L w) (a0:Ta)  {r:Int × Int} (h:ck_p n a0 = some r) :
 Cl 40 #[.agg ((cs_Ta a0)).toArray] w (Gives w fun _ u=>u = .tuple #[vI r.1,vI r.2]):=by
 unfold ck_p at h
 refine AD Tryz.func40 rfl rfl rfl fun _ cs0 hb0=>Ac<|RG.bx (Az w) rfl rfl fun s0 p0 b0 q0=>Af rfl<|Af rfl<|Aa<|Aj<|Ac<|Ab (AH rfl (b0.memA .hd))<|bk h fun j0 d0 h=>Ba (.bool j0) (bd 90) rfl (e1 rfl) (fun w9 hw9=>ah_c n (b0.hL0 hL hw9) a0 d0) rfl<|Ab (Bp rfl)<|Aa<|BU rfl h (fun c0 h=>?_) (fun c0 h=>?_)
 refine Au<|Ac<|AR 0 rfl<|Ab (Bc (cs:=(cs_A34 a0.fN)) (by kernel_rfl) rfl (mem_part (b0.memA .hd) 0 8))<|bk h fun k0 g0 h=>Ba (vI k0) (bd 91) rfl (e1 rfl) (fun w9 hw9=>cS_c n (b0.hL0 hL hw9) a0.fN g0) rfl<|Af rfl<|Af rfl<|Aa<|Al rfl<|Am hb0 Tryz.func40 rfl (.cons (.tmp rfl) (.cons (.tmp rfl) .nil)) rfl ?_
 cases h
 exact b0.gv
 refine Ac<|Af rfl<|Af rfl<|Aa<|Al rfl<|Am hb0 Tryz.func40 rfl (.cons (.tmp rfl) (.cons (.tmp rfl) .nil)) rfl ?_
 cases h
 exact b0.gv
end Go.Proofs.YtgejkdheojkfiaaGreatDoor
