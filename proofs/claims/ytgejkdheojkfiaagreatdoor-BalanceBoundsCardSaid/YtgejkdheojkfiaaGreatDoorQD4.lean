/- Functions of the program, and what they give: part 3. -/
import Derived.Test.YtgejkdheojkfiaaGreatDoorQD2
namespace Go.Proofs.YtgejkdheojkfiaaGreatDoor
open Go Go.RowKit
set_option maxRecDepth 4000
set_option maxHeartbeats 4000000

theorem op_A34 {w:World} {L:List Nat} {cs:List Value} {x:UInt64 × UInt64 × UInt64 × UInt64 × UInt64 × UInt64 × UInt64 × UInt64} (h:Rep.R w L cs x):cs = [vU x.1,vU x.2.1,vU x.2.2.1,vU x.2.2.2.1,vU x.2.2.2.2.1,vU x.2.2.2.2.2.1,vU x.2.2.2.2.2.2.1,vU x.2.2.2.2.2.2.2]:=by
  obtain ⟨c0,r0,rfl,h0,h⟩:=h
  have e0:c0 = [vU x.1]:=h0; subst e0
  obtain ⟨c1,r1,rfl,h1,h⟩:=h
  have e1:c1 = [vU x.2.1]:=h1; subst e1
  obtain ⟨c2,r2,rfl,h2,h⟩:=h
  have e2:c2 = [vU x.2.2.1]:=h2; subst e2
  obtain ⟨c3,r3,rfl,h3,h⟩:=h
  have e3:c3 = [vU x.2.2.2.1]:=h3; subst e3
  obtain ⟨c4,r4,rfl,h4,h⟩:=h
  have e4:c4 = [vU x.2.2.2.2.1]:=h4; subst e4
  obtain ⟨c5,r5,rfl,h5,h⟩:=h
  have e5:c5 = [vU x.2.2.2.2.2.1]:=h5; subst e5
  obtain ⟨c6,r6,rfl,h6,h⟩:=h
  have e6:c6 = [vU x.2.2.2.2.2.2.1]:=h6; subst e6
  have e7:r6 = [vU x.2.2.2.2.2.2.2]:=h; subst e7
  rfl
theorem mk_A34 {w:World} {L:List Nat} (a0:UInt64) (a1:UInt64) (a2:UInt64) (a3:UInt64) (a4:UInt64) (a5:UInt64) (a6:UInt64) (a7:UInt64):Rep.R w L [vU a0,vU a1,vU a2,vU a3,vU a4,vU a5,vU a6,vU a7] ((a0,a1,a2,a3,a4,a5,a6,a7):UInt64 × UInt64 × UInt64 × UInt64 × UInt64 × UInt64 × UInt64 × UInt64):=⟨[vU a0],[vU a1,vU a2,vU a3,vU a4,vU a5,vU a6,vU a7],rfl,rfl,⟨[vU a1],[vU a2,vU a3,vU a4,vU a5,vU a6,vU a7],rfl,rfl,⟨[vU a2],[vU a3,vU a4,vU a5,vU a6,vU a7],rfl,rfl,⟨[vU a3],[vU a4,vU a5,vU a6,vU a7],rfl,rfl,⟨[vU a4],[vU a5,vU a6,vU a7],rfl,rfl,⟨[vU a5],[vU a6,vU a7],rfl,rfl,⟨[vU a6],[vU a7],rfl,rfl,rfl⟩⟩⟩⟩⟩⟩⟩
theorem ex_A34 {a b:UInt64 × UInt64 × UInt64 × UInt64 × UInt64 × UInt64 × UInt64 × UInt64} (h0:a.1 = b.1) (h1:a.2.1 = b.2.1) (h2:a.2.2.1 = b.2.2.1) (h3:a.2.2.2.1 = b.2.2.2.1) (h4:a.2.2.2.2.1 = b.2.2.2.2.1) (h5:a.2.2.2.2.2.1 = b.2.2.2.2.2.1) (h6:a.2.2.2.2.2.2.1 = b.2.2.2.2.2.2.1) (h7:a.2.2.2.2.2.2.2 = b.2.2.2.2.2.2.2):a = b:=Prod.ext h0 (Prod.ext h1 (Prod.ext h2 (Prod.ext h3 (Prod.ext h4 (Prod.ext h5 (Prod.ext h6 (h7)))))))
theorem eqlD_35 (a b:UInt64 × UInt64 × UInt64 × UInt64 × UInt64 × UInt64 × UInt64 × UInt64) (w9:World):(do eqGuard .eql 35 (.tmp 0) (.tmp 0) (.agg #[vU a.1,vU a.2.1,vU a.2.2.1,vU a.2.2.2.1,vU a.2.2.2.2.1,vU a.2.2.2.2.2.1,vU a.2.2.2.2.2.2.1,vU a.2.2.2.2.2.2.2]) (.agg #[vU b.1,vU b.2.1,vU b.2.2.1,vU b.2.2.2.1,vU b.2.2.2.2.1,vU b.2.2.2.2.2.1,vU b.2.2.2.2.2.2.1,vU b.2.2.2.2.2.2.2]); binOp .eql 35 (.agg #[vU a.1,vU a.2.1,vU a.2.2.1,vU a.2.2.2.1,vU a.2.2.2.2.1,vU a.2.2.2.2.2.1,vU a.2.2.2.2.2.2.1,vU a.2.2.2.2.2.2.2]) (.agg #[vU b.1,vU b.2.1,vU b.2.2.1,vU b.2.2.2.1,vU b.2.2.2.2.1,vU b.2.2.2.2.2.1,vU b.2.2.2.2.2.2.1,vU b.2.2.2.2.2.2.2]):Sem Value).run Tryz.prog w9 = .ok (.bool (decide (a = b))) w9:=
  eqAgg (ks:=[.int .u64,.int .u64,.int .u64,.int .u64,.int .u64,.int .u64,.int .u64,.int .u64]) (xs:=[vU a.1,vU a.2.1,vU a.2.2.1,vU a.2.2.2.1,vU a.2.2.2.2.1,vU a.2.2.2.2.2.1,vU a.2.2.2.2.2.2.1,vU a.2.2.2.2.2.2.2]) (ys:=[vU b.1,vU b.2.1,vU b.2.2.1,vU b.2.2.2.1,vU b.2.2.2.2.1,vU b.2.2.2.2.2.1,vU b.2.2.2.2.2.2.1,vU b.2.2.2.2.2.2.2]) (by kernel_rfl) (by kernel_rfl) (by kernel_rfl) rfl rfl ⟨fun h=>by
    simp only [allEq,veq,Bool.and_eq_true,beq_iff_eq,and_true] at h
    obtain ⟨h0,h1,h2,h3,h4,h5,h6,h7⟩:=h
    exact ex_A34 (UInt_inj64 h0) (UInt_inj64 h1) (UInt_inj64 h2) (UInt_inj64 h3) (UInt_inj64 h4) (UInt_inj64 h5) (UInt_inj64 h6) (UInt_inj64 h7),fun h=>by subst h; simp [allEq,veq]⟩ _ _ w9
def dN_p (n:Nat) (a0:UInt64 × UInt64 × UInt64 × UInt64 × UInt64 × UInt64 × UInt64 × UInt64) (a1:UInt64 × UInt64 × UInt64 × UInt64 × UInt64 × UInt64 × UInt64 × UInt64):Option (Ta × Int):=
  (if a1 = ((0:UInt64),(0:UInt64),(0:UInt64),(0:UInt64),(0:UInt64),(0:UInt64),(0:UInt64),(0:UInt64)) then some ((⟨((0:UInt64),(0:UInt64),(0:UInt64),(0:UInt64),(0:UInt64),(0:UInt64),(0:UInt64),(0:UInt64)),((0:UInt64),(0:UInt64),(0:UInt64),(0:UInt64),(0:UInt64),(0:UInt64),(0:UInt64),(0:UInt64))⟩:Ta),(7:Int)) else (cd_p n a0).bind fun c0=>(cd_p n a1).bind fun d0=>(ci_p n c0 d0).bind fun g0=>(bW_p n g0).bind fun b0=>some (b0.1,b0.2))
theorem dN_c (n:Nat) {L w} (hL:hl L w) (a0:UInt64 × UInt64 × UInt64 × UInt64 × UInt64 × UInt64 × UInt64 × UInt64) (a1:UInt64 × UInt64 × UInt64 × UInt64 × UInt64 × UInt64 × UInt64 × UInt64)  {r:Ta × Int} (h:dN_p n a0 a1 = some r) :
 Cl 112 #[.agg ((cs_A34 a0)).toArray,.agg ((cs_A34 a1)).toArray] w (Gives w fun _ u=>u = .tuple #[.agg ((cs_Ta r.1)).toArray,vI r.2]):=by
 unfold dN_p at h
 refine AD Tryz.func112 rfl rfl rfl fun _ cs0 hb0=>Ac<|RG.bx (Az w) rfl rfl fun s1 P0 u0 U0=>RG.bx u0 rfl rfl fun u1 Q0 v0 V0=>RG.nl zL v0 fun v1 R0 c0 W0=>Af rfl<|Aa<|Aj<|Ac<|Ab (AH rfl (c0.memA .t1))<|Ab (AU (vs:=[]) (u:=.agg zQ) evs_nil (fun w9=>by kernel_rfl))<|Ab (FV.eqlV (v:=.agg ((cs_A34 a1)).toArray) (u:=.agg zQ) rfl rfl (eqlD_35 a1 ((0:UInt64),(0:UInt64),(0:UInt64),(0:UInt64),(0:UInt64),(0:UInt64),(0:UInt64),(0:UInt64))))<|Aa<|AT rfl h (fun t0 h=>?_) (fun t0 h=>?_)
 refine Ac<|Ab (AU (vs:=[]) (u:=.agg zM) evs_nil (fun w9=>by kernel_rfl))<|AQ zL c0 .hd (onesB rfl) fun x1 k0 X0=>Af rfl<|Aa<|Al rfl<|Am hb0 Tryz.func112 rfl (.cons (.many (cs:=zL) (by kernel_rfl) rfl (k0.memA .hd)) (.cons (.tmp rfl) .nil)) rfl ?_
 cases h
 exact k0.gv
 refine Au<|Aj<|du 8 fun b0 d0=>Rx 0 1018 b0 rfl d0 (AH rfl (c0.memA .t2))<|Rx 2 1016 b0 rfl d0 (AH rfl (c0.memA .t1))<|bk h fun J0 F0 h=>Bn 1 7 b0 rfl .plain (bd 151) rfl (e1 rfl) (fun w9 hw9=>cd_c n (c0.hL hL hw9) a0 F0) rfl fun y1 k1 y0 ⟨c1,hu_,B0⟩=>?_
 subst hu_
 obtain ⟨p0,Y0⟩:=c0.agr y0
 refine bk h fun K0 G0 h=>Bn 3 15 b0 rfl .plain (bd 151) rfl (e1 rfl) (fun w9 hw9=>cd_c n (p0.hL hL hw9) a1 G0) rfl fun z1 p1 z0 ⟨d1,hu_,C0⟩=>?_
 subst hu_
 obtain ⟨q0,x0⟩:=p0.agr z0
 refine bk h fun M0 H0 h=>Bn 4 31 b0 rfl .plain (bd 149) rfl (e2 rfl rfl) (fun w9 hw9=>ci_c n (q0.hL hL hw9) J0 (Aq (Ao B0 x0) hw9) K0 (Aq C0 hw9) H0) rfl fun A1 q1 A0 ⟨g1,j1,hu_,D0,E0⟩=>?_
 subst hu_
 obtain ⟨g0,Z0⟩:=q0.agr A0
 refine bk h fun j0 I0 h=>BO 5 63 960 (.tuple #[.agg ((cs_Ta j0.1)).toArray,vI j0.2]) b0 rfl d0 (bd 147) rfl (e1 rfl) (fun w9 hw9=>bW_c n (g0.hL0 hL hw9) M0 (g0.kd D0 hw9) (g0.kd E0 hw9) I0) rfl<|Rv 6 b0 rfl d0 (fun _=>Ag rfl rfl)<|Rv 7 b0 rfl d0 (fun _=>Ag rfl rfl)<|BE 8 511 b0 rfl rfl .plain (AF (news:=(cs_Ta j0.1)) g0 .hd rfl rfl rfl rfl rfl rfl (onesB rfl)) fun B1 s0 b1=>Bf (i:=9) (rk b0) (Bs (m' :=1023) (sk b0) rfl .plain rfl (AV rfl) ?_)
 refine AN (dk b0)<|Al rfl<|Am hb0 Tryz.func112 rfl (.cons (.many (cs:=(cs_Ta j0.1)) (by kernel_rfl) rfl (s0.memA .hd)) (.cons (.tmp rfl) .nil)) rfl ?_
 cases h
 exact s0.gv
def dq_l1 (_n:Nat) (t0:Nat × UInt64 × UInt64 × UInt64 × UInt64 × UInt64 × UInt64 × UInt64 × UInt64 -> Option (UInt64 × UInt64 × UInt64 × UInt64 × UInt64 × UInt64 × UInt64 × UInt64)):Nat × UInt64 × UInt64 × UInt64 × UInt64 × UInt64 × UInt64 × UInt64 × UInt64 -> Option (UInt64 × UInt64 × UInt64 × UInt64 × UInt64 × UInt64 × UInt64 × UInt64)
  | (b0,c0,d0,g0,j0,k0,p0,q0,s0)=>(if b0 < 8 then (([c0,d0,g0,j0,k0,p0,q0,s0]:List UInt64)[b0]?).bind fun _z71=>t0 (b0 + 1,setA b0 0 (18446744073709551615:UInt64) c0,setA b0 1 (18446744073709551615:UInt64) d0,setA b0 2 (18446744073709551615:UInt64) g0,setA b0 3 (18446744073709551615:UInt64) j0,setA b0 4 (18446744073709551615:UInt64) k0,setA b0 5 (18446744073709551615:UInt64) p0,setA b0 6 (18446744073709551615:UInt64) q0,setA b0 7 (18446744073709551615:UInt64) s0) else some (c0,d0,g0,j0,k0,p0,q0,s0))
def dq_p (n:Nat) (a0:Int):Option (UInt64 × UInt64 × UInt64 × UInt64 × UInt64 × UInt64 × UInt64 × UInt64):=
  (if a0 < 0 then Option.bind (loopF (dq_l1 n) n (1,u64of a0,(0:UInt64),(0:UInt64),(0:UInt64),(0:UInt64),(0:UInt64),(0:UInt64),(0:UInt64))) (fun (b0,c0,d0,g0,j0,k0,p0,q0)=>some (b0,c0,d0,g0,j0,k0,p0,q0)) else some (u64of a0,(0:UInt64),(0:UInt64),(0:UInt64),(0:UInt64),(0:UInt64),(0:UInt64),(0:UInt64)))
theorem dq_c (n:Nat) {L w} (_hL:hl L w) {a0:Int}  {r:UInt64 × UInt64 × UInt64 × UInt64 × UInt64 × UInt64 × UInt64 × UInt64} (h:dq_p n a0 = some r) :
 Cl 113 #[vI a0] w (Gives w fun _ u=>u = .agg ((cs_A34 r)).toArray):=by
 unfold dq_p at h
 refine AD Tryz.func113 rfl rfl rfl fun _ cs0 hb0=>Ac<|RG.nl zP (Az w) fun Y0 y0 E0 P0=>Aa<|Ac<|Ae rfl<|Ab (FV.convU (i:=a0) Tryz.underlying3 Tryz.underlying33 rfl)<|Ab (AU (vs:=[vW ((u64of a0).toNat:Int)]) (u:=.agg #[vW ((u64of a0).toNat:Int),vW 0,vW 0,vW 0,vW 0,vW 0,vW 0,vW 0]) (e1 rfl) (fun w9=>by kernel_rfl))<|RG.nl zP E0 fun Z0 u0 F0 Q0=>AQ [vW ((u64of a0).toNat:Int),vW 0,vW 0,vW 0,vW 0,vW 0,vW 0,vW 0] F0 .hd (onesB rfl) fun b1 v0 R0=>Aa<|Aj<|Ac<|Ae rfl<|Ab (BS (i:=a0) (j:=0) rfl rfl)<|Aa<|AT rfl h (fun B0 h=>?_) (fun B0 h=>?_)
 refine Ac<|Af rfl<|Aa<|AA ?_
 obtain ⟨X0,K0,J0⟩:=bind_in2 h
 refine MX.lo (α:=Nat × UInt64 × UInt64 × UInt64 × UInt64 × UInt64 × UInt64 × UInt64 × UInt64) (fun ⟨b0,c0,d0,g0,j0,k0,p0,q0,s0⟩=>[(2,vP y0),(3,vP u0),(4,vI ((b0:Nat):Int))]) (fun ⟨b0,c0,d0,g0,j0,k0,p0,q0,s0⟩=>[.cells u0 [vU c0,vU d0,vU g0,vU j0,vU k0,vU p0,vU q0,vU s0] 35,.cells y0 zP 35]) (fun ⟨b0,c0,d0,g0,j0,k0,p0,q0,s0⟩=>(b0,c0,d0,g0,j0,k0,p0,q0,s0)) (1,u64of a0,(0:UInt64),(0:UInt64),(0:UInt64),(0:UInt64),(0:UInt64),(0:UInt64),(0:UInt64)) K0 v0 ?_
 rintro M0 ⟨b0,c0,d0,g0,j0,k0,p0,q0,s0⟩ j1 D0 t0 H0 h
 unfold dq_l1 at h
 try dsimp only at h
 refine Aj<|Ac<|Ae rfl<|Ab (Bu (i:=b0) (j:=8) rfl rfl)<|Aa<|AT rfl h (fun C0 h=>?_) (fun C0 h=>?_)
 refine Au<|Aj<|AA<|Av<|Ae rfl<|bk h fun k1 x0 h=>?_
 have W0:=mem_elem1 (p:=⟨u0,0,none⟩) (cs:=([c0,d0,g0,j0,k0,p0,q0,s0]:List UInt64).map (fun z9:UInt64=>(vU z9:Value)) ++ []) (i:=b0) (t0.memA .hd) (arr_get (fun z9:UInt64=>(vU z9:Value)) x0)
 refine Ab (Bg (m:=1) (k:=b0) (len:=8) (by kernel_rfl) rfl rfl rfl (arr_lt x0 rfl))<|RG.now .plain (Acts.storeArr (fun z9:UInt64=>(vU z9:Value)) (xs:=([c0,d0,g0,j0,k0,p0,q0,s0]:List UInt64)) (pre:=[]) (post:=[]) (i:=b0) (m:=8) (x:=(18446744073709551615:UInt64)) (old:=[vU c0,vU d0,vU g0,vU j0,vU k0,vU p0,vU q0,vU s0]) (new' :=[vW ((setA b0 0 (18446744073709551615:UInt64) c0).toNat:Int),vW ((setA b0 1 (18446744073709551615:UInt64) d0).toNat:Int),vW ((setA b0 2 (18446744073709551615:UInt64) g0).toNat:Int),vW ((setA b0 3 (18446744073709551615:UInt64) j0).toNat:Int),vW ((setA b0 4 (18446744073709551615:UInt64) k0).toNat:Int),vW ((setA b0 5 (18446744073709551615:UInt64) p0).toNat:Int),vW ((setA b0 6 (18446744073709551615:UInt64) q0).toNat:Int),vW ((setA b0 7 (18446744073709551615:UInt64) s0).toNat:Int)]) rfl rfl (arr_lt x0 rfl) t0 .hd rfl (addr_at _ _ _) rfl (by kernel_rfl) (fun _=>⟨rfl,rfl⟩) rfl rfl) fun c1 G0 I0=>Aa<|AC<|Av<|Ae rfl<|Ab (Bw (i:=b0) (j:=1) rfl rfl (by omega))<|Af rfl<|Aa<|D0 (b0 + 1,setA b0 0 (18446744073709551615:UInt64) c0,setA b0 1 (18446744073709551615:UInt64) d0,setA b0 2 (18446744073709551615:UInt64) g0,setA b0 3 (18446744073709551615:UInt64) j0,setA b0 4 (18446744073709551615:UInt64) k0,setA b0 5 (18446744073709551615:UInt64) p0,setA b0 6 (18446744073709551615:UInt64) q0,setA b0 7 (18446744073709551615:UInt64) s0) G0 (Tt H0 I0) h
 refine Bd rfl ?_
 have h:=J0 _ h
 try dsimp only at h
 refine Ac<|Ab (AH rfl (t0.memA .hd))<|AQ [vU c0,vU d0,vU g0,vU j0,vU k0,vU p0,vU q0,vU s0] t0 .t1 (onesB rfl) fun d1 z0 U0=>Aa<|Al rfl<|Am hb0 Tryz.func113 rfl (.cons (.many (cs:=[vU c0,vU d0,vU g0,vU j0,vU k0,vU p0,vU q0,vU s0]) (by kernel_rfl) rfl (z0.memA .t1)) .nil) rfl ?_
 cases h
 exact z0.gv
 refine Au<|Ac<|Ab (AH rfl (v0.memA .hd))<|AQ [vW ((u64of a0).toNat:Int),vW 0,vW 0,vW 0,vW 0,vW 0,vW 0,vW 0] v0 .t1 (onesB rfl) fun g1 A0 V0=>Aa<|Al rfl<|Am hb0 Tryz.func113 rfl (.cons (.many (cs:=[vW ((u64of a0).toNat:Int),vW 0,vW 0,vW 0,vW 0,vW 0,vW 0,vW 0]) (by kernel_rfl) rfl (A0.memA .t1)) .nil) rfl ?_
 cases h
 exact A0.gv
def dJ_p (n:Nat) (a0:Int) (a1:Int):Option (Ta × Int):=
  (dq_p n a0).bind fun c0=>(dq_p n a1).bind fun d0=>(dN_p n c0 d0).bind fun b0=>some (b0.1,b0.2)
theorem dJ_c (n:Nat) {L w} (hL:hl L w) {a0:Int} {a1:Int}  {r:Ta × Int} (h:dJ_p n a0 a1 = some r) :
 Cl 68 #[vI a0,vI a1] w (Gives w fun _ u=>u = .tuple #[.agg ((cs_Ta r.1)).toArray,vI r.2]):=by
 unfold dJ_p at h
 refine AD Tryz.func68 rfl rfl rfl fun _ cs0 hb0=>Ac<|RG.nl zL (Az w) fun v0 s0 b0 t0=>Af rfl<|Aa<|Ac<|Ae rfl<|bk h fun g0 k0 h=>Ba (.agg ((cs_A34 g0)).toArray) (bd 113) rfl (e1 rfl) (fun w9 hw9=>dq_c n (b0.hL0 hL hw9)  k0) rfl<|Ae rfl<|bk h fun j0 p0 h=>Ba (.agg ((cs_A34 j0)).toArray) (bd 113) rfl (e1 rfl) (fun w9 hw9=>dq_c n (b0.hL0 hL hw9)  p0) rfl<|bk h fun c0 q0 h=>Ba (.tuple #[.agg ((cs_Ta c0.1)).toArray,vI c0.2]) (bd 112) rfl (e2 rfl rfl) (fun w9 hw9=>dN_c n (b0.hL0 hL hw9) g0 j0 q0) rfl<|Ab (Ag rfl rfl)<|Ab (Ag rfl rfl)<|AQ (cs_Ta c0.1) b0 .hd (onesB rfl) fun x0 d0 u0=>Af rfl<|Aa<|Al rfl<|Am hb0 Tryz.func68 rfl (.cons (.many (cs:=(cs_Ta c0.1)) (by kernel_rfl) rfl (d0.memA .hd)) (.cons (.tmp rfl) .nil)) rfl ?_
 cases h
 exact d0.gv
def aT_p (n:Nat) (a0:Int) (a1:Int):Option (Except Tg Ta):=
  (dJ_p n a0 a1).bind fun b0=>(ab_p n b0.1 b0.2).bind fun d0=>exc d0 (fun g0=>some (.ok g0)) (fun c0=>some (.error c0))
theorem aT_c (n:Nat) {L w} (hL:hl L w) {a0:Int} {a1:Int}  {r:Except Tg Ta} (h:aT_p n a0 a1 = some r) :
 Cl 53 #[vI a0,vI a1] w (PGives w (fun (y:Ta) _ u=>u = .agg ((cs_Ta y)).toArray) (fun e=>.iface 120 (.agg #[vI e.fB])) r):=by
 unfold aT_p at h
 refine MX.startP Tryz.func53 rfl rfl rfl fun _ cs0 hb0 hp0=>Ac<|RG.nl zL (Az w) fun y0 s0 b0 u0=>Aa<|Ac<|Ae rfl<|Ae rfl<|bk h fun c0 q0 h=>Ba (.tuple #[.agg ((cs_Ta c0.1)).toArray,vI c0.2]) (bd 68) rfl (e2 rfl rfl) (fun w9 hw9=>dJ_c n (b0.hL0 hL hw9)  q0) rfl<|Ab (Ag rfl rfl)<|Ab (Ag rfl rfl)<|xk h (fun t0 d0 h=>?_) (fun g0 d0 h=>?_)
 refine BH (fst:=[]) (cap:=[]) .plain (bd 64) rfl (e2 rfl rfl) (fun w9 hw9=>ab_c n (b0.hL0 hL hw9) c0.1 d0) fun z0 p0=>?_
 obtain ⟨k0,v0⟩:=b0.agr p0
 cases h
 exact Bl hp0 Tryz.func53 ⟨k0.ag,rfl⟩
 refine Ba (.agg ((cs_Ta g0)).toArray) (bd 64) rfl (e2 rfl rfl) (fun w9 hw9=>Bi (ab_c n (b0.hL0 hL hw9) c0.1 d0)) rfl<|AQ (cs_Ta g0) b0 .hd (onesB rfl) fun A0 j0 x0=>Aa<|Al rfl<|Am hb0 Tryz.func53 rfl (.cons (.many (cs:=(cs_Ta g0)) (by kernel_rfl) rfl (j0.memA .hd)) .nil) rfl ?_
 cases h
 exact ⟨j0.ag,fun w9 hw9=>okOf_in rfl⟩
theorem dL_c (_n:Nat) {L w} (_hL:hl L w) (a0:Tl) {v0_3:Value} (_h0_3:Rep.R w L [v0_3] a0.fA.fo)  :
 Cl 101 #[.agg #[vI a0.fA.fe,vI a0.fA.fh,vI a0.fA.fj,v0_3,vI a0.fk]] w (Gives w fun w' u=>∃ b0:Nat,u = .func (.func 141) #[] #[vP b0]/\St w w' [.cells b0 [vI a0.fA.fe,vI a0.fA.fh,vI a0.fA.fj,v0_3,vI a0.fk] 87]):=by
 refine AD Tryz.func101 rfl rfl rfl fun _ cs0 hb0=>Ac<|RG.bx (Az w) rfl rfl fun g0 b0 c0 d0=>Af rfl<|Aa<|Ac<|Ab (BW (vs:=[]) (us:=[vP b0]) evs_nil (e1 rfl))<|Af rfl<|Aa<|Al rfl<|Am (u:=.func (.func 141) #[] #[vP b0]) hb0 Tryz.func101 rfl (.cons (.tmp rfl) .nil) rfl<|⟨c0.ag,fun w9 hw9=>⟨b0,rfl,c0.agree hw9⟩⟩
def ay_l1 (_n:Nat) (a0:Tl) (g0:Nat × Int -> Option (Int ⊕ Int)):Nat × Int -> Option (Int ⊕ Int)
  | (b0,c0)=>(if b0 < a0.fA.fo.length then (a0.fA.fo[b0]?).bind fun d0=>(if d0.fu = true then some (.inl c0) else (chk (c0 + d0.fv)).bind fun j0=>g0 (b0 + 1,j0)) else some (.inr c0))
def ay_p (n:Nat) (a0:Tl):Option Int:=
  thn (loopF (ay_l1 n a0) n (0,0)) (fun b0=>some b0)
theorem ay_c (n:Nat) {L w} (hL:hl L w) (a0:Tl) {v0_3:Value} (h0_3:Rep.R w L [v0_3] a0.fA.fo)  {r:Int} (h:ay_p n a0 = some r) :
 Cl 54 #[.agg #[vI a0.fA.fe,vI a0.fA.fh,vI a0.fA.fj,v0_3,vI a0.fk]] w (Gives w fun _ u=>u = vI r):=by
 unfold ay_p at h
 refine AD Tryz.func54 rfl rfl rfl fun _ cs0 hb0=>Ac<|RG.bx (Az w) rfl rfl fun M2 Q0 X0 k2=>RG.nl [vI 0] X0 fun V1 R0 j0 p2=>Aa<|Aj<|Ac<|Ab (AH rfl (j0.memA .t1))<|AX (fst:=[]) (cap:=[]) .plain (bd 101) rfl (e1 rfl) (fun w9 hw9=>Calls.gives (dL_c n (j0.hL hL hw9) a0 (j0.km h0_3 hw9)) fun (w8:World) (u8:Value) ⟨b0_,hu_,s_⟩=>(⟨b0_,hu_,s_.from hw9⟩:∃ g0:Nat,u8 = Value.func (.func 141) #[] #[vP g0]/\St V1 w8 [.cells g0 [vI a0.fA.fe,vI a0.fA.fh,vI a0.fA.fj,v0_3,vI a0.fk] 87])) rfl fun X2 K2 F2 ⟨g0,P1,M0⟩=>?_
 subst P1
 have D2:=mk_tr1 j0 M0
 refine Aa<|AA<|MX.rangeP (lb:=[vP g0]) rfl (mk_push1 j0 M0) rfl (bd 141) Tryz.func141 rfl rfl rfl fun k3 J0 P0 R1 j2 u0 E2 U1 D0 I2=>Ac<|AR 0 rfl<|AR 3 rfl<|AP rfl ((mem_from (u0.memA .t2) 0) 3 _ rfl) ?_
 have F0:=AS h0_3 u0
 have G2:a0.fA.fo.length <= 281474976710656:=AY F0
 refine Ab (Be (xs:=a0.fA.fo) Tryz.underlying42 rfl F0)<|Ae rfl<|Aa<|AA<|tn h fun J2 J1 E0=>MX.lo (α:=Nat × Int) (fun ⟨b0,d0⟩=>[(0,.func (.yield J0) #[] #[]),(7,v0_3),(8,vI ((a0.fA.fo.length:Nat):Int)),(9,vI ((b0:Nat):Int))]) (fun ⟨b0,d0⟩=>[.obj J0 (lpO R1 .ready none),.obj P0 (.deferred (some [])),.cells g0 [vI a0.fA.fe,vI a0.fA.fh,vI a0.fA.fj,v0_3,vI a0.fk] 87,.cells R0 [vI d0] 3,.cells Q0 [vI a0.fA.fe,vI a0.fA.fh,vI a0.fA.fj,v0_3,vI a0.fk] 87]) (fun ⟨b0,d0⟩=>(b0,d0)) (0,0) J1 u0 ?_
 rintro X1 ⟨b0,d0⟩ p3 W0 s0 x1 h
 unfold ay_l1 at h
 try dsimp only at h
 refine Ac<|Ab (Bu (i:=b0) (j:=a0.fA.fo.length) rfl rfl)<|Aa<|Aj<|AT rfl h (fun U0 h=>?_) (fun U0 h=>?_)
 refine Au<|Aj<|AA<|Ac<|Ae rfl<|bk h fun c0 Q1 h=>?_
 obtain ⟨W1,b2,G1,H1,c2,K1,I1⟩:=Br (AS h0_3 s0) Q1
 obtain ⟨v0,x0,y0,rfl,G0,H0,I0⟩:=op_Tb K1
 refine Ab (Bq 6 b0 rfl G1 rfl rfl H1)<|Ab (AH rfl I1)<|RG.nl [.string ⟨#[]⟩,vI 0,vN,vN,vN,.bool false] s0 fun P2 Y1 Y0 p0=>Af rfl<|AQ [.string c0.fx,vI c0.fv,v0,x0,y0,.bool c0.fu] Y0 .hd (o6 rfl rfl (AO (Ao G0 p0)) (AO (Ao H0 p0)) (AO (Ao I0 p0)) rfl) fun Q2 k0 y1=>Aa<|Ac<|AR 5 rfl<|AP rfl ((k0.memA .hd) 5 _ rfl)<|Ae rfl<|RG.ifb (s:=16) rfl h (fun V0 h=>?_) (fun V0 h=>?_)
 refine Ap<|Ap<|Ap<|Ap<|Ap<|Bh rfl rfl<|Aa<|Bk rfl ?_
 have h:=thn_inl h E0
 refine Al rfl<|Am (u:=.tuple #[]) D0 Tryz.func141 rfl .nil rfl<|MX.endRange0 k0 .t1 (by intro h9; cases h9) fun R2 Z0 q2=>?_
 obtain ⟨z0,s2⟩:=AG Z0 (.a0 .d1)
 refine AC<|Ac<|AP rfl ((z0.memA .t3) 0 _ rfl)<|AQ [vI d0] z0 .t3 (o1 rfl) fun U2 b1 u2=>Aa<|Al rfl<|RT.take b1 .t1 fun V2 c1 v2=>?_
 obtain ⟨A0,x2⟩:=AG c1 (.a0 .d1)
 refine Am hb0 Tryz.func54 rfl (.cons (.one (by kernel_rfl) rfl ((A0.memA .t2) 0 _ rfl)) .nil) rfl ?_
 cases h
 exact A0.gv
 refine AE (Ai rfl)<|AE (Ai rfl)<|AE (AH rfl (k0.memA .hd))<|RG.yieldP (fd:=54) (vs:=[vI ((b0:Nat):Int),.agg #[.string c0.fx,vI c0.fv,v0,x0,y0,.bool c0.fu]]) (.yes rfl rfl) rfl (e2 rfl rfl) k0 .t1 U1 rfl rfl rfl fun g2 F1 H2=>Av<|RG.nl [.string ⟨#[]⟩,vI 0,vN,vN,vN,.bool false] k0 fun W2 Z1 g1 z1=>?_
 have q0:=Tt p0 (Tt y1 z1)
 refine AQ [.string c0.fx,vI c0.fv,v0,x0,y0,.bool c0.fu] g1 .hd (o6 rfl rfl (AO (Ao G0 q0)) (AO (Ao H0 q0)) (AO (Ao I0 q0)) rfl) fun Y2 j1 A1=>Aa<|MX.begin j1 .t2 fun Z2 t0 B1=>AA<|Av<|AP rfl ((t0.memA .t5) 0 _ rfl)<|AR 1 rfl<|AP rfl ((t0.memA .hd) 1 _ rfl)<|bk h fun K0 M1 h=>Ab (BJ (i:=d0) (j:=c0.fv) rfl rfl M1)<|AQ [vI K0] t0 .t5 (o1 rfl) fun b3 k1 C1=>Aa<|AC<|MX.roundEnd F1 k1 .t2 fun c3 p1 D1=>AE (Bp rfl)<|Bv rfl rfl<|Aa<|BF rfl<|Au<|AC<|Av<|Ab (Bw (i:=b0) (j:=1) rfl rfl (by omega))<|Ae rfl<|Aa ?_
 obtain ⟨q1,E1⟩:=AG p1 .d2
 exact W0 (b0 + 1,K0) q1 (Tt x1 (Tt q0 (Tt A1 (Tt B1 (Tt C1 (Tt D1 E1)))))) h
 refine Bd rfl ?_
 have h:=thn_inr h E0
 try dsimp only at h
 refine MX.fin rfl<|Am (u:=.tuple #[]) D0 Tryz.func141 rfl .nil rfl<|MX.endRange0 s0 .hd (by intro h9; cases h9) fun d3 s1 y2=>?_
 obtain ⟨B0,z2⟩:=AG s1 .d1
 refine AC<|Ac<|AP rfl ((B0.memA .t2) 0 _ rfl)<|AQ [vI d0] B0 .t2 (o1 rfl) fun g3 u1 A2=>Aa<|Al rfl<|RT.take u1 .hd fun j3 v1 B2=>?_
 obtain ⟨C0,C2⟩:=AG v1 .d1
 refine Am hb0 Tryz.func54 rfl (.cons (.one (by kernel_rfl) rfl ((C0.memA .t1) 0 _ rfl)) .nil) rfl ?_
 cases h
 exact C0.gv
def bB_p (n:Nat) (a0:Th) (a1:Int):Option (Ta × Int):=
  (if a1 = 0 then (bW_p n a0).bind fun b0=>some (b0.1,b0.2) else some ((⟨((0:UInt64),(0:UInt64),(0:UInt64),(0:UInt64),(0:UInt64),(0:UInt64),(0:UInt64),(0:UInt64)),((0:UInt64),(0:UInt64),(0:UInt64),(0:UInt64),(0:UInt64),(0:UInt64),(0:UInt64),(0:UInt64))⟩:Ta),a1))
theorem bB_c (n:Nat) {L w} (hL:hl L w) (a0:Th) {v0_1:Value} (h0_1:Rep.R w L [v0_1] a0.fy.fm) {v0_3:Value} (h0_3:Rep.R w L [v0_3] a0.ft.fm) {a1:Int}  {r:Ta × Int} (h:bB_p n a0 a1 = some r) :
 Cl 108 #[.agg #[.bool a0.fy.fc,v0_1,.bool a0.ft.fc,v0_3],vI a1] w (Gives w fun _ u=>u = .tuple #[.agg ((cs_Ta r.1)).toArray,vI r.2]):=by
 unfold bB_p at h
 refine AD Tryz.func108 rfl rfl rfl fun _ cs0 hb0=>Ac<|RG.bx (Az w) rfl rfl fun z0 s0 p0 u0=>RG.nl zL p0 fun A0 t0 b0 v0=>Af rfl<|Aa<|Aj<|Ac<|Ae rfl<|Ab (BP (i:=a1) (j:=0) rfl rfl)<|Aa<|MX.ifn rfl h (fun j0 h=>?_) (fun j0 h=>?_)
 refine Au<|Ac<|Ab (AH rfl (b0.memA .t1))<|bk h fun c0 q0 h=>Ba (.tuple #[.agg ((cs_Ta c0.1)).toArray,vI c0.2]) (bd 147) rfl (e1 rfl) (fun w9 hw9=>bW_c n (b0.hL0 hL hw9) a0 (b0.k0 h0_1 hw9) (b0.k0 h0_3 hw9) q0) rfl<|Ab (Ag rfl rfl)<|Ab (Ag rfl rfl)<|AQ (cs_Ta c0.1) b0 .hd (onesB rfl) fun B0 d0 x0=>Af rfl<|Aa<|Al rfl<|Am hb0 Tryz.func108 rfl (.cons (.many (cs:=(cs_Ta c0.1)) (by kernel_rfl) rfl (d0.memA .hd)) (.cons (.tmp rfl) .nil)) rfl ?_
 cases h
 exact d0.gv
 refine Ac<|Ab (AU (vs:=[]) (u:=.agg zM) evs_nil (fun w9=>by kernel_rfl))<|Ae rfl<|AQ zL b0 .hd (onesB rfl) fun C0 g0 y0=>Af rfl<|Aa<|Al rfl<|Am hb0 Tryz.func108 rfl (.cons (.many (cs:=zL) (by kernel_rfl) rfl (g0.memA .hd)) (.cons (.tmp rfl) .nil)) rfl ?_
 cases h
 exact g0.gv
def cu_p (_n:Nat) (a0:Te):Option Int:=
  (if a0.fc = true then some (-1:Int) else (if a0.fm.length = 0 then some (0:Int) else some (1:Int)))
theorem cu_c (n:Nat) {L w} (_hL:hl L w) (a0:Te) {v0_1:Value} (h0_1:Rep.R w L [v0_1] a0.fm)  {r:Int} (h:cu_p n a0 = some r) :
 Cl 120 #[.agg #[.bool a0.fc,v0_1]] w (Gives w fun _ u=>u = vI r):=by
 unfold cu_p at h
 refine AD Tryz.func120 rfl rfl rfl fun _ cs0 hb0=>Ac<|RG.bx (Az w) rfl rfl fun q0 j0 b0 k0=>Af rfl<|Aa<|Aj<|AA<|Ac<|AR 0 rfl<|AP rfl ((b0.memA .hd) 0 _ rfl)<|Af rfl<|Aa<|MX.ifb rfl h (fun d0 h=>?_) (fun d0 h=>?_)
 refine Ac<|Af rfl<|Aa<|Al rfl<|AW hb0 Tryz.func120 rfl rfl ?_
 cases h
 exact b0.gv
 refine Ac<|AR 1 rfl<|AP rfl ((b0.memA .hd) 1 _ rfl) ?_
 have c0:=AS h0_1 b0
 have p0:a0.fm.length <= 281474976710656:=AY c0
 refine Ab (Be (xs:=a0.fm) Tryz.underlying146 rfl c0)<|Ab (BT (i:=a0.fm.length) (j:=0) rfl rfl)<|Af rfl<|Aa<|AT rfl h (fun g0 h=>?_) (fun g0 h=>?_)
 refine Ac<|Af rfl<|Aa<|Al rfl<|AW hb0 Tryz.func120 rfl rfl ?_
 cases h
 exact b0.gv
 refine Au<|AC<|Ac<|Af rfl<|Aa<|Al rfl<|AW hb0 Tryz.func120 rfl rfl ?_
 cases h
 exact b0.gv
def aF_p (n:Nat) (a0:Ta):Option Th:=
  (cd_p n a0.fN).bind fun b0=>(cd_p n a0.fD).bind fun c0=>some (⟨b0,c0⟩:Th)
theorem aF_c (n:Nat) {L w} (hL:hl L w) (a0:Ta)  {r:Th} (h:aF_p n a0 = some r) :
 Cl 148 #[.agg ((cs_Ta a0)).toArray] w (Gives w fun w' u=>∃ v0_1 v0_3:Value,u = .agg #[.bool r.fy.fc,v0_1,.bool r.ft.fc,v0_3]/\Rep.R w' L [v0_1] r.fy.fm/\Rep.R w' L [v0_3] r.ft.fm):=by
 unfold aF_p at h
 refine AD Tryz.func148 rfl rfl rfl fun _ cs0 hb0=>Ac<|RG.bx (Az w) rfl rfl fun X0 J0 z0 Q0=>RG.nl [.bool false,vN,.bool false,vN] z0 fun Y0 K0 j0 R0=>Aa<|Aj<|du 7 fun b0 c0=>Rv 0 b0 rfl c0 (fun _=>Bb 0 rfl)<|Rx 1 228 b0 rfl c0 (Bc (cs:=(cs_A34 a0.fN)) (by kernel_rfl) rfl (mem_part (j0.memA .t1) 0 8))<|Rv 3 b0 rfl c0 (fun _=>Bb 8 rfl)<|Rx 4 224 b0 rfl c0 (Bc (cs:=(cs_A34 a0.fD)) (by kernel_rfl) rfl (mem_part (j0.memA .t1) 8 8))<|bk h fun p0 F0 h=>Bn 2 31 b0 rfl .plain (bd 151) rfl (e1 rfl) (fun w9 hw9=>cd_c n (j0.hL hL hw9) a0.fN F0) rfl fun Z0 V0 B0 ⟨d0,hu_,y0⟩=>?_
 subst hu_
 obtain ⟨t0,U0⟩:=j0.agr B0
 refine bk h fun q0 G0 h=>Bn 5 63 b0 rfl .plain (bd 151) rfl (e1 rfl) (fun w9 hw9=>cd_c n (t0.hL hL hw9) a0.fD G0) rfl fun b1 W0 C0 ⟨g0,hu_,s0⟩=>?_
 subst hu_
 obtain ⟨A0,u0⟩:=t0.agr C0
 have x0:=Ao y0 u0
 obtain ⟨H0,M0,D0,_⟩:=BV x0
 obtain ⟨I0,P0,E0,_⟩:=BV s0
 refine Rv 6 b0 rfl c0 (fun _=>AU (vs:=[.agg #[.bool p0.fc,d0],.agg #[.bool q0.fc,g0]]) (u:=.agg #[.bool p0.fc,d0,.bool q0.fc,g0]) (e2 rfl rfl) (fun w9=>by rw [D0,E0]; try kernel_rfl))<|BE 7 255 b0 rfl rfl .plain (AF (news:=[.bool p0.fc,d0,.bool q0.fc,g0]) A0 .hd rfl rfl rfl rfl rfl rfl (o4 rfl (AO x0) rfl (AO s0))) fun c1 k0 v0=>AN (dk b0)<|Al rfl<|Am hb0 Tryz.func148 rfl (.cons (.many (cs:=[.bool p0.fc,d0,.bool q0.fc,g0]) (by kernel_rfl) rfl (k0.memA .hd)) .nil) rfl ?_
 cases h
 exact ⟨k0.ag,fun w9 hw9=>⟨d0,g0,rfl,k0.kd (Ao y0 (Tt u0 v0)) hw9,k0.kd (Ao s0 v0) hw9⟩⟩
def dO_p (n:Nat) (a0:Int):Option Te:=
  (dq_p n a0).bind fun b0=>(cd_p n b0).bind fun c0=>some c0
theorem dO_c (n:Nat) {L w} (hL:hl L w) {a0:Int}  {r:Te} (h:dO_p n a0 = some r) :
 Cl 172 #[vI a0] w (Gives w fun w' u=>∃ v0_1:Value,u = .agg #[.bool r.fc,v0_1]/\Rep.R w' L [v0_1] r.fm):=by
 unfold dO_p at h
 refine AD Tryz.func172 rfl rfl rfl fun _ cs0 hb0=>Ac<|RG.nl [.bool false,vN] (Az w) fun A0 v0 b0 x0=>Aa<|Ac<|Ae rfl<|bk h fun j0 t0 h=>Ba (.agg ((cs_A34 j0)).toArray) (bd 113) rfl (e1 rfl) (fun w9 hw9=>dq_c n (b0.hL0 hL hw9)  t0) rfl<|bk h fun k0 u0 h=>AX (fst:=[]) (cap:=[]) .plain (bd 151) rfl (e1 rfl) (fun w9 hw9=>cd_c n (b0.hL hL hw9) j0 u0) rfl fun B0 z0 s0 ⟨d0,hu_,g0⟩=>?_
 subst hu_
 obtain ⟨p0,y0⟩:=b0.agr s0
 refine AQ [.bool k0.fc,d0] p0 .hd (o2 rfl (AO g0)) fun C0 c0 q0=>Aa<|Al rfl<|Am hb0 Tryz.func172 rfl (.cons (.many (cs:=[.bool k0.fc,d0]) (by kernel_rfl) rfl (c0.memA .hd)) .nil) rfl ?_
 cases h
 exact ⟨c0.ag,fun w9 hw9=>⟨d0,rfl,c0.kd (Ao g0 q0) hw9⟩⟩
def cY_p (n:Nat) (a0:Te) (a1:Te):Option Te:=
  (bh_p n a1).bind fun b0=>(bX_p n a0 b0).bind fun c0=>some c0
theorem cY_c (n:Nat) {L w} (hL:hl L w) (a0:Te) {v0_1:Value} (h0_1:Rep.R w L [v0_1] a0.fm) (a1:Te) {v1_1:Value} (h1_1:Rep.R w L [v1_1] a1.fm)  {r:Te} (h:cY_p n a0 a1 = some r) :
 Cl 193 #[.agg #[.bool a0.fc,v0_1],.agg #[.bool a1.fc,v1_1]] w (Gives w fun w' u=>∃ v0_1:Value,u = .agg #[.bool r.fc,v0_1]/\Rep.R w' L [v0_1] r.fm):=by
 unfold cY_p at h
 refine AD Tryz.func193 rfl rfl rfl fun _ cs0 hb0=>Ac<|RG.bx (Az w) rfl rfl fun R0 D0 s0 G0=>RG.bx s0 rfl rfl fun U0 E0 t0 H0=>RG.nl [.bool false,vN] t0 fun V0 F0 c0 I0=>Aa<|Aj<|du 4 fun b0 p0=>Rx 0 24 b0 rfl p0 (AH rfl (c0.memA .t2))<|Rx 1 28 b0 rfl p0 (AH rfl (c0.memA .t1))<|bk h fun C0 A0 h=>Bn 2 7 b0 rfl .plain (bd 126) rfl (e1 rfl) (fun w9 hw9=>bh_c n (c0.hL hL hw9) a1 (c0.km h1_1 hw9) A0) rfl fun W0 P0 x0 ⟨M0,hu_,z0⟩=>?_
 subst hu_
 obtain ⟨d0,J0⟩:=c0.agr x0
 refine bk h fun q0 B0 h=>Bn 3 15 b0 rfl .plain (bd 159) rfl (e2 rfl rfl) (fun w9 hw9=>bX_c n (d0.hL hL hw9) a0 (d0.km h0_1 hw9) C0 (Aq z0 hw9) B0) rfl fun X0 Q0 y0 ⟨j0,hu_,k0⟩=>?_
 subst hu_
 obtain ⟨u0,K0⟩:=d0.agr y0
 refine BE 4 31 b0 rfl rfl .plain (AF (news:=[.bool q0.fc,j0]) u0 .hd rfl rfl rfl rfl rfl rfl (o2 rfl (AO k0))) fun Y0 g0 v0=>AN (dk b0)<|Al rfl<|Am hb0 Tryz.func193 rfl (.cons (.many (cs:=[.bool q0.fc,j0]) (by kernel_rfl) rfl (g0.memA .hd)) .nil) rfl ?_
 cases h
 exact ⟨g0.ag,fun w9 hw9=>⟨j0,rfl,g0.kd (Ao k0 v0) hw9⟩⟩
def dr_p (n:Nat) (a0:Te) (a1:Te):Option Int:=
  (cY_p n a0 a1).bind fun b0=>(cu_p n b0).bind fun c0=>some c0
theorem dr_c (n:Nat) {L w} (hL:hl L w) (a0:Te) {v0_1:Value} (h0_1:Rep.R w L [v0_1] a0.fm) (a1:Te) {v1_1:Value} (h1_1:Rep.R w L [v1_1] a1.fm)  {r:Int} (h:dr_p n a0 a1 = some r) :
 Cl 174 #[.agg #[.bool a0.fc,v0_1],.agg #[.bool a1.fc,v1_1]] w (Gives w fun _ u=>u = vI r):=by
 unfold dr_p at h
 refine AD Tryz.func174 rfl rfl rfl fun _ cs0 hb0=>Ac<|RG.bx (Az w) rfl rfl fun B0 t0 d0 v0=>RG.bx d0 rfl rfl fun C0 u0 b0 x0=>Af rfl<|Aa<|Ac<|Ab (AH rfl (b0.memA .t1))<|Ab (AH rfl (b0.memA .hd))<|bk h fun q0 k0 h=>AX (fst:=[]) (cap:=[]) .plain (bd 193) rfl (e2 rfl rfl) (fun w9 hw9=>cY_c n (b0.hL hL hw9) a0 (b0.km h0_1 hw9) a1 (b0.km h1_1 hw9) k0) rfl fun D0 A0 g0 ⟨z0,hu_,j0⟩=>?_
 subst hu_
 obtain ⟨c0,y0⟩:=b0.agr g0
 refine bk h fun s0 p0 h=>Ba (vI s0) (bd 120) rfl (e1 rfl) (fun w9 hw9=>cu_c n (c0.hL0 hL hw9) q0 (c0.kd j0 hw9) p0) rfl<|Af rfl<|Aa<|Al rfl<|AW hb0 Tryz.func174 rfl rfl ?_
 cases h
 exact c0.gv
def cQ_p (n:Nat) (a0:Ta):Option Int:=
  (dO_p n (1:Int)).bind fun c0=>(aF_p n a0).bind fun b0=>(cu_p n b0.ft).bind fun d0=>(if d0 <= 0 then some (20:Int) else (aH_p n b0.fy b0.ft).bind fun g0=>(dr_p n g0 c0).bind fun j0=>(if j0 = 0 then some (0:Int) else some (20:Int)))
theorem cQ_c (n:Nat) {L w} (hL:hl L w) (a0:Ta)  {r:Int} (h:cQ_p n a0 = some r) :
 Cl 145 #[.agg ((cs_Ta a0)).toArray] w (Gives w fun _ u=>u = vI r):=by
 unfold cQ_p at h
 refine AD Tryz.func145 rfl rfl rfl fun _ cs0 hb0=>Ac<|RG.bx (Az w) rfl rfl fun y1 g1 t0 p1=>Af rfl<|Aa<|Ac<|bk h fun B0 W0 h=>AX (fst:=[]) (cap:=[]) .plain (bd 172) rfl (e1 rfl) (fun w9 hw9=>dO_c n (t0.hL hL hw9)  W0) rfl fun z1 u1 Q0 ⟨c1,hu_,x0⟩=>?_
 subst hu_
 obtain ⟨G0,q1⟩:=t0.agr Q0
 refine RG.nl [.bool false,vN] G0 fun A1 j1 H0 u0=>AQ [.bool B0.fc,c1] H0 .hd (o2 rfl (AO (Ao x0 u0))) fun B1 p0 K0=>Aa<|Ac<|Ab (AH rfl (p0.memA .t1))<|bk h fun g0 X0 h=>AX (fst:=[]) (cap:=[]) .plain (bd 148) rfl (e1 rfl) (fun w9 hw9=>aF_c n (p0.hL hL hw9) a0 X0) rfl fun C1 v1 R0 ⟨A0,s0,hu_,y0,z0⟩=>?_
 subst hu_
 obtain ⟨I0,M0⟩:=p0.agr R0
 refine RG.nl [.bool false,vN,.bool false,vN] I0 fun D1 k1 J0 k0=>AQ [.bool g0.fy.fc,A0,.bool g0.ft.fc,s0] J0 .hd (o4 rfl (AO (Ao y0 k0)) rfl (AO (Ao z0 k0))) fun E1 d0 q0=>Aa<|Aj<|Aj<|du 14 fun b0 c0=>Rv 0 b0 rfl c0 (fun _=>Bb 2 rfl)<|Rx 1 16380 b0 rfl c0 (Bc (cs:=[.bool g0.ft.fc,s0]) (by kernel_rfl) rfl (mem_part (d0.memA .hd) 2 2))<|bk h fun C0 Y0 h=>?_
 have v0:=Ao z0 (Tt k0 q0)
 refine BO 2 7 16376 (vI C0) b0 rfl c0 (bd 120) rfl (e1 rfl) (fun w9 hw9=>cu_c n (d0.hL0 hL hw9) g0.ft (d0.kd v0 hw9) Y0) rfl<|Rv 3 b0 rfl c0 (fun _=>FV.leq (i:=C0) (j:=0) rfl rfl)<|Rv 4 b0 rfl c0 (fun _=>Ai rfl)<|RD.ifd (s:=12) rfl h (fun E0 h=>?_) (fun E0 h=>?_)
 refine BK 8191 1 [(5,13),(6,14),(7,15),(8,16),(9,17),(10,18),(11,19),(12,20)] (F:=[(12,true)]) (U:=[]) b0 c0 (.cons rfl .nil) .nil ?_
 dsimp only [offS,List.map]
 refine Rv 13 b0 rfl c0 (fun _=>BM rfl rfl)<|AN (dk b0)<|Bk rfl<|Ac<|Af rfl<|Aa<|Al rfl<|AW hb0 Tryz.func145 rfl rfl ?_
 cases h
 exact d0.gv
 refine BX 5 63 b0 rfl c0 (.yes rfl rfl) (fun _=>Bb 0 rfl) rfl<|RD.val (i:=6) (m' :=127) (W:=14848) (tk b0) rfl c0 (.yes rfl rfl) (Bc (cs:=[.bool g0.fy.fc,A0]) (by kernel_rfl) rfl (mem_part (d0.memA .hd) 0 2)) rfl<|BX 7 255 b0 rfl c0 (.yes rfl rfl) (fun _=>Bb 2 rfl) rfl<|RD.val (i:=8) (m' :=511) (W:=14848) (tk b0) rfl c0 (.yes rfl rfl) (Bc (cs:=[.bool g0.ft.fc,s0]) (by kernel_rfl) rfl (mem_part (d0.memA .hd) 2 2)) rfl<|RD.val (i:=10) (m' :=1535) (W:=14336) (tk b0) rfl c0 (.yes rfl rfl) (AH rfl (d0.memA .t1)) rfl<|bk h fun d1 Z0 h=>Bn 9 2047 b0 rfl (.yes rfl rfl) (bd 173) rfl (e2 rfl rfl) (fun w9 hw9=>aH_c n (d0.hL hL hw9) g0.fy (Aq (Ao y0 (Tt k0 q0)) hw9) g0.ft (Aq v0 hw9) Z0) rfl fun F1 x1 U0 ⟨s1,hu_,V0⟩=>?_
 subst hu_
 obtain ⟨j0,P0⟩:=d0.agr U0
 refine bk h fun D0 b1 h=>RD.callq (i:=11) (m' :=4095) (W:=12288) (tk b0) rfl c0 (v:=vI D0) (fst:=[]) (cap:=[]) (.yes rfl rfl) (bd 174) rfl (e2 rfl rfl) (fun w9 hw9=>dr_c n (j0.hL0 hL hw9) d1 (j0.kd V0 hw9) B0 (j0.kd (Ao x0 (Tt u0 (Tt K0 (Tt M0 (Tt k0 (Tt q0 P0)))))) hw9) b1) rfl<|BX 12 8191 b0 rfl c0 (.yes rfl rfl) (fun _=>BP (i:=D0) (j:=0) rfl rfl) rfl<|Rv 13 b0 rfl c0 (fun _=>Bo rfl rfl)<|AN (dk b0)<|MX.ifn rfl h (fun F0 h=>?_) (fun F0 h=>?_)
 refine Au<|Ac<|Af rfl<|Aa<|Al rfl<|AW hb0 Tryz.func145 rfl rfl ?_
 cases h
 exact j0.gv
 refine Ac<|Af rfl<|Aa<|Al rfl<|AW hb0 Tryz.func145 rfl rfl ?_
 cases h
 exact j0.gv
def cZ_p (n:Nat) (a0:Ta):Option Bool:=
  (cQ_p n a0).bind fun b0=>some (decide (b0 = 0))
theorem cZ_c (n:Nat) {L w} (hL:hl L w) (a0:Ta)  {r:Bool} (h:cZ_p n a0 = some r) :
 Cl 144 #[.agg ((cs_Ta a0)).toArray] w (Gives w fun _ u=>u = .bool r):=by
 unfold cZ_p at h
 refine AD Tryz.func144 rfl rfl rfl fun _ cs0 hb0=>Ac<|RG.bx (Az w) rfl rfl fun k0 g0 b0 j0=>Af rfl<|Aa<|Ac<|Ab (AH rfl (b0.memA .hd))<|bk h fun c0 d0 h=>Ba (vI c0) (bd 145) rfl (e1 rfl) (fun w9 hw9=>cQ_c n (b0.hL0 hL hw9) a0 d0) rfl<|Ab (FV.eql (i:=c0) (j:=0) rfl rfl)<|Af rfl<|Aa<|Al rfl<|AW hb0 Tryz.func144 rfl rfl ?_
 cases h
 exact b0.gv
theorem op_Ta {w:World} {L:List Nat} {cs:List Value} {x:Ta} (h:Rep.R w L cs x):cs = [vU x.fN.1,vU x.fN.2.1,vU x.fN.2.2.1,vU x.fN.2.2.2.1,vU x.fN.2.2.2.2.1,vU x.fN.2.2.2.2.2.1,vU x.fN.2.2.2.2.2.2.1,vU x.fN.2.2.2.2.2.2.2,vU x.fD.1,vU x.fD.2.1,vU x.fD.2.2.1,vU x.fD.2.2.2.1,vU x.fD.2.2.2.2.1,vU x.fD.2.2.2.2.2.1,vU x.fD.2.2.2.2.2.2.1,vU x.fD.2.2.2.2.2.2.2]:=by
  obtain ⟨c0,r0,rfl,h0,h⟩:=h
  obtain rfl:=op_A34 (x:=x.fN) h0
  obtain rfl:=op_A34 (x:=x.fD) h
  rfl
theorem mk_Ta {w:World} {L:List Nat} (a0:UInt64 × UInt64 × UInt64 × UInt64 × UInt64 × UInt64 × UInt64 × UInt64) (a1:UInt64 × UInt64 × UInt64 × UInt64 × UInt64 × UInt64 × UInt64 × UInt64):Rep.R w L [vU a0.1,vU a0.2.1,vU a0.2.2.1,vU a0.2.2.2.1,vU a0.2.2.2.2.1,vU a0.2.2.2.2.2.1,vU a0.2.2.2.2.2.2.1,vU a0.2.2.2.2.2.2.2,vU a1.1,vU a1.2.1,vU a1.2.2.1,vU a1.2.2.2.1,vU a1.2.2.2.2.1,vU a1.2.2.2.2.2.1,vU a1.2.2.2.2.2.2.1,vU a1.2.2.2.2.2.2.2] (⟨a0,a1⟩:Ta):=⟨[vU a0.1,vU a0.2.1,vU a0.2.2.1,vU a0.2.2.2.1,vU a0.2.2.2.2.1,vU a0.2.2.2.2.2.1,vU a0.2.2.2.2.2.2.1,vU a0.2.2.2.2.2.2.2],[vU a1.1,vU a1.2.1,vU a1.2.2.1,vU a1.2.2.2.1,vU a1.2.2.2.2.1,vU a1.2.2.2.2.2.1,vU a1.2.2.2.2.2.2.1,vU a1.2.2.2.2.2.2.2],rfl,mk_A34 a0.1 a0.2.1 a0.2.2.1 a0.2.2.2.1 a0.2.2.2.2.1 a0.2.2.2.2.2.1 a0.2.2.2.2.2.2.1 a0.2.2.2.2.2.2.2,mk_A34 a1.1 a1.2.1 a1.2.2.1 a1.2.2.2.1 a1.2.2.2.2.1 a1.2.2.2.2.2.1 a1.2.2.2.2.2.2.1 a1.2.2.2.2.2.2.2⟩
def aD_l1 (n:Nat) (a0:List Ta) (c0:Nat -> Option (Bool ⊕ Unit)):Nat -> Option (Bool ⊕ Unit)
  | b0=>(if b0 < a0.length then (a0[b0]?).bind fun d0=>(cZ_p n d0).bind fun g0=>(if g0 = true then c0 (b0 + 1) else some (.inl false)) else some (.inr ()))
def aD_p (n:Nat) (a0:List Ta):Option Bool:=
  thn (loopF (aD_l1 n a0) n 0) (fun _=>some true)
theorem aD_c (n:Nat) {L w} (hL:hl L w) {a0:List Ta} {v0_0:Value} (h0_0:Rep.R w L [v0_0] a0)  {r:Bool} (h:aD_p n a0 = some r) :
 Cl 107 #[v0_0] w (Gives w fun _ u=>u = .bool r):=by
 unfold aD_p at h
 refine AD Tryz.func107 rfl rfl rfl fun _ cs0 hb0=>Ac<|Af rfl<|Aa<|Ac<|Af rfl<|Aa<|Ac<|Ae rfl<|Ae rfl<|BL (fst:=[]) (cap:=[]) (vs:=[.func (.func 144) #[] #[],v0_0]) .plain (bd 146) Tryz.func146 rfl rfl rfl rfl (e2 rfl rfl) rfl fun cs2 hb1 hp3=>Ac<|Af rfl<|Aa<|Aj<|Ac<|Ae rfl ?_
 have hl4:a0.length <= 281474976710656:=AY h0_0
 refine Ab (Be (xs:=a0) Tryz.underlying63 rfl h0_0)<|Ae rfl<|Aa<|AA<|tn h fun P0 C0 g0=>MX.lo (α:=Nat) (fun b0=>[(0,.func (.func 144) #[] #[]),(7,v0_0),(8,vI ((a0.length:Nat):Int)),(9,vI ((b0:Nat):Int))]) (fun b0=>[]) (fun b0=>b0) 0 C0 (Az w) ?_
 rintro I0 b0 U0 q0 d0 u0 h
 unfold aD_l1 at h
 try dsimp only at h
 refine Ac<|Ab (Bu (i:=b0) (j:=a0.length) rfl rfl)<|Aa<|Aj<|AT rfl h (fun k0 h=>?_) (fun k0 h=>?_)
 refine Au<|Aj<|AA<|Ac<|bk h fun j0 E0 h=>?_
 obtain ⟨H0,K0,z0,A0,M0,D0,B0⟩:=Br (AS h0_0 d0) E0
 obtain rfl:=op_Ta D0
 refine Ab (Bq 16 b0 rfl z0 rfl rfl A0)<|Ab (AH rfl B0)<|RG.nl zL d0 fun Q0 J0 s0 v0=>AQ (cs_Ta j0) s0 .hd (onesB rfl) fun R0 c0 x0=>Aa<|Ac<|Ae rfl<|Ab (AH rfl (c0.memA .hd))<|bk h fun G0 F0 h=>Ba (.bool G0) (bd 144) rfl (e1 rfl) (fun w9 hw9=>cZ_c n (c0.hL0 hL hw9) j0 F0) rfl<|Ab (Bp rfl)<|Aa<|BU rfl h (fun p0 h=>?_) (fun p0 h=>?_)
 refine Au<|AC<|Av<|Ab (Bw (i:=b0) (j:=1) rfl rfl (by omega))<|Ae rfl<|Aa ?_
 obtain ⟨t0,y0⟩:=AG c0 .done
 exact q0 (b0 + 1) t0 (Tt u0 (Tt v0 (Tt x0 y0))) h
 refine Ac<|Af rfl<|Aa ?_
 have h:=thn_inl h g0
 refine Al rfl<|Am (u:=.bool false) hb1 Tryz.func146 rfl (.cons (.tmp rfl) .nil) rfl<|Af rfl<|Aa<|Al rfl<|AW hb0 Tryz.func107 rfl rfl ?_
 cases h
 exact c0.gv
 refine Bd rfl ?_
 have h:=thn_inr h g0
 try dsimp only at h
 refine Ac<|Af rfl<|Aa<|Al rfl<|Am (u:=.bool true) hb1 Tryz.func146 rfl (.cons (.tmp rfl) .nil) rfl<|Af rfl<|Aa<|Al rfl<|AW hb0 Tryz.func107 rfl rfl ?_
 cases h
 exact d0.gv
def cj_p (n:Nat) (a0:Th):Option Th:=
  (bh_p n a0.fy).bind fun b0=>some (⟨b0,a0.ft⟩:Th)
theorem cj_c (n:Nat) {L w} (hL:hl L w) (a0:Th) {v0_1:Value} (h0_1:Rep.R w L [v0_1] a0.fy.fm) {v0_3:Value} (h0_3:Rep.R w L [v0_3] a0.ft.fm)  {r:Th} (h:cj_p n a0 = some r) :
 Cl 124 #[.agg #[.bool a0.fy.fc,v0_1,.bool a0.ft.fc,v0_3]] w (Gives w fun w' u=>∃ v0_1 v0_3:Value,u = .agg #[.bool r.fy.fc,v0_1,.bool r.ft.fc,v0_3]/\Rep.R w' L [v0_1] r.fy.fm/\Rep.R w' L [v0_3] r.ft.fm):=by
 unfold cj_p at h
 refine AD Tryz.func124 rfl rfl rfl fun _ cs0 hb0=>Ac<|RG.bx (Az w) rfl rfl fun M0 D0 u0 H0=>RG.nl [.bool false,vN,.bool false,vN] u0 fun P0 E0 c0 I0=>Aa<|Aj<|du 6 fun b0 d0=>Rv 0 b0 rfl d0 (fun _=>Bb 0 rfl)<|Rx 1 100 b0 rfl d0 (Bc (cs:=[.bool a0.fy.fc,v0_1]) (by kernel_rfl) rfl (mem_part (c0.memA .t1) 0 2))<|Rv 3 b0 rfl d0 (fun _=>Bb 2 rfl)<|Rx 4 96 b0 rfl d0 (Bc (cs:=[.bool a0.ft.fc,v0_3]) (by kernel_rfl) rfl (mem_part (c0.memA .t1) 2 2))<|bk h fun p0 A0 h=>Bn 2 31 b0 rfl .plain (bd 126) rfl (e1 rfl) (fun w9 hw9=>bh_c n (c0.hL hL hw9) a0.fy (c0.km h0_1 hw9) A0) rfl fun Q0 K0 x0 ⟨g0,hu_,q0⟩=>?_
 subst hu_
 obtain ⟨s0,J0⟩:=c0.agr x0
 obtain ⟨B0,F0,y0,_⟩:=BV q0
 have t0:=AS h0_3 s0
 obtain ⟨C0,G0,z0,_⟩:=BV t0
 refine Rv 5 b0 rfl d0 (fun _=>AU (vs:=[.agg #[.bool p0.fc,g0],.agg #[.bool a0.ft.fc,v0_3]]) (u:=.agg #[.bool p0.fc,g0,.bool a0.ft.fc,v0_3]) (e2 rfl rfl) (fun w9=>by rw [y0,z0]; try kernel_rfl))<|BE 6 127 b0 rfl rfl .plain (AF (news:=[.bool p0.fc,g0,.bool a0.ft.fc,v0_3]) s0 .hd rfl rfl rfl rfl rfl rfl (o4 rfl (AO q0) rfl (AO t0))) fun R0 j0 v0=>AN (dk b0)<|Al rfl<|Am hb0 Tryz.func124 rfl (.cons (.many (cs:=[.bool p0.fc,g0,.bool a0.ft.fc,v0_3]) (by kernel_rfl) rfl (j0.memA .hd)) .nil) rfl ?_
 cases h
 exact ⟨j0.ag,fun w9 hw9=>⟨g0,v0_3,rfl,j0.kd (Ao q0 v0) hw9,j0.k0 h0_3 hw9⟩⟩
def dl_p (_n:Nat) (a0:UInt64) (a1:UInt64):Option (UInt64 × UInt64):=
  (some (((shrU a0 32) * (a1 &&& (4294967295:UInt64))) + (shrU ((a0 &&& (4294967295:UInt64)) * (a1 &&& (4294967295:UInt64))) 32))).bind fun u1=>(some (shrU ((u1 &&& (4294967295:UInt64)) + ((a0 &&& (4294967295:UInt64)) * (shrU a1 32))) 32)).bind fun u2=>some ((((shrU a0 32) * (shrU a1 32)) + (shrU u1 32)) + u2,a0 * a1)
theorem dl_c (n:Nat) {L w} (_hL:hl L w) (a0:UInt64) (a1:UInt64)  {r:UInt64 × UInt64} (h:dl_p n a0 a1 = some r) :
 Cl 194 #[vU a0,vU a1] w (Gives w fun _ u=>u = .tuple #[vU r.1,vU r.2]):=by
 unfold dl_p at h
 have hS0:=Az w
 refine AD Tryz.func194 rfl rfl rfl fun _ cs0 hb0=>Ac<|Af rfl<|Af rfl<|Aa<|Ac<|Ae rfl<|Ab (FV.andU (a:=a0) (b:=(4294967295:UInt64)) rfl rfl)<|Af rfl<|Aa<|Ac<|Ae rfl<|Ab (FV.shrU (a:=a0) (j:=32) rfl rfl)<|Af rfl<|Aa<|Ac<|Ae rfl<|Ab (FV.andU (a:=a1) (b:=(4294967295:UInt64)) rfl rfl)<|Af rfl<|Aa<|Ac<|Ae rfl<|Ab (FV.shrU (a:=a1) (j:=32) rfl rfl)<|Af rfl<|Aa<|Ac<|Ae rfl<|Ae rfl<|Ab (FV.mulU (a:=a0 &&& (4294967295:UInt64)) (b:=a1 &&& (4294967295:UInt64)) rfl rfl)<|Af rfl<|Aa<|Ac<|Ae rfl<|Ae rfl<|Ab (FV.mulU (a:=shrU a0 32) (b:=a1 &&& (4294967295:UInt64)) rfl rfl)<|Ae rfl<|Ab (FV.shrU (a:=(a0 &&& (4294967295:UInt64)) * (a1 &&& (4294967295:UInt64))) (j:=32) rfl rfl)<|bk h fun u1 hu1 h=>Ab (FV.as (FV.addU (a:=(shrU a0 32) * (a1 &&& (4294967295:UInt64))) (b:=shrU ((a0 &&& (4294967295:UInt64)) * (a1 &&& (4294967295:UInt64))) 32) rfl rfl) (congrArg (fun z:UInt64=>Value.int .u64 (z.toNat:Int)) (Option.some.inj hu1)))<|Af rfl<|Aa<|Ac<|Ae rfl<|Ab (FV.andU (a:=u1) (b:=(4294967295:UInt64)) rfl rfl)<|Af rfl<|Aa<|Ac<|Ae rfl<|Ab (FV.shrU (a:=u1) (j:=32) rfl rfl)<|Af rfl<|Aa<|Ac<|Ae rfl<|Ae rfl<|Ae rfl ?_
 refine Ab (FV.mulU (a:=a0 &&& (4294967295:UInt64)) (b:=shrU a1 32) rfl rfl)<|Ab (FV.addU (a:=u1 &&& (4294967295:UInt64)) (b:=(a0 &&& (4294967295:UInt64)) * (shrU a1 32)) rfl rfl)<|Af rfl<|Aa<|Ac<|Ae rfl<|Ae rfl<|Ab (FV.mulU (a:=shrU a0 32) (b:=shrU a1 32) rfl rfl)<|Ae rfl<|Ab (FV.addU (a:=(shrU a0 32) * (shrU a1 32)) (b:=shrU u1 32) rfl rfl)<|Ae rfl<|bk h fun u2 hu2 h=>Ab (FV.as (FV.shrU (a:=(u1 &&& (4294967295:UInt64)) + ((a0 &&& (4294967295:UInt64)) * (shrU a1 32))) (j:=32) rfl rfl) (congrArg (fun z:UInt64=>Value.int .u64 (z.toNat:Int)) (Option.some.inj hu2)))<|Ab (FV.addU (a:=((shrU a0 32) * (shrU a1 32)) + (shrU u1 32)) (b:=u2) rfl rfl)<|Af rfl<|Aa<|Ac<|Ae rfl<|Ae rfl<|Ab (FV.mulU (a:=a0) (b:=a1) rfl rfl)<|Af rfl<|Aa<|Al rfl<|Am hb0 Tryz.func194 rfl (.cons (.tmp rfl) (.cons (.tmp rfl) .nil)) rfl ?_
 cases h
 exact hS0.gv
def aY_l1 (n:Nat) (a1:List UInt64) (s0:UInt64) (d0:Nat) (q0:UInt64 × Nat × (List UInt64) -> Option ((List UInt64) × UInt64)):UInt64 × Nat × (List UInt64) -> Option ((List UInt64) × UInt64)
  | (g0,b0,c0)=>(if b0 < a1.length then (a1[b0]?).bind fun t0=>(dl_p n s0 t0).bind fun j0=>(c0[d0 + b0]?).bind fun u0=>(add64 u0 j0.2 (0:UInt64)).bind fun k0=>(add64 k0.1 g0 (0:UInt64)).bind fun p0=>(put c0 ((d0 + b0:Nat):Int) p0.1).bind fun v0=>q0 ((j0.1 + k0.2) + p0.2,b0 + 1,v0) else some (c0,g0))
def aY_l2 (n:Nat) (a0:List UInt64) (a1:List UInt64) (g0:Nat × (List UInt64) -> Option (List UInt64)):Nat × (List UInt64) -> Option (List UInt64)
  | (b0,c0)=>(if b0 < a0.length then (a0[b0]?).bind fun k0=>Option.bind (loopF (aY_l1 n a1 k0 b0) n ((0:UInt64),0,c0)) (fun (d0,j0)=>(d0[b0 + a1.length]?).bind fun _x490=>(put d0 ((b0 + a1.length:Nat):Int) j0).bind fun p0=>g0 (b0 + 1,p0)) else some c0)
def aY_p (n:Nat) (a0:List UInt64) (a1:List UInt64):Option (List UInt64):=
  (mk ((a0.length + a1.length:Nat):Int) (0:UInt64)).bind fun b0=>Option.bind (loopF (aY_l2 n a0 a1) n (0,b0)) (fun c0=>some c0)
theorem aY_c (n:Nat) {L w} (hL:hl L w) {a0:List UInt64} {v0_0:Value} (h0_0:Rep.R w L [v0_0] a0) {a1:List UInt64} {v1_0:Value} (h1_0:Rep.R w L [v1_0] a1)  {r:List UInt64} (h:aY_p n a0 a1 = some r) :
 Cl 175 #[v0_0,v1_0] w (Gives w fun w' u=>∃ v0_0:Value,u = v0_0/\Rep.R w' L [v0_0] r):=by
 unfold aY_p at h
 refine AD Tryz.func175 rfl rfl rfl fun _ cs0 hb0=>Ac<|Af rfl<|Aa<|Ac<|Ae rfl ?_
 have hl1:a0.length <= 281474976710656:=AY h0_0
 refine Ab (Be (xs:=a0) Tryz.underlying146 rfl h0_0)<|Ae rfl ?_
 have hl2:a1.length <= 281474976710656:=AY h1_0
 refine Ab (Be (xs:=a1) Tryz.underlying146 rfl h1_0)<|Ab (Bw (i:=a0.length) (j:=a1.length) rfl rfl (by omega))<|bk h fun R0 J0 h=>Ak .plain rfl (Does.mk (α:=UInt64) J0 (Az w) el146 rfl) fun Q2 j0 z0 I2=>Af rfl<|Aa<|Aj<|Ac<|Ae rfl<|Ab (Be (xs:=a0) Tryz.underlying146 rfl (AS h0_0 z0))<|Ae rfl<|Aa<|AA ?_
 obtain ⟨M2,U1,I1⟩:=bind_in2 h
 refine MX.lf (α:=Nat × (List UInt64) × (List Value)) (fun ⟨b0,d0,k0⟩=>[(1,v1_0),(5,(.slice (some ⟨j0,0,none⟩) ((a0.length + a1.length:Nat):Int).toNat ((a0.length + a1.length:Nat):Int).toNat)),(22,v0_0),(23,vI ((a0.length:Nat):Int)),(24,vI ((b0:Nat):Int))]) (fun ⟨b0,d0,k0⟩=>[rr w 33 UInt64 (.slice (some ⟨j0,0,none⟩) ((a0.length + a1.length:Nat):Int).toNat ((a0.length + a1.length:Nat):Int).toNat) d0.length k0]) (fun ⟨b0,d0,k0⟩ K0=>Cells K0 (bl [rr w 33 UInt64 (.slice (some ⟨j0,0,none⟩) ((a0.length + a1.length:Nat):Int).toNat ((a0.length + a1.length:Nat):Int).toNat) d0.length k0] ++ L) k0 d0) (fun ⟨b0,d0,k0⟩=>(b0,d0)) (0,R0,(List.replicate ((a0.length + a1.length:Nat):Int).toNat [vW 0]).flatten) U1 z0 (AB (cs:=(List.replicate ((a0.length + a1.length:Nat):Int).toNat [vW 0]).flatten) (xs:=R0) z0 L (Cells.mk J0 rfl)) ?_
 rintro A2 ⟨b0,d0,k0⟩ K0 q1 t0 x1 F0 h
 unfold aY_l2 at h
 try dsimp only at h
 refine Ac<|Ab (Bu (i:=b0) (j:=a0.length) rfl rfl)<|Aa<|Aj<|AT rfl h (fun Z0 h=>?_) (fun Z0 h=>?_)
 refine Au<|Aj<|AA<|Ac<|Ae rfl<|bk h fun D0 c2 h=>?_
 obtain ⟨y2,C2,C1,K1,c1,W1,P1⟩:=Br (AS h0_0 t0) c2
 have D1:c1 = [vU D0]:=W1; subst D1
 refine Ab (Bq 1 b0 rfl C1 rfl rfl K1)<|AP rfl (P1 0 _ rfl)<|Af rfl<|Af rfl<|Aa<|Ac<|Af rfl<|Aa<|Aj<|Ac<|Ae rfl<|Ab (Be (xs:=a1) Tryz.underlying146 rfl (AS h1_0 t0))<|Ae rfl<|Aa<|AA ?_
 obtain ⟨P2,V1,J1⟩:=bind_in2 h
 refine MX.lf (α:=UInt64 × Nat × (List UInt64) × (List Value)) (fun ⟨s0,c0,p0,q0⟩=>[(1,v1_0),(5,(.slice (some ⟨j0,0,none⟩) ((a0.length + a1.length:Nat):Int).toNat ((a0.length + a1.length:Nat):Int).toNat)),(22,v0_0),(23,vI ((a0.length:Nat):Int)),(24,vI ((b0:Nat):Int)),(6,vI ((b0:Nat):Int)),(7,vU D0),(8,vU s0),(29,v1_0),(30,vI ((a1.length:Nat):Int)),(31,vI ((c0:Nat):Int))]) (fun ⟨s0,c0,p0,q0⟩=>[rr w 33 UInt64 (.slice (some ⟨j0,0,none⟩) ((a0.length + a1.length:Nat):Int).toNat ((a0.length + a1.length:Nat):Int).toNat) p0.length q0]) (fun ⟨s0,c0,p0,q0⟩ M0=>Cells M0 (bl [rr w 33 UInt64 (.slice (some ⟨j0,0,none⟩) ((a0.length + a1.length:Nat):Int).toNat ((a0.length + a1.length:Nat):Int).toNat) p0.length q0] ++ L) q0 p0) (fun ⟨s0,c0,p0,q0⟩=>(s0,c0,p0)) ((0:UInt64),0,d0,k0) V1 t0 F0 ?_
 rintro B2 ⟨s0,c0,p0,q0⟩ M0 s1 g0 E0 v0 h
 unfold aY_l1 at h
 try dsimp only at h
 refine Ac<|Ab (Bu (i:=c0) (j:=a1.length) rfl rfl)<|Aa<|Aj<|AT rfl h (fun b1 h=>?_) (fun b1 h=>?_)
 refine Au<|Aj<|AA<|Ac<|Ae rfl<|bk h fun P0 d2 h=>?_
 obtain ⟨z2,D2,E1,M1,d1,X1,Q1⟩:=Br (AS h1_0 g0) d2
 have F1:d1 = [vU P0]:=X1; subst F1
 refine Ab (Bq 1 c0 rfl E1 rfl rfl M1)<|AP rfl (Q1 0 _ rfl)<|Af rfl<|Af rfl<|Aa<|Ac<|Ae rfl<|Ae rfl<|bk h fun u0 q2 h=>Ba (.tuple #[vU u0.1,vU u0.2]) (bd 194) rfl (e2 rfl rfl) (fun w9 hw9=>dl_c n (g0.hL0 hL hw9) D0 P0 q2) rfl<|Ae rfl<|Ab (Ag rfl rfl)<|Ab (Ag rfl rfl)<|Af rfl<|Af rfl<|Aa<|Ac<|Ae rfl<|Ae rfl<|Ae rfl<|Ab (Bw (i:=b0) (j:=c0) rfl rfl (by omega))<|bk h fun Q0 g2 h=>?_
 obtain ⟨V0,E2,x0,C0,g1,Y1,R1⟩:=St.nth (α:=UInt64) g0 .hd v0 g2
 obtain ⟨X0,F2,G0⟩:=BR (α:=UInt64) g0 .hd C0
 obtain rfl:V0 = ⟨X0,0,none⟩:=by rw [G0] at x0; cases x0; rfl
 have G1:g1 = [vU Q0]:=Y1; subst G1
 refine Ab (Bq 1 (b0 + c0) rfl x0 rfl rfl C0)<|AP rfl (R1 0 _ rfl)<|Ae rfl<|bk h fun y0 s2 h=>Ab (FV.add64 (a:=Q0) (b:=u0.2) (c:=(0:UInt64)) Tryz.func195 rfl (by kernel_rfl) (by kernel_rfl) (by kernel_rfl) rfl rfl rfl s2)<|Ae rfl<|Ab (Ag rfl rfl)<|Ab (Ag rfl rfl)<|Af rfl<|Af rfl<|Aa<|Ac<|Ae rfl<|Ae rfl<|bk h fun U0 t2 h=>Ab (FV.add64 (a:=y0.1) (b:=s0) (c:=(0:UInt64)) Tryz.func195 rfl (by kernel_rfl) (by kernel_rfl) (by kernel_rfl) rfl rfl rfl t2)<|Ae rfl<|Ab (Ag rfl rfl)<|Ab (Ag rfl rfl)<|Af rfl<|Af rfl<|Aa<|Av<|Ae rfl<|Ae rfl<|Ae rfl<|Ab (Bw (i:=b0) (j:=c0) rfl rfl (by omega))<|Ae rfl<|Ae rfl<|Ae rfl<|Ab (FV.addU (a:=u0.1) (b:=y0.2) rfl rfl)<|Ae rfl<|Ab (FV.addU (a:=u0.1 + y0.2) (b:=U0.2) rfl rfl)<|Ab (Bq 1 (b0 + c0) rfl x0 rfl rfl C0)<|bk h fun v2 k2 h=>RG.acts' .plain (Acts.set (α:=UInt64) (i:=b0 + c0) k2 g0 G0 (fun _=>.hd) v0 rfl rfl rfl rfl rfl (by kernel_rfl)) fun R2 ⟨j1,u1,y1,A1⟩=>Af rfl<|Aa<|AC<|Av<|Ab (Bw (i:=c0) (j:=1) rfl rfl (by omega))<|Ae rfl<|Aa<|s1 ((u0.1 + y0.2) + U0.2,c0 + 1,v2,j1) u1 (Tt E0 y1) A1 h
 refine Bd rfl ?_
 have h:=J1 _ h
 try dsimp only at h
 refine Av<|Ae rfl<|Ae rfl<|Ae rfl<|Ab (Be (xs:=a1) Tryz.underlying146 rfl (AS h1_0 g0))<|Ab (Bw (i:=b0) (j:=a1.length) rfl rfl (by omega))<|Ae rfl<|bk h fun u2 j2 h=>?_
 obtain ⟨W0,G2,B0,I0,k1,Z1,K2⟩:=St.nth (α:=UInt64) g0 .hd v0 j2
 obtain ⟨Y0,H2,H0⟩:=BR (α:=UInt64) g0 .hd I0
 obtain rfl:W0 = ⟨Y0,0,none⟩:=by rw [H0] at B0; cases B0; rfl
 have H1:k1 = [vU u2]:=Z1; subst H1
 refine Ab (Bq 1 (b0 + a1.length) rfl B0 rfl rfl I0)<|bk h fun x2 p2 h=>RG.acts' .plain (Acts.set (α:=UInt64) (i:=b0 + a1.length) p2 g0 H0 (fun _=>.hd) v0 rfl rfl rfl rfl rfl (by kernel_rfl)) fun U2 ⟨p1,v1,z1,B1⟩=>Aa<|AC<|Av<|Ab (Bw (i:=b0) (j:=1) rfl rfl (by omega))<|Ae rfl<|Aa<|q1 (b0 + 1,x2,p1) v1 (Tt x1 (Tt E0 z1)) B1 h
 refine Bd rfl ?_
 have h:=I1 _ h
 try dsimp only at h
 refine Ac<|Ae rfl<|Af rfl<|Aa<|Al rfl ?_
 have A0:=Bz t0 .hd
 have J2:=BA t0 .hd
 have b2:=BB (α:=UInt64) (v:=(.slice (some ⟨j0,0,none⟩) ((a0.length + a1.length:Nat):Int).toNat ((a0.length + a1.length:Nat):Int).toNat)) (xs:=d0) A0 L (Bj (α:=UInt64) t0 .hd F0 hL)
 refine AW hb0 Tryz.func175 rfl rfl ?_
 cases h
 exact ⟨A0.ag,fun w9 hw9=>⟨(.slice (some ⟨j0,0,none⟩) ((a0.length + a1.length:Nat):Int).toNat ((a0.length + a1.length:Nat):Int).toNat),rfl,A0.kd b2 hw9⟩⟩
def aV_p (n:Nat) (a0:Te) (a1:Te):Option Te:=
  (aY_p n a0.fm a1.fm).bind fun b0=>(au_p n (!(a0.fc == a1.fc)) b0).bind fun c0=>some c0
theorem aV_c (n:Nat) {L w} (hL:hl L w) (a0:Te) {v0_1:Value} (h0_1:Rep.R w L [v0_1] a0.fm) (a1:Te) {v1_1:Value} (h1_1:Rep.R w L [v1_1] a1.fm)  {r:Te} (h:aV_p n a0 a1 = some r) :
 Cl 150 #[.agg #[.bool a0.fc,v0_1],.agg #[.bool a1.fc,v1_1]] w (Gives w fun w' u=>∃ v0_1:Value,u = .agg #[.bool r.fc,v0_1]/\Rep.R w' L [v0_1] r.fm):=by
 unfold aV_p at h
 refine AD Tryz.func150 rfl rfl rfl fun _ cs0 hb0=>Ac<|RG.bx (Az w) rfl rfl fun Q0 C0 s0 F0=>RG.bx s0 rfl rfl fun R0 D0 t0 G0=>RG.nl [.bool false,vN] t0 fun U0 E0 d0 H0=>Aa<|Aj<|du 11 fun b0 c0=>Rv 0 b0 rfl c0 (fun _=>Bb 0 rfl)<|Rx 1 3088 b0 rfl c0 (AL rfl ((d0.memA .t2) 0 _ rfl))<|Rv 2 b0 rfl c0 (fun _=>Bb 0 rfl)<|Rx 3 3088 b0 rfl c0 (AL rfl ((d0.memA .t1) 0 _ rfl))<|Rv 4 b0 rfl c0 (fun _=>FV.neqB (a:=a0.fc) (b:=a1.fc) Tryz.underlying4 rfl rfl)<|Rv 5 b0 rfl c0 (fun _=>Bb 1 rfl)<|Rx 6 3584 b0 rfl c0 (AL rfl ((d0.memA .t2) 1 _ rfl))<|Rv 7 b0 rfl c0 (fun _=>Bb 1 rfl)<|Rx 8 3584 b0 rfl c0 (AL rfl ((d0.memA .t1) 1 _ rfl))<|bk h fun Y0 A0 h=>Bn 9 1023 b0 rfl .plain (bd 175) rfl (e2 rfl rfl) (fun w9 hw9=>aY_c n (d0.hL hL hw9) (d0.km h0_1 hw9) (d0.km h1_1 hw9) A0) rfl fun V0 M0 x0 ⟨K0,hu_,z0⟩=>?_
 subst hu_
 obtain ⟨k0,I0⟩:=d0.agr x0
 refine bk h fun q0 B0 h=>Bn 10 2047 b0 rfl .plain (bd 158) rfl (e2 rfl rfl) (fun w9 hw9=>au_c n (k0.hL hL hw9) (Aq z0 hw9) B0) rfl fun W0 P0 y0 ⟨j0,hu_,p0⟩=>?_
 subst hu_
 obtain ⟨u0,J0⟩:=k0.agr y0
 refine BE 11 4095 b0 rfl rfl .plain (AF (news:=[.bool q0.fc,j0]) u0 .hd rfl rfl rfl rfl rfl rfl (o2 rfl (AO p0))) fun X0 g0 v0=>AN (dk b0)<|Al rfl<|Am hb0 Tryz.func150 rfl (.cons (.many (cs:=[.bool q0.fc,j0]) (by kernel_rfl) rfl (g0.memA .hd)) .nil) rfl ?_
 cases h
 exact ⟨g0.ag,fun w9 hw9=>⟨j0,rfl,g0.kd (Ao p0 v0) hw9⟩⟩
def cw_p (n:Nat) (a0:Th) (a1:Th):Option Th:=
  (aV_p n a0.fy a1.ft).bind fun b0=>(aV_p n a1.fy a0.ft).bind fun c0=>(bX_p n b0 c0).bind fun d0=>(aV_p n a0.ft a1.ft).bind fun g0=>(ci_p n d0 g0).bind fun j0=>some j0
theorem cw_c (n:Nat) {L w} (hL:hl L w) (a0:Th) {v0_1:Value} (h0_1:Rep.R w L [v0_1] a0.fy.fm) {v0_3:Value} (h0_3:Rep.R w L [v0_3] a0.ft.fm) (a1:Th) {v1_1:Value} (h1_1:Rep.R w L [v1_1] a1.fy.fm) {v1_3:Value} (h1_3:Rep.R w L [v1_3] a1.ft.fm)  {r:Th} (h:cw_p n a0 a1 = some r) :
 Cl 127 #[.agg #[.bool a0.fy.fc,v0_1,.bool a0.ft.fc,v0_3],.agg #[.bool a1.fy.fc,v1_1,.bool a1.ft.fc,v1_3]] w (Gives w fun w' u=>∃ v0_1 v0_3:Value,u = .agg #[.bool r.fy.fc,v0_1,.bool r.ft.fc,v0_3]/\Rep.R w' L [v0_1] r.fy.fm/\Rep.R w' L [v0_3] r.ft.fm):=by
 unfold cw_p at h
 refine AD Tryz.func127 rfl rfl rfl fun _ cs0 hb0=>Ac<|RG.bx (Az w) rfl rfl fun F1 c1 z0 j1=>RG.bx z0 rfl rfl fun G1 d1 A0 k1=>RG.nl [.bool false,vN,.bool false,vN] A0 fun H1 g1 d0 p1=>Aa<|Aj<|du 17 fun b0 c0=>Rv 0 b0 rfl c0 (fun _=>Bb 0 rfl)<|Rx 1 230928 b0 rfl c0 (Bc (cs:=[.bool a0.fy.fc,v0_1]) (by kernel_rfl) rfl (mem_part (d0.memA .t2) 0 2))<|Rv 2 b0 rfl c0 (fun _=>Bb 2 rfl)<|Rx 3 230928 b0 rfl c0 (Bc (cs:=[.bool a1.ft.fc,v1_3]) (by kernel_rfl) rfl (mem_part (d0.memA .t1) 2 2))<|Rv 5 b0 rfl c0 (fun _=>Bb 0 rfl)<|Rx 6 230912 b0 rfl c0 (Bc (cs:=[.bool a1.fy.fc,v1_1]) (by kernel_rfl) rfl (mem_part (d0.memA .t1) 0 2))<|Rv 7 b0 rfl c0 (fun _=>Bb 2 rfl)<|Rx 8 230912 b0 rfl c0 (Bc (cs:=[.bool a0.ft.fc,v0_3]) (by kernel_rfl) rfl (mem_part (d0.memA .t2) 2 2))<|Rv 11 b0 rfl c0 (fun _=>Bb 2 rfl)<|Rx 12 229376 b0 rfl c0 (Bc (cs:=[.bool a0.ft.fc,v0_3]) (by kernel_rfl) rfl (mem_part (d0.memA .t2) 2 2))<|Rv 13 b0 rfl c0 (fun _=>Bb 2 rfl)<|Rx 14 229376 b0 rfl c0 (Bc (cs:=[.bool a1.ft.fc,v1_3]) (by kernel_rfl) rfl (mem_part (d0.memA .t1) 2 2))<|bk h fun X0 Q0 h=>Bn 4 31231 b0 rfl .plain (bd 150) rfl (e2 rfl rfl) (fun w9 hw9=>aV_c n (d0.hL hL hw9) a0.fy (d0.km h0_1 hw9) a1.ft (d0.km h1_3 hw9) Q0) rfl fun I1 A1 E0 ⟨v1,hu_,J0⟩=>?_
 subst hu_
 obtain ⟨g0,q1⟩:=d0.agr E0
 refine bk h fun Y0 R0 h=>Bn 9 31743 b0 rfl .plain (bd 150) rfl (e2 rfl rfl) (fun w9 hw9=>aV_c n (g0.hL hL hw9) a1.fy (g0.km h1_1 hw9) a0.ft (g0.km h0_3 hw9) R0) rfl fun J1 B1 F0 ⟨x1,hu_,K0⟩=>?_
 subst hu_
 obtain ⟨t0,C0⟩:=g0.agr F0
 refine bk h fun Z0 U0 h=>Bn 10 32767 b0 rfl .plain (bd 159) rfl (e2 rfl rfl) (fun w9 hw9=>bX_c n (t0.hL hL hw9) X0 (Aq (Ao J0 C0) hw9) Y0 (Aq K0 hw9) U0) rfl fun K1 C1 G0 ⟨y1,hu_,M0⟩=>?_
 subst hu_
 obtain ⟨j0,s1⟩:=t0.agr G0
 refine bk h fun b1 V0 h=>Bn 15 65535 b0 rfl .plain (bd 150) rfl (e2 rfl rfl) (fun w9 hw9=>aV_c n (j0.hL hL hw9) a0.ft (j0.km h0_3 hw9) a1.ft (j0.km h1_3 hw9) V0) rfl fun M1 D1 H0 ⟨z1,hu_,P0⟩=>?_
 subst hu_
 obtain ⟨u0,D0⟩:=j0.agr H0
 refine bk h fun p0 W0 h=>Bn 16 131071 b0 rfl .plain (bd 149) rfl (e2 rfl rfl) (fun w9 hw9=>ci_c n (u0.hL hL hw9) Z0 (Aq (Ao M0 D0) hw9) b1 (Aq P0 hw9) W0) rfl fun P1 E1 I0 ⟨q0,s0,hu_,x0,y0⟩=>?_
 subst hu_
 obtain ⟨B0,u1⟩:=u0.agr I0
 refine BE 17 262143 b0 rfl rfl .plain (AF (news:=[.bool p0.fy.fc,q0,.bool p0.ft.fc,s0]) B0 .hd rfl rfl rfl rfl rfl rfl (o4 rfl (AO x0) rfl (AO y0))) fun Q1 k0 v0=>AN (dk b0)<|Al rfl<|Am hb0 Tryz.func127 rfl (.cons (.many (cs:=[.bool p0.fy.fc,q0,.bool p0.ft.fc,s0]) (by kernel_rfl) rfl (k0.memA .hd)) .nil) rfl ?_
 cases h
 exact ⟨k0.ag,fun w9 hw9=>⟨q0,s0,rfl,k0.kd (Ao x0 v0) hw9,k0.kd (Ao y0 v0) hw9⟩⟩
def cV_p (n:Nat) (a0:Th) (a1:Th):Option Th:=
  (cj_p n a1).bind fun b0=>(cw_p n a0 b0).bind fun c0=>some c0
theorem cV_c (n:Nat) {L w} (hL:hl L w) (a0:Th) {v0_1:Value} (h0_1:Rep.R w L [v0_1] a0.fy.fm) {v0_3:Value} (h0_3:Rep.R w L [v0_3] a0.ft.fm) (a1:Th) {v1_1:Value} (h1_1:Rep.R w L [v1_1] a1.fy.fm) {v1_3:Value} (h1_3:Rep.R w L [v1_3] a1.ft.fm)  {r:Th} (h:cV_p n a0 a1 = some r) :
 Cl 111 #[.agg #[.bool a0.fy.fc,v0_1,.bool a0.ft.fc,v0_3],.agg #[.bool a1.fy.fc,v1_1,.bool a1.ft.fc,v1_3]] w (Gives w fun w' u=>∃ v0_1 v0_3:Value,u = .agg #[.bool r.fy.fc,v0_1,.bool r.ft.fc,v0_3]/\Rep.R w' L [v0_1] r.fy.fm/\Rep.R w' L [v0_3] r.ft.fm):=by
 unfold cV_p at h
 refine AD Tryz.func111 rfl rfl rfl fun _ cs0 hb0=>Ac<|RG.bx (Az w) rfl rfl fun X0 G0 v0 J0=>RG.bx v0 rfl rfl fun Y0 H0 x0 K0=>RG.nl [.bool false,vN,.bool false,vN] x0 fun Z0 I0 b0 M0=>Aa<|Aj<|du 4 fun c0 u0=>Rx 0 24 c0 rfl u0 (AH rfl (b0.memA .t2))<|Rx 1 28 c0 rfl u0 (AH rfl (b0.memA .t1))<|bk h fun F0 D0 h=>Bn 2 7 c0 rfl .plain (bd 124) rfl (e1 rfl) (fun w9 hw9=>cj_c n (b0.hL hL hw9) a1 (b0.km h1_1 hw9) (b0.km h1_3 hw9) D0) rfl fun b1 V0 z0 ⟨R0,U0,hu_,B0,C0⟩=>?_
 subst hu_
 obtain ⟨d0,P0⟩:=b0.agr z0
 refine bk h fun j0 E0 h=>Bn 3 15 c0 rfl .plain (bd 127) rfl (e2 rfl rfl) (fun w9 hw9=>cw_c n (d0.hL hL hw9) a0 (d0.km h0_1 hw9) (d0.km h0_3 hw9) F0 (Aq B0 hw9) (Aq C0 hw9) E0) rfl fun c1 W0 A0 ⟨k0,p0,hu_,s0,t0⟩=>?_
 subst hu_
 obtain ⟨y0,Q0⟩:=d0.agr A0
 refine BE 4 31 c0 rfl rfl .plain (AF (news:=[.bool j0.fy.fc,k0,.bool j0.ft.fc,p0]) y0 .hd rfl rfl rfl rfl rfl rfl (o4 rfl (AO s0) rfl (AO t0))) fun d1 g0 q0=>AN (dk c0)<|Al rfl<|Am hb0 Tryz.func111 rfl (.cons (.many (cs:=[.bool j0.fy.fc,k0,.bool j0.ft.fc,p0]) (by kernel_rfl) rfl (g0.memA .hd)) .nil) rfl ?_
 cases h
 exact ⟨g0.ag,fun w9 hw9=>⟨k0,p0,rfl,g0.kd (Ao s0 q0) hw9,g0.kd (Ao t0 q0) hw9⟩⟩
theorem el63:ElT Tryz.prog 63 37 (Rep.size Ta) 128 (.agg zM) zL:=⟨Tryz.underlying63,by kernel_rfl,rfl,rfl,rfl,rfl⟩
def dG_p (n:Nat) (a0:Ta) (a1:Ta):Option (Ta × Int):=
  (aD_p n ([a0,a1]:List Ta)).bind fun d0=>(if d0 = true then (aF_p n a0).bind fun g0=>(aF_p n a1).bind fun j0=>(cV_p n g0 j0).bind fun k0=>(bB_p n k0 (0:Int)).bind fun c0=>some (c0.1,c0.2) else (bB_p n (⟨(⟨false,([]:List UInt64)⟩:Te),(⟨false,([]:List UInt64)⟩:Te)⟩:Th) (20:Int)).bind fun b0=>some (b0.1,b0.2))
theorem dG_c (n:Nat) {L w} (hL:hl L w) (a0:Ta) (a1:Ta)  {r:Ta × Int} (h:dG_p n a0 a1 = some r) :
 Cl 66 #[.agg ((cs_Ta a0)).toArray,.agg ((cs_Ta a1)).toArray] w (Gives w fun _ u=>u = .tuple #[.agg ((cs_Ta r.1)).toArray,vI r.2]):=by
 unfold dG_p at h
 refine AD Tryz.func66 rfl rfl rfl fun _ cs0 hb0=>Ac<|RG.bx (Az w) rfl rfl fun j2 s1 I0 F1=>RG.bx I0 rfl rfl fun k2 u1 J0 G1=>RG.nl zL J0 fun p2 v1 q0 H1=>Af rfl<|Aa<|Ac<|Ab (AH rfl (q0.memA .t2))<|Ab (AH rfl (q0.memA .t1))<|BL (fst:=[]) (cap:=[]) (vs:=[.agg ((cs_Ta a0)).toArray,.agg ((cs_Ta a1)).toArray,.func (.func 111) #[] #[]]) .plain (bd 109) Tryz.func109 rfl rfl rfl rfl (e3 rfl rfl rfl) rfl fun C1 E0 V1=>Ac<|RG.bx q0 rfl rfl fun q2 x1 K0 I1=>RG.bx K0 rfl rfl fun s2 y1 M0 J1=>RG.nl [.bool false,vN,.bool false,vN] M0 fun u2 z1 s0 K1=>Af rfl<|Aa<|Aj<|Ac<|Ab (AH rfl (s0.memA .t2))<|Ab (AH rfl (s0.memA .t1))<|Ak .plain rfl (AK (α:=Ta) (xs:=([a0,a1]:List Ta)) (vs:=[.agg ((cs_Ta a0)).toArray,.agg ((cs_Ta a1)).toArray]) (ds' :=(cs_Ta a0 ++ cs_Ta a1)) rfl s0 el63 rfl (e2 rfl rfl) (by kernel_rfl) rfl) fun v2 A1 c0 M1=>?_
 refine bk h fun k1 b1 h=>Ba (.bool k1) (bd 107) rfl (e1 rfl) (fun w9 hw9=>aD_c n (c0.hL0 hL hw9) (Aq (St.lend (α:=Ta) (L:=L) c0 .hd (AB (cs:=(cs_Ta a0 ++ cs_Ta a1)) (xs:=(([a0,a1]:List Ta):List Ta)) c0 L (Ar (cs:=(cs_Ta a0)) (ds:=(cs_Ta a1)) (mk_Ta a0.fN a0.fD) (Ar (cs:=(cs_Ta a1)) (ds:=[]) (mk_Ta a1.fN a1.fD) (AJ _ _)))) hL) hw9) b1) rfl<|Ab (Bp rfl)<|Aa<|BU rfl h (fun H0 h=>?_) (fun H0 h=>?_)
 refine Au<|Aj<|du 6 fun b0 t0=>Rv 0 b0 rfl t0 (fun _=>Ai rfl)<|Rx 1 244 b0 rfl t0 (AH rfl (c0.memA .t3))<|Rx 3 240 b0 rfl t0 (AH rfl (c0.memA .t2))<|bk h fun p1 c1 h=>Bn 2 15 b0 rfl .plain (bd 148) rfl (e1 rfl) (fun w9 hw9=>aF_c n (c0.hL hL hw9) a0 c1) rfl fun x2 b2 Q0 ⟨W1,X1,hu_,V0,W0⟩=>?_
 subst hu_
 obtain ⟨y0,P1⟩:=c0.agr Q0
 refine bk h fun q1 d1 h=>Bn 4 31 b0 rfl .plain (bd 148) rfl (e1 rfl) (fun w9 hw9=>aF_c n (y0.hL hL hw9) a1 d1) rfl fun y2 c2 R0 ⟨Y1,Z1,hu_,X0,Y0⟩=>?_
 subst hu_
 obtain ⟨z0,C0⟩:=y0.agr R0
 refine bk h fun d0 g1 h=>Bn 5 63 b0 rfl .plain (bd 111) rfl (e2 rfl rfl) (fun w9 hw9=>cV_c n (z0.hL hL hw9) p1 (Aq (Ao V0 C0) hw9) (Aq (Ao W0 C0) hw9) q1 (Aq X0 hw9) (Aq Y0 hw9) g1) rfl fun z2 d2 U0 ⟨u0,v0,hu_,F0,G0⟩=>?_
 subst hu_
 obtain ⟨P0,Q1⟩:=z0.agr U0
 refine BE 6 127 b0 rfl rfl .plain (AF (news:=[.bool d0.fy.fc,u0,.bool d0.ft.fc,v0]) P0 .t1 rfl rfl rfl rfl rfl rfl (o4 rfl (AO F0) rfl (AO G0))) fun A2 g0 D0=>Bf (i:=7) (rk b0) (Bs (m' :=255) (sk b0) rfl .plain rfl (AV rfl) ?_)
 refine AN (dk b0)<|Al rfl<|Am (u:=.tuple #[.agg #[.bool d0.fy.fc,u0,.bool d0.ft.fc,v0],vI 0]) E0 Tryz.func109 rfl (.cons (.many (cs:=[.bool d0.fy.fc,u0,.bool d0.ft.fc,v0]) (by kernel_rfl) rfl (g0.memA .t1)) (.cons (.tmp rfl) .nil)) rfl<|Ab (Ag rfl rfl)<|Ab (Ag rfl rfl)<|bk h fun k0 j1 h=>Ba (.tuple #[.agg ((cs_Ta k0.1)).toArray,vI k0.2]) (bd 108) rfl (e2 rfl rfl) (fun w9 hw9=>bB_c n (g0.hL0 hL hw9) d0 (g0.kd (Ao F0 D0) hw9) (g0.kd (Ao G0 D0) hw9) j1) rfl<|Ab (Ag rfl rfl)<|Ab (Ag rfl rfl)<|AQ (cs_Ta k0.1) g0 .t4 (onesB rfl) fun B2 A0 R1=>Af rfl<|Aa<|Al rfl<|Am hb0 Tryz.func66 rfl (.cons (.many (cs:=(cs_Ta k0.1)) (by kernel_rfl) rfl (A0.memA .t4)) (.cons (.tmp rfl) .nil)) rfl ?_
 cases h
 exact A0.gv
 refine Ac<|RG.nl [.bool false,vN,.bool false,vN] c0 fun C2 B1 B0 U1=>Aa<|Ac<|Ab (AH rfl (B0.memA .hd))<|AQ [.bool false,vN,.bool false,vN] B0 .t2 (onesB rfl) fun D2 p0 D1=>Af rfl<|Aa<|Al rfl<|Am (u:=.tuple #[.agg #[.bool false,vN,.bool false,vN],vI 20]) E0 Tryz.func109 rfl (.cons (.many (cs:=[.bool false,vN,.bool false,vN]) (by kernel_rfl) rfl (p0.memA .t2)) (.cons (.tmp rfl) .nil)) rfl<|Ab (Ag rfl rfl)<|Ab (Ag rfl rfl)<|bk h fun j0 Z0 h=>Ba (.tuple #[.agg ((cs_Ta j0.1)).toArray,vI j0.2]) (bd 108) rfl (e2 rfl rfl) (fun w9 hw9=>bB_c n (p0.hL0 hL hw9) (⟨(⟨false,([]:List UInt64)⟩:Te),(⟨false,([]:List UInt64)⟩:Te)⟩:Th) (Aq (Rep.nilSlice _ _) hw9) (Aq (Rep.nilSlice _ _) hw9) Z0) rfl<|Ab (Ag rfl rfl)<|Ab (Ag rfl rfl)<|AQ (cs_Ta j0.1) p0 .t5 (onesB rfl) fun g2 x0 E1=>Af rfl<|Aa<|Al rfl<|Am hb0 Tryz.func66 rfl (.cons (.many (cs:=(cs_Ta j0.1)) (by kernel_rfl) rfl (x0.memA .t5)) (.cons (.tmp rfl) .nil)) rfl ?_
 cases h
 exact x0.gv
def a9_p (_n:Nat) (a0:Int) (a1:Int):Option (Except Tg Int):=
  (if a1 = 0 then some (.ok a0) else some (.error (⟨a1⟩:Tg)))
theorem a9_c (n:Nat) {L w} (_hL:hl L w) {a0:Int} {a1:Int}  {r:Except Tg Int} (h:a9_p n a0 a1 = some r) :
 Cl 81 #[vI a0,vI a1] w (PGives w (fun (y:Int) _ u=>u = vI y) (fun e=>.iface 120 (.agg #[vI e.fB])) r):=by
 unfold a9_p at h
 have hS0:=Az w
 refine MX.startP Tryz.func81 rfl rfl rfl fun _ cs0 hb0 hp0=>Ac<|Af rfl<|Aa<|Aj<|Ac<|Ae rfl<|Ab (BP (i:=a1) (j:=0) rfl rfl)<|Aa<|MX.ifn rfl h (fun c1 h=>?_) (fun c1 h=>?_)
 refine Au<|Ac<|Ae rfl<|Af rfl<|Aa<|Al rfl<|AW hb0 Tryz.func81 rfl rfl ?_
 cases h
 exact ⟨hS0.ag,fun w9 hw9=>okOf_in rfl⟩
 refine Av<|Ae rfl<|Ab (AU (vs:=[vI a1]) (u:=.agg #[vI a1]) (e1 rfl) (fun w9=>by kernel_rfl))<|Ab (FV.makeInterface (by kernel_rfl) rfl)<|RG.panic .plain rfl ?_
 cases h
 exact Bl hp0 Tryz.func81 ⟨hS0.ag,rfl⟩
def dH_p (n:Nat) (a0:Th) (_a1:Th):Option Int:=
  (cu_p n a0.fy).bind fun b0=>some b0
theorem dH_c (n:Nat) {L w} (hL:hl L w) (a0:Th) {v0_1:Value} (h0_1:Rep.R w L [v0_1] a0.fy.fm) {v0_3:Value} (_h0_3:Rep.R w L [v0_3] a0.ft.fm) (a1:Th) {v1_1:Value} (_h1_1:Rep.R w L [v1_1] a1.fy.fm) {v1_3:Value} (_h1_3:Rep.R w L [v1_3] a1.ft.fm)  {r:Int} (h:dH_p n a0 a1 = some r) :
 Cl 119 #[.agg #[.bool a0.fy.fc,v0_1,.bool a0.ft.fc,v0_3],.agg #[.bool a1.fy.fc,v1_1,.bool a1.ft.fc,v1_3]] w (Gives w fun _ u=>u = vI r):=by
 unfold dH_p at h
 refine AD Tryz.func119 rfl rfl rfl fun _ cs0 hb0=>Ac<|RG.bx (Az w) rfl rfl fun t0 j0 c0 q0=>RG.bx c0 rfl rfl fun u0 p0 b0 s0=>Af rfl<|Aa<|Ac<|AR 0 rfl<|Ab (Bc (cs:=[.bool a0.fy.fc,v0_1]) (by kernel_rfl) rfl (mem_part (b0.memA .t1) 0 2))<|bk h fun g0 d0 h=>Ba (vI g0) (bd 120) rfl (e1 rfl) (fun w9 hw9=>cu_c n (b0.hL0 hL hw9) a0.fy (b0.k0 h0_1 hw9) d0) rfl<|Af rfl<|Aa<|Al rfl<|AW hb0 Tryz.func119 rfl rfl ?_
 cases h
 exact b0.gv
def dB_p (n:Nat) (a0:Ta):Option (Int × Int):=
  (aD_p n ([a0,a0]:List Ta)).bind fun b0=>(if b0 = true then (aF_p n a0).bind fun c0=>(aF_p n a0).bind fun d0=>(dH_p n c0 d0).bind fun g0=>some (g0,(0:Int)) else some ((0:Int),(20:Int)))
theorem dB_c (n:Nat) {L w} (hL:hl L w) (a0:Ta)  {r:Int × Int} (h:dB_p n a0 = some r) :
 Cl 82 #[.agg ((cs_Ta a0)).toArray] w (Gives w fun _ u=>u = .tuple #[vI r.1,vI r.2]):=by
 unfold dB_p at h
 refine AD Tryz.func82 rfl rfl rfl fun _ cs0 hb0=>Ac<|RG.bx (Az w) rfl rfl fun p1 K0 j0 U0=>Af rfl<|Af rfl<|Aa<|Ac<|Ab (AH rfl (j0.memA .hd))<|Ab (AH rfl (j0.memA .hd))<|BL (fst:=[]) (cap:=[]) (vs:=[.agg ((cs_Ta a0)).toArray,.agg ((cs_Ta a0)).toArray,.func (.func 119) #[] #[]]) .plain (bd 118) Tryz.func118 rfl rfl rfl rfl (e3 rfl rfl rfl) rfl fun R0 s0 Z0=>Ac<|RG.bx j0 rfl rfl fun q1 M0 v0 V0=>RG.bx v0 rfl rfl fun s1 P0 k0 W0=>Af rfl<|Af rfl<|Aa<|Aj<|Ac<|Ab (AH rfl (k0.memA .t1))<|Ab (AH rfl (k0.memA .hd))<|Ak .plain rfl (AK (α:=Ta) (xs:=([a0,a0]:List Ta)) (vs:=[.agg ((cs_Ta a0)).toArray,.agg ((cs_Ta a0)).toArray]) (ds' :=(cs_Ta a0 ++ cs_Ta a0)) rfl k0 el63 rfl (e2 rfl rfl) (by kernel_rfl) rfl) fun u1 Q0 c0 X0=>bk h fun H0 D0 h=>Ba (.bool H0) (bd 107) rfl (e1 rfl) (fun w9 hw9=>aD_c n (c0.hL0 hL hw9) (Aq (St.lend (α:=Ta) (L:=L) c0 .hd (AB (cs:=(cs_Ta a0 ++ cs_Ta a0)) (xs:=(([a0,a0]:List Ta):List Ta)) c0 L (Ar (cs:=(cs_Ta a0)) (ds:=(cs_Ta a0)) (mk_Ta a0.fN a0.fD) (Ar (cs:=(cs_Ta a0)) (ds:=[]) (mk_Ta a0.fN a0.fD) (AJ _ _)))) hL) hw9) D0) rfl<|Ab (Bp rfl)<|Aa<|BU rfl h (fun u0 h=>?_) (fun u0 h=>?_)
 refine Au<|Aj<|du 8 fun b0 g0=>Rv 0 b0 rfl g0 (fun _=>Ai rfl)<|Rx 1 244 b0 rfl g0 (AH rfl (c0.memA .t2))<|Rx 3 240 b0 rfl g0 (AH rfl (c0.memA .t1))<|bk h fun I0 E0 h=>Bn 2 15 b0 rfl .plain (bd 148) rfl (e1 rfl) (fun w9 hw9=>aF_c n (c0.hL hL hw9) a0 E0) rfl fun v1 j1 x0 ⟨b1,c1,hu_,z0,A0⟩=>?_
 subst hu_
 obtain ⟨p0,Y0⟩:=c0.agr x0
 refine bk h fun J0 F0 h=>Bn 4 31 b0 rfl .plain (bd 148) rfl (e1 rfl) (fun w9 hw9=>aF_c n (p0.hL hL hw9) a0 F0) rfl fun x1 k1 y0 ⟨d1,g1,hu_,B0,C0⟩=>?_
 subst hu_
 obtain ⟨d0,q0⟩:=p0.agr y0
 refine bk h fun t0 G0 h=>BO 5 63 192 (vI t0) b0 rfl g0 (bd 119) rfl (e2 rfl rfl) (fun w9 hw9=>dH_c n (d0.hL0 hL hw9) I0 (d0.kd (Ao z0 q0) hw9) (d0.kd (Ao A0 q0) hw9) J0 (d0.kd B0 hw9) (d0.kd C0 hw9) G0) rfl<|Rv 6 b0 rfl g0 (fun _=>AV rfl)<|Rv 7 b0 rfl g0 (fun _=>AV rfl)<|AN (dk b0)<|Al rfl<|Am (u:=.tuple #[vI t0,vI 0]) s0 Tryz.func118 rfl (.cons (.tmp rfl) (.cons (.tmp rfl) .nil)) rfl<|Ab (Ag rfl rfl)<|Ab (Ag rfl rfl)<|Af rfl<|Af rfl<|Aa<|Al rfl<|Am hb0 Tryz.func82 rfl (.cons (.tmp rfl) (.cons (.tmp rfl) .nil)) rfl ?_
 cases h
 exact d0.gv
 refine Ac<|Af rfl<|Aa<|Ac<|Ae rfl<|Af rfl<|Af rfl<|Aa<|Al rfl<|Am (u:=.tuple #[vI 0,vI 20]) s0 Tryz.func118 rfl (.cons (.tmp rfl) (.cons (.tmp rfl) .nil)) rfl<|Ab (Ag rfl rfl)<|Ab (Ag rfl rfl)<|Af rfl<|Af rfl<|Aa<|Al rfl<|Am hb0 Tryz.func82 rfl (.cons (.tmp rfl) (.cons (.tmp rfl) .nil)) rfl ?_
 cases h
 exact c0.gv
def dD_p (n:Nat) (a0:UInt64 × UInt64 × UInt64 × UInt64 × UInt64 × UInt64 × UInt64 × UInt64):Option (Int × Int):=
  (dq_p n (i64of a0.1)).bind fun b0=>(if b0 = a0 then some (i64of a0.1,(0:Int)) else some ((0:Int),(6:Int)))
theorem dD_c (n:Nat) {L w} (hL:hl L w) (a0:UInt64 × UInt64 × UInt64 × UInt64 × UInt64 × UInt64 × UInt64 × UInt64)  {r:Int × Int} (h:dD_p n a0 = some r) :
 Cl 84 #[.agg ((cs_A34 a0)).toArray] w (Gives w fun _ u=>u = .tuple #[vI r.1,vI r.2]):=by
 unfold dD_p at h
 refine AD Tryz.func84 rfl rfl rfl fun _ cs0 hb0=>Ac<|RG.bx (Az w) rfl rfl fun s0 p0 b0 q0=>Af rfl<|Af rfl<|Aa<|Ac<|Ab (Bg (m:=1) (k:=0) (len:=8) (by kernel_rfl) rfl rfl rfl (by omega))<|AP rfl ((b0.memA .hd) 0 _ rfl)<|Ab (FV.convUI (a:=a0.1) Tryz.underlying33 Tryz.underlying3 rfl)<|Af rfl<|Aa<|Aj<|Aj<|du 4 fun c0 d0=>Rv 0 c0 rfl d0 (fun _=>Ai rfl)<|bk h fun g0 k0 h=>BO 1 3 8 (.agg ((cs_A34 g0)).toArray) c0 rfl d0 (bd 113) rfl (e1 rfl) (fun w9 hw9=>dq_c n (b0.hL0 hL hw9)  k0) rfl<|Rx 2 8 c0 rfl d0 (AH rfl (b0.memA .hd))<|Rv 3 c0 rfl d0 (fun _=>FV.neqV (xs:=((cs_A34 g0)).toArray) (ys:=((cs_A34 a0)).toArray) rfl rfl (by kernel_rfl) (eqlD_35 g0 a0))<|AN (dk c0)<|MX.ifn rfl h (fun j0 h=>?_) (fun j0 h=>?_)
 refine Au<|Ac<|Ae rfl<|Af rfl<|Af rfl<|Aa<|Al rfl<|Am hb0 Tryz.func84 rfl (.cons (.tmp rfl) (.cons (.tmp rfl) .nil)) rfl ?_
 cases h
 exact b0.gv
 refine Ac<|Af rfl<|Af rfl<|Aa<|Al rfl<|Am hb0 Tryz.func84 rfl (.cons (.tmp rfl) (.cons (.tmp rfl) .nil)) rfl ?_
 cases h
 exact b0.gv
def aS_p (_n:Nat) (a0:UInt64 × UInt64 × UInt64 × UInt64 × UInt64 × UInt64 × UInt64 × UInt64) (a1:Int):Option (Except Tg (UInt64 × UInt64 × UInt64 × UInt64 × UInt64 × UInt64 × UInt64 × UInt64)):=
  (if a1 = 0 then some (.ok a0) else some (.error (⟨a1⟩:Tg)))
theorem aS_c (n:Nat) {L w} (_hL:hl L w) (a0:UInt64 × UInt64 × UInt64 × UInt64 × UInt64 × UInt64 × UInt64 × UInt64) {a1:Int}  {r:Except Tg (UInt64 × UInt64 × UInt64 × UInt64 × UInt64 × UInt64 × UInt64 × UInt64)} (h:aS_p n a0 a1 = some r) :
 Cl 85 #[.agg ((cs_A34 a0)).toArray,vI a1] w (PGives w (fun (y:UInt64 × UInt64 × UInt64 × UInt64 × UInt64 × UInt64 × UInt64 × UInt64) _ u=>u = .agg ((cs_A34 y)).toArray) (fun e=>.iface 120 (.agg #[vI e.fB])) r):=by
 unfold aS_p at h
 refine MX.startP Tryz.func85 rfl rfl rfl fun _ cs0 hb0 hp0=>Ac<|RG.bx (Az w) rfl rfl fun t0 j0 g0 p0=>RG.nl zP g0 fun u0 k0 b0 q0=>Aa<|Aj<|Ac<|Ae rfl<|Ab (BP (i:=a1) (j:=0) rfl rfl)<|Aa<|MX.ifn rfl h (fun d0 h=>?_) (fun d0 h=>?_)
 refine Au<|Ac<|Ab (AH rfl (b0.memA .t1))<|AQ (cs_A34 a0) b0 .hd (onesB rfl) fun v0 c0 s0=>Aa<|Al rfl<|Am hb0 Tryz.func85 rfl (.cons (.many (cs:=(cs_A34 a0)) (by kernel_rfl) rfl (c0.memA .hd)) .nil) rfl ?_
 cases h
 exact ⟨c0.ag,fun w9 hw9=>okOf_in rfl⟩
 refine Av<|Ae rfl<|Ab (AU (vs:=[vI a1]) (u:=.agg #[vI a1]) (e1 rfl) (fun w9=>by kernel_rfl))<|Ab (FV.makeInterface (by kernel_rfl) rfl)<|RG.panic .plain rfl ?_
 cases h
 exact Bl hp0 Tryz.func85 ⟨b0.ag,rfl⟩
def cH_p (n:Nat) (a0:Th) (a1:Th):Option Th:=
  (aV_p n a0.fy a1.fy).bind fun b0=>(aV_p n a0.ft a1.ft).bind fun c0=>(ci_p n b0 c0).bind fun d0=>some d0
theorem cH_c (n:Nat) {L w} (hL:hl L w) (a0:Th) {v0_1:Value} (h0_1:Rep.R w L [v0_1] a0.fy.fm) {v0_3:Value} (h0_3:Rep.R w L [v0_3] a0.ft.fm) (a1:Th) {v1_1:Value} (h1_1:Rep.R w L [v1_1] a1.fy.fm) {v1_3:Value} (h1_3:Rep.R w L [v1_3] a1.ft.fm)  {r:Th} (h:cH_p n a0 a1 = some r) :
 Cl 121 #[.agg #[.bool a0.fy.fc,v0_1,.bool a0.ft.fc,v0_3],.agg #[.bool a1.fy.fc,v1_1,.bool a1.ft.fc,v1_3]] w (Gives w fun w' u=>∃ v0_1 v0_3:Value,u = .agg #[.bool r.fy.fc,v0_1,.bool r.ft.fc,v0_3]/\Rep.R w' L [v0_1] r.fy.fm/\Rep.R w' L [v0_3] r.ft.fm):=by
 unfold cH_p at h
 refine AD Tryz.func121 rfl rfl rfl fun _ cs0 hb0=>Ac<|RG.bx (Az w) rfl rfl fun g1 M0 x0 R0=>RG.bx x0 rfl rfl fun j1 P0 y0 U0=>RG.nl [.bool false,vN,.bool false,vN] y0 fun k1 Q0 c0 V0=>Aa<|Aj<|du 11 fun b0 d0=>Rv 0 b0 rfl d0 (fun _=>Bb 0 rfl)<|Rx 1 3600 b0 rfl d0 (Bc (cs:=[.bool a0.fy.fc,v0_1]) (by kernel_rfl) rfl (mem_part (c0.memA .t2) 0 2))<|Rv 2 b0 rfl d0 (fun _=>Bb 0 rfl)<|Rx 3 3600 b0 rfl d0 (Bc (cs:=[.bool a1.fy.fc,v1_1]) (by kernel_rfl) rfl (mem_part (c0.memA .t1) 0 2))<|Rv 5 b0 rfl d0 (fun _=>Bb 2 rfl)<|Rx 6 3584 b0 rfl d0 (Bc (cs:=[.bool a0.ft.fc,v0_3]) (by kernel_rfl) rfl (mem_part (c0.memA .t2) 2 2))<|Rv 7 b0 rfl d0 (fun _=>Bb 2 rfl)<|Rx 8 3584 b0 rfl d0 (Bc (cs:=[.bool a1.ft.fc,v1_3]) (by kernel_rfl) rfl (mem_part (c0.memA .t1) 2 2))<|bk h fun J0 G0 h=>Bn 4 511 b0 rfl .plain (bd 150) rfl (e2 rfl rfl) (fun w9 hw9=>aV_c n (c0.hL hL hw9) a0.fy (c0.km h0_1 hw9) a1.fy (c0.km h1_1 hw9) G0) rfl fun p1 b1 B0 ⟨Y0,hu_,E0⟩=>?_
 subst hu_
 obtain ⟨g0,W0⟩:=c0.agr B0
 refine bk h fun K0 H0 h=>Bn 9 1023 b0 rfl .plain (bd 150) rfl (e2 rfl rfl) (fun w9 hw9=>aV_c n (g0.hL hL hw9) a0.ft (g0.km h0_3 hw9) a1.ft (g0.km h1_3 hw9) H0) rfl fun q1 c1 C0 ⟨Z0,hu_,F0⟩=>?_
 subst hu_
 obtain ⟨s0,A0⟩:=g0.agr C0
 refine bk h fun k0 I0 h=>Bn 10 2047 b0 rfl .plain (bd 149) rfl (e2 rfl rfl) (fun w9 hw9=>ci_c n (s0.hL hL hw9) J0 (Aq (Ao E0 A0) hw9) K0 (Aq F0 hw9) I0) rfl fun s1 d1 D0 ⟨p0,q0,hu_,u0,v0⟩=>?_
 subst hu_
 obtain ⟨z0,X0⟩:=s0.agr D0
 refine BE 11 4095 b0 rfl rfl .plain (AF (news:=[.bool k0.fy.fc,p0,.bool k0.ft.fc,q0]) z0 .hd rfl rfl rfl rfl rfl rfl (o4 rfl (AO u0) rfl (AO v0))) fun u1 j0 t0=>AN (dk b0)<|Al rfl<|Am hb0 Tryz.func121 rfl (.cons (.many (cs:=[.bool k0.fy.fc,p0,.bool k0.ft.fc,q0]) (by kernel_rfl) rfl (j0.memA .hd)) .nil) rfl ?_
 cases h
 exact ⟨j0.ag,fun w9 hw9=>⟨p0,q0,rfl,j0.kd (Ao u0 t0) hw9,j0.kd (Ao v0 t0) hw9⟩⟩
def dz_p (n:Nat) (a0:Ta) (a1:Ta):Option (Ta × Int):=
  (aD_p n ([a0,a1]:List Ta)).bind fun d0=>(if d0 = true then (aF_p n a0).bind fun g0=>(aF_p n a1).bind fun j0=>(cH_p n g0 j0).bind fun k0=>(bB_p n k0 (0:Int)).bind fun c0=>some (c0.1,c0.2) else (bB_p n (⟨(⟨false,([]:List UInt64)⟩:Te),(⟨false,([]:List UInt64)⟩:Te)⟩:Th) (20:Int)).bind fun b0=>some (b0.1,b0.2))
theorem dz_c (n:Nat) {L w} (hL:hl L w) (a0:Ta) (a1:Ta)  {r:Ta × Int} (h:dz_p n a0 a1 = some r) :
 Cl 86 #[.agg ((cs_Ta a0)).toArray,.agg ((cs_Ta a1)).toArray] w (Gives w fun _ u=>u = .tuple #[.agg ((cs_Ta r.1)).toArray,vI r.2]):=by
 unfold dz_p at h
 refine AD Tryz.func86 rfl rfl rfl fun _ cs0 hb0=>Ac<|RG.bx (Az w) rfl rfl fun j2 s1 I0 F1=>RG.bx I0 rfl rfl fun k2 u1 J0 G1=>RG.nl zL J0 fun p2 v1 q0 H1=>Af rfl<|Aa<|Ac<|Ab (AH rfl (q0.memA .t2))<|Ab (AH rfl (q0.memA .t1))<|BL (fst:=[]) (cap:=[]) (vs:=[.agg ((cs_Ta a0)).toArray,.agg ((cs_Ta a1)).toArray,.func (.func 121) #[] #[]]) .plain (bd 109) Tryz.func109 rfl rfl rfl rfl (e3 rfl rfl rfl) rfl fun C1 E0 V1=>Ac<|RG.bx q0 rfl rfl fun q2 x1 K0 I1=>RG.bx K0 rfl rfl fun s2 y1 M0 J1=>RG.nl [.bool false,vN,.bool false,vN] M0 fun u2 z1 s0 K1=>Af rfl<|Aa<|Aj<|Ac<|Ab (AH rfl (s0.memA .t2))<|Ab (AH rfl (s0.memA .t1))<|Ak .plain rfl (AK (α:=Ta) (xs:=([a0,a1]:List Ta)) (vs:=[.agg ((cs_Ta a0)).toArray,.agg ((cs_Ta a1)).toArray]) (ds' :=(cs_Ta a0 ++ cs_Ta a1)) rfl s0 el63 rfl (e2 rfl rfl) (by kernel_rfl) rfl) fun v2 A1 c0 M1=>?_
 refine bk h fun k1 b1 h=>Ba (.bool k1) (bd 107) rfl (e1 rfl) (fun w9 hw9=>aD_c n (c0.hL0 hL hw9) (Aq (St.lend (α:=Ta) (L:=L) c0 .hd (AB (cs:=(cs_Ta a0 ++ cs_Ta a1)) (xs:=(([a0,a1]:List Ta):List Ta)) c0 L (Ar (cs:=(cs_Ta a0)) (ds:=(cs_Ta a1)) (mk_Ta a0.fN a0.fD) (Ar (cs:=(cs_Ta a1)) (ds:=[]) (mk_Ta a1.fN a1.fD) (AJ _ _)))) hL) hw9) b1) rfl<|Ab (Bp rfl)<|Aa<|BU rfl h (fun H0 h=>?_) (fun H0 h=>?_)
 refine Au<|Aj<|du 6 fun b0 t0=>Rv 0 b0 rfl t0 (fun _=>Ai rfl)<|Rx 1 244 b0 rfl t0 (AH rfl (c0.memA .t3))<|Rx 3 240 b0 rfl t0 (AH rfl (c0.memA .t2))<|bk h fun p1 c1 h=>Bn 2 15 b0 rfl .plain (bd 148) rfl (e1 rfl) (fun w9 hw9=>aF_c n (c0.hL hL hw9) a0 c1) rfl fun x2 b2 Q0 ⟨W1,X1,hu_,V0,W0⟩=>?_
 subst hu_
 obtain ⟨y0,P1⟩:=c0.agr Q0
 refine bk h fun q1 d1 h=>Bn 4 31 b0 rfl .plain (bd 148) rfl (e1 rfl) (fun w9 hw9=>aF_c n (y0.hL hL hw9) a1 d1) rfl fun y2 c2 R0 ⟨Y1,Z1,hu_,X0,Y0⟩=>?_
 subst hu_
 obtain ⟨z0,C0⟩:=y0.agr R0
 refine bk h fun d0 g1 h=>Bn 5 63 b0 rfl .plain (bd 121) rfl (e2 rfl rfl) (fun w9 hw9=>cH_c n (z0.hL hL hw9) p1 (Aq (Ao V0 C0) hw9) (Aq (Ao W0 C0) hw9) q1 (Aq X0 hw9) (Aq Y0 hw9) g1) rfl fun z2 d2 U0 ⟨u0,v0,hu_,F0,G0⟩=>?_
 subst hu_
 obtain ⟨P0,Q1⟩:=z0.agr U0
 refine BE 6 127 b0 rfl rfl .plain (AF (news:=[.bool d0.fy.fc,u0,.bool d0.ft.fc,v0]) P0 .t1 rfl rfl rfl rfl rfl rfl (o4 rfl (AO F0) rfl (AO G0))) fun A2 g0 D0=>Bf (i:=7) (rk b0) (Bs (m' :=255) (sk b0) rfl .plain rfl (AV rfl) ?_)
 refine AN (dk b0)<|Al rfl<|Am (u:=.tuple #[.agg #[.bool d0.fy.fc,u0,.bool d0.ft.fc,v0],vI 0]) E0 Tryz.func109 rfl (.cons (.many (cs:=[.bool d0.fy.fc,u0,.bool d0.ft.fc,v0]) (by kernel_rfl) rfl (g0.memA .t1)) (.cons (.tmp rfl) .nil)) rfl<|Ab (Ag rfl rfl)<|Ab (Ag rfl rfl)<|bk h fun k0 j1 h=>Ba (.tuple #[.agg ((cs_Ta k0.1)).toArray,vI k0.2]) (bd 108) rfl (e2 rfl rfl) (fun w9 hw9=>bB_c n (g0.hL0 hL hw9) d0 (g0.kd (Ao F0 D0) hw9) (g0.kd (Ao G0 D0) hw9) j1) rfl<|Ab (Ag rfl rfl)<|Ab (Ag rfl rfl)<|AQ (cs_Ta k0.1) g0 .t4 (onesB rfl) fun B2 A0 R1=>Af rfl<|Aa<|Al rfl<|Am hb0 Tryz.func86 rfl (.cons (.many (cs:=(cs_Ta k0.1)) (by kernel_rfl) rfl (A0.memA .t4)) (.cons (.tmp rfl) .nil)) rfl ?_
 cases h
 exact A0.gv
 refine Ac<|RG.nl [.bool false,vN,.bool false,vN] c0 fun C2 B1 B0 U1=>Aa<|Ac<|Ab (AH rfl (B0.memA .hd))<|AQ [.bool false,vN,.bool false,vN] B0 .t2 (onesB rfl) fun D2 p0 D1=>Af rfl<|Aa<|Al rfl<|Am (u:=.tuple #[.agg #[.bool false,vN,.bool false,vN],vI 20]) E0 Tryz.func109 rfl (.cons (.many (cs:=[.bool false,vN,.bool false,vN]) (by kernel_rfl) rfl (p0.memA .t2)) (.cons (.tmp rfl) .nil)) rfl<|Ab (Ag rfl rfl)<|Ab (Ag rfl rfl)<|bk h fun j0 Z0 h=>Ba (.tuple #[.agg ((cs_Ta j0.1)).toArray,vI j0.2]) (bd 108) rfl (e2 rfl rfl) (fun w9 hw9=>bB_c n (p0.hL0 hL hw9) (⟨(⟨false,([]:List UInt64)⟩:Te),(⟨false,([]:List UInt64)⟩:Te)⟩:Th) (Aq (Rep.nilSlice _ _) hw9) (Aq (Rep.nilSlice _ _) hw9) Z0) rfl<|Ab (Ag rfl rfl)<|Ab (Ag rfl rfl)<|AQ (cs_Ta j0.1) p0 .t5 (onesB rfl) fun g2 x0 E1=>Af rfl<|Aa<|Al rfl<|Am hb0 Tryz.func86 rfl (.cons (.many (cs:=(cs_Ta j0.1)) (by kernel_rfl) rfl (x0.memA .t5)) (.cons (.tmp rfl) .nil)) rfl ?_
 cases h
 exact x0.gv
def cx_p (n:Nat) (a0:Th):Option Te:=
  (bM_p n a0.fy a0.ft).bind fun b0=>some b0.1
theorem cx_c (n:Nat) {L w} (hL:hl L w) (a0:Th) {v0_1:Value} (h0_1:Rep.R w L [v0_1] a0.fy.fm) {v0_3:Value} (h0_3:Rep.R w L [v0_3] a0.ft.fm)  {r:Te} (h:cx_p n a0 = some r) :
 Cl 125 #[.agg #[.bool a0.fy.fc,v0_1,.bool a0.ft.fc,v0_3]] w (Gives w fun w' u=>∃ v0_1:Value,u = .agg #[.bool r.fc,v0_1]/\Rep.R w' L [v0_1] r.fm):=by
 unfold cx_p at h
 refine AD Tryz.func125 rfl rfl rfl fun _ cs0 hb0=>Ac<|RG.bx (Az w) rfl rfl fun R0 G0 u0 K0=>RG.nl [.bool false,vN] u0 fun U0 H0 b0 M0=>Aa<|Ac<|AR 0 rfl<|Ab (Bc (cs:=[.bool a0.fy.fc,v0_1]) (by kernel_rfl) rfl (mem_part (b0.memA .t1) 0 2))<|AR 2 rfl<|Ab (Bc (cs:=[.bool a0.ft.fc,v0_3]) (by kernel_rfl) rfl (mem_part (b0.memA .t1) 2 2))<|bk h fun d0 E0 h=>AX (fst:=[]) (cap:=[]) .plain (bd 157) rfl (e2 rfl rfl) (fun w9 hw9=>bM_c n (b0.hL hL hw9) a0.fy (b0.km h0_1 hw9) a0.ft (b0.km h0_3 hw9) E0) rfl fun V0 Q0 C0 ⟨c0,F0,hu_,k0,D0⟩=>?_
 subst hu_
 obtain ⟨v0,P0⟩:=b0.agr C0
 refine Ae rfl<|Ab (Ag rfl rfl)<|Ab (Ag rfl rfl)<|RG.nl [.bool false,vN] v0 fun W0 I0 x0 q0=>RG.nl [.bool false,vN] x0 fun X0 J0 y0 s0=>AQ [.bool d0.1.fc,c0] y0 .t1 (o2 rfl (AO (Ao k0 (Tt q0 s0)))) fun Y0 z0 A0=>?_
 have j0:=Tt q0 (Tt s0 A0)
 refine AQ [.bool d0.2.fc,F0] z0 .hd (o2 rfl (AO (Ao D0 j0))) fun Z0 p0 t0=>Aa<|Ac<|Ab (AH rfl (p0.memA .t1))<|AQ [.bool d0.1.fc,c0] p0 .t2 (o2 rfl (AO (Ao k0 (Tt j0 t0)))) fun b1 g0 B0=>Aa<|Al rfl<|Am hb0 Tryz.func125 rfl (.cons (.many (cs:=[.bool d0.1.fc,c0]) (by kernel_rfl) rfl (g0.memA .t2)) .nil) rfl ?_
 cases h
 exact ⟨g0.ag,fun w9 hw9=>⟨c0,rfl,g0.kd (Ao k0 (Tt j0 (Tt t0 B0))) hw9⟩⟩
def dI_p (n:Nat) (a0:Th):Option Te:=
  (cj_p n a0).bind fun b0=>(cx_p n b0).bind fun c0=>(bh_p n c0).bind fun d0=>some d0
theorem dI_c (n:Nat) {L w} (hL:hl L w) (a0:Th) {v0_1:Value} (h0_1:Rep.R w L [v0_1] a0.fy.fm) {v0_3:Value} (h0_3:Rep.R w L [v0_3] a0.ft.fm)  {r:Te} (h:dI_p n a0 = some r) :
 Cl 123 #[.agg #[.bool a0.fy.fc,v0_1,.bool a0.ft.fc,v0_3]] w (Gives w fun w' u=>∃ v0_1:Value,u = .agg #[.bool r.fc,v0_1]/\Rep.R w' L [v0_1] r.fm):=by
 unfold dI_p at h
 refine AD Tryz.func123 rfl rfl rfl fun _ cs0 hb0=>Ac<|RG.bx (Az w) rfl rfl fun Y0 G0 q0 I0=>RG.nl [.bool false,vN] q0 fun Z0 H0 b0 J0=>Aa<|Ac<|Ab (AH rfl (b0.memA .t1))<|bk h fun E0 B0 h=>AX (fst:=[]) (cap:=[]) .plain (bd 124) rfl (e1 rfl) (fun w9 hw9=>cj_c n (b0.hL hL hw9) a0 (b0.km h0_1 hw9) (b0.km h0_3 hw9) B0) rfl fun b1 V0 u0 ⟨Q0,R0,hu_,y0,z0⟩=>?_
 subst hu_
 obtain ⟨g0,K0⟩:=b0.agr u0
 refine bk h fun F0 C0 h=>AX (fst:=[]) (cap:=[]) .plain (bd 125) rfl (e1 rfl) (fun w9 hw9=>cx_c n (g0.hL hL hw9) E0 (Aq y0 hw9) (Aq z0 hw9) C0) rfl fun c1 W0 v0 ⟨U0,hu_,A0⟩=>?_
 subst hu_
 obtain ⟨j0,M0⟩:=g0.agr v0
 refine bk h fun p0 D0 h=>AX (fst:=[]) (cap:=[]) .plain (bd 126) rfl (e1 rfl) (fun w9 hw9=>bh_c n (j0.hL hL hw9) F0 (Aq A0 hw9) D0) rfl fun d1 X0 x0 ⟨d0,hu_,k0⟩=>?_
 subst hu_
 obtain ⟨s0,P0⟩:=j0.agr x0
 refine AQ [.bool p0.fc,d0] s0 .hd (o2 rfl (AO k0)) fun g1 c0 t0=>Aa<|Al rfl<|Am hb0 Tryz.func123 rfl (.cons (.many (cs:=[.bool p0.fc,d0]) (by kernel_rfl) rfl (c0.memA .hd)) .nil) rfl ?_
 cases h
 exact ⟨c0.ag,fun w9 hw9=>⟨d0,rfl,c0.kd (Ao k0 t0) hw9⟩⟩
def dE_p (n:Nat) (a0:Ta):Option ((UInt64 × UInt64 × UInt64 × UInt64 × UInt64 × UInt64 × UInt64 × UInt64) × Int):=
  (aD_p n ([a0]:List Ta)).bind fun c0=>(if c0 = true then (aF_p n a0).bind fun d0=>(dI_p n d0).bind fun g0=>(bH_p n g0).bind fun b0=>some (b0.1,b0.2) else some (((0:UInt64),(0:UInt64),(0:UInt64),(0:UInt64),(0:UInt64),(0:UInt64),(0:UInt64),(0:UInt64)),(20:Int)))
theorem dE_c (n:Nat) {L w} (hL:hl L w) (a0:Ta)  {r:(UInt64 × UInt64 × UInt64 × UInt64 × UInt64 × UInt64 × UInt64 × UInt64) × Int} (h:dE_p n a0 = some r) :
 Cl 87 #[.agg ((cs_Ta a0)).toArray] w (Gives w fun _ u=>u = .tuple #[.agg ((cs_A34 r.1)).toArray,vI r.2]):=by
 unfold dE_p at h
 refine AD Tryz.func87 rfl rfl rfl fun _ cs0 hb0=>Ac<|RG.bx (Az w) rfl rfl fun z1 M0 x0 W0=>RG.nl zP x0 fun A1 P0 g0 X0=>Af rfl<|Aa<|Ac<|Ab (AH rfl (g0.memA .t1))<|BL (fst:=[]) (cap:=[]) (vs:=[.agg ((cs_Ta a0)).toArray,.func (.func 123) #[] #[]]) .plain (bd 122) Tryz.func122 rfl rfl rfl rfl (e2 rfl rfl) rfl fun V0 u0 q1=>Ac<|RG.bx g0 rfl rfl fun B1 Q0 y0 Y0=>RG.nl zP y0 fun C1 R0 j0 Z0=>Af rfl<|Aa<|Aj<|Ac<|Ab (AH rfl (j0.memA .t1))<|Ak .plain rfl (AK (α:=Ta) (xs:=([a0]:List Ta)) (vs:=[.agg ((cs_Ta a0)).toArray]) (ds' :=(cs_Ta a0)) rfl j0 el63 rfl (e1 rfl) (by kernel_rfl) rfl) fun D1 U0 c0 b1=>bk h fun I0 E0 h=>Ba (.bool I0) (bd 107) rfl (e1 rfl) (fun w9 hw9=>aD_c n (c0.hL0 hL hw9) (Aq (St.lend (α:=Ta) (L:=L) c0 .hd (AB (cs:=(cs_Ta a0)) (xs:=(([a0]:List Ta):List Ta)) c0 L (Ar (cs:=(cs_Ta a0)) (ds:=[]) (mk_Ta a0.fN a0.fD) (AJ _ _))) hL) hw9) E0) rfl<|Ab (Bp rfl)<|Aa<|BU rfl h (fun v0 h=>?_) (fun v0 h=>?_)
 refine Au<|Ac<|Ae rfl<|Ab (AH rfl (c0.memA .t2))<|bk h fun J0 F0 h=>AX (fst:=[]) (cap:=[]) .plain (bd 148) rfl (e1 rfl) (fun w9 hw9=>aF_c n (c0.hL hL hw9) a0 F0) rfl fun E1 x1 z0 ⟨s1,u1,hu_,B0,C0⟩=>?_
 subst hu_
 obtain ⟨k0,c1⟩:=c0.agr z0
 refine bk h fun K0 G0 h=>AX (fst:=[]) (cap:=[]) .plain (bd 123) rfl (e1 rfl) (fun w9 hw9=>dI_c n (k0.hL hL hw9) J0 (Aq B0 hw9) (Aq C0 hw9) G0) rfl fun F1 y1 A0 ⟨v1,hu_,D0⟩=>?_
 subst hu_
 obtain ⟨d0,d1⟩:=k0.agr A0
 refine bk h fun b0 H0 h=>Ba (.tuple #[.agg ((cs_A34 b0.1)).toArray,vI b0.2]) (bd 156) rfl (e1 rfl) (fun w9 hw9=>bH_c n (d0.hL0 hL hw9) K0 (d0.kd D0 hw9) H0) rfl<|Ab (Ag rfl rfl)<|Ab (Ag rfl rfl)<|AQ (cs_A34 b0.1) d0 .t1 (onesB rfl) fun G1 p0 g1=>Af rfl<|Aa<|Al rfl<|Am (u:=.tuple #[.agg ((cs_A34 b0.1)).toArray,vI b0.2]) u0 Tryz.func122 rfl (.cons (.many (cs:=(cs_A34 b0.1)) (by kernel_rfl) rfl (p0.memA .t1)) (.cons (.tmp rfl) .nil)) rfl<|Ab (Ag rfl rfl)<|Ab (Ag rfl rfl)<|AQ (cs_A34 b0.1) p0 .t3 (onesB rfl) fun H1 q0 j1=>Af rfl<|Aa<|Al rfl<|Am hb0 Tryz.func87 rfl (.cons (.many (cs:=(cs_A34 b0.1)) (by kernel_rfl) rfl (q0.memA .t3)) (.cons (.tmp rfl) .nil)) rfl ?_
 cases h
 exact q0.gv
 refine Ac<|Ab (AU (vs:=[]) (u:=.agg zQ) evs_nil (fun w9=>by kernel_rfl))<|AQ zP c0 .t1 (onesB rfl) fun I1 s0 k1=>Af rfl<|Aa<|Al rfl<|Am (u:=.tuple #[.agg zQ,vI 20]) u0 Tryz.func122 rfl (.cons (.many (cs:=zP) (by kernel_rfl) rfl (s0.memA .t1)) (.cons (.tmp rfl) .nil)) rfl<|Ab (Ag rfl rfl)<|Ab (Ag rfl rfl)<|AQ zP s0 .t3 (onesB rfl) fun J1 t0 p1=>Af rfl<|Aa<|Al rfl<|Am hb0 Tryz.func87 rfl (.cons (.many (cs:=zP) (by kernel_rfl) rfl (t0.memA .t3)) (.cons (.tmp rfl) .nil)) rfl ?_
 cases h
 exact t0.gv
def dP_p (n:Nat) (a0:Ta) (a1:Ta):Option (Ta × Int):=
  (aD_p n ([a0,a1]:List Ta)).bind fun d0=>(if d0 = true then (aF_p n a0).bind fun g0=>(aF_p n a1).bind fun j0=>(cw_p n g0 j0).bind fun k0=>(bB_p n k0 (0:Int)).bind fun c0=>some (c0.1,c0.2) else (bB_p n (⟨(⟨false,([]:List UInt64)⟩:Te),(⟨false,([]:List UInt64)⟩:Te)⟩:Th) (20:Int)).bind fun b0=>some (b0.1,b0.2))
theorem dP_c (n:Nat) {L w} (hL:hl L w) (a0:Ta) (a1:Ta)  {r:Ta × Int} (h:dP_p n a0 a1 = some r) :
 Cl 88 #[.agg ((cs_Ta a0)).toArray,.agg ((cs_Ta a1)).toArray] w (Gives w fun _ u=>u = .tuple #[.agg ((cs_Ta r.1)).toArray,vI r.2]):=by
 unfold dP_p at h
 refine AD Tryz.func88 rfl rfl rfl fun _ cs0 hb0=>Ac<|RG.bx (Az w) rfl rfl fun j2 s1 I0 F1=>RG.bx I0 rfl rfl fun k2 u1 J0 G1=>RG.nl zL J0 fun p2 v1 q0 H1=>Af rfl<|Aa<|Ac<|Ab (AH rfl (q0.memA .t2))<|Ab (AH rfl (q0.memA .t1))<|BL (fst:=[]) (cap:=[]) (vs:=[.agg ((cs_Ta a0)).toArray,.agg ((cs_Ta a1)).toArray,.func (.func 127) #[] #[]]) .plain (bd 109) Tryz.func109 rfl rfl rfl rfl (e3 rfl rfl rfl) rfl fun C1 E0 V1=>Ac<|RG.bx q0 rfl rfl fun q2 x1 K0 I1=>RG.bx K0 rfl rfl fun s2 y1 M0 J1=>RG.nl [.bool false,vN,.bool false,vN] M0 fun u2 z1 s0 K1=>Af rfl<|Aa<|Aj<|Ac<|Ab (AH rfl (s0.memA .t2))<|Ab (AH rfl (s0.memA .t1))<|Ak .plain rfl (AK (α:=Ta) (xs:=([a0,a1]:List Ta)) (vs:=[.agg ((cs_Ta a0)).toArray,.agg ((cs_Ta a1)).toArray]) (ds' :=(cs_Ta a0 ++ cs_Ta a1)) rfl s0 el63 rfl (e2 rfl rfl) (by kernel_rfl) rfl) fun v2 A1 c0 M1=>?_
 refine bk h fun k1 b1 h=>Ba (.bool k1) (bd 107) rfl (e1 rfl) (fun w9 hw9=>aD_c n (c0.hL0 hL hw9) (Aq (St.lend (α:=Ta) (L:=L) c0 .hd (AB (cs:=(cs_Ta a0 ++ cs_Ta a1)) (xs:=(([a0,a1]:List Ta):List Ta)) c0 L (Ar (cs:=(cs_Ta a0)) (ds:=(cs_Ta a1)) (mk_Ta a0.fN a0.fD) (Ar (cs:=(cs_Ta a1)) (ds:=[]) (mk_Ta a1.fN a1.fD) (AJ _ _)))) hL) hw9) b1) rfl<|Ab (Bp rfl)<|Aa<|BU rfl h (fun H0 h=>?_) (fun H0 h=>?_)
 refine Au<|Aj<|du 6 fun b0 t0=>Rv 0 b0 rfl t0 (fun _=>Ai rfl)<|Rx 1 244 b0 rfl t0 (AH rfl (c0.memA .t3))<|Rx 3 240 b0 rfl t0 (AH rfl (c0.memA .t2))<|bk h fun p1 c1 h=>Bn 2 15 b0 rfl .plain (bd 148) rfl (e1 rfl) (fun w9 hw9=>aF_c n (c0.hL hL hw9) a0 c1) rfl fun x2 b2 Q0 ⟨W1,X1,hu_,V0,W0⟩=>?_
 subst hu_
 obtain ⟨y0,P1⟩:=c0.agr Q0
 refine bk h fun q1 d1 h=>Bn 4 31 b0 rfl .plain (bd 148) rfl (e1 rfl) (fun w9 hw9=>aF_c n (y0.hL hL hw9) a1 d1) rfl fun y2 c2 R0 ⟨Y1,Z1,hu_,X0,Y0⟩=>?_
 subst hu_
 obtain ⟨z0,C0⟩:=y0.agr R0
 refine bk h fun d0 g1 h=>Bn 5 63 b0 rfl .plain (bd 127) rfl (e2 rfl rfl) (fun w9 hw9=>cw_c n (z0.hL hL hw9) p1 (Aq (Ao V0 C0) hw9) (Aq (Ao W0 C0) hw9) q1 (Aq X0 hw9) (Aq Y0 hw9) g1) rfl fun z2 d2 U0 ⟨u0,v0,hu_,F0,G0⟩=>?_
 subst hu_
 obtain ⟨P0,Q1⟩:=z0.agr U0
 refine BE 6 127 b0 rfl rfl .plain (AF (news:=[.bool d0.fy.fc,u0,.bool d0.ft.fc,v0]) P0 .t1 rfl rfl rfl rfl rfl rfl (o4 rfl (AO F0) rfl (AO G0))) fun A2 g0 D0=>Bf (i:=7) (rk b0) (Bs (m' :=255) (sk b0) rfl .plain rfl (AV rfl) ?_)
 refine AN (dk b0)<|Al rfl<|Am (u:=.tuple #[.agg #[.bool d0.fy.fc,u0,.bool d0.ft.fc,v0],vI 0]) E0 Tryz.func109 rfl (.cons (.many (cs:=[.bool d0.fy.fc,u0,.bool d0.ft.fc,v0]) (by kernel_rfl) rfl (g0.memA .t1)) (.cons (.tmp rfl) .nil)) rfl<|Ab (Ag rfl rfl)<|Ab (Ag rfl rfl)<|bk h fun k0 j1 h=>Ba (.tuple #[.agg ((cs_Ta k0.1)).toArray,vI k0.2]) (bd 108) rfl (e2 rfl rfl) (fun w9 hw9=>bB_c n (g0.hL0 hL hw9) d0 (g0.kd (Ao F0 D0) hw9) (g0.kd (Ao G0 D0) hw9) j1) rfl<|Ab (Ag rfl rfl)<|Ab (Ag rfl rfl)<|AQ (cs_Ta k0.1) g0 .t4 (onesB rfl) fun B2 A0 R1=>Af rfl<|Aa<|Al rfl<|Am hb0 Tryz.func88 rfl (.cons (.many (cs:=(cs_Ta k0.1)) (by kernel_rfl) rfl (A0.memA .t4)) (.cons (.tmp rfl) .nil)) rfl ?_
 cases h
 exact A0.gv
 refine Ac<|RG.nl [.bool false,vN,.bool false,vN] c0 fun C2 B1 B0 U1=>Aa<|Ac<|Ab (AH rfl (B0.memA .hd))<|AQ [.bool false,vN,.bool false,vN] B0 .t2 (onesB rfl) fun D2 p0 D1=>Af rfl<|Aa<|Al rfl<|Am (u:=.tuple #[.agg #[.bool false,vN,.bool false,vN],vI 20]) E0 Tryz.func109 rfl (.cons (.many (cs:=[.bool false,vN,.bool false,vN]) (by kernel_rfl) rfl (p0.memA .t2)) (.cons (.tmp rfl) .nil)) rfl<|Ab (Ag rfl rfl)<|Ab (Ag rfl rfl)<|bk h fun j0 Z0 h=>Ba (.tuple #[.agg ((cs_Ta j0.1)).toArray,vI j0.2]) (bd 108) rfl (e2 rfl rfl) (fun w9 hw9=>bB_c n (p0.hL0 hL hw9) (⟨(⟨false,([]:List UInt64)⟩:Te),(⟨false,([]:List UInt64)⟩:Te)⟩:Th) (Aq (Rep.nilSlice _ _) hw9) (Aq (Rep.nilSlice _ _) hw9) Z0) rfl<|Ab (Ag rfl rfl)<|Ab (Ag rfl rfl)<|AQ (cs_Ta j0.1) p0 .t5 (onesB rfl) fun g2 x0 E1=>Af rfl<|Aa<|Al rfl<|Am hb0 Tryz.func88 rfl (.cons (.many (cs:=(cs_Ta j0.1)) (by kernel_rfl) rfl (x0.memA .t5)) (.cons (.tmp rfl) .nil)) rfl ?_
 cases h
 exact x0.gv
def dA_p (n:Nat) (a0:Ta):Option ((UInt64 × UInt64 × UInt64 × UInt64 × UInt64 × UInt64 × UInt64 × UInt64) × Int):=
  (aD_p n ([a0]:List Ta)).bind fun c0=>(if c0 = true then (aF_p n a0).bind fun d0=>(cx_p n d0).bind fun g0=>(bH_p n g0).bind fun b0=>some (b0.1,b0.2) else some (((0:UInt64),(0:UInt64),(0:UInt64),(0:UInt64),(0:UInt64),(0:UInt64),(0:UInt64),(0:UInt64)),(20:Int)))
theorem dA_c (n:Nat) {L w} (hL:hl L w) (a0:Ta)  {r:(UInt64 × UInt64 × UInt64 × UInt64 × UInt64 × UInt64 × UInt64 × UInt64) × Int} (h:dA_p n a0 = some r) :
 Cl 89 #[.agg ((cs_Ta a0)).toArray] w (Gives w fun _ u=>u = .tuple #[.agg ((cs_A34 r.1)).toArray,vI r.2]):=by
 unfold dA_p at h
 refine AD Tryz.func89 rfl rfl rfl fun _ cs0 hb0=>Ac<|RG.bx (Az w) rfl rfl fun z1 M0 x0 W0=>RG.nl zP x0 fun A1 P0 g0 X0=>Af rfl<|Aa<|Ac<|Ab (AH rfl (g0.memA .t1))<|BL (fst:=[]) (cap:=[]) (vs:=[.agg ((cs_Ta a0)).toArray,.func (.func 125) #[] #[]]) .plain (bd 122) Tryz.func122 rfl rfl rfl rfl (e2 rfl rfl) rfl fun V0 u0 q1=>Ac<|RG.bx g0 rfl rfl fun B1 Q0 y0 Y0=>RG.nl zP y0 fun C1 R0 j0 Z0=>Af rfl<|Aa<|Aj<|Ac<|Ab (AH rfl (j0.memA .t1))<|Ak .plain rfl (AK (α:=Ta) (xs:=([a0]:List Ta)) (vs:=[.agg ((cs_Ta a0)).toArray]) (ds' :=(cs_Ta a0)) rfl j0 el63 rfl (e1 rfl) (by kernel_rfl) rfl) fun D1 U0 c0 b1=>bk h fun I0 E0 h=>Ba (.bool I0) (bd 107) rfl (e1 rfl) (fun w9 hw9=>aD_c n (c0.hL0 hL hw9) (Aq (St.lend (α:=Ta) (L:=L) c0 .hd (AB (cs:=(cs_Ta a0)) (xs:=(([a0]:List Ta):List Ta)) c0 L (Ar (cs:=(cs_Ta a0)) (ds:=[]) (mk_Ta a0.fN a0.fD) (AJ _ _))) hL) hw9) E0) rfl<|Ab (Bp rfl)<|Aa<|BU rfl h (fun v0 h=>?_) (fun v0 h=>?_)
 refine Au<|Ac<|Ae rfl<|Ab (AH rfl (c0.memA .t2))<|bk h fun J0 F0 h=>AX (fst:=[]) (cap:=[]) .plain (bd 148) rfl (e1 rfl) (fun w9 hw9=>aF_c n (c0.hL hL hw9) a0 F0) rfl fun E1 x1 z0 ⟨s1,u1,hu_,B0,C0⟩=>?_
 subst hu_
 obtain ⟨k0,c1⟩:=c0.agr z0
 refine bk h fun K0 G0 h=>AX (fst:=[]) (cap:=[]) .plain (bd 125) rfl (e1 rfl) (fun w9 hw9=>cx_c n (k0.hL hL hw9) J0 (Aq B0 hw9) (Aq C0 hw9) G0) rfl fun F1 y1 A0 ⟨v1,hu_,D0⟩=>?_
 subst hu_
 obtain ⟨d0,d1⟩:=k0.agr A0
 refine bk h fun b0 H0 h=>Ba (.tuple #[.agg ((cs_A34 b0.1)).toArray,vI b0.2]) (bd 156) rfl (e1 rfl) (fun w9 hw9=>bH_c n (d0.hL0 hL hw9) K0 (d0.kd D0 hw9) H0) rfl<|Ab (Ag rfl rfl)<|Ab (Ag rfl rfl)<|AQ (cs_A34 b0.1) d0 .t1 (onesB rfl) fun G1 p0 g1=>Af rfl<|Aa<|Al rfl<|Am (u:=.tuple #[.agg ((cs_A34 b0.1)).toArray,vI b0.2]) u0 Tryz.func122 rfl (.cons (.many (cs:=(cs_A34 b0.1)) (by kernel_rfl) rfl (p0.memA .t1)) (.cons (.tmp rfl) .nil)) rfl<|Ab (Ag rfl rfl)<|Ab (Ag rfl rfl)<|AQ (cs_A34 b0.1) p0 .t3 (onesB rfl) fun H1 q0 j1=>Af rfl<|Aa<|Al rfl<|Am hb0 Tryz.func89 rfl (.cons (.many (cs:=(cs_A34 b0.1)) (by kernel_rfl) rfl (q0.memA .t3)) (.cons (.tmp rfl) .nil)) rfl ?_
 cases h
 exact q0.gv
 refine Ac<|Ab (AU (vs:=[]) (u:=.agg zQ) evs_nil (fun w9=>by kernel_rfl))<|AQ zP c0 .t1 (onesB rfl) fun I1 s0 k1=>Af rfl<|Aa<|Al rfl<|Am (u:=.tuple #[.agg zQ,vI 20]) u0 Tryz.func122 rfl (.cons (.many (cs:=zP) (by kernel_rfl) rfl (s0.memA .t1)) (.cons (.tmp rfl) .nil)) rfl<|Ab (Ag rfl rfl)<|Ab (Ag rfl rfl)<|AQ zP s0 .t3 (onesB rfl) fun J1 t0 p1=>Af rfl<|Aa<|Al rfl<|Am hb0 Tryz.func89 rfl (.cons (.many (cs:=zP) (by kernel_rfl) rfl (t0.memA .t3)) (.cons (.tmp rfl) .nil)) rfl ?_
 cases h
 exact t0.gv
end Go.Proofs.YtgejkdheojkfiaaGreatDoor
/- Functions of the program, and what they give: part 4. -/
namespace Go.Proofs.YtgejkdheojkfiaaGreatDoor
open Go Go.RowKit
set_option maxRecDepth 4000
set_option maxHeartbeats 4000000

def bv_p (n:Nat) (a0:Tl) (a1:Ta):Option (Except Tg Tm):=
  (dB_p n a1).bind fun p0=>(a9_p n p0.1 p0.2).bind fun d1=>exc d1 (fun g1=>(ae_p n (decide (g1 < 0)) (2:Int)).bind fun j1=>exc j1 (fun _y36=>(ay_p n a0).bind fun k1=>(aT_p n k1 a0.fk).bind fun p1=>exc p1 (fun q0=>(aT_p n (1:Int) (1:Int)).bind fun q1=>exc q1 (fun s1=>(dG_p n s1 a1).bind fun s0=>(ab_p n s0.1 s0.2).bind fun t1=>exc t1 (fun u1=>(dz_p n u1 q0).bind fun t0=>(ab_p n t0.1 t0.2).bind fun v1=>exc v1 (fun I0=>(dE_p n I0).bind fun b0=>(aS_p n b0.1 b0.2).bind fun J0=>exc J0 (fun K0=>(dD_p n K0).bind fun c0=>(a9_p n c0.1 c0.2).bind fun M0=>exc M0 (fun P0=>(aT_p n (1:Int) (1:Int)).bind fun Q0=>exc Q0 (fun R0=>(dP_p n R0 a1).bind fun d0=>(ab_p n d0.1 d0.2).bind fun U0=>exc U0 (fun V0=>(dz_p n V0 q0).bind fun g0=>(ab_p n g0.1 g0.2).bind fun W0=>exc W0 (fun X0=>(dA_p n X0).bind fun j0=>(aS_p n j0.1 j0.2).bind fun Y0=>exc Y0 (fun Z0=>(dD_p n Z0).bind fun k0=>(a9_p n k0.1 k0.2).bind fun b1=>exc b1 (fun c1=>some (.ok (⟨P0,c1⟩:Tm))) (fun B0=>some (.error B0))) (fun A0=>some (.error A0))) (fun z0=>some (.error z0))) (fun y0=>some (.error y0))) (fun x0=>some (.error x0))) (fun v0=>some (.error v0))) (fun u0=>some (.error u0))) (fun H0=>some (.error H0))) (fun G0=>some (.error G0))) (fun F0=>some (.error F0))) (fun E0=>some (.error E0))) (fun D0=>some (.error D0))) (fun C0=>some (.error C0))
theorem bv_c (n:Nat) {L w} (hL:hl L w) (a0:Tl) {v0_3:Value} (h0_3:Rep.R w L [v0_3] a0.fA.fo) (a1:Ta)  {r:Except Tg Tm} (h:bv_p n a0 a1 = some r) :
 Cl 39 #[.agg #[vI a0.fA.fe,vI a0.fA.fh,vI a0.fA.fj,v0_3,vI a0.fk],.agg ((cs_Ta a1)).toArray] w (PGives w (fun (y:Tm) _ u=>u = .agg #[vI y.flow,vI y.fhigh]) (fun e=>.iface 120 (.agg #[vI e.fB])) r):=by
 unfold bv_p at h
 refine MX.startP Tryz.func39 rfl rfl rfl fun _ cs0 hb0 hp0=>Ac<|RG.bx (Az w) rfl rfl fun Y3 J2 C1 y3=>RG.bx C1 rfl rfl fun k4 M2 I1 F3=>RG.nl [vI 0,vI 0] I1 fun t4 P2 c0 H3=>Aa<|Ac<|Ab (AH rfl (c0.memA .t1))<|bk h fun x1 E2 h=>Ba (.tuple #[vI x1.1,vI x1.2]) (bd 82) rfl (e1 rfl) (fun p q=>dB_c n (c0.hL0 hL q) a1 E2) rfl<|Ab (Ag rfl rfl)<|Ab (Ag rfl rfl)<|xk h (fun g3 V0 h=>?_) (fun y1 V0 h=>?_)
 refine BH (fst:=[]) (cap:=[]) .plain (bd 81) rfl (e2 rfl rfl) (fun p q=>a9_c n (c0.hL0 hL q)  V0) fun u4 j2=>?_
 obtain ⟨K1,I3⟩:=c0.agr j2
 cases h
 exact Bl hp0 Tryz.func39 ⟨K1.ag,rfl⟩
 refine Ba (vI y1) (bd 81) rfl (e2 rfl rfl) (fun p q=>Bi (a9_c n (c0.hL0 hL q)  V0)) rfl<|Ab (BS (i:=y1) (j:=0) rfl rfl)<|xk h (fun j3 W0 h=>?_) (fun F4 W0 h=>?_)
 refine BH (fst:=[]) (cap:=[]) .plain (bd 63) rfl (e2 rfl rfl) (fun p q=>ae_c n (c0.hL0 hL q)  W0) fun v4 k2=>?_
 obtain ⟨M1,J3⟩:=c0.agr k2
 cases h
 exact Bl hp0 Tryz.func39 ⟨M1.ag,rfl⟩
 refine Ba (.tuple #[]) (bd 63) rfl (e2 rfl rfl) (fun p q=>Bi (ae_c n (c0.hL0 hL q)  W0)) rfl<|Aa<|Aj<|du 6 fun p0 x0=>Rx 0 82 p0 rfl x0 (AH rfl (c0.memA .t2))<|bk h fun I2 F2 h=>BO 1 3 80 (vI I2) p0 rfl x0 (bd 54) rfl (e1 rfl) (fun p q=>ay_c n (c0.hL0 hL q) a0 (c0.k0 h0_3 q) F2) rfl<|Rv 2 p0 rfl x0 (fun _=>Bb 4 rfl)<|Rx 3 80 p0 rfl x0 (AL rfl ((c0.memA .t2) 4 _ rfl))<|xk h (fun k3 y0 h=>?_) (fun D0 y0 h=>?_)
 refine Bm [4,5] (rk p0) ⟨?_,?_,trivial⟩
 refine RO.callE (fst:=[]) (cap:=[]) rfl .plain (bd 53) rfl (e2 rfl rfl) (fun p q=>aT_c n (c0.hL0 hL q)  y0) fun x4 p2=>?_
 obtain ⟨P1,K3⟩:=c0.agr p2
 cases h
 exact Bl hp0 Tryz.func39 ⟨P1.ag,rfl⟩
 refine BC (m' :=47) (sk p0) rfl .plain rfl (Ay zL c0) fun y4 Q2 g1 M3=>Bf (i:=4) (rk p0) (RO.callE (fst:=[]) (cap:=[]) rfl .plain (bd 53) rfl (e2 rfl rfl) (fun p q=>aT_c n (g1.hL0 hL q)  y0) (fun z4 q2=>?_))
 obtain ⟨Q1,P3⟩:=g1.agr q2
 cases h
 exact Bl hp0 Tryz.func39 ⟨Q1.ag,rfl⟩
 refine BO 4 31 64 (.agg ((cs_Ta D0)).toArray) p0 rfl x0 (bd 53) rfl (e2 rfl rfl) (fun p q=>Bi (aT_c n (c0.hL0 hL q)  y0)) rfl<|BN 5 63 p0 rfl .plain rfl (Ay zL c0) fun A4 G0 R1 Q3=>BE 6 127 p0 rfl rfl .plain (AF (news:=(cs_Ta D0)) R1 .hd rfl rfl rfl rfl rfl rfl (onesB rfl)) fun B4 q0 R3=>AN (dk p0)<|Ac<|Ab (BW (vs:=[]) (us:=[vP G0]) evs_nil (e1 rfl))<|Af rfl<|Aa<|Aj<|du 7 fun g0 t0=>xk h (fun p3 X0 h=>?_) (fun z1 X0 h=>?_)
 refine Rv 0 g0 rfl t0 (fun _=>Ai rfl)<|Rx 2 504 g0 rfl t0 (AH rfl (q0.memA .t2))<|Bf (i:=1) (rk g0) (RO.callE (fst:=[]) (cap:=[]) rfl .plain (bd 53) rfl (e2 rfl rfl) (fun p q=>aT_c n (q0.hL0 hL q)  X0) (fun C4 s2=>?_))
 obtain ⟨U1,U3⟩:=q0.agr s2
 cases h
 exact Bl hp0 Tryz.func39 ⟨U1.ag,rfl⟩
 refine Rv 0 g0 rfl t0 (fun _=>Ai rfl)<|BO 1 3 504 (.agg ((cs_Ta z1)).toArray) g0 rfl t0 (bd 53) rfl (e2 rfl rfl) (fun p q=>Bi (aT_c n (q0.hL0 hL q)  X0)) rfl<|Rx 2 504 g0 rfl t0 (AH rfl (q0.memA .t2))<|bk h fun E0 G2 h=>BO 3 15 496 (.tuple #[.agg ((cs_Ta E0.1)).toArray,vI E0.2]) g0 rfl t0 (bd 66) rfl (e2 rfl rfl) (fun p q=>dG_c n (q0.hL0 hL q) z1 a1 G2) rfl<|Rv 4 g0 rfl t0 (fun _=>Ag rfl rfl)<|Rv 5 g0 rfl t0 (fun _=>Ag rfl rfl)<|xk h (fun q3 Y0 h=>?_) (fun c1 Y0 h=>?_)
 refine Bf (i:=6) (rk g0) (RO.callE (fst:=[]) (cap:=[]) rfl .plain (bd 64) rfl (e2 rfl rfl) (fun p q=>ab_c n (q0.hL0 hL q) E0.1 Y0) (fun D4 u2=>?_))
 obtain ⟨V1,V3⟩:=q0.agr u2
 cases h
 exact Bl hp0 Tryz.func39 ⟨V1.ag,rfl⟩
 refine BO 6 127 384 (.agg ((cs_Ta c1)).toArray) g0 rfl t0 (bd 64) rfl (e2 rfl rfl) (fun p q=>Bi (ab_c n (q0.hL0 hL q) E0.1 Y0)) rfl<|Bf (i:=7) (rk g0) (RO.enterPT (m' :=255) (fst:=[]) (cap:=[vP G0]) (vs:=[.agg ((cs_Ta c1)).toArray,.func (.func 87) #[] #[]]) (sk g0) rfl rfl .plain (bd 83) Tryz.func83 rfl rfl rfl rfl (e2 rfl rfl) rfl (fun _ V2 x2 I0=>?_))
 refine Ac<|RG.bx q0 rfl rfl fun E4 R2 b0 W3=>Af rfl<|Aa<|Ac<|Ae rfl<|Ab (AH rfl (b0.memA .hd))<|Ab (AH rfl (b0.memA .t1))<|bk h fun F0 H2 h=>Ba (.tuple #[.agg ((cs_Ta F0.1)).toArray,vI F0.2]) (bd 86) rfl (e2 rfl rfl) (fun p q=>dz_c n (b0.hL0 hL q) c1 D0 H2) rfl<|Ab (Ag rfl rfl)<|Ab (Ag rfl rfl)<|xk h (fun s3 Z0 h=>?_) (fun j1 Z0 h=>?_)
 refine BH (fst:=[]) (cap:=[]) .plain (bd 64) rfl (e2 rfl rfl) (fun p q=>ab_c n (b0.hL0 hL q) F0.1 Z0) fun X3 W1=>?_
 obtain ⟨A1,u3⟩:=b0.agr W1
 refine Bl I0 Tryz.func83 ?_
 cases h
 exact Bl hp0 Tryz.func39 ⟨A1.ag,rfl⟩
 refine Ba (.agg ((cs_Ta j1)).toArray) (bd 64) rfl (e2 rfl rfl) (fun p q=>Bi (ab_c n (b0.hL0 hL q) F0.1 Z0)) rfl<|bk h fun z0 y2 h=>Ba (.tuple #[.agg ((cs_A34 z0.1)).toArray,vI z0.2]) (bd 87) rfl (e1 rfl) (fun p q=>dE_c n (b0.hL0 hL q) j1 y2) rfl<|Ab (Ag rfl rfl)<|Ab (Ag rfl rfl)<|xk h (fun W2 J0 h=>?_) (fun k1 J0 h=>?_)
 refine BH (fst:=[]) (cap:=[]) .plain (bd 85) rfl (e2 rfl rfl) (fun p q=>aS_c n (b0.hL0 hL q) z0.1 J0) fun Z3 X1=>?_
 obtain ⟨B1,v3⟩:=b0.agr X1
 refine Bl I0 Tryz.func83 ?_
 cases h
 exact Bl hp0 Tryz.func39 ⟨B1.ag,rfl⟩
 refine Ba (.agg ((cs_A34 k1)).toArray) (bd 85) rfl (e2 rfl rfl) (fun p q=>Bi (aS_c n (b0.hL0 hL q) z0.1 J0)) rfl<|bk h fun p1 z2 h=>Ba (.tuple #[vI p1.1,vI p1.2]) (bd 84) rfl (e1 rfl) (fun p q=>dD_c n (b0.hL0 hL q) k1 z2) rfl<|Ab (Ag rfl rfl)<|Ab (Ag rfl rfl)<|xk h (fun X2 K0 h=>?_) (fun u0 K0 h=>?_)
 refine BH (fst:=[]) (cap:=[]) .plain (bd 81) rfl (e2 rfl rfl) (fun p q=>a9_c n (b0.hL0 hL q)  K0) fun b4 Y1=>?_
 obtain ⟨D1,x3⟩:=b0.agr Y1
 refine Bl I0 Tryz.func83 ?_
 cases h
 exact Bl hp0 Tryz.func39 ⟨D1.ag,rfl⟩
 refine Ba (vI u0) (bd 81) rfl (e2 rfl rfl) (fun p q=>Bi (a9_c n (b0.hL0 hL q)  K0)) rfl<|Af rfl<|Aa<|Al rfl<|Am (u:=vI u0) x2 Tryz.func83 rfl (.cons (.tmp rfl) .nil) rfl<|Bf (i:=8) (rk g0) (Bs (m' :=511) (sk g0) rfl .plain rfl (AV rfl) ?_)
 refine AN (dk g0)<|Aj<|du 7 fun d0 s0=>xk h (fun Y2 M0 h=>?_) (fun q1 M0 h=>?_)
 refine Rv 0 d0 rfl s0 (fun _=>Ai rfl)<|Rx 2 504 d0 rfl s0 (AH rfl (b0.memA .t3))<|Bf (i:=1) (rk d0) (RO.callE (fst:=[]) (cap:=[]) rfl .plain (bd 53) rfl (e2 rfl rfl) (fun p q=>aT_c n (b0.hL0 hL q)  M0) (fun c4 Z1=>?_))
 obtain ⟨E1,z3⟩:=b0.agr Z1
 cases h
 exact Bl hp0 Tryz.func39 ⟨E1.ag,rfl⟩
 refine Rv 0 d0 rfl s0 (fun _=>Ai rfl)<|BO 1 3 504 (.agg ((cs_Ta q1)).toArray) d0 rfl s0 (bd 53) rfl (e2 rfl rfl) (fun p q=>Bi (aT_c n (b0.hL0 hL q)  M0)) rfl<|Rx 2 504 d0 rfl s0 (AH rfl (b0.memA .t3))<|bk h fun A0 A2 h=>BO 3 15 496 (.tuple #[.agg ((cs_Ta A0.1)).toArray,vI A0.2]) d0 rfl s0 (bd 88) rfl (e2 rfl rfl) (fun p q=>dP_c n (b0.hL0 hL q) q1 a1 A2) rfl<|Rv 4 d0 rfl s0 (fun _=>Ag rfl rfl)<|Rv 5 d0 rfl s0 (fun _=>Ag rfl rfl)<|xk h (fun Z2 P0 h=>?_) (fun b1 P0 h=>?_)
 refine Bf (i:=6) (rk d0) (RO.callE (fst:=[]) (cap:=[]) rfl .plain (bd 64) rfl (e2 rfl rfl) (fun p q=>ab_c n (b0.hL0 hL q) A0.1 P0) (fun d4 b2=>?_))
 obtain ⟨F1,A3⟩:=b0.agr b2
 cases h
 exact Bl hp0 Tryz.func39 ⟨F1.ag,rfl⟩
 refine BO 6 127 384 (.agg ((cs_Ta b1)).toArray) d0 rfl s0 (bd 64) rfl (e2 rfl rfl) (fun p q=>Bi (ab_c n (b0.hL0 hL q) A0.1 P0)) rfl<|Bf (i:=7) (rk d0) (RO.enterPT (m' :=255) (fst:=[]) (cap:=[vP G0]) (vs:=[.agg ((cs_Ta b1)).toArray,.func (.func 89) #[] #[]]) (sk d0) rfl rfl .plain (bd 83) Tryz.func83 rfl rfl rfl rfl (e2 rfl rfl) rfl (fun _ U2 v2 H0=>?_))
 refine Ac<|RG.bx b0 rfl rfl fun g4 K2 j0 B3=>Af rfl<|Aa<|Ac<|Ae rfl<|Ab (AH rfl (j0.memA .hd))<|Ab (AH rfl (j0.memA .t2))<|bk h fun B0 B2 h=>Ba (.tuple #[.agg ((cs_Ta B0.1)).toArray,vI B0.2]) (bd 86) rfl (e2 rfl rfl) (fun p q=>dz_c n (j0.hL0 hL q) b1 D0 B2) rfl<|Ab (Ag rfl rfl)<|Ab (Ag rfl rfl)<|xk h (fun b3 Q0 h=>?_) (fun s1 Q0 h=>?_)
 refine BH (fst:=[]) (cap:=[]) .plain (bd 64) rfl (e2 rfl rfl) (fun p q=>ab_c n (j0.hL0 hL q) B0.1 Q0) fun j4 c2=>?_
 obtain ⟨G1,C3⟩:=j0.agr c2
 refine Bl H0 Tryz.func83 ?_
 cases h
 exact Bl hp0 Tryz.func39 ⟨G1.ag,rfl⟩
 refine Ba (.agg ((cs_Ta s1)).toArray) (bd 64) rfl (e2 rfl rfl) (fun p q=>Bi (ab_c n (j0.hL0 hL q) B0.1 Q0)) rfl<|bk h fun C0 C2 h=>Ba (.tuple #[.agg ((cs_A34 C0.1)).toArray,vI C0.2]) (bd 89) rfl (e1 rfl) (fun p q=>dA_c n (j0.hL0 hL q) s1 C2) rfl<|Ab (Ag rfl rfl)<|Ab (Ag rfl rfl)<|xk h (fun c3 R0 h=>?_) (fun u1 R0 h=>?_)
 refine BH (fst:=[]) (cap:=[]) .plain (bd 85) rfl (e2 rfl rfl) (fun p q=>aS_c n (j0.hL0 hL q) C0.1 R0) fun p4 d2=>?_
 obtain ⟨H1,D3⟩:=j0.agr d2
 refine Bl H0 Tryz.func83 ?_
 cases h
 exact Bl hp0 Tryz.func39 ⟨H1.ag,rfl⟩
 refine Ba (.agg ((cs_A34 u1)).toArray) (bd 85) rfl (e2 rfl rfl) (fun p q=>Bi (aS_c n (j0.hL0 hL q) C0.1 R0)) rfl<|bk h fun v1 D2 h=>Ba (.tuple #[vI v1.1,vI v1.2]) (bd 84) rfl (e1 rfl) (fun p q=>dD_c n (j0.hL0 hL q) u1 D2) rfl<|Ab (Ag rfl rfl)<|Ab (Ag rfl rfl)<|xk h (fun d3 U0 h=>?_) (fun v0 U0 h=>?_)
 refine BH (fst:=[]) (cap:=[]) .plain (bd 81) rfl (e2 rfl rfl) (fun p q=>a9_c n (j0.hL0 hL q)  U0) fun q4 g2=>?_
 obtain ⟨J1,E3⟩:=j0.agr g2
 refine Bl H0 Tryz.func83 ?_
 cases h
 exact Bl hp0 Tryz.func39 ⟨J1.ag,rfl⟩
 refine Ba (vI v0) (bd 81) rfl (e2 rfl rfl) (fun p q=>Bi (a9_c n (j0.hL0 hL q)  U0)) rfl<|Af rfl<|Aa<|Al rfl<|Am (u:=vI v0) v2 Tryz.func83 rfl (.cons (.tmp rfl) .nil) rfl<|Bf (i:=8) (rk d0) (Bs (m' :=511) (sk d0) rfl .plain rfl (AV rfl) ?_)
 refine AN (dk d0)<|Ac<|Ae rfl<|Ae rfl<|Ab (AU (vs:=[vI u0,vI v0]) (u:=.agg #[vI u0,vI v0]) (e2 rfl rfl) (fun p=>by kernel_rfl))<|AQ [vI u0,vI v0] j0 .t3 (onesB rfl) fun s4 d1 G3=>Aa<|Al rfl<|Am hb0 Tryz.func39 rfl (.cons (.many (cs:=[vI u0,vI v0]) (by kernel_rfl) rfl (d1.memA .t3)) .nil) rfl ?_
 cases h
 exact ⟨d1.ag,fun p q=>okOf_in rfl⟩
def cF_p (n:Nat) (a0:Td) (a1:Int) (a2:Ta):Option (Except Tg Tm):=
  (aB_p n a0 a1).bind fun d0=>exc d0 (fun g0=>(bv_p n g0 a2).bind fun j0=>exc j0 (fun k0=>some (.ok k0)) (fun c0=>some (.error c0))) (fun b0=>some (.error b0))
theorem cF_c (n:Nat) {L w} (hL:hl L w) (a0:Td) {v0_3:Value} (h0_3:Rep.R w L [v0_3] a0.fo) {p0:Nat} (m0:∀ j9 v9,([vI a0.fe,vI a0.fh,vI a0.fj,v0_3]:List Value)[j9]? = some v9 -> w.cell? ((⟨p0,0,none⟩:Addr).add j9) = some v9) {a1:Int} {p1:Nat} (m1:∀ j9 v9,([vI a1]:List Value)[j9]? = some v9 -> w.cell? ((⟨p1,0,none⟩:Addr).add j9) = some v9) (a2:Ta) {p2:Nat} (m2:∀ j9 v9,((cs_Ta a2):List Value)[j9]? = some v9 -> w.cell? ((⟨p2,0,none⟩:Addr).add j9) = some v9)  {r:Except Tg Tm} (h:cF_p n a0 a1 a2 = some r) :
 Cl 37 #[.pointer (some ⟨p0,0,none⟩),.pointer (some ⟨p1,0,none⟩),.pointer (some ⟨p2,0,none⟩)] w (PGives w (fun (y:Tm) _ u=>u = .agg #[vI y.flow,vI y.fhigh]) (fun e=>.iface 120 (.agg #[vI e.fB])) r):=by
 unfold cF_p at h
 refine MX.startP Tryz.func37 rfl rfl rfl fun _ cs0 hb0 hp0=>Ac<|RG.nl [vI 0,vI 0] (Az w) fun M0 B0 b0 E0=>Aa<|Aj<|du 5 fun c0 j0=>Rx 0 52 c0 rfl j0 (AH rfl (fun j9 v9 h9=>b0.ag.cell0 (m0 j9 v9 h9)))<|Rx 1 52 c0 rfl j0 (AL rfl ((fun j9 v9 h9=>b0.ag.cell0 (m1 j9 v9 h9)) 0 _ rfl))<|xk h (fun C0 k0 h=>?_) (fun u0 k0 h=>?_)
 refine Rx 3 48 c0 rfl j0 (AH rfl (fun j9 v9 h9=>b0.ag.cell0 (m2 j9 v9 h9)))<|Bf (i:=2) (rk c0) (RO.callE (fst:=[]) (cap:=[]) rfl .plain (bd 38) rfl (e2 rfl rfl) (fun p q=>aB_c n (b0.hL hL q) a0 (b0.km h0_3 q) k0) (fun P0 y0=>?_))
 obtain ⟨v0,F0⟩:=b0.agr y0
 cases h
 exact Bl hp0 Tryz.func37 ⟨v0.ag,rfl⟩
 refine Rx 3 48 c0 rfl j0 (AH rfl (fun j9 v9 h9=>b0.ag.cell0 (m2 j9 v9 h9)))<|Bn 2 15 c0 rfl .plain (bd 38) rfl (e2 rfl rfl) (fun p q=>Bi (aB_c n (b0.hL hL q) a0 (b0.km h0_3 q) k0)) rfl fun Q0 K0 z0 ⟨J0,hu_,t0⟩=>?_
 subst hu_
 obtain ⟨d0,G0⟩:=b0.agr z0
 refine xk h (fun D0 q0 h=>?_) (fun g0 q0 h=>?_)
 refine Bf (i:=4) (rk c0) (RO.callE (fst:=[]) (cap:=[]) rfl .plain (bd 39) rfl (e2 rfl rfl) (fun p q=>bv_c n (d0.hL0 hL q) u0 (d0.kd t0 q) a2 q0) (fun R0 A0=>?_))
 obtain ⟨x0,H0⟩:=d0.agr A0
 cases h
 exact Bl hp0 Tryz.func37 ⟨x0.ag,rfl⟩
 refine BO 4 31 32 (.agg #[vI g0.flow,vI g0.fhigh]) c0 rfl j0 (bd 39) rfl (e2 rfl rfl) (fun p q=>Bi (bv_c n (d0.hL0 hL q) u0 (d0.kd t0 q) a2 q0)) rfl<|BE 5 63 c0 rfl rfl .plain (AF (news:=[vI g0.flow,vI g0.fhigh]) d0 .hd rfl rfl rfl rfl rfl rfl (onesB rfl)) fun U0 s0 I0=>AN (dk c0)<|Al rfl<|Am hb0 Tryz.func37 rfl (.cons (.many (cs:=[vI g0.flow,vI g0.fhigh]) (by kernel_rfl) rfl (s0.memA .hd)) .nil) rfl ?_
 cases h
 exact ⟨s0.ag,fun p q=>okOf_in rfl⟩
def bN_p (n:Nat) (a0:Td) (a1:Int) (a2:Ta):Option (Int × Int × Int):=
  (cF_p n a0 a1 a2).bind fun d0=>exc d0 (fun b0=>some (b0.flow,b0.fhigh,(0:Int))) (fun c0=>some ((0:Int),(0:Int),c0.fB))
theorem bN_c (n:Nat) {L w} (hL:hl L w) (a0:Td) {v0_3:Value} (h0_3:Rep.R w L [v0_3] a0.fo) {a1:Int} (a2:Ta)  {r:Int × Int × Int} (h:bN_p n a0 a1 a2 = some r) :
 Cl 9 #[.agg #[vI a0.fe,vI a0.fh,vI a0.fj,v0_3],vI a1,.agg ((cs_Ta a2)).toArray] w (Gives w fun _ u=>u = .tuple #[vI r.1,vI r.2.1,vI r.2.2]):=by
 unfold bN_p at h
 refine AD Tryz.func9 rfl rfl rfl fun _ cs0 hb0=>Ac<|RG.bx (Az w) rfl rfl fun b2 t0 M0 J1=>RG.bx M0 rfl rfl fun u2 u0 X0 P1=>RG.bx X0 rfl rfl fun v2 v0 Y0 Q1=>Af rfl<|Af rfl<|Af rfl<|Aa<|Ac<|Ab (BW (vs:=[]) (us:=[vP t0,vP u0,vP v0]) evs_nil (e3 rfl rfl rfl))<|BL (fst:=[]) (cap:=[]) (vs:=[.func (.func 37) #[] #[vP t0,vP u0,vP v0]]) .plain (bd 36) Tryz.func36 rfl rfl rfl rfl (e1 rfl) rfl fun C1 J0 Z1=>Ac<|RG.nl [vI 0,vI 0] Y0 fun x2 x0 Z0 R1=>RG.nl [vI 0] Z0 fun y2 s0 b0 U1=>Aa<|Ac<|Ab (BW (vs:=[]) (us:=[vP x0,vP s0]) evs_nil (e2 rfl rfl))<|RG.defer (fst:=[]) (cap:=[vP x0,vP s0]) (vs:=[]) rfl .plain rfl evs_nil<|Aa<|Ac<|Ae rfl<|xk h (fun z0 G0 h=>?_) (fun c0 G0 h=>?_)
 refine BH (fst:=[]) (cap:=[vP t0,vP u0,vP v0]) .plain (bd 37) rfl evs_nil (fun p q=>cF_c n (b0.hL0 hL q) a0 (b0.k0 h0_3 q) (mem_keep q (b0.memA .t4)) (mem_keep q (b0.memA .t3)) a2 (mem_keep q (b0.memA .t2)) G0) fun z2 k1=>?_
 obtain ⟨b1,V1⟩:=b0.agr k1
 refine PN.callD (vs:=[]) (cap:=[vP x0,vP s0]) (bd 78) Tryz.func78 rfl rfl rfl fun B1 p1 s1=>Ac<|RG.recover1 .plain p1 rfl<|Af rfl<|Aa<|Ac<|Ae rfl<|Ab (FV.neqI Tryz.underlying20 rfl rfl)<|Aa<|Bk rfl<|Ac<|Ae rfl<|Ab (FV.assertT (by kernel_rfl) rfl)<|Ae rfl<|Ab (Ag rfl rfl)<|Ab (Ag rfl rfl)<|RG.nl [vI 0] b1 fun A2 y1 c1 W1=>AQ [vI z0.fB] c1 .hd (o1 rfl) fun B2 d1 X1=>Af rfl<|Aa<|Aj<|Ac<|Ae rfl<|Ab (Bp rfl)<|Aa<|BF rfl<|Au<|Ac<|RG.nl [vI 0,vI 0] d1 fun C2 z1 y0 Y1=>Aa<|du 3 fun j0 H0=>Rx 0 24 j0 rfl H0 (AH rfl (y0.memA .hd))<|Rv 1 j0 rfl H0 (fun _=>Bb 0 rfl)<|RD.mo (α:=Unit) (fun ()=>[(1,vP s0),(19,vI z0.fB)]) (fun ()=>[.cells s0 [vI 0] 51,.cells x0 [vI 0,vI 0] 83,.cells v0 (cs_Ta a2) 37,.cells u0 [vI a1] 3,.cells t0 [vI a0.fe,vI a0.fh,vI a0.fj,v0_3] 44]) y0 1 15 ?_ ?_
 rintro ⟨⟩ D2 P0 D1
 try dsimp only
 refine BE 4 31 j0 rfl rfl .plain (AF (news:=[vI z0.fB]) P0 .hd rfl rfl rfl rfl rfl rfl (o1 rfl)) fun c2 B0 E1=>AN (dk j0)<|MX.fin rfl<|RT.leaveD1 s1 Tryz.func78 rfl .nil<|Am (u:=.tuple #[.agg #[vI 0,vI 0],vI z0.fB]) J0 Tryz.func36 rfl (.cons (.many (cs:=[vI 0,vI 0]) (by kernel_rfl) rfl (B0.memA .t1)) (.cons (.one (by kernel_rfl) rfl ((B0.memA .hd) 0 _ rfl)) .nil)) rfl<|Ae rfl<|Ab (Ag rfl rfl)<|Ab (Ag rfl rfl)<|RG.nl [vI 0,vI 0] B0 fun g2 v1 Q0 F1=>AQ [vI 0,vI 0] Q0 .hd (onesB rfl) fun j2 C0 G1=>Af rfl<|Aa<|Aj<|du 8 fun d0 p0=>Rv 0 d0 rfl p0 (fun _=>Bb 0 rfl)<|Rx 1 224 d0 rfl p0 (AL rfl ((C0.memA .hd) 0 _ rfl))<|Rv 2 d0 rfl p0 (fun _=>Bb 1 rfl)<|Rx 3 192 d0 rfl p0 (AL rfl ((C0.memA .hd) 1 _ rfl))<|Rv 4 d0 rfl p0 (fun _=>Ai rfl)<|Rv 5 d0 rfl p0 (fun _=>AV rfl)<|Rv 6 d0 rfl p0 (fun _=>AV rfl)<|Rv 7 d0 rfl p0 (fun _=>AV rfl)<|AN (dk d0)<|Al rfl<|Am hb0 Tryz.func9 rfl (.cons (.tmp rfl) (.cons (.tmp rfl) (.cons (.tmp rfl) .nil))) rfl ?_
 cases h
 exact C0.gv
 intro I0
 refine Bm [2,3] (rk j0) ⟨?_,?_,trivial⟩
 refine Bs (m' :=7) (sk j0) rfl .plain rfl (AL rfl ((y0.memA .t1) 0 _ rfl))<|BE 3 15 j0 rfl rfl .plain (AF (news:=[vI 0,vI 0]) y0 .t3 rfl rfl rfl rfl rfl rfl (onesB rfl)) fun u1 A0 F0=>?_
 obtain ⟨R0,g1⟩:=AG A0 .d2
 exact I0 () R0 (Tt F0 g1)
 refine RO.now (m' :=11) (sk j0) rfl rfl .plain (AF (news:=[vI 0,vI 0]) y0 .t3 rfl rfl rfl rfl rfl rfl (onesB rfl)) fun u1 A0 F0=>Rx 2 16 j0 rfl H0 (AL rfl ((A0.memA .t1) 0 _ rfl)) ?_
 obtain ⟨U0,j1⟩:=AG A0 .d2
 exact I0 () U0 (Tt F0 j1)
 refine RG.callq' (v:=.agg #[vI c0.flow,vI c0.fhigh]) (fst:=[]) (cap:=[vP t0,vP u0,vP v0]) .plain (bd 37) rfl evs_nil (fun p q=>Bi (cF_c n (b0.hL0 hL q) a0 (b0.k0 h0_3 q) (mem_keep q (b0.memA .t4)) (mem_keep q (b0.memA .t3)) a2 (mem_keep q (b0.memA .t2)) G0)) rfl<|AQ [vI c0.flow,vI c0.fhigh] b0 .t1 (onesB rfl) fun k2 V0 H1=>AQ [vI 0] V0 .hd (o1 rfl) fun p2 D0 I1=>Aa<|Al rfl<|RT.callD (vs:=[]) (cap:=[vP x0,vP s0]) (bd 78) Tryz.func78 rfl rfl rfl fun A1 K0 q1=>Ac<|RG.recover0 .plain K0 rfl<|Af rfl<|Aa<|Ac<|Ae rfl<|Ab (FV.neqI0 Tryz.underlying20 rfl rfl)<|Aa<|BF rfl<|Au<|MX.fin rfl<|RT.leaveD0 K0 q1 Tryz.func78 rfl .nil<|Am (u:=.tuple #[.agg #[vI c0.flow,vI c0.fhigh],vI 0]) J0 Tryz.func36 rfl (.cons (.many (cs:=[vI c0.flow,vI c0.fhigh]) (by kernel_rfl) rfl (D0.memA .t1)) (.cons (.one (by kernel_rfl) rfl ((D0.memA .hd) 0 _ rfl)) .nil)) rfl<|Ae rfl<|Ab (Ag rfl rfl)<|Ab (Ag rfl rfl)<|RG.nl [vI 0,vI 0] D0 fun q2 x1 W0 K1=>AQ [vI c0.flow,vI c0.fhigh] W0 .hd (onesB rfl) fun s2 E0 M1=>Af rfl<|Aa<|Aj<|du 8 fun g0 q0=>Rv 0 g0 rfl q0 (fun _=>Bb 0 rfl)<|Rx 1 224 g0 rfl q0 (AL rfl ((E0.memA .hd) 0 _ rfl))<|Rv 2 g0 rfl q0 (fun _=>Bb 1 rfl)<|Rx 3 192 g0 rfl q0 (AL rfl ((E0.memA .hd) 1 _ rfl))<|Rv 4 g0 rfl q0 (fun _=>Ai rfl)<|Rv 5 g0 rfl q0 (fun _=>AV rfl)<|Rv 6 g0 rfl q0 (fun _=>AV rfl)<|Rv 7 g0 rfl q0 (fun _=>AV rfl)<|AN (dk g0)<|Al rfl<|Am hb0 Tryz.func9 rfl (.cons (.tmp rfl) (.cons (.tmp rfl) (.cons (.tmp rfl) .nil))) rfl ?_
 cases h
 exact E0.gv
def ak_l1 (n:Nat) (a1:List Int) (a0:Tl) (g0:Nat × (List (Int × Bool)) -> Option ((Except Tg Unit) ⊕ (List (Int × Bool)))):Nat × (List (Int × Bool)) -> Option ((Except Tg Unit) ⊕ (List (Int × Bool)))
  | (b0,d0)=>(if b0 < a1.length then (a1[b0]?).bind fun c0=>(if c0 < 0 then (ae_p n true (220:Int)).bind fun p0=>exc p0 (fun _y289=>g0 (b0 + 1,mset d0 c0 true)) (fun j0=>some (.inl (.error j0))) else (ae_p n (decide (a0.fk <= c0)) (220:Int)).bind fun q0=>exc q0 (fun _y305=>g0 (b0 + 1,mset d0 c0 true)) (fun k0=>some (.inl (.error k0)))) else some (.inr d0))
def ak_l2 (n:Nat) (a1:List Int) (a0:Tl) (g0:Nat × (List (Int × Bool)) -> Option ((Except Tg Unit) ⊕ (List (Int × Bool)))):Nat × (List (Int × Bool)) -> Option ((Except Tg Unit) ⊕ (List (Int × Bool)))
  | (b0,d0)=>(if b0 < a1.length then (a1[b0]?).bind fun c0=>(if c0 < 0 then (ae_p n true (220:Int)).bind fun p0=>exc p0 (fun _y467=>g0 (b0 + 1,mset d0 c0 true)) (fun j0=>some (.inl (.error j0))) else (ae_p n (decide (a0.fk <= c0)) (220:Int)).bind fun q0=>exc q0 (fun _y483=>g0 (b0 + 1,mset d0 c0 true)) (fun k0=>some (.inl (.error k0)))) else some (.inr d0))
def ak_l3 (n:Nat) (a0:Tl) (a1:List Int) (g0:Nat × Int -> Option ((Except Tg Unit) ⊕ Int)):Nat × Int -> Option ((Except Tg Unit) ⊕ Int)
  | (b0,c0)=>(if b0 < a0.fA.fo.length then (a0.fA.fo[b0]?).bind fun q0=>(if q0.fu = true then ((ae_p n (!(decide (((a1.length:Nat):Int) = c0))) (220:Int)).bind fun s0=>exc s0 (fun _y184=>thn (loopF (ak_l1 n a1 a0) n (0,([]:List (Int × Bool)))) (fun d0=>(ae_p n (!(decide (((d0.length:Nat):Int) = a0.fk))) (220:Int)).bind fun t0=>exc t0 (fun _y321=>some (.ok ())) (fun k0=>some (.error k0)))) (fun j0=>some (.error j0))).map .inl else (chk (c0 + 1)).bind fun p0=>g0 (b0 + 1,p0)) else some (.inr c0))
def ak_p (n:Nat) (a0:Tl) (a1:List Int):Option (Except Tg Unit):=
  thn (loopF (ak_l3 n a0 a1) n (0,0)) (fun k0=>(ae_p n (!(decide (((a1.length:Nat):Int) = k0))) (220:Int)).bind fun g0=>exc g0 (fun _y362=>thn (loopF (ak_l2 n a1 a0) n (0,([]:List (Int × Bool)))) (fun b0=>(ae_p n (!(decide (((b0.length:Nat):Int) = a0.fk))) (220:Int)).bind fun j0=>exc j0 (fun _y499=>some (.ok ())) (fun d0=>some (.error d0)))) (fun c0=>some (.error c0)))
theorem ak_c (n:Nat) {L w} (hL:hl L w) (a0:Tl) {v0_3:Value} (h0_3:Rep.R w L [v0_3] a0.fA.fo) {a1:List Int} {v1_0:Value} (h1_0:Rep.R w L [v1_0] a1)  {r:Except Tg Unit} (h:ak_p n a0 a1 = some r) :
 Cl 58 #[.agg #[vI a0.fA.fe,vI a0.fA.fh,vI a0.fA.fj,v0_3,vI a0.fk],v1_0] w (PGives w (fun (_y:Unit) _ u=>u = .tuple #[]) (fun e=>.iface 120 (.agg #[vI e.fB])) r):=by
 unfold ak_p at h
 refine MX.startP Tryz.func58 rfl rfl rfl fun _ cs0 hb0 hp0=>Ac<|RG.bx (Az w) rfl rfl fun y6 y0 P1 Y4=>Aa<|Ac<|RG.nl [vI 0] P1 fun z6 C1 R1 c5=>AQ [vI 0] R1 .hd (o1 rfl) fun x4 B0 p5=>Aa<|Aj<|Ac<|Ab (AH rfl (B0.memA .t1))<|AX (fst:=[]) (cap:=[]) .plain (bd 101) rfl (e1 rfl) (fun p q=>Calls.gives (dL_c n (B0.hL hL q) a0 (B0.km h0_3 q)) fun (w8:World) (u8:Value) ⟨b0_,hu_,s_⟩=>(⟨b0_,hu_,s_.from q⟩:∃ z0:Nat,u8 = Value.func (.func 141) #[] #[vP z0]/\St x4 w8 [.cells z0 [vI a0.fA.fe,vI a0.fA.fh,vI a0.fA.fj,v0_3,vI a0.fk] 87])) rfl fun G6 x6 g6 ⟨z0,k4,x1⟩=>?_
 subst k4
 have x5:=mk_tr1 B0 x1
 refine Aa<|AA<|MX.rangeP (lb:=[vP z0]) rfl (mk_push1 B0 x1) rfl (bd 141) Tryz.func141 rfl rfl rfl fun Q6 v1 D0 u4 K4 F0 F5 v4 k1 s6=>Ac<|AR 0 rfl<|AR 3 rfl<|AP rfl ((mem_from (F0.memA .t2) 0) 3 _ rfl) ?_
 have u1:=AS h0_3 F0
 have p6:a0.fA.fo.length <= 281474976710656:=AY u1
 refine Ab (Be (xs:=a0.fA.fo) Tryz.underlying42 rfl u1)<|Ae rfl<|Aa<|AA<|tn h fun t6 V3 p1=>MX.lo (α:=Nat × Int) (fun ⟨j0,q0⟩=>[(0,.func (.yield v1) #[] #[]),(7,v0_3),(8,vI ((a0.fA.fo.length:Nat):Int)),(9,vI ((j0:Nat):Int))]) (fun ⟨j0,q0⟩=>[.obj v1 (lpO u4 .ready none),.obj D0 (.deferred (some [])),.cells z0 [vI a0.fA.fe,vI a0.fA.fh,vI a0.fA.fj,v0_3,vI a0.fk] 87,.cells C1 [vI q0] 3,.cells y0 [vI a0.fA.fe,vI a0.fA.fh,vI a0.fA.fj,v0_3,vI a0.fk] 87]) (fun ⟨j0,q0⟩=>(j0,q0)) (0,0) V3 F0 ?_
 rintro B4 ⟨j0,q0⟩ x7 M1 E0 Z2 h
 unfold ak_l3 at h
 try dsimp only at h
 refine Ac<|Ab (Bu (i:=j0) (j:=a0.fA.fo.length) rfl rfl)<|Aa<|Aj<|AT rfl h (fun D1 h=>?_) (fun D1 h=>?_)
 refine Au<|Aj<|AA<|Ac<|Ae rfl<|bk h fun x0 p4 h=>?_
 obtain ⟨y4,F4,F3,K3,I4,Y3,Q3⟩:=Br (AS h0_3 E0) p4
 obtain ⟨z1,A1,B1,rfl,Z3,b4,c4⟩:=op_Tb Y3
 refine Ab (Bq 6 j0 rfl F3 rfl rfl K3)<|Ab (AH rfl Q3)<|RG.nl [.string ⟨#[]⟩,vI 0,vN,vN,vN,.bool false] E0 fun A6 E4 Q1 C0=>Af rfl<|AQ [.string x0.fx,vI x0.fv,z1,A1,B1,.bool x0.fu] Q1 .hd (o6 rfl rfl (AO (Ao Z3 C0)) (AO (Ao b4 C0)) (AO (Ao c4 C0)) rfl) fun B6 A0 b3=>Aa<|Ac<|AR 5 rfl<|AP rfl ((A0.memA .hd) 5 _ rfl)<|Ae rfl<|RG.ifb (s:=16) rfl h (fun E1 h=>?_) (fun E1 h=>?_)
 refine Ap<|Ap<|Ap<|Ap<|Ap<|Bh rfl rfl<|Aa<|Bk rfl ?_
 have h:=thn_map h p1
 refine Al rfl<|Am (u:=.tuple #[]) k1 Tryz.func141 rfl .nil rfl<|MX.endRange0 A0 .t1 (by intro h9; cases h9) fun C6 U1 Z4=>?_
 obtain ⟨u0,b5⟩:=AG U1 (.a0 .d1)
 refine AC<|Ac<|Ae rfl ?_
 have q1:=AS h1_0 u0
 have j6:a1.length <= 281474976710656:=AY q1
 refine Ab (Be (xs:=a1) Tryz.underlying46 rfl q1)<|AP rfl ((u0.memA .t3) 0 _ rfl)<|Ab (BP (i:=((a1.length:Nat):Int)) (j:=q0) rfl rfl)<|xk h (fun M4 I0 h=>?_) (fun A7 I0 h=>?_)
 refine BH (fst:=[]) (cap:=[]) .plain (bd 63) rfl (e2 rfl rfl) (fun p q=>ae_c n (u0.hL0 hL q)  I0) fun D6 v3=>?_
 obtain ⟨V1,d5⟩:=u0.agr v3
 refine PN.take V1 .t1 fun E6 W1 g5=>?_
 obtain ⟨X1,j5⟩:=AG W1 (.a0 .d1)
 cases h
 exact Bl hp0 Tryz.func58 ⟨X1.ag,rfl⟩
 refine Ba (.tuple #[]) (bd 63) rfl (e2 rfl rfl) (fun p q=>Bi (ae_c n (u0.hL0 hL q)  I0)) rfl<|Aa<|Ac<|Ak .plain rfl (Does.makeMap (κ:=Int) (ν:=Bool) u0) fun F6 V0 Z0 k5=>Af rfl<|Aa<|Aj<|Ac<|Ae rfl<|Ab (Be (xs:=a1) Tryz.underlying46 rfl (AS h1_0 Z0))<|Ae rfl<|Aa<|AA ?_
 obtain ⟨Y1,q5⟩:=AG Z0 (.a0 (.a1 .d3))
 refine tn h fun u6 W3 G0=>MX.lo (α:=Nat × (List (Int × Bool))) (fun ⟨d0,k0⟩=>[(2,vP y0),(5,.map (some V0)),(20,v1_0),(21,vI ((a1.length:Nat):Int)),(22,vI ((d0:Nat):Int))]) (fun ⟨d0,k0⟩=>[.obj V0 (mapO (k0:List (Int × Bool))),.obj D0 (.deferred (some [])),.cells y0 [vI a0.fA.fe,vI a0.fA.fh,vI a0.fA.fj,v0_3,vI a0.fk] 87]) (fun ⟨d0,k0⟩=>(d0,k0)) (0,([]:List (Int × Bool))) W3 Y1 ?_
 rintro C4 ⟨d0,k0⟩ y7 X0 b0 g1 h
 unfold ak_l1 at h
 try dsimp only at h
 refine Ac<|Ab (Bu (i:=d0) (j:=a1.length) rfl rfl)<|Aa<|Aj<|AT rfl h (fun F1 h=>?_) (fun F1 h=>?_)
 refine Au<|Aj<|AA<|Ac<|bk h fun s0 q4 h=>?_
 obtain ⟨z4,G4,G3,M3,J1,d4,R3⟩:=Br (AS h1_0 b0) q4
 have H3:J1 = [vI s0]:=d4; subst H3
 refine Ab (Bq 1 d0 rfl G3 rfl rfl M3)<|AP rfl (R3 0 _ rfl)<|Af rfl<|Aa<|Ac<|Ae rfl<|Ab (BS (i:=s0) (j:=0) rfl rfl)<|Ae rfl<|BD (s:=28) rfl h (fun G1 h=>?_) (fun G1 h=>?_)
 refine Ap<|Ap<|Ap<|Ap<|Bh rfl rfl<|xk h (fun P4 J0 h=>?_) (fun B7 J0 h=>?_)
 have h:=thn_inl h G0
 refine BH (fst:=[]) (cap:=[]) .plain (bd 63) rfl (e2 rfl rfl) (fun p q=>ae_c n (b0.hL0 hL q)  J0) fun H6 x3=>?_
 obtain ⟨Z1,s5⟩:=b0.agr x3
 refine PN.take Z1 .t1 fun I6 b2 t5=>?_
 obtain ⟨c2,u5⟩:=AG b2 (.a0 .d1)
 cases h
 exact Bl hp0 Tryz.func58 ⟨c2.ag,rfl⟩
 refine Ba (.tuple #[]) (bd 63) rfl (e2 rfl rfl) (fun p q=>Bi (ae_c n (b0.hL0 hL q)  J0)) rfl<|Aa<|Av<|Ae rfl<|Ae rfl<|RG.now .plain (Acts.mapUpdate (kv:=s0) (vv:=true) b0 .hd Tryz.underlying141 Tryz.underlying3 rfl rfl rfl rfl) fun J6 g2 c3=>Aa<|AC<|Av<|Ab (Bw (i:=d0) (j:=1) rfl rfl (by omega))<|Ae rfl<|Aa<|X0 (d0 + 1,mset k0 s0 true) g2 (Tt g1 c3) h
 refine AE (Ai rfl)<|RG.fg 4 rfl<|AE (AL rfl ((b0.memA .t2) 4 _ rfl))<|AE (FV.geq (i:=s0) (j:=a0.fk) rfl rfl)<|Bv rfl rfl<|xk h (fun Q4 K0 h=>?_) (fun C7 K0 h=>?_)
 have h:=thn_inl h G0
 refine BH (fst:=[]) (cap:=[]) .plain (bd 63) rfl (e2 rfl rfl) (fun p q=>ae_c n (b0.hL0 hL q)  K0) fun K6 y3=>?_
 obtain ⟨j2,v5⟩:=b0.agr y3
 refine PN.take j2 .t1 fun M6 k2 y5=>?_
 obtain ⟨p2,z5⟩:=AG k2 (.a0 .d1)
 cases h
 exact Bl hp0 Tryz.func58 ⟨p2.ag,rfl⟩
 refine Ba (.tuple #[]) (bd 63) rfl (e2 rfl rfl) (fun p q=>Bi (ae_c n (b0.hL0 hL q)  K0)) rfl<|Aa<|Av<|Ae rfl<|Ae rfl<|RG.now .plain (Acts.mapUpdate (kv:=s0) (vv:=true) b0 .hd Tryz.underlying141 Tryz.underlying3 rfl rfl rfl rfl) fun P6 q2 g3=>Aa<|AC<|Av<|Ab (Bw (i:=d0) (j:=1) rfl rfl (by omega))<|Ae rfl<|Aa<|X0 (d0 + 1,mset k0 s0 true) q2 (Tt g1 g3) h
 refine Bd rfl ?_
 have h:=thn_inr h G0
 try dsimp only at h
 refine Av<|Ae rfl<|Ab (FV.len_map (D:=k0) b0 .hd Tryz.underlying141 rfl)<|AR 4 rfl<|AP rfl ((b0.memA .t2) 4 _ rfl)<|Ab (BP (i:=((k0.length:Nat):Int)) (j:=a0.fk) rfl rfl)<|xk h (fun R4 M0 h=>?_) (fun D7 M0 h=>?_)
 refine BH (fst:=[]) (cap:=[]) .plain (bd 63) rfl (e2 rfl rfl) (fun p q=>ae_c n (b0.hL0 hL q)  M0) fun R6 z3=>?_
 obtain ⟨s2,A5⟩:=b0.agr z3
 refine PN.take s2 .t1 fun U6 u2 B5=>?_
 obtain ⟨v2,C5⟩:=AG u2 (.a0 .d1)
 cases h
 exact Bl hp0 Tryz.func58 ⟨v2.ag,rfl⟩
 refine Ba (.tuple #[]) (bd 63) rfl (e2 rfl rfl) (fun p q=>Bi (ae_c n (b0.hL0 hL q)  M0)) rfl<|Aa<|MX.fin rfl<|RT.take b0 .t1 fun V6 x2 D5=>?_
 obtain ⟨y2,E5⟩:=AG x2 (.a0 .d1)
 refine Am hb0 Tryz.func58 rfl .nil rfl ?_
 cases h
 exact ⟨y2.ag,fun p q=>okOf_in rfl⟩
 refine AE (Ai rfl)<|AE (Ai rfl)<|AE (AH rfl (A0.memA .hd))<|RG.yieldP (fd:=58) (vs:=[vI ((j0:Nat):Int),.agg #[.string x0.fx,vI x0.fv,z1,A1,B1,.bool x0.fu]]) (.yes rfl rfl) rfl (e2 rfl rfl) A0 .t1 v4 rfl rfl rfl fun J4 E3 q6=>Au<|MX.begin A0 .t1 fun W6 b1 j3=>AA<|Av<|AP rfl ((b1.memA .t4) 0 _ rfl)<|bk h fun y1 j4 h=>Ab (BJ (i:=q0) (j:=1) rfl rfl j4)<|AQ [vI y1] b1 .t4 (o1 rfl) fun X6 z2 k3=>Aa<|AC<|MX.roundEnd E3 z2 .t1 fun Y6 A2 p3=>AE (Bp rfl)<|Bv rfl rfl<|Aa<|BF rfl<|Au<|AC<|Av<|Ab (Bw (i:=j0) (j:=1) rfl rfl (by omega))<|Ae rfl<|Aa ?_
 obtain ⟨B2,q3⟩:=AG A2 .d1
 exact M1 (j0 + 1,y1) B2 (Tt Z2 (Tt C0 (Tt b3 (Tt j3 (Tt k3 (Tt p3 q3)))))) h
 refine Bd rfl ?_
 have h:=thn_inr h p1
 try dsimp only at h
 refine MX.fin rfl<|Am (u:=.tuple #[]) k1 Tryz.func141 rfl .nil rfl<|MX.endRange0 E0 .hd (by intro h9; cases h9) fun Z6 C2 G5=>?_
 obtain ⟨v0,H5⟩:=AG C2 .d1
 refine AC<|Ac<|Ae rfl ?_
 have s1:=AS h1_0 v0
 have k6:a1.length <= 281474976710656:=AY s1
 refine Ab (Be (xs:=a1) Tryz.underlying46 rfl s1)<|AP rfl ((v0.memA .t2) 0 _ rfl)<|Ab (BP (i:=((a1.length:Nat):Int)) (j:=q0) rfl rfl)<|xk h (fun U4 P0 h=>?_) (fun E7 P0 h=>?_)
 refine BH (fst:=[]) (cap:=[]) .plain (bd 63) rfl (e2 rfl rfl) (fun p q=>ae_c n (v0.hL0 hL q)  P0) fun b7 A3=>?_
 obtain ⟨D2,I5⟩:=v0.agr A3
 refine PN.take D2 .hd fun c7 E2 J5=>?_
 obtain ⟨F2,K5⟩:=AG E2 .d1
 cases h
 exact Bl hp0 Tryz.func58 ⟨F2.ag,rfl⟩
 refine Ba (.tuple #[]) (bd 63) rfl (e2 rfl rfl) (fun p q=>Bi (ae_c n (v0.hL0 hL q)  P0)) rfl<|Aa<|Ac<|Ak .plain rfl (Does.makeMap (κ:=Int) (ν:=Bool) v0) fun d7 W0 c1 M5=>Af rfl<|Aa<|Aj<|Ac<|Ae rfl<|Ab (Be (xs:=a1) Tryz.underlying46 rfl (AS h1_0 c1))<|Ae rfl<|Aa<|AA ?_
 obtain ⟨G2,P5⟩:=AG c1 (.a0 (.a0 .d2))
 refine tn h fun v6 X3 H0=>MX.lo (α:=Nat × (List (Int × Bool))) (fun ⟨g0,p0⟩=>[(2,vP y0),(5,.map (some W0)),(20,v1_0),(21,vI ((a1.length:Nat):Int)),(22,vI ((g0:Nat):Int))]) (fun ⟨g0,p0⟩=>[.obj W0 (mapO (p0:List (Int × Bool))),.obj D0 (.deferred (some [])),.cells y0 [vI a0.fA.fe,vI a0.fA.fh,vI a0.fA.fj,v0_3,vI a0.fk] 87]) (fun ⟨g0,p0⟩=>(g0,p0)) (0,([]:List (Int × Bool))) X3 G2 ?_
 rintro D4 ⟨g0,p0⟩ z7 Y0 c0 j1 h
 unfold ak_l2 at h
 try dsimp only at h
 refine Ac<|Ab (Bu (i:=g0) (j:=a1.length) rfl rfl)<|Aa<|Aj<|AT rfl h (fun H1 h=>?_) (fun H1 h=>?_)
 refine Au<|Aj<|AA<|Ac<|bk h fun t0 s4 h=>?_
 obtain ⟨A4,H4,I3,P3,K1,g4,U3⟩:=Br (AS h1_0 c0) s4
 have J3:K1 = [vI t0]:=g4; subst J3
 refine Ab (Bq 1 g0 rfl I3 rfl rfl P3)<|AP rfl (U3 0 _ rfl)<|Af rfl<|Aa<|Ac<|Ae rfl<|Ab (BS (i:=t0) (j:=0) rfl rfl)<|Ae rfl<|BD (s:=28) rfl h (fun I1 h=>?_) (fun I1 h=>?_)
 refine Ap<|Ap<|Ap<|Ap<|Bh rfl rfl<|xk h (fun V4 Q0 h=>?_) (fun F7 Q0 h=>?_)
 have h:=thn_inl h H0
 refine BH (fst:=[]) (cap:=[]) .plain (bd 63) rfl (e2 rfl rfl) (fun p q=>ae_c n (c0.hL0 hL q)  Q0) fun g7 B3=>?_
 obtain ⟨H2,Q5⟩:=c0.agr B3
 refine PN.take H2 .t1 fun j7 I2 R5=>?_
 obtain ⟨J2,U5⟩:=AG I2 (.a0 .d1)
 cases h
 exact Bl hp0 Tryz.func58 ⟨J2.ag,rfl⟩
 refine Ba (.tuple #[]) (bd 63) rfl (e2 rfl rfl) (fun p q=>Bi (ae_c n (c0.hL0 hL q)  Q0)) rfl<|Aa<|Av<|Ae rfl<|Ae rfl<|RG.now .plain (Acts.mapUpdate (kv:=t0) (vv:=true) c0 .hd Tryz.underlying141 Tryz.underlying3 rfl rfl rfl rfl) fun k7 K2 s3=>Aa<|AC<|Av<|Ab (Bw (i:=g0) (j:=1) rfl rfl (by omega))<|Ae rfl<|Aa<|Y0 (g0 + 1,mset p0 t0 true) K2 (Tt j1 s3) h
 refine AE (Ai rfl)<|RG.fg 4 rfl<|AE (AL rfl ((c0.memA .t2) 4 _ rfl))<|AE (FV.geq (i:=t0) (j:=a0.fk) rfl rfl)<|Bv rfl rfl<|xk h (fun W4 R0 h=>?_) (fun G7 R0 h=>?_)
 have h:=thn_inl h H0
 refine BH (fst:=[]) (cap:=[]) .plain (bd 63) rfl (e2 rfl rfl) (fun p q=>ae_c n (c0.hL0 hL q)  R0) fun p7 C3=>?_
 obtain ⟨M2,V5⟩:=c0.agr C3
 refine PN.take M2 .t1 fun q7 P2 W5=>?_
 obtain ⟨Q2,X5⟩:=AG P2 (.a0 .d1)
 cases h
 exact Bl hp0 Tryz.func58 ⟨Q2.ag,rfl⟩
 refine Ba (.tuple #[]) (bd 63) rfl (e2 rfl rfl) (fun p q=>Bi (ae_c n (c0.hL0 hL q)  R0)) rfl<|Aa<|Av<|Ae rfl<|Ae rfl<|RG.now .plain (Acts.mapUpdate (kv:=t0) (vv:=true) c0 .hd Tryz.underlying141 Tryz.underlying3 rfl rfl rfl rfl) fun s7 R2 u3=>Aa<|AC<|Av<|Ab (Bw (i:=g0) (j:=1) rfl rfl (by omega))<|Ae rfl<|Aa<|Y0 (g0 + 1,mset p0 t0 true) R2 (Tt j1 u3) h
 refine Bd rfl ?_
 have h:=thn_inr h H0
 try dsimp only at h
 refine Av<|Ae rfl<|Ab (FV.len_map (D:=p0) c0 .hd Tryz.underlying141 rfl)<|AR 4 rfl<|AP rfl ((c0.memA .t2) 4 _ rfl)<|Ab (BP (i:=((p0.length:Nat):Int)) (j:=a0.fk) rfl rfl)<|xk h (fun X4 U0 h=>?_) (fun H7 U0 h=>?_)
 refine BH (fst:=[]) (cap:=[]) .plain (bd 63) rfl (e2 rfl rfl) (fun p q=>ae_c n (c0.hL0 hL q)  U0) fun t7 D3=>?_
 obtain ⟨U2,Y5⟩:=c0.agr D3
 refine PN.take U2 .t1 fun u7 V2 Z5=>?_
 obtain ⟨W2,b6⟩:=AG V2 (.a0 .d1)
 cases h
 exact Bl hp0 Tryz.func58 ⟨W2.ag,rfl⟩
 refine Ba (.tuple #[]) (bd 63) rfl (e2 rfl rfl) (fun p q=>Bi (ae_c n (c0.hL0 hL q)  U0)) rfl<|Aa<|MX.fin rfl<|RT.take c0 .t1 fun v7 X2 c6=>?_
 obtain ⟨Y2,d6⟩:=AG X2 (.a0 .d1)
 refine Am hb0 Tryz.func58 rfl .nil rfl ?_
 cases h
 exact ⟨Y2.ag,fun p q=>okOf_in rfl⟩
theorem el45:ElT Tryz.prog 45 3 (Rep.size Int) 8 (vI 0) [vI 0]:=⟨Tryz.underlying45,by kernel_rfl,rfl,rfl,rfl,rfl⟩
def ao_l1 (_n:Nat) (a0:Tl) (a1:List Int) (j0:Nat × (List Int) -> Option ((Except Tg (List Int)) ⊕ (List Int))):Nat × (List Int) -> Option ((Except Tg (List Int)) ⊕ (List Int))
  | (b0,c0)=>(if b0 < a0.fA.fo.length then (a0.fA.fo[b0]?).bind fun d0=>(if d0.fu = true then some (.inl (.ok c0)) else (a1[b0]?).bind fun g0=>(idx c0 g0).bind fun p0=>(chk (p0 + d0.fv)).bind fun k0=>(put c0 ((g0.toNat:Nat):Int) k0).bind fun q0=>j0 (b0 + 1,q0)) else some (.inr c0))
def ao_p (n:Nat) (a0:Tl) (a1:List Int):Option (Except Tg (List Int)):=
  (ak_p n a0 a1).bind fun g0=>exc g0 (fun _y23=>(mk a0.fk (0:Int)).bind fun d0=>thn (loopF (ao_l1 n a0 a1) n (0,d0)) (fun c0=>some (.ok c0))) (fun b0=>some (.error b0))
theorem ao_c (n:Nat) {L w} (hL:hl L w) (a0:Tl) {v0_3:Value} (h0_3:Rep.R w L [v0_3] a0.fA.fo) {a1:List Int} {v1_0:Value} (h1_0:Rep.R w L [v1_0] a1)  {r:Except Tg (List Int)} (h:ao_p n a0 a1 = some r) :
 Cl 46 #[.agg #[vI a0.fA.fe,vI a0.fA.fh,vI a0.fA.fj,v0_3,vI a0.fk],v1_0] w (PGives w (fun (y:List Int) w' u=>∃ v0_0:Value,u = v0_0/\Rep.R w' L [v0_0] y) (fun e=>.iface 120 (.agg #[vI e.fB])) r):=by
 unfold ao_p at h
 refine MX.startP Tryz.func46 rfl rfl rfl fun _ cs0 hb0 hp0=>Ac<|RG.bx (Az w) rfl rfl fun u4 W0 Z0 X3=>RG.bx Z0 rfl (Rep.c1 (AS h1_0 Z0)) fun v4 X0 d0 Y3=>Af rfl<|Aa<|Ac<|Ab (AH rfl (d0.memA .t1))<|AP rfl ((d0.memA .hd) 0 _ rfl)<|xk h (fun W3 M0 h=>?_) (fun Q4 M0 h=>?_)
 refine BH (fst:=[]) (cap:=[]) .plain (bd 58) rfl (e2 rfl rfl) (fun p q=>ak_c n (d0.hL0 hL q) a0 (d0.k0 h0_3 q) (d0.k0 h1_0 q) M0) fun x4 M2=>?_
 obtain ⟨X1,Z3⟩:=d0.agr M2
 cases h
 exact Bl hp0 Tryz.func46 ⟨X1.ag,rfl⟩
 refine Ba (.tuple #[]) (bd 58) rfl (e2 rfl rfl) (fun p q=>Bi (ak_c n (d0.hL0 hL q) a0 (d0.k0 h0_3 q) (d0.k0 h1_0 q) M0)) rfl<|Aa<|Ac<|AR 4 rfl<|AP rfl ((d0.memA .t1) 4 _ rfl)<|bk h fun J1 E1 h=>Ak .plain rfl (Does.mk (α:=Int) E1 d0 el45 rfl) fun D4 q0 g1 c4=>?_
 have Q2:=AB (cs:=(List.replicate a0.fk.toNat [vI 0]).flatten) (xs:=J1) g1 L (Cells.mk E1 rfl)
 refine RG.nl [vN] g1 fun J4 Y0 H0 I2=>RG.now .plain (AF (news:=[(.slice (some ⟨q0,0,none⟩) a0.fk.toNat a0.fk.toNat)]) H0 .hd rfl rfl rfl (St.c1 (α:=Int) H0 .t1) rfl rfl (o1 (St.o1 (α:=Int) H0 .t1))) fun D3 x0 J2=>Aa<|Aj<|Ac<|Ab (AH rfl (x0.memA .t3))<|AX (fst:=[]) (cap:=[]) .plain (bd 101) rfl (e1 rfl) (fun p q=>Calls.gives (dL_c n (x0.hL hL q) a0 (x0.km h0_3 q)) fun (w8:World) (u8:Value) ⟨b0_,hu_,s_⟩=>(⟨b0_,hu_,s_.from q⟩:∃ u0:Nat,u8 = Value.func (.func 141) #[] #[vP u0]/\St D3 w8 [.cells u0 [vI a0.fA.fe,vI a0.fA.fh,vI a0.fA.fj,v0_3,vI a0.fk] 87])) rfl fun M4 t4 g4 ⟨u0,v3,G1⟩=>?_
 subst v3
 refine Aa<|AA<|MX.rangeP (lb:=[vP u0]) rfl (mk_push1 x0 G1) rfl (bd 141) Tryz.func141 rfl rfl rfl fun P4 P0 V0 F1 V3 I0 K2 C3 s1 p4=>Ac<|AR 0 rfl<|AR 3 rfl<|AP rfl ((mem_from (I0.memA .t2) 0) 3 _ rfl) ?_
 have z1:=AS h0_3 I0
 have j4:a0.fA.fo.length <= 281474976710656:=AY z1
 refine Ab (Be (xs:=a0.fA.fo) Tryz.underlying42 rfl z1)<|Ae rfl<|Aa<|AA<|tn h fun q4 g3 v1=>MX.lf (α:=Nat × (List Int) × (List Value)) (fun ⟨c0,p0,s0⟩=>[(0,.func (.yield P0) #[] #[]),(7,v0_3),(8,vI ((a0.fA.fo.length:Nat):Int)),(9,vI ((c0:Nat):Int))]) (fun ⟨c0,p0,s0⟩=>[.obj P0 (lpO F1 .ready none),.obj V0 (.deferred (some [])),.cells u0 [vI a0.fA.fe,vI a0.fA.fh,vI a0.fA.fj,v0_3,vI a0.fk] 87,.cells Y0 [(.slice (some ⟨q0,0,none⟩) a0.fk.toNat a0.fk.toNat)] 45,rr w 3 Int (.slice (some ⟨q0,0,none⟩) a0.fk.toNat a0.fk.toNat) p0.length s0,.cells X0 [v1_0] 46,.cells W0 [vI a0.fA.fe,vI a0.fA.fh,vI a0.fA.fj,v0_3,vI a0.fk] 87]) (fun ⟨c0,p0,s0⟩ H1=>Cells H1 (bl [.obj P0 (lpO F1 .ready none),.obj V0 (.deferred (some [])),.cells u0 [vI a0.fA.fe,vI a0.fA.fh,vI a0.fA.fj,v0_3,vI a0.fk] 87,.cells Y0 [(.slice (some ⟨q0,0,none⟩) a0.fk.toNat a0.fk.toNat)] 45,rr w 3 Int (.slice (some ⟨q0,0,none⟩) a0.fk.toNat a0.fk.toNat) p0.length s0,.cells X0 [v1_0] 46,.cells W0 [vI a0.fA.fe,vI a0.fA.fh,vI a0.fA.fj,v0_3,vI a0.fk] 87] ++ L) s0 p0) (fun ⟨c0,p0,s0⟩=>(c0,p0)) (0,J1,(List.replicate a0.fk.toNat [vI 0]).flatten) g3 I0 (Aw Q2 (Tt I2 (Tt J2 (Tt (mk_tr1 x0 G1) K2)))) ?_
 rintro H3 ⟨c0,p0,s0⟩ H1 W1 C0 u2 J0 h
 unfold ao_l1 at h
 try dsimp only at h
 refine Ac<|Ab (Bu (i:=c0) (j:=a0.fA.fo.length) rfl rfl)<|Aa<|Aj<|AT rfl h (fun P1 h=>?_) (fun P1 h=>?_)
 refine Au<|Aj<|AA<|Ac<|Ae rfl<|bk h fun j0 x3 h=>?_
 obtain ⟨F3,K3,U2,Y2,R3,j3,b3⟩:=Br (AS h0_3 C0) x3
 obtain ⟨Q0,R0,U0,rfl,B1,C1,D1⟩:=op_Tb j3
 refine Ab (Bq 6 c0 rfl U2 rfl rfl Y2)<|Ab (AH rfl b3)<|RG.nl [.string ⟨#[]⟩,vI 0,vN,vN,vN,.bool false] C0 fun y4 I3 Y1 y0=>Af rfl<|AQ [.string j0.fx,vI j0.fv,Q0,R0,U0,.bool j0.fu] Y1 .hd (o6 rfl rfl (AO (Ao B1 y0)) (AO (Ao C1 y0)) (AO (Ao D1 y0)) rfl) fun z4 v0 k1=>Aa<|Ac<|AR 5 rfl<|AP rfl ((v0.memA .hd) 5 _ rfl)<|Ae rfl<|RG.ifb (s:=16) rfl h (fun Q1 h=>?_) (fun Q1 h=>?_)
 refine Ap<|Ap<|Ap<|Ap<|Ap<|Bh rfl rfl<|Aa<|Bk rfl ?_
 have h:=thn_inl h v1
 refine Al rfl<|Am (u:=.tuple #[]) s1 Tryz.func141 rfl .nil rfl<|MX.endRange0 v0 .t1 (by intro h9; cases h9) fun A4 Z1 v2=>?_
 obtain ⟨b1,x2⟩:=AG Z1 (.a0 .d1)
 refine AC<|Ac<|AP rfl ((b1.memA .t3) 0 _ rfl)<|Af rfl<|Aa<|Al rfl<|RT.take b1 .t1 fun B4 b2 y2=>?_
 obtain ⟨D0,z2⟩:=AG b2 (.a0 .d1)
 have E0:=Bz D0 .t3
 have b4:=BA D0 .t3
 have k3:=BB (α:=Int) (v:=(.slice (some ⟨q0,0,none⟩) a0.fk.toNat a0.fk.toNat)) (xs:=p0) E0 L (Bj (α:=Int) D0 .t3 (Aw J0 (Tt y0 (Tt k1 (Tt v2 (Tt x2 (Tt y2 z2)))))) hL)
 refine AW hb0 Tryz.func46 rfl rfl ?_
 cases h
 exact ⟨E0.ag,fun p q=>okOf_in ⟨(.slice (some ⟨q0,0,none⟩) a0.fk.toNat a0.fk.toNat),rfl,E0.kd k3 q⟩⟩
 refine AE (Ai rfl)<|AE (Ai rfl)<|AE (AH rfl (v0.memA .hd))<|RG.yieldP (fd:=46) (vs:=[vI ((c0:Nat):Int),.agg #[.string j0.fx,vI j0.fv,Q0,R0,U0,.bool j0.fu]]) (.yes rfl rfl) rfl (e2 rfl rfl) v0 .t1 C3 rfl rfl rfl fun U3 P2 k4=>Ac<|Af rfl<|Aa<|Av<|RG.nl [.string ⟨#[]⟩,vI 0,vN,vN,vN,.bool false] v0 fun C4 J3 c2 A2=>?_
 have A0:=Tt y0 (Tt k1 A2)
 refine AQ [.string j0.fx,vI j0.fv,Q0,R0,U0,.bool j0.fu] c2 .hd (o6 rfl rfl (AO (Ao B1 A0)) (AO (Ao C1 A0)) (AO (Ao D1 A0)) rfl) fun E4 g2 B2=>Aa<|MX.begin g2 .t2 fun F4 t0 C2=>AA<|du 11 fun b0 g0=>Rx 0 3680 b0 rfl g0 (AL rfl ((t0.memA .t5) 0 _ rfl))<|Rx 1 3704 b0 rfl g0 (AL rfl ((t0.memA .t7) 0 _ rfl))<|Rv 2 b0 rfl g0 (fun _=>Ai rfl)<|bk h fun B0 y3 h=>?_
 obtain ⟨G3,M3,V2,Z2,R1,p3,c3⟩:=Br (AS h1_0 t0) y3
 have W2:R1 = [vI B0]:=p3; subst W2
 refine Rv 3 b0 rfl g0 (fun _=>Bq 1 c0 rfl V2 rfl rfl Z2)<|Rx 4 3680 b0 rfl g0 (AL rfl (c3 0 _ rfl))<|bk h fun I1 z3 h=>?_
 obtain ⟨x1,A3⟩:=idx_in z3
 have A1:=Tt A0 (Tt B2 C2)
 have y1:=Aw J0 A1
 obtain ⟨K1,P3,z0,K0,U1,q3,d3⟩:=St.nth (α:=Int) t0 .t6 y1 A3
 obtain ⟨M1,Q3,u1⟩:=BR (α:=Int) t0 .t6 K0
 obtain rfl:K1 = ⟨M1,0,none⟩:=by rw [u1] at z0; cases z0; rfl
 have X2:U1 = [vI I1]:=q3; subst X2
 refine Rv 5 b0 rfl g0 (fun _=>Bq 1 (B0.toNat) rfl z0 rfl x1 K0)<|Rx 6 3584 b0 rfl g0 (AL rfl (d3 0 _ rfl))<|Rv 7 b0 rfl g0 (fun _=>Bb 1 rfl)<|Rx 8 3584 b0 rfl g0 (AL rfl ((t0.memA .hd) 1 _ rfl))<|bk h fun s4 u3 h=>Rv 9 b0 rfl g0 (fun _=>BJ (i:=I1) (j:=j0.fv) rfl rfl u3)<|Rv 10 b0 rfl g0 (fun _=>Bq 1 (B0.toNat) rfl z0 rfl x1 K0)<|bk h fun E3 B3 h=>Bf (i:=11) (rk b0) (RO.acts (m' :=4095) (sk b0) rfl rfl .plain (Acts.set (α:=Int) (i:=B0.toNat) B3 t0 u1 (fun _=>.t6) y1 rfl rfl rfl rfl rfl (by kernel_rfl)) (fun G4 ⟨V1,j2,D2,R2⟩=>?_))
 refine AN (dk b0)<|AC<|MX.roundEnd P2 j2 .t2 fun H4 k2 p1=>AE (Bp rfl)<|Bv rfl rfl<|Aa<|BF rfl<|Au<|AC<|Av<|Ab (Bw (i:=c0) (j:=1) rfl rfl (by omega))<|Ae rfl<|Aa ?_
 obtain ⟨p2,q1⟩:=AG k2 .d2
 exact W1 (c0 + 1,E3,V1) p2 (Tt u2 (Tt A1 (Tt D2 (Tt p1 q1)))) (Aw R2 (Tt p1 q1)) h
 refine Bd rfl ?_
 have h:=thn_inr h v1
 try dsimp only at h
 refine MX.fin rfl<|Am (u:=.tuple #[]) s1 Tryz.func141 rfl .nil rfl<|MX.endRange0 C0 .hd (by intro h9; cases h9) fun I4 q2 E2=>?_
 obtain ⟨j1,F2⟩:=AG q2 .d1
 refine AC<|Ac<|AP rfl ((j1.memA .t2) 0 _ rfl)<|Af rfl<|Aa<|Al rfl<|RT.take j1 .hd fun K4 s2 G2=>?_
 obtain ⟨F0,H2⟩:=AG s2 .d1
 have G0:=Bz F0 .t2
 have d4:=BA F0 .t2
 have s3:=BB (α:=Int) (v:=(.slice (some ⟨q0,0,none⟩) a0.fk.toNat a0.fk.toNat)) (xs:=p0) G0 L (Bj (α:=Int) F0 .t2 (Aw J0 (Tt E2 (Tt F2 (Tt G2 H2)))) hL)
 refine AW hb0 Tryz.func46 rfl rfl ?_
 cases h
 exact ⟨G0.ag,fun p q=>okOf_in ⟨(.slice (some ⟨q0,0,none⟩) a0.fk.toNat a0.fk.toNat),rfl,G0.kd s3 q⟩⟩
def ca_l1 (_n:Nat) (a1:List Int) (d0:Int × Nat -> Option Int):Int × Nat -> Option Int
  | (c0,b0)=>(if b0 < a1.length then (a1[b0]?).bind fun g0=>d0 (min c0 g0,b0 + 1) else some c0)
def ca_p (n:Nat) (a0:Int) (a1:List Int):Option Int:=
  Option.bind (loopF (ca_l1 n a1) n (a0,0)) (fun b0=>some b0)
theorem ca_c (n:Nat) {L w} (_hL:hl L w) {a0:Int} {a1:List Int} {v1_0:Value} (h1_0:Rep.R w L [v1_0] a1)  {r:Int} (h:ca_p n a0 a1 = some r) :
 Cl 47 #[vI a0,v1_0] w (Gives w fun _ u=>u = vI r):=by
 unfold ca_p at h
 refine AD Tryz.func47 rfl rfl rfl fun _ cs0 hb0=>Ac<|Af rfl<|Aa<|Aj<|Ac<|Ae rfl ?_
 have hl1:a1.length <= 281474976710656:=AY h1_0
 refine Ab (Be (xs:=a1) Tryz.underlying45 rfl h1_0)<|Ae rfl<|Aa<|AA ?_
 obtain ⟨E0,y0,u0⟩:=bind_in2 h
 refine MX.lo (α:=Int × Nat) (fun ⟨c0,b0⟩=>[(0,vI c0),(7,v1_0),(8,vI ((a1.length:Nat):Int)),(9,vI ((b0:Nat):Int))]) (fun ⟨c0,b0⟩=>[]) (fun ⟨c0,b0⟩=>(c0,b0)) (a0,0) y0 (Az w) ?_
 rintro C0 ⟨c0,b0⟩ F0 p0 d0 q0 h
 unfold ca_l1 at h
 try dsimp only at h
 refine Ac<|Ab (Bu (i:=b0) (j:=a1.length) rfl rfl)<|Aa<|Aj<|AT rfl h (fun j0 h=>?_) (fun j0 h=>?_)
 refine Au<|Aj<|AA<|Ac<|bk h fun g0 A0 h=>?_
 obtain ⟨B0,D0,s0,v0,k0,z0,x0⟩:=Br (AS h1_0 d0) A0
 have t0:k0 = [vI g0]:=z0; subst t0
 refine Ab (Bq 1 b0 rfl s0 rfl rfl v0)<|AP rfl (x0 0 _ rfl)<|Af rfl<|Aa<|Av<|Ae rfl<|Ae rfl<|Ab (FV.min2 (i:=c0) (j:=g0) rfl rfl)<|Af rfl<|Aa<|AC<|Av<|Ab (Bw (i:=b0) (j:=1) rfl rfl (by omega))<|Ae rfl<|Aa<|p0 (min c0 g0,b0 + 1) d0 q0 h
 refine Bd rfl ?_
 have h:=u0 _ h
 try dsimp only at h
 refine Ac<|Ae rfl<|Af rfl<|Aa<|Al rfl<|AW hb0 Tryz.func47 rfl rfl ?_
 cases h
 exact d0.gv
def bz_l1 (_n:Nat) (a1:List Int) (d0:Int × Nat -> Option Int):Int × Nat -> Option Int
  | (c0,b0)=>(if b0 < a1.length then (a1[b0]?).bind fun g0=>d0 (max c0 g0,b0 + 1) else some c0)
def bz_p (n:Nat) (a0:Int) (a1:List Int):Option Int:=
  Option.bind (loopF (bz_l1 n a1) n (a0,0)) (fun b0=>some b0)
theorem bz_c (n:Nat) {L w} (_hL:hl L w) {a0:Int} {a1:List Int} {v1_0:Value} (h1_0:Rep.R w L [v1_0] a1)  {r:Int} (h:bz_p n a0 a1 = some r) :
 Cl 48 #[vI a0,v1_0] w (Gives w fun _ u=>u = vI r):=by
 unfold bz_p at h
 refine AD Tryz.func48 rfl rfl rfl fun _ cs0 hb0=>Ac<|Af rfl<|Aa<|Aj<|Ac<|Ae rfl ?_
 have hl1:a1.length <= 281474976710656:=AY h1_0
 refine Ab (Be (xs:=a1) Tryz.underlying45 rfl h1_0)<|Ae rfl<|Aa<|AA ?_
 obtain ⟨E0,y0,u0⟩:=bind_in2 h
 refine MX.lo (α:=Int × Nat) (fun ⟨c0,b0⟩=>[(0,vI c0),(7,v1_0),(8,vI ((a1.length:Nat):Int)),(9,vI ((b0:Nat):Int))]) (fun ⟨c0,b0⟩=>[]) (fun ⟨c0,b0⟩=>(c0,b0)) (a0,0) y0 (Az w) ?_
 rintro C0 ⟨c0,b0⟩ F0 p0 d0 q0 h
 unfold bz_l1 at h
 try dsimp only at h
 refine Ac<|Ab (Bu (i:=b0) (j:=a1.length) rfl rfl)<|Aa<|Aj<|AT rfl h (fun j0 h=>?_) (fun j0 h=>?_)
 refine Au<|Aj<|AA<|Ac<|bk h fun g0 A0 h=>?_
 obtain ⟨B0,D0,s0,v0,k0,z0,x0⟩:=Br (AS h1_0 d0) A0
 have t0:k0 = [vI g0]:=z0; subst t0
 refine Ab (Bq 1 b0 rfl s0 rfl rfl v0)<|AP rfl (x0 0 _ rfl)<|Af rfl<|Aa<|Av<|Ae rfl<|Ae rfl<|Ab (FV.max2 (i:=c0) (j:=g0) rfl rfl)<|Af rfl<|Aa<|AC<|Av<|Ab (Bw (i:=b0) (j:=1) rfl rfl (by omega))<|Ae rfl<|Aa<|p0 (max c0 g0,b0 + 1) d0 q0 h
 refine Bd rfl ?_
 have h:=u0 _ h
 try dsimp only at h
 refine Ac<|Ae rfl<|Af rfl<|Aa<|Al rfl<|AW hb0 Tryz.func48 rfl rfl ?_
 cases h
 exact d0.gv
def cy_p (n:Nat) (a0:Td) (a1:Int) (a2:List Int) (a3:Ta):Option (Except Tg Bool):=
  (aB_p n a0 a1).bind fun y1=>exc y1 (fun d0=>(ao_p n d0 a2).bind fun q0=>exc q0 (fun b0=>(bv_p n d0 a3).bind fun s0=>exc s0 (fun g0=>(b0[0]?).bind fun c0=>(ca_p n c0 b0).bind fun t0=>(if g0.flow <= t0 then (bz_p n c0 b0).bind fun u0=>some (.ok (decide (u0 <= g0.fhigh))) else some (.ok false))) (fun p0=>some (.error p0))) (fun k0=>some (.error k0))) (fun j0=>some (.error j0))
theorem cy_c (n:Nat) {L w} (hL:hl L w) (a0:Td) {v0_3:Value} (h0_3:Rep.R w L [v0_3] a0.fo) {p0:Nat} (m0:∀ j9 v9,([vI a0.fe,vI a0.fh,vI a0.fj,v0_3]:List Value)[j9]? = some v9 -> w.cell? ((⟨p0,0,none⟩:Addr).add j9) = some v9) {a1:Int} {p1:Nat} (m1:∀ j9 v9,([vI a1]:List Value)[j9]? = some v9 -> w.cell? ((⟨p1,0,none⟩:Addr).add j9) = some v9) {a2:List Int} {v2_0:Value} (h2_0:Rep.R w L [v2_0] a2) {p2:Nat} (m2:∀ j9 v9,([v2_0]:List Value)[j9]? = some v9 -> w.cell? ((⟨p2,0,none⟩:Addr).add j9) = some v9) (a3:Ta) {p3:Nat} (m3:∀ j9 v9,((cs_Ta a3):List Value)[j9]? = some v9 -> w.cell? ((⟨p3,0,none⟩:Addr).add j9) = some v9)  {r:Except Tg Bool} (h:cy_p n a0 a1 a2 a3 = some r) :
 Cl 45 #[.pointer (some ⟨p0,0,none⟩),.pointer (some ⟨p1,0,none⟩),.pointer (some ⟨p2,0,none⟩),.pointer (some ⟨p3,0,none⟩)] w (PGives w (fun (y:Bool) _ u=>u = .bool y) (fun e=>.iface 120 (.agg #[vI e.fB])) r):=by
 unfold cy_p at h
 have hS0:=Az w
 refine MX.startP Tryz.func45 rfl rfl rfl fun _ cs0 hb0 hp0=>Ac<|Af rfl<|Aa<|Ac<|Ab (AH rfl (fun j9 v9 h9=>hS0.ag.cell0 (m0 j9 v9 h9)))<|AP rfl ((fun j9 v9 h9=>hS0.ag.cell0 (m1 j9 v9 h9)) 0 _ rfl)<|xk h (fun y1 hy1 h=>?_) (fun k0 hy1 h=>?_)
 refine BH (fst:=[]) (cap:=[]) .plain (bd 38) rfl (e2 rfl rfl) (fun p q=>aB_c n (hS0.hL hL q) a0 (Aq h0_3 q) hy1) fun I1 U0=>?_
 obtain ⟨H0,B1⟩:=hS0.agr U0
 cases h
 exact Bl hp0 Tryz.func45 ⟨H0.ag,rfl⟩
 refine AX (fst:=[]) (cap:=[]) .plain (bd 38) rfl (e2 rfl rfl) (fun p q=>Bi (aB_c n (hS0.hL hL q) a0 (Aq h0_3 q) hy1)) rfl fun J1 G1 V0 ⟨k1,hu_,t0⟩=>?_
 subst hu_
 obtain ⟨I0,C1⟩:=hS0.agr V0
 refine RG.nl [vI 0,vI 0,vI 0,vN,vI 0] I0 fun K1 u1 J0 s0=>AQ [vI k0.fA.fe,vI k0.fA.fh,vI k0.fA.fj,k1,vI k0.fk] J0 .hd (o5 rfl rfl rfl (AO (Ao t0 s0)) rfl) fun M1 d0 u0=>Aa<|Ac<|Ab (AH rfl (d0.memA .hd))<|AP rfl ((fun j9 v9 h9=>d0.ag.cell0 (m2 j9 v9 h9)) 0 _ rfl)<|xk h (fun z1 x0 h=>?_) (fun W1 x0 h=>?_)
 refine BH (fst:=[]) (cap:=[]) .plain (bd 46) rfl (e2 rfl rfl) (fun p q=>ao_c n (d0.hL hL q) k0 (Aq (Ao t0 (Tt s0 u0)) q) (d0.km h2_0 q) x0) fun P1 W0=>?_
 obtain ⟨K0,D1⟩:=d0.agr W0
 cases h
 exact Bl hp0 Tryz.func45 ⟨K0.ag,rfl⟩
 refine AX (fst:=[]) (cap:=[]) .plain (bd 46) rfl (e2 rfl rfl) (fun p q=>Bi (ao_c n (d0.hL hL q) k0 (Aq (Ao t0 (Tt s0 u0)) q) (d0.km h2_0 q) x0)) rfl fun Q1 H1 X0 ⟨F1,hu_,b1⟩=>?_
 subst hu_
 obtain ⟨g0,z0⟩:=d0.agr X0
 refine Af rfl<|Aa<|Ac<|Ab (AH rfl (g0.memA .hd))<|Ab (AH rfl (fun j9 v9 h9=>g0.ag.cell0 (m3 j9 v9 h9)))<|xk h (fun A1 y0 h=>?_) (fun q0 y0 h=>?_)
 refine BH (fst:=[]) (cap:=[]) .plain (bd 39) rfl (e2 rfl rfl) (fun p q=>bv_c n (g0.hL0 hL q) k0 (g0.kd (Ao t0 (Tt s0 (Tt u0 z0))) q) a3 y0) fun R1 Y0=>?_
 obtain ⟨M0,E1⟩:=g0.agr Y0
 cases h
 exact Bl hp0 Tryz.func45 ⟨M0.ag,rfl⟩
 refine Ba (.agg #[vI q0.flow,vI q0.fhigh]) (bd 39) rfl (e2 rfl rfl) (fun p q=>Bi (bv_c n (g0.hL0 hL q) k0 (g0.kd (Ao t0 (Tt s0 (Tt u0 z0))) q) a3 y0)) rfl<|RG.nl [vI 0,vI 0] g0 fun U1 v1 P0 Q0=>AQ [vI q0.flow,vI q0.fhigh] P0 .hd (onesB rfl) fun V1 j0 R0=>Aa<|Aj<|du 19 fun b0 c0=>Rv 0 b0 rfl c0 (fun _=>Ai rfl)<|bk h fun q1 d1 h=>?_
 have v0:=Ao b1 (Tt Q0 R0)
 obtain ⟨s1,x1,A0,B0,G0,c1,C0⟩:=Br v0 d1
 have Z0:G0 = [vI q1]:=c1; subst Z0
 refine Rv 1 b0 rfl c0 (fun _=>Bq 1 0 rfl A0 rfl rfl B0)<|Rx 2 524176 b0 rfl c0 (AL rfl (C0 0 _ rfl))<|Rv 3 b0 rfl c0 (fun _=>Ai rfl)<|bk h fun D0 g1 h=>BO 4 31 524160 (vI D0) b0 rfl c0 (bd 47) rfl (e2 rfl rfl) (fun p q=>ca_c n (j0.hL0 hL q) (j0.kd v0 q) g1) rfl<|Rv 5 b0 rfl c0 (fun _=>Bb 0 rfl)<|Rx 6 524160 b0 rfl c0 (AL rfl ((j0.memA .hd) 0 _ rfl))<|Rv 7 b0 rfl c0 (fun _=>FV.geq (i:=D0) (j:=q0.flow) rfl rfl)<|Rv 8 b0 rfl c0 (fun _=>Ai rfl)<|RD.ifd (s:=25) rfl h (fun F0 h=>?_) (fun F0 h=>?_)
 refine BX 9 1023 b0 rfl c0 (.yes rfl rfl) (fun _=>Ai rfl) rfl<|BX 10 2047 b0 rfl c0 (.yes rfl rfl) (fun _=>Bq 1 0 rfl A0 rfl rfl B0) rfl<|RD.val (i:=11) (m' :=4095) (W:=466944) (tk b0) rfl c0 (.yes rfl rfl) (AL rfl (C0 0 _ rfl)) rfl<|BX 12 8191 b0 rfl c0 (.yes rfl rfl) (fun _=>Ai rfl) rfl<|bk h fun E0 j1 h=>RD.callq (i:=13) (m' :=16383) (W:=458752) (tk b0) rfl c0 (v:=vI E0) (fst:=[]) (cap:=[]) (.yes rfl rfl) (bd 48) rfl (e2 rfl rfl) (fun p q=>bz_c n (j0.hL0 hL q) (j0.kd v0 q) j1) rfl<|BX 14 32767 b0 rfl c0 (.yes rfl rfl) (fun _=>Bb 1 rfl) rfl<|RD.val (i:=15) (m' :=65535) (W:=458752) (tk b0) rfl c0 (.yes rfl rfl) (AL rfl ((j0.memA .hd) 1 _ rfl)) rfl<|BX 16 131071 b0 rfl c0 (.yes rfl rfl) (fun _=>FV.leq (i:=E0) (j:=q0.fhigh) rfl rfl) rfl<|Rv 17 b0 rfl c0 (fun _=>BM rfl rfl)<|Rv 18 b0 rfl c0 (fun _=>AV rfl)<|AN (dk b0)<|Al rfl<|AW hb0 Tryz.func45 rfl rfl ?_
 cases h
 exact ⟨j0.ag,fun p q=>okOf_in rfl⟩
 refine BK 131071 2 [(9,26),(10,27),(11,28),(12,29),(13,30),(14,31),(15,32),(16,33)] (F:=[(25,false)]) (U:=[]) b0 c0 (.cons rfl .nil) .nil ?_
 dsimp only [offS,List.map]
 refine Rv 17 b0 rfl c0 (fun _=>Bo rfl rfl)<|Rv 18 b0 rfl c0 (fun _=>AV rfl)<|AN (dk b0)<|Al rfl<|AW hb0 Tryz.func45 rfl rfl ?_
 cases h
 exact ⟨j0.ag,fun p q=>okOf_in rfl⟩
def bw_p (n:Nat) (a0:Td) (a1:List Int) (a2:Int) (a3:Ta):Option (Bool × Int):=
  (cy_p n a0 a2 a1 a3).bind fun c0=>exc c0 (fun d0=>some (d0,(0:Int))) (fun b0=>some (false,b0.fB))
theorem bw_c (n:Nat) {L w} (hL:hl L w) (a0:Td) {v0_3:Value} (h0_3:Rep.R w L [v0_3] a0.fo) {a1:List Int} {v1_0:Value} (h1_0:Rep.R w L [v1_0] a1) {a2:Int} (a3:Ta)  {r:Bool × Int} (h:bw_p n a0 a1 a2 a3 = some r) :
 Cl 11 #[.agg #[vI a0.fe,vI a0.fh,vI a0.fj,v0_3],v1_0,vI a2,.agg ((cs_Ta a3)).toArray] w (Gives w fun _ u=>u = .tuple #[.bool r.1,vI r.2]):=by
 unfold bw_p at h
 refine AD Tryz.func11 rfl rfl rfl fun _ cs0 hb0=>Ac<|RG.bx (Az w) rfl rfl fun J1 g0 E0 z1=>RG.bx E0 rfl (Rep.c1 (AS h1_0 E0)) fun Q1 j0 M0 A1=>RG.bx M0 rfl rfl fun R1 p0 P0 B1=>RG.bx P0 rfl rfl fun U1 q0 Q0 C1=>Af rfl<|Af rfl<|Aa<|Ac<|Ab (BW (vs:=[]) (us:=[vP g0,vP p0,vP j0,vP q0]) evs_nil (e4 rfl rfl rfl rfl))<|BL (fst:=[]) (cap:=[]) (vs:=[.func (.func 45) #[] #[vP g0,vP p0,vP j0,vP q0]]) .plain (bd 44) Tryz.func44 rfl rfl rfl rfl (e1 rfl) rfl fun s1 F0 I1=>Ac<|RG.nl [.bool false] Q0 fun V1 s0 R0 D1=>RG.nl [vI 0] R0 fun W1 d0 b0 E1=>Aa<|Ac<|Ab (BW (vs:=[]) (us:=[vP s0,vP d0]) evs_nil (e2 rfl rfl))<|RG.defer (fst:=[]) (cap:=[vP s0,vP d0]) (vs:=[]) rfl .plain rfl evs_nil<|Aa<|Ac<|Ae rfl<|xk h (fun t0 A0 h=>?_) (fun C0 A0 h=>?_)
 refine BH (fst:=[]) (cap:=[vP g0,vP p0,vP j0,vP q0]) .plain (bd 45) rfl evs_nil (fun p q=>cy_c n (b0.hL0 hL q) a0 (b0.k0 h0_3 q) (mem_keep q (b0.memA .t5)) (mem_keep q (b0.memA .t3)) (b0.k0 h1_0 q) (mem_keep q (b0.memA .t4)) a3 (mem_keep q (b0.memA .t2)) A0) fun X1 Y0=>?_
 obtain ⟨U0,F1⟩:=b0.agr Y0
 refine PN.callD (vs:=[]) (cap:=[vP s0,vP d0]) (bd 100) Tryz.func100 rfl rfl rfl fun q1 Z0 g1=>Ac<|RG.recover1 .plain Z0 rfl<|Af rfl<|Aa<|Ac<|Ae rfl<|Ab (FV.neqI Tryz.underlying20 rfl rfl)<|Aa<|Bk rfl<|Ac<|Ae rfl<|Ab (FV.assertT (by kernel_rfl) rfl)<|Ae rfl<|Ab (Ag rfl rfl)<|Ab (Ag rfl rfl)<|RG.nl [vI 0] U0 fun Y1 k1 V0 G1=>AQ [vI t0.fB] V0 .hd (o1 rfl) fun Z1 u0 H1=>Af rfl<|Aa<|Aj<|Ac<|Ae rfl<|Ab (Bp rfl)<|Aa<|BF rfl<|Au<|Ac<|Af rfl<|Aa<|du 3 fun c0 B0=>Rv 0 c0 rfl B0 (fun _=>Ai rfl)<|Rv 1 c0 rfl B0 (fun _=>Bb 0 rfl)<|RD.mo (α:=Unit) (fun ()=>[(1,vP d0),(19,vI t0.fB)]) (fun ()=>[.cells d0 [vI 0] 51,.cells s0 [.bool false] 4,.cells q0 (cs_Ta a3) 37,.cells p0 [vI a2] 3,.cells j0 [v1_0] 46,.cells g0 [vI a0.fe,vI a0.fh,vI a0.fj,v0_3] 44]) u0 1 15 ?_ ?_
 rintro ⟨⟩ b2 H0 u1
 try dsimp only
 refine BE 4 31 c0 rfl rfl .plain (AF (news:=[vI t0.fB]) H0 .hd rfl rfl rfl rfl rfl rfl (o1 rfl)) fun K1 x0 v1=>AN (dk c0)<|MX.fin rfl<|RT.leaveD1 g1 Tryz.func100 rfl .nil<|Am (u:=.tuple #[.bool false,vI t0.fB]) F0 Tryz.func44 rfl (.cons (.one (by kernel_rfl) rfl ((x0.memA .t1) 0 _ rfl)) (.cons (.one (by kernel_rfl) rfl ((x0.memA .hd) 0 _ rfl)) .nil)) rfl<|Ab (Ag rfl rfl)<|Ab (Ag rfl rfl)<|Af rfl<|Af rfl<|Aa<|Al rfl<|Am hb0 Tryz.func11 rfl (.cons (.tmp rfl) (.cons (.tmp rfl) .nil)) rfl ?_
 cases h
 exact x0.gv
 intro D0
 refine Bm [2,3] (rk c0) ⟨?_,?_,trivial⟩
 refine Bs (m' :=7) (sk c0) rfl .plain rfl (AL rfl ((u0.memA .hd) 0 _ rfl))<|BE 3 15 c0 rfl rfl .plain (AF (news:=[.bool false]) u0 .t2 rfl rfl rfl rfl rfl rfl (o1 rfl)) fun j1 v0 z0=>?_
 obtain ⟨I0,W0⟩:=AG v0 .d1
 exact D0 () I0 (Tt z0 W0)
 refine RO.now (m' :=11) (sk c0) rfl rfl .plain (AF (news:=[.bool false]) u0 .t2 rfl rfl rfl rfl rfl rfl (o1 rfl)) fun j1 v0 z0=>Rx 2 16 c0 rfl B0 (AL rfl ((v0.memA .hd) 0 _ rfl)) ?_
 obtain ⟨J0,X0⟩:=AG v0 .d1
 exact D0 () J0 (Tt z0 X0)
 refine RG.callq' (v:=.bool C0) (fst:=[]) (cap:=[vP g0,vP p0,vP j0,vP q0]) .plain (bd 45) rfl evs_nil (fun p q=>Bi (cy_c n (b0.hL0 hL q) a0 (b0.k0 h0_3 q) (mem_keep q (b0.memA .t5)) (mem_keep q (b0.memA .t3)) (b0.k0 h1_0 q) (mem_keep q (b0.memA .t4)) a3 (mem_keep q (b0.memA .t2)) A0)) rfl<|AQ [.bool C0] b0 .t1 (o1 rfl) fun M1 K0 x1=>AQ [vI 0] K0 .hd (o1 rfl) fun P1 y0 y1=>Aa<|Al rfl<|RT.callD (vs:=[]) (cap:=[vP s0,vP d0]) (bd 100) Tryz.func100 rfl rfl rfl fun p1 G0 b1=>Ac<|RG.recover0 .plain G0 rfl<|Af rfl<|Aa<|Ac<|Ae rfl<|Ab (FV.neqI0 Tryz.underlying20 rfl rfl)<|Aa<|BF rfl<|Au<|MX.fin rfl<|RT.leaveD0 G0 b1 Tryz.func100 rfl .nil<|Am (u:=.tuple #[.bool C0,vI 0]) F0 Tryz.func44 rfl (.cons (.one (by kernel_rfl) rfl ((y0.memA .t1) 0 _ rfl)) (.cons (.one (by kernel_rfl) rfl ((y0.memA .hd) 0 _ rfl)) .nil)) rfl<|Ab (Ag rfl rfl)<|Ab (Ag rfl rfl)<|Af rfl<|Af rfl<|Aa<|Al rfl<|Am hb0 Tryz.func11 rfl (.cons (.tmp rfl) (.cons (.tmp rfl) .nil)) rfl ?_
 cases h
 exact y0.gv
def dc_p (n:Nat) (a0:Td) (a1:Int) (a2:List Int):Option (Except Tg (List Int)):=
  (aB_p n a0 a1).bind fun y3=>exc y3 (fun d0=>(ao_p n d0 a2).bind fun g0=>exc g0 (fun j0=>some (.ok j0)) (fun c0=>some (.error c0))) (fun b0=>some (.error b0))
theorem dc_c (n:Nat) {L w} (hL:hl L w) (a0:Td) {v0_3:Value} (h0_3:Rep.R w L [v0_3] a0.fo) {p0:Nat} (m0:∀ j9 v9,([vI a0.fe,vI a0.fh,vI a0.fj,v0_3]:List Value)[j9]? = some v9 -> w.cell? ((⟨p0,0,none⟩:Addr).add j9) = some v9) {a1:Int} {p1:Nat} (m1:∀ j9 v9,([vI a1]:List Value)[j9]? = some v9 -> w.cell? ((⟨p1,0,none⟩:Addr).add j9) = some v9) {a2:List Int} {v2_0:Value} (h2_0:Rep.R w L [v2_0] a2) {p2:Nat} (m2:∀ j9 v9,([v2_0]:List Value)[j9]? = some v9 -> w.cell? ((⟨p2,0,none⟩:Addr).add j9) = some v9)  {r:Except Tg (List Int)} (h:dc_p n a0 a1 a2 = some r) :
 Cl 50 #[.pointer (some ⟨p0,0,none⟩),.pointer (some ⟨p1,0,none⟩),.pointer (some ⟨p2,0,none⟩)] w (PGives w (fun (y:List Int) w' u=>∃ v0_0:Value,u = v0_0/\Rep.R w' L [v0_0] y) (fun e=>.iface 120 (.agg #[vI e.fB])) r):=by
 unfold dc_p at h
 have hS0:=Az w
 refine MX.startP Tryz.func50 rfl rfl rfl fun _ cs0 hb0 hp0=>Ac<|Af rfl<|Aa<|Aj<|du 6 fun kt1 kp2=>Rx 0 52 kt1 rfl kp2 (AH rfl (fun j9 v9 h9=>hS0.ag.cell0 (m0 j9 v9 h9)))<|Rx 1 52 kt1 rfl kp2 (AL rfl ((fun j9 v9 h9=>hS0.ag.cell0 (m1 j9 v9 h9)) 0 _ rfl))<|xk h (fun z0 hy3 h=>?_) (fun j0 hy3 h=>?_)
 refine Rx 3 48 kt1 rfl kp2 (AL rfl ((fun j9 v9 h9=>hS0.ag.cell0 (m2 j9 v9 h9)) 0 _ rfl))<|Bf (i:=2) (rk kt1) (RO.callE (fst:=[]) (cap:=[]) rfl .plain (bd 38) rfl (e2 rfl rfl) (fun p q=>aB_c n (hS0.hL hL q) a0 (Aq h0_3 q) hy3) (fun I0 s0=>?_))
 obtain ⟨k0,B0⟩:=hS0.agr s0
 cases h
 exact Bl hp0 Tryz.func50 ⟨k0.ag,rfl⟩
 refine Rx 3 48 kt1 rfl kp2 (AL rfl ((fun j9 v9 h9=>hS0.ag.cell0 (m2 j9 v9 h9)) 0 _ rfl))<|Bn 2 15 kt1 rfl .plain (bd 38) rfl (e2 rfl rfl) (fun p q=>Bi (aB_c n (hS0.hL hL q) a0 (Aq h0_3 q) hy3)) rfl fun J0 H0 t0 ⟨F0,hu_,g0⟩=>?_
 subst hu_
 obtain ⟨b0,C0⟩:=hS0.agr t0
 refine xk h (fun A0 c0 h=>?_) (fun P0 c0 h=>?_)
 refine Bf (i:=4) (rk kt1) (RO.callE (fst:=[]) (cap:=[]) rfl .plain (bd 46) rfl (e2 rfl rfl) (fun p q=>ao_c n (b0.hL hL q) j0 (Aq g0 q) (b0.km h2_0 q) c0) (fun K0 u0=>?_))
 obtain ⟨q0,D0⟩:=b0.agr u0
 cases h
 exact Bl hp0 Tryz.func50 ⟨q0.ag,rfl⟩
 refine Bn 4 31 kt1 rfl .plain (bd 46) rfl (e2 rfl rfl) (fun p q=>Bi (ao_c n (b0.hL hL q) j0 (Aq g0 q) (b0.km h2_0 q) c0)) rfl fun M0 y0 v0 ⟨G0,hu_,x0⟩=>?_
 subst hu_
 obtain ⟨d0,E0⟩:=b0.agr v0
 refine Rv 5 kt1 rfl kp2 (fun _=>AV rfl)<|AN (dk kt1)<|Al rfl<|AW hb0 Tryz.func50 rfl rfl ?_
 cases h
 exact ⟨d0.ag,fun p q=>okOf_in ⟨y0,rfl,d0.kd x0 q⟩⟩
def dh_p (n:Nat) (a0:Td) (a1:List Int) (a2:Int):Option ((List Int) × Int):=
  (dc_p n a0 a2 a1).bind fun c0=>exc c0 (fun d0=>some (d0,(0:Int))) (fun b0=>some (([]:List Int),b0.fB))
theorem dh_c (n:Nat) {L w} (hL:hl L w) (a0:Td) {v0_3:Value} (h0_3:Rep.R w L [v0_3] a0.fo) {a1:List Int} {v1_0:Value} (h1_0:Rep.R w L [v1_0] a1) {a2:Int}  {r:(List Int) × Int} (h:dh_p n a0 a1 a2 = some r) :
 Cl 13 #[.agg #[vI a0.fe,vI a0.fh,vI a0.fj,v0_3],v1_0,vI a2] w (Gives w fun w' u=>∃ v0_0:Value,u = .tuple #[v0_0,vI r.2]/\Rep.R w' L [v0_0] r.1):=by
 unfold dh_p at h
 refine AD Tryz.func13 rfl rfl rfl fun _ cs0 hb0=>Ac<|RG.bx (Az w) rfl rfl fun M1 g0 D0 B1=>RG.bx D0 rfl (Rep.c1 (AS h1_0 D0)) fun V1 j0 M0 C1=>RG.bx M0 rfl rfl fun W1 k0 P0 D1=>Af rfl<|Af rfl<|Aa<|Ac<|Ab (BW (vs:=[]) (us:=[vP g0,vP k0,vP j0]) evs_nil (e3 rfl rfl rfl))<|BL (fst:=[]) (cap:=[]) (vs:=[.func (.func 50) #[] #[vP g0,vP k0,vP j0]]) .plain (bd 49) Tryz.func49 rfl rfl rfl rfl (e1 rfl) rfl fun x1 E0 J1=>Ac<|RG.nl [vN] P0 fun X1 p0 Q0 E1=>RG.nl [vI 0] Q0 fun Y1 d0 b0 F1=>Aa<|Ac<|Ab (BW (vs:=[]) (us:=[vP p0,vP d0]) evs_nil (e2 rfl rfl))<|RG.defer (fst:=[]) (cap:=[vP p0,vP d0]) (vs:=[]) rfl .plain rfl evs_nil<|Aa<|Ac<|Ae rfl<|xk h (fun s0 z0 h=>?_) (fun g2 z0 h=>?_)
 refine BH (fst:=[]) (cap:=[vP g0,vP k0,vP j0]) .plain (bd 50) rfl evs_nil (fun p q=>dc_c n (b0.hL hL q) a0 (b0.km h0_3 q) (mem_keep q (b0.memA .t4)) (mem_keep q (b0.memA .t2)) (b0.km h1_0 q) (mem_keep q (b0.memA .t3)) z0) fun Z1 b1=>?_
 obtain ⟨R0,G1⟩:=b0.agr b1
 refine PN.callD (vs:=[]) (cap:=[vP p0,vP d0]) (bd 102) Tryz.func102 rfl rfl rfl fun v1 g1 k1=>Ac<|RG.recover1 .plain g1 rfl<|Af rfl<|Aa<|Ac<|Ae rfl<|Ab (FV.neqI Tryz.underlying20 rfl rfl)<|Aa<|Bk rfl<|Ac<|Ae rfl<|Ab (FV.assertT (by kernel_rfl) rfl)<|Ae rfl<|Ab (Ag rfl rfl)<|Ab (Ag rfl rfl)<|RG.nl [vI 0] R0 fun b2 s1 U0 H1=>AQ [vI s0.fB] U0 .hd (o1 rfl) fun c2 u0 I1=>Af rfl<|Aa<|Aj<|Ac<|Ae rfl<|Ab (Bp rfl)<|Aa<|BF rfl<|Au<|Ac<|Af rfl<|Aa<|du 3 fun c0 A0=>Rv 0 c0 rfl A0 (fun _=>Ai rfl)<|Rv 1 c0 rfl A0 (fun _=>Bb 0 rfl)<|RD.mo (α:=Unit) (fun ()=>[(1,vP d0),(19,vI s0.fB)]) (fun ()=>[.cells d0 [vI 0] 51,.cells p0 [vN] 45,.cells k0 [vI a2] 3,.cells j0 [v1_0] 46,.cells g0 [vI a0.fe,vI a0.fh,vI a0.fj,v0_3] 44]) u0 1 15 ?_ ?_
 rintro ⟨⟩ d2 G0 y1
 try dsimp only
 refine BE 4 31 c0 rfl rfl .plain (AF (news:=[vI s0.fB]) G0 .hd rfl rfl rfl rfl rfl rfl (o1 rfl)) fun P1 q0 z1=>AN (dk c0)<|MX.fin rfl<|RT.leaveD1 k1 Tryz.func102 rfl .nil<|Am (u:=.tuple #[vN,vI s0.fB]) E0 Tryz.func49 rfl (.cons (.one (by kernel_rfl) rfl ((q0.memA .t1) 0 _ rfl)) (.cons (.one (by kernel_rfl) rfl ((q0.memA .hd) 0 _ rfl)) .nil)) rfl<|Ab (Ag rfl rfl)<|Ab (Ag rfl rfl)<|Af rfl<|Af rfl<|Aa<|Al rfl ?_
 have p1:=Rep.nilAt (α:=Int) q0 L
 refine Am hb0 Tryz.func13 rfl (.cons (.tmp rfl) (.cons (.tmp rfl) .nil)) rfl ?_
 cases h
 exact ⟨q0.ag,fun p q=>⟨vN,rfl,q0.kd p1 q⟩⟩
 intro C0
 refine Bm [2,3] (rk c0) ⟨?_,?_,trivial⟩
 refine Bs (m' :=7) (sk c0) rfl .plain rfl (AL rfl ((u0.memA .hd) 0 _ rfl))<|BE 3 15 c0 rfl rfl .plain (AF (news:=[vN]) u0 .t2 rfl rfl rfl rfl rfl rfl (o1 rfl)) fun q1 v0 x0=>?_
 obtain ⟨H0,V0⟩:=AG v0 .d1
 exact C0 () H0 (Tt x0 V0)
 refine RO.now (m' :=11) (sk c0) rfl rfl .plain (AF (news:=[vN]) u0 .t2 rfl rfl rfl rfl rfl rfl (o1 rfl)) fun q1 v0 x0=>Rx 2 16 c0 rfl A0 (AL rfl ((v0.memA .hd) 0 _ rfl)) ?_
 obtain ⟨I0,W0⟩:=AG v0 .d1
 exact C0 () I0 (Tt x0 W0)
 refine AX (fst:=[]) (cap:=[vP g0,vP k0,vP j0]) .plain (bd 50) rfl evs_nil (fun p q=>Bi (dc_c n (b0.hL hL q) a0 (b0.km h0_3 q) (mem_keep q (b0.memA .t4)) (mem_keep q (b0.memA .t2)) (b0.km h1_0 q) (mem_keep q (b0.memA .t3)) z0)) rfl fun Q1 B0 Z0 ⟨K1,hu_,y0⟩=>?_
 subst hu_
 obtain ⟨J0,A1⟩:=b0.agr Z0
 refine RG.now .plain (AF (news:=[B0]) J0 .t1 rfl rfl rfl (Rep.c1 y0) rfl rfl (o1 (AO y0))) fun R1 K0 X0=>AQ [vI 0] K0 .hd (o1 rfl) fun U1 t0 Y0=>Aa<|Al rfl<|RT.callD (vs:=[]) (cap:=[vP p0,vP d0]) (bd 102) Tryz.func102 rfl rfl rfl fun u1 F0 j1=>Ac<|RG.recover0 .plain F0 rfl<|Af rfl<|Aa<|Ac<|Ae rfl<|Ab (FV.neqI0 Tryz.underlying20 rfl rfl)<|Aa<|BF rfl<|Au<|MX.fin rfl<|RT.leaveD0 F0 j1 Tryz.func102 rfl .nil<|Am (u:=.tuple #[B0,vI 0]) E0 Tryz.func49 rfl (.cons (.one (by kernel_rfl) rfl ((t0.memA .t1) 0 _ rfl)) (.cons (.one (by kernel_rfl) rfl ((t0.memA .hd) 0 _ rfl)) .nil)) rfl<|Ab (Ag rfl rfl)<|Ab (Ag rfl rfl)<|Af rfl<|Af rfl<|Aa<|Al rfl<|Am hb0 Tryz.func13 rfl (.cons (.tmp rfl) (.cons (.tmp rfl) .nil)) rfl ?_
 cases h
 exact ⟨t0.ag,fun p q=>⟨B0,rfl,t0.kd (Ao y0 (Tt X0 Y0)) q⟩⟩
def dm_p (n:Nat) (a0:Td) (a1:Int):Option (Except Tg Ta):=
  (aB_p n a0 a1).bind fun d0=>exc d0 (fun g0=>(ay_p n g0).bind fun j0=>(aT_p n j0 a1).bind fun k0=>exc k0 (fun p0=>some (.ok p0)) (fun c0=>some (.error c0))) (fun b0=>some (.error b0))
theorem dm_c (n:Nat) {L w} (hL:hl L w) (a0:Td) {v0_3:Value} (h0_3:Rep.R w L [v0_3] a0.fo) {p0:Nat} (m0:∀ j9 v9,([vI a0.fe,vI a0.fh,vI a0.fj,v0_3]:List Value)[j9]? = some v9 -> w.cell? ((⟨p0,0,none⟩:Addr).add j9) = some v9) {a1:Int} {p1:Nat} (m1:∀ j9 v9,([vI a1]:List Value)[j9]? = some v9 -> w.cell? ((⟨p1,0,none⟩:Addr).add j9) = some v9)  {r:Except Tg Ta} (h:dm_p n a0 a1 = some r) :
 Cl 52 #[.pointer (some ⟨p0,0,none⟩),.pointer (some ⟨p1,0,none⟩)] w (PGives w (fun (y:Ta) _ u=>u = .agg ((cs_Ta y)).toArray) (fun e=>.iface 120 (.agg #[vI e.fB])) r):=by
 unfold dm_p at h
 refine MX.startP Tryz.func52 rfl rfl rfl fun _ cs0 hb0 hp0=>Ac<|RG.nl zL (Az w) fun Q0 D0 c0 G0=>Aa<|Aj<|du 6 fun b0 g0=>Rx 0 108 b0 rfl g0 (AH rfl (fun j9 v9 h9=>c0.ag.cell0 (m0 j9 v9 h9)))<|Rx 1 108 b0 rfl g0 (AL rfl ((fun j9 v9 h9=>c0.ag.cell0 (m1 j9 v9 h9)) 0 _ rfl))<|xk h (fun E0 j0 h=>?_) (fun B0 j0 h=>?_)
 refine Rx 4 96 b0 rfl g0 (AL rfl ((fun j9 v9 h9=>c0.ag.cell0 (m1 j9 v9 h9)) 0 _ rfl))<|Bf (i:=2) (rk b0) (RO.callE (fst:=[]) (cap:=[]) rfl .plain (bd 38) rfl (e2 rfl rfl) (fun p q=>aB_c n (c0.hL hL q) a0 (c0.km h0_3 q) j0) (fun R0 v0=>?_))
 obtain ⟨t0,H0⟩:=c0.agr v0
 cases h
 exact Bl hp0 Tryz.func52 ⟨t0.ag,rfl⟩
 refine Rx 4 96 b0 rfl g0 (AL rfl ((fun j9 v9 h9=>c0.ag.cell0 (m1 j9 v9 h9)) 0 _ rfl))<|Bn 2 23 b0 rfl .plain (bd 38) rfl (e2 rfl rfl) (fun p q=>Bi (aB_c n (c0.hL hL q) a0 (c0.km h0_3 q) j0)) rfl fun U0 P0 x0 ⟨M0,hu_,z0⟩=>?_
 subst hu_
 obtain ⟨d0,I0⟩:=c0.agr x0
 refine bk h fun C0 A0 h=>BO 3 31 96 (vI C0) b0 rfl g0 (bd 54) rfl (e1 rfl) (fun p q=>ay_c n (d0.hL0 hL q) B0 (d0.kd z0 q) A0) rfl<|xk h (fun F0 k0 h=>?_) (fun q0 k0 h=>?_)
 refine Bf (i:=5) (rk b0) (RO.callE (fst:=[]) (cap:=[]) rfl .plain (bd 53) rfl (e2 rfl rfl) (fun p q=>aT_c n (d0.hL0 hL q)  k0) (fun V0 y0=>?_))
 obtain ⟨u0,J0⟩:=d0.agr y0
 cases h
 exact Bl hp0 Tryz.func52 ⟨u0.ag,rfl⟩
 refine BO 5 63 64 (.agg ((cs_Ta q0)).toArray) b0 rfl g0 (bd 53) rfl (e2 rfl rfl) (fun p q=>Bi (aT_c n (d0.hL0 hL q)  k0)) rfl<|BE 6 127 b0 rfl rfl .plain (AF (news:=(cs_Ta q0)) d0 .hd rfl rfl rfl rfl rfl rfl (onesB rfl)) fun W0 s0 K0=>AN (dk b0)<|Al rfl<|Am hb0 Tryz.func52 rfl (.cons (.many (cs:=(cs_Ta q0)) (by kernel_rfl) rfl (s0.memA .hd)) .nil) rfl ?_
 cases h
 exact ⟨s0.ag,fun p q=>okOf_in rfl⟩
def dK_p (n:Nat) (a0:Td) (a1:Int):Option (Ta × Int):=
  (dm_p n a0 a1).bind fun c0=>exc c0 (fun d0=>some (d0,(0:Int))) (fun b0=>some ((⟨((0:UInt64),(0:UInt64),(0:UInt64),(0:UInt64),(0:UInt64),(0:UInt64),(0:UInt64),(0:UInt64)),((0:UInt64),(0:UInt64),(0:UInt64),(0:UInt64),(0:UInt64),(0:UInt64),(0:UInt64),(0:UInt64))⟩:Ta),b0.fB))
theorem dK_c (n:Nat) {L w} (hL:hl L w) (a0:Td) {v0_3:Value} (h0_3:Rep.R w L [v0_3] a0.fo) {a1:Int}  {r:Ta × Int} (h:dK_p n a0 a1 = some r) :
 Cl 15 #[.agg #[vI a0.fe,vI a0.fh,vI a0.fj,v0_3],vI a1] w (Gives w fun _ u=>u = .tuple #[.agg ((cs_Ta r.1)).toArray,vI r.2]):=by
 unfold dK_p at h
 refine AD Tryz.func15 rfl rfl rfl fun _ cs0 hb0=>Ac<|RG.bx (Az w) rfl rfl fun M1 j0 H0 B1=>RG.bx H0 rfl rfl fun W1 p0 P0 C1=>RG.nl zL P0 fun X1 G0 Q0 D1=>Af rfl<|Aa<|Ac<|Ab (BW (vs:=[]) (us:=[vP j0,vP p0]) evs_nil (e2 rfl rfl))<|BL (fst:=[]) (cap:=[]) (vs:=[.func (.func 52) #[] #[vP j0,vP p0]]) .plain (bd 51) Tryz.func51 rfl rfl rfl rfl (e1 rfl) rfl fun s1 E0 K1=>Ac<|RG.nl zL Q0 fun Y1 q0 R0 E1=>RG.nl [vI 0] R0 fun Z1 d0 b0 F1=>Aa<|Ac<|Ab (BW (vs:=[]) (us:=[vP q0,vP d0]) evs_nil (e2 rfl rfl))<|RG.defer (fst:=[]) (cap:=[vP q0,vP d0]) (vs:=[]) rfl .plain rfl evs_nil<|Aa<|Ac<|Ae rfl<|xk h (fun t0 z0 h=>?_) (fun g0 z0 h=>?_)
 refine BH (fst:=[]) (cap:=[vP j0,vP p0]) .plain (bd 52) rfl evs_nil (fun p q=>dm_c n (b0.hL0 hL q) a0 (b0.k0 h0_3 q) (mem_keep q (b0.memA .t4)) (mem_keep q (b0.memA .t3)) z0) fun b2 Z0=>?_
 obtain ⟨U0,G1⟩:=b0.agr Z0
 refine PN.callD (vs:=[]) (cap:=[vP q0,vP d0]) (bd 103) Tryz.func103 rfl rfl rfl fun q1 b1 d1=>Ac<|RG.recover1 .plain b1 rfl<|Af rfl<|Aa<|Ac<|Ae rfl<|Ab (FV.neqI Tryz.underlying20 rfl rfl)<|Aa<|Bk rfl<|Ac<|Ae rfl<|Ab (FV.assertT (by kernel_rfl) rfl)<|Ae rfl<|Ab (Ag rfl rfl)<|Ab (Ag rfl rfl)<|RG.nl [vI 0] U0 fun c2 j1 V0 H1=>AQ [vI t0.fB] V0 .hd (o1 rfl) fun g2 W0 I1=>Af rfl<|Aa<|Aj<|Ac<|Ae rfl<|Ab (Bp rfl)<|Aa<|BF rfl<|Au<|Ac<|RG.nl zL W0 fun j2 k1 s0 J1=>Aa<|du 3 fun c0 A0=>Rx 0 24 c0 rfl A0 (AH rfl (s0.memA .hd))<|Rv 1 c0 rfl A0 (fun _=>Bb 0 rfl)<|RD.mo (α:=Unit) (fun ()=>[(1,vP d0),(19,vI t0.fB)]) (fun ()=>[.cells d0 [vI 0] 51,.cells q0 zL 37,.cells G0 zL 37,.cells p0 [vI a1] 3,.cells j0 [vI a0.fe,vI a0.fh,vI a0.fj,v0_3] 44]) s0 1 15 ?_ ?_
 rintro ⟨⟩ k2 I0 u1
 try dsimp only
 refine BE 4 31 c0 rfl rfl .plain (AF (news:=[vI t0.fB]) I0 .hd rfl rfl rfl rfl rfl rfl (o1 rfl)) fun P1 v0 v1=>AN (dk c0)<|MX.fin rfl<|RT.leaveD1 d1 Tryz.func103 rfl .nil<|Am (u:=.tuple #[.agg zM,vI t0.fB]) E0 Tryz.func51 rfl (.cons (.many (cs:=zL) (by kernel_rfl) rfl (v0.memA .t1)) (.cons (.one (by kernel_rfl) rfl ((v0.memA .hd) 0 _ rfl)) .nil)) rfl<|Ab (Ag rfl rfl)<|Ab (Ag rfl rfl)<|AQ zL v0 .t2 (onesB rfl) fun Q1 C0 x1=>Af rfl<|Aa<|Al rfl<|Am hb0 Tryz.func15 rfl (.cons (.many (cs:=zL) (by kernel_rfl) rfl (C0.memA .t2)) (.cons (.tmp rfl) .nil)) rfl ?_
 cases h
 exact C0.gv
 intro B0
 refine Bm [2,3] (rk c0) ⟨?_,?_,trivial⟩
 refine Bs (m' :=7) (sk c0) rfl .plain rfl (AL rfl ((s0.memA .t1) 0 _ rfl))<|BE 3 15 c0 rfl rfl .plain (AF (news:=zL) s0 .t3 rfl rfl rfl rfl rfl rfl (onesB rfl)) fun g1 u0 y0=>?_
 obtain ⟨J0,X0⟩:=AG u0 .d2
 exact B0 () J0 (Tt y0 X0)
 refine RO.now (m' :=11) (sk c0) rfl rfl .plain (AF (news:=zL) s0 .t3 rfl rfl rfl rfl rfl rfl (onesB rfl)) fun g1 u0 y0=>Rx 2 16 c0 rfl A0 (AL rfl ((u0.memA .t1) 0 _ rfl)) ?_
 obtain ⟨K0,Y0⟩:=AG u0 .d2
 exact B0 () K0 (Tt y0 Y0)
 refine RG.callq' (v:=.agg ((cs_Ta g0)).toArray) (fst:=[]) (cap:=[vP j0,vP p0]) .plain (bd 52) rfl evs_nil (fun p q=>Bi (dm_c n (b0.hL0 hL q) a0 (b0.k0 h0_3 q) (mem_keep q (b0.memA .t4)) (mem_keep q (b0.memA .t3)) z0)) rfl<|AQ (cs_Ta g0) b0 .t1 (onesB rfl) fun R1 M0 y1=>AQ [vI 0] M0 .hd (o1 rfl) fun U1 x0 z1=>Aa<|Al rfl<|RT.callD (vs:=[]) (cap:=[vP q0,vP d0]) (bd 103) Tryz.func103 rfl rfl rfl fun p1 F0 c1=>Ac<|RG.recover0 .plain F0 rfl<|Af rfl<|Aa<|Ac<|Ae rfl<|Ab (FV.neqI0 Tryz.underlying20 rfl rfl)<|Aa<|BF rfl<|Au<|MX.fin rfl<|RT.leaveD0 F0 c1 Tryz.func103 rfl .nil<|Am (u:=.tuple #[.agg ((cs_Ta g0)).toArray,vI 0]) E0 Tryz.func51 rfl (.cons (.many (cs:=(cs_Ta g0)) (by kernel_rfl) rfl (x0.memA .t1)) (.cons (.one (by kernel_rfl) rfl ((x0.memA .hd) 0 _ rfl)) .nil)) rfl<|Ab (Ag rfl rfl)<|Ab (Ag rfl rfl)<|AQ (cs_Ta g0) x0 .t2 (onesB rfl) fun V1 D0 A1=>Af rfl<|Aa<|Al rfl<|Am hb0 Tryz.func15 rfl (.cons (.many (cs:=(cs_Ta g0)) (by kernel_rfl) rfl (D0.memA .t2)) (.cons (.tmp rfl) .nil)) rfl ?_
 cases h
 exact D0.gv
def cR_p (n:Nat) (a0:Th) (a1:Th):Option Th:=
  (aV_p n a0.fy a1.ft).bind fun b0=>(aV_p n a0.ft a1.fy).bind fun c0=>(ci_p n b0 c0).bind fun d0=>some d0
theorem cR_c (n:Nat) {L w} (hL:hl L w) (a0:Th) {v0_1:Value} (h0_1:Rep.R w L [v0_1] a0.fy.fm) {v0_3:Value} (h0_3:Rep.R w L [v0_3] a0.ft.fm) (a1:Th) {v1_1:Value} (h1_1:Rep.R w L [v1_1] a1.fy.fm) {v1_3:Value} (h1_3:Rep.R w L [v1_3] a1.ft.fm)  {r:Th} (h:cR_p n a0 a1 = some r) :
 Cl 110 #[.agg #[.bool a0.fy.fc,v0_1,.bool a0.ft.fc,v0_3],.agg #[.bool a1.fy.fc,v1_1,.bool a1.ft.fc,v1_3]] w (Gives w fun w' u=>∃ v0_1 v0_3:Value,u = .agg #[.bool r.fy.fc,v0_1,.bool r.ft.fc,v0_3]/\Rep.R w' L [v0_1] r.fy.fm/\Rep.R w' L [v0_3] r.ft.fm):=by
 unfold cR_p at h
 refine AD Tryz.func110 rfl rfl rfl fun _ cs0 hb0=>Ac<|RG.bx (Az w) rfl rfl fun g1 M0 x0 R0=>RG.bx x0 rfl rfl fun j1 P0 y0 U0=>RG.nl [.bool false,vN,.bool false,vN] y0 fun k1 Q0 c0 V0=>Aa<|Aj<|du 11 fun b0 d0=>Rv 0 b0 rfl d0 (fun _=>Bb 0 rfl)<|Rx 1 3600 b0 rfl d0 (Bc (cs:=[.bool a0.fy.fc,v0_1]) (by kernel_rfl) rfl (mem_part (c0.memA .t2) 0 2))<|Rv 2 b0 rfl d0 (fun _=>Bb 2 rfl)<|Rx 3 3600 b0 rfl d0 (Bc (cs:=[.bool a1.ft.fc,v1_3]) (by kernel_rfl) rfl (mem_part (c0.memA .t1) 2 2))<|Rv 5 b0 rfl d0 (fun _=>Bb 2 rfl)<|Rx 6 3584 b0 rfl d0 (Bc (cs:=[.bool a0.ft.fc,v0_3]) (by kernel_rfl) rfl (mem_part (c0.memA .t2) 2 2))<|Rv 7 b0 rfl d0 (fun _=>Bb 0 rfl)<|Rx 8 3584 b0 rfl d0 (Bc (cs:=[.bool a1.fy.fc,v1_1]) (by kernel_rfl) rfl (mem_part (c0.memA .t1) 0 2))<|bk h fun J0 G0 h=>Bn 4 511 b0 rfl .plain (bd 150) rfl (e2 rfl rfl) (fun p q=>aV_c n (c0.hL hL q) a0.fy (c0.km h0_1 q) a1.ft (c0.km h1_3 q) G0) rfl fun p1 b1 B0 ⟨Y0,hu_,E0⟩=>?_
 subst hu_
 obtain ⟨g0,W0⟩:=c0.agr B0
 refine bk h fun K0 H0 h=>Bn 9 1023 b0 rfl .plain (bd 150) rfl (e2 rfl rfl) (fun p q=>aV_c n (g0.hL hL q) a0.ft (g0.km h0_3 q) a1.fy (g0.km h1_1 q) H0) rfl fun q1 c1 C0 ⟨Z0,hu_,F0⟩=>?_
 subst hu_
 obtain ⟨s0,A0⟩:=g0.agr C0
 refine bk h fun k0 I0 h=>Bn 10 2047 b0 rfl .plain (bd 149) rfl (e2 rfl rfl) (fun p q=>ci_c n (s0.hL hL q) J0 (Aq (Ao E0 A0) q) K0 (Aq F0 q) I0) rfl fun s1 d1 D0 ⟨p0,q0,hu_,u0,v0⟩=>?_
 subst hu_
 obtain ⟨z0,X0⟩:=s0.agr D0
 refine BE 11 4095 b0 rfl rfl .plain (AF (news:=[.bool k0.fy.fc,p0,.bool k0.ft.fc,q0]) z0 .hd rfl rfl rfl rfl rfl rfl (o4 rfl (AO u0) rfl (AO v0))) fun u1 j0 t0=>AN (dk b0)<|Al rfl<|Am hb0 Tryz.func110 rfl (.cons (.many (cs:=[.bool k0.fy.fc,p0,.bool k0.ft.fc,q0]) (by kernel_rfl) rfl (j0.memA .hd)) .nil) rfl ?_
 cases h
 exact ⟨j0.ag,fun p q=>⟨p0,q0,rfl,j0.kd (Ao u0 t0) q,j0.kd (Ao v0 t0) q⟩⟩
def dQ_p (n:Nat) (a0:Ta) (a1:Ta):Option (Ta × Int):=
  (aD_p n ([a0,a1]:List Ta)).bind fun s0=>(if s0 = true then (if a1.fN = ((0:UInt64),(0:UInt64),(0:UInt64),(0:UInt64),(0:UInt64),(0:UInt64),(0:UInt64),(0:UInt64)) then some ((⟨((0:UInt64),(0:UInt64),(0:UInt64),(0:UInt64),(0:UInt64),(0:UInt64),(0:UInt64),(0:UInt64)),((0:UInt64),(0:UInt64),(0:UInt64),(0:UInt64),(0:UInt64),(0:UInt64),(0:UInt64),(0:UInt64))⟩:Ta),(7:Int)) else (aD_p n ([a0,a1]:List Ta)).bind fun t0=>(if t0 = true then (aF_p n a0).bind fun u0=>(aF_p n a1).bind fun v0=>(cR_p n u0 v0).bind fun x0=>(bB_p n x0 (0:Int)).bind fun b0=>some (b0.1,b0.2) else (bB_p n (⟨(⟨false,([]:List UInt64)⟩:Te),(⟨false,([]:List UInt64)⟩:Te)⟩:Th) (20:Int)).bind fun c0=>some (c0.1,c0.2))) else (aD_p n ([a0,a1]:List Ta)).bind fun j0=>(if j0 = true then (aF_p n a0).bind fun k0=>(aF_p n a1).bind fun p0=>(cR_p n k0 p0).bind fun q0=>(bB_p n q0 (0:Int)).bind fun d0=>some (d0.1,d0.2) else (bB_p n (⟨(⟨false,([]:List UInt64)⟩:Te),(⟨false,([]:List UInt64)⟩:Te)⟩:Th) (20:Int)).bind fun g0=>some (g0.1,g0.2)))
theorem dQ_c (n:Nat) {L w} (hL:hl L w) (a0:Ta) (a1:Ta)  {r:Ta × Int} (h:dQ_p n a0 a1 = some r) :
 Cl 65 #[.agg ((cs_Ta a0)).toArray,.agg ((cs_Ta a1)).toArray] w (Gives w fun _ u=>u = .tuple #[.agg ((cs_Ta r.1)).toArray,vI r.2]):=by
 unfold dQ_p at h
 refine AD Tryz.func65 rfl rfl rfl fun _ cs0 hb0=>Ac<|RG.bx (Az w) rfl rfl fun t4 K2 z1 q3=>RG.bx z1 rfl rfl fun D4 P2 C1 y3=>RG.nl zL C1 fun K4 R2 B0 D3=>Af rfl<|Aa<|Aj<|Ac<|Ab (AH rfl (B0.memA .t2))<|Ab (AH rfl (B0.memA .t1))<|Ak .plain rfl (AK (α:=Ta) (xs:=([a0,a1]:List Ta)) (vs:=[.agg ((cs_Ta a0)).toArray,.agg ((cs_Ta a1)).toArray]) (ds' :=(cs_Ta a0 ++ cs_Ta a1)) rfl B0 el63 rfl (e2 rfl rfl) (by kernel_rfl) rfl) fun M4 U2 b0 E3=>bk h fun C2 s2 h=>Ba (.bool C2) (bd 107) rfl (e1 rfl) (fun p q=>aD_c n (b0.hL0 hL q) (Aq (St.lend (α:=Ta) (L:=L) b0 .hd (AB (cs:=(cs_Ta a0 ++ cs_Ta a1)) (xs:=(([a0,a1]:List Ta):List Ta)) b0 L (Ar (cs:=(cs_Ta a0)) (ds:=(cs_Ta a1)) (mk_Ta a0.fN a0.fD) (Ar (cs:=(cs_Ta a1)) (ds:=[]) (mk_Ta a1.fN a1.fD) (AJ _ _)))) hL) q) s2) rfl<|Ae rfl<|RG.ifb (s:=10) rfl h (fun v1 h=>?_) (fun v1 h=>?_)
 refine RG.fg 0 rfl<|AE (Bc (cs:=(cs_A34 a1.fN)) (by kernel_rfl) rfl (mem_part (b0.memA .t2) 0 8))<|AE (AU (vs:=[]) (u:=.agg zQ) evs_nil (fun p=>by kernel_rfl))<|AE (FV.eqlV (v:=.agg ((cs_A34 a1.fN)).toArray) (u:=.agg zQ) rfl rfl (eqlD_35 a1.fN ((0:UInt64),(0:UInt64),(0:UInt64),(0:UInt64),(0:UInt64),(0:UInt64),(0:UInt64),(0:UInt64))))<|Bh rfl rfl<|Aa<|AT rfl h (fun x1 h=>?_) (fun x1 h=>?_)
 refine Ac<|Ab (AU (vs:=[]) (u:=.agg zM) evs_nil (fun p=>by kernel_rfl))<|AQ zL b0 .t1 (onesB rfl) fun P4 W0 F3=>Af rfl<|Aa<|Al rfl<|Am hb0 Tryz.func65 rfl (.cons (.many (cs:=zL) (by kernel_rfl) rfl (W0.memA .t1)) (.cons (.tmp rfl) .nil)) rfl ?_
 cases h
 exact W0.gv
 refine Au<|Ac<|Ab (AH rfl (b0.memA .t3))<|Ab (AH rfl (b0.memA .t2))<|BL (fst:=[]) (cap:=[]) (vs:=[.agg ((cs_Ta a0)).toArray,.agg ((cs_Ta a1)).toArray,.func (.func 110) #[] #[]]) .plain (bd 109) Tryz.func109 rfl rfl rfl rfl (e3 rfl rfl rfl) rfl fun b3 j1 Q3=>Ac<|RG.bx b0 rfl rfl fun Q4 V2 E1 G3=>RG.bx E1 rfl rfl fun R4 W2 F1 H3=>RG.nl [.bool false,vN,.bool false,vN] F1 fun U4 X2 C0 I3=>Af rfl<|Aa<|Aj<|Ac<|Ab (AH rfl (C0.memA .t2))<|Ab (AH rfl (C0.memA .t1))<|Ak .plain rfl (AK (α:=Ta) (xs:=([a0,a1]:List Ta)) (vs:=[.agg ((cs_Ta a0)).toArray,.agg ((cs_Ta a1)).toArray]) (ds' :=(cs_Ta a0 ++ cs_Ta a1)) rfl C0 el63 rfl (e2 rfl rfl) (by kernel_rfl) rfl) fun V4 Y2 j0 J3=>bk h fun D2 u2 h=>Ba (.bool D2) (bd 107) rfl (e1 rfl) (fun p q=>aD_c n (j0.hL0 hL q) (Aq (St.lend (α:=Ta) (L:=L) j0 .hd (AB (cs:=(cs_Ta a0 ++ cs_Ta a1)) (xs:=(([a0,a1]:List Ta):List Ta)) j0 L (Ar (cs:=(cs_Ta a0)) (ds:=(cs_Ta a1)) (mk_Ta a0.fN a0.fD) (Ar (cs:=(cs_Ta a1)) (ds:=[]) (mk_Ta a1.fN a1.fD) (AJ _ _)))) hL) q) u2) rfl<|Ab (Bp rfl)<|Aa<|BU rfl h (fun y1 h=>?_) (fun y1 h=>?_)
 refine Au<|Aj<|du 6 fun d0 E0=>Rv 0 d0 rfl E0 (fun _=>Ai rfl)<|Rx 1 244 d0 rfl E0 (AH rfl (j0.memA .t3))<|Rx 3 240 d0 rfl E0 (AH rfl (j0.memA .t2))<|bk h fun E2 v2 h=>Bn 2 15 d0 rfl .plain (bd 148) rfl (e1 rfl) (fun p q=>aF_c n (j0.hL hL q) a0 v2) rfl fun W4 j4 K1 ⟨X3,Y3,hu_,W1,X1⟩=>?_
 subst hu_
 obtain ⟨X0,K3⟩:=j0.agr K1
 refine bk h fun F2 x2 h=>Bn 4 31 d0 rfl .plain (bd 148) rfl (e1 rfl) (fun p q=>aF_c n (X0.hL hL q) a1 x2) rfl fun X4 k4 M1 ⟨Z3,b4,hu_,Y1,Z1⟩=>?_
 subst hu_
 obtain ⟨Y0,c1⟩:=X0.agr M1
 refine bk h fun p0 y2 h=>Bn 5 63 d0 rfl .plain (bd 110) rfl (e2 rfl rfl) (fun p q=>cR_c n (Y0.hL hL q) E2 (Aq (Ao W1 c1) q) (Aq (Ao X1 c1) q) F2 (Aq Y1 q) (Aq Z1 q) y2) rfl fun Y4 p4 P1 ⟨H0,I0,hu_,q1,s1⟩=>?_
 subst hu_
 obtain ⟨G1,M3⟩:=Y0.agr P1
 refine BE 6 127 d0 rfl rfl .plain (AF (news:=[.bool p0.fy.fc,H0,.bool p0.ft.fc,I0]) G1 .t1 rfl rfl rfl rfl rfl rfl (o4 rfl (AO q1) rfl (AO s1))) fun Z4 s0 d1=>Bf (i:=7) (rk d0) (Bs (m' :=255) (sk d0) rfl .plain rfl (AV rfl) ?_)
 refine AN (dk d0)<|Al rfl<|Am (u:=.tuple #[.agg #[.bool p0.fy.fc,H0,.bool p0.ft.fc,I0],vI 0]) j1 Tryz.func109 rfl (.cons (.many (cs:=[.bool p0.fy.fc,H0,.bool p0.ft.fc,I0]) (by kernel_rfl) rfl (s0.memA .t1)) (.cons (.tmp rfl) .nil)) rfl<|Ab (Ag rfl rfl)<|Ab (Ag rfl rfl)<|bk h fun t0 b2 h=>Ba (.tuple #[.agg ((cs_Ta t0.1)).toArray,vI t0.2]) (bd 108) rfl (e2 rfl rfl) (fun p q=>bB_c n (s0.hL0 hL q) p0 (s0.kd (Ao q1 d1) q) (s0.kd (Ao s1 d1) q) b2) rfl<|Ab (Ag rfl rfl)<|Ab (Ag rfl rfl)<|AQ (cs_Ta t0.1) s0 .t5 (onesB rfl) fun q4 J0 c3=>Af rfl<|Aa<|Al rfl<|Am hb0 Tryz.func65 rfl (.cons (.many (cs:=(cs_Ta t0.1)) (by kernel_rfl) rfl (J0.memA .t5)) (.cons (.tmp rfl) .nil)) rfl ?_
 cases h
 exact J0.gv
 refine Ac<|RG.nl [.bool false,vN,.bool false,vN] j0 fun s4 G2 K0 d3=>Aa<|Ac<|Ab (AH rfl (K0.memA .hd))<|AQ [.bool false,vN,.bool false,vN] K0 .t2 (onesB rfl) fun u4 y0 g3=>Af rfl<|Aa<|Al rfl<|Am (u:=.tuple #[.agg #[.bool false,vN,.bool false,vN],vI 20]) j1 Tryz.func109 rfl (.cons (.many (cs:=[.bool false,vN,.bool false,vN]) (by kernel_rfl) rfl (y0.memA .t2)) (.cons (.tmp rfl) .nil)) rfl<|Ab (Ag rfl rfl)<|Ab (Ag rfl rfl)<|bk h fun u0 c2 h=>Ba (.tuple #[.agg ((cs_Ta u0.1)).toArray,vI u0.2]) (bd 108) rfl (e2 rfl rfl) (fun p q=>bB_c n (y0.hL0 hL q) (⟨(⟨false,([]:List UInt64)⟩:Te),(⟨false,([]:List UInt64)⟩:Te)⟩:Th) (Aq (Rep.nilSlice _ _) q) (Aq (Rep.nilSlice _ _) q) c2) rfl<|Ab (Ag rfl rfl)<|Ab (Ag rfl rfl)<|AQ (cs_Ta u0.1) y0 .t6 (onesB rfl) fun v4 M0 j3=>Af rfl<|Aa<|Al rfl<|Am hb0 Tryz.func65 rfl (.cons (.many (cs:=(cs_Ta u0.1)) (by kernel_rfl) rfl (M0.memA .t6)) (.cons (.tmp rfl) .nil)) rfl ?_
 cases h
 exact M0.gv
 refine Ap<|Ap<|Ap<|Ap<|Bv rfl rfl<|Aa<|BF rfl<|Au<|Ac<|Ab (AH rfl (b0.memA .t3))<|Ab (AH rfl (b0.memA .t2))<|BL (fst:=[]) (cap:=[]) (vs:=[.agg ((cs_Ta a0)).toArray,.agg ((cs_Ta a1)).toArray,.func (.func 110) #[] #[]]) .plain (bd 109) Tryz.func109 rfl rfl rfl rfl (e3 rfl rfl rfl) rfl fun Z2 g1 P3=>Ac<|RG.bx b0 rfl rfl fun x4 H2 A1 k3=>RG.bx A1 rfl rfl fun y4 I2 B1 p3=>RG.nl [.bool false,vN,.bool false,vN] B1 fun z4 J2 z0 s3=>Af rfl<|Aa<|Aj<|Ac<|Ab (AH rfl (z0.memA .t2))<|Ab (AH rfl (z0.memA .t1))<|Ak .plain rfl (AK (α:=Ta) (xs:=([a0,a1]:List Ta)) (vs:=[.agg ((cs_Ta a0)).toArray,.agg ((cs_Ta a1)).toArray]) (ds' :=(cs_Ta a0 ++ cs_Ta a1)) rfl z0 el63 rfl (e2 rfl rfl) (by kernel_rfl) rfl) fun A4 M2 g0 u3=>bk h fun z2 d2 h=>Ba (.bool z2) (bd 107) rfl (e1 rfl) (fun p q=>aD_c n (g0.hL0 hL q) (Aq (St.lend (α:=Ta) (L:=L) g0 .hd (AB (cs:=(cs_Ta a0 ++ cs_Ta a1)) (xs:=(([a0,a1]:List Ta):List Ta)) g0 L (Ar (cs:=(cs_Ta a0)) (ds:=(cs_Ta a1)) (mk_Ta a0.fN a0.fD) (Ar (cs:=(cs_Ta a1)) (ds:=[]) (mk_Ta a1.fN a1.fD) (AJ _ _)))) hL) q) d2) rfl<|Ab (Bp rfl)<|Aa<|BU rfl h (fun u1 h=>?_) (fun u1 h=>?_)
 refine Au<|Aj<|du 6 fun c0 D0=>Rv 0 c0 rfl D0 (fun _=>Ai rfl)<|Rx 1 244 c0 rfl D0 (AH rfl (g0.memA .t3))<|Rx 3 240 c0 rfl D0 (AH rfl (g0.memA .t2))<|bk h fun A2 g2 h=>Bn 2 15 c0 rfl .plain (bd 148) rfl (e1 rfl) (fun p q=>aF_c n (g0.hL hL q) a0 g2) rfl fun B4 c4 H1 ⟨R3,U3,hu_,Q1,R1⟩=>?_
 subst hu_
 obtain ⟨P0,v3⟩:=g0.agr H1
 refine bk h fun B2 j2 h=>Bn 4 31 c0 rfl .plain (bd 148) rfl (e1 rfl) (fun p q=>aF_c n (P0.hL hL q) a1 j2) rfl fun C4 d4 I1 ⟨V3,W3,hu_,U1,V1⟩=>?_
 subst hu_
 obtain ⟨Q0,Z0⟩:=P0.agr I1
 refine bk h fun k0 k2 h=>Bn 5 63 c0 rfl .plain (bd 110) rfl (e2 rfl rfl) (fun p q=>cR_c n (Q0.hL hL q) A2 (Aq (Ao Q1 Z0) q) (Aq (Ao R1 Z0) q) B2 (Aq U1 q) (Aq V1 q) k2) rfl fun E4 g4 J1 ⟨F0,G0,hu_,k1,p1⟩=>?_
 subst hu_
 obtain ⟨D1,x3⟩:=Q0.agr J1
 refine BE 6 127 c0 rfl rfl .plain (AF (news:=[.bool k0.fy.fc,F0,.bool k0.ft.fc,G0]) D1 .t1 rfl rfl rfl rfl rfl rfl (o4 rfl (AO k1) rfl (AO p1))) fun F4 q0 b1=>Bf (i:=7) (rk c0) (Bs (m' :=255) (sk c0) rfl .plain rfl (AV rfl) ?_)
 refine AN (dk c0)<|Al rfl<|Am (u:=.tuple #[.agg #[.bool k0.fy.fc,F0,.bool k0.ft.fc,G0],vI 0]) g1 Tryz.func109 rfl (.cons (.many (cs:=[.bool k0.fy.fc,F0,.bool k0.ft.fc,G0]) (by kernel_rfl) rfl (q0.memA .t1)) (.cons (.tmp rfl) .nil)) rfl<|Ab (Ag rfl rfl)<|Ab (Ag rfl rfl)<|bk h fun v0 p2 h=>Ba (.tuple #[.agg ((cs_Ta v0.1)).toArray,vI v0.2]) (bd 108) rfl (e2 rfl rfl) (fun p q=>bB_c n (q0.hL0 hL q) k0 (q0.kd (Ao k1 b1) q) (q0.kd (Ao p1 b1) q) p2) rfl<|Ab (Ag rfl rfl)<|Ab (Ag rfl rfl)<|AQ (cs_Ta v0.1) q0 .t5 (onesB rfl) fun G4 R0 z3=>Af rfl<|Aa<|Al rfl<|Am hb0 Tryz.func65 rfl (.cons (.many (cs:=(cs_Ta v0.1)) (by kernel_rfl) rfl (R0.memA .t5)) (.cons (.tmp rfl) .nil)) rfl ?_
 cases h
 exact R0.gv
 refine Ac<|RG.nl [.bool false,vN,.bool false,vN] g0 fun H4 Q2 U0 A3=>Aa<|Ac<|Ab (AH rfl (U0.memA .hd))<|AQ [.bool false,vN,.bool false,vN] U0 .t2 (onesB rfl) fun I4 A0 B3=>Af rfl<|Aa<|Al rfl<|Am (u:=.tuple #[.agg #[.bool false,vN,.bool false,vN],vI 20]) g1 Tryz.func109 rfl (.cons (.many (cs:=[.bool false,vN,.bool false,vN]) (by kernel_rfl) rfl (A0.memA .t2)) (.cons (.tmp rfl) .nil)) rfl<|Ab (Ag rfl rfl)<|Ab (Ag rfl rfl)<|bk h fun x0 q2 h=>Ba (.tuple #[.agg ((cs_Ta x0.1)).toArray,vI x0.2]) (bd 108) rfl (e2 rfl rfl) (fun p q=>bB_c n (A0.hL0 hL q) (⟨(⟨false,([]:List UInt64)⟩:Te),(⟨false,([]:List UInt64)⟩:Te)⟩:Th) (Aq (Rep.nilSlice _ _) q) (Aq (Rep.nilSlice _ _) q) q2) rfl<|Ab (Ag rfl rfl)<|Ab (Ag rfl rfl)<|AQ (cs_Ta x0.1) A0 .t6 (onesB rfl) fun J4 V0 C3=>Af rfl<|Aa<|Al rfl<|Am hb0 Tryz.func65 rfl (.cons (.many (cs:=(cs_Ta x0.1)) (by kernel_rfl) rfl (V0.memA .t6)) (.cons (.tmp rfl) .nil)) rfl ?_
 cases h
 exact V0.gv
def cU_l1 (n:Nat) (j0:List Int) (k0:Ta) (p0:Nat × (List Ta) -> Option ((Except Tg (List Ta)) ⊕ (List Ta))):Nat × (List Ta) -> Option ((Except Tg (List Ta)) ⊕ (List Ta))
  | (b0,c0)=>(if b0 < j0.length then (j0[b0]?).bind fun u0=>(aT_p n u0 (1:Int)).bind fun x0=>exc x0 (fun y0=>(dG_p n y0 k0).bind fun d0=>(ab_p n d0.1 d0.2).bind fun z0=>exc z0 (fun A0=>(dQ_p n A0 k0).bind fun g0=>(ab_p n g0.1 g0.2).bind fun B0=>exc B0 (fun C0=>(app c0 ([C0]:List Ta)).bind fun v0=>p0 (b0 + 1,v0)) (fun t0=>some (.inl (.error t0)))) (fun s0=>some (.inl (.error s0)))) (fun q0=>some (.inl (.error q0))) else some (.inr c0))
def cU_p (n:Nat) (a0:Td) (a1:Int) (a2:List Int):Option (Except Tg (List Ta)):=
  (aB_p n a0 a1).bind fun y1=>exc y1 (fun b0=>(ao_p n b0 a2).bind fun q0=>exc q0 (fun s0=>(ay_p n b0).bind fun c0=>(ae_p n (decide (c0 = 0)) (7:Int)).bind fun t0=>exc t0 (fun _y57=>(aT_p n c0 a1).bind fun u0=>exc u0 (fun v0=>thn (loopF (cU_l1 n s0 v0) n (0,([]:List Ta))) (fun p0=>some (.ok p0))) (fun k0=>some (.error k0))) (fun j0=>some (.error j0))) (fun g0=>some (.error g0))) (fun d0=>some (.error d0))
theorem cU_c (n:Nat) {L w} (hL:hl L w) (a0:Td) {v0_3:Value} (h0_3:Rep.R w L [v0_3] a0.fo) {p0:Nat} (m0:∀ j9 v9,([vI a0.fe,vI a0.fh,vI a0.fj,v0_3]:List Value)[j9]? = some v9 -> w.cell? ((⟨p0,0,none⟩:Addr).add j9) = some v9) {a1:Int} {p1:Nat} (m1:∀ j9 v9,([vI a1]:List Value)[j9]? = some v9 -> w.cell? ((⟨p1,0,none⟩:Addr).add j9) = some v9) {a2:List Int} {v2_0:Value} (h2_0:Rep.R w L [v2_0] a2) {p2:Nat} (m2:∀ j9 v9,([v2_0]:List Value)[j9]? = some v9 -> w.cell? ((⟨p2,0,none⟩:Addr).add j9) = some v9)  {r:Except Tg (List Ta)} (h:cU_p n a0 a1 a2 = some r) :
 Cl 62 #[.pointer (some ⟨p0,0,none⟩),.pointer (some ⟨p1,0,none⟩),.pointer (some ⟨p2,0,none⟩)] w (PGives w (fun (y:List Ta) w' u=>∃ v0_0:Value,u = v0_0/\Rep.R w' L [v0_0] y) (fun e=>.iface 120 (.agg #[vI e.fB])) r):=by
 unfold cU_p at h
 have hS0:=Az w
 refine MX.startP Tryz.func62 rfl rfl rfl fun _ cs0 hb0 hp0=>Ac<|Af rfl<|Aa<|Ac<|Ab (AH rfl (fun j9 v9 h9=>hS0.ag.cell0 (m0 j9 v9 h9)))<|AP rfl ((fun j9 v9 h9=>hS0.ag.cell0 (m1 j9 v9 h9)) 0 _ rfl)<|xk h (fun R2 hy1 h=>?_) (fun y0 hy1 h=>?_)
 refine BH (fst:=[]) (cap:=[]) .plain (bd 38) rfl (e2 rfl rfl) (fun p q=>aB_c n (hS0.hL hL q) a0 (Aq h0_3 q) hy1) fun y3 W1=>?_
 obtain ⟨C1,b3⟩:=hS0.agr W1
 cases h
 exact Bl hp0 Tryz.func62 ⟨C1.ag,rfl⟩
 refine AX (fst:=[]) (cap:=[]) .plain (bd 38) rfl (e2 rfl rfl) (fun p q=>Bi (aB_c n (hS0.hL hL q) a0 (Aq h0_3 q) hy1)) rfl fun z3 x3 X1 ⟨E2,hu_,C0⟩=>?_
 subst hu_
 obtain ⟨E1,c3⟩:=hS0.agr X1
 refine RG.nl [vI 0,vI 0,vI 0,vN,vI 0] E1 fun F3 P2 K1 A0=>AQ [vI y0.fA.fe,vI y0.fA.fh,vI y0.fA.fj,E2,vI y0.fk] K1 .hd (o5 rfl rfl rfl (AO (Ao C0 A0)) rfl) fun G3 g0 J0=>Aa<|Aj<|du 7 fun q0 x0=>Rx 0 116 q0 rfl x0 (AH rfl (g0.memA .hd))<|Rx 1 116 q0 rfl x0 (AL rfl ((fun j9 v9 h9=>g0.ag.cell0 (m2 j9 v9 h9)) 0 _ rfl))<|xk h (fun X2 Q0 h=>?_) (fun F0 Q0 h=>?_)
 refine Rx 3 112 q0 rfl x0 (AH rfl (g0.memA .hd))<|Bf (i:=2) (rk q0) (RO.callE (fst:=[]) (cap:=[]) rfl .plain (bd 46) rfl (e2 rfl rfl) (fun p q=>ao_c n (g0.hL hL q) y0 (Aq (Ao C0 (Tt A0 J0)) q) (g0.km h2_0 q) Q0) (fun H3 c2=>?_))
 obtain ⟨M1,p3⟩:=g0.agr c2
 cases h
 exact Bl hp0 Tryz.func62 ⟨M1.ag,rfl⟩
 refine Rx 3 112 q0 rfl x0 (AH rfl (g0.memA .hd))<|Bn 2 15 q0 rfl .plain (bd 46) rfl (e2 rfl rfl) (fun p q=>Bi (ao_c n (g0.hL hL q) y0 (Aq (Ao C0 (Tt A0 J0)) q) (g0.km h2_0 q) Q0)) rfl fun I3 G2 d2 ⟨v3,hu_,q1⟩=>?_
 subst hu_
 obtain ⟨j0,V1⟩:=g0.agr d2
 refine bk h fun x1 D2 h=>BO 4 31 96 (vI x1) q0 rfl x0 (bd 54) rfl (e1 rfl) (fun p q=>ay_c n (j0.hL0 hL q) y0 (j0.kd (Ao C0 (Tt A0 (Tt J0 V1))) q) D2) rfl<|Rv 5 q0 rfl x0 (fun _=>AV rfl)<|Rv 6 q0 rfl x0 (fun _=>AV rfl)<|AN (dk q0)<|Ac<|Ae rfl<|Ab (FV.eql (i:=x1) (j:=0) rfl rfl)<|xk h (fun Y2 R0 h=>?_) (fun Q3 R0 h=>?_)
 refine BH (fst:=[]) (cap:=[]) .plain (bd 63) rfl (e2 rfl rfl) (fun p q=>ae_c n (j0.hL0 hL q)  R0) fun J3 g2=>?_
 obtain ⟨P1,q3⟩:=j0.agr g2
 cases h
 exact Bl hp0 Tryz.func62 ⟨P1.ag,rfl⟩
 refine Ba (.tuple #[]) (bd 63) rfl (e2 rfl rfl) (fun p q=>Bi (ae_c n (j0.hL0 hL q)  R0)) rfl<|Aa<|Ac<|Ae rfl<|AP rfl ((fun j9 v9 h9=>j0.ag.cell0 (m1 j9 v9 h9)) 0 _ rfl)<|xk h (fun Z2 U0 h=>?_) (fun z0 U0 h=>?_)
 refine BH (fst:=[]) (cap:=[]) .plain (bd 53) rfl (e2 rfl rfl) (fun p q=>aT_c n (j0.hL0 hL q)  U0) fun K3 j2=>?_
 obtain ⟨Q1,s3⟩:=j0.agr j2
 cases h
 exact Bl hp0 Tryz.func62 ⟨Q1.ag,rfl⟩
 refine Ba (.agg ((cs_Ta z0)).toArray) (bd 53) rfl (e2 rfl rfl) (fun p q=>Bi (aT_c n (j0.hL0 hL q)  U0)) rfl<|RG.nl zL j0 fun M3 G0 R1 c1=>AQ (cs_Ta z0) R1 .hd (onesB rfl) fun P3 V0 g1=>Aa<|Aj<|Ac<|Ae rfl ?_
 have k1:=Ao q1 (Tt c1 g1)
 have t3:F0.length <= 281474976710656:=AY k1
 refine Ab (Be (xs:=F0) Tryz.underlying45 rfl k1)<|Ae rfl<|Aa<|AA ?_
 have W0:=V0.nilRow 37 (Rep.size Ta)
 obtain ⟨D1,X0⟩:=AG W0 (.a0 (.a0 .done))
 refine tn h fun u3 v2 B0=>MX.lf (α:=Nat × (List Ta) × Value × (List Value)) (fun ⟨k0,u0,t0,v0⟩=>[(3,t0),(7,vP G0),(24,G2),(25,vI ((F0.length:Nat):Int)),(26,vI ((k0:Nat):Int))]) (fun ⟨k0,u0,t0,v0⟩=>[rr w 37 Ta t0 u0.length v0,.cells G0 (cs_Ta z0) 37]) (fun ⟨k0,u0,t0,v0⟩ s1=>Cells s1 (bl [rr w 37 Ta t0 u0.length v0,.cells G0 (cs_Ta z0) 37] ++ L) v0 u0) (fun ⟨k0,u0,t0,v0⟩=>(k0,u0)) (0,([]:List Ta),vN,[]) v2 D1 (Aw (AB (cs:=[]) (xs:=([]:List Ta)) W0 L (AJ _ _)) X0) ?_
 rintro K2 ⟨k0,u0,t0,v0⟩ s1 B1 c0 Y0 j1 h
 unfold cU_l1 at h
 try dsimp only at h
 refine Ac<|Ab (Bu (i:=k0) (j:=F0.length) rfl rfl)<|Aa<|Aj<|AT rfl h (fun y1 h=>?_) (fun y1 h=>?_)
 refine Au<|Aj<|AA<|Ac<|bk h fun H2 z2 h=>?_
 obtain ⟨J2,Q2,q2,t2,z1,x2,u2⟩:=Br (Ao q1 (Tt c1 (Tt g1 (Tt (St.nilRowT V0 37 (Rep.size Ta)) (Tt X0 Y0))))) z2
 have s2:z1 = [vI H2]:=x2; subst s2
 refine Ab (Bq 1 k0 rfl q2 rfl rfl t2)<|AP rfl (u2 0 _ rfl)<|Af rfl<|Aa<|du 14 fun b0 d0=>Rv 0 b0 rfl d0 (fun _=>Ai rfl)<|Rv 1 b0 rfl d0 (fun _=>Ai rfl)<|xk h (fun U2 K0 h=>?_) (fun u1 K0 h=>?_)
 refine Rx 3 65264 b0 rfl d0 (AH rfl (c0.memA .t1))<|Rx 8 65024 b0 rfl d0 (AH rfl (c0.memA .t1)) ?_
 have h:=thn_inl h B0
 refine Bf (i:=2) (rk b0) (RO.callE (fst:=[]) (cap:=[]) rfl .plain (bd 53) rfl (e2 rfl rfl) (fun p q=>aT_c n (c0.hL0 hL q)  K0) (fun A3 Y1=>?_))
 obtain ⟨F1,d3⟩:=c0.agr Y1
 cases h
 exact Bl hp0 Tryz.func62 ⟨F1.ag,rfl⟩
 refine BO 2 7 65264 (.agg ((cs_Ta u1)).toArray) b0 rfl d0 (bd 53) rfl (e2 rfl rfl) (fun p q=>Bi (aT_c n (c0.hL0 hL q)  K0)) rfl<|Rx 3 65264 b0 rfl d0 (AH rfl (c0.memA .t1))<|bk h fun D0 B2 h=>BO 4 31 65248 (.tuple #[.agg ((cs_Ta D0.1)).toArray,vI D0.2]) b0 rfl d0 (bd 66) rfl (e2 rfl rfl) (fun p q=>dG_c n (c0.hL0 hL q) u1 z0 B2) rfl<|Rv 5 b0 rfl d0 (fun _=>Ag rfl rfl)<|Rv 6 b0 rfl d0 (fun _=>Ag rfl rfl)<|xk h (fun V2 M0 h=>?_) (fun v1 M0 h=>?_)
 refine Rx 8 65024 b0 rfl d0 (AH rfl (c0.memA .t1)) ?_
 have h:=thn_inl h B0
 refine Bf (i:=7) (rk b0) (RO.callE (fst:=[]) (cap:=[]) rfl .plain (bd 64) rfl (e2 rfl rfl) (fun p q=>ab_c n (c0.hL0 hL q) D0.1 M0) (fun B3 Z1=>?_))
 obtain ⟨G1,g3⟩:=c0.agr Z1
 cases h
 exact Bl hp0 Tryz.func62 ⟨G1.ag,rfl⟩
 refine BO 7 255 65024 (.agg ((cs_Ta v1)).toArray) b0 rfl d0 (bd 64) rfl (e2 rfl rfl) (fun p q=>Bi (ab_c n (c0.hL0 hL q) D0.1 M0)) rfl<|Rx 8 65024 b0 rfl d0 (AH rfl (c0.memA .t1))<|bk h fun E0 C2 h=>BO 9 1023 64512 (.tuple #[.agg ((cs_Ta E0.1)).toArray,vI E0.2]) b0 rfl d0 (bd 65) rfl (e2 rfl rfl) (fun p q=>dQ_c n (c0.hL0 hL q) v1 z0 C2) rfl<|Rv 10 b0 rfl d0 (fun _=>Ag rfl rfl)<|Rv 11 b0 rfl d0 (fun _=>Ag rfl rfl)<|xk h (fun W2 P0 h=>?_) (fun s0 P0 h=>?_)
 have h:=thn_inl h B0
 refine Bf (i:=12) (rk b0) (RO.callE (fst:=[]) (cap:=[]) rfl .plain (bd 64) rfl (e2 rfl rfl) (fun p q=>ab_c n (c0.hL0 hL q) E0.1 P0) (fun C3 b2=>?_))
 obtain ⟨H1,j3⟩:=c0.agr b2
 cases h
 exact Bl hp0 Tryz.func62 ⟨H1.ag,rfl⟩
 refine BO 12 8191 57344 (.agg ((cs_Ta s0)).toArray) b0 rfl d0 (bd 64) rfl (e2 rfl rfl) (fun p q=>Bi (ab_c n (c0.hL0 hL q) E0.1 P0)) rfl<|BN 13 16383 b0 rfl .plain rfl (AK (α:=Ta) (xs:=([s0]:List Ta)) (vs:=[.agg ((cs_Ta s0)).toArray]) (ds' :=(cs_Ta s0)) rfl c0 el63 rfl (e1 rfl) (by kernel_rfl) rfl) fun D3 M2 H0 Z0=>bk h fun I2 A2 h=>Bf (i:=14) (rk b0) (Bx (m' :=32767) (sk b0) rfl rfl .plain rfl (AZ (α:=Ta) (ys:=([s0]:List Ta)) A2 H0 (fun _ _=>.t1) el63 rfl rfl (Aw j1 Z0) (Src.row (α:=Ta) H0 .hd (AB (cs:=(cs_Ta s0)) (xs:=(([s0]:List Ta):List Ta)) H0 L (Ar (cs:=(cs_Ta s0)) (ds:=[]) (mk_Ta s0.fN s0.fD) (AJ _ _))))) (fun F2 E3 ⟨A1,I1,U1,k2⟩=>?_))
 refine Bf (i:=15) (rk b0) (Bs (m' :=65535) (sk b0) rfl .plain rfl (AV rfl) ?_)
 refine AN (dk b0)<|AC<|Av<|Ab (Bw (i:=k0) (j:=1) rfl rfl (by omega))<|Ae rfl<|Aa ?_
 obtain ⟨J1,b1⟩:=AG I1 .d1
 exact B1 (k0 + 1,I2,F2,A1) J1 (Tt Y0 (Tt Z0 (Tt U1 b1))) (Aw k2 b1) h
 refine Bd rfl ?_
 have h:=thn_inr h B0
 try dsimp only at h
 refine Ac<|Ae rfl<|Af rfl<|Aa<|Al rfl ?_
 have I0:=Bz c0 .hd
 have k3:=BA c0 .hd
 have y2:=BB (α:=Ta) (v:=t0) (xs:=u0) I0 L (Bj (α:=Ta) c0 .hd j1 hL)
 refine AW hb0 Tryz.func62 rfl rfl ?_
 cases h
 exact ⟨I0.ag,fun p q=>okOf_in ⟨t0,rfl,I0.kd y2 q⟩⟩
end Go.Proofs.YtgejkdheojkfiaaGreatDoor
