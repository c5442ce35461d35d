/- Functions of the program, and what they give: part 3. -/
import Derived.Test.YtgejkdheojkfiaaGreatDoorPA2
namespace Go.Proofs.YtgejkdheojkfiaaGreatDoor
open Go Go.RowKit
set_option maxRecDepth 4000
set_option maxHeartbeats 4000000

def tb112_3:List (Nat × Nat × Nat):=[(0,1024,4),(1,2048,1024),(0,4096,8),(6,8192,4096),(10,16384,10240),(16,32768,16384),(32,65536,32768),(32,131072,32768),(255,0,65552),(511,32,131072)]
theorem op_A34 {w:World} {L:List Nat} {cs:List Value} {x:UInt64 × UInt64 × UInt64 × UInt64 × UInt64 × UInt64 × UInt64 × UInt64} (h:Rep.R w L cs x):cs = [vU x.1,vU x.2.1,vU x.2.2.1,vU x.2.2.2.1,vU x.2.2.2.2.1,vU x.2.2.2.2.2.1,vU x.2.2.2.2.2.2.1,vU x.2.2.2.2.2.2.2]:=by
  obtain ⟨c0,r0,rfl,h0,h⟩:=h
  have e0:c0 = [vU x.1]:=h0; subst e0
  obtain ⟨c1,r1,rfl,h1,h⟩:=h
  have e1:c1 = [vU x.2.1]:=h1; subst e1
  obtain ⟨c2,r2,rfl,h2,h⟩:=h
  have e2:c2 = [vU x.2.2.1]:=h2; subst e2
  obtain ⟨c3,r3,rfl,h3,h⟩:=h
  have e3:c3 = [vU x.2.2.2.1]:=h3; subst e3
  obtain ⟨c4,r4,rfl,h4,h⟩:=h
  have e4:c4 = [vU x.2.2.2.2.1]:=h4; subst e4
  obtain ⟨c5,r5,rfl,h5,h⟩:=h
  have e5:c5 = [vU x.2.2.2.2.2.1]:=h5; subst e5
  obtain ⟨c6,r6,rfl,h6,h⟩:=h
  have e6:c6 = [vU x.2.2.2.2.2.2.1]:=h6; subst e6
  have e7:r6 = [vU x.2.2.2.2.2.2.2]:=h; subst e7
  rfl
theorem mk_A34 {w:World} {L:List Nat} (a0:UInt64) (a1:UInt64) (a2:UInt64) (a3:UInt64) (a4:UInt64) (a5:UInt64) (a6:UInt64) (a7:UInt64):Rep.R w L [vU a0,vU a1,vU a2,vU a3,vU a4,vU a5,vU a6,vU a7] ((a0,a1,a2,a3,a4,a5,a6,a7):UInt64 × UInt64 × UInt64 × UInt64 × UInt64 × UInt64 × UInt64 × UInt64):=⟨[vU a0],[vU a1,vU a2,vU a3,vU a4,vU a5,vU a6,vU a7],rfl,rfl,⟨[vU a1],[vU a2,vU a3,vU a4,vU a5,vU a6,vU a7],rfl,rfl,⟨[vU a2],[vU a3,vU a4,vU a5,vU a6,vU a7],rfl,rfl,⟨[vU a3],[vU a4,vU a5,vU a6,vU a7],rfl,rfl,⟨[vU a4],[vU a5,vU a6,vU a7],rfl,rfl,⟨[vU a5],[vU a6,vU a7],rfl,rfl,⟨[vU a6],[vU a7],rfl,rfl,rfl⟩⟩⟩⟩⟩⟩⟩
theorem body147:bodyB Tryz.prog 147 = true:=by kernel_rfl
theorem body149:bodyB Tryz.prog 149 = true:=by kernel_rfl
theorem body151:bodyB Tryz.prog 151 = true:=by kernel_rfl
theorem ex_A34 {a b:UInt64 × UInt64 × UInt64 × UInt64 × UInt64 × UInt64 × UInt64 × UInt64} (h0:a.1 = b.1) (h1:a.2.1 = b.2.1) (h2:a.2.2.1 = b.2.2.1) (h3:a.2.2.2.1 = b.2.2.2.1) (h4:a.2.2.2.2.1 = b.2.2.2.2.1) (h5:a.2.2.2.2.2.1 = b.2.2.2.2.2.1) (h6:a.2.2.2.2.2.2.1 = b.2.2.2.2.2.2.1) (h7:a.2.2.2.2.2.2.2 = b.2.2.2.2.2.2.2):a = b:=Prod.ext h0 (Prod.ext h1 (Prod.ext h2 (Prod.ext h3 (Prod.ext h4 (Prod.ext h5 (Prod.ext h6 (h7)))))))
theorem eqlD_35 (a b:UInt64 × UInt64 × UInt64 × UInt64 × UInt64 × UInt64 × UInt64 × UInt64) (w9:World):(do eqGuard .eql 35 (.tmp 0) (.tmp 0) (.agg #[vU a.1,vU a.2.1,vU a.2.2.1,vU a.2.2.2.1,vU a.2.2.2.2.1,vU a.2.2.2.2.2.1,vU a.2.2.2.2.2.2.1,vU a.2.2.2.2.2.2.2]) (.agg #[vU b.1,vU b.2.1,vU b.2.2.1,vU b.2.2.2.1,vU b.2.2.2.2.1,vU b.2.2.2.2.2.1,vU b.2.2.2.2.2.2.1,vU b.2.2.2.2.2.2.2]); binOp .eql 35 (.agg #[vU a.1,vU a.2.1,vU a.2.2.1,vU a.2.2.2.1,vU a.2.2.2.2.1,vU a.2.2.2.2.2.1,vU a.2.2.2.2.2.2.1,vU a.2.2.2.2.2.2.2]) (.agg #[vU b.1,vU b.2.1,vU b.2.2.1,vU b.2.2.2.1,vU b.2.2.2.2.1,vU b.2.2.2.2.2.1,vU b.2.2.2.2.2.2.1,vU b.2.2.2.2.2.2.2]):Sem Value).run Tryz.prog w9 = .ok (.bool (decide (a = b))) w9:=
  eqAgg (ks:=[.int .u64,.int .u64,.int .u64,.int .u64,.int .u64,.int .u64,.int .u64,.int .u64]) (xs:=[vU a.1,vU a.2.1,vU a.2.2.1,vU a.2.2.2.1,vU a.2.2.2.2.1,vU a.2.2.2.2.2.1,vU a.2.2.2.2.2.2.1,vU a.2.2.2.2.2.2.2]) (ys:=[vU b.1,vU b.2.1,vU b.2.2.1,vU b.2.2.2.1,vU b.2.2.2.2.1,vU b.2.2.2.2.2.1,vU b.2.2.2.2.2.2.1,vU b.2.2.2.2.2.2.2]) (by kernel_rfl) (by kernel_rfl) (by kernel_rfl) rfl rfl ⟨fun h=>by
    simp only [allEq,veq,Bool.and_eq_true,beq_iff_eq,and_true] at h
    obtain ⟨h0,h1,h2,h3,h4,h5,h6,h7⟩:=h
    exact ex_A34 (UInt_inj64 h0) (UInt_inj64 h1) (UInt_inj64 h2) (UInt_inj64 h3) (UInt_inj64 h4) (UInt_inj64 h5) (UInt_inj64 h6) (UInt_inj64 h7),fun h=>by subst h; simp [allEq,veq]⟩ _ _ w9
def de_p (n:Nat) (a0:UInt64 × UInt64 × UInt64 × UInt64 × UInt64 × UInt64 × UInt64 × UInt64) (a1:UInt64 × UInt64 × UInt64 × UInt64 × UInt64 × UInt64 × UInt64 × UInt64):Option (Ta × Int):=
  (if a1 = ((0:UInt64),(0:UInt64),(0:UInt64),(0:UInt64),(0:UInt64),(0:UInt64),(0:UInt64),(0:UInt64)) then some ((⟨((0:UInt64),(0:UInt64),(0:UInt64),(0:UInt64),(0:UInt64),(0:UInt64),(0:UInt64),(0:UInt64)),((0:UInt64),(0:UInt64),(0:UInt64),(0:UInt64),(0:UInt64),(0:UInt64),(0:UInt64),(0:UInt64))⟩:Ta),(7:Int)) else (bM_p n a0).bind fun c0=>(bM_p n a1).bind fun d0=>(bP_p n c0 d0).bind fun g0=>(bG_p n g0).bind fun b0=>some (b0.1,b0.2))
theorem de_c (n:Nat) (L:List Nat) (w:World) (hL:∀ b ∈ L,b < w.heap.size) (a0:UInt64 × UInt64 × UInt64 × UInt64 × UInt64 × UInt64 × UInt64 × UInt64) (a1:UInt64 × UInt64 × UInt64 × UInt64 × UInt64 × UInt64 × UInt64 × UInt64)  {r:Ta × Int} (h:de_p n a0 a1 = some r) :
    Calls Tryz.prog 112 #[.agg ((cs_A34 a0)).toArray,.agg ((cs_A34 a1)).toArray] w (Gives w fun _ u=>u = .tuple #[.agg ((cs_Ta r.1)).toArray,vI r.2]):=by
 unfold de_p at h
 refine AF Tryz.func112 rfl rfl rfl fun _ cs0 hb0=>Ac<|RG.bx (AB w) rfl rfl fun s1 P0 u0 U0=>RG.bx u0 rfl rfl fun u1 Q0 v0 V0=>RG.nl zL v0 fun v1 R0 c0 W0=>Af rfl<|Aa<|Aj<|Ac<|Ab (AK rfl (c0.memA .t1))<|Ab (AX (vs:=[]) (u:=.agg zQ) evs_nil (fun w9=>by kernel_rfl))<|Ab (FV.eqlV (v:=.agg ((cs_A34 a1)).toArray) (u:=.agg zQ) rfl rfl (eqlD_35 a1 ((0:UInt64),(0:UInt64),(0:UInt64),(0:UInt64),(0:UInt64),(0:UInt64),(0:UInt64),(0:UInt64))))<|Aa<|AS rfl h (fun t0 h=>?_) (fun t0 h=>?_)
 refine Ac<|Ab (AX (vs:=[]) (u:=.agg zM) evs_nil (fun w9=>by kernel_rfl))<|AQ zL c0 .hd (onesB rfl) fun x1 k0 X0=>Af rfl<|Aa<|Al rfl<|Ap hb0 Tryz.func112 rfl (.cons (.many (cs:=zL) (by kernel_rfl) rfl (k0.memA .hd)) (.cons (.tmp rfl) .nil)) rfl ?_
 cases h
 exact k0.gv
 refine Aq<|Aj<|dt 8 tb112_3 fun b0 d0=>AG 0 1 1018 b0 rfl d0 (AK rfl (c0.memA .t2)) rfl<|AG 2 5 1016 b0 rfl d0 (AK rfl (c0.memA .t1)) rfl<|bk h fun J0 F0 h=>BB 1 7 b0 rfl .plain body151 rfl (e1 rfl) (fun w9 hw9=>bM_c n _ w9 (c0.hL hL hw9) a0 F0) rfl fun y1 k1 y0 ⟨c1,hu_,B0⟩=>?_
 subst hu_
 obtain ⟨p0,Y0⟩:=c0.agr y0
 refine bk h fun K0 G0 h=>BB 3 15 b0 rfl .plain body151 rfl (e1 rfl) (fun w9 hw9=>bM_c n _ w9 (p0.hL hL hw9) a1 G0) rfl fun z1 p1 z0 ⟨d1,hu_,C0⟩=>?_
 subst hu_
 obtain ⟨q0,x0⟩:=p0.agr z0
 refine bk h fun M0 H0 h=>BB 4 31 b0 rfl .plain body149 rfl (e2 rfl rfl) (fun w9 hw9=>bP_c n _ w9 (q0.hL hL hw9) J0 (Ar (Ao B0 x0) hw9) K0 (Ar C0 hw9) H0) rfl fun A1 q1 A0 ⟨g1,j1,hu_,D0,E0⟩=>?_
 subst hu_
 obtain ⟨g0,Z0⟩:=q0.agr A0
 refine bk h fun j0 I0 h=>BT 5 63 960 (.tuple #[.agg ((cs_Ta j0.1)).toArray,vI j0.2]) b0 rfl d0 body147 rfl (e1 rfl) (fun w9 hw9=>bG_c n _ w9 (g0.hL0 hL hw9) M0 (g0.kd D0 hw9) (g0.kd E0 hw9) I0) rfl<|Ag 6 127 b0 rfl d0 (fun _=>Ah rfl rfl) rfl<|Ag 7 255 b0 rfl d0 (fun _=>Ah rfl rfl) rfl<|BJ 8 511 b0 rfl rfl .plain (AH (news:=(cs_Ta j0.1)) g0 .hd rfl rfl rfl rfl rfl rfl (onesB rfl)) fun B1 s0 b1=>Be (i:=9) (rk b0) (Bq (m' :=1023) (sk b0) rfl .plain rfl (AU rfl) ?_)
 refine AM (dk b0)<|Al rfl<|Ap hb0 Tryz.func112 rfl (.cons (.many (cs:=(cs_Ta j0.1)) (by kernel_rfl) rfl (s0.memA .hd)) (.cons (.tmp rfl) .nil)) rfl ?_
 cases h
 exact s0.gv
def cM_l1 (_n:Nat) (t0:Nat × UInt64 × UInt64 × UInt64 × UInt64 × UInt64 × UInt64 × UInt64 × UInt64 -> Option (UInt64 × UInt64 × UInt64 × UInt64 × UInt64 × UInt64 × UInt64 × UInt64)):Nat × UInt64 × UInt64 × UInt64 × UInt64 × UInt64 × UInt64 × UInt64 × UInt64 -> Option (UInt64 × UInt64 × UInt64 × UInt64 × UInt64 × UInt64 × UInt64 × UInt64)
  | (b0,c0,d0,g0,j0,k0,p0,q0,s0)=>(if b0 < 8 then (([c0,d0,g0,j0,k0,p0,q0,s0]:List UInt64)[b0]?).bind fun _z71=>t0 (b0 + 1,setA b0 0 (18446744073709551615:UInt64) c0,setA b0 1 (18446744073709551615:UInt64) d0,setA b0 2 (18446744073709551615:UInt64) g0,setA b0 3 (18446744073709551615:UInt64) j0,setA b0 4 (18446744073709551615:UInt64) k0,setA b0 5 (18446744073709551615:UInt64) p0,setA b0 6 (18446744073709551615:UInt64) q0,setA b0 7 (18446744073709551615:UInt64) s0) else some (c0,d0,g0,j0,k0,p0,q0,s0))
def cM_p (n:Nat) (a0:Int):Option (UInt64 × UInt64 × UInt64 × UInt64 × UInt64 × UInt64 × UInt64 × UInt64):=
  (if a0 < 0 then Option.bind (loopF (cM_l1 n) n (1,u64of a0,(0:UInt64),(0:UInt64),(0:UInt64),(0:UInt64),(0:UInt64),(0:UInt64),(0:UInt64))) (fun (b0,c0,d0,g0,j0,k0,p0,q0)=>some (b0,c0,d0,g0,j0,k0,p0,q0)) else some (u64of a0,(0:UInt64),(0:UInt64),(0:UInt64),(0:UInt64),(0:UInt64),(0:UInt64),(0:UInt64)))
theorem cM_c (n:Nat) (L:List Nat) (w:World) (_hL:∀ b ∈ L,b < w.heap.size) {a0:Int}  {r:UInt64 × UInt64 × UInt64 × UInt64 × UInt64 × UInt64 × UInt64 × UInt64} (h:cM_p n a0 = some r) :
    Calls Tryz.prog 113 #[vI a0] w (Gives w fun _ u=>u = .agg ((cs_A34 r)).toArray):=by
 unfold cM_p at h
 refine AF Tryz.func113 rfl rfl rfl fun _ cs0 hb0=>Ac<|RG.nl zP (AB w) fun Y0 y0 E0 P0=>Aa<|Ac<|Ae rfl<|Ab (FV.convU (i:=a0) Tryz.underlying3 Tryz.underlying33 rfl)<|Ab (AX (vs:=[vW ((u64of a0).toNat:Int)]) (u:=.agg #[vW ((u64of a0).toNat:Int),vW 0,vW 0,vW 0,vW 0,vW 0,vW 0,vW 0]) (e1 rfl) (fun w9=>by kernel_rfl))<|RG.nl zP E0 fun Z0 u0 F0 Q0=>AQ [vW ((u64of a0).toNat:Int),vW 0,vW 0,vW 0,vW 0,vW 0,vW 0,vW 0] F0 .hd (onesB rfl) fun b1 v0 R0=>Aa<|Aj<|Ac<|Ae rfl<|Ab (BR (i:=a0) (j:=0) rfl rfl)<|Aa<|AS rfl h (fun B0 h=>?_) (fun B0 h=>?_)
 refine Ac<|Af rfl<|Aa<|Ay ?_
 obtain ⟨X0,K0,J0⟩:=bind_in2 h
 refine MX.lo (α:=Nat × UInt64 × UInt64 × UInt64 × UInt64 × UInt64 × UInt64 × UInt64 × UInt64) (fun ⟨b0,c0,d0,g0,j0,k0,p0,q0,s0⟩=>[(2,vP y0),(3,vP u0),(4,vI ((b0:Nat):Int))]) (fun ⟨b0,c0,d0,g0,j0,k0,p0,q0,s0⟩=>[.cells u0 [vU c0,vU d0,vU g0,vU j0,vU k0,vU p0,vU q0,vU s0] 35,.cells y0 zP 35]) (fun ⟨b0,c0,d0,g0,j0,k0,p0,q0,s0⟩=>(b0,c0,d0,g0,j0,k0,p0,q0,s0)) (1,u64of a0,(0:UInt64),(0:UInt64),(0:UInt64),(0:UInt64),(0:UInt64),(0:UInt64),(0:UInt64)) K0 v0 ?_
 rintro M0 ⟨b0,c0,d0,g0,j0,k0,p0,q0,s0⟩ j1 D0 t0 H0 h
 unfold cM_l1 at h
 try dsimp only at h
 refine Aj<|Ac<|Ae rfl<|Ab (Bu (i:=b0) (j:=8) rfl rfl)<|Aa<|AS rfl h (fun C0 h=>?_) (fun C0 h=>?_)
 refine Aq<|Aj<|Ay<|Av<|Ae rfl<|bk h fun k1 x0 h=>?_
 have W0:=mem_elem1 (p:=⟨u0,0,none⟩) (cs:=([c0,d0,g0,j0,k0,p0,q0,s0]:List UInt64).map (fun z9:UInt64=>(vU z9:Value)) ++ []) (i:=b0) (t0.memA .hd) (arr_get (fun z9:UInt64=>(vU z9:Value)) x0)
 refine Ab (Bg (m:=1) (k:=b0) (len:=8) (by kernel_rfl) rfl rfl rfl (arr_lt x0 rfl))<|RG.now .plain (Acts.storeArr (fun z9:UInt64=>(vU z9:Value)) (xs:=([c0,d0,g0,j0,k0,p0,q0,s0]:List UInt64)) (pre:=[]) (post:=[]) (i:=b0) (m:=8) (x:=(18446744073709551615:UInt64)) (old:=[vU c0,vU d0,vU g0,vU j0,vU k0,vU p0,vU q0,vU s0]) (new' :=[vW ((setA b0 0 (18446744073709551615:UInt64) c0).toNat:Int),vW ((setA b0 1 (18446744073709551615:UInt64) d0).toNat:Int),vW ((setA b0 2 (18446744073709551615:UInt64) g0).toNat:Int),vW ((setA b0 3 (18446744073709551615:UInt64) j0).toNat:Int),vW ((setA b0 4 (18446744073709551615:UInt64) k0).toNat:Int),vW ((setA b0 5 (18446744073709551615:UInt64) p0).toNat:Int),vW ((setA b0 6 (18446744073709551615:UInt64) q0).toNat:Int),vW ((setA b0 7 (18446744073709551615:UInt64) s0).toNat:Int)]) rfl rfl (arr_lt x0 rfl) t0 .hd rfl (addr_at _ _ _) rfl (by kernel_rfl) (fun _=>⟨rfl,rfl⟩) rfl rfl) fun c1 G0 I0=>Aa<|AA<|Av<|Ae rfl<|Ab (Bw (i:=b0) (j:=1) rfl rfl (by omega))<|Af rfl<|Aa<|D0 (b0 + 1,setA b0 0 (18446744073709551615:UInt64) c0,setA b0 1 (18446744073709551615:UInt64) d0,setA b0 2 (18446744073709551615:UInt64) g0,setA b0 3 (18446744073709551615:UInt64) j0,setA b0 4 (18446744073709551615:UInt64) k0,setA b0 5 (18446744073709551615:UInt64) p0,setA b0 6 (18446744073709551615:UInt64) q0,setA b0 7 (18446744073709551615:UInt64) s0) G0 (Tt H0 I0) h
 refine Ba rfl ?_
 have h:=J0 _ h
 try dsimp only at h
 refine Ac<|Ab (AK rfl (t0.memA .hd))<|AQ [vU c0,vU d0,vU g0,vU j0,vU k0,vU p0,vU q0,vU s0] t0 .t1 (onesB rfl) fun d1 z0 U0=>Aa<|Al rfl<|Ap hb0 Tryz.func113 rfl (.cons (.many (cs:=[vU c0,vU d0,vU g0,vU j0,vU k0,vU p0,vU q0,vU s0]) (by kernel_rfl) rfl (z0.memA .t1)) .nil) rfl ?_
 cases h
 exact z0.gv
 refine Aq<|Ac<|Ab (AK rfl (v0.memA .hd))<|AQ [vW ((u64of a0).toNat:Int),vW 0,vW 0,vW 0,vW 0,vW 0,vW 0,vW 0] v0 .t1 (onesB rfl) fun g1 A0 V0=>Aa<|Al rfl<|Ap hb0 Tryz.func113 rfl (.cons (.many (cs:=[vW ((u64of a0).toNat:Int),vW 0,vW 0,vW 0,vW 0,vW 0,vW 0,vW 0]) (by kernel_rfl) rfl (A0.memA .t1)) .nil) rfl ?_
 cases h
 exact A0.gv
theorem body112:bodyB Tryz.prog 112 = true:=by kernel_rfl
theorem body113:bodyB Tryz.prog 113 = true:=by kernel_rfl
def cW_p (n:Nat) (a0:Int) (a1:Int):Option (Ta × Int):=
  (cM_p n a0).bind fun c0=>(cM_p n a1).bind fun d0=>(de_p n c0 d0).bind fun b0=>some (b0.1,b0.2)
theorem cW_c (n:Nat) (L:List Nat) (w:World) (hL:∀ b ∈ L,b < w.heap.size) {a0:Int} {a1:Int}  {r:Ta × Int} (h:cW_p n a0 a1 = some r) :
    Calls Tryz.prog 68 #[vI a0,vI a1] w (Gives w fun _ u=>u = .tuple #[.agg ((cs_Ta r.1)).toArray,vI r.2]):=by
 unfold cW_p at h
 refine AF Tryz.func68 rfl rfl rfl fun _ cs0 hb0=>Ac<|RG.nl zL (AB w) fun v0 s0 b0 t0=>Af rfl<|Aa<|Ac<|Ae rfl<|bk h fun g0 k0 h=>Bi (.agg ((cs_A34 g0)).toArray) body113 rfl (e1 rfl) (fun w9 hw9=>cM_c n _ w9 (b0.hL0 hL hw9)  k0) rfl<|Ae rfl<|bk h fun j0 p0 h=>Bi (.agg ((cs_A34 j0)).toArray) body113 rfl (e1 rfl) (fun w9 hw9=>cM_c n _ w9 (b0.hL0 hL hw9)  p0) rfl<|bk h fun c0 q0 h=>Bi (.tuple #[.agg ((cs_Ta c0.1)).toArray,vI c0.2]) body112 rfl (e2 rfl rfl) (fun w9 hw9=>de_c n _ w9 (b0.hL0 hL hw9) g0 j0 q0) rfl<|Ab (Ah rfl rfl)<|Ab (Ah rfl rfl)<|AQ (cs_Ta c0.1) b0 .hd (onesB rfl) fun x0 d0 u0=>Af rfl<|Aa<|Al rfl<|Ap hb0 Tryz.func68 rfl (.cons (.many (cs:=(cs_Ta c0.1)) (by kernel_rfl) rfl (d0.memA .hd)) (.cons (.tmp rfl) .nil)) rfl ?_
 cases h
 exact d0.gv
theorem body64:bodyB Tryz.prog 64 = true:=by kernel_rfl
theorem body68:bodyB Tryz.prog 68 = true:=by kernel_rfl
def aO_p (n:Nat) (a0:Int) (a1:Int):Option (Except Tf Ta):=
  (cW_p n a0 a1).bind fun b0=>(aa_p n b0.1 b0.2).bind fun d0=>exc d0 (fun g0=>some (.ok g0)) (fun c0=>some (.error c0))
theorem aO_c (n:Nat) (L:List Nat) (w:World) (hL:∀ b ∈ L,b < w.heap.size) {a0:Int} {a1:Int}  {r:Except Tf Ta} (h:aO_p n a0 a1 = some r) :
    Calls Tryz.prog 53 #[vI a0,vI a1] w (PGives w (fun (y:Ta) _ u=>u = .agg ((cs_Ta y)).toArray) (fun e=>.iface 120 (.agg #[vI e.fA])) r):=by
 unfold aO_p at h
 refine MX.startP Tryz.func53 rfl rfl rfl fun _ cs0 hb0 hp0=>Ac<|RG.nl zL (AB w) fun y0 s0 b0 u0=>Aa<|Ac<|Ae rfl<|Ae rfl<|bk h fun c0 q0 h=>Bi (.tuple #[.agg ((cs_Ta c0.1)).toArray,vI c0.2]) body68 rfl (e2 rfl rfl) (fun w9 hw9=>cW_c n _ w9 (b0.hL0 hL hw9)  q0) rfl<|Ab (Ah rfl rfl)<|Ab (Ah rfl rfl)<|xk h (fun t0 d0 h=>?_) (fun g0 d0 h=>?_)
 refine BH (fst:=[]) (cap:=[]) .plain body64 rfl (e2 rfl rfl) (fun w9 hw9=>aa_c n _ w9 (b0.hL0 hL hw9) c0.1 d0) fun z0 p0=>?_
 obtain ⟨k0,v0⟩:=b0.agr p0
 cases h
 exact Bf hp0 Tryz.func53 ⟨k0.ag,rfl⟩
 refine Bi (.agg ((cs_Ta g0)).toArray) body64 rfl (e2 rfl rfl) (fun w9 hw9=>Bb (aa_c n _ w9 (b0.hL0 hL hw9) c0.1 d0)) rfl<|AQ (cs_Ta g0) b0 .hd (onesB rfl) fun A0 j0 x0=>Aa<|Al rfl<|Ap hb0 Tryz.func53 rfl (.cons (.many (cs:=(cs_Ta g0)) (by kernel_rfl) rfl (j0.memA .hd)) .nil) rfl ?_
 cases h
 exact ⟨j0.ag,fun w9 hw9=>okOf_in rfl⟩
theorem cX_c (_n:Nat) (L:List Nat) (w:World) (_hL:∀ b ∈ L,b < w.heap.size) (a0:Tk) {v0_3:Value} (_h0_3:Rep.R w L [v0_3] a0.fy.fo)  :
    Calls Tryz.prog 101 #[.agg #[vI a0.fy.fe,vI a0.fy.fh,vI a0.fy.fj,v0_3,vI a0.fk]] w (Gives w fun w' u=>∃ b0:Nat,u = .func (.func 141) #[] #[vP b0]/\St w w' [.cells b0 [vI a0.fy.fe,vI a0.fy.fh,vI a0.fy.fj,v0_3,vI a0.fk] 87]):=by
 refine AF Tryz.func101 rfl rfl rfl fun _ cs0 hb0=>Ac<|RG.bx (AB w) rfl rfl fun g0 b0 c0 d0=>Af rfl<|Aa<|Ac<|Ab (BN (vs:=[]) (us:=[vP b0]) evs_nil (e1 rfl))<|Af rfl<|Aa<|Al rfl<|Ap (u:=.func (.func 141) #[] #[vP b0]) hb0 Tryz.func101 rfl (.cons (.tmp rfl) .nil) rfl<|⟨c0.ag,fun w9 hw9=>⟨b0,rfl,c0.agree hw9⟩⟩
theorem body101:bodyB Tryz.prog 101 = true:=by kernel_rfl
theorem body141:bodyB Tryz.prog 141 = true:=by kernel_rfl
def au_l1 (_n:Nat) (a0:Tk) (g0:Nat × Int -> Option (Int ⊕ Int)):Nat × Int -> Option (Int ⊕ Int)
  | (b0,c0)=>(if b0 < a0.fy.fo.length then (a0.fy.fo[b0]?).bind fun d0=>(if d0.fu = true then some (.inl c0) else (chk (c0 + d0.fv)).bind fun j0=>g0 (b0 + 1,j0)) else some (.inr c0))
def au_p (n:Nat) (a0:Tk):Option Int:=
  thn (loopF (au_l1 n a0) n (0,0)) (fun b0=>some b0)
theorem au_c (n:Nat) (L:List Nat) (w:World) (hL:∀ b ∈ L,b < w.heap.size) (a0:Tk) {v0_3:Value} (h0_3:Rep.R w L [v0_3] a0.fy.fo)  {r:Int} (h:au_p n a0 = some r) :
    Calls Tryz.prog 54 #[.agg #[vI a0.fy.fe,vI a0.fy.fh,vI a0.fy.fj,v0_3,vI a0.fk]] w (Gives w fun _ u=>u = vI r):=by
 unfold au_p at h
 refine AF Tryz.func54 rfl rfl rfl fun _ cs0 hb0=>Ac<|RG.bx (AB w) rfl rfl fun M2 Q0 X0 k2=>RG.nl [vI 0] X0 fun V1 R0 j0 p2=>Aa<|Aj<|Ac<|Ab (AK rfl (j0.memA .t1))<|AZ (fst:=[]) (cap:=[]) .plain body101 rfl (e1 rfl) (fun w9 hw9=>Calls.gives (cX_c n _ w9 (j0.hL hL hw9) a0 (j0.km h0_3 hw9)) fun (w8:World) (u8:Value) ⟨b0_,hu_,s_⟩=>(⟨b0_,hu_,s_.from hw9⟩:∃ g0:Nat,u8 = Value.func (.func 141) #[] #[vP g0]/\St V1 w8 [.cells g0 [vI a0.fy.fe,vI a0.fy.fh,vI a0.fy.fj,v0_3,vI a0.fk] 87])) rfl fun X2 K2 F2 ⟨g0,P1,M0⟩=>?_
 subst P1
 have D2:=mk_tr1 j0 M0
 refine Aa<|Ay<|MX.rangeP (lb:=[vP g0]) rfl (mk_push1 j0 M0) rfl body141 Tryz.func141 rfl rfl rfl fun k3 J0 P0 R1 j2 u0 E2 U1 D0 I2=>Ac<|AV 0 rfl<|AV 3 rfl<|AP rfl ((mem_from (u0.memA .t2) 0) 3 _ rfl) ?_
 have F0:=AO h0_3 u0
 have G2:a0.fy.fo.length <= 281474976710656:=AY F0
 refine Ab (Bc (xs:=a0.fy.fo) Tryz.underlying42 rfl F0)<|Ae rfl<|Aa<|Ay<|tn h fun J2 J1 E0=>MX.lo (α:=Nat × Int) (fun ⟨b0,d0⟩=>[(0,.func (.yield J0) #[] #[]),(7,v0_3),(8,vI ((a0.fy.fo.length:Nat):Int)),(9,vI ((b0:Nat):Int))]) (fun ⟨b0,d0⟩=>[.obj J0 (lpO R1 .ready none),.obj P0 (.deferred (some [])),.cells g0 [vI a0.fy.fe,vI a0.fy.fh,vI a0.fy.fj,v0_3,vI a0.fk] 87,.cells R0 [vI d0] 3,.cells Q0 [vI a0.fy.fe,vI a0.fy.fh,vI a0.fy.fj,v0_3,vI a0.fk] 87]) (fun ⟨b0,d0⟩=>(b0,d0)) (0,0) J1 u0 ?_
 rintro X1 ⟨b0,d0⟩ p3 W0 s0 x1 h
 unfold au_l1 at h
 try dsimp only at h
 refine Ac<|Ab (Bu (i:=b0) (j:=a0.fy.fo.length) rfl rfl)<|Aa<|Aj<|AS rfl h (fun U0 h=>?_) (fun U0 h=>?_)
 refine Aq<|Aj<|Ay<|Ac<|Ae rfl<|bk h fun c0 Q1 h=>?_
 obtain ⟨W1,b2,G1,H1,c2,K1,I1⟩:=Bl (AO h0_3 s0) Q1
 obtain ⟨v0,x0,y0,rfl,G0,H0,I0⟩:=op_Tb K1
 refine Ab (Bm 6 b0 rfl G1 rfl rfl H1)<|Ab (AK rfl I1)<|RG.nl [.string ⟨#[]⟩,vI 0,vN,vN,vN,.bool false] s0 fun P2 Y1 Y0 p0=>Af rfl<|AQ [.string c0.fw,vI c0.fv,v0,x0,y0,.bool c0.fu] Y0 .hd (o6 rfl rfl (AR (Ao G0 p0)) (AR (Ao H0 p0)) (AR (Ao I0 p0)) rfl) fun Q2 k0 y1=>Aa<|Ac<|AV 5 rfl<|AP rfl ((k0.memA .hd) 5 _ rfl)<|Ae rfl<|RG.ifb (s:=16) rfl h (fun V0 h=>?_) (fun V0 h=>?_)
 refine Aw<|Aw<|Aw<|Aw<|Aw<|Br rfl rfl<|Aa<|Bk rfl ?_
 have h:=thn_inl h E0
 refine Al rfl<|Ap (u:=.tuple #[]) D0 Tryz.func141 rfl .nil rfl<|MX.endRange0 k0 .t1 (by intro h9; cases h9) fun R2 Z0 q2=>?_
 obtain ⟨z0,s2⟩:=AI Z0 (.a0 .d1)
 refine AA<|Ac<|AP rfl ((z0.memA .t3) 0 _ rfl)<|AQ [vI d0] z0 .t3 (o1 rfl) fun U2 b1 u2=>Aa<|Al rfl<|RT.take b1 .t1 fun V2 c1 v2=>?_
 obtain ⟨A0,x2⟩:=AI c1 (.a0 .d1)
 refine Ap hb0 Tryz.func54 rfl (.cons (.one (by kernel_rfl) rfl ((A0.memA .t2) 0 _ rfl)) .nil) rfl ?_
 cases h
 exact A0.gv
 refine AJ (Ai rfl)<|AJ (Ai rfl)<|AJ (AK rfl (k0.memA .hd))<|RG.yieldP (fd:=54) (vs:=[vI ((b0:Nat):Int),.agg #[.string c0.fw,vI c0.fv,v0,x0,y0,.bool c0.fu]]) (.yes rfl rfl) rfl (e2 rfl rfl) k0 .t1 U1 rfl rfl rfl fun g2 F1 H2=>Av<|RG.nl [.string ⟨#[]⟩,vI 0,vN,vN,vN,.bool false] k0 fun W2 Z1 g1 z1=>?_
 have q0:=Tt p0 (Tt y1 z1)
 refine AQ [.string c0.fw,vI c0.fv,v0,x0,y0,.bool c0.fu] g1 .hd (o6 rfl rfl (AR (Ao G0 q0)) (AR (Ao H0 q0)) (AR (Ao I0 q0)) rfl) fun Y2 j1 A1=>Aa<|MX.begin j1 .t2 fun Z2 t0 B1=>Ay<|Av<|AP rfl ((t0.memA .t5) 0 _ rfl)<|AV 1 rfl<|AP rfl ((t0.memA .hd) 1 _ rfl)<|bk h fun K0 M1 h=>Ab (BL (i:=d0) (j:=c0.fv) rfl rfl M1)<|AQ [vI K0] t0 .t5 (o1 rfl) fun b3 k1 C1=>Aa<|AA<|MX.roundEnd F1 k1 .t2 fun c3 p1 D1=>AJ (Bo rfl)<|Bx rfl rfl<|Aa<|BF rfl<|Aq<|AA<|Av<|Ab (Bw (i:=b0) (j:=1) rfl rfl (by omega))<|Ae rfl<|Aa ?_
 obtain ⟨q1,E1⟩:=AI p1 .d2
 exact W0 (b0 + 1,K0) q1 (Tt x1 (Tt q0 (Tt A1 (Tt B1 (Tt C1 (Tt D1 E1)))))) h
 refine Ba rfl ?_
 have h:=thn_inr h E0
 try dsimp only at h
 refine MX.fin rfl<|Ap (u:=.tuple #[]) D0 Tryz.func141 rfl .nil rfl<|MX.endRange0 s0 .hd (by intro h9; cases h9) fun d3 s1 y2=>?_
 obtain ⟨B0,z2⟩:=AI s1 .d1
 refine AA<|Ac<|AP rfl ((B0.memA .t2) 0 _ rfl)<|AQ [vI d0] B0 .t2 (o1 rfl) fun g3 u1 A2=>Aa<|Al rfl<|RT.take u1 .hd fun j3 v1 B2=>?_
 obtain ⟨C0,C2⟩:=AI v1 .d1
 refine Ap hb0 Tryz.func54 rfl (.cons (.one (by kernel_rfl) rfl ((C0.memA .t1) 0 _ rfl)) .nil) rfl ?_
 cases h
 exact C0.gv
def bg_p (n:Nat) (a0:Tg) (a1:Int):Option (Ta × Int):=
  (if a1 = 0 then (bG_p n a0).bind fun b0=>some (b0.1,b0.2) else some ((⟨((0:UInt64),(0:UInt64),(0:UInt64),(0:UInt64),(0:UInt64),(0:UInt64),(0:UInt64),(0:UInt64)),((0:UInt64),(0:UInt64),(0:UInt64),(0:UInt64),(0:UInt64),(0:UInt64),(0:UInt64),(0:UInt64))⟩:Ta),a1))
theorem bg_c (n:Nat) (L:List Nat) (w:World) (hL:∀ b ∈ L,b < w.heap.size) (a0:Tg) {v0_1:Value} (h0_1:Rep.R w L [v0_1] a0.fx.fm) {v0_3:Value} (h0_3:Rep.R w L [v0_3] a0.ft.fm) {a1:Int}  {r:Ta × Int} (h:bg_p n a0 a1 = some r) :
    Calls Tryz.prog 108 #[.agg #[.bool a0.fx.fc,v0_1,.bool a0.ft.fc,v0_3],vI a1] w (Gives w fun _ u=>u = .tuple #[.agg ((cs_Ta r.1)).toArray,vI r.2]):=by
 unfold bg_p at h
 refine AF Tryz.func108 rfl rfl rfl fun _ cs0 hb0=>Ac<|RG.bx (AB w) rfl rfl fun z0 s0 p0 u0=>RG.nl zL p0 fun A0 t0 b0 v0=>Af rfl<|Aa<|Aj<|Ac<|Ae rfl<|Ab (FV.neq (i:=a1) (j:=0) rfl rfl)<|Aa<|MX.ifn rfl h (fun j0 h=>?_) (fun j0 h=>?_)
 refine Aq<|Ac<|Ab (AK rfl (b0.memA .t1))<|bk h fun c0 q0 h=>Bi (.tuple #[.agg ((cs_Ta c0.1)).toArray,vI c0.2]) body147 rfl (e1 rfl) (fun w9 hw9=>bG_c n _ w9 (b0.hL0 hL hw9) a0 (b0.k0 h0_1 hw9) (b0.k0 h0_3 hw9) q0) rfl<|Ab (Ah rfl rfl)<|Ab (Ah rfl rfl)<|AQ (cs_Ta c0.1) b0 .hd (onesB rfl) fun B0 d0 x0=>Af rfl<|Aa<|Al rfl<|Ap hb0 Tryz.func108 rfl (.cons (.many (cs:=(cs_Ta c0.1)) (by kernel_rfl) rfl (d0.memA .hd)) (.cons (.tmp rfl) .nil)) rfl ?_
 cases h
 exact d0.gv
 refine Ac<|Ab (AX (vs:=[]) (u:=.agg zM) evs_nil (fun w9=>by kernel_rfl))<|Ae rfl<|AQ zL b0 .hd (onesB rfl) fun C0 g0 y0=>Af rfl<|Aa<|Al rfl<|Ap hb0 Tryz.func108 rfl (.cons (.many (cs:=zL) (by kernel_rfl) rfl (g0.memA .hd)) (.cons (.tmp rfl) .nil)) rfl ?_
 cases h
 exact g0.gv
def cb_p (_n:Nat) (a0:Te):Option Int:=
  (if a0.fc = true then some (-1:Int) else (if a0.fm.length = 0 then some (0:Int) else some (1:Int)))
theorem cb_c (n:Nat) (L:List Nat) (w:World) (_hL:∀ b ∈ L,b < w.heap.size) (a0:Te) {v0_1:Value} (h0_1:Rep.R w L [v0_1] a0.fm)  {r:Int} (h:cb_p n a0 = some r) :
    Calls Tryz.prog 120 #[.agg #[.bool a0.fc,v0_1]] w (Gives w fun _ u=>u = vI r):=by
 unfold cb_p at h
 refine AF Tryz.func120 rfl rfl rfl fun _ cs0 hb0=>Ac<|RG.bx (AB w) rfl rfl fun q0 j0 b0 k0=>Af rfl<|Aa<|Aj<|Ay<|Ac<|AV 0 rfl<|AP rfl ((b0.memA .hd) 0 _ rfl)<|Af rfl<|Aa<|MX.ifb rfl h (fun d0 h=>?_) (fun d0 h=>?_)
 refine Ac<|Af rfl<|Aa<|Al rfl<|AT hb0 Tryz.func120 rfl rfl ?_
 cases h
 exact b0.gv
 refine Ac<|AV 1 rfl<|AP rfl ((b0.memA .hd) 1 _ rfl) ?_
 have c0:=AO h0_1 b0
 have p0:a0.fm.length <= 281474976710656:=AY c0
 refine Ab (Bc (xs:=a0.fm) Tryz.underlying146 rfl c0)<|Ab (BQ (i:=a0.fm.length) (j:=0) rfl rfl)<|Af rfl<|Aa<|AS rfl h (fun g0 h=>?_) (fun g0 h=>?_)
 refine Ac<|Af rfl<|Aa<|Al rfl<|AT hb0 Tryz.func120 rfl rfl ?_
 cases h
 exact b0.gv
 refine Aq<|AA<|Ac<|Af rfl<|Aa<|Al rfl<|AT hb0 Tryz.func120 rfl rfl ?_
 cases h
 exact b0.gv
def tb148_1:List (Nat × Nat × Nat):=[(0,8,2),(1,16,8),(2,32,16),(0,64,2),(8,128,64),(20,256,128),(36,512,288),(127,0,516)]
def aD_p (n:Nat) (a0:Ta):Option Tg:=
  (bM_p n a0.fN).bind fun b0=>(bM_p n a0.fD).bind fun c0=>some (⟨b0,c0⟩:Tg)
theorem aD_c (n:Nat) (L:List Nat) (w:World) (hL:∀ b ∈ L,b < w.heap.size) (a0:Ta)  {r:Tg} (h:aD_p n a0 = some r) :
    Calls Tryz.prog 148 #[.agg ((cs_Ta a0)).toArray] w (Gives w fun w' u=>∃ v0_1 v0_3:Value,u = .agg #[.bool r.fx.fc,v0_1,.bool r.ft.fc,v0_3]/\Rep.R w' L [v0_1] r.fx.fm/\Rep.R w' L [v0_3] r.ft.fm):=by
 unfold aD_p at h
 refine AF Tryz.func148 rfl rfl rfl fun _ cs0 hb0=>Ac<|RG.bx (AB w) rfl rfl fun X0 J0 z0 Q0=>RG.nl [.bool false,vN,.bool false,vN] z0 fun Y0 K0 j0 R0=>Aa<|Aj<|dt 7 tb148_1 fun b0 c0=>Ag 0 1 b0 rfl c0 (fun _=>Bd 0 rfl) rfl<|AG 1 3 228 b0 rfl c0 (Bp (cs:=(cs_A34 a0.fN)) (by kernel_rfl) rfl (mem_part (j0.memA .t1) 0 8)) rfl<|Ag 3 11 b0 rfl c0 (fun _=>Bd 8 rfl) rfl<|AG 4 27 224 b0 rfl c0 (Bp (cs:=(cs_A34 a0.fD)) (by kernel_rfl) rfl (mem_part (j0.memA .t1) 8 8)) rfl<|bk h fun p0 F0 h=>BB 2 31 b0 rfl .plain body151 rfl (e1 rfl) (fun w9 hw9=>bM_c n _ w9 (j0.hL hL hw9) a0.fN F0) rfl fun Z0 V0 B0 ⟨d0,hu_,y0⟩=>?_
 subst hu_
 obtain ⟨t0,U0⟩:=j0.agr B0
 refine bk h fun q0 G0 h=>BB 5 63 b0 rfl .plain body151 rfl (e1 rfl) (fun w9 hw9=>bM_c n _ w9 (t0.hL hL hw9) a0.fD G0) rfl fun b1 W0 C0 ⟨g0,hu_,s0⟩=>?_
 subst hu_
 obtain ⟨A0,u0⟩:=t0.agr C0
 have x0:=Ao y0 u0
 obtain ⟨H0,M0,D0,_⟩:=BV x0
 obtain ⟨I0,P0,E0,_⟩:=BV s0
 refine Ag 6 127 b0 rfl c0 (fun _=>AX (vs:=[.agg #[.bool p0.fc,d0],.agg #[.bool q0.fc,g0]]) (u:=.agg #[.bool p0.fc,d0,.bool q0.fc,g0]) (e2 rfl rfl) (fun w9=>by rw [D0,E0]; try kernel_rfl)) rfl<|BJ 7 255 b0 rfl rfl .plain (AH (news:=[.bool p0.fc,d0,.bool q0.fc,g0]) A0 .hd rfl rfl rfl rfl rfl rfl (o4 rfl (AR x0) rfl (AR s0))) fun c1 k0 v0=>AM (dk b0)<|Al rfl<|Ap hb0 Tryz.func148 rfl (.cons (.many (cs:=[.bool p0.fc,d0,.bool q0.fc,g0]) (by kernel_rfl) rfl (k0.memA .hd)) .nil) rfl ?_
 cases h
 exact ⟨k0.ag,fun w9 hw9=>⟨d0,g0,rfl,k0.kd (Ao y0 (Tt u0 v0)) hw9,k0.kd (Ao s0 v0) hw9⟩⟩
def df_p (n:Nat) (a0:Int):Option Te:=
  (cM_p n a0).bind fun b0=>(bM_p n b0).bind fun c0=>some c0
theorem df_c (n:Nat) (L:List Nat) (w:World) (hL:∀ b ∈ L,b < w.heap.size) {a0:Int}  {r:Te} (h:df_p n a0 = some r) :
    Calls Tryz.prog 172 #[vI a0] w (Gives w fun w' u=>∃ v0_1:Value,u = .agg #[.bool r.fc,v0_1]/\Rep.R w' L [v0_1] r.fm):=by
 unfold df_p at h
 refine AF Tryz.func172 rfl rfl rfl fun _ cs0 hb0=>Ac<|RG.nl [.bool false,vN] (AB w) fun A0 v0 b0 x0=>Aa<|Ac<|Ae rfl<|bk h fun j0 t0 h=>Bi (.agg ((cs_A34 j0)).toArray) body113 rfl (e1 rfl) (fun w9 hw9=>cM_c n _ w9 (b0.hL0 hL hw9)  t0) rfl<|bk h fun k0 u0 h=>AZ (fst:=[]) (cap:=[]) .plain body151 rfl (e1 rfl) (fun w9 hw9=>bM_c n _ w9 (b0.hL hL hw9) j0 u0) rfl fun B0 z0 s0 ⟨d0,hu_,g0⟩=>?_
 subst hu_
 obtain ⟨p0,y0⟩:=b0.agr s0
 refine AQ [.bool k0.fc,d0] p0 .hd (o2 rfl (AR g0)) fun C0 c0 q0=>Aa<|Al rfl<|Ap hb0 Tryz.func172 rfl (.cons (.many (cs:=[.bool k0.fc,d0]) (by kernel_rfl) rfl (c0.memA .hd)) .nil) rfl ?_
 cases h
 exact ⟨c0.ag,fun w9 hw9=>⟨d0,rfl,c0.kd (Ao g0 q0) hw9⟩⟩
def tb193_1:List (Nat × Nat × Nat):=[(0,32,4),(0,64,8),(2,128,64),(5,256,160),(15,0,272)]
def cC_p (n:Nat) (a0:Te) (a1:Te):Option Te:=
  (aW_p n a1).bind fun b0=>(bH_p n a0 b0).bind fun c0=>some c0
theorem cC_c (n:Nat) (L:List Nat) (w:World) (hL:∀ b ∈ L,b < w.heap.size) (a0:Te) {v0_1:Value} (h0_1:Rep.R w L [v0_1] a0.fm) (a1:Te) {v1_1:Value} (h1_1:Rep.R w L [v1_1] a1.fm)  {r:Te} (h:cC_p n a0 a1 = some r) :
    Calls Tryz.prog 193 #[.agg #[.bool a0.fc,v0_1],.agg #[.bool a1.fc,v1_1]] w (Gives w fun w' u=>∃ v0_1:Value,u = .agg #[.bool r.fc,v0_1]/\Rep.R w' L [v0_1] r.fm):=by
 unfold cC_p at h
 refine AF Tryz.func193 rfl rfl rfl fun _ cs0 hb0=>Ac<|RG.bx (AB w) rfl rfl fun R0 D0 s0 G0=>RG.bx s0 rfl rfl fun U0 E0 t0 H0=>RG.nl [.bool false,vN] t0 fun V0 F0 c0 I0=>Aa<|Aj<|dt 4 tb193_1 fun b0 p0=>AG 0 1 24 b0 rfl p0 (AK rfl (c0.memA .t2)) rfl<|AG 1 3 28 b0 rfl p0 (AK rfl (c0.memA .t1)) rfl<|bk h fun C0 A0 h=>BB 2 7 b0 rfl .plain body126 rfl (e1 rfl) (fun w9 hw9=>aW_c n _ w9 (c0.hL hL hw9) a1 (c0.km h1_1 hw9) A0) rfl fun W0 P0 x0 ⟨M0,hu_,z0⟩=>?_
 subst hu_
 obtain ⟨d0,J0⟩:=c0.agr x0
 refine bk h fun q0 B0 h=>BB 3 15 b0 rfl .plain body159 rfl (e2 rfl rfl) (fun w9 hw9=>bH_c n _ w9 (d0.hL hL hw9) a0 (d0.km h0_1 hw9) C0 (Ar z0 hw9) B0) rfl fun X0 Q0 y0 ⟨j0,hu_,k0⟩=>?_
 subst hu_
 obtain ⟨u0,K0⟩:=d0.agr y0
 refine BJ 4 31 b0 rfl rfl .plain (AH (news:=[.bool q0.fc,j0]) u0 .hd rfl rfl rfl rfl rfl rfl (o2 rfl (AR k0))) fun Y0 g0 v0=>AM (dk b0)<|Al rfl<|Ap hb0 Tryz.func193 rfl (.cons (.many (cs:=[.bool q0.fc,j0]) (by kernel_rfl) rfl (g0.memA .hd)) .nil) rfl ?_
 cases h
 exact ⟨g0.ag,fun w9 hw9=>⟨j0,rfl,g0.kd (Ao k0 v0) hw9⟩⟩
theorem body120:bodyB Tryz.prog 120 = true:=by kernel_rfl
theorem body193:bodyB Tryz.prog 193 = true:=by kernel_rfl
def cQ_p (n:Nat) (a0:Te) (a1:Te):Option Int:=
  (cC_p n a0 a1).bind fun b0=>(cb_p n b0).bind fun c0=>some c0
theorem cQ_c (n:Nat) (L:List Nat) (w:World) (hL:∀ b ∈ L,b < w.heap.size) (a0:Te) {v0_1:Value} (h0_1:Rep.R w L [v0_1] a0.fm) (a1:Te) {v1_1:Value} (h1_1:Rep.R w L [v1_1] a1.fm)  {r:Int} (h:cQ_p n a0 a1 = some r) :
    Calls Tryz.prog 174 #[.agg #[.bool a0.fc,v0_1],.agg #[.bool a1.fc,v1_1]] w (Gives w fun _ u=>u = vI r):=by
 unfold cQ_p at h
 refine AF Tryz.func174 rfl rfl rfl fun _ cs0 hb0=>Ac<|RG.bx (AB w) rfl rfl fun B0 t0 d0 v0=>RG.bx d0 rfl rfl fun C0 u0 b0 x0=>Af rfl<|Aa<|Ac<|Ab (AK rfl (b0.memA .t1))<|Ab (AK rfl (b0.memA .hd))<|bk h fun q0 k0 h=>AZ (fst:=[]) (cap:=[]) .plain body193 rfl (e2 rfl rfl) (fun w9 hw9=>cC_c n _ w9 (b0.hL hL hw9) a0 (b0.km h0_1 hw9) a1 (b0.km h1_1 hw9) k0) rfl fun D0 A0 g0 ⟨z0,hu_,j0⟩=>?_
 subst hu_
 obtain ⟨c0,y0⟩:=b0.agr g0
 refine bk h fun s0 p0 h=>Bi (vI s0) body120 rfl (e1 rfl) (fun w9 hw9=>cb_c n _ w9 (c0.hL0 hL hw9) q0 (c0.kd j0 hw9) p0) rfl<|Af rfl<|Aa<|Al rfl<|AT hb0 Tryz.func174 rfl rfl ?_
 cases h
 exact c0.gv
def tb145_3:List (Nat × Nat × Nat):=[(0,256,16),(1,512,256),(2,1024,512),(4,2048,1024),(12,4096,2048),(16,8192,4112),(48,16384,12288),(16,32768,4112),(144,65536,36864),(336,131072,86016),(16,262144,4104),(1552,524288,397312),(2064,1048576,528384),(4112,2097152,1052672)]
theorem body148:bodyB Tryz.prog 148 = true:=by kernel_rfl
theorem body172:bodyB Tryz.prog 172 = true:=by kernel_rfl
theorem body174:bodyB Tryz.prog 174 = true:=by kernel_rfl
def cU_p (n:Nat) (a0:Ta):Option Int:=
  (df_p n (1:Int)).bind fun c0=>(aD_p n a0).bind fun b0=>(cb_p n b0.ft).bind fun d0=>(if d0 <= 0 then some (20:Int) else (aB_p n b0.fx b0.ft).bind fun g0=>(cQ_p n g0 c0).bind fun j0=>(if j0 = 0 then some (0:Int) else some (20:Int)))
theorem cU_c (n:Nat) (L:List Nat) (w:World) (hL:∀ b ∈ L,b < w.heap.size) (a0:Ta)  {r:Int} (h:cU_p n a0 = some r) :
    Calls Tryz.prog 145 #[.agg ((cs_Ta a0)).toArray] w (Gives w fun _ u=>u = vI r):=by
 unfold cU_p at h
 refine AF Tryz.func145 rfl rfl rfl fun _ cs0 hb0=>Ac<|RG.bx (AB w) rfl rfl fun y1 g1 t0 p1=>Af rfl<|Aa<|Ac<|bk h fun B0 W0 h=>AZ (fst:=[]) (cap:=[]) .plain body172 rfl (e1 rfl) (fun w9 hw9=>df_c n _ w9 (t0.hL hL hw9)  W0) rfl fun z1 u1 Q0 ⟨c1,hu_,x0⟩=>?_
 subst hu_
 obtain ⟨G0,q1⟩:=t0.agr Q0
 refine RG.nl [.bool false,vN] G0 fun A1 j1 H0 u0=>AQ [.bool B0.fc,c1] H0 .hd (o2 rfl (AR (Ao x0 u0))) fun B1 p0 K0=>Aa<|Ac<|Ab (AK rfl (p0.memA .t1))<|bk h fun g0 X0 h=>AZ (fst:=[]) (cap:=[]) .plain body148 rfl (e1 rfl) (fun w9 hw9=>aD_c n _ w9 (p0.hL hL hw9) a0 X0) rfl fun C1 v1 R0 ⟨A0,s0,hu_,y0,z0⟩=>?_
 subst hu_
 obtain ⟨I0,M0⟩:=p0.agr R0
 refine RG.nl [.bool false,vN,.bool false,vN] I0 fun D1 k1 J0 k0=>AQ [.bool g0.fx.fc,A0,.bool g0.ft.fc,s0] J0 .hd (o4 rfl (AR (Ao y0 k0)) rfl (AR (Ao z0 k0))) fun E1 d0 q0=>Aa<|Aj<|Aj<|dt 14 tb145_3 fun b0 c0=>Ag 0 1 b0 rfl c0 (fun _=>Bd 2 rfl) rfl<|AG 1 3 16380 b0 rfl c0 (Bp (cs:=[.bool g0.ft.fc,s0]) (by kernel_rfl) rfl (mem_part (d0.memA .hd) 2 2)) rfl<|bk h fun C0 Y0 h=>?_
 have v0:=Ao z0 (Tt k0 q0)
 refine BT 2 7 16376 (vI C0) b0 rfl c0 body120 rfl (e1 rfl) (fun w9 hw9=>cb_c n _ w9 (d0.hL0 hL hw9) g0.ft (d0.kd v0 hw9) Y0) rfl<|Ag 3 15 b0 rfl c0 (fun _=>FV.leq (i:=C0) (j:=0) rfl rfl) rfl<|Ag 4 31 b0 rfl c0 (fun _=>Ai rfl) rfl<|RD.ifd (s:=12) rfl h (fun E0 h=>?_) (fun E0 h=>?_)
 refine BD 8191 1 [(5,13),(6,14),(7,15),(8,16),(9,17),(10,18),(11,19),(12,20)] (F:=[(12,true)]) (U:=[]) b0 c0 (.cons rfl .nil) .nil ?_
 dsimp only [offS,List.map]
 refine Ag 13 16383 b0 rfl c0 (fun _=>BC rfl rfl) rfl<|AM (dk b0)<|Bk rfl<|Ac<|Af rfl<|Aa<|Al rfl<|AT hb0 Tryz.func145 rfl rfl ?_
 cases h
 exact d0.gv
 refine BO 5 63 b0 rfl c0 (.yes rfl rfl) (fun _=>Bd 0 rfl) rfl<|RD.val (i:=6) (m' :=127) (W:=14848) (tk b0) rfl c0 (.yes rfl rfl) (Bp (cs:=[.bool g0.fx.fc,A0]) (by kernel_rfl) rfl (mem_part (d0.memA .hd) 0 2)) rfl<|BO 7 255 b0 rfl c0 (.yes rfl rfl) (fun _=>Bd 2 rfl) rfl<|RD.val (i:=8) (m' :=511) (W:=14848) (tk b0) rfl c0 (.yes rfl rfl) (Bp (cs:=[.bool g0.ft.fc,s0]) (by kernel_rfl) rfl (mem_part (d0.memA .hd) 2 2)) rfl<|RD.val (i:=10) (m' :=1535) (W:=14336) (tk b0) rfl c0 (.yes rfl rfl) (AK rfl (d0.memA .t1)) rfl<|bk h fun d1 Z0 h=>BB 9 2047 b0 rfl (.yes rfl rfl) body173 rfl (e2 rfl rfl) (fun w9 hw9=>aB_c n _ w9 (d0.hL hL hw9) g0.fx (Ar (Ao y0 (Tt k0 q0)) hw9) g0.ft (Ar v0 hw9) Z0) rfl fun F1 x1 U0 ⟨s1,hu_,V0⟩=>?_
 subst hu_
 obtain ⟨j0,P0⟩:=d0.agr U0
 refine bk h fun D0 b1 h=>RD.callq (i:=11) (m' :=4095) (W:=12288) (tk b0) rfl c0 (v:=vI D0) (fst:=[]) (cap:=[]) (.yes rfl rfl) body174 rfl (e2 rfl rfl) (fun w9 hw9=>cQ_c n _ w9 (j0.hL0 hL hw9) d1 (j0.kd V0 hw9) B0 (j0.kd (Ao x0 (Tt u0 (Tt K0 (Tt M0 (Tt k0 (Tt q0 P0)))))) hw9) b1) rfl<|BO 12 8191 b0 rfl c0 (.yes rfl rfl) (fun _=>FV.neq (i:=D0) (j:=0) rfl rfl) rfl<|Ag 13 16383 b0 rfl c0 (fun _=>Bh rfl rfl) rfl<|AM (dk b0)<|MX.ifn rfl h (fun F0 h=>?_) (fun F0 h=>?_)
 refine Aq<|Ac<|Af rfl<|Aa<|Al rfl<|AT hb0 Tryz.func145 rfl rfl ?_
 cases h
 exact j0.gv
 refine Ac<|Af rfl<|Aa<|Al rfl<|AT hb0 Tryz.func145 rfl rfl ?_
 cases h
 exact j0.gv
theorem body145:bodyB Tryz.prog 145 = true:=by kernel_rfl
def cO_p (n:Nat) (a0:Ta):Option Bool:=
  (cU_p n a0).bind fun b0=>some (decide (b0 = 0))
theorem cO_c (n:Nat) (L:List Nat) (w:World) (hL:∀ b ∈ L,b < w.heap.size) (a0:Ta)  {r:Bool} (h:cO_p n a0 = some r) :
    Calls Tryz.prog 144 #[.agg ((cs_Ta a0)).toArray] w (Gives w fun _ u=>u = .bool r):=by
 unfold cO_p at h
 refine AF Tryz.func144 rfl rfl rfl fun _ cs0 hb0=>Ac<|RG.bx (AB w) rfl rfl fun k0 g0 b0 j0=>Af rfl<|Aa<|Ac<|Ab (AK rfl (b0.memA .hd))<|bk h fun c0 d0 h=>Bi (vI c0) body145 rfl (e1 rfl) (fun w9 hw9=>cU_c n _ w9 (b0.hL0 hL hw9) a0 d0) rfl<|Ab (FV.eql (i:=c0) (j:=0) rfl rfl)<|Af rfl<|Aa<|Al rfl<|AT hb0 Tryz.func144 rfl rfl ?_
 cases h
 exact b0.gv
theorem op_Ta {w:World} {L:List Nat} {cs:List Value} {x:Ta} (h:Rep.R w L cs x):cs = [vU x.fN.1,vU x.fN.2.1,vU x.fN.2.2.1,vU x.fN.2.2.2.1,vU x.fN.2.2.2.2.1,vU x.fN.2.2.2.2.2.1,vU x.fN.2.2.2.2.2.2.1,vU x.fN.2.2.2.2.2.2.2,vU x.fD.1,vU x.fD.2.1,vU x.fD.2.2.1,vU x.fD.2.2.2.1,vU x.fD.2.2.2.2.1,vU x.fD.2.2.2.2.2.1,vU x.fD.2.2.2.2.2.2.1,vU x.fD.2.2.2.2.2.2.2]:=by
  obtain ⟨c0,r0,rfl,h0,h⟩:=h
  obtain rfl:=op_A34 (x:=x.fN) h0
  obtain rfl:=op_A34 (x:=x.fD) h
  rfl
theorem mk_Ta {w:World} {L:List Nat} (a0:UInt64 × UInt64 × UInt64 × UInt64 × UInt64 × UInt64 × UInt64 × UInt64) (a1:UInt64 × UInt64 × UInt64 × UInt64 × UInt64 × UInt64 × UInt64 × UInt64):Rep.R w L [vU a0.1,vU a0.2.1,vU a0.2.2.1,vU a0.2.2.2.1,vU a0.2.2.2.2.1,vU a0.2.2.2.2.2.1,vU a0.2.2.2.2.2.2.1,vU a0.2.2.2.2.2.2.2,vU a1.1,vU a1.2.1,vU a1.2.2.1,vU a1.2.2.2.1,vU a1.2.2.2.2.1,vU a1.2.2.2.2.2.1,vU a1.2.2.2.2.2.2.1,vU a1.2.2.2.2.2.2.2] (⟨a0,a1⟩:Ta):=⟨[vU a0.1,vU a0.2.1,vU a0.2.2.1,vU a0.2.2.2.1,vU a0.2.2.2.2.1,vU a0.2.2.2.2.2.1,vU a0.2.2.2.2.2.2.1,vU a0.2.2.2.2.2.2.2],[vU a1.1,vU a1.2.1,vU a1.2.2.1,vU a1.2.2.2.1,vU a1.2.2.2.2.1,vU a1.2.2.2.2.2.1,vU a1.2.2.2.2.2.2.1,vU a1.2.2.2.2.2.2.2],rfl,mk_A34 a0.1 a0.2.1 a0.2.2.1 a0.2.2.2.1 a0.2.2.2.2.1 a0.2.2.2.2.2.1 a0.2.2.2.2.2.2.1 a0.2.2.2.2.2.2.2,mk_A34 a1.1 a1.2.1 a1.2.2.1 a1.2.2.2.1 a1.2.2.2.2.1 a1.2.2.2.2.2.1 a1.2.2.2.2.2.2.1 a1.2.2.2.2.2.2.2⟩
theorem body144:bodyB Tryz.prog 144 = true:=by kernel_rfl
theorem body146:bodyB Tryz.prog 146 = true:=by kernel_rfl
def aI_l1 (n:Nat) (a0:List Ta) (c0:Nat -> Option (Bool ⊕ Unit)):Nat -> Option (Bool ⊕ Unit)
  | b0=>(if b0 < a0.length then (a0[b0]?).bind fun d0=>(cO_p n d0).bind fun g0=>(if g0 = true then c0 (b0 + 1) else some (.inl false)) else some (.inr ()))
def aI_p (n:Nat) (a0:List Ta):Option Bool:=
  thn (loopF (aI_l1 n a0) n 0) (fun _=>some true)
theorem aI_c (n:Nat) (L:List Nat) (w:World) (hL:∀ b ∈ L,b < w.heap.size) {a0:List Ta} {v0_0:Value} (h0_0:Rep.R w L [v0_0] a0)  {r:Bool} (h:aI_p n a0 = some r) :
    Calls Tryz.prog 107 #[v0_0] w (Gives w fun _ u=>u = .bool r):=by
 unfold aI_p at h
 refine AF Tryz.func107 rfl rfl rfl fun _ cs0 hb0=>Ac<|Af rfl<|Aa<|Ac<|Af rfl<|Aa<|Ac<|Ae rfl<|Ae rfl<|BM (fst:=[]) (cap:=[]) (vs:=[.func (.func 144) #[] #[],v0_0]) .plain body146 Tryz.func146 rfl rfl rfl rfl (e2 rfl rfl) rfl fun cs2 hb1 hp3=>Ac<|Af rfl<|Aa<|Aj<|Ac<|Ae rfl ?_
 have hl4:a0.length <= 281474976710656:=AY h0_0
 refine Ab (Bc (xs:=a0) Tryz.underlying63 rfl h0_0)<|Ae rfl<|Aa<|Ay<|tn h fun P0 C0 g0=>MX.lo (α:=Nat) (fun b0=>[(0,.func (.func 144) #[] #[]),(7,v0_0),(8,vI ((a0.length:Nat):Int)),(9,vI ((b0:Nat):Int))]) (fun b0=>[]) (fun b0=>b0) 0 C0 (AB w) ?_
 rintro I0 b0 U0 q0 d0 u0 h
 unfold aI_l1 at h
 try dsimp only at h
 refine Ac<|Ab (Bu (i:=b0) (j:=a0.length) rfl rfl)<|Aa<|Aj<|AS rfl h (fun k0 h=>?_) (fun k0 h=>?_)
 refine Aq<|Aj<|Ay<|Ac<|bk h fun j0 E0 h=>?_
 obtain ⟨H0,K0,z0,A0,M0,D0,B0⟩:=Bl (AO h0_0 d0) E0
 obtain rfl:=op_Ta D0
 refine Ab (Bm 16 b0 rfl z0 rfl rfl A0)<|Ab (AK rfl B0)<|RG.nl zL d0 fun Q0 J0 s0 v0=>AQ (cs_Ta j0) s0 .hd (onesB rfl) fun R0 c0 x0=>Aa<|Ac<|Ae rfl<|Ab (AK rfl (c0.memA .hd))<|bk h fun G0 F0 h=>Bi (.bool G0) body144 rfl (e1 rfl) (fun w9 hw9=>cO_c n _ w9 (c0.hL0 hL hw9) j0 F0) rfl<|Ab (Bo rfl)<|Aa<|MX.ifnb rfl h (fun p0 h=>?_) (fun p0 h=>?_)
 refine Aq<|AA<|Av<|Ab (Bw (i:=b0) (j:=1) rfl rfl (by omega))<|Ae rfl<|Aa ?_
 obtain ⟨t0,y0⟩:=AI c0 .done
 exact q0 (b0 + 1) t0 (Tt u0 (Tt v0 (Tt x0 y0))) h
 refine Ac<|Af rfl<|Aa ?_
 have h:=thn_inl h g0
 refine Al rfl<|Ap (u:=.bool false) hb1 Tryz.func146 rfl (.cons (.tmp rfl) .nil) rfl<|Af rfl<|Aa<|Al rfl<|AT hb0 Tryz.func107 rfl rfl ?_
 cases h
 exact c0.gv
 refine Ba rfl ?_
 have h:=thn_inr h g0
 try dsimp only at h
 refine Ac<|Af rfl<|Aa<|Al rfl<|Ap (u:=.bool true) hb1 Tryz.func146 rfl (.cons (.tmp rfl) .nil) rfl<|Af rfl<|Aa<|Al rfl<|AT hb0 Tryz.func107 rfl rfl ?_
 cases h
 exact d0.gv
def tb124_1:List (Nat × Nat × Nat):=[(0,8,2),(1,16,8),(2,32,16),(0,64,2),(8,128,64),(20,256,160),(63,0,260)]
def bQ_p (n:Nat) (a0:Tg):Option Tg:=
  (aW_p n a0.fx).bind fun b0=>some (⟨b0,a0.ft⟩:Tg)
theorem bQ_c (n:Nat) (L:List Nat) (w:World) (hL:∀ b ∈ L,b < w.heap.size) (a0:Tg) {v0_1:Value} (h0_1:Rep.R w L [v0_1] a0.fx.fm) {v0_3:Value} (h0_3:Rep.R w L [v0_3] a0.ft.fm)  {r:Tg} (h:bQ_p n a0 = some r) :
    Calls Tryz.prog 124 #[.agg #[.bool a0.fx.fc,v0_1,.bool a0.ft.fc,v0_3]] w (Gives w fun w' u=>∃ v0_1 v0_3:Value,u = .agg #[.bool r.fx.fc,v0_1,.bool r.ft.fc,v0_3]/\Rep.R w' L [v0_1] r.fx.fm/\Rep.R w' L [v0_3] r.ft.fm):=by
 unfold bQ_p at h
 refine AF Tryz.func124 rfl rfl rfl fun _ cs0 hb0=>Ac<|RG.bx (AB w) rfl rfl fun M0 D0 u0 H0=>RG.nl [.bool false,vN,.bool false,vN] u0 fun P0 E0 c0 I0=>Aa<|Aj<|dt 6 tb124_1 fun b0 d0=>Ag 0 1 b0 rfl d0 (fun _=>Bd 0 rfl) rfl<|AG 1 3 100 b0 rfl d0 (Bp (cs:=[.bool a0.fx.fc,v0_1]) (by kernel_rfl) rfl (mem_part (c0.memA .t1) 0 2)) rfl<|Ag 3 11 b0 rfl d0 (fun _=>Bd 2 rfl) rfl<|AG 4 27 96 b0 rfl d0 (Bp (cs:=[.bool a0.ft.fc,v0_3]) (by kernel_rfl) rfl (mem_part (c0.memA .t1) 2 2)) rfl<|bk h fun p0 A0 h=>BB 2 31 b0 rfl .plain body126 rfl (e1 rfl) (fun w9 hw9=>aW_c n _ w9 (c0.hL hL hw9) a0.fx (c0.km h0_1 hw9) A0) rfl fun Q0 K0 x0 ⟨g0,hu_,q0⟩=>?_
 subst hu_
 obtain ⟨s0,J0⟩:=c0.agr x0
 obtain ⟨B0,F0,y0,_⟩:=BV q0
 have t0:=AO h0_3 s0
 obtain ⟨C0,G0,z0,_⟩:=BV t0
 refine Ag 5 63 b0 rfl d0 (fun _=>AX (vs:=[.agg #[.bool p0.fc,g0],.agg #[.bool a0.ft.fc,v0_3]]) (u:=.agg #[.bool p0.fc,g0,.bool a0.ft.fc,v0_3]) (e2 rfl rfl) (fun w9=>by rw [y0,z0]; try kernel_rfl)) rfl<|BJ 6 127 b0 rfl rfl .plain (AH (news:=[.bool p0.fc,g0,.bool a0.ft.fc,v0_3]) s0 .hd rfl rfl rfl rfl rfl rfl (o4 rfl (AR q0) rfl (AR t0))) fun R0 j0 v0=>AM (dk b0)<|Al rfl<|Ap hb0 Tryz.func124 rfl (.cons (.many (cs:=[.bool p0.fc,g0,.bool a0.ft.fc,v0_3]) (by kernel_rfl) rfl (j0.memA .hd)) .nil) rfl ?_
 cases h
 exact ⟨j0.ag,fun w9 hw9=>⟨g0,v0_3,rfl,j0.kd (Ao q0 v0) hw9,j0.k0 h0_3 hw9⟩⟩
def cK_p (_n:Nat) (a0:UInt64) (a1:UInt64):Option (UInt64 × UInt64):=
  (some (((shrU a0 32) * (a1 &&& (4294967295:UInt64))) + (shrU ((a0 &&& (4294967295:UInt64)) * (a1 &&& (4294967295:UInt64))) 32))).bind fun u1=>(some (shrU ((u1 &&& (4294967295:UInt64)) + ((a0 &&& (4294967295:UInt64)) * (shrU a1 32))) 32)).bind fun u2=>some ((((shrU a0 32) * (shrU a1 32)) + (shrU u1 32)) + u2,a0 * a1)
theorem cK_c (n:Nat) (L:List Nat) (w:World) (_hL:∀ b ∈ L,b < w.heap.size) (a0:UInt64) (a1:UInt64)  {r:UInt64 × UInt64} (h:cK_p n a0 a1 = some r) :
    Calls Tryz.prog 194 #[vU a0,vU a1] w (Gives w fun _ u=>u = .tuple #[vU r.1,vU r.2]):=by
 unfold cK_p at h
 have hS0:=AB w
 refine AF Tryz.func194 rfl rfl rfl fun _ cs0 hb0=>Ac<|Af rfl<|Af rfl<|Aa<|Ac<|Ae rfl<|Ab (FV.andU (a:=a0) (b:=(4294967295:UInt64)) rfl rfl)<|Af rfl<|Aa<|Ac<|Ae rfl<|Ab (FV.shrU (a:=a0) (j:=32) rfl rfl)<|Af rfl<|Aa<|Ac<|Ae rfl<|Ab (FV.andU (a:=a1) (b:=(4294967295:UInt64)) rfl rfl)<|Af rfl<|Aa<|Ac<|Ae rfl<|Ab (FV.shrU (a:=a1) (j:=32) rfl rfl)<|Af rfl<|Aa<|Ac<|Ae rfl<|Ae rfl<|Ab (FV.mulU (a:=a0 &&& (4294967295:UInt64)) (b:=a1 &&& (4294967295:UInt64)) rfl rfl)<|Af rfl<|Aa<|Ac<|Ae rfl<|Ae rfl<|Ab (FV.mulU (a:=shrU a0 32) (b:=a1 &&& (4294967295:UInt64)) rfl rfl)<|Ae rfl<|Ab (FV.shrU (a:=(a0 &&& (4294967295:UInt64)) * (a1 &&& (4294967295:UInt64))) (j:=32) rfl rfl)<|bk h fun u1 hu1 h=>Ab (FV.as (FV.addU (a:=(shrU a0 32) * (a1 &&& (4294967295:UInt64))) (b:=shrU ((a0 &&& (4294967295:UInt64)) * (a1 &&& (4294967295:UInt64))) 32) rfl rfl) (congrArg (fun z:UInt64=>Value.int .u64 (z.toNat:Int)) (Option.some.inj hu1)))<|Af rfl<|Aa<|Ac<|Ae rfl<|Ab (FV.andU (a:=u1) (b:=(4294967295:UInt64)) rfl rfl)<|Af rfl<|Aa<|Ac<|Ae rfl<|Ab (FV.shrU (a:=u1) (j:=32) rfl rfl)<|Af rfl<|Aa<|Ac<|Ae rfl<|Ae rfl<|Ae rfl ?_
 refine Ab (FV.mulU (a:=a0 &&& (4294967295:UInt64)) (b:=shrU a1 32) rfl rfl)<|Ab (FV.addU (a:=u1 &&& (4294967295:UInt64)) (b:=(a0 &&& (4294967295:UInt64)) * (shrU a1 32)) rfl rfl)<|Af rfl<|Aa<|Ac<|Ae rfl<|Ae rfl<|Ab (FV.mulU (a:=shrU a0 32) (b:=shrU a1 32) rfl rfl)<|Ae rfl<|Ab (FV.addU (a:=(shrU a0 32) * (shrU a1 32)) (b:=shrU u1 32) rfl rfl)<|Ae rfl<|bk h fun u2 hu2 h=>Ab (FV.as (FV.shrU (a:=(u1 &&& (4294967295:UInt64)) + ((a0 &&& (4294967295:UInt64)) * (shrU a1 32))) (j:=32) rfl rfl) (congrArg (fun z:UInt64=>Value.int .u64 (z.toNat:Int)) (Option.some.inj hu2)))<|Ab (FV.addU (a:=((shrU a0 32) * (shrU a1 32)) + (shrU u1 32)) (b:=u2) rfl rfl)<|Af rfl<|Aa<|Ac<|Ae rfl<|Ae rfl<|Ab (FV.mulU (a:=a0) (b:=a1) rfl rfl)<|Af rfl<|Aa<|Al rfl<|Ap hb0 Tryz.func194 rfl (.cons (.tmp rfl) (.cons (.tmp rfl) .nil)) rfl ?_
 cases h
 exact hS0.gv
theorem body194:bodyB Tryz.prog 194 = true:=by kernel_rfl
def aR_l1 (n:Nat) (a1:List UInt64) (s0:UInt64) (d0:Nat) (q0:UInt64 × Nat × (List UInt64) -> Option ((List UInt64) × UInt64)):UInt64 × Nat × (List UInt64) -> Option ((List UInt64) × UInt64)
  | (g0,b0,c0)=>(if b0 < a1.length then (a1[b0]?).bind fun t0=>(cK_p n s0 t0).bind fun j0=>(c0[d0 + b0]?).bind fun u0=>(add64 u0 j0.2 (0:UInt64)).bind fun k0=>(add64 k0.1 g0 (0:UInt64)).bind fun p0=>(put c0 ((d0 + b0:Nat):Int) p0.1).bind fun v0=>q0 ((j0.1 + k0.2) + p0.2,b0 + 1,v0) else some (c0,g0))
def aR_l2 (n:Nat) (a0:List UInt64) (a1:List UInt64) (g0:Nat × (List UInt64) -> Option (List UInt64)):Nat × (List UInt64) -> Option (List UInt64)
  | (b0,c0)=>(if b0 < a0.length then (a0[b0]?).bind fun k0=>Option.bind (loopF (aR_l1 n a1 k0 b0) n ((0:UInt64),0,c0)) (fun (d0,j0)=>(d0[b0 + a1.length]?).bind fun _x490=>(put d0 ((b0 + a1.length:Nat):Int) j0).bind fun p0=>g0 (b0 + 1,p0)) else some c0)
def aR_p (n:Nat) (a0:List UInt64) (a1:List UInt64):Option (List UInt64):=
  (mk ((a0.length + a1.length:Nat):Int) (0:UInt64)).bind fun b0=>Option.bind (loopF (aR_l2 n a0 a1) n (0,b0)) (fun c0=>some c0)
theorem aR_c (n:Nat) (L:List Nat) (w:World) (hL:∀ b ∈ L,b < w.heap.size) {a0:List UInt64} {v0_0:Value} (h0_0:Rep.R w L [v0_0] a0) {a1:List UInt64} {v1_0:Value} (h1_0:Rep.R w L [v1_0] a1)  {r:List UInt64} (h:aR_p n a0 a1 = some r) :
    Calls Tryz.prog 175 #[v0_0,v1_0] w (Gives w fun w' u=>∃ v0_0:Value,u = v0_0/\Rep.R w' L [v0_0] r):=by
 unfold aR_p at h
 refine AF Tryz.func175 rfl rfl rfl fun _ cs0 hb0=>Ac<|Af rfl<|Aa<|Ac<|Ae rfl ?_
 have hl1:a0.length <= 281474976710656:=AY h0_0
 refine Ab (Bc (xs:=a0) Tryz.underlying146 rfl h0_0)<|Ae rfl ?_
 have hl2:a1.length <= 281474976710656:=AY h1_0
 refine Ab (Bc (xs:=a1) Tryz.underlying146 rfl h1_0)<|Ab (Bw (i:=a0.length) (j:=a1.length) rfl rfl (by omega))<|bk h fun R0 J0 h=>Ak .plain rfl (Does.mk (α:=UInt64) J0 (AB w) el146 rfl) fun Q2 j0 z0 I2=>Af rfl<|Aa<|Aj<|Ac<|Ae rfl<|Ab (Bc (xs:=a0) Tryz.underlying146 rfl (AO h0_0 z0))<|Ae rfl<|Aa<|Ay ?_
 obtain ⟨M2,U1,I1⟩:=bind_in2 h
 refine MX.lf (α:=Nat × (List UInt64) × (List Value)) (fun ⟨b0,d0,k0⟩=>[(1,v1_0),(5,(.slice (some ⟨j0,0,none⟩) ((a0.length + a1.length:Nat):Int).toNat ((a0.length + a1.length:Nat):Int).toNat)),(22,v0_0),(23,vI ((a0.length:Nat):Int)),(24,vI ((b0:Nat):Int))]) (fun ⟨b0,d0,k0⟩=>[.row w.heap.size 33 (Rep.size UInt64) (.slice (some ⟨j0,0,none⟩) ((a0.length + a1.length:Nat):Int).toNat ((a0.length + a1.length:Nat):Int).toNat) d0.length k0]) (fun ⟨b0,d0,k0⟩ K0=>Cells K0 (bl [.row w.heap.size 33 (Rep.size UInt64) (.slice (some ⟨j0,0,none⟩) ((a0.length + a1.length:Nat):Int).toNat ((a0.length + a1.length:Nat):Int).toNat) d0.length k0] ++ L) k0 d0) (fun ⟨b0,d0,k0⟩=>(b0,d0)) (0,R0,(List.replicate ((a0.length + a1.length:Nat):Int).toNat [vW 0]).flatten) U1 z0 (Ax (cs:=(List.replicate ((a0.length + a1.length:Nat):Int).toNat [vW 0]).flatten) (xs:=R0) z0 L (Cells.mk J0 rfl)) ?_
 rintro A2 ⟨b0,d0,k0⟩ K0 q1 t0 x1 F0 h
 unfold aR_l2 at h
 try dsimp only at h
 refine Ac<|Ab (Bu (i:=b0) (j:=a0.length) rfl rfl)<|Aa<|Aj<|AS rfl h (fun Z0 h=>?_) (fun Z0 h=>?_)
 refine Aq<|Aj<|Ay<|Ac<|Ae rfl<|bk h fun D0 c2 h=>?_
 obtain ⟨y2,C2,C1,K1,c1,W1,P1⟩:=Bl (AO h0_0 t0) c2
 have D1:c1 = [vU D0]:=W1; subst D1
 refine Ab (Bm 1 b0 rfl C1 rfl rfl K1)<|AP rfl (P1 0 _ rfl)<|Af rfl<|Af rfl<|Aa<|Ac<|Af rfl<|Aa<|Aj<|Ac<|Ae rfl<|Ab (Bc (xs:=a1) Tryz.underlying146 rfl (AO h1_0 t0))<|Ae rfl<|Aa<|Ay ?_
 obtain ⟨P2,V1,J1⟩:=bind_in2 h
 refine MX.lf (α:=UInt64 × Nat × (List UInt64) × (List Value)) (fun ⟨s0,c0,p0,q0⟩=>[(1,v1_0),(5,(.slice (some ⟨j0,0,none⟩) ((a0.length + a1.length:Nat):Int).toNat ((a0.length + a1.length:Nat):Int).toNat)),(22,v0_0),(23,vI ((a0.length:Nat):Int)),(24,vI ((b0:Nat):Int)),(6,vI ((b0:Nat):Int)),(7,vU D0),(8,vU s0),(29,v1_0),(30,vI ((a1.length:Nat):Int)),(31,vI ((c0:Nat):Int))]) (fun ⟨s0,c0,p0,q0⟩=>[.row w.heap.size 33 (Rep.size UInt64) (.slice (some ⟨j0,0,none⟩) ((a0.length + a1.length:Nat):Int).toNat ((a0.length + a1.length:Nat):Int).toNat) p0.length q0]) (fun ⟨s0,c0,p0,q0⟩ M0=>Cells M0 (bl [.row w.heap.size 33 (Rep.size UInt64) (.slice (some ⟨j0,0,none⟩) ((a0.length + a1.length:Nat):Int).toNat ((a0.length + a1.length:Nat):Int).toNat) p0.length q0] ++ L) q0 p0) (fun ⟨s0,c0,p0,q0⟩=>(s0,c0,p0)) ((0:UInt64),0,d0,k0) V1 t0 F0 ?_
 rintro B2 ⟨s0,c0,p0,q0⟩ M0 s1 g0 E0 v0 h
 unfold aR_l1 at h
 try dsimp only at h
 refine Ac<|Ab (Bu (i:=c0) (j:=a1.length) rfl rfl)<|Aa<|Aj<|AS rfl h (fun b1 h=>?_) (fun b1 h=>?_)
 refine Aq<|Aj<|Ay<|Ac<|Ae rfl<|bk h fun P0 d2 h=>?_
 obtain ⟨z2,D2,E1,M1,d1,X1,Q1⟩:=Bl (AO h1_0 g0) d2
 have F1:d1 = [vU P0]:=X1; subst F1
 refine Ab (Bm 1 c0 rfl E1 rfl rfl M1)<|AP rfl (Q1 0 _ rfl)<|Af rfl<|Af rfl<|Aa<|Ac<|Ae rfl<|Ae rfl<|bk h fun u0 q2 h=>Bi (.tuple #[vU u0.1,vU u0.2]) body194 rfl (e2 rfl rfl) (fun w9 hw9=>cK_c n _ w9 (g0.hL0 hL hw9) D0 P0 q2) rfl<|Ae rfl<|Ab (Ah rfl rfl)<|Ab (Ah rfl rfl)<|Af rfl<|Af rfl<|Aa<|Ac<|Ae rfl<|Ae rfl<|Ae rfl<|Ab (Bw (i:=b0) (j:=c0) rfl rfl (by omega))<|bk h fun Q0 g2 h=>?_
 obtain ⟨V0,E2,x0,C0,g1,Y1,R1⟩:=St.nth (α:=UInt64) g0 .hd v0 g2
 obtain ⟨X0,F2,G0⟩:=BU (α:=UInt64) g0 .hd C0
 obtain rfl:V0 = ⟨X0,0,none⟩:=by rw [G0] at x0; cases x0; rfl
 have G1:g1 = [vU Q0]:=Y1; subst G1
 refine Ab (Bm 1 (b0 + c0) rfl x0 rfl rfl C0)<|AP rfl (R1 0 _ rfl)<|Ae rfl<|bk h fun y0 s2 h=>Ab (FV.add64 (a:=Q0) (b:=u0.2) (c:=(0:UInt64)) Tryz.func195 rfl (by kernel_rfl) (by kernel_rfl) (by kernel_rfl) rfl rfl rfl s2)<|Ae rfl<|Ab (Ah rfl rfl)<|Ab (Ah rfl rfl)<|Af rfl<|Af rfl<|Aa<|Ac<|Ae rfl<|Ae rfl<|bk h fun U0 t2 h=>Ab (FV.add64 (a:=y0.1) (b:=s0) (c:=(0:UInt64)) Tryz.func195 rfl (by kernel_rfl) (by kernel_rfl) (by kernel_rfl) rfl rfl rfl t2)<|Ae rfl<|Ab (Ah rfl rfl)<|Ab (Ah rfl rfl)<|Af rfl<|Af rfl<|Aa<|Av<|Ae rfl<|Ae rfl<|Ae rfl<|Ab (Bw (i:=b0) (j:=c0) rfl rfl (by omega))<|Ae rfl<|Ae rfl<|Ae rfl<|Ab (FV.addU (a:=u0.1) (b:=y0.2) rfl rfl)<|Ae rfl<|Ab (FV.addU (a:=u0.1 + y0.2) (b:=U0.2) rfl rfl)<|Ab (Bm 1 (b0 + c0) rfl x0 rfl rfl C0)<|bk h fun v2 k2 h=>RG.acts' .plain (Acts.set (α:=UInt64) (i:=b0 + c0) k2 g0 G0 (fun _=>.hd) v0 rfl rfl rfl rfl rfl (by kernel_rfl)) fun R2 ⟨j1,u1,y1,A1⟩=>Af rfl<|Aa<|AA<|Av<|Ab (Bw (i:=c0) (j:=1) rfl rfl (by omega))<|Ae rfl<|Aa<|s1 ((u0.1 + y0.2) + U0.2,c0 + 1,v2,j1) u1 (Tt E0 y1) A1 h
 refine Ba rfl ?_
 have h:=J1 _ h
 try dsimp only at h
 refine Av<|Ae rfl<|Ae rfl<|Ae rfl<|Ab (Bc (xs:=a1) Tryz.underlying146 rfl (AO h1_0 g0))<|Ab (Bw (i:=b0) (j:=a1.length) rfl rfl (by omega))<|Ae rfl<|bk h fun u2 j2 h=>?_
 obtain ⟨W0,G2,B0,I0,k1,Z1,K2⟩:=St.nth (α:=UInt64) g0 .hd v0 j2
 obtain ⟨Y0,H2,H0⟩:=BU (α:=UInt64) g0 .hd I0
 obtain rfl:W0 = ⟨Y0,0,none⟩:=by rw [H0] at B0; cases B0; rfl
 have H1:k1 = [vU u2]:=Z1; subst H1
 refine Ab (Bm 1 (b0 + a1.length) rfl B0 rfl rfl I0)<|bk h fun x2 p2 h=>RG.acts' .plain (Acts.set (α:=UInt64) (i:=b0 + a1.length) p2 g0 H0 (fun _=>.hd) v0 rfl rfl rfl rfl rfl (by kernel_rfl)) fun U2 ⟨p1,v1,z1,B1⟩=>Aa<|AA<|Av<|Ab (Bw (i:=b0) (j:=1) rfl rfl (by omega))<|Ae rfl<|Aa<|q1 (b0 + 1,x2,p1) v1 (Tt x1 (Tt E0 z1)) B1 h
 refine Ba rfl ?_
 have h:=I1 _ h
 try dsimp only at h
 refine Ac<|Ae rfl<|Af rfl<|Aa<|Al rfl ?_
 have A0:=By t0 .hd
 have J2:=Bz t0 .hd
 have b2:=BA (α:=UInt64) (v:=(.slice (some ⟨j0,0,none⟩) ((a0.length + a1.length:Nat):Int).toNat ((a0.length + a1.length:Nat):Int).toNat)) (xs:=d0) A0 L (Bj (α:=UInt64) t0 .hd F0 hL)
 refine AT hb0 Tryz.func175 rfl rfl ?_
 cases h
 exact ⟨A0.ag,fun w9 hw9=>⟨(.slice (some ⟨j0,0,none⟩) ((a0.length + a1.length:Nat):Int).toNat ((a0.length + a1.length:Nat):Int).toNat),rfl,A0.kd b2 hw9⟩⟩
def tb150_1:List (Nat × Nat × Nat):=[(0,32,4),(1,64,32),(0,128,8),(4,256,128),(10,512,320),(0,1024,4),(32,2048,1024),(0,4096,8),(128,8192,4096),(320,16384,10240),(528,32768,16896),(2047,0,32784)]
theorem body175:bodyB Tryz.prog 175 = true:=by kernel_rfl
def aM_p (n:Nat) (a0:Te) (a1:Te):Option Te:=
  (aR_p n a0.fm a1.fm).bind fun b0=>(ao_p n (!(a0.fc == a1.fc)) b0).bind fun c0=>some c0
theorem aM_c (n:Nat) (L:List Nat) (w:World) (hL:∀ b ∈ L,b < w.heap.size) (a0:Te) {v0_1:Value} (h0_1:Rep.R w L [v0_1] a0.fm) (a1:Te) {v1_1:Value} (h1_1:Rep.R w L [v1_1] a1.fm)  {r:Te} (h:aM_p n a0 a1 = some r) :
    Calls Tryz.prog 150 #[.agg #[.bool a0.fc,v0_1],.agg #[.bool a1.fc,v1_1]] w (Gives w fun w' u=>∃ v0_1:Value,u = .agg #[.bool r.fc,v0_1]/\Rep.R w' L [v0_1] r.fm):=by
 unfold aM_p at h
 refine AF Tryz.func150 rfl rfl rfl fun _ cs0 hb0=>Ac<|RG.bx (AB w) rfl rfl fun Q0 C0 s0 F0=>RG.bx s0 rfl rfl fun R0 D0 t0 G0=>RG.nl [.bool false,vN] t0 fun U0 E0 d0 H0=>Aa<|Aj<|dt 11 tb150_1 fun b0 c0=>Ag 0 1 b0 rfl c0 (fun _=>Bd 0 rfl) rfl<|AG 1 3 3088 b0 rfl c0 (AL rfl ((d0.memA .t2) 0 _ rfl)) rfl<|Ag 2 7 b0 rfl c0 (fun _=>Bd 0 rfl) rfl<|AG 3 15 3088 b0 rfl c0 (AL rfl ((d0.memA .t1) 0 _ rfl)) rfl<|Ag 4 31 b0 rfl c0 (fun _=>FV.neqB (a:=a0.fc) (b:=a1.fc) Tryz.underlying4 rfl rfl) rfl<|Ag 5 63 b0 rfl c0 (fun _=>Bd 1 rfl) rfl<|AG 6 127 3584 b0 rfl c0 (AL rfl ((d0.memA .t2) 1 _ rfl)) rfl<|Ag 7 255 b0 rfl c0 (fun _=>Bd 1 rfl) rfl<|AG 8 511 3584 b0 rfl c0 (AL rfl ((d0.memA .t1) 1 _ rfl)) rfl<|bk h fun Y0 A0 h=>BB 9 1023 b0 rfl .plain body175 rfl (e2 rfl rfl) (fun w9 hw9=>aR_c n _ w9 (d0.hL hL hw9) (d0.km h0_1 hw9) (d0.km h1_1 hw9) A0) rfl fun V0 M0 x0 ⟨K0,hu_,z0⟩=>?_
 subst hu_
 obtain ⟨k0,I0⟩:=d0.agr x0
 refine bk h fun q0 B0 h=>BB 10 2047 b0 rfl .plain body158 rfl (e2 rfl rfl) (fun w9 hw9=>ao_c n _ w9 (k0.hL hL hw9) (Ar z0 hw9) B0) rfl fun W0 P0 y0 ⟨j0,hu_,p0⟩=>?_
 subst hu_
 obtain ⟨u0,J0⟩:=k0.agr y0
 refine BJ 11 4095 b0 rfl rfl .plain (AH (news:=[.bool q0.fc,j0]) u0 .hd rfl rfl rfl rfl rfl rfl (o2 rfl (AR p0))) fun X0 g0 v0=>AM (dk b0)<|Al rfl<|Ap hb0 Tryz.func150 rfl (.cons (.many (cs:=[.bool q0.fc,j0]) (by kernel_rfl) rfl (g0.memA .hd)) .nil) rfl ?_
 cases h
 exact ⟨g0.ag,fun w9 hw9=>⟨j0,rfl,g0.kd (Ao p0 v0) hw9⟩⟩
def tb127_1:List (Nat × Nat × Nat):=[(0,32,4),(1,64,32),(0,128,8),(4,256,128),(10,512,320),(0,1024,8),(32,2048,1024),(0,4096,4),(128,8192,4096),(336,16384,10240),(528,32768,16896),(0,65536,4),(2048,131072,65536),(0,262144,8),(8192,524288,262144),(21504,1048576,655360),(33792,2097152,1081344),(131071,0,2097168)]
theorem body150:bodyB Tryz.prog 150 = true:=by kernel_rfl
def cg_p (n:Nat) (a0:Tg) (a1:Tg):Option Tg:=
  (aM_p n a0.fx a1.ft).bind fun b0=>(aM_p n a1.fx a0.ft).bind fun c0=>(bH_p n b0 c0).bind fun d0=>(aM_p n a0.ft a1.ft).bind fun g0=>(bP_p n d0 g0).bind fun j0=>some j0
theorem cg_c (n:Nat) (L:List Nat) (w:World) (hL:∀ b ∈ L,b < w.heap.size) (a0:Tg) {v0_1:Value} (h0_1:Rep.R w L [v0_1] a0.fx.fm) {v0_3:Value} (h0_3:Rep.R w L [v0_3] a0.ft.fm) (a1:Tg) {v1_1:Value} (h1_1:Rep.R w L [v1_1] a1.fx.fm) {v1_3:Value} (h1_3:Rep.R w L [v1_3] a1.ft.fm)  {r:Tg} (h:cg_p n a0 a1 = some r) :
    Calls Tryz.prog 127 #[.agg #[.bool a0.fx.fc,v0_1,.bool a0.ft.fc,v0_3],.agg #[.bool a1.fx.fc,v1_1,.bool a1.ft.fc,v1_3]] w (Gives w fun w' u=>∃ v0_1 v0_3:Value,u = .agg #[.bool r.fx.fc,v0_1,.bool r.ft.fc,v0_3]/\Rep.R w' L [v0_1] r.fx.fm/\Rep.R w' L [v0_3] r.ft.fm):=by
 unfold cg_p at h
 refine AF Tryz.func127 rfl rfl rfl fun _ cs0 hb0=>Ac<|RG.bx (AB w) rfl rfl fun F1 c1 z0 j1=>RG.bx z0 rfl rfl fun G1 d1 A0 k1=>RG.nl [.bool false,vN,.bool false,vN] A0 fun H1 g1 d0 p1=>Aa<|Aj<|dt 17 tb127_1 fun b0 c0=>Ag 0 1 b0 rfl c0 (fun _=>Bd 0 rfl) rfl<|AG 1 3 230928 b0 rfl c0 (Bp (cs:=[.bool a0.fx.fc,v0_1]) (by kernel_rfl) rfl (mem_part (d0.memA .t2) 0 2)) rfl<|Ag 2 7 b0 rfl c0 (fun _=>Bd 2 rfl) rfl<|AG 3 15 230928 b0 rfl c0 (Bp (cs:=[.bool a1.ft.fc,v1_3]) (by kernel_rfl) rfl (mem_part (d0.memA .t1) 2 2)) rfl<|Ag 5 47 b0 rfl c0 (fun _=>Bd 0 rfl) rfl<|AG 6 111 230912 b0 rfl c0 (Bp (cs:=[.bool a1.fx.fc,v1_1]) (by kernel_rfl) rfl (mem_part (d0.memA .t1) 0 2)) rfl<|Ag 7 239 b0 rfl c0 (fun _=>Bd 2 rfl) rfl<|AG 8 495 230912 b0 rfl c0 (Bp (cs:=[.bool a0.ft.fc,v0_3]) (by kernel_rfl) rfl (mem_part (d0.memA .t2) 2 2)) rfl<|Ag 11 2543 b0 rfl c0 (fun _=>Bd 2 rfl) rfl<|AG 12 6639 229376 b0 rfl c0 (Bp (cs:=[.bool a0.ft.fc,v0_3]) (by kernel_rfl) rfl (mem_part (d0.memA .t2) 2 2)) rfl<|Ag 13 14831 b0 rfl c0 (fun _=>Bd 2 rfl) rfl<|AG 14 31215 229376 b0 rfl c0 (Bp (cs:=[.bool a1.ft.fc,v1_3]) (by kernel_rfl) rfl (mem_part (d0.memA .t1) 2 2)) rfl<|bk h fun X0 Q0 h=>BB 4 31231 b0 rfl .plain body150 rfl (e2 rfl rfl) (fun w9 hw9=>aM_c n _ w9 (d0.hL hL hw9) a0.fx (d0.km h0_1 hw9) a1.ft (d0.km h1_3 hw9) Q0) rfl fun I1 A1 E0 ⟨v1,hu_,J0⟩=>?_
 subst hu_
 obtain ⟨g0,q1⟩:=d0.agr E0
 refine bk h fun Y0 R0 h=>BB 9 31743 b0 rfl .plain body150 rfl (e2 rfl rfl) (fun w9 hw9=>aM_c n _ w9 (g0.hL hL hw9) a1.fx (g0.km h1_1 hw9) a0.ft (g0.km h0_3 hw9) R0) rfl fun J1 B1 F0 ⟨x1,hu_,K0⟩=>?_
 subst hu_
 obtain ⟨t0,C0⟩:=g0.agr F0
 refine bk h fun Z0 U0 h=>BB 10 32767 b0 rfl .plain body159 rfl (e2 rfl rfl) (fun w9 hw9=>bH_c n _ w9 (t0.hL hL hw9) X0 (Ar (Ao J0 C0) hw9) Y0 (Ar K0 hw9) U0) rfl fun K1 C1 G0 ⟨y1,hu_,M0⟩=>?_
 subst hu_
 obtain ⟨j0,s1⟩:=t0.agr G0
 refine bk h fun b1 V0 h=>BB 15 65535 b0 rfl .plain body150 rfl (e2 rfl rfl) (fun w9 hw9=>aM_c n _ w9 (j0.hL hL hw9) a0.ft (j0.km h0_3 hw9) a1.ft (j0.km h1_3 hw9) V0) rfl fun M1 D1 H0 ⟨z1,hu_,P0⟩=>?_
 subst hu_
 obtain ⟨u0,D0⟩:=j0.agr H0
 refine bk h fun p0 W0 h=>BB 16 131071 b0 rfl .plain body149 rfl (e2 rfl rfl) (fun w9 hw9=>bP_c n _ w9 (u0.hL hL hw9) Z0 (Ar (Ao M0 D0) hw9) b1 (Ar P0 hw9) W0) rfl fun P1 E1 I0 ⟨q0,s0,hu_,x0,y0⟩=>?_
 subst hu_
 obtain ⟨B0,u1⟩:=u0.agr I0
 refine BJ 17 262143 b0 rfl rfl .plain (AH (news:=[.bool p0.fx.fc,q0,.bool p0.ft.fc,s0]) B0 .hd rfl rfl rfl rfl rfl rfl (o4 rfl (AR x0) rfl (AR y0))) fun Q1 k0 v0=>AM (dk b0)<|Al rfl<|Ap hb0 Tryz.func127 rfl (.cons (.many (cs:=[.bool p0.fx.fc,q0,.bool p0.ft.fc,s0]) (by kernel_rfl) rfl (k0.memA .hd)) .nil) rfl ?_
 cases h
 exact ⟨k0.ag,fun w9 hw9=>⟨q0,s0,rfl,k0.kd (Ao x0 v0) hw9,k0.kd (Ao y0 v0) hw9⟩⟩
def tb111_1:List (Nat × Nat × Nat):=[(0,32,4),(0,64,8),(2,128,64),(5,256,160),(15,0,272)]
theorem body124:bodyB Tryz.prog 124 = true:=by kernel_rfl
theorem body127:bodyB Tryz.prog 127 = true:=by kernel_rfl
def cz_p (n:Nat) (a0:Tg) (a1:Tg):Option Tg:=
  (bQ_p n a1).bind fun b0=>(cg_p n a0 b0).bind fun c0=>some c0
theorem cz_c (n:Nat) (L:List Nat) (w:World) (hL:∀ b ∈ L,b < w.heap.size) (a0:Tg) {v0_1:Value} (h0_1:Rep.R w L [v0_1] a0.fx.fm) {v0_3:Value} (h0_3:Rep.R w L [v0_3] a0.ft.fm) (a1:Tg) {v1_1:Value} (h1_1:Rep.R w L [v1_1] a1.fx.fm) {v1_3:Value} (h1_3:Rep.R w L [v1_3] a1.ft.fm)  {r:Tg} (h:cz_p n a0 a1 = some r) :
    Calls Tryz.prog 111 #[.agg #[.bool a0.fx.fc,v0_1,.bool a0.ft.fc,v0_3],.agg #[.bool a1.fx.fc,v1_1,.bool a1.ft.fc,v1_3]] w (Gives w fun w' u=>∃ v0_1 v0_3:Value,u = .agg #[.bool r.fx.fc,v0_1,.bool r.ft.fc,v0_3]/\Rep.R w' L [v0_1] r.fx.fm/\Rep.R w' L [v0_3] r.ft.fm):=by
 unfold cz_p at h
 refine AF Tryz.func111 rfl rfl rfl fun _ cs0 hb0=>Ac<|RG.bx (AB w) rfl rfl fun X0 G0 v0 J0=>RG.bx v0 rfl rfl fun Y0 H0 x0 K0=>RG.nl [.bool false,vN,.bool false,vN] x0 fun Z0 I0 b0 M0=>Aa<|Aj<|dt 4 tb111_1 fun c0 u0=>AG 0 1 24 c0 rfl u0 (AK rfl (b0.memA .t2)) rfl<|AG 1 3 28 c0 rfl u0 (AK rfl (b0.memA .t1)) rfl<|bk h fun F0 D0 h=>BB 2 7 c0 rfl .plain body124 rfl (e1 rfl) (fun w9 hw9=>bQ_c n _ w9 (b0.hL hL hw9) a1 (b0.km h1_1 hw9) (b0.km h1_3 hw9) D0) rfl fun b1 V0 z0 ⟨R0,U0,hu_,B0,C0⟩=>?_
 subst hu_
 obtain ⟨d0,P0⟩:=b0.agr z0
 refine bk h fun j0 E0 h=>BB 3 15 c0 rfl .plain body127 rfl (e2 rfl rfl) (fun w9 hw9=>cg_c n _ w9 (d0.hL hL hw9) a0 (d0.km h0_1 hw9) (d0.km h0_3 hw9) F0 (Ar B0 hw9) (Ar C0 hw9) E0) rfl fun c1 W0 A0 ⟨k0,p0,hu_,s0,t0⟩=>?_
 subst hu_
 obtain ⟨y0,Q0⟩:=d0.agr A0
 refine BJ 4 31 c0 rfl rfl .plain (AH (news:=[.bool j0.fx.fc,k0,.bool j0.ft.fc,p0]) y0 .hd rfl rfl rfl rfl rfl rfl (o4 rfl (AR s0) rfl (AR t0))) fun d1 g0 q0=>AM (dk c0)<|Al rfl<|Ap hb0 Tryz.func111 rfl (.cons (.many (cs:=[.bool j0.fx.fc,k0,.bool j0.ft.fc,p0]) (by kernel_rfl) rfl (g0.memA .hd)) .nil) rfl ?_
 cases h
 exact ⟨g0.ag,fun w9 hw9=>⟨k0,p0,rfl,g0.kd (Ao s0 q0) hw9,g0.kd (Ao t0 q0) hw9⟩⟩
def tb109_4:List (Nat × Nat × Nat):=[(0,32768,4),(0,65536,8),(2,131072,65536),(0,262144,16),(12,524288,262144),(21,1048576,688128),(63,0,1048640),(127,128,0)]
theorem el63:ElT Tryz.prog 63 37 (Rep.size Ta) 128 (.agg zM) zL:=⟨Tryz.underlying63,by kernel_rfl,rfl,rfl,rfl,rfl⟩
theorem body107:bodyB Tryz.prog 107 = true:=by kernel_rfl
theorem body108:bodyB Tryz.prog 108 = true:=by kernel_rfl
theorem body109:bodyB Tryz.prog 109 = true:=by kernel_rfl
theorem body111:bodyB Tryz.prog 111 = true:=by kernel_rfl
def cR_p (n:Nat) (a0:Ta) (a1:Ta):Option (Ta × Int):=
  (aI_p n ([a0,a1]:List Ta)).bind fun d0=>(if d0 = true then (aD_p n a0).bind fun g0=>(aD_p n a1).bind fun j0=>(cz_p n g0 j0).bind fun k0=>(bg_p n k0 (0:Int)).bind fun c0=>some (c0.1,c0.2) else (bg_p n (⟨(⟨false,([]:List UInt64)⟩:Te),(⟨false,([]:List UInt64)⟩:Te)⟩:Tg) (20:Int)).bind fun b0=>some (b0.1,b0.2))
theorem cR_c (n:Nat) (L:List Nat) (w:World) (hL:∀ b ∈ L,b < w.heap.size) (a0:Ta) (a1:Ta)  {r:Ta × Int} (h:cR_p n a0 a1 = some r) :
    Calls Tryz.prog 66 #[.agg ((cs_Ta a0)).toArray,.agg ((cs_Ta a1)).toArray] w (Gives w fun _ u=>u = .tuple #[.agg ((cs_Ta r.1)).toArray,vI r.2]):=by
 unfold cR_p at h
 refine AF Tryz.func66 rfl rfl rfl fun _ cs0 hb0=>Ac<|RG.bx (AB w) rfl rfl fun j2 s1 I0 F1=>RG.bx I0 rfl rfl fun k2 u1 J0 G1=>RG.nl zL J0 fun p2 v1 q0 H1=>Af rfl<|Aa<|Ac<|Ab (AK rfl (q0.memA .t2))<|Ab (AK rfl (q0.memA .t1))<|BM (fst:=[]) (cap:=[]) (vs:=[.agg ((cs_Ta a0)).toArray,.agg ((cs_Ta a1)).toArray,.func (.func 111) #[] #[]]) .plain body109 Tryz.func109 rfl rfl rfl rfl (e3 rfl rfl rfl) rfl fun C1 E0 V1=>Ac<|RG.bx q0 rfl rfl fun q2 x1 K0 I1=>RG.bx K0 rfl rfl fun s2 y1 M0 J1=>RG.nl [.bool false,vN,.bool false,vN] M0 fun u2 z1 s0 K1=>Af rfl<|Aa<|Aj<|Ac<|Ab (AK rfl (s0.memA .t2))<|Ab (AK rfl (s0.memA .t1))<|Ak .plain rfl (AE (α:=Ta) (xs:=([a0,a1]:List Ta)) (vs:=[.agg ((cs_Ta a0)).toArray,.agg ((cs_Ta a1)).toArray]) (ds' :=(cs_Ta a0 ++ cs_Ta a1)) rfl s0 el63 rfl (e2 rfl rfl) (by kernel_rfl) rfl) fun v2 A1 c0 M1=>?_
 refine bk h fun k1 b1 h=>Bi (.bool k1) body107 rfl (e1 rfl) (fun w9 hw9=>aI_c n _ w9 (c0.hL0 hL hw9) (Ar (St.lend (α:=Ta) (L:=L) c0 .hd (Ax (cs:=(cs_Ta a0 ++ cs_Ta a1)) (xs:=(([a0,a1]:List Ta):List Ta)) c0 L (Am (cs:=(cs_Ta a0)) (ds:=(cs_Ta a1)) (mk_Ta a0.fN a0.fD) (Am (cs:=(cs_Ta a1)) (ds:=[]) (mk_Ta a1.fN a1.fD) (AD _ _)))) hL) hw9) b1) rfl<|Ab (Bo rfl)<|Aa<|MX.ifnb rfl h (fun H0 h=>?_) (fun H0 h=>?_)
 refine Aq<|Aj<|dt 6 tb109_4 fun b0 t0=>Ag 0 1 b0 rfl t0 (fun _=>Ai rfl) rfl<|AG 1 3 244 b0 rfl t0 (AK rfl (c0.memA .t3)) rfl<|AG 3 11 240 b0 rfl t0 (AK rfl (c0.memA .t2)) rfl<|bk h fun p1 c1 h=>BB 2 15 b0 rfl .plain body148 rfl (e1 rfl) (fun w9 hw9=>aD_c n _ w9 (c0.hL hL hw9) a0 c1) rfl fun x2 b2 Q0 ⟨W1,X1,hu_,V0,W0⟩=>?_
 subst hu_
 obtain ⟨y0,P1⟩:=c0.agr Q0
 refine bk h fun q1 d1 h=>BB 4 31 b0 rfl .plain body148 rfl (e1 rfl) (fun w9 hw9=>aD_c n _ w9 (y0.hL hL hw9) a1 d1) rfl fun y2 c2 R0 ⟨Y1,Z1,hu_,X0,Y0⟩=>?_
 subst hu_
 obtain ⟨z0,C0⟩:=y0.agr R0
 refine bk h fun d0 g1 h=>BB 5 63 b0 rfl .plain body111 rfl (e2 rfl rfl) (fun w9 hw9=>cz_c n _ w9 (z0.hL hL hw9) p1 (Ar (Ao V0 C0) hw9) (Ar (Ao W0 C0) hw9) q1 (Ar X0 hw9) (Ar Y0 hw9) g1) rfl fun z2 d2 U0 ⟨u0,v0,hu_,F0,G0⟩=>?_
 subst hu_
 obtain ⟨P0,Q1⟩:=z0.agr U0
 refine BJ 6 127 b0 rfl rfl .plain (AH (news:=[.bool d0.fx.fc,u0,.bool d0.ft.fc,v0]) P0 .t1 rfl rfl rfl rfl rfl rfl (o4 rfl (AR F0) rfl (AR G0))) fun A2 g0 D0=>Be (i:=7) (rk b0) (Bq (m' :=255) (sk b0) rfl .plain rfl (AU rfl) ?_)
 refine AM (dk b0)<|Al rfl<|Ap (u:=.tuple #[.agg #[.bool d0.fx.fc,u0,.bool d0.ft.fc,v0],vI 0]) E0 Tryz.func109 rfl (.cons (.many (cs:=[.bool d0.fx.fc,u0,.bool d0.ft.fc,v0]) (by kernel_rfl) rfl (g0.memA .t1)) (.cons (.tmp rfl) .nil)) rfl<|Ab (Ah rfl rfl)<|Ab (Ah rfl rfl)<|bk h fun k0 j1 h=>Bi (.tuple #[.agg ((cs_Ta k0.1)).toArray,vI k0.2]) body108 rfl (e2 rfl rfl) (fun w9 hw9=>bg_c n _ w9 (g0.hL0 hL hw9) d0 (g0.kd (Ao F0 D0) hw9) (g0.kd (Ao G0 D0) hw9) j1) rfl<|Ab (Ah rfl rfl)<|Ab (Ah rfl rfl)<|AQ (cs_Ta k0.1) g0 .t4 (onesB rfl) fun B2 A0 R1=>Af rfl<|Aa<|Al rfl<|Ap hb0 Tryz.func66 rfl (.cons (.many (cs:=(cs_Ta k0.1)) (by kernel_rfl) rfl (A0.memA .t4)) (.cons (.tmp rfl) .nil)) rfl ?_
 cases h
 exact A0.gv
 refine Ac<|RG.nl [.bool false,vN,.bool false,vN] c0 fun C2 B1 B0 U1=>Aa<|Ac<|Ab (AK rfl (B0.memA .hd))<|AQ [.bool false,vN,.bool false,vN] B0 .t2 (onesB rfl) fun D2 p0 D1=>Af rfl<|Aa<|Al rfl<|Ap (u:=.tuple #[.agg #[.bool false,vN,.bool false,vN],vI 20]) E0 Tryz.func109 rfl (.cons (.many (cs:=[.bool false,vN,.bool false,vN]) (by kernel_rfl) rfl (p0.memA .t2)) (.cons (.tmp rfl) .nil)) rfl<|Ab (Ah rfl rfl)<|Ab (Ah rfl rfl)<|bk h fun j0 Z0 h=>Bi (.tuple #[.agg ((cs_Ta j0.1)).toArray,vI j0.2]) body108 rfl (e2 rfl rfl) (fun w9 hw9=>bg_c n _ w9 (p0.hL0 hL hw9) (⟨(⟨false,([]:List UInt64)⟩:Te),(⟨false,([]:List UInt64)⟩:Te)⟩:Tg) (Ar (Rep.nilSlice _ _) hw9) (Ar (Rep.nilSlice _ _) hw9) Z0) rfl<|Ab (Ah rfl rfl)<|Ab (Ah rfl rfl)<|AQ (cs_Ta j0.1) p0 .t5 (onesB rfl) fun g2 x0 E1=>Af rfl<|Aa<|Al rfl<|Ap hb0 Tryz.func66 rfl (.cons (.many (cs:=(cs_Ta j0.1)) (by kernel_rfl) rfl (x0.memA .t5)) (.cons (.tmp rfl) .nil)) rfl ?_
 cases h
 exact x0.gv
def bz_p (_n:Nat) (a0:Int) (a1:Int):Option (Except Tf Int):=
  (if a1 = 0 then some (.ok a0) else some (.error (⟨a1⟩:Tf)))
theorem bz_c (n:Nat) (L:List Nat) (w:World) (_hL:∀ b ∈ L,b < w.heap.size) {a0:Int} {a1:Int}  {r:Except Tf Int} (h:bz_p n a0 a1 = some r) :
    Calls Tryz.prog 81 #[vI a0,vI a1] w (PGives w (fun (y:Int) _ u=>u = vI y) (fun e=>.iface 120 (.agg #[vI e.fA])) r):=by
 unfold bz_p at h
 have hS0:=AB w
 refine MX.startP Tryz.func81 rfl rfl rfl fun _ cs0 hb0 hp0=>Ac<|Af rfl<|Aa<|Aj<|Ac<|Ae rfl<|Ab (FV.neq (i:=a1) (j:=0) rfl rfl)<|Aa<|MX.ifn rfl h (fun c1 h=>?_) (fun c1 h=>?_)
 refine Aq<|Ac<|Ae rfl<|Af rfl<|Aa<|Al rfl<|AT hb0 Tryz.func81 rfl rfl ?_
 cases h
 exact ⟨hS0.ag,fun w9 hw9=>okOf_in rfl⟩
 refine Av<|Ae rfl<|Ab (AX (vs:=[vI a1]) (u:=.agg #[vI a1]) (e1 rfl) (fun w9=>by kernel_rfl))<|Ab (FV.makeInterface (by kernel_rfl) rfl)<|RG.panic .plain rfl ?_
 cases h
 exact Bf hp0 Tryz.func81 ⟨hS0.ag,rfl⟩
def cZ_p (n:Nat) (a0:Tg) (_a1:Tg):Option Int:=
  (cb_p n a0.fx).bind fun b0=>some b0
theorem cZ_c (n:Nat) (L:List Nat) (w:World) (hL:∀ b ∈ L,b < w.heap.size) (a0:Tg) {v0_1:Value} (h0_1:Rep.R w L [v0_1] a0.fx.fm) {v0_3:Value} (_h0_3:Rep.R w L [v0_3] a0.ft.fm) (a1:Tg) {v1_1:Value} (_h1_1:Rep.R w L [v1_1] a1.fx.fm) {v1_3:Value} (_h1_3:Rep.R w L [v1_3] a1.ft.fm)  {r:Int} (h:cZ_p n a0 a1 = some r) :
    Calls Tryz.prog 119 #[.agg #[.bool a0.fx.fc,v0_1,.bool a0.ft.fc,v0_3],.agg #[.bool a1.fx.fc,v1_1,.bool a1.ft.fc,v1_3]] w (Gives w fun _ u=>u = vI r):=by
 unfold cZ_p at h
 refine AF Tryz.func119 rfl rfl rfl fun _ cs0 hb0=>Ac<|RG.bx (AB w) rfl rfl fun t0 j0 c0 q0=>RG.bx c0 rfl rfl fun u0 p0 b0 s0=>Af rfl<|Aa<|Ac<|AV 0 rfl<|Ab (Bp (cs:=[.bool a0.fx.fc,v0_1]) (by kernel_rfl) rfl (mem_part (b0.memA .t1) 0 2))<|bk h fun g0 d0 h=>Bi (vI g0) body120 rfl (e1 rfl) (fun w9 hw9=>cb_c n _ w9 (b0.hL0 hL hw9) a0.fx (b0.k0 h0_1 hw9) d0) rfl<|Af rfl<|Aa<|Al rfl<|AT hb0 Tryz.func119 rfl rfl ?_
 cases h
 exact b0.gv
def tb118_4:List (Nat × Nat × Nat):=[(0,32768,4),(0,65536,8),(2,131072,65536),(0,262144,16),(12,524288,262144),(21,1048576,688128),(63,64,1048576),(127,128,0)]
theorem body118:bodyB Tryz.prog 118 = true:=by kernel_rfl
theorem body119:bodyB Tryz.prog 119 = true:=by kernel_rfl
def dl_p (n:Nat) (a0:Ta):Option (Int × Int):=
  (aI_p n ([a0,a0]:List Ta)).bind fun b0=>(if b0 = true then (aD_p n a0).bind fun c0=>(aD_p n a0).bind fun d0=>(cZ_p n c0 d0).bind fun g0=>some (g0,(0:Int)) else some ((0:Int),(20:Int)))
theorem dl_c (n:Nat) (L:List Nat) (w:World) (hL:∀ b ∈ L,b < w.heap.size) (a0:Ta)  {r:Int × Int} (h:dl_p n a0 = some r) :
    Calls Tryz.prog 82 #[.agg ((cs_Ta a0)).toArray] w (Gives w fun _ u=>u = .tuple #[vI r.1,vI r.2]):=by
 unfold dl_p at h
 refine AF Tryz.func82 rfl rfl rfl fun _ cs0 hb0=>Ac<|RG.bx (AB w) rfl rfl fun p1 K0 j0 U0=>Af rfl<|Af rfl<|Aa<|Ac<|Ab (AK rfl (j0.memA .hd))<|Ab (AK rfl (j0.memA .hd))<|BM (fst:=[]) (cap:=[]) (vs:=[.agg ((cs_Ta a0)).toArray,.agg ((cs_Ta a0)).toArray,.func (.func 119) #[] #[]]) .plain body118 Tryz.func118 rfl rfl rfl rfl (e3 rfl rfl rfl) rfl fun R0 s0 Z0=>Ac<|RG.bx j0 rfl rfl fun q1 M0 v0 V0=>RG.bx v0 rfl rfl fun s1 P0 k0 W0=>Af rfl<|Af rfl<|Aa<|Aj<|Ac<|Ab (AK rfl (k0.memA .t1))<|Ab (AK rfl (k0.memA .hd))<|Ak .plain rfl (AE (α:=Ta) (xs:=([a0,a0]:List Ta)) (vs:=[.agg ((cs_Ta a0)).toArray,.agg ((cs_Ta a0)).toArray]) (ds' :=(cs_Ta a0 ++ cs_Ta a0)) rfl k0 el63 rfl (e2 rfl rfl) (by kernel_rfl) rfl) fun u1 Q0 c0 X0=>bk h fun H0 D0 h=>Bi (.bool H0) body107 rfl (e1 rfl) (fun w9 hw9=>aI_c n _ w9 (c0.hL0 hL hw9) (Ar (St.lend (α:=Ta) (L:=L) c0 .hd (Ax (cs:=(cs_Ta a0 ++ cs_Ta a0)) (xs:=(([a0,a0]:List Ta):List Ta)) c0 L (Am (cs:=(cs_Ta a0)) (ds:=(cs_Ta a0)) (mk_Ta a0.fN a0.fD) (Am (cs:=(cs_Ta a0)) (ds:=[]) (mk_Ta a0.fN a0.fD) (AD _ _)))) hL) hw9) D0) rfl<|Ab (Bo rfl)<|Aa<|MX.ifnb rfl h (fun u0 h=>?_) (fun u0 h=>?_)
 refine Aq<|Aj<|dt 8 tb118_4 fun b0 g0=>Ag 0 1 b0 rfl g0 (fun _=>Ai rfl) rfl<|AG 1 3 244 b0 rfl g0 (AK rfl (c0.memA .t2)) rfl<|AG 3 11 240 b0 rfl g0 (AK rfl (c0.memA .t1)) rfl<|bk h fun I0 E0 h=>BB 2 15 b0 rfl .plain body148 rfl (e1 rfl) (fun w9 hw9=>aD_c n _ w9 (c0.hL hL hw9) a0 E0) rfl fun v1 j1 x0 ⟨b1,c1,hu_,z0,A0⟩=>?_
 subst hu_
 obtain ⟨p0,Y0⟩:=c0.agr x0
 refine bk h fun J0 F0 h=>BB 4 31 b0 rfl .plain body148 rfl (e1 rfl) (fun w9 hw9=>aD_c n _ w9 (p0.hL hL hw9) a0 F0) rfl fun x1 k1 y0 ⟨d1,g1,hu_,B0,C0⟩=>?_
 subst hu_
 obtain ⟨d0,q0⟩:=p0.agr y0
 refine bk h fun t0 G0 h=>BT 5 63 192 (vI t0) b0 rfl g0 body119 rfl (e2 rfl rfl) (fun w9 hw9=>cZ_c n _ w9 (d0.hL0 hL hw9) I0 (d0.kd (Ao z0 q0) hw9) (d0.kd (Ao A0 q0) hw9) J0 (d0.kd B0 hw9) (d0.kd C0 hw9) G0) rfl<|Ag 6 127 b0 rfl g0 (fun _=>AU rfl) rfl<|Ag 7 255 b0 rfl g0 (fun _=>AU rfl) rfl<|AM (dk b0)<|Al rfl<|Ap (u:=.tuple #[vI t0,vI 0]) s0 Tryz.func118 rfl (.cons (.tmp rfl) (.cons (.tmp rfl) .nil)) rfl<|Ab (Ah rfl rfl)<|Ab (Ah rfl rfl)<|Af rfl<|Af rfl<|Aa<|Al rfl<|Ap hb0 Tryz.func82 rfl (.cons (.tmp rfl) (.cons (.tmp rfl) .nil)) rfl ?_
 cases h
 exact d0.gv
 refine Ac<|Af rfl<|Aa<|Ac<|Ae rfl<|Af rfl<|Af rfl<|Aa<|Al rfl<|Ap (u:=.tuple #[vI 0,vI 20]) s0 Tryz.func118 rfl (.cons (.tmp rfl) (.cons (.tmp rfl) .nil)) rfl<|Ab (Ah rfl rfl)<|Ab (Ah rfl rfl)<|Af rfl<|Af rfl<|Aa<|Al rfl<|Ap hb0 Tryz.func82 rfl (.cons (.tmp rfl) (.cons (.tmp rfl) .nil)) rfl ?_
 cases h
 exact c0.gv
def tb84_2:List (Nat × Nat × Nat):=[(0,256,16),(1,512,256),(0,1024,2),(6,2048,1536)]
def dm_p (n:Nat) (a0:UInt64 × UInt64 × UInt64 × UInt64 × UInt64 × UInt64 × UInt64 × UInt64):Option (Int × Int):=
  (cM_p n (i64of a0.1)).bind fun b0=>(if b0 = a0 then some (i64of a0.1,(0:Int)) else some ((0:Int),(6:Int)))
theorem dm_c (n:Nat) (L:List Nat) (w:World) (hL:∀ b ∈ L,b < w.heap.size) (a0:UInt64 × UInt64 × UInt64 × UInt64 × UInt64 × UInt64 × UInt64 × UInt64)  {r:Int × Int} (h:dm_p n a0 = some r) :
    Calls Tryz.prog 84 #[.agg ((cs_A34 a0)).toArray] w (Gives w fun _ u=>u = .tuple #[vI r.1,vI r.2]):=by
 unfold dm_p at h
 refine AF Tryz.func84 rfl rfl rfl fun _ cs0 hb0=>Ac<|RG.bx (AB w) rfl rfl fun s0 p0 b0 q0=>Af rfl<|Af rfl<|Aa<|Ac<|Ab (Bg (m:=1) (k:=0) (len:=8) (by kernel_rfl) rfl rfl rfl (by omega))<|AP rfl ((b0.memA .hd) 0 _ rfl)<|Ab (FV.convUI (a:=a0.1) Tryz.underlying33 Tryz.underlying3 rfl)<|Af rfl<|Aa<|Aj<|Aj<|dt 4 tb84_2 fun c0 d0=>Ag 0 1 c0 rfl d0 (fun _=>Ai rfl) rfl<|bk h fun g0 k0 h=>BT 1 3 8 (.agg ((cs_A34 g0)).toArray) c0 rfl d0 body113 rfl (e1 rfl) (fun w9 hw9=>cM_c n _ w9 (b0.hL0 hL hw9)  k0) rfl<|AG 2 7 8 c0 rfl d0 (AK rfl (b0.memA .hd)) rfl<|Ag 3 15 c0 rfl d0 (fun _=>FV.neqV (xs:=((cs_A34 g0)).toArray) (ys:=((cs_A34 a0)).toArray) rfl rfl (by kernel_rfl) (eqlD_35 g0 a0)) rfl<|AM (dk c0)<|MX.ifn rfl h (fun j0 h=>?_) (fun j0 h=>?_)
 refine Aq<|Ac<|Ae rfl<|Af rfl<|Af rfl<|Aa<|Al rfl<|Ap hb0 Tryz.func84 rfl (.cons (.tmp rfl) (.cons (.tmp rfl) .nil)) rfl ?_
 cases h
 exact b0.gv
 refine Ac<|Af rfl<|Af rfl<|Aa<|Al rfl<|Ap hb0 Tryz.func84 rfl (.cons (.tmp rfl) (.cons (.tmp rfl) .nil)) rfl ?_
 cases h
 exact b0.gv
def bp_p (_n:Nat) (a0:UInt64 × UInt64 × UInt64 × UInt64 × UInt64 × UInt64 × UInt64 × UInt64) (a1:Int):Option (Except Tf (UInt64 × UInt64 × UInt64 × UInt64 × UInt64 × UInt64 × UInt64 × UInt64)):=
  (if a1 = 0 then some (.ok a0) else some (.error (⟨a1⟩:Tf)))
theorem bp_c (n:Nat) (L:List Nat) (w:World) (_hL:∀ b ∈ L,b < w.heap.size) (a0:UInt64 × UInt64 × UInt64 × UInt64 × UInt64 × UInt64 × UInt64 × UInt64) {a1:Int}  {r:Except Tf (UInt64 × UInt64 × UInt64 × UInt64 × UInt64 × UInt64 × UInt64 × UInt64)} (h:bp_p n a0 a1 = some r) :
    Calls Tryz.prog 85 #[.agg ((cs_A34 a0)).toArray,vI a1] w (PGives w (fun (y:UInt64 × UInt64 × UInt64 × UInt64 × UInt64 × UInt64 × UInt64 × UInt64) _ u=>u = .agg ((cs_A34 y)).toArray) (fun e=>.iface 120 (.agg #[vI e.fA])) r):=by
 unfold bp_p at h
 refine MX.startP Tryz.func85 rfl rfl rfl fun _ cs0 hb0 hp0=>Ac<|RG.bx (AB w) rfl rfl fun t0 j0 g0 p0=>RG.nl zP g0 fun u0 k0 b0 q0=>Aa<|Aj<|Ac<|Ae rfl<|Ab (FV.neq (i:=a1) (j:=0) rfl rfl)<|Aa<|MX.ifn rfl h (fun d0 h=>?_) (fun d0 h=>?_)
 refine Aq<|Ac<|Ab (AK rfl (b0.memA .t1))<|AQ (cs_A34 a0) b0 .hd (onesB rfl) fun v0 c0 s0=>Aa<|Al rfl<|Ap hb0 Tryz.func85 rfl (.cons (.many (cs:=(cs_A34 a0)) (by kernel_rfl) rfl (c0.memA .hd)) .nil) rfl ?_
 cases h
 exact ⟨c0.ag,fun w9 hw9=>okOf_in rfl⟩
 refine Av<|Ae rfl<|Ab (AX (vs:=[vI a1]) (u:=.agg #[vI a1]) (e1 rfl) (fun w9=>by kernel_rfl))<|Ab (FV.makeInterface (by kernel_rfl) rfl)<|RG.panic .plain rfl ?_
 cases h
 exact Bf hp0 Tryz.func85 ⟨b0.ag,rfl⟩
def tb121_1:List (Nat × Nat × Nat):=[(0,32,4),(1,64,32),(0,128,8),(4,256,128),(10,512,320),(0,1024,4),(32,2048,1024),(0,4096,8),(128,8192,4096),(336,16384,10240),(528,32768,16896),(2047,0,32784)]
def cN_p (n:Nat) (a0:Tg) (a1:Tg):Option Tg:=
  (aM_p n a0.fx a1.fx).bind fun b0=>(aM_p n a0.ft a1.ft).bind fun c0=>(bP_p n b0 c0).bind fun d0=>some d0
theorem cN_c (n:Nat) (L:List Nat) (w:World) (hL:∀ b ∈ L,b < w.heap.size) (a0:Tg) {v0_1:Value} (h0_1:Rep.R w L [v0_1] a0.fx.fm) {v0_3:Value} (h0_3:Rep.R w L [v0_3] a0.ft.fm) (a1:Tg) {v1_1:Value} (h1_1:Rep.R w L [v1_1] a1.fx.fm) {v1_3:Value} (h1_3:Rep.R w L [v1_3] a1.ft.fm)  {r:Tg} (h:cN_p n a0 a1 = some r) :
    Calls Tryz.prog 121 #[.agg #[.bool a0.fx.fc,v0_1,.bool a0.ft.fc,v0_3],.agg #[.bool a1.fx.fc,v1_1,.bool a1.ft.fc,v1_3]] w (Gives w fun w' u=>∃ v0_1 v0_3:Value,u = .agg #[.bool r.fx.fc,v0_1,.bool r.ft.fc,v0_3]/\Rep.R w' L [v0_1] r.fx.fm/\Rep.R w' L [v0_3] r.ft.fm):=by
 unfold cN_p at h
 refine AF Tryz.func121 rfl rfl rfl fun _ cs0 hb0=>Ac<|RG.bx (AB w) rfl rfl fun g1 M0 x0 R0=>RG.bx x0 rfl rfl fun j1 P0 y0 U0=>RG.nl [.bool false,vN,.bool false,vN] y0 fun k1 Q0 c0 V0=>Aa<|Aj<|dt 11 tb121_1 fun b0 d0=>Ag 0 1 b0 rfl d0 (fun _=>Bd 0 rfl) rfl<|AG 1 3 3600 b0 rfl d0 (Bp (cs:=[.bool a0.fx.fc,v0_1]) (by kernel_rfl) rfl (mem_part (c0.memA .t2) 0 2)) rfl<|Ag 2 7 b0 rfl d0 (fun _=>Bd 0 rfl) rfl<|AG 3 15 3600 b0 rfl d0 (Bp (cs:=[.bool a1.fx.fc,v1_1]) (by kernel_rfl) rfl (mem_part (c0.memA .t1) 0 2)) rfl<|Ag 5 47 b0 rfl d0 (fun _=>Bd 2 rfl) rfl<|AG 6 111 3584 b0 rfl d0 (Bp (cs:=[.bool a0.ft.fc,v0_3]) (by kernel_rfl) rfl (mem_part (c0.memA .t2) 2 2)) rfl<|Ag 7 239 b0 rfl d0 (fun _=>Bd 2 rfl) rfl<|AG 8 495 3584 b0 rfl d0 (Bp (cs:=[.bool a1.ft.fc,v1_3]) (by kernel_rfl) rfl (mem_part (c0.memA .t1) 2 2)) rfl<|bk h fun J0 G0 h=>BB 4 511 b0 rfl .plain body150 rfl (e2 rfl rfl) (fun w9 hw9=>aM_c n _ w9 (c0.hL hL hw9) a0.fx (c0.km h0_1 hw9) a1.fx (c0.km h1_1 hw9) G0) rfl fun p1 b1 B0 ⟨Y0,hu_,E0⟩=>?_
 subst hu_
 obtain ⟨g0,W0⟩:=c0.agr B0
 refine bk h fun K0 H0 h=>BB 9 1023 b0 rfl .plain body150 rfl (e2 rfl rfl) (fun w9 hw9=>aM_c n _ w9 (g0.hL hL hw9) a0.ft (g0.km h0_3 hw9) a1.ft (g0.km h1_3 hw9) H0) rfl fun q1 c1 C0 ⟨Z0,hu_,F0⟩=>?_
 subst hu_
 obtain ⟨s0,A0⟩:=g0.agr C0
 refine bk h fun k0 I0 h=>BB 10 2047 b0 rfl .plain body149 rfl (e2 rfl rfl) (fun w9 hw9=>bP_c n _ w9 (s0.hL hL hw9) J0 (Ar (Ao E0 A0) hw9) K0 (Ar F0 hw9) I0) rfl fun s1 d1 D0 ⟨p0,q0,hu_,u0,v0⟩=>?_
 subst hu_
 obtain ⟨z0,X0⟩:=s0.agr D0
 refine BJ 11 4095 b0 rfl rfl .plain (AH (news:=[.bool k0.fx.fc,p0,.bool k0.ft.fc,q0]) z0 .hd rfl rfl rfl rfl rfl rfl (o4 rfl (AR u0) rfl (AR v0))) fun u1 j0 t0=>AM (dk b0)<|Al rfl<|Ap hb0 Tryz.func121 rfl (.cons (.many (cs:=[.bool k0.fx.fc,p0,.bool k0.ft.fc,q0]) (by kernel_rfl) rfl (j0.memA .hd)) .nil) rfl ?_
 cases h
 exact ⟨j0.ag,fun w9 hw9=>⟨p0,q0,rfl,j0.kd (Ao u0 t0) hw9,j0.kd (Ao v0 t0) hw9⟩⟩
theorem body121:bodyB Tryz.prog 121 = true:=by kernel_rfl
def dh_p (n:Nat) (a0:Ta) (a1:Ta):Option (Ta × Int):=
  (aI_p n ([a0,a1]:List Ta)).bind fun d0=>(if d0 = true then (aD_p n a0).bind fun g0=>(aD_p n a1).bind fun j0=>(cN_p n g0 j0).bind fun k0=>(bg_p n k0 (0:Int)).bind fun c0=>some (c0.1,c0.2) else (bg_p n (⟨(⟨false,([]:List UInt64)⟩:Te),(⟨false,([]:List UInt64)⟩:Te)⟩:Tg) (20:Int)).bind fun b0=>some (b0.1,b0.2))
theorem dh_c (n:Nat) (L:List Nat) (w:World) (hL:∀ b ∈ L,b < w.heap.size) (a0:Ta) (a1:Ta)  {r:Ta × Int} (h:dh_p n a0 a1 = some r) :
    Calls Tryz.prog 86 #[.agg ((cs_Ta a0)).toArray,.agg ((cs_Ta a1)).toArray] w (Gives w fun _ u=>u = .tuple #[.agg ((cs_Ta r.1)).toArray,vI r.2]):=by
 unfold dh_p at h
 refine AF Tryz.func86 rfl rfl rfl fun _ cs0 hb0=>Ac<|RG.bx (AB w) rfl rfl fun j2 s1 I0 F1=>RG.bx I0 rfl rfl fun k2 u1 J0 G1=>RG.nl zL J0 fun p2 v1 q0 H1=>Af rfl<|Aa<|Ac<|Ab (AK rfl (q0.memA .t2))<|Ab (AK rfl (q0.memA .t1))<|BM (fst:=[]) (cap:=[]) (vs:=[.agg ((cs_Ta a0)).toArray,.agg ((cs_Ta a1)).toArray,.func (.func 121) #[] #[]]) .plain body109 Tryz.func109 rfl rfl rfl rfl (e3 rfl rfl rfl) rfl fun C1 E0 V1=>Ac<|RG.bx q0 rfl rfl fun q2 x1 K0 I1=>RG.bx K0 rfl rfl fun s2 y1 M0 J1=>RG.nl [.bool false,vN,.bool false,vN] M0 fun u2 z1 s0 K1=>Af rfl<|Aa<|Aj<|Ac<|Ab (AK rfl (s0.memA .t2))<|Ab (AK rfl (s0.memA .t1))<|Ak .plain rfl (AE (α:=Ta) (xs:=([a0,a1]:List Ta)) (vs:=[.agg ((cs_Ta a0)).toArray,.agg ((cs_Ta a1)).toArray]) (ds' :=(cs_Ta a0 ++ cs_Ta a1)) rfl s0 el63 rfl (e2 rfl rfl) (by kernel_rfl) rfl) fun v2 A1 c0 M1=>?_
 refine bk h fun k1 b1 h=>Bi (.bool k1) body107 rfl (e1 rfl) (fun w9 hw9=>aI_c n _ w9 (c0.hL0 hL hw9) (Ar (St.lend (α:=Ta) (L:=L) c0 .hd (Ax (cs:=(cs_Ta a0 ++ cs_Ta a1)) (xs:=(([a0,a1]:List Ta):List Ta)) c0 L (Am (cs:=(cs_Ta a0)) (ds:=(cs_Ta a1)) (mk_Ta a0.fN a0.fD) (Am (cs:=(cs_Ta a1)) (ds:=[]) (mk_Ta a1.fN a1.fD) (AD _ _)))) hL) hw9) b1) rfl<|Ab (Bo rfl)<|Aa<|MX.ifnb rfl h (fun H0 h=>?_) (fun H0 h=>?_)
 refine Aq<|Aj<|dt 6 tb109_4 fun b0 t0=>Ag 0 1 b0 rfl t0 (fun _=>Ai rfl) rfl<|AG 1 3 244 b0 rfl t0 (AK rfl (c0.memA .t3)) rfl<|AG 3 11 240 b0 rfl t0 (AK rfl (c0.memA .t2)) rfl<|bk h fun p1 c1 h=>BB 2 15 b0 rfl .plain body148 rfl (e1 rfl) (fun w9 hw9=>aD_c n _ w9 (c0.hL hL hw9) a0 c1) rfl fun x2 b2 Q0 ⟨W1,X1,hu_,V0,W0⟩=>?_
 subst hu_
 obtain ⟨y0,P1⟩:=c0.agr Q0
 refine bk h fun q1 d1 h=>BB 4 31 b0 rfl .plain body148 rfl (e1 rfl) (fun w9 hw9=>aD_c n _ w9 (y0.hL hL hw9) a1 d1) rfl fun y2 c2 R0 ⟨Y1,Z1,hu_,X0,Y0⟩=>?_
 subst hu_
 obtain ⟨z0,C0⟩:=y0.agr R0
 refine bk h fun d0 g1 h=>BB 5 63 b0 rfl .plain body121 rfl (e2 rfl rfl) (fun w9 hw9=>cN_c n _ w9 (z0.hL hL hw9) p1 (Ar (Ao V0 C0) hw9) (Ar (Ao W0 C0) hw9) q1 (Ar X0 hw9) (Ar Y0 hw9) g1) rfl fun z2 d2 U0 ⟨u0,v0,hu_,F0,G0⟩=>?_
 subst hu_
 obtain ⟨P0,Q1⟩:=z0.agr U0
 refine BJ 6 127 b0 rfl rfl .plain (AH (news:=[.bool d0.fx.fc,u0,.bool d0.ft.fc,v0]) P0 .t1 rfl rfl rfl rfl rfl rfl (o4 rfl (AR F0) rfl (AR G0))) fun A2 g0 D0=>Be (i:=7) (rk b0) (Bq (m' :=255) (sk b0) rfl .plain rfl (AU rfl) ?_)
 refine AM (dk b0)<|Al rfl<|Ap (u:=.tuple #[.agg #[.bool d0.fx.fc,u0,.bool d0.ft.fc,v0],vI 0]) E0 Tryz.func109 rfl (.cons (.many (cs:=[.bool d0.fx.fc,u0,.bool d0.ft.fc,v0]) (by kernel_rfl) rfl (g0.memA .t1)) (.cons (.tmp rfl) .nil)) rfl<|Ab (Ah rfl rfl)<|Ab (Ah rfl rfl)<|bk h fun k0 j1 h=>Bi (.tuple #[.agg ((cs_Ta k0.1)).toArray,vI k0.2]) body108 rfl (e2 rfl rfl) (fun w9 hw9=>bg_c n _ w9 (g0.hL0 hL hw9) d0 (g0.kd (Ao F0 D0) hw9) (g0.kd (Ao G0 D0) hw9) j1) rfl<|Ab (Ah rfl rfl)<|Ab (Ah rfl rfl)<|AQ (cs_Ta k0.1) g0 .t4 (onesB rfl) fun B2 A0 R1=>Af rfl<|Aa<|Al rfl<|Ap hb0 Tryz.func86 rfl (.cons (.many (cs:=(cs_Ta k0.1)) (by kernel_rfl) rfl (A0.memA .t4)) (.cons (.tmp rfl) .nil)) rfl ?_
 cases h
 exact A0.gv
 refine Ac<|RG.nl [.bool false,vN,.bool false,vN] c0 fun C2 B1 B0 U1=>Aa<|Ac<|Ab (AK rfl (B0.memA .hd))<|AQ [.bool false,vN,.bool false,vN] B0 .t2 (onesB rfl) fun D2 p0 D1=>Af rfl<|Aa<|Al rfl<|Ap (u:=.tuple #[.agg #[.bool false,vN,.bool false,vN],vI 20]) E0 Tryz.func109 rfl (.cons (.many (cs:=[.bool false,vN,.bool false,vN]) (by kernel_rfl) rfl (p0.memA .t2)) (.cons (.tmp rfl) .nil)) rfl<|Ab (Ah rfl rfl)<|Ab (Ah rfl rfl)<|bk h fun j0 Z0 h=>Bi (.tuple #[.agg ((cs_Ta j0.1)).toArray,vI j0.2]) body108 rfl (e2 rfl rfl) (fun w9 hw9=>bg_c n _ w9 (p0.hL0 hL hw9) (⟨(⟨false,([]:List UInt64)⟩:Te),(⟨false,([]:List UInt64)⟩:Te)⟩:Tg) (Ar (Rep.nilSlice _ _) hw9) (Ar (Rep.nilSlice _ _) hw9) Z0) rfl<|Ab (Ah rfl rfl)<|Ab (Ah rfl rfl)<|AQ (cs_Ta j0.1) p0 .t5 (onesB rfl) fun g2 x0 E1=>Af rfl<|Aa<|Al rfl<|Ap hb0 Tryz.func86 rfl (.cons (.many (cs:=(cs_Ta j0.1)) (by kernel_rfl) rfl (x0.memA .t5)) (.cons (.tmp rfl) .nil)) rfl ?_
 cases h
 exact x0.gv
def cx_p (n:Nat) (a0:Tg):Option Te:=
  (bw_p n a0.fx a0.ft).bind fun b0=>some b0.1
theorem cx_c (n:Nat) (L:List Nat) (w:World) (hL:∀ b ∈ L,b < w.heap.size) (a0:Tg) {v0_1:Value} (h0_1:Rep.R w L [v0_1] a0.fx.fm) {v0_3:Value} (h0_3:Rep.R w L [v0_3] a0.ft.fm)  {r:Te} (h:cx_p n a0 = some r) :
    Calls Tryz.prog 125 #[.agg #[.bool a0.fx.fc,v0_1,.bool a0.ft.fc,v0_3]] w (Gives w fun w' u=>∃ v0_1:Value,u = .agg #[.bool r.fc,v0_1]/\Rep.R w' L [v0_1] r.fm):=by
 unfold cx_p at h
 refine AF Tryz.func125 rfl rfl rfl fun _ cs0 hb0=>Ac<|RG.bx (AB w) rfl rfl fun R0 G0 u0 K0=>RG.nl [.bool false,vN] u0 fun U0 H0 b0 M0=>Aa<|Ac<|AV 0 rfl<|Ab (Bp (cs:=[.bool a0.fx.fc,v0_1]) (by kernel_rfl) rfl (mem_part (b0.memA .t1) 0 2))<|AV 2 rfl<|Ab (Bp (cs:=[.bool a0.ft.fc,v0_3]) (by kernel_rfl) rfl (mem_part (b0.memA .t1) 2 2))<|bk h fun d0 E0 h=>AZ (fst:=[]) (cap:=[]) .plain body157 rfl (e2 rfl rfl) (fun w9 hw9=>bw_c n _ w9 (b0.hL hL hw9) a0.fx (b0.km h0_1 hw9) a0.ft (b0.km h0_3 hw9) E0) rfl fun V0 Q0 C0 ⟨c0,F0,hu_,k0,D0⟩=>?_
 subst hu_
 obtain ⟨v0,P0⟩:=b0.agr C0
 refine Ae rfl<|Ab (Ah rfl rfl)<|Ab (Ah rfl rfl)<|RG.nl [.bool false,vN] v0 fun W0 I0 x0 q0=>RG.nl [.bool false,vN] x0 fun X0 J0 y0 s0=>AQ [.bool d0.1.fc,c0] y0 .t1 (o2 rfl (AR (Ao k0 (Tt q0 s0)))) fun Y0 z0 A0=>?_
 have j0:=Tt q0 (Tt s0 A0)
 refine AQ [.bool d0.2.fc,F0] z0 .hd (o2 rfl (AR (Ao D0 j0))) fun Z0 p0 t0=>Aa<|Ac<|Ab (AK rfl (p0.memA .t1))<|AQ [.bool d0.1.fc,c0] p0 .t2 (o2 rfl (AR (Ao k0 (Tt j0 t0)))) fun b1 g0 B0=>Aa<|Al rfl<|Ap hb0 Tryz.func125 rfl (.cons (.many (cs:=[.bool d0.1.fc,c0]) (by kernel_rfl) rfl (g0.memA .t2)) .nil) rfl ?_
 cases h
 exact ⟨g0.ag,fun w9 hw9=>⟨c0,rfl,g0.kd (Ao k0 (Tt j0 (Tt t0 B0))) hw9⟩⟩
theorem body125:bodyB Tryz.prog 125 = true:=by kernel_rfl
def dc_p (n:Nat) (a0:Tg):Option Te:=
  (bQ_p n a0).bind fun b0=>(cx_p n b0).bind fun c0=>(aW_p n c0).bind fun d0=>some d0
theorem dc_c (n:Nat) (L:List Nat) (w:World) (hL:∀ b ∈ L,b < w.heap.size) (a0:Tg) {v0_1:Value} (h0_1:Rep.R w L [v0_1] a0.fx.fm) {v0_3:Value} (h0_3:Rep.R w L [v0_3] a0.ft.fm)  {r:Te} (h:dc_p n a0 = some r) :
    Calls Tryz.prog 123 #[.agg #[.bool a0.fx.fc,v0_1,.bool a0.ft.fc,v0_3]] w (Gives w fun w' u=>∃ v0_1:Value,u = .agg #[.bool r.fc,v0_1]/\Rep.R w' L [v0_1] r.fm):=by
 unfold dc_p at h
 refine AF Tryz.func123 rfl rfl rfl fun _ cs0 hb0=>Ac<|RG.bx (AB w) rfl rfl fun Y0 G0 q0 I0=>RG.nl [.bool false,vN] q0 fun Z0 H0 b0 J0=>Aa<|Ac<|Ab (AK rfl (b0.memA .t1))<|bk h fun E0 B0 h=>AZ (fst:=[]) (cap:=[]) .plain body124 rfl (e1 rfl) (fun w9 hw9=>bQ_c n _ w9 (b0.hL hL hw9) a0 (b0.km h0_1 hw9) (b0.km h0_3 hw9) B0) rfl fun b1 V0 u0 ⟨Q0,R0,hu_,y0,z0⟩=>?_
 subst hu_
 obtain ⟨g0,K0⟩:=b0.agr u0
 refine bk h fun F0 C0 h=>AZ (fst:=[]) (cap:=[]) .plain body125 rfl (e1 rfl) (fun w9 hw9=>cx_c n _ w9 (g0.hL hL hw9) E0 (Ar y0 hw9) (Ar z0 hw9) C0) rfl fun c1 W0 v0 ⟨U0,hu_,A0⟩=>?_
 subst hu_
 obtain ⟨j0,M0⟩:=g0.agr v0
 refine bk h fun p0 D0 h=>AZ (fst:=[]) (cap:=[]) .plain body126 rfl (e1 rfl) (fun w9 hw9=>aW_c n _ w9 (j0.hL hL hw9) F0 (Ar A0 hw9) D0) rfl fun d1 X0 x0 ⟨d0,hu_,k0⟩=>?_
 subst hu_
 obtain ⟨s0,P0⟩:=j0.agr x0
 refine AQ [.bool p0.fc,d0] s0 .hd (o2 rfl (AR k0)) fun g1 c0 t0=>Aa<|Al rfl<|Ap hb0 Tryz.func123 rfl (.cons (.many (cs:=[.bool p0.fc,d0]) (by kernel_rfl) rfl (c0.memA .hd)) .nil) rfl ?_
 cases h
 exact ⟨c0.ag,fun w9 hw9=>⟨d0,rfl,c0.kd (Ao k0 t0) hw9⟩⟩
theorem body122:bodyB Tryz.prog 122 = true:=by kernel_rfl
theorem body123:bodyB Tryz.prog 123 = true:=by kernel_rfl
def dn_p (n:Nat) (a0:Ta):Option ((UInt64 × UInt64 × UInt64 × UInt64 × UInt64 × UInt64 × UInt64 × UInt64) × Int):=
  (aI_p n ([a0]:List Ta)).bind fun c0=>(if c0 = true then (aD_p n a0).bind fun d0=>(dc_p n d0).bind fun g0=>(bn_p n g0).bind fun b0=>some (b0.1,b0.2) else some (((0:UInt64),(0:UInt64),(0:UInt64),(0:UInt64),(0:UInt64),(0:UInt64),(0:UInt64),(0:UInt64)),(20:Int)))
theorem dn_c (n:Nat) (L:List Nat) (w:World) (hL:∀ b ∈ L,b < w.heap.size) (a0:Ta)  {r:(UInt64 × UInt64 × UInt64 × UInt64 × UInt64 × UInt64 × UInt64 × UInt64) × Int} (h:dn_p n a0 = some r) :
    Calls Tryz.prog 87 #[.agg ((cs_Ta a0)).toArray] w (Gives w fun _ u=>u = .tuple #[.agg ((cs_A34 r.1)).toArray,vI r.2]):=by
 unfold dn_p at h
 refine AF Tryz.func87 rfl rfl rfl fun _ cs0 hb0=>Ac<|RG.bx (AB w) rfl rfl fun z1 M0 x0 W0=>RG.nl zP x0 fun A1 P0 g0 X0=>Af rfl<|Aa<|Ac<|Ab (AK rfl (g0.memA .t1))<|BM (fst:=[]) (cap:=[]) (vs:=[.agg ((cs_Ta a0)).toArray,.func (.func 123) #[] #[]]) .plain body122 Tryz.func122 rfl rfl rfl rfl (e2 rfl rfl) rfl fun V0 u0 q1=>Ac<|RG.bx g0 rfl rfl fun B1 Q0 y0 Y0=>RG.nl zP y0 fun C1 R0 j0 Z0=>Af rfl<|Aa<|Aj<|Ac<|Ab (AK rfl (j0.memA .t1))<|Ak .plain rfl (AE (α:=Ta) (xs:=([a0]:List Ta)) (vs:=[.agg ((cs_Ta a0)).toArray]) (ds' :=(cs_Ta a0)) rfl j0 el63 rfl (e1 rfl) (by kernel_rfl) rfl) fun D1 U0 c0 b1=>bk h fun I0 E0 h=>Bi (.bool I0) body107 rfl (e1 rfl) (fun w9 hw9=>aI_c n _ w9 (c0.hL0 hL hw9) (Ar (St.lend (α:=Ta) (L:=L) c0 .hd (Ax (cs:=(cs_Ta a0)) (xs:=(([a0]:List Ta):List Ta)) c0 L (Am (cs:=(cs_Ta a0)) (ds:=[]) (mk_Ta a0.fN a0.fD) (AD _ _))) hL) hw9) E0) rfl<|Ab (Bo rfl)<|Aa<|MX.ifnb rfl h (fun v0 h=>?_) (fun v0 h=>?_)
 refine Aq<|Ac<|Ae rfl<|Ab (AK rfl (c0.memA .t2))<|bk h fun J0 F0 h=>AZ (fst:=[]) (cap:=[]) .plain body148 rfl (e1 rfl) (fun w9 hw9=>aD_c n _ w9 (c0.hL hL hw9) a0 F0) rfl fun E1 x1 z0 ⟨s1,u1,hu_,B0,C0⟩=>?_
 subst hu_
 obtain ⟨k0,c1⟩:=c0.agr z0
 refine bk h fun K0 G0 h=>AZ (fst:=[]) (cap:=[]) .plain body123 rfl (e1 rfl) (fun w9 hw9=>dc_c n _ w9 (k0.hL hL hw9) J0 (Ar B0 hw9) (Ar C0 hw9) G0) rfl fun F1 y1 A0 ⟨v1,hu_,D0⟩=>?_
 subst hu_
 obtain ⟨d0,d1⟩:=k0.agr A0
 refine bk h fun b0 H0 h=>Bi (.tuple #[.agg ((cs_A34 b0.1)).toArray,vI b0.2]) body156 rfl (e1 rfl) (fun w9 hw9=>bn_c n _ w9 (d0.hL0 hL hw9) K0 (d0.kd D0 hw9) H0) rfl<|Ab (Ah rfl rfl)<|Ab (Ah rfl rfl)<|AQ (cs_A34 b0.1) d0 .t1 (onesB rfl) fun G1 p0 g1=>Af rfl<|Aa<|Al rfl<|Ap (u:=.tuple #[.agg ((cs_A34 b0.1)).toArray,vI b0.2]) u0 Tryz.func122 rfl (.cons (.many (cs:=(cs_A34 b0.1)) (by kernel_rfl) rfl (p0.memA .t1)) (.cons (.tmp rfl) .nil)) rfl<|Ab (Ah rfl rfl)<|Ab (Ah rfl rfl)<|AQ (cs_A34 b0.1) p0 .t3 (onesB rfl) fun H1 q0 j1=>Af rfl<|Aa<|Al rfl<|Ap hb0 Tryz.func87 rfl (.cons (.many (cs:=(cs_A34 b0.1)) (by kernel_rfl) rfl (q0.memA .t3)) (.cons (.tmp rfl) .nil)) rfl ?_
 cases h
 exact q0.gv
 refine Ac<|Ab (AX (vs:=[]) (u:=.agg zQ) evs_nil (fun w9=>by kernel_rfl))<|AQ zP c0 .t1 (onesB rfl) fun I1 s0 k1=>Af rfl<|Aa<|Al rfl<|Ap (u:=.tuple #[.agg zQ,vI 20]) u0 Tryz.func122 rfl (.cons (.many (cs:=zP) (by kernel_rfl) rfl (s0.memA .t1)) (.cons (.tmp rfl) .nil)) rfl<|Ab (Ah rfl rfl)<|Ab (Ah rfl rfl)<|AQ zP s0 .t3 (onesB rfl) fun J1 t0 p1=>Af rfl<|Aa<|Al rfl<|Ap hb0 Tryz.func87 rfl (.cons (.many (cs:=zP) (by kernel_rfl) rfl (t0.memA .t3)) (.cons (.tmp rfl) .nil)) rfl ?_
 cases h
 exact t0.gv
def dq_p (n:Nat) (a0:Ta) (a1:Ta):Option (Ta × Int):=
  (aI_p n ([a0,a1]:List Ta)).bind fun d0=>(if d0 = true then (aD_p n a0).bind fun g0=>(aD_p n a1).bind fun j0=>(cg_p n g0 j0).bind fun k0=>(bg_p n k0 (0:Int)).bind fun c0=>some (c0.1,c0.2) else (bg_p n (⟨(⟨false,([]:List UInt64)⟩:Te),(⟨false,([]:List UInt64)⟩:Te)⟩:Tg) (20:Int)).bind fun b0=>some (b0.1,b0.2))
theorem dq_c (n:Nat) (L:List Nat) (w:World) (hL:∀ b ∈ L,b < w.heap.size) (a0:Ta) (a1:Ta)  {r:Ta × Int} (h:dq_p n a0 a1 = some r) :
    Calls Tryz.prog 88 #[.agg ((cs_Ta a0)).toArray,.agg ((cs_Ta a1)).toArray] w (Gives w fun _ u=>u = .tuple #[.agg ((cs_Ta r.1)).toArray,vI r.2]):=by
 unfold dq_p at h
 refine AF Tryz.func88 rfl rfl rfl fun _ cs0 hb0=>Ac<|RG.bx (AB w) rfl rfl fun j2 s1 I0 F1=>RG.bx I0 rfl rfl fun k2 u1 J0 G1=>RG.nl zL J0 fun p2 v1 q0 H1=>Af rfl<|Aa<|Ac<|Ab (AK rfl (q0.memA .t2))<|Ab (AK rfl (q0.memA .t1))<|BM (fst:=[]) (cap:=[]) (vs:=[.agg ((cs_Ta a0)).toArray,.agg ((cs_Ta a1)).toArray,.func (.func 127) #[] #[]]) .plain body109 Tryz.func109 rfl rfl rfl rfl (e3 rfl rfl rfl) rfl fun C1 E0 V1=>Ac<|RG.bx q0 rfl rfl fun q2 x1 K0 I1=>RG.bx K0 rfl rfl fun s2 y1 M0 J1=>RG.nl [.bool false,vN,.bool false,vN] M0 fun u2 z1 s0 K1=>Af rfl<|Aa<|Aj<|Ac<|Ab (AK rfl (s0.memA .t2))<|Ab (AK rfl (s0.memA .t1))<|Ak .plain rfl (AE (α:=Ta) (xs:=([a0,a1]:List Ta)) (vs:=[.agg ((cs_Ta a0)).toArray,.agg ((cs_Ta a1)).toArray]) (ds' :=(cs_Ta a0 ++ cs_Ta a1)) rfl s0 el63 rfl (e2 rfl rfl) (by kernel_rfl) rfl) fun v2 A1 c0 M1=>?_
 refine bk h fun k1 b1 h=>Bi (.bool k1) body107 rfl (e1 rfl) (fun w9 hw9=>aI_c n _ w9 (c0.hL0 hL hw9) (Ar (St.lend (α:=Ta) (L:=L) c0 .hd (Ax (cs:=(cs_Ta a0 ++ cs_Ta a1)) (xs:=(([a0,a1]:List Ta):List Ta)) c0 L (Am (cs:=(cs_Ta a0)) (ds:=(cs_Ta a1)) (mk_Ta a0.fN a0.fD) (Am (cs:=(cs_Ta a1)) (ds:=[]) (mk_Ta a1.fN a1.fD) (AD _ _)))) hL) hw9) b1) rfl<|Ab (Bo rfl)<|Aa<|MX.ifnb rfl h (fun H0 h=>?_) (fun H0 h=>?_)
 refine Aq<|Aj<|dt 6 tb109_4 fun b0 t0=>Ag 0 1 b0 rfl t0 (fun _=>Ai rfl) rfl<|AG 1 3 244 b0 rfl t0 (AK rfl (c0.memA .t3)) rfl<|AG 3 11 240 b0 rfl t0 (AK rfl (c0.memA .t2)) rfl<|bk h fun p1 c1 h=>BB 2 15 b0 rfl .plain body148 rfl (e1 rfl) (fun w9 hw9=>aD_c n _ w9 (c0.hL hL hw9) a0 c1) rfl fun x2 b2 Q0 ⟨W1,X1,hu_,V0,W0⟩=>?_
 subst hu_
 obtain ⟨y0,P1⟩:=c0.agr Q0
 refine bk h fun q1 d1 h=>BB 4 31 b0 rfl .plain body148 rfl (e1 rfl) (fun w9 hw9=>aD_c n _ w9 (y0.hL hL hw9) a1 d1) rfl fun y2 c2 R0 ⟨Y1,Z1,hu_,X0,Y0⟩=>?_
 subst hu_
 obtain ⟨z0,C0⟩:=y0.agr R0
 refine bk h fun d0 g1 h=>BB 5 63 b0 rfl .plain body127 rfl (e2 rfl rfl) (fun w9 hw9=>cg_c n _ w9 (z0.hL hL hw9) p1 (Ar (Ao V0 C0) hw9) (Ar (Ao W0 C0) hw9) q1 (Ar X0 hw9) (Ar Y0 hw9) g1) rfl fun z2 d2 U0 ⟨u0,v0,hu_,F0,G0⟩=>?_
 subst hu_
 obtain ⟨P0,Q1⟩:=z0.agr U0
 refine BJ 6 127 b0 rfl rfl .plain (AH (news:=[.bool d0.fx.fc,u0,.bool d0.ft.fc,v0]) P0 .t1 rfl rfl rfl rfl rfl rfl (o4 rfl (AR F0) rfl (AR G0))) fun A2 g0 D0=>Be (i:=7) (rk b0) (Bq (m' :=255) (sk b0) rfl .plain rfl (AU rfl) ?_)
 refine AM (dk b0)<|Al rfl<|Ap (u:=.tuple #[.agg #[.bool d0.fx.fc,u0,.bool d0.ft.fc,v0],vI 0]) E0 Tryz.func109 rfl (.cons (.many (cs:=[.bool d0.fx.fc,u0,.bool d0.ft.fc,v0]) (by kernel_rfl) rfl (g0.memA .t1)) (.cons (.tmp rfl) .nil)) rfl<|Ab (Ah rfl rfl)<|Ab (Ah rfl rfl)<|bk h fun k0 j1 h=>Bi (.tuple #[.agg ((cs_Ta k0.1)).toArray,vI k0.2]) body108 rfl (e2 rfl rfl) (fun w9 hw9=>bg_c n _ w9 (g0.hL0 hL hw9) d0 (g0.kd (Ao F0 D0) hw9) (g0.kd (Ao G0 D0) hw9) j1) rfl<|Ab (Ah rfl rfl)<|Ab (Ah rfl rfl)<|AQ (cs_Ta k0.1) g0 .t4 (onesB rfl) fun B2 A0 R1=>Af rfl<|Aa<|Al rfl<|Ap hb0 Tryz.func88 rfl (.cons (.many (cs:=(cs_Ta k0.1)) (by kernel_rfl) rfl (A0.memA .t4)) (.cons (.tmp rfl) .nil)) rfl ?_
 cases h
 exact A0.gv
 refine Ac<|RG.nl [.bool false,vN,.bool false,vN] c0 fun C2 B1 B0 U1=>Aa<|Ac<|Ab (AK rfl (B0.memA .hd))<|AQ [.bool false,vN,.bool false,vN] B0 .t2 (onesB rfl) fun D2 p0 D1=>Af rfl<|Aa<|Al rfl<|Ap (u:=.tuple #[.agg #[.bool false,vN,.bool false,vN],vI 20]) E0 Tryz.func109 rfl (.cons (.many (cs:=[.bool false,vN,.bool false,vN]) (by kernel_rfl) rfl (p0.memA .t2)) (.cons (.tmp rfl) .nil)) rfl<|Ab (Ah rfl rfl)<|Ab (Ah rfl rfl)<|bk h fun j0 Z0 h=>Bi (.tuple #[.agg ((cs_Ta j0.1)).toArray,vI j0.2]) body108 rfl (e2 rfl rfl) (fun w9 hw9=>bg_c n _ w9 (p0.hL0 hL hw9) (⟨(⟨false,([]:List UInt64)⟩:Te),(⟨false,([]:List UInt64)⟩:Te)⟩:Tg) (Ar (Rep.nilSlice _ _) hw9) (Ar (Rep.nilSlice _ _) hw9) Z0) rfl<|Ab (Ah rfl rfl)<|Ab (Ah rfl rfl)<|AQ (cs_Ta j0.1) p0 .t5 (onesB rfl) fun g2 x0 E1=>Af rfl<|Aa<|Al rfl<|Ap hb0 Tryz.func88 rfl (.cons (.many (cs:=(cs_Ta j0.1)) (by kernel_rfl) rfl (x0.memA .t5)) (.cons (.tmp rfl) .nil)) rfl ?_
 cases h
 exact x0.gv
def di_p (n:Nat) (a0:Ta):Option ((UInt64 × UInt64 × UInt64 × UInt64 × UInt64 × UInt64 × UInt64 × UInt64) × Int):=
  (aI_p n ([a0]:List Ta)).bind fun c0=>(if c0 = true then (aD_p n a0).bind fun d0=>(cx_p n d0).bind fun g0=>(bn_p n g0).bind fun b0=>some (b0.1,b0.2) else some (((0:UInt64),(0:UInt64),(0:UInt64),(0:UInt64),(0:UInt64),(0:UInt64),(0:UInt64),(0:UInt64)),(20:Int)))
theorem di_c (n:Nat) (L:List Nat) (w:World) (hL:∀ b ∈ L,b < w.heap.size) (a0:Ta)  {r:(UInt64 × UInt64 × UInt64 × UInt64 × UInt64 × UInt64 × UInt64 × UInt64) × Int} (h:di_p n a0 = some r) :
    Calls Tryz.prog 89 #[.agg ((cs_Ta a0)).toArray] w (Gives w fun _ u=>u = .tuple #[.agg ((cs_A34 r.1)).toArray,vI r.2]):=by
 unfold di_p at h
 refine AF Tryz.func89 rfl rfl rfl fun _ cs0 hb0=>Ac<|RG.bx (AB w) rfl rfl fun z1 M0 x0 W0=>RG.nl zP x0 fun A1 P0 g0 X0=>Af rfl<|Aa<|Ac<|Ab (AK rfl (g0.memA .t1))<|BM (fst:=[]) (cap:=[]) (vs:=[.agg ((cs_Ta a0)).toArray,.func (.func 125) #[] #[]]) .plain body122 Tryz.func122 rfl rfl rfl rfl (e2 rfl rfl) rfl fun V0 u0 q1=>Ac<|RG.bx g0 rfl rfl fun B1 Q0 y0 Y0=>RG.nl zP y0 fun C1 R0 j0 Z0=>Af rfl<|Aa<|Aj<|Ac<|Ab (AK rfl (j0.memA .t1))<|Ak .plain rfl (AE (α:=Ta) (xs:=([a0]:List Ta)) (vs:=[.agg ((cs_Ta a0)).toArray]) (ds' :=(cs_Ta a0)) rfl j0 el63 rfl (e1 rfl) (by kernel_rfl) rfl) fun D1 U0 c0 b1=>bk h fun I0 E0 h=>Bi (.bool I0) body107 rfl (e1 rfl) (fun w9 hw9=>aI_c n _ w9 (c0.hL0 hL hw9) (Ar (St.lend (α:=Ta) (L:=L) c0 .hd (Ax (cs:=(cs_Ta a0)) (xs:=(([a0]:List Ta):List Ta)) c0 L (Am (cs:=(cs_Ta a0)) (ds:=[]) (mk_Ta a0.fN a0.fD) (AD _ _))) hL) hw9) E0) rfl<|Ab (Bo rfl)<|Aa<|MX.ifnb rfl h (fun v0 h=>?_) (fun v0 h=>?_)
 refine Aq<|Ac<|Ae rfl<|Ab (AK rfl (c0.memA .t2))<|bk h fun J0 F0 h=>AZ (fst:=[]) (cap:=[]) .plain body148 rfl (e1 rfl) (fun w9 hw9=>aD_c n _ w9 (c0.hL hL hw9) a0 F0) rfl fun E1 x1 z0 ⟨s1,u1,hu_,B0,C0⟩=>?_
 subst hu_
 obtain ⟨k0,c1⟩:=c0.agr z0
 refine bk h fun K0 G0 h=>AZ (fst:=[]) (cap:=[]) .plain body125 rfl (e1 rfl) (fun w9 hw9=>cx_c n _ w9 (k0.hL hL hw9) J0 (Ar B0 hw9) (Ar C0 hw9) G0) rfl fun F1 y1 A0 ⟨v1,hu_,D0⟩=>?_
 subst hu_
 obtain ⟨d0,d1⟩:=k0.agr A0
 refine bk h fun b0 H0 h=>Bi (.tuple #[.agg ((cs_A34 b0.1)).toArray,vI b0.2]) body156 rfl (e1 rfl) (fun w9 hw9=>bn_c n _ w9 (d0.hL0 hL hw9) K0 (d0.kd D0 hw9) H0) rfl<|Ab (Ah rfl rfl)<|Ab (Ah rfl rfl)<|AQ (cs_A34 b0.1) d0 .t1 (onesB rfl) fun G1 p0 g1=>Af rfl<|Aa<|Al rfl<|Ap (u:=.tuple #[.agg ((cs_A34 b0.1)).toArray,vI b0.2]) u0 Tryz.func122 rfl (.cons (.many (cs:=(cs_A34 b0.1)) (by kernel_rfl) rfl (p0.memA .t1)) (.cons (.tmp rfl) .nil)) rfl<|Ab (Ah rfl rfl)<|Ab (Ah rfl rfl)<|AQ (cs_A34 b0.1) p0 .t3 (onesB rfl) fun H1 q0 j1=>Af rfl<|Aa<|Al rfl<|Ap hb0 Tryz.func89 rfl (.cons (.many (cs:=(cs_A34 b0.1)) (by kernel_rfl) rfl (q0.memA .t3)) (.cons (.tmp rfl) .nil)) rfl ?_
 cases h
 exact q0.gv
 refine Ac<|Ab (AX (vs:=[]) (u:=.agg zQ) evs_nil (fun w9=>by kernel_rfl))<|AQ zP c0 .t1 (onesB rfl) fun I1 s0 k1=>Af rfl<|Aa<|Al rfl<|Ap (u:=.tuple #[.agg zQ,vI 20]) u0 Tryz.func122 rfl (.cons (.many (cs:=zP) (by kernel_rfl) rfl (s0.memA .t1)) (.cons (.tmp rfl) .nil)) rfl<|Ab (Ah rfl rfl)<|Ab (Ah rfl rfl)<|AQ zP s0 .t3 (onesB rfl) fun J1 t0 p1=>Af rfl<|Aa<|Al rfl<|Ap hb0 Tryz.func89 rfl (.cons (.many (cs:=zP) (by kernel_rfl) rfl (t0.memA .t3)) (.cons (.tmp rfl) .nil)) rfl ?_
 cases h
 exact t0.gv
end Go.Proofs.YtgejkdheojkfiaaGreatDoor
