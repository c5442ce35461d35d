/- Functions of the program, and what they give: part 4. -/
import Derived.Test.YtmhgoecnjleagaaGreatDoorXW3
namespace Go.Proofs.YtmhgoecnjleagaaGreatDoor
open Go Go.RowKit
set_option maxRecDepth 4000
set_option maxHeartbeats 4000000

theorem body147:bodyB Tryz.prog 147 = true:=by kernel_rfl
def share_Ceil_1_p (n:Nat) (a0:TRatio):Option TLong:=
  (share_Ratio_Turned_p n a0).bind fun b0=>(share_Ratio_Down_p n b0).bind fun c0=>(wide_Long_Turned_p n c0).bind fun d0=>some d0
theorem share_Ceil_1_c (n:Nat) (L:List Nat) (w:World) (hL:∀ b ∈ L,b < w.heap.size) (a0:TRatio) {v0_1:Value} (h0_1:Rep.R w L [v0_1] a0.fLong.fWords) {v0_3:Value} (h0_3:Rep.R w L [v0_3] a0.fUnder.fWords)  {r:TLong} (h:share_Ceil_1_p n a0 = some r) :
    Calls Tryz.prog 146 #[.agg #[.bool a0.fLong.fBelow,v0_1,.bool a0.fUnder.fBelow,v0_3]] w (Gives w fun w' u=>∃ v0_1:Value,u = .agg #[.bool r.fBelow,v0_1]∧Rep.R w' L [v0_1] r.fWords):=by
 unfold share_Ceil_1_p at h
 have hS0:=Ax w
 refine AA Tryz.func146 rfl rfl rfl (fun _ cs0 hb0=>?_)
 refine Ac<|Aj .plain rfl (Aw hS0 rfl rfl) (fun Z0 H0 q0 J0=>?_)
 refine Aj .plain rfl (Av [.bool false,vN] q0) (fun b1 I0 b0 K0=>?_)
 refine Aa<|Ac<|Ab (AB rfl (b0.memA (.tl .hd))) ?_
 obtain ⟨F0,C0,h⟩:=bi h
 refine AX (fst:=[]) (cap:=[]) .plain body96 rfl (e1 rfl) (fun w9 hw9=>share_Ratio_Turned_c n _ w9 (b0.hL hL hw9) a0 (b0.km h0_1 hw9) (b0.km h0_3 hw9) C0) rfl (fun c1 W0 u0 ⟨R0,U0,hu_,z0,A0⟩=>?_)
 subst hu_
 obtain ⟨g0,M0⟩:=b0.agr u0
 obtain ⟨G0,D0,h⟩:=bi h
 refine AX (fst:=[]) (cap:=[]) .plain body147 rfl (e1 rfl) (fun w9 hw9=>share_Ratio_Down_c n _ w9 (g0.hL hL hw9) F0 (Am z0 hw9) (Am A0 hw9) D0) rfl (fun d1 X0 v0 ⟨V0,hu_,B0⟩=>?_)
 subst hu_
 obtain ⟨j0,P0⟩:=g0.agr v0
 obtain ⟨p0,E0,h⟩:=bi h
 refine AX (fst:=[]) (cap:=[]) .plain body137 rfl (e1 rfl) (fun w9 hw9=>wide_Long_Turned_c n _ w9 (j0.hL hL hw9) G0 (Am B0 hw9) E0) rfl (fun g1 Y0 x0 ⟨d0,hu_,k0⟩=>?_)
 subst hu_
 obtain ⟨s0,Q0⟩:=j0.agr x0
 refine AL [.bool p0.fBelow,d0] s0 .hd (o2 rfl (AI k0)) (fun j1 c0 t0=>?_)
 refine Aa<|Al rfl<|Ao hb0 Tryz.func146 rfl (.cons (.many (cs:=[.bool p0.fBelow,d0]) (by kernel_rfl) rfl (c0.memA .hd)) .nil) rfl ?_
 cases h
 have y0:=Ap k0 t0
 exact ⟨c0.ag,fun w9 hw9=>⟨d0,rfl,c0.kd y0 hw9⟩⟩
theorem body145:bodyB Tryz.prog 145 = true:=by kernel_rfl
theorem body146:bodyB Tryz.prog 146 = true:=by kernel_rfl
def share_Ceil_p (n:Nat) (a0:TShare):Option ((UInt64 × UInt64 × UInt64 × UInt64 × UInt64 × UInt64 × UInt64 × UInt64) × Int):=
  (share_valid_p n ([a0]:List TShare)).bind fun c0=>(if c0 = true then (share_Read_p n a0).bind fun d0=>(share_Ceil_1_p n d0).bind fun g0=>(wide_Long_Told_p n g0).bind fun b0=>some (b0.1,b0.2) else some (((0:UInt64),(0:UInt64),(0:UInt64),(0:UInt64),(0:UInt64),(0:UInt64),(0:UInt64),(0:UInt64)),(20:Int)))
theorem share_Ceil_c (n:Nat) (L:List Nat) (w:World) (hL:∀ b ∈ L,b < w.heap.size) (a0:TShare)  {r:(UInt64 × UInt64 × UInt64 × UInt64 × UInt64 × UInt64 × UInt64 × UInt64) × Int} (h:share_Ceil_p n a0 = some r) :
    Calls Tryz.prog 107 #[.agg ((cs_TShare a0)).toArray] w (Gives w fun _ u=>u = .tuple #[.agg ((cs_A34 r.1)).toArray,vI r.2]):=by
 unfold share_Ceil_p at h
 have hS0:=Ax w
 refine AA Tryz.func107 rfl rfl rfl (fun _ cs0 hb0=>?_)
 refine Ac<|Aj .plain rfl (Aw hS0 rfl rfl) (fun z1 P0 x0 X0=>?_)
 refine Aj .plain rfl (Av zP x0) (fun A1 Q0 g0 Y0=>?_)
 refine Ag rfl<|Aa<|Ac<|Ab (AB rfl (g0.memA (.tl .hd)))<|Bw (fst:=[]) (cap:=[]) (vs:=[.agg ((cs_TShare a0)).toArray,.func (.func 146) #[] #[]]) .plain body145 Tryz.func145 rfl rfl rfl rfl (e2 rfl rfl) rfl (fun W0 u0 s1=>?_)
 refine Ac<|Aj .plain rfl (Aw g0 rfl rfl) (fun B1 R0 y0 Z0=>?_)
 refine Aj .plain rfl (Av zP y0) (fun C1 U0 j0 b1=>?_)
 refine Ag rfl<|Aa<|Ak<|Ac<|Ab (AB rfl (j0.memA (.tl .hd)))<|Aj .plain rfl (AW (α:=TShare) (xs:=([a0]:List TShare)) (vs:=[.agg ((cs_TShare a0)).toArray]) (ds' :=(cs_TShare a0)) rfl j0 el68 rfl (e1 rfl) (by kernel_rfl) rfl) (fun D1 V0 c0 c1=>?_)
 have B0:=AG (cs:=(cs_TShare a0)) (xs:=(([a0]:List TShare):List TShare)) c0 L (Au (cs:=(cs_TShare a0)) (ds:=[]) (mk_TShare a0.fN a0.fD) (AO _ _))
 obtain ⟨J0,F0,h⟩:=bi h
 refine Bf (.bool J0) body125 rfl (e1 rfl) (fun w9 hw9=>share_valid_c n _ w9 (c0.hL0 hL hw9) ([a0]:List TShare) (Am (St.lend (α:=TShare) (L:=L) c0 .hd B0 hL) hw9) F0) rfl<|Ab (Bz rfl)<|Aa<|MX.ifnb rfl h (fun v0 h=>?_) (fun v0 h=>?_)
 refine Aq<|Ac<|Ae rfl<|Ab (AB rfl (c0.memA (.tl (.tl .hd)))) ?_
 obtain ⟨K0,G0,h⟩:=bi h
 refine AX (fst:=[]) (cap:=[]) .plain body130 rfl (e1 rfl) (fun w9 hw9=>share_Read_c n _ w9 (c0.hL hL hw9) a0 G0) rfl (fun E1 x1 z0 ⟨t1,u1,hu_,C0,D0⟩=>?_)
 subst hu_
 obtain ⟨k0,d1⟩:=c0.agr z0
 obtain ⟨M0,H0,h⟩:=bi h
 refine AX (fst:=[]) (cap:=[]) .plain body146 rfl (e1 rfl) (fun w9 hw9=>share_Ceil_1_c n _ w9 (k0.hL hL hw9) K0 (Am C0 hw9) (Am D0 hw9) H0) rfl (fun F1 y1 A0 ⟨v1,hu_,E0⟩=>?_)
 subst hu_
 obtain ⟨d0,g1⟩:=k0.agr A0
 obtain ⟨b0,I0,h⟩:=bi h
 refine Bf (.tuple #[.agg ((cs_A34 b0.1)).toArray,vI b0.2]) body166 rfl (e1 rfl) (fun w9 hw9=>wide_Long_Told_c n _ w9 (d0.hL0 hL hw9) M0 (d0.kd E0 hw9) I0) rfl<|Ab (Af rfl rfl)<|Ab (Af rfl rfl)<|AL (cs_A34 b0.1) d0 (.tl .hd) (onesB rfl) (fun G1 p0 j1=>?_)
 refine Ag rfl<|Aa<|Al rfl<|Ao (u:=.tuple #[.agg ((cs_A34 b0.1)).toArray,vI b0.2]) u0 Tryz.func145 rfl (.cons (.many (cs:=(cs_A34 b0.1)) (by kernel_rfl) rfl (p0.memA (.tl .hd))) (.cons (.tmp rfl) .nil)) rfl<|Ab (Af rfl rfl)<|Ab (Af rfl rfl)<|AL (cs_A34 b0.1) p0 (.tl (.tl (.tl .hd))) (onesB rfl) (fun H1 q0 k1=>?_)
 refine Ag rfl<|Aa<|Al rfl<|Ao hb0 Tryz.func107 rfl (.cons (.many (cs:=(cs_A34 b0.1)) (by kernel_rfl) rfl (q0.memA (.tl (.tl (.tl .hd))))) (.cons (.tmp rfl) .nil)) rfl ?_
 cases h
 exact q0.gv
 refine Ac<|Ab (AS (vs:=[]) (u:=.agg zQ) evs_nil (fun w9=>by kernel_rfl))<|AL zP c0 (.tl .hd) (onesB rfl) (fun I1 s0 p1=>?_)
 refine Ag rfl<|Aa<|Al rfl<|Ao (u:=.tuple #[.agg zQ,vI 20]) u0 Tryz.func145 rfl (.cons (.many (cs:=zP) (by kernel_rfl) rfl (s0.memA (.tl .hd))) (.cons (.tmp rfl) .nil)) rfl<|Ab (Af rfl rfl)<|Ab (Af rfl rfl)<|AL zP s0 (.tl (.tl (.tl .hd))) (onesB rfl) (fun J1 t0 q1=>?_)
 refine Ag rfl<|Aa<|Al rfl<|Ao hb0 Tryz.func107 rfl (.cons (.many (cs:=zP) (by kernel_rfl) rfl (t0.memA (.tl (.tl (.tl .hd))))) (.cons (.tmp rfl) .nil)) rfl ?_
 cases h
 exact t0.gv
def share_Floor_p (n:Nat) (a0:TShare):Option ((UInt64 × UInt64 × UInt64 × UInt64 × UInt64 × UInt64 × UInt64 × UInt64) × Int):=
  (share_valid_p n ([a0]:List TShare)).bind fun c0=>(if c0 = true then (share_Read_p n a0).bind fun d0=>(share_Ratio_Down_p n d0).bind fun g0=>(wide_Long_Told_p n g0).bind fun b0=>some (b0.1,b0.2) else some (((0:UInt64),(0:UInt64),(0:UInt64),(0:UInt64),(0:UInt64),(0:UInt64),(0:UInt64),(0:UInt64)),(20:Int)))
theorem share_Floor_c (n:Nat) (L:List Nat) (w:World) (hL:∀ b ∈ L,b < w.heap.size) (a0:TShare)  {r:(UInt64 × UInt64 × UInt64 × UInt64 × UInt64 × UInt64 × UInt64 × UInt64) × Int} (h:share_Floor_p n a0 = some r) :
    Calls Tryz.prog 108 #[.agg ((cs_TShare a0)).toArray] w (Gives w fun _ u=>u = .tuple #[.agg ((cs_A34 r.1)).toArray,vI r.2]):=by
 unfold share_Floor_p at h
 have hS0:=Ax w
 refine AA Tryz.func108 rfl rfl rfl (fun _ cs0 hb0=>?_)
 refine Ac<|Aj .plain rfl (Aw hS0 rfl rfl) (fun z1 P0 x0 X0=>?_)
 refine Aj .plain rfl (Av zP x0) (fun A1 Q0 g0 Y0=>?_)
 refine Ag rfl<|Aa<|Ac<|Ab (AB rfl (g0.memA (.tl .hd)))<|Bw (fst:=[]) (cap:=[]) (vs:=[.agg ((cs_TShare a0)).toArray,.func (.func 147) #[] #[]]) .plain body145 Tryz.func145 rfl rfl rfl rfl (e2 rfl rfl) rfl (fun W0 u0 s1=>?_)
 refine Ac<|Aj .plain rfl (Aw g0 rfl rfl) (fun B1 R0 y0 Z0=>?_)
 refine Aj .plain rfl (Av zP y0) (fun C1 U0 j0 b1=>?_)
 refine Ag rfl<|Aa<|Ak<|Ac<|Ab (AB rfl (j0.memA (.tl .hd)))<|Aj .plain rfl (AW (α:=TShare) (xs:=([a0]:List TShare)) (vs:=[.agg ((cs_TShare a0)).toArray]) (ds' :=(cs_TShare a0)) rfl j0 el68 rfl (e1 rfl) (by kernel_rfl) rfl) (fun D1 V0 c0 c1=>?_)
 have B0:=AG (cs:=(cs_TShare a0)) (xs:=(([a0]:List TShare):List TShare)) c0 L (Au (cs:=(cs_TShare a0)) (ds:=[]) (mk_TShare a0.fN a0.fD) (AO _ _))
 obtain ⟨J0,F0,h⟩:=bi h
 refine Bf (.bool J0) body125 rfl (e1 rfl) (fun w9 hw9=>share_valid_c n _ w9 (c0.hL0 hL hw9) ([a0]:List TShare) (Am (St.lend (α:=TShare) (L:=L) c0 .hd B0 hL) hw9) F0) rfl<|Ab (Bz rfl)<|Aa<|MX.ifnb rfl h (fun v0 h=>?_) (fun v0 h=>?_)
 refine Aq<|Ac<|Ae rfl<|Ab (AB rfl (c0.memA (.tl (.tl .hd)))) ?_
 obtain ⟨K0,G0,h⟩:=bi h
 refine AX (fst:=[]) (cap:=[]) .plain body130 rfl (e1 rfl) (fun w9 hw9=>share_Read_c n _ w9 (c0.hL hL hw9) a0 G0) rfl (fun E1 x1 z0 ⟨t1,u1,hu_,C0,D0⟩=>?_)
 subst hu_
 obtain ⟨k0,d1⟩:=c0.agr z0
 obtain ⟨M0,H0,h⟩:=bi h
 refine AX (fst:=[]) (cap:=[]) .plain body147 rfl (e1 rfl) (fun w9 hw9=>share_Ratio_Down_c n _ w9 (k0.hL hL hw9) K0 (Am C0 hw9) (Am D0 hw9) H0) rfl (fun F1 y1 A0 ⟨v1,hu_,E0⟩=>?_)
 subst hu_
 obtain ⟨d0,g1⟩:=k0.agr A0
 obtain ⟨b0,I0,h⟩:=bi h
 refine Bf (.tuple #[.agg ((cs_A34 b0.1)).toArray,vI b0.2]) body166 rfl (e1 rfl) (fun w9 hw9=>wide_Long_Told_c n _ w9 (d0.hL0 hL hw9) M0 (d0.kd E0 hw9) I0) rfl<|Ab (Af rfl rfl)<|Ab (Af rfl rfl)<|AL (cs_A34 b0.1) d0 (.tl .hd) (onesB rfl) (fun G1 p0 j1=>?_)
 refine Ag rfl<|Aa<|Al rfl<|Ao (u:=.tuple #[.agg ((cs_A34 b0.1)).toArray,vI b0.2]) u0 Tryz.func145 rfl (.cons (.many (cs:=(cs_A34 b0.1)) (by kernel_rfl) rfl (p0.memA (.tl .hd))) (.cons (.tmp rfl) .nil)) rfl<|Ab (Af rfl rfl)<|Ab (Af rfl rfl)<|AL (cs_A34 b0.1) p0 (.tl (.tl (.tl .hd))) (onesB rfl) (fun H1 q0 k1=>?_)
 refine Ag rfl<|Aa<|Al rfl<|Ao hb0 Tryz.func108 rfl (.cons (.many (cs:=(cs_A34 b0.1)) (by kernel_rfl) rfl (q0.memA (.tl (.tl (.tl .hd))))) (.cons (.tmp rfl) .nil)) rfl ?_
 cases h
 exact q0.gv
 refine Ac<|Ab (AS (vs:=[]) (u:=.agg zQ) evs_nil (fun w9=>by kernel_rfl))<|AL zP c0 (.tl .hd) (onesB rfl) (fun I1 s0 p1=>?_)
 refine Ag rfl<|Aa<|Al rfl<|Ao (u:=.tuple #[.agg zQ,vI 20]) u0 Tryz.func145 rfl (.cons (.many (cs:=zP) (by kernel_rfl) rfl (s0.memA (.tl .hd))) (.cons (.tmp rfl) .nil)) rfl<|Ab (Af rfl rfl)<|Ab (Af rfl rfl)<|AL zP s0 (.tl (.tl (.tl .hd))) (onesB rfl) (fun J1 t0 q1=>?_)
 refine Ag rfl<|Aa<|Al rfl<|Ao hb0 Tryz.func108 rfl (.cons (.many (cs:=zP) (by kernel_rfl) rfl (t0.memA (.tl (.tl (.tl .hd))))) (.cons (.tmp rfl) .nil)) rfl ?_
 cases h
 exact t0.gv
def tb51_2:List (Nat × Nat × Nat):=[(0,65536,4),(1,131072,65536),(0,262144,4),(4,524288,262144),(10,1048576,655360),(0,32,0),(63,0,1048608)]
def tb51_4:List (Nat × Nat × Nat):=[(0,4194304,64),(0,8388608,0),(0,16777216,8),(6,33554432,25165824),(8,67108864,33554432),(8,134217728,33554432),(56,268435456,201326592),(65,536870912,272629760),(255,128,536870912)]
def tb51_5:List (Nat × Nat × Nat):=[(0,1073741824,64),(0,2147483648,0),(0,4294967296,8),(6,8589934592,6442450944),(8,17179869184,8589934592),(8,34359738368,8589934592),(56,68719476736,51539607552),(65,137438953472,69793218560),(255,256,137438953472)]
theorem body24:bodyB Tryz.prog 24 = true:=by kernel_rfl
theorem body25:bodyB Tryz.prog 25 = true:=by kernel_rfl
theorem body26:bodyB Tryz.prog 26 = true:=by kernel_rfl
theorem body70:bodyB Tryz.prog 70 = true:=by kernel_rfl
theorem body71:bodyB Tryz.prog 71 = true:=by kernel_rfl
theorem body102:bodyB Tryz.prog 102 = true:=by kernel_rfl
theorem body103:bodyB Tryz.prog 103 = true:=by kernel_rfl
theorem body104:bodyB Tryz.prog 104 = true:=by kernel_rfl
theorem body105:bodyB Tryz.prog 105 = true:=by kernel_rfl
theorem body106:bodyB Tryz.prog 106 = true:=by kernel_rfl
theorem body107:bodyB Tryz.prog 107 = true:=by kernel_rfl
theorem body108:bodyB Tryz.prog 108 = true:=by kernel_rfl
def balance_count_within_p (n:Nat) (a0:Tcount) (a1:TShare):Option (Except Tbroken Tbounds):=
  (share_Sign_p n a1).bind fun p0=>(balance_must_int_p n p0.1 p0.2).bind fun d1=>exc d1 (fun g1=>(balance_fail_p n (decide (g1 < 0)) (2:Int)).bind fun j1=>exc j1 (fun x1=>(balance_count_people_p n a0).bind fun k1=>(balance_of_p n k1 a0.fk).bind fun p1=>exc p1 (fun q0=>(balance_of_p n (1:Int) (1:Int)).bind fun q1=>exc q1 (fun s1=>(share_Sub_p n s1 a1).bind fun s0=>(balance_must_api_Share_p n s0.1 s0.2).bind fun t1=>exc t1 (fun u1=>(share_Mul_p n u1 q0).bind fun t0=>(balance_must_api_Share_p n t0.1 t0.2).bind fun v1=>exc v1 (fun I0=>(share_Ceil_p n I0).bind fun b0=>(balance_must_api_Wide_p n b0.1 b0.2).bind fun J0=>exc J0 (fun K0=>(wide_Int_p n K0).bind fun c0=>(balance_must_int_p n c0.1 c0.2).bind fun M0=>exc M0 (fun P0=>(balance_of_p n (1:Int) (1:Int)).bind fun Q0=>exc Q0 (fun R0=>(share_Add_p n R0 a1).bind fun d0=>(balance_must_api_Share_p n d0.1 d0.2).bind fun U0=>exc U0 (fun V0=>(share_Mul_p n V0 q0).bind fun g0=>(balance_must_api_Share_p n g0.1 g0.2).bind fun W0=>exc W0 (fun X0=>(share_Floor_p n X0).bind fun j0=>(balance_must_api_Wide_p n j0.1 j0.2).bind fun Y0=>exc Y0 (fun Z0=>(wide_Int_p n Z0).bind fun k0=>(balance_must_int_p n k0.1 k0.2).bind fun b1=>exc b1 (fun c1=>some (.ok (⟨P0,c1⟩:Tbounds))) (fun B0=>some (.error B0))) (fun A0=>some (.error A0))) (fun z0=>some (.error z0))) (fun y0=>some (.error y0))) (fun x0=>some (.error x0))) (fun v0=>some (.error v0))) (fun u0=>some (.error u0))) (fun H0=>some (.error H0))) (fun G0=>some (.error G0))) (fun F0=>some (.error F0))) (fun E0=>some (.error E0))) (fun D0=>some (.error D0))) (fun C0=>some (.error C0))
theorem balance_count_within_c (n:Nat) (L:List Nat) (w:World) (hL:∀ b ∈ L,b < w.heap.size) (a0:Tcount) {v0_3:Value} (h0_3:Rep.R w L [v0_3] a0.fRoll.fUnits) (a1:TShare)  {r:Except Tbroken Tbounds} (h:balance_count_within_p n a0 a1 = some r) :
    Calls Tryz.prog 51 #[.agg #[vI a0.fRoll.fGroups,vI a0.fRoll.fParties,vI a0.fRoll.fLevels,v0_3,vI a0.fk],.agg ((cs_TShare a1)).toArray] w (PGives w (fun (y:Tbounds) _ u=>u = .agg #[vI y.flow,vI y.fhigh]) (fun e=>.iface 140 (.agg #[vI e.fErrno])) r):=by
 unfold balance_count_within_p at h
 have hS0:=Ax w
 refine MX.startP Tryz.func51 rfl rfl rfl (fun _ cs0 hb0 hp0=>?_)
 refine Ac<|Aj .plain rfl (Aw hS0 rfl rfl) (fun s4 Z2 C1 I3=>?_)
 refine Aj .plain rfl (Aw C1 rfl rfl) (fun A4 c3 I1 U3=>?_)
 refine Aj .plain rfl (Av [vI 0,vI 0] I1) (fun E4 d3 c0 W3=>?_)
 refine Aa<|Ac<|Ab (AB rfl (c0.memA (.tl .hd))) ?_
 obtain ⟨D0,D2,h⟩:=bi h
 refine Bf (.tuple #[vI D0.1,vI D0.2]) body103 rfl (e1 rfl) (fun w9 hw9=>share_Sign_c n _ w9 (c0.hL0 hL hw9) a1 D2) rfl<|Ab (Af rfl rfl)<|Ab (Af rfl rfl) ?_
 obtain ⟨R2,j1,h⟩:=bi h
 rcases R2 with z3 | H0
 have h:=exc_e h
 try dsimp only at h
 refine Bu (fst:=[]) (cap:=[]) .plain body102 rfl (e2 rfl rfl) (fun w9 hw9=>balance_must_int_c n _ w9 (c0.hL0 hL hw9) D0.1 D0.2 j1) (fun F4 j2=>?_)
 obtain ⟨K1,X3⟩:=c0.agr j2
 cases h
 exact Ba hp0 Tryz.func51 ⟨K1.ag,rfl⟩
 have h:=exc_o h
 try dsimp only at h
 refine Bf (vI H0) body102 rfl (e2 rfl rfl) (fun w9 hw9=>AU (balance_must_int_c n _ w9 (c0.hL0 hL hw9) D0.1 D0.2 j1)) rfl<|Ab (FV.lss (i:=H0) (j:=0) rfl rfl) ?_
 obtain ⟨U2,k1,h⟩:=bi h
 rcases U2 with A3 | U4
 have h:=exc_e h
 try dsimp only at h
 refine Bu (fst:=[]) (cap:=[]) .plain body75 rfl (e2 rfl rfl) (fun w9 hw9=>balance_fail_c n _ w9 (c0.hL0 hL hw9) (decide (H0 < 0)) (2:Int) k1) (fun G4 k2=>?_)
 obtain ⟨M1,Y3⟩:=c0.agr k2
 cases h
 exact Ba hp0 Tryz.func51 ⟨M1.ag,rfl⟩
 have h:=exc_o h
 try dsimp only at h
 refine Bf (.tuple #[]) body75 rfl (e2 rfl rfl) (fun w9 hw9=>AU (balance_fail_c n _ w9 (c0.hL0 hL hw9) (decide (H0 < 0)) (2:Int) k1)) rfl<|Aa<|Ak<|AF 6 tb51_2 (by kernel_rfl) (by kernel_rfl) (by kernel_rfl) (fun p0 G0=>?_)
 refine AD 0 1 82 p0 rfl G0 (AB rfl (c0.memA (.tl (.tl .hd)))) rfl ?_
 obtain ⟨I0,E2,h⟩:=bi h
 refine BI 1 3 80 (vI I0) p0 rfl G0 body71 rfl (e1 rfl) (fun w9 hw9=>balance_count_people_c n _ w9 (c0.hL0 hL hw9) a0 (c0.k0 h0_3 hw9) E2) rfl<|Ah 2 7 p0 rfl G0 (fun _=>Bh 4 rfl) rfl<|AD 3 15 80 p0 rfl G0 (AK rfl ((c0.memA (.tl (.tl .hd))) 4 _ rfl)) rfl ?_
 obtain ⟨V2,Q0,h⟩:=bi h
 rcases V2 with B3 | J0
 have h:=exc_e h
 try dsimp only at h
 refine RD.each [4,5] (readyD_ok p0 (by kernel_rfl)) ⟨?_,?_,trivial⟩
 refine RO.callE (fst:=[]) (cap:=[]) rfl .plain body70 rfl (e2 rfl rfl) (fun w9 hw9=>balance_of_c n _ w9 (c0.hL0 hL hw9) I0 a0.fk Q0) (fun H4 p2=>?_)
 obtain ⟨P1,Z3⟩:=c0.agr p2
 cases h
 exact Ba hp0 Tryz.func51 ⟨P1.ag,rfl⟩
 refine RO.new (m' :=47) (stepC_ok p0 (by kernel_rfl)) rfl .plain rfl (Av zL c0) (fun I4 g3 W0 b4=>?_)
 refine Bs (i:=4) (readyD_ok p0 (by kernel_rfl)) (RO.callE (fst:=[]) (cap:=[]) rfl .plain body70 rfl (e2 rfl rfl) (fun w9 hw9=>balance_of_c n _ w9 (W0.hL0 hL hw9) I0 a0.fk Q0) (fun J4 q2=>?_))
 obtain ⟨Q1,c4⟩:=W0.agr q2
 cases h
 exact Ba hp0 Tryz.func51 ⟨Q1.ag,rfl⟩
 have h:=exc_o h
 try dsimp only at h
 refine BI 4 31 64 (.agg ((cs_TShare J0)).toArray) p0 rfl G0 body70 rfl (e2 rfl rfl) (fun w9 hw9=>AU (balance_of_c n _ w9 (c0.hL0 hL hw9) I0 a0.fk Q0)) rfl<|RD.nu 5 63 p0 rfl .plain rfl (Av zL c0) (fun K4 K0 R1 d4=>?_)
 refine Bt 6 127 p0 rfl rfl .plain (Ay (news:=(cs_TShare J0)) R1 .hd rfl rfl rfl rfl rfl rfl (onesB rfl)) (fun M4 q0 g4=>?_)
 refine AE (doneD_ok p0 (by kernel_rfl))<|Ac<|Ab (BG (vs:=[]) (us:=[vP K0]) evs_nil (e1 rfl))<|Ag rfl<|Aa<|Ak<|AF 7 tb51_4 (by kernel_rfl) (by kernel_rfl) (by kernel_rfl) (fun g0 t0=>?_)
 obtain ⟨W2,p1,h⟩:=bi h
 rcases W2 with C3 | z1
 have h:=exc_e h
 try dsimp only at h
 refine Ah 0 1 g0 rfl t0 (fun _=>Ai rfl) rfl<|AD 2 5 504 g0 rfl t0 (AB rfl (q0.memA (.tl (.tl .hd)))) rfl<|Bs (i:=1) (readyD_ok g0 (by kernel_rfl)) (RO.callE (fst:=[]) (cap:=[]) rfl .plain body70 rfl (e2 rfl rfl) (fun w9 hw9=>balance_of_c n _ w9 (q0.hL0 hL hw9) (1:Int) (1:Int) p1) (fun P4 s2=>?_))
 obtain ⟨U1,j4⟩:=q0.agr s2
 cases h
 exact Ba hp0 Tryz.func51 ⟨U1.ag,rfl⟩
 have h:=exc_o h
 try dsimp only at h
 refine Ah 0 1 g0 rfl t0 (fun _=>Ai rfl) rfl<|BI 1 3 504 (.agg ((cs_TShare z1)).toArray) g0 rfl t0 body70 rfl (e2 rfl rfl) (fun w9 hw9=>AU (balance_of_c n _ w9 (q0.hL0 hL hw9) (1:Int) (1:Int) p1)) rfl<|AD 2 7 504 g0 rfl t0 (AB rfl (q0.memA (.tl (.tl .hd)))) rfl ?_
 obtain ⟨E0,F2,h⟩:=bi h
 refine BI 3 15 496 (.tuple #[.agg ((cs_TShare E0.1)).toArray,vI E0.2]) g0 rfl t0 body24 rfl (e2 rfl rfl) (fun w9 hw9=>share_Sub_c n _ w9 (q0.hL0 hL hw9) z1 a1 F2) rfl<|Ah 4 31 g0 rfl t0 (fun _=>Af rfl rfl) rfl<|Ah 5 63 g0 rfl t0 (fun _=>Af rfl rfl) rfl ?_
 obtain ⟨X2,q1,h⟩:=bi h
 rcases X2 with D3 | U0
 have h:=exc_e h
 try dsimp only at h
 refine Bs (i:=6) (readyD_ok g0 (by kernel_rfl)) (RO.callE (fst:=[]) (cap:=[]) rfl .plain body76 rfl (e2 rfl rfl) (fun w9 hw9=>balance_must_api_Share_c n _ w9 (q0.hL0 hL hw9) E0.1 E0.2 q1) (fun Q4 t2=>?_))
 obtain ⟨V1,k4⟩:=q0.agr t2
 cases h
 exact Ba hp0 Tryz.func51 ⟨V1.ag,rfl⟩
 have h:=exc_o h
 try dsimp only at h
 refine BI 6 127 384 (.agg ((cs_TShare U0)).toArray) g0 rfl t0 body76 rfl (e2 rfl rfl) (fun w9 hw9=>AU (balance_must_api_Share_c n _ w9 (q0.hL0 hL hw9) E0.1 E0.2 q1)) rfl<|Bs (i:=7) (readyD_ok g0 (by kernel_rfl)) (RO.enterPT (m' :=255) (fst:=[]) (cap:=[vP K0]) (vs:=[.agg ((cs_TShare U0)).toArray,.func (.func 107) #[] #[]]) (stepC_ok g0 (by kernel_rfl)) rfl rfl .plain body104 Tryz.func104 rfl rfl rfl rfl (e2 rfl rfl) rfl (fun _ p3 v2 P0=>?_))
 refine Ac<|Aj .plain rfl (Aw q0 rfl rfl) (fun R4 j3 b0 p4=>?_)
 refine Ag rfl<|Aa<|Ac<|Ae rfl<|Ab (AB rfl (b0.memA .hd))<|Ab (AB rfl (b0.memA (.tl .hd))) ?_
 obtain ⟨F0,G2,h⟩:=bi h
 refine Bf (.tuple #[.agg ((cs_TShare F0.1)).toArray,vI F0.2]) body25 rfl (e2 rfl rfl) (fun w9 hw9=>share_Mul_c n _ w9 (b0.hL0 hL hw9) U0 J0 G2) rfl<|Ab (Af rfl rfl)<|Ab (Af rfl rfl) ?_
 obtain ⟨Y2,s1,h⟩:=bi h
 rcases Y2 with E3 | t1
 have h:=exc_e h
 try dsimp only at h
 refine Bu (fst:=[]) (cap:=[]) .plain body76 rfl (e2 rfl rfl) (fun w9 hw9=>balance_must_api_Share_c n _ w9 (b0.hL0 hL hw9) F0.1 F0.2 s1) (fun q4 W1=>?_)
 obtain ⟨A1,F3⟩:=b0.agr W1
 refine Ba P0 Tryz.func104 ?_
 cases h
 exact Ba hp0 Tryz.func51 ⟨A1.ag,rfl⟩
 have h:=exc_o h
 try dsimp only at h
 refine Bf (.agg ((cs_TShare t1)).toArray) body76 rfl (e2 rfl rfl) (fun w9 hw9=>AU (balance_must_api_Share_c n _ w9 (b0.hL0 hL hw9) F0.1 F0.2 s1)) rfl ?_
 obtain ⟨u0,x2,h⟩:=bi h
 refine Bf (.tuple #[.agg ((cs_A34 u0.1)).toArray,vI u0.2]) body107 rfl (e1 rfl) (fun w9 hw9=>share_Ceil_c n _ w9 (b0.hL0 hL hw9) t1 x2) rfl<|Ab (Af rfl rfl)<|Ab (Af rfl rfl) ?_
 obtain ⟨H2,X0,h⟩:=bi h
 rcases H2 with q3 | u1
 have h:=exc_e h
 try dsimp only at h
 refine Bu (fst:=[]) (cap:=[]) .plain body106 rfl (e2 rfl rfl) (fun w9 hw9=>balance_must_api_Wide_c n _ w9 (b0.hL0 hL hw9) u0.1 u0.2 X0) (fun t4 X1=>?_)
 obtain ⟨B1,G3⟩:=b0.agr X1
 refine Ba P0 Tryz.func104 ?_
 cases h
 exact Ba hp0 Tryz.func51 ⟨B1.ag,rfl⟩
 have h:=exc_o h
 try dsimp only at h
 refine Bf (.agg ((cs_A34 u1)).toArray) body106 rfl (e2 rfl rfl) (fun w9 hw9=>AU (balance_must_api_Wide_c n _ w9 (b0.hL0 hL hw9) u0.1 u0.2 X0)) rfl ?_
 obtain ⟨v0,y2,h⟩:=bi h
 refine Bf (.tuple #[vI v0.1,vI v0.2]) body105 rfl (e1 rfl) (fun w9 hw9=>wide_Int_c n _ w9 (b0.hL0 hL hw9) u1 y2) rfl<|Ab (Af rfl rfl)<|Ab (Af rfl rfl) ?_
 obtain ⟨I2,Y0,h⟩:=bi h
 rcases I2 with s3 | x0
 have h:=exc_e h
 try dsimp only at h
 refine Bu (fst:=[]) (cap:=[]) .plain body102 rfl (e2 rfl rfl) (fun w9 hw9=>balance_must_int_c n _ w9 (b0.hL0 hL hw9) v0.1 v0.2 Y0) (fun u4 Y1=>?_)
 obtain ⟨D1,H3⟩:=b0.agr Y1
 refine Ba P0 Tryz.func104 ?_
 cases h
 exact Ba hp0 Tryz.func51 ⟨D1.ag,rfl⟩
 have h:=exc_o h
 try dsimp only at h
 refine Bf (vI x0) body102 rfl (e2 rfl rfl) (fun w9 hw9=>AU (balance_must_int_c n _ w9 (b0.hL0 hL hw9) v0.1 v0.2 Y0)) rfl<|Ag rfl<|Aa<|Al rfl<|Ao (u:=vI x0) v2 Tryz.func104 rfl (.cons (.tmp rfl) .nil) rfl<|Bs (i:=8) (readyD_ok g0 (by kernel_rfl)) (RO.val (m' :=511) (stepC_ok g0 (by kernel_rfl)) rfl .plain rfl (AJ rfl) ?_)
 refine AE (doneD_ok g0 (by kernel_rfl))<|Ak<|AF 7 tb51_5 (by kernel_rfl) (by kernel_rfl) (by kernel_rfl) (fun d0 s0=>?_)
 obtain ⟨J2,Z0,h⟩:=bi h
 rcases J2 with t3 | v1
 have h:=exc_e h
 try dsimp only at h
 refine Ah 0 1 d0 rfl s0 (fun _=>Ai rfl) rfl<|AD 2 5 504 d0 rfl s0 (AB rfl (b0.memA (.tl (.tl (.tl .hd))))) rfl<|Bs (i:=1) (readyD_ok d0 (by kernel_rfl)) (RO.callE (fst:=[]) (cap:=[]) rfl .plain body70 rfl (e2 rfl rfl) (fun w9 hw9=>balance_of_c n _ w9 (b0.hL0 hL hw9) (1:Int) (1:Int) Z0) (fun v4 Z1=>?_))
 obtain ⟨E1,J3⟩:=b0.agr Z1
 cases h
 exact Ba hp0 Tryz.func51 ⟨E1.ag,rfl⟩
 have h:=exc_o h
 try dsimp only at h
 refine Ah 0 1 d0 rfl s0 (fun _=>Ai rfl) rfl<|BI 1 3 504 (.agg ((cs_TShare v1)).toArray) d0 rfl s0 body70 rfl (e2 rfl rfl) (fun w9 hw9=>AU (balance_of_c n _ w9 (b0.hL0 hL hw9) (1:Int) (1:Int) Z0)) rfl<|AD 2 7 504 d0 rfl s0 (AB rfl (b0.memA (.tl (.tl (.tl .hd))))) rfl ?_
 obtain ⟨y0,z2,h⟩:=bi h
 refine BI 3 15 496 (.tuple #[.agg ((cs_TShare y0.1)).toArray,vI y0.2]) d0 rfl s0 body26 rfl (e2 rfl rfl) (fun w9 hw9=>share_Add_c n _ w9 (b0.hL0 hL hw9) v1 a1 z2) rfl<|Ah 4 31 d0 rfl s0 (fun _=>Af rfl rfl) rfl<|Ah 5 63 d0 rfl s0 (fun _=>Af rfl rfl) rfl ?_
 obtain ⟨K2,b1,h⟩:=bi h
 rcases K2 with u3 | R0
 have h:=exc_e h
 try dsimp only at h
 refine Bs (i:=6) (readyD_ok d0 (by kernel_rfl)) (RO.callE (fst:=[]) (cap:=[]) rfl .plain body76 rfl (e2 rfl rfl) (fun w9 hw9=>balance_must_api_Share_c n _ w9 (b0.hL0 hL hw9) y0.1 y0.2 b1) (fun x4 b2=>?_))
 obtain ⟨F1,K3⟩:=b0.agr b2
 cases h
 exact Ba hp0 Tryz.func51 ⟨F1.ag,rfl⟩
 have h:=exc_o h
 try dsimp only at h
 refine BI 6 127 384 (.agg ((cs_TShare R0)).toArray) d0 rfl s0 body76 rfl (e2 rfl rfl) (fun w9 hw9=>AU (balance_must_api_Share_c n _ w9 (b0.hL0 hL hw9) y0.1 y0.2 b1)) rfl<|Bs (i:=7) (readyD_ok d0 (by kernel_rfl)) (RO.enterPT (m' :=255) (fst:=[]) (cap:=[vP K0]) (vs:=[.agg ((cs_TShare R0)).toArray,.func (.func 108) #[] #[]]) (stepC_ok d0 (by kernel_rfl)) rfl rfl .plain body104 Tryz.func104 rfl rfl rfl rfl (e2 rfl rfl) rfl (fun _ k3 u2 M0=>?_))
 refine Ac<|Aj .plain rfl (Aw b0 rfl rfl) (fun y4 b3 j0 M3=>?_)
 refine Ag rfl<|Aa<|Ac<|Ae rfl<|Ab (AB rfl (j0.memA .hd))<|Ab (AB rfl (j0.memA (.tl (.tl .hd)))) ?_
 obtain ⟨z0,A2,h⟩:=bi h
 refine Bf (.tuple #[.agg ((cs_TShare z0.1)).toArray,vI z0.2]) body25 rfl (e2 rfl rfl) (fun w9 hw9=>share_Mul_c n _ w9 (j0.hL0 hL hw9) R0 J0 A2) rfl<|Ab (Af rfl rfl)<|Ab (Af rfl rfl) ?_
 obtain ⟨M2,c1,h⟩:=bi h
 rcases M2 with v3 | x1
 have h:=exc_e h
 try dsimp only at h
 refine Bu (fst:=[]) (cap:=[]) .plain body76 rfl (e2 rfl rfl) (fun w9 hw9=>balance_must_api_Share_c n _ w9 (j0.hL0 hL hw9) z0.1 z0.2 c1) (fun z4 c2=>?_)
 obtain ⟨G1,P3⟩:=j0.agr c2
 refine Ba M0 Tryz.func104 ?_
 cases h
 exact Ba hp0 Tryz.func51 ⟨G1.ag,rfl⟩
 have h:=exc_o h
 try dsimp only at h
 refine Bf (.agg ((cs_TShare x1)).toArray) body76 rfl (e2 rfl rfl) (fun w9 hw9=>AU (balance_must_api_Share_c n _ w9 (j0.hL0 hL hw9) z0.1 z0.2 c1)) rfl ?_
 obtain ⟨A0,B2,h⟩:=bi h
 refine Bf (.tuple #[.agg ((cs_A34 A0.1)).toArray,vI A0.2]) body108 rfl (e1 rfl) (fun w9 hw9=>share_Floor_c n _ w9 (j0.hL0 hL hw9) x1 B2) rfl<|Ab (Af rfl rfl)<|Ab (Af rfl rfl) ?_
 obtain ⟨P2,d1,h⟩:=bi h
 rcases P2 with x3 | y1
 have h:=exc_e h
 try dsimp only at h
 refine Bu (fst:=[]) (cap:=[]) .plain body106 rfl (e2 rfl rfl) (fun w9 hw9=>balance_must_api_Wide_c n _ w9 (j0.hL0 hL hw9) A0.1 A0.2 d1) (fun B4 d2=>?_)
 obtain ⟨H1,Q3⟩:=j0.agr d2
 refine Ba M0 Tryz.func104 ?_
 cases h
 exact Ba hp0 Tryz.func51 ⟨H1.ag,rfl⟩
 have h:=exc_o h
 try dsimp only at h
 refine Bf (.agg ((cs_A34 y1)).toArray) body106 rfl (e2 rfl rfl) (fun w9 hw9=>AU (balance_must_api_Wide_c n _ w9 (j0.hL0 hL hw9) A0.1 A0.2 d1)) rfl ?_
 obtain ⟨B0,C2,h⟩:=bi h
 refine Bf (.tuple #[vI B0.1,vI B0.2]) body105 rfl (e1 rfl) (fun w9 hw9=>wide_Int_c n _ w9 (j0.hL0 hL hw9) y1 C2) rfl<|Ab (Af rfl rfl)<|Ab (Af rfl rfl) ?_
 obtain ⟨Q2,g1,h⟩:=bi h
 rcases Q2 with y3 | C0
 have h:=exc_e h
 try dsimp only at h
 refine Bu (fst:=[]) (cap:=[]) .plain body102 rfl (e2 rfl rfl) (fun w9 hw9=>balance_must_int_c n _ w9 (j0.hL0 hL hw9) B0.1 B0.2 g1) (fun C4 g2=>?_)
 obtain ⟨J1,R3⟩:=j0.agr g2
 refine Ba M0 Tryz.func104 ?_
 cases h
 exact Ba hp0 Tryz.func51 ⟨J1.ag,rfl⟩
 have h:=exc_o h
 try dsimp only at h
 refine Bf (vI C0) body102 rfl (e2 rfl rfl) (fun w9 hw9=>AU (balance_must_int_c n _ w9 (j0.hL0 hL hw9) B0.1 B0.2 g1)) rfl<|Ag rfl<|Aa<|Al rfl<|Ao (u:=vI C0) u2 Tryz.func104 rfl (.cons (.tmp rfl) .nil) rfl<|Bs (i:=8) (readyD_ok d0 (by kernel_rfl)) (RO.val (m' :=511) (stepC_ok d0 (by kernel_rfl)) rfl .plain rfl (AJ rfl) ?_)
 refine AE (doneD_ok d0 (by kernel_rfl))<|Ac<|Ae rfl<|Ae rfl<|Ab (AS (vs:=[vI x0,vI C0]) (u:=.agg #[vI x0,vI C0]) (e2 rfl rfl) (fun w9=>by kernel_rfl))<|AL [vI x0,vI C0] j0 (.tl (.tl (.tl .hd))) (onesB rfl) (fun D4 V0 V3=>?_)
 refine Aa<|Al rfl<|Ao hb0 Tryz.func51 rfl (.cons (.many (cs:=[vI x0,vI C0]) (by kernel_rfl) rfl (V0.memA (.tl (.tl (.tl .hd))))) .nil) rfl ?_
 cases h
 exact ⟨V0.ag,fun w9 hw9=>okOf_in rfl⟩
def tb49_1:List (Nat × Nat × Nat):=[(0,16,1),(0,32,2),(3,64,48),(0,128,4),(12,256,192),(31,0,264)]
theorem body50:bodyB Tryz.prog 50 = true:=by kernel_rfl
theorem body51:bodyB Tryz.prog 51 = true:=by kernel_rfl
def balance_Bounds_1_p (n:Nat) (a0:TRoll) (a1:Int) (a2:TShare):Option (Except Tbroken Tbounds):=
  (balance_counted_p n a0 a1).bind fun d0=>exc d0 (fun g0=>(balance_count_within_p n g0 a2).bind fun j0=>exc j0 (fun k0=>some (.ok k0)) (fun c0=>some (.error c0))) (fun b0=>some (.error b0))
theorem balance_Bounds_1_c (n:Nat) (L:List Nat) (w:World) (hL:∀ b ∈ L,b < w.heap.size) (a0:TRoll) {v0_3:Value} (h0_3:Rep.R w L [v0_3] a0.fUnits) {p0:Nat} (m0:∀ j9 v9,([vI a0.fGroups,vI a0.fParties,vI a0.fLevels,v0_3]:List Value)[j9]? = some v9 → w.cell? ((⟨p0,0,none⟩:Addr).add j9) = some v9) (a1:Int) {p1:Nat} (m1:∀ j9 v9,([vI a1]:List Value)[j9]? = some v9 → w.cell? ((⟨p1,0,none⟩:Addr).add j9) = some v9) (a2:TShare) {p2:Nat} (m2:∀ j9 v9,((cs_TShare a2):List Value)[j9]? = some v9 → w.cell? ((⟨p2,0,none⟩:Addr).add j9) = some v9)  {r:Except Tbroken Tbounds} (h:balance_Bounds_1_p n a0 a1 a2 = some r) :
    Calls Tryz.prog 49 #[.pointer (some ⟨p0,0,none⟩),.pointer (some ⟨p1,0,none⟩),.pointer (some ⟨p2,0,none⟩)] w (PGives w (fun (y:Tbounds) _ u=>u = .agg #[vI y.flow,vI y.fhigh]) (fun e=>.iface 140 (.agg #[vI e.fErrno])) r):=by
 unfold balance_Bounds_1_p at h
 have hS0:=Ax w
 refine MX.startP Tryz.func49 rfl rfl rfl (fun _ cs0 hb0 hp0=>?_)
 refine Ac<|Aj .plain rfl (Av [vI 0,vI 0] hS0) (fun Q0 D0 b0 G0=>?_)
 refine Aa<|Ak<|AF 5 tb49_1 (by kernel_rfl) (by kernel_rfl) (by kernel_rfl) (fun c0 j0=>?_)
 refine AD 0 1 52 c0 rfl j0 (AB rfl (fun j9 v9 h9=>b0.ag.cell0 (m0 j9 v9 h9))) rfl<|AD 1 3 52 c0 rfl j0 (AK rfl ((fun j9 v9 h9=>b0.ag.cell0 (m1 j9 v9 h9)) 0 _ rfl)) rfl ?_
 obtain ⟨B0,s0,h⟩:=bi h
 rcases B0 with E0 | u0
 have h:=exc_e h
 try dsimp only at h
 refine AD 3 11 48 c0 rfl j0 (AB rfl (fun j9 v9 h9=>b0.ag.cell0 (m2 j9 v9 h9))) rfl<|Bs (i:=2) (readyD_ok c0 (by kernel_rfl)) (RO.callE (fst:=[]) (cap:=[]) rfl .plain body50 rfl (e2 rfl rfl) (fun w9 hw9=>balance_counted_c n _ w9 (b0.hL hL hw9) a0 (b0.km h0_3 hw9) a1 s0) (fun R0 y0=>?_))
 obtain ⟨v0,H0⟩:=b0.agr y0
 cases h
 exact Ba hp0 Tryz.func49 ⟨v0.ag,rfl⟩
 have h:=exc_o h
 try dsimp only at h
 refine AD 3 11 48 c0 rfl j0 (AB rfl (fun j9 v9 h9=>b0.ag.cell0 (m2 j9 v9 h9))) rfl<|Bi 2 15 c0 rfl .plain body50 rfl (e2 rfl rfl) (fun w9 hw9=>AU (balance_counted_c n _ w9 (b0.hL hL hw9) a0 (b0.km h0_3 hw9) a1 s0)) rfl (fun U0 P0 z0 ⟨M0,hu_,q0⟩=>?_)
 subst hu_
 obtain ⟨d0,I0⟩:=b0.agr z0
 obtain ⟨C0,t0,h⟩:=bi h
 rcases C0 with F0 | g0
 have h:=exc_e h
 try dsimp only at h
 refine Bs (i:=4) (readyD_ok c0 (by kernel_rfl)) (RO.callE (fst:=[]) (cap:=[]) rfl .plain body51 rfl (e2 rfl rfl) (fun w9 hw9=>balance_count_within_c n _ w9 (d0.hL0 hL hw9) u0 (d0.kd q0 hw9) a2 t0) (fun V0 A0=>?_))
 obtain ⟨x0,J0⟩:=d0.agr A0
 cases h
 exact Ba hp0 Tryz.func49 ⟨x0.ag,rfl⟩
 have h:=exc_o h
 try dsimp only at h
 refine BI 4 31 32 (.agg #[vI g0.flow,vI g0.fhigh]) c0 rfl j0 body51 rfl (e2 rfl rfl) (fun w9 hw9=>AU (balance_count_within_c n _ w9 (d0.hL0 hL hw9) u0 (d0.kd q0 hw9) a2 t0)) rfl<|Bt 5 63 c0 rfl rfl .plain (Ay (news:=[vI g0.flow,vI g0.fhigh]) d0 .hd rfl rfl rfl rfl rfl rfl (onesB rfl)) (fun W0 k0 K0=>?_)
 refine AE (doneD_ok c0 (by kernel_rfl))<|Al rfl<|Ao hb0 Tryz.func49 rfl (.cons (.many (cs:=[vI g0.flow,vI g0.fhigh]) (by kernel_rfl) rfl (k0.memA .hd)) .nil) rfl ?_
 cases h
 exact ⟨k0.ag,fun w9 hw9=>okOf_in rfl⟩
def tb99_6:List (Nat × Nat × Nat):=[(0,131072,32),(0,262144,8),(2,524288,262144),(1,0,131073),(15,0,524290)]
def tb13_2:List (Nat × Nat × Nat):=[(0,32768,512),(1,65536,32768),(0,131072,512),(4,262144,131072),(0,524288,256),(3,64,65536),(47,128,262144),(127,256,524288)]
theorem body48:bodyB Tryz.prog 48 = true:=by kernel_rfl
theorem body49:bodyB Tryz.prog 49 = true:=by kernel_rfl
theorem body99:bodyB Tryz.prog 99 = true:=by kernel_rfl
def balance_Bounds_p (n:Nat) (a0:TRoll) (a1:Int) (a2:TShare):Option (Int × Int × Int):=
  (balance_Bounds_1_p n a0 a1 a2).bind fun d0=>exc d0 (fun b0=>some (b0.flow,b0.fhigh,(0:Int))) (fun c0=>some ((0:Int),(0:Int),c0.fErrno))
theorem balance_Bounds_c (n:Nat) (L:List Nat) (w:World) (hL:∀ b ∈ L,b < w.heap.size) (a0:TRoll) {v0_3:Value} (h0_3:Rep.R w L [v0_3] a0.fUnits) (a1:Int) (a2:TShare)  {r:Int × Int × Int} (h:balance_Bounds_p n a0 a1 a2 = some r) :
    Calls Tryz.prog 13 #[.agg #[vI a0.fGroups,vI a0.fParties,vI a0.fLevels,v0_3],vI a1,.agg ((cs_TShare a2)).toArray] w (Gives w fun _ u=>u = .tuple #[vI r.1,vI r.2.1,vI r.2.2]):=by
 unfold balance_Bounds_p at h
 have hS0:=Ax w
 refine AA Tryz.func13 rfl rfl rfl (fun _ cs0 hb0=>?_)
 refine Ac<|Aj .plain rfl (Aw hS0 rfl rfl) (fun d2 t0 R0 M1=>?_)
 refine Aj .plain rfl (Aw R0 rfl rfl) (fun u2 u0 b1 R1=>?_)
 refine Aj .plain rfl (Aw b1 rfl rfl) (fun v2 v0 c1 U1=>?_)
 refine Ag rfl<|Ag rfl<|Ag rfl<|Aa<|Ac<|Ab (BG (vs:=[]) (us:=[vP t0,vP u0,vP v0]) evs_nil (e3 rfl rfl rfl))<|Bw (fst:=[]) (cap:=[]) (vs:=[.func (.func 49) #[] #[vP t0,vP u0,vP v0]]) .plain body48 Tryz.func48 rfl rfl rfl rfl (e1 rfl) rfl (fun E1 J0 c2=>?_)
 refine Ac<|Aj .plain rfl (Av [vI 0,vI 0] c1) (fun x2 x0 d1 V1=>?_)
 refine Aj .plain rfl (Av [vI 0] d1) (fun y2 p0 b0 W1=>?_)
 refine Aa<|Ac<|Ab (BG (vs:=[]) (us:=[vP x0,vP p0]) evs_nil (e2 rfl rfl))<|RG.defer (fst:=[]) (cap:=[vP x0,vP p0]) (vs:=[]) rfl .plain rfl evs_nil<|Aa<|Ac<|Ae rfl ?_
 obtain ⟨z1,M0,h⟩:=bi h
 rcases z1 with y0 | c0
 have h:=exc_e h
 try dsimp only at h
 refine Bu (fst:=[]) (cap:=[vP t0,vP u0,vP v0]) .plain body49 rfl evs_nil (fun w9 hw9=>balance_Bounds_1_c n _ w9 (b0.hL0 hL hw9) a0 (b0.k0 h0_3 hw9) (fun j9 v9 h9=>hw9.cell0 ((b0.memA (.tl (.tl (.tl (.tl .hd))))) j9 v9 h9)) a1 (fun j9 v9 h9=>hw9.cell0 ((b0.memA (.tl (.tl (.tl .hd)))) j9 v9 h9)) a2 (fun j9 v9 h9=>hw9.cell0 ((b0.memA (.tl (.tl .hd))) j9 v9 h9)) M0) (fun z2 s1=>?_)
 obtain ⟨g1,X1⟩:=b0.agr s1
 refine PN.callD (vs:=[]) (cap:=[vP x0,vP p0]) body99 Tryz.func99 rfl rfl rfl (fun D1 t1 v1=>?_)
 refine Ac<|RG.recover1 .plain t1 rfl<|Ag rfl<|Aa<|Ac<|Ae rfl<|Ab (FV.neqI Tryz.underlying20 rfl rfl)<|Aa<|Bp rfl<|Ac<|Ae rfl<|Ab (FV.assertT (by kernel_rfl) rfl)<|Ae rfl<|Ab (Af rfl rfl)<|Ab (Af rfl rfl)<|Aj .plain rfl (Av [vI 0] g1) (fun A2 P0 j1 Y1=>?_)
 refine AL [vI y0.fErrno] j1 .hd (o1 rfl) (fun B2 k1 Z1=>?_)
 refine Ag rfl<|Aa<|Ak<|Ac<|Ae rfl<|Ab (Bz rfl)<|Aa<|Bv rfl<|Aq<|Ac<|Aj .plain rfl (Av [vI 0,vI 0] k1) (fun x1 Q0 z0 b2=>?_)
 refine Aa<|AF 3 tb99_6 (by kernel_rfl) (by kernel_rfl) (by kernel_rfl) (fun j0 G0=>?_)
 refine AD 0 1 24 j0 rfl G0 (AB rfl (z0.memA .hd)) rfl<|Ah 1 3 j0 rfl G0 (fun _=>Bh 0 rfl) rfl<|RD.meet (α:=Unit) (fun ()=>[(1,vP p0),(19,vI y0.fErrno)]) (fun () H0=>St w H0 [.cells p0 [vI 0] 51,.cells x0 [vI 0,vI 0] 93,.cells v0 (cs_TShare a2) 37,.cells u0 [vI a1] 3,.cells t0 [vI a0.fGroups,vI a0.fParties,vI a0.fLevels,v0_3] 44]∧Tr x1 [.cells Q0 [vI 0,vI 0] 93,.cells P0 [vI y0.fErrno] 140,.cells p0 [vI 0] 51,.cells x0 [vI 0,vI 0] 93,.cells v0 (cs_TShare a2) 37,.cells u0 [vI a1] 3,.cells t0 [vI a0.fGroups,vI a0.fParties,vI a0.fLevels,v0_3] 44] H0 [.cells p0 [vI 0] 51,.cells x0 [vI 0,vI 0] 93,.cells v0 (cs_TShare a2) 37,.cells u0 [vI a1] 3,.cells t0 [vI a0.fGroups,vI a0.fParties,vI a0.fLevels,v0_3] 44]) 1 15 ?_ ?_
 rintro ⟨⟩ H0 ⟨U0,F1⟩
 try dsimp only
 refine Bt 4 31 j0 rfl rfl .plain (Ay (news:=[vI y0.fErrno]) U0 .hd rfl rfl rfl rfl rfl rfl (o1 rfl)) (fun g2 B0 G1=>?_)
 refine AE (doneD_ok j0 (by kernel_rfl))<|MX.fin rfl<|RT.leaveD1 v1 Tryz.func99 rfl .nil<|Ao (u:=.tuple #[.agg #[vI 0,vI 0],vI y0.fErrno]) J0 Tryz.func48 rfl (.cons (.many (cs:=[vI 0,vI 0]) (by kernel_rfl) rfl (B0.memA (.tl .hd))) (.cons (.one (by kernel_rfl) rfl ((B0.memA .hd) 0 _ rfl)) .nil)) rfl<|Ae rfl<|Ab (Af rfl rfl)<|Ab (Af rfl rfl)<|Aj .plain rfl (Av [vI 0,vI 0] B0) (fun j2 A1 V0 H1=>?_)
 refine AL [vI 0,vI 0] V0 .hd (onesB rfl) (fun k2 C0 I1=>?_)
 refine Ag rfl<|Aa<|Ak<|AF 8 tb13_2 (by kernel_rfl) (by kernel_rfl) (by kernel_rfl) (fun d0 q0=>?_)
 refine Ah 0 1 d0 rfl q0 (fun _=>Bh 0 rfl) rfl<|AD 1 3 224 d0 rfl q0 (AK rfl ((C0.memA .hd) 0 _ rfl)) rfl<|Ah 2 7 d0 rfl q0 (fun _=>Bh 1 rfl) rfl<|AD 3 15 192 d0 rfl q0 (AK rfl ((C0.memA .hd) 1 _ rfl)) rfl<|Ah 4 31 d0 rfl q0 (fun _=>Ai rfl) rfl<|Ah 5 63 d0 rfl q0 (fun _=>AJ rfl) rfl<|Ah 6 127 d0 rfl q0 (fun _=>AJ rfl) rfl<|Ah 7 255 d0 rfl q0 (fun _=>AJ rfl) rfl<|AE (doneD_ok d0 (by kernel_rfl))<|Al rfl<|Ao hb0 Tryz.func13 rfl (.cons (.tmp rfl) (.cons (.tmp rfl) (.cons (.tmp rfl) .nil))) rfl ?_
 cases h
 exact C0.gv
 intro I0
 refine RD.each [2,3] (readyD_ok j0 (by kernel_rfl)) ⟨?_,?_,trivial⟩
 refine RO.val (m' :=7) (stepC_ok j0 (by kernel_rfl)) rfl .plain rfl (AK rfl ((z0.memA (.tl .hd)) 0 _ rfl))<|Bt 3 15 j0 rfl rfl .plain (Ay (news:=[vI 0,vI 0]) z0 (.tl (.tl (.tl .hd))) rfl rfl rfl rfl rfl rfl (onesB rfl)) (fun y1 A0 F0=>?_)
 obtain ⟨W0,p1⟩:=AH A0 (.one (.tl (.tl .hd)) (.one (.tl (.tl .hd)) (.one (.tl (.tl .hd)) (.one (.tl (.tl .hd)) (.one (.tl (.tl .hd)) .done)))))
 exact I0 () _ _ ⟨rfl,rfl,trivial⟩ ⟨W0,(Tt F0 p1)⟩
 refine RO.now (m' :=11) (stepC_ok j0 (by kernel_rfl)) rfl rfl .plain (Ay (news:=[vI 0,vI 0]) z0 (.tl (.tl (.tl .hd))) rfl rfl rfl rfl rfl rfl (onesB rfl)) (fun y1 A0 F0=>?_)
 refine AD 2 15 16 j0 rfl G0 (AK rfl ((A0.memA (.tl .hd)) 0 _ rfl)) rfl ?_
 obtain ⟨X0,q1⟩:=AH A0 (.one (.tl (.tl .hd)) (.one (.tl (.tl .hd)) (.one (.tl (.tl .hd)) (.one (.tl (.tl .hd)) (.one (.tl (.tl .hd)) .done)))))
 exact I0 () _ _ ⟨rfl,rfl,trivial⟩ ⟨X0,(Tt F0 q1)⟩
 have h:=exc_o h
 try dsimp only at h
 refine RG.callq' (v:=.agg #[vI c0.flow,vI c0.fhigh]) (fst:=[]) (cap:=[vP t0,vP u0,vP v0]) .plain body49 rfl evs_nil (fun w9 hw9=>AU (balance_Bounds_1_c n _ w9 (b0.hL0 hL hw9) a0 (b0.k0 h0_3 hw9) (fun j9 v9 h9=>hw9.cell0 ((b0.memA (.tl (.tl (.tl (.tl .hd))))) j9 v9 h9)) a1 (fun j9 v9 h9=>hw9.cell0 ((b0.memA (.tl (.tl (.tl .hd)))) j9 v9 h9)) a2 (fun j9 v9 h9=>hw9.cell0 ((b0.memA (.tl (.tl .hd))) j9 v9 h9)) M0)) rfl<|AL [vI c0.flow,vI c0.fhigh] b0 (.tl .hd) (onesB rfl) (fun p2 Y0 J1=>?_)
 refine AL [vI 0] Y0 .hd (o1 rfl) (fun q2 D0 K1=>?_)
 refine Aa<|Al rfl<|RT.callD (vs:=[]) (cap:=[vP x0,vP p0]) body99 Tryz.func99 rfl rfl rfl (fun C1 K0 u1=>?_)
 refine Ac<|RG.recover0 .plain K0 rfl<|Ag rfl<|Aa<|Ac<|Ae rfl<|Ab (FV.neqI0 Tryz.underlying20 rfl rfl)<|Aa<|Bv rfl<|Aq<|MX.fin rfl<|RT.leaveD0 K0 u1 Tryz.func99 rfl .nil<|Ao (u:=.tuple #[.agg #[vI c0.flow,vI c0.fhigh],vI 0]) J0 Tryz.func48 rfl (.cons (.many (cs:=[vI c0.flow,vI c0.fhigh]) (by kernel_rfl) rfl (D0.memA (.tl .hd))) (.cons (.one (by kernel_rfl) rfl ((D0.memA .hd) 0 _ rfl)) .nil)) rfl<|Ae rfl<|Ab (Af rfl rfl)<|Ab (Af rfl rfl)<|Aj .plain rfl (Av [vI 0,vI 0] D0) (fun s2 B1 Z0 P1=>?_)
 refine AL [vI c0.flow,vI c0.fhigh] Z0 .hd (onesB rfl) (fun t2 E0 Q1=>?_)
 refine Ag rfl<|Aa<|Ak<|AF 8 tb13_2 (by kernel_rfl) (by kernel_rfl) (by kernel_rfl) (fun g0 s0=>?_)
 refine Ah 0 1 g0 rfl s0 (fun _=>Bh 0 rfl) rfl<|AD 1 3 224 g0 rfl s0 (AK rfl ((E0.memA .hd) 0 _ rfl)) rfl<|Ah 2 7 g0 rfl s0 (fun _=>Bh 1 rfl) rfl<|AD 3 15 192 g0 rfl s0 (AK rfl ((E0.memA .hd) 1 _ rfl)) rfl<|Ah 4 31 g0 rfl s0 (fun _=>Ai rfl) rfl<|Ah 5 63 g0 rfl s0 (fun _=>AJ rfl) rfl<|Ah 6 127 g0 rfl s0 (fun _=>AJ rfl) rfl<|Ah 7 255 g0 rfl s0 (fun _=>AJ rfl) rfl<|AE (doneD_ok g0 (by kernel_rfl))<|Al rfl<|Ao hb0 Tryz.func13 rfl (.cons (.tmp rfl) (.cons (.tmp rfl) (.cons (.tmp rfl) .nil))) rfl ?_
 cases h
 exact E0.gv
def balance_count_check_l1 (n:Nat) (a1:List Int) (a0:Tcount) (g0:Nat × (List (Int × Bool)) → Option ((Except Tbroken Unit) ⊕ (List (Int × Bool)))):Nat × (List (Int × Bool)) → Option ((Except Tbroken Unit) ⊕ (List (Int × Bool)))
  | (b0,d0)=>(if b0 < a1.length then (a1[b0]?).bind fun c0=>(if c0 < 0 then (balance_fail_p n true (220:Int)).bind fun p0=>exc p0 (fun s0=>g0 (b0 + 1,mset d0 c0 true)) (fun j0=>some (.inl (.error j0))) else (balance_fail_p n (decide (a0.fk ≤ c0)) (220:Int)).bind fun q0=>exc q0 (fun t0=>g0 (b0 + 1,mset d0 c0 true)) (fun k0=>some (.inl (.error k0)))) else some (.inr d0))
def balance_count_check_l2 (n:Nat) (a1:List Int) (a0:Tcount) (g0:Nat × (List (Int × Bool)) → Option ((Except Tbroken Unit) ⊕ (List (Int × Bool)))):Nat × (List (Int × Bool)) → Option ((Except Tbroken Unit) ⊕ (List (Int × Bool)))
  | (b0,d0)=>(if b0 < a1.length then (a1[b0]?).bind fun c0=>(if c0 < 0 then (balance_fail_p n true (220:Int)).bind fun p0=>exc p0 (fun s0=>g0 (b0 + 1,mset d0 c0 true)) (fun j0=>some (.inl (.error j0))) else (balance_fail_p n (decide (a0.fk ≤ c0)) (220:Int)).bind fun q0=>exc q0 (fun t0=>g0 (b0 + 1,mset d0 c0 true)) (fun k0=>some (.inl (.error k0)))) else some (.inr d0))
def balance_count_check_l3 (n:Nat) (a0:Tcount) (a1:List Int) (g0:Nat × Int → Option ((Except Tbroken Unit) ⊕ Int)):Nat × Int → Option ((Except Tbroken Unit) ⊕ Int)
  | (b0,c0)=>(if b0 < a0.fRoll.fUnits.length then (a0.fRoll.fUnits[b0]?).bind fun q0=>(if q0.fWater = true then ((balance_fail_p n (!(decide (((a1.length:Nat):Int) = c0))) (220:Int)).bind fun s0=>exc s0 (fun u0=>thn (loopF (balance_count_check_l1 n a1 a0) n (0,([]:List (Int × Bool)))) (fun d0=>(balance_fail_p n (!(decide (((d0.length:Nat):Int) = a0.fk))) (220:Int)).bind fun t0=>exc t0 (fun v0=>some (.ok ())) (fun k0=>some (.error k0)))) (fun j0=>some (.error j0))).map .inl else (chk (c0 + 1)).bind fun p0=>g0 (b0 + 1,p0)) else some (.inr c0))
def balance_count_check_p (n:Nat) (a0:Tcount) (a1:List Int):Option (Except Tbroken Unit):=
  thn (loopF (balance_count_check_l3 n a0 a1) n (0,0)) (fun k0=>(balance_fail_p n (!(decide (((a1.length:Nat):Int) = k0))) (220:Int)).bind fun g0=>exc g0 (fun p0=>thn (loopF (balance_count_check_l2 n a1 a0) n (0,([]:List (Int × Bool)))) (fun b0=>(balance_fail_p n (!(decide (((b0.length:Nat):Int) = a0.fk))) (220:Int)).bind fun j0=>exc j0 (fun q0=>some (.ok ())) (fun d0=>some (.error d0)))) (fun c0=>some (.error c0)))
theorem balance_count_check_c (n:Nat) (L:List Nat) (w:World) (hL:∀ b ∈ L,b < w.heap.size) (a0:Tcount) {v0_3:Value} (h0_3:Rep.R w L [v0_3] a0.fRoll.fUnits) (a1:List Int) {v1_0:Value} (h1_0:Rep.R w L [v1_0] a1)  {r:Except Tbroken Unit} (h:balance_count_check_p n a0 a1 = some r) :
    Calls Tryz.prog 87 #[.agg #[vI a0.fRoll.fGroups,vI a0.fRoll.fParties,vI a0.fRoll.fLevels,v0_3,vI a0.fk],v1_0] w (PGives w (fun (y:Unit) _ u=>u = .tuple #[]) (fun e=>.iface 140 (.agg #[vI e.fErrno])) r):=by
 unfold balance_count_check_p at h
 have hS0:=Ax w
 refine MX.startP Tryz.func87 rfl rfl rfl (fun _ cs0 hb0 hp0=>?_)
 refine Ac<|Aj .plain rfl (Aw hS0 rfl rfl) (fun U6 k0 R1 A5=>?_)
 refine Aa<|Ac<|Aj .plain rfl (Av [vI 0] R1) (fun V6 H0 V1 D5=>?_)
 refine AL [vI 0] V1 .hd (o1 rfl) (fun E4 C0 I5=>?_)
 refine Aa<|Ak<|Ac<|Ab (AB rfl (C0.memA (.tl .hd)))<|AX (fst:=[]) (cap:=[]) .plain body120 rfl (e1 rfl) (fun w9 hw9=>Calls.gives (balance_count_land_c n _ w9 (C0.hL hL hw9) a0 (C0.km h0_3 hw9)) fun (w8:World) (u8:Value) ⟨b0_,hu_,s_⟩=>(⟨b0_,hu_,s_.from hw9⟩:∃ x0:Nat,u8 = Value.func (.func 161) #[] #[vP x0]∧St E4 w8 [.cells x0 [vI a0.fRoll.fGroups,vI a0.fRoll.fParties,vI a0.fRoll.fLevels,v0_3,vI a0.fk] 97])) rfl (fun c7 R6 F6 ⟨x0,y4,A1⟩=>?_)
 subst y4
 have j2:=mk_push1 C0 A1
 have R5:=mk_tr1 C0 A1
 refine Aa<|Az<|MX.rangeP (lb:=[vP x0]) rfl j2 rfl body161 Tryz.func161 rfl rfl rfl (fun F4 G0 t0 P0 p5 J0 c6 C4 d1 K6=>?_)
 refine Ac<|Bg 0 rfl<|Bg 3 rfl<|Ab (AK rfl ((mem_from (J0.memA (.tl (.tl .hd))) 0) 3 _ rfl)) ?_
 have p1:=AM h0_3 J0
 have I6:a0.fRoll.fUnits.length ≤ 281474976710656:=AT p1
 refine Ab (Bb (xs:=a0.fRoll.fUnits) Tryz.underlying42 rfl p1)<|Ae rfl<|Aa<|Az ?_
 obtain ⟨M6,d4,g1⟩:=thn_in h
 refine Bj (α:=Nat × Int) (fun ⟨s0,d0⟩=>[(0,.func (.yield G0) #[] #[]),(7,v0_3),(8,vI ((a0.fRoll.fUnits.length:Nat):Int)),(9,vI ((s0:Nat):Int))]) (fun ⟨s0,d0⟩ Q0=>St w Q0 [.obj G0 (lpO P0 .ready none),.obj t0 (.deferred (some [])),.cells x0 [vI a0.fRoll.fGroups,vI a0.fRoll.fParties,vI a0.fRoll.fLevels,v0_3,vI a0.fk] 97,.cells H0 [vI d0] 3,.cells k0 [vI a0.fRoll.fGroups,vI a0.fRoll.fParties,vI a0.fRoll.fLevels,v0_3,vI a0.fk] 97]∧Tr F4 [.obj G0 (lpO P0 .ready none),.obj t0 (.deferred (some [])),.cells x0 [vI a0.fRoll.fGroups,vI a0.fRoll.fParties,vI a0.fRoll.fLevels,v0_3,vI a0.fk] 97,.cells H0 [vI 0] 3,.cells k0 [vI a0.fRoll.fGroups,vI a0.fRoll.fParties,vI a0.fRoll.fLevels,v0_3,vI a0.fk] 97] Q0 [.obj G0 (lpO P0 .ready none),.obj t0 (.deferred (some [])),.cells x0 [vI a0.fRoll.fGroups,vI a0.fRoll.fParties,vI a0.fRoll.fLevels,v0_3,vI a0.fk] 97,.cells H0 [vI d0] 3,.cells k0 [vI a0.fRoll.fGroups,vI a0.fRoll.fParties,vI a0.fRoll.fLevels,v0_3,vI a0.fk] 97]) (fun ⟨s0,d0⟩=>(s0,d0)) (0,0) d4 ⟨rfl,rfl,rfl,rfl,trivial⟩ ⟨J0,AP _ _⟩ ?_
 rintro X4 ⟨s0,d0⟩ Q0 Q1 ⟨I0,b3⟩ h
 unfold balance_count_check_l3 at h
 try dsimp only at h
 refine Ac<|Ab (Bn (i:=s0) (j:=a0.fRoll.fUnits.length) rfl rfl)<|Aa<|Ak<|AQ rfl h (fun F1 h=>?_) (fun F1 h=>?_)
 refine Aq<|Ak<|Az<|Ac<|Ae rfl ?_
 obtain ⟨A0,z4,h⟩:=bi h
 have Q3:=AM h0_3 I0
 obtain ⟨U4,c5,E3,J3,j5,p4,P3⟩:=Bm Q3 z4
 obtain ⟨C1,D1,E1,rfl,q4,s4,t4⟩:=op_TUnit p4
 refine Ab (Bo 6 s0 rfl E3 rfl rfl J3)<|Ab (AB rfl P3)<|Aj .plain rfl (Av [.string ⟨#[]⟩,vI 0,vN,vN,vN,.bool false] I0) (fun W6 b5 U1 F0=>?_)
 refine Ag rfl ?_
 have R3:=Ap q4 F0
 have U3:=Ap s4 F0
 have V3:=Ap t4 F0
 refine AL [.string A0.fName,vI A0.fPeople,C1,D1,E1,.bool A0.fWater] U1 .hd (o6 rfl rfl (AI R3) (AI U3) (AI V3) rfl) (fun X6 B0 c3=>?_)
 refine Aa<|Ac<|Bg 5 rfl<|Bd rfl ((B0.memA .hd) 5 _ rfl)<|Ae rfl<|RG.ifb (s:=16) rfl h (fun G1 h=>?_) (fun G1 h=>?_)
 refine AR<|AR<|AR<|AR<|AR<|RG.pt rfl rfl<|Aa<|Bp rfl ?_
 have h:=thn_map h g1
 refine Al rfl<|Ao (u:=.tuple #[]) d1 Tryz.func161 rfl .nil rfl<|MX.endRange0 B0 (.tl .hd) (by intro h9; cases h9) (fun Y6 W1 B5=>?_)
 obtain ⟨y0,C5⟩:=AH W1 (.one .hd (.one (.tl .hd) (.one (.tl .hd) (.one (.tl .hd) (.one (.tl .hd) .done)))))
 refine AC<|Ac<|Ae rfl ?_
 have j1:=AM h1_0 y0
 have G6:a1.length ≤ 281474976710656:=AT j1
 refine Ab (Bb (xs:=a1) Tryz.underlying46 rfl j1)<|Ab (AK rfl ((y0.memA (.tl (.tl (.tl .hd)))) 0 _ rfl))<|Ab (FV.neq (i:=((a1.length:Nat):Int)) (j:=d0) rfl rfl) ?_
 obtain ⟨H4,q1,h⟩:=bi h
 rcases H4 with q5 | M7
 have h:=exc_e h
 try dsimp only at h
 refine Bu (fst:=[]) (cap:=[]) .plain body75 rfl (e2 rfl rfl) (fun w9 hw9=>balance_fail_c n _ w9 (y0.hL0 hL hw9) (!(decide (((a1.length:Nat):Int) = d0))) (220:Int) q1) (fun Z6 u3=>?_)
 obtain ⟨X1,E5⟩:=y0.agr u3
 refine PN.take X1 (.tl .hd) (fun b7 Y1 F5=>?_)
 obtain ⟨Z1,G5⟩:=AH Y1 (.one .hd (.one (.tl .hd) (.one (.tl .hd) (.one (.tl .hd) .done))))
 cases h
 exact Ba hp0 Tryz.func87 ⟨Z1.ag,rfl⟩
 have h:=exc_o h
 try dsimp only at h
 refine Bf (.tuple #[]) body75 rfl (e2 rfl rfl) (fun w9 hw9=>AU (balance_fail_c n _ w9 (y0.hL0 hL hw9) (!(decide (((a1.length:Nat):Int) = d0))) (220:Int) q1)) rfl<|Aa<|Ac<|Aj .plain rfl (Does.makeMap (κ:=Int) (ν:=Bool) y0) (fun D4 D0 X0 H5=>?_)
 refine Ag rfl<|Aa<|Ak<|Ac<|Ae rfl ?_
 have W3:=AM h1_0 X0
 refine Ab (Bb (xs:=a1) Tryz.underlying46 rfl W3)<|Ae rfl<|Aa<|Az ?_
 obtain ⟨b2,J5⟩:=AH X0 (.one .hd (.one (.tl .hd) (.one (.tl (.tl (.tl .hd))) .done)))
 obtain ⟨P6,g4,K0⟩:=thn_in h
 refine Bj (α:=Nat × (List (Int × Bool))) (fun ⟨p0,g0⟩=>[(2,vP k0),(5,.map (some D0)),(20,v1_0),(21,vI ((a1.length:Nat):Int)),(22,vI ((p0:Nat):Int))]) (fun ⟨p0,g0⟩ R0=>St w R0 [.obj D0 (mapO (g0:List (Int × Bool))),.obj t0 (.deferred (some [])),.cells k0 [vI a0.fRoll.fGroups,vI a0.fRoll.fParties,vI a0.fRoll.fLevels,v0_3,vI a0.fk] 97]∧Tr D4 [.obj D0 (mapO ([]:List (Int × Bool))),.obj t0 (.deferred (some [])),.cells k0 [vI a0.fRoll.fGroups,vI a0.fRoll.fParties,vI a0.fRoll.fLevels,v0_3,vI a0.fk] 97] R0 [.obj D0 (mapO (g0:List (Int × Bool))),.obj t0 (.deferred (some [])),.cells k0 [vI a0.fRoll.fGroups,vI a0.fRoll.fParties,vI a0.fRoll.fLevels,v0_3,vI a0.fk] 97]) (fun ⟨p0,g0⟩=>(p0,g0)) (0,([]:List (Int × Bool))) g4 ⟨rfl,rfl,rfl,rfl,rfl,trivial⟩ ⟨b2,AP _ _⟩ ?_
 rintro Y4 ⟨p0,g0⟩ R0 V0 ⟨b0,b1⟩ h
 unfold balance_count_check_l1 at h
 try dsimp only at h
 refine Ac<|Ab (Bn (i:=p0) (j:=a1.length) rfl rfl)<|Aa<|Ak<|AQ rfl h (fun H1 h=>?_) (fun H1 h=>?_)
 refine Aq<|Ak<|Az<|Ac ?_
 obtain ⟨u0,A4,h⟩:=bi h
 have Y3:=AM h1_0 b0
 obtain ⟨V4,d5,F3,K3,M1,u4,X3⟩:=Bm Y3 A4
 have G3:M1 = [vI u0]:=u4; subst G3
 refine Ab (Bo 1 p0 rfl F3 rfl rfl K3)<|Bd rfl (X3 0 _ rfl)<|Ag rfl<|Aa<|Ac<|Ae rfl<|Ab (FV.lss (i:=u0) (j:=0) rfl rfl)<|Ae rfl<|RG.ifd (s:=28) rfl h (fun I1 h=>?_) (fun I1 h=>?_)
 refine AR<|AR<|AR<|AR<|RG.pt rfl rfl ?_
 obtain ⟨I4,s1,h⟩:=bi h
 rcases I4 with s5 | P7
 have h:=exc_e h
 try dsimp only at h
 have h:=thn_inl h K0
 refine Bu (fst:=[]) (cap:=[]) .plain body75 rfl (e2 rfl rfl) (fun w9 hw9=>balance_fail_c n _ w9 (b0.hL0 hL hw9) true (220:Int) s1) (fun d7 v3=>?_)
 obtain ⟨c2,K5⟩:=b0.agr v3
 refine PN.take c2 (.tl .hd) (fun g7 d2 M5=>?_)
 obtain ⟨g2,P5⟩:=AH d2 (.one .hd (.one (.tl .hd) .done))
 cases h
 exact Ba hp0 Tryz.func87 ⟨g2.ag,rfl⟩
 have h:=exc_o h
 try dsimp only at h
 refine Bf (.tuple #[]) body75 rfl (e2 rfl rfl) (fun w9 hw9=>AU (balance_fail_c n _ w9 (b0.hL0 hL hw9) true (220:Int) s1)) rfl<|Aa<|Ar<|Ae rfl<|Ae rfl<|RG.now .plain (Acts.mapUpdate (kv:=u0) (vv:=true) b0 .hd Tryz.underlying168 Tryz.underlying3 rfl rfl rfl rfl) (fun j7 k2 d3=>?_)
 refine Aa<|AC<|Ar<|Ab (Br (i:=p0) (j:=1) rfl rfl (by omega))<|Ae rfl<|Aa ?_
 exact V0 (p0 + 1,mset g0 u0 true) _ _ ⟨rfl,rfl,rfl,rfl,rfl,trivial⟩ ⟨k2,(Tt b1 d3)⟩ h
 refine AY (Ai rfl)<|RG.fg 4 rfl<|AY (AK rfl ((b0.memA (.tl (.tl .hd))) 4 _ rfl))<|AY (FV.geq (i:=u0) (j:=a0.fk) rfl rfl)<|RG.pf rfl rfl ?_
 obtain ⟨J4,t1,h⟩:=bi h
 rcases J4 with t5 | Q7
 have h:=exc_e h
 try dsimp only at h
 have h:=thn_inl h K0
 refine Bu (fst:=[]) (cap:=[]) .plain body75 rfl (e2 rfl rfl) (fun w9 hw9=>balance_fail_c n _ w9 (b0.hL0 hL hw9) (decide (a0.fk ≤ u0)) (220:Int) t1) (fun k7 x3=>?_)
 obtain ⟨p2,Q5⟩:=b0.agr x3
 refine PN.take p2 (.tl .hd) (fun p7 q2 U5=>?_)
 obtain ⟨s2,V5⟩:=AH q2 (.one .hd (.one (.tl .hd) .done))
 cases h
 exact Ba hp0 Tryz.func87 ⟨s2.ag,rfl⟩
 have h:=exc_o h
 try dsimp only at h
 refine Bf (.tuple #[]) body75 rfl (e2 rfl rfl) (fun w9 hw9=>AU (balance_fail_c n _ w9 (b0.hL0 hL hw9) (decide (a0.fk ≤ u0)) (220:Int) t1)) rfl<|Aa<|Ar<|Ae rfl<|Ae rfl<|RG.now .plain (Acts.mapUpdate (kv:=u0) (vv:=true) b0 .hd Tryz.underlying168 Tryz.underlying3 rfl rfl rfl rfl) (fun q7 t2 g3=>?_)
 refine Aa<|AC<|Ar<|Ab (Br (i:=p0) (j:=1) rfl rfl (by omega))<|Ae rfl<|Aa ?_
 exact V0 (p0 + 1,mset g0 u0 true) _ _ ⟨rfl,rfl,rfl,rfl,rfl,trivial⟩ ⟨t2,(Tt b1 g3)⟩ h
 refine Be rfl ?_
 have h:=thn_inr h K0
 try dsimp only at h
 refine Ar<|Ae rfl<|Ab (FV.len_map (D:=g0) b0 .hd Tryz.underlying168 rfl)<|Bg 4 rfl<|Bd rfl ((b0.memA (.tl (.tl .hd))) 4 _ rfl)<|Ab (FV.neq (i:=((g0.length:Nat):Int)) (j:=a0.fk) rfl rfl) ?_
 obtain ⟨K4,u1,h⟩:=bi h
 rcases K4 with u5 | R7
 have h:=exc_e h
 try dsimp only at h
 refine Bu (fst:=[]) (cap:=[]) .plain body75 rfl (e2 rfl rfl) (fun w9 hw9=>balance_fail_c n _ w9 (b0.hL0 hL hw9) (!(decide (((g0.length:Nat):Int) = a0.fk))) (220:Int) u1) (fun s7 y3=>?_)
 obtain ⟨u2,W5⟩:=b0.agr y3
 refine PN.take u2 (.tl .hd) (fun t7 v2 X5=>?_)
 obtain ⟨x2,Y5⟩:=AH v2 (.one .hd (.one (.tl .hd) .done))
 cases h
 exact Ba hp0 Tryz.func87 ⟨x2.ag,rfl⟩
 have h:=exc_o h
 try dsimp only at h
 refine Bf (.tuple #[]) body75 rfl (e2 rfl rfl) (fun w9 hw9=>AU (balance_fail_c n _ w9 (b0.hL0 hL hw9) (!(decide (((g0.length:Nat):Int) = a0.fk))) (220:Int) u1)) rfl<|Aa<|MX.fin rfl<|RT.take b0 (.tl .hd) (fun u7 y2 Z5=>?_)
 obtain ⟨z2,b6⟩:=AH y2 (.one .hd (.one (.tl .hd) .done))
 refine Ao hb0 Tryz.func87 rfl .nil rfl ?_
 cases h
 exact ⟨z2.ag,fun w9 hw9=>okOf_in rfl⟩
 refine AY (Ai rfl)<|AY (Ai rfl)<|AY (AB rfl (B0.memA .hd))<|RG.yieldP (fd:=87) (vs:=[vI ((s0:Nat):Int),.agg #[.string A0.fName,vI A0.fPeople,C1,D1,E1,.bool A0.fWater]]) (.yes rfl rfl) rfl (e2 rfl rfl) B0 (.tl .hd) C4 rfl rfl rfl (fun k5 D3 J6=>?_)
 refine Aq<|MX.begin B0 (.tl .hd) (fun v7 Y0 j3=>?_)
 refine Az<|Ar<|Ab (AK rfl ((Y0.memA (.tl (.tl (.tl (.tl .hd))))) 0 _ rfl)) ?_
 obtain ⟨B1,x4,h⟩:=bi h
 refine Ab (BC (i:=d0) (j:=1) rfl rfl x4)<|AL [vI B1] Y0 (.tl (.tl (.tl (.tl .hd)))) (o1 rfl) (fun x7 A2 k3=>?_)
 refine Aa<|AC<|MX.roundEnd D3 A2 (.tl .hd) (fun y7 B2 p3=>?_)
 refine AY (Bz rfl)<|RG.pf rfl rfl<|Aa<|Bv rfl<|Aq<|AC<|Ar<|Ab (Br (i:=s0) (j:=1) rfl rfl (by omega))<|Ae rfl<|Aa ?_
 obtain ⟨C2,q3⟩:=AH B2 (.one (.tl .hd) (.one (.tl .hd) (.one (.tl .hd) (.one (.tl .hd) (.one (.tl .hd) .done)))))
 have k4:=Tt F0 (Tt c3 (Tt j3 (Tt k3 (Tt p3 q3))))
 exact Q1 (s0 + 1,B1) _ _ ⟨rfl,rfl,rfl,rfl,trivial⟩ ⟨C2,(Tt b3 k4)⟩ h
 refine Be rfl ?_
 have h:=thn_inr h g1
 try dsimp only at h
 refine MX.fin rfl<|Ao (u:=.tuple #[]) d1 Tryz.func161 rfl .nil rfl<|MX.endRange0 I0 .hd (by intro h9; cases h9) (fun z7 D2 d6=>?_)
 obtain ⟨z0,g6⟩:=AH D2 (.one (.tl .hd) (.one (.tl .hd) (.one (.tl .hd) (.one (.tl .hd) .done))))
 refine AC<|Ac<|Ae rfl ?_
 have k1:=AM h1_0 z0
 have H6:a1.length ≤ 281474976710656:=AT k1
 refine Ab (Bb (xs:=a1) Tryz.underlying46 rfl k1)<|Bd rfl ((z0.memA (.tl (.tl .hd))) 0 _ rfl)<|Ab (FV.neq (i:=((a1.length:Nat):Int)) (j:=d0) rfl rfl) ?_
 obtain ⟨M4,v1,h⟩:=bi h
 rcases M4 with v5 | U7
 have h:=exc_e h
 try dsimp only at h
 refine Bu (fst:=[]) (cap:=[]) .plain body75 rfl (e2 rfl rfl) (fun w9 hw9=>balance_fail_c n _ w9 (z0.hL0 hL hw9) (!(decide (((a1.length:Nat):Int) = d0))) (220:Int) v1) (fun A7 z3=>?_)
 obtain ⟨E2,j6⟩:=z0.agr z3
 refine PN.take E2 .hd (fun B7 F2 k6=>?_)
 obtain ⟨G2,p6⟩:=AH F2 (.one (.tl .hd) (.one (.tl .hd) (.one (.tl .hd) .done)))
 cases h
 exact Ba hp0 Tryz.func87 ⟨G2.ag,rfl⟩
 have h:=exc_o h
 try dsimp only at h
 refine Bf (.tuple #[]) body75 rfl (e2 rfl rfl) (fun w9 hw9=>AU (balance_fail_c n _ w9 (z0.hL0 hL hw9) (!(decide (((a1.length:Nat):Int) = d0))) (220:Int) v1)) rfl<|Aa<|Ac<|Aj .plain rfl (Does.makeMap (κ:=Int) (ν:=Bool) z0) (fun G4 E0 Z0 q6=>?_)
 refine Ag rfl<|Aa<|Ak<|Ac<|Ae rfl ?_
 have Z3:=AM h1_0 Z0
 refine Ab (Bb (xs:=a1) Tryz.underlying46 rfl Z3)<|Ae rfl<|Aa<|Az ?_
 obtain ⟨H2,s6⟩:=AH Z0 (.one .hd (.one .hd (.one (.tl (.tl .hd)) .done)))
 obtain ⟨Q6,j4,M0⟩:=thn_in h
 refine Bj (α:=Nat × (List (Int × Bool))) (fun ⟨q0,j0⟩=>[(2,vP k0),(5,.map (some E0)),(20,v1_0),(21,vI ((a1.length:Nat):Int)),(22,vI ((q0:Nat):Int))]) (fun ⟨q0,j0⟩ U0=>St w U0 [.obj E0 (mapO (j0:List (Int × Bool))),.obj t0 (.deferred (some [])),.cells k0 [vI a0.fRoll.fGroups,vI a0.fRoll.fParties,vI a0.fRoll.fLevels,v0_3,vI a0.fk] 97]∧Tr G4 [.obj E0 (mapO ([]:List (Int × Bool))),.obj t0 (.deferred (some [])),.cells k0 [vI a0.fRoll.fGroups,vI a0.fRoll.fParties,vI a0.fRoll.fLevels,v0_3,vI a0.fk] 97] U0 [.obj E0 (mapO (j0:List (Int × Bool))),.obj t0 (.deferred (some [])),.cells k0 [vI a0.fRoll.fGroups,vI a0.fRoll.fParties,vI a0.fRoll.fLevels,v0_3,vI a0.fk] 97]) (fun ⟨q0,j0⟩=>(q0,j0)) (0,([]:List (Int × Bool))) j4 ⟨rfl,rfl,rfl,rfl,rfl,trivial⟩ ⟨H2,AP _ _⟩ ?_
 rintro Z4 ⟨q0,j0⟩ U0 W0 ⟨c0,c1⟩ h
 unfold balance_count_check_l2 at h
 try dsimp only at h
 refine Ac<|Ab (Bn (i:=q0) (j:=a1.length) rfl rfl)<|Aa<|Ak<|AQ rfl h (fun J1 h=>?_) (fun J1 h=>?_)
 refine Aq<|Ak<|Az<|Ac ?_
 obtain ⟨v0,B4,h⟩:=bi h
 have c4:=AM h1_0 c0
 obtain ⟨W4,g5,H3,M3,P1,v4,b4⟩:=Bm c4 B4
 have I3:P1 = [vI v0]:=v4; subst I3
 refine Ab (Bo 1 q0 rfl H3 rfl rfl M3)<|Bd rfl (b4 0 _ rfl)<|Ag rfl<|Aa<|Ac<|Ae rfl<|Ab (FV.lss (i:=v0) (j:=0) rfl rfl)<|Ae rfl<|RG.ifd (s:=28) rfl h (fun K1 h=>?_) (fun K1 h=>?_)
 refine AR<|AR<|AR<|AR<|RG.pt rfl rfl ?_
 obtain ⟨P4,x1,h⟩:=bi h
 rcases P4 with x5 | V7
 have h:=exc_e h
 try dsimp only at h
 have h:=thn_inl h M0
 refine Bu (fst:=[]) (cap:=[]) .plain body75 rfl (e2 rfl rfl) (fun w9 hw9=>balance_fail_c n _ w9 (c0.hL0 hL hw9) true (220:Int) x1) (fun C7 A3=>?_)
 obtain ⟨I2,t6⟩:=c0.agr A3
 refine PN.take I2 (.tl .hd) (fun D7 J2 u6=>?_)
 obtain ⟨K2,v6⟩:=AH J2 (.one .hd (.one (.tl .hd) .done))
 cases h
 exact Ba hp0 Tryz.func87 ⟨K2.ag,rfl⟩
 have h:=exc_o h
 try dsimp only at h
 refine Bf (.tuple #[]) body75 rfl (e2 rfl rfl) (fun w9 hw9=>AU (balance_fail_c n _ w9 (c0.hL0 hL hw9) true (220:Int) x1)) rfl<|Aa<|Ar<|Ae rfl<|Ae rfl<|RG.now .plain (Acts.mapUpdate (kv:=v0) (vv:=true) c0 .hd Tryz.underlying168 Tryz.underlying3 rfl rfl rfl rfl) (fun E7 M2 s3=>?_)
 refine Aa<|AC<|Ar<|Ab (Br (i:=q0) (j:=1) rfl rfl (by omega))<|Ae rfl<|Aa ?_
 exact W0 (q0 + 1,mset j0 v0 true) _ _ ⟨rfl,rfl,rfl,rfl,rfl,trivial⟩ ⟨M2,(Tt c1 s3)⟩ h
 refine AY (Ai rfl)<|RG.fg 4 rfl<|AY (AK rfl ((c0.memA (.tl (.tl .hd))) 4 _ rfl))<|AY (FV.geq (i:=v0) (j:=a0.fk) rfl rfl)<|RG.pf rfl rfl ?_
 obtain ⟨Q4,y1,h⟩:=bi h
 rcases Q4 with y5 | W7
 have h:=exc_e h
 try dsimp only at h
 have h:=thn_inl h M0
 refine Bu (fst:=[]) (cap:=[]) .plain body75 rfl (e2 rfl rfl) (fun w9 hw9=>balance_fail_c n _ w9 (c0.hL0 hL hw9) (decide (a0.fk ≤ v0)) (220:Int) y1) (fun F7 B3=>?_)
 obtain ⟨P2,x6⟩:=c0.agr B3
 refine PN.take P2 (.tl .hd) (fun G7 Q2 y6=>?_)
 obtain ⟨R2,z6⟩:=AH Q2 (.one .hd (.one (.tl .hd) .done))
 cases h
 exact Ba hp0 Tryz.func87 ⟨R2.ag,rfl⟩
 have h:=exc_o h
 try dsimp only at h
 refine Bf (.tuple #[]) body75 rfl (e2 rfl rfl) (fun w9 hw9=>AU (balance_fail_c n _ w9 (c0.hL0 hL hw9) (decide (a0.fk ≤ v0)) (220:Int) y1)) rfl<|Aa<|Ar<|Ae rfl<|Ae rfl<|RG.now .plain (Acts.mapUpdate (kv:=v0) (vv:=true) c0 .hd Tryz.underlying168 Tryz.underlying3 rfl rfl rfl rfl) (fun H7 U2 t3=>?_)
 refine Aa<|AC<|Ar<|Ab (Br (i:=q0) (j:=1) rfl rfl (by omega))<|Ae rfl<|Aa ?_
 exact W0 (q0 + 1,mset j0 v0 true) _ _ ⟨rfl,rfl,rfl,rfl,rfl,trivial⟩ ⟨U2,(Tt c1 t3)⟩ h
 refine Be rfl ?_
 have h:=thn_inr h M0
 try dsimp only at h
 refine Ar<|Ae rfl<|Ab (FV.len_map (D:=j0) c0 .hd Tryz.underlying168 rfl)<|Bg 4 rfl<|Bd rfl ((c0.memA (.tl (.tl .hd))) 4 _ rfl)<|Ab (FV.neq (i:=((j0.length:Nat):Int)) (j:=a0.fk) rfl rfl) ?_
 obtain ⟨R4,z1,h⟩:=bi h
 rcases R4 with z5 | X7
 have h:=exc_e h
 try dsimp only at h
 refine Bu (fst:=[]) (cap:=[]) .plain body75 rfl (e2 rfl rfl) (fun w9 hw9=>balance_fail_c n _ w9 (c0.hL0 hL hw9) (!(decide (((j0.length:Nat):Int) = a0.fk))) (220:Int) z1) (fun I7 C3=>?_)
 obtain ⟨V2,A6⟩:=c0.agr C3
 refine PN.take V2 (.tl .hd) (fun J7 W2 B6=>?_)
 obtain ⟨X2,C6⟩:=AH W2 (.one .hd (.one (.tl .hd) .done))
 cases h
 exact Ba hp0 Tryz.func87 ⟨X2.ag,rfl⟩
 have h:=exc_o h
 try dsimp only at h
 refine Bf (.tuple #[]) body75 rfl (e2 rfl rfl) (fun w9 hw9=>AU (balance_fail_c n _ w9 (c0.hL0 hL hw9) (!(decide (((j0.length:Nat):Int) = a0.fk))) (220:Int) z1)) rfl<|Aa<|MX.fin rfl<|RT.take c0 (.tl .hd) (fun K7 Y2 D6=>?_)
 obtain ⟨Z2,E6⟩:=AH Y2 (.one .hd (.one (.tl .hd) .done))
 refine Ao hb0 Tryz.func87 rfl .nil rfl ?_
 cases h
 exact ⟨Z2.ag,fun w9 hw9=>okOf_in rfl⟩
def tb58_6:List (Nat × Nat × Nat):=[(0,262144,32),(0,524288,8),(0,1048576,64),(6,2097152,1572864),(8,4194304,2097152),(17,8388608,4456448),(32,16777216,8388608),(0,33554432,128),(128,67108864,33554432),(320,134217728,83886080),(1023,268435456,4456448),(2047,0,402653184)]
theorem el45:ElT Tryz.prog 45 3 (Rep.size Int) 8 (vI 0) [vI 0]:=⟨Tryz.underlying45,by kernel_rfl,rfl,rfl,rfl,rfl⟩
theorem body87:bodyB Tryz.prog 87 = true:=by kernel_rfl
def balance_count_totals_l1 (_n:Nat) (a0:Tcount) (a1:List Int) (j0:Nat × (List Int) → Option ((Except Tbroken (List Int)) ⊕ (List Int))):Nat × (List Int) → Option ((Except Tbroken (List Int)) ⊕ (List Int))
  | (b0,c0)=>(if b0 < a0.fRoll.fUnits.length then (a0.fRoll.fUnits[b0]?).bind fun d0=>(if d0.fWater = true then some (.inl (.ok c0)) else (a1[b0]?).bind fun g0=>(idx c0 g0).bind fun p0=>(chk (p0 + d0.fPeople)).bind fun k0=>(put c0 ((g0.toNat:Nat):Int) k0).bind fun q0=>j0 (b0 + 1,q0)) else some (.inr c0))
def balance_count_totals_p (n:Nat) (a0:Tcount) (a1:List Int):Option (Except Tbroken (List Int)):=
  (balance_count_check_p n a0 a1).bind fun g0=>exc g0 (fun j0=>(mk a0.fk (0:Int)).bind fun d0=>thn (loopF (balance_count_totals_l1 n a0 a1) n (0,d0)) (fun c0=>some (.ok c0))) (fun b0=>some (.error b0))
theorem balance_count_totals_c (n:Nat) (L:List Nat) (w:World) (hL:∀ b ∈ L,b < w.heap.size) (a0:Tcount) {v0_3:Value} (h0_3:Rep.R w L [v0_3] a0.fRoll.fUnits) (a1:List Int) {v1_0:Value} (h1_0:Rep.R w L [v1_0] a1)  {r:Except Tbroken (List Int)} (h:balance_count_totals_p n a0 a1 = some r) :
    Calls Tryz.prog 58 #[.agg #[vI a0.fRoll.fGroups,vI a0.fRoll.fParties,vI a0.fRoll.fLevels,v0_3,vI a0.fk],v1_0] w (PGives w (fun (y:List Int) w' u=>∃ v0_0:Value,u = v0_0∧Rep.R w' L [v0_0] y) (fun e=>.iface 140 (.agg #[vI e.fErrno])) r):=by
 unfold balance_count_totals_p at h
 have hS0:=Ax w
 refine MX.startP Tryz.func58 rfl rfl rfl (fun _ cs0 hb0 hp0=>?_)
 refine Ac<|Aj .plain rfl (Aw hS0 rfl rfl) (fun R4 B0 d1 B4=>?_)
 have Z2:=AM h1_0 d1
 refine Aj .plain rfl (Aw d1 rfl (Rep.c1 Z2)) (fun U4 C0 d0 C4=>?_)
 refine Ag rfl<|Aa<|Ac<|Ab (AB rfl (d0.memA (.tl .hd)))<|Bd rfl ((d0.memA .hd) 0 _ rfl) ?_
 obtain ⟨d4,G1,h⟩:=bi h
 rcases d4 with A4 | u5
 have h:=exc_e h
 try dsimp only at h
 refine Bu (fst:=[]) (cap:=[]) .plain body87 rfl (e2 rfl rfl) (fun w9 hw9=>balance_count_check_c n _ w9 (d0.hL0 hL hw9) a0 (d0.k0 h0_3 hw9) a1 (d0.k0 h1_0 hw9) G1) (fun V4 K2=>?_)
 obtain ⟨W1,D4⟩:=d0.agr K2
 cases h
 exact Ba hp0 Tryz.func58 ⟨W1.ag,rfl⟩
 have h:=exc_o h
 try dsimp only at h
 refine Bf (.tuple #[]) body87 rfl (e2 rfl rfl) (fun w9 hw9=>AU (balance_count_check_c n _ w9 (d0.hL0 hL hw9) a0 (d0.k0 h0_3 hw9) a1 (d0.k0 h1_0 hw9) G1)) rfl<|Aa<|Ac<|Bg 4 rfl<|Bd rfl ((d0.memA (.tl .hd)) 4 _ rfl) ?_
 obtain ⟨b1,F1,h⟩:=bi h
 refine Aj .plain rfl (Does.mk (α:=Int) F1 d0 el45 rfl) (fun c5 c0 j1 F4=>?_)
 have P2:=AG (cs:=(List.replicate a0.fk.toNat [vI 0]).flatten) (xs:=b1) j1 L (Cells.mk F1 rfl)
 refine Aj .plain rfl (Av [vN] j1) (fun q5 D0 R0 G2=>?_)
 refine RG.now .plain (Ay (news:=[(.slice (some ⟨c0,0,none⟩) a0.fk.toNat a0.fk.toNat)]) R0 .hd rfl rfl rfl (St.c1 (α:=Int) R0 (.tl .hd)) rfl rfl (o1 (St.o1 (α:=Int) R0 (.tl .hd)))) (fun Z3 x0 H2=>?_)
 refine Aa<|Ak<|Ac<|Ab (AB rfl (x0.memA (.tl (.tl (.tl .hd)))))<|AX (fst:=[]) (cap:=[]) .plain body120 rfl (e1 rfl) (fun w9 hw9=>Calls.gives (balance_count_land_c n _ w9 (x0.hL hL hw9) a0 (x0.km h0_3 hw9)) fun (w8:World) (u8:Value) ⟨b0_,hu_,s_⟩=>(⟨b0_,hu_,s_.from hw9⟩:∃ s0:Nat,u8 = Value.func (.func 161) #[] #[vP s0]∧St Z3 w8 [.cells s0 [vI a0.fRoll.fGroups,vI a0.fRoll.fParties,vI a0.fRoll.fLevels,v0_3,vI a0.fk] 97])) rfl (fun t5 Q4 H4 ⟨s0,Q3,H1⟩=>?_)
 subst Q3
 have q2:=mk_push1 x0 H1
 have I2:=mk_tr1 x0 H1
 refine Aa<|Az<|MX.rangeP (lb:=[vP s0]) rfl q2 rfl body161 Tryz.func161 rfl rfl rfl (fun b4 z0 A0 G0 z4 U0 J2 Y3 u1 K4=>?_)
 refine Ac<|Bg 0 rfl<|Bg 3 rfl<|Ab (AK rfl ((mem_from (U0.memA (.tl (.tl .hd))) 0) 3 _ rfl)) ?_
 have A1:=AM h0_3 U0
 have I4:a0.fRoll.fUnits.length ≤ 281474976710656:=AT A1
 refine Ab (Bb (xs:=a0.fRoll.fUnits) Tryz.underlying42 rfl A1)<|Ae rfl<|Aa<|Az ?_
 have B3:=Tt G2 (Tt H2 (Tt I2 J2))
 have b3:=AN P2 B3
 obtain ⟨M4,A3,x1⟩:=thn_in h
 refine Bj (α:=Nat × (List Int) × (List Value)) (fun ⟨g0,q0,t0⟩=>[(0,.func (.yield z0) #[] #[]),(7,v0_3),(8,vI ((a0.fRoll.fUnits.length:Nat):Int)),(9,vI ((g0:Nat):Int))]) (fun ⟨g0,q0,t0⟩ H0=>St w H0 [.obj z0 (lpO G0 .ready none),.obj A0 (.deferred (some [])),.cells s0 [vI a0.fRoll.fGroups,vI a0.fRoll.fParties,vI a0.fRoll.fLevels,v0_3,vI a0.fk] 97,.cells D0 [(.slice (some ⟨c0,0,none⟩) a0.fk.toNat a0.fk.toNat)] 45,.row w.heap.size 3 (Rep.size Int) (.slice (some ⟨c0,0,none⟩) a0.fk.toNat a0.fk.toNat) q0.length t0,.cells C0 [v1_0] 46,.cells B0 [vI a0.fRoll.fGroups,vI a0.fRoll.fParties,vI a0.fRoll.fLevels,v0_3,vI a0.fk] 97]∧Tr b4 [.obj z0 (lpO G0 .ready none),.obj A0 (.deferred (some [])),.cells s0 [vI a0.fRoll.fGroups,vI a0.fRoll.fParties,vI a0.fRoll.fLevels,v0_3,vI a0.fk] 97,.cells D0 [(.slice (some ⟨c0,0,none⟩) a0.fk.toNat a0.fk.toNat)] 45,.row w.heap.size 3 (Rep.size Int) (.slice (some ⟨c0,0,none⟩) a0.fk.toNat a0.fk.toNat) b1.length ((List.replicate a0.fk.toNat [vI 0]).flatten),.cells C0 [v1_0] 46,.cells B0 [vI a0.fRoll.fGroups,vI a0.fRoll.fParties,vI a0.fRoll.fLevels,v0_3,vI a0.fk] 97] H0 [.obj z0 (lpO G0 .ready none),.obj A0 (.deferred (some [])),.cells s0 [vI a0.fRoll.fGroups,vI a0.fRoll.fParties,vI a0.fRoll.fLevels,v0_3,vI a0.fk] 97,.cells D0 [(.slice (some ⟨c0,0,none⟩) a0.fk.toNat a0.fk.toNat)] 45,.row w.heap.size 3 (Rep.size Int) (.slice (some ⟨c0,0,none⟩) a0.fk.toNat a0.fk.toNat) q0.length t0,.cells C0 [v1_0] 46,.cells B0 [vI a0.fRoll.fGroups,vI a0.fRoll.fParties,vI a0.fRoll.fLevels,v0_3,vI a0.fk] 97]∧Cells H0 (bl [.obj z0 (lpO G0 .ready none),.obj A0 (.deferred (some [])),.cells s0 [vI a0.fRoll.fGroups,vI a0.fRoll.fParties,vI a0.fRoll.fLevels,v0_3,vI a0.fk] 97,.cells D0 [(.slice (some ⟨c0,0,none⟩) a0.fk.toNat a0.fk.toNat)] 45,.row w.heap.size 3 (Rep.size Int) (.slice (some ⟨c0,0,none⟩) a0.fk.toNat a0.fk.toNat) q0.length t0,.cells C0 [v1_0] 46,.cells B0 [vI a0.fRoll.fGroups,vI a0.fRoll.fParties,vI a0.fRoll.fLevels,v0_3,vI a0.fk] 97] ++ L) t0 q0) (fun ⟨g0,q0,t0⟩=>(g0,q0)) (0,b1,(List.replicate a0.fk.toNat [vI 0]).flatten) A3 ⟨rfl,rfl,rfl,rfl,trivial⟩ ⟨U0,AP _ _,b3⟩ ?_
 rintro k4 ⟨g0,q0,t0⟩ H0 V1 ⟨J0,s2,V0⟩ h
 unfold balance_count_totals_l1 at h
 try dsimp only at h
 refine Ac<|Ab (Bn (i:=g0) (j:=a0.fRoll.fUnits.length) rfl rfl)<|Aa<|Ak<|AQ rfl h (fun M1 h=>?_) (fun M1 h=>?_)
 refine Aq<|Ak<|Az<|Ac<|Ae rfl ?_
 obtain ⟨p0,R3,h⟩:=bi h
 have d3:=AM h0_3 J0
 obtain ⟨g4,s4,R2,X2,x4,F3,c3⟩:=Bm d3 R3
 obtain ⟨X0,Y0,Z0,rfl,C1,D1,E1⟩:=op_TUnit F3
 refine Ab (Bo 6 g0 rfl R2 rfl rfl X2)<|Ab (AB rfl c3)<|Aj .plain rfl (Av [.string ⟨#[]⟩,vI 0,vN,vN,vN,.bool false] J0) (fun W4 p4 X1 y0=>?_)
 refine Ag rfl ?_
 have g3:=Ap C1 y0
 have j3:=Ap D1 y0
 have k3:=Ap E1 y0
 refine AL [.string p0.fName,vI p0.fPeople,X0,Y0,Z0,.bool p0.fWater] X1 .hd (o6 rfl rfl (AI g3) (AI j3) (AI k3) rfl) (fun X4 v0 p1=>?_)
 refine Aa<|Ac<|Bg 5 rfl<|Bd rfl ((v0.memA .hd) 5 _ rfl)<|Ae rfl<|RG.ifb (s:=16) rfl h (fun P1 h=>?_) (fun P1 h=>?_)
 refine AR<|AR<|AR<|AR<|AR<|RG.pt rfl rfl<|Aa<|Bp rfl ?_
 have h:=thn_inl h x1
 refine Al rfl<|Ao (u:=.tuple #[]) u1 Tryz.func161 rfl .nil rfl<|MX.endRange0 v0 (.tl .hd) (by intro h9; cases h9) (fun Y4 Y1 t2=>?_)
 obtain ⟨g1,u2⟩:=AH Y1 (.one .hd (.one (.tl .hd) (.one (.tl .hd) (.one (.tl .hd) (.one (.tl .hd) (.one (.tl .hd) (.one (.tl .hd) .done)))))))
 refine AC<|Ac<|Ab (AK rfl ((g1.memA (.tl (.tl (.tl .hd)))) 0 _ rfl))<|Ag rfl<|Aa<|Al rfl<|RT.take g1 (.tl .hd) (fun Z4 Z1 v2=>?_)
 obtain ⟨K0,x2⟩:=AH Z1 (.one .hd (.one (.tl .hd) (.one (.tl .hd) (.one (.tl .hd) (.one (.tl .hd) (.one (.tl .hd) .done))))))
 have C3:=Tt y0 (Tt p1 (Tt t2 (Tt u2 (Tt v2 x2))))
 have p3:=AN V0 C3
 have G3:=Bq (α:=Int) K0 (.tl (.tl (.tl .hd))) p3 hL
 have M0:=BD K0 (.tl (.tl (.tl .hd)))
 have E4:=BE K0 (.tl (.tl (.tl .hd)))
 have H3:=BF (α:=Int) (v:=(.slice (some ⟨c0,0,none⟩) a0.fk.toNat a0.fk.toNat)) (xs:=q0) M0 L G3
 refine Bc hb0 Tryz.func58 rfl rfl ?_
 cases h
 exact ⟨M0.ag,fun w9 hw9=>okOf_in ⟨(.slice (some ⟨c0,0,none⟩) a0.fk.toNat a0.fk.toNat),rfl,M0.kd H3 hw9⟩⟩
 refine AY (Ai rfl)<|AY (Ai rfl)<|AY (AB rfl (v0.memA .hd))<|RG.yieldP (fd:=58) (vs:=[vI ((g0:Nat):Int),.agg #[.string p0.fName,vI p0.fPeople,X0,Y0,Z0,.bool p0.fWater]]) (.yes rfl rfl) rfl (e2 rfl rfl) v0 (.tl .hd) Y3 rfl rfl rfl (fun y4 M2 J4=>?_)
 refine Ac<|Ag rfl<|Aa<|Ar<|Aj .plain rfl (Av [.string ⟨#[]⟩,vI 0,vN,vN,vN,.bool false] v0) (fun b5 q4 b2 y2=>?_)
 have F0:=Tt y0 (Tt p1 y2)
 have q3:=Ap C1 F0
 have s3:=Ap D1 F0
 have t3:=Ap E1 F0
 refine AL [.string p0.fName,vI p0.fPeople,X0,Y0,Z0,.bool p0.fWater] b2 .hd (o6 rfl rfl (AI q3) (AI s3) (AI t3) rfl) (fun d5 c2 z2=>?_)
 refine Aa<|MX.begin c2 (.tl (.tl .hd)) (fun g5 u0 A2=>?_)
 refine Az<|AF 11 tb58_6 (by kernel_rfl) (by kernel_rfl) (by kernel_rfl) (fun b0 j0=>?_)
 refine AD 0 1 3680 b0 rfl j0 (AK rfl ((u0.memA (.tl (.tl (.tl (.tl (.tl .hd)))))) 0 _ rfl)) rfl<|AD 1 3 3704 b0 rfl j0 (AK rfl ((u0.memA (.tl (.tl (.tl (.tl (.tl (.tl (.tl .hd)))))))) 0 _ rfl)) rfl<|Ah 2 7 b0 rfl j0 (fun _=>Ai rfl) rfl ?_
 obtain ⟨I0,U3,h⟩:=bi h
 have v3:=AM h1_0 u0
 obtain ⟨j4,t4,U2,Y2,Q1,I3,u3⟩:=Bm v3 U3
 have V2:Q1 = [vI I0]:=I3; subst V2
 refine Ah 3 15 b0 rfl j0 (fun _=>Bo 1 g0 rfl U2 rfl rfl Y2) rfl<|AD 4 31 3680 b0 rfl j0 (AK rfl (u3 0 _ rfl)) rfl ?_
 obtain ⟨I1,V3,h⟩:=bi h
 obtain ⟨y1,W3⟩:=idx_in V3
 have B1:=Tt F0 (Tt z2 A2)
 have z1:=AN V0 B1
 obtain ⟨J1,u4,E0,W0,R1,J3,x3⟩:=St.nth (α:=Int) u0 (.tl (.tl (.tl (.tl (.tl (.tl .hd)))))) z1 W3
 obtain ⟨K1,v4,v1⟩:=St.nthOwn (α:=Int) u0 (.tl (.tl (.tl (.tl (.tl (.tl .hd)))))) W0
 obtain rfl:J1 = ⟨K1,0,none⟩:=by rw [v1] at E0; cases E0; rfl
 have W2:R1 = [vI I1]:=J3; subst W2
 refine Ah 5 63 b0 rfl j0 (fun _=>Bo 1 (I0.toNat) rfl E0 rfl y1 W0) rfl<|AD 6 127 3584 b0 rfl j0 (AK rfl (x3 0 _ rfl)) rfl<|Ah 7 255 b0 rfl j0 (fun _=>Bh 1 rfl) rfl<|AD 8 511 3584 b0 rfl j0 (AK rfl ((u0.memA .hd) 1 _ rfl)) rfl ?_
 obtain ⟨P4,P3,h⟩:=bi h
 refine Ah 9 1023 b0 rfl j0 (fun _=>BC (i:=I1) (j:=p0.fPeople) rfl rfl P3) rfl<|Ah 10 2047 b0 rfl j0 (fun _=>Bo 1 (I0.toNat) rfl E0 rfl y1 W0) rfl ?_
 obtain ⟨c4,X3,h⟩:=bi h
 refine Bs (i:=11) (readyD_ok b0 (by kernel_rfl)) (RO.acts (m' :=4095) (stepC_ok b0 (by kernel_rfl)) rfl rfl .plain (Acts.set (α:=Int) (i:=I0.toNat) X3 u0 v1 (fun _=>(.tl (.tl (.tl (.tl (.tl (.tl .hd))))))) z1 rfl rfl rfl rfl rfl (by kernel_rfl)) (fun j5 ⟨U1,d2,B2,Q2⟩=>?_))
 refine AE (doneD_ok b0 (by kernel_rfl))<|AC<|MX.roundEnd M2 d2 (.tl (.tl .hd)) (fun k5 g2 q1=>?_)
 refine AY (Bz rfl)<|RG.pf rfl rfl<|Aa<|Bv rfl<|Aq<|AC<|Ar<|Ab (Br (i:=g0) (j:=1) rfl rfl (by omega))<|Ae rfl<|Aa ?_
 obtain ⟨j2,s1⟩:=AH g2 (.one (.tl (.tl .hd)) (.one (.tl (.tl .hd)) (.one (.tl (.tl .hd)) (.one (.tl (.tl .hd)) (.one (.tl (.tl .hd)) (.one (.tl (.tl .hd)) (.one (.tl (.tl .hd)) .done)))))))
 have y3:=AN Q2 (Tt q1 s1)
 have D3:=Tt B1 (Tt B2 (Tt q1 s1))
 exact V1 (g0 + 1,c4,U1) _ _ ⟨rfl,rfl,rfl,rfl,trivial⟩ ⟨j2,(Tt s2 D3),y3⟩ h
 refine Be rfl ?_
 have h:=thn_inr h x1
 try dsimp only at h
 refine MX.fin rfl<|Ao (u:=.tuple #[]) u1 Tryz.func161 rfl .nil rfl<|MX.endRange0 J0 .hd (by intro h9; cases h9) (fun p5 k2 C2=>?_)
 obtain ⟨k1,D2⟩:=AH k2 (.one (.tl .hd) (.one (.tl .hd) (.one (.tl .hd) (.one (.tl .hd) (.one (.tl .hd) (.one (.tl .hd) .done))))))
 refine AC<|Ac<|Bd rfl ((k1.memA (.tl (.tl .hd))) 0 _ rfl)<|Ag rfl<|Aa<|Al rfl<|RT.take k1 .hd (fun s5 p2 E2=>?_)
 obtain ⟨P0,F2⟩:=AH p2 (.one (.tl .hd) (.one (.tl .hd) (.one (.tl .hd) (.one (.tl .hd) (.one (.tl .hd) .done)))))
 have E3:=Tt C2 (Tt D2 (Tt E2 F2))
 have z3:=AN V0 E3
 have K3:=Bq (α:=Int) P0 (.tl (.tl .hd)) z3 hL
 have Q0:=BD P0 (.tl (.tl .hd))
 have G4:=BE P0 (.tl (.tl .hd))
 have M3:=BF (α:=Int) (v:=(.slice (some ⟨c0,0,none⟩) a0.fk.toNat a0.fk.toNat)) (xs:=q0) Q0 L K3
 refine Bc hb0 Tryz.func58 rfl rfl ?_
 cases h
 exact ⟨Q0.ag,fun w9 hw9=>okOf_in ⟨(.slice (some ⟨c0,0,none⟩) a0.fk.toNat a0.fk.toNat),rfl,Q0.kd M3 hw9⟩⟩
def balance_least_l1 (_n:Nat) (a1:List Int) (d0:Int × Nat → Option Int):Int × Nat → Option Int
  | (c0,b0)=>(if b0 < a1.length then (a1[b0]?).bind fun g0=>d0 (min c0 g0,b0 + 1) else some c0)
def balance_least_p (n:Nat) (a0:Int) (a1:List Int):Option Int:=
  Option.bind (loopF (balance_least_l1 n a1) n (a0,0)) (fun b0=>some b0)
theorem balance_least_c (n:Nat) (L:List Nat) (w:World) (_hL:∀ b ∈ L,b < w.heap.size) (a0:Int) (a1:List Int) {v1_0:Value} (h1_0:Rep.R w L [v1_0] a1)  {r:Int} (h:balance_least_p n a0 a1 = some r) :
    Calls Tryz.prog 59 #[vI a0,v1_0] w (Gives w fun _ u=>u = vI r):=by
 unfold balance_least_p at h
 have hS0:=Ax w
 refine AA Tryz.func59 rfl rfl rfl (fun _ cs0 hb0=>?_)
 refine Ac<|Ag rfl<|Aa<|Ak<|Ac<|Ae rfl ?_
 have hl1:a1.length ≤ 281474976710656:=AT h1_0
 refine Ab (Bb (xs:=a1) Tryz.underlying45 rfl h1_0)<|Ae rfl<|Aa<|Az ?_
 obtain ⟨G0,A0,v0⟩:=bind_in2 h
 refine Bj (α:=Int × Nat) (fun ⟨c0,b0⟩=>[(0,vI c0),(7,v1_0),(8,vI ((a1.length:Nat):Int)),(9,vI ((b0:Nat):Int))]) (fun ⟨c0,b0⟩ g0=>St w g0 []∧Tr w [] g0 []) (fun ⟨c0,b0⟩=>(c0,b0)) (a0,0) A0 ⟨rfl,rfl,rfl,rfl,trivial⟩ ⟨hS0,AP _ _⟩ ?_
 rintro E0 ⟨c0,b0⟩ g0 q0 ⟨d0,s0⟩ h
 unfold balance_least_l1 at h
 try dsimp only at h
 refine Ac<|Ab (Bn (i:=b0) (j:=a1.length) rfl rfl)<|Aa<|Ak<|AQ rfl h (fun k0 h=>?_) (fun k0 h=>?_)
 refine Aq<|Ak<|Az<|Ac ?_
 obtain ⟨j0,C0,h⟩:=bi h
 have z0:=AM h1_0 d0
 obtain ⟨D0,F0,t0,x0,p0,B0,y0⟩:=Bm z0 C0
 have u0:p0 = [vI j0]:=B0; subst u0
 refine Ab (Bo 1 b0 rfl t0 rfl rfl x0)<|Bd rfl (y0 0 _ rfl)<|Ag rfl<|Aa<|Ar<|Ae rfl<|Ae rfl<|Ab (FV.min2 (i:=c0) (j:=j0) rfl rfl)<|Ag rfl<|Aa<|AC<|Ar<|Ab (Br (i:=b0) (j:=1) rfl rfl (by omega))<|Ae rfl<|Aa ?_
 exact q0 (min c0 j0,b0 + 1) _ _ ⟨rfl,rfl,rfl,rfl,trivial⟩ ⟨d0,s0⟩ h
 refine Be rfl ?_
 have h:=v0 _ h
 try dsimp only at h
 refine Ac<|Ae rfl<|Ag rfl<|Aa<|Al rfl<|Bc hb0 Tryz.func59 rfl rfl ?_
 cases h
 exact d0.gv
def balance_greatest_l1 (_n:Nat) (a1:List Int) (d0:Int × Nat → Option Int):Int × Nat → Option Int
  | (c0,b0)=>(if b0 < a1.length then (a1[b0]?).bind fun g0=>d0 (max c0 g0,b0 + 1) else some c0)
def balance_greatest_p (n:Nat) (a0:Int) (a1:List Int):Option Int:=
  Option.bind (loopF (balance_greatest_l1 n a1) n (a0,0)) (fun b0=>some b0)
theorem balance_greatest_c (n:Nat) (L:List Nat) (w:World) (_hL:∀ b ∈ L,b < w.heap.size) (a0:Int) (a1:List Int) {v1_0:Value} (h1_0:Rep.R w L [v1_0] a1)  {r:Int} (h:balance_greatest_p n a0 a1 = some r) :
    Calls Tryz.prog 60 #[vI a0,v1_0] w (Gives w fun _ u=>u = vI r):=by
 unfold balance_greatest_p at h
 have hS0:=Ax w
 refine AA Tryz.func60 rfl rfl rfl (fun _ cs0 hb0=>?_)
 refine Ac<|Ag rfl<|Aa<|Ak<|Ac<|Ae rfl ?_
 have hl1:a1.length ≤ 281474976710656:=AT h1_0
 refine Ab (Bb (xs:=a1) Tryz.underlying45 rfl h1_0)<|Ae rfl<|Aa<|Az ?_
 obtain ⟨G0,A0,v0⟩:=bind_in2 h
 refine Bj (α:=Int × Nat) (fun ⟨c0,b0⟩=>[(0,vI c0),(7,v1_0),(8,vI ((a1.length:Nat):Int)),(9,vI ((b0:Nat):Int))]) (fun ⟨c0,b0⟩ g0=>St w g0 []∧Tr w [] g0 []) (fun ⟨c0,b0⟩=>(c0,b0)) (a0,0) A0 ⟨rfl,rfl,rfl,rfl,trivial⟩ ⟨hS0,AP _ _⟩ ?_
 rintro E0 ⟨c0,b0⟩ g0 q0 ⟨d0,s0⟩ h
 unfold balance_greatest_l1 at h
 try dsimp only at h
 refine Ac<|Ab (Bn (i:=b0) (j:=a1.length) rfl rfl)<|Aa<|Ak<|AQ rfl h (fun k0 h=>?_) (fun k0 h=>?_)
 refine Aq<|Ak<|Az<|Ac ?_
 obtain ⟨j0,C0,h⟩:=bi h
 have z0:=AM h1_0 d0
 obtain ⟨D0,F0,t0,x0,p0,B0,y0⟩:=Bm z0 C0
 have u0:p0 = [vI j0]:=B0; subst u0
 refine Ab (Bo 1 b0 rfl t0 rfl rfl x0)<|Bd rfl (y0 0 _ rfl)<|Ag rfl<|Aa<|Ar<|Ae rfl<|Ae rfl<|Ab (FV.max2 (i:=c0) (j:=j0) rfl rfl)<|Ag rfl<|Aa<|AC<|Ar<|Ab (Br (i:=b0) (j:=1) rfl rfl (by omega))<|Ae rfl<|Aa ?_
 exact q0 (max c0 j0,b0 + 1) _ _ ⟨rfl,rfl,rfl,rfl,trivial⟩ ⟨d0,s0⟩ h
 refine Be rfl ?_
 have h:=v0 _ h
 try dsimp only at h
 refine Ac<|Ae rfl<|Ag rfl<|Aa<|Al rfl<|Bc hb0 Tryz.func60 rfl rfl ?_
 cases h
 exact d0.gv
def tb57_4:List (Nat × Nat × Nat):=[(0,131072,64),(1,262144,131072),(2,524288,262144),(0,1048576,64),(12,2097152,1572864),(0,4194304,128),(32,8388608,4194304),(80,16777216,10485760),(144,33554432,16777216),(256,67108864,33554496),(768,134217728,100663296),(1280,268435456,167772160),(256,536870912,33554496),(6400,1073741824,838860800),(256,2147483648,33554560),(16640,4294967296,2181038080),(41216,8589934592,5402263552),(65792,17179869184,8623489024),(262143,16,17179869184)]
theorem body58:bodyB Tryz.prog 58 = true:=by kernel_rfl
theorem body59:bodyB Tryz.prog 59 = true:=by kernel_rfl
theorem body60:bodyB Tryz.prog 60 = true:=by kernel_rfl
def balance_Within_1_p (n:Nat) (a0:TRoll) (a1:Int) (a2:List Int) (a3:TShare):Option (Except Tbroken Bool):=
  (balance_counted_p n a0 a1).bind fun y1=>exc y1 (fun d0=>(balance_count_totals_p n d0 a2).bind fun q0=>exc q0 (fun b0=>(balance_count_within_p n d0 a3).bind fun s0=>exc s0 (fun g0=>(b0[0]?).bind fun c0=>(balance_least_p n c0 b0).bind fun t0=>(if g0.flow ≤ t0 then (balance_greatest_p n c0 b0).bind fun u0=>some (.ok (decide (u0 ≤ g0.fhigh))) else some (.ok false))) (fun p0=>some (.error p0))) (fun k0=>some (.error k0))) (fun j0=>some (.error j0))
theorem balance_Within_1_c (n:Nat) (L:List Nat) (w:World) (hL:∀ b ∈ L,b < w.heap.size) (a0:TRoll) {v0_3:Value} (h0_3:Rep.R w L [v0_3] a0.fUnits) {p0:Nat} (m0:∀ j9 v9,([vI a0.fGroups,vI a0.fParties,vI a0.fLevels,v0_3]:List Value)[j9]? = some v9 → w.cell? ((⟨p0,0,none⟩:Addr).add j9) = some v9) (a1:Int) {p1:Nat} (m1:∀ j9 v9,([vI a1]:List Value)[j9]? = some v9 → w.cell? ((⟨p1,0,none⟩:Addr).add j9) = some v9) (a2:List Int) {v2_0:Value} (h2_0:Rep.R w L [v2_0] a2) {p2:Nat} (m2:∀ j9 v9,([v2_0]:List Value)[j9]? = some v9 → w.cell? ((⟨p2,0,none⟩:Addr).add j9) = some v9) (a3:TShare) {p3:Nat} (m3:∀ j9 v9,((cs_TShare a3):List Value)[j9]? = some v9 → w.cell? ((⟨p3,0,none⟩:Addr).add j9) = some v9)  {r:Except Tbroken Bool} (h:balance_Within_1_p n a0 a1 a2 a3 = some r) :
    Calls Tryz.prog 57 #[.pointer (some ⟨p0,0,none⟩),.pointer (some ⟨p1,0,none⟩),.pointer (some ⟨p2,0,none⟩),.pointer (some ⟨p3,0,none⟩)] w (PGives w (fun (y:Bool) _ u=>u = .bool y) (fun e=>.iface 140 (.agg #[vI e.fErrno])) r):=by
 unfold balance_Within_1_p at h
 have hS0:=Ax w
 refine MX.startP Tryz.func57 rfl rfl rfl (fun _ cs0 hb0 hp0=>?_)
 refine Ac<|Ag rfl<|Aa<|Ac<|Ab (AB rfl (fun j9 v9 h9=>hS0.ag.cell0 (m0 j9 v9 h9)))<|Bd rfl ((fun j9 v9 h9=>hS0.ag.cell0 (m1 j9 v9 h9)) 0 _ rfl) ?_
 obtain ⟨y1,hy1,h⟩:=bi h
 rcases y1 with J1 | k0
 have h:=exc_e h
 try dsimp only at h
 refine Bu (fst:=[]) (cap:=[]) .plain body50 rfl (e2 rfl rfl) (fun w9 hw9=>balance_counted_c n _ w9 (hS0.hL hL hw9) a0 (Am h0_3 hw9) a1 hy1) (fun Y1 W0=>?_)
 obtain ⟨J0,P1⟩:=hS0.agr W0
 cases h
 exact Ba hp0 Tryz.func57 ⟨J0.ag,rfl⟩
 have h:=exc_o h
 try dsimp only at h
 refine AX (fst:=[]) (cap:=[]) .plain body50 rfl (e2 rfl rfl) (fun w9 hw9=>AU (balance_counted_c n _ w9 (hS0.hL hL hw9) a0 (Am h0_3 hw9) a1 hy1)) rfl (fun Z1 W1 X0 ⟨C1,hu_,t0⟩=>?_)
 subst hu_
 obtain ⟨K0,Q1⟩:=hS0.agr X0
 refine Aj .plain rfl (Av [vI 0,vI 0,vI 0,vN,vI 0] K0) (fun b2 G1 M0 s0=>?_)
 have d1:=Ap t0 s0
 refine AL [vI k0.fRoll.fGroups,vI k0.fRoll.fParties,vI k0.fRoll.fLevels,C1,vI k0.fk] M0 .hd (o5 rfl rfl rfl (AI d1) rfl) (fun c2 d0 u0=>?_)
 refine Aa<|Ac<|Ab (AB rfl (d0.memA .hd))<|Bd rfl ((fun j9 v9 h9=>d0.ag.cell0 (m2 j9 v9 h9)) 0 _ rfl) ?_
 obtain ⟨D1,C0,h⟩:=bi h
 rcases D1 with K1 | E0
 have h:=exc_e h
 try dsimp only at h
 have g1:=Ap t0 (Tt s0 u0)
 refine Bu (fst:=[]) (cap:=[]) .plain body58 rfl (e2 rfl rfl) (fun w9 hw9=>balance_count_totals_c n _ w9 (d0.hL hL hw9) k0 (Am g1 hw9) a2 (d0.km h2_0 hw9) C0) (fun d2 Y0=>?_)
 obtain ⟨P0,R1⟩:=d0.agr Y0
 cases h
 exact Ba hp0 Tryz.func57 ⟨P0.ag,rfl⟩
 have h:=exc_o h
 try dsimp only at h
 have j1:=Ap t0 (Tt s0 u0)
 refine AX (fst:=[]) (cap:=[]) .plain body58 rfl (e2 rfl rfl) (fun w9 hw9=>AU (balance_count_totals_c n _ w9 (d0.hL hL hw9) k0 (Am j1 hw9) a2 (d0.km h2_0 hw9) C0)) rfl (fun g2 X1 Z0 ⟨V1,hu_,v1⟩=>?_)
 subst hu_
 obtain ⟨g0,y0⟩:=d0.agr Z0
 refine Ag rfl<|Aa<|Ac<|Ab (AB rfl (g0.memA .hd))<|Ab (AB rfl (fun j9 v9 h9=>g0.ag.cell0 (m3 j9 v9 h9))) ?_
 obtain ⟨E1,D0,h⟩:=bi h
 rcases E1 with M1 | q0
 have h:=exc_e h
 try dsimp only at h
 have s1:=Tt s0 (Tt u0 y0)
 have k1:=Ap t0 s1
 refine Bu (fst:=[]) (cap:=[]) .plain body51 rfl (e2 rfl rfl) (fun w9 hw9=>balance_count_within_c n _ w9 (g0.hL0 hL hw9) k0 (g0.kd k1 hw9) a3 D0) (fun j2 b1=>?_)
 obtain ⟨Q0,U1⟩:=g0.agr b1
 cases h
 exact Ba hp0 Tryz.func57 ⟨Q0.ag,rfl⟩
 have h:=exc_o h
 try dsimp only at h
 have u1:=Tt s0 (Tt u0 y0)
 have q1:=Ap t0 u1
 refine Bf (.agg #[vI q0.flow,vI q0.fhigh]) body51 rfl (e2 rfl rfl) (fun w9 hw9=>AU (balance_count_within_c n _ w9 (g0.hL0 hL hw9) k0 (g0.kd q1 hw9) a3 D0)) rfl<|Aj .plain rfl (Av [vI 0,vI 0] g0) (fun k2 H1 R0 U0=>?_)
 refine AL [vI q0.flow,vI q0.fhigh] R0 .hd (onesB rfl) (fun q2 j0 V0=>?_)
 refine Aa<|Ak<|AF 19 tb57_4 (by kernel_rfl) (by kernel_rfl) (by kernel_rfl) (fun b0 c0=>?_)
 refine Ah 0 1 b0 rfl c0 (fun _=>Ai rfl) rfl ?_
 obtain ⟨x0,z1,h⟩:=bi h
 have v0:=Ap v1 (Tt U0 V0)
 obtain ⟨F1,I1,z0,A0,I0,x1,B0⟩:=Bm v0 z1
 have c1:I0 = [vI x0]:=x1; subst c1
 refine Ah 1 3 b0 rfl c0 (fun _=>Bo 1 0 rfl z0 rfl rfl A0) rfl<|AD 2 7 524176 b0 rfl c0 (AK rfl (B0 0 _ rfl)) rfl<|Ah 3 15 b0 rfl c0 (fun _=>Ai rfl) rfl ?_
 obtain ⟨F0,A1,h⟩:=bi h
 refine BI 4 31 524160 (vI F0) b0 rfl c0 body59 rfl (e2 rfl rfl) (fun w9 hw9=>balance_least_c n _ w9 (j0.hL0 hL hw9) x0 E0 (j0.kd v0 hw9) A1) rfl<|Ah 5 63 b0 rfl c0 (fun _=>Bh 0 rfl) rfl<|AD 6 127 524160 b0 rfl c0 (AK rfl ((j0.memA .hd) 0 _ rfl)) rfl<|Ah 7 255 b0 rfl c0 (fun _=>FV.geq (i:=F0) (j:=q0.flow) rfl rfl) rfl<|Ah 8 511 b0 rfl c0 (fun _=>Ai rfl) rfl<|RD.ifd (s:=25) rfl h (fun H0 h=>?_) (fun H0 h=>?_)
 refine BA 9 1023 b0 rfl c0 (.yes rfl rfl) (fun _=>Ai rfl) rfl<|BA 10 2047 b0 rfl c0 (.yes rfl rfl) (fun _=>Bo 1 0 rfl z0 rfl rfl A0) rfl<|RD.val (i:=11) (m' :=4095) (W:=466944) (takeC_ok b0 (by kernel_rfl)) rfl c0 (.yes rfl rfl) (AK rfl (B0 0 _ rfl)) rfl<|BA 12 8191 b0 rfl c0 (.yes rfl rfl) (fun _=>Ai rfl) rfl ?_
 obtain ⟨G0,B1,h⟩:=bi h
 refine Bx (i:=13) (m' :=16383) (W:=458752) (takeC_ok b0 (by kernel_rfl)) rfl c0 (v:=vI G0) (fst:=[]) (cap:=[]) (.yes rfl rfl) body60 rfl (e2 rfl rfl) (fun w9 hw9=>balance_greatest_c n _ w9 (j0.hL0 hL hw9) x0 E0 (j0.kd v0 hw9) B1) rfl<|BA 14 32767 b0 rfl c0 (.yes rfl rfl) (fun _=>Bh 1 rfl) rfl<|RD.val (i:=15) (m' :=65535) (W:=458752) (takeC_ok b0 (by kernel_rfl)) rfl c0 (.yes rfl rfl) (AK rfl ((j0.memA .hd) 1 _ rfl)) rfl<|BA 16 131071 b0 rfl c0 (.yes rfl rfl) (fun _=>FV.leq (i:=G0) (j:=q0.fhigh) rfl rfl) rfl<|Ah 17 262143 b0 rfl c0 (fun _=>BB rfl rfl) rfl<|Ah 18 524287 b0 rfl c0 (fun _=>AJ rfl) rfl<|AE (doneD_ok b0 (by kernel_rfl))<|Al rfl<|Bc hb0 Tryz.func57 rfl rfl ?_
 cases h
 exact ⟨j0.ag,fun w9 hw9=>okOf_in rfl⟩
 refine Bk 131071 2 [(9,26),(10,27),(11,28),(12,29),(13,30),(14,31),(15,32),(16,33)] (F:=[(25,false)]) (U:=[]) b0 c0 (.cons rfl .nil) .nil ?_
 dsimp only [offS,List.map]
 refine Ah 17 262143 b0 rfl c0 (fun _=>AV rfl rfl) rfl<|Ah 18 524287 b0 rfl c0 (fun _=>AJ rfl) rfl<|AE (doneD_ok b0 (by kernel_rfl))<|Al rfl<|Bc hb0 Tryz.func57 rfl rfl ?_
 cases h
 exact ⟨j0.ag,fun w9 hw9=>okOf_in rfl⟩
def tb119_6:List (Nat × Nat × Nat):=[(0,131072,32),(0,262144,8),(2,524288,262144),(1,0,131073),(15,0,524290)]
theorem body56:bodyB Tryz.prog 56 = true:=by kernel_rfl
theorem body57:bodyB Tryz.prog 57 = true:=by kernel_rfl
theorem body119:bodyB Tryz.prog 119 = true:=by kernel_rfl
def balance_Within_p (n:Nat) (a0:TRoll) (a1:List Int) (a2:Int) (a3:TShare):Option (Bool × Int):=
  (balance_Within_1_p n a0 a2 a1 a3).bind fun c0=>exc c0 (fun d0=>some (d0,(0:Int))) (fun b0=>some (false,b0.fErrno))
theorem balance_Within_c (n:Nat) (L:List Nat) (w:World) (hL:∀ b ∈ L,b < w.heap.size) (a0:TRoll) {v0_3:Value} (h0_3:Rep.R w L [v0_3] a0.fUnits) (a1:List Int) {v1_0:Value} (h1_0:Rep.R w L [v1_0] a1) (a2:Int) (a3:TShare)  {r:Bool × Int} (h:balance_Within_p n a0 a1 a2 a3 = some r) :
    Calls Tryz.prog 15 #[.agg #[vI a0.fGroups,vI a0.fParties,vI a0.fLevels,v0_3],v1_0,vI a2,.agg ((cs_TShare a3)).toArray] w (Gives w fun _ u=>u = .tuple #[.bool r.1,vI r.2]):=by
 unfold balance_Within_p at h
 have hS0:=Ax w
 refine AA Tryz.func15 rfl rfl rfl (fun _ cs0 hb0=>?_)
 refine Ac<|Aj .plain rfl (Aw hS0 rfl rfl) (fun M1 g0 E0 B1=>?_)
 have k1:=AM h1_0 E0
 refine Aj .plain rfl (Aw E0 rfl (Rep.c1 k1)) (fun U1 j0 Q0 C1=>?_)
 refine Aj .plain rfl (Aw Q0 rfl rfl) (fun V1 p0 R0 D1=>?_)
 refine Aj .plain rfl (Aw R0 rfl rfl) (fun W1 q0 U0 E1=>?_)
 refine Ag rfl<|Ag rfl<|Aa<|Ac<|Ab (BG (vs:=[]) (us:=[vP g0,vP p0,vP j0,vP q0]) evs_nil (e4 rfl rfl rfl rfl))<|Bw (fst:=[]) (cap:=[]) (vs:=[.func (.func 57) #[] #[vP g0,vP p0,vP j0,vP q0]]) .plain body56 Tryz.func56 rfl rfl rfl rfl (e1 rfl) rfl (fun v1 F0 K1=>?_)
 refine Ac<|Aj .plain rfl (Av [.bool false] U0) (fun X1 s0 V0 F1=>?_)
 refine Aj .plain rfl (Av [vI 0] V0) (fun Y1 d0 b0 G1=>?_)
 refine Aa<|Ac<|Ab (BG (vs:=[]) (us:=[vP s0,vP d0]) evs_nil (e2 rfl rfl))<|RG.defer (fst:=[]) (cap:=[vP s0,vP d0]) (vs:=[]) rfl .plain rfl evs_nil<|Aa<|Ac<|Ae rfl ?_
 obtain ⟨s1,H0,h⟩:=bi h
 rcases s1 with t0 | C0
 have h:=exc_e h
 try dsimp only at h
 refine Bu (fst:=[]) (cap:=[vP g0,vP p0,vP j0,vP q0]) .plain body57 rfl evs_nil (fun w9 hw9=>balance_Within_1_c n _ w9 (b0.hL0 hL hw9) a0 (b0.k0 h0_3 hw9) (fun j9 v9 h9=>hw9.cell0 ((b0.memA (.tl (.tl (.tl (.tl (.tl .hd)))))) j9 v9 h9)) a2 (fun j9 v9 h9=>hw9.cell0 ((b0.memA (.tl (.tl (.tl .hd)))) j9 v9 h9)) a1 (b0.k0 h1_0 hw9) (fun j9 v9 h9=>hw9.cell0 ((b0.memA (.tl (.tl (.tl (.tl .hd))))) j9 v9 h9)) a3 (fun j9 v9 h9=>hw9.cell0 ((b0.memA (.tl (.tl .hd))) j9 v9 h9)) H0) (fun Z1 b1=>?_)
 obtain ⟨W0,H1⟩:=b0.agr b1
 refine PN.callD (vs:=[]) (cap:=[vP s0,vP d0]) body119 Tryz.func119 rfl rfl rfl (fun u1 d1 j1=>?_)
 refine Ac<|RG.recover1 .plain d1 rfl<|Ag rfl<|Aa<|Ac<|Ae rfl<|Ab (FV.neqI Tryz.underlying20 rfl rfl)<|Aa<|Bp rfl<|Ac<|Ae rfl<|Ab (FV.assertT (by kernel_rfl) rfl)<|Ae rfl<|Ab (Af rfl rfl)<|Ab (Af rfl rfl)<|Aj .plain rfl (Av [vI 0] W0) (fun b2 I0 X0 I1=>?_)
 refine AL [vI t0.fErrno] X0 .hd (o1 rfl) (fun p1 y0 J1=>?_)
 refine Ag rfl<|Aa<|Ak<|Ac<|Ae rfl<|Ab (Bz rfl)<|Aa<|Bv rfl<|Aq<|Ac<|Ag rfl<|Aa<|AF 3 tb119_6 (by kernel_rfl) (by kernel_rfl) (by kernel_rfl) (fun c0 A0=>?_)
 refine Ah 0 1 c0 rfl A0 (fun _=>Ai rfl) rfl<|Ah 1 3 c0 rfl A0 (fun _=>Bh 0 rfl) rfl<|RD.meet (α:=Unit) (fun ()=>[(1,vP d0),(19,vI t0.fErrno)]) (fun () B0=>St w B0 [.cells d0 [vI 0] 51,.cells s0 [.bool false] 4,.cells q0 (cs_TShare a3) 37,.cells p0 [vI a2] 3,.cells j0 [v1_0] 46,.cells g0 [vI a0.fGroups,vI a0.fParties,vI a0.fLevels,v0_3] 44]∧Tr p1 [.cells I0 [vI t0.fErrno] 140,.cells d0 [vI 0] 51,.cells s0 [.bool false] 4,.cells q0 (cs_TShare a3) 37,.cells p0 [vI a2] 3,.cells j0 [v1_0] 46,.cells g0 [vI a0.fGroups,vI a0.fParties,vI a0.fLevels,v0_3] 44] B0 [.cells d0 [vI 0] 51,.cells s0 [.bool false] 4,.cells q0 (cs_TShare a3) 37,.cells p0 [vI a2] 3,.cells j0 [v1_0] 46,.cells g0 [vI a0.fGroups,vI a0.fParties,vI a0.fLevels,v0_3] 44]) 1 15 ?_ ?_
 rintro ⟨⟩ B0 ⟨J0,x1⟩
 try dsimp only
 refine Bt 4 31 c0 rfl rfl .plain (Ay (news:=[vI t0.fErrno]) J0 .hd rfl rfl rfl rfl rfl rfl (o1 rfl)) (fun P1 v0 y1=>?_)
 refine AE (doneD_ok c0 (by kernel_rfl))<|MX.fin rfl<|RT.leaveD1 j1 Tryz.func119 rfl .nil<|Ao (u:=.tuple #[.bool false,vI t0.fErrno]) F0 Tryz.func56 rfl (.cons (.one (by kernel_rfl) rfl ((v0.memA (.tl .hd)) 0 _ rfl)) (.cons (.one (by kernel_rfl) rfl ((v0.memA .hd) 0 _ rfl)) .nil)) rfl<|Ab (Af rfl rfl)<|Ab (Af rfl rfl)<|Ag rfl<|Ag rfl<|Aa<|Al rfl<|Ao hb0 Tryz.func15 rfl (.cons (.tmp rfl) (.cons (.tmp rfl) .nil)) rfl ?_
 cases h
 exact v0.gv
 intro D0
 refine RD.each [2,3] (readyD_ok c0 (by kernel_rfl)) ⟨?_,?_,trivial⟩
 refine RO.val (m' :=7) (stepC_ok c0 (by kernel_rfl)) rfl .plain rfl (AK rfl ((y0.memA .hd) 0 _ rfl))<|Bt 3 15 c0 rfl rfl .plain (Ay (news:=[.bool false]) y0 (.tl (.tl .hd)) rfl rfl rfl rfl rfl rfl (o1 rfl)) (fun q1 u0 z0=>?_)
 obtain ⟨K0,Y0⟩:=AH u0 (.one (.tl .hd) (.one (.tl .hd) (.one (.tl .hd) (.one (.tl .hd) (.one (.tl .hd) (.one (.tl .hd) .done))))))
 exact D0 () _ _ ⟨rfl,rfl,trivial⟩ ⟨K0,(Tt z0 Y0)⟩
 refine RO.now (m' :=11) (stepC_ok c0 (by kernel_rfl)) rfl rfl .plain (Ay (news:=[.bool false]) y0 (.tl (.tl .hd)) rfl rfl rfl rfl rfl rfl (o1 rfl)) (fun q1 u0 z0=>?_)
 refine AD 2 15 16 c0 rfl A0 (AK rfl ((u0.memA .hd) 0 _ rfl)) rfl ?_
 obtain ⟨M0,Z0⟩:=AH u0 (.one (.tl .hd) (.one (.tl .hd) (.one (.tl .hd) (.one (.tl .hd) (.one (.tl .hd) (.one (.tl .hd) .done))))))
 exact D0 () _ _ ⟨rfl,rfl,trivial⟩ ⟨M0,(Tt z0 Z0)⟩
 have h:=exc_o h
 try dsimp only at h
 refine RG.callq' (v:=.bool C0) (fst:=[]) (cap:=[vP g0,vP p0,vP j0,vP q0]) .plain body57 rfl evs_nil (fun w9 hw9=>AU (balance_Within_1_c n _ w9 (b0.hL0 hL hw9) a0 (b0.k0 h0_3 hw9) (fun j9 v9 h9=>hw9.cell0 ((b0.memA (.tl (.tl (.tl (.tl (.tl .hd)))))) j9 v9 h9)) a2 (fun j9 v9 h9=>hw9.cell0 ((b0.memA (.tl (.tl (.tl .hd)))) j9 v9 h9)) a1 (b0.k0 h1_0 hw9) (fun j9 v9 h9=>hw9.cell0 ((b0.memA (.tl (.tl (.tl (.tl .hd))))) j9 v9 h9)) a3 (fun j9 v9 h9=>hw9.cell0 ((b0.memA (.tl (.tl .hd))) j9 v9 h9)) H0)) rfl<|AL [.bool C0] b0 (.tl .hd) (o1 rfl) (fun Q1 P0 z1=>?_)
 refine AL [vI 0] P0 .hd (o1 rfl) (fun R1 x0 A1=>?_)
 refine Aa<|Al rfl<|RT.callD (vs:=[]) (cap:=[vP s0,vP d0]) body119 Tryz.func119 rfl rfl rfl (fun t1 G0 g1=>?_)
 refine Ac<|RG.recover0 .plain G0 rfl<|Ag rfl<|Aa<|Ac<|Ae rfl<|Ab (FV.neqI0 Tryz.underlying20 rfl rfl)<|Aa<|Bv rfl<|Aq<|MX.fin rfl<|RT.leaveD0 G0 g1 Tryz.func119 rfl .nil<|Ao (u:=.tuple #[.bool C0,vI 0]) F0 Tryz.func56 rfl (.cons (.one (by kernel_rfl) rfl ((x0.memA (.tl .hd)) 0 _ rfl)) (.cons (.one (by kernel_rfl) rfl ((x0.memA .hd) 0 _ rfl)) .nil)) rfl<|Ab (Af rfl rfl)<|Ab (Af rfl rfl)<|Ag rfl<|Ag rfl<|Aa<|Al rfl<|Ao hb0 Tryz.func15 rfl (.cons (.tmp rfl) (.cons (.tmp rfl) .nil)) rfl ?_
 cases h
 exact x0.gv
def tb67_1:List (Nat × Nat × Nat):=[(0,16,1),(0,32,2),(3,64,48),(0,128,4),(12,256,192),(31,8,256)]
def balance_Totals_1_p (n:Nat) (a0:TRoll) (a1:Int) (a2:List Int):Option (Except Tbroken (List Int)):=
  (balance_counted_p n a0 a1).bind fun y3=>exc y3 (fun d0=>(balance_count_totals_p n d0 a2).bind fun g0=>exc g0 (fun j0=>some (.ok j0)) (fun c0=>some (.error c0))) (fun b0=>some (.error b0))
theorem balance_Totals_1_c (n:Nat) (L:List Nat) (w:World) (hL:∀ b ∈ L,b < w.heap.size) (a0:TRoll) {v0_3:Value} (h0_3:Rep.R w L [v0_3] a0.fUnits) {p0:Nat} (m0:∀ j9 v9,([vI a0.fGroups,vI a0.fParties,vI a0.fLevels,v0_3]:List Value)[j9]? = some v9 → w.cell? ((⟨p0,0,none⟩:Addr).add j9) = some v9) (a1:Int) {p1:Nat} (m1:∀ j9 v9,([vI a1]:List Value)[j9]? = some v9 → w.cell? ((⟨p1,0,none⟩:Addr).add j9) = some v9) (a2:List Int) {v2_0:Value} (h2_0:Rep.R w L [v2_0] a2) {p2:Nat} (m2:∀ j9 v9,([v2_0]:List Value)[j9]? = some v9 → w.cell? ((⟨p2,0,none⟩:Addr).add j9) = some v9)  {r:Except Tbroken (List Int)} (h:balance_Totals_1_p n a0 a1 a2 = some r) :
    Calls Tryz.prog 67 #[.pointer (some ⟨p0,0,none⟩),.pointer (some ⟨p1,0,none⟩),.pointer (some ⟨p2,0,none⟩)] w (PGives w (fun (y:List Int) w' u=>∃ v0_0:Value,u = v0_0∧Rep.R w' L [v0_0] y) (fun e=>.iface 140 (.agg #[vI e.fErrno])) r):=by
 unfold balance_Totals_1_p at h
 have hS0:=Ax w
 refine MX.startP Tryz.func67 rfl rfl rfl (fun _ cs0 hb0 hp0=>?_)
 refine Ac<|Ag rfl<|Aa<|Ak<|AF 6 tb67_1 (by kernel_rfl) (by kernel_rfl) (by kernel_rfl) (fun kt1 kp2=>?_)
 refine AD 0 1 52 kt1 rfl kp2 (AB rfl (fun j9 v9 h9=>hS0.ag.cell0 (m0 j9 v9 h9))) rfl<|AD 1 3 52 kt1 rfl kp2 (AK rfl ((fun j9 v9 h9=>hS0.ag.cell0 (m1 j9 v9 h9)) 0 _ rfl)) rfl ?_
 obtain ⟨y3,hy3,h⟩:=bi h
 rcases y3 with A0 | j0
 have h:=exc_e h
 try dsimp only at h
 refine AD 3 11 48 kt1 rfl kp2 (AK rfl ((fun j9 v9 h9=>hS0.ag.cell0 (m2 j9 v9 h9)) 0 _ rfl)) rfl<|Bs (i:=2) (readyD_ok kt1 (by kernel_rfl)) (RO.callE (fst:=[]) (cap:=[]) rfl .plain body50 rfl (e2 rfl rfl) (fun w9 hw9=>balance_counted_c n _ w9 (hS0.hL hL hw9) a0 (Am h0_3 hw9) a1 hy3) (fun J0 s0=>?_))
 obtain ⟨k0,C0⟩:=hS0.agr s0
 cases h
 exact Ba hp0 Tryz.func67 ⟨k0.ag,rfl⟩
 have h:=exc_o h
 try dsimp only at h
 refine AD 3 11 48 kt1 rfl kp2 (AK rfl ((fun j9 v9 h9=>hS0.ag.cell0 (m2 j9 v9 h9)) 0 _ rfl)) rfl<|Bi 2 15 kt1 rfl .plain body50 rfl (e2 rfl rfl) (fun w9 hw9=>AU (balance_counted_c n _ w9 (hS0.hL hL hw9) a0 (Am h0_3 hw9) a1 hy3)) rfl (fun K0 I0 t0 ⟨G0,hu_,d0⟩=>?_)
 subst hu_
 obtain ⟨b0,D0⟩:=hS0.agr t0
 obtain ⟨z0,g0,h⟩:=bi h
 rcases z0 with B0 | Q0
 have h:=exc_e h
 try dsimp only at h
 refine Bs (i:=4) (readyD_ok kt1 (by kernel_rfl)) (RO.callE (fst:=[]) (cap:=[]) rfl .plain body58 rfl (e2 rfl rfl) (fun w9 hw9=>balance_count_totals_c n _ w9 (b0.hL hL hw9) j0 (Am d0 hw9) a2 (b0.km h2_0 hw9) g0) (fun M0 u0=>?_))
 obtain ⟨q0,E0⟩:=b0.agr u0
 cases h
 exact Ba hp0 Tryz.func67 ⟨q0.ag,rfl⟩
 have h:=exc_o h
 try dsimp only at h
 refine Bi 4 31 kt1 rfl .plain body58 rfl (e2 rfl rfl) (fun w9 hw9=>AU (balance_count_totals_c n _ w9 (b0.hL hL hw9) j0 (Am d0 hw9) a2 (b0.km h2_0 hw9) g0)) rfl (fun P0 y0 v0 ⟨H0,hu_,x0⟩=>?_)
 subst hu_
 obtain ⟨c0,F0⟩:=b0.agr v0
 refine Ah 5 63 kt1 rfl kp2 (fun _=>AJ rfl) rfl<|AE (doneD_ok kt1 (by kernel_rfl))<|Al rfl<|Bc hb0 Tryz.func67 rfl rfl ?_
 cases h
 exact ⟨c0.ag,fun w9 hw9=>okOf_in ⟨y0,rfl,c0.kd x0 hw9⟩⟩
def tb122_6:List (Nat × Nat × Nat):=[(0,131072,32),(0,262144,8),(2,524288,262144),(1,0,131073),(15,0,524290)]
theorem body66:bodyB Tryz.prog 66 = true:=by kernel_rfl
theorem body67:bodyB Tryz.prog 67 = true:=by kernel_rfl
theorem body122:bodyB Tryz.prog 122 = true:=by kernel_rfl
def balance_Totals_p (n:Nat) (a0:TRoll) (a1:List Int) (a2:Int):Option ((List Int) × Int):=
  (balance_Totals_1_p n a0 a2 a1).bind fun c0=>exc c0 (fun d0=>some (d0,(0:Int))) (fun b0=>some (([]:List Int),b0.fErrno))
theorem balance_Totals_c (n:Nat) (L:List Nat) (w:World) (hL:∀ b ∈ L,b < w.heap.size) (a0:TRoll) {v0_3:Value} (h0_3:Rep.R w L [v0_3] a0.fUnits) (a1:List Int) {v1_0:Value} (h1_0:Rep.R w L [v1_0] a1) (a2:Int)  {r:(List Int) × Int} (h:balance_Totals_p n a0 a1 a2 = some r) :
    Calls Tryz.prog 19 #[.agg #[vI a0.fGroups,vI a0.fParties,vI a0.fLevels,v0_3],v1_0,vI a2] w (Gives w fun w' u=>∃ v0_0:Value,u = .tuple #[v0_0,vI r.2]∧Rep.R w' L [v0_0] r.1):=by
 unfold balance_Totals_p at h
 have hS0:=Ax w
 refine AA Tryz.func19 rfl rfl rfl (fun _ cs0 hb0=>?_)
 refine Ac<|Aj .plain rfl (Aw hS0 rfl rfl) (fun R1 g0 D0 E1=>?_)
 have s1:=AM h1_0 D0
 refine Aj .plain rfl (Aw D0 rfl (Rep.c1 s1)) (fun Y1 j0 Q0 F1=>?_)
 refine Aj .plain rfl (Aw Q0 rfl rfl) (fun Z1 k0 R0 G1=>?_)
 refine Ag rfl<|Ag rfl<|Aa<|Ac<|Ab (BG (vs:=[]) (us:=[vP g0,vP k0,vP j0]) evs_nil (e3 rfl rfl rfl))<|Bw (fst:=[]) (cap:=[]) (vs:=[.func (.func 67) #[] #[vP g0,vP k0,vP j0]]) .plain body66 Tryz.func66 rfl rfl rfl rfl (e1 rfl) rfl (fun A1 E0 P1=>?_)
 refine Ac<|Aj .plain rfl (Av [vN] R0) (fun b2 p0 U0 H1=>?_)
 refine Aj .plain rfl (Av [vI 0] U0) (fun c2 d0 b0 I1=>?_)
 refine Aa<|Ac<|Ab (BG (vs:=[]) (us:=[vP p0,vP d0]) evs_nil (e2 rfl rfl))<|RG.defer (fst:=[]) (cap:=[vP p0,vP d0]) (vs:=[]) rfl .plain rfl evs_nil<|Aa<|Ac<|Ae rfl ?_
 obtain ⟨x1,G0,h⟩:=bi h
 rcases x1 with q0 | j2
 have h:=exc_e h
 try dsimp only at h
 refine Bu (fst:=[]) (cap:=[vP g0,vP k0,vP j0]) .plain body67 rfl evs_nil (fun w9 hw9=>balance_Totals_1_c n _ w9 (b0.hL hL hw9) a0 (b0.km h0_3 hw9) (fun j9 v9 h9=>hw9.cell0 ((b0.memA (.tl (.tl (.tl (.tl .hd))))) j9 v9 h9)) a2 (fun j9 v9 h9=>hw9.cell0 ((b0.memA (.tl (.tl .hd))) j9 v9 h9)) a1 (b0.km h1_0 hw9) (fun j9 v9 h9=>hw9.cell0 ((b0.memA (.tl (.tl (.tl .hd)))) j9 v9 h9)) G0) (fun d2 g1=>?_)
 obtain ⟨V0,J1⟩:=b0.agr g1
 refine PN.callD (vs:=[]) (cap:=[vP p0,vP d0]) body122 Tryz.func122 rfl rfl rfl (fun z1 j1 p1=>?_)
 refine Ac<|RG.recover1 .plain j1 rfl<|Ag rfl<|Aa<|Ac<|Ae rfl<|Ab (FV.neqI Tryz.underlying20 rfl rfl)<|Aa<|Bp rfl<|Ac<|Ae rfl<|Ab (FV.assertT (by kernel_rfl) rfl)<|Ae rfl<|Ab (Af rfl rfl)<|Ab (Af rfl rfl)<|Aj .plain rfl (Av [vI 0] V0) (fun g2 H0 W0 K1=>?_)
 refine AL [vI q0.fErrno] W0 .hd (o1 rfl) (fun u1 v0 M1=>?_)
 refine Ag rfl<|Aa<|Ak<|Ac<|Ae rfl<|Ab (Bz rfl)<|Aa<|Bv rfl<|Aq<|Ac<|Ag rfl<|Aa<|AF 3 tb122_6 (by kernel_rfl) (by kernel_rfl) (by kernel_rfl) (fun c0 z0=>?_)
 refine Ah 0 1 c0 rfl z0 (fun _=>Ai rfl) rfl<|Ah 1 3 c0 rfl z0 (fun _=>Bh 0 rfl) rfl<|RD.meet (α:=Unit) (fun ()=>[(1,vP d0),(19,vI q0.fErrno)]) (fun () B0=>St w B0 [.cells d0 [vI 0] 51,.cells p0 [vN] 45,.cells k0 [vI a2] 3,.cells j0 [v1_0] 46,.cells g0 [vI a0.fGroups,vI a0.fParties,vI a0.fLevels,v0_3] 44]∧Tr u1 [.cells H0 [vI q0.fErrno] 140,.cells d0 [vI 0] 51,.cells p0 [vN] 45,.cells k0 [vI a2] 3,.cells j0 [v1_0] 46,.cells g0 [vI a0.fGroups,vI a0.fParties,vI a0.fLevels,v0_3] 44] B0 [.cells d0 [vI 0] 51,.cells p0 [vN] 45,.cells k0 [vI a2] 3,.cells j0 [v1_0] 46,.cells g0 [vI a0.fGroups,vI a0.fParties,vI a0.fLevels,v0_3] 44]) 1 15 ?_ ?_
 rintro ⟨⟩ B0 ⟨I0,B1⟩
 try dsimp only
 refine Bt 4 31 c0 rfl rfl .plain (Ay (news:=[vI q0.fErrno]) I0 .hd rfl rfl rfl rfl rfl rfl (o1 rfl)) (fun U1 s0 C1=>?_)
 refine AE (doneD_ok c0 (by kernel_rfl))<|MX.fin rfl<|RT.leaveD1 p1 Tryz.func122 rfl .nil<|Ao (u:=.tuple #[vN,vI q0.fErrno]) E0 Tryz.func66 rfl (.cons (.one (by kernel_rfl) rfl ((s0.memA (.tl .hd)) 0 _ rfl)) (.cons (.one (by kernel_rfl) rfl ((s0.memA .hd) 0 _ rfl)) .nil)) rfl<|Ab (Af rfl rfl)<|Ab (Af rfl rfl)<|Ag rfl<|Ag rfl<|Aa<|Al rfl ?_
 have t1:=Rep.nilAt (α:=Int) s0 L
 refine Ao hb0 Tryz.func19 rfl (.cons (.tmp rfl) (.cons (.tmp rfl) .nil)) rfl ?_
 cases h
 exact ⟨s0.ag,fun w9 hw9=>⟨vN,rfl,s0.kd t1 hw9⟩⟩
 intro C0
 refine RD.each [2,3] (readyD_ok c0 (by kernel_rfl)) ⟨?_,?_,trivial⟩
 refine RO.val (m' :=7) (stepC_ok c0 (by kernel_rfl)) rfl .plain rfl (AK rfl ((v0.memA .hd) 0 _ rfl))<|Bt 3 15 c0 rfl rfl .plain (Ay (news:=[vN]) v0 (.tl (.tl .hd)) rfl rfl rfl rfl rfl rfl (o1 rfl)) (fun v1 u0 x0=>?_)
 obtain ⟨J0,X0⟩:=AH u0 (.one (.tl .hd) (.one (.tl .hd) (.one (.tl .hd) (.one (.tl .hd) (.one (.tl .hd) .done)))))
 exact C0 () _ _ ⟨rfl,rfl,trivial⟩ ⟨J0,(Tt x0 X0)⟩
 refine RO.now (m' :=11) (stepC_ok c0 (by kernel_rfl)) rfl rfl .plain (Ay (news:=[vN]) v0 (.tl (.tl .hd)) rfl rfl rfl rfl rfl rfl (o1 rfl)) (fun v1 u0 x0=>?_)
 refine AD 2 15 16 c0 rfl z0 (AK rfl ((u0.memA .hd) 0 _ rfl)) rfl ?_
 obtain ⟨K0,Y0⟩:=AH u0 (.one (.tl .hd) (.one (.tl .hd) (.one (.tl .hd) (.one (.tl .hd) (.one (.tl .hd) .done)))))
 exact C0 () _ _ ⟨rfl,rfl,trivial⟩ ⟨K0,(Tt x0 Y0)⟩
 have h:=exc_o h
 try dsimp only at h
 refine AX (fst:=[]) (cap:=[vP g0,vP k0,vP j0]) .plain body67 rfl evs_nil (fun w9 hw9=>AU (balance_Totals_1_c n _ w9 (b0.hL hL hw9) a0 (b0.km h0_3 hw9) (fun j9 v9 h9=>hw9.cell0 ((b0.memA (.tl (.tl (.tl (.tl .hd))))) j9 v9 h9)) a2 (fun j9 v9 h9=>hw9.cell0 ((b0.memA (.tl (.tl .hd))) j9 v9 h9)) a1 (b0.km h1_0 hw9) (fun j9 v9 h9=>hw9.cell0 ((b0.memA (.tl (.tl (.tl .hd)))) j9 v9 h9)) G0)) rfl (fun V1 A0 d1 ⟨Q1,hu_,y0⟩=>?_)
 subst hu_
 obtain ⟨M0,D1⟩:=b0.agr d1
 refine RG.now .plain (Ay (news:=[A0]) M0 (.tl .hd) rfl rfl rfl (Rep.c1 y0) rfl rfl (o1 (AI y0))) (fun W1 P0 Z0=>?_)
 refine AL [vI 0] P0 .hd (o1 rfl) (fun X1 t0 b1=>?_)
 refine Aa<|Al rfl<|RT.callD (vs:=[]) (cap:=[vP p0,vP d0]) body122 Tryz.func122 rfl rfl rfl (fun y1 F0 k1=>?_)
 refine Ac<|RG.recover0 .plain F0 rfl<|Ag rfl<|Aa<|Ac<|Ae rfl<|Ab (FV.neqI0 Tryz.underlying20 rfl rfl)<|Aa<|Bv rfl<|Aq<|MX.fin rfl<|RT.leaveD0 F0 k1 Tryz.func122 rfl .nil<|Ao (u:=.tuple #[A0,vI 0]) E0 Tryz.func66 rfl (.cons (.one (by kernel_rfl) rfl ((t0.memA (.tl .hd)) 0 _ rfl)) (.cons (.one (by kernel_rfl) rfl ((t0.memA .hd) 0 _ rfl)) .nil)) rfl<|Ab (Af rfl rfl)<|Ab (Af rfl rfl)<|Ag rfl<|Ag rfl<|Aa<|Al rfl<|Ao hb0 Tryz.func19 rfl (.cons (.tmp rfl) (.cons (.tmp rfl) .nil)) rfl ?_
 cases h
 have q1:=Ap y0 (Tt Z0 b1)
 exact ⟨t0.ag,fun w9 hw9=>⟨A0,rfl,t0.kd q1 hw9⟩⟩
def tb69_1:List (Nat × Nat × Nat):=[(0,8,1),(0,16,2),(3,32,24),(4,64,32),(0,128,2),(24,256,192),(63,0,260)]
def balance_Ideal_1_p (n:Nat) (a0:TRoll) (a1:Int):Option (Except Tbroken TShare):=
  (balance_counted_p n a0 a1).bind fun d0=>exc d0 (fun g0=>(balance_count_people_p n g0).bind fun j0=>(balance_of_p n j0 a1).bind fun k0=>exc k0 (fun p0=>some (.ok p0)) (fun c0=>some (.error c0))) (fun b0=>some (.error b0))
theorem balance_Ideal_1_c (n:Nat) (L:List Nat) (w:World) (hL:∀ b ∈ L,b < w.heap.size) (a0:TRoll) {v0_3:Value} (h0_3:Rep.R w L [v0_3] a0.fUnits) {p0:Nat} (m0:∀ j9 v9,([vI a0.fGroups,vI a0.fParties,vI a0.fLevels,v0_3]:List Value)[j9]? = some v9 → w.cell? ((⟨p0,0,none⟩:Addr).add j9) = some v9) (a1:Int) {p1:Nat} (m1:∀ j9 v9,([vI a1]:List Value)[j9]? = some v9 → w.cell? ((⟨p1,0,none⟩:Addr).add j9) = some v9)  {r:Except Tbroken TShare} (h:balance_Ideal_1_p n a0 a1 = some r) :
    Calls Tryz.prog 69 #[.pointer (some ⟨p0,0,none⟩),.pointer (some ⟨p1,0,none⟩)] w (PGives w (fun (y:TShare) _ u=>u = .agg ((cs_TShare y)).toArray) (fun e=>.iface 140 (.agg #[vI e.fErrno])) r):=by
 unfold balance_Ideal_1_p at h
 have hS0:=Ax w
 refine MX.startP Tryz.func69 rfl rfl rfl (fun _ cs0 hb0 hp0=>?_)
 refine Ac<|Aj .plain rfl (Av zL hS0) (fun U0 F0 c0 I0=>?_)
 refine Aa<|Ak<|AF 6 tb69_1 (by kernel_rfl) (by kernel_rfl) (by kernel_rfl) (fun b0 g0=>?_)
 refine AD 0 1 108 b0 rfl g0 (AB rfl (fun j9 v9 h9=>c0.ag.cell0 (m0 j9 v9 h9))) rfl<|AD 1 3 108 b0 rfl g0 (AK rfl ((fun j9 v9 h9=>c0.ag.cell0 (m1 j9 v9 h9)) 0 _ rfl)) rfl ?_
 obtain ⟨C0,s0,h⟩:=bi h
 rcases C0 with G0 | D0
 have h:=exc_e h
 try dsimp only at h
 refine AD 4 19 96 b0 rfl g0 (AK rfl ((fun j9 v9 h9=>c0.ag.cell0 (m1 j9 v9 h9)) 0 _ rfl)) rfl<|Bs (i:=2) (readyD_ok b0 (by kernel_rfl)) (RO.callE (fst:=[]) (cap:=[]) rfl .plain body50 rfl (e2 rfl rfl) (fun w9 hw9=>balance_counted_c n _ w9 (c0.hL hL hw9) a0 (c0.km h0_3 hw9) a1 s0) (fun V0 x0=>?_))
 obtain ⟨u0,J0⟩:=c0.agr x0
 cases h
 exact Ba hp0 Tryz.func69 ⟨u0.ag,rfl⟩
 have h:=exc_o h
 try dsimp only at h
 refine AD 4 19 96 b0 rfl g0 (AK rfl ((fun j9 v9 h9=>c0.ag.cell0 (m1 j9 v9 h9)) 0 _ rfl)) rfl<|Bi 2 23 b0 rfl .plain body50 rfl (e2 rfl rfl) (fun w9 hw9=>AU (balance_counted_c n _ w9 (c0.hL hL hw9) a0 (c0.km h0_3 hw9) a1 s0)) rfl (fun W0 R0 y0 ⟨Q0,hu_,A0⟩=>?_)
 subst hu_
 obtain ⟨d0,K0⟩:=c0.agr y0
 obtain ⟨j0,B0,h⟩:=bi h
 refine BI 3 31 96 (vI j0) b0 rfl g0 body71 rfl (e1 rfl) (fun w9 hw9=>balance_count_people_c n _ w9 (d0.hL0 hL hw9) D0 (d0.kd A0 hw9) B0) rfl ?_
 obtain ⟨E0,t0,h⟩:=bi h
 rcases E0 with H0 | k0
 have h:=exc_e h
 try dsimp only at h
 refine Bs (i:=5) (readyD_ok b0 (by kernel_rfl)) (RO.callE (fst:=[]) (cap:=[]) rfl .plain body70 rfl (e2 rfl rfl) (fun w9 hw9=>balance_of_c n _ w9 (d0.hL0 hL hw9) j0 a1 t0) (fun X0 z0=>?_))
 obtain ⟨v0,M0⟩:=d0.agr z0
 cases h
 exact Ba hp0 Tryz.func69 ⟨v0.ag,rfl⟩
 have h:=exc_o h
 try dsimp only at h
 refine BI 5 63 64 (.agg ((cs_TShare k0)).toArray) b0 rfl g0 body70 rfl (e2 rfl rfl) (fun w9 hw9=>AU (balance_of_c n _ w9 (d0.hL0 hL hw9) j0 a1 t0)) rfl<|Bt 6 127 b0 rfl rfl .plain (Ay (news:=(cs_TShare k0)) d0 .hd rfl rfl rfl rfl rfl rfl (onesB rfl)) (fun Y0 q0 P0=>?_)
 refine AE (doneD_ok b0 (by kernel_rfl))<|Al rfl<|Ao hb0 Tryz.func69 rfl (.cons (.many (cs:=(cs_TShare k0)) (by kernel_rfl) rfl (q0.memA .hd)) .nil) rfl ?_
 cases h
 exact ⟨q0.ag,fun w9 hw9=>okOf_in rfl⟩
def tb123_6:List (Nat × Nat × Nat):=[(0,131072,32),(0,262144,8),(2,524288,262144),(1,0,131073),(15,0,524290)]
theorem body68:bodyB Tryz.prog 68 = true:=by kernel_rfl
theorem body69:bodyB Tryz.prog 69 = true:=by kernel_rfl
theorem body123:bodyB Tryz.prog 123 = true:=by kernel_rfl
def balance_Ideal_p (n:Nat) (a0:TRoll) (a1:Int):Option (TShare × Int):=
  (balance_Ideal_1_p n a0 a1).bind fun c0=>exc c0 (fun d0=>some (d0,(0:Int))) (fun b0=>some ((⟨((0:UInt64),(0:UInt64),(0:UInt64),(0:UInt64),(0:UInt64),(0:UInt64),(0:UInt64),(0:UInt64)),((0:UInt64),(0:UInt64),(0:UInt64),(0:UInt64),(0:UInt64),(0:UInt64),(0:UInt64),(0:UInt64))⟩:TShare),b0.fErrno))
theorem balance_Ideal_c (n:Nat) (L:List Nat) (w:World) (hL:∀ b ∈ L,b < w.heap.size) (a0:TRoll) {v0_3:Value} (h0_3:Rep.R w L [v0_3] a0.fUnits) (a1:Int)  {r:TShare × Int} (h:balance_Ideal_p n a0 a1 = some r) :
    Calls Tryz.prog 20 #[.agg #[vI a0.fGroups,vI a0.fParties,vI a0.fLevels,v0_3],vI a1] w (Gives w fun _ u=>u = .tuple #[.agg ((cs_TShare r.1)).toArray,vI r.2]):=by
 unfold balance_Ideal_p at h
 have hS0:=Ax w
 refine AA Tryz.func20 rfl rfl rfl (fun _ cs0 hb0=>?_)
 refine Ac<|Aj .plain rfl (Aw hS0 rfl rfl) (fun Q1 g0 K0 D1=>?_)
 refine Aj .plain rfl (Aw K0 rfl rfl) (fun Y1 j0 U0 E1=>?_)
 refine Aj .plain rfl (Av zL U0) (fun Z1 v0 V0 F1=>?_)
 refine Ag rfl<|Aa<|Ac<|Ab (BG (vs:=[]) (us:=[vP g0,vP j0]) evs_nil (e2 rfl rfl))<|Bw (fst:=[]) (cap:=[]) (vs:=[.func (.func 69) #[] #[vP g0,vP j0]]) .plain body68 Tryz.func68 rfl rfl rfl rfl (e1 rfl) rfl (fun v1 F0 P1=>?_)
 refine Ac<|Aj .plain rfl (Av zL V0) (fun b2 p0 W0 G1=>?_)
 refine Aj .plain rfl (Av [vI 0] W0) (fun c2 d0 b0 H1=>?_)
 refine Aa<|Ac<|Ab (BG (vs:=[]) (us:=[vP p0,vP d0]) evs_nil (e2 rfl rfl))<|RG.defer (fst:=[]) (cap:=[vP p0,vP d0]) (vs:=[]) rfl .plain rfl evs_nil<|Aa<|Ac<|Ae rfl ?_
 obtain ⟨s1,H0,h⟩:=bi h
 rcases s1 with s0 | q0
 have h:=exc_e h
 try dsimp only at h
 refine Bu (fst:=[]) (cap:=[vP g0,vP j0]) .plain body69 rfl evs_nil (fun w9 hw9=>balance_Ideal_1_c n _ w9 (b0.hL0 hL hw9) a0 (b0.k0 h0_3 hw9) (fun j9 v9 h9=>hw9.cell0 ((b0.memA (.tl (.tl (.tl (.tl .hd))))) j9 v9 h9)) a1 (fun j9 v9 h9=>hw9.cell0 ((b0.memA (.tl (.tl (.tl .hd)))) j9 v9 h9)) H0) (fun d2 d1=>?_)
 obtain ⟨X0,I1⟩:=b0.agr d1
 refine PN.callD (vs:=[]) (cap:=[vP p0,vP d0]) body123 Tryz.func123 rfl rfl rfl (fun u1 g1 k1=>?_)
 refine Ac<|RG.recover1 .plain g1 rfl<|Ag rfl<|Aa<|Ac<|Ae rfl<|Ab (FV.neqI Tryz.underlying20 rfl rfl)<|Aa<|Bp rfl<|Ac<|Ae rfl<|Ab (FV.assertT (by kernel_rfl) rfl)<|Ae rfl<|Ab (Af rfl rfl)<|Ab (Af rfl rfl)<|Aj .plain rfl (Av [vI 0] X0) (fun g2 I0 Y0 J1=>?_)
 refine AL [vI s0.fErrno] Y0 .hd (o1 rfl) (fun j2 Z0 K1=>?_)
 refine Ag rfl<|Aa<|Ak<|Ac<|Ae rfl<|Ab (Bz rfl)<|Aa<|Bv rfl<|Aq<|Ac<|Aj .plain rfl (Av zL Z0) (fun p1 J0 t0 M1=>?_)
 refine Aa<|AF 3 tb123_6 (by kernel_rfl) (by kernel_rfl) (by kernel_rfl) (fun c0 A0=>?_)
 refine AD 0 1 24 c0 rfl A0 (AB rfl (t0.memA .hd)) rfl<|Ah 1 3 c0 rfl A0 (fun _=>Bh 0 rfl) rfl<|RD.meet (α:=Unit) (fun ()=>[(1,vP d0),(19,vI s0.fErrno)]) (fun () B0=>St w B0 [.cells d0 [vI 0] 51,.cells p0 zL 37,.cells v0 zL 37,.cells j0 [vI a1] 3,.cells g0 [vI a0.fGroups,vI a0.fParties,vI a0.fLevels,v0_3] 44]∧Tr p1 [.cells J0 zL 37,.cells I0 [vI s0.fErrno] 140,.cells d0 [vI 0] 51,.cells p0 zL 37,.cells v0 zL 37,.cells j0 [vI a1] 3,.cells g0 [vI a0.fGroups,vI a0.fParties,vI a0.fLevels,v0_3] 44] B0 [.cells d0 [vI 0] 51,.cells p0 zL 37,.cells v0 zL 37,.cells j0 [vI a1] 3,.cells g0 [vI a0.fGroups,vI a0.fParties,vI a0.fLevels,v0_3] 44]) 1 15 ?_ ?_
 rintro ⟨⟩ B0 ⟨M0,x1⟩
 try dsimp only
 refine Bt 4 31 c0 rfl rfl .plain (Ay (news:=[vI s0.fErrno]) M0 .hd rfl rfl rfl rfl rfl rfl (o1 rfl)) (fun R1 x0 y1=>?_)
 refine AE (doneD_ok c0 (by kernel_rfl))<|MX.fin rfl<|RT.leaveD1 k1 Tryz.func123 rfl .nil<|Ao (u:=.tuple #[.agg zM,vI s0.fErrno]) F0 Tryz.func68 rfl (.cons (.many (cs:=zL) (by kernel_rfl) rfl (x0.memA (.tl .hd))) (.cons (.one (by kernel_rfl) rfl ((x0.memA .hd) 0 _ rfl)) .nil)) rfl<|Ab (Af rfl rfl)<|Ab (Af rfl rfl)<|AL zL x0 (.tl (.tl .hd)) (onesB rfl) (fun U1 D0 z1=>?_)
 refine Ag rfl<|Aa<|Al rfl<|Ao hb0 Tryz.func20 rfl (.cons (.many (cs:=zL) (by kernel_rfl) rfl (D0.memA (.tl (.tl .hd)))) (.cons (.tmp rfl) .nil)) rfl ?_
 cases h
 exact D0.gv
 intro C0
 refine RD.each [2,3] (readyD_ok c0 (by kernel_rfl)) ⟨?_,?_,trivial⟩
 refine RO.val (m' :=7) (stepC_ok c0 (by kernel_rfl)) rfl .plain rfl (AK rfl ((t0.memA (.tl .hd)) 0 _ rfl))<|Bt 3 15 c0 rfl rfl .plain (Ay (news:=zL) t0 (.tl (.tl (.tl .hd))) rfl rfl rfl rfl rfl rfl (onesB rfl)) (fun q1 u0 z0=>?_)
 obtain ⟨P0,b1⟩:=AH u0 (.one (.tl (.tl .hd)) (.one (.tl (.tl .hd)) (.one (.tl (.tl .hd)) (.one (.tl (.tl .hd)) (.one (.tl (.tl .hd)) .done)))))
 exact C0 () _ _ ⟨rfl,rfl,trivial⟩ ⟨P0,(Tt z0 b1)⟩
 refine RO.now (m' :=11) (stepC_ok c0 (by kernel_rfl)) rfl rfl .plain (Ay (news:=zL) t0 (.tl (.tl (.tl .hd))) rfl rfl rfl rfl rfl rfl (onesB rfl)) (fun q1 u0 z0=>?_)
 refine AD 2 15 16 c0 rfl A0 (AK rfl ((u0.memA (.tl .hd)) 0 _ rfl)) rfl ?_
 obtain ⟨Q0,c1⟩:=AH u0 (.one (.tl (.tl .hd)) (.one (.tl (.tl .hd)) (.one (.tl (.tl .hd)) (.one (.tl (.tl .hd)) (.one (.tl (.tl .hd)) .done)))))
 exact C0 () _ _ ⟨rfl,rfl,trivial⟩ ⟨Q0,(Tt z0 c1)⟩
 have h:=exc_o h
 try dsimp only at h
 refine RG.callq' (v:=.agg ((cs_TShare q0)).toArray) (fst:=[]) (cap:=[vP g0,vP j0]) .plain body69 rfl evs_nil (fun w9 hw9=>AU (balance_Ideal_1_c n _ w9 (b0.hL0 hL hw9) a0 (b0.k0 h0_3 hw9) (fun j9 v9 h9=>hw9.cell0 ((b0.memA (.tl (.tl (.tl (.tl .hd))))) j9 v9 h9)) a1 (fun j9 v9 h9=>hw9.cell0 ((b0.memA (.tl (.tl (.tl .hd)))) j9 v9 h9)) H0)) rfl<|AL (cs_TShare q0) b0 (.tl .hd) (onesB rfl) (fun V1 R0 A1=>?_)
 refine AL [vI 0] R0 .hd (o1 rfl) (fun W1 y0 B1=>?_)
 refine Aa<|Al rfl<|RT.callD (vs:=[]) (cap:=[vP p0,vP d0]) body123 Tryz.func123 rfl rfl rfl (fun t1 G0 j1=>?_)
 refine Ac<|RG.recover0 .plain G0 rfl<|Ag rfl<|Aa<|Ac<|Ae rfl<|Ab (FV.neqI0 Tryz.underlying20 rfl rfl)<|Aa<|Bv rfl<|Aq<|MX.fin rfl<|RT.leaveD0 G0 j1 Tryz.func123 rfl .nil<|Ao (u:=.tuple #[.agg ((cs_TShare q0)).toArray,vI 0]) F0 Tryz.func68 rfl (.cons (.many (cs:=(cs_TShare q0)) (by kernel_rfl) rfl (y0.memA (.tl .hd))) (.cons (.one (by kernel_rfl) rfl ((y0.memA .hd) 0 _ rfl)) .nil)) rfl<|Ab (Af rfl rfl)<|Ab (Af rfl rfl)<|AL (cs_TShare q0) y0 (.tl (.tl .hd)) (onesB rfl) (fun X1 E0 C1=>?_)
 refine Ag rfl<|Aa<|Al rfl<|Ao hb0 Tryz.func20 rfl (.cons (.many (cs:=(cs_TShare q0)) (by kernel_rfl) rfl (E0.memA (.tl (.tl .hd)))) (.cons (.tmp rfl) .nil)) rfl ?_
 cases h
 exact E0.gv
def wardmotelaw22_of_p (n:Nat) (a0:Int) (a1:Int):Option TShare:=
  (share_Of_p n a0 a1).bind fun b0=>some b0.1
theorem wardmotelaw22_of_c (n:Nat) (L:List Nat) (w:World) (hL:∀ b ∈ L,b < w.heap.size) (a0:Int) (a1:Int)  {r:TShare} (h:wardmotelaw22_of_p n a0 a1 = some r) :
    Calls Tryz.prog 23 #[vI a0,vI a1] w (Gives w fun _ u=>u = .agg ((cs_TShare r)).toArray):=by
 unfold wardmotelaw22_of_p at h
 have hS0:=Ax w
 refine AA Tryz.func23 rfl rfl rfl (fun _ cs0 hb0=>?_)
 refine Ac<|Aj .plain rfl (Av zL hS0) (fun x0 p0 c0 s0=>?_)
 refine Aa<|Ac<|Ae rfl<|Ae rfl ?_
 obtain ⟨b0,k0,h⟩:=bi h
 refine Bf (.tuple #[.agg ((cs_TShare b0.1)).toArray,vI b0.2]) body78 rfl (e2 rfl rfl) (fun w9 hw9=>share_Of_c n _ w9 (c0.hL0 hL hw9) a0 a1 k0) rfl<|Ae rfl<|Ab (Af rfl rfl)<|Ab (Af rfl rfl)<|Aj .plain rfl (Av zL c0) (fun y0 q0 j0 t0=>?_)
 refine AL (cs_TShare b0.1) j0 .hd (onesB rfl) (fun z0 d0 u0=>?_)
 refine Ag rfl<|Aa<|Ac<|Ab (AB rfl (d0.memA .hd))<|AL (cs_TShare b0.1) d0 (.tl .hd) (onesB rfl) (fun A0 g0 v0=>?_)
 refine Aa<|Al rfl<|Ao hb0 Tryz.func23 rfl (.cons (.many (cs:=(cs_TShare b0.1)) (by kernel_rfl) rfl (g0.memA (.tl .hd))) .nil) rfl ?_
 cases h
 exact g0.gv
def tb72_1:List (Nat × Nat × Nat):=[(0,128,16),(0,256,4),(0,512,8),(6,1024,768),(9,2048,1152),(24,4096,2048),(32,8192,4098),(96,16384,12288),(160,32768,20480),(511,64,32768)]
theorem body23:bodyB Tryz.prog 23 = true:=by kernel_rfl
theorem ex_TShare {a b:TShare} (h0:a.fN.1 = b.fN.1) (h1:a.fN.2.1 = b.fN.2.1) (h2:a.fN.2.2.1 = b.fN.2.2.1) (h3:a.fN.2.2.2.1 = b.fN.2.2.2.1) (h4:a.fN.2.2.2.2.1 = b.fN.2.2.2.2.1) (h5:a.fN.2.2.2.2.2.1 = b.fN.2.2.2.2.2.1) (h6:a.fN.2.2.2.2.2.2.1 = b.fN.2.2.2.2.2.2.1) (h7:a.fN.2.2.2.2.2.2.2 = b.fN.2.2.2.2.2.2.2) (h8:a.fD.1 = b.fD.1) (h9:a.fD.2.1 = b.fD.2.1) (b0:a.fD.2.2.1 = b.fD.2.2.1) (c0:a.fD.2.2.2.1 = b.fD.2.2.2.1) (d0:a.fD.2.2.2.2.1 = b.fD.2.2.2.2.1) (g0:a.fD.2.2.2.2.2.1 = b.fD.2.2.2.2.2.1) (j0:a.fD.2.2.2.2.2.2.1 = b.fD.2.2.2.2.2.2.1) (k0:a.fD.2.2.2.2.2.2.2 = b.fD.2.2.2.2.2.2.2):a = b:=congr (congrArg TShare.mk (ex_A34 (a:=a.fN) (b:=b.fN) h0 h1 h2 h3 h4 h5 h6 h7)) (ex_A34 (a:=a.fD) (b:=b.fD) h8 h9 b0 c0 d0 g0 j0 k0)
theorem eqlD_37 (a b:TShare) (w9:World):(do eqGuard .eql 37 (.tmp 0) (.tmp 0) (.agg #[vU a.fN.1,vU a.fN.2.1,vU a.fN.2.2.1,vU a.fN.2.2.2.1,vU a.fN.2.2.2.2.1,vU a.fN.2.2.2.2.2.1,vU a.fN.2.2.2.2.2.2.1,vU a.fN.2.2.2.2.2.2.2,vU a.fD.1,vU a.fD.2.1,vU a.fD.2.2.1,vU a.fD.2.2.2.1,vU a.fD.2.2.2.2.1,vU a.fD.2.2.2.2.2.1,vU a.fD.2.2.2.2.2.2.1,vU a.fD.2.2.2.2.2.2.2]) (.agg #[vU b.fN.1,vU b.fN.2.1,vU b.fN.2.2.1,vU b.fN.2.2.2.1,vU b.fN.2.2.2.2.1,vU b.fN.2.2.2.2.2.1,vU b.fN.2.2.2.2.2.2.1,vU b.fN.2.2.2.2.2.2.2,vU b.fD.1,vU b.fD.2.1,vU b.fD.2.2.1,vU b.fD.2.2.2.1,vU b.fD.2.2.2.2.1,vU b.fD.2.2.2.2.2.1,vU b.fD.2.2.2.2.2.2.1,vU b.fD.2.2.2.2.2.2.2]); binOp .eql 37 (.agg #[vU a.fN.1,vU a.fN.2.1,vU a.fN.2.2.1,vU a.fN.2.2.2.1,vU a.fN.2.2.2.2.1,vU a.fN.2.2.2.2.2.1,vU a.fN.2.2.2.2.2.2.1,vU a.fN.2.2.2.2.2.2.2,vU a.fD.1,vU a.fD.2.1,vU a.fD.2.2.1,vU a.fD.2.2.2.1,vU a.fD.2.2.2.2.1,vU a.fD.2.2.2.2.2.1,vU a.fD.2.2.2.2.2.2.1,vU a.fD.2.2.2.2.2.2.2]) (.agg #[vU b.fN.1,vU b.fN.2.1,vU b.fN.2.2.1,vU b.fN.2.2.2.1,vU b.fN.2.2.2.2.1,vU b.fN.2.2.2.2.2.1,vU b.fN.2.2.2.2.2.2.1,vU b.fN.2.2.2.2.2.2.2,vU b.fD.1,vU b.fD.2.1,vU b.fD.2.2.1,vU b.fD.2.2.2.1,vU b.fD.2.2.2.2.1,vU b.fD.2.2.2.2.2.1,vU b.fD.2.2.2.2.2.2.1,vU b.fD.2.2.2.2.2.2.2]):Sem Value).run Tryz.prog w9 = .ok (.bool (decide (a = b))) w9:=
  eqAgg (ks:=[.int .u64,.int .u64,.int .u64,.int .u64,.int .u64,.int .u64,.int .u64,.int .u64,.int .u64,.int .u64,.int .u64,.int .u64,.int .u64,.int .u64,.int .u64,.int .u64]) (xs:=[vU a.fN.1,vU a.fN.2.1,vU a.fN.2.2.1,vU a.fN.2.2.2.1,vU a.fN.2.2.2.2.1,vU a.fN.2.2.2.2.2.1,vU a.fN.2.2.2.2.2.2.1,vU a.fN.2.2.2.2.2.2.2,vU a.fD.1,vU a.fD.2.1,vU a.fD.2.2.1,vU a.fD.2.2.2.1,vU a.fD.2.2.2.2.1,vU a.fD.2.2.2.2.2.1,vU a.fD.2.2.2.2.2.2.1,vU a.fD.2.2.2.2.2.2.2]) (ys:=[vU b.fN.1,vU b.fN.2.1,vU b.fN.2.2.1,vU b.fN.2.2.2.1,vU b.fN.2.2.2.2.1,vU b.fN.2.2.2.2.2.1,vU b.fN.2.2.2.2.2.2.1,vU b.fN.2.2.2.2.2.2.2,vU b.fD.1,vU b.fD.2.1,vU b.fD.2.2.1,vU b.fD.2.2.2.1,vU b.fD.2.2.2.2.1,vU b.fD.2.2.2.2.2.1,vU b.fD.2.2.2.2.2.2.1,vU b.fD.2.2.2.2.2.2.2]) (by kernel_rfl) (by kernel_rfl) (by kernel_rfl) rfl rfl ⟨fun h=>by
    simp only [allEq,veq,Bool.and_eq_true,beq_iff_eq,and_true] at h
    obtain ⟨h0,h1,h2,h3,h4,h5,h6,h7,h8,h9,b0,c0,d0,g0,j0,k0⟩:=h
    exact ex_TShare (UInt_inj64 h0) (UInt_inj64 h1) (UInt_inj64 h2) (UInt_inj64 h3) (UInt_inj64 h4) (UInt_inj64 h5) (UInt_inj64 h6) (UInt_inj64 h7) (UInt_inj64 h8) (UInt_inj64 h9) (UInt_inj64 b0) (UInt_inj64 c0) (UInt_inj64 d0) (UInt_inj64 g0) (UInt_inj64 j0) (UInt_inj64 k0),fun h=>by subst h; simp [allEq,veq]⟩ _ _ w9
def wardmotelaw22_part_1_p (n:Nat) (a0:TShare) (a1:Int) (a2:Int) (a3:Int):Option Bool:=
  (wardmotelaw22_of_p n a2 a3).bind fun b0=>(if a0 = b0 then some (decide (a1 = 0)) else some false)
theorem wardmotelaw22_part_1_c (n:Nat) (L:List Nat) (w:World) (hL:∀ b ∈ L,b < w.heap.size) (a0:TShare) (a1:Int) (a2:Int) {p2:Nat} (m2:∀ j9 v9,([vI a2]:List Value)[j9]? = some v9 → w.cell? ((⟨p2,0,none⟩:Addr).add j9) = some v9) (a3:Int) {p3:Nat} (m3:∀ j9 v9,([vI a3]:List Value)[j9]? = some v9 → w.cell? ((⟨p3,0,none⟩:Addr).add j9) = some v9)  {r:Bool} (h:wardmotelaw22_part_1_p n a0 a1 a2 a3 = some r) :
    Calls Tryz.prog 72 #[.agg ((cs_TShare a0)).toArray,vI a1,.pointer (some ⟨p2,0,none⟩),.pointer (some ⟨p3,0,none⟩)] w (Gives w fun _ u=>u = .bool r):=by
 unfold wardmotelaw22_part_1_p at h
 have hS0:=Ax w
 refine AA Tryz.func72 rfl rfl rfl (fun _ cs0 hb0=>?_)
 refine Ac<|Aj .plain rfl (Aw hS0 rfl rfl) (fun s0 p0 d0 q0=>?_)
 refine Ag rfl<|Aa<|Ak<|AF 10 tb72_1 (by kernel_rfl) (by kernel_rfl) (by kernel_rfl) (fun b0 c0=>?_)
 refine AD 0 1 1008 b0 rfl c0 (AB rfl (d0.memA .hd)) rfl<|AD 1 3 1016 b0 rfl c0 (AK rfl ((fun j9 v9 h9=>d0.ag.cell0 (m2 j9 v9 h9)) 0 _ rfl)) rfl<|AD 2 7 1016 b0 rfl c0 (AK rfl ((fun j9 v9 h9=>d0.ag.cell0 (m3 j9 v9 h9)) 0 _ rfl)) rfl ?_
 obtain ⟨g0,k0,h⟩:=bi h
 refine BI 3 15 1008 (.agg ((cs_TShare g0)).toArray) b0 rfl c0 body23 rfl (e2 rfl rfl) (fun w9 hw9=>wardmotelaw22_of_c n _ w9 (d0.hL0 hL hw9) a2 a3 k0) rfl<|Ah 4 31 b0 rfl c0 (fun _=>FV.eqlV (v:=.agg ((cs_TShare a0)).toArray) (u:=.agg ((cs_TShare g0)).toArray) rfl rfl (eqlD_37 a0 g0)) rfl<|Ah 5 63 b0 rfl c0 (fun _=>Ai rfl) rfl<|RD.ifd (s:=12) rfl h (fun j0 h=>?_) (fun j0 h=>?_)
 refine BA 6 127 b0 rfl c0 (.yes rfl rfl) (fun _=>Ai rfl) rfl<|BA 7 255 b0 rfl c0 (.yes rfl rfl) (fun _=>FV.eql (i:=a1) (j:=0) rfl rfl) rfl<|Ah 8 511 b0 rfl c0 (fun _=>BB rfl rfl) rfl<|Ah 9 1023 b0 rfl c0 (fun _=>AJ rfl) rfl<|AE (doneD_ok b0 (by kernel_rfl))<|Al rfl<|Bc hb0 Tryz.func72 rfl rfl ?_
 cases h
 exact d0.gv
 refine Bk 255 2 [(6,13),(7,14)] (F:=[(12,false)]) (U:=[]) b0 c0 (.cons rfl .nil) .nil ?_
 dsimp only [offS,List.map]
 refine Ah 8 511 b0 rfl c0 (fun _=>AV rfl rfl) rfl<|Ah 9 1023 b0 rfl c0 (fun _=>AJ rfl) rfl<|AE (doneD_ok b0 (by kernel_rfl))<|Al rfl<|Bc hb0 Tryz.func72 rfl rfl ?_
 cases h
 exact d0.gv
theorem wardmotelaw22_part_c (n:Nat) (L:List Nat) (w:World) (_hL:∀ b ∈ L,b < w.heap.size) (a0:Int) (a1:Int)  :
    Calls Tryz.prog 21 #[vI a0,vI a1] w (Gives w fun w' u=>∃ b0 c0:Nat,u = .func (.func 72) #[] #[vP b0,vP c0]∧St w w' [.cells b0 [vI a0] 3,.cells c0 [vI a1] 3]):=by
 have hS0:=Ax w
 refine AA Tryz.func21 rfl rfl rfl (fun _ cs0 hb0=>?_)
 refine Ac<|Aj .plain rfl (Aw hS0 rfl rfl) (fun s0 b0 g0 k0=>?_)
 refine Aj .plain rfl (Aw g0 rfl rfl) (fun t0 c0 j0 p0=>?_)
 refine Ag rfl<|Aa<|Ac<|Ab (BG (vs:=[]) (us:=[vP b0,vP c0]) evs_nil (e2 rfl rfl))<|Ag rfl<|Aa<|Al rfl<|Ao (u:=.func (.func 72) #[] #[vP b0,vP c0]) hb0 Tryz.func21 rfl (.cons (.tmp rfl) .nil) rfl ?_
 obtain ⟨d0,q0⟩:=AH j0 (.one (.tl .hd) (.one .hd .done))
 exact ⟨d0.ag,fun w9 hw9=>⟨b0,c0,rfl,d0.agree hw9⟩⟩
end Go.Proofs.YtmhgoecnjleagaaGreatDoor
