/- Functions of the program, and what they give: part 7. -/
import Derived.Test.YtbgcdbblaadokaaGreatDoorRV6
namespace Go.Proofs.YtbgcdbblaadokaaGreatDoor
open Go Go.RowKit
set_option maxRecDepth 4000
set_option maxHeartbeats 4000000

theorem body55:bodyB Tryz.prog 55 = true:=by kernel_rfl
def minority_Index_p (n:Nat) (a0:TRoll) (a1:List Int) (a2:Int) (a3:Int):Option (TShare × Int):=
  (minority_Index_1_p n a0 a1 a2 a3).bind fun c0=>exc c0 (fun d0=>some (d0,(0:Int))) (fun b0=>some ((⟨((0:UInt64),(0:UInt64),(0:UInt64),(0:UInt64),(0:UInt64),(0:UInt64),(0:UInt64),(0:UInt64)),((0:UInt64),(0:UInt64),(0:UInt64),(0:UInt64),(0:UInt64),(0:UInt64),(0:UInt64),(0:UInt64))⟩:TShare),b0.fH))
theorem minority_Index_c (n:Nat) (L:List Nat) (w:World) (hL:∀ b ∈ L,b < w.heap.size) (a0:TRoll) {v0_3:Value} (h0_3:Rep.R w L [v0_3] a0.fE) (a1:List Int) {v1_0:Value} (h1_0:Rep.R w L [v1_0] a1) (a2:Int) (a3:Int)  {r:TShare × Int} (h:minority_Index_p n a0 a1 a2 a3 = some r) :
    Calls Tryz.prog 22 #[.agg #[vI a0.fj,vI a0.fh,vI a0.fl,v0_3],v1_0,vI a2,vI a3] w (Gives w fun _ u=>u = .tuple #[.agg ((cs_TShare r.1)).toArray,vI r.2]):=by
 unfold minority_Index_p at h
 have hS0:=Ax w
 refine AE Tryz.func22 rfl rfl rfl (fun _ cs0 hb0=>?_)
 refine Ac<|Ai .plain rfl (Ar hS0 rfl rfl) (fun b2 g0 F0 I1=>?_)
 have v1:=AP h1_0 F0
 refine Ai .plain rfl (Ar F0 rfl (Rep.c1 v1)) (fun p2 j0 W0 K1=>?_)
 refine Ai .plain rfl (Ar W0 rfl rfl) (fun q2 p0 X0 M1=>?_)
 refine Ai .plain rfl (Ar X0 rfl rfl) (fun s2 q0 Y0 P1=>?_)
 refine Ai .plain rfl (Au zL Y0) (fun t2 y0 Z0 Q1=>?_)
 refine Ah rfl<|Aa<|Ac<|Ab (BB (vs:=[]) (us:=[vP g0,vP j0,vP p0,vP q0]) evs_nil (e4 rfl rfl rfl rfl))<|Bc (fst:=[]) (cap:=[]) (vs:=[.func (.func 55) #[] #[vP g0,vP j0,vP p0,vP q0]]) .plain body37 Tryz.func37 rfl rfl rfl rfl (e1 rfl) rfl (fun C1 I0 Z1=>?_)
 refine Ac<|Ai .plain rfl (Au zL Z0) (fun u2 s0 b1 R1=>?_)
 refine Ai .plain rfl (Au [vI 0] b1) (fun v2 d0 b0 U1=>?_)
 refine Aa<|Ac<|Ab (BB (vs:=[]) (us:=[vP s0,vP d0]) evs_nil (e2 rfl rfl))<|RG.defer (fst:=[]) (cap:=[vP s0,vP d0]) (vs:=[]) rfl .plain rfl evs_nil<|Aa<|Ac<|Ae rfl ?_
 obtain ⟨z1,K0,h⟩:=bi h
 rcases z1 with u0 | t0
 have h:=exc_e h
 try dsimp only at h
 refine Bg (fst:=[]) (cap:=[vP g0,vP j0,vP p0,vP q0]) .plain body55 rfl evs_nil (fun w9 hw9=>minority_Index_1_c n _ w9 (b0.hL0 hL hw9) a0 (b0.k0 h0_3 hw9) (fun j9 v9 h9=>hw9.cell0 ((b0.memA (.tl (.tl (.tl (.tl (.tl (.tl .hd))))))) j9 v9 h9)) a1 (b0.k0 h1_0 hw9) (fun j9 v9 h9=>hw9.cell0 ((b0.memA (.tl (.tl (.tl (.tl (.tl .hd)))))) j9 v9 h9)) a2 (fun j9 v9 h9=>hw9.cell0 ((b0.memA (.tl (.tl (.tl (.tl .hd))))) j9 v9 h9)) a3 (fun j9 v9 h9=>hw9.cell0 ((b0.memA (.tl (.tl (.tl .hd)))) j9 v9 h9)) K0) (fun x2 q1=>?_)
 obtain ⟨d1,V1⟩:=b0.agr q1
 refine PN.callD (vs:=[]) (cap:=[vP s0,vP d0]) body75 Tryz.func75 rfl rfl rfl (fun B1 s1 u1=>?_)
 refine Ac<|RG.recover1 .plain s1 rfl<|Ah rfl<|Aa<|Ac<|Ae rfl<|Ab (FV.neqI Tryz.underlying20 rfl rfl)<|Aa<|AV rfl<|Ac<|Ae rfl<|Ab (FV.assertT (by kernel_rfl) rfl)<|Ae rfl<|Ab (Ag rfl rfl)<|Ab (Ag rfl rfl)<|Ai .plain rfl (Au [vI 0] d1) (fun y2 M0 g1 W1=>?_)
 refine AL [vI u0.fH] g1 .hd (o1 rfl) (fun z2 j1 X1=>?_)
 refine Ah rfl<|Aa<|Ak<|Ac<|Ae rfl<|Ab (FV.not rfl)<|Aa<|Bu rfl<|Av<|Ac<|Ai .plain rfl (Au zL j1) (fun y1 P0 x0 Y1=>?_)
 refine Aa<|dt 3 tb75_6 (fun c0 C0=>?_)
 refine AA 0 1 24 c0 rfl C0 (Az rfl (x0.memA .hd)) rfl<|Af 1 3 c0 rfl C0 (fun _=>AQ 0 rfl) rfl<|RD.meet (α:=Unit) (fun ()=>[(1,vP d0),(19,vI u0.fH)]) (fun () D0=>St w D0 [.cells d0 [vI 0] 35,.cells s0 zL 34,.cells y0 zL 34,.cells q0 [vI a3] 3,.cells p0 [vI a2] 3,.cells j0 [v1_0] 59,.cells g0 [vI a0.fj,vI a0.fh,vI a0.fl,v0_3] 28]∧Tr y1 [.cells P0 zL 34,.cells M0 [vI u0.fH] 110,.cells d0 [vI 0] 35,.cells s0 zL 34,.cells y0 zL 34,.cells q0 [vI a3] 3,.cells p0 [vI a2] 3,.cells j0 [v1_0] 59,.cells g0 [vI a0.fj,vI a0.fh,vI a0.fl,v0_3] 28] D0 [.cells d0 [vI 0] 35,.cells s0 zL 34,.cells y0 zL 34,.cells q0 [vI a3] 3,.cells p0 [vI a2] 3,.cells j0 [v1_0] 59,.cells g0 [vI a0.fj,vI a0.fh,vI a0.fl,v0_3] 28]) 1 15 ?_ ?_
 rintro ⟨⟩ D0 ⟨Q0,D1⟩
 try dsimp only
 refine Bq 4 31 c0 rfl rfl .plain (Aw (news:=[vI u0.fH]) Q0 .hd rfl rfl rfl rfl rfl rfl (o1 rfl)) (fun c2 z0 E1=>?_)
 refine AH (dk c0)<|MX.fin rfl<|RT.leaveD1 u1 Tryz.func75 rfl .nil<|Al (u:=.tuple #[.agg zM,vI u0.fH]) I0 Tryz.func37 rfl (.cons (.many (cs:=zL) (by kernel_rfl) rfl (z0.memA (.tl .hd))) (.cons (.one (by kernel_rfl) rfl ((z0.memA .hd) 0 _ rfl)) .nil)) rfl<|Ab (Ag rfl rfl)<|Ab (Ag rfl rfl)<|AL zL z0 (.tl (.tl .hd)) (onesB rfl) (fun d2 G0 F1=>?_)
 refine Ah rfl<|Aa<|Am rfl<|Al hb0 Tryz.func22 rfl (.cons (.many (cs:=zL) (by kernel_rfl) rfl (G0.memA (.tl (.tl .hd)))) (.cons (.tmp rfl) .nil)) rfl ?_
 cases h
 exact G0.gv
 intro E0
 refine RD.each [2,3] (rk c0) ⟨?_,?_,trivial⟩
 refine RO.val (m' :=7) (sk c0) rfl .plain rfl (AJ rfl ((x0.memA (.tl .hd)) 0 _ rfl))<|Bq 3 15 c0 rfl rfl .plain (Aw (news:=zL) x0 (.tl (.tl (.tl .hd))) rfl rfl rfl rfl rfl rfl (onesB rfl)) (fun x1 v0 B0=>?_)
 obtain ⟨R0,k1⟩:=AN v0 (.one (.tl (.tl .hd)) (.one (.tl (.tl .hd)) (.one (.tl (.tl .hd)) (.one (.tl (.tl .hd)) (.one (.tl (.tl .hd)) (.one (.tl (.tl .hd)) (.one (.tl (.tl .hd)) .done)))))))
 exact E0 () _ _ ⟨rfl,rfl,trivial⟩ ⟨R0,(Tt B0 k1)⟩
 refine RO.now (m' :=11) (sk c0) rfl rfl .plain (Aw (news:=zL) x0 (.tl (.tl (.tl .hd))) rfl rfl rfl rfl rfl rfl (onesB rfl)) (fun x1 v0 B0=>?_)
 refine AA 2 15 16 c0 rfl C0 (AJ rfl ((v0.memA (.tl .hd)) 0 _ rfl)) rfl ?_
 obtain ⟨U0,p1⟩:=AN v0 (.one (.tl (.tl .hd)) (.one (.tl (.tl .hd)) (.one (.tl (.tl .hd)) (.one (.tl (.tl .hd)) (.one (.tl (.tl .hd)) (.one (.tl (.tl .hd)) (.one (.tl (.tl .hd)) .done)))))))
 exact E0 () _ _ ⟨rfl,rfl,trivial⟩ ⟨U0,(Tt B0 p1)⟩
 have h:=exc_o h
 try dsimp only at h
 refine RG.callq' (v:=.agg ((cs_TShare t0)).toArray) (fst:=[]) (cap:=[vP g0,vP j0,vP p0,vP q0]) .plain body55 rfl evs_nil (fun w9 hw9=>AD (minority_Index_1_c n _ w9 (b0.hL0 hL hw9) a0 (b0.k0 h0_3 hw9) (fun j9 v9 h9=>hw9.cell0 ((b0.memA (.tl (.tl (.tl (.tl (.tl (.tl .hd))))))) j9 v9 h9)) a1 (b0.k0 h1_0 hw9) (fun j9 v9 h9=>hw9.cell0 ((b0.memA (.tl (.tl (.tl (.tl (.tl .hd)))))) j9 v9 h9)) a2 (fun j9 v9 h9=>hw9.cell0 ((b0.memA (.tl (.tl (.tl (.tl .hd))))) j9 v9 h9)) a3 (fun j9 v9 h9=>hw9.cell0 ((b0.memA (.tl (.tl (.tl .hd)))) j9 v9 h9)) K0)) rfl<|AL (cs_TShare t0) b0 (.tl .hd) (onesB rfl) (fun g2 V0 G1=>?_)
 refine AL [vI 0] V0 .hd (o1 rfl) (fun j2 A0 H1=>?_)
 refine Aa<|Am rfl<|RT.callD (vs:=[]) (cap:=[vP s0,vP d0]) body75 Tryz.func75 rfl rfl rfl (fun A1 J0 t1=>?_)
 refine Ac<|RG.recover0 .plain J0 rfl<|Ah rfl<|Aa<|Ac<|Ae rfl<|Ab (FV.neqI0 Tryz.underlying20 rfl rfl)<|Aa<|Bu rfl<|Av<|MX.fin rfl<|RT.leaveD0 J0 t1 Tryz.func75 rfl .nil<|Al (u:=.tuple #[.agg ((cs_TShare t0)).toArray,vI 0]) I0 Tryz.func37 rfl (.cons (.many (cs:=(cs_TShare t0)) (by kernel_rfl) rfl (A0.memA (.tl .hd))) (.cons (.one (by kernel_rfl) rfl ((A0.memA .hd) 0 _ rfl)) .nil)) rfl<|Ab (Ag rfl rfl)<|Ab (Ag rfl rfl)<|AL (cs_TShare t0) A0 (.tl (.tl .hd)) (onesB rfl) (fun k2 H0 J1=>?_)
 refine Ah rfl<|Aa<|Am rfl<|Al hb0 Tryz.func22 rfl (.cons (.many (cs:=(cs_TShare t0)) (by kernel_rfl) rfl (H0.memA (.tl (.tl .hd)))) (.cons (.tmp rfl) .nil)) rfl ?_
 cases h
 exact H0.gv
def wardmotelaw29_line_1_p (_n:Nat) (a0:TShare) (a1:TShare) (a2:Int) (a3:TShare) (a4:TShare):Option Bool:=
  (if a0 = a3 then (if a1 = a4 then some (decide (a2 = 0)) else some false) else some false)
theorem wardmotelaw29_line_1_c (n:Nat) (L:List Nat) (w:World) (_hL:∀ b ∈ L,b < w.heap.size) (a0:TShare) (a1:TShare) (a2:Int) (a3:TShare) {p3:Nat} (m3:∀ j9 v9,((cs_TShare a3):List Value)[j9]? = some v9 → w.cell? ((⟨p3,0,none⟩:Addr).add j9) = some v9) (a4:TShare) {p4:Nat} (m4:∀ j9 v9,((cs_TShare a4):List Value)[j9]? = some v9 → w.cell? ((⟨p4,0,none⟩:Addr).add j9) = some v9)  {r:Bool} (h:wardmotelaw29_line_1_p n a0 a1 a2 a3 a4 = some r) :
    Calls Tryz.prog 59 #[.agg ((cs_TShare a0)).toArray,.agg ((cs_TShare a1)).toArray,vI a2,.pointer (some ⟨p3,0,none⟩),.pointer (some ⟨p4,0,none⟩)] w (Gives w fun _ u=>u = .bool r):=by
 unfold wardmotelaw29_line_1_p at h
 have hS0:=Ax w
 refine AE Tryz.func59 rfl rfl rfl (fun _ cs0 hb0=>?_)
 refine Ac<|Ai .plain rfl (Ar hS0 rfl rfl) (fun s0 j0 g0 p0=>?_)
 refine Ai .plain rfl (Ar g0 rfl rfl) (fun t0 k0 b0 q0=>?_)
 refine Ah rfl<|Aa<|Ac<|Ab (Az rfl (b0.memA (.tl .hd)))<|Ab (Az rfl (fun j9 v9 h9=>b0.ag.cell0 (m3 j9 v9 h9)))<|Ab (FV.eqlV (v:=.agg ((cs_TShare a0)).toArray) (u:=.agg ((cs_TShare a3)).toArray) rfl rfl (eqlD_34 a0 a3))<|Ae rfl<|RG.ifd (s:=12) rfl h (fun c0 h=>?_) (fun c0 h=>?_)
 refine AW (Az rfl (b0.memA .hd))<|AW (Az rfl (fun j9 v9 h9=>b0.ag.cell0 (m4 j9 v9 h9)))<|AW (FV.eqlV (v:=.agg ((cs_TShare a1)).toArray) (u:=.agg ((cs_TShare a4)).toArray) rfl rfl (eqlD_34 a1 a4))<|RG.pt rfl rfl<|Ae rfl<|RG.ifd (s:=17) rfl h (fun d0 h=>?_) (fun d0 h=>?_)
 refine AW (Aj rfl)<|AW (FV.eql (i:=a2) (j:=0) rfl rfl)<|RG.pt rfl rfl<|Ah rfl<|Aa<|Am rfl<|Be hb0 Tryz.func59 rfl rfl ?_
 cases h
 exact b0.gv
 refine AO<|AO<|RG.pf rfl rfl<|Ah rfl<|Aa<|Am rfl<|Be hb0 Tryz.func59 rfl rfl ?_
 cases h
 exact b0.gv
 refine AO<|AO<|AO<|RG.pf rfl rfl<|Ae rfl<|AO<|AO<|RG.pf rfl rfl<|Ah rfl<|Aa<|Am rfl<|Be hb0 Tryz.func59 rfl rfl ?_
 cases h
 exact b0.gv
theorem wardmotelaw29_line_c (n:Nat) (L:List Nat) (w:World) (_hL:∀ b ∈ L,b < w.heap.size) (a0:TShare) (a1:TShare)  :
    Calls Tryz.prog 23 #[.agg ((cs_TShare a0)).toArray,.agg ((cs_TShare a1)).toArray] w (Gives w fun w' u=>∃ b0 c0:Nat,u = .func (.func 59) #[] #[vP b0,vP c0]∧St w w' [.cells b0 (cs_TShare a0) 34,.cells c0 (cs_TShare a1) 34]):=by
 have hS0:=Ax w
 refine AE Tryz.func23 rfl rfl rfl (fun _ cs0 hb0=>?_)
 refine Ac<|Ai .plain rfl (Ar hS0 rfl rfl) (fun s0 b0 g0 k0=>?_)
 refine Ai .plain rfl (Ar g0 rfl rfl) (fun t0 c0 j0 p0=>?_)
 refine Ah rfl<|Aa<|Ac<|Ab (BB (vs:=[]) (us:=[vP b0,vP c0]) evs_nil (e2 rfl rfl))<|Ah rfl<|Aa<|Am rfl<|Al (u:=.func (.func 59) #[] #[vP b0,vP c0]) hb0 Tryz.func23 rfl (.cons (.tmp rfl) .nil) rfl ?_
 obtain ⟨d0,q0⟩:=AN j0 (.one (.tl .hd) (.one .hd .done))
 exact ⟨d0.ag,fun w9 hw9=>⟨b0,c0,rfl,d0.agree hw9⟩⟩
def tb6_5:List (Nat × Nat × Nat):=[(0,8589934592,16),(1,17179869184,8589934592),(2,34359738368,17179869184),(4,68719476736,34359738376),(4,137438953472,34359738368),(20,274877906944,34359738368),(52,549755813888,446676598784),(108,1099511627776,652835028992),(132,2199023255552,1133871366144),(384,4398046511104,2199023255552),(512,8796093022208,4398046511104),(1536,17592186044416,13194139533312),(512,35184372088832,4398046511106),(512,70368744177664,4398046511108),(2560,140737488355328,4398046511104),(29184,281474976710656,250688651132928),(33280,562949953421312,285873023221760),(33280,1125899906842624,285873023221760),(231936,2251799813685248,1710840092819456),(262656,4503599627370496,2256197860196352),(786432,9007199254740992,4503599627370496),(1048576,18014398509481984,9007199254740992),(1048576,36028797018963968,9007199254740994),(1048576,72057594037927936,9007199254740996),(15728640,144115188075855872,117093590311632896),(17825792,288230376151711744,153122387330596864),(17825792,576460752303423488,153122387330596864),(120586240,1152921504606846976,891712726219358208),(135266304,2305843009213693952,1161928703861587968),(402653184,4611686018427387904,2305843009213693952),(536870912,9223372036854775808,4611686018427387904),(1610612736,18446744073709551616,4611686018427387904),(3758096384,36893488147419103232,32281802128991715328),(536870912,73786976294838206464,4611686018427387906),(13421772800,147573952589676412928,78398662313265594368),(17716740096,295147905179352825856,152185638608103800832),(17716740096,590295810358705651712,152185638608103800832),(17716740096,1180591620717411303424,152185638608103800832),(262529875968,2361183241434822606848,2107540510421316272128),(275414777856,4722366482869645213696,2365794927453249994752),(824633720832,9444732965739290427392,4722366482869645213696),(1099511627776,18889465931478580854784,9444732965739290427392),(1099511627776,37778931862957161709568,9444732965739290427394),(7696581394432,75557863725914323419136,47223664828696452136960),(9895604649984,151115727451828646838272,85002596691653613846528),(9895604649984,302231454903657293676544,85002596691653613846528),(64871186038784,604462909807314587353088,481681381252703811796992),(71468255805440,1208925819614629174706176,613907642773053877780480),(211106232532992,2417851639229258349412352,1208925819614629174706176),(281474976710656,4835703278458516698824704,2417851639229258349412480),(844424930131968,9671406556917033397649408,7253554917687775048237056),(1407374883553280,19342813113834066795298816,12089258196146291747061760),(2533274790395904,38685626227668133590597632,19342813113834066795298816),(4503599627370496,77371252455336267181195264,38685626227668133590598144),(13510798882111488,154742504910672534362390528,116056878683004400771792896),(22517998136852480,309485009821345068724781056,193428131138340667952988160),(72057594037927935,1,309485009821345068724781056)]
theorem el59:ElT Tryz.prog 59 3 (Rep.size Int) 8 (vI 0) [vI 0]:=⟨Tryz.underlying59,by kernel_rfl,rfl,rfl,rfl,rfl⟩
theorem body8:bodyB Tryz.prog 8 = true:=by kernel_rfl
theorem body13:bodyB Tryz.prog 13 = true:=by kernel_rfl
theorem body16:bodyB Tryz.prog 16 = true:=by kernel_rfl
theorem body17:bodyB Tryz.prog 17 = true:=by kernel_rfl
theorem body18:bodyB Tryz.prog 18 = true:=by kernel_rfl
theorem body19:bodyB Tryz.prog 19 = true:=by kernel_rfl
theorem body20:bodyB Tryz.prog 20 = true:=by kernel_rfl
theorem body21:bodyB Tryz.prog 21 = true:=by kernel_rfl
theorem body22:bodyB Tryz.prog 22 = true:=by kernel_rfl
theorem body23:bodyB Tryz.prog 23 = true:=by kernel_rfl
theorem body41:bodyB Tryz.prog 41 = true:=by kernel_rfl
theorem body46:bodyB Tryz.prog 46 = true:=by kernel_rfl
theorem body59:bodyB Tryz.prog 59 = true:=by kernel_rfl
def wardmotelaw29_works_p (n:Nat):Option Bool:=
  (wardmotelaw29_example_p n).bind fun y1=>(minority_Shares_p n y1 ([(0:Int),(0:Int),(1:Int)]:List Int) (2:Int) (0:Int)).bind fun j0=>(minority_Line_p n y1 (1:Int) (0:Int)).bind fun A0=>(minority_Shares_p n (⟨(0:Int),(0:Int),(0:Int),([(⟨⟨#[97]⟩,(0:Int),([]:List Int),([]:List Int),([]:List Int),false⟩:TUnit),(⟨⟨#[98]⟩,(0:Int),([]:List Int),([]:List Int),([]:List Int),false⟩:TUnit)]:List TUnit)⟩:TRoll) ([(0:Int),(1:Int)]:List Int) (2:Int) (0:Int)).bind fun B0=>(if j0.2 = 0 then (wardmotelaw29_of_p n (1:Int) (4:Int)).bind fun k0=>(wardmotelaw29_of_p n (1:Int) (10:Int)).bind fun p0=>(slices_Equal_api_Share_api_Share_p n j0.1 ([k0,p0]:List TShare)).bind fun q0=>(if q0 = true then (wardmotelaw29_of_p n (1:Int) (5:Int)).bind fun s0=>(minority_Majority_p n y1 ([(0:Int),(0:Int),(1:Int)]:List Int) (2:Int) (0:Int) s0).bind fun c0=>(wardmotelaw29_lists_1_p n c0.1 c0.2 ([(0:Int)]:List Int)).bind fun t0=>(if t0 = true then (minority_Index_p n y1 ([(0:Int),(0:Int),(1:Int)]:List Int) (2:Int) (0:Int)).bind fun d0=>(wardmotelaw29_is_1_p n d0.1 d0.2 (20:Int) (77:Int)).bind fun u0=>(if u0 = true then (wardmotelaw29_of_p n (14:Int) (9:Int)).bind fun v0=>(wardmotelaw29_of_p n (-1:Int) (45:Int)).bind fun x0=>(minority_Line_p n y1 (0:Int) (0:Int)).bind fun b0=>(wardmotelaw29_line_1_p n b0.1 b0.2.1 b0.2.2 v0 x0).bind fun y0=>(if y0 = true then (minority_Fit_p n y1 (0:Int) (0:Int)).bind fun g0=>(wardmotelaw29_is_1_p n g0.1 g0.2 (49:Int) (51:Int)).bind fun z0=>(if z0 = true then (if A0.2.2 = 2 then some (decide (B0.2 = 2)) else some false) else some false) else some false) else some false) else some false) else some false) else some false)
theorem wardmotelaw29_works_c (n:Nat) (L:List Nat) (w:World) (hL:∀ b ∈ L,b < w.heap.size)  {r:Bool} (h:wardmotelaw29_works_p n = some r) :
    Calls Tryz.prog 6 #[] w (Gives w fun _ u=>u = .bool r):=by
 unfold wardmotelaw29_works_p at h
 have hS0:=Ax w
 refine AE Tryz.func6 rfl rfl rfl (fun _ cs0 hb0=>?_)
 refine Ac<|Ah rfl<|Aa<|Ac ?_
 obtain ⟨y1,hy1,h⟩:=bi h
 refine By (fst:=[]) (cap:=[]) .plain body17 rfl evs_nil (fun w9 hw9=>own_gives (b0:=w.heap.size) (wardmotelaw29_example_c n _ w9 (hS0.hL hL hw9)  hy1) hw9 (Nat.le_trans hS0.ag.size hw9.size)) rfl (fun w2 vu3 hag4 ⟨v9,y2,hu6,s5,I2⟩=>?_)
 subst hu6
 have hS7:=own_push hS0 s5
 have hT8:=own_tr hS0 s5
 have M2:=AM (cs:=y2) (xs:=(y1.fE:List TUnit)) hS7 L (own_cells I2)
 refine Ai .plain rfl (AT (α:=Int) (xs:=([(0:Int),(0:Int),(1:Int)]:List Int)) (vs:=[vI 0,vI 0,vI 1]) (ds' :=[vI 0,vI 0,vI 1]) rfl hS7 el59 rfl (e3 rfl rfl rfl) (by kernel_rfl) rfl) (fun j5 j2 G1 C2=>?_)
 have P2:=AM (cs:=[vI 0,vI 0,vI 1]) (xs:=(([(0:Int),(0:Int),(1:Int)]:List Int):List Int)) G1 L (Ap (cs:=[vI 0]) (ds:=[vI 0,vI 1]) rfl (Ap (cs:=[vI 0]) (ds:=[vI 1]) rfl (Ap (cs:=[vI 1]) (ds:=[]) rfl (AS _ _))))
 refine Ai .plain rfl (Au [vI 0,vI 0,vI 0,vN] G1) (fun p5 E4 H1 Q1=>?_)
 refine AL [vI y1.fj,vI y1.fh,vI y1.fl,v9] H1 .hd (o4 rfl rfl rfl (St.o1 (α:=TUnit) H1 (.tl (.tl .hd)))) (fun q5 I0 R1=>?_)
 refine Ah rfl<|Aa<|Ac<|Ab (Az rfl (I0.memA .hd))<|Ae rfl ?_
 have x3:=Tt C2 (Tt Q1 R1)
 have d3:=Bb M2 x3
 have B3:=Br (α:=TUnit) I0 (.tl (.tl .hd)) d3 hL
 have J0:=St.delS I0 (.tl (.tl .hd))
 have E2:=St.delT I0 (.tl (.tl .hd))
 have u0:=Rep.at_ (α:=TUnit) (v:=v9) (xs:=y1.fE) J0 L B3
 have y3:=Tt Q1 (Tt R1 E2)
 have g3:=Bb P2 y3
 have C3:=Br (α:=Int) J0 (.tl .hd) g3 hL
 have d1:=St.delS J0 (.tl .hd)
 have s1:=St.delT J0 (.tl .hd)
 have E1:=Rep.at_ (α:=Int) (v:=(vS j2 3)) (xs:=([(0:Int),(0:Int),(1:Int)]:List Int)) d1 L C3
 obtain ⟨g2,k4,h⟩:=bi h
 have j3:=Ay u0 s1
 refine By (fst:=[]) (cap:=[]) .plain body18 rfl (e4 rfl rfl rfl rfl) (fun w9 hw9=>minority_Shares_c n _ w9 (d1.hL hL hw9) y1 (Aq j3 hw9) ([(0:Int),(0:Int),(1:Int)]:List Int) (Aq E1 hw9) (2:Int) (0:Int) k4) rfl (fun t5 b5 G2 ⟨R4,hu_,D3⟩=>?_)
 subst hu_
 obtain ⟨K0,u1⟩:=d1.agr G2
 refine Ae rfl<|Ab (Ag rfl rfl)<|Ab (Ag rfl rfl)<|Ah rfl<|Ah rfl<|Aa<|Ac<|Ab (Az rfl (K0.memA .hd)) ?_
 obtain ⟨y0,p4,h⟩:=bi h
 have k3:=Ay u0 (Tt s1 u1)
 refine Ba (.tuple #[.agg ((cs_TShare y0.1)).toArray,.agg ((cs_TShare y0.2.1)).toArray,vI y0.2.2]) body8 rfl (e3 rfl rfl rfl) (fun w9 hw9=>minority_Line_c n _ w9 (K0.hL0 hL hw9) y1 (K0.kd k3 hw9) (1:Int) (0:Int) p4) rfl<|Ae rfl<|Ab (Ag rfl rfl)<|Ab (Ag rfl rfl)<|Ab (Ag rfl rfl)<|Ai .plain rfl (Au zL K0) (fun u5 F4 z2 v1=>?_)
 refine Ai .plain rfl (Au zL z2) (fun v5 G4 A2 x1=>?_)
 refine AL (cs_TShare y0.1) A2 (.tl .hd) (onesB rfl) (fun x5 B2 z1=>?_)
 refine AL (cs_TShare y0.2.1) B2 .hd (onesB rfl) (fun y5 I1 A1=>?_)
 refine Ah rfl<|Aa<|Ac<|Ab (AK (vs:=[.string ⟨#[97]⟩]) (u:=.agg #[.string ⟨#[97]⟩,vI 0,vN,vN,vN,.bool false]) (e1 rfl) (fun w9=>by kernel_rfl))<|Ab (AK (vs:=[.string ⟨#[98]⟩]) (u:=.agg #[.string ⟨#[98]⟩,vI 0,vN,vN,vN,.bool false]) (e1 rfl) (fun w9=>by kernel_rfl)) ?_
 have M4:=Rep.nilAt (α:=Int) I1 L
 refine Ai .plain rfl (AT (α:=TUnit) (xs:=([(⟨⟨#[97]⟩,(0:Int),([]:List Int),([]:List Int),([]:List Int),false⟩:TUnit),(⟨⟨#[98]⟩,(0:Int),([]:List Int),([]:List Int),([]:List Int),false⟩:TUnit)]:List TUnit)) (vs:=[.agg #[.string ⟨#[97]⟩,vI 0,vN,vN,vN,.bool false],.agg #[.string ⟨#[98]⟩,vI 0,vN,vN,vN,.bool false]]) (ds' :=[.string ⟨#[97]⟩,vI 0,vN,vN,vN,.bool false,.string ⟨#[98]⟩,vI 0,vN,vN,vN,.bool false]) rfl I1 el26 rfl (e2 rfl rfl) (by kernel_rfl) rfl) (fun z5 b1 g1 B1=>?_)
 have v0:=Rep.nilAt (α:=Int) g1 L
 have Q2:=AM (cs:=[.string ⟨#[97]⟩,vI 0,vN,vN,vN,.bool false,.string ⟨#[98]⟩,vI 0,vN,vN,vN,.bool false]) (xs:=(([(⟨⟨#[97]⟩,(0:Int),([]:List Int),([]:List Int),([]:List Int),false⟩:TUnit),(⟨⟨#[98]⟩,(0:Int),([]:List Int),([]:List Int),([]:List Int),false⟩:TUnit)]:List TUnit):List TUnit)) g1 L (Ap (cs:=[.string ⟨#[97]⟩,vI 0,vN,vN,vN,.bool false]) (ds:=[.string ⟨#[98]⟩,vI 0,vN,vN,vN,.bool false]) (mk_TUnit ⟨#[97]⟩ (0:Int) ([]:List Int) v0 ([]:List Int) v0 ([]:List Int) v0 false) (Ap (cs:=[.string ⟨#[98]⟩,vI 0,vN,vN,vN,.bool false]) (ds:=[]) (mk_TUnit ⟨#[98]⟩ (0:Int) ([]:List Int) v0 ([]:List Int) v0 ([]:List Int) v0 false) (AS _ _)))
 refine Ab (AK (vs:=[(vS b1 2)]) (u:=.agg #[vI 0,vI 0,vI 0,(vS b1 2)]) (e1 rfl) (fun w9=>by kernel_rfl))<|Ai .plain rfl (AT (α:=Int) (xs:=([(0:Int),(1:Int)]:List Int)) (vs:=[vI 0,vI 1]) (ds' :=[vI 0,vI 1]) rfl g1 el59 rfl (e2 rfl rfl) (by kernel_rfl) rfl) (fun A5 k2 M0 R0=>?_)
 have R2:=AM (cs:=[vI 0,vI 1]) (xs:=(([(0:Int),(1:Int)]:List Int):List Int)) M0 L (Ap (cs:=[vI 0]) (ds:=[vI 1]) rfl (Ap (cs:=[vI 1]) (ds:=[]) rfl (AS _ _)))
 have p3:=Bb Q2 R0
 have E3:=Br (α:=TUnit) M0 (.tl .hd) p3 hL
 have P0:=St.delS M0 (.tl .hd)
 have U0:=St.delT M0 (.tl .hd)
 have F3:=Rep.at_ (α:=TUnit) (v:=(vS b1 2)) (xs:=([(⟨⟨#[97]⟩,(0:Int),([]:List Int),([]:List Int),([]:List Int),false⟩:TUnit),(⟨⟨#[98]⟩,(0:Int),([]:List Int),([]:List Int),([]:List Int),false⟩:TUnit)]:List TUnit)) P0 L E3
 have q3:=Bb R2 U0
 have G3:=Br (α:=Int) P0 .hd q3 hL
 have j1:=St.delS P0 .hd
 have V0:=St.delT P0 .hd
 have H3:=Rep.at_ (α:=Int) (v:=(vS k2 2)) (xs:=([(0:Int),(1:Int)]:List Int)) j1 L G3
 obtain ⟨C4,q4,h⟩:=bi h
 have s3:=Ay F3 V0
 refine By (fst:=[]) (cap:=[]) .plain body18 rfl (e4 rfl rfl rfl rfl) (fun w9 hw9=>minority_Shares_c n _ w9 (j1.hL hL hw9) (⟨(0:Int),(0:Int),(0:Int),([(⟨⟨#[97]⟩,(0:Int),([]:List Int),([]:List Int),([]:List Int),false⟩:TUnit),(⟨⟨#[98]⟩,(0:Int),([]:List Int),([]:List Int),([]:List Int),false⟩:TUnit)]:List TUnit)⟩:TRoll) (Aq s3 hw9) ([(0:Int),(1:Int)]:List Int) (Aq H3 hw9) (2:Int) (0:Int) q4) rfl (fun B5 c5 H2 ⟨U4,hu_,P4⟩=>?_)
 subst hu_
 obtain ⟨Q0,C1⟩:=j1.agr H2
 refine Ae rfl<|Ab (Ag rfl rfl)<|Ab (Ag rfl rfl)<|Ah rfl<|Ah rfl<|Aa<|Ak<|dt 57 tb6_5 (fun c0 d0=>?_)
 refine Af 0 1 c0 rfl d0 (fun _=>Aj rfl) rfl<|Af 1 3 c0 rfl d0 (fun _=>FV.eql (i:=g2.2) (j:=0) rfl rfl) rfl<|Af 2 7 c0 rfl d0 (fun _=>Aj rfl) rfl<|RD.ifd (s:=35) rfl h (fun p2 h=>?_) (fun p2 h=>?_)
 refine RD.vP 3 15 c0 rfl d0 (.yes rfl rfl) (fun _=>Aj rfl) rfl ?_
 obtain ⟨p0,P3,h⟩:=bi h
 refine RD.callq (i:=4) (m' :=31) (W:=144115188075855840) (tk c0) rfl d0 (v:=.agg ((cs_TShare p0)).toArray) (fst:=[]) (cap:=[]) (.yes rfl rfl) body9 rfl (e2 rfl rfl) (fun w9 hw9=>wardmotelaw29_of_c n _ w9 (Q0.hL0 hL hw9) (1:Int) (4:Int) P3) rfl ?_
 obtain ⟨j0,Q3,h⟩:=bi h
 refine RD.callq (i:=5) (m' :=63) (W:=144115188075855808) (tk c0) rfl d0 (v:=.agg ((cs_TShare j0)).toArray) (fst:=[]) (cap:=[]) (.yes rfl rfl) body9 rfl (e2 rfl rfl) (fun w9 hw9=>wardmotelaw29_of_c n _ w9 (Q0.hL0 hL hw9) (1:Int) (10:Int) Q3) rfl<|RD.nu 6 127 c0 rfl (.yes rfl rfl) rfl (AT (α:=TShare) (xs:=([p0,j0]:List TShare)) (vs:=[.agg ((cs_TShare p0)).toArray,.agg ((cs_TShare j0)).toArray]) (ds' :=(cs_TShare p0 ++ cs_TShare j0)) rfl Q0 el60 rfl (e2 rfl rfl) (by kernel_rfl) rfl) (fun d5 D4 t0 k1=>?_)
 have J2:=AM (cs:=(cs_TShare p0 ++ cs_TShare j0)) (xs:=(([p0,j0]:List TShare):List TShare)) t0 L (Ap (cs:=(cs_TShare p0)) (ds:=(cs_TShare j0)) (mk_TShare p0.fN p0.fD) (Ap (cs:=(cs_TShare j0)) (ds:=[]) (mk_TShare j0.fN j0.fD) (AS _ _)))
 obtain ⟨x4,R3,h⟩:=bi h
 have t3:=Tt v1 (Tt x1 (Tt z1 (Tt A1 (Tt B1 (Tt R0 (Tt U0 (Tt V0 (Tt C1 k1))))))))
 have U2:=Ay D3 t3
 refine RD.callq (i:=7) (m' :=255) (W:=144115188075855616) (tk c0) rfl d0 (v:=.bool x4) (fst:=[]) (cap:=[]) (.yes rfl rfl) body19 rfl (e2 rfl rfl) (fun w9 hw9=>slices_Equal_api_Share_api_Share_c n _ w9 (t0.hL0 hL hw9) g2.1 (t0.kd U2 hw9) ([p0,j0]:List TShare) (Aq (St.lend (α:=TShare) (L:=L) t0 .hd J2 hL) hw9) R3) rfl<|Af 8 511 c0 rfl d0 (fun _=>FV.pick_t rfl rfl) rfl<|Af 9 1023 c0 rfl d0 (fun _=>Aj rfl) rfl<|RD.ifb (s:=42) rfl h (fun q2 h=>?_) (fun q2 h=>?_)
 refine RD.val (i:=12) (m' :=5119) (W:=144115188075823104) (tk c0) rfl d0 (.yes rfl rfl) (Az rfl (t0.memA (.tl (.tl (.tl .hd))))) rfl<|RD.vP 13 13311 c0 rfl d0 (.yes rfl rfl) (fun _=>Aj rfl) rfl<|RD.nu 10 14335 c0 rfl (.yes rfl rfl) rfl (AT (α:=Int) (xs:=([(0:Int)]:List Int)) (vs:=[vI 0]) (ds' :=[vI 0]) rfl t0 el42 rfl (e1 rfl) (by kernel_rfl) rfl) (fun s4 F1 G0 J1=>?_)
 have K2:=AM (cs:=[vI 0]) (xs:=(([(0:Int)]:List Int):List Int)) G0 L (Ap (cs:=[vI 0]) (ds:=[]) rfl (AS _ _))
 have z3:=Br (α:=Int) G0 .hd K2 hL
 have H0:=St.delS G0 .hd
 have K1:=St.delT G0 .hd
 have W1:=Rep.at_ (α:=Int) (v:=(vS F1 1)) (xs:=([(0:Int)]:List Int)) H0 L z3
 refine Bp 11 16383 c0 rfl (.yes rfl rfl) body20 rfl (e1 rfl) (fun w9 hw9=>Calls.gives (wardmotelaw29_lists_c n _ w9 (H0.hL hL hw9) ([(0:Int)]:List Int) (Aq W1 hw9)) fun (w8:World) (u8:Value) ⟨b0_,hu_,s_⟩=>(⟨b0_,hu_,s_.from hw9⟩:∃ z0:Nat,u8 = Value.func (.func 46) #[] #[vP z0]∧St s4 w8 [.cells z0 [(vS F1 1)] 42])) rfl (fun g5 V4 H4 ⟨z0,I3,X1⟩=>?_)
 subst I3
 have c1:=mk_push1 H0 X1
 have p1:=mk_tr1 H0 X1
 obtain ⟨c2,U3,h⟩:=bi h
 refine RD.callq (i:=14) (m' :=32767) (W:=144115188075823104) (tk c0) rfl d0 (v:=.agg ((cs_TShare c2)).toArray) (fst:=[]) (cap:=[]) (.yes rfl rfl) body9 rfl (e2 rfl rfl) (fun w9 hw9=>wardmotelaw29_of_c n _ w9 (c1.hL0 hL hw9) (1:Int) (5:Int) U3) rfl ?_
 obtain ⟨d2,V3,h⟩:=bi h
 have U1:=Tt s1 (Tt u1 (Tt v1 (Tt x1 (Tt z1 (Tt A1 (Tt B1 (Tt R0 (Tt U0 (Tt V0 (Tt C1 (Tt k1 (Tt J1 (Tt K1 p1)))))))))))))
 have V2:=Ay u0 U1
 have V1:=Tt u1 (Tt v1 (Tt x1 (Tt z1 (Tt A1 (Tt B1 (Tt R0 (Tt U0 (Tt V0 (Tt C1 (Tt k1 (Tt J1 (Tt K1 p1))))))))))))
 have W2:=Ay E1 V1
 refine Bp 15 65535 c0 rfl (.yes rfl rfl) body21 rfl (e5 rfl rfl rfl rfl rfl) (fun w9 hw9=>minority_Majority_c n _ w9 (c1.hL hL hw9) y1 (Aq V2 hw9) ([(0:Int),(0:Int),(1:Int)]:List Int) (Aq W2 hw9) (2:Int) (0:Int) c2 V3) rfl (fun t4 W4 F2 ⟨Q4,hu_,A3⟩=>?_)
 subst hu_
 obtain ⟨q0,q1⟩:=c1.agr F2
 refine RD.vP 16 131071 c0 rfl d0 (.yes rfl rfl) (fun _=>Ag rfl rfl) rfl<|RD.vP 17 262143 c0 rfl d0 (.yes rfl rfl) (fun _=>Ag rfl rfl) rfl ?_
 obtain ⟨y4,W3,h⟩:=bi h
 have X2:=Ay W1 (Tt p1 q1)
 refine RD.callq (i:=18) (m' :=524287) (W:=144115188075331584) (tk c0) rfl d0 (v:=.bool y4) (fst:=[]) (cap:=[vP z0]) (.yes rfl rfl) body46 rfl (e2 rfl rfl) (fun w9 hw9=>wardmotelaw29_lists_1_c n _ w9 (q0.hL0 hL hw9) d2.1 (q0.kd A3 hw9) d2.2 ([(0:Int)]:List Int) (q0.kd X2 hw9) (fun j9 v9 h9=>hw9.cell0 ((q0.memA .hd) j9 v9 h9)) W3) rfl<|Af 19 1048575 c0 rfl d0 (fun _=>FV.pick_t rfl rfl) rfl<|Af 20 2097151 c0 rfl d0 (fun _=>Aj rfl) rfl<|RD.ifb (s:=53) rfl h (fun s2 h=>?_) (fun s2 h=>?_)
 refine RD.val (i:=22) (m' :=6291455) (W:=144115188059078656) (tk c0) rfl d0 (.yes rfl rfl) (Az rfl (q0.memA (.tl (.tl (.tl (.tl .hd)))))) rfl<|RD.vP 23 14680063 c0 rfl d0 (.yes rfl rfl) (fun _=>Aj rfl) rfl<|Bp 21 16777215 c0 rfl (.yes rfl rfl) body16 rfl (e2 rfl rfl) (fun w9 hw9=>Calls.gives (wardmotelaw29_is_c n _ w9 (q0.hL hL hw9) (20:Int) (77:Int)) fun (w8:World) (u8:Value) ⟨b0_,b1_,hu_,s_⟩=>(⟨b0_,b1_,hu_,s_.from hw9⟩:∃ A0 B0:Nat,u8 = Value.func (.func 41) #[] #[vP A0,vP B0]∧St t4 w8 [.cells A0 [vI 20] 3,.cells B0 [vI 77] 3])) rfl (fun u4 X4 I4 ⟨A0,B0,J3,Y1⟩=>?_)
 subst J3
 have g0:=mk_push2 q0 Y1
 have M1:=mk_tr2 q0 Y1
 obtain ⟨W0,X3,h⟩:=bi h
 have D1:=Tt U1 (Tt q1 M1)
 have Y2:=Ay u0 D1
 have u3:=Tt V1 (Tt q1 M1)
 have Z2:=Ay E1 u3
 refine RD.callq (i:=24) (m' :=33554431) (W:=144115188042301440) (tk c0) rfl d0 (v:=.tuple #[.agg ((cs_TShare W0.1)).toArray,vI W0.2]) (fst:=[]) (cap:=[]) (.yes rfl rfl) body22 rfl (e4 rfl rfl rfl rfl) (fun w9 hw9=>minority_Index_c n _ w9 (g0.hL0 hL hw9) y1 (g0.kd Y2 hw9) ([(0:Int),(0:Int),(1:Int)]:List Int) (g0.kd Z2 hw9) (2:Int) (0:Int) X3) rfl<|RD.vP 25 67108863 c0 rfl d0 (.yes rfl rfl) (fun _=>Ag rfl rfl) rfl<|RD.vP 26 134217727 c0 rfl d0 (.yes rfl rfl) (fun _=>Ag rfl rfl) rfl ?_
 obtain ⟨z4,Y3,h⟩:=bi h
 refine RD.callq (i:=27) (m' :=268435455) (W:=144115187807420416) (tk c0) rfl d0 (v:=.bool z4) (fst:=[]) (cap:=[vP A0,vP B0]) (.yes rfl rfl) body41 rfl (e2 rfl rfl) (fun w9 hw9=>wardmotelaw29_is_1_c n _ w9 (g0.hL0 hL hw9) W0.1 W0.2 (20:Int) (fun j9 v9 h9=>hw9.cell0 ((g0.memA .hd) j9 v9 h9)) (77:Int) (fun j9 v9 h9=>hw9.cell0 ((g0.memA (.tl .hd)) j9 v9 h9)) Y3) rfl<|Af 28 536870911 c0 rfl d0 (fun _=>FV.pick_t rfl rfl) rfl<|Af 29 1073741823 c0 rfl d0 (fun _=>Aj rfl) rfl<|RD.ifb (s:=62) rfl h (fun t2 h=>?_) (fun t2 h=>?_)
 obtain ⟨X0,Z3,h⟩:=bi h
 refine RD.callq (i:=30) (m' :=2147483647) (W:=144115177338437632) (tk c0) rfl d0 (v:=.agg ((cs_TShare X0)).toArray) (fst:=[]) (cap:=[]) (.yes rfl rfl) body9 rfl (e2 rfl rfl) (fun w9 hw9=>wardmotelaw29_of_c n _ w9 (g0.hL0 hL hw9) (14:Int) (9:Int) Z3) rfl ?_
 obtain ⟨Y0,b4,h⟩:=bi h
 refine RD.callq (i:=31) (m' :=4294967295) (W:=144115175190953984) (tk c0) rfl d0 (v:=.agg ((cs_TShare Y0)).toArray) (fst:=[]) (cap:=[]) (.yes rfl rfl) body9 rfl (e2 rfl rfl) (fun w9 hw9=>wardmotelaw29_of_c n _ w9 (g0.hL0 hL hw9) (-1:Int) (45:Int) b4) rfl<|RD.val (i:=33) (m' :=12884901887) (W:=144115170895986688) (tk c0) rfl d0 (.yes rfl rfl) (Az rfl (g0.memA (.tl (.tl (.tl (.tl (.tl (.tl .hd)))))))) rfl<|Bp 32 17179869183 c0 rfl (.yes rfl rfl) body23 rfl (e2 rfl rfl) (fun w9 hw9=>Calls.gives (wardmotelaw29_line_c n _ w9 (g0.hL hL hw9) X0 Y0) fun (w8:World) (u8:Value) ⟨b0_,b1_,hu_,s_⟩=>(⟨b0_,b1_,hu_,s_.from hw9⟩:∃ C0 D0:Nat,u8 = Value.func (.func 59) #[] #[vP C0,vP D0]∧St u4 w8 [.cells C0 (cs_TShare X0) 34,.cells D0 (cs_TShare Y0) 34])) rfl (fun v4 Y4 J4 ⟨C0,D0,K3,Z1⟩=>?_)
 subst K3
 have k0:=mk_push2 g0 Z1
 have P1:=mk_tr2 g0 Z1
 obtain ⟨x0,c4,h⟩:=bi h
 have b3:=Ay u0 (Tt D1 P1)
 refine RD.callq (i:=34) (m' :=34359738367) (W:=144115153716117504) (tk c0) rfl d0 (v:=.tuple #[.agg ((cs_TShare x0.1)).toArray,.agg ((cs_TShare x0.2.1)).toArray,vI x0.2.2]) (fst:=[]) (cap:=[]) (.yes rfl rfl) body8 rfl (e3 rfl rfl rfl) (fun w9 hw9=>minority_Line_c n _ w9 (k0.hL0 hL hw9) y1 (k0.kd b3 hw9) (0:Int) (0:Int) c4) rfl<|RD.vP 35 68719476735 c0 rfl d0 (.yes rfl rfl) (fun _=>Ag rfl rfl) rfl<|RD.vP 36 137438953471 c0 rfl d0 (.yes rfl rfl) (fun _=>Ag rfl rfl) rfl<|RD.vP 37 274877906943 c0 rfl d0 (.yes rfl rfl) (fun _=>Ag rfl rfl) rfl ?_
 obtain ⟨A4,d4,h⟩:=bi h
 refine RD.callq (i:=38) (m' :=549755813887) (W:=144114638320041984) (tk c0) rfl d0 (v:=.bool A4) (fst:=[]) (cap:=[vP C0,vP D0]) (.yes rfl rfl) body59 rfl (e3 rfl rfl rfl) (fun w9 hw9=>wardmotelaw29_line_1_c n _ w9 (k0.hL0 hL hw9) x0.1 x0.2.1 x0.2.2 X0 (fun j9 v9 h9=>hw9.cell0 ((k0.memA .hd) j9 v9 h9)) Y0 (fun j9 v9 h9=>hw9.cell0 ((k0.memA (.tl .hd)) j9 v9 h9)) d4) rfl<|Af 39 1099511627775 c0 rfl d0 (fun _=>FV.pick_t rfl rfl) rfl<|Af 40 2199023255551 c0 rfl d0 (fun _=>Aj rfl) rfl<|RD.ifb (s:=73) rfl h (fun u2 h=>?_) (fun u2 h=>?_)
 refine RD.val (i:=42) (m' :=6597069766655) (W:=144106391982833664) (tk c0) rfl d0 (.yes rfl rfl) (Az rfl (k0.memA (.tl (.tl (.tl (.tl (.tl (.tl (.tl (.tl .hd)))))))))) rfl<|Bp 41 8796093022207 c0 rfl (.yes rfl rfl) body16 rfl (e2 rfl rfl) (fun w9 hw9=>Calls.gives (wardmotelaw29_is_c n _ w9 (k0.hL hL hw9) (49:Int) (51:Int)) fun (w8:World) (u8:Value) ⟨b0_,b1_,hu_,s_⟩=>(⟨b0_,b1_,hu_,s_.from hw9⟩:∃ E0 F0:Nat,u8 = Value.func (.func 41) #[] #[vP E0,vP F0]∧St v4 w8 [.cells E0 [vI 49] 3,.cells F0 [vI 51] 3])) rfl (fun k5 Z4 K4 ⟨E0,F0,M3,b2⟩=>?_)
 subst M3
 have s0:=mk_push2 k0 b2
 have D2:=mk_tr2 k0 b2
 obtain ⟨Z0,g4,h⟩:=bi h
 have v3:=Tt D1 (Tt P1 D2)
 have c3:=Ay u0 v3
 refine RD.callq (i:=43) (m' :=17592186044415) (W:=144097595889811456) (tk c0) rfl d0 (v:=.tuple #[.agg ((cs_TShare Z0.1)).toArray,vI Z0.2]) (fst:=[]) (cap:=[]) (.yes rfl rfl) body13 rfl (e3 rfl rfl rfl) (fun w9 hw9=>minority_Fit_c n _ w9 (s0.hL0 hL hw9) y1 (s0.kd c3 hw9) (0:Int) (0:Int) g4) rfl<|RD.vP 44 35184372088831 c0 rfl d0 (.yes rfl rfl) (fun _=>Ag rfl rfl) rfl<|RD.vP 45 70368744177663 c0 rfl d0 (.yes rfl rfl) (fun _=>Ag rfl rfl) rfl ?_
 obtain ⟨B4,j4,h⟩:=bi h
 refine RD.callq (i:=46) (m' :=140737488355327) (W:=143974450587500544) (tk c0) rfl d0 (v:=.bool B4) (fst:=[]) (cap:=[vP E0,vP F0]) (.yes rfl rfl) body41 rfl (e2 rfl rfl) (fun w9 hw9=>wardmotelaw29_is_1_c n _ w9 (s0.hL0 hL hw9) Z0.1 Z0.2 (49:Int) (fun j9 v9 h9=>hw9.cell0 ((s0.memA .hd) j9 v9 h9)) (51:Int) (fun j9 v9 h9=>hw9.cell0 ((s0.memA (.tl .hd)) j9 v9 h9)) j4) rfl<|Af 47 281474976710655 c0 rfl d0 (fun _=>FV.pick_t rfl rfl) rfl<|Af 48 562949953421311 c0 rfl d0 (fun _=>Aj rfl) rfl<|RD.ifb (s:=81) rfl h (fun v2 h=>?_) (fun v2 h=>?_)
 refine RD.vP 49 1125899906842623 c0 rfl d0 (.yes rfl rfl) (fun _=>Aj rfl) rfl<|RD.vP 50 2251799813685247 c0 rfl d0 (.yes rfl rfl) (fun _=>FV.eql (i:=y0.2.2) (j:=2) rfl rfl) rfl<|Af 51 4503599627370495 c0 rfl d0 (fun _=>FV.pick_t rfl rfl) rfl<|Af 52 9007199254740991 c0 rfl d0 (fun _=>Aj rfl) rfl<|RD.ifd (s:=85) rfl h (fun x2 h=>?_) (fun x2 h=>?_)
 refine RD.vP 53 18014398509481983 c0 rfl d0 (.yes rfl rfl) (fun _=>Aj rfl) rfl<|RD.vP 54 36028797018963967 c0 rfl d0 (.yes rfl rfl) (fun _=>FV.eql (i:=C4.2) (j:=2) rfl rfl) rfl<|Af 55 72057594037927935 c0 rfl d0 (fun _=>FV.pick_t rfl rfl) rfl<|Af 56 144115188075855871 c0 rfl d0 (fun _=>AY rfl) rfl<|AH (dk c0)<|Am rfl<|Be hb0 Tryz.func6 rfl rfl ?_
 cases h
 exact s0.gv
 refine Bs 36028797018963967 2 [(53,86),(54,87)] (F:=[(85,false)]) (U:=[]) c0 d0 (.cons rfl .nil) .nil ?_
 dsimp only [offS,List.map]
 refine Af 55 72057594037927935 c0 rfl d0 (fun _=>Bh rfl rfl) rfl<|Af 56 144115188075855871 c0 rfl d0 (fun _=>AY rfl) rfl<|AH (dk c0)<|Am rfl<|Be hb0 Tryz.func6 rfl rfl ?_
 cases h
 exact s0.gv
 refine Bs 2251799813685247 6 [(49,82),(50,83)] (F:=[(81,false)]) (U:=[]) c0 d0 (.cons rfl .nil) .nil ?_
 dsimp only [offS,List.map]
 refine Af 51 4503599627370495 c0 rfl d0 (fun _=>Bh rfl rfl) rfl<|Af 52 9007199254740991 c0 rfl d0 (fun _=>Aj rfl) rfl<|Bs 36028797018963967 2 [(53,86),(54,87)] (F:=[(85,false)]) (U:=[]) c0 d0 (.cons rfl .nil) .nil ?_
 dsimp only [offS,List.map]
 refine Af 55 72057594037927935 c0 rfl d0 (fun _=>Bh rfl rfl) rfl<|Af 56 144115188075855871 c0 rfl d0 (fun _=>AY rfl) rfl<|AH (dk c0)<|Am rfl<|Be hb0 Tryz.func6 rfl rfl ?_
 cases h
 exact s0.gv
 refine Bs 140737488355327 10 [(41,74),(42,75),(43,76),(44,77),(45,78),(46,79)] (F:=[(73,false)]) (U:=[]) c0 d0 (.cons rfl .nil) .nil ?_
 dsimp only [offS,List.map]
 refine Af 47 281474976710655 c0 rfl d0 (fun _=>Bh rfl rfl) rfl<|Af 48 562949953421311 c0 rfl d0 (fun _=>Aj rfl) rfl<|Bs 2251799813685247 6 [(49,82),(50,83)] (F:=[(81,false)]) (U:=[]) c0 d0 (.cons rfl .nil) .nil ?_
 dsimp only [offS,List.map]
 refine Af 51 4503599627370495 c0 rfl d0 (fun _=>Bh rfl rfl) rfl<|Af 52 9007199254740991 c0 rfl d0 (fun _=>Aj rfl) rfl<|Bs 36028797018963967 2 [(53,86),(54,87)] (F:=[(85,false)]) (U:=[]) c0 d0 (.cons rfl .nil) .nil ?_
 dsimp only [offS,List.map]
 refine Af 55 72057594037927935 c0 rfl d0 (fun _=>Bh rfl rfl) rfl<|Af 56 144115188075855871 c0 rfl d0 (fun _=>AY rfl) rfl<|AH (dk c0)<|Am rfl<|Be hb0 Tryz.func6 rfl rfl ?_
 cases h
 exact k0.gv
 refine Bs 549755813887 18 [(30,63),(31,64),(32,65),(33,66),(34,67),(35,68),(36,69),(37,70),(38,71)] (F:=[(62,false)]) (U:=[]) c0 d0 (.cons rfl .nil) .nil ?_
 dsimp only [offS,List.map]
 refine Af 39 1099511627775 c0 rfl d0 (fun _=>Bh rfl rfl) rfl<|Af 40 2199023255551 c0 rfl d0 (fun _=>Aj rfl) rfl<|Bs 140737488355327 10 [(41,74),(42,75),(43,76),(44,77),(45,78),(46,79)] (F:=[(73,false)]) (U:=[]) c0 d0 (.cons rfl .nil) .nil ?_
 dsimp only [offS,List.map]
 refine Af 47 281474976710655 c0 rfl d0 (fun _=>Bh rfl rfl) rfl<|Af 48 562949953421311 c0 rfl d0 (fun _=>Aj rfl) rfl<|Bs 2251799813685247 6 [(49,82),(50,83)] (F:=[(81,false)]) (U:=[]) c0 d0 (.cons rfl .nil) .nil ?_
 dsimp only [offS,List.map]
 refine Af 51 4503599627370495 c0 rfl d0 (fun _=>Bh rfl rfl) rfl<|Af 52 9007199254740991 c0 rfl d0 (fun _=>Aj rfl) rfl<|Bs 36028797018963967 2 [(53,86),(54,87)] (F:=[(85,false)]) (U:=[]) c0 d0 (.cons rfl .nil) .nil ?_
 dsimp only [offS,List.map]
 refine Af 55 72057594037927935 c0 rfl d0 (fun _=>Bh rfl rfl) rfl<|Af 56 144115188075855871 c0 rfl d0 (fun _=>AY rfl) rfl<|AH (dk c0)<|Am rfl<|Be hb0 Tryz.func6 rfl rfl ?_
 cases h
 exact g0.gv
 refine Bs 268435455 29 [(21,54),(22,55),(23,56),(24,57),(25,58),(26,59),(27,60)] (F:=[(53,false)]) (U:=[]) c0 d0 (.cons rfl .nil) .nil ?_
 dsimp only [offS,List.map]
 refine Af 28 536870911 c0 rfl d0 (fun _=>Bh rfl rfl) rfl<|Af 29 1073741823 c0 rfl d0 (fun _=>Aj rfl) rfl<|Bs 549755813887 18 [(30,63),(31,64),(32,65),(33,66),(34,67),(35,68),(36,69),(37,70),(38,71)] (F:=[(62,false)]) (U:=[]) c0 d0 (.cons rfl .nil) .nil ?_
 dsimp only [offS,List.map]
 refine Af 39 1099511627775 c0 rfl d0 (fun _=>Bh rfl rfl) rfl<|Af 40 2199023255551 c0 rfl d0 (fun _=>Aj rfl) rfl<|Bs 140737488355327 10 [(41,74),(42,75),(43,76),(44,77),(45,78),(46,79)] (F:=[(73,false)]) (U:=[]) c0 d0 (.cons rfl .nil) .nil ?_
 dsimp only [offS,List.map]
 refine Af 47 281474976710655 c0 rfl d0 (fun _=>Bh rfl rfl) rfl<|Af 48 562949953421311 c0 rfl d0 (fun _=>Aj rfl) rfl<|Bs 2251799813685247 6 [(49,82),(50,83)] (F:=[(81,false)]) (U:=[]) c0 d0 (.cons rfl .nil) .nil ?_
 dsimp only [offS,List.map]
 refine Af 51 4503599627370495 c0 rfl d0 (fun _=>Bh rfl rfl) rfl<|Af 52 9007199254740991 c0 rfl d0 (fun _=>Aj rfl) rfl<|Bs 36028797018963967 2 [(53,86),(54,87)] (F:=[(85,false)]) (U:=[]) c0 d0 (.cons rfl .nil) .nil ?_
 dsimp only [offS,List.map]
 refine Af 55 72057594037927935 c0 rfl d0 (fun _=>Bh rfl rfl) rfl<|Af 56 144115188075855871 c0 rfl d0 (fun _=>AY rfl) rfl<|AH (dk c0)<|Am rfl<|Be hb0 Tryz.func6 rfl rfl ?_
 cases h
 exact q0.gv
 refine Bs 524287 38 [(10,43),(11,44),(12,45),(13,46),(14,47),(15,48),(16,49),(17,50),(18,51)] (F:=[(42,false)]) (U:=[]) c0 d0 (.cons rfl .nil) .nil ?_
 dsimp only [offS,List.map]
 refine Af 19 1048575 c0 rfl d0 (fun _=>Bh rfl rfl) rfl<|Af 20 2097151 c0 rfl d0 (fun _=>Aj rfl) rfl<|Bs 268435455 29 [(21,54),(22,55),(23,56),(24,57),(25,58),(26,59),(27,60)] (F:=[(53,false)]) (U:=[]) c0 d0 (.cons rfl .nil) .nil ?_
 dsimp only [offS,List.map]
 refine Af 28 536870911 c0 rfl d0 (fun _=>Bh rfl rfl) rfl<|Af 29 1073741823 c0 rfl d0 (fun _=>Aj rfl) rfl<|Bs 549755813887 18 [(30,63),(31,64),(32,65),(33,66),(34,67),(35,68),(36,69),(37,70),(38,71)] (F:=[(62,false)]) (U:=[]) c0 d0 (.cons rfl .nil) .nil ?_
 dsimp only [offS,List.map]
 refine Af 39 1099511627775 c0 rfl d0 (fun _=>Bh rfl rfl) rfl<|Af 40 2199023255551 c0 rfl d0 (fun _=>Aj rfl) rfl<|Bs 140737488355327 10 [(41,74),(42,75),(43,76),(44,77),(45,78),(46,79)] (F:=[(73,false)]) (U:=[]) c0 d0 (.cons rfl .nil) .nil ?_
 dsimp only [offS,List.map]
 refine Af 47 281474976710655 c0 rfl d0 (fun _=>Bh rfl rfl) rfl<|Af 48 562949953421311 c0 rfl d0 (fun _=>Aj rfl) rfl<|Bs 2251799813685247 6 [(49,82),(50,83)] (F:=[(81,false)]) (U:=[]) c0 d0 (.cons rfl .nil) .nil ?_
 dsimp only [offS,List.map]
 refine Af 51 4503599627370495 c0 rfl d0 (fun _=>Bh rfl rfl) rfl<|Af 52 9007199254740991 c0 rfl d0 (fun _=>Aj rfl) rfl<|Bs 36028797018963967 2 [(53,86),(54,87)] (F:=[(85,false)]) (U:=[]) c0 d0 (.cons rfl .nil) .nil ?_
 dsimp only [offS,List.map]
 refine Af 55 72057594037927935 c0 rfl d0 (fun _=>Bh rfl rfl) rfl<|Af 56 144115188075855871 c0 rfl d0 (fun _=>AY rfl) rfl<|AH (dk c0)<|Am rfl<|Be hb0 Tryz.func6 rfl rfl ?_
 cases h
 exact t0.gv
 refine Bs 255 49 [(3,36),(4,37),(5,38),(6,39),(7,40)] (F:=[(35,false)]) (U:=[]) c0 d0 (.cons rfl .nil) .nil ?_
 dsimp only [offS,List.map]
 refine Af 8 511 c0 rfl d0 (fun _=>Bh rfl rfl) rfl<|Af 9 1023 c0 rfl d0 (fun _=>Aj rfl) rfl<|Bs 524287 38 [(10,43),(11,44),(12,45),(13,46),(14,47),(15,48),(16,49),(17,50),(18,51)] (F:=[(42,false)]) (U:=[]) c0 d0 (.cons rfl .nil) .nil ?_
 dsimp only [offS,List.map]
 refine Af 19 1048575 c0 rfl d0 (fun _=>Bh rfl rfl) rfl<|Af 20 2097151 c0 rfl d0 (fun _=>Aj rfl) rfl<|Bs 268435455 29 [(21,54),(22,55),(23,56),(24,57),(25,58),(26,59),(27,60)] (F:=[(53,false)]) (U:=[]) c0 d0 (.cons rfl .nil) .nil ?_
 dsimp only [offS,List.map]
 refine Af 28 536870911 c0 rfl d0 (fun _=>Bh rfl rfl) rfl<|Af 29 1073741823 c0 rfl d0 (fun _=>Aj rfl) rfl<|Bs 549755813887 18 [(30,63),(31,64),(32,65),(33,66),(34,67),(35,68),(36,69),(37,70),(38,71)] (F:=[(62,false)]) (U:=[]) c0 d0 (.cons rfl .nil) .nil ?_
 dsimp only [offS,List.map]
 refine Af 39 1099511627775 c0 rfl d0 (fun _=>Bh rfl rfl) rfl<|Af 40 2199023255551 c0 rfl d0 (fun _=>Aj rfl) rfl<|Bs 140737488355327 10 [(41,74),(42,75),(43,76),(44,77),(45,78),(46,79)] (F:=[(73,false)]) (U:=[]) c0 d0 (.cons rfl .nil) .nil ?_
 dsimp only [offS,List.map]
 refine Af 47 281474976710655 c0 rfl d0 (fun _=>Bh rfl rfl) rfl<|Af 48 562949953421311 c0 rfl d0 (fun _=>Aj rfl) rfl<|Bs 2251799813685247 6 [(49,82),(50,83)] (F:=[(81,false)]) (U:=[]) c0 d0 (.cons rfl .nil) .nil ?_
 dsimp only [offS,List.map]
 refine Af 51 4503599627370495 c0 rfl d0 (fun _=>Bh rfl rfl) rfl<|Af 52 9007199254740991 c0 rfl d0 (fun _=>Aj rfl) rfl<|Bs 36028797018963967 2 [(53,86),(54,87)] (F:=[(85,false)]) (U:=[]) c0 d0 (.cons rfl .nil) .nil ?_
 dsimp only [offS,List.map]
 refine Af 55 72057594037927935 c0 rfl d0 (fun _=>Bh rfl rfl) rfl<|Af 56 144115188075855871 c0 rfl d0 (fun _=>AY rfl) rfl<|AH (dk c0)<|Am rfl<|Be hb0 Tryz.func6 rfl rfl ?_
 cases h
 exact Q0.gv
structure Tcalc where
  fbad:Bool
  deriving DecidableEq
instance:Rep Tcalc:=Rep.via (β:=Bool) fun x=>x.fbad
def wardmotelaw29_calc_keep_p (_n:Nat) (_a0:Tcalc) (a1:TShare) (a2:Int):Option TShare:=
  (if a2 = 0 then some a1 else none)
theorem wardmotelaw29_calc_keep_c (n:Nat) (L:List Nat) (w:World) (_hL:∀ b ∈ L,b < w.heap.size) (a0:Tcalc) {p0:Nat} (m0:∀ j9 v9,([.bool a0.fbad]:List Value)[j9]? = some v9 → w.cell? ((⟨p0,0,none⟩:Addr).add j9) = some v9) (a1:TShare) (a2:Int)  {r:TShare} (h:wardmotelaw29_calc_keep_p n a0 a1 a2 = some r) :
    Calls Tryz.prog 33 #[.pointer (some ⟨p0,0,none⟩),.agg ((cs_TShare a1)).toArray,vI a2] w (Gives w fun _ u=>u = .agg ((cs_TShare r)).toArray):=by
 unfold wardmotelaw29_calc_keep_p at h
 have hS0:=Ax w
 refine AE Tryz.func33 rfl rfl rfl (fun _ cs0 hb0=>?_)
 refine Ac<|Ai .plain rfl (Ar hS0 rfl rfl) (fun u0 j0 g0 q0=>?_)
 refine Ai .plain rfl (Au zL g0) (fun v0 k0 b0 s0=>?_)
 refine Aa<|Ak<|Ac<|Ae rfl<|Ab (FV.neq (i:=a2) (j:=0) rfl rfl)<|Aa<|MX.ifn rfl h (fun d0 h=>?_) (fun d0 h=>?_)
 refine Av<|Ac<|Ab (Az rfl (b0.memA (.tl .hd)))<|AL (cs_TShare a1) b0 .hd (onesB rfl) (fun x0 c0 t0=>?_)
 refine Aa<|Am rfl<|Al hb0 Tryz.func33 rfl (.cons (.many (cs:=(cs_TShare a1)) (by kernel_rfl) rfl (c0.memA .hd)) .nil) rfl ?_
 cases h
 exact c0.gv
 refine Ac<|Ae rfl<|Ab (FV.nilCheck rfl)<|Bf 0 rfl ?_
 cases h
theorem body33:bodyB Tryz.prog 33 = true:=by kernel_rfl
def wardmotelaw29_calc_mul_p (n:Nat) (a0:Tcalc) (a1:TShare) (a2:TShare):Option TShare:=
  (share_Mul_p n a1 a2).bind fun b0=>(wardmotelaw29_calc_keep_p n a0 b0.1 b0.2).bind fun c0=>some c0
theorem wardmotelaw29_calc_mul_c (n:Nat) (L:List Nat) (w:World) (hL:∀ b ∈ L,b < w.heap.size) (a0:Tcalc) {p0:Nat} (m0:∀ j9 v9,([.bool a0.fbad]:List Value)[j9]? = some v9 → w.cell? ((⟨p0,0,none⟩:Addr).add j9) = some v9) (a1:TShare) (a2:TShare)  {r:TShare} (h:wardmotelaw29_calc_mul_p n a0 a1 a2 = some r) :
    Calls Tryz.prog 11 #[.pointer (some ⟨p0,0,none⟩),.agg ((cs_TShare a1)).toArray,.agg ((cs_TShare a2)).toArray] w (Gives w fun _ u=>u = .agg ((cs_TShare r)).toArray):=by
 unfold wardmotelaw29_calc_mul_p at h
 have hS0:=Ax w
 refine AE Tryz.func11 rfl rfl rfl (fun _ cs0 hb0=>?_)
 refine Ac<|Ai .plain rfl (Ar hS0 rfl rfl) (fun B0 t0 j0 x0=>?_)
 refine Ai .plain rfl (Ar j0 rfl rfl) (fun C0 u0 k0 y0=>?_)
 refine Ai .plain rfl (Au zL k0) (fun D0 v0 b0 z0=>?_)
 refine Aa<|Ac<|Ae rfl<|Ab (Az rfl (b0.memA (.tl (.tl .hd))))<|Ab (Az rfl (b0.memA (.tl .hd))) ?_
 obtain ⟨c0,q0,h⟩:=bi h
 refine Ba (.tuple #[.agg ((cs_TShare c0.1)).toArray,vI c0.2]) body35 rfl (e2 rfl rfl) (fun w9 hw9=>share_Mul_c n _ w9 (b0.hL0 hL hw9) a1 a2 q0) rfl<|Ab (Ag rfl rfl)<|Ab (Ag rfl rfl) ?_
 obtain ⟨d0,s0,h⟩:=bi h
 refine Ba (.agg ((cs_TShare d0)).toArray) body33 rfl (e3 rfl rfl rfl) (fun w9 hw9=>wardmotelaw29_calc_keep_c n _ w9 (b0.hL0 hL hw9) a0 (fun j9 v9 h9=>hw9.cell0 ((fun j9 v9 h9=>b0.ag.cell0 (m0 j9 v9 h9)) j9 v9 h9)) c0.1 c0.2 s0) rfl<|AL (cs_TShare d0) b0 .hd (onesB rfl) (fun E0 g0 A0=>?_)
 refine Aa<|Am rfl<|Al hb0 Tryz.func11 rfl (.cons (.many (cs:=(cs_TShare d0)) (by kernel_rfl) rfl (g0.memA .hd)) .nil) rfl ?_
 cases h
 exact g0.gv
def wardmotelaw29_calc_add_p (n:Nat) (a0:Tcalc) (a1:TShare) (a2:TShare):Option TShare:=
  (share_Add_p n a1 a2).bind fun b0=>(wardmotelaw29_calc_keep_p n a0 b0.1 b0.2).bind fun c0=>some c0
theorem wardmotelaw29_calc_add_c (n:Nat) (L:List Nat) (w:World) (hL:∀ b ∈ L,b < w.heap.size) (a0:Tcalc) {p0:Nat} (m0:∀ j9 v9,([.bool a0.fbad]:List Value)[j9]? = some v9 → w.cell? ((⟨p0,0,none⟩:Addr).add j9) = some v9) (a1:TShare) (a2:TShare)  {r:TShare} (h:wardmotelaw29_calc_add_p n a0 a1 a2 = some r) :
    Calls Tryz.prog 12 #[.pointer (some ⟨p0,0,none⟩),.agg ((cs_TShare a1)).toArray,.agg ((cs_TShare a2)).toArray] w (Gives w fun _ u=>u = .agg ((cs_TShare r)).toArray):=by
 unfold wardmotelaw29_calc_add_p at h
 have hS0:=Ax w
 refine AE Tryz.func12 rfl rfl rfl (fun _ cs0 hb0=>?_)
 refine Ac<|Ai .plain rfl (Ar hS0 rfl rfl) (fun B0 t0 j0 x0=>?_)
 refine Ai .plain rfl (Ar j0 rfl rfl) (fun C0 u0 k0 y0=>?_)
 refine Ai .plain rfl (Au zL k0) (fun D0 v0 b0 z0=>?_)
 refine Aa<|Ac<|Ae rfl<|Ab (Az rfl (b0.memA (.tl (.tl .hd))))<|Ab (Az rfl (b0.memA (.tl .hd))) ?_
 obtain ⟨c0,q0,h⟩:=bi h
 refine Ba (.tuple #[.agg ((cs_TShare c0.1)).toArray,vI c0.2]) body36 rfl (e2 rfl rfl) (fun w9 hw9=>share_Add_c n _ w9 (b0.hL0 hL hw9) a1 a2 q0) rfl<|Ab (Ag rfl rfl)<|Ab (Ag rfl rfl) ?_
 obtain ⟨d0,s0,h⟩:=bi h
 refine Ba (.agg ((cs_TShare d0)).toArray) body33 rfl (e3 rfl rfl rfl) (fun w9 hw9=>wardmotelaw29_calc_keep_c n _ w9 (b0.hL0 hL hw9) a0 (fun j9 v9 h9=>hw9.cell0 ((fun j9 v9 h9=>b0.ag.cell0 (m0 j9 v9 h9)) j9 v9 h9)) c0.1 c0.2 s0) rfl<|AL (cs_TShare d0) b0 .hd (onesB rfl) (fun E0 g0 A0=>?_)
 refine Aa<|Am rfl<|Al hb0 Tryz.func12 rfl (.cons (.many (cs:=(cs_TShare d0)) (by kernel_rfl) rfl (g0.memA .hd)) .nil) rfl ?_
 cases h
 exact g0.gv
def tb15_1:List (Nat × Nat × Nat):=[(0,16,2),(1,32,16),(2,64,32),(4,128,64),(0,256,2),(16,512,256),(40,1024,640),(0,2048,2),(128,4096,2048),(256,8192,4096),(512,16384,8192),(0,32768,2),(2048,65536,32768),(4096,131072,65536),(8192,262144,131072),(0,524288,2),(32768,1048576,524288),(65536,2097152,1048576),(131072,4194304,2097152),(278528,8388608,4456448),(525376,16777216,8404992),(1048703,0,1028),(4194303,0,16777224)]
def wardmotelaw29_MinorityTwo_1_p (n:Nat) (a0:TUnit):Option (TShare × TShare):=
  (a0.fj[0]?).bind fun d0=>(wardmotelaw29_of_p n d0 a0.fG).bind fun j0=>(a0.fP[0]?).bind fun b0=>(a0.fP[1]?).bind fun g0=>(chk (b0 + g0)).bind fun c0=>(wardmotelaw29_of_p n b0 c0).bind fun k0=>some (j0,k0)
theorem wardmotelaw29_MinorityTwo_1_c (n:Nat) (L:List Nat) (w:World) (hL:∀ b ∈ L,b < w.heap.size) (a0:TUnit) {v0_2:Value} (h0_2:Rep.R w L [v0_2] a0.fj) {v0_3:Value} (h0_3:Rep.R w L [v0_3] a0.fP) {v0_4:Value} (h0_4:Rep.R w L [v0_4] a0.fParents)  {r:TShare × TShare} (h:wardmotelaw29_MinorityTwo_1_p n a0 = some r) :
    Calls Tryz.prog 15 #[.agg #[.string a0.fI,vI a0.fG,v0_2,v0_3,v0_4,.bool a0.fJ]] w (Gives w fun _ u=>u = .tuple #[.agg ((cs_TShare r.1)).toArray,.agg ((cs_TShare r.2)).toArray]):=by
 unfold wardmotelaw29_MinorityTwo_1_p at h
 have hS0:=Ax w
 refine AE Tryz.func15 rfl rfl rfl (fun _ cs0 hb0=>?_)
 refine Ac<|Ai .plain rfl (Ar hS0 rfl rfl) (fun C1 p1 B0 x1=>?_)
 refine Ai .plain rfl (Au zL B0) (fun D1 q1 C0 y1=>?_)
 refine Ai .plain rfl (Au zL C0) (fun E1 s1 d0 z1=>?_)
 refine Aa<|Ak<|dt 21 tb15_1 (fun b0 c0=>?_)
 refine Af 0 1 b0 rfl c0 (fun _=>AQ 2 rfl) rfl<|AA 1 3 7340108 b0 rfl c0 (AJ rfl ((d0.memA (.tl (.tl .hd))) 2 _ rfl)) rfl ?_
 obtain ⟨v0,X0,h⟩:=bi h
 have P0:=AP h0_2 d0
 obtain ⟨g1,t1,E0,J0,y0,R0,M0⟩:=Bo P0 X0
 have F0:y0 = [vI v0]:=R0; subst F0
 refine Af 2 7 b0 rfl c0 (fun _=>Bx 1 0 rfl E0 rfl rfl J0) rfl<|AA 3 15 7340096 b0 rfl c0 (AJ rfl (M0 0 _ rfl)) rfl<|Af 4 31 b0 rfl c0 (fun _=>AQ 1 rfl) rfl<|AA 5 63 7340096 b0 rfl c0 (AJ rfl ((d0.memA (.tl (.tl .hd))) 1 _ rfl)) rfl ?_
 obtain ⟨k0,b1,h⟩:=bi h
 refine BA 6 127 7340032 (.agg ((cs_TShare k0)).toArray) b0 rfl c0 body9 rfl (e2 rfl rfl) (fun w9 hw9=>wardmotelaw29_of_c n _ w9 (d0.hL0 hL hw9) v0 a0.fG b1) rfl<|Af 7 255 b0 rfl c0 (fun _=>AQ 3 rfl) rfl<|AA 8 511 7341568 b0 rfl c0 (AJ rfl ((d0.memA (.tl (.tl .hd))) 3 _ rfl)) rfl ?_
 obtain ⟨j0,Y0,h⟩:=bi h
 have u0:=AP h0_3 d0
 obtain ⟨j1,u1,q0,s0,z0,U0,t0⟩:=Bo u0 Y0
 have G0:z0 = [vI j0]:=U0; subst G0
 refine Af 9 1023 b0 rfl c0 (fun _=>Bx 1 0 rfl q0 rfl rfl s0) rfl<|AA 10 2047 7340032 b0 rfl c0 (AJ rfl (t0 0 _ rfl)) rfl<|Af 11 4095 b0 rfl c0 (fun _=>AQ 3 rfl) rfl<|AA 12 8191 7888896 b0 rfl c0 (AJ rfl ((d0.memA (.tl (.tl .hd))) 3 _ rfl)) rfl<|Af 13 16383 b0 rfl c0 (fun _=>Bx 1 0 rfl q0 rfl rfl s0) rfl<|AA 14 32767 7864320 b0 rfl c0 (AJ rfl (t0 0 _ rfl)) rfl<|Af 15 65535 b0 rfl c0 (fun _=>AQ 3 rfl) rfl<|AA 16 131071 8257536 b0 rfl c0 (AJ rfl ((d0.memA (.tl (.tl .hd))) 3 _ rfl)) rfl ?_
 obtain ⟨x0,Z0,h⟩:=bi h
 obtain ⟨k1,v1,H0,K0,A0,V0,Q0⟩:=Bo u0 Z0
 have I0:A0 = [vI x0]:=V0; subst I0
 refine Af 17 262143 b0 rfl c0 (fun _=>Bx 1 1 rfl H0 rfl rfl K0) rfl<|AA 18 524287 7864320 b0 rfl c0 (AJ rfl (Q0 0 _ rfl)) rfl ?_
 obtain ⟨d1,W0,h⟩:=bi h
 refine Af 19 1048575 b0 rfl c0 (fun _=>FV.addc (i:=j0) (j:=x0) rfl rfl W0) rfl ?_
 obtain ⟨p0,c1,h⟩:=bi h
 refine BA 20 2097151 6291456 (.agg ((cs_TShare p0)).toArray) b0 rfl c0 body9 rfl (e2 rfl rfl) (fun w9 hw9=>wardmotelaw29_of_c n _ w9 (d0.hL0 hL hw9) j0 d1 c1) rfl<|Bq 21 4194303 b0 rfl rfl .plain (Aw (news:=(cs_TShare k0)) d0 (.tl .hd) rfl rfl rfl rfl rfl rfl (onesB rfl)) (fun F1 D0 A1=>?_)
 refine Bq 22 8388607 b0 rfl rfl .plain (Aw (news:=(cs_TShare p0)) D0 .hd rfl rfl rfl rfl rfl rfl (onesB rfl)) (fun G1 g0 B1=>?_)
 refine AH (dk b0)<|Am rfl<|Al hb0 Tryz.func15 rfl (.cons (.many (cs:=(cs_TShare k0)) (by kernel_rfl) rfl (g0.memA (.tl .hd))) (.cons (.many (cs:=(cs_TShare p0)) (by kernel_rfl) rfl (g0.memA .hd)) .nil)) rfl ?_
 cases h
 exact g0.gv
def cs_A51 (x:UInt8 × UInt8 × UInt8 × UInt8):List Value:=[.int .u8 (x.1.toNat:Int),.int .u8 (x.2.1.toNat:Int),.int .u8 (x.2.2.1.toNat:Int),.int .u8 (x.2.2.2.toNat:Int)]
def tb5_8:List (Nat × Nat × Nat):=[(0,17179869184,32),(1,34359738368,17179869184),(0,68719476736,64),(4,137438953472,68719476736),(8,274877906944,137438953472),(16,549755813888,274877906944),(32,1099511627776,549755813888),(0,2199023255552,256),(0,4398046511104,128),(256,8796093022208,4398046511104),(512,17592186044416,8796093022208),(0,35184372088832,256),(2048,70368744177664,35184372088832),(5120,140737488355328,87960930222080),(8192,281474976710656,140737488355328),(0,562949953421312,128),(32768,1125899906842624,562949953421312),(65536,2251799813685248,1125899906842624),(0,4503599627370496,128),(262144,9007199254740992,4503599627370496),(524288,18014398509481984,9007199254740992),(1048576,36028797018963968,18014398509481984),(2228224,72057594037927936,38280596832649216),(4210880,144115188075855872,72342367549521920),(8388608,288230376151711744,144115188075855872),(16777218,576460752303423488,288230410511450112),(67108863,1152921504606846976,32),(134217727,0,1729382256910270464)]
def tb5_18:List (Nat × Nat × Nat):=[(0,5070602400912917605986812821504,65536),(1,10141204801825835211973625643008,5070602400912917605986812821504),(2,20282409603651670423947251286016,10141204801825835211973625643008),(4,40564819207303340847894502572032,20282409603651670423947251810304),(4,81129638414606681695789005144064,20282409603651670423947251318784),(4,162259276829213363391578010288128,20282409603651670423947251810304),(4,324518553658426726783156020576256,20282409603651670423947251302400),(4,649037107316853453566312041152512,20282409603651670423947251287040),(228,1298074214633706907132624082305024,1156097347408145214164993323302912),(284,2596148429267413814265248164610048,1440051081859268600100254841307136),(4,5192296858534827628530496329220096,20282409603651670423947251288064),(1540,10384593717069655257060992658440192,7808727697405893113219691745116160),(2052,20769187434139310514121985316880384,10404876126673306927484939909726208),(4608,41538374868278621028243970633760768,20769187434139310514121985316880384),(8192,83076749736557242056487941267521536,41538374868278621028243970634285056),(8192,166153499473114484112975882535043072,41538374868278621028243970633793536),(8192,332306998946228968225951765070086144,41538374868278621028243970634285056),(8192,664613997892457936451903530140172288,41538374868278621028243970633777152),(8192,1329227995784915872903807060280344576,41538374868278621028243970633764864),(466944,2658455991569831745807614120560689152,2367687367491881398609906326124363776),(581632,5316911983139663491615228241121378304,2949224615647782093005321914997014528),(8192,10633823966279326983230456482242756608,41538374868278621028243970633768960),(3153920,21267647932558653966460912964485513216,15992274324287269095873928693997895680),(4202496,42535295865117307932921825928971026432,21309186307426932587489156935119273984),(9437184,85070591730234615865843651857942052864,42535295865117307932921825928971026432),(16777216,170141183460469231731687303715884105728,85070591730234615865843651857942577152),(50331648,340282366920938463463374607431768211456,255211775190703847597530955573826158592),(83886080,680564733841876926926749214863536422912,425352958651173079329218259289710264320),(150994944,1361129467683753853853498429727072845824,765635325572111542792592866721478475776),(285212672,2722258935367507707706996859454145691648,1446200059413988469719342081585014898688)]
def tb5_21:List (Nat × Nat × Nat):=[(0,43556142965880123323311949751266331066368,262144),(1,87112285931760246646623899502532662132736,43556142965880123323311949751266331066368),(2,174224571863520493293247799005065324265472,87112285931760246646623899502532662132736),(4,348449143727040986586495598010130648530944,174224571863520493293247799005065324281856),(4,696898287454081973172991196020261297061888,174224571863520493293247799005065324265472),(28,1393796574908163946345982392040522594123776,1219572003044643453052734593035457269858304),(36,2787593149816327892691964784081045188247552,1568021146771684439639230191045587918389248),(127,16,2787593149816327892691964784081045188247552)]
def tb5_22:List (Nat × Nat × Nat):=[(0,5575186299632655785383929568162090376495104,0),(0,11150372599265311570767859136324180752990208,131072),(0,22300745198530623141535718272648361505980416,262144),(7,44601490397061246283071436545296723011960832,39026304097428590497687506977134632635465728),(15,16,44601490397061246283071436545296723011960832)]
theorem body6:bodyB Tryz.prog 6 = true:=by kernel_rfl
theorem body11:bodyB Tryz.prog 11 = true:=by kernel_rfl
theorem body12:bodyB Tryz.prog 12 = true:=by kernel_rfl
theorem body15:bodyB Tryz.prog 15 = true:=by kernel_rfl
def wardmotelaw29_MinorityTwo_p (n:Nat) (a0:UInt8 × UInt8 × UInt8 × UInt8) (a1:UInt8 × UInt8 × UInt8 × UInt8):Option Bool:=
  (wardmotelaw29_works_p n).bind fun x0=>(if x0 = true then (sadd ⟨#[117]⟩ ⟨#[97]⟩).bind fun q0=>(remI ((a0.2.1.toNat:Nat):Int) (((1 + a0.1.toNat) + 1:Nat):Int)).bind fun s0=>(app ([]:List TUnit) ([(⟨q0,((1 + a0.1.toNat:Nat):Int),([s0]:List Int),([((a0.2.2.1.toNat:Nat):Int),((1 + a0.2.2.2.toNat:Nat):Int)]:List Int),([]:List Int),false⟩:TUnit)]:List TUnit)).bind fun v0=>(sadd ⟨#[117]⟩ ⟨#[98]⟩).bind fun k0=>(remI ((a1.2.1.toNat:Nat):Int) (((1 + a1.1.toNat) + 1:Nat):Int)).bind fun p0=>(app v0 ([(⟨k0,((1 + a1.1.toNat:Nat):Int),([p0]:List Int),([((a1.2.2.1.toNat:Nat):Int),((1 + a1.2.2.2.toNat:Nat):Int)]:List Int),([]:List Int),false⟩:TUnit)]:List TUnit)).bind fun c0=>(c0[0]?).bind fun t0=>(wardmotelaw29_MinorityTwo_1_p n t0).bind fun d0=>(c0[1]?).bind fun u0=>(wardmotelaw29_MinorityTwo_1_p n u0).bind fun g0=>(minority_Line_p n (⟨(1:Int),(2:Int),(0:Int),c0⟩:TRoll) (0:Int) (0:Int)).bind fun b0=>(minority_Fit_p n (⟨(1:Int),(2:Int),(0:Int),c0⟩:TRoll) (0:Int) (0:Int)).bind fun j0=>(if d0.1 = g0.1 then (if b0.2.2 = 7 then some (decide (j0.2 = 7)) else some false) else (if b0.2.2 = 0 then (wardmotelaw29_calc_mul_p n (⟨false⟩:Tcalc) b0.1 d0.1).bind fun y0=>(wardmotelaw29_calc_add_p n (⟨false⟩:Tcalc) b0.2.1 y0).bind fun z0=>(if z0 = d0.2 then (wardmotelaw29_calc_mul_p n (⟨false⟩:Tcalc) b0.1 g0.1).bind fun A0=>(wardmotelaw29_calc_add_p n (⟨false⟩:Tcalc) b0.2.1 A0).bind fun B0=>(if B0 = g0.2 then (if d0.2 = g0.2 then (if j0.2 = 7 then (wardmotelaw29_of_p n (0:Int) (1:Int)).bind fun C0=>some (decide (b0.1 = C0)) else some false) else (wardmotelaw29_is_1_p n j0.1 j0.2 (1:Int) (1:Int)).bind fun D0=>some D0) else some false) else some false) else some false)) else some false)
theorem wardmotelaw29_MinorityTwo_c (n:Nat) (L:List Nat) (w:World) (hL:∀ b ∈ L,b < w.heap.size) (a0:UInt8 × UInt8 × UInt8 × UInt8) (a1:UInt8 × UInt8 × UInt8 × UInt8)  {r:Bool} (h:wardmotelaw29_MinorityTwo_p n a0 a1 = some r) :
    Calls Tryz.prog 5 #[.agg ((cs_A51 a0)).toArray,.agg ((cs_A51 a1)).toArray] w (Gives w fun _ u=>u = .bool r):=by
 unfold wardmotelaw29_MinorityTwo_p at h
 have hS0:=Ax w
 refine AE Tryz.func5 rfl rfl rfl (fun _ cs0 hb0=>?_)
 refine Ac<|Ai .plain rfl (Ar hS0 rfl rfl) (fun W8 c3 z3 c8=>?_)
 refine Ai .plain rfl (Ar z3 rfl rfl) (fun c9 d3 V1 g8=>?_)
 refine Ah rfl<|Aa<|Ak<|Ac ?_
 obtain ⟨c7,C6,h⟩:=bi h
 refine Ba (.bool c7) body6 rfl evs_nil (fun w9 hw9=>wardmotelaw29_works_c n _ w9 (V1.hL0 hL hw9)  C6) rfl<|Ab (FV.not rfl)<|Aa<|MX.ifnb rfl h (fun p3 h=>?_) (fun p3 h=>?_)
 refine Av<|Ac<|Ab (AK (vs:=[vI 1,vI 2]) (u:=.agg #[vI 1,vI 2,vI 0,vN]) (e2 rfl rfl) (fun w9=>by kernel_rfl))<|Ai .plain rfl (Au [vI 0,vI 0,vI 0,vN] V1) (fun d9 B0 D3 j8=>?_)
 refine AL [vI 1,vI 2,vI 0,vN] D3 .hd (onesB rfl) (fun H9 Y1 v8=>?_)
 refine Aa<|Ak<|Ac<|Ab (Az rfl (Y1.memA (.tl (.tl .hd))))<|Ab (Az rfl (Y1.memA (.tl .hd)))<|Ab (AK (vs:=[.agg ((cs_A51 a0)).toArray,.agg ((cs_A51 a1)).toArray]) (u:=.agg ((cs_A51 a0 ++ cs_A51 a1)).toArray) (e2 rfl rfl) (fun w9=>by kernel_rfl))<|Ae rfl<|Aa<|AB<|MX.loop1<|Ac<|Ab (Bm (i:=0) (j:=2) rfl rfl)<|Aa<|Ak<|AV rfl<|Av<|Ak<|AB<|Ac<|Ae rfl<|Ab (FV.idxN (cs:=(cs_A51 a0 ++ cs_A51 a1)) (k:=0) (m:=4) (len:=2) (by kernel_rfl) (by kernel_rfl) rfl rfl rfl (by omega) rfl)<|Ai .plain rfl (Au [.int .u8 0,.int .u8 0,.int .u8 0,.int .u8 0] Y1) (fun J9 k3 Y3 x8=>?_)
 refine Ah rfl<|AL (cs_A51 a0) Y3 .hd (onesB rfl) (fun X6 R0 y8=>?_)
 refine Aa<|Ac<|Ab (AI (m:=1) (k:=0) (len:=4) (by kernel_rfl) rfl rfl rfl (by omega))<|AZ rfl ((R0.memA .hd) 0 _ rfl) ?_
 have G8:=a0.1.toNat_lt
 refine Ab (FV.convN (i:=a0.1.toNat) Tryz.underlying5 Tryz.underlying3 rfl (by omega))<|Ab (Bl (i:=1) (j:=a0.1.toNat) rfl rfl (by omega))<|Ah rfl<|Aa<|dt 25 tb5_8 (fun g0 s0=>?_)
 refine Af 0 1 g0 rfl s0 (fun _=>AQ 3 rfl) rfl<|AA 1 3 234881024 g0 rfl s0 (AJ rfl ((R0.memA (.tl .hd)) 3 _ rfl)) rfl<|Af 2 7 g0 rfl s0 (fun _=>Aj rfl) rfl<|Af 3 15 g0 rfl s0 (fun _=>FV.add (i:=97) (j:=0) (r:=97) rfl rfl (by decide)) rfl<|Af 4 31 g0 rfl s0 (fun _=>FV.conv (i:=97) Tryz.underlying3 Tryz.underlying21 rfl (by decide)) rfl<|Af 5 63 g0 rfl s0 (fun _=>FV.convIS (i:=97) (r:=⟨#[97]⟩) Tryz.underlying21 Tryz.underlying9 rfl (by kernel_rfl)) rfl ?_
 obtain ⟨E0,p6,h⟩:=bi h
 refine Af 6 127 g0 rfl s0 (fun _=>FV.addS p6 rfl rfl) rfl<|Af 7 255 g0 rfl s0 (fun _=>Aj rfl) rfl<|Af 8 511 g0 rfl s0 (fun _=>AI (m:=1) (k:=1) (len:=4) (by kernel_rfl) rfl rfl rfl (by omega)) rfl<|AA 9 1023 260072448 g0 rfl s0 (AJ rfl ((R0.memA .hd) 1 _ rfl)) rfl ?_
 have H8:=a0.2.1.toNat_lt
 refine Af 10 2047 g0 rfl s0 (fun _=>FV.convN (i:=a0.2.1.toNat) Tryz.underlying5 Tryz.underlying3 rfl (by omega)) rfl<|Af 11 4095 g0 rfl s0 (fun _=>Aj rfl) rfl<|Af 12 8191 g0 rfl s0 (fun _=>Bl (i:=1 + a0.1.toNat) (j:=1) rfl rfl (by omega)) rfl ?_
 obtain ⟨p0,q6,h⟩:=bi h
 refine Af 13 16383 g0 rfl s0 (fun _=>FV.remc (i:=((a0.2.1.toNat:Nat):Int)) (j:=(((1 + a0.1.toNat) + 1:Nat):Int)) rfl rfl q6) rfl<|Af 15 49151 g0 rfl s0 (fun _=>AI (m:=1) (k:=2) (len:=4) (by kernel_rfl) rfl rfl rfl (by omega)) rfl<|AA 16 114687 264372224 g0 rfl s0 (AJ rfl ((R0.memA .hd) 2 _ rfl)) rfl ?_
 have I8:=a0.2.2.1.toNat_lt
 refine Af 17 245759 g0 rfl s0 (fun _=>FV.convN (i:=a0.2.2.1.toNat) Tryz.underlying5 Tryz.underlying3 rfl (by omega)) rfl<|Af 18 507903 g0 rfl s0 (fun _=>AI (m:=1) (k:=3) (len:=4) (by kernel_rfl) rfl rfl rfl (by omega)) rfl<|AA 19 1032191 267386880 g0 rfl s0 (AJ rfl ((R0.memA .hd) 3 _ rfl)) rfl ?_
 have J8:=a0.2.2.2.toNat_lt
 refine Af 20 2080767 g0 rfl s0 (fun _=>FV.convN (i:=a0.2.2.2.toNat) Tryz.underlying5 Tryz.underlying3 rfl (by omega)) rfl<|Af 21 4177919 g0 rfl s0 (fun _=>Bl (i:=1) (j:=a0.2.2.2.toNat) rfl rfl (by omega)) rfl<|RD.meet (α:=Value × (List Value) × Value × (List Value)) (fun ⟨t0,J0,u0,K0⟩=>[(5,vP B0),(25,.agg ((cs_A51 a0 ++ cs_A51 a1)).toArray),(26,vI 0),(35,vN),(40,.string E0),(41,vI ((1 + a0.1.toNat:Nat):Int)),(48,u0),(56,t0)]) (fun ⟨t0,J0,u0,K0⟩ k1=>St w k1 [.row w.heap.size 3 (Rep.size Int) t0 (([((a0.2.2.1.toNat:Nat):Int),((1 + a0.2.2.2.toNat:Nat):Int)]:List Int).length) J0,.row w.heap.size 3 (Rep.size Int) u0 (([p0]:List Int).length) K0,.cells B0 [vI 1,vI 2,vI 0,vN] 28]∧Tr X6 [.cells k3 (cs_A51 a0) 51,.cells B0 [vI 1,vI 2,vI 0,vN] 28,.cells d3 (cs_A51 a1) 51,.cells c3 (cs_A51 a0) 51] k1 [.row w.heap.size 3 (Rep.size Int) t0 (([((a0.2.2.1.toNat:Nat):Int),((1 + a0.2.2.2.toNat:Nat):Int)]:List Int).length) J0,.row w.heap.size 3 (Rep.size Int) u0 (([p0]:List Int).length) K0,.cells B0 [vI 1,vI 2,vI 0,vN] 28]∧Cells k1 (bl [.row w.heap.size 3 (Rep.size Int) t0 (([((a0.2.2.1.toNat:Nat):Int),((1 + a0.2.2.2.toNat:Nat):Int)]:List Int).length) J0,.row w.heap.size 3 (Rep.size Int) u0 (([p0]:List Int).length) K0,.cells B0 [vI 1,vI 2,vI 0,vN] 28] ++ L) J0 (([((a0.2.2.1.toNat:Nat):Int),((1 + a0.2.2.2.toNat:Nat):Int)]:List Int):List Int)∧Cells k1 (bl [.row w.heap.size 3 (Rep.size Int) t0 (([((a0.2.2.1.toNat:Nat):Int),((1 + a0.2.2.2.toNat:Nat):Int)]:List Int).length) J0,.row w.heap.size 3 (Rep.size Int) u0 (([p0]:List Int).length) K0,.cells B0 [vI 1,vI 2,vI 0,vN] 28] ++ L) K0 (([p0]:List Int):List Int)) 5 8388607 ?_ ?_
 rintro ⟨t0,J0,u0,K0⟩ k1 ⟨X0,b8,D4,E4⟩
 try dsimp only
 obtain ⟨g7,G7,M4⟩:=St.rowV (α:=Int) X0 (.tl .hd)
 obtain ⟨j7,H7,P4⟩:=St.rowV (α:=Int) X0 .hd
 refine Af 23 16777215 g0 rfl s0 (fun _=>AK (vs:=[.string E0,vI ((1 + a0.1.toNat:Nat):Int),u0,t0]) (u:=.agg #[.string E0,vI ((1 + a0.1.toNat:Nat):Int),u0,t0,vN,.bool false]) (e4 rfl rfl rfl rfl) (fun w9=>by rw [M4,P4]; try kernel_rfl)) rfl ?_
 have M5:=Br (α:=Int) X0 (.tl .hd) E4 hL
 have v1:=St.delS X0 (.tl .hd)
 have Z3:=St.delT X0 (.tl .hd)
 have K2:=Rep.at_ (α:=Int) (v:=u0) (xs:=([p0]:List Int)) v1 L M5
 have W4:=Bb D4 Z3
 have P5:=Br (α:=Int) v1 .hd W4 hL
 have Q1:=St.delS v1 .hd
 have B2:=St.delT v1 .hd
 have M2:=Rep.at_ (α:=Int) (v:=t0) (xs:=([((a0.2.2.1.toNat:Nat):Int),((1 + a0.2.2.2.toNat:Nat):Int)]:List Int)) Q1 L P5
 have A8:=Rep.nilAt (α:=Int) Q1 L
 have X4:=Ay K2 B2
 obtain ⟨k7,I7,t6,_⟩:=Rep.sl X4
 obtain ⟨p7,J7,u6,_⟩:=Rep.sl M2
 refine RD.nu 24 33554431 g0 rfl .plain rfl (AT (α:=TUnit) (xs:=([(⟨E0,((1 + a0.1.toNat:Nat):Int),([p0]:List Int),([((a0.2.2.1.toNat:Nat):Int),((1 + a0.2.2.2.toNat:Nat):Int)]:List Int),([]:List Int),false⟩:TUnit)]:List TUnit)) (vs:=[.agg #[.string E0,vI ((1 + a0.1.toNat:Nat):Int),u0,t0,vN,.bool false]]) (ds' :=[.string E0,vI ((1 + a0.1.toNat:Nat):Int),u0,t0,vN,.bool false]) rfl Q1 el26 rfl (e1 rfl) (by rw [t6,u6]; try kernel_rfl) rfl) (fun X8 v7 x1 C2=>?_)
 have Y4:=Ay K2 (Tt B2 C2)
 have Z4:=Ay M2 C2
 have Q5:=Rep.nilAt (α:=Int) x1 L
 have F4:=AM (cs:=[.string E0,vI ((1 + a0.1.toNat:Nat):Int),u0,t0,vN,.bool false]) (xs:=(([(⟨E0,((1 + a0.1.toNat:Nat):Int),([p0]:List Int),([((a0.2.2.1.toNat:Nat):Int),((1 + a0.2.2.2.toNat:Nat):Int)]:List Int),([]:List Int),false⟩:TUnit)]:List TUnit):List TUnit)) x1 L (Ap (cs:=[.string E0,vI ((1 + a0.1.toNat:Nat):Int),u0,t0,vN,.bool false]) (ds:=[]) (mk_TUnit E0 ((1 + a0.1.toNat:Nat):Int) ([p0]:List Int) Y4 ([((a0.2.2.1.toNat:Nat):Int),((1 + a0.2.2.2.toNat:Nat):Int)]:List Int) Z4 ([]:List Int) Q5 false) (AS _ _))
 have R1:=x1.nilRow 44 (Rep.size TUnit)
 have b4:=St.nilRowT x1 44 (Rep.size TUnit)
 have G4:=AM (cs:=[]) (xs:=([]:List TUnit)) R1 L (AS _ _)
 obtain ⟨q1,A6,h⟩:=bi h
 have b5:=Bb F4 b4
 refine BC (i:=25) (rk g0) (RO.doesL (m' :=67108863) (sk g0) rfl rfl .plain rfl (DoesL.app (α:=TUnit) (ys:=([(⟨E0,((1 + a0.1.toNat:Nat):Int),([p0]:List Int),([((a0.2.2.1.toNat:Nat):Int),((1 + a0.2.2.2.toNat:Nat):Int)]:List Int),([]:List Int),false⟩:TUnit)]:List TUnit)) A6 R1 (fun _ _=>.hd) el26 rfl rfl G4 (Src.row (α:=TUnit) R1 (.tl .hd) b5)) (fun v0 Y8 ⟨W0,U1,d8,H4⟩=>?_))
 refine BC (i:=26) (rk g0) (RO.val (m' :=134217727) (sk g0) rfl .plain rfl (AQ 3 rfl) ?_)
 refine Bq 27 268435455 g0 rfl rfl .plain (Bv (j:=3) (old:=[vI 1,vI 2,vI 0,vN]) (news:=[v0]) (new' :=[vI 1,vI 2,vI 0,v0]) U1 (.tl (.tl .hd)) rfl rfl rfl (St.c1 (α:=TUnit) U1 .hd) rfl rfl (o1 (St.o1 (α:=TUnit) U1 .hd)) rfl) (fun Z8 A3 c4=>?_)
 refine AH (dk g0)<|AC<|Ao<|Ab (FV.add (i:=0) (j:=1) (r:=1) rfl rfl (by decide))<|Ae rfl<|Aa<|MX.again1 ?_
 obtain ⟨B3,d4⟩:=AN A3 (.one .hd (.one (.tl .hd) .done))
 refine Ac<|Ab (Bm (i:=1) (j:=2) rfl rfl)<|Aa<|Ak<|AV rfl<|Av<|Ak<|AB<|Ac<|Ae rfl<|Ab (FV.idxN (cs:=(cs_A51 a0 ++ cs_A51 a1)) (k:=1) (m:=4) (len:=2) (by kernel_rfl) (by kernel_rfl) rfl rfl rfl (by omega) rfl)<|Ai .plain rfl (Au [.int .u8 0,.int .u8 0,.int .u8 0,.int .u8 0] B3) (fun b9 b3 C3 g4=>?_)
 refine Ah rfl<|AL (cs_A51 a1) C3 .hd (onesB rfl) (fun Q6 Q0 j4=>?_)
 refine Aa<|Ac<|Ab (AI (m:=1) (k:=0) (len:=4) (by kernel_rfl) rfl rfl rfl (by omega))<|AZ rfl ((Q0.memA .hd) 0 _ rfl) ?_
 have C8:=a1.1.toNat_lt
 refine Ab (FV.convN (i:=a1.1.toNat) Tryz.underlying5 Tryz.underlying3 rfl (by omega))<|Ab (Bl (i:=1) (j:=a1.1.toNat) rfl rfl (by omega))<|Ah rfl<|Aa<|dt 25 tb5_8 (fun d0 q0=>?_)
 refine Af 0 1 d0 rfl q0 (fun _=>AQ 3 rfl) rfl<|AA 1 3 234881024 d0 rfl q0 (AJ rfl ((Q0.memA (.tl (.tl .hd))) 3 _ rfl)) rfl<|Af 2 7 d0 rfl q0 (fun _=>Aj rfl) rfl<|Af 3 15 d0 rfl q0 (fun _=>FV.add (i:=97) (j:=1) (r:=98) rfl rfl (by decide)) rfl<|Af 4 31 d0 rfl q0 (fun _=>FV.conv (i:=98) Tryz.underlying3 Tryz.underlying21 rfl (by decide)) rfl<|Af 5 63 d0 rfl q0 (fun _=>FV.convIS (i:=98) (r:=⟨#[98]⟩) Tryz.underlying21 Tryz.underlying9 rfl (by kernel_rfl)) rfl ?_
 obtain ⟨D0,j6,h⟩:=bi h
 refine Af 6 127 d0 rfl q0 (fun _=>FV.addS j6 rfl rfl) rfl<|Af 7 255 d0 rfl q0 (fun _=>Aj rfl) rfl<|Af 8 511 d0 rfl q0 (fun _=>AI (m:=1) (k:=1) (len:=4) (by kernel_rfl) rfl rfl rfl (by omega)) rfl<|AA 9 1023 260072448 d0 rfl q0 (AJ rfl ((Q0.memA .hd) 1 _ rfl)) rfl ?_
 have D8:=a1.2.1.toNat_lt
 refine Af 10 2047 d0 rfl q0 (fun _=>FV.convN (i:=a1.2.1.toNat) Tryz.underlying5 Tryz.underlying3 rfl (by omega)) rfl<|Af 11 4095 d0 rfl q0 (fun _=>Aj rfl) rfl<|Af 12 8191 d0 rfl q0 (fun _=>Bl (i:=1 + a1.1.toNat) (j:=1) rfl rfl (by omega)) rfl ?_
 obtain ⟨k0,k6,h⟩:=bi h
 refine Af 13 16383 d0 rfl q0 (fun _=>FV.remc (i:=((a1.2.1.toNat:Nat):Int)) (j:=(((1 + a1.1.toNat) + 1:Nat):Int)) rfl rfl k6) rfl<|Af 15 49151 d0 rfl q0 (fun _=>AI (m:=1) (k:=2) (len:=4) (by kernel_rfl) rfl rfl rfl (by omega)) rfl<|AA 16 114687 264372224 d0 rfl q0 (AJ rfl ((Q0.memA .hd) 2 _ rfl)) rfl ?_
 have E8:=a1.2.2.1.toNat_lt
 refine Af 17 245759 d0 rfl q0 (fun _=>FV.convN (i:=a1.2.2.1.toNat) Tryz.underlying5 Tryz.underlying3 rfl (by omega)) rfl<|Af 18 507903 d0 rfl q0 (fun _=>AI (m:=1) (k:=3) (len:=4) (by kernel_rfl) rfl rfl rfl (by omega)) rfl<|AA 19 1032191 267386880 d0 rfl q0 (AJ rfl ((Q0.memA .hd) 3 _ rfl)) rfl ?_
 have F8:=a1.2.2.2.toNat_lt
 refine Af 20 2080767 d0 rfl q0 (fun _=>FV.convN (i:=a1.2.2.2.toNat) Tryz.underlying5 Tryz.underlying3 rfl (by omega)) rfl<|Af 21 4177919 d0 rfl q0 (fun _=>Bl (i:=1) (j:=a1.2.2.2.toNat) rfl rfl (by omega)) rfl<|RD.meet (α:=Value × (List Value) × Value × (List Value)) (fun ⟨x0,M0,y0,P0⟩=>[(5,vP B0),(25,.agg ((cs_A51 a0 ++ cs_A51 a1)).toArray),(26,vI 1),(35,v0),(40,.string D0),(41,vI ((1 + a1.1.toNat:Nat):Int)),(48,y0),(56,x0)]) (fun ⟨x0,M0,y0,P0⟩ p1=>St w p1 [.row w.heap.size 3 (Rep.size Int) x0 (([((a1.2.2.1.toNat:Nat):Int),((1 + a1.2.2.2.toNat:Nat):Int)]:List Int).length) M0,.row w.heap.size 3 (Rep.size Int) y0 (([k0]:List Int).length) P0,.row w.heap.size 44 (Rep.size TUnit) v0 q1.length W0,.cells B0 [vI 1,vI 2,vI 0,v0] 28]∧Tr Q6 [.cells b3 (cs_A51 a1) 51,.row w.heap.size 44 (Rep.size TUnit) v0 q1.length W0,.cells B0 [vI 1,vI 2,vI 0,v0] 28] p1 [.row w.heap.size 3 (Rep.size Int) x0 (([((a1.2.2.1.toNat:Nat):Int),((1 + a1.2.2.2.toNat:Nat):Int)]:List Int).length) M0,.row w.heap.size 3 (Rep.size Int) y0 (([k0]:List Int).length) P0,.row w.heap.size 44 (Rep.size TUnit) v0 q1.length W0,.cells B0 [vI 1,vI 2,vI 0,v0] 28]∧Cells p1 (bl [.row w.heap.size 3 (Rep.size Int) x0 (([((a1.2.2.1.toNat:Nat):Int),((1 + a1.2.2.2.toNat:Nat):Int)]:List Int).length) M0,.row w.heap.size 3 (Rep.size Int) y0 (([k0]:List Int).length) P0,.row w.heap.size 44 (Rep.size TUnit) v0 q1.length W0,.cells B0 [vI 1,vI 2,vI 0,v0] 28] ++ L) M0 (([((a1.2.2.1.toNat:Nat):Int),((1 + a1.2.2.2.toNat:Nat):Int)]:List Int):List Int)∧Cells p1 (bl [.row w.heap.size 3 (Rep.size Int) x0 (([((a1.2.2.1.toNat:Nat):Int),((1 + a1.2.2.2.toNat:Nat):Int)]:List Int).length) M0,.row w.heap.size 3 (Rep.size Int) y0 (([k0]:List Int).length) P0,.row w.heap.size 44 (Rep.size TUnit) v0 q1.length W0,.cells B0 [vI 1,vI 2,vI 0,v0] 28] ++ L) P0 (([k0]:List Int):List Int)) 5 8388607 ?_ ?_
 rintro ⟨x0,M0,y0,P0⟩ p1 ⟨b1,k4,I4,J4⟩
 try dsimp only
 obtain ⟨q7,K7,Q4⟩:=St.rowV (α:=Int) b1 (.tl .hd)
 obtain ⟨s7,M7,R4⟩:=St.rowV (α:=Int) b1 .hd
 refine Af 23 16777215 d0 rfl q0 (fun _=>AK (vs:=[.string D0,vI ((1 + a1.1.toNat:Nat):Int),y0,x0]) (u:=.agg #[.string D0,vI ((1 + a1.1.toNat:Nat):Int),y0,x0,vN,.bool false]) (e4 rfl rfl rfl rfl) (fun w9=>by rw [Q4,R4]; try kernel_rfl)) rfl ?_
 have R5:=Br (α:=Int) b1 (.tl .hd) J4 hL
 have y1:=St.delS b1 (.tl .hd)
 have D2:=St.delT b1 (.tl .hd)
 have P2:=Rep.at_ (α:=Int) (v:=y0) (xs:=([k0]:List Int)) y1 L R5
 have c5:=Bb I4 D2
 have U5:=Br (α:=Int) y1 .hd c5 hL
 have W1:=St.delS y1 .hd
 have Z1:=St.delT y1 .hd
 have Q2:=Rep.at_ (α:=Int) (v:=x0) (xs:=([((a1.2.2.1.toNat:Nat):Int),((1 + a1.2.2.2.toNat:Nat):Int)]:List Int)) W1 L U5
 have B8:=Rep.nilAt (α:=Int) W1 L
 have d5:=Ay P2 Z1
 obtain ⟨t7,P7,v6,_⟩:=Rep.sl d5
 obtain ⟨u7,Q7,x6,_⟩:=Rep.sl Q2
 refine RD.nu 24 33554431 d0 rfl .plain rfl (AT (α:=TUnit) (xs:=([(⟨D0,((1 + a1.1.toNat:Nat):Int),([k0]:List Int),([((a1.2.2.1.toNat:Nat):Int),((1 + a1.2.2.2.toNat:Nat):Int)]:List Int),([]:List Int),false⟩:TUnit)]:List TUnit)) (vs:=[.agg #[.string D0,vI ((1 + a1.1.toNat:Nat):Int),y0,x0,vN,.bool false]]) (ds' :=[.string D0,vI ((1 + a1.1.toNat:Nat):Int),y0,x0,vN,.bool false]) rfl W1 el26 rfl (e1 rfl) (by rw [v6,x6]; try kernel_rfl) rfl) (fun g9 x7 z1 b2=>?_)
 have g5:=Ay P2 (Tt Z1 b2)
 have j5:=Ay Q2 b2
 have V5:=Rep.nilAt (α:=Int) z1 L
 have K4:=AM (cs:=[.string D0,vI ((1 + a1.1.toNat:Nat):Int),y0,x0,vN,.bool false]) (xs:=(([(⟨D0,((1 + a1.1.toNat:Nat):Int),([k0]:List Int),([((a1.2.2.1.toNat:Nat):Int),((1 + a1.2.2.2.toNat:Nat):Int)]:List Int),([]:List Int),false⟩:TUnit)]:List TUnit):List TUnit)) z1 L (Ap (cs:=[.string D0,vI ((1 + a1.1.toNat:Nat):Int),y0,x0,vN,.bool false]) (ds:=[]) (mk_TUnit D0 ((1 + a1.1.toNat:Nat):Int) ([k0]:List Int) g5 ([((a1.2.2.1.toNat:Nat):Int),((1 + a1.2.2.2.toNat:Nat):Int)]:List Int) j5 ([]:List Int) V5 false) (AS _ _))
 obtain ⟨V2,B6,h⟩:=bi h
 have F5:=Tt c4 (Tt d4 (Tt g4 (Tt j4 (Tt k4 (Tt D2 (Tt Z1 b2))))))
 have k5:=Bb H4 F5
 refine BC (i:=25) (rk d0) (RO.doesL (m' :=67108863) (sk d0) rfl rfl .plain rfl (DoesL.app (α:=TUnit) (ys:=([(⟨D0,((1 + a1.1.toNat:Nat):Int),([k0]:List Int),([((a1.2.2.1.toNat:Nat):Int),((1 + a1.2.2.2.toNat:Nat):Int)]:List Int),([]:List Int),false⟩:TUnit)]:List TUnit)) B6 z1 (fun _ _=>(.tl .hd)) el26 rfl rfl k5 (Src.row (α:=TUnit) z1 .hd K4)) (fun U2 k9 ⟨X7,X1,k8,H1⟩=>?_))
 refine BC (i:=26) (rk d0) (RO.val (m' :=134217727) (sk d0) rfl .plain rfl (AQ 3 rfl) ?_)
 refine Bq 27 268435455 d0 rfl rfl .plain (Bv (j:=3) (old:=[vI 1,vI 2,vI 0,v0]) (news:=[U2]) (new' :=[vI 1,vI 2,vI 0,U2]) X1 (.tl (.tl .hd)) rfl rfl rfl (St.c1 (α:=TUnit) X1 (.tl .hd)) rfl rfl (o1 (St.o1 (α:=TUnit) X1 (.tl .hd))) rfl) (fun p9 E3 E2=>?_)
 refine AH (dk d0)<|AC<|Ao<|Ab (FV.add (i:=1) (j:=1) (r:=2) rfl rfl (by decide))<|Ae rfl<|Aa<|MX.again1 ?_
 obtain ⟨H0,F2⟩:=AN E3 (.one (.tl .hd) (.one (.tl .hd) .done))
 refine Ac<|Ab (Bm (i:=2) (j:=2) rfl rfl)<|Aa<|Ak<|Bu rfl<|Bj rfl<|Ac<|Ah rfl<|Aa<|Ac<|Ae rfl<|Bf 3 rfl<|AZ rfl ((H0.memA (.tl .hd)) 3 _ rfl) ?_
 obtain ⟨Z6,y6,h⟩:=bi h
 have q5:=Bb H1 (Tt E2 F2)
 obtain ⟨Y2,R7,t2,G2,Y7,W5,p5⟩:=St.nth (α:=TUnit) H0 .hd q5 y6
 obtain ⟨g3,U7,U4⟩:=St.nthOwn (α:=TUnit) H0 .hd G2
 obtain rfl:Y2 = ⟨g3,0,none⟩:=by rw [U4] at t2; cases t2; rfl
 obtain ⟨K8,M8,P8,rfl,X5,Y5,Z5⟩:=op_TUnit W5
 refine Ab (Bx 6 0 rfl t2 rfl rfl G2)<|Ab (Az rfl p5) ?_
 obtain ⟨F0,D6,h⟩:=bi h
 refine Ba (.tuple #[.agg ((cs_TShare F0.1)).toArray,.agg ((cs_TShare F0.2)).toArray]) body15 rfl (e1 rfl) (fun w9 hw9=>wardmotelaw29_MinorityTwo_1_c n _ w9 (H0.hL0 hL hw9) Z6 (H0.kd X5 hw9) (H0.kd Y5 hw9) (H0.kd Z5 hw9) D6) rfl<|Ae rfl<|Ab (Ag rfl rfl)<|Ab (Ag rfl rfl)<|Ai .plain rfl (Au zL H0) (fun q9 y7 F3 p4=>?_)
 refine Ai .plain rfl (Au zL F3) (fun s9 z7 G3 q4=>?_)
 refine AL (cs_TShare F0.1) G3 (.tl .hd) (onesB rfl) (fun t9 H3 s4=>?_)
 refine AL (cs_TShare F0.2) H3 .hd (onesB rfl) (fun u9 I0 t4=>?_)
 refine Aa<|Ac<|Ae rfl<|Bf 3 rfl<|Ab (AJ rfl ((I0.memA (.tl (.tl (.tl .hd)))) 3 _ rfl)) ?_
 obtain ⟨b7,z6,h⟩:=bi h
 have I2:=Tt E2 (Tt F2 (Tt p4 (Tt q4 (Tt s4 t4))))
 have t5:=Bb H1 I2
 obtain ⟨Z2,V7,u2,H2,Z7,b6,s5⟩:=St.nth (α:=TUnit) I0 (.tl (.tl .hd)) t5 z6
 obtain ⟨j3,W7,V4⟩:=St.nthOwn (α:=TUnit) I0 (.tl (.tl .hd)) H2
 obtain rfl:Z2 = ⟨j3,0,none⟩:=by rw [V4] at u2; cases u2; rfl
 obtain ⟨Q8,R8,U8,rfl,c6,d6,g6⟩:=op_TUnit b6
 refine Ab (Bx 6 1 rfl u2 rfl rfl H2)<|Ab (Az rfl s5) ?_
 obtain ⟨G0,E6,h⟩:=bi h
 refine Ba (.tuple #[.agg ((cs_TShare G0.1)).toArray,.agg ((cs_TShare G0.2)).toArray]) body15 rfl (e1 rfl) (fun w9 hw9=>wardmotelaw29_MinorityTwo_1_c n _ w9 (I0.hL0 hL hw9) b7 (I0.kd c6 hw9) (I0.kd d6 hw9) (I0.kd g6 hw9) E6) rfl<|Ae rfl<|Ab (Ag rfl rfl)<|Ab (Ag rfl rfl)<|Ai .plain rfl (Au zL I0) (fun x9 A7 I3 u4=>?_)
 refine Ai .plain rfl (Au zL I3) (fun y9 B7 J3 v4=>?_)
 refine AL (cs_TShare G0.1) J3 (.tl .hd) (onesB rfl) (fun z9 K3 x4=>?_)
 refine AL (cs_TShare G0.2) K3 .hd (onesB rfl) (fun A9 A1 y4=>?_)
 refine Aa<|Ac<|Ab (Az rfl (A1.memA (.tl (.tl (.tl (.tl (.tl .hd))))))) ?_
 obtain ⟨A0,F6,h⟩:=bi h
 have J2:=Tt I2 (Tt u4 (Tt v4 (Tt x4 y4)))
 have u5:=Bb H1 J2
 refine Ba (.tuple #[.agg ((cs_TShare A0.1)).toArray,.agg ((cs_TShare A0.2.1)).toArray,vI A0.2.2]) body8 rfl (e3 rfl rfl rfl) (fun w9 hw9=>minority_Line_c n _ w9 (A1.hL0 hL hw9) (⟨(1:Int),(2:Int),(0:Int),V2⟩:TRoll) (Aq (St.lend (α:=TUnit) (L:=L) A1 (.tl (.tl (.tl (.tl .hd)))) u5 hL) hw9) (0:Int) (0:Int) F6) rfl<|Ae rfl<|Ab (Ag rfl rfl)<|Ab (Ag rfl rfl)<|Ab (Ag rfl rfl)<|Ai .plain rfl (Au zL A1) (fun B9 C7 M3 z4=>?_)
 refine Ai .plain rfl (Au zL M3) (fun C9 D7 P3 A4=>?_)
 refine AL (cs_TShare A0.1) P3 (.tl .hd) (onesB rfl) (fun D9 Q3 B4=>?_)
 refine AL (cs_TShare A0.2.1) Q3 .hd (onesB rfl) (fun E9 B1 C4=>?_)
 refine Ah rfl<|Aa<|Ac<|Ab (Az rfl (B1.memA (.tl (.tl (.tl (.tl (.tl (.tl (.tl .hd))))))))) ?_
 obtain ⟨U0,G6,h⟩:=bi h
 have G5:=Tt J2 (Tt z4 (Tt A4 (Tt B4 C4)))
 have v5:=Bb H1 G5
 refine Ba (.tuple #[.agg ((cs_TShare U0.1)).toArray,vI U0.2]) body13 rfl (e3 rfl rfl rfl) (fun w9 hw9=>minority_Fit_c n _ w9 (B1.hL0 hL hw9) (⟨(1:Int),(2:Int),(0:Int),V2⟩:TRoll) (Aq (St.lend (α:=TUnit) (L:=L) B1 (.tl (.tl (.tl (.tl (.tl (.tl .hd)))))) v5 hL) hw9) (0:Int) (0:Int) G6) rfl<|Ae rfl<|Ab (Ag rfl rfl)<|Ab (Ag rfl rfl)<|Ai .plain rfl (Au zL B1) (fun F9 E7 R3 p8=>?_)
 refine AL (cs_TShare U0.1) R3 .hd (onesB rfl) (fun G9 d1 q8=>?_)
 refine Ah rfl<|Aa<|Ak<|Ac<|Ab (Az rfl (d1.memA (.tl (.tl (.tl (.tl (.tl (.tl .hd))))))))<|Ab (Az rfl (d1.memA (.tl (.tl (.tl (.tl .hd))))))<|Ab (FV.eqlV (v:=.agg ((cs_TShare F0.1)).toArray) (u:=.agg ((cs_TShare G0.1)).toArray) rfl rfl (eqlD_34 F0.1 G0.1))<|Aa<|AX rfl h (fun q3 h=>?_) (fun q3 h=>?_)
 refine Ac<|Ae rfl<|Ab (FV.eql (i:=A0.2.2) (j:=7) rfl rfl)<|Ae rfl<|RG.ifd (s:=96) rfl h (fun s3 h=>?_) (fun s3 h=>?_)
 refine AW (Aj rfl)<|AW (FV.eql (i:=U0.2) (j:=7) rfl rfl)<|RG.pt rfl rfl<|Ah rfl<|Aa<|Am rfl<|Be hb0 Tryz.func5 rfl rfl ?_
 cases h
 exact d1.gv
 refine AO<|AO<|RG.pf rfl rfl<|Ah rfl<|Aa<|Am rfl<|Be hb0 Tryz.func5 rfl rfl ?_
 cases h
 exact d1.gv
 refine Av<|Ac<|Ab (AK (vs:=[]) (u:=.agg #[.bool false]) evs_nil (fun w9=>by kernel_rfl))<|Ai .plain rfl (Ar d1 rfl rfl) (fun V6 F7 j0 s8=>?_)
 refine Ah rfl<|Aa<|Ak<|Ak<|dt 30 tb5_18 (fun b0 c0=>?_)
 refine Af 0 1 b0 rfl c0 (fun _=>Aj rfl) rfl<|Af 1 3 b0 rfl c0 (fun _=>FV.neq (i:=A0.2.2) (j:=0) rfl rfl) rfl<|Af 2 7 b0 rfl c0 (fun _=>Aj rfl) rfl<|RD.ifn (s:=104) rfl h (fun t3 h=>?_) (fun t3 h=>?_)
 refine RD.vP 3 15 b0 rfl c0 (.yes rfl rfl) (fun _=>Aj rfl) rfl<|RD.val (i:=4) (m' :=31) (W:=1073740288) (tk b0) rfl c0 (.yes rfl rfl) (Az rfl (j0.memA (.tl (.tl .hd)))) rfl<|RD.vP 5 63 b0 rfl c0 (.yes rfl rfl) (fun _=>Aj rfl) rfl<|RD.val (i:=6) (m' :=127) (W:=1073740544) (tk b0) rfl c0 (.yes rfl rfl) (Az rfl (j0.memA (.tl (.tl (.tl .hd))))) rfl<|RD.val (i:=7) (m' :=255) (W:=1073740544) (tk b0) rfl c0 (.yes rfl rfl) (Az rfl (j0.memA (.tl (.tl (.tl (.tl (.tl (.tl (.tl .hd))))))))) rfl ?_
 obtain ⟨W2,H6,h⟩:=bi h
 refine RD.callq (i:=8) (m' :=511) (W:=1073740288) (tk b0) rfl c0 (v:=.agg ((cs_TShare W2)).toArray) (fst:=[]) (cap:=[]) (.yes rfl rfl) body11 rfl (e3 rfl rfl rfl) (fun w9 hw9=>wardmotelaw29_calc_mul_c n _ w9 (j0.hL0 hL hw9) (⟨false⟩:Tcalc) (fun j9 v9 h9=>hw9.cell0 ((j0.memA .hd) j9 v9 h9)) A0.1 F0.1 H6) rfl ?_
 obtain ⟨v2,I6,h⟩:=bi h
 refine RD.callq (i:=9) (m' :=1023) (W:=1073739776) (tk b0) rfl c0 (v:=.agg ((cs_TShare v2)).toArray) (fst:=[]) (cap:=[]) (.yes rfl rfl) body12 rfl (e3 rfl rfl rfl) (fun w9 hw9=>wardmotelaw29_calc_add_c n _ w9 (j0.hL0 hL hw9) (⟨false⟩:Tcalc) (fun j9 v9 h9=>hw9.cell0 ((j0.memA .hd) j9 v9 h9)) A0.2.1 W2 I6) rfl<|RD.val (i:=10) (m' :=2047) (W:=1073739776) (tk b0) rfl c0 (.yes rfl rfl) (Az rfl (j0.memA (.tl (.tl (.tl (.tl (.tl (.tl .hd)))))))) rfl<|RD.vP 11 4095 b0 rfl c0 (.yes rfl rfl) (fun _=>FV.neqV (xs:=((cs_TShare v2)).toArray) (ys:=((cs_TShare F0.2)).toArray) rfl rfl (by kernel_rfl) (eqlD_34 v2 F0.2)) rfl<|Af 12 8191 b0 rfl c0 (fun _=>Bh rfl rfl) rfl<|Af 13 16383 b0 rfl c0 (fun _=>Aj rfl) rfl<|RD.ifn (s:=115) rfl h (fun u3 h=>?_) (fun u3 h=>?_)
 refine RD.vP 14 32767 b0 rfl c0 (.yes rfl rfl) (fun _=>Aj rfl) rfl<|RD.val (i:=15) (m' :=65535) (W:=1070596096) (tk b0) rfl c0 (.yes rfl rfl) (Az rfl (j0.memA (.tl (.tl .hd)))) rfl<|RD.vP 16 131071 b0 rfl c0 (.yes rfl rfl) (fun _=>Aj rfl) rfl<|RD.val (i:=17) (m' :=262143) (W:=1071120384) (tk b0) rfl c0 (.yes rfl rfl) (Az rfl (j0.memA (.tl (.tl (.tl .hd))))) rfl<|RD.val (i:=18) (m' :=524287) (W:=1071120384) (tk b0) rfl c0 (.yes rfl rfl) (Az rfl (j0.memA (.tl (.tl (.tl (.tl (.tl .hd))))))) rfl ?_
 obtain ⟨X2,J6,h⟩:=bi h
 refine RD.callq (i:=19) (m' :=1048575) (W:=1070596096) (tk b0) rfl c0 (v:=.agg ((cs_TShare X2)).toArray) (fst:=[]) (cap:=[]) (.yes rfl rfl) body11 rfl (e3 rfl rfl rfl) (fun w9 hw9=>wardmotelaw29_calc_mul_c n _ w9 (j0.hL0 hL hw9) (⟨false⟩:Tcalc) (fun j9 v9 h9=>hw9.cell0 ((j0.memA .hd) j9 v9 h9)) A0.1 G0.1 J6) rfl ?_
 obtain ⟨x2,K6,h⟩:=bi h
 refine RD.callq (i:=20) (m' :=2097151) (W:=1069547520) (tk b0) rfl c0 (v:=.agg ((cs_TShare x2)).toArray) (fst:=[]) (cap:=[]) (.yes rfl rfl) body12 rfl (e3 rfl rfl rfl) (fun w9 hw9=>wardmotelaw29_calc_add_c n _ w9 (j0.hL0 hL hw9) (⟨false⟩:Tcalc) (fun j9 v9 h9=>hw9.cell0 ((j0.memA .hd) j9 v9 h9)) A0.2.1 X2 K6) rfl<|RD.val (i:=21) (m' :=4194303) (W:=1069547520) (tk b0) rfl c0 (.yes rfl rfl) (Az rfl (j0.memA (.tl (.tl (.tl (.tl .hd)))))) rfl<|RD.vP 22 8388607 b0 rfl c0 (.yes rfl rfl) (fun _=>FV.neqV (xs:=((cs_TShare x2)).toArray) (ys:=((cs_TShare G0.2)).toArray) rfl rfl (by kernel_rfl) (eqlD_34 x2 G0.2)) rfl<|Af 23 16777215 b0 rfl c0 (fun _=>Bh rfl rfl) rfl<|Af 24 33554431 b0 rfl c0 (fun _=>Aj rfl) rfl<|RD.ifn (s:=126) rfl h (fun v3 h=>?_) (fun v3 h=>?_)
 refine RD.vP 25 67108863 b0 rfl c0 (.yes rfl rfl) (fun _=>Aj rfl) rfl<|RD.vP 26 134217727 b0 rfl c0 (.yes rfl rfl) (fun _=>FV.nilCheck rfl) rfl<|RD.vP 27 268435455 b0 rfl c0 (.yes rfl rfl) (fun _=>AQ 0 rfl) rfl<|RD.val (i:=28) (m' :=536870911) (W:=536870912) (tk b0) rfl c0 (.yes rfl rfl) (AJ rfl ((j0.memA .hd) 0 _ rfl)) rfl<|Af 29 1073741823 b0 rfl c0 (fun _=>Bh rfl rfl) rfl<|AH (dk b0)<|Bu rfl<|Av<|Ak<|Ac<|Ab (Az rfl (j0.memA (.tl (.tl (.tl (.tl (.tl (.tl .hd))))))))<|Ab (Az rfl (j0.memA (.tl (.tl (.tl (.tl .hd))))))<|Ab (FV.eqlV (v:=.agg ((cs_TShare F0.2)).toArray) (u:=.agg ((cs_TShare G0.2)).toArray) rfl rfl (eqlD_34 F0.2 G0.2))<|Aa<|AX rfl h (fun x3 h=>?_) (fun x3 h=>?_)
 refine Ak<|dt 8 tb5_21 (fun z0 C0=>?_)
 refine Af 0 1 z0 rfl C0 (fun _=>Aj rfl) rfl<|Af 1 3 z0 rfl C0 (fun _=>FV.eql (i:=U0.2) (j:=7) rfl rfl) rfl<|Af 2 7 z0 rfl C0 (fun _=>Aj rfl) rfl<|RD.ifd (s:=137) rfl h (fun y3 h=>?_) (fun y3 h=>?_)
 refine RD.val (i:=3) (m' :=15) (W:=224) (tk z0) rfl C0 (.yes rfl rfl) (Az rfl (j0.memA (.tl (.tl (.tl .hd))))) rfl ?_
 obtain ⟨y2,M6,h⟩:=bi h
 refine RD.callq (i:=4) (m' :=31) (W:=224) (tk z0) rfl C0 (v:=.agg ((cs_TShare y2)).toArray) (fst:=[]) (cap:=[]) (.yes rfl rfl) body9 rfl (e2 rfl rfl) (fun w9 hw9=>wardmotelaw29_of_c n _ w9 (j0.hL0 hL hw9) (0:Int) (1:Int) M6) rfl<|RD.vP 5 63 z0 rfl C0 (.yes rfl rfl) (fun _=>FV.eqlV (v:=.agg ((cs_TShare A0.1)).toArray) (u:=.agg ((cs_TShare y2)).toArray) rfl rfl (eqlD_34 A0.1 y2)) rfl<|Af 6 127 z0 rfl C0 (fun _=>FV.pick_t rfl rfl) rfl<|Af 7 255 z0 rfl C0 (fun _=>AY rfl) rfl<|AH (dk z0)<|Am rfl<|Be hb0 Tryz.func5 rfl rfl ?_
 cases h
 exact j0.gv
 refine Bs 63 2 [(3,138),(4,139),(5,140)] (F:=[(137,false)]) (U:=[]) z0 C0 (.cons rfl .nil) .nil ?_
 dsimp only [offS,List.map]
 refine Af 6 127 z0 rfl C0 (fun _=>Bh rfl rfl) rfl<|Af 7 255 z0 rfl C0 (fun _=>AY rfl) rfl<|AH (dk z0)<|Am rfl<|Be hb0 Tryz.func5 rfl rfl ?_
 cases h
 exact j0.gv
 refine Av<|Ak<|dt 5 tb5_22 (fun V0 I1=>?_)
 refine AA 1 2 24 V0 rfl I1 (Az rfl (j0.memA (.tl .hd))) rfl<|Af 2 6 V0 rfl I1 (fun _=>Aj rfl) rfl<|Bp 0 7 V0 rfl .plain body16 rfl (e2 rfl rfl) (fun w9 hw9=>Calls.gives (wardmotelaw29_is_c n _ w9 (j0.hL hL hw9) (1:Int) (1:Int)) fun (w8:World) (u8:Value) ⟨b0_,b1_,hu_,s_⟩=>(⟨b0_,b1_,hu_,s_.from hw9⟩:∃ s1 u1:Nat,u8 = Value.func (.func 41) #[] #[vP s1,vP u1]∧St V6 w8 [.cells s1 [vI 1] 3,.cells u1 [vI 1] 3])) rfl (fun I9 V8 z8 ⟨s1,u1,s6,R2⟩=>?_)
 subst s6
 have C1:=mk_push2 j0 R2
 have t8:=mk_tr2 j0 R2
 obtain ⟨d7,P6,h⟩:=bi h
 refine RD.callq (i:=3) (m' :=15) (W:=16) (tk V0) rfl I1 (v:=.bool d7) (fst:=[]) (cap:=[vP s1,vP u1]) .plain body41 rfl (e2 rfl rfl) (fun w9 hw9=>wardmotelaw29_is_1_c n _ w9 (C1.hL0 hL hw9) U0.1 U0.2 (1:Int) (fun j9 v9 h9=>hw9.cell0 ((C1.memA .hd) j9 v9 h9)) (1:Int) (fun j9 v9 h9=>hw9.cell0 ((C1.memA (.tl .hd)) j9 v9 h9)) P6) rfl<|Af 4 31 V0 rfl I1 (fun _=>AY rfl) rfl<|AH (dk V0)<|Am rfl<|Be hb0 Tryz.func5 rfl rfl ?_
 cases h
 exact C1.gv
 refine Bs 536870911 1 [(25,127),(26,128),(27,129),(28,130)] (F:=[(126,true)]) (U:=[]) b0 c0 (.cons rfl .nil) .nil ?_
 dsimp only [offS,List.map]
 refine Af 29 1073741823 b0 rfl c0 (fun _=>FV.pick_t rfl rfl) rfl<|AH (dk b0)<|AV rfl<|Ac<|Ah rfl<|Aa<|Am rfl<|Be hb0 Tryz.func5 rfl rfl ?_
 cases h
 exact j0.gv
 refine Bs 8388607 7 [(14,116),(15,117),(16,118),(17,119),(18,120),(19,121),(20,122),(21,123),(22,124)] (F:=[(115,true)]) (U:=[]) b0 c0 (.cons rfl .nil) .nil ?_
 dsimp only [offS,List.map]
 refine Af 23 16777215 b0 rfl c0 (fun _=>FV.pick_t rfl rfl) rfl<|Af 24 33554431 b0 rfl c0 (fun _=>Aj rfl) rfl<|Bs 536870911 1 [(25,127),(26,128),(27,129),(28,130)] (F:=[(126,true)]) (U:=[]) b0 c0 (.cons rfl .nil) .nil ?_
 dsimp only [offS,List.map]
 refine Af 29 1073741823 b0 rfl c0 (fun _=>FV.pick_t rfl rfl) rfl<|AH (dk b0)<|AV rfl<|Ac<|Ah rfl<|Aa<|Am rfl<|Be hb0 Tryz.func5 rfl rfl ?_
 cases h
 exact j0.gv
 refine Bs 4095 18 [(3,105),(4,106),(5,107),(6,108),(7,109),(8,110),(9,111),(10,112),(11,113)] (F:=[(104,true)]) (U:=[]) b0 c0 (.cons rfl .nil) .nil ?_
 dsimp only [offS,List.map]
 refine Af 12 8191 b0 rfl c0 (fun _=>FV.pick_t rfl rfl) rfl<|Af 13 16383 b0 rfl c0 (fun _=>Aj rfl) rfl<|Bs 8388607 7 [(14,116),(15,117),(16,118),(17,119),(18,120),(19,121),(20,122),(21,123),(22,124)] (F:=[(115,true)]) (U:=[]) b0 c0 (.cons rfl .nil) .nil ?_
 dsimp only [offS,List.map]
 refine Af 23 16777215 b0 rfl c0 (fun _=>FV.pick_t rfl rfl) rfl<|Af 24 33554431 b0 rfl c0 (fun _=>Aj rfl) rfl<|Bs 536870911 1 [(25,127),(26,128),(27,129),(28,130)] (F:=[(126,true)]) (U:=[]) b0 c0 (.cons rfl .nil) .nil ?_
 dsimp only [offS,List.map]
 refine Af 29 1073741823 b0 rfl c0 (fun _=>FV.pick_t rfl rfl) rfl<|AH (dk b0)<|AV rfl<|Ac<|Ah rfl<|Aa<|Am rfl<|Be hb0 Tryz.func5 rfl rfl ?_
 cases h
 exact j0.gv
 intro z2
 refine RD.each [14,22] (rk d0) ⟨?_,?_,trivial⟩
 refine RO.new (m' :=4194303) (sk d0) rfl .plain rfl (AT (α:=Int) (xs:=([k0]:List Int)) (vs:=[vI k0]) (ds' :=[vI k0]) rfl Q0 el42 rfl (e1 rfl) (by kernel_rfl) rfl) (fun R6 J1 Y0 D1=>?_)
 have k2:=AM (cs:=[vI k0]) (xs:=(([k0]:List Int):List Int)) Y0 L (Ap (cs:=[vI k0]) (ds:=[]) rfl (AS _ _))
 refine RD.nu 22 8388607 d0 rfl .plain rfl (AT (α:=Int) (xs:=([((a1.2.2.1.toNat:Nat):Int),((1 + a1.2.2.2.toNat:Nat):Int)]:List Int)) (vs:=[vI ((a1.2.2.1.toNat:Nat):Int),vI ((1 + a1.2.2.2.toNat:Nat):Int)]) (ds' :=[vI ((a1.2.2.1.toNat:Nat):Int),vI ((1 + a1.2.2.2.toNat:Nat):Int)]) rfl Y0 el42 rfl (e2 rfl rfl) (by kernel_rfl) rfl) (fun U6 K1 Z0 E1=>?_)
 have p2:=AM (cs:=[vI ((a1.2.2.1.toNat:Nat):Int),vI ((1 + a1.2.2.2.toNat:Nat):Int)]) (xs:=(([((a1.2.2.1.toNat:Nat):Int),((1 + a1.2.2.2.toNat:Nat):Int)]:List Int):List Int)) Z0 L (Ap (cs:=[vI ((a1.2.2.1.toNat:Nat):Int)]) (ds:=[vI ((1 + a1.2.2.2.toNat:Nat):Int)]) rfl (Ap (cs:=[vI ((1 + a1.2.2.2.toNat:Nat):Int)]) (ds:=[]) rfl (AS _ _)))
 obtain ⟨U3,c2⟩:=AN Z0 (.one .hd (.one .hd (.one (.tl .hd) (.one (.tl .hd) .done))))
 have x5:=Bb p2 c2
 have y5:=Bb k2 (Tt E1 c2)
 have H5:=Tt D1 (Tt E1 c2)
 exact z2 ((vS K1 2),[vI ((a1.2.2.1.toNat:Nat):Int),vI ((1 + a1.2.2.2.toNat:Nat):Int)],(vS J1 1),[vI k0]) _ _ ⟨rfl,rfl,rfl,rfl,rfl,rfl,rfl,rfl,trivial⟩ ⟨U3,H5,x5,y5⟩
 refine RO.new (m' :=8372223) (sk d0) rfl .plain rfl (AT (α:=Int) (xs:=([((a1.2.2.1.toNat:Nat):Int),((1 + a1.2.2.2.toNat:Nat):Int)]:List Int)) (vs:=[vI ((a1.2.2.1.toNat:Nat):Int),vI ((1 + a1.2.2.2.toNat:Nat):Int)]) (ds' :=[vI ((a1.2.2.1.toNat:Nat):Int),vI ((1 + a1.2.2.2.toNat:Nat):Int)]) rfl Q0 el42 rfl (e2 rfl rfl) (by kernel_rfl) rfl) (fun U6 K1 Z0 E1=>?_)
 have p2:=AM (cs:=[vI ((a1.2.2.1.toNat:Nat):Int),vI ((1 + a1.2.2.2.toNat:Nat):Int)]) (xs:=(([((a1.2.2.1.toNat:Nat):Int),((1 + a1.2.2.2.toNat:Nat):Int)]:List Int):List Int)) Z0 L (Ap (cs:=[vI ((a1.2.2.1.toNat:Nat):Int)]) (ds:=[vI ((1 + a1.2.2.2.toNat:Nat):Int)]) rfl (Ap (cs:=[vI ((1 + a1.2.2.2.toNat:Nat):Int)]) (ds:=[]) rfl (AS _ _)))
 refine RD.nu 14 8388607 d0 rfl .plain rfl (AT (α:=Int) (xs:=([k0]:List Int)) (vs:=[vI k0]) (ds' :=[vI k0]) rfl Z0 el42 rfl (e1 rfl) (by kernel_rfl) rfl) (fun R6 J1 Y0 D1=>?_)
 have k2:=AM (cs:=[vI k0]) (xs:=(([k0]:List Int):List Int)) Y0 L (Ap (cs:=[vI k0]) (ds:=[]) rfl (AS _ _))
 obtain ⟨V3,d2⟩:=AN Y0 (.one (.tl .hd) (.one .hd (.one (.tl .hd) (.one (.tl .hd) .done))))
 have z5:=Bb p2 (Tt D1 d2)
 have A5:=Bb k2 d2
 have I5:=Tt E1 (Tt D1 d2)
 exact z2 ((vS K1 2),[vI ((a1.2.2.1.toNat:Nat):Int),vI ((1 + a1.2.2.2.toNat:Nat):Int)],(vS J1 1),[vI k0]) _ _ ⟨rfl,rfl,rfl,rfl,rfl,rfl,rfl,rfl,trivial⟩ ⟨V3,I5,z5,A5⟩
 intro A2
 refine RD.each [14,22] (rk g0) ⟨?_,?_,trivial⟩
 refine RO.new (m' :=4194303) (sk g0) rfl .plain rfl (AT (α:=Int) (xs:=([p0]:List Int)) (vs:=[vI p0]) (ds' :=[vI p0]) rfl R0 el42 rfl (e1 rfl) (by kernel_rfl) rfl) (fun W6 M1 g1 F1=>?_)
 have q2:=AM (cs:=[vI p0]) (xs:=(([p0]:List Int):List Int)) g1 L (Ap (cs:=[vI p0]) (ds:=[]) rfl (AS _ _))
 refine RD.nu 22 8388607 g0 rfl .plain rfl (AT (α:=Int) (xs:=([((a0.2.2.1.toNat:Nat):Int),((1 + a0.2.2.2.toNat:Nat):Int)]:List Int)) (vs:=[vI ((a0.2.2.1.toNat:Nat):Int),vI ((1 + a0.2.2.2.toNat:Nat):Int)]) (ds' :=[vI ((a0.2.2.1.toNat:Nat):Int),vI ((1 + a0.2.2.2.toNat:Nat):Int)]) rfl g1 el42 rfl (e2 rfl rfl) (by kernel_rfl) rfl) (fun Y6 P1 j1 G1=>?_)
 have s2:=AM (cs:=[vI ((a0.2.2.1.toNat:Nat):Int),vI ((1 + a0.2.2.2.toNat:Nat):Int)]) (xs:=(([((a0.2.2.1.toNat:Nat):Int),((1 + a0.2.2.2.toNat:Nat):Int)]:List Int):List Int)) j1 L (Ap (cs:=[vI ((a0.2.2.1.toNat:Nat):Int)]) (ds:=[vI ((1 + a0.2.2.2.toNat:Nat):Int)]) rfl (Ap (cs:=[vI ((1 + a0.2.2.2.toNat:Nat):Int)]) (ds:=[]) rfl (AS _ _)))
 obtain ⟨W3,g2⟩:=AN j1 (.one .hd (.one .hd (.one (.tl .hd) .done)))
 have B5:=Bb s2 g2
 have C5:=Bb q2 (Tt G1 g2)
 have J5:=Tt F1 (Tt G1 g2)
 exact A2 ((vS P1 2),[vI ((a0.2.2.1.toNat:Nat):Int),vI ((1 + a0.2.2.2.toNat:Nat):Int)],(vS M1 1),[vI p0]) _ _ ⟨rfl,rfl,rfl,rfl,rfl,rfl,rfl,rfl,trivial⟩ ⟨W3,J5,B5,C5⟩
 refine RO.new (m' :=8372223) (sk g0) rfl .plain rfl (AT (α:=Int) (xs:=([((a0.2.2.1.toNat:Nat):Int),((1 + a0.2.2.2.toNat:Nat):Int)]:List Int)) (vs:=[vI ((a0.2.2.1.toNat:Nat):Int),vI ((1 + a0.2.2.2.toNat:Nat):Int)]) (ds' :=[vI ((a0.2.2.1.toNat:Nat):Int),vI ((1 + a0.2.2.2.toNat:Nat):Int)]) rfl R0 el42 rfl (e2 rfl rfl) (by kernel_rfl) rfl) (fun Y6 P1 j1 G1=>?_)
 have s2:=AM (cs:=[vI ((a0.2.2.1.toNat:Nat):Int),vI ((1 + a0.2.2.2.toNat:Nat):Int)]) (xs:=(([((a0.2.2.1.toNat:Nat):Int),((1 + a0.2.2.2.toNat:Nat):Int)]:List Int):List Int)) j1 L (Ap (cs:=[vI ((a0.2.2.1.toNat:Nat):Int)]) (ds:=[vI ((1 + a0.2.2.2.toNat:Nat):Int)]) rfl (Ap (cs:=[vI ((1 + a0.2.2.2.toNat:Nat):Int)]) (ds:=[]) rfl (AS _ _)))
 refine RD.nu 14 8388607 g0 rfl .plain rfl (AT (α:=Int) (xs:=([p0]:List Int)) (vs:=[vI p0]) (ds' :=[vI p0]) rfl j1 el42 rfl (e1 rfl) (by kernel_rfl) rfl) (fun W6 M1 g1 F1=>?_)
 have q2:=AM (cs:=[vI p0]) (xs:=(([p0]:List Int):List Int)) g1 L (Ap (cs:=[vI p0]) (ds:=[]) rfl (AS _ _))
 obtain ⟨X3,j2⟩:=AN g1 (.one (.tl .hd) (.one .hd (.one (.tl .hd) .done)))
 have D5:=Bb s2 (Tt F1 j2)
 have E5:=Bb q2 j2
 have K5:=Tt G1 (Tt F1 j2)
 exact A2 ((vS P1 2),[vI ((a0.2.2.1.toNat:Nat):Int),vI ((1 + a0.2.2.2.toNat:Nat):Int)],(vS M1 1),[vI p0]) _ _ ⟨rfl,rfl,rfl,rfl,rfl,rfl,rfl,rfl,trivial⟩ ⟨X3,K5,D5,E5⟩
 refine Ac<|Ah rfl<|Aa<|Am rfl<|Be hb0 Tryz.func5 rfl rfl ?_
 cases h
 exact V1.gv
end Go.Proofs.YtbgcdbblaadokaaGreatDoor
