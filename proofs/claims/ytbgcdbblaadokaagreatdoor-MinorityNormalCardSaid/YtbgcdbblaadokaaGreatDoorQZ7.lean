/- Functions of the program, and what they give: part 7. -/
import Derived.Test.YtbgcdbblaadokaaGreatDoorQZ6
namespace Go.Proofs.YtbgcdbblaadokaaGreatDoor
open Go Go.RowKit
set_option maxRecDepth 4000
set_option maxHeartbeats 4000000

theorem body55:bodyB Tryz.prog 55 = true:=by kernel_rfl
def minority_Index_p (n:Nat) (a0:TRoll) (a1:List Int) (a2:Int) (a3:Int):Option (TShare × Int):=
  (minority_Index_1_p n a0 a1 a2 a3).bind fun c0=>exc c0 (fun d0=>some (d0,(0:Int))) (fun b0=>some ((⟨((0:UInt64),(0:UInt64),(0:UInt64),(0:UInt64),(0:UInt64),(0:UInt64),(0:UInt64),(0:UInt64)),((0:UInt64),(0:UInt64),(0:UInt64),(0:UInt64),(0:UInt64),(0:UInt64),(0:UInt64),(0:UInt64))⟩:TShare),b0.fH))
theorem minority_Index_c (n:Nat) (L:List Nat) (w:World) (hL:∀ b ∈ L,b < w.heap.size) (a0:TRoll) {v0_3:Value} (h0_3:Rep.R w L [v0_3] a0.ft) (a1:List Int) {v1_0:Value} (h1_0:Rep.R w L [v1_0] a1) (a2:Int) (a3:Int)  {r:TShare × Int} (h:minority_Index_p n a0 a1 a2 a3 = some r) :
    Calls Tryz.prog 22 #[.agg #[vI a0.fj,vI a0.fe,vI a0.fl,v0_3],v1_0,vI a2,vI a3] w (Gives w fun _ u=>u = .tuple #[.agg ((cs_TShare r.1)).toArray,vI r.2]):=by
 unfold minority_Index_p at h
 have hS0:=Ax w
 refine AE Tryz.func22 rfl rfl rfl (fun _ cs0 hb0=>?_)
 refine Ac<|Ai .plain rfl (Ap hS0 rfl rfl) (fun b2 g0 F0 I1=>?_)
 have v1:=AR h1_0 F0
 refine Ai .plain rfl (Ap F0 rfl (Rep.c1 v1)) (fun p2 j0 W0 K1=>?_)
 refine Ai .plain rfl (Ap W0 rfl rfl) (fun q2 p0 X0 M1=>?_)
 refine Ai .plain rfl (Ap X0 rfl rfl) (fun s2 q0 Y0 P1=>?_)
 refine Ai .plain rfl (Au zL Y0) (fun t2 y0 Z0 Q1=>?_)
 refine Ah rfl<|Aa<|Ac<|Ab (BA (vs:=[]) (us:=[vP g0,vP j0,vP p0,vP q0]) evs_nil (e4 rfl rfl rfl rfl))<|Be (fst:=[]) (cap:=[]) (vs:=[.func (.func 55) #[] #[vP g0,vP j0,vP p0,vP q0]]) .plain body37 Tryz.func37 rfl rfl rfl rfl (e1 rfl) rfl (fun C1 I0 Z1=>?_)
 refine Ac<|Ai .plain rfl (Au zL Z0) (fun u2 s0 b1 R1=>?_)
 refine Ai .plain rfl (Au [vI 0] b1) (fun v2 d0 b0 U1=>?_)
 refine Aa<|Ac<|Ab (BA (vs:=[]) (us:=[vP s0,vP d0]) evs_nil (e2 rfl rfl))<|RG.defer (fst:=[]) (cap:=[vP s0,vP d0]) (vs:=[]) rfl .plain rfl evs_nil<|Aa<|Ac<|Ae rfl ?_
 obtain ⟨z1,K0,h⟩:=bi h
 rcases z1 with u0 | t0
 have h:=exc_e h
 try dsimp only at h
 refine Bi (fst:=[]) (cap:=[vP g0,vP j0,vP p0,vP q0]) .plain body55 rfl evs_nil (fun w9 hw9=>minority_Index_1_c n _ w9 (b0.hL0 hL hw9) a0 (b0.k0 h0_3 hw9) (fun j9 v9 h9=>hw9.cell0 ((b0.memA (.tl (.tl (.tl (.tl (.tl (.tl .hd))))))) j9 v9 h9)) a1 (b0.k0 h1_0 hw9) (fun j9 v9 h9=>hw9.cell0 ((b0.memA (.tl (.tl (.tl (.tl (.tl .hd)))))) j9 v9 h9)) a2 (fun j9 v9 h9=>hw9.cell0 ((b0.memA (.tl (.tl (.tl (.tl .hd))))) j9 v9 h9)) a3 (fun j9 v9 h9=>hw9.cell0 ((b0.memA (.tl (.tl (.tl .hd)))) j9 v9 h9)) K0) (fun x2 q1=>?_)
 obtain ⟨d1,V1⟩:=b0.agr q1
 refine PN.callD (vs:=[]) (cap:=[vP s0,vP d0]) body75 Tryz.func75 rfl rfl rfl (fun B1 s1 u1=>?_)
 refine Ac<|RG.recover1 .plain s1 rfl<|Ah rfl<|Aa<|Ac<|Ae rfl<|Ab (FV.neqI Tryz.underlying20 rfl rfl)<|Aa<|Bd rfl<|Ac<|Ae rfl<|Ab (FV.assertT (by kernel_rfl) rfl)<|Ae rfl<|Ab (Ag rfl rfl)<|Ab (Ag rfl rfl)<|Ai .plain rfl (Au [vI 0] d1) (fun y2 M0 g1 W1=>?_)
 refine AM [vI u0.fH] g1 .hd (o1 rfl) (fun z2 j1 X1=>?_)
 refine Ah rfl<|Aa<|Aj<|Ac<|Ae rfl<|Ab (FV.not rfl)<|Aa<|By rfl<|Av<|Ac<|Ai .plain rfl (Au zL j1) (fun y1 P0 x0 Y1=>?_)
 refine Aa<|dt 3 tb75_6 (fun c0 C0=>?_)
 refine Az 0 1 24 c0 rfl C0 (AB rfl (x0.memA .hd)) rfl<|Af 1 3 c0 rfl C0 (fun _=>AP 0 rfl) rfl<|RD.meet (α:=Unit) (fun ()=>[(1,vP d0),(19,vI u0.fH)]) (fun () D0=>St w D0 [.cells d0 [vI 0] 35,.cells s0 zL 34,.cells y0 zL 34,.cells q0 [vI a3] 3,.cells p0 [vI a2] 3,.cells j0 [v1_0] 59,.cells g0 [vI a0.fj,vI a0.fe,vI a0.fl,v0_3] 28]∧Tr y1 [.cells P0 zL 34,.cells M0 [vI u0.fH] 110,.cells d0 [vI 0] 35,.cells s0 zL 34,.cells y0 zL 34,.cells q0 [vI a3] 3,.cells p0 [vI a2] 3,.cells j0 [v1_0] 59,.cells g0 [vI a0.fj,vI a0.fe,vI a0.fl,v0_3] 28] D0 [.cells d0 [vI 0] 35,.cells s0 zL 34,.cells y0 zL 34,.cells q0 [vI a3] 3,.cells p0 [vI a2] 3,.cells j0 [v1_0] 59,.cells g0 [vI a0.fj,vI a0.fe,vI a0.fl,v0_3] 28]) 1 15 ?_ ?_
 rintro ⟨⟩ D0 ⟨Q0,D1⟩
 try dsimp only
 refine Br 4 31 c0 rfl rfl .plain (Aw (news:=[vI u0.fH]) Q0 .hd rfl rfl rfl rfl rfl rfl (o1 rfl)) (fun c2 z0 E1=>?_)
 refine AI (dk c0)<|MX.fin rfl<|RT.leaveD1 u1 Tryz.func75 rfl .nil<|Am (u:=.tuple #[.agg zM,vI u0.fH]) I0 Tryz.func37 rfl (.cons (.many (cs:=zL) (by kernel_rfl) rfl (z0.memA (.tl .hd))) (.cons (.one (by kernel_rfl) rfl ((z0.memA .hd) 0 _ rfl)) .nil)) rfl<|Ab (Ag rfl rfl)<|Ab (Ag rfl rfl)<|AM zL z0 (.tl (.tl .hd)) (onesB rfl) (fun d2 G0 F1=>?_)
 refine Ah rfl<|Aa<|Ao rfl<|Am hb0 Tryz.func22 rfl (.cons (.many (cs:=zL) (by kernel_rfl) rfl (G0.memA (.tl (.tl .hd)))) (.cons (.tmp rfl) .nil)) rfl ?_
 cases h
 exact G0.gv
 intro E0
 refine RD.each [2,3] (rk c0) ⟨?_,?_,trivial⟩
 refine RO.val (m' :=7) (sk c0) rfl .plain rfl (AJ rfl ((x0.memA (.tl .hd)) 0 _ rfl))<|Br 3 15 c0 rfl rfl .plain (Aw (news:=zL) x0 (.tl (.tl (.tl .hd))) rfl rfl rfl rfl rfl rfl (onesB rfl)) (fun x1 v0 B0=>?_)
 obtain ⟨R0,k1⟩:=AL v0 (.one (.tl (.tl .hd)) (.one (.tl (.tl .hd)) (.one (.tl (.tl .hd)) (.one (.tl (.tl .hd)) (.one (.tl (.tl .hd)) (.one (.tl (.tl .hd)) (.one (.tl (.tl .hd)) .done)))))))
 exact E0 () _ _ ⟨rfl,rfl,trivial⟩ ⟨R0,(Tt B0 k1)⟩
 refine RO.now (m' :=11) (sk c0) rfl rfl .plain (Aw (news:=zL) x0 (.tl (.tl (.tl .hd))) rfl rfl rfl rfl rfl rfl (onesB rfl)) (fun x1 v0 B0=>?_)
 refine Az 2 15 16 c0 rfl C0 (AJ rfl ((v0.memA (.tl .hd)) 0 _ rfl)) rfl ?_
 obtain ⟨U0,p1⟩:=AL v0 (.one (.tl (.tl .hd)) (.one (.tl (.tl .hd)) (.one (.tl (.tl .hd)) (.one (.tl (.tl .hd)) (.one (.tl (.tl .hd)) (.one (.tl (.tl .hd)) (.one (.tl (.tl .hd)) .done)))))))
 exact E0 () _ _ ⟨rfl,rfl,trivial⟩ ⟨U0,(Tt B0 p1)⟩
 have h:=exc_o h
 try dsimp only at h
 refine RG.callq' (v:=.agg ((cs_TShare t0)).toArray) (fst:=[]) (cap:=[vP g0,vP j0,vP p0,vP q0]) .plain body55 rfl evs_nil (fun w9 hw9=>AD (minority_Index_1_c n _ w9 (b0.hL0 hL hw9) a0 (b0.k0 h0_3 hw9) (fun j9 v9 h9=>hw9.cell0 ((b0.memA (.tl (.tl (.tl (.tl (.tl (.tl .hd))))))) j9 v9 h9)) a1 (b0.k0 h1_0 hw9) (fun j9 v9 h9=>hw9.cell0 ((b0.memA (.tl (.tl (.tl (.tl (.tl .hd)))))) j9 v9 h9)) a2 (fun j9 v9 h9=>hw9.cell0 ((b0.memA (.tl (.tl (.tl (.tl .hd))))) j9 v9 h9)) a3 (fun j9 v9 h9=>hw9.cell0 ((b0.memA (.tl (.tl (.tl .hd)))) j9 v9 h9)) K0)) rfl<|AM (cs_TShare t0) b0 (.tl .hd) (onesB rfl) (fun g2 V0 G1=>?_)
 refine AM [vI 0] V0 .hd (o1 rfl) (fun j2 A0 H1=>?_)
 refine Aa<|Ao rfl<|RT.callD (vs:=[]) (cap:=[vP s0,vP d0]) body75 Tryz.func75 rfl rfl rfl (fun A1 J0 t1=>?_)
 refine Ac<|RG.recover0 .plain J0 rfl<|Ah rfl<|Aa<|Ac<|Ae rfl<|Ab (FV.neqI0 Tryz.underlying20 rfl rfl)<|Aa<|By rfl<|Av<|MX.fin rfl<|RT.leaveD0 J0 t1 Tryz.func75 rfl .nil<|Am (u:=.tuple #[.agg ((cs_TShare t0)).toArray,vI 0]) I0 Tryz.func37 rfl (.cons (.many (cs:=(cs_TShare t0)) (by kernel_rfl) rfl (A0.memA (.tl .hd))) (.cons (.one (by kernel_rfl) rfl ((A0.memA .hd) 0 _ rfl)) .nil)) rfl<|Ab (Ag rfl rfl)<|Ab (Ag rfl rfl)<|AM (cs_TShare t0) A0 (.tl (.tl .hd)) (onesB rfl) (fun k2 H0 J1=>?_)
 refine Ah rfl<|Aa<|Ao rfl<|Am hb0 Tryz.func22 rfl (.cons (.many (cs:=(cs_TShare t0)) (by kernel_rfl) rfl (H0.memA (.tl (.tl .hd)))) (.cons (.tmp rfl) .nil)) rfl ?_
 cases h
 exact H0.gv
def wardmotelaw29_line_1_p (_n:Nat) (a0:TShare) (a1:TShare) (a2:Int) (a3:TShare) (a4:TShare):Option Bool:=
  (if a0 = a3 then (if a1 = a4 then some (decide (a2 = 0)) else some false) else some false)
theorem wardmotelaw29_line_1_c (n:Nat) (L:List Nat) (w:World) (_hL:∀ b ∈ L,b < w.heap.size) (a0:TShare) (a1:TShare) (a2:Int) (a3:TShare) {p3:Nat} (m3:∀ j9 v9,((cs_TShare a3):List Value)[j9]? = some v9 → w.cell? ((⟨p3,0,none⟩:Addr).add j9) = some v9) (a4:TShare) {p4:Nat} (m4:∀ j9 v9,((cs_TShare a4):List Value)[j9]? = some v9 → w.cell? ((⟨p4,0,none⟩:Addr).add j9) = some v9)  {r:Bool} (h:wardmotelaw29_line_1_p n a0 a1 a2 a3 a4 = some r) :
    Calls Tryz.prog 59 #[.agg ((cs_TShare a0)).toArray,.agg ((cs_TShare a1)).toArray,vI a2,.pointer (some ⟨p3,0,none⟩),.pointer (some ⟨p4,0,none⟩)] w (Gives w fun _ u=>u = .bool r):=by
 unfold wardmotelaw29_line_1_p at h
 have hS0:=Ax w
 refine AE Tryz.func59 rfl rfl rfl (fun _ cs0 hb0=>?_)
 refine Ac<|Ai .plain rfl (Ap hS0 rfl rfl) (fun s0 j0 g0 p0=>?_)
 refine Ai .plain rfl (Ap g0 rfl rfl) (fun t0 k0 b0 q0=>?_)
 refine Ah rfl<|Aa<|Ac<|Ab (AB rfl (b0.memA (.tl .hd)))<|Ab (AB rfl (fun j9 v9 h9=>b0.ag.cell0 (m3 j9 v9 h9)))<|Ab (FV.eqlV (v:=.agg ((cs_TShare a0)).toArray) (u:=.agg ((cs_TShare a3)).toArray) rfl rfl (eqlD_34 a0 a3))<|Ae rfl<|RG.ifd (s:=12) rfl h (fun c0 h=>?_) (fun c0 h=>?_)
 refine AX (AB rfl (b0.memA .hd))<|AX (AB rfl (fun j9 v9 h9=>b0.ag.cell0 (m4 j9 v9 h9)))<|AX (FV.eqlV (v:=.agg ((cs_TShare a1)).toArray) (u:=.agg ((cs_TShare a4)).toArray) rfl rfl (eqlD_34 a1 a4))<|RG.pt rfl rfl<|Ae rfl<|RG.ifd (s:=17) rfl h (fun d0 h=>?_) (fun d0 h=>?_)
 refine AX (Ak rfl)<|AX (FV.eql (i:=a2) (j:=0) rfl rfl)<|RG.pt rfl rfl<|Ah rfl<|Aa<|Ao rfl<|Bg hb0 Tryz.func59 rfl rfl ?_
 cases h
 exact b0.gv
 refine AO<|AO<|RG.pf rfl rfl<|Ah rfl<|Aa<|Ao rfl<|Bg hb0 Tryz.func59 rfl rfl ?_
 cases h
 exact b0.gv
 refine AO<|AO<|AO<|RG.pf rfl rfl<|Ae rfl<|AO<|AO<|RG.pf rfl rfl<|Ah rfl<|Aa<|Ao rfl<|Bg hb0 Tryz.func59 rfl rfl ?_
 cases h
 exact b0.gv
theorem wardmotelaw29_line_c (n:Nat) (L:List Nat) (w:World) (_hL:∀ b ∈ L,b < w.heap.size) (a0:TShare) (a1:TShare)  :
    Calls Tryz.prog 23 #[.agg ((cs_TShare a0)).toArray,.agg ((cs_TShare a1)).toArray] w (Gives w fun w' u=>∃ b0 c0:Nat,u = .func (.func 59) #[] #[vP b0,vP c0]∧St w w' [.cells b0 (cs_TShare a0) 34,.cells c0 (cs_TShare a1) 34]):=by
 have hS0:=Ax w
 refine AE Tryz.func23 rfl rfl rfl (fun _ cs0 hb0=>?_)
 refine Ac<|Ai .plain rfl (Ap hS0 rfl rfl) (fun s0 b0 g0 k0=>?_)
 refine Ai .plain rfl (Ap g0 rfl rfl) (fun t0 c0 j0 p0=>?_)
 refine Ah rfl<|Aa<|Ac<|Ab (BA (vs:=[]) (us:=[vP b0,vP c0]) evs_nil (e2 rfl rfl))<|Ah rfl<|Aa<|Ao rfl<|Am (u:=.func (.func 59) #[] #[vP b0,vP c0]) hb0 Tryz.func23 rfl (.cons (.tmp rfl) .nil) rfl ?_
 obtain ⟨d0,q0⟩:=AL j0 (.one (.tl .hd) (.one .hd .done))
 exact ⟨d0.ag,fun w9 hw9=>⟨b0,c0,rfl,d0.agree hw9⟩⟩
def tb6_5:List (Nat × Nat × Nat):=[(0,8589934592,16),(1,17179869184,8589934592),(2,34359738368,17179869184),(4,68719476736,34359738376),(4,137438953472,34359738368),(20,274877906944,34359738368),(52,549755813888,446676598784),(108,1099511627776,652835028992),(132,2199023255552,1133871366144),(384,4398046511104,2199023255552),(512,8796093022208,4398046511104),(1536,17592186044416,13194139533312),(512,35184372088832,4398046511106),(512,70368744177664,4398046511108),(2560,140737488355328,4398046511104),(29184,281474976710656,250688651132928),(33280,562949953421312,285873023221760),(33280,1125899906842624,285873023221760),(231936,2251799813685248,1710840092819456),(262656,4503599627370496,2256197860196352),(786432,9007199254740992,4503599627370496),(1048576,18014398509481984,9007199254740992),(1048576,36028797018963968,9007199254740994),(1048576,72057594037927936,9007199254740996),(15728640,144115188075855872,117093590311632896),(17825792,288230376151711744,153122387330596864),(17825792,576460752303423488,153122387330596864),(120586240,1152921504606846976,891712726219358208),(135266304,2305843009213693952,1161928703861587968),(402653184,4611686018427387904,2305843009213693952),(536870912,9223372036854775808,4611686018427387904),(1610612736,18446744073709551616,4611686018427387904),(3758096384,36893488147419103232,32281802128991715328),(536870912,73786976294838206464,4611686018427387906),(13421772800,147573952589676412928,78398662313265594368),(17716740096,295147905179352825856,152185638608103800832),(17716740096,590295810358705651712,152185638608103800832),(17716740096,1180591620717411303424,152185638608103800832),(262529875968,2361183241434822606848,2107540510421316272128),(275414777856,4722366482869645213696,2365794927453249994752),(824633720832,9444732965739290427392,4722366482869645213696),(1099511627776,18889465931478580854784,9444732965739290427392),(1099511627776,37778931862957161709568,9444732965739290427394),(7696581394432,75557863725914323419136,47223664828696452136960),(9895604649984,151115727451828646838272,85002596691653613846528),(9895604649984,302231454903657293676544,85002596691653613846528),(64871186038784,604462909807314587353088,481681381252703811796992),(71468255805440,1208925819614629174706176,613907642773053877780480),(211106232532992,2417851639229258349412352,1208925819614629174706176),(281474976710656,4835703278458516698824704,2417851639229258349412480),(844424930131968,9671406556917033397649408,7253554917687775048237056),(1407374883553280,19342813113834066795298816,12089258196146291747061760),(2533274790395904,38685626227668133590597632,19342813113834066795298816),(4503599627370496,77371252455336267181195264,38685626227668133590598144),(13510798882111488,154742504910672534362390528,116056878683004400771792896),(22517998136852480,309485009821345068724781056,193428131138340667952988160),(72057594037927935,1,309485009821345068724781056)]
theorem el59:ElT Tryz.prog 59 3 (Rep.size Int) 8 (vI 0) [vI 0]:=⟨Tryz.underlying59,by kernel_rfl,rfl,rfl,rfl,rfl⟩
theorem body8:bodyB Tryz.prog 8 = true:=by kernel_rfl
theorem body13:bodyB Tryz.prog 13 = true:=by kernel_rfl
theorem body16:bodyB Tryz.prog 16 = true:=by kernel_rfl
theorem body17:bodyB Tryz.prog 17 = true:=by kernel_rfl
theorem body18:bodyB Tryz.prog 18 = true:=by kernel_rfl
theorem body19:bodyB Tryz.prog 19 = true:=by kernel_rfl
theorem body20:bodyB Tryz.prog 20 = true:=by kernel_rfl
theorem body21:bodyB Tryz.prog 21 = true:=by kernel_rfl
theorem body22:bodyB Tryz.prog 22 = true:=by kernel_rfl
theorem body23:bodyB Tryz.prog 23 = true:=by kernel_rfl
theorem body41:bodyB Tryz.prog 41 = true:=by kernel_rfl
theorem body46:bodyB Tryz.prog 46 = true:=by kernel_rfl
theorem body59:bodyB Tryz.prog 59 = true:=by kernel_rfl
def wardmotelaw29_works_p (n:Nat):Option Bool:=
  (wardmotelaw29_example_p n).bind fun y1=>(minority_Shares_p n y1 ([(0:Int),(0:Int),(1:Int)]:List Int) (2:Int) (0:Int)).bind fun j0=>(minority_Line_p n y1 (1:Int) (0:Int)).bind fun A0=>(minority_Shares_p n (⟨(0:Int),(0:Int),(0:Int),([(⟨⟨#[97]⟩,(0:Int),([]:List Int),([]:List Int),([]:List Int),false⟩:TUnit),(⟨⟨#[98]⟩,(0:Int),([]:List Int),([]:List Int),([]:List Int),false⟩:TUnit)]:List TUnit)⟩:TRoll) ([(0:Int),(1:Int)]:List Int) (2:Int) (0:Int)).bind fun B0=>(if j0.2 = 0 then (wardmotelaw29_of_p n (1:Int) (4:Int)).bind fun k0=>(wardmotelaw29_of_p n (1:Int) (10:Int)).bind fun p0=>(slices_Equal_api_Share_api_Share_p n j0.1 ([k0,p0]:List TShare)).bind fun q0=>(if q0 = true then (wardmotelaw29_of_p n (1:Int) (5:Int)).bind fun s0=>(minority_Majority_p n y1 ([(0:Int),(0:Int),(1:Int)]:List Int) (2:Int) (0:Int) s0).bind fun c0=>(wardmotelaw29_lists_1_p n c0.1 c0.2 ([(0:Int)]:List Int)).bind fun t0=>(if t0 = true then (minority_Index_p n y1 ([(0:Int),(0:Int),(1:Int)]:List Int) (2:Int) (0:Int)).bind fun d0=>(wardmotelaw29_is_1_p n d0.1 d0.2 (20:Int) (77:Int)).bind fun u0=>(if u0 = true then (wardmotelaw29_of_p n (14:Int) (9:Int)).bind fun v0=>(wardmotelaw29_of_p n (-1:Int) (45:Int)).bind fun x0=>(minority_Line_p n y1 (0:Int) (0:Int)).bind fun b0=>(wardmotelaw29_line_1_p n b0.1 b0.2.1 b0.2.2 v0 x0).bind fun y0=>(if y0 = true then (minority_Fit_p n y1 (0:Int) (0:Int)).bind fun g0=>(wardmotelaw29_is_1_p n g0.1 g0.2 (49:Int) (51:Int)).bind fun z0=>(if z0 = true then (if A0.2.2 = 2 then some (decide (B0.2 = 2)) else some false) else some false) else some false) else some false) else some false) else some false) else some false)
theorem wardmotelaw29_works_c (n:Nat) (L:List Nat) (w:World) (hL:∀ b ∈ L,b < w.heap.size)  {r:Bool} (h:wardmotelaw29_works_p n = some r) :
    Calls Tryz.prog 6 #[] w (Gives w fun _ u=>u = .bool r):=by
 unfold wardmotelaw29_works_p at h
 have hS0:=Ax w
 refine AE Tryz.func6 rfl rfl rfl (fun _ cs0 hb0=>?_)
 refine Ac<|Ah rfl<|Aa<|Ac ?_
 obtain ⟨y1,hy1,h⟩:=bi h
 refine Bu (fst:=[]) (cap:=[]) .plain body17 rfl evs_nil (fun w9 hw9=>own_gives (b0:=w.heap.size) (wardmotelaw29_example_c n _ w9 (hS0.hL hL hw9)  hy1) hw9 (Nat.le_trans hS0.ag.size hw9.size)) rfl (fun w2 vu3 hag4 ⟨v9,y2,hu6,s5,I2⟩=>?_)
 subst hu6
 have hS7:=own_push hS0 s5
 have hT8:=own_tr hS0 s5
 have M2:=AF (cs:=y2) (xs:=(y1.ft:List TUnit)) hS7 L (own_cells I2)
 refine Ai .plain rfl (AZ (α:=Int) (xs:=([(0:Int),(0:Int),(1:Int)]:List Int)) (vs:=[vI 0,vI 0,vI 1]) (ds' :=[vI 0,vI 0,vI 1]) rfl hS7 el59 rfl (e3 rfl rfl rfl) (by kernel_rfl) rfl) (fun j5 j2 G1 C2=>?_)
 have P2:=AF (cs:=[vI 0,vI 0,vI 1]) (xs:=(([(0:Int),(0:Int),(1:Int)]:List Int):List Int)) G1 L (Aq (cs:=[vI 0]) (ds:=[vI 0,vI 1]) rfl (Aq (cs:=[vI 0]) (ds:=[vI 1]) rfl (Aq (cs:=[vI 1]) (ds:=[]) rfl (AU _ _))))
 refine Ai .plain rfl (Au [vI 0,vI 0,vI 0,vN] G1) (fun p5 E4 H1 Q1=>?_)
 refine AM [vI y1.fj,vI y1.fe,vI y1.fl,v9] H1 .hd (o4 rfl rfl rfl (St.o1 (α:=TUnit) H1 (.tl (.tl .hd)))) (fun q5 I0 R1=>?_)
 refine Ah rfl<|Aa<|Ac<|Ab (AB rfl (I0.memA .hd))<|Ae rfl ?_
 have x3:=Tt C2 (Tt Q1 R1)
 have d3:=AQ M2 x3
 have B3:=Bs (α:=TUnit) I0 (.tl (.tl .hd)) d3 hL
 have J0:=St.delS I0 (.tl (.tl .hd))
 have E2:=St.delT I0 (.tl (.tl .hd))
 have u0:=Rep.at_ (α:=TUnit) (v:=v9) (xs:=y1.ft) J0 L B3
 have y3:=Tt Q1 (Tt R1 E2)
 have g3:=AQ P2 y3
 have C3:=Bs (α:=Int) J0 (.tl .hd) g3 hL
 have d1:=St.delS J0 (.tl .hd)
 have s1:=St.delT J0 (.tl .hd)
 have E1:=Rep.at_ (α:=Int) (v:=(vS j2 3)) (xs:=([(0:Int),(0:Int),(1:Int)]:List Int)) d1 L C3
 obtain ⟨g2,k4,h⟩:=bi h
 have j3:=Ay u0 s1
 refine Bu (fst:=[]) (cap:=[]) .plain body18 rfl (e4 rfl rfl rfl rfl) (fun w9 hw9=>minority_Shares_c n _ w9 (d1.hL hL hw9) y1 (Ar j3 hw9) ([(0:Int),(0:Int),(1:Int)]:List Int) (Ar E1 hw9) (2:Int) (0:Int) k4) rfl (fun t5 b5 G2 ⟨R4,hu_,D3⟩=>?_)
 subst hu_
 obtain ⟨K0,u1⟩:=d1.agr G2
 refine Ae rfl<|Ab (Ag rfl rfl)<|Ab (Ag rfl rfl)<|Ah rfl<|Ah rfl<|Aa<|Ac<|Ab (AB rfl (K0.memA .hd)) ?_
 obtain ⟨y0,p4,h⟩:=bi h
 have k3:=Ay u0 (Tt s1 u1)
 refine Bc (.tuple #[.agg ((cs_TShare y0.1)).toArray,.agg ((cs_TShare y0.2.1)).toArray,vI y0.2.2]) body8 rfl (e3 rfl rfl rfl) (fun w9 hw9=>minority_Line_c n _ w9 (K0.hL0 hL hw9) y1 (K0.kd k3 hw9) (1:Int) (0:Int) p4) rfl<|Ae rfl<|Ab (Ag rfl rfl)<|Ab (Ag rfl rfl)<|Ab (Ag rfl rfl)<|Ai .plain rfl (Au zL K0) (fun u5 F4 z2 v1=>?_)
 refine Ai .plain rfl (Au zL z2) (fun v5 G4 A2 x1=>?_)
 refine AM (cs_TShare y0.1) A2 (.tl .hd) (onesB rfl) (fun x5 B2 z1=>?_)
 refine AM (cs_TShare y0.2.1) B2 .hd (onesB rfl) (fun y5 I1 A1=>?_)
 refine Ah rfl<|Aa<|Ac<|Ab (AK (vs:=[.string ⟨#[97]⟩]) (u:=.agg #[.string ⟨#[97]⟩,vI 0,vN,vN,vN,.bool false]) (e1 rfl) (fun w9=>by kernel_rfl))<|Ab (AK (vs:=[.string ⟨#[98]⟩]) (u:=.agg #[.string ⟨#[98]⟩,vI 0,vN,vN,vN,.bool false]) (e1 rfl) (fun w9=>by kernel_rfl)) ?_
 have M4:=Rep.nilAt (α:=Int) I1 L
 refine Ai .plain rfl (AZ (α:=TUnit) (xs:=([(⟨⟨#[97]⟩,(0:Int),([]:List Int),([]:List Int),([]:List Int),false⟩:TUnit),(⟨⟨#[98]⟩,(0:Int),([]:List Int),([]:List Int),([]:List Int),false⟩:TUnit)]:List TUnit)) (vs:=[.agg #[.string ⟨#[97]⟩,vI 0,vN,vN,vN,.bool false],.agg #[.string ⟨#[98]⟩,vI 0,vN,vN,vN,.bool false]]) (ds' :=[.string ⟨#[97]⟩,vI 0,vN,vN,vN,.bool false,.string ⟨#[98]⟩,vI 0,vN,vN,vN,.bool false]) rfl I1 el26 rfl (e2 rfl rfl) (by kernel_rfl) rfl) (fun z5 b1 g1 B1=>?_)
 have v0:=Rep.nilAt (α:=Int) g1 L
 have Q2:=AF (cs:=[.string ⟨#[97]⟩,vI 0,vN,vN,vN,.bool false,.string ⟨#[98]⟩,vI 0,vN,vN,vN,.bool false]) (xs:=(([(⟨⟨#[97]⟩,(0:Int),([]:List Int),([]:List Int),([]:List Int),false⟩:TUnit),(⟨⟨#[98]⟩,(0:Int),([]:List Int),([]:List Int),([]:List Int),false⟩:TUnit)]:List TUnit):List TUnit)) g1 L (Aq (cs:=[.string ⟨#[97]⟩,vI 0,vN,vN,vN,.bool false]) (ds:=[.string ⟨#[98]⟩,vI 0,vN,vN,vN,.bool false]) (mk_TUnit ⟨#[97]⟩ (0:Int) ([]:List Int) v0 ([]:List Int) v0 ([]:List Int) v0 false) (Aq (cs:=[.string ⟨#[98]⟩,vI 0,vN,vN,vN,.bool false]) (ds:=[]) (mk_TUnit ⟨#[98]⟩ (0:Int) ([]:List Int) v0 ([]:List Int) v0 ([]:List Int) v0 false) (AU _ _)))
 refine Ab (AK (vs:=[(vS b1 2)]) (u:=.agg #[vI 0,vI 0,vI 0,(vS b1 2)]) (e1 rfl) (fun w9=>by kernel_rfl))<|Ai .plain rfl (AZ (α:=Int) (xs:=([(0:Int),(1:Int)]:List Int)) (vs:=[vI 0,vI 1]) (ds' :=[vI 0,vI 1]) rfl g1 el59 rfl (e2 rfl rfl) (by kernel_rfl) rfl) (fun A5 k2 M0 R0=>?_)
 have R2:=AF (cs:=[vI 0,vI 1]) (xs:=(([(0:Int),(1:Int)]:List Int):List Int)) M0 L (Aq (cs:=[vI 0]) (ds:=[vI 1]) rfl (Aq (cs:=[vI 1]) (ds:=[]) rfl (AU _ _)))
 have p3:=AQ Q2 R0
 have E3:=Bs (α:=TUnit) M0 (.tl .hd) p3 hL
 have P0:=St.delS M0 (.tl .hd)
 have U0:=St.delT M0 (.tl .hd)
 have F3:=Rep.at_ (α:=TUnit) (v:=(vS b1 2)) (xs:=([(⟨⟨#[97]⟩,(0:Int),([]:List Int),([]:List Int),([]:List Int),false⟩:TUnit),(⟨⟨#[98]⟩,(0:Int),([]:List Int),([]:List Int),([]:List Int),false⟩:TUnit)]:List TUnit)) P0 L E3
 have q3:=AQ R2 U0
 have G3:=Bs (α:=Int) P0 .hd q3 hL
 have j1:=St.delS P0 .hd
 have V0:=St.delT P0 .hd
 have H3:=Rep.at_ (α:=Int) (v:=(vS k2 2)) (xs:=([(0:Int),(1:Int)]:List Int)) j1 L G3
 obtain ⟨C4,q4,h⟩:=bi h
 have s3:=Ay F3 V0
 refine Bu (fst:=[]) (cap:=[]) .plain body18 rfl (e4 rfl rfl rfl rfl) (fun w9 hw9=>minority_Shares_c n _ w9 (j1.hL hL hw9) (⟨(0:Int),(0:Int),(0:Int),([(⟨⟨#[97]⟩,(0:Int),([]:List Int),([]:List Int),([]:List Int),false⟩:TUnit),(⟨⟨#[98]⟩,(0:Int),([]:List Int),([]:List Int),([]:List Int),false⟩:TUnit)]:List TUnit)⟩:TRoll) (Ar s3 hw9) ([(0:Int),(1:Int)]:List Int) (Ar H3 hw9) (2:Int) (0:Int) q4) rfl (fun B5 c5 H2 ⟨U4,hu_,P4⟩=>?_)
 subst hu_
 obtain ⟨Q0,C1⟩:=j1.agr H2
 refine Ae rfl<|Ab (Ag rfl rfl)<|Ab (Ag rfl rfl)<|Ah rfl<|Ah rfl<|Aa<|Aj<|dt 57 tb6_5 (fun c0 d0=>?_)
 refine Af 0 1 c0 rfl d0 (fun _=>Ak rfl) rfl<|Af 1 3 c0 rfl d0 (fun _=>FV.eql (i:=g2.2) (j:=0) rfl rfl) rfl<|Af 2 7 c0 rfl d0 (fun _=>Ak rfl) rfl<|RD.ifd (s:=35) rfl h (fun p2 h=>?_) (fun p2 h=>?_)
 refine RD.vP 3 15 c0 rfl d0 (.yes rfl rfl) (fun _=>Ak rfl) rfl ?_
 obtain ⟨p0,P3,h⟩:=bi h
 refine RD.callq (i:=4) (m' :=31) (W:=144115188075855840) (tk c0) rfl d0 (v:=.agg ((cs_TShare p0)).toArray) (fst:=[]) (cap:=[]) (.yes rfl rfl) body9 rfl (e2 rfl rfl) (fun w9 hw9=>wardmotelaw29_of_c n _ w9 (Q0.hL0 hL hw9) (1:Int) (4:Int) P3) rfl ?_
 obtain ⟨j0,Q3,h⟩:=bi h
 refine RD.callq (i:=5) (m' :=63) (W:=144115188075855808) (tk c0) rfl d0 (v:=.agg ((cs_TShare j0)).toArray) (fst:=[]) (cap:=[]) (.yes rfl rfl) body9 rfl (e2 rfl rfl) (fun w9 hw9=>wardmotelaw29_of_c n _ w9 (Q0.hL0 hL hw9) (1:Int) (10:Int) Q3) rfl<|RD.nu 6 127 c0 rfl (.yes rfl rfl) rfl (AZ (α:=TShare) (xs:=([p0,j0]:List TShare)) (vs:=[.agg ((cs_TShare p0)).toArray,.agg ((cs_TShare j0)).toArray]) (ds' :=(cs_TShare p0 ++ cs_TShare j0)) rfl Q0 el60 rfl (e2 rfl rfl) (by kernel_rfl) rfl) (fun d5 D4 t0 k1=>?_)
 have J2:=AF (cs:=(cs_TShare p0 ++ cs_TShare j0)) (xs:=(([p0,j0]:List TShare):List TShare)) t0 L (Aq (cs:=(cs_TShare p0)) (ds:=(cs_TShare j0)) (mk_TShare p0.fN p0.fD) (Aq (cs:=(cs_TShare j0)) (ds:=[]) (mk_TShare j0.fN j0.fD) (AU _ _)))
 obtain ⟨x4,R3,h⟩:=bi h
 have t3:=Tt v1 (Tt x1 (Tt z1 (Tt A1 (Tt B1 (Tt R0 (Tt U0 (Tt V0 (Tt C1 k1))))))))
 have U2:=Ay D3 t3
 refine RD.callq (i:=7) (m' :=255) (W:=144115188075855616) (tk c0) rfl d0 (v:=.bool x4) (fst:=[]) (cap:=[]) (.yes rfl rfl) body19 rfl (e2 rfl rfl) (fun w9 hw9=>slices_Equal_api_Share_api_Share_c n _ w9 (t0.hL0 hL hw9) g2.1 (t0.kd U2 hw9) ([p0,j0]:List TShare) (Ar (St.lend (α:=TShare) (L:=L) t0 .hd J2 hL) hw9) R3) rfl<|Af 8 511 c0 rfl d0 (fun _=>FV.pick_t rfl rfl) rfl<|Af 9 1023 c0 rfl d0 (fun _=>Ak rfl) rfl<|RD.ifb (s:=42) rfl h (fun q2 h=>?_) (fun q2 h=>?_)
 refine RD.val (i:=12) (m' :=5119) (W:=144115188075823104) (tk c0) rfl d0 (.yes rfl rfl) (AB rfl (t0.memA (.tl (.tl (.tl .hd))))) rfl<|RD.vP 13 13311 c0 rfl d0 (.yes rfl rfl) (fun _=>Ak rfl) rfl<|RD.nu 10 14335 c0 rfl (.yes rfl rfl) rfl (AZ (α:=Int) (xs:=([(0:Int)]:List Int)) (vs:=[vI 0]) (ds' :=[vI 0]) rfl t0 el42 rfl (e1 rfl) (by kernel_rfl) rfl) (fun s4 F1 G0 J1=>?_)
 have K2:=AF (cs:=[vI 0]) (xs:=(([(0:Int)]:List Int):List Int)) G0 L (Aq (cs:=[vI 0]) (ds:=[]) rfl (AU _ _))
 have z3:=Bs (α:=Int) G0 .hd K2 hL
 have H0:=St.delS G0 .hd
 have K1:=St.delT G0 .hd
 have W1:=Rep.at_ (α:=Int) (v:=(vS F1 1)) (xs:=([(0:Int)]:List Int)) H0 L z3
 refine Bv 11 16383 c0 rfl (.yes rfl rfl) body20 rfl (e1 rfl) (fun w9 hw9=>Calls.gives (wardmotelaw29_lists_c n _ w9 (H0.hL hL hw9) ([(0:Int)]:List Int) (Ar W1 hw9)) fun (w8:World) (u8:Value) ⟨b0_,hu_,s_⟩=>(⟨b0_,hu_,s_.from hw9⟩:∃ z0:Nat,u8 = Value.func (.func 46) #[] #[vP z0]∧St s4 w8 [.cells z0 [(vS F1 1)] 42])) rfl (fun g5 V4 H4 ⟨z0,I3,X1⟩=>?_)
 subst I3
 have c1:=mk_push1 H0 X1
 have p1:=mk_tr1 H0 X1
 obtain ⟨c2,U3,h⟩:=bi h
 refine RD.callq (i:=14) (m' :=32767) (W:=144115188075823104) (tk c0) rfl d0 (v:=.agg ((cs_TShare c2)).toArray) (fst:=[]) (cap:=[]) (.yes rfl rfl) body9 rfl (e2 rfl rfl) (fun w9 hw9=>wardmotelaw29_of_c n _ w9 (c1.hL0 hL hw9) (1:Int) (5:Int) U3) rfl ?_
 obtain ⟨d2,V3,h⟩:=bi h
 have U1:=Tt s1 (Tt u1 (Tt v1 (Tt x1 (Tt z1 (Tt A1 (Tt B1 (Tt R0 (Tt U0 (Tt V0 (Tt C1 (Tt k1 (Tt J1 (Tt K1 p1)))))))))))))
 have V2:=Ay u0 U1
 have V1:=Tt u1 (Tt v1 (Tt x1 (Tt z1 (Tt A1 (Tt B1 (Tt R0 (Tt U0 (Tt V0 (Tt C1 (Tt k1 (Tt J1 (Tt K1 p1))))))))))))
 have W2:=Ay E1 V1
 refine Bv 15 65535 c0 rfl (.yes rfl rfl) body21 rfl (e5 rfl rfl rfl rfl rfl) (fun w9 hw9=>minority_Majority_c n _ w9 (c1.hL hL hw9) y1 (Ar V2 hw9) ([(0:Int),(0:Int),(1:Int)]:List Int) (Ar W2 hw9) (2:Int) (0:Int) c2 V3) rfl (fun t4 W4 F2 ⟨Q4,hu_,A3⟩=>?_)
 subst hu_
 obtain ⟨q0,q1⟩:=c1.agr F2
 refine RD.vP 16 131071 c0 rfl d0 (.yes rfl rfl) (fun _=>Ag rfl rfl) rfl<|RD.vP 17 262143 c0 rfl d0 (.yes rfl rfl) (fun _=>Ag rfl rfl) rfl ?_
 obtain ⟨y4,W3,h⟩:=bi h
 have X2:=Ay W1 (Tt p1 q1)
 refine RD.callq (i:=18) (m' :=524287) (W:=144115188075331584) (tk c0) rfl d0 (v:=.bool y4) (fst:=[]) (cap:=[vP z0]) (.yes rfl rfl) body46 rfl (e2 rfl rfl) (fun w9 hw9=>wardmotelaw29_lists_1_c n _ w9 (q0.hL0 hL hw9) d2.1 (q0.kd A3 hw9) d2.2 ([(0:Int)]:List Int) (q0.kd X2 hw9) (fun j9 v9 h9=>hw9.cell0 ((q0.memA .hd) j9 v9 h9)) W3) rfl<|Af 19 1048575 c0 rfl d0 (fun _=>FV.pick_t rfl rfl) rfl<|Af 20 2097151 c0 rfl d0 (fun _=>Ak rfl) rfl<|RD.ifb (s:=53) rfl h (fun s2 h=>?_) (fun s2 h=>?_)
 refine RD.val (i:=22) (m' :=6291455) (W:=144115188059078656) (tk c0) rfl d0 (.yes rfl rfl) (AB rfl (q0.memA (.tl (.tl (.tl (.tl .hd)))))) rfl<|RD.vP 23 14680063 c0 rfl d0 (.yes rfl rfl) (fun _=>Ak rfl) rfl<|Bv 21 16777215 c0 rfl (.yes rfl rfl) body16 rfl (e2 rfl rfl) (fun w9 hw9=>Calls.gives (wardmotelaw29_is_c n _ w9 (q0.hL hL hw9) (20:Int) (77:Int)) fun (w8:World) (u8:Value) ⟨b0_,b1_,hu_,s_⟩=>(⟨b0_,b1_,hu_,s_.from hw9⟩:∃ A0 B0:Nat,u8 = Value.func (.func 41) #[] #[vP A0,vP B0]∧St t4 w8 [.cells A0 [vI 20] 3,.cells B0 [vI 77] 3])) rfl (fun u4 X4 I4 ⟨A0,B0,J3,Y1⟩=>?_)
 subst J3
 have g0:=mk_push2 q0 Y1
 have M1:=mk_tr2 q0 Y1
 obtain ⟨W0,X3,h⟩:=bi h
 have D1:=Tt U1 (Tt q1 M1)
 have Y2:=Ay u0 D1
 have u3:=Tt V1 (Tt q1 M1)
 have Z2:=Ay E1 u3
 refine RD.callq (i:=24) (m' :=33554431) (W:=144115188042301440) (tk c0) rfl d0 (v:=.tuple #[.agg ((cs_TShare W0.1)).toArray,vI W0.2]) (fst:=[]) (cap:=[]) (.yes rfl rfl) body22 rfl (e4 rfl rfl rfl rfl) (fun w9 hw9=>minority_Index_c n _ w9 (g0.hL0 hL hw9) y1 (g0.kd Y2 hw9) ([(0:Int),(0:Int),(1:Int)]:List Int) (g0.kd Z2 hw9) (2:Int) (0:Int) X3) rfl<|RD.vP 25 67108863 c0 rfl d0 (.yes rfl rfl) (fun _=>Ag rfl rfl) rfl<|RD.vP 26 134217727 c0 rfl d0 (.yes rfl rfl) (fun _=>Ag rfl rfl) rfl ?_
 obtain ⟨z4,Y3,h⟩:=bi h
 refine RD.callq (i:=27) (m' :=268435455) (W:=144115187807420416) (tk c0) rfl d0 (v:=.bool z4) (fst:=[]) (cap:=[vP A0,vP B0]) (.yes rfl rfl) body41 rfl (e2 rfl rfl) (fun w9 hw9=>wardmotelaw29_is_1_c n _ w9 (g0.hL0 hL hw9) W0.1 W0.2 (20:Int) (fun j9 v9 h9=>hw9.cell0 ((g0.memA .hd) j9 v9 h9)) (77:Int) (fun j9 v9 h9=>hw9.cell0 ((g0.memA (.tl .hd)) j9 v9 h9)) Y3) rfl<|Af 28 536870911 c0 rfl d0 (fun _=>FV.pick_t rfl rfl) rfl<|Af 29 1073741823 c0 rfl d0 (fun _=>Ak rfl) rfl<|RD.ifb (s:=62) rfl h (fun t2 h=>?_) (fun t2 h=>?_)
 obtain ⟨X0,Z3,h⟩:=bi h
 refine RD.callq (i:=30) (m' :=2147483647) (W:=144115177338437632) (tk c0) rfl d0 (v:=.agg ((cs_TShare X0)).toArray) (fst:=[]) (cap:=[]) (.yes rfl rfl) body9 rfl (e2 rfl rfl) (fun w9 hw9=>wardmotelaw29_of_c n _ w9 (g0.hL0 hL hw9) (14:Int) (9:Int) Z3) rfl ?_
 obtain ⟨Y0,b4,h⟩:=bi h
 refine RD.callq (i:=31) (m' :=4294967295) (W:=144115175190953984) (tk c0) rfl d0 (v:=.agg ((cs_TShare Y0)).toArray) (fst:=[]) (cap:=[]) (.yes rfl rfl) body9 rfl (e2 rfl rfl) (fun w9 hw9=>wardmotelaw29_of_c n _ w9 (g0.hL0 hL hw9) (-1:Int) (45:Int) b4) rfl<|RD.val (i:=33) (m' :=12884901887) (W:=144115170895986688) (tk c0) rfl d0 (.yes rfl rfl) (AB rfl (g0.memA (.tl (.tl (.tl (.tl (.tl (.tl .hd)))))))) rfl<|Bv 32 17179869183 c0 rfl (.yes rfl rfl) body23 rfl (e2 rfl rfl) (fun w9 hw9=>Calls.gives (wardmotelaw29_line_c n _ w9 (g0.hL hL hw9) X0 Y0) fun (w8:World) (u8:Value) ⟨b0_,b1_,hu_,s_⟩=>(⟨b0_,b1_,hu_,s_.from hw9⟩:∃ C0 D0:Nat,u8 = Value.func (.func 59) #[] #[vP C0,vP D0]∧St u4 w8 [.cells C0 (cs_TShare X0) 34,.cells D0 (cs_TShare Y0) 34])) rfl (fun v4 Y4 J4 ⟨C0,D0,K3,Z1⟩=>?_)
 subst K3
 have k0:=mk_push2 g0 Z1
 have P1:=mk_tr2 g0 Z1
 obtain ⟨x0,c4,h⟩:=bi h
 have b3:=Ay u0 (Tt D1 P1)
 refine RD.callq (i:=34) (m' :=34359738367) (W:=144115153716117504) (tk c0) rfl d0 (v:=.tuple #[.agg ((cs_TShare x0.1)).toArray,.agg ((cs_TShare x0.2.1)).toArray,vI x0.2.2]) (fst:=[]) (cap:=[]) (.yes rfl rfl) body8 rfl (e3 rfl rfl rfl) (fun w9 hw9=>minority_Line_c n _ w9 (k0.hL0 hL hw9) y1 (k0.kd b3 hw9) (0:Int) (0:Int) c4) rfl<|RD.vP 35 68719476735 c0 rfl d0 (.yes rfl rfl) (fun _=>Ag rfl rfl) rfl<|RD.vP 36 137438953471 c0 rfl d0 (.yes rfl rfl) (fun _=>Ag rfl rfl) rfl<|RD.vP 37 274877906943 c0 rfl d0 (.yes rfl rfl) (fun _=>Ag rfl rfl) rfl ?_
 obtain ⟨A4,d4,h⟩:=bi h
 refine RD.callq (i:=38) (m' :=549755813887) (W:=144114638320041984) (tk c0) rfl d0 (v:=.bool A4) (fst:=[]) (cap:=[vP C0,vP D0]) (.yes rfl rfl) body59 rfl (e3 rfl rfl rfl) (fun w9 hw9=>wardmotelaw29_line_1_c n _ w9 (k0.hL0 hL hw9) x0.1 x0.2.1 x0.2.2 X0 (fun j9 v9 h9=>hw9.cell0 ((k0.memA .hd) j9 v9 h9)) Y0 (fun j9 v9 h9=>hw9.cell0 ((k0.memA (.tl .hd)) j9 v9 h9)) d4) rfl<|Af 39 1099511627775 c0 rfl d0 (fun _=>FV.pick_t rfl rfl) rfl<|Af 40 2199023255551 c0 rfl d0 (fun _=>Ak rfl) rfl<|RD.ifb (s:=73) rfl h (fun u2 h=>?_) (fun u2 h=>?_)
 refine RD.val (i:=42) (m' :=6597069766655) (W:=144106391982833664) (tk c0) rfl d0 (.yes rfl rfl) (AB rfl (k0.memA (.tl (.tl (.tl (.tl (.tl (.tl (.tl (.tl .hd)))))))))) rfl<|Bv 41 8796093022207 c0 rfl (.yes rfl rfl) body16 rfl (e2 rfl rfl) (fun w9 hw9=>Calls.gives (wardmotelaw29_is_c n _ w9 (k0.hL hL hw9) (49:Int) (51:Int)) fun (w8:World) (u8:Value) ⟨b0_,b1_,hu_,s_⟩=>(⟨b0_,b1_,hu_,s_.from hw9⟩:∃ E0 F0:Nat,u8 = Value.func (.func 41) #[] #[vP E0,vP F0]∧St v4 w8 [.cells E0 [vI 49] 3,.cells F0 [vI 51] 3])) rfl (fun k5 Z4 K4 ⟨E0,F0,M3,b2⟩=>?_)
 subst M3
 have s0:=mk_push2 k0 b2
 have D2:=mk_tr2 k0 b2
 obtain ⟨Z0,g4,h⟩:=bi h
 have v3:=Tt D1 (Tt P1 D2)
 have c3:=Ay u0 v3
 refine RD.callq (i:=43) (m' :=17592186044415) (W:=144097595889811456) (tk c0) rfl d0 (v:=.tuple #[.agg ((cs_TShare Z0.1)).toArray,vI Z0.2]) (fst:=[]) (cap:=[]) (.yes rfl rfl) body13 rfl (e3 rfl rfl rfl) (fun w9 hw9=>minority_Fit_c n _ w9 (s0.hL0 hL hw9) y1 (s0.kd c3 hw9) (0:Int) (0:Int) g4) rfl<|RD.vP 44 35184372088831 c0 rfl d0 (.yes rfl rfl) (fun _=>Ag rfl rfl) rfl<|RD.vP 45 70368744177663 c0 rfl d0 (.yes rfl rfl) (fun _=>Ag rfl rfl) rfl ?_
 obtain ⟨B4,j4,h⟩:=bi h
 refine RD.callq (i:=46) (m' :=140737488355327) (W:=143974450587500544) (tk c0) rfl d0 (v:=.bool B4) (fst:=[]) (cap:=[vP E0,vP F0]) (.yes rfl rfl) body41 rfl (e2 rfl rfl) (fun w9 hw9=>wardmotelaw29_is_1_c n _ w9 (s0.hL0 hL hw9) Z0.1 Z0.2 (49:Int) (fun j9 v9 h9=>hw9.cell0 ((s0.memA .hd) j9 v9 h9)) (51:Int) (fun j9 v9 h9=>hw9.cell0 ((s0.memA (.tl .hd)) j9 v9 h9)) j4) rfl<|Af 47 281474976710655 c0 rfl d0 (fun _=>FV.pick_t rfl rfl) rfl<|Af 48 562949953421311 c0 rfl d0 (fun _=>Ak rfl) rfl<|RD.ifb (s:=81) rfl h (fun v2 h=>?_) (fun v2 h=>?_)
 refine RD.vP 49 1125899906842623 c0 rfl d0 (.yes rfl rfl) (fun _=>Ak rfl) rfl<|RD.vP 50 2251799813685247 c0 rfl d0 (.yes rfl rfl) (fun _=>FV.eql (i:=y0.2.2) (j:=2) rfl rfl) rfl<|Af 51 4503599627370495 c0 rfl d0 (fun _=>FV.pick_t rfl rfl) rfl<|Af 52 9007199254740991 c0 rfl d0 (fun _=>Ak rfl) rfl<|RD.ifd (s:=85) rfl h (fun x2 h=>?_) (fun x2 h=>?_)
 refine RD.vP 53 18014398509481983 c0 rfl d0 (.yes rfl rfl) (fun _=>Ak rfl) rfl<|RD.vP 54 36028797018963967 c0 rfl d0 (.yes rfl rfl) (fun _=>FV.eql (i:=C4.2) (j:=2) rfl rfl) rfl<|Af 55 72057594037927935 c0 rfl d0 (fun _=>FV.pick_t rfl rfl) rfl<|Af 56 144115188075855871 c0 rfl d0 (fun _=>Bb rfl) rfl<|AI (dk c0)<|Ao rfl<|Bg hb0 Tryz.func6 rfl rfl ?_
 cases h
 exact s0.gv
 refine BB 36028797018963967 2 [(53,86),(54,87)] (F:=[(85,false)]) (U:=[]) c0 d0 (.cons rfl .nil) .nil ?_
 dsimp only [offS,List.map]
 refine Af 55 72057594037927935 c0 rfl d0 (fun _=>Bj rfl rfl) rfl<|Af 56 144115188075855871 c0 rfl d0 (fun _=>Bb rfl) rfl<|AI (dk c0)<|Ao rfl<|Bg hb0 Tryz.func6 rfl rfl ?_
 cases h
 exact s0.gv
 refine BB 2251799813685247 6 [(49,82),(50,83)] (F:=[(81,false)]) (U:=[]) c0 d0 (.cons rfl .nil) .nil ?_
 dsimp only [offS,List.map]
 refine Af 51 4503599627370495 c0 rfl d0 (fun _=>Bj rfl rfl) rfl<|Af 52 9007199254740991 c0 rfl d0 (fun _=>Ak rfl) rfl<|BB 36028797018963967 2 [(53,86),(54,87)] (F:=[(85,false)]) (U:=[]) c0 d0 (.cons rfl .nil) .nil ?_
 dsimp only [offS,List.map]
 refine Af 55 72057594037927935 c0 rfl d0 (fun _=>Bj rfl rfl) rfl<|Af 56 144115188075855871 c0 rfl d0 (fun _=>Bb rfl) rfl<|AI (dk c0)<|Ao rfl<|Bg hb0 Tryz.func6 rfl rfl ?_
 cases h
 exact s0.gv
 refine BB 140737488355327 10 [(41,74),(42,75),(43,76),(44,77),(45,78),(46,79)] (F:=[(73,false)]) (U:=[]) c0 d0 (.cons rfl .nil) .nil ?_
 dsimp only [offS,List.map]
 refine Af 47 281474976710655 c0 rfl d0 (fun _=>Bj rfl rfl) rfl<|Af 48 562949953421311 c0 rfl d0 (fun _=>Ak rfl) rfl<|BB 2251799813685247 6 [(49,82),(50,83)] (F:=[(81,false)]) (U:=[]) c0 d0 (.cons rfl .nil) .nil ?_
 dsimp only [offS,List.map]
 refine Af 51 4503599627370495 c0 rfl d0 (fun _=>Bj rfl rfl) rfl<|Af 52 9007199254740991 c0 rfl d0 (fun _=>Ak rfl) rfl<|BB 36028797018963967 2 [(53,86),(54,87)] (F:=[(85,false)]) (U:=[]) c0 d0 (.cons rfl .nil) .nil ?_
 dsimp only [offS,List.map]
 refine Af 55 72057594037927935 c0 rfl d0 (fun _=>Bj rfl rfl) rfl<|Af 56 144115188075855871 c0 rfl d0 (fun _=>Bb rfl) rfl<|AI (dk c0)<|Ao rfl<|Bg hb0 Tryz.func6 rfl rfl ?_
 cases h
 exact k0.gv
 refine BB 549755813887 18 [(30,63),(31,64),(32,65),(33,66),(34,67),(35,68),(36,69),(37,70),(38,71)] (F:=[(62,false)]) (U:=[]) c0 d0 (.cons rfl .nil) .nil ?_
 dsimp only [offS,List.map]
 refine Af 39 1099511627775 c0 rfl d0 (fun _=>Bj rfl rfl) rfl<|Af 40 2199023255551 c0 rfl d0 (fun _=>Ak rfl) rfl<|BB 140737488355327 10 [(41,74),(42,75),(43,76),(44,77),(45,78),(46,79)] (F:=[(73,false)]) (U:=[]) c0 d0 (.cons rfl .nil) .nil ?_
 dsimp only [offS,List.map]
 refine Af 47 281474976710655 c0 rfl d0 (fun _=>Bj rfl rfl) rfl<|Af 48 562949953421311 c0 rfl d0 (fun _=>Ak rfl) rfl<|BB 2251799813685247 6 [(49,82),(50,83)] (F:=[(81,false)]) (U:=[]) c0 d0 (.cons rfl .nil) .nil ?_
 dsimp only [offS,List.map]
 refine Af 51 4503599627370495 c0 rfl d0 (fun _=>Bj rfl rfl) rfl<|Af 52 9007199254740991 c0 rfl d0 (fun _=>Ak rfl) rfl<|BB 36028797018963967 2 [(53,86),(54,87)] (F:=[(85,false)]) (U:=[]) c0 d0 (.cons rfl .nil) .nil ?_
 dsimp only [offS,List.map]
 refine Af 55 72057594037927935 c0 rfl d0 (fun _=>Bj rfl rfl) rfl<|Af 56 144115188075855871 c0 rfl d0 (fun _=>Bb rfl) rfl<|AI (dk c0)<|Ao rfl<|Bg hb0 Tryz.func6 rfl rfl ?_
 cases h
 exact g0.gv
 refine BB 268435455 29 [(21,54),(22,55),(23,56),(24,57),(25,58),(26,59),(27,60)] (F:=[(53,false)]) (U:=[]) c0 d0 (.cons rfl .nil) .nil ?_
 dsimp only [offS,List.map]
 refine Af 28 536870911 c0 rfl d0 (fun _=>Bj rfl rfl) rfl<|Af 29 1073741823 c0 rfl d0 (fun _=>Ak rfl) rfl<|BB 549755813887 18 [(30,63),(31,64),(32,65),(33,66),(34,67),(35,68),(36,69),(37,70),(38,71)] (F:=[(62,false)]) (U:=[]) c0 d0 (.cons rfl .nil) .nil ?_
 dsimp only [offS,List.map]
 refine Af 39 1099511627775 c0 rfl d0 (fun _=>Bj rfl rfl) rfl<|Af 40 2199023255551 c0 rfl d0 (fun _=>Ak rfl) rfl<|BB 140737488355327 10 [(41,74),(42,75),(43,76),(44,77),(45,78),(46,79)] (F:=[(73,false)]) (U:=[]) c0 d0 (.cons rfl .nil) .nil ?_
 dsimp only [offS,List.map]
 refine Af 47 281474976710655 c0 rfl d0 (fun _=>Bj rfl rfl) rfl<|Af 48 562949953421311 c0 rfl d0 (fun _=>Ak rfl) rfl<|BB 2251799813685247 6 [(49,82),(50,83)] (F:=[(81,false)]) (U:=[]) c0 d0 (.cons rfl .nil) .nil ?_
 dsimp only [offS,List.map]
 refine Af 51 4503599627370495 c0 rfl d0 (fun _=>Bj rfl rfl) rfl<|Af 52 9007199254740991 c0 rfl d0 (fun _=>Ak rfl) rfl<|BB 36028797018963967 2 [(53,86),(54,87)] (F:=[(85,false)]) (U:=[]) c0 d0 (.cons rfl .nil) .nil ?_
 dsimp only [offS,List.map]
 refine Af 55 72057594037927935 c0 rfl d0 (fun _=>Bj rfl rfl) rfl<|Af 56 144115188075855871 c0 rfl d0 (fun _=>Bb rfl) rfl<|AI (dk c0)<|Ao rfl<|Bg hb0 Tryz.func6 rfl rfl ?_
 cases h
 exact q0.gv
 refine BB 524287 38 [(10,43),(11,44),(12,45),(13,46),(14,47),(15,48),(16,49),(17,50),(18,51)] (F:=[(42,false)]) (U:=[]) c0 d0 (.cons rfl .nil) .nil ?_
 dsimp only [offS,List.map]
 refine Af 19 1048575 c0 rfl d0 (fun _=>Bj rfl rfl) rfl<|Af 20 2097151 c0 rfl d0 (fun _=>Ak rfl) rfl<|BB 268435455 29 [(21,54),(22,55),(23,56),(24,57),(25,58),(26,59),(27,60)] (F:=[(53,false)]) (U:=[]) c0 d0 (.cons rfl .nil) .nil ?_
 dsimp only [offS,List.map]
 refine Af 28 536870911 c0 rfl d0 (fun _=>Bj rfl rfl) rfl<|Af 29 1073741823 c0 rfl d0 (fun _=>Ak rfl) rfl<|BB 549755813887 18 [(30,63),(31,64),(32,65),(33,66),(34,67),(35,68),(36,69),(37,70),(38,71)] (F:=[(62,false)]) (U:=[]) c0 d0 (.cons rfl .nil) .nil ?_
 dsimp only [offS,List.map]
 refine Af 39 1099511627775 c0 rfl d0 (fun _=>Bj rfl rfl) rfl<|Af 40 2199023255551 c0 rfl d0 (fun _=>Ak rfl) rfl<|BB 140737488355327 10 [(41,74),(42,75),(43,76),(44,77),(45,78),(46,79)] (F:=[(73,false)]) (U:=[]) c0 d0 (.cons rfl .nil) .nil ?_
 dsimp only [offS,List.map]
 refine Af 47 281474976710655 c0 rfl d0 (fun _=>Bj rfl rfl) rfl<|Af 48 562949953421311 c0 rfl d0 (fun _=>Ak rfl) rfl<|BB 2251799813685247 6 [(49,82),(50,83)] (F:=[(81,false)]) (U:=[]) c0 d0 (.cons rfl .nil) .nil ?_
 dsimp only [offS,List.map]
 refine Af 51 4503599627370495 c0 rfl d0 (fun _=>Bj rfl rfl) rfl<|Af 52 9007199254740991 c0 rfl d0 (fun _=>Ak rfl) rfl<|BB 36028797018963967 2 [(53,86),(54,87)] (F:=[(85,false)]) (U:=[]) c0 d0 (.cons rfl .nil) .nil ?_
 dsimp only [offS,List.map]
 refine Af 55 72057594037927935 c0 rfl d0 (fun _=>Bj rfl rfl) rfl<|Af 56 144115188075855871 c0 rfl d0 (fun _=>Bb rfl) rfl<|AI (dk c0)<|Ao rfl<|Bg hb0 Tryz.func6 rfl rfl ?_
 cases h
 exact t0.gv
 refine BB 255 49 [(3,36),(4,37),(5,38),(6,39),(7,40)] (F:=[(35,false)]) (U:=[]) c0 d0 (.cons rfl .nil) .nil ?_
 dsimp only [offS,List.map]
 refine Af 8 511 c0 rfl d0 (fun _=>Bj rfl rfl) rfl<|Af 9 1023 c0 rfl d0 (fun _=>Ak rfl) rfl<|BB 524287 38 [(10,43),(11,44),(12,45),(13,46),(14,47),(15,48),(16,49),(17,50),(18,51)] (F:=[(42,false)]) (U:=[]) c0 d0 (.cons rfl .nil) .nil ?_
 dsimp only [offS,List.map]
 refine Af 19 1048575 c0 rfl d0 (fun _=>Bj rfl rfl) rfl<|Af 20 2097151 c0 rfl d0 (fun _=>Ak rfl) rfl<|BB 268435455 29 [(21,54),(22,55),(23,56),(24,57),(25,58),(26,59),(27,60)] (F:=[(53,false)]) (U:=[]) c0 d0 (.cons rfl .nil) .nil ?_
 dsimp only [offS,List.map]
 refine Af 28 536870911 c0 rfl d0 (fun _=>Bj rfl rfl) rfl<|Af 29 1073741823 c0 rfl d0 (fun _=>Ak rfl) rfl<|BB 549755813887 18 [(30,63),(31,64),(32,65),(33,66),(34,67),(35,68),(36,69),(37,70),(38,71)] (F:=[(62,false)]) (U:=[]) c0 d0 (.cons rfl .nil) .nil ?_
 dsimp only [offS,List.map]
 refine Af 39 1099511627775 c0 rfl d0 (fun _=>Bj rfl rfl) rfl<|Af 40 2199023255551 c0 rfl d0 (fun _=>Ak rfl) rfl<|BB 140737488355327 10 [(41,74),(42,75),(43,76),(44,77),(45,78),(46,79)] (F:=[(73,false)]) (U:=[]) c0 d0 (.cons rfl .nil) .nil ?_
 dsimp only [offS,List.map]
 refine Af 47 281474976710655 c0 rfl d0 (fun _=>Bj rfl rfl) rfl<|Af 48 562949953421311 c0 rfl d0 (fun _=>Ak rfl) rfl<|BB 2251799813685247 6 [(49,82),(50,83)] (F:=[(81,false)]) (U:=[]) c0 d0 (.cons rfl .nil) .nil ?_
 dsimp only [offS,List.map]
 refine Af 51 4503599627370495 c0 rfl d0 (fun _=>Bj rfl rfl) rfl<|Af 52 9007199254740991 c0 rfl d0 (fun _=>Ak rfl) rfl<|BB 36028797018963967 2 [(53,86),(54,87)] (F:=[(85,false)]) (U:=[]) c0 d0 (.cons rfl .nil) .nil ?_
 dsimp only [offS,List.map]
 refine Af 55 72057594037927935 c0 rfl d0 (fun _=>Bj rfl rfl) rfl<|Af 56 144115188075855871 c0 rfl d0 (fun _=>Bb rfl) rfl<|AI (dk c0)<|Ao rfl<|Bg hb0 Tryz.func6 rfl rfl ?_
 cases h
 exact Q0.gv
structure TDraft where
  fj:UInt8
  fe:UInt8
  fl:UInt8
  fu:UInt8
  fNums:List UInt8
  deriving DecidableEq
instance:Rep TDraft:=Rep.via (β:=UInt8 × UInt8 × UInt8 × UInt8 × (List UInt8)) fun x=>(x.fj,x.fe,x.fl,x.fu,x.fNums)
def tb60_3:List (Nat × Nat × Nat):=[(0,512,4),(1,1024,512),(0,2048,2),(0,4096,4),(8,8192,4096),(16,16384,8192),(36,32768,18432),(66,65536,33792),(128,131072,65536),(256,262144,131072),(1023,16,262144)]
def wardmoteref22_Draft_num_p (_n:Nat) (a0:TDraft) (a1:Int):Option Int:=
  (if a0.fNums.length = 0 then some (1:Int) else (remI a1 ((a0.fNums.length:Nat):Int)).bind fun b0=>(idx a0.fNums b0).bind fun c0=>some ((c0.toNat:Nat):Int))
theorem wardmoteref22_Draft_num_c (n:Nat) (L:List Nat) (w:World) (_hL:∀ b ∈ L,b < w.heap.size) (a0:TDraft) {v0_4:Value} (h0_4:Rep.R w L [v0_4] a0.fNums) (a1:Int)  {r:Int} (h:wardmoteref22_Draft_num_p n a0 a1 = some r) :
    Calls Tryz.prog 60 #[.agg #[.int .u8 (a0.fj.toNat:Int),.int .u8 (a0.fe.toNat:Int),.int .u8 (a0.fl.toNat:Int),.int .u8 (a0.fu.toNat:Int),v0_4],vI a1] w (Gives w fun _ u=>u = vI r):=by
 unfold wardmoteref22_Draft_num_p at h
 have hS0:=Ax w
 refine AE Tryz.func60 rfl rfl rfl (fun _ cs0 hb0=>?_)
 refine Ac<|Ai .plain rfl (Ap hS0 rfl rfl) (fun I0 D0 d0 F0=>?_)
 refine Ah rfl<|Aa<|Aj<|Ac<|AW 4 rfl<|AY rfl ((d0.memA .hd) 4 _ rfl) ?_
 have g0:=AR h0_4 d0
 have G0:a0.fNums.length ≤ 281474976710656:=Bh g0
 refine Ab (Bk (xs:=a0.fNums) Tryz.underlying22 rfl g0)<|Ab (FV.eqlN (i:=a0.fNums.length) (j:=0) rfl rfl)<|Aa<|AV rfl h (fun k0 h=>?_) (fun k0 h=>?_)
 refine Ac<|Ah rfl<|Aa<|Ao rfl<|Bg hb0 Tryz.func60 rfl rfl ?_
 cases h
 exact d0.gv
 refine Av<|Aj<|dt 11 tb60_3 (fun b0 c0=>?_)
 refine Af 0 1 b0 rfl c0 (fun _=>AP 4 rfl) rfl<|Az 1 3 1920 b0 rfl c0 (AJ rfl ((d0.memA .hd) 4 _ rfl)) rfl<|Af 2 7 b0 rfl c0 (fun _=>Ak rfl) rfl<|Af 3 15 b0 rfl c0 (fun _=>AP 4 rfl) rfl<|Az 4 31 2016 b0 rfl c0 (AJ rfl ((d0.memA .hd) 4 _ rfl)) rfl<|Az 5 63 1984 b0 rfl c0 (Bk (xs:=a0.fNums) Tryz.underlying22 rfl g0) rfl ?_
 obtain ⟨B0,y0,h⟩:=bi h
 refine Af 6 127 b0 rfl c0 (fun _=>FV.remc (i:=a1) (j:=((a0.fNums.length:Nat):Int)) rfl rfl y0) rfl ?_
 obtain ⟨j0,z0,h⟩:=bi h
 obtain ⟨t0,A0⟩:=idx_in z0
 obtain ⟨C0,E0,q0,u0,p0,x0,v0⟩:=Bq g0 A0
 have s0:p0 = [.int .u8 (j0.toNat:Int)]:=x0; subst s0
 refine Af 7 255 b0 rfl c0 (fun _=>Bx 1 (B0.toNat) rfl q0 rfl t0 u0) rfl<|Az 8 511 1536 b0 rfl c0 (AJ rfl (v0 0 _ rfl)) rfl ?_
 have H0:=j0.toNat_lt
 refine Af 9 1023 b0 rfl c0 (fun _=>FV.convN (i:=j0.toNat) Tryz.underlying5 Tryz.underlying3 rfl (by omega)) rfl<|Af 10 2047 b0 rfl c0 (fun _=>Bb rfl) rfl<|AI (dk b0)<|Ao rfl<|Bg hb0 Tryz.func60 rfl rfl ?_
 cases h
 exact d0.gv
theorem body60:bodyB Tryz.prog 60 = true:=by kernel_rfl
def wardmoteref22_Draft_list_l1 (n:Nat) (a1:Int) (a2:Int) (a0:TDraft) (a3:Int) (d0:Int × (List Int) → Option (List Int)):Int × (List Int) → Option (List Int)
  | (b0,c0)=>(if b0 < a1 then (chk (a2 + b0)).bind fun j0=>(wardmoteref22_Draft_num_p n a0 j0).bind fun p0=>(app c0 ([min p0 a3]:List Int)).bind fun k0=>(chk (b0 + 1)).bind fun g0=>d0 (g0,k0) else some c0)
def wardmoteref22_Draft_list_p (n:Nat) (a0:TDraft) (a1:Int) (a2:Int) (a3:Int):Option (List Int):=
  Option.bind (loopF (wardmoteref22_Draft_list_l1 n a1 a2 a0 a3) n (0,([]:List Int))) (fun b0=>some b0)
theorem wardmoteref22_Draft_list_c (n:Nat) (L:List Nat) (w:World) (hL:∀ b ∈ L,b < w.heap.size) (a0:TDraft) {v0_4:Value} (h0_4:Rep.R w L [v0_4] a0.fNums) (a1:Int) (a2:Int) (a3:Int)  {r:List Int} (h:wardmoteref22_Draft_list_p n a0 a1 a2 a3 = some r) :
    Calls Tryz.prog 61 #[.agg #[.int .u8 (a0.fj.toNat:Int),.int .u8 (a0.fe.toNat:Int),.int .u8 (a0.fl.toNat:Int),.int .u8 (a0.fu.toNat:Int),v0_4],vI a1,vI a2,vI a3] w (Gives w fun w' u=>∃ v0_0:Value,u = v0_0∧Rep.R w' L [v0_0] r):=by
 unfold wardmoteref22_Draft_list_p at h
 have hS0:=Ax w
 refine AE Tryz.func61 rfl rfl rfl (fun _ cs0 hb0=>?_)
 refine Ac<|Ai .plain rfl (Ap hS0 rfl rfl) (fun j1 q0 v0 u1=>?_)
 refine Ah rfl<|Aa<|Ac<|Ah rfl<|Aa<|Aj<|Ac<|Ah rfl<|Aa<|AA ?_
 have x0:=v0.nilRow 3 (Rep.size Int)
 have v1:=St.nilRowT v0 3 (Rep.size Int)
 have I0:=AF (cs:=[]) (xs:=([]:List Int)) x0 L (AU _ _)
 obtain ⟨x1,R0,M0⟩:=bind_in2 h
 refine Bp (α:=Int × (List Int) × Value × (List Value)) (fun ⟨g0,c0,b0,j0⟩=>[(1,vI a1),(2,vI a2),(3,vI a3),(4,vP q0),(9,b0),(10,vI g0)]) (fun ⟨g0,c0,b0,j0⟩ s0=>St w s0 [.row w.heap.size 3 (Rep.size Int) b0 c0.length j0,.cells q0 [.int .u8 (a0.fj.toNat:Int),.int .u8 (a0.fe.toNat:Int),.int .u8 (a0.fl.toNat:Int),.int .u8 (a0.fu.toNat:Int),v0_4] 24]∧Tr j1 [.row w.heap.size 3 (Rep.size Int) vN (([]:List Int).length) [],.cells q0 [.int .u8 (a0.fj.toNat:Int),.int .u8 (a0.fe.toNat:Int),.int .u8 (a0.fl.toNat:Int),.int .u8 (a0.fu.toNat:Int),v0_4] 24] s0 [.row w.heap.size 3 (Rep.size Int) b0 c0.length j0,.cells q0 [.int .u8 (a0.fj.toNat:Int),.int .u8 (a0.fe.toNat:Int),.int .u8 (a0.fl.toNat:Int),.int .u8 (a0.fu.toNat:Int),v0_4] 24]∧Cells s0 (bl [.row w.heap.size 3 (Rep.size Int) b0 c0.length j0,.cells q0 [.int .u8 (a0.fj.toNat:Int),.int .u8 (a0.fe.toNat:Int),.int .u8 (a0.fl.toNat:Int),.int .u8 (a0.fu.toNat:Int),v0_4] 24] ++ L) j0 c0) (fun ⟨g0,c0,b0,j0⟩=>(g0,c0)) (0,([]:List Int),vN,[]) R0 ⟨rfl,rfl,rfl,rfl,rfl,rfl,trivial⟩ ⟨x0,Ba _ _,I0⟩ ?_
 rintro p1 ⟨g0,c0,b0,j0⟩ s0 D0 ⟨p0,G0,A0⟩ h
 unfold wardmoteref22_Draft_list_l1 at h
 try dsimp only at h
 refine Aj<|Ac<|Ae rfl<|Ae rfl<|Ab (FV.lss (i:=g0) (j:=a1) rfl rfl)<|Aa<|AV rfl h (fun B0 h=>?_) (fun B0 h=>?_)
 refine Av<|Aj<|AA<|Al<|Ae rfl<|Ab (AB rfl (p0.memA (.tl .hd)))<|Ae rfl<|Ae rfl ?_
 obtain ⟨d1,Y0,h⟩:=bi h
 refine Ab (FV.addc (i:=a2) (j:=g0) rfl rfl Y0) ?_
 obtain ⟨d0,b1,h⟩:=bi h
 refine Bc (vI d0) body60 rfl (e2 rfl rfl) (fun w9 hw9=>wardmoteref22_Draft_num_c n _ w9 (p0.hL0 hL hw9) a0 (p0.k0 h0_4 hw9) d1 b1) rfl<|Ae rfl<|Ab (FV.min2 (i:=d0) (j:=a3) rfl rfl)<|Ai .plain rfl (AZ (α:=Int) (xs:=([min d0 a3]:List Int)) (vs:=[vI (min d0 a3)]) (ds' :=[vI (min d0 a3)]) rfl p0 el42 rfl (e1 rfl) (by kernel_rfl) rfl) (fun y1 q1 u0 z0=>?_)
 have J0:=AF (cs:=[vI (min d0 a3)]) (xs:=(([min d0 a3]:List Int):List Int)) u0 L (Aq (cs:=[vI (min d0 a3)]) (ds:=[]) rfl (AU _ _))
 obtain ⟨k1,Z0,h⟩:=bi h
 have Q0:=AQ A0 z0
 refine RG.doesL .plain rfl (DoesL.app (α:=Int) (ys:=([min d0 a3]:List Int)) Z0 u0 (fun _ _=>(.tl .hd)) el42 rfl rfl Q0 (Src.row (α:=Int) u0 .hd J0)) (fun g1 z1 ⟨C0,F0,H0,K0⟩=>?_)
 refine Ah rfl<|Aa<|AC<|Al<|Ae rfl ?_
 obtain ⟨c1,X0,h⟩:=bi h
 refine Ab (FV.addc (i:=g0) (j:=1) rfl rfl X0)<|Ah rfl<|Aa ?_
 obtain ⟨E0,y0⟩:=AL F0 (.one (.tl .hd) (.one (.tl .hd) .done))
 have P0:=AQ K0 y0
 have U0:=Tt z0 (Tt H0 y0)
 exact D0 (c1,k1,g1,C0) _ _ ⟨rfl,rfl,rfl,rfl,rfl,rfl,trivial⟩ ⟨E0,(Tt G0 U0),P0⟩ h
 refine Bf rfl ?_
 have h:=M0 _ h
 try dsimp only at h
 refine Ac<|Ae rfl<|Ah rfl<|Aa<|Ao rfl ?_
 have V0:=Bs (α:=Int) p0 .hd A0 hL
 have t0:=St.delS p0 .hd
 have s1:=St.delT p0 .hd
 have W0:=Rep.at_ (α:=Int) (v:=b0) (xs:=c0) t0 L V0
 refine Bg hb0 Tryz.func61 rfl rfl ?_
 cases h
 exact ⟨t0.ag,fun w9 hw9=>⟨b0,rfl,t0.kd W0 hw9⟩⟩
def tb24_5:List (Nat × Nat × Nat):=[(0,268435456,64),(1,536870912,268435456),(2,1073741824,536870912),(4,2147483648,1073741824),(0,4294967296,64),(16,8589934592,4294967296),(32,17179869184,8589934592),(64,34359738368,17179869184),(128,68719476736,34359738368),(264,137438953472,70866960384),(512,274877906944,137438953472),(1024,549755813888,274877906944),(0,1099511627776,4),(0,2199023255552,64),(8192,4398046511104,2199023255552),(20480,8796093022208,5497558138880),(34816,17592186044416,9345848836096),(0,128,0),(262143,0,17592186044544)]
def tb24_11:List (Nat × Nat × Nat):=[(0,590295810358705651712,128),(1,1180591620717411303424,590295810358705651712),(0,2361183241434822606848,4),(0,4722366482869645213696,64),(8,9444732965739290427392,4722366482869645213696),(16,18889465931478580854784,9444732965739290427392),(0,37778931862957161709568,256),(96,75557863725914323419136,56668397794435742564352),(132,151115727451828646838272,77919046967349146025984),(256,302231454903657293676544,151115727451828646838272),(512,604462909807314587353088,302231454903657293676544),(1282,1208925819614629174706176,605643501428031998656512),(4095,2417851639229258349412352,128),(8191,0,3626777458843887524118528)]
def tb24_16:List (Nat × Nat × Nat):=[(0,79228162514264337593543950336,32),(1,158456325028528675187087900672,79228162514264337593543950336),(0,316912650057057350374175801344,32),(4,633825300114114700748351602688,316912650057057350374175801344),(8,1267650600228229401496703205376,633825300114114700748351602688),(0,2535301200456458802993406410752,32),(32,5070602400912917605986812821504,2535301200456458802993406410752),(64,10141204801825835211973625643008,5070602400912917605986812821504),(0,20282409603651670423947251286016,32),(256,40564819207303340847894502572032,20282409603651670423947251286016),(512,81129638414606681695789005144064,40564819207303340847894502572032),(1168,162259276829213363391578010288128,92538493816660746309259333992448),(2048,324518553658426726783156020576256,162259276829213363391578010288128),(4098,649037107316853453566312041152512,324677009983455255458343108476928),(16383,1298074214633706907132624082305024,32),(32767,0,1947111321950560360698936123457536)]
theorem el22:ElT Tryz.prog 22 5 (Rep.size UInt8) 1 (.int .u8 0) [.int .u8 0]:=⟨Tryz.underlying22,by kernel_rfl,rfl,rfl,rfl,rfl⟩
theorem body61:bodyB Tryz.prog 61 = true:=by kernel_rfl
def wardmoteref22_Draft_Roll_l1 (n:Nat) (a0:TDraft) (t0:Int) (d0:Nat × (List Int) → Option (List Int)):Nat × (List Int) → Option (List Int)
  | (b0,c0)=>(if b0 < ((a0.fl % (3:UInt8)).toNat) then (chk (9 * t0)).bind fun g0=>(chk (g0 + 7)).bind fun j0=>(chk (j0 + ((b0:Nat):Int))).bind fun k0=>(wardmoteref22_Draft_num_p n a0 k0).bind fun s0=>(remI s0 3).bind fun p0=>(app c0 ([p0]:List Int)).bind fun q0=>d0 (b0 + 1,q0) else some c0)
def wardmoteref22_Draft_Roll_l2 (_n:Nat) (a0:TDraft) (d0:Nat × (List TUnit) → Option (List TUnit)):Nat × (List TUnit) → Option (List TUnit)
  | (b0,c0)=>(if b0 < ((a0.fu % (2:UInt8)).toNat) then (mk (((a0.fj % (3:UInt8)).toNat:Nat):Int) (0:Int)).bind fun g0=>(mk (((a0.fe % (4:UInt8)).toNat:Nat):Int) (0:Int)).bind fun j0=>(mk (((a0.fl % (3:UInt8)).toNat:Nat):Int) (0:Int)).bind fun k0=>(app c0 ([(⟨⟨#[115,101,97]⟩,(0:Int),g0,j0,k0,true⟩:TUnit)]:List TUnit)).bind fun p0=>d0 (b0 + 1,p0) else some c0)
def wardmoteref22_Draft_Roll_l3 (n:Nat) (a1:Int) (a0:TDraft) (g0:Int × (List TUnit) → Option (List TUnit)):Int × (List TUnit) → Option (List TUnit)
  | (b0,c0)=>(if b0 < a1 then (remI b0 26).bind fun j0=>(chk (97 + j0)).bind fun k0=>(quoI b0 26).bind fun p0=>(remI p0 26).bind fun q0=>(chk (97 + q0)).bind fun s0=>(chk (9 * b0)).bind fun t0=>(wardmoteref22_Draft_num_p n a0 t0).bind fun d0=>(sadd ⟨#[117]⟩ (bstr ([u8ofI k0,u8ofI s0]:List UInt8))).bind fun u0=>(chk (9 * b0)).bind fun v0=>(chk (v0 + 1)).bind fun x0=>(wardmoteref22_Draft_list_p n a0 (((a0.fj % (3:UInt8)).toNat:Nat):Int) x0 d0).bind fun D0=>(chk (9 * b0)).bind fun y0=>(chk (y0 + 3)).bind fun z0=>(wardmoteref22_Draft_list_p n a0 (((a0.fe % (4:UInt8)).toNat:Nat):Int) z0 (255:Int)).bind fun E0=>Option.bind (loopF (wardmoteref22_Draft_Roll_l1 n a0 b0) n (0,([]:List Int))) (fun B0=>(app c0 ([(⟨u0,d0,D0,E0,B0,false⟩:TUnit)]:List TUnit)).bind fun C0=>(chk (b0 + 1)).bind fun A0=>g0 (A0,C0)) else some c0)
def wardmoteref22_Draft_Roll_p (n:Nat) (a0:TDraft) (a1:Int):Option TRoll:=
  Option.bind (loopF (wardmoteref22_Draft_Roll_l3 n a1 a0) n (0,([]:List TUnit))) (fun c0=>Option.bind (loopF (wardmoteref22_Draft_Roll_l2 n a0) n (0,c0)) (fun b0=>some (⟨(((a0.fj % (3:UInt8)).toNat:Nat):Int),(((a0.fe % (4:UInt8)).toNat:Nat):Int),(((a0.fl % (3:UInt8)).toNat:Nat):Int),b0⟩:TRoll)))
theorem wardmoteref22_Draft_Roll_c (n:Nat) (L:List Nat) (w:World) (hL:∀ b ∈ L,b < w.heap.size) (a0:TDraft) {v0_4:Value} (h0_4:Rep.R w L [v0_4] a0.fNums) (a1:Int)  {r:TRoll} (h:wardmoteref22_Draft_Roll_p n a0 a1 = some r) :
    Calls Tryz.prog 24 #[.agg #[.int .u8 (a0.fj.toNat:Int),.int .u8 (a0.fe.toNat:Int),.int .u8 (a0.fl.toNat:Int),.int .u8 (a0.fu.toNat:Int),v0_4],vI a1] w (Gives w fun w' u=>∃ (v0_3:Value) (cs0_3:List Value),u = .agg #[vI r.fj,vI r.fe,vI r.fl,v0_3]∧St w w' (rowsOf w.heap.size [(44,Rep.size TUnit,v0_3,r.ft.length,cs0_3)])∧Cells w' (bl (rowsOf w.heap.size [(44,Rep.size TUnit,v0_3,r.ft.length,cs0_3)]) ++ L) cs0_3 (r.ft:List TUnit)):=by
 unfold wardmoteref22_Draft_Roll_p at h
 have hS0:=Ax w
 refine AE Tryz.func24 rfl rfl rfl (fun _ cs0 hb0=>?_)
 refine Ac<|Ai .plain rfl (Ap hS0 rfl rfl) (fun D9 g0 C4 g9=>?_)
 refine Ai .plain rfl (Au [vI 0,vI 0,vI 0,vN] C4) (fun I9 j0 W1 j9=>?_)
 refine Aa<|Ac<|AW 0 rfl<|AY rfl ((W1.memA (.tl .hd)) 0 _ rfl)<|Ab (FV.rem8 (a:=a0.fj) (b:=(3:UInt8)) rfl rfl (by decide)) ?_
 have u9:=(a0.fj % (3:UInt8)).toNat_lt
 refine Ab (FV.convN (i:=(a0.fj % (3:UInt8)).toNat) Tryz.underlying5 Tryz.underlying3 rfl (by omega))<|AW 1 rfl<|AY rfl ((W1.memA (.tl .hd)) 1 _ rfl)<|Ab (FV.rem8 (a:=a0.fe) (b:=(4:UInt8)) rfl rfl (by decide)) ?_
 have v9:=(a0.fe % (4:UInt8)).toNat_lt
 refine Ab (FV.convN (i:=(a0.fe % (4:UInt8)).toNat) Tryz.underlying5 Tryz.underlying3 rfl (by omega))<|AW 2 rfl<|AY rfl ((W1.memA (.tl .hd)) 2 _ rfl)<|Ab (FV.rem8 (a:=a0.fl) (b:=(3:UInt8)) rfl rfl (by decide)) ?_
 have x9:=(a0.fl % (3:UInt8)).toNat_lt
 refine Ab (FV.convN (i:=(a0.fl % (3:UInt8)).toNat) Tryz.underlying5 Tryz.underlying3 rfl (by omega))<|Ab (AK (vs:=[vI (((a0.fj % (3:UInt8)).toNat:Nat):Int),vI (((a0.fe % (4:UInt8)).toNat:Nat):Int),vI (((a0.fl % (3:UInt8)).toNat:Nat):Int)]) (u:=.agg #[vI (((a0.fj % (3:UInt8)).toNat:Nat):Int),vI (((a0.fe % (4:UInt8)).toNat:Nat):Int),vI (((a0.fl % (3:UInt8)).toNat:Nat):Int),vN]) (e3 rfl rfl rfl) (fun w9=>by kernel_rfl))<|Ai .plain rfl (Au [vI 0,vI 0,vI 0,vN] W1) (fun J9 p0 D4 k9=>?_)
 refine AM [vI (((a0.fj % (3:UInt8)).toNat:Nat):Int),vI (((a0.fe % (4:UInt8)).toNat:Nat):Int),vI (((a0.fl % (3:UInt8)).toNat:Nat):Int),vN] D4 .hd (onesB rfl) (fun q8 g3 p9=>?_)
 refine Aa<|Aj<|Ac<|Ah rfl<|Aa<|AA ?_
 have v2:=g3.nilRow 44 (Rep.size TUnit)
 have q9:=St.nilRowT g3 44 (Rep.size TUnit)
 have y5:=AF (cs:=[]) (xs:=([]:List TUnit)) v2 L (AU _ _)
 have j3:=v2.nilRow 44 (Rep.size TUnit)
 have X4:=St.nilRowT v2 44 (Rep.size TUnit)
 have s9:=AF (cs:=[]) (xs:=([]:List TUnit)) j3 L (AU _ _)
 have B6:=AQ y5 X4
 obtain ⟨z9,P6,I5⟩:=bind_in2 h
 refine Bp (α:=Int × (List TUnit) × Value × (List Value)) (fun ⟨M0,y0,d0,z0⟩=>[(1,vI a1),(2,vP g0),(4,vP j0),(5,vP p0),(6,vI M0)]) (fun ⟨M0,y0,d0,z0⟩ P1=>St w P1 [.row w.heap.size 44 (Rep.size TUnit) vN (([]:List TUnit).length) [],.row w.heap.size 44 (Rep.size TUnit) d0 y0.length z0,.cells p0 [vI (((a0.fj % (3:UInt8)).toNat:Nat):Int),vI (((a0.fe % (4:UInt8)).toNat:Nat):Int),vI (((a0.fl % (3:UInt8)).toNat:Nat):Int),d0] 28,.cells j0 [vI 0,vI 0,vI 0,vN] 28,.cells g0 [.int .u8 (a0.fj.toNat:Int),.int .u8 (a0.fe.toNat:Int),.int .u8 (a0.fl.toNat:Int),.int .u8 (a0.fu.toNat:Int),v0_4] 24]∧Tr q8 [.row w.heap.size 44 (Rep.size TUnit) vN (([]:List TUnit).length) [],.row w.heap.size 44 (Rep.size TUnit) vN (([]:List TUnit).length) [],.cells p0 [vI (((a0.fj % (3:UInt8)).toNat:Nat):Int),vI (((a0.fe % (4:UInt8)).toNat:Nat):Int),vI (((a0.fl % (3:UInt8)).toNat:Nat):Int),vN] 28,.cells j0 [vI 0,vI 0,vI 0,vN] 28,.cells g0 [.int .u8 (a0.fj.toNat:Int),.int .u8 (a0.fe.toNat:Int),.int .u8 (a0.fl.toNat:Int),.int .u8 (a0.fu.toNat:Int),v0_4] 24] P1 [.row w.heap.size 44 (Rep.size TUnit) vN (([]:List TUnit).length) [],.row w.heap.size 44 (Rep.size TUnit) d0 y0.length z0,.cells p0 [vI (((a0.fj % (3:UInt8)).toNat:Nat):Int),vI (((a0.fe % (4:UInt8)).toNat:Nat):Int),vI (((a0.fl % (3:UInt8)).toNat:Nat):Int),d0] 28,.cells j0 [vI 0,vI 0,vI 0,vN] 28,.cells g0 [.int .u8 (a0.fj.toNat:Int),.int .u8 (a0.fe.toNat:Int),.int .u8 (a0.fl.toNat:Int),.int .u8 (a0.fu.toNat:Int),v0_4] 24]∧Cells P1 (bl [.row w.heap.size 44 (Rep.size TUnit) vN (([]:List TUnit).length) [],.row w.heap.size 44 (Rep.size TUnit) d0 y0.length z0,.cells p0 [vI (((a0.fj % (3:UInt8)).toNat:Nat):Int),vI (((a0.fe % (4:UInt8)).toNat:Nat):Int),vI (((a0.fl % (3:UInt8)).toNat:Nat):Int),d0] 28,.cells j0 [vI 0,vI 0,vI 0,vN] 28,.cells g0 [.int .u8 (a0.fj.toNat:Int),.int .u8 (a0.fe.toNat:Int),.int .u8 (a0.fl.toNat:Int),.int .u8 (a0.fu.toNat:Int),v0_4] 24] ++ L) z0 y0) (fun ⟨M0,y0,d0,z0⟩=>(M0,y0)) (0,([]:List TUnit),vN,[]) P6 ⟨rfl,rfl,rfl,rfl,rfl,trivial⟩ ⟨j3,Ba _ _,B6⟩ ?_
 rintro K8 ⟨M0,y0,d0,z0⟩ P1 s4 ⟨J1,Y4,D3⟩ h
 unfold wardmoteref22_Draft_Roll_l3 at h
 try dsimp only at h
 refine Aj<|Ac<|Ae rfl<|Ae rfl<|Ab (FV.lss (i:=M0) (j:=a1) rfl rfl)<|Aa<|AV rfl h (fun d4 h=>?_) (fun d4 h=>?_)
 refine Av<|Aj<|AA<|Aj<|dt 18 tb24_5 (fun q0 u0=>?_)
 refine Af 0 1 q0 rfl u0 (fun _=>Ak rfl) rfl ?_
 obtain ⟨V7,g7,h⟩:=bi h
 refine Af 1 3 q0 rfl u0 (fun _=>FV.remc (i:=M0) (j:=26) rfl rfl g7) rfl ?_
 obtain ⟨G0,j7,h⟩:=bi h
 refine Af 2 7 q0 rfl u0 (fun _=>FV.addc (i:=97) (j:=V7) rfl rfl j7) rfl<|Af 3 15 q0 rfl u0 (fun _=>FV.convU8 (i:=G0) Tryz.underlying3 Tryz.underlying5 rfl) rfl<|Af 4 31 q0 rfl u0 (fun _=>Ak rfl) rfl ?_
 obtain ⟨W7,k7,h⟩:=bi h
 refine Af 5 63 q0 rfl u0 (fun _=>FV.quoc (i:=M0) (j:=26) rfl rfl k7) rfl ?_
 obtain ⟨X7,p7,h⟩:=bi h
 refine Af 6 127 q0 rfl u0 (fun _=>FV.remc (i:=W7) (j:=26) rfl rfl p7) rfl ?_
 obtain ⟨x0,q7,h⟩:=bi h
 refine Af 7 255 q0 rfl u0 (fun _=>FV.addc (i:=97) (j:=X7) rfl rfl q7) rfl<|Af 8 511 q0 rfl u0 (fun _=>FV.convU8 (i:=x0) Tryz.underlying3 Tryz.underlying5 rfl) rfl<|Az 12 4607 360448 q0 rfl u0 (AB rfl (J1.memA (.tl (.tl (.tl (.tl .hd)))))) rfl<|Af 13 12799 q0 rfl u0 (fun _=>Ak rfl) rfl ?_
 obtain ⟨Y7,s7,h⟩:=bi h
 refine Af 14 29183 q0 rfl u0 (fun _=>FV.mulc (i:=9) (j:=M0) rfl rfl s7) rfl ?_
 obtain ⟨s0,P7,h⟩:=bi h
 refine Bw 15 61951 327680 (vI s0) q0 rfl u0 body60 rfl (e2 rfl rfl) (fun w9 hw9=>wardmoteref22_Draft_num_c n _ w9 (J1.hL0 hL hw9) a0 (J1.k0 h0_4 hw9) Y7 P7) rfl ?_
 obtain ⟨t0,Y3,h⟩:=bi h
 refine RD.meet (α:=Nat) (fun k1=>[(1,vI a1),(2,vP g0),(4,vP j0),(5,vP p0),(6,vI M0),(44,.agg #[.string t0,vI s0,vN,vN,vN,.bool false]),(7,vP k1)]) (fun k1 Y2=>St w Y2 [.cells k1 [.string ⟨#[]⟩,vI 0,vN,vN,vN,.bool false] 44,.row w.heap.size 44 (Rep.size TUnit) vN (([]:List TUnit).length) [],.row w.heap.size 44 (Rep.size TUnit) d0 y0.length z0,.cells p0 [vI (((a0.fj % (3:UInt8)).toNat:Nat):Int),vI (((a0.fe % (4:UInt8)).toNat:Nat):Int),vI (((a0.fl % (3:UInt8)).toNat:Nat):Int),d0] 28,.cells j0 [vI 0,vI 0,vI 0,vN] 28,.cells g0 [.int .u8 (a0.fj.toNat:Int),.int .u8 (a0.fe.toNat:Int),.int .u8 (a0.fl.toNat:Int),.int .u8 (a0.fu.toNat:Int),v0_4] 24]∧Tr P1 [.row w.heap.size 44 (Rep.size TUnit) vN (([]:List TUnit).length) [],.row w.heap.size 44 (Rep.size TUnit) d0 y0.length z0,.cells p0 [vI (((a0.fj % (3:UInt8)).toNat:Nat):Int),vI (((a0.fe % (4:UInt8)).toNat:Nat):Int),vI (((a0.fl % (3:UInt8)).toNat:Nat):Int),d0] 28,.cells j0 [vI 0,vI 0,vI 0,vN] 28,.cells g0 [.int .u8 (a0.fj.toNat:Int),.int .u8 (a0.fe.toNat:Int),.int .u8 (a0.fl.toNat:Int),.int .u8 (a0.fu.toNat:Int),v0_4] 24] Y2 [.cells k1 [.string ⟨#[]⟩,vI 0,vN,vN,vN,.bool false] 44,.row w.heap.size 44 (Rep.size TUnit) vN (([]:List TUnit).length) [],.row w.heap.size 44 (Rep.size TUnit) d0 y0.length z0,.cells p0 [vI (((a0.fj % (3:UInt8)).toNat:Nat):Int),vI (((a0.fe % (4:UInt8)).toNat:Nat):Int),vI (((a0.fl % (3:UInt8)).toNat:Nat):Int),d0] 28,.cells j0 [vI 0,vI 0,vI 0,vN] 28,.cells g0 [.int .u8 (a0.fj.toNat:Int),.int .u8 (a0.fe.toNat:Int),.int .u8 (a0.fl.toNat:Int),.int .u8 (a0.fu.toNat:Int),v0_4] 24]) 1 262143 ?_ ?_
 rintro k1 Y2 ⟨E4,Z4⟩
 try dsimp only
 refine Br 18 524287 q0 rfl rfl .plain (Aw (news:=[.string t0,vI s0,vN,vN,vN,.bool false]) E4 .hd rfl rfl rfl rfl rfl rfl (onesB rfl)) (fun K9 K1 b5=>?_)
 refine AI (dk q0)<|Ac<|Ab (AB rfl (K1.memA (.tl (.tl (.tl (.tl (.tl .hd)))))))<|AW 0 rfl<|Ab (AJ rfl ((K1.memA (.tl (.tl (.tl .hd)))) 0 _ rfl))<|Ae rfl ?_
 obtain ⟨Z7,t7,h⟩:=bi h
 refine Ab (FV.mulc (i:=9) (j:=M0) rfl rfl t7) ?_
 obtain ⟨b8,u7,h⟩:=bi h
 refine Ab (FV.addc (i:=Z7) (j:=1) rfl rfl u7)<|AW 1 rfl<|AY rfl ((K1.memA .hd) 1 _ rfl) ?_
 obtain ⟨p2,Q7,h⟩:=bi h
 refine Bu (fst:=[]) (cap:=[]) .plain body61 rfl (e4 rfl rfl rfl rfl) (fun w9 hw9=>wardmoteref22_Draft_list_c n _ w9 (K1.hL hL hw9) a0 (K1.km h0_4 hw9) (((a0.fj % (3:UInt8)).toNat:Nat):Int) b8 s0 Q7) rfl (fun M9 Q0 p5 ⟨B9,hu_,b2⟩=>?_)
 subst hu_
 obtain ⟨F4,c5⟩:=K1.agr p5
 refine AW 2 rfl<|RG.now .plain (Bl (j:=2) (old:=[.string t0,vI s0,vN,vN,vN,.bool false]) (news:=[Q0]) (new' :=[.string t0,vI s0,Q0,vN,vN,.bool false]) F4 .hd rfl rfl rfl (Rep.c1 b2) rfl rfl (o1 (AS b2)) rfl) (fun P9 Q1 u3=>?_)
 refine Aa<|Ac<|Ab (AB rfl (Q1.memA (.tl (.tl (.tl (.tl (.tl .hd)))))))<|AW 1 rfl<|Ab (AJ rfl ((Q1.memA (.tl (.tl (.tl .hd)))) 1 _ rfl))<|Ae rfl ?_
 obtain ⟨c8,v7,h⟩:=bi h
 refine Ab (FV.mulc (i:=9) (j:=M0) rfl rfl v7) ?_
 obtain ⟨d8,x7,h⟩:=bi h
 refine Ab (FV.addc (i:=c8) (j:=3) rfl rfl x7) ?_
 obtain ⟨q2,R7,h⟩:=bi h
 refine Bu (fst:=[]) (cap:=[]) .plain body61 rfl (e4 rfl rfl rfl rfl) (fun w9 hw9=>wardmoteref22_Draft_list_c n _ w9 (Q1.hL hL hw9) a0 (Q1.km h0_4 hw9) (((a0.fe % (4:UInt8)).toNat:Nat):Int) d8 (255:Int) R7) rfl (fun Q9 Y0 q5 ⟨C9,hu_,c2⟩=>?_)
 subst hu_
 obtain ⟨G4,v3⟩:=Q1.agr q5
 refine AW 3 rfl<|RG.now .plain (Bl (j:=3) (old:=[.string t0,vI s0,Q0,vN,vN,.bool false]) (news:=[Y0]) (new' :=[.string t0,vI s0,Q0,Y0,vN,.bool false]) G4 .hd rfl rfl rfl (Rep.c1 c2) rfl rfl (o1 (AS c2)) rfl) (fun v8 k3 P2=>?_)
 refine Aa<|Aj<|Ac<|Ah rfl<|Aa<|AA ?_
 have p3:=k3.nilRow 3 (Rep.size Int)
 have Q2:=St.nilRowT k3 3 (Rep.size Int)
 have z5:=AF (cs:=[]) (xs:=([]:List Int)) p3 L (AU _ _)
 obtain ⟨A9,Q6,J5⟩:=bind_in2 h
 refine Bp (α:=Nat × (List Int) × Value × (List Value)) (fun ⟨z1,W0,K0,E1⟩=>[(1,vI a1),(2,vP g0),(4,vP j0),(5,vP p0),(6,vI M0),(7,vP k1),(8,vI ((z1:Nat):Int))]) (fun ⟨z1,W0,K0,E1⟩ k2=>St w k2 [.row w.heap.size 3 (Rep.size Int) K0 W0.length E1,.cells k1 [.string t0,vI s0,Q0,Y0,K0,.bool false] 44,.row w.heap.size 44 (Rep.size TUnit) vN (([]:List TUnit).length) [],.row w.heap.size 44 (Rep.size TUnit) d0 y0.length z0,.cells p0 [vI (((a0.fj % (3:UInt8)).toNat:Nat):Int),vI (((a0.fe % (4:UInt8)).toNat:Nat):Int),vI (((a0.fl % (3:UInt8)).toNat:Nat):Int),d0] 28,.cells j0 [vI 0,vI 0,vI 0,vN] 28,.cells g0 [.int .u8 (a0.fj.toNat:Int),.int .u8 (a0.fe.toNat:Int),.int .u8 (a0.fl.toNat:Int),.int .u8 (a0.fu.toNat:Int),v0_4] 24]∧Tr v8 [.row w.heap.size 3 (Rep.size Int) vN (([]:List Int).length) [],.cells k1 [.string t0,vI s0,Q0,Y0,vN,.bool false] 44,.row w.heap.size 44 (Rep.size TUnit) vN (([]:List TUnit).length) [],.row w.heap.size 44 (Rep.size TUnit) d0 y0.length z0,.cells p0 [vI (((a0.fj % (3:UInt8)).toNat:Nat):Int),vI (((a0.fe % (4:UInt8)).toNat:Nat):Int),vI (((a0.fl % (3:UInt8)).toNat:Nat):Int),d0] 28,.cells j0 [vI 0,vI 0,vI 0,vN] 28,.cells g0 [.int .u8 (a0.fj.toNat:Int),.int .u8 (a0.fe.toNat:Int),.int .u8 (a0.fl.toNat:Int),.int .u8 (a0.fu.toNat:Int),v0_4] 24] k2 [.row w.heap.size 3 (Rep.size Int) K0 W0.length E1,.cells k1 [.string t0,vI s0,Q0,Y0,K0,.bool false] 44,.row w.heap.size 44 (Rep.size TUnit) vN (([]:List TUnit).length) [],.row w.heap.size 44 (Rep.size TUnit) d0 y0.length z0,.cells p0 [vI (((a0.fj % (3:UInt8)).toNat:Nat):Int),vI (((a0.fe % (4:UInt8)).toNat:Nat):Int),vI (((a0.fl % (3:UInt8)).toNat:Nat):Int),d0] 28,.cells j0 [vI 0,vI 0,vI 0,vN] 28,.cells g0 [.int .u8 (a0.fj.toNat:Int),.int .u8 (a0.fe.toNat:Int),.int .u8 (a0.fl.toNat:Int),.int .u8 (a0.fu.toNat:Int),v0_4] 24]∧Cells k2 (bl [.row w.heap.size 3 (Rep.size Int) K0 W0.length E1,.cells k1 [.string t0,vI s0,Q0,Y0,K0,.bool false] 44,.row w.heap.size 44 (Rep.size TUnit) vN (([]:List TUnit).length) [],.row w.heap.size 44 (Rep.size TUnit) d0 y0.length z0,.cells p0 [vI (((a0.fj % (3:UInt8)).toNat:Nat):Int),vI (((a0.fe % (4:UInt8)).toNat:Nat):Int),vI (((a0.fl % (3:UInt8)).toNat:Nat):Int),d0] 28,.cells j0 [vI 0,vI 0,vI 0,vN] 28,.cells g0 [.int .u8 (a0.fj.toNat:Int),.int .u8 (a0.fe.toNat:Int),.int .u8 (a0.fl.toNat:Int),.int .u8 (a0.fu.toNat:Int),v0_4] 24] ++ L) E1 W0) (fun ⟨z1,W0,K0,E1⟩=>(z1,W0)) (0,([]:List Int),vN,[]) Q6 ⟨rfl,rfl,rfl,rfl,rfl,rfl,rfl,trivial⟩ ⟨p3,Ba _ _,z5⟩ ?_
 rintro M8 ⟨z1,W0,K0,E1⟩ k2 t4 ⟨b1,Y1,E3⟩ h
 unfold wardmoteref22_Draft_Roll_l1 at h
 try dsimp only at h
 refine Aj<|Ac<|Ae rfl<|AW 2 rfl<|Ab (AJ rfl ((b1.memA (.tl (.tl (.tl (.tl .hd))))) 2 _ rfl))<|Ab (Bn (i:=z1) (j:=(a0.fl % (3:UInt8)).toNat) rfl rfl)<|Aa<|AV rfl h (fun g4 h=>?_) (fun g4 h=>?_)
 refine Av<|Aj<|AA<|dt 11 tb24_11 (fun v0 x1=>?_)
 refine Af 0 1 v0 rfl x1 (fun _=>AP 4 rfl) rfl<|Az 1 3 14336 v0 rfl x1 (AJ rfl ((b1.memA (.tl .hd)) 4 _ rfl)) rfl<|Az 2 7 16128 v0 rfl x1 (AB rfl (b1.memA (.tl (.tl (.tl (.tl (.tl (.tl .hd)))))))) rfl<|Af 3 15 v0 rfl x1 (fun _=>Ak rfl) rfl ?_
 obtain ⟨g8,y7,h⟩:=bi h
 refine Af 4 31 v0 rfl x1 (fun _=>FV.mulc (i:=9) (j:=M0) rfl rfl y7) rfl ?_
 obtain ⟨j8,z7,h⟩:=bi h
 refine Af 5 63 v0 rfl x1 (fun _=>FV.addc (i:=g8) (j:=7) rfl rfl z7) rfl<|Af 6 127 v0 rfl x1 (fun _=>Ak rfl) rfl ?_
 obtain ⟨k8,A7,h⟩:=bi h
 refine Af 7 255 v0 rfl x1 (fun _=>FV.addc (i:=j8) (j:=((z1:Nat):Int)) rfl rfl A7) rfl ?_
 obtain ⟨Z3,U7,h⟩:=bi h
 refine Bw 8 511 15872 (vI Z3) v0 rfl x1 body60 rfl (e2 rfl rfl) (fun w9 hw9=>wardmoteref22_Draft_num_c n _ w9 (b1.hL0 hL hw9) a0 (b1.k0 h0_4 hw9) k8 U7) rfl ?_
 obtain ⟨G1,B7,h⟩:=bi h
 refine Af 9 1023 v0 rfl x1 (fun _=>FV.remc (i:=Z3) (j:=3) rfl rfl B7) rfl<|RD.nu 10 2047 v0 rfl .plain rfl (AZ (α:=Int) (xs:=([G1]:List Int)) (vs:=[vI G1]) (ds' :=[vI G1]) rfl b1 el42 rfl (e1 rfl) (by kernel_rfl) rfl) (fun R9 Q8 y2 x3=>?_)
 have A5:=AF (cs:=[vI G1]) (xs:=(([G1]:List Int):List Int)) y2 L (Aq (cs:=[vI G1]) (ds:=[]) rfl (AU _ _))
 obtain ⟨y8,K7,h⟩:=bi h
 have C6:=AQ E3 x3
 refine BC (i:=11) (rk v0) (RO.doesL (m' :=4095) (sk v0) rfl rfl .plain rfl (DoesL.app (α:=Int) (ys:=([G1]:List Int)) K7 y2 (fun _ _=>(.tl .hd)) el42 rfl rfl C6 (Src.row (α:=Int) y2 .hd A5)) (fun W2 U9 ⟨k4,z2,d5,B5⟩=>?_))
 refine BC (i:=12) (rk v0) (RO.val (m' :=8191) (sk v0) rfl .plain rfl (AP 4 rfl) ?_)
 refine Br 13 16383 v0 rfl rfl .plain (Bl (j:=4) (old:=[.string t0,vI s0,Q0,Y0,K0,.bool false]) (news:=[W2]) (new' :=[.string t0,vI s0,Q0,Y0,W2,.bool false]) z2 (.tl (.tl .hd)) rfl rfl rfl (St.c1 (α:=Int) z2 (.tl .hd)) rfl rfl (o1 (St.o1 (α:=Int) z2 (.tl .hd))) rfl) (fun V9 H4 y3=>?_)
 refine AI (dk v0)<|AC<|Al<|Ae rfl<|Ab (Bm (i:=z1) (j:=1) rfl rfl (by omega))<|Ah rfl<|Aa ?_
 obtain ⟨I4,z3⟩:=AL H4 (.one (.tl .hd) (.one (.tl .hd) (.one (.tl .hd) (.one (.tl .hd) (.one (.tl .hd) (.one (.tl .hd) (.one (.tl .hd) .done)))))))
 have D6:=AQ B5 (Tt y3 z3)
 have V6:=Tt x3 (Tt d5 (Tt y3 z3))
 exact t4 (z1 + 1,y8,W2,k4) _ _ ⟨rfl,rfl,rfl,rfl,rfl,rfl,rfl,trivial⟩ ⟨I4,(Tt Y1 V6),D6⟩ h
 refine Bf rfl ?_
 have h:=J5 _ h
 try dsimp only at h
 refine Al<|AW 3 rfl<|Ab (AJ rfl ((b1.memA (.tl (.tl (.tl (.tl .hd))))) 3 _ rfl))<|Ab (AB rfl (b1.memA (.tl .hd))) ?_
 have d7:=Bs (α:=Int) b1 .hd E3 hL
 have q3:=St.delS b1 .hd
 have R2:=St.delT b1 .hd
 have X3:=Rep.at_ (α:=Int) (v:=K0) (xs:=W0) q3 L d7
 have P3:=Tt u3 (Tt v3 (Tt P2 (Tt Q2 (Tt Y1 R2))))
 have E6:=Ay b2 P3
 have Q3:=Tt P2 (Tt Q2 (Tt Y1 R2))
 have F6:=Ay c2 Q3
 obtain ⟨G8,b9,G7,_⟩:=Rep.sl E6
 obtain ⟨H8,c9,H7,_⟩:=Rep.sl F6
 obtain ⟨I8,d9,I7,_⟩:=Rep.sl X3
 refine Ai .plain rfl (AZ (α:=TUnit) (xs:=([(⟨t0,s0,p2,q2,W0,false⟩:TUnit)]:List TUnit)) (vs:=[.agg #[.string t0,vI s0,Q0,Y0,K0,.bool false]]) (ds' :=[.string t0,vI s0,Q0,Y0,K0,.bool false]) rfl q3 el26 rfl (e1 rfl) (by rw [G7,H7,I7]; try kernel_rfl) rfl) (fun W9 R8 A2 Z1=>?_)
 have G6:=Ay b2 (Tt P3 Z1)
 have H6:=Ay c2 (Tt Q3 Z1)
 have I6:=Ay X3 Z1
 have C5:=AF (cs:=[.string t0,vI s0,Q0,Y0,K0,.bool false]) (xs:=(([(⟨t0,s0,p2,q2,W0,false⟩:TUnit)]:List TUnit):List TUnit)) A2 L (Aq (cs:=[.string t0,vI s0,Q0,Y0,K0,.bool false]) (ds:=[]) (mk_TUnit t0 s0 p2 G6 q2 H6 W0 I6 false) (AU _ _))
 obtain ⟨z8,M7,h⟩:=bi h
 have R3:=Tt Z4 (Tt b5 (Tt c5 (Tt u3 (Tt v3 (Tt P2 (Tt Q2 (Tt Y1 (Tt R2 Z1))))))))
 have J6:=AQ D3 R3
 refine RG.doesL .plain rfl (DoesL.app (α:=TUnit) (ys:=([(⟨t0,s0,p2,q2,W0,false⟩:TUnit)]:List TUnit)) M7 A2 (fun _ _=>(.tl (.tl (.tl .hd)))) el26 rfl rfl J6 (Src.row (α:=TUnit) A2 .hd C5)) (fun X2 X9 ⟨p4,B2,g5,D5⟩=>?_)
 refine AW 3 rfl<|RG.now .plain (Bl (j:=3) (old:=[vI (((a0.fj % (3:UInt8)).toNat:Nat):Int),vI (((a0.fe % (4:UInt8)).toNat:Nat):Int),vI (((a0.fl % (3:UInt8)).toNat:Nat):Int),d0]) (news:=[X2]) (new' :=[vI (((a0.fj % (3:UInt8)).toNat:Nat):Int),vI (((a0.fe % (4:UInt8)).toNat:Nat):Int),vI (((a0.fl % (3:UInt8)).toNat:Nat):Int),X2]) B2 (.tl (.tl (.tl (.tl .hd)))) rfl rfl rfl (St.c1 (α:=TUnit) B2 (.tl (.tl (.tl .hd)))) rfl rfl (o1 (St.o1 (α:=TUnit) B2 (.tl (.tl (.tl .hd))))) rfl) (fun Y9 J4 A3=>?_)
 refine Aa<|AC<|Al<|Ae rfl ?_
 obtain ⟨p8,C7,h⟩:=bi h
 refine Ab (FV.addc (i:=M0) (j:=1) rfl rfl C7)<|Ah rfl<|Aa ?_
 obtain ⟨K4,B3⟩:=AL J4 (.one (.tl (.tl .hd)) (.one (.tl (.tl .hd)) (.one (.tl (.tl .hd)) (.one (.tl (.tl .hd)) (.one (.tl (.tl .hd)) .done)))))
 have K6:=AQ D5 (Tt A3 B3)
 have W6:=Tt R3 (Tt g5 (Tt A3 B3))
 exact s4 (p8,z8,X2,p4) _ _ ⟨rfl,rfl,rfl,rfl,rfl,trivial⟩ ⟨K4,(Tt Y4 W6),K6⟩ h
 intro Z2
 refine RD.each [9,17] (rk q0) ⟨?_,?_,trivial⟩
 refine RO.new (m' :=62463) (sk q0) rfl .plain rfl (AZ (α:=UInt8) (xs:=([u8ofI G0,u8ofI x0]:List UInt8)) (vs:=[.int .u8 ((u8ofI G0).toNat:Int),.int .u8 ((u8ofI x0).toNat:Int)]) (ds' :=[.int .u8 ((u8ofI G0).toNat:Int),.int .u8 ((u8ofI x0).toNat:Int)]) rfl J1 el22 rfl (e2 rfl rfl) (by kernel_rfl) rfl) (fun s8 b4 F1 K2=>?_)
 have U2:=AF (cs:=[.int .u8 ((u8ofI G0).toNat:Int),.int .u8 ((u8ofI x0).toNat:Int)]) (xs:=(([u8ofI G0,u8ofI x0]:List UInt8):List UInt8)) F1 L (Aq (cs:=[.int .u8 ((u8ofI G0).toNat:Int)]) (ds:=[.int .u8 ((u8ofI x0).toNat:Int)]) rfl (Aq (cs:=[.int .u8 ((u8ofI x0).toNat:Int)]) (ds:=[]) rfl (AU _ _)))
 refine Az 10 63487 329728 q0 rfl u0 (FV.bytesS (xs:=([u8ofI G0,u8ofI x0]:List UInt8)) Tryz.underlying22 Tryz.underlying9 Tryz.underlying5 rfl (Src.row (α:=UInt8) F1 .hd U2)) rfl<|Af 11 65535 q0 rfl u0 (fun _=>FV.addS Y3 rfl rfl) rfl<|Af 16 131071 q0 rfl u0 (fun _=>AK (vs:=[.string t0,vI s0]) (u:=.agg #[.string t0,vI s0,vN,vN,vN,.bool false]) (e2 rfl rfl) (fun w9=>by kernel_rfl)) rfl<|RD.nu 17 262143 q0 rfl .plain rfl (Au [.string ⟨#[]⟩,vI 0,vN,vN,vN,.bool false] F1) (fun t8 s2 x2 M2=>?_)
 obtain ⟨M4,j5⟩:=AL x2 (.one .hd (.one (.tl .hd) (.one (.tl .hd) (.one (.tl .hd) (.one (.tl .hd) (.one (.tl .hd) .done))))))
 have X6:=Tt K2 (Tt M2 j5)
 exact Z2 s2 _ _ ⟨rfl,rfl,rfl,rfl,rfl,rfl,rfl,trivial⟩ ⟨M4,X6⟩
 refine RO.new (m' :=193023) (sk q0) rfl .plain rfl (Au [.string ⟨#[]⟩,vI 0,vN,vN,vN,.bool false] J1) (fun t8 s2 x2 M2=>?_)
 refine RD.nu 9 193535 q0 rfl .plain rfl (AZ (α:=UInt8) (xs:=([u8ofI G0,u8ofI x0]:List UInt8)) (vs:=[.int .u8 ((u8ofI G0).toNat:Int),.int .u8 ((u8ofI x0).toNat:Int)]) (ds' :=[.int .u8 ((u8ofI G0).toNat:Int),.int .u8 ((u8ofI x0).toNat:Int)]) rfl x2 el22 rfl (e2 rfl rfl) (by kernel_rfl) rfl) (fun s8 b4 F1 K2=>?_)
 have U2:=AF (cs:=[.int .u8 ((u8ofI G0).toNat:Int),.int .u8 ((u8ofI x0).toNat:Int)]) (xs:=(([u8ofI G0,u8ofI x0]:List UInt8):List UInt8)) F1 L (Aq (cs:=[.int .u8 ((u8ofI G0).toNat:Int)]) (ds:=[.int .u8 ((u8ofI x0).toNat:Int)]) rfl (Aq (cs:=[.int .u8 ((u8ofI x0).toNat:Int)]) (ds:=[]) rfl (AU _ _)))
 refine Az 10 194559 329728 q0 rfl u0 (FV.bytesS (xs:=([u8ofI G0,u8ofI x0]:List UInt8)) Tryz.underlying22 Tryz.underlying9 Tryz.underlying5 rfl (Src.row (α:=UInt8) F1 .hd U2)) rfl<|Af 11 196607 q0 rfl u0 (fun _=>FV.addS Y3 rfl rfl) rfl<|Af 16 262143 q0 rfl u0 (fun _=>AK (vs:=[.string t0,vI s0]) (u:=.agg #[.string t0,vI s0,vN,vN,vN,.bool false]) (e2 rfl rfl) (fun w9=>by kernel_rfl)) rfl ?_
 obtain ⟨P4,k5⟩:=AL F1 (.one (.tl .hd) (.one (.tl .hd) (.one (.tl .hd) (.one (.tl .hd) (.one (.tl .hd) (.one (.tl .hd) .done))))))
 have Y6:=Tt M2 (Tt K2 k5)
 exact Z2 s2 _ _ ⟨rfl,rfl,rfl,rfl,rfl,rfl,rfl,trivial⟩ ⟨P4,Y6⟩
 refine Bf rfl ?_
 have h:=I5 _ h
 try dsimp only at h
 refine Aj<|Ac<|Ah rfl<|Aa<|AA ?_
 obtain ⟨y9,M6,H5⟩:=bind_in2 h
 refine Bp (α:=Nat × (List TUnit) × Value × (List Value)) (fun ⟨y1,R0,c0,P0⟩=>[(2,vP g0),(4,vP j0),(5,vP p0),(9,vI ((y1:Nat):Int))]) (fun ⟨y1,R0,c0,P0⟩ R1=>St w R1 [.row w.heap.size 44 (Rep.size TUnit) vN (([]:List TUnit).length) [],.row w.heap.size 44 (Rep.size TUnit) c0 R0.length P0,.cells p0 [vI (((a0.fj % (3:UInt8)).toNat:Nat):Int),vI (((a0.fe % (4:UInt8)).toNat:Nat):Int),vI (((a0.fl % (3:UInt8)).toNat:Nat):Int),c0] 28,.cells j0 [vI 0,vI 0,vI 0,vN] 28,.cells g0 [.int .u8 (a0.fj.toNat:Int),.int .u8 (a0.fe.toNat:Int),.int .u8 (a0.fl.toNat:Int),.int .u8 (a0.fu.toNat:Int),v0_4] 24]∧Tr P1 [.row w.heap.size 44 (Rep.size TUnit) vN (([]:List TUnit).length) [],.row w.heap.size 44 (Rep.size TUnit) d0 y0.length z0,.cells p0 [vI (((a0.fj % (3:UInt8)).toNat:Nat):Int),vI (((a0.fe % (4:UInt8)).toNat:Nat):Int),vI (((a0.fl % (3:UInt8)).toNat:Nat):Int),d0] 28,.cells j0 [vI 0,vI 0,vI 0,vN] 28,.cells g0 [.int .u8 (a0.fj.toNat:Int),.int .u8 (a0.fe.toNat:Int),.int .u8 (a0.fl.toNat:Int),.int .u8 (a0.fu.toNat:Int),v0_4] 24] R1 [.row w.heap.size 44 (Rep.size TUnit) vN (([]:List TUnit).length) [],.row w.heap.size 44 (Rep.size TUnit) c0 R0.length P0,.cells p0 [vI (((a0.fj % (3:UInt8)).toNat:Nat):Int),vI (((a0.fe % (4:UInt8)).toNat:Nat):Int),vI (((a0.fl % (3:UInt8)).toNat:Nat):Int),c0] 28,.cells j0 [vI 0,vI 0,vI 0,vN] 28,.cells g0 [.int .u8 (a0.fj.toNat:Int),.int .u8 (a0.fe.toNat:Int),.int .u8 (a0.fl.toNat:Int),.int .u8 (a0.fu.toNat:Int),v0_4] 24]∧Cells R1 (bl [.row w.heap.size 44 (Rep.size TUnit) vN (([]:List TUnit).length) [],.row w.heap.size 44 (Rep.size TUnit) c0 R0.length P0,.cells p0 [vI (((a0.fj % (3:UInt8)).toNat:Nat):Int),vI (((a0.fe % (4:UInt8)).toNat:Nat):Int),vI (((a0.fl % (3:UInt8)).toNat:Nat):Int),c0] 28,.cells j0 [vI 0,vI 0,vI 0,vN] 28,.cells g0 [.int .u8 (a0.fj.toNat:Int),.int .u8 (a0.fe.toNat:Int),.int .u8 (a0.fl.toNat:Int),.int .u8 (a0.fu.toNat:Int),v0_4] 24] ++ L) P0 R0) (fun ⟨y1,R0,c0,P0⟩=>(y1,R0)) (0,y0,d0,z0) M6 ⟨rfl,rfl,rfl,rfl,trivial⟩ ⟨J1,Ba _ _,D3⟩ ?_
 rintro J8 ⟨y1,R0,c0,P0⟩ R1 q4 ⟨Z0,Q4,C3⟩ h
 unfold wardmoteref22_Draft_Roll_l2 at h
 try dsimp only at h
 refine Aj<|Ac<|Ae rfl<|AW 3 rfl<|Ab (AJ rfl ((Z0.memA (.tl (.tl (.tl (.tl .hd))))) 3 _ rfl))<|Ab (FV.rem8 (a:=a0.fu) (b:=(2:UInt8)) rfl rfl (by decide)) ?_
 have t9:=(a0.fu % (2:UInt8)).toNat_lt
 refine Ab (FV.convN (i:=(a0.fu % (2:UInt8)).toNat) Tryz.underlying5 Tryz.underlying3 rfl (by omega))<|Ab (Bn (i:=y1) (j:=(a0.fu % (2:UInt8)).toNat) rfl rfl)<|Aa<|AV rfl h (fun c4 h=>?_) (fun c4 h=>?_)
 refine Av<|Aj<|AA<|dt 13 tb24_16 (fun b0 A1=>?_)
 refine Af 0 1 b0 rfl A1 (fun _=>AP 3 rfl) rfl<|Az 1 3 57344 b0 rfl A1 (AJ rfl ((Z0.memA (.tl (.tl .hd))) 3 _ rfl)) rfl<|Af 2 7 b0 rfl A1 (fun _=>AP 0 rfl) rfl<|Az 3 15 63504 b0 rfl A1 (AJ rfl ((Z0.memA (.tl (.tl .hd))) 0 _ rfl)) rfl<|Af 5 47 b0 rfl A1 (fun _=>AP 1 rfl) rfl<|Az 6 111 63616 b0 rfl A1 (AJ rfl ((Z0.memA (.tl (.tl .hd))) 1 _ rfl)) rfl<|Af 8 367 b0 rfl A1 (fun _=>AP 2 rfl) rfl<|Az 9 879 64512 b0 rfl A1 (AJ rfl ((Z0.memA (.tl (.tl .hd))) 2 _ rfl)) rfl ?_
 obtain ⟨A0,t1,h⟩:=bi h
 obtain ⟨B0,u1,h⟩:=bi h
 obtain ⟨C0,v1,h⟩:=bi h
 refine RD.meet (α:=Value × (List Value) × Value × (List Value) × Value × (List Value)) (fun ⟨H0,B1,I0,C1,J0,D1⟩=>[(2,vP g0),(4,vP j0),(5,vP p0),(9,vI ((y1:Nat):Int)),(97,c0),(100,J0),(103,I0),(106,H0)]) (fun ⟨H0,B1,I0,C1,J0,D1⟩ M1=>St w M1 [.row w.heap.size 3 (Rep.size Int) H0 C0.length B1,.row w.heap.size 3 (Rep.size Int) I0 B0.length C1,.row w.heap.size 3 (Rep.size Int) J0 A0.length D1,.row w.heap.size 44 (Rep.size TUnit) vN (([]:List TUnit).length) [],.row w.heap.size 44 (Rep.size TUnit) c0 R0.length P0,.cells p0 [vI (((a0.fj % (3:UInt8)).toNat:Nat):Int),vI (((a0.fe % (4:UInt8)).toNat:Nat):Int),vI (((a0.fl % (3:UInt8)).toNat:Nat):Int),c0] 28,.cells j0 [vI 0,vI 0,vI 0,vN] 28,.cells g0 [.int .u8 (a0.fj.toNat:Int),.int .u8 (a0.fe.toNat:Int),.int .u8 (a0.fl.toNat:Int),.int .u8 (a0.fu.toNat:Int),v0_4] 24]∧Tr R1 [.row w.heap.size 44 (Rep.size TUnit) vN (([]:List TUnit).length) [],.row w.heap.size 44 (Rep.size TUnit) c0 R0.length P0,.cells p0 [vI (((a0.fj % (3:UInt8)).toNat:Nat):Int),vI (((a0.fe % (4:UInt8)).toNat:Nat):Int),vI (((a0.fl % (3:UInt8)).toNat:Nat):Int),c0] 28,.cells j0 [vI 0,vI 0,vI 0,vN] 28,.cells g0 [.int .u8 (a0.fj.toNat:Int),.int .u8 (a0.fe.toNat:Int),.int .u8 (a0.fl.toNat:Int),.int .u8 (a0.fu.toNat:Int),v0_4] 24] M1 [.row w.heap.size 3 (Rep.size Int) H0 C0.length B1,.row w.heap.size 3 (Rep.size Int) I0 B0.length C1,.row w.heap.size 3 (Rep.size Int) J0 A0.length D1,.row w.heap.size 44 (Rep.size TUnit) vN (([]:List TUnit).length) [],.row w.heap.size 44 (Rep.size TUnit) c0 R0.length P0,.cells p0 [vI (((a0.fj % (3:UInt8)).toNat:Nat):Int),vI (((a0.fe % (4:UInt8)).toNat:Nat):Int),vI (((a0.fl % (3:UInt8)).toNat:Nat):Int),c0] 28,.cells j0 [vI 0,vI 0,vI 0,vN] 28,.cells g0 [.int .u8 (a0.fj.toNat:Int),.int .u8 (a0.fe.toNat:Int),.int .u8 (a0.fl.toNat:Int),.int .u8 (a0.fu.toNat:Int),v0_4] 24]∧Cells M1 (bl [.row w.heap.size 3 (Rep.size Int) H0 C0.length B1,.row w.heap.size 3 (Rep.size Int) I0 B0.length C1,.row w.heap.size 3 (Rep.size Int) J0 A0.length D1,.row w.heap.size 44 (Rep.size TUnit) vN (([]:List TUnit).length) [],.row w.heap.size 44 (Rep.size TUnit) c0 R0.length P0,.cells p0 [vI (((a0.fj % (3:UInt8)).toNat:Nat):Int),vI (((a0.fe % (4:UInt8)).toNat:Nat):Int),vI (((a0.fl % (3:UInt8)).toNat:Nat):Int),c0] 28,.cells j0 [vI 0,vI 0,vI 0,vN] 28,.cells g0 [.int .u8 (a0.fj.toNat:Int),.int .u8 (a0.fe.toNat:Int),.int .u8 (a0.fl.toNat:Int),.int .u8 (a0.fu.toNat:Int),v0_4] 24] ++ L) B1 (C0:List Int)∧Cells M1 (bl [.row w.heap.size 3 (Rep.size Int) H0 C0.length B1,.row w.heap.size 3 (Rep.size Int) I0 B0.length C1,.row w.heap.size 3 (Rep.size Int) J0 A0.length D1,.row w.heap.size 44 (Rep.size TUnit) vN (([]:List TUnit).length) [],.row w.heap.size 44 (Rep.size TUnit) c0 R0.length P0,.cells p0 [vI (((a0.fj % (3:UInt8)).toNat:Nat):Int),vI (((a0.fe % (4:UInt8)).toNat:Nat):Int),vI (((a0.fl % (3:UInt8)).toNat:Nat):Int),c0] 28,.cells j0 [vI 0,vI 0,vI 0,vN] 28,.cells g0 [.int .u8 (a0.fj.toNat:Int),.int .u8 (a0.fe.toNat:Int),.int .u8 (a0.fl.toNat:Int),.int .u8 (a0.fu.toNat:Int),v0_4] 24] ++ L) C1 (B0:List Int)∧Cells M1 (bl [.row w.heap.size 3 (Rep.size Int) H0 C0.length B1,.row w.heap.size 3 (Rep.size Int) I0 B0.length C1,.row w.heap.size 3 (Rep.size Int) J0 A0.length D1,.row w.heap.size 44 (Rep.size TUnit) vN (([]:List TUnit).length) [],.row w.heap.size 44 (Rep.size TUnit) c0 R0.length P0,.cells p0 [vI (((a0.fj % (3:UInt8)).toNat:Nat):Int),vI (((a0.fe % (4:UInt8)).toNat:Nat):Int),vI (((a0.fl % (3:UInt8)).toNat:Nat):Int),c0] 28,.cells j0 [vI 0,vI 0,vI 0,vN] 28,.cells g0 [.int .u8 (a0.fj.toNat:Int),.int .u8 (a0.fe.toNat:Int),.int .u8 (a0.fl.toNat:Int),.int .u8 (a0.fu.toNat:Int),v0_4] 24] ++ L) D1 (A0:List Int)) 5 2047 ?_ ?_
 rintro ⟨H0,B1,I0,C1,J0,D1⟩ M1 ⟨I1,R4,s5,t5,u5⟩
 try dsimp only
 obtain ⟨A8,U8,E5⟩:=St.rowV (α:=Int) I1 (.tl (.tl .hd))
 obtain ⟨B8,V8,F5⟩:=St.rowV (α:=Int) I1 (.tl .hd)
 obtain ⟨C8,W8,G5⟩:=St.rowV (α:=Int) I1 .hd
 refine Af 11 4095 b0 rfl A1 (fun _=>AK (vs:=[.string ⟨#[115,101,97]⟩,.bool true,J0,I0,H0]) (u:=.agg #[.string ⟨#[115,101,97]⟩,vI 0,J0,I0,H0,.bool true]) (e5 rfl rfl rfl rfl rfl) (fun w9=>by rw [E5,F5,G5]; try kernel_rfl)) rfl ?_
 have Z6:=Bs (α:=Int) I1 (.tl (.tl .hd)) u5 hL
 have U1:=St.delS I1 (.tl (.tl .hd))
 have C2:=St.delT I1 (.tl (.tl .hd))
 have U3:=Rep.at_ (α:=Int) (v:=J0) (xs:=A0) U1 L Z6
 have K5:=AQ t5 C2
 have b7:=Bs (α:=Int) U1 (.tl .hd) K5 hL
 have V1:=St.delS U1 (.tl .hd)
 have D2:=St.delT U1 (.tl .hd)
 have V3:=Rep.at_ (α:=Int) (v:=I0) (xs:=B0) V1 L b7
 have M5:=AQ s5 (Tt C2 D2)
 have c7:=Bs (α:=Int) V1 .hd M5 hL
 have b3:=St.delS V1 .hd
 have X1:=St.delT V1 .hd
 have W3:=Rep.at_ (α:=Int) (v:=H0) (xs:=C0) b3 L c7
 have P5:=Ay U3 (Tt D2 X1)
 have Q5:=Ay V3 X1
 obtain ⟨D8,X8,D7,_⟩:=Rep.sl P5
 obtain ⟨E8,Y8,E7,_⟩:=Rep.sl Q5
 obtain ⟨F8,Z8,F7,_⟩:=Rep.sl W3
 refine RD.nu 12 8191 b0 rfl .plain rfl (AZ (α:=TUnit) (xs:=([(⟨⟨#[115,101,97]⟩,(0:Int),A0,B0,C0,true⟩:TUnit)]:List TUnit)) (vs:=[.agg #[.string ⟨#[115,101,97]⟩,vI 0,J0,I0,H0,.bool true]]) (ds' :=[.string ⟨#[115,101,97]⟩,vI 0,J0,I0,H0,.bool true]) rfl b3 el26 rfl (e1 rfl) (by rw [D7,E7,F7]; try kernel_rfl) rfl) (fun E9 P8 t2 E2=>?_)
 have F3:=Tt D2 (Tt X1 E2)
 have R5:=Ay U3 F3
 have U5:=Ay V3 (Tt X1 E2)
 have V5:=Ay W3 E2
 have v5:=AF (cs:=[.string ⟨#[115,101,97]⟩,vI 0,J0,I0,H0,.bool true]) (xs:=(([(⟨⟨#[115,101,97]⟩,(0:Int),A0,B0,C0,true⟩:TUnit)]:List TUnit):List TUnit)) t2 L (Aq (cs:=[.string ⟨#[115,101,97]⟩,vI 0,J0,I0,H0,.bool true]) (ds:=[]) (mk_TUnit ⟨#[115,101,97]⟩ (0:Int) A0 R5 B0 U5 C0 V5 true) (AU _ _))
 obtain ⟨x8,J7,h⟩:=bi h
 have G3:=Tt R4 (Tt C2 F3)
 have W5:=AQ C3 G3
 refine BC (i:=13) (rk b0) (RO.doesL (m' :=16383) (sk b0) rfl rfl .plain rfl (DoesL.app (α:=TUnit) (ys:=([(⟨⟨#[115,101,97]⟩,(0:Int),A0,B0,C0,true⟩:TUnit)]:List TUnit)) J7 t2 (fun _ _=>(.tl (.tl .hd))) el26 rfl rfl W5 (Src.row (α:=TUnit) t2 .hd v5)) (fun V2 F9 ⟨j4,u2,U4,x5⟩=>?_))
 refine BC (i:=14) (rk b0) (RO.val (m' :=32767) (sk b0) rfl .plain rfl (AP 3 rfl) ?_)
 refine Br 15 65535 b0 rfl rfl .plain (Bl (j:=3) (old:=[vI (((a0.fj % (3:UInt8)).toNat:Nat):Int),vI (((a0.fe % (4:UInt8)).toNat:Nat):Int),vI (((a0.fl % (3:UInt8)).toNat:Nat):Int),c0]) (news:=[V2]) (new' :=[vI (((a0.fj % (3:UInt8)).toNat:Nat):Int),vI (((a0.fe % (4:UInt8)).toNat:Nat):Int),vI (((a0.fl % (3:UInt8)).toNat:Nat):Int),V2]) u2 (.tl (.tl (.tl .hd))) rfl rfl rfl (St.c1 (α:=TUnit) u2 (.tl (.tl .hd))) rfl rfl (o1 (St.o1 (α:=TUnit) u2 (.tl (.tl .hd)))) rfl) (fun G9 u4 s3=>?_)
 refine AI (dk b0)<|AC<|Al<|Ae rfl<|Ab (Bm (i:=y1) (j:=1) rfl rfl (by omega))<|Ah rfl<|Aa ?_
 obtain ⟨v4,t3⟩:=AL u4 (.one (.tl .hd) (.one (.tl .hd) (.one (.tl .hd) (.one (.tl .hd) (.one (.tl .hd) .done)))))
 have X5:=AQ x5 (Tt s3 t3)
 have R6:=Tt G3 (Tt U4 (Tt s3 t3))
 exact q4 (y1 + 1,x8,V2,j4) _ _ ⟨rfl,rfl,rfl,rfl,trivial⟩ ⟨v4,(Tt Q4 R6),X5⟩ h
 intro H1
 refine RD.each [4,7,10] (rk b0) ⟨?_,?_,?_,trivial⟩
 refine RO.new (m' :=895) (sk b0) rfl .plain rfl (Does.mk (α:=Int) t1 Z0 el42 rfl) (fun d2 d1 D0 X0=>?_)
 have p1:=AF (cs:=(List.replicate (((a0.fj % (3:UInt8)).toNat:Nat):Int).toNat [vI 0]).flatten) (xs:=A0) D0 L (Cells.mk t1 rfl)
 refine RD.each [7,10] (rk b0) ⟨?_,?_,trivial⟩
 refine RO.new (m' :=1023) (sk b0) rfl .plain rfl (Does.mk (α:=Int) u1 D0 el42 rfl) (fun g2 g1 E0 U0=>?_)
 have q1:=AF (cs:=(List.replicate (((a0.fe % (4:UInt8)).toNat:Nat):Int).toNat [vI 0]).flatten) (xs:=B0) E0 L (Cells.mk u1 rfl)
 refine RD.nu 10 2047 b0 rfl .plain rfl (Does.mk (α:=Int) v1 E0 el42 rfl) (fun j2 j1 F0 V0=>?_)
 have s1:=AF (cs:=(List.replicate (((a0.fl % (3:UInt8)).toNat:Nat):Int).toNat [vI 0]).flatten) (xs:=C0) F0 L (Cells.mk v1 rfl)
 have Y5:=AQ q1 V0
 have Z5:=AQ p1 (Tt U0 V0)
 have U6:=Tt X0 (Tt U0 V0)
 exact H1 ((.slice (some ⟨j1,0,none⟩) (((a0.fl % (3:UInt8)).toNat:Nat):Int).toNat (((a0.fl % (3:UInt8)).toNat:Nat):Int).toNat),(List.replicate (((a0.fl % (3:UInt8)).toNat:Nat):Int).toNat [vI 0]).flatten,(.slice (some ⟨g1,0,none⟩) (((a0.fe % (4:UInt8)).toNat:Nat):Int).toNat (((a0.fe % (4:UInt8)).toNat:Nat):Int).toNat),(List.replicate (((a0.fe % (4:UInt8)).toNat:Nat):Int).toNat [vI 0]).flatten,(.slice (some ⟨d1,0,none⟩) (((a0.fj % (3:UInt8)).toNat:Nat):Int).toNat (((a0.fj % (3:UInt8)).toNat:Nat):Int).toNat),(List.replicate (((a0.fj % (3:UInt8)).toNat:Nat):Int).toNat [vI 0]).flatten) _ _ ⟨rfl,rfl,rfl,rfl,rfl,rfl,rfl,rfl,trivial⟩ ⟨F0,U6,s1,Y5,Z5⟩
 refine RO.new (m' :=1919) (sk b0) rfl .plain rfl (Does.mk (α:=Int) v1 D0 el42 rfl) (fun j2 j1 F0 V0=>?_)
 have s1:=AF (cs:=(List.replicate (((a0.fl % (3:UInt8)).toNat:Nat):Int).toNat [vI 0]).flatten) (xs:=C0) F0 L (Cells.mk v1 rfl)
 refine RD.nu 7 2047 b0 rfl .plain rfl (Does.mk (α:=Int) u1 F0 el42 rfl) (fun g2 g1 E0 U0=>?_)
 have q1:=AF (cs:=(List.replicate (((a0.fe % (4:UInt8)).toNat:Nat):Int).toNat [vI 0]).flatten) (xs:=B0) E0 L (Cells.mk u1 rfl)
 obtain ⟨x4,F2⟩:=AL E0 (.one (.tl .hd) (.one .hd (.one .hd (.one .hd (.one .hd (.one .hd (.one .hd (.one .hd .done))))))))
 have b6:=AQ s1 (Tt U0 F2)
 have c6:=AQ q1 F2
 have H3:=Tt V0 (Tt U0 F2)
 have d6:=AQ p1 H3
 exact H1 ((.slice (some ⟨j1,0,none⟩) (((a0.fl % (3:UInt8)).toNat:Nat):Int).toNat (((a0.fl % (3:UInt8)).toNat:Nat):Int).toNat),(List.replicate (((a0.fl % (3:UInt8)).toNat:Nat):Int).toNat [vI 0]).flatten,(.slice (some ⟨g1,0,none⟩) (((a0.fe % (4:UInt8)).toNat:Nat):Int).toNat (((a0.fe % (4:UInt8)).toNat:Nat):Int).toNat),(List.replicate (((a0.fe % (4:UInt8)).toNat:Nat):Int).toNat [vI 0]).flatten,(.slice (some ⟨d1,0,none⟩) (((a0.fj % (3:UInt8)).toNat:Nat):Int).toNat (((a0.fj % (3:UInt8)).toNat:Nat):Int).toNat),(List.replicate (((a0.fj % (3:UInt8)).toNat:Nat):Int).toNat [vI 0]).flatten) _ _ ⟨rfl,rfl,rfl,rfl,rfl,rfl,rfl,rfl,trivial⟩ ⟨x4,(Tt X0 H3),b6,c6,d6⟩
 refine RO.new (m' :=1007) (sk b0) rfl .plain rfl (Does.mk (α:=Int) u1 Z0 el42 rfl) (fun g2 g1 E0 U0=>?_)
 have q1:=AF (cs:=(List.replicate (((a0.fe % (4:UInt8)).toNat:Nat):Int).toNat [vI 0]).flatten) (xs:=B0) E0 L (Cells.mk u1 rfl)
 refine RD.each [4,10] (rk b0) ⟨?_,?_,trivial⟩
 refine RO.new (m' :=1023) (sk b0) rfl .plain rfl (Does.mk (α:=Int) t1 E0 el42 rfl) (fun d2 d1 D0 X0=>?_)
 have p1:=AF (cs:=(List.replicate (((a0.fj % (3:UInt8)).toNat:Nat):Int).toNat [vI 0]).flatten) (xs:=A0) D0 L (Cells.mk t1 rfl)
 refine RD.nu 10 2047 b0 rfl .plain rfl (Does.mk (α:=Int) v1 D0 el42 rfl) (fun j2 j1 F0 V0=>?_)
 have s1:=AF (cs:=(List.replicate (((a0.fl % (3:UInt8)).toNat:Nat):Int).toNat [vI 0]).flatten) (xs:=C0) F0 L (Cells.mk v1 rfl)
 obtain ⟨y4,G2⟩:=AL F0 (.one .hd (.one (.tl .hd) (.one .hd (.one .hd (.one .hd (.one .hd (.one .hd (.one .hd .done))))))))
 have g6:=AQ s1 G2
 have I3:=Tt X0 (Tt V0 G2)
 have j6:=AQ q1 I3
 have k6:=AQ p1 (Tt V0 G2)
 exact H1 ((.slice (some ⟨j1,0,none⟩) (((a0.fl % (3:UInt8)).toNat:Nat):Int).toNat (((a0.fl % (3:UInt8)).toNat:Nat):Int).toNat),(List.replicate (((a0.fl % (3:UInt8)).toNat:Nat):Int).toNat [vI 0]).flatten,(.slice (some ⟨g1,0,none⟩) (((a0.fe % (4:UInt8)).toNat:Nat):Int).toNat (((a0.fe % (4:UInt8)).toNat:Nat):Int).toNat),(List.replicate (((a0.fe % (4:UInt8)).toNat:Nat):Int).toNat [vI 0]).flatten,(.slice (some ⟨d1,0,none⟩) (((a0.fj % (3:UInt8)).toNat:Nat):Int).toNat (((a0.fj % (3:UInt8)).toNat:Nat):Int).toNat),(List.replicate (((a0.fj % (3:UInt8)).toNat:Nat):Int).toNat [vI 0]).flatten) _ _ ⟨rfl,rfl,rfl,rfl,rfl,rfl,rfl,rfl,trivial⟩ ⟨y4,(Tt U0 I3),g6,j6,k6⟩
 refine RO.new (m' :=2031) (sk b0) rfl .plain rfl (Does.mk (α:=Int) v1 E0 el42 rfl) (fun j2 j1 F0 V0=>?_)
 have s1:=AF (cs:=(List.replicate (((a0.fl % (3:UInt8)).toNat:Nat):Int).toNat [vI 0]).flatten) (xs:=C0) F0 L (Cells.mk v1 rfl)
 refine RD.nu 4 2047 b0 rfl .plain rfl (Does.mk (α:=Int) t1 F0 el42 rfl) (fun d2 d1 D0 X0=>?_)
 have p1:=AF (cs:=(List.replicate (((a0.fj % (3:UInt8)).toNat:Nat):Int).toNat [vI 0]).flatten) (xs:=A0) D0 L (Cells.mk t1 rfl)
 obtain ⟨z4,H2⟩:=AL D0 (.one (.tl .hd) (.one (.tl .hd) (.one .hd (.one .hd (.one .hd (.one .hd (.one .hd (.one .hd .done))))))))
 have p6:=AQ s1 (Tt X0 H2)
 have J3:=Tt V0 (Tt X0 H2)
 have q6:=AQ q1 J3
 have s6:=AQ p1 H2
 exact H1 ((.slice (some ⟨j1,0,none⟩) (((a0.fl % (3:UInt8)).toNat:Nat):Int).toNat (((a0.fl % (3:UInt8)).toNat:Nat):Int).toNat),(List.replicate (((a0.fl % (3:UInt8)).toNat:Nat):Int).toNat [vI 0]).flatten,(.slice (some ⟨g1,0,none⟩) (((a0.fe % (4:UInt8)).toNat:Nat):Int).toNat (((a0.fe % (4:UInt8)).toNat:Nat):Int).toNat),(List.replicate (((a0.fe % (4:UInt8)).toNat:Nat):Int).toNat [vI 0]).flatten,(.slice (some ⟨d1,0,none⟩) (((a0.fj % (3:UInt8)).toNat:Nat):Int).toNat (((a0.fj % (3:UInt8)).toNat:Nat):Int).toNat),(List.replicate (((a0.fj % (3:UInt8)).toNat:Nat):Int).toNat [vI 0]).flatten) _ _ ⟨rfl,rfl,rfl,rfl,rfl,rfl,rfl,rfl,trivial⟩ ⟨z4,(Tt U0 J3),p6,q6,s6⟩
 refine RO.new (m' :=1903) (sk b0) rfl .plain rfl (Does.mk (α:=Int) v1 Z0 el42 rfl) (fun j2 j1 F0 V0=>?_)
 have s1:=AF (cs:=(List.replicate (((a0.fl % (3:UInt8)).toNat:Nat):Int).toNat [vI 0]).flatten) (xs:=C0) F0 L (Cells.mk v1 rfl)
 refine RD.each [4,7] (rk b0) ⟨?_,?_,trivial⟩
 refine RO.new (m' :=1919) (sk b0) rfl .plain rfl (Does.mk (α:=Int) t1 F0 el42 rfl) (fun d2 d1 D0 X0=>?_)
 have p1:=AF (cs:=(List.replicate (((a0.fj % (3:UInt8)).toNat:Nat):Int).toNat [vI 0]).flatten) (xs:=A0) D0 L (Cells.mk t1 rfl)
 refine RD.nu 7 2047 b0 rfl .plain rfl (Does.mk (α:=Int) u1 D0 el42 rfl) (fun g2 g1 E0 U0=>?_)
 have q1:=AF (cs:=(List.replicate (((a0.fe % (4:UInt8)).toNat:Nat):Int).toNat [vI 0]).flatten) (xs:=B0) E0 L (Cells.mk u1 rfl)
 obtain ⟨A4,I2⟩:=AL E0 (.one (.tl (.tl .hd)) (.one .hd (.one .hd (.one .hd (.one .hd (.one .hd (.one .hd (.one .hd .done))))))))
 have K3:=Tt X0 (Tt U0 I2)
 have t6:=AQ s1 K3
 have u6:=AQ q1 I2
 have v6:=AQ p1 (Tt U0 I2)
 exact H1 ((.slice (some ⟨j1,0,none⟩) (((a0.fl % (3:UInt8)).toNat:Nat):Int).toNat (((a0.fl % (3:UInt8)).toNat:Nat):Int).toNat),(List.replicate (((a0.fl % (3:UInt8)).toNat:Nat):Int).toNat [vI 0]).flatten,(.slice (some ⟨g1,0,none⟩) (((a0.fe % (4:UInt8)).toNat:Nat):Int).toNat (((a0.fe % (4:UInt8)).toNat:Nat):Int).toNat),(List.replicate (((a0.fe % (4:UInt8)).toNat:Nat):Int).toNat [vI 0]).flatten,(.slice (some ⟨d1,0,none⟩) (((a0.fj % (3:UInt8)).toNat:Nat):Int).toNat (((a0.fj % (3:UInt8)).toNat:Nat):Int).toNat),(List.replicate (((a0.fj % (3:UInt8)).toNat:Nat):Int).toNat [vI 0]).flatten) _ _ ⟨rfl,rfl,rfl,rfl,rfl,rfl,rfl,rfl,trivial⟩ ⟨A4,(Tt V0 K3),t6,u6,v6⟩
 refine RO.new (m' :=2031) (sk b0) rfl .plain rfl (Does.mk (α:=Int) u1 F0 el42 rfl) (fun g2 g1 E0 U0=>?_)
 have q1:=AF (cs:=(List.replicate (((a0.fe % (4:UInt8)).toNat:Nat):Int).toNat [vI 0]).flatten) (xs:=B0) E0 L (Cells.mk u1 rfl)
 refine RD.nu 4 2047 b0 rfl .plain rfl (Does.mk (α:=Int) t1 E0 el42 rfl) (fun d2 d1 D0 X0=>?_)
 have p1:=AF (cs:=(List.replicate (((a0.fj % (3:UInt8)).toNat:Nat):Int).toNat [vI 0]).flatten) (xs:=A0) D0 L (Cells.mk t1 rfl)
 obtain ⟨B4,J2⟩:=AL D0 (.one (.tl (.tl .hd)) (.one (.tl .hd) (.one .hd (.one .hd (.one .hd (.one .hd (.one .hd (.one .hd .done))))))))
 have M3:=Tt U0 (Tt X0 J2)
 have x6:=AQ s1 M3
 have y6:=AQ q1 (Tt X0 J2)
 have z6:=AQ p1 J2
 exact H1 ((.slice (some ⟨j1,0,none⟩) (((a0.fl % (3:UInt8)).toNat:Nat):Int).toNat (((a0.fl % (3:UInt8)).toNat:Nat):Int).toNat),(List.replicate (((a0.fl % (3:UInt8)).toNat:Nat):Int).toNat [vI 0]).flatten,(.slice (some ⟨g1,0,none⟩) (((a0.fe % (4:UInt8)).toNat:Nat):Int).toNat (((a0.fe % (4:UInt8)).toNat:Nat):Int).toNat),(List.replicate (((a0.fe % (4:UInt8)).toNat:Nat):Int).toNat [vI 0]).flatten,(.slice (some ⟨d1,0,none⟩) (((a0.fj % (3:UInt8)).toNat:Nat):Int).toNat (((a0.fj % (3:UInt8)).toNat:Nat):Int).toNat),(List.replicate (((a0.fj % (3:UInt8)).toNat:Nat):Int).toNat [vI 0]).flatten) _ _ ⟨rfl,rfl,rfl,rfl,rfl,rfl,rfl,rfl,trivial⟩ ⟨B4,(Tt V0 M3),x6,y6,z6⟩
 refine Bf rfl ?_
 have h:=H5 _ h
 try dsimp only at h
 refine Ac<|Ab (AB rfl (Z0.memA (.tl (.tl .hd))))<|AM [vI (((a0.fj % (3:UInt8)).toNat:Nat):Int),vI (((a0.fe % (4:UInt8)).toNat:Nat):Int),vI (((a0.fl % (3:UInt8)).toNat:Nat):Int),c0] Z0 (.tl (.tl (.tl .hd))) (o4 rfl rfl rfl (St.o1 (α:=TUnit) Z0 (.tl .hd))) (fun H9 c3 V4=>?_)
 refine Aa<|Ao rfl<|Am (u:=.agg #[vI (((a0.fj % (3:UInt8)).toNat:Nat):Int),vI (((a0.fe % (4:UInt8)).toNat:Nat):Int),vI (((a0.fl % (3:UInt8)).toNat:Nat):Int),c0]) hb0 Tryz.func24 rfl (.cons (.many (cs:=[vI (((a0.fj % (3:UInt8)).toNat:Nat):Int),vI (((a0.fe % (4:UInt8)).toNat:Nat):Int),vI (((a0.fl % (3:UInt8)).toNat:Nat):Int),c0]) (by kernel_rfl) rfl (c3.memA (.tl (.tl (.tl .hd))))) .nil) rfl ?_
 obtain ⟨d3,W4⟩:=AL c3 (.one (.tl .hd) .done)
 cases h
 have A6:=AQ C3 (Tt V4 W4)
 exact ⟨d3.ag,fun w9 hw9=>⟨c0,P0,rfl,d3.agree hw9,Cells.keep0 A6 hw9⟩⟩
theorem body24:bodyB Tryz.prog 24 = true:=by kernel_rfl
def wardmoteref22_Draft_Full_p (n:Nat) (a0:TDraft) (a1:Int):Option TRoll:=
  (wardmoteref22_Draft_Roll_p n (⟨2,3,2,a0.fu,a0.fNums⟩:TDraft) a1).bind fun b0=>some b0
theorem wardmoteref22_Draft_Full_c (n:Nat) (L:List Nat) (w:World) (hL:∀ b ∈ L,b < w.heap.size) (a0:TDraft) {v0_4:Value} (h0_4:Rep.R w L [v0_4] a0.fNums) (a1:Int)  {r:TRoll} (h:wardmoteref22_Draft_Full_p n a0 a1 = some r) :
    Calls Tryz.prog 7 #[.agg #[.int .u8 (a0.fj.toNat:Int),.int .u8 (a0.fe.toNat:Int),.int .u8 (a0.fl.toNat:Int),.int .u8 (a0.fu.toNat:Int),v0_4],vI a1] w (Gives w fun w' u=>∃ (v0_3:Value) (cs0_3:List Value),u = .agg #[vI r.fj,vI r.fe,vI r.fl,v0_3]∧St w w' (rowsOf w.heap.size [(44,Rep.size TUnit,v0_3,r.ft.length,cs0_3)])∧Cells w' (bl (rowsOf w.heap.size [(44,Rep.size TUnit,v0_3,r.ft.length,cs0_3)]) ++ L) cs0_3 (r.ft:List TUnit)):=by
 unfold wardmoteref22_Draft_Full_p at h
 have hS0:=Ax w
 refine AE Tryz.func7 rfl rfl rfl (fun _ cs0 hb0=>?_)
 refine Ac<|Ai .plain rfl (Ap hS0 rfl rfl) (fun U0 F0 t0 H0=>?_)
 refine Ai .plain rfl (Au [vI 0,vI 0,vI 0,vN] t0) (fun V0 G0 u0 I0=>?_)
 refine Aa<|Ac<|AW 0 rfl<|RG.now .plain (Bl (j:=0) (old:=[.int .u8 (a0.fj.toNat:Int),.int .u8 (a0.fe.toNat:Int),.int .u8 (a0.fl.toNat:Int),.int .u8 (a0.fu.toNat:Int),v0_4]) (news:=[.int .u8 2]) (new' :=[.int .u8 2,.int .u8 (a0.fe.toNat:Int),.int .u8 (a0.fl.toNat:Int),.int .u8 (a0.fu.toNat:Int),v0_4]) u0 (.tl .hd) rfl rfl rfl rfl rfl rfl (o1 rfl) rfl) (fun W0 v0 J0=>?_)
 refine AW 1 rfl<|RG.now .plain (Bl (j:=1) (old:=[.int .u8 2,.int .u8 (a0.fe.toNat:Int),.int .u8 (a0.fl.toNat:Int),.int .u8 (a0.fu.toNat:Int),v0_4]) (news:=[.int .u8 3]) (new' :=[.int .u8 2,.int .u8 3,.int .u8 (a0.fl.toNat:Int),.int .u8 (a0.fu.toNat:Int),v0_4]) v0 (.tl .hd) rfl rfl rfl rfl rfl rfl (o1 rfl) rfl) (fun X0 x0 K0=>?_)
 refine AW 2 rfl<|RG.now .plain (Bl (j:=2) (old:=[.int .u8 2,.int .u8 3,.int .u8 (a0.fl.toNat:Int),.int .u8 (a0.fu.toNat:Int),v0_4]) (news:=[.int .u8 2]) (new' :=[.int .u8 2,.int .u8 3,.int .u8 2,.int .u8 (a0.fu.toNat:Int),v0_4]) x0 (.tl .hd) rfl rfl rfl rfl rfl rfl (o1 rfl) rfl) (fun Y0 d0 M0=>?_)
 refine Aa<|Ac<|Ab (AB rfl (d0.memA (.tl .hd)))<|Ae rfl ?_
 obtain ⟨c0,E0,h⟩:=bi h
 refine Bu (fst:=[]) (cap:=[]) .plain body24 rfl (e2 rfl rfl) (fun w9 hw9=>own_gives (b0:=w.heap.size) (wardmoteref22_Draft_Roll_c n _ w9 (d0.hL hL hw9) (⟨2,3,2,a0.fu,a0.fNums⟩:TDraft) (d0.km h0_4 hw9) a1 E0) hw9 (Nat.le_trans d0.ag.size hw9.size)) rfl (fun Z0 R0 Q0 ⟨g0,k0,D0,s0,A0⟩=>?_)
 subst D0
 have j0:=own_push d0 s0
 have P0:=own_tr d0 s0
 have B0:=AF (cs:=k0) (xs:=(c0.ft:List TUnit)) j0 L (own_cells A0)
 refine AM [vI c0.fj,vI c0.fe,vI c0.fl,g0] j0 (.tl .hd) (o4 rfl rfl rfl (St.o1 (α:=TUnit) j0 .hd)) (fun b1 p0 y0=>?_)
 refine Aa<|Ao rfl<|Am (u:=.agg #[vI c0.fj,vI c0.fe,vI c0.fl,g0]) hb0 Tryz.func7 rfl (.cons (.many (cs:=[vI c0.fj,vI c0.fe,vI c0.fl,g0]) (by kernel_rfl) rfl (p0.memA (.tl .hd))) .nil) rfl ?_
 obtain ⟨q0,z0⟩:=AL p0 (.one .hd .done)
 cases h
 have C0:=AQ B0 (Tt y0 z0)
 exact ⟨q0.ag,fun w9 hw9=>⟨g0,k0,rfl,q0.agree hw9,Cells.keep0 C0 hw9⟩⟩
structure Tcalc where
  fbad:Bool
  deriving DecidableEq
instance:Rep Tcalc:=Rep.via (β:=Bool) fun x=>x.fbad
def wardmotelaw29_calc_keep_p (_n:Nat) (_a0:Tcalc) (a1:TShare) (a2:Int):Option TShare:=
  (if a2 = 0 then some a1 else none)
theorem wardmotelaw29_calc_keep_c (n:Nat) (L:List Nat) (w:World) (_hL:∀ b ∈ L,b < w.heap.size) (a0:Tcalc) {p0:Nat} (m0:∀ j9 v9,([.bool a0.fbad]:List Value)[j9]? = some v9 → w.cell? ((⟨p0,0,none⟩:Addr).add j9) = some v9) (a1:TShare) (a2:Int)  {r:TShare} (h:wardmotelaw29_calc_keep_p n a0 a1 a2 = some r) :
    Calls Tryz.prog 33 #[.pointer (some ⟨p0,0,none⟩),.agg ((cs_TShare a1)).toArray,vI a2] w (Gives w fun _ u=>u = .agg ((cs_TShare r)).toArray):=by
 unfold wardmotelaw29_calc_keep_p at h
 have hS0:=Ax w
 refine AE Tryz.func33 rfl rfl rfl (fun _ cs0 hb0=>?_)
 refine Ac<|Ai .plain rfl (Ap hS0 rfl rfl) (fun u0 j0 g0 q0=>?_)
 refine Ai .plain rfl (Au zL g0) (fun v0 k0 b0 s0=>?_)
 refine Aa<|Aj<|Ac<|Ae rfl<|Ab (FV.neq (i:=a2) (j:=0) rfl rfl)<|Aa<|MX.ifn rfl h (fun d0 h=>?_) (fun d0 h=>?_)
 refine Av<|Ac<|Ab (AB rfl (b0.memA (.tl .hd)))<|AM (cs_TShare a1) b0 .hd (onesB rfl) (fun x0 c0 t0=>?_)
 refine Aa<|Ao rfl<|Am hb0 Tryz.func33 rfl (.cons (.many (cs:=(cs_TShare a1)) (by kernel_rfl) rfl (c0.memA .hd)) .nil) rfl ?_
 cases h
 exact c0.gv
 refine Ac<|Ae rfl<|Ab (FV.nilCheck rfl)<|AW 0 rfl ?_
 cases h
theorem body33:bodyB Tryz.prog 33 = true:=by kernel_rfl
def wardmotelaw29_calc_sub_p (n:Nat) (a0:Tcalc) (a1:TShare) (a2:TShare):Option TShare:=
  (share_Sub_p n a1 a2).bind fun b0=>(wardmotelaw29_calc_keep_p n a0 b0.1 b0.2).bind fun c0=>some c0
theorem wardmotelaw29_calc_sub_c (n:Nat) (L:List Nat) (w:World) (hL:∀ b ∈ L,b < w.heap.size) (a0:Tcalc) {p0:Nat} (m0:∀ j9 v9,([.bool a0.fbad]:List Value)[j9]? = some v9 → w.cell? ((⟨p0,0,none⟩:Addr).add j9) = some v9) (a1:TShare) (a2:TShare)  {r:TShare} (h:wardmotelaw29_calc_sub_p n a0 a1 a2 = some r) :
    Calls Tryz.prog 10 #[.pointer (some ⟨p0,0,none⟩),.agg ((cs_TShare a1)).toArray,.agg ((cs_TShare a2)).toArray] w (Gives w fun _ u=>u = .agg ((cs_TShare r)).toArray):=by
 unfold wardmotelaw29_calc_sub_p at h
 have hS0:=Ax w
 refine AE Tryz.func10 rfl rfl rfl (fun _ cs0 hb0=>?_)
 refine Ac<|Ai .plain rfl (Ap hS0 rfl rfl) (fun B0 t0 j0 x0=>?_)
 refine Ai .plain rfl (Ap j0 rfl rfl) (fun C0 u0 k0 y0=>?_)
 refine Ai .plain rfl (Au zL k0) (fun D0 v0 b0 z0=>?_)
 refine Aa<|Ac<|Ae rfl<|Ab (AB rfl (b0.memA (.tl (.tl .hd))))<|Ab (AB rfl (b0.memA (.tl .hd))) ?_
 obtain ⟨c0,q0,h⟩:=bi h
 refine Bc (.tuple #[.agg ((cs_TShare c0.1)).toArray,vI c0.2]) body34 rfl (e2 rfl rfl) (fun w9 hw9=>share_Sub_c n _ w9 (b0.hL0 hL hw9) a1 a2 q0) rfl<|Ab (Ag rfl rfl)<|Ab (Ag rfl rfl) ?_
 obtain ⟨d0,s0,h⟩:=bi h
 refine Bc (.agg ((cs_TShare d0)).toArray) body33 rfl (e3 rfl rfl rfl) (fun w9 hw9=>wardmotelaw29_calc_keep_c n _ w9 (b0.hL0 hL hw9) a0 (fun j9 v9 h9=>hw9.cell0 ((fun j9 v9 h9=>b0.ag.cell0 (m0 j9 v9 h9)) j9 v9 h9)) c0.1 c0.2 s0) rfl<|AM (cs_TShare d0) b0 .hd (onesB rfl) (fun E0 g0 A0=>?_)
 refine Aa<|Ao rfl<|Am hb0 Tryz.func10 rfl (.cons (.many (cs:=(cs_TShare d0)) (by kernel_rfl) rfl (g0.memA .hd)) .nil) rfl ?_
 cases h
 exact g0.gv
def wardmotelaw29_calc_mul_p (n:Nat) (a0:Tcalc) (a1:TShare) (a2:TShare):Option TShare:=
  (share_Mul_p n a1 a2).bind fun b0=>(wardmotelaw29_calc_keep_p n a0 b0.1 b0.2).bind fun c0=>some c0
theorem wardmotelaw29_calc_mul_c (n:Nat) (L:List Nat) (w:World) (hL:∀ b ∈ L,b < w.heap.size) (a0:Tcalc) {p0:Nat} (m0:∀ j9 v9,([.bool a0.fbad]:List Value)[j9]? = some v9 → w.cell? ((⟨p0,0,none⟩:Addr).add j9) = some v9) (a1:TShare) (a2:TShare)  {r:TShare} (h:wardmotelaw29_calc_mul_p n a0 a1 a2 = some r) :
    Calls Tryz.prog 11 #[.pointer (some ⟨p0,0,none⟩),.agg ((cs_TShare a1)).toArray,.agg ((cs_TShare a2)).toArray] w (Gives w fun _ u=>u = .agg ((cs_TShare r)).toArray):=by
 unfold wardmotelaw29_calc_mul_p at h
 have hS0:=Ax w
 refine AE Tryz.func11 rfl rfl rfl (fun _ cs0 hb0=>?_)
 refine Ac<|Ai .plain rfl (Ap hS0 rfl rfl) (fun B0 t0 j0 x0=>?_)
 refine Ai .plain rfl (Ap j0 rfl rfl) (fun C0 u0 k0 y0=>?_)
 refine Ai .plain rfl (Au zL k0) (fun D0 v0 b0 z0=>?_)
 refine Aa<|Ac<|Ae rfl<|Ab (AB rfl (b0.memA (.tl (.tl .hd))))<|Ab (AB rfl (b0.memA (.tl .hd))) ?_
 obtain ⟨c0,q0,h⟩:=bi h
 refine Bc (.tuple #[.agg ((cs_TShare c0.1)).toArray,vI c0.2]) body35 rfl (e2 rfl rfl) (fun w9 hw9=>share_Mul_c n _ w9 (b0.hL0 hL hw9) a1 a2 q0) rfl<|Ab (Ag rfl rfl)<|Ab (Ag rfl rfl) ?_
 obtain ⟨d0,s0,h⟩:=bi h
 refine Bc (.agg ((cs_TShare d0)).toArray) body33 rfl (e3 rfl rfl rfl) (fun w9 hw9=>wardmotelaw29_calc_keep_c n _ w9 (b0.hL0 hL hw9) a0 (fun j9 v9 h9=>hw9.cell0 ((fun j9 v9 h9=>b0.ag.cell0 (m0 j9 v9 h9)) j9 v9 h9)) c0.1 c0.2 s0) rfl<|AM (cs_TShare d0) b0 .hd (onesB rfl) (fun E0 g0 A0=>?_)
 refine Aa<|Ao rfl<|Am hb0 Tryz.func11 rfl (.cons (.many (cs:=(cs_TShare d0)) (by kernel_rfl) rfl (g0.memA .hd)) .nil) rfl ?_
 cases h
 exact g0.gv
def wardmotelaw29_calc_add_p (n:Nat) (a0:Tcalc) (a1:TShare) (a2:TShare):Option TShare:=
  (share_Add_p n a1 a2).bind fun b0=>(wardmotelaw29_calc_keep_p n a0 b0.1 b0.2).bind fun c0=>some c0
theorem wardmotelaw29_calc_add_c (n:Nat) (L:List Nat) (w:World) (hL:∀ b ∈ L,b < w.heap.size) (a0:Tcalc) {p0:Nat} (m0:∀ j9 v9,([.bool a0.fbad]:List Value)[j9]? = some v9 → w.cell? ((⟨p0,0,none⟩:Addr).add j9) = some v9) (a1:TShare) (a2:TShare)  {r:TShare} (h:wardmotelaw29_calc_add_p n a0 a1 a2 = some r) :
    Calls Tryz.prog 12 #[.pointer (some ⟨p0,0,none⟩),.agg ((cs_TShare a1)).toArray,.agg ((cs_TShare a2)).toArray] w (Gives w fun _ u=>u = .agg ((cs_TShare r)).toArray):=by
 unfold wardmotelaw29_calc_add_p at h
 have hS0:=Ax w
 refine AE Tryz.func12 rfl rfl rfl (fun _ cs0 hb0=>?_)
 refine Ac<|Ai .plain rfl (Ap hS0 rfl rfl) (fun B0 t0 j0 x0=>?_)
 refine Ai .plain rfl (Ap j0 rfl rfl) (fun C0 u0 k0 y0=>?_)
 refine Ai .plain rfl (Au zL k0) (fun D0 v0 b0 z0=>?_)
 refine Aa<|Ac<|Ae rfl<|Ab (AB rfl (b0.memA (.tl (.tl .hd))))<|Ab (AB rfl (b0.memA (.tl .hd))) ?_
 obtain ⟨c0,q0,h⟩:=bi h
 refine Bc (.tuple #[.agg ((cs_TShare c0.1)).toArray,vI c0.2]) body36 rfl (e2 rfl rfl) (fun w9 hw9=>share_Add_c n _ w9 (b0.hL0 hL hw9) a1 a2 q0) rfl<|Ab (Ag rfl rfl)<|Ab (Ag rfl rfl) ?_
 obtain ⟨d0,s0,h⟩:=bi h
 refine Bc (.agg ((cs_TShare d0)).toArray) body33 rfl (e3 rfl rfl rfl) (fun w9 hw9=>wardmotelaw29_calc_keep_c n _ w9 (b0.hL0 hL hw9) a0 (fun j9 v9 h9=>hw9.cell0 ((fun j9 v9 h9=>b0.ag.cell0 (m0 j9 v9 h9)) j9 v9 h9)) c0.1 c0.2 s0) rfl<|AM (cs_TShare d0) b0 .hd (onesB rfl) (fun E0 g0 A0=>?_)
 refine Aa<|Ao rfl<|Am hb0 Tryz.func12 rfl (.cons (.many (cs:=(cs_TShare d0)) (by kernel_rfl) rfl (g0.memA .hd)) .nil) rfl ?_
 cases h
 exact g0.gv
end Go.Proofs.YtbgcdbblaadokaaGreatDoor
