/- Functions of the program, and what they give: part 6. -/
import Derived.Test.YtfncplndfpgngaaGreatDoorTF5
namespace Go.Proofs.YtfncplndfpgngaaGreatDoor
open Go Go.RowKit
set_option maxRecDepth 4000
set_option maxHeartbeats 4000000

def tb4_19:List (Nat × Nat × Nat):=[(0,5316911983139663491615228241121378304,2097152),(1,10633823966279326983230456482242756608,5316911983139663491615228241121378304),(2,21267647932558653966460912964485513216,10633823966279326983230456482242756608),(4,42535295865117307932921825928971026432,21267647932558653966460912964485521408),(4,85070591730234615865843651857942052864,21267647932558653966460912964487610368),(28,170141183460469231731687303715884105728,148873535527910577765226390751398592512),(36,340282366920938463463374607431768211456,191408831393027885698148216680369618944),(4,680564733841876926926749214863536422912,21267647932558653966460912964485521408),(4,1361129467683753853853498429727072845824,21267647932558653966460912964487610368),(260,2722258935367507707706996859454145691648,1382397115616312507819959342691558359040),(644,5444517870735015415413993718908291383296,3424091317141943288600206987282167627776),(1028,10889035741470030830827987437816582766592,5465785518667574069380454631872776896512),(2116,21778071482940061661655974875633165533184,11250585756323527948257822958212836491264),(4100,43556142965880123323311949751266331066368,21799339130872620315622435788597651046400),(8196,87112285931760246646623899502532662132736,43556142965880123323311949751266331066368),(16384,174224571863520493293247799005065324265472,87112285931760246646623899502532666327040),(49152,348449143727040986586495598010130648530944,261336857795280739939871698507597986398208),(81920,696898287454081973172991196020261297061888,435561429658801233233119497512663310663680),(16384,1393796574908163946345982392040522594123776,87112285931760246646623899502532662133248),(16384,2787593149816327892691964784081045188247552,87112285931760246646623899502532662132864),(16384,5575186299632655785383929568162090376495104,87112285931760246646623899502532662132992),(16384,11150372599265311570767859136324180752990208,87112285931760246646623899502532662133760),(16384,22300745198530623141535718272648361505980416,87112285931760246646623899502532662140928),(16384,44601490397061246283071436545296723011960832,87112285931760246646623899502532664229888),(12599296,89202980794122492566142873090593446023921664,66989347881523629671253778717447617180073984),(16793600,178405961588244985132285746181186892047843328,89290093080054252812789496990095978686054400),(37634048,356811923176489970264571492362373784095686656,199400022497799204574122105961297263621832704),(67125248,713623846352979940529142984724747568191373312,356899035462421730511218116261876316757819392),(67125248,1427247692705959881058285969449495136382746624,356899035462421730511218116261876316757819392),(469909504,2854495385411919762116571938898990272765493248,2141655549632325663807248569269765498533314560),(536887296,5708990770823839524233143877797980545530986496,2854582497697851522363218562798492805427625984),(1073758208,11417981541647679048466287755595961091061972992,5709077883109771284479790501697483078193119232)]
def wardmotelaw23_SplitCounts_l1 (_n:Nat) (c0:TRoll) (g0:Int × Nat → Option Int):Int × Nat → Option Int
  | (d0,b0)=>(if b0 < c0.fm.length then (c0.fm[b0]?).bind fun k0=>(chk (d0 - k0.fp)).bind fun j0=>g0 (j0,b0 + 1) else some d0)
def wardmotelaw23_SplitCounts_l2 (n:Nat) (x0:(List Int) × Int) (G0:(List Int) × Int) (g0:(List Int) × Int) (t0:TRoll) (c0:(List Int) × Int) (a2:UInt8) (k0:Int × Int × Nat → Option (Bool ⊕ (Int × Int))):Int × Int × Nat → Option (Bool ⊕ (Int × Int))
  | (y0,j0,b0)=>(if b0 < x0.1.length then (x0.1[b0]?).bind fun d0=>(G0.1[b0]?).bind fun B0=>(chk (y0 + B0)).bind fun q0=>jn (fun z0=>(if 0 < b0 then (g0.1[b0]?).bind fun s0=>(g0.1[b0 - 1]?).bind fun C0=>(if s0 ≤ C0 then some (.inl false) else (split_Keeps_p n t0 c0.1 c0.2 (((a2 % (2:UInt8)).toNat:Nat):Int) s0).bind fun u0=>(wardmotelaw23_truth_1_p n u0.1 u0.2 (decide (d0 = 1))).bind fun E0=>(if E0 = true then k0 (q0,z0,b0 + 1) else some (.inl false))) else (g0.1[b0]?).bind fun D0=>(split_Keeps_p n t0 c0.1 c0.2 (((a2 % (2:UInt8)).toNat:Nat):Int) D0).bind fun v0=>(wardmotelaw23_truth_1_p n v0.1 v0.2 (decide (d0 = 1))).bind fun F0=>(if F0 = true then k0 (q0,z0,b0 + 1) else some (.inl false)))) (fun p0=>(if 1 < d0 then (chk (j0 + 1)).bind fun A0=>p0 A0 else p0 j0)) else some (.inr (y0,j0)))
def wardmotelaw23_SplitCounts_p (n:Nat) (a0:TDraft) (a1:TDraft26) (a2:UInt8):Option Bool:=
  (wardmotelaw23_works_p n).bind fun t0=>(if t0 = true then (wardmoteref21_Draft_Loose_p n a0).bind fun c0=>(wardmoteref22_Draft_Full_p n a1 ((c0.1.length:Nat):Int)).bind fun d0=>(split_Pieces_p n d0 c0.1 c0.2 (((a2 % (2:UInt8)).toNat:Nat):Int)).bind fun k0=>(split_Parents_p n d0 (((a2 % (2:UInt8)).toNat:Nat):Int)).bind fun g0=>(split_People_p n d0 (((a2 % (2:UInt8)).toNat:Nat):Int)).bind fun p0=>(split_Splits_p n d0 c0.1 c0.2 (((a2 % (2:UInt8)).toNat:Nat):Int)).bind fun j0=>jn (fun q0=>(if q0 = true then some false else thn (loopF (wardmotelaw23_SplitCounts_l2 n k0 p0 g0 d0 c0 a2) n (0,0,0)) (fun (u0,v0)=>Option.bind (loopF (wardmotelaw23_SplitCounts_l1 n d0) n (u0,0)) (fun x0=>(if x0 = 0 then some (decide (v0 = j0.1.fx)) else some false))))) (fun b0=>(if k0.2 = 0 then (if g0.2 = 0 then (if p0.2 = 0 then (if j0.2 = 0 then (if k0.1.length = g0.1.length then (if p0.1.length = g0.1.length then (chk (((g0.1.length:Nat):Int) + j0.1.fx)).bind fun s0=>b0 (decide (j0.1.fv < s0)) else b0 true) else b0 true) else b0 true) else b0 true) else b0 true) else b0 true)) else some false)
theorem wardmotelaw23_SplitCounts_c (n:Nat) (L:List Nat) (w:World) (hL:∀ b ∈ L,b < w.heap.size) (a0:TDraft) {v0_1:Value} (h0_1:Rep.R w L [v0_1] a0.fw) {v0_2:Value} (h0_2:Rep.R w L [v0_2] a0.fMore) {v0_3:Value} (h0_3:Rep.R w L [v0_3] a0.fE) (a1:TDraft26) {v1_4:Value} (h1_4:Rep.R w L [v1_4] a1.fF) (a2:UInt8)  {r:Bool} (h:wardmotelaw23_SplitCounts_p n a0 a1 a2 = some r) :
    Calls Tryz.prog 4 #[.agg #[.int .u8 (a0.fN.toNat:Int),v0_1,v0_2,v0_3,.int .u8 (a0.fK.toNat:Int)],.agg #[.int .u8 (a1.fe.toNat:Int),.int .u8 (a1.fc.toNat:Int),.int .u8 (a1.fh.toNat:Int),.int .u8 (a1.fo.toNat:Int),v1_4],.int .u8 (a2.toNat:Int)] w (Gives w fun _ u=>u = .bool r):=by
 unfold wardmotelaw23_SplitCounts_p at h
 have hS0:=AD w
 refine AI Tryz.func4 rfl rfl rfl (fun _ cs0 hb0=>?_)
 refine Ae<|Az .plain rfl (AK hS0 rfl rfl) (fun j8 P2 B3 D7=>?_)
 refine Az .plain rfl (AK B3 rfl rfl) (fun k8 Q2 E0 E7=>?_)
 refine Af rfl<|Aa<|Aj<|Ae ?_
 obtain ⟨X6,B6,h⟩:=bi h
 refine Bp (.bool X6) body9 rfl evs_nil (fun w9 hw9=>wardmotelaw23_works_c n _ w9 (E0.hL0 hL hw9)  B6) rfl<|Ac (Be rfl)<|Aa<|MX.ifnb rfl h (fun U2 h=>?_) (fun U2 h=>?_)
 refine Am<|Ae<|Ac (AE rfl (E0.memA (.tl .hd))) ?_
 obtain ⟨q0,C6,h⟩:=bi h
 refine AQ (fst:=[]) (cap:=[]) .plain body10 rfl (e1 rfl) (fun w9 hw9=>wardmoteref21_Draft_Loose_c n _ w9 (E0.hL hL hw9) a0 (E0.km h0_1 hw9) (E0.km h0_2 hw9) (E0.km h0_3 hw9) C6) rfl (fun p8 X7 p4 ⟨Q1,hu_,W0⟩=>?_)
 subst hu_
 obtain ⟨R0,F7⟩:=E0.agr p4
 refine Ab rfl<|Ac (Ak rfl rfl)<|Ac (Ak rfl rfl)<|Af rfl<|Af rfl<|Aa<|Ae<|Ac (AE rfl (R0.memA .hd))<|Ab rfl ?_
 have K7:q0.1.length ≤ 281474976710656:=AO W0
 refine Ac (AZ (xs:=q0.1) Tryz.underlying33 rfl W0) ?_
 obtain ⟨g0,D6,h⟩:=bi h
 refine AQ (fst:=[]) (cap:=[]) .plain body11 rfl (e2 rfl rfl) (fun w9 hw9=>own_gives (b0:=w.heap.size) (wardmoteref22_Draft_Full_c n _ w9 (R0.hL hL hw9) a1 (R0.km h1_4 hw9) ((q0.1.length:Nat):Int) D6) hw9 (Nat.le_trans R0.ag.size hw9.size)) rfl (fun q8 Y7 G7 ⟨t0,y3,q6,F2,u4⟩=>?_)
 subst q6
 have c2:=own_push R0 F2
 have u1:=own_tr R0 F2
 have v4:=Av (cs:=y3) (xs:=(g0.fm:List TUnit)) c2 L (own_cells u4)
 refine Az .plain rfl (Ba [vI 0,vI 0,vI 0,vN] c2) (fun v8 s0 d2 Y0=>?_)
 refine Bu [vI g0.fe,vI g0.fc,vI g0.fh,t0] d2 .hd (o4 rfl rfl rfl (St.o1 (α:=TUnit) d2 (.tl .hd))) (fun x8 s1 Z0=>?_)
 refine Aa<|Ae<|Ab rfl<|Ac (FV.rem8 (a:=a2) (b:=(2:UInt8)) rfl rfl (by decide)) ?_
 have U7:=(a2 % (2:UInt8)).toNat_lt
 refine Ac (FV.convN (i:=(a2 % (2:UInt8)).toNat) Tryz.underlying5 Tryz.underlying3 rfl (by omega))<|Af rfl<|Aa<|Ae<|Ac (AE rfl (s1.memA .hd))<|Ab rfl<|Ab rfl<|Ab rfl ?_
 have s5:=Ap v4 (Tt Y0 Z0)
 have d6:=AU (α:=TUnit) s1 (.tl .hd) s5 hL
 have G1:=Bk s1 (.tl .hd)
 have x1:=Bl s1 (.tl .hd)
 have F0:=Bm (α:=TUnit) (v:=t0) (xs:=g0.fm) G1 L d6
 obtain ⟨C0,I6,h⟩:=bi h
 have P5:=Tt u1 (Tt Y0 (Tt Z0 x1))
 have t5:=Aw W0 P5
 refine AQ (fst:=[]) (cap:=[]) .plain body15 rfl (e4 rfl rfl rfl rfl) (fun w9 hw9=>split_Pieces_c n _ w9 (G1.hL hL hw9) g0 (AH F0 hw9) q0.1 (AH t5 hw9) q0.2 (((a2 % (2:UInt8)).toNat:Nat):Int) I6) rfl (fun A8 c8 q4 ⟨R1,hu_,K1⟩=>?_)
 subst hu_
 obtain ⟨H1,J1⟩:=G1.agr q4
 refine Ab rfl<|Ac (Ak rfl rfl)<|Ac (Ak rfl rfl)<|Af rfl<|Af rfl<|Aa<|Ae<|Ac (AE rfl (H1.memA .hd))<|Ab rfl ?_
 obtain ⟨G0,J6,h⟩:=bi h
 have u5:=Aw F0 J1
 refine AQ (fst:=[]) (cap:=[]) .plain body22 rfl (e2 rfl rfl) (fun w9 hw9=>split_Parents_c n _ w9 (H1.hL hL hw9) g0 (AH u5 hw9) (((a2 % (2:UInt8)).toNat:Nat):Int) J6) rfl (fun B8 d8 s4 ⟨U1,hu_,M1⟩=>?_)
 subst hu_
 obtain ⟨I1,y1⟩:=H1.agr s4
 refine Ab rfl<|Ac (Ak rfl rfl)<|Ac (Ak rfl rfl)<|Af rfl<|Af rfl<|Aa<|Ae<|Ac (AE rfl (I1.memA .hd))<|Ab rfl ?_
 obtain ⟨F1,K6,h⟩:=bi h
 have v5:=Aw F0 (Tt J1 y1)
 refine AQ (fst:=[]) (cap:=[]) .plain body23 rfl (e2 rfl rfl) (fun w9 hw9=>split_People_c n _ w9 (I1.hL hL hw9) g0 (AH v5 hw9) (((a2 % (2:UInt8)).toNat:Nat):Int) K6) rfl (fun C8 g8 t4 ⟨V1,hu_,E2⟩=>?_)
 subst hu_
 obtain ⟨X0,V0⟩:=I1.agr t4
 refine Ab rfl<|Ac (Ak rfl rfl)<|Ac (Ak rfl rfl)<|Af rfl<|Af rfl<|Aa<|Ae<|Ac (AE rfl (X0.memA .hd))<|Ab rfl<|Ab rfl<|Ab rfl ?_
 obtain ⟨j0,M6,h⟩:=bi h
 have b1:=Tt J1 (Tt y1 V0)
 have x5:=Aw F0 b1
 have Q5:=Tt u1 (Tt Y0 (Tt Z0 (Tt x1 b1)))
 have y5:=Aw W0 Q5
 refine Bp (.tuple #[.agg #[vI j0.1.fx,vI j0.1.fv],vI j0.2]) body17 rfl (e4 rfl rfl rfl rfl) (fun w9 hw9=>split_Splits_c n _ w9 (X0.hL0 hL hw9) g0 (X0.kd x5 hw9) q0.1 (X0.kd y5 hw9) q0.2 (((a2 % (2:UInt8)).toNat:Nat):Int) M6) rfl<|Ab rfl<|Ac (Ak rfl rfl)<|Ac (Ak rfl rfl)<|Az .plain rfl (Ba [vI 0,vI 0] X0) (fun D8 p0 R3 v0=>?_)
 refine Bu [vI j0.1.fx,vI j0.1.fv] R3 .hd (onesB rfl) (fun W6 z0 x0=>?_)
 refine Af rfl<|Aa<|Aj<|Aj<|MX.join (α:=Bool) (fun c1=>[(7,Q1),(8,vI q0.2),(9,vP s0),(10,vI (((a2 % (2:UInt8)).toNat:Nat):Int)),(11,R1),(13,U1),(15,V1),(17,vP p0),(104,.bool c1)]) (fun c1 B1=>St w B1 [.cells p0 [vI j0.1.fx,vI j0.1.fv] 50,.cells s0 [vI g0.fe,vI g0.fc,vI g0.fh,t0] 38]∧Tr W6 [.cells p0 [vI j0.1.fx,vI j0.1.fv] 50,.cells s0 [vI g0.fe,vI g0.fc,vI g0.fh,t0] 38,.cells Q2 [.int .u8 (a1.fe.toNat:Int),.int .u8 (a1.fc.toNat:Int),.int .u8 (a1.fh.toNat:Int),.int .u8 (a1.fo.toNat:Int),v1_4] 27,.cells P2 [.int .u8 (a0.fN.toNat:Int),v0_1,v0_2,v0_3,.int .u8 (a0.fK.toNat:Int)] 25] B1 [.cells p0 [vI j0.1.fx,vI j0.1.fv] 50,.cells s0 [vI g0.fe,vI g0.fc,vI g0.fh,t0] 38]) (fun c1=>c1) h ?_ ?_
 rintro c1 B1 ⟨b2,K0⟩ h
 try dsimp only at h
 refine MX.ifb rfl h (fun R2 h=>?_) (fun R2 h=>?_)
 refine Ae<|Af rfl<|Aa<|Ao rfl<|AL hb0 Tryz.func4 rfl rfl ?_
 cases h
 exact b2.gv
 refine Am<|Ae<|Af rfl<|Af rfl<|Aa<|Aj<|Ae<|Ab rfl ?_
 have A2:=Tt y1 (Tt V0 (Tt v0 (Tt x0 K0)))
 have t2:=Aw K1 A2
 have J7:C0.1.length ≤ 281474976710656:=AO t2
 refine Ac (AZ (xs:=C0.1) Tryz.underlying32 rfl t2)<|Ab rfl<|Aa<|Au ?_
 obtain ⟨V7,z5,z1⟩:=thn_in h
 refine AW (α:=Int × Int × Nat) (fun ⟨M0,D0,k0⟩=>[(7,Q1),(8,vI q0.2),(9,vP s0),(10,vI (((a2 % (2:UInt8)).toNat:Nat):Int)),(13,U1),(15,V1),(17,vP p0),(19,vI M0),(20,vI D0),(105,R1),(106,vI ((C0.1.length:Nat):Int)),(107,vI ((k0:Nat):Int))]) (fun ⟨M0,D0,k0⟩ d1=>St w d1 [.cells p0 [vI j0.1.fx,vI j0.1.fv] 50,.cells s0 [vI g0.fe,vI g0.fc,vI g0.fh,t0] 38]∧Tr B1 [.cells p0 [vI j0.1.fx,vI j0.1.fv] 50,.cells s0 [vI g0.fe,vI g0.fc,vI g0.fh,t0] 38] d1 [.cells p0 [vI j0.1.fx,vI j0.1.fv] 50,.cells s0 [vI g0.fe,vI g0.fc,vI g0.fh,t0] 38]) (fun ⟨M0,D0,k0⟩=>(M0,D0,k0)) (0,0,0) z5 ⟨rfl,rfl,rfl,rfl,rfl,rfl,rfl,rfl,rfl,rfl,rfl,rfl,trivial⟩ ⟨b2,AA _ _⟩ ?_
 rintro q7 ⟨M0,D0,k0⟩ d1 Y1 ⟨p1,A0⟩ h
 unfold wardmotelaw23_SplitCounts_l2 at h
 try dsimp only at h
 refine Ae<|Ac (Bg (i:=k0) (j:=C0.1.length) rfl rfl)<|Aa<|Aj<|AM rfl h (fun V2 h=>?_) (fun V2 h=>?_)
 refine Am<|Aj<|Au<|Ae<|Ab rfl ?_
 obtain ⟨u0,u6,h⟩:=bi h
 have R4:=Aw K1 (Tt A2 A0)
 obtain ⟨b7,v7,x4,I4,t3,R5,Q4⟩:=AS R4 u6
 have y4:t3 = [vI u0]:=R5; subst y4
 refine Ac (AY 1 k0 rfl x4 rfl rfl I4)<|AN rfl (Q4 0 _ rfl)<|Af rfl<|Af rfl<|Aa<|Ae<|Ab rfl<|Ab rfl<|Ab rfl ?_
 obtain ⟨J2,v6,h⟩:=bi h
 have B5:=Tt v0 (Tt x0 (Tt K0 A0))
 have V4:=Aw E2 B5
 obtain ⟨c7,x7,z4,J4,u3,U5,U4⟩:=AS V4 v6
 have A4:u3 = [vI J2]:=U5; subst A4
 refine Ac (AY 1 k0 rfl z4 rfl rfl J4)<|AN rfl (U4 0 _ rfl) ?_
 obtain ⟨P1,g6,h⟩:=bi h
 refine Ac (By (i:=M0) (j:=J2) rfl rfl g6)<|Af rfl<|Aa<|Aj<|Ae<|Ab rfl<|Ac (FV.gtr (i:=u0) (j:=1) rfl rfl)<|Aa<|MX.join (α:=Int) (fun P0=>[(7,Q1),(8,vI q0.2),(9,vP s0),(10,vI (((a2 % (2:UInt8)).toNat:Nat):Int)),(13,U1),(15,V1),(17,vP p0),(19,vI P1),(20,vI P0),(105,R1),(106,vI ((C0.1.length:Nat):Int)),(107,vI ((k0:Nat):Int)),(21,vI ((k0:Nat):Int)),(22,vI u0)]) (fun P0 g1=>St w g1 [.cells p0 [vI j0.1.fx,vI j0.1.fv] 50,.cells s0 [vI g0.fe,vI g0.fc,vI g0.fh,t0] 38]∧Tr d1 [.cells p0 [vI j0.1.fx,vI j0.1.fv] 50,.cells s0 [vI g0.fe,vI g0.fc,vI g0.fh,t0] 38] g1 [.cells p0 [vI j0.1.fx,vI j0.1.fv] 50,.cells s0 [vI g0.fe,vI g0.fc,vI g0.fh,t0] 38]) (fun P0=>P0) h ?_ ?_
 rintro P0 g1 ⟨y0,U0⟩ h
 try dsimp only at h
 refine Aj<|dt 32 tb4_19 (fun c0 d0=>?_)
 refine Ai 0 1 c0 rfl d0 (fun _=>Ah rfl) rfl<|Ai 1 3 c0 rfl d0 (fun _=>FV.gtrN (i:=k0) (j:=0) rfl rfl) rfl<|Ai 2 7 c0 rfl d0 (fun _=>Ah rfl) rfl<|RD.ifd (s:=124) rfl h (fun W2 h=>?_) (fun W2 h=>?_)
 refine Bb 3 15 c0 rfl d0 (.yes rfl rfl) (fun _=>Ah rfl) rfl<|Bb 4 31 c0 rfl d0 (.yes rfl rfl) (fun _=>Ah rfl) rfl ?_
 obtain ⟨X1,x6,h⟩:=bi h
 have C5:=Tt V0 (Tt v0 (Tt x0 (Tt K0 (Tt A0 U0))))
 have v2:=Aw M1 C5
 obtain ⟨d7,y7,q2,s2,v3,V5,u2⟩:=AS v2 x6
 have B4:v3 = [vI X1]:=V5; subst B4
 refine Bb 5 63 c0 rfl d0 (.yes rfl rfl) (fun _=>AY 1 k0 rfl q2 rfl rfl s2) rfl<|RD.val (i:=6) (m' :=127) (W:=4294963200) (tk c0) rfl d0 (.yes rfl rfl) (AJ rfl (u2 0 _ rfl)) rfl<|Bb 7 255 c0 rfl d0 (.yes rfl rfl) (fun _=>Ah rfl) rfl<|Bb 8 511 c0 rfl d0 (.yes rfl rfl) (fun _=>Ah rfl) rfl<|Bb 9 1023 c0 rfl d0 (.yes rfl rfl) (fun _=>FV.subN (i:=k0) (j:=1) rfl rfl (by omega) (by omega)) rfl ?_
 obtain ⟨K2,y6,h⟩:=bi h
 obtain ⟨g7,z7,C4,K4,x3,W5,W4⟩:=AS v2 y6
 have D4:x3 = [vI K2]:=W5; subst D4
 refine Bb 10 2047 c0 rfl d0 (.yes rfl rfl) (fun _=>AY 1 (k0 - 1) rfl C4 rfl rfl K4) rfl<|RD.val (i:=11) (m' :=4095) (W:=4294963200) (tk c0) rfl d0 (.yes rfl rfl) (AJ rfl (W4 0 _ rfl)) rfl<|Bb 12 8191 c0 rfl d0 (.yes rfl rfl) (fun _=>FV.leq (i:=X1) (j:=K2) rfl rfl) rfl<|Ai 13 16383 c0 rfl d0 (fun _=>Bz rfl rfl) rfl<|Ai 14 32767 c0 rfl d0 (fun _=>Ah rfl) rfl<|RD.ifd (s:=136) rfl h (fun X2 h=>?_) (fun X2 h=>?_)
 refine Bo 2147483647 1 [(15,137),(16,138),(17,139),(18,140),(19,141),(20,142),(21,143),(22,144),(23,145),(24,146),(25,147),(26,148),(27,149),(28,150),(29,151),(30,152)] (F:=[(136,true)]) (U:=[]) c0 d0 (.cons rfl .nil) .nil ?_
 dsimp only [offS,List.map]
 refine Ai 31 4294967295 c0 rfl d0 (fun _=>Bz rfl rfl) rfl<|AX (dk c0)<|Bq rfl<|Ae<|Af rfl<|Aa ?_
 have h:=thn_inl h z1
 refine Ao rfl<|AL hb0 Tryz.func4 rfl rfl ?_
 cases h
 exact y0.gv
 refine Bb 15 65535 c0 rfl d0 (.yes rfl rfl) (fun _=>Ah rfl) rfl<|Bb 16 131071 c0 rfl d0 (.yes rfl rfl) (fun _=>FV.eql (i:=u0) (j:=1) rfl rfl) rfl<|RD.val (i:=18) (m' :=393215) (W:=4227858432) (tk c0) rfl d0 (.yes rfl rfl) (AE rfl (y0.memA (.tl .hd))) rfl<|Bb 19 917503 c0 rfl d0 (.yes rfl rfl) (fun _=>Ah rfl) rfl<|Bb 20 1966079 c0 rfl d0 (.yes rfl rfl) (fun _=>Ah rfl) rfl<|Bb 21 4063231 c0 rfl d0 (.yes rfl rfl) (fun _=>Ah rfl) rfl<|Bb 22 8257535 c0 rfl d0 (.yes rfl rfl) (fun _=>Ah rfl) rfl<|Bb 23 16646143 c0 rfl d0 (.yes rfl rfl) (fun _=>Ah rfl) rfl<|Bb 24 33423359 c0 rfl d0 (.yes rfl rfl) (fun _=>AY 1 k0 rfl q2 rfl rfl s2) rfl<|RD.val (i:=25) (m' :=66977791) (W:=4227858432) (tk c0) rfl d0 (.yes rfl rfl) (AJ rfl (u2 0 _ rfl)) rfl<|RD.cl 17 67108863 c0 rfl (.yes rfl rfl) body24 rfl (e1 rfl) (fun w9 hw9=>BC (wardmotelaw23_truth_c n _ w9 (y0.hL hL hw9) (decide (u0 = 1))) fun (w8:World) (u8:Value) ⟨b0_,hu_,s_⟩=>(⟨b0_,hu_,s_.from hw9⟩:∃ j1:Nat,u8 = Value.func (.func 57) #[] #[vP j1]∧St g1 w8 [.cells j1 [.bool (decide (u0 = 1))] 4])) rfl (fun s8 Z7 H7 ⟨j1,s6,G2⟩=>?_)
 subst s6
 have I0:=mk_push1 y0 G2
 have j2:=mk_tr1 y0 G2
 obtain ⟨D1,E6,h⟩:=bi h
 have B2:=Tt b1 (Tt v0 (Tt x0 (Tt K0 (Tt A0 (Tt U0 j2)))))
 have X4:=Aw F0 B2
 have D5:=Tt u1 (Tt Y0 (Tt Z0 (Tt x1 B2)))
 have Y4:=Aw W0 D5
 refine RD.callq (i:=26) (m' :=134217727) (W:=4160749568) (tk c0) rfl d0 (v:=.tuple #[.bool D1.1,vI D1.2]) (fst:=[]) (cap:=[]) (.yes rfl rfl) body19 rfl (e5 rfl rfl rfl rfl rfl) (fun w9 hw9=>split_Keeps_c n _ w9 (I0.hL0 hL hw9) g0 (I0.kd X4 hw9) q0.1 (I0.kd Y4 hw9) q0.2 (((a2 % (2:UInt8)).toNat:Nat):Int) X1 E6) rfl<|Bb 27 268435455 c0 rfl d0 (.yes rfl rfl) (fun _=>Ak rfl rfl) rfl<|Bb 28 536870911 c0 rfl d0 (.yes rfl rfl) (fun _=>Ak rfl rfl) rfl ?_
 obtain ⟨Y6,F6,h⟩:=bi h
 refine RD.callq (i:=29) (m' :=1073741823) (W:=3221225472) (tk c0) rfl d0 (v:=.bool Y6) (fst:=[]) (cap:=[vP j1]) (.yes rfl rfl) body57 rfl (e2 rfl rfl) (fun w9 hw9=>wardmotelaw23_truth_1_c n _ w9 (I0.hL0 hL hw9) D1.1 D1.2 (decide (u0 = 1)) (fun j9 v9 h9=>hw9.cell0 ((I0.memA .hd) j9 v9 h9)) F6) rfl<|Bb 30 2147483647 c0 rfl d0 (.yes rfl rfl) (fun _=>Be rfl) rfl<|Ai 31 4294967295 c0 rfl d0 (fun _=>AP rfl rfl) rfl<|AX (dk c0)<|MX.ifnb rfl h (fun Y2 h=>?_) (fun Y2 h=>?_)
 refine Am<|Aq<|Al<|Ac (AT (i:=k0) (j:=1) rfl rfl (by omega))<|Ab rfl<|Aa ?_
 obtain ⟨C3,U3⟩:=Ay I0 (.one (.tl .hd) (.one (.tl .hd) .done))
 have E5:=Tt U0 (Tt j2 U3)
 exact Y1 (P1,P0,k0 + 1) _ _ ⟨rfl,rfl,rfl,rfl,rfl,rfl,rfl,rfl,rfl,rfl,rfl,rfl,trivial⟩ ⟨C3,(Tt A0 E5)⟩ h
 refine Ae<|Af rfl<|Aa ?_
 have h:=thn_inl h z1
 refine Ao rfl<|AL hb0 Tryz.func4 rfl rfl ?_
 cases h
 exact I0.gv
 refine Bo 8191 19 [(3,125),(4,126),(5,127),(6,128),(7,129),(8,130),(9,131),(10,132),(11,133),(12,134)] (F:=[(124,false)]) (U:=[]) c0 d0 (.cons rfl .nil) .nil ?_
 dsimp only [offS,List.map]
 refine Ai 13 16383 c0 rfl d0 (fun _=>AP rfl rfl) rfl<|Ai 14 32767 c0 rfl d0 (fun _=>Ah rfl) rfl<|Bb 15 65535 c0 rfl d0 (.yes rfl rfl) (fun _=>Ah rfl) rfl<|Bb 16 131071 c0 rfl d0 (.yes rfl rfl) (fun _=>FV.eql (i:=u0) (j:=1) rfl rfl) rfl<|RD.val (i:=18) (m' :=393215) (W:=4227858432) (tk c0) rfl d0 (.yes rfl rfl) (AE rfl (y0.memA (.tl .hd))) rfl<|Bb 19 917503 c0 rfl d0 (.yes rfl rfl) (fun _=>Ah rfl) rfl<|Bb 20 1966079 c0 rfl d0 (.yes rfl rfl) (fun _=>Ah rfl) rfl<|Bb 21 4063231 c0 rfl d0 (.yes rfl rfl) (fun _=>Ah rfl) rfl<|Bb 22 8257535 c0 rfl d0 (.yes rfl rfl) (fun _=>Ah rfl) rfl<|Bb 23 16646143 c0 rfl d0 (.yes rfl rfl) (fun _=>Ah rfl) rfl ?_
 obtain ⟨M2,z6,h⟩:=bi h
 have F5:=Tt V0 (Tt v0 (Tt x0 (Tt K0 (Tt A0 U0))))
 have b5:=Aw M1 F5
 obtain ⟨j7,A7,E4,M4,z3,X5,Z4⟩:=AS b5 z6
 have F4:z3 = [vI M2]:=X5; subst F4
 refine Bb 24 33423359 c0 rfl d0 (.yes rfl rfl) (fun _=>AY 1 k0 rfl E4 rfl rfl M4) rfl<|RD.val (i:=25) (m' :=66977791) (W:=4227858432) (tk c0) rfl d0 (.yes rfl rfl) (AJ rfl (Z4 0 _ rfl)) rfl<|RD.cl 17 67108863 c0 rfl (.yes rfl rfl) body24 rfl (e1 rfl) (fun w9 hw9=>BC (wardmotelaw23_truth_c n _ w9 (y0.hL hL hw9) (decide (u0 = 1))) fun (w8:World) (u8:Value) ⟨b0_,hu_,s_⟩=>(⟨b0_,hu_,s_.from hw9⟩:∃ k1:Nat,u8 = Value.func (.func 57) #[] #[vP k1]∧St g1 w8 [.cells k1 [.bool (decide (u0 = 1))] 4])) rfl (fun t8 b8 I7 ⟨k1,t6,H2⟩=>?_)
 subst t6
 have J0:=mk_push1 y0 H2
 have k2:=mk_tr1 y0 H2
 obtain ⟨E1,G6,h⟩:=bi h
 have C2:=Tt b1 (Tt v0 (Tt x0 (Tt K0 (Tt A0 (Tt U0 k2)))))
 have c5:=Aw F0 C2
 have G5:=Tt u1 (Tt Y0 (Tt Z0 (Tt x1 C2)))
 have d5:=Aw W0 G5
 refine RD.callq (i:=26) (m' :=134217727) (W:=4160749568) (tk c0) rfl d0 (v:=.tuple #[.bool E1.1,vI E1.2]) (fst:=[]) (cap:=[]) (.yes rfl rfl) body19 rfl (e5 rfl rfl rfl rfl rfl) (fun w9 hw9=>split_Keeps_c n _ w9 (J0.hL0 hL hw9) g0 (J0.kd c5 hw9) q0.1 (J0.kd d5 hw9) q0.2 (((a2 % (2:UInt8)).toNat:Nat):Int) M2 G6) rfl<|Bb 27 268435455 c0 rfl d0 (.yes rfl rfl) (fun _=>Ak rfl rfl) rfl<|Bb 28 536870911 c0 rfl d0 (.yes rfl rfl) (fun _=>Ak rfl rfl) rfl ?_
 obtain ⟨Z6,H6,h⟩:=bi h
 refine RD.callq (i:=29) (m' :=1073741823) (W:=3221225472) (tk c0) rfl d0 (v:=.bool Z6) (fst:=[]) (cap:=[vP k1]) (.yes rfl rfl) body57 rfl (e2 rfl rfl) (fun w9 hw9=>wardmotelaw23_truth_1_c n _ w9 (J0.hL0 hL hw9) E1.1 E1.2 (decide (u0 = 1)) (fun j9 v9 h9=>hw9.cell0 ((J0.memA .hd) j9 v9 h9)) H6) rfl<|Bb 30 2147483647 c0 rfl d0 (.yes rfl rfl) (fun _=>Be rfl) rfl<|Ai 31 4294967295 c0 rfl d0 (fun _=>AP rfl rfl) rfl<|AX (dk c0)<|MX.ifnb rfl h (fun Z2 h=>?_) (fun Z2 h=>?_)
 refine Am<|Aq<|Al<|Ac (AT (i:=k0) (j:=1) rfl rfl (by omega))<|Ab rfl<|Aa ?_
 obtain ⟨D3,V3⟩:=Ay J0 (.one (.tl .hd) (.one (.tl .hd) .done))
 have H5:=Tt U0 (Tt k2 V3)
 exact Y1 (P1,P0,k0 + 1) _ _ ⟨rfl,rfl,rfl,rfl,rfl,rfl,rfl,rfl,rfl,rfl,rfl,rfl,trivial⟩ ⟨D3,(Tt A0 H5)⟩ h
 refine Ae<|Af rfl<|Aa ?_
 have h:=thn_inl h z1
 refine Ao rfl<|AL hb0 Tryz.func4 rfl rfl ?_
 cases h
 exact J0.gv
 intro s7 Z1 h
 try dsimp only at h
 refine AM rfl h (fun b3 h=>?_) (fun b3 h=>?_)
 refine Al<|Ab rfl ?_
 obtain ⟨P6,j6,h⟩:=bi h
 refine Ac (By (i:=D0) (j:=1) rfl rfl j6)<|Af rfl<|Aa ?_
 exact Z1 P6 _ _ ⟨rfl,rfl,rfl,rfl,rfl,rfl,rfl,rfl,rfl,rfl,rfl,rfl,rfl,rfl,trivial⟩ ⟨p1,AA _ _⟩ h
 refine Am ?_
 exact Z1 D0 _ _ ⟨rfl,rfl,rfl,rfl,rfl,rfl,rfl,rfl,rfl,rfl,rfl,rfl,rfl,rfl,trivial⟩ ⟨p1,AA _ _⟩ h
 refine AR rfl ?_
 have h:=thn_inr h z1
 try dsimp only at h
 refine Aj<|Ae<|Bf 3 rfl<|AN rfl ((p1.memA (.tl .hd)) 3 _ rfl) ?_
 have D2:=Tt b1 (Tt v0 (Tt x0 (Tt K0 A0)))
 have x2:=Aw F0 D2
 have M7:g0.fm.length ≤ 281474976710656:=AO x2
 refine Ac (AZ (xs:=g0.fm) Tryz.underlying36 rfl x2)<|Ab rfl<|Aa<|Au ?_
 obtain ⟨E3,W3⟩:=Ay p1 (.one .hd .done)
 obtain ⟨W7,A5,H4⟩:=bind_in2 h
 refine AW (α:=Int × Nat) (fun ⟨Q0,B0⟩=>[(17,vP p0),(19,vI Q0),(20,vI D0),(156,t0),(157,vI ((g0.fm.length:Nat):Int)),(158,vI ((B0:Nat):Int))]) (fun ⟨Q0,B0⟩ W1=>St w W1 [.cells p0 [vI j0.1.fx,vI j0.1.fv] 50]∧Tr d1 [.cells p0 [vI j0.1.fx,vI j0.1.fv] 50] W1 [.cells p0 [vI j0.1.fx,vI j0.1.fv] 50]) (fun ⟨Q0,B0⟩=>(Q0,B0)) (M0,0) A5 ⟨rfl,rfl,rfl,rfl,rfl,rfl,trivial⟩ ⟨E3,AA _ _⟩ ?_
 rintro t7 ⟨Q0,B0⟩ W1 A3 ⟨q1,p2⟩ h
 unfold wardmotelaw23_SplitCounts_l1 at h
 try dsimp only at h
 refine Ae<|Ac (Bg (i:=B0) (j:=g0.fm.length) rfl rfl)<|Aa<|Aj<|AM rfl h (fun c3 h=>?_) (fun c3 h=>?_)
 refine Am<|Aj<|Au<|Ae ?_
 obtain ⟨C1,A6,h⟩:=bi h
 have I5:=Tt D2 (Tt W3 p2)
 have j5:=Aw F0 I5
 obtain ⟨k7,B7,G4,P4,C7,Y5,g5⟩:=AS j5 A6
 obtain ⟨R6,U6,V6,rfl,Z5,b6,c6⟩:=op_TUnit Y5
 refine Ac (AY 6 B0 rfl G4 rfl rfl P4)<|Ac (AE rfl g5)<|Az .plain rfl (Ba [.string ⟨#[]⟩,vI 0,vN,vN,vN,.bool false] q1) (fun y8 u7 F3 v1=>?_)
 have k5:=Aw Z5 v1
 have p5:=Aw b6 v1
 have q5:=Aw c6 v1
 refine Bu [.string C1.ft,vI C1.fp,R6,U6,V6,.bool C1.fo] F3 .hd (o6 rfl rfl (BI k5) (BI p5) (BI q5) rfl) (fun z8 g2 X3=>?_)
 refine Aa<|Al<|Ab rfl<|Bf 1 rfl<|AN rfl ((g2.memA .hd) 1 _ rfl) ?_
 obtain ⟨Q6,k6,h⟩:=bi h
 refine Ac (FV.subc (i:=Q0) (j:=C1.fp) rfl rfl k6)<|Af rfl<|Aa<|Aq<|Al<|Ac (AT (i:=B0) (j:=1) rfl rfl (by omega))<|Ab rfl<|Aa ?_
 obtain ⟨G3,Y3⟩:=Ay g2 (.one (.tl .hd) .done)
 have J5:=Tt v1 (Tt X3 Y3)
 exact A3 (Q6,B0 + 1) _ _ ⟨rfl,rfl,rfl,rfl,rfl,rfl,trivial⟩ ⟨G3,(Tt p2 J5)⟩ h
 refine AR rfl ?_
 have h:=H4 _ h
 try dsimp only at h
 refine Ae<|Ab rfl<|Ac (FV.eql (i:=Q0) (j:=0) rfl rfl)<|Ab rfl<|Bx (s:=169) rfl h (fun d3 h=>?_) (fun d3 h=>?_)
 refine Ar (Ah rfl)<|RG.fg 0 rfl<|Ar (AJ rfl ((q1.memA .hd) 0 _ rfl))<|Ar (FV.eql (i:=D0) (j:=j0.1.fx) rfl rfl)<|AG rfl rfl<|Af rfl<|Aa<|Ao rfl<|AL hb0 Tryz.func4 rfl rfl ?_
 cases h
 exact q1.gv
 refine Ag<|Ag<|Ag<|Ag<|Bd rfl rfl<|Af rfl<|Aa<|Ao rfl<|AL hb0 Tryz.func4 rfl rfl ?_
 cases h
 exact q1.gv
 intro p7 H0 h
 try dsimp only at h
 refine Al<|Ab rfl<|Ac (Bs (i:=C0.2) (j:=0) rfl rfl)<|Ab rfl<|RG.ifn (s:=69) rfl h (fun g3 h=>?_) (fun g3 h=>?_)
 refine Ar (Ah rfl)<|Ar (Bs (i:=G0.2) (j:=0) rfl rfl)<|Bd rfl rfl<|Ab rfl<|RG.ifn (s:=73) rfl h (fun j3 h=>?_) (fun j3 h=>?_)
 refine Ar (Ah rfl)<|Ar (Bs (i:=F1.2) (j:=0) rfl rfl)<|Bd rfl rfl<|Ab rfl<|RG.ifn (s:=77) rfl h (fun k3 h=>?_) (fun k3 h=>?_)
 refine Ar (Ah rfl)<|Ar (Bs (i:=j0.2) (j:=0) rfl rfl)<|Bd rfl rfl<|Ab rfl<|RG.ifn (s:=81) rfl h (fun p3 h=>?_) (fun p3 h=>?_)
 refine Ar (Ah rfl) ?_
 have K5:=Tt y1 (Tt V0 (Tt v0 x0))
 have y2:=Aw K1 K5
 have P7:C0.1.length ≤ 281474976710656:=AO y2
 refine Ar (AZ (xs:=C0.1) Tryz.underlying32 rfl y2)<|Ar (Ah rfl) ?_
 have M5:=Tt V0 (Tt v0 x0)
 have A1:=Aw M1 M5
 have Q7:G0.1.length ≤ 281474976710656:=AO A1
 refine Ar (AZ (xs:=G0.1) Tryz.underlying32 rfl A1)<|Ar (FV.neqN (i:=C0.1.length) (j:=G0.1.length) rfl rfl)<|Bd rfl rfl<|Ab rfl<|RG.ifn (s:=88) rfl h (fun q3 h=>?_) (fun q3 h=>?_)
 refine Ar (Ah rfl) ?_
 have z2:=Aw E2 (Tt v0 x0)
 have R7:F1.1.length ≤ 281474976710656:=AO z2
 refine Ar (AZ (xs:=F1.1) Tryz.underlying32 rfl z2)<|Ar (Ah rfl)<|Ar (AZ (xs:=G0.1) Tryz.underlying32 rfl A1)<|Ar (FV.neqN (i:=F1.1.length) (j:=G0.1.length) rfl rfl)<|Bd rfl rfl<|Ab rfl<|RG.ifn (s:=95) rfl h (fun s3 h=>?_) (fun s3 h=>?_)
 refine RG.fg 1 rfl<|Ar (AJ rfl ((z0.memA .hd) 1 _ rfl))<|Ar (Ah rfl)<|Ar (AZ (xs:=G0.1) Tryz.underlying32 rfl A1)<|RG.fg 0 rfl<|Ar (AJ rfl ((z0.memA .hd) 0 _ rfl)) ?_
 obtain ⟨I2,p6,h⟩:=bi h
 refine Ar (By (i:=((G0.1.length:Nat):Int)) (j:=j0.1.fx) rfl rfl p6)<|Ar (FV.lss (i:=j0.1.fv) (j:=I2) rfl rfl)<|Bd rfl rfl<|Aa ?_
 obtain ⟨H3,Z3⟩:=Ay z0 (.one .hd (.one .hd .done))
 exact H0 (decide (j0.1.fv < I2)) _ _ ⟨rfl,rfl,rfl,rfl,rfl,rfl,rfl,rfl,rfl,trivial⟩ ⟨H3,Z3⟩ h
 refine Ag<|Ag<|Ag<|Ag<|Ag<|Ag<|Ag<|Ag<|AG rfl rfl<|Aa ?_
 obtain ⟨I3,b4⟩:=Ay z0 (.one .hd (.one .hd .done))
 exact H0 true _ _ ⟨rfl,rfl,rfl,rfl,rfl,rfl,rfl,rfl,rfl,trivial⟩ ⟨I3,b4⟩ h
 refine Ag<|Ag<|Ag<|Ag<|Ag<|AG rfl rfl<|Ab rfl<|Ag<|Ag<|Ag<|Ag<|Ag<|Ag<|Ag<|Ag<|AG rfl rfl<|Aa ?_
 obtain ⟨J3,c4⟩:=Ay z0 (.one .hd (.one .hd .done))
 exact H0 true _ _ ⟨rfl,rfl,rfl,rfl,rfl,rfl,rfl,rfl,rfl,trivial⟩ ⟨J3,c4⟩ h
 refine Ag<|Ag<|Ag<|Ag<|Ag<|AG rfl rfl<|Ab rfl<|Ag<|Ag<|Ag<|Ag<|Ag<|AG rfl rfl<|Ab rfl<|Ag<|Ag<|Ag<|Ag<|Ag<|Ag<|Ag<|Ag<|AG rfl rfl<|Aa ?_
 obtain ⟨K3,d4⟩:=Ay z0 (.one .hd (.one .hd .done))
 exact H0 true _ _ ⟨rfl,rfl,rfl,rfl,rfl,rfl,rfl,rfl,rfl,trivial⟩ ⟨K3,d4⟩ h
 refine Ag<|Ag<|AG rfl rfl<|Ab rfl<|Ag<|Ag<|Ag<|Ag<|Ag<|AG rfl rfl<|Ab rfl<|Ag<|Ag<|Ag<|Ag<|Ag<|AG rfl rfl<|Ab rfl<|Ag<|Ag<|Ag<|Ag<|Ag<|Ag ?_
 refine Ag<|Ag<|AG rfl rfl<|Aa ?_
 obtain ⟨M3,g4⟩:=Ay z0 (.one .hd (.one .hd .done))
 exact H0 true _ _ ⟨rfl,rfl,rfl,rfl,rfl,rfl,rfl,rfl,rfl,trivial⟩ ⟨M3,g4⟩ h
 refine Ag<|Ag<|AG rfl rfl<|Ab rfl<|Ag<|Ag<|AG rfl rfl<|Ab rfl<|Ag<|Ag<|Ag<|Ag<|Ag<|AG rfl rfl<|Ab rfl<|Ag<|Ag<|Ag<|Ag<|Ag<|AG rfl rfl<|Ab rfl<|Ag<|Ag ?_
 refine Ag<|Ag<|Ag<|Ag<|Ag<|Ag<|AG rfl rfl<|Aa ?_
 obtain ⟨P3,j4⟩:=Ay z0 (.one .hd (.one .hd .done))
 exact H0 true _ _ ⟨rfl,rfl,rfl,rfl,rfl,rfl,rfl,rfl,rfl,trivial⟩ ⟨P3,j4⟩ h
 refine Ag<|Ag<|AG rfl rfl<|Ab rfl<|Ag<|Ag<|AG rfl rfl<|Ab rfl<|Ag<|Ag<|AG rfl rfl<|Ab rfl<|Ag<|Ag<|Ag<|Ag<|Ag<|AG rfl rfl<|Ab rfl<|Ag<|Ag<|Ag<|Ag<|Ag ?_
 refine AG rfl rfl<|Ab rfl<|Ag<|Ag<|Ag<|Ag<|Ag<|Ag<|Ag<|Ag<|AG rfl rfl<|Aa ?_
 obtain ⟨Q3,k4⟩:=Ay z0 (.one .hd (.one .hd .done))
 exact H0 true _ _ ⟨rfl,rfl,rfl,rfl,rfl,rfl,rfl,rfl,rfl,trivial⟩ ⟨Q3,k4⟩ h
 refine Ae<|Af rfl<|Aa<|Ao rfl<|AL hb0 Tryz.func4 rfl rfl ?_
 cases h
 exact E0.gv
def slices_Clone_api_Plan_int_p (_n:Nat) (a0:List Int):Option (List Int):=
  nilCase a0 (some ([]:List Int)) ((app ([]:List Int) a0).bind fun b0=>some b0)
theorem slices_Clone_api_Plan_int_c (n:Nat) (L:List Nat) (w:World) (_hL:∀ b ∈ L,b < w.heap.size) (a0:List Int) {v0_0:Value} (h0_0:Rep.R w L [v0_0] a0)  {r:List Int} (h:slices_Clone_api_Plan_int_p n a0 = some r) :
    Calls Tryz.prog 25 #[v0_0] w (Gives w fun w' u=>∃ (v0_0:Value) (cs0_0:List Value),u = v0_0∧St w w' (rowsOf w.heap.size [(3,Rep.size Int,v0_0,r.length,cs0_0)])∧Cells w' (bl (rowsOf w.heap.size [(3,Rep.size Int,v0_0,r.length,cs0_0)]) ++ L) cs0_0 (r:List Int)):=by
 unfold slices_Clone_api_Plan_int_p at h
 have hS0:=AD w
 refine AI Tryz.func25 rfl rfl rfl (fun _ cs0 hb0=>?_)
 refine Ae<|Af rfl<|Aa<|Aj<|Ae<|Ab rfl ?_
 rcases Rep.nilOr h0_0 with ⟨c1,he3,hx4⟩ | ⟨ad2,c1,he3⟩
 have h:=nilCase_n h hx4
 refine Ac (FV.eqlNil1 Tryz.underlying33 rfl he3 rfl)<|Aa<|Bq rfl<|Ae<|Af rfl<|Aa<|Ao rfl ?_
 have b0:=hS0.nilRow 3 (Rep.size Int)
 have v0:=BF hS0 3 (Rep.size Int)
 have k0:=Av (cs:=[]) (xs:=([]:List Int)) b0 L (AC _ _)
 refine AB (u:=vN) hb0 Tryz.func25 rfl (.cons (.tmp rfl) .nil) rfl ?_
 cases h
 exact ⟨b0.ag,fun w9 hw9=>⟨vN,[],rfl,b0.agree hw9,Cells.keep0 k0 hw9⟩⟩
 have h:=nilCase_s h
 refine Ac (FV.eqlNil0 Tryz.underlying33 rfl he3 rfl)<|Aa<|Bv rfl<|Am<|Ae<|Az .plain rfl (AF (α:=Int) (xs:=([]:List Int)) (vs:=[]) (ds' :=[]) rfl hS0 el33 rfl evs_nil (by kernel_rfl) rfl) (fun z0 u0 c0 x0=>?_)
 have p0:=Av (cs:=[]) (xs:=(([]:List Int):List Int)) c0 L (AC _ _)
 refine Ab rfl ?_
 obtain ⟨B0,t0,h⟩:=bi h
 have s0:=Bn h0_0 c0
 refine RG.doesL .plain rfl (Bc (α:=Int) (ys:=a0) t0 c0 (fun _ _=>.hd) el33 rfl rfl p0 (Src.rep s0)) (fun g0 A0 ⟨j0,d0,y0,q0⟩=>?_)
 refine Af rfl<|Aa<|Ao rfl<|AB (u:=g0) hb0 Tryz.func25 rfl (.cons (.tmp rfl) .nil) rfl ?_
 cases h
 exact ⟨d0.ag,fun w9 hw9=>⟨g0,j0,rfl,d0.agree hw9,Cells.keep0 q0 hw9⟩⟩
def tb5_7:List (Nat × Nat × Nat):=[(0,281474976710656,4),(1,562949953421312,281474976710656),(0,1125899906842624,1024),(6,2251799813685248,1688849860263936),(0,4503599627370496,8),(16,9007199254740992,4503599627370496),(0,18014398509481984,1024),(96,36028797018963968,27021597764222976),(15,65536,2251799813685248),(511,131072,36028797018963968)]
def tb5_27:List (Nat × Nat × Nat):=[(0,5575186299632655785383929568162090376495104,8388608),(0,11150372599265311570767859136324180752990208,33554432),(3,22300745198530623141535718272648361505980416,16725558898897967356151788704486271129485312),(4,44601490397061246283071436545296723011960832,22300745198530623141535718272648361505980416),(0,89202980794122492566142873090593446023921664,4096),(0,178405961588244985132285746181186892047843328,33554432),(48,356811923176489970264571492362373784095686656,267608942382367477698428619271780338071764992),(64,713623846352979940529142984724747568191373312,356811923176489970264571492362373784095686656),(136,1427247692705959881058285969449495136382746624,758225336750041186812214421270044291203334144),(256,2854495385411919762116571938898990272765493248,1427247692705959881058285969449495136382746624),(512,5708990770823839524233143877797980545530986496,2854495385411919762116571938898990272773881856),(512,11417981541647679048466287755595961091061972992,2854495385411919762116571938898990272799047680),(3584,22835963083295358096932575511191922182123945984,19981467697883438334816003572292931909358452736),(4608,45671926166590716193865151022383844364247891968,25690458468707277859049147450090912454889439232),(512,91343852333181432387730302044767688728495783936,2854495385411919762116571938898990272765497344),(512,182687704666362864775460604089535377456991567872,2854495385411919762116571938898990272799047680),(49664,365375409332725729550921208179070754913983135744,276886052384956216925307478073202056458252845056),(66048,730750818665451459101842416358141509827966271488,368229904718137649313037780117969745186748628992),(131584,1461501637330902918203684832716283019655932542976,733605314050863378863958988297040500100731764736),(270848,2923003274661805836407369665432566039311865085952,1510028058882905554159666555677565854292945928192),(524800,5846006549323611672814739330865132078623730171904,2925857770047217756169486237371465029584630579200),(1049088,11692013098647223345629478661730264157247460343808,5846006549323611672814739330865132078623730171904),(2097152,23384026197294446691258957323460528314494920687616,11692013098647223345629478661730264157247468732416),(2097152,46768052394588893382517914646921056628989841375232,11692013098647223345629478661730264157247493898240),(14680064,93536104789177786765035829293842113257979682750464,81844091690530563419406350632111849100732222406656),(18874368,187072209578355573530071658587684226515959365500928,105228117887825010110665307955572377415227143094272),(35651584,374144419156711147060143317175368453031918731001856,198764222677002796875701137249414490673206825844736),(69206016,748288838313422294120286634350736906063837462003712,385836432255358370405772795837098717189166191345664)]
def tb5_30:List (Nat × Nat × Nat):=[(0,2993155353253689176481146537402947624255349848014848,4096),(1,5986310706507378352962293074805895248510699696029696,2993155353253689176481146537402947624255349848014848),(2,11972621413014756705924586149611790497021399392059392,5986310706507378352962293074805895248510699696029696),(0,23945242826029513411849172299223580994042798784118784,2048),(0,47890485652059026823698344598447161988085597568237568,512),(16,95780971304118053647396689196894323976171195136475136,47890485652059026823698344598447161988085597568237568),(32,191561942608236107294793378393788647952342390272950272,95780971304118053647396689196894323976171195136475136),(76,383123885216472214589586756787577295904684780545900544,215507185434265620706642550693012228946385189057069056),(128,766247770432944429179173513575154591809369561091801088,383123885216472214589586756787577295904684780545900544),(128,1532495540865888858358347027150309183618739122183602176,383123885216472214589586756787577295904684780545900544),(900,3064991081731777716716694054300618367237478244367204352,2310715932711848044243445126875075565925130082667462656),(2047,256,3064991081731777716716694054300618367237478244367204352)]
theorem body25:bodyB Tryz.prog 25 = true:=by kernel_rfl
def wardmotelaw23_SplitMerges_l1 (_n:Nat) (g0:(List Int) × Int) (p0:(List Int) × Int) (j0:Nat → Option (Bool ⊕ Unit)):Nat → Option (Bool ⊕ Unit)
  | b0=>(if b0 < g0.1.length then (g0.1[b0]?).bind fun c0=>(p0.1[b0]?).bind fun d0=>(if d0 < c0 then some (.inl false) else (chk (d0 - 1)).bind fun k0=>(if c0 < k0 then some (.inl false) else (if c0 < 1 then some (.inl false) else j0 (b0 + 1)))) else some (.inr ()))
def wardmotelaw23_SplitMerges_l2 (_n:Nat) (g0:(List Int) × Int) (j0:Int) (t0:Int) (p0:Nat × (List Int) × (List Int) → Option ((List Int) × (List Int))):Nat × (List Int) × (List Int) → Option ((List Int) × (List Int))
  | (b0,c0,k0)=>(if b0 < g0.1.length then (g0.1[b0]?).bind fun u0=>(chk (g0.2 - 1)).bind fun x0=>(chk (x0 - u0)).bind fun y0=>(k0[b0]?).bind fun _x386=>(put k0 ((b0:Nat):Int) y0).bind fun v0=>jn (fun d0=>(if j0 = t0 then p0 (b0 + 1,d0,v0) else (d0[b0]?).bind fun A0=>(chk (g0.2 - 1)).bind fun z0=>jn (fun B0=>p0 (b0 + 1,B0,v0)) (fun s0=>(if A0 = z0 then (put d0 ((b0:Nat):Int) j0).bind fun C0=>s0 C0 else s0 d0)))) (fun q0=>(if u0 = j0 then (c0[b0]?).bind fun _x472=>(put c0 ((b0:Nat):Int) t0).bind fun D0=>q0 D0 else q0 c0)) else some (k0,c0))
def wardmotelaw23_SplitMerges_p (n:Nat) (a0:TDraft) (a1:TDraft26) (a2:UInt8) (a3:UInt8):Option Bool:=
  (wardmotelaw23_works_p n).bind fun C0=>(if C0 = true then (wardmoteref21_Draft_Loose_p n a0).bind fun b0=>(wardmoteref22_Draft_Full_p n a1 ((b0.1.length:Nat):Int)).bind fun g0=>(split_Pieces_p n g0 b0.1 b0.2 (0:Int)).bind fun d0=>(slices_Clone_api_Plan_int_p n b0.1).bind fun D0=>(slices_Clone_api_Plan_int_p n b0.1).bind fun E0=>(remI ((a2.toNat:Nat):Int) b0.2).bind fun q0=>(remI ((a3.toNat:Nat):Int) b0.2).bind fun p0=>Option.bind (loopF (wardmotelaw23_SplitMerges_l2 n b0 q0 p0) n (0,E0,D0)) (fun (z0,y0)=>(split_Pieces_p n g0 z0 b0.2 (0:Int)).bind fun t0=>jn (fun F0=>(split_Pieces_p n g0 y0 F0 (0:Int)).bind fun j0=>jn (fun u0=>(if u0 = true then some false else thn (loopF (wardmotelaw23_SplitMerges_l1 n j0 d0) n 0) (fun _=>(mk ((b0.1.length:Nat):Int) (0:Int)).bind fun x0=>(split_Splits_p n g0 x0 (1:Int) (0:Int)).bind fun s0=>(wardmotelaw23_count_1_p n s0.1 s0.2 (0:Int) ((d0.1.length:Nat):Int)).bind fun A0=>some A0))) (fun c0=>(if d0.2 = 0 then (if t0.2 = 0 then (if j0.2 = 0 then (slices_Equal_int_int_p n d0.1 t0.1).bind fun B0=>(if B0 = true then c0 (!(decide (j0.1.length = d0.1.length))) else c0 true) else c0 true) else c0 true) else c0 true))) (fun k0=>(if q0 = p0 then k0 b0.2 else (chk (b0.2 - 1)).bind fun v0=>k0 v0))) else some false)
theorem wardmotelaw23_SplitMerges_c (n:Nat) (L:List Nat) (w:World) (hL:∀ b ∈ L,b < w.heap.size) (a0:TDraft) {v0_1:Value} (h0_1:Rep.R w L [v0_1] a0.fw) {v0_2:Value} (h0_2:Rep.R w L [v0_2] a0.fMore) {v0_3:Value} (h0_3:Rep.R w L [v0_3] a0.fE) (a1:TDraft26) {v1_4:Value} (h1_4:Rep.R w L [v1_4] a1.fF) (a2:UInt8) (a3:UInt8)  {r:Bool} (h:wardmotelaw23_SplitMerges_p n a0 a1 a2 a3 = some r) :
    Calls Tryz.prog 5 #[.agg #[.int .u8 (a0.fN.toNat:Int),v0_1,v0_2,v0_3,.int .u8 (a0.fK.toNat:Int)],.agg #[.int .u8 (a1.fe.toNat:Int),.int .u8 (a1.fc.toNat:Int),.int .u8 (a1.fh.toNat:Int),.int .u8 (a1.fo.toNat:Int),v1_4],.int .u8 (a2.toNat:Int),.int .u8 (a3.toNat:Int)] w (Gives w fun _ u=>u = .bool r):=by
 unfold wardmotelaw23_SplitMerges_p at h
 have hS0:=AD w
 refine AI Tryz.func5 rfl rfl rfl (fun _ cs0 hb0=>?_)
 refine Ae<|Az .plain rfl (AK hS0 rfl rfl) (fun w11 Y8 g5 u9=>?_)
 refine Az .plain rfl (AK g5 rfl rfl) (fun w16 Z8 V0 x9=>?_)
 refine Af rfl<|Aa<|Aj<|Ae ?_
 obtain ⟨J8,Y7,h⟩:=bi h
 refine Bp (.bool J8) body9 rfl evs_nil (fun w9 hw9=>wardmotelaw23_works_c n _ w9 (V0.hL0 hL hw9)  Y7) rfl<|Ac (Be rfl)<|Aa<|MX.ifnb rfl h (fun E4 h=>?_) (fun E4 h=>?_)
 refine Am<|Ae<|Ac (AE rfl (V0.memA (.tl .hd))) ?_
 obtain ⟨j0,Z7,h⟩:=bi h
 refine AQ (fst:=[]) (cap:=[]) .plain body10 rfl (e1 rfl) (fun w9 hw9=>wardmoteref21_Draft_Loose_c n _ w9 (V0.hL hL hw9) a0 (V0.km h0_1 hw9) (V0.km h0_2 hw9) (V0.km h0_3 hw9) Z7) rfl (fun w23 V9 y5 ⟨M0,hu_,X0⟩=>?_)
 subst hu_
 obtain ⟨s1,y9⟩:=V0.agr y5
 refine Ab rfl<|Ac (Ak rfl rfl)<|Ac (Ak rfl rfl)<|Af rfl<|Af rfl<|Aa<|Ae<|Ac (AE rfl (s1.memA .hd))<|Ab rfl ?_
 have E9:j0.1.length ≤ 281474976710656:=AO X0
 refine Ac (AZ (xs:=j0.1) Tryz.underlying33 rfl X0) ?_
 obtain ⟨c0,b8,h⟩:=bi h
 refine AQ (fst:=[]) (cap:=[]) .plain body11 rfl (e2 rfl rfl) (fun w9 hw9=>own_gives (b0:=w.heap.size) (wardmoteref22_Draft_Full_c n _ w9 (s1.hL hL hw9) a1 (s1.km h1_4 hw9) ((j0.1.length:Nat):Int) b8) hw9 (Nat.le_trans s1.ag.size hw9.size)) rfl (fun w32 W9 z9 ⟨p0,V4,E7,d4,E5⟩=>?_)
 subst E7
 have y3:=own_push s1 d4
 have F3:=own_tr s1 d4
 have F5:=Av (cs:=V4) (xs:=(c0.fm:List TUnit)) y3 L (own_cells E5)
 refine Az .plain rfl (Ba [vI 0,vI 0,vI 0,vN] y3) (fun w45 k0 z3 H2=>?_)
 refine Bu [vI c0.fe,vI c0.fc,vI c0.fh,p0] z3 .hd (o4 rfl rfl rfl (St.o1 (α:=TUnit) z3 (.tl .hd))) (fun w49 X1 I2=>?_)
 refine Aa<|Ae<|Ac (AE rfl (X1.memA .hd))<|Ab rfl<|Ab rfl ?_
 have C6:=Ap F5 (Tt H2 I2)
 have t7:=AU (α:=TUnit) X1 (.tl .hd) C6 hL
 have E2:=Bk X1 (.tl .hd)
 have H3:=Bl X1 (.tl .hd)
 have s2:=Bm (α:=TUnit) (v:=p0) (xs:=c0.fm) E2 L t7
 obtain ⟨t0,g8,h⟩:=bi h
 have Y2:=Tt F3 (Tt H2 (Tt I2 H3))
 have D6:=Aw X0 Y2
 refine AQ (fst:=[]) (cap:=[]) .plain body15 rfl (e4 rfl rfl rfl rfl) (fun w9 hw9=>split_Pieces_c n _ w9 (E2.hL hL hw9) c0 (AH s2 hw9) j0.1 (AH D6 hw9) j0.2 (0:Int) g8) rfl (fun w60 Z9 B5 ⟨y1,hu_,b3⟩=>?_)
 subst hu_
 obtain ⟨Z1,d2⟩:=E2.agr B5
 refine Ab rfl<|Ac (Ak rfl rfl)<|Ac (Ak rfl rfl)<|Af rfl<|Af rfl<|Aa<|Ae<|Ab rfl ?_
 obtain ⟨p3,j8,h⟩:=bi h
 have H6:=Aw X0 (Tt Y2 d2)
 refine AQ (fst:=[]) (cap:=[]) .plain body25 rfl (e1 rfl) (fun w9 hw9=>own_gives (b0:=w.heap.size) (slices_Clone_api_Plan_int_c n _ w9 (Z1.hL hL hw9) j0.1 (AH H6 hw9) j8) hw9 (Nat.le_trans Z1.ag.size hw9.size)) rfl (fun w69 u0 A9 ⟨R9,A2,F7,g4,J5⟩=>?_)
 subst F7
 have C1:=own_push Z1 g4
 have J1:=own_tr Z1 g4
 have K5:=Av (cs:=A2) (xs:=(p3:List Int)) C1 L (own_cells J5)
 refine Ab rfl ?_
 obtain ⟨q3,k8,h⟩:=bi h
 have Z2:=Tt Y2 (Tt d2 J1)
 have I6:=Aw X0 Z2
 refine AQ (fst:=[]) (cap:=[]) .plain body25 rfl (e1 rfl) (fun w9 hw9=>own_gives (b0:=w.heap.size) (slices_Clone_api_Plan_int_c n _ w9 (C1.hL hL hw9) j0.1 (AH I6 hw9) k8) hw9 (Nat.le_trans C1.ag.size hw9.size)) rfl (fun B8 s0 B9 ⟨U9,B2,G7,j4,M5⟩=>?_)
 subst G7
 have C3:=own_push C1 j4
 have k1:=own_tr C1 j4
 have P5:=Av (cs:=B2) (xs:=(q3:List Int)) C3 L (own_cells M5)
 refine Af rfl<|Af rfl<|Aa<|Aj<|dt 10 tb5_7 (fun A0 G0=>?_)
 refine Ai 0 1 A0 rfl G0 (fun _=>Ah rfl) rfl ?_
 have K9:=a2.toNat_lt
 refine Ai 1 3 A0 rfl G0 (fun _=>FV.convN (i:=a2.toNat) Tryz.underlying5 Tryz.underlying3 rfl (by omega)) rfl<|Ai 2 7 A0 rfl G0 (fun _=>Ah rfl) rfl ?_
 obtain ⟨v1,D7,h⟩:=bi h
 refine Ai 3 15 A0 rfl G0 (fun _=>FV.remc (i:=((a2.toNat:Nat):Int)) (j:=j0.2) rfl rfl D7) rfl<|Ai 4 31 A0 rfl G0 (fun _=>Ah rfl) rfl ?_
 have J9:=a3.toNat_lt
 refine Ai 5 63 A0 rfl G0 (fun _=>FV.convN (i:=a3.toNat) Tryz.underlying5 Tryz.underlying3 rfl (by omega)) rfl<|Ai 6 127 A0 rfl G0 (fun _=>Ah rfl) rfl ?_
 obtain ⟨M1,x7,h⟩:=bi h
 refine Ai 7 255 A0 rfl G0 (fun _=>FV.remc (i:=((a3.toNat:Nat):Int)) (j:=j0.2) rfl rfl x7) rfl<|Ai 8 511 A0 rfl G0 (fun _=>Bw rfl) rfl<|Ai 9 1023 A0 rfl G0 (fun _=>Bw rfl) rfl<|AX (dk A0)<|Aj<|Ae<|Ab rfl ?_
 have c6:=Aw X0 (Tt Z2 k1)
 refine Ac (AZ (xs:=j0.1) Tryz.underlying33 rfl c6)<|Ab rfl<|Aa<|Au ?_
 obtain ⟨p5,g1⟩:=Ay C3 (.one .hd (.one .hd (.one .hd .done)))
 have p6:=Ap P5 g1
 have q6:=Ap K5 (Tt k1 g1)
 obtain ⟨M9,J6,Z5⟩:=bind_in2 h
 refine AW (α:=Nat × (List Int) × (List Int) × (List Value) × (List Value)) (fun ⟨q0,x0,B0,y0,R0⟩=>[(9,M0),(10,vI j0.2),(11,vP k0),(12,y1),(13,vI t0.2),(14,u0),(15,s0),(16,vI v1),(17,vI M1),(56,M0),(57,vI ((j0.1.length:Nat):Int)),(58,vI ((q0:Nat):Int))]) (fun ⟨q0,x0,B0,y0,R0⟩ Q1=>St w Q1 [.row w.heap.size 3 (Rep.size Int) s0 x0.length y0,.row w.heap.size 3 (Rep.size Int) u0 B0.length R0,.cells k0 [vI c0.fe,vI c0.fc,vI c0.fh,p0] 38]∧Tr B8 [.row w.heap.size 3 (Rep.size Int) s0 q3.length B2,.row w.heap.size 3 (Rep.size Int) u0 p3.length A2,.cells k0 [vI c0.fe,vI c0.fc,vI c0.fh,p0] 38] Q1 [.row w.heap.size 3 (Rep.size Int) s0 x0.length y0,.row w.heap.size 3 (Rep.size Int) u0 B0.length R0,.cells k0 [vI c0.fe,vI c0.fc,vI c0.fh,p0] 38]∧Cells Q1 (bl [.row w.heap.size 3 (Rep.size Int) s0 x0.length y0,.row w.heap.size 3 (Rep.size Int) u0 B0.length R0,.cells k0 [vI c0.fe,vI c0.fc,vI c0.fh,p0] 38] ++ L) y0 x0∧Cells Q1 (bl [.row w.heap.size 3 (Rep.size Int) s0 x0.length y0,.row w.heap.size 3 (Rep.size Int) u0 B0.length R0,.cells k0 [vI c0.fe,vI c0.fc,vI c0.fh,p0] 38] ++ L) R0 B0) (fun ⟨q0,x0,B0,y0,R0⟩=>(q0,x0,B0)) (0,q3,p3,B2,A2) J6 ⟨rfl,rfl,rfl,rfl,rfl,rfl,rfl,rfl,rfl,rfl,rfl,rfl,trivial⟩ ⟨p5,AA _ _,p6,q6⟩ ?_
 rintro Q8 ⟨q0,x0,B0,y0,R0⟩ Q1 t3 ⟨d1,j1,K2,M2⟩ h
 unfold wardmotelaw23_SplitMerges_l2 at h
 try dsimp only at h
 refine Ae<|Ac (Bg (i:=q0) (j:=j0.1.length) rfl rfl)<|Aa<|Aj<|AM rfl h (fun F4 h=>?_) (fun F4 h=>?_)
 refine Am<|Aj<|Au<|Ae<|Ab rfl ?_
 obtain ⟨g3,H7,h⟩:=bi h
 have V6:=Tt Z2 (Tt k1 (Tt g1 j1))
 have t6:=Aw X0 V6
 obtain ⟨K8,b9,Q5,b6,R4,b7,s6⟩:=AS t6 H7
 have R5:R4 = [vI g3]:=b7; subst R5
 refine Ac (AY 1 q0 rfl Q5 rfl rfl b6)<|AN rfl (s6 0 _ rfl)<|Af rfl<|Af rfl<|Aa<|Ae<|Ab rfl<|Ab rfl<|Ab rfl ?_
 obtain ⟨q8,z7,h⟩:=bi h
 refine Ac (FV.subc (i:=j0.2) (j:=1) rfl rfl z7)<|Ab rfl ?_
 obtain ⟨Q9,A7,h⟩:=bi h
 refine Ac (FV.subc (i:=q8) (j:=g3) rfl rfl A7) ?_
 obtain ⟨D8,I7,h⟩:=bi h
 obtain ⟨s4,c9,P2,Q3,U4,c7,H9⟩:=St.nth (α:=Int) d1 (.tl .hd) M2 I7
 obtain ⟨v4,d9,J3⟩:=St.nthOwn (α:=Int) d1 (.tl .hd) Q3
 obtain rfl:s4 = ⟨v4,0,none⟩:=by rw [J3] at P2; cases P2; rfl
 have U5:U4 = [vI D8]:=c7; subst U5
 refine Ac (AY 1 q0 rfl P2 rfl rfl Q3) ?_
 obtain ⟨H0,Q7,h⟩:=bi h
 refine RG.acts' .plain (Acts.set (α:=Int) (i:=q0) Q7 d1 J3 (fun _=>(.tl .hd)) M2 rfl rfl rfl rfl rfl (by kernel_rfl)) (fun y8 ⟨D0,W1,b2,I3⟩=>?_)
 refine Aa<|Aj<|Ae<|Ab rfl<|Ab rfl<|Ac (FV.eql (i:=g3) (j:=v1) rfl rfl)<|Aa<|MX.join (α:=(List Int) × (List Value)) (fun ⟨C0,E0⟩=>[(9,M0),(10,vI j0.2),(11,vP k0),(12,y1),(13,vI t0.2),(14,u0),(15,s0),(16,vI v1),(17,vI M1),(56,M0),(57,vI ((j0.1.length:Nat):Int)),(58,vI ((q0:Nat):Int)),(18,vI ((q0:Nat):Int))]) (fun ⟨C0,E0⟩ R1=>St w R1 [.row w.heap.size 3 (Rep.size Int) s0 C0.length E0,.row w.heap.size 3 (Rep.size Int) u0 H0.length D0,.cells k0 [vI c0.fe,vI c0.fc,vI c0.fh,p0] 38]∧Tr y8 [.row w.heap.size 3 (Rep.size Int) s0 x0.length y0,.row w.heap.size 3 (Rep.size Int) u0 H0.length D0,.cells k0 [vI c0.fe,vI c0.fc,vI c0.fh,p0] 38] R1 [.row w.heap.size 3 (Rep.size Int) s0 C0.length E0,.row w.heap.size 3 (Rep.size Int) u0 H0.length D0,.cells k0 [vI c0.fe,vI c0.fc,vI c0.fh,p0] 38]∧Cells R1 (bl [.row w.heap.size 3 (Rep.size Int) s0 C0.length E0,.row w.heap.size 3 (Rep.size Int) u0 H0.length D0,.cells k0 [vI c0.fe,vI c0.fc,vI c0.fh,p0] 38] ++ L) E0 C0) (fun ⟨C0,E0⟩=>C0) h ?_ ?_
 rintro ⟨C0,E0⟩ R1 ⟨B1,c2,j2⟩ h
 try dsimp only at h
 refine Ae<|Ab rfl<|Ab rfl<|Ac (Bs (i:=v1) (j:=M1) rfl rfl)<|Ab rfl<|RG.ifn (s:=80) rfl h (fun G4 h=>?_) (fun G4 h=>?_)
 refine Ag<|Ag<|Ag<|Ag<|Ag<|Ag<|Ag<|Bd rfl rfl<|Aa<|Bv rfl<|Am<|Aq<|Al<|Ac (AT (i:=q0) (j:=1) rfl rfl (by omega))<|Ab rfl<|Aa ?_
 have u6:=Ap I3 c2
 exact t3 (q0 + 1,C0,H0,E0,D0) _ _ ⟨rfl,rfl,rfl,rfl,rfl,rfl,rfl,rfl,rfl,rfl,rfl,rfl,trivial⟩ ⟨B1,(Tt j1 (Tt b2 c2)),j2,u6⟩ h
 refine Ar (Ah rfl)<|Ar (Ah rfl) ?_
 obtain ⟨q4,J7,h⟩:=bi h
 obtain ⟨t4,g9,k2,U2,W4,d7,v6⟩:=St.nth (α:=Int) B1 .hd j2 J7
 obtain ⟨x4,k9,K3⟩:=St.nthOwn (α:=Int) B1 .hd U2
 obtain rfl:t4 = ⟨x4,0,none⟩:=by rw [K3] at k2; cases k2; rfl
 have V5:W4 = [vI q4]:=d7; subst V5
 refine Ar (AY 1 q0 rfl k2 rfl rfl U2)<|Ar (AJ rfl (v6 0 _ rfl))<|Ar (Ah rfl) ?_
 obtain ⟨s8,B7,h⟩:=bi h
 refine Ar (FV.subc (i:=j0.2) (j:=1) rfl rfl B7)<|Ar (FV.eql (i:=q4) (j:=s8) rfl rfl)<|AG rfl rfl<|Aa<|MX.join (α:=(List Int) × (List Value)) (fun ⟨P0,U0⟩=>[(9,M0),(10,vI j0.2),(11,vP k0),(12,y1),(13,vI t0.2),(14,u0),(15,s0),(16,vI v1),(17,vI M1),(56,M0),(57,vI ((j0.1.length:Nat):Int)),(58,vI ((q0:Nat):Int))]) (fun ⟨P0,U0⟩ v2=>St w v2 [.row w.heap.size 3 (Rep.size Int) s0 P0.length U0,.row w.heap.size 3 (Rep.size Int) u0 H0.length D0,.cells k0 [vI c0.fe,vI c0.fc,vI c0.fh,p0] 38]∧Tr R1 [.row w.heap.size 3 (Rep.size Int) s0 C0.length E0,.row w.heap.size 3 (Rep.size Int) u0 H0.length D0,.cells k0 [vI c0.fe,vI c0.fc,vI c0.fh,p0] 38] v2 [.row w.heap.size 3 (Rep.size Int) s0 P0.length U0,.row w.heap.size 3 (Rep.size Int) u0 H0.length D0,.cells k0 [vI c0.fe,vI c0.fc,vI c0.fh,p0] 38]∧Cells v2 (bl [.row w.heap.size 3 (Rep.size Int) s0 P0.length U0,.row w.heap.size 3 (Rep.size Int) u0 H0.length D0,.cells k0 [vI c0.fe,vI c0.fc,vI c0.fh,p0] 38] ++ L) U0 P0) (fun ⟨P0,U0⟩=>P0) h ?_ ?_
 rintro ⟨P0,U0⟩ v2 ⟨q5,G3,G5⟩ h
 try dsimp only at h
 refine Aq<|Al<|Ac (AT (i:=q0) (j:=1) rfl rfl (by omega))<|Ab rfl<|Aa ?_
 have x6:=Ap I3 (Tt c2 G3)
 have W6:=Tt b2 (Tt c2 G3)
 exact t3 (q0 + 1,P0,H0,U0,D0) _ _ ⟨rfl,rfl,rfl,rfl,rfl,rfl,rfl,rfl,rfl,rfl,rfl,rfl,trivial⟩ ⟨q5,(Tt j1 W6),G5,x6⟩ h
 intro U8 v3 h
 try dsimp only at h
 refine AM rfl h (fun H4 h=>?_) (fun H4 h=>?_)
 refine Al<|Ab rfl<|Ab rfl<|Ab rfl<|Ac (AY 1 q0 rfl k2 rfl rfl U2) ?_
 obtain ⟨F8,R7,h⟩:=bi h
 refine RG.acts' .plain (Acts.set (α:=Int) (i:=q0) R7 B1 K3 (fun _=>.hd) j2 rfl rfl rfl rfl rfl (by kernel_rfl)) (fun k00 ⟨X4,s5,v5,H5⟩=>?_)
 refine Aa ?_
 exact v3 (F8,X4) _ _ ⟨rfl,rfl,rfl,rfl,rfl,rfl,rfl,rfl,rfl,rfl,rfl,rfl,trivial⟩ ⟨s5,v5,H5⟩ h
 refine Am ?_
 exact v3 (C0,E0) _ _ ⟨rfl,rfl,rfl,rfl,rfl,rfl,rfl,rfl,rfl,rfl,rfl,rfl,trivial⟩ ⟨B1,AA _ _,j2⟩ h
 intro R8 u3 h
 try dsimp only at h
 refine AM rfl h (fun I4 h=>?_) (fun I4 h=>?_)
 refine Al<|Ab rfl<|Ab rfl<|Ab rfl ?_
 obtain ⟨E8,K7,h⟩:=bi h
 have V3:=Ap K2 b2
 obtain ⟨u4,p9,Q2,R3,Y4,g7,I9⟩:=St.nth (α:=Int) W1 .hd V3 K7
 obtain ⟨y4,q9,M3⟩:=St.nthOwn (α:=Int) W1 .hd R3
 obtain rfl:u4 = ⟨y4,0,none⟩:=by rw [M3] at Q2; cases Q2; rfl
 have W5:Y4 = [vI E8]:=g7; subst W5
 refine Ac (AY 1 q0 rfl Q2 rfl rfl R3) ?_
 obtain ⟨G8,U7,h⟩:=bi h
 refine RG.acts' .plain (Acts.set (α:=Int) (i:=q0) U7 W1 M3 (fun _=>.hd) V3 rfl rfl rfl rfl rfl (by kernel_rfl)) (fun p00 ⟨Z4,t5,x5,I5⟩=>?_)
 refine Aa ?_
 exact u3 (G8,Z4) _ _ ⟨rfl,rfl,rfl,rfl,rfl,rfl,rfl,rfl,rfl,rfl,rfl,rfl,rfl,trivial⟩ ⟨t5,x5,I5⟩ h
 refine Am ?_
 have y6:=Ap K2 b2
 exact u3 (x0,y0) _ _ ⟨rfl,rfl,rfl,rfl,rfl,rfl,rfl,rfl,rfl,rfl,rfl,rfl,rfl,trivial⟩ ⟨W1,AA _ _,y6⟩ h
 refine AR rfl ?_
 have h:=Z5 _ h
 try dsimp only at h
 refine Ae<|Ac (AE rfl (d1.memA (.tl (.tl .hd))))<|Ab rfl<|Ab rfl ?_
 have j7:=AU (α:=Int) d1 (.tl .hd) M2 hL
 have C2:=Bk d1 (.tl .hd)
 have D1:=Bl d1 (.tl .hd)
 have k7:=Bm (α:=Int) (v:=u0) (xs:=B0) C2 L j7
 obtain ⟨k3,c8,h⟩:=bi h
 have Z3:=Tt d2 (Tt J1 (Tt k1 (Tt g1 (Tt j1 D1))))
 have z6:=Aw s2 Z3
 refine AQ (fst:=[]) (cap:=[]) .plain body15 rfl (e4 rfl rfl rfl rfl) (fun w9 hw9=>split_Pieces_c n _ w9 (C2.hL hL hw9) c0 (AH z6 hw9) B0 (AH k7 hw9) j0.2 (0:Int) c8) rfl (fun z8 X9 z5 ⟨v8,hu_,p7⟩=>?_)
 subst hu_
 obtain ⟨A3,E1⟩:=C2.agr z5
 refine Ab rfl<|Ac (Ak rfl rfl)<|Ac (Ak rfl rfl)<|Af rfl<|Af rfl<|Aa<|Ae<|Ab rfl<|Af rfl<|Aa<|Aj<|Ae<|Ab rfl<|Ab rfl<|Ac (Bs (i:=v1) (j:=M1) rfl rfl)<|Aa<|MX.join (α:=Int) (fun z1=>[(9,M0),(11,vP k0),(12,y1),(13,vI t0.2),(15,s0),(20,v8),(21,vI k3.2),(22,vI z1)]) (fun z1 d3=>St w d3 [.row w.heap.size 3 (Rep.size Int) s0 x0.length y0,.cells k0 [vI c0.fe,vI c0.fc,vI c0.fh,p0] 38]∧Tr z8 [.row w.heap.size 3 (Rep.size Int) s0 x0.length y0,.cells k0 [vI c0.fe,vI c0.fc,vI c0.fh,p0] 38] d3 [.row w.heap.size 3 (Rep.size Int) s0 x0.length y0,.cells k0 [vI c0.fe,vI c0.fc,vI c0.fh,p0] 38]) (fun z1=>z1) h ?_ ?_
 rintro z1 d3 ⟨Y1,u1⟩ h
 try dsimp only at h
 refine Ae<|Ac (AE rfl (Y1.memA (.tl .hd)))<|Ab rfl<|Ab rfl ?_
 have X6:=Tt D1 (Tt E1 u1)
 have A6:=Ap K2 X6
 have q7:=AU (α:=Int) Y1 .hd A6 hL
 have D2:=Bk Y1 .hd
 have F1:=Bl Y1 .hd
 have s7:=Bm (α:=Int) (v:=s0) (xs:=x0) D2 L q7
 obtain ⟨Q0,d8,h⟩:=bi h
 have b4:=Tt Z3 (Tt E1 (Tt u1 F1))
 have B6:=Aw s2 b4
 refine AQ (fst:=[]) (cap:=[]) .plain body15 rfl (e4 rfl rfl rfl rfl) (fun w9 hw9=>split_Pieces_c n _ w9 (D2.hL hL hw9) c0 (AH B6 hw9) x0 (AH s7 hw9) z1 (0:Int) d8) rfl (fun A8 Y9 A5 ⟨k4,hu_,q2⟩=>?_)
 subst hu_
 obtain ⟨W0,G1⟩:=D2.agr A5
 refine Ab rfl<|Ac (Ak rfl rfl)<|Ac (Ak rfl rfl)<|Af rfl<|Af rfl<|Aa<|Aj<|Aj<|MX.join (α:=Bool) (fun K1=>[(9,M0),(11,vP k0),(12,y1),(23,k4),(136,.bool K1)]) (fun K1 x2=>St w x2 [.cells k0 [vI c0.fe,vI c0.fc,vI c0.fh,p0] 38]∧Tr A8 [.cells k0 [vI c0.fe,vI c0.fc,vI c0.fh,p0] 38] x2 [.cells k0 [vI c0.fe,vI c0.fc,vI c0.fh,p0] 38]) (fun K1=>K1) h ?_ ?_
 rintro K1 x2 ⟨B3,H1⟩ h
 try dsimp only at h
 refine MX.ifb rfl h (fun J4 h=>?_) (fun J4 h=>?_)
 refine Ae<|Af rfl<|Aa<|Ao rfl<|AL hb0 Tryz.func5 rfl rfl ?_
 cases h
 exact B3.gv
 refine Am<|Aj<|Ae<|Ab rfl ?_
 have W3:=Aw q2 H1
 have F9:Q0.1.length ≤ 281474976710656:=AO W3
 refine Ac (AZ (xs:=Q0.1) Tryz.underlying32 rfl W3)<|Ab rfl<|Aa<|Au ?_
 obtain ⟨P9,K6,p2⟩:=thn_in h
 refine AW (α:=Nat) (fun z0=>[(9,M0),(11,vP k0),(12,y1),(23,k4),(138,vI ((Q0.1.length:Nat):Int)),(139,vI ((z0:Nat):Int))]) (fun z0 U1=>St w U1 [.cells k0 [vI c0.fe,vI c0.fc,vI c0.fh,p0] 38]∧Tr x2 [.cells k0 [vI c0.fe,vI c0.fc,vI c0.fh,p0] 38] U1 [.cells k0 [vI c0.fe,vI c0.fc,vI c0.fh,p0] 38]) (fun z0=>z0) 0 K6 ⟨rfl,rfl,rfl,rfl,rfl,rfl,trivial⟩ ⟨B3,AA _ _⟩ ?_
 rintro X8 z0 U1 d5 ⟨K0,I1⟩ h
 unfold wardmotelaw23_SplitMerges_l1 at h
 try dsimp only at h
 refine Ae<|Ac (Bg (i:=z0) (j:=Q0.1.length) rfl rfl)<|Aa<|Aj<|AM rfl h (fun K4 h=>?_) (fun K4 h=>?_)
 refine Am<|Aj<|Au<|Ae<|Ab rfl<|Af rfl<|Aa<|Aj<|dt 28 tb5_27 (fun d0 g0=>?_)
 refine Ai 0 1 d0 rfl g0 (fun _=>Ah rfl) rfl<|Ai 1 3 d0 rfl g0 (fun _=>Ah rfl) rfl ?_
 obtain ⟨y2,M7,h⟩:=bi h
 have E6:=Aw q2 (Tt H1 I1)
 obtain ⟨M8,s9,R2,V2,b5,u7,X2⟩:=AS E6 M7
 have X5:b5 = [vI y2]:=u7; subst X5
 refine Ai 2 7 d0 rfl g0 (fun _=>AY 1 z0 rfl R2 rfl rfl V2) rfl<|AV 3 15 268435200 d0 rfl g0 (AJ rfl (X2 0 _ rfl)) rfl<|Ai 4 31 d0 rfl g0 (fun _=>Ah rfl) rfl<|Ai 5 63 d0 rfl g0 (fun _=>Ah rfl) rfl ?_
 obtain ⟨j3,P7,h⟩:=bi h
 have Y6:=Tt J1 (Tt k1 (Tt g1 (Tt j1 (Tt D1 (Tt E1 (Tt u1 (Tt F1 (Tt G1 (Tt H1 I1)))))))))
 have F6:=Aw b3 Y6
 obtain ⟨P8,t9,P3,U3,c5,v7,X3⟩:=AS F6 P7
 have Y5:c5 = [vI j3]:=v7; subst Y5
 refine Ai 6 127 d0 rfl g0 (fun _=>AY 1 z0 rfl P3 rfl rfl U3) rfl<|AV 7 255 268435200 d0 rfl g0 (AJ rfl (X3 0 _ rfl)) rfl<|Ai 8 511 d0 rfl g0 (fun _=>FV.gtr (i:=y2) (j:=j3) rfl rfl) rfl<|Ai 9 1023 d0 rfl g0 (fun _=>Ah rfl) rfl<|RD.ifd (s:=151) rfl h (fun M4 h=>?_) (fun M4 h=>?_)
 refine Bo 1048575 8 [(10,152),(11,153),(12,154),(13,155),(14,156),(15,157),(16,158),(17,159),(18,160),(19,161)] (F:=[(151,true)]) (U:=[]) d0 g0 (.cons rfl .nil) .nil ?_
 dsimp only [offS,List.map]
 refine Ai 20 2097151 d0 rfl g0 (fun _=>Bz rfl rfl) rfl<|Ai 21 4194303 d0 rfl g0 (fun _=>Ah rfl) rfl<|Bo 134217727 1 [(22,164),(23,165),(24,166),(25,167),(26,168)] (F:=[(163,true)]) (U:=[]) d0 g0 (.cons rfl .nil) .nil ?_
 dsimp only [offS,List.map]
 refine Ai 27 268435455 d0 rfl g0 (fun _=>Bz rfl rfl) rfl<|AX (dk d0)<|Bq rfl<|Ae<|Af rfl<|Aa ?_
 have h:=thn_inl h p2
 refine Ao rfl<|AL hb0 Tryz.func5 rfl rfl ?_
 cases h
 exact K0.gv
 refine Bb 10 2047 d0 rfl g0 (.yes rfl rfl) (fun _=>Ah rfl) rfl<|Bb 11 4095 d0 rfl g0 (.yes rfl rfl) (fun _=>Ah rfl) rfl<|Bb 12 8191 d0 rfl g0 (.yes rfl rfl) (fun _=>AY 1 z0 rfl R2 rfl rfl V2) rfl<|RD.val (i:=13) (m' :=16383) (W:=267911168) (tk d0) rfl g0 (.yes rfl rfl) (AJ rfl (X2 0 _ rfl)) rfl<|Bb 14 32767 d0 rfl g0 (.yes rfl rfl) (fun _=>Ah rfl) rfl<|Bb 15 65535 d0 rfl g0 (.yes rfl rfl) (fun _=>Ah rfl) rfl<|Bb 16 131071 d0 rfl g0 (.yes rfl rfl) (fun _=>AY 1 z0 rfl P3 rfl rfl U3) rfl<|RD.val (i:=17) (m' :=262143) (W:=268173312) (tk d0) rfl g0 (.yes rfl rfl) (AJ rfl (X3 0 _ rfl)) rfl ?_
 obtain ⟨t8,C7,h⟩:=bi h
 refine Bb 18 524287 d0 rfl g0 (.yes rfl rfl) (fun _=>FV.subc (i:=j3) (j:=1) rfl rfl C7) rfl<|Bb 19 1048575 d0 rfl g0 (.yes rfl rfl) (fun _=>FV.lss (i:=y2) (j:=t8) rfl rfl) rfl<|Ai 20 2097151 d0 rfl g0 (fun _=>AP rfl rfl) rfl<|Ai 21 4194303 d0 rfl g0 (fun _=>Ah rfl) rfl<|RD.ifd (s:=163) rfl h (fun P4 h=>?_) (fun P4 h=>?_)
 refine Bo 134217727 1 [(22,164),(23,165),(24,166),(25,167),(26,168)] (F:=[(163,true)]) (U:=[]) d0 g0 (.cons rfl .nil) .nil ?_
 dsimp only [offS,List.map]
 refine Ai 27 268435455 d0 rfl g0 (fun _=>Bz rfl rfl) rfl<|AX (dk d0)<|Bq rfl<|Ae<|Af rfl<|Aa ?_
 have h:=thn_inl h p2
 refine Ao rfl<|AL hb0 Tryz.func5 rfl rfl ?_
 cases h
 exact K0.gv
 refine Bb 22 8388607 d0 rfl g0 (.yes rfl rfl) (fun _=>Ah rfl) rfl<|Bb 23 16777215 d0 rfl g0 (.yes rfl rfl) (fun _=>Ah rfl) rfl<|Bb 24 33554431 d0 rfl g0 (.yes rfl rfl) (fun _=>AY 1 z0 rfl R2 rfl rfl V2) rfl<|RD.val (i:=25) (m' :=67108863) (W:=201326592) (tk d0) rfl g0 (.yes rfl rfl) (AJ rfl (X2 0 _ rfl)) rfl<|Bb 26 134217727 d0 rfl g0 (.yes rfl rfl) (fun _=>FV.lss (i:=y2) (j:=1) rfl rfl) rfl<|Ai 27 268435455 d0 rfl g0 (fun _=>AP rfl rfl) rfl<|AX (dk d0)<|AM rfl h (fun Q4 h=>?_) (fun Q4 h=>?_)
 refine Ae<|Af rfl<|Aa ?_
 have h:=thn_inl h p2
 refine Ao rfl<|AL hb0 Tryz.func5 rfl rfl ?_
 cases h
 exact K0.gv
 refine Am<|Aq<|Al<|Ac (AT (i:=z0) (j:=1) rfl rfl (by omega))<|Ab rfl<|Aa ?_
 exact d5 (z0 + 1) _ _ ⟨rfl,rfl,rfl,rfl,rfl,rfl,trivial⟩ ⟨K0,I1⟩ h
 refine AR rfl ?_
 have h:=thn_inr h p2
 try dsimp only at h
 refine Aj<|dt 12 tb5_30 (fun v0 F0=>?_)
 refine Ai 0 1 v0 rfl F0 (fun _=>Ah rfl) rfl ?_
 have c4:=Tt J1 (Tt k1 (Tt g1 (Tt j1 (Tt D1 (Tt E1 (Tt u1 (Tt F1 (Tt G1 (Tt H1 I1)))))))))
 have Y3:=Aw b3 c4
 have G9:t0.1.length ≤ 281474976710656:=AO Y3
 refine AV 1 3 3972 v0 rfl F0 (AZ (xs:=t0.1) Tryz.underlying32 rfl Y3) rfl<|AV 3 11 3968 v0 rfl F0 (AE rfl (K0.memA .hd)) rfl<|Ai 4 27 v0 rfl F0 (fun _=>Ah rfl) rfl ?_
 have Z6:=Tt F3 (Tt H2 (Tt I2 (Tt H3 (Tt d2 c4))))
 have G6:=Aw X0 Z6
 refine AV 5 59 4032 v0 rfl F0 (AZ (xs:=j0.1) Tryz.underlying33 rfl G6) rfl ?_
 obtain ⟨p1,t2,h⟩:=bi h
 refine RD.meet (α:=Value × (List Value) × Nat × Nat) (fun ⟨x1,q1,Y0,Z0⟩=>[(174,.agg #[vI c0.fe,vI c0.fc,vI c0.fh,p0]),(173,.func (.func 58) #[] #[vP Y0,vP Z0]),(177,x1)]) (fun ⟨x1,q1,Y0,Z0⟩ u2=>St w u2 [.row w.heap.size 3 (Rep.size Int) x1 p1.length q1,.cells Y0 [vI 0] 3,.cells Z0 [vI ((t0.1.length:Nat):Int)] 3]∧Tr U1 [.cells k0 [vI c0.fe,vI c0.fc,vI c0.fh,p0] 38] u2 [.row w.heap.size 3 (Rep.size Int) x1 p1.length q1,.cells Y0 [vI 0] 3,.cells Z0 [vI ((t0.1.length:Nat):Int)] 3]∧Cells u2 (bl [.row w.heap.size 3 (Rep.size Int) x1 p1.length q1,.cells Y0 [vI 0] 3,.cells Z0 [vI ((t0.1.length:Nat):Int)] 3] ++ L) q1 (p1:List Int)) 5 127 ?_ ?_
 rintro ⟨x1,q1,Y0,Z0⟩ u2 ⟨c1,u5,D5⟩
 try dsimp only
 obtain ⟨V1,V7,h⟩:=bi h
 have M6:=Tt b4 (Tt G1 (Tt H1 (Tt I1 u5)))
 have d6:=Aw s2 M6
 refine RD.cq 7 255 3840 (.tuple #[.agg #[vI V1.1.fx,vI V1.1.fv],vI V1.2]) v0 rfl F0 body17 rfl (e4 rfl rfl rfl rfl) (fun w9 hw9=>split_Splits_c n _ w9 (c1.hL0 hL hw9) c0 (c1.kd d6 hw9) p1 (AH (St.lend (α:=Int) (L:=L) c1 .hd D5 hL) hw9) (1:Int) (0:Int) V7) rfl<|Ai 8 511 v0 rfl F0 (fun _=>Ak rfl rfl) rfl<|Ai 9 1023 v0 rfl F0 (fun _=>Ak rfl rfl) rfl ?_
 obtain ⟨H8,W7,h⟩:=bi h
 refine RD.callq (i:=10) (m' :=2047) (W:=2048) (tk v0) rfl F0 (v:=.bool H8) (fst:=[]) (cap:=[vP Y0,vP Z0]) .plain body58 rfl (e2 rfl rfl) (fun w9 hw9=>wardmotelaw23_count_1_c n _ w9 (c1.hL0 hL hw9) V1.1 V1.2 (0:Int) (fun j9 v9 h9=>hw9.cell0 ((c1.memA (.tl .hd)) j9 v9 h9)) ((t0.1.length:Nat):Int) (fun j9 v9 h9=>hw9.cell0 ((c1.memA (.tl (.tl .hd))) j9 v9 h9)) W7) rfl<|Ai 11 4095 v0 rfl F0 (fun _=>Bw rfl) rfl<|AX (dk v0)<|Ao rfl<|AL hb0 Tryz.func5 rfl rfl ?_
 cases h
 exact c1.gv
 intro s3
 refine RD.each [2,6] (rk v0) ⟨?_,?_,trivial⟩
 refine RO.call (m' :=63) (fst:=[]) (cap:=[]) (sk v0) rfl .plain body26 rfl (e2 rfl rfl) (fun w9 hw9=>BC (wardmotelaw23_count_c n _ w9 (K0.hL hL hw9) (0:Int) ((t0.1.length:Nat):Int)) fun (w8:World) (u8:Value) ⟨b0_,b1_,hu_,s_⟩=>(⟨b0_,b1_,hu_,s_.from hw9⟩:∃ I0 J0:Nat,u8 = Value.func (.func 58) #[] #[vP I0,vP J0]∧St U1 w8 [.cells I0 [vI 0] 3,.cells J0 [vI ((t0.1.length:Nat):Int)] 3])) rfl (fun C8 x8 C5 ⟨I0,J0,c3,P1⟩=>?_)
 subst c3
 have F2:=mk_push2 K0 P1
 have g2:=mk_tr2 K0 P1
 refine RD.nu 6 127 v0 rfl .plain rfl (Does.mk (α:=Int) t2 F2 el33 rfl) (fun p4 z2 b1 G2=>?_)
 have J2:=Av (cs:=(List.replicate ((j0.1.length:Nat):Int).toNat [vI 0]).flatten) (xs:=p1) b1 L (Cells.mk t2 rfl)
 obtain ⟨j5,D3⟩:=Ay b1 (.one .hd (.one .hd (.one .hd .done)))
 have g6:=Ap J2 D3
 have P6:=Tt g2 (Tt G2 D3)
 exact s3 ((.slice (some ⟨z2,0,none⟩) ((j0.1.length:Nat):Int).toNat ((j0.1.length:Nat):Int).toNat),(List.replicate ((j0.1.length:Nat):Int).toNat [vI 0]).flatten,I0,J0) _ _ ⟨rfl,rfl,rfl,trivial⟩ ⟨j5,P6,g6⟩
 refine RO.new (m' :=123) (sk v0) rfl .plain rfl (Does.mk (α:=Int) t2 K0 el33 rfl) (fun p4 z2 b1 G2=>?_)
 have J2:=Av (cs:=(List.replicate ((j0.1.length:Nat):Int).toNat [vI 0]).flatten) (xs:=p1) b1 L (Cells.mk t2 rfl)
 refine RD.cl 2 127 v0 rfl .plain body26 rfl (e2 rfl rfl) (fun w9 hw9=>BC (wardmotelaw23_count_c n _ w9 (b1.hL hL hw9) (0:Int) ((t0.1.length:Nat):Int)) fun (w8:World) (u8:Value) ⟨b0_,b1_,hu_,s_⟩=>(⟨b0_,b1_,hu_,s_.from hw9⟩:∃ I0 J0:Nat,u8 = Value.func (.func 58) #[] #[vP I0,vP J0]∧St p4 w8 [.cells I0 [vI 0] 3,.cells J0 [vI ((t0.1.length:Nat):Int)] 3])) rfl (fun C8 x8 C5 ⟨I0,J0,c3,P1⟩=>?_)
 subst c3
 have F2:=mk_push2 b1 P1
 have g2:=mk_tr2 b1 P1
 obtain ⟨k5,E3⟩:=Ay F2 (.one (.tl (.tl .hd)) (.one .hd (.one .hd .done)))
 have j6:=Ap J2 (Tt g2 E3)
 have Q6:=Tt G2 (Tt g2 E3)
 exact s3 ((.slice (some ⟨z2,0,none⟩) ((j0.1.length:Nat):Int).toNat ((j0.1.length:Nat):Int).toNat),(List.replicate ((j0.1.length:Nat):Int).toNat [vI 0]).flatten,I0,J0) _ _ ⟨rfl,rfl,rfl,trivial⟩ ⟨k5,Q6,j6⟩
 intro W8 A1 h
 try dsimp only at h
 refine Al<|Ab rfl<|Ac (Bs (i:=t0.2) (j:=0) rfl rfl)<|Ab rfl<|RG.ifn (s:=116) rfl h (fun z4 h=>?_) (fun z4 h=>?_)
 refine Ar (Ah rfl)<|Ar (Bs (i:=k3.2) (j:=0) rfl rfl)<|Bd rfl rfl<|Ab rfl<|RG.ifn (s:=120) rfl h (fun A4 h=>?_) (fun A4 h=>?_)
 refine Ar (Ah rfl)<|Ar (Bs (i:=Q0.2) (j:=0) rfl rfl)<|Bd rfl rfl<|Ab rfl<|RG.ifn (s:=124) rfl h (fun B4 h=>?_) (fun B4 h=>?_)
 refine Ar (Ah rfl)<|Ar (Ah rfl) ?_
 obtain ⟨I8,X7,h⟩:=bi h
 have R6:=Tt J1 (Tt k1 (Tt g1 (Tt j1 (Tt D1 (Tt E1 (Tt u1 (Tt F1 G1)))))))
 have W2:=Aw b3 R6
 have U6:=Tt u1 (Tt F1 G1)
 have k6:=Aw p7 U6
 refine RG.callq' (v:=.bool I8) (fst:=[]) (cap:=[]) (.yes rfl rfl) body21 rfl (e2 rfl rfl) (fun w9 hw9=>slices_Equal_int_int_c n _ w9 (W0.hL0 hL hw9) t0.1 (W0.kd W2 hw9) k3.1 (W0.kd k6 hw9) X7) rfl<|Ar (Be rfl)<|Bd rfl rfl<|Ab rfl<|RG.ifnb (s:=130) rfl h (fun C4 h=>?_) (fun C4 h=>?_)
 refine Ar (Ah rfl) ?_
 have C9:Q0.1.length ≤ 281474976710656:=AO q2
 refine Ar (AZ (xs:=Q0.1) Tryz.underlying32 rfl q2)<|Ar (Ah rfl) ?_
 have D9:t0.1.length ≤ 281474976710656:=AO W2
 refine Ar (AZ (xs:=t0.1) Tryz.underlying32 rfl W2)<|Ar (FV.neqN (i:=Q0.1.length) (j:=t0.1.length) rfl rfl)<|Bd rfl rfl<|Aa ?_
 exact A1 (!(decide (Q0.1.length = t0.1.length))) _ _ ⟨rfl,rfl,rfl,rfl,rfl,trivial⟩ ⟨W0,AA _ _⟩ h
 refine Ag<|Ag<|Ag<|Ag<|Ag<|AG rfl rfl<|Aa ?_
 exact A1 true _ _ ⟨rfl,rfl,rfl,rfl,rfl,trivial⟩ ⟨W0,AA _ _⟩ h
 refine Ag<|Ag<|Ag<|Ag<|AG rfl rfl<|Ab rfl<|Ag<|Ag<|Ag<|Ag<|Ag<|AG rfl rfl<|Aa ?_
 exact A1 true _ _ ⟨rfl,rfl,rfl,rfl,rfl,trivial⟩ ⟨W0,AA _ _⟩ h
 refine Ag<|Ag<|AG rfl rfl<|Ab rfl<|Ag<|Ag<|Ag<|Ag<|AG rfl rfl<|Ab rfl<|Ag<|Ag<|Ag<|Ag<|Ag<|AG rfl rfl<|Aa ?_
 exact A1 true _ _ ⟨rfl,rfl,rfl,rfl,rfl,trivial⟩ ⟨W0,AA _ _⟩ h
 refine Ag<|Ag<|AG rfl rfl<|Ab rfl<|Ag<|Ag<|AG rfl rfl<|Ab rfl<|Ag<|Ag<|Ag<|Ag<|AG rfl rfl<|Ab rfl<|Ag<|Ag<|Ag<|Ag<|Ag<|AG rfl rfl<|Aa ?_
 exact A1 true _ _ ⟨rfl,rfl,rfl,rfl,rfl,trivial⟩ ⟨W0,AA _ _⟩ h
 intro V8 x3 h
 try dsimp only at h
 refine MX.ifn rfl h (fun D4 h=>?_) (fun D4 h=>?_)
 refine Am ?_
 exact x3 j0.2 _ _ ⟨rfl,rfl,rfl,rfl,rfl,rfl,rfl,rfl,trivial⟩ ⟨A3,AA _ _⟩ h
 refine Al<|Ab rfl ?_
 obtain ⟨p8,y7,h⟩:=bi h
 refine Ac (FV.subc (i:=j0.2) (j:=1) rfl rfl y7)<|Af rfl<|Aa ?_
 exact x3 p8 _ _ ⟨rfl,rfl,rfl,rfl,rfl,rfl,rfl,rfl,trivial⟩ ⟨A3,AA _ _⟩ h
 refine Ae<|Af rfl<|Aa<|Ao rfl<|AL hb0 Tryz.func5 rfl rfl ?_
 cases h
 exact V0.gv
def wardmoteref23_Parents_p (n:Nat) (a0:TRoll) (a1:Int):Option ((List Int) × Int):=
  (wardmoteref23_levelled_p n a0 a1).bind fun b0=>(if b0 = 0 then (wardmoteref23_list_p n a0 a1).bind fun c0=>some (c0,(0:Int)) else some (([]:List Int),b0))
theorem wardmoteref23_Parents_c (n:Nat) (L:List Nat) (w:World) (hL:∀ b ∈ L,b < w.heap.size) (a0:TRoll) {v0_3:Value} (h0_3:Rep.R w L [v0_3] a0.fm) (a1:Int)  {r:(List Int) × Int} (h:wardmoteref23_Parents_p n a0 a1 = some r) :
    Calls Tryz.prog 27 #[.agg #[vI a0.fe,vI a0.fc,vI a0.fh,v0_3],vI a1] w (Gives w fun w' u=>∃ v0_0:Value,u = .tuple #[v0_0,vI r.2]∧Rep.R w' L [v0_0] r.1):=by
 unfold wardmoteref23_Parents_p at h
 have hS0:=AD w
 refine AI Tryz.func27 rfl rfl rfl (fun _ cs0 hb0=>?_)
 refine Ae<|Az .plain rfl (AK hS0 rfl rfl) (fun A0 v0 b0 x0=>?_)
 refine Af rfl<|Af rfl<|Aa<|Aj<|Ae<|Ac (AE rfl (b0.memA .hd))<|Ab rfl ?_
 obtain ⟨d0,s0,h⟩:=bi h
 refine Bp (vI d0) body59 rfl (e2 rfl rfl) (fun w9 hw9=>wardmoteref23_levelled_c n _ w9 (b0.hL0 hL hw9) a0 (b0.k0 h0_3 hw9) a1 s0) rfl<|Af rfl<|Aa<|Ae<|Ab rfl<|Ac (Bs (i:=d0) (j:=0) rfl rfl)<|Aa<|MX.ifn rfl h (fun g0 h=>?_) (fun g0 h=>?_)
 refine Am<|Ae<|Ac (AE rfl (b0.memA .hd))<|Ab rfl ?_
 obtain ⟨C0,t0,h⟩:=bi h
 refine AQ (fst:=[]) (cap:=[]) .plain body48 rfl (e2 rfl rfl) (fun w9 hw9=>wardmoteref23_list_c n _ w9 (b0.hL hL hw9) a0 (b0.km h0_3 hw9) a1 t0) rfl (fun B0 u0 j0 ⟨z0,hu_,p0⟩=>?_)
 subst hu_
 obtain ⟨c0,y0⟩:=b0.agr j0
 refine Af rfl<|Af rfl<|Aa<|Ao rfl<|AB hb0 Tryz.func27 rfl (.cons (.tmp rfl) (.cons (.tmp rfl) .nil)) rfl ?_
 cases h
 exact ⟨c0.ag,fun w9 hw9=>⟨u0,rfl,c0.kd p0 hw9⟩⟩
 refine Ae<|Ab rfl<|Af rfl<|Af rfl<|Aa<|Ao rfl ?_
 have q0:=Bt (α:=Int) b0 L
 refine AB hb0 Tryz.func27 rfl (.cons (.tmp rfl) (.cons (.tmp rfl) .nil)) rfl ?_
 cases h
 exact ⟨b0.ag,fun w9 hw9=>⟨vN,rfl,b0.kd q0 hw9⟩⟩
def tb60_6:List (Nat × Nat × Nat):=[(0,1048576,128),(0,2097152,8),(2,4194304,2097152),(0,8388608,256),(0,16777216,512),(24,33554432,25165824),(32,67108864,33554432),(68,134217728,71303168),(128,268435456,134217728),(256,536870912,268435456),(513,1073741824,537919488),(2047,128,1073741824)]
def wardmoteref23_lived_l1 (_n:Nat) (c0:List Int) (a0:TRoll) (g0:Int × Nat → Option Int):Int × Nat → Option Int
  | (d0,b0)=>(if b0 < c0.length then (c0[b0]?).bind fun k0=>(idx a0.fm k0).bind fun p0=>(chk (d0 + p0.fp)).bind fun j0=>g0 (j0,b0 + 1) else some d0)
def wardmoteref23_lived_p (n:Nat) (a0:TRoll) (a1:Int) (a2:Int):Option Int:=
  (wardmoteref23_Units_p n a0 a1 a2).bind fun b0=>Option.bind (loopF (wardmoteref23_lived_l1 n b0 a0) n (0,0)) (fun c0=>some c0)
theorem wardmoteref23_lived_c (n:Nat) (L:List Nat) (w:World) (hL:∀ b ∈ L,b < w.heap.size) (a0:TRoll) {v0_3:Value} (h0_3:Rep.R w L [v0_3] a0.fm) (a1:Int) (a2:Int)  {r:Int} (h:wardmoteref23_lived_p n a0 a1 a2 = some r) :
    Calls Tryz.prog 60 #[.agg #[vI a0.fe,vI a0.fc,vI a0.fh,v0_3],vI a1,vI a2] w (Gives w fun _ u=>u = vI r):=by
 unfold wardmoteref23_lived_p at h
 have hS0:=AD w
 refine AI Tryz.func60 rfl rfl rfl (fun _ cs0 hb0=>?_)
 refine Ae<|Az .plain rfl (AK hS0 rfl rfl) (fun H1 j0 k0 v1=>?_)
 refine Af rfl<|Aa<|Ae<|Af rfl<|Aa<|Ae<|Ac (AE rfl (k0.memA .hd))<|Ab rfl<|Ab rfl ?_
 obtain ⟨t0,Z0,h⟩:=bi h
 refine AQ (fst:=[]) (cap:=[]) .plain body53 rfl (e3 rfl rfl rfl) (fun w9 hw9=>wardmoteref23_Units_c n _ w9 (k0.hL hL hw9) a0 (k0.km h0_3 hw9) a1 a2 Z0) rfl (fun d1 c1 B0 ⟨G1,hu_,U0⟩=>?_)
 subst hu_
 obtain ⟨A0,x1⟩:=k0.agr B0
 refine Af rfl<|Aa<|Aj<|Ae<|Af rfl<|Aa<|Au ?_
 obtain ⟨C1,P0,F0⟩:=bind_in2 h
 refine AW (α:=Int × Nat) (fun ⟨g0,d0⟩=>[(3,vP j0),(7,vI g0),(8,c1),(9,vI ((d0:Nat):Int))]) (fun ⟨g0,d0⟩ s0=>St w s0 [.cells j0 [vI a0.fe,vI a0.fc,vI a0.fh,v0_3] 38]∧Tr d1 [.cells j0 [vI a0.fe,vI a0.fc,vI a0.fh,v0_3] 38] s0 [.cells j0 [vI a0.fe,vI a0.fc,vI a0.fh,v0_3] 38]) (fun ⟨g0,d0⟩=>(g0,d0)) (0,0) P0 ⟨rfl,rfl,rfl,rfl,trivial⟩ ⟨A0,AA _ _⟩ ?_
 rintro p1 ⟨g0,d0⟩ s0 z0 ⟨p0,u0⟩ h
 unfold wardmoteref23_lived_l1 at h
 try dsimp only at h
 refine Aj<|Ae<|Ab rfl<|Ab rfl ?_
 have q0:=Aw U0 u0
 have y1:t0.length ≤ 281474976710656:=AO q0
 refine Ac (AZ (xs:=t0) Tryz.underlying32 rfl q0)<|Ac (Bg (i:=d0) (j:=t0.length) rfl rfl)<|Aa<|AM rfl h (fun x0 h=>?_) (fun x0 h=>?_)
 refine Am<|Aj<|Au<|dt 12 tb60_6 (fun b0 c0=>?_)
 refine Ai 0 1 b0 rfl c0 (fun _=>Ah rfl) rfl<|Ai 1 3 b0 rfl c0 (fun _=>Br 3 rfl) rfl<|AV 2 7 3968 b0 rfl c0 (AJ rfl ((p0.memA .hd) 3 _ rfl)) rfl<|Ai 3 15 b0 rfl c0 (fun _=>Ah rfl) rfl<|Ai 4 31 b0 rfl c0 (fun _=>Ah rfl) rfl ?_
 obtain ⟨v0,W0,h⟩:=bi h
 obtain ⟨j1,q1,C0,H0,y0,Q0,J0⟩:=AS q0 W0
 have D0:y0 = [vI v0]:=Q0; subst D0
 refine Ai 5 63 b0 rfl c0 (fun _=>AY 1 d0 rfl C0 rfl rfl H0) rfl<|AV 6 127 3968 b0 rfl c0 (AJ rfl (J0 0 _ rfl)) rfl ?_
 obtain ⟨g1,X0,h⟩:=bi h
 obtain ⟨G0,Y0⟩:=idx_in X0
 have M0:=Bn h0_3 p0
 obtain ⟨k1,s1,E0,I0,u1,R0,K0⟩:=AS M0 Y0
 obtain ⟨D1,E1,F1,rfl,z1,A1,B1⟩:=op_TUnit R0
 refine Ai 7 255 b0 rfl c0 (fun _=>AY 6 (v0.toNat) rfl E0 rfl G0 I0) rfl<|Ai 8 511 b0 rfl c0 (fun _=>Br 1 rfl) rfl<|AV 9 1023 3072 b0 rfl c0 (AJ rfl (K0 1 _ rfl)) rfl ?_
 obtain ⟨b1,V0,h⟩:=bi h
 refine Ai 10 2047 b0 rfl c0 (fun _=>By (i:=g0) (j:=g1.fp) rfl rfl V0) rfl<|Ai 11 4095 b0 rfl c0 (fun _=>Bw rfl) rfl<|AX (dk b0)<|Aq<|Al<|Ab rfl<|Ac (AT (i:=d0) (j:=1) rfl rfl (by omega))<|Af rfl<|Aa ?_
 exact z0 (b1,d0 + 1) _ _ ⟨rfl,rfl,rfl,rfl,trivial⟩ ⟨p0,u0⟩ h
 refine AR rfl ?_
 have h:=F0 _ h
 try dsimp only at h
 refine Ae<|Ab rfl<|Af rfl<|Aa<|Ao rfl<|AL hb0 Tryz.func60 rfl rfl ?_
 cases h
 exact p0.gv
def tb28_9:List (Nat × Nat × Nat):=[(0,33554432,256),(0,67108864,4),(0,134217728,2),(0,268435456,128),(0,536870912,512),(24,1073741824,805306368),(32,2147483648,1073741824),(70,4294967296,2348810240),(128,8589934592,4294967296),(385,17179869184,8623489024),(1023,256,17179869184)]
theorem body60:bodyB Tryz.prog 60 = true:=by kernel_rfl
def wardmoteref23_People_l1 (n:Nat) (d0:List Int) (a0:TRoll) (a1:Int) (g0:Nat × (List Int) → Option (List Int)):Nat × (List Int) → Option (List Int)
  | (b0,c0)=>(if b0 < d0.length then (d0[b0]?).bind fun j0=>(wardmoteref23_lived_p n a0 a1 j0).bind fun p0=>(app c0 ([p0]:List Int)).bind fun k0=>g0 (b0 + 1,k0) else some c0)
def wardmoteref23_People_p (n:Nat) (a0:TRoll) (a1:Int):Option ((List Int) × Int):=
  (wardmoteref23_levelled_p n a0 a1).bind fun b0=>(if b0 = 0 then (wardmoteref23_list_p n a0 a1).bind fun d0=>Option.bind (loopF (wardmoteref23_People_l1 n d0 a0 a1) n (0,([]:List Int))) (fun c0=>some (c0,(0:Int))) else some (([]:List Int),b0))
theorem wardmoteref23_People_c (n:Nat) (L:List Nat) (w:World) (hL:∀ b ∈ L,b < w.heap.size) (a0:TRoll) {v0_3:Value} (h0_3:Rep.R w L [v0_3] a0.fm) (a1:Int)  {r:(List Int) × Int} (h:wardmoteref23_People_p n a0 a1 = some r) :
    Calls Tryz.prog 28 #[.agg #[vI a0.fe,vI a0.fc,vI a0.fh,v0_3],vI a1] w (Gives w fun w' u=>∃ v0_0:Value,u = .tuple #[v0_0,vI r.2]∧Rep.R w' L [v0_0] r.1):=by
 unfold wardmoteref23_People_p at h
 have hS0:=AD w
 refine AI Tryz.func28 rfl rfl rfl (fun _ cs0 hb0=>?_)
 refine Ae<|Az .plain rfl (AK hS0 rfl rfl) (fun Y1 u0 c0 Q1=>?_)
 refine Af rfl<|Af rfl<|Aa<|Aj<|Ae<|Ac (AE rfl (c0.memA .hd))<|Ab rfl ?_
 obtain ⟨I0,D1,h⟩:=bi h
 refine Bp (vI I0) body59 rfl (e2 rfl rfl) (fun w9 hw9=>wardmoteref23_levelled_c n _ w9 (c0.hL0 hL hw9) a0 (c0.k0 h0_3 hw9) a1 D1) rfl<|Af rfl<|Aa<|Ae<|Ab rfl<|Ac (Bs (i:=I0) (j:=0) rfl rfl)<|Aa<|MX.ifn rfl h (fun K0 h=>?_) (fun K0 h=>?_)
 refine Am<|Ae<|Ac (AE rfl (c0.memA .hd))<|Ab rfl ?_
 obtain ⟨A0,E1,h⟩:=bi h
 refine AQ (fst:=[]) (cap:=[]) .plain body48 rfl (e2 rfl rfl) (fun w9 hw9=>wardmoteref23_list_c n _ w9 (c0.hL hL hw9) a0 (c0.km h0_3 hw9) a1 E1) rfl (fun H1 G1 X0 ⟨X1,hu_,z1⟩=>?_)
 subst hu_
 obtain ⟨B0,U1⟩:=c0.agr X0
 refine Af rfl<|Aa<|Ae<|Af rfl<|Aa<|Aj<|Ae<|Af rfl<|Aa<|Au ?_
 have C0:=B0.nilRow 3 (Rep.size Int)
 have W0:=BF B0 3 (Rep.size Int)
 have b1:=Av (cs:=[]) (xs:=([]:List Int)) C0 L (AC _ _)
 obtain ⟨W1,s1,g1⟩:=bind_in2 h
 refine AW (α:=Nat × (List Int) × Value × (List Value)) (fun ⟨d0,p0,j0,s0⟩=>[(1,vI a1),(2,vP u0),(7,G1),(8,j0),(9,vI ((d0:Nat):Int))]) (fun ⟨d0,p0,j0,s0⟩ v0=>St w v0 [.row w.heap.size 3 (Rep.size Int) j0 p0.length s0,.cells u0 [vI a0.fe,vI a0.fc,vI a0.fh,v0_3] 38]∧Tr H1 [.row w.heap.size 3 (Rep.size Int) vN (([]:List Int).length) [],.cells u0 [vI a0.fe,vI a0.fc,vI a0.fh,v0_3] 38] v0 [.row w.heap.size 3 (Rep.size Int) j0 p0.length s0,.cells u0 [vI a0.fe,vI a0.fc,vI a0.fh,v0_3] 38]∧Cells v0 (bl [.row w.heap.size 3 (Rep.size Int) j0 p0.length s0,.cells u0 [vI a0.fe,vI a0.fc,vI a0.fh,v0_3] 38] ++ L) s0 p0) (fun ⟨d0,p0,j0,s0⟩=>(d0,p0)) (0,([]:List Int),vN,[]) s1 ⟨rfl,rfl,rfl,rfl,rfl,trivial⟩ ⟨C0,AA _ _,b1⟩ ?_
 rintro K1 ⟨d0,p0,j0,s0⟩ v0 Q0 ⟨t0,D0,G0⟩ h
 unfold wardmoteref23_People_l1 at h
 try dsimp only at h
 refine Aj<|Ae<|Ab rfl<|Ab rfl ?_
 have z0:=Aw z1 (Tt W0 D0)
 have V1:A0.length ≤ 281474976710656:=AO z0
 refine Ac (AZ (xs:=A0) Tryz.underlying32 rfl z0)<|Ac (Bg (i:=d0) (j:=A0.length) rfl rfl)<|Aa<|AM rfl h (fun J0 h=>?_) (fun J0 h=>?_)
 refine Am<|Aj<|Au<|dt 9 tb28_9 (fun b0 g0=>?_)
 refine Ai 0 1 b0 rfl g0 (fun _=>Ah rfl) rfl<|AV 1 3 1920 b0 rfl g0 (AE rfl (t0.memA (.tl .hd))) rfl<|Ai 2 7 b0 rfl g0 (fun _=>Ah rfl) rfl<|Ai 3 15 b0 rfl g0 (fun _=>Ah rfl) rfl<|Ai 4 31 b0 rfl g0 (fun _=>Ah rfl) rfl ?_
 obtain ⟨H0,A1,h⟩:=bi h
 obtain ⟨J1,P1,c1,j1,M0,u1,k1⟩:=AS z0 A1
 have d1:M0 = [vI H0]:=u1; subst d1
 refine Ai 5 63 b0 rfl g0 (fun _=>AY 1 d0 rfl c1 rfl rfl j1) rfl<|AV 6 127 1920 b0 rfl g0 (AJ rfl (k1 0 _ rfl)) rfl ?_
 obtain ⟨q0,C1,h⟩:=bi h
 refine RD.cq 7 255 1792 (vI q0) b0 rfl g0 body60 rfl (e3 rfl rfl rfl) (fun w9 hw9=>wardmoteref23_lived_c n _ w9 (t0.hL0 hL hw9) a0 (t0.k0 h0_3 hw9) a1 H0 C1) rfl<|RD.nu 8 511 b0 rfl .plain rfl (AF (α:=Int) (xs:=([q0]:List Int)) (vs:=[vI q0]) (ds' :=[vI q0]) rfl t0 el32 rfl (e1 rfl) (by kernel_rfl) rfl) (fun Z1 M1 x0 E0=>?_)
 have Y0:=Av (cs:=[vI q0]) (xs:=(([q0]:List Int):List Int)) x0 L (Ax (cs:=[vI q0]) (ds:=[]) rfl (AC _ _))
 obtain ⟨I1,B1,h⟩:=bi h
 have p1:=Ap G0 E0
 refine RD.one (i:=9) (rk b0) (BD (m' :=1023) (sk b0) rfl rfl .plain rfl (Bc (α:=Int) (ys:=([q0]:List Int)) B1 x0 (fun _ _=>(.tl .hd)) el32 rfl rfl p1 (Src.row (α:=Int) x0 .hd Y0)) (fun F1 b2 ⟨P0,R0,V0,Z0⟩=>?_))
 refine Ai 10 2047 b0 rfl g0 (fun _=>Bw rfl) rfl<|AX (dk b0)<|Aq<|Al<|Ab rfl<|Ac (AT (i:=d0) (j:=1) rfl rfl (by omega))<|Af rfl<|Aa ?_
 obtain ⟨U0,F0⟩:=Ay R0 (.one (.tl .hd) (.one (.tl .hd) .done))
 have q1:=Ap Z0 F0
 have t1:=Tt E0 (Tt V0 F0)
 exact Q0 (d0 + 1,I1,F1,P0) _ _ ⟨rfl,rfl,rfl,rfl,rfl,trivial⟩ ⟨U0,(Tt D0 t1),q1⟩ h
 refine AR rfl ?_
 have h:=g1 _ h
 try dsimp only at h
 refine Ae<|Ab rfl<|Af rfl<|Af rfl<|Aa<|Ao rfl ?_
 have v1:=AU (α:=Int) t0 .hd G0 hL
 have y0:=Bk t0 .hd
 have R1:=Bl t0 .hd
 have x1:=Bm (α:=Int) (v:=j0) (xs:=p0) y0 L v1
 refine AB hb0 Tryz.func28 rfl (.cons (.tmp rfl) (.cons (.tmp rfl) .nil)) rfl ?_
 cases h
 exact ⟨y0.ag,fun w9 hw9=>⟨j0,rfl,y0.kd x1 hw9⟩⟩
 refine Ae<|Ab rfl<|Af rfl<|Af rfl<|Aa<|Ao rfl ?_
 have y1:=Bt (α:=Int) c0 L
 refine AB hb0 Tryz.func28 rfl (.cons (.tmp rfl) (.cons (.tmp rfl) .nil)) rfl ?_
 cases h
 exact ⟨c0.ag,fun w9 hw9=>⟨vN,rfl,c0.kd y1 hw9⟩⟩
def tb30_9:List (Nat × Nat × Nat):=[(0,134217728,8),(0,268435456,2),(0,536870912,512),(0,1073741824,2048),(12,2147483648,1610612736),(16,4294967296,2147483648),(35,8589934592,4697620480),(0,17179869184,4),(192,34359738368,25769803776)]
def wardmoteref23_Forced_l1 (n:Nat) (j0:List Int) (a0:TRoll) (a1:Int) (a2:Int) (d0:Nat × (List Int) → Option (List Int)):Nat × (List Int) → Option (List Int)
  | (b0,c0)=>(if b0 < j0.length then (j0[b0]?).bind fun g0=>(wardmoteref23_lived_p n a0 a1 g0).bind fun p0=>(if a2 < p0 then (app c0 ([g0]:List Int)).bind fun k0=>d0 (b0 + 1,k0) else d0 (b0 + 1,c0)) else some c0)
def wardmoteref23_Forced_p (n:Nat) (a0:TRoll) (a1:Int) (a2:Int):Option ((List Int) × Int):=
  (wardmoteref23_levelled_p n a0 a1).bind fun b0=>(if b0 = 0 then (wardmoteref23_list_p n a0 a1).bind fun d0=>Option.bind (loopF (wardmoteref23_Forced_l1 n d0 a0 a1 a2) n (0,([]:List Int))) (fun c0=>some (c0,(0:Int))) else some (([]:List Int),b0))
theorem wardmoteref23_Forced_c (n:Nat) (L:List Nat) (w:World) (hL:∀ b ∈ L,b < w.heap.size) (a0:TRoll) {v0_3:Value} (h0_3:Rep.R w L [v0_3] a0.fm) (a1:Int) (a2:Int)  {r:(List Int) × Int} (h:wardmoteref23_Forced_p n a0 a1 a2 = some r) :
    Calls Tryz.prog 30 #[.agg #[vI a0.fe,vI a0.fc,vI a0.fh,v0_3],vI a1,vI a2] w (Gives w fun w' u=>∃ v0_0:Value,u = .tuple #[v0_0,vI r.2]∧Rep.R w' L [v0_0] r.1):=by
 unfold wardmoteref23_Forced_p at h
 have hS0:=AD w
 refine AI Tryz.func30 rfl rfl rfl (fun _ cs0 hb0=>?_)
 refine Ae<|Az .plain rfl (AK hS0 rfl rfl) (fun Z1 u0 c0 R1=>?_)
 refine Af rfl<|Af rfl<|Aa<|Aj<|Ae<|Ac (AE rfl (c0.memA .hd))<|Ab rfl ?_
 obtain ⟨P0,E1,h⟩:=bi h
 refine Bp (vI P0) body59 rfl (e2 rfl rfl) (fun w9 hw9=>wardmoteref23_levelled_c n _ w9 (c0.hL0 hL hw9) a0 (c0.k0 h0_3 hw9) a1 E1) rfl<|Af rfl<|Aa<|Ae<|Ab rfl<|Ac (Bs (i:=P0) (j:=0) rfl rfl)<|Aa<|MX.ifn rfl h (fun U0 h=>?_) (fun U0 h=>?_)
 refine Am<|Ae<|Ac (AE rfl (c0.memA .hd))<|Ab rfl ?_
 obtain ⟨C0,F1,h⟩:=bi h
 refine AQ (fst:=[]) (cap:=[]) .plain body48 rfl (e2 rfl rfl) (fun w9 hw9=>wardmoteref23_list_c n _ w9 (c0.hL hL hw9) a0 (c0.km h0_3 hw9) a1 F1) rfl (fun I1 H1 c1 ⟨Y1,hu_,A1⟩=>?_)
 subst hu_
 obtain ⟨E0,V1⟩:=c0.agr c1
 refine Af rfl<|Aa<|Ae<|Af rfl<|Aa<|Aj<|Ae<|Af rfl<|Aa<|Au ?_
 have F0:=E0.nilRow 3 (Rep.size Int)
 have b1:=BF E0 3 (Rep.size Int)
 have j1:=Av (cs:=[]) (xs:=([]:List Int)) F0 L (AC _ _)
 obtain ⟨X1,t1,p1⟩:=bind_in2 h
 refine AW (α:=Nat × (List Int) × Value × (List Value)) (fun ⟨b0,j0,g0,s0⟩=>[(1,vI a1),(2,vI a2),(3,vP u0),(9,H1),(10,g0),(11,vI ((b0:Nat):Int))]) (fun ⟨b0,j0,g0,s0⟩ v0=>St w v0 [.row w.heap.size 3 (Rep.size Int) g0 j0.length s0,.cells u0 [vI a0.fe,vI a0.fc,vI a0.fh,v0_3] 38]∧Tr I1 [.row w.heap.size 3 (Rep.size Int) vN (([]:List Int).length) [],.cells u0 [vI a0.fe,vI a0.fc,vI a0.fh,v0_3] 38] v0 [.row w.heap.size 3 (Rep.size Int) g0 j0.length s0,.cells u0 [vI a0.fe,vI a0.fc,vI a0.fh,v0_3] 38]∧Cells v0 (bl [.row w.heap.size 3 (Rep.size Int) g0 j0.length s0,.cells u0 [vI a0.fe,vI a0.fc,vI a0.fh,v0_3] 38] ++ L) s0 j0) (fun ⟨b0,j0,g0,s0⟩=>(b0,j0)) (0,([]:List Int),vN,[]) t1 ⟨rfl,rfl,rfl,rfl,rfl,rfl,trivial⟩ ⟨F0,AA _ _,j1⟩ ?_
 rintro M1 ⟨b0,j0,g0,s0⟩ v0 D0 ⟨t0,z0,A0⟩ h
 unfold wardmoteref23_Forced_l1 at h
 try dsimp only at h
 refine Aj<|Ae<|Ab rfl<|Ab rfl ?_
 have B0:=Aw A1 (Tt b1 z0)
 have W1:C0.length ≤ 281474976710656:=AO B0
 refine Ac (AZ (xs:=C0) Tryz.underlying32 rfl B0)<|Ac (Bg (i:=b0) (j:=C0.length) rfl rfl)<|Aa<|AM rfl h (fun Q0 h=>?_) (fun Q0 h=>?_)
 refine Am<|Aj<|Au<|Aj<|dt 9 tb30_9 (fun d0 p0=>?_)
 refine AV 0 1 320 d0 rfl p0 (AE rfl (t0.memA (.tl .hd))) rfl<|Ai 1 3 d0 rfl p0 (fun _=>Ah rfl) rfl<|Ai 2 7 d0 rfl p0 (fun _=>Ah rfl) rfl<|Ai 3 15 d0 rfl p0 (fun _=>Ah rfl) rfl ?_
 obtain ⟨q0,B1,h⟩:=bi h
 obtain ⟨K1,Q1,I0,J0,V0,v1,K0⟩:=AS B0 B1
 have k1:V0 = [vI q0]:=v1; subst k1
 refine Ai 4 31 d0 rfl p0 (fun _=>AY 1 b0 rfl I0 rfl rfl J0) rfl<|AV 5 63 320 d0 rfl p0 (AJ rfl (K0 0 _ rfl)) rfl ?_
 obtain ⟨M0,D1,h⟩:=bi h
 refine RD.cq 6 127 256 (vI M0) d0 rfl p0 body60 rfl (e3 rfl rfl rfl) (fun w9 hw9=>wardmoteref23_lived_c n _ w9 (t0.hL0 hL hw9) a0 (t0.k0 h0_3 hw9) a1 q0 D1) rfl<|Ai 7 255 d0 rfl p0 (fun _=>Ah rfl) rfl<|Ai 8 511 d0 rfl p0 (fun _=>FV.gtr (i:=M0) (j:=a2) rfl rfl) rfl<|AX (dk d0)<|AM rfl h (fun R0 h=>?_) (fun R0 h=>?_)
 refine Al<|Ab rfl<|Ab rfl<|Ab rfl<|Ac (AY 1 b0 rfl I0 rfl rfl J0)<|AN rfl (K0 0 _ rfl)<|Az .plain rfl (AF (α:=Int) (xs:=([q0]:List Int)) (vs:=[vI q0]) (ds' :=[vI q0]) rfl t0 el32 rfl (e1 rfl) (by kernel_rfl) rfl) (fun b2 P1 x0 G0=>?_)
 have d1:=Av (cs:=[vI q0]) (xs:=(([q0]:List Int):List Int)) x0 L (Ax (cs:=[vI q0]) (ds:=[]) rfl (AC _ _))
 obtain ⟨J1,C1,h⟩:=bi h
 have q1:=Ap A0 G0
 refine RG.doesL .plain rfl (Bc (α:=Int) (ys:=([q0]:List Int)) C1 x0 (fun _ _=>(.tl .hd)) el32 rfl rfl q1 (Src.row (α:=Int) x0 .hd d1)) (fun G1 c2 ⟨W0,X0,Z0,g1⟩=>?_)
 refine Af rfl<|Aa<|Aq<|Al<|Ab rfl<|Ac (AT (i:=b0) (j:=1) rfl rfl (by omega))<|Af rfl<|Aa ?_
 obtain ⟨Y0,H0⟩:=Ay X0 (.one (.tl .hd) (.one (.tl .hd) .done))
 have s1:=Ap g1 H0
 have u1:=Tt G0 (Tt Z0 H0)
 exact D0 (b0 + 1,J1,G1,W0) _ _ ⟨rfl,rfl,rfl,rfl,rfl,rfl,trivial⟩ ⟨Y0,(Tt z0 u1),s1⟩ h
 refine Am<|Aq<|Al<|Ab rfl<|Ac (AT (i:=b0) (j:=1) rfl rfl (by omega))<|Af rfl<|Aa ?_
 exact D0 (b0 + 1,j0,g0,s0) _ _ ⟨rfl,rfl,rfl,rfl,rfl,rfl,trivial⟩ ⟨t0,z0,A0⟩ h
 refine AR rfl ?_
 have h:=p1 _ h
 try dsimp only at h
 refine Ae<|Ab rfl<|Af rfl<|Af rfl<|Aa<|Ao rfl ?_
 have x1:=AU (α:=Int) t0 .hd A0 hL
 have y0:=Bk t0 .hd
 have U1:=Bl t0 .hd
 have y1:=Bm (α:=Int) (v:=g0) (xs:=j0) y0 L x1
 refine AB hb0 Tryz.func30 rfl (.cons (.tmp rfl) (.cons (.tmp rfl) .nil)) rfl ?_
 cases h
 exact ⟨y0.ag,fun w9 hw9=>⟨g0,rfl,y0.kd y1 hw9⟩⟩
 refine Ae<|Ab rfl<|Af rfl<|Af rfl<|Aa<|Ao rfl ?_
 have z1:=Bt (α:=Int) c0 L
 refine AB hb0 Tryz.func30 rfl (.cons (.tmp rfl) (.cons (.tmp rfl) .nil)) rfl ?_
 cases h
 exact ⟨c0.ag,fun w9 hw9=>⟨vN,rfl,c0.kd z1 hw9⟩⟩
def tb31_11:List (Nat × Nat × Nat):=[(0,17592186044416,256),(1,35184372088832,17592186044416),(2,70368744177664,35184372088832),(0,140737488355328,2048),(12,281474976710656,211106232532992),(16,562949953421312,281474976710656),(32,1125899906842624,562949953421312),(0,2251799813685248,32),(192,4503599627370496,3377699720527872),(256,9007199254740992,4503599627370496),(1023,32768,9007199254740992)]
def split_Nested_l1 (_n:Nat) (p0:Tview × Int) (a2:Int) (g0:Nat × (List (Int × Int)) → Option ((Bool × Int) ⊕ Unit)):Nat × (List (Int × Int)) → Option ((Bool × Int) ⊕ Unit)
  | (c0,b0)=>(if c0 < p0.1.fj.fm.length then (p0.1.fj.fm[c0]?).bind fun j0=>(if j0.fo = true then g0 (c0 + 1,b0) else (idx j0.fw p0.1.fu).bind fun d0=>(idx j0.fw a2).bind fun k0=>(if (mget b0 d0).isSome = true then (if (mgetD b0 d0 (0:Int)) = k0 then g0 (c0 + 1,mset b0 d0 k0) else some (.inl (false,(0:Int)))) else g0 (c0 + 1,mset b0 d0 k0))) else some (.inr ()))
def split_Nested_p (n:Nat) (a0:TRoll) (a1:Int) (a2:Int):Option (Bool × Int):=
  (split_seen_p n a0 a1).bind fun b0=>jn (fun d0=>(if d0 = 0 then thn (loopF (split_Nested_l1 n b0 a2) n (0,([]:List (Int × Int)))) (fun _=>some (true,(0:Int))) else some (false,d0))) (fun c0=>(if b0.2 = 0 then (split_seen_p n a0 a2).bind fun g0=>c0 g0.2 else c0 b0.2))
theorem split_Nested_c (n:Nat) (L:List Nat) (w:World) (hL:∀ b ∈ L,b < w.heap.size) (a0:TRoll) {v0_3:Value} (h0_3:Rep.R w L [v0_3] a0.fm) (a1:Int) (a2:Int)  {r:Bool × Int} (h:split_Nested_p n a0 a1 a2 = some r) :
    Calls Tryz.prog 31 #[.agg #[vI a0.fe,vI a0.fc,vI a0.fh,v0_3],vI a1,vI a2] w (Gives w fun _ u=>u = .tuple #[.bool r.1,vI r.2]):=by
 unfold split_Nested_p at h
 have hS0:=AD w
 refine AI Tryz.func31 rfl rfl rfl (fun _ cs0 hb0=>?_)
 refine Ae<|Az .plain rfl (AK hS0 rfl rfl) (fun U5 z1 I1 V4=>?_)
 refine Az .plain rfl (AK I1 rfl rfl) (fun V5 u0 J1 W4=>?_)
 refine Az .plain rfl (Ba [.bool false] J1) (fun W5 v0 K1 X4=>?_)
 refine Az .plain rfl (Ba [vI 0] K1) (fun X5 x0 H0 Y4=>?_)
 refine Aa<|Ae<|Ac (AE rfl (H0.memA (.tl (.tl (.tl .hd)))))<|Ab rfl ?_
 obtain ⟨b0,p4,h⟩:=bi h
 refine AQ (fst:=[]) (cap:=[]) .plain body54 rfl (e2 rfl rfl) (fun w9 hw9=>split_seen_c n _ w9 (H0.hL hL hw9) a0 (H0.km h0_3 hw9) a1 p4) rfl (fun Y5 P5 Z2 ⟨g0,hu_,G0⟩=>?_)
 subst hu_
 obtain ⟨P1,Z4⟩:=H0.agr Z2
 refine Ab rfl<|Ac (Ak rfl rfl)<|Ac (Ak rfl rfl)<|Az .plain rfl (Ba [vI 0,vI 0,vI 0,vN,vI 0] P1) (fun d6 y0 V1 p1=>?_)
 have I3:=Aw G0 p1
 refine Bu [vI b0.1.fj.fe,vI b0.1.fj.fc,vI b0.1.fj.fh,g0,vI b0.1.fu] V1 .hd (o5 rfl rfl rfl (BI I3) rfl) (fun x4 C0 K2=>?_)
 refine Af rfl<|Aa<|Aj<|Ae<|Ab rfl<|Ac (FV.eql (i:=b0.2) (j:=0) rfl rfl)<|Aa<|MX.join (α:=Int) (fun A0=>[(5,vP u0),(6,vP v0),(7,vP x0),(8,vP y0),(9,vI A0)]) (fun A0 b1=>St w b1 [.cells y0 [vI b0.1.fj.fe,vI b0.1.fj.fc,vI b0.1.fj.fh,g0,vI b0.1.fu] 97,.cells x0 [vI 0] 46,.cells v0 [.bool false] 4,.cells u0 [vI a2] 3]∧Tr x4 [.cells y0 [vI b0.1.fj.fe,vI b0.1.fj.fc,vI b0.1.fj.fh,g0,vI b0.1.fu] 97,.cells x0 [vI 0] 46,.cells v0 [.bool false] 4,.cells u0 [vI a2] 3,.cells z1 [vI a0.fe,vI a0.fc,vI a0.fh,v0_3] 38] b1 [.cells y0 [vI b0.1.fj.fe,vI b0.1.fj.fc,vI b0.1.fj.fh,g0,vI b0.1.fu] 97,.cells x0 [vI 0] 46,.cells v0 [.bool false] 4,.cells u0 [vI a2] 3]) (fun A0=>A0) h ?_ ?_
 rintro A0 b1 ⟨j1,R2⟩ h
 try dsimp only at h
 refine Aj<|Ae<|Ab rfl<|Ac (Bs (i:=A0) (j:=0) rfl rfl)<|Aa<|MX.ifn rfl h (fun F1 h=>?_) (fun F1 h=>?_)
 refine Am<|Ae<|Az .plain rfl (Does.makeMap (κ:=Int) (ν:=Int) j1) (fun E6 z0 A2 U2=>?_)
 refine Az .plain rfl (Ba [.map none] A2) (fun F6 M0 B2 V2=>?_)
 refine Bu [.map (some z0)] B2 .hd (o1 rfl) (fun y4 I0 W2=>?_)
 refine Aa<|Aj<|Ae<|Ac (AE rfl (I0.memA (.tl (.tl .hd)))) ?_
 have u1:=Tt p1 (Tt K2 (Tt R2 (Tt U2 (Tt V2 W2))))
 have J3:=Aw G0 u1
 refine AQ (fst:=[]) (cap:=[]) .plain body62 rfl (e1 rfl) (fun w9 hw9=>BC (split_view_land_c n _ w9 (I0.hL hL hw9) b0.1 (AH J3 hw9)) fun (w8:World) (u8:Value) ⟨b0_,hu_,s_⟩=>(⟨b0_,hu_,s_.from hw9⟩:∃ q0:Nat,u8 = Value.func (.func 78) #[] #[vP q0]∧St y4 w8 [.cells q0 [vI b0.1.fj.fe,vI b0.1.fj.fc,vI b0.1.fj.fh,g0,vI b0.1.fu] 97])) rfl (fun G6 R5 A5 ⟨q0,c4,y1⟩=>?_)
 subst c4
 have C2:=mk_push1 I0 y1
 have X2:=mk_tr1 I0 y1
 refine Aa<|Au<|MX.rangeP (lb:=[vP q0]) rfl C2 rfl body78 Tryz.func78 rfl rfl rfl (fun z4 J0 K0 Y0 U4 k1 Y2 s4 q1 D5=>?_)
 refine Ae<|Bf 0 rfl<|Bf 3 rfl<|Ac (AJ rfl ((mem_from (k1.memA (.tl (.tl .hd))) 0) 3 _ rfl)) ?_
 have X0:=Tt u1 (Tt X2 Y2)
 have t1:=Aw G0 X0
 have B5:b0.1.fj.fm.length ≤ 281474976710656:=AO t1
 refine Ac (AZ (xs:=b0.1.fj.fm) Tryz.underlying36 rfl t1)<|Ab rfl<|Aa<|Au ?_
 obtain ⟨H5,K3,s1⟩:=thn_in h
 refine AW (α:=Nat × (List (Int × Int))) (fun ⟨c0,k0⟩=>[(0,.func (.yield J0) #[] #[]),(1,vP q0),(7,g0),(8,vI ((b0.1.fj.fm.length:Nat):Int)),(9,vI ((c0:Nat):Int))]) (fun ⟨c0,k0⟩ Z0=>St w Z0 [.obj J0 (lpO Y0 .ready none),.obj K0 (.deferred (some [])),.cells q0 [vI b0.1.fj.fe,vI b0.1.fj.fc,vI b0.1.fj.fh,g0,vI b0.1.fu] 97,.cells M0 [.map (some z0)] 103,.obj z0 (mapO (k0:List (Int × Int))),.cells y0 [vI b0.1.fj.fe,vI b0.1.fj.fc,vI b0.1.fj.fh,g0,vI b0.1.fu] 97,.cells x0 [vI 0] 46,.cells v0 [.bool false] 4,.cells u0 [vI a2] 3]∧Tr z4 [.obj J0 (lpO Y0 .ready none),.obj K0 (.deferred (some [])),.cells q0 [vI b0.1.fj.fe,vI b0.1.fj.fc,vI b0.1.fj.fh,g0,vI b0.1.fu] 97,.cells M0 [.map (some z0)] 103,.obj z0 (mapO ([]:List (Int × Int))),.cells y0 [vI b0.1.fj.fe,vI b0.1.fj.fc,vI b0.1.fj.fh,g0,vI b0.1.fu] 97,.cells x0 [vI 0] 46,.cells v0 [.bool false] 4,.cells u0 [vI a2] 3] Z0 [.obj J0 (lpO Y0 .ready none),.obj K0 (.deferred (some [])),.cells q0 [vI b0.1.fj.fe,vI b0.1.fj.fc,vI b0.1.fj.fh,g0,vI b0.1.fu] 97,.cells M0 [.map (some z0)] 103,.obj z0 (mapO (k0:List (Int × Int))),.cells y0 [vI b0.1.fj.fe,vI b0.1.fj.fc,vI b0.1.fj.fh,g0,vI b0.1.fu] 97,.cells x0 [vI 0] 46,.cells v0 [.bool false] 4,.cells u0 [vI a2] 3]) (fun ⟨c0,k0⟩=>(c0,k0)) (0,([]:List (Int × Int))) K3 ⟨rfl,rfl,rfl,rfl,rfl,trivial⟩ ⟨k1,AA _ _⟩ ?_
 rintro F4 ⟨c0,k0⟩ Z0 P0 ⟨g1,E0⟩ h
 unfold split_Nested_l1 at h
 try dsimp only at h
 refine Ae<|Ac (Bg (i:=c0) (j:=b0.1.fj.fm.length) rfl rfl)<|Aa<|Aj<|AM rfl h (fun A1 h=>?_) (fun A1 h=>?_)
 refine Am<|Aj<|Au<|Ae<|Ab rfl ?_
 obtain ⟨c1,x1,h⟩:=bi h
 have z3:=Aw G0 (Tt X0 E0)
 obtain ⟨B4,I4,c3,t3,P4,U3,y3⟩:=AS z3 x1
 obtain ⟨t4,u4,v4,rfl,V3,W3,v1⟩:=op_TUnit U3
 refine Ac (AY 6 c0 rfl c3 rfl rfl t3)<|Ac (AE rfl y3)<|Az .plain rfl (Ba [.string ⟨#[]⟩,vI 0,vN,vN,vN,.bool false] g1) (fun Z5 H4 M1 s0=>?_)
 refine Af rfl ?_
 have A3:=Aw V3 s0
 have B3:=Aw W3 s0
 have C3:=Aw v1 s0
 refine Bu [.string c1.ft,vI c1.fp,t4,u4,v4,.bool c1.fo] M1 .hd (o6 rfl rfl (BI A3) (BI B3) (BI C3) rfl) (fun b6 B0 F0=>?_)
 refine Aa<|Ae<|Bf 5 rfl<|AN rfl ((B0.memA .hd) 5 _ rfl)<|Ac (Be rfl)<|Ab rfl<|RG.ifnb (s:=17) rfl h (fun B1 h=>?_) (fun B1 h=>?_)
 refine Ag<|Ag<|Ag<|Ag<|Ag<|Ag<|Ag<|Ag<|Ag<|Ag<|Bd rfl rfl<|Aa<|Bv rfl<|Am<|Aq<|Al<|Ac (AT (i:=c0) (j:=1) rfl rfl (by omega))<|Ab rfl<|Aa ?_
 obtain ⟨Q1,D2⟩:=Ay B0 (.one (.tl .hd) (.one (.tl .hd) (.one (.tl .hd) (.one (.tl .hd) (.one (.tl .hd) (.one (.tl .hd) (.one (.tl .hd) (.one (.tl .hd) (.one (.tl .hd) .done)))))))))
 have M3:=Tt s0 (Tt F0 D2)
 exact P0 (c0 + 1,k0) _ _ ⟨rfl,rfl,rfl,rfl,rfl,trivial⟩ ⟨Q1,(Tt E0 M3)⟩ h
 refine Ar (Ah rfl)<|Ar (Ah rfl)<|RG.fg 4 rfl<|Ar (AJ rfl ((B0.memA .hd) 4 _ rfl))<|RG.fg 4 rfl<|Ar (AJ rfl ((B0.memA (.tl (.tl (.tl .hd)))) 4 _ rfl)) ?_
 obtain ⟨t0,d4,h⟩:=bi h
 obtain ⟨q3,g4⟩:=idx_in d4
 have E3:=Aw v1 (Tt s0 F0)
 obtain ⟨C4,J4,d3,u3,G1,X3,D3⟩:=AS E3 g4
 have g3:G1 = [vI t0]:=X3; subst g3
 refine Ar (AY 1 (b0.1.fu.toNat) rfl d3 rfl q3 u3)<|Ar (AJ rfl (D3 0 _ rfl))<|RG.yieldP (fd:=31) (vs:=[vI ((c0:Nat):Int),vI t0]) (.yes rfl rfl) rfl (e2 rfl rfl) B0 (.tl .hd) s4 rfl rfl rfl (fun Q4 W0 C5=>?_)
 refine Ae<|Af rfl<|Aa<|Al<|Af rfl<|Aa<|MX.begin B0 (.tl .hd) (fun c6 p0 V0=>?_)
 refine Au<|Ae<|Ac (AJ rfl ((p0.memA (.tl (.tl (.tl (.tl .hd))))) 0 _ rfl))<|Ab rfl<|Ac (FV.lookup2 (kv:=t0) (z:=(0:Int)) p0 (.tl (.tl (.tl (.tl (.tl .hd))))) Tryz.underlying103 Tryz.underlying3 rfl (by kernel_rfl) rfl rfl)<|Ab rfl<|Ac (Ak rfl rfl)<|Ac (Ak rfl rfl)<|Af rfl<|Af rfl<|Aa<|Aj<|dt 11 tb31_11 (fun d0 j0=>?_)
 refine Ai 0 1 d0 rfl j0 (fun _=>Br 0 rfl) rfl<|Ai 1 3 d0 rfl j0 (fun _=>Br 3 rfl) rfl<|AV 2 7 1904 d0 rfl j0 (AJ rfl ((mem_from (p0.memA (.tl (.tl (.tl (.tl (.tl (.tl .hd))))))) 0) 3 _ rfl)) rfl<|Ai 3 15 d0 rfl j0 (fun _=>Ah rfl) rfl ?_
 have P3:=Tt X0 (Tt E0 (Tt s0 (Tt F0 V0)))
 have G3:=Aw G0 P3
 obtain ⟨D4,K4,j3,v3,R4,Y3,F3⟩:=AS G3 x1
 obtain ⟨I5,J5,K5,rfl,E5,F5,Z3⟩:=op_TUnit Y3
 refine Ai 4 31 d0 rfl j0 (fun _=>AY 6 c0 rfl j3 rfl rfl v3) rfl<|Ai 5 63 d0 rfl j0 (fun _=>Br 4 rfl) rfl<|AV 6 127 1792 d0 rfl j0 (AJ rfl (F3 4 _ rfl)) rfl<|AV 7 255 1792 d0 rfl j0 (AJ rfl ((p0.memA (.tl (.tl (.tl (.tl (.tl (.tl (.tl (.tl (.tl .hd)))))))))) 0 _ rfl)) rfl ?_
 obtain ⟨D0,j4,h⟩:=bi h
 obtain ⟨s3,k4⟩:=idx_in j4
 obtain ⟨E4,M4,k3,x3,H1,b4,H3⟩:=AS Z3 k4
 have p3:H1 = [vI D0]:=b4; subst p3
 refine Ai 8 511 d0 rfl j0 (fun _=>AY 1 (a2.toNat) rfl k3 rfl s3 x3) rfl<|AV 9 1023 1024 d0 rfl j0 (AJ rfl (H3 0 _ rfl)) rfl<|Ai 10 2047 d0 rfl j0 (fun _=>Bw rfl) rfl<|AX (dk d0)<|Aj<|Ae<|Ab rfl<|Ab rfl<|RG.ifb (s:=55) rfl h (fun C1 h=>?_) (fun C1 h=>?_)
 refine Ar (Ah rfl)<|Ar (Ah rfl)<|Ar (Bs (i:=mgetD k0 t0 (0:Int)) (j:=D0) rfl rfl)<|AG rfl rfl<|Aa<|MX.ifn rfl h (fun D1 h=>?_) (fun D1 h=>?_)
 refine Am<|Al<|Ac (AJ rfl ((p0.memA (.tl (.tl (.tl (.tl .hd))))) 0 _ rfl))<|Ab rfl<|Ab rfl<|RG.now .plain (Acts.mapUpdate (kv:=t0) (vv:=D0) p0 (.tl (.tl (.tl (.tl (.tl .hd))))) Tryz.underlying103 Tryz.underlying3 rfl rfl rfl rfl) (fun g6 R1 E2=>?_)
 refine Aa<|Aq<|MX.roundEnd W0 R1 (.tl .hd) (fun j6 U1 F2=>?_)
 refine Ar (Be rfl)<|AG rfl rfl<|Aa<|Bv rfl<|Am<|Aq<|Al<|Ac (AT (i:=c0) (j:=1) rfl rfl (by omega))<|Ab rfl<|Aa ?_
 obtain ⟨W1,G2⟩:=Ay U1 (.one (.tl .hd) (.one (.tl .hd) (.one (.tl .hd) (.one (.tl .hd) (.one (.tl .hd) (.one (.tl .hd) (.one (.tl .hd) (.one (.tl .hd) (.one (.tl .hd) .done)))))))))
 have Q3:=Tt s0 (Tt F0 (Tt V0 (Tt E2 (Tt F2 G2))))
 exact P0 (c0 + 1,mset k0 t0 D0) _ _ ⟨rfl,rfl,rfl,rfl,rfl,trivial⟩ ⟨W1,(Tt E0 Q3)⟩ h
 refine Ae<|Bu [.bool false] p0 (.tl (.tl (.tl (.tl (.tl (.tl (.tl (.tl .hd)))))))) (o1 rfl) (fun k6 X1 b5=>?_)
 refine Bu [vI 0] X1 (.tl (.tl (.tl (.tl (.tl (.tl (.tl .hd))))))) (o1 rfl) (fun p6 Y1 c5=>?_)
 refine Aa<|MX.roundRet W0 Y1 (.tl .hd) (fun q6 Z1 d5=>?_)
 refine Ar (Be rfl)<|AG rfl rfl<|Aa<|Bq rfl ?_
 have h:=thn_inl h s1
 refine Ao rfl<|AB (u:=.tuple #[]) q1 Tryz.func78 rfl .nil rfl<|MX.endRange1 Z1 (.tl .hd) (by intro h9; cases h9) (fun s6 b2 g5=>?_)
 obtain ⟨c2,j5⟩:=Ay b2 (.one .hd (.one (.tl .hd) (.one (.tl .hd) (.one (.tl .hd) (.one (.tl .hd) (.one (.tl .hd) (.one (.tl .hd) (.one (.tl .hd) (.one (.tl .hd) .done)))))))))
 refine Ao rfl<|RT.take c2 (.tl .hd) (fun t6 d2 k5=>?_)
 obtain ⟨Q0,p5⟩:=Ay d2 (.one .hd (.one (.tl .hd) (.one (.tl .hd) (.one (.tl .hd) (.one (.tl .hd) (.one (.tl .hd) (.one (.tl .hd) (.one (.tl .hd) .done))))))))
 refine AB hb0 Tryz.func31 rfl (.cons (.one (by kernel_rfl) rfl ((Q0.memA (.tl (.tl (.tl (.tl (.tl (.tl .hd))))))) 0 _ rfl)) (.cons (.one (by kernel_rfl) rfl ((Q0.memA (.tl (.tl (.tl (.tl (.tl .hd)))))) 0 _ rfl)) .nil)) rfl ?_
 cases h
 exact Q0.gv
 refine Ag<|Ag<|Ag<|Bd rfl rfl<|Aa<|Bv rfl<|Am<|Al<|Ac (AJ rfl ((p0.memA (.tl (.tl (.tl (.tl .hd))))) 0 _ rfl))<|Ab rfl<|Ab rfl<|RG.now .plain (Acts.mapUpdate (kv:=t0) (vv:=D0) p0 (.tl (.tl (.tl (.tl (.tl .hd))))) Tryz.underlying103 Tryz.underlying3 rfl rfl rfl rfl) (fun u6 g2 H2=>?_)
 refine Aa<|Aq<|MX.roundEnd W0 g2 (.tl .hd) (fun v6 j2 I2=>?_)
 refine Ar (Be rfl)<|AG rfl rfl<|Aa<|Bv rfl<|Am<|Aq<|Al<|Ac (AT (i:=c0) (j:=1) rfl rfl (by omega))<|Ab rfl<|Aa ?_
 obtain ⟨k2,J2⟩:=Ay j2 (.one (.tl .hd) (.one (.tl .hd) (.one (.tl .hd) (.one (.tl .hd) (.one (.tl .hd) (.one (.tl .hd) (.one (.tl .hd) (.one (.tl .hd) (.one (.tl .hd) .done)))))))))
 have R3:=Tt s0 (Tt F0 (Tt V0 (Tt H2 (Tt I2 J2))))
 exact P0 (c0 + 1,mset k0 t0 D0) _ _ ⟨rfl,rfl,rfl,rfl,rfl,trivial⟩ ⟨k2,(Tt E0 R3)⟩ h
 refine AR rfl ?_
 have h:=thn_inr h s1
 try dsimp only at h
 refine MX.fin rfl<|AB (u:=.tuple #[]) q1 Tryz.func78 rfl .nil rfl<|MX.endRange0 g1 .hd (by intro h9; cases h9) (fun x6 p2 q5=>?_)
 obtain ⟨q2,s5⟩:=Ay p2 (.one (.tl .hd) (.one (.tl .hd) (.one (.tl .hd) (.one (.tl .hd) (.one (.tl .hd) (.one (.tl .hd) (.one (.tl .hd) (.one (.tl .hd) .done))))))))
 refine Aq<|Ae<|Bu [.bool true] q2 (.tl (.tl (.tl (.tl (.tl (.tl .hd)))))) (o1 rfl) (fun y6 s2 t5=>?_)
 refine Bu [vI 0] s2 (.tl (.tl (.tl (.tl (.tl .hd))))) (o1 rfl) (fun z6 t2 u5=>?_)
 refine Aa<|Ao rfl<|RT.take t2 .hd (fun A6 u2 v5=>?_)
 obtain ⟨R0,x5⟩:=Ay u2 (.one (.tl .hd) (.one (.tl .hd) (.one (.tl .hd) (.one (.tl .hd) (.one (.tl .hd) (.one (.tl .hd) (.one (.tl .hd) .done)))))))
 refine AB hb0 Tryz.func31 rfl (.cons (.one (by kernel_rfl) rfl ((R0.memA (.tl (.tl (.tl (.tl (.tl .hd)))))) 0 _ rfl)) (.cons (.one (by kernel_rfl) rfl ((R0.memA (.tl (.tl (.tl (.tl .hd))))) 0 _ rfl)) .nil)) rfl ?_
 cases h
 exact R0.gv
 refine Ae<|Ab rfl<|Bu [.bool false] j1 (.tl (.tl .hd)) (o1 rfl) (fun B6 v2 y5=>?_)
 refine Bu [vI A0] v2 (.tl .hd) (o1 rfl) (fun C6 U0 z5=>?_)
 refine Aa<|Ao rfl<|AB hb0 Tryz.func31 rfl (.cons (.one (by kernel_rfl) rfl ((U0.memA (.tl (.tl .hd))) 0 _ rfl)) (.cons (.one (by kernel_rfl) rfl ((U0.memA (.tl .hd)) 0 _ rfl)) .nil)) rfl ?_
 cases h
 exact U0.gv
 intro G4 d1 h
 try dsimp only at h
 refine AM rfl h (fun E1 h=>?_) (fun E1 h=>?_)
 refine Al<|Ac (AE rfl (C0.memA (.tl (.tl (.tl (.tl .hd))))))<|Ac (AJ rfl ((C0.memA (.tl (.tl (.tl .hd)))) 0 _ rfl)) ?_
 obtain ⟨A4,q4,h⟩:=bi h
 refine AQ (fst:=[]) (cap:=[]) .plain body54 rfl (e2 rfl rfl) (fun w9 hw9=>split_seen_c n _ w9 (C0.hL hL hw9) a0 (C0.km h0_3 hw9) a2 q4) rfl (fun D6 Q5 b3 ⟨M5,hu_,G5⟩=>?_)
 subst hu_
 obtain ⟨x2,M2⟩:=C0.agr b3
 refine Ab rfl<|Ac (Ak rfl rfl)<|Ac (Ak rfl rfl)<|Af rfl<|Aa ?_
 obtain ⟨y2,P2⟩:=Ay x2 (.one .hd (.one .hd (.one .hd (.one .hd .done))))
 exact d1 A4.2 _ _ ⟨rfl,rfl,rfl,rfl,rfl,trivial⟩ ⟨y2,(Tt M2 P2)⟩ h
 refine Am ?_
 obtain ⟨z2,Q2⟩:=Ay C0 (.one .hd (.one .hd (.one .hd (.one .hd .done))))
 exact d1 b0.2 _ _ ⟨rfl,rfl,rfl,rfl,rfl,trivial⟩ ⟨z2,Q2⟩ h
def tb32_14:List (Nat × Nat × Nat):=[(0,549755813888,8),(1,1099511627776,549755813888),(0,2199023255552,2048),(6,4398046511104,3298534883328),(8,8796093022208,4398046511104),(16,17592186044416,8796093022208),(0,35184372088832,8),(64,70368744177664,35184372088832),(0,140737488355328,4096),(384,281474976710656,211106232532992),(512,562949953421312,281474976710656),(1024,1125899906842624,562949953421312),(63,8192,17592186044416),(8191,16384,1125899906842624)]
def tb32_15:List (Nat × Nat × Nat):=[(0,2251799813685248,8192),(0,4503599627370496,2),(3,9007199254740992,6755399441055744),(4,18014398509481984,9007199254740992),(0,36028797018963968,16384),(0,72057594037927936,2),(48,144115188075855872,108086391056891904),(64,288230376151711744,144115188075855872),(136,576460752303423488,306244774661193728),(256,1152921504606846976,576460752303423488),(512,2305843009213693952,1152921504606855168),(512,4611686018427387904,1152921504606846980),(3584,9223372036854775808,8070450532247928832),(4608,18446744073709551616,10376293541461622784),(512,36893488147419103232,1152921504606863360),(512,73786976294838206464,1152921504606846980),(49664,147573952589676412928,111833385946864156672),(66048,295147905179352825856,148726874094283259904),(139776,590295810358705651712,314747570757669224448),(262656,1180591620717411303424,591448731863312498688)]
def wardmoteref23_Nested_l1 (_n:Nat) (u0:Int) (a0:TRoll) (v0:Int) (a1:Int) (a2:Int) (c0:Int → Option (((Bool × Int) ⊕ Unit) ⊕ Unit)):Int → Option (((Bool × Int) ⊕ Unit) ⊕ Unit)
  | b0=>(if b0 < u0 then (idx a0.fm v0).bind fun d0=>(idx a0.fm b0).bind fun g0=>(idx d0.fw a1).bind fun p0=>(idx g0.fw a1).bind fun q0=>(if p0 = q0 then (idx d0.fw a2).bind fun s0=>(idx g0.fw a2).bind fun t0=>(if s0 = t0 then (chk (b0 + 1)).bind fun j0=>c0 j0 else some (.inl (.inl (false,(0:Int))))) else (chk (b0 + 1)).bind fun k0=>c0 k0) else some (.inr ()))
def wardmoteref23_Nested_l2 (n:Nat) (c0:Int) (a0:TRoll) (a1:Int) (a2:Int) (d0:Int → Option ((Bool × Int) ⊕ Unit)):Int → Option ((Bool × Int) ⊕ Unit)
  | b0=>(if b0 < c0 then thn (loopF (wardmoteref23_Nested_l1 n c0 a0 b0 a1 a2) n 0) (fun _=>(chk (b0 + 1)).bind fun g0=>d0 g0) else some (.inr ()))
def wardmoteref23_Nested_p (n:Nat) (a0:TRoll) (a1:Int) (a2:Int):Option (Bool × Int):=
  (wardmoteref23_levelled_p n a0 a1).bind fun b0=>(if b0 = 0 then (wardmoteref23_levelled_p n a0 a2).bind fun c0=>(if c0 = 0 then (wardmoteref22_Land_p n a0).bind fun d0=>thn (loopF (wardmoteref23_Nested_l2 n d0 a0 a1 a2) n 0) (fun _=>some (true,(0:Int))) else some (false,c0)) else some (false,b0))
theorem wardmoteref23_Nested_c (n:Nat) (L:List Nat) (w:World) (hL:∀ b ∈ L,b < w.heap.size) (a0:TRoll) {v0_3:Value} (h0_3:Rep.R w L [v0_3] a0.fm) (a1:Int) (a2:Int)  {r:Bool × Int} (h:wardmoteref23_Nested_p n a0 a1 a2 = some r) :
    Calls Tryz.prog 32 #[.agg #[vI a0.fe,vI a0.fc,vI a0.fh,v0_3],vI a1,vI a2] w (Gives w fun _ u=>u = .tuple #[.bool r.1,vI r.2]):=by
 unfold wardmoteref23_Nested_p at h
 have hS0:=AD w
 refine AI Tryz.func32 rfl rfl rfl (fun _ cs0 hb0=>?_)
 refine Ae<|Az .plain rfl (AK hS0 rfl rfl) (fun J2 s0 j0 k3=>?_)
 refine Af rfl<|Af rfl<|Aa<|Aj<|Ae<|Ac (AE rfl (j0.memA .hd))<|Ab rfl ?_
 obtain ⟨K0,D2,h⟩:=bi h
 refine Bp (vI K0) body59 rfl (e2 rfl rfl) (fun w9 hw9=>wardmoteref23_levelled_c n _ w9 (j0.hL0 hL hw9) a0 (j0.k0 h0_3 hw9) a1 D2) rfl<|Af rfl<|Aa<|Ae<|Ab rfl<|Ac (Bs (i:=K0) (j:=0) rfl rfl)<|Aa<|MX.ifn rfl h (fun P0 h=>?_) (fun P0 h=>?_)
 refine Am<|Aj<|Ae<|Ac (AE rfl (j0.memA .hd))<|Ab rfl ?_
 obtain ⟨M0,E2,h⟩:=bi h
 refine Bp (vI M0) body59 rfl (e2 rfl rfl) (fun w9 hw9=>wardmoteref23_levelled_c n _ w9 (j0.hL0 hL hw9) a0 (j0.k0 h0_3 hw9) a2 E2) rfl<|Af rfl<|Aa<|Ae<|Ab rfl<|Ac (Bs (i:=M0) (j:=0) rfl rfl)<|Aa<|MX.ifn rfl h (fun Q0 h=>?_) (fun Q0 h=>?_)
 refine Am<|Ae<|Ac (AE rfl (j0.memA .hd)) ?_
 obtain ⟨u0,F2,h⟩:=bi h
 refine Bp (vI u0) body63 rfl (e1 rfl) (fun w9 hw9=>wardmoteref22_Land_c n _ w9 (j0.hL0 hL hw9) a0 (j0.k0 h0_3 hw9) F2) rfl<|Af rfl<|Aa<|Aj<|Ae<|Af rfl<|Aa<|Au ?_
 obtain ⟨u3,V1,B0⟩:=thn_in h
 refine AW (α:=Int) (fun p0=>[(1,vI a1),(2,vI a2),(3,vP s0),(10,vI u0),(11,vI p0)]) (fun p0 v0=>St w v0 [.cells s0 [vI a0.fe,vI a0.fc,vI a0.fh,v0_3] 38]∧Tr J2 [.cells s0 [vI a0.fe,vI a0.fc,vI a0.fh,v0_3] 38] v0 [.cells s0 [vI a0.fe,vI a0.fc,vI a0.fh,v0_3] 38]) (fun p0=>p0) 0 V1 ⟨rfl,rfl,rfl,rfl,rfl,trivial⟩ ⟨j0,AA _ _⟩ ?_
 rintro V2 p0 v0 c1 ⟨A0,d1⟩ h
 unfold wardmoteref23_Nested_l2 at h
 try dsimp only at h
 refine Aj<|Ae<|Ab rfl<|Ab rfl<|Ac (FV.lss (i:=p0) (j:=u0) rfl rfl)<|Aa<|AM rfl h (fun R0 h=>?_) (fun R0 h=>?_)
 refine Am<|Aj<|Au<|Ae<|Af rfl<|Aa<|Au ?_
 obtain ⟨v3,W1,C0⟩:=thn_in h
 refine AW (α:=Int) (fun q0=>[(1,vI a1),(2,vI a2),(3,vP s0),(10,vI u0),(11,vI p0),(12,vI q0)]) (fun q0 y0=>St w y0 [.cells s0 [vI a0.fe,vI a0.fc,vI a0.fh,v0_3] 38]∧Tr v0 [.cells s0 [vI a0.fe,vI a0.fc,vI a0.fh,v0_3] 38] y0 [.cells s0 [vI a0.fe,vI a0.fc,vI a0.fh,v0_3] 38]) (fun q0=>q0) 0 W1 ⟨rfl,rfl,rfl,rfl,rfl,rfl,trivial⟩ ⟨A0,AA _ _⟩ ?_
 rintro W2 q0 y0 z0 ⟨t0,x0⟩ h
 unfold wardmoteref23_Nested_l1 at h
 try dsimp only at h
 refine Aj<|Ae<|Ab rfl<|Ab rfl<|Ac (FV.lss (i:=q0) (j:=u0) rfl rfl)<|Aa<|AM rfl h (fun U0 h=>?_) (fun U0 h=>?_)
 refine Am<|Aj<|Au<|Aj<|dt 14 tb32_14 (fun d0 g0=>?_)
 refine Ai 0 1 d0 rfl g0 (fun _=>Br 3 rfl) rfl<|AV 1 3 12344 d0 rfl g0 (AJ rfl ((t0.memA .hd) 3 _ rfl)) rfl<|Ai 2 7 d0 rfl g0 (fun _=>Ah rfl) rfl ?_
 obtain ⟨D3,p2,h⟩:=bi h
 obtain ⟨y1,q2⟩:=idx_in p2
 have D0:=Bn h0_3 t0
 obtain ⟨K2,X2,g1,E1,g3,X1,K1⟩:=AS D0 q2
 obtain ⟨x3,y3,z3,rfl,p3,q3,E0⟩:=op_TUnit X1
 refine Ai 3 15 d0 rfl g0 (fun _=>AY 6 (p0.toNat) rfl g1 rfl y1 E1) rfl<|Ai 4 31 d0 rfl g0 (fun _=>Br 4 rfl) rfl<|AV 5 63 12288 d0 rfl g0 (AJ rfl (K1 4 _ rfl)) rfl<|Ai 6 127 d0 rfl g0 (fun _=>Br 3 rfl) rfl<|AV 7 255 11776 d0 rfl g0 (AJ rfl ((t0.memA .hd) 3 _ rfl)) rfl<|Ai 8 511 d0 rfl g0 (fun _=>Ah rfl) rfl ?_
 obtain ⟨E3,s2,h⟩:=bi h
 obtain ⟨z1,t2⟩:=idx_in s2
 obtain ⟨M2,Y2,j1,F1,j3,Y1,M1⟩:=AS D0 t2
 obtain ⟨A3,B3,C3,rfl,s3,t3,F0⟩:=op_TUnit Y1
 refine Ai 9 1023 d0 rfl g0 (fun _=>AY 6 (q0.toNat) rfl j1 rfl z1 F1) rfl<|Ai 10 2047 d0 rfl g0 (fun _=>Br 4 rfl) rfl<|AV 11 4095 8192 d0 rfl g0 (AJ rfl (M1 4 _ rfl)) rfl<|Ai 12 8191 d0 rfl g0 (fun _=>Bw rfl) rfl<|Ai 13 16383 d0 rfl g0 (fun _=>Bw rfl) rfl<|AX (dk d0)<|Aj<|dt 20 tb32_15 (fun b0 c0=>?_)
 refine Ai 0 1 b0 rfl c0 (fun _=>Ah rfl) rfl<|Ai 1 3 b0 rfl c0 (fun _=>Ah rfl) rfl ?_
 obtain ⟨G0,u2,h⟩:=bi h
 obtain ⟨A1,v2⟩:=idx_in u2
 obtain ⟨P2,Z2,k1,G1,X0,Z1,P1⟩:=AS E0 v2
 have p1:X0 = [vI G0]:=Z1; subst p1
 refine Ai 2 7 b0 rfl c0 (fun _=>AY 1 (a1.toNat) rfl k1 rfl A1 G1) rfl<|AV 3 15 1048320 b0 rfl c0 (AJ rfl (P1 0 _ rfl)) rfl<|Ai 4 31 b0 rfl c0 (fun _=>Ah rfl) rfl<|Ai 5 63 b0 rfl c0 (fun _=>Ah rfl) rfl ?_
 obtain ⟨H0,x2,h⟩:=bi h
 obtain ⟨B1,y2⟩:=idx_in x2
 obtain ⟨Q2,b3,q1,H1,Y0,b2,Q1⟩:=AS F0 y2
 have s1:Y0 = [vI H0]:=b2; subst s1
 refine Ai 6 127 b0 rfl c0 (fun _=>AY 1 (a1.toNat) rfl q1 rfl B1 H1) rfl<|AV 7 255 1048320 b0 rfl c0 (AJ rfl (Q1 0 _ rfl)) rfl<|Ai 8 511 b0 rfl c0 (fun _=>FV.eql (i:=G0) (j:=H0) rfl rfl) rfl<|Ai 9 1023 b0 rfl c0 (fun _=>Ah rfl) rfl<|RD.ifd (s:=60) rfl h (fun V0 h=>?_) (fun V0 h=>?_)
 refine Bb 10 2047 b0 rfl c0 (.yes rfl rfl) (fun _=>Ah rfl) rfl<|Bb 11 4095 b0 rfl c0 (.yes rfl rfl) (fun _=>Ah rfl) rfl ?_
 obtain ⟨I0,z2,h⟩:=bi h
 obtain ⟨C1,A2⟩:=idx_in z2
 obtain ⟨R2,c3,t1,I1,Z0,c2,R1⟩:=AS E0 A2
 have u1:Z0 = [vI I0]:=c2; subst u1
 refine Bb 12 8191 b0 rfl c0 (.yes rfl rfl) (fun _=>AY 1 (a2.toNat) rfl t1 rfl C1 I1) rfl<|RD.val (i:=13) (m' :=16383) (W:=786432) (tk b0) rfl c0 (.yes rfl rfl) (AJ rfl (R1 0 _ rfl)) rfl<|Bb 14 32767 b0 rfl c0 (.yes rfl rfl) (fun _=>Ah rfl) rfl<|Bb 15 65535 b0 rfl c0 (.yes rfl rfl) (fun _=>Ah rfl) rfl ?_
 obtain ⟨J0,B2,h⟩:=bi h
 obtain ⟨D1,C2⟩:=idx_in B2
 obtain ⟨U2,d3,v1,J1,b1,d2,U1⟩:=AS F0 C2
 have x1:b1 = [vI J0]:=d2; subst x1
 refine Bb 16 131071 b0 rfl c0 (.yes rfl rfl) (fun _=>AY 1 (a2.toNat) rfl v1 rfl D1 J1) rfl<|RD.val (i:=17) (m' :=262143) (W:=786432) (tk b0) rfl c0 (.yes rfl rfl) (AJ rfl (U1 0 _ rfl)) rfl<|Bb 18 524287 b0 rfl c0 (.yes rfl rfl) (fun _=>Bs (i:=I0) (j:=J0) rfl rfl) rfl<|Ai 19 1048575 b0 rfl c0 (fun _=>Bz rfl rfl) rfl<|AX (dk b0)<|MX.ifn rfl h (fun W0 h=>?_) (fun W0 h=>?_)
 refine Am<|Aq<|Al<|Ab rfl ?_
 obtain ⟨G2,g2,h⟩:=bi h
 refine Ac (By (i:=q0) (j:=1) rfl rfl g2)<|Af rfl<|Aa ?_
 exact z0 G2 _ _ ⟨rfl,rfl,rfl,rfl,rfl,rfl,trivial⟩ ⟨t0,x0⟩ h
 refine Ae<|Af rfl<|Af rfl<|Aa ?_
 have h:=thn_inl h C0
 have h:=thn_inl h B0
 refine Ao rfl<|AB hb0 Tryz.func32 rfl (.cons (.tmp rfl) (.cons (.tmp rfl) .nil)) rfl ?_
 cases h
 exact t0.gv
 refine Bo 524287 1 [(10,61),(11,62),(12,63),(13,64),(14,65),(15,66),(16,67),(17,68),(18,69)] (F:=[(60,false)]) (U:=[]) b0 c0 (.cons rfl .nil) .nil ?_
 dsimp only [offS,List.map]
 refine Ai 19 1048575 b0 rfl c0 (fun _=>AP rfl rfl) rfl<|AX (dk b0)<|Bv rfl<|Am<|Aq<|Al<|Ab rfl ?_
 obtain ⟨H2,j2,h⟩:=bi h
 refine Ac (By (i:=q0) (j:=1) rfl rfl j2)<|Af rfl<|Aa ?_
 exact z0 H2 _ _ ⟨rfl,rfl,rfl,rfl,rfl,rfl,trivial⟩ ⟨t0,x0⟩ h
 refine AR rfl ?_
 have h:=thn_inr h C0
 try dsimp only at h
 refine Aq<|Al<|Ab rfl ?_
 obtain ⟨I2,k2,h⟩:=bi h
 refine Ac (By (i:=p0) (j:=1) rfl rfl k2)<|Af rfl<|Aa ?_
 exact c1 I2 _ _ ⟨rfl,rfl,rfl,rfl,rfl,trivial⟩ ⟨t0,(Tt d1 x0)⟩ h
 refine AR rfl ?_
 have h:=thn_inr h B0
 try dsimp only at h
 refine Ae<|Af rfl<|Af rfl<|Aa<|Ao rfl<|AB hb0 Tryz.func32 rfl (.cons (.tmp rfl) (.cons (.tmp rfl) .nil)) rfl ?_
 cases h
 exact A0.gv
 refine Ae<|Ab rfl<|Af rfl<|Af rfl<|Aa<|Ao rfl<|AB hb0 Tryz.func32 rfl (.cons (.tmp rfl) (.cons (.tmp rfl) .nil)) rfl ?_
 cases h
 exact j0.gv
 refine Ae<|Ab rfl<|Af rfl<|Af rfl<|Aa<|Ao rfl<|AB hb0 Tryz.func32 rfl (.cons (.tmp rfl) (.cons (.tmp rfl) .nil)) rfl ?_
 cases h
 exact j0.gv
end Go.Proofs.YtfncplndfpgngaaGreatDoor
