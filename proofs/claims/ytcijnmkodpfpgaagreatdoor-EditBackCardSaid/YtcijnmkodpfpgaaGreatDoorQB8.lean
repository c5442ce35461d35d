/- Functions of the program, and what they give: part 8. -/
import Derived.Test.YtcijnmkodpfpgaaGreatDoorQB7
namespace Go.Proofs.YtcijnmkodpfpgaaGreatDoor
open Go Go.RowKit
set_option maxRecDepth 4000
set_option maxHeartbeats 4000000

def tb4_7 : List (Nat × Nat × Nat) := [(0, 2199023255552, 32), (0, 4398046511104, 64), (0, 8796093022208, 512), (0, 17592186044416, 8), (8, 35184372088832, 17592186044416), (16, 70368744177664, 35184372088832), (0, 140737488355328, 32), (64, 281474976710656, 140737488355328), (160, 562949953421312, 351843720888320), (0, 1125899906842624, 8), (512, 2251799813685248, 1125899906842624), (1024, 4503599627370496, 2251799813685248), (0, 9007199254740992, 256), (6144, 18014398509481984, 13510798882111488), (8455, 36028797018963968, 18592741625692160), (16384, 1099511627776, 36028797018963968), (32768, 72057594037927936, 1099511627776), (32768, 144115188075855872, 1099511627776), (0, 1024, 0), (393215, 0, 72057594037928960), (1048575, 2048, 144115188075855872)]
def tb4_10 : List (Nat × Nat × Nat) := [(0, 147573952589676412928, 1024), (1, 295147905179352825856, 147573952589676412928), (2, 590295810358705651712, 295147905179352825856), (0, 1180591620717411303424, 512), (8, 2361183241434822606848, 1180591620717411303424), (16, 4722366482869645213696, 2361183241434822606848), (32, 9444732965739290427392, 4722366482869645213696), (68, 18889465931478580854784, 10035028776097996079104), (128, 37778931862957161709568, 18889465931478580854784), (256, 75557863725914323419136, 37778931862957161710592), (768, 151115727451828646838272, 113336795588871485128704), (1280, 302231454903657293676544, 188894659314785808547840), (2304, 604462909807314587353088, 340010386766614455386112), (4352, 1208925819614629174706176, 642241841670271749062656), (8448, 2417851639229258349412352, 1208925819614629174706176), (16384, 4835703278458516698824704, 2417851639229258349416448), (49152, 9671406556917033397649408, 7253554917687775048237056), (81920, 19342813113834066795298816, 12089258196146291747061760), (147456, 38685626227668133590597632, 21760664753063325144711168), (278528, 77371252455336267181195264, 41103477866897391940009984), (540672, 154742504910672534362390528, 77371252455336267181195264), (1048576, 309485009821345068724781056, 154742504910672534362394624), (3145728, 618970019642690137449562112, 464227514732017603087171584), (5242880, 1237940039285380274899124224, 773712524553362671811952640), (9437184, 2475880078570760549798248448, 1392682544196052809261514752), (1048576, 4951760157141521099596496896, 154742504910672534362391552), (34603008, 9903520314283042199192993792, 5106502662052193633958887424), (1048576, 19807040628566084398385987584, 154742504910672534362391040), (135266304, 39614081257132168796771975168, 19961783133476756932748378112), (269484032, 79228162514264337593543950336, 39768823762042841331134365696), (605028352, 158456325028528675187087900672, 89286425333458052327099334656), (1074790400, 316912650057057350374175801344, 158611067533439347721450291200), (2165309440, 633825300114114700748351602688, 319543272640538783458336440320), (4296015872, 1267650600228229401496703205376, 633980042619025373282713993216)]
def tb4_14 : List (Nat × Nat × Nat) := [(0, 40564819207303340847894502572032, 8192), (1, 81129638414606681695789005144064, 40564819207303340847894502572032), (2, 162259276829213363391578010288128, 81129638414606681695789005144064), (4, 324518553658426726783156020576256, 162259276829213363391578010292224), (4, 649037107316853453566312041152512, 162259276829213363391578010304512), (28, 1298074214633706907132624082305024, 1135814937804493543741046072016896), (36, 2596148429267413814265248164610048, 1460333491462920270524202092593152), (68, 5192296858534827628530496329220096, 2758407706096627177656826174898176), (160, 10384593717069655257060992658440192, 5192296858534827628530496329220096), (256, 20769187434139310514121985316880384, 10384593717069655257060992658441216), (768, 41538374868278621028243970633760768, 31153781151208965771182977975320576), (256, 83076749736557242056487941267521536, 10384593717069655257060992658440224), (256, 166153499473114484112975882535043072, 10384593717069655257060992658440256), (256, 332306998946228968225951765070086144, 10384593717069655257060992658444288), (15616, 664613997892457936451903530140172288, 591921841872970349652476581531090944), (16640, 1329227995784915872903807060280344576, 674998591609527591708964522798612480), (16640, 2658455991569831745807614120560689152, 674998591609527591708964522798612480), (115968, 5316911983139663491615228241121378304, 4039606955940095894996726144133234688), (131328, 10633823966279326983230456482242756608, 5327296576856733146872289233779818496), (262400, 21267647932558653966460912964485513216, 10644208559996396638487517474901196800)]
def tb4_17 : List (Nat × Nat × Nat) := [(0, 5444517870735015415413993718908291383296, 65536), (1, 10889035741470030830827987437816582766592, 5444517870735015415413993718908291383296), (2, 21778071482940061661655974875633165533184, 10889035741470030830827987437816582766592), (4, 43556142965880123323311949751266331066368, 21778071482940061661655974875633165533696), (12, 87112285931760246646623899502532662132736, 65334214448820184984967924626899496599552), (4, 174224571863520493293247799005065324265472, 21778071482940061661655974875633165533216), (4, 348449143727040986586495598010130648530944, 21778071482940061661655974875633165533248), (4, 696898287454081973172991196020261297061888, 21778071482940061661655974875633165565952), (244, 1393796574908163946345982392040522594123776, 1241350074527583514714390567911090435391488), (260, 2787593149816327892691964784081045188247552, 1415574646391104008007638366916155759656960), (260, 5575186299632655785383929568162090376495104, 1415574646391104008007638366916155759656960), (1812, 11150372599265311570767859136324180752990208, 8471669806863683986384174226621301392408576), (2052, 22300745198530623141535718272648361505980416, 11172150670748251632429515111199813918523392), (4100, 44601490397061246283071436545296723011960832, 22322523270013563203197374247523994671513600)]
def tb4_20 : List (Nat × Nat × Nat) := [(0, 11417981541647679048466287755595961091061972992, 262144), (1, 22835963083295358096932575511191922182123945984, 11417981541647679048466287755595961091061972992), (2, 45671926166590716193865151022383844364247891968, 22835963083295358096932575511191922182123945984), (4, 91343852333181432387730302044767688728495783936, 45671926166590716193865151022383844364247892480), (12, 182687704666362864775460604089535377456991567872, 137015778499772148581595453067151533092743675904), (4, 365375409332725729550921208179070754913983135744, 45671926166590716193865151022383844364247892000), (4, 730750818665451459101842416358141509827966271488, 45671926166590716193865151022383844364247892032), (4, 1461501637330902918203684832716283019655932542976, 45671926166590716193865151022383844364248023040), (244, 2923003274661805836407369665432566039311865085952, 2603299791495670823050313608275879128762129842176), (260, 5846006549323611672814739330865132078623730171904, 2968675200828396552601234816454949883676112977920), (260, 11692013098647223345629478661730264157247460343808, 2968675200828396552601234816454949883676112977920), (1812, 23384026197294446691258957323460528314494920687616, 17766379278803788599413543747707315457692429975552), (2052, 46768052394588893382517914646921056628989841375232, 23429698123461037407452822474482912158859168579584), (8191, 16, 46768052394588893382517914646921056628989841375232)]
theorem body9 : bodyB Tryz.prog 9 = true := by kernel_rfl
theorem body10 : bodyB Tryz.prog 10 = true := by kernel_rfl
theorem body11 : bodyB Tryz.prog 11 = true := by kernel_rfl
theorem body18 : bodyB Tryz.prog 18 = true := by kernel_rfl
theorem body20 : bodyB Tryz.prog 20 = true := by kernel_rfl
def wardmotelaw26_EditBack_p (n : Nat) (a0 : TScene) (a1 : UInt8 × UInt8) : Option Bool :=
  (wardmotelaw26_works_p n).bind fun B0 => (if B0 = true then (wardmotelaw26_Scene_set_p n a0).bind fun b0 => (wardmoteref26_Draft_Session_p n a0.fL b0.1 b0.2.1 b0.2.2.1 b0.2.2.2).bind fun c0 => (edit_Check_p n b0.1 b0.2.1 c0).bind fun H0 => (if H0 = 0 then (remI ((a1.1.toNat : Nat) : Int) b0.1.fN).bind fun x0 => (remI ((a1.2.toNat : Nat) : Int) b0.2.2.2).bind fun y0 => (edit_Make_p n b0.1 b0.2.1 c0 x0 y0).bind fun d0 => jn (fun (_ : Unit) => (edit_Undo_p n b0.1 b0.2.1 c0).bind fun k0 => (if k0.2 = 0 then (edit_Redo_p n b0.1 b0.2.1 k0.1).bind fun p0 => (wardmotelaw26_is_1_p n p0.1 p0.2 c0).bind fun C0 => (if C0 = true then (edit_Redo_p n b0.1 b0.2.1 c0).bind fun q0 => (if q0.2 = 0 then (edit_Undo_p n b0.1 b0.2.1 q0.1).bind fun s0 => (wardmotelaw26_is_1_p n s0.1 s0.2 c0).bind fun D0 => some D0 else some true) else some false) else (edit_Redo_p n b0.1 b0.2.1 c0).bind fun t0 => (if t0.2 = 0 then (edit_Undo_p n b0.1 b0.2.1 t0.1).bind fun u0 => (wardmotelaw26_is_1_p n u0.1 u0.2 c0).bind fun E0 => some E0 else some true))) (fun j0 => (if d0.2 = 0 then (edit_Undo_p n b0.1 b0.2.1 d0.1).bind fun g0 => (if d0.1.fDone.length = (c0.fDone.length + 1) then (if 0 < d0.1.fUndone.length then some false else (if g0.1.fUndone.length = 1 then (g0.1.fUndone[0]?).bind fun z0 => (d0.1.fDone[c0.fDone.length]?).bind fun A0 => (if z0 = A0 then (if g0.2 = 0 then (edit_Same_p n g0.1 (⟨c0.fK, c0.fPlan, c0.fTotals, c0.fDone, g0.1.fUndone⟩ : TSession)).bind fun F0 => (if F0 = true then (edit_Redo_p n b0.1 b0.2.1 g0.1).bind fun v0 => (wardmotelaw26_is_1_p n v0.1 v0.2 d0.1).bind fun G0 => (if G0 = true then j0 () else some false) else some false) else some false) else some false) else some false)) else some false) else j0 ())) else some false) else some false)
theorem wardmotelaw26_EditBack_c (n : Nat) (L : List Nat) (w : World) (hL : ∀ b ∈ L, b < w.heap.size) (a0 : TScene) {v0_1 : Value} (h0_1 : Rep.R w L [v0_1] a0.fD.fParents) {v0_2 : Value} (h0_2 : Rep.R w L [v0_2] a0.fD.fMore) {v0_3 : Value} (h0_3 : Rep.R w L [v0_3] a0.fD.fLabels) {v0_9 : Value} (h0_9 : Rep.R w L [v0_9] a0.fX.fNums) {v0_10 : Value} (h0_10 : Rep.R w L [v0_10] a0.fL.fL) (a1 : UInt8 × UInt8)  {r : Bool} (h : wardmotelaw26_EditBack_p n a0 a1 = some r) :
    Calls Tryz.prog 4 #[.agg #[.int .u8 (a0.fD.fN.toNat : Int), v0_1, v0_2, v0_3, .int .u8 (a0.fD.fK.toNat : Int), .int .u8 (a0.fX.fGroups.toNat : Int), .int .u8 (a0.fX.fParties.toNat : Int), .int .u8 (a0.fX.fLevels.toNat : Int), .int .u8 (a0.fX.fWater.toNat : Int), v0_9, v0_10], .agg #[.int .u8 (a1.1.toNat : Int), .int .u8 (a1.2.toNat : Int)]] w (Gives w fun _ u => u = .bool r) := by
 unfold wardmotelaw26_EditBack_p at h
 have hS0 := St.start w
 refine MX.start Tryz.func4 rfl rfl rfl (fun _ cs0 hb0 => ?_)
 refine MX.sr <| RG.new .plain rfl (Does.box hS0 rfl rfl) (fun w2 b5 hS3 hT4 => ?_)
 refine RG.new .plain rfl (Does.box hS3 rfl rfl) (fun w7 g5 hS8 hT9 => ?_)
 refine RG.so rfl <| RG.nil <| MX.seq <| MX.sr ?_
 obtain ⟨y11, v01, h⟩ := bind_in h
 refine RG.cq (.bool y11) body9 rfl evs_nil (fun w9 hw9 => wardmotelaw26_works_c n _ w9 (hS8.hL0 hL hw9)  v01) rfl <| RG.va (FV.not rfl) <| RG.nil <| MX.ifnb rfl h (fun j5 h => ?_) (fun j5 h => ?_)
 refine MX.skip <| MX.sr <| RG.va (FV.lN rfl (hS8.memA (.tl .hd))) ?_
 obtain ⟨b0, x01, h⟩ := bind_in h
 refine RG.call' (fst := []) (cap := []) .plain body10 rfl (e1 rfl) (fun w9 hw9 => wardmotelaw26_Scene_set_c n _ w9 (hS8.hL hL hw9) a0 (hS8.km h0_1 hw9) (hS8.km h0_2 hw9) (hS8.km h0_3 hw9) (hS8.km h0_9 hw9) (hS8.km h0_10 hw9) x01) rfl (fun w14 Y03 y6 ⟨d1, g1, v21, hu_, W0, X0, F00⟩ => ?_)
 subst hu_
 obtain ⟨F5, j03⟩ := hS8.agr y6
 refine RG.mo rfl <| RG.va (FV.extract rfl rfl) <| RG.va (FV.extract rfl rfl) <| RG.va (FV.extract rfl rfl) <| RG.va (FV.extract rfl rfl) <| RG.new .plain rfl (Does.al [vI 0, vN] F5) (fun w26 M0 G5 X2 => ?_)
 refine RG.new .plain rfl (Does.al [vI 0, vI 0, vI 0, vN] G5) (fun w31 P0 I5 Y2 => ?_)
 have H8 := Rep.mv W0 (Tr.trans X2 Y2)
 refine RG.sa [vI b0.1.fN, d1] I5 (.tl .hd) (o2 rfl (Rep.o1 H8)) (fun w36 c6 V3 => ?_)
 have p2 := Tr.trans X2 (Tr.trans Y2 V3)
 have c00 := Rep.mv X0 p2
 refine RG.sa [vI b0.2.1.fGroups, vI b0.2.1.fParties, vI b0.2.1.fLevels, g1] c6 .hd (o4 rfl rfl rfl (Rep.o1 c00)) (fun w41 J1 b2 => ?_)
 refine RG.so rfl <| RG.so rfl <| RG.nil <| MX.sr <| RG.fa 10 rfl <| RG.va (FV.loadN (cs := [v0_10]) (by kernel_rfl) rfl (mem_part (J1.memA (.tl (.tl (.tl .hd)))) 10 1)) ?_
 refine RG.va (FV.lN rfl (J1.memA (.tl .hd))) <| RG.va (FV.lN rfl (J1.memA .hd)) <| RG.mo rfl <| RG.mo rfl ?_
 obtain ⟨g0, M01, h⟩ := bind_in h
 have d00 := Rep.mv W0 (Tr.trans p2 b2)
 have g00 := Rep.mv X0 (Tr.trans p2 b2)
 have j00 := Rep.mv F00 (Tr.trans p2 b2)
 refine RG.call' (fst := []) (cap := []) .plain body11 rfl (e5 rfl rfl rfl rfl rfl) (fun w9 hw9 => wardmoteref26_Draft_Session_c n _ w9 (J1.hL hL hw9) a0.fL (J1.km h0_10 hw9) b0.1 (Rep.keep0 d00 hw9) b0.2.1 (Rep.keep0 g00 hw9) b0.2.2.1 (Rep.keep0 j00 hw9) b0.2.2.2 M01) rfl (fun w48 v04 H6 ⟨z0, A0, B0, D0, hu_, J0, K0, G0, Y0⟩ => ?_)
 subst hu_
 obtain ⟨d6, W3⟩ := J1.agr H6
 refine RG.new .plain rfl (Does.al [vI 0, vN, vN, vN, vN] d6) (fun w62 Q0 g6 V0 => ?_)
 have k00 := Rep.mv J0 V0
 have p00 := Rep.mv K0 V0
 have q00 := Rep.mv G0 V0
 have s00 := Rep.mv Y0 V0
 refine RG.sa [vI g0.fK, z0, A0, B0, D0] g6 .hd (o5 rfl (Rep.o1 k00) (Rep.o1 p00) (Rep.o1 q00) (Rep.o1 s00)) (fun w70 s0 z1 => ?_)
 refine RG.nil <| MX.seq <| MX.sr <| RG.va (FV.lN rfl (s0.memA (.tl (.tl .hd)))) <| RG.va (FV.lN rfl (s0.memA (.tl .hd))) <| RG.va (FV.lN rfl (s0.memA .hd)) ?_
 obtain ⟨d5, P01, h⟩ := bind_in h
 have R1 := Tr.trans p2 (Tr.trans b2 (Tr.trans W3 (Tr.trans V0 z1)))
 have j4 := Rep.mv W0 R1
 have k4 := Rep.mv X0 R1
 have p4 := Rep.mv J0 (Tr.trans V0 z1)
 have q4 := Rep.mv K0 (Tr.trans V0 z1)
 have s4 := Rep.mv G0 (Tr.trans V0 z1)
 have t4 := Rep.mv Y0 (Tr.trans V0 z1)
 refine RG.cq (vI d5) body16 rfl (e3 rfl rfl rfl) (fun w9 hw9 => edit_Check_c n _ w9 (s0.hL0 hL hw9) b0.1 (s0.kd j4 hw9) b0.2.1 (s0.kd k4 hw9) g0 (s0.kd p4 hw9) (s0.kd q4 hw9) (s0.kd s4 hw9) (s0.kd t4 hw9) P01) rfl <| RG.va (FV.neq (i := d5) (j := 0) rfl rfl) <| RG.nil <| MX.ifn rfl h (fun C5 h => ?_) (fun C5 h => ?_)
 refine MX.skip <| MX.seq <| MX.seq <| MX.drawT 19 tb4_7 (by kernel_rfl) (by kernel_rfl) (by kernel_rfl) (fun k0 t0 => ?_)
 refine RD.vx 0 1 1818624 k0 rfl t0 (FV.lN rfl (s0.memA (.tl (.tl .hd)))) rfl <| RD.vx 1 3 1818624 k0 rfl t0 (FV.lN rfl (s0.memA (.tl .hd))) rfl <| RD.vx 2 7 1818624 k0 rfl t0 (FV.lN rfl (s0.memA .hd)) rfl <| RD.vw 3 15 k0 rfl t0 (fun _ => FV.indexArr (m := 1) (k := 0) (len := 2) (by kernel_rfl) rfl rfl rfl (by omega)) rfl <| RD.vx 4 31 1818912 k0 rfl t0 (FV.l1 rfl ((s0.memA (.tl (.tl (.tl .hd)))) 0 _ rfl)) rfl ?_
 have y03 := a1.1.toNat_lt
 refine RD.vw 5 63 k0 rfl t0 (fun _ => FV.convN (i := a1.1.toNat) Tryz.underlying5 Tryz.underlying3 rfl (by omega)) rfl <| RD.vw 6 127 k0 rfl t0 (fun _ => FV.fa 0 rfl) rfl <| RD.vx 7 255 1818880 k0 rfl t0 (FV.l1 rfl ((s0.memA (.tl (.tl .hd))) 0 _ rfl)) rfl ?_
 obtain ⟨V4, g01, h⟩ := bind_in h
 refine RD.vw 8 511 k0 rfl t0 (fun _ => FV.remc (i := ((a1.1.toNat : Nat) : Int)) (j := b0.1.fN) rfl rfl g01) rfl <| RD.vw 9 1023 k0 rfl t0 (fun _ => FV.indexArr (m := 1) (k := 1) (len := 2) (by kernel_rfl) rfl rfl rfl (by omega)) rfl <| RD.vx 10 2047 1828864 k0 rfl t0 (FV.l1 rfl ((s0.memA (.tl (.tl (.tl .hd)))) 1 _ rfl)) rfl ?_
 have z03 := a1.2.toNat_lt
 refine RD.vw 11 4095 k0 rfl t0 (fun _ => FV.convN (i := a1.2.toNat) Tryz.underlying5 Tryz.underlying3 rfl (by omega)) rfl <| RD.vw 12 8191 k0 rfl t0 (fun _ => FV.move rfl) rfl ?_
 obtain ⟨W4, j01, h⟩ := bind_in h
 refine RD.vw 13 16383 k0 rfl t0 (fun _ => FV.remc (i := ((a1.2.toNat : Nat) : Int)) (j := b0.2.2.2) rfl rfl j01) rfl ?_
 obtain ⟨x0, M4, h⟩ := bind_in h
 refine RD.meet (α := Value × Value × Value × Value × Nat) (fun ⟨D1, E1, F1, G1, j1⟩ => [(5, vP M0), (6, vP P0), (9, vP Q0), (56, .agg #[vI x0.1.fK, D1, E1, F1, G1]), (57, vI x0.2), (10, vP j1)]) (fun ⟨D1, E1, F1, G1, j1⟩ H1 => St w H1 [.cells j1 [vI 0, vN, vN, vN, vN] 48, .cells Q0 [vI g0.fK, z0, A0, B0, D0] 48, .cells P0 [vI b0.2.1.fGroups, vI b0.2.1.fParties, vI b0.2.1.fLevels, g1] 41, .cells M0 [vI b0.1.fN, d1] 38] ∧ Tr w70 [.cells Q0 [vI g0.fK, z0, A0, B0, D0] 48, .cells P0 [vI b0.2.1.fGroups, vI b0.2.1.fParties, vI b0.2.1.fLevels, g1] 41, .cells M0 [vI b0.1.fN, d1] 38, .cells g5 [.int .u8 (a1.1.toNat : Int), .int .u8 (a1.2.toNat : Int)] 34, .cells b5 [.int .u8 (a0.fD.fN.toNat : Int), v0_1, v0_2, v0_3, .int .u8 (a0.fD.fK.toNat : Int), .int .u8 (a0.fX.fGroups.toNat : Int), .int .u8 (a0.fX.fParties.toNat : Int), .int .u8 (a0.fX.fLevels.toNat : Int), .int .u8 (a0.fX.fWater.toNat : Int), v0_9, v0_10] 31] H1 [.cells j1 [vI 0, vN, vN, vN, vN] 48, .cells Q0 [vI g0.fK, z0, A0, B0, D0] 48, .cells P0 [vI b0.2.1.fGroups, vI b0.2.1.fParties, vI b0.2.1.fLevels, g1] 41, .cells M0 [vI b0.1.fN, d1] 38] ∧ Rep.R H1 (bl [.cells j1 [vI 0, vN, vN, vN, vN] 48, .cells Q0 [vI g0.fK, z0, A0, B0, D0] 48, .cells P0 [vI b0.2.1.fGroups, vI b0.2.1.fParties, vI b0.2.1.fLevels, g1] 41, .cells M0 [vI b0.1.fN, d1] 38] ++ L) [D1] x0.1.fPlan ∧ Rep.R H1 (bl [.cells j1 [vI 0, vN, vN, vN, vN] 48, .cells Q0 [vI g0.fK, z0, A0, B0, D0] 48, .cells P0 [vI b0.2.1.fGroups, vI b0.2.1.fParties, vI b0.2.1.fLevels, g1] 41, .cells M0 [vI b0.1.fN, d1] 38] ++ L) [E1] x0.1.fTotals ∧ Rep.R H1 (bl [.cells j1 [vI 0, vN, vN, vN, vN] 48, .cells Q0 [vI g0.fK, z0, A0, B0, D0] 48, .cells P0 [vI b0.2.1.fGroups, vI b0.2.1.fParties, vI b0.2.1.fLevels, g1] 41, .cells M0 [vI b0.1.fN, d1] 38] ++ L) [F1] x0.1.fDone ∧ Rep.R H1 (bl [.cells j1 [vI 0, vN, vN, vN, vN] 48, .cells Q0 [vI g0.fK, z0, A0, B0, D0] 48, .cells P0 [vI b0.2.1.fGroups, vI b0.2.1.fParties, vI b0.2.1.fLevels, g1] 41, .cells M0 [vI b0.1.fN, d1] 38] ++ L) [G1] x0.1.fUndone) 2 524287 ?_ ?_
 rintro ⟨D1, E1, F1, G1, j1⟩ H1 ⟨H5, A2, Q2, R2, q2, s2⟩
 try dsimp only
 refine RD.nw 19 1048575 k0 rfl rfl .plain (Acts.storeAll (news := [vI x0.1.fK, D1, E1, F1, G1]) H5 .hd rfl rfl rfl rfl rfl rfl (o5 rfl (Rep.o1 Q2) (Rep.o1 R2) (Rep.o1 q2) (Rep.o1 s2))) (fun B02 I1 y1 => ?_)
 refine RD.one (i := 20) (readyD_ok k0 (by kernel_rfl)) (RO.val (m' := 2097151) (stepC_ok k0 (by kernel_rfl)) rfl .plain rfl (FV.assign rfl) ?_)
 refine RD.done (doneD_ok k0 (by kernel_rfl)) <| MX.sr <| RG.mo rfl <| RG.va (FV.eql (i := x0.2) (j := 0) rfl rfl) <| RG.nil <| MX.join (α := Unit) (fun () => [(5, vP M0), (6, vP P0), (9, vP Q0)]) (fun () B3 => St w B3 [.cells Q0 [vI g0.fK, z0, A0, B0, D0] 48, .cells P0 [vI b0.2.1.fGroups, vI b0.2.1.fParties, vI b0.2.1.fLevels, g1] 41, .cells M0 [vI b0.1.fN, d1] 38] ∧ Tr B02 [.cells j1 [vI x0.1.fK, D1, E1, F1, G1] 48, .cells Q0 [vI g0.fK, z0, A0, B0, D0] 48, .cells P0 [vI b0.2.1.fGroups, vI b0.2.1.fParties, vI b0.2.1.fLevels, g1] 41, .cells M0 [vI b0.1.fN, d1] 38] B3 [.cells Q0 [vI g0.fK, z0, A0, B0, D0] 48, .cells P0 [vI b0.2.1.fGroups, vI b0.2.1.fParties, vI b0.2.1.fLevels, g1] 41, .cells M0 [vI b0.1.fN, d1] 38]) (fun () => ()) h ?_ ?_
 rintro ⟨⟩ B3 ⟨U1, P3⟩ h
 try dsimp only at h
 refine MX.seq <| MX.sr <| RG.va (FV.lN rfl (U1.memA (.tl (.tl .hd)))) <| RG.va (FV.lN rfl (U1.memA (.tl .hd))) <| RG.va (FV.lN rfl (U1.memA .hd)) ?_
 obtain ⟨C3, y01, h⟩ := bind_in h
 have E2 := Tr.trans R1 (Tr.trans A2 (Tr.trans y1 P3))
 have X6 := Rep.mv W0 E2
 have Y6 := Rep.mv X0 E2
 have K1 := Tr.trans V0 (Tr.trans z1 (Tr.trans A2 (Tr.trans y1 P3)))
 have Z6 := Rep.mv J0 K1
 have b7 := Rep.mv K0 K1
 have c7 := Rep.mv G0 K1
 have d7 := Rep.mv Y0 K1
 refine RG.call' (fst := []) (cap := []) .plain body17 rfl (e3 rfl rfl rfl) (fun w9 hw9 => edit_Undo_c n _ w9 (U1.hL hL hw9) b0.1 (Rep.keep0 X6 hw9) b0.2.1 (Rep.keep0 Y6 hw9) g0 (Rep.keep0 Z6 hw9) (Rep.keep0 b7 hw9) (Rep.keep0 c7 hw9) (Rep.keep0 d7 hw9) y01) rfl (fun C04 Z03 z6 ⟨b02, c02, d02, g02, hu_, z4, A4, B4, C4⟩ => ?_)
 subst hu_
 obtain ⟨J5, B2⟩ := U1.agr z6
 refine RG.mo rfl <| RG.va (FV.extract rfl rfl) <| RG.va (FV.extract rfl rfl) <| RG.new .plain rfl (Does.al [vI 0, vN, vN, vN, vN] J5) (fun D04 V02 K5 p1 => ?_)
 have g7 := Rep.mv z4 p1
 have j7 := Rep.mv A4 p1
 have k7 := Rep.mv B4 p1
 have p7 := Rep.mv C4 p1
 refine RG.sa [vI C3.1.fK, b02, c02, d02, g02] K5 .hd (o5 rfl (Rep.o1 g7) (Rep.o1 j7) (Rep.o1 k7) (Rep.o1 p7)) (fun C02 R0 V1 => ?_)
 refine RG.so rfl <| RG.nil <| MX.seq <| MX.drawT 14 tb4_17 (by kernel_rfl) (by kernel_rfl) (by kernel_rfl) (fun y0 H0 => ?_)
 refine RD.vw 0 1 y0 rfl H0 (fun _ => FV.move rfl) rfl <| RD.vw 1 3 y0 rfl H0 (fun _ => FV.eql (i := C3.2) (j := 0) rfl rfl) rfl <| RD.vw 2 7 y0 rfl H0 (fun _ => FV.move rfl) rfl <| RD.ifd (s := 134) rfl h (fun k5 h => ?_) (fun k5 h => ?_)
 refine RD.val (i := 3) (m' := 15) (W := 16144) (takeC_ok y0 (by kernel_rfl)) rfl H0 (.yes rfl rfl) (FV.lN rfl (R0.memA (.tl .hd))) rfl <| RD.val (i := 5) (m' := 47) (W := 16128) (takeC_ok y0 (by kernel_rfl)) rfl H0 (.yes rfl rfl) (FV.lN rfl (R0.memA (.tl (.tl (.tl .hd))))) rfl <| RD.val (i := 6) (m' := 111) (W := 16128) (takeC_ok y0 (by kernel_rfl)) rfl H0 (.yes rfl rfl) (FV.lN rfl (R0.memA (.tl (.tl .hd)))) rfl <| RD.val (i := 7) (m' := 239) (W := 16128) (takeC_ok y0 (by kernel_rfl)) rfl H0 (.yes rfl rfl) (FV.lN rfl (R0.memA .hd)) rfl ?_
 have c2 := Tr.trans K1 (Tr.trans B2 (Tr.trans p1 V1))
 have q7 := Rep.mv J0 c2
 have s7 := Rep.mv K0 c2
 have t7 := Rep.mv G0 c2
 have u7 := Rep.mv Y0 c2
 refine RD.cl 4 255 y0 rfl (.yes rfl rfl) body19 rfl (e1 rfl) (fun w9 hw9 => Calls.gives (wardmotelaw26_is_c n _ w9 (R0.hL hL hw9) g0 (Rep.keep0 q7 hw9) (Rep.keep0 s7 hw9) (Rep.keep0 t7 hw9) (Rep.keep0 u7 hw9)) fun (w8 : World) (u8 : Value) ⟨b0_, hu_, s_⟩ => (⟨b0_, hu_, s_.from hw9⟩ : ∃ u2 : Nat, u8 = Value.func (.func 53) #[] #[vP u2] ∧ St C02 w8 [.cells u2 [vI g0.fK, z0, A0, B0, D0] 48])) rfl (fun E04 b04 k03 ⟨u2, k01, P4⟩ => ?_)
 subst k01
 have H3 := mk_push1 R0 P4
 have Z2 := mk_tr1 R0 P4
 obtain ⟨X4, z01, h⟩ := bind_in h
 have u4 := Tr.trans E2 (Tr.trans B2 (Tr.trans p1 (Tr.trans V1 Z2)))
 have v7 := Rep.mv W0 u4
 have x7 := Rep.mv X0 u4
 have F2 := Tr.trans p1 (Tr.trans V1 Z2)
 have y7 := Rep.mv z4 F2
 have z7 := Rep.mv A4 F2
 have A7 := Rep.mv B4 F2
 have B7 := Rep.mv C4 F2
 refine RD.cl 8 511 y0 rfl (.yes rfl rfl) body20 rfl (e3 rfl rfl rfl) (fun w9 hw9 => edit_Redo_c n _ w9 (H3.hL hL hw9) b0.1 (Rep.keep0 v7 hw9) b0.2.1 (Rep.keep0 x7 hw9) C3.1 (Rep.keep0 y7 hw9) (Rep.keep0 z7 hw9) (Rep.keep0 A7 hw9) (Rep.keep0 B7 hw9) z01) rfl (fun F04 c04 A6 ⟨B03, C03, D03, E03, hu_, G00, H00, I00, J00⟩ => ?_)
 subst hu_
 obtain ⟨C0, p6⟩ := H3.agr A6
 refine RD.vP 9 1023 y0 rfl H0 (.yes rfl rfl) (fun _ => FV.extract rfl rfl) rfl <| RD.vP 10 2047 y0 rfl H0 (.yes rfl rfl) (fun _ => FV.extract rfl rfl) rfl ?_
 obtain ⟨I02, A01, h⟩ := bind_in h
 have M1 := Tr.trans c2 (Tr.trans Z2 p6)
 have X3 := Rep.mv J0 M1
 have Y3 := Rep.mv K0 M1
 have Z3 := Rep.mv G0 M1
 have b4 := Rep.mv Y0 M1
 refine RD.callq (i := 11) (m' := 4095) (W := 12288) (takeC_ok y0 (by kernel_rfl)) rfl H0 (v := .bool I02) (fst := []) (cap := [vP u2]) (.yes rfl rfl) body53 rfl (e2 rfl rfl) (fun w9 hw9 => wardmotelaw26_is_1_c n _ w9 (C0.hL0 hL hw9) X4.1 (C0.kd G00 hw9) (C0.kd H00 hw9) (C0.kd I00 hw9) (C0.kd J00 hw9) X4.2 g0 (C0.kd X3 hw9) (C0.kd Y3 hw9) (C0.kd Z3 hw9) (C0.kd b4 hw9) (fun j9 v9 h9 => hw9.cell0 ((C0.memA .hd) j9 v9 h9)) A01) rfl <| RD.vP 12 8191 y0 rfl H0 (.yes rfl rfl) (fun _ => FV.not rfl) rfl <| RD.vw 13 16383 y0 rfl H0 (fun _ => FV.pick_t rfl rfl) rfl <| RD.done (doneD_ok y0 (by kernel_rfl)) <| MX.ifnb rfl h (fun p5 h => ?_) (fun p5 h => ?_)
 refine MX.skip <| MX.sr <| RG.va (FV.lN rfl (C0.memA (.tl (.tl (.tl (.tl .hd)))))) <| RG.va (FV.lN rfl (C0.memA (.tl (.tl (.tl .hd))))) <| RG.va (FV.lN rfl (C0.memA (.tl (.tl .hd)))) ?_
 obtain ⟨D3, B01, h⟩ := bind_in h
 have s3 := Tr.trans X2 (Tr.trans Y2 (Tr.trans V3 (Tr.trans b2 (Tr.trans W3 M1))))
 have C7 := Rep.mv W0 s3
 have D7 := Rep.mv X0 s3
 refine RG.call' (fst := []) (cap := []) .plain body20 rfl (e3 rfl rfl rfl) (fun w9 hw9 => edit_Redo_c n _ w9 (C0.hL hL hw9) b0.1 (Rep.keep0 C7 hw9) b0.2.1 (Rep.keep0 D7 hw9) g0 (Rep.keep0 X3 hw9) (Rep.keep0 Y3 hw9) (Rep.keep0 Z3 hw9) (Rep.keep0 b4 hw9) B01) rfl (fun G04 d04 B6 ⟨j02, k02, p02, q02, hu_, D4, E4, F4, G4⟩ => ?_)
 subst hu_
 obtain ⟨M5, Q3⟩ := C0.agr B6
 refine RG.mo rfl <| RG.va (FV.extract rfl rfl) <| RG.va (FV.extract rfl rfl) <| RG.new .plain rfl (Does.al [vI 0, vN, vN, vN, vN] M5) (fun H04 W02 P5 B1 => ?_)
 have E7 := Rep.mv D4 B1
 have F7 := Rep.mv E4 B1
 have G7 := Rep.mv F4 B1
 have H7 := Rep.mv G4 B1
 refine RG.sa [vI D3.1.fK, j02, k02, p02, q02] P5 .hd (o5 rfl (Rep.o1 E7) (Rep.o1 F7) (Rep.o1 G7) (Rep.o1 H7)) (fun D02 v1 b3 => ?_)
 refine RG.so rfl <| RG.nil <| MX.seq <| MX.drawT 14 tb4_20 (by kernel_rfl) (by kernel_rfl) (by kernel_rfl) (fun u0 E0 => ?_)
 refine RD.vw 0 1 u0 rfl E0 (fun _ => FV.move rfl) rfl <| RD.vw 1 3 u0 rfl E0 (fun _ => FV.neq (i := D3.2) (j := 0) rfl rfl) rfl <| RD.vw 2 7 u0 rfl E0 (fun _ => FV.move rfl) rfl <| RD.ifn (s := 155) rfl h (fun q5 h => ?_) (fun q5 h => ?_)
 refine RD.val (i := 3) (m' := 15) (W := 16144) (takeC_ok u0 (by kernel_rfl)) rfl E0 (.yes rfl rfl) (FV.lN rfl (v1.memA (.tl (.tl (.tl .hd))))) rfl <| RD.val (i := 5) (m' := 47) (W := 16128) (takeC_ok u0 (by kernel_rfl)) rfl E0 (.yes rfl rfl) (FV.lN rfl (v1.memA (.tl (.tl (.tl (.tl (.tl .hd))))))) rfl <| RD.val (i := 6) (m' := 111) (W := 16128) (takeC_ok u0 (by kernel_rfl)) rfl E0 (.yes rfl rfl) (FV.lN rfl (v1.memA (.tl (.tl (.tl (.tl .hd)))))) rfl <| RD.val (i := 7) (m' := 239) (W := 16128) (takeC_ok u0 (by kernel_rfl)) rfl E0 (.yes rfl rfl) (FV.lN rfl (v1.memA .hd)) rfl ?_
 have d2 := Tr.trans M1 (Tr.trans Q3 (Tr.trans B1 b3))
 have I7 := Rep.mv J0 d2
 have J7 := Rep.mv K0 d2
 have K7 := Rep.mv G0 d2
 have M7 := Rep.mv Y0 d2
 refine RD.cl 4 255 u0 rfl (.yes rfl rfl) body19 rfl (e1 rfl) (fun w9 hw9 => Calls.gives (wardmotelaw26_is_c n _ w9 (v1.hL hL hw9) g0 (Rep.keep0 I7 hw9) (Rep.keep0 J7 hw9) (Rep.keep0 K7 hw9) (Rep.keep0 M7 hw9)) fun (w8 : World) (u8 : Value) ⟨b0_, hu_, s_⟩ => (⟨b0_, hu_, s_.from hw9⟩ : ∃ v2 : Nat, u8 = Value.func (.func 53) #[] #[vP v2] ∧ St D02 w8 [.cells v2 [vI g0.fK, z0, A0, B0, D0] 48])) rfl (fun I04 g04 p03 ⟨v2, p01, Q4⟩ => ?_)
 subst p01
 have I3 := mk_push1 v1 Q4
 have c3 := mk_tr1 v1 Q4
 obtain ⟨Y4, C01, h⟩ := bind_in h
 have v4 := Tr.trans s3 (Tr.trans Q3 (Tr.trans B1 (Tr.trans b3 c3)))
 have P7 := Rep.mv W0 v4
 have Q7 := Rep.mv X0 v4
 have G2 := Tr.trans B1 (Tr.trans b3 c3)
 have R7 := Rep.mv D4 G2
 have U7 := Rep.mv E4 G2
 have V7 := Rep.mv F4 G2
 have W7 := Rep.mv G4 G2
 refine RD.cl 8 511 u0 rfl (.yes rfl rfl) body17 rfl (e3 rfl rfl rfl) (fun w9 hw9 => edit_Undo_c n _ w9 (I3.hL hL hw9) b0.1 (Rep.keep0 P7 hw9) b0.2.1 (Rep.keep0 Q7 hw9) D3.1 (Rep.keep0 R7 hw9) (Rep.keep0 U7 hw9) (Rep.keep0 V7 hw9) (Rep.keep0 W7 hw9) C01) rfl (fun J04 j04 C6 ⟨F03, G03, H03, I03, hu_, K00, M00, P00, Q00⟩ => ?_)
 subst hu_
 obtain ⟨Z0, q6⟩ := I3.agr C6
 refine RD.vP 9 1023 u0 rfl E0 (.yes rfl rfl) (fun _ => FV.extract rfl rfl) rfl <| RD.vP 10 2047 u0 rfl E0 (.yes rfl rfl) (fun _ => FV.extract rfl rfl) rfl ?_
 obtain ⟨J02, D01, h⟩ := bind_in h
 have H2 := Tr.trans d2 (Tr.trans c3 q6)
 have X7 := Rep.mv J0 H2
 have Y7 := Rep.mv K0 H2
 have Z7 := Rep.mv G0 H2
 have b8 := Rep.mv Y0 H2
 refine RD.callq (i := 11) (m' := 4095) (W := 12288) (takeC_ok u0 (by kernel_rfl)) rfl E0 (v := .bool J02) (fst := []) (cap := [vP v2]) (.yes rfl rfl) body53 rfl (e2 rfl rfl) (fun w9 hw9 => wardmotelaw26_is_1_c n _ w9 (Z0.hL0 hL hw9) Y4.1 (Z0.kd K00 hw9) (Z0.kd M00 hw9) (Z0.kd P00 hw9) (Z0.kd Q00 hw9) Y4.2 g0 (Z0.kd X7 hw9) (Z0.kd Y7 hw9) (Z0.kd Z7 hw9) (Z0.kd b8 hw9) (fun j9 v9 h9 => hw9.cell0 ((Z0.memA .hd) j9 v9 h9)) D01) rfl <| RD.vw 12 8191 u0 rfl E0 (fun _ => FV.pick_f rfl rfl) rfl <| RD.vw 13 16383 u0 rfl E0 (fun _ => FV.assign rfl) rfl <| RD.done (doneD_ok u0 (by kernel_rfl)) <| MX.ret rfl <| RT.t1 hb0 Tryz.func4 rfl rfl ?_
 cases h
 exact Z0.gv
 refine RD.offs 4095 2 [(3, 156), (4, 157), (5, 158), (6, 159), (7, 160), (8, 161), (9, 162), (10, 163), (11, 164)] (F := [(155, true)]) (U := []) u0 E0 (.cons rfl .nil) .nil ?_
 dsimp only [offS, List.map]
 refine RD.vw 12 8191 u0 rfl E0 (fun _ => FV.pick_t rfl rfl) rfl <| RD.vw 13 16383 u0 rfl E0 (fun _ => FV.assign rfl) rfl <| RD.done (doneD_ok u0 (by kernel_rfl)) <| MX.ret rfl <| RT.t1 hb0 Tryz.func4 rfl rfl ?_
 cases h
 exact v1.gv
 refine MX.sr <| RG.so rfl <| RG.nil <| MX.ret rfl <| RT.t1 hb0 Tryz.func4 rfl rfl ?_
 cases h
 exact C0.gv
 refine RD.offs 8191 1 [(3, 135), (4, 136), (5, 137), (6, 138), (7, 139), (8, 140), (9, 141), (10, 142), (11, 143), (12, 144)] (F := [(134, false)]) (U := []) y0 H0 (.cons rfl .nil) .nil ?_
 dsimp only [offS, List.map]
 refine RD.vw 13 16383 y0 rfl H0 (fun _ => FV.pick_f rfl rfl) rfl <| RD.done (doneD_ok y0 (by kernel_rfl)) <| MX.cond_f rfl <| MX.skip <| MX.sr <| RG.va (FV.lN rfl (R0.memA (.tl (.tl (.tl .hd))))) ?_
 refine RG.va (FV.lN rfl (R0.memA (.tl (.tl .hd)))) <| RG.va (FV.lN rfl (R0.memA (.tl .hd))) ?_
 obtain ⟨E3, E01, h⟩ := bind_in h
 have t3 := Tr.trans E2 (Tr.trans B2 (Tr.trans p1 V1))
 have c8 := Rep.mv W0 t3
 have d8 := Rep.mv X0 t3
 have g2 := Tr.trans K1 (Tr.trans B2 (Tr.trans p1 V1))
 have g8 := Rep.mv J0 g2
 have j8 := Rep.mv K0 g2
 have k8 := Rep.mv G0 g2
 have p8 := Rep.mv Y0 g2
 refine RG.call' (fst := []) (cap := []) .plain body20 rfl (e3 rfl rfl rfl) (fun w9 hw9 => edit_Redo_c n _ w9 (R0.hL hL hw9) b0.1 (Rep.keep0 c8 hw9) b0.2.1 (Rep.keep0 d8 hw9) g0 (Rep.keep0 g8 hw9) (Rep.keep0 j8 hw9) (Rep.keep0 k8 hw9) (Rep.keep0 p8 hw9) E01) rfl (fun K04 k04 D6 ⟨s02, t02, u02, v02, hu_, H4, I4, J4, K4⟩ => ?_)
 subst hu_
 obtain ⟨Q5, R3⟩ := R0.agr D6
 refine RG.mo rfl <| RG.va (FV.extract rfl rfl) <| RG.va (FV.extract rfl rfl) <| RG.new .plain rfl (Does.al [vI 0, vN, vN, vN, vN] Q5) (fun M04 X02 R5 C1 => ?_)
 have q8 := Rep.mv H4 C1
 have s8 := Rep.mv I4 C1
 have t8 := Rep.mv J4 C1
 have v8 := Rep.mv K4 C1
 refine RG.sa [vI E3.1.fK, s02, t02, u02, v02] R5 .hd (o5 rfl (Rep.o1 q8) (Rep.o1 s8) (Rep.o1 t8) (Rep.o1 v8)) (fun E02 x1 d3 => ?_)
 refine RG.so rfl <| RG.nil <| MX.seq <| MX.drawT 14 tb4_20 (by kernel_rfl) (by kernel_rfl) (by kernel_rfl) (fun v0 F0 => ?_)
 refine RD.vw 0 1 v0 rfl F0 (fun _ => FV.move rfl) rfl <| RD.vw 1 3 v0 rfl F0 (fun _ => FV.neq (i := E3.2) (j := 0) rfl rfl) rfl <| RD.vw 2 7 v0 rfl F0 (fun _ => FV.move rfl) rfl <| RD.ifn (s := 155) rfl h (fun s5 h => ?_) (fun s5 h => ?_)
 refine RD.val (i := 3) (m' := 15) (W := 16144) (takeC_ok v0 (by kernel_rfl)) rfl F0 (.yes rfl rfl) (FV.lN rfl (x1.memA (.tl (.tl .hd)))) rfl <| RD.val (i := 5) (m' := 47) (W := 16128) (takeC_ok v0 (by kernel_rfl)) rfl F0 (.yes rfl rfl) (FV.lN rfl (x1.memA (.tl (.tl (.tl (.tl .hd)))))) rfl <| RD.val (i := 6) (m' := 111) (W := 16128) (takeC_ok v0 (by kernel_rfl)) rfl F0 (.yes rfl rfl) (FV.lN rfl (x1.memA (.tl (.tl (.tl .hd))))) rfl <| RD.val (i := 7) (m' := 239) (W := 16128) (takeC_ok v0 (by kernel_rfl)) rfl F0 (.yes rfl rfl) (FV.lN rfl (x1.memA .hd)) rfl ?_
 have j2 := Tr.trans g2 (Tr.trans R3 (Tr.trans C1 d3))
 have x8 := Rep.mv J0 j2
 have y8 := Rep.mv K0 j2
 have z8 := Rep.mv G0 j2
 have A8 := Rep.mv Y0 j2
 refine RD.cl 4 255 v0 rfl (.yes rfl rfl) body19 rfl (e1 rfl) (fun w9 hw9 => Calls.gives (wardmotelaw26_is_c n _ w9 (x1.hL hL hw9) g0 (Rep.keep0 x8 hw9) (Rep.keep0 y8 hw9) (Rep.keep0 z8 hw9) (Rep.keep0 A8 hw9)) fun (w8 : World) (u8 : Value) ⟨b0_, hu_, s_⟩ => (⟨b0_, hu_, s_.from hw9⟩ : ∃ x2 : Nat, u8 = Value.func (.func 53) #[] #[vP x2] ∧ St E02 w8 [.cells x2 [vI g0.fK, z0, A0, B0, D0] 48])) rfl (fun P04 p04 q03 ⟨x2, q01, R4⟩ => ?_)
 subst q01
 have J3 := mk_push1 x1 R4
 have g3 := mk_tr1 x1 R4
 obtain ⟨Z4, F01, h⟩ := bind_in h
 have x4 := Tr.trans t3 (Tr.trans R3 (Tr.trans C1 (Tr.trans d3 g3)))
 have B8 := Rep.mv W0 x4
 have C8 := Rep.mv X0 x4
 have I2 := Tr.trans C1 (Tr.trans d3 g3)
 have D8 := Rep.mv H4 I2
 have E8 := Rep.mv I4 I2
 have F8 := Rep.mv J4 I2
 have G8 := Rep.mv K4 I2
 refine RD.cl 8 511 v0 rfl (.yes rfl rfl) body17 rfl (e3 rfl rfl rfl) (fun w9 hw9 => edit_Undo_c n _ w9 (J3.hL hL hw9) b0.1 (Rep.keep0 B8 hw9) b0.2.1 (Rep.keep0 C8 hw9) E3.1 (Rep.keep0 D8 hw9) (Rep.keep0 E8 hw9) (Rep.keep0 F8 hw9) (Rep.keep0 G8 hw9) F01) rfl (fun Q04 q04 E6 ⟨J03, K03, M03, P03, hu_, R00, U00, V00, W00⟩ => ?_)
 subst hu_
 obtain ⟨b1, s6⟩ := J3.agr E6
 refine RD.vP 9 1023 v0 rfl F0 (.yes rfl rfl) (fun _ => FV.extract rfl rfl) rfl <| RD.vP 10 2047 v0 rfl F0 (.yes rfl rfl) (fun _ => FV.extract rfl rfl) rfl ?_
 obtain ⟨K02, G01, h⟩ := bind_in h
 have J2 := Tr.trans j2 (Tr.trans g3 s6)
 have I8 := Rep.mv J0 J2
 have J8 := Rep.mv K0 J2
 have K8 := Rep.mv G0 J2
 have M8 := Rep.mv Y0 J2
 refine RD.callq (i := 11) (m' := 4095) (W := 12288) (takeC_ok v0 (by kernel_rfl)) rfl F0 (v := .bool K02) (fst := []) (cap := [vP x2]) (.yes rfl rfl) body53 rfl (e2 rfl rfl) (fun w9 hw9 => wardmotelaw26_is_1_c n _ w9 (b1.hL0 hL hw9) Z4.1 (b1.kd R00 hw9) (b1.kd U00 hw9) (b1.kd V00 hw9) (b1.kd W00 hw9) Z4.2 g0 (b1.kd I8 hw9) (b1.kd J8 hw9) (b1.kd K8 hw9) (b1.kd M8 hw9) (fun j9 v9 h9 => hw9.cell0 ((b1.memA .hd) j9 v9 h9)) G01) rfl <| RD.vw 12 8191 v0 rfl F0 (fun _ => FV.pick_f rfl rfl) rfl <| RD.vw 13 16383 v0 rfl F0 (fun _ => FV.assign rfl) rfl <| RD.done (doneD_ok v0 (by kernel_rfl)) <| MX.ret rfl <| RT.t1 hb0 Tryz.func4 rfl rfl ?_
 cases h
 exact b1.gv
 refine RD.offs 4095 2 [(3, 156), (4, 157), (5, 158), (6, 159), (7, 160), (8, 161), (9, 162), (10, 163), (11, 164)] (F := [(155, true)]) (U := []) v0 F0 (.cons rfl .nil) .nil ?_
 dsimp only [offS, List.map]
 refine RD.vw 12 8191 v0 rfl F0 (fun _ => FV.pick_t rfl rfl) rfl <| RD.vw 13 16383 v0 rfl F0 (fun _ => FV.assign rfl) rfl <| RD.done (doneD_ok v0 (by kernel_rfl)) <| MX.ret rfl <| RT.t1 hb0 Tryz.func4 rfl rfl ?_
 cases h
 exact x1.gv
 intro U02 F3 h
 try dsimp only at h
 refine MX.ifd rfl h (fun t5 h => ?_) (fun t5 h => ?_)
 refine MX.sr <| RG.va (FV.lN rfl (I1.memA (.tl (.tl (.tl .hd))))) <| RG.va (FV.lN rfl (I1.memA (.tl (.tl .hd)))) <| RG.va (FV.lN rfl (I1.memA .hd)) ?_
 obtain ⟨A1, H01, h⟩ := bind_in h
 have u3 := Tr.trans R1 (Tr.trans A2 y1)
 have P8 := Rep.mv W0 u3
 have Q8 := Rep.mv X0 u3
 have R8 := Rep.mv Q2 y1
 have U8 := Rep.mv R2 y1
 have V8 := Rep.mv q2 y1
 have W8 := Rep.mv s2 y1
 refine RG.call' (fst := []) (cap := []) .plain body17 rfl (e3 rfl rfl rfl) (fun w9 hw9 => edit_Undo_c n _ w9 (I1.hL hL hw9) b0.1 (Rep.keep0 P8 hw9) b0.2.1 (Rep.keep0 Q8 hw9) x0.1 (Rep.keep0 R8 hw9) (Rep.keep0 U8 hw9) (Rep.keep0 V8 hw9) (Rep.keep0 W8 hw9) H01) rfl (fun R04 s04 F6 ⟨x02, y02, z02, A3, hu_, x3, y3, z3, t2⟩ => ?_)
 subst hu_
 obtain ⟨U5, j3⟩ := I1.agr F6
 refine RG.mo rfl <| RG.va (FV.extract rfl rfl) <| RG.va (FV.extract rfl rfl) <| RG.new .plain rfl (Does.al [vI 0, vN, vN, vN, vN] U5) (fun U04 Y02 V5 q1 => ?_)
 have X8 := Rep.mv x3 q1
 have Y8 := Rep.mv y3 q1
 have Z8 := Rep.mv z3 q1
 have b9 := Rep.mv t2 q1
 refine RG.sa [vI A1.1.fK, x02, y02, z02, A3] V5 .hd (o5 rfl (Rep.o1 X8) (Rep.o1 Y8) (Rep.o1 Z8) (Rep.o1 b9)) (fun V04 I0 W1 => ?_)
 refine RG.so rfl <| RG.nil <| MX.seq <| MX.seq <| MX.drawT 34 tb4_10 (by kernel_rfl) (by kernel_rfl) (by kernel_rfl) (fun c0 d0 => ?_)
 refine RD.vw 0 1 c0 rfl d0 (fun _ => FV.fa 3 rfl) rfl <| RD.vx 1 3 17179869060 c0 rfl d0 (FV.l1 rfl ((I0.memA (.tl .hd)) 3 _ rfl)) rfl ?_
 have K2 := Tr.trans y1 (Tr.trans j3 (Tr.trans q1 W1))
 have k3 := Rep.mv q2 K2
 have t03 : x0.1.fDone.length ≤ 281474976710656 := Rep.lenle k3
 refine RD.vx 2 7 17179869056 c0 rfl d0 (FV.len (xs := x0.1.fDone) Tryz.underlying46 rfl k3) rfl <| RD.vw 3 15 c0 rfl d0 (fun _ => FV.fa 3 rfl) rfl <| RD.vx 4 31 17179869152 c0 rfl d0 (FV.l1 rfl ((I0.memA (.tl (.tl .hd))) 3 _ rfl)) rfl ?_
 have P1 := Tr.trans V0 (Tr.trans z1 (Tr.trans A2 K2))
 have p3 := Rep.mv G0 P1
 have u03 : g0.fDone.length ≤ 281474976710656 := Rep.lenle p3
 refine RD.vx 5 63 17179869120 c0 rfl d0 (FV.len (xs := g0.fDone) Tryz.underlying46 rfl p3) rfl <| RD.vw 6 127 c0 rfl d0 (fun _ => FV.addN (i := g0.fDone.length) (j := 1) rfl rfl (by omega)) rfl <| RD.vw 7 255 c0 rfl d0 (fun _ => FV.neqN (i := x0.1.fDone.length) (j := g0.fDone.length + 1) rfl rfl) rfl <| RD.vw 8 511 c0 rfl d0 (fun _ => FV.move rfl) rfl <| RD.ifn (s := 75) rfl h (fun u5 h => ?_) (fun u5 h => ?_)
 refine RD.vP 9 1023 c0 rfl d0 (.yes rfl rfl) (fun _ => FV.fa 4 rfl) rfl <| RD.val (i := 10) (m' := 2047) (W := 17179867136) (takeC_ok c0 (by kernel_rfl)) rfl d0 (.yes rfl rfl) (FV.l1 rfl ((I0.memA (.tl .hd)) 4 _ rfl)) rfl ?_
 have c4 := Rep.mv s2 K2
 have v03 : x0.1.fUndone.length ≤ 281474976710656 := Rep.lenle c4
 refine RD.val (i := 11) (m' := 4095) (W := 17179865088) (takeC_ok c0 (by kernel_rfl)) rfl d0 (.yes rfl rfl) (FV.len (xs := x0.1.fUndone) Tryz.underlying46 rfl c4) rfl <| RD.vP 12 8191 c0 rfl d0 (.yes rfl rfl) (fun _ => FV.gtrN (i := x0.1.fUndone.length) (j := 0) rfl rfl) rfl <| RD.vw 13 16383 c0 rfl d0 (fun _ => FV.pick_f rfl rfl) rfl <| RD.vw 14 32767 c0 rfl d0 (fun _ => FV.move rfl) rfl <| RD.ifd (s := 81) rfl h (fun v5 h => ?_) (fun v5 h => ?_)
 refine RD.offs 524287 15 [(15, 82), (16, 83), (17, 84), (18, 85)] (F := [(81, true)]) (U := []) c0 d0 (.cons rfl .nil) .nil ?_
 dsimp only [offS, List.map]
 refine RD.vw 19 1048575 c0 rfl d0 (fun _ => FV.pick_t rfl rfl) rfl <| RD.vw 20 2097151 c0 rfl d0 (fun _ => FV.move rfl) rfl <| RD.offs 8589934591 1 [(21, 88), (22, 89), (23, 90), (24, 91), (25, 92), (26, 93), (27, 94), (28, 95), (29, 96), (30, 97), (31, 98), (32, 99)] (F := [(87, true)]) (U := []) c0 d0 (.cons rfl .nil) .nil ?_
 dsimp only [offS, List.map]
 refine RD.vw 33 17179869183 c0 rfl d0 (fun _ => FV.pick_t rfl rfl) rfl <| RD.done (doneD_ok c0 (by kernel_rfl)) <| MX.cond_t rfl <| MX.sr <| RG.so rfl <| RG.nil ?_
 refine MX.ret rfl <| RT.t1 hb0 Tryz.func4 rfl rfl ?_
 cases h
 exact I0.gv
 refine RD.vP 15 65535 c0 rfl d0 (.yes rfl rfl) (fun _ => FV.fa 4 rfl) rfl <| RD.val (i := 16) (m' := 131071) (W := 17179738112) (takeC_ok c0 (by kernel_rfl)) rfl d0 (.yes rfl rfl) (FV.l1 rfl ((I0.memA .hd) 4 _ rfl)) rfl ?_
 have q3 := Rep.mv t2 (Tr.trans q1 W1)
 have x03 : A1.1.fUndone.length ≤ 281474976710656 := Rep.lenle q3
 refine RD.val (i := 17) (m' := 262143) (W := 17179607040) (takeC_ok c0 (by kernel_rfl)) rfl d0 (.yes rfl rfl) (FV.len (xs := A1.1.fUndone) Tryz.underlying46 rfl q3) rfl <| RD.vP 18 524287 c0 rfl d0 (.yes rfl rfl) (fun _ => FV.neqN (i := A1.1.fUndone.length) (j := 1) rfl rfl) rfl <| RD.vw 19 1048575 c0 rfl d0 (fun _ => FV.pick_f rfl rfl) rfl <| RD.vw 20 2097151 c0 rfl d0 (fun _ => FV.move rfl) rfl <| RD.ifn (s := 87) rfl h (fun x5 h => ?_) (fun x5 h => ?_)
 refine RD.vP 21 4194303 c0 rfl d0 (.yes rfl rfl) (fun _ => FV.fa 4 rfl) rfl <| RD.val (i := 22) (m' := 8388607) (W := 12910067712) (takeC_ok c0 (by kernel_rfl)) rfl d0 (.yes rfl rfl) (FV.l1 rfl ((I0.memA .hd) 4 _ rfl)) rfl ?_
 obtain ⟨U2, t01, h⟩ := bind_in h
 obtain ⟨Q02, b03, I6, K6, d03, X00, c9⟩ := Rep.nth q3 t01
 obtain rfl := op_TMove X00
 refine RD.vP 23 16777215 c0 rfl d0 (.yes rfl rfl) (fun _ => FV.ia 3 0 rfl I6 rfl rfl K6) rfl <| RD.val (i := 24) (m' := 33554431) (W := 12884901888) (takeC_ok c0 (by kernel_rfl)) rfl d0 (.yes rfl rfl) (FV.lN rfl c9) rfl <| RD.vP 25 67108863 c0 rfl d0 (.yes rfl rfl) (fun _ => FV.fa 3 rfl) rfl <| RD.val (i := 26) (m' := 134217727) (W := 16106127360) (takeC_ok c0 (by kernel_rfl)) rfl d0 (.yes rfl rfl) (FV.l1 rfl ((I0.memA (.tl .hd)) 3 _ rfl)) rfl <| RD.vP 27 268435455 c0 rfl d0 (.yes rfl rfl) (fun _ => FV.fa 3 rfl) rfl <| RD.val (i := 28) (m' := 536870911) (W := 16642998272) (takeC_ok c0 (by kernel_rfl)) rfl d0 (.yes rfl rfl) (FV.l1 rfl ((I0.memA (.tl (.tl .hd))) 3 _ rfl)) rfl ?_
 refine RD.val (i := 29) (m' := 1073741823) (W := 16106127360) (takeC_ok c0 (by kernel_rfl)) rfl d0 (.yes rfl rfl) (FV.len (xs := g0.fDone) Tryz.underlying46 rfl p3) rfl ?_
 obtain ⟨V2, u01, h⟩ := bind_in h
 obtain ⟨R02, c03, J6, M6, g03, Y00, d9⟩ := Rep.nth k3 u01
 obtain rfl := op_TMove Y00
 refine RD.vP 30 2147483647 c0 rfl d0 (.yes rfl rfl) (fun _ => FV.ia 3 (g0.fDone.length) rfl J6 rfl rfl M6) rfl <| RD.val (i := 31) (m' := 4294967295) (W := 12884901888) (takeC_ok c0 (by kernel_rfl)) rfl d0 (.yes rfl rfl) (FV.lN rfl d9) rfl <| RD.vP 32 8589934591 c0 rfl d0 (.yes rfl rfl) (fun _ => FV.neqV (xs := ([vI U2.fUnit, vI U2.fFrom, vI U2.fTo]).toArray) (ys := ([vI V2.fUnit, vI V2.fFrom, vI V2.fTo]).toArray) rfl rfl (by kernel_rfl) (eqlD_62 U2 V2)) rfl <| RD.vw 33 17179869183 c0 rfl d0 (fun _ => FV.pick_f rfl rfl) rfl <| RD.done (doneD_ok c0 (by kernel_rfl)) <| MX.ifn rfl h (fun y5 h => ?_) (fun y5 h => ?_)
 refine MX.skip <| MX.sr <| RG.va (FV.lN rfl (I0.memA (.tl (.tl .hd)))) <| RG.new .plain rfl (Does.al [vI 0, vN, vN, vN, vN] I0) (fun W04 Z02 W5 s1 => ?_)
 have g9 := Rep.mv J0 (Tr.trans P1 s1)
 have k9 := Rep.mv K0 (Tr.trans P1 s1)
 have p9 := Rep.mv G0 (Tr.trans P1 s1)
 have q9 := Rep.mv Y0 (Tr.trans P1 s1)
 refine RG.sa [vI g0.fK, z0, A0, B0, D0] W5 .hd (o5 rfl (Rep.o1 g9) (Rep.o1 k9) (Rep.o1 p9) (Rep.o1 q9)) (fun X04 K3 X1 => ?_)
 refine RG.nil <| MX.sr <| RG.fa 4 rfl <| RG.l1 rfl ((K3.memA (.tl .hd)) 4 _ rfl) <| RG.fa 4 rfl ?_
 have Q1 := Tr.trans q1 (Tr.trans W1 (Tr.trans s1 X1))
 have d4 := Rep.mv t2 Q1
 refine RG.now .plain (Acts.store (j := 4) (old := [vI g0.fK, z0, A0, B0, D0]) (news := [A3]) (new' := [vI g0.fK, z0, A0, B0, A3]) K3 .hd rfl rfl rfl (Rep.c1 d4) rfl rfl (o1 (Rep.o1 d4)) rfl) (fun F02 q0 u1 => ?_)
 refine RG.nil <| MX.seq <| MX.drawT 20 tb4_14 (by kernel_rfl) (by kernel_rfl) (by kernel_rfl) (fun j0 p0 => ?_)
 refine RD.vw 0 1 j0 rfl p0 (fun _ => FV.move rfl) rfl <| RD.vw 1 3 j0 rfl p0 (fun _ => FV.neq (i := A1.2) (j := 0) rfl rfl) rfl <| RD.vw 2 7 j0 rfl p0 (fun _ => FV.move rfl) rfl <| RD.ifn (s := 107) rfl h (fun z5 h => ?_) (fun z5 h => ?_)
 refine RD.val (i := 3) (m' := 15) (W := 1048544) (takeC_ok j0 (by kernel_rfl)) rfl p0 (.yes rfl rfl) (FV.lN rfl (q0.memA (.tl .hd))) rfl <| RD.val (i := 4) (m' := 31) (W := 1048544) (takeC_ok j0 (by kernel_rfl)) rfl p0 (.yes rfl rfl) (FV.lN rfl (q0.memA .hd)) rfl ?_
 obtain ⟨M02, I01, h⟩ := bind_in h
 have s9 := Rep.mv x3 (Tr.trans Q1 u1)
 have t9 := Rep.mv y3 (Tr.trans Q1 u1)
 have u9 := Rep.mv z3 (Tr.trans Q1 u1)
 have g4 := Rep.mv t2 (Tr.trans Q1 u1)
 have v3 := Tr.trans P1 (Tr.trans s1 (Tr.trans X1 u1))
 have x9 := Rep.mv J0 v3
 have y9 := Rep.mv K0 v3
 have z9 := Rep.mv G0 v3
 refine RD.callq (i := 5) (m' := 63) (W := 1048512) (takeC_ok j0 (by kernel_rfl)) rfl p0 (v := .bool M02) (fst := []) (cap := []) (.yes rfl rfl) body18 rfl (e2 rfl rfl) (fun w9 hw9 => edit_Same_c n _ w9 (q0.hL0 hL hw9) A1.1 (q0.kd s9 hw9) (q0.kd t9 hw9) (q0.kd u9 hw9) (q0.kd g4 hw9) (⟨g0.fK, g0.fPlan, g0.fTotals, g0.fDone, A1.1.fUndone⟩ : TSession) (q0.kd x9 hw9) (q0.kd y9 hw9) (q0.kd z9 hw9) (q0.kd g4 hw9) I01) rfl <| RD.vP 6 127 j0 rfl p0 (.yes rfl rfl) (fun _ => FV.not rfl) rfl <| RD.vw 7 255 j0 rfl p0 (fun _ => FV.pick_f rfl rfl) rfl <| RD.vw 8 511 j0 rfl p0 (fun _ => FV.move rfl) rfl <| RD.ifnb (s := 113) rfl h (fun A5 h => ?_) (fun A5 h => ?_)
 refine RD.val (i := 9) (m' := 1023) (W := 1033216) (takeC_ok j0 (by kernel_rfl)) rfl p0 (.yes rfl rfl) (FV.lN rfl (q0.memA (.tl (.tl .hd)))) rfl <| RD.val (i := 11) (m' := 3071) (W := 1032192) (takeC_ok j0 (by kernel_rfl)) rfl p0 (.yes rfl rfl) (FV.lN rfl (q0.memA (.tl (.tl (.tl (.tl (.tl .hd))))))) rfl <| RD.val (i := 12) (m' := 7167) (W := 1032192) (takeC_ok j0 (by kernel_rfl)) rfl p0 (.yes rfl rfl) (FV.lN rfl (q0.memA (.tl (.tl (.tl (.tl .hd)))))) rfl <| RD.val (i := 13) (m' := 15359) (W := 1032192) (takeC_ok j0 (by kernel_rfl)) rfl p0 (.yes rfl rfl) (FV.lN rfl (q0.memA (.tl .hd))) rfl ?_
 have k2 := Tr.trans K2 (Tr.trans s1 (Tr.trans X1 u1))
 have A9 := Rep.mv Q2 k2
 have B9 := Rep.mv R2 k2
 have C9 := Rep.mv q2 k2
 have D9 := Rep.mv s2 k2
 refine RD.cl 10 16383 j0 rfl (.yes rfl rfl) body19 rfl (e1 rfl) (fun w9 hw9 => Calls.gives (wardmotelaw26_is_c n _ w9 (q0.hL hL hw9) x0.1 (Rep.keep0 A9 hw9) (Rep.keep0 B9 hw9) (Rep.keep0 C9 hw9) (Rep.keep0 D9 hw9)) fun (w8 : World) (u8 : Value) ⟨b0_, hu_, s_⟩ => (⟨b0_, hu_, s_.from hw9⟩ : ∃ y2 : Nat, u8 = Value.func (.func 53) #[] #[vP y2] ∧ St F02 w8 [.cells y2 [vI x0.1.fK, D1, E1, F1, G1] 48])) rfl (fun Z04 t04 s03 ⟨y2, s01, U4⟩ => ?_)
 subst s01
 have M3 := mk_push1 q0 U4
 have C2 := mk_tr1 q0 U4
 obtain ⟨c5, J01, h⟩ := bind_in h
 have y4 := Tr.trans u3 (Tr.trans j3 (Tr.trans q1 (Tr.trans W1 (Tr.trans s1 (Tr.trans X1 (Tr.trans u1 C2))))))
 have E9 := Rep.mv W0 y4
 have F9 := Rep.mv X0 y4
 have M2 := Tr.trans Q1 (Tr.trans u1 C2)
 have G9 := Rep.mv x3 M2
 have H9 := Rep.mv y3 M2
 have I9 := Rep.mv z3 M2
 have J9 := Rep.mv t2 M2
 refine RD.cl 14 32767 j0 rfl (.yes rfl rfl) body20 rfl (e3 rfl rfl rfl) (fun w9 hw9 => edit_Redo_c n _ w9 (M3.hL hL hw9) b0.1 (Rep.keep0 E9 hw9) b0.2.1 (Rep.keep0 F9 hw9) A1.1 (Rep.keep0 G9 hw9) (Rep.keep0 H9 hw9) (Rep.keep0 I9 hw9) (Rep.keep0 J9 hw9) J01) rfl (fun b05 u04 G6 ⟨Q03, R03, U03, V03, hu_, Z00, b01, c01, d01⟩ => ?_)
 subst hu_
 obtain ⟨U0, U3⟩ := M3.agr G6
 refine RD.vP 15 65535 j0 rfl p0 (.yes rfl rfl) (fun _ => FV.extract rfl rfl) rfl <| RD.vP 16 131071 j0 rfl p0 (.yes rfl rfl) (fun _ => FV.extract rfl rfl) rfl ?_
 obtain ⟨P02, K01, h⟩ := bind_in h
 have P2 := Tr.trans k2 (Tr.trans C2 U3)
 have K9 := Rep.mv Q2 P2
 have M9 := Rep.mv R2 P2
 have P9 := Rep.mv q2 P2
 have Q9 := Rep.mv s2 P2
 refine RD.callq (i := 17) (m' := 262143) (W := 786432) (takeC_ok j0 (by kernel_rfl)) rfl p0 (v := .bool P02) (fst := []) (cap := [vP y2]) (.yes rfl rfl) body53 rfl (e2 rfl rfl) (fun w9 hw9 => wardmotelaw26_is_1_c n _ w9 (U0.hL0 hL hw9) c5.1 (U0.kd Z00 hw9) (U0.kd b01 hw9) (U0.kd c01 hw9) (U0.kd d01 hw9) c5.2 x0.1 (U0.kd K9 hw9) (U0.kd M9 hw9) (U0.kd P9 hw9) (U0.kd Q9 hw9) (fun j9 v9 h9 => hw9.cell0 ((U0.memA .hd) j9 v9 h9)) K01) rfl <| RD.vP 18 524287 j0 rfl p0 (.yes rfl rfl) (fun _ => FV.not rfl) rfl <| RD.vw 19 1048575 j0 rfl p0 (fun _ => FV.pick_f rfl rfl) rfl <| RD.done (doneD_ok j0 (by kernel_rfl)) <| MX.ifnb rfl h (fun B5 h => ?_) (fun B5 h => ?_)
 refine MX.skip ?_
 obtain ⟨X5, t6⟩ := St.arrB U0 (.one (.tl (.tl (.tl (.tl .hd)))) (.one (.tl (.tl (.tl (.tl .hd)))) (.one (.tl (.tl (.tl (.tl .hd)))) .done)))
 have t00 := Tr.trans j3 (Tr.trans q1 (Tr.trans W1 (Tr.trans s1 (Tr.trans X1 (Tr.trans u1 (Tr.trans C2 (Tr.trans U3 t6)))))))
 exact F3 () _ _ ⟨rfl, rfl, rfl, trivial⟩ ⟨X5, t00⟩ h
 refine MX.sr <| RG.so rfl <| RG.nil <| MX.ret rfl <| RT.t1 hb0 Tryz.func4 rfl rfl ?_
 cases h
 exact U0.gv
 refine RD.offs 524287 1 [(9, 114), (10, 115), (11, 116), (12, 117), (13, 118), (14, 119), (15, 120), (16, 121), (17, 122), (18, 123)] (F := [(113, true)]) (U := []) j0 p0 (.cons rfl .nil) .nil ?_
 dsimp only [offS, List.map]
 refine RD.vw 19 1048575 j0 rfl p0 (fun _ => FV.pick_t rfl rfl) rfl <| RD.done (doneD_ok j0 (by kernel_rfl)) <| MX.cond_t rfl <| MX.sr <| RG.so rfl <| RG.nil ?_
 refine MX.ret rfl <| RT.t1 hb0 Tryz.func4 rfl rfl ?_
 cases h
 exact q0.gv
 refine RD.offs 127 13 [(3, 108), (4, 109), (5, 110), (6, 111)] (F := [(107, true)]) (U := []) j0 p0 (.cons rfl .nil) .nil ?_
 dsimp only [offS, List.map]
 refine RD.vw 7 255 j0 rfl p0 (fun _ => FV.pick_t rfl rfl) rfl <| RD.vw 8 511 j0 rfl p0 (fun _ => FV.move rfl) rfl <| RD.offs 524287 1 [(9, 114), (10, 115), (11, 116), (12, 117), (13, 118), (14, 119), (15, 120), (16, 121), (17, 122), (18, 123)] (F := [(113, true)]) (U := []) j0 p0 (.cons rfl .nil) .nil ?_
 dsimp only [offS, List.map]
 refine RD.vw 19 1048575 j0 rfl p0 (fun _ => FV.pick_t rfl rfl) rfl <| RD.done (doneD_ok j0 (by kernel_rfl)) <| MX.cond_t rfl <| MX.sr <| RG.so rfl <| RG.nil ?_
 refine MX.ret rfl <| RT.t1 hb0 Tryz.func4 rfl rfl ?_
 cases h
 exact q0.gv
 refine MX.sr <| RG.so rfl <| RG.nil <| MX.ret rfl <| RT.t1 hb0 Tryz.func4 rfl rfl ?_
 cases h
 exact I0.gv
 refine RD.offs 8589934591 1 [(21, 88), (22, 89), (23, 90), (24, 91), (25, 92), (26, 93), (27, 94), (28, 95), (29, 96), (30, 97), (31, 98), (32, 99)] (F := [(87, true)]) (U := []) c0 d0 (.cons rfl .nil) .nil ?_
 dsimp only [offS, List.map]
 refine RD.vw 33 17179869183 c0 rfl d0 (fun _ => FV.pick_t rfl rfl) rfl <| RD.done (doneD_ok c0 (by kernel_rfl)) <| MX.cond_t rfl <| MX.sr <| RG.so rfl <| RG.nil ?_
 refine MX.ret rfl <| RT.t1 hb0 Tryz.func4 rfl rfl ?_
 cases h
 exact I0.gv
 refine RD.offs 8191 21 [(9, 76), (10, 77), (11, 78), (12, 79)] (F := [(75, true)]) (U := []) c0 d0 (.cons rfl .nil) .nil ?_
 dsimp only [offS, List.map]
 refine RD.vw 13 16383 c0 rfl d0 (fun _ => FV.pick_t rfl rfl) rfl <| RD.vw 14 32767 c0 rfl d0 (fun _ => FV.move rfl) rfl <| RD.offs 524287 15 [(15, 82), (16, 83), (17, 84), (18, 85)] (F := [(81, true)]) (U := []) c0 d0 (.cons rfl .nil) .nil ?_
 dsimp only [offS, List.map]
 refine RD.vw 19 1048575 c0 rfl d0 (fun _ => FV.pick_t rfl rfl) rfl <| RD.vw 20 2097151 c0 rfl d0 (fun _ => FV.move rfl) rfl <| RD.offs 8589934591 1 [(21, 88), (22, 89), (23, 90), (24, 91), (25, 92), (26, 93), (27, 94), (28, 95), (29, 96), (30, 97), (31, 98), (32, 99)] (F := [(87, true)]) (U := []) c0 d0 (.cons rfl .nil) .nil ?_
 dsimp only [offS, List.map]
 refine RD.vw 33 17179869183 c0 rfl d0 (fun _ => FV.pick_t rfl rfl) rfl <| RD.done (doneD_ok c0 (by kernel_rfl)) <| MX.cond_t rfl <| MX.sr <| RG.so rfl <| RG.nil ?_
 refine MX.ret rfl <| RT.t1 hb0 Tryz.func4 rfl rfl ?_
 cases h
 exact I0.gv
 refine MX.skip ?_
 obtain ⟨Y5, u6⟩ := St.arrB I1 (.one (.tl .hd) (.one (.tl .hd) (.one (.tl .hd) .done)))
 exact F3 () _ _ ⟨rfl, rfl, rfl, trivial⟩ ⟨Y5, u6⟩ h
 intro G3
 refine RD.each [14, 18] (readyD_ok k0 (by kernel_rfl)) ⟨?_, ?_, trivial⟩
 refine RO.call (m' := 32767) (fst := []) (cap := []) (stepC_ok k0 (by kernel_rfl)) rfl .plain body13 rfl (e5 rfl rfl rfl rfl rfl) (fun w9 hw9 => edit_Make_c n _ w9 (s0.hL hL hw9) b0.1 (Rep.keep0 j4 hw9) b0.2.1 (Rep.keep0 k4 hw9) g0 (Rep.keep0 p4 hw9) (Rep.keep0 q4 hw9) (Rep.keep0 s4 hw9) (Rep.keep0 t4 hw9) V4 W4 M4) rfl (fun x04 W03 v6 ⟨Q01, R01, U01, V01, hu_, x00, y00, z00, A00⟩ => ?_)
 subst hu_
 obtain ⟨D5, j6⟩ := s0.agr v6
 refine RD.vw 15 65535 k0 rfl t0 (fun _ => FV.move rfl) rfl <| RD.vw 16 131071 k0 rfl t0 (fun _ => FV.extract rfl rfl) rfl <| RD.vw 17 262143 k0 rfl t0 (fun _ => FV.extract rfl rfl) rfl <| RD.nu 18 524287 k0 rfl .plain rfl (Does.al [vI 0, vN, vN, vN, vN] D5) (fun A02 W2 z2 k1 => ?_)
 obtain ⟨Z5, Y1⟩ := St.arrB z2 (.one .hd (.one .hd (.one .hd (.one .hd .done))))
 have R9 := Rep.mv x00 (Tr.trans k1 Y1)
 have U9 := Rep.mv y00 (Tr.trans k1 Y1)
 have V9 := Rep.mv z00 (Tr.trans k1 Y1)
 have W9 := Rep.mv A00 (Tr.trans k1 Y1)
 have u00 := Tr.trans j6 (Tr.trans k1 Y1)
 exact G3 (Q01, R01, U01, V01, W2) _ _ ⟨rfl, rfl, rfl, rfl, rfl, rfl, trivial⟩ ⟨Z5, u00, R9, U9, V9, W9⟩
 refine RO.new (m' := 278527) (stepC_ok k0 (by kernel_rfl)) rfl .plain rfl (Does.al [vI 0, vN, vN, vN, vN] s0) (fun A02 W2 z2 k1 => ?_)
 have P6 := Rep.mv W0 (Tr.trans R1 k1)
 have Q6 := Rep.mv X0 (Tr.trans R1 k1)
 have D2 := Tr.trans V0 (Tr.trans z1 k1)
 have R6 := Rep.mv J0 D2
 have U6 := Rep.mv K0 D2
 have V6 := Rep.mv G0 D2
 have W6 := Rep.mv Y0 D2
 refine RD.cl 14 294911 k0 rfl .plain body13 rfl (e5 rfl rfl rfl rfl rfl) (fun w9 hw9 => edit_Make_c n _ w9 (z2.hL hL hw9) b0.1 (Rep.keep0 P6 hw9) b0.2.1 (Rep.keep0 Q6 hw9) g0 (Rep.keep0 R6 hw9) (Rep.keep0 U6 hw9) (Rep.keep0 V6 hw9) (Rep.keep0 W6 hw9) V4 W4 M4) rfl (fun y04 X03 x6 ⟨W01, X01, Y01, Z01, hu_, B00, C00, D00, E00⟩ => ?_)
 subst hu_
 obtain ⟨E5, k6⟩ := z2.agr x6
 refine RD.vw 15 327679 k0 rfl t0 (fun _ => FV.move rfl) rfl <| RD.vw 16 393215 k0 rfl t0 (fun _ => FV.extract rfl rfl) rfl <| RD.vw 17 524287 k0 rfl t0 (fun _ => FV.extract rfl rfl) rfl ?_
 obtain ⟨b6, Z1⟩ := St.arrB E5 (.one .hd (.one .hd (.one .hd (.one .hd .done))))
 have X9 := Rep.mv B00 Z1
 have Y9 := Rep.mv C00 Z1
 have Z9 := Rep.mv D00 Z1
 have b00 := Rep.mv E00 Z1
 have v00 := Tr.trans k1 (Tr.trans k6 Z1)
 exact G3 (W01, X01, Y01, Z01, W2) _ _ ⟨rfl, rfl, rfl, rfl, rfl, rfl, trivial⟩ ⟨b6, v00, X9, Y9, Z9, b00⟩
 refine MX.sr <| RG.so rfl <| RG.nil <| MX.ret rfl <| RT.t1 hb0 Tryz.func4 rfl rfl ?_
 cases h
 exact s0.gv
 refine MX.sr <| RG.so rfl <| RG.nil <| MX.ret rfl <| RT.t1 hb0 Tryz.func4 rfl rfl ?_
 cases h
 exact hS8.gv
end Go.Proofs.YtcijnmkodpfpgaaGreatDoor
