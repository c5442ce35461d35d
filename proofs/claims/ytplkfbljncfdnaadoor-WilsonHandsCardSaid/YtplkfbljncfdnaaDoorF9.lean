/- Functions of the program, and what they give: part 9. -/
import Derived.Test.YtplkfbljncfdnaaDoorF8
namespace Go.Proofs.YtplkfbljncfdnaaDoor
open Go Go.RowKit

def tb7_9 : List (Nat × Nat × Nat) := [(0, 1152921504606846976, 0), (0, 2305843009213693952, 8192), (0, 4611686018427387904, 16384), (0, 9223372036854775808, 32768), (15, 18446744073709551616, 17293822569102704640), (31, 1024, 18446744073709551616)]
def tb7_19 : List (Nat × Nat × Nat) := [(0, 40564819207303340847894502572032, 131072), (1, 81129638414606681695789005144064, 40564819207303340847894502572032), (2, 162259276829213363391578010288128, 81129638414606681695789005144064), (4, 324518553658426726783156020576256, 162259276829213363391578010288128), (4, 649037107316853453566312041152512, 162259276829213363391578010296320), (4, 1298074214633706907132624082305024, 162259276829213363391578010304512), (4, 2596148429267413814265248164610048, 162259276829213363391578010320896), (124, 5192296858534827628530496329220096, 5030037581705614265138918318931968), (132, 10384593717069655257060992658440192, 5354556135364040991922074339508224), (511, 1024, 10384593717069655257060992658440192)]
def tb7_29 : List (Nat × Nat × Nat) := [(0, 187072209578355573530071658587684226515959365500928, 2097152), (1, 374144419156711147060143317175368453031918731001856, 187072209578355573530071658587684226515959365500928), (2, 748288838313422294120286634350736906063837462003712, 374144419156711147060143317175368453031918731001856), (4, 1496577676626844588240573268701473812127674924007424, 748288838313422294120286634350736906063837462005760), (12, 2993155353253689176481146537402947624255349848014848, 2244866514940266882360859903052210718191512386011136), (4, 5986310706507378352962293074805895248510699696029696, 748288838313422294120286634350736906063837466198016), (4, 11972621413014756705924586149611790497021399392059392, 748288838313422294120286634350736906063837462011904), (4, 23945242826029513411849172299223580994042798784118784, 748288838313422294120286634350736906063837464100864), (132, 47890485652059026823698344598447161988085597568237568, 24693531664342935705969458933574317900106636246122496), (324, 95780971304118053647396689196894323976171195136475136, 60611395903387205823743217382409689391170834422300672), (516, 191561942608236107294793378393788647952342390272950272, 96529260142431475941516975831245060882235032598478848), (1060, 383123885216472214589586756787577295904684780545900544, 198296542153056907941875958102945280106916927430983680), (4, 766247770432944429179173513575154591809369561091801088, 748288838313422294120286634350736906063837466198016), (4, 1532495540865888858358347027150309183618739122183602176, 748288838313422294120286634350736906063837462011904), (4, 3064991081731777716716694054300618367237478244367204352, 748288838313422294120286634350736906063837464100864), (16388, 6129982163463555433433388108601236734474956488734408704, 3065739370570091139010814340934969104143542081829208064), (40964, 12259964326927110866866776217202473468949912977468817408, 7663225993167757714085855422385896654999759448380014592), (65540, 24519928653854221733733552434404946937899825954937634816, 12260712615765424289160896503836824205855976814930821120), (135172, 49039857307708443467467104868809893875799651909875269632, 25286924713125479585206846234614452266615259353491439616), (264196, 98079714615416886934934209737619787751599303819750539264, 49423729481763229104350811912231821908610400527883173888), (524308, 196159429230833773869868419475239575503198607639501078528, 98083456059608454046404811170791541436129623007060557824), (1048580, 392318858461667547739736838950479151006397215279002157056, 196160177519672087292162539761873926240104671476963082240), (2097156, 784637716923335095479473677900958302012794430558004314112, 392319606750505861162030959237113501743303279116464160768)]
def tb7_33 : List (Nat × Nat × Nat) := [(0, 200867255532373784442745261542645325315275374222849104412672, 16384), (0, 401734511064747568885490523085290650630550748445698208825344, 8388608), (2, 803469022129495137770981046170581301261101496891396417650688, 401734511064747568885490523085290650630550748445698208825344), (5, 1606938044258990275541962092341162602522202993782792835301376, 1004336277661868922213726307713226626576376871114245522063360), (0, 3213876088517980551083924184682325205044405987565585670602752, 2048), (0, 6427752177035961102167848369364650410088811975131171341205504, 2), (0, 12855504354071922204335696738729300820177623950262342682411008, 8388608), (0, 25711008708143844408671393477458601640355247900524685364822016, 4), (0, 51422017416287688817342786954917203280710495801049370729644032, 16384), (504, 102844034832575377634685573909834406561420991602098741459288064, 99630158744057397083601649725152081356376585614533155788685312), (512, 205688069665150755269371147819668813122841983204197482918576128, 102844034832575377634685573909834406561420991602098741459288064), (512, 411376139330301510538742295639337626245683966408394965837152256, 102844034832575377634685573909834406561420991602098741459288064), (512, 822752278660603021077484591278675252491367932816789931674304512, 102844034832575377634685573909834406561420991602098741459288064), (7688, 1645504557321206042154969182557350504982735865633579863348609024, 1441423425700314277161139996830022854462416085423165173265334272), (16383, 1024, 1645504557321206042154969182557350504982735865633579863348609024)]
theorem body13 : bodyB Tryd.prog 13 = true := by kernel_rfl
theorem body25 : bodyB Tryd.prog 25 = true := by kernel_rfl
def wardmotelaw31_WilsonSteps_l1 (n : Nat) (y35 : (List Int) × TChance × Int) (y13 : TGraph) (a1 : UInt64) (k31 : Nat) (a2 : UInt64) (k32 : Nat) (J214 : Nat → Option (Bool ⊕ Unit)) : Nat → Option (Bool ⊕ Unit)
  | i206 => (if i206 < y35.1.length then (y35.1[i206]?).bind fun x217 => (if x217 < 0 then some (.inl false) else (if y13.fN ≤ x217 then some (.inl false) else (natOf x217).bind fun k229 => (if ((shrU (a1 &&& ((shlU (1 : UInt64) k31) - (1 : UInt64))) k229) &&& (1 : UInt64)) = (0 : UInt64) then some (.inl false) else (natOf x217).bind fun k231 => (if ((decide (((shrU (a2 &&& ((shlU (1 : UInt64) k32) - (1 : UInt64))) k231) &&& (1 : UInt64)) = (1 : UInt64))) == (decide (((i206 : Nat) : Int) = (((y35.1.length : Nat) : Int) - 1)))) = true then (if 0 < i206 then (y35.1[i206 - 1]?).bind fun x236 => (slices_Contains_2_int_2_int_p n y13.fEdges (min x217 x236, max x217 x236)).bind fun y245 => (if y245 = true then J214 (i206 + 1) else some (.inl false)) else J214 (i206 + 1)) else some (.inl false))))) else some (.inr ()))
def wardmotelaw31_WilsonSteps_l2 (n : Nat) (y67 : (List Int) × Int) (a2 : UInt64) (k32 : Nat) (J115 : Int × Nat → Option Int) : Int × Nat → Option Int
  | (z106, i107) => (if i107 < y67.1.length then (y67.1[i107]?).bind fun x118 => (if ((shrU (a2 &&& ((shlU (1 : UInt64) k32) - (1 : UInt64))) i107) &&& (1 : UInt64)) = (1 : UInt64) then (if 0 ≤ x118 then (if z106 < 0 then J115 (x118, i107 + 1) else jn (fun z132 => J115 (z132, i107 + 1)) (fun J136 => (if x118 < z106 then J136 x118 else J136 z106))) else J115 (z106, i107 + 1)) else J115 (z106, i107 + 1)) else some z106)
def wardmotelaw31_WilsonSteps_p (n : Nat) (a0 : TDraft) (a1 : UInt64) (a2 : UInt64) (a3 : UInt8) (a4 : TChance) : Option Bool :=
  (wardmotelaw31_works_p n).bind fun y11 => (if y11 = true then (wardmoteref18_Draft_Graph_p n a0).bind fun y13 => (natOf y13.fN).bind fun k31 => (natOf y13.fN).bind fun k32 => (remI ((a3.toNat : Nat) : Int) y13.fN).bind fun s34 => (wilson_Walk_p n y13 (a1 &&& ((shlU (1 : UInt64) k31) - (1 : UInt64))) s34 (a2 &&& ((shlU (1 : UInt64) k32) - (1 : UInt64))) a4).bind fun y35 => (natOf s34).bind fun k52 => (if ((shrU (a1 &&& ((shlU (1 : UInt64) k31) - (1 : UInt64))) k52) &&& (1 : UInt64)) = (0 : UInt64) then (wardmotelaw31_stops_1_p n y35.1 y35.2.1 y35.2.2 2).bind fun y65 => some y65 else (graph_Distances_p n y13 (a1 &&& ((shlU (1 : UInt64) k31) - (1 : UInt64))) s34).bind fun y67 => Option.bind (loopF (wardmotelaw31_WilsonSteps_l2 n y67 a2 k32) n ((-1), 0)) (fun z106 => (if y67.2 = 0 then (if z106 < 0 then (wardmotelaw31_stops_1_p n y35.1 y35.2.1 y35.2.2 4).bind fun y152 => some y152 else (if y35.2.2 = 9 then some true else (if y35.2.2 = 0 then (chk (z106 + 1)).bind fun s158 => (if ((y35.1.length : Nat) : Int) < s158 then some false else (y35.1[0]?).bind fun x160 => (if x160 = s34 then thn (loopF (wardmotelaw31_WilsonSteps_l1 n y35 y13 a1 k31 a2 k32) n 0) (fun _ => (idx y35.1 (((y35.1.length : Nat) : Int) - 1)).bind fun x249 => (wilson_Walk_p n y13 (a1 &&& ((shlU (1 : UInt64) k31) - (1 : UInt64))) x249 (a2 &&& ((shlU (1 : UInt64) k32) - (1 : UInt64))) y35.2.1).bind fun y283 => (wardmotelaw31_goes_1_p n y283.1 y283.2.1 y283.2.2 ([x249] : List Int) y35.2.1).bind fun y292 => some y292) else some false)) else some false))) else some false))) else some false)
set_option maxRecDepth 4000 in
set_option maxHeartbeats 4000000 in
theorem wardmotelaw31_WilsonSteps_c (n : Nat) (L : List Nat) (w : World) (hL : ∀ b ∈ L, b < w.heap.size) (a0 : TDraft) {v0_3 : Value} (h0_3 : Rep.R w L [v0_3] a0.fMore) (a1 : UInt64) (a2 : UInt64) (a3 : UInt8) (a4 : TChance) (hG0 : Glob 0 tab0 w)  {r : Bool} (h : wardmotelaw31_WilsonSteps_p n a0 a1 a2 a3 a4 = some r) :
    Calls Tryd.prog 7 #[.agg #[.int .u8 (a0.fWide.toNat : Int), .int .u8 (a0.fHigh.toNat : Int), .int .u16 (a0.fLess.toNat : Int), v0_3], .int .u64 (a1.toNat : Int), .int .u64 (a2.toNat : Int), .int .u8 (a3.toNat : Int), .agg #[.int .u64 (a4.fState.toNat : Int)]] w (Gives w fun w' u => u = .bool r) := by
  unfold wardmotelaw31_WilsonSteps_p at h
  have hS0 := St.start w
  refine MX.start Tryd.func7 rfl rfl rfl (fun _ cs0 hb0 => ?_)
  refine MX.seq ?_
  refine MX.region ?_
  refine RG.new .plain rfl (Does.box (vs := [.int .u8 (a0.fWide.toNat : Int), .int .u8 (a0.fHigh.toNat : Int), .int .u16 (a0.fLess.toNat : Int), v0_3]) hS0 rfl rfl) (fun w2 b5 hS3 hT4 => ?_)
  refine RG.new .plain rfl (Does.box (vs := [.int .u64 (a4.fState.toNat : Int)]) hS3 rfl rfl) (fun w7 b10 hS8 hT9 => ?_)
  refine RG.val' .plain (FV.assign rfl) rfl ?_
  refine RG.nil ?_
  refine MX.seq ?_
  refine MX.seq ?_
  refine MX.region ?_
  obtain ⟨y11, hy11, h⟩ := bind_in h
  refine RG.callq' (v := .bool y11) (fst := []) (cap := []) .plain body9 rfl evs_nil (fun w9 hw9 => wardmotelaw31_works_c n _ w9 (hS8.hL0 hL hw9) (hG0.keep (hS8.ag.trans hw9)) hy11) rfl ?_
  refine RG.val' .plain (FV.not rfl) rfl ?_
  refine RG.nil ?_
  refine MX.ifnb rfl h (fun c12 h => ?_) (fun c12 h => ?_)
  ·skip
   refine MX.skip ?_
   refine MX.seq ?_
   refine MX.region ?_
   refine RG.val' .plain (FV.loadN (cs := [.int .u8 (a0.fWide.toNat : Int), .int .u8 (a0.fHigh.toNat : Int), .int .u16 (a0.fLess.toNat : Int), v0_3]) (by kernel_rfl) rfl (hS8.memA (.tl .hd))) rfl ?_
   obtain ⟨y13, hy13, h⟩ := bind_in h
   have hm14 := Rep.mv h0_3 (Tr.trans hT4 hT9)
   refine RG.call' (fst := []) (cap := []) .plain body13 rfl (evs_cons rfl evs_nil) (fun w9 hw9 => wardmoteref18_Draft_Graph_c n _ w9 (hS8.hL hL hw9) a0 (Rep.keep0 hm14 hw9) hy13) rfl (fun w15 vu16 hag17 ⟨v20, hu_, hr21⟩ => ?_)
   subst hu_
   have hS18 := hS8.agree hag17
   have hT19 := Tr.agree (O := [.cells b10 [.int .u64 (a4.fState.toNat : Int)] 37, .cells b5 [.int .u8 (a0.fWide.toNat : Int), .int .u8 (a0.fHigh.toNat : Int), .int .u16 (a0.fLess.toNat : Int), v0_3] 34]) hag17
   refine RG.new .plain rfl (Does.alloc (zs := [.int .i64 0, .slice none 0 0]) hS18 (zB (by kernel_rfl))) (fun w23 b26 hS24 hT25 => ?_)
   have hm27 := Rep.mv hr21 hT25
   refine RG.now .plain (Acts.store (j := 0) (old := [.int .i64 0, .slice none 0 0]) (news := [.int .i64 y13.fN, v20]) (new' := [.int .i64 y13.fN, v20]) hS24 .hd rfl rfl rfl rfl rfl rfl (ones_cons rfl (ones_cons (Rep.o1 hm27) ones_nil)) rfl) (fun w28 hS29 hT30 => ?_)
   refine RG.nil ?_
   refine MX.seq ?_
   refine MX.region ?_
   refine RG.val' .plain (FV.move rfl) rfl ?_
   refine RG.val' .plain (FV.fieldAddr (off := 0) (by kernel_rfl) rfl) rfl ?_
   refine RG.val' .plain (FV.load1 (by kernel_rfl) rfl ((hS29.memA .hd) 0 _ rfl)) rfl ?_
   obtain ⟨k31, hk31, h⟩ := bind_in h
   refine RG.val' .plain (FV.shlI (a := (1 : UInt64)) (i := y13.fN) rfl rfl hk31) rfl ?_
   refine RG.val' .plain (FV.subU (a := shlU (1 : UInt64) k31) (b := (1 : UInt64)) rfl rfl) rfl ?_
   refine RG.val' .plain (FV.andU (a := a1) (b := (shlU (1 : UInt64) k31) - (1 : UInt64)) rfl rfl) rfl ?_
   refine RG.val' .plain (FV.assign rfl) rfl ?_
   refine RG.nil ?_
   refine MX.seq ?_
   refine MX.region ?_
   refine RG.val' .plain (FV.move rfl) rfl ?_
   refine RG.val' .plain (FV.fieldAddr (off := 0) (by kernel_rfl) rfl) rfl ?_
   refine RG.val' .plain (FV.load1 (by kernel_rfl) rfl ((hS29.memA .hd) 0 _ rfl)) rfl ?_
   obtain ⟨k32, hk32, h⟩ := bind_in h
   refine RG.val' .plain (FV.shlI (a := (1 : UInt64)) (i := y13.fN) rfl rfl hk32) rfl ?_
   refine RG.val' .plain (FV.subU (a := shlU (1 : UInt64) k32) (b := (1 : UInt64)) rfl rfl) rfl ?_
   refine RG.val' .plain (FV.andU (a := a2) (b := (shlU (1 : UInt64) k32) - (1 : UInt64)) rfl rfl) rfl ?_
   refine RG.val' .plain (FV.assign rfl) rfl ?_
   refine RG.nil ?_
   refine MX.seq ?_
   refine MX.region ?_
   refine RG.val' .plain (FV.move rfl) rfl ?_
   have hu33 := a3.toNat_lt
   refine RG.val' .plain (FV.convN (i := a3.toNat) Tryd.underlying5 Tryd.underlying3 rfl (by omega)) rfl ?_
   refine RG.val' .plain (FV.fieldAddr (off := 0) (by kernel_rfl) rfl) rfl ?_
   refine RG.val' .plain (FV.load1 (by kernel_rfl) rfl ((hS29.memA .hd) 0 _ rfl)) rfl ?_
   obtain ⟨s34, hs34, h⟩ := bind_in h
   refine RG.val' .plain (FV.remc (i := ((a3.toNat : Nat) : Int)) (j := y13.fN) rfl rfl hs34) rfl ?_
   refine RG.val' .plain (FV.assign rfl) rfl ?_
   refine RG.nil ?_
   refine MX.seq ?_
   refine MX.region ?_
   refine RG.val' .plain (FV.loadN (cs := [.int .i64 y13.fN, v20]) (by kernel_rfl) rfl (hS29.memA .hd)) rfl ?_
   refine RG.val' .plain (FV.move rfl) rfl ?_
   refine RG.val' .plain (FV.move rfl) rfl ?_
   refine RG.val' .plain (FV.move rfl) rfl ?_
   refine RG.val' .plain (FV.loadN (cs := [.int .u64 (a4.fState.toNat : Int)]) (by kernel_rfl) rfl (hS29.memA (.tl .hd))) rfl ?_
   obtain ⟨y35, hy35, h⟩ := bind_in h
   have hm36 := Rep.mv hr21 (Tr.trans hT25 hT30)
   refine RG.call' (fst := []) (cap := []) .plain body15 rfl (evs_cons rfl (evs_cons rfl (evs_cons rfl (evs_cons rfl (evs_cons rfl evs_nil))))) (fun w9 hw9 => wilson_Walk_c n _ w9 (hS29.hL hL hw9) y13 (Rep.keep0 hm36 hw9) (a1 &&& ((shlU (1 : UInt64) k31) - (1 : UInt64))) s34 (a2 &&& ((shlU (1 : UInt64) k32) - (1 : UInt64))) a4 (hG0.keep (hS29.ag.trans hw9)) hy35) rfl (fun w37 vu38 hag39 ⟨v42, hu_, hr43⟩ => ?_)
   subst hu_
   have hS40 := hS29.agree hag39
   have hT41 := Tr.agree (O := [.cells b26 [.int .i64 y13.fN, v20] 40, .cells b10 [.int .u64 (a4.fState.toNat : Int)] 37, .cells b5 [.int .u8 (a0.fWide.toNat : Int), .int .u8 (a0.fHigh.toNat : Int), .int .u16 (a0.fLess.toNat : Int), v0_3] 34]) hag39
   refine RG.val' .plain (FV.move rfl) rfl ?_
   refine RG.val' .plain (FV.extract rfl rfl) rfl ?_
   refine RG.val' .plain (FV.extract rfl rfl) rfl ?_
   refine RG.val' .plain (FV.extract rfl rfl) rfl ?_
   refine RG.new .plain rfl (Does.alloc (zs := [.int .u64 0]) hS40 (zB (by kernel_rfl))) (fun w45 b48 hS46 hT47 => ?_)
   refine RG.val' .plain (FV.assign rfl) rfl ?_
   refine RG.now .plain (Acts.store (j := 0) (old := [.int .u64 0]) (news := [.int .u64 (y35.2.1.fState.toNat : Int)]) (new' := [.int .u64 (y35.2.1.fState.toNat : Int)]) hS46 .hd rfl rfl rfl rfl rfl rfl (ones_cons rfl ones_nil) rfl) (fun w49 hS50 hT51 => ?_)
   refine RG.val' .plain (FV.assign rfl) rfl ?_
   refine RG.nil ?_
   refine MX.seq ?_
   refine MX.seq ?_
   refine MX.region ?_
   refine RG.val' .plain (FV.move rfl) rfl ?_
   refine RG.val' .plain (FV.move rfl) rfl ?_
   obtain ⟨k52, hk52, h⟩ := bind_in h
   refine RG.val' .plain (FV.shrI (a := a1 &&& ((shlU (1 : UInt64) k31) - (1 : UInt64))) (i := s34) rfl rfl hk52) rfl ?_
   refine RG.val' .plain (FV.andU (a := shrU (a1 &&& ((shlU (1 : UInt64) k31) - (1 : UInt64))) k52) (b := (1 : UInt64)) rfl rfl) rfl ?_
   refine RG.val' .plain (FV.eqlU (a := (shrU (a1 &&& ((shlU (1 : UInt64) k31) - (1 : UInt64))) k52) &&& (1 : UInt64)) (b := (0 : UInt64)) rfl rfl) rfl ?_
   refine RG.nil ?_
   refine MX.ifd rfl h (fun c53 h => ?_) (fun c53 h => ?_)
   ·skip
    refine MX.seq ?_
    refine MX.drawT 6 tb7_9 (by kernel_rfl) (by kernel_rfl) (by kernel_rfl) (fun kt54 kp55 => ?_)
    refine RD.vP 1 2 kt54 rfl kp55 .plain (fun _ => FV.move rfl) rfl ?_
    refine RD.val (i := 2) (m' := 6) (W := 48) (takeC_ok kt54 (by kernel_rfl)) rfl kp55 .plain (FV.loadN (cs := [.int .u64 (y35.2.1.fState.toNat : Int)]) (by kernel_rfl) rfl (hS50.memA .hd)) rfl ?_
    refine RD.vP 3 14 kt54 rfl kp55 .plain (fun _ => FV.move rfl) rfl ?_
    refine RD.one (i := 0) (readyD_ok kt54 (by kernel_rfl)) (RO.call (m' := 15) (fst := []) (cap := []) (stepC_ok kt54 (by kernel_rfl)) rfl .plain body21 rfl (evs_cons rfl evs_nil) (fun w9 hw9 => Calls.gives (wardmotelaw31_stops_c n _ w9 (hS50.hL hL hw9) 2) fun (w8 : World) (u8 : Value) ⟨b0_, hu_, s_⟩ => (⟨b0_, hu_, s_.from hw9⟩ : ∃ b57 : Nat, u8 = Value.func (.func 39) #[] #[.pointer (some ⟨b57, 0, none⟩)] ∧ St w49 w8 [.cells b57 [.int .i64 2] 27])) rfl (fun w58 vu59 hag60 ⟨b57, hu62, s61⟩ => ?_))
    subst hu62
    have hS63 : St w w58 [.cells b57 [.int .i64 2] 27, .cells b48 [.int .u64 (y35.2.1.fState.toNat : Int)] 37, .cells b26 [.int .i64 y13.fN, v20] 40, .cells b10 [.int .u64 (a4.fState.toNat : Int)] 37, .cells b5 [.int .u8 (a0.fWide.toNat : Int), .int .u8 (a0.fHigh.toNat : Int), .int .u16 (a0.fLess.toNat : Int), v0_3] 34] := St.merge hS50 s61
    have hT64 : Tr w49 [.cells b48 [.int .u64 (y35.2.1.fState.toNat : Int)] 37, .cells b26 [.int .i64 y13.fN, v20] 40, .cells b10 [.int .u64 (a4.fState.toNat : Int)] 37, .cells b5 [.int .u8 (a0.fWide.toNat : Int), .int .u8 (a0.fHigh.toNat : Int), .int .u16 (a0.fLess.toNat : Int), v0_3] 34] w58 [.cells b57 [.int .i64 2] 27, .cells b48 [.int .u64 (y35.2.1.fState.toNat : Int)] 37, .cells b26 [.int .i64 y13.fN, v20] 40, .cells b10 [.int .u64 (a4.fState.toNat : Int)] 37, .cells b5 [.int .u8 (a0.fWide.toNat : Int), .int .u8 (a0.fHigh.toNat : Int), .int .u16 (a0.fLess.toNat : Int), v0_3] 34] := Tr.merge hS50 s61
    obtain ⟨y65, hy65, h⟩ := bind_in h
    have hm66 := Rep.mv hr43 (Tr.trans hT47 (Tr.trans hT51 hT64))
    refine RD.callq (i := 4) (m' := 31) (W := 32) (takeC_ok kt54 (by kernel_rfl)) rfl kp55 (v := .bool y65) (fst := []) (cap := [.pointer (some ⟨b57, 0, none⟩)]) .plain body39 rfl (evs_cons rfl (evs_cons rfl (evs_cons rfl evs_nil))) (fun w9 hw9 => wardmotelaw31_stops_1_c n _ w9 (hS63.hL0 hL hw9) y35.1 (Rep.keep0 (Rep.dropO (O := [.cells b57 [.int .i64 2] 27, .cells b48 [.int .u64 (y35.2.1.fState.toNat : Int)] 37, .cells b26 [.int .i64 y13.fN, v20] 40, .cells b10 [.int .u64 (a4.fState.toNat : Int)] 37, .cells b5 [.int .u8 (a0.fWide.toNat : Int), .int .u8 (a0.fHigh.toNat : Int), .int .u16 (a0.fLess.toNat : Int), v0_3] 34]) hm66) hw9) y35.2.1 y35.2.2 2 (fun j9 v9 h9 => hw9.cell0 ((hS63.memA .hd) j9 v9 h9)) hy65) rfl ?_
    refine RD.vP 5 63 kt54 rfl kp55 .plain (fun _ => FV.assign rfl) rfl ?_
    refine RD.done (doneD_ok kt54 (by kernel_rfl)) ?_
    refine MX.ret rfl ?_
    refine RT.leave (u := .bool y65) hb0 Tryd.func7 rfl (.cons (.tmp rfl) .nil) rfl ?_
    obtain rfl := Option.some.inj h
    exact ⟨hS63.ag, fun w9 hw9 => rfl⟩
   ·skip
    refine MX.skip ?_
    refine MX.seq ?_
    refine MX.region ?_
    refine RG.val' .plain (FV.loadN (cs := [.int .i64 y13.fN, v20]) (by kernel_rfl) rfl (hS50.memA (.tl .hd))) rfl ?_
    refine RG.val' .plain (FV.move rfl) rfl ?_
    refine RG.val' .plain (FV.move rfl) rfl ?_
    obtain ⟨y67, hy67, h⟩ := bind_in h
    have hm68 := Rep.mv hr21 (Tr.trans hT25 (Tr.trans hT30 (Tr.trans hT41 (Tr.trans hT47 hT51))))
    refine RG.call' (fst := []) (cap := []) .plain body24 rfl (evs_cons rfl (evs_cons rfl (evs_cons rfl evs_nil))) (fun w9 hw9 => graph_Distances_c n _ w9 (hS50.hL hL hw9) y13 (Rep.keep0 hm68 hw9) (a1 &&& ((shlU (1 : UInt64) k31) - (1 : UInt64))) s34 (hG0.keep (hS50.ag.trans hw9)) hy67) rfl (fun w69 vu70 hag71 ⟨v74, hu_, hr75⟩ => ?_)
    subst hu_
    have hS72 := hS50.agree hag71
    have hT73 := Tr.agree (O := [.cells b48 [.int .u64 (y35.2.1.fState.toNat : Int)] 37, .cells b26 [.int .i64 y13.fN, v20] 40, .cells b10 [.int .u64 (a4.fState.toNat : Int)] 37, .cells b5 [.int .u8 (a0.fWide.toNat : Int), .int .u8 (a0.fHigh.toNat : Int), .int .u16 (a0.fLess.toNat : Int), v0_3] 34]) hag71
    refine RG.val' .plain (FV.move rfl) rfl ?_
    refine RG.val' .plain (FV.extract rfl rfl) rfl ?_
    refine RG.val' .plain (FV.extract rfl rfl) rfl ?_
    refine RG.val' .plain (FV.assign rfl) rfl ?_
    refine RG.val' .plain (FV.assign rfl) rfl ?_
    refine RG.nil ?_
    refine MX.seq ?_
    refine MX.region ?_
    refine RG.val' .plain (FV.assign rfl) rfl ?_
    refine RG.nil ?_
    refine MX.seq ?_
    refine MX.seq ?_
    refine MX.region ?_
    refine RG.val' .plain (FV.move rfl) rfl ?_
    have hl76 : y67.1.length ≤ 281474976710656 := Rep.lenle hr75
    refine RG.val' .plain (FV.len (xs := y67.1) Tryd.underlying22 rfl hr75) rfl ?_
    refine RG.val' .plain (FV.move rfl) rfl ?_
    refine RG.nil ?_
    refine MX.block ?_
    have hS104 : St _ _ [.cells b48 [.int .u64 (y35.2.1.fState.toNat : Int)] 37, .cells b26 [.int .i64 y13.fN, v20] 40] := hS72.arr (.one .hd (.one .hd .done))
    have hT105 : Tr w69 _ w69 [.cells b48 [.int .u64 (y35.2.1.fState.toNat : Int)] 37, .cells b26 [.int .i64 y13.fN, v20] 40] := Tr.arr (St.arrOf hS72 (.one .hd (.one .hd .done)))
    obtain ⟨o113, ho112, hh114⟩ := bind_in2 h
    refine MX.loop (α := Int × Nat) (fun ⟨z106, i107⟩ => [(1, .int .u64 ((a1 &&& ((shlU (1 : UInt64) k31) - (1 : UInt64))).toNat : Int)), (2, .int .u64 ((a2 &&& ((shlU (1 : UInt64) k32) - (1 : UInt64))).toNat : Int)), (11, .pointer (some ⟨b26, 0, none⟩)), (12, .int .i64 s34), (14, .pointer (some ⟨b48, 0, none⟩)), (13, v42), (15, .int .i64 y35.2.2), (17, .int .i64 y67.2), (18, .int .i64 z106), (72, v74), (73, .int .i64 ((y67.1.length : Nat) : Int)), (74, .int .i64 ((i107 : Nat) : Int))]) (fun ⟨z106, i107⟩ wx107 => St w wx107 [.cells b48 [.int .u64 (y35.2.1.fState.toNat : Int)] 37, .cells b26 [.int .i64 y13.fN, v20] 40] ∧ Tr w69 [.cells b48 [.int .u64 (y35.2.1.fState.toNat : Int)] 37, .cells b26 [.int .i64 y13.fN, v20] 40] wx107 [.cells b48 [.int .u64 (y35.2.1.fState.toNat : Int)] 37, .cells b26 [.int .i64 y13.fN, v20] 40]) (fun ⟨z106, i107⟩ => (z106, i107)) ((-1), 0) ho112 ⟨rfl, rfl, rfl, rfl, rfl, rfl, rfl, rfl, rfl, rfl, rfl, rfl, trivial⟩ ⟨hS104, Tr.refl _ _⟩ ?_
    rintro J115 ⟨z106, i107⟩ wx107 hJ116 ⟨hS108, hT109⟩ h
    unfold wardmotelaw31_WilsonSteps_l2 at h
    try dsimp only at h
    refine MX.seq ?_
    refine MX.region ?_
    refine RG.val' .plain (FV.lssN (i := i107) (j := y67.1.length) rfl rfl) rfl ?_
    refine RG.nil ?_
    refine MX.seq ?_
    refine MX.ifd rfl h (fun c117 h => ?_) (fun c117 h => ?_)
    ·skip
     refine MX.skip ?_
     refine MX.seq ?_
     refine MX.block ?_
     refine MX.seq ?_
     refine MX.region ?_
     refine RG.val' .plain (FV.move rfl) rfl ?_
     obtain ⟨x118, hx118, h⟩ := bind_in h
     have hm126 := Rep.mv hr75 (Tr.trans hT105 hT109)
     obtain ⟨A119, c120, he121, hk122, cs123, hr124, hm125⟩ := Rep.nth hm126 hx118
     have he127 : cs123 = [.int .i64 x118] := hr124; subst he127
     refine RG.val' .plain (FV.idxAddr (m := 1) (i := i107) (by kernel_rfl) rfl he121 rfl rfl hk122) rfl ?_
     refine RG.val' .plain (FV.load1 (by kernel_rfl) rfl (hm125 0 _ rfl)) rfl ?_
     refine RG.val' .plain (FV.assign rfl) rfl ?_
     refine RG.val' .plain (FV.assign rfl) rfl ?_
     refine RG.nil ?_
     refine MX.seq ?_
     refine MX.region ?_
     refine RG.val' .plain (FV.move rfl) rfl ?_
     refine RG.val' .plain (FV.move rfl) rfl ?_
     refine RG.val' .plain (FV.shrU (a := a2 &&& ((shlU (1 : UInt64) k32) - (1 : UInt64))) (j := i107) rfl rfl) rfl ?_
     refine RG.val' .plain (FV.andU (a := shrU (a2 &&& ((shlU (1 : UInt64) k32) - (1 : UInt64))) i107) (b := (1 : UInt64)) rfl rfl) rfl ?_
     refine RG.val' .plain (FV.eqlU (a := (shrU (a2 &&& ((shlU (1 : UInt64) k32) - (1 : UInt64))) i107) &&& (1 : UInt64)) (b := (1 : UInt64)) rfl rfl) rfl ?_
     refine RG.val' .plain (FV.move rfl) rfl ?_
     refine RG.ifd (s := 84) rfl h (fun c128 h => ?_) (fun c128 h => ?_)
     ·skip
      refine RG.val' (.yes rfl rfl) (FV.move rfl) rfl ?_
      refine RG.val' (.yes rfl rfl) (FV.geq (i := x118) (j := 0) rfl rfl) rfl ?_
      refine RG.val' .plain (FV.pick_t rfl rfl) rfl ?_
      refine RG.val' .plain (FV.move rfl) rfl ?_
      refine RG.ifd (s := 88) rfl h (fun c129 h => ?_) (fun c129 h => ?_)
      ·skip
       refine RG.val' (.yes rfl rfl) (FV.move rfl) rfl ?_
       refine RG.val' (.yes rfl rfl) (FV.lss (i := z106) (j := 0) rfl rfl) rfl ?_
       refine RG.val' (.yes rfl rfl) (FV.move rfl) rfl ?_
       refine RG.ifd (s := 91) rfl h (fun c130 h => ?_) (fun c130 h => ?_)
       ·skip
        refine RG.off (.no rfl rfl) rfl ?_
        refine RG.off (.no rfl rfl) rfl ?_
        refine RG.off (.no rfl rfl) rfl ?_
        refine RG.val' (.yes rfl rfl) (FV.pick_t rfl rfl) rfl ?_
        refine RG.val' .plain (FV.pick_t rfl rfl) rfl ?_
        refine RG.nil ?_
        refine MX.cond_t rfl ?_
        refine MX.region ?_
        refine RG.val' .plain (FV.move rfl) rfl ?_
        refine RG.val' .plain (FV.assign rfl) rfl ?_
        refine RG.nil ?_
        refine MX.inBlock ?_
        refine MX.region ?_
        refine RG.val' .plain (FV.addN (i := i107) (j := 1) rfl rfl (by omega)) rfl ?_
        refine RG.val' .plain (FV.move rfl) rfl ?_
        refine RG.nil ?_
        exact hJ116 (x118, i107 + 1) _ _ ⟨rfl, rfl, rfl, rfl, rfl, rfl, rfl, rfl, rfl, rfl, rfl, rfl, trivial⟩ ⟨hS108, hT109⟩ h
       ·skip
        refine RG.val' (.yes rfl rfl) (FV.move rfl) rfl ?_
        refine RG.val' (.yes rfl rfl) (FV.move rfl) rfl ?_
        refine RG.val' (.yes rfl rfl) (FV.lss (i := x118) (j := z106) rfl rfl) rfl ?_
        refine RG.val' (.yes rfl rfl) (FV.pick_f rfl rfl) rfl ?_
        refine RG.val' .plain (FV.pick_t rfl rfl) rfl ?_
        refine RG.nil ?_
        refine MX.join (α := Int) (fun z132 => [(1, .int .u64 ((a1 &&& ((shlU (1 : UInt64) k31) - (1 : UInt64))).toNat : Int)), (2, .int .u64 ((a2 &&& ((shlU (1 : UInt64) k32) - (1 : UInt64))).toNat : Int)), (11, .pointer (some ⟨b26, 0, none⟩)), (12, .int .i64 s34), (14, .pointer (some ⟨b48, 0, none⟩)), (13, v42), (15, .int .i64 y35.2.2), (17, .int .i64 y67.2), (18, .int .i64 z132), (72, v74), (73, .int .i64 ((y67.1.length : Nat) : Int)), (74, .int .i64 ((i107 : Nat) : Int))]) (fun z132 wx132 => St w wx132 [.cells b48 [.int .u64 (y35.2.1.fState.toNat : Int)] 37, .cells b26 [.int .i64 y13.fN, v20] 40] ∧ Tr wx107 [.cells b48 [.int .u64 (y35.2.1.fState.toNat : Int)] 37, .cells b26 [.int .i64 y13.fN, v20] 40] wx132 [.cells b48 [.int .u64 (y35.2.1.fState.toNat : Int)] 37, .cells b26 [.int .i64 y13.fN, v20] 40]) (fun z132 => z132) h ?_ ?_
        ·skip
         rintro z132 wx132 ⟨hS133, hT134⟩ h
         try dsimp only at h
         refine MX.inBlock ?_
         refine MX.region ?_
         refine RG.val' .plain (FV.addN (i := i107) (j := 1) rfl rfl (by omega)) rfl ?_
         refine RG.val' .plain (FV.move rfl) rfl ?_
         refine RG.nil ?_
         exact hJ116 (z132, i107 + 1) _ _ ⟨rfl, rfl, rfl, rfl, rfl, rfl, rfl, rfl, rfl, rfl, rfl, rfl, trivial⟩ ⟨hS133, (Tr.trans hT109 hT134)⟩ h
        ·skip
         intro J136 hJ137 h
         try dsimp only at h
         refine MX.ifd rfl h (fun c138 h => ?_) (fun c138 h => ?_)
         ·skip
          refine MX.region ?_
          refine RG.val' .plain (FV.move rfl) rfl ?_
          refine RG.val' .plain (FV.assign rfl) rfl ?_
          refine RG.nil ?_
          exact hJ137 x118 _ _ ⟨rfl, rfl, rfl, rfl, rfl, rfl, rfl, rfl, rfl, rfl, rfl, rfl, trivial⟩ ⟨hS108, Tr.refl _ _⟩ h
         ·skip
          refine MX.skip ?_
          exact hJ137 z106 _ _ ⟨rfl, rfl, rfl, rfl, rfl, rfl, rfl, rfl, rfl, rfl, rfl, rfl, trivial⟩ ⟨hS108, Tr.refl _ _⟩ h
      ·skip
       refine RG.off (.no rfl rfl) rfl ?_
       refine RG.off (.no rfl rfl) rfl ?_
       refine RG.off (.no rfl rfl) rfl ?_
       refine RG.off (.undef rfl rfl) rfl ?_
       refine RG.off (.undef rfl rfl) rfl ?_
       refine RG.off (.undef rfl rfl) rfl ?_
       refine RG.off (.no rfl rfl) rfl ?_
       refine RG.val' .plain (FV.pick_f rfl rfl) rfl ?_
       refine RG.nil ?_
       refine MX.cond_f rfl ?_
       refine MX.skip ?_
       refine MX.inBlock ?_
       refine MX.region ?_
       refine RG.val' .plain (FV.addN (i := i107) (j := 1) rfl rfl (by omega)) rfl ?_
       refine RG.val' .plain (FV.move rfl) rfl ?_
       refine RG.nil ?_
       exact hJ116 (z106, i107 + 1) _ _ ⟨rfl, rfl, rfl, rfl, rfl, rfl, rfl, rfl, rfl, rfl, rfl, rfl, trivial⟩ ⟨hS108, hT109⟩ h
     ·skip
      refine RG.off (.no rfl rfl) rfl ?_
      refine RG.off (.no rfl rfl) rfl ?_
      refine RG.val' .plain (FV.pick_f rfl rfl) rfl ?_
      refine RG.val' .plain (FV.move rfl) rfl ?_
      refine RG.off (.no rfl rfl) rfl ?_
      refine RG.off (.no rfl rfl) rfl ?_
      refine RG.off (.no rfl rfl) rfl ?_
      refine RG.off (.undef rfl rfl) rfl ?_
      refine RG.off (.undef rfl rfl) rfl ?_
      refine RG.off (.undef rfl rfl) rfl ?_
      refine RG.off (.no rfl rfl) rfl ?_
      refine RG.val' .plain (FV.pick_f rfl rfl) rfl ?_
      refine RG.nil ?_
      refine MX.cond_f rfl ?_
      refine MX.skip ?_
      refine MX.inBlock ?_
      refine MX.region ?_
      refine RG.val' .plain (FV.addN (i := i107) (j := 1) rfl rfl (by omega)) rfl ?_
      refine RG.val' .plain (FV.move rfl) rfl ?_
      refine RG.nil ?_
      exact hJ116 (z106, i107 + 1) _ _ ⟨rfl, rfl, rfl, rfl, rfl, rfl, rfl, rfl, rfl, rfl, rfl, rfl, trivial⟩ ⟨hS108, hT109⟩ h
    ·skip
     refine MX.exit rfl ?_
     have h := hh114 _ h
     try dsimp only at h
     refine MX.seq ?_
     refine MX.seq ?_
     refine MX.region ?_
     refine RG.val' .plain (FV.move rfl) rfl ?_
     refine RG.val' .plain (FV.neq (i := y67.2) (j := 0) rfl rfl) rfl ?_
     refine RG.val' .plain (FV.move rfl) rfl ?_
     refine RG.ifn (s := 101) rfl h (fun c139 h => ?_) (fun c139 h => ?_)
     ·skip
      refine RG.val' (.yes rfl rfl) (FV.move rfl) rfl ?_
      refine RG.val' (.yes rfl rfl) (FV.lss (i := z106) (j := 0) rfl rfl) rfl ?_
      refine RG.val' .plain (FV.pick_f rfl rfl) rfl ?_
      refine RG.nil ?_
      refine MX.ifd rfl h (fun c140 h => ?_) (fun c140 h => ?_)
      ·skip
       refine MX.seq ?_
       refine MX.drawT 10 tb7_19 (by kernel_rfl) (by kernel_rfl) (by kernel_rfl) (fun kt141 kp142 => ?_)
       refine RD.vP 0 1 kt141 rfl kp142 .plain (fun _ => FV.move rfl) rfl ?_
       refine RD.vP 1 3 kt141 rfl kp142 .plain (fun _ => FV.eql (i := y67.2) (j := 0) rfl rfl) rfl ?_
       refine RD.vP 2 7 kt141 rfl kp142 .plain (fun _ => FV.move rfl) rfl ?_
       refine RD.known (s := 107) rfl (decide_eq_true c139) ?_
       refine RD.vP 4 23 kt141 rfl kp142 (.yes rfl rfl) (fun _ => FV.move rfl) rfl ?_
       refine RD.val (i := 5) (m' := 55) (W := 896) (takeC_ok kt141 (by kernel_rfl)) rfl kp142 (.yes rfl rfl) (FV.loadN (cs := [.int .u64 (y35.2.1.fState.toNat : Int)]) (by kernel_rfl) rfl (hS108.memA .hd)) rfl ?_
       refine RD.vP 6 119 kt141 rfl kp142 (.yes rfl rfl) (fun _ => FV.move rfl) rfl ?_
       refine RD.one (i := 3) (readyD_ok kt141 (by kernel_rfl)) (RO.call (m' := 127) (fst := []) (cap := []) (stepC_ok kt141 (by kernel_rfl)) rfl (.yes rfl rfl) body21 rfl (evs_cons rfl evs_nil) (fun w9 hw9 => Calls.gives (wardmotelaw31_stops_c n _ w9 (hS108.hL hL hw9) 4) fun (w8 : World) (u8 : Value) ⟨b0_, hu_, s_⟩ => (⟨b0_, hu_, s_.from hw9⟩ : ∃ b144 : Nat, u8 = Value.func (.func 39) #[] #[.pointer (some ⟨b144, 0, none⟩)] ∧ St wx107 w8 [.cells b144 [.int .i64 4] 27])) rfl (fun w145 vu146 hag147 ⟨b144, hu149, s148⟩ => ?_))
       subst hu149
       have hS150 : St w w145 [.cells b144 [.int .i64 4] 27, .cells b48 [.int .u64 (y35.2.1.fState.toNat : Int)] 37, .cells b26 [.int .i64 y13.fN, v20] 40] := St.merge hS108 s148
       have hT151 : Tr wx107 [.cells b48 [.int .u64 (y35.2.1.fState.toNat : Int)] 37, .cells b26 [.int .i64 y13.fN, v20] 40] w145 [.cells b144 [.int .i64 4] 27, .cells b48 [.int .u64 (y35.2.1.fState.toNat : Int)] 37, .cells b26 [.int .i64 y13.fN, v20] 40] := Tr.merge hS108 s148
       obtain ⟨y152, hy152, h⟩ := bind_in h
       have hm153 := Rep.mv hr43 (Tr.trans hT47 (Tr.trans hT51 (Tr.trans hT73 (Tr.trans hT105 (Tr.trans hT109 hT151)))))
       refine RD.callq (i := 7) (m' := 255) (W := 768) (takeC_ok kt141 (by kernel_rfl)) rfl kp142 (v := .bool y152) (fst := []) (cap := [.pointer (some ⟨b144, 0, none⟩)]) (.yes rfl rfl) body39 rfl (evs_cons rfl (evs_cons rfl (evs_cons rfl evs_nil))) (fun w9 hw9 => wardmotelaw31_stops_1_c n _ w9 (hS150.hL0 hL hw9) y35.1 (Rep.keep0 (Rep.dropO (O := [.cells b144 [.int .i64 4] 27, .cells b48 [.int .u64 (y35.2.1.fState.toNat : Int)] 37, .cells b26 [.int .i64 y13.fN, v20] 40]) hm153) hw9) y35.2.1 y35.2.2 4 (fun j9 v9 h9 => hw9.cell0 ((hS150.memA .hd) j9 v9 h9)) hy152) rfl ?_
       refine RD.vP 8 511 kt141 rfl kp142 .plain (fun _ => FV.pick_t rfl rfl) rfl ?_
       refine RD.vP 9 1023 kt141 rfl kp142 .plain (fun _ => FV.assign rfl) rfl ?_
       refine RD.done (doneD_ok kt141 (by kernel_rfl)) ?_
       refine MX.ret rfl ?_
       refine RT.leave (u := .bool y152) hb0 Tryd.func7 rfl (.cons (.tmp rfl) .nil) rfl ?_
       obtain rfl := Option.some.inj h
       exact ⟨hS150.ag, fun w9 hw9 => rfl⟩
      ·skip
       refine MX.skip ?_
       refine MX.seq ?_
       refine MX.seq ?_
       refine MX.region ?_
       refine RG.val' .plain (FV.move rfl) rfl ?_
       refine RG.val' .plain (FV.eql (i := y35.2.2) (j := 9) rfl rfl) rfl ?_
       refine RG.nil ?_
       refine MX.ifd rfl h (fun c154 h => ?_) (fun c154 h => ?_)
       ·skip
        refine MX.seq ?_
        refine MX.region ?_
        refine RG.val' .plain (FV.assign rfl) rfl ?_
        refine RG.nil ?_
        refine MX.ret rfl ?_
        refine RT.leave (u := .bool true) hb0 Tryd.func7 rfl (.cons (.tmp rfl) .nil) rfl ?_
        obtain rfl := Option.some.inj h
        exact ⟨hS108.ag, fun w9 hw9 => rfl⟩
       ·skip
        refine MX.skip ?_
        refine MX.seq ?_
        refine MX.seq ?_
        refine MX.region ?_
        refine RG.val' .plain (FV.move rfl) rfl ?_
        refine RG.val' .plain (FV.neq (i := y35.2.2) (j := 0) rfl rfl) rfl ?_
        refine RG.val' .plain (FV.move rfl) rfl ?_
        refine RG.ifn (s := 118) rfl h (fun c155 h => ?_) (fun c155 h => ?_)
        ·skip
         refine RG.val' (.yes rfl rfl) (FV.move rfl) rfl ?_
         have hm157 := Rep.mv hr43 (Tr.trans hT47 (Tr.trans hT51 (Tr.trans hT73 (Tr.trans hT105 hT109))))
         have hl156 : y35.1.length ≤ 281474976710656 := Rep.lenle hm157
         refine RG.val' (.yes rfl rfl) (FV.len (xs := y35.1) Tryd.underlying22 rfl hm157) rfl ?_
         refine RG.val' (.yes rfl rfl) (FV.move rfl) rfl ?_
         obtain ⟨s158, hs158, h⟩ := bind_in h
         refine RG.val' (.yes rfl rfl) (FV.addc (i := z106) (j := 1) rfl rfl hs158) rfl ?_
         refine RG.val' (.yes rfl rfl) (FV.lss (i := ((y35.1.length : Nat) : Int)) (j := s158) rfl rfl) rfl ?_
         refine RG.val' .plain (FV.pick_f rfl rfl) rfl ?_
         refine RG.val' .plain (FV.move rfl) rfl ?_
         refine RG.ifd (s := 125) rfl h (fun c159 h => ?_) (fun c159 h => ?_)
         ·skip
          refine RG.off (.no rfl rfl) rfl ?_
          refine RG.off (.no rfl rfl) rfl ?_
          refine RG.off (.no rfl rfl) rfl ?_
          refine RG.off (.no rfl rfl) rfl ?_
          refine RG.off (.no rfl rfl) rfl ?_
          refine RG.val' .plain (FV.pick_t rfl rfl) rfl ?_
          refine RG.nil ?_
          refine MX.cond_t rfl ?_
          refine MX.seq ?_
          refine MX.region ?_
          refine RG.val' .plain (FV.assign rfl) rfl ?_
          refine RG.nil ?_
          refine MX.ret rfl ?_
          refine RT.leave (u := .bool false) hb0 Tryd.func7 rfl (.cons (.tmp rfl) .nil) rfl ?_
          obtain rfl := Option.some.inj h
          exact ⟨hS108.ag, fun w9 hw9 => rfl⟩
         ·skip
          refine RG.val' (.yes rfl rfl) (FV.move rfl) rfl ?_
          obtain ⟨x160, hx160, h⟩ := bind_in h
          obtain ⟨A161, c162, he163, hk164, cs165, hr166, hm167⟩ := Rep.nth hm157 hx160
          have he168 : cs165 = [.int .i64 x160] := hr166; subst he168
          refine RG.val' (.yes rfl rfl) (FV.idxAddr (m := 1) (i := 0) (by kernel_rfl) rfl he163 rfl rfl hk164) rfl ?_
          refine RG.val' (.yes rfl rfl) (FV.load1 (by kernel_rfl) rfl (hm167 0 _ rfl)) rfl ?_
          refine RG.val' (.yes rfl rfl) (FV.move rfl) rfl ?_
          refine RG.val' (.yes rfl rfl) (FV.neq (i := x160) (j := s34) rfl rfl) rfl ?_
          refine RG.val' .plain (FV.pick_f rfl rfl) rfl ?_
          refine RG.nil ?_
          refine MX.ifn rfl h (fun c169 h => ?_) (fun c169 h => ?_)
          ·skip
           refine MX.skip ?_
           refine MX.seq ?_
           refine MX.seq ?_
           refine MX.region ?_
           refine RG.val' .plain (FV.move rfl) rfl ?_
           refine RG.val' .plain (FV.len (xs := y35.1) Tryd.underlying22 rfl hm157) rfl ?_
           refine RG.val' .plain (FV.move rfl) rfl ?_
           refine RG.nil ?_
           refine MX.block ?_
           obtain ⟨o212, ho211, hh213⟩ := thn_in h
           refine MX.loop (α := Nat) (fun i206 => [(1, .int .u64 ((a1 &&& ((shlU (1 : UInt64) k31) - (1 : UInt64))).toNat : Int)), (2, .int .u64 ((a2 &&& ((shlU (1 : UInt64) k32) - (1 : UInt64))).toNat : Int)), (11, .pointer (some ⟨b26, 0, none⟩)), (14, .pointer (some ⟨b48, 0, none⟩)), (13, v42), (132, v42), (133, .int .i64 ((y35.1.length : Nat) : Int)), (134, .int .i64 ((i206 : Nat) : Int))]) (fun i206 wx206 => St w wx206 [.cells b48 [.int .u64 (y35.2.1.fState.toNat : Int)] 37, .cells b26 [.int .i64 y13.fN, v20] 40] ∧ Tr wx107 [.cells b48 [.int .u64 (y35.2.1.fState.toNat : Int)] 37, .cells b26 [.int .i64 y13.fN, v20] 40] wx206 [.cells b48 [.int .u64 (y35.2.1.fState.toNat : Int)] 37, .cells b26 [.int .i64 y13.fN, v20] 40]) (fun i206 => i206) 0 ho211 ⟨rfl, rfl, rfl, rfl, rfl, rfl, rfl, rfl, trivial⟩ ⟨hS108, Tr.refl _ _⟩ ?_
           rintro J214 i206 wx206 hJ215 ⟨hS207, hT208⟩ h
           unfold wardmotelaw31_WilsonSteps_l1 at h
           try dsimp only at h
           refine MX.seq ?_
           refine MX.region ?_
           refine RG.val' .plain (FV.lssN (i := i206) (j := y35.1.length) rfl rfl) rfl ?_
           refine RG.nil ?_
           refine MX.seq ?_
           refine MX.ifd rfl h (fun c216 h => ?_) (fun c216 h => ?_)
           ·skip
            refine MX.skip ?_
            refine MX.seq ?_
            refine MX.block ?_
            refine MX.seq ?_
            refine MX.region ?_
            refine RG.val' .plain (FV.move rfl) rfl ?_
            obtain ⟨x217, hx217, h⟩ := bind_in h
            have hm225 := Rep.mv hr43 (Tr.trans hT47 (Tr.trans hT51 (Tr.trans hT73 (Tr.trans hT105 (Tr.trans hT109 hT208)))))
            obtain ⟨A218, c219, he220, hk221, cs222, hr223, hm224⟩ := Rep.nth hm225 hx217
            have he226 : cs222 = [.int .i64 x217] := hr223; subst he226
            refine RG.val' .plain (FV.idxAddr (m := 1) (i := i206) (by kernel_rfl) rfl he220 rfl rfl hk221) rfl ?_
            refine RG.val' .plain (FV.load1 (by kernel_rfl) rfl (hm224 0 _ rfl)) rfl ?_
            refine RG.val' .plain (FV.assign rfl) rfl ?_
            refine RG.val' .plain (FV.assign rfl) rfl ?_
            refine RG.nil ?_
            refine MX.seq ?_
            refine MX.seq ?_
            refine MX.region ?_
            refine RG.val' .plain (FV.move rfl) rfl ?_
            refine RG.val' .plain (FV.lss (i := x217) (j := 0) rfl rfl) rfl ?_
            refine RG.val' .plain (FV.move rfl) rfl ?_
            refine RG.ifd (s := 141) rfl h (fun c227 h => ?_) (fun c227 h => ?_)
            ·skip
             refine RG.off (.no rfl rfl) rfl ?_
             refine RG.off (.no rfl rfl) rfl ?_
             refine RG.off (.no rfl rfl) rfl ?_
             refine RG.off (.no rfl rfl) rfl ?_
             refine RG.val' .plain (FV.pick_t rfl rfl) rfl ?_
             refine RG.val' .plain (FV.move rfl) rfl ?_
             refine RG.off (.no rfl rfl) rfl ?_
             refine RG.off (.no rfl rfl) rfl ?_
             refine RG.off (.no rfl rfl) rfl ?_
             refine RG.off (.no rfl rfl) rfl ?_
             refine RG.off (.no rfl rfl) rfl ?_
             refine RG.val' .plain (FV.pick_t rfl rfl) rfl ?_
             refine RG.val' .plain (FV.move rfl) rfl ?_
             refine RG.off (.no rfl rfl) rfl ?_
             refine RG.off (.no rfl rfl) rfl ?_
             refine RG.off (.no rfl rfl) rfl ?_
             refine RG.off (.no rfl rfl) rfl ?_
             refine RG.off (.no rfl rfl) rfl ?_
             refine RG.off (.no rfl rfl) rfl ?_
             refine RG.off (.no rfl rfl) rfl ?_
             refine RG.off (.no rfl rfl) rfl ?_
             refine RG.off (.no rfl rfl) rfl ?_
             refine RG.off (.no rfl rfl) rfl ?_
             refine RG.off (.no rfl rfl) rfl ?_
             refine RG.val' .plain (FV.pick_t rfl rfl) rfl ?_
             refine RG.nil ?_
             refine MX.cond_t rfl ?_
             refine MX.seq ?_
             refine MX.region ?_
             refine RG.val' .plain (FV.assign rfl) rfl ?_
             refine RG.nil ?_
             have h := thn_inl h hh213
             refine MX.ret rfl ?_
             refine RT.leave (u := .bool false) hb0 Tryd.func7 rfl (.cons (.tmp rfl) .nil) rfl ?_
             obtain rfl := Option.some.inj h
             exact ⟨hS207.ag, fun w9 hw9 => rfl⟩
            ·skip
             refine RG.val' (.yes rfl rfl) (FV.move rfl) rfl ?_
             refine RG.val' (.yes rfl rfl) (FV.fieldAddr (off := 0) (by kernel_rfl) rfl) rfl ?_
             refine RG.val' (.yes rfl rfl) (FV.load1 (by kernel_rfl) rfl ((hS207.memA (.tl .hd)) 0 _ rfl)) rfl ?_
             refine RG.val' (.yes rfl rfl) (FV.geq (i := x217) (j := y13.fN) rfl rfl) rfl ?_
             refine RG.val' .plain (FV.pick_f rfl rfl) rfl ?_
             refine RG.val' .plain (FV.move rfl) rfl ?_
             refine RG.ifd (s := 147) rfl h (fun c228 h => ?_) (fun c228 h => ?_)
             ·skip
              refine RG.off (.no rfl rfl) rfl ?_
              refine RG.off (.no rfl rfl) rfl ?_
              refine RG.off (.no rfl rfl) rfl ?_
              refine RG.off (.no rfl rfl) rfl ?_
              refine RG.off (.no rfl rfl) rfl ?_
              refine RG.val' .plain (FV.pick_t rfl rfl) rfl ?_
              refine RG.val' .plain (FV.move rfl) rfl ?_
              refine RG.off (.no rfl rfl) rfl ?_
              refine RG.off (.no rfl rfl) rfl ?_
              refine RG.off (.no rfl rfl) rfl ?_
              refine RG.off (.no rfl rfl) rfl ?_
              refine RG.off (.no rfl rfl) rfl ?_
              refine RG.off (.no rfl rfl) rfl ?_
              refine RG.off (.no rfl rfl) rfl ?_
              refine RG.off (.no rfl rfl) rfl ?_
              refine RG.off (.no rfl rfl) rfl ?_
              refine RG.off (.no rfl rfl) rfl ?_
              refine RG.off (.no rfl rfl) rfl ?_
              refine RG.val' .plain (FV.pick_t rfl rfl) rfl ?_
              refine RG.nil ?_
              refine MX.cond_t rfl ?_
              refine MX.seq ?_
              refine MX.region ?_
              refine RG.val' .plain (FV.assign rfl) rfl ?_
              refine RG.nil ?_
              have h := thn_inl h hh213
              refine MX.ret rfl ?_
              refine RT.leave (u := .bool false) hb0 Tryd.func7 rfl (.cons (.tmp rfl) .nil) rfl ?_
              obtain rfl := Option.some.inj h
              exact ⟨hS207.ag, fun w9 hw9 => rfl⟩
             ·skip
              refine RG.val' (.yes rfl rfl) (FV.move rfl) rfl ?_
              refine RG.val' (.yes rfl rfl) (FV.move rfl) rfl ?_
              obtain ⟨k229, hk229, h⟩ := bind_in h
              refine RG.val' (.yes rfl rfl) (FV.shrI (a := a1 &&& ((shlU (1 : UInt64) k31) - (1 : UInt64))) (i := x217) rfl rfl hk229) rfl ?_
              refine RG.val' (.yes rfl rfl) (FV.andU (a := shrU (a1 &&& ((shlU (1 : UInt64) k31) - (1 : UInt64))) k229) (b := (1 : UInt64)) rfl rfl) rfl ?_
              refine RG.val' (.yes rfl rfl) (FV.eqlU (a := (shrU (a1 &&& ((shlU (1 : UInt64) k31) - (1 : UInt64))) k229) &&& (1 : UInt64)) (b := (0 : UInt64)) rfl rfl) rfl ?_
              refine RG.val' .plain (FV.pick_f rfl rfl) rfl ?_
              refine RG.val' .plain (FV.move rfl) rfl ?_
              refine RG.ifd (s := 154) rfl h (fun c230 h => ?_) (fun c230 h => ?_)
              ·skip
               refine RG.off (.no rfl rfl) rfl ?_
               refine RG.off (.no rfl rfl) rfl ?_
               refine RG.off (.no rfl rfl) rfl ?_
               refine RG.off (.no rfl rfl) rfl ?_
               refine RG.off (.no rfl rfl) rfl ?_
               refine RG.off (.no rfl rfl) rfl ?_
               refine RG.off (.no rfl rfl) rfl ?_
               refine RG.off (.no rfl rfl) rfl ?_
               refine RG.off (.no rfl rfl) rfl ?_
               refine RG.off (.no rfl rfl) rfl ?_
               refine RG.off (.no rfl rfl) rfl ?_
               refine RG.val' .plain (FV.pick_t rfl rfl) rfl ?_
               refine RG.nil ?_
               refine MX.cond_t rfl ?_
               refine MX.seq ?_
               refine MX.region ?_
               refine RG.val' .plain (FV.assign rfl) rfl ?_
               refine RG.nil ?_
               have h := thn_inl h hh213
               refine MX.ret rfl ?_
               refine RT.leave (u := .bool false) hb0 Tryd.func7 rfl (.cons (.tmp rfl) .nil) rfl ?_
               obtain rfl := Option.some.inj h
               exact ⟨hS207.ag, fun w9 hw9 => rfl⟩
              ·skip
               refine RG.val' (.yes rfl rfl) (FV.move rfl) rfl ?_
               refine RG.val' (.yes rfl rfl) (FV.move rfl) rfl ?_
               obtain ⟨k231, hk231, h⟩ := bind_in h
               refine RG.val' (.yes rfl rfl) (FV.shrI (a := a2 &&& ((shlU (1 : UInt64) k32) - (1 : UInt64))) (i := x217) rfl rfl hk231) rfl ?_
               refine RG.val' (.yes rfl rfl) (FV.andU (a := shrU (a2 &&& ((shlU (1 : UInt64) k32) - (1 : UInt64))) k231) (b := (1 : UInt64)) rfl rfl) rfl ?_
               refine RG.val' (.yes rfl rfl) (FV.eqlU (a := (shrU (a2 &&& ((shlU (1 : UInt64) k32) - (1 : UInt64))) k231) &&& (1 : UInt64)) (b := (1 : UInt64)) rfl rfl) rfl ?_
               refine RG.val' (.yes rfl rfl) (FV.move rfl) rfl ?_
               refine RG.val' (.yes rfl rfl) (FV.move rfl) rfl ?_
               refine RG.val' (.yes rfl rfl) (FV.len (xs := y35.1) Tryd.underlying22 rfl hm225) rfl ?_
               refine RG.val' (.yes rfl rfl) (FV.subI (i := ((y35.1.length : Nat) : Int)) (j := 1) rfl rfl (by omega)) rfl ?_
               refine RG.val' (.yes rfl rfl) (FV.eql (i := ((i206 : Nat) : Int)) (j := ((y35.1.length : Nat) : Int) - 1) rfl rfl) rfl ?_
               refine RG.val' (.yes rfl rfl) (FV.neqB (a := (decide (((shrU (a2 &&& ((shlU (1 : UInt64) k32) - (1 : UInt64))) k231) &&& (1 : UInt64)) = (1 : UInt64)))) (b := (decide (((i206 : Nat) : Int) = (((y35.1.length : Nat) : Int) - 1)))) Tryd.underlying4 rfl rfl) rfl ?_
               refine RG.val' .plain (FV.pick_f rfl rfl) rfl ?_
               refine RG.nil ?_
               refine MX.ifnb rfl h (fun c232 h => ?_) (fun c232 h => ?_)
               ·skip
                refine MX.skip ?_
                refine MX.seq ?_
                refine MX.drawT 23 tb7_29 (by kernel_rfl) (by kernel_rfl) (by kernel_rfl) (fun kt233 kp234 => ?_)
                refine RD.vP 0 1 kt233 rfl kp234 .plain (fun _ => FV.move rfl) rfl ?_
                refine RD.vP 1 3 kt233 rfl kp234 .plain (fun _ => FV.gtrN (i := i206) (j := 0) rfl rfl) rfl ?_
                refine RD.vP 2 7 kt233 rfl kp234 .plain (fun _ => FV.move rfl) rfl ?_
                refine RD.ifd (s := 169) rfl h (fun c235 h => ?_) (fun c235 h => ?_)
                ·skip
                 refine RD.vP 3 15 kt233 rfl kp234 (.yes rfl rfl) (fun _ => FV.fieldAddr (off := 1) (by kernel_rfl) rfl) rfl ?_
                 refine RD.val (i := 4) (m' := 31) (W := 7340032) (takeC_ok kt233 (by kernel_rfl)) rfl kp234 (.yes rfl rfl) (FV.load1 (by kernel_rfl) rfl ((hS207.memA (.tl .hd)) 1 _ rfl)) rfl ?_
                 refine RD.vP 5 63 kt233 rfl kp234 (.yes rfl rfl) (fun _ => FV.move rfl) rfl ?_
                 refine RD.vP 6 127 kt233 rfl kp234 (.yes rfl rfl) (fun _ => FV.move rfl) rfl ?_
                 refine RD.vP 7 255 kt233 rfl kp234 (.yes rfl rfl) (fun _ => FV.move rfl) rfl ?_
                 refine RD.vP 8 511 kt233 rfl kp234 (.yes rfl rfl) (fun _ => FV.subN (i := i206) (j := 1) rfl rfl (by omega) (by omega)) rfl ?_
                 obtain ⟨x236, hx236, h⟩ := bind_in h
                 obtain ⟨A237, c238, he239, hk240, cs241, hr242, hm243⟩ := Rep.nth hm225 hx236
                 have he244 : cs241 = [.int .i64 x236] := hr242; subst he244
                 refine RD.vP 9 1023 kt233 rfl kp234 (.yes rfl rfl) (fun _ => FV.idxAddr (m := 1) (i := i206 - 1) (by kernel_rfl) rfl he239 rfl rfl hk240) rfl ?_
                 refine RD.val (i := 10) (m' := 2047) (W := 7866368) (takeC_ok kt233 (by kernel_rfl)) rfl kp234 (.yes rfl rfl) (FV.load1 (by kernel_rfl) rfl (hm243 0 _ rfl)) rfl ?_
                 refine RD.vP 11 4095 kt233 rfl kp234 (.yes rfl rfl) (fun _ => FV.min2 (i := x217) (j := x236) rfl rfl) rfl ?_
                 refine RD.vP 12 8191 kt233 rfl kp234 (.yes rfl rfl) (fun _ => FV.move rfl) rfl ?_
                 refine RD.vP 13 16383 kt233 rfl kp234 (.yes rfl rfl) (fun _ => FV.move rfl) rfl ?_
                 refine RD.vP 14 32767 kt233 rfl kp234 (.yes rfl rfl) (fun _ => FV.move rfl) rfl ?_
                 refine RD.vP 15 65535 kt233 rfl kp234 (.yes rfl rfl) (fun _ => FV.subN (i := i206) (j := 1) rfl rfl (by omega) (by omega)) rfl ?_
                 refine RD.vP 16 131071 kt233 rfl kp234 (.yes rfl rfl) (fun _ => FV.idxAddr (m := 1) (i := i206 - 1) (by kernel_rfl) rfl he239 rfl rfl hk240) rfl ?_
                 refine RD.val (i := 17) (m' := 262143) (W := 8126464) (takeC_ok kt233 (by kernel_rfl)) rfl kp234 (.yes rfl rfl) (FV.load1 (by kernel_rfl) rfl (hm243 0 _ rfl)) rfl ?_
                 refine RD.vP 18 524287 kt233 rfl kp234 (.yes rfl rfl) (fun _ => FV.max2 (i := x217) (j := x236) rfl rfl) rfl ?_
                 refine RD.vP 19 1048575 kt233 rfl kp234 (.yes rfl rfl) (fun _ => FV.buildV (vs := [.int .i64 (min x217 x236), .int .i64 (max x217 x236)]) (u := .agg #[.int .i64 (min x217 x236), .int .i64 (max x217 x236)]) (evs_cons rfl (evs_cons rfl evs_nil)) (fun w9 => by kernel_rfl)) rfl ?_
                 obtain ⟨y245, hy245, h⟩ := bind_in h
                 have hm246 := Rep.mv hr21 (Tr.trans hT25 (Tr.trans hT30 (Tr.trans hT41 (Tr.trans hT47 (Tr.trans hT51 (Tr.trans hT73 (Tr.trans hT105 (Tr.trans hT109 hT208))))))))
                 refine RD.callq (i := 20) (m' := 2097151) (W := 6291456) (takeC_ok kt233 (by kernel_rfl)) rfl kp234 (v := .bool y245) (fst := []) (cap := []) (.yes rfl rfl) body25 rfl (evs_cons rfl (evs_cons rfl evs_nil)) (fun w9 hw9 => slices_Contains_2_int_2_int_c n _ w9 (hS207.hL0 hL hw9) y13.fEdges (Rep.keep0 (Rep.dropO (O := [.cells b48 [.int .u64 (y35.2.1.fState.toNat : Int)] 37, .cells b26 [.int .i64 y13.fN, v20] 40]) hm246) hw9) (min x217 x236, max x217 x236) hy245) rfl ?_
                 refine RD.vP 21 4194303 kt233 rfl kp234 (.yes rfl rfl) (fun _ => FV.not rfl) rfl ?_
                 refine RD.vP 22 8388607 kt233 rfl kp234 .plain (fun _ => FV.pick_t rfl rfl) rfl ?_
                 refine RD.done (doneD_ok kt233 (by kernel_rfl)) ?_
                 refine MX.ifnb rfl h (fun c247 h => ?_) (fun c247 h => ?_)
                 ·skip
                  refine MX.skip ?_
                  refine MX.inBlock ?_
                  refine MX.region ?_
                  refine RG.val' .plain (FV.addN (i := i206) (j := 1) rfl rfl (by omega)) rfl ?_
                  refine RG.val' .plain (FV.move rfl) rfl ?_
                  refine RG.nil ?_
                  exact hJ215 (i206 + 1) _ _ ⟨rfl, rfl, rfl, rfl, rfl, rfl, rfl, rfl, trivial⟩ ⟨hS207, hT208⟩ h
                 ·skip
                  refine MX.seq ?_
                  refine MX.region ?_
                  refine RG.val' .plain (FV.assign rfl) rfl ?_
                  refine RG.nil ?_
                  have h := thn_inl h hh213
                  refine MX.ret rfl ?_
                  refine RT.leave (u := .bool false) hb0 Tryd.func7 rfl (.cons (.tmp rfl) .nil) rfl ?_
                  obtain rfl := Option.some.inj h
                  exact ⟨hS207.ag, fun w9 hw9 => rfl⟩
                ·skip
                 refine RD.offs 4194303 1 [(3, 170), (4, 171), (5, 172), (6, 173), (7, 174), (8, 175), (9, 176), (10, 177), (11, 178), (12, 179), (13, 180), (14, 181), (15, 182), (16, 183), (17, 184), (18, 185), (19, 186), (20, 187), (21, 188)] (F := [(169, false)]) (U := []) kt233 kp234 (.cons rfl .nil) .nil ?_
                 dsimp only [offS, List.map]
                 refine RD.vP 22 8388607 kt233 rfl kp234 .plain (fun _ => FV.pick_f rfl rfl) rfl ?_
                 refine RD.done (doneD_ok kt233 (by kernel_rfl)) ?_
                 refine MX.cond_f rfl ?_
                 refine MX.skip ?_
                 refine MX.inBlock ?_
                 refine MX.region ?_
                 refine RG.val' .plain (FV.addN (i := i206) (j := 1) rfl rfl (by omega)) rfl ?_
                 refine RG.val' .plain (FV.move rfl) rfl ?_
                 refine RG.nil ?_
                 exact hJ215 (i206 + 1) _ _ ⟨rfl, rfl, rfl, rfl, rfl, rfl, rfl, rfl, trivial⟩ ⟨hS207, hT208⟩ h
               ·skip
                refine MX.seq ?_
                refine MX.region ?_
                refine RG.val' .plain (FV.assign rfl) rfl ?_
                refine RG.nil ?_
                have h := thn_inl h hh213
                refine MX.ret rfl ?_
                refine RT.leave (u := .bool false) hb0 Tryd.func7 rfl (.cons (.tmp rfl) .nil) rfl ?_
                obtain rfl := Option.some.inj h
                exact ⟨hS207.ag, fun w9 hw9 => rfl⟩
           ·skip
            refine MX.exit rfl ?_
            have h := thn_inr h hh213
            try dsimp only at h
            refine MX.seq ?_
            refine MX.region ?_
            refine RG.val' .plain (FV.move rfl) rfl ?_
            refine RG.val' .plain (FV.move rfl) rfl ?_
            have hm248 := Rep.mv hr43 (Tr.trans hT47 (Tr.trans hT51 (Tr.trans hT73 (Tr.trans hT105 (Tr.trans hT109 hT208)))))
            refine RG.val' .plain (FV.len (xs := y35.1) Tryd.underlying22 rfl hm248) rfl ?_
            refine RG.val' .plain (FV.subI (i := ((y35.1.length : Nat) : Int)) (j := 1) rfl rfl (by omega)) rfl ?_
            obtain ⟨x249, hx249, h⟩ := bind_in h
            obtain ⟨hi250, hx251⟩ := idx_in hx249
            obtain ⟨A252, c253, he254, hk255, cs256, hr257, hm258⟩ := Rep.nth hm248 hx251
            have he259 : cs256 = [.int .i64 x249] := hr257; subst he259
            refine RG.val' .plain (FV.idxAddr (m := 1) (i := (((y35.1.length : Nat) : Int) - 1).toNat) (by kernel_rfl) rfl he254 rfl hi250 hk255) rfl ?_
            refine RG.val' .plain (FV.load1 (by kernel_rfl) rfl (hm258 0 _ rfl)) rfl ?_
            refine RG.val' .plain (FV.assign rfl) rfl ?_
            refine RG.nil ?_
            refine MX.seq ?_
            refine MX.drawT 15 tb7_33 (by kernel_rfl) (by kernel_rfl) (by kernel_rfl) (fun kt260 kp261 => ?_)
            refine RD.val (i := 0) (m' := 1) (W := 32264) (takeC_ok kt260 (by kernel_rfl)) rfl kp261 .plain (FV.loadN (cs := [.int .u64 (y35.2.1.fState.toNat : Int)]) (by kernel_rfl) rfl (hS207.memA .hd)) rfl ?_
            refine RD.vP 1 3 kt260 rfl kp261 .plain (fun _ => FV.move rfl) rfl ?_
            refine RD.val (i := 4) (m' := 19) (W := 32256) (takeC_ok kt260 (by kernel_rfl)) rfl kp261 .plain (FV.loadN (cs := [.int .i64 y13.fN, v20]) (by kernel_rfl) rfl (hS207.memA (.tl .hd))) rfl ?_
            refine RD.vP 5 51 kt260 rfl kp261 .plain (fun _ => FV.move rfl) rfl ?_
            refine RD.vP 6 115 kt260 rfl kp261 .plain (fun _ => FV.move rfl) rfl ?_
            refine RD.vP 7 243 kt260 rfl kp261 .plain (fun _ => FV.move rfl) rfl ?_
            refine RD.val (i := 8) (m' := 499) (W := 32256) (takeC_ok kt260 (by kernel_rfl)) rfl kp261 .plain (FV.loadN (cs := [.int .u64 (y35.2.1.fState.toNat : Int)]) (by kernel_rfl) rfl (hS207.memA .hd)) rfl ?_
            refine RD.one (i := 2) (readyD_ok kt260 (by kernel_rfl)) (RO.new (m' := 503) (stepC_ok kt260 (by kernel_rfl)) rfl .plain rfl (Does.build (α := Int) (xs := ([x249] : List Int)) (vs := [.int .i64 x249]) (ds' := [.int .i64 x249]) rfl hS207 el22 rfl (evs_cons rfl evs_nil) (by kernel_rfl) rfl) (fun w263 b266 hS264 hT265 => ?_))
            have hc267 : Cells w263 (bl [.row w.heap.size 3 (Rep.size Int) (.slice (some ⟨b266, 0, none⟩) 1 1) (([x249] : List Int).length) [.int .i64 x249], .cells b48 [.int .u64 (y35.2.1.fState.toNat : Int)] 37, .cells b26 [.int .i64 y13.fN, v20] 40] ++ L) [.int .i64 x249] (([x249] : List Int) : List Int) := Cells.cons (cs := [.int .i64 x249]) (ds := []) rfl (Cells.nil _ _)
            have hr268 := St.freeze (α := Int) hS264 .hd hc267 hL
            have hS269 := hS264.del (.hd : Out _ _ _).del
            have hT270 := Tr.del (w := w263) (.hd : Out [.row w.heap.size 3 (Rep.size Int) (.slice (some ⟨b266, 0, none⟩) 1 1) (([x249] : List Int).length) [.int .i64 x249], .cells b48 [.int .u64 (y35.2.1.fState.toNat : Int)] 37, .cells b26 [.int .i64 y13.fN, v20] 40] _ _).del
            have hr271 : Rep.R w263 (bl [.cells b48 [.int .u64 (y35.2.1.fState.toNat : Int)] 37, .cells b26 [.int .i64 y13.fN, v20] 40] ++ L) [(.slice (some ⟨b266, 0, none⟩) 1 1)] ([x249] : List Int) := hr268
            refine RD.one (i := 3) (readyD_ok kt260 (by kernel_rfl)) (RO.call (m' := 511) (fst := []) (cap := []) (stepC_ok kt260 (by kernel_rfl)) rfl .plain body22 rfl (evs_cons rfl (evs_cons rfl evs_nil)) (fun w9 hw9 => Calls.gives (wardmotelaw31_goes_c n _ w9 (hS269.hL hL hw9) y35.2.1 ([x249] : List Int) (Rep.keep0 hr271 hw9)) fun (w8 : World) (u8 : Value) ⟨b0_, b1_, hu_, s_⟩ => (⟨b0_, b1_, hu_, s_.from hw9⟩ : ∃ b274 b275 : Nat, u8 = Value.func (.func 40) #[] #[.pointer (some ⟨b274, 0, none⟩), .pointer (some ⟨b275, 0, none⟩)] ∧ St w263 w8 [.cells b274 [(.slice (some ⟨b266, 0, none⟩) 1 1)] 22, .cells b275 [.int .u64 (y35.2.1.fState.toNat : Int)] 37])) rfl (fun w276 vu277 hag278 ⟨b274, b275, hu280, s279⟩ => ?_))
            subst hu280
            have hS281 : St w w276 [.cells b274 [(.slice (some ⟨b266, 0, none⟩) 1 1)] 22, .cells b275 [.int .u64 (y35.2.1.fState.toNat : Int)] 37, .cells b48 [.int .u64 (y35.2.1.fState.toNat : Int)] 37, .cells b26 [.int .i64 y13.fN, v20] 40] := St.merge hS269 s279
            have hT282 : Tr w263 [.cells b48 [.int .u64 (y35.2.1.fState.toNat : Int)] 37, .cells b26 [.int .i64 y13.fN, v20] 40] w276 [.cells b274 [(.slice (some ⟨b266, 0, none⟩) 1 1)] 22, .cells b275 [.int .u64 (y35.2.1.fState.toNat : Int)] 37, .cells b48 [.int .u64 (y35.2.1.fState.toNat : Int)] 37, .cells b26 [.int .i64 y13.fN, v20] 40] := Tr.merge hS269 s279
            obtain ⟨y283, hy283, h⟩ := bind_in h
            have hm284 := Rep.mv hr21 (Tr.trans hT25 (Tr.trans hT30 (Tr.trans hT41 (Tr.trans hT47 (Tr.trans hT51 (Tr.trans hT73 (Tr.trans hT105 (Tr.trans hT109 (Tr.trans hT208 (Tr.trans hT265 (Tr.trans hT270 hT282)))))))))))
            refine RD.one (i := 9) (readyD_ok kt260 (by kernel_rfl)) (RO.call (m' := 1023) (fst := []) (cap := []) (stepC_ok kt260 (by kernel_rfl)) rfl .plain body15 rfl (evs_cons rfl (evs_cons rfl (evs_cons rfl (evs_cons rfl (evs_cons rfl evs_nil))))) (fun w9 hw9 => wilson_Walk_c n _ w9 (hS281.hL hL hw9) y13 (Rep.keep0 hm284 hw9) (a1 &&& ((shlU (1 : UInt64) k31) - (1 : UInt64))) x249 (a2 &&& ((shlU (1 : UInt64) k32) - (1 : UInt64))) y35.2.1 (hG0.keep (hS281.ag.trans hw9)) hy283) rfl (fun w285 vu286 hag287 ⟨v290, hu_, hr291⟩ => ?_))
            subst hu_
            have hS288 := hS281.agree hag287
            have hT289 := Tr.agree (O := [.cells b274 [(.slice (some ⟨b266, 0, none⟩) 1 1)] 22, .cells b275 [.int .u64 (y35.2.1.fState.toNat : Int)] 37, .cells b48 [.int .u64 (y35.2.1.fState.toNat : Int)] 37, .cells b26 [.int .i64 y13.fN, v20] 40]) hag287
            refine RD.vP 10 2047 kt260 rfl kp261 .plain (fun _ => FV.extract rfl rfl) rfl ?_
            refine RD.vP 11 4095 kt260 rfl kp261 .plain (fun _ => FV.extract rfl rfl) rfl ?_
            refine RD.vP 12 8191 kt260 rfl kp261 .plain (fun _ => FV.extract rfl rfl) rfl ?_
            obtain ⟨y292, hy292, h⟩ := bind_in h
            have hm293 := Rep.mv hr271 (Tr.trans hT282 hT289)
            refine RD.callq (i := 13) (m' := 16383) (W := 16384) (takeC_ok kt260 (by kernel_rfl)) rfl kp261 (v := .bool y292) (fst := []) (cap := [.pointer (some ⟨b274, 0, none⟩), .pointer (some ⟨b275, 0, none⟩)]) .plain body40 rfl (evs_cons rfl (evs_cons rfl (evs_cons rfl evs_nil))) (fun w9 hw9 => wardmotelaw31_goes_1_c n _ w9 (hS288.hL0 hL hw9) y283.1 (Rep.keep0 (Rep.dropO (O := [.cells b274 [(.slice (some ⟨b266, 0, none⟩) 1 1)] 22, .cells b275 [.int .u64 (y35.2.1.fState.toNat : Int)] 37, .cells b48 [.int .u64 (y35.2.1.fState.toNat : Int)] 37, .cells b26 [.int .i64 y13.fN, v20] 40]) hr291) hw9) y283.2.1 y283.2.2 ([x249] : List Int) (Rep.keep0 (Rep.dropO (O := [.cells b274 [(.slice (some ⟨b266, 0, none⟩) 1 1)] 22, .cells b275 [.int .u64 (y35.2.1.fState.toNat : Int)] 37, .cells b48 [.int .u64 (y35.2.1.fState.toNat : Int)] 37, .cells b26 [.int .i64 y13.fN, v20] 40]) hm293) hw9) (fun j9 v9 h9 => hw9.cell0 ((hS288.memA .hd) j9 v9 h9)) y35.2.1 (fun j9 v9 h9 => hw9.cell0 ((hS288.memA (.tl .hd)) j9 v9 h9)) hy292) rfl ?_
            refine RD.vP 14 32767 kt260 rfl kp261 .plain (fun _ => FV.assign rfl) rfl ?_
            refine RD.done (doneD_ok kt260 (by kernel_rfl)) ?_
            refine MX.ret rfl ?_
            refine RT.leave (u := .bool y292) hb0 Tryd.func7 rfl (.cons (.tmp rfl) .nil) rfl ?_
            obtain rfl := Option.some.inj h
            exact ⟨hS288.ag, fun w9 hw9 => rfl⟩
          ·skip
           refine MX.seq ?_
           refine MX.region ?_
           refine RG.val' .plain (FV.assign rfl) rfl ?_
           refine RG.nil ?_
           refine MX.ret rfl ?_
           refine RT.leave (u := .bool false) hb0 Tryd.func7 rfl (.cons (.tmp rfl) .nil) rfl ?_
           obtain rfl := Option.some.inj h
           exact ⟨hS108.ag, fun w9 hw9 => rfl⟩
        ·skip
         refine RG.off (.no rfl rfl) rfl ?_
         refine RG.off (.no rfl rfl) rfl ?_
         refine RG.off (.no rfl rfl) rfl ?_
         refine RG.off (.no rfl rfl) rfl ?_
         refine RG.off (.no rfl rfl) rfl ?_
         refine RG.val' .plain (FV.pick_t rfl rfl) rfl ?_
         refine RG.val' .plain (FV.move rfl) rfl ?_
         refine RG.off (.no rfl rfl) rfl ?_
         refine RG.off (.no rfl rfl) rfl ?_
         refine RG.off (.no rfl rfl) rfl ?_
         refine RG.off (.no rfl rfl) rfl ?_
         refine RG.off (.no rfl rfl) rfl ?_
         refine RG.val' .plain (FV.pick_t rfl rfl) rfl ?_
         refine RG.nil ?_
         refine MX.cond_t rfl ?_
         refine MX.seq ?_
         refine MX.region ?_
         refine RG.val' .plain (FV.assign rfl) rfl ?_
         refine RG.nil ?_
         refine MX.ret rfl ?_
         refine RT.leave (u := .bool false) hb0 Tryd.func7 rfl (.cons (.tmp rfl) .nil) rfl ?_
         obtain rfl := Option.some.inj h
         exact ⟨hS108.ag, fun w9 hw9 => rfl⟩
     ·skip
      refine RG.off (.no rfl rfl) rfl ?_
      refine RG.off (.no rfl rfl) rfl ?_
      refine RG.val' .plain (FV.pick_t rfl rfl) rfl ?_
      refine RG.nil ?_
      refine MX.cond_t rfl ?_
      refine MX.seq ?_
      refine MX.drawT 10 tb7_19 (by kernel_rfl) (by kernel_rfl) (by kernel_rfl) (fun kt294 kp295 => ?_)
      refine RD.vP 0 1 kt294 rfl kp295 .plain (fun _ => FV.move rfl) rfl ?_
      refine RD.vP 1 3 kt294 rfl kp295 .plain (fun _ => FV.eql (i := y67.2) (j := 0) rfl rfl) rfl ?_
      refine RD.vP 2 7 kt294 rfl kp295 .plain (fun _ => FV.move rfl) rfl ?_
      refine RD.known (s := 107) rfl (decide_eq_false c139) ?_
      refine RD.offC 3 15 kt294 rfl kp295 (.no rfl rfl) ?_
      refine RD.offs 255 2 [(4, 109), (5, 110), (6, 111), (7, 112)] (F := [(107, false)]) (U := []) kt294 kp295 (.cons rfl .nil) .nil ?_
      dsimp only [offS, List.map]
      refine RD.vP 8 511 kt294 rfl kp295 .plain (fun _ => FV.pick_f rfl rfl) rfl ?_
      refine RD.vP 9 1023 kt294 rfl kp295 .plain (fun _ => FV.assign rfl) rfl ?_
      refine RD.done (doneD_ok kt294 (by kernel_rfl)) ?_
      refine MX.ret rfl ?_
      refine RT.leave (u := .bool false) hb0 Tryd.func7 rfl (.cons (.tmp rfl) .nil) rfl ?_
      obtain rfl := Option.some.inj h
      exact ⟨hS108.ag, fun w9 hw9 => rfl⟩
  ·skip
   refine MX.seq ?_
   refine MX.region ?_
   refine RG.val' .plain (FV.assign rfl) rfl ?_
   refine RG.nil ?_
   refine MX.ret rfl ?_
   refine RT.leave (u := .bool false) hb0 Tryd.func7 rfl (.cons (.tmp rfl) .nil) rfl ?_
   obtain rfl := Option.some.inj h
   exact ⟨hS8.ag, fun w9 hw9 => rfl⟩
def tb4_24 : List (Nat × Nat × Nat) := [(0, 618970019642690137449562112, 2048), (0, 1237940039285380274899124224, 32), (2, 2475880078570760549798248448, 1237940039285380274899124224), (0, 4951760157141521099596496896, 524288), (0, 9903520314283042199192993792, 65536), (0, 19807040628566084398385987584, 262144), (32, 39614081257132168796771975168, 19807040628566084398385987584), (80, 79228162514264337593543950336, 49517601571415210995964968960), (128, 158456325028528675187087900672, 79228162514264337593543950336), (264, 316912650057057350374175801344, 163408085185670196286684397568), (0, 633825300114114700748351602688, 524288), (0, 1267650600228229401496703205376, 65536), (0, 2535301200456458802993406410752, 262144), (4096, 5070602400912917605986812821504, 2535301200456458802993406410752), (10240, 10141204801825835211973625643008, 6338253001141147007483516026880), (16384, 20282409603651670423947251286016, 10141204801825835211973625643008), (33792, 40564819207303340847894502572032, 20916234903765785124695602888704), (66048, 81129638414606681695789005144064, 40881731857360398198268678373376), (131076, 162259276829213363391578010288128, 81132114294685252456338803392512), (262144, 324518553658426726783156020576256, 162259276829213363391578010288128), (786433, 649037107316853453566312041152512, 324519172628446369473293470138368), (2097151, 2048, 649037107316853453566312041152512)]
def wardmotelaw31_WilsonHands_l1 (n : Nat) (y742 : (List Int) × Int) (y13 : TGraph) (J953 : UInt64 × Nat × (List Int) → Option (UInt64 × (List Int))) : UInt64 × Nat × (List Int) → Option (UInt64 × (List Int))
  | (u940, i941, xs942) => (if i941 < y742.1.length then (y742.1[i941]?).bind fun x956 => (natOf x956).bind fun k966 => jn (fun xs996 => J953 (u940 ||| (shlU (1 : UInt64) k966), i941 + 1, xs996)) (fun J1003 => (if 0 < i941 then (y742.1[i941 - 1]?).bind fun x1008 => (slices_Index_2_int_2_int_p n y13.fEdges (min x956 x1008, max x956 x1008)).bind fun y1017 => (app xs942 ([y1017] : List Int)).bind fun xs1025 => J1003 xs1025 else J1003 xs942)) else some (u940, xs942))
def wardmotelaw31_WilsonHands_l2 (n : Nat) (i1884 : Nat) (J3080 : Int × (List Int) → Option (List Int)) : Int × (List Int) → Option (List Int)
  | (z3069, xs3070) => (if ((i1884 : Nat) : Int) < z3069 then (idx xs3070 z3069).bind fun x3085 => (chk (z3069 - 1)).bind fun s3099 => (idx xs3070 s3099).bind fun x3100 => (cmp_Less_int_p n x3085 x3100).bind fun y3114 => (if y3114 = true then (chk (z3069 - 1)).bind fun s3118 => (chk (z3069 - 1)).bind fun s3119 => (idx xs3070 s3119).bind fun x3120 => (put xs3070 ((z3069.toNat : Nat) : Int) x3120).bind fun xs3134 => (idx xs3134 s3118).bind fun x3140 => (put xs3134 ((s3118.toNat : Nat) : Int) x3085).bind fun xs3154 => (chk (z3069 - 1)).bind fun s3160 => J3080 (s3160, xs3154) else some xs3070) else some xs3070)
def wardmotelaw31_WilsonHands_l3 (n : Nat) (i1885 : Nat) (i1884 : Nat) (J2455 : Int × (List Int) → Option (List Int)) : Int × (List Int) → Option (List Int)
  | (z2444, xs2445) => (if z2444 < ((i1885 : Nat) : Int) then jn (fun xs2890 => (chk (z2444 + 1)).bind fun s2898 => J2455 (s2898, xs2890)) (fun J2896 => Option.bind (loopF (wardmotelaw31_WilsonHands_l2 n i1884) n (z2444, xs2445)) (J2896)) else some xs2445)
def wardmotelaw31_WilsonHands_l4 (n : Nat) (xs707 : List Int) (y32 : (List Int) × TChance × Int) (u711 : UInt64) (J1894 : Nat × Nat × Int × Bool × Bool → Option Bool) : Nat × Nat × Int × Bool × Bool → Option Bool
  | (i1884, i1885, z1886, q1887, q1888) => (chk (((i1885 : Nat) : Int) - ((i1884 : Nat) : Int))).bind fun s1896 => (if s1896 ≤ 12 then (chk (((i1884 : Nat) : Int) + 1)).bind fun s1900 => Option.bind (loopF (wardmotelaw31_WilsonHands_l3 n i1885 i1884) n (s1900, xs707)) (fun xs2445 => (slices_Equal_int_int_p n xs2445 y32.1).bind fun y3161 => (if y3161 = true then some (decide (u711 = y32.2.1.fState)) else some false)) else (if z1886 = 0 then none else (if q1887 = true then none else none)))
def wardmotelaw31_WilsonHands_l5 (n : Nat) (y13 : TGraph) (k31 : Nat) (J719 : UInt64 × Int × (List Int) × UInt64 → Option (Bool ⊕ ((List Int) × UInt64))) : UInt64 × Int × (List Int) × UInt64 → Option (Bool ⊕ ((List Int) × UInt64))
  | (u705, z706, xs707, u711) => (if z706 < y13.fN then (natOf z706).bind fun k722 => (if ((shrU u705 k722) &&& (1 : UInt64)) = (1 : UInt64) then (chk (z706 + 1)).bind fun s724 => J719 (u705, s724, xs707, u711) else (wilson_Walk_p n y13 ((shlU (1 : UInt64) k31) - (1 : UInt64)) z706 u705 (⟨u711⟩ : TChance)).bind fun y725 => (wilson_Erase_p n y725.1).bind fun y742 => (if y725.2.2 = 0 then (if y742.2 = 0 then Option.bind (loopF (wardmotelaw31_WilsonHands_l1 n y742 y13) n (u705, 0, xs707)) (fun (u940, xs942) => (chk (z706 + 1)).bind fun s1037 => J719 (u940, s1037, xs942, y725.2.1.fState)) else some (.inl false)) else some (.inl false))) else some (.inr (xs707, u711)))
def wardmotelaw31_WilsonHands_p (n : Nat) (a0 : TDraft) (a1 : TChance) : Option Bool :=
  (wardmotelaw31_works_p n).bind fun y11 => (if y11 = true then (wardmoteref18_Draft_Graph_p n a0).bind fun y13 => (natOf y13.fN).bind fun k31 => (wilson_Draw_p n y13 ((shlU (1 : UInt64) k31) - (1 : UInt64)) a1).bind fun y32 => (if y32.2.2 = 0 then thn (loopF (wardmotelaw31_WilsonHands_l5 n y13 k31) n ((1 : UInt64), 0, ([] : List Int), a1.fState)) (fun (xs707, u711) => (math_bits_Len_p n (u64of ((xs707.length : Nat) : Int))).bind fun y1044 => loopF (wardmotelaw31_WilsonHands_l4 n xs707 y32 u711) n (0, xs707.length, y1044, true, true)) else (if y32.2.2 = 4 then some true else some (decide (y32.2.2 = 9)))) else some false)
set_option maxRecDepth 4000 in
set_option maxHeartbeats 4000000 in
theorem wardmotelaw31_WilsonHands_c (n : Nat) (L : List Nat) (w : World) (hL : ∀ b ∈ L, b < w.heap.size) (a0 : TDraft) {v0_3 : Value} (h0_3 : Rep.R w L [v0_3] a0.fMore) (a1 : TChance) (hG0 : Glob 0 tab0 w)  {r : Bool} (h : wardmotelaw31_WilsonHands_p n a0 a1 = some r) :
    Calls Tryd.prog 4 #[.agg #[.int .u8 (a0.fWide.toNat : Int), .int .u8 (a0.fHigh.toNat : Int), .int .u16 (a0.fLess.toNat : Int), v0_3], .agg #[.int .u64 (a1.fState.toNat : Int)]] w (Gives w fun w' u => u = .bool r) := by
  unfold wardmotelaw31_WilsonHands_p at h
  have hS0 := St.start w
  refine MX.start Tryd.func4 rfl rfl rfl (fun _ cs0 hb0 => ?_)
  refine MX.seq ?_
  refine MX.region ?_
  refine RG.new .plain rfl (Does.box (vs := [.int .u8 (a0.fWide.toNat : Int), .int .u8 (a0.fHigh.toNat : Int), .int .u16 (a0.fLess.toNat : Int), v0_3]) hS0 rfl rfl) (fun w2 b5 hS3 hT4 => ?_)
  refine RG.new .plain rfl (Does.box (vs := [.int .u64 (a1.fState.toNat : Int)]) hS3 rfl rfl) (fun w7 b10 hS8 hT9 => ?_)
  refine RG.val' .plain (FV.assign rfl) rfl ?_
  refine RG.nil ?_
  refine MX.seq ?_
  refine MX.seq ?_
  refine MX.region ?_
  obtain ⟨y11, hy11, h⟩ := bind_in h
  refine RG.callq' (v := .bool y11) (fst := []) (cap := []) .plain body9 rfl evs_nil (fun w9 hw9 => wardmotelaw31_works_c n _ w9 (hS8.hL0 hL hw9) (hG0.keep (hS8.ag.trans hw9)) hy11) rfl ?_
  refine RG.val' .plain (FV.not rfl) rfl ?_
  refine RG.nil ?_
  refine MX.ifnb rfl h (fun c12 h => ?_) (fun c12 h => ?_)
  ·skip
   refine MX.skip ?_
   refine MX.seq ?_
   refine MX.region ?_
   refine RG.val' .plain (FV.loadN (cs := [.int .u8 (a0.fWide.toNat : Int), .int .u8 (a0.fHigh.toNat : Int), .int .u16 (a0.fLess.toNat : Int), v0_3]) (by kernel_rfl) rfl (hS8.memA (.tl .hd))) rfl ?_
   obtain ⟨y13, hy13, h⟩ := bind_in h
   have hm14 := Rep.mv h0_3 (Tr.trans hT4 hT9)
   refine RG.call' (fst := []) (cap := []) .plain body13 rfl (evs_cons rfl evs_nil) (fun w9 hw9 => wardmoteref18_Draft_Graph_c n _ w9 (hS8.hL hL hw9) a0 (Rep.keep0 hm14 hw9) hy13) rfl (fun w15 vu16 hag17 ⟨v20, hu_, hr21⟩ => ?_)
   subst hu_
   have hS18 := hS8.agree hag17
   have hT19 := Tr.agree (O := [.cells b10 [.int .u64 (a1.fState.toNat : Int)] 37, .cells b5 [.int .u8 (a0.fWide.toNat : Int), .int .u8 (a0.fHigh.toNat : Int), .int .u16 (a0.fLess.toNat : Int), v0_3] 34]) hag17
   refine RG.new .plain rfl (Does.alloc (zs := [.int .i64 0, .slice none 0 0]) hS18 (zB (by kernel_rfl))) (fun w23 b26 hS24 hT25 => ?_)
   have hm27 := Rep.mv hr21 hT25
   refine RG.now .plain (Acts.store (j := 0) (old := [.int .i64 0, .slice none 0 0]) (news := [.int .i64 y13.fN, v20]) (new' := [.int .i64 y13.fN, v20]) hS24 .hd rfl rfl rfl rfl rfl rfl (ones_cons rfl (ones_cons (Rep.o1 hm27) ones_nil)) rfl) (fun w28 hS29 hT30 => ?_)
   refine RG.nil ?_
   refine MX.seq ?_
   refine MX.region ?_
   refine RG.val' .plain (FV.fieldAddr (off := 0) (by kernel_rfl) rfl) rfl ?_
   refine RG.val' .plain (FV.load1 (by kernel_rfl) rfl ((hS29.memA .hd) 0 _ rfl)) rfl ?_
   obtain ⟨k31, hk31, h⟩ := bind_in h
   refine RG.val' .plain (FV.shlI (a := (1 : UInt64)) (i := y13.fN) rfl rfl hk31) rfl ?_
   refine RG.val' .plain (FV.subU (a := shlU (1 : UInt64) k31) (b := (1 : UInt64)) rfl rfl) rfl ?_
   refine RG.val' .plain (FV.assign rfl) rfl ?_
   refine RG.nil ?_
   refine MX.seq ?_
   refine MX.region ?_
   refine RG.val' .plain (FV.loadN (cs := [.int .i64 y13.fN, v20]) (by kernel_rfl) rfl (hS29.memA .hd)) rfl ?_
   refine RG.val' .plain (FV.move rfl) rfl ?_
   refine RG.val' .plain (FV.loadN (cs := [.int .u64 (a1.fState.toNat : Int)]) (by kernel_rfl) rfl (hS29.memA (.tl .hd))) rfl ?_
   obtain ⟨y32, hy32, h⟩ := bind_in h
   have hm33 := Rep.mv hr21 (Tr.trans hT25 hT30)
   refine RG.call' (fst := []) (cap := []) .plain body14 rfl (evs_cons rfl (evs_cons rfl (evs_cons rfl evs_nil))) (fun w9 hw9 => wilson_Draw_c n _ w9 (hS29.hL hL hw9) y13 (Rep.keep0 hm33 hw9) ((shlU (1 : UInt64) k31) - (1 : UInt64)) a1 (hG0.keep (hS29.ag.trans hw9)) hy32) rfl (fun w34 vu35 hag36 ⟨v39, hu_, hr40⟩ => ?_)
   subst hu_
   have hS37 := hS29.agree hag36
   have hT38 := Tr.agree (O := [.cells b26 [.int .i64 y13.fN, v20] 40, .cells b10 [.int .u64 (a1.fState.toNat : Int)] 37, .cells b5 [.int .u8 (a0.fWide.toNat : Int), .int .u8 (a0.fHigh.toNat : Int), .int .u16 (a0.fLess.toNat : Int), v0_3] 34]) hag36
   refine RG.val' .plain (FV.move rfl) rfl ?_
   refine RG.val' .plain (FV.extract rfl rfl) rfl ?_
   refine RG.val' .plain (FV.extract rfl rfl) rfl ?_
   refine RG.val' .plain (FV.extract rfl rfl) rfl ?_
   refine RG.new .plain rfl (Does.alloc (zs := [.int .u64 0]) hS37 (zB (by kernel_rfl))) (fun w42 b45 hS43 hT44 => ?_)
   refine RG.val' .plain (FV.assign rfl) rfl ?_
   refine RG.now .plain (Acts.store (j := 0) (old := [.int .u64 0]) (news := [.int .u64 (y32.2.1.fState.toNat : Int)]) (new' := [.int .u64 (y32.2.1.fState.toNat : Int)]) hS43 .hd rfl rfl rfl rfl rfl rfl (ones_cons rfl ones_nil) rfl) (fun w46 hS47 hT48 => ?_)
   refine RG.val' .plain (FV.assign rfl) rfl ?_
   refine RG.nil ?_
   refine MX.seq ?_
   refine MX.seq ?_
   refine MX.region ?_
   refine RG.val' .plain (FV.move rfl) rfl ?_
   refine RG.val' .plain (FV.neq (i := y32.2.2) (j := 0) rfl rfl) rfl ?_
   refine RG.nil ?_
   refine MX.ifn rfl h (fun c49 h => ?_) (fun c49 h => ?_)
   ·skip
    refine MX.skip ?_
    refine MX.seq ?_
    refine MX.region ?_
    refine RG.val' .plain (FV.assign rfl) rfl ?_
    refine RG.nil ?_
    refine MX.seq ?_
    refine MX.region ?_
    refine RG.val' .plain (FV.assign rfl) rfl ?_
    refine RG.nil ?_
    refine MX.seq ?_
    refine MX.seq ?_
    refine MX.region ?_
    refine RG.val' .plain (FV.fieldAddr (off := 0) (by kernel_rfl) rfl) rfl ?_
    refine RG.val' .plain (FV.load1 (by kernel_rfl) rfl ((hS47.memA (.tl .hd)) 0 _ rfl)) rfl ?_
    refine RG.val' .plain (FV.move rfl) rfl ?_
    refine RG.nil ?_
    refine MX.block ?_
    have hS51 := hS47.nilRow 3 (Rep.size Int)
    have hT52 := Tr.nilRow (w := w46) (O := [.cells b45 [.int .u64 (y32.2.1.fState.toNat : Int)] 37, .cells b26 [.int .i64 y13.fN, v20] 40, .cells b10 [.int .u64 (a1.fState.toNat : Int)] 37, .cells b5 [.int .u8 (a0.fWide.toNat : Int), .int .u8 (a0.fHigh.toNat : Int), .int .u16 (a0.fLess.toNat : Int), v0_3] 34]) w.heap.size 3 (Rep.size Int)
    have hc53 : Cells w46 (bl [.row w.heap.size 3 (Rep.size Int) (.slice none 0 0) (([] : List Int).length) [], .cells b45 [.int .u64 (y32.2.1.fState.toNat : Int)] 37, .cells b26 [.int .i64 y13.fN, v20] 40, .cells b10 [.int .u64 (a1.fState.toNat : Int)] 37, .cells b5 [.int .u8 (a0.fWide.toNat : Int), .int .u8 (a0.fHigh.toNat : Int), .int .u16 (a0.fLess.toNat : Int), v0_3] 34] ++ L) [] ([] : List Int) := Cells.nil _ _
    have hS702 : St _ _ [.row w.heap.size 3 (Rep.size Int) (.slice none 0 0) (([] : List Int).length) [], .cells b45 [.int .u64 (y32.2.1.fState.toNat : Int)] 37, .cells b26 [.int .i64 y13.fN, v20] 40, .cells b10 [.int .u64 (a1.fState.toNat : Int)] 37] := hS51.arr (.one .hd (.one .hd (.one .hd (.one .hd .done))))
    have hT703 : Tr w46 _ w46 [.row w.heap.size 3 (Rep.size Int) (.slice none 0 0) (([] : List Int).length) [], .cells b45 [.int .u64 (y32.2.1.fState.toNat : Int)] 37, .cells b26 [.int .i64 y13.fN, v20] 40, .cells b10 [.int .u64 (a1.fState.toNat : Int)] 37] := Tr.arr (St.arrOf hS51 (.one .hd (.one .hd (.one .hd (.one .hd .done)))))
    have hm704 := Cells.mv hc53 hT703
    obtain ⟨o717, ho716, hh718⟩ := thn_in h
    refine MX.loop (α := UInt64 × Int × (List Int) × UInt64 × Value × (List Value)) (fun ⟨u705, z706, xs707, u711, v710, cs708⟩ => [(3, .pointer (some ⟨b10, 0, none⟩)), (5, .pointer (some ⟨b26, 0, none⟩)), (6, .int .u64 (((shlU (1 : UInt64) k31) - (1 : UInt64)).toNat : Int)), (8, .pointer (some ⟨b45, 0, none⟩)), (7, v39), (10, .int .u64 (u705.toNat : Int)), (11, v710), (45, .int .i64 y13.fN), (46, .int .i64 z706)]) (fun ⟨u705, z706, xs707, u711, v710, cs708⟩ wx711 => St w wx711 [.row w.heap.size 3 (Rep.size Int) v710 xs707.length cs708, .cells b45 [.int .u64 (y32.2.1.fState.toNat : Int)] 37, .cells b26 [.int .i64 y13.fN, v20] 40, .cells b10 [.int .u64 (u711.toNat : Int)] 37] ∧ Tr w46 [.row w.heap.size 3 (Rep.size Int) (.slice none 0 0) (([] : List Int).length) [], .cells b45 [.int .u64 (y32.2.1.fState.toNat : Int)] 37, .cells b26 [.int .i64 y13.fN, v20] 40, .cells b10 [.int .u64 (a1.fState.toNat : Int)] 37] wx711 [.row w.heap.size 3 (Rep.size Int) v710 xs707.length cs708, .cells b45 [.int .u64 (y32.2.1.fState.toNat : Int)] 37, .cells b26 [.int .i64 y13.fN, v20] 40, .cells b10 [.int .u64 (u711.toNat : Int)] 37] ∧ Cells wx711 (bl [.row w.heap.size 3 (Rep.size Int) v710 xs707.length cs708, .cells b45 [.int .u64 (y32.2.1.fState.toNat : Int)] 37, .cells b26 [.int .i64 y13.fN, v20] 40, .cells b10 [.int .u64 (u711.toNat : Int)] 37] ++ L) cs708 xs707) (fun ⟨u705, z706, xs707, u711, v710, cs708⟩ => (u705, z706, xs707, u711)) ((1 : UInt64), 0, ([] : List Int), a1.fState, (.slice none 0 0), []) ho716 ⟨rfl, rfl, rfl, rfl, rfl, rfl, rfl, rfl, rfl, trivial⟩ ⟨hS702, Tr.refl _ _, hm704⟩ ?_
    rintro J719 ⟨u705, z706, xs707, u711, v710, cs708⟩ wx711 hJ720 ⟨hS712, hT713, hc709⟩ h
    unfold wardmotelaw31_WilsonHands_l5 at h
    try dsimp only at h
    refine MX.seq ?_
    refine MX.region ?_
    refine RG.val' .plain (FV.lss (i := z706) (j := y13.fN) rfl rfl) rfl ?_
    refine RG.nil ?_
    refine MX.seq ?_
    refine MX.ifd rfl h (fun c721 h => ?_) (fun c721 h => ?_)
    ·skip
     refine MX.skip ?_
     refine MX.seq ?_
     refine MX.block ?_
     refine MX.seq ?_
     refine MX.region ?_
     refine RG.val' .plain (FV.move rfl) rfl ?_
     refine RG.val' .plain (FV.assign rfl) rfl ?_
     refine RG.nil ?_
     refine MX.seq ?_
     refine MX.seq ?_
     refine MX.region ?_
     refine RG.val' .plain (FV.move rfl) rfl ?_
     refine RG.val' .plain (FV.move rfl) rfl ?_
     obtain ⟨k722, hk722, h⟩ := bind_in h
     refine RG.val' .plain (FV.shrI (a := u705) (i := z706) rfl rfl hk722) rfl ?_
     refine RG.val' .plain (FV.andU (a := shrU u705 k722) (b := (1 : UInt64)) rfl rfl) rfl ?_
     refine RG.val' .plain (FV.eqlU (a := (shrU u705 k722) &&& (1 : UInt64)) (b := (1 : UInt64)) rfl rfl) rfl ?_
     refine RG.nil ?_
     refine MX.ifd rfl h (fun c723 h => ?_) (fun c723 h => ?_)
     ·skip
      refine MX.exit rfl ?_
      refine MX.region ?_
      obtain ⟨s724, hs724, h⟩ := bind_in h
      refine RG.val' .plain (FV.addc (i := z706) (j := 1) rfl rfl hs724) rfl ?_
      refine RG.val' .plain (FV.move rfl) rfl ?_
      refine RG.nil ?_
      exact hJ720 (u705, s724, xs707, u711, v710, cs708) _ _ ⟨rfl, rfl, rfl, rfl, rfl, rfl, rfl, rfl, rfl, trivial⟩ ⟨hS712, hT713, hc709⟩ h
     ·skip
      refine MX.skip ?_
      refine MX.seq ?_
      refine MX.region ?_
      refine RG.val' .plain (FV.loadN (cs := [.int .i64 y13.fN, v20]) (by kernel_rfl) rfl (hS712.memA (.tl (.tl .hd)))) rfl ?_
      refine RG.val' .plain (FV.move rfl) rfl ?_
      refine RG.val' .plain (FV.move rfl) rfl ?_
      refine RG.val' .plain (FV.move rfl) rfl ?_
      refine RG.val' .plain (FV.loadN (cs := [.int .u64 (u711.toNat : Int)]) (by kernel_rfl) rfl (hS712.memA (.tl (.tl (.tl .hd))))) rfl ?_
      obtain ⟨y725, hy725, h⟩ := bind_in h
      have hm726 := Rep.mv hr21 (Tr.trans hT25 (Tr.trans hT30 (Tr.trans hT38 (Tr.trans hT44 (Tr.trans hT48 (Tr.trans hT52 (Tr.trans hT703 hT713)))))))
      refine RG.call' (fst := []) (cap := []) .plain body15 rfl (evs_cons rfl (evs_cons rfl (evs_cons rfl (evs_cons rfl (evs_cons rfl evs_nil))))) (fun w9 hw9 => wilson_Walk_c n _ w9 (hS712.hL hL hw9) y13 (Rep.keep0 hm726 hw9) ((shlU (1 : UInt64) k31) - (1 : UInt64)) z706 u705 (⟨u711⟩ : TChance) (hG0.keep (hS712.ag.trans hw9)) hy725) rfl (fun w727 vu728 hag729 ⟨v732, hu_, hr733⟩ => ?_)
      subst hu_
      have hS730 := hS712.agree hag729
      have hT731 := Tr.agree (O := [.row w.heap.size 3 (Rep.size Int) v710 xs707.length cs708, .cells b45 [.int .u64 (y32.2.1.fState.toNat : Int)] 37, .cells b26 [.int .i64 y13.fN, v20] 40, .cells b10 [.int .u64 (u711.toNat : Int)] 37]) hag729
      refine RG.val' .plain (FV.move rfl) rfl ?_
      refine RG.val' .plain (FV.extract rfl rfl) rfl ?_
      refine RG.val' .plain (FV.extract rfl rfl) rfl ?_
      refine RG.val' .plain (FV.extract rfl rfl) rfl ?_
      refine RG.new .plain rfl (Does.alloc (zs := [.int .u64 0]) hS730 (zB (by kernel_rfl))) (fun w735 b738 hS736 hT737 => ?_)
      refine RG.val' .plain (FV.assign rfl) rfl ?_
      refine RG.now .plain (Acts.store (j := 0) (old := [.int .u64 0]) (news := [.int .u64 (y725.2.1.fState.toNat : Int)]) (new' := [.int .u64 (y725.2.1.fState.toNat : Int)]) hS736 .hd rfl rfl rfl rfl rfl rfl (ones_cons rfl ones_nil) rfl) (fun w739 hS740 hT741 => ?_)
      refine RG.val' .plain (FV.assign rfl) rfl ?_
      refine RG.nil ?_
      refine MX.seq ?_
      refine MX.region ?_
      refine RG.val' .plain (FV.move rfl) rfl ?_
      obtain ⟨y742, hy742, h⟩ := bind_in h
      have hm743 := Rep.mv hr733 (Tr.trans hT737 hT741)
      refine RG.call' (fst := []) (cap := []) .plain body10 rfl (evs_cons rfl evs_nil) (fun w9 hw9 => wilson_Erase_c n _ w9 (hS740.hL hL hw9) y725.1 (Rep.keep0 hm743 hw9) hy742) rfl (fun w744 vu745 hag746 ⟨v749, hu_, hr750⟩ => ?_)
      subst hu_
      have hS747 := hS740.agree hag746
      have hT748 := Tr.agree (O := [.cells b738 [.int .u64 (y725.2.1.fState.toNat : Int)] 37, .row w.heap.size 3 (Rep.size Int) v710 xs707.length cs708, .cells b45 [.int .u64 (y32.2.1.fState.toNat : Int)] 37, .cells b26 [.int .i64 y13.fN, v20] 40, .cells b10 [.int .u64 (u711.toNat : Int)] 37]) hag746
      refine RG.val' .plain (FV.move rfl) rfl ?_
      refine RG.val' .plain (FV.extract rfl rfl) rfl ?_
      refine RG.val' .plain (FV.extract rfl rfl) rfl ?_
      refine RG.val' .plain (FV.assign rfl) rfl ?_
      refine RG.val' .plain (FV.assign rfl) rfl ?_
      refine RG.nil ?_
      refine MX.seq ?_
      refine MX.seq ?_
      refine MX.region ?_
      refine RG.val' .plain (FV.move rfl) rfl ?_
      refine RG.val' .plain (FV.neq (i := y725.2.2) (j := 0) rfl rfl) rfl ?_
      refine RG.val' .plain (FV.move rfl) rfl ?_
      refine RG.ifn (s := 71) rfl h (fun c751 h => ?_) (fun c751 h => ?_)
      ·skip
       refine RG.val' (.yes rfl rfl) (FV.move rfl) rfl ?_
       refine RG.val' (.yes rfl rfl) (FV.neq (i := y742.2) (j := 0) rfl rfl) rfl ?_
       refine RG.val' .plain (FV.pick_f rfl rfl) rfl ?_
       refine RG.nil ?_
       refine MX.ifn rfl h (fun c752 h => ?_) (fun c752 h => ?_)
       ·skip
        refine MX.skip ?_
        refine MX.seq ?_
        refine MX.region ?_
        refine RG.val' .plain (FV.loadN (cs := [.int .u64 (y725.2.1.fState.toNat : Int)]) (by kernel_rfl) rfl (hS747.memA .hd)) rfl ?_
        refine RG.now .plain (Acts.store (j := 0) (old := [.int .u64 (u711.toNat : Int)]) (news := [.int .u64 (y725.2.1.fState.toNat : Int)]) (new' := [.int .u64 (y725.2.1.fState.toNat : Int)]) hS747 (.tl (.tl (.tl (.tl .hd)))) rfl rfl rfl rfl rfl rfl (ones_cons rfl ones_nil) rfl) (fun w753 hS754 hT755 => ?_)
        refine RG.nil ?_
        refine MX.seq ?_
        refine MX.region ?_
        refine RG.val' .plain (FV.move rfl) rfl ?_
        have hm757 := Rep.mv hr750 hT755
        have hl756 : y742.1.length ≤ 281474976710656 := Rep.lenle hm757
        refine RG.val' .plain (FV.len (xs := y742.1) Tryd.underlying22 rfl hm757) rfl ?_
        refine RG.val' .plain (FV.move rfl) rfl ?_
        refine RG.nil ?_
        refine MX.block ?_
        have hS937 : St _ _ [.row w.heap.size 3 (Rep.size Int) v710 xs707.length cs708, .cells b45 [.int .u64 (y32.2.1.fState.toNat : Int)] 37, .cells b26 [.int .i64 y13.fN, v20] 40, .cells b10 [.int .u64 (y725.2.1.fState.toNat : Int)] 37] := hS754.arr (.one (.tl .hd) (.one (.tl .hd) (.one (.tl .hd) (.one (.tl .hd) .done))))
        have hT938 : Tr w753 _ w753 [.row w.heap.size 3 (Rep.size Int) v710 xs707.length cs708, .cells b45 [.int .u64 (y32.2.1.fState.toNat : Int)] 37, .cells b26 [.int .i64 y13.fN, v20] 40, .cells b10 [.int .u64 (y725.2.1.fState.toNat : Int)] 37] := Tr.arr (St.arrOf hS754 (.one (.tl .hd) (.one (.tl .hd) (.one (.tl .hd) (.one (.tl .hd) .done)))))
        have hm939 := Cells.mv hc709 (Tr.trans hT731 (Tr.trans hT737 (Tr.trans hT741 (Tr.trans hT748 (Tr.trans hT755 hT938)))))
        obtain ⟨o951, ho950, hh952⟩ := bind_in2 h
        refine MX.loop (α := UInt64 × Nat × (List Int) × Value × (List Value)) (fun ⟨u940, i941, xs942, v945, cs943⟩ => [(3, .pointer (some ⟨b10, 0, none⟩)), (5, .pointer (some ⟨b26, 0, none⟩)), (6, .int .u64 (((shlU (1 : UInt64) k31) - (1 : UInt64)).toNat : Int)), (8, .pointer (some ⟨b45, 0, none⟩)), (7, v39), (10, .int .u64 (u940.toNat : Int)), (11, v945), (45, .int .i64 y13.fN), (46, .int .i64 z706), (16, v749), (76, v749), (77, .int .i64 ((y742.1.length : Nat) : Int)), (78, .int .i64 ((i941 : Nat) : Int))]) (fun ⟨u940, i941, xs942, v945, cs943⟩ wx945 => St w wx945 [.row w.heap.size 3 (Rep.size Int) v945 xs942.length cs943, .cells b45 [.int .u64 (y32.2.1.fState.toNat : Int)] 37, .cells b26 [.int .i64 y13.fN, v20] 40, .cells b10 [.int .u64 (y725.2.1.fState.toNat : Int)] 37] ∧ Tr w753 [.row w.heap.size 3 (Rep.size Int) v710 xs707.length cs708, .cells b45 [.int .u64 (y32.2.1.fState.toNat : Int)] 37, .cells b26 [.int .i64 y13.fN, v20] 40, .cells b10 [.int .u64 (y725.2.1.fState.toNat : Int)] 37] wx945 [.row w.heap.size 3 (Rep.size Int) v945 xs942.length cs943, .cells b45 [.int .u64 (y32.2.1.fState.toNat : Int)] 37, .cells b26 [.int .i64 y13.fN, v20] 40, .cells b10 [.int .u64 (y725.2.1.fState.toNat : Int)] 37] ∧ Cells wx945 (bl [.row w.heap.size 3 (Rep.size Int) v945 xs942.length cs943, .cells b45 [.int .u64 (y32.2.1.fState.toNat : Int)] 37, .cells b26 [.int .i64 y13.fN, v20] 40, .cells b10 [.int .u64 (y725.2.1.fState.toNat : Int)] 37] ++ L) cs943 xs942) (fun ⟨u940, i941, xs942, v945, cs943⟩ => (u940, i941, xs942)) (u705, 0, xs707, v710, cs708) ho950 ⟨rfl, rfl, rfl, rfl, rfl, rfl, rfl, rfl, rfl, rfl, rfl, rfl, rfl, trivial⟩ ⟨hS937, Tr.refl _ _, hm939⟩ ?_
        rintro J953 ⟨u940, i941, xs942, v945, cs943⟩ wx945 hJ954 ⟨hS946, hT947, hc944⟩ h
        unfold wardmotelaw31_WilsonHands_l1 at h
        try dsimp only at h
        refine MX.seq ?_
        refine MX.region ?_
        refine RG.val' .plain (FV.lssN (i := i941) (j := y742.1.length) rfl rfl) rfl ?_
        refine RG.nil ?_
        refine MX.seq ?_
        refine MX.ifd rfl h (fun c955 h => ?_) (fun c955 h => ?_)
        ·skip
         refine MX.skip ?_
         refine MX.seq ?_
         refine MX.block ?_
         refine MX.seq ?_
         refine MX.region ?_
         refine RG.val' .plain (FV.move rfl) rfl ?_
         obtain ⟨x956, hx956, h⟩ := bind_in h
         have hm964 := Rep.mv hr750 (Tr.trans hT755 (Tr.trans hT938 hT947))
         obtain ⟨A957, c958, he959, hk960, cs961, hr962, hm963⟩ := Rep.nth hm964 hx956
         have he965 : cs961 = [.int .i64 x956] := hr962; subst he965
         refine RG.val' .plain (FV.idxAddr (m := 1) (i := i941) (by kernel_rfl) rfl he959 rfl rfl hk960) rfl ?_
         refine RG.val' .plain (FV.load1 (by kernel_rfl) rfl (hm963 0 _ rfl)) rfl ?_
         refine RG.val' .plain (FV.assign rfl) rfl ?_
         refine RG.val' .plain (FV.assign rfl) rfl ?_
         refine RG.nil ?_
         refine MX.seq ?_
         refine MX.region ?_
         refine RG.val' .plain (FV.move rfl) rfl ?_
         refine RG.val' .plain (FV.move rfl) rfl ?_
         obtain ⟨k966, hk966, h⟩ := bind_in h
         refine RG.val' .plain (FV.shlI (a := (1 : UInt64)) (i := x956) rfl rfl hk966) rfl ?_
         refine RG.val' .plain (FV.orU (a := u940) (b := shlU (1 : UInt64) k966) rfl rfl) rfl ?_
         refine RG.val' .plain (FV.assign rfl) rfl ?_
         refine RG.nil ?_
         refine MX.seq ?_
         refine MX.region ?_
         refine RG.val' .plain (FV.move rfl) rfl ?_
         refine RG.val' .plain (FV.gtrN (i := i941) (j := 0) rfl rfl) rfl ?_
         refine RG.nil ?_
         refine MX.join (α := (List Int) × Value × (List Value)) (fun ⟨xs996, v999, cs997⟩ => [(3, .pointer (some ⟨b10, 0, none⟩)), (5, .pointer (some ⟨b26, 0, none⟩)), (6, .int .u64 (((shlU (1 : UInt64) k31) - (1 : UInt64)).toNat : Int)), (8, .pointer (some ⟨b45, 0, none⟩)), (7, v39), (10, .int .u64 ((u940 ||| (shlU (1 : UInt64) k966)).toNat : Int)), (11, v999), (45, .int .i64 y13.fN), (46, .int .i64 z706), (16, v749), (76, v749), (77, .int .i64 ((y742.1.length : Nat) : Int)), (78, .int .i64 ((i941 : Nat) : Int))]) (fun ⟨xs996, v999, cs997⟩ wx999 => St w wx999 [.row w.heap.size 3 (Rep.size Int) v999 xs996.length cs997, .cells b45 [.int .u64 (y32.2.1.fState.toNat : Int)] 37, .cells b26 [.int .i64 y13.fN, v20] 40, .cells b10 [.int .u64 (y725.2.1.fState.toNat : Int)] 37] ∧ Tr wx945 [.row w.heap.size 3 (Rep.size Int) v945 xs942.length cs943, .cells b45 [.int .u64 (y32.2.1.fState.toNat : Int)] 37, .cells b26 [.int .i64 y13.fN, v20] 40, .cells b10 [.int .u64 (y725.2.1.fState.toNat : Int)] 37] wx999 [.row w.heap.size 3 (Rep.size Int) v999 xs996.length cs997, .cells b45 [.int .u64 (y32.2.1.fState.toNat : Int)] 37, .cells b26 [.int .i64 y13.fN, v20] 40, .cells b10 [.int .u64 (y725.2.1.fState.toNat : Int)] 37] ∧ Cells wx999 (bl [.row w.heap.size 3 (Rep.size Int) v999 xs996.length cs997, .cells b45 [.int .u64 (y32.2.1.fState.toNat : Int)] 37, .cells b26 [.int .i64 y13.fN, v20] 40, .cells b10 [.int .u64 (y725.2.1.fState.toNat : Int)] 37] ++ L) cs997 xs996) (fun ⟨xs996, v999, cs997⟩ => xs996) h ?_ ?_
         ·skip
          rintro ⟨xs996, v999, cs997⟩ wx999 ⟨hS1000, hT1001, hc998⟩ h
          try dsimp only at h
          refine MX.inBlock ?_
          refine MX.region ?_
          refine RG.val' .plain (FV.addN (i := i941) (j := 1) rfl rfl (by omega)) rfl ?_
          refine RG.val' .plain (FV.move rfl) rfl ?_
          refine RG.nil ?_
          exact hJ954 (u940 ||| (shlU (1 : UInt64) k966), i941 + 1, xs996, v999, cs997) _ _ ⟨rfl, rfl, rfl, rfl, rfl, rfl, rfl, rfl, rfl, rfl, rfl, rfl, rfl, trivial⟩ ⟨hS1000, (Tr.trans hT947 hT1001), hc998⟩ h
         ·skip
          intro J1003 hJ1004 h
          try dsimp only at h
          refine MX.ifd rfl h (fun c1005 h => ?_) (fun c1005 h => ?_)
          ·skip
           refine MX.drawT 20 tb4_24 (by kernel_rfl) (by kernel_rfl) (by kernel_rfl) (fun kt1006 kp1007 => ?_)
           refine RD.vP 0 1 kt1006 rfl kp1007 .plain (fun _ => FV.move rfl) rfl ?_
           refine RD.vP 1 3 kt1006 rfl kp1007 .plain (fun _ => FV.fieldAddr (off := 1) (by kernel_rfl) rfl) rfl ?_
           refine RD.val (i := 2) (m' := 7) (W := 3932160) (takeC_ok kt1006 (by kernel_rfl)) rfl kp1007 .plain (FV.load1 (by kernel_rfl) rfl ((hS946.memA (.tl (.tl .hd))) 1 _ rfl)) rfl ?_
           refine RD.vP 3 15 kt1006 rfl kp1007 .plain (fun _ => FV.move rfl) rfl ?_
           refine RD.vP 4 31 kt1006 rfl kp1007 .plain (fun _ => FV.move rfl) rfl ?_
           refine RD.vP 5 63 kt1006 rfl kp1007 .plain (fun _ => FV.move rfl) rfl ?_
           refine RD.vP 6 127 kt1006 rfl kp1007 .plain (fun _ => FV.subN (i := i941) (j := 1) rfl rfl (by omega) (by omega)) rfl ?_
           obtain ⟨x1008, hx1008, h⟩ := bind_in h
           obtain ⟨A1009, c1010, he1011, hk1012, cs1013, hr1014, hm1015⟩ := Rep.nth hm964 hx1008
           have he1016 : cs1013 = [.int .i64 x1008] := hr1014; subst he1016
           refine RD.vP 7 255 kt1006 rfl kp1007 .plain (fun _ => FV.idxAddr (m := 1) (i := i941 - 1) (by kernel_rfl) rfl he1011 rfl rfl hk1012) rfl ?_
           refine RD.val (i := 8) (m' := 511) (W := 4063744) (takeC_ok kt1006 (by kernel_rfl)) rfl kp1007 .plain (FV.load1 (by kernel_rfl) rfl (hm1015 0 _ rfl)) rfl ?_
           refine RD.vP 9 1023 kt1006 rfl kp1007 .plain (fun _ => FV.min2 (i := x956) (j := x1008) rfl rfl) rfl ?_
           refine RD.vP 10 2047 kt1006 rfl kp1007 .plain (fun _ => FV.move rfl) rfl ?_
           refine RD.vP 11 4095 kt1006 rfl kp1007 .plain (fun _ => FV.move rfl) rfl ?_
           refine RD.vP 12 8191 kt1006 rfl kp1007 .plain (fun _ => FV.move rfl) rfl ?_
           refine RD.vP 13 16383 kt1006 rfl kp1007 .plain (fun _ => FV.subN (i := i941) (j := 1) rfl rfl (by omega) (by omega)) rfl ?_
           refine RD.vP 14 32767 kt1006 rfl kp1007 .plain (fun _ => FV.idxAddr (m := 1) (i := i941 - 1) (by kernel_rfl) rfl he1011 rfl rfl hk1012) rfl ?_
           refine RD.val (i := 15) (m' := 65535) (W := 4128768) (takeC_ok kt1006 (by kernel_rfl)) rfl kp1007 .plain (FV.load1 (by kernel_rfl) rfl (hm1015 0 _ rfl)) rfl ?_
           refine RD.vP 16 131071 kt1006 rfl kp1007 .plain (fun _ => FV.max2 (i := x956) (j := x1008) rfl rfl) rfl ?_
           refine RD.vP 17 262143 kt1006 rfl kp1007 .plain (fun _ => FV.buildV (vs := [.int .i64 (min x956 x1008), .int .i64 (max x956 x1008)]) (u := .agg #[.int .i64 (min x956 x1008), .int .i64 (max x956 x1008)]) (evs_cons rfl (evs_cons rfl evs_nil)) (fun w9 => by kernel_rfl)) rfl ?_
           obtain ⟨y1017, hy1017, h⟩ := bind_in h
           have hm1018 := Rep.mv hr21 (Tr.trans hT25 (Tr.trans hT30 (Tr.trans hT38 (Tr.trans hT44 (Tr.trans hT48 (Tr.trans hT52 (Tr.trans hT703 (Tr.trans hT713 (Tr.trans hT731 (Tr.trans hT737 (Tr.trans hT741 (Tr.trans hT748 (Tr.trans hT755 (Tr.trans hT938 hT947))))))))))))))
           refine RD.callq (i := 18) (m' := 524287) (W := 3670016) (takeC_ok kt1006 (by kernel_rfl)) rfl kp1007 (v := .int .i64 y1017) (fst := []) (cap := []) .plain body16 rfl (evs_cons rfl (evs_cons rfl evs_nil)) (fun w9 hw9 => slices_Index_2_int_2_int_c n _ w9 (hS946.hL0 hL hw9) y13.fEdges (Rep.keep0 (Rep.dropO (O := [.row w.heap.size 3 (Rep.size Int) v945 xs942.length cs943, .cells b45 [.int .u64 (y32.2.1.fState.toNat : Int)] 37, .cells b26 [.int .i64 y13.fN, v20] 40, .cells b10 [.int .u64 (y725.2.1.fState.toNat : Int)] 37]) hm1018) hw9) (min x956 x1008, max x956 x1008) hy1017) rfl ?_
           refine RD.one (i := 19) (readyD_ok kt1006 (by kernel_rfl)) (RO.new (m' := 1048575) (stepC_ok kt1006 (by kernel_rfl)) rfl .plain rfl (Does.build (α := Int) (xs := ([y1017] : List Int)) (vs := [.int .i64 y1017]) (ds' := [.int .i64 y1017]) rfl hS946 el22 rfl (evs_cons rfl evs_nil) (by kernel_rfl) rfl) (fun w1020 b1023 hS1021 hT1022 => ?_))
           have hc1024 : Cells w1020 (bl [.row w.heap.size 3 (Rep.size Int) (.slice (some ⟨b1023, 0, none⟩) 1 1) (([y1017] : List Int).length) [.int .i64 y1017], .row w.heap.size 3 (Rep.size Int) v945 xs942.length cs943, .cells b45 [.int .u64 (y32.2.1.fState.toNat : Int)] 37, .cells b26 [.int .i64 y13.fN, v20] 40, .cells b10 [.int .u64 (y725.2.1.fState.toNat : Int)] 37] ++ L) [.int .i64 y1017] (([y1017] : List Int) : List Int) := Cells.cons (cs := [.int .i64 y1017]) (ds := []) rfl (Cells.nil _ _)
           obtain ⟨xs1025, hxs1025, h⟩ := bind_in h
           have hm1026 := Cells.mv hc944 hT1022
           refine RD.one (i := 20) (readyD_ok kt1006 (by kernel_rfl)) (RO.doesL (m' := 2097151) (stepC_ok kt1006 (by kernel_rfl)) rfl rfl .plain rfl (DoesL.app (α := Int) (ys := ([y1017] : List Int)) (F := fun v' cs' => [.row w.heap.size 3 (Rep.size Int) (.slice (some ⟨b1023, 0, none⟩) 1 1) (([y1017] : List Int).length) [.int .i64 y1017], .row w.heap.size 3 (Rep.size Int) v' xs1025.length cs', .cells b45 [.int .u64 (y32.2.1.fState.toNat : Int)] 37, .cells b26 [.int .i64 y13.fN, v20] 40, .cells b10 [.int .u64 (y725.2.1.fState.toNat : Int)] 37]) hxs1025 hS1021 (fun _ _ => (.tl .hd)) el22 rfl rfl hm1026 (Src.row (α := Int) hS1021 .hd hc1024)) (fun v1032 w1027 ⟨cs1031, hS1028, hT1029, hc1030⟩ => ?_))
           refine RD.one (i := 21) (readyD_ok kt1006 (by kernel_rfl)) (RO.val (m' := 4194303) (stepC_ok kt1006 (by kernel_rfl)) rfl .plain rfl (FV.assign rfl) ?_)
           refine RD.done (doneD_ok kt1006 (by kernel_rfl)) ?_
           have hS1034 : St _ _ [.row w.heap.size 3 (Rep.size Int) v1032 xs1025.length cs1031, .cells b45 [.int .u64 (y32.2.1.fState.toNat : Int)] 37, .cells b26 [.int .i64 y13.fN, v20] 40, .cells b10 [.int .u64 (y725.2.1.fState.toNat : Int)] 37] := hS1028.arr (.one (.tl .hd) (.one (.tl .hd) (.one (.tl .hd) (.one (.tl .hd) .done))))
           have hT1035 : Tr w1027 _ w1027 [.row w.heap.size 3 (Rep.size Int) v1032 xs1025.length cs1031, .cells b45 [.int .u64 (y32.2.1.fState.toNat : Int)] 37, .cells b26 [.int .i64 y13.fN, v20] 40, .cells b10 [.int .u64 (y725.2.1.fState.toNat : Int)] 37] := Tr.arr (St.arrOf hS1028 (.one (.tl .hd) (.one (.tl .hd) (.one (.tl .hd) (.one (.tl .hd) .done)))))
           have hm1036 := Cells.mv hc1030 hT1035
           exact hJ1004 (xs1025, v1032, cs1031) _ _ ⟨rfl, rfl, rfl, rfl, rfl, rfl, rfl, rfl, rfl, rfl, rfl, rfl, rfl, trivial⟩ ⟨hS1034, (Tr.trans hT1022 (Tr.trans hT1029 hT1035)), hm1036⟩ h
          ·skip
           refine MX.skip ?_
           exact hJ1004 (xs942, v945, cs943) _ _ ⟨rfl, rfl, rfl, rfl, rfl, rfl, rfl, rfl, rfl, rfl, rfl, rfl, rfl, trivial⟩ ⟨hS946, Tr.refl _ _, hc944⟩ h
        ·skip
         refine MX.exit rfl ?_
         have h := hh952 _ h
         try dsimp only at h
         refine MX.inBlock ?_
         refine MX.region ?_
         obtain ⟨s1037, hs1037, h⟩ := bind_in h
         refine RG.val' .plain (FV.addc (i := z706) (j := 1) rfl rfl hs1037) rfl ?_
         refine RG.val' .plain (FV.move rfl) rfl ?_
         refine RG.nil ?_
         exact hJ720 (u940, s1037, xs942, y725.2.1.fState, v945, cs943) _ _ ⟨rfl, rfl, rfl, rfl, rfl, rfl, rfl, rfl, rfl, trivial⟩ ⟨hS946, (Tr.trans hT713 (Tr.trans hT731 (Tr.trans hT737 (Tr.trans hT741 (Tr.trans hT748 (Tr.trans hT755 (Tr.trans hT938 hT947))))))), hc944⟩ h
       ·skip
        refine MX.seq ?_
        refine MX.region ?_
        refine RG.val' .plain (FV.assign rfl) rfl ?_
        refine RG.nil ?_
        have h := thn_inl h hh718
        refine MX.ret rfl ?_
        refine RT.leave (u := .bool false) hb0 Tryd.func4 rfl (.cons (.tmp rfl) .nil) rfl ?_
        obtain rfl := Option.some.inj h
        exact ⟨hS747.ag, fun w9 hw9 => rfl⟩
      ·skip
       refine RG.off (.no rfl rfl) rfl ?_
       refine RG.off (.no rfl rfl) rfl ?_
       refine RG.val' .plain (FV.pick_t rfl rfl) rfl ?_
       refine RG.nil ?_
       refine MX.cond_t rfl ?_
       refine MX.seq ?_
       refine MX.region ?_
       refine RG.val' .plain (FV.assign rfl) rfl ?_
       refine RG.nil ?_
       have h := thn_inl h hh718
       refine MX.ret rfl ?_
       refine RT.leave (u := .bool false) hb0 Tryd.func4 rfl (.cons (.tmp rfl) .nil) rfl ?_
       obtain rfl := Option.some.inj h
       exact ⟨hS747.ag, fun w9 hw9 => rfl⟩
    ·skip
     refine MX.exit rfl ?_
     have h := thn_inr h hh718
     try dsimp only at h
     refine MX.seq ?_
     refine MX.region ?_
     refine RG.val' .plain (FV.move rfl) rfl ?_
     refine RG.enter (fst := []) (cap := []) (vs := [v710]) .plain body17 Tryd.func17 rfl rfl rfl rfl (evs_cons rfl evs_nil) rfl (fun cs1039 hb1038 => ?_)
     refine MX.seq ?_
     refine MX.region ?_
     refine RG.val' .plain (FV.move rfl) rfl ?_
     have hl1040 : xs707.length ≤ 4294967296 := St.rowLe (α := Int) hS712 .hd
     obtain ⟨A1041, c1042, he1043⟩ := St.rowV (α := Int) hS712 .hd
     refine RG.val' .plain (FV.lenV Tryd.underlying22 rfl he1043) rfl ?_
     refine RG.val' .plain (FV.assign rfl) rfl ?_
     refine RG.nil ?_
     refine MX.region ?_
     refine RG.val' .plain (FV.move rfl) rfl ?_
     refine RG.val' .plain (FV.move rfl) rfl ?_
     refine RG.val' .plain (FV.move rfl) rfl ?_
     refine RG.val' .plain (FV.convU (i := ((xs707.length : Nat) : Int)) Tryd.underlying3 Tryd.underlying68 rfl) rfl ?_
     obtain ⟨y1044, hy1044, h⟩ := bind_in h
     refine RG.callq' (v := .int .i64 y1044) (fst := []) (cap := []) .plain body36 rfl (evs_cons rfl evs_nil) (fun w9 hw9 => math_bits_Len_c n _ w9 (hS712.hL0 hL hw9) (u64of ((xs707.length : Nat) : Int)) hy1044) rfl ?_
     refine RG.enter (fst := []) (cap := []) (vs := [v710, .int .i64 0, .int .i64 ((xs707.length : Nat) : Int), .int .i64 y1044]) .plain body35 Tryd.func35 rfl rfl rfl rfl (evs_cons rfl (evs_cons rfl (evs_cons rfl (evs_cons rfl evs_nil)))) rfl (fun cs1046 hb1045 => ?_)
     refine MX.seq ?_
     refine MX.region ?_
     refine RG.val' .plain (FV.assign rfl) rfl ?_
     refine RG.nil ?_
     refine MX.seq ?_
     refine MX.region ?_
     refine RG.val' .plain (FV.assign rfl) rfl ?_
     refine RG.nil ?_
     refine MX.block ?_
     have ho1893 := h
     refine MX.loop (α := Nat × Nat × Int × Bool × Bool) (fun ⟨i1884, i1885, z1886, q1887, q1888⟩ => [(0, v710), (1, .int .i64 ((i1884 : Nat) : Int)), (2, .int .i64 ((i1885 : Nat) : Int)), (3, .int .i64 z1886), (8, .bool q1887), (9, .bool q1888)]) (fun ⟨i1884, i1885, z1886, q1887, q1888⟩ wx1888 => St w wx1888 [.row w.heap.size 3 (Rep.size Int) v710 xs707.length cs708, .cells b45 [.int .u64 (y32.2.1.fState.toNat : Int)] 37, .cells b26 [.int .i64 y13.fN, v20] 40, .cells b10 [.int .u64 (u711.toNat : Int)] 37] ∧ Tr wx711 [.row w.heap.size 3 (Rep.size Int) v710 xs707.length cs708, .cells b45 [.int .u64 (y32.2.1.fState.toNat : Int)] 37, .cells b26 [.int .i64 y13.fN, v20] 40, .cells b10 [.int .u64 (u711.toNat : Int)] 37] wx1888 [.row w.heap.size 3 (Rep.size Int) v710 xs707.length cs708, .cells b45 [.int .u64 (y32.2.1.fState.toNat : Int)] 37, .cells b26 [.int .i64 y13.fN, v20] 40, .cells b10 [.int .u64 (u711.toNat : Int)] 37]) (fun ⟨i1884, i1885, z1886, q1887, q1888⟩ => (i1884, i1885, z1886, q1887, q1888)) (0, xs707.length, y1044, true, true) ho1893 ⟨rfl, rfl, rfl, rfl, rfl, rfl, trivial⟩ ⟨hS712, Tr.refl _ _⟩ ?_
     rintro J1894 ⟨i1884, i1885, z1886, q1887, q1888⟩ wx1888 hJ1895 ⟨hS1889, hT1890⟩ h
     unfold wardmotelaw31_WilsonHands_l4 at h
     try dsimp only at h
     refine MX.block ?_
     refine MX.seq ?_
     refine MX.region ?_
     refine RG.val' .plain (FV.move rfl) rfl ?_
     refine RG.val' .plain (FV.move rfl) rfl ?_
     obtain ⟨s1896, hs1896, h⟩ := bind_in h
     refine RG.val' .plain (FV.subc (i := ((i1885 : Nat) : Int)) (j := ((i1884 : Nat) : Int)) rfl rfl hs1896) rfl ?_
     refine RG.val' .plain (FV.assign rfl) rfl ?_
     refine RG.nil ?_
     refine MX.seq ?_
     refine MX.seq ?_
     refine MX.region ?_
     refine RG.val' .plain (FV.move rfl) rfl ?_
     refine RG.val' .plain (FV.leq (i := s1896) (j := 12) rfl rfl) rfl ?_
     refine RG.nil ?_
     refine MX.ifd rfl h (fun c1897 h => ?_) (fun c1897 h => ?_)
     ·skip
      refine MX.seq ?_
      refine MX.region ?_
      refine RG.val' .plain (FV.move rfl) rfl ?_
      refine RG.val' .plain (FV.move rfl) rfl ?_
      refine RG.val' .plain (FV.move rfl) rfl ?_
      refine RG.enter (fst := []) (cap := []) (vs := [v710, .int .i64 ((i1884 : Nat) : Int), .int .i64 ((i1885 : Nat) : Int)]) .plain body65 Tryd.func65 rfl rfl rfl rfl (evs_cons rfl (evs_cons rfl (evs_cons rfl evs_nil))) rfl (fun cs1899 hb1898 => ?_)
      refine MX.seq ?_
      refine MX.region ?_
      refine RG.val' .plain (FV.move rfl) rfl ?_
      obtain ⟨s1900, hs1900, h⟩ := bind_in h
      refine RG.val' .plain (FV.addc (i := ((i1884 : Nat) : Int)) (j := 1) rfl rfl hs1900) rfl ?_
      refine RG.val' .plain (FV.assign rfl) rfl ?_
      refine RG.nil ?_
      refine MX.block ?_
      have hm2443 := Cells.mv hc709 hT1890
      obtain ⟨o2453, ho2452, hh2454⟩ := bind_in2 h
      refine MX.loop (α := Int × (List Int) × (List Value)) (fun ⟨z2444, xs2445, cs2446⟩ => [(0, v710), (1, .int .i64 ((i1884 : Nat) : Int)), (2, .int .i64 ((i1885 : Nat) : Int)), (6, .int .i64 z2444)]) (fun ⟨z2444, xs2445, cs2446⟩ wx2447 => St w wx2447 [.row w.heap.size 3 (Rep.size Int) v710 xs2445.length cs2446, .cells b45 [.int .u64 (y32.2.1.fState.toNat : Int)] 37, .cells b26 [.int .i64 y13.fN, v20] 40, .cells b10 [.int .u64 (u711.toNat : Int)] 37] ∧ Tr wx1888 [.row w.heap.size 3 (Rep.size Int) v710 xs707.length cs708, .cells b45 [.int .u64 (y32.2.1.fState.toNat : Int)] 37, .cells b26 [.int .i64 y13.fN, v20] 40, .cells b10 [.int .u64 (u711.toNat : Int)] 37] wx2447 [.row w.heap.size 3 (Rep.size Int) v710 xs2445.length cs2446, .cells b45 [.int .u64 (y32.2.1.fState.toNat : Int)] 37, .cells b26 [.int .i64 y13.fN, v20] 40, .cells b10 [.int .u64 (u711.toNat : Int)] 37] ∧ Cells wx2447 (bl [.row w.heap.size 3 (Rep.size Int) v710 xs2445.length cs2446, .cells b45 [.int .u64 (y32.2.1.fState.toNat : Int)] 37, .cells b26 [.int .i64 y13.fN, v20] 40, .cells b10 [.int .u64 (u711.toNat : Int)] 37] ++ L) cs2446 xs2445) (fun ⟨z2444, xs2445, cs2446⟩ => (z2444, xs2445)) (s1900, xs707, cs708) ho2452 ⟨rfl, rfl, rfl, rfl, trivial⟩ ⟨hS1889, Tr.refl _ _, hm2443⟩ ?_
      rintro J2455 ⟨z2444, xs2445, cs2446⟩ wx2447 hJ2456 ⟨hS2448, hT2449, hc2447⟩ h
      unfold wardmotelaw31_WilsonHands_l3 at h
      try dsimp only at h
      refine MX.seq ?_
      refine MX.seq ?_
      refine MX.region ?_
      refine RG.val' .plain (FV.move rfl) rfl ?_
      refine RG.val' .plain (FV.move rfl) rfl ?_
      refine RG.val' .plain (FV.lss (i := z2444) (j := ((i1885 : Nat) : Int)) rfl rfl) rfl ?_
      refine RG.nil ?_
      refine MX.ifd rfl h (fun c2457 h => ?_) (fun c2457 h => ?_)
      ·skip
       refine MX.skip ?_
       refine MX.seq ?_
       refine MX.block ?_
       refine MX.seq ?_
       refine MX.region ?_
       refine RG.val' .plain (FV.move rfl) rfl ?_
       refine RG.val' .plain (FV.assign rfl) rfl ?_
       refine RG.nil ?_
       refine MX.block ?_
       refine MX.joinx (α := (List Int) × (List Value)) (fun ⟨xs2890, cs2891⟩ => [(0, v710), (1, .int .i64 ((i1884 : Nat) : Int)), (2, .int .i64 ((i1885 : Nat) : Int)), (6, .int .i64 z2444)]) (fun ⟨xs2890, cs2891⟩ wx2892 => St w wx2892 [.row w.heap.size 3 (Rep.size Int) v710 xs2890.length cs2891, .cells b45 [.int .u64 (y32.2.1.fState.toNat : Int)] 37, .cells b26 [.int .i64 y13.fN, v20] 40, .cells b10 [.int .u64 (u711.toNat : Int)] 37] ∧ Tr wx2447 [.row w.heap.size 3 (Rep.size Int) v710 xs2445.length cs2446, .cells b45 [.int .u64 (y32.2.1.fState.toNat : Int)] 37, .cells b26 [.int .i64 y13.fN, v20] 40, .cells b10 [.int .u64 (u711.toNat : Int)] 37] wx2892 [.row w.heap.size 3 (Rep.size Int) v710 xs2890.length cs2891, .cells b45 [.int .u64 (y32.2.1.fState.toNat : Int)] 37, .cells b26 [.int .i64 y13.fN, v20] 40, .cells b10 [.int .u64 (u711.toNat : Int)] 37] ∧ Cells wx2892 (bl [.row w.heap.size 3 (Rep.size Int) v710 xs2890.length cs2891, .cells b45 [.int .u64 (y32.2.1.fState.toNat : Int)] 37, .cells b26 [.int .i64 y13.fN, v20] 40, .cells b10 [.int .u64 (u711.toNat : Int)] 37] ++ L) cs2891 xs2890) (fun ⟨xs2890, cs2891⟩ => xs2890) (id := 2) rfl h ?_ ?_
       ·skip
        rintro ⟨xs2890, cs2891⟩ wx2892 ⟨hS2893, hT2894, hc2892⟩ h
        try dsimp only at h
        refine MX.inBlock ?_
        refine MX.region ?_
        refine RG.val' .plain (FV.move rfl) rfl ?_
        obtain ⟨s2898, hs2898, h⟩ := bind_in h
        refine RG.val' .plain (FV.addc (i := z2444) (j := 1) rfl rfl hs2898) rfl ?_
        refine RG.val' .plain (FV.assign rfl) rfl ?_
        refine RG.nil ?_
        exact hJ2456 (s2898, xs2890, cs2891) _ _ ⟨rfl, rfl, rfl, rfl, trivial⟩ ⟨hS2893, (Tr.trans hT2449 hT2894), hc2892⟩ h
       ·skip
        intro J2896 hJ2897 h
        try dsimp only at h
        obtain ⟨o3078, ho3077, hh3079⟩ := bind_in2 h
        refine MX.loop (α := Int × (List Int) × (List Value)) (fun ⟨z3069, xs3070, cs3071⟩ => [(0, v710), (1, .int .i64 ((i1884 : Nat) : Int)), (2, .int .i64 ((i1885 : Nat) : Int)), (6, .int .i64 z2444), (7, .int .i64 z3069)]) (fun ⟨z3069, xs3070, cs3071⟩ wx3072 => St w wx3072 [.row w.heap.size 3 (Rep.size Int) v710 xs3070.length cs3071, .cells b45 [.int .u64 (y32.2.1.fState.toNat : Int)] 37, .cells b26 [.int .i64 y13.fN, v20] 40, .cells b10 [.int .u64 (u711.toNat : Int)] 37] ∧ Tr wx2447 [.row w.heap.size 3 (Rep.size Int) v710 xs2445.length cs2446, .cells b45 [.int .u64 (y32.2.1.fState.toNat : Int)] 37, .cells b26 [.int .i64 y13.fN, v20] 40, .cells b10 [.int .u64 (u711.toNat : Int)] 37] wx3072 [.row w.heap.size 3 (Rep.size Int) v710 xs3070.length cs3071, .cells b45 [.int .u64 (y32.2.1.fState.toNat : Int)] 37, .cells b26 [.int .i64 y13.fN, v20] 40, .cells b10 [.int .u64 (u711.toNat : Int)] 37] ∧ Cells wx3072 (bl [.row w.heap.size 3 (Rep.size Int) v710 xs3070.length cs3071, .cells b45 [.int .u64 (y32.2.1.fState.toNat : Int)] 37, .cells b26 [.int .i64 y13.fN, v20] 40, .cells b10 [.int .u64 (u711.toNat : Int)] 37] ++ L) cs3071 xs3070) (fun ⟨z3069, xs3070, cs3071⟩ => (z3069, xs3070)) (z2444, xs2445, cs2446) ho3077 ⟨rfl, rfl, rfl, rfl, rfl, trivial⟩ ⟨hS2448, Tr.refl _ _, hc2447⟩ ?_
        rintro J3080 ⟨z3069, xs3070, cs3071⟩ wx3072 hJ3081 ⟨hS3073, hT3074, hc3072⟩ h
        unfold wardmotelaw31_WilsonHands_l2 at h
        try dsimp only at h
        refine MX.seq ?_
        refine MX.seq ?_
        refine MX.drawT 15 tb65_4 (by kernel_rfl) (by kernel_rfl) (by kernel_rfl) (fun kt3082 kp3083 => ?_)
        refine RD.vP 0 1 kt3082 rfl kp3083 .plain (fun _ => FV.move rfl) rfl ?_
        refine RD.vP 1 3 kt3082 rfl kp3083 .plain (fun _ => FV.move rfl) rfl ?_
        refine RD.vP 2 7 kt3082 rfl kp3083 .plain (fun _ => FV.gtr (i := z3069) (j := ((i1884 : Nat) : Int)) rfl rfl) rfl ?_
        refine RD.vP 3 15 kt3082 rfl kp3083 .plain (fun _ => FV.move rfl) rfl ?_
        refine RD.ifd (s := 19) rfl h (fun c3084 h => ?_) (fun c3084 h => ?_)
        ·skip
         refine RD.vP 4 31 kt3082 rfl kp3083 (.yes rfl rfl) (fun _ => FV.move rfl) rfl ?_
         refine RD.vP 5 63 kt3082 rfl kp3083 (.yes rfl rfl) (fun _ => FV.move rfl) rfl ?_
         obtain ⟨x3085, hx3085, h⟩ := bind_in h
         obtain ⟨hi3086, hx3087⟩ := idx_in hx3085
         obtain ⟨A3088, c3089, he3090, hk3091, cs3092, hr3093, hm3094⟩ := St.nth (α := Int) hS3073 .hd hc3072 hx3087
         obtain ⟨b3095, c3096, he3097⟩ := St.nthOwn (α := Int) hS3073 .hd hk3091
         obtain rfl : A3088 = ⟨b3095, 0, none⟩ := by rw [he3097] at he3090; cases he3090; rfl
         have he3098 : cs3092 = [.int .i64 x3085] := hr3093; subst he3098
         refine RD.vP 6 127 kt3082 rfl kp3083 (.yes rfl rfl) (fun _ => FV.idxAddr (m := 1) (i := z3069.toNat) (by kernel_rfl) rfl he3090 rfl hi3086 hk3091) rfl ?_
         refine RD.val (i := 7) (m' := 255) (W := 24576) (takeC_ok kt3082 (by kernel_rfl)) rfl kp3083 (.yes rfl rfl) (FV.load1 (by kernel_rfl) rfl (hm3094 0 _ rfl)) rfl ?_
         refine RD.vP 8 511 kt3082 rfl kp3083 (.yes rfl rfl) (fun _ => FV.move rfl) rfl ?_
         refine RD.vP 9 1023 kt3082 rfl kp3083 (.yes rfl rfl) (fun _ => FV.move rfl) rfl ?_
         obtain ⟨s3099, hs3099, h⟩ := bind_in h
         refine RD.vP 10 2047 kt3082 rfl kp3083 (.yes rfl rfl) (fun _ => FV.subc (i := z3069) (j := 1) rfl rfl hs3099) rfl ?_
         obtain ⟨x3100, hx3100, h⟩ := bind_in h
         obtain ⟨hi3101, hx3102⟩ := idx_in hx3100
         obtain ⟨A3103, c3104, he3105, hk3106, cs3107, hr3108, hm3109⟩ := St.nth (α := Int) hS3073 .hd hc3072 hx3102
         obtain ⟨b3110, c3111, he3112⟩ := St.nthOwn (α := Int) hS3073 .hd hk3106
         obtain rfl : A3103 = ⟨b3110, 0, none⟩ := by rw [he3112] at he3105; cases he3105; rfl
         have he3113 : cs3107 = [.int .i64 x3100] := hr3108; subst he3113
         refine RD.vP 11 4095 kt3082 rfl kp3083 (.yes rfl rfl) (fun _ => FV.idxAddr (m := 1) (i := s3099.toNat) (by kernel_rfl) rfl he3105 rfl hi3101 hk3106) rfl ?_
         refine RD.val (i := 12) (m' := 8191) (W := 24576) (takeC_ok kt3082 (by kernel_rfl)) rfl kp3083 (.yes rfl rfl) (FV.load1 (by kernel_rfl) rfl (hm3109 0 _ rfl)) rfl ?_
         obtain ⟨y3114, hy3114, h⟩ := bind_in h
         refine RD.callq (i := 13) (m' := 16383) (W := 16384) (takeC_ok kt3082 (by kernel_rfl)) rfl kp3083 (v := .bool y3114) (fst := []) (cap := []) (.yes rfl rfl) body71 rfl (evs_cons rfl (evs_cons rfl evs_nil)) (fun w9 hw9 => cmp_Less_int_c n _ w9 (hS3073.hL0 hL hw9) x3085 x3100 hy3114) rfl ?_
         refine RD.vP 14 32767 kt3082 rfl kp3083 .plain (fun _ => FV.pick_t rfl rfl) rfl ?_
         refine RD.done (doneD_ok kt3082 (by kernel_rfl)) ?_
         refine MX.ifb rfl h (fun c3115 h => ?_) (fun c3115 h => ?_)
         ·skip
          refine MX.skip ?_
          refine MX.seq ?_
          refine MX.block ?_
          refine MX.drawT 15 tb65_6 (by kernel_rfl) (by kernel_rfl) (by kernel_rfl) (fun kt3116 kp3117 => ?_)
          refine RD.vP 0 1 kt3116 rfl kp3117 .plain (fun _ => FV.move rfl) rfl ?_
          refine RD.vP 1 3 kt3116 rfl kp3117 .plain (fun _ => FV.move rfl) rfl ?_
          refine RD.vP 2 7 kt3116 rfl kp3117 .plain (fun _ => FV.move rfl) rfl ?_
          refine RD.vP 3 15 kt3116 rfl kp3117 .plain (fun _ => FV.move rfl) rfl ?_
          obtain ⟨s3118, hs3118, h⟩ := bind_in h
          refine RD.vP 4 31 kt3116 rfl kp3117 .plain (fun _ => FV.subc (i := z3069) (j := 1) rfl rfl hs3118) rfl ?_
          refine RD.vP 5 63 kt3116 rfl kp3117 .plain (fun _ => FV.move rfl) rfl ?_
          refine RD.vP 6 127 kt3116 rfl kp3117 .plain (fun _ => FV.move rfl) rfl ?_
          obtain ⟨s3119, hs3119, h⟩ := bind_in h
          refine RD.vP 7 255 kt3116 rfl kp3117 .plain (fun _ => FV.subc (i := z3069) (j := 1) rfl rfl hs3119) rfl ?_
          obtain ⟨x3120, hx3120, h⟩ := bind_in h
          obtain ⟨hi3121, hx3122⟩ := idx_in hx3120
          obtain ⟨A3123, c3124, he3125, hk3126, cs3127, hr3128, hm3129⟩ := St.nth (α := Int) hS3073 .hd hc3072 hx3122
          obtain ⟨b3130, c3131, he3132⟩ := St.nthOwn (α := Int) hS3073 .hd hk3126
          obtain rfl : A3123 = ⟨b3130, 0, none⟩ := by rw [he3132] at he3125; cases he3125; rfl
          have he3133 : cs3127 = [.int .i64 x3120] := hr3128; subst he3133
          refine RD.vP 8 511 kt3116 rfl kp3117 .plain (fun _ => FV.idxAddr (m := 1) (i := s3119.toNat) (by kernel_rfl) rfl he3125 rfl hi3121 hk3126) rfl ?_
          refine RD.val (i := 9) (m' := 1023) (W := 245760) (takeC_ok kt3116 (by kernel_rfl)) rfl kp3117 .plain (FV.load1 (by kernel_rfl) rfl (hm3129 0 _ rfl)) rfl ?_
          refine RD.vP 10 2047 kt3116 rfl kp3117 .plain (fun _ => FV.move rfl) rfl ?_
          refine RD.vP 11 4095 kt3116 rfl kp3117 .plain (fun _ => FV.move rfl) rfl ?_
          refine RD.vP 12 8191 kt3116 rfl kp3117 .plain (fun _ => FV.idxAddr (m := 1) (i := z3069.toNat) (by kernel_rfl) rfl he3090 rfl hi3086 hk3091) rfl ?_
          refine RD.val (i := 13) (m' := 16383) (W := 245760) (takeC_ok kt3116 (by kernel_rfl)) rfl kp3117 .plain (FV.load1 (by kernel_rfl) rfl (hm3094 0 _ rfl)) rfl ?_
          refine RD.vP 14 32767 kt3116 rfl kp3117 .plain (fun _ => FV.idxAddr (m := 1) (i := z3069.toNat) (by kernel_rfl) rfl he3090 rfl hi3086 hk3091) rfl ?_
          obtain ⟨xs3134, hxs3134, h⟩ := bind_in h
          refine RD.one (i := 15) (readyD_ok kt3116 (by kernel_rfl)) (RO.acts (m' := 65535) (stepC_ok kt3116 (by kernel_rfl)) rfl rfl .plain (Acts.set (α := Int) (i := z3069.toNat) (F := fun cs' => [.row w.heap.size 3 (Rep.size Int) v710 xs3134.length cs', .cells b45 [.int .u64 (y32.2.1.fState.toNat : Int)] 37, .cells b26 [.int .i64 y13.fN, v20] 40, .cells b10 [.int .u64 (u711.toNat : Int)] 37]) hxs3134 hS3073 he3097 (fun _ => .hd) hc3072 rfl rfl rfl rfl rfl (by kernel_rfl)) (fun w3135 ⟨cs3139, hS3136, hT3137, hc3138⟩ => ?_))
          obtain ⟨x3140, hx3140, h⟩ := bind_in h
          obtain ⟨hi3141, hx3142⟩ := idx_in hx3140
          obtain ⟨A3143, c3144, he3145, hk3146, cs3147, hr3148, hm3149⟩ := St.nth (α := Int) hS3136 .hd hc3138 hx3142
          obtain ⟨b3150, c3151, he3152⟩ := St.nthOwn (α := Int) hS3136 .hd hk3146
          obtain rfl : A3143 = ⟨b3150, 0, none⟩ := by rw [he3152] at he3145; cases he3145; rfl
          have he3153 : cs3147 = [.int .i64 x3140] := hr3148; subst he3153
          refine RD.one (i := 16) (readyD_ok kt3116 (by kernel_rfl)) (RO.val (m' := 131071) (stepC_ok kt3116 (by kernel_rfl)) rfl .plain rfl (FV.idxAddr (m := 1) (i := s3118.toNat) (by kernel_rfl) rfl he3145 rfl hi3141 hk3146) ?_)
          obtain ⟨xs3154, hxs3154, h⟩ := bind_in h
          refine RD.one (i := 17) (readyD_ok kt3116 (by kernel_rfl)) (RO.acts (m' := 262143) (stepC_ok kt3116 (by kernel_rfl)) rfl rfl .plain (Acts.set (α := Int) (i := s3118.toNat) (F := fun cs' => [.row w.heap.size 3 (Rep.size Int) v710 xs3154.length cs', .cells b45 [.int .u64 (y32.2.1.fState.toNat : Int)] 37, .cells b26 [.int .i64 y13.fN, v20] 40, .cells b10 [.int .u64 (u711.toNat : Int)] 37]) hxs3154 hS3136 he3152 (fun _ => .hd) hc3138 rfl rfl rfl rfl rfl (by kernel_rfl)) (fun w3155 ⟨cs3159, hS3156, hT3157, hc3158⟩ => ?_))
          refine RD.done (doneD_ok kt3116 (by kernel_rfl)) ?_
          refine MX.inBlock ?_
          refine MX.region ?_
          refine RG.val' .plain (FV.move rfl) rfl ?_
          obtain ⟨s3160, hs3160, h⟩ := bind_in h
          refine RG.val' .plain (FV.subc (i := z3069) (j := 1) rfl rfl hs3160) rfl ?_
          refine RG.val' .plain (FV.assign rfl) rfl ?_
          refine RG.nil ?_
          exact hJ3081 (s3160, xs3154, cs3159) _ _ ⟨rfl, rfl, rfl, rfl, rfl, trivial⟩ ⟨hS3156, (Tr.trans hT3074 (Tr.trans hT3137 hT3157)), hc3158⟩ h
         ·skip
          refine MX.exit rfl ?_
          have h := hh3079 _ h
          try dsimp only at h
          exact hJ2897 (xs3070, cs3071) _ _ ⟨rfl, rfl, rfl, rfl, trivial⟩ ⟨hS3073, hT3074, hc3072⟩ h
        ·skip
         refine RD.offs 16383 1 [(4, 20), (5, 21), (6, 22), (7, 23), (8, 24), (9, 25), (10, 26), (11, 27), (12, 28), (13, 29)] (F := [(19, false)]) (U := []) kt3082 kp3083 (.cons rfl .nil) .nil ?_
         dsimp only [offS, List.map]
         refine RD.vP 14 32767 kt3082 rfl kp3083 .plain (fun _ => FV.pick_f rfl rfl) rfl ?_
         refine RD.done (doneD_ok kt3082 (by kernel_rfl)) ?_
         refine MX.cond_f rfl ?_
         refine MX.exit rfl ?_
         have h := hh3079 _ h
         try dsimp only at h
         exact hJ2897 (xs3070, cs3071) _ _ ⟨rfl, rfl, rfl, rfl, trivial⟩ ⟨hS3073, hT3074, hc3072⟩ h
      ·skip
       refine MX.exit rfl ?_
       have h := hh2454 _ h
       try dsimp only at h
       refine MX.fin rfl ?_
       refine RT.leave (u := .tuple #[]) hb1898 Tryd.func65 rfl .nil rfl ?_
       refine RG.nil ?_
       refine MX.ret rfl ?_
       refine RT.leave (u := .tuple #[]) hb1045 Tryd.func35 rfl .nil rfl ?_
       refine RG.nil ?_
       refine MX.fin rfl ?_
       refine RT.leave (u := .tuple #[]) hb1038 Tryd.func17 rfl .nil rfl ?_
       refine RG.nil ?_
       refine MX.seq ?_
       refine MX.region ?_
       refine RG.val' .plain (FV.move rfl) rfl ?_
       refine RG.val' .plain (FV.move rfl) rfl ?_
       obtain ⟨y3161, hy3161, h⟩ := bind_in h
       have hm3162 := Rep.mv hr40 (Tr.trans hT44 (Tr.trans hT48 (Tr.trans hT52 (Tr.trans hT703 (Tr.trans hT713 (Tr.trans hT1890 hT2449))))))
       refine RG.callq' (v := .bool y3161) (fst := []) (cap := []) .plain body12 rfl (evs_cons rfl (evs_cons rfl evs_nil)) (fun w9 hw9 => slices_Equal_int_int_c n _ w9 (hS2448.hL0 hL hw9) xs2445 (Rep.keep0 (St.lend (α := Int) (L := L) hS2448 .hd hc2447 hL) hw9) y32.1 (Rep.keep0 (Rep.dropO (O := [.row w.heap.size 3 (Rep.size Int) v710 xs2445.length cs2446, .cells b45 [.int .u64 (y32.2.1.fState.toNat : Int)] 37, .cells b26 [.int .i64 y13.fN, v20] 40, .cells b10 [.int .u64 (u711.toNat : Int)] 37]) hm3162) hw9) hy3161) rfl ?_
       refine RG.val' .plain (FV.move rfl) rfl ?_
       refine RG.ifb (s := 117) rfl h (fun c3163 h => ?_) (fun c3163 h => ?_)
       ·skip
        refine RG.val' (.yes rfl rfl) (FV.loadN (cs := [.int .u64 (u711.toNat : Int)]) (by kernel_rfl) rfl (hS2448.memA (.tl (.tl (.tl .hd))))) rfl ?_
        refine RG.val' (.yes rfl rfl) (FV.loadN (cs := [.int .u64 (y32.2.1.fState.toNat : Int)]) (by kernel_rfl) rfl (hS2448.memA (.tl .hd))) rfl ?_
        refine RG.val' (.yes rfl rfl) (FV.eqlV (v := .agg #[.int .u64 (u711.toNat : Int)]) (u := .agg #[.int .u64 (y32.2.1.fState.toNat : Int)]) rfl rfl (eql1U_37 u711 y32.2.1.fState)) rfl ?_
        refine RG.val' .plain (FV.pick_t rfl rfl) rfl ?_
        refine RG.val' .plain (FV.assign rfl) rfl ?_
        refine RG.nil ?_
        refine MX.ret rfl ?_
        refine RT.leave (u := .bool (decide (u711 = y32.2.1.fState))) hb0 Tryd.func4 rfl (.cons (.tmp rfl) .nil) rfl ?_
        obtain rfl := Option.some.inj h
        exact ⟨hS2448.ag, fun w9 hw9 => rfl⟩
       ·skip
        refine RG.off (.no rfl rfl) rfl ?_
        refine RG.off (.no rfl rfl) rfl ?_
        refine RG.off (.no rfl rfl) rfl ?_
        refine RG.val' .plain (FV.pick_f rfl rfl) rfl ?_
        refine RG.val' .plain (FV.assign rfl) rfl ?_
        refine RG.nil ?_
        refine MX.ret rfl ?_
        refine RT.leave (u := .bool false) hb0 Tryd.func4 rfl (.cons (.tmp rfl) .nil) rfl ?_
        obtain rfl := Option.some.inj h
        exact ⟨hS2448.ag, fun w9 hw9 => rfl⟩
     ·skip
      refine MX.skip ?_
      refine MX.seq ?_
      refine MX.seq ?_
      refine MX.region ?_
      refine RG.val' .plain (FV.move rfl) rfl ?_
      refine RG.val' .plain (FV.eql (i := z1886) (j := 0) rfl rfl) rfl ?_
      refine RG.nil ?_
      refine MX.ifd rfl h (fun c3164 h => ?_) (fun c3164 h => ?_)
      ·skip
       refine MX.seq ?_
       refine MX.region ?_
       refine RG.val' .plain (FV.move rfl) rfl ?_
       refine RG.val' .plain (FV.move rfl) rfl ?_
       refine RG.val' .plain (FV.move rfl) rfl ?_
       cases h
      ·skip
       refine MX.skip ?_
       refine MX.seq ?_
       refine MX.seq ?_
       refine MX.region ?_
       refine RG.val' .plain (FV.move rfl) rfl ?_
       refine RG.val' .plain (FV.not rfl) rfl ?_
       refine RG.nil ?_
       refine MX.ifnb rfl h (fun c3166 h => ?_) (fun c3166 h => ?_)
       ·skip
        refine MX.skip ?_
        refine MX.seq ?_
        refine MX.region ?_
        refine RG.val' .plain (FV.move rfl) rfl ?_
        refine RG.val' .plain (FV.move rfl) rfl ?_
        refine RG.val' .plain (FV.move rfl) rfl ?_
        cases h
       ·skip
        refine MX.seq ?_
        refine MX.region ?_
        refine RG.val' .plain (FV.move rfl) rfl ?_
        refine RG.val' .plain (FV.move rfl) rfl ?_
        refine RG.val' .plain (FV.move rfl) rfl ?_
        cases h
   ·skip
    refine MX.seq ?_
    refine MX.region ?_
    refine RG.val' .plain (FV.move rfl) rfl ?_
    refine RG.val' .plain (FV.eql (i := y32.2.2) (j := 4) rfl rfl) rfl ?_
    refine RG.val' .plain (FV.move rfl) rfl ?_
    refine RG.ifd (s := 40) rfl h (fun c3167 h => ?_) (fun c3167 h => ?_)
    ·skip
     refine RG.off (.no rfl rfl) rfl ?_
     refine RG.off (.no rfl rfl) rfl ?_
     refine RG.val' .plain (FV.pick_t rfl rfl) rfl ?_
     refine RG.val' .plain (FV.assign rfl) rfl ?_
     refine RG.nil ?_
     refine MX.ret rfl ?_
     refine RT.leave (u := .bool true) hb0 Tryd.func4 rfl (.cons (.tmp rfl) .nil) rfl ?_
     obtain rfl := Option.some.inj h
     exact ⟨hS47.ag, fun w9 hw9 => rfl⟩
    ·skip
     refine RG.val' (.yes rfl rfl) (FV.move rfl) rfl ?_
     refine RG.val' (.yes rfl rfl) (FV.eql (i := y32.2.2) (j := 9) rfl rfl) rfl ?_
     refine RG.val' .plain (FV.pick_f rfl rfl) rfl ?_
     refine RG.val' .plain (FV.assign rfl) rfl ?_
     refine RG.nil ?_
     refine MX.ret rfl ?_
     refine RT.leave (u := .bool (decide (y32.2.2 = 9))) hb0 Tryd.func4 rfl (.cons (.tmp rfl) .nil) rfl ?_
     obtain rfl := Option.some.inj h
     exact ⟨hS47.ag, fun w9 hw9 => rfl⟩
  ·skip
   refine MX.seq ?_
   refine MX.region ?_
   refine RG.val' .plain (FV.assign rfl) rfl ?_
   refine RG.nil ?_
   refine MX.ret rfl ?_
   refine RT.leave (u := .bool false) hb0 Tryd.func4 rfl (.cons (.tmp rfl) .nil) rfl ?_
   obtain rfl := Option.some.inj h
   exact ⟨hS8.ag, fun w9 hw9 => rfl⟩
def wardmoteref18_Has_p (n : Nat) (a0 : UInt64) (a1 : Int) : Option Bool :=
  some (decide (((shrU a0 (u64of a1).toNat) &&& (1 : UInt64)) = (1 : UInt64)))
set_option maxRecDepth 4000 in
set_option maxHeartbeats 4000000 in
theorem wardmoteref18_Has_c (n : Nat) (L : List Nat) (w : World) (hL : ∀ b ∈ L, b < w.heap.size) (a0 : UInt64) (a1 : Int)  {r : Bool} (h : wardmoteref18_Has_p n a0 a1 = some r) :
    Calls Tryd.prog 79 #[.int .u64 (a0.toNat : Int), .int .i64 a1] w (Gives w fun w' u => u = .bool r) := by
  unfold wardmoteref18_Has_p at h
  have hS0 := St.start w
  refine MX.start Tryd.func79 rfl rfl rfl (fun _ cs0 hb0 => ?_)
  refine MX.seq ?_
  refine MX.region ?_
  refine RG.val' .plain (FV.assign rfl) rfl ?_
  refine RG.nil ?_
  refine MX.seq ?_
  refine MX.region ?_
  refine RG.val' .plain (FV.move rfl) rfl ?_
  refine RG.val' .plain (FV.move rfl) rfl ?_
  refine RG.val' .plain (FV.convU (i := a1) Tryd.underlying3 Tryd.underlying68 rfl) rfl ?_
  refine RG.val' .plain (FV.shrU (a := a0) (j := (u64of a1).toNat) rfl rfl) rfl ?_
  refine RG.val' .plain (FV.andU (a := shrU a0 (u64of a1).toNat) (b := (1 : UInt64)) rfl rfl) rfl ?_
  refine RG.val' .plain (FV.eqlU (a := (shrU a0 (u64of a1).toNat) &&& (1 : UInt64)) (b := (1 : UInt64)) rfl rfl) rfl ?_
  refine RG.val' .plain (FV.assign rfl) rfl ?_
  refine RG.nil ?_
  refine MX.ret rfl ?_
  refine RT.leave (u := .bool (decide (((shrU a0 (u64of a1).toNat) &&& (1 : UInt64)) = (1 : UInt64)))) hb0 Tryd.func79 rfl (.cons (.tmp rfl) .nil) rfl ?_
  obtain rfl := Option.some.inj h
  exact ⟨hS0.ag, fun w9 hw9 => rfl⟩
theorem body79 : bodyB Tryd.prog 79 = true := by kernel_rfl
def wardmoteref30_Inner_p (n : Nat) (a0 : TGraph) (a1 : UInt64) (a2 : Int) : Option Bool :=
  (if 0 ≤ a2 then (if a2 < ((a0.fEdges.length : Nat) : Int) then (idx a0.fEdges a2).bind fun x10 => (wardmoteref18_Has_p n a1 x10.1).bind fun y20 => (if y20 = true then (wardmoteref18_Has_p n a1 x10.2).bind fun y22 => some y22 else some false) else some false) else some false)
set_option maxRecDepth 4000 in
set_option maxHeartbeats 4000000 in
theorem wardmoteref30_Inner_c (n : Nat) (L : List Nat) (w : World) (hL : ∀ b ∈ L, b < w.heap.size) (a0 : TGraph) {v0_1 : Value} (h0_1 : Rep.R w L [v0_1] a0.fEdges) (a1 : UInt64) (a2 : Int)  {r : Bool} (h : wardmoteref30_Inner_p n a0 a1 a2 = some r) :
    Calls Tryd.prog 48 #[.agg #[.int .i64 a0.fN, v0_1], .int .u64 (a1.toNat : Int), .int .i64 a2] w (Gives w fun w' u => u = .bool r) := by
  unfold wardmoteref30_Inner_p at h
  have hS0 := St.start w
  refine MX.start Tryd.func48 rfl rfl rfl (fun _ cs0 hb0 => ?_)
  refine MX.seq ?_
  refine MX.region ?_
  refine RG.new .plain rfl (Does.box (vs := [.int .i64 a0.fN, v0_1]) hS0 rfl rfl) (fun w2 b5 hS3 hT4 => ?_)
  refine RG.val' .plain (FV.assign rfl) rfl ?_
  refine RG.nil ?_
  refine MX.seq ?_
  refine MX.region ?_
  refine RG.val' .plain (FV.move rfl) rfl ?_
  refine RG.val' .plain (FV.geq (i := a2) (j := 0) rfl rfl) rfl ?_
  refine RG.val' .plain (FV.move rfl) rfl ?_
  refine RG.ifd (s := 9) rfl h (fun c6 h => ?_) (fun c6 h => ?_)
  ·skip
   refine RG.val' (.yes rfl rfl) (FV.move rfl) rfl ?_
   refine RG.val' (.yes rfl rfl) (FV.fieldAddr (off := 1) (by kernel_rfl) rfl) rfl ?_
   refine RG.val' (.yes rfl rfl) (FV.load1 (by kernel_rfl) rfl ((hS3.memA .hd) 1 _ rfl)) rfl ?_
   have hm8 := Rep.mv h0_1 hT4
   have hl7 : a0.fEdges.length ≤ 281474976710656 := Rep.lenle hm8
   refine RG.val' (.yes rfl rfl) (FV.len (xs := a0.fEdges) Tryd.underlying38 rfl hm8) rfl ?_
   refine RG.val' (.yes rfl rfl) (FV.lss (i := a2) (j := ((a0.fEdges.length : Nat) : Int)) rfl rfl) rfl ?_
   refine RG.val' .plain (FV.pick_t rfl rfl) rfl ?_
   refine RG.val' .plain (FV.move rfl) rfl ?_
   refine RG.ifd (s := 16) rfl h (fun c9 h => ?_) (fun c9 h => ?_)
   ·skip
    refine RG.val' (.yes rfl rfl) (FV.move rfl) rfl ?_
    refine RG.val' (.yes rfl rfl) (FV.fieldAddr (off := 1) (by kernel_rfl) rfl) rfl ?_
    refine RG.val' (.yes rfl rfl) (FV.load1 (by kernel_rfl) rfl ((hS3.memA .hd) 1 _ rfl)) rfl ?_
    refine RG.val' (.yes rfl rfl) (FV.move rfl) rfl ?_
    obtain ⟨x10, hx10, h⟩ := bind_in h
    obtain ⟨hi11, hx12⟩ := idx_in hx10
    obtain ⟨A13, c14, he15, hk16, cs17, hr18, hm19⟩ := Rep.nth hm8 hx12
    obtain rfl := op_A46 hr18
    refine RG.val' (.yes rfl rfl) (FV.idxAddr (m := 2) (i := a2.toNat) (by kernel_rfl) rfl he15 rfl hi11 hk16) rfl ?_
    refine RG.val' (.yes rfl rfl) (FV.indexArr (m := 1) (k := 0) (len := 2) (by kernel_rfl) rfl rfl rfl (by omega)) rfl ?_
    refine RG.val' (.yes rfl rfl) (FV.load1 (by kernel_rfl) rfl (hm19 0 _ rfl)) rfl ?_
    obtain ⟨y20, hy20, h⟩ := bind_in h
    refine RG.callq' (v := .bool y20) (fst := []) (cap := []) (.yes rfl rfl) body79 rfl (evs_cons rfl (evs_cons rfl evs_nil)) (fun w9 hw9 => wardmoteref18_Has_c n _ w9 (hS3.hL0 hL hw9) a1 x10.1 hy20) rfl ?_
    refine RG.val' .plain (FV.pick_t rfl rfl) rfl ?_
    refine RG.val' .plain (FV.move rfl) rfl ?_
    refine RG.ifb (s := 26) rfl h (fun c21 h => ?_) (fun c21 h => ?_)
    ·skip
     refine RG.val' (.yes rfl rfl) (FV.move rfl) rfl ?_
     refine RG.val' (.yes rfl rfl) (FV.fieldAddr (off := 1) (by kernel_rfl) rfl) rfl ?_
     refine RG.val' (.yes rfl rfl) (FV.load1 (by kernel_rfl) rfl ((hS3.memA .hd) 1 _ rfl)) rfl ?_
     refine RG.val' (.yes rfl rfl) (FV.move rfl) rfl ?_
     refine RG.val' (.yes rfl rfl) (FV.idxAddr (m := 2) (i := a2.toNat) (by kernel_rfl) rfl he15 rfl hi11 hk16) rfl ?_
     refine RG.val' (.yes rfl rfl) (FV.indexArr (m := 1) (k := 1) (len := 2) (by kernel_rfl) rfl rfl rfl (by omega)) rfl ?_
     refine RG.val' (.yes rfl rfl) (FV.load1 (by kernel_rfl) rfl (hm19 1 _ rfl)) rfl ?_
     obtain ⟨y22, hy22, h⟩ := bind_in h
     refine RG.callq' (v := .bool y22) (fst := []) (cap := []) (.yes rfl rfl) body79 rfl (evs_cons rfl (evs_cons rfl evs_nil)) (fun w9 hw9 => wardmoteref18_Has_c n _ w9 (hS3.hL0 hL hw9) a1 x10.2 hy22) rfl ?_
     refine RG.val' .plain (FV.pick_t rfl rfl) rfl ?_
     refine RG.val' .plain (FV.assign rfl) rfl ?_
     refine RG.nil ?_
     refine MX.ret rfl ?_
     refine RT.leave (u := .bool y22) hb0 Tryd.func48 rfl (.cons (.tmp rfl) .nil) rfl ?_
     obtain rfl := Option.some.inj h
     exact ⟨hS3.ag, fun w9 hw9 => rfl⟩
    ·skip
     refine RG.off (.no rfl rfl) rfl ?_
     refine RG.off (.no rfl rfl) rfl ?_
     refine RG.off (.no rfl rfl) rfl ?_
     refine RG.off (.no rfl rfl) rfl ?_
     refine RG.off (.no rfl rfl) rfl ?_
     refine RG.off (.no rfl rfl) rfl ?_
     refine RG.off (.no rfl rfl) rfl ?_
     refine RG.off (.no rfl rfl) rfl ?_
     refine RG.val' .plain (FV.pick_f rfl rfl) rfl ?_
     refine RG.val' .plain (FV.assign rfl) rfl ?_
     refine RG.nil ?_
     refine MX.ret rfl ?_
     refine RT.leave (u := .bool false) hb0 Tryd.func48 rfl (.cons (.tmp rfl) .nil) rfl ?_
     obtain rfl := Option.some.inj h
     exact ⟨hS3.ag, fun w9 hw9 => rfl⟩
   ·skip
    refine RG.off (.no rfl rfl) rfl ?_
    refine RG.off (.no rfl rfl) rfl ?_
    refine RG.off (.no rfl rfl) rfl ?_
    refine RG.off (.no rfl rfl) rfl ?_
    refine RG.off (.no rfl rfl) rfl ?_
    refine RG.off (.no rfl rfl) rfl ?_
    refine RG.off (.no rfl rfl) rfl ?_
    refine RG.off (.no rfl rfl) rfl ?_
    refine RG.val' .plain (FV.pick_f rfl rfl) rfl ?_
    refine RG.val' .plain (FV.move rfl) rfl ?_
    refine RG.off (.no rfl rfl) rfl ?_
    refine RG.off (.no rfl rfl) rfl ?_
    refine RG.off (.no rfl rfl) rfl ?_
    refine RG.off (.no rfl rfl) rfl ?_
    refine RG.off (.no rfl rfl) rfl ?_
    refine RG.off (.no rfl rfl) rfl ?_
    refine RG.off (.no rfl rfl) rfl ?_
    refine RG.off (.no rfl rfl) rfl ?_
    refine RG.val' .plain (FV.pick_f rfl rfl) rfl ?_
    refine RG.val' .plain (FV.assign rfl) rfl ?_
    refine RG.nil ?_
    refine MX.ret rfl ?_
    refine RT.leave (u := .bool false) hb0 Tryd.func48 rfl (.cons (.tmp rfl) .nil) rfl ?_
    obtain rfl := Option.some.inj h
    exact ⟨hS3.ag, fun w9 hw9 => rfl⟩
  ·skip
   refine RG.off (.no rfl rfl) rfl ?_
   refine RG.off (.no rfl rfl) rfl ?_
   refine RG.off (.no rfl rfl) rfl ?_
   refine RG.off (.no rfl rfl) rfl ?_
   refine RG.off (.no rfl rfl) rfl ?_
   refine RG.val' .plain (FV.pick_f rfl rfl) rfl ?_
   refine RG.val' .plain (FV.move rfl) rfl ?_
   refine RG.off (.no rfl rfl) rfl ?_
   refine RG.off (.no rfl rfl) rfl ?_
   refine RG.off (.no rfl rfl) rfl ?_
   refine RG.off (.no rfl rfl) rfl ?_
   refine RG.off (.no rfl rfl) rfl ?_
   refine RG.off (.no rfl rfl) rfl ?_
   refine RG.off (.no rfl rfl) rfl ?_
   refine RG.off (.no rfl rfl) rfl ?_
   refine RG.val' .plain (FV.pick_f rfl rfl) rfl ?_
   refine RG.val' .plain (FV.move rfl) rfl ?_
   refine RG.off (.no rfl rfl) rfl ?_
   refine RG.off (.no rfl rfl) rfl ?_
   refine RG.off (.no rfl rfl) rfl ?_
   refine RG.off (.no rfl rfl) rfl ?_
   refine RG.off (.no rfl rfl) rfl ?_
   refine RG.off (.no rfl rfl) rfl ?_
   refine RG.off (.no rfl rfl) rfl ?_
   refine RG.off (.no rfl rfl) rfl ?_
   refine RG.val' .plain (FV.pick_f rfl rfl) rfl ?_
   refine RG.val' .plain (FV.assign rfl) rfl ?_
   refine RG.nil ?_
   refine MX.ret rfl ?_
   refine RT.leave (u := .bool false) hb0 Tryd.func48 rfl (.cons (.tmp rfl) .nil) rfl ?_
   obtain rfl := Option.some.inj h
   exact ⟨hS3.ag, fun w9 hw9 => rfl⟩
def wardmoteref18_Size_l1 (n : Nat) (a0 : UInt64) (J28 : Int × Nat → Option Int) : Int × Nat → Option Int
  | (z19, i20) => (if i20 < 64 then (wardmoteref18_Has_p n a0 ((i20 : Nat) : Int)).bind fun y31 => (if y31 = true then (chk (z19 + 1)).bind fun s33 => J28 (s33, i20 + 1) else J28 (z19, i20 + 1)) else some z19)
def wardmoteref18_Size_p (n : Nat) (a0 : UInt64) : Option Int :=
  Option.bind (loopF (wardmoteref18_Size_l1 n a0) n (0, 0)) (fun z19 => some z19)
set_option maxRecDepth 4000 in
set_option maxHeartbeats 4000000 in
theorem wardmoteref18_Size_c (n : Nat) (L : List Nat) (w : World) (hL : ∀ b ∈ L, b < w.heap.size) (a0 : UInt64)  {r : Int} (h : wardmoteref18_Size_p n a0 = some r) :
    Calls Tryd.prog 49 #[.int .u64 (a0.toNat : Int)] w (Gives w fun w' u => u = .int .i64 r) := by
  unfold wardmoteref18_Size_p at h
  have hS0 := St.start w
  refine MX.start Tryd.func49 rfl rfl rfl (fun _ cs0 hb0 => ?_)
  refine MX.seq ?_
  refine MX.region ?_
  refine RG.val' .plain (FV.assign rfl) rfl ?_
  refine RG.nil ?_
  refine MX.seq ?_
  refine MX.region ?_
  refine RG.val' .plain (FV.assign rfl) rfl ?_
  refine RG.nil ?_
  refine MX.seq ?_
  refine MX.seq ?_
  refine MX.region ?_
  refine RG.val' .plain (FV.assign rfl) rfl ?_
  refine RG.nil ?_
  refine MX.block ?_
  obtain ⟨o26, ho25, hh27⟩ := bind_in2 h
  refine MX.loop (α := Int × Nat) (fun ⟨z19, i20⟩ => [(0, .int .u64 (a0.toNat : Int)), (3, .int .i64 z19), (4, .int .i64 ((i20 : Nat) : Int))]) (fun ⟨z19, i20⟩ wx20 => St w wx20 [] ∧ Tr w [] wx20 []) (fun ⟨z19, i20⟩ => (z19, i20)) (0, 0) ho25 ⟨rfl, rfl, rfl, trivial⟩ ⟨hS0, Tr.refl _ _⟩ ?_
  rintro J28 ⟨z19, i20⟩ wx20 hJ29 ⟨hS21, hT22⟩ h
  unfold wardmoteref18_Size_l1 at h
  try dsimp only at h
  refine MX.seq ?_
  refine MX.seq ?_
  refine MX.region ?_
  refine RG.val' .plain (FV.move rfl) rfl ?_
  refine RG.val' .plain (FV.lssN (i := i20) (j := 64) rfl rfl) rfl ?_
  refine RG.nil ?_
  refine MX.ifd rfl h (fun c30 h => ?_) (fun c30 h => ?_)
  ·skip
   refine MX.skip ?_
   refine MX.seq ?_
   refine MX.block ?_
   refine MX.seq ?_
   refine MX.region ?_
   refine RG.val' .plain (FV.move rfl) rfl ?_
   refine RG.val' .plain (FV.move rfl) rfl ?_
   obtain ⟨y31, hy31, h⟩ := bind_in h
   refine RG.callq' (v := .bool y31) (fst := []) (cap := []) .plain body79 rfl (evs_cons rfl (evs_cons rfl evs_nil)) (fun w9 hw9 => wardmoteref18_Has_c n _ w9 (hS21.hL0 hL hw9) a0 ((i20 : Nat) : Int) hy31) rfl ?_
   refine RG.nil ?_
   refine MX.ifb rfl h (fun c32 h => ?_) (fun c32 h => ?_)
   ·skip
    refine MX.region ?_
    refine RG.val' .plain (FV.move rfl) rfl ?_
    obtain ⟨s33, hs33, h⟩ := bind_in h
    refine RG.val' .plain (FV.addc (i := z19) (j := 1) rfl rfl hs33) rfl ?_
    refine RG.val' .plain (FV.assign rfl) rfl ?_
    refine RG.nil ?_
    refine MX.inBlock ?_
    refine MX.region ?_
    refine RG.val' .plain (FV.move rfl) rfl ?_
    refine RG.val' .plain (FV.addN (i := i20) (j := 1) rfl rfl (by omega)) rfl ?_
    refine RG.val' .plain (FV.assign rfl) rfl ?_
    refine RG.nil ?_
    exact hJ29 (s33, i20 + 1) _ _ ⟨rfl, rfl, rfl, trivial⟩ ⟨hS21, hT22⟩ h
   ·skip
    refine MX.skip ?_
    refine MX.inBlock ?_
    refine MX.region ?_
    refine RG.val' .plain (FV.move rfl) rfl ?_
    refine RG.val' .plain (FV.addN (i := i20) (j := 1) rfl rfl (by omega)) rfl ?_
    refine RG.val' .plain (FV.assign rfl) rfl ?_
    refine RG.nil ?_
    exact hJ29 (z19, i20 + 1) _ _ ⟨rfl, rfl, rfl, trivial⟩ ⟨hS21, hT22⟩ h
  ·skip
   refine MX.exit rfl ?_
   have h := hh27 _ h
   try dsimp only at h
   refine MX.seq ?_
   refine MX.region ?_
   refine RG.val' .plain (FV.move rfl) rfl ?_
   refine RG.val' .plain (FV.assign rfl) rfl ?_
   refine RG.nil ?_
   refine MX.ret rfl ?_
   refine RT.leave (u := .int .i64 z19) hb0 Tryd.func49 rfl (.cons (.tmp rfl) .nil) rfl ?_
   obtain rfl := Option.some.inj h
   exact ⟨hS21.ag, fun w9 hw9 => rfl⟩
def wardmoteref18_One_p (n : Nat) (a0 : Int) : Option UInt64 :=
  some (shlU (1 : UInt64) (u64of a0).toNat)
set_option maxRecDepth 4000 in
set_option maxHeartbeats 4000000 in
theorem wardmoteref18_One_c (n : Nat) (L : List Nat) (w : World) (hL : ∀ b ∈ L, b < w.heap.size) (a0 : Int)  {r : UInt64} (h : wardmoteref18_One_p n a0 = some r) :
    Calls Tryd.prog 80 #[.int .i64 a0] w (Gives w fun w' u => u = .int .u64 (r.toNat : Int)) := by
  unfold wardmoteref18_One_p at h
  have hS0 := St.start w
  refine MX.start Tryd.func80 rfl rfl rfl (fun _ cs0 hb0 => ?_)
  refine MX.seq ?_
  refine MX.region ?_
  refine RG.val' .plain (FV.assign rfl) rfl ?_
  refine RG.nil ?_
  refine MX.seq ?_
  refine MX.region ?_
  refine RG.val' .plain (FV.move rfl) rfl ?_
  refine RG.val' .plain (FV.convU (i := a0) Tryd.underlying3 Tryd.underlying68 rfl) rfl ?_
  refine RG.val' .plain (FV.shlU (a := (1 : UInt64)) (j := (u64of a0).toNat) rfl rfl) rfl ?_
  refine RG.val' .plain (FV.assign rfl) rfl ?_
  refine RG.nil ?_
  refine MX.ret rfl ?_
  refine RT.leave (u := .int .u64 ((shlU (1 : UInt64) (u64of a0).toNat).toNat : Int)) hb0 Tryd.func80 rfl (.cons (.tmp rfl) .nil) rfl ?_
  obtain rfl := Option.some.inj h
  exact ⟨hS0.ag, fun w9 hw9 => rfl⟩
end Go.Proofs.YtplkfbljncfdnaaDoor
