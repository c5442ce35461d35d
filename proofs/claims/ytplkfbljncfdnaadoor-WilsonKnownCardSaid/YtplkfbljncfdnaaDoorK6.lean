/- Functions of the program, and what they give: part 6. -/
import Derived.Test.YtplkfbljncfdnaaDoorK5
namespace Go.Proofs.YtplkfbljncfdnaaDoor
open Go Go.RowKit

def tb9_3 : List (Nat × Nat × Nat) := [(0, 16384, 0), (1, 32768, 16384), (0, 65536, 0), (6, 131072, 65536), (8, 262144, 131072), (8, 524288, 131072), (58, 1048576, 819200), (64, 2097152, 1048576), (128, 4194304, 2097152), (384, 8388608, 6291456), (128, 16777216, 2097152), (1664, 33554432, 18874368), (2176, 67108864, 35651584), (2176, 134217728, 35651584), (14976, 268435456, 211812352), (16512, 536870912, 270532608), (49152, 1073741824, 536870912), (65536, 2147483648, 1073741824), (196608, 4294967296, 1073741824), (327680, 8589934592, 5368709120), (327680, 17179869184, 5368709120), (2031616, 34359738368, 28991029248), (2162688, 68719476736, 35433480192), (6291456, 137438953472, 68719476736), (8388608, 274877906944, 137438953476), (8388608, 549755813888, 137438953472), (58720256, 1099511627776, 962072674304), (8388608, 2199023255552, 137438953474), (8388608, 4398046511104, 137438953476), (478150656, 8796093022208, 6734508720128), (545259520, 17592186044416, 8933531975680), (545259520, 35184372088832, 8933531975680), (545259520, 70368744177664, 8933531975680), (8128561152, 140737488355328, 124382252892160), (8598323200, 281474976710656, 140874927308800), (25769803776, 562949953421312, 281474976710656), (34359738368, 1125899906842624, 562949953421312), (34359738368, 2251799813685248, 562949953421314), (34359738368, 4503599627370496, 562949953421316), (515396075520, 9007199254740992, 7318349394477056), (584115552256, 18014398509481984, 9570149208162304), (584115552256, 36028797018963968, 9570149208162304), (584115552256, 72057594037927936, 9570149208162304), (8349416423424, 144115188075855872, 127789639426637824), (8830452760576, 288230376151711744, 144678138029277184), (26388279066624, 576460752303423488, 288230376151711744), (35184372088832, 1152921504606846976, 576460752303423488), (35184372088832, 2305843009213693952, 576460752303423490), (35184372088832, 4611686018427387904, 576460752303423492), (527765581332480, 9223372036854775808, 7493989779944505344), (598134325510144, 18446744073709551616, 9799832789158199296), (598134325510144, 36893488147419103232, 9799832789158199296), (598134325510144, 73786976294838206464, 9799832789158199296), (8549802417586176, 147573952589676412928, 130856590772877131776), (9042383626829824, 295147905179352825856, 148150413341979836416), (27021597764222976, 590295810358705651712, 295147905179352825856), (36028797018963968, 1180591620717411303424, 590295810358705651728), (36028797018963968, 2361183241434822606848, 590295810358705651712), (252201579132747776, 4722366482869645213696, 4132070672510939561984), (36028797018963968, 9444732965739290427392, 590295810358705651714), (36028797018963968, 18889465931478580854784, 590295810358705651716), (2053641430080946176, 37778931862957161709568, 28924494707576576933888), (2341871806232657920, 75557863725914323419136, 38369227673315867361280), (2341871806232657920, 151115727451828646838272, 38369227673315867361280), (2341871806232657920, 302231454903657293676544, 38369227673315867361280), (34911904311376084992, 604462909807314587353088, 534217708374628614799360), (36929516944438067200, 1208925819614629174706176, 605053205617673293004800), (110680464442257309696, 2417851639229258349412352, 1208925819614629174706176), (147573952589676412928, 4835703278458516698824704, 2417851639229258349412356), (442721857769029238784, 9671406556917033397649408, 7253554917687775048237056), (147573952589676412928, 19342813113834066795298816, 2417851639229258349412354), (147573952589676412928, 38685626227668133590597632, 2417851639229258349412356), (4279644625100615974912, 77371252455336267181195264, 60446290980731458735308800), (4869940435459321626624, 154742504910672534362390528, 79789104094565525530607616), (4869940435459321626624, 309485009821345068724781056, 79789104094565525530607616), (4869940435459321626624, 618970019642690137449562112, 79789104094565525530607616), (71573367005993060270080, 1237940039285380274899124224, 1095286792570854032283795456), (75705437678503999832064, 2475880078570760549798248448, 1240357890924609533248536576), (226673591177742970257408, 4951760157141521099596496896, 2475880078570760549798248448), (302231454903657293676544, 9903520314283042199192993792, 4951760157141521099596496896), (302231454903657293676544, 19807040628566084398385987584, 4951760157141521099596496898), (302231454903657293676544, 39614081257132168796771975168, 4951760157141521099596496900), (4533471823554859405148160, 79228162514264337593543950336, 64372882042839774294754459648), (5137934733362173992501248, 158456325028528675187087900672, 84179922671405858693140447232), (5137934733362173992501248, 316912650057057350374175801344, 84179922671405858693140447232), (5137934733362173992501248, 633825300114114700748351602688, 84179922671405858693140447232), (73442243541588722363400192, 1267650600228229401496703205376, 1124049555671125289608404795392), (77673483910239924474871808, 2535301200456458802993406410752, 1272602360385370922596299702272), (232113757366008801543585792, 5070602400912917605986812821504, 2535301200456458802993406410752), (309485009821345068724781056, 10141204801825835211973625643008, 5070602400912917605986812821504), (309485009821345068724781056, 20282409603651670423947251286016, 5070602400912917605986812821506), (309485009821345068724781056, 40564819207303340847894502572032, 5070602400912917605986812821508), (4642275147320176030871715840, 81129638414606681695789005144064, 65917831211867928877828566679552), (5261245166962866168321277952, 162259276829213363391578010288128, 86200240815519599301775817965568), (5261245166962866168321277952, 324518553658426726783156020576256, 86200240815519599301775817965568), (5261245166962866168321277952, 649037107316853453566312041152512, 86200240815519599301775817965568), (75204857386586851700121796608, 1298074214633706907132624082305024, 1151026745007232296559006510481408), (79537647524085682662268731392, 2596148429267413814265248164610048, 1303144817034619824738610895126528), (316912650057057350374175801343, 1, 2596148429267413814265248164610048)]
theorem body10 : bodyB Tryd.prog 10 = true := by kernel_rfl
theorem body14 : bodyB Tryd.prog 14 = true := by kernel_rfl
theorem body15 : bodyB Tryd.prog 15 = true := by kernel_rfl
theorem body18 : bodyB Tryd.prog 18 = true := by kernel_rfl
theorem body19 : bodyB Tryd.prog 19 = true := by kernel_rfl
theorem body20 : bodyB Tryd.prog 20 = true := by kernel_rfl
theorem body21 : bodyB Tryd.prog 21 = true := by kernel_rfl
theorem body22 : bodyB Tryd.prog 22 = true := by kernel_rfl
theorem body37 : bodyB Tryd.prog 37 = true := by kernel_rfl
theorem body38 : bodyB Tryd.prog 38 = true := by kernel_rfl
theorem body39 : bodyB Tryd.prog 39 = true := by kernel_rfl
theorem body40 : bodyB Tryd.prog 40 = true := by kernel_rfl
def wardmotelaw31_works_p (n : Nat) : Option Bool :=
  (wardmotelaw31_ring_p n).bind fun y1 => (chance_Below_p n (⟨(77 : UInt64)⟩ : TChance) 1).bind fun y26 => (wilson_Erase_p n ([0, 1, 2, 1, 3] : List Int)).bind fun y1571 => (wardmotelaw31_lists_1_p n y1571.1 y1571.2 ([0, 1, 3] : List Int)).bind fun y1583 => (if y1583 = true then (wilson_Erase_p n ([5, 5, 5] : List Int)).bind fun y3120 => (wardmotelaw31_lists_1_p n y3120.1 y3120.2 ([5] : List Int)).bind fun y3132 => (if y3132 = true then (wilson_Erase_p n ([] : List Int)).bind fun y3144 => (wardmotelaw31_fails_1_p n y3144.1 y3144.2 4).bind fun y3155 => (if y3155 = true then (wilson_Walk_p n y1 (15 : UInt64) 2 (4 : UInt64) (⟨(77 : UInt64)⟩ : TChance)).bind fun y3178 => (wardmotelaw31_goes_1_p n y3178.1 y3178.2.1 y3178.2.2 ([2] : List Int) (⟨(77 : UInt64)⟩ : TChance)).bind fun y3187 => (if y3187 = true then (wilson_Walk_p n y1 (5 : UInt64) 2 (1 : UInt64) (⟨(77 : UInt64)⟩ : TChance)).bind fun y3199 => (wardmotelaw31_stops_1_p n y3199.1 y3199.2.1 y3199.2.2 4).bind fun y3208 => (if y3208 = true then (wilson_Walk_p n y1 (3 : UInt64) 2 (1 : UInt64) (⟨(77 : UInt64)⟩ : TChance)).bind fun y3219 => (wardmotelaw31_stops_1_p n y3219.1 y3219.2.1 y3219.2.2 2).bind fun y3228 => (if y3228 = true then (wilson_Walk_p n y1 (3 : UInt64) 1 (1 : UInt64) (⟨(77 : UInt64)⟩ : TChance)).bind fun y3251 => (wardmotelaw31_goes_1_p n y3251.1 y3251.2.1 y3251.2.2 ([1, 0] : List Int) y26.2.1).bind fun y3260 => (if y3260 = true then (wilson_Draw_p n y1 (4 : UInt64) (⟨(77 : UInt64)⟩ : TChance)).bind fun y3277 => (wardmotelaw31_goes_1_p n y3277.1 y3277.2.1 y3277.2.2 ([] : List Int) (⟨(77 : UInt64)⟩ : TChance)).bind fun y3286 => (if y3286 = true then (wilson_Draw_p n y1 (5 : UInt64) (⟨(77 : UInt64)⟩ : TChance)).bind fun y3297 => (wardmotelaw31_stops_1_p n y3297.1 y3297.2.1 y3297.2.2 4).bind fun y3306 => (if y3306 = true then (wilson_Draw_p n y1 (0 : UInt64) (⟨(77 : UInt64)⟩ : TChance)).bind fun y3317 => (wardmotelaw31_stops_1_p n y3317.1 y3317.2.1 y3317.2.2 2).bind fun y3326 => some y3326 else some false) else some false) else some false) else some false) else some false) else some false) else some false) else some false) else some false)
set_option maxRecDepth 4000 in
set_option maxHeartbeats 4000000 in
theorem wardmotelaw31_works_c (n : Nat) (L : List Nat) (w : World) (hL : ∀ b ∈ L, b < w.heap.size) (hG0 : Glob 0 tab0 w)  {r : Bool} (h : wardmotelaw31_works_p n = some r) :
    Calls Tryd.prog 9 #[] w (Gives w fun _ u => u = .bool r) := by
  unfold wardmotelaw31_works_p at h
  have hS0 := St.start w
  refine MX.start Tryd.func9 rfl rfl rfl (fun _ cs0 hb0 => ?_)
  refine MX.seq ?_
  refine MX.region ?_
  refine RG.val' .plain (FV.assign rfl) rfl ?_
  refine RG.nil ?_
  refine MX.seq ?_
  refine MX.region ?_
  obtain ⟨y1, hy1, h⟩ := bind_in h
  refine RG.call' (fst := []) (cap := []) .plain body18 rfl evs_nil (fun w9 hw9 => wardmotelaw31_ring_c n _ w9 (hS0.hL hL hw9)  hy1) rfl (fun w2 vu3 hag4 ⟨v7, hu_, hr8⟩ => ?_)
  subst hu_
  have hS5 := hS0.agree hag4
  have hT6 := Tr.agree (O := []) hag4
  refine RG.val' .plain (FV.buildV (vs := [.int .u64 77]) (u := .agg #[.int .u64 77]) (evs_cons rfl evs_nil) (fun w9 => by kernel_rfl)) rfl ?_
  refine RG.new .plain rfl (Does.alloc (zs := [.int .i64 0, .slice none 0 0]) hS5 (zB (by kernel_rfl))) (fun w10 b13 hS11 hT12 => ?_)
  refine RG.new .plain rfl (Does.alloc (zs := [.int .u64 0]) hS11 (zB (by kernel_rfl))) (fun w15 b18 hS16 hT17 => ?_)
  have hm19 := Rep.mv hr8 (Tr.trans hT12 hT17)
  refine RG.now .plain (Acts.store (j := 0) (old := [.int .i64 0, .slice none 0 0]) (news := [.int .i64 y1.fN, v7]) (new' := [.int .i64 y1.fN, v7]) hS16 (.tl .hd) rfl rfl rfl rfl rfl rfl (ones_cons rfl (ones_cons (Rep.o1 hm19) ones_nil)) rfl) (fun w20 hS21 hT22 => ?_)
  refine RG.now .plain (Acts.store (j := 0) (old := [.int .u64 0]) (news := [.int .u64 77]) (new' := [.int .u64 77]) hS21 .hd rfl rfl rfl rfl rfl rfl (ones_cons rfl ones_nil) rfl) (fun w23 hS24 hT25 => ?_)
  refine RG.nil ?_
  refine MX.seq ?_
  refine MX.region ?_
  refine RG.val' .plain (FV.loadN (cs := [.int .u64 77]) (by kernel_rfl) rfl (hS24.memA .hd)) rfl ?_
  obtain ⟨y26, hy26, h⟩ := bind_in h
  refine RG.callq' (v := .tuple #[.int .i64 y26.1, .agg #[.int .u64 (y26.2.1.fState.toNat : Int)], .int .i64 y26.2.2]) (fst := []) (cap := []) .plain body29 rfl (evs_cons rfl (evs_cons rfl evs_nil)) (fun w9 hw9 => chance_Below_c n _ w9 (hS24.hL0 hL hw9) (⟨(77 : UInt64)⟩ : TChance) 1 hy26) rfl ?_
  refine RG.val' .plain (FV.move rfl) rfl ?_
  refine RG.val' .plain (FV.extract rfl rfl) rfl ?_
  refine RG.val' .plain (FV.extract rfl rfl) rfl ?_
  refine RG.val' .plain (FV.extract rfl rfl) rfl ?_
  refine RG.new .plain rfl (Does.alloc (zs := [.int .u64 0]) hS24 (zB (by kernel_rfl))) (fun w28 b31 hS29 hT30 => ?_)
  refine RG.val' .plain (FV.assign rfl) rfl ?_
  refine RG.now .plain (Acts.store (j := 0) (old := [.int .u64 0]) (news := [.int .u64 (y26.2.1.fState.toNat : Int)]) (new' := [.int .u64 (y26.2.1.fState.toNat : Int)]) hS29 .hd rfl rfl rfl rfl rfl rfl (ones_cons rfl ones_nil) rfl) (fun w32 hS33 hT34 => ?_)
  refine RG.val' .plain (FV.assign rfl) rfl ?_
  refine RG.nil ?_
  refine MX.seq ?_
  refine MX.drawT 99 tb9_3 (by kernel_rfl) (by kernel_rfl) (by kernel_rfl) (fun kt35 kp36 => ?_)
  refine RD.meet (α := Value × (List Value) × Value × Nat) (fun ⟨v1562, cs1563, v1565, b1567⟩ => [(0, .bool false), (1, .pointer (some ⟨b13, 0, none⟩)), (2, .pointer (some ⟨b18, 0, none⟩)), (4, .pointer (some ⟨b31, 0, none⟩)), (15, .func (.func 38) #[] #[.pointer (some ⟨b1567, 0, none⟩)]), (16, v1562)]) (fun ⟨v1562, cs1563, v1565, b1567⟩ wx1567 => St w wx1567 [.row w.heap.size 3 (Rep.size Int) v1562 (([0, 1, 2, 1, 3] : List Int).length) cs1563, .cells b1567 [v1565] 22, .cells b31 [.int .u64 (y26.2.1.fState.toNat : Int)] 37, .cells b18 [.int .u64 77] 37, .cells b13 [.int .i64 y1.fN, v7] 40] ∧ Tr w32 [.cells b31 [.int .u64 (y26.2.1.fState.toNat : Int)] 37, .cells b18 [.int .u64 77] 37, .cells b13 [.int .i64 y1.fN, v7] 40] wx1567 [.row w.heap.size 3 (Rep.size Int) v1562 (([0, 1, 2, 1, 3] : List Int).length) cs1563, .cells b1567 [v1565] 22, .cells b31 [.int .u64 (y26.2.1.fState.toNat : Int)] 37, .cells b18 [.int .u64 77] 37, .cells b13 [.int .i64 y1.fN, v7] 40] ∧ Cells wx1567 (bl [.row w.heap.size 3 (Rep.size Int) v1562 (([0, 1, 2, 1, 3] : List Int).length) cs1563, .cells b1567 [v1565] 22, .cells b31 [.int .u64 (y26.2.1.fState.toNat : Int)] 37, .cells b18 [.int .u64 77] 37, .cells b13 [.int .i64 y1.fN, v7] 40] ++ L) cs1563 (([0, 1, 2, 1, 3] : List Int) : List Int) ∧ Rep.R wx1567 (bl [.row w.heap.size 3 (Rep.size Int) v1562 (([0, 1, 2, 1, 3] : List Int).length) cs1563, .cells b1567 [v1565] 22, .cells b31 [.int .u64 (y26.2.1.fState.toNat : Int)] 37, .cells b18 [.int .u64 77] 37, .cells b13 [.int .i64 y1.fN, v7] 40] ++ L) [v1565] ([0, 1, 3] : List Int)) 96 7 ?_ ?_
  ·skip
   rintro ⟨v1562, cs1563, v1565, b1567⟩ wx1567 ⟨hS1568, hT1569, hc1564, hr1566⟩
   try dsimp only
   have hr1572 := St.freeze (α := Int) hS1568 .hd hc1564 hL
   have hS1573 := hS1568.del (.hd : Out _ _ _).del
   have hT1574 := Tr.del (w := wx1567) (.hd : Out [.row w.heap.size 3 (Rep.size Int) v1562 (([0, 1, 2, 1, 3] : List Int).length) cs1563, .cells b1567 [v1565] 22, .cells b31 [.int .u64 (y26.2.1.fState.toNat : Int)] 37, .cells b18 [.int .u64 77] 37, .cells b13 [.int .i64 y1.fN, v7] 40] _ _).del
   have hr1575 : Rep.R wx1567 (bl [.cells b1567 [v1565] 22, .cells b31 [.int .u64 (y26.2.1.fState.toNat : Int)] 37, .cells b18 [.int .u64 77] 37, .cells b13 [.int .i64 y1.fN, v7] 40] ++ L) [v1562] ([0, 1, 2, 1, 3] : List Int) := hr1572
   obtain ⟨y1571, hy1571, h⟩ := bind_in h
   refine RD.one (i := 3) (readyD_ok kt35 (by kernel_rfl)) (RO.call (m' := 15) (fst := []) (cap := []) (stepC_ok kt35 (by kernel_rfl)) rfl .plain body10 rfl (evs_cons rfl evs_nil) (fun w9 hw9 => wilson_Erase_c n _ w9 (hS1573.hL hL hw9) ([0, 1, 2, 1, 3] : List Int) (Rep.keep0 hr1575 hw9) hy1571) rfl (fun w1576 vu1577 hag1578 ⟨v1581, hu_, hr1582⟩ => ?_))
   subst hu_
   have hS1579 := hS1573.agree hag1578
   have hT1580 := Tr.agree (O := [.cells b1567 [v1565] 22, .cells b31 [.int .u64 (y26.2.1.fState.toNat : Int)] 37, .cells b18 [.int .u64 77] 37, .cells b13 [.int .i64 y1.fN, v7] 40]) hag1578
   refine RD.vP 4 31 kt35 rfl kp36 .plain (fun _ => FV.extract rfl rfl) rfl ?_
   refine RD.vP 5 63 kt35 rfl kp36 .plain (fun _ => FV.extract rfl rfl) rfl ?_
   obtain ⟨y1583, hy1583, h⟩ := bind_in h
   have hm1584 := Rep.mv hr1566 (Tr.trans hT1574 hT1580)
   refine RD.callq (i := 6) (m' := 127) (W := 633825300114114700748351602560) (takeC_ok kt35 (by kernel_rfl)) rfl kp36 (v := .bool y1583) (fst := []) (cap := [.pointer (some ⟨b1567, 0, none⟩)]) .plain body38 rfl (evs_cons rfl (evs_cons rfl evs_nil)) (fun w9 hw9 => wardmotelaw31_lists_1_c n _ w9 (hS1579.hL0 hL hw9) y1571.1 (Rep.keep0 (Rep.dropO (O := [.cells b1567 [v1565] 22, .cells b31 [.int .u64 (y26.2.1.fState.toNat : Int)] 37, .cells b18 [.int .u64 77] 37, .cells b13 [.int .i64 y1.fN, v7] 40]) hr1582) hw9) y1571.2 ([0, 1, 3] : List Int) (Rep.keep0 (Rep.dropO (O := [.cells b1567 [v1565] 22, .cells b31 [.int .u64 (y26.2.1.fState.toNat : Int)] 37, .cells b18 [.int .u64 77] 37, .cells b13 [.int .i64 y1.fN, v7] 40]) hm1584) hw9) (fun j9 v9 h9 => hw9.cell0 ((hS1579.memA .hd) j9 v9 h9)) hy1583) rfl ?_
   refine RD.vP 7 255 kt35 rfl kp36 .plain (fun _ => FV.move rfl) rfl ?_
   refine RD.ifb (s := 21) rfl h (fun c1585 h => ?_) (fun c1585 h => ?_)
   ·skip
    refine RD.meet (α := Value × (List Value) × Value × Nat) (fun ⟨v3111, cs3112, v3114, b3116⟩ => [(0, .bool false), (1, .pointer (some ⟨b13, 0, none⟩)), (2, .pointer (some ⟨b18, 0, none⟩)), (4, .pointer (some ⟨b31, 0, none⟩)), (21, .bool true), (23, .func (.func 38) #[] #[.pointer (some ⟨b3116, 0, none⟩)]), (24, v3111)]) (fun ⟨v3111, cs3112, v3114, b3116⟩ wx3116 => St w wx3116 [.row w.heap.size 3 (Rep.size Int) v3111 (([5, 5, 5] : List Int).length) cs3112, .cells b3116 [v3114] 22, .cells b31 [.int .u64 (y26.2.1.fState.toNat : Int)] 37, .cells b18 [.int .u64 77] 37, .cells b13 [.int .i64 y1.fN, v7] 40] ∧ Tr w1576 [.cells b1567 [v1565] 22, .cells b31 [.int .u64 (y26.2.1.fState.toNat : Int)] 37, .cells b18 [.int .u64 77] 37, .cells b13 [.int .i64 y1.fN, v7] 40] wx3116 [.row w.heap.size 3 (Rep.size Int) v3111 (([5, 5, 5] : List Int).length) cs3112, .cells b3116 [v3114] 22, .cells b31 [.int .u64 (y26.2.1.fState.toNat : Int)] 37, .cells b18 [.int .u64 77] 37, .cells b13 [.int .i64 y1.fN, v7] 40] ∧ Cells wx3116 (bl [.row w.heap.size 3 (Rep.size Int) v3111 (([5, 5, 5] : List Int).length) cs3112, .cells b3116 [v3114] 22, .cells b31 [.int .u64 (y26.2.1.fState.toNat : Int)] 37, .cells b18 [.int .u64 77] 37, .cells b13 [.int .i64 y1.fN, v7] 40] ++ L) cs3112 (([5, 5, 5] : List Int) : List Int) ∧ Rep.R wx3116 (bl [.row w.heap.size 3 (Rep.size Int) v3111 (([5, 5, 5] : List Int).length) cs3112, .cells b3116 [v3114] 22, .cells b31 [.int .u64 (y26.2.1.fState.toNat : Int)] 37, .cells b18 [.int .u64 77] 37, .cells b13 [.int .i64 y1.fN, v7] 40] ++ L) [v3114] ([5] : List Int)) 88 2047 ?_ ?_
    ·skip
     rintro ⟨v3111, cs3112, v3114, b3116⟩ wx3116 ⟨hS3117, hT3118, hc3113, hr3115⟩
     try dsimp only
     have hr3121 := St.freeze (α := Int) hS3117 .hd hc3113 hL
     have hS3122 := hS3117.del (.hd : Out _ _ _).del
     have hT3123 := Tr.del (w := wx3116) (.hd : Out [.row w.heap.size 3 (Rep.size Int) v3111 (([5, 5, 5] : List Int).length) cs3112, .cells b3116 [v3114] 22, .cells b31 [.int .u64 (y26.2.1.fState.toNat : Int)] 37, .cells b18 [.int .u64 77] 37, .cells b13 [.int .i64 y1.fN, v7] 40] _ _).del
     have hr3124 : Rep.R wx3116 (bl [.cells b3116 [v3114] 22, .cells b31 [.int .u64 (y26.2.1.fState.toNat : Int)] 37, .cells b18 [.int .u64 77] 37, .cells b13 [.int .i64 y1.fN, v7] 40] ++ L) [v3111] ([5, 5, 5] : List Int) := hr3121
     obtain ⟨y3120, hy3120, h⟩ := bind_in h
     refine RD.one (i := 11) (readyD_ok kt35 (by kernel_rfl)) (RO.call (m' := 4095) (fst := []) (cap := []) (stepC_ok kt35 (by kernel_rfl)) rfl (.yes rfl rfl) body10 rfl (evs_cons rfl evs_nil) (fun w9 hw9 => wilson_Erase_c n _ w9 (hS3122.hL hL hw9) ([5, 5, 5] : List Int) (Rep.keep0 hr3124 hw9) hy3120) rfl (fun w3125 vu3126 hag3127 ⟨v3130, hu_, hr3131⟩ => ?_))
     subst hu_
     have hS3128 := hS3122.agree hag3127
     have hT3129 := Tr.agree (O := [.cells b3116 [v3114] 22, .cells b31 [.int .u64 (y26.2.1.fState.toNat : Int)] 37, .cells b18 [.int .u64 77] 37, .cells b13 [.int .i64 y1.fN, v7] 40]) hag3127
     refine RD.vP 12 8191 kt35 rfl kp36 (.yes rfl rfl) (fun _ => FV.extract rfl rfl) rfl ?_
     refine RD.vP 13 16383 kt35 rfl kp36 (.yes rfl rfl) (fun _ => FV.extract rfl rfl) rfl ?_
     obtain ⟨y3132, hy3132, h⟩ := bind_in h
     have hm3133 := Rep.mv hr3115 (Tr.trans hT3123 hT3129)
     refine RD.callq (i := 14) (m' := 32767) (W := 633825300114114700748351569920) (takeC_ok kt35 (by kernel_rfl)) rfl kp36 (v := .bool y3132) (fst := []) (cap := [.pointer (some ⟨b3116, 0, none⟩)]) (.yes rfl rfl) body38 rfl (evs_cons rfl (evs_cons rfl evs_nil)) (fun w9 hw9 => wardmotelaw31_lists_1_c n _ w9 (hS3128.hL0 hL hw9) y3120.1 (Rep.keep0 (Rep.dropO (O := [.cells b3116 [v3114] 22, .cells b31 [.int .u64 (y26.2.1.fState.toNat : Int)] 37, .cells b18 [.int .u64 77] 37, .cells b13 [.int .i64 y1.fN, v7] 40]) hr3131) hw9) y3120.2 ([5] : List Int) (Rep.keep0 (Rep.dropO (O := [.cells b3116 [v3114] 22, .cells b31 [.int .u64 (y26.2.1.fState.toNat : Int)] 37, .cells b18 [.int .u64 77] 37, .cells b13 [.int .i64 y1.fN, v7] 40]) hm3133) hw9) (fun j9 v9 h9 => hw9.cell0 ((hS3128.memA .hd) j9 v9 h9)) hy3132) rfl ?_
     refine RD.vP 15 65535 kt35 rfl kp36 .plain (fun _ => FV.pick_t rfl rfl) rfl ?_
     refine RD.vP 16 131071 kt35 rfl kp36 .plain (fun _ => FV.move rfl) rfl ?_
     refine RD.ifb (s := 30) rfl h (fun c3134 h => ?_) (fun c3134 h => ?_)
     ·skip
      refine RD.one (i := 17) (readyD_ok kt35 (by kernel_rfl)) (RO.call (m' := 262143) (fst := []) (cap := []) (stepC_ok kt35 (by kernel_rfl)) rfl (.yes rfl rfl) body19 rfl (evs_cons rfl evs_nil) (fun w9 hw9 => Calls.gives (wardmotelaw31_fails_c n _ w9 (hS3128.hL hL hw9) 4) fun (w8 : World) (u8 : Value) ⟨b0_, hu_, s_⟩ => (⟨b0_, hu_, s_.from hw9⟩ : ∃ b3136 : Nat, u8 = Value.func (.func 37) #[] #[.pointer (some ⟨b3136, 0, none⟩)] ∧ St w3125 w8 [.cells b3136 [.int .i64 4] 27])) rfl (fun w3137 vu3138 hag3139 ⟨b3136, hu3141, s3140⟩ => ?_))
      subst hu3141
      have hS3142 : St w w3137 [.cells b3136 [.int .i64 4] 27, .cells b3116 [v3114] 22, .cells b31 [.int .u64 (y26.2.1.fState.toNat : Int)] 37, .cells b18 [.int .u64 77] 37, .cells b13 [.int .i64 y1.fN, v7] 40] := St.merge hS3128 s3140
      have hT3143 : Tr w3125 [.cells b3116 [v3114] 22, .cells b31 [.int .u64 (y26.2.1.fState.toNat : Int)] 37, .cells b18 [.int .u64 77] 37, .cells b13 [.int .i64 y1.fN, v7] 40] w3137 [.cells b3136 [.int .i64 4] 27, .cells b3116 [v3114] 22, .cells b31 [.int .u64 (y26.2.1.fState.toNat : Int)] 37, .cells b18 [.int .u64 77] 37, .cells b13 [.int .i64 y1.fN, v7] 40] := Tr.merge hS3128 s3140
      have hr3145 : Rep.R w3137 (bl [.cells b3136 [.int .i64 4] 27, .cells b3116 [v3114] 22, .cells b31 [.int .u64 (y26.2.1.fState.toNat : Int)] 37, .cells b18 [.int .u64 77] 37, .cells b13 [.int .i64 y1.fN, v7] 40] ++ L) [.slice none 0 0] ([] : List Int) := Rep.nilSlice _ _
      obtain ⟨y3144, hy3144, h⟩ := bind_in h
      have hr3146 : Rep.R w3137 (bl [.cells b3136 [.int .i64 4] 27, .cells b3116 [v3114] 22, .cells b31 [.int .u64 (y26.2.1.fState.toNat : Int)] 37, .cells b18 [.int .u64 77] 37, .cells b13 [.int .i64 y1.fN, v7] 40] ++ L) [.slice none 0 0] ([] : List Int) := Rep.nilSlice _ _
      have hr3147 : Rep.R w3137 (bl [.cells b3136 [.int .i64 4] 27, .cells b3116 [v3114] 22, .cells b31 [.int .u64 (y26.2.1.fState.toNat : Int)] 37, .cells b18 [.int .u64 77] 37, .cells b13 [.int .i64 y1.fN, v7] 40] ++ L) [.slice none 0 0] ([] : List Int) := Rep.nilSlice _ _
      refine RD.one (i := 18) (readyD_ok kt35 (by kernel_rfl)) (RO.call (m' := 524287) (fst := []) (cap := []) (stepC_ok kt35 (by kernel_rfl)) rfl (.yes rfl rfl) body10 rfl (evs_cons rfl evs_nil) (fun w9 hw9 => wilson_Erase_c n _ w9 (hS3142.hL hL hw9) ([] : List Int) (Rep.keep0 hr3147 hw9) hy3144) rfl (fun w3148 vu3149 hag3150 ⟨v3153, hu_, hr3154⟩ => ?_))
      subst hu_
      have hS3151 := hS3142.agree hag3150
      have hT3152 := Tr.agree (O := [.cells b3136 [.int .i64 4] 27, .cells b3116 [v3114] 22, .cells b31 [.int .u64 (y26.2.1.fState.toNat : Int)] 37, .cells b18 [.int .u64 77] 37, .cells b13 [.int .i64 y1.fN, v7] 40]) hag3150
      refine RD.vP 19 1048575 kt35 rfl kp36 (.yes rfl rfl) (fun _ => FV.extract rfl rfl) rfl ?_
      refine RD.vP 20 2097151 kt35 rfl kp36 (.yes rfl rfl) (fun _ => FV.extract rfl rfl) rfl ?_
      obtain ⟨y3155, hy3155, h⟩ := bind_in h
      refine RD.callq (i := 21) (m' := 4194303) (W := 633825300114114700748347408384) (takeC_ok kt35 (by kernel_rfl)) rfl kp36 (v := .bool y3155) (fst := []) (cap := [.pointer (some ⟨b3136, 0, none⟩)]) (.yes rfl rfl) body37 rfl (evs_cons rfl (evs_cons rfl evs_nil)) (fun w9 hw9 => wardmotelaw31_fails_1_c n _ w9 (hS3151.hL0 hL hw9) y3144.1 (Rep.keep0 (Rep.dropO (O := [.cells b3136 [.int .i64 4] 27, .cells b3116 [v3114] 22, .cells b31 [.int .u64 (y26.2.1.fState.toNat : Int)] 37, .cells b18 [.int .u64 77] 37, .cells b13 [.int .i64 y1.fN, v7] 40]) hr3154) hw9) y3144.2 4 (fun j9 v9 h9 => hw9.cell0 ((hS3151.memA .hd) j9 v9 h9)) hy3155) rfl ?_
      refine RD.vP 22 8388607 kt35 rfl kp36 .plain (fun _ => FV.pick_t rfl rfl) rfl ?_
      refine RD.vP 23 16777215 kt35 rfl kp36 .plain (fun _ => FV.move rfl) rfl ?_
      refine RD.ifb (s := 37) rfl h (fun c3156 h => ?_) (fun c3156 h => ?_)
      ·skip
       refine RD.val (i := 24) (m' := 33554431) (W := 633825300114114700747881840640) (takeC_ok kt35 (by kernel_rfl)) rfl kp36 (.yes rfl rfl) (FV.loadN (cs := [.int .u64 77]) (by kernel_rfl) rfl (hS3151.memA (.tl (.tl (.tl .hd))))) rfl ?_
       refine RD.val (i := 27) (m' := 167772159) (W := 633825300114114700747814731776) (takeC_ok kt35 (by kernel_rfl)) rfl kp36 (.yes rfl rfl) (FV.loadN (cs := [.int .i64 y1.fN, v7]) (by kernel_rfl) rfl (hS3151.memA (.tl (.tl (.tl (.tl .hd)))))) rfl ?_
       refine RD.val (i := 28) (m' := 436207615) (W := 633825300114114700747814731776) (takeC_ok kt35 (by kernel_rfl)) rfl kp36 (.yes rfl rfl) (FV.loadN (cs := [.int .u64 77]) (by kernel_rfl) rfl (hS3151.memA (.tl (.tl (.tl .hd))))) rfl ?_
       refine RD.one (i := 25) (readyD_ok kt35 (by kernel_rfl)) (RO.new (m' := 469762047) (stepC_ok kt35 (by kernel_rfl)) rfl (.yes rfl rfl) rfl (Does.build (α := Int) (xs := ([2] : List Int)) (vs := [.int .i64 2]) (ds' := [.int .i64 2]) rfl hS3151 el22 rfl (evs_cons rfl evs_nil) (by kernel_rfl) rfl) (fun w3158 b3161 hS3159 hT3160 => ?_))
       have hc3162 : Cells w3158 (bl [.row w.heap.size 3 (Rep.size Int) (.slice (some ⟨b3161, 0, none⟩) 1 1) (([2] : List Int).length) [.int .i64 2], .cells b3136 [.int .i64 4] 27, .cells b3116 [v3114] 22, .cells b31 [.int .u64 (y26.2.1.fState.toNat : Int)] 37, .cells b18 [.int .u64 77] 37, .cells b13 [.int .i64 y1.fN, v7] 40] ++ L) [.int .i64 2] (([2] : List Int) : List Int) := Cells.cons (cs := [.int .i64 2]) (ds := []) rfl (Cells.nil _ _)
       have hr3163 := St.freeze (α := Int) hS3159 .hd hc3162 hL
       have hS3164 := hS3159.del (.hd : Out _ _ _).del
       have hT3165 := Tr.del (w := w3158) (.hd : Out [.row w.heap.size 3 (Rep.size Int) (.slice (some ⟨b3161, 0, none⟩) 1 1) (([2] : List Int).length) [.int .i64 2], .cells b3136 [.int .i64 4] 27, .cells b3116 [v3114] 22, .cells b31 [.int .u64 (y26.2.1.fState.toNat : Int)] 37, .cells b18 [.int .u64 77] 37, .cells b13 [.int .i64 y1.fN, v7] 40] _ _).del
       have hr3166 : Rep.R w3158 (bl [.cells b3136 [.int .i64 4] 27, .cells b3116 [v3114] 22, .cells b31 [.int .u64 (y26.2.1.fState.toNat : Int)] 37, .cells b18 [.int .u64 77] 37, .cells b13 [.int .i64 y1.fN, v7] 40] ++ L) [(.slice (some ⟨b3161, 0, none⟩) 1 1)] ([2] : List Int) := hr3163
       refine RD.one (i := 26) (readyD_ok kt35 (by kernel_rfl)) (RO.call (m' := 536870911) (fst := []) (cap := []) (stepC_ok kt35 (by kernel_rfl)) rfl (.yes rfl rfl) body22 rfl (evs_cons rfl (evs_cons rfl evs_nil)) (fun w9 hw9 => Calls.gives (wardmotelaw31_goes_c n _ w9 (hS3164.hL hL hw9) (⟨(77 : UInt64)⟩ : TChance) ([2] : List Int) (Rep.keep0 hr3166 hw9)) fun (w8 : World) (u8 : Value) ⟨b0_, b1_, hu_, s_⟩ => (⟨b0_, b1_, hu_, s_.from hw9⟩ : ∃ b3169 b3170 : Nat, u8 = Value.func (.func 40) #[] #[.pointer (some ⟨b3169, 0, none⟩), .pointer (some ⟨b3170, 0, none⟩)] ∧ St w3158 w8 [.cells b3169 [(.slice (some ⟨b3161, 0, none⟩) 1 1)] 22, .cells b3170 [.int .u64 77] 37])) rfl (fun w3171 vu3172 hag3173 ⟨b3169, b3170, hu3175, s3174⟩ => ?_))
       subst hu3175
       have hS3176 : St w w3171 [.cells b3169 [(.slice (some ⟨b3161, 0, none⟩) 1 1)] 22, .cells b3170 [.int .u64 77] 37, .cells b3136 [.int .i64 4] 27, .cells b3116 [v3114] 22, .cells b31 [.int .u64 (y26.2.1.fState.toNat : Int)] 37, .cells b18 [.int .u64 77] 37, .cells b13 [.int .i64 y1.fN, v7] 40] := St.merge hS3164 s3174
       have hT3177 : Tr w3158 [.cells b3136 [.int .i64 4] 27, .cells b3116 [v3114] 22, .cells b31 [.int .u64 (y26.2.1.fState.toNat : Int)] 37, .cells b18 [.int .u64 77] 37, .cells b13 [.int .i64 y1.fN, v7] 40] w3171 [.cells b3169 [(.slice (some ⟨b3161, 0, none⟩) 1 1)] 22, .cells b3170 [.int .u64 77] 37, .cells b3136 [.int .i64 4] 27, .cells b3116 [v3114] 22, .cells b31 [.int .u64 (y26.2.1.fState.toNat : Int)] 37, .cells b18 [.int .u64 77] 37, .cells b13 [.int .i64 y1.fN, v7] 40] := Tr.merge hS3164 s3174
       obtain ⟨y3178, hy3178, h⟩ := bind_in h
       have hm3179 := Rep.mv hr8 (Tr.trans hT12 (Tr.trans hT17 (Tr.trans hT22 (Tr.trans hT25 (Tr.trans hT30 (Tr.trans hT34 (Tr.trans hT1569 (Tr.trans hT1574 (Tr.trans hT1580 (Tr.trans hT3118 (Tr.trans hT3123 (Tr.trans hT3129 (Tr.trans hT3143 (Tr.trans hT3152 (Tr.trans hT3160 (Tr.trans hT3165 hT3177))))))))))))))))
       refine RD.one (i := 29) (readyD_ok kt35 (by kernel_rfl)) (RO.call (m' := 1073741823) (fst := []) (cap := []) (stepC_ok kt35 (by kernel_rfl)) rfl (.yes rfl rfl) body15 rfl (evs_cons rfl (evs_cons rfl (evs_cons rfl (evs_cons rfl (evs_cons rfl evs_nil))))) (fun w9 hw9 => wilson_Walk_c n _ w9 (hS3176.hL hL hw9) y1 (Rep.keep0 hm3179 hw9) (15 : UInt64) 2 (4 : UInt64) (⟨(77 : UInt64)⟩ : TChance) (hG0.keep (hS3176.ag.trans hw9)) hy3178) rfl (fun w3180 vu3181 hag3182 ⟨v3185, hu_, hr3186⟩ => ?_))
       subst hu_
       have hS3183 := hS3176.agree hag3182
       have hT3184 := Tr.agree (O := [.cells b3169 [(.slice (some ⟨b3161, 0, none⟩) 1 1)] 22, .cells b3170 [.int .u64 77] 37, .cells b3136 [.int .i64 4] 27, .cells b3116 [v3114] 22, .cells b31 [.int .u64 (y26.2.1.fState.toNat : Int)] 37, .cells b18 [.int .u64 77] 37, .cells b13 [.int .i64 y1.fN, v7] 40]) hag3182
       refine RD.vP 30 2147483647 kt35 rfl kp36 (.yes rfl rfl) (fun _ => FV.extract rfl rfl) rfl ?_
       refine RD.vP 31 4294967295 kt35 rfl kp36 (.yes rfl rfl) (fun _ => FV.extract rfl rfl) rfl ?_
       refine RD.vP 32 8589934591 kt35 rfl kp36 (.yes rfl rfl) (fun _ => FV.extract rfl rfl) rfl ?_
       obtain ⟨y3187, hy3187, h⟩ := bind_in h
       have hm3188 := Rep.mv hr3166 (Tr.trans hT3177 hT3184)
       refine RD.callq (i := 33) (m' := 17179869183) (W := 633825300114114700731171733504) (takeC_ok kt35 (by kernel_rfl)) rfl kp36 (v := .bool y3187) (fst := []) (cap := [.pointer (some ⟨b3169, 0, none⟩), .pointer (some ⟨b3170, 0, none⟩)]) (.yes rfl rfl) body40 rfl (evs_cons rfl (evs_cons rfl (evs_cons rfl evs_nil))) (fun w9 hw9 => wardmotelaw31_goes_1_c n _ w9 (hS3183.hL0 hL hw9) y3178.1 (Rep.keep0 (Rep.dropO (O := [.cells b3169 [(.slice (some ⟨b3161, 0, none⟩) 1 1)] 22, .cells b3170 [.int .u64 77] 37, .cells b3136 [.int .i64 4] 27, .cells b3116 [v3114] 22, .cells b31 [.int .u64 (y26.2.1.fState.toNat : Int)] 37, .cells b18 [.int .u64 77] 37, .cells b13 [.int .i64 y1.fN, v7] 40]) hr3186) hw9) y3178.2.1 y3178.2.2 ([2] : List Int) (Rep.keep0 (Rep.dropO (O := [.cells b3169 [(.slice (some ⟨b3161, 0, none⟩) 1 1)] 22, .cells b3170 [.int .u64 77] 37, .cells b3136 [.int .i64 4] 27, .cells b3116 [v3114] 22, .cells b31 [.int .u64 (y26.2.1.fState.toNat : Int)] 37, .cells b18 [.int .u64 77] 37, .cells b13 [.int .i64 y1.fN, v7] 40]) hm3188) hw9) (fun j9 v9 h9 => hw9.cell0 ((hS3183.memA .hd) j9 v9 h9)) (⟨(77 : UInt64)⟩ : TChance) (fun j9 v9 h9 => hw9.cell0 ((hS3183.memA (.tl .hd)) j9 v9 h9)) hy3187) rfl ?_
       refine RD.vP 34 34359738367 kt35 rfl kp36 .plain (fun _ => FV.pick_t rfl rfl) rfl ?_
       refine RD.vP 35 68719476735 kt35 rfl kp36 .plain (fun _ => FV.move rfl) rfl ?_
       refine RD.ifb (s := 49) rfl h (fun c3189 h => ?_) (fun c3189 h => ?_)
       ·skip
        refine RD.val (i := 37) (m' := 206158430207) (W := 633825300114114700198595788800) (takeC_ok kt35 (by kernel_rfl)) rfl kp36 (.yes rfl rfl) (FV.loadN (cs := [.int .i64 y1.fN, v7]) (by kernel_rfl) rfl (hS3183.memA (.tl (.tl (.tl (.tl (.tl (.tl .hd)))))))) rfl ?_
        refine RD.val (i := 38) (m' := 481036337151) (W := 633825300114114700198595788800) (takeC_ok kt35 (by kernel_rfl)) rfl kp36 (.yes rfl rfl) (FV.loadN (cs := [.int .u64 77]) (by kernel_rfl) rfl (hS3183.memA (.tl (.tl (.tl (.tl (.tl .hd))))))) rfl ?_
        refine RD.one (i := 36) (readyD_ok kt35 (by kernel_rfl)) (RO.call (m' := 549755813887) (fst := []) (cap := []) (stepC_ok kt35 (by kernel_rfl)) rfl (.yes rfl rfl) body21 rfl (evs_cons rfl evs_nil) (fun w9 hw9 => Calls.gives (wardmotelaw31_stops_c n _ w9 (hS3183.hL hL hw9) 4) fun (w8 : World) (u8 : Value) ⟨b0_, hu_, s_⟩ => (⟨b0_, hu_, s_.from hw9⟩ : ∃ b3191 : Nat, u8 = Value.func (.func 39) #[] #[.pointer (some ⟨b3191, 0, none⟩)] ∧ St w3180 w8 [.cells b3191 [.int .i64 4] 27])) rfl (fun w3192 vu3193 hag3194 ⟨b3191, hu3196, s3195⟩ => ?_))
        subst hu3196
        have hS3197 : St w w3192 [.cells b3191 [.int .i64 4] 27, .cells b3169 [(.slice (some ⟨b3161, 0, none⟩) 1 1)] 22, .cells b3170 [.int .u64 77] 37, .cells b3136 [.int .i64 4] 27, .cells b3116 [v3114] 22, .cells b31 [.int .u64 (y26.2.1.fState.toNat : Int)] 37, .cells b18 [.int .u64 77] 37, .cells b13 [.int .i64 y1.fN, v7] 40] := St.merge hS3183 s3195
        have hT3198 : Tr w3180 [.cells b3169 [(.slice (some ⟨b3161, 0, none⟩) 1 1)] 22, .cells b3170 [.int .u64 77] 37, .cells b3136 [.int .i64 4] 27, .cells b3116 [v3114] 22, .cells b31 [.int .u64 (y26.2.1.fState.toNat : Int)] 37, .cells b18 [.int .u64 77] 37, .cells b13 [.int .i64 y1.fN, v7] 40] w3192 [.cells b3191 [.int .i64 4] 27, .cells b3169 [(.slice (some ⟨b3161, 0, none⟩) 1 1)] 22, .cells b3170 [.int .u64 77] 37, .cells b3136 [.int .i64 4] 27, .cells b3116 [v3114] 22, .cells b31 [.int .u64 (y26.2.1.fState.toNat : Int)] 37, .cells b18 [.int .u64 77] 37, .cells b13 [.int .i64 y1.fN, v7] 40] := Tr.merge hS3183 s3195
        obtain ⟨y3199, hy3199, h⟩ := bind_in h
        have hm3200 := Rep.mv hr8 (Tr.trans hT12 (Tr.trans hT17 (Tr.trans hT22 (Tr.trans hT25 (Tr.trans hT30 (Tr.trans hT34 (Tr.trans hT1569 (Tr.trans hT1574 (Tr.trans hT1580 (Tr.trans hT3118 (Tr.trans hT3123 (Tr.trans hT3129 (Tr.trans hT3143 (Tr.trans hT3152 (Tr.trans hT3160 (Tr.trans hT3165 (Tr.trans hT3177 (Tr.trans hT3184 hT3198))))))))))))))))))
        refine RD.one (i := 39) (readyD_ok kt35 (by kernel_rfl)) (RO.call (m' := 1099511627775) (fst := []) (cap := []) (stepC_ok kt35 (by kernel_rfl)) rfl (.yes rfl rfl) body15 rfl (evs_cons rfl (evs_cons rfl (evs_cons rfl (evs_cons rfl (evs_cons rfl evs_nil))))) (fun w9 hw9 => wilson_Walk_c n _ w9 (hS3197.hL hL hw9) y1 (Rep.keep0 hm3200 hw9) (5 : UInt64) 2 (1 : UInt64) (⟨(77 : UInt64)⟩ : TChance) (hG0.keep (hS3197.ag.trans hw9)) hy3199) rfl (fun w3201 vu3202 hag3203 ⟨v3206, hu_, hr3207⟩ => ?_))
        subst hu_
        have hS3204 := hS3197.agree hag3203
        have hT3205 := Tr.agree (O := [.cells b3191 [.int .i64 4] 27, .cells b3169 [(.slice (some ⟨b3161, 0, none⟩) 1 1)] 22, .cells b3170 [.int .u64 77] 37, .cells b3136 [.int .i64 4] 27, .cells b3116 [v3114] 22, .cells b31 [.int .u64 (y26.2.1.fState.toNat : Int)] 37, .cells b18 [.int .u64 77] 37, .cells b13 [.int .i64 y1.fN, v7] 40]) hag3203
        refine RD.vP 40 2199023255551 kt35 rfl kp36 (.yes rfl rfl) (fun _ => FV.extract rfl rfl) rfl ?_
        refine RD.vP 41 4398046511103 kt35 rfl kp36 (.yes rfl rfl) (fun _ => FV.extract rfl rfl) rfl ?_
        refine RD.vP 42 8796093022207 kt35 rfl kp36 (.yes rfl rfl) (fun _ => FV.extract rfl rfl) rfl ?_
        obtain ⟨y3208, hy3208, h⟩ := bind_in h
        refine RD.callq (i := 43) (m' := 17592186044415) (W := 633825300114114683156165558272) (takeC_ok kt35 (by kernel_rfl)) rfl kp36 (v := .bool y3208) (fst := []) (cap := [.pointer (some ⟨b3191, 0, none⟩)]) (.yes rfl rfl) body39 rfl (evs_cons rfl (evs_cons rfl (evs_cons rfl evs_nil))) (fun w9 hw9 => wardmotelaw31_stops_1_c n _ w9 (hS3204.hL0 hL hw9) y3199.1 (Rep.keep0 (Rep.dropO (O := [.cells b3191 [.int .i64 4] 27, .cells b3169 [(.slice (some ⟨b3161, 0, none⟩) 1 1)] 22, .cells b3170 [.int .u64 77] 37, .cells b3136 [.int .i64 4] 27, .cells b3116 [v3114] 22, .cells b31 [.int .u64 (y26.2.1.fState.toNat : Int)] 37, .cells b18 [.int .u64 77] 37, .cells b13 [.int .i64 y1.fN, v7] 40]) hr3207) hw9) y3199.2.1 y3199.2.2 4 (fun j9 v9 h9 => hw9.cell0 ((hS3204.memA .hd) j9 v9 h9)) hy3208) rfl ?_
        refine RD.vP 44 35184372088831 kt35 rfl kp36 .plain (fun _ => FV.pick_t rfl rfl) rfl ?_
        refine RD.vP 45 70368744177663 kt35 rfl kp36 .plain (fun _ => FV.move rfl) rfl ?_
        refine RD.ifb (s := 59) rfl h (fun c3209 h => ?_) (fun c3209 h => ?_)
        ·skip
         refine RD.val (i := 47) (m' := 211106232532991) (W := 633825300114114137798398181376) (takeC_ok kt35 (by kernel_rfl)) rfl kp36 (.yes rfl rfl) (FV.loadN (cs := [.int .i64 y1.fN, v7]) (by kernel_rfl) rfl (hS3204.memA (.tl (.tl (.tl (.tl (.tl (.tl (.tl .hd))))))))) rfl ?_
         refine RD.val (i := 48) (m' := 492581209243647) (W := 633825300114114137798398181376) (takeC_ok kt35 (by kernel_rfl)) rfl kp36 (.yes rfl rfl) (FV.loadN (cs := [.int .u64 77]) (by kernel_rfl) rfl (hS3204.memA (.tl (.tl (.tl (.tl (.tl (.tl .hd)))))))) rfl ?_
         refine RD.one (i := 46) (readyD_ok kt35 (by kernel_rfl)) (RO.call (m' := 562949953421311) (fst := []) (cap := []) (stepC_ok kt35 (by kernel_rfl)) rfl (.yes rfl rfl) body21 rfl (evs_cons rfl evs_nil) (fun w9 hw9 => Calls.gives (wardmotelaw31_stops_c n _ w9 (hS3204.hL hL hw9) 2) fun (w8 : World) (u8 : Value) ⟨b0_, hu_, s_⟩ => (⟨b0_, hu_, s_.from hw9⟩ : ∃ b3211 : Nat, u8 = Value.func (.func 39) #[] #[.pointer (some ⟨b3211, 0, none⟩)] ∧ St w3201 w8 [.cells b3211 [.int .i64 2] 27])) rfl (fun w3212 vu3213 hag3214 ⟨b3211, hu3216, s3215⟩ => ?_))
         subst hu3216
         have hS3217 : St w w3212 [.cells b3211 [.int .i64 2] 27, .cells b3191 [.int .i64 4] 27, .cells b3169 [(.slice (some ⟨b3161, 0, none⟩) 1 1)] 22, .cells b3170 [.int .u64 77] 37, .cells b3136 [.int .i64 4] 27, .cells b3116 [v3114] 22, .cells b31 [.int .u64 (y26.2.1.fState.toNat : Int)] 37, .cells b18 [.int .u64 77] 37, .cells b13 [.int .i64 y1.fN, v7] 40] := St.merge hS3204 s3215
         have hT3218 : Tr w3201 [.cells b3191 [.int .i64 4] 27, .cells b3169 [(.slice (some ⟨b3161, 0, none⟩) 1 1)] 22, .cells b3170 [.int .u64 77] 37, .cells b3136 [.int .i64 4] 27, .cells b3116 [v3114] 22, .cells b31 [.int .u64 (y26.2.1.fState.toNat : Int)] 37, .cells b18 [.int .u64 77] 37, .cells b13 [.int .i64 y1.fN, v7] 40] w3212 [.cells b3211 [.int .i64 2] 27, .cells b3191 [.int .i64 4] 27, .cells b3169 [(.slice (some ⟨b3161, 0, none⟩) 1 1)] 22, .cells b3170 [.int .u64 77] 37, .cells b3136 [.int .i64 4] 27, .cells b3116 [v3114] 22, .cells b31 [.int .u64 (y26.2.1.fState.toNat : Int)] 37, .cells b18 [.int .u64 77] 37, .cells b13 [.int .i64 y1.fN, v7] 40] := Tr.merge hS3204 s3215
         obtain ⟨y3219, hy3219, h⟩ := bind_in h
         have hm3220 := Rep.mv hr8 (Tr.trans hT12 (Tr.trans hT17 (Tr.trans hT22 (Tr.trans hT25 (Tr.trans hT30 (Tr.trans hT34 (Tr.trans hT1569 (Tr.trans hT1574 (Tr.trans hT1580 (Tr.trans hT3118 (Tr.trans hT3123 (Tr.trans hT3129 (Tr.trans hT3143 (Tr.trans hT3152 (Tr.trans hT3160 (Tr.trans hT3165 (Tr.trans hT3177 (Tr.trans hT3184 (Tr.trans hT3198 (Tr.trans hT3205 hT3218))))))))))))))))))))
         refine RD.one (i := 49) (readyD_ok kt35 (by kernel_rfl)) (RO.call (m' := 1125899906842623) (fst := []) (cap := []) (stepC_ok kt35 (by kernel_rfl)) rfl (.yes rfl rfl) body15 rfl (evs_cons rfl (evs_cons rfl (evs_cons rfl (evs_cons rfl (evs_cons rfl evs_nil))))) (fun w9 hw9 => wilson_Walk_c n _ w9 (hS3217.hL hL hw9) y1 (Rep.keep0 hm3220 hw9) (3 : UInt64) 2 (1 : UInt64) (⟨(77 : UInt64)⟩ : TChance) (hG0.keep (hS3217.ag.trans hw9)) hy3219) rfl (fun w3221 vu3222 hag3223 ⟨v3226, hu_, hr3227⟩ => ?_))
         subst hu_
         have hS3224 := hS3217.agree hag3223
         have hT3225 := Tr.agree (O := [.cells b3211 [.int .i64 2] 27, .cells b3191 [.int .i64 4] 27, .cells b3169 [(.slice (some ⟨b3161, 0, none⟩) 1 1)] 22, .cells b3170 [.int .u64 77] 37, .cells b3136 [.int .i64 4] 27, .cells b3116 [v3114] 22, .cells b31 [.int .u64 (y26.2.1.fState.toNat : Int)] 37, .cells b18 [.int .u64 77] 37, .cells b13 [.int .i64 y1.fN, v7] 40]) hag3223
         refine RD.vP 50 2251799813685247 kt35 rfl kp36 (.yes rfl rfl) (fun _ => FV.extract rfl rfl) rfl ?_
         refine RD.vP 51 4503599627370495 kt35 rfl kp36 (.yes rfl rfl) (fun _ => FV.extract rfl rfl) rfl ?_
         refine RD.vP 52 9007199254740991 kt35 rfl kp36 (.yes rfl rfl) (fun _ => FV.extract rfl rfl) rfl ?_
         obtain ⟨y3228, hy3228, h⟩ := bind_in h
         refine RD.callq (i := 53) (m' := 18014398509481983) (W := 633825300114096686349842120704) (takeC_ok kt35 (by kernel_rfl)) rfl kp36 (v := .bool y3228) (fst := []) (cap := [.pointer (some ⟨b3211, 0, none⟩)]) (.yes rfl rfl) body39 rfl (evs_cons rfl (evs_cons rfl (evs_cons rfl evs_nil))) (fun w9 hw9 => wardmotelaw31_stops_1_c n _ w9 (hS3224.hL0 hL hw9) y3219.1 (Rep.keep0 (Rep.dropO (O := [.cells b3211 [.int .i64 2] 27, .cells b3191 [.int .i64 4] 27, .cells b3169 [(.slice (some ⟨b3161, 0, none⟩) 1 1)] 22, .cells b3170 [.int .u64 77] 37, .cells b3136 [.int .i64 4] 27, .cells b3116 [v3114] 22, .cells b31 [.int .u64 (y26.2.1.fState.toNat : Int)] 37, .cells b18 [.int .u64 77] 37, .cells b13 [.int .i64 y1.fN, v7] 40]) hr3227) hw9) y3219.2.1 y3219.2.2 2 (fun j9 v9 h9 => hw9.cell0 ((hS3224.memA .hd) j9 v9 h9)) hy3228) rfl ?_
         refine RD.vP 54 36028797018963967 kt35 rfl kp36 .plain (fun _ => FV.pick_t rfl rfl) rfl ?_
         refine RD.vP 55 72057594037927935 kt35 rfl kp36 .plain (fun _ => FV.move rfl) rfl ?_
         refine RD.ifb (s := 69) rfl h (fun c3229 h => ?_) (fun c3229 h => ?_)
         ·skip
          refine RD.val (i := 56) (m' := 144115188075855871) (W := 633825300112097088115289620480) (takeC_ok kt35 (by kernel_rfl)) rfl kp36 (.yes rfl rfl) (FV.loadN (cs := [.int .u64 (y26.2.1.fState.toNat : Int)]) (by kernel_rfl) rfl (hS3224.memA (.tl (.tl (.tl (.tl (.tl (.tl .hd)))))))) rfl ?_
          refine RD.val (i := 59) (m' := 720575940379279359) (W := 633825300111808857739137908736) (takeC_ok kt35 (by kernel_rfl)) rfl kp36 (.yes rfl rfl) (FV.loadN (cs := [.int .i64 y1.fN, v7]) (by kernel_rfl) rfl (hS3224.memA (.tl (.tl (.tl (.tl (.tl (.tl (.tl (.tl .hd)))))))))) rfl ?_
          refine RD.val (i := 60) (m' := 1873497444986126335) (W := 633825300111808857739137908736) (takeC_ok kt35 (by kernel_rfl)) rfl kp36 (.yes rfl rfl) (FV.loadN (cs := [.int .u64 77]) (by kernel_rfl) rfl (hS3224.memA (.tl (.tl (.tl (.tl (.tl (.tl (.tl .hd))))))))) rfl ?_
          refine RD.one (i := 57) (readyD_ok kt35 (by kernel_rfl)) (RO.new (m' := 2017612633061982207) (stepC_ok kt35 (by kernel_rfl)) rfl (.yes rfl rfl) rfl (Does.build (α := Int) (xs := ([1, 0] : List Int)) (vs := [.int .i64 1, .int .i64 0]) (ds' := [.int .i64 1, .int .i64 0]) rfl hS3224 el22 rfl (evs_cons rfl (evs_cons rfl evs_nil)) (by kernel_rfl) rfl) (fun w3231 b3234 hS3232 hT3233 => ?_))
          have hc3235 : Cells w3231 (bl [.row w.heap.size 3 (Rep.size Int) (.slice (some ⟨b3234, 0, none⟩) 2 2) (([1, 0] : List Int).length) [.int .i64 1, .int .i64 0], .cells b3211 [.int .i64 2] 27, .cells b3191 [.int .i64 4] 27, .cells b3169 [(.slice (some ⟨b3161, 0, none⟩) 1 1)] 22, .cells b3170 [.int .u64 77] 37, .cells b3136 [.int .i64 4] 27, .cells b3116 [v3114] 22, .cells b31 [.int .u64 (y26.2.1.fState.toNat : Int)] 37, .cells b18 [.int .u64 77] 37, .cells b13 [.int .i64 y1.fN, v7] 40] ++ L) [.int .i64 1, .int .i64 0] (([1, 0] : List Int) : List Int) := Cells.cons (cs := [.int .i64 1]) (ds := [.int .i64 0]) rfl (Cells.cons (cs := [.int .i64 0]) (ds := []) rfl (Cells.nil _ _))
          have hr3236 := St.freeze (α := Int) hS3232 .hd hc3235 hL
          have hS3237 := hS3232.del (.hd : Out _ _ _).del
          have hT3238 := Tr.del (w := w3231) (.hd : Out [.row w.heap.size 3 (Rep.size Int) (.slice (some ⟨b3234, 0, none⟩) 2 2) (([1, 0] : List Int).length) [.int .i64 1, .int .i64 0], .cells b3211 [.int .i64 2] 27, .cells b3191 [.int .i64 4] 27, .cells b3169 [(.slice (some ⟨b3161, 0, none⟩) 1 1)] 22, .cells b3170 [.int .u64 77] 37, .cells b3136 [.int .i64 4] 27, .cells b3116 [v3114] 22, .cells b31 [.int .u64 (y26.2.1.fState.toNat : Int)] 37, .cells b18 [.int .u64 77] 37, .cells b13 [.int .i64 y1.fN, v7] 40] _ _).del
          have hr3239 : Rep.R w3231 (bl [.cells b3211 [.int .i64 2] 27, .cells b3191 [.int .i64 4] 27, .cells b3169 [(.slice (some ⟨b3161, 0, none⟩) 1 1)] 22, .cells b3170 [.int .u64 77] 37, .cells b3136 [.int .i64 4] 27, .cells b3116 [v3114] 22, .cells b31 [.int .u64 (y26.2.1.fState.toNat : Int)] 37, .cells b18 [.int .u64 77] 37, .cells b13 [.int .i64 y1.fN, v7] 40] ++ L) [(.slice (some ⟨b3234, 0, none⟩) 2 2)] ([1, 0] : List Int) := hr3236
          refine RD.one (i := 58) (readyD_ok kt35 (by kernel_rfl)) (RO.call (m' := 2305843009213693951) (fst := []) (cap := []) (stepC_ok kt35 (by kernel_rfl)) rfl (.yes rfl rfl) body22 rfl (evs_cons rfl (evs_cons rfl evs_nil)) (fun w9 hw9 => Calls.gives (wardmotelaw31_goes_c n _ w9 (hS3237.hL hL hw9) y26.2.1 ([1, 0] : List Int) (Rep.keep0 hr3239 hw9)) fun (w8 : World) (u8 : Value) ⟨b0_, b1_, hu_, s_⟩ => (⟨b0_, b1_, hu_, s_.from hw9⟩ : ∃ b3242 b3243 : Nat, u8 = Value.func (.func 40) #[] #[.pointer (some ⟨b3242, 0, none⟩), .pointer (some ⟨b3243, 0, none⟩)] ∧ St w3231 w8 [.cells b3242 [(.slice (some ⟨b3234, 0, none⟩) 2 2)] 22, .cells b3243 [.int .u64 (y26.2.1.fState.toNat : Int)] 37])) rfl (fun w3244 vu3245 hag3246 ⟨b3242, b3243, hu3248, s3247⟩ => ?_))
          subst hu3248
          have hS3249 : St w w3244 [.cells b3242 [(.slice (some ⟨b3234, 0, none⟩) 2 2)] 22, .cells b3243 [.int .u64 (y26.2.1.fState.toNat : Int)] 37, .cells b3211 [.int .i64 2] 27, .cells b3191 [.int .i64 4] 27, .cells b3169 [(.slice (some ⟨b3161, 0, none⟩) 1 1)] 22, .cells b3170 [.int .u64 77] 37, .cells b3136 [.int .i64 4] 27, .cells b3116 [v3114] 22, .cells b31 [.int .u64 (y26.2.1.fState.toNat : Int)] 37, .cells b18 [.int .u64 77] 37, .cells b13 [.int .i64 y1.fN, v7] 40] := St.merge hS3237 s3247
          have hT3250 : Tr w3231 [.cells b3211 [.int .i64 2] 27, .cells b3191 [.int .i64 4] 27, .cells b3169 [(.slice (some ⟨b3161, 0, none⟩) 1 1)] 22, .cells b3170 [.int .u64 77] 37, .cells b3136 [.int .i64 4] 27, .cells b3116 [v3114] 22, .cells b31 [.int .u64 (y26.2.1.fState.toNat : Int)] 37, .cells b18 [.int .u64 77] 37, .cells b13 [.int .i64 y1.fN, v7] 40] w3244 [.cells b3242 [(.slice (some ⟨b3234, 0, none⟩) 2 2)] 22, .cells b3243 [.int .u64 (y26.2.1.fState.toNat : Int)] 37, .cells b3211 [.int .i64 2] 27, .cells b3191 [.int .i64 4] 27, .cells b3169 [(.slice (some ⟨b3161, 0, none⟩) 1 1)] 22, .cells b3170 [.int .u64 77] 37, .cells b3136 [.int .i64 4] 27, .cells b3116 [v3114] 22, .cells b31 [.int .u64 (y26.2.1.fState.toNat : Int)] 37, .cells b18 [.int .u64 77] 37, .cells b13 [.int .i64 y1.fN, v7] 40] := Tr.merge hS3237 s3247
          obtain ⟨y3251, hy3251, h⟩ := bind_in h
          have hm3252 := Rep.mv hr8 (Tr.trans hT12 (Tr.trans hT17 (Tr.trans hT22 (Tr.trans hT25 (Tr.trans hT30 (Tr.trans hT34 (Tr.trans hT1569 (Tr.trans hT1574 (Tr.trans hT1580 (Tr.trans hT3118 (Tr.trans hT3123 (Tr.trans hT3129 (Tr.trans hT3143 (Tr.trans hT3152 (Tr.trans hT3160 (Tr.trans hT3165 (Tr.trans hT3177 (Tr.trans hT3184 (Tr.trans hT3198 (Tr.trans hT3205 (Tr.trans hT3218 (Tr.trans hT3225 (Tr.trans hT3233 (Tr.trans hT3238 hT3250))))))))))))))))))))))))
          refine RD.one (i := 61) (readyD_ok kt35 (by kernel_rfl)) (RO.call (m' := 4611686018427387903) (fst := []) (cap := []) (stepC_ok kt35 (by kernel_rfl)) rfl (.yes rfl rfl) body15 rfl (evs_cons rfl (evs_cons rfl (evs_cons rfl (evs_cons rfl (evs_cons rfl evs_nil))))) (fun w9 hw9 => wilson_Walk_c n _ w9 (hS3249.hL hL hw9) y1 (Rep.keep0 hm3252 hw9) (3 : UInt64) 1 (1 : UInt64) (⟨(77 : UInt64)⟩ : TChance) (hG0.keep (hS3249.ag.trans hw9)) hy3251) rfl (fun w3253 vu3254 hag3255 ⟨v3258, hu_, hr3259⟩ => ?_))
          subst hu_
          have hS3256 := hS3249.agree hag3255
          have hT3257 := Tr.agree (O := [.cells b3242 [(.slice (some ⟨b3234, 0, none⟩) 2 2)] 22, .cells b3243 [.int .u64 (y26.2.1.fState.toNat : Int)] 37, .cells b3211 [.int .i64 2] 27, .cells b3191 [.int .i64 4] 27, .cells b3169 [(.slice (some ⟨b3161, 0, none⟩) 1 1)] 22, .cells b3170 [.int .u64 77] 37, .cells b3136 [.int .i64 4] 27, .cells b3116 [v3114] 22, .cells b31 [.int .u64 (y26.2.1.fState.toNat : Int)] 37, .cells b18 [.int .u64 77] 37, .cells b13 [.int .i64 y1.fN, v7] 40]) hag3255
          refine RD.vP 62 9223372036854775807 kt35 rfl kp36 (.yes rfl rfl) (fun _ => FV.extract rfl rfl) rfl ?_
          refine RD.vP 63 18446744073709551615 kt35 rfl kp36 (.yes rfl rfl) (fun _ => FV.extract rfl rfl) rfl ?_
          refine RD.vP 64 36893488147419103231 kt35 rfl kp36 (.yes rfl rfl) (fun _ => FV.extract rfl rfl) rfl ?_
          obtain ⟨y3260, hy3260, h⟩ := bind_in h
          have hm3261 := Rep.mv hr3239 (Tr.trans hT3250 hT3257)
          refine RD.callq (i := 65) (m' := 73786976294838206463) (W := 633825300040327724453513396224) (takeC_ok kt35 (by kernel_rfl)) rfl kp36 (v := .bool y3260) (fst := []) (cap := [.pointer (some ⟨b3242, 0, none⟩), .pointer (some ⟨b3243, 0, none⟩)]) (.yes rfl rfl) body40 rfl (evs_cons rfl (evs_cons rfl (evs_cons rfl evs_nil))) (fun w9 hw9 => wardmotelaw31_goes_1_c n _ w9 (hS3256.hL0 hL hw9) y3251.1 (Rep.keep0 (Rep.dropO (O := [.cells b3242 [(.slice (some ⟨b3234, 0, none⟩) 2 2)] 22, .cells b3243 [.int .u64 (y26.2.1.fState.toNat : Int)] 37, .cells b3211 [.int .i64 2] 27, .cells b3191 [.int .i64 4] 27, .cells b3169 [(.slice (some ⟨b3161, 0, none⟩) 1 1)] 22, .cells b3170 [.int .u64 77] 37, .cells b3136 [.int .i64 4] 27, .cells b3116 [v3114] 22, .cells b31 [.int .u64 (y26.2.1.fState.toNat : Int)] 37, .cells b18 [.int .u64 77] 37, .cells b13 [.int .i64 y1.fN, v7] 40]) hr3259) hw9) y3251.2.1 y3251.2.2 ([1, 0] : List Int) (Rep.keep0 (Rep.dropO (O := [.cells b3242 [(.slice (some ⟨b3234, 0, none⟩) 2 2)] 22, .cells b3243 [.int .u64 (y26.2.1.fState.toNat : Int)] 37, .cells b3211 [.int .i64 2] 27, .cells b3191 [.int .i64 4] 27, .cells b3169 [(.slice (some ⟨b3161, 0, none⟩) 1 1)] 22, .cells b3170 [.int .u64 77] 37, .cells b3136 [.int .i64 4] 27, .cells b3116 [v3114] 22, .cells b31 [.int .u64 (y26.2.1.fState.toNat : Int)] 37, .cells b18 [.int .u64 77] 37, .cells b13 [.int .i64 y1.fN, v7] 40]) hm3261) hw9) (fun j9 v9 h9 => hw9.cell0 ((hS3256.memA .hd) j9 v9 h9)) y26.2.1 (fun j9 v9 h9 => hw9.cell0 ((hS3256.memA (.tl .hd)) j9 v9 h9)) hy3260) rfl ?_
          refine RD.vP 66 147573952589676412927 kt35 rfl kp36 .plain (fun _ => FV.pick_t rfl rfl) rfl ?_
          refine RD.vP 67 295147905179352825855 kt35 rfl kp36 .plain (fun _ => FV.move rfl) rfl ?_
          refine RD.ifb (s := 81) rfl h (fun c3262 h => ?_) (fun c3262 h => ?_)
          ·skip
           refine RD.val (i := 68) (m' := 590295810358705651711) (W := 633825295982044028237412040704) (takeC_ok kt35 (by kernel_rfl)) rfl kp36 (.yes rfl rfl) (FV.loadN (cs := [.int .u64 77]) (by kernel_rfl) rfl (hS3256.memA (.tl (.tl (.tl (.tl (.tl (.tl (.tl (.tl (.tl .hd))))))))))) rfl ?_
           refine RD.val (i := 70) (m' := 1770887431076116955135) (W := 633825295391748217878706388992) (takeC_ok kt35 (by kernel_rfl)) rfl kp36 (.yes rfl rfl) (FV.loadN (cs := [.int .i64 y1.fN, v7]) (by kernel_rfl) rfl (hS3256.memA (.tl (.tl (.tl (.tl (.tl (.tl (.tl (.tl (.tl (.tl .hd)))))))))))) rfl ?_
           refine RD.val (i := 71) (m' := 4132070672510939561983) (W := 633825295391748217878706388992) (takeC_ok kt35 (by kernel_rfl)) rfl kp36 (.yes rfl rfl) (FV.loadN (cs := [.int .u64 77]) (by kernel_rfl) rfl (hS3256.memA (.tl (.tl (.tl (.tl (.tl (.tl (.tl (.tl (.tl .hd))))))))))) rfl ?_
           have hr3263 : Rep.R w3253 (bl [.cells b3242 [(.slice (some ⟨b3234, 0, none⟩) 2 2)] 22, .cells b3243 [.int .u64 (y26.2.1.fState.toNat : Int)] 37, .cells b3211 [.int .i64 2] 27, .cells b3191 [.int .i64 4] 27, .cells b3169 [(.slice (some ⟨b3161, 0, none⟩) 1 1)] 22, .cells b3170 [.int .u64 77] 37, .cells b3136 [.int .i64 4] 27, .cells b3116 [v3114] 22, .cells b31 [.int .u64 (y26.2.1.fState.toNat : Int)] 37, .cells b18 [.int .u64 77] 37, .cells b13 [.int .i64 y1.fN, v7] 40] ++ L) [.slice none 0 0] ([] : List Int) := Rep.nilSlice _ _
           have hr3264 : Rep.R w3253 (bl [.cells b3242 [(.slice (some ⟨b3234, 0, none⟩) 2 2)] 22, .cells b3243 [.int .u64 (y26.2.1.fState.toNat : Int)] 37, .cells b3211 [.int .i64 2] 27, .cells b3191 [.int .i64 4] 27, .cells b3169 [(.slice (some ⟨b3161, 0, none⟩) 1 1)] 22, .cells b3170 [.int .u64 77] 37, .cells b3136 [.int .i64 4] 27, .cells b3116 [v3114] 22, .cells b31 [.int .u64 (y26.2.1.fState.toNat : Int)] 37, .cells b18 [.int .u64 77] 37, .cells b13 [.int .i64 y1.fN, v7] 40] ++ L) [.slice none 0 0] ([] : List Int) := Rep.nilSlice _ _
           have hr3265 : Rep.R w3253 (bl [.cells b3242 [(.slice (some ⟨b3234, 0, none⟩) 2 2)] 22, .cells b3243 [.int .u64 (y26.2.1.fState.toNat : Int)] 37, .cells b3211 [.int .i64 2] 27, .cells b3191 [.int .i64 4] 27, .cells b3169 [(.slice (some ⟨b3161, 0, none⟩) 1 1)] 22, .cells b3170 [.int .u64 77] 37, .cells b3136 [.int .i64 4] 27, .cells b3116 [v3114] 22, .cells b31 [.int .u64 (y26.2.1.fState.toNat : Int)] 37, .cells b18 [.int .u64 77] 37, .cells b13 [.int .i64 y1.fN, v7] 40] ++ L) [.slice none 0 0] ([] : List Int) := Rep.nilSlice _ _
           refine RD.one (i := 69) (readyD_ok kt35 (by kernel_rfl)) (RO.call (m' := 4722366482869645213695) (fst := []) (cap := []) (stepC_ok kt35 (by kernel_rfl)) rfl (.yes rfl rfl) body22 rfl (evs_cons rfl (evs_cons rfl evs_nil)) (fun w9 hw9 => Calls.gives (wardmotelaw31_goes_c n _ w9 (hS3256.hL hL hw9) (⟨(77 : UInt64)⟩ : TChance) ([] : List Int) (Rep.keep0 hr3265 hw9)) fun (w8 : World) (u8 : Value) ⟨b0_, b1_, hu_, s_⟩ => (⟨b0_, b1_, hu_, s_.from hw9⟩ : ∃ b3268 b3269 : Nat, u8 = Value.func (.func 40) #[] #[.pointer (some ⟨b3268, 0, none⟩), .pointer (some ⟨b3269, 0, none⟩)] ∧ St w3253 w8 [.cells b3268 [.slice none 0 0] 22, .cells b3269 [.int .u64 77] 37])) rfl (fun w3270 vu3271 hag3272 ⟨b3268, b3269, hu3274, s3273⟩ => ?_))
           subst hu3274
           have hS3275 : St w w3270 [.cells b3268 [.slice none 0 0] 22, .cells b3269 [.int .u64 77] 37, .cells b3242 [(.slice (some ⟨b3234, 0, none⟩) 2 2)] 22, .cells b3243 [.int .u64 (y26.2.1.fState.toNat : Int)] 37, .cells b3211 [.int .i64 2] 27, .cells b3191 [.int .i64 4] 27, .cells b3169 [(.slice (some ⟨b3161, 0, none⟩) 1 1)] 22, .cells b3170 [.int .u64 77] 37, .cells b3136 [.int .i64 4] 27, .cells b3116 [v3114] 22, .cells b31 [.int .u64 (y26.2.1.fState.toNat : Int)] 37, .cells b18 [.int .u64 77] 37, .cells b13 [.int .i64 y1.fN, v7] 40] := St.merge hS3256 s3273
           have hT3276 : Tr w3253 [.cells b3242 [(.slice (some ⟨b3234, 0, none⟩) 2 2)] 22, .cells b3243 [.int .u64 (y26.2.1.fState.toNat : Int)] 37, .cells b3211 [.int .i64 2] 27, .cells b3191 [.int .i64 4] 27, .cells b3169 [(.slice (some ⟨b3161, 0, none⟩) 1 1)] 22, .cells b3170 [.int .u64 77] 37, .cells b3136 [.int .i64 4] 27, .cells b3116 [v3114] 22, .cells b31 [.int .u64 (y26.2.1.fState.toNat : Int)] 37, .cells b18 [.int .u64 77] 37, .cells b13 [.int .i64 y1.fN, v7] 40] w3270 [.cells b3268 [.slice none 0 0] 22, .cells b3269 [.int .u64 77] 37, .cells b3242 [(.slice (some ⟨b3234, 0, none⟩) 2 2)] 22, .cells b3243 [.int .u64 (y26.2.1.fState.toNat : Int)] 37, .cells b3211 [.int .i64 2] 27, .cells b3191 [.int .i64 4] 27, .cells b3169 [(.slice (some ⟨b3161, 0, none⟩) 1 1)] 22, .cells b3170 [.int .u64 77] 37, .cells b3136 [.int .i64 4] 27, .cells b3116 [v3114] 22, .cells b31 [.int .u64 (y26.2.1.fState.toNat : Int)] 37, .cells b18 [.int .u64 77] 37, .cells b13 [.int .i64 y1.fN, v7] 40] := Tr.merge hS3256 s3273
           obtain ⟨y3277, hy3277, h⟩ := bind_in h
           have hm3278 := Rep.mv hr8 (Tr.trans hT12 (Tr.trans hT17 (Tr.trans hT22 (Tr.trans hT25 (Tr.trans hT30 (Tr.trans hT34 (Tr.trans hT1569 (Tr.trans hT1574 (Tr.trans hT1580 (Tr.trans hT3118 (Tr.trans hT3123 (Tr.trans hT3129 (Tr.trans hT3143 (Tr.trans hT3152 (Tr.trans hT3160 (Tr.trans hT3165 (Tr.trans hT3177 (Tr.trans hT3184 (Tr.trans hT3198 (Tr.trans hT3205 (Tr.trans hT3218 (Tr.trans hT3225 (Tr.trans hT3233 (Tr.trans hT3238 (Tr.trans hT3250 (Tr.trans hT3257 hT3276))))))))))))))))))))))))))
           refine RD.one (i := 72) (readyD_ok kt35 (by kernel_rfl)) (RO.call (m' := 9444732965739290427391) (fst := []) (cap := []) (stepC_ok kt35 (by kernel_rfl)) rfl (.yes rfl rfl) body14 rfl (evs_cons rfl (evs_cons rfl (evs_cons rfl evs_nil))) (fun w9 hw9 => wilson_Draw_c n _ w9 (hS3275.hL hL hw9) y1 (Rep.keep0 hm3278 hw9) (4 : UInt64) (⟨(77 : UInt64)⟩ : TChance) (hG0.keep (hS3275.ag.trans hw9)) hy3277) rfl (fun w3279 vu3280 hag3281 ⟨v3284, hu_, hr3285⟩ => ?_))
           subst hu_
           have hS3282 := hS3275.agree hag3281
           have hT3283 := Tr.agree (O := [.cells b3268 [.slice none 0 0] 22, .cells b3269 [.int .u64 77] 37, .cells b3242 [(.slice (some ⟨b3234, 0, none⟩) 2 2)] 22, .cells b3243 [.int .u64 (y26.2.1.fState.toNat : Int)] 37, .cells b3211 [.int .i64 2] 27, .cells b3191 [.int .i64 4] 27, .cells b3169 [(.slice (some ⟨b3161, 0, none⟩) 1 1)] 22, .cells b3170 [.int .u64 77] 37, .cells b3136 [.int .i64 4] 27, .cells b3116 [v3114] 22, .cells b31 [.int .u64 (y26.2.1.fState.toNat : Int)] 37, .cells b18 [.int .u64 77] 37, .cells b13 [.int .i64 y1.fN, v7] 40]) hag3281
           refine RD.vP 73 18889465931478580854783 kt35 rfl kp36 (.yes rfl rfl) (fun _ => FV.extract rfl rfl) rfl ?_
           refine RD.vP 74 37778931862957161709567 kt35 rfl kp36 (.yes rfl rfl) (fun _ => FV.extract rfl rfl) rfl ?_
           refine RD.vP 75 75557863725914323419135 kt35 rfl kp36 (.yes rfl rfl) (fun _ => FV.extract rfl rfl) rfl ?_
           obtain ⟨y3286, hy3286, h⟩ := bind_in h
           refine RD.callq (i := 76) (m' := 151115727451828646838271) (W := 633825148998387248919704764416) (takeC_ok kt35 (by kernel_rfl)) rfl kp36 (v := .bool y3286) (fst := []) (cap := [.pointer (some ⟨b3268, 0, none⟩), .pointer (some ⟨b3269, 0, none⟩)]) (.yes rfl rfl) body40 rfl (evs_cons rfl (evs_cons rfl (evs_cons rfl evs_nil))) (fun w9 hw9 => wardmotelaw31_goes_1_c n _ w9 (hS3282.hL0 hL hw9) y3277.1 (Rep.keep0 (Rep.dropO (O := [.cells b3268 [.slice none 0 0] 22, .cells b3269 [.int .u64 77] 37, .cells b3242 [(.slice (some ⟨b3234, 0, none⟩) 2 2)] 22, .cells b3243 [.int .u64 (y26.2.1.fState.toNat : Int)] 37, .cells b3211 [.int .i64 2] 27, .cells b3191 [.int .i64 4] 27, .cells b3169 [(.slice (some ⟨b3161, 0, none⟩) 1 1)] 22, .cells b3170 [.int .u64 77] 37, .cells b3136 [.int .i64 4] 27, .cells b3116 [v3114] 22, .cells b31 [.int .u64 (y26.2.1.fState.toNat : Int)] 37, .cells b18 [.int .u64 77] 37, .cells b13 [.int .i64 y1.fN, v7] 40]) hr3285) hw9) y3277.2.1 y3277.2.2 ([] : List Int) (Rep.keep0 (Rep.nilSlice _ _) hw9) (fun j9 v9 h9 => hw9.cell0 ((hS3282.memA .hd) j9 v9 h9)) (⟨(77 : UInt64)⟩ : TChance) (fun j9 v9 h9 => hw9.cell0 ((hS3282.memA (.tl .hd)) j9 v9 h9)) hy3286) rfl ?_
           refine RD.vP 77 302231454903657293676543 kt35 rfl kp36 .plain (fun _ => FV.pick_t rfl rfl) rfl ?_
           refine RD.vP 78 604462909807314587353087 kt35 rfl kp36 .plain (fun _ => FV.move rfl) rfl ?_
           refine RD.ifb (s := 92) rfl h (fun c3287 h => ?_) (fun c3287 h => ?_)
           ·skip
            refine RD.val (i := 80) (m' := 1813388729421943762059263) (W := 633820464410836242231652777984) (takeC_ok kt35 (by kernel_rfl)) rfl kp36 (.yes rfl rfl) (FV.loadN (cs := [.int .i64 y1.fN, v7]) (by kernel_rfl) rfl (hS3282.memA (.tl (.tl (.tl (.tl (.tl (.tl (.tl (.tl (.tl (.tl (.tl (.tl .hd)))))))))))))) rfl ?_
            refine RD.val (i := 81) (m' := 4231240368651202111471615) (W := 633820464410836242231652777984) (takeC_ok kt35 (by kernel_rfl)) rfl kp36 (.yes rfl rfl) (FV.loadN (cs := [.int .u64 77]) (by kernel_rfl) rfl (hS3282.memA (.tl (.tl (.tl (.tl (.tl (.tl (.tl (.tl (.tl (.tl (.tl .hd))))))))))))) rfl ?_
            refine RD.one (i := 79) (readyD_ok kt35 (by kernel_rfl)) (RO.call (m' := 4835703278458516698824703) (fst := []) (cap := []) (stepC_ok kt35 (by kernel_rfl)) rfl (.yes rfl rfl) body21 rfl (evs_cons rfl evs_nil) (fun w9 hw9 => Calls.gives (wardmotelaw31_stops_c n _ w9 (hS3282.hL hL hw9) 4) fun (w8 : World) (u8 : Value) ⟨b0_, hu_, s_⟩ => (⟨b0_, hu_, s_.from hw9⟩ : ∃ b3289 : Nat, u8 = Value.func (.func 39) #[] #[.pointer (some ⟨b3289, 0, none⟩)] ∧ St w3279 w8 [.cells b3289 [.int .i64 4] 27])) rfl (fun w3290 vu3291 hag3292 ⟨b3289, hu3294, s3293⟩ => ?_))
            subst hu3294
            have hS3295 : St w w3290 [.cells b3289 [.int .i64 4] 27, .cells b3268 [.slice none 0 0] 22, .cells b3269 [.int .u64 77] 37, .cells b3242 [(.slice (some ⟨b3234, 0, none⟩) 2 2)] 22, .cells b3243 [.int .u64 (y26.2.1.fState.toNat : Int)] 37, .cells b3211 [.int .i64 2] 27, .cells b3191 [.int .i64 4] 27, .cells b3169 [(.slice (some ⟨b3161, 0, none⟩) 1 1)] 22, .cells b3170 [.int .u64 77] 37, .cells b3136 [.int .i64 4] 27, .cells b3116 [v3114] 22, .cells b31 [.int .u64 (y26.2.1.fState.toNat : Int)] 37, .cells b18 [.int .u64 77] 37, .cells b13 [.int .i64 y1.fN, v7] 40] := St.merge hS3282 s3293
            have hT3296 : Tr w3279 [.cells b3268 [.slice none 0 0] 22, .cells b3269 [.int .u64 77] 37, .cells b3242 [(.slice (some ⟨b3234, 0, none⟩) 2 2)] 22, .cells b3243 [.int .u64 (y26.2.1.fState.toNat : Int)] 37, .cells b3211 [.int .i64 2] 27, .cells b3191 [.int .i64 4] 27, .cells b3169 [(.slice (some ⟨b3161, 0, none⟩) 1 1)] 22, .cells b3170 [.int .u64 77] 37, .cells b3136 [.int .i64 4] 27, .cells b3116 [v3114] 22, .cells b31 [.int .u64 (y26.2.1.fState.toNat : Int)] 37, .cells b18 [.int .u64 77] 37, .cells b13 [.int .i64 y1.fN, v7] 40] w3290 [.cells b3289 [.int .i64 4] 27, .cells b3268 [.slice none 0 0] 22, .cells b3269 [.int .u64 77] 37, .cells b3242 [(.slice (some ⟨b3234, 0, none⟩) 2 2)] 22, .cells b3243 [.int .u64 (y26.2.1.fState.toNat : Int)] 37, .cells b3211 [.int .i64 2] 27, .cells b3191 [.int .i64 4] 27, .cells b3169 [(.slice (some ⟨b3161, 0, none⟩) 1 1)] 22, .cells b3170 [.int .u64 77] 37, .cells b3136 [.int .i64 4] 27, .cells b3116 [v3114] 22, .cells b31 [.int .u64 (y26.2.1.fState.toNat : Int)] 37, .cells b18 [.int .u64 77] 37, .cells b13 [.int .i64 y1.fN, v7] 40] := Tr.merge hS3282 s3293
            obtain ⟨y3297, hy3297, h⟩ := bind_in h
            have hm3298 := Rep.mv hr8 (Tr.trans hT12 (Tr.trans hT17 (Tr.trans hT22 (Tr.trans hT25 (Tr.trans hT30 (Tr.trans hT34 (Tr.trans hT1569 (Tr.trans hT1574 (Tr.trans hT1580 (Tr.trans hT3118 (Tr.trans hT3123 (Tr.trans hT3129 (Tr.trans hT3143 (Tr.trans hT3152 (Tr.trans hT3160 (Tr.trans hT3165 (Tr.trans hT3177 (Tr.trans hT3184 (Tr.trans hT3198 (Tr.trans hT3205 (Tr.trans hT3218 (Tr.trans hT3225 (Tr.trans hT3233 (Tr.trans hT3238 (Tr.trans hT3250 (Tr.trans hT3257 (Tr.trans hT3276 (Tr.trans hT3283 hT3296))))))))))))))))))))))))))))
            refine RD.one (i := 82) (readyD_ok kt35 (by kernel_rfl)) (RO.call (m' := 9671406556917033397649407) (fst := []) (cap := []) (stepC_ok kt35 (by kernel_rfl)) rfl (.yes rfl rfl) body14 rfl (evs_cons rfl (evs_cons rfl (evs_cons rfl evs_nil))) (fun w9 hw9 => wilson_Draw_c n _ w9 (hS3295.hL hL hw9) y1 (Rep.keep0 hm3298 hw9) (5 : UInt64) (⟨(77 : UInt64)⟩ : TChance) (hG0.keep (hS3295.ag.trans hw9)) hy3297) rfl (fun w3299 vu3300 hag3301 ⟨v3304, hu_, hr3305⟩ => ?_))
            subst hu_
            have hS3302 := hS3295.agree hag3301
            have hT3303 := Tr.agree (O := [.cells b3289 [.int .i64 4] 27, .cells b3268 [.slice none 0 0] 22, .cells b3269 [.int .u64 77] 37, .cells b3242 [(.slice (some ⟨b3234, 0, none⟩) 2 2)] 22, .cells b3243 [.int .u64 (y26.2.1.fState.toNat : Int)] 37, .cells b3211 [.int .i64 2] 27, .cells b3191 [.int .i64 4] 27, .cells b3169 [(.slice (some ⟨b3161, 0, none⟩) 1 1)] 22, .cells b3170 [.int .u64 77] 37, .cells b3136 [.int .i64 4] 27, .cells b3116 [v3114] 22, .cells b31 [.int .u64 (y26.2.1.fState.toNat : Int)] 37, .cells b18 [.int .u64 77] 37, .cells b13 [.int .i64 y1.fN, v7] 40]) hag3301
            refine RD.vP 83 19342813113834066795298815 kt35 rfl kp36 (.yes rfl rfl) (fun _ => FV.extract rfl rfl) rfl ?_
            refine RD.vP 84 38685626227668133590597631 kt35 rfl kp36 (.yes rfl rfl) (fun _ => FV.extract rfl rfl) rfl ?_
            refine RD.vP 85 77371252455336267181195263 kt35 rfl kp36 (.yes rfl rfl) (fun _ => FV.extract rfl rfl) rfl ?_
            obtain ⟨y3306, hy3306, h⟩ := bind_in h
            refine RD.callq (i := 86) (m' := 154742504910672534362390527) (W := 633670557609204028213989212160) (takeC_ok kt35 (by kernel_rfl)) rfl kp36 (v := .bool y3306) (fst := []) (cap := [.pointer (some ⟨b3289, 0, none⟩)]) (.yes rfl rfl) body39 rfl (evs_cons rfl (evs_cons rfl (evs_cons rfl evs_nil))) (fun w9 hw9 => wardmotelaw31_stops_1_c n _ w9 (hS3302.hL0 hL hw9) y3297.1 (Rep.keep0 (Rep.dropO (O := [.cells b3289 [.int .i64 4] 27, .cells b3268 [.slice none 0 0] 22, .cells b3269 [.int .u64 77] 37, .cells b3242 [(.slice (some ⟨b3234, 0, none⟩) 2 2)] 22, .cells b3243 [.int .u64 (y26.2.1.fState.toNat : Int)] 37, .cells b3211 [.int .i64 2] 27, .cells b3191 [.int .i64 4] 27, .cells b3169 [(.slice (some ⟨b3161, 0, none⟩) 1 1)] 22, .cells b3170 [.int .u64 77] 37, .cells b3136 [.int .i64 4] 27, .cells b3116 [v3114] 22, .cells b31 [.int .u64 (y26.2.1.fState.toNat : Int)] 37, .cells b18 [.int .u64 77] 37, .cells b13 [.int .i64 y1.fN, v7] 40]) hr3305) hw9) y3297.2.1 y3297.2.2 4 (fun j9 v9 h9 => hw9.cell0 ((hS3302.memA .hd) j9 v9 h9)) hy3306) rfl ?_
            refine RD.vP 87 309485009821345068724781055 kt35 rfl kp36 .plain (fun _ => FV.pick_t rfl rfl) rfl ?_
            refine RD.vP 88 618970019642690137449562111 kt35 rfl kp36 .plain (fun _ => FV.move rfl) rfl ?_
            refine RD.ifb (s := 102) rfl h (fun c3307 h => ?_) (fun c3307 h => ?_)
            ·skip
             refine RD.val (i := 90) (m' := 1856910058928070412348686335) (W := 628873539956973179648755105792) (takeC_ok kt35 (by kernel_rfl)) rfl kp36 (.yes rfl rfl) (FV.loadN (cs := [.int .i64 y1.fN, v7]) (by kernel_rfl) rfl (hS3302.memA (.tl (.tl (.tl (.tl (.tl (.tl (.tl (.tl (.tl (.tl (.tl (.tl (.tl .hd))))))))))))))) rfl ?_
             refine RD.val (i := 91) (m' := 4332790137498830962146934783) (W := 628873539956973179648755105792) (takeC_ok kt35 (by kernel_rfl)) rfl kp36 (.yes rfl rfl) (FV.loadN (cs := [.int .u64 77]) (by kernel_rfl) rfl (hS3302.memA (.tl (.tl (.tl (.tl (.tl (.tl (.tl (.tl (.tl (.tl (.tl (.tl .hd)))))))))))))) rfl ?_
             refine RD.one (i := 89) (readyD_ok kt35 (by kernel_rfl)) (RO.call (m' := 4951760157141521099596496895) (fst := []) (cap := []) (stepC_ok kt35 (by kernel_rfl)) rfl (.yes rfl rfl) body21 rfl (evs_cons rfl evs_nil) (fun w9 hw9 => Calls.gives (wardmotelaw31_stops_c n _ w9 (hS3302.hL hL hw9) 2) fun (w8 : World) (u8 : Value) ⟨b0_, hu_, s_⟩ => (⟨b0_, hu_, s_.from hw9⟩ : ∃ b3309 : Nat, u8 = Value.func (.func 39) #[] #[.pointer (some ⟨b3309, 0, none⟩)] ∧ St w3299 w8 [.cells b3309 [.int .i64 2] 27])) rfl (fun w3310 vu3311 hag3312 ⟨b3309, hu3314, s3313⟩ => ?_))
             subst hu3314
             have hS3315 : St w w3310 [.cells b3309 [.int .i64 2] 27, .cells b3289 [.int .i64 4] 27, .cells b3268 [.slice none 0 0] 22, .cells b3269 [.int .u64 77] 37, .cells b3242 [(.slice (some ⟨b3234, 0, none⟩) 2 2)] 22, .cells b3243 [.int .u64 (y26.2.1.fState.toNat : Int)] 37, .cells b3211 [.int .i64 2] 27, .cells b3191 [.int .i64 4] 27, .cells b3169 [(.slice (some ⟨b3161, 0, none⟩) 1 1)] 22, .cells b3170 [.int .u64 77] 37, .cells b3136 [.int .i64 4] 27, .cells b3116 [v3114] 22, .cells b31 [.int .u64 (y26.2.1.fState.toNat : Int)] 37, .cells b18 [.int .u64 77] 37, .cells b13 [.int .i64 y1.fN, v7] 40] := St.merge hS3302 s3313
             have hT3316 : Tr w3299 [.cells b3289 [.int .i64 4] 27, .cells b3268 [.slice none 0 0] 22, .cells b3269 [.int .u64 77] 37, .cells b3242 [(.slice (some ⟨b3234, 0, none⟩) 2 2)] 22, .cells b3243 [.int .u64 (y26.2.1.fState.toNat : Int)] 37, .cells b3211 [.int .i64 2] 27, .cells b3191 [.int .i64 4] 27, .cells b3169 [(.slice (some ⟨b3161, 0, none⟩) 1 1)] 22, .cells b3170 [.int .u64 77] 37, .cells b3136 [.int .i64 4] 27, .cells b3116 [v3114] 22, .cells b31 [.int .u64 (y26.2.1.fState.toNat : Int)] 37, .cells b18 [.int .u64 77] 37, .cells b13 [.int .i64 y1.fN, v7] 40] w3310 [.cells b3309 [.int .i64 2] 27, .cells b3289 [.int .i64 4] 27, .cells b3268 [.slice none 0 0] 22, .cells b3269 [.int .u64 77] 37, .cells b3242 [(.slice (some ⟨b3234, 0, none⟩) 2 2)] 22, .cells b3243 [.int .u64 (y26.2.1.fState.toNat : Int)] 37, .cells b3211 [.int .i64 2] 27, .cells b3191 [.int .i64 4] 27, .cells b3169 [(.slice (some ⟨b3161, 0, none⟩) 1 1)] 22, .cells b3170 [.int .u64 77] 37, .cells b3136 [.int .i64 4] 27, .cells b3116 [v3114] 22, .cells b31 [.int .u64 (y26.2.1.fState.toNat : Int)] 37, .cells b18 [.int .u64 77] 37, .cells b13 [.int .i64 y1.fN, v7] 40] := Tr.merge hS3302 s3313
             obtain ⟨y3317, hy3317, h⟩ := bind_in h
             have hm3318 := Rep.mv hr8 (Tr.trans hT12 (Tr.trans hT17 (Tr.trans hT22 (Tr.trans hT25 (Tr.trans hT30 (Tr.trans hT34 (Tr.trans hT1569 (Tr.trans hT1574 (Tr.trans hT1580 (Tr.trans hT3118 (Tr.trans hT3123 (Tr.trans hT3129 (Tr.trans hT3143 (Tr.trans hT3152 (Tr.trans hT3160 (Tr.trans hT3165 (Tr.trans hT3177 (Tr.trans hT3184 (Tr.trans hT3198 (Tr.trans hT3205 (Tr.trans hT3218 (Tr.trans hT3225 (Tr.trans hT3233 (Tr.trans hT3238 (Tr.trans hT3250 (Tr.trans hT3257 (Tr.trans hT3276 (Tr.trans hT3283 (Tr.trans hT3296 (Tr.trans hT3303 hT3316))))))))))))))))))))))))))))))
             refine RD.one (i := 92) (readyD_ok kt35 (by kernel_rfl)) (RO.call (m' := 9903520314283042199192993791) (fst := []) (cap := []) (stepC_ok kt35 (by kernel_rfl)) rfl (.yes rfl rfl) body14 rfl (evs_cons rfl (evs_cons rfl (evs_cons rfl evs_nil))) (fun w9 hw9 => wilson_Draw_c n _ w9 (hS3315.hL hL hw9) y1 (Rep.keep0 hm3318 hw9) (0 : UInt64) (⟨(77 : UInt64)⟩ : TChance) (hG0.keep (hS3315.ag.trans hw9)) hy3317) rfl (fun w3319 vu3320 hag3321 ⟨v3324, hu_, hr3325⟩ => ?_))
             subst hu_
             have hS3322 := hS3315.agree hag3321
             have hT3323 := Tr.agree (O := [.cells b3309 [.int .i64 2] 27, .cells b3289 [.int .i64 4] 27, .cells b3268 [.slice none 0 0] 22, .cells b3269 [.int .u64 77] 37, .cells b3242 [(.slice (some ⟨b3234, 0, none⟩) 2 2)] 22, .cells b3243 [.int .u64 (y26.2.1.fState.toNat : Int)] 37, .cells b3211 [.int .i64 2] 27, .cells b3191 [.int .i64 4] 27, .cells b3169 [(.slice (some ⟨b3161, 0, none⟩) 1 1)] 22, .cells b3170 [.int .u64 77] 37, .cells b3136 [.int .i64 4] 27, .cells b3116 [v3114] 22, .cells b31 [.int .u64 (y26.2.1.fState.toNat : Int)] 37, .cells b18 [.int .u64 77] 37, .cells b13 [.int .i64 y1.fN, v7] 40]) hag3321
             refine RD.vP 93 19807040628566084398385987583 kt35 rfl kp36 (.yes rfl rfl) (fun _ => FV.extract rfl rfl) rfl ?_
             refine RD.vP 94 39614081257132168796771975167 kt35 rfl kp36 (.yes rfl rfl) (fun _ => FV.extract rfl rfl) rfl ?_
             refine RD.vP 95 79228162514264337593543950335 kt35 rfl kp36 (.yes rfl rfl) (fun _ => FV.extract rfl rfl) rfl ?_
             obtain ⟨y3326, hy3326, h⟩ := bind_in h
             refine RD.callq (i := 96) (m' := 158456325028528675187087900671) (W := 475368975085586025561263702016) (takeC_ok kt35 (by kernel_rfl)) rfl kp36 (v := .bool y3326) (fst := []) (cap := [.pointer (some ⟨b3309, 0, none⟩)]) (.yes rfl rfl) body39 rfl (evs_cons rfl (evs_cons rfl (evs_cons rfl evs_nil))) (fun w9 hw9 => wardmotelaw31_stops_1_c n _ w9 (hS3322.hL0 hL hw9) y3317.1 (Rep.keep0 (Rep.dropO (O := [.cells b3309 [.int .i64 2] 27, .cells b3289 [.int .i64 4] 27, .cells b3268 [.slice none 0 0] 22, .cells b3269 [.int .u64 77] 37, .cells b3242 [(.slice (some ⟨b3234, 0, none⟩) 2 2)] 22, .cells b3243 [.int .u64 (y26.2.1.fState.toNat : Int)] 37, .cells b3211 [.int .i64 2] 27, .cells b3191 [.int .i64 4] 27, .cells b3169 [(.slice (some ⟨b3161, 0, none⟩) 1 1)] 22, .cells b3170 [.int .u64 77] 37, .cells b3136 [.int .i64 4] 27, .cells b3116 [v3114] 22, .cells b31 [.int .u64 (y26.2.1.fState.toNat : Int)] 37, .cells b18 [.int .u64 77] 37, .cells b13 [.int .i64 y1.fN, v7] 40]) hr3325) hw9) y3317.2.1 y3317.2.2 2 (fun j9 v9 h9 => hw9.cell0 ((hS3322.memA .hd) j9 v9 h9)) hy3326) rfl ?_
             refine RD.vP 97 316912650057057350374175801343 kt35 rfl kp36 .plain (fun _ => FV.pick_t rfl rfl) rfl ?_
             refine RD.vP 98 633825300114114700748351602687 kt35 rfl kp36 .plain (fun _ => FV.assign rfl) rfl ?_
             refine RD.done (doneD_ok kt35 (by kernel_rfl)) ?_
             refine MX.ret rfl ?_
             refine RT.leave (u := .bool y3326) hb0 Tryd.func9 rfl (.cons (.tmp rfl) .nil) rfl ?_
             obtain rfl := Option.some.inj h
             exact ⟨hS3322.ag, fun w9 hw9 => rfl⟩
            ·skip
             refine RD.offs 158456325028528675187087900671 2 [(89, 103), (90, 104), (91, 105), (92, 106), (93, 107), (94, 108), (95, 109), (96, 110)] (F := [(102, false)]) (U := []) kt35 kp36 (.cons rfl .nil) .nil ?_
             dsimp only [offS, List.map]
             refine RD.vP 97 316912650057057350374175801343 kt35 rfl kp36 .plain (fun _ => FV.pick_f rfl rfl) rfl ?_
             refine RD.vP 98 633825300114114700748351602687 kt35 rfl kp36 .plain (fun _ => FV.assign rfl) rfl ?_
             refine RD.done (doneD_ok kt35 (by kernel_rfl)) ?_
             refine MX.ret rfl ?_
             refine RT.leave (u := .bool false) hb0 Tryd.func9 rfl (.cons (.tmp rfl) .nil) rfl ?_
             obtain rfl := Option.some.inj h
             exact ⟨hS3302.ag, fun w9 hw9 => rfl⟩
           ·skip
            refine RD.offs 154742504910672534362390527 12 [(79, 93), (80, 94), (81, 95), (82, 96), (83, 97), (84, 98), (85, 99), (86, 100)] (F := [(92, false)]) (U := []) kt35 kp36 (.cons rfl .nil) .nil ?_
            dsimp only [offS, List.map]
            refine RD.vP 87 309485009821345068724781055 kt35 rfl kp36 .plain (fun _ => FV.pick_f rfl rfl) rfl ?_
            refine RD.vP 88 618970019642690137449562111 kt35 rfl kp36 .plain (fun _ => FV.move rfl) rfl ?_
            refine RD.offs 158456325028528675187087900671 2 [(89, 103), (90, 104), (91, 105), (92, 106), (93, 107), (94, 108), (95, 109), (96, 110)] (F := [(102, false)]) (U := []) kt35 kp36 (.cons rfl .nil) .nil ?_
            dsimp only [offS, List.map]
            refine RD.vP 97 316912650057057350374175801343 kt35 rfl kp36 .plain (fun _ => FV.pick_f rfl rfl) rfl ?_
            refine RD.vP 98 633825300114114700748351602687 kt35 rfl kp36 .plain (fun _ => FV.assign rfl) rfl ?_
            refine RD.done (doneD_ok kt35 (by kernel_rfl)) ?_
            refine MX.ret rfl ?_
            refine RT.leave (u := .bool false) hb0 Tryd.func9 rfl (.cons (.tmp rfl) .nil) rfl ?_
            obtain rfl := Option.some.inj h
            exact ⟨hS3282.ag, fun w9 hw9 => rfl⟩
          ·skip
           refine RD.offs 151115727451828646838271 22 [(68, 82), (69, 83), (70, 84), (71, 85), (72, 86), (73, 87), (74, 88), (75, 89), (76, 90)] (F := [(81, false)]) (U := []) kt35 kp36 (.cons rfl .nil) .nil ?_
           dsimp only [offS, List.map]
           refine RD.vP 77 302231454903657293676543 kt35 rfl kp36 .plain (fun _ => FV.pick_f rfl rfl) rfl ?_
           refine RD.vP 78 604462909807314587353087 kt35 rfl kp36 .plain (fun _ => FV.move rfl) rfl ?_
           refine RD.offs 154742504910672534362390527 12 [(79, 93), (80, 94), (81, 95), (82, 96), (83, 97), (84, 98), (85, 99), (86, 100)] (F := [(92, false)]) (U := []) kt35 kp36 (.cons rfl .nil) .nil ?_
           dsimp only [offS, List.map]
           refine RD.vP 87 309485009821345068724781055 kt35 rfl kp36 .plain (fun _ => FV.pick_f rfl rfl) rfl ?_
           refine RD.vP 88 618970019642690137449562111 kt35 rfl kp36 .plain (fun _ => FV.move rfl) rfl ?_
           refine RD.offs 158456325028528675187087900671 2 [(89, 103), (90, 104), (91, 105), (92, 106), (93, 107), (94, 108), (95, 109), (96, 110)] (F := [(102, false)]) (U := []) kt35 kp36 (.cons rfl .nil) .nil ?_
           dsimp only [offS, List.map]
           refine RD.vP 97 316912650057057350374175801343 kt35 rfl kp36 .plain (fun _ => FV.pick_f rfl rfl) rfl ?_
           refine RD.vP 98 633825300114114700748351602687 kt35 rfl kp36 .plain (fun _ => FV.assign rfl) rfl ?_
           refine RD.done (doneD_ok kt35 (by kernel_rfl)) ?_
           refine MX.ret rfl ?_
           refine RT.leave (u := .bool false) hb0 Tryd.func9 rfl (.cons (.tmp rfl) .nil) rfl ?_
           obtain rfl := Option.some.inj h
           exact ⟨hS3256.ag, fun w9 hw9 => rfl⟩
         ·skip
          refine RD.offs 73786976294838206463 33 [(56, 70), (57, 71), (58, 72), (59, 73), (60, 74), (61, 75), (62, 76), (63, 77), (64, 78), (65, 79)] (F := [(69, false)]) (U := []) kt35 kp36 (.cons rfl .nil) .nil ?_
          dsimp only [offS, List.map]
          refine RD.vP 66 147573952589676412927 kt35 rfl kp36 .plain (fun _ => FV.pick_f rfl rfl) rfl ?_
          refine RD.vP 67 295147905179352825855 kt35 rfl kp36 .plain (fun _ => FV.move rfl) rfl ?_
          refine RD.offs 151115727451828646838271 22 [(68, 82), (69, 83), (70, 84), (71, 85), (72, 86), (73, 87), (74, 88), (75, 89), (76, 90)] (F := [(81, false)]) (U := []) kt35 kp36 (.cons rfl .nil) .nil ?_
          dsimp only [offS, List.map]
          refine RD.vP 77 302231454903657293676543 kt35 rfl kp36 .plain (fun _ => FV.pick_f rfl rfl) rfl ?_
          refine RD.vP 78 604462909807314587353087 kt35 rfl kp36 .plain (fun _ => FV.move rfl) rfl ?_
          refine RD.offs 154742504910672534362390527 12 [(79, 93), (80, 94), (81, 95), (82, 96), (83, 97), (84, 98), (85, 99), (86, 100)] (F := [(92, false)]) (U := []) kt35 kp36 (.cons rfl .nil) .nil ?_
          dsimp only [offS, List.map]
          refine RD.vP 87 309485009821345068724781055 kt35 rfl kp36 .plain (fun _ => FV.pick_f rfl rfl) rfl ?_
          refine RD.vP 88 618970019642690137449562111 kt35 rfl kp36 .plain (fun _ => FV.move rfl) rfl ?_
          refine RD.offs 158456325028528675187087900671 2 [(89, 103), (90, 104), (91, 105), (92, 106), (93, 107), (94, 108), (95, 109), (96, 110)] (F := [(102, false)]) (U := []) kt35 kp36 (.cons rfl .nil) .nil ?_
          dsimp only [offS, List.map]
          refine RD.vP 97 316912650057057350374175801343 kt35 rfl kp36 .plain (fun _ => FV.pick_f rfl rfl) rfl ?_
          refine RD.vP 98 633825300114114700748351602687 kt35 rfl kp36 .plain (fun _ => FV.assign rfl) rfl ?_
          refine RD.done (doneD_ok kt35 (by kernel_rfl)) ?_
          refine MX.ret rfl ?_
          refine RT.leave (u := .bool false) hb0 Tryd.func9 rfl (.cons (.tmp rfl) .nil) rfl ?_
          obtain rfl := Option.some.inj h
          exact ⟨hS3224.ag, fun w9 hw9 => rfl⟩
        ·skip
         refine RD.offs 18014398509481983 45 [(46, 60), (47, 61), (48, 62), (49, 63), (50, 64), (51, 65), (52, 66), (53, 67)] (F := [(59, false)]) (U := []) kt35 kp36 (.cons rfl .nil) .nil ?_
         dsimp only [offS, List.map]
         refine RD.vP 54 36028797018963967 kt35 rfl kp36 .plain (fun _ => FV.pick_f rfl rfl) rfl ?_
         refine RD.vP 55 72057594037927935 kt35 rfl kp36 .plain (fun _ => FV.move rfl) rfl ?_
         refine RD.offs 73786976294838206463 33 [(56, 70), (57, 71), (58, 72), (59, 73), (60, 74), (61, 75), (62, 76), (63, 77), (64, 78), (65, 79)] (F := [(69, false)]) (U := []) kt35 kp36 (.cons rfl .nil) .nil ?_
         dsimp only [offS, List.map]
         refine RD.vP 66 147573952589676412927 kt35 rfl kp36 .plain (fun _ => FV.pick_f rfl rfl) rfl ?_
         refine RD.vP 67 295147905179352825855 kt35 rfl kp36 .plain (fun _ => FV.move rfl) rfl ?_
         refine RD.offs 151115727451828646838271 22 [(68, 82), (69, 83), (70, 84), (71, 85), (72, 86), (73, 87), (74, 88), (75, 89), (76, 90)] (F := [(81, false)]) (U := []) kt35 kp36 (.cons rfl .nil) .nil ?_
         dsimp only [offS, List.map]
         refine RD.vP 77 302231454903657293676543 kt35 rfl kp36 .plain (fun _ => FV.pick_f rfl rfl) rfl ?_
         refine RD.vP 78 604462909807314587353087 kt35 rfl kp36 .plain (fun _ => FV.move rfl) rfl ?_
         refine RD.offs 154742504910672534362390527 12 [(79, 93), (80, 94), (81, 95), (82, 96), (83, 97), (84, 98), (85, 99), (86, 100)] (F := [(92, false)]) (U := []) kt35 kp36 (.cons rfl .nil) .nil ?_
         dsimp only [offS, List.map]
         refine RD.vP 87 309485009821345068724781055 kt35 rfl kp36 .plain (fun _ => FV.pick_f rfl rfl) rfl ?_
         refine RD.vP 88 618970019642690137449562111 kt35 rfl kp36 .plain (fun _ => FV.move rfl) rfl ?_
         refine RD.offs 158456325028528675187087900671 2 [(89, 103), (90, 104), (91, 105), (92, 106), (93, 107), (94, 108), (95, 109), (96, 110)] (F := [(102, false)]) (U := []) kt35 kp36 (.cons rfl .nil) .nil ?_
         dsimp only [offS, List.map]
         refine RD.vP 97 316912650057057350374175801343 kt35 rfl kp36 .plain (fun _ => FV.pick_f rfl rfl) rfl ?_
         refine RD.vP 98 633825300114114700748351602687 kt35 rfl kp36 .plain (fun _ => FV.assign rfl) rfl ?_
         refine RD.done (doneD_ok kt35 (by kernel_rfl)) ?_
         refine MX.ret rfl ?_
         refine RT.leave (u := .bool false) hb0 Tryd.func9 rfl (.cons (.tmp rfl) .nil) rfl ?_
         obtain rfl := Option.some.inj h
         exact ⟨hS3204.ag, fun w9 hw9 => rfl⟩
       ·skip
        refine RD.offs 17592186044415 55 [(36, 50), (37, 51), (38, 52), (39, 53), (40, 54), (41, 55), (42, 56), (43, 57)] (F := [(49, false)]) (U := []) kt35 kp36 (.cons rfl .nil) .nil ?_
        dsimp only [offS, List.map]
        refine RD.vP 44 35184372088831 kt35 rfl kp36 .plain (fun _ => FV.pick_f rfl rfl) rfl ?_
        refine RD.vP 45 70368744177663 kt35 rfl kp36 .plain (fun _ => FV.move rfl) rfl ?_
        refine RD.offs 18014398509481983 45 [(46, 60), (47, 61), (48, 62), (49, 63), (50, 64), (51, 65), (52, 66), (53, 67)] (F := [(59, false)]) (U := []) kt35 kp36 (.cons rfl .nil) .nil ?_
        dsimp only [offS, List.map]
        refine RD.vP 54 36028797018963967 kt35 rfl kp36 .plain (fun _ => FV.pick_f rfl rfl) rfl ?_
        refine RD.vP 55 72057594037927935 kt35 rfl kp36 .plain (fun _ => FV.move rfl) rfl ?_
        refine RD.offs 73786976294838206463 33 [(56, 70), (57, 71), (58, 72), (59, 73), (60, 74), (61, 75), (62, 76), (63, 77), (64, 78), (65, 79)] (F := [(69, false)]) (U := []) kt35 kp36 (.cons rfl .nil) .nil ?_
        dsimp only [offS, List.map]
        refine RD.vP 66 147573952589676412927 kt35 rfl kp36 .plain (fun _ => FV.pick_f rfl rfl) rfl ?_
        refine RD.vP 67 295147905179352825855 kt35 rfl kp36 .plain (fun _ => FV.move rfl) rfl ?_
        refine RD.offs 151115727451828646838271 22 [(68, 82), (69, 83), (70, 84), (71, 85), (72, 86), (73, 87), (74, 88), (75, 89), (76, 90)] (F := [(81, false)]) (U := []) kt35 kp36 (.cons rfl .nil) .nil ?_
        dsimp only [offS, List.map]
        refine RD.vP 77 302231454903657293676543 kt35 rfl kp36 .plain (fun _ => FV.pick_f rfl rfl) rfl ?_
        refine RD.vP 78 604462909807314587353087 kt35 rfl kp36 .plain (fun _ => FV.move rfl) rfl ?_
        refine RD.offs 154742504910672534362390527 12 [(79, 93), (80, 94), (81, 95), (82, 96), (83, 97), (84, 98), (85, 99), (86, 100)] (F := [(92, false)]) (U := []) kt35 kp36 (.cons rfl .nil) .nil ?_
        dsimp only [offS, List.map]
        refine RD.vP 87 309485009821345068724781055 kt35 rfl kp36 .plain (fun _ => FV.pick_f rfl rfl) rfl ?_
        refine RD.vP 88 618970019642690137449562111 kt35 rfl kp36 .plain (fun _ => FV.move rfl) rfl ?_
        refine RD.offs 158456325028528675187087900671 2 [(89, 103), (90, 104), (91, 105), (92, 106), (93, 107), (94, 108), (95, 109), (96, 110)] (F := [(102, false)]) (U := []) kt35 kp36 (.cons rfl .nil) .nil ?_
        dsimp only [offS, List.map]
        refine RD.vP 97 316912650057057350374175801343 kt35 rfl kp36 .plain (fun _ => FV.pick_f rfl rfl) rfl ?_
        refine RD.vP 98 633825300114114700748351602687 kt35 rfl kp36 .plain (fun _ => FV.assign rfl) rfl ?_
        refine RD.done (doneD_ok kt35 (by kernel_rfl)) ?_
        refine MX.ret rfl ?_
        refine RT.leave (u := .bool false) hb0 Tryd.func9 rfl (.cons (.tmp rfl) .nil) rfl ?_
        obtain rfl := Option.some.inj h
        exact ⟨hS3183.ag, fun w9 hw9 => rfl⟩
      ·skip
       refine RD.offs 17179869183 65 [(24, 38), (25, 39), (26, 40), (27, 41), (28, 42), (29, 43), (30, 44), (31, 45), (32, 46), (33, 47)] (F := [(37, false)]) (U := []) kt35 kp36 (.cons rfl .nil) .nil ?_
       dsimp only [offS, List.map]
       refine RD.vP 34 34359738367 kt35 rfl kp36 .plain (fun _ => FV.pick_f rfl rfl) rfl ?_
       refine RD.vP 35 68719476735 kt35 rfl kp36 .plain (fun _ => FV.move rfl) rfl ?_
       refine RD.offs 17592186044415 55 [(36, 50), (37, 51), (38, 52), (39, 53), (40, 54), (41, 55), (42, 56), (43, 57)] (F := [(49, false)]) (U := []) kt35 kp36 (.cons rfl .nil) .nil ?_
       dsimp only [offS, List.map]
       refine RD.vP 44 35184372088831 kt35 rfl kp36 .plain (fun _ => FV.pick_f rfl rfl) rfl ?_
       refine RD.vP 45 70368744177663 kt35 rfl kp36 .plain (fun _ => FV.move rfl) rfl ?_
       refine RD.offs 18014398509481983 45 [(46, 60), (47, 61), (48, 62), (49, 63), (50, 64), (51, 65), (52, 66), (53, 67)] (F := [(59, false)]) (U := []) kt35 kp36 (.cons rfl .nil) .nil ?_
       dsimp only [offS, List.map]
       refine RD.vP 54 36028797018963967 kt35 rfl kp36 .plain (fun _ => FV.pick_f rfl rfl) rfl ?_
       refine RD.vP 55 72057594037927935 kt35 rfl kp36 .plain (fun _ => FV.move rfl) rfl ?_
       refine RD.offs 73786976294838206463 33 [(56, 70), (57, 71), (58, 72), (59, 73), (60, 74), (61, 75), (62, 76), (63, 77), (64, 78), (65, 79)] (F := [(69, false)]) (U := []) kt35 kp36 (.cons rfl .nil) .nil ?_
       dsimp only [offS, List.map]
       refine RD.vP 66 147573952589676412927 kt35 rfl kp36 .plain (fun _ => FV.pick_f rfl rfl) rfl ?_
       refine RD.vP 67 295147905179352825855 kt35 rfl kp36 .plain (fun _ => FV.move rfl) rfl ?_
       refine RD.offs 151115727451828646838271 22 [(68, 82), (69, 83), (70, 84), (71, 85), (72, 86), (73, 87), (74, 88), (75, 89), (76, 90)] (F := [(81, false)]) (U := []) kt35 kp36 (.cons rfl .nil) .nil ?_
       dsimp only [offS, List.map]
       refine RD.vP 77 302231454903657293676543 kt35 rfl kp36 .plain (fun _ => FV.pick_f rfl rfl) rfl ?_
       refine RD.vP 78 604462909807314587353087 kt35 rfl kp36 .plain (fun _ => FV.move rfl) rfl ?_
       refine RD.offs 154742504910672534362390527 12 [(79, 93), (80, 94), (81, 95), (82, 96), (83, 97), (84, 98), (85, 99), (86, 100)] (F := [(92, false)]) (U := []) kt35 kp36 (.cons rfl .nil) .nil ?_
       dsimp only [offS, List.map]
       refine RD.vP 87 309485009821345068724781055 kt35 rfl kp36 .plain (fun _ => FV.pick_f rfl rfl) rfl ?_
       refine RD.vP 88 618970019642690137449562111 kt35 rfl kp36 .plain (fun _ => FV.move rfl) rfl ?_
       refine RD.offs 158456325028528675187087900671 2 [(89, 103), (90, 104), (91, 105), (92, 106), (93, 107), (94, 108), (95, 109), (96, 110)] (F := [(102, false)]) (U := []) kt35 kp36 (.cons rfl .nil) .nil ?_
       dsimp only [offS, List.map]
       refine RD.vP 97 316912650057057350374175801343 kt35 rfl kp36 .plain (fun _ => FV.pick_f rfl rfl) rfl ?_
       refine RD.vP 98 633825300114114700748351602687 kt35 rfl kp36 .plain (fun _ => FV.assign rfl) rfl ?_
       refine RD.done (doneD_ok kt35 (by kernel_rfl)) ?_
       refine MX.ret rfl ?_
       refine RT.leave (u := .bool false) hb0 Tryd.func9 rfl (.cons (.tmp rfl) .nil) rfl ?_
       obtain rfl := Option.some.inj h
       exact ⟨hS3151.ag, fun w9 hw9 => rfl⟩
     ·skip
      refine RD.offs 4194303 77 [(17, 31), (18, 32), (19, 33), (20, 34), (21, 35)] (F := [(30, false)]) (U := []) kt35 kp36 (.cons rfl .nil) .nil ?_
      dsimp only [offS, List.map]
      refine RD.vP 22 8388607 kt35 rfl kp36 .plain (fun _ => FV.pick_f rfl rfl) rfl ?_
      refine RD.vP 23 16777215 kt35 rfl kp36 .plain (fun _ => FV.move rfl) rfl ?_
      refine RD.offs 17179869183 65 [(24, 38), (25, 39), (26, 40), (27, 41), (28, 42), (29, 43), (30, 44), (31, 45), (32, 46), (33, 47)] (F := [(37, false)]) (U := []) kt35 kp36 (.cons rfl .nil) .nil ?_
      dsimp only [offS, List.map]
      refine RD.vP 34 34359738367 kt35 rfl kp36 .plain (fun _ => FV.pick_f rfl rfl) rfl ?_
      refine RD.vP 35 68719476735 kt35 rfl kp36 .plain (fun _ => FV.move rfl) rfl ?_
      refine RD.offs 17592186044415 55 [(36, 50), (37, 51), (38, 52), (39, 53), (40, 54), (41, 55), (42, 56), (43, 57)] (F := [(49, false)]) (U := []) kt35 kp36 (.cons rfl .nil) .nil ?_
      dsimp only [offS, List.map]
      refine RD.vP 44 35184372088831 kt35 rfl kp36 .plain (fun _ => FV.pick_f rfl rfl) rfl ?_
      refine RD.vP 45 70368744177663 kt35 rfl kp36 .plain (fun _ => FV.move rfl) rfl ?_
      refine RD.offs 18014398509481983 45 [(46, 60), (47, 61), (48, 62), (49, 63), (50, 64), (51, 65), (52, 66), (53, 67)] (F := [(59, false)]) (U := []) kt35 kp36 (.cons rfl .nil) .nil ?_
      dsimp only [offS, List.map]
      refine RD.vP 54 36028797018963967 kt35 rfl kp36 .plain (fun _ => FV.pick_f rfl rfl) rfl ?_
      refine RD.vP 55 72057594037927935 kt35 rfl kp36 .plain (fun _ => FV.move rfl) rfl ?_
      refine RD.offs 73786976294838206463 33 [(56, 70), (57, 71), (58, 72), (59, 73), (60, 74), (61, 75), (62, 76), (63, 77), (64, 78), (65, 79)] (F := [(69, false)]) (U := []) kt35 kp36 (.cons rfl .nil) .nil ?_
      dsimp only [offS, List.map]
      refine RD.vP 66 147573952589676412927 kt35 rfl kp36 .plain (fun _ => FV.pick_f rfl rfl) rfl ?_
      refine RD.vP 67 295147905179352825855 kt35 rfl kp36 .plain (fun _ => FV.move rfl) rfl ?_
      refine RD.offs 151115727451828646838271 22 [(68, 82), (69, 83), (70, 84), (71, 85), (72, 86), (73, 87), (74, 88), (75, 89), (76, 90)] (F := [(81, false)]) (U := []) kt35 kp36 (.cons rfl .nil) .nil ?_
      dsimp only [offS, List.map]
      refine RD.vP 77 302231454903657293676543 kt35 rfl kp36 .plain (fun _ => FV.pick_f rfl rfl) rfl ?_
      refine RD.vP 78 604462909807314587353087 kt35 rfl kp36 .plain (fun _ => FV.move rfl) rfl ?_
      refine RD.offs 154742504910672534362390527 12 [(79, 93), (80, 94), (81, 95), (82, 96), (83, 97), (84, 98), (85, 99), (86, 100)] (F := [(92, false)]) (U := []) kt35 kp36 (.cons rfl .nil) .nil ?_
      dsimp only [offS, List.map]
      refine RD.vP 87 309485009821345068724781055 kt35 rfl kp36 .plain (fun _ => FV.pick_f rfl rfl) rfl ?_
      refine RD.vP 88 618970019642690137449562111 kt35 rfl kp36 .plain (fun _ => FV.move rfl) rfl ?_
      refine RD.offs 158456325028528675187087900671 2 [(89, 103), (90, 104), (91, 105), (92, 106), (93, 107), (94, 108), (95, 109), (96, 110)] (F := [(102, false)]) (U := []) kt35 kp36 (.cons rfl .nil) .nil ?_
      dsimp only [offS, List.map]
      refine RD.vP 97 316912650057057350374175801343 kt35 rfl kp36 .plain (fun _ => FV.pick_f rfl rfl) rfl ?_
      refine RD.vP 98 633825300114114700748351602687 kt35 rfl kp36 .plain (fun _ => FV.assign rfl) rfl ?_
      refine RD.done (doneD_ok kt35 (by kernel_rfl)) ?_
      refine MX.ret rfl ?_
      refine RT.leave (u := .bool false) hb0 Tryd.func9 rfl (.cons (.tmp rfl) .nil) rfl ?_
      obtain rfl := Option.some.inj h
      exact ⟨hS3128.ag, fun w9 hw9 => rfl⟩
    ·skip
     intro hJ3327
     refine RD.each [8, 10] (readyD_ok kt35 (by kernel_rfl)) ⟨?_, ?_, trivial⟩
     ·skip
      refine RO.new (m' := 511) (stepC_ok kt35 (by kernel_rfl)) rfl (.yes rfl rfl) rfl (Does.build (α := Int) (xs := ([5] : List Int)) (vs := [.int .i64 5]) (ds' := [.int .i64 5]) rfl hS1579 el22 rfl (evs_cons rfl evs_nil) (by kernel_rfl) rfl) (fun w1887 b1890 hS1888 hT1889 => ?_)
      have hc1891 : Cells w1887 (bl [.row w.heap.size 3 (Rep.size Int) (.slice (some ⟨b1890, 0, none⟩) 1 1) (([5] : List Int).length) [.int .i64 5], .cells b1567 [v1565] 22, .cells b31 [.int .u64 (y26.2.1.fState.toNat : Int)] 37, .cells b18 [.int .u64 77] 37, .cells b13 [.int .i64 y1.fN, v7] 40] ++ L) [.int .i64 5] (([5] : List Int) : List Int) := Cells.cons (cs := [.int .i64 5]) (ds := []) rfl (Cells.nil _ _)
      refine RD.each [9, 10] (readyD_ok kt35 (by kernel_rfl)) ⟨?_, ?_, trivial⟩
      ·skip
       have hr2192 := St.freeze (α := Int) hS1888 .hd hc1891 hL
       have hS2193 := hS1888.del (.hd : Out _ _ _).del
       have hT2194 := Tr.del (w := w1887) (.hd : Out [.row w.heap.size 3 (Rep.size Int) (.slice (some ⟨b1890, 0, none⟩) 1 1) (([5] : List Int).length) [.int .i64 5], .cells b1567 [v1565] 22, .cells b31 [.int .u64 (y26.2.1.fState.toNat : Int)] 37, .cells b18 [.int .u64 77] 37, .cells b13 [.int .i64 y1.fN, v7] 40] _ _).del
       have hr2195 : Rep.R w1887 (bl [.cells b1567 [v1565] 22, .cells b31 [.int .u64 (y26.2.1.fState.toNat : Int)] 37, .cells b18 [.int .u64 77] 37, .cells b13 [.int .i64 y1.fN, v7] 40] ++ L) [(.slice (some ⟨b1890, 0, none⟩) 1 1)] ([5] : List Int) := hr2192
       refine RO.call (m' := 1023) (fst := []) (cap := []) (stepC_ok kt35 (by kernel_rfl)) rfl (.yes rfl rfl) body20 rfl (evs_cons rfl evs_nil) (fun w9 hw9 => Calls.gives (wardmotelaw31_lists_c n _ w9 (hS2193.hL hL hw9) ([5] : List Int) (Rep.keep0 hr2195 hw9)) fun (w8 : World) (u8 : Value) ⟨b0_, hu_, s_⟩ => (⟨b0_, hu_, s_.from hw9⟩ : ∃ b2197 : Nat, u8 = Value.func (.func 38) #[] #[.pointer (some ⟨b2197, 0, none⟩)] ∧ St w1887 w8 [.cells b2197 [(.slice (some ⟨b1890, 0, none⟩) 1 1)] 22])) rfl (fun w2198 vu2199 hag2200 ⟨b2197, hu2202, s2201⟩ => ?_)
       subst hu2202
       have hS2203 : St w w2198 [.cells b2197 [(.slice (some ⟨b1890, 0, none⟩) 1 1)] 22, .cells b1567 [v1565] 22, .cells b31 [.int .u64 (y26.2.1.fState.toNat : Int)] 37, .cells b18 [.int .u64 77] 37, .cells b13 [.int .i64 y1.fN, v7] 40] := St.merge hS2193 s2201
       have hT2204 : Tr w1887 [.cells b1567 [v1565] 22, .cells b31 [.int .u64 (y26.2.1.fState.toNat : Int)] 37, .cells b18 [.int .u64 77] 37, .cells b13 [.int .i64 y1.fN, v7] 40] w2198 [.cells b2197 [(.slice (some ⟨b1890, 0, none⟩) 1 1)] 22, .cells b1567 [v1565] 22, .cells b31 [.int .u64 (y26.2.1.fState.toNat : Int)] 37, .cells b18 [.int .u64 77] 37, .cells b13 [.int .i64 y1.fN, v7] 40] := Tr.merge hS2193 s2201
       refine RD.one (i := 10) (readyD_ok kt35 (by kernel_rfl)) (RO.new (m' := 2047) (stepC_ok kt35 (by kernel_rfl)) rfl (.yes rfl rfl) rfl (Does.build (α := Int) (xs := ([5, 5, 5] : List Int)) (vs := [.int .i64 5, .int .i64 5, .int .i64 5]) (ds' := [.int .i64 5, .int .i64 5, .int .i64 5]) rfl hS2203 el22 rfl (evs_cons rfl (evs_cons rfl (evs_cons rfl evs_nil))) (by kernel_rfl) rfl) (fun w2506 b2509 hS2507 hT2508 => ?_))
       have hc2510 : Cells w2506 (bl [.row w.heap.size 3 (Rep.size Int) (.slice (some ⟨b2509, 0, none⟩) 3 3) (([5, 5, 5] : List Int).length) [.int .i64 5, .int .i64 5, .int .i64 5], .cells b2197 [(.slice (some ⟨b1890, 0, none⟩) 1 1)] 22, .cells b1567 [v1565] 22, .cells b31 [.int .u64 (y26.2.1.fState.toNat : Int)] 37, .cells b18 [.int .u64 77] 37, .cells b13 [.int .i64 y1.fN, v7] 40] ++ L) [.int .i64 5, .int .i64 5, .int .i64 5] (([5, 5, 5] : List Int) : List Int) := Cells.cons (cs := [.int .i64 5]) (ds := [.int .i64 5, .int .i64 5]) rfl (Cells.cons (cs := [.int .i64 5]) (ds := [.int .i64 5]) rfl (Cells.cons (cs := [.int .i64 5]) (ds := []) rfl (Cells.nil _ _)))
       have hS3328 : St _ _ [.row w.heap.size 3 (Rep.size Int) (.slice (some ⟨b2509, 0, none⟩) 3 3) (([5, 5, 5] : List Int).length) [.int .i64 5, .int .i64 5, .int .i64 5], .cells b2197 [(.slice (some ⟨b1890, 0, none⟩) 1 1)] 22, .cells b31 [.int .u64 (y26.2.1.fState.toNat : Int)] 37, .cells b18 [.int .u64 77] 37, .cells b13 [.int .i64 y1.fN, v7] 40] := hS2507.arr (.one .hd (.one .hd (.one (.tl .hd) (.one (.tl .hd) (.one (.tl .hd) .done)))))
       have hT3329 : Tr w2506 _ w2506 [.row w.heap.size 3 (Rep.size Int) (.slice (some ⟨b2509, 0, none⟩) 3 3) (([5, 5, 5] : List Int).length) [.int .i64 5, .int .i64 5, .int .i64 5], .cells b2197 [(.slice (some ⟨b1890, 0, none⟩) 1 1)] 22, .cells b31 [.int .u64 (y26.2.1.fState.toNat : Int)] 37, .cells b18 [.int .u64 77] 37, .cells b13 [.int .i64 y1.fN, v7] 40] := Tr.arr (St.arrOf hS2507 (.one .hd (.one .hd (.one (.tl .hd) (.one (.tl .hd) (.one (.tl .hd) .done))))))
       have hm3330 := Cells.mv hc2510 hT3329
       have hm3331 := Rep.mv hr2195 (Tr.trans hT2204 (Tr.trans hT2508 hT3329))
       exact hJ3327 ((.slice (some ⟨b2509, 0, none⟩) 3 3), [.int .i64 5, .int .i64 5, .int .i64 5], (.slice (some ⟨b1890, 0, none⟩) 1 1), b2197) _ _ ⟨rfl, rfl, rfl, rfl, rfl, rfl, rfl, trivial⟩ ⟨hS3328, (Tr.trans hT1889 (Tr.trans hT2194 (Tr.trans hT2204 (Tr.trans hT2508 hT3329)))), hm3330, hm3331⟩
      ·skip
       refine RO.new (m' := 1535) (stepC_ok kt35 (by kernel_rfl)) rfl (.yes rfl rfl) rfl (Does.build (α := Int) (xs := ([5, 5, 5] : List Int)) (vs := [.int .i64 5, .int .i64 5, .int .i64 5]) (ds' := [.int .i64 5, .int .i64 5, .int .i64 5]) rfl hS1888 el22 rfl (evs_cons rfl (evs_cons rfl (evs_cons rfl evs_nil))) (by kernel_rfl) rfl) (fun w2506 b2509 hS2507 hT2508 => ?_)
       have hc2510 : Cells w2506 (bl [.row w.heap.size 3 (Rep.size Int) (.slice (some ⟨b2509, 0, none⟩) 3 3) (([5, 5, 5] : List Int).length) [.int .i64 5, .int .i64 5, .int .i64 5], .row w.heap.size 3 (Rep.size Int) (.slice (some ⟨b1890, 0, none⟩) 1 1) (([5] : List Int).length) [.int .i64 5], .cells b1567 [v1565] 22, .cells b31 [.int .u64 (y26.2.1.fState.toNat : Int)] 37, .cells b18 [.int .u64 77] 37, .cells b13 [.int .i64 y1.fN, v7] 40] ++ L) [.int .i64 5, .int .i64 5, .int .i64 5] (([5, 5, 5] : List Int) : List Int) := Cells.cons (cs := [.int .i64 5]) (ds := [.int .i64 5, .int .i64 5]) rfl (Cells.cons (cs := [.int .i64 5]) (ds := [.int .i64 5]) rfl (Cells.cons (cs := [.int .i64 5]) (ds := []) rfl (Cells.nil _ _)))
       have hm2195 := Cells.mv hc1891 hT2508
       have hr2192 := St.freeze (α := Int) hS2507 (.tl .hd) hm2195 hL
       have hS2193 := hS2507.del ((.tl .hd) : Out _ _ _).del
       have hT2194 := Tr.del (w := w2506) ((.tl .hd) : Out [.row w.heap.size 3 (Rep.size Int) (.slice (some ⟨b2509, 0, none⟩) 3 3) (([5, 5, 5] : List Int).length) [.int .i64 5, .int .i64 5, .int .i64 5], .row w.heap.size 3 (Rep.size Int) (.slice (some ⟨b1890, 0, none⟩) 1 1) (([5] : List Int).length) [.int .i64 5], .cells b1567 [v1565] 22, .cells b31 [.int .u64 (y26.2.1.fState.toNat : Int)] 37, .cells b18 [.int .u64 77] 37, .cells b13 [.int .i64 y1.fN, v7] 40] _ _).del
       have hr2196 : Rep.R w2506 (bl [.row w.heap.size 3 (Rep.size Int) (.slice (some ⟨b2509, 0, none⟩) 3 3) (([5, 5, 5] : List Int).length) [.int .i64 5, .int .i64 5, .int .i64 5], .cells b1567 [v1565] 22, .cells b31 [.int .u64 (y26.2.1.fState.toNat : Int)] 37, .cells b18 [.int .u64 77] 37, .cells b13 [.int .i64 y1.fN, v7] 40] ++ L) [(.slice (some ⟨b1890, 0, none⟩) 1 1)] ([5] : List Int) := hr2192
       refine RD.one (i := 9) (readyD_ok kt35 (by kernel_rfl)) (RO.call (m' := 2047) (fst := []) (cap := []) (stepC_ok kt35 (by kernel_rfl)) rfl (.yes rfl rfl) body20 rfl (evs_cons rfl evs_nil) (fun w9 hw9 => Calls.gives (wardmotelaw31_lists_c n _ w9 (hS2193.hL hL hw9) ([5] : List Int) (Rep.keep0 hr2196 hw9)) fun (w8 : World) (u8 : Value) ⟨b0_, hu_, s_⟩ => (⟨b0_, hu_, s_.from hw9⟩ : ∃ b2198 : Nat, u8 = Value.func (.func 38) #[] #[.pointer (some ⟨b2198, 0, none⟩)] ∧ St w2506 w8 [.cells b2198 [(.slice (some ⟨b1890, 0, none⟩) 1 1)] 22])) rfl (fun w2199 vu2200 hag2201 ⟨b2198, hu2203, s2202⟩ => ?_))
       subst hu2203
       have hS2204 : St w w2199 [.cells b2198 [(.slice (some ⟨b1890, 0, none⟩) 1 1)] 22, .row w.heap.size 3 (Rep.size Int) (.slice (some ⟨b2509, 0, none⟩) 3 3) (([5, 5, 5] : List Int).length) [.int .i64 5, .int .i64 5, .int .i64 5], .cells b1567 [v1565] 22, .cells b31 [.int .u64 (y26.2.1.fState.toNat : Int)] 37, .cells b18 [.int .u64 77] 37, .cells b13 [.int .i64 y1.fN, v7] 40] := St.merge hS2193 s2202
       have hT2205 : Tr w2506 [.row w.heap.size 3 (Rep.size Int) (.slice (some ⟨b2509, 0, none⟩) 3 3) (([5, 5, 5] : List Int).length) [.int .i64 5, .int .i64 5, .int .i64 5], .cells b1567 [v1565] 22, .cells b31 [.int .u64 (y26.2.1.fState.toNat : Int)] 37, .cells b18 [.int .u64 77] 37, .cells b13 [.int .i64 y1.fN, v7] 40] w2199 [.cells b2198 [(.slice (some ⟨b1890, 0, none⟩) 1 1)] 22, .row w.heap.size 3 (Rep.size Int) (.slice (some ⟨b2509, 0, none⟩) 3 3) (([5, 5, 5] : List Int).length) [.int .i64 5, .int .i64 5, .int .i64 5], .cells b1567 [v1565] 22, .cells b31 [.int .u64 (y26.2.1.fState.toNat : Int)] 37, .cells b18 [.int .u64 77] 37, .cells b13 [.int .i64 y1.fN, v7] 40] := Tr.merge hS2193 s2202
       have hS3332 : St _ _ [.row w.heap.size 3 (Rep.size Int) (.slice (some ⟨b2509, 0, none⟩) 3 3) (([5, 5, 5] : List Int).length) [.int .i64 5, .int .i64 5, .int .i64 5], .cells b2198 [(.slice (some ⟨b1890, 0, none⟩) 1 1)] 22, .cells b31 [.int .u64 (y26.2.1.fState.toNat : Int)] 37, .cells b18 [.int .u64 77] 37, .cells b13 [.int .i64 y1.fN, v7] 40] := hS2204.arr (.one (.tl .hd) (.one .hd (.one (.tl .hd) (.one (.tl .hd) (.one (.tl .hd) .done)))))
       have hT3333 : Tr w2199 _ w2199 [.row w.heap.size 3 (Rep.size Int) (.slice (some ⟨b2509, 0, none⟩) 3 3) (([5, 5, 5] : List Int).length) [.int .i64 5, .int .i64 5, .int .i64 5], .cells b2198 [(.slice (some ⟨b1890, 0, none⟩) 1 1)] 22, .cells b31 [.int .u64 (y26.2.1.fState.toNat : Int)] 37, .cells b18 [.int .u64 77] 37, .cells b13 [.int .i64 y1.fN, v7] 40] := Tr.arr (St.arrOf hS2204 (.one (.tl .hd) (.one .hd (.one (.tl .hd) (.one (.tl .hd) (.one (.tl .hd) .done))))))
       have hm3334 := Cells.mv hc2510 (Tr.trans hT2194 (Tr.trans hT2205 hT3333))
       have hm3335 := Rep.mv hr2196 (Tr.trans hT2205 hT3333)
       exact hJ3327 ((.slice (some ⟨b2509, 0, none⟩) 3 3), [.int .i64 5, .int .i64 5, .int .i64 5], (.slice (some ⟨b1890, 0, none⟩) 1 1), b2198) _ _ ⟨rfl, rfl, rfl, rfl, rfl, rfl, rfl, trivial⟩ ⟨hS3332, (Tr.trans hT1889 (Tr.trans hT2508 (Tr.trans hT2194 (Tr.trans hT2205 hT3333)))), hm3334, hm3335⟩
     ·skip
      refine RO.new (m' := 1279) (stepC_ok kt35 (by kernel_rfl)) rfl (.yes rfl rfl) rfl (Does.build (α := Int) (xs := ([5, 5, 5] : List Int)) (vs := [.int .i64 5, .int .i64 5, .int .i64 5]) (ds' := [.int .i64 5, .int .i64 5, .int .i64 5]) rfl hS1579 el22 rfl (evs_cons rfl (evs_cons rfl (evs_cons rfl evs_nil))) (by kernel_rfl) rfl) (fun w2506 b2509 hS2507 hT2508 => ?_)
      have hc2510 : Cells w2506 (bl [.row w.heap.size 3 (Rep.size Int) (.slice (some ⟨b2509, 0, none⟩) 3 3) (([5, 5, 5] : List Int).length) [.int .i64 5, .int .i64 5, .int .i64 5], .cells b1567 [v1565] 22, .cells b31 [.int .u64 (y26.2.1.fState.toNat : Int)] 37, .cells b18 [.int .u64 77] 37, .cells b13 [.int .i64 y1.fN, v7] 40] ++ L) [.int .i64 5, .int .i64 5, .int .i64 5] (([5, 5, 5] : List Int) : List Int) := Cells.cons (cs := [.int .i64 5]) (ds := [.int .i64 5, .int .i64 5]) rfl (Cells.cons (cs := [.int .i64 5]) (ds := [.int .i64 5]) rfl (Cells.cons (cs := [.int .i64 5]) (ds := []) rfl (Cells.nil _ _)))
      refine RD.one (i := 8) (readyD_ok kt35 (by kernel_rfl)) (RO.new (m' := 1535) (stepC_ok kt35 (by kernel_rfl)) rfl (.yes rfl rfl) rfl (Does.build (α := Int) (xs := ([5] : List Int)) (vs := [.int .i64 5]) (ds' := [.int .i64 5]) rfl hS2507 el22 rfl (evs_cons rfl evs_nil) (by kernel_rfl) rfl) (fun w1887 b1890 hS1888 hT1889 => ?_))
      have hc1891 : Cells w1887 (bl [.row w.heap.size 3 (Rep.size Int) (.slice (some ⟨b1890, 0, none⟩) 1 1) (([5] : List Int).length) [.int .i64 5], .row w.heap.size 3 (Rep.size Int) (.slice (some ⟨b2509, 0, none⟩) 3 3) (([5, 5, 5] : List Int).length) [.int .i64 5, .int .i64 5, .int .i64 5], .cells b1567 [v1565] 22, .cells b31 [.int .u64 (y26.2.1.fState.toNat : Int)] 37, .cells b18 [.int .u64 77] 37, .cells b13 [.int .i64 y1.fN, v7] 40] ++ L) [.int .i64 5] (([5] : List Int) : List Int) := Cells.cons (cs := [.int .i64 5]) (ds := []) rfl (Cells.nil _ _)
      have hr2192 := St.freeze (α := Int) hS1888 .hd hc1891 hL
      have hS2193 := hS1888.del (.hd : Out _ _ _).del
      have hT2194 := Tr.del (w := w1887) (.hd : Out [.row w.heap.size 3 (Rep.size Int) (.slice (some ⟨b1890, 0, none⟩) 1 1) (([5] : List Int).length) [.int .i64 5], .row w.heap.size 3 (Rep.size Int) (.slice (some ⟨b2509, 0, none⟩) 3 3) (([5, 5, 5] : List Int).length) [.int .i64 5, .int .i64 5, .int .i64 5], .cells b1567 [v1565] 22, .cells b31 [.int .u64 (y26.2.1.fState.toNat : Int)] 37, .cells b18 [.int .u64 77] 37, .cells b13 [.int .i64 y1.fN, v7] 40] _ _).del
      have hr2195 : Rep.R w1887 (bl [.row w.heap.size 3 (Rep.size Int) (.slice (some ⟨b2509, 0, none⟩) 3 3) (([5, 5, 5] : List Int).length) [.int .i64 5, .int .i64 5, .int .i64 5], .cells b1567 [v1565] 22, .cells b31 [.int .u64 (y26.2.1.fState.toNat : Int)] 37, .cells b18 [.int .u64 77] 37, .cells b13 [.int .i64 y1.fN, v7] 40] ++ L) [(.slice (some ⟨b1890, 0, none⟩) 1 1)] ([5] : List Int) := hr2192
      refine RD.one (i := 9) (readyD_ok kt35 (by kernel_rfl)) (RO.call (m' := 2047) (fst := []) (cap := []) (stepC_ok kt35 (by kernel_rfl)) rfl (.yes rfl rfl) body20 rfl (evs_cons rfl evs_nil) (fun w9 hw9 => Calls.gives (wardmotelaw31_lists_c n _ w9 (hS2193.hL hL hw9) ([5] : List Int) (Rep.keep0 hr2195 hw9)) fun (w8 : World) (u8 : Value) ⟨b0_, hu_, s_⟩ => (⟨b0_, hu_, s_.from hw9⟩ : ∃ b2197 : Nat, u8 = Value.func (.func 38) #[] #[.pointer (some ⟨b2197, 0, none⟩)] ∧ St w1887 w8 [.cells b2197 [(.slice (some ⟨b1890, 0, none⟩) 1 1)] 22])) rfl (fun w2198 vu2199 hag2200 ⟨b2197, hu2202, s2201⟩ => ?_))
      subst hu2202
      have hS2203 : St w w2198 [.cells b2197 [(.slice (some ⟨b1890, 0, none⟩) 1 1)] 22, .row w.heap.size 3 (Rep.size Int) (.slice (some ⟨b2509, 0, none⟩) 3 3) (([5, 5, 5] : List Int).length) [.int .i64 5, .int .i64 5, .int .i64 5], .cells b1567 [v1565] 22, .cells b31 [.int .u64 (y26.2.1.fState.toNat : Int)] 37, .cells b18 [.int .u64 77] 37, .cells b13 [.int .i64 y1.fN, v7] 40] := St.merge hS2193 s2201
      have hT2204 : Tr w1887 [.row w.heap.size 3 (Rep.size Int) (.slice (some ⟨b2509, 0, none⟩) 3 3) (([5, 5, 5] : List Int).length) [.int .i64 5, .int .i64 5, .int .i64 5], .cells b1567 [v1565] 22, .cells b31 [.int .u64 (y26.2.1.fState.toNat : Int)] 37, .cells b18 [.int .u64 77] 37, .cells b13 [.int .i64 y1.fN, v7] 40] w2198 [.cells b2197 [(.slice (some ⟨b1890, 0, none⟩) 1 1)] 22, .row w.heap.size 3 (Rep.size Int) (.slice (some ⟨b2509, 0, none⟩) 3 3) (([5, 5, 5] : List Int).length) [.int .i64 5, .int .i64 5, .int .i64 5], .cells b1567 [v1565] 22, .cells b31 [.int .u64 (y26.2.1.fState.toNat : Int)] 37, .cells b18 [.int .u64 77] 37, .cells b13 [.int .i64 y1.fN, v7] 40] := Tr.merge hS2193 s2201
      have hS3336 : St _ _ [.row w.heap.size 3 (Rep.size Int) (.slice (some ⟨b2509, 0, none⟩) 3 3) (([5, 5, 5] : List Int).length) [.int .i64 5, .int .i64 5, .int .i64 5], .cells b2197 [(.slice (some ⟨b1890, 0, none⟩) 1 1)] 22, .cells b31 [.int .u64 (y26.2.1.fState.toNat : Int)] 37, .cells b18 [.int .u64 77] 37, .cells b13 [.int .i64 y1.fN, v7] 40] := hS2203.arr (.one (.tl .hd) (.one .hd (.one (.tl .hd) (.one (.tl .hd) (.one (.tl .hd) .done)))))
      have hT3337 : Tr w2198 _ w2198 [.row w.heap.size 3 (Rep.size Int) (.slice (some ⟨b2509, 0, none⟩) 3 3) (([5, 5, 5] : List Int).length) [.int .i64 5, .int .i64 5, .int .i64 5], .cells b2197 [(.slice (some ⟨b1890, 0, none⟩) 1 1)] 22, .cells b31 [.int .u64 (y26.2.1.fState.toNat : Int)] 37, .cells b18 [.int .u64 77] 37, .cells b13 [.int .i64 y1.fN, v7] 40] := Tr.arr (St.arrOf hS2203 (.one (.tl .hd) (.one .hd (.one (.tl .hd) (.one (.tl .hd) (.one (.tl .hd) .done))))))
      have hm3338 := Cells.mv hc2510 (Tr.trans hT1889 (Tr.trans hT2194 (Tr.trans hT2204 hT3337)))
      have hm3339 := Rep.mv hr2195 (Tr.trans hT2204 hT3337)
      exact hJ3327 ((.slice (some ⟨b2509, 0, none⟩) 3 3), [.int .i64 5, .int .i64 5, .int .i64 5], (.slice (some ⟨b1890, 0, none⟩) 1 1), b2197) _ _ ⟨rfl, rfl, rfl, rfl, rfl, rfl, rfl, trivial⟩ ⟨hS3336, (Tr.trans hT2508 (Tr.trans hT1889 (Tr.trans hT2194 (Tr.trans hT2204 hT3337)))), hm3338, hm3339⟩
   ·skip
    refine RD.offs 32767 84 [(8, 22), (9, 23), (10, 24), (11, 25), (12, 26), (13, 27), (14, 28)] (F := [(21, false)]) (U := []) kt35 kp36 (.cons rfl .nil) .nil ?_
    dsimp only [offS, List.map]
    refine RD.vP 15 65535 kt35 rfl kp36 .plain (fun _ => FV.pick_f rfl rfl) rfl ?_
    refine RD.vP 16 131071 kt35 rfl kp36 .plain (fun _ => FV.move rfl) rfl ?_
    refine RD.offs 4194303 77 [(17, 31), (18, 32), (19, 33), (20, 34), (21, 35)] (F := [(30, false)]) (U := []) kt35 kp36 (.cons rfl .nil) .nil ?_
    dsimp only [offS, List.map]
    refine RD.vP 22 8388607 kt35 rfl kp36 .plain (fun _ => FV.pick_f rfl rfl) rfl ?_
    refine RD.vP 23 16777215 kt35 rfl kp36 .plain (fun _ => FV.move rfl) rfl ?_
    refine RD.offs 17179869183 65 [(24, 38), (25, 39), (26, 40), (27, 41), (28, 42), (29, 43), (30, 44), (31, 45), (32, 46), (33, 47)] (F := [(37, false)]) (U := []) kt35 kp36 (.cons rfl .nil) .nil ?_
    dsimp only [offS, List.map]
    refine RD.vP 34 34359738367 kt35 rfl kp36 .plain (fun _ => FV.pick_f rfl rfl) rfl ?_
    refine RD.vP 35 68719476735 kt35 rfl kp36 .plain (fun _ => FV.move rfl) rfl ?_
    refine RD.offs 17592186044415 55 [(36, 50), (37, 51), (38, 52), (39, 53), (40, 54), (41, 55), (42, 56), (43, 57)] (F := [(49, false)]) (U := []) kt35 kp36 (.cons rfl .nil) .nil ?_
    dsimp only [offS, List.map]
    refine RD.vP 44 35184372088831 kt35 rfl kp36 .plain (fun _ => FV.pick_f rfl rfl) rfl ?_
    refine RD.vP 45 70368744177663 kt35 rfl kp36 .plain (fun _ => FV.move rfl) rfl ?_
    refine RD.offs 18014398509481983 45 [(46, 60), (47, 61), (48, 62), (49, 63), (50, 64), (51, 65), (52, 66), (53, 67)] (F := [(59, false)]) (U := []) kt35 kp36 (.cons rfl .nil) .nil ?_
    dsimp only [offS, List.map]
    refine RD.vP 54 36028797018963967 kt35 rfl kp36 .plain (fun _ => FV.pick_f rfl rfl) rfl ?_
    refine RD.vP 55 72057594037927935 kt35 rfl kp36 .plain (fun _ => FV.move rfl) rfl ?_
    refine RD.offs 73786976294838206463 33 [(56, 70), (57, 71), (58, 72), (59, 73), (60, 74), (61, 75), (62, 76), (63, 77), (64, 78), (65, 79)] (F := [(69, false)]) (U := []) kt35 kp36 (.cons rfl .nil) .nil ?_
    dsimp only [offS, List.map]
    refine RD.vP 66 147573952589676412927 kt35 rfl kp36 .plain (fun _ => FV.pick_f rfl rfl) rfl ?_
    refine RD.vP 67 295147905179352825855 kt35 rfl kp36 .plain (fun _ => FV.move rfl) rfl ?_
    refine RD.offs 151115727451828646838271 22 [(68, 82), (69, 83), (70, 84), (71, 85), (72, 86), (73, 87), (74, 88), (75, 89), (76, 90)] (F := [(81, false)]) (U := []) kt35 kp36 (.cons rfl .nil) .nil ?_
    dsimp only [offS, List.map]
    refine RD.vP 77 302231454903657293676543 kt35 rfl kp36 .plain (fun _ => FV.pick_f rfl rfl) rfl ?_
    refine RD.vP 78 604462909807314587353087 kt35 rfl kp36 .plain (fun _ => FV.move rfl) rfl ?_
    refine RD.offs 154742504910672534362390527 12 [(79, 93), (80, 94), (81, 95), (82, 96), (83, 97), (84, 98), (85, 99), (86, 100)] (F := [(92, false)]) (U := []) kt35 kp36 (.cons rfl .nil) .nil ?_
    dsimp only [offS, List.map]
    refine RD.vP 87 309485009821345068724781055 kt35 rfl kp36 .plain (fun _ => FV.pick_f rfl rfl) rfl ?_
    refine RD.vP 88 618970019642690137449562111 kt35 rfl kp36 .plain (fun _ => FV.move rfl) rfl ?_
    refine RD.offs 158456325028528675187087900671 2 [(89, 103), (90, 104), (91, 105), (92, 106), (93, 107), (94, 108), (95, 109), (96, 110)] (F := [(102, false)]) (U := []) kt35 kp36 (.cons rfl .nil) .nil ?_
    dsimp only [offS, List.map]
    refine RD.vP 97 316912650057057350374175801343 kt35 rfl kp36 .plain (fun _ => FV.pick_f rfl rfl) rfl ?_
    refine RD.vP 98 633825300114114700748351602687 kt35 rfl kp36 .plain (fun _ => FV.assign rfl) rfl ?_
    refine RD.done (doneD_ok kt35 (by kernel_rfl)) ?_
    refine MX.ret rfl ?_
    refine RT.leave (u := .bool false) hb0 Tryd.func9 rfl (.cons (.tmp rfl) .nil) rfl ?_
    obtain rfl := Option.some.inj h
    exact ⟨hS1579.ag, fun w9 hw9 => rfl⟩
  ·skip
   intro hJ3340
   refine RD.each [0, 2] (readyD_ok kt35 (by kernel_rfl)) ⟨?_, ?_, trivial⟩
   ·skip
    refine RO.new (m' := 1) (stepC_ok kt35 (by kernel_rfl)) rfl .plain rfl (Does.build (α := Int) (xs := ([0, 1, 3] : List Int)) (vs := [.int .i64 0, .int .i64 1, .int .i64 3]) (ds' := [.int .i64 0, .int .i64 1, .int .i64 3]) rfl hS33 el22 rfl (evs_cons rfl (evs_cons rfl (evs_cons rfl evs_nil))) (by kernel_rfl) rfl) (fun w338 b341 hS339 hT340 => ?_)
    have hc342 : Cells w338 (bl [.row w.heap.size 3 (Rep.size Int) (.slice (some ⟨b341, 0, none⟩) 3 3) (([0, 1, 3] : List Int).length) [.int .i64 0, .int .i64 1, .int .i64 3], .cells b31 [.int .u64 (y26.2.1.fState.toNat : Int)] 37, .cells b18 [.int .u64 77] 37, .cells b13 [.int .i64 y1.fN, v7] 40] ++ L) [.int .i64 0, .int .i64 1, .int .i64 3] (([0, 1, 3] : List Int) : List Int) := Cells.cons (cs := [.int .i64 0]) (ds := [.int .i64 1, .int .i64 3]) rfl (Cells.cons (cs := [.int .i64 1]) (ds := [.int .i64 3]) rfl (Cells.cons (cs := [.int .i64 3]) (ds := []) rfl (Cells.nil _ _)))
    refine RD.each [1, 2] (readyD_ok kt35 (by kernel_rfl)) ⟨?_, ?_, trivial⟩
    ·skip
     have hr643 := St.freeze (α := Int) hS339 .hd hc342 hL
     have hS644 := hS339.del (.hd : Out _ _ _).del
     have hT645 := Tr.del (w := w338) (.hd : Out [.row w.heap.size 3 (Rep.size Int) (.slice (some ⟨b341, 0, none⟩) 3 3) (([0, 1, 3] : List Int).length) [.int .i64 0, .int .i64 1, .int .i64 3], .cells b31 [.int .u64 (y26.2.1.fState.toNat : Int)] 37, .cells b18 [.int .u64 77] 37, .cells b13 [.int .i64 y1.fN, v7] 40] _ _).del
     have hr646 : Rep.R w338 (bl [.cells b31 [.int .u64 (y26.2.1.fState.toNat : Int)] 37, .cells b18 [.int .u64 77] 37, .cells b13 [.int .i64 y1.fN, v7] 40] ++ L) [(.slice (some ⟨b341, 0, none⟩) 3 3)] ([0, 1, 3] : List Int) := hr643
     refine RO.call (m' := 3) (fst := []) (cap := []) (stepC_ok kt35 (by kernel_rfl)) rfl .plain body20 rfl (evs_cons rfl evs_nil) (fun w9 hw9 => Calls.gives (wardmotelaw31_lists_c n _ w9 (hS644.hL hL hw9) ([0, 1, 3] : List Int) (Rep.keep0 hr646 hw9)) fun (w8 : World) (u8 : Value) ⟨b0_, hu_, s_⟩ => (⟨b0_, hu_, s_.from hw9⟩ : ∃ b648 : Nat, u8 = Value.func (.func 38) #[] #[.pointer (some ⟨b648, 0, none⟩)] ∧ St w338 w8 [.cells b648 [(.slice (some ⟨b341, 0, none⟩) 3 3)] 22])) rfl (fun w649 vu650 hag651 ⟨b648, hu653, s652⟩ => ?_)
     subst hu653
     have hS654 : St w w649 [.cells b648 [(.slice (some ⟨b341, 0, none⟩) 3 3)] 22, .cells b31 [.int .u64 (y26.2.1.fState.toNat : Int)] 37, .cells b18 [.int .u64 77] 37, .cells b13 [.int .i64 y1.fN, v7] 40] := St.merge hS644 s652
     have hT655 : Tr w338 [.cells b31 [.int .u64 (y26.2.1.fState.toNat : Int)] 37, .cells b18 [.int .u64 77] 37, .cells b13 [.int .i64 y1.fN, v7] 40] w649 [.cells b648 [(.slice (some ⟨b341, 0, none⟩) 3 3)] 22, .cells b31 [.int .u64 (y26.2.1.fState.toNat : Int)] 37, .cells b18 [.int .u64 77] 37, .cells b13 [.int .i64 y1.fN, v7] 40] := Tr.merge hS644 s652
     refine RD.one (i := 2) (readyD_ok kt35 (by kernel_rfl)) (RO.new (m' := 7) (stepC_ok kt35 (by kernel_rfl)) rfl .plain rfl (Does.build (α := Int) (xs := ([0, 1, 2, 1, 3] : List Int)) (vs := [.int .i64 0, .int .i64 1, .int .i64 2, .int .i64 1, .int .i64 3]) (ds' := [.int .i64 0, .int .i64 1, .int .i64 2, .int .i64 1, .int .i64 3]) rfl hS654 el22 rfl (evs_cons rfl (evs_cons rfl (evs_cons rfl (evs_cons rfl (evs_cons rfl evs_nil))))) (by kernel_rfl) rfl) (fun w957 b960 hS958 hT959 => ?_))
     have hc961 : Cells w957 (bl [.row w.heap.size 3 (Rep.size Int) (.slice (some ⟨b960, 0, none⟩) 5 5) (([0, 1, 2, 1, 3] : List Int).length) [.int .i64 0, .int .i64 1, .int .i64 2, .int .i64 1, .int .i64 3], .cells b648 [(.slice (some ⟨b341, 0, none⟩) 3 3)] 22, .cells b31 [.int .u64 (y26.2.1.fState.toNat : Int)] 37, .cells b18 [.int .u64 77] 37, .cells b13 [.int .i64 y1.fN, v7] 40] ++ L) [.int .i64 0, .int .i64 1, .int .i64 2, .int .i64 1, .int .i64 3] (([0, 1, 2, 1, 3] : List Int) : List Int) := Cells.cons (cs := [.int .i64 0]) (ds := [.int .i64 1, .int .i64 2, .int .i64 1, .int .i64 3]) rfl (Cells.cons (cs := [.int .i64 1]) (ds := [.int .i64 2, .int .i64 1, .int .i64 3]) rfl (Cells.cons (cs := [.int .i64 2]) (ds := [.int .i64 1, .int .i64 3]) rfl (Cells.cons (cs := [.int .i64 1]) (ds := [.int .i64 3]) rfl (Cells.cons (cs := [.int .i64 3]) (ds := []) rfl (Cells.nil _ _)))))
     have hm3341 := Rep.mv hr646 (Tr.trans hT655 hT959)
     exact hJ3340 ((.slice (some ⟨b960, 0, none⟩) 5 5), [.int .i64 0, .int .i64 1, .int .i64 2, .int .i64 1, .int .i64 3], (.slice (some ⟨b341, 0, none⟩) 3 3), b648) _ _ ⟨rfl, rfl, rfl, rfl, rfl, rfl, trivial⟩ ⟨hS958, (Tr.trans hT340 (Tr.trans hT645 (Tr.trans hT655 hT959))), hc961, hm3341⟩
    ·skip
     refine RO.new (m' := 5) (stepC_ok kt35 (by kernel_rfl)) rfl .plain rfl (Does.build (α := Int) (xs := ([0, 1, 2, 1, 3] : List Int)) (vs := [.int .i64 0, .int .i64 1, .int .i64 2, .int .i64 1, .int .i64 3]) (ds' := [.int .i64 0, .int .i64 1, .int .i64 2, .int .i64 1, .int .i64 3]) rfl hS339 el22 rfl (evs_cons rfl (evs_cons rfl (evs_cons rfl (evs_cons rfl (evs_cons rfl evs_nil))))) (by kernel_rfl) rfl) (fun w957 b960 hS958 hT959 => ?_)
     have hc961 : Cells w957 (bl [.row w.heap.size 3 (Rep.size Int) (.slice (some ⟨b960, 0, none⟩) 5 5) (([0, 1, 2, 1, 3] : List Int).length) [.int .i64 0, .int .i64 1, .int .i64 2, .int .i64 1, .int .i64 3], .row w.heap.size 3 (Rep.size Int) (.slice (some ⟨b341, 0, none⟩) 3 3) (([0, 1, 3] : List Int).length) [.int .i64 0, .int .i64 1, .int .i64 3], .cells b31 [.int .u64 (y26.2.1.fState.toNat : Int)] 37, .cells b18 [.int .u64 77] 37, .cells b13 [.int .i64 y1.fN, v7] 40] ++ L) [.int .i64 0, .int .i64 1, .int .i64 2, .int .i64 1, .int .i64 3] (([0, 1, 2, 1, 3] : List Int) : List Int) := Cells.cons (cs := [.int .i64 0]) (ds := [.int .i64 1, .int .i64 2, .int .i64 1, .int .i64 3]) rfl (Cells.cons (cs := [.int .i64 1]) (ds := [.int .i64 2, .int .i64 1, .int .i64 3]) rfl (Cells.cons (cs := [.int .i64 2]) (ds := [.int .i64 1, .int .i64 3]) rfl (Cells.cons (cs := [.int .i64 1]) (ds := [.int .i64 3]) rfl (Cells.cons (cs := [.int .i64 3]) (ds := []) rfl (Cells.nil _ _)))))
     have hm646 := Cells.mv hc342 hT959
     have hr643 := St.freeze (α := Int) hS958 (.tl .hd) hm646 hL
     have hS644 := hS958.del ((.tl .hd) : Out _ _ _).del
     have hT645 := Tr.del (w := w957) ((.tl .hd) : Out [.row w.heap.size 3 (Rep.size Int) (.slice (some ⟨b960, 0, none⟩) 5 5) (([0, 1, 2, 1, 3] : List Int).length) [.int .i64 0, .int .i64 1, .int .i64 2, .int .i64 1, .int .i64 3], .row w.heap.size 3 (Rep.size Int) (.slice (some ⟨b341, 0, none⟩) 3 3) (([0, 1, 3] : List Int).length) [.int .i64 0, .int .i64 1, .int .i64 3], .cells b31 [.int .u64 (y26.2.1.fState.toNat : Int)] 37, .cells b18 [.int .u64 77] 37, .cells b13 [.int .i64 y1.fN, v7] 40] _ _).del
     have hr647 : Rep.R w957 (bl [.row w.heap.size 3 (Rep.size Int) (.slice (some ⟨b960, 0, none⟩) 5 5) (([0, 1, 2, 1, 3] : List Int).length) [.int .i64 0, .int .i64 1, .int .i64 2, .int .i64 1, .int .i64 3], .cells b31 [.int .u64 (y26.2.1.fState.toNat : Int)] 37, .cells b18 [.int .u64 77] 37, .cells b13 [.int .i64 y1.fN, v7] 40] ++ L) [(.slice (some ⟨b341, 0, none⟩) 3 3)] ([0, 1, 3] : List Int) := hr643
     refine RD.one (i := 1) (readyD_ok kt35 (by kernel_rfl)) (RO.call (m' := 7) (fst := []) (cap := []) (stepC_ok kt35 (by kernel_rfl)) rfl .plain body20 rfl (evs_cons rfl evs_nil) (fun w9 hw9 => Calls.gives (wardmotelaw31_lists_c n _ w9 (hS644.hL hL hw9) ([0, 1, 3] : List Int) (Rep.keep0 hr647 hw9)) fun (w8 : World) (u8 : Value) ⟨b0_, hu_, s_⟩ => (⟨b0_, hu_, s_.from hw9⟩ : ∃ b649 : Nat, u8 = Value.func (.func 38) #[] #[.pointer (some ⟨b649, 0, none⟩)] ∧ St w957 w8 [.cells b649 [(.slice (some ⟨b341, 0, none⟩) 3 3)] 22])) rfl (fun w650 vu651 hag652 ⟨b649, hu654, s653⟩ => ?_))
     subst hu654
     have hS655 : St w w650 [.cells b649 [(.slice (some ⟨b341, 0, none⟩) 3 3)] 22, .row w.heap.size 3 (Rep.size Int) (.slice (some ⟨b960, 0, none⟩) 5 5) (([0, 1, 2, 1, 3] : List Int).length) [.int .i64 0, .int .i64 1, .int .i64 2, .int .i64 1, .int .i64 3], .cells b31 [.int .u64 (y26.2.1.fState.toNat : Int)] 37, .cells b18 [.int .u64 77] 37, .cells b13 [.int .i64 y1.fN, v7] 40] := St.merge hS644 s653
     have hT656 : Tr w957 [.row w.heap.size 3 (Rep.size Int) (.slice (some ⟨b960, 0, none⟩) 5 5) (([0, 1, 2, 1, 3] : List Int).length) [.int .i64 0, .int .i64 1, .int .i64 2, .int .i64 1, .int .i64 3], .cells b31 [.int .u64 (y26.2.1.fState.toNat : Int)] 37, .cells b18 [.int .u64 77] 37, .cells b13 [.int .i64 y1.fN, v7] 40] w650 [.cells b649 [(.slice (some ⟨b341, 0, none⟩) 3 3)] 22, .row w.heap.size 3 (Rep.size Int) (.slice (some ⟨b960, 0, none⟩) 5 5) (([0, 1, 2, 1, 3] : List Int).length) [.int .i64 0, .int .i64 1, .int .i64 2, .int .i64 1, .int .i64 3], .cells b31 [.int .u64 (y26.2.1.fState.toNat : Int)] 37, .cells b18 [.int .u64 77] 37, .cells b13 [.int .i64 y1.fN, v7] 40] := Tr.merge hS644 s653
     have hS3342 : St _ _ [.row w.heap.size 3 (Rep.size Int) (.slice (some ⟨b960, 0, none⟩) 5 5) (([0, 1, 2, 1, 3] : List Int).length) [.int .i64 0, .int .i64 1, .int .i64 2, .int .i64 1, .int .i64 3], .cells b649 [(.slice (some ⟨b341, 0, none⟩) 3 3)] 22, .cells b31 [.int .u64 (y26.2.1.fState.toNat : Int)] 37, .cells b18 [.int .u64 77] 37, .cells b13 [.int .i64 y1.fN, v7] 40] := hS655.arr (.one (.tl .hd) (.one .hd (.one .hd (.one .hd (.one .hd .done)))))
     have hT3343 : Tr w650 _ w650 [.row w.heap.size 3 (Rep.size Int) (.slice (some ⟨b960, 0, none⟩) 5 5) (([0, 1, 2, 1, 3] : List Int).length) [.int .i64 0, .int .i64 1, .int .i64 2, .int .i64 1, .int .i64 3], .cells b649 [(.slice (some ⟨b341, 0, none⟩) 3 3)] 22, .cells b31 [.int .u64 (y26.2.1.fState.toNat : Int)] 37, .cells b18 [.int .u64 77] 37, .cells b13 [.int .i64 y1.fN, v7] 40] := Tr.arr (St.arrOf hS655 (.one (.tl .hd) (.one .hd (.one .hd (.one .hd (.one .hd .done))))))
     have hm3344 := Cells.mv hc961 (Tr.trans hT645 (Tr.trans hT656 hT3343))
     have hm3345 := Rep.mv hr647 (Tr.trans hT656 hT3343)
     exact hJ3340 ((.slice (some ⟨b960, 0, none⟩) 5 5), [.int .i64 0, .int .i64 1, .int .i64 2, .int .i64 1, .int .i64 3], (.slice (some ⟨b341, 0, none⟩) 3 3), b649) _ _ ⟨rfl, rfl, rfl, rfl, rfl, rfl, trivial⟩ ⟨hS3342, (Tr.trans hT340 (Tr.trans hT959 (Tr.trans hT645 (Tr.trans hT656 hT3343)))), hm3344, hm3345⟩
   ·skip
    refine RO.new (m' := 4) (stepC_ok kt35 (by kernel_rfl)) rfl .plain rfl (Does.build (α := Int) (xs := ([0, 1, 2, 1, 3] : List Int)) (vs := [.int .i64 0, .int .i64 1, .int .i64 2, .int .i64 1, .int .i64 3]) (ds' := [.int .i64 0, .int .i64 1, .int .i64 2, .int .i64 1, .int .i64 3]) rfl hS33 el22 rfl (evs_cons rfl (evs_cons rfl (evs_cons rfl (evs_cons rfl (evs_cons rfl evs_nil))))) (by kernel_rfl) rfl) (fun w957 b960 hS958 hT959 => ?_)
    have hc961 : Cells w957 (bl [.row w.heap.size 3 (Rep.size Int) (.slice (some ⟨b960, 0, none⟩) 5 5) (([0, 1, 2, 1, 3] : List Int).length) [.int .i64 0, .int .i64 1, .int .i64 2, .int .i64 1, .int .i64 3], .cells b31 [.int .u64 (y26.2.1.fState.toNat : Int)] 37, .cells b18 [.int .u64 77] 37, .cells b13 [.int .i64 y1.fN, v7] 40] ++ L) [.int .i64 0, .int .i64 1, .int .i64 2, .int .i64 1, .int .i64 3] (([0, 1, 2, 1, 3] : List Int) : List Int) := Cells.cons (cs := [.int .i64 0]) (ds := [.int .i64 1, .int .i64 2, .int .i64 1, .int .i64 3]) rfl (Cells.cons (cs := [.int .i64 1]) (ds := [.int .i64 2, .int .i64 1, .int .i64 3]) rfl (Cells.cons (cs := [.int .i64 2]) (ds := [.int .i64 1, .int .i64 3]) rfl (Cells.cons (cs := [.int .i64 1]) (ds := [.int .i64 3]) rfl (Cells.cons (cs := [.int .i64 3]) (ds := []) rfl (Cells.nil _ _)))))
    refine RD.one (i := 0) (readyD_ok kt35 (by kernel_rfl)) (RO.new (m' := 5) (stepC_ok kt35 (by kernel_rfl)) rfl .plain rfl (Does.build (α := Int) (xs := ([0, 1, 3] : List Int)) (vs := [.int .i64 0, .int .i64 1, .int .i64 3]) (ds' := [.int .i64 0, .int .i64 1, .int .i64 3]) rfl hS958 el22 rfl (evs_cons rfl (evs_cons rfl (evs_cons rfl evs_nil))) (by kernel_rfl) rfl) (fun w338 b341 hS339 hT340 => ?_))
    have hc342 : Cells w338 (bl [.row w.heap.size 3 (Rep.size Int) (.slice (some ⟨b341, 0, none⟩) 3 3) (([0, 1, 3] : List Int).length) [.int .i64 0, .int .i64 1, .int .i64 3], .row w.heap.size 3 (Rep.size Int) (.slice (some ⟨b960, 0, none⟩) 5 5) (([0, 1, 2, 1, 3] : List Int).length) [.int .i64 0, .int .i64 1, .int .i64 2, .int .i64 1, .int .i64 3], .cells b31 [.int .u64 (y26.2.1.fState.toNat : Int)] 37, .cells b18 [.int .u64 77] 37, .cells b13 [.int .i64 y1.fN, v7] 40] ++ L) [.int .i64 0, .int .i64 1, .int .i64 3] (([0, 1, 3] : List Int) : List Int) := Cells.cons (cs := [.int .i64 0]) (ds := [.int .i64 1, .int .i64 3]) rfl (Cells.cons (cs := [.int .i64 1]) (ds := [.int .i64 3]) rfl (Cells.cons (cs := [.int .i64 3]) (ds := []) rfl (Cells.nil _ _)))
    have hr643 := St.freeze (α := Int) hS339 .hd hc342 hL
    have hS644 := hS339.del (.hd : Out _ _ _).del
    have hT645 := Tr.del (w := w338) (.hd : Out [.row w.heap.size 3 (Rep.size Int) (.slice (some ⟨b341, 0, none⟩) 3 3) (([0, 1, 3] : List Int).length) [.int .i64 0, .int .i64 1, .int .i64 3], .row w.heap.size 3 (Rep.size Int) (.slice (some ⟨b960, 0, none⟩) 5 5) (([0, 1, 2, 1, 3] : List Int).length) [.int .i64 0, .int .i64 1, .int .i64 2, .int .i64 1, .int .i64 3], .cells b31 [.int .u64 (y26.2.1.fState.toNat : Int)] 37, .cells b18 [.int .u64 77] 37, .cells b13 [.int .i64 y1.fN, v7] 40] _ _).del
    have hr646 : Rep.R w338 (bl [.row w.heap.size 3 (Rep.size Int) (.slice (some ⟨b960, 0, none⟩) 5 5) (([0, 1, 2, 1, 3] : List Int).length) [.int .i64 0, .int .i64 1, .int .i64 2, .int .i64 1, .int .i64 3], .cells b31 [.int .u64 (y26.2.1.fState.toNat : Int)] 37, .cells b18 [.int .u64 77] 37, .cells b13 [.int .i64 y1.fN, v7] 40] ++ L) [(.slice (some ⟨b341, 0, none⟩) 3 3)] ([0, 1, 3] : List Int) := hr643
    refine RD.one (i := 1) (readyD_ok kt35 (by kernel_rfl)) (RO.call (m' := 7) (fst := []) (cap := []) (stepC_ok kt35 (by kernel_rfl)) rfl .plain body20 rfl (evs_cons rfl evs_nil) (fun w9 hw9 => Calls.gives (wardmotelaw31_lists_c n _ w9 (hS644.hL hL hw9) ([0, 1, 3] : List Int) (Rep.keep0 hr646 hw9)) fun (w8 : World) (u8 : Value) ⟨b0_, hu_, s_⟩ => (⟨b0_, hu_, s_.from hw9⟩ : ∃ b648 : Nat, u8 = Value.func (.func 38) #[] #[.pointer (some ⟨b648, 0, none⟩)] ∧ St w338 w8 [.cells b648 [(.slice (some ⟨b341, 0, none⟩) 3 3)] 22])) rfl (fun w649 vu650 hag651 ⟨b648, hu653, s652⟩ => ?_))
    subst hu653
    have hS654 : St w w649 [.cells b648 [(.slice (some ⟨b341, 0, none⟩) 3 3)] 22, .row w.heap.size 3 (Rep.size Int) (.slice (some ⟨b960, 0, none⟩) 5 5) (([0, 1, 2, 1, 3] : List Int).length) [.int .i64 0, .int .i64 1, .int .i64 2, .int .i64 1, .int .i64 3], .cells b31 [.int .u64 (y26.2.1.fState.toNat : Int)] 37, .cells b18 [.int .u64 77] 37, .cells b13 [.int .i64 y1.fN, v7] 40] := St.merge hS644 s652
    have hT655 : Tr w338 [.row w.heap.size 3 (Rep.size Int) (.slice (some ⟨b960, 0, none⟩) 5 5) (([0, 1, 2, 1, 3] : List Int).length) [.int .i64 0, .int .i64 1, .int .i64 2, .int .i64 1, .int .i64 3], .cells b31 [.int .u64 (y26.2.1.fState.toNat : Int)] 37, .cells b18 [.int .u64 77] 37, .cells b13 [.int .i64 y1.fN, v7] 40] w649 [.cells b648 [(.slice (some ⟨b341, 0, none⟩) 3 3)] 22, .row w.heap.size 3 (Rep.size Int) (.slice (some ⟨b960, 0, none⟩) 5 5) (([0, 1, 2, 1, 3] : List Int).length) [.int .i64 0, .int .i64 1, .int .i64 2, .int .i64 1, .int .i64 3], .cells b31 [.int .u64 (y26.2.1.fState.toNat : Int)] 37, .cells b18 [.int .u64 77] 37, .cells b13 [.int .i64 y1.fN, v7] 40] := Tr.merge hS644 s652
    have hS3346 : St _ _ [.row w.heap.size 3 (Rep.size Int) (.slice (some ⟨b960, 0, none⟩) 5 5) (([0, 1, 2, 1, 3] : List Int).length) [.int .i64 0, .int .i64 1, .int .i64 2, .int .i64 1, .int .i64 3], .cells b648 [(.slice (some ⟨b341, 0, none⟩) 3 3)] 22, .cells b31 [.int .u64 (y26.2.1.fState.toNat : Int)] 37, .cells b18 [.int .u64 77] 37, .cells b13 [.int .i64 y1.fN, v7] 40] := hS654.arr (.one (.tl .hd) (.one .hd (.one .hd (.one .hd (.one .hd .done)))))
    have hT3347 : Tr w649 _ w649 [.row w.heap.size 3 (Rep.size Int) (.slice (some ⟨b960, 0, none⟩) 5 5) (([0, 1, 2, 1, 3] : List Int).length) [.int .i64 0, .int .i64 1, .int .i64 2, .int .i64 1, .int .i64 3], .cells b648 [(.slice (some ⟨b341, 0, none⟩) 3 3)] 22, .cells b31 [.int .u64 (y26.2.1.fState.toNat : Int)] 37, .cells b18 [.int .u64 77] 37, .cells b13 [.int .i64 y1.fN, v7] 40] := Tr.arr (St.arrOf hS654 (.one (.tl .hd) (.one .hd (.one .hd (.one .hd (.one .hd .done))))))
    have hm3348 := Cells.mv hc961 (Tr.trans hT340 (Tr.trans hT645 (Tr.trans hT655 hT3347)))
    have hm3349 := Rep.mv hr646 (Tr.trans hT655 hT3347)
    exact hJ3340 ((.slice (some ⟨b960, 0, none⟩) 5 5), [.int .i64 0, .int .i64 1, .int .i64 2, .int .i64 1, .int .i64 3], (.slice (some ⟨b341, 0, none⟩) 3 3), b648) _ _ ⟨rfl, rfl, rfl, rfl, rfl, rfl, trivial⟩ ⟨hS3346, (Tr.trans hT959 (Tr.trans hT340 (Tr.trans hT645 (Tr.trans hT655 hT3347)))), hm3348, hm3349⟩
end Go.Proofs.YtplkfbljncfdnaaDoor
