/- Functions of the program, and what they give: part 7. -/
import Derived.Test.YtmhgoecnjleagaaGreatDoorPK6
namespace Go.Proofs.YtmhgoecnjleagaaGreatDoor
open Go Go.RowKit

def tb44_6 : List (Nat × Nat × Nat) := [(0, 65536, 1), (0, 131072, 32), (3, 262144, 196608), (4, 524288, 262144), (0, 1048576, 2), (0, 2097152, 32), (48, 4194304, 3145728), (64, 8388608, 4194304), (136, 16777216, 8912896)]
def slices_Equal_api_Share_api_Share_l1 (_n : Nat) (a0 : List TShare) (a1 : List TShare) (J38 : Nat → Option (Bool ⊕ Unit)) : Nat → Option (Bool ⊕ Unit)
  | i30 => (if i30 < a0.length then (a0[i30]?).bind fun x43 => (a1[i30]?).bind fun x52 => (if x43 = x52 then J38 (i30 + 1) else some (.inl false)) else some (.inr ()))
def slices_Equal_api_Share_api_Share_p (n : Nat) (a0 : List TShare) (a1 : List TShare) : Option Bool :=
  (if a0.length = a1.length then thn (loopF (slices_Equal_api_Share_api_Share_l1 n a0 a1) n 0) (fun _ => some true) else some false)
set_option maxRecDepth 4000 in
set_option maxHeartbeats 4000000 in
theorem slices_Equal_api_Share_api_Share_c (n : Nat) (L : List Nat) (w : World) (_hL : ∀ b ∈ L, b < w.heap.size) (a0 : List TShare) {v0_0 : Value} (h0_0 : Rep.R w L [v0_0] a0) (a1 : List TShare) {v1_0 : Value} (h1_0 : Rep.R w L [v1_0] a1)  {r : Bool} (h : slices_Equal_api_Share_api_Share_p n a0 a1 = some r) :
    Calls Tryz.prog 44 #[v0_0, v1_0] w (Gives w fun _ u => u = .bool r) := by
  unfold slices_Equal_api_Share_api_Share_p at h
  have hS0 := St.start w
  refine MX.start Tryz.func44 rfl rfl rfl (fun _ cs0 hb0 => ?_)
  refine MX.sr ?_
  refine RG.sg rfl rfl ?_
  refine RG.nil ?_
  refine MX.seq ?_
  refine MX.sr ?_
  refine RG.mv rfl rfl ?_
  have hl1 : a0.length ≤ 281474976710656 := Rep.lenle h0_0
  refine RG.vv (FV.len (xs := a0) Tryz.underlying68 rfl h0_0) rfl ?_
  refine RG.mv rfl rfl ?_
  have hl2 : a1.length ≤ 281474976710656 := Rep.lenle h1_0
  refine RG.vv (FV.len (xs := a1) Tryz.underlying68 rfl h1_0) rfl ?_
  refine RG.vv (FV.neqN (i := a0.length) (j := a1.length) rfl rfl) rfl ?_
  refine RG.nil ?_
  refine MX.ifn rfl h (fun c3 h => ?_) (fun c3 h => ?_)
  ·skip
   refine MX.skip ?_
   refine MX.seq ?_
   refine MX.sr ?_
   refine RG.mv rfl rfl ?_
   refine RG.vv (FV.len (xs := a0) Tryz.underlying68 rfl h0_0) rfl ?_
   refine RG.mv rfl rfl ?_
   refine RG.nil ?_
   refine MX.block ?_
   obtain ⟨o36, ho35, hh37⟩ := thn_in h
   refine MX.loop (α := Nat) (fun i30 => [(0, v0_0), (1, v1_0), (12, .int .i64 ((a0.length : Nat) : Int)), (13, .int .i64 ((i30 : Nat) : Int))]) (fun i30 wx30 => St w wx30 [] ∧ Tr w [] wx30 []) (fun i30 => i30) 0 ho35 ⟨rfl, rfl, rfl, rfl, trivial⟩ ⟨hS0, Tr.refl _ _⟩ ?_
   rintro J38 i30 wx30 hJ39 ⟨hS31, hT32⟩ h
   unfold slices_Equal_api_Share_api_Share_l1 at h
   try dsimp only at h
   refine MX.sr ?_
   refine RG.vv (FV.lssN (i := i30) (j := a0.length) rfl rfl) rfl ?_
   refine RG.nil ?_
   refine MX.seq ?_
   refine MX.ifd rfl h (fun c40 h => ?_) (fun c40 h => ?_)
   ·skip
    refine MX.skip ?_
    refine MX.seq ?_
    refine MX.block ?_
    refine MX.sr ?_
    refine RG.mv rfl rfl ?_
    refine RG.sg rfl rfl ?_
    refine RG.nil ?_
    refine MX.seq ?_
    refine MX.drawT 9 tb44_6 (by kernel_rfl) (by kernel_rfl) (by kernel_rfl) (fun kt41 kp42 => ?_)
    refine RD.vw 0 1 kt41 rfl kp42 (fun _ => FV.move rfl) rfl ?_
    refine RD.vw 1 3 kt41 rfl kp42 (fun _ => FV.move rfl) rfl ?_
    obtain ⟨x43, hx43, h⟩ := bind_in h
    have hm51 := Rep.mv h0_0 hT32
    obtain ⟨A44, c45, he46, hk47, cs48, hr49, hm50⟩ := Rep.nth hm51 hx43
    obtain rfl := op_TShare hr49
    refine RD.vw 2 7 kt41 rfl kp42 (fun _ => FV.idxAddr (m := 16) (i := i30) (by kernel_rfl) rfl he46 rfl rfl hk47) rfl ?_
    refine RD.vx 3 15 256 kt41 rfl kp42 (FV.loadN (by kernel_rfl) rfl hm50) rfl ?_
    refine RD.vw 4 31 kt41 rfl kp42 (fun _ => FV.move rfl) rfl ?_
    refine RD.vw 5 63 kt41 rfl kp42 (fun _ => FV.move rfl) rfl ?_
    obtain ⟨x52, hx52, h⟩ := bind_in h
    have hm60 := Rep.mv h1_0 hT32
    obtain ⟨A53, c54, he55, hk56, cs57, hr58, hm59⟩ := Rep.nth hm60 hx52
    obtain rfl := op_TShare hr58
    refine RD.vw 6 127 kt41 rfl kp42 (fun _ => FV.idxAddr (m := 16) (i := i30) (by kernel_rfl) rfl he55 rfl rfl hk56) rfl ?_
    refine RD.vx 7 255 256 kt41 rfl kp42 (FV.loadN (by kernel_rfl) rfl hm59) rfl ?_
    refine RD.vw 8 511 kt41 rfl kp42 (fun _ => FV.neqV (xs := ((cs_TShare x43)).toArray) (ys := ((cs_TShare x52)).toArray) rfl rfl (by kernel_rfl) (eqlD_37 x43 x52)) rfl ?_
    refine RD.done (doneD_ok kt41 (by kernel_rfl)) ?_
    refine MX.ifn rfl h (fun c61 h => ?_) (fun c61 h => ?_)
    ·skip
     refine MX.skip ?_
     refine MX.inBlock ?_
     refine MX.region ?_
     refine RG.vv (FV.addN (i := i30) (j := 1) rfl rfl (by omega)) rfl ?_
     refine RG.mv rfl rfl ?_
     refine RG.nil ?_
     exact hJ39 (i30 + 1) _ _ ⟨rfl, rfl, rfl, rfl, trivial⟩ ⟨hS31, hT32⟩ h
    refine MX.sr ?_
    refine RG.sg rfl rfl ?_
    refine RG.nil ?_
    have h := thn_inl h hh37
    refine MX.ret rfl ?_
    refine RT.leave hb0 Tryz.func44 rfl (.cons (.tmp rfl) .nil) rfl ?_
    obtain rfl := Option.some.inj h
    exact ⟨hS31.ag, fun w9 hw9 => rfl⟩
   refine MX.exit rfl ?_
   have h := thn_inr h hh37
   try dsimp only at h
   refine MX.sr ?_
   refine RG.sg rfl rfl ?_
   refine RG.nil ?_
   refine MX.ret rfl ?_
   refine RT.leave hb0 Tryz.func44 rfl (.cons (.tmp rfl) .nil) rfl ?_
   obtain rfl := Option.some.inj h
   exact ⟨hS31.ag, fun w9 hw9 => rfl⟩
  refine MX.sr ?_
  refine RG.sg rfl rfl ?_
  refine RG.nil ?_
  refine MX.ret rfl ?_
  refine RT.leave hb0 Tryz.func44 rfl (.cons (.tmp rfl) .nil) rfl ?_
  obtain rfl := Option.some.inj h
  exact ⟨hS0.ag, fun w9 hw9 => rfl⟩
def tb9_3 : List (Nat × Nat × Nat) := [(0, 1048576, 2), (0, 2097152, 0), (3, 4194304, 3145728), (4, 524288, 4194304), (8, 8388608, 524288), (8, 16777216, 524288), (8, 33554432, 524288), (31, 32, 8388608), (191, 64, 16777216), (511, 128, 33554432)]
def tb9_5 : List (Nat × Nat × Nat) := [(0, 4294967296, 0), (1, 8589934592, 4294967296), (0, 17179869184, 2), (0, 34359738368, 4), (14, 68719476736, 51539607552), (16, 137438953472, 68719476736), (16, 274877906944, 68719476736), (114, 549755813888, 420906795008), (128, 1099511627776, 549755813888), (256, 2199023255552, 1099511627776), (256, 4398046511104, 1099511627778), (1792, 8796093022208, 5497558138880), (2304, 17592186044416, 9895604649984), (2304, 35184372088832, 9895604649984), (15104, 70368744177664, 56075093016576), (16640, 140737488355328, 71468255805440), (49152, 281474976710656, 140737488355328), (65536, 562949953421312, 281474976710664), (65536, 1125899906842624, 281474976710656), (327680, 2251799813685248, 281474976710656), (851968, 4503599627370496, 3659174697238528), (1769472, 9007199254740992, 5348024557502464), (2162688, 18014398509481984, 9288674231451648), (6291456, 36028797018963968, 18014398509481984), (8388608, 72057594037927936, 36028797018963984), (25165824, 144115188075855872, 108086391056891904), (41943040, 288230376151711744, 180143985094819840), (75497472, 576460752303423488, 288230376151711744), (134217728, 1152921504606846976, 576460752303423488), (134217728, 2305843009213693952, 576460752303423490), (134217728, 4611686018427387904, 576460752303423492), (2013265920, 9223372036854775808, 7493989779944505344), (2281701376, 18446744073709551616, 9799832789158199296), (2281701376, 36893488147419103232, 9799832789158199296), (15435038720, 73786976294838206464, 57069614478038925312), (17314086912, 147573952589676412928, 74363437047141629952), (68719476735, 1024, 147573952589676412928)]
def tb9_6 : List (Nat × Nat × Nat) := [(0, 295147905179352825856, 1024), (1, 590295810358705651712, 295147905179352825856), (2, 1180591620717411303424, 590295810358705651744), (6, 2361183241434822606848, 1770887431076116955136), (10, 4722366482869645213696, 2951479051793528258560), (18, 9444732965739290427392, 4722366482869645213696), (32, 18889465931478580854784, 9444732965739290427456), (96, 37778931862957161709568, 28334198897217871282176), (160, 75557863725914323419136, 47223664828696452136960), (288, 151115727451828646838272, 75557863725914323419136), (512, 302231454903657293676544, 151115727451828646838400), (1536, 604462909807314587353088, 453347182355485940514816), (2560, 1208925819614629174706176, 755578637259143234191360), (4608, 2417851639229258349412352, 1208925819614629174706176), (8192, 4835703278458516698824704, 2417851639229258349412352), (8192, 9671406556917033397649408, 2417851639229258349412354), (8192, 19342813113834066795298816, 2417851639229258349412356), (24576, 38685626227668133590597632, 2417851639229258349412352), (237568, 77371252455336267181195264, 70117697537648492132958208), (270336, 154742504910672534362390528, 79789104094565525530607616), (270336, 309485009821345068724781056, 79789104094565525530607616), (1859584, 618970019642690137449562112, 471481069649705378135408640), (2105344, 1237940039285380274899124224, 621387871281919395798974464), (6291456, 2475880078570760549798248448, 1237940039285380274899124224), (8388608, 4951760157141521099596496896, 2475880078570760549798248448), (8388608, 9903520314283042199192993792, 2475880078570760549798248450), (8388608, 19807040628566084398385987584, 2475880078570760549798248452), (25165824, 39614081257132168796771975168, 2475880078570760549798248448), (243269632, 79228162514264337593543950336, 71800522278552055944149204992), (276824064, 158456325028528675187087900672, 81704042592835098143342198784), (276824064, 316912650057057350374175801344, 81704042592835098143342198784), (1904214016, 633825300114114700748351602688, 482796615321298307210658447360), (2155872256, 1267650600228229401496703205376, 636301180192685461298149851136), (6442450944, 2535301200456458802993406410752, 1267650600228229401496703205376), (8589934592, 5070602400912917605986812821504, 2535301200456458802993406411264), (25769803776, 10141204801825835211973625643008, 7605903601369376408980219232256), (42949672960, 20282409603651670423947251286016, 12676506002282294014967032053760), (137438953471, 1, 20282409603651670423947251286016)]
theorem el46 : ElT Tryz.prog 46 3 (Rep.size Int) 8 (.int .i64 0) [.int .i64 0] := ⟨Tryz.underlying46, by kernel_rfl, rfl, rfl, rfl, rfl⟩
theorem body13 : bodyB Tryz.prog 13 = true := by kernel_rfl
theorem body15 : bodyB Tryz.prog 15 = true := by kernel_rfl
theorem body19 : bodyB Tryz.prog 19 = true := by kernel_rfl
theorem body20 : bodyB Tryz.prog 20 = true := by kernel_rfl
theorem body21 : bodyB Tryz.prog 21 = true := by kernel_rfl
theorem body22 : bodyB Tryz.prog 22 = true := by kernel_rfl
theorem body33 : bodyB Tryz.prog 33 = true := by kernel_rfl
theorem body36 : bodyB Tryz.prog 36 = true := by kernel_rfl
theorem body37 : bodyB Tryz.prog 37 = true := by kernel_rfl
theorem body38 : bodyB Tryz.prog 38 = true := by kernel_rfl
theorem body44 : bodyB Tryz.prog 44 = true := by kernel_rfl
theorem body72 : bodyB Tryz.prog 72 = true := by kernel_rfl
theorem body91 : bodyB Tryz.prog 91 = true := by kernel_rfl
theorem body92 : bodyB Tryz.prog 92 = true := by kernel_rfl
def wardmotelaw22_works_p (n : Nat) : Option Bool :=
  (wardmotelaw22_four_p n).bind fun y1 => (balance_Off_p n y1 ([(0 : Int), (0 : Int), (0 : Int), (1 : Int)] : List Int) (2 : Int)).bind fun y28 => (wardmotelaw22_of_p n (1 : Int) (10 : Int)).bind fun y49 => (balance_Bounds_p n y1 (3 : Int) y49).bind fun y50 => (balance_Totals_p n y1 ([(0 : Int), (0 : Int), (0 : Int), (0 : Int)] : List Int) (2 : Int)).bind fun y58 => jn (fun q147 => (if q147 = true then (if y50.1 = 30 then (if y50.2.1 = 36 then (if y50.2.2 = 0 then (wardmotelaw22_of_p n (1 : Int) (5 : Int)).bind fun y168 => (balance_Within_p n y1 ([(0 : Int), (0 : Int), (0 : Int), (1 : Int)] : List Int) (2 : Int) y168).bind fun y169 => (wardmotelaw22_truth_1_p n y169.1 y169.2 true).bind fun y172 => (if y172 = true then (wardmotelaw22_of_p n (1 : Int) (6 : Int)).bind fun y183 => (balance_Within_p n y1 ([(0 : Int), (0 : Int), (0 : Int), (1 : Int)] : List Int) (2 : Int) y183).bind fun y184 => (wardmotelaw22_truth_1_p n y184.1 y184.2 false).bind fun y187 => (if y187 = true then some (decide (y58.2 = 220)) else some false) else some false) else some false) else some false) else some false) else some false)) (fun J151 => (balance_Totals_p n y1 ([(0 : Int), (0 : Int), (0 : Int), (1 : Int)] : List Int) (2 : Int)).bind fun y210 => (wardmotelaw22_is_1_p n y210.1 y210.2 ([(60 : Int), (40 : Int)] : List Int)).bind fun y220 => (if y220 = true then (balance_Ideal_p n y1 (2 : Int)).bind fun y234 => (wardmotelaw22_part_1_p n y234.1 y234.2 (50 : Int) (1 : Int)).bind fun y236 => (if y236 = true then (wardmotelaw22_of_p n (1 : Int) (5 : Int)).bind fun y238 => (wardmotelaw22_of_p n (-1 : Int) (5 : Int)).bind fun y239 => (slices_Equal_api_Share_api_Share_p n y28.1 ([y238, y239] : List TShare)).bind fun y246 => (if y246 = true then (if y28.2 = 0 then (balance_Spread_p n y1 ([(0 : Int), (0 : Int), (0 : Int), (1 : Int)] : List Int) (2 : Int)).bind fun y261 => (wardmotelaw22_part_1_p n y261.1 y261.2 (2 : Int) (5 : Int)).bind fun y264 => J151 y264 else J151 false) else J151 false) else J151 false) else J151 false))
set_option maxRecDepth 4000 in
set_option maxHeartbeats 4000000 in
theorem wardmotelaw22_works_c (n : Nat) (L : List Nat) (w : World) (hL : ∀ b ∈ L, b < w.heap.size)  {r : Bool} (h : wardmotelaw22_works_p n = some r) :
    Calls Tryz.prog 9 #[] w (Gives w fun _ u => u = .bool r) := by
  unfold wardmotelaw22_works_p at h
  have hS0 := St.start w
  refine MX.start Tryz.func9 rfl rfl rfl (fun _ cs0 hb0 => ?_)
  refine MX.sr ?_
  refine RG.sg rfl rfl ?_
  refine RG.nil ?_
  refine MX.sr ?_
  obtain ⟨y1, hy1, h⟩ := bind_in h
  refine RG.call' (fst := []) (cap := []) .plain body36 rfl evs_nil (fun w9 hw9 => own_gives (b0 := w.heap.size) (wardmotelaw22_four_c n _ w9 (hS0.hL hL hw9)  hy1) hw9 (Nat.le_trans hS0.ag.size hw9.size)) rfl (fun w2 vu3 hag4 ⟨v9, cs10, hu6, s5, hc11⟩ => ?_)
  subst hu6
  have hS7 := own_push hS0 s5
  have hT8 := own_tr hS0 s5
  have hc13 := Cells.at_ (cs := cs10) (xs := (y1.fUnits : List TUnit)) hS7 L (own_cells hc11)
  refine RG.new .plain rfl (Does.build (α := Int) (xs := ([(0 : Int), (0 : Int), (0 : Int), (1 : Int)] : List Int)) (vs := [.int .i64 0, .int .i64 0, .int .i64 0, .int .i64 1]) (ds' := [.int .i64 0, .int .i64 0, .int .i64 0, .int .i64 1]) rfl hS7 el46 rfl (evs_cons rfl (evs_cons rfl (evs_cons rfl (evs_cons rfl evs_nil)))) (by kernel_rfl) rfl) (fun w15 b18 hS16 hT17 => ?_)
  have hc19 := Cells.at_ (cs := [.int .i64 0, .int .i64 0, .int .i64 0, .int .i64 1]) (xs := (([(0 : Int), (0 : Int), (0 : Int), (1 : Int)] : List Int) : List Int)) hS16 L (Cells.cons (cs := [.int .i64 0]) (ds := [.int .i64 0, .int .i64 0, .int .i64 1]) rfl (Cells.cons (cs := [.int .i64 0]) (ds := [.int .i64 0, .int .i64 1]) rfl (Cells.cons (cs := [.int .i64 0]) (ds := [.int .i64 1]) rfl (Cells.cons (cs := [.int .i64 1]) (ds := []) rfl (Cells.nil _ _)))))
  refine RG.new .plain rfl (Does.alloc (zs := [.int .i64 0, .int .i64 0, .int .i64 0, .slice none 0 0]) hS16 (zB (by kernel_rfl))) (fun w21 b24 hS22 hT23 => ?_)
  refine RG.now .plain (Acts.storeAll (news := [.int .i64 y1.fGroups, .int .i64 y1.fParties, .int .i64 y1.fLevels, v9]) hS22 .hd rfl rfl rfl rfl rfl rfl (ones_cons rfl (ones_cons rfl (ones_cons rfl (ones_cons (St.o1 (α := TUnit) hS22 (.tl (.tl .hd))) ones_nil))))) (fun w25 hS26 hT27 => ?_)
  refine RG.sg rfl rfl ?_
  refine RG.nil ?_
  refine MX.sr ?_
  refine RG.vv (FV.loadN (by kernel_rfl) rfl (hS26.memA .hd)) rfl ?_
  refine RG.mv rfl rfl ?_
  have hm32 := Cells.mv hc13 (Tr.trans hT17 (Tr.trans hT23 hT27))
  have hr29 := St.freeze (α := TUnit) hS26 (.tl (.tl .hd)) hm32 hL
  have hS30 := St.delS hS26 (.tl (.tl .hd))
  have hT31 := St.delT hS26 (.tl (.tl .hd))
  have hr33 := Rep.at_ (α := TUnit) (v := v9) (xs := y1.fUnits) hS30 L hr29
  have hm37 := Cells.mv hc19 (Tr.trans hT23 (Tr.trans hT27 hT31))
  have hr34 := St.freeze (α := Int) hS30 (.tl .hd) hm37 hL
  have hS35 := St.delS hS30 (.tl .hd)
  have hT36 := St.delT hS30 (.tl .hd)
  have hr38 := Rep.at_ (α := Int) (v := (.slice (some ⟨b18, 0, none⟩) 4 4)) (xs := ([(0 : Int), (0 : Int), (0 : Int), (1 : Int)] : List Int)) hS35 L hr34
  obtain ⟨y28, hy28, h⟩ := bind_in h
  have hm39 := Rep.mv hr33 hT36
  refine RG.call' (fst := []) (cap := []) .plain body22 rfl (evs_cons rfl (evs_cons rfl (evs_cons rfl evs_nil))) (fun w9 hw9 => balance_Off_c n _ w9 (hS35.hL hL hw9) y1 (Rep.keep0 hm39 hw9) ([(0 : Int), (0 : Int), (0 : Int), (1 : Int)] : List Int) (Rep.keep0 hr38 hw9) (2 : Int) hy28) rfl (fun w40 vu41 hag42 ⟨v45, hu_, hr46⟩ => ?_)
  subst hu_
  obtain ⟨hS43, hT44⟩ := hS35.agr hag42
  refine RG.mv rfl rfl ?_
  refine RG.vv (FV.extract rfl rfl) rfl ?_
  refine RG.vv (FV.extract rfl rfl) rfl ?_
  refine RG.sg rfl rfl ?_
  refine RG.sg rfl rfl ?_
  refine RG.nil ?_
  refine MX.seq ?_
  refine MX.drawT 10 tb9_3 (by kernel_rfl) (by kernel_rfl) (by kernel_rfl) (fun kt47 kp48 => ?_)
  refine RD.vx 0 1 1020 kt47 rfl kp48 (FV.loadN (by kernel_rfl) rfl (hS43.memA .hd)) rfl ?_
  obtain ⟨y49, hy49, h⟩ := bind_in h
  refine RD.cq 1 3 1020 (.agg ((cs_TShare y49)).toArray) kt47 rfl kp48 body23 rfl (evs_cons rfl (evs_cons rfl evs_nil)) (fun w9 hw9 => wardmotelaw22_of_c n _ w9 (hS43.hL0 hL hw9) (1 : Int) (10 : Int) hy49) rfl ?_
  obtain ⟨y50, hy50, h⟩ := bind_in h
  have hm51 := Rep.mv hr33 (Tr.trans hT36 hT44)
  refine RD.cq 2 7 1016 (.tuple #[.int .i64 y50.1, .int .i64 y50.2.1, .int .i64 y50.2.2]) kt47 rfl kp48 body13 rfl (evs_cons rfl (evs_cons rfl (evs_cons rfl evs_nil))) (fun w9 hw9 => balance_Bounds_c n _ w9 (hS43.hL0 hL hw9) y1 (Rep.keep0 (Rep.dropS hS43 hm51) hw9) (3 : Int) y49 hy50) rfl ?_
  refine RD.vw 3 15 kt47 rfl kp48 (fun _ => FV.move rfl) rfl ?_
  refine RD.vw 4 31 kt47 rfl kp48 (fun _ => FV.extract rfl rfl) rfl ?_
  refine RD.vw 5 63 kt47 rfl kp48 (fun _ => FV.extract rfl rfl) rfl ?_
  refine RD.vw 6 127 kt47 rfl kp48 (fun _ => FV.extract rfl rfl) rfl ?_
  refine RD.vw 7 255 kt47 rfl kp48 (fun _ => FV.assign rfl) rfl ?_
  refine RD.vw 8 511 kt47 rfl kp48 (fun _ => FV.assign rfl) rfl ?_
  refine RD.vw 9 1023 kt47 rfl kp48 (fun _ => FV.assign rfl) rfl ?_
  refine RD.done (doneD_ok kt47 (by kernel_rfl)) ?_
  refine MX.sr ?_
  refine RG.vv (FV.loadN (by kernel_rfl) rfl (hS43.memA .hd)) rfl ?_
  refine RG.new .plain rfl (Does.build (α := Int) (xs := ([(0 : Int), (0 : Int), (0 : Int), (0 : Int)] : List Int)) (vs := [.int .i64 0, .int .i64 0, .int .i64 0, .int .i64 0]) (ds' := [.int .i64 0, .int .i64 0, .int .i64 0, .int .i64 0]) rfl hS43 el46 rfl (evs_cons rfl (evs_cons rfl (evs_cons rfl (evs_cons rfl evs_nil)))) (by kernel_rfl) rfl) (fun w53 b56 hS54 hT55 => ?_)
  have hc57 := Cells.at_ (cs := [.int .i64 0, .int .i64 0, .int .i64 0, .int .i64 0]) (xs := (([(0 : Int), (0 : Int), (0 : Int), (0 : Int)] : List Int) : List Int)) hS54 L (Cells.cons (cs := [.int .i64 0]) (ds := [.int .i64 0, .int .i64 0, .int .i64 0]) rfl (Cells.cons (cs := [.int .i64 0]) (ds := [.int .i64 0, .int .i64 0]) rfl (Cells.cons (cs := [.int .i64 0]) (ds := [.int .i64 0]) rfl (Cells.cons (cs := [.int .i64 0]) (ds := []) rfl (Cells.nil _ _)))))
  have hr59 := St.freeze (α := Int) hS54 .hd hc57 hL
  have hS60 := St.delS hS54 .hd
  have hT61 := St.delT hS54 .hd
  have hr62 := Rep.at_ (α := Int) (v := (.slice (some ⟨b56, 0, none⟩) 4 4)) (xs := ([(0 : Int), (0 : Int), (0 : Int), (0 : Int)] : List Int)) hS60 L hr59
  obtain ⟨y58, hy58, h⟩ := bind_in h
  have hm63 := Rep.mv hr33 (Tr.trans hT36 (Tr.trans hT44 (Tr.trans hT55 hT61)))
  refine RG.call' (fst := []) (cap := []) .plain body19 rfl (evs_cons rfl (evs_cons rfl (evs_cons rfl evs_nil))) (fun w9 hw9 => balance_Totals_c n _ w9 (hS60.hL hL hw9) y1 (Rep.keep0 hm63 hw9) ([(0 : Int), (0 : Int), (0 : Int), (0 : Int)] : List Int) (Rep.keep0 hr62 hw9) (2 : Int) hy58) rfl (fun w64 vu65 hag66 ⟨v69, hu_, hr70⟩ => ?_)
  subst hu_
  obtain ⟨hS67, hT68⟩ := hS60.agr hag66
  refine RG.mv rfl rfl ?_
  refine RG.vv (FV.extract rfl rfl) rfl ?_
  refine RG.vv (FV.extract rfl rfl) rfl ?_
  refine RG.sg rfl rfl ?_
  refine RG.sg rfl rfl ?_
  refine RG.nil ?_
  refine MX.seq ?_
  refine MX.join (α := Bool) (fun q147 => [(1, .pointer (some ⟨b24, 0, none⟩)), (2, (.slice (some ⟨b18, 0, none⟩) 4 4)), (5, .int .i64 y50.1), (6, .int .i64 y50.2.1), (7, .int .i64 y50.2.2), (9, .int .i64 y58.2), (10, .bool q147)]) (fun q147 wx147 => St w wx147 [.cells b24 [.int .i64 y1.fGroups, .int .i64 y1.fParties, .int .i64 y1.fLevels, v9] 44] ∧ Tr w64 [.cells b24 [.int .i64 y1.fGroups, .int .i64 y1.fParties, .int .i64 y1.fLevels, v9] 44] wx147 [.cells b24 [.int .i64 y1.fGroups, .int .i64 y1.fParties, .int .i64 y1.fLevels, v9] 44]) (fun q147 => q147) h ?_ ?_
  ·skip
   rintro q147 wx147 ⟨hS148, hT149⟩ h
   try dsimp only at h
   refine MX.seq ?_
   refine MX.drawT 38 tb9_6 (by kernel_rfl) (by kernel_rfl) (by kernel_rfl) (fun kt153 kp154 => ?_)
   refine RD.vw 0 1 kt153 rfl kp154 (fun _ => FV.move rfl) rfl ?_
   refine RD.vw 1 3 kt153 rfl kp154 (fun _ => FV.move rfl) rfl ?_
   refine RD.ifb (s := 69) rfl h (fun c155 h => ?_) (fun c155 h => ?_)
   ·skip
    refine RD.vP 2 7 kt153 rfl kp154 (.yes rfl rfl) (fun _ => FV.move rfl) rfl ?_
    refine RD.vP 3 15 kt153 rfl kp154 (.yes rfl rfl) (fun _ => FV.eql (i := y50.1) (j := 30) rfl rfl) rfl ?_
    refine RD.vw 4 31 kt153 rfl kp154 (fun _ => FV.pick_t rfl rfl) rfl ?_
    refine RD.vw 5 63 kt153 rfl kp154 (fun _ => FV.move rfl) rfl ?_
    refine RD.ifd (s := 73) rfl h (fun c156 h => ?_) (fun c156 h => ?_)
    ·skip
     refine RD.vP 6 127 kt153 rfl kp154 (.yes rfl rfl) (fun _ => FV.move rfl) rfl ?_
     refine RD.vP 7 255 kt153 rfl kp154 (.yes rfl rfl) (fun _ => FV.eql (i := y50.2.1) (j := 36) rfl rfl) rfl ?_
     refine RD.vw 8 511 kt153 rfl kp154 (fun _ => FV.pick_t rfl rfl) rfl ?_
     refine RD.vw 9 1023 kt153 rfl kp154 (fun _ => FV.move rfl) rfl ?_
     refine RD.ifd (s := 77) rfl h (fun c157 h => ?_) (fun c157 h => ?_)
     ·skip
      refine RD.vP 10 2047 kt153 rfl kp154 (.yes rfl rfl) (fun _ => FV.move rfl) rfl ?_
      refine RD.vP 11 4095 kt153 rfl kp154 (.yes rfl rfl) (fun _ => FV.eql (i := y50.2.2) (j := 0) rfl rfl) rfl ?_
      refine RD.vw 12 8191 kt153 rfl kp154 (fun _ => FV.pick_t rfl rfl) rfl ?_
      refine RD.vw 13 16383 kt153 rfl kp154 (fun _ => FV.move rfl) rfl ?_
      refine RD.ifd (s := 81) rfl h (fun c158 h => ?_) (fun c158 h => ?_)
      ·skip
       refine RD.val (i := 15) (m' := 49151) (W := 274877644800) (takeC_ok kt153 (by kernel_rfl)) rfl kp154 (.yes rfl rfl) (FV.loadN (by kernel_rfl) rfl (hS148.memA .hd)) rfl ?_
       refine RD.vP 16 114687 kt153 rfl kp154 (.yes rfl rfl) (fun _ => FV.move rfl) rfl ?_
       refine RD.cl 14 131071 kt153 rfl (.yes rfl rfl) body38 rfl (evs_cons rfl evs_nil) (fun w9 hw9 => Calls.gives (wardmotelaw22_truth_c n _ w9 (hS148.hL hL hw9) true) fun (w8 : World) (u8 : Value) ⟨b0_, hu_, s_⟩ => (⟨b0_, hu_, s_.from hw9⟩ : ∃ b160 : Nat, u8 = Value.func (.func 92) #[] #[.pointer (some ⟨b160, 0, none⟩)] ∧ St wx147 w8 [.cells b160 [.bool true] 4])) rfl (fun w161 vu162 hag163 ⟨b160, hu165, s164⟩ => ?_)
       subst hu165
       have hS166 : St w w161 [.cells b160 [.bool true] 4, .cells b24 [.int .i64 y1.fGroups, .int .i64 y1.fParties, .int .i64 y1.fLevels, v9] 44] := St.merge hS148 s164
       have hT167 : Tr wx147 [.cells b24 [.int .i64 y1.fGroups, .int .i64 y1.fParties, .int .i64 y1.fLevels, v9] 44] w161 [.cells b160 [.bool true] 4, .cells b24 [.int .i64 y1.fGroups, .int .i64 y1.fParties, .int .i64 y1.fLevels, v9] 44] := Tr.merge hS148 s164
       obtain ⟨y168, hy168, h⟩ := bind_in h
       refine RD.callq (i := 17) (m' := 262143) (W := 274877644800) (takeC_ok kt153 (by kernel_rfl)) rfl kp154 (v := .agg ((cs_TShare y168)).toArray) (fst := []) (cap := []) (.yes rfl rfl) body23 rfl (evs_cons rfl (evs_cons rfl evs_nil)) (fun w9 hw9 => wardmotelaw22_of_c n _ w9 (hS166.hL0 hL hw9) (1 : Int) (5 : Int) hy168) rfl ?_
       obtain ⟨y169, hy169, h⟩ := bind_in h
       have hm170 := Rep.mv hr33 (Tr.trans hT36 (Tr.trans hT44 (Tr.trans hT55 (Tr.trans hT61 (Tr.trans hT68 (Tr.trans hT149 hT167))))))
       have hm171 := Rep.mv hr38 (Tr.trans hT44 (Tr.trans hT55 (Tr.trans hT61 (Tr.trans hT68 (Tr.trans hT149 hT167)))))
       refine RD.callq (i := 18) (m' := 524287) (W := 274877382656) (takeC_ok kt153 (by kernel_rfl)) rfl kp154 (v := .tuple #[.bool y169.1, .int .i64 y169.2]) (fst := []) (cap := []) (.yes rfl rfl) body15 rfl (evs_cons rfl (evs_cons rfl (evs_cons rfl (evs_cons rfl evs_nil)))) (fun w9 hw9 => balance_Within_c n _ w9 (hS166.hL0 hL hw9) y1 (Rep.keep0 (Rep.dropS hS166 hm170) hw9) ([(0 : Int), (0 : Int), (0 : Int), (1 : Int)] : List Int) (Rep.keep0 (Rep.dropS hS166 hm171) hw9) (2 : Int) y168 hy169) rfl ?_
       refine RD.vP 19 1048575 kt153 rfl kp154 (.yes rfl rfl) (fun _ => FV.extract rfl rfl) rfl ?_
       refine RD.vP 20 2097151 kt153 rfl kp154 (.yes rfl rfl) (fun _ => FV.extract rfl rfl) rfl ?_
       obtain ⟨y172, hy172, h⟩ := bind_in h
       refine RD.callq (i := 21) (m' := 4194303) (W := 274873712640) (takeC_ok kt153 (by kernel_rfl)) rfl kp154 (v := .bool y172) (fst := []) (cap := [.pointer (some ⟨b160, 0, none⟩)]) (.yes rfl rfl) body92 rfl (evs_cons rfl (evs_cons rfl evs_nil)) (fun w9 hw9 => wardmotelaw22_truth_1_c n _ w9 (hS166.hL0 hL hw9) y169.1 y169.2 true (fun j9 v9 h9 => hw9.cell0 ((hS166.memA .hd) j9 v9 h9)) hy172) rfl ?_
       refine RD.vw 22 8388607 kt153 rfl kp154 (fun _ => FV.pick_t rfl rfl) rfl ?_
       refine RD.vw 23 16777215 kt153 rfl kp154 (fun _ => FV.move rfl) rfl ?_
       refine RD.ifb (s := 91) rfl h (fun c173 h => ?_) (fun c173 h => ?_)
       ·skip
        refine RD.val (i := 25) (m' := 50331647) (W := 274609471488) (takeC_ok kt153 (by kernel_rfl)) rfl kp154 (.yes rfl rfl) (FV.loadN (by kernel_rfl) rfl (hS166.memA (.tl .hd))) rfl ?_
        refine RD.vP 26 117440511 kt153 rfl kp154 (.yes rfl rfl) (fun _ => FV.move rfl) rfl ?_
        refine RD.cl 24 134217727 kt153 rfl (.yes rfl rfl) body38 rfl (evs_cons rfl evs_nil) (fun w9 hw9 => Calls.gives (wardmotelaw22_truth_c n _ w9 (hS166.hL hL hw9) false) fun (w8 : World) (u8 : Value) ⟨b0_, hu_, s_⟩ => (⟨b0_, hu_, s_.from hw9⟩ : ∃ b175 : Nat, u8 = Value.func (.func 92) #[] #[.pointer (some ⟨b175, 0, none⟩)] ∧ St w161 w8 [.cells b175 [.bool false] 4])) rfl (fun w176 vu177 hag178 ⟨b175, hu180, s179⟩ => ?_)
        subst hu180
        have hS181 : St w w176 [.cells b175 [.bool false] 4, .cells b160 [.bool true] 4, .cells b24 [.int .i64 y1.fGroups, .int .i64 y1.fParties, .int .i64 y1.fLevels, v9] 44] := St.merge hS166 s179
        have hT182 : Tr w161 [.cells b160 [.bool true] 4, .cells b24 [.int .i64 y1.fGroups, .int .i64 y1.fParties, .int .i64 y1.fLevels, v9] 44] w176 [.cells b175 [.bool false] 4, .cells b160 [.bool true] 4, .cells b24 [.int .i64 y1.fGroups, .int .i64 y1.fParties, .int .i64 y1.fLevels, v9] 44] := Tr.merge hS166 s179
        obtain ⟨y183, hy183, h⟩ := bind_in h
        refine RD.callq (i := 27) (m' := 268435455) (W := 274609471488) (takeC_ok kt153 (by kernel_rfl)) rfl kp154 (v := .agg ((cs_TShare y183)).toArray) (fst := []) (cap := []) (.yes rfl rfl) body23 rfl (evs_cons rfl (evs_cons rfl evs_nil)) (fun w9 hw9 => wardmotelaw22_of_c n _ w9 (hS181.hL0 hL hw9) (1 : Int) (6 : Int) hy183) rfl ?_
        obtain ⟨y184, hy184, h⟩ := bind_in h
        have hm185 := Rep.mv hr33 (Tr.trans hT36 (Tr.trans hT44 (Tr.trans hT55 (Tr.trans hT61 (Tr.trans hT68 (Tr.trans hT149 (Tr.trans hT167 hT182)))))))
        have hm186 := Rep.mv hr38 (Tr.trans hT44 (Tr.trans hT55 (Tr.trans hT61 (Tr.trans hT68 (Tr.trans hT149 (Tr.trans hT167 hT182))))))
        refine RD.callq (i := 28) (m' := 536870911) (W := 274341036032) (takeC_ok kt153 (by kernel_rfl)) rfl kp154 (v := .tuple #[.bool y184.1, .int .i64 y184.2]) (fst := []) (cap := []) (.yes rfl rfl) body15 rfl (evs_cons rfl (evs_cons rfl (evs_cons rfl (evs_cons rfl evs_nil)))) (fun w9 hw9 => balance_Within_c n _ w9 (hS181.hL0 hL hw9) y1 (Rep.keep0 (Rep.dropS hS181 hm185) hw9) ([(0 : Int), (0 : Int), (0 : Int), (1 : Int)] : List Int) (Rep.keep0 (Rep.dropS hS181 hm186) hw9) (2 : Int) y183 hy184) rfl ?_
        refine RD.vP 29 1073741823 kt153 rfl kp154 (.yes rfl rfl) (fun _ => FV.extract rfl rfl) rfl ?_
        refine RD.vP 30 2147483647 kt153 rfl kp154 (.yes rfl rfl) (fun _ => FV.extract rfl rfl) rfl ?_
        obtain ⟨y187, hy187, h⟩ := bind_in h
        refine RD.callq (i := 31) (m' := 4294967295) (W := 270582939648) (takeC_ok kt153 (by kernel_rfl)) rfl kp154 (v := .bool y187) (fst := []) (cap := [.pointer (some ⟨b175, 0, none⟩)]) (.yes rfl rfl) body92 rfl (evs_cons rfl (evs_cons rfl evs_nil)) (fun w9 hw9 => wardmotelaw22_truth_1_c n _ w9 (hS181.hL0 hL hw9) y184.1 y184.2 false (fun j9 v9 h9 => hw9.cell0 ((hS181.memA .hd) j9 v9 h9)) hy187) rfl ?_
        refine RD.vw 32 8589934591 kt153 rfl kp154 (fun _ => FV.pick_t rfl rfl) rfl ?_
        refine RD.vw 33 17179869183 kt153 rfl kp154 (fun _ => FV.move rfl) rfl ?_
        refine RD.ifb (s := 101) rfl h (fun c188 h => ?_) (fun c188 h => ?_)
        ·skip
         refine RD.vP 34 34359738367 kt153 rfl kp154 (.yes rfl rfl) (fun _ => FV.move rfl) rfl ?_
         refine RD.vP 35 68719476735 kt153 rfl kp154 (.yes rfl rfl) (fun _ => FV.eql (i := y58.2) (j := 220) rfl rfl) rfl ?_
         refine RD.vw 36 137438953471 kt153 rfl kp154 (fun _ => FV.pick_t rfl rfl) rfl ?_
         refine RD.vw 37 274877906943 kt153 rfl kp154 (fun _ => FV.assign rfl) rfl ?_
         refine RD.done (doneD_ok kt153 (by kernel_rfl)) ?_
         refine MX.ret rfl ?_
         refine RT.leave hb0 Tryz.func9 rfl (.cons (.tmp rfl) .nil) rfl ?_
         obtain rfl := Option.some.inj h
         exact ⟨hS181.ag, fun w9 hw9 => rfl⟩
        refine RD.offs 68719476735 2 [(34, 102), (35, 103)] (F := [(101, false)]) (U := []) kt153 kp154 (.cons rfl .nil) .nil ?_
        dsimp only [offS, List.map]
        refine RD.vw 36 137438953471 kt153 rfl kp154 (fun _ => FV.pick_f rfl rfl) rfl ?_
        refine RD.vw 37 274877906943 kt153 rfl kp154 (fun _ => FV.assign rfl) rfl ?_
        refine RD.done (doneD_ok kt153 (by kernel_rfl)) ?_
        refine MX.ret rfl ?_
        refine RT.leave hb0 Tryz.func9 rfl (.cons (.tmp rfl) .nil) rfl ?_
        obtain rfl := Option.some.inj h
        exact ⟨hS181.ag, fun w9 hw9 => rfl⟩
       refine RD.offs 4294967295 6 [(24, 92), (25, 93), (26, 94), (27, 95), (28, 96), (29, 97), (30, 98), (31, 99)] (F := [(91, false)]) (U := []) kt153 kp154 (.cons rfl .nil) .nil ?_
       dsimp only [offS, List.map]
       refine RD.vw 32 8589934591 kt153 rfl kp154 (fun _ => FV.pick_f rfl rfl) rfl ?_
       refine RD.vw 33 17179869183 kt153 rfl kp154 (fun _ => FV.move rfl) rfl ?_
       refine RD.offs 68719476735 2 [(34, 102), (35, 103)] (F := [(101, false)]) (U := []) kt153 kp154 (.cons rfl .nil) .nil ?_
       dsimp only [offS, List.map]
       refine RD.vw 36 137438953471 kt153 rfl kp154 (fun _ => FV.pick_f rfl rfl) rfl ?_
       refine RD.vw 37 274877906943 kt153 rfl kp154 (fun _ => FV.assign rfl) rfl ?_
       refine RD.done (doneD_ok kt153 (by kernel_rfl)) ?_
       refine MX.ret rfl ?_
       refine RT.leave hb0 Tryz.func9 rfl (.cons (.tmp rfl) .nil) rfl ?_
       obtain rfl := Option.some.inj h
       exact ⟨hS166.ag, fun w9 hw9 => rfl⟩
      refine RD.offs 4194303 16 [(14, 82), (15, 83), (16, 84), (17, 85), (18, 86), (19, 87), (20, 88), (21, 89)] (F := [(81, false)]) (U := []) kt153 kp154 (.cons rfl .nil) .nil ?_
      dsimp only [offS, List.map]
      refine RD.vw 22 8388607 kt153 rfl kp154 (fun _ => FV.pick_f rfl rfl) rfl ?_
      refine RD.vw 23 16777215 kt153 rfl kp154 (fun _ => FV.move rfl) rfl ?_
      refine RD.offs 4294967295 6 [(24, 92), (25, 93), (26, 94), (27, 95), (28, 96), (29, 97), (30, 98), (31, 99)] (F := [(91, false)]) (U := []) kt153 kp154 (.cons rfl .nil) .nil ?_
      dsimp only [offS, List.map]
      refine RD.vw 32 8589934591 kt153 rfl kp154 (fun _ => FV.pick_f rfl rfl) rfl ?_
      refine RD.vw 33 17179869183 kt153 rfl kp154 (fun _ => FV.move rfl) rfl ?_
      refine RD.offs 68719476735 2 [(34, 102), (35, 103)] (F := [(101, false)]) (U := []) kt153 kp154 (.cons rfl .nil) .nil ?_
      dsimp only [offS, List.map]
      refine RD.vw 36 137438953471 kt153 rfl kp154 (fun _ => FV.pick_f rfl rfl) rfl ?_
      refine RD.vw 37 274877906943 kt153 rfl kp154 (fun _ => FV.assign rfl) rfl ?_
      refine RD.done (doneD_ok kt153 (by kernel_rfl)) ?_
      refine MX.ret rfl ?_
      refine RT.leave hb0 Tryz.func9 rfl (.cons (.tmp rfl) .nil) rfl ?_
      obtain rfl := Option.some.inj h
      exact ⟨hS148.ag, fun w9 hw9 => rfl⟩
     refine RD.offs 4095 26 [(10, 78), (11, 79)] (F := [(77, false)]) (U := []) kt153 kp154 (.cons rfl .nil) .nil ?_
     dsimp only [offS, List.map]
     refine RD.vw 12 8191 kt153 rfl kp154 (fun _ => FV.pick_f rfl rfl) rfl ?_
     refine RD.vw 13 16383 kt153 rfl kp154 (fun _ => FV.move rfl) rfl ?_
     refine RD.offs 4194303 16 [(14, 82), (15, 83), (16, 84), (17, 85), (18, 86), (19, 87), (20, 88), (21, 89)] (F := [(81, false)]) (U := []) kt153 kp154 (.cons rfl .nil) .nil ?_
     dsimp only [offS, List.map]
     refine RD.vw 22 8388607 kt153 rfl kp154 (fun _ => FV.pick_f rfl rfl) rfl ?_
     refine RD.vw 23 16777215 kt153 rfl kp154 (fun _ => FV.move rfl) rfl ?_
     refine RD.offs 4294967295 6 [(24, 92), (25, 93), (26, 94), (27, 95), (28, 96), (29, 97), (30, 98), (31, 99)] (F := [(91, false)]) (U := []) kt153 kp154 (.cons rfl .nil) .nil ?_
     dsimp only [offS, List.map]
     refine RD.vw 32 8589934591 kt153 rfl kp154 (fun _ => FV.pick_f rfl rfl) rfl ?_
     refine RD.vw 33 17179869183 kt153 rfl kp154 (fun _ => FV.move rfl) rfl ?_
     refine RD.offs 68719476735 2 [(34, 102), (35, 103)] (F := [(101, false)]) (U := []) kt153 kp154 (.cons rfl .nil) .nil ?_
     dsimp only [offS, List.map]
     refine RD.vw 36 137438953471 kt153 rfl kp154 (fun _ => FV.pick_f rfl rfl) rfl ?_
     refine RD.vw 37 274877906943 kt153 rfl kp154 (fun _ => FV.assign rfl) rfl ?_
     refine RD.done (doneD_ok kt153 (by kernel_rfl)) ?_
     refine MX.ret rfl ?_
     refine RT.leave hb0 Tryz.func9 rfl (.cons (.tmp rfl) .nil) rfl ?_
     obtain rfl := Option.some.inj h
     exact ⟨hS148.ag, fun w9 hw9 => rfl⟩
    refine RD.offs 255 30 [(6, 74), (7, 75)] (F := [(73, false)]) (U := []) kt153 kp154 (.cons rfl .nil) .nil ?_
    dsimp only [offS, List.map]
    refine RD.vw 8 511 kt153 rfl kp154 (fun _ => FV.pick_f rfl rfl) rfl ?_
    refine RD.vw 9 1023 kt153 rfl kp154 (fun _ => FV.move rfl) rfl ?_
    refine RD.offs 4095 26 [(10, 78), (11, 79)] (F := [(77, false)]) (U := []) kt153 kp154 (.cons rfl .nil) .nil ?_
    dsimp only [offS, List.map]
    refine RD.vw 12 8191 kt153 rfl kp154 (fun _ => FV.pick_f rfl rfl) rfl ?_
    refine RD.vw 13 16383 kt153 rfl kp154 (fun _ => FV.move rfl) rfl ?_
    refine RD.offs 4194303 16 [(14, 82), (15, 83), (16, 84), (17, 85), (18, 86), (19, 87), (20, 88), (21, 89)] (F := [(81, false)]) (U := []) kt153 kp154 (.cons rfl .nil) .nil ?_
    dsimp only [offS, List.map]
    refine RD.vw 22 8388607 kt153 rfl kp154 (fun _ => FV.pick_f rfl rfl) rfl ?_
    refine RD.vw 23 16777215 kt153 rfl kp154 (fun _ => FV.move rfl) rfl ?_
    refine RD.offs 4294967295 6 [(24, 92), (25, 93), (26, 94), (27, 95), (28, 96), (29, 97), (30, 98), (31, 99)] (F := [(91, false)]) (U := []) kt153 kp154 (.cons rfl .nil) .nil ?_
    dsimp only [offS, List.map]
    refine RD.vw 32 8589934591 kt153 rfl kp154 (fun _ => FV.pick_f rfl rfl) rfl ?_
    refine RD.vw 33 17179869183 kt153 rfl kp154 (fun _ => FV.move rfl) rfl ?_
    refine RD.offs 68719476735 2 [(34, 102), (35, 103)] (F := [(101, false)]) (U := []) kt153 kp154 (.cons rfl .nil) .nil ?_
    dsimp only [offS, List.map]
    refine RD.vw 36 137438953471 kt153 rfl kp154 (fun _ => FV.pick_f rfl rfl) rfl ?_
    refine RD.vw 37 274877906943 kt153 rfl kp154 (fun _ => FV.assign rfl) rfl ?_
    refine RD.done (doneD_ok kt153 (by kernel_rfl)) ?_
    refine MX.ret rfl ?_
    refine RT.leave hb0 Tryz.func9 rfl (.cons (.tmp rfl) .nil) rfl ?_
    obtain rfl := Option.some.inj h
    exact ⟨hS148.ag, fun w9 hw9 => rfl⟩
   refine RD.offs 15 34 [(2, 70), (3, 71)] (F := [(69, false)]) (U := []) kt153 kp154 (.cons rfl .nil) .nil ?_
   dsimp only [offS, List.map]
   refine RD.vw 4 31 kt153 rfl kp154 (fun _ => FV.pick_f rfl rfl) rfl ?_
   refine RD.vw 5 63 kt153 rfl kp154 (fun _ => FV.move rfl) rfl ?_
   refine RD.offs 255 30 [(6, 74), (7, 75)] (F := [(73, false)]) (U := []) kt153 kp154 (.cons rfl .nil) .nil ?_
   dsimp only [offS, List.map]
   refine RD.vw 8 511 kt153 rfl kp154 (fun _ => FV.pick_f rfl rfl) rfl ?_
   refine RD.vw 9 1023 kt153 rfl kp154 (fun _ => FV.move rfl) rfl ?_
   refine RD.offs 4095 26 [(10, 78), (11, 79)] (F := [(77, false)]) (U := []) kt153 kp154 (.cons rfl .nil) .nil ?_
   dsimp only [offS, List.map]
   refine RD.vw 12 8191 kt153 rfl kp154 (fun _ => FV.pick_f rfl rfl) rfl ?_
   refine RD.vw 13 16383 kt153 rfl kp154 (fun _ => FV.move rfl) rfl ?_
   refine RD.offs 4194303 16 [(14, 82), (15, 83), (16, 84), (17, 85), (18, 86), (19, 87), (20, 88), (21, 89)] (F := [(81, false)]) (U := []) kt153 kp154 (.cons rfl .nil) .nil ?_
   dsimp only [offS, List.map]
   refine RD.vw 22 8388607 kt153 rfl kp154 (fun _ => FV.pick_f rfl rfl) rfl ?_
   refine RD.vw 23 16777215 kt153 rfl kp154 (fun _ => FV.move rfl) rfl ?_
   refine RD.offs 4294967295 6 [(24, 92), (25, 93), (26, 94), (27, 95), (28, 96), (29, 97), (30, 98), (31, 99)] (F := [(91, false)]) (U := []) kt153 kp154 (.cons rfl .nil) .nil ?_
   dsimp only [offS, List.map]
   refine RD.vw 32 8589934591 kt153 rfl kp154 (fun _ => FV.pick_f rfl rfl) rfl ?_
   refine RD.vw 33 17179869183 kt153 rfl kp154 (fun _ => FV.move rfl) rfl ?_
   refine RD.offs 68719476735 2 [(34, 102), (35, 103)] (F := [(101, false)]) (U := []) kt153 kp154 (.cons rfl .nil) .nil ?_
   dsimp only [offS, List.map]
   refine RD.vw 36 137438953471 kt153 rfl kp154 (fun _ => FV.pick_f rfl rfl) rfl ?_
   refine RD.vw 37 274877906943 kt153 rfl kp154 (fun _ => FV.assign rfl) rfl ?_
   refine RD.done (doneD_ok kt153 (by kernel_rfl)) ?_
   refine MX.ret rfl ?_
   refine RT.leave hb0 Tryz.func9 rfl (.cons (.tmp rfl) .nil) rfl ?_
   obtain rfl := Option.some.inj h
   exact ⟨hS148.ag, fun w9 hw9 => rfl⟩
  ·skip
   intro J151 hJ152 h
   try dsimp only at h
   refine MX.drawT 37 tb9_5 (by kernel_rfl) (by kernel_rfl) (by kernel_rfl) (fun kt189 kp190 => ?_)
   refine RD.vx 2 4 137438953456 kt189 rfl kp190 (FV.loadN (by kernel_rfl) rfl (hS67.memA .hd)) rfl ?_
   refine RD.vw 3 12 kt189 rfl kp190 (fun _ => FV.move rfl) rfl ?_
   refine RD.nu 0 13 kt189 rfl .plain rfl (Does.build (α := Int) (xs := ([(60 : Int), (40 : Int)] : List Int)) (vs := [.int .i64 60, .int .i64 40]) (ds' := [.int .i64 60, .int .i64 40]) rfl hS67 el45 rfl (evs_cons rfl (evs_cons rfl evs_nil)) (by kernel_rfl) rfl) (fun w192 b195 hS193 hT194 => ?_)
   have hc196 := Cells.at_ (cs := [.int .i64 60, .int .i64 40]) (xs := (([(60 : Int), (40 : Int)] : List Int) : List Int)) hS193 L (Cells.cons (cs := [.int .i64 60]) (ds := [.int .i64 40]) rfl (Cells.cons (cs := [.int .i64 40]) (ds := []) rfl (Cells.nil _ _)))
   have hr197 := St.freeze (α := Int) hS193 .hd hc196 hL
   have hS198 := St.delS hS193 .hd
   have hT199 := St.delT hS193 .hd
   have hr200 := Rep.at_ (α := Int) (v := (.slice (some ⟨b195, 0, none⟩) 2 2)) (xs := ([(60 : Int), (40 : Int)] : List Int)) hS198 L hr197
   refine RD.cl 1 15 kt189 rfl .plain body37 rfl (evs_cons rfl evs_nil) (fun w9 hw9 => Calls.gives (wardmotelaw22_is_c n _ w9 (hS198.hL hL hw9) ([(60 : Int), (40 : Int)] : List Int) (Rep.keep0 hr200 hw9)) fun (w8 : World) (u8 : Value) ⟨b0_, hu_, s_⟩ => (⟨b0_, hu_, s_.from hw9⟩ : ∃ b202 : Nat, u8 = Value.func (.func 91) #[] #[.pointer (some ⟨b202, 0, none⟩)] ∧ St w192 w8 [.cells b202 [(.slice (some ⟨b195, 0, none⟩) 2 2)] 45])) rfl (fun w203 vu204 hag205 ⟨b202, hu207, s206⟩ => ?_)
   subst hu207
   have hS208 : St w w203 [.cells b202 [(.slice (some ⟨b195, 0, none⟩) 2 2)] 45, .cells b24 [.int .i64 y1.fGroups, .int .i64 y1.fParties, .int .i64 y1.fLevels, v9] 44] := St.merge hS198 s206
   have hT209 : Tr w192 [.cells b24 [.int .i64 y1.fGroups, .int .i64 y1.fParties, .int .i64 y1.fLevels, v9] 44] w203 [.cells b202 [(.slice (some ⟨b195, 0, none⟩) 2 2)] 45, .cells b24 [.int .i64 y1.fGroups, .int .i64 y1.fParties, .int .i64 y1.fLevels, v9] 44] := Tr.merge hS198 s206
   obtain ⟨y210, hy210, h⟩ := bind_in h
   have hm211 := Rep.mv hr33 (Tr.trans hT36 (Tr.trans hT44 (Tr.trans hT55 (Tr.trans hT61 (Tr.trans hT68 (Tr.trans hT194 (Tr.trans hT199 hT209)))))))
   have hm212 := Rep.mv hr38 (Tr.trans hT44 (Tr.trans hT55 (Tr.trans hT61 (Tr.trans hT68 (Tr.trans hT194 (Tr.trans hT199 hT209))))))
   refine RD.cl 4 31 kt189 rfl .plain body19 rfl (evs_cons rfl (evs_cons rfl (evs_cons rfl evs_nil))) (fun w9 hw9 => balance_Totals_c n _ w9 (hS208.hL hL hw9) y1 (Rep.keep0 hm211 hw9) ([(0 : Int), (0 : Int), (0 : Int), (1 : Int)] : List Int) (Rep.keep0 hm212 hw9) (2 : Int) hy210) rfl (fun w213 vu214 hag215 ⟨v218, hu_, hr219⟩ => ?_)
   subst hu_
   obtain ⟨hS216, hT217⟩ := hS208.agr hag215
   refine RD.vw 5 63 kt189 rfl kp190 (fun _ => FV.extract rfl rfl) rfl ?_
   refine RD.vw 6 127 kt189 rfl kp190 (fun _ => FV.extract rfl rfl) rfl ?_
   obtain ⟨y220, hy220, h⟩ := bind_in h
   have hm221 := Rep.mv hr200 (Tr.trans hT209 hT217)
   refine RD.callq (i := 7) (m' := 255) (W := 137438953216) (takeC_ok kt189 (by kernel_rfl)) rfl kp190 (v := .bool y220) (fst := []) (cap := [.pointer (some ⟨b202, 0, none⟩)]) .plain body91 rfl (evs_cons rfl (evs_cons rfl evs_nil)) (fun w9 hw9 => wardmotelaw22_is_1_c n _ w9 (hS216.hL0 hL hw9) y210.1 (Rep.keep0 (Rep.dropS hS216 hr219) hw9) y210.2 ([(60 : Int), (40 : Int)] : List Int) (Rep.keep0 (Rep.dropS hS216 hm221) hw9) (fun j9 v9 h9 => hw9.cell0 ((hS216.memA .hd) j9 v9 h9)) hy220) rfl ?_
   refine RD.vw 8 511 kt189 rfl kp190 (fun _ => FV.move rfl) rfl ?_
   refine RD.ifb (s := 40) rfl h (fun c222 h => ?_) (fun c222 h => ?_)
   ·skip
    refine RD.val (i := 10) (m' := 1535) (W := 137438951424) (takeC_ok kt189 (by kernel_rfl)) rfl kp190 (.yes rfl rfl) (FV.loadN (by kernel_rfl) rfl (hS216.memA (.tl .hd))) rfl ?_
    refine RD.cl 9 2047 kt189 rfl (.yes rfl rfl) body21 rfl (evs_cons rfl (evs_cons rfl evs_nil)) (fun w9 hw9 => Calls.gives (wardmotelaw22_part_c n _ w9 (hS216.hL hL hw9) (50 : Int) (1 : Int)) fun (w8 : World) (u8 : Value) ⟨b0_, b1_, hu_, s_⟩ => (⟨b0_, b1_, hu_, s_.from hw9⟩ : ∃ b225 b226 : Nat, u8 = Value.func (.func 72) #[] #[.pointer (some ⟨b225, 0, none⟩), .pointer (some ⟨b226, 0, none⟩)] ∧ St w213 w8 [.cells b225 [.int .i64 50] 3, .cells b226 [.int .i64 1] 3])) rfl (fun w227 vu228 hag229 ⟨b225, b226, hu231, s230⟩ => ?_)
    subst hu231
    have hS232 : St w w227 [.cells b225 [.int .i64 50] 3, .cells b226 [.int .i64 1] 3, .cells b202 [(.slice (some ⟨b195, 0, none⟩) 2 2)] 45, .cells b24 [.int .i64 y1.fGroups, .int .i64 y1.fParties, .int .i64 y1.fLevels, v9] 44] := St.merge hS216 s230
    have hT233 : Tr w213 [.cells b202 [(.slice (some ⟨b195, 0, none⟩) 2 2)] 45, .cells b24 [.int .i64 y1.fGroups, .int .i64 y1.fParties, .int .i64 y1.fLevels, v9] 44] w227 [.cells b225 [.int .i64 50] 3, .cells b226 [.int .i64 1] 3, .cells b202 [(.slice (some ⟨b195, 0, none⟩) 2 2)] 45, .cells b24 [.int .i64 y1.fGroups, .int .i64 y1.fParties, .int .i64 y1.fLevels, v9] 44] := Tr.merge hS216 s230
    obtain ⟨y234, hy234, h⟩ := bind_in h
    have hm235 := Rep.mv hr33 (Tr.trans hT36 (Tr.trans hT44 (Tr.trans hT55 (Tr.trans hT61 (Tr.trans hT68 (Tr.trans hT194 (Tr.trans hT199 (Tr.trans hT209 (Tr.trans hT217 hT233)))))))))
    refine RD.callq (i := 11) (m' := 4095) (W := 137438949376) (takeC_ok kt189 (by kernel_rfl)) rfl kp190 (v := .tuple #[.agg ((cs_TShare y234.1)).toArray, .int .i64 y234.2]) (fst := []) (cap := []) (.yes rfl rfl) body20 rfl (evs_cons rfl (evs_cons rfl evs_nil)) (fun w9 hw9 => balance_Ideal_c n _ w9 (hS232.hL0 hL hw9) y1 (Rep.keep0 (Rep.dropS hS232 hm235) hw9) (2 : Int) hy234) rfl ?_
    refine RD.vP 12 8191 kt189 rfl kp190 (.yes rfl rfl) (fun _ => FV.extract rfl rfl) rfl ?_
    refine RD.vP 13 16383 kt189 rfl kp190 (.yes rfl rfl) (fun _ => FV.extract rfl rfl) rfl ?_
    obtain ⟨y236, hy236, h⟩ := bind_in h
    refine RD.callq (i := 14) (m' := 32767) (W := 137438920704) (takeC_ok kt189 (by kernel_rfl)) rfl kp190 (v := .bool y236) (fst := []) (cap := [.pointer (some ⟨b225, 0, none⟩), .pointer (some ⟨b226, 0, none⟩)]) (.yes rfl rfl) body72 rfl (evs_cons rfl (evs_cons rfl evs_nil)) (fun w9 hw9 => wardmotelaw22_part_1_c n _ w9 (hS232.hL0 hL hw9) y234.1 y234.2 (50 : Int) (fun j9 v9 h9 => hw9.cell0 ((hS232.memA .hd) j9 v9 h9)) (1 : Int) (fun j9 v9 h9 => hw9.cell0 ((hS232.memA (.tl .hd)) j9 v9 h9)) hy236) rfl ?_
    refine RD.vw 15 65535 kt189 rfl kp190 (fun _ => FV.pick_t rfl rfl) rfl ?_
    refine RD.vw 16 131071 kt189 rfl kp190 (fun _ => FV.move rfl) rfl ?_
    refine RD.ifb (s := 48) rfl h (fun c237 h => ?_) (fun c237 h => ?_)
    ·skip
     refine RD.vP 17 262143 kt189 rfl kp190 (.yes rfl rfl) (fun _ => FV.move rfl) rfl ?_
     obtain ⟨y238, hy238, h⟩ := bind_in h
     refine RD.callq (i := 18) (m' := 524287) (W := 137438429184) (takeC_ok kt189 (by kernel_rfl)) rfl kp190 (v := .agg ((cs_TShare y238)).toArray) (fst := []) (cap := []) (.yes rfl rfl) body23 rfl (evs_cons rfl (evs_cons rfl evs_nil)) (fun w9 hw9 => wardmotelaw22_of_c n _ w9 (hS232.hL0 hL hw9) (1 : Int) (5 : Int) hy238) rfl ?_
     obtain ⟨y239, hy239, h⟩ := bind_in h
     refine RD.callq (i := 19) (m' := 1048575) (W := 137437904896) (takeC_ok kt189 (by kernel_rfl)) rfl kp190 (v := .agg ((cs_TShare y239)).toArray) (fst := []) (cap := []) (.yes rfl rfl) body23 rfl (evs_cons rfl (evs_cons rfl evs_nil)) (fun w9 hw9 => wardmotelaw22_of_c n _ w9 (hS232.hL0 hL hw9) (-1 : Int) (5 : Int) hy239) rfl ?_
     refine RD.nu 20 2097151 kt189 rfl (.yes rfl rfl) rfl (Does.build (α := TShare) (xs := ([y238, y239] : List TShare)) (vs := [.agg ((cs_TShare y238)).toArray, .agg ((cs_TShare y239)).toArray]) (ds' := (cs_TShare y238 ++ cs_TShare y239)) rfl hS232 el68 rfl (evs_cons rfl (evs_cons rfl evs_nil)) (by kernel_rfl) rfl) (fun w241 b244 hS242 hT243 => ?_)
     have hc245 := Cells.at_ (cs := (cs_TShare y238 ++ cs_TShare y239)) (xs := (([y238, y239] : List TShare) : List TShare)) hS242 L (Cells.cons (cs := (cs_TShare y238)) (ds := (cs_TShare y239)) (mk_TShare y238.fN y238.fD) (Cells.cons (cs := (cs_TShare y239)) (ds := []) (mk_TShare y239.fN y239.fD) (Cells.nil _ _)))
     obtain ⟨y246, hy246, h⟩ := bind_in h
     have hm247 := Rep.mv hr46 (Tr.trans hT55 (Tr.trans hT61 (Tr.trans hT68 (Tr.trans hT194 (Tr.trans hT199 (Tr.trans hT209 (Tr.trans hT217 (Tr.trans hT233 hT243))))))))
     refine RD.callq (i := 21) (m' := 4194303) (W := 137434759168) (takeC_ok kt189 (by kernel_rfl)) rfl kp190 (v := .bool y246) (fst := []) (cap := []) (.yes rfl rfl) body44 rfl (evs_cons rfl (evs_cons rfl evs_nil)) (fun w9 hw9 => slices_Equal_api_Share_api_Share_c n _ w9 (hS242.hL0 hL hw9) y28.1 (Rep.keep0 (Rep.dropS hS242 hm247) hw9) ([y238, y239] : List TShare) (Rep.keep0 (St.lend (α := TShare) (L := L) hS242 .hd hc245 hL) hw9) hy246) rfl ?_
     refine RD.vw 22 8388607 kt189 rfl kp190 (fun _ => FV.pick_t rfl rfl) rfl ?_
     refine RD.vw 23 16777215 kt189 rfl kp190 (fun _ => FV.move rfl) rfl ?_
     refine RD.ifb (s := 55) rfl h (fun c248 h => ?_) (fun c248 h => ?_)
     ·skip
      refine RD.vP 24 33554431 kt189 rfl kp190 (.yes rfl rfl) (fun _ => FV.move rfl) rfl ?_
      refine RD.vP 25 67108863 kt189 rfl kp190 (.yes rfl rfl) (fun _ => FV.eql (i := y28.2) (j := 0) rfl rfl) rfl ?_
      refine RD.vw 26 134217727 kt189 rfl kp190 (fun _ => FV.pick_t rfl rfl) rfl ?_
      refine RD.vw 27 268435455 kt189 rfl kp190 (fun _ => FV.move rfl) rfl ?_
      refine RD.ifd (s := 59) rfl h (fun c249 h => ?_) (fun c249 h => ?_)
      ·skip
       refine RD.val (i := 29) (m' := 805306367) (W := 135291469824) (takeC_ok kt189 (by kernel_rfl)) rfl kp190 (.yes rfl rfl) (FV.loadN (by kernel_rfl) rfl (hS242.memA (.tl (.tl (.tl (.tl .hd)))))) rfl ?_
       refine RD.vP 30 1879048191 kt189 rfl kp190 (.yes rfl rfl) (fun _ => FV.move rfl) rfl ?_
       refine RD.cl 28 2147483647 kt189 rfl (.yes rfl rfl) body21 rfl (evs_cons rfl (evs_cons rfl evs_nil)) (fun w9 hw9 => Calls.gives (wardmotelaw22_part_c n _ w9 (hS242.hL hL hw9) (2 : Int) (5 : Int)) fun (w8 : World) (u8 : Value) ⟨b0_, b1_, hu_, s_⟩ => (⟨b0_, b1_, hu_, s_.from hw9⟩ : ∃ b252 b253 : Nat, u8 = Value.func (.func 72) #[] #[.pointer (some ⟨b252, 0, none⟩), .pointer (some ⟨b253, 0, none⟩)] ∧ St w241 w8 [.cells b252 [.int .i64 2] 3, .cells b253 [.int .i64 5] 3])) rfl (fun w254 vu255 hag256 ⟨b252, b253, hu258, s257⟩ => ?_)
       subst hu258
       have hS259 : St w w254 [.cells b252 [.int .i64 2] 3, .cells b253 [.int .i64 5] 3, .row w.heap.size 37 (Rep.size TShare) (.slice (some ⟨b244, 0, none⟩) 2 2) (([y238, y239] : List TShare).length) (cs_TShare y238 ++ cs_TShare y239), .cells b225 [.int .i64 50] 3, .cells b226 [.int .i64 1] 3, .cells b202 [(.slice (some ⟨b195, 0, none⟩) 2 2)] 45, .cells b24 [.int .i64 y1.fGroups, .int .i64 y1.fParties, .int .i64 y1.fLevels, v9] 44] := St.merge hS242 s257
       have hT260 : Tr w241 [.row w.heap.size 37 (Rep.size TShare) (.slice (some ⟨b244, 0, none⟩) 2 2) (([y238, y239] : List TShare).length) (cs_TShare y238 ++ cs_TShare y239), .cells b225 [.int .i64 50] 3, .cells b226 [.int .i64 1] 3, .cells b202 [(.slice (some ⟨b195, 0, none⟩) 2 2)] 45, .cells b24 [.int .i64 y1.fGroups, .int .i64 y1.fParties, .int .i64 y1.fLevels, v9] 44] w254 [.cells b252 [.int .i64 2] 3, .cells b253 [.int .i64 5] 3, .row w.heap.size 37 (Rep.size TShare) (.slice (some ⟨b244, 0, none⟩) 2 2) (([y238, y239] : List TShare).length) (cs_TShare y238 ++ cs_TShare y239), .cells b225 [.int .i64 50] 3, .cells b226 [.int .i64 1] 3, .cells b202 [(.slice (some ⟨b195, 0, none⟩) 2 2)] 45, .cells b24 [.int .i64 y1.fGroups, .int .i64 y1.fParties, .int .i64 y1.fLevels, v9] 44] := Tr.merge hS242 s257
       obtain ⟨y261, hy261, h⟩ := bind_in h
       have hm262 := Rep.mv hr33 (Tr.trans hT36 (Tr.trans hT44 (Tr.trans hT55 (Tr.trans hT61 (Tr.trans hT68 (Tr.trans hT194 (Tr.trans hT199 (Tr.trans hT209 (Tr.trans hT217 (Tr.trans hT233 (Tr.trans hT243 hT260)))))))))))
       have hm263 := Rep.mv hr38 (Tr.trans hT44 (Tr.trans hT55 (Tr.trans hT61 (Tr.trans hT68 (Tr.trans hT194 (Tr.trans hT199 (Tr.trans hT209 (Tr.trans hT217 (Tr.trans hT233 (Tr.trans hT243 hT260))))))))))
       refine RD.callq (i := 31) (m' := 4294967295) (W := 133143986176) (takeC_ok kt189 (by kernel_rfl)) rfl kp190 (v := .tuple #[.agg ((cs_TShare y261.1)).toArray, .int .i64 y261.2]) (fst := []) (cap := []) (.yes rfl rfl) body33 rfl (evs_cons rfl (evs_cons rfl (evs_cons rfl evs_nil))) (fun w9 hw9 => balance_Spread_c n _ w9 (hS259.hL0 hL hw9) y1 (Rep.keep0 (Rep.dropS hS259 hm262) hw9) ([(0 : Int), (0 : Int), (0 : Int), (1 : Int)] : List Int) (Rep.keep0 (Rep.dropS hS259 hm263) hw9) (2 : Int) hy261) rfl ?_
       refine RD.vP 32 8589934591 kt189 rfl kp190 (.yes rfl rfl) (fun _ => FV.extract rfl rfl) rfl ?_
       refine RD.vP 33 17179869183 kt189 rfl kp190 (.yes rfl rfl) (fun _ => FV.extract rfl rfl) rfl ?_
       obtain ⟨y264, hy264, h⟩ := bind_in h
       refine RD.callq (i := 34) (m' := 34359738367) (W := 103079215104) (takeC_ok kt189 (by kernel_rfl)) rfl kp190 (v := .bool y264) (fst := []) (cap := [.pointer (some ⟨b252, 0, none⟩), .pointer (some ⟨b253, 0, none⟩)]) (.yes rfl rfl) body72 rfl (evs_cons rfl (evs_cons rfl evs_nil)) (fun w9 hw9 => wardmotelaw22_part_1_c n _ w9 (hS259.hL0 hL hw9) y261.1 y261.2 (2 : Int) (fun j9 v9 h9 => hw9.cell0 ((hS259.memA .hd) j9 v9 h9)) (5 : Int) (fun j9 v9 h9 => hw9.cell0 ((hS259.memA (.tl .hd)) j9 v9 h9)) hy264) rfl ?_
       refine RD.vw 35 68719476735 kt189 rfl kp190 (fun _ => FV.pick_t rfl rfl) rfl ?_
       refine RD.vw 36 137438953471 kt189 rfl kp190 (fun _ => FV.assign rfl) rfl ?_
       refine RD.done (doneD_ok kt189 (by kernel_rfl)) ?_
       obtain ⟨hS265, hT266⟩ := St.arrB hS259 (.one (.tl (.tl (.tl (.tl (.tl (.tl .hd)))))) .done)
       exact hJ152 y264 _ _ ⟨rfl, rfl, rfl, rfl, rfl, rfl, rfl, trivial⟩ ⟨hS265, (Tr.trans hT194 (Tr.trans hT199 (Tr.trans hT209 (Tr.trans hT217 (Tr.trans hT233 (Tr.trans hT243 (Tr.trans hT260 hT266)))))))⟩ h
      refine RD.offs 34359738367 2 [(28, 60), (29, 61), (30, 62), (31, 63), (32, 64), (33, 65), (34, 66)] (F := [(59, false)]) (U := []) kt189 kp190 (.cons rfl .nil) .nil ?_
      dsimp only [offS, List.map]
      refine RD.vw 35 68719476735 kt189 rfl kp190 (fun _ => FV.pick_f rfl rfl) rfl ?_
      refine RD.vw 36 137438953471 kt189 rfl kp190 (fun _ => FV.assign rfl) rfl ?_
      refine RD.done (doneD_ok kt189 (by kernel_rfl)) ?_
      obtain ⟨hS267, hT268⟩ := St.arrB hS242 (.one (.tl (.tl (.tl (.tl .hd)))) .done)
      exact hJ152 false _ _ ⟨rfl, rfl, rfl, rfl, rfl, rfl, rfl, trivial⟩ ⟨hS267, (Tr.trans hT194 (Tr.trans hT199 (Tr.trans hT209 (Tr.trans hT217 (Tr.trans hT233 (Tr.trans hT243 hT268))))))⟩ h
     refine RD.offs 67108863 11 [(24, 56), (25, 57)] (F := [(55, false)]) (U := []) kt189 kp190 (.cons rfl .nil) .nil ?_
     dsimp only [offS, List.map]
     refine RD.vw 26 134217727 kt189 rfl kp190 (fun _ => FV.pick_f rfl rfl) rfl ?_
     refine RD.vw 27 268435455 kt189 rfl kp190 (fun _ => FV.move rfl) rfl ?_
     refine RD.offs 34359738367 2 [(28, 60), (29, 61), (30, 62), (31, 63), (32, 64), (33, 65), (34, 66)] (F := [(59, false)]) (U := []) kt189 kp190 (.cons rfl .nil) .nil ?_
     dsimp only [offS, List.map]
     refine RD.vw 35 68719476735 kt189 rfl kp190 (fun _ => FV.pick_f rfl rfl) rfl ?_
     refine RD.vw 36 137438953471 kt189 rfl kp190 (fun _ => FV.assign rfl) rfl ?_
     refine RD.done (doneD_ok kt189 (by kernel_rfl)) ?_
     obtain ⟨hS269, hT270⟩ := St.arrB hS242 (.one (.tl (.tl (.tl (.tl .hd)))) .done)
     exact hJ152 false _ _ ⟨rfl, rfl, rfl, rfl, rfl, rfl, rfl, trivial⟩ ⟨hS269, (Tr.trans hT194 (Tr.trans hT199 (Tr.trans hT209 (Tr.trans hT217 (Tr.trans hT233 (Tr.trans hT243 hT270))))))⟩ h
    refine RD.offs 4194303 15 [(17, 49), (18, 50), (19, 51), (20, 52), (21, 53)] (F := [(48, false)]) (U := []) kt189 kp190 (.cons rfl .nil) .nil ?_
    dsimp only [offS, List.map]
    refine RD.vw 22 8388607 kt189 rfl kp190 (fun _ => FV.pick_f rfl rfl) rfl ?_
    refine RD.vw 23 16777215 kt189 rfl kp190 (fun _ => FV.move rfl) rfl ?_
    refine RD.offs 67108863 11 [(24, 56), (25, 57)] (F := [(55, false)]) (U := []) kt189 kp190 (.cons rfl .nil) .nil ?_
    dsimp only [offS, List.map]
    refine RD.vw 26 134217727 kt189 rfl kp190 (fun _ => FV.pick_f rfl rfl) rfl ?_
    refine RD.vw 27 268435455 kt189 rfl kp190 (fun _ => FV.move rfl) rfl ?_
    refine RD.offs 34359738367 2 [(28, 60), (29, 61), (30, 62), (31, 63), (32, 64), (33, 65), (34, 66)] (F := [(59, false)]) (U := []) kt189 kp190 (.cons rfl .nil) .nil ?_
    dsimp only [offS, List.map]
    refine RD.vw 35 68719476735 kt189 rfl kp190 (fun _ => FV.pick_f rfl rfl) rfl ?_
    refine RD.vw 36 137438953471 kt189 rfl kp190 (fun _ => FV.assign rfl) rfl ?_
    refine RD.done (doneD_ok kt189 (by kernel_rfl)) ?_
    obtain ⟨hS271, hT272⟩ := St.arrB hS232 (.one (.tl (.tl (.tl .hd))) .done)
    exact hJ152 false _ _ ⟨rfl, rfl, rfl, rfl, rfl, rfl, rfl, trivial⟩ ⟨hS271, (Tr.trans hT194 (Tr.trans hT199 (Tr.trans hT209 (Tr.trans hT217 (Tr.trans hT233 hT272)))))⟩ h
   refine RD.offs 32767 22 [(9, 41), (10, 42), (11, 43), (12, 44), (13, 45), (14, 46)] (F := [(40, false)]) (U := []) kt189 kp190 (.cons rfl .nil) .nil ?_
   dsimp only [offS, List.map]
   refine RD.vw 15 65535 kt189 rfl kp190 (fun _ => FV.pick_f rfl rfl) rfl ?_
   refine RD.vw 16 131071 kt189 rfl kp190 (fun _ => FV.move rfl) rfl ?_
   refine RD.offs 4194303 15 [(17, 49), (18, 50), (19, 51), (20, 52), (21, 53)] (F := [(48, false)]) (U := []) kt189 kp190 (.cons rfl .nil) .nil ?_
   dsimp only [offS, List.map]
   refine RD.vw 22 8388607 kt189 rfl kp190 (fun _ => FV.pick_f rfl rfl) rfl ?_
   refine RD.vw 23 16777215 kt189 rfl kp190 (fun _ => FV.move rfl) rfl ?_
   refine RD.offs 67108863 11 [(24, 56), (25, 57)] (F := [(55, false)]) (U := []) kt189 kp190 (.cons rfl .nil) .nil ?_
   dsimp only [offS, List.map]
   refine RD.vw 26 134217727 kt189 rfl kp190 (fun _ => FV.pick_f rfl rfl) rfl ?_
   refine RD.vw 27 268435455 kt189 rfl kp190 (fun _ => FV.move rfl) rfl ?_
   refine RD.offs 34359738367 2 [(28, 60), (29, 61), (30, 62), (31, 63), (32, 64), (33, 65), (34, 66)] (F := [(59, false)]) (U := []) kt189 kp190 (.cons rfl .nil) .nil ?_
   dsimp only [offS, List.map]
   refine RD.vw 35 68719476735 kt189 rfl kp190 (fun _ => FV.pick_f rfl rfl) rfl ?_
   refine RD.vw 36 137438953471 kt189 rfl kp190 (fun _ => FV.assign rfl) rfl ?_
   refine RD.done (doneD_ok kt189 (by kernel_rfl)) ?_
   obtain ⟨hS273, hT274⟩ := St.arrB hS216 (.one (.tl .hd) .done)
   exact hJ152 false _ _ ⟨rfl, rfl, rfl, rfl, rfl, rfl, rfl, trivial⟩ ⟨hS273, (Tr.trans hT194 (Tr.trans hT199 (Tr.trans hT209 (Tr.trans hT217 hT274))))⟩ h
def tb86_1 : List (Nat × Nat × Nat) := [(0, 16, 1), (0, 32, 2), (3, 64, 48), (0, 128, 4), (12, 256, 192)]
def balance_Check_1_p (n : Nat) (a0 : TRoll) (a1 : Int) (a2 : List Int) : Option (Except Tbroken Bool) :=
  (balance_counted_p n a0 a1).bind fun y3 => exc y3 (fun y5 => (balance_count_check_p n y5 a2).bind fun y18 => exc y18 (fun y20 => some (.ok true)) (fun e19 => some (.error e19))) (fun e4 => some (.error e4))
set_option maxRecDepth 4000 in
set_option maxHeartbeats 4000000 in
theorem balance_Check_1_c (n : Nat) (L : List Nat) (w : World) (hL : ∀ b ∈ L, b < w.heap.size) (a0 : TRoll) {v0_3 : Value} (h0_3 : Rep.R w L [v0_3] a0.fUnits) {p0 : Nat} (m0 : ∀ j9 v9, ([.int .i64 a0.fGroups, .int .i64 a0.fParties, .int .i64 a0.fLevels, v0_3] : List Value)[j9]? = some v9 → w.cell? ((⟨p0, 0, none⟩ : Addr).add j9) = some v9) (a1 : Int) {p1 : Nat} (m1 : ∀ j9 v9, ([.int .i64 a1] : List Value)[j9]? = some v9 → w.cell? ((⟨p1, 0, none⟩ : Addr).add j9) = some v9) (a2 : List Int) {v2_0 : Value} (h2_0 : Rep.R w L [v2_0] a2) {p2 : Nat} (m2 : ∀ j9 v9, ([v2_0] : List Value)[j9]? = some v9 → w.cell? ((⟨p2, 0, none⟩ : Addr).add j9) = some v9)  {r : Except Tbroken Bool} (h : balance_Check_1_p n a0 a1 a2 = some r) :
    Calls Tryz.prog 86 #[.pointer (some ⟨p0, 0, none⟩), .pointer (some ⟨p1, 0, none⟩), .pointer (some ⟨p2, 0, none⟩)] w (PGives w (fun (y : Bool) _ u => u = .bool y) (fun e => .iface 140 (.agg #[.int .i64 e.fErrno])) r) := by
  unfold balance_Check_1_p at h
  have hS0 := St.start w
  refine MX.startP Tryz.func86 rfl rfl rfl (fun _ cs0 hb0 hp0 => ?_)
  refine MX.sr ?_
  refine RG.sg rfl rfl ?_
  refine RG.nil ?_
  refine MX.seq ?_
  refine MX.drawT 5 tb86_1 (by kernel_rfl) (by kernel_rfl) (by kernel_rfl) (fun kt1 kp2 => ?_)
  refine RD.vx 0 1 20 kt1 rfl kp2 (FV.loadN (by kernel_rfl) rfl (fun j9 v9 h9 => hS0.ag.cell0 (m0 j9 v9 h9))) rfl ?_
  refine RD.vx 1 3 20 kt1 rfl kp2 (FV.load1 (by kernel_rfl) rfl ((fun j9 v9 h9 => hS0.ag.cell0 (m1 j9 v9 h9)) 0 _ rfl)) rfl ?_
  obtain ⟨y3, hy3, h⟩ := bind_in h
  rcases y3 with e4 | y5
  ·skip
   have h := exc_e h
   try dsimp only at h
   refine RD.vx 3 11 16 kt1 rfl kp2 (FV.load1 (by kernel_rfl) rfl ((fun j9 v9 h9 => hS0.ag.cell0 (m2 j9 v9 h9)) 0 _ rfl)) rfl ?_
   refine RD.one (i := 2) (readyD_ok kt1 (by kernel_rfl)) (RO.callE (fst := []) (cap := []) rfl .plain body50 rfl (evs_cons rfl (evs_cons rfl evs_nil)) (fun w9 hw9 => balance_counted_c n _ w9 (hS0.hL hL hw9) a0 (Rep.keep0 h0_3 hw9) a1 hy3) (fun w6 hag7 => ?_))
   obtain ⟨hS8, hT9⟩ := hS0.agr hag7
   obtain rfl := Option.some.inj h
   exact PN.leave hp0 Tryz.func86 ⟨hS8.ag, rfl⟩
  have h := exc_o h
  try dsimp only at h
  refine RD.vx 3 11 16 kt1 rfl kp2 (FV.load1 (by kernel_rfl) rfl ((fun j9 v9 h9 => hS0.ag.cell0 (m2 j9 v9 h9)) 0 _ rfl)) rfl ?_
  refine RD.cl 2 15 kt1 rfl .plain body50 rfl (evs_cons rfl (evs_cons rfl evs_nil)) (fun w9 hw9 => Calls.okp (balance_counted_c n _ w9 (hS0.hL hL hw9) a0 (Rep.keep0 h0_3 hw9) a1 hy3)) rfl (fun w11 vu12 hag13 ⟨v16, hu_, hr17⟩ => ?_)
  subst hu_
  obtain ⟨hS14, hT15⟩ := hS0.agr hag13
  obtain ⟨y18, hy18, h⟩ := bind_in h
  rcases y18 with e19 | y20
  ·skip
   have h := exc_e h
   try dsimp only at h
   have hm21 := Rep.mv h2_0 hT15
   refine RD.one (i := 4) (readyD_ok kt1 (by kernel_rfl)) (RO.callE (fst := []) (cap := []) rfl .plain body87 rfl (evs_cons rfl (evs_cons rfl evs_nil)) (fun w9 hw9 => balance_count_check_c n _ w9 (hS14.hL0 hL hw9) y5 (Rep.keep0 (Rep.dropS hS14 hr17) hw9) a2 (Rep.keep0 (Rep.dropS hS14 hm21) hw9) hy18) (fun w22 hag23 => ?_))
   obtain ⟨hS24, hT25⟩ := hS14.agr hag23
   obtain rfl := Option.some.inj h
   exact PN.leave hp0 Tryz.func86 ⟨hS24.ag, rfl⟩
  have h := exc_o h
  try dsimp only at h
  have hm27 := Rep.mv h2_0 hT15
  refine RD.cq 4 31 0 (.tuple #[]) kt1 rfl kp2 body87 rfl (evs_cons rfl (evs_cons rfl evs_nil)) (fun w9 hw9 => Calls.okp (balance_count_check_c n _ w9 (hS14.hL0 hL hw9) y5 (Rep.keep0 (Rep.dropS hS14 hr17) hw9) a2 (Rep.keep0 (Rep.dropS hS14 hm27) hw9) hy18)) rfl ?_
  refine RD.done (doneD_ok kt1 (by kernel_rfl)) ?_
  refine MX.sr ?_
  refine RG.sg rfl rfl ?_
  refine RG.nil ?_
  refine MX.ret rfl ?_
  refine RT.leave hb0 Tryz.func86 rfl (.cons (.tmp rfl) .nil) rfl ?_
  obtain rfl := Option.some.inj h
  exact ⟨hS14.ag, fun w9 hw9 => okOf_in rfl⟩
theorem body86 : bodyB Tryz.prog 86 = true := by kernel_rfl
def balance_Check_p (n : Nat) (a0 : TRoll) (a1 : List Int) (a2 : Int) : Option Int :=
  (balance_Check_1_p n a0 a2 a1).bind fun y30 => exc y30 (fun y32 => some (0 : Int)) (fun e31 => some e31.fErrno)
set_option maxRecDepth 4000 in
set_option maxHeartbeats 4000000 in
theorem balance_Check_c (n : Nat) (L : List Nat) (w : World) (hL : ∀ b ∈ L, b < w.heap.size) (a0 : TRoll) {v0_3 : Value} (h0_3 : Rep.R w L [v0_3] a0.fUnits) (a1 : List Int) {v1_0 : Value} (h1_0 : Rep.R w L [v1_0] a1) (a2 : Int)  {r : Int} (h : balance_Check_p n a0 a1 a2 = some r) :
    Calls Tryz.prog 29 #[.agg #[.int .i64 a0.fGroups, .int .i64 a0.fParties, .int .i64 a0.fLevels, v0_3], v1_0, .int .i64 a2] w (Gives w fun _ u => u = .int .i64 r) := by
  unfold balance_Check_p at h
  have hS0 := St.start w
  refine MX.start Tryz.func29 rfl rfl rfl (fun _ cs0 hb0 => ?_)
  refine MX.sr ?_
  refine RG.new .plain rfl (Does.box (vs := [.int .i64 a0.fGroups, .int .i64 a0.fParties, .int .i64 a0.fLevels, v0_3]) hS0 rfl rfl) (fun w2 b5 hS3 hT4 => ?_)
  have hm7 := Rep.mv h1_0 hT4
  refine RG.new .plain rfl (Does.box (vs := [v1_0]) hS3 rfl (Rep.c1 hm7)) (fun w8 b11 hS9 hT10 => ?_)
  refine RG.new .plain rfl (Does.box (vs := [.int .i64 a2]) hS9 rfl rfl) (fun w13 b16 hS14 hT15 => ?_)
  refine RG.sg rfl rfl ?_
  refine RG.nil ?_
  refine MX.sr ?_
  refine RG.vv (FV.makeFunc (vs := []) (us := [.pointer (some ⟨b5, 0, none⟩), .pointer (some ⟨b16, 0, none⟩), .pointer (some ⟨b11, 0, none⟩)]) evs_nil (evs_cons rfl (evs_cons rfl (evs_cons rfl evs_nil)))) rfl ?_
  refine RG.enterP (fst := []) (cap := []) (vs := [.func (.func 86) #[] #[.pointer (some ⟨b5, 0, none⟩), .pointer (some ⟨b16, 0, none⟩), .pointer (some ⟨b11, 0, none⟩)]]) .plain body56 Tryz.func56 rfl rfl rfl rfl (evs_cons rfl evs_nil) rfl (fun cs18 hb17 hp19 => ?_)
  refine MX.sr ?_
  refine RG.new .plain rfl (Does.alloc (zs := [.bool false]) hS14 (zB (by kernel_rfl))) (fun w21 b24 hS22 hT23 => ?_)
  refine RG.new .plain rfl (Does.alloc (zs := [.int .i64 0]) hS22 (zB (by kernel_rfl))) (fun w26 b29 hS27 hT28 => ?_)
  refine RG.nil ?_
  refine MX.sr ?_
  refine RG.vv (FV.makeFunc (vs := []) (us := [.pointer (some ⟨b24, 0, none⟩), .pointer (some ⟨b29, 0, none⟩)]) evs_nil (evs_cons rfl (evs_cons rfl evs_nil))) rfl ?_
  refine RG.defer (fst := []) (cap := [.pointer (some ⟨b24, 0, none⟩), .pointer (some ⟨b29, 0, none⟩)]) (vs := []) rfl .plain rfl evs_nil ?_
  refine RG.nil ?_
  refine MX.sr ?_
  refine RG.mv rfl rfl ?_
  obtain ⟨y30, hy30, h⟩ := bind_in h
  rcases y30 with e31 | y32
  ·skip
   have h := exc_e h
   try dsimp only at h
   have hm33 := Rep.mv h0_3 (Tr.trans hT4 (Tr.trans hT10 (Tr.trans hT15 (Tr.trans hT23 hT28))))
   have hm34 := Rep.mv h1_0 (Tr.trans hT4 (Tr.trans hT10 (Tr.trans hT15 (Tr.trans hT23 hT28))))
   refine RG.callE (fst := []) (cap := [.pointer (some ⟨b5, 0, none⟩), .pointer (some ⟨b16, 0, none⟩), .pointer (some ⟨b11, 0, none⟩)]) .plain body86 rfl evs_nil (fun w9 hw9 => balance_Check_1_c n _ w9 (hS27.hL0 hL hw9) a0 (Rep.keep0 (Rep.dropS hS27 hm33) hw9) (fun j9 v9 h9 => hw9.cell0 ((hS27.memA (.tl (.tl (.tl (.tl .hd))))) j9 v9 h9)) a2 (fun j9 v9 h9 => hw9.cell0 ((hS27.memA (.tl (.tl .hd))) j9 v9 h9)) a1 (Rep.keep0 (Rep.dropS hS27 hm34) hw9) (fun j9 v9 h9 => hw9.cell0 ((hS27.memA (.tl (.tl (.tl .hd)))) j9 v9 h9)) hy30) (fun w35 hag36 => ?_)
   obtain ⟨hS37, hT38⟩ := hS27.agr hag36
   refine PN.callD (vs := []) (cap := [.pointer (some ⟨b24, 0, none⟩), .pointer (some ⟨b29, 0, none⟩)]) body119 Tryz.func119 rfl rfl rfl (fun c39 hc40 hk41 => ?_)
   refine MX.sr ?_
   refine RG.recover1 .plain hc40 rfl ?_
   refine RG.sg rfl rfl ?_
   refine RG.nil ?_
   refine MX.sr ?_
   refine RG.mv rfl rfl ?_
   refine RG.vv (FV.neqI Tryz.underlying20 rfl rfl) rfl ?_
   refine RG.nil ?_
   refine MX.cond_t rfl ?_
   refine MX.sr ?_
   refine RG.mv rfl rfl ?_
   refine RG.vv (FV.assertT (by kernel_rfl) rfl) rfl ?_
   refine RG.mv rfl rfl ?_
   refine RG.vv (FV.extract rfl rfl) rfl ?_
   refine RG.vv (FV.extract rfl rfl) rfl ?_
   refine RG.new .plain rfl (Does.alloc (zs := [.int .i64 0]) hS37 (zB (by kernel_rfl))) (fun w43 b46 hS44 hT45 => ?_)
   refine RG.now .plain (Acts.storeAll (news := [.int .i64 e31.fErrno]) hS44 .hd rfl rfl rfl rfl rfl rfl (ones_cons rfl ones_nil)) (fun w47 hS48 hT49 => ?_)
   refine RG.sg rfl rfl ?_
   refine RG.nil ?_
   refine MX.seq ?_
   refine MX.sr ?_
   refine RG.mv rfl rfl ?_
   refine RG.vv (FV.not rfl) rfl ?_
   refine RG.nil ?_
   refine MX.cond_f rfl ?_
   refine MX.skip ?_
   refine MX.sr ?_
   refine RG.sg rfl rfl ?_
   refine RG.nil ?_
   refine MX.drawT 3 tb119_6 (by kernel_rfl) (by kernel_rfl) (by kernel_rfl) (fun kt50 kp51 => ?_)
   refine RD.vw 0 1 kt50 rfl kp51 (fun _ => FV.move rfl) rfl ?_
   refine RD.vw 1 3 kt50 rfl kp51 (fun _ => FV.fieldAddr (off := 0) (by kernel_rfl) rfl) rfl ?_
   refine RD.meet (α := Unit) (fun () => [(1, .pointer (some ⟨b29, 0, none⟩)), (19, .int .i64 e31.fErrno)]) (fun () wx1254 => St w wx1254 [.cells b29 [.int .i64 0] 51, .cells b24 [.bool false] 4, .cells b16 [.int .i64 a2] 3, .cells b11 [v1_0] 46, .cells b5 [.int .i64 a0.fGroups, .int .i64 a0.fParties, .int .i64 a0.fLevels, v0_3] 44] ∧ Tr w47 [.cells b46 [.int .i64 e31.fErrno] 140, .cells b29 [.int .i64 0] 51, .cells b24 [.bool false] 4, .cells b16 [.int .i64 a2] 3, .cells b11 [v1_0] 46, .cells b5 [.int .i64 a0.fGroups, .int .i64 a0.fParties, .int .i64 a0.fLevels, v0_3] 44] wx1254 [.cells b29 [.int .i64 0] 51, .cells b24 [.bool false] 4, .cells b16 [.int .i64 a2] 3, .cells b11 [v1_0] 46, .cells b5 [.int .i64 a0.fGroups, .int .i64 a0.fParties, .int .i64 a0.fLevels, v0_3] 44]) 1 15 ?_ ?_
   ·skip
    rintro ⟨⟩ wx1254 ⟨hS1255, hT1256⟩
    try dsimp only
    refine RD.nw 4 31 kt50 rfl rfl .plain (Acts.storeAll (news := [.int .i64 e31.fErrno]) hS1255 .hd rfl rfl rfl rfl rfl rfl (ones_cons rfl ones_nil)) (fun w1258 hS1259 hT1260 => ?_)
    refine RD.done (doneD_ok kt50 (by kernel_rfl)) ?_
    refine MX.fin rfl ?_
    refine RT.leaveD1 hk41 Tryz.func119 rfl .nil ?_
    refine RT.leave (u := .tuple #[.bool false, .int .i64 e31.fErrno]) hb17 Tryz.func56 rfl (.cons (.one (by kernel_rfl) rfl ((hS1259.memA (.tl .hd)) 0 _ rfl)) (.cons (.one (by kernel_rfl) rfl ((hS1259.memA .hd) 0 _ rfl)) .nil)) rfl ?_
    refine RG.mv rfl rfl ?_
    refine RG.vv (FV.extract rfl rfl) rfl ?_
    refine RG.vv (FV.extract rfl rfl) rfl ?_
    refine RG.sg rfl rfl ?_
    refine RG.sg rfl rfl ?_
    refine RG.nil ?_
    refine MX.sr ?_
    refine RG.mv rfl rfl ?_
    refine RG.sg rfl rfl ?_
    refine RG.nil ?_
    refine MX.ret rfl ?_
    refine RT.leave hb0 Tryz.func29 rfl (.cons (.tmp rfl) .nil) rfl ?_
    obtain rfl := Option.some.inj h
    exact ⟨hS1259.ag, fun w9 hw9 => rfl⟩
   ·skip
    intro hJ1261
    refine RD.each [2, 3] (readyD_ok kt50 (by kernel_rfl)) ⟨?_, ?_, trivial⟩
    ·skip
     refine RO.val (m' := 7) (stepC_ok kt50 (by kernel_rfl)) rfl .plain rfl (FV.load1 (by kernel_rfl) rfl ((hS48.memA .hd) 0 _ rfl)) ?_
     refine RD.nw 3 15 kt50 rfl rfl .plain (Acts.storeAll (news := [.bool false]) hS48 (.tl (.tl .hd)) rfl rfl rfl rfl rfl rfl (ones_cons rfl ones_nil)) (fun w652 hS653 hT654 => ?_)
     obtain ⟨hS1262, hT1263⟩ := St.arrB hS653 (.one (.tl .hd) (.one (.tl .hd) (.one (.tl .hd) (.one (.tl .hd) (.one (.tl .hd) .done)))))
     exact hJ1261 () _ _ ⟨rfl, rfl, trivial⟩ ⟨hS1262, (Tr.trans hT654 hT1263)⟩
    ·skip
     refine RO.now (m' := 11) (stepC_ok kt50 (by kernel_rfl)) rfl rfl .plain (Acts.storeAll (news := [.bool false]) hS48 (.tl (.tl .hd)) rfl rfl rfl rfl rfl rfl (ones_cons rfl ones_nil)) (fun w652 hS653 hT654 => ?_)
     refine RD.vx 2 15 16 kt50 rfl kp51 (FV.load1 (by kernel_rfl) rfl ((hS653.memA .hd) 0 _ rfl)) rfl ?_
     obtain ⟨hS1264, hT1265⟩ := St.arrB hS653 (.one (.tl .hd) (.one (.tl .hd) (.one (.tl .hd) (.one (.tl .hd) (.one (.tl .hd) .done)))))
     exact hJ1261 () _ _ ⟨rfl, rfl, trivial⟩ ⟨hS1264, (Tr.trans hT654 hT1265)⟩
  have h := exc_o h
  try dsimp only at h
  have hm1267 := Rep.mv h0_3 (Tr.trans hT4 (Tr.trans hT10 (Tr.trans hT15 (Tr.trans hT23 hT28))))
  have hm1268 := Rep.mv h1_0 (Tr.trans hT4 (Tr.trans hT10 (Tr.trans hT15 (Tr.trans hT23 hT28))))
  refine RG.callq' (v := .bool y32) (fst := []) (cap := [.pointer (some ⟨b5, 0, none⟩), .pointer (some ⟨b16, 0, none⟩), .pointer (some ⟨b11, 0, none⟩)]) .plain body86 rfl evs_nil (fun w9 hw9 => Calls.okp (balance_Check_1_c n _ w9 (hS27.hL0 hL hw9) a0 (Rep.keep0 (Rep.dropS hS27 hm1267) hw9) (fun j9 v9 h9 => hw9.cell0 ((hS27.memA (.tl (.tl (.tl (.tl .hd))))) j9 v9 h9)) a2 (fun j9 v9 h9 => hw9.cell0 ((hS27.memA (.tl (.tl .hd))) j9 v9 h9)) a1 (Rep.keep0 (Rep.dropS hS27 hm1268) hw9) (fun j9 v9 h9 => hw9.cell0 ((hS27.memA (.tl (.tl (.tl .hd)))) j9 v9 h9)) hy30)) rfl ?_
  refine RG.now .plain (Acts.storeAll (news := [.bool y32]) hS27 (.tl .hd) rfl rfl rfl rfl rfl rfl (ones_cons rfl ones_nil)) (fun w1269 hS1270 hT1271 => ?_)
  refine RG.now .plain (Acts.storeAll (news := [.int .i64 0]) hS1270 .hd rfl rfl rfl rfl rfl rfl (ones_cons rfl ones_nil)) (fun w1272 hS1273 hT1274 => ?_)
  refine RG.nil ?_
  refine MX.ret rfl ?_
  refine RT.callD (vs := []) (cap := [.pointer (some ⟨b24, 0, none⟩), .pointer (some ⟨b29, 0, none⟩)]) body119 Tryz.func119 rfl rfl rfl (fun c1275 hc1276 hk1277 => ?_)
  refine MX.sr ?_
  refine RG.recover0 .plain hc1276 rfl ?_
  refine RG.sg rfl rfl ?_
  refine RG.nil ?_
  refine MX.sr ?_
  refine RG.mv rfl rfl ?_
  refine RG.vv (FV.neqI0 Tryz.underlying20 rfl rfl) rfl ?_
  refine RG.nil ?_
  refine MX.cond_f rfl ?_
  refine MX.skip ?_
  refine MX.fin rfl ?_
  refine RT.leaveD0 hc1276 hk1277 Tryz.func119 rfl .nil ?_
  refine RT.leave (u := .tuple #[.bool y32, .int .i64 0]) hb17 Tryz.func56 rfl (.cons (.one (by kernel_rfl) rfl ((hS1273.memA (.tl .hd)) 0 _ rfl)) (.cons (.one (by kernel_rfl) rfl ((hS1273.memA .hd) 0 _ rfl)) .nil)) rfl ?_
  refine RG.mv rfl rfl ?_
  refine RG.vv (FV.extract rfl rfl) rfl ?_
  refine RG.vv (FV.extract rfl rfl) rfl ?_
  refine RG.sg rfl rfl ?_
  refine RG.sg rfl rfl ?_
  refine RG.nil ?_
  refine MX.sr ?_
  refine RG.mv rfl rfl ?_
  refine RG.sg rfl rfl ?_
  refine RG.nil ?_
  refine MX.ret rfl ?_
  refine RT.leave hb0 Tryz.func29 rfl (.cons (.tmp rfl) .nil) rfl ?_
  obtain rfl := Option.some.inj h
  exact ⟨hS1273.ag, fun w9 hw9 => rfl⟩
end Go.Proofs.YtmhgoecnjleagaaGreatDoor
