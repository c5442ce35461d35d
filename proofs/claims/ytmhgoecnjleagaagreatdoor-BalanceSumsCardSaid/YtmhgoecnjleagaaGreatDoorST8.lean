/- Functions of the program, and what they give: part 8. -/
import Derived.Test.YtmhgoecnjleagaaGreatDoorST7
namespace Go.Proofs.YtmhgoecnjleagaaGreatDoor
open Go Go.RowKit
set_option maxRecDepth 4000
set_option maxHeartbeats 4000000

def tb4_13 : List (Nat × Nat × Nat) := [(0, 2305843009213693952, 512), (1, 4611686018427387904, 2305843009213693952), (2, 9223372036854775808, 4611686018427387904), (4, 18446744073709551616, 9223372036854777856), (12, 36893488147419103232, 27670116110564327424), (20, 73786976294838206464, 46116860184273879040), (36, 147573952589676412928, 73786976294838206464), (64, 295147905179352825856, 147573952589676413184), (192, 590295810358705651712, 442721857769029238784), (64, 1180591620717411303424, 147573952589676412992), (832, 2361183241434822606848, 1918461383665793368064), (1088, 4722366482869645213696, 2508757194024499019776), (2112, 9444732965739290427392, 4722366482869645213696), (4096, 18889465931478580854784, 9444732965739290431488), (4096, 37778931862957161709568, 9444732965739290427456), (28672, 75557863725914323419136, 66113130760175032991744), (4096, 151115727451828646838272, 9444732965739290428416), (4096, 302231454903657293676544, 9444732965739290429440), (233472, 604462909807314587353088, 538349779047139554361344), (266240, 1208925819614629174706176, 613907642773053877780480), (528384, 2417851639229258349412352, 1218370552580368465133568)]
def tb4_25 : List (Nat × Nat × Nat) := [(0, 332306998946228968225951765070086144, 1048576), (1, 664613997892457936451903530140172288, 332306998946228968225951765070086144), (0, 1329227995784915872903807060280344576, 1024), (6, 2658455991569831745807614120560689152, 1993841993677373809355710590420516864), (8, 166153499473114484112975882535043072, 2658455991569831745807614120560689152), (16, 5316911983139663491615228241121378304, 166153499473114484112975882535043072), (16, 10633823966279326983230456482242756608, 166153499473114484112975882535043072), (0, 2097152, 0), (191, 0, 5316911983139663491615228241123475456), (511, 4194304, 10633823966279326983230456482242756608)]
def tb4_26 : List (Nat × Nat × Nat) := [(0, 42535295865117307932921825928971026432, 32768), (0, 85070591730234615865843651857942052864, 524288), (3, 170141183460469231731687303715884105728, 127605887595351923798765477786913079296), (4, 340282366920938463463374607431768211456, 170141183460469231731687303715884105728), (0, 680564733841876926926749214863536422912, 1024), (24, 1361129467683753853853498429727072845824, 1020847100762815390390123822295304634368), (32, 21267647932558653966460912964485513216, 1361129467683753853853498429727072845824), (64, 2722258935367507707706996859454145691648, 21267647932558653966460912964485513216), (64, 5444517870735015415413993718908291383296, 21267647932558653966460912964485513216), (0, 8388608, 0), (767, 0, 2722258935367507707706996859454154080256), (2047, 16777216, 5444517870735015415413993718908291383296)]
def tb4_29 : List (Nat × Nat × Nat) := [(0, 44601490397061246283071436545296723011960832, 262144), (0, 89202980794122492566142873090593446023921664, 32768), (0, 178405961588244985132285746181186892047843328, 524288), (6, 356811923176489970264571492362373784095686656, 267608942382367477698428619271780338071764992), (8, 713623846352979940529142984724747568191373312, 356811923176489970264571492362373784095686656), (17, 1427247692705959881058285969449495136382746624, 758225336750041186812214421270044291203334144), (32, 22300745198530623141535718272648361505980416, 1427247692705959881058285969449495136382746624), (64, 2854495385411919762116571938898990272765493248, 22300745198530623141535718272648361505980416), (64, 5708990770823839524233143877797980545530986496, 22300745198530623141535718272648361505980416), (255, 0, 2854495385411919762116571938898990272765755392), (1023, 4194304, 5708990770823839524233143877797980545530986496)]
def tb4_33 : List (Nat × Nat × Nat) := [(0, 91343852333181432387730302044767688728495783936, 131072), (0, 182687704666362864775460604089535377456991567872, 4096), (3, 365375409332725729550921208179070754913983135744, 274031556999544297163190906134303066185487351808), (4, 730750818665451459101842416358141509827966271488, 365375409332725729550921208179070754913983135744), (8, 1461501637330902918203684832716283019655932542976, 730750818665451459101842416358141509827966533632), (8, 2923003274661805836407369665432566039311865085952, 730750818665451459101842416358141509827966271488), (56, 5846006549323611672814739330865132078623730171904, 5115255730658160213712896914506990568795763900416), (72, 11692013098647223345629478661730264157247460343808, 6576757367989063131916581747223273588451696443392), (255, 16, 11692013098647223345629478661730264157247460343808)]
theorem body9 : bodyB Tryz.prog 9 = true := by kernel_rfl
theorem body17 : bodyB Tryz.prog 17 = true := by kernel_rfl
theorem body18 : bodyB Tryz.prog 18 = true := by kernel_rfl
def wardmotelaw22_BalanceSums_l1 (n : Nat) (y0 : (List Int) × Int) (y1 : TShare × Int) (y2 : (List TShare) × Int) (J0 : Int × Nat × UInt64 × UInt64 × UInt64 × UInt64 × UInt64 × UInt64 × UInt64 × UInt64 × UInt64 × UInt64 × UInt64 × UInt64 × UInt64 × UInt64 × UInt64 × UInt64 → Option (Bool ⊕ (Int × UInt64 × UInt64 × UInt64 × UInt64 × UInt64 × UInt64 × UInt64 × UInt64 × UInt64 × UInt64 × UInt64 × UInt64 × UInt64 × UInt64 × UInt64 × UInt64))) : Int × Nat × UInt64 × UInt64 × UInt64 × UInt64 × UInt64 × UInt64 × UInt64 × UInt64 × UInt64 × UInt64 × UInt64 × UInt64 × UInt64 × UInt64 × UInt64 × UInt64 → Option (Bool ⊕ (Int × UInt64 × UInt64 × UInt64 × UInt64 × UInt64 × UInt64 × UInt64 × UInt64 × UInt64 × UInt64 × UInt64 × UInt64 × UInt64 × UInt64 × UInt64 × UInt64))
  | (z0, i0, u0, u1, u2, u3, u4, u5, u6, u7, u8, u9, u10, u11, u12, u13, u14, u15) => (if i0 < y0.1.length then (y0.1[i0]?).bind fun x0 => (chk (z0 + x0)).bind fun s0 => (wardmotelaw22_of_p n x0 (1 : Int)).bind fun y3 => (share_Sub_p n y3 y1.1).bind fun y4 => (y2.1[i0]?).bind fun x1 => (share_Mul_p n x1 y1.1).bind fun y5 => (if y4.2 = 0 then (if y5.2 = 0 then (if y4.1 = y5.1 then (share_Add_p n (⟨(u0, u1, u2, u3, u4, u5, u6, u7), (u8, u9, u10, u11, u12, u13, u14, u15)⟩ : TShare) x1).bind fun y6 => (if y6.2 = 0 then J0 (s0, i0 + 1, y6.1.fN.1, y6.1.fN.2.1, y6.1.fN.2.2.1, y6.1.fN.2.2.2.1, y6.1.fN.2.2.2.2.1, y6.1.fN.2.2.2.2.2.1, y6.1.fN.2.2.2.2.2.2.1, y6.1.fN.2.2.2.2.2.2.2, y6.1.fD.1, y6.1.fD.2.1, y6.1.fD.2.2.1, y6.1.fD.2.2.2.1, y6.1.fD.2.2.2.2.1, y6.1.fD.2.2.2.2.2.1, y6.1.fD.2.2.2.2.2.2.1, y6.1.fD.2.2.2.2.2.2.2) else some (.inl false)) else some (.inl false)) else some (.inl false)) else some (.inl false)) else some (.inr (z0, u0, u1, u2, u3, u4, u5, u6, u7, u8, u9, u10, u11, u12, u13, u14, u15)))
def wardmotelaw22_BalanceSums_l2 (_n : Nat) (y0 : TRoll) (J0 : Int × Nat → Option Int) : Int × Nat → Option Int
  | (z0, i0) => (if i0 < y0.fUnits.length then (y0.fUnits[i0]?).bind fun x0 => (chk (z0 + x0.fPeople)).bind fun s0 => J0 (s0, i0 + 1) else some z0)
def wardmotelaw22_BalanceSums_p (n : Nat) (a0 : TDraft) (a1 : TDraft26) : Option Bool :=
  (wardmotelaw22_works_p n).bind fun y0 => (if y0 = true then (wardmoteref21_Draft_Loose_p n a0).bind fun y1 => (wardmoteref22_Draft_Roll_p n a1 ((y1.1.length : Nat) : Int)).bind fun y2 => (balance_Totals_p n y2 y1.1 y1.2).bind fun y3 => (balance_Ideal_p n y2 y1.2).bind fun y4 => Option.bind (loopF (wardmotelaw22_BalanceSums_l2 n y2) n (0, 0)) (fun z0 => (if y3.2 = 0 then (if y4.2 = 0 then (if ((y3.1.length : Nat) : Int) = y1.2 then (wardmotelaw22_part_1_p n y4.1 y4.2 z0 y1.2).bind fun y5 => (if y5 = true then (balance_Off_p n y2 y1.1 y1.2).bind fun y6 => (if z0 = 0 then (if y6.1.length = 0 then some (decide (y6.2 = 7)) else some false) else (if y6.2 = 0 then (if ((y6.1.length : Nat) : Int) = y1.2 then (wardmotelaw22_of_p n (0 : Int) (1 : Int)).bind fun y7 => thn (loopF (wardmotelaw22_BalanceSums_l1 n y3 y4 y6) n (0, 0, y7.fN.1, y7.fN.2.1, y7.fN.2.2.1, y7.fN.2.2.2.1, y7.fN.2.2.2.2.1, y7.fN.2.2.2.2.2.1, y7.fN.2.2.2.2.2.2.1, y7.fN.2.2.2.2.2.2.2, y7.fD.1, y7.fD.2.1, y7.fD.2.2.1, y7.fD.2.2.2.1, y7.fD.2.2.2.2.1, y7.fD.2.2.2.2.2.1, y7.fD.2.2.2.2.2.2.1, y7.fD.2.2.2.2.2.2.2)) (fun (z1, u0, u1, u2, u3, u4, u5, u6, u7, u8, u9, u10, u11, u12, u13, u14, u15) => (if z1 = z0 then (wardmotelaw22_of_p n (0 : Int) (1 : Int)).bind fun y8 => some (decide ((⟨(u0, u1, u2, u3, u4, u5, u6, u7), (u8, u9, u10, u11, u12, u13, u14, u15)⟩ : TShare) = y8)) else some false)) else some false) else some false)) else some false) else some false) else some false) else some false)) else some false)
theorem wardmotelaw22_BalanceSums_c (n : Nat) (L : List Nat) (w : World) (hL : ∀ b ∈ L, b < w.heap.size) (a0 : TDraft) {v0_1 : Value} (h0_1 : Rep.R w L [v0_1] a0.fParents) {v0_2 : Value} (h0_2 : Rep.R w L [v0_2] a0.fMore) {v0_3 : Value} (h0_3 : Rep.R w L [v0_3] a0.fLabels) (a1 : TDraft26) {v1_4 : Value} (h1_4 : Rep.R w L [v1_4] a1.fNums)  {r : Bool} (h : wardmotelaw22_BalanceSums_p n a0 a1 = some r) :
    Calls Tryz.prog 4 #[.agg #[.int .u8 (a0.fN.toNat : Int), v0_1, v0_2, v0_3, .int .u8 (a0.fK.toNat : Int)], .agg #[.int .u8 (a1.fGroups.toNat : Int), .int .u8 (a1.fParties.toNat : Int), .int .u8 (a1.fLevels.toNat : Int), .int .u8 (a1.fWater.toNat : Int), v1_4]] w (Gives w fun _ u => u = .bool r) := by
  unfold wardmotelaw22_BalanceSums_p at h
  have hS0 := St.start w
  refine MX.start Tryz.func4 rfl rfl rfl (fun _ cs0 hb0 => ?_)
  refine MX.sr <| RG.new .plain rfl (Does.box (vs := [.int .u8 (a0.fN.toNat : Int), v0_1, v0_2, v0_3, .int .u8 (a0.fK.toNat : Int)]) hS0 rfl rfl) (fun w2 b5 hS3 hT4 => ?_)
  refine RG.new .plain rfl (Does.box (vs := [.int .u8 (a1.fGroups.toNat : Int), .int .u8 (a1.fParties.toNat : Int), .int .u8 (a1.fLevels.toNat : Int), .int .u8 (a1.fWater.toNat : Int), v1_4]) hS3 rfl rfl) (fun w7 b0 hS8 hT9 => ?_)
  refine RG.sg rfl rfl <| RG.nil <| MX.seq <| MX.sr ?_
  obtain ⟨y0, hy0, h⟩ := bind_in h
  refine RG.cq (.bool y0) body9 rfl evs_nil (fun w9 hw9 => wardmotelaw22_works_c n _ w9 (hS8.hL0 hL hw9)  hy0) rfl <| RG.vv (FV.not rfl) rfl <| RG.nil <| MX.ifnb rfl h (fun c0 h => ?_) (fun c0 h => ?_)
  ·skip
   refine MX.skip <| MX.sr <| RG.vv (FV.loadN (by kernel_rfl) rfl (hS8.memA (.tl .hd))) rfl ?_
   obtain ⟨y1, hy1, h⟩ := bind_in h
   have hm0 := Rep.mv h0_1 (Tr.trans hT4 hT9)
   have hm1 := Rep.mv h0_2 (Tr.trans hT4 hT9)
   have hm2 := Rep.mv h0_3 (Tr.trans hT4 hT9)
   refine RG.call' (fst := []) (cap := []) .plain body17 rfl (evs_cons rfl evs_nil) (fun w9 hw9 => wardmoteref21_Draft_Loose_c n _ w9 (hS8.hL hL hw9) a0 (Rep.keep0 hm0 hw9) (Rep.keep0 hm1 hw9) (Rep.keep0 hm2 hw9) hy1) rfl (fun w0 vu0 hag0 ⟨v0, hu_, hr0⟩ => ?_)
   subst hu_
   obtain ⟨hS1, hT0⟩ := hS8.agr hag0
   refine RG.mv rfl rfl <| RG.vv (FV.extract rfl rfl) rfl <| RG.vv (FV.extract rfl rfl) rfl <| RG.sg rfl rfl <| RG.sg rfl rfl <| RG.nil ?_
   refine MX.sr <| RG.vv (FV.loadN (by kernel_rfl) rfl (hS1.memA .hd)) rfl <| RG.mv rfl rfl ?_
   have hl24 : y1.1.length ≤ 281474976710656 := Rep.lenle hr0
   refine RG.vv (FV.len (xs := y1.1) Tryz.underlying46 rfl hr0) rfl ?_
   obtain ⟨y2, hy2, h⟩ := bind_in h
   have hm3 := Rep.mv h1_4 (Tr.trans hT4 (Tr.trans hT9 hT0))
   refine RG.call' (fst := []) (cap := []) .plain body18 rfl (evs_cons rfl (evs_cons rfl evs_nil)) (fun w9 hw9 => wardmoteref22_Draft_Roll_c n _ w9 (hS1.hL hL hw9) a1 (Rep.keep0 hm3 hw9) ((y1.1.length : Nat) : Int) hy2) rfl (fun w1 vu1 hag1 ⟨v1, hu_, hr1⟩ => ?_)
   subst hu_
   obtain ⟨hS2, hT1⟩ := hS1.agr hag1
   refine RG.new .plain rfl (Does.alloc (zs := [.int .i64 0, .int .i64 0, .int .i64 0, .slice none 0 0]) hS2 (zB (by kernel_rfl))) (fun w3 b1 hS4 hT2 => ?_)
   have hm4 := Rep.mv hr1 hT2
   refine RG.now .plain (Acts.storeAll (news := [.int .i64 y2.fGroups, .int .i64 y2.fParties, .int .i64 y2.fLevels, v1]) hS4 .hd rfl rfl rfl rfl rfl rfl (ones_cons rfl (ones_cons rfl (ones_cons rfl (ones_cons (Rep.o1 hm4) ones_nil))))) (fun w4 hS5 hT3 => ?_)
   refine RG.nil <| MX.sr <| RG.vv (FV.loadN (by kernel_rfl) rfl (hS5.memA .hd)) rfl <| RG.mv rfl rfl <| RG.mv rfl rfl ?_
   obtain ⟨y3, hy3, h⟩ := bind_in h
   have hm5 := Rep.mv hr1 (Tr.trans hT2 hT3)
   have hm6 := Rep.mv hr0 (Tr.trans hT1 (Tr.trans hT2 hT3))
   refine RG.call' (fst := []) (cap := []) .plain body19 rfl (evs_cons rfl (evs_cons rfl (evs_cons rfl evs_nil))) (fun w9 hw9 => balance_Totals_c n _ w9 (hS5.hL hL hw9) y2 (Rep.keep0 hm5 hw9) y1.1 (Rep.keep0 hm6 hw9) y1.2 hy3) rfl (fun w5 vu2 hag2 ⟨v2, hu_, hr2⟩ => ?_)
   subst hu_
   obtain ⟨hS6, hT5⟩ := hS5.agr hag2
   refine RG.mv rfl rfl <| RG.vv (FV.extract rfl rfl) rfl <| RG.vv (FV.extract rfl rfl) rfl <| RG.sg rfl rfl <| RG.sg rfl rfl <| RG.nil ?_
   refine MX.sr <| RG.vv (FV.loadN (by kernel_rfl) rfl (hS6.memA .hd)) rfl <| RG.mv rfl rfl ?_
   obtain ⟨y4, hy4, h⟩ := bind_in h
   have hm7 := Rep.mv hr1 (Tr.trans hT2 (Tr.trans hT3 hT5))
   refine RG.cq (.tuple #[.agg ((cs_TShare y4.1)).toArray, .int .i64 y4.2]) body20 rfl (evs_cons rfl (evs_cons rfl evs_nil)) (fun w9 hw9 => balance_Ideal_c n _ w9 (hS6.hL0 hL hw9) y2 (Rep.keep0 (Rep.dropS hS6 hm7) hw9) y1.2 hy4) rfl <| RG.mv rfl rfl <| RG.vv (FV.extract rfl rfl) rfl <| RG.vv (FV.extract rfl rfl) rfl <| RG.new .plain rfl (Does.alloc (zs := [.int .u64 0, .int .u64 0, .int .u64 0, .int .u64 0, .int .u64 0, .int .u64 0, .int .u64 0, .int .u64 0, .int .u64 0, .int .u64 0, .int .u64 0, .int .u64 0, .int .u64 0, .int .u64 0, .int .u64 0, .int .u64 0]) hS6 (zB (by kernel_rfl))) (fun w6 b2 hS7 hT6 => ?_)
   refine RG.now .plain (Acts.storeAll (news := (cs_TShare y4.1)) hS7 .hd rfl rfl rfl rfl rfl rfl (onesB rfl)) (fun w60 hS9 hT7 => ?_)
   refine RG.sg rfl rfl <| RG.nil <| MX.sr <| RG.sg rfl rfl <| RG.nil <| MX.seq ?_
   refine MX.sr <| RG.vv (FV.fieldAddr (off := 3) (by kernel_rfl) rfl) rfl <| RG.vv (FV.load1 (by kernel_rfl) rfl ((hS9.memA (.tl .hd)) 3 _ rfl)) rfl ?_
   have hm8 := Rep.mv hr1 (Tr.trans hT2 (Tr.trans hT3 (Tr.trans hT5 (Tr.trans hT6 hT7))))
   have hl63 : y2.fUnits.length ≤ 281474976710656 := Rep.lenle hm8
   refine RG.vv (FV.len (xs := y2.fUnits) Tryz.underlying42 rfl hm8) rfl <| RG.mv rfl rfl <| RG.nil <| MX.block ?_
   obtain ⟨hS10, hT8⟩ := St.arrB hS9 (.one .hd (.one .hd .done))
   obtain ⟨o0, ho139, hh141⟩ := bind_in2 h
   refine MX.loop (α := Int × Nat) (fun ⟨z0, i0⟩ => [(5, v0), (6, .int .i64 y1.2), (7, .pointer (some ⟨b1, 0, none⟩)), (8, v2), (9, .int .i64 y3.2), (10, .pointer (some ⟨b2, 0, none⟩)), (11, .int .i64 y4.2), (12, .int .i64 z0), (50, v1), (51, .int .i64 ((y2.fUnits.length : Nat) : Int)), (52, .int .i64 ((i0 : Nat) : Int))]) (fun ⟨z0, i0⟩ wx0 => St w wx0 [.cells b2 (cs_TShare y4.1) 37, .cells b1 [.int .i64 y2.fGroups, .int .i64 y2.fParties, .int .i64 y2.fLevels, v1] 44] ∧ Tr w60 [.cells b2 (cs_TShare y4.1) 37, .cells b1 [.int .i64 y2.fGroups, .int .i64 y2.fParties, .int .i64 y2.fLevels, v1] 44] wx0 [.cells b2 (cs_TShare y4.1) 37, .cells b1 [.int .i64 y2.fGroups, .int .i64 y2.fParties, .int .i64 y2.fLevels, v1] 44]) (fun ⟨z0, i0⟩ => (z0, i0)) (0, 0) ho139 ⟨rfl, rfl, rfl, rfl, rfl, rfl, rfl, rfl, rfl, rfl, rfl, trivial⟩ ⟨hS10, Tr.refl _ _⟩ ?_
   rintro J0 ⟨z0, i0⟩ wx0 hJ143 ⟨hS11, hT10⟩ h
   unfold wardmotelaw22_BalanceSums_l2 at h
   try dsimp only at h
   refine MX.sr <| RG.vv (FV.lssN (i := i0) (j := y2.fUnits.length) rfl rfl) rfl <| RG.nil <| MX.seq <| MX.ifd rfl h (fun c1 h => ?_) (fun c1 h => ?_)
   ·skip
    refine MX.skip <| MX.seq <| MX.block <| MX.sr ?_
    obtain ⟨x0, hx0, h⟩ := bind_in h
    have hm9 := Rep.mv hr1 (Tr.trans hT2 (Tr.trans hT3 (Tr.trans hT5 (Tr.trans hT6 (Tr.trans hT7 (Tr.trans hT8 hT10))))))
    obtain ⟨A146, c2, he0, hk0, cs1, hr3, hm10⟩ := Rep.nth hm9 hx0
    obtain ⟨v3, v4, v5, rfl, hr4, hr5, hr6⟩ := op_TUnit hr3
    refine RG.vv (FV.idxAddr (m := 6) (i := i0) (by kernel_rfl) rfl he0 rfl rfl hk0) rfl <| RG.vv (FV.loadN (by kernel_rfl) rfl hm10) rfl <| RG.new .plain rfl (Does.alloc (zs := [.string ⟨#[]⟩, .int .i64 0, .slice none 0 0, .slice none 0 0, .slice none 0 0, .bool false]) hS11 (zB (by kernel_rfl))) (fun w10 b3 hS12 hT11 => ?_)
    have hm11 := Rep.mv hr4 hT11
    have hm12 := Rep.mv hr5 hT11
    have hm13 := Rep.mv hr6 hT11
    refine RG.now .plain (Acts.storeAll (news := [.string x0.fName, .int .i64 x0.fPeople, v3, v4, v5, .bool x0.fWater]) hS12 .hd rfl rfl rfl rfl rfl rfl (ones_cons rfl (ones_cons rfl (ones_cons (Rep.o1 hm11) (ones_cons (Rep.o1 hm12) (ones_cons (Rep.o1 hm13) (ones_cons rfl ones_nil))))))) (fun w11 hS13 hT12 => ?_)
    refine RG.nil <| MX.region <| RG.mv rfl rfl <| RG.vv (FV.fieldAddr (off := 1) (by kernel_rfl) rfl) rfl <| RG.vv (FV.load1 (by kernel_rfl) rfl ((hS13.memA .hd) 1 _ rfl)) rfl ?_
    obtain ⟨s0, hs0, h⟩ := bind_in h
    refine RG.vv (FV.addc (i := z0) (j := x0.fPeople) rfl rfl hs0) rfl <| RG.sg rfl rfl <| RG.nil <| MX.inBlock <| MX.region <| RG.vv (FV.addN (i := i0) (j := 1) rfl rfl (by omega)) rfl ?_
    refine RG.mv rfl rfl <| RG.nil ?_
    obtain ⟨hS14, hT13⟩ := St.arrB hS13 (.one (.tl .hd) (.one (.tl .hd) .done))
    exact hJ143 (s0, i0 + 1) _ _ ⟨rfl, rfl, rfl, rfl, rfl, rfl, rfl, rfl, rfl, rfl, rfl, trivial⟩ ⟨hS14, (Tr.trans hT10 (Tr.trans hT11 (Tr.trans hT12 hT13)))⟩ h
   refine MX.exit rfl ?_
   have h := hh141 _ h
   try dsimp only at h
   refine MX.seq <| MX.seq <| MX.drawT 21 tb4_13 (by kernel_rfl) (by kernel_rfl) (by kernel_rfl) (fun kt0 kp0 => ?_)
   refine RD.vw 0 1 kt0 rfl kp0 (fun _ => FV.move rfl) rfl <| RD.vw 1 3 kt0 rfl kp0 (fun _ => FV.neq (i := y3.2) (j := 0) rfl rfl) rfl <| RD.vw 2 7 kt0 rfl kp0 (fun _ => FV.move rfl) rfl <| RD.ifn (s := 63) rfl h (fun c3 h => ?_) (fun c3 h => ?_)
   ·skip
    refine RD.vP 3 15 kt0 rfl kp0 (.yes rfl rfl) (fun _ => FV.move rfl) rfl <| RD.vP 4 31 kt0 rfl kp0 (.yes rfl rfl) (fun _ => FV.neq (i := y4.2) (j := 0) rfl rfl) rfl <| RD.vw 5 63 kt0 rfl kp0 (fun _ => FV.pick_f rfl rfl) rfl <| RD.vw 6 127 kt0 rfl kp0 (fun _ => FV.move rfl) rfl <| RD.ifn (s := 67) rfl h (fun c4 h => ?_) (fun c4 h => ?_)
    ·skip
     refine RD.vP 7 255 kt0 rfl kp0 (.yes rfl rfl) (fun _ => FV.move rfl) rfl ?_
     have hm17 := Rep.mv hr2 (Tr.trans hT6 (Tr.trans hT7 (Tr.trans hT8 hT10)))
     have hl178 : y3.1.length ≤ 281474976710656 := Rep.lenle hm17
     refine RD.val (i := 8) (m' := 511) (W := 2096128) (takeC_ok kt0 (by kernel_rfl)) rfl kp0 (.yes rfl rfl) (FV.len (xs := y3.1) Tryz.underlying45 rfl hm17) rfl <| RD.vP 9 1023 kt0 rfl kp0 (.yes rfl rfl) (fun _ => FV.move rfl) rfl <| RD.vP 10 2047 kt0 rfl kp0 (.yes rfl rfl) (fun _ => FV.neq (i := ((y3.1.length : Nat) : Int)) (j := y1.2) rfl rfl) rfl <| RD.vw 11 4095 kt0 rfl kp0 (fun _ => FV.pick_f rfl rfl) rfl <| RD.vw 12 8191 kt0 rfl kp0 (fun _ => FV.move rfl) rfl <| RD.ifn (s := 73) rfl h (fun c5 h => ?_) (fun c5 h => ?_)
     ·skip
      refine RD.vP 13 16383 kt0 rfl kp0 (.yes rfl rfl) (fun _ => FV.move rfl) rfl <| RD.vP 14 32767 kt0 rfl kp0 (.yes rfl rfl) (fun _ => FV.move rfl) rfl <| RD.val (i := 16) (m' := 98303) (W := 1835008) (takeC_ok kt0 (by kernel_rfl)) rfl kp0 (.yes rfl rfl) (FV.loadN (by kernel_rfl) rfl (hS11.memA .hd)) rfl <| RD.vP 17 229375 kt0 rfl kp0 (.yes rfl rfl) (fun _ => FV.move rfl) rfl <| RD.cl 15 262143 kt0 rfl (.yes rfl rfl) body21 rfl (evs_cons rfl (evs_cons rfl evs_nil)) (fun w9 hw9 => Calls.gives (wardmotelaw22_part_c n _ w9 (hS11.hL hL hw9) z0 y1.2) fun (w8 : World) (u8 : Value) ⟨b0_, b1_, hu_, s_⟩ => (⟨b0_, b1_, hu_, s_.from hw9⟩ : ∃ b4 b6 : Nat, u8 = Value.func (.func 72) #[] #[.pointer (some ⟨b4, 0, none⟩), .pointer (some ⟨b6, 0, none⟩)] ∧ St wx0 w8 [.cells b4 [.int .i64 z0] 3, .cells b6 [.int .i64 y1.2] 3])) rfl (fun w12 vu3 hag3 ⟨b4, b6, hu0, s1⟩ => ?_)
      subst hu0
      have hS15 : St w w12 [.cells b4 [.int .i64 z0] 3, .cells b6 [.int .i64 y1.2] 3, .cells b2 (cs_TShare y4.1) 37, .cells b1 [.int .i64 y2.fGroups, .int .i64 y2.fParties, .int .i64 y2.fLevels, v1] 44] := St.merge hS11 s1
      have hT14 : Tr wx0 [.cells b2 (cs_TShare y4.1) 37, .cells b1 [.int .i64 y2.fGroups, .int .i64 y2.fParties, .int .i64 y2.fLevels, v1] 44] w12 [.cells b4 [.int .i64 z0] 3, .cells b6 [.int .i64 y1.2] 3, .cells b2 (cs_TShare y4.1) 37, .cells b1 [.int .i64 y2.fGroups, .int .i64 y2.fParties, .int .i64 y2.fLevels, v1] 44] := Tr.merge hS11 s1
      obtain ⟨y5, hy5, h⟩ := bind_in h
      refine RD.callq (i := 18) (m' := 524287) (W := 1572864) (takeC_ok kt0 (by kernel_rfl)) rfl kp0 (v := .bool y5) (fst := []) (cap := [.pointer (some ⟨b4, 0, none⟩), .pointer (some ⟨b6, 0, none⟩)]) (.yes rfl rfl) body72 rfl (evs_cons rfl (evs_cons rfl evs_nil)) (fun w9 hw9 => wardmotelaw22_part_1_c n _ w9 (hS15.hL0 hL hw9) y4.1 y4.2 z0 (fun j9 v9 h9 => hw9.cell0 ((hS15.memA .hd) j9 v9 h9)) y1.2 (fun j9 v9 h9 => hw9.cell0 ((hS15.memA (.tl .hd)) j9 v9 h9)) hy5) rfl <| RD.vP 19 1048575 kt0 rfl kp0 (.yes rfl rfl) (fun _ => FV.not rfl) rfl <| RD.vw 20 2097151 kt0 rfl kp0 (fun _ => FV.pick_f rfl rfl) rfl <| RD.done (doneD_ok kt0 (by kernel_rfl)) <| MX.ifnb rfl h (fun c6 h => ?_) (fun c6 h => ?_)
      ·skip
       refine MX.skip <| MX.sr <| RG.vv (FV.loadN (by kernel_rfl) rfl (hS15.memA (.tl (.tl (.tl .hd))))) rfl <| RG.mv rfl rfl <| RG.mv rfl rfl ?_
       obtain ⟨y6, hy6, h⟩ := bind_in h
       have hm18 := Rep.mv hr1 (Tr.trans hT2 (Tr.trans hT3 (Tr.trans hT5 (Tr.trans hT6 (Tr.trans hT7 (Tr.trans hT8 (Tr.trans hT10 hT14)))))))
       have hm19 := Rep.mv hr0 (Tr.trans hT1 (Tr.trans hT2 (Tr.trans hT3 (Tr.trans hT5 (Tr.trans hT6 (Tr.trans hT7 (Tr.trans hT8 (Tr.trans hT10 hT14))))))))
       refine RG.call' (fst := []) (cap := []) .plain body22 rfl (evs_cons rfl (evs_cons rfl (evs_cons rfl evs_nil))) (fun w9 hw9 => balance_Off_c n _ w9 (hS15.hL hL hw9) y2 (Rep.keep0 hm18 hw9) y1.1 (Rep.keep0 hm19 hw9) y1.2 hy6) rfl (fun w13 vu4 hag4 ⟨v6, hu_, hr7⟩ => ?_)
       subst hu_
       obtain ⟨hS16, hT15⟩ := hS15.agr hag4
       refine RG.mv rfl rfl <| RG.vv (FV.extract rfl rfl) rfl <| RG.vv (FV.extract rfl rfl) rfl <| RG.sg rfl rfl <| RG.sg rfl rfl <| RG.nil ?_
       refine MX.seq <| MX.sr <| RG.mv rfl rfl <| RG.vv (FV.eql (i := z0) (j := 0) rfl rfl) rfl <| RG.nil <| MX.ifd rfl h (fun c7 h => ?_) (fun c7 h => ?_)
       ·skip
        refine MX.sr <| RG.mv rfl rfl ?_
        have hl205 : y6.1.length ≤ 281474976710656 := Rep.lenle hr7
        refine RG.vv (FV.len (xs := y6.1) Tryz.underlying68 rfl hr7) rfl <| RG.vv (FV.eqlN (i := y6.1.length) (j := 0) rfl rfl) rfl <| RG.mv rfl rfl <| RG.ifd (s := 94) rfl h (fun c8 h => ?_) (fun c8 h => ?_)
        ·skip
         refine RG.val' (.yes rfl rfl) (FV.move rfl) rfl <| RG.val' (.yes rfl rfl) (FV.eql (i := y6.2) (j := 7) rfl rfl) rfl <| RG.vv (FV.pick_t rfl rfl) rfl <| RG.sg rfl rfl <| RG.nil <| MX.ret rfl ?_
         refine RT.leave hb0 Tryz.func4 rfl (.cons (.tmp rfl) .nil) rfl ?_
         obtain rfl := Option.some.inj h
         exact ⟨hS16.ag, fun w9 hw9 => rfl⟩
        refine RG.off (.no rfl rfl) rfl <| RG.off (.no rfl rfl) rfl <| RG.vv (FV.pick_f rfl rfl) rfl <| RG.sg rfl rfl <| RG.nil <| MX.ret rfl ?_
        refine RT.leave hb0 Tryz.func4 rfl (.cons (.tmp rfl) .nil) rfl ?_
        obtain rfl := Option.some.inj h
        exact ⟨hS16.ag, fun w9 hw9 => rfl⟩
       refine MX.skip <| MX.seq <| MX.sr <| RG.mv rfl rfl <| RG.vv (FV.neq (i := y6.2) (j := 0) rfl rfl) rfl <| RG.mv rfl rfl ?_
       refine RG.ifn (s := 100) rfl h (fun c9 h => ?_) (fun c9 h => ?_)
       ·skip
        refine RG.val' (.yes rfl rfl) (FV.move rfl) rfl ?_
        have hl208 : y6.1.length ≤ 281474976710656 := Rep.lenle hr7
        refine RG.val' (.yes rfl rfl) (FV.len (xs := y6.1) Tryz.underlying68 rfl hr7) rfl <| RG.val' (.yes rfl rfl) (FV.move rfl) rfl <| RG.val' (.yes rfl rfl) (FV.neq (i := ((y6.1.length : Nat) : Int)) (j := y1.2) rfl rfl) rfl <| RG.vv (FV.pick_f rfl rfl) rfl <| RG.nil <| MX.ifn rfl h (fun c10 h => ?_) (fun c10 h => ?_)
        ·skip
         refine MX.skip <| MX.sr ?_
         obtain ⟨y7, hy7, h⟩ := bind_in h
         refine RG.cq (.agg ((cs_TShare y7)).toArray) body23 rfl (evs_cons rfl (evs_cons rfl evs_nil)) (fun w9 hw9 => wardmotelaw22_of_c n _ w9 (hS16.hL0 hL hw9) (0 : Int) (1 : Int) hy7) rfl <| RG.new .plain rfl (Does.alloc (zs := [.int .u64 0, .int .u64 0, .int .u64 0, .int .u64 0, .int .u64 0, .int .u64 0, .int .u64 0, .int .u64 0, .int .u64 0, .int .u64 0, .int .u64 0, .int .u64 0, .int .u64 0, .int .u64 0, .int .u64 0, .int .u64 0]) hS16 (zB (by kernel_rfl))) (fun w14 b7 hS17 hT16 => ?_)
         refine RG.sg rfl rfl <| RG.now .plain (Acts.storeAll (news := (cs_TShare y7)) hS17 .hd rfl rfl rfl rfl rfl rfl (onesB rfl)) (fun w15 hS18 hT17 => ?_)
         refine RG.nil <| MX.seq <| MX.sr <| RG.mv rfl rfl ?_
         have hm20 := Rep.mv hr2 (Tr.trans hT6 (Tr.trans hT7 (Tr.trans hT8 (Tr.trans hT10 (Tr.trans hT14 (Tr.trans hT15 (Tr.trans hT16 hT17)))))))
         refine RG.vv (FV.len (xs := y3.1) Tryz.underlying45 rfl hm20) rfl <| RG.mv rfl rfl <| RG.nil <| MX.block ?_
         obtain ⟨hS19, hT18⟩ := St.arrB hS18 (.one .hd (.one (.tl (.tl .hd)) .done))
         obtain ⟨o1, ho394, hh396⟩ := thn_in h
         refine MX.loop (α := Int × Nat × UInt64 × UInt64 × UInt64 × UInt64 × UInt64 × UInt64 × UInt64 × UInt64 × UInt64 × UInt64 × UInt64 × UInt64 × UInt64 × UInt64 × UInt64 × UInt64) (fun ⟨z1, i1, u0, u1, u2, u3, u4, u5, u6, u7, u9, u10, u11, u12, u13, u14, u15, u16⟩ => [(10, .pointer (some ⟨b2, 0, none⟩)), (12, .int .i64 z0), (15, v6), (18, .pointer (some ⟨b7, 0, none⟩)), (17, .int .i64 z1), (107, v2), (108, .int .i64 ((y3.1.length : Nat) : Int)), (109, .int .i64 ((i1 : Nat) : Int))]) (fun ⟨z1, i1, u0, u1, u2, u3, u4, u5, u6, u7, u9, u10, u11, u12, u13, u14, u15, u16⟩ wx1 => St w wx1 [.cells b7 [.int .u64 (u0.toNat : Int), .int .u64 (u1.toNat : Int), .int .u64 (u2.toNat : Int), .int .u64 (u3.toNat : Int), .int .u64 (u4.toNat : Int), .int .u64 (u5.toNat : Int), .int .u64 (u6.toNat : Int), .int .u64 (u7.toNat : Int), .int .u64 (u9.toNat : Int), .int .u64 (u10.toNat : Int), .int .u64 (u11.toNat : Int), .int .u64 (u12.toNat : Int), .int .u64 (u13.toNat : Int), .int .u64 (u14.toNat : Int), .int .u64 (u15.toNat : Int), .int .u64 (u16.toNat : Int)] 37, .cells b2 (cs_TShare y4.1) 37] ∧ Tr w15 [.cells b7 (cs_TShare y7) 37, .cells b2 (cs_TShare y4.1) 37] wx1 [.cells b7 [.int .u64 (u0.toNat : Int), .int .u64 (u1.toNat : Int), .int .u64 (u2.toNat : Int), .int .u64 (u3.toNat : Int), .int .u64 (u4.toNat : Int), .int .u64 (u5.toNat : Int), .int .u64 (u6.toNat : Int), .int .u64 (u7.toNat : Int), .int .u64 (u9.toNat : Int), .int .u64 (u10.toNat : Int), .int .u64 (u11.toNat : Int), .int .u64 (u12.toNat : Int), .int .u64 (u13.toNat : Int), .int .u64 (u14.toNat : Int), .int .u64 (u15.toNat : Int), .int .u64 (u16.toNat : Int)] 37, .cells b2 (cs_TShare y4.1) 37]) (fun ⟨z1, i1, u0, u1, u2, u3, u4, u5, u6, u7, u9, u10, u11, u12, u13, u14, u15, u16⟩ => (z1, i1, u0, u1, u2, u3, u4, u5, u6, u7, u9, u10, u11, u12, u13, u14, u15, u16)) (0, 0, y7.fN.1, y7.fN.2.1, y7.fN.2.2.1, y7.fN.2.2.2.1, y7.fN.2.2.2.2.1, y7.fN.2.2.2.2.2.1, y7.fN.2.2.2.2.2.2.1, y7.fN.2.2.2.2.2.2.2, y7.fD.1, y7.fD.2.1, y7.fD.2.2.1, y7.fD.2.2.2.1, y7.fD.2.2.2.2.1, y7.fD.2.2.2.2.2.1, y7.fD.2.2.2.2.2.2.1, y7.fD.2.2.2.2.2.2.2) ho394 ⟨rfl, rfl, rfl, rfl, rfl, rfl, rfl, rfl, trivial⟩ ⟨hS19, Tr.refl _ _⟩ ?_
         rintro J1 ⟨z1, i1, u0, u1, u2, u3, u4, u5, u6, u7, u9, u10, u11, u12, u13, u14, u15, u16⟩ wx1 hJ398 ⟨hS21, hT19⟩ h
         unfold wardmotelaw22_BalanceSums_l1 at h
         try dsimp only at h
         refine MX.sr <| RG.vv (FV.lssN (i := i1) (j := y3.1.length) rfl rfl) rfl <| RG.nil <| MX.seq <| MX.ifd rfl h (fun c11 h => ?_) (fun c11 h => ?_)
         ·skip
          refine MX.skip <| MX.seq <| MX.block <| MX.sr <| RG.mv rfl rfl ?_
          obtain ⟨x1, hx1, h⟩ := bind_in h
          have hm21 := Rep.mv hr2 (Tr.trans hT6 (Tr.trans hT7 (Tr.trans hT8 (Tr.trans hT10 (Tr.trans hT14 (Tr.trans hT15 (Tr.trans hT16 (Tr.trans hT17 (Tr.trans hT18 hT19)))))))))
          obtain ⟨A401, c13, he1, hk1, cs2, hr8, hm22⟩ := Rep.nth hm21 hx1
          have he2 : cs2 = [.int .i64 x1] := hr8; subst he2
          refine RG.vv (FV.idxAddr (m := 1) (i := i1) (by kernel_rfl) rfl he1 rfl rfl hk1) rfl <| RG.vv (FV.load1 (by kernel_rfl) rfl (hm22 0 _ rfl)) rfl <| RG.sg rfl rfl <| RG.sg rfl rfl <| RG.nil <| MX.sr ?_
          refine RG.mv rfl rfl <| RG.mv rfl rfl ?_
          obtain ⟨s2, hs1, h⟩ := bind_in h
          refine RG.vv (FV.addc (i := z1) (j := x1) rfl rfl hs1) rfl <| RG.sg rfl rfl <| RG.nil <| MX.seq <| MX.drawT 8 tb4_25 (by kernel_rfl) (by kernel_rfl) (by kernel_rfl) (fun kt1 kp1 => ?_)
          refine RD.vw 0 1 kt1 rfl kp1 (fun _ => FV.move rfl) rfl ?_
          obtain ⟨y8, hy8, h⟩ := bind_in h
          refine RD.cq 1 3 888 (.agg ((cs_TShare y8)).toArray) kt1 rfl kp1 body23 rfl (evs_cons rfl (evs_cons rfl evs_nil)) (fun w9 hw9 => wardmotelaw22_of_c n _ w9 (hS21.hL0 hL hw9) x1 (1 : Int) hy8) rfl <| RD.vx 2 7 888 kt1 rfl kp1 (FV.loadN (by kernel_rfl) rfl (hS21.memA (.tl .hd))) rfl ?_
          obtain ⟨y9, hy9, h⟩ := bind_in h
          refine RD.cq 3 15 880 (.tuple #[.agg ((cs_TShare y9.1)).toArray, .int .i64 y9.2]) kt1 rfl kp1 body24 rfl (evs_cons rfl (evs_cons rfl evs_nil)) (fun w9 hw9 => share_Sub_c n _ w9 (hS21.hL0 hL hw9) y8 y4.1 hy9) rfl <| RD.vw 4 31 kt1 rfl kp1 (fun _ => FV.move rfl) rfl <| RD.vw 5 63 kt1 rfl kp1 (fun _ => FV.extract rfl rfl) rfl <| RD.vw 6 127 kt1 rfl kp1 (fun _ => FV.extract rfl rfl) rfl <| RD.nu 7 255 kt1 rfl .plain rfl (Does.alloc (zs := [.int .u64 0, .int .u64 0, .int .u64 0, .int .u64 0, .int .u64 0, .int .u64 0, .int .u64 0, .int .u64 0, .int .u64 0, .int .u64 0, .int .u64 0, .int .u64 0, .int .u64 0, .int .u64 0, .int .u64 0, .int .u64 0]) hS21 (zB (by kernel_rfl))) (fun w16 b8 hS22 hT20 => ?_)
          refine RD.nw 8 511 kt1 rfl rfl .plain (Acts.storeAll (news := (cs_TShare y9.1)) hS22 .hd rfl rfl rfl rfl rfl rfl (onesB rfl)) (fun w18 hS23 hT22 => ?_)
          refine RD.one (i := 9) (readyD_ok kt1 (by kernel_rfl)) (RO.val (m' := 1023) (stepC_ok kt1 (by kernel_rfl)) rfl .plain rfl (FV.assign rfl) ?_)
          refine RD.done (doneD_ok kt1 (by kernel_rfl)) <| MX.seq <| MX.drawT 10 tb4_26 (by kernel_rfl) (by kernel_rfl) (by kernel_rfl) (fun kt2 kp2 => ?_)
          refine RD.vw 0 1 kt2 rfl kp2 (fun _ => FV.move rfl) rfl <| RD.vw 1 3 kt2 rfl kp2 (fun _ => FV.move rfl) rfl ?_
          obtain ⟨x2, hx2, h⟩ := bind_in h
          have hm23 := Rep.mv hr7 (Tr.trans hT16 (Tr.trans hT17 (Tr.trans hT18 (Tr.trans hT19 (Tr.trans hT20 hT22)))))
          obtain ⟨A426, c14, he3, hk2, cs3, hr9, hm24⟩ := Rep.nth hm23 hx2
          obtain rfl := op_TShare hr9
          refine RD.vw 2 7 kt2 rfl kp2 (fun _ => FV.idxAddr (m := 16) (i := i1) (by kernel_rfl) rfl he3 rfl rfl hk2) rfl <| RD.vx 3 15 3552 kt2 rfl kp2 (FV.loadN (by kernel_rfl) rfl hm24) rfl <| RD.vx 4 31 3552 kt2 rfl kp2 (FV.loadN (by kernel_rfl) rfl (hS23.memA (.tl (.tl .hd)))) rfl ?_
          obtain ⟨y10, hy10, h⟩ := bind_in h
          refine RD.cq 5 63 3520 (.tuple #[.agg ((cs_TShare y10.1)).toArray, .int .i64 y10.2]) kt2 rfl kp2 body25 rfl (evs_cons rfl (evs_cons rfl evs_nil)) (fun w9 hw9 => share_Mul_c n _ w9 (hS23.hL0 hL hw9) x2 y4.1 hy10) rfl <| RD.vw 6 127 kt2 rfl kp2 (fun _ => FV.move rfl) rfl <| RD.vw 7 255 kt2 rfl kp2 (fun _ => FV.extract rfl rfl) rfl <| RD.vw 8 511 kt2 rfl kp2 (fun _ => FV.extract rfl rfl) rfl <| RD.nu 9 1023 kt2 rfl .plain rfl (Does.alloc (zs := [.int .u64 0, .int .u64 0, .int .u64 0, .int .u64 0, .int .u64 0, .int .u64 0, .int .u64 0, .int .u64 0, .int .u64 0, .int .u64 0, .int .u64 0, .int .u64 0, .int .u64 0, .int .u64 0, .int .u64 0, .int .u64 0]) hS23 (zB (by kernel_rfl))) (fun w19 b9 hS24 hT23 => ?_)
          refine RD.nw 10 2047 kt2 rfl rfl .plain (Acts.storeAll (news := (cs_TShare y10.1)) hS24 .hd rfl rfl rfl rfl rfl rfl (onesB rfl)) (fun w20 hS25 hT24 => ?_)
          refine RD.one (i := 11) (readyD_ok kt2 (by kernel_rfl)) (RO.val (m' := 4095) (stepC_ok kt2 (by kernel_rfl)) rfl .plain rfl (FV.assign rfl) ?_)
          refine RD.done (doneD_ok kt2 (by kernel_rfl)) <| MX.seq <| MX.sr <| RG.mv rfl rfl <| RG.vv (FV.neq (i := y9.2) (j := 0) rfl rfl) rfl <| RG.mv rfl rfl ?_
          refine RG.ifn (s := 135) rfl h (fun c15 h => ?_) (fun c15 h => ?_)
          ·skip
           refine RG.val' (.yes rfl rfl) (FV.move rfl) rfl <| RG.val' (.yes rfl rfl) (FV.neq (i := y10.2) (j := 0) rfl rfl) rfl <| RG.vv (FV.pick_f rfl rfl) rfl <| RG.mv rfl rfl <| RG.ifn (s := 139) rfl h (fun c16 h => ?_) (fun c16 h => ?_)
           ·skip
            refine RG.val' (.yes rfl rfl) (FV.loadN (by kernel_rfl) rfl (hS25.memA (.tl .hd))) rfl <| RG.val' (.yes rfl rfl) (FV.loadN (by kernel_rfl) rfl (hS25.memA .hd)) rfl <| RG.val' (.yes rfl rfl) (FV.neqV (xs := ((cs_TShare y9.1)).toArray) (ys := ((cs_TShare y10.1)).toArray) rfl rfl (by kernel_rfl) (eqlD_37 y9.1 y10.1)) rfl <| RG.vv (FV.pick_f rfl rfl) rfl <| RG.nil <| MX.ifn rfl h (fun c17 h => ?_) (fun c17 h => ?_)
            ·skip
             refine MX.skip <| MX.seq <| MX.drawT 9 tb4_29 (by kernel_rfl) (by kernel_rfl) (by kernel_rfl) (fun kt3 kp3 => ?_)
             refine RD.vx 0 1 2016 kt3 rfl kp3 (FV.loadN (by kernel_rfl) rfl (hS25.memA (.tl (.tl .hd)))) rfl <| RD.vw 1 3 kt3 rfl kp3 (fun _ => FV.move rfl) rfl <| RD.vw 2 7 kt3 rfl kp3 (fun _ => FV.move rfl) rfl ?_
             have hm25 := Rep.mv hr7 (Tr.trans hT16 (Tr.trans hT17 (Tr.trans hT18 (Tr.trans hT19 (Tr.trans hT20 (Tr.trans hT22 (Tr.trans hT23 hT24)))))))
             obtain ⟨A448, c18, he4, hk3, cs4, hr10, hm27⟩ := Rep.nth hm25 hx2
             obtain rfl := op_TShare hr10
             refine RD.vw 3 15 kt3 rfl kp3 (fun _ => FV.idxAddr (m := 16) (i := i1) (by kernel_rfl) rfl he4 rfl rfl hk3) rfl <| RD.vx 4 31 2016 kt3 rfl kp3 (FV.loadN (by kernel_rfl) rfl hm27) rfl ?_
             obtain ⟨y12, hy12, h⟩ := bind_in h
             refine RD.cq 5 63 1984 (.tuple #[.agg ((cs_TShare y12.1)).toArray, .int .i64 y12.2]) kt3 rfl kp3 body26 rfl (evs_cons rfl (evs_cons rfl evs_nil)) (fun w9 hw9 => share_Add_c n _ w9 (hS25.hL0 hL hw9) (⟨(u0, u1, u2, u3, u4, u5, u6, u7), (u9, u10, u11, u12, u13, u14, u15, u16)⟩ : TShare) x2 hy12) rfl <| RD.vw 6 127 kt3 rfl kp3 (fun _ => FV.move rfl) rfl <| RD.vw 7 255 kt3 rfl kp3 (fun _ => FV.extract rfl rfl) rfl <| RD.vw 8 511 kt3 rfl kp3 (fun _ => FV.extract rfl rfl) rfl <| RD.nw 9 1023 kt3 rfl rfl .plain (Acts.storeAll (news := (cs_TShare y12.1)) hS25 (.tl (.tl .hd)) rfl rfl rfl rfl rfl rfl (onesB rfl)) (fun w21 hS26 hT25 => ?_)
             refine RD.one (i := 10) (readyD_ok kt3 (by kernel_rfl)) (RO.val (m' := 2047) (stepC_ok kt3 (by kernel_rfl)) rfl .plain rfl (FV.assign rfl) ?_)
             refine RD.done (doneD_ok kt3 (by kernel_rfl)) <| MX.sr <| RG.mv rfl rfl <| RG.vv (FV.neq (i := y12.2) (j := 0) rfl rfl) rfl <| RG.nil <| MX.ifn rfl h (fun c19 h => ?_) (fun c19 h => ?_)
             ·skip
              refine MX.skip <| MX.inBlock <| MX.region <| RG.vv (FV.addN (i := i1) (j := 1) rfl rfl (by omega)) rfl <| RG.mv rfl rfl <| RG.nil ?_
              obtain ⟨hS27, hT26⟩ := St.arrB hS26 (.one (.tl (.tl .hd)) (.one (.tl (.tl .hd)) .done))
              exact hJ398 (s2, i1 + 1, y12.1.fN.1, y12.1.fN.2.1, y12.1.fN.2.2.1, y12.1.fN.2.2.2.1, y12.1.fN.2.2.2.2.1, y12.1.fN.2.2.2.2.2.1, y12.1.fN.2.2.2.2.2.2.1, y12.1.fN.2.2.2.2.2.2.2, y12.1.fD.1, y12.1.fD.2.1, y12.1.fD.2.2.1, y12.1.fD.2.2.2.1, y12.1.fD.2.2.2.2.1, y12.1.fD.2.2.2.2.2.1, y12.1.fD.2.2.2.2.2.2.1, y12.1.fD.2.2.2.2.2.2.2) _ _ ⟨rfl, rfl, rfl, rfl, rfl, rfl, rfl, rfl, trivial⟩ ⟨hS27, (Tr.trans hT19 (Tr.trans hT20 (Tr.trans hT22 (Tr.trans hT23 (Tr.trans hT24 (Tr.trans hT25 hT26))))))⟩ h
             refine MX.sr <| RG.sg rfl rfl <| RG.nil ?_
             have h := thn_inl h hh396
             refine MX.ret rfl <| RT.leave hb0 Tryz.func4 rfl (.cons (.tmp rfl) .nil) rfl ?_
             obtain rfl := Option.some.inj h
             exact ⟨hS26.ag, fun w9 hw9 => rfl⟩
            refine MX.sr <| RG.sg rfl rfl <| RG.nil ?_
            have h := thn_inl h hh396
            refine MX.ret rfl <| RT.leave hb0 Tryz.func4 rfl (.cons (.tmp rfl) .nil) rfl ?_
            obtain rfl := Option.some.inj h
            exact ⟨hS25.ag, fun w9 hw9 => rfl⟩
           refine RG.off (.no rfl rfl) rfl <| RG.off (.no rfl rfl) rfl <| RG.off (.no rfl rfl) rfl <| RG.vv (FV.pick_t rfl rfl) rfl <| RG.nil <| MX.cond_t rfl ?_
           refine MX.sr <| RG.sg rfl rfl <| RG.nil ?_
           have h := thn_inl h hh396
           refine MX.ret rfl <| RT.leave hb0 Tryz.func4 rfl (.cons (.tmp rfl) .nil) rfl ?_
           obtain rfl := Option.some.inj h
           exact ⟨hS25.ag, fun w9 hw9 => rfl⟩
          refine RG.off (.no rfl rfl) rfl <| RG.off (.no rfl rfl) rfl <| RG.vv (FV.pick_t rfl rfl) rfl <| RG.mv rfl rfl <| RG.off (.no rfl rfl) rfl <| RG.off (.no rfl rfl) rfl ?_
          refine RG.off (.no rfl rfl) rfl <| RG.vv (FV.pick_t rfl rfl) rfl <| RG.nil <| MX.cond_t rfl <| MX.sr <| RG.sg rfl rfl ?_
          refine RG.nil ?_
          have h := thn_inl h hh396
          refine MX.ret rfl <| RT.leave hb0 Tryz.func4 rfl (.cons (.tmp rfl) .nil) rfl ?_
          obtain rfl := Option.some.inj h
          exact ⟨hS25.ag, fun w9 hw9 => rfl⟩
         refine MX.exit rfl ?_
         have h := thn_inr h hh396
         try dsimp only at h
         refine MX.seq <| MX.drawT 9 tb4_33 (by kernel_rfl) (by kernel_rfl) (by kernel_rfl) (fun kt4 kp4 => ?_)
         refine RD.vw 0 1 kt4 rfl kp4 (fun _ => FV.move rfl) rfl <| RD.vw 1 3 kt4 rfl kp4 (fun _ => FV.move rfl) rfl <| RD.vw 2 7 kt4 rfl kp4 (fun _ => FV.eql (i := z1) (j := z0) rfl rfl) rfl <| RD.vw 3 15 kt4 rfl kp4 (fun _ => FV.move rfl) rfl <| RD.ifd (s := 159) rfl h (fun c20 h => ?_) (fun c20 h => ?_)
         ·skip
          refine RD.val (i := 4) (m' := 31) (W := 448) (takeC_ok kt4 (by kernel_rfl)) rfl kp4 (.yes rfl rfl) (FV.loadN (by kernel_rfl) rfl (hS21.memA .hd)) rfl ?_
          obtain ⟨y14, hy14, h⟩ := bind_in h
          refine RD.callq (i := 5) (m' := 63) (W := 448) (takeC_ok kt4 (by kernel_rfl)) rfl kp4 (v := .agg ((cs_TShare y14)).toArray) (fst := []) (cap := []) (.yes rfl rfl) body23 rfl (evs_cons rfl (evs_cons rfl evs_nil)) (fun w9 hw9 => wardmotelaw22_of_c n _ w9 (hS21.hL0 hL hw9) (0 : Int) (1 : Int) hy14) rfl <| RD.vP 6 127 kt4 rfl kp4 (.yes rfl rfl) (fun _ => FV.eqlV (v := .agg #[.int .u64 (u0.toNat : Int), .int .u64 (u1.toNat : Int), .int .u64 (u2.toNat : Int), .int .u64 (u3.toNat : Int), .int .u64 (u4.toNat : Int), .int .u64 (u5.toNat : Int), .int .u64 (u6.toNat : Int), .int .u64 (u7.toNat : Int), .int .u64 (u9.toNat : Int), .int .u64 (u10.toNat : Int), .int .u64 (u11.toNat : Int), .int .u64 (u12.toNat : Int), .int .u64 (u13.toNat : Int), .int .u64 (u14.toNat : Int), .int .u64 (u15.toNat : Int), .int .u64 (u16.toNat : Int)]) (u := .agg ((cs_TShare y14)).toArray) rfl rfl (eqlD_37 (⟨(u0, u1, u2, u3, u4, u5, u6, u7), (u9, u10, u11, u12, u13, u14, u15, u16)⟩ : TShare) y14)) rfl <| RD.vw 7 255 kt4 rfl kp4 (fun _ => FV.pick_t rfl rfl) rfl <| RD.vw 8 511 kt4 rfl kp4 (fun _ => FV.assign rfl) rfl <| RD.done (doneD_ok kt4 (by kernel_rfl)) <| MX.ret rfl ?_
          refine RT.leave hb0 Tryz.func4 rfl (.cons (.tmp rfl) .nil) rfl ?_
          obtain rfl := Option.some.inj h
          exact ⟨hS21.ag, fun w9 hw9 => rfl⟩
         refine RD.offs 127 2 [(4, 160), (5, 161), (6, 162)] (F := [(159, false)]) (U := []) kt4 kp4 (.cons rfl .nil) .nil ?_
         dsimp only [offS, List.map]
         refine RD.vw 7 255 kt4 rfl kp4 (fun _ => FV.pick_f rfl rfl) rfl <| RD.vw 8 511 kt4 rfl kp4 (fun _ => FV.assign rfl) rfl <| RD.done (doneD_ok kt4 (by kernel_rfl)) <| MX.ret rfl <| RT.leave hb0 Tryz.func4 rfl (.cons (.tmp rfl) .nil) rfl ?_
         obtain rfl := Option.some.inj h
         exact ⟨hS21.ag, fun w9 hw9 => rfl⟩
        refine MX.sr <| RG.sg rfl rfl <| RG.nil <| MX.ret rfl <| RT.leave hb0 Tryz.func4 rfl (.cons (.tmp rfl) .nil) rfl ?_
        obtain rfl := Option.some.inj h
        exact ⟨hS16.ag, fun w9 hw9 => rfl⟩
       refine RG.off (.no rfl rfl) rfl <| RG.off (.no rfl rfl) rfl <| RG.off (.no rfl rfl) rfl <| RG.off (.no rfl rfl) rfl <| RG.vv (FV.pick_t rfl rfl) rfl <| RG.nil ?_
       refine MX.cond_t rfl <| MX.sr <| RG.sg rfl rfl <| RG.nil <| MX.ret rfl <| RT.leave hb0 Tryz.func4 rfl (.cons (.tmp rfl) .nil) rfl ?_
       obtain rfl := Option.some.inj h
       exact ⟨hS16.ag, fun w9 hw9 => rfl⟩
      refine MX.sr <| RG.sg rfl rfl <| RG.nil <| MX.ret rfl <| RT.leave hb0 Tryz.func4 rfl (.cons (.tmp rfl) .nil) rfl ?_
      obtain rfl := Option.some.inj h
      exact ⟨hS15.ag, fun w9 hw9 => rfl⟩
     refine RD.offs 1048575 1 [(13, 74), (14, 75), (15, 76), (16, 77), (17, 78), (18, 79), (19, 80)] (F := [(73, true)]) (U := []) kt0 kp0 (.cons rfl .nil) .nil ?_
     dsimp only [offS, List.map]
     refine RD.vw 20 2097151 kt0 rfl kp0 (fun _ => FV.pick_t rfl rfl) rfl <| RD.done (doneD_ok kt0 (by kernel_rfl)) <| MX.cond_t rfl <| MX.sr <| RG.sg rfl rfl <| RG.nil ?_
     refine MX.ret rfl <| RT.leave hb0 Tryz.func4 rfl (.cons (.tmp rfl) .nil) rfl ?_
     obtain rfl := Option.some.inj h
     exact ⟨hS11.ag, fun w9 hw9 => rfl⟩
    refine RD.offs 2047 10 [(7, 68), (8, 69), (9, 70), (10, 71)] (F := [(67, true)]) (U := []) kt0 kp0 (.cons rfl .nil) .nil ?_
    dsimp only [offS, List.map]
    refine RD.vw 11 4095 kt0 rfl kp0 (fun _ => FV.pick_t rfl rfl) rfl <| RD.vw 12 8191 kt0 rfl kp0 (fun _ => FV.move rfl) rfl <| RD.offs 1048575 1 [(13, 74), (14, 75), (15, 76), (16, 77), (17, 78), (18, 79), (19, 80)] (F := [(73, true)]) (U := []) kt0 kp0 (.cons rfl .nil) .nil ?_
    dsimp only [offS, List.map]
    refine RD.vw 20 2097151 kt0 rfl kp0 (fun _ => FV.pick_t rfl rfl) rfl <| RD.done (doneD_ok kt0 (by kernel_rfl)) <| MX.cond_t rfl <| MX.sr <| RG.sg rfl rfl <| RG.nil ?_
    refine MX.ret rfl <| RT.leave hb0 Tryz.func4 rfl (.cons (.tmp rfl) .nil) rfl ?_
    obtain rfl := Option.some.inj h
    exact ⟨hS11.ag, fun w9 hw9 => rfl⟩
   refine RD.offs 31 16 [(3, 64), (4, 65)] (F := [(63, true)]) (U := []) kt0 kp0 (.cons rfl .nil) .nil ?_
   dsimp only [offS, List.map]
   refine RD.vw 5 63 kt0 rfl kp0 (fun _ => FV.pick_t rfl rfl) rfl <| RD.vw 6 127 kt0 rfl kp0 (fun _ => FV.move rfl) rfl <| RD.offs 2047 10 [(7, 68), (8, 69), (9, 70), (10, 71)] (F := [(67, true)]) (U := []) kt0 kp0 (.cons rfl .nil) .nil ?_
   dsimp only [offS, List.map]
   refine RD.vw 11 4095 kt0 rfl kp0 (fun _ => FV.pick_t rfl rfl) rfl <| RD.vw 12 8191 kt0 rfl kp0 (fun _ => FV.move rfl) rfl <| RD.offs 1048575 1 [(13, 74), (14, 75), (15, 76), (16, 77), (17, 78), (18, 79), (19, 80)] (F := [(73, true)]) (U := []) kt0 kp0 (.cons rfl .nil) .nil ?_
   dsimp only [offS, List.map]
   refine RD.vw 20 2097151 kt0 rfl kp0 (fun _ => FV.pick_t rfl rfl) rfl <| RD.done (doneD_ok kt0 (by kernel_rfl)) <| MX.cond_t rfl <| MX.sr <| RG.sg rfl rfl <| RG.nil ?_
   refine MX.ret rfl <| RT.leave hb0 Tryz.func4 rfl (.cons (.tmp rfl) .nil) rfl ?_
   obtain rfl := Option.some.inj h
   exact ⟨hS11.ag, fun w9 hw9 => rfl⟩
  refine MX.sr <| RG.sg rfl rfl <| RG.nil <| MX.ret rfl <| RT.leave hb0 Tryz.func4 rfl (.cons (.tmp rfl) .nil) rfl ?_
  obtain rfl := Option.some.inj h
  exact ⟨hS8.ag, fun w9 hw9 => rfl⟩
end Go.Proofs.YtmhgoecnjleagaaGreatDoor
