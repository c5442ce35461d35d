/- Functions of the program, and what they give: part 7. -/
import Derived.Test.YtplkfbljncfdnaaDoorT6
namespace Go.Proofs.YtplkfbljncfdnaaDoor
open Go Go.RowKit

structure TDraft where
  fWide : UInt8
  fHigh : UInt8
  fLess : UInt16
  fMore : List (UInt8 × UInt8)
  deriving DecidableEq
instance : Rep TDraft := Rep.via (β := UInt8 × UInt8 × UInt16 × (List (UInt8 × UInt8))) fun x => (x.fWide, x.fHigh, x.fLess, x.fMore)
def tb13_1 : List (Nat × Nat × Nat) := [(0, 8192, 2), (1, 16384, 8192), (2, 32768, 16384), (4, 65536, 32768), (8, 131072, 65536), (0, 262144, 2), (32, 524288, 262144), (64, 1048576, 524288), (128, 2097152, 1048576), (256, 4194304, 2097152), (31, 8, 131072), (2047, 16, 4194304)]
def tb13_18 : List (Nat × Nat × Nat) := [(0, 77371252455336267181195264, 2), (1, 154742504910672534362390528, 77371252455336267181195264), (0, 309485009821345068724781056, 1024), (6, 618970019642690137449562112, 464227514732017603087171584), (8, 1237940039285380274899124224, 618970019642690137449562112), (16, 2475880078570760549798248448, 1237940039285380274899124224), (32, 4951760157141521099596496896, 2475880078570760549798248448), (0, 9903520314283042199192993792, 32), (128, 19807040628566084398385987584, 9903520314283042199192993792), (320, 39614081257132168796771975168, 24758800785707605497982484480), (0, 79228162514264337593543950336, 2), (1024, 158456325028528675187087900672, 79228162514264337593543950336), (0, 316912650057057350374175801344, 1024), (6144, 633825300114114700748351602688, 475368975085586025561263702016), (8192, 1267650600228229401496703205376, 633825300114114700748351602688), (16384, 2535301200456458802993406410752, 1267650600228229401496703205376), (32768, 5070602400912917605986812821504, 2535301200456458802993406410752), (0, 10141204801825835211973625643008, 32), (131072, 20282409603651670423947251286016, 10141204801825835211973625643008), (327680, 40564819207303340847894502572032, 25353012004564588029934064107520), (1023, 2048, 39614081257132168796771975168), (2097151, 4096, 40564819207303340847894502572032)]
theorem op_A69 {w : World} {L : List Nat} {cs : List Value} {x : UInt8 × UInt8} (h : Rep.R w L cs x) : cs = [.int .u8 (x.1.toNat : Int), .int .u8 (x.2.toNat : Int)] := by
  obtain ⟨c0, r0, rfl, h0, h⟩ := h
  have e0 : c0 = [.int .u8 (x.1.toNat : Int)] := h0; subst e0
  have e1 : r0 = [.int .u8 (x.2.toNat : Int)] := h; subst e1
  rfl
theorem mk_A69 {w : World} {L : List Nat} (a0 : UInt8) (a1 : UInt8) : Rep.R w L [.int .u8 (a0.toNat : Int), .int .u8 (a1.toNat : Int)] ((a0, a1) : UInt8 × UInt8) := ⟨[.int .u8 (a0.toNat : Int)], [.int .u8 (a1.toNat : Int)], rfl, rfl, rfl⟩
def wardmoteref18_Draft_Graph_l1 (n : Nat) (a0 : TDraft) (s15 : Int) (z4892 : Int) (z6517 : Int) (J6742 : Bool × Nat → Option Bool) : Bool × Nat → Option Bool
  | (q6733, i6734) => (if i6734 < a0.fMore.length then (if i6734 < 3 then (a0.fMore[i6734]?).bind fun x6750 => (remI ((x6750.1.toNat : Nat) : Int) s15).bind fun s6759 => (remI ((x6750.2.toNat : Nat) : Int) s15).bind fun s6761 => (if q6733 = true then J6742 (true, i6734 + 1) else (if s6759 = z4892 then (if s6761 = z6517 then J6742 (true, i6734 + 1) else (if s6759 = z6517 then J6742 ((decide (s6761 = z4892)), i6734 + 1) else J6742 (false, i6734 + 1))) else (if s6759 = z6517 then J6742 ((decide (s6761 = z4892)), i6734 + 1) else J6742 (false, i6734 + 1)))) else some q6733) else some q6733)
def wardmoteref18_Draft_Graph_l2 (n : Nat) (a0 : TDraft) (s15 : Int) (z4892 : Int) (z6517 : Int) (J6965 : Bool × Nat → Option Bool) : Bool × Nat → Option Bool
  | (q6956, i6957) => (if i6957 < a0.fMore.length then (if i6957 < 3 then (a0.fMore[i6957]?).bind fun x6973 => (remI ((x6973.1.toNat : Nat) : Int) s15).bind fun s6982 => (remI ((x6973.2.toNat : Nat) : Int) s15).bind fun s6984 => (if q6956 = true then J6965 (true, i6957 + 1) else (if s6982 = z4892 then (if s6984 = z6517 then J6965 (true, i6957 + 1) else (if s6982 = z6517 then J6965 ((decide (s6984 = z4892)), i6957 + 1) else J6965 (false, i6957 + 1))) else (if s6982 = z6517 then J6965 ((decide (s6984 = z4892)), i6957 + 1) else J6965 (false, i6957 + 1)))) else some q6956) else some q6956)
def wardmoteref18_Draft_Graph_l3 (n : Nat) (a0 : TDraft) (s15 : Int) (z4892 : Int) (z6517 : Int) (J7205 : Bool × Nat → Option Bool) : Bool × Nat → Option Bool
  | (q7196, i7197) => (if i7197 < a0.fMore.length then (if i7197 < 3 then (a0.fMore[i7197]?).bind fun x7213 => (remI ((x7213.1.toNat : Nat) : Int) s15).bind fun s7222 => (remI ((x7213.2.toNat : Nat) : Int) s15).bind fun s7224 => (if q7196 = true then J7205 (true, i7197 + 1) else (if s7222 = z4892 then (if s7224 = z6517 then J7205 (true, i7197 + 1) else (if s7222 = z6517 then J7205 ((decide (s7224 = z4892)), i7197 + 1) else J7205 (false, i7197 + 1))) else (if s7222 = z6517 then J7205 ((decide (s7224 = z4892)), i7197 + 1) else J7205 (false, i7197 + 1)))) else some q7196) else some q7196)
def wardmoteref18_Draft_Graph_l4 (n : Nat) (a0 : TDraft) (s15 : Int) (z4892 : Int) (z6517 : Int) (J7435 : Bool × Nat → Option Bool) : Bool × Nat → Option Bool
  | (q7426, i7427) => (if i7427 < a0.fMore.length then (if i7427 < 3 then (a0.fMore[i7427]?).bind fun x7443 => (remI ((x7443.1.toNat : Nat) : Int) s15).bind fun s7452 => (remI ((x7443.2.toNat : Nat) : Int) s15).bind fun s7454 => (if q7426 = true then J7435 (true, i7427 + 1) else (if s7452 = z4892 then (if s7454 = z6517 then J7435 (true, i7427 + 1) else (if s7452 = z6517 then J7435 ((decide (s7454 = z4892)), i7427 + 1) else J7435 (false, i7427 + 1))) else (if s7452 = z6517 then J7435 ((decide (s7454 = z4892)), i7427 + 1) else J7435 (false, i7427 + 1)))) else some q7426) else some q7426)
def wardmoteref18_Draft_Graph_l5 (n : Nat) (s15 : Int) (z4892 : Int) (a0 : TDraft) (J6529 : Int × Int × (List (Int × Int)) → Option (Int × (List (Int × Int)))) : Int × Int × (List (Int × Int)) → Option (Int × (List (Int × Int)))
  | (z6516, z6517, xs6518) => (if z6517 < s15 then (chk (z4892 + ((1 + ((a0.fWide % (4 : UInt8)).toNat) : Nat) : Int))).bind fun s6532 => (if z6517 = s6532 then (remI z6516 2).bind fun s6534 => (if s6534 = 1 then (quoI z6516 2).bind fun s6536 => (remI s6536 16).bind fun s6537 => jn (fun q6539 => (chk (z6516 + 1)).bind fun s6545 => jn (fun q6647 => jn (fun xs6672 => (chk (z6517 + 1)).bind fun s6681 => J6529 (s6545, s6681, xs6672)) (fun J6679 => (if q6647 = true then (app xs6518 ([(z4892, z6517)] : List (Int × Int))).bind fun xs6689 => J6679 xs6689 else J6679 xs6518))) (fun J6651 => Option.bind (loopF (wardmoteref18_Draft_Graph_l1 n a0 s15 z4892 z6517) n (q6539, 0)) (J6651))) (fun J6543 => (if (((shr16 a0.fLess ((u64of s6537).toNat)) &&& (1 : UInt16)).toNat) = 1 then J6543 false else J6543 true)) else (chk (z6516 + 1)).bind fun s6768 => jn (fun q6870 => jn (fun xs6895 => (chk (z6517 + 1)).bind fun s6904 => J6529 (s6768, s6904, xs6895)) (fun J6902 => (if q6870 = true then (app xs6518 ([(z4892, z6517)] : List (Int × Int))).bind fun xs6912 => J6902 xs6912 else J6902 xs6518))) (fun J6874 => Option.bind (loopF (wardmoteref18_Draft_Graph_l2 n a0 s15 z4892 z6517) n (true, 0)) (J6874))) else (chk (z4892 + 1)).bind fun s6990 => (if z6517 = s6990 then (remI z6517 ((1 + ((a0.fWide % (4 : UInt8)).toNat) : Nat) : Int)).bind fun s6992 => jn (fun (z7002, q7003) => jn (fun q7110 => jn (fun xs7135 => (chk (z6517 + 1)).bind fun s7144 => J6529 (z7002, s7144, xs7135)) (fun J7142 => (if q7110 = true then (app xs6518 ([(z4892, z6517)] : List (Int × Int))).bind fun xs7152 => J7142 xs7152 else J7142 xs6518))) (fun J7114 => Option.bind (loopF (wardmoteref18_Draft_Graph_l3 n a0 s15 z4892 z6517) n (q7003, 0)) (J7114))) (fun J7007 => (if s6992 = 0 then J7007 (z6516, (!(decide (s6992 = 0)))) else (remI z6516 2).bind fun s7231 => (if s7231 = 1 then (quoI z6516 2).bind fun s7233 => (remI s7233 16).bind fun s7234 => (if (((shr16 a0.fLess ((u64of s7234).toNat)) &&& (1 : UInt16)).toNat) = 1 then (chk (z6516 + 1)).bind fun s7236 => J7007 (s7236, false) else (chk (z6516 + 1)).bind fun s7237 => J7007 (s7237, (!(decide (s6992 = 0))))) else (chk (z6516 + 1)).bind fun s7238 => J7007 (s7238, (!(decide (s6992 = 0))))))) else jn (fun q7340 => jn (fun xs7365 => (chk (z6517 + 1)).bind fun s7374 => J6529 (z6516, s7374, xs7365)) (fun J7372 => (if q7340 = true then (app xs6518 ([(z4892, z6517)] : List (Int × Int))).bind fun xs7382 => J7372 xs7382 else J7372 xs6518))) (fun J7344 => Option.bind (loopF (wardmoteref18_Draft_Graph_l4 n a0 s15 z4892 z6517) n (false, 0)) (J7344)))) else some (z6516, xs6518))
def wardmoteref18_Draft_Graph_l6 (n : Nat) (s15 : Int) (a0 : TDraft) (J4904 : Int × Int × (List (Int × Int)) → Option (List (Int × Int))) : Int × Int × (List (Int × Int)) → Option (List (Int × Int))
  | (z4891, z4892, xs4893) => (if z4892 < s15 then (chk (z4892 + 1)).bind fun s4907 => Option.bind (loopF (wardmoteref18_Draft_Graph_l5 n s15 z4892 a0) n (z4891, s4907, xs4893)) (fun (z6516, xs6518) => (chk (z4892 + 1)).bind fun s7460 => J4904 (z6516, s7460, xs6518)) else some xs4893)
def wardmoteref18_Draft_Graph_p (n : Nat) (a0 : TDraft) : Option TGraph :=
  (chk (((1 + ((a0.fWide % (4 : UInt8)).toNat) : Nat) : Int) * ((1 + ((a0.fHigh % (3 : UInt8)).toNat) : Nat) : Int))).bind fun s15 => Option.bind (loopF (wardmoteref18_Draft_Graph_l6 n s15 a0) n (0, 0, ([] : List (Int × Int)))) (fun xs4893 => some (⟨s15, xs4893⟩ : TGraph))
set_option maxRecDepth 4000 in
set_option maxHeartbeats 4000000 in
theorem wardmoteref18_Draft_Graph_c (n : Nat) (L : List Nat) (w : World) (hL : ∀ b ∈ L, b < w.heap.size) (a0 : TDraft) {v0_3 : Value} (h0_3 : Rep.R w L [v0_3] a0.fMore)  {r : TGraph} (h : wardmoteref18_Draft_Graph_p n a0 = some r) :
    Calls Tryd.prog 13 #[.agg #[.int .u8 (a0.fWide.toNat : Int), .int .u8 (a0.fHigh.toNat : Int), .int .u16 (a0.fLess.toNat : Int), v0_3]] w (Gives w fun w' u => ∃ v0_1 : Value, u = .agg #[.int .i64 r.fN, v0_1] ∧ Rep.R w' L [v0_1] r.fEdges) := by
  unfold wardmoteref18_Draft_Graph_p at h
  have hS0 := St.start w
  refine MX.start Tryd.func13 rfl rfl rfl (fun _ cs0 hb0 => ?_)
  refine MX.seq ?_
  refine MX.region ?_
  refine RG.new .plain rfl (Does.box (vs := [.int .u8 (a0.fWide.toNat : Int), .int .u8 (a0.fHigh.toNat : Int), .int .u16 (a0.fLess.toNat : Int), v0_3]) hS0 rfl rfl) (fun w2 b5 hS3 hT4 => ?_)
  refine RG.new .plain rfl (Does.alloc (zs := [.int .i64 0, .slice none 0 0]) hS3 (zB (by kernel_rfl))) (fun w7 b10 hS8 hT9 => ?_)
  refine RG.nil ?_
  refine MX.seq ?_
  refine MX.drawT 12 tb13_1 (by kernel_rfl) (by kernel_rfl) (by kernel_rfl) (fun kt11 kp12 => ?_)
  refine RD.vP 0 1 kt11 rfl kp12 .plain (fun _ => FV.fieldAddr (off := 0) (by kernel_rfl) rfl) rfl ?_
  refine RD.val (i := 1) (m' := 3) (W := 3100) (takeC_ok kt11 (by kernel_rfl)) rfl kp12 .plain (FV.load1 (by kernel_rfl) rfl ((hS8.memA (.tl .hd)) 0 _ rfl)) rfl ?_
  refine RD.vP 2 7 kt11 rfl kp12 .plain (fun _ => FV.rem8 (a := a0.fWide) (b := (4 : UInt8)) rfl rfl (by decide)) rfl ?_
  have hu13 := (a0.fWide % (4 : UInt8)).toNat_lt
  refine RD.vP 3 15 kt11 rfl kp12 .plain (fun _ => FV.convN (i := (a0.fWide % (4 : UInt8)).toNat) Tryd.underlying5 Tryd.underlying3 rfl (by omega)) rfl ?_
  refine RD.vP 4 31 kt11 rfl kp12 .plain (fun _ => FV.addN (i := 1) (j := (a0.fWide % (4 : UInt8)).toNat) rfl rfl (by omega)) rfl ?_
  refine RD.vP 5 63 kt11 rfl kp12 .plain (fun _ => FV.fieldAddr (off := 1) (by kernel_rfl) rfl) rfl ?_
  refine RD.val (i := 6) (m' := 127) (W := 2944) (takeC_ok kt11 (by kernel_rfl)) rfl kp12 .plain (FV.load1 (by kernel_rfl) rfl ((hS8.memA (.tl .hd)) 1 _ rfl)) rfl ?_
  refine RD.vP 7 255 kt11 rfl kp12 .plain (fun _ => FV.rem8 (a := a0.fHigh) (b := (3 : UInt8)) rfl rfl (by decide)) rfl ?_
  have hu14 := (a0.fHigh % (3 : UInt8)).toNat_lt
  refine RD.vP 8 511 kt11 rfl kp12 .plain (fun _ => FV.convN (i := (a0.fHigh % (3 : UInt8)).toNat) Tryd.underlying5 Tryd.underlying3 rfl (by omega)) rfl ?_
  refine RD.vP 9 1023 kt11 rfl kp12 .plain (fun _ => FV.addN (i := 1) (j := (a0.fHigh % (3 : UInt8)).toNat) rfl rfl (by omega)) rfl ?_
  refine RD.vP 10 2047 kt11 rfl kp12 .plain (fun _ => FV.assign rfl) rfl ?_
  refine RD.vP 11 4095 kt11 rfl kp12 .plain (fun _ => FV.assign rfl) rfl ?_
  refine RD.done (doneD_ok kt11 (by kernel_rfl)) ?_
  refine MX.seq ?_
  refine MX.region ?_
  refine RG.val' .plain (FV.move rfl) rfl ?_
  refine RG.val' .plain (FV.move rfl) rfl ?_
  obtain ⟨s15, hs15, h⟩ := bind_in h
  refine RG.val' .plain (FV.mulc (i := ((1 + ((a0.fWide % (4 : UInt8)).toNat) : Nat) : Int)) (j := ((1 + ((a0.fHigh % (3 : UInt8)).toNat) : Nat) : Int)) rfl rfl hs15) rfl ?_
  refine RG.val' .plain (FV.buildV (vs := [.int .i64 s15]) (u := .agg #[.int .i64 s15, .slice none 0 0]) (evs_cons rfl evs_nil) (fun w9 => by kernel_rfl)) rfl ?_
  refine RG.new .plain rfl (Does.alloc (zs := [.int .i64 0, .slice none 0 0]) hS8 (zB (by kernel_rfl))) (fun w17 b20 hS18 hT19 => ?_)
  refine RG.now .plain (Acts.store (j := 0) (old := [.int .i64 0, .slice none 0 0]) (news := [.int .i64 s15, .slice none 0 0]) (new' := [.int .i64 s15, .slice none 0 0]) hS18 .hd rfl rfl rfl rfl rfl rfl (ones_cons rfl (ones_cons rfl ones_nil)) rfl) (fun w21 hS22 hT23 => ?_)
  refine RG.nil ?_
  refine MX.seq ?_
  refine MX.region ?_
  refine RG.val' .plain (FV.assign rfl) rfl ?_
  refine RG.nil ?_
  refine MX.seq ?_
  refine MX.seq ?_
  refine MX.region ?_
  refine RG.val' .plain (FV.assign rfl) rfl ?_
  refine RG.nil ?_
  refine MX.block ?_
  have hS25 := hS22.nilRow 46 (Rep.size (Int × Int))
  have hT26 := Tr.nilRow (w := w21) (O := [.cells b20 [.int .i64 s15, .slice none 0 0] 40, .cells b10 [.int .i64 0, .slice none 0 0] 40, .cells b5 [.int .u8 (a0.fWide.toNat : Int), .int .u8 (a0.fHigh.toNat : Int), .int .u16 (a0.fLess.toNat : Int), v0_3] 34]) w.heap.size 46 (Rep.size (Int × Int))
  have hc27 : Cells w21 (bl [.row w.heap.size 46 (Rep.size (Int × Int)) (.slice none 0 0) (([] : List (Int × Int)).length) [], .cells b20 [.int .i64 s15, .slice none 0 0] 40, .cells b10 [.int .i64 0, .slice none 0 0] 40, .cells b5 [.int .u8 (a0.fWide.toNat : Int), .int .u8 (a0.fHigh.toNat : Int), .int .u16 (a0.fLess.toNat : Int), v0_3] 34] ++ L) [] ([] : List (Int × Int)) := Cells.nil _ _
  have hS29 := hS25.nilRow 46 (Rep.size (Int × Int))
  have hT30 := Tr.nilRow (w := w21) (O := [.row w.heap.size 46 (Rep.size (Int × Int)) (.slice none 0 0) (([] : List (Int × Int)).length) [], .cells b20 [.int .i64 s15, (.slice none 0 0)] 40, .cells b10 [.int .i64 0, .slice none 0 0] 40, .cells b5 [.int .u8 (a0.fWide.toNat : Int), .int .u8 (a0.fHigh.toNat : Int), .int .u16 (a0.fLess.toNat : Int), v0_3] 34]) w.heap.size 46 (Rep.size (Int × Int))
  have hc31 : Cells w21 (bl [.row w.heap.size 46 (Rep.size (Int × Int)) (.slice none 0 0) (([] : List (Int × Int)).length) [], .row w.heap.size 46 (Rep.size (Int × Int)) (.slice none 0 0) (([] : List (Int × Int)).length) [], .cells b20 [.int .i64 s15, (.slice none 0 0)] 40, .cells b10 [.int .i64 0, .slice none 0 0] 40, .cells b5 [.int .u8 (a0.fWide.toNat : Int), .int .u8 (a0.fHigh.toNat : Int), .int .u16 (a0.fLess.toNat : Int), v0_3] 34] ++ L) [] ([] : List (Int × Int)) := Cells.nil _ _
  have hm4890 := Cells.mv hc27 hT30
  obtain ⟨o4902, ho4901, hh4903⟩ := bind_in2 h
  refine MX.loop (α := Int × Int × (List (Int × Int)) × Value × (List Value)) (fun ⟨z4891, z4892, xs4893, v4896, cs4894⟩ => [(1, .pointer (some ⟨b5, 0, none⟩)), (2, .pointer (some ⟨b10, 0, none⟩)), (3, .int .i64 ((1 + ((a0.fWide % (4 : UInt8)).toNat) : Nat) : Int)), (5, .pointer (some ⟨b20, 0, none⟩)), (6, .int .i64 z4891), (7, .int .i64 z4892)]) (fun ⟨z4891, z4892, xs4893, v4896, cs4894⟩ wx4896 => St w wx4896 [.row w.heap.size 46 (Rep.size (Int × Int)) (.slice none 0 0) (([] : List (Int × Int)).length) [], .row w.heap.size 46 (Rep.size (Int × Int)) v4896 xs4893.length cs4894, .cells b20 [.int .i64 s15, v4896] 40, .cells b10 [.int .i64 0, (.slice none 0 0)] 40, .cells b5 [.int .u8 (a0.fWide.toNat : Int), .int .u8 (a0.fHigh.toNat : Int), .int .u16 (a0.fLess.toNat : Int), v0_3] 34] ∧ Tr w21 [.row w.heap.size 46 (Rep.size (Int × Int)) (.slice none 0 0) (([] : List (Int × Int)).length) [], .row w.heap.size 46 (Rep.size (Int × Int)) (.slice none 0 0) (([] : List (Int × Int)).length) [], .cells b20 [.int .i64 s15, (.slice none 0 0)] 40, .cells b10 [.int .i64 0, (.slice none 0 0)] 40, .cells b5 [.int .u8 (a0.fWide.toNat : Int), .int .u8 (a0.fHigh.toNat : Int), .int .u16 (a0.fLess.toNat : Int), v0_3] 34] wx4896 [.row w.heap.size 46 (Rep.size (Int × Int)) (.slice none 0 0) (([] : List (Int × Int)).length) [], .row w.heap.size 46 (Rep.size (Int × Int)) v4896 xs4893.length cs4894, .cells b20 [.int .i64 s15, v4896] 40, .cells b10 [.int .i64 0, (.slice none 0 0)] 40, .cells b5 [.int .u8 (a0.fWide.toNat : Int), .int .u8 (a0.fHigh.toNat : Int), .int .u16 (a0.fLess.toNat : Int), v0_3] 34] ∧ Cells wx4896 (bl [.row w.heap.size 46 (Rep.size (Int × Int)) (.slice none 0 0) (([] : List (Int × Int)).length) [], .row w.heap.size 46 (Rep.size (Int × Int)) v4896 xs4893.length cs4894, .cells b20 [.int .i64 s15, v4896] 40, .cells b10 [.int .i64 0, (.slice none 0 0)] 40, .cells b5 [.int .u8 (a0.fWide.toNat : Int), .int .u8 (a0.fHigh.toNat : Int), .int .u16 (a0.fLess.toNat : Int), v0_3] 34] ++ L) cs4894 xs4893) (fun ⟨z4891, z4892, xs4893, v4896, cs4894⟩ => (z4891, z4892, xs4893)) (0, 0, ([] : List (Int × Int)), (.slice none 0 0), []) ho4901 ⟨rfl, rfl, rfl, rfl, rfl, rfl, trivial⟩ ⟨hS29, Tr.refl _ _, hm4890⟩ ?_
  rintro J4904 ⟨z4891, z4892, xs4893, v4896, cs4894⟩ wx4896 hJ4905 ⟨hS4897, hT4898, hc4895⟩ h
  unfold wardmoteref18_Draft_Graph_l6 at h
  try dsimp only at h
  refine MX.seq ?_
  refine MX.seq ?_
  refine MX.region ?_
  refine RG.val' .plain (FV.move rfl) rfl ?_
  refine RG.val' .plain (FV.fieldAddr (off := 0) (by kernel_rfl) rfl) rfl ?_
  refine RG.val' .plain (FV.load1 (by kernel_rfl) rfl ((hS4897.memA (.tl (.tl .hd))) 0 _ rfl)) rfl ?_
  refine RG.val' .plain (FV.lss (i := z4892) (j := s15) rfl rfl) rfl ?_
  refine RG.nil ?_
  refine MX.ifd rfl h (fun c4906 h => ?_) (fun c4906 h => ?_)
  ·skip
   refine MX.skip ?_
   refine MX.seq ?_
   refine MX.block ?_
   refine MX.seq ?_
   refine MX.region ?_
   refine RG.val' .plain (FV.move rfl) rfl ?_
   obtain ⟨s4907, hs4907, h⟩ := bind_in h
   refine RG.val' .plain (FV.addc (i := z4892) (j := 1) rfl rfl hs4907) rfl ?_
   refine RG.val' .plain (FV.assign rfl) rfl ?_
   refine RG.nil ?_
   refine MX.block ?_
   obtain ⟨o6527, ho6526, hh6528⟩ := bind_in2 h
   refine MX.loop (α := Int × Int × (List (Int × Int)) × Value × (List Value)) (fun ⟨z6516, z6517, xs6518, v6521, cs6519⟩ => [(1, .pointer (some ⟨b5, 0, none⟩)), (2, .pointer (some ⟨b10, 0, none⟩)), (3, .int .i64 ((1 + ((a0.fWide % (4 : UInt8)).toNat) : Nat) : Int)), (5, .pointer (some ⟨b20, 0, none⟩)), (6, .int .i64 z6516), (7, .int .i64 z4892), (8, .int .i64 z6517)]) (fun ⟨z6516, z6517, xs6518, v6521, cs6519⟩ wx6521 => St w wx6521 [.row w.heap.size 46 (Rep.size (Int × Int)) (.slice none 0 0) (([] : List (Int × Int)).length) [], .row w.heap.size 46 (Rep.size (Int × Int)) v6521 xs6518.length cs6519, .cells b20 [.int .i64 s15, v6521] 40, .cells b10 [.int .i64 0, (.slice none 0 0)] 40, .cells b5 [.int .u8 (a0.fWide.toNat : Int), .int .u8 (a0.fHigh.toNat : Int), .int .u16 (a0.fLess.toNat : Int), v0_3] 34] ∧ Tr wx4896 [.row w.heap.size 46 (Rep.size (Int × Int)) (.slice none 0 0) (([] : List (Int × Int)).length) [], .row w.heap.size 46 (Rep.size (Int × Int)) v4896 xs4893.length cs4894, .cells b20 [.int .i64 s15, v4896] 40, .cells b10 [.int .i64 0, (.slice none 0 0)] 40, .cells b5 [.int .u8 (a0.fWide.toNat : Int), .int .u8 (a0.fHigh.toNat : Int), .int .u16 (a0.fLess.toNat : Int), v0_3] 34] wx6521 [.row w.heap.size 46 (Rep.size (Int × Int)) (.slice none 0 0) (([] : List (Int × Int)).length) [], .row w.heap.size 46 (Rep.size (Int × Int)) v6521 xs6518.length cs6519, .cells b20 [.int .i64 s15, v6521] 40, .cells b10 [.int .i64 0, (.slice none 0 0)] 40, .cells b5 [.int .u8 (a0.fWide.toNat : Int), .int .u8 (a0.fHigh.toNat : Int), .int .u16 (a0.fLess.toNat : Int), v0_3] 34] ∧ Cells wx6521 (bl [.row w.heap.size 46 (Rep.size (Int × Int)) (.slice none 0 0) (([] : List (Int × Int)).length) [], .row w.heap.size 46 (Rep.size (Int × Int)) v6521 xs6518.length cs6519, .cells b20 [.int .i64 s15, v6521] 40, .cells b10 [.int .i64 0, (.slice none 0 0)] 40, .cells b5 [.int .u8 (a0.fWide.toNat : Int), .int .u8 (a0.fHigh.toNat : Int), .int .u16 (a0.fLess.toNat : Int), v0_3] 34] ++ L) cs6519 xs6518) (fun ⟨z6516, z6517, xs6518, v6521, cs6519⟩ => (z6516, z6517, xs6518)) (z4891, s4907, xs4893, v4896, cs4894) ho6526 ⟨rfl, rfl, rfl, rfl, rfl, rfl, rfl, trivial⟩ ⟨hS4897, Tr.refl _ _, hc4895⟩ ?_
   rintro J6529 ⟨z6516, z6517, xs6518, v6521, cs6519⟩ wx6521 hJ6530 ⟨hS6522, hT6523, hc6520⟩ h
   unfold wardmoteref18_Draft_Graph_l5 at h
   try dsimp only at h
   refine MX.seq ?_
   refine MX.seq ?_
   refine MX.region ?_
   refine RG.val' .plain (FV.move rfl) rfl ?_
   refine RG.val' .plain (FV.fieldAddr (off := 0) (by kernel_rfl) rfl) rfl ?_
   refine RG.val' .plain (FV.load1 (by kernel_rfl) rfl ((hS6522.memA (.tl (.tl .hd))) 0 _ rfl)) rfl ?_
   refine RG.val' .plain (FV.lss (i := z6517) (j := s15) rfl rfl) rfl ?_
   refine RG.nil ?_
   refine MX.ifd rfl h (fun c6531 h => ?_) (fun c6531 h => ?_)
   ·skip
    refine MX.skip ?_
    refine MX.seq ?_
    refine MX.block ?_
    refine MX.seq ?_
    refine MX.region ?_
    refine RG.val' .plain (FV.move rfl) rfl ?_
    refine RG.val' .plain (FV.move rfl) rfl ?_
    refine RG.val' .plain (FV.move rfl) rfl ?_
    obtain ⟨s6532, hs6532, h⟩ := bind_in h
    refine RG.val' .plain (FV.addc (i := z4892) (j := ((1 + ((a0.fWide % (4 : UInt8)).toNat) : Nat) : Int)) rfl rfl hs6532) rfl ?_
    refine RG.val' .plain (FV.eql (i := z6517) (j := s6532) rfl rfl) rfl ?_
    refine RG.val' .plain (FV.move rfl) rfl ?_
    refine RG.ifd (s := 46) rfl h (fun c6533 h => ?_) (fun c6533 h => ?_)
    ·skip
     refine RG.off (.no rfl rfl) rfl ?_
     refine RG.off (.no rfl rfl) rfl ?_
     refine RG.off (.no rfl rfl) rfl ?_
     refine RG.off (.no rfl rfl) rfl ?_
     refine RG.off (.no rfl rfl) rfl ?_
     refine RG.off (.undef rfl rfl) rfl ?_
     refine RG.off (.undef rfl rfl) rfl ?_
     refine RG.off (.undef rfl rfl) rfl ?_
     refine RG.off (.undef rfl rfl) rfl ?_
     refine RG.off (.no rfl rfl) rfl ?_
     refine RG.val' .plain (FV.pick_t rfl rfl) rfl ?_
     refine RG.val' .plain (FV.assign rfl) rfl ?_
     refine RG.nil ?_
     refine MX.seq ?_
     refine MX.seq ?_
     refine MX.region ?_
     refine RG.val' .plain (FV.move rfl) rfl ?_
     refine RG.nil ?_
     refine MX.cond_t rfl ?_
     refine MX.seq ?_
     refine MX.seq ?_
     refine MX.region ?_
     refine RG.val' .plain (FV.move rfl) rfl ?_
     obtain ⟨s6534, hs6534, h⟩ := bind_in h
     refine RG.val' .plain (FV.remc (i := z6516) (j := 2) rfl rfl hs6534) rfl ?_
     refine RG.val' .plain (FV.eql (i := s6534) (j := 1) rfl rfl) rfl ?_
     refine RG.val' .plain (FV.move rfl) rfl ?_
     refine RG.ifd (s := 62) rfl h (fun c6535 h => ?_) (fun c6535 h => ?_)
     ·skip
      refine RG.val' (.yes rfl rfl) (FV.fieldAddr (off := 2) (by kernel_rfl) rfl) rfl ?_
      refine RG.val' (.yes rfl rfl) (FV.load1 (by kernel_rfl) rfl ((hS6522.memA (.tl (.tl (.tl (.tl .hd))))) 2 _ rfl)) rfl ?_
      refine RG.val' (.yes rfl rfl) (FV.move rfl) rfl ?_
      obtain ⟨s6536, hs6536, h⟩ := bind_in h
      refine RG.val' (.yes rfl rfl) (FV.quoc (i := z6516) (j := 2) rfl rfl hs6536) rfl ?_
      obtain ⟨s6537, hs6537, h⟩ := bind_in h
      refine RG.val' (.yes rfl rfl) (FV.remc (i := s6536) (j := 16) rfl rfl hs6537) rfl ?_
      refine RG.val' (.yes rfl rfl) (FV.convU (i := s6537) Tryd.underlying3 Tryd.underlying68 rfl) rfl ?_
      refine RG.val' (.yes rfl rfl) (FV.shr16 (a := a0.fLess) (j := (u64of s6537).toNat) rfl rfl) rfl ?_
      refine RG.val' (.yes rfl rfl) (FV.and16 (a := shr16 a0.fLess ((u64of s6537).toNat)) (b := (1 : UInt16)) rfl rfl) rfl ?_
      refine RG.val' (.yes rfl rfl) (FV.eqlN (i := ((shr16 a0.fLess ((u64of s6537).toNat)) &&& (1 : UInt16)).toNat) (j := 1) rfl rfl) rfl ?_
      refine RG.val' .plain (FV.pick_t rfl rfl) rfl ?_
      refine RG.nil ?_
      refine MX.join (α := Bool) (fun q6539 => [(1, .pointer (some ⟨b5, 0, none⟩)), (2, .pointer (some ⟨b10, 0, none⟩)), (3, .int .i64 ((1 + ((a0.fWide % (4 : UInt8)).toNat) : Nat) : Int)), (5, .pointer (some ⟨b20, 0, none⟩)), (6, .int .i64 z6516), (7, .int .i64 z4892), (8, .int .i64 z6517), (9, .bool q6539)]) (fun q6539 wx6539 => St w wx6539 [.row w.heap.size 46 (Rep.size (Int × Int)) (.slice none 0 0) (([] : List (Int × Int)).length) [], .row w.heap.size 46 (Rep.size (Int × Int)) v6521 xs6518.length cs6519, .cells b20 [.int .i64 s15, v6521] 40, .cells b10 [.int .i64 0, (.slice none 0 0)] 40, .cells b5 [.int .u8 (a0.fWide.toNat : Int), .int .u8 (a0.fHigh.toNat : Int), .int .u16 (a0.fLess.toNat : Int), v0_3] 34] ∧ Tr wx6521 [.row w.heap.size 46 (Rep.size (Int × Int)) (.slice none 0 0) (([] : List (Int × Int)).length) [], .row w.heap.size 46 (Rep.size (Int × Int)) v6521 xs6518.length cs6519, .cells b20 [.int .i64 s15, v6521] 40, .cells b10 [.int .i64 0, (.slice none 0 0)] 40, .cells b5 [.int .u8 (a0.fWide.toNat : Int), .int .u8 (a0.fHigh.toNat : Int), .int .u16 (a0.fLess.toNat : Int), v0_3] 34] wx6539 [.row w.heap.size 46 (Rep.size (Int × Int)) (.slice none 0 0) (([] : List (Int × Int)).length) [], .row w.heap.size 46 (Rep.size (Int × Int)) v6521 xs6518.length cs6519, .cells b20 [.int .i64 s15, v6521] 40, .cells b10 [.int .i64 0, (.slice none 0 0)] 40, .cells b5 [.int .u8 (a0.fWide.toNat : Int), .int .u8 (a0.fHigh.toNat : Int), .int .u16 (a0.fLess.toNat : Int), v0_3] 34]) (fun q6539 => q6539) h ?_ ?_
      ·skip
       rintro q6539 wx6539 ⟨hS6540, hT6541⟩ h
       try dsimp only at h
       refine MX.region ?_
       refine RG.val' .plain (FV.move rfl) rfl ?_
       obtain ⟨s6545, hs6545, h⟩ := bind_in h
       refine RG.val' .plain (FV.addc (i := z6516) (j := 1) rfl rfl hs6545) rfl ?_
       refine RG.val' .plain (FV.assign rfl) rfl ?_
       refine RG.nil ?_
       refine MX.seq ?_
       refine MX.seq ?_
       refine MX.region ?_
       refine RG.val' .plain (FV.assign rfl) rfl ?_
       refine RG.nil ?_
       refine MX.block ?_
       refine MX.joinx (α := Bool) (fun q6647 => [(1, .pointer (some ⟨b5, 0, none⟩)), (2, .pointer (some ⟨b10, 0, none⟩)), (3, .int .i64 ((1 + ((a0.fWide % (4 : UInt8)).toNat) : Nat) : Int)), (5, .pointer (some ⟨b20, 0, none⟩)), (6, .int .i64 s6545), (7, .int .i64 z4892), (8, .int .i64 z6517), (9, .bool q6647)]) (fun q6647 wx6647 => St w wx6647 [.row w.heap.size 46 (Rep.size (Int × Int)) (.slice none 0 0) (([] : List (Int × Int)).length) [], .row w.heap.size 46 (Rep.size (Int × Int)) v6521 xs6518.length cs6519, .cells b20 [.int .i64 s15, v6521] 40, .cells b10 [.int .i64 0, (.slice none 0 0)] 40, .cells b5 [.int .u8 (a0.fWide.toNat : Int), .int .u8 (a0.fHigh.toNat : Int), .int .u16 (a0.fLess.toNat : Int), v0_3] 34] ∧ Tr wx6539 [.row w.heap.size 46 (Rep.size (Int × Int)) (.slice none 0 0) (([] : List (Int × Int)).length) [], .row w.heap.size 46 (Rep.size (Int × Int)) v6521 xs6518.length cs6519, .cells b20 [.int .i64 s15, v6521] 40, .cells b10 [.int .i64 0, (.slice none 0 0)] 40, .cells b5 [.int .u8 (a0.fWide.toNat : Int), .int .u8 (a0.fHigh.toNat : Int), .int .u16 (a0.fLess.toNat : Int), v0_3] 34] wx6647 [.row w.heap.size 46 (Rep.size (Int × Int)) (.slice none 0 0) (([] : List (Int × Int)).length) [], .row w.heap.size 46 (Rep.size (Int × Int)) v6521 xs6518.length cs6519, .cells b20 [.int .i64 s15, v6521] 40, .cells b10 [.int .i64 0, (.slice none 0 0)] 40, .cells b5 [.int .u8 (a0.fWide.toNat : Int), .int .u8 (a0.fHigh.toNat : Int), .int .u16 (a0.fLess.toNat : Int), v0_3] 34]) (fun q6647 => q6647) (id := 4) rfl h ?_ ?_
       ·skip
        rintro q6647 wx6647 ⟨hS6648, hT6649⟩ h
        try dsimp only at h
        refine MX.seq ?_
        refine MX.region ?_
        refine RG.val' .plain (FV.move rfl) rfl ?_
        refine RG.nil ?_
        refine MX.join (α := (List (Int × Int)) × Value × (List Value)) (fun ⟨xs6672, v6675, cs6673⟩ => [(1, .pointer (some ⟨b5, 0, none⟩)), (2, .pointer (some ⟨b10, 0, none⟩)), (3, .int .i64 ((1 + ((a0.fWide % (4 : UInt8)).toNat) : Nat) : Int)), (5, .pointer (some ⟨b20, 0, none⟩)), (6, .int .i64 s6545), (7, .int .i64 z4892), (8, .int .i64 z6517)]) (fun ⟨xs6672, v6675, cs6673⟩ wx6675 => St w wx6675 [.row w.heap.size 46 (Rep.size (Int × Int)) (.slice none 0 0) (([] : List (Int × Int)).length) [], .row w.heap.size 46 (Rep.size (Int × Int)) v6675 xs6672.length cs6673, .cells b20 [.int .i64 s15, v6675] 40, .cells b10 [.int .i64 0, (.slice none 0 0)] 40, .cells b5 [.int .u8 (a0.fWide.toNat : Int), .int .u8 (a0.fHigh.toNat : Int), .int .u16 (a0.fLess.toNat : Int), v0_3] 34] ∧ Tr wx6647 [.row w.heap.size 46 (Rep.size (Int × Int)) (.slice none 0 0) (([] : List (Int × Int)).length) [], .row w.heap.size 46 (Rep.size (Int × Int)) v6521 xs6518.length cs6519, .cells b20 [.int .i64 s15, v6521] 40, .cells b10 [.int .i64 0, (.slice none 0 0)] 40, .cells b5 [.int .u8 (a0.fWide.toNat : Int), .int .u8 (a0.fHigh.toNat : Int), .int .u16 (a0.fLess.toNat : Int), v0_3] 34] wx6675 [.row w.heap.size 46 (Rep.size (Int × Int)) (.slice none 0 0) (([] : List (Int × Int)).length) [], .row w.heap.size 46 (Rep.size (Int × Int)) v6675 xs6672.length cs6673, .cells b20 [.int .i64 s15, v6675] 40, .cells b10 [.int .i64 0, (.slice none 0 0)] 40, .cells b5 [.int .u8 (a0.fWide.toNat : Int), .int .u8 (a0.fHigh.toNat : Int), .int .u16 (a0.fLess.toNat : Int), v0_3] 34] ∧ Cells wx6675 (bl [.row w.heap.size 46 (Rep.size (Int × Int)) (.slice none 0 0) (([] : List (Int × Int)).length) [], .row w.heap.size 46 (Rep.size (Int × Int)) v6675 xs6672.length cs6673, .cells b20 [.int .i64 s15, v6675] 40, .cells b10 [.int .i64 0, (.slice none 0 0)] 40, .cells b5 [.int .u8 (a0.fWide.toNat : Int), .int .u8 (a0.fHigh.toNat : Int), .int .u16 (a0.fLess.toNat : Int), v0_3] 34] ++ L) cs6673 xs6672) (fun ⟨xs6672, v6675, cs6673⟩ => xs6672) h ?_ ?_
        ·skip
         rintro ⟨xs6672, v6675, cs6673⟩ wx6675 ⟨hS6676, hT6677, hc6674⟩ h
         try dsimp only at h
         refine MX.inBlock ?_
         refine MX.region ?_
         refine RG.val' .plain (FV.move rfl) rfl ?_
         obtain ⟨s6681, hs6681, h⟩ := bind_in h
         refine RG.val' .plain (FV.addc (i := z6517) (j := 1) rfl rfl hs6681) rfl ?_
         refine RG.val' .plain (FV.assign rfl) rfl ?_
         refine RG.nil ?_
         exact hJ6530 (s6545, s6681, xs6672, v6675, cs6673) _ _ ⟨rfl, rfl, rfl, rfl, rfl, rfl, rfl, trivial⟩ ⟨hS6676, (Tr.trans hT6523 (Tr.trans hT6541 (Tr.trans hT6649 hT6677))), hc6674⟩ h
        ·skip
         intro J6679 hJ6680 h
         try dsimp only at h
         refine MX.ifb rfl h (fun c6682 h => ?_) (fun c6682 h => ?_)
         ·skip
          refine MX.region ?_
          refine RG.val' .plain (FV.fieldAddr (off := 1) (by kernel_rfl) rfl) rfl ?_
          refine RG.val' .plain (FV.load1 (by kernel_rfl) rfl ((hS6648.memA (.tl (.tl .hd))) 1 _ rfl)) rfl ?_
          refine RG.val' .plain (FV.move rfl) rfl ?_
          refine RG.val' .plain (FV.move rfl) rfl ?_
          refine RG.val' .plain (FV.buildV (vs := [.int .i64 z4892, .int .i64 z6517]) (u := .agg #[.int .i64 z4892, .int .i64 z6517]) (evs_cons rfl (evs_cons rfl evs_nil)) (fun w9 => by kernel_rfl)) rfl ?_
          refine RG.new .plain rfl (Does.build (α := Int × Int) (xs := ([(z4892, z6517)] : List (Int × Int))) (vs := [.agg #[.int .i64 z4892, .int .i64 z6517]]) (ds' := [.int .i64 z4892, .int .i64 z6517]) rfl hS6648 el38 rfl (evs_cons rfl evs_nil) (by kernel_rfl) rfl) (fun w6684 b6687 hS6685 hT6686 => ?_)
          have hc6688 : Cells w6684 (bl [.row w.heap.size 46 (Rep.size (Int × Int)) (.slice (some ⟨b6687, 0, none⟩) 1 1) (([(z4892, z6517)] : List (Int × Int)).length) [.int .i64 z4892, .int .i64 z6517], .row w.heap.size 46 (Rep.size (Int × Int)) (.slice none 0 0) (([] : List (Int × Int)).length) [], .row w.heap.size 46 (Rep.size (Int × Int)) v6521 xs6518.length cs6519, .cells b20 [.int .i64 s15, v6521] 40, .cells b10 [.int .i64 0, (.slice none 0 0)] 40, .cells b5 [.int .u8 (a0.fWide.toNat : Int), .int .u8 (a0.fHigh.toNat : Int), .int .u16 (a0.fLess.toNat : Int), v0_3] 34] ++ L) [.int .i64 z4892, .int .i64 z6517] (([(z4892, z6517)] : List (Int × Int)) : List (Int × Int)) := Cells.cons (cs := [.int .i64 z4892, .int .i64 z6517]) (ds := []) (mk_A46 z4892 z6517) (Cells.nil _ _)
          obtain ⟨xs6689, hxs6689, h⟩ := bind_in h
          have hm6690 := Cells.mv hc6520 (Tr.trans hT6541 (Tr.trans hT6649 hT6686))
          refine RG.doesL .plain rfl (DoesL.app (α := Int × Int) (ys := ([(z4892, z6517)] : List (Int × Int))) (F := fun v' cs' => [.row w.heap.size 46 (Rep.size (Int × Int)) (.slice (some ⟨b6687, 0, none⟩) 1 1) (([(z4892, z6517)] : List (Int × Int)).length) [.int .i64 z4892, .int .i64 z6517], .row w.heap.size 46 (Rep.size (Int × Int)) (.slice none 0 0) (([] : List (Int × Int)).length) [], .row w.heap.size 46 (Rep.size (Int × Int)) v' xs6689.length cs', .cells b20 [.int .i64 s15, v6521] 40, .cells b10 [.int .i64 0, (.slice none 0 0)] 40, .cells b5 [.int .u8 (a0.fWide.toNat : Int), .int .u8 (a0.fHigh.toNat : Int), .int .u16 (a0.fLess.toNat : Int), v0_3] 34]) hxs6689 hS6685 (fun _ _ => (.tl (.tl .hd))) el38 rfl rfl hm6690 (Src.row (α := Int × Int) hS6685 .hd hc6688)) (fun v6696 w6691 ⟨cs6695, hS6692, hT6693, hc6694⟩ => ?_)
          refine RG.val' .plain (FV.fieldAddr (off := 1) (by kernel_rfl) rfl) rfl ?_
          refine RG.now .plain (Acts.store (j := 1) (old := [.int .i64 s15, v6521]) (news := [v6696]) (new' := [.int .i64 s15, v6696]) hS6692 (.tl (.tl (.tl .hd))) rfl rfl rfl (St.c1 (α := Int × Int) hS6692 (.tl (.tl .hd))) rfl rfl (ones_cons (St.o1 (α := Int × Int) hS6692 (.tl (.tl .hd))) ones_nil) rfl) (fun w6698 hS6699 hT6700 => ?_)
          refine RG.nil ?_
          have hS6701 : St _ _ [.row w.heap.size 46 (Rep.size (Int × Int)) (.slice none 0 0) (([] : List (Int × Int)).length) [], .row w.heap.size 46 (Rep.size (Int × Int)) v6696 xs6689.length cs6695, .cells b20 [.int .i64 s15, v6696] 40, .cells b10 [.int .i64 0, (.slice none 0 0)] 40, .cells b5 [.int .u8 (a0.fWide.toNat : Int), .int .u8 (a0.fHigh.toNat : Int), .int .u16 (a0.fLess.toNat : Int), v0_3] 34] := hS6699.arr (.one (.tl .hd) (.one (.tl .hd) (.one (.tl .hd) (.one (.tl .hd) (.one (.tl .hd) .done)))))
          have hT6702 : Tr w6698 _ w6698 [.row w.heap.size 46 (Rep.size (Int × Int)) (.slice none 0 0) (([] : List (Int × Int)).length) [], .row w.heap.size 46 (Rep.size (Int × Int)) v6696 xs6689.length cs6695, .cells b20 [.int .i64 s15, v6696] 40, .cells b10 [.int .i64 0, (.slice none 0 0)] 40, .cells b5 [.int .u8 (a0.fWide.toNat : Int), .int .u8 (a0.fHigh.toNat : Int), .int .u16 (a0.fLess.toNat : Int), v0_3] 34] := Tr.arr (St.arrOf hS6699 (.one (.tl .hd) (.one (.tl .hd) (.one (.tl .hd) (.one (.tl .hd) (.one (.tl .hd) .done))))))
          have hm6703 := Cells.mv hc6694 (Tr.trans hT6700 hT6702)
          exact hJ6680 (xs6689, v6696, cs6695) _ _ ⟨rfl, rfl, rfl, rfl, rfl, rfl, rfl, trivial⟩ ⟨hS6701, (Tr.trans hT6686 (Tr.trans hT6693 (Tr.trans hT6700 hT6702))), hm6703⟩ h
         ·skip
          refine MX.skip ?_
          have hm6704 := Cells.mv hc6520 (Tr.trans hT6541 hT6649)
          exact hJ6680 (xs6518, v6521, cs6519) _ _ ⟨rfl, rfl, rfl, rfl, rfl, rfl, rfl, trivial⟩ ⟨hS6648, Tr.refl _ _, hm6704⟩ h
       ·skip
        intro J6651 hJ6652 h
        try dsimp only at h
        obtain ⟨o6740, ho6739, hh6741⟩ := bind_in2 h
        refine MX.loop (α := Bool × Nat) (fun ⟨q6733, i6734⟩ => [(1, .pointer (some ⟨b5, 0, none⟩)), (2, .pointer (some ⟨b10, 0, none⟩)), (3, .int .i64 ((1 + ((a0.fWide % (4 : UInt8)).toNat) : Nat) : Int)), (5, .pointer (some ⟨b20, 0, none⟩)), (6, .int .i64 s6545), (7, .int .i64 z4892), (8, .int .i64 z6517), (9, .bool q6733), (10, .int .i64 ((i6734 : Nat) : Int))]) (fun ⟨q6733, i6734⟩ wx6734 => St w wx6734 [.row w.heap.size 46 (Rep.size (Int × Int)) (.slice none 0 0) (([] : List (Int × Int)).length) [], .row w.heap.size 46 (Rep.size (Int × Int)) v6521 xs6518.length cs6519, .cells b20 [.int .i64 s15, v6521] 40, .cells b10 [.int .i64 0, (.slice none 0 0)] 40, .cells b5 [.int .u8 (a0.fWide.toNat : Int), .int .u8 (a0.fHigh.toNat : Int), .int .u16 (a0.fLess.toNat : Int), v0_3] 34] ∧ Tr wx6539 [.row w.heap.size 46 (Rep.size (Int × Int)) (.slice none 0 0) (([] : List (Int × Int)).length) [], .row w.heap.size 46 (Rep.size (Int × Int)) v6521 xs6518.length cs6519, .cells b20 [.int .i64 s15, v6521] 40, .cells b10 [.int .i64 0, (.slice none 0 0)] 40, .cells b5 [.int .u8 (a0.fWide.toNat : Int), .int .u8 (a0.fHigh.toNat : Int), .int .u16 (a0.fLess.toNat : Int), v0_3] 34] wx6734 [.row w.heap.size 46 (Rep.size (Int × Int)) (.slice none 0 0) (([] : List (Int × Int)).length) [], .row w.heap.size 46 (Rep.size (Int × Int)) v6521 xs6518.length cs6519, .cells b20 [.int .i64 s15, v6521] 40, .cells b10 [.int .i64 0, (.slice none 0 0)] 40, .cells b5 [.int .u8 (a0.fWide.toNat : Int), .int .u8 (a0.fHigh.toNat : Int), .int .u16 (a0.fLess.toNat : Int), v0_3] 34]) (fun ⟨q6733, i6734⟩ => (q6733, i6734)) (q6539, 0) ho6739 ⟨rfl, rfl, rfl, rfl, rfl, rfl, rfl, rfl, rfl, trivial⟩ ⟨hS6540, Tr.refl _ _⟩ ?_
        rintro J6742 ⟨q6733, i6734⟩ wx6734 hJ6743 ⟨hS6735, hT6736⟩ h
        unfold wardmoteref18_Draft_Graph_l1 at h
        try dsimp only at h
        refine MX.seq ?_
        refine MX.seq ?_
        refine MX.region ?_
        refine RG.val' .plain (FV.move rfl) rfl ?_
        refine RG.val' .plain (FV.fieldAddr (off := 3) (by kernel_rfl) rfl) rfl ?_
        refine RG.val' .plain (FV.load1 (by kernel_rfl) rfl ((hS6735.memA (.tl (.tl (.tl (.tl .hd))))) 3 _ rfl)) rfl ?_
        have hm6745 := Rep.mv h0_3 (Tr.trans hT4 (Tr.trans hT9 (Tr.trans hT19 (Tr.trans hT23 (Tr.trans hT26 (Tr.trans hT30 (Tr.trans hT4898 (Tr.trans hT6523 (Tr.trans hT6541 hT6736)))))))))
        have hl6744 : a0.fMore.length ≤ 281474976710656 := Rep.lenle hm6745
        refine RG.val' .plain (FV.len (xs := a0.fMore) Tryd.underlying32 rfl hm6745) rfl ?_
        refine RG.val' .plain (FV.lssN (i := i6734) (j := a0.fMore.length) rfl rfl) rfl ?_
        refine RG.val' .plain (FV.move rfl) rfl ?_
        refine RG.ifd (s := 80) rfl h (fun c6746 h => ?_) (fun c6746 h => ?_)
        ·skip
         refine RG.val' (.yes rfl rfl) (FV.move rfl) rfl ?_
         refine RG.val' (.yes rfl rfl) (FV.lssN (i := i6734) (j := 3) rfl rfl) rfl ?_
         refine RG.val' .plain (FV.pick_t rfl rfl) rfl ?_
         refine RG.nil ?_
         refine MX.ifd rfl h (fun c6747 h => ?_) (fun c6747 h => ?_)
         ·skip
          refine MX.skip ?_
          refine MX.seq ?_
          refine MX.block ?_
          refine MX.seq ?_
          refine MX.drawT 22 tb13_18 (by kernel_rfl) (by kernel_rfl) (by kernel_rfl) (fun kt6748 kp6749 => ?_)
          refine RD.vP 0 1 kt6748 rfl kp6749 .plain (fun _ => FV.fieldAddr (off := 3) (by kernel_rfl) rfl) rfl ?_
          refine RD.val (i := 1) (m' := 3) (W := 3146360) (takeC_ok kt6748 (by kernel_rfl)) rfl kp6749 .plain (FV.load1 (by kernel_rfl) rfl ((hS6735.memA (.tl (.tl (.tl (.tl .hd))))) 3 _ rfl)) rfl ?_
          refine RD.vP 2 7 kt6748 rfl kp6749 .plain (fun _ => FV.move rfl) rfl ?_
          obtain ⟨x6750, hx6750, h⟩ := bind_in h
          obtain ⟨A6751, c6752, he6753, hk6754, cs6755, hr6756, hm6757⟩ := Rep.nth hm6745 hx6750
          obtain rfl := op_A69 hr6756
          refine RD.vP 3 15 kt6748 rfl kp6749 .plain (fun _ => FV.idxAddr (m := 2) (i := i6734) (by kernel_rfl) rfl he6753 rfl rfl hk6754) rfl ?_
          refine RD.vP 4 31 kt6748 rfl kp6749 .plain (fun _ => FV.indexArr (m := 1) (k := 0) (len := 2) (by kernel_rfl) rfl rfl rfl (by omega)) rfl ?_
          refine RD.val (i := 5) (m' := 63) (W := 3146304) (takeC_ok kt6748 (by kernel_rfl)) rfl kp6749 .plain (FV.load1 (by kernel_rfl) rfl (hm6757 0 _ rfl)) rfl ?_
          have hu6758 := x6750.1.toNat_lt
          refine RD.vP 6 127 kt6748 rfl kp6749 .plain (fun _ => FV.convN (i := x6750.1.toNat) Tryd.underlying5 Tryd.underlying3 rfl (by omega)) rfl ?_
          refine RD.vP 7 255 kt6748 rfl kp6749 .plain (fun _ => FV.fieldAddr (off := 0) (by kernel_rfl) rfl) rfl ?_
          refine RD.val (i := 8) (m' := 511) (W := 3146240) (takeC_ok kt6748 (by kernel_rfl)) rfl kp6749 .plain (FV.load1 (by kernel_rfl) rfl ((hS6735.memA (.tl (.tl .hd))) 0 _ rfl)) rfl ?_
          obtain ⟨s6759, hs6759, h⟩ := bind_in h
          refine RD.vP 9 1023 kt6748 rfl kp6749 .plain (fun _ => FV.remc (i := ((x6750.1.toNat : Nat) : Int)) (j := s15) rfl rfl hs6759) rfl ?_
          refine RD.vP 10 2047 kt6748 rfl kp6749 .plain (fun _ => FV.fieldAddr (off := 3) (by kernel_rfl) rfl) rfl ?_
          refine RD.val (i := 11) (m' := 4095) (W := 2744320) (takeC_ok kt6748 (by kernel_rfl)) rfl kp6749 .plain (FV.load1 (by kernel_rfl) rfl ((hS6735.memA (.tl (.tl (.tl (.tl .hd))))) 3 _ rfl)) rfl ?_
          refine RD.vP 12 8191 kt6748 rfl kp6749 .plain (fun _ => FV.move rfl) rfl ?_
          refine RD.vP 13 16383 kt6748 rfl kp6749 .plain (fun _ => FV.idxAddr (m := 2) (i := i6734) (by kernel_rfl) rfl he6753 rfl rfl hk6754) rfl ?_
          refine RD.vP 14 32767 kt6748 rfl kp6749 .plain (fun _ => FV.indexArr (m := 1) (k := 1) (len := 2) (by kernel_rfl) rfl rfl rfl (by omega)) rfl ?_
          refine RD.val (i := 15) (m' := 65535) (W := 2686976) (takeC_ok kt6748 (by kernel_rfl)) rfl kp6749 .plain (FV.load1 (by kernel_rfl) rfl (hm6757 1 _ rfl)) rfl ?_
          have hu6760 := x6750.2.toNat_lt
          refine RD.vP 16 131071 kt6748 rfl kp6749 .plain (fun _ => FV.convN (i := x6750.2.toNat) Tryd.underlying5 Tryd.underlying3 rfl (by omega)) rfl ?_
          refine RD.vP 17 262143 kt6748 rfl kp6749 .plain (fun _ => FV.fieldAddr (off := 0) (by kernel_rfl) rfl) rfl ?_
          refine RD.val (i := 18) (m' := 524287) (W := 2621440) (takeC_ok kt6748 (by kernel_rfl)) rfl kp6749 .plain (FV.load1 (by kernel_rfl) rfl ((hS6735.memA (.tl (.tl .hd))) 0 _ rfl)) rfl ?_
          obtain ⟨s6761, hs6761, h⟩ := bind_in h
          refine RD.vP 19 1048575 kt6748 rfl kp6749 .plain (fun _ => FV.remc (i := ((x6750.2.toNat : Nat) : Int)) (j := s15) rfl rfl hs6761) rfl ?_
          refine RD.vP 20 2097151 kt6748 rfl kp6749 .plain (fun _ => FV.assign rfl) rfl ?_
          refine RD.vP 21 4194303 kt6748 rfl kp6749 .plain (fun _ => FV.assign rfl) rfl ?_
          refine RD.done (doneD_ok kt6748 (by kernel_rfl)) ?_
          refine MX.region ?_
          refine RG.val' .plain (FV.move rfl) rfl ?_
          refine RG.val' .plain (FV.move rfl) rfl ?_
          refine RG.ifb (s := 107) rfl h (fun c6762 h => ?_) (fun c6762 h => ?_)
          ·skip
           refine RG.off (.no rfl rfl) rfl ?_
           refine RG.off (.no rfl rfl) rfl ?_
           refine RG.off (.no rfl rfl) rfl ?_
           refine RG.off (.no rfl rfl) rfl ?_
           refine RG.off (.undef rfl rfl) rfl ?_
           refine RG.off (.undef rfl rfl) rfl ?_
           refine RG.off (.undef rfl rfl) rfl ?_
           refine RG.off (.no rfl rfl) rfl ?_
           refine RG.val' .plain (FV.pick_t rfl rfl) rfl ?_
           refine RG.val' .plain (FV.move rfl) rfl ?_
           refine RG.off (.no rfl rfl) rfl ?_
           refine RG.off (.no rfl rfl) rfl ?_
           refine RG.off (.no rfl rfl) rfl ?_
           refine RG.off (.no rfl rfl) rfl ?_
           refine RG.off (.undef rfl rfl) rfl ?_
           refine RG.off (.undef rfl rfl) rfl ?_
           refine RG.off (.undef rfl rfl) rfl ?_
           refine RG.off (.no rfl rfl) rfl ?_
           refine RG.val' .plain (FV.pick_t rfl rfl) rfl ?_
           refine RG.val' .plain (FV.assign rfl) rfl ?_
           refine RG.nil ?_
           refine MX.inBlock ?_
           refine MX.region ?_
           refine RG.val' .plain (FV.move rfl) rfl ?_
           refine RG.val' .plain (FV.addN (i := i6734) (j := 1) rfl rfl (by omega)) rfl ?_
           refine RG.val' .plain (FV.assign rfl) rfl ?_
           refine RG.nil ?_
           exact hJ6743 (true, i6734 + 1) _ _ ⟨rfl, rfl, rfl, rfl, rfl, rfl, rfl, rfl, rfl, trivial⟩ ⟨hS6735, hT6736⟩ h
          ·skip
           refine RG.val' (.yes rfl rfl) (FV.move rfl) rfl ?_
           refine RG.val' (.yes rfl rfl) (FV.move rfl) rfl ?_
           refine RG.val' (.yes rfl rfl) (FV.eql (i := s6759) (j := z4892) rfl rfl) rfl ?_
           refine RG.val' (.yes rfl rfl) (FV.move rfl) rfl ?_
           refine RG.ifd (s := 111) rfl h (fun c6763 h => ?_) (fun c6763 h => ?_)
           ·skip
            refine RG.val' (.yes rfl rfl) (FV.move rfl) rfl ?_
            refine RG.val' (.yes rfl rfl) (FV.move rfl) rfl ?_
            refine RG.val' (.yes rfl rfl) (FV.eql (i := s6761) (j := z6517) rfl rfl) rfl ?_
            refine RG.val' (.yes rfl rfl) (FV.pick_t rfl rfl) rfl ?_
            refine RG.val' .plain (FV.pick_f rfl rfl) rfl ?_
            refine RG.val' .plain (FV.move rfl) rfl ?_
            refine RG.ifd (s := 117) rfl h (fun c6764 h => ?_) (fun c6764 h => ?_)
            ·skip
             refine RG.off (.no rfl rfl) rfl ?_
             refine RG.off (.no rfl rfl) rfl ?_
             refine RG.off (.no rfl rfl) rfl ?_
             refine RG.off (.no rfl rfl) rfl ?_
             refine RG.off (.undef rfl rfl) rfl ?_
             refine RG.off (.undef rfl rfl) rfl ?_
             refine RG.off (.undef rfl rfl) rfl ?_
             refine RG.off (.no rfl rfl) rfl ?_
             refine RG.val' .plain (FV.pick_t rfl rfl) rfl ?_
             refine RG.val' .plain (FV.assign rfl) rfl ?_
             refine RG.nil ?_
             refine MX.inBlock ?_
             refine MX.region ?_
             refine RG.val' .plain (FV.move rfl) rfl ?_
             refine RG.val' .plain (FV.addN (i := i6734) (j := 1) rfl rfl (by omega)) rfl ?_
             refine RG.val' .plain (FV.assign rfl) rfl ?_
             refine RG.nil ?_
             exact hJ6743 (true, i6734 + 1) _ _ ⟨rfl, rfl, rfl, rfl, rfl, rfl, rfl, rfl, rfl, trivial⟩ ⟨hS6735, hT6736⟩ h
            ·skip
             refine RG.val' (.yes rfl rfl) (FV.move rfl) rfl ?_
             refine RG.val' (.yes rfl rfl) (FV.move rfl) rfl ?_
             refine RG.val' (.yes rfl rfl) (FV.eql (i := s6759) (j := z6517) rfl rfl) rfl ?_
             refine RG.val' (.yes rfl rfl) (FV.move rfl) rfl ?_
             refine RG.ifd (s := 121) rfl h (fun c6765 h => ?_) (fun c6765 h => ?_)
             ·skip
              refine RG.val' (.yes rfl rfl) (FV.move rfl) rfl ?_
              refine RG.val' (.yes rfl rfl) (FV.move rfl) rfl ?_
              refine RG.val' (.yes rfl rfl) (FV.eql (i := s6761) (j := z4892) rfl rfl) rfl ?_
              refine RG.val' (.yes rfl rfl) (FV.pick_t rfl rfl) rfl ?_
              refine RG.val' .plain (FV.pick_f rfl rfl) rfl ?_
              refine RG.val' .plain (FV.assign rfl) rfl ?_
              refine RG.nil ?_
              refine MX.inBlock ?_
              refine MX.region ?_
              refine RG.val' .plain (FV.move rfl) rfl ?_
              refine RG.val' .plain (FV.addN (i := i6734) (j := 1) rfl rfl (by omega)) rfl ?_
              refine RG.val' .plain (FV.assign rfl) rfl ?_
              refine RG.nil ?_
              exact hJ6743 ((decide (s6761 = z4892)), i6734 + 1) _ _ ⟨rfl, rfl, rfl, rfl, rfl, rfl, rfl, rfl, rfl, trivial⟩ ⟨hS6735, hT6736⟩ h
             ·skip
              refine RG.off (.no rfl rfl) rfl ?_
              refine RG.off (.no rfl rfl) rfl ?_
              refine RG.off (.no rfl rfl) rfl ?_
              refine RG.val' (.yes rfl rfl) (FV.pick_f rfl rfl) rfl ?_
              refine RG.val' .plain (FV.pick_f rfl rfl) rfl ?_
              refine RG.val' .plain (FV.assign rfl) rfl ?_
              refine RG.nil ?_
              refine MX.inBlock ?_
              refine MX.region ?_
              refine RG.val' .plain (FV.move rfl) rfl ?_
              refine RG.val' .plain (FV.addN (i := i6734) (j := 1) rfl rfl (by omega)) rfl ?_
              refine RG.val' .plain (FV.assign rfl) rfl ?_
              refine RG.nil ?_
              exact hJ6743 (false, i6734 + 1) _ _ ⟨rfl, rfl, rfl, rfl, rfl, rfl, rfl, rfl, rfl, trivial⟩ ⟨hS6735, hT6736⟩ h
           ·skip
            refine RG.off (.no rfl rfl) rfl ?_
            refine RG.off (.no rfl rfl) rfl ?_
            refine RG.off (.no rfl rfl) rfl ?_
            refine RG.val' (.yes rfl rfl) (FV.pick_f rfl rfl) rfl ?_
            refine RG.val' .plain (FV.pick_f rfl rfl) rfl ?_
            refine RG.val' .plain (FV.move rfl) rfl ?_
            refine RG.val' (.yes rfl rfl) (FV.move rfl) rfl ?_
            refine RG.val' (.yes rfl rfl) (FV.move rfl) rfl ?_
            refine RG.val' (.yes rfl rfl) (FV.eql (i := s6759) (j := z6517) rfl rfl) rfl ?_
            refine RG.val' (.yes rfl rfl) (FV.move rfl) rfl ?_
            refine RG.ifd (s := 121) rfl h (fun c6766 h => ?_) (fun c6766 h => ?_)
            ·skip
             refine RG.val' (.yes rfl rfl) (FV.move rfl) rfl ?_
             refine RG.val' (.yes rfl rfl) (FV.move rfl) rfl ?_
             refine RG.val' (.yes rfl rfl) (FV.eql (i := s6761) (j := z4892) rfl rfl) rfl ?_
             refine RG.val' (.yes rfl rfl) (FV.pick_t rfl rfl) rfl ?_
             refine RG.val' .plain (FV.pick_f rfl rfl) rfl ?_
             refine RG.val' .plain (FV.assign rfl) rfl ?_
             refine RG.nil ?_
             refine MX.inBlock ?_
             refine MX.region ?_
             refine RG.val' .plain (FV.move rfl) rfl ?_
             refine RG.val' .plain (FV.addN (i := i6734) (j := 1) rfl rfl (by omega)) rfl ?_
             refine RG.val' .plain (FV.assign rfl) rfl ?_
             refine RG.nil ?_
             exact hJ6743 ((decide (s6761 = z4892)), i6734 + 1) _ _ ⟨rfl, rfl, rfl, rfl, rfl, rfl, rfl, rfl, rfl, trivial⟩ ⟨hS6735, hT6736⟩ h
            ·skip
             refine RG.off (.no rfl rfl) rfl ?_
             refine RG.off (.no rfl rfl) rfl ?_
             refine RG.off (.no rfl rfl) rfl ?_
             refine RG.val' (.yes rfl rfl) (FV.pick_f rfl rfl) rfl ?_
             refine RG.val' .plain (FV.pick_f rfl rfl) rfl ?_
             refine RG.val' .plain (FV.assign rfl) rfl ?_
             refine RG.nil ?_
             refine MX.inBlock ?_
             refine MX.region ?_
             refine RG.val' .plain (FV.move rfl) rfl ?_
             refine RG.val' .plain (FV.addN (i := i6734) (j := 1) rfl rfl (by omega)) rfl ?_
             refine RG.val' .plain (FV.assign rfl) rfl ?_
             refine RG.nil ?_
             exact hJ6743 (false, i6734 + 1) _ _ ⟨rfl, rfl, rfl, rfl, rfl, rfl, rfl, rfl, rfl, trivial⟩ ⟨hS6735, hT6736⟩ h
         ·skip
          refine MX.exit rfl ?_
          have h := hh6741 _ h
          try dsimp only at h
          exact hJ6652 q6733 _ _ ⟨rfl, rfl, rfl, rfl, rfl, rfl, rfl, rfl, trivial⟩ ⟨hS6735, hT6736⟩ h
        ·skip
         refine RG.off (.no rfl rfl) rfl ?_
         refine RG.off (.no rfl rfl) rfl ?_
         refine RG.val' .plain (FV.pick_f rfl rfl) rfl ?_
         refine RG.nil ?_
         refine MX.cond_f rfl ?_
         refine MX.exit rfl ?_
         have h := hh6741 _ h
         try dsimp only at h
         exact hJ6652 q6733 _ _ ⟨rfl, rfl, rfl, rfl, rfl, rfl, rfl, rfl, trivial⟩ ⟨hS6735, hT6736⟩ h
      ·skip
       intro J6543 hJ6544 h
       try dsimp only at h
       refine MX.ifd rfl h (fun c6767 h => ?_) (fun c6767 h => ?_)
       ·skip
        refine MX.region ?_
        refine RG.val' .plain (FV.assign rfl) rfl ?_
        refine RG.nil ?_
        exact hJ6544 false _ _ ⟨rfl, rfl, rfl, rfl, rfl, rfl, rfl, rfl, trivial⟩ ⟨hS6522, Tr.refl _ _⟩ h
       ·skip
        refine MX.skip ?_
        exact hJ6544 true _ _ ⟨rfl, rfl, rfl, rfl, rfl, rfl, rfl, rfl, trivial⟩ ⟨hS6522, Tr.refl _ _⟩ h
     ·skip
      refine RG.off (.no rfl rfl) rfl ?_
      refine RG.off (.no rfl rfl) rfl ?_
      refine RG.off (.no rfl rfl) rfl ?_
      refine RG.off (.no rfl rfl) rfl ?_
      refine RG.off (.no rfl rfl) rfl ?_
      refine RG.off (.no rfl rfl) rfl ?_
      refine RG.off (.no rfl rfl) rfl ?_
      refine RG.off (.no rfl rfl) rfl ?_
      refine RG.off (.no rfl rfl) rfl ?_
      refine RG.val' .plain (FV.pick_f rfl rfl) rfl ?_
      refine RG.nil ?_
      refine MX.cond_f rfl ?_
      refine MX.skip ?_
      refine MX.region ?_
      refine RG.val' .plain (FV.move rfl) rfl ?_
      obtain ⟨s6768, hs6768, h⟩ := bind_in h
      refine RG.val' .plain (FV.addc (i := z6516) (j := 1) rfl rfl hs6768) rfl ?_
      refine RG.val' .plain (FV.assign rfl) rfl ?_
      refine RG.nil ?_
      refine MX.seq ?_
      refine MX.seq ?_
      refine MX.region ?_
      refine RG.val' .plain (FV.assign rfl) rfl ?_
      refine RG.nil ?_
      refine MX.block ?_
      refine MX.joinx (α := Bool) (fun q6870 => [(1, .pointer (some ⟨b5, 0, none⟩)), (2, .pointer (some ⟨b10, 0, none⟩)), (3, .int .i64 ((1 + ((a0.fWide % (4 : UInt8)).toNat) : Nat) : Int)), (5, .pointer (some ⟨b20, 0, none⟩)), (6, .int .i64 s6768), (7, .int .i64 z4892), (8, .int .i64 z6517), (9, .bool q6870)]) (fun q6870 wx6870 => St w wx6870 [.row w.heap.size 46 (Rep.size (Int × Int)) (.slice none 0 0) (([] : List (Int × Int)).length) [], .row w.heap.size 46 (Rep.size (Int × Int)) v6521 xs6518.length cs6519, .cells b20 [.int .i64 s15, v6521] 40, .cells b10 [.int .i64 0, (.slice none 0 0)] 40, .cells b5 [.int .u8 (a0.fWide.toNat : Int), .int .u8 (a0.fHigh.toNat : Int), .int .u16 (a0.fLess.toNat : Int), v0_3] 34] ∧ Tr wx6521 [.row w.heap.size 46 (Rep.size (Int × Int)) (.slice none 0 0) (([] : List (Int × Int)).length) [], .row w.heap.size 46 (Rep.size (Int × Int)) v6521 xs6518.length cs6519, .cells b20 [.int .i64 s15, v6521] 40, .cells b10 [.int .i64 0, (.slice none 0 0)] 40, .cells b5 [.int .u8 (a0.fWide.toNat : Int), .int .u8 (a0.fHigh.toNat : Int), .int .u16 (a0.fLess.toNat : Int), v0_3] 34] wx6870 [.row w.heap.size 46 (Rep.size (Int × Int)) (.slice none 0 0) (([] : List (Int × Int)).length) [], .row w.heap.size 46 (Rep.size (Int × Int)) v6521 xs6518.length cs6519, .cells b20 [.int .i64 s15, v6521] 40, .cells b10 [.int .i64 0, (.slice none 0 0)] 40, .cells b5 [.int .u8 (a0.fWide.toNat : Int), .int .u8 (a0.fHigh.toNat : Int), .int .u16 (a0.fLess.toNat : Int), v0_3] 34]) (fun q6870 => q6870) (id := 4) rfl h ?_ ?_
      ·skip
       rintro q6870 wx6870 ⟨hS6871, hT6872⟩ h
       try dsimp only at h
       refine MX.seq ?_
       refine MX.region ?_
       refine RG.val' .plain (FV.move rfl) rfl ?_
       refine RG.nil ?_
       refine MX.join (α := (List (Int × Int)) × Value × (List Value)) (fun ⟨xs6895, v6898, cs6896⟩ => [(1, .pointer (some ⟨b5, 0, none⟩)), (2, .pointer (some ⟨b10, 0, none⟩)), (3, .int .i64 ((1 + ((a0.fWide % (4 : UInt8)).toNat) : Nat) : Int)), (5, .pointer (some ⟨b20, 0, none⟩)), (6, .int .i64 s6768), (7, .int .i64 z4892), (8, .int .i64 z6517)]) (fun ⟨xs6895, v6898, cs6896⟩ wx6898 => St w wx6898 [.row w.heap.size 46 (Rep.size (Int × Int)) (.slice none 0 0) (([] : List (Int × Int)).length) [], .row w.heap.size 46 (Rep.size (Int × Int)) v6898 xs6895.length cs6896, .cells b20 [.int .i64 s15, v6898] 40, .cells b10 [.int .i64 0, (.slice none 0 0)] 40, .cells b5 [.int .u8 (a0.fWide.toNat : Int), .int .u8 (a0.fHigh.toNat : Int), .int .u16 (a0.fLess.toNat : Int), v0_3] 34] ∧ Tr wx6870 [.row w.heap.size 46 (Rep.size (Int × Int)) (.slice none 0 0) (([] : List (Int × Int)).length) [], .row w.heap.size 46 (Rep.size (Int × Int)) v6521 xs6518.length cs6519, .cells b20 [.int .i64 s15, v6521] 40, .cells b10 [.int .i64 0, (.slice none 0 0)] 40, .cells b5 [.int .u8 (a0.fWide.toNat : Int), .int .u8 (a0.fHigh.toNat : Int), .int .u16 (a0.fLess.toNat : Int), v0_3] 34] wx6898 [.row w.heap.size 46 (Rep.size (Int × Int)) (.slice none 0 0) (([] : List (Int × Int)).length) [], .row w.heap.size 46 (Rep.size (Int × Int)) v6898 xs6895.length cs6896, .cells b20 [.int .i64 s15, v6898] 40, .cells b10 [.int .i64 0, (.slice none 0 0)] 40, .cells b5 [.int .u8 (a0.fWide.toNat : Int), .int .u8 (a0.fHigh.toNat : Int), .int .u16 (a0.fLess.toNat : Int), v0_3] 34] ∧ Cells wx6898 (bl [.row w.heap.size 46 (Rep.size (Int × Int)) (.slice none 0 0) (([] : List (Int × Int)).length) [], .row w.heap.size 46 (Rep.size (Int × Int)) v6898 xs6895.length cs6896, .cells b20 [.int .i64 s15, v6898] 40, .cells b10 [.int .i64 0, (.slice none 0 0)] 40, .cells b5 [.int .u8 (a0.fWide.toNat : Int), .int .u8 (a0.fHigh.toNat : Int), .int .u16 (a0.fLess.toNat : Int), v0_3] 34] ++ L) cs6896 xs6895) (fun ⟨xs6895, v6898, cs6896⟩ => xs6895) h ?_ ?_
       ·skip
        rintro ⟨xs6895, v6898, cs6896⟩ wx6898 ⟨hS6899, hT6900, hc6897⟩ h
        try dsimp only at h
        refine MX.inBlock ?_
        refine MX.region ?_
        refine RG.val' .plain (FV.move rfl) rfl ?_
        obtain ⟨s6904, hs6904, h⟩ := bind_in h
        refine RG.val' .plain (FV.addc (i := z6517) (j := 1) rfl rfl hs6904) rfl ?_
        refine RG.val' .plain (FV.assign rfl) rfl ?_
        refine RG.nil ?_
        exact hJ6530 (s6768, s6904, xs6895, v6898, cs6896) _ _ ⟨rfl, rfl, rfl, rfl, rfl, rfl, rfl, trivial⟩ ⟨hS6899, (Tr.trans hT6523 (Tr.trans hT6872 hT6900)), hc6897⟩ h
       ·skip
        intro J6902 hJ6903 h
        try dsimp only at h
        refine MX.ifb rfl h (fun c6905 h => ?_) (fun c6905 h => ?_)
        ·skip
         refine MX.region ?_
         refine RG.val' .plain (FV.fieldAddr (off := 1) (by kernel_rfl) rfl) rfl ?_
         refine RG.val' .plain (FV.load1 (by kernel_rfl) rfl ((hS6871.memA (.tl (.tl .hd))) 1 _ rfl)) rfl ?_
         refine RG.val' .plain (FV.move rfl) rfl ?_
         refine RG.val' .plain (FV.move rfl) rfl ?_
         refine RG.val' .plain (FV.buildV (vs := [.int .i64 z4892, .int .i64 z6517]) (u := .agg #[.int .i64 z4892, .int .i64 z6517]) (evs_cons rfl (evs_cons rfl evs_nil)) (fun w9 => by kernel_rfl)) rfl ?_
         refine RG.new .plain rfl (Does.build (α := Int × Int) (xs := ([(z4892, z6517)] : List (Int × Int))) (vs := [.agg #[.int .i64 z4892, .int .i64 z6517]]) (ds' := [.int .i64 z4892, .int .i64 z6517]) rfl hS6871 el38 rfl (evs_cons rfl evs_nil) (by kernel_rfl) rfl) (fun w6907 b6910 hS6908 hT6909 => ?_)
         have hc6911 : Cells w6907 (bl [.row w.heap.size 46 (Rep.size (Int × Int)) (.slice (some ⟨b6910, 0, none⟩) 1 1) (([(z4892, z6517)] : List (Int × Int)).length) [.int .i64 z4892, .int .i64 z6517], .row w.heap.size 46 (Rep.size (Int × Int)) (.slice none 0 0) (([] : List (Int × Int)).length) [], .row w.heap.size 46 (Rep.size (Int × Int)) v6521 xs6518.length cs6519, .cells b20 [.int .i64 s15, v6521] 40, .cells b10 [.int .i64 0, (.slice none 0 0)] 40, .cells b5 [.int .u8 (a0.fWide.toNat : Int), .int .u8 (a0.fHigh.toNat : Int), .int .u16 (a0.fLess.toNat : Int), v0_3] 34] ++ L) [.int .i64 z4892, .int .i64 z6517] (([(z4892, z6517)] : List (Int × Int)) : List (Int × Int)) := Cells.cons (cs := [.int .i64 z4892, .int .i64 z6517]) (ds := []) (mk_A46 z4892 z6517) (Cells.nil _ _)
         obtain ⟨xs6912, hxs6912, h⟩ := bind_in h
         have hm6913 := Cells.mv hc6520 (Tr.trans hT6872 hT6909)
         refine RG.doesL .plain rfl (DoesL.app (α := Int × Int) (ys := ([(z4892, z6517)] : List (Int × Int))) (F := fun v' cs' => [.row w.heap.size 46 (Rep.size (Int × Int)) (.slice (some ⟨b6910, 0, none⟩) 1 1) (([(z4892, z6517)] : List (Int × Int)).length) [.int .i64 z4892, .int .i64 z6517], .row w.heap.size 46 (Rep.size (Int × Int)) (.slice none 0 0) (([] : List (Int × Int)).length) [], .row w.heap.size 46 (Rep.size (Int × Int)) v' xs6912.length cs', .cells b20 [.int .i64 s15, v6521] 40, .cells b10 [.int .i64 0, (.slice none 0 0)] 40, .cells b5 [.int .u8 (a0.fWide.toNat : Int), .int .u8 (a0.fHigh.toNat : Int), .int .u16 (a0.fLess.toNat : Int), v0_3] 34]) hxs6912 hS6908 (fun _ _ => (.tl (.tl .hd))) el38 rfl rfl hm6913 (Src.row (α := Int × Int) hS6908 .hd hc6911)) (fun v6919 w6914 ⟨cs6918, hS6915, hT6916, hc6917⟩ => ?_)
         refine RG.val' .plain (FV.fieldAddr (off := 1) (by kernel_rfl) rfl) rfl ?_
         refine RG.now .plain (Acts.store (j := 1) (old := [.int .i64 s15, v6521]) (news := [v6919]) (new' := [.int .i64 s15, v6919]) hS6915 (.tl (.tl (.tl .hd))) rfl rfl rfl (St.c1 (α := Int × Int) hS6915 (.tl (.tl .hd))) rfl rfl (ones_cons (St.o1 (α := Int × Int) hS6915 (.tl (.tl .hd))) ones_nil) rfl) (fun w6921 hS6922 hT6923 => ?_)
         refine RG.nil ?_
         have hS6924 : St _ _ [.row w.heap.size 46 (Rep.size (Int × Int)) (.slice none 0 0) (([] : List (Int × Int)).length) [], .row w.heap.size 46 (Rep.size (Int × Int)) v6919 xs6912.length cs6918, .cells b20 [.int .i64 s15, v6919] 40, .cells b10 [.int .i64 0, (.slice none 0 0)] 40, .cells b5 [.int .u8 (a0.fWide.toNat : Int), .int .u8 (a0.fHigh.toNat : Int), .int .u16 (a0.fLess.toNat : Int), v0_3] 34] := hS6922.arr (.one (.tl .hd) (.one (.tl .hd) (.one (.tl .hd) (.one (.tl .hd) (.one (.tl .hd) .done)))))
         have hT6925 : Tr w6921 _ w6921 [.row w.heap.size 46 (Rep.size (Int × Int)) (.slice none 0 0) (([] : List (Int × Int)).length) [], .row w.heap.size 46 (Rep.size (Int × Int)) v6919 xs6912.length cs6918, .cells b20 [.int .i64 s15, v6919] 40, .cells b10 [.int .i64 0, (.slice none 0 0)] 40, .cells b5 [.int .u8 (a0.fWide.toNat : Int), .int .u8 (a0.fHigh.toNat : Int), .int .u16 (a0.fLess.toNat : Int), v0_3] 34] := Tr.arr (St.arrOf hS6922 (.one (.tl .hd) (.one (.tl .hd) (.one (.tl .hd) (.one (.tl .hd) (.one (.tl .hd) .done))))))
         have hm6926 := Cells.mv hc6917 (Tr.trans hT6923 hT6925)
         exact hJ6903 (xs6912, v6919, cs6918) _ _ ⟨rfl, rfl, rfl, rfl, rfl, rfl, rfl, trivial⟩ ⟨hS6924, (Tr.trans hT6909 (Tr.trans hT6916 (Tr.trans hT6923 hT6925))), hm6926⟩ h
        ·skip
         refine MX.skip ?_
         have hm6927 := Cells.mv hc6520 hT6872
         exact hJ6903 (xs6518, v6521, cs6519) _ _ ⟨rfl, rfl, rfl, rfl, rfl, rfl, rfl, trivial⟩ ⟨hS6871, Tr.refl _ _, hm6927⟩ h
      ·skip
       intro J6874 hJ6875 h
       try dsimp only at h
       obtain ⟨o6963, ho6962, hh6964⟩ := bind_in2 h
       refine MX.loop (α := Bool × Nat) (fun ⟨q6956, i6957⟩ => [(1, .pointer (some ⟨b5, 0, none⟩)), (2, .pointer (some ⟨b10, 0, none⟩)), (3, .int .i64 ((1 + ((a0.fWide % (4 : UInt8)).toNat) : Nat) : Int)), (5, .pointer (some ⟨b20, 0, none⟩)), (6, .int .i64 s6768), (7, .int .i64 z4892), (8, .int .i64 z6517), (9, .bool q6956), (10, .int .i64 ((i6957 : Nat) : Int))]) (fun ⟨q6956, i6957⟩ wx6957 => St w wx6957 [.row w.heap.size 46 (Rep.size (Int × Int)) (.slice none 0 0) (([] : List (Int × Int)).length) [], .row w.heap.size 46 (Rep.size (Int × Int)) v6521 xs6518.length cs6519, .cells b20 [.int .i64 s15, v6521] 40, .cells b10 [.int .i64 0, (.slice none 0 0)] 40, .cells b5 [.int .u8 (a0.fWide.toNat : Int), .int .u8 (a0.fHigh.toNat : Int), .int .u16 (a0.fLess.toNat : Int), v0_3] 34] ∧ Tr wx6521 [.row w.heap.size 46 (Rep.size (Int × Int)) (.slice none 0 0) (([] : List (Int × Int)).length) [], .row w.heap.size 46 (Rep.size (Int × Int)) v6521 xs6518.length cs6519, .cells b20 [.int .i64 s15, v6521] 40, .cells b10 [.int .i64 0, (.slice none 0 0)] 40, .cells b5 [.int .u8 (a0.fWide.toNat : Int), .int .u8 (a0.fHigh.toNat : Int), .int .u16 (a0.fLess.toNat : Int), v0_3] 34] wx6957 [.row w.heap.size 46 (Rep.size (Int × Int)) (.slice none 0 0) (([] : List (Int × Int)).length) [], .row w.heap.size 46 (Rep.size (Int × Int)) v6521 xs6518.length cs6519, .cells b20 [.int .i64 s15, v6521] 40, .cells b10 [.int .i64 0, (.slice none 0 0)] 40, .cells b5 [.int .u8 (a0.fWide.toNat : Int), .int .u8 (a0.fHigh.toNat : Int), .int .u16 (a0.fLess.toNat : Int), v0_3] 34]) (fun ⟨q6956, i6957⟩ => (q6956, i6957)) (true, 0) ho6962 ⟨rfl, rfl, rfl, rfl, rfl, rfl, rfl, rfl, rfl, trivial⟩ ⟨hS6522, Tr.refl _ _⟩ ?_
       rintro J6965 ⟨q6956, i6957⟩ wx6957 hJ6966 ⟨hS6958, hT6959⟩ h
       unfold wardmoteref18_Draft_Graph_l2 at h
       try dsimp only at h
       refine MX.seq ?_
       refine MX.seq ?_
       refine MX.region ?_
       refine RG.val' .plain (FV.move rfl) rfl ?_
       refine RG.val' .plain (FV.fieldAddr (off := 3) (by kernel_rfl) rfl) rfl ?_
       refine RG.val' .plain (FV.load1 (by kernel_rfl) rfl ((hS6958.memA (.tl (.tl (.tl (.tl .hd))))) 3 _ rfl)) rfl ?_
       have hm6968 := Rep.mv h0_3 (Tr.trans hT4 (Tr.trans hT9 (Tr.trans hT19 (Tr.trans hT23 (Tr.trans hT26 (Tr.trans hT30 (Tr.trans hT4898 (Tr.trans hT6523 hT6959))))))))
       have hl6967 : a0.fMore.length ≤ 281474976710656 := Rep.lenle hm6968
       refine RG.val' .plain (FV.len (xs := a0.fMore) Tryd.underlying32 rfl hm6968) rfl ?_
       refine RG.val' .plain (FV.lssN (i := i6957) (j := a0.fMore.length) rfl rfl) rfl ?_
       refine RG.val' .plain (FV.move rfl) rfl ?_
       refine RG.ifd (s := 80) rfl h (fun c6969 h => ?_) (fun c6969 h => ?_)
       ·skip
        refine RG.val' (.yes rfl rfl) (FV.move rfl) rfl ?_
        refine RG.val' (.yes rfl rfl) (FV.lssN (i := i6957) (j := 3) rfl rfl) rfl ?_
        refine RG.val' .plain (FV.pick_t rfl rfl) rfl ?_
        refine RG.nil ?_
        refine MX.ifd rfl h (fun c6970 h => ?_) (fun c6970 h => ?_)
        ·skip
         refine MX.skip ?_
         refine MX.seq ?_
         refine MX.block ?_
         refine MX.seq ?_
         refine MX.drawT 22 tb13_18 (by kernel_rfl) (by kernel_rfl) (by kernel_rfl) (fun kt6971 kp6972 => ?_)
         refine RD.vP 0 1 kt6971 rfl kp6972 .plain (fun _ => FV.fieldAddr (off := 3) (by kernel_rfl) rfl) rfl ?_
         refine RD.val (i := 1) (m' := 3) (W := 3146360) (takeC_ok kt6971 (by kernel_rfl)) rfl kp6972 .plain (FV.load1 (by kernel_rfl) rfl ((hS6958.memA (.tl (.tl (.tl (.tl .hd))))) 3 _ rfl)) rfl ?_
         refine RD.vP 2 7 kt6971 rfl kp6972 .plain (fun _ => FV.move rfl) rfl ?_
         obtain ⟨x6973, hx6973, h⟩ := bind_in h
         obtain ⟨A6974, c6975, he6976, hk6977, cs6978, hr6979, hm6980⟩ := Rep.nth hm6968 hx6973
         obtain rfl := op_A69 hr6979
         refine RD.vP 3 15 kt6971 rfl kp6972 .plain (fun _ => FV.idxAddr (m := 2) (i := i6957) (by kernel_rfl) rfl he6976 rfl rfl hk6977) rfl ?_
         refine RD.vP 4 31 kt6971 rfl kp6972 .plain (fun _ => FV.indexArr (m := 1) (k := 0) (len := 2) (by kernel_rfl) rfl rfl rfl (by omega)) rfl ?_
         refine RD.val (i := 5) (m' := 63) (W := 3146304) (takeC_ok kt6971 (by kernel_rfl)) rfl kp6972 .plain (FV.load1 (by kernel_rfl) rfl (hm6980 0 _ rfl)) rfl ?_
         have hu6981 := x6973.1.toNat_lt
         refine RD.vP 6 127 kt6971 rfl kp6972 .plain (fun _ => FV.convN (i := x6973.1.toNat) Tryd.underlying5 Tryd.underlying3 rfl (by omega)) rfl ?_
         refine RD.vP 7 255 kt6971 rfl kp6972 .plain (fun _ => FV.fieldAddr (off := 0) (by kernel_rfl) rfl) rfl ?_
         refine RD.val (i := 8) (m' := 511) (W := 3146240) (takeC_ok kt6971 (by kernel_rfl)) rfl kp6972 .plain (FV.load1 (by kernel_rfl) rfl ((hS6958.memA (.tl (.tl .hd))) 0 _ rfl)) rfl ?_
         obtain ⟨s6982, hs6982, h⟩ := bind_in h
         refine RD.vP 9 1023 kt6971 rfl kp6972 .plain (fun _ => FV.remc (i := ((x6973.1.toNat : Nat) : Int)) (j := s15) rfl rfl hs6982) rfl ?_
         refine RD.vP 10 2047 kt6971 rfl kp6972 .plain (fun _ => FV.fieldAddr (off := 3) (by kernel_rfl) rfl) rfl ?_
         refine RD.val (i := 11) (m' := 4095) (W := 2744320) (takeC_ok kt6971 (by kernel_rfl)) rfl kp6972 .plain (FV.load1 (by kernel_rfl) rfl ((hS6958.memA (.tl (.tl (.tl (.tl .hd))))) 3 _ rfl)) rfl ?_
         refine RD.vP 12 8191 kt6971 rfl kp6972 .plain (fun _ => FV.move rfl) rfl ?_
         refine RD.vP 13 16383 kt6971 rfl kp6972 .plain (fun _ => FV.idxAddr (m := 2) (i := i6957) (by kernel_rfl) rfl he6976 rfl rfl hk6977) rfl ?_
         refine RD.vP 14 32767 kt6971 rfl kp6972 .plain (fun _ => FV.indexArr (m := 1) (k := 1) (len := 2) (by kernel_rfl) rfl rfl rfl (by omega)) rfl ?_
         refine RD.val (i := 15) (m' := 65535) (W := 2686976) (takeC_ok kt6971 (by kernel_rfl)) rfl kp6972 .plain (FV.load1 (by kernel_rfl) rfl (hm6980 1 _ rfl)) rfl ?_
         have hu6983 := x6973.2.toNat_lt
         refine RD.vP 16 131071 kt6971 rfl kp6972 .plain (fun _ => FV.convN (i := x6973.2.toNat) Tryd.underlying5 Tryd.underlying3 rfl (by omega)) rfl ?_
         refine RD.vP 17 262143 kt6971 rfl kp6972 .plain (fun _ => FV.fieldAddr (off := 0) (by kernel_rfl) rfl) rfl ?_
         refine RD.val (i := 18) (m' := 524287) (W := 2621440) (takeC_ok kt6971 (by kernel_rfl)) rfl kp6972 .plain (FV.load1 (by kernel_rfl) rfl ((hS6958.memA (.tl (.tl .hd))) 0 _ rfl)) rfl ?_
         obtain ⟨s6984, hs6984, h⟩ := bind_in h
         refine RD.vP 19 1048575 kt6971 rfl kp6972 .plain (fun _ => FV.remc (i := ((x6973.2.toNat : Nat) : Int)) (j := s15) rfl rfl hs6984) rfl ?_
         refine RD.vP 20 2097151 kt6971 rfl kp6972 .plain (fun _ => FV.assign rfl) rfl ?_
         refine RD.vP 21 4194303 kt6971 rfl kp6972 .plain (fun _ => FV.assign rfl) rfl ?_
         refine RD.done (doneD_ok kt6971 (by kernel_rfl)) ?_
         refine MX.region ?_
         refine RG.val' .plain (FV.move rfl) rfl ?_
         refine RG.val' .plain (FV.move rfl) rfl ?_
         refine RG.ifb (s := 107) rfl h (fun c6985 h => ?_) (fun c6985 h => ?_)
         ·skip
          refine RG.off (.no rfl rfl) rfl ?_
          refine RG.off (.no rfl rfl) rfl ?_
          refine RG.off (.no rfl rfl) rfl ?_
          refine RG.off (.no rfl rfl) rfl ?_
          refine RG.off (.undef rfl rfl) rfl ?_
          refine RG.off (.undef rfl rfl) rfl ?_
          refine RG.off (.undef rfl rfl) rfl ?_
          refine RG.off (.no rfl rfl) rfl ?_
          refine RG.val' .plain (FV.pick_t rfl rfl) rfl ?_
          refine RG.val' .plain (FV.move rfl) rfl ?_
          refine RG.off (.no rfl rfl) rfl ?_
          refine RG.off (.no rfl rfl) rfl ?_
          refine RG.off (.no rfl rfl) rfl ?_
          refine RG.off (.no rfl rfl) rfl ?_
          refine RG.off (.undef rfl rfl) rfl ?_
          refine RG.off (.undef rfl rfl) rfl ?_
          refine RG.off (.undef rfl rfl) rfl ?_
          refine RG.off (.no rfl rfl) rfl ?_
          refine RG.val' .plain (FV.pick_t rfl rfl) rfl ?_
          refine RG.val' .plain (FV.assign rfl) rfl ?_
          refine RG.nil ?_
          refine MX.inBlock ?_
          refine MX.region ?_
          refine RG.val' .plain (FV.move rfl) rfl ?_
          refine RG.val' .plain (FV.addN (i := i6957) (j := 1) rfl rfl (by omega)) rfl ?_
          refine RG.val' .plain (FV.assign rfl) rfl ?_
          refine RG.nil ?_
          exact hJ6966 (true, i6957 + 1) _ _ ⟨rfl, rfl, rfl, rfl, rfl, rfl, rfl, rfl, rfl, trivial⟩ ⟨hS6958, hT6959⟩ h
         ·skip
          refine RG.val' (.yes rfl rfl) (FV.move rfl) rfl ?_
          refine RG.val' (.yes rfl rfl) (FV.move rfl) rfl ?_
          refine RG.val' (.yes rfl rfl) (FV.eql (i := s6982) (j := z4892) rfl rfl) rfl ?_
          refine RG.val' (.yes rfl rfl) (FV.move rfl) rfl ?_
          refine RG.ifd (s := 111) rfl h (fun c6986 h => ?_) (fun c6986 h => ?_)
          ·skip
           refine RG.val' (.yes rfl rfl) (FV.move rfl) rfl ?_
           refine RG.val' (.yes rfl rfl) (FV.move rfl) rfl ?_
           refine RG.val' (.yes rfl rfl) (FV.eql (i := s6984) (j := z6517) rfl rfl) rfl ?_
           refine RG.val' (.yes rfl rfl) (FV.pick_t rfl rfl) rfl ?_
           refine RG.val' .plain (FV.pick_f rfl rfl) rfl ?_
           refine RG.val' .plain (FV.move rfl) rfl ?_
           refine RG.ifd (s := 117) rfl h (fun c6987 h => ?_) (fun c6987 h => ?_)
           ·skip
            refine RG.off (.no rfl rfl) rfl ?_
            refine RG.off (.no rfl rfl) rfl ?_
            refine RG.off (.no rfl rfl) rfl ?_
            refine RG.off (.no rfl rfl) rfl ?_
            refine RG.off (.undef rfl rfl) rfl ?_
            refine RG.off (.undef rfl rfl) rfl ?_
            refine RG.off (.undef rfl rfl) rfl ?_
            refine RG.off (.no rfl rfl) rfl ?_
            refine RG.val' .plain (FV.pick_t rfl rfl) rfl ?_
            refine RG.val' .plain (FV.assign rfl) rfl ?_
            refine RG.nil ?_
            refine MX.inBlock ?_
            refine MX.region ?_
            refine RG.val' .plain (FV.move rfl) rfl ?_
            refine RG.val' .plain (FV.addN (i := i6957) (j := 1) rfl rfl (by omega)) rfl ?_
            refine RG.val' .plain (FV.assign rfl) rfl ?_
            refine RG.nil ?_
            exact hJ6966 (true, i6957 + 1) _ _ ⟨rfl, rfl, rfl, rfl, rfl, rfl, rfl, rfl, rfl, trivial⟩ ⟨hS6958, hT6959⟩ h
           ·skip
            refine RG.val' (.yes rfl rfl) (FV.move rfl) rfl ?_
            refine RG.val' (.yes rfl rfl) (FV.move rfl) rfl ?_
            refine RG.val' (.yes rfl rfl) (FV.eql (i := s6982) (j := z6517) rfl rfl) rfl ?_
            refine RG.val' (.yes rfl rfl) (FV.move rfl) rfl ?_
            refine RG.ifd (s := 121) rfl h (fun c6988 h => ?_) (fun c6988 h => ?_)
            ·skip
             refine RG.val' (.yes rfl rfl) (FV.move rfl) rfl ?_
             refine RG.val' (.yes rfl rfl) (FV.move rfl) rfl ?_
             refine RG.val' (.yes rfl rfl) (FV.eql (i := s6984) (j := z4892) rfl rfl) rfl ?_
             refine RG.val' (.yes rfl rfl) (FV.pick_t rfl rfl) rfl ?_
             refine RG.val' .plain (FV.pick_f rfl rfl) rfl ?_
             refine RG.val' .plain (FV.assign rfl) rfl ?_
             refine RG.nil ?_
             refine MX.inBlock ?_
             refine MX.region ?_
             refine RG.val' .plain (FV.move rfl) rfl ?_
             refine RG.val' .plain (FV.addN (i := i6957) (j := 1) rfl rfl (by omega)) rfl ?_
             refine RG.val' .plain (FV.assign rfl) rfl ?_
             refine RG.nil ?_
             exact hJ6966 ((decide (s6984 = z4892)), i6957 + 1) _ _ ⟨rfl, rfl, rfl, rfl, rfl, rfl, rfl, rfl, rfl, trivial⟩ ⟨hS6958, hT6959⟩ h
            ·skip
             refine RG.off (.no rfl rfl) rfl ?_
             refine RG.off (.no rfl rfl) rfl ?_
             refine RG.off (.no rfl rfl) rfl ?_
             refine RG.val' (.yes rfl rfl) (FV.pick_f rfl rfl) rfl ?_
             refine RG.val' .plain (FV.pick_f rfl rfl) rfl ?_
             refine RG.val' .plain (FV.assign rfl) rfl ?_
             refine RG.nil ?_
             refine MX.inBlock ?_
             refine MX.region ?_
             refine RG.val' .plain (FV.move rfl) rfl ?_
             refine RG.val' .plain (FV.addN (i := i6957) (j := 1) rfl rfl (by omega)) rfl ?_
             refine RG.val' .plain (FV.assign rfl) rfl ?_
             refine RG.nil ?_
             exact hJ6966 (false, i6957 + 1) _ _ ⟨rfl, rfl, rfl, rfl, rfl, rfl, rfl, rfl, rfl, trivial⟩ ⟨hS6958, hT6959⟩ h
          ·skip
           refine RG.off (.no rfl rfl) rfl ?_
           refine RG.off (.no rfl rfl) rfl ?_
           refine RG.off (.no rfl rfl) rfl ?_
           refine RG.val' (.yes rfl rfl) (FV.pick_f rfl rfl) rfl ?_
           refine RG.val' .plain (FV.pick_f rfl rfl) rfl ?_
           refine RG.val' .plain (FV.move rfl) rfl ?_
           refine RG.val' (.yes rfl rfl) (FV.move rfl) rfl ?_
           refine RG.val' (.yes rfl rfl) (FV.move rfl) rfl ?_
           refine RG.val' (.yes rfl rfl) (FV.eql (i := s6982) (j := z6517) rfl rfl) rfl ?_
           refine RG.val' (.yes rfl rfl) (FV.move rfl) rfl ?_
           refine RG.ifd (s := 121) rfl h (fun c6989 h => ?_) (fun c6989 h => ?_)
           ·skip
            refine RG.val' (.yes rfl rfl) (FV.move rfl) rfl ?_
            refine RG.val' (.yes rfl rfl) (FV.move rfl) rfl ?_
            refine RG.val' (.yes rfl rfl) (FV.eql (i := s6984) (j := z4892) rfl rfl) rfl ?_
            refine RG.val' (.yes rfl rfl) (FV.pick_t rfl rfl) rfl ?_
            refine RG.val' .plain (FV.pick_f rfl rfl) rfl ?_
            refine RG.val' .plain (FV.assign rfl) rfl ?_
            refine RG.nil ?_
            refine MX.inBlock ?_
            refine MX.region ?_
            refine RG.val' .plain (FV.move rfl) rfl ?_
            refine RG.val' .plain (FV.addN (i := i6957) (j := 1) rfl rfl (by omega)) rfl ?_
            refine RG.val' .plain (FV.assign rfl) rfl ?_
            refine RG.nil ?_
            exact hJ6966 ((decide (s6984 = z4892)), i6957 + 1) _ _ ⟨rfl, rfl, rfl, rfl, rfl, rfl, rfl, rfl, rfl, trivial⟩ ⟨hS6958, hT6959⟩ h
           ·skip
            refine RG.off (.no rfl rfl) rfl ?_
            refine RG.off (.no rfl rfl) rfl ?_
            refine RG.off (.no rfl rfl) rfl ?_
            refine RG.val' (.yes rfl rfl) (FV.pick_f rfl rfl) rfl ?_
            refine RG.val' .plain (FV.pick_f rfl rfl) rfl ?_
            refine RG.val' .plain (FV.assign rfl) rfl ?_
            refine RG.nil ?_
            refine MX.inBlock ?_
            refine MX.region ?_
            refine RG.val' .plain (FV.move rfl) rfl ?_
            refine RG.val' .plain (FV.addN (i := i6957) (j := 1) rfl rfl (by omega)) rfl ?_
            refine RG.val' .plain (FV.assign rfl) rfl ?_
            refine RG.nil ?_
            exact hJ6966 (false, i6957 + 1) _ _ ⟨rfl, rfl, rfl, rfl, rfl, rfl, rfl, rfl, rfl, trivial⟩ ⟨hS6958, hT6959⟩ h
        ·skip
         refine MX.exit rfl ?_
         have h := hh6964 _ h
         try dsimp only at h
         exact hJ6875 q6956 _ _ ⟨rfl, rfl, rfl, rfl, rfl, rfl, rfl, rfl, trivial⟩ ⟨hS6958, hT6959⟩ h
       ·skip
        refine RG.off (.no rfl rfl) rfl ?_
        refine RG.off (.no rfl rfl) rfl ?_
        refine RG.val' .plain (FV.pick_f rfl rfl) rfl ?_
        refine RG.nil ?_
        refine MX.cond_f rfl ?_
        refine MX.exit rfl ?_
        have h := hh6964 _ h
        try dsimp only at h
        exact hJ6875 q6956 _ _ ⟨rfl, rfl, rfl, rfl, rfl, rfl, rfl, rfl, trivial⟩ ⟨hS6958, hT6959⟩ h
    ·skip
     refine RG.val' (.yes rfl rfl) (FV.move rfl) rfl ?_
     refine RG.val' (.yes rfl rfl) (FV.move rfl) rfl ?_
     obtain ⟨s6990, hs6990, h⟩ := bind_in h
     refine RG.val' (.yes rfl rfl) (FV.addc (i := z4892) (j := 1) rfl rfl hs6990) rfl ?_
     refine RG.val' (.yes rfl rfl) (FV.eql (i := z6517) (j := s6990) rfl rfl) rfl ?_
     refine RG.val' (.yes rfl rfl) (FV.move rfl) rfl ?_
     refine RG.ifd (s := 51) rfl h (fun c6991 h => ?_) (fun c6991 h => ?_)
     ·skip
      refine RG.val' (.yes rfl rfl) (FV.move rfl) rfl ?_
      refine RG.val' (.yes rfl rfl) (FV.move rfl) rfl ?_
      obtain ⟨s6992, hs6992, h⟩ := bind_in h
      refine RG.val' (.yes rfl rfl) (FV.remc (i := z6517) (j := ((1 + ((a0.fWide % (4 : UInt8)).toNat) : Nat) : Int)) rfl rfl hs6992) rfl ?_
      refine RG.val' (.yes rfl rfl) (FV.neq (i := s6992) (j := 0) rfl rfl) rfl ?_
      refine RG.val' (.yes rfl rfl) (FV.pick_t rfl rfl) rfl ?_
      refine RG.val' .plain (FV.pick_f rfl rfl) rfl ?_
      refine RG.val' .plain (FV.assign rfl) rfl ?_
      refine RG.nil ?_
      refine MX.seq ?_
      refine MX.seq ?_
      refine MX.region ?_
      refine RG.val' .plain (FV.move rfl) rfl ?_
      refine RG.nil ?_
      refine MX.join (α := Int × Bool) (fun ⟨z7002, q7003⟩ => [(1, .pointer (some ⟨b5, 0, none⟩)), (2, .pointer (some ⟨b10, 0, none⟩)), (3, .int .i64 ((1 + ((a0.fWide % (4 : UInt8)).toNat) : Nat) : Int)), (5, .pointer (some ⟨b20, 0, none⟩)), (6, .int .i64 z7002), (7, .int .i64 z4892), (8, .int .i64 z6517), (9, .bool q7003)]) (fun ⟨z7002, q7003⟩ wx7003 => St w wx7003 [.row w.heap.size 46 (Rep.size (Int × Int)) (.slice none 0 0) (([] : List (Int × Int)).length) [], .row w.heap.size 46 (Rep.size (Int × Int)) v6521 xs6518.length cs6519, .cells b20 [.int .i64 s15, v6521] 40, .cells b10 [.int .i64 0, (.slice none 0 0)] 40, .cells b5 [.int .u8 (a0.fWide.toNat : Int), .int .u8 (a0.fHigh.toNat : Int), .int .u16 (a0.fLess.toNat : Int), v0_3] 34] ∧ Tr wx6521 [.row w.heap.size 46 (Rep.size (Int × Int)) (.slice none 0 0) (([] : List (Int × Int)).length) [], .row w.heap.size 46 (Rep.size (Int × Int)) v6521 xs6518.length cs6519, .cells b20 [.int .i64 s15, v6521] 40, .cells b10 [.int .i64 0, (.slice none 0 0)] 40, .cells b5 [.int .u8 (a0.fWide.toNat : Int), .int .u8 (a0.fHigh.toNat : Int), .int .u16 (a0.fLess.toNat : Int), v0_3] 34] wx7003 [.row w.heap.size 46 (Rep.size (Int × Int)) (.slice none 0 0) (([] : List (Int × Int)).length) [], .row w.heap.size 46 (Rep.size (Int × Int)) v6521 xs6518.length cs6519, .cells b20 [.int .i64 s15, v6521] 40, .cells b10 [.int .i64 0, (.slice none 0 0)] 40, .cells b5 [.int .u8 (a0.fWide.toNat : Int), .int .u8 (a0.fHigh.toNat : Int), .int .u16 (a0.fLess.toNat : Int), v0_3] 34]) (fun ⟨z7002, q7003⟩ => (z7002, q7003)) h ?_ ?_
      ·skip
       rintro ⟨z7002, q7003⟩ wx7003 ⟨hS7004, hT7005⟩ h
       try dsimp only at h
       refine MX.seq ?_
       refine MX.seq ?_
       refine MX.region ?_
       refine RG.val' .plain (FV.assign rfl) rfl ?_
       refine RG.nil ?_
       refine MX.block ?_
       refine MX.joinx (α := Bool) (fun q7110 => [(1, .pointer (some ⟨b5, 0, none⟩)), (2, .pointer (some ⟨b10, 0, none⟩)), (3, .int .i64 ((1 + ((a0.fWide % (4 : UInt8)).toNat) : Nat) : Int)), (5, .pointer (some ⟨b20, 0, none⟩)), (6, .int .i64 z7002), (7, .int .i64 z4892), (8, .int .i64 z6517), (9, .bool q7110)]) (fun q7110 wx7110 => St w wx7110 [.row w.heap.size 46 (Rep.size (Int × Int)) (.slice none 0 0) (([] : List (Int × Int)).length) [], .row w.heap.size 46 (Rep.size (Int × Int)) v6521 xs6518.length cs6519, .cells b20 [.int .i64 s15, v6521] 40, .cells b10 [.int .i64 0, (.slice none 0 0)] 40, .cells b5 [.int .u8 (a0.fWide.toNat : Int), .int .u8 (a0.fHigh.toNat : Int), .int .u16 (a0.fLess.toNat : Int), v0_3] 34] ∧ Tr wx7003 [.row w.heap.size 46 (Rep.size (Int × Int)) (.slice none 0 0) (([] : List (Int × Int)).length) [], .row w.heap.size 46 (Rep.size (Int × Int)) v6521 xs6518.length cs6519, .cells b20 [.int .i64 s15, v6521] 40, .cells b10 [.int .i64 0, (.slice none 0 0)] 40, .cells b5 [.int .u8 (a0.fWide.toNat : Int), .int .u8 (a0.fHigh.toNat : Int), .int .u16 (a0.fLess.toNat : Int), v0_3] 34] wx7110 [.row w.heap.size 46 (Rep.size (Int × Int)) (.slice none 0 0) (([] : List (Int × Int)).length) [], .row w.heap.size 46 (Rep.size (Int × Int)) v6521 xs6518.length cs6519, .cells b20 [.int .i64 s15, v6521] 40, .cells b10 [.int .i64 0, (.slice none 0 0)] 40, .cells b5 [.int .u8 (a0.fWide.toNat : Int), .int .u8 (a0.fHigh.toNat : Int), .int .u16 (a0.fLess.toNat : Int), v0_3] 34]) (fun q7110 => q7110) (id := 4) rfl h ?_ ?_
       ·skip
        rintro q7110 wx7110 ⟨hS7111, hT7112⟩ h
        try dsimp only at h
        refine MX.seq ?_
        refine MX.region ?_
        refine RG.val' .plain (FV.move rfl) rfl ?_
        refine RG.nil ?_
        refine MX.join (α := (List (Int × Int)) × Value × (List Value)) (fun ⟨xs7135, v7138, cs7136⟩ => [(1, .pointer (some ⟨b5, 0, none⟩)), (2, .pointer (some ⟨b10, 0, none⟩)), (3, .int .i64 ((1 + ((a0.fWide % (4 : UInt8)).toNat) : Nat) : Int)), (5, .pointer (some ⟨b20, 0, none⟩)), (6, .int .i64 z7002), (7, .int .i64 z4892), (8, .int .i64 z6517)]) (fun ⟨xs7135, v7138, cs7136⟩ wx7138 => St w wx7138 [.row w.heap.size 46 (Rep.size (Int × Int)) (.slice none 0 0) (([] : List (Int × Int)).length) [], .row w.heap.size 46 (Rep.size (Int × Int)) v7138 xs7135.length cs7136, .cells b20 [.int .i64 s15, v7138] 40, .cells b10 [.int .i64 0, (.slice none 0 0)] 40, .cells b5 [.int .u8 (a0.fWide.toNat : Int), .int .u8 (a0.fHigh.toNat : Int), .int .u16 (a0.fLess.toNat : Int), v0_3] 34] ∧ Tr wx7110 [.row w.heap.size 46 (Rep.size (Int × Int)) (.slice none 0 0) (([] : List (Int × Int)).length) [], .row w.heap.size 46 (Rep.size (Int × Int)) v6521 xs6518.length cs6519, .cells b20 [.int .i64 s15, v6521] 40, .cells b10 [.int .i64 0, (.slice none 0 0)] 40, .cells b5 [.int .u8 (a0.fWide.toNat : Int), .int .u8 (a0.fHigh.toNat : Int), .int .u16 (a0.fLess.toNat : Int), v0_3] 34] wx7138 [.row w.heap.size 46 (Rep.size (Int × Int)) (.slice none 0 0) (([] : List (Int × Int)).length) [], .row w.heap.size 46 (Rep.size (Int × Int)) v7138 xs7135.length cs7136, .cells b20 [.int .i64 s15, v7138] 40, .cells b10 [.int .i64 0, (.slice none 0 0)] 40, .cells b5 [.int .u8 (a0.fWide.toNat : Int), .int .u8 (a0.fHigh.toNat : Int), .int .u16 (a0.fLess.toNat : Int), v0_3] 34] ∧ Cells wx7138 (bl [.row w.heap.size 46 (Rep.size (Int × Int)) (.slice none 0 0) (([] : List (Int × Int)).length) [], .row w.heap.size 46 (Rep.size (Int × Int)) v7138 xs7135.length cs7136, .cells b20 [.int .i64 s15, v7138] 40, .cells b10 [.int .i64 0, (.slice none 0 0)] 40, .cells b5 [.int .u8 (a0.fWide.toNat : Int), .int .u8 (a0.fHigh.toNat : Int), .int .u16 (a0.fLess.toNat : Int), v0_3] 34] ++ L) cs7136 xs7135) (fun ⟨xs7135, v7138, cs7136⟩ => xs7135) h ?_ ?_
        ·skip
         rintro ⟨xs7135, v7138, cs7136⟩ wx7138 ⟨hS7139, hT7140, hc7137⟩ h
         try dsimp only at h
         refine MX.inBlock ?_
         refine MX.region ?_
         refine RG.val' .plain (FV.move rfl) rfl ?_
         obtain ⟨s7144, hs7144, h⟩ := bind_in h
         refine RG.val' .plain (FV.addc (i := z6517) (j := 1) rfl rfl hs7144) rfl ?_
         refine RG.val' .plain (FV.assign rfl) rfl ?_
         refine RG.nil ?_
         exact hJ6530 (z7002, s7144, xs7135, v7138, cs7136) _ _ ⟨rfl, rfl, rfl, rfl, rfl, rfl, rfl, trivial⟩ ⟨hS7139, (Tr.trans hT6523 (Tr.trans hT7005 (Tr.trans hT7112 hT7140))), hc7137⟩ h
        ·skip
         intro J7142 hJ7143 h
         try dsimp only at h
         refine MX.ifb rfl h (fun c7145 h => ?_) (fun c7145 h => ?_)
         ·skip
          refine MX.region ?_
          refine RG.val' .plain (FV.fieldAddr (off := 1) (by kernel_rfl) rfl) rfl ?_
          refine RG.val' .plain (FV.load1 (by kernel_rfl) rfl ((hS7111.memA (.tl (.tl .hd))) 1 _ rfl)) rfl ?_
          refine RG.val' .plain (FV.move rfl) rfl ?_
          refine RG.val' .plain (FV.move rfl) rfl ?_
          refine RG.val' .plain (FV.buildV (vs := [.int .i64 z4892, .int .i64 z6517]) (u := .agg #[.int .i64 z4892, .int .i64 z6517]) (evs_cons rfl (evs_cons rfl evs_nil)) (fun w9 => by kernel_rfl)) rfl ?_
          refine RG.new .plain rfl (Does.build (α := Int × Int) (xs := ([(z4892, z6517)] : List (Int × Int))) (vs := [.agg #[.int .i64 z4892, .int .i64 z6517]]) (ds' := [.int .i64 z4892, .int .i64 z6517]) rfl hS7111 el38 rfl (evs_cons rfl evs_nil) (by kernel_rfl) rfl) (fun w7147 b7150 hS7148 hT7149 => ?_)
          have hc7151 : Cells w7147 (bl [.row w.heap.size 46 (Rep.size (Int × Int)) (.slice (some ⟨b7150, 0, none⟩) 1 1) (([(z4892, z6517)] : List (Int × Int)).length) [.int .i64 z4892, .int .i64 z6517], .row w.heap.size 46 (Rep.size (Int × Int)) (.slice none 0 0) (([] : List (Int × Int)).length) [], .row w.heap.size 46 (Rep.size (Int × Int)) v6521 xs6518.length cs6519, .cells b20 [.int .i64 s15, v6521] 40, .cells b10 [.int .i64 0, (.slice none 0 0)] 40, .cells b5 [.int .u8 (a0.fWide.toNat : Int), .int .u8 (a0.fHigh.toNat : Int), .int .u16 (a0.fLess.toNat : Int), v0_3] 34] ++ L) [.int .i64 z4892, .int .i64 z6517] (([(z4892, z6517)] : List (Int × Int)) : List (Int × Int)) := Cells.cons (cs := [.int .i64 z4892, .int .i64 z6517]) (ds := []) (mk_A46 z4892 z6517) (Cells.nil _ _)
          obtain ⟨xs7152, hxs7152, h⟩ := bind_in h
          have hm7153 := Cells.mv hc6520 (Tr.trans hT7005 (Tr.trans hT7112 hT7149))
          refine RG.doesL .plain rfl (DoesL.app (α := Int × Int) (ys := ([(z4892, z6517)] : List (Int × Int))) (F := fun v' cs' => [.row w.heap.size 46 (Rep.size (Int × Int)) (.slice (some ⟨b7150, 0, none⟩) 1 1) (([(z4892, z6517)] : List (Int × Int)).length) [.int .i64 z4892, .int .i64 z6517], .row w.heap.size 46 (Rep.size (Int × Int)) (.slice none 0 0) (([] : List (Int × Int)).length) [], .row w.heap.size 46 (Rep.size (Int × Int)) v' xs7152.length cs', .cells b20 [.int .i64 s15, v6521] 40, .cells b10 [.int .i64 0, (.slice none 0 0)] 40, .cells b5 [.int .u8 (a0.fWide.toNat : Int), .int .u8 (a0.fHigh.toNat : Int), .int .u16 (a0.fLess.toNat : Int), v0_3] 34]) hxs7152 hS7148 (fun _ _ => (.tl (.tl .hd))) el38 rfl rfl hm7153 (Src.row (α := Int × Int) hS7148 .hd hc7151)) (fun v7159 w7154 ⟨cs7158, hS7155, hT7156, hc7157⟩ => ?_)
          refine RG.val' .plain (FV.fieldAddr (off := 1) (by kernel_rfl) rfl) rfl ?_
          refine RG.now .plain (Acts.store (j := 1) (old := [.int .i64 s15, v6521]) (news := [v7159]) (new' := [.int .i64 s15, v7159]) hS7155 (.tl (.tl (.tl .hd))) rfl rfl rfl (St.c1 (α := Int × Int) hS7155 (.tl (.tl .hd))) rfl rfl (ones_cons (St.o1 (α := Int × Int) hS7155 (.tl (.tl .hd))) ones_nil) rfl) (fun w7161 hS7162 hT7163 => ?_)
          refine RG.nil ?_
          have hS7164 : St _ _ [.row w.heap.size 46 (Rep.size (Int × Int)) (.slice none 0 0) (([] : List (Int × Int)).length) [], .row w.heap.size 46 (Rep.size (Int × Int)) v7159 xs7152.length cs7158, .cells b20 [.int .i64 s15, v7159] 40, .cells b10 [.int .i64 0, (.slice none 0 0)] 40, .cells b5 [.int .u8 (a0.fWide.toNat : Int), .int .u8 (a0.fHigh.toNat : Int), .int .u16 (a0.fLess.toNat : Int), v0_3] 34] := hS7162.arr (.one (.tl .hd) (.one (.tl .hd) (.one (.tl .hd) (.one (.tl .hd) (.one (.tl .hd) .done)))))
          have hT7165 : Tr w7161 _ w7161 [.row w.heap.size 46 (Rep.size (Int × Int)) (.slice none 0 0) (([] : List (Int × Int)).length) [], .row w.heap.size 46 (Rep.size (Int × Int)) v7159 xs7152.length cs7158, .cells b20 [.int .i64 s15, v7159] 40, .cells b10 [.int .i64 0, (.slice none 0 0)] 40, .cells b5 [.int .u8 (a0.fWide.toNat : Int), .int .u8 (a0.fHigh.toNat : Int), .int .u16 (a0.fLess.toNat : Int), v0_3] 34] := Tr.arr (St.arrOf hS7162 (.one (.tl .hd) (.one (.tl .hd) (.one (.tl .hd) (.one (.tl .hd) (.one (.tl .hd) .done))))))
          have hm7166 := Cells.mv hc7157 (Tr.trans hT7163 hT7165)
          exact hJ7143 (xs7152, v7159, cs7158) _ _ ⟨rfl, rfl, rfl, rfl, rfl, rfl, rfl, trivial⟩ ⟨hS7164, (Tr.trans hT7149 (Tr.trans hT7156 (Tr.trans hT7163 hT7165))), hm7166⟩ h
         ·skip
          refine MX.skip ?_
          have hm7167 := Cells.mv hc6520 (Tr.trans hT7005 hT7112)
          exact hJ7143 (xs6518, v6521, cs6519) _ _ ⟨rfl, rfl, rfl, rfl, rfl, rfl, rfl, trivial⟩ ⟨hS7111, Tr.refl _ _, hm7167⟩ h
       ·skip
        intro J7114 hJ7115 h
        try dsimp only at h
        obtain ⟨o7203, ho7202, hh7204⟩ := bind_in2 h
        refine MX.loop (α := Bool × Nat) (fun ⟨q7196, i7197⟩ => [(1, .pointer (some ⟨b5, 0, none⟩)), (2, .pointer (some ⟨b10, 0, none⟩)), (3, .int .i64 ((1 + ((a0.fWide % (4 : UInt8)).toNat) : Nat) : Int)), (5, .pointer (some ⟨b20, 0, none⟩)), (6, .int .i64 z7002), (7, .int .i64 z4892), (8, .int .i64 z6517), (9, .bool q7196), (10, .int .i64 ((i7197 : Nat) : Int))]) (fun ⟨q7196, i7197⟩ wx7197 => St w wx7197 [.row w.heap.size 46 (Rep.size (Int × Int)) (.slice none 0 0) (([] : List (Int × Int)).length) [], .row w.heap.size 46 (Rep.size (Int × Int)) v6521 xs6518.length cs6519, .cells b20 [.int .i64 s15, v6521] 40, .cells b10 [.int .i64 0, (.slice none 0 0)] 40, .cells b5 [.int .u8 (a0.fWide.toNat : Int), .int .u8 (a0.fHigh.toNat : Int), .int .u16 (a0.fLess.toNat : Int), v0_3] 34] ∧ Tr wx7003 [.row w.heap.size 46 (Rep.size (Int × Int)) (.slice none 0 0) (([] : List (Int × Int)).length) [], .row w.heap.size 46 (Rep.size (Int × Int)) v6521 xs6518.length cs6519, .cells b20 [.int .i64 s15, v6521] 40, .cells b10 [.int .i64 0, (.slice none 0 0)] 40, .cells b5 [.int .u8 (a0.fWide.toNat : Int), .int .u8 (a0.fHigh.toNat : Int), .int .u16 (a0.fLess.toNat : Int), v0_3] 34] wx7197 [.row w.heap.size 46 (Rep.size (Int × Int)) (.slice none 0 0) (([] : List (Int × Int)).length) [], .row w.heap.size 46 (Rep.size (Int × Int)) v6521 xs6518.length cs6519, .cells b20 [.int .i64 s15, v6521] 40, .cells b10 [.int .i64 0, (.slice none 0 0)] 40, .cells b5 [.int .u8 (a0.fWide.toNat : Int), .int .u8 (a0.fHigh.toNat : Int), .int .u16 (a0.fLess.toNat : Int), v0_3] 34]) (fun ⟨q7196, i7197⟩ => (q7196, i7197)) (q7003, 0) ho7202 ⟨rfl, rfl, rfl, rfl, rfl, rfl, rfl, rfl, rfl, trivial⟩ ⟨hS7004, Tr.refl _ _⟩ ?_
        rintro J7205 ⟨q7196, i7197⟩ wx7197 hJ7206 ⟨hS7198, hT7199⟩ h
        unfold wardmoteref18_Draft_Graph_l3 at h
        try dsimp only at h
        refine MX.seq ?_
        refine MX.seq ?_
        refine MX.region ?_
        refine RG.val' .plain (FV.move rfl) rfl ?_
        refine RG.val' .plain (FV.fieldAddr (off := 3) (by kernel_rfl) rfl) rfl ?_
        refine RG.val' .plain (FV.load1 (by kernel_rfl) rfl ((hS7198.memA (.tl (.tl (.tl (.tl .hd))))) 3 _ rfl)) rfl ?_
        have hm7208 := Rep.mv h0_3 (Tr.trans hT4 (Tr.trans hT9 (Tr.trans hT19 (Tr.trans hT23 (Tr.trans hT26 (Tr.trans hT30 (Tr.trans hT4898 (Tr.trans hT6523 (Tr.trans hT7005 hT7199)))))))))
        have hl7207 : a0.fMore.length ≤ 281474976710656 := Rep.lenle hm7208
        refine RG.val' .plain (FV.len (xs := a0.fMore) Tryd.underlying32 rfl hm7208) rfl ?_
        refine RG.val' .plain (FV.lssN (i := i7197) (j := a0.fMore.length) rfl rfl) rfl ?_
        refine RG.val' .plain (FV.move rfl) rfl ?_
        refine RG.ifd (s := 80) rfl h (fun c7209 h => ?_) (fun c7209 h => ?_)
        ·skip
         refine RG.val' (.yes rfl rfl) (FV.move rfl) rfl ?_
         refine RG.val' (.yes rfl rfl) (FV.lssN (i := i7197) (j := 3) rfl rfl) rfl ?_
         refine RG.val' .plain (FV.pick_t rfl rfl) rfl ?_
         refine RG.nil ?_
         refine MX.ifd rfl h (fun c7210 h => ?_) (fun c7210 h => ?_)
         ·skip
          refine MX.skip ?_
          refine MX.seq ?_
          refine MX.block ?_
          refine MX.seq ?_
          refine MX.drawT 22 tb13_18 (by kernel_rfl) (by kernel_rfl) (by kernel_rfl) (fun kt7211 kp7212 => ?_)
          refine RD.vP 0 1 kt7211 rfl kp7212 .plain (fun _ => FV.fieldAddr (off := 3) (by kernel_rfl) rfl) rfl ?_
          refine RD.val (i := 1) (m' := 3) (W := 3146360) (takeC_ok kt7211 (by kernel_rfl)) rfl kp7212 .plain (FV.load1 (by kernel_rfl) rfl ((hS7198.memA (.tl (.tl (.tl (.tl .hd))))) 3 _ rfl)) rfl ?_
          refine RD.vP 2 7 kt7211 rfl kp7212 .plain (fun _ => FV.move rfl) rfl ?_
          obtain ⟨x7213, hx7213, h⟩ := bind_in h
          obtain ⟨A7214, c7215, he7216, hk7217, cs7218, hr7219, hm7220⟩ := Rep.nth hm7208 hx7213
          obtain rfl := op_A69 hr7219
          refine RD.vP 3 15 kt7211 rfl kp7212 .plain (fun _ => FV.idxAddr (m := 2) (i := i7197) (by kernel_rfl) rfl he7216 rfl rfl hk7217) rfl ?_
          refine RD.vP 4 31 kt7211 rfl kp7212 .plain (fun _ => FV.indexArr (m := 1) (k := 0) (len := 2) (by kernel_rfl) rfl rfl rfl (by omega)) rfl ?_
          refine RD.val (i := 5) (m' := 63) (W := 3146304) (takeC_ok kt7211 (by kernel_rfl)) rfl kp7212 .plain (FV.load1 (by kernel_rfl) rfl (hm7220 0 _ rfl)) rfl ?_
          have hu7221 := x7213.1.toNat_lt
          refine RD.vP 6 127 kt7211 rfl kp7212 .plain (fun _ => FV.convN (i := x7213.1.toNat) Tryd.underlying5 Tryd.underlying3 rfl (by omega)) rfl ?_
          refine RD.vP 7 255 kt7211 rfl kp7212 .plain (fun _ => FV.fieldAddr (off := 0) (by kernel_rfl) rfl) rfl ?_
          refine RD.val (i := 8) (m' := 511) (W := 3146240) (takeC_ok kt7211 (by kernel_rfl)) rfl kp7212 .plain (FV.load1 (by kernel_rfl) rfl ((hS7198.memA (.tl (.tl .hd))) 0 _ rfl)) rfl ?_
          obtain ⟨s7222, hs7222, h⟩ := bind_in h
          refine RD.vP 9 1023 kt7211 rfl kp7212 .plain (fun _ => FV.remc (i := ((x7213.1.toNat : Nat) : Int)) (j := s15) rfl rfl hs7222) rfl ?_
          refine RD.vP 10 2047 kt7211 rfl kp7212 .plain (fun _ => FV.fieldAddr (off := 3) (by kernel_rfl) rfl) rfl ?_
          refine RD.val (i := 11) (m' := 4095) (W := 2744320) (takeC_ok kt7211 (by kernel_rfl)) rfl kp7212 .plain (FV.load1 (by kernel_rfl) rfl ((hS7198.memA (.tl (.tl (.tl (.tl .hd))))) 3 _ rfl)) rfl ?_
          refine RD.vP 12 8191 kt7211 rfl kp7212 .plain (fun _ => FV.move rfl) rfl ?_
          refine RD.vP 13 16383 kt7211 rfl kp7212 .plain (fun _ => FV.idxAddr (m := 2) (i := i7197) (by kernel_rfl) rfl he7216 rfl rfl hk7217) rfl ?_
          refine RD.vP 14 32767 kt7211 rfl kp7212 .plain (fun _ => FV.indexArr (m := 1) (k := 1) (len := 2) (by kernel_rfl) rfl rfl rfl (by omega)) rfl ?_
          refine RD.val (i := 15) (m' := 65535) (W := 2686976) (takeC_ok kt7211 (by kernel_rfl)) rfl kp7212 .plain (FV.load1 (by kernel_rfl) rfl (hm7220 1 _ rfl)) rfl ?_
          have hu7223 := x7213.2.toNat_lt
          refine RD.vP 16 131071 kt7211 rfl kp7212 .plain (fun _ => FV.convN (i := x7213.2.toNat) Tryd.underlying5 Tryd.underlying3 rfl (by omega)) rfl ?_
          refine RD.vP 17 262143 kt7211 rfl kp7212 .plain (fun _ => FV.fieldAddr (off := 0) (by kernel_rfl) rfl) rfl ?_
          refine RD.val (i := 18) (m' := 524287) (W := 2621440) (takeC_ok kt7211 (by kernel_rfl)) rfl kp7212 .plain (FV.load1 (by kernel_rfl) rfl ((hS7198.memA (.tl (.tl .hd))) 0 _ rfl)) rfl ?_
          obtain ⟨s7224, hs7224, h⟩ := bind_in h
          refine RD.vP 19 1048575 kt7211 rfl kp7212 .plain (fun _ => FV.remc (i := ((x7213.2.toNat : Nat) : Int)) (j := s15) rfl rfl hs7224) rfl ?_
          refine RD.vP 20 2097151 kt7211 rfl kp7212 .plain (fun _ => FV.assign rfl) rfl ?_
          refine RD.vP 21 4194303 kt7211 rfl kp7212 .plain (fun _ => FV.assign rfl) rfl ?_
          refine RD.done (doneD_ok kt7211 (by kernel_rfl)) ?_
          refine MX.region ?_
          refine RG.val' .plain (FV.move rfl) rfl ?_
          refine RG.val' .plain (FV.move rfl) rfl ?_
          refine RG.ifb (s := 107) rfl h (fun c7225 h => ?_) (fun c7225 h => ?_)
          ·skip
           refine RG.off (.no rfl rfl) rfl ?_
           refine RG.off (.no rfl rfl) rfl ?_
           refine RG.off (.no rfl rfl) rfl ?_
           refine RG.off (.no rfl rfl) rfl ?_
           refine RG.off (.undef rfl rfl) rfl ?_
           refine RG.off (.undef rfl rfl) rfl ?_
           refine RG.off (.undef rfl rfl) rfl ?_
           refine RG.off (.no rfl rfl) rfl ?_
           refine RG.val' .plain (FV.pick_t rfl rfl) rfl ?_
           refine RG.val' .plain (FV.move rfl) rfl ?_
           refine RG.off (.no rfl rfl) rfl ?_
           refine RG.off (.no rfl rfl) rfl ?_
           refine RG.off (.no rfl rfl) rfl ?_
           refine RG.off (.no rfl rfl) rfl ?_
           refine RG.off (.undef rfl rfl) rfl ?_
           refine RG.off (.undef rfl rfl) rfl ?_
           refine RG.off (.undef rfl rfl) rfl ?_
           refine RG.off (.no rfl rfl) rfl ?_
           refine RG.val' .plain (FV.pick_t rfl rfl) rfl ?_
           refine RG.val' .plain (FV.assign rfl) rfl ?_
           refine RG.nil ?_
           refine MX.inBlock ?_
           refine MX.region ?_
           refine RG.val' .plain (FV.move rfl) rfl ?_
           refine RG.val' .plain (FV.addN (i := i7197) (j := 1) rfl rfl (by omega)) rfl ?_
           refine RG.val' .plain (FV.assign rfl) rfl ?_
           refine RG.nil ?_
           exact hJ7206 (true, i7197 + 1) _ _ ⟨rfl, rfl, rfl, rfl, rfl, rfl, rfl, rfl, rfl, trivial⟩ ⟨hS7198, hT7199⟩ h
          ·skip
           refine RG.val' (.yes rfl rfl) (FV.move rfl) rfl ?_
           refine RG.val' (.yes rfl rfl) (FV.move rfl) rfl ?_
           refine RG.val' (.yes rfl rfl) (FV.eql (i := s7222) (j := z4892) rfl rfl) rfl ?_
           refine RG.val' (.yes rfl rfl) (FV.move rfl) rfl ?_
           refine RG.ifd (s := 111) rfl h (fun c7226 h => ?_) (fun c7226 h => ?_)
           ·skip
            refine RG.val' (.yes rfl rfl) (FV.move rfl) rfl ?_
            refine RG.val' (.yes rfl rfl) (FV.move rfl) rfl ?_
            refine RG.val' (.yes rfl rfl) (FV.eql (i := s7224) (j := z6517) rfl rfl) rfl ?_
            refine RG.val' (.yes rfl rfl) (FV.pick_t rfl rfl) rfl ?_
            refine RG.val' .plain (FV.pick_f rfl rfl) rfl ?_
            refine RG.val' .plain (FV.move rfl) rfl ?_
            refine RG.ifd (s := 117) rfl h (fun c7227 h => ?_) (fun c7227 h => ?_)
            ·skip
             refine RG.off (.no rfl rfl) rfl ?_
             refine RG.off (.no rfl rfl) rfl ?_
             refine RG.off (.no rfl rfl) rfl ?_
             refine RG.off (.no rfl rfl) rfl ?_
             refine RG.off (.undef rfl rfl) rfl ?_
             refine RG.off (.undef rfl rfl) rfl ?_
             refine RG.off (.undef rfl rfl) rfl ?_
             refine RG.off (.no rfl rfl) rfl ?_
             refine RG.val' .plain (FV.pick_t rfl rfl) rfl ?_
             refine RG.val' .plain (FV.assign rfl) rfl ?_
             refine RG.nil ?_
             refine MX.inBlock ?_
             refine MX.region ?_
             refine RG.val' .plain (FV.move rfl) rfl ?_
             refine RG.val' .plain (FV.addN (i := i7197) (j := 1) rfl rfl (by omega)) rfl ?_
             refine RG.val' .plain (FV.assign rfl) rfl ?_
             refine RG.nil ?_
             exact hJ7206 (true, i7197 + 1) _ _ ⟨rfl, rfl, rfl, rfl, rfl, rfl, rfl, rfl, rfl, trivial⟩ ⟨hS7198, hT7199⟩ h
            ·skip
             refine RG.val' (.yes rfl rfl) (FV.move rfl) rfl ?_
             refine RG.val' (.yes rfl rfl) (FV.move rfl) rfl ?_
             refine RG.val' (.yes rfl rfl) (FV.eql (i := s7222) (j := z6517) rfl rfl) rfl ?_
             refine RG.val' (.yes rfl rfl) (FV.move rfl) rfl ?_
             refine RG.ifd (s := 121) rfl h (fun c7228 h => ?_) (fun c7228 h => ?_)
             ·skip
              refine RG.val' (.yes rfl rfl) (FV.move rfl) rfl ?_
              refine RG.val' (.yes rfl rfl) (FV.move rfl) rfl ?_
              refine RG.val' (.yes rfl rfl) (FV.eql (i := s7224) (j := z4892) rfl rfl) rfl ?_
              refine RG.val' (.yes rfl rfl) (FV.pick_t rfl rfl) rfl ?_
              refine RG.val' .plain (FV.pick_f rfl rfl) rfl ?_
              refine RG.val' .plain (FV.assign rfl) rfl ?_
              refine RG.nil ?_
              refine MX.inBlock ?_
              refine MX.region ?_
              refine RG.val' .plain (FV.move rfl) rfl ?_
              refine RG.val' .plain (FV.addN (i := i7197) (j := 1) rfl rfl (by omega)) rfl ?_
              refine RG.val' .plain (FV.assign rfl) rfl ?_
              refine RG.nil ?_
              exact hJ7206 ((decide (s7224 = z4892)), i7197 + 1) _ _ ⟨rfl, rfl, rfl, rfl, rfl, rfl, rfl, rfl, rfl, trivial⟩ ⟨hS7198, hT7199⟩ h
             ·skip
              refine RG.off (.no rfl rfl) rfl ?_
              refine RG.off (.no rfl rfl) rfl ?_
              refine RG.off (.no rfl rfl) rfl ?_
              refine RG.val' (.yes rfl rfl) (FV.pick_f rfl rfl) rfl ?_
              refine RG.val' .plain (FV.pick_f rfl rfl) rfl ?_
              refine RG.val' .plain (FV.assign rfl) rfl ?_
              refine RG.nil ?_
              refine MX.inBlock ?_
              refine MX.region ?_
              refine RG.val' .plain (FV.move rfl) rfl ?_
              refine RG.val' .plain (FV.addN (i := i7197) (j := 1) rfl rfl (by omega)) rfl ?_
              refine RG.val' .plain (FV.assign rfl) rfl ?_
              refine RG.nil ?_
              exact hJ7206 (false, i7197 + 1) _ _ ⟨rfl, rfl, rfl, rfl, rfl, rfl, rfl, rfl, rfl, trivial⟩ ⟨hS7198, hT7199⟩ h
           ·skip
            refine RG.off (.no rfl rfl) rfl ?_
            refine RG.off (.no rfl rfl) rfl ?_
            refine RG.off (.no rfl rfl) rfl ?_
            refine RG.val' (.yes rfl rfl) (FV.pick_f rfl rfl) rfl ?_
            refine RG.val' .plain (FV.pick_f rfl rfl) rfl ?_
            refine RG.val' .plain (FV.move rfl) rfl ?_
            refine RG.val' (.yes rfl rfl) (FV.move rfl) rfl ?_
            refine RG.val' (.yes rfl rfl) (FV.move rfl) rfl ?_
            refine RG.val' (.yes rfl rfl) (FV.eql (i := s7222) (j := z6517) rfl rfl) rfl ?_
            refine RG.val' (.yes rfl rfl) (FV.move rfl) rfl ?_
            refine RG.ifd (s := 121) rfl h (fun c7229 h => ?_) (fun c7229 h => ?_)
            ·skip
             refine RG.val' (.yes rfl rfl) (FV.move rfl) rfl ?_
             refine RG.val' (.yes rfl rfl) (FV.move rfl) rfl ?_
             refine RG.val' (.yes rfl rfl) (FV.eql (i := s7224) (j := z4892) rfl rfl) rfl ?_
             refine RG.val' (.yes rfl rfl) (FV.pick_t rfl rfl) rfl ?_
             refine RG.val' .plain (FV.pick_f rfl rfl) rfl ?_
             refine RG.val' .plain (FV.assign rfl) rfl ?_
             refine RG.nil ?_
             refine MX.inBlock ?_
             refine MX.region ?_
             refine RG.val' .plain (FV.move rfl) rfl ?_
             refine RG.val' .plain (FV.addN (i := i7197) (j := 1) rfl rfl (by omega)) rfl ?_
             refine RG.val' .plain (FV.assign rfl) rfl ?_
             refine RG.nil ?_
             exact hJ7206 ((decide (s7224 = z4892)), i7197 + 1) _ _ ⟨rfl, rfl, rfl, rfl, rfl, rfl, rfl, rfl, rfl, trivial⟩ ⟨hS7198, hT7199⟩ h
            ·skip
             refine RG.off (.no rfl rfl) rfl ?_
             refine RG.off (.no rfl rfl) rfl ?_
             refine RG.off (.no rfl rfl) rfl ?_
             refine RG.val' (.yes rfl rfl) (FV.pick_f rfl rfl) rfl ?_
             refine RG.val' .plain (FV.pick_f rfl rfl) rfl ?_
             refine RG.val' .plain (FV.assign rfl) rfl ?_
             refine RG.nil ?_
             refine MX.inBlock ?_
             refine MX.region ?_
             refine RG.val' .plain (FV.move rfl) rfl ?_
             refine RG.val' .plain (FV.addN (i := i7197) (j := 1) rfl rfl (by omega)) rfl ?_
             refine RG.val' .plain (FV.assign rfl) rfl ?_
             refine RG.nil ?_
             exact hJ7206 (false, i7197 + 1) _ _ ⟨rfl, rfl, rfl, rfl, rfl, rfl, rfl, rfl, rfl, trivial⟩ ⟨hS7198, hT7199⟩ h
         ·skip
          refine MX.exit rfl ?_
          have h := hh7204 _ h
          try dsimp only at h
          exact hJ7115 q7196 _ _ ⟨rfl, rfl, rfl, rfl, rfl, rfl, rfl, rfl, trivial⟩ ⟨hS7198, hT7199⟩ h
        ·skip
         refine RG.off (.no rfl rfl) rfl ?_
         refine RG.off (.no rfl rfl) rfl ?_
         refine RG.val' .plain (FV.pick_f rfl rfl) rfl ?_
         refine RG.nil ?_
         refine MX.cond_f rfl ?_
         refine MX.exit rfl ?_
         have h := hh7204 _ h
         try dsimp only at h
         exact hJ7115 q7196 _ _ ⟨rfl, rfl, rfl, rfl, rfl, rfl, rfl, rfl, trivial⟩ ⟨hS7198, hT7199⟩ h
      ·skip
       intro J7007 hJ7008 h
       try dsimp only at h
       refine MX.ifn rfl h (fun c7230 h => ?_) (fun c7230 h => ?_)
       ·skip
        refine MX.skip ?_
        exact hJ7008 (z6516, (!(decide (s6992 = 0)))) _ _ ⟨rfl, rfl, rfl, rfl, rfl, rfl, rfl, rfl, trivial⟩ ⟨hS6522, Tr.refl _ _⟩ h
       ·skip
        refine MX.seq ?_
        refine MX.seq ?_
        refine MX.region ?_
        refine RG.val' .plain (FV.move rfl) rfl ?_
        obtain ⟨s7231, hs7231, h⟩ := bind_in h
        refine RG.val' .plain (FV.remc (i := z6516) (j := 2) rfl rfl hs7231) rfl ?_
        refine RG.val' .plain (FV.eql (i := s7231) (j := 1) rfl rfl) rfl ?_
        refine RG.val' .plain (FV.move rfl) rfl ?_
        refine RG.ifd (s := 62) rfl h (fun c7232 h => ?_) (fun c7232 h => ?_)
        ·skip
         refine RG.val' (.yes rfl rfl) (FV.fieldAddr (off := 2) (by kernel_rfl) rfl) rfl ?_
         refine RG.val' (.yes rfl rfl) (FV.load1 (by kernel_rfl) rfl ((hS6522.memA (.tl (.tl (.tl (.tl .hd))))) 2 _ rfl)) rfl ?_
         refine RG.val' (.yes rfl rfl) (FV.move rfl) rfl ?_
         obtain ⟨s7233, hs7233, h⟩ := bind_in h
         refine RG.val' (.yes rfl rfl) (FV.quoc (i := z6516) (j := 2) rfl rfl hs7233) rfl ?_
         obtain ⟨s7234, hs7234, h⟩ := bind_in h
         refine RG.val' (.yes rfl rfl) (FV.remc (i := s7233) (j := 16) rfl rfl hs7234) rfl ?_
         refine RG.val' (.yes rfl rfl) (FV.convU (i := s7234) Tryd.underlying3 Tryd.underlying68 rfl) rfl ?_
         refine RG.val' (.yes rfl rfl) (FV.shr16 (a := a0.fLess) (j := (u64of s7234).toNat) rfl rfl) rfl ?_
         refine RG.val' (.yes rfl rfl) (FV.and16 (a := shr16 a0.fLess ((u64of s7234).toNat)) (b := (1 : UInt16)) rfl rfl) rfl ?_
         refine RG.val' (.yes rfl rfl) (FV.eqlN (i := ((shr16 a0.fLess ((u64of s7234).toNat)) &&& (1 : UInt16)).toNat) (j := 1) rfl rfl) rfl ?_
         refine RG.val' .plain (FV.pick_t rfl rfl) rfl ?_
         refine RG.nil ?_
         refine MX.ifd rfl h (fun c7235 h => ?_) (fun c7235 h => ?_)
         ·skip
          refine MX.region ?_
          refine RG.val' .plain (FV.assign rfl) rfl ?_
          refine RG.nil ?_
          refine MX.region ?_
          refine RG.val' .plain (FV.move rfl) rfl ?_
          obtain ⟨s7236, hs7236, h⟩ := bind_in h
          refine RG.val' .plain (FV.addc (i := z6516) (j := 1) rfl rfl hs7236) rfl ?_
          refine RG.val' .plain (FV.assign rfl) rfl ?_
          refine RG.nil ?_
          exact hJ7008 (s7236, false) _ _ ⟨rfl, rfl, rfl, rfl, rfl, rfl, rfl, rfl, trivial⟩ ⟨hS6522, Tr.refl _ _⟩ h
         ·skip
          refine MX.skip ?_
          refine MX.region ?_
          refine RG.val' .plain (FV.move rfl) rfl ?_
          obtain ⟨s7237, hs7237, h⟩ := bind_in h
          refine RG.val' .plain (FV.addc (i := z6516) (j := 1) rfl rfl hs7237) rfl ?_
          refine RG.val' .plain (FV.assign rfl) rfl ?_
          refine RG.nil ?_
          exact hJ7008 (s7237, (!(decide (s6992 = 0)))) _ _ ⟨rfl, rfl, rfl, rfl, rfl, rfl, rfl, rfl, trivial⟩ ⟨hS6522, Tr.refl _ _⟩ h
        ·skip
         refine RG.off (.no rfl rfl) rfl ?_
         refine RG.off (.no rfl rfl) rfl ?_
         refine RG.off (.no rfl rfl) rfl ?_
         refine RG.off (.no rfl rfl) rfl ?_
         refine RG.off (.no rfl rfl) rfl ?_
         refine RG.off (.no rfl rfl) rfl ?_
         refine RG.off (.no rfl rfl) rfl ?_
         refine RG.off (.no rfl rfl) rfl ?_
         refine RG.off (.no rfl rfl) rfl ?_
         refine RG.val' .plain (FV.pick_f rfl rfl) rfl ?_
         refine RG.nil ?_
         refine MX.cond_f rfl ?_
         refine MX.skip ?_
         refine MX.region ?_
         refine RG.val' .plain (FV.move rfl) rfl ?_
         obtain ⟨s7238, hs7238, h⟩ := bind_in h
         refine RG.val' .plain (FV.addc (i := z6516) (j := 1) rfl rfl hs7238) rfl ?_
         refine RG.val' .plain (FV.assign rfl) rfl ?_
         refine RG.nil ?_
         exact hJ7008 (s7238, (!(decide (s6992 = 0)))) _ _ ⟨rfl, rfl, rfl, rfl, rfl, rfl, rfl, rfl, trivial⟩ ⟨hS6522, Tr.refl _ _⟩ h
     ·skip
      refine RG.off (.no rfl rfl) rfl ?_
      refine RG.off (.no rfl rfl) rfl ?_
      refine RG.off (.no rfl rfl) rfl ?_
      refine RG.off (.no rfl rfl) rfl ?_
      refine RG.val' (.yes rfl rfl) (FV.pick_f rfl rfl) rfl ?_
      refine RG.val' .plain (FV.pick_f rfl rfl) rfl ?_
      refine RG.val' .plain (FV.assign rfl) rfl ?_
      refine RG.nil ?_
      refine MX.seq ?_
      refine MX.seq ?_
      refine MX.region ?_
      refine RG.val' .plain (FV.move rfl) rfl ?_
      refine RG.nil ?_
      refine MX.cond_f rfl ?_
      refine MX.skip ?_
      refine MX.seq ?_
      refine MX.seq ?_
      refine MX.region ?_
      refine RG.val' .plain (FV.assign rfl) rfl ?_
      refine RG.nil ?_
      refine MX.block ?_
      refine MX.joinx (α := Bool) (fun q7340 => [(1, .pointer (some ⟨b5, 0, none⟩)), (2, .pointer (some ⟨b10, 0, none⟩)), (3, .int .i64 ((1 + ((a0.fWide % (4 : UInt8)).toNat) : Nat) : Int)), (5, .pointer (some ⟨b20, 0, none⟩)), (6, .int .i64 z6516), (7, .int .i64 z4892), (8, .int .i64 z6517), (9, .bool q7340)]) (fun q7340 wx7340 => St w wx7340 [.row w.heap.size 46 (Rep.size (Int × Int)) (.slice none 0 0) (([] : List (Int × Int)).length) [], .row w.heap.size 46 (Rep.size (Int × Int)) v6521 xs6518.length cs6519, .cells b20 [.int .i64 s15, v6521] 40, .cells b10 [.int .i64 0, (.slice none 0 0)] 40, .cells b5 [.int .u8 (a0.fWide.toNat : Int), .int .u8 (a0.fHigh.toNat : Int), .int .u16 (a0.fLess.toNat : Int), v0_3] 34] ∧ Tr wx6521 [.row w.heap.size 46 (Rep.size (Int × Int)) (.slice none 0 0) (([] : List (Int × Int)).length) [], .row w.heap.size 46 (Rep.size (Int × Int)) v6521 xs6518.length cs6519, .cells b20 [.int .i64 s15, v6521] 40, .cells b10 [.int .i64 0, (.slice none 0 0)] 40, .cells b5 [.int .u8 (a0.fWide.toNat : Int), .int .u8 (a0.fHigh.toNat : Int), .int .u16 (a0.fLess.toNat : Int), v0_3] 34] wx7340 [.row w.heap.size 46 (Rep.size (Int × Int)) (.slice none 0 0) (([] : List (Int × Int)).length) [], .row w.heap.size 46 (Rep.size (Int × Int)) v6521 xs6518.length cs6519, .cells b20 [.int .i64 s15, v6521] 40, .cells b10 [.int .i64 0, (.slice none 0 0)] 40, .cells b5 [.int .u8 (a0.fWide.toNat : Int), .int .u8 (a0.fHigh.toNat : Int), .int .u16 (a0.fLess.toNat : Int), v0_3] 34]) (fun q7340 => q7340) (id := 4) rfl h ?_ ?_
      ·skip
       rintro q7340 wx7340 ⟨hS7341, hT7342⟩ h
       try dsimp only at h
       refine MX.seq ?_
       refine MX.region ?_
       refine RG.val' .plain (FV.move rfl) rfl ?_
       refine RG.nil ?_
       refine MX.join (α := (List (Int × Int)) × Value × (List Value)) (fun ⟨xs7365, v7368, cs7366⟩ => [(1, .pointer (some ⟨b5, 0, none⟩)), (2, .pointer (some ⟨b10, 0, none⟩)), (3, .int .i64 ((1 + ((a0.fWide % (4 : UInt8)).toNat) : Nat) : Int)), (5, .pointer (some ⟨b20, 0, none⟩)), (6, .int .i64 z6516), (7, .int .i64 z4892), (8, .int .i64 z6517)]) (fun ⟨xs7365, v7368, cs7366⟩ wx7368 => St w wx7368 [.row w.heap.size 46 (Rep.size (Int × Int)) (.slice none 0 0) (([] : List (Int × Int)).length) [], .row w.heap.size 46 (Rep.size (Int × Int)) v7368 xs7365.length cs7366, .cells b20 [.int .i64 s15, v7368] 40, .cells b10 [.int .i64 0, (.slice none 0 0)] 40, .cells b5 [.int .u8 (a0.fWide.toNat : Int), .int .u8 (a0.fHigh.toNat : Int), .int .u16 (a0.fLess.toNat : Int), v0_3] 34] ∧ Tr wx7340 [.row w.heap.size 46 (Rep.size (Int × Int)) (.slice none 0 0) (([] : List (Int × Int)).length) [], .row w.heap.size 46 (Rep.size (Int × Int)) v6521 xs6518.length cs6519, .cells b20 [.int .i64 s15, v6521] 40, .cells b10 [.int .i64 0, (.slice none 0 0)] 40, .cells b5 [.int .u8 (a0.fWide.toNat : Int), .int .u8 (a0.fHigh.toNat : Int), .int .u16 (a0.fLess.toNat : Int), v0_3] 34] wx7368 [.row w.heap.size 46 (Rep.size (Int × Int)) (.slice none 0 0) (([] : List (Int × Int)).length) [], .row w.heap.size 46 (Rep.size (Int × Int)) v7368 xs7365.length cs7366, .cells b20 [.int .i64 s15, v7368] 40, .cells b10 [.int .i64 0, (.slice none 0 0)] 40, .cells b5 [.int .u8 (a0.fWide.toNat : Int), .int .u8 (a0.fHigh.toNat : Int), .int .u16 (a0.fLess.toNat : Int), v0_3] 34] ∧ Cells wx7368 (bl [.row w.heap.size 46 (Rep.size (Int × Int)) (.slice none 0 0) (([] : List (Int × Int)).length) [], .row w.heap.size 46 (Rep.size (Int × Int)) v7368 xs7365.length cs7366, .cells b20 [.int .i64 s15, v7368] 40, .cells b10 [.int .i64 0, (.slice none 0 0)] 40, .cells b5 [.int .u8 (a0.fWide.toNat : Int), .int .u8 (a0.fHigh.toNat : Int), .int .u16 (a0.fLess.toNat : Int), v0_3] 34] ++ L) cs7366 xs7365) (fun ⟨xs7365, v7368, cs7366⟩ => xs7365) h ?_ ?_
       ·skip
        rintro ⟨xs7365, v7368, cs7366⟩ wx7368 ⟨hS7369, hT7370, hc7367⟩ h
        try dsimp only at h
        refine MX.inBlock ?_
        refine MX.region ?_
        refine RG.val' .plain (FV.move rfl) rfl ?_
        obtain ⟨s7374, hs7374, h⟩ := bind_in h
        refine RG.val' .plain (FV.addc (i := z6517) (j := 1) rfl rfl hs7374) rfl ?_
        refine RG.val' .plain (FV.assign rfl) rfl ?_
        refine RG.nil ?_
        exact hJ6530 (z6516, s7374, xs7365, v7368, cs7366) _ _ ⟨rfl, rfl, rfl, rfl, rfl, rfl, rfl, trivial⟩ ⟨hS7369, (Tr.trans hT6523 (Tr.trans hT7342 hT7370)), hc7367⟩ h
       ·skip
        intro J7372 hJ7373 h
        try dsimp only at h
        refine MX.ifb rfl h (fun c7375 h => ?_) (fun c7375 h => ?_)
        ·skip
         refine MX.region ?_
         refine RG.val' .plain (FV.fieldAddr (off := 1) (by kernel_rfl) rfl) rfl ?_
         refine RG.val' .plain (FV.load1 (by kernel_rfl) rfl ((hS7341.memA (.tl (.tl .hd))) 1 _ rfl)) rfl ?_
         refine RG.val' .plain (FV.move rfl) rfl ?_
         refine RG.val' .plain (FV.move rfl) rfl ?_
         refine RG.val' .plain (FV.buildV (vs := [.int .i64 z4892, .int .i64 z6517]) (u := .agg #[.int .i64 z4892, .int .i64 z6517]) (evs_cons rfl (evs_cons rfl evs_nil)) (fun w9 => by kernel_rfl)) rfl ?_
         refine RG.new .plain rfl (Does.build (α := Int × Int) (xs := ([(z4892, z6517)] : List (Int × Int))) (vs := [.agg #[.int .i64 z4892, .int .i64 z6517]]) (ds' := [.int .i64 z4892, .int .i64 z6517]) rfl hS7341 el38 rfl (evs_cons rfl evs_nil) (by kernel_rfl) rfl) (fun w7377 b7380 hS7378 hT7379 => ?_)
         have hc7381 : Cells w7377 (bl [.row w.heap.size 46 (Rep.size (Int × Int)) (.slice (some ⟨b7380, 0, none⟩) 1 1) (([(z4892, z6517)] : List (Int × Int)).length) [.int .i64 z4892, .int .i64 z6517], .row w.heap.size 46 (Rep.size (Int × Int)) (.slice none 0 0) (([] : List (Int × Int)).length) [], .row w.heap.size 46 (Rep.size (Int × Int)) v6521 xs6518.length cs6519, .cells b20 [.int .i64 s15, v6521] 40, .cells b10 [.int .i64 0, (.slice none 0 0)] 40, .cells b5 [.int .u8 (a0.fWide.toNat : Int), .int .u8 (a0.fHigh.toNat : Int), .int .u16 (a0.fLess.toNat : Int), v0_3] 34] ++ L) [.int .i64 z4892, .int .i64 z6517] (([(z4892, z6517)] : List (Int × Int)) : List (Int × Int)) := Cells.cons (cs := [.int .i64 z4892, .int .i64 z6517]) (ds := []) (mk_A46 z4892 z6517) (Cells.nil _ _)
         obtain ⟨xs7382, hxs7382, h⟩ := bind_in h
         have hm7383 := Cells.mv hc6520 (Tr.trans hT7342 hT7379)
         refine RG.doesL .plain rfl (DoesL.app (α := Int × Int) (ys := ([(z4892, z6517)] : List (Int × Int))) (F := fun v' cs' => [.row w.heap.size 46 (Rep.size (Int × Int)) (.slice (some ⟨b7380, 0, none⟩) 1 1) (([(z4892, z6517)] : List (Int × Int)).length) [.int .i64 z4892, .int .i64 z6517], .row w.heap.size 46 (Rep.size (Int × Int)) (.slice none 0 0) (([] : List (Int × Int)).length) [], .row w.heap.size 46 (Rep.size (Int × Int)) v' xs7382.length cs', .cells b20 [.int .i64 s15, v6521] 40, .cells b10 [.int .i64 0, (.slice none 0 0)] 40, .cells b5 [.int .u8 (a0.fWide.toNat : Int), .int .u8 (a0.fHigh.toNat : Int), .int .u16 (a0.fLess.toNat : Int), v0_3] 34]) hxs7382 hS7378 (fun _ _ => (.tl (.tl .hd))) el38 rfl rfl hm7383 (Src.row (α := Int × Int) hS7378 .hd hc7381)) (fun v7389 w7384 ⟨cs7388, hS7385, hT7386, hc7387⟩ => ?_)
         refine RG.val' .plain (FV.fieldAddr (off := 1) (by kernel_rfl) rfl) rfl ?_
         refine RG.now .plain (Acts.store (j := 1) (old := [.int .i64 s15, v6521]) (news := [v7389]) (new' := [.int .i64 s15, v7389]) hS7385 (.tl (.tl (.tl .hd))) rfl rfl rfl (St.c1 (α := Int × Int) hS7385 (.tl (.tl .hd))) rfl rfl (ones_cons (St.o1 (α := Int × Int) hS7385 (.tl (.tl .hd))) ones_nil) rfl) (fun w7391 hS7392 hT7393 => ?_)
         refine RG.nil ?_
         have hS7394 : St _ _ [.row w.heap.size 46 (Rep.size (Int × Int)) (.slice none 0 0) (([] : List (Int × Int)).length) [], .row w.heap.size 46 (Rep.size (Int × Int)) v7389 xs7382.length cs7388, .cells b20 [.int .i64 s15, v7389] 40, .cells b10 [.int .i64 0, (.slice none 0 0)] 40, .cells b5 [.int .u8 (a0.fWide.toNat : Int), .int .u8 (a0.fHigh.toNat : Int), .int .u16 (a0.fLess.toNat : Int), v0_3] 34] := hS7392.arr (.one (.tl .hd) (.one (.tl .hd) (.one (.tl .hd) (.one (.tl .hd) (.one (.tl .hd) .done)))))
         have hT7395 : Tr w7391 _ w7391 [.row w.heap.size 46 (Rep.size (Int × Int)) (.slice none 0 0) (([] : List (Int × Int)).length) [], .row w.heap.size 46 (Rep.size (Int × Int)) v7389 xs7382.length cs7388, .cells b20 [.int .i64 s15, v7389] 40, .cells b10 [.int .i64 0, (.slice none 0 0)] 40, .cells b5 [.int .u8 (a0.fWide.toNat : Int), .int .u8 (a0.fHigh.toNat : Int), .int .u16 (a0.fLess.toNat : Int), v0_3] 34] := Tr.arr (St.arrOf hS7392 (.one (.tl .hd) (.one (.tl .hd) (.one (.tl .hd) (.one (.tl .hd) (.one (.tl .hd) .done))))))
         have hm7396 := Cells.mv hc7387 (Tr.trans hT7393 hT7395)
         exact hJ7373 (xs7382, v7389, cs7388) _ _ ⟨rfl, rfl, rfl, rfl, rfl, rfl, rfl, trivial⟩ ⟨hS7394, (Tr.trans hT7379 (Tr.trans hT7386 (Tr.trans hT7393 hT7395))), hm7396⟩ h
        ·skip
         refine MX.skip ?_
         have hm7397 := Cells.mv hc6520 hT7342
         exact hJ7373 (xs6518, v6521, cs6519) _ _ ⟨rfl, rfl, rfl, rfl, rfl, rfl, rfl, trivial⟩ ⟨hS7341, Tr.refl _ _, hm7397⟩ h
      ·skip
       intro J7344 hJ7345 h
       try dsimp only at h
       obtain ⟨o7433, ho7432, hh7434⟩ := bind_in2 h
       refine MX.loop (α := Bool × Nat) (fun ⟨q7426, i7427⟩ => [(1, .pointer (some ⟨b5, 0, none⟩)), (2, .pointer (some ⟨b10, 0, none⟩)), (3, .int .i64 ((1 + ((a0.fWide % (4 : UInt8)).toNat) : Nat) : Int)), (5, .pointer (some ⟨b20, 0, none⟩)), (6, .int .i64 z6516), (7, .int .i64 z4892), (8, .int .i64 z6517), (9, .bool q7426), (10, .int .i64 ((i7427 : Nat) : Int))]) (fun ⟨q7426, i7427⟩ wx7427 => St w wx7427 [.row w.heap.size 46 (Rep.size (Int × Int)) (.slice none 0 0) (([] : List (Int × Int)).length) [], .row w.heap.size 46 (Rep.size (Int × Int)) v6521 xs6518.length cs6519, .cells b20 [.int .i64 s15, v6521] 40, .cells b10 [.int .i64 0, (.slice none 0 0)] 40, .cells b5 [.int .u8 (a0.fWide.toNat : Int), .int .u8 (a0.fHigh.toNat : Int), .int .u16 (a0.fLess.toNat : Int), v0_3] 34] ∧ Tr wx6521 [.row w.heap.size 46 (Rep.size (Int × Int)) (.slice none 0 0) (([] : List (Int × Int)).length) [], .row w.heap.size 46 (Rep.size (Int × Int)) v6521 xs6518.length cs6519, .cells b20 [.int .i64 s15, v6521] 40, .cells b10 [.int .i64 0, (.slice none 0 0)] 40, .cells b5 [.int .u8 (a0.fWide.toNat : Int), .int .u8 (a0.fHigh.toNat : Int), .int .u16 (a0.fLess.toNat : Int), v0_3] 34] wx7427 [.row w.heap.size 46 (Rep.size (Int × Int)) (.slice none 0 0) (([] : List (Int × Int)).length) [], .row w.heap.size 46 (Rep.size (Int × Int)) v6521 xs6518.length cs6519, .cells b20 [.int .i64 s15, v6521] 40, .cells b10 [.int .i64 0, (.slice none 0 0)] 40, .cells b5 [.int .u8 (a0.fWide.toNat : Int), .int .u8 (a0.fHigh.toNat : Int), .int .u16 (a0.fLess.toNat : Int), v0_3] 34]) (fun ⟨q7426, i7427⟩ => (q7426, i7427)) (false, 0) ho7432 ⟨rfl, rfl, rfl, rfl, rfl, rfl, rfl, rfl, rfl, trivial⟩ ⟨hS6522, Tr.refl _ _⟩ ?_
       rintro J7435 ⟨q7426, i7427⟩ wx7427 hJ7436 ⟨hS7428, hT7429⟩ h
       unfold wardmoteref18_Draft_Graph_l4 at h
       try dsimp only at h
       refine MX.seq ?_
       refine MX.seq ?_
       refine MX.region ?_
       refine RG.val' .plain (FV.move rfl) rfl ?_
       refine RG.val' .plain (FV.fieldAddr (off := 3) (by kernel_rfl) rfl) rfl ?_
       refine RG.val' .plain (FV.load1 (by kernel_rfl) rfl ((hS7428.memA (.tl (.tl (.tl (.tl .hd))))) 3 _ rfl)) rfl ?_
       have hm7438 := Rep.mv h0_3 (Tr.trans hT4 (Tr.trans hT9 (Tr.trans hT19 (Tr.trans hT23 (Tr.trans hT26 (Tr.trans hT30 (Tr.trans hT4898 (Tr.trans hT6523 hT7429))))))))
       have hl7437 : a0.fMore.length ≤ 281474976710656 := Rep.lenle hm7438
       refine RG.val' .plain (FV.len (xs := a0.fMore) Tryd.underlying32 rfl hm7438) rfl ?_
       refine RG.val' .plain (FV.lssN (i := i7427) (j := a0.fMore.length) rfl rfl) rfl ?_
       refine RG.val' .plain (FV.move rfl) rfl ?_
       refine RG.ifd (s := 80) rfl h (fun c7439 h => ?_) (fun c7439 h => ?_)
       ·skip
        refine RG.val' (.yes rfl rfl) (FV.move rfl) rfl ?_
        refine RG.val' (.yes rfl rfl) (FV.lssN (i := i7427) (j := 3) rfl rfl) rfl ?_
        refine RG.val' .plain (FV.pick_t rfl rfl) rfl ?_
        refine RG.nil ?_
        refine MX.ifd rfl h (fun c7440 h => ?_) (fun c7440 h => ?_)
        ·skip
         refine MX.skip ?_
         refine MX.seq ?_
         refine MX.block ?_
         refine MX.seq ?_
         refine MX.drawT 22 tb13_18 (by kernel_rfl) (by kernel_rfl) (by kernel_rfl) (fun kt7441 kp7442 => ?_)
         refine RD.vP 0 1 kt7441 rfl kp7442 .plain (fun _ => FV.fieldAddr (off := 3) (by kernel_rfl) rfl) rfl ?_
         refine RD.val (i := 1) (m' := 3) (W := 3146360) (takeC_ok kt7441 (by kernel_rfl)) rfl kp7442 .plain (FV.load1 (by kernel_rfl) rfl ((hS7428.memA (.tl (.tl (.tl (.tl .hd))))) 3 _ rfl)) rfl ?_
         refine RD.vP 2 7 kt7441 rfl kp7442 .plain (fun _ => FV.move rfl) rfl ?_
         obtain ⟨x7443, hx7443, h⟩ := bind_in h
         obtain ⟨A7444, c7445, he7446, hk7447, cs7448, hr7449, hm7450⟩ := Rep.nth hm7438 hx7443
         obtain rfl := op_A69 hr7449
         refine RD.vP 3 15 kt7441 rfl kp7442 .plain (fun _ => FV.idxAddr (m := 2) (i := i7427) (by kernel_rfl) rfl he7446 rfl rfl hk7447) rfl ?_
         refine RD.vP 4 31 kt7441 rfl kp7442 .plain (fun _ => FV.indexArr (m := 1) (k := 0) (len := 2) (by kernel_rfl) rfl rfl rfl (by omega)) rfl ?_
         refine RD.val (i := 5) (m' := 63) (W := 3146304) (takeC_ok kt7441 (by kernel_rfl)) rfl kp7442 .plain (FV.load1 (by kernel_rfl) rfl (hm7450 0 _ rfl)) rfl ?_
         have hu7451 := x7443.1.toNat_lt
         refine RD.vP 6 127 kt7441 rfl kp7442 .plain (fun _ => FV.convN (i := x7443.1.toNat) Tryd.underlying5 Tryd.underlying3 rfl (by omega)) rfl ?_
         refine RD.vP 7 255 kt7441 rfl kp7442 .plain (fun _ => FV.fieldAddr (off := 0) (by kernel_rfl) rfl) rfl ?_
         refine RD.val (i := 8) (m' := 511) (W := 3146240) (takeC_ok kt7441 (by kernel_rfl)) rfl kp7442 .plain (FV.load1 (by kernel_rfl) rfl ((hS7428.memA (.tl (.tl .hd))) 0 _ rfl)) rfl ?_
         obtain ⟨s7452, hs7452, h⟩ := bind_in h
         refine RD.vP 9 1023 kt7441 rfl kp7442 .plain (fun _ => FV.remc (i := ((x7443.1.toNat : Nat) : Int)) (j := s15) rfl rfl hs7452) rfl ?_
         refine RD.vP 10 2047 kt7441 rfl kp7442 .plain (fun _ => FV.fieldAddr (off := 3) (by kernel_rfl) rfl) rfl ?_
         refine RD.val (i := 11) (m' := 4095) (W := 2744320) (takeC_ok kt7441 (by kernel_rfl)) rfl kp7442 .plain (FV.load1 (by kernel_rfl) rfl ((hS7428.memA (.tl (.tl (.tl (.tl .hd))))) 3 _ rfl)) rfl ?_
         refine RD.vP 12 8191 kt7441 rfl kp7442 .plain (fun _ => FV.move rfl) rfl ?_
         refine RD.vP 13 16383 kt7441 rfl kp7442 .plain (fun _ => FV.idxAddr (m := 2) (i := i7427) (by kernel_rfl) rfl he7446 rfl rfl hk7447) rfl ?_
         refine RD.vP 14 32767 kt7441 rfl kp7442 .plain (fun _ => FV.indexArr (m := 1) (k := 1) (len := 2) (by kernel_rfl) rfl rfl rfl (by omega)) rfl ?_
         refine RD.val (i := 15) (m' := 65535) (W := 2686976) (takeC_ok kt7441 (by kernel_rfl)) rfl kp7442 .plain (FV.load1 (by kernel_rfl) rfl (hm7450 1 _ rfl)) rfl ?_
         have hu7453 := x7443.2.toNat_lt
         refine RD.vP 16 131071 kt7441 rfl kp7442 .plain (fun _ => FV.convN (i := x7443.2.toNat) Tryd.underlying5 Tryd.underlying3 rfl (by omega)) rfl ?_
         refine RD.vP 17 262143 kt7441 rfl kp7442 .plain (fun _ => FV.fieldAddr (off := 0) (by kernel_rfl) rfl) rfl ?_
         refine RD.val (i := 18) (m' := 524287) (W := 2621440) (takeC_ok kt7441 (by kernel_rfl)) rfl kp7442 .plain (FV.load1 (by kernel_rfl) rfl ((hS7428.memA (.tl (.tl .hd))) 0 _ rfl)) rfl ?_
         obtain ⟨s7454, hs7454, h⟩ := bind_in h
         refine RD.vP 19 1048575 kt7441 rfl kp7442 .plain (fun _ => FV.remc (i := ((x7443.2.toNat : Nat) : Int)) (j := s15) rfl rfl hs7454) rfl ?_
         refine RD.vP 20 2097151 kt7441 rfl kp7442 .plain (fun _ => FV.assign rfl) rfl ?_
         refine RD.vP 21 4194303 kt7441 rfl kp7442 .plain (fun _ => FV.assign rfl) rfl ?_
         refine RD.done (doneD_ok kt7441 (by kernel_rfl)) ?_
         refine MX.region ?_
         refine RG.val' .plain (FV.move rfl) rfl ?_
         refine RG.val' .plain (FV.move rfl) rfl ?_
         refine RG.ifb (s := 107) rfl h (fun c7455 h => ?_) (fun c7455 h => ?_)
         ·skip
          refine RG.off (.no rfl rfl) rfl ?_
          refine RG.off (.no rfl rfl) rfl ?_
          refine RG.off (.no rfl rfl) rfl ?_
          refine RG.off (.no rfl rfl) rfl ?_
          refine RG.off (.undef rfl rfl) rfl ?_
          refine RG.off (.undef rfl rfl) rfl ?_
          refine RG.off (.undef rfl rfl) rfl ?_
          refine RG.off (.no rfl rfl) rfl ?_
          refine RG.val' .plain (FV.pick_t rfl rfl) rfl ?_
          refine RG.val' .plain (FV.move rfl) rfl ?_
          refine RG.off (.no rfl rfl) rfl ?_
          refine RG.off (.no rfl rfl) rfl ?_
          refine RG.off (.no rfl rfl) rfl ?_
          refine RG.off (.no rfl rfl) rfl ?_
          refine RG.off (.undef rfl rfl) rfl ?_
          refine RG.off (.undef rfl rfl) rfl ?_
          refine RG.off (.undef rfl rfl) rfl ?_
          refine RG.off (.no rfl rfl) rfl ?_
          refine RG.val' .plain (FV.pick_t rfl rfl) rfl ?_
          refine RG.val' .plain (FV.assign rfl) rfl ?_
          refine RG.nil ?_
          refine MX.inBlock ?_
          refine MX.region ?_
          refine RG.val' .plain (FV.move rfl) rfl ?_
          refine RG.val' .plain (FV.addN (i := i7427) (j := 1) rfl rfl (by omega)) rfl ?_
          refine RG.val' .plain (FV.assign rfl) rfl ?_
          refine RG.nil ?_
          exact hJ7436 (true, i7427 + 1) _ _ ⟨rfl, rfl, rfl, rfl, rfl, rfl, rfl, rfl, rfl, trivial⟩ ⟨hS7428, hT7429⟩ h
         ·skip
          refine RG.val' (.yes rfl rfl) (FV.move rfl) rfl ?_
          refine RG.val' (.yes rfl rfl) (FV.move rfl) rfl ?_
          refine RG.val' (.yes rfl rfl) (FV.eql (i := s7452) (j := z4892) rfl rfl) rfl ?_
          refine RG.val' (.yes rfl rfl) (FV.move rfl) rfl ?_
          refine RG.ifd (s := 111) rfl h (fun c7456 h => ?_) (fun c7456 h => ?_)
          ·skip
           refine RG.val' (.yes rfl rfl) (FV.move rfl) rfl ?_
           refine RG.val' (.yes rfl rfl) (FV.move rfl) rfl ?_
           refine RG.val' (.yes rfl rfl) (FV.eql (i := s7454) (j := z6517) rfl rfl) rfl ?_
           refine RG.val' (.yes rfl rfl) (FV.pick_t rfl rfl) rfl ?_
           refine RG.val' .plain (FV.pick_f rfl rfl) rfl ?_
           refine RG.val' .plain (FV.move rfl) rfl ?_
           refine RG.ifd (s := 117) rfl h (fun c7457 h => ?_) (fun c7457 h => ?_)
           ·skip
            refine RG.off (.no rfl rfl) rfl ?_
            refine RG.off (.no rfl rfl) rfl ?_
            refine RG.off (.no rfl rfl) rfl ?_
            refine RG.off (.no rfl rfl) rfl ?_
            refine RG.off (.undef rfl rfl) rfl ?_
            refine RG.off (.undef rfl rfl) rfl ?_
            refine RG.off (.undef rfl rfl) rfl ?_
            refine RG.off (.no rfl rfl) rfl ?_
            refine RG.val' .plain (FV.pick_t rfl rfl) rfl ?_
            refine RG.val' .plain (FV.assign rfl) rfl ?_
            refine RG.nil ?_
            refine MX.inBlock ?_
            refine MX.region ?_
            refine RG.val' .plain (FV.move rfl) rfl ?_
            refine RG.val' .plain (FV.addN (i := i7427) (j := 1) rfl rfl (by omega)) rfl ?_
            refine RG.val' .plain (FV.assign rfl) rfl ?_
            refine RG.nil ?_
            exact hJ7436 (true, i7427 + 1) _ _ ⟨rfl, rfl, rfl, rfl, rfl, rfl, rfl, rfl, rfl, trivial⟩ ⟨hS7428, hT7429⟩ h
           ·skip
            refine RG.val' (.yes rfl rfl) (FV.move rfl) rfl ?_
            refine RG.val' (.yes rfl rfl) (FV.move rfl) rfl ?_
            refine RG.val' (.yes rfl rfl) (FV.eql (i := s7452) (j := z6517) rfl rfl) rfl ?_
            refine RG.val' (.yes rfl rfl) (FV.move rfl) rfl ?_
            refine RG.ifd (s := 121) rfl h (fun c7458 h => ?_) (fun c7458 h => ?_)
            ·skip
             refine RG.val' (.yes rfl rfl) (FV.move rfl) rfl ?_
             refine RG.val' (.yes rfl rfl) (FV.move rfl) rfl ?_
             refine RG.val' (.yes rfl rfl) (FV.eql (i := s7454) (j := z4892) rfl rfl) rfl ?_
             refine RG.val' (.yes rfl rfl) (FV.pick_t rfl rfl) rfl ?_
             refine RG.val' .plain (FV.pick_f rfl rfl) rfl ?_
             refine RG.val' .plain (FV.assign rfl) rfl ?_
             refine RG.nil ?_
             refine MX.inBlock ?_
             refine MX.region ?_
             refine RG.val' .plain (FV.move rfl) rfl ?_
             refine RG.val' .plain (FV.addN (i := i7427) (j := 1) rfl rfl (by omega)) rfl ?_
             refine RG.val' .plain (FV.assign rfl) rfl ?_
             refine RG.nil ?_
             exact hJ7436 ((decide (s7454 = z4892)), i7427 + 1) _ _ ⟨rfl, rfl, rfl, rfl, rfl, rfl, rfl, rfl, rfl, trivial⟩ ⟨hS7428, hT7429⟩ h
            ·skip
             refine RG.off (.no rfl rfl) rfl ?_
             refine RG.off (.no rfl rfl) rfl ?_
             refine RG.off (.no rfl rfl) rfl ?_
             refine RG.val' (.yes rfl rfl) (FV.pick_f rfl rfl) rfl ?_
             refine RG.val' .plain (FV.pick_f rfl rfl) rfl ?_
             refine RG.val' .plain (FV.assign rfl) rfl ?_
             refine RG.nil ?_
             refine MX.inBlock ?_
             refine MX.region ?_
             refine RG.val' .plain (FV.move rfl) rfl ?_
             refine RG.val' .plain (FV.addN (i := i7427) (j := 1) rfl rfl (by omega)) rfl ?_
             refine RG.val' .plain (FV.assign rfl) rfl ?_
             refine RG.nil ?_
             exact hJ7436 (false, i7427 + 1) _ _ ⟨rfl, rfl, rfl, rfl, rfl, rfl, rfl, rfl, rfl, trivial⟩ ⟨hS7428, hT7429⟩ h
          ·skip
           refine RG.off (.no rfl rfl) rfl ?_
           refine RG.off (.no rfl rfl) rfl ?_
           refine RG.off (.no rfl rfl) rfl ?_
           refine RG.val' (.yes rfl rfl) (FV.pick_f rfl rfl) rfl ?_
           refine RG.val' .plain (FV.pick_f rfl rfl) rfl ?_
           refine RG.val' .plain (FV.move rfl) rfl ?_
           refine RG.val' (.yes rfl rfl) (FV.move rfl) rfl ?_
           refine RG.val' (.yes rfl rfl) (FV.move rfl) rfl ?_
           refine RG.val' (.yes rfl rfl) (FV.eql (i := s7452) (j := z6517) rfl rfl) rfl ?_
           refine RG.val' (.yes rfl rfl) (FV.move rfl) rfl ?_
           refine RG.ifd (s := 121) rfl h (fun c7459 h => ?_) (fun c7459 h => ?_)
           ·skip
            refine RG.val' (.yes rfl rfl) (FV.move rfl) rfl ?_
            refine RG.val' (.yes rfl rfl) (FV.move rfl) rfl ?_
            refine RG.val' (.yes rfl rfl) (FV.eql (i := s7454) (j := z4892) rfl rfl) rfl ?_
            refine RG.val' (.yes rfl rfl) (FV.pick_t rfl rfl) rfl ?_
            refine RG.val' .plain (FV.pick_f rfl rfl) rfl ?_
            refine RG.val' .plain (FV.assign rfl) rfl ?_
            refine RG.nil ?_
            refine MX.inBlock ?_
            refine MX.region ?_
            refine RG.val' .plain (FV.move rfl) rfl ?_
            refine RG.val' .plain (FV.addN (i := i7427) (j := 1) rfl rfl (by omega)) rfl ?_
            refine RG.val' .plain (FV.assign rfl) rfl ?_
            refine RG.nil ?_
            exact hJ7436 ((decide (s7454 = z4892)), i7427 + 1) _ _ ⟨rfl, rfl, rfl, rfl, rfl, rfl, rfl, rfl, rfl, trivial⟩ ⟨hS7428, hT7429⟩ h
           ·skip
            refine RG.off (.no rfl rfl) rfl ?_
            refine RG.off (.no rfl rfl) rfl ?_
            refine RG.off (.no rfl rfl) rfl ?_
            refine RG.val' (.yes rfl rfl) (FV.pick_f rfl rfl) rfl ?_
            refine RG.val' .plain (FV.pick_f rfl rfl) rfl ?_
            refine RG.val' .plain (FV.assign rfl) rfl ?_
            refine RG.nil ?_
            refine MX.inBlock ?_
            refine MX.region ?_
            refine RG.val' .plain (FV.move rfl) rfl ?_
            refine RG.val' .plain (FV.addN (i := i7427) (j := 1) rfl rfl (by omega)) rfl ?_
            refine RG.val' .plain (FV.assign rfl) rfl ?_
            refine RG.nil ?_
            exact hJ7436 (false, i7427 + 1) _ _ ⟨rfl, rfl, rfl, rfl, rfl, rfl, rfl, rfl, rfl, trivial⟩ ⟨hS7428, hT7429⟩ h
        ·skip
         refine MX.exit rfl ?_
         have h := hh7434 _ h
         try dsimp only at h
         exact hJ7345 q7426 _ _ ⟨rfl, rfl, rfl, rfl, rfl, rfl, rfl, rfl, trivial⟩ ⟨hS7428, hT7429⟩ h
       ·skip
        refine RG.off (.no rfl rfl) rfl ?_
        refine RG.off (.no rfl rfl) rfl ?_
        refine RG.val' .plain (FV.pick_f rfl rfl) rfl ?_
        refine RG.nil ?_
        refine MX.cond_f rfl ?_
        refine MX.exit rfl ?_
        have h := hh7434 _ h
        try dsimp only at h
        exact hJ7345 q7426 _ _ ⟨rfl, rfl, rfl, rfl, rfl, rfl, rfl, rfl, trivial⟩ ⟨hS7428, hT7429⟩ h
   ·skip
    refine MX.exit rfl ?_
    have h := hh6528 _ h
    try dsimp only at h
    refine MX.inBlock ?_
    refine MX.region ?_
    refine RG.val' .plain (FV.move rfl) rfl ?_
    obtain ⟨s7460, hs7460, h⟩ := bind_in h
    refine RG.val' .plain (FV.addc (i := z4892) (j := 1) rfl rfl hs7460) rfl ?_
    refine RG.val' .plain (FV.assign rfl) rfl ?_
    refine RG.nil ?_
    exact hJ4905 (z6516, s7460, xs6518, v6521, cs6519) _ _ ⟨rfl, rfl, rfl, rfl, rfl, rfl, trivial⟩ ⟨hS6522, (Tr.trans hT4898 hT6523), hc6520⟩ h
  ·skip
   refine MX.exit rfl ?_
   have h := hh4903 _ h
   try dsimp only at h
   refine MX.seq ?_
   refine MX.region ?_
   refine RG.val' .plain (FV.loadN (cs := [.int .i64 s15, v4896]) (by kernel_rfl) rfl (hS4897.memA (.tl (.tl .hd)))) rfl ?_
   refine RG.now .plain (Acts.store (j := 0) (old := [.int .i64 0, (.slice none 0 0)]) (news := [.int .i64 s15, v4896]) (new' := [.int .i64 s15, v4896]) hS4897 (.tl (.tl (.tl .hd))) rfl rfl rfl rfl rfl rfl (ones_cons rfl (ones_cons (St.o1 (α := Int × Int) hS4897 (.tl .hd)) ones_nil)) rfl) (fun w7461 hS7462 hT7463 => ?_)
   refine RG.nil ?_
   refine MX.ret rfl ?_
   have hm7467 := Cells.mv hc4895 hT7463
   have hr7464 := St.freeze (α := Int × Int) hS7462 (.tl .hd) hm7467 hL
   have hS7465 := hS7462.del ((.tl .hd) : Out _ _ _).del
   have hT7466 := Tr.del (w := w7461) ((.tl .hd) : Out [.row w.heap.size 46 (Rep.size (Int × Int)) (.slice none 0 0) (([] : List (Int × Int)).length) [], .row w.heap.size 46 (Rep.size (Int × Int)) v4896 xs4893.length cs4894, .cells b20 [.int .i64 s15, v4896] 40, .cells b10 [.int .i64 s15, v4896] 40, .cells b5 [.int .u8 (a0.fWide.toNat : Int), .int .u8 (a0.fHigh.toNat : Int), .int .u16 (a0.fLess.toNat : Int), v0_3] 34] _ _).del
   have hr7468 : Rep.R w7461 (bl [.row w.heap.size 46 (Rep.size (Int × Int)) (.slice none 0 0) (([] : List (Int × Int)).length) [], .cells b20 [.int .i64 s15, v4896] 40, .cells b10 [.int .i64 s15, v4896] 40, .cells b5 [.int .u8 (a0.fWide.toNat : Int), .int .u8 (a0.fHigh.toNat : Int), .int .u16 (a0.fLess.toNat : Int), v0_3] 34] ++ L) [v4896] xs4893 := hr7464
   refine RT.leave (u := .agg #[.int .i64 s15, v4896]) hb0 Tryd.func13 rfl (.cons (.many (cs := [.int .i64 s15, v4896]) (by kernel_rfl) rfl (hS7465.memA (.tl (.tl .hd)))) .nil) rfl ?_
   obtain rfl := Option.some.inj h
   exact ⟨hS7465.ag, fun w9 hw9 => ⟨v4896, rfl, Rep.keep0 (Rep.dropO (O := [.row w.heap.size 46 (Rep.size (Int × Int)) (.slice none 0 0) (([] : List (Int × Int)).length) [], .cells b20 [.int .i64 s15, v4896] 40, .cells b10 [.int .i64 s15, v4896] 40, .cells b5 [.int .u8 (a0.fWide.toNat : Int), .int .u8 (a0.fHigh.toNat : Int), .int .u16 (a0.fLess.toNat : Int), v0_3] 34]) hr7468) hw9⟩⟩
def wardmoteref18_Has_p (n : Nat) (a0 : UInt64) (a1 : Int) : Option Bool :=
  some (decide (((shrU a0 (u64of a1).toNat) &&& (1 : UInt64)) = (1 : UInt64)))
set_option maxRecDepth 4000 in
set_option maxHeartbeats 4000000 in
theorem wardmoteref18_Has_c (n : Nat) (L : List Nat) (w : World) (hL : ∀ b ∈ L, b < w.heap.size) (a0 : UInt64) (a1 : Int)  {r : Bool} (h : wardmoteref18_Has_p n a0 a1 = some r) :
    Calls Tryd.prog 79 #[.int .u64 (a0.toNat : Int), .int .i64 a1] w (Gives w fun w' u => u = .bool r) := by
  unfold wardmoteref18_Has_p at h
  have hS0 := St.start w
  refine MX.start Tryd.func79 rfl rfl rfl (fun _ cs0 hb0 => ?_)
  refine MX.seq ?_
  refine MX.region ?_
  refine RG.val' .plain (FV.assign rfl) rfl ?_
  refine RG.nil ?_
  refine MX.seq ?_
  refine MX.region ?_
  refine RG.val' .plain (FV.move rfl) rfl ?_
  refine RG.val' .plain (FV.move rfl) rfl ?_
  refine RG.val' .plain (FV.convU (i := a1) Tryd.underlying3 Tryd.underlying68 rfl) rfl ?_
  refine RG.val' .plain (FV.shrU (a := a0) (j := (u64of a1).toNat) rfl rfl) rfl ?_
  refine RG.val' .plain (FV.andU (a := shrU a0 (u64of a1).toNat) (b := (1 : UInt64)) rfl rfl) rfl ?_
  refine RG.val' .plain (FV.eqlU (a := (shrU a0 (u64of a1).toNat) &&& (1 : UInt64)) (b := (1 : UInt64)) rfl rfl) rfl ?_
  refine RG.val' .plain (FV.assign rfl) rfl ?_
  refine RG.nil ?_
  refine MX.ret rfl ?_
  refine RT.leave (u := .bool (decide (((shrU a0 (u64of a1).toNat) &&& (1 : UInt64)) = (1 : UInt64)))) hb0 Tryd.func79 rfl (.cons (.tmp rfl) .nil) rfl ?_
  obtain rfl := Option.some.inj h
  exact ⟨hS0.ag, fun w9 hw9 => rfl⟩
theorem body79 : bodyB Tryd.prog 79 = true := by kernel_rfl
def wardmoteref30_Inner_p (n : Nat) (a0 : TGraph) (a1 : UInt64) (a2 : Int) : Option Bool :=
  (if 0 ≤ a2 then (if a2 < ((a0.fEdges.length : Nat) : Int) then (idx a0.fEdges a2).bind fun x10 => (wardmoteref18_Has_p n a1 x10.1).bind fun y20 => (if y20 = true then (wardmoteref18_Has_p n a1 x10.2).bind fun y22 => some y22 else some false) else some false) else some false)
set_option maxRecDepth 4000 in
set_option maxHeartbeats 4000000 in
theorem wardmoteref30_Inner_c (n : Nat) (L : List Nat) (w : World) (hL : ∀ b ∈ L, b < w.heap.size) (a0 : TGraph) {v0_1 : Value} (h0_1 : Rep.R w L [v0_1] a0.fEdges) (a1 : UInt64) (a2 : Int)  {r : Bool} (h : wardmoteref30_Inner_p n a0 a1 a2 = some r) :
    Calls Tryd.prog 48 #[.agg #[.int .i64 a0.fN, v0_1], .int .u64 (a1.toNat : Int), .int .i64 a2] w (Gives w fun w' u => u = .bool r) := by
  unfold wardmoteref30_Inner_p at h
  have hS0 := St.start w
  refine MX.start Tryd.func48 rfl rfl rfl (fun _ cs0 hb0 => ?_)
  refine MX.seq ?_
  refine MX.region ?_
  refine RG.new .plain rfl (Does.box (vs := [.int .i64 a0.fN, v0_1]) hS0 rfl rfl) (fun w2 b5 hS3 hT4 => ?_)
  refine RG.val' .plain (FV.assign rfl) rfl ?_
  refine RG.nil ?_
  refine MX.seq ?_
  refine MX.region ?_
  refine RG.val' .plain (FV.move rfl) rfl ?_
  refine RG.val' .plain (FV.geq (i := a2) (j := 0) rfl rfl) rfl ?_
  refine RG.val' .plain (FV.move rfl) rfl ?_
  refine RG.ifd (s := 9) rfl h (fun c6 h => ?_) (fun c6 h => ?_)
  ·skip
   refine RG.val' (.yes rfl rfl) (FV.move rfl) rfl ?_
   refine RG.val' (.yes rfl rfl) (FV.fieldAddr (off := 1) (by kernel_rfl) rfl) rfl ?_
   refine RG.val' (.yes rfl rfl) (FV.load1 (by kernel_rfl) rfl ((hS3.memA .hd) 1 _ rfl)) rfl ?_
   have hm8 := Rep.mv h0_1 hT4
   have hl7 : a0.fEdges.length ≤ 281474976710656 := Rep.lenle hm8
   refine RG.val' (.yes rfl rfl) (FV.len (xs := a0.fEdges) Tryd.underlying38 rfl hm8) rfl ?_
   refine RG.val' (.yes rfl rfl) (FV.lss (i := a2) (j := ((a0.fEdges.length : Nat) : Int)) rfl rfl) rfl ?_
   refine RG.val' .plain (FV.pick_t rfl rfl) rfl ?_
   refine RG.val' .plain (FV.move rfl) rfl ?_
   refine RG.ifd (s := 16) rfl h (fun c9 h => ?_) (fun c9 h => ?_)
   ·skip
    refine RG.val' (.yes rfl rfl) (FV.move rfl) rfl ?_
    refine RG.val' (.yes rfl rfl) (FV.fieldAddr (off := 1) (by kernel_rfl) rfl) rfl ?_
    refine RG.val' (.yes rfl rfl) (FV.load1 (by kernel_rfl) rfl ((hS3.memA .hd) 1 _ rfl)) rfl ?_
    refine RG.val' (.yes rfl rfl) (FV.move rfl) rfl ?_
    obtain ⟨x10, hx10, h⟩ := bind_in h
    obtain ⟨hi11, hx12⟩ := idx_in hx10
    obtain ⟨A13, c14, he15, hk16, cs17, hr18, hm19⟩ := Rep.nth hm8 hx12
    obtain rfl := op_A46 hr18
    refine RG.val' (.yes rfl rfl) (FV.idxAddr (m := 2) (i := a2.toNat) (by kernel_rfl) rfl he15 rfl hi11 hk16) rfl ?_
    refine RG.val' (.yes rfl rfl) (FV.indexArr (m := 1) (k := 0) (len := 2) (by kernel_rfl) rfl rfl rfl (by omega)) rfl ?_
    refine RG.val' (.yes rfl rfl) (FV.load1 (by kernel_rfl) rfl (hm19 0 _ rfl)) rfl ?_
    obtain ⟨y20, hy20, h⟩ := bind_in h
    refine RG.callq' (v := .bool y20) (fst := []) (cap := []) (.yes rfl rfl) body79 rfl (evs_cons rfl (evs_cons rfl evs_nil)) (fun w9 hw9 => wardmoteref18_Has_c n _ w9 (hS3.hL0 hL hw9) a1 x10.1 hy20) rfl ?_
    refine RG.val' .plain (FV.pick_t rfl rfl) rfl ?_
    refine RG.val' .plain (FV.move rfl) rfl ?_
    refine RG.ifb (s := 26) rfl h (fun c21 h => ?_) (fun c21 h => ?_)
    ·skip
     refine RG.val' (.yes rfl rfl) (FV.move rfl) rfl ?_
     refine RG.val' (.yes rfl rfl) (FV.fieldAddr (off := 1) (by kernel_rfl) rfl) rfl ?_
     refine RG.val' (.yes rfl rfl) (FV.load1 (by kernel_rfl) rfl ((hS3.memA .hd) 1 _ rfl)) rfl ?_
     refine RG.val' (.yes rfl rfl) (FV.move rfl) rfl ?_
     refine RG.val' (.yes rfl rfl) (FV.idxAddr (m := 2) (i := a2.toNat) (by kernel_rfl) rfl he15 rfl hi11 hk16) rfl ?_
     refine RG.val' (.yes rfl rfl) (FV.indexArr (m := 1) (k := 1) (len := 2) (by kernel_rfl) rfl rfl rfl (by omega)) rfl ?_
     refine RG.val' (.yes rfl rfl) (FV.load1 (by kernel_rfl) rfl (hm19 1 _ rfl)) rfl ?_
     obtain ⟨y22, hy22, h⟩ := bind_in h
     refine RG.callq' (v := .bool y22) (fst := []) (cap := []) (.yes rfl rfl) body79 rfl (evs_cons rfl (evs_cons rfl evs_nil)) (fun w9 hw9 => wardmoteref18_Has_c n _ w9 (hS3.hL0 hL hw9) a1 x10.2 hy22) rfl ?_
     refine RG.val' .plain (FV.pick_t rfl rfl) rfl ?_
     refine RG.val' .plain (FV.assign rfl) rfl ?_
     refine RG.nil ?_
     refine MX.ret rfl ?_
     refine RT.leave (u := .bool y22) hb0 Tryd.func48 rfl (.cons (.tmp rfl) .nil) rfl ?_
     obtain rfl := Option.some.inj h
     exact ⟨hS3.ag, fun w9 hw9 => rfl⟩
    ·skip
     refine RG.off (.no rfl rfl) rfl ?_
     refine RG.off (.no rfl rfl) rfl ?_
     refine RG.off (.no rfl rfl) rfl ?_
     refine RG.off (.no rfl rfl) rfl ?_
     refine RG.off (.no rfl rfl) rfl ?_
     refine RG.off (.no rfl rfl) rfl ?_
     refine RG.off (.no rfl rfl) rfl ?_
     refine RG.off (.no rfl rfl) rfl ?_
     refine RG.val' .plain (FV.pick_f rfl rfl) rfl ?_
     refine RG.val' .plain (FV.assign rfl) rfl ?_
     refine RG.nil ?_
     refine MX.ret rfl ?_
     refine RT.leave (u := .bool false) hb0 Tryd.func48 rfl (.cons (.tmp rfl) .nil) rfl ?_
     obtain rfl := Option.some.inj h
     exact ⟨hS3.ag, fun w9 hw9 => rfl⟩
   ·skip
    refine RG.off (.no rfl rfl) rfl ?_
    refine RG.off (.no rfl rfl) rfl ?_
    refine RG.off (.no rfl rfl) rfl ?_
    refine RG.off (.no rfl rfl) rfl ?_
    refine RG.off (.no rfl rfl) rfl ?_
    refine RG.off (.no rfl rfl) rfl ?_
    refine RG.off (.no rfl rfl) rfl ?_
    refine RG.off (.no rfl rfl) rfl ?_
    refine RG.val' .plain (FV.pick_f rfl rfl) rfl ?_
    refine RG.val' .plain (FV.move rfl) rfl ?_
    refine RG.off (.no rfl rfl) rfl ?_
    refine RG.off (.no rfl rfl) rfl ?_
    refine RG.off (.no rfl rfl) rfl ?_
    refine RG.off (.no rfl rfl) rfl ?_
    refine RG.off (.no rfl rfl) rfl ?_
    refine RG.off (.no rfl rfl) rfl ?_
    refine RG.off (.no rfl rfl) rfl ?_
    refine RG.off (.no rfl rfl) rfl ?_
    refine RG.val' .plain (FV.pick_f rfl rfl) rfl ?_
    refine RG.val' .plain (FV.assign rfl) rfl ?_
    refine RG.nil ?_
    refine MX.ret rfl ?_
    refine RT.leave (u := .bool false) hb0 Tryd.func48 rfl (.cons (.tmp rfl) .nil) rfl ?_
    obtain rfl := Option.some.inj h
    exact ⟨hS3.ag, fun w9 hw9 => rfl⟩
  ·skip
   refine RG.off (.no rfl rfl) rfl ?_
   refine RG.off (.no rfl rfl) rfl ?_
   refine RG.off (.no rfl rfl) rfl ?_
   refine RG.off (.no rfl rfl) rfl ?_
   refine RG.off (.no rfl rfl) rfl ?_
   refine RG.val' .plain (FV.pick_f rfl rfl) rfl ?_
   refine RG.val' .plain (FV.move rfl) rfl ?_
   refine RG.off (.no rfl rfl) rfl ?_
   refine RG.off (.no rfl rfl) rfl ?_
   refine RG.off (.no rfl rfl) rfl ?_
   refine RG.off (.no rfl rfl) rfl ?_
   refine RG.off (.no rfl rfl) rfl ?_
   refine RG.off (.no rfl rfl) rfl ?_
   refine RG.off (.no rfl rfl) rfl ?_
   refine RG.off (.no rfl rfl) rfl ?_
   refine RG.val' .plain (FV.pick_f rfl rfl) rfl ?_
   refine RG.val' .plain (FV.move rfl) rfl ?_
   refine RG.off (.no rfl rfl) rfl ?_
   refine RG.off (.no rfl rfl) rfl ?_
   refine RG.off (.no rfl rfl) rfl ?_
   refine RG.off (.no rfl rfl) rfl ?_
   refine RG.off (.no rfl rfl) rfl ?_
   refine RG.off (.no rfl rfl) rfl ?_
   refine RG.off (.no rfl rfl) rfl ?_
   refine RG.off (.no rfl rfl) rfl ?_
   refine RG.val' .plain (FV.pick_f rfl rfl) rfl ?_
   refine RG.val' .plain (FV.assign rfl) rfl ?_
   refine RG.nil ?_
   refine MX.ret rfl ?_
   refine RT.leave (u := .bool false) hb0 Tryd.func48 rfl (.cons (.tmp rfl) .nil) rfl ?_
   obtain rfl := Option.some.inj h
   exact ⟨hS3.ag, fun w9 hw9 => rfl⟩
end Go.Proofs.YtplkfbljncfdnaaDoor
