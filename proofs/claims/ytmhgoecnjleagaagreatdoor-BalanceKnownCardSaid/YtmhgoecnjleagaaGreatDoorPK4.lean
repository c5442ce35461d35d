/- Functions of the program, and what they give: part 4. -/
import Derived.Test.YtmhgoecnjleagaaGreatDoorPK3
namespace Go.Proofs.YtmhgoecnjleagaaGreatDoor
open Go Go.RowKit

def tb131_5 : List (Nat × Nat × Nat) := [(0, 134217728, 64), (1, 268435456, 134217728), (0, 536870912, 256), (6, 1073741824, 536870912), (11, 0, 268435520), (31, 0, 1073742080)]
theorem body168 : bodyB Tryz.prog 168 = true := by kernel_rfl
def share_Lowest_p (n : Nat) (a0 : TLong) (a1 : TLong) : Option TRatio :=
  (wide_Long_Common_p n a0 a1).bind fun y16 => (wide_Long_Parts_p n a0 y16).bind fun y35 => (wide_Long_Parts_p n a1 y16).bind fun y65 => (if y65.1.fBelow = true then (wide_Long_Turned_p n y35.1).bind fun y98 => (wide_Long_Turned_p n y65.1).bind fun y107 => some (⟨y98, y107⟩ : TRatio) else some (⟨y35.1, y65.1⟩ : TRatio))
set_option maxRecDepth 4000 in
set_option maxHeartbeats 4000000 in
theorem share_Lowest_c (n : Nat) (L : List Nat) (w : World) (hL : ∀ b ∈ L, b < w.heap.size) (a0 : TLong) {v0_1 : Value} (h0_1 : Rep.R w L [v0_1] a0.fWords) (a1 : TLong) {v1_1 : Value} (h1_1 : Rep.R w L [v1_1] a1.fWords)  {r : TRatio} (h : share_Lowest_p n a0 a1 = some r) :
    Calls Tryz.prog 131 #[.agg #[.bool a0.fBelow, v0_1], .agg #[.bool a1.fBelow, v1_1]] w (Gives w fun w' u => ∃ v0_1 v0_3 : Value, u = .agg #[.bool r.fLong.fBelow, v0_1, .bool r.fUnder.fBelow, v0_3] ∧ Rep.R w' L [v0_1] r.fLong.fWords ∧ Rep.R w' L [v0_3] r.fUnder.fWords) := by
  unfold share_Lowest_p at h
  have hS0 := St.start w
  refine MX.start Tryz.func131 rfl rfl rfl (fun _ cs0 hb0 => ?_)
  refine MX.sr ?_
  refine RG.new .plain rfl (Does.box (vs := [.bool a0.fBelow, v0_1]) hS0 rfl rfl) (fun w2 b5 hS3 hT4 => ?_)
  refine RG.new .plain rfl (Does.box (vs := [.bool a1.fBelow, v1_1]) hS3 rfl rfl) (fun w7 b10 hS8 hT9 => ?_)
  refine RG.new .plain rfl (Does.alloc (zs := [.bool false, .slice none 0 0, .bool false, .slice none 0 0]) hS8 (zB (by kernel_rfl))) (fun w12 b15 hS13 hT14 => ?_)
  refine RG.nil ?_
  refine MX.sr ?_
  refine RG.vv (FV.loadN (by kernel_rfl) rfl (hS13.memA (.tl (.tl .hd)))) rfl ?_
  refine RG.vv (FV.loadN (by kernel_rfl) rfl (hS13.memA (.tl .hd))) rfl ?_
  obtain ⟨y16, hy16, h⟩ := bind_in h
  have hm17 := Rep.mv h0_1 (Tr.trans hT4 (Tr.trans hT9 hT14))
  have hm18 := Rep.mv h1_1 (Tr.trans hT4 (Tr.trans hT9 hT14))
  refine RG.call' (fst := []) (cap := []) .plain body167 rfl (evs_cons rfl (evs_cons rfl evs_nil)) (fun w9 hw9 => wide_Long_Common_c n _ w9 (hS13.hL hL hw9) a0 (Rep.keep0 hm17 hw9) a1 (Rep.keep0 hm18 hw9) hy16) rfl (fun w19 vu20 hag21 ⟨v24, hu_, hr25⟩ => ?_)
  subst hu_
  obtain ⟨hS22, hT23⟩ := hS13.agr hag21
  refine RG.new .plain rfl (Does.alloc (zs := [.bool false, .slice none 0 0]) hS22 (zB (by kernel_rfl))) (fun w27 b30 hS28 hT29 => ?_)
  have hm31 := Rep.mv hr25 hT29
  refine RG.now .plain (Acts.storeAll (news := [.bool y16.fBelow, v24]) hS28 .hd rfl rfl rfl rfl rfl rfl (ones_cons rfl (ones_cons (Rep.o1 hm31) ones_nil))) (fun w32 hS33 hT34 => ?_)
  refine RG.nil ?_
  refine MX.sr ?_
  refine RG.vv (FV.loadN (by kernel_rfl) rfl (hS33.memA (.tl (.tl (.tl .hd))))) rfl ?_
  refine RG.vv (FV.loadN (by kernel_rfl) rfl (hS33.memA .hd)) rfl ?_
  obtain ⟨y35, hy35, h⟩ := bind_in h
  have hm36 := Rep.mv h0_1 (Tr.trans hT4 (Tr.trans hT9 (Tr.trans hT14 (Tr.trans hT23 (Tr.trans hT29 hT34)))))
  have hm37 := Rep.mv hr25 (Tr.trans hT29 hT34)
  refine RG.call' (fst := []) (cap := []) .plain body168 rfl (evs_cons rfl (evs_cons rfl evs_nil)) (fun w9 hw9 => wide_Long_Parts_c n _ w9 (hS33.hL hL hw9) a0 (Rep.keep0 hm36 hw9) y16 (Rep.keep0 hm37 hw9) hy35) rfl (fun w38 vu39 hag40 ⟨v43, v44, hu_, hr45, hr46⟩ => ?_)
  subst hu_
  obtain ⟨hS41, hT42⟩ := hS33.agr hag40
  refine RG.mv rfl rfl ?_
  refine RG.vv (FV.extract rfl rfl) rfl ?_
  refine RG.vv (FV.extract rfl rfl) rfl ?_
  refine RG.new .plain rfl (Does.alloc (zs := [.bool false, .slice none 0 0]) hS41 (zB (by kernel_rfl))) (fun w48 b51 hS49 hT50 => ?_)
  refine RG.new .plain rfl (Does.alloc (zs := [.bool false, .slice none 0 0]) hS49 (zB (by kernel_rfl))) (fun w53 b56 hS54 hT55 => ?_)
  have hm57 := Rep.mv hr45 (Tr.trans hT50 hT55)
  refine RG.now .plain (Acts.storeAll (news := [.bool y35.1.fBelow, v43]) hS54 (.tl .hd) rfl rfl rfl rfl rfl rfl (ones_cons rfl (ones_cons (Rep.o1 hm57) ones_nil))) (fun w58 hS59 hT60 => ?_)
  have hm61 := Rep.mv hr46 (Tr.trans hT50 (Tr.trans hT55 hT60))
  refine RG.now .plain (Acts.storeAll (news := [.bool y35.2.fBelow, v44]) hS59 .hd rfl rfl rfl rfl rfl rfl (ones_cons rfl (ones_cons (Rep.o1 hm61) ones_nil))) (fun w62 hS63 hT64 => ?_)
  refine RG.nil ?_
  refine MX.sr ?_
  refine RG.vv (FV.loadN (by kernel_rfl) rfl (hS63.memA (.tl (.tl (.tl (.tl .hd)))))) rfl ?_
  refine RG.vv (FV.loadN (by kernel_rfl) rfl (hS63.memA (.tl (.tl .hd)))) rfl ?_
  obtain ⟨y65, hy65, h⟩ := bind_in h
  have hm66 := Rep.mv h1_1 (Tr.trans hT4 (Tr.trans hT9 (Tr.trans hT14 (Tr.trans hT23 (Tr.trans hT29 (Tr.trans hT34 (Tr.trans hT42 (Tr.trans hT50 (Tr.trans hT55 (Tr.trans hT60 hT64))))))))))
  have hm67 := Rep.mv hr25 (Tr.trans hT29 (Tr.trans hT34 (Tr.trans hT42 (Tr.trans hT50 (Tr.trans hT55 (Tr.trans hT60 hT64))))))
  refine RG.call' (fst := []) (cap := []) .plain body168 rfl (evs_cons rfl (evs_cons rfl evs_nil)) (fun w9 hw9 => wide_Long_Parts_c n _ w9 (hS63.hL hL hw9) a1 (Rep.keep0 hm66 hw9) y16 (Rep.keep0 hm67 hw9) hy65) rfl (fun w68 vu69 hag70 ⟨v73, v74, hu_, hr75, hr76⟩ => ?_)
  subst hu_
  obtain ⟨hS71, hT72⟩ := hS63.agr hag70
  refine RG.mv rfl rfl ?_
  refine RG.vv (FV.extract rfl rfl) rfl ?_
  refine RG.vv (FV.extract rfl rfl) rfl ?_
  refine RG.new .plain rfl (Does.alloc (zs := [.bool false, .slice none 0 0]) hS71 (zB (by kernel_rfl))) (fun w78 b81 hS79 hT80 => ?_)
  refine RG.new .plain rfl (Does.alloc (zs := [.bool false, .slice none 0 0]) hS79 (zB (by kernel_rfl))) (fun w83 b86 hS84 hT85 => ?_)
  have hm87 := Rep.mv hr75 (Tr.trans hT80 hT85)
  refine RG.now .plain (Acts.storeAll (news := [.bool y65.1.fBelow, v73]) hS84 (.tl .hd) rfl rfl rfl rfl rfl rfl (ones_cons rfl (ones_cons (Rep.o1 hm87) ones_nil))) (fun w88 hS89 hT90 => ?_)
  have hm91 := Rep.mv hr76 (Tr.trans hT80 (Tr.trans hT85 hT90))
  refine RG.now .plain (Acts.storeAll (news := [.bool y65.2.fBelow, v74]) hS89 .hd rfl rfl rfl rfl rfl rfl (ones_cons rfl (ones_cons (Rep.o1 hm91) ones_nil))) (fun w92 hS93 hT94 => ?_)
  refine RG.nil ?_
  refine MX.seq ?_
  refine MX.sr ?_
  refine RG.vv (FV.fieldAddr (off := 0) (by kernel_rfl) rfl) rfl ?_
  refine RG.vv (FV.load1 (by kernel_rfl) rfl ((hS93.memA (.tl .hd)) 0 _ rfl)) rfl ?_
  refine RG.nil ?_
  refine MX.ifb rfl h (fun c95 h => ?_) (fun c95 h => ?_)
  ·skip
   refine MX.drawT 4 tb131_5 (by kernel_rfl) (by kernel_rfl) (by kernel_rfl) (fun kt96 kp97 => ?_)
   refine RD.vx 0 1 58 kt96 rfl kp97 (FV.loadN (by kernel_rfl) rfl (hS93.memA (.tl (.tl (.tl .hd))))) rfl ?_
   refine RD.vx 2 5 56 kt96 rfl kp97 (FV.loadN (by kernel_rfl) rfl (hS93.memA (.tl .hd))) rfl ?_
   obtain ⟨y98, hy98, h⟩ := bind_in h
   have hm99 := Rep.mv hr45 (Tr.trans hT50 (Tr.trans hT55 (Tr.trans hT60 (Tr.trans hT64 (Tr.trans hT72 (Tr.trans hT80 (Tr.trans hT85 (Tr.trans hT90 hT94))))))))
   refine RD.cl 1 7 kt96 rfl .plain body137 rfl (evs_cons rfl evs_nil) (fun w9 hw9 => wide_Long_Turned_c n _ w9 (hS93.hL hL hw9) y35.1 (Rep.keep0 hm99 hw9) hy98) rfl (fun w100 vu101 hag102 ⟨v105, hu_, hr106⟩ => ?_)
   subst hu_
   obtain ⟨hS103, hT104⟩ := hS93.agr hag102
   obtain ⟨y107, hy107, h⟩ := bind_in h
   have hm108 := Rep.mv hr75 (Tr.trans hT80 (Tr.trans hT85 (Tr.trans hT90 (Tr.trans hT94 hT104))))
   refine RD.cl 3 15 kt96 rfl .plain body137 rfl (evs_cons rfl evs_nil) (fun w9 hw9 => wide_Long_Turned_c n _ w9 (hS103.hL hL hw9) y65.1 (Rep.keep0 hm108 hw9) hy107) rfl (fun w109 vu110 hag111 ⟨v114, hu_, hr115⟩ => ?_)
   subst hu_
   obtain ⟨hS112, hT113⟩ := hS103.agr hag111
   have hm116 := Rep.mv hr106 hT113
   refine RD.nw 4 31 kt96 rfl rfl .plain (Acts.storeAll (news := [.bool y98.fBelow, v105]) hS112 (.tl (.tl (.tl .hd))) rfl rfl rfl rfl rfl rfl (ones_cons rfl (ones_cons (Rep.o1 hm116) ones_nil))) (fun w117 hS118 hT119 => ?_)
   have hm120 := Rep.mv hr115 hT119
   refine RD.nw 5 63 kt96 rfl rfl .plain (Acts.storeAll (news := [.bool y107.fBelow, v114]) hS118 (.tl .hd) rfl rfl rfl rfl rfl rfl (ones_cons rfl (ones_cons (Rep.o1 hm120) ones_nil))) (fun w121 hS122 hT123 => ?_)
   refine RD.done (doneD_ok kt96 (by kernel_rfl)) ?_
   refine MX.sr ?_
   refine RG.vv (FV.loadN (by kernel_rfl) rfl (hS122.memA (.tl (.tl (.tl .hd))))) rfl ?_
   refine RG.vv (FV.loadN (by kernel_rfl) rfl (hS122.memA (.tl .hd))) rfl ?_
   have hm127 := Rep.mv hr106 (Tr.trans hT113 (Tr.trans hT119 hT123))
   obtain ⟨A124, c125, hv126, _⟩ := Rep.sl hm127
   have hm131 := Rep.mv hr115 (Tr.trans hT119 hT123)
   obtain ⟨A128, c129, hv130, _⟩ := Rep.sl hm131
   refine RG.vv (FV.buildV (vs := [.agg #[.bool y98.fBelow, v105], .agg #[.bool y107.fBelow, v114]]) (u := .agg #[.bool y98.fBelow, v105, .bool y107.fBelow, v114]) (evs_cons rfl (evs_cons rfl evs_nil)) (fun w9 => by rw [hv126, hv130]; try kernel_rfl)) rfl ?_
   refine RG.now .plain (Acts.storeAll (news := [.bool y98.fBelow, v105, .bool y107.fBelow, v114]) hS122 (.tl (.tl (.tl (.tl (.tl .hd))))) rfl rfl rfl rfl rfl rfl (ones_cons rfl (ones_cons (Rep.o1 hm127) (ones_cons rfl (ones_cons (Rep.o1 hm131) ones_nil))))) (fun w132 hS133 hT134 => ?_)
   refine RG.nil ?_
   refine MX.ret rfl ?_
   refine RT.leave hb0 Tryz.func131 rfl (.cons (.many (cs := [.bool y98.fBelow, v105, .bool y107.fBelow, v114]) (by kernel_rfl) rfl (hS133.memA (.tl (.tl (.tl (.tl (.tl .hd))))))) .nil) rfl ?_
   obtain rfl := Option.some.inj h
   have hm135 := Rep.mv hr106 (Tr.trans hT113 (Tr.trans hT119 (Tr.trans hT123 hT134)))
   have hm136 := Rep.mv hr115 (Tr.trans hT119 (Tr.trans hT123 hT134))
   exact ⟨hS133.ag, fun w9 hw9 => ⟨v105, v114, rfl, Rep.keep0 (Rep.dropS hS133 hm135) hw9, Rep.keep0 (Rep.dropS hS133 hm136) hw9⟩⟩
  refine MX.skip ?_
  refine MX.sr ?_
  refine RG.vv (FV.loadN (by kernel_rfl) rfl (hS93.memA (.tl (.tl (.tl .hd))))) rfl ?_
  refine RG.vv (FV.loadN (by kernel_rfl) rfl (hS93.memA (.tl .hd))) rfl ?_
  have hm140 := Rep.mv hr45 (Tr.trans hT50 (Tr.trans hT55 (Tr.trans hT60 (Tr.trans hT64 (Tr.trans hT72 (Tr.trans hT80 (Tr.trans hT85 (Tr.trans hT90 hT94))))))))
  obtain ⟨A137, c138, hv139, _⟩ := Rep.sl hm140
  have hm144 := Rep.mv hr75 (Tr.trans hT80 (Tr.trans hT85 (Tr.trans hT90 hT94)))
  obtain ⟨A141, c142, hv143, _⟩ := Rep.sl hm144
  refine RG.vv (FV.buildV (vs := [.agg #[.bool y35.1.fBelow, v43], .agg #[.bool y65.1.fBelow, v73]]) (u := .agg #[.bool y35.1.fBelow, v43, .bool y65.1.fBelow, v73]) (evs_cons rfl (evs_cons rfl evs_nil)) (fun w9 => by rw [hv139, hv143]; try kernel_rfl)) rfl ?_
  refine RG.now .plain (Acts.storeAll (news := [.bool y35.1.fBelow, v43, .bool y65.1.fBelow, v73]) hS93 (.tl (.tl (.tl (.tl (.tl .hd))))) rfl rfl rfl rfl rfl rfl (ones_cons rfl (ones_cons (Rep.o1 hm140) (ones_cons rfl (ones_cons (Rep.o1 hm144) ones_nil))))) (fun w145 hS146 hT147 => ?_)
  refine RG.nil ?_
  refine MX.ret rfl ?_
  refine RT.leave hb0 Tryz.func131 rfl (.cons (.many (cs := [.bool y35.1.fBelow, v43, .bool y65.1.fBelow, v73]) (by kernel_rfl) rfl (hS146.memA (.tl (.tl (.tl (.tl (.tl .hd))))))) .nil) rfl ?_
  obtain rfl := Option.some.inj h
  have hm148 := Rep.mv hr45 (Tr.trans hT50 (Tr.trans hT55 (Tr.trans hT60 (Tr.trans hT64 (Tr.trans hT72 (Tr.trans hT80 (Tr.trans hT85 (Tr.trans hT90 (Tr.trans hT94 hT147)))))))))
  have hm149 := Rep.mv hr75 (Tr.trans hT80 (Tr.trans hT85 (Tr.trans hT90 (Tr.trans hT94 hT147))))
  exact ⟨hS146.ag, fun w9 hw9 => ⟨v43, v73, rfl, Rep.keep0 (Rep.dropS hS146 hm148) hw9, Rep.keep0 (Rep.dropS hS146 hm149) hw9⟩⟩
def math_bits_Mul64_p (_n : Nat) (a0 : UInt64) (a1 : UInt64) : Option (UInt64 × UInt64) :=
  (some (((shrU a0 32) * (a1 &&& (4294967295 : UInt64))) + (shrU ((a0 &&& (4294967295 : UInt64)) * (a1 &&& (4294967295 : UInt64))) 32))).bind fun u1 => (some (shrU ((u1 &&& (4294967295 : UInt64)) + ((a0 &&& (4294967295 : UInt64)) * (shrU a1 32))) 32)).bind fun u2 => some ((((shrU a0 32) * (shrU a1 32)) + (shrU u1 32)) + u2, a0 * a1)
set_option maxRecDepth 4000 in
set_option maxHeartbeats 4000000 in
theorem math_bits_Mul64_c (n : Nat) (L : List Nat) (w : World) (_hL : ∀ b ∈ L, b < w.heap.size) (a0 : UInt64) (a1 : UInt64)  {r : UInt64 × UInt64} (h : math_bits_Mul64_p n a0 a1 = some r) :
    Calls Tryz.prog 195 #[.int .u64 (a0.toNat : Int), .int .u64 (a1.toNat : Int)] w (Gives w fun _ u => u = .tuple #[.int .u64 (r.1.toNat : Int), .int .u64 (r.2.toNat : Int)]) := by
  unfold math_bits_Mul64_p at h
  have hS0 := St.start w
  refine MX.start Tryz.func195 rfl rfl rfl (fun _ cs0 hb0 => ?_)
  refine MX.sr ?_
  refine RG.sg rfl rfl ?_
  refine RG.sg rfl rfl ?_
  refine RG.nil ?_
  refine MX.sr ?_
  refine RG.mv rfl rfl ?_
  refine RG.vv (FV.andU (a := a0) (b := (4294967295 : UInt64)) rfl rfl) rfl ?_
  refine RG.sg rfl rfl ?_
  refine RG.nil ?_
  refine MX.sr ?_
  refine RG.mv rfl rfl ?_
  refine RG.vv (FV.shrU (a := a0) (j := 32) rfl rfl) rfl ?_
  refine RG.sg rfl rfl ?_
  refine RG.nil ?_
  refine MX.sr ?_
  refine RG.mv rfl rfl ?_
  refine RG.vv (FV.andU (a := a1) (b := (4294967295 : UInt64)) rfl rfl) rfl ?_
  refine RG.sg rfl rfl ?_
  refine RG.nil ?_
  refine MX.sr ?_
  refine RG.mv rfl rfl ?_
  refine RG.vv (FV.shrU (a := a1) (j := 32) rfl rfl) rfl ?_
  refine RG.sg rfl rfl ?_
  refine RG.nil ?_
  refine MX.sr ?_
  refine RG.mv rfl rfl ?_
  refine RG.mv rfl rfl ?_
  refine RG.vv (FV.mulU (a := a0 &&& (4294967295 : UInt64)) (b := a1 &&& (4294967295 : UInt64)) rfl rfl) rfl ?_
  refine RG.sg rfl rfl ?_
  refine RG.nil ?_
  refine MX.sr ?_
  refine RG.mv rfl rfl ?_
  refine RG.mv rfl rfl ?_
  refine RG.vv (FV.mulU (a := shrU a0 32) (b := a1 &&& (4294967295 : UInt64)) rfl rfl) rfl ?_
  refine RG.mv rfl rfl ?_
  refine RG.vv (FV.shrU (a := (a0 &&& (4294967295 : UInt64)) * (a1 &&& (4294967295 : UInt64))) (j := 32) rfl rfl) rfl ?_
  obtain ⟨u1, hu1, h⟩ := bind_in h
  refine RG.vv (FV.as (FV.addU (a := (shrU a0 32) * (a1 &&& (4294967295 : UInt64))) (b := shrU ((a0 &&& (4294967295 : UInt64)) * (a1 &&& (4294967295 : UInt64))) 32) rfl rfl) (congrArg (fun z : UInt64 => Value.int .u64 (z.toNat : Int)) (Option.some.inj hu1))) rfl ?_
  refine RG.sg rfl rfl ?_
  refine RG.nil ?_
  refine MX.sr ?_
  refine RG.mv rfl rfl ?_
  refine RG.vv (FV.andU (a := u1) (b := (4294967295 : UInt64)) rfl rfl) rfl ?_
  refine RG.sg rfl rfl ?_
  refine RG.nil ?_
  refine MX.sr ?_
  refine RG.mv rfl rfl ?_
  refine RG.vv (FV.shrU (a := u1) (j := 32) rfl rfl) rfl ?_
  refine RG.sg rfl rfl ?_
  refine RG.nil ?_
  refine MX.sr ?_
  refine RG.mv rfl rfl ?_
  refine RG.mv rfl rfl ?_
  refine RG.mv rfl rfl ?_
  refine RG.vv (FV.mulU (a := a0 &&& (4294967295 : UInt64)) (b := shrU a1 32) rfl rfl) rfl ?_
  refine RG.vv (FV.addU (a := u1 &&& (4294967295 : UInt64)) (b := (a0 &&& (4294967295 : UInt64)) * (shrU a1 32)) rfl rfl) rfl ?_
  refine RG.sg rfl rfl ?_
  refine RG.nil ?_
  refine MX.sr ?_
  refine RG.mv rfl rfl ?_
  refine RG.mv rfl rfl ?_
  refine RG.vv (FV.mulU (a := shrU a0 32) (b := shrU a1 32) rfl rfl) rfl ?_
  refine RG.mv rfl rfl ?_
  refine RG.vv (FV.addU (a := (shrU a0 32) * (shrU a1 32)) (b := shrU u1 32) rfl rfl) rfl ?_
  refine RG.mv rfl rfl ?_
  obtain ⟨u2, hu2, h⟩ := bind_in h
  refine RG.vv (FV.as (FV.shrU (a := (u1 &&& (4294967295 : UInt64)) + ((a0 &&& (4294967295 : UInt64)) * (shrU a1 32))) (j := 32) rfl rfl) (congrArg (fun z : UInt64 => Value.int .u64 (z.toNat : Int)) (Option.some.inj hu2))) rfl ?_
  refine RG.vv (FV.addU (a := ((shrU a0 32) * (shrU a1 32)) + (shrU u1 32)) (b := u2) rfl rfl) rfl ?_
  refine RG.sg rfl rfl ?_
  refine RG.nil ?_
  refine MX.sr ?_
  refine RG.mv rfl rfl ?_
  refine RG.mv rfl rfl ?_
  refine RG.vv (FV.mulU (a := a0) (b := a1) rfl rfl) rfl ?_
  refine RG.sg rfl rfl ?_
  refine RG.nil ?_
  refine MX.ret rfl ?_
  refine RT.leave hb0 Tryz.func195 rfl (.cons (.tmp rfl) (.cons (.tmp rfl) .nil)) rfl ?_
  obtain rfl := Option.some.inj h
  exact ⟨hS0.ag, fun w9 hw9 => rfl⟩
theorem body195 : bodyB Tryz.prog 195 = true := by kernel_rfl
def wide_multiplied_l1 (n : Nat) (a1 : List UInt64) (x347 : UInt64) (i333 : Nat) (J448 : UInt64 × Nat × (List UInt64) → Option ((List UInt64) × UInt64)) : UInt64 × Nat × (List UInt64) → Option ((List UInt64) × UInt64)
  | (u436, i437, xs438) => (if i437 < a1.length then (a1[i437]?).bind fun x451 => (math_bits_Mul64_p n x347 x451).bind fun y461 => (xs438[i333 + i437]?).bind fun x462 => (add64 x462 y461.2 (0 : UInt64)).bind fun z474 => (add64 z474.1 u436 (0 : UInt64)).bind fun z475 => (put xs438 ((i333 + i437 : Nat) : Int) z475.1).bind fun xs476 => J448 ((y461.1 + z474.2) + z475.2, i437 + 1, xs476) else some (xs438, u436))
def wide_multiplied_l2 (n : Nat) (a0 : List UInt64) (a1 : List UInt64) (J344 : Nat × (List UInt64) → Option (List UInt64)) : Nat × (List UInt64) → Option (List UInt64)
  | (i333, xs334) => (if i333 < a0.length then (a0[i333]?).bind fun x347 => Option.bind (loopF (wide_multiplied_l1 n a1 x347 i333) n ((0 : UInt64), 0, xs334)) (fun (xs438, u436) => (xs438[i333 + a1.length]?).bind fun x483 => (put xs438 ((i333 + a1.length : Nat) : Int) u436).bind fun xs495 => J344 (i333 + 1, xs495)) else some xs334)
def wide_multiplied_p (n : Nat) (a0 : List UInt64) (a1 : List UInt64) : Option (List UInt64) :=
  (mk ((a0.length + a1.length : Nat) : Int) (0 : UInt64)).bind fun xs4 => Option.bind (loopF (wide_multiplied_l2 n a0 a1) n (0, xs4)) (fun xs334 => some xs334)
set_option maxRecDepth 4000 in
set_option maxHeartbeats 4000000 in
theorem wide_multiplied_c (n : Nat) (L : List Nat) (w : World) (hL : ∀ b ∈ L, b < w.heap.size) (a0 : List UInt64) {v0_0 : Value} (h0_0 : Rep.R w L [v0_0] a0) (a1 : List UInt64) {v1_0 : Value} (h1_0 : Rep.R w L [v1_0] a1)  {r : List UInt64} (h : wide_multiplied_p n a0 a1 = some r) :
    Calls Tryz.prog 170 #[v0_0, v1_0] w (Gives w fun w' u => ∃ v0_0 : Value, u = v0_0 ∧ Rep.R w' L [v0_0] r) := by
  unfold wide_multiplied_p at h
  have hS0 := St.start w
  refine MX.start Tryz.func170 rfl rfl rfl (fun _ cs0 hb0 => ?_)
  refine MX.sr ?_
  refine RG.sg rfl rfl ?_
  refine RG.nil ?_
  refine MX.sr ?_
  refine RG.mv rfl rfl ?_
  have hl1 : a0.length ≤ 281474976710656 := Rep.lenle h0_0
  refine RG.vv (FV.len (xs := a0) Tryz.underlying121 rfl h0_0) rfl ?_
  refine RG.mv rfl rfl ?_
  have hl2 : a1.length ≤ 281474976710656 := Rep.lenle h1_0
  refine RG.vv (FV.len (xs := a1) Tryz.underlying121 rfl h1_0) rfl ?_
  refine RG.vv (FV.addN (i := a0.length) (j := a1.length) rfl rfl (by omega)) rfl ?_
  obtain ⟨xs4, hxs4, h⟩ := bind_in h
  refine RG.new .plain rfl (Does.mk (α := UInt64) hxs4 hS0 el121 rfl) (fun w5 b8 hS6 hT7 => ?_)
  have hc9 := Cells.at_ (cs := (List.replicate ((a0.length + a1.length : Nat) : Int).toNat [.int .u64 0]).flatten) (xs := xs4) hS6 L (Cells.mk hxs4 rfl)
  refine RG.sg rfl rfl ?_
  refine RG.nil ?_
  refine MX.seq ?_
  refine MX.sr ?_
  refine RG.mv rfl rfl ?_
  have hm10 := Rep.mv h0_0 hT7
  refine RG.vv (FV.len (xs := a0) Tryz.underlying121 rfl hm10) rfl ?_
  refine RG.mv rfl rfl ?_
  refine RG.nil ?_
  refine MX.block ?_
  obtain ⟨o342, ho341, hh343⟩ := bind_in2 h
  refine MX.loop (α := Nat × (List UInt64) × (List Value)) (fun ⟨i333, xs334, cs335⟩ => [(1, v1_0), (5, (.slice (some ⟨b8, 0, none⟩) ((a0.length + a1.length : Nat) : Int).toNat ((a0.length + a1.length : Nat) : Int).toNat)), (22, v0_0), (23, .int .i64 ((a0.length : Nat) : Int)), (24, .int .i64 ((i333 : Nat) : Int))]) (fun ⟨i333, xs334, cs335⟩ wx336 => St w wx336 [.row w.heap.size 33 (Rep.size UInt64) (.slice (some ⟨b8, 0, none⟩) ((a0.length + a1.length : Nat) : Int).toNat ((a0.length + a1.length : Nat) : Int).toNat) xs334.length cs335] ∧ Tr w5 [.row w.heap.size 33 (Rep.size UInt64) (.slice (some ⟨b8, 0, none⟩) ((a0.length + a1.length : Nat) : Int).toNat ((a0.length + a1.length : Nat) : Int).toNat) xs4.length ((List.replicate ((a0.length + a1.length : Nat) : Int).toNat [.int .u64 0]).flatten)] wx336 [.row w.heap.size 33 (Rep.size UInt64) (.slice (some ⟨b8, 0, none⟩) ((a0.length + a1.length : Nat) : Int).toNat ((a0.length + a1.length : Nat) : Int).toNat) xs334.length cs335] ∧ Cells wx336 (bl [.row w.heap.size 33 (Rep.size UInt64) (.slice (some ⟨b8, 0, none⟩) ((a0.length + a1.length : Nat) : Int).toNat ((a0.length + a1.length : Nat) : Int).toNat) xs334.length cs335] ++ L) cs335 xs334) (fun ⟨i333, xs334, cs335⟩ => (i333, xs334)) (0, xs4, (List.replicate ((a0.length + a1.length : Nat) : Int).toNat [.int .u64 0]).flatten) ho341 ⟨rfl, rfl, rfl, rfl, rfl, trivial⟩ ⟨hS6, Tr.refl _ _, hc9⟩ ?_
  rintro J344 ⟨i333, xs334, cs335⟩ wx336 hJ345 ⟨hS337, hT338, hc336⟩ h
  unfold wide_multiplied_l2 at h
  try dsimp only at h
  refine MX.sr ?_
  refine RG.vv (FV.lssN (i := i333) (j := a0.length) rfl rfl) rfl ?_
  refine RG.nil ?_
  refine MX.seq ?_
  refine MX.ifd rfl h (fun c346 h => ?_) (fun c346 h => ?_)
  ·skip
   refine MX.skip ?_
   refine MX.seq ?_
   refine MX.block ?_
   refine MX.sr ?_
   refine RG.mv rfl rfl ?_
   obtain ⟨x347, hx347, h⟩ := bind_in h
   have hm355 := Rep.mv h0_0 (Tr.trans hT7 hT338)
   obtain ⟨A348, c349, he350, hk351, cs352, hr353, hm354⟩ := Rep.nth hm355 hx347
   have he356 : cs352 = [.int .u64 (x347.toNat : Int)] := hr353; subst he356
   refine RG.vv (FV.idxAddr (m := 1) (i := i333) (by kernel_rfl) rfl he350 rfl rfl hk351) rfl ?_
   refine RG.vv (FV.load1 (by kernel_rfl) rfl (hm354 0 _ rfl)) rfl ?_
   refine RG.sg rfl rfl ?_
   refine RG.sg rfl rfl ?_
   refine RG.nil ?_
   refine MX.sr ?_
   refine RG.sg rfl rfl ?_
   refine RG.nil ?_
   refine MX.seq ?_
   refine MX.sr ?_
   refine RG.mv rfl rfl ?_
   have hm357 := Rep.mv h1_0 (Tr.trans hT7 hT338)
   refine RG.vv (FV.len (xs := a1) Tryz.underlying121 rfl hm357) rfl ?_
   refine RG.mv rfl rfl ?_
   refine RG.nil ?_
   refine MX.block ?_
   obtain ⟨o446, ho445, hh447⟩ := bind_in2 h
   refine MX.loop (α := UInt64 × Nat × (List UInt64) × (List Value)) (fun ⟨u436, i437, xs438, cs439⟩ => [(1, v1_0), (5, (.slice (some ⟨b8, 0, none⟩) ((a0.length + a1.length : Nat) : Int).toNat ((a0.length + a1.length : Nat) : Int).toNat)), (22, v0_0), (23, .int .i64 ((a0.length : Nat) : Int)), (24, .int .i64 ((i333 : Nat) : Int)), (6, .int .i64 ((i333 : Nat) : Int)), (7, .int .u64 (x347.toNat : Int)), (8, .int .u64 (u436.toNat : Int)), (29, v1_0), (30, .int .i64 ((a1.length : Nat) : Int)), (31, .int .i64 ((i437 : Nat) : Int))]) (fun ⟨u436, i437, xs438, cs439⟩ wx440 => St w wx440 [.row w.heap.size 33 (Rep.size UInt64) (.slice (some ⟨b8, 0, none⟩) ((a0.length + a1.length : Nat) : Int).toNat ((a0.length + a1.length : Nat) : Int).toNat) xs438.length cs439] ∧ Tr wx336 [.row w.heap.size 33 (Rep.size UInt64) (.slice (some ⟨b8, 0, none⟩) ((a0.length + a1.length : Nat) : Int).toNat ((a0.length + a1.length : Nat) : Int).toNat) xs334.length cs335] wx440 [.row w.heap.size 33 (Rep.size UInt64) (.slice (some ⟨b8, 0, none⟩) ((a0.length + a1.length : Nat) : Int).toNat ((a0.length + a1.length : Nat) : Int).toNat) xs438.length cs439] ∧ Cells wx440 (bl [.row w.heap.size 33 (Rep.size UInt64) (.slice (some ⟨b8, 0, none⟩) ((a0.length + a1.length : Nat) : Int).toNat ((a0.length + a1.length : Nat) : Int).toNat) xs438.length cs439] ++ L) cs439 xs438) (fun ⟨u436, i437, xs438, cs439⟩ => (u436, i437, xs438)) ((0 : UInt64), 0, xs334, cs335) ho445 ⟨rfl, rfl, rfl, rfl, rfl, rfl, rfl, rfl, rfl, rfl, rfl, trivial⟩ ⟨hS337, Tr.refl _ _, hc336⟩ ?_
   rintro J448 ⟨u436, i437, xs438, cs439⟩ wx440 hJ449 ⟨hS441, hT442, hc440⟩ h
   unfold wide_multiplied_l1 at h
   try dsimp only at h
   refine MX.sr ?_
   refine RG.vv (FV.lssN (i := i437) (j := a1.length) rfl rfl) rfl ?_
   refine RG.nil ?_
   refine MX.seq ?_
   refine MX.ifd rfl h (fun c450 h => ?_) (fun c450 h => ?_)
   ·skip
    refine MX.skip ?_
    refine MX.seq ?_
    refine MX.block ?_
    refine MX.sr ?_
    refine RG.mv rfl rfl ?_
    obtain ⟨x451, hx451, h⟩ := bind_in h
    have hm459 := Rep.mv h1_0 (Tr.trans hT7 (Tr.trans hT338 hT442))
    obtain ⟨A452, c453, he454, hk455, cs456, hr457, hm458⟩ := Rep.nth hm459 hx451
    have he460 : cs456 = [.int .u64 (x451.toNat : Int)] := hr457; subst he460
    refine RG.vv (FV.idxAddr (m := 1) (i := i437) (by kernel_rfl) rfl he454 rfl rfl hk455) rfl ?_
    refine RG.vv (FV.load1 (by kernel_rfl) rfl (hm458 0 _ rfl)) rfl ?_
    refine RG.sg rfl rfl ?_
    refine RG.sg rfl rfl ?_
    refine RG.nil ?_
    refine MX.sr ?_
    refine RG.mv rfl rfl ?_
    refine RG.mv rfl rfl ?_
    obtain ⟨y461, hy461, h⟩ := bind_in h
    refine RG.cq (.tuple #[.int .u64 (y461.1.toNat : Int), .int .u64 (y461.2.toNat : Int)]) body195 rfl (evs_cons rfl (evs_cons rfl evs_nil)) (fun w9 hw9 => math_bits_Mul64_c n _ w9 (hS441.hL0 hL hw9) x347 x451 hy461) rfl ?_
    refine RG.mv rfl rfl ?_
    refine RG.vv (FV.extract rfl rfl) rfl ?_
    refine RG.vv (FV.extract rfl rfl) rfl ?_
    refine RG.sg rfl rfl ?_
    refine RG.sg rfl rfl ?_
    refine RG.nil ?_
    refine MX.sr ?_
    refine RG.mv rfl rfl ?_
    refine RG.mv rfl rfl ?_
    refine RG.mv rfl rfl ?_
    refine RG.vv (FV.addN (i := i333) (j := i437) rfl rfl (by omega)) rfl ?_
    obtain ⟨x462, hx462, h⟩ := bind_in h
    obtain ⟨A463, c464, he465, hk466, cs467, hr468, hm469⟩ := St.nth (α := UInt64) hS441 .hd hc440 hx462
    obtain ⟨b470, c471, he472⟩ := St.nthOwn (α := UInt64) hS441 .hd hk466
    obtain rfl : A463 = ⟨b470, 0, none⟩ := by rw [he472] at he465; cases he465; rfl
    have he473 : cs467 = [.int .u64 (x462.toNat : Int)] := hr468; subst he473
    refine RG.vv (FV.idxAddr (m := 1) (i := i333 + i437) (by kernel_rfl) rfl he465 rfl rfl hk466) rfl ?_
    refine RG.vv (FV.load1 (by kernel_rfl) rfl (hm469 0 _ rfl)) rfl ?_
    refine RG.mv rfl rfl ?_
    obtain ⟨z474, hz474, h⟩ := bind_in h
    refine RG.vv (FV.add64 (a := x462) (b := y461.2) (c := (0 : UInt64)) Tryz.func196 rfl (by kernel_rfl) (by kernel_rfl) (by kernel_rfl) rfl rfl rfl hz474) rfl ?_
    refine RG.mv rfl rfl ?_
    refine RG.vv (FV.extract rfl rfl) rfl ?_
    refine RG.vv (FV.extract rfl rfl) rfl ?_
    refine RG.sg rfl rfl ?_
    refine RG.sg rfl rfl ?_
    refine RG.nil ?_
    refine MX.sr ?_
    refine RG.mv rfl rfl ?_
    refine RG.mv rfl rfl ?_
    obtain ⟨z475, hz475, h⟩ := bind_in h
    refine RG.vv (FV.add64 (a := z474.1) (b := u436) (c := (0 : UInt64)) Tryz.func196 rfl (by kernel_rfl) (by kernel_rfl) (by kernel_rfl) rfl rfl rfl hz475) rfl ?_
    refine RG.mv rfl rfl ?_
    refine RG.vv (FV.extract rfl rfl) rfl ?_
    refine RG.vv (FV.extract rfl rfl) rfl ?_
    refine RG.sg rfl rfl ?_
    refine RG.sg rfl rfl ?_
    refine RG.nil ?_
    refine MX.region ?_
    refine RG.mv rfl rfl ?_
    refine RG.mv rfl rfl ?_
    refine RG.mv rfl rfl ?_
    refine RG.vv (FV.addN (i := i333) (j := i437) rfl rfl (by omega)) rfl ?_
    refine RG.mv rfl rfl ?_
    refine RG.mv rfl rfl ?_
    refine RG.mv rfl rfl ?_
    refine RG.vv (FV.addU (a := y461.1) (b := z474.2) rfl rfl) rfl ?_
    refine RG.mv rfl rfl ?_
    refine RG.vv (FV.addU (a := y461.1 + z474.2) (b := z475.2) rfl rfl) rfl ?_
    refine RG.vv (FV.idxAddr (m := 1) (i := i333 + i437) (by kernel_rfl) rfl he465 rfl rfl hk466) rfl ?_
    obtain ⟨xs476, hxs476, h⟩ := bind_in h
    refine RG.acts' .plain (Acts.set (α := UInt64) (i := i333 + i437) (F := fun cs' => [.row w.heap.size 33 (Rep.size UInt64) (.slice (some ⟨b8, 0, none⟩) ((a0.length + a1.length : Nat) : Int).toNat ((a0.length + a1.length : Nat) : Int).toNat) xs476.length cs']) hxs476 hS441 he472 (fun _ => .hd) hc440 rfl rfl rfl rfl rfl (by kernel_rfl)) (fun w477 ⟨cs481, hS478, hT479, hc480⟩ => ?_)
    refine RG.sg rfl rfl ?_
    refine RG.nil ?_
    refine MX.inBlock ?_
    refine MX.region ?_
    refine RG.vv (FV.addN (i := i437) (j := 1) rfl rfl (by omega)) rfl ?_
    refine RG.mv rfl rfl ?_
    refine RG.nil ?_
    exact hJ449 ((y461.1 + z474.2) + z475.2, i437 + 1, xs476, cs481) _ _ ⟨rfl, rfl, rfl, rfl, rfl, rfl, rfl, rfl, rfl, rfl, rfl, trivial⟩ ⟨hS478, (Tr.trans hT442 hT479), hc480⟩ h
   refine MX.exit rfl ?_
   have h := hh447 _ h
   try dsimp only at h
   refine MX.region ?_
   refine RG.mv rfl rfl ?_
   refine RG.mv rfl rfl ?_
   refine RG.mv rfl rfl ?_
   have hm482 := Rep.mv h1_0 (Tr.trans hT7 (Tr.trans hT338 hT442))
   refine RG.vv (FV.len (xs := a1) Tryz.underlying121 rfl hm482) rfl ?_
   refine RG.vv (FV.addN (i := i333) (j := a1.length) rfl rfl (by omega)) rfl ?_
   refine RG.mv rfl rfl ?_
   obtain ⟨x483, hx483, h⟩ := bind_in h
   obtain ⟨A484, c485, he486, hk487, cs488, hr489, hm490⟩ := St.nth (α := UInt64) hS441 .hd hc440 hx483
   obtain ⟨b491, c492, he493⟩ := St.nthOwn (α := UInt64) hS441 .hd hk487
   obtain rfl : A484 = ⟨b491, 0, none⟩ := by rw [he493] at he486; cases he486; rfl
   have he494 : cs488 = [.int .u64 (x483.toNat : Int)] := hr489; subst he494
   refine RG.vv (FV.idxAddr (m := 1) (i := i333 + a1.length) (by kernel_rfl) rfl he486 rfl rfl hk487) rfl ?_
   obtain ⟨xs495, hxs495, h⟩ := bind_in h
   refine RG.acts' .plain (Acts.set (α := UInt64) (i := i333 + a1.length) (F := fun cs' => [.row w.heap.size 33 (Rep.size UInt64) (.slice (some ⟨b8, 0, none⟩) ((a0.length + a1.length : Nat) : Int).toNat ((a0.length + a1.length : Nat) : Int).toNat) xs495.length cs']) hxs495 hS441 he493 (fun _ => .hd) hc440 rfl rfl rfl rfl rfl (by kernel_rfl)) (fun w496 ⟨cs500, hS497, hT498, hc499⟩ => ?_)
   refine RG.nil ?_
   refine MX.inBlock ?_
   refine MX.region ?_
   refine RG.vv (FV.addN (i := i333) (j := 1) rfl rfl (by omega)) rfl ?_
   refine RG.mv rfl rfl ?_
   refine RG.nil ?_
   exact hJ345 (i333 + 1, xs495, cs500) _ _ ⟨rfl, rfl, rfl, rfl, rfl, trivial⟩ ⟨hS497, (Tr.trans hT338 (Tr.trans hT442 hT498)), hc499⟩ h
  refine MX.exit rfl ?_
  have h := hh343 _ h
  try dsimp only at h
  refine MX.sr ?_
  refine RG.mv rfl rfl ?_
  refine RG.sg rfl rfl ?_
  refine RG.nil ?_
  refine MX.ret rfl ?_
  have hr501 := St.freeze (α := UInt64) hS337 .hd hc336 hL
  have hS502 := St.delS hS337 .hd
  have hT503 := St.delT hS337 .hd
  have hr504 := Rep.at_ (α := UInt64) (v := (.slice (some ⟨b8, 0, none⟩) ((a0.length + a1.length : Nat) : Int).toNat ((a0.length + a1.length : Nat) : Int).toNat)) (xs := xs334) hS502 L hr501
  refine RT.leave hb0 Tryz.func170 rfl (.cons (.tmp rfl) .nil) rfl ?_
  obtain rfl := Option.some.inj h
  exact ⟨hS502.ag, fun w9 hw9 => ⟨(.slice (some ⟨b8, 0, none⟩) ((a0.length + a1.length : Nat) : Int).toNat ((a0.length + a1.length : Nat) : Int).toNat), rfl, Rep.keep0 (Rep.dropS hS502 hr504) hw9⟩⟩
def tb132_1 : List (Nat × Nat × Nat) := [(0, 32, 4), (1, 64, 32), (0, 128, 8), (4, 256, 128), (10, 512, 320), (0, 1024, 4), (32, 2048, 1024), (0, 4096, 8), (128, 8192, 4096), (320, 16384, 10240), (528, 32768, 16896), (2047, 0, 32784)]
theorem body170 : bodyB Tryz.prog 170 = true := by kernel_rfl
def wide_Long_Times_p (n : Nat) (a0 : TLong) (a1 : TLong) : Option TLong :=
  (wide_multiplied_p n a0.fWords a1.fWords).bind fun y18 => (wide_trimmed_p n (!(a0.fBelow == a1.fBelow)) y18).bind fun y28 => some y28
set_option maxRecDepth 4000 in
set_option maxHeartbeats 4000000 in
theorem wide_Long_Times_c (n : Nat) (L : List Nat) (w : World) (hL : ∀ b ∈ L, b < w.heap.size) (a0 : TLong) {v0_1 : Value} (h0_1 : Rep.R w L [v0_1] a0.fWords) (a1 : TLong) {v1_1 : Value} (h1_1 : Rep.R w L [v1_1] a1.fWords)  {r : TLong} (h : wide_Long_Times_p n a0 a1 = some r) :
    Calls Tryz.prog 132 #[.agg #[.bool a0.fBelow, v0_1], .agg #[.bool a1.fBelow, v1_1]] w (Gives w fun w' u => ∃ v0_1 : Value, u = .agg #[.bool r.fBelow, v0_1] ∧ Rep.R w' L [v0_1] r.fWords) := by
  unfold wide_Long_Times_p at h
  have hS0 := St.start w
  refine MX.start Tryz.func132 rfl rfl rfl (fun _ cs0 hb0 => ?_)
  refine MX.sr ?_
  refine RG.new .plain rfl (Does.box (vs := [.bool a0.fBelow, v0_1]) hS0 rfl rfl) (fun w2 b5 hS3 hT4 => ?_)
  refine RG.new .plain rfl (Does.box (vs := [.bool a1.fBelow, v1_1]) hS3 rfl rfl) (fun w7 b10 hS8 hT9 => ?_)
  refine RG.new .plain rfl (Does.alloc (zs := [.bool false, .slice none 0 0]) hS8 (zB (by kernel_rfl))) (fun w12 b15 hS13 hT14 => ?_)
  refine RG.nil ?_
  refine MX.seq ?_
  refine MX.drawT 11 tb132_1 (by kernel_rfl) (by kernel_rfl) (by kernel_rfl) (fun kt16 kp17 => ?_)
  refine RD.vw 0 1 kt16 rfl kp17 (fun _ => FV.fieldAddr (off := 0) (by kernel_rfl) rfl) rfl ?_
  refine RD.vx 1 3 3088 kt16 rfl kp17 (FV.load1 (by kernel_rfl) rfl ((hS13.memA (.tl (.tl .hd))) 0 _ rfl)) rfl ?_
  refine RD.vw 2 7 kt16 rfl kp17 (fun _ => FV.fieldAddr (off := 0) (by kernel_rfl) rfl) rfl ?_
  refine RD.vx 3 15 3088 kt16 rfl kp17 (FV.load1 (by kernel_rfl) rfl ((hS13.memA (.tl .hd)) 0 _ rfl)) rfl ?_
  refine RD.vw 4 31 kt16 rfl kp17 (fun _ => FV.neqB (a := a0.fBelow) (b := a1.fBelow) Tryz.underlying4 rfl rfl) rfl ?_
  refine RD.vw 5 63 kt16 rfl kp17 (fun _ => FV.fieldAddr (off := 1) (by kernel_rfl) rfl) rfl ?_
  refine RD.vx 6 127 3584 kt16 rfl kp17 (FV.load1 (by kernel_rfl) rfl ((hS13.memA (.tl (.tl .hd))) 1 _ rfl)) rfl ?_
  refine RD.vw 7 255 kt16 rfl kp17 (fun _ => FV.fieldAddr (off := 1) (by kernel_rfl) rfl) rfl ?_
  refine RD.vx 8 511 3584 kt16 rfl kp17 (FV.load1 (by kernel_rfl) rfl ((hS13.memA (.tl .hd)) 1 _ rfl)) rfl ?_
  obtain ⟨y18, hy18, h⟩ := bind_in h
  have hm19 := Rep.mv h0_1 (Tr.trans hT4 (Tr.trans hT9 hT14))
  have hm20 := Rep.mv h1_1 (Tr.trans hT4 (Tr.trans hT9 hT14))
  refine RD.cl 9 1023 kt16 rfl .plain body170 rfl (evs_cons rfl (evs_cons rfl evs_nil)) (fun w9 hw9 => wide_multiplied_c n _ w9 (hS13.hL hL hw9) a0.fWords (Rep.keep0 hm19 hw9) a1.fWords (Rep.keep0 hm20 hw9) hy18) rfl (fun w21 vu22 hag23 ⟨v26, hu_, hr27⟩ => ?_)
  subst hu_
  obtain ⟨hS24, hT25⟩ := hS13.agr hag23
  obtain ⟨y28, hy28, h⟩ := bind_in h
  refine RD.cl 10 2047 kt16 rfl .plain body169 rfl (evs_cons rfl (evs_cons rfl evs_nil)) (fun w9 hw9 => wide_trimmed_c n _ w9 (hS24.hL hL hw9) (!(a0.fBelow == a1.fBelow)) y18 (Rep.keep0 hr27 hw9) hy28) rfl (fun w29 vu30 hag31 ⟨v34, hu_, hr35⟩ => ?_)
  subst hu_
  obtain ⟨hS32, hT33⟩ := hS24.agr hag31
  refine RD.nw 11 4095 kt16 rfl rfl .plain (Acts.storeAll (news := [.bool y28.fBelow, v34]) hS32 .hd rfl rfl rfl rfl rfl rfl (ones_cons rfl (ones_cons (Rep.o1 hr35) ones_nil))) (fun w36 hS37 hT38 => ?_)
  refine RD.done (doneD_ok kt16 (by kernel_rfl)) ?_
  refine MX.ret rfl ?_
  refine RT.leave hb0 Tryz.func132 rfl (.cons (.many (cs := [.bool y28.fBelow, v34]) (by kernel_rfl) rfl (hS37.memA .hd)) .nil) rfl ?_
  obtain rfl := Option.some.inj h
  have hm39 := Rep.mv hr35 hT38
  exact ⟨hS37.ag, fun w9 hw9 => ⟨v34, rfl, Rep.keep0 (Rep.dropS hS37 hm39) hw9⟩⟩
def tb83_1 : List (Nat × Nat × Nat) := [(0, 32, 4), (1, 64, 32), (0, 128, 8), (4, 256, 128), (10, 512, 320), (0, 1024, 8), (32, 2048, 1024), (0, 4096, 4), (128, 8192, 4096), (336, 16384, 10240), (528, 32768, 16896), (0, 65536, 4), (2048, 131072, 65536), (0, 262144, 8), (8192, 524288, 262144), (21504, 1048576, 655360), (33792, 2097152, 1081344), (131071, 0, 2097168)]
theorem body131 : bodyB Tryz.prog 131 = true := by kernel_rfl
theorem body132 : bodyB Tryz.prog 132 = true := by kernel_rfl
def share_Ratio_Plus_p (n : Nat) (a0 : TRatio) (a1 : TRatio) : Option TRatio :=
  (wide_Long_Times_p n a0.fLong a1.fUnder).bind fun y18 => (wide_Long_Times_p n a1.fLong a0.fUnder).bind fun y28 => (wide_Long_Plus_p n y18 y28).bind fun y38 => (wide_Long_Times_p n a0.fUnder a1.fUnder).bind fun y47 => (share_Lowest_p n y38 y47).bind fun y57 => some y57
set_option maxRecDepth 4000 in
set_option maxHeartbeats 4000000 in
theorem share_Ratio_Plus_c (n : Nat) (L : List Nat) (w : World) (hL : ∀ b ∈ L, b < w.heap.size) (a0 : TRatio) {v0_1 : Value} (h0_1 : Rep.R w L [v0_1] a0.fLong.fWords) {v0_3 : Value} (h0_3 : Rep.R w L [v0_3] a0.fUnder.fWords) (a1 : TRatio) {v1_1 : Value} (h1_1 : Rep.R w L [v1_1] a1.fLong.fWords) {v1_3 : Value} (h1_3 : Rep.R w L [v1_3] a1.fUnder.fWords)  {r : TRatio} (h : share_Ratio_Plus_p n a0 a1 = some r) :
    Calls Tryz.prog 83 #[.agg #[.bool a0.fLong.fBelow, v0_1, .bool a0.fUnder.fBelow, v0_3], .agg #[.bool a1.fLong.fBelow, v1_1, .bool a1.fUnder.fBelow, v1_3]] w (Gives w fun w' u => ∃ v0_1 v0_3 : Value, u = .agg #[.bool r.fLong.fBelow, v0_1, .bool r.fUnder.fBelow, v0_3] ∧ Rep.R w' L [v0_1] r.fLong.fWords ∧ Rep.R w' L [v0_3] r.fUnder.fWords) := by
  unfold share_Ratio_Plus_p at h
  have hS0 := St.start w
  refine MX.start Tryz.func83 rfl rfl rfl (fun _ cs0 hb0 => ?_)
  refine MX.sr ?_
  refine RG.new .plain rfl (Does.box (vs := [.bool a0.fLong.fBelow, v0_1, .bool a0.fUnder.fBelow, v0_3]) hS0 rfl rfl) (fun w2 b5 hS3 hT4 => ?_)
  refine RG.new .plain rfl (Does.box (vs := [.bool a1.fLong.fBelow, v1_1, .bool a1.fUnder.fBelow, v1_3]) hS3 rfl rfl) (fun w7 b10 hS8 hT9 => ?_)
  refine RG.new .plain rfl (Does.alloc (zs := [.bool false, .slice none 0 0, .bool false, .slice none 0 0]) hS8 (zB (by kernel_rfl))) (fun w12 b15 hS13 hT14 => ?_)
  refine RG.nil ?_
  refine MX.seq ?_
  refine MX.drawT 17 tb83_1 (by kernel_rfl) (by kernel_rfl) (by kernel_rfl) (fun kt16 kp17 => ?_)
  refine RD.vw 0 1 kt16 rfl kp17 (fun _ => FV.fieldAddr (off := 0) (by kernel_rfl) rfl) rfl ?_
  refine RD.vx 1 3 230928 kt16 rfl kp17 (FV.loadN (cs := [.bool a0.fLong.fBelow, v0_1]) (by kernel_rfl) rfl (mem_part (hS13.memA (.tl (.tl .hd))) 0 2)) rfl ?_
  refine RD.vw 2 7 kt16 rfl kp17 (fun _ => FV.fieldAddr (off := 2) (by kernel_rfl) rfl) rfl ?_
  refine RD.vx 3 15 230928 kt16 rfl kp17 (FV.loadN (cs := [.bool a1.fUnder.fBelow, v1_3]) (by kernel_rfl) rfl (mem_part (hS13.memA (.tl .hd)) 2 2)) rfl ?_
  refine RD.vw 5 47 kt16 rfl kp17 (fun _ => FV.fieldAddr (off := 0) (by kernel_rfl) rfl) rfl ?_
  refine RD.vx 6 111 230912 kt16 rfl kp17 (FV.loadN (cs := [.bool a1.fLong.fBelow, v1_1]) (by kernel_rfl) rfl (mem_part (hS13.memA (.tl .hd)) 0 2)) rfl ?_
  refine RD.vw 7 239 kt16 rfl kp17 (fun _ => FV.fieldAddr (off := 2) (by kernel_rfl) rfl) rfl ?_
  refine RD.vx 8 495 230912 kt16 rfl kp17 (FV.loadN (cs := [.bool a0.fUnder.fBelow, v0_3]) (by kernel_rfl) rfl (mem_part (hS13.memA (.tl (.tl .hd))) 2 2)) rfl ?_
  refine RD.vw 11 2543 kt16 rfl kp17 (fun _ => FV.fieldAddr (off := 2) (by kernel_rfl) rfl) rfl ?_
  refine RD.vx 12 6639 229376 kt16 rfl kp17 (FV.loadN (cs := [.bool a0.fUnder.fBelow, v0_3]) (by kernel_rfl) rfl (mem_part (hS13.memA (.tl (.tl .hd))) 2 2)) rfl ?_
  refine RD.vw 13 14831 kt16 rfl kp17 (fun _ => FV.fieldAddr (off := 2) (by kernel_rfl) rfl) rfl ?_
  refine RD.vx 14 31215 229376 kt16 rfl kp17 (FV.loadN (cs := [.bool a1.fUnder.fBelow, v1_3]) (by kernel_rfl) rfl (mem_part (hS13.memA (.tl .hd)) 2 2)) rfl ?_
  obtain ⟨y18, hy18, h⟩ := bind_in h
  have hm19 := Rep.mv h0_1 (Tr.trans hT4 (Tr.trans hT9 hT14))
  have hm20 := Rep.mv h1_3 (Tr.trans hT4 (Tr.trans hT9 hT14))
  refine RD.cl 4 31231 kt16 rfl .plain body132 rfl (evs_cons rfl (evs_cons rfl evs_nil)) (fun w9 hw9 => wide_Long_Times_c n _ w9 (hS13.hL hL hw9) a0.fLong (Rep.keep0 hm19 hw9) a1.fUnder (Rep.keep0 hm20 hw9) hy18) rfl (fun w21 vu22 hag23 ⟨v26, hu_, hr27⟩ => ?_)
  subst hu_
  obtain ⟨hS24, hT25⟩ := hS13.agr hag23
  obtain ⟨y28, hy28, h⟩ := bind_in h
  have hm29 := Rep.mv h1_1 (Tr.trans hT4 (Tr.trans hT9 (Tr.trans hT14 hT25)))
  have hm30 := Rep.mv h0_3 (Tr.trans hT4 (Tr.trans hT9 (Tr.trans hT14 hT25)))
  refine RD.cl 9 31743 kt16 rfl .plain body132 rfl (evs_cons rfl (evs_cons rfl evs_nil)) (fun w9 hw9 => wide_Long_Times_c n _ w9 (hS24.hL hL hw9) a1.fLong (Rep.keep0 hm29 hw9) a0.fUnder (Rep.keep0 hm30 hw9) hy28) rfl (fun w31 vu32 hag33 ⟨v36, hu_, hr37⟩ => ?_)
  subst hu_
  obtain ⟨hS34, hT35⟩ := hS24.agr hag33
  obtain ⟨y38, hy38, h⟩ := bind_in h
  have hm39 := Rep.mv hr27 hT35
  refine RD.cl 10 32767 kt16 rfl .plain body133 rfl (evs_cons rfl (evs_cons rfl evs_nil)) (fun w9 hw9 => wide_Long_Plus_c n _ w9 (hS34.hL hL hw9) y18 (Rep.keep0 hm39 hw9) y28 (Rep.keep0 hr37 hw9) hy38) rfl (fun w40 vu41 hag42 ⟨v45, hu_, hr46⟩ => ?_)
  subst hu_
  obtain ⟨hS43, hT44⟩ := hS34.agr hag42
  obtain ⟨y47, hy47, h⟩ := bind_in h
  have hm48 := Rep.mv h0_3 (Tr.trans hT4 (Tr.trans hT9 (Tr.trans hT14 (Tr.trans hT25 (Tr.trans hT35 hT44)))))
  have hm49 := Rep.mv h1_3 (Tr.trans hT4 (Tr.trans hT9 (Tr.trans hT14 (Tr.trans hT25 (Tr.trans hT35 hT44)))))
  refine RD.cl 15 65535 kt16 rfl .plain body132 rfl (evs_cons rfl (evs_cons rfl evs_nil)) (fun w9 hw9 => wide_Long_Times_c n _ w9 (hS43.hL hL hw9) a0.fUnder (Rep.keep0 hm48 hw9) a1.fUnder (Rep.keep0 hm49 hw9) hy47) rfl (fun w50 vu51 hag52 ⟨v55, hu_, hr56⟩ => ?_)
  subst hu_
  obtain ⟨hS53, hT54⟩ := hS43.agr hag52
  obtain ⟨y57, hy57, h⟩ := bind_in h
  have hm58 := Rep.mv hr46 hT54
  refine RD.cl 16 131071 kt16 rfl .plain body131 rfl (evs_cons rfl (evs_cons rfl evs_nil)) (fun w9 hw9 => share_Lowest_c n _ w9 (hS53.hL hL hw9) y38 (Rep.keep0 hm58 hw9) y47 (Rep.keep0 hr56 hw9) hy57) rfl (fun w59 vu60 hag61 ⟨v64, v65, hu_, hr66, hr67⟩ => ?_)
  subst hu_
  obtain ⟨hS62, hT63⟩ := hS53.agr hag61
  refine RD.nw 17 262143 kt16 rfl rfl .plain (Acts.storeAll (news := [.bool y57.fLong.fBelow, v64, .bool y57.fUnder.fBelow, v65]) hS62 .hd rfl rfl rfl rfl rfl rfl (ones_cons rfl (ones_cons (Rep.o1 hr66) (ones_cons rfl (ones_cons (Rep.o1 hr67) ones_nil))))) (fun w68 hS69 hT70 => ?_)
  refine RD.done (doneD_ok kt16 (by kernel_rfl)) ?_
  refine MX.ret rfl ?_
  refine RT.leave hb0 Tryz.func83 rfl (.cons (.many (cs := [.bool y57.fLong.fBelow, v64, .bool y57.fUnder.fBelow, v65]) (by kernel_rfl) rfl (hS69.memA .hd)) .nil) rfl ?_
  obtain rfl := Option.some.inj h
  have hm71 := Rep.mv hr66 hT70
  have hm72 := Rep.mv hr67 hT70
  exact ⟨hS69.ag, fun w9 hw9 => ⟨v64, v65, rfl, Rep.keep0 (Rep.dropS hS69 hm71) hw9, Rep.keep0 (Rep.dropS hS69 hm72) hw9⟩⟩
def tb96_1 : List (Nat × Nat × Nat) := [(0, 8, 2), (1, 16, 8), (2, 32, 16), (0, 64, 2), (8, 128, 64), (20, 256, 160), (63, 0, 260)]
def share_Ratio_Turned_p (n : Nat) (a0 : TRatio) : Option TRatio :=
  (wide_Long_Turned_p n a0.fLong).bind fun y13 => some (⟨y13, a0.fUnder⟩ : TRatio)
set_option maxRecDepth 4000 in
set_option maxHeartbeats 4000000 in
theorem share_Ratio_Turned_c (n : Nat) (L : List Nat) (w : World) (hL : ∀ b ∈ L, b < w.heap.size) (a0 : TRatio) {v0_1 : Value} (h0_1 : Rep.R w L [v0_1] a0.fLong.fWords) {v0_3 : Value} (h0_3 : Rep.R w L [v0_3] a0.fUnder.fWords)  {r : TRatio} (h : share_Ratio_Turned_p n a0 = some r) :
    Calls Tryz.prog 96 #[.agg #[.bool a0.fLong.fBelow, v0_1, .bool a0.fUnder.fBelow, v0_3]] w (Gives w fun w' u => ∃ v0_1 v0_3 : Value, u = .agg #[.bool r.fLong.fBelow, v0_1, .bool r.fUnder.fBelow, v0_3] ∧ Rep.R w' L [v0_1] r.fLong.fWords ∧ Rep.R w' L [v0_3] r.fUnder.fWords) := by
  unfold share_Ratio_Turned_p at h
  have hS0 := St.start w
  refine MX.start Tryz.func96 rfl rfl rfl (fun _ cs0 hb0 => ?_)
  refine MX.sr ?_
  refine RG.new .plain rfl (Does.box (vs := [.bool a0.fLong.fBelow, v0_1, .bool a0.fUnder.fBelow, v0_3]) hS0 rfl rfl) (fun w2 b5 hS3 hT4 => ?_)
  refine RG.new .plain rfl (Does.alloc (zs := [.bool false, .slice none 0 0, .bool false, .slice none 0 0]) hS3 (zB (by kernel_rfl))) (fun w7 b10 hS8 hT9 => ?_)
  refine RG.nil ?_
  refine MX.seq ?_
  refine MX.drawT 6 tb96_1 (by kernel_rfl) (by kernel_rfl) (by kernel_rfl) (fun kt11 kp12 => ?_)
  refine RD.vw 0 1 kt11 rfl kp12 (fun _ => FV.fieldAddr (off := 0) (by kernel_rfl) rfl) rfl ?_
  refine RD.vx 1 3 100 kt11 rfl kp12 (FV.loadN (cs := [.bool a0.fLong.fBelow, v0_1]) (by kernel_rfl) rfl (mem_part (hS8.memA (.tl .hd)) 0 2)) rfl ?_
  refine RD.vw 3 11 kt11 rfl kp12 (fun _ => FV.fieldAddr (off := 2) (by kernel_rfl) rfl) rfl ?_
  refine RD.vx 4 27 96 kt11 rfl kp12 (FV.loadN (cs := [.bool a0.fUnder.fBelow, v0_3]) (by kernel_rfl) rfl (mem_part (hS8.memA (.tl .hd)) 2 2)) rfl ?_
  obtain ⟨y13, hy13, h⟩ := bind_in h
  have hm14 := Rep.mv h0_1 (Tr.trans hT4 hT9)
  refine RD.cl 2 31 kt11 rfl .plain body137 rfl (evs_cons rfl evs_nil) (fun w9 hw9 => wide_Long_Turned_c n _ w9 (hS8.hL hL hw9) a0.fLong (Rep.keep0 hm14 hw9) hy13) rfl (fun w15 vu16 hag17 ⟨v20, hu_, hr21⟩ => ?_)
  subst hu_
  obtain ⟨hS18, hT19⟩ := hS8.agr hag17
  obtain ⟨A22, c23, hv24, _⟩ := Rep.sl hr21
  have hm28 := Rep.mv h0_3 (Tr.trans hT4 (Tr.trans hT9 hT19))
  obtain ⟨A25, c26, hv27, _⟩ := Rep.sl hm28
  refine RD.vw 5 63 kt11 rfl kp12 (fun _ => FV.buildV (vs := [.agg #[.bool y13.fBelow, v20], .agg #[.bool a0.fUnder.fBelow, v0_3]]) (u := .agg #[.bool y13.fBelow, v20, .bool a0.fUnder.fBelow, v0_3]) (evs_cons rfl (evs_cons rfl evs_nil)) (fun w9 => by rw [hv24, hv27]; try kernel_rfl)) rfl ?_
  refine RD.nw 6 127 kt11 rfl rfl .plain (Acts.storeAll (news := [.bool y13.fBelow, v20, .bool a0.fUnder.fBelow, v0_3]) hS18 .hd rfl rfl rfl rfl rfl rfl (ones_cons rfl (ones_cons (Rep.o1 hr21) (ones_cons rfl (ones_cons (Rep.o1 hm28) ones_nil))))) (fun w29 hS30 hT31 => ?_)
  refine RD.done (doneD_ok kt11 (by kernel_rfl)) ?_
  refine MX.ret rfl ?_
  refine RT.leave hb0 Tryz.func96 rfl (.cons (.many (cs := [.bool y13.fBelow, v20, .bool a0.fUnder.fBelow, v0_3]) (by kernel_rfl) rfl (hS30.memA .hd)) .nil) rfl ?_
  obtain rfl := Option.some.inj h
  have hm32 := Rep.mv hr21 hT31
  have hm33 := Rep.mv h0_3 (Tr.trans hT4 (Tr.trans hT9 (Tr.trans hT19 hT31)))
  exact ⟨hS30.ag, fun w9 hw9 => ⟨v20, v0_3, rfl, Rep.keep0 (Rep.dropS hS30 hm32) hw9, Rep.keep0 (Rep.dropS hS30 hm33) hw9⟩⟩
def tb81_1 : List (Nat × Nat × Nat) := [(0, 32, 4), (0, 64, 8), (2, 128, 64), (5, 256, 160), (15, 0, 272)]
theorem body83 : bodyB Tryz.prog 83 = true := by kernel_rfl
theorem body96 : bodyB Tryz.prog 96 = true := by kernel_rfl
def share_Ratio_Minus_p (n : Nat) (a0 : TRatio) (a1 : TRatio) : Option TRatio :=
  (share_Ratio_Turned_p n a1).bind fun y18 => (share_Ratio_Plus_p n a0 y18).bind fun y30 => some y30
set_option maxRecDepth 4000 in
set_option maxHeartbeats 4000000 in
theorem share_Ratio_Minus_c (n : Nat) (L : List Nat) (w : World) (hL : ∀ b ∈ L, b < w.heap.size) (a0 : TRatio) {v0_1 : Value} (h0_1 : Rep.R w L [v0_1] a0.fLong.fWords) {v0_3 : Value} (h0_3 : Rep.R w L [v0_3] a0.fUnder.fWords) (a1 : TRatio) {v1_1 : Value} (h1_1 : Rep.R w L [v1_1] a1.fLong.fWords) {v1_3 : Value} (h1_3 : Rep.R w L [v1_3] a1.fUnder.fWords)  {r : TRatio} (h : share_Ratio_Minus_p n a0 a1 = some r) :
    Calls Tryz.prog 81 #[.agg #[.bool a0.fLong.fBelow, v0_1, .bool a0.fUnder.fBelow, v0_3], .agg #[.bool a1.fLong.fBelow, v1_1, .bool a1.fUnder.fBelow, v1_3]] w (Gives w fun w' u => ∃ v0_1 v0_3 : Value, u = .agg #[.bool r.fLong.fBelow, v0_1, .bool r.fUnder.fBelow, v0_3] ∧ Rep.R w' L [v0_1] r.fLong.fWords ∧ Rep.R w' L [v0_3] r.fUnder.fWords) := by
  unfold share_Ratio_Minus_p at h
  have hS0 := St.start w
  refine MX.start Tryz.func81 rfl rfl rfl (fun _ cs0 hb0 => ?_)
  refine MX.sr ?_
  refine RG.new .plain rfl (Does.box (vs := [.bool a0.fLong.fBelow, v0_1, .bool a0.fUnder.fBelow, v0_3]) hS0 rfl rfl) (fun w2 b5 hS3 hT4 => ?_)
  refine RG.new .plain rfl (Does.box (vs := [.bool a1.fLong.fBelow, v1_1, .bool a1.fUnder.fBelow, v1_3]) hS3 rfl rfl) (fun w7 b10 hS8 hT9 => ?_)
  refine RG.new .plain rfl (Does.alloc (zs := [.bool false, .slice none 0 0, .bool false, .slice none 0 0]) hS8 (zB (by kernel_rfl))) (fun w12 b15 hS13 hT14 => ?_)
  refine RG.nil ?_
  refine MX.seq ?_
  refine MX.drawT 4 tb81_1 (by kernel_rfl) (by kernel_rfl) (by kernel_rfl) (fun kt16 kp17 => ?_)
  refine RD.vx 0 1 24 kt16 rfl kp17 (FV.loadN (by kernel_rfl) rfl (hS13.memA (.tl (.tl .hd)))) rfl ?_
  refine RD.vx 1 3 28 kt16 rfl kp17 (FV.loadN (by kernel_rfl) rfl (hS13.memA (.tl .hd))) rfl ?_
  obtain ⟨y18, hy18, h⟩ := bind_in h
  have hm19 := Rep.mv h1_1 (Tr.trans hT4 (Tr.trans hT9 hT14))
  have hm20 := Rep.mv h1_3 (Tr.trans hT4 (Tr.trans hT9 hT14))
  refine RD.cl 2 7 kt16 rfl .plain body96 rfl (evs_cons rfl evs_nil) (fun w9 hw9 => share_Ratio_Turned_c n _ w9 (hS13.hL hL hw9) a1 (Rep.keep0 hm19 hw9) (Rep.keep0 hm20 hw9) hy18) rfl (fun w21 vu22 hag23 ⟨v26, v27, hu_, hr28, hr29⟩ => ?_)
  subst hu_
  obtain ⟨hS24, hT25⟩ := hS13.agr hag23
  obtain ⟨y30, hy30, h⟩ := bind_in h
  have hm31 := Rep.mv h0_1 (Tr.trans hT4 (Tr.trans hT9 (Tr.trans hT14 hT25)))
  have hm32 := Rep.mv h0_3 (Tr.trans hT4 (Tr.trans hT9 (Tr.trans hT14 hT25)))
  refine RD.cl 3 15 kt16 rfl .plain body83 rfl (evs_cons rfl (evs_cons rfl evs_nil)) (fun w9 hw9 => share_Ratio_Plus_c n _ w9 (hS24.hL hL hw9) a0 (Rep.keep0 hm31 hw9) (Rep.keep0 hm32 hw9) y18 (Rep.keep0 hr28 hw9) (Rep.keep0 hr29 hw9) hy30) rfl (fun w33 vu34 hag35 ⟨v38, v39, hu_, hr40, hr41⟩ => ?_)
  subst hu_
  obtain ⟨hS36, hT37⟩ := hS24.agr hag35
  refine RD.nw 4 31 kt16 rfl rfl .plain (Acts.storeAll (news := [.bool y30.fLong.fBelow, v38, .bool y30.fUnder.fBelow, v39]) hS36 .hd rfl rfl rfl rfl rfl rfl (ones_cons rfl (ones_cons (Rep.o1 hr40) (ones_cons rfl (ones_cons (Rep.o1 hr41) ones_nil))))) (fun w42 hS43 hT44 => ?_)
  refine RD.done (doneD_ok kt16 (by kernel_rfl)) ?_
  refine MX.ret rfl ?_
  refine RT.leave hb0 Tryz.func81 rfl (.cons (.many (cs := [.bool y30.fLong.fBelow, v38, .bool y30.fUnder.fBelow, v39]) (by kernel_rfl) rfl (hS43.memA .hd)) .nil) rfl ?_
  obtain rfl := Option.some.inj h
  have hm45 := Rep.mv hr40 hT44
  have hm46 := Rep.mv hr41 hT44
  exact ⟨hS43.ag, fun w9 hw9 => ⟨v38, v39, rfl, Rep.keep0 (Rep.dropS hS43 hm45) hw9, Rep.keep0 (Rep.dropS hS43 hm46) hw9⟩⟩
def tb80_4 : List (Nat × Nat × Nat) := [(0, 32768, 4), (0, 65536, 8), (2, 131072, 65536), (0, 262144, 16), (12, 524288, 262144), (21, 1048576, 688128), (63, 0, 1048640), (127, 128, 0)]
theorem el68 : ElT Tryz.prog 68 37 (Rep.size TShare) 128 (.agg #[.int .u64 0, .int .u64 0, .int .u64 0, .int .u64 0, .int .u64 0, .int .u64 0, .int .u64 0, .int .u64 0, .int .u64 0, .int .u64 0, .int .u64 0, .int .u64 0, .int .u64 0, .int .u64 0, .int .u64 0, .int .u64 0]) [.int .u64 0, .int .u64 0, .int .u64 0, .int .u64 0, .int .u64 0, .int .u64 0, .int .u64 0, .int .u64 0, .int .u64 0, .int .u64 0, .int .u64 0, .int .u64 0, .int .u64 0, .int .u64 0, .int .u64 0, .int .u64 0] := ⟨Tryz.underlying68, by kernel_rfl, rfl, rfl, rfl, rfl⟩
theorem body79 : bodyB Tryz.prog 79 = true := by kernel_rfl
theorem body80 : bodyB Tryz.prog 80 = true := by kernel_rfl
theorem body81 : bodyB Tryz.prog 81 = true := by kernel_rfl
theorem body125 : bodyB Tryz.prog 125 = true := by kernel_rfl
def share_Sub_p (n : Nat) (a0 : TShare) (a1 : TShare) : Option (TShare × Int) :=
  (share_valid_p n ([a0, a1] : List TShare)).bind fun y40 => (if y40 = true then (share_Read_p n a0).bind fun y44 => (share_Read_p n a1).bind fun y54 => (share_Ratio_Minus_p n y44 y54).bind fun y64 => (share_told_p n y64 (0 : Int)).bind fun y79 => some (y79.1, y79.2) else (share_told_p n (⟨(⟨false, ([] : List UInt64)⟩ : TLong), (⟨false, ([] : List UInt64)⟩ : TLong)⟩ : TRatio) (20 : Int)).bind fun y93 => some (y93.1, y93.2))
set_option maxRecDepth 4000 in
set_option maxHeartbeats 4000000 in
theorem share_Sub_c (n : Nat) (L : List Nat) (w : World) (hL : ∀ b ∈ L, b < w.heap.size) (a0 : TShare) (a1 : TShare)  {r : TShare × Int} (h : share_Sub_p n a0 a1 = some r) :
    Calls Tryz.prog 24 #[.agg ((cs_TShare a0)).toArray, .agg ((cs_TShare a1)).toArray] w (Gives w fun _ u => u = .tuple #[.agg ((cs_TShare r.1)).toArray, .int .i64 r.2]) := by
  unfold share_Sub_p at h
  have hS0 := St.start w
  refine MX.start Tryz.func24 rfl rfl rfl (fun _ cs0 hb0 => ?_)
  refine MX.sr ?_
  refine RG.new .plain rfl (Does.box (vs := (cs_TShare a0)) hS0 rfl rfl) (fun w2 b5 hS3 hT4 => ?_)
  refine RG.new .plain rfl (Does.box (vs := (cs_TShare a1)) hS3 rfl rfl) (fun w7 b10 hS8 hT9 => ?_)
  refine RG.new .plain rfl (Does.alloc (zs := [.int .u64 0, .int .u64 0, .int .u64 0, .int .u64 0, .int .u64 0, .int .u64 0, .int .u64 0, .int .u64 0, .int .u64 0, .int .u64 0, .int .u64 0, .int .u64 0, .int .u64 0, .int .u64 0, .int .u64 0, .int .u64 0]) hS8 (zB (by kernel_rfl))) (fun w12 b15 hS13 hT14 => ?_)
  refine RG.sg rfl rfl ?_
  refine RG.nil ?_
  refine MX.sr ?_
  refine RG.vv (FV.loadN (by kernel_rfl) rfl (hS13.memA (.tl (.tl .hd)))) rfl ?_
  refine RG.vv (FV.loadN (by kernel_rfl) rfl (hS13.memA (.tl .hd))) rfl ?_
  refine RG.enterP (fst := []) (cap := []) (vs := [.agg ((cs_TShare a0)).toArray, .agg ((cs_TShare a1)).toArray, .func (.func 81) #[] #[]]) .plain body80 Tryz.func80 rfl rfl rfl rfl (evs_cons rfl (evs_cons rfl (evs_cons rfl evs_nil))) rfl (fun cs17 hb16 hp18 => ?_)
  refine MX.sr ?_
  refine RG.new .plain rfl (Does.box (vs := (cs_TShare a0)) hS13 rfl rfl) (fun w20 b23 hS21 hT22 => ?_)
  refine RG.new .plain rfl (Does.box (vs := (cs_TShare a1)) hS21 rfl rfl) (fun w25 b28 hS26 hT27 => ?_)
  refine RG.new .plain rfl (Does.alloc (zs := [.bool false, .slice none 0 0, .bool false, .slice none 0 0]) hS26 (zB (by kernel_rfl))) (fun w30 b33 hS31 hT32 => ?_)
  refine RG.sg rfl rfl ?_
  refine RG.nil ?_
  refine MX.seq ?_
  refine MX.sr ?_
  refine RG.vv (FV.loadN (by kernel_rfl) rfl (hS31.memA (.tl (.tl .hd)))) rfl ?_
  refine RG.vv (FV.loadN (by kernel_rfl) rfl (hS31.memA (.tl .hd))) rfl ?_
  refine RG.new .plain rfl (Does.build (α := TShare) (xs := ([a0, a1] : List TShare)) (vs := [.agg ((cs_TShare a0)).toArray, .agg ((cs_TShare a1)).toArray]) (ds' := (cs_TShare a0 ++ cs_TShare a1)) rfl hS31 el68 rfl (evs_cons rfl (evs_cons rfl evs_nil)) (by kernel_rfl) rfl) (fun w35 b38 hS36 hT37 => ?_)
  have hc39 := Cells.at_ (cs := (cs_TShare a0 ++ cs_TShare a1)) (xs := (([a0, a1] : List TShare) : List TShare)) hS36 L (Cells.cons (cs := (cs_TShare a0)) (ds := (cs_TShare a1)) (mk_TShare a0.fN a0.fD) (Cells.cons (cs := (cs_TShare a1)) (ds := []) (mk_TShare a1.fN a1.fD) (Cells.nil _ _)))
  obtain ⟨y40, hy40, h⟩ := bind_in h
  refine RG.cq (.bool y40) body125 rfl (evs_cons rfl evs_nil) (fun w9 hw9 => share_valid_c n _ w9 (hS36.hL0 hL hw9) ([a0, a1] : List TShare) (Rep.keep0 (St.lend (α := TShare) (L := L) hS36 .hd hc39 hL) hw9) hy40) rfl ?_
  refine RG.vv (FV.not rfl) rfl ?_
  refine RG.nil ?_
  refine MX.ifnb rfl h (fun c41 h => ?_) (fun c41 h => ?_)
  ·skip
   refine MX.skip ?_
   refine MX.seq ?_
   refine MX.drawT 6 tb80_4 (by kernel_rfl) (by kernel_rfl) (by kernel_rfl) (fun kt42 kp43 => ?_)
   refine RD.vw 0 1 kt42 rfl kp43 (fun _ => FV.move rfl) rfl ?_
   refine RD.vx 1 3 244 kt42 rfl kp43 (FV.loadN (by kernel_rfl) rfl (hS36.memA (.tl (.tl (.tl .hd))))) rfl ?_
   refine RD.vx 3 11 240 kt42 rfl kp43 (FV.loadN (by kernel_rfl) rfl (hS36.memA (.tl (.tl .hd)))) rfl ?_
   obtain ⟨y44, hy44, h⟩ := bind_in h
   refine RD.cl 2 15 kt42 rfl .plain body130 rfl (evs_cons rfl evs_nil) (fun w9 hw9 => share_Read_c n _ w9 (hS36.hL hL hw9) a0 hy44) rfl (fun w45 vu46 hag47 ⟨v50, v51, hu_, hr52, hr53⟩ => ?_)
   subst hu_
   obtain ⟨hS48, hT49⟩ := hS36.agr hag47
   obtain ⟨y54, hy54, h⟩ := bind_in h
   refine RD.cl 4 31 kt42 rfl .plain body130 rfl (evs_cons rfl evs_nil) (fun w9 hw9 => share_Read_c n _ w9 (hS48.hL hL hw9) a1 hy54) rfl (fun w55 vu56 hag57 ⟨v60, v61, hu_, hr62, hr63⟩ => ?_)
   subst hu_
   obtain ⟨hS58, hT59⟩ := hS48.agr hag57
   obtain ⟨y64, hy64, h⟩ := bind_in h
   have hm65 := Rep.mv hr52 hT59
   have hm66 := Rep.mv hr53 hT59
   refine RD.cl 5 63 kt42 rfl .plain body81 rfl (evs_cons rfl (evs_cons rfl evs_nil)) (fun w9 hw9 => share_Ratio_Minus_c n _ w9 (hS58.hL hL hw9) y44 (Rep.keep0 hm65 hw9) (Rep.keep0 hm66 hw9) y54 (Rep.keep0 hr62 hw9) (Rep.keep0 hr63 hw9) hy64) rfl (fun w67 vu68 hag69 ⟨v72, v73, hu_, hr74, hr75⟩ => ?_)
   subst hu_
   obtain ⟨hS70, hT71⟩ := hS58.agr hag69
   refine RD.nw 6 127 kt42 rfl rfl .plain (Acts.storeAll (news := [.bool y64.fLong.fBelow, v72, .bool y64.fUnder.fBelow, v73]) hS70 (.tl .hd) rfl rfl rfl rfl rfl rfl (ones_cons rfl (ones_cons (Rep.o1 hr74) (ones_cons rfl (ones_cons (Rep.o1 hr75) ones_nil))))) (fun w76 hS77 hT78 => ?_)
   refine RD.one (i := 7) (readyD_ok kt42 (by kernel_rfl)) (RO.val (m' := 255) (stepC_ok kt42 (by kernel_rfl)) rfl .plain rfl (FV.assign rfl) ?_)
   refine RD.done (doneD_ok kt42 (by kernel_rfl)) ?_
   refine MX.ret rfl ?_
   refine RT.leave (u := .tuple #[.agg #[.bool y64.fLong.fBelow, v72, .bool y64.fUnder.fBelow, v73], .int .i64 0]) hb16 Tryz.func80 rfl (.cons (.many (cs := [.bool y64.fLong.fBelow, v72, .bool y64.fUnder.fBelow, v73]) (by kernel_rfl) rfl (hS77.memA (.tl .hd))) (.cons (.tmp rfl) .nil)) rfl ?_
   refine RG.vv (FV.extract rfl rfl) rfl ?_
   refine RG.vv (FV.extract rfl rfl) rfl ?_
   obtain ⟨y79, hy79, h⟩ := bind_in h
   have hm80 := Rep.mv hr74 hT78
   have hm81 := Rep.mv hr75 hT78
   refine RG.cq (.tuple #[.agg ((cs_TShare y79.1)).toArray, .int .i64 y79.2]) body79 rfl (evs_cons rfl (evs_cons rfl evs_nil)) (fun w9 hw9 => share_told_c n _ w9 (hS77.hL0 hL hw9) y64 (Rep.keep0 (Rep.dropS hS77 hm80) hw9) (Rep.keep0 (Rep.dropS hS77 hm81) hw9) (0 : Int) hy79) rfl ?_
   refine RG.vv (FV.extract rfl rfl) rfl ?_
   refine RG.vv (FV.extract rfl rfl) rfl ?_
   refine RG.now .plain (Acts.storeAll (news := (cs_TShare y79.1)) hS77 (.tl (.tl (.tl (.tl .hd)))) rfl rfl rfl rfl rfl rfl (onesB rfl)) (fun w82 hS83 hT84 => ?_)
   refine RG.sg rfl rfl ?_
   refine RG.nil ?_
   refine MX.ret rfl ?_
   refine RT.leave hb0 Tryz.func24 rfl (.cons (.many (cs := (cs_TShare y79.1)) (by kernel_rfl) rfl (hS83.memA (.tl (.tl (.tl (.tl .hd)))))) (.cons (.tmp rfl) .nil)) rfl ?_
   obtain rfl := Option.some.inj h
   exact ⟨hS83.ag, fun w9 hw9 => rfl⟩
  refine MX.sr ?_
  refine RG.new .plain rfl (Does.alloc (zs := [.bool false, .slice none 0 0, .bool false, .slice none 0 0]) hS36 (zB (by kernel_rfl))) (fun w86 b89 hS87 hT88 => ?_)
  refine RG.nil ?_
  refine MX.sr ?_
  refine RG.vv (FV.loadN (by kernel_rfl) rfl (hS87.memA .hd)) rfl ?_
  refine RG.now .plain (Acts.storeAll (news := [.bool false, .slice none 0 0, .bool false, .slice none 0 0]) hS87 (.tl (.tl .hd)) rfl rfl rfl rfl rfl rfl (onesB rfl)) (fun w90 hS91 hT92 => ?_)
  refine RG.sg rfl rfl ?_
  refine RG.nil ?_
  refine MX.ret rfl ?_
  refine RT.leave (u := .tuple #[.agg #[.bool false, .slice none 0 0, .bool false, .slice none 0 0], .int .i64 20]) hb16 Tryz.func80 rfl (.cons (.many (cs := [.bool false, .slice none 0 0, .bool false, .slice none 0 0]) (by kernel_rfl) rfl (hS91.memA (.tl (.tl .hd)))) (.cons (.tmp rfl) .nil)) rfl ?_
  refine RG.vv (FV.extract rfl rfl) rfl ?_
  refine RG.vv (FV.extract rfl rfl) rfl ?_
  obtain ⟨y93, hy93, h⟩ := bind_in h
  refine RG.cq (.tuple #[.agg ((cs_TShare y93.1)).toArray, .int .i64 y93.2]) body79 rfl (evs_cons rfl (evs_cons rfl evs_nil)) (fun w9 hw9 => share_told_c n _ w9 (hS91.hL0 hL hw9) (⟨(⟨false, ([] : List UInt64)⟩ : TLong), (⟨false, ([] : List UInt64)⟩ : TLong)⟩ : TRatio) (Rep.keep0 (Rep.nilSlice _ _) hw9) (Rep.keep0 (Rep.nilSlice _ _) hw9) (20 : Int) hy93) rfl ?_
  refine RG.vv (FV.extract rfl rfl) rfl ?_
  refine RG.vv (FV.extract rfl rfl) rfl ?_
  refine RG.now .plain (Acts.storeAll (news := (cs_TShare y93.1)) hS91 (.tl (.tl (.tl (.tl (.tl .hd))))) rfl rfl rfl rfl rfl rfl (onesB rfl)) (fun w94 hS95 hT96 => ?_)
  refine RG.sg rfl rfl ?_
  refine RG.nil ?_
  refine MX.ret rfl ?_
  refine RT.leave hb0 Tryz.func24 rfl (.cons (.many (cs := (cs_TShare y93.1)) (by kernel_rfl) rfl (hS95.memA (.tl (.tl (.tl (.tl (.tl .hd))))))) (.cons (.tmp rfl) .nil)) rfl ?_
  obtain rfl := Option.some.inj h
  exact ⟨hS95.ag, fun w9 hw9 => rfl⟩
def share_Add_p (n : Nat) (a0 : TShare) (a1 : TShare) : Option (TShare × Int) :=
  (share_valid_p n ([a0, a1] : List TShare)).bind fun y40 => (if y40 = true then (share_Read_p n a0).bind fun y44 => (share_Read_p n a1).bind fun y54 => (share_Ratio_Plus_p n y44 y54).bind fun y64 => (share_told_p n y64 (0 : Int)).bind fun y79 => some (y79.1, y79.2) else (share_told_p n (⟨(⟨false, ([] : List UInt64)⟩ : TLong), (⟨false, ([] : List UInt64)⟩ : TLong)⟩ : TRatio) (20 : Int)).bind fun y93 => some (y93.1, y93.2))
set_option maxRecDepth 4000 in
set_option maxHeartbeats 4000000 in
theorem share_Add_c (n : Nat) (L : List Nat) (w : World) (hL : ∀ b ∈ L, b < w.heap.size) (a0 : TShare) (a1 : TShare)  {r : TShare × Int} (h : share_Add_p n a0 a1 = some r) :
    Calls Tryz.prog 26 #[.agg ((cs_TShare a0)).toArray, .agg ((cs_TShare a1)).toArray] w (Gives w fun _ u => u = .tuple #[.agg ((cs_TShare r.1)).toArray, .int .i64 r.2]) := by
  unfold share_Add_p at h
  have hS0 := St.start w
  refine MX.start Tryz.func26 rfl rfl rfl (fun _ cs0 hb0 => ?_)
  refine MX.sr ?_
  refine RG.new .plain rfl (Does.box (vs := (cs_TShare a0)) hS0 rfl rfl) (fun w2 b5 hS3 hT4 => ?_)
  refine RG.new .plain rfl (Does.box (vs := (cs_TShare a1)) hS3 rfl rfl) (fun w7 b10 hS8 hT9 => ?_)
  refine RG.new .plain rfl (Does.alloc (zs := [.int .u64 0, .int .u64 0, .int .u64 0, .int .u64 0, .int .u64 0, .int .u64 0, .int .u64 0, .int .u64 0, .int .u64 0, .int .u64 0, .int .u64 0, .int .u64 0, .int .u64 0, .int .u64 0, .int .u64 0, .int .u64 0]) hS8 (zB (by kernel_rfl))) (fun w12 b15 hS13 hT14 => ?_)
  refine RG.sg rfl rfl ?_
  refine RG.nil ?_
  refine MX.sr ?_
  refine RG.vv (FV.loadN (by kernel_rfl) rfl (hS13.memA (.tl (.tl .hd)))) rfl ?_
  refine RG.vv (FV.loadN (by kernel_rfl) rfl (hS13.memA (.tl .hd))) rfl ?_
  refine RG.enterP (fst := []) (cap := []) (vs := [.agg ((cs_TShare a0)).toArray, .agg ((cs_TShare a1)).toArray, .func (.func 83) #[] #[]]) .plain body80 Tryz.func80 rfl rfl rfl rfl (evs_cons rfl (evs_cons rfl (evs_cons rfl evs_nil))) rfl (fun cs17 hb16 hp18 => ?_)
  refine MX.sr ?_
  refine RG.new .plain rfl (Does.box (vs := (cs_TShare a0)) hS13 rfl rfl) (fun w20 b23 hS21 hT22 => ?_)
  refine RG.new .plain rfl (Does.box (vs := (cs_TShare a1)) hS21 rfl rfl) (fun w25 b28 hS26 hT27 => ?_)
  refine RG.new .plain rfl (Does.alloc (zs := [.bool false, .slice none 0 0, .bool false, .slice none 0 0]) hS26 (zB (by kernel_rfl))) (fun w30 b33 hS31 hT32 => ?_)
  refine RG.sg rfl rfl ?_
  refine RG.nil ?_
  refine MX.seq ?_
  refine MX.sr ?_
  refine RG.vv (FV.loadN (by kernel_rfl) rfl (hS31.memA (.tl (.tl .hd)))) rfl ?_
  refine RG.vv (FV.loadN (by kernel_rfl) rfl (hS31.memA (.tl .hd))) rfl ?_
  refine RG.new .plain rfl (Does.build (α := TShare) (xs := ([a0, a1] : List TShare)) (vs := [.agg ((cs_TShare a0)).toArray, .agg ((cs_TShare a1)).toArray]) (ds' := (cs_TShare a0 ++ cs_TShare a1)) rfl hS31 el68 rfl (evs_cons rfl (evs_cons rfl evs_nil)) (by kernel_rfl) rfl) (fun w35 b38 hS36 hT37 => ?_)
  have hc39 := Cells.at_ (cs := (cs_TShare a0 ++ cs_TShare a1)) (xs := (([a0, a1] : List TShare) : List TShare)) hS36 L (Cells.cons (cs := (cs_TShare a0)) (ds := (cs_TShare a1)) (mk_TShare a0.fN a0.fD) (Cells.cons (cs := (cs_TShare a1)) (ds := []) (mk_TShare a1.fN a1.fD) (Cells.nil _ _)))
  obtain ⟨y40, hy40, h⟩ := bind_in h
  refine RG.cq (.bool y40) body125 rfl (evs_cons rfl evs_nil) (fun w9 hw9 => share_valid_c n _ w9 (hS36.hL0 hL hw9) ([a0, a1] : List TShare) (Rep.keep0 (St.lend (α := TShare) (L := L) hS36 .hd hc39 hL) hw9) hy40) rfl ?_
  refine RG.vv (FV.not rfl) rfl ?_
  refine RG.nil ?_
  refine MX.ifnb rfl h (fun c41 h => ?_) (fun c41 h => ?_)
  ·skip
   refine MX.skip ?_
   refine MX.seq ?_
   refine MX.drawT 6 tb80_4 (by kernel_rfl) (by kernel_rfl) (by kernel_rfl) (fun kt42 kp43 => ?_)
   refine RD.vw 0 1 kt42 rfl kp43 (fun _ => FV.move rfl) rfl ?_
   refine RD.vx 1 3 244 kt42 rfl kp43 (FV.loadN (by kernel_rfl) rfl (hS36.memA (.tl (.tl (.tl .hd))))) rfl ?_
   refine RD.vx 3 11 240 kt42 rfl kp43 (FV.loadN (by kernel_rfl) rfl (hS36.memA (.tl (.tl .hd)))) rfl ?_
   obtain ⟨y44, hy44, h⟩ := bind_in h
   refine RD.cl 2 15 kt42 rfl .plain body130 rfl (evs_cons rfl evs_nil) (fun w9 hw9 => share_Read_c n _ w9 (hS36.hL hL hw9) a0 hy44) rfl (fun w45 vu46 hag47 ⟨v50, v51, hu_, hr52, hr53⟩ => ?_)
   subst hu_
   obtain ⟨hS48, hT49⟩ := hS36.agr hag47
   obtain ⟨y54, hy54, h⟩ := bind_in h
   refine RD.cl 4 31 kt42 rfl .plain body130 rfl (evs_cons rfl evs_nil) (fun w9 hw9 => share_Read_c n _ w9 (hS48.hL hL hw9) a1 hy54) rfl (fun w55 vu56 hag57 ⟨v60, v61, hu_, hr62, hr63⟩ => ?_)
   subst hu_
   obtain ⟨hS58, hT59⟩ := hS48.agr hag57
   obtain ⟨y64, hy64, h⟩ := bind_in h
   have hm65 := Rep.mv hr52 hT59
   have hm66 := Rep.mv hr53 hT59
   refine RD.cl 5 63 kt42 rfl .plain body83 rfl (evs_cons rfl (evs_cons rfl evs_nil)) (fun w9 hw9 => share_Ratio_Plus_c n _ w9 (hS58.hL hL hw9) y44 (Rep.keep0 hm65 hw9) (Rep.keep0 hm66 hw9) y54 (Rep.keep0 hr62 hw9) (Rep.keep0 hr63 hw9) hy64) rfl (fun w67 vu68 hag69 ⟨v72, v73, hu_, hr74, hr75⟩ => ?_)
   subst hu_
   obtain ⟨hS70, hT71⟩ := hS58.agr hag69
   refine RD.nw 6 127 kt42 rfl rfl .plain (Acts.storeAll (news := [.bool y64.fLong.fBelow, v72, .bool y64.fUnder.fBelow, v73]) hS70 (.tl .hd) rfl rfl rfl rfl rfl rfl (ones_cons rfl (ones_cons (Rep.o1 hr74) (ones_cons rfl (ones_cons (Rep.o1 hr75) ones_nil))))) (fun w76 hS77 hT78 => ?_)
   refine RD.one (i := 7) (readyD_ok kt42 (by kernel_rfl)) (RO.val (m' := 255) (stepC_ok kt42 (by kernel_rfl)) rfl .plain rfl (FV.assign rfl) ?_)
   refine RD.done (doneD_ok kt42 (by kernel_rfl)) ?_
   refine MX.ret rfl ?_
   refine RT.leave (u := .tuple #[.agg #[.bool y64.fLong.fBelow, v72, .bool y64.fUnder.fBelow, v73], .int .i64 0]) hb16 Tryz.func80 rfl (.cons (.many (cs := [.bool y64.fLong.fBelow, v72, .bool y64.fUnder.fBelow, v73]) (by kernel_rfl) rfl (hS77.memA (.tl .hd))) (.cons (.tmp rfl) .nil)) rfl ?_
   refine RG.vv (FV.extract rfl rfl) rfl ?_
   refine RG.vv (FV.extract rfl rfl) rfl ?_
   obtain ⟨y79, hy79, h⟩ := bind_in h
   have hm80 := Rep.mv hr74 hT78
   have hm81 := Rep.mv hr75 hT78
   refine RG.cq (.tuple #[.agg ((cs_TShare y79.1)).toArray, .int .i64 y79.2]) body79 rfl (evs_cons rfl (evs_cons rfl evs_nil)) (fun w9 hw9 => share_told_c n _ w9 (hS77.hL0 hL hw9) y64 (Rep.keep0 (Rep.dropS hS77 hm80) hw9) (Rep.keep0 (Rep.dropS hS77 hm81) hw9) (0 : Int) hy79) rfl ?_
   refine RG.vv (FV.extract rfl rfl) rfl ?_
   refine RG.vv (FV.extract rfl rfl) rfl ?_
   refine RG.now .plain (Acts.storeAll (news := (cs_TShare y79.1)) hS77 (.tl (.tl (.tl (.tl .hd)))) rfl rfl rfl rfl rfl rfl (onesB rfl)) (fun w82 hS83 hT84 => ?_)
   refine RG.sg rfl rfl ?_
   refine RG.nil ?_
   refine MX.ret rfl ?_
   refine RT.leave hb0 Tryz.func26 rfl (.cons (.many (cs := (cs_TShare y79.1)) (by kernel_rfl) rfl (hS83.memA (.tl (.tl (.tl (.tl .hd)))))) (.cons (.tmp rfl) .nil)) rfl ?_
   obtain rfl := Option.some.inj h
   exact ⟨hS83.ag, fun w9 hw9 => rfl⟩
  refine MX.sr ?_
  refine RG.new .plain rfl (Does.alloc (zs := [.bool false, .slice none 0 0, .bool false, .slice none 0 0]) hS36 (zB (by kernel_rfl))) (fun w86 b89 hS87 hT88 => ?_)
  refine RG.nil ?_
  refine MX.sr ?_
  refine RG.vv (FV.loadN (by kernel_rfl) rfl (hS87.memA .hd)) rfl ?_
  refine RG.now .plain (Acts.storeAll (news := [.bool false, .slice none 0 0, .bool false, .slice none 0 0]) hS87 (.tl (.tl .hd)) rfl rfl rfl rfl rfl rfl (onesB rfl)) (fun w90 hS91 hT92 => ?_)
  refine RG.sg rfl rfl ?_
  refine RG.nil ?_
  refine MX.ret rfl ?_
  refine RT.leave (u := .tuple #[.agg #[.bool false, .slice none 0 0, .bool false, .slice none 0 0], .int .i64 20]) hb16 Tryz.func80 rfl (.cons (.many (cs := [.bool false, .slice none 0 0, .bool false, .slice none 0 0]) (by kernel_rfl) rfl (hS91.memA (.tl (.tl .hd)))) (.cons (.tmp rfl) .nil)) rfl ?_
  refine RG.vv (FV.extract rfl rfl) rfl ?_
  refine RG.vv (FV.extract rfl rfl) rfl ?_
  obtain ⟨y93, hy93, h⟩ := bind_in h
  refine RG.cq (.tuple #[.agg ((cs_TShare y93.1)).toArray, .int .i64 y93.2]) body79 rfl (evs_cons rfl (evs_cons rfl evs_nil)) (fun w9 hw9 => share_told_c n _ w9 (hS91.hL0 hL hw9) (⟨(⟨false, ([] : List UInt64)⟩ : TLong), (⟨false, ([] : List UInt64)⟩ : TLong)⟩ : TRatio) (Rep.keep0 (Rep.nilSlice _ _) hw9) (Rep.keep0 (Rep.nilSlice _ _) hw9) (20 : Int) hy93) rfl ?_
  refine RG.vv (FV.extract rfl rfl) rfl ?_
  refine RG.vv (FV.extract rfl rfl) rfl ?_
  refine RG.now .plain (Acts.storeAll (news := (cs_TShare y93.1)) hS91 (.tl (.tl (.tl (.tl (.tl .hd))))) rfl rfl rfl rfl rfl rfl (onesB rfl)) (fun w94 hS95 hT96 => ?_)
  refine RG.sg rfl rfl ?_
  refine RG.nil ?_
  refine MX.ret rfl ?_
  refine RT.leave hb0 Tryz.func26 rfl (.cons (.many (cs := (cs_TShare y93.1)) (by kernel_rfl) rfl (hS95.memA (.tl (.tl (.tl (.tl (.tl .hd))))))) (.cons (.tmp rfl) .nil)) rfl ?_
  obtain rfl := Option.some.inj h
  exact ⟨hS95.ag, fun w9 hw9 => rfl⟩
def balance_must_api_Share_p (_n : Nat) (a0 : TShare) (a1 : Int) : Option (Except Tbroken TShare) :=
  (if a1 = 0 then some (.ok a0) else some (.error (⟨a1⟩ : Tbroken)))
set_option maxRecDepth 4000 in
set_option maxHeartbeats 4000000 in
theorem balance_must_api_Share_c (n : Nat) (L : List Nat) (w : World) (_hL : ∀ b ∈ L, b < w.heap.size) (a0 : TShare) (a1 : Int)  {r : Except Tbroken TShare} (h : balance_must_api_Share_p n a0 a1 = some r) :
    Calls Tryz.prog 76 #[.agg ((cs_TShare a0)).toArray, .int .i64 a1] w (PGives w (fun (y : TShare) _ u => u = .agg ((cs_TShare y)).toArray) (fun e => .iface 140 (.agg #[.int .i64 e.fErrno])) r) := by
  unfold balance_must_api_Share_p at h
  have hS0 := St.start w
  refine MX.startP Tryz.func76 rfl rfl rfl (fun _ cs0 hb0 hp0 => ?_)
  refine MX.sr ?_
  refine RG.new .plain rfl (Does.box (vs := (cs_TShare a0)) hS0 rfl rfl) (fun w2 b5 hS3 hT4 => ?_)
  refine RG.new .plain rfl (Does.alloc (zs := [.int .u64 0, .int .u64 0, .int .u64 0, .int .u64 0, .int .u64 0, .int .u64 0, .int .u64 0, .int .u64 0, .int .u64 0, .int .u64 0, .int .u64 0, .int .u64 0, .int .u64 0, .int .u64 0, .int .u64 0, .int .u64 0]) hS3 (zB (by kernel_rfl))) (fun w7 b10 hS8 hT9 => ?_)
  refine RG.nil ?_
  refine MX.seq ?_
  refine MX.sr ?_
  refine RG.mv rfl rfl ?_
  refine RG.vv (FV.neq (i := a1) (j := 0) rfl rfl) rfl ?_
  refine RG.nil ?_
  refine MX.ifn rfl h (fun c11 h => ?_) (fun c11 h => ?_)
  ·skip
   refine MX.skip ?_
   refine MX.sr ?_
   refine RG.vv (FV.loadN (by kernel_rfl) rfl (hS8.memA (.tl .hd))) rfl ?_
   refine RG.now .plain (Acts.storeAll (news := (cs_TShare a0)) hS8 .hd rfl rfl rfl rfl rfl rfl (onesB rfl)) (fun w12 hS13 hT14 => ?_)
   refine RG.nil ?_
   refine MX.ret rfl ?_
   refine RT.leave hb0 Tryz.func76 rfl (.cons (.many (cs := (cs_TShare a0)) (by kernel_rfl) rfl (hS13.memA .hd)) .nil) rfl ?_
   obtain rfl := Option.some.inj h
   exact ⟨hS13.ag, fun w9 hw9 => okOf_in rfl⟩
  refine MX.region ?_
  refine RG.mv rfl rfl ?_
  refine RG.vv (FV.buildV (vs := [.int .i64 a1]) (u := .agg #[.int .i64 a1]) (evs_cons rfl evs_nil) (fun w9 => by kernel_rfl)) rfl ?_
  refine RG.vv (FV.makeInterface (by kernel_rfl) rfl) rfl ?_
  refine RG.panic .plain rfl ?_
  obtain rfl := Option.some.inj h
  exact PN.leave hp0 Tryz.func76 ⟨hS8.ag, rfl⟩
def tb127_3 : List (Nat × Nat × Nat) := [(0, 1024, 4), (1, 2048, 1024), (0, 4096, 8), (6, 8192, 4096), (10, 16384, 10240), (16, 32768, 16384), (32, 65536, 32768), (32, 131072, 32768), (255, 0, 65552), (511, 32, 131072)]
theorem ex_A34 {a b : UInt64 × UInt64 × UInt64 × UInt64 × UInt64 × UInt64 × UInt64 × UInt64} (h0 : a.1 = b.1) (h1 : a.2.1 = b.2.1) (h2 : a.2.2.1 = b.2.2.1) (h3 : a.2.2.2.1 = b.2.2.2.1) (h4 : a.2.2.2.2.1 = b.2.2.2.2.1) (h5 : a.2.2.2.2.2.1 = b.2.2.2.2.2.1) (h6 : a.2.2.2.2.2.2.1 = b.2.2.2.2.2.2.1) (h7 : a.2.2.2.2.2.2.2 = b.2.2.2.2.2.2.2) : a = b := Prod.ext h0 (Prod.ext h1 (Prod.ext h2 (Prod.ext h3 (Prod.ext h4 (Prod.ext h5 (Prod.ext h6 (h7)))))))
theorem eqlD_35 (a b : UInt64 × UInt64 × UInt64 × UInt64 × UInt64 × UInt64 × UInt64 × UInt64) (w9 : World) : (do eqGuard .eql 35 (.tmp 0) (.tmp 0) (.agg #[.int .u64 (a.1.toNat : Int), .int .u64 (a.2.1.toNat : Int), .int .u64 (a.2.2.1.toNat : Int), .int .u64 (a.2.2.2.1.toNat : Int), .int .u64 (a.2.2.2.2.1.toNat : Int), .int .u64 (a.2.2.2.2.2.1.toNat : Int), .int .u64 (a.2.2.2.2.2.2.1.toNat : Int), .int .u64 (a.2.2.2.2.2.2.2.toNat : Int)]) (.agg #[.int .u64 (b.1.toNat : Int), .int .u64 (b.2.1.toNat : Int), .int .u64 (b.2.2.1.toNat : Int), .int .u64 (b.2.2.2.1.toNat : Int), .int .u64 (b.2.2.2.2.1.toNat : Int), .int .u64 (b.2.2.2.2.2.1.toNat : Int), .int .u64 (b.2.2.2.2.2.2.1.toNat : Int), .int .u64 (b.2.2.2.2.2.2.2.toNat : Int)]); binOp .eql 35 (.agg #[.int .u64 (a.1.toNat : Int), .int .u64 (a.2.1.toNat : Int), .int .u64 (a.2.2.1.toNat : Int), .int .u64 (a.2.2.2.1.toNat : Int), .int .u64 (a.2.2.2.2.1.toNat : Int), .int .u64 (a.2.2.2.2.2.1.toNat : Int), .int .u64 (a.2.2.2.2.2.2.1.toNat : Int), .int .u64 (a.2.2.2.2.2.2.2.toNat : Int)]) (.agg #[.int .u64 (b.1.toNat : Int), .int .u64 (b.2.1.toNat : Int), .int .u64 (b.2.2.1.toNat : Int), .int .u64 (b.2.2.2.1.toNat : Int), .int .u64 (b.2.2.2.2.1.toNat : Int), .int .u64 (b.2.2.2.2.2.1.toNat : Int), .int .u64 (b.2.2.2.2.2.2.1.toNat : Int), .int .u64 (b.2.2.2.2.2.2.2.toNat : Int)]) : Sem Value).run Tryz.prog w9 = .ok (.bool (decide (a = b))) w9 :=
  eqAgg (ks := [.int .u64, .int .u64, .int .u64, .int .u64, .int .u64, .int .u64, .int .u64, .int .u64]) (xs := [.int .u64 (a.1.toNat : Int), .int .u64 (a.2.1.toNat : Int), .int .u64 (a.2.2.1.toNat : Int), .int .u64 (a.2.2.2.1.toNat : Int), .int .u64 (a.2.2.2.2.1.toNat : Int), .int .u64 (a.2.2.2.2.2.1.toNat : Int), .int .u64 (a.2.2.2.2.2.2.1.toNat : Int), .int .u64 (a.2.2.2.2.2.2.2.toNat : Int)]) (ys := [.int .u64 (b.1.toNat : Int), .int .u64 (b.2.1.toNat : Int), .int .u64 (b.2.2.1.toNat : Int), .int .u64 (b.2.2.2.1.toNat : Int), .int .u64 (b.2.2.2.2.1.toNat : Int), .int .u64 (b.2.2.2.2.2.1.toNat : Int), .int .u64 (b.2.2.2.2.2.2.1.toNat : Int), .int .u64 (b.2.2.2.2.2.2.2.toNat : Int)]) (by kernel_rfl) (by kernel_rfl) (by kernel_rfl) rfl rfl ⟨fun h => by
    simp only [allEq, veq, Bool.and_eq_true, beq_iff_eq, and_true] at h
    obtain ⟨h0, h1, h2, h3, h4, h5, h6, h7⟩ := h
    exact ex_A34 (UInt_inj64 h0) (UInt_inj64 h1) (UInt_inj64 h2) (UInt_inj64 h3) (UInt_inj64 h4) (UInt_inj64 h5) (UInt_inj64 h6) (UInt_inj64 h7), fun h => by subst h; simp [allEq, veq]⟩ _ _ w9
def share_Make_p (n : Nat) (a0 : UInt64 × UInt64 × UInt64 × UInt64 × UInt64 × UInt64 × UInt64 × UInt64) (a1 : UInt64 × UInt64 × UInt64 × UInt64 × UInt64 × UInt64 × UInt64 × UInt64) : Option (TShare × Int) :=
  (if a1 = ((0 : UInt64), (0 : UInt64), (0 : UInt64), (0 : UInt64), (0 : UInt64), (0 : UInt64), (0 : UInt64), (0 : UInt64)) then some ((⟨((0 : UInt64), (0 : UInt64), (0 : UInt64), (0 : UInt64), (0 : UInt64), (0 : UInt64), (0 : UInt64), (0 : UInt64)), ((0 : UInt64), (0 : UInt64), (0 : UInt64), (0 : UInt64), (0 : UInt64), (0 : UInt64), (0 : UInt64), (0 : UInt64))⟩ : TShare), (7 : Int)) else (wide_Longer_p n a0).bind fun y22 => (wide_Longer_p n a1).bind fun y30 => (share_Lowest_p n y22 y30).bind fun y38 => (share_Ratio_Told_p n y38).bind fun y49 => some (y49.1, y49.2))
set_option maxRecDepth 4000 in
set_option maxHeartbeats 4000000 in
theorem share_Make_c (n : Nat) (L : List Nat) (w : World) (hL : ∀ b ∈ L, b < w.heap.size) (a0 : UInt64 × UInt64 × UInt64 × UInt64 × UInt64 × UInt64 × UInt64 × UInt64) (a1 : UInt64 × UInt64 × UInt64 × UInt64 × UInt64 × UInt64 × UInt64 × UInt64)  {r : TShare × Int} (h : share_Make_p n a0 a1 = some r) :
    Calls Tryz.prog 127 #[.agg ((cs_A34 a0)).toArray, .agg ((cs_A34 a1)).toArray] w (Gives w fun _ u => u = .tuple #[.agg ((cs_TShare r.1)).toArray, .int .i64 r.2]) := by
  unfold share_Make_p at h
  have hS0 := St.start w
  refine MX.start Tryz.func127 rfl rfl rfl (fun _ cs0 hb0 => ?_)
  refine MX.sr ?_
  refine RG.new .plain rfl (Does.box (vs := (cs_A34 a0)) hS0 rfl rfl) (fun w2 b5 hS3 hT4 => ?_)
  refine RG.new .plain rfl (Does.box (vs := (cs_A34 a1)) hS3 rfl rfl) (fun w7 b10 hS8 hT9 => ?_)
  refine RG.new .plain rfl (Does.alloc (zs := [.int .u64 0, .int .u64 0, .int .u64 0, .int .u64 0, .int .u64 0, .int .u64 0, .int .u64 0, .int .u64 0, .int .u64 0, .int .u64 0, .int .u64 0, .int .u64 0, .int .u64 0, .int .u64 0, .int .u64 0, .int .u64 0]) hS8 (zB (by kernel_rfl))) (fun w12 b15 hS13 hT14 => ?_)
  refine RG.sg rfl rfl ?_
  refine RG.nil ?_
  refine MX.seq ?_
  refine MX.sr ?_
  refine RG.vv (FV.loadN (by kernel_rfl) rfl (hS13.memA (.tl .hd))) rfl ?_
  refine RG.vv (FV.buildV (vs := []) (u := .agg #[.int .u64 0, .int .u64 0, .int .u64 0, .int .u64 0, .int .u64 0, .int .u64 0, .int .u64 0, .int .u64 0]) evs_nil (fun w9 => by kernel_rfl)) rfl ?_
  refine RG.vv (FV.eqlV (v := .agg ((cs_A34 a1)).toArray) (u := .agg #[.int .u64 0, .int .u64 0, .int .u64 0, .int .u64 0, .int .u64 0, .int .u64 0, .int .u64 0, .int .u64 0]) rfl rfl (eqlD_35 a1 ((0 : UInt64), (0 : UInt64), (0 : UInt64), (0 : UInt64), (0 : UInt64), (0 : UInt64), (0 : UInt64), (0 : UInt64)))) rfl ?_
  refine RG.nil ?_
  refine MX.ifd rfl h (fun c16 h => ?_) (fun c16 h => ?_)
  ·skip
   refine MX.sr ?_
   refine RG.vv (FV.buildV (vs := []) (u := .agg #[.int .u64 0, .int .u64 0, .int .u64 0, .int .u64 0, .int .u64 0, .int .u64 0, .int .u64 0, .int .u64 0, .int .u64 0, .int .u64 0, .int .u64 0, .int .u64 0, .int .u64 0, .int .u64 0, .int .u64 0, .int .u64 0]) evs_nil (fun w9 => by kernel_rfl)) rfl ?_
   refine RG.now .plain (Acts.storeAll (news := [.int .u64 0, .int .u64 0, .int .u64 0, .int .u64 0, .int .u64 0, .int .u64 0, .int .u64 0, .int .u64 0, .int .u64 0, .int .u64 0, .int .u64 0, .int .u64 0, .int .u64 0, .int .u64 0, .int .u64 0, .int .u64 0]) hS13 .hd rfl rfl rfl rfl rfl rfl (onesB rfl)) (fun w17 hS18 hT19 => ?_)
   refine RG.sg rfl rfl ?_
   refine RG.nil ?_
   refine MX.ret rfl ?_
   refine RT.leave hb0 Tryz.func127 rfl (.cons (.many (cs := [.int .u64 0, .int .u64 0, .int .u64 0, .int .u64 0, .int .u64 0, .int .u64 0, .int .u64 0, .int .u64 0, .int .u64 0, .int .u64 0, .int .u64 0, .int .u64 0, .int .u64 0, .int .u64 0, .int .u64 0, .int .u64 0]) (by kernel_rfl) rfl (hS18.memA .hd)) (.cons (.tmp rfl) .nil)) rfl ?_
   obtain rfl := Option.some.inj h
   exact ⟨hS18.ag, fun w9 hw9 => rfl⟩
  refine MX.skip ?_
  refine MX.seq ?_
  refine MX.drawT 8 tb127_3 (by kernel_rfl) (by kernel_rfl) (by kernel_rfl) (fun kt20 kp21 => ?_)
  refine RD.vx 0 1 1018 kt20 rfl kp21 (FV.loadN (by kernel_rfl) rfl (hS13.memA (.tl (.tl .hd)))) rfl ?_
  refine RD.vx 2 5 1016 kt20 rfl kp21 (FV.loadN (by kernel_rfl) rfl (hS13.memA (.tl .hd))) rfl ?_
  obtain ⟨y22, hy22, h⟩ := bind_in h
  refine RD.cl 1 7 kt20 rfl .plain body165 rfl (evs_cons rfl evs_nil) (fun w9 hw9 => wide_Longer_c n _ w9 (hS13.hL hL hw9) a0 hy22) rfl (fun w23 vu24 hag25 ⟨v28, hu_, hr29⟩ => ?_)
  subst hu_
  obtain ⟨hS26, hT27⟩ := hS13.agr hag25
  obtain ⟨y30, hy30, h⟩ := bind_in h
  refine RD.cl 3 15 kt20 rfl .plain body165 rfl (evs_cons rfl evs_nil) (fun w9 hw9 => wide_Longer_c n _ w9 (hS26.hL hL hw9) a1 hy30) rfl (fun w31 vu32 hag33 ⟨v36, hu_, hr37⟩ => ?_)
  subst hu_
  obtain ⟨hS34, hT35⟩ := hS26.agr hag33
  obtain ⟨y38, hy38, h⟩ := bind_in h
  have hm39 := Rep.mv hr29 hT35
  refine RD.cl 4 31 kt20 rfl .plain body131 rfl (evs_cons rfl (evs_cons rfl evs_nil)) (fun w9 hw9 => share_Lowest_c n _ w9 (hS34.hL hL hw9) y22 (Rep.keep0 hm39 hw9) y30 (Rep.keep0 hr37 hw9) hy38) rfl (fun w40 vu41 hag42 ⟨v45, v46, hu_, hr47, hr48⟩ => ?_)
  subst hu_
  obtain ⟨hS43, hT44⟩ := hS34.agr hag42
  obtain ⟨y49, hy49, h⟩ := bind_in h
  refine RD.cq 5 63 960 (.tuple #[.agg ((cs_TShare y49.1)).toArray, .int .i64 y49.2]) kt20 rfl kp21 body129 rfl (evs_cons rfl evs_nil) (fun w9 hw9 => share_Ratio_Told_c n _ w9 (hS43.hL0 hL hw9) y38 (Rep.keep0 (Rep.dropS hS43 hr47) hw9) (Rep.keep0 (Rep.dropS hS43 hr48) hw9) hy49) rfl ?_
  refine RD.vw 6 127 kt20 rfl kp21 (fun _ => FV.extract rfl rfl) rfl ?_
  refine RD.vw 7 255 kt20 rfl kp21 (fun _ => FV.extract rfl rfl) rfl ?_
  refine RD.nw 8 511 kt20 rfl rfl .plain (Acts.storeAll (news := (cs_TShare y49.1)) hS43 .hd rfl rfl rfl rfl rfl rfl (onesB rfl)) (fun w50 hS51 hT52 => ?_)
  refine RD.one (i := 9) (readyD_ok kt20 (by kernel_rfl)) (RO.val (m' := 1023) (stepC_ok kt20 (by kernel_rfl)) rfl .plain rfl (FV.assign rfl) ?_)
  refine RD.done (doneD_ok kt20 (by kernel_rfl)) ?_
  refine MX.ret rfl ?_
  refine RT.leave hb0 Tryz.func127 rfl (.cons (.many (cs := (cs_TShare y49.1)) (by kernel_rfl) rfl (hS51.memA .hd)) (.cons (.tmp rfl) .nil)) rfl ?_
  obtain rfl := Option.some.inj h
  exact ⟨hS51.ag, fun w9 hw9 => rfl⟩
theorem body127 : bodyB Tryz.prog 127 = true := by kernel_rfl
def share_Of_p (n : Nat) (a0 : Int) (a1 : Int) : Option (TShare × Int) :=
  (wide_Of_p n a0).bind fun y6 => (wide_Of_p n a1).bind fun y7 => (share_Make_p n y6 y7).bind fun y8 => some (y8.1, y8.2)
set_option maxRecDepth 4000 in
set_option maxHeartbeats 4000000 in
theorem share_Of_c (n : Nat) (L : List Nat) (w : World) (hL : ∀ b ∈ L, b < w.heap.size) (a0 : Int) (a1 : Int)  {r : TShare × Int} (h : share_Of_p n a0 a1 = some r) :
    Calls Tryz.prog 78 #[.int .i64 a0, .int .i64 a1] w (Gives w fun _ u => u = .tuple #[.agg ((cs_TShare r.1)).toArray, .int .i64 r.2]) := by
  unfold share_Of_p at h
  have hS0 := St.start w
  refine MX.start Tryz.func78 rfl rfl rfl (fun _ cs0 hb0 => ?_)
  refine MX.sr ?_
  refine RG.new .plain rfl (Does.alloc (zs := [.int .u64 0, .int .u64 0, .int .u64 0, .int .u64 0, .int .u64 0, .int .u64 0, .int .u64 0, .int .u64 0, .int .u64 0, .int .u64 0, .int .u64 0, .int .u64 0, .int .u64 0, .int .u64 0, .int .u64 0, .int .u64 0]) hS0 (zB (by kernel_rfl))) (fun w2 b5 hS3 hT4 => ?_)
  refine RG.sg rfl rfl ?_
  refine RG.nil ?_
  refine MX.sr ?_
  refine RG.mv rfl rfl ?_
  obtain ⟨y6, hy6, h⟩ := bind_in h
  refine RG.cq (.agg ((cs_A34 y6)).toArray) body128 rfl (evs_cons rfl evs_nil) (fun w9 hw9 => wide_Of_c n _ w9 (hS3.hL0 hL hw9) a0 hy6) rfl ?_
  refine RG.mv rfl rfl ?_
  obtain ⟨y7, hy7, h⟩ := bind_in h
  refine RG.cq (.agg ((cs_A34 y7)).toArray) body128 rfl (evs_cons rfl evs_nil) (fun w9 hw9 => wide_Of_c n _ w9 (hS3.hL0 hL hw9) a1 hy7) rfl ?_
  obtain ⟨y8, hy8, h⟩ := bind_in h
  refine RG.cq (.tuple #[.agg ((cs_TShare y8.1)).toArray, .int .i64 y8.2]) body127 rfl (evs_cons rfl (evs_cons rfl evs_nil)) (fun w9 hw9 => share_Make_c n _ w9 (hS3.hL0 hL hw9) y6 y7 hy8) rfl ?_
  refine RG.vv (FV.extract rfl rfl) rfl ?_
  refine RG.vv (FV.extract rfl rfl) rfl ?_
  refine RG.now .plain (Acts.storeAll (news := (cs_TShare y8.1)) hS3 .hd rfl rfl rfl rfl rfl rfl (onesB rfl)) (fun w9 hS10 hT11 => ?_)
  refine RG.sg rfl rfl ?_
  refine RG.nil ?_
  refine MX.ret rfl ?_
  refine RT.leave hb0 Tryz.func78 rfl (.cons (.many (cs := (cs_TShare y8.1)) (by kernel_rfl) rfl (hS10.memA .hd)) (.cons (.tmp rfl) .nil)) rfl ?_
  obtain rfl := Option.some.inj h
  exact ⟨hS10.ag, fun w9 hw9 => rfl⟩
theorem body76 : bodyB Tryz.prog 76 = true := by kernel_rfl
theorem body78 : bodyB Tryz.prog 78 = true := by kernel_rfl
def balance_of_p (n : Nat) (a0 : Int) (a1 : Int) : Option (Except Tbroken TShare) :=
  (share_Of_p n a0 a1).bind fun y6 => (balance_must_api_Share_p n y6.1 y6.2).bind fun y7 => exc y7 (fun y9 => some (.ok y9)) (fun e8 => some (.error e8))
set_option maxRecDepth 4000 in
set_option maxHeartbeats 4000000 in
theorem balance_of_c (n : Nat) (L : List Nat) (w : World) (hL : ∀ b ∈ L, b < w.heap.size) (a0 : Int) (a1 : Int)  {r : Except Tbroken TShare} (h : balance_of_p n a0 a1 = some r) :
    Calls Tryz.prog 70 #[.int .i64 a0, .int .i64 a1] w (PGives w (fun (y : TShare) _ u => u = .agg ((cs_TShare y)).toArray) (fun e => .iface 140 (.agg #[.int .i64 e.fErrno])) r) := by
  unfold balance_of_p at h
  have hS0 := St.start w
  refine MX.startP Tryz.func70 rfl rfl rfl (fun _ cs0 hb0 hp0 => ?_)
  refine MX.sr ?_
  refine RG.new .plain rfl (Does.alloc (zs := [.int .u64 0, .int .u64 0, .int .u64 0, .int .u64 0, .int .u64 0, .int .u64 0, .int .u64 0, .int .u64 0, .int .u64 0, .int .u64 0, .int .u64 0, .int .u64 0, .int .u64 0, .int .u64 0, .int .u64 0, .int .u64 0]) hS0 (zB (by kernel_rfl))) (fun w2 b5 hS3 hT4 => ?_)
  refine RG.nil ?_
  refine MX.sr ?_
  refine RG.mv rfl rfl ?_
  refine RG.mv rfl rfl ?_
  obtain ⟨y6, hy6, h⟩ := bind_in h
  refine RG.cq (.tuple #[.agg ((cs_TShare y6.1)).toArray, .int .i64 y6.2]) body78 rfl (evs_cons rfl (evs_cons rfl evs_nil)) (fun w9 hw9 => share_Of_c n _ w9 (hS3.hL0 hL hw9) a0 a1 hy6) rfl ?_
  refine RG.vv (FV.extract rfl rfl) rfl ?_
  refine RG.vv (FV.extract rfl rfl) rfl ?_
  obtain ⟨y7, hy7, h⟩ := bind_in h
  rcases y7 with e8 | y9
  ·skip
   have h := exc_e h
   try dsimp only at h
   refine RG.callE (fst := []) (cap := []) .plain body76 rfl (evs_cons rfl (evs_cons rfl evs_nil)) (fun w9 hw9 => balance_must_api_Share_c n _ w9 (hS3.hL0 hL hw9) y6.1 y6.2 hy7) (fun w10 hag11 => ?_)
   obtain ⟨hS12, hT13⟩ := hS3.agr hag11
   obtain rfl := Option.some.inj h
   exact PN.leave hp0 Tryz.func70 ⟨hS12.ag, rfl⟩
  have h := exc_o h
  try dsimp only at h
  refine RG.cq (.agg ((cs_TShare y9)).toArray) body76 rfl (evs_cons rfl (evs_cons rfl evs_nil)) (fun w9 hw9 => Calls.okp (balance_must_api_Share_c n _ w9 (hS3.hL0 hL hw9) y6.1 y6.2 hy7)) rfl ?_
  refine RG.now .plain (Acts.storeAll (news := (cs_TShare y9)) hS3 .hd rfl rfl rfl rfl rfl rfl (onesB rfl)) (fun w15 hS16 hT17 => ?_)
  refine RG.nil ?_
  refine MX.ret rfl ?_
  refine RT.leave hb0 Tryz.func70 rfl (.cons (.many (cs := (cs_TShare y9)) (by kernel_rfl) rfl (hS16.memA .hd)) .nil) rfl ?_
  obtain rfl := Option.some.inj h
  exact ⟨hS16.ag, fun w9 hw9 => okOf_in rfl⟩
set_option maxRecDepth 4000 in
set_option maxHeartbeats 4000000 in
theorem balance_count_land_c (n : Nat) (L : List Nat) (w : World) (_hL : ∀ b ∈ L, b < w.heap.size) (a0 : Tcount) {v0_3 : Value} (h0_3 : Rep.R w L [v0_3] a0.fRoll.fUnits)  :
    Calls Tryz.prog 120 #[.agg #[.int .i64 a0.fRoll.fGroups, .int .i64 a0.fRoll.fParties, .int .i64 a0.fRoll.fLevels, v0_3, .int .i64 a0.fk]] w (Gives w fun w' u => ∃ b5 : Nat, u = .func (.func 161) #[] #[.pointer (some ⟨b5, 0, none⟩)] ∧ St w w' [.cells b5 [.int .i64 a0.fRoll.fGroups, .int .i64 a0.fRoll.fParties, .int .i64 a0.fRoll.fLevels, v0_3, .int .i64 a0.fk] 97]) := by
  have hS0 := St.start w
  refine MX.start Tryz.func120 rfl rfl rfl (fun _ cs0 hb0 => ?_)
  refine MX.sr ?_
  refine RG.new .plain rfl (Does.box (vs := [.int .i64 a0.fRoll.fGroups, .int .i64 a0.fRoll.fParties, .int .i64 a0.fRoll.fLevels, v0_3, .int .i64 a0.fk]) hS0 rfl rfl) (fun w2 b5 hS3 hT4 => ?_)
  refine RG.sg rfl rfl ?_
  refine RG.nil ?_
  refine MX.sr ?_
  refine RG.vv (FV.makeFunc (vs := []) (us := [.pointer (some ⟨b5, 0, none⟩)]) evs_nil (evs_cons rfl evs_nil)) rfl ?_
  refine RG.sg rfl rfl ?_
  refine RG.nil ?_
  refine MX.ret rfl ?_
  refine RT.leave (u := .func (.func 161) #[] #[.pointer (some ⟨b5, 0, none⟩)]) hb0 Tryz.func120 rfl (.cons (.tmp rfl) .nil) rfl ?_
  exact ⟨hS3.ag, fun w9 hw9 => ⟨b5, rfl, hS3.agree hw9⟩⟩
theorem body120 : bodyB Tryz.prog 120 = true := by kernel_rfl
theorem body161 : bodyB Tryz.prog 161 = true := by kernel_rfl
def balance_count_people_l1 (_n : Nat) (a0 : Tcount) (J157 : Nat × Int → Option (Int ⊕ Int)) : Nat × Int → Option (Int ⊕ Int)
  | (i148, z149) => (if i148 < a0.fRoll.fUnits.length then (a0.fRoll.fUnits[i148]?).bind fun x160 => (if x160.fWater = true then some (.inl z149) else (chk (z149 + x160.fPeople)).bind fun s217 => J157 (i148 + 1, s217)) else some (.inr z149))
def balance_count_people_p (n : Nat) (a0 : Tcount) : Option Int :=
  thn (loopF (balance_count_people_l1 n a0) n (0, 0)) (fun z149 => some z149)
set_option maxRecDepth 4000 in
set_option maxHeartbeats 4000000 in
theorem balance_count_people_c (n : Nat) (L : List Nat) (w : World) (hL : ∀ b ∈ L, b < w.heap.size) (a0 : Tcount) {v0_3 : Value} (h0_3 : Rep.R w L [v0_3] a0.fRoll.fUnits)  {r : Int} (h : balance_count_people_p n a0 = some r) :
    Calls Tryz.prog 71 #[.agg #[.int .i64 a0.fRoll.fGroups, .int .i64 a0.fRoll.fParties, .int .i64 a0.fRoll.fLevels, v0_3, .int .i64 a0.fk]] w (Gives w fun _ u => u = .int .i64 r) := by
  unfold balance_count_people_p at h
  have hS0 := St.start w
  refine MX.start Tryz.func71 rfl rfl rfl (fun _ cs0 hb0 => ?_)
  refine MX.sr ?_
  refine RG.new .plain rfl (Does.box (vs := [.int .i64 a0.fRoll.fGroups, .int .i64 a0.fRoll.fParties, .int .i64 a0.fRoll.fLevels, v0_3, .int .i64 a0.fk]) hS0 rfl rfl) (fun w2 b5 hS3 hT4 => ?_)
  refine RG.new .plain rfl (Does.alloc (zs := [.int .i64 0]) hS3 (zB (by kernel_rfl))) (fun w7 b10 hS8 hT9 => ?_)
  refine RG.nil ?_
  refine MX.seq ?_
  refine MX.sr ?_
  refine RG.vv (FV.loadN (by kernel_rfl) rfl (hS8.memA (.tl .hd))) rfl ?_
  have hm11 := Rep.mv h0_3 (Tr.trans hT4 hT9)
  refine RG.call' (fst := []) (cap := []) .plain body120 rfl (evs_cons rfl evs_nil) (fun w9 hw9 => Calls.gives (balance_count_land_c n _ w9 (hS8.hL hL hw9) a0 (Rep.keep0 hm11 hw9)) fun (w8 : World) (u8 : Value) ⟨b0_, hu_, s_⟩ => (⟨b0_, hu_, s_.from hw9⟩ : ∃ b13 : Nat, u8 = Value.func (.func 161) #[] #[.pointer (some ⟨b13, 0, none⟩)] ∧ St w7 w8 [.cells b13 [.int .i64 a0.fRoll.fGroups, .int .i64 a0.fRoll.fParties, .int .i64 a0.fRoll.fLevels, v0_3, .int .i64 a0.fk] 97])) rfl (fun w14 vu15 hag16 ⟨b13, hu18, s17⟩ => ?_)
  subst hu18
  have hS19 : St w w14 [.cells b13 [.int .i64 a0.fRoll.fGroups, .int .i64 a0.fRoll.fParties, .int .i64 a0.fRoll.fLevels, v0_3, .int .i64 a0.fk] 97, .cells b10 [.int .i64 0] 3, .cells b5 [.int .i64 a0.fRoll.fGroups, .int .i64 a0.fRoll.fParties, .int .i64 a0.fRoll.fLevels, v0_3, .int .i64 a0.fk] 97] := St.merge hS8 s17
  have hT20 : Tr w7 [.cells b10 [.int .i64 0] 3, .cells b5 [.int .i64 a0.fRoll.fGroups, .int .i64 a0.fRoll.fParties, .int .i64 a0.fRoll.fLevels, v0_3, .int .i64 a0.fk] 97] w14 [.cells b13 [.int .i64 a0.fRoll.fGroups, .int .i64 a0.fRoll.fParties, .int .i64 a0.fRoll.fLevels, v0_3, .int .i64 a0.fk] 97, .cells b10 [.int .i64 0] 3, .cells b5 [.int .i64 a0.fRoll.fGroups, .int .i64 a0.fRoll.fParties, .int .i64 a0.fRoll.fLevels, v0_3, .int .i64 a0.fk] 97] := Tr.merge hS8 s17
  refine RG.nil ?_
  refine MX.block ?_
  refine MX.rangeP (lb := [.pointer (some ⟨b13, 0, none⟩)]) rfl hS19 rfl body161 Tryz.func161 rfl rfl rfl (fun w21 lk24 D25 r26 cs29 hS22 hT23 rec27 hb28 hp30 => ?_)
  refine MX.sr ?_
  refine RG.vv (FV.fieldAddr (off := 0) (by kernel_rfl) rfl) rfl ?_
  refine RG.vv (FV.fieldAddr (off := 3) (by kernel_rfl) rfl) rfl ?_
  refine RG.vv (FV.load1 (by kernel_rfl) rfl ((mem_from (hS22.memA (.tl (.tl .hd))) 0) 3 _ rfl)) rfl ?_
  have hm34 := Rep.mv h0_3 (Tr.trans hT4 (Tr.trans hT9 (Tr.trans hT20 hT23)))
  have hl33 : a0.fRoll.fUnits.length ≤ 281474976710656 := Rep.lenle hm34
  refine RG.vv (FV.len (xs := a0.fRoll.fUnits) Tryz.underlying42 rfl hm34) rfl ?_
  refine RG.mv rfl rfl ?_
  refine RG.nil ?_
  refine MX.block ?_
  obtain ⟨o155, ho154, hh156⟩ := thn_in h
  refine MX.loop (α := Nat × Int) (fun ⟨i148, z149⟩ => [(0, .func (.yield lk24) #[] #[]), (7, v0_3), (8, .int .i64 ((a0.fRoll.fUnits.length : Nat) : Int)), (9, .int .i64 ((i148 : Nat) : Int))]) (fun ⟨i148, z149⟩ wx149 => St w wx149 [.obj lk24 (lpO r26 .ready none), .obj D25 (.deferred (some [])), .cells b13 [.int .i64 a0.fRoll.fGroups, .int .i64 a0.fRoll.fParties, .int .i64 a0.fRoll.fLevels, v0_3, .int .i64 a0.fk] 97, .cells b10 [.int .i64 z149] 3, .cells b5 [.int .i64 a0.fRoll.fGroups, .int .i64 a0.fRoll.fParties, .int .i64 a0.fRoll.fLevels, v0_3, .int .i64 a0.fk] 97] ∧ Tr w21 [.obj lk24 (lpO r26 .ready none), .obj D25 (.deferred (some [])), .cells b13 [.int .i64 a0.fRoll.fGroups, .int .i64 a0.fRoll.fParties, .int .i64 a0.fRoll.fLevels, v0_3, .int .i64 a0.fk] 97, .cells b10 [.int .i64 0] 3, .cells b5 [.int .i64 a0.fRoll.fGroups, .int .i64 a0.fRoll.fParties, .int .i64 a0.fRoll.fLevels, v0_3, .int .i64 a0.fk] 97] wx149 [.obj lk24 (lpO r26 .ready none), .obj D25 (.deferred (some [])), .cells b13 [.int .i64 a0.fRoll.fGroups, .int .i64 a0.fRoll.fParties, .int .i64 a0.fRoll.fLevels, v0_3, .int .i64 a0.fk] 97, .cells b10 [.int .i64 z149] 3, .cells b5 [.int .i64 a0.fRoll.fGroups, .int .i64 a0.fRoll.fParties, .int .i64 a0.fRoll.fLevels, v0_3, .int .i64 a0.fk] 97]) (fun ⟨i148, z149⟩ => (i148, z149)) (0, 0) ho154 ⟨rfl, rfl, rfl, rfl, trivial⟩ ⟨hS22, Tr.refl _ _⟩ ?_
  rintro J157 ⟨i148, z149⟩ wx149 hJ158 ⟨hS150, hT151⟩ h
  unfold balance_count_people_l1 at h
  try dsimp only at h
  refine MX.sr ?_
  refine RG.vv (FV.lssN (i := i148) (j := a0.fRoll.fUnits.length) rfl rfl) rfl ?_
  refine RG.nil ?_
  refine MX.seq ?_
  refine MX.ifd rfl h (fun c159 h => ?_) (fun c159 h => ?_)
  ·skip
   refine MX.skip ?_
   refine MX.seq ?_
   refine MX.block ?_
   refine MX.sr ?_
   refine RG.mv rfl rfl ?_
   obtain ⟨x160, hx160, h⟩ := bind_in h
   have hm168 := Rep.mv h0_3 (Tr.trans hT4 (Tr.trans hT9 (Tr.trans hT20 (Tr.trans hT23 hT151))))
   obtain ⟨A161, c162, he163, hk164, cs165, hr166, hm167⟩ := Rep.nth hm168 hx160
   obtain ⟨v169, v170, v171, rfl, hr172, hr173, hr174⟩ := op_TUnit hr166
   refine RG.vv (FV.idxAddr (m := 6) (i := i148) (by kernel_rfl) rfl he163 rfl rfl hk164) rfl ?_
   refine RG.vv (FV.loadN (by kernel_rfl) rfl hm167) rfl ?_
   refine RG.new .plain rfl (Does.alloc (zs := [.string ⟨#[]⟩, .int .i64 0, .slice none 0 0, .slice none 0 0, .slice none 0 0, .bool false]) hS150 (zB (by kernel_rfl))) (fun w176 b179 hS177 hT178 => ?_)
   refine RG.sg rfl rfl ?_
   have hm180 := Rep.mv hr172 hT178
   have hm181 := Rep.mv hr173 hT178
   have hm182 := Rep.mv hr174 hT178
   refine RG.now .plain (Acts.storeAll (news := [.string x160.fName, .int .i64 x160.fPeople, v169, v170, v171, .bool x160.fWater]) hS177 .hd rfl rfl rfl rfl rfl rfl (ones_cons rfl (ones_cons rfl (ones_cons (Rep.o1 hm180) (ones_cons (Rep.o1 hm181) (ones_cons (Rep.o1 hm182) (ones_cons rfl ones_nil))))))) (fun w183 hS184 hT185 => ?_)
   refine RG.nil ?_
   refine MX.sr ?_
   refine RG.vv (FV.fieldAddr (off := 5) (by kernel_rfl) rfl) rfl ?_
   refine RG.vv (FV.load1 (by kernel_rfl) rfl ((hS184.memA .hd) 5 _ rfl)) rfl ?_
   refine RG.mv rfl rfl ?_
   refine RG.ifb (s := 16) rfl h (fun c186 h => ?_) (fun c186 h => ?_)
   ·skip
    refine RG.off (.no rfl rfl) rfl ?_
    refine RG.off (.no rfl rfl) rfl ?_
    refine RG.off (.no rfl rfl) rfl ?_
    refine RG.off (.no rfl rfl) rfl ?_
    refine RG.off (.no rfl rfl) rfl ?_
    refine RG.vv (FV.pick_t rfl rfl) rfl ?_
    refine RG.nil ?_
    refine MX.cond_t rfl ?_
    have h := thn_inl h hh156
    refine MX.ret rfl ?_
    refine RT.leave (u := .tuple #[]) hb28 Tryz.func161 rfl .nil rfl ?_
    refine MX.endRange0 hS184 (.tl .hd) (by intro h9; cases h9) (fun w187 hS188 hT189 => ?_)
    obtain ⟨hS190, hT191⟩ := St.arrB hS188 (.one .hd (.one (.tl .hd) (.one (.tl .hd) (.one (.tl .hd) (.one (.tl .hd) .done)))))
    refine MX.inBlock ?_
    refine MX.sr ?_
    refine RG.vv (FV.load1 (by kernel_rfl) rfl ((hS190.memA (.tl (.tl (.tl .hd)))) 0 _ rfl)) rfl ?_
    refine RG.now .plain (Acts.storeAll (news := [.int .i64 z149]) hS190 (.tl (.tl (.tl .hd))) rfl rfl rfl rfl rfl rfl (ones_cons rfl ones_nil)) (fun w192 hS193 hT194 => ?_)
    refine RG.nil ?_
    refine MX.ret rfl ?_
    refine RT.take hS193 (.tl .hd) (fun w195 hS196 hT197 => ?_)
    obtain ⟨hS198, hT199⟩ := St.arrB hS196 (.one .hd (.one (.tl .hd) (.one (.tl .hd) (.one (.tl .hd) .done))))
    refine RT.leave hb0 Tryz.func71 rfl (.cons (.one (by kernel_rfl) rfl ((hS198.memA (.tl (.tl .hd))) 0 _ rfl)) .nil) rfl ?_
    obtain rfl := Option.some.inj h
    exact ⟨hS198.ag, fun w9 hw9 => rfl⟩
   refine RG.val' (.yes rfl rfl) (FV.move rfl) rfl ?_
   refine RG.val' (.yes rfl rfl) (FV.move rfl) rfl ?_
   refine RG.val' (.yes rfl rfl) (FV.loadN (by kernel_rfl) rfl (hS184.memA .hd)) rfl ?_
   refine RG.yieldP (vs := [.int .i64 ((i148 : Nat) : Int), .agg #[.string x160.fName, .int .i64 x160.fPeople, v169, v170, v171, .bool x160.fWater]]) (.yes rfl rfl) rfl (evs_cons rfl (evs_cons rfl evs_nil)) hS184 (.tl .hd) rec27 rfl rfl rfl (fun cs201 hb200 hp202 => ?_)
   refine MX.region ?_
   refine RG.new .plain rfl (Does.alloc (zs := [.string ⟨#[]⟩, .int .i64 0, .slice none 0 0, .slice none 0 0, .slice none 0 0, .bool false]) hS184 (zB (by kernel_rfl))) (fun w204 b207 hS205 hT206 => ?_)
   have hm208 := Rep.mv hr172 (Tr.trans hT178 (Tr.trans hT185 hT206))
   have hm209 := Rep.mv hr173 (Tr.trans hT178 (Tr.trans hT185 hT206))
   have hm210 := Rep.mv hr174 (Tr.trans hT178 (Tr.trans hT185 hT206))
   refine RG.now .plain (Acts.storeAll (news := [.string x160.fName, .int .i64 x160.fPeople, v169, v170, v171, .bool x160.fWater]) hS205 .hd rfl rfl rfl rfl rfl rfl (ones_cons rfl (ones_cons rfl (ones_cons (Rep.o1 hm208) (ones_cons (Rep.o1 hm209) (ones_cons (Rep.o1 hm210) (ones_cons rfl ones_nil))))))) (fun w211 hS212 hT213 => ?_)
   refine RG.nil ?_
   refine MX.begin hS212 (.tl (.tl .hd)) (fun w214 hS215 hT216 => ?_)
   refine MX.block ?_
   refine MX.region ?_
   refine RG.vv (FV.load1 (by kernel_rfl) rfl ((hS215.memA (.tl (.tl (.tl (.tl (.tl .hd)))))) 0 _ rfl)) rfl ?_
   refine RG.vv (FV.fieldAddr (off := 1) (by kernel_rfl) rfl) rfl ?_
   refine RG.vv (FV.load1 (by kernel_rfl) rfl ((hS215.memA .hd) 1 _ rfl)) rfl ?_
   obtain ⟨s217, hs217, h⟩ := bind_in h
   refine RG.vv (FV.addc (i := z149) (j := x160.fPeople) rfl rfl hs217) rfl ?_
   refine RG.now .plain (Acts.storeAll (news := [.int .i64 s217]) hS215 (.tl (.tl (.tl (.tl (.tl .hd))))) rfl rfl rfl rfl rfl rfl (ones_cons rfl ones_nil)) (fun w218 hS219 hT220 => ?_)
   refine RG.nil ?_
   refine MX.inBlock ?_
   refine MX.roundEnd hb200 hS219 (.tl (.tl .hd)) (fun w221 hS222 hT223 => ?_)
   refine RG.val' (.yes rfl rfl) (FV.not rfl) rfl ?_
   refine RG.vv (FV.pick_f rfl rfl) rfl ?_
   refine RG.nil ?_
   refine MX.cond_f rfl ?_
   refine MX.skip ?_
   refine MX.inBlock ?_
   refine MX.region ?_
   refine RG.vv (FV.addN (i := i148) (j := 1) rfl rfl (by omega)) rfl ?_
   refine RG.mv rfl rfl ?_
   refine RG.nil ?_
   obtain ⟨hS224, hT225⟩ := St.arrB hS222 (.one (.tl (.tl .hd)) (.one (.tl (.tl .hd)) (.one (.tl (.tl .hd)) (.one (.tl (.tl .hd)) (.one (.tl (.tl .hd)) .done)))))
   exact hJ158 (i148 + 1, s217) _ _ ⟨rfl, rfl, rfl, rfl, trivial⟩ ⟨hS224, (Tr.trans hT151 (Tr.trans hT178 (Tr.trans hT185 (Tr.trans hT206 (Tr.trans hT213 (Tr.trans hT216 (Tr.trans hT220 (Tr.trans hT223 hT225))))))))⟩ h
  refine MX.exit rfl ?_
  have h := thn_inr h hh156
  try dsimp only at h
  refine MX.fin rfl ?_
  refine RT.leave (u := .tuple #[]) hb28 Tryz.func161 rfl .nil rfl ?_
  refine MX.endRange0 hS150 .hd (by intro h9; cases h9) (fun w226 hS227 hT228 => ?_)
  obtain ⟨hS229, hT230⟩ := St.arrB hS227 (.one (.tl .hd) (.one (.tl .hd) (.one (.tl .hd) (.one (.tl .hd) .done))))
  refine MX.inBlock ?_
  refine MX.sr ?_
  refine RG.vv (FV.load1 (by kernel_rfl) rfl ((hS229.memA (.tl (.tl .hd))) 0 _ rfl)) rfl ?_
  refine RG.now .plain (Acts.storeAll (news := [.int .i64 z149]) hS229 (.tl (.tl .hd)) rfl rfl rfl rfl rfl rfl (ones_cons rfl ones_nil)) (fun w231 hS232 hT233 => ?_)
  refine RG.nil ?_
  refine MX.ret rfl ?_
  refine RT.take hS232 .hd (fun w234 hS235 hT236 => ?_)
  obtain ⟨hS237, hT238⟩ := St.arrB hS235 (.one (.tl .hd) (.one (.tl .hd) (.one (.tl .hd) .done)))
  refine RT.leave hb0 Tryz.func71 rfl (.cons (.one (by kernel_rfl) rfl ((hS237.memA (.tl .hd)) 0 _ rfl)) .nil) rfl ?_
  obtain rfl := Option.some.inj h
  exact ⟨hS237.ag, fun w9 hw9 => rfl⟩
def balance_must_int_p (_n : Nat) (a0 : Int) (a1 : Int) : Option (Except Tbroken Int) :=
  (if a1 = 0 then some (.ok a0) else some (.error (⟨a1⟩ : Tbroken)))
set_option maxRecDepth 4000 in
set_option maxHeartbeats 4000000 in
theorem balance_must_int_c (n : Nat) (L : List Nat) (w : World) (_hL : ∀ b ∈ L, b < w.heap.size) (a0 : Int) (a1 : Int)  {r : Except Tbroken Int} (h : balance_must_int_p n a0 a1 = some r) :
    Calls Tryz.prog 102 #[.int .i64 a0, .int .i64 a1] w (PGives w (fun (y : Int) _ u => u = .int .i64 y) (fun e => .iface 140 (.agg #[.int .i64 e.fErrno])) r) := by
  unfold balance_must_int_p at h
  have hS0 := St.start w
  refine MX.startP Tryz.func102 rfl rfl rfl (fun _ cs0 hb0 hp0 => ?_)
  refine MX.sr ?_
  refine RG.sg rfl rfl ?_
  refine RG.nil ?_
  refine MX.seq ?_
  refine MX.sr ?_
  refine RG.mv rfl rfl ?_
  refine RG.vv (FV.neq (i := a1) (j := 0) rfl rfl) rfl ?_
  refine RG.nil ?_
  refine MX.ifn rfl h (fun c1 h => ?_) (fun c1 h => ?_)
  ·skip
   refine MX.skip ?_
   refine MX.sr ?_
   refine RG.mv rfl rfl ?_
   refine RG.sg rfl rfl ?_
   refine RG.nil ?_
   refine MX.ret rfl ?_
   refine RT.leave hb0 Tryz.func102 rfl (.cons (.tmp rfl) .nil) rfl ?_
   obtain rfl := Option.some.inj h
   exact ⟨hS0.ag, fun w9 hw9 => okOf_in rfl⟩
  refine MX.region ?_
  refine RG.mv rfl rfl ?_
  refine RG.vv (FV.buildV (vs := [.int .i64 a1]) (u := .agg #[.int .i64 a1]) (evs_cons rfl evs_nil) (fun w9 => by kernel_rfl)) rfl ?_
  refine RG.vv (FV.makeInterface (by kernel_rfl) rfl) rfl ?_
  refine RG.panic .plain rfl ?_
  obtain rfl := Option.some.inj h
  exact PN.leave hp0 Tryz.func102 ⟨hS0.ag, rfl⟩
def share_Sign_1_p (n : Nat) (a0 : TRatio) (_a1 : TRatio) : Option Int :=
  (wide_Long_Side_p n a0.fLong).bind fun y11 => some y11
set_option maxRecDepth 4000 in
set_option maxHeartbeats 4000000 in
theorem share_Sign_1_c (n : Nat) (L : List Nat) (w : World) (hL : ∀ b ∈ L, b < w.heap.size) (a0 : TRatio) {v0_1 : Value} (h0_1 : Rep.R w L [v0_1] a0.fLong.fWords) {v0_3 : Value} (h0_3 : Rep.R w L [v0_3] a0.fUnder.fWords) (a1 : TRatio) {v1_1 : Value} (h1_1 : Rep.R w L [v1_1] a1.fLong.fWords) {v1_3 : Value} (h1_3 : Rep.R w L [v1_3] a1.fUnder.fWords)  {r : Int} (h : share_Sign_1_p n a0 a1 = some r) :
    Calls Tryz.prog 143 #[.agg #[.bool a0.fLong.fBelow, v0_1, .bool a0.fUnder.fBelow, v0_3], .agg #[.bool a1.fLong.fBelow, v1_1, .bool a1.fUnder.fBelow, v1_3]] w (Gives w fun _ u => u = .int .i64 r) := by
  unfold share_Sign_1_p at h
  have hS0 := St.start w
  refine MX.start Tryz.func143 rfl rfl rfl (fun _ cs0 hb0 => ?_)
  refine MX.sr ?_
  refine RG.new .plain rfl (Does.box (vs := [.bool a0.fLong.fBelow, v0_1, .bool a0.fUnder.fBelow, v0_3]) hS0 rfl rfl) (fun w2 b5 hS3 hT4 => ?_)
  refine RG.new .plain rfl (Does.box (vs := [.bool a1.fLong.fBelow, v1_1, .bool a1.fUnder.fBelow, v1_3]) hS3 rfl rfl) (fun w7 b10 hS8 hT9 => ?_)
  refine RG.sg rfl rfl ?_
  refine RG.nil ?_
  refine MX.sr ?_
  refine RG.vv (FV.fieldAddr (off := 0) (by kernel_rfl) rfl) rfl ?_
  refine RG.vv (FV.loadN (cs := [.bool a0.fLong.fBelow, v0_1]) (by kernel_rfl) rfl (mem_part (hS8.memA (.tl .hd)) 0 2)) rfl ?_
  obtain ⟨y11, hy11, h⟩ := bind_in h
  have hm12 := Rep.mv h0_1 (Tr.trans hT4 hT9)
  refine RG.cq (.int .i64 y11) body144 rfl (evs_cons rfl evs_nil) (fun w9 hw9 => wide_Long_Side_c n _ w9 (hS8.hL0 hL hw9) a0.fLong (Rep.keep0 (Rep.dropS hS8 hm12) hw9) hy11) rfl ?_
  refine RG.sg rfl rfl ?_
  refine RG.nil ?_
  refine MX.ret rfl ?_
  refine RT.leave hb0 Tryz.func143 rfl (.cons (.tmp rfl) .nil) rfl ?_
  obtain rfl := Option.some.inj h
  exact ⟨hS8.ag, fun w9 hw9 => rfl⟩
def tb138_4 : List (Nat × Nat × Nat) := [(0, 32768, 4), (0, 65536, 8), (2, 131072, 65536), (0, 262144, 16), (12, 524288, 262144), (21, 1048576, 688128), (63, 64, 1048576), (127, 128, 0)]
theorem body138 : bodyB Tryz.prog 138 = true := by kernel_rfl
theorem body143 : bodyB Tryz.prog 143 = true := by kernel_rfl
def share_Sign_p (n : Nat) (a0 : TShare) : Option (Int × Int) :=
  (share_valid_p n ([a0, a0] : List TShare)).bind fun y25 => (if y25 = true then (share_Read_p n a0).bind fun y29 => (share_Read_p n a0).bind fun y39 => (share_Sign_1_p n y29 y39).bind fun y49 => some (y49, (0 : Int)) else some ((0 : Int), (20 : Int)))
set_option maxRecDepth 4000 in
set_option maxHeartbeats 4000000 in
theorem share_Sign_c (n : Nat) (L : List Nat) (w : World) (hL : ∀ b ∈ L, b < w.heap.size) (a0 : TShare)  {r : Int × Int} (h : share_Sign_p n a0 = some r) :
    Calls Tryz.prog 103 #[.agg ((cs_TShare a0)).toArray] w (Gives w fun _ u => u = .tuple #[.int .i64 r.1, .int .i64 r.2]) := by
  unfold share_Sign_p at h
  have hS0 := St.start w
  refine MX.start Tryz.func103 rfl rfl rfl (fun _ cs0 hb0 => ?_)
  refine MX.sr ?_
  refine RG.new .plain rfl (Does.box (vs := (cs_TShare a0)) hS0 rfl rfl) (fun w2 b5 hS3 hT4 => ?_)
  refine RG.sg rfl rfl ?_
  refine RG.sg rfl rfl ?_
  refine RG.nil ?_
  refine MX.sr ?_
  refine RG.vv (FV.loadN (by kernel_rfl) rfl (hS3.memA .hd)) rfl ?_
  refine RG.vv (FV.loadN (by kernel_rfl) rfl (hS3.memA .hd)) rfl ?_
  refine RG.enterP (fst := []) (cap := []) (vs := [.agg ((cs_TShare a0)).toArray, .agg ((cs_TShare a0)).toArray, .func (.func 143) #[] #[]]) .plain body138 Tryz.func138 rfl rfl rfl rfl (evs_cons rfl (evs_cons rfl (evs_cons rfl evs_nil))) rfl (fun cs7 hb6 hp8 => ?_)
  refine MX.sr ?_
  refine RG.new .plain rfl (Does.box (vs := (cs_TShare a0)) hS3 rfl rfl) (fun w10 b13 hS11 hT12 => ?_)
  refine RG.new .plain rfl (Does.box (vs := (cs_TShare a0)) hS11 rfl rfl) (fun w15 b18 hS16 hT17 => ?_)
  refine RG.sg rfl rfl ?_
  refine RG.sg rfl rfl ?_
  refine RG.nil ?_
  refine MX.seq ?_
  refine MX.sr ?_
  refine RG.vv (FV.loadN (by kernel_rfl) rfl (hS16.memA (.tl .hd))) rfl ?_
  refine RG.vv (FV.loadN (by kernel_rfl) rfl (hS16.memA .hd)) rfl ?_
  refine RG.new .plain rfl (Does.build (α := TShare) (xs := ([a0, a0] : List TShare)) (vs := [.agg ((cs_TShare a0)).toArray, .agg ((cs_TShare a0)).toArray]) (ds' := (cs_TShare a0 ++ cs_TShare a0)) rfl hS16 el68 rfl (evs_cons rfl (evs_cons rfl evs_nil)) (by kernel_rfl) rfl) (fun w20 b23 hS21 hT22 => ?_)
  have hc24 := Cells.at_ (cs := (cs_TShare a0 ++ cs_TShare a0)) (xs := (([a0, a0] : List TShare) : List TShare)) hS21 L (Cells.cons (cs := (cs_TShare a0)) (ds := (cs_TShare a0)) (mk_TShare a0.fN a0.fD) (Cells.cons (cs := (cs_TShare a0)) (ds := []) (mk_TShare a0.fN a0.fD) (Cells.nil _ _)))
  obtain ⟨y25, hy25, h⟩ := bind_in h
  refine RG.cq (.bool y25) body125 rfl (evs_cons rfl evs_nil) (fun w9 hw9 => share_valid_c n _ w9 (hS21.hL0 hL hw9) ([a0, a0] : List TShare) (Rep.keep0 (St.lend (α := TShare) (L := L) hS21 .hd hc24 hL) hw9) hy25) rfl ?_
  refine RG.vv (FV.not rfl) rfl ?_
  refine RG.nil ?_
  refine MX.ifnb rfl h (fun c26 h => ?_) (fun c26 h => ?_)
  ·skip
   refine MX.skip ?_
   refine MX.seq ?_
   refine MX.drawT 8 tb138_4 (by kernel_rfl) (by kernel_rfl) (by kernel_rfl) (fun kt27 kp28 => ?_)
   refine RD.vw 0 1 kt27 rfl kp28 (fun _ => FV.move rfl) rfl ?_
   refine RD.vx 1 3 244 kt27 rfl kp28 (FV.loadN (by kernel_rfl) rfl (hS21.memA (.tl (.tl .hd)))) rfl ?_
   refine RD.vx 3 11 240 kt27 rfl kp28 (FV.loadN (by kernel_rfl) rfl (hS21.memA (.tl .hd))) rfl ?_
   obtain ⟨y29, hy29, h⟩ := bind_in h
   refine RD.cl 2 15 kt27 rfl .plain body130 rfl (evs_cons rfl evs_nil) (fun w9 hw9 => share_Read_c n _ w9 (hS21.hL hL hw9) a0 hy29) rfl (fun w30 vu31 hag32 ⟨v35, v36, hu_, hr37, hr38⟩ => ?_)
   subst hu_
   obtain ⟨hS33, hT34⟩ := hS21.agr hag32
   obtain ⟨y39, hy39, h⟩ := bind_in h
   refine RD.cl 4 31 kt27 rfl .plain body130 rfl (evs_cons rfl evs_nil) (fun w9 hw9 => share_Read_c n _ w9 (hS33.hL hL hw9) a0 hy39) rfl (fun w40 vu41 hag42 ⟨v45, v46, hu_, hr47, hr48⟩ => ?_)
   subst hu_
   obtain ⟨hS43, hT44⟩ := hS33.agr hag42
   obtain ⟨y49, hy49, h⟩ := bind_in h
   have hm50 := Rep.mv hr37 hT44
   have hm51 := Rep.mv hr38 hT44
   refine RD.cq 5 63 192 (.int .i64 y49) kt27 rfl kp28 body143 rfl (evs_cons rfl (evs_cons rfl evs_nil)) (fun w9 hw9 => share_Sign_1_c n _ w9 (hS43.hL0 hL hw9) y29 (Rep.keep0 (Rep.dropS hS43 hm50) hw9) (Rep.keep0 (Rep.dropS hS43 hm51) hw9) y39 (Rep.keep0 (Rep.dropS hS43 hr47) hw9) (Rep.keep0 (Rep.dropS hS43 hr48) hw9) hy49) rfl ?_
   refine RD.vw 6 127 kt27 rfl kp28 (fun _ => FV.assign rfl) rfl ?_
   refine RD.vw 7 255 kt27 rfl kp28 (fun _ => FV.assign rfl) rfl ?_
   refine RD.done (doneD_ok kt27 (by kernel_rfl)) ?_
   refine MX.ret rfl ?_
   refine RT.leave (u := .tuple #[.int .i64 y49, .int .i64 0]) hb6 Tryz.func138 rfl (.cons (.tmp rfl) (.cons (.tmp rfl) .nil)) rfl ?_
   refine RG.vv (FV.extract rfl rfl) rfl ?_
   refine RG.vv (FV.extract rfl rfl) rfl ?_
   refine RG.sg rfl rfl ?_
   refine RG.sg rfl rfl ?_
   refine RG.nil ?_
   refine MX.ret rfl ?_
   refine RT.leave hb0 Tryz.func103 rfl (.cons (.tmp rfl) (.cons (.tmp rfl) .nil)) rfl ?_
   obtain rfl := Option.some.inj h
   exact ⟨hS43.ag, fun w9 hw9 => rfl⟩
  refine MX.sr ?_
  refine RG.sg rfl rfl ?_
  refine RG.nil ?_
  refine MX.sr ?_
  refine RG.mv rfl rfl ?_
  refine RG.sg rfl rfl ?_
  refine RG.sg rfl rfl ?_
  refine RG.nil ?_
  refine MX.ret rfl ?_
  refine RT.leave (u := .tuple #[.int .i64 0, .int .i64 20]) hb6 Tryz.func138 rfl (.cons (.tmp rfl) (.cons (.tmp rfl) .nil)) rfl ?_
  refine RG.vv (FV.extract rfl rfl) rfl ?_
  refine RG.vv (FV.extract rfl rfl) rfl ?_
  refine RG.sg rfl rfl ?_
  refine RG.sg rfl rfl ?_
  refine RG.nil ?_
  refine MX.ret rfl ?_
  refine RT.leave hb0 Tryz.func103 rfl (.cons (.tmp rfl) (.cons (.tmp rfl) .nil)) rfl ?_
  obtain rfl := Option.some.inj h
  exact ⟨hS21.ag, fun w9 hw9 => rfl⟩
def tb82_1 : List (Nat × Nat × Nat) := [(0, 32, 4), (1, 64, 32), (0, 128, 8), (4, 256, 128), (10, 512, 320), (0, 1024, 4), (32, 2048, 1024), (0, 4096, 8), (128, 8192, 4096), (336, 16384, 10240), (528, 32768, 16896), (2047, 0, 32784)]
def share_Ratio_Times_p (n : Nat) (a0 : TRatio) (a1 : TRatio) : Option TRatio :=
  (wide_Long_Times_p n a0.fLong a1.fLong).bind fun y18 => (wide_Long_Times_p n a0.fUnder a1.fUnder).bind fun y28 => (share_Lowest_p n y18 y28).bind fun y38 => some y38
set_option maxRecDepth 4000 in
set_option maxHeartbeats 4000000 in
theorem share_Ratio_Times_c (n : Nat) (L : List Nat) (w : World) (hL : ∀ b ∈ L, b < w.heap.size) (a0 : TRatio) {v0_1 : Value} (h0_1 : Rep.R w L [v0_1] a0.fLong.fWords) {v0_3 : Value} (h0_3 : Rep.R w L [v0_3] a0.fUnder.fWords) (a1 : TRatio) {v1_1 : Value} (h1_1 : Rep.R w L [v1_1] a1.fLong.fWords) {v1_3 : Value} (h1_3 : Rep.R w L [v1_3] a1.fUnder.fWords)  {r : TRatio} (h : share_Ratio_Times_p n a0 a1 = some r) :
    Calls Tryz.prog 82 #[.agg #[.bool a0.fLong.fBelow, v0_1, .bool a0.fUnder.fBelow, v0_3], .agg #[.bool a1.fLong.fBelow, v1_1, .bool a1.fUnder.fBelow, v1_3]] w (Gives w fun w' u => ∃ v0_1 v0_3 : Value, u = .agg #[.bool r.fLong.fBelow, v0_1, .bool r.fUnder.fBelow, v0_3] ∧ Rep.R w' L [v0_1] r.fLong.fWords ∧ Rep.R w' L [v0_3] r.fUnder.fWords) := by
  unfold share_Ratio_Times_p at h
  have hS0 := St.start w
  refine MX.start Tryz.func82 rfl rfl rfl (fun _ cs0 hb0 => ?_)
  refine MX.sr ?_
  refine RG.new .plain rfl (Does.box (vs := [.bool a0.fLong.fBelow, v0_1, .bool a0.fUnder.fBelow, v0_3]) hS0 rfl rfl) (fun w2 b5 hS3 hT4 => ?_)
  refine RG.new .plain rfl (Does.box (vs := [.bool a1.fLong.fBelow, v1_1, .bool a1.fUnder.fBelow, v1_3]) hS3 rfl rfl) (fun w7 b10 hS8 hT9 => ?_)
  refine RG.new .plain rfl (Does.alloc (zs := [.bool false, .slice none 0 0, .bool false, .slice none 0 0]) hS8 (zB (by kernel_rfl))) (fun w12 b15 hS13 hT14 => ?_)
  refine RG.nil ?_
  refine MX.seq ?_
  refine MX.drawT 11 tb82_1 (by kernel_rfl) (by kernel_rfl) (by kernel_rfl) (fun kt16 kp17 => ?_)
  refine RD.vw 0 1 kt16 rfl kp17 (fun _ => FV.fieldAddr (off := 0) (by kernel_rfl) rfl) rfl ?_
  refine RD.vx 1 3 3600 kt16 rfl kp17 (FV.loadN (cs := [.bool a0.fLong.fBelow, v0_1]) (by kernel_rfl) rfl (mem_part (hS13.memA (.tl (.tl .hd))) 0 2)) rfl ?_
  refine RD.vw 2 7 kt16 rfl kp17 (fun _ => FV.fieldAddr (off := 0) (by kernel_rfl) rfl) rfl ?_
  refine RD.vx 3 15 3600 kt16 rfl kp17 (FV.loadN (cs := [.bool a1.fLong.fBelow, v1_1]) (by kernel_rfl) rfl (mem_part (hS13.memA (.tl .hd)) 0 2)) rfl ?_
  refine RD.vw 5 47 kt16 rfl kp17 (fun _ => FV.fieldAddr (off := 2) (by kernel_rfl) rfl) rfl ?_
  refine RD.vx 6 111 3584 kt16 rfl kp17 (FV.loadN (cs := [.bool a0.fUnder.fBelow, v0_3]) (by kernel_rfl) rfl (mem_part (hS13.memA (.tl (.tl .hd))) 2 2)) rfl ?_
  refine RD.vw 7 239 kt16 rfl kp17 (fun _ => FV.fieldAddr (off := 2) (by kernel_rfl) rfl) rfl ?_
  refine RD.vx 8 495 3584 kt16 rfl kp17 (FV.loadN (cs := [.bool a1.fUnder.fBelow, v1_3]) (by kernel_rfl) rfl (mem_part (hS13.memA (.tl .hd)) 2 2)) rfl ?_
  obtain ⟨y18, hy18, h⟩ := bind_in h
  have hm19 := Rep.mv h0_1 (Tr.trans hT4 (Tr.trans hT9 hT14))
  have hm20 := Rep.mv h1_1 (Tr.trans hT4 (Tr.trans hT9 hT14))
  refine RD.cl 4 511 kt16 rfl .plain body132 rfl (evs_cons rfl (evs_cons rfl evs_nil)) (fun w9 hw9 => wide_Long_Times_c n _ w9 (hS13.hL hL hw9) a0.fLong (Rep.keep0 hm19 hw9) a1.fLong (Rep.keep0 hm20 hw9) hy18) rfl (fun w21 vu22 hag23 ⟨v26, hu_, hr27⟩ => ?_)
  subst hu_
  obtain ⟨hS24, hT25⟩ := hS13.agr hag23
  obtain ⟨y28, hy28, h⟩ := bind_in h
  have hm29 := Rep.mv h0_3 (Tr.trans hT4 (Tr.trans hT9 (Tr.trans hT14 hT25)))
  have hm30 := Rep.mv h1_3 (Tr.trans hT4 (Tr.trans hT9 (Tr.trans hT14 hT25)))
  refine RD.cl 9 1023 kt16 rfl .plain body132 rfl (evs_cons rfl (evs_cons rfl evs_nil)) (fun w9 hw9 => wide_Long_Times_c n _ w9 (hS24.hL hL hw9) a0.fUnder (Rep.keep0 hm29 hw9) a1.fUnder (Rep.keep0 hm30 hw9) hy28) rfl (fun w31 vu32 hag33 ⟨v36, hu_, hr37⟩ => ?_)
  subst hu_
  obtain ⟨hS34, hT35⟩ := hS24.agr hag33
  obtain ⟨y38, hy38, h⟩ := bind_in h
  have hm39 := Rep.mv hr27 hT35
  refine RD.cl 10 2047 kt16 rfl .plain body131 rfl (evs_cons rfl (evs_cons rfl evs_nil)) (fun w9 hw9 => share_Lowest_c n _ w9 (hS34.hL hL hw9) y18 (Rep.keep0 hm39 hw9) y28 (Rep.keep0 hr37 hw9) hy38) rfl (fun w40 vu41 hag42 ⟨v45, v46, hu_, hr47, hr48⟩ => ?_)
  subst hu_
  obtain ⟨hS43, hT44⟩ := hS34.agr hag42
  refine RD.nw 11 4095 kt16 rfl rfl .plain (Acts.storeAll (news := [.bool y38.fLong.fBelow, v45, .bool y38.fUnder.fBelow, v46]) hS43 .hd rfl rfl rfl rfl rfl rfl (ones_cons rfl (ones_cons (Rep.o1 hr47) (ones_cons rfl (ones_cons (Rep.o1 hr48) ones_nil))))) (fun w49 hS50 hT51 => ?_)
  refine RD.done (doneD_ok kt16 (by kernel_rfl)) ?_
  refine MX.ret rfl ?_
  refine RT.leave hb0 Tryz.func82 rfl (.cons (.many (cs := [.bool y38.fLong.fBelow, v45, .bool y38.fUnder.fBelow, v46]) (by kernel_rfl) rfl (hS50.memA .hd)) .nil) rfl ?_
  obtain rfl := Option.some.inj h
  have hm52 := Rep.mv hr47 hT51
  have hm53 := Rep.mv hr48 hT51
  exact ⟨hS50.ag, fun w9 hw9 => ⟨v45, v46, rfl, Rep.keep0 (Rep.dropS hS50 hm52) hw9, Rep.keep0 (Rep.dropS hS50 hm53) hw9⟩⟩
theorem body82 : bodyB Tryz.prog 82 = true := by kernel_rfl
def share_Mul_p (n : Nat) (a0 : TShare) (a1 : TShare) : Option (TShare × Int) :=
  (share_valid_p n ([a0, a1] : List TShare)).bind fun y40 => (if y40 = true then (share_Read_p n a0).bind fun y44 => (share_Read_p n a1).bind fun y54 => (share_Ratio_Times_p n y44 y54).bind fun y64 => (share_told_p n y64 (0 : Int)).bind fun y79 => some (y79.1, y79.2) else (share_told_p n (⟨(⟨false, ([] : List UInt64)⟩ : TLong), (⟨false, ([] : List UInt64)⟩ : TLong)⟩ : TRatio) (20 : Int)).bind fun y93 => some (y93.1, y93.2))
set_option maxRecDepth 4000 in
set_option maxHeartbeats 4000000 in
theorem share_Mul_c (n : Nat) (L : List Nat) (w : World) (hL : ∀ b ∈ L, b < w.heap.size) (a0 : TShare) (a1 : TShare)  {r : TShare × Int} (h : share_Mul_p n a0 a1 = some r) :
    Calls Tryz.prog 25 #[.agg ((cs_TShare a0)).toArray, .agg ((cs_TShare a1)).toArray] w (Gives w fun _ u => u = .tuple #[.agg ((cs_TShare r.1)).toArray, .int .i64 r.2]) := by
  unfold share_Mul_p at h
  have hS0 := St.start w
  refine MX.start Tryz.func25 rfl rfl rfl (fun _ cs0 hb0 => ?_)
  refine MX.sr ?_
  refine RG.new .plain rfl (Does.box (vs := (cs_TShare a0)) hS0 rfl rfl) (fun w2 b5 hS3 hT4 => ?_)
  refine RG.new .plain rfl (Does.box (vs := (cs_TShare a1)) hS3 rfl rfl) (fun w7 b10 hS8 hT9 => ?_)
  refine RG.new .plain rfl (Does.alloc (zs := [.int .u64 0, .int .u64 0, .int .u64 0, .int .u64 0, .int .u64 0, .int .u64 0, .int .u64 0, .int .u64 0, .int .u64 0, .int .u64 0, .int .u64 0, .int .u64 0, .int .u64 0, .int .u64 0, .int .u64 0, .int .u64 0]) hS8 (zB (by kernel_rfl))) (fun w12 b15 hS13 hT14 => ?_)
  refine RG.sg rfl rfl ?_
  refine RG.nil ?_
  refine MX.sr ?_
  refine RG.vv (FV.loadN (by kernel_rfl) rfl (hS13.memA (.tl (.tl .hd)))) rfl ?_
  refine RG.vv (FV.loadN (by kernel_rfl) rfl (hS13.memA (.tl .hd))) rfl ?_
  refine RG.enterP (fst := []) (cap := []) (vs := [.agg ((cs_TShare a0)).toArray, .agg ((cs_TShare a1)).toArray, .func (.func 82) #[] #[]]) .plain body80 Tryz.func80 rfl rfl rfl rfl (evs_cons rfl (evs_cons rfl (evs_cons rfl evs_nil))) rfl (fun cs17 hb16 hp18 => ?_)
  refine MX.sr ?_
  refine RG.new .plain rfl (Does.box (vs := (cs_TShare a0)) hS13 rfl rfl) (fun w20 b23 hS21 hT22 => ?_)
  refine RG.new .plain rfl (Does.box (vs := (cs_TShare a1)) hS21 rfl rfl) (fun w25 b28 hS26 hT27 => ?_)
  refine RG.new .plain rfl (Does.alloc (zs := [.bool false, .slice none 0 0, .bool false, .slice none 0 0]) hS26 (zB (by kernel_rfl))) (fun w30 b33 hS31 hT32 => ?_)
  refine RG.sg rfl rfl ?_
  refine RG.nil ?_
  refine MX.seq ?_
  refine MX.sr ?_
  refine RG.vv (FV.loadN (by kernel_rfl) rfl (hS31.memA (.tl (.tl .hd)))) rfl ?_
  refine RG.vv (FV.loadN (by kernel_rfl) rfl (hS31.memA (.tl .hd))) rfl ?_
  refine RG.new .plain rfl (Does.build (α := TShare) (xs := ([a0, a1] : List TShare)) (vs := [.agg ((cs_TShare a0)).toArray, .agg ((cs_TShare a1)).toArray]) (ds' := (cs_TShare a0 ++ cs_TShare a1)) rfl hS31 el68 rfl (evs_cons rfl (evs_cons rfl evs_nil)) (by kernel_rfl) rfl) (fun w35 b38 hS36 hT37 => ?_)
  have hc39 := Cells.at_ (cs := (cs_TShare a0 ++ cs_TShare a1)) (xs := (([a0, a1] : List TShare) : List TShare)) hS36 L (Cells.cons (cs := (cs_TShare a0)) (ds := (cs_TShare a1)) (mk_TShare a0.fN a0.fD) (Cells.cons (cs := (cs_TShare a1)) (ds := []) (mk_TShare a1.fN a1.fD) (Cells.nil _ _)))
  obtain ⟨y40, hy40, h⟩ := bind_in h
  refine RG.cq (.bool y40) body125 rfl (evs_cons rfl evs_nil) (fun w9 hw9 => share_valid_c n _ w9 (hS36.hL0 hL hw9) ([a0, a1] : List TShare) (Rep.keep0 (St.lend (α := TShare) (L := L) hS36 .hd hc39 hL) hw9) hy40) rfl ?_
  refine RG.vv (FV.not rfl) rfl ?_
  refine RG.nil ?_
  refine MX.ifnb rfl h (fun c41 h => ?_) (fun c41 h => ?_)
  ·skip
   refine MX.skip ?_
   refine MX.seq ?_
   refine MX.drawT 6 tb80_4 (by kernel_rfl) (by kernel_rfl) (by kernel_rfl) (fun kt42 kp43 => ?_)
   refine RD.vw 0 1 kt42 rfl kp43 (fun _ => FV.move rfl) rfl ?_
   refine RD.vx 1 3 244 kt42 rfl kp43 (FV.loadN (by kernel_rfl) rfl (hS36.memA (.tl (.tl (.tl .hd))))) rfl ?_
   refine RD.vx 3 11 240 kt42 rfl kp43 (FV.loadN (by kernel_rfl) rfl (hS36.memA (.tl (.tl .hd)))) rfl ?_
   obtain ⟨y44, hy44, h⟩ := bind_in h
   refine RD.cl 2 15 kt42 rfl .plain body130 rfl (evs_cons rfl evs_nil) (fun w9 hw9 => share_Read_c n _ w9 (hS36.hL hL hw9) a0 hy44) rfl (fun w45 vu46 hag47 ⟨v50, v51, hu_, hr52, hr53⟩ => ?_)
   subst hu_
   obtain ⟨hS48, hT49⟩ := hS36.agr hag47
   obtain ⟨y54, hy54, h⟩ := bind_in h
   refine RD.cl 4 31 kt42 rfl .plain body130 rfl (evs_cons rfl evs_nil) (fun w9 hw9 => share_Read_c n _ w9 (hS48.hL hL hw9) a1 hy54) rfl (fun w55 vu56 hag57 ⟨v60, v61, hu_, hr62, hr63⟩ => ?_)
   subst hu_
   obtain ⟨hS58, hT59⟩ := hS48.agr hag57
   obtain ⟨y64, hy64, h⟩ := bind_in h
   have hm65 := Rep.mv hr52 hT59
   have hm66 := Rep.mv hr53 hT59
   refine RD.cl 5 63 kt42 rfl .plain body82 rfl (evs_cons rfl (evs_cons rfl evs_nil)) (fun w9 hw9 => share_Ratio_Times_c n _ w9 (hS58.hL hL hw9) y44 (Rep.keep0 hm65 hw9) (Rep.keep0 hm66 hw9) y54 (Rep.keep0 hr62 hw9) (Rep.keep0 hr63 hw9) hy64) rfl (fun w67 vu68 hag69 ⟨v72, v73, hu_, hr74, hr75⟩ => ?_)
   subst hu_
   obtain ⟨hS70, hT71⟩ := hS58.agr hag69
   refine RD.nw 6 127 kt42 rfl rfl .plain (Acts.storeAll (news := [.bool y64.fLong.fBelow, v72, .bool y64.fUnder.fBelow, v73]) hS70 (.tl .hd) rfl rfl rfl rfl rfl rfl (ones_cons rfl (ones_cons (Rep.o1 hr74) (ones_cons rfl (ones_cons (Rep.o1 hr75) ones_nil))))) (fun w76 hS77 hT78 => ?_)
   refine RD.one (i := 7) (readyD_ok kt42 (by kernel_rfl)) (RO.val (m' := 255) (stepC_ok kt42 (by kernel_rfl)) rfl .plain rfl (FV.assign rfl) ?_)
   refine RD.done (doneD_ok kt42 (by kernel_rfl)) ?_
   refine MX.ret rfl ?_
   refine RT.leave (u := .tuple #[.agg #[.bool y64.fLong.fBelow, v72, .bool y64.fUnder.fBelow, v73], .int .i64 0]) hb16 Tryz.func80 rfl (.cons (.many (cs := [.bool y64.fLong.fBelow, v72, .bool y64.fUnder.fBelow, v73]) (by kernel_rfl) rfl (hS77.memA (.tl .hd))) (.cons (.tmp rfl) .nil)) rfl ?_
   refine RG.vv (FV.extract rfl rfl) rfl ?_
   refine RG.vv (FV.extract rfl rfl) rfl ?_
   obtain ⟨y79, hy79, h⟩ := bind_in h
   have hm80 := Rep.mv hr74 hT78
   have hm81 := Rep.mv hr75 hT78
   refine RG.cq (.tuple #[.agg ((cs_TShare y79.1)).toArray, .int .i64 y79.2]) body79 rfl (evs_cons rfl (evs_cons rfl evs_nil)) (fun w9 hw9 => share_told_c n _ w9 (hS77.hL0 hL hw9) y64 (Rep.keep0 (Rep.dropS hS77 hm80) hw9) (Rep.keep0 (Rep.dropS hS77 hm81) hw9) (0 : Int) hy79) rfl ?_
   refine RG.vv (FV.extract rfl rfl) rfl ?_
   refine RG.vv (FV.extract rfl rfl) rfl ?_
   refine RG.now .plain (Acts.storeAll (news := (cs_TShare y79.1)) hS77 (.tl (.tl (.tl (.tl .hd)))) rfl rfl rfl rfl rfl rfl (onesB rfl)) (fun w82 hS83 hT84 => ?_)
   refine RG.sg rfl rfl ?_
   refine RG.nil ?_
   refine MX.ret rfl ?_
   refine RT.leave hb0 Tryz.func25 rfl (.cons (.many (cs := (cs_TShare y79.1)) (by kernel_rfl) rfl (hS83.memA (.tl (.tl (.tl (.tl .hd)))))) (.cons (.tmp rfl) .nil)) rfl ?_
   obtain rfl := Option.some.inj h
   exact ⟨hS83.ag, fun w9 hw9 => rfl⟩
  refine MX.sr ?_
  refine RG.new .plain rfl (Does.alloc (zs := [.bool false, .slice none 0 0, .bool false, .slice none 0 0]) hS36 (zB (by kernel_rfl))) (fun w86 b89 hS87 hT88 => ?_)
  refine RG.nil ?_
  refine MX.sr ?_
  refine RG.vv (FV.loadN (by kernel_rfl) rfl (hS87.memA .hd)) rfl ?_
  refine RG.now .plain (Acts.storeAll (news := [.bool false, .slice none 0 0, .bool false, .slice none 0 0]) hS87 (.tl (.tl .hd)) rfl rfl rfl rfl rfl rfl (onesB rfl)) (fun w90 hS91 hT92 => ?_)
  refine RG.sg rfl rfl ?_
  refine RG.nil ?_
  refine MX.ret rfl ?_
  refine RT.leave (u := .tuple #[.agg #[.bool false, .slice none 0 0, .bool false, .slice none 0 0], .int .i64 20]) hb16 Tryz.func80 rfl (.cons (.many (cs := [.bool false, .slice none 0 0, .bool false, .slice none 0 0]) (by kernel_rfl) rfl (hS91.memA (.tl (.tl .hd)))) (.cons (.tmp rfl) .nil)) rfl ?_
  refine RG.vv (FV.extract rfl rfl) rfl ?_
  refine RG.vv (FV.extract rfl rfl) rfl ?_
  obtain ⟨y93, hy93, h⟩ := bind_in h
  refine RG.cq (.tuple #[.agg ((cs_TShare y93.1)).toArray, .int .i64 y93.2]) body79 rfl (evs_cons rfl (evs_cons rfl evs_nil)) (fun w9 hw9 => share_told_c n _ w9 (hS91.hL0 hL hw9) (⟨(⟨false, ([] : List UInt64)⟩ : TLong), (⟨false, ([] : List UInt64)⟩ : TLong)⟩ : TRatio) (Rep.keep0 (Rep.nilSlice _ _) hw9) (Rep.keep0 (Rep.nilSlice _ _) hw9) (20 : Int) hy93) rfl ?_
  refine RG.vv (FV.extract rfl rfl) rfl ?_
  refine RG.vv (FV.extract rfl rfl) rfl ?_
  refine RG.now .plain (Acts.storeAll (news := (cs_TShare y93.1)) hS91 (.tl (.tl (.tl (.tl (.tl .hd))))) rfl rfl rfl rfl rfl rfl (onesB rfl)) (fun w94 hS95 hT96 => ?_)
  refine RG.sg rfl rfl ?_
  refine RG.nil ?_
  refine MX.ret rfl ?_
  refine RT.leave hb0 Tryz.func25 rfl (.cons (.many (cs := (cs_TShare y93.1)) (by kernel_rfl) rfl (hS95.memA (.tl (.tl (.tl (.tl (.tl .hd))))))) (.cons (.tmp rfl) .nil)) rfl ?_
  obtain rfl := Option.some.inj h
  exact ⟨hS95.ag, fun w9 hw9 => rfl⟩
def tb105_2 : List (Nat × Nat × Nat) := [(0, 256, 16), (1, 512, 256), (0, 1024, 2), (6, 2048, 1536)]
def wide_Int_p (n : Nat) (a0 : UInt64 × UInt64 × UInt64 × UInt64 × UInt64 × UInt64 × UInt64 × UInt64) : Option (Int × Int) :=
  (wide_Of_p n (i64of a0.1)).bind fun y8 => (if y8 = a0 then some (i64of a0.1, (0 : Int)) else some ((0 : Int), (6 : Int)))
set_option maxRecDepth 4000 in
set_option maxHeartbeats 4000000 in
theorem wide_Int_c (n : Nat) (L : List Nat) (w : World) (hL : ∀ b ∈ L, b < w.heap.size) (a0 : UInt64 × UInt64 × UInt64 × UInt64 × UInt64 × UInt64 × UInt64 × UInt64)  {r : Int × Int} (h : wide_Int_p n a0 = some r) :
    Calls Tryz.prog 105 #[.agg ((cs_A34 a0)).toArray] w (Gives w fun _ u => u = .tuple #[.int .i64 r.1, .int .i64 r.2]) := by
  unfold wide_Int_p at h
  have hS0 := St.start w
  refine MX.start Tryz.func105 rfl rfl rfl (fun _ cs0 hb0 => ?_)
  refine MX.sr ?_
  refine RG.new .plain rfl (Does.box (vs := (cs_A34 a0)) hS0 rfl rfl) (fun w2 b5 hS3 hT4 => ?_)
  refine RG.sg rfl rfl ?_
  refine RG.sg rfl rfl ?_
  refine RG.nil ?_
  refine MX.sr ?_
  refine RG.vv (FV.indexArr (m := 1) (k := 0) (len := 8) (by kernel_rfl) rfl rfl rfl (by omega)) rfl ?_
  refine RG.vv (FV.load1 (by kernel_rfl) rfl ((hS3.memA .hd) 0 _ rfl)) rfl ?_
  refine RG.vv (FV.convUI (a := a0.1) Tryz.underlying33 Tryz.underlying3 rfl) rfl ?_
  refine RG.sg rfl rfl ?_
  refine RG.nil ?_
  refine MX.seq ?_
  refine MX.seq ?_
  refine MX.drawT 4 tb105_2 (by kernel_rfl) (by kernel_rfl) (by kernel_rfl) (fun kt6 kp7 => ?_)
  refine RD.vw 0 1 kt6 rfl kp7 (fun _ => FV.move rfl) rfl ?_
  obtain ⟨y8, hy8, h⟩ := bind_in h
  refine RD.cq 1 3 8 (.agg ((cs_A34 y8)).toArray) kt6 rfl kp7 body128 rfl (evs_cons rfl evs_nil) (fun w9 hw9 => wide_Of_c n _ w9 (hS3.hL0 hL hw9) (i64of a0.1) hy8) rfl ?_
  refine RD.vx 2 7 8 kt6 rfl kp7 (FV.loadN (by kernel_rfl) rfl (hS3.memA .hd)) rfl ?_
  refine RD.vw 3 15 kt6 rfl kp7 (fun _ => FV.neqV (xs := ((cs_A34 y8)).toArray) (ys := ((cs_A34 a0)).toArray) rfl rfl (by kernel_rfl) (eqlD_35 y8 a0)) rfl ?_
  refine RD.done (doneD_ok kt6 (by kernel_rfl)) ?_
  refine MX.ifn rfl h (fun c9 h => ?_) (fun c9 h => ?_)
  ·skip
   refine MX.skip ?_
   refine MX.sr ?_
   refine RG.mv rfl rfl ?_
   refine RG.sg rfl rfl ?_
   refine RG.sg rfl rfl ?_
   refine RG.nil ?_
   refine MX.ret rfl ?_
   refine RT.leave hb0 Tryz.func105 rfl (.cons (.tmp rfl) (.cons (.tmp rfl) .nil)) rfl ?_
   obtain rfl := Option.some.inj h
   exact ⟨hS3.ag, fun w9 hw9 => rfl⟩
  refine MX.sr ?_
  refine RG.sg rfl rfl ?_
  refine RG.sg rfl rfl ?_
  refine RG.nil ?_
  refine MX.ret rfl ?_
  refine RT.leave hb0 Tryz.func105 rfl (.cons (.tmp rfl) (.cons (.tmp rfl) .nil)) rfl ?_
  obtain rfl := Option.some.inj h
  exact ⟨hS3.ag, fun w9 hw9 => rfl⟩
def balance_must_api_Wide_p (_n : Nat) (a0 : UInt64 × UInt64 × UInt64 × UInt64 × UInt64 × UInt64 × UInt64 × UInt64) (a1 : Int) : Option (Except Tbroken (UInt64 × UInt64 × UInt64 × UInt64 × UInt64 × UInt64 × UInt64 × UInt64)) :=
  (if a1 = 0 then some (.ok a0) else some (.error (⟨a1⟩ : Tbroken)))
set_option maxRecDepth 4000 in
set_option maxHeartbeats 4000000 in
theorem balance_must_api_Wide_c (n : Nat) (L : List Nat) (w : World) (_hL : ∀ b ∈ L, b < w.heap.size) (a0 : UInt64 × UInt64 × UInt64 × UInt64 × UInt64 × UInt64 × UInt64 × UInt64) (a1 : Int)  {r : Except Tbroken (UInt64 × UInt64 × UInt64 × UInt64 × UInt64 × UInt64 × UInt64 × UInt64)} (h : balance_must_api_Wide_p n a0 a1 = some r) :
    Calls Tryz.prog 106 #[.agg ((cs_A34 a0)).toArray, .int .i64 a1] w (PGives w (fun (y : UInt64 × UInt64 × UInt64 × UInt64 × UInt64 × UInt64 × UInt64 × UInt64) _ u => u = .agg ((cs_A34 y)).toArray) (fun e => .iface 140 (.agg #[.int .i64 e.fErrno])) r) := by
  unfold balance_must_api_Wide_p at h
  have hS0 := St.start w
  refine MX.startP Tryz.func106 rfl rfl rfl (fun _ cs0 hb0 hp0 => ?_)
  refine MX.sr ?_
  refine RG.new .plain rfl (Does.box (vs := (cs_A34 a0)) hS0 rfl rfl) (fun w2 b5 hS3 hT4 => ?_)
  refine RG.new .plain rfl (Does.alloc (zs := [.int .u64 0, .int .u64 0, .int .u64 0, .int .u64 0, .int .u64 0, .int .u64 0, .int .u64 0, .int .u64 0]) hS3 (zB (by kernel_rfl))) (fun w7 b10 hS8 hT9 => ?_)
  refine RG.nil ?_
  refine MX.seq ?_
  refine MX.sr ?_
  refine RG.mv rfl rfl ?_
  refine RG.vv (FV.neq (i := a1) (j := 0) rfl rfl) rfl ?_
  refine RG.nil ?_
  refine MX.ifn rfl h (fun c11 h => ?_) (fun c11 h => ?_)
  ·skip
   refine MX.skip ?_
   refine MX.sr ?_
   refine RG.vv (FV.loadN (by kernel_rfl) rfl (hS8.memA (.tl .hd))) rfl ?_
   refine RG.now .plain (Acts.storeAll (news := (cs_A34 a0)) hS8 .hd rfl rfl rfl rfl rfl rfl (onesB rfl)) (fun w12 hS13 hT14 => ?_)
   refine RG.nil ?_
   refine MX.ret rfl ?_
   refine RT.leave hb0 Tryz.func106 rfl (.cons (.many (cs := (cs_A34 a0)) (by kernel_rfl) rfl (hS13.memA .hd)) .nil) rfl ?_
   obtain rfl := Option.some.inj h
   exact ⟨hS13.ag, fun w9 hw9 => okOf_in rfl⟩
  refine MX.region ?_
  refine RG.mv rfl rfl ?_
  refine RG.vv (FV.buildV (vs := [.int .i64 a1]) (u := .agg #[.int .i64 a1]) (evs_cons rfl evs_nil) (fun w9 => by kernel_rfl)) rfl ?_
  refine RG.vv (FV.makeInterface (by kernel_rfl) rfl) rfl ?_
  refine RG.panic .plain rfl ?_
  obtain rfl := Option.some.inj h
  exact PN.leave hp0 Tryz.func106 ⟨hS8.ag, rfl⟩
def share_Ratio_Down_p (n : Nat) (a0 : TRatio) : Option TLong :=
  (wide_Long_Parts_p n a0.fLong a0.fUnder).bind fun y11 => some y11.1
set_option maxRecDepth 4000 in
set_option maxHeartbeats 4000000 in
theorem share_Ratio_Down_c (n : Nat) (L : List Nat) (w : World) (hL : ∀ b ∈ L, b < w.heap.size) (a0 : TRatio) {v0_1 : Value} (h0_1 : Rep.R w L [v0_1] a0.fLong.fWords) {v0_3 : Value} (h0_3 : Rep.R w L [v0_3] a0.fUnder.fWords)  {r : TLong} (h : share_Ratio_Down_p n a0 = some r) :
    Calls Tryz.prog 147 #[.agg #[.bool a0.fLong.fBelow, v0_1, .bool a0.fUnder.fBelow, v0_3]] w (Gives w fun w' u => ∃ v0_1 : Value, u = .agg #[.bool r.fBelow, v0_1] ∧ Rep.R w' L [v0_1] r.fWords) := by
  unfold share_Ratio_Down_p at h
  have hS0 := St.start w
  refine MX.start Tryz.func147 rfl rfl rfl (fun _ cs0 hb0 => ?_)
  refine MX.sr ?_
  refine RG.new .plain rfl (Does.box (vs := [.bool a0.fLong.fBelow, v0_1, .bool a0.fUnder.fBelow, v0_3]) hS0 rfl rfl) (fun w2 b5 hS3 hT4 => ?_)
  refine RG.new .plain rfl (Does.alloc (zs := [.bool false, .slice none 0 0]) hS3 (zB (by kernel_rfl))) (fun w7 b10 hS8 hT9 => ?_)
  refine RG.nil ?_
  refine MX.sr ?_
  refine RG.vv (FV.fieldAddr (off := 0) (by kernel_rfl) rfl) rfl ?_
  refine RG.vv (FV.loadN (cs := [.bool a0.fLong.fBelow, v0_1]) (by kernel_rfl) rfl (mem_part (hS8.memA (.tl .hd)) 0 2)) rfl ?_
  refine RG.vv (FV.fieldAddr (off := 2) (by kernel_rfl) rfl) rfl ?_
  refine RG.vv (FV.loadN (cs := [.bool a0.fUnder.fBelow, v0_3]) (by kernel_rfl) rfl (mem_part (hS8.memA (.tl .hd)) 2 2)) rfl ?_
  obtain ⟨y11, hy11, h⟩ := bind_in h
  have hm12 := Rep.mv h0_1 (Tr.trans hT4 hT9)
  have hm13 := Rep.mv h0_3 (Tr.trans hT4 hT9)
  refine RG.call' (fst := []) (cap := []) .plain body168 rfl (evs_cons rfl (evs_cons rfl evs_nil)) (fun w9 hw9 => wide_Long_Parts_c n _ w9 (hS8.hL hL hw9) a0.fLong (Rep.keep0 hm12 hw9) a0.fUnder (Rep.keep0 hm13 hw9) hy11) rfl (fun w14 vu15 hag16 ⟨v19, v20, hu_, hr21, hr22⟩ => ?_)
  subst hu_
  obtain ⟨hS17, hT18⟩ := hS8.agr hag16
  refine RG.mv rfl rfl ?_
  refine RG.vv (FV.extract rfl rfl) rfl ?_
  refine RG.vv (FV.extract rfl rfl) rfl ?_
  refine RG.new .plain rfl (Does.alloc (zs := [.bool false, .slice none 0 0]) hS17 (zB (by kernel_rfl))) (fun w24 b27 hS25 hT26 => ?_)
  refine RG.new .plain rfl (Does.alloc (zs := [.bool false, .slice none 0 0]) hS25 (zB (by kernel_rfl))) (fun w29 b32 hS30 hT31 => ?_)
  have hm33 := Rep.mv hr21 (Tr.trans hT26 hT31)
  refine RG.now .plain (Acts.storeAll (news := [.bool y11.1.fBelow, v19]) hS30 (.tl .hd) rfl rfl rfl rfl rfl rfl (ones_cons rfl (ones_cons (Rep.o1 hm33) ones_nil))) (fun w34 hS35 hT36 => ?_)
  have hm37 := Rep.mv hr22 (Tr.trans hT26 (Tr.trans hT31 hT36))
  refine RG.now .plain (Acts.storeAll (news := [.bool y11.2.fBelow, v20]) hS35 .hd rfl rfl rfl rfl rfl rfl (ones_cons rfl (ones_cons (Rep.o1 hm37) ones_nil))) (fun w38 hS39 hT40 => ?_)
  refine RG.nil ?_
  refine MX.sr ?_
  refine RG.vv (FV.loadN (by kernel_rfl) rfl (hS39.memA (.tl .hd))) rfl ?_
  have hm41 := Rep.mv hr21 (Tr.trans hT26 (Tr.trans hT31 (Tr.trans hT36 hT40)))
  refine RG.now .plain (Acts.storeAll (news := [.bool y11.1.fBelow, v19]) hS39 (.tl (.tl .hd)) rfl rfl rfl rfl rfl rfl (ones_cons rfl (ones_cons (Rep.o1 hm41) ones_nil))) (fun w42 hS43 hT44 => ?_)
  refine RG.nil ?_
  refine MX.ret rfl ?_
  refine RT.leave hb0 Tryz.func147 rfl (.cons (.many (cs := [.bool y11.1.fBelow, v19]) (by kernel_rfl) rfl (hS43.memA (.tl (.tl .hd)))) .nil) rfl ?_
  obtain rfl := Option.some.inj h
  have hm45 := Rep.mv hr21 (Tr.trans hT26 (Tr.trans hT31 (Tr.trans hT36 (Tr.trans hT40 hT44))))
  exact ⟨hS43.ag, fun w9 hw9 => ⟨v19, rfl, Rep.keep0 (Rep.dropS hS43 hm45) hw9⟩⟩
theorem body147 : bodyB Tryz.prog 147 = true := by kernel_rfl
def share_Ceil_1_p (n : Nat) (a0 : TRatio) : Option TLong :=
  (share_Ratio_Turned_p n a0).bind fun y11 => (share_Ratio_Down_p n y11).bind fun y23 => (wide_Long_Turned_p n y23).bind fun y31 => some y31
set_option maxRecDepth 4000 in
set_option maxHeartbeats 4000000 in
theorem share_Ceil_1_c (n : Nat) (L : List Nat) (w : World) (hL : ∀ b ∈ L, b < w.heap.size) (a0 : TRatio) {v0_1 : Value} (h0_1 : Rep.R w L [v0_1] a0.fLong.fWords) {v0_3 : Value} (h0_3 : Rep.R w L [v0_3] a0.fUnder.fWords)  {r : TLong} (h : share_Ceil_1_p n a0 = some r) :
    Calls Tryz.prog 146 #[.agg #[.bool a0.fLong.fBelow, v0_1, .bool a0.fUnder.fBelow, v0_3]] w (Gives w fun w' u => ∃ v0_1 : Value, u = .agg #[.bool r.fBelow, v0_1] ∧ Rep.R w' L [v0_1] r.fWords) := by
  unfold share_Ceil_1_p at h
  have hS0 := St.start w
  refine MX.start Tryz.func146 rfl rfl rfl (fun _ cs0 hb0 => ?_)
  refine MX.sr ?_
  refine RG.new .plain rfl (Does.box (vs := [.bool a0.fLong.fBelow, v0_1, .bool a0.fUnder.fBelow, v0_3]) hS0 rfl rfl) (fun w2 b5 hS3 hT4 => ?_)
  refine RG.new .plain rfl (Does.alloc (zs := [.bool false, .slice none 0 0]) hS3 (zB (by kernel_rfl))) (fun w7 b10 hS8 hT9 => ?_)
  refine RG.nil ?_
  refine MX.sr ?_
  refine RG.vv (FV.loadN (by kernel_rfl) rfl (hS8.memA (.tl .hd))) rfl ?_
  obtain ⟨y11, hy11, h⟩ := bind_in h
  have hm12 := Rep.mv h0_1 (Tr.trans hT4 hT9)
  have hm13 := Rep.mv h0_3 (Tr.trans hT4 hT9)
  refine RG.call' (fst := []) (cap := []) .plain body96 rfl (evs_cons rfl evs_nil) (fun w9 hw9 => share_Ratio_Turned_c n _ w9 (hS8.hL hL hw9) a0 (Rep.keep0 hm12 hw9) (Rep.keep0 hm13 hw9) hy11) rfl (fun w14 vu15 hag16 ⟨v19, v20, hu_, hr21, hr22⟩ => ?_)
  subst hu_
  obtain ⟨hS17, hT18⟩ := hS8.agr hag16
  obtain ⟨y23, hy23, h⟩ := bind_in h
  refine RG.call' (fst := []) (cap := []) .plain body147 rfl (evs_cons rfl evs_nil) (fun w9 hw9 => share_Ratio_Down_c n _ w9 (hS17.hL hL hw9) y11 (Rep.keep0 hr21 hw9) (Rep.keep0 hr22 hw9) hy23) rfl (fun w24 vu25 hag26 ⟨v29, hu_, hr30⟩ => ?_)
  subst hu_
  obtain ⟨hS27, hT28⟩ := hS17.agr hag26
  obtain ⟨y31, hy31, h⟩ := bind_in h
  refine RG.call' (fst := []) (cap := []) .plain body137 rfl (evs_cons rfl evs_nil) (fun w9 hw9 => wide_Long_Turned_c n _ w9 (hS27.hL hL hw9) y23 (Rep.keep0 hr30 hw9) hy31) rfl (fun w32 vu33 hag34 ⟨v37, hu_, hr38⟩ => ?_)
  subst hu_
  obtain ⟨hS35, hT36⟩ := hS27.agr hag34
  refine RG.now .plain (Acts.storeAll (news := [.bool y31.fBelow, v37]) hS35 .hd rfl rfl rfl rfl rfl rfl (ones_cons rfl (ones_cons (Rep.o1 hr38) ones_nil))) (fun w39 hS40 hT41 => ?_)
  refine RG.nil ?_
  refine MX.ret rfl ?_
  refine RT.leave hb0 Tryz.func146 rfl (.cons (.many (cs := [.bool y31.fBelow, v37]) (by kernel_rfl) rfl (hS40.memA .hd)) .nil) rfl ?_
  obtain rfl := Option.some.inj h
  have hm42 := Rep.mv hr38 hT41
  exact ⟨hS40.ag, fun w9 hw9 => ⟨v37, rfl, Rep.keep0 (Rep.dropS hS40 hm42) hw9⟩⟩
theorem body145 : bodyB Tryz.prog 145 = true := by kernel_rfl
theorem body146 : bodyB Tryz.prog 146 = true := by kernel_rfl
def share_Ceil_p (n : Nat) (a0 : TShare) : Option ((UInt64 × UInt64 × UInt64 × UInt64 × UInt64 × UInt64 × UInt64 × UInt64) × Int) :=
  (share_valid_p n ([a0] : List TShare)).bind fun y30 => (if y30 = true then (share_Read_p n a0).bind fun y32 => (share_Ceil_1_p n y32).bind fun y42 => (wide_Long_Told_p n y42).bind fun y50 => some (y50.1, y50.2) else some (((0 : UInt64), (0 : UInt64), (0 : UInt64), (0 : UInt64), (0 : UInt64), (0 : UInt64), (0 : UInt64), (0 : UInt64)), (20 : Int)))
set_option maxRecDepth 4000 in
set_option maxHeartbeats 4000000 in
theorem share_Ceil_c (n : Nat) (L : List Nat) (w : World) (hL : ∀ b ∈ L, b < w.heap.size) (a0 : TShare)  {r : (UInt64 × UInt64 × UInt64 × UInt64 × UInt64 × UInt64 × UInt64 × UInt64) × Int} (h : share_Ceil_p n a0 = some r) :
    Calls Tryz.prog 107 #[.agg ((cs_TShare a0)).toArray] w (Gives w fun _ u => u = .tuple #[.agg ((cs_A34 r.1)).toArray, .int .i64 r.2]) := by
  unfold share_Ceil_p at h
  have hS0 := St.start w
  refine MX.start Tryz.func107 rfl rfl rfl (fun _ cs0 hb0 => ?_)
  refine MX.sr ?_
  refine RG.new .plain rfl (Does.box (vs := (cs_TShare a0)) hS0 rfl rfl) (fun w2 b5 hS3 hT4 => ?_)
  refine RG.new .plain rfl (Does.alloc (zs := [.int .u64 0, .int .u64 0, .int .u64 0, .int .u64 0, .int .u64 0, .int .u64 0, .int .u64 0, .int .u64 0]) hS3 (zB (by kernel_rfl))) (fun w7 b10 hS8 hT9 => ?_)
  refine RG.sg rfl rfl ?_
  refine RG.nil ?_
  refine MX.sr ?_
  refine RG.vv (FV.loadN (by kernel_rfl) rfl (hS8.memA (.tl .hd))) rfl ?_
  refine RG.enterP (fst := []) (cap := []) (vs := [.agg ((cs_TShare a0)).toArray, .func (.func 146) #[] #[]]) .plain body145 Tryz.func145 rfl rfl rfl rfl (evs_cons rfl (evs_cons rfl evs_nil)) rfl (fun cs12 hb11 hp13 => ?_)
  refine MX.sr ?_
  refine RG.new .plain rfl (Does.box (vs := (cs_TShare a0)) hS8 rfl rfl) (fun w15 b18 hS16 hT17 => ?_)
  refine RG.new .plain rfl (Does.alloc (zs := [.int .u64 0, .int .u64 0, .int .u64 0, .int .u64 0, .int .u64 0, .int .u64 0, .int .u64 0, .int .u64 0]) hS16 (zB (by kernel_rfl))) (fun w20 b23 hS21 hT22 => ?_)
  refine RG.sg rfl rfl ?_
  refine RG.nil ?_
  refine MX.seq ?_
  refine MX.sr ?_
  refine RG.vv (FV.loadN (by kernel_rfl) rfl (hS21.memA (.tl .hd))) rfl ?_
  refine RG.new .plain rfl (Does.build (α := TShare) (xs := ([a0] : List TShare)) (vs := [.agg ((cs_TShare a0)).toArray]) (ds' := (cs_TShare a0)) rfl hS21 el68 rfl (evs_cons rfl evs_nil) (by kernel_rfl) rfl) (fun w25 b28 hS26 hT27 => ?_)
  have hc29 := Cells.at_ (cs := (cs_TShare a0)) (xs := (([a0] : List TShare) : List TShare)) hS26 L (Cells.cons (cs := (cs_TShare a0)) (ds := []) (mk_TShare a0.fN a0.fD) (Cells.nil _ _))
  obtain ⟨y30, hy30, h⟩ := bind_in h
  refine RG.cq (.bool y30) body125 rfl (evs_cons rfl evs_nil) (fun w9 hw9 => share_valid_c n _ w9 (hS26.hL0 hL hw9) ([a0] : List TShare) (Rep.keep0 (St.lend (α := TShare) (L := L) hS26 .hd hc29 hL) hw9) hy30) rfl ?_
  refine RG.vv (FV.not rfl) rfl ?_
  refine RG.nil ?_
  refine MX.ifnb rfl h (fun c31 h => ?_) (fun c31 h => ?_)
  ·skip
   refine MX.skip ?_
   refine MX.sr ?_
   refine RG.mv rfl rfl ?_
   refine RG.vv (FV.loadN (by kernel_rfl) rfl (hS26.memA (.tl (.tl .hd)))) rfl ?_
   obtain ⟨y32, hy32, h⟩ := bind_in h
   refine RG.call' (fst := []) (cap := []) .plain body130 rfl (evs_cons rfl evs_nil) (fun w9 hw9 => share_Read_c n _ w9 (hS26.hL hL hw9) a0 hy32) rfl (fun w33 vu34 hag35 ⟨v38, v39, hu_, hr40, hr41⟩ => ?_)
   subst hu_
   obtain ⟨hS36, hT37⟩ := hS26.agr hag35
   obtain ⟨y42, hy42, h⟩ := bind_in h
   refine RG.call' (fst := []) (cap := []) .plain body146 rfl (evs_cons rfl evs_nil) (fun w9 hw9 => share_Ceil_1_c n _ w9 (hS36.hL hL hw9) y32 (Rep.keep0 hr40 hw9) (Rep.keep0 hr41 hw9) hy42) rfl (fun w43 vu44 hag45 ⟨v48, hu_, hr49⟩ => ?_)
   subst hu_
   obtain ⟨hS46, hT47⟩ := hS36.agr hag45
   obtain ⟨y50, hy50, h⟩ := bind_in h
   refine RG.cq (.tuple #[.agg ((cs_A34 y50.1)).toArray, .int .i64 y50.2]) body166 rfl (evs_cons rfl evs_nil) (fun w9 hw9 => wide_Long_Told_c n _ w9 (hS46.hL0 hL hw9) y42 (Rep.keep0 (Rep.dropS hS46 hr49) hw9) hy50) rfl ?_
   refine RG.vv (FV.extract rfl rfl) rfl ?_
   refine RG.vv (FV.extract rfl rfl) rfl ?_
   refine RG.now .plain (Acts.storeAll (news := (cs_A34 y50.1)) hS46 (.tl .hd) rfl rfl rfl rfl rfl rfl (onesB rfl)) (fun w51 hS52 hT53 => ?_)
   refine RG.sg rfl rfl ?_
   refine RG.nil ?_
   refine MX.ret rfl ?_
   refine RT.leave (u := .tuple #[.agg ((cs_A34 y50.1)).toArray, .int .i64 y50.2]) hb11 Tryz.func145 rfl (.cons (.many (cs := (cs_A34 y50.1)) (by kernel_rfl) rfl (hS52.memA (.tl .hd))) (.cons (.tmp rfl) .nil)) rfl ?_
   refine RG.vv (FV.extract rfl rfl) rfl ?_
   refine RG.vv (FV.extract rfl rfl) rfl ?_
   refine RG.now .plain (Acts.storeAll (news := (cs_A34 y50.1)) hS52 (.tl (.tl (.tl .hd))) rfl rfl rfl rfl rfl rfl (onesB rfl)) (fun w54 hS55 hT56 => ?_)
   refine RG.sg rfl rfl ?_
   refine RG.nil ?_
   refine MX.ret rfl ?_
   refine RT.leave hb0 Tryz.func107 rfl (.cons (.many (cs := (cs_A34 y50.1)) (by kernel_rfl) rfl (hS55.memA (.tl (.tl (.tl .hd))))) (.cons (.tmp rfl) .nil)) rfl ?_
   obtain rfl := Option.some.inj h
   exact ⟨hS55.ag, fun w9 hw9 => rfl⟩
  refine MX.sr ?_
  refine RG.vv (FV.buildV (vs := []) (u := .agg #[.int .u64 0, .int .u64 0, .int .u64 0, .int .u64 0, .int .u64 0, .int .u64 0, .int .u64 0, .int .u64 0]) evs_nil (fun w9 => by kernel_rfl)) rfl ?_
  refine RG.now .plain (Acts.storeAll (news := [.int .u64 0, .int .u64 0, .int .u64 0, .int .u64 0, .int .u64 0, .int .u64 0, .int .u64 0, .int .u64 0]) hS26 (.tl .hd) rfl rfl rfl rfl rfl rfl (onesB rfl)) (fun w57 hS58 hT59 => ?_)
  refine RG.sg rfl rfl ?_
  refine RG.nil ?_
  refine MX.ret rfl ?_
  refine RT.leave (u := .tuple #[.agg #[.int .u64 0, .int .u64 0, .int .u64 0, .int .u64 0, .int .u64 0, .int .u64 0, .int .u64 0, .int .u64 0], .int .i64 20]) hb11 Tryz.func145 rfl (.cons (.many (cs := [.int .u64 0, .int .u64 0, .int .u64 0, .int .u64 0, .int .u64 0, .int .u64 0, .int .u64 0, .int .u64 0]) (by kernel_rfl) rfl (hS58.memA (.tl .hd))) (.cons (.tmp rfl) .nil)) rfl ?_
  refine RG.vv (FV.extract rfl rfl) rfl ?_
  refine RG.vv (FV.extract rfl rfl) rfl ?_
  refine RG.now .plain (Acts.storeAll (news := [.int .u64 0, .int .u64 0, .int .u64 0, .int .u64 0, .int .u64 0, .int .u64 0, .int .u64 0, .int .u64 0]) hS58 (.tl (.tl (.tl .hd))) rfl rfl rfl rfl rfl rfl (onesB rfl)) (fun w60 hS61 hT62 => ?_)
  refine RG.sg rfl rfl ?_
  refine RG.nil ?_
  refine MX.ret rfl ?_
  refine RT.leave hb0 Tryz.func107 rfl (.cons (.many (cs := [.int .u64 0, .int .u64 0, .int .u64 0, .int .u64 0, .int .u64 0, .int .u64 0, .int .u64 0, .int .u64 0]) (by kernel_rfl) rfl (hS61.memA (.tl (.tl (.tl .hd))))) (.cons (.tmp rfl) .nil)) rfl ?_
  obtain rfl := Option.some.inj h
  exact ⟨hS61.ag, fun w9 hw9 => rfl⟩
def share_Floor_p (n : Nat) (a0 : TShare) : Option ((UInt64 × UInt64 × UInt64 × UInt64 × UInt64 × UInt64 × UInt64 × UInt64) × Int) :=
  (share_valid_p n ([a0] : List TShare)).bind fun y30 => (if y30 = true then (share_Read_p n a0).bind fun y32 => (share_Ratio_Down_p n y32).bind fun y42 => (wide_Long_Told_p n y42).bind fun y50 => some (y50.1, y50.2) else some (((0 : UInt64), (0 : UInt64), (0 : UInt64), (0 : UInt64), (0 : UInt64), (0 : UInt64), (0 : UInt64), (0 : UInt64)), (20 : Int)))
set_option maxRecDepth 4000 in
set_option maxHeartbeats 4000000 in
theorem share_Floor_c (n : Nat) (L : List Nat) (w : World) (hL : ∀ b ∈ L, b < w.heap.size) (a0 : TShare)  {r : (UInt64 × UInt64 × UInt64 × UInt64 × UInt64 × UInt64 × UInt64 × UInt64) × Int} (h : share_Floor_p n a0 = some r) :
    Calls Tryz.prog 108 #[.agg ((cs_TShare a0)).toArray] w (Gives w fun _ u => u = .tuple #[.agg ((cs_A34 r.1)).toArray, .int .i64 r.2]) := by
  unfold share_Floor_p at h
  have hS0 := St.start w
  refine MX.start Tryz.func108 rfl rfl rfl (fun _ cs0 hb0 => ?_)
  refine MX.sr ?_
  refine RG.new .plain rfl (Does.box (vs := (cs_TShare a0)) hS0 rfl rfl) (fun w2 b5 hS3 hT4 => ?_)
  refine RG.new .plain rfl (Does.alloc (zs := [.int .u64 0, .int .u64 0, .int .u64 0, .int .u64 0, .int .u64 0, .int .u64 0, .int .u64 0, .int .u64 0]) hS3 (zB (by kernel_rfl))) (fun w7 b10 hS8 hT9 => ?_)
  refine RG.sg rfl rfl ?_
  refine RG.nil ?_
  refine MX.sr ?_
  refine RG.vv (FV.loadN (by kernel_rfl) rfl (hS8.memA (.tl .hd))) rfl ?_
  refine RG.enterP (fst := []) (cap := []) (vs := [.agg ((cs_TShare a0)).toArray, .func (.func 147) #[] #[]]) .plain body145 Tryz.func145 rfl rfl rfl rfl (evs_cons rfl (evs_cons rfl evs_nil)) rfl (fun cs12 hb11 hp13 => ?_)
  refine MX.sr ?_
  refine RG.new .plain rfl (Does.box (vs := (cs_TShare a0)) hS8 rfl rfl) (fun w15 b18 hS16 hT17 => ?_)
  refine RG.new .plain rfl (Does.alloc (zs := [.int .u64 0, .int .u64 0, .int .u64 0, .int .u64 0, .int .u64 0, .int .u64 0, .int .u64 0, .int .u64 0]) hS16 (zB (by kernel_rfl))) (fun w20 b23 hS21 hT22 => ?_)
  refine RG.sg rfl rfl ?_
  refine RG.nil ?_
  refine MX.seq ?_
  refine MX.sr ?_
  refine RG.vv (FV.loadN (by kernel_rfl) rfl (hS21.memA (.tl .hd))) rfl ?_
  refine RG.new .plain rfl (Does.build (α := TShare) (xs := ([a0] : List TShare)) (vs := [.agg ((cs_TShare a0)).toArray]) (ds' := (cs_TShare a0)) rfl hS21 el68 rfl (evs_cons rfl evs_nil) (by kernel_rfl) rfl) (fun w25 b28 hS26 hT27 => ?_)
  have hc29 := Cells.at_ (cs := (cs_TShare a0)) (xs := (([a0] : List TShare) : List TShare)) hS26 L (Cells.cons (cs := (cs_TShare a0)) (ds := []) (mk_TShare a0.fN a0.fD) (Cells.nil _ _))
  obtain ⟨y30, hy30, h⟩ := bind_in h
  refine RG.cq (.bool y30) body125 rfl (evs_cons rfl evs_nil) (fun w9 hw9 => share_valid_c n _ w9 (hS26.hL0 hL hw9) ([a0] : List TShare) (Rep.keep0 (St.lend (α := TShare) (L := L) hS26 .hd hc29 hL) hw9) hy30) rfl ?_
  refine RG.vv (FV.not rfl) rfl ?_
  refine RG.nil ?_
  refine MX.ifnb rfl h (fun c31 h => ?_) (fun c31 h => ?_)
  ·skip
   refine MX.skip ?_
   refine MX.sr ?_
   refine RG.mv rfl rfl ?_
   refine RG.vv (FV.loadN (by kernel_rfl) rfl (hS26.memA (.tl (.tl .hd)))) rfl ?_
   obtain ⟨y32, hy32, h⟩ := bind_in h
   refine RG.call' (fst := []) (cap := []) .plain body130 rfl (evs_cons rfl evs_nil) (fun w9 hw9 => share_Read_c n _ w9 (hS26.hL hL hw9) a0 hy32) rfl (fun w33 vu34 hag35 ⟨v38, v39, hu_, hr40, hr41⟩ => ?_)
   subst hu_
   obtain ⟨hS36, hT37⟩ := hS26.agr hag35
   obtain ⟨y42, hy42, h⟩ := bind_in h
   refine RG.call' (fst := []) (cap := []) .plain body147 rfl (evs_cons rfl evs_nil) (fun w9 hw9 => share_Ratio_Down_c n _ w9 (hS36.hL hL hw9) y32 (Rep.keep0 hr40 hw9) (Rep.keep0 hr41 hw9) hy42) rfl (fun w43 vu44 hag45 ⟨v48, hu_, hr49⟩ => ?_)
   subst hu_
   obtain ⟨hS46, hT47⟩ := hS36.agr hag45
   obtain ⟨y50, hy50, h⟩ := bind_in h
   refine RG.cq (.tuple #[.agg ((cs_A34 y50.1)).toArray, .int .i64 y50.2]) body166 rfl (evs_cons rfl evs_nil) (fun w9 hw9 => wide_Long_Told_c n _ w9 (hS46.hL0 hL hw9) y42 (Rep.keep0 (Rep.dropS hS46 hr49) hw9) hy50) rfl ?_
   refine RG.vv (FV.extract rfl rfl) rfl ?_
   refine RG.vv (FV.extract rfl rfl) rfl ?_
   refine RG.now .plain (Acts.storeAll (news := (cs_A34 y50.1)) hS46 (.tl .hd) rfl rfl rfl rfl rfl rfl (onesB rfl)) (fun w51 hS52 hT53 => ?_)
   refine RG.sg rfl rfl ?_
   refine RG.nil ?_
   refine MX.ret rfl ?_
   refine RT.leave (u := .tuple #[.agg ((cs_A34 y50.1)).toArray, .int .i64 y50.2]) hb11 Tryz.func145 rfl (.cons (.many (cs := (cs_A34 y50.1)) (by kernel_rfl) rfl (hS52.memA (.tl .hd))) (.cons (.tmp rfl) .nil)) rfl ?_
   refine RG.vv (FV.extract rfl rfl) rfl ?_
   refine RG.vv (FV.extract rfl rfl) rfl ?_
   refine RG.now .plain (Acts.storeAll (news := (cs_A34 y50.1)) hS52 (.tl (.tl (.tl .hd))) rfl rfl rfl rfl rfl rfl (onesB rfl)) (fun w54 hS55 hT56 => ?_)
   refine RG.sg rfl rfl ?_
   refine RG.nil ?_
   refine MX.ret rfl ?_
   refine RT.leave hb0 Tryz.func108 rfl (.cons (.many (cs := (cs_A34 y50.1)) (by kernel_rfl) rfl (hS55.memA (.tl (.tl (.tl .hd))))) (.cons (.tmp rfl) .nil)) rfl ?_
   obtain rfl := Option.some.inj h
   exact ⟨hS55.ag, fun w9 hw9 => rfl⟩
  refine MX.sr ?_
  refine RG.vv (FV.buildV (vs := []) (u := .agg #[.int .u64 0, .int .u64 0, .int .u64 0, .int .u64 0, .int .u64 0, .int .u64 0, .int .u64 0, .int .u64 0]) evs_nil (fun w9 => by kernel_rfl)) rfl ?_
  refine RG.now .plain (Acts.storeAll (news := [.int .u64 0, .int .u64 0, .int .u64 0, .int .u64 0, .int .u64 0, .int .u64 0, .int .u64 0, .int .u64 0]) hS26 (.tl .hd) rfl rfl rfl rfl rfl rfl (onesB rfl)) (fun w57 hS58 hT59 => ?_)
  refine RG.sg rfl rfl ?_
  refine RG.nil ?_
  refine MX.ret rfl ?_
  refine RT.leave (u := .tuple #[.agg #[.int .u64 0, .int .u64 0, .int .u64 0, .int .u64 0, .int .u64 0, .int .u64 0, .int .u64 0, .int .u64 0], .int .i64 20]) hb11 Tryz.func145 rfl (.cons (.many (cs := [.int .u64 0, .int .u64 0, .int .u64 0, .int .u64 0, .int .u64 0, .int .u64 0, .int .u64 0, .int .u64 0]) (by kernel_rfl) rfl (hS58.memA (.tl .hd))) (.cons (.tmp rfl) .nil)) rfl ?_
  refine RG.vv (FV.extract rfl rfl) rfl ?_
  refine RG.vv (FV.extract rfl rfl) rfl ?_
  refine RG.now .plain (Acts.storeAll (news := [.int .u64 0, .int .u64 0, .int .u64 0, .int .u64 0, .int .u64 0, .int .u64 0, .int .u64 0, .int .u64 0]) hS58 (.tl (.tl (.tl .hd))) rfl rfl rfl rfl rfl rfl (onesB rfl)) (fun w60 hS61 hT62 => ?_)
  refine RG.sg rfl rfl ?_
  refine RG.nil ?_
  refine MX.ret rfl ?_
  refine RT.leave hb0 Tryz.func108 rfl (.cons (.many (cs := [.int .u64 0, .int .u64 0, .int .u64 0, .int .u64 0, .int .u64 0, .int .u64 0, .int .u64 0, .int .u64 0]) (by kernel_rfl) rfl (hS61.memA (.tl (.tl (.tl .hd))))) (.cons (.tmp rfl) .nil)) rfl ?_
  obtain rfl := Option.some.inj h
  exact ⟨hS61.ag, fun w9 hw9 => rfl⟩
end Go.Proofs.YtmhgoecnjleagaaGreatDoor
