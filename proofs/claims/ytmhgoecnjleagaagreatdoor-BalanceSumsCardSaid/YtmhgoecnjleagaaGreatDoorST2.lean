/- Functions of the program, and what they give: part 2. -/
import Derived.Test.YtmhgoecnjleagaaGreatDoorST1
namespace Go.Proofs.YtmhgoecnjleagaaGreatDoor
open Go Go.RowKit
set_option maxRecDepth 4000
set_option maxHeartbeats 4000000

def tb213_4 : List (Nat × Nat × Nat) := [(0, 1024, 32), (1, 2048, 1028), (2, 4096, 2048), (0, 8192, 32), (8, 16384, 8200), (16, 32768, 16384), (36, 65536, 36864)]
def tb213_5 : List (Nat × Nat × Nat) := [(0, 131072, 32), (1, 262144, 131076), (2, 524288, 262144), (0, 1048576, 32), (8, 2097152, 1048584), (16, 4194304, 2097152), (36, 8388608, 4718592)]
def wide_Size_order_l1 (_n : Nat) (a0 : UInt64 × UInt64 × UInt64 × UInt64 × UInt64 × UInt64 × UInt64 × UInt64) (a1 : UInt64 × UInt64 × UInt64 × UInt64 × UInt64 × UInt64 × UInt64 × UInt64) (J0 : Int → Option (Int ⊕ Unit)) : Int → Option (Int ⊕ Unit)
  | z0 => (if 0 ≤ z0 then (idx ([a0.1, a0.2.1, a0.2.2.1, a0.2.2.2.1, a0.2.2.2.2.1, a0.2.2.2.2.2.1, a0.2.2.2.2.2.2.1, a0.2.2.2.2.2.2.2] : List UInt64) z0).bind fun z1 => (idx ([a1.1, a1.2.1, a1.2.2.1, a1.2.2.2.1, a1.2.2.2.2.1, a1.2.2.2.2.2.1, a1.2.2.2.2.2.2.1, a1.2.2.2.2.2.2.2] : List UInt64) z0).bind fun z2 => (if z1 = z2 then (chk (z0 - 1)).bind fun s0 => J0 s0 else (if z1 < z2 then some (.inl (-1 : Int)) else some (.inl (1 : Int)))) else some (.inr ()))
def wide_Size_order_p (n : Nat) (a0 : UInt64 × UInt64 × UInt64 × UInt64 × UInt64 × UInt64 × UInt64 × UInt64) (a1 : UInt64 × UInt64 × UInt64 × UInt64 × UInt64 × UInt64 × UInt64 × UInt64) : Option Int :=
  thn (loopF (wide_Size_order_l1 n a0 a1) n 7) (fun _ => some (0 : Int))
theorem wide_Size_order_c (n : Nat) (L : List Nat) (w : World) (_hL : ∀ b ∈ L, b < w.heap.size) (a0 : UInt64 × UInt64 × UInt64 × UInt64 × UInt64 × UInt64 × UInt64 × UInt64) (a1 : UInt64 × UInt64 × UInt64 × UInt64 × UInt64 × UInt64 × UInt64 × UInt64)  {r : Int} (h : wide_Size_order_p n a0 a1 = some r) :
    Calls Tryz.prog 213 #[.agg ((cs_A34 a0)).toArray, .agg ((cs_A34 a1)).toArray] w (Gives w fun _ u => u = .int .i64 r) := by
  unfold wide_Size_order_p at h
  have hS0 := St.start w
  refine MX.start Tryz.func213 rfl rfl rfl (fun _ cs0 hb0 => ?_)
  refine MX.sr <| RG.new .plain rfl (Does.box (vs := (cs_A34 a0)) hS0 rfl rfl) (fun w2 b5 hS3 hT4 => ?_)
  refine RG.new .plain rfl (Does.box (vs := (cs_A34 a1)) hS3 rfl rfl) (fun w7 b0 hS8 hT9 => ?_)
  refine RG.sg rfl rfl <| RG.nil <| MX.seq <| MX.sr <| RG.sg rfl rfl <| RG.nil ?_
  refine MX.block ?_
  obtain ⟨o0, ho56, hh58⟩ := thn_in h
  refine MX.loop (α := Int) (fun z0 => [(2, .pointer (some ⟨b5, 0, none⟩)), (3, .pointer (some ⟨b0, 0, none⟩)), (5, .int .i64 z0)]) (fun z0 wx0 => St w wx0 [.cells b0 (cs_A34 a1) 215, .cells b5 (cs_A34 a0) 215] ∧ Tr w7 [.cells b0 (cs_A34 a1) 215, .cells b5 (cs_A34 a0) 215] wx0 [.cells b0 (cs_A34 a1) 215, .cells b5 (cs_A34 a0) 215]) (fun z0 => z0) 7 ho56 ⟨rfl, rfl, rfl, trivial⟩ ⟨hS8, Tr.refl _ _⟩ ?_
  rintro J0 z0 wx0 hJ60 ⟨hS1, hT0⟩ h
  unfold wide_Size_order_l1 at h
  try dsimp only at h
  refine MX.seq <| MX.sr <| RG.mv rfl rfl <| RG.vv (FV.geq (i := z0) (j := 0) rfl rfl) rfl <| RG.nil <| MX.ifd rfl h (fun c0 h => ?_) (fun c0 h => ?_)
  ·skip
   refine MX.skip <| MX.seq <| MX.block <| MX.seq <| MX.drawT 7 tb213_4 (by kernel_rfl) (by kernel_rfl) (by kernel_rfl) (fun kt0 kp0 => ?_)
   refine RD.vw 0 1 kt0 rfl kp0 (fun _ => FV.move rfl) rfl ?_
   obtain ⟨z1, hz64, h⟩ := bind_in h
   obtain ⟨hi0, hx0⟩ := idx_in hz64
   have hm0 := mem_elem1 (p := ⟨b5, 0, none⟩) (cs := ([a0.1, a0.2.1, a0.2.2.1, a0.2.2.2.1, a0.2.2.2.2.1, a0.2.2.2.2.2.1, a0.2.2.2.2.2.2.1, a0.2.2.2.2.2.2.2] : List UInt64).map (fun z9 : UInt64 => (.int .u64 (z9.toNat : Int) : Value)) ++ []) (i := z0.toNat) (hS1.memA (.tl .hd)) (arr_get (fun z9 : UInt64 => (.int .u64 (z9.toNat : Int) : Value)) hx0)
   refine RD.vw 1 3 kt0 rfl kp0 (fun _ => FV.indexArr (m := 1) (k := z0.toNat) (len := 8) (by kernel_rfl) rfl rfl hi0 (arr_lt hx0 rfl)) rfl <| RD.vx 2 7 64 kt0 rfl kp0 (FV.load1 (by kernel_rfl) rfl (hm0 0 _ rfl)) rfl <| RD.vw 3 15 kt0 rfl kp0 (fun _ => FV.move rfl) rfl ?_
   obtain ⟨z2, hz68, h⟩ := bind_in h
   obtain ⟨hi1, hx1⟩ := idx_in hz68
   have hm1 := mem_elem1 (p := ⟨b0, 0, none⟩) (cs := ([a1.1, a1.2.1, a1.2.2.1, a1.2.2.2.1, a1.2.2.2.2.1, a1.2.2.2.2.2.1, a1.2.2.2.2.2.2.1, a1.2.2.2.2.2.2.2] : List UInt64).map (fun z9 : UInt64 => (.int .u64 (z9.toNat : Int) : Value)) ++ []) (i := z0.toNat) (hS1.memA .hd) (arr_get (fun z9 : UInt64 => (.int .u64 (z9.toNat : Int) : Value)) hx1)
   refine RD.vw 4 31 kt0 rfl kp0 (fun _ => FV.indexArr (m := 1) (k := z0.toNat) (len := 8) (by kernel_rfl) rfl rfl hi1 (arr_lt hx1 rfl)) rfl <| RD.vx 5 63 64 kt0 rfl kp0 (FV.load1 (by kernel_rfl) rfl (hm1 0 _ rfl)) rfl <| RD.vw 6 127 kt0 rfl kp0 (fun _ => FV.neqU (a := z1) (b := z2) rfl rfl) rfl <| RD.done (doneD_ok kt0 (by kernel_rfl)) <| MX.ifn rfl h (fun c1 h => ?_) (fun c1 h => ?_)
   ·skip
    refine MX.skip <| MX.inBlock <| MX.region <| RG.mv rfl rfl ?_
    obtain ⟨s0, hs0, h⟩ := bind_in h
    refine RG.vv (FV.subc (i := z0) (j := 1) rfl rfl hs0) rfl <| RG.sg rfl rfl <| RG.nil ?_
    exact hJ60 s0 _ _ ⟨rfl, rfl, rfl, trivial⟩ ⟨hS1, hT0⟩ h
   refine MX.seq <| MX.seq <| MX.drawT 7 tb213_5 (by kernel_rfl) (by kernel_rfl) (by kernel_rfl) (fun kt1 kp1 => ?_)
   refine RD.vw 0 1 kt1 rfl kp1 (fun _ => FV.move rfl) rfl ?_
   have hm2 := mem_elem1 (p := ⟨b5, 0, none⟩) (cs := ([a0.1, a0.2.1, a0.2.2.1, a0.2.2.2.1, a0.2.2.2.2.1, a0.2.2.2.2.2.1, a0.2.2.2.2.2.2.1, a0.2.2.2.2.2.2.2] : List UInt64).map (fun z9 : UInt64 => (.int .u64 (z9.toNat : Int) : Value)) ++ []) (i := z0.toNat) (hS1.memA (.tl .hd)) (arr_get (fun z9 : UInt64 => (.int .u64 (z9.toNat : Int) : Value)) hx0)
   refine RD.vw 1 3 kt1 rfl kp1 (fun _ => FV.indexArr (m := 1) (k := z0.toNat) (len := 8) (by kernel_rfl) rfl rfl hi0 (arr_lt hx0 rfl)) rfl <| RD.vx 2 7 64 kt1 rfl kp1 (FV.load1 (by kernel_rfl) rfl (hm2 0 _ rfl)) rfl <| RD.vw 3 15 kt1 rfl kp1 (fun _ => FV.move rfl) rfl ?_
   have hm3 := mem_elem1 (p := ⟨b0, 0, none⟩) (cs := ([a1.1, a1.2.1, a1.2.2.1, a1.2.2.2.1, a1.2.2.2.2.1, a1.2.2.2.2.2.1, a1.2.2.2.2.2.2.1, a1.2.2.2.2.2.2.2] : List UInt64).map (fun z9 : UInt64 => (.int .u64 (z9.toNat : Int) : Value)) ++ []) (i := z0.toNat) (hS1.memA .hd) (arr_get (fun z9 : UInt64 => (.int .u64 (z9.toNat : Int) : Value)) hx1)
   refine RD.vw 4 31 kt1 rfl kp1 (fun _ => FV.indexArr (m := 1) (k := z0.toNat) (len := 8) (by kernel_rfl) rfl rfl hi1 (arr_lt hx1 rfl)) rfl <| RD.vx 5 63 64 kt1 rfl kp1 (FV.load1 (by kernel_rfl) rfl (hm3 0 _ rfl)) rfl <| RD.vw 6 127 kt1 rfl kp1 (fun _ => FV.lssU (a := z1) (b := z2) rfl rfl) rfl <| RD.done (doneD_ok kt1 (by kernel_rfl)) <| MX.ifd rfl h (fun c2 h => ?_) (fun c2 h => ?_)
   ·skip
    refine MX.sr <| RG.sg rfl rfl <| RG.nil ?_
    have h := thn_inl h hh58
    refine MX.ret rfl <| RT.leave hb0 Tryz.func213 rfl (.cons (.tmp rfl) .nil) rfl ?_
    obtain rfl := Option.some.inj h
    exact ⟨hS1.ag, fun w9 hw9 => rfl⟩
   refine MX.skip <| MX.sr <| RG.sg rfl rfl <| RG.nil ?_
   have h := thn_inl h hh58
   refine MX.ret rfl <| RT.leave hb0 Tryz.func213 rfl (.cons (.tmp rfl) .nil) rfl ?_
   obtain rfl := Option.some.inj h
   exact ⟨hS1.ag, fun w9 hw9 => rfl⟩
  refine MX.exit rfl ?_
  have h := thn_inr h hh58
  try dsimp only at h
  refine MX.sr <| RG.sg rfl rfl <| RG.nil <| MX.ret rfl <| RT.leave hb0 Tryz.func213 rfl (.cons (.tmp rfl) .nil) rfl ?_
  obtain rfl := Option.some.inj h
  exact ⟨hS1.ag, fun w9 hw9 => rfl⟩
structure TNumber where
  fBelow : Bool
  fSize : UInt64 × UInt64 × UInt64 × UInt64 × UInt64 × UInt64 × UInt64 × UInt64
  deriving DecidableEq
instance : Rep TNumber := Rep.via (β := Bool × (UInt64 × UInt64 × UInt64 × UInt64 × UInt64 × UInt64 × UInt64 × UInt64)) fun x => (x.fBelow, x.fSize)
def cs_TNumber (x : TNumber) : List Value := [.bool x.fBelow, .int .u64 (x.fSize.1.toNat : Int), .int .u64 (x.fSize.2.1.toNat : Int), .int .u64 (x.fSize.2.2.1.toNat : Int), .int .u64 (x.fSize.2.2.2.1.toNat : Int), .int .u64 (x.fSize.2.2.2.2.1.toNat : Int), .int .u64 (x.fSize.2.2.2.2.2.1.toNat : Int), .int .u64 (x.fSize.2.2.2.2.2.2.1.toNat : Int), .int .u64 (x.fSize.2.2.2.2.2.2.2.toNat : Int)]
theorem body212 : bodyB Tryz.prog 212 = true := by kernel_rfl
theorem body213 : bodyB Tryz.prog 213 = true := by kernel_rfl
def wide_Number_Told_p (n : Nat) (a0 : TNumber) : Option ((UInt64 × UInt64 × UInt64 × UInt64 × UInt64 × UInt64 × UInt64 × UInt64) × Int) :=
  (wide_Size_order_p n a0.fSize ((0 : UInt64), (0 : UInt64), (0 : UInt64), (0 : UInt64), (0 : UInt64), (0 : UInt64), (0 : UInt64), (9223372036854775808 : UInt64))).bind fun y0 => (if 0 < y0 then some (((0 : UInt64), (0 : UInt64), (0 : UInt64), (0 : UInt64), (0 : UInt64), (0 : UInt64), (0 : UInt64), (0 : UInt64)), (6 : Int)) else (if y0 = 0 then (if a0.fBelow = true then (wide_Size_minus_p n ((0 : UInt64), (0 : UInt64), (0 : UInt64), (0 : UInt64), (0 : UInt64), (0 : UInt64), (0 : UInt64), (0 : UInt64)) a0.fSize).bind fun y1 => some (y1.1, (0 : Int)) else some (((0 : UInt64), (0 : UInt64), (0 : UInt64), (0 : UInt64), (0 : UInt64), (0 : UInt64), (0 : UInt64), (0 : UInt64)), (6 : Int))) else (if a0.fBelow = true then (wide_Size_minus_p n ((0 : UInt64), (0 : UInt64), (0 : UInt64), (0 : UInt64), (0 : UInt64), (0 : UInt64), (0 : UInt64), (0 : UInt64)) a0.fSize).bind fun y2 => some (y2.1, (0 : Int)) else some (a0.fSize, (0 : Int)))))
theorem wide_Number_Told_c (n : Nat) (L : List Nat) (w : World) (hL : ∀ b ∈ L, b < w.heap.size) (a0 : TNumber)  {r : (UInt64 × UInt64 × UInt64 × UInt64 × UInt64 × UInt64 × UInt64 × UInt64) × Int} (h : wide_Number_Told_p n a0 = some r) :
    Calls Tryz.prog 193 #[.agg ((cs_TNumber a0)).toArray] w (Gives w fun _ u => u = .tuple #[.agg ((cs_A34 r.1)).toArray, .int .i64 r.2]) := by
  unfold wide_Number_Told_p at h
  have hS0 := St.start w
  refine MX.start Tryz.func193 rfl rfl rfl (fun _ cs0 hb0 => ?_)
  refine MX.sr <| RG.new .plain rfl (Does.box (vs := (cs_TNumber a0)) hS0 rfl rfl) (fun w2 b5 hS3 hT4 => ?_)
  refine RG.new .plain rfl (Does.alloc (zs := [.int .u64 0, .int .u64 0, .int .u64 0, .int .u64 0, .int .u64 0, .int .u64 0, .int .u64 0, .int .u64 0]) hS3 (zB (by kernel_rfl))) (fun w7 b0 hS8 hT9 => ?_)
  refine RG.sg rfl rfl <| RG.nil <| MX.sr <| RG.vv (FV.buildV (vs := [.int .u64 9223372036854775808]) (u := .agg #[.int .u64 0, .int .u64 0, .int .u64 0, .int .u64 0, .int .u64 0, .int .u64 0, .int .u64 0, .int .u64 9223372036854775808]) (evs_cons rfl evs_nil) (fun w9 => by kernel_rfl)) rfl <| RG.new .plain rfl (Does.alloc (zs := [.int .u64 0, .int .u64 0, .int .u64 0, .int .u64 0, .int .u64 0, .int .u64 0, .int .u64 0, .int .u64 0]) hS8 (zB (by kernel_rfl))) (fun w0 b1 hS1 hT0 => ?_)
  refine RG.now .plain (Acts.storeAll (news := [.int .u64 0, .int .u64 0, .int .u64 0, .int .u64 0, .int .u64 0, .int .u64 0, .int .u64 0, .int .u64 9223372036854775808]) hS1 .hd rfl rfl rfl rfl rfl rfl (onesB rfl)) (fun w1 hS2 hT1 => ?_)
  refine RG.nil <| MX.seq <| MX.sr <| RG.vv (FV.fieldAddr (off := 1) (by kernel_rfl) rfl) rfl <| RG.vv (FV.loadN (cs := (cs_A34 a0.fSize)) (by kernel_rfl) rfl (mem_part (hS2.memA (.tl (.tl .hd))) 1 8)) rfl <| RG.vv (FV.loadN (by kernel_rfl) rfl (hS2.memA .hd)) rfl ?_
  obtain ⟨y0, hy0, h⟩ := bind_in h
  refine RG.cq (.int .i64 y0) body213 rfl (evs_cons rfl (evs_cons rfl evs_nil)) (fun w9 hw9 => wide_Size_order_c n _ w9 (hS2.hL0 hL hw9) a0.fSize ((0 : UInt64), (0 : UInt64), (0 : UInt64), (0 : UInt64), (0 : UInt64), (0 : UInt64), (0 : UInt64), (9223372036854775808 : UInt64)) hy0) rfl <| RG.sg rfl rfl <| RG.nil <| MX.sr <| RG.mv rfl rfl <| RG.vv (FV.gtr (i := y0) (j := 0) rfl rfl) rfl ?_
  refine RG.mv rfl rfl <| RG.ifd (s := 13) rfl h (fun c0 h => ?_) (fun c0 h => ?_)
  ·skip
   refine RG.off (.no rfl rfl) rfl <| RG.off (.no rfl rfl) rfl <| RG.off (.no rfl rfl) rfl <| RG.off (.undef rfl rfl) rfl <| RG.off (.undef rfl rfl) rfl <| RG.off (.undef rfl rfl) rfl ?_
   refine RG.off (.no rfl rfl) rfl <| RG.vv (FV.pick_t rfl rfl) rfl <| RG.nil <| MX.cond_t rfl <| MX.sr <| RG.vv (FV.buildV (vs := []) (u := .agg #[.int .u64 0, .int .u64 0, .int .u64 0, .int .u64 0, .int .u64 0, .int .u64 0, .int .u64 0, .int .u64 0]) evs_nil (fun w9 => by kernel_rfl)) rfl ?_
   refine RG.now .plain (Acts.storeAll (news := [.int .u64 0, .int .u64 0, .int .u64 0, .int .u64 0, .int .u64 0, .int .u64 0, .int .u64 0, .int .u64 0]) hS2 (.tl .hd) rfl rfl rfl rfl rfl rfl (onesB rfl)) (fun w3 hS4 hT2 => ?_)
   refine RG.sg rfl rfl <| RG.nil <| MX.ret rfl <| RT.leave hb0 Tryz.func193 rfl (.cons (.many (cs := [.int .u64 0, .int .u64 0, .int .u64 0, .int .u64 0, .int .u64 0, .int .u64 0, .int .u64 0, .int .u64 0]) (by kernel_rfl) rfl (hS4.memA (.tl .hd))) (.cons (.tmp rfl) .nil)) rfl ?_
   obtain rfl := Option.some.inj h
   exact ⟨hS4.ag, fun w9 hw9 => rfl⟩
  refine RG.val' (.yes rfl rfl) (FV.move rfl) rfl <| RG.val' (.yes rfl rfl) (FV.eql (i := y0) (j := 0) rfl rfl) rfl <| RG.val' (.yes rfl rfl) (FV.move rfl) rfl <| RG.ifd (s := 16) rfl h (fun c1 h => ?_) (fun c1 h => ?_)
  ·skip
   refine RG.val' (.yes rfl rfl) (FV.fieldAddr (off := 0) (by kernel_rfl) rfl) rfl <| RG.val' (.yes rfl rfl) (FV.load1 (by kernel_rfl) rfl ((hS2.memA (.tl (.tl .hd))) 0 _ rfl)) rfl <| RG.val' (.yes rfl rfl) (FV.not rfl) rfl <| RG.val' (.yes rfl rfl) (FV.pick_t rfl rfl) rfl <| RG.vv (FV.pick_f rfl rfl) rfl <| RG.nil ?_
   refine MX.ifnb rfl h (fun c2 h => ?_) (fun c2 h => ?_)
   ·skip
    refine MX.skip <| MX.seq <| MX.sr <| RG.vv (FV.fieldAddr (off := 0) (by kernel_rfl) rfl) rfl <| RG.vv (FV.load1 (by kernel_rfl) rfl ((hS2.memA (.tl (.tl .hd))) 0 _ rfl)) rfl <| RG.nil ?_
    refine MX.cond_kt rfl c2 <| MX.region <| RG.vv (FV.buildV (vs := []) (u := .agg #[.int .u64 0, .int .u64 0, .int .u64 0, .int .u64 0, .int .u64 0, .int .u64 0, .int .u64 0, .int .u64 0]) evs_nil (fun w9 => by kernel_rfl)) rfl <| RG.vv (FV.fieldAddr (off := 1) (by kernel_rfl) rfl) rfl <| RG.vv (FV.loadN (cs := (cs_A34 a0.fSize)) (by kernel_rfl) rfl (mem_part (hS2.memA (.tl (.tl .hd))) 1 8)) rfl ?_
    obtain ⟨y1, hy1, h⟩ := bind_in h
    refine RG.cq (.tuple #[.agg ((cs_A34 y1.1)).toArray, .int .u64 (y1.2.toNat : Int)]) body212 rfl (evs_cons rfl (evs_cons rfl evs_nil)) (fun w9 hw9 => wide_Size_minus_c n _ w9 (hS2.hL0 hL hw9) ((0 : UInt64), (0 : UInt64), (0 : UInt64), (0 : UInt64), (0 : UInt64), (0 : UInt64), (0 : UInt64), (0 : UInt64)) a0.fSize hy1) rfl <| RG.mv rfl rfl <| RG.vv (FV.extract rfl rfl) rfl <| RG.vv (FV.extract rfl rfl) rfl <| RG.vv (FV.fieldAddr (off := 1) (by kernel_rfl) rfl) rfl <| RG.now .plain (Acts.store (j := 1) (old := (cs_TNumber a0)) (news := (cs_A34 y1.1)) (new' := (([.bool a0.fBelow] : List Value) ++ cs_A34 y1.1)) hS2 (.tl (.tl .hd)) rfl rfl rfl rfl rfl rfl (onesB rfl) rfl) (fun w4 hS5 hT3 => ?_)
    refine RG.nil <| MX.sr <| RG.vv (FV.fieldAddr (off := 1) (by kernel_rfl) rfl) rfl <| RG.vv (FV.loadN (cs := (cs_A34 y1.1)) (by kernel_rfl) rfl (mem_part (hS5.memA (.tl (.tl .hd))) 1 8)) rfl <| RG.now .plain (Acts.storeAll (news := (cs_A34 y1.1)) hS5 (.tl .hd) rfl rfl rfl rfl rfl rfl (onesB rfl)) (fun w5 hS6 hT5 => ?_)
    refine RG.sg rfl rfl <| RG.nil <| MX.ret rfl <| RT.leave hb0 Tryz.func193 rfl (.cons (.many (cs := (cs_A34 y1.1)) (by kernel_rfl) rfl (hS6.memA (.tl .hd))) (.cons (.tmp rfl) .nil)) rfl ?_
    obtain rfl := Option.some.inj h
    exact ⟨hS6.ag, fun w9 hw9 => rfl⟩
   refine MX.sr <| RG.vv (FV.buildV (vs := []) (u := .agg #[.int .u64 0, .int .u64 0, .int .u64 0, .int .u64 0, .int .u64 0, .int .u64 0, .int .u64 0, .int .u64 0]) evs_nil (fun w9 => by kernel_rfl)) rfl <| RG.now .plain (Acts.storeAll (news := [.int .u64 0, .int .u64 0, .int .u64 0, .int .u64 0, .int .u64 0, .int .u64 0, .int .u64 0, .int .u64 0]) hS2 (.tl .hd) rfl rfl rfl rfl rfl rfl (onesB rfl)) (fun w6 hS7 hT6 => ?_)
   refine RG.sg rfl rfl <| RG.nil <| MX.ret rfl <| RT.leave hb0 Tryz.func193 rfl (.cons (.many (cs := [.int .u64 0, .int .u64 0, .int .u64 0, .int .u64 0, .int .u64 0, .int .u64 0, .int .u64 0, .int .u64 0]) (by kernel_rfl) rfl (hS7.memA (.tl .hd))) (.cons (.tmp rfl) .nil)) rfl ?_
   obtain rfl := Option.some.inj h
   exact ⟨hS7.ag, fun w9 hw9 => rfl⟩
  refine RG.off (.no rfl rfl) rfl <| RG.off (.no rfl rfl) rfl <| RG.off (.no rfl rfl) rfl <| RG.val' (.yes rfl rfl) (FV.pick_f rfl rfl) rfl <| RG.vv (FV.pick_f rfl rfl) rfl <| RG.nil ?_
  refine MX.cond_f rfl <| MX.skip <| MX.seq <| MX.sr <| RG.vv (FV.fieldAddr (off := 0) (by kernel_rfl) rfl) rfl <| RG.vv (FV.load1 (by kernel_rfl) rfl ((hS2.memA (.tl (.tl .hd))) 0 _ rfl)) rfl ?_
  refine RG.nil <| MX.ifb rfl h (fun c3 h => ?_) (fun c3 h => ?_)
  ·skip
   refine MX.region <| RG.vv (FV.buildV (vs := []) (u := .agg #[.int .u64 0, .int .u64 0, .int .u64 0, .int .u64 0, .int .u64 0, .int .u64 0, .int .u64 0, .int .u64 0]) evs_nil (fun w9 => by kernel_rfl)) rfl <| RG.vv (FV.fieldAddr (off := 1) (by kernel_rfl) rfl) rfl <| RG.vv (FV.loadN (cs := (cs_A34 a0.fSize)) (by kernel_rfl) rfl (mem_part (hS2.memA (.tl (.tl .hd))) 1 8)) rfl ?_
   obtain ⟨y2, hy2, h⟩ := bind_in h
   refine RG.cq (.tuple #[.agg ((cs_A34 y2.1)).toArray, .int .u64 (y2.2.toNat : Int)]) body212 rfl (evs_cons rfl (evs_cons rfl evs_nil)) (fun w9 hw9 => wide_Size_minus_c n _ w9 (hS2.hL0 hL hw9) ((0 : UInt64), (0 : UInt64), (0 : UInt64), (0 : UInt64), (0 : UInt64), (0 : UInt64), (0 : UInt64), (0 : UInt64)) a0.fSize hy2) rfl <| RG.mv rfl rfl <| RG.vv (FV.extract rfl rfl) rfl <| RG.vv (FV.extract rfl rfl) rfl <| RG.vv (FV.fieldAddr (off := 1) (by kernel_rfl) rfl) rfl <| RG.now .plain (Acts.store (j := 1) (old := (cs_TNumber a0)) (news := (cs_A34 y2.1)) (new' := (([.bool a0.fBelow] : List Value) ++ cs_A34 y2.1)) hS2 (.tl (.tl .hd)) rfl rfl rfl rfl rfl rfl (onesB rfl) rfl) (fun w8 hS9 hT7 => ?_)
   refine RG.nil <| MX.sr <| RG.vv (FV.fieldAddr (off := 1) (by kernel_rfl) rfl) rfl <| RG.vv (FV.loadN (cs := (cs_A34 y2.1)) (by kernel_rfl) rfl (mem_part (hS9.memA (.tl (.tl .hd))) 1 8)) rfl <| RG.now .plain (Acts.storeAll (news := (cs_A34 y2.1)) hS9 (.tl .hd) rfl rfl rfl rfl rfl rfl (onesB rfl)) (fun w41 hS42 hT8 => ?_)
   refine RG.sg rfl rfl <| RG.nil <| MX.ret rfl <| RT.leave hb0 Tryz.func193 rfl (.cons (.many (cs := (cs_A34 y2.1)) (by kernel_rfl) rfl (hS42.memA (.tl .hd))) (.cons (.tmp rfl) .nil)) rfl ?_
   obtain rfl := Option.some.inj h
   exact ⟨hS42.ag, fun w9 hw9 => rfl⟩
  refine MX.skip <| MX.sr <| RG.vv (FV.fieldAddr (off := 1) (by kernel_rfl) rfl) rfl <| RG.vv (FV.loadN (cs := (cs_A34 a0.fSize)) (by kernel_rfl) rfl (mem_part (hS2.memA (.tl (.tl .hd))) 1 8)) rfl <| RG.now .plain (Acts.storeAll (news := (cs_A34 a0.fSize)) hS2 (.tl .hd) rfl rfl rfl rfl rfl rfl (onesB rfl)) (fun w44 hS45 hT46 => ?_)
  refine RG.sg rfl rfl <| RG.nil <| MX.ret rfl <| RT.leave hb0 Tryz.func193 rfl (.cons (.many (cs := (cs_A34 a0.fSize)) (by kernel_rfl) rfl (hS45.memA (.tl .hd))) (.cons (.tmp rfl) .nil)) rfl ?_
  obtain rfl := Option.some.inj h
  exact ⟨hS45.ag, fun w9 hw9 => rfl⟩
structure TLong where
  fBelow : Bool
  fWords : List UInt64
  deriving DecidableEq
instance : Rep TLong := Rep.via (β := Bool × (List UInt64)) fun x => (x.fBelow, x.fWords)
def tb166_4 : List (Nat × Nat × Nat) := [(0, 8192, 16), (1, 16384, 8192), (0, 32768, 2), (4, 65536, 32768), (10, 131072, 81920)]
theorem body193 : bodyB Tryz.prog 193 = true := by kernel_rfl
def wide_Long_Told_p (n : Nat) (a0 : TLong) : Option ((UInt64 × UInt64 × UInt64 × UInt64 × UInt64 × UInt64 × UInt64 × UInt64) × Int) :=
  (if 8 < a0.fWords.length then some (((0 : UInt64), (0 : UInt64), (0 : UInt64), (0 : UInt64), (0 : UInt64), (0 : UInt64), (0 : UInt64), (0 : UInt64)), (6 : Int)) else (wide_Number_Told_p n (⟨a0.fBelow, (getA a0.fWords 0 (0 : UInt64), getA a0.fWords 1 (0 : UInt64), getA a0.fWords 2 (0 : UInt64), getA a0.fWords 3 (0 : UInt64), getA a0.fWords 4 (0 : UInt64), getA a0.fWords 5 (0 : UInt64), getA a0.fWords 6 (0 : UInt64), getA a0.fWords 7 (0 : UInt64))⟩ : TNumber)).bind fun y0 => some (y0.1, y0.2))
theorem wide_Long_Told_c (n : Nat) (L : List Nat) (w : World) (hL : ∀ b ∈ L, b < w.heap.size) (a0 : TLong) {v0_1 : Value} (h0_1 : Rep.R w L [v0_1] a0.fWords)  {r : (UInt64 × UInt64 × UInt64 × UInt64 × UInt64 × UInt64 × UInt64 × UInt64) × Int} (h : wide_Long_Told_p n a0 = some r) :
    Calls Tryz.prog 166 #[.agg #[.bool a0.fBelow, v0_1]] w (Gives w fun _ u => u = .tuple #[.agg ((cs_A34 r.1)).toArray, .int .i64 r.2]) := by
  unfold wide_Long_Told_p at h
  have hS0 := St.start w
  refine MX.start Tryz.func166 rfl rfl rfl (fun _ cs0 hb0 => ?_)
  refine MX.sr <| RG.new .plain rfl (Does.box (vs := [.bool a0.fBelow, v0_1]) hS0 rfl rfl) (fun w2 b5 hS3 hT4 => ?_)
  refine RG.new .plain rfl (Does.alloc (zs := [.int .u64 0, .int .u64 0, .int .u64 0, .int .u64 0, .int .u64 0, .int .u64 0, .int .u64 0, .int .u64 0]) hS3 (zB (by kernel_rfl))) (fun w7 b0 hS8 hT9 => ?_)
  refine RG.sg rfl rfl <| RG.nil <| MX.seq <| MX.sr <| RG.vv (FV.fieldAddr (off := 1) (by kernel_rfl) rfl) rfl <| RG.vv (FV.load1 (by kernel_rfl) rfl ((hS8.memA (.tl .hd)) 1 _ rfl)) rfl ?_
  have hm0 := Rep.mv h0_1 (Tr.trans hT4 hT9)
  have hl11 : a0.fWords.length ≤ 281474976710656 := Rep.lenle hm0
  refine RG.vv (FV.len (xs := a0.fWords) Tryz.underlying121 rfl hm0) rfl <| RG.vv (FV.gtrN (i := a0.fWords.length) (j := 8) rfl rfl) rfl <| RG.nil <| MX.ifd rfl h (fun c0 h => ?_) (fun c0 h => ?_)
  ·skip
   refine MX.sr <| RG.vv (FV.buildV (vs := []) (u := .agg #[.int .u64 0, .int .u64 0, .int .u64 0, .int .u64 0, .int .u64 0, .int .u64 0, .int .u64 0, .int .u64 0]) evs_nil (fun w9 => by kernel_rfl)) rfl <| RG.now .plain (Acts.storeAll (news := [.int .u64 0, .int .u64 0, .int .u64 0, .int .u64 0, .int .u64 0, .int .u64 0, .int .u64 0, .int .u64 0]) hS8 .hd rfl rfl rfl rfl rfl rfl (onesB rfl)) (fun w0 hS1 hT0 => ?_)
   refine RG.sg rfl rfl <| RG.nil <| MX.ret rfl <| RT.leave hb0 Tryz.func166 rfl (.cons (.many (cs := [.int .u64 0, .int .u64 0, .int .u64 0, .int .u64 0, .int .u64 0, .int .u64 0, .int .u64 0, .int .u64 0]) (by kernel_rfl) rfl (hS1.memA .hd)) (.cons (.tmp rfl) .nil)) rfl ?_
   obtain rfl := Option.some.inj h
   exact ⟨hS1.ag, fun w9 hw9 => rfl⟩
  refine MX.skip <| MX.sr <| RG.vv (FV.fieldAddr (off := 0) (by kernel_rfl) rfl) rfl <| RG.vv (FV.load1 (by kernel_rfl) rfl ((hS8.memA (.tl .hd)) 0 _ rfl)) rfl <| RG.vv (FV.buildV (vs := [.bool a0.fBelow]) (u := .agg #[.bool a0.fBelow, .int .u64 0, .int .u64 0, .int .u64 0, .int .u64 0, .int .u64 0, .int .u64 0, .int .u64 0, .int .u64 0]) (evs_cons rfl evs_nil) (fun w9 => by kernel_rfl)) rfl <| RG.new .plain rfl (Does.alloc (zs := [.bool false, .int .u64 0, .int .u64 0, .int .u64 0, .int .u64 0, .int .u64 0, .int .u64 0, .int .u64 0, .int .u64 0]) hS8 (zB (by kernel_rfl))) (fun w1 b1 hS2 hT1 => ?_)
  refine RG.now .plain (Acts.storeAll (news := [.bool a0.fBelow, .int .u64 0, .int .u64 0, .int .u64 0, .int .u64 0, .int .u64 0, .int .u64 0, .int .u64 0, .int .u64 0]) hS2 .hd rfl rfl rfl rfl rfl rfl (onesB rfl)) (fun w3 hS4 hT2 => ?_)
  refine RG.nil <| MX.seq <| MX.drawT 4 tb166_4 (by kernel_rfl) (by kernel_rfl) (by kernel_rfl) (fun kt0 kp0 => ?_)
  refine RD.vw 0 1 kt0 rfl kp0 (fun _ => FV.fieldAddr (off := 1) (by kernel_rfl) rfl) rfl <| RD.vx 1 3 16 kt0 rfl kp0 (FV.sliceA (len := 8) (m := 1) (p := Addr.add ⟨b1, 0, none⟩ 1) (by kernel_rfl) rfl) rfl <| RD.vw 2 7 kt0 rfl kp0 (fun _ => FV.fieldAddr (off := 1) (by kernel_rfl) rfl) rfl <| RD.vx 3 15 16 kt0 rfl kp0 (FV.load1 (by kernel_rfl) rfl ((hS4.memA (.tl (.tl .hd))) 1 _ rfl)) rfl ?_
  have hm1 := Rep.mv h0_1 (Tr.trans hT4 (Tr.trans hT9 (Tr.trans hT1 hT2)))
  refine RD.one (i := 4) (readyD_ok kt0 (by kernel_rfl)) (RO.doesL (m' := 31) (stepC_ok kt0 (by kernel_rfl)) rfl rfl .plain rfl (DoesL.copyArr (fun z9 : UInt64 => (.int .u64 (z9.toNat : Int) : Value)) (olds := ([(0 : UInt64), (0 : UInt64), (0 : UInt64), (0 : UInt64), (0 : UInt64), (0 : UInt64), (0 : UInt64), (0 : UInt64)] : List UInt64)) (ys := a0.fWords) (pre := [.bool a0.fBelow]) (post := []) (old := [.bool a0.fBelow, .int .u64 0, .int .u64 0, .int .u64 0, .int .u64 0, .int .u64 0, .int .u64 0, .int .u64 0, .int .u64 0]) (new' := [.bool a0.fBelow, .int .u64 ((getA a0.fWords 0 (0 : UInt64)).toNat : Int), .int .u64 ((getA a0.fWords 1 (0 : UInt64)).toNat : Int), .int .u64 ((getA a0.fWords 2 (0 : UInt64)).toNat : Int), .int .u64 ((getA a0.fWords 3 (0 : UInt64)).toNat : Int), .int .u64 ((getA a0.fWords 4 (0 : UInt64)).toNat : Int), .int .u64 ((getA a0.fWords 5 (0 : UInt64)).toNat : Int), .int .u64 ((getA a0.fWords 6 (0 : UInt64)).toNat : Int), .int .u64 ((getA a0.fWords 7 (0 : UInt64)).toNat : Int)]) rfl (fun _ _ _ _ h9 => h9) hS4 .hd (by kernel_rfl) rfl rfl rfl rfl rfl rfl rfl (Src.rep hm1)) (fun u0 w4 ⟨hu0, hS5, hT3⟩ => ?_))
  subst hu0
  refine RD.done (doneD_ok kt0 (by kernel_rfl)) <| MX.sr <| RG.vv (FV.loadN (by kernel_rfl) rfl (hS5.memA .hd)) rfl ?_
  obtain ⟨y0, hy0, h⟩ := bind_in h
  refine RG.cq (.tuple #[.agg ((cs_A34 y0.1)).toArray, .int .i64 y0.2]) body193 rfl (evs_cons rfl evs_nil) (fun w9 hw9 => wide_Number_Told_c n _ w9 (hS5.hL0 hL hw9) (⟨a0.fBelow, (getA a0.fWords 0 (0 : UInt64), getA a0.fWords 1 (0 : UInt64), getA a0.fWords 2 (0 : UInt64), getA a0.fWords 3 (0 : UInt64), getA a0.fWords 4 (0 : UInt64), getA a0.fWords 5 (0 : UInt64), getA a0.fWords 6 (0 : UInt64), getA a0.fWords 7 (0 : UInt64))⟩ : TNumber) hy0) rfl <| RG.vv (FV.extract rfl rfl) rfl <| RG.vv (FV.extract rfl rfl) rfl <| RG.now .plain (Acts.storeAll (news := (cs_A34 y0.1)) hS5 (.tl .hd) rfl rfl rfl rfl rfl rfl (onesB rfl)) (fun w5 hS6 hT5 => ?_)
  refine RG.sg rfl rfl <| RG.nil <| MX.ret rfl <| RT.leave hb0 Tryz.func166 rfl (.cons (.many (cs := (cs_A34 y0.1)) (by kernel_rfl) rfl (hS6.memA (.tl .hd))) (.cons (.tmp rfl) .nil)) rfl ?_
  obtain rfl := Option.some.inj h
  exact ⟨hS6.ag, fun w9 hw9 => rfl⟩
structure TRatio where
  fLong : TLong
  fUnder : TLong
  deriving DecidableEq
instance : Rep TRatio := Rep.via (β := TLong × TLong) fun x => (x.fLong, x.fUnder)
structure TShare where
  fN : UInt64 × UInt64 × UInt64 × UInt64 × UInt64 × UInt64 × UInt64 × UInt64
  fD : UInt64 × UInt64 × UInt64 × UInt64 × UInt64 × UInt64 × UInt64 × UInt64
  deriving DecidableEq
instance : Rep TShare := Rep.via (β := (UInt64 × UInt64 × UInt64 × UInt64 × UInt64 × UInt64 × UInt64 × UInt64) × (UInt64 × UInt64 × UInt64 × UInt64 × UInt64 × UInt64 × UInt64 × UInt64)) fun x => (x.fN, x.fD)
def cs_TShare (x : TShare) : List Value := [.int .u64 (x.fN.1.toNat : Int), .int .u64 (x.fN.2.1.toNat : Int), .int .u64 (x.fN.2.2.1.toNat : Int), .int .u64 (x.fN.2.2.2.1.toNat : Int), .int .u64 (x.fN.2.2.2.2.1.toNat : Int), .int .u64 (x.fN.2.2.2.2.2.1.toNat : Int), .int .u64 (x.fN.2.2.2.2.2.2.1.toNat : Int), .int .u64 (x.fN.2.2.2.2.2.2.2.toNat : Int), .int .u64 (x.fD.1.toNat : Int), .int .u64 (x.fD.2.1.toNat : Int), .int .u64 (x.fD.2.2.1.toNat : Int), .int .u64 (x.fD.2.2.2.1.toNat : Int), .int .u64 (x.fD.2.2.2.2.1.toNat : Int), .int .u64 (x.fD.2.2.2.2.2.1.toNat : Int), .int .u64 (x.fD.2.2.2.2.2.2.1.toNat : Int), .int .u64 (x.fD.2.2.2.2.2.2.2.toNat : Int)]
theorem body166 : bodyB Tryz.prog 166 = true := by kernel_rfl
def share_Ratio_Told_p (n : Nat) (a0 : TRatio) : Option (TShare × Int) :=
  (wide_Long_Told_p n a0.fLong).bind fun y0 => (wide_Long_Told_p n a0.fUnder).bind fun y1 => (if y0.2 = 0 then (if y1.2 = 0 then some ((⟨y0.1, y1.1⟩ : TShare), (0 : Int)) else some ((⟨((0 : UInt64), (0 : UInt64), (0 : UInt64), (0 : UInt64), (0 : UInt64), (0 : UInt64), (0 : UInt64), (0 : UInt64)), ((0 : UInt64), (0 : UInt64), (0 : UInt64), (0 : UInt64), (0 : UInt64), (0 : UInt64), (0 : UInt64), (0 : UInt64))⟩ : TShare), (6 : Int))) else some ((⟨((0 : UInt64), (0 : UInt64), (0 : UInt64), (0 : UInt64), (0 : UInt64), (0 : UInt64), (0 : UInt64), (0 : UInt64)), ((0 : UInt64), (0 : UInt64), (0 : UInt64), (0 : UInt64), (0 : UInt64), (0 : UInt64), (0 : UInt64), (0 : UInt64))⟩ : TShare), (6 : Int)))
theorem share_Ratio_Told_c (n : Nat) (L : List Nat) (w : World) (hL : ∀ b ∈ L, b < w.heap.size) (a0 : TRatio) {v0_1 : Value} (h0_1 : Rep.R w L [v0_1] a0.fLong.fWords) {v0_3 : Value} (h0_3 : Rep.R w L [v0_3] a0.fUnder.fWords)  {r : TShare × Int} (h : share_Ratio_Told_p n a0 = some r) :
    Calls Tryz.prog 129 #[.agg #[.bool a0.fLong.fBelow, v0_1, .bool a0.fUnder.fBelow, v0_3]] w (Gives w fun _ u => u = .tuple #[.agg ((cs_TShare r.1)).toArray, .int .i64 r.2]) := by
  unfold share_Ratio_Told_p at h
  have hS0 := St.start w
  refine MX.start Tryz.func129 rfl rfl rfl (fun _ cs0 hb0 => ?_)
  refine MX.sr <| RG.new .plain rfl (Does.box (vs := [.bool a0.fLong.fBelow, v0_1, .bool a0.fUnder.fBelow, v0_3]) hS0 rfl rfl) (fun w2 b5 hS3 hT4 => ?_)
  refine RG.new .plain rfl (Does.alloc (zs := [.int .u64 0, .int .u64 0, .int .u64 0, .int .u64 0, .int .u64 0, .int .u64 0, .int .u64 0, .int .u64 0, .int .u64 0, .int .u64 0, .int .u64 0, .int .u64 0, .int .u64 0, .int .u64 0, .int .u64 0, .int .u64 0]) hS3 (zB (by kernel_rfl))) (fun w7 b0 hS8 hT9 => ?_)
  refine RG.sg rfl rfl <| RG.nil <| MX.sr <| RG.vv (FV.fieldAddr (off := 0) (by kernel_rfl) rfl) rfl <| RG.vv (FV.loadN (cs := [.bool a0.fLong.fBelow, v0_1]) (by kernel_rfl) rfl (mem_part (hS8.memA (.tl .hd)) 0 2)) rfl ?_
  obtain ⟨y0, hy0, h⟩ := bind_in h
  have hm0 := Rep.mv h0_1 (Tr.trans hT4 hT9)
  refine RG.cq (.tuple #[.agg ((cs_A34 y0.1)).toArray, .int .i64 y0.2]) body166 rfl (evs_cons rfl evs_nil) (fun w9 hw9 => wide_Long_Told_c n _ w9 (hS8.hL0 hL hw9) a0.fLong (Rep.keep0 (Rep.dropS hS8 hm0) hw9) hy0) rfl <| RG.mv rfl rfl <| RG.vv (FV.extract rfl rfl) rfl <| RG.vv (FV.extract rfl rfl) rfl <| RG.new .plain rfl (Does.alloc (zs := [.int .u64 0, .int .u64 0, .int .u64 0, .int .u64 0, .int .u64 0, .int .u64 0, .int .u64 0, .int .u64 0]) hS8 (zB (by kernel_rfl))) (fun w0 b1 hS1 hT0 => ?_)
  refine RG.now .plain (Acts.storeAll (news := (cs_A34 y0.1)) hS1 .hd rfl rfl rfl rfl rfl rfl (onesB rfl)) (fun w1 hS2 hT1 => ?_)
  refine RG.sg rfl rfl <| RG.nil <| MX.sr <| RG.vv (FV.fieldAddr (off := 2) (by kernel_rfl) rfl) rfl <| RG.vv (FV.loadN (cs := [.bool a0.fUnder.fBelow, v0_3]) (by kernel_rfl) rfl (mem_part (hS2.memA (.tl (.tl .hd))) 2 2)) rfl ?_
  obtain ⟨y1, hy1, h⟩ := bind_in h
  have hm1 := Rep.mv h0_3 (Tr.trans hT4 (Tr.trans hT9 (Tr.trans hT0 hT1)))
  refine RG.cq (.tuple #[.agg ((cs_A34 y1.1)).toArray, .int .i64 y1.2]) body166 rfl (evs_cons rfl evs_nil) (fun w9 hw9 => wide_Long_Told_c n _ w9 (hS2.hL0 hL hw9) a0.fUnder (Rep.keep0 (Rep.dropS hS2 hm1) hw9) hy1) rfl <| RG.mv rfl rfl <| RG.vv (FV.extract rfl rfl) rfl <| RG.vv (FV.extract rfl rfl) rfl <| RG.new .plain rfl (Does.alloc (zs := [.int .u64 0, .int .u64 0, .int .u64 0, .int .u64 0, .int .u64 0, .int .u64 0, .int .u64 0, .int .u64 0]) hS2 (zB (by kernel_rfl))) (fun w3 b2 hS4 hT2 => ?_)
  refine RG.now .plain (Acts.storeAll (news := (cs_A34 y1.1)) hS4 .hd rfl rfl rfl rfl rfl rfl (onesB rfl)) (fun w4 hS5 hT3 => ?_)
  refine RG.sg rfl rfl <| RG.nil <| MX.seq <| MX.sr <| RG.mv rfl rfl <| RG.vv (FV.neq (i := y0.2) (j := 0) rfl rfl) rfl ?_
  refine RG.mv rfl rfl <| RG.ifn (s := 22) rfl h (fun c0 h => ?_) (fun c0 h => ?_)
  ·skip
   refine RG.val' (.yes rfl rfl) (FV.move rfl) rfl <| RG.val' (.yes rfl rfl) (FV.neq (i := y1.2) (j := 0) rfl rfl) rfl <| RG.vv (FV.pick_f rfl rfl) rfl <| RG.nil <| MX.ifn rfl h (fun c1 h => ?_) (fun c1 h => ?_)
   ·skip
    refine MX.skip <| MX.sr <| RG.vv (FV.loadN (by kernel_rfl) rfl (hS5.memA (.tl .hd))) rfl <| RG.vv (FV.loadN (by kernel_rfl) rfl (hS5.memA .hd)) rfl <| RG.vv (FV.buildV (vs := [.agg ((cs_A34 y0.1)).toArray, .agg ((cs_A34 y1.1)).toArray]) (u := .agg ((cs_A34 y0.1 ++ cs_A34 y1.1)).toArray) (evs_cons rfl (evs_cons rfl evs_nil)) (fun w9 => by kernel_rfl)) rfl <| RG.now .plain (Acts.storeAll (news := (cs_A34 y0.1 ++ cs_A34 y1.1)) hS5 (.tl (.tl .hd)) rfl rfl rfl rfl rfl rfl (onesB rfl)) (fun w5 hS6 hT5 => ?_)
    refine RG.sg rfl rfl <| RG.nil <| MX.ret rfl <| RT.leave hb0 Tryz.func129 rfl (.cons (.many (cs := (cs_A34 y0.1 ++ cs_A34 y1.1)) (by kernel_rfl) rfl (hS6.memA (.tl (.tl .hd)))) (.cons (.tmp rfl) .nil)) rfl ?_
    obtain rfl := Option.some.inj h
    exact ⟨hS6.ag, fun w9 hw9 => rfl⟩
   refine MX.sr <| RG.vv (FV.buildV (vs := []) (u := .agg #[.int .u64 0, .int .u64 0, .int .u64 0, .int .u64 0, .int .u64 0, .int .u64 0, .int .u64 0, .int .u64 0, .int .u64 0, .int .u64 0, .int .u64 0, .int .u64 0, .int .u64 0, .int .u64 0, .int .u64 0, .int .u64 0]) evs_nil (fun w9 => by kernel_rfl)) rfl <| RG.now .plain (Acts.storeAll (news := [.int .u64 0, .int .u64 0, .int .u64 0, .int .u64 0, .int .u64 0, .int .u64 0, .int .u64 0, .int .u64 0, .int .u64 0, .int .u64 0, .int .u64 0, .int .u64 0, .int .u64 0, .int .u64 0, .int .u64 0, .int .u64 0]) hS5 (.tl (.tl .hd)) rfl rfl rfl rfl rfl rfl (onesB rfl)) (fun w6 hS7 hT6 => ?_)
   refine RG.sg rfl rfl <| RG.nil <| MX.ret rfl <| RT.leave hb0 Tryz.func129 rfl (.cons (.many (cs := [.int .u64 0, .int .u64 0, .int .u64 0, .int .u64 0, .int .u64 0, .int .u64 0, .int .u64 0, .int .u64 0, .int .u64 0, .int .u64 0, .int .u64 0, .int .u64 0, .int .u64 0, .int .u64 0, .int .u64 0, .int .u64 0]) (by kernel_rfl) rfl (hS7.memA (.tl (.tl .hd)))) (.cons (.tmp rfl) .nil)) rfl ?_
   obtain rfl := Option.some.inj h
   exact ⟨hS7.ag, fun w9 hw9 => rfl⟩
  refine RG.off (.no rfl rfl) rfl <| RG.off (.no rfl rfl) rfl <| RG.vv (FV.pick_t rfl rfl) rfl <| RG.nil <| MX.cond_t rfl <| MX.sr ?_
  refine RG.vv (FV.buildV (vs := []) (u := .agg #[.int .u64 0, .int .u64 0, .int .u64 0, .int .u64 0, .int .u64 0, .int .u64 0, .int .u64 0, .int .u64 0, .int .u64 0, .int .u64 0, .int .u64 0, .int .u64 0, .int .u64 0, .int .u64 0, .int .u64 0, .int .u64 0]) evs_nil (fun w9 => by kernel_rfl)) rfl <| RG.now .plain (Acts.storeAll (news := [.int .u64 0, .int .u64 0, .int .u64 0, .int .u64 0, .int .u64 0, .int .u64 0, .int .u64 0, .int .u64 0, .int .u64 0, .int .u64 0, .int .u64 0, .int .u64 0, .int .u64 0, .int .u64 0, .int .u64 0, .int .u64 0]) hS5 (.tl (.tl .hd)) rfl rfl rfl rfl rfl rfl (onesB rfl)) (fun w8 hS9 hT7 => ?_)
  refine RG.sg rfl rfl <| RG.nil <| MX.ret rfl <| RT.leave hb0 Tryz.func129 rfl (.cons (.many (cs := [.int .u64 0, .int .u64 0, .int .u64 0, .int .u64 0, .int .u64 0, .int .u64 0, .int .u64 0, .int .u64 0, .int .u64 0, .int .u64 0, .int .u64 0, .int .u64 0, .int .u64 0, .int .u64 0, .int .u64 0, .int .u64 0]) (by kernel_rfl) rfl (hS9.memA (.tl (.tl .hd)))) (.cons (.tmp rfl) .nil)) rfl ?_
  obtain rfl := Option.some.inj h
  exact ⟨hS9.ag, fun w9 hw9 => rfl⟩
theorem body129 : bodyB Tryz.prog 129 = true := by kernel_rfl
def share_told_p (n : Nat) (a0 : TRatio) (a1 : Int) : Option (TShare × Int) :=
  (if a1 = 0 then (share_Ratio_Told_p n a0).bind fun y0 => some (y0.1, y0.2) else some ((⟨((0 : UInt64), (0 : UInt64), (0 : UInt64), (0 : UInt64), (0 : UInt64), (0 : UInt64), (0 : UInt64), (0 : UInt64)), ((0 : UInt64), (0 : UInt64), (0 : UInt64), (0 : UInt64), (0 : UInt64), (0 : UInt64), (0 : UInt64), (0 : UInt64))⟩ : TShare), a1))
theorem share_told_c (n : Nat) (L : List Nat) (w : World) (hL : ∀ b ∈ L, b < w.heap.size) (a0 : TRatio) {v0_1 : Value} (h0_1 : Rep.R w L [v0_1] a0.fLong.fWords) {v0_3 : Value} (h0_3 : Rep.R w L [v0_3] a0.fUnder.fWords) (a1 : Int)  {r : TShare × Int} (h : share_told_p n a0 a1 = some r) :
    Calls Tryz.prog 79 #[.agg #[.bool a0.fLong.fBelow, v0_1, .bool a0.fUnder.fBelow, v0_3], .int .i64 a1] w (Gives w fun _ u => u = .tuple #[.agg ((cs_TShare r.1)).toArray, .int .i64 r.2]) := by
  unfold share_told_p at h
  have hS0 := St.start w
  refine MX.start Tryz.func79 rfl rfl rfl (fun _ cs0 hb0 => ?_)
  refine MX.sr <| RG.new .plain rfl (Does.box (vs := [.bool a0.fLong.fBelow, v0_1, .bool a0.fUnder.fBelow, v0_3]) hS0 rfl rfl) (fun w2 b5 hS3 hT4 => ?_)
  refine RG.new .plain rfl (Does.alloc (zs := [.int .u64 0, .int .u64 0, .int .u64 0, .int .u64 0, .int .u64 0, .int .u64 0, .int .u64 0, .int .u64 0, .int .u64 0, .int .u64 0, .int .u64 0, .int .u64 0, .int .u64 0, .int .u64 0, .int .u64 0, .int .u64 0]) hS3 (zB (by kernel_rfl))) (fun w7 b0 hS8 hT9 => ?_)
  refine RG.sg rfl rfl <| RG.nil <| MX.seq <| MX.sr <| RG.mv rfl rfl <| RG.vv (FV.neq (i := a1) (j := 0) rfl rfl) rfl ?_
  refine RG.nil <| MX.ifn rfl h (fun c0 h => ?_) (fun c0 h => ?_)
  ·skip
   refine MX.skip <| MX.sr <| RG.vv (FV.loadN (by kernel_rfl) rfl (hS8.memA (.tl .hd))) rfl ?_
   obtain ⟨y0, hy0, h⟩ := bind_in h
   have hm0 := Rep.mv h0_1 (Tr.trans hT4 hT9)
   have hm1 := Rep.mv h0_3 (Tr.trans hT4 hT9)
   refine RG.cq (.tuple #[.agg ((cs_TShare y0.1)).toArray, .int .i64 y0.2]) body129 rfl (evs_cons rfl evs_nil) (fun w9 hw9 => share_Ratio_Told_c n _ w9 (hS8.hL0 hL hw9) a0 (Rep.keep0 (Rep.dropS hS8 hm0) hw9) (Rep.keep0 (Rep.dropS hS8 hm1) hw9) hy0) rfl <| RG.vv (FV.extract rfl rfl) rfl <| RG.vv (FV.extract rfl rfl) rfl <| RG.now .plain (Acts.storeAll (news := (cs_TShare y0.1)) hS8 .hd rfl rfl rfl rfl rfl rfl (onesB rfl)) (fun w0 hS1 hT0 => ?_)
   refine RG.sg rfl rfl <| RG.nil <| MX.ret rfl <| RT.leave hb0 Tryz.func79 rfl (.cons (.many (cs := (cs_TShare y0.1)) (by kernel_rfl) rfl (hS1.memA .hd)) (.cons (.tmp rfl) .nil)) rfl ?_
   obtain rfl := Option.some.inj h
   exact ⟨hS1.ag, fun w9 hw9 => rfl⟩
  refine MX.sr <| RG.vv (FV.buildV (vs := []) (u := .agg #[.int .u64 0, .int .u64 0, .int .u64 0, .int .u64 0, .int .u64 0, .int .u64 0, .int .u64 0, .int .u64 0, .int .u64 0, .int .u64 0, .int .u64 0, .int .u64 0, .int .u64 0, .int .u64 0, .int .u64 0, .int .u64 0]) evs_nil (fun w9 => by kernel_rfl)) rfl <| RG.mv rfl rfl <| RG.now .plain (Acts.storeAll (news := [.int .u64 0, .int .u64 0, .int .u64 0, .int .u64 0, .int .u64 0, .int .u64 0, .int .u64 0, .int .u64 0, .int .u64 0, .int .u64 0, .int .u64 0, .int .u64 0, .int .u64 0, .int .u64 0, .int .u64 0, .int .u64 0]) hS8 .hd rfl rfl rfl rfl rfl rfl (onesB rfl)) (fun w1 hS2 hT1 => ?_)
  refine RG.sg rfl rfl <| RG.nil <| MX.ret rfl <| RT.leave hb0 Tryz.func79 rfl (.cons (.many (cs := [.int .u64 0, .int .u64 0, .int .u64 0, .int .u64 0, .int .u64 0, .int .u64 0, .int .u64 0, .int .u64 0, .int .u64 0, .int .u64 0, .int .u64 0, .int .u64 0, .int .u64 0, .int .u64 0, .int .u64 0, .int .u64 0]) (by kernel_rfl) rfl (hS2.memA .hd)) (.cons (.tmp rfl) .nil)) rfl ?_
  obtain rfl := Option.some.inj h
  exact ⟨hS2.ag, fun w9 hw9 => rfl⟩
def wide_trimmed_l1 (_n : Nat) (a1 : List UInt64) (J0 : Int → Option Int) : Int → Option Int
  | z0 => (if 0 < z0 then (chk (z0 - 1)).bind fun s0 => (idx a1 s0).bind fun x0 => (if x0 = (0 : UInt64) then (chk (z0 - 1)).bind fun s1 => J0 s1 else some z0) else some z0)
def wide_trimmed_p (n : Nat) (a0 : Bool) (a1 : List UInt64) : Option TLong :=
  jn (fun z0 => (if a0 = true then (cut a1 0 z0).bind fun xs0 => some (⟨(decide (0 < z0)), xs0⟩ : TLong) else (cut a1 0 z0).bind fun xs1 => some (⟨false, xs1⟩ : TLong))) (fun J0 => Option.bind (loopF (wide_trimmed_l1 n a1) n ((a1.length : Nat) : Int)) (J0))
theorem wide_trimmed_c (n : Nat) (L : List Nat) (w : World) (_hL : ∀ b ∈ L, b < w.heap.size) (a0 : Bool) (a1 : List UInt64) {v1_0 : Value} (h1_0 : Rep.R w L [v1_0] a1)  {r : TLong} (h : wide_trimmed_p n a0 a1 = some r) :
    Calls Tryz.prog 169 #[.bool a0, v1_0] w (Gives w fun w' u => ∃ v0_1 : Value, u = .agg #[.bool r.fBelow, v0_1] ∧ Rep.R w' L [v0_1] r.fWords) := by
  unfold wide_trimmed_p at h
  have hS0 := St.start w
  refine MX.start Tryz.func169 rfl rfl rfl (fun _ cs0 hb0 => ?_)
  refine MX.sr <| RG.new .plain rfl (Does.alloc (zs := [.bool false, .slice none 0 0]) hS0 (zB (by kernel_rfl))) (fun w2 b5 hS3 hT4 => ?_)
  refine RG.nil <| MX.sr <| RG.mv rfl rfl ?_
  have hm7 := Rep.mv h1_0 hT4
  have hl6 : a1.length ≤ 281474976710656 := Rep.lenle hm7
  refine RG.vv (FV.len (xs := a1) Tryz.underlying121 rfl hm7) rfl <| RG.sg rfl rfl <| RG.nil <| MX.seq <| MX.block <| MX.joinx (α := Int) (fun z0 => [(0, .bool a0), (1, v1_0), (4, .pointer (some ⟨b5, 0, none⟩)), (5, .int .i64 z0)]) (fun z0 wx0 => St w wx0 [.cells b5 [.bool false, .slice none 0 0] 123] ∧ Tr w2 [.cells b5 [.bool false, .slice none 0 0] 123] wx0 [.cells b5 [.bool false, .slice none 0 0] 123]) (fun z0 => z0) (id := 0) rfl h ?_ ?_
  ·skip
   rintro z0 wx0 ⟨hS1, hT0⟩ h
   try dsimp only at h
   refine MX.sr <| RG.mv rfl rfl <| RG.mv rfl rfl <| RG.ifb (s := 21) rfl h (fun c0 h => ?_) (fun c0 h => ?_)
   ·skip
    refine RG.val' (.yes rfl rfl) (FV.move rfl) rfl <| RG.val' (.yes rfl rfl) (FV.gtr (i := z0) (j := 0) rfl rfl) rfl <| RG.vv (FV.pick_t rfl rfl) rfl <| RG.mv rfl rfl <| RG.mv rfl rfl ?_
    obtain ⟨xs0, hxs121, h⟩ := bind_in h
    have hm0 := Rep.mv h1_0 (Tr.trans hT4 hT0)
    refine RG.valE .plain rfl (FV.cutL (α := UInt64) hxs121 (by kernel_rfl) rfl hm0 rfl ⟨_, rfl⟩) (fun v0 hr0 => ?_)
    obtain ⟨A125, c1, hv127, _⟩ := Rep.sl hr0
    refine RG.vv (FV.buildV (vs := [.bool (decide (0 < z0)), v0]) (u := .agg #[.bool (decide (0 < z0)), v0]) (evs_cons rfl (evs_cons rfl evs_nil)) (fun w9 => by rw [hv127]; try kernel_rfl)) rfl <| RG.now .plain (Acts.storeAll (news := [.bool (decide (0 < z0)), v0]) hS1 .hd rfl rfl rfl rfl rfl rfl (ones_cons rfl (ones_cons (Rep.o1 hr0) ones_nil))) (fun w0 hS2 hT1 => ?_)
    refine RG.nil <| MX.ret rfl <| RT.leave hb0 Tryz.func169 rfl (.cons (.many (cs := [.bool (decide (0 < z0)), v0]) (by kernel_rfl) rfl (hS2.memA .hd)) .nil) rfl ?_
    obtain rfl := Option.some.inj h
    have hm1 := Rep.mv hr0 hT1
    exact ⟨hS2.ag, fun w9 hw9 => ⟨v0, rfl, Rep.keep0 (Rep.dropS hS2 hm1) hw9⟩⟩
   refine RG.off (.no rfl rfl) rfl <| RG.off (.no rfl rfl) rfl <| RG.vv (FV.pick_f rfl rfl) rfl <| RG.mv rfl rfl <| RG.mv rfl rfl ?_
   obtain ⟨xs1, hxs132, h⟩ := bind_in h
   have hm2 := Rep.mv h1_0 (Tr.trans hT4 hT0)
   refine RG.valE .plain rfl (FV.cutL (α := UInt64) hxs132 (by kernel_rfl) rfl hm2 rfl ⟨_, rfl⟩) (fun v1 hr1 => ?_)
   obtain ⟨A136, c2, hv138, _⟩ := Rep.sl hr1
   refine RG.vv (FV.buildV (vs := [.bool false, v1]) (u := .agg #[.bool false, v1]) (evs_cons rfl (evs_cons rfl evs_nil)) (fun w9 => by rw [hv138]; try kernel_rfl)) rfl <| RG.now .plain (Acts.storeAll (news := [.bool false, v1]) hS1 .hd rfl rfl rfl rfl rfl rfl (ones_cons rfl (ones_cons (Rep.o1 hr1) ones_nil))) (fun w1 hS4 hT2 => ?_)
   refine RG.nil <| MX.ret rfl <| RT.leave hb0 Tryz.func169 rfl (.cons (.many (cs := [.bool false, v1]) (by kernel_rfl) rfl (hS4.memA .hd)) .nil) rfl ?_
   obtain rfl := Option.some.inj h
   have hm3 := Rep.mv hr1 hT2
   exact ⟨hS4.ag, fun w9 hw9 => ⟨v1, rfl, Rep.keep0 (Rep.dropS hS4 hm3) hw9⟩⟩
  ·skip
   intro J0 hJ119 h
   try dsimp only at h
   obtain ⟨o0, ho188, hh190⟩ := bind_in2 h
   refine MX.loop (α := Int) (fun z1 => [(0, .bool a0), (1, v1_0), (4, .pointer (some ⟨b5, 0, none⟩)), (5, .int .i64 z1)]) (fun z1 wx1 => St w wx1 [.cells b5 [.bool false, .slice none 0 0] 123] ∧ Tr w2 [.cells b5 [.bool false, .slice none 0 0] 123] wx1 [.cells b5 [.bool false, .slice none 0 0] 123]) (fun z1 => z1) ((a1.length : Nat) : Int) ho188 ⟨rfl, rfl, rfl, rfl, trivial⟩ ⟨hS3, Tr.refl _ _⟩ ?_
   rintro J1 z1 wx1 hJ192 ⟨hS5, hT3⟩ h
   unfold wide_trimmed_l1 at h
   try dsimp only at h
   refine MX.seq <| MX.sr <| RG.mv rfl rfl <| RG.vv (FV.gtr (i := z1) (j := 0) rfl rfl) rfl <| RG.mv rfl rfl <| RG.ifd (s := 10) rfl h (fun c3 h => ?_) (fun c3 h => ?_)
   ·skip
    refine RG.val' (.yes rfl rfl) (FV.move rfl) rfl <| RG.val' (.yes rfl rfl) (FV.move rfl) rfl ?_
    obtain ⟨s0, hs0, h⟩ := bind_in h
    refine RG.val' (.yes rfl rfl) (FV.subc (i := z1) (j := 1) rfl rfl hs0) rfl ?_
    obtain ⟨x0, hx0, h⟩ := bind_in h
    obtain ⟨hi0, hx1⟩ := idx_in hx0
    have hm4 := Rep.mv h1_0 (Tr.trans hT4 hT3)
    obtain ⟨A198, c4, he0, hk0, cs1, hr2, hm5⟩ := Rep.nth hm4 hx1
    have he1 : cs1 = [.int .u64 (x0.toNat : Int)] := hr2; subst he1
    refine RG.val' (.yes rfl rfl) (FV.idxAddr (m := 1) (i := s0.toNat) (by kernel_rfl) rfl he0 rfl hi0 hk0) rfl <| RG.val' (.yes rfl rfl) (FV.load1 (by kernel_rfl) rfl (hm5 0 _ rfl)) rfl <| RG.val' (.yes rfl rfl) (FV.eqlU (a := x0) (b := (0 : UInt64)) rfl rfl) rfl <| RG.vv (FV.pick_t rfl rfl) rfl <| RG.nil <| MX.ifd rfl h (fun c5 h => ?_) (fun c5 h => ?_)
    ·skip
     refine MX.skip <| MX.block <| MX.region <| RG.mv rfl rfl ?_
     obtain ⟨s1, hs1, h⟩ := bind_in h
     refine RG.vv (FV.subc (i := z1) (j := 1) rfl rfl hs1) rfl <| RG.sg rfl rfl <| RG.nil <| MX.inBlock ?_
     exact hJ192 s1 _ _ ⟨rfl, rfl, rfl, rfl, trivial⟩ ⟨hS5, hT3⟩ h
    refine MX.exit rfl ?_
    have h := hh190 _ h
    try dsimp only at h
    exact hJ119 z1 _ _ ⟨rfl, rfl, rfl, rfl, trivial⟩ ⟨hS5, hT3⟩ h
   refine RG.off (.no rfl rfl) rfl <| RG.off (.no rfl rfl) rfl <| RG.off (.no rfl rfl) rfl <| RG.off (.no rfl rfl) rfl <| RG.off (.no rfl rfl) rfl <| RG.off (.no rfl rfl) rfl ?_
   refine RG.vv (FV.pick_f rfl rfl) rfl <| RG.nil <| MX.cond_f rfl <| MX.exit rfl ?_
   have h := hh190 _ h
   try dsimp only at h
   exact hJ119 z1 _ _ ⟨rfl, rfl, rfl, rfl, trivial⟩ ⟨hS5, hT3⟩ h
def wide_Read_p (n : Nat) (a0 : UInt64 × UInt64 × UInt64 × UInt64 × UInt64 × UInt64 × UInt64 × UInt64) : Option TNumber :=
  (if (shrU a0.2.2.2.2.2.2.2 63) = (1 : UInt64) then (wide_Size_minus_p n ((0 : UInt64), (0 : UInt64), (0 : UInt64), (0 : UInt64), (0 : UInt64), (0 : UInt64), (0 : UInt64), (0 : UInt64)) a0).bind fun y0 => some (⟨(decide ((shrU a0.2.2.2.2.2.2.2 63) = (1 : UInt64))), y0.1⟩ : TNumber) else some (⟨(decide ((shrU a0.2.2.2.2.2.2.2 63) = (1 : UInt64))), a0⟩ : TNumber))
theorem wide_Read_c (n : Nat) (L : List Nat) (w : World) (hL : ∀ b ∈ L, b < w.heap.size) (a0 : UInt64 × UInt64 × UInt64 × UInt64 × UInt64 × UInt64 × UInt64 × UInt64)  {r : TNumber} (h : wide_Read_p n a0 = some r) :
    Calls Tryz.prog 192 #[.agg ((cs_A34 a0)).toArray] w (Gives w fun _ u => u = .agg ((cs_TNumber r)).toArray) := by
  unfold wide_Read_p at h
  have hS0 := St.start w
  refine MX.start Tryz.func192 rfl rfl rfl (fun _ cs0 hb0 => ?_)
  refine MX.sr <| RG.new .plain rfl (Does.box (vs := (cs_A34 a0)) hS0 rfl rfl) (fun w2 b5 hS3 hT4 => ?_)
  refine RG.new .plain rfl (Does.alloc (zs := [.bool false, .int .u64 0, .int .u64 0, .int .u64 0, .int .u64 0, .int .u64 0, .int .u64 0, .int .u64 0, .int .u64 0]) hS3 (zB (by kernel_rfl))) (fun w7 b0 hS8 hT9 => ?_)
  refine RG.nil <| MX.sr <| RG.vv (FV.indexArr (m := 1) (k := 7) (len := 8) (by kernel_rfl) rfl rfl rfl (by omega)) rfl <| RG.vv (FV.load1 (by kernel_rfl) rfl ((hS8.memA (.tl .hd)) 7 _ rfl)) rfl <| RG.vv (FV.shrU (a := a0.2.2.2.2.2.2.2) (j := 63) rfl rfl) rfl <| RG.vv (FV.eqlU (a := shrU a0.2.2.2.2.2.2.2 63) (b := (1 : UInt64)) rfl rfl) rfl ?_
  refine RG.vv (FV.loadN (by kernel_rfl) rfl (hS8.memA (.tl .hd))) rfl <| RG.vv (FV.buildV (vs := [.bool (decide ((shrU a0.2.2.2.2.2.2.2 63) = (1 : UInt64))), .agg ((cs_A34 a0)).toArray]) (u := .agg ((([.bool (decide ((shrU a0.2.2.2.2.2.2.2 63) = (1 : UInt64)))] : List Value) ++ cs_A34 a0)).toArray) (evs_cons rfl (evs_cons rfl evs_nil)) (fun w9 => by kernel_rfl)) rfl <| RG.new .plain rfl (Does.alloc (zs := [.bool false, .int .u64 0, .int .u64 0, .int .u64 0, .int .u64 0, .int .u64 0, .int .u64 0, .int .u64 0, .int .u64 0]) hS8 (zB (by kernel_rfl))) (fun w0 b1 hS1 hT0 => ?_)
  refine RG.now .plain (Acts.storeAll (news := (([.bool (decide ((shrU a0.2.2.2.2.2.2.2 63) = (1 : UInt64)))] : List Value) ++ cs_A34 a0)) hS1 .hd rfl rfl rfl rfl rfl rfl (onesB rfl)) (fun w1 hS2 hT1 => ?_)
  refine RG.nil <| MX.seq <| MX.sr <| RG.vv (FV.fieldAddr (off := 0) (by kernel_rfl) rfl) rfl <| RG.vv (FV.load1 (by kernel_rfl) rfl ((hS2.memA .hd) 0 _ rfl)) rfl <| RG.nil ?_
  refine MX.ifd rfl h (fun c0 h => ?_) (fun c0 h => ?_)
  ·skip
   refine MX.region <| RG.vv (FV.buildV (vs := []) (u := .agg #[.int .u64 0, .int .u64 0, .int .u64 0, .int .u64 0, .int .u64 0, .int .u64 0, .int .u64 0, .int .u64 0]) evs_nil (fun w9 => by kernel_rfl)) rfl <| RG.vv (FV.fieldAddr (off := 1) (by kernel_rfl) rfl) rfl <| RG.vv (FV.loadN (cs := (cs_A34 a0)) (by kernel_rfl) rfl (mem_part (hS2.memA .hd) 1 8)) rfl ?_
   obtain ⟨y0, hy0, h⟩ := bind_in h
   refine RG.cq (.tuple #[.agg ((cs_A34 y0.1)).toArray, .int .u64 (y0.2.toNat : Int)]) body212 rfl (evs_cons rfl (evs_cons rfl evs_nil)) (fun w9 hw9 => wide_Size_minus_c n _ w9 (hS2.hL0 hL hw9) ((0 : UInt64), (0 : UInt64), (0 : UInt64), (0 : UInt64), (0 : UInt64), (0 : UInt64), (0 : UInt64), (0 : UInt64)) a0 hy0) rfl <| RG.mv rfl rfl <| RG.vv (FV.extract rfl rfl) rfl <| RG.vv (FV.extract rfl rfl) rfl <| RG.vv (FV.fieldAddr (off := 1) (by kernel_rfl) rfl) rfl <| RG.now .plain (Acts.store (j := 1) (old := (([.bool (decide ((shrU a0.2.2.2.2.2.2.2 63) = (1 : UInt64)))] : List Value) ++ cs_A34 a0)) (news := (cs_A34 y0.1)) (new' := (([.bool (decide ((shrU a0.2.2.2.2.2.2.2 63) = (1 : UInt64)))] : List Value) ++ cs_A34 y0.1)) hS2 .hd rfl rfl rfl rfl rfl rfl (onesB rfl) rfl) (fun w3 hS4 hT2 => ?_)
   refine RG.nil <| MX.sr <| RG.vv (FV.loadN (by kernel_rfl) rfl (hS4.memA .hd)) rfl <| RG.now .plain (Acts.storeAll (news := (([.bool (decide ((shrU a0.2.2.2.2.2.2.2 63) = (1 : UInt64)))] : List Value) ++ cs_A34 y0.1)) hS4 (.tl .hd) rfl rfl rfl rfl rfl rfl (onesB rfl)) (fun w4 hS5 hT3 => ?_)
   refine RG.nil <| MX.ret rfl <| RT.leave hb0 Tryz.func192 rfl (.cons (.many (cs := (([.bool (decide ((shrU a0.2.2.2.2.2.2.2 63) = (1 : UInt64)))] : List Value) ++ cs_A34 y0.1)) (by kernel_rfl) rfl (hS5.memA (.tl .hd))) .nil) rfl ?_
   obtain rfl := Option.some.inj h
   exact ⟨hS5.ag, fun w9 hw9 => rfl⟩
  refine MX.skip <| MX.sr <| RG.vv (FV.loadN (by kernel_rfl) rfl (hS2.memA .hd)) rfl <| RG.now .plain (Acts.storeAll (news := (([.bool (decide ((shrU a0.2.2.2.2.2.2.2 63) = (1 : UInt64)))] : List Value) ++ cs_A34 a0)) hS2 (.tl .hd) rfl rfl rfl rfl rfl rfl (onesB rfl)) (fun w5 hS6 hT5 => ?_)
  refine RG.nil <| MX.ret rfl <| RT.leave hb0 Tryz.func192 rfl (.cons (.many (cs := (([.bool (decide ((shrU a0.2.2.2.2.2.2.2 63) = (1 : UInt64)))] : List Value) ++ cs_A34 a0)) (by kernel_rfl) rfl (hS6.memA (.tl .hd))) .nil) rfl ?_
  obtain rfl := Option.some.inj h
  exact ⟨hS6.ag, fun w9 hw9 => rfl⟩
def tb165_2 : List (Nat × Nat × Nat) := [(0, 64, 8), (1, 128, 64), (0, 256, 0), (0, 512, 8), (8, 1024, 512), (20, 2048, 1280), (34, 4096, 2176), (127, 0, 4100)]
theorem el121 : ElT Tryz.prog 121 33 (Rep.size UInt64) 8 (.int .u64 0) [.int .u64 0] := ⟨Tryz.underlying121, by kernel_rfl, rfl, rfl, rfl, rfl⟩
theorem body169 : bodyB Tryz.prog 169 = true := by kernel_rfl
theorem body192 : bodyB Tryz.prog 192 = true := by kernel_rfl
def wide_Longer_p (n : Nat) (a0 : UInt64 × UInt64 × UInt64 × UInt64 × UInt64 × UInt64 × UInt64 × UInt64) : Option TLong :=
  (wide_Read_p n a0).bind fun y0 => (app ([] : List UInt64) ([y0.fSize.1, y0.fSize.2.1, y0.fSize.2.2.1, y0.fSize.2.2.2.1, y0.fSize.2.2.2.2.1, y0.fSize.2.2.2.2.2.1, y0.fSize.2.2.2.2.2.2.1, y0.fSize.2.2.2.2.2.2.2] : List UInt64)).bind fun xs0 => (wide_trimmed_p n y0.fBelow xs0).bind fun y1 => some y1
theorem wide_Longer_c (n : Nat) (L : List Nat) (w : World) (hL : ∀ b ∈ L, b < w.heap.size) (a0 : UInt64 × UInt64 × UInt64 × UInt64 × UInt64 × UInt64 × UInt64 × UInt64)  {r : TLong} (h : wide_Longer_p n a0 = some r) :
    Calls Tryz.prog 165 #[.agg ((cs_A34 a0)).toArray] w (Gives w fun w' u => ∃ v0_1 : Value, u = .agg #[.bool r.fBelow, v0_1] ∧ Rep.R w' L [v0_1] r.fWords) := by
  unfold wide_Longer_p at h
  have hS0 := St.start w
  refine MX.start Tryz.func165 rfl rfl rfl (fun _ cs0 hb0 => ?_)
  refine MX.sr <| RG.new .plain rfl (Does.box (vs := (cs_A34 a0)) hS0 rfl rfl) (fun w2 b5 hS3 hT4 => ?_)
  refine RG.new .plain rfl (Does.alloc (zs := [.bool false, .slice none 0 0]) hS3 (zB (by kernel_rfl))) (fun w7 b0 hS8 hT9 => ?_)
  refine RG.nil <| MX.sr <| RG.vv (FV.loadN (by kernel_rfl) rfl (hS8.memA (.tl .hd))) rfl ?_
  obtain ⟨y0, hy0, h⟩ := bind_in h
  refine RG.cq (.agg ((cs_TNumber y0)).toArray) body192 rfl (evs_cons rfl evs_nil) (fun w9 hw9 => wide_Read_c n _ w9 (hS8.hL0 hL hw9) a0 hy0) rfl <| RG.new .plain rfl (Does.alloc (zs := [.bool false, .int .u64 0, .int .u64 0, .int .u64 0, .int .u64 0, .int .u64 0, .int .u64 0, .int .u64 0, .int .u64 0]) hS8 (zB (by kernel_rfl))) (fun w0 b1 hS1 hT0 => ?_)
  refine RG.now .plain (Acts.storeAll (news := (cs_TNumber y0)) hS1 .hd rfl rfl rfl rfl rfl rfl (onesB rfl)) (fun w1 hS2 hT1 => ?_)
  refine RG.nil <| MX.seq <| MX.drawT 5 tb165_2 (by kernel_rfl) (by kernel_rfl) (by kernel_rfl) (fun kt0 kp0 => ?_)
  refine RD.vw 0 1 kt0 rfl kp0 (fun _ => FV.fieldAddr (off := 0) (by kernel_rfl) rfl) rfl <| RD.vw 3 9 kt0 rfl kp0 (fun _ => FV.fieldAddr (off := 1) (by kernel_rfl) rfl) rfl <| RD.vx 4 25 224 kt0 rfl kp0 (FV.sliceA (len := 8) (m := 1) (p := Addr.add ⟨b1, 0, none⟩ 1) (by kernel_rfl) rfl) rfl ?_
  obtain ⟨xs0, hxs928, h⟩ := bind_in h
  refine RD.meet (α := Value × (List Value)) (fun ⟨v0, cs1⟩ => [(2, .pointer (some ⟨b0, 0, none⟩)), (7, .bool y0.fBelow), (11, v0)]) (fun ⟨v0, cs1⟩ wx0 => St w wx0 [.row w.heap.size 33 (Rep.size UInt64) v0 xs0.length cs1, .cells b0 [.bool false, .slice none 0 0] 123] ∧ Tr w1 [.cells b1 (cs_TNumber y0) 217, .cells b0 [.bool false, .slice none 0 0] 123, .cells b5 (cs_A34 a0) 35] wx0 [.row w.heap.size 33 (Rep.size UInt64) v0 xs0.length cs1, .cells b0 [.bool false, .slice none 0 0] 123] ∧ Cells wx0 (bl [.row w.heap.size 33 (Rep.size UInt64) v0 xs0.length cs1, .cells b0 [.bool false, .slice none 0 0] 123] ++ L) cs1 (xs0 : List UInt64)) 2 63 ?_ ?_
  ·skip
   rintro ⟨v0, cs1⟩ wx0 ⟨hS4, hT2, hc0⟩
   try dsimp only
   have hr0 := St.freeze (α := UInt64) hS4 .hd hc0 hL
   have hS5 := St.delS hS4 .hd
   have hT3 := St.delT hS4 .hd
   have hr1 := Rep.at_ (α := UInt64) (v := v0) (xs := xs0) hS5 L hr0
   obtain ⟨y1, hy1, h⟩ := bind_in h
   refine RD.cl 6 127 kt0 rfl .plain body169 rfl (evs_cons rfl (evs_cons rfl evs_nil)) (fun w9 hw9 => wide_trimmed_c n _ w9 (hS5.hL hL hw9) y0.fBelow xs0 (Rep.keep0 hr1 hw9) hy1) rfl (fun w3 vu0 hag0 ⟨v1, hu_, hr2⟩ => ?_)
   subst hu_
   obtain ⟨hS6, hT5⟩ := hS5.agr hag0
   refine RD.nw 7 255 kt0 rfl rfl .plain (Acts.storeAll (news := [.bool y1.fBelow, v1]) hS6 .hd rfl rfl rfl rfl rfl rfl (ones_cons rfl (ones_cons (Rep.o1 hr2) ones_nil))) (fun w4 hS7 hT6 => ?_)
   refine RD.done (doneD_ok kt0 (by kernel_rfl)) <| MX.ret rfl <| RT.leave hb0 Tryz.func165 rfl (.cons (.many (cs := [.bool y1.fBelow, v1]) (by kernel_rfl) rfl (hS7.memA .hd)) .nil) rfl ?_
   obtain rfl := Option.some.inj h
   have hm0 := Rep.mv hr2 hT6
   exact ⟨hS7.ag, fun w9 hw9 => ⟨v1, rfl, Rep.keep0 (Rep.dropS hS7 hm0) hw9⟩⟩
  ·skip
   intro hJ1558
   refine RD.each [1, 2] (readyD_ok kt0 (by kernel_rfl)) ⟨?_, ?_, trivial⟩
   ·skip
    refine RO.val (m' := 27) (stepC_ok kt0 (by kernel_rfl)) rfl .plain rfl (FV.load1 (by kernel_rfl) rfl ((hS2.memA .hd) 0 _ rfl)) <| RD.nu 2 31 kt0 rfl .plain rfl (Does.build (α := UInt64) (xs := ([] : List UInt64)) (vs := []) (ds' := []) rfl hS2 el121 rfl evs_nil (by kernel_rfl) rfl) (fun w5 b2 hS9 hT7 => ?_)
    have hc1 := Cells.at_ (cs := []) (xs := (([] : List UInt64) : List UInt64)) hS9 L (Cells.nil _ _)
    refine RD.one (i := 5) (readyD_ok kt0 (by kernel_rfl)) (RO.doesL (m' := 63) (stepC_ok kt0 (by kernel_rfl)) rfl rfl .plain rfl (DoesL.app (α := UInt64) (ys := ([y0.fSize.1, y0.fSize.2.1, y0.fSize.2.2.1, y0.fSize.2.2.2.1, y0.fSize.2.2.2.2.1, y0.fSize.2.2.2.2.2.1, y0.fSize.2.2.2.2.2.2.1, y0.fSize.2.2.2.2.2.2.2] : List UInt64)) (F := fun v' cs' => [.row w.heap.size 33 (Rep.size UInt64) v' xs0.length cs', .cells b1 (cs_TNumber y0) 217, .cells b0 [.bool false, .slice none 0 0] 123, .cells b5 (cs_A34 a0) 35]) hxs928 hS9 (fun _ _ => .hd) el121 rfl rfl hc1 (Src.arr (ds := [.int .u64 (y0.fSize.1.toNat : Int), .int .u64 (y0.fSize.2.1.toNat : Int), .int .u64 (y0.fSize.2.2.1.toNat : Int), .int .u64 (y0.fSize.2.2.2.1.toNat : Int), .int .u64 (y0.fSize.2.2.2.2.1.toNat : Int), .int .u64 (y0.fSize.2.2.2.2.2.1.toNat : Int), .int .u64 (y0.fSize.2.2.2.2.2.2.1.toNat : Int), .int .u64 (y0.fSize.2.2.2.2.2.2.2.toNat : Int)]) (ys := ([y0.fSize.1, y0.fSize.2.1, y0.fSize.2.2.1, y0.fSize.2.2.2.1, y0.fSize.2.2.2.2.1, y0.fSize.2.2.2.2.2.1, y0.fSize.2.2.2.2.2.2.1, y0.fSize.2.2.2.2.2.2.2] : List UInt64)) (n := 8) (mem_part (hS9.memA (.tl .hd)) 1 8) (Cells.cons (cs := [.int .u64 (y0.fSize.1.toNat : Int)]) (ds := [.int .u64 (y0.fSize.2.1.toNat : Int), .int .u64 (y0.fSize.2.2.1.toNat : Int), .int .u64 (y0.fSize.2.2.2.1.toNat : Int), .int .u64 (y0.fSize.2.2.2.2.1.toNat : Int), .int .u64 (y0.fSize.2.2.2.2.2.1.toNat : Int), .int .u64 (y0.fSize.2.2.2.2.2.2.1.toNat : Int), .int .u64 (y0.fSize.2.2.2.2.2.2.2.toNat : Int)]) rfl (Cells.cons (cs := [.int .u64 (y0.fSize.2.1.toNat : Int)]) (ds := [.int .u64 (y0.fSize.2.2.1.toNat : Int), .int .u64 (y0.fSize.2.2.2.1.toNat : Int), .int .u64 (y0.fSize.2.2.2.2.1.toNat : Int), .int .u64 (y0.fSize.2.2.2.2.2.1.toNat : Int), .int .u64 (y0.fSize.2.2.2.2.2.2.1.toNat : Int), .int .u64 (y0.fSize.2.2.2.2.2.2.2.toNat : Int)]) rfl (Cells.cons (cs := [.int .u64 (y0.fSize.2.2.1.toNat : Int)]) (ds := [.int .u64 (y0.fSize.2.2.2.1.toNat : Int), .int .u64 (y0.fSize.2.2.2.2.1.toNat : Int), .int .u64 (y0.fSize.2.2.2.2.2.1.toNat : Int), .int .u64 (y0.fSize.2.2.2.2.2.2.1.toNat : Int), .int .u64 (y0.fSize.2.2.2.2.2.2.2.toNat : Int)]) rfl (Cells.cons (cs := [.int .u64 (y0.fSize.2.2.2.1.toNat : Int)]) (ds := [.int .u64 (y0.fSize.2.2.2.2.1.toNat : Int), .int .u64 (y0.fSize.2.2.2.2.2.1.toNat : Int), .int .u64 (y0.fSize.2.2.2.2.2.2.1.toNat : Int), .int .u64 (y0.fSize.2.2.2.2.2.2.2.toNat : Int)]) rfl (Cells.cons (cs := [.int .u64 (y0.fSize.2.2.2.2.1.toNat : Int)]) (ds := [.int .u64 (y0.fSize.2.2.2.2.2.1.toNat : Int), .int .u64 (y0.fSize.2.2.2.2.2.2.1.toNat : Int), .int .u64 (y0.fSize.2.2.2.2.2.2.2.toNat : Int)]) rfl (Cells.cons (cs := [.int .u64 (y0.fSize.2.2.2.2.2.1.toNat : Int)]) (ds := [.int .u64 (y0.fSize.2.2.2.2.2.2.1.toNat : Int), .int .u64 (y0.fSize.2.2.2.2.2.2.2.toNat : Int)]) rfl (Cells.cons (cs := [.int .u64 (y0.fSize.2.2.2.2.2.2.1.toNat : Int)]) (ds := [.int .u64 (y0.fSize.2.2.2.2.2.2.2.toNat : Int)]) rfl (Cells.cons (cs := [.int .u64 (y0.fSize.2.2.2.2.2.2.2.toNat : Int)]) (ds := []) rfl (Cells.nil _ _))))))))) rfl)) (fun v2 w6 ⟨cs2, hS10, hT8, hc2⟩ => ?_))
    obtain ⟨hS11, hT10⟩ := St.arrB hS10 (.one .hd (.one (.tl .hd) .done))
    have hm1 := Cells.mv hc2 hT10
    exact hJ1558 (v2, cs2) _ _ ⟨rfl, rfl, rfl, trivial⟩ ⟨hS11, (Tr.trans hT7 (Tr.trans hT8 hT10)), hm1⟩
   ·skip
    refine RO.new (m' := 29) (stepC_ok kt0 (by kernel_rfl)) rfl .plain rfl (Does.build (α := UInt64) (xs := ([] : List UInt64)) (vs := []) (ds' := []) rfl hS2 el121 rfl evs_nil (by kernel_rfl) rfl) (fun w5 b2 hS9 hT7 => ?_)
    have hc1 := Cells.at_ (cs := []) (xs := (([] : List UInt64) : List UInt64)) hS9 L (Cells.nil _ _)
    refine RD.each [1, 5] (readyD_ok kt0 (by kernel_rfl)) ⟨?_, ?_, trivial⟩
    ·skip
     refine RO.val (m' := 31) (stepC_ok kt0 (by kernel_rfl)) rfl .plain rfl (FV.load1 (by kernel_rfl) rfl ((hS9.memA (.tl .hd)) 0 _ rfl)) <| RD.one (i := 5) (readyD_ok kt0 (by kernel_rfl)) (RO.doesL (m' := 63) (stepC_ok kt0 (by kernel_rfl)) rfl rfl .plain rfl (DoesL.app (α := UInt64) (ys := ([y0.fSize.1, y0.fSize.2.1, y0.fSize.2.2.1, y0.fSize.2.2.2.1, y0.fSize.2.2.2.2.1, y0.fSize.2.2.2.2.2.1, y0.fSize.2.2.2.2.2.2.1, y0.fSize.2.2.2.2.2.2.2] : List UInt64)) (F := fun v' cs' => [.row w.heap.size 33 (Rep.size UInt64) v' xs0.length cs', .cells b1 (cs_TNumber y0) 217, .cells b0 [.bool false, .slice none 0 0] 123, .cells b5 (cs_A34 a0) 35]) hxs928 hS9 (fun _ _ => .hd) el121 rfl rfl hc1 (Src.arr (ds := [.int .u64 (y0.fSize.1.toNat : Int), .int .u64 (y0.fSize.2.1.toNat : Int), .int .u64 (y0.fSize.2.2.1.toNat : Int), .int .u64 (y0.fSize.2.2.2.1.toNat : Int), .int .u64 (y0.fSize.2.2.2.2.1.toNat : Int), .int .u64 (y0.fSize.2.2.2.2.2.1.toNat : Int), .int .u64 (y0.fSize.2.2.2.2.2.2.1.toNat : Int), .int .u64 (y0.fSize.2.2.2.2.2.2.2.toNat : Int)]) (ys := ([y0.fSize.1, y0.fSize.2.1, y0.fSize.2.2.1, y0.fSize.2.2.2.1, y0.fSize.2.2.2.2.1, y0.fSize.2.2.2.2.2.1, y0.fSize.2.2.2.2.2.2.1, y0.fSize.2.2.2.2.2.2.2] : List UInt64)) (n := 8) (mem_part (hS9.memA (.tl .hd)) 1 8) (Cells.cons (cs := [.int .u64 (y0.fSize.1.toNat : Int)]) (ds := [.int .u64 (y0.fSize.2.1.toNat : Int), .int .u64 (y0.fSize.2.2.1.toNat : Int), .int .u64 (y0.fSize.2.2.2.1.toNat : Int), .int .u64 (y0.fSize.2.2.2.2.1.toNat : Int), .int .u64 (y0.fSize.2.2.2.2.2.1.toNat : Int), .int .u64 (y0.fSize.2.2.2.2.2.2.1.toNat : Int), .int .u64 (y0.fSize.2.2.2.2.2.2.2.toNat : Int)]) rfl (Cells.cons (cs := [.int .u64 (y0.fSize.2.1.toNat : Int)]) (ds := [.int .u64 (y0.fSize.2.2.1.toNat : Int), .int .u64 (y0.fSize.2.2.2.1.toNat : Int), .int .u64 (y0.fSize.2.2.2.2.1.toNat : Int), .int .u64 (y0.fSize.2.2.2.2.2.1.toNat : Int), .int .u64 (y0.fSize.2.2.2.2.2.2.1.toNat : Int), .int .u64 (y0.fSize.2.2.2.2.2.2.2.toNat : Int)]) rfl (Cells.cons (cs := [.int .u64 (y0.fSize.2.2.1.toNat : Int)]) (ds := [.int .u64 (y0.fSize.2.2.2.1.toNat : Int), .int .u64 (y0.fSize.2.2.2.2.1.toNat : Int), .int .u64 (y0.fSize.2.2.2.2.2.1.toNat : Int), .int .u64 (y0.fSize.2.2.2.2.2.2.1.toNat : Int), .int .u64 (y0.fSize.2.2.2.2.2.2.2.toNat : Int)]) rfl (Cells.cons (cs := [.int .u64 (y0.fSize.2.2.2.1.toNat : Int)]) (ds := [.int .u64 (y0.fSize.2.2.2.2.1.toNat : Int), .int .u64 (y0.fSize.2.2.2.2.2.1.toNat : Int), .int .u64 (y0.fSize.2.2.2.2.2.2.1.toNat : Int), .int .u64 (y0.fSize.2.2.2.2.2.2.2.toNat : Int)]) rfl (Cells.cons (cs := [.int .u64 (y0.fSize.2.2.2.2.1.toNat : Int)]) (ds := [.int .u64 (y0.fSize.2.2.2.2.2.1.toNat : Int), .int .u64 (y0.fSize.2.2.2.2.2.2.1.toNat : Int), .int .u64 (y0.fSize.2.2.2.2.2.2.2.toNat : Int)]) rfl (Cells.cons (cs := [.int .u64 (y0.fSize.2.2.2.2.2.1.toNat : Int)]) (ds := [.int .u64 (y0.fSize.2.2.2.2.2.2.1.toNat : Int), .int .u64 (y0.fSize.2.2.2.2.2.2.2.toNat : Int)]) rfl (Cells.cons (cs := [.int .u64 (y0.fSize.2.2.2.2.2.2.1.toNat : Int)]) (ds := [.int .u64 (y0.fSize.2.2.2.2.2.2.2.toNat : Int)]) rfl (Cells.cons (cs := [.int .u64 (y0.fSize.2.2.2.2.2.2.2.toNat : Int)]) (ds := []) rfl (Cells.nil _ _))))))))) rfl)) (fun v2 w6 ⟨cs2, hS10, hT8, hc2⟩ => ?_))
     obtain ⟨hS12, hT11⟩ := St.arrB hS10 (.one .hd (.one (.tl .hd) .done))
     have hm2 := Cells.mv hc2 hT11
     exact hJ1558 (v2, cs2) _ _ ⟨rfl, rfl, rfl, trivial⟩ ⟨hS12, (Tr.trans hT7 (Tr.trans hT8 hT11)), hm2⟩
    ·skip
     refine RO.doesL (m' := 61) (stepC_ok kt0 (by kernel_rfl)) rfl rfl .plain rfl (DoesL.app (α := UInt64) (ys := ([y0.fSize.1, y0.fSize.2.1, y0.fSize.2.2.1, y0.fSize.2.2.2.1, y0.fSize.2.2.2.2.1, y0.fSize.2.2.2.2.2.1, y0.fSize.2.2.2.2.2.2.1, y0.fSize.2.2.2.2.2.2.2] : List UInt64)) (F := fun v' cs' => [.row w.heap.size 33 (Rep.size UInt64) v' xs0.length cs', .cells b1 (cs_TNumber y0) 217, .cells b0 [.bool false, .slice none 0 0] 123, .cells b5 (cs_A34 a0) 35]) hxs928 hS9 (fun _ _ => .hd) el121 rfl rfl hc1 (Src.arr (ds := [.int .u64 (y0.fSize.1.toNat : Int), .int .u64 (y0.fSize.2.1.toNat : Int), .int .u64 (y0.fSize.2.2.1.toNat : Int), .int .u64 (y0.fSize.2.2.2.1.toNat : Int), .int .u64 (y0.fSize.2.2.2.2.1.toNat : Int), .int .u64 (y0.fSize.2.2.2.2.2.1.toNat : Int), .int .u64 (y0.fSize.2.2.2.2.2.2.1.toNat : Int), .int .u64 (y0.fSize.2.2.2.2.2.2.2.toNat : Int)]) (ys := ([y0.fSize.1, y0.fSize.2.1, y0.fSize.2.2.1, y0.fSize.2.2.2.1, y0.fSize.2.2.2.2.1, y0.fSize.2.2.2.2.2.1, y0.fSize.2.2.2.2.2.2.1, y0.fSize.2.2.2.2.2.2.2] : List UInt64)) (n := 8) (mem_part (hS9.memA (.tl .hd)) 1 8) (Cells.cons (cs := [.int .u64 (y0.fSize.1.toNat : Int)]) (ds := [.int .u64 (y0.fSize.2.1.toNat : Int), .int .u64 (y0.fSize.2.2.1.toNat : Int), .int .u64 (y0.fSize.2.2.2.1.toNat : Int), .int .u64 (y0.fSize.2.2.2.2.1.toNat : Int), .int .u64 (y0.fSize.2.2.2.2.2.1.toNat : Int), .int .u64 (y0.fSize.2.2.2.2.2.2.1.toNat : Int), .int .u64 (y0.fSize.2.2.2.2.2.2.2.toNat : Int)]) rfl (Cells.cons (cs := [.int .u64 (y0.fSize.2.1.toNat : Int)]) (ds := [.int .u64 (y0.fSize.2.2.1.toNat : Int), .int .u64 (y0.fSize.2.2.2.1.toNat : Int), .int .u64 (y0.fSize.2.2.2.2.1.toNat : Int), .int .u64 (y0.fSize.2.2.2.2.2.1.toNat : Int), .int .u64 (y0.fSize.2.2.2.2.2.2.1.toNat : Int), .int .u64 (y0.fSize.2.2.2.2.2.2.2.toNat : Int)]) rfl (Cells.cons (cs := [.int .u64 (y0.fSize.2.2.1.toNat : Int)]) (ds := [.int .u64 (y0.fSize.2.2.2.1.toNat : Int), .int .u64 (y0.fSize.2.2.2.2.1.toNat : Int), .int .u64 (y0.fSize.2.2.2.2.2.1.toNat : Int), .int .u64 (y0.fSize.2.2.2.2.2.2.1.toNat : Int), .int .u64 (y0.fSize.2.2.2.2.2.2.2.toNat : Int)]) rfl (Cells.cons (cs := [.int .u64 (y0.fSize.2.2.2.1.toNat : Int)]) (ds := [.int .u64 (y0.fSize.2.2.2.2.1.toNat : Int), .int .u64 (y0.fSize.2.2.2.2.2.1.toNat : Int), .int .u64 (y0.fSize.2.2.2.2.2.2.1.toNat : Int), .int .u64 (y0.fSize.2.2.2.2.2.2.2.toNat : Int)]) rfl (Cells.cons (cs := [.int .u64 (y0.fSize.2.2.2.2.1.toNat : Int)]) (ds := [.int .u64 (y0.fSize.2.2.2.2.2.1.toNat : Int), .int .u64 (y0.fSize.2.2.2.2.2.2.1.toNat : Int), .int .u64 (y0.fSize.2.2.2.2.2.2.2.toNat : Int)]) rfl (Cells.cons (cs := [.int .u64 (y0.fSize.2.2.2.2.2.1.toNat : Int)]) (ds := [.int .u64 (y0.fSize.2.2.2.2.2.2.1.toNat : Int), .int .u64 (y0.fSize.2.2.2.2.2.2.2.toNat : Int)]) rfl (Cells.cons (cs := [.int .u64 (y0.fSize.2.2.2.2.2.2.1.toNat : Int)]) (ds := [.int .u64 (y0.fSize.2.2.2.2.2.2.2.toNat : Int)]) rfl (Cells.cons (cs := [.int .u64 (y0.fSize.2.2.2.2.2.2.2.toNat : Int)]) (ds := []) rfl (Cells.nil _ _))))))))) rfl)) (fun v2 w6 ⟨cs2, hS10, hT8, hc2⟩ => ?_)
     refine RD.vx 1 63 192 kt0 rfl kp0 (FV.load1 (by kernel_rfl) rfl ((hS10.memA (.tl .hd)) 0 _ rfl)) rfl ?_
     obtain ⟨hS13, hT12⟩ := St.arrB hS10 (.one .hd (.one (.tl .hd) .done))
     have hm3 := Cells.mv hc2 hT12
     exact hJ1558 (v2, cs2) _ _ ⟨rfl, rfl, rfl, trivial⟩ ⟨hS13, (Tr.trans hT7 (Tr.trans hT8 hT12)), hm3⟩
def tb130_1 : List (Nat × Nat × Nat) := [(0, 8, 2), (1, 16, 8), (2, 32, 16), (0, 64, 2), (8, 128, 64), (20, 256, 128), (36, 512, 288), (127, 0, 516)]
theorem body165 : bodyB Tryz.prog 165 = true := by kernel_rfl
def share_Read_p (n : Nat) (a0 : TShare) : Option TRatio :=
  (wide_Longer_p n a0.fN).bind fun y0 => (wide_Longer_p n a0.fD).bind fun y1 => some (⟨y0, y1⟩ : TRatio)
theorem share_Read_c (n : Nat) (L : List Nat) (w : World) (hL : ∀ b ∈ L, b < w.heap.size) (a0 : TShare)  {r : TRatio} (h : share_Read_p n a0 = some r) :
    Calls Tryz.prog 130 #[.agg ((cs_TShare a0)).toArray] w (Gives w fun w' u => ∃ v0_1 v0_3 : Value, u = .agg #[.bool r.fLong.fBelow, v0_1, .bool r.fUnder.fBelow, v0_3] ∧ Rep.R w' L [v0_1] r.fLong.fWords ∧ Rep.R w' L [v0_3] r.fUnder.fWords) := by
  unfold share_Read_p at h
  have hS0 := St.start w
  refine MX.start Tryz.func130 rfl rfl rfl (fun _ cs0 hb0 => ?_)
  refine MX.sr <| RG.new .plain rfl (Does.box (vs := (cs_TShare a0)) hS0 rfl rfl) (fun w2 b5 hS3 hT4 => ?_)
  refine RG.new .plain rfl (Does.alloc (zs := [.bool false, .slice none 0 0, .bool false, .slice none 0 0]) hS3 (zB (by kernel_rfl))) (fun w7 b0 hS8 hT9 => ?_)
  refine RG.nil <| MX.seq <| MX.drawT 7 tb130_1 (by kernel_rfl) (by kernel_rfl) (by kernel_rfl) (fun kt0 kp0 => ?_)
  refine RD.vw 0 1 kt0 rfl kp0 (fun _ => FV.fieldAddr (off := 0) (by kernel_rfl) rfl) rfl <| RD.vx 1 3 228 kt0 rfl kp0 (FV.loadN (cs := (cs_A34 a0.fN)) (by kernel_rfl) rfl (mem_part (hS8.memA (.tl .hd)) 0 8)) rfl <| RD.vw 3 11 kt0 rfl kp0 (fun _ => FV.fieldAddr (off := 8) (by kernel_rfl) rfl) rfl <| RD.vx 4 27 224 kt0 rfl kp0 (FV.loadN (cs := (cs_A34 a0.fD)) (by kernel_rfl) rfl (mem_part (hS8.memA (.tl .hd)) 8 8)) rfl ?_
  obtain ⟨y0, hy0, h⟩ := bind_in h
  refine RD.cl 2 31 kt0 rfl .plain body165 rfl (evs_cons rfl evs_nil) (fun w9 hw9 => wide_Longer_c n _ w9 (hS8.hL hL hw9) a0.fN hy0) rfl (fun w0 vu0 hag0 ⟨v0, hu_, hr0⟩ => ?_)
  subst hu_
  obtain ⟨hS1, hT0⟩ := hS8.agr hag0
  obtain ⟨y1, hy1, h⟩ := bind_in h
  refine RD.cl 5 63 kt0 rfl .plain body165 rfl (evs_cons rfl evs_nil) (fun w9 hw9 => wide_Longer_c n _ w9 (hS1.hL hL hw9) a0.fD hy1) rfl (fun w1 vu1 hag1 ⟨v1, hu_, hr1⟩ => ?_)
  subst hu_
  obtain ⟨hS2, hT1⟩ := hS1.agr hag1
  have hm0 := Rep.mv hr0 hT1
  obtain ⟨A29, c0, hv31, _⟩ := Rep.sl hm0
  obtain ⟨A33, c1, hv35, _⟩ := Rep.sl hr1
  refine RD.vw 6 127 kt0 rfl kp0 (fun _ => FV.buildV (vs := [.agg #[.bool y0.fBelow, v0], .agg #[.bool y1.fBelow, v1]]) (u := .agg #[.bool y0.fBelow, v0, .bool y1.fBelow, v1]) (evs_cons rfl (evs_cons rfl evs_nil)) (fun w9 => by rw [hv31, hv35]; try kernel_rfl)) rfl <| RD.nw 7 255 kt0 rfl rfl .plain (Acts.storeAll (news := [.bool y0.fBelow, v0, .bool y1.fBelow, v1]) hS2 .hd rfl rfl rfl rfl rfl rfl (ones_cons rfl (ones_cons (Rep.o1 hm0) (ones_cons rfl (ones_cons (Rep.o1 hr1) ones_nil))))) (fun w3 hS4 hT2 => ?_)
  refine RD.done (doneD_ok kt0 (by kernel_rfl)) <| MX.ret rfl <| RT.leave hb0 Tryz.func130 rfl (.cons (.many (cs := [.bool y0.fBelow, v0, .bool y1.fBelow, v1]) (by kernel_rfl) rfl (hS4.memA .hd)) .nil) rfl ?_
  obtain rfl := Option.some.inj h
  have hm1 := Rep.mv hr0 (Tr.trans hT1 hT2)
  have hm2 := Rep.mv hr1 hT2
  exact ⟨hS4.ag, fun w9 hw9 => ⟨v0, v1, rfl, Rep.keep0 (Rep.dropS hS4 hm1) hw9, Rep.keep0 (Rep.dropS hS4 hm2) hw9⟩⟩
def wide_Long_Side_p (_n : Nat) (a0 : TLong) : Option Int :=
  (if a0.fBelow = true then some (-1 : Int) else (if a0.fWords.length = 0 then some (0 : Int) else some (1 : Int)))
theorem wide_Long_Side_c (n : Nat) (L : List Nat) (w : World) (_hL : ∀ b ∈ L, b < w.heap.size) (a0 : TLong) {v0_1 : Value} (h0_1 : Rep.R w L [v0_1] a0.fWords)  {r : Int} (h : wide_Long_Side_p n a0 = some r) :
    Calls Tryz.prog 144 #[.agg #[.bool a0.fBelow, v0_1]] w (Gives w fun _ u => u = .int .i64 r) := by
  unfold wide_Long_Side_p at h
  have hS0 := St.start w
  refine MX.start Tryz.func144 rfl rfl rfl (fun _ cs0 hb0 => ?_)
  refine MX.sr <| RG.new .plain rfl (Does.box (vs := [.bool a0.fBelow, v0_1]) hS0 rfl rfl) (fun w2 b5 hS3 hT4 => ?_)
  refine RG.sg rfl rfl <| RG.nil <| MX.seq <| MX.block <| MX.sr <| RG.vv (FV.fieldAddr (off := 0) (by kernel_rfl) rfl) rfl ?_
  refine RG.vv (FV.load1 (by kernel_rfl) rfl ((hS3.memA .hd) 0 _ rfl)) rfl <| RG.sg rfl rfl <| RG.nil <| MX.ifb rfl h (fun c6 h => ?_) (fun c6 h => ?_)
  ·skip
   refine MX.sr <| RG.sg rfl rfl <| RG.nil <| MX.ret rfl <| RT.leave hb0 Tryz.func144 rfl (.cons (.tmp rfl) .nil) rfl ?_
   obtain rfl := Option.some.inj h
   exact ⟨hS3.ag, fun w9 hw9 => rfl⟩
  refine MX.sr <| RG.vv (FV.fieldAddr (off := 1) (by kernel_rfl) rfl) rfl <| RG.vv (FV.load1 (by kernel_rfl) rfl ((hS3.memA .hd) 1 _ rfl)) rfl ?_
  have hm8 := Rep.mv h0_1 hT4
  have hl7 : a0.fWords.length ≤ 281474976710656 := Rep.lenle hm8
  refine RG.vv (FV.len (xs := a0.fWords) Tryz.underlying121 rfl hm8) rfl <| RG.vv (FV.eqlN (i := a0.fWords.length) (j := 0) rfl rfl) rfl <| RG.sg rfl rfl <| RG.nil <| MX.ifd rfl h (fun c9 h => ?_) (fun c9 h => ?_)
  ·skip
   refine MX.sr <| RG.sg rfl rfl <| RG.nil <| MX.ret rfl <| RT.leave hb0 Tryz.func144 rfl (.cons (.tmp rfl) .nil) rfl ?_
   obtain rfl := Option.some.inj h
   exact ⟨hS3.ag, fun w9 hw9 => rfl⟩
  refine MX.skip <| MX.inBlock <| MX.sr <| RG.sg rfl rfl <| RG.nil <| MX.ret rfl ?_
  refine RT.leave hb0 Tryz.func144 rfl (.cons (.tmp rfl) .nil) rfl ?_
  obtain rfl := Option.some.inj h
  exact ⟨hS3.ag, fun w9 hw9 => rfl⟩
def tb172_6 : List (Nat × Nat × Nat) := [(0, 16777216, 1), (0, 33554432, 32), (3, 67108864, 50331648), (4, 134217728, 67108864), (0, 268435456, 2), (0, 536870912, 32), (48, 1073741824, 805306368), (64, 2147483648, 1073741824), (136, 4294967296, 2281701376), (256, 8388608, 4294967296)]
def tb172_8 : List (Nat × Nat × Nat) := [(0, 17179869184, 1), (0, 34359738368, 32), (3, 68719476736, 51539607552), (4, 137438953472, 68719476736), (0, 274877906944, 2), (0, 549755813888, 32), (48, 1099511627776, 824633720832), (64, 2199023255552, 1099511627776), (136, 4398046511104, 2336462209024), (256, 8589934592, 4398046511104)]
def wide_compared_l1 (_n : Nat) (a0 : List UInt64) (a1 : List UInt64) (J0 : Int → Option (Int ⊕ Unit)) : Int → Option (Int ⊕ Unit)
  | z0 => (if 0 ≤ z0 then (idx a0 z0).bind fun x0 => (idx a1 z0).bind fun x1 => (if x0 < x1 then some (.inl (-1 : Int)) else (if x1 < x0 then some (.inl (1 : Int)) else (chk (z0 - 1)).bind fun s0 => J0 s0)) else some (.inr ()))
def wide_compared_p (n : Nat) (a0 : List UInt64) (a1 : List UInt64) : Option Int :=
  (if a0.length = a1.length then thn (loopF (wide_compared_l1 n a0 a1) n (((a0.length : Nat) : Int) - 1)) (fun _ => some (0 : Int)) else some (((a0.length : Nat) : Int) - ((a1.length : Nat) : Int)))
theorem wide_compared_c (n : Nat) (L : List Nat) (w : World) (_hL : ∀ b ∈ L, b < w.heap.size) (a0 : List UInt64) {v0_0 : Value} (h0_0 : Rep.R w L [v0_0] a0) (a1 : List UInt64) {v1_0 : Value} (h1_0 : Rep.R w L [v1_0] a1)  {r : Int} (h : wide_compared_p n a0 a1 = some r) :
    Calls Tryz.prog 172 #[v0_0, v1_0] w (Gives w fun _ u => u = .int .i64 r) := by
  unfold wide_compared_p at h
  have hS0 := St.start w
  refine MX.start Tryz.func172 rfl rfl rfl (fun _ cs0 hb0 => ?_)
  refine MX.sr <| RG.sg rfl rfl <| RG.nil <| MX.seq <| MX.sr <| RG.mv rfl rfl ?_
  have hl1 : a0.length ≤ 281474976710656 := Rep.lenle h0_0
  refine RG.vv (FV.len (xs := a0) Tryz.underlying121 rfl h0_0) rfl <| RG.mv rfl rfl ?_
  have hl2 : a1.length ≤ 281474976710656 := Rep.lenle h1_0
  refine RG.vv (FV.len (xs := a1) Tryz.underlying121 rfl h1_0) rfl <| RG.vv (FV.neqN (i := a0.length) (j := a1.length) rfl rfl) rfl <| RG.nil <| MX.ifn rfl h (fun c3 h => ?_) (fun c3 h => ?_)
  ·skip
   refine MX.skip <| MX.seq <| MX.sr <| RG.mv rfl rfl <| RG.vv (FV.len (xs := a0) Tryz.underlying121 rfl h0_0) rfl <| RG.vv (FV.subI (i := ((a0.length : Nat) : Int)) (j := 1) rfl rfl (by omega)) rfl ?_
   refine RG.sg rfl rfl <| RG.nil <| MX.block ?_
   obtain ⟨o0, ho45, hh47⟩ := thn_in h
   refine MX.loop (α := Int) (fun z0 => [(0, v0_0), (1, v1_0), (5, .int .i64 z0)]) (fun z0 wx0 => St w wx0 [] ∧ Tr w [] wx0 []) (fun z0 => z0) (((a0.length : Nat) : Int) - 1) ho45 ⟨rfl, rfl, rfl, trivial⟩ ⟨hS0, Tr.refl _ _⟩ ?_
   rintro J0 z0 wx0 hJ49 ⟨hS1, hT0⟩ h
   unfold wide_compared_l1 at h
   try dsimp only at h
   refine MX.seq <| MX.sr <| RG.mv rfl rfl <| RG.vv (FV.geq (i := z0) (j := 0) rfl rfl) rfl <| RG.nil <| MX.ifd rfl h (fun c0 h => ?_) (fun c0 h => ?_)
   ·skip
    refine MX.skip <| MX.seq <| MX.block <| MX.block <| MX.seq <| MX.drawT 10 tb172_6 (by kernel_rfl) (by kernel_rfl) (by kernel_rfl) (fun kt0 kp0 => ?_)
    refine RD.vw 0 1 kt0 rfl kp0 (fun _ => FV.move rfl) rfl <| RD.vw 1 3 kt0 rfl kp0 (fun _ => FV.move rfl) rfl ?_
    obtain ⟨x0, hx0, h⟩ := bind_in h
    obtain ⟨hi0, hx1⟩ := idx_in hx0
    have hm0 := Rep.mv h0_0 hT0
    obtain ⟨A56, c1, he0, hk0, cs1, hr0, hm1⟩ := Rep.nth hm0 hx1
    have he1 : cs1 = [.int .u64 (x0.toNat : Int)] := hr0; subst he1
    refine RD.vw 2 7 kt0 rfl kp0 (fun _ => FV.idxAddr (m := 1) (i := z0.toNat) (by kernel_rfl) rfl he0 rfl hi0 hk0) rfl <| RD.vx 3 15 768 kt0 rfl kp0 (FV.load1 (by kernel_rfl) rfl (hm1 0 _ rfl)) rfl <| RD.vw 4 31 kt0 rfl kp0 (fun _ => FV.move rfl) rfl <| RD.vw 5 63 kt0 rfl kp0 (fun _ => FV.move rfl) rfl ?_
    obtain ⟨x1, hx2, h⟩ := bind_in h
    obtain ⟨hi1, hx3⟩ := idx_in hx2
    have hm2 := Rep.mv h1_0 hT0
    obtain ⟨A68, c2, he2, hk1, cs2, hr1, hm3⟩ := Rep.nth hm2 hx3
    have he3 : cs2 = [.int .u64 (x1.toNat : Int)] := hr1; subst he3
    refine RD.vw 6 127 kt0 rfl kp0 (fun _ => FV.idxAddr (m := 1) (i := z0.toNat) (by kernel_rfl) rfl he2 rfl hi1 hk1) rfl <| RD.vx 7 255 768 kt0 rfl kp0 (FV.load1 (by kernel_rfl) rfl (hm3 0 _ rfl)) rfl <| RD.vw 8 511 kt0 rfl kp0 (fun _ => FV.lssU (a := x0) (b := x1) rfl rfl) rfl <| RD.vw 9 1023 kt0 rfl kp0 (fun _ => FV.assign rfl) rfl <| RD.done (doneD_ok kt0 (by kernel_rfl)) <| MX.ifd rfl h (fun c4 h => ?_) (fun c4 h => ?_)
    ·skip
     refine MX.sr <| RG.sg rfl rfl <| RG.nil ?_
     have h := thn_inl h hh47
     refine MX.ret rfl <| RT.leave hb0 Tryz.func172 rfl (.cons (.tmp rfl) .nil) rfl ?_
     obtain rfl := Option.some.inj h
     exact ⟨hS1.ag, fun w9 hw9 => rfl⟩
    refine MX.seq <| MX.drawT 10 tb172_8 (by kernel_rfl) (by kernel_rfl) (by kernel_rfl) (fun kt1 kp1 => ?_)
    refine RD.vw 0 1 kt1 rfl kp1 (fun _ => FV.move rfl) rfl <| RD.vw 1 3 kt1 rfl kp1 (fun _ => FV.move rfl) rfl <| RD.vw 2 7 kt1 rfl kp1 (fun _ => FV.idxAddr (m := 1) (i := z0.toNat) (by kernel_rfl) rfl he0 rfl hi0 hk0) rfl <| RD.vx 3 15 768 kt1 rfl kp1 (FV.load1 (by kernel_rfl) rfl (hm1 0 _ rfl)) rfl <| RD.vw 4 31 kt1 rfl kp1 (fun _ => FV.move rfl) rfl <| RD.vw 5 63 kt1 rfl kp1 (fun _ => FV.move rfl) rfl ?_
    refine RD.vw 6 127 kt1 rfl kp1 (fun _ => FV.idxAddr (m := 1) (i := z0.toNat) (by kernel_rfl) rfl he2 rfl hi1 hk1) rfl <| RD.vx 7 255 768 kt1 rfl kp1 (FV.load1 (by kernel_rfl) rfl (hm3 0 _ rfl)) rfl <| RD.vw 8 511 kt1 rfl kp1 (fun _ => FV.gtrU (a := x0) (b := x1) rfl rfl) rfl <| RD.vw 9 1023 kt1 rfl kp1 (fun _ => FV.assign rfl) rfl <| RD.done (doneD_ok kt1 (by kernel_rfl)) <| MX.ifd rfl h (fun c5 h => ?_) (fun c5 h => ?_)
    ·skip
     refine MX.sr <| RG.sg rfl rfl <| RG.nil ?_
     have h := thn_inl h hh47
     refine MX.ret rfl <| RT.leave hb0 Tryz.func172 rfl (.cons (.tmp rfl) .nil) rfl ?_
     obtain rfl := Option.some.inj h
     exact ⟨hS1.ag, fun w9 hw9 => rfl⟩
    refine MX.skip <| MX.inBlock <| MX.inBlock <| MX.region <| RG.mv rfl rfl ?_
    obtain ⟨s0, hs0, h⟩ := bind_in h
    refine RG.vv (FV.subc (i := z0) (j := 1) rfl rfl hs0) rfl <| RG.sg rfl rfl <| RG.nil ?_
    exact hJ49 s0 _ _ ⟨rfl, rfl, rfl, trivial⟩ ⟨hS1, hT0⟩ h
   refine MX.exit rfl ?_
   have h := thn_inr h hh47
   try dsimp only at h
   refine MX.sr <| RG.sg rfl rfl <| RG.nil <| MX.ret rfl <| RT.leave hb0 Tryz.func172 rfl (.cons (.tmp rfl) .nil) rfl ?_
   obtain rfl := Option.some.inj h
   exact ⟨hS1.ag, fun w9 hw9 => rfl⟩
  refine MX.sr <| RG.mv rfl rfl <| RG.vv (FV.len (xs := a0) Tryz.underlying121 rfl h0_0) rfl <| RG.mv rfl rfl <| RG.vv (FV.len (xs := a1) Tryz.underlying121 rfl h1_0) rfl <| RG.vv (FV.subI (i := ((a0.length : Nat) : Int)) (j := ((a1.length : Nat) : Int)) rfl rfl (by omega)) rfl ?_
  refine RG.sg rfl rfl <| RG.nil <| MX.ret rfl <| RT.leave hb0 Tryz.func172 rfl (.cons (.tmp rfl) .nil) rfl ?_
  obtain rfl := Option.some.inj h
  exact ⟨hS0.ag, fun w9 hw9 => rfl⟩
def wide_taken_l1 (_n : Nat) (a0 : List UInt64) (a1 : List UInt64) (J0 : UInt64 × Nat × (List UInt64) → Option (List UInt64)) : UInt64 × Nat × (List UInt64) → Option (List UInt64)
  | (u0, i0, xs0) => (if i0 < a0.length then (a0[i0]?).bind fun x0 => jn (fun u1 => (sub64 x0 u1 u0).bind fun z0 => (xs0[i0]?).bind fun x1 => (put xs0 ((i0 : Nat) : Int) z0.1).bind fun xs1 => J0 (z0.2, i0 + 1, xs1)) (fun J1 => (if i0 < a1.length then (a1[i0]?).bind fun x2 => J1 x2 else J1 (0 : UInt64))) else some xs0)
def wide_taken_p (n : Nat) (a0 : List UInt64) (a1 : List UInt64) : Option (List UInt64) :=
  (mk ((a0.length : Nat) : Int) (0 : UInt64)).bind fun xs3 => Option.bind (loopF (wide_taken_l1 n a0 a1) n ((0 : UInt64), 0, xs3)) (fun xs0 => some xs0)
theorem wide_taken_c (n : Nat) (L : List Nat) (w : World) (hL : ∀ b ∈ L, b < w.heap.size) (a0 : List UInt64) {v0_0 : Value} (h0_0 : Rep.R w L [v0_0] a0) (a1 : List UInt64) {v1_0 : Value} (h1_0 : Rep.R w L [v1_0] a1)  {r : List UInt64} (h : wide_taken_p n a0 a1 = some r) :
    Calls Tryz.prog 173 #[v0_0, v1_0] w (Gives w fun w' u => ∃ v0_0 : Value, u = v0_0 ∧ Rep.R w' L [v0_0] r) := by
  unfold wide_taken_p at h
  have hS0 := St.start w
  refine MX.start Tryz.func173 rfl rfl rfl (fun _ cs0 hb0 => ?_)
  refine MX.sr <| RG.sg rfl rfl <| RG.nil <| MX.sr <| RG.mv rfl rfl ?_
  have hl1 : a0.length ≤ 281474976710656 := Rep.lenle h0_0
  refine RG.vv (FV.len (xs := a0) Tryz.underlying121 rfl h0_0) rfl ?_
  obtain ⟨xs3, hxs3, h⟩ := bind_in h
  refine RG.new .plain rfl (Does.mk (α := UInt64) hxs3 hS0 el121 rfl) (fun w4 b7 hS5 hT6 => ?_)
  have hc8 := Cells.at_ (cs := (List.replicate ((a0.length : Nat) : Int).toNat [.int .u64 0]).flatten) (xs := xs3) hS5 L (Cells.mk hxs3 rfl)
  refine RG.sg rfl rfl <| RG.nil <| MX.sr <| RG.sg rfl rfl <| RG.nil <| MX.seq ?_
  refine MX.sr <| RG.mv rfl rfl ?_
  have hm9 := Rep.mv h0_0 hT6
  refine RG.vv (FV.len (xs := a0) Tryz.underlying121 rfl hm9) rfl <| RG.mv rfl rfl <| RG.nil <| MX.block ?_
  obtain ⟨o0, ho150, hh152⟩ := bind_in2 h
  refine MX.loop (α := UInt64 × Nat × (List UInt64) × (List Value)) (fun ⟨u0, i0, xs0, cs1⟩ => [(1, v1_0), (5, (.slice (some ⟨b7, 0, none⟩) ((a0.length : Nat) : Int).toNat ((a0.length : Nat) : Int).toNat)), (6, .int .u64 (u0.toNat : Int)), (13, v0_0), (14, .int .i64 ((a0.length : Nat) : Int)), (15, .int .i64 ((i0 : Nat) : Int))]) (fun ⟨u0, i0, xs0, cs1⟩ wx0 => St w wx0 [.row w.heap.size 33 (Rep.size UInt64) (.slice (some ⟨b7, 0, none⟩) ((a0.length : Nat) : Int).toNat ((a0.length : Nat) : Int).toNat) xs0.length cs1] ∧ Tr w4 [.row w.heap.size 33 (Rep.size UInt64) (.slice (some ⟨b7, 0, none⟩) ((a0.length : Nat) : Int).toNat ((a0.length : Nat) : Int).toNat) xs3.length ((List.replicate ((a0.length : Nat) : Int).toNat [.int .u64 0]).flatten)] wx0 [.row w.heap.size 33 (Rep.size UInt64) (.slice (some ⟨b7, 0, none⟩) ((a0.length : Nat) : Int).toNat ((a0.length : Nat) : Int).toNat) xs0.length cs1] ∧ Cells wx0 (bl [.row w.heap.size 33 (Rep.size UInt64) (.slice (some ⟨b7, 0, none⟩) ((a0.length : Nat) : Int).toNat ((a0.length : Nat) : Int).toNat) xs0.length cs1] ++ L) cs1 xs0) (fun ⟨u0, i0, xs0, cs1⟩ => (u0, i0, xs0)) ((0 : UInt64), 0, xs3, (List.replicate ((a0.length : Nat) : Int).toNat [.int .u64 0]).flatten) ho150 ⟨rfl, rfl, rfl, rfl, rfl, rfl, trivial⟩ ⟨hS5, Tr.refl _ _, hc8⟩ ?_
  rintro J0 ⟨u0, i0, xs0, cs1⟩ wx0 hJ154 ⟨hS1, hT0, hc0⟩ h
  unfold wide_taken_l1 at h
  try dsimp only at h
  refine MX.sr <| RG.vv (FV.lssN (i := i0) (j := a0.length) rfl rfl) rfl <| RG.nil <| MX.seq <| MX.ifd rfl h (fun c0 h => ?_) (fun c0 h => ?_)
  ·skip
   refine MX.skip <| MX.seq <| MX.block <| MX.sr <| RG.mv rfl rfl ?_
   obtain ⟨x0, hx0, h⟩ := bind_in h
   have hm0 := Rep.mv h0_0 (Tr.trans hT6 hT0)
   obtain ⟨A157, c1, he0, hk0, cs2, hr0, hm1⟩ := Rep.nth hm0 hx0
   have he1 : cs2 = [.int .u64 (x0.toNat : Int)] := hr0; subst he1
   refine RG.vv (FV.idxAddr (m := 1) (i := i0) (by kernel_rfl) rfl he0 rfl rfl hk0) rfl <| RG.vv (FV.load1 (by kernel_rfl) rfl (hm1 0 _ rfl)) rfl <| RG.sg rfl rfl <| RG.sg rfl rfl <| RG.nil <| MX.sr ?_
   refine RG.sg rfl rfl <| RG.nil <| MX.seq <| MX.sr <| RG.mv rfl rfl <| RG.mv rfl rfl ?_
   have hm2 := Rep.mv h1_0 (Tr.trans hT6 hT0)
   have hl166 : a1.length ≤ 281474976710656 := Rep.lenle hm2
   refine RG.vv (FV.len (xs := a1) Tryz.underlying121 rfl hm2) rfl <| RG.vv (FV.lssN (i := i0) (j := a1.length) rfl rfl) rfl <| RG.nil <| MX.join (α := UInt64) (fun u1 => [(1, v1_0), (5, (.slice (some ⟨b7, 0, none⟩) ((a0.length : Nat) : Int).toNat ((a0.length : Nat) : Int).toNat)), (6, .int .u64 (u0.toNat : Int)), (13, v0_0), (14, .int .i64 ((a0.length : Nat) : Int)), (15, .int .i64 ((i0 : Nat) : Int)), (7, .int .i64 ((i0 : Nat) : Int)), (8, .int .u64 (x0.toNat : Int)), (9, .int .u64 (u1.toNat : Int))]) (fun u1 wx1 => St w wx1 [.row w.heap.size 33 (Rep.size UInt64) (.slice (some ⟨b7, 0, none⟩) ((a0.length : Nat) : Int).toNat ((a0.length : Nat) : Int).toNat) xs0.length cs1] ∧ Tr wx0 [.row w.heap.size 33 (Rep.size UInt64) (.slice (some ⟨b7, 0, none⟩) ((a0.length : Nat) : Int).toNat ((a0.length : Nat) : Int).toNat) xs0.length cs1] wx1 [.row w.heap.size 33 (Rep.size UInt64) (.slice (some ⟨b7, 0, none⟩) ((a0.length : Nat) : Int).toNat ((a0.length : Nat) : Int).toNat) xs0.length cs1]) (fun u1 => u1) h ?_ ?_
   ·skip
    rintro u1 wx1 ⟨hS2, hT1⟩ h
    try dsimp only at h
    refine MX.region <| RG.mv rfl rfl <| RG.mv rfl rfl <| RG.mv rfl rfl <| RG.mv rfl rfl <| RG.mv rfl rfl ?_
    obtain ⟨z0, hz184, h⟩ := bind_in h
    refine RG.vv (FV.sub64 (a := x0) (b := u1) (c := u0) Tryz.func197 rfl (by kernel_rfl) (by kernel_rfl) (by kernel_rfl) rfl rfl rfl hz184) rfl <| RG.mv rfl rfl <| RG.vv (FV.extract rfl rfl) rfl <| RG.vv (FV.extract rfl rfl) rfl ?_
    obtain ⟨x1, hx1, h⟩ := bind_in h
    have hm3 := Cells.mv hc0 hT1
    obtain ⟨A186, c2, he2, hk1, cs3, hr1, hm4⟩ := St.nth (α := UInt64) hS2 .hd hm3 hx1
    obtain ⟨b0, c3, he3⟩ := St.nthOwn (α := UInt64) hS2 .hd hk1
    obtain rfl : A186 = ⟨b0, 0, none⟩ := by rw [he3] at he2; cases he2; rfl
    have he4 : cs3 = [.int .u64 (x1.toNat : Int)] := hr1; subst he4
    refine RG.vv (FV.idxAddr (m := 1) (i := i0) (by kernel_rfl) rfl he2 rfl rfl hk1) rfl ?_
    obtain ⟨xs1, hxs198, h⟩ := bind_in h
    refine RG.acts' .plain (Acts.set (α := UInt64) (i := i0) (F := fun cs' => [.row w.heap.size 33 (Rep.size UInt64) (.slice (some ⟨b7, 0, none⟩) ((a0.length : Nat) : Int).toNat ((a0.length : Nat) : Int).toNat) xs1.length cs']) hxs198 hS2 he3 (fun _ => .hd) hm3 rfl rfl rfl rfl rfl (by kernel_rfl)) (fun w0 ⟨cs4, hS3, hT2, hc1⟩ => ?_)
    refine RG.sg rfl rfl <| RG.nil <| MX.inBlock <| MX.region <| RG.vv (FV.addN (i := i0) (j := 1) rfl rfl (by omega)) rfl <| RG.mv rfl rfl ?_
    refine RG.nil ?_
    exact hJ154 (z0.2, i0 + 1, xs1, cs4) _ _ ⟨rfl, rfl, rfl, rfl, rfl, rfl, trivial⟩ ⟨hS3, (Tr.trans hT0 (Tr.trans hT1 hT2)), hc1⟩ h
   ·skip
    intro J1 hJ183 h
    try dsimp only at h
    refine MX.ifd rfl h (fun c4 h => ?_) (fun c4 h => ?_)
    ·skip
     refine MX.region <| RG.mv rfl rfl <| RG.mv rfl rfl ?_
     obtain ⟨x2, hx2, h⟩ := bind_in h
     obtain ⟨A206, c5, he5, hk2, cs5, hr2, hm5⟩ := Rep.nth hm2 hx2
     have he6 : cs5 = [.int .u64 (x2.toNat : Int)] := hr2; subst he6
     refine RG.vv (FV.idxAddr (m := 1) (i := i0) (by kernel_rfl) rfl he5 rfl rfl hk2) rfl <| RG.vv (FV.load1 (by kernel_rfl) rfl (hm5 0 _ rfl)) rfl <| RG.sg rfl rfl <| RG.nil ?_
     exact hJ183 x2 _ _ ⟨rfl, rfl, rfl, rfl, rfl, rfl, rfl, rfl, rfl, trivial⟩ ⟨hS1, Tr.refl _ _⟩ h
    refine MX.skip ?_
    exact hJ183 (0 : UInt64) _ _ ⟨rfl, rfl, rfl, rfl, rfl, rfl, rfl, rfl, rfl, trivial⟩ ⟨hS1, Tr.refl _ _⟩ h
  refine MX.exit rfl ?_
  have h := hh152 _ h
  try dsimp only at h
  refine MX.sr <| RG.mv rfl rfl <| RG.sg rfl rfl <| RG.nil <| MX.ret rfl ?_
  have hr3 := St.freeze (α := UInt64) hS1 .hd hc0 hL
  have hS4 := St.delS hS1 .hd
  have hT3 := St.delT hS1 .hd
  have hr4 := Rep.at_ (α := UInt64) (v := (.slice (some ⟨b7, 0, none⟩) ((a0.length : Nat) : Int).toNat ((a0.length : Nat) : Int).toNat)) (xs := xs0) hS4 L hr3
  refine RT.leave hb0 Tryz.func173 rfl (.cons (.tmp rfl) .nil) rfl ?_
  obtain rfl := Option.some.inj h
  exact ⟨hS4.ag, fun w9 hw9 => ⟨(.slice (some ⟨b7, 0, none⟩) ((a0.length : Nat) : Int).toNat ((a0.length : Nat) : Int).toNat), rfl, Rep.keep0 (Rep.dropS hS4 hr4) hw9⟩⟩
def stab0 : List UInt8 := [0, 1, 2, 2, 3, 3, 3, 3, 4, 4, 4, 4, 4, 4, 4, 4, 5, 5, 5, 5, 5, 5, 5, 5, 5, 5, 5, 5, 5, 5, 5, 5, 6, 6, 6, 6, 6, 6, 6, 6, 6, 6, 6, 6, 6, 6, 6, 6, 6, 6, 6, 6, 6, 6, 6, 6, 6, 6, 6, 6, 6, 6, 6, 6, 7, 7, 7, 7, 7, 7, 7, 7, 7, 7, 7, 7, 7, 7, 7, 7, 7, 7, 7, 7, 7, 7, 7, 7, 7, 7, 7, 7, 7, 7, 7, 7, 7, 7, 7, 7, 7, 7, 7, 7, 7, 7, 7, 7, 7, 7, 7, 7, 7, 7, 7, 7, 7, 7, 7, 7, 7, 7, 7, 7, 7, 7, 7, 7, 8, 8, 8, 8, 8, 8, 8, 8, 8, 8, 8, 8, 8, 8, 8, 8, 8, 8, 8, 8, 8, 8, 8, 8, 8, 8, 8, 8, 8, 8, 8, 8, 8, 8, 8, 8, 8, 8, 8, 8, 8, 8, 8, 8, 8, 8, 8, 8, 8, 8, 8, 8, 8, 8, 8, 8, 8, 8, 8, 8, 8, 8, 8, 8, 8, 8, 8, 8, 8, 8, 8, 8, 8, 8, 8, 8, 8, 8, 8, 8, 8, 8, 8, 8, 8, 8, 8, 8, 8, 8, 8, 8, 8, 8, 8, 8, 8, 8, 8, 8, 8, 8, 8, 8, 8, 8, 8, 8, 8, 8, 8, 8, 8, 8, 8, 8, 8, 8, 8, 8, 8, 8, 8, 8, 8, 8, 8, 8]
def math_bits_Len64_p (_n : Nat) (a0 : UInt64) : Option Int :=
  jn (fun (u2, i3) => jn (fun (u0, z0) => jn (fun (u1, z1) => (stab0[(u8of u1).toNat]?).bind fun z2 => (chk (z1 + ((z2.toNat : Nat) : Int))).bind fun s0 => some s0) (fun J0 => (if (256 : UInt64) ≤ u0 then (chk (z0 + 8)).bind fun s1 => J0 (shrU u0 8, s1) else J0 (u0, z0)))) (fun J1 => (if (65536 : UInt64) ≤ u2 then (chk (((i3 : Nat) : Int) + 16)).bind fun s2 => J1 (shrU u2 16, s2) else J1 (u2, ((i3 : Nat) : Int))))) (fun J7 => (if (4294967296 : UInt64) ≤ a0 then J7 (shrU a0 32, 32) else J7 (a0, 0)))
theorem math_bits_Len64_c (n : Nat) (L : List Nat) (w : World) (_hL : ∀ b ∈ L, b < w.heap.size) (a0 : UInt64)  {r : Int} (h : math_bits_Len64_p n a0 = some r) :
    Calls Tryz.prog 226 #[.int .u64 (a0.toNat : Int)] w (Gives w fun _ u => u = .int .i64 r) := by
  unfold math_bits_Len64_p at h
  have hS0 := St.start w
  refine MX.start Tryz.func226 rfl rfl rfl (fun _ cs0 hb0 => ?_)
  refine MX.sr <| RG.sg rfl rfl <| RG.nil <| MX.seq <| MX.sr <| RG.mv rfl rfl ?_
  refine RG.vv (FV.geqU (a := a0) (b := (4294967296 : UInt64)) rfl rfl) rfl <| RG.nil <| MX.join (α := UInt64 × Nat) (fun ⟨u2, i3⟩ => [(0, .int .u64 (u2.toNat : Int)), (2, .int .i64 ((i3 : Nat) : Int))]) (fun ⟨u2, i3⟩ wx3 => St w wx3 [] ∧ Tr w [] wx3 []) (fun ⟨u2, i3⟩ => (u2, i3)) h ?_ ?_
  ·skip
   rintro ⟨u2, i3⟩ wx3 ⟨hS4, hT5⟩ h
   try dsimp only at h
   refine MX.seq <| MX.sr <| RG.mv rfl rfl <| RG.vv (FV.geqU (a := u2) (b := (65536 : UInt64)) rfl rfl) rfl <| RG.nil <| MX.join (α := UInt64 × Int) (fun ⟨u0, z0⟩ => [(0, .int .u64 (u0.toNat : Int)), (2, .int .i64 z0)]) (fun ⟨u0, z0⟩ wx0 => St w wx0 [] ∧ Tr wx3 [] wx0 []) (fun ⟨u0, z0⟩ => (u0, z0)) h ?_ ?_
   ·skip
    rintro ⟨u0, z0⟩ wx0 ⟨hS1, hT0⟩ h
    try dsimp only at h
    refine MX.seq <| MX.sr <| RG.mv rfl rfl <| RG.vv (FV.geqU (a := u0) (b := (256 : UInt64)) rfl rfl) rfl <| RG.nil <| MX.join (α := UInt64 × Int) (fun ⟨u1, z1⟩ => [(0, .int .u64 (u1.toNat : Int)), (2, .int .i64 z1)]) (fun ⟨u1, z1⟩ wx1 => St w wx1 [] ∧ Tr wx0 [] wx1 []) (fun ⟨u1, z1⟩ => (u1, z1)) h ?_ ?_
    ·skip
     rintro ⟨u1, z1⟩ wx1 ⟨hS2, hT1⟩ h
     try dsimp only at h
     refine MX.sr <| RG.mv rfl rfl <| RG.mv rfl rfl <| RG.vv (FV.conv8 (a := u1) Tryz.underlying33 Tryz.underlying5 rfl) rfl ?_
     obtain ⟨z2, hz27, h⟩ := bind_in h
     refine RG.vv (FV.strIdx (k := (u8of u1).toNat) (tab := stab0) Tryz.underlying9 rfl rfl rfl rfl hz27) rfl ?_
     have hu0 := z2.toNat_lt
     refine RG.vv (FV.convN (i := z2.toNat) Tryz.underlying5 Tryz.underlying3 rfl (by omega)) rfl ?_
     obtain ⟨s0, hs0, h⟩ := bind_in h
     refine RG.vv (FV.addc (i := z1) (j := ((z2.toNat : Nat) : Int)) rfl rfl hs0) rfl <| RG.sg rfl rfl <| RG.nil <| MX.ret rfl <| RT.leave hb0 Tryz.func226 rfl (.cons (.tmp rfl) .nil) rfl ?_
     obtain rfl := Option.some.inj h
     exact ⟨hS2.ag, fun w9 hw9 => rfl⟩
    ·skip
     intro J0 hJ26 h
     try dsimp only at h
     refine MX.ifd rfl h (fun c0 h => ?_) (fun c0 h => ?_)
     ·skip
      refine MX.sr <| RG.mv rfl rfl <| RG.vv (FV.shrU (a := u0) (j := 8) rfl rfl) rfl <| RG.sg rfl rfl <| RG.nil <| MX.region ?_
      refine RG.mv rfl rfl ?_
      obtain ⟨s1, hs1, h⟩ := bind_in h
      refine RG.vv (FV.addc (i := z0) (j := 8) rfl rfl hs1) rfl <| RG.sg rfl rfl <| RG.nil ?_
      exact hJ26 (shrU u0 8, s1) _ _ ⟨rfl, rfl, trivial⟩ ⟨hS1, Tr.refl _ _⟩ h
     refine MX.skip ?_
     exact hJ26 (u0, z0) _ _ ⟨rfl, rfl, trivial⟩ ⟨hS1, Tr.refl _ _⟩ h
   ·skip
    intro J1 hJ17 h
    try dsimp only at h
    refine MX.ifd rfl h (fun c1 h => ?_) (fun c1 h => ?_)
    ·skip
     refine MX.sr <| RG.mv rfl rfl <| RG.vv (FV.shrU (a := u2) (j := 16) rfl rfl) rfl <| RG.sg rfl rfl <| RG.nil <| MX.region ?_
     refine RG.mv rfl rfl ?_
     obtain ⟨s2, hs2, h⟩ := bind_in h
     refine RG.vv (FV.addc (i := ((i3 : Nat) : Int)) (j := 16) rfl rfl hs2) rfl <| RG.sg rfl rfl <| RG.nil ?_
     exact hJ17 (shrU u2 16, s2) _ _ ⟨rfl, rfl, trivial⟩ ⟨hS4, Tr.refl _ _⟩ h
    refine MX.skip ?_
    exact hJ17 (u2, ((i3 : Nat) : Int)) _ _ ⟨rfl, rfl, trivial⟩ ⟨hS4, Tr.refl _ _⟩ h
  ·skip
   intro J7 hJ8 h
   try dsimp only at h
   refine MX.ifd rfl h (fun c2 h => ?_) (fun c2 h => ?_)
   ·skip
    refine MX.sr <| RG.mv rfl rfl <| RG.vv (FV.shrU (a := a0) (j := 32) rfl rfl) rfl <| RG.sg rfl rfl <| RG.nil <| MX.region ?_
    refine RG.sg rfl rfl <| RG.nil ?_
    exact hJ8 (shrU a0 32, 32) _ _ ⟨rfl, rfl, trivial⟩ ⟨hS0, Tr.refl _ _⟩ h
   refine MX.skip ?_
   exact hJ8 (a0, 0) _ _ ⟨rfl, rfl, trivial⟩ ⟨hS0, Tr.refl _ _⟩ h
theorem body226 : bodyB Tryz.prog 226 = true := by kernel_rfl
def math_bits_LeadingZeros64_p (n : Nat) (a0 : UInt64) : Option Int :=
  (math_bits_Len64_p n a0).bind fun y1 => (chk (64 - y1)).bind fun s2 => some s2
theorem math_bits_LeadingZeros64_c (n : Nat) (L : List Nat) (w : World) (hL : ∀ b ∈ L, b < w.heap.size) (a0 : UInt64)  {r : Int} (h : math_bits_LeadingZeros64_p n a0 = some r) :
    Calls Tryz.prog 222 #[.int .u64 (a0.toNat : Int)] w (Gives w fun _ u => u = .int .i64 r) := by
  unfold math_bits_LeadingZeros64_p at h
  have hS0 := St.start w
  refine MX.start Tryz.func222 rfl rfl rfl (fun _ cs0 hb0 => ?_)
  refine MX.sr <| RG.sg rfl rfl <| RG.nil <| MX.sr <| RG.mv rfl rfl ?_
  obtain ⟨y1, hy1, h⟩ := bind_in h
  refine RG.cq (.int .i64 y1) body226 rfl (evs_cons rfl evs_nil) (fun w9 hw9 => math_bits_Len64_c n _ w9 (hS0.hL0 hL hw9) a0 hy1) rfl ?_
  obtain ⟨s2, hs2, h⟩ := bind_in h
  refine RG.vv (FV.subc (i := 64) (j := y1) rfl rfl hs2) rfl <| RG.sg rfl rfl <| RG.nil <| MX.ret rfl <| RT.leave hb0 Tryz.func222 rfl (.cons (.tmp rfl) .nil) rfl ?_
  obtain rfl := Option.some.inj h
  exact ⟨hS0.ag, fun w9 hw9 => rfl⟩
def tb214_6 : List (Nat × Nat × Nat) := [(0, 268435456, 2), (0, 536870912, 4), (3, 1073741824, 805306368), (0, 2147483648, 2), (0, 4294967296, 4), (24, 8589934592, 6442450944), (7, 64, 1073741824), (127, 128, 8589934592)]
theorem body222 : bodyB Tryz.prog 222 = true := by kernel_rfl
def math_bits_Div64_l1 (_n : Nat) (a2 : UInt64) (y8 : Int) (a1 : UInt64) (J0 : UInt64 × UInt64 → Option UInt64) : UInt64 × UInt64 → Option UInt64
  | (u0, u1) => (if (4294967296 : UInt64) ≤ u0 then (if (4294967296 : UInt64) ≤ (u1 + (shrU (shlU a2 (u64of y8).toNat) 32)) then some (u0 - (1 : UInt64)) else J0 (u0 - (1 : UInt64), u1 + (shrU (shlU a2 (u64of y8).toNat) 32))) else (if (((4294967296 : UInt64) * u1) + ((shlU a1 (u64of y8).toNat) &&& (4294967295 : UInt64))) < (u0 * ((shlU a2 (u64of y8).toNat) &&& (4294967295 : UInt64))) then (if (4294967296 : UInt64) ≤ (u1 + (shrU (shlU a2 (u64of y8).toNat) 32)) then some (u0 - (1 : UInt64)) else J0 (u0 - (1 : UInt64), u1 + (shrU (shlU a2 (u64of y8).toNat) 32))) else some u0))
def math_bits_Div64_l2 (_n : Nat) (a2 : UInt64) (y8 : Int) (a1 : UInt64) (J0 : UInt64 × UInt64 → Option UInt64) : UInt64 × UInt64 → Option UInt64
  | (u0, u1) => (if (4294967296 : UInt64) ≤ u0 then (if (4294967296 : UInt64) ≤ (u1 + (shrU (shlU a2 (u64of y8).toNat) 32)) then some (u0 - (1 : UInt64)) else J0 (u0 - (1 : UInt64), u1 + (shrU (shlU a2 (u64of y8).toNat) 32))) else (if (((4294967296 : UInt64) * u1) + (shrU (shlU a1 (u64of y8).toNat) 32)) < (u0 * ((shlU a2 (u64of y8).toNat) &&& (4294967295 : UInt64))) then (if (4294967296 : UInt64) ≤ (u1 + (shrU (shlU a2 (u64of y8).toNat) 32)) then some (u0 - (1 : UInt64)) else J0 (u0 - (1 : UInt64), u1 + (shrU (shlU a2 (u64of y8).toNat) 32))) else some u0))
def math_bits_Div64_p (n : Nat) (a0 : UInt64) (a1 : UInt64) (a2 : UInt64) : Option (UInt64 × UInt64) :=
  (if a2 = (0 : UInt64) then none else (if a2 ≤ a0 then none else (if a0 = (0 : UInt64) then (quoW a1 a2).bind fun s6 => (remW a1 a2).bind fun s7 => some (s6, s7) else (math_bits_LeadingZeros64_p n a2).bind fun y8 => (quoW ((shlU a0 (u64of y8).toNat) ||| (shrU a1 ((64 : UInt64) - (u64of y8)).toNat)) (shrU (shlU a2 (u64of y8).toNat) 32)).bind fun s9 => (some (((shlU a0 (u64of y8).toNat) ||| (shrU a1 ((64 : UInt64) - (u64of y8)).toNat)) - (s9 * (shrU (shlU a2 (u64of y8).toNat) 32)))).bind fun u0 => jn (fun u1 => (some (((shlU a0 (u64of y8).toNat) ||| (shrU a1 ((64 : UInt64) - (u64of y8)).toNat)) * (4294967296 : UInt64))).bind fun u2 => (quoW ((u2 + (shrU (shlU a1 (u64of y8).toNat) 32)) - (u1 * (shlU a2 (u64of y8).toNat))) (shrU (shlU a2 (u64of y8).toNat) 32)).bind fun s0 => (some (((u2 + (shrU (shlU a1 (u64of y8).toNat) 32)) - (u1 * (shlU a2 (u64of y8).toNat))) - (s0 * (shrU (shlU a2 (u64of y8).toNat) 32)))).bind fun u3 => jn (fun u4 => (some (((u2 + (shrU (shlU a1 (u64of y8).toNat) 32)) - (u1 * (shlU a2 (u64of y8).toNat))) * (4294967296 : UInt64))).bind fun u5 => (some ((u5 + ((shlU a1 (u64of y8).toNat) &&& (4294967295 : UInt64))) - (u4 * (shlU a2 (u64of y8).toNat)))).bind fun u6 => some ((u1 * (4294967296 : UInt64)) + u4, shrU u6 (u64of y8).toNat)) (fun J0 => Option.bind (loopF (math_bits_Div64_l1 n a2 y8 a1) n (s0, u3)) (J0))) (fun J1 => Option.bind (loopF (math_bits_Div64_l2 n a2 y8 a1) n (s9, u0)) (J1)))))
theorem math_bits_Div64_c (n : Nat) (L : List Nat) (w : World) (hL : ∀ b ∈ L, b < w.heap.size) (a0 : UInt64) (a1 : UInt64) (a2 : UInt64)  {r : UInt64 × UInt64} (h : math_bits_Div64_p n a0 a1 a2 = some r) :
    Calls Tryz.prog 214 #[.int .u64 (a0.toNat : Int), .int .u64 (a1.toNat : Int), .int .u64 (a2.toNat : Int)] w (Gives w fun _ u => u = .tuple #[.int .u64 (r.1.toNat : Int), .int .u64 (r.2.toNat : Int)]) := by
  unfold math_bits_Div64_p at h
  have hS0 := St.start w
  refine MX.start Tryz.func214 rfl rfl rfl (fun _ cs0 hb0 => ?_)
  refine MX.sr <| RG.sg rfl rfl <| RG.sg rfl rfl <| RG.nil <| MX.seq <| MX.sr ?_
  refine RG.mv rfl rfl <| RG.vv (FV.eqlU (a := a2) (b := (0 : UInt64)) rfl rfl) rfl <| RG.nil <| MX.ifd rfl h (fun c1 h => ?_) (fun c1 h => ?_)
  ·skip
   refine MX.region ?_
   cases h
  refine MX.skip <| MX.seq <| MX.sr <| RG.mv rfl rfl <| RG.mv rfl rfl <| RG.vv (FV.leqU (a := a2) (b := a0) rfl rfl) rfl ?_
  refine RG.nil <| MX.ifd rfl h (fun c2 h => ?_) (fun c2 h => ?_)
  ·skip
   refine MX.region ?_
   cases h
  refine MX.skip <| MX.seq <| MX.sr <| RG.mv rfl rfl <| RG.vv (FV.eqlU (a := a0) (b := (0 : UInt64)) rfl rfl) rfl <| RG.nil ?_
  refine MX.ifd rfl h (fun c3 h => ?_) (fun c3 h => ?_)
  ·skip
   refine MX.seq <| MX.drawT 8 tb214_6 (by kernel_rfl) (by kernel_rfl) (by kernel_rfl) (fun kt4 kp5 => ?_)
   refine RD.vw 0 1 kt4 rfl kp5 (fun _ => FV.move rfl) rfl <| RD.vw 1 3 kt4 rfl kp5 (fun _ => FV.move rfl) rfl ?_
   obtain ⟨s6, hs6, h⟩ := bind_in h
   refine RD.vw 2 7 kt4 rfl kp5 (fun _ => FV.quoV (a := a1) (b := a2) rfl rfl hs6) rfl <| RD.vw 3 15 kt4 rfl kp5 (fun _ => FV.move rfl) rfl <| RD.vw 4 31 kt4 rfl kp5 (fun _ => FV.move rfl) rfl ?_
   obtain ⟨s7, hs7, h⟩ := bind_in h
   refine RD.vw 5 63 kt4 rfl kp5 (fun _ => FV.remV (a := a1) (b := a2) rfl rfl hs7) rfl <| RD.vw 6 127 kt4 rfl kp5 (fun _ => FV.assign rfl) rfl <| RD.vw 7 255 kt4 rfl kp5 (fun _ => FV.assign rfl) rfl <| RD.done (doneD_ok kt4 (by kernel_rfl)) <| MX.ret rfl <| RT.leave hb0 Tryz.func214 rfl (.cons (.tmp rfl) (.cons (.tmp rfl) .nil)) rfl ?_
   obtain rfl := Option.some.inj h
   exact ⟨hS0.ag, fun w9 hw9 => rfl⟩
  refine MX.skip <| MX.sr <| RG.mv rfl rfl ?_
  obtain ⟨y8, hy8, h⟩ := bind_in h
  refine RG.cq (.int .i64 y8) body222 rfl (evs_cons rfl evs_nil) (fun w9 hw9 => math_bits_LeadingZeros64_c n _ w9 (hS0.hL0 hL hw9) a2 hy8) rfl <| RG.vv (FV.convU (i := y8) Tryz.underlying3 Tryz.underlying236 rfl) rfl <| RG.sg rfl rfl <| RG.nil <| MX.sr <| RG.mv rfl rfl ?_
  refine RG.mv rfl rfl <| RG.vv (FV.shlU (a := a2) (j := (u64of y8).toNat) rfl rfl) rfl <| RG.sg rfl rfl <| RG.nil <| MX.sr <| RG.mv rfl rfl ?_
  refine RG.vv (FV.shrU (a := shlU a2 (u64of y8).toNat) (j := 32) rfl rfl) rfl <| RG.sg rfl rfl <| RG.nil <| MX.sr <| RG.mv rfl rfl <| RG.vv (FV.andU (a := shlU a2 (u64of y8).toNat) (b := (4294967295 : UInt64)) rfl rfl) rfl ?_
  refine RG.sg rfl rfl <| RG.nil <| MX.sr <| RG.mv rfl rfl <| RG.mv rfl rfl <| RG.vv (FV.shlU (a := a0) (j := (u64of y8).toNat) rfl rfl) rfl ?_
  refine RG.mv rfl rfl <| RG.mv rfl rfl <| RG.vv (FV.subU (a := (64 : UInt64)) (b := u64of y8) rfl rfl) rfl <| RG.vv (FV.shrU (a := a1) (j := ((64 : UInt64) - (u64of y8)).toNat) rfl rfl) rfl <| RG.vv (FV.orU (a := shlU a0 (u64of y8).toNat) (b := shrU a1 ((64 : UInt64) - (u64of y8)).toNat) rfl rfl) rfl <| RG.sg rfl rfl ?_
  refine RG.nil <| MX.sr <| RG.mv rfl rfl <| RG.mv rfl rfl <| RG.vv (FV.shlU (a := a1) (j := (u64of y8).toNat) rfl rfl) rfl <| RG.sg rfl rfl ?_
  refine RG.nil <| MX.sr <| RG.mv rfl rfl <| RG.vv (FV.shrU (a := shlU a1 (u64of y8).toNat) (j := 32) rfl rfl) rfl <| RG.sg rfl rfl <| RG.nil ?_
  refine MX.sr <| RG.mv rfl rfl <| RG.vv (FV.andU (a := shlU a1 (u64of y8).toNat) (b := (4294967295 : UInt64)) rfl rfl) rfl <| RG.sg rfl rfl <| RG.nil <| MX.sr ?_
  refine RG.mv rfl rfl <| RG.mv rfl rfl ?_
  obtain ⟨s9, hs9, h⟩ := bind_in h
  refine RG.vv (FV.quoV (a := (shlU a0 (u64of y8).toNat) ||| (shrU a1 ((64 : UInt64) - (u64of y8)).toNat)) (b := shrU (shlU a2 (u64of y8).toNat) 32) rfl rfl hs9) rfl <| RG.sg rfl rfl <| RG.nil <| MX.sr <| RG.mv rfl rfl <| RG.mv rfl rfl ?_
  refine RG.mv rfl rfl <| RG.vv (FV.mulU (a := s9) (b := shrU (shlU a2 (u64of y8).toNat) 32) rfl rfl) rfl ?_
  obtain ⟨u0, hu0, h⟩ := bind_in h
  refine RG.vv (FV.as (FV.subU (a := (shlU a0 (u64of y8).toNat) ||| (shrU a1 ((64 : UInt64) - (u64of y8)).toNat)) (b := s9 * (shrU (shlU a2 (u64of y8).toNat) 32)) rfl rfl) (congrArg (fun z : UInt64 => Value.int .u64 (z.toNat : Int)) (Option.some.inj hu0))) rfl <| RG.sg rfl rfl <| RG.nil <| MX.seq <| MX.block <| MX.joinx (α := UInt64) (fun u1 => [(2, .int .u64 ((shlU a2 (u64of y8).toNat).toNat : Int)), (8, .int .u64 ((u64of y8).toNat : Int)), (9, .int .u64 ((shrU (shlU a2 (u64of y8).toNat) 32).toNat : Int)), (10, .int .u64 (((shlU a2 (u64of y8).toNat) &&& (4294967295 : UInt64)).toNat : Int)), (11, .int .u64 (((shlU a0 (u64of y8).toNat) ||| (shrU a1 ((64 : UInt64) - (u64of y8)).toNat)).toNat : Int)), (13, .int .u64 ((shrU (shlU a1 (u64of y8).toNat) 32).toNat : Int)), (14, .int .u64 (((shlU a1 (u64of y8).toNat) &&& (4294967295 : UInt64)).toNat : Int)), (15, .int .u64 (u1.toNat : Int))]) (fun u1 wx0 => St w wx0 [] ∧ Tr w [] wx0 []) (fun u1 => u1) (id := 0) rfl h ?_ ?_
  ·skip
   rintro u1 wx0 ⟨hS1, hT0⟩ h
   try dsimp only at h
   refine MX.sr <| RG.mv rfl rfl ?_
   obtain ⟨u2, hu1, h⟩ := bind_in h
   refine RG.vv (FV.as (FV.mulU (a := (shlU a0 (u64of y8).toNat) ||| (shrU a1 ((64 : UInt64) - (u64of y8)).toNat)) (b := (4294967296 : UInt64)) rfl rfl) (congrArg (fun z : UInt64 => Value.int .u64 (z.toNat : Int)) (Option.some.inj hu1))) rfl <| RG.mv rfl rfl <| RG.vv (FV.addU (a := u2) (b := shrU (shlU a1 (u64of y8).toNat) 32) rfl rfl) rfl <| RG.mv rfl rfl <| RG.mv rfl rfl <| RG.vv (FV.mulU (a := u1) (b := shlU a2 (u64of y8).toNat) rfl rfl) rfl ?_
   refine RG.vv (FV.subU (a := u2 + (shrU (shlU a1 (u64of y8).toNat) 32)) (b := u1 * (shlU a2 (u64of y8).toNat)) rfl rfl) rfl <| RG.sg rfl rfl <| RG.nil <| MX.sr <| RG.mv rfl rfl <| RG.mv rfl rfl ?_
   obtain ⟨s0, hs0, h⟩ := bind_in h
   refine RG.vv (FV.quoV (a := (u2 + (shrU (shlU a1 (u64of y8).toNat) 32)) - (u1 * (shlU a2 (u64of y8).toNat))) (b := shrU (shlU a2 (u64of y8).toNat) 32) rfl rfl hs0) rfl <| RG.sg rfl rfl <| RG.nil <| MX.sr <| RG.mv rfl rfl <| RG.mv rfl rfl ?_
   refine RG.mv rfl rfl <| RG.vv (FV.mulU (a := s0) (b := shrU (shlU a2 (u64of y8).toNat) 32) rfl rfl) rfl ?_
   obtain ⟨u3, hu2, h⟩ := bind_in h
   refine RG.vv (FV.as (FV.subU (a := (u2 + (shrU (shlU a1 (u64of y8).toNat) 32)) - (u1 * (shlU a2 (u64of y8).toNat))) (b := s0 * (shrU (shlU a2 (u64of y8).toNat) 32)) rfl rfl) (congrArg (fun z : UInt64 => Value.int .u64 (z.toNat : Int)) (Option.some.inj hu2))) rfl <| RG.sg rfl rfl <| RG.nil <| MX.seq <| MX.block <| MX.joinx (α := UInt64) (fun u4 => [(2, .int .u64 ((shlU a2 (u64of y8).toNat).toNat : Int)), (8, .int .u64 ((u64of y8).toNat : Int)), (14, .int .u64 (((shlU a1 (u64of y8).toNat) &&& (4294967295 : UInt64)).toNat : Int)), (15, .int .u64 (u1.toNat : Int)), (17, .int .u64 (((u2 + (shrU (shlU a1 (u64of y8).toNat) 32)) - (u1 * (shlU a2 (u64of y8).toNat))).toNat : Int)), (18, .int .u64 (u4.toNat : Int))]) (fun u4 wx1 => St w wx1 [] ∧ Tr wx0 [] wx1 []) (fun u4 => u4) (id := 2) rfl h ?_ ?_
   ·skip
    rintro u4 wx1 ⟨hS2, hT1⟩ h
    try dsimp only at h
    refine MX.sr <| RG.mv rfl rfl <| RG.vv (FV.mulU (a := u1) (b := (4294967296 : UInt64)) rfl rfl) rfl <| RG.mv rfl rfl <| RG.vv (FV.addU (a := u1 * (4294967296 : UInt64)) (b := u4) rfl rfl) rfl <| RG.mv rfl rfl ?_
    obtain ⟨u5, hu3, h⟩ := bind_in h
    refine RG.vv (FV.as (FV.mulU (a := (u2 + (shrU (shlU a1 (u64of y8).toNat) 32)) - (u1 * (shlU a2 (u64of y8).toNat))) (b := (4294967296 : UInt64)) rfl rfl) (congrArg (fun z : UInt64 => Value.int .u64 (z.toNat : Int)) (Option.some.inj hu3))) rfl <| RG.mv rfl rfl <| RG.vv (FV.addU (a := u5) (b := (shlU a1 (u64of y8).toNat) &&& (4294967295 : UInt64)) rfl rfl) rfl <| RG.mv rfl rfl <| RG.mv rfl rfl <| RG.vv (FV.mulU (a := u4) (b := shlU a2 (u64of y8).toNat) rfl rfl) rfl ?_
    obtain ⟨u6, hu4, h⟩ := bind_in h
    refine RG.vv (FV.as (FV.subU (a := u5 + ((shlU a1 (u64of y8).toNat) &&& (4294967295 : UInt64))) (b := u4 * (shlU a2 (u64of y8).toNat)) rfl rfl) (congrArg (fun z : UInt64 => Value.int .u64 (z.toNat : Int)) (Option.some.inj hu4))) rfl <| RG.mv rfl rfl <| RG.vv (FV.shrU (a := u6) (j := (u64of y8).toNat) rfl rfl) rfl <| RG.sg rfl rfl <| RG.sg rfl rfl <| RG.nil ?_
    refine MX.ret rfl <| RT.leave hb0 Tryz.func214 rfl (.cons (.tmp rfl) (.cons (.tmp rfl) .nil)) rfl ?_
    obtain rfl := Option.some.inj h
    exact ⟨hS2.ag, fun w9 hw9 => rfl⟩
   ·skip
    intro J0 hJ91 h
    try dsimp only at h
    obtain ⟨o0, ho109, hh111⟩ := bind_in2 h
    refine MX.loop (α := UInt64 × UInt64) (fun ⟨u7, u8⟩ => [(2, .int .u64 ((shlU a2 (u64of y8).toNat).toNat : Int)), (8, .int .u64 ((u64of y8).toNat : Int)), (9, .int .u64 ((shrU (shlU a2 (u64of y8).toNat) 32).toNat : Int)), (10, .int .u64 (((shlU a2 (u64of y8).toNat) &&& (4294967295 : UInt64)).toNat : Int)), (14, .int .u64 (((shlU a1 (u64of y8).toNat) &&& (4294967295 : UInt64)).toNat : Int)), (15, .int .u64 (u1.toNat : Int)), (17, .int .u64 (((u2 + (shrU (shlU a1 (u64of y8).toNat) 32)) - (u1 * (shlU a2 (u64of y8).toNat))).toNat : Int)), (18, .int .u64 (u7.toNat : Int)), (16, .int .u64 (u8.toNat : Int))]) (fun ⟨u7, u8⟩ wx2 => St w wx2 [] ∧ Tr wx0 [] wx2 []) (fun ⟨u7, u8⟩ => (u7, u8)) (s0, u3) ho109 ⟨rfl, rfl, rfl, rfl, rfl, rfl, rfl, rfl, rfl, trivial⟩ ⟨hS1, Tr.refl _ _⟩ ?_
    rintro J1 ⟨u7, u8⟩ wx2 hJ113 ⟨hS3, hT2⟩ h
    unfold math_bits_Div64_l1 at h
    try dsimp only at h
    refine MX.seq <| MX.sr <| RG.mv rfl rfl <| RG.vv (FV.geqU (a := u7) (b := (4294967296 : UInt64)) rfl rfl) rfl <| RG.mv rfl rfl <| RG.ifd (s := 104) rfl h (fun c0 h => ?_) (fun c0 h => ?_)
    ·skip
     refine RG.off (.no rfl rfl) rfl <| RG.off (.no rfl rfl) rfl <| RG.off (.no rfl rfl) rfl <| RG.off (.no rfl rfl) rfl <| RG.off (.no rfl rfl) rfl <| RG.off (.no rfl rfl) rfl ?_
     refine RG.off (.no rfl rfl) rfl <| RG.off (.no rfl rfl) rfl <| RG.vv (FV.pick_t rfl rfl) rfl <| RG.nil <| MX.cond_t rfl <| MX.skip ?_
     refine MX.block <| MX.sr <| RG.mv rfl rfl <| RG.vv (FV.subU (a := u7) (b := (1 : UInt64)) rfl rfl) rfl <| RG.sg rfl rfl <| RG.nil ?_
     refine MX.sr <| RG.mv rfl rfl <| RG.mv rfl rfl <| RG.vv (FV.addU (a := u8) (b := shrU (shlU a2 (u64of y8).toNat) 32) rfl rfl) rfl <| RG.sg rfl rfl <| RG.nil ?_
     refine MX.sr <| RG.mv rfl rfl <| RG.vv (FV.geqU (a := u8 + (shrU (shlU a2 (u64of y8).toNat) 32)) (b := (4294967296 : UInt64)) rfl rfl) rfl <| RG.nil <| MX.ifd rfl h (fun c4 h => ?_) (fun c4 h => ?_)
     ·skip
      refine MX.exit rfl ?_
      have h := hh111 _ h
      try dsimp only at h
      exact hJ91 (u7 - (1 : UInt64)) _ _ ⟨rfl, rfl, rfl, rfl, rfl, rfl, trivial⟩ ⟨hS3, hT2⟩ h
     refine MX.skip <| MX.inBlock ?_
     exact hJ113 (u7 - (1 : UInt64), u8 + (shrU (shlU a2 (u64of y8).toNat) 32)) _ _ ⟨rfl, rfl, rfl, rfl, rfl, rfl, rfl, rfl, rfl, trivial⟩ ⟨hS3, hT2⟩ h
    refine RG.val' (.yes rfl rfl) (FV.move rfl) rfl <| RG.val' (.yes rfl rfl) (FV.move rfl) rfl <| RG.val' (.yes rfl rfl) (FV.mulU (a := u7) (b := (shlU a2 (u64of y8).toNat) &&& (4294967295 : UInt64)) rfl rfl) rfl <| RG.val' (.yes rfl rfl) (FV.move rfl) rfl <| RG.val' (.yes rfl rfl) (FV.mulU (a := (4294967296 : UInt64)) (b := u8) rfl rfl) rfl <| RG.val' (.yes rfl rfl) (FV.move rfl) rfl ?_
    refine RG.val' (.yes rfl rfl) (FV.addU (a := (4294967296 : UInt64) * u8) (b := (shlU a1 (u64of y8).toNat) &&& (4294967295 : UInt64)) rfl rfl) rfl <| RG.val' (.yes rfl rfl) (FV.gtrU (a := u7 * ((shlU a2 (u64of y8).toNat) &&& (4294967295 : UInt64))) (b := ((4294967296 : UInt64) * u8) + ((shlU a1 (u64of y8).toNat) &&& (4294967295 : UInt64))) rfl rfl) rfl <| RG.vv (FV.pick_f rfl rfl) rfl <| RG.nil <| MX.ifd rfl h (fun c5 h => ?_) (fun c5 h => ?_)
    ·skip
     refine MX.skip <| MX.block <| MX.sr <| RG.mv rfl rfl <| RG.vv (FV.subU (a := u7) (b := (1 : UInt64)) rfl rfl) rfl <| RG.sg rfl rfl ?_
     refine RG.nil <| MX.sr <| RG.mv rfl rfl <| RG.mv rfl rfl <| RG.vv (FV.addU (a := u8) (b := shrU (shlU a2 (u64of y8).toNat) 32) rfl rfl) rfl <| RG.sg rfl rfl ?_
     refine RG.nil <| MX.sr <| RG.mv rfl rfl <| RG.vv (FV.geqU (a := u8 + (shrU (shlU a2 (u64of y8).toNat) 32)) (b := (4294967296 : UInt64)) rfl rfl) rfl <| RG.nil <| MX.ifd rfl h (fun c6 h => ?_) (fun c6 h => ?_)
     ·skip
      refine MX.exit rfl ?_
      have h := hh111 _ h
      try dsimp only at h
      exact hJ91 (u7 - (1 : UInt64)) _ _ ⟨rfl, rfl, rfl, rfl, rfl, rfl, trivial⟩ ⟨hS3, hT2⟩ h
     refine MX.skip <| MX.inBlock ?_
     exact hJ113 (u7 - (1 : UInt64), u8 + (shrU (shlU a2 (u64of y8).toNat) 32)) _ _ ⟨rfl, rfl, rfl, rfl, rfl, rfl, rfl, rfl, rfl, trivial⟩ ⟨hS3, hT2⟩ h
    refine MX.exit rfl ?_
    have h := hh111 _ h
    try dsimp only at h
    exact hJ91 u7 _ _ ⟨rfl, rfl, rfl, rfl, rfl, rfl, trivial⟩ ⟨hS3, hT2⟩ h
  ·skip
   intro J2 hJ49 h
   try dsimp only at h
   obtain ⟨o1, ho133, hh135⟩ := bind_in2 h
   refine MX.loop (α := UInt64 × UInt64) (fun ⟨u9, u11⟩ => [(2, .int .u64 ((shlU a2 (u64of y8).toNat).toNat : Int)), (8, .int .u64 ((u64of y8).toNat : Int)), (9, .int .u64 ((shrU (shlU a2 (u64of y8).toNat) 32).toNat : Int)), (10, .int .u64 (((shlU a2 (u64of y8).toNat) &&& (4294967295 : UInt64)).toNat : Int)), (11, .int .u64 (((shlU a0 (u64of y8).toNat) ||| (shrU a1 ((64 : UInt64) - (u64of y8)).toNat)).toNat : Int)), (13, .int .u64 ((shrU (shlU a1 (u64of y8).toNat) 32).toNat : Int)), (14, .int .u64 (((shlU a1 (u64of y8).toNat) &&& (4294967295 : UInt64)).toNat : Int)), (15, .int .u64 (u9.toNat : Int)), (16, .int .u64 (u11.toNat : Int))]) (fun ⟨u9, u11⟩ wx3 => St w wx3 [] ∧ Tr w [] wx3 []) (fun ⟨u9, u11⟩ => (u9, u11)) (s9, u0) ho133 ⟨rfl, rfl, rfl, rfl, rfl, rfl, rfl, rfl, rfl, trivial⟩ ⟨hS0, Tr.refl _ _⟩ ?_
   rintro J3 ⟨u9, u11⟩ wx3 hJ137 ⟨hS4, hT3⟩ h
   unfold math_bits_Div64_l2 at h
   try dsimp only at h
   refine MX.seq <| MX.sr <| RG.mv rfl rfl <| RG.vv (FV.geqU (a := u9) (b := (4294967296 : UInt64)) rfl rfl) rfl <| RG.mv rfl rfl <| RG.ifd (s := 69) rfl h (fun c7 h => ?_) (fun c7 h => ?_)
   ·skip
    refine RG.off (.no rfl rfl) rfl <| RG.off (.no rfl rfl) rfl <| RG.off (.no rfl rfl) rfl <| RG.off (.no rfl rfl) rfl <| RG.off (.no rfl rfl) rfl <| RG.off (.no rfl rfl) rfl ?_
    refine RG.off (.no rfl rfl) rfl <| RG.off (.no rfl rfl) rfl <| RG.vv (FV.pick_t rfl rfl) rfl <| RG.nil <| MX.cond_t rfl <| MX.skip ?_
    refine MX.block <| MX.sr <| RG.mv rfl rfl <| RG.vv (FV.subU (a := u9) (b := (1 : UInt64)) rfl rfl) rfl <| RG.sg rfl rfl <| RG.nil ?_
    refine MX.sr <| RG.mv rfl rfl <| RG.mv rfl rfl <| RG.vv (FV.addU (a := u11) (b := shrU (shlU a2 (u64of y8).toNat) 32) rfl rfl) rfl <| RG.sg rfl rfl <| RG.nil ?_
    refine MX.sr <| RG.mv rfl rfl <| RG.vv (FV.geqU (a := u11 + (shrU (shlU a2 (u64of y8).toNat) 32)) (b := (4294967296 : UInt64)) rfl rfl) rfl <| RG.nil <| MX.ifd rfl h (fun c8 h => ?_) (fun c8 h => ?_)
    ·skip
     refine MX.exit rfl ?_
     have h := hh135 _ h
     try dsimp only at h
     exact hJ49 (u9 - (1 : UInt64)) _ _ ⟨rfl, rfl, rfl, rfl, rfl, rfl, rfl, rfl, trivial⟩ ⟨hS4, hT3⟩ h
    refine MX.skip <| MX.inBlock ?_
    exact hJ137 (u9 - (1 : UInt64), u11 + (shrU (shlU a2 (u64of y8).toNat) 32)) _ _ ⟨rfl, rfl, rfl, rfl, rfl, rfl, rfl, rfl, rfl, trivial⟩ ⟨hS4, hT3⟩ h
   refine RG.val' (.yes rfl rfl) (FV.move rfl) rfl <| RG.val' (.yes rfl rfl) (FV.move rfl) rfl <| RG.val' (.yes rfl rfl) (FV.mulU (a := u9) (b := (shlU a2 (u64of y8).toNat) &&& (4294967295 : UInt64)) rfl rfl) rfl <| RG.val' (.yes rfl rfl) (FV.move rfl) rfl <| RG.val' (.yes rfl rfl) (FV.mulU (a := (4294967296 : UInt64)) (b := u11) rfl rfl) rfl <| RG.val' (.yes rfl rfl) (FV.move rfl) rfl ?_
   refine RG.val' (.yes rfl rfl) (FV.addU (a := (4294967296 : UInt64) * u11) (b := shrU (shlU a1 (u64of y8).toNat) 32) rfl rfl) rfl <| RG.val' (.yes rfl rfl) (FV.gtrU (a := u9 * ((shlU a2 (u64of y8).toNat) &&& (4294967295 : UInt64))) (b := ((4294967296 : UInt64) * u11) + (shrU (shlU a1 (u64of y8).toNat) 32)) rfl rfl) rfl <| RG.vv (FV.pick_f rfl rfl) rfl <| RG.nil <| MX.ifd rfl h (fun c9 h => ?_) (fun c9 h => ?_)
   ·skip
    refine MX.skip <| MX.block <| MX.sr <| RG.mv rfl rfl <| RG.vv (FV.subU (a := u9) (b := (1 : UInt64)) rfl rfl) rfl <| RG.sg rfl rfl ?_
    refine RG.nil <| MX.sr <| RG.mv rfl rfl <| RG.mv rfl rfl <| RG.vv (FV.addU (a := u11) (b := shrU (shlU a2 (u64of y8).toNat) 32) rfl rfl) rfl <| RG.sg rfl rfl ?_
    refine RG.nil <| MX.sr <| RG.mv rfl rfl <| RG.vv (FV.geqU (a := u11 + (shrU (shlU a2 (u64of y8).toNat) 32)) (b := (4294967296 : UInt64)) rfl rfl) rfl <| RG.nil <| MX.ifd rfl h (fun c10 h => ?_) (fun c10 h => ?_)
    ·skip
     refine MX.exit rfl ?_
     have h := hh135 _ h
     try dsimp only at h
     exact hJ49 (u9 - (1 : UInt64)) _ _ ⟨rfl, rfl, rfl, rfl, rfl, rfl, rfl, rfl, trivial⟩ ⟨hS4, hT3⟩ h
    refine MX.skip <| MX.inBlock ?_
    exact hJ137 (u9 - (1 : UInt64), u11 + (shrU (shlU a2 (u64of y8).toNat) 32)) _ _ ⟨rfl, rfl, rfl, rfl, rfl, rfl, rfl, rfl, rfl, trivial⟩ ⟨hS4, hT3⟩ h
   refine MX.exit rfl ?_
   have h := hh135 _ h
   try dsimp only at h
   exact hJ49 u9 _ _ ⟨rfl, rfl, rfl, rfl, rfl, rfl, rfl, rfl, trivial⟩ ⟨hS4, hT3⟩ h
def wide_length_p (n : Nat) (a0 : List UInt64) : Option Int :=
  (if a0.length = 0 then some (0 : Int) else (chk (64 * ((a0.length : Nat) : Int))).bind fun s3 => (idx a0 (((a0.length : Nat) : Int) - 1)).bind fun x4 => (math_bits_LeadingZeros64_p n x4).bind fun y0 => (chk (s3 - y0)).bind fun s0 => some s0)
theorem wide_length_c (n : Nat) (L : List Nat) (w : World) (hL : ∀ b ∈ L, b < w.heap.size) (a0 : List UInt64) {v0_0 : Value} (h0_0 : Rep.R w L [v0_0] a0)  {r : Int} (h : wide_length_p n a0 = some r) :
    Calls Tryz.prog 215 #[v0_0] w (Gives w fun _ u => u = .int .i64 r) := by
  unfold wide_length_p at h
  have hS0 := St.start w
  refine MX.start Tryz.func215 rfl rfl rfl (fun _ cs0 hb0 => ?_)
  refine MX.sr <| RG.sg rfl rfl <| RG.nil <| MX.seq <| MX.sr <| RG.mv rfl rfl ?_
  have hl1 : a0.length ≤ 281474976710656 := Rep.lenle h0_0
  refine RG.vv (FV.len (xs := a0) Tryz.underlying121 rfl h0_0) rfl <| RG.vv (FV.eqlN (i := a0.length) (j := 0) rfl rfl) rfl <| RG.nil <| MX.ifd rfl h (fun c2 h => ?_) (fun c2 h => ?_)
  ·skip
   refine MX.sr <| RG.sg rfl rfl <| RG.nil <| MX.ret rfl <| RT.leave hb0 Tryz.func215 rfl (.cons (.tmp rfl) .nil) rfl ?_
   obtain rfl := Option.some.inj h
   exact ⟨hS0.ag, fun w9 hw9 => rfl⟩
  refine MX.skip <| MX.sr <| RG.mv rfl rfl <| RG.vv (FV.len (xs := a0) Tryz.underlying121 rfl h0_0) rfl ?_
  obtain ⟨s3, hs3, h⟩ := bind_in h
  refine RG.vv (FV.mulc (i := 64) (j := ((a0.length : Nat) : Int)) rfl rfl hs3) rfl <| RG.mv rfl rfl <| RG.mv rfl rfl <| RG.vv (FV.len (xs := a0) Tryz.underlying121 rfl h0_0) rfl <| RG.vv (FV.subI (i := ((a0.length : Nat) : Int)) (j := 1) rfl rfl (by omega)) rfl ?_
  obtain ⟨x4, hx4, h⟩ := bind_in h
  obtain ⟨hi5, hx6⟩ := idx_in hx4
  obtain ⟨A7, c8, he9, hk0, cs1, hr0, hm0⟩ := Rep.nth h0_0 hx6
  have he0 : cs1 = [.int .u64 (x4.toNat : Int)] := hr0; subst he0
  refine RG.vv (FV.idxAddr (m := 1) (i := (((a0.length : Nat) : Int) - 1).toNat) (by kernel_rfl) rfl he9 rfl hi5 hk0) rfl <| RG.vv (FV.load1 (by kernel_rfl) rfl (hm0 0 _ rfl)) rfl ?_
  obtain ⟨y0, hy0, h⟩ := bind_in h
  refine RG.cq (.int .i64 y0) body222 rfl (evs_cons rfl evs_nil) (fun w9 hw9 => math_bits_LeadingZeros64_c n _ w9 (hS0.hL0 hL hw9) x4 hy0) rfl ?_
  obtain ⟨s0, hs0, h⟩ := bind_in h
  refine RG.vv (FV.subc (i := s3) (j := y0) rfl rfl hs0) rfl <| RG.sg rfl rfl <| RG.nil <| MX.ret rfl <| RT.leave hb0 Tryz.func215 rfl (.cons (.tmp rfl) .nil) rfl ?_
  obtain rfl := Option.some.inj h
  exact ⟨hS0.ag, fun w9 hw9 => rfl⟩
def tb216_5 : List (Nat × Nat × Nat) := [(0, 4194304, 32), (0, 8388608, 64), (0, 16777216, 2), (4, 33554432, 16777216), (10, 67108864, 41943040), (17, 134217728, 71303168), (32, 268435456, 134217728), (0, 536870912, 128), (0, 1073741824, 2), (256, 2147483648, 1073741824), (640, 4294967296, 2684354560), (1088, 8589934592, 4563402752), (4095, 17179869184, 71303168), (8191, 0, 25769803776)]
def wide_moved_l1 (_n : Nat) (a0 : List UInt64) (a1 : Int) (J0 : Nat × (List UInt64) → Option (List UInt64)) : Nat × (List UInt64) → Option (List UInt64)
  | (i0, xs0) => (if i0 < a0.length then (a0[i0]?).bind fun x0 => (quoI a1 64).bind fun s0 => (chk (((i0 : Nat) : Int) + s0)).bind fun s1 => (idx xs0 s1).bind fun x1 => (remI a1 64).bind fun s2 => (natOf s2).bind fun k198 => (put xs0 ((s1.toNat : Nat) : Int) (x1 ||| (shlU x0 k198))).bind fun xs1 => (remI a1 64).bind fun s3 => (if 0 < s3 then (quoI a1 64).bind fun s4 => (chk (((i0 : Nat) : Int) + s4)).bind fun s5 => (chk (s5 + 1)).bind fun s6 => (remI a1 64).bind fun s7 => (chk (64 - s7)).bind fun s8 => (natOf s8).bind fun k212 => (idx xs1 s6).bind fun x2 => (put xs1 ((s6.toNat : Nat) : Int) (shrU x0 k212)).bind fun xs2 => J0 (i0 + 1, xs2) else J0 (i0 + 1, xs1)) else some xs0)
def wide_moved_p (n : Nat) (a0 : List UInt64) (a1 : Int) : Option (List UInt64) :=
  (quoI a1 64).bind fun s2 => (chk (((a0.length : Nat) : Int) + s2)).bind fun s3 => (chk (s3 + 1)).bind fun s4 => (mk s4 (0 : UInt64)).bind fun xs6 => Option.bind (loopF (wide_moved_l1 n a0 a1) n (0, xs6)) (fun xs0 => (wide_trimmed_p n false xs0).bind fun y0 => some y0.fWords)
theorem wide_moved_c (n : Nat) (L : List Nat) (w : World) (hL : ∀ b ∈ L, b < w.heap.size) (a0 : List UInt64) {v0_0 : Value} (h0_0 : Rep.R w L [v0_0] a0) (a1 : Int)  {r : List UInt64} (h : wide_moved_p n a0 a1 = some r) :
    Calls Tryz.prog 216 #[v0_0, .int .i64 a1] w (Gives w fun w' u => ∃ v0_0 : Value, u = v0_0 ∧ Rep.R w' L [v0_0] r) := by
  unfold wide_moved_p at h
  have hS0 := St.start w
  refine MX.start Tryz.func216 rfl rfl rfl (fun _ cs0 hb0 => ?_)
  refine MX.sr <| RG.sg rfl rfl <| RG.nil <| MX.sr <| RG.mv rfl rfl ?_
  have hl1 : a0.length ≤ 281474976710656 := Rep.lenle h0_0
  refine RG.vv (FV.len (xs := a0) Tryz.underlying121 rfl h0_0) rfl <| RG.mv rfl rfl ?_
  obtain ⟨s2, hs2, h⟩ := bind_in h
  refine RG.vv (FV.quoc (i := a1) (j := 64) rfl rfl hs2) rfl ?_
  obtain ⟨s3, hs3, h⟩ := bind_in h
  refine RG.vv (FV.addc (i := ((a0.length : Nat) : Int)) (j := s2) rfl rfl hs3) rfl ?_
  obtain ⟨s4, hs4, h⟩ := bind_in h
  refine RG.vv (FV.addc (i := s3) (j := 1) rfl rfl hs4) rfl ?_
  obtain ⟨xs6, hxs6, h⟩ := bind_in h
  refine RG.new .plain rfl (Does.mk (α := UInt64) hxs6 hS0 el121 rfl) (fun w7 b0 hS8 hT9 => ?_)
  have hc0 := Cells.at_ (cs := (List.replicate s4.toNat [.int .u64 0]).flatten) (xs := xs6) hS8 L (Cells.mk hxs6 rfl)
  refine RG.sg rfl rfl <| RG.nil <| MX.seq <| MX.sr <| RG.mv rfl rfl ?_
  have hm0 := Rep.mv h0_0 hT9
  refine RG.vv (FV.len (xs := a0) Tryz.underlying121 rfl hm0) rfl <| RG.mv rfl rfl <| RG.nil <| MX.block ?_
  obtain ⟨o0, ho163, hh165⟩ := bind_in2 h
  refine MX.loop (α := Nat × (List UInt64) × (List Value)) (fun ⟨i0, xs0, cs1⟩ => [(1, .int .i64 a1), (5, (.slice (some ⟨b0, 0, none⟩) s4.toNat s4.toNat)), (15, v0_0), (16, .int .i64 ((a0.length : Nat) : Int)), (17, .int .i64 ((i0 : Nat) : Int))]) (fun ⟨i0, xs0, cs1⟩ wx0 => St w wx0 [.row w.heap.size 33 (Rep.size UInt64) (.slice (some ⟨b0, 0, none⟩) s4.toNat s4.toNat) xs0.length cs1] ∧ Tr w7 [.row w.heap.size 33 (Rep.size UInt64) (.slice (some ⟨b0, 0, none⟩) s4.toNat s4.toNat) xs6.length ((List.replicate s4.toNat [.int .u64 0]).flatten)] wx0 [.row w.heap.size 33 (Rep.size UInt64) (.slice (some ⟨b0, 0, none⟩) s4.toNat s4.toNat) xs0.length cs1] ∧ Cells wx0 (bl [.row w.heap.size 33 (Rep.size UInt64) (.slice (some ⟨b0, 0, none⟩) s4.toNat s4.toNat) xs0.length cs1] ++ L) cs1 xs0) (fun ⟨i0, xs0, cs1⟩ => (i0, xs0)) (0, xs6, (List.replicate s4.toNat [.int .u64 0]).flatten) ho163 ⟨rfl, rfl, rfl, rfl, rfl, trivial⟩ ⟨hS8, Tr.refl _ _, hc0⟩ ?_
  rintro J0 ⟨i0, xs0, cs1⟩ wx0 hJ167 ⟨hS1, hT0, hc1⟩ h
  unfold wide_moved_l1 at h
  try dsimp only at h
  refine MX.sr <| RG.vv (FV.lssN (i := i0) (j := a0.length) rfl rfl) rfl <| RG.nil <| MX.seq <| MX.ifd rfl h (fun c0 h => ?_) (fun c0 h => ?_)
  ·skip
   refine MX.skip <| MX.seq <| MX.block <| MX.sr <| RG.mv rfl rfl ?_
   obtain ⟨x0, hx0, h⟩ := bind_in h
   have hm1 := Rep.mv h0_0 (Tr.trans hT9 hT0)
   obtain ⟨A170, c1, he0, hk0, cs2, hr0, hm2⟩ := Rep.nth hm1 hx0
   have he1 : cs2 = [.int .u64 (x0.toNat : Int)] := hr0; subst he1
   refine RG.vv (FV.idxAddr (m := 1) (i := i0) (by kernel_rfl) rfl he0 rfl rfl hk0) rfl <| RG.vv (FV.load1 (by kernel_rfl) rfl (hm2 0 _ rfl)) rfl <| RG.sg rfl rfl <| RG.sg rfl rfl <| RG.nil <| MX.seq ?_
   refine MX.drawT 13 tb216_5 (by kernel_rfl) (by kernel_rfl) (by kernel_rfl) (fun kt0 kp0 => ?_)
   refine RD.vw 0 1 kt0 rfl kp0 (fun _ => FV.move rfl) rfl <| RD.vw 1 3 kt0 rfl kp0 (fun _ => FV.move rfl) rfl <| RD.vw 2 7 kt0 rfl kp0 (fun _ => FV.move rfl) rfl ?_
   obtain ⟨s0, hs0, h⟩ := bind_in h
   refine RD.vw 3 15 kt0 rfl kp0 (fun _ => FV.quoc (i := a1) (j := 64) rfl rfl hs0) rfl ?_
   obtain ⟨s1, hs1, h⟩ := bind_in h
   refine RD.vw 4 31 kt0 rfl kp0 (fun _ => FV.addc (i := ((i0 : Nat) : Int)) (j := s0) rfl rfl hs1) rfl ?_
   obtain ⟨x1, hx1, h⟩ := bind_in h
   obtain ⟨hi0, hx2⟩ := idx_in hx1
   obtain ⟨A186, c2, he2, hk1, cs3, hr1, hm3⟩ := St.nth (α := UInt64) hS1 .hd hc1 hx2
   obtain ⟨b1, c3, he3⟩ := St.nthOwn (α := UInt64) hS1 .hd hk1
   obtain rfl : A186 = ⟨b1, 0, none⟩ := by rw [he3] at he2; cases he2; rfl
   have he4 : cs3 = [.int .u64 (x1.toNat : Int)] := hr1; subst he4
   refine RD.vw 5 63 kt0 rfl kp0 (fun _ => FV.idxAddr (m := 1) (i := s1.toNat) (by kernel_rfl) rfl he2 rfl hi0 hk1) rfl <| RD.vx 6 127 14336 kt0 rfl kp0 (FV.load1 (by kernel_rfl) rfl (hm3 0 _ rfl)) rfl <| RD.vw 7 255 kt0 rfl kp0 (fun _ => FV.move rfl) rfl <| RD.vw 8 511 kt0 rfl kp0 (fun _ => FV.move rfl) rfl ?_
   obtain ⟨s5, hs5, h⟩ := bind_in h
   refine RD.vw 9 1023 kt0 rfl kp0 (fun _ => FV.remc (i := a1) (j := 64) rfl rfl hs5) rfl ?_
   obtain ⟨k198, hk2, h⟩ := bind_in h
   refine RD.vw 10 2047 kt0 rfl kp0 (fun _ => FV.shlI (a := x0) (i := s5) rfl rfl hk2) rfl <| RD.vw 11 4095 kt0 rfl kp0 (fun _ => FV.orU (a := x1) (b := shlU x0 k198) rfl rfl) rfl <| RD.vw 12 8191 kt0 rfl kp0 (fun _ => FV.idxAddr (m := 1) (i := s1.toNat) (by kernel_rfl) rfl he2 rfl hi0 hk1) rfl ?_
   obtain ⟨xs1, hxs199, h⟩ := bind_in h
   refine RD.one (i := 13) (readyD_ok kt0 (by kernel_rfl)) (RO.acts (m' := 16383) (stepC_ok kt0 (by kernel_rfl)) rfl rfl .plain (Acts.set (α := UInt64) (i := s1.toNat) (F := fun cs' => [.row w.heap.size 33 (Rep.size UInt64) (.slice (some ⟨b0, 0, none⟩) s4.toNat s4.toNat) xs1.length cs']) hxs199 hS1 he3 (fun _ => .hd) hc1 rfl rfl rfl rfl rfl (by kernel_rfl)) (fun w0 ⟨cs4, hS2, hT1, hc2⟩ => ?_))
   refine RD.done (doneD_ok kt0 (by kernel_rfl)) <| MX.sr <| RG.mv rfl rfl ?_
   obtain ⟨s6, hs6, h⟩ := bind_in h
   refine RG.vv (FV.remc (i := a1) (j := 64) rfl rfl hs6) rfl <| RG.vv (FV.gtr (i := s6) (j := 0) rfl rfl) rfl <| RG.nil <| MX.ifd rfl h (fun c4 h => ?_) (fun c4 h => ?_)
   ·skip
    refine MX.region <| RG.mv rfl rfl <| RG.mv rfl rfl <| RG.mv rfl rfl ?_
    obtain ⟨s7, hs7, h⟩ := bind_in h
    refine RG.vv (FV.quoc (i := a1) (j := 64) rfl rfl hs7) rfl ?_
    obtain ⟨s8, hs8, h⟩ := bind_in h
    refine RG.vv (FV.addc (i := ((i0 : Nat) : Int)) (j := s7) rfl rfl hs8) rfl ?_
    obtain ⟨s9, hs9, h⟩ := bind_in h
    refine RG.vv (FV.addc (i := s8) (j := 1) rfl rfl hs9) rfl <| RG.mv rfl rfl <| RG.mv rfl rfl ?_
    obtain ⟨s10, hs10, h⟩ := bind_in h
    refine RG.vv (FV.remc (i := a1) (j := 64) rfl rfl hs10) rfl ?_
    obtain ⟨s11, hs11, h⟩ := bind_in h
    refine RG.vv (FV.subc (i := 64) (j := s10) rfl rfl hs11) rfl ?_
    obtain ⟨k212, hk3, h⟩ := bind_in h
    refine RG.vv (FV.shrI (a := x0) (i := s11) rfl rfl hk3) rfl ?_
    obtain ⟨x2, hx3, h⟩ := bind_in h
    obtain ⟨hi1, hx4⟩ := idx_in hx3
    obtain ⟨A216, c5, he5, hk4, cs5, hr2, hm4⟩ := St.nth (α := UInt64) hS2 .hd hc2 hx4
    obtain ⟨b2, c6, he6⟩ := St.nthOwn (α := UInt64) hS2 .hd hk4
    obtain rfl : A216 = ⟨b2, 0, none⟩ := by rw [he6] at he5; cases he5; rfl
    have he7 : cs5 = [.int .u64 (x2.toNat : Int)] := hr2; subst he7
    refine RG.vv (FV.idxAddr (m := 1) (i := s9.toNat) (by kernel_rfl) rfl he5 rfl hi1 hk4) rfl ?_
    obtain ⟨xs2, hxs227, h⟩ := bind_in h
    refine RG.acts' .plain (Acts.set (α := UInt64) (i := s9.toNat) (F := fun cs' => [.row w.heap.size 33 (Rep.size UInt64) (.slice (some ⟨b0, 0, none⟩) s4.toNat s4.toNat) xs2.length cs']) hxs227 hS2 he6 (fun _ => .hd) hc2 rfl rfl rfl rfl rfl (by kernel_rfl)) (fun w1 ⟨cs6, hS3, hT2, hc3⟩ => ?_)
    refine RG.nil <| MX.inBlock <| MX.region <| RG.vv (FV.addN (i := i0) (j := 1) rfl rfl (by omega)) rfl <| RG.mv rfl rfl <| RG.nil ?_
    exact hJ167 (i0 + 1, xs2, cs6) _ _ ⟨rfl, rfl, rfl, rfl, rfl, trivial⟩ ⟨hS3, (Tr.trans hT0 (Tr.trans hT1 hT2)), hc3⟩ h
   refine MX.skip <| MX.inBlock <| MX.region <| RG.vv (FV.addN (i := i0) (j := 1) rfl rfl (by omega)) rfl <| RG.mv rfl rfl <| RG.nil ?_
   exact hJ167 (i0 + 1, xs1, cs4) _ _ ⟨rfl, rfl, rfl, rfl, rfl, trivial⟩ ⟨hS2, (Tr.trans hT0 hT1), hc2⟩ h
  refine MX.exit rfl ?_
  have h := hh165 _ h
  try dsimp only at h
  refine MX.sr <| RG.mv rfl rfl ?_
  have hr3 := St.freeze (α := UInt64) hS1 .hd hc1 hL
  have hS4 := St.delS hS1 .hd
  have hT3 := St.delT hS1 .hd
  have hr4 := Rep.at_ (α := UInt64) (v := (.slice (some ⟨b0, 0, none⟩) s4.toNat s4.toNat)) (xs := xs0) hS4 L hr3
  obtain ⟨y0, hy0, h⟩ := bind_in h
  refine RG.call' (fst := []) (cap := []) .plain body169 rfl (evs_cons rfl (evs_cons rfl evs_nil)) (fun w9 hw9 => wide_trimmed_c n _ w9 (hS4.hL hL hw9) false xs0 (Rep.keep0 hr4 hw9) hy0) rfl (fun w2 vu0 hag0 ⟨v0, hu_, hr5⟩ => ?_)
  subst hu_
  obtain ⟨hS5, hT4⟩ := hS4.agr hag0
  refine RG.vv (FV.field1 (cs := [.bool y0.fBelow, v0]) (off := 1) (m := 1) (by kernel_rfl) (by kernel_rfl) rfl rfl) rfl <| RG.sg rfl rfl <| RG.nil <| MX.ret rfl <| RT.leave hb0 Tryz.func216 rfl (.cons (.tmp rfl) .nil) rfl ?_
  obtain rfl := Option.some.inj h
  exact ⟨hS5.ag, fun w9 hw9 => ⟨v0, rfl, Rep.keep0 (Rep.dropS hS5 hr5) hw9⟩⟩
end Go.Proofs.YtmhgoecnjleagaaGreatDoor
