/- Functions of the program, and what they give: part 7. -/
import Derived.Test.YtmhgoecnjleagaaGreatDoorST6
namespace Go.Proofs.YtmhgoecnjleagaaGreatDoor
open Go Go.RowKit
set_option maxRecDepth 4000
set_option maxHeartbeats 4000000

def wardmoteref21_Labels_l1 (_n : Nat) (a0 : List Int) (a1 : Int) (J0 : Nat → Option (Bool ⊕ Unit)) : Nat → Option (Bool ⊕ Unit)
  | i0 => (if i0 < a0.length then (a0[i0]?).bind fun x0 => (if x0 < 0 then some (.inl false) else (if a1 ≤ x0 then some (.inl false) else J0 (i0 + 1))) else some (.inr ()))
def wardmoteref21_Labels_p (n : Nat) (a0 : List Int) (a1 : Int) : Option Bool :=
  thn (loopF (wardmoteref21_Labels_l1 n a0 a1) n 0) (fun _ => (if 1 ≤ a0.length then some (decide (a0.length ≤ 64)) else some false))
theorem wardmoteref21_Labels_c (n : Nat) (L : List Nat) (w : World) (_hL : ∀ b ∈ L, b < w.heap.size) (a0 : List Int) {v0_0 : Value} (h0_0 : Rep.R w L [v0_0] a0) (a1 : Int)  {r : Bool} (h : wardmoteref21_Labels_p n a0 a1 = some r) :
    Calls Tryz.prog 121 #[v0_0, .int .i64 a1] w (Gives w fun _ u => u = .bool r) := by
  unfold wardmoteref21_Labels_p at h
  have hS0 := St.start w
  refine MX.start Tryz.func121 rfl rfl rfl (fun _ cs0 hb0 => ?_)
  refine MX.sr <| RG.sg rfl rfl <| RG.nil <| MX.seq <| MX.sr <| RG.sg rfl rfl ?_
  refine RG.nil <| MX.block ?_
  obtain ⟨o0, ho24, hh26⟩ := thn_in h
  refine MX.loop (α := Nat) (fun i0 => [(0, v0_0), (1, .int .i64 a1), (5, .int .i64 ((i0 : Nat) : Int))]) (fun i0 wx0 => St w wx0 [] ∧ Tr w [] wx0 []) (fun i0 => i0) 0 ho24 ⟨rfl, rfl, rfl, trivial⟩ ⟨hS0, Tr.refl _ _⟩ ?_
  rintro J0 i0 wx0 hJ28 ⟨hS1, hT0⟩ h
  unfold wardmoteref21_Labels_l1 at h
  try dsimp only at h
  refine MX.seq <| MX.sr <| RG.mv rfl rfl <| RG.mv rfl rfl ?_
  have hm0 := Rep.mv h0_0 hT0
  have hl29 : a0.length ≤ 281474976710656 := Rep.lenle hm0
  refine RG.vv (FV.len (xs := a0) Tryz.underlying46 rfl hm0) rfl <| RG.vv (FV.lssN (i := i0) (j := a0.length) rfl rfl) rfl <| RG.nil <| MX.ifd rfl h (fun c0 h => ?_) (fun c0 h => ?_)
  ·skip
   refine MX.skip <| MX.seq <| MX.block <| MX.sr <| RG.mv rfl rfl <| RG.mv rfl rfl ?_
   obtain ⟨x0, hx0, h⟩ := bind_in h
   obtain ⟨A33, c1, he0, hk0, cs1, hr0, hm1⟩ := Rep.nth hm0 hx0
   have he1 : cs1 = [.int .i64 x0] := hr0; subst he1
   refine RG.vv (FV.idxAddr (m := 1) (i := i0) (by kernel_rfl) rfl he0 rfl rfl hk0) rfl <| RG.vv (FV.load1 (by kernel_rfl) rfl (hm1 0 _ rfl)) rfl <| RG.vv (FV.lss (i := x0) (j := 0) rfl rfl) rfl <| RG.mv rfl rfl <| RG.ifd (s := 17) rfl h (fun c2 h => ?_) (fun c2 h => ?_)
   ·skip
    refine RG.off (.no rfl rfl) rfl <| RG.off (.no rfl rfl) rfl <| RG.off (.no rfl rfl) rfl <| RG.off (.no rfl rfl) rfl <| RG.off (.no rfl rfl) rfl <| RG.off (.no rfl rfl) rfl ?_
    refine RG.vv (FV.pick_t rfl rfl) rfl <| RG.nil <| MX.cond_t rfl <| MX.sr <| RG.sg rfl rfl <| RG.nil ?_
    have h := thn_inl h hh26
    refine MX.ret rfl <| RT.leave hb0 Tryz.func121 rfl (.cons (.tmp rfl) .nil) rfl ?_
    obtain rfl := Option.some.inj h
    exact ⟨hS1.ag, fun w9 hw9 => rfl⟩
   refine RG.val' (.yes rfl rfl) (FV.move rfl) rfl <| RG.val' (.yes rfl rfl) (FV.move rfl) rfl <| RG.val' (.yes rfl rfl) (FV.idxAddr (m := 1) (i := i0) (by kernel_rfl) rfl he0 rfl rfl hk0) rfl <| RG.val' (.yes rfl rfl) (FV.load1 (by kernel_rfl) rfl (hm1 0 _ rfl)) rfl <| RG.val' (.yes rfl rfl) (FV.move rfl) rfl <| RG.val' (.yes rfl rfl) (FV.geq (i := x0) (j := a1) rfl rfl) rfl ?_
   refine RG.vv (FV.pick_f rfl rfl) rfl <| RG.nil <| MX.ifd rfl h (fun c3 h => ?_) (fun c3 h => ?_)
   ·skip
    refine MX.sr <| RG.sg rfl rfl <| RG.nil ?_
    have h := thn_inl h hh26
    refine MX.ret rfl <| RT.leave hb0 Tryz.func121 rfl (.cons (.tmp rfl) .nil) rfl ?_
    obtain rfl := Option.some.inj h
    exact ⟨hS1.ag, fun w9 hw9 => rfl⟩
   refine MX.skip <| MX.inBlock <| MX.region <| RG.mv rfl rfl <| RG.vv (FV.addN (i := i0) (j := 1) rfl rfl (by omega)) rfl <| RG.sg rfl rfl ?_
   refine RG.nil ?_
   exact hJ28 (i0 + 1) _ _ ⟨rfl, rfl, rfl, trivial⟩ ⟨hS1, hT0⟩ h
  refine MX.exit rfl ?_
  have h := thn_inr h hh26
  try dsimp only at h
  refine MX.sr <| RG.mv rfl rfl <| RG.vv (FV.len (xs := a0) Tryz.underlying46 rfl hm0) rfl <| RG.vv (FV.geqN (i := a0.length) (j := 1) rfl rfl) rfl <| RG.mv rfl rfl <| RG.ifd (s := 28) rfl h (fun c4 h => ?_) (fun c4 h => ?_)
  ·skip
   refine RG.val' (.yes rfl rfl) (FV.move rfl) rfl <| RG.val' (.yes rfl rfl) (FV.len (xs := a0) Tryz.underlying46 rfl hm0) rfl <| RG.val' (.yes rfl rfl) (FV.leqN (i := a0.length) (j := 64) rfl rfl) rfl <| RG.vv (FV.pick_t rfl rfl) rfl <| RG.sg rfl rfl <| RG.nil ?_
   refine MX.ret rfl <| RT.leave hb0 Tryz.func121 rfl (.cons (.tmp rfl) .nil) rfl ?_
   obtain rfl := Option.some.inj h
   exact ⟨hS1.ag, fun w9 hw9 => rfl⟩
  refine RG.off (.no rfl rfl) rfl <| RG.off (.no rfl rfl) rfl <| RG.off (.no rfl rfl) rfl <| RG.vv (FV.pick_f rfl rfl) rfl <| RG.sg rfl rfl <| RG.nil ?_
  refine MX.ret rfl <| RT.leave hb0 Tryz.func121 rfl (.cons (.tmp rfl) .nil) rfl ?_
  obtain rfl := Option.some.inj h
  exact ⟨hS1.ag, fun w9 hw9 => rfl⟩
theorem body121 : bodyB Tryz.prog 121 = true := by kernel_rfl
def wardmoteref21_Canon_l1 (_n : Nat) (a0 : List Int) (J0 : Int × Nat × (List Int) × (List Int) → Option (List Int)) : Int × Nat × (List Int) × (List Int) → Option (List Int)
  | (z0, i0, xs0, xs1) => (if i0 < a0.length then (a0[i0]?).bind fun x0 => (idx xs1 x0).bind fun x1 => jn (fun (z1, xs2) => (idx xs2 x0).bind fun x2 => (app xs0 ([x2] : List Int)).bind fun xs3 => J0 (z1, i0 + 1, xs3, xs2)) (fun J1 => (if x1 < 0 then (put xs1 ((x0.toNat : Nat) : Int) z0).bind fun xs4 => (chk (z0 + 1)).bind fun s0 => J1 (s0, xs4) else J1 (z0, xs1))) else some xs0)
def wardmoteref21_Canon_p (n : Nat) (a0 : List Int) : Option ((List Int) × Int) :=
  (wardmoteref21_Labels_p n a0 (8 : Int)).bind fun y1 => (if y1 = true then Option.bind (loopF (wardmoteref21_Canon_l1 n a0) n (0, 0, ([] : List Int), ([(-1 : Int), (-1 : Int), (-1 : Int), (-1 : Int), (-1 : Int), (-1 : Int), (-1 : Int), (-1 : Int)] : List Int))) (fun xs0 => some (xs0, (0 : Int))) else some (([] : List Int), (210 : Int)))
theorem wardmoteref21_Canon_c (n : Nat) (L : List Nat) (w : World) (hL : ∀ b ∈ L, b < w.heap.size) (a0 : List Int) {v0_0 : Value} (h0_0 : Rep.R w L [v0_0] a0)  {r : (List Int) × Int} (h : wardmoteref21_Canon_p n a0 = some r) :
    Calls Tryz.prog 63 #[v0_0] w (Gives w fun w' u => ∃ v0_0 : Value, u = .tuple #[v0_0, .int .i64 r.2] ∧ Rep.R w' L [v0_0] r.1) := by
  unfold wardmoteref21_Canon_p at h
  have hS0 := St.start w
  refine MX.start Tryz.func63 rfl rfl rfl (fun _ cs0 hb0 => ?_)
  refine MX.sr <| RG.sg rfl rfl <| RG.sg rfl rfl <| RG.nil <| MX.seq <| MX.sr ?_
  refine RG.mv rfl rfl ?_
  obtain ⟨y1, hy1, h⟩ := bind_in h
  refine RG.cq (.bool y1) body121 rfl (evs_cons rfl (evs_cons rfl evs_nil)) (fun w9 hw9 => wardmoteref21_Labels_c n _ w9 (hS0.hL0 hL hw9) a0 (Rep.keep0 (Rep.dropS hS0 h0_0) hw9) (8 : Int) hy1) rfl <| RG.vv (FV.not rfl) rfl <| RG.nil <| MX.ifnb rfl h (fun c2 h => ?_) (fun c2 h => ?_)
  ·skip
   refine MX.skip <| MX.sr <| RG.new .plain rfl (Does.build (α := Int) (xs := ([(-1 : Int), (-1 : Int), (-1 : Int), (-1 : Int), (-1 : Int), (-1 : Int), (-1 : Int), (-1 : Int)] : List Int)) (vs := [.int .i64 (-1), .int .i64 (-1), .int .i64 (-1), .int .i64 (-1), .int .i64 (-1), .int .i64 (-1), .int .i64 (-1), .int .i64 (-1)]) (ds' := [.int .i64 (-1), .int .i64 (-1), .int .i64 (-1), .int .i64 (-1), .int .i64 (-1), .int .i64 (-1), .int .i64 (-1), .int .i64 (-1)]) rfl hS0 el45 rfl (evs_cons rfl (evs_cons rfl (evs_cons rfl (evs_cons rfl (evs_cons rfl (evs_cons rfl (evs_cons rfl (evs_cons rfl evs_nil)))))))) (by kernel_rfl) rfl) (fun w4 b7 hS5 hT6 => ?_)
   have hc8 := Cells.at_ (cs := [.int .i64 (-1), .int .i64 (-1), .int .i64 (-1), .int .i64 (-1), .int .i64 (-1), .int .i64 (-1), .int .i64 (-1), .int .i64 (-1)]) (xs := (([(-1 : Int), (-1 : Int), (-1 : Int), (-1 : Int), (-1 : Int), (-1 : Int), (-1 : Int), (-1 : Int)] : List Int) : List Int)) hS5 L (Cells.cons (cs := [.int .i64 (-1)]) (ds := [.int .i64 (-1), .int .i64 (-1), .int .i64 (-1), .int .i64 (-1), .int .i64 (-1), .int .i64 (-1), .int .i64 (-1)]) rfl (Cells.cons (cs := [.int .i64 (-1)]) (ds := [.int .i64 (-1), .int .i64 (-1), .int .i64 (-1), .int .i64 (-1), .int .i64 (-1), .int .i64 (-1)]) rfl (Cells.cons (cs := [.int .i64 (-1)]) (ds := [.int .i64 (-1), .int .i64 (-1), .int .i64 (-1), .int .i64 (-1), .int .i64 (-1)]) rfl (Cells.cons (cs := [.int .i64 (-1)]) (ds := [.int .i64 (-1), .int .i64 (-1), .int .i64 (-1), .int .i64 (-1)]) rfl (Cells.cons (cs := [.int .i64 (-1)]) (ds := [.int .i64 (-1), .int .i64 (-1), .int .i64 (-1)]) rfl (Cells.cons (cs := [.int .i64 (-1)]) (ds := [.int .i64 (-1), .int .i64 (-1)]) rfl (Cells.cons (cs := [.int .i64 (-1)]) (ds := [.int .i64 (-1)]) rfl (Cells.cons (cs := [.int .i64 (-1)]) (ds := []) rfl (Cells.nil _ _)))))))))
   refine RG.sg rfl rfl <| RG.nil <| MX.sr <| RG.sg rfl rfl <| RG.nil <| MX.sr ?_
   refine RG.sg rfl rfl <| RG.nil <| MX.seq <| MX.sr <| RG.sg rfl rfl <| RG.nil ?_
   refine MX.block ?_
   have hS1 := hS5.nilRow 3 (Rep.size Int)
   have hT0 := St.nilRowT hS5 3 (Rep.size Int)
   have hc0 := Cells.at_ (cs := []) (xs := ([] : List Int)) hS1 L (Cells.nil _ _)
   have hm0 := Cells.mv hc8 hT0
   obtain ⟨o0, ho223, hh225⟩ := bind_in2 h
   refine MX.loop (α := Int × Nat × (List Int) × (List Int) × Value × (List Value) × (List Value)) (fun ⟨z0, i0, xs0, xs1, v0, cs1, cs2⟩ => [(0, v0_0), (4, (.slice (some ⟨b7, 0, none⟩) 8 8)), (5, .int .i64 z0), (6, v0), (7, .int .i64 ((i0 : Nat) : Int))]) (fun ⟨z0, i0, xs0, xs1, v0, cs1, cs2⟩ wx0 => St w wx0 [.row w.heap.size 3 (Rep.size Int) v0 xs0.length cs1, .row w.heap.size 3 (Rep.size Int) (.slice (some ⟨b7, 0, none⟩) 8 8) xs1.length cs2] ∧ Tr w4 [.row w.heap.size 3 (Rep.size Int) (.slice none 0 0) (([] : List Int).length) [], .row w.heap.size 3 (Rep.size Int) (.slice (some ⟨b7, 0, none⟩) 8 8) (([(-1 : Int), (-1 : Int), (-1 : Int), (-1 : Int), (-1 : Int), (-1 : Int), (-1 : Int), (-1 : Int)] : List Int).length) [.int .i64 (-1), .int .i64 (-1), .int .i64 (-1), .int .i64 (-1), .int .i64 (-1), .int .i64 (-1), .int .i64 (-1), .int .i64 (-1)]] wx0 [.row w.heap.size 3 (Rep.size Int) v0 xs0.length cs1, .row w.heap.size 3 (Rep.size Int) (.slice (some ⟨b7, 0, none⟩) 8 8) xs1.length cs2] ∧ Cells wx0 (bl [.row w.heap.size 3 (Rep.size Int) v0 xs0.length cs1, .row w.heap.size 3 (Rep.size Int) (.slice (some ⟨b7, 0, none⟩) 8 8) xs1.length cs2] ++ L) cs1 xs0 ∧ Cells wx0 (bl [.row w.heap.size 3 (Rep.size Int) v0 xs0.length cs1, .row w.heap.size 3 (Rep.size Int) (.slice (some ⟨b7, 0, none⟩) 8 8) xs1.length cs2] ++ L) cs2 xs1) (fun ⟨z0, i0, xs0, xs1, v0, cs1, cs2⟩ => (z0, i0, xs0, xs1)) (0, 0, ([] : List Int), ([(-1 : Int), (-1 : Int), (-1 : Int), (-1 : Int), (-1 : Int), (-1 : Int), (-1 : Int), (-1 : Int)] : List Int), (.slice none 0 0), [], [.int .i64 (-1), .int .i64 (-1), .int .i64 (-1), .int .i64 (-1), .int .i64 (-1), .int .i64 (-1), .int .i64 (-1), .int .i64 (-1)]) ho223 ⟨rfl, rfl, rfl, rfl, rfl, trivial⟩ ⟨hS1, Tr.refl _ _, hc0, hm0⟩ ?_
   rintro J0 ⟨z0, i0, xs0, xs1, v0, cs1, cs2⟩ wx0 hJ227 ⟨hS2, hT1, hc1, hc2⟩ h
   unfold wardmoteref21_Canon_l1 at h
   try dsimp only at h
   refine MX.seq <| MX.sr <| RG.mv rfl rfl <| RG.mv rfl rfl ?_
   have hm1 := Rep.mv h0_0 (Tr.trans hT6 (Tr.trans hT0 hT1))
   have hl228 : a0.length ≤ 281474976710656 := Rep.lenle hm1
   refine RG.vv (FV.len (xs := a0) Tryz.underlying46 rfl hm1) rfl <| RG.vv (FV.lssN (i := i0) (j := a0.length) rfl rfl) rfl <| RG.nil <| MX.ifd rfl h (fun c0 h => ?_) (fun c0 h => ?_)
   ·skip
    refine MX.skip <| MX.seq <| MX.block <| MX.seq <| MX.sr <| RG.mv rfl rfl ?_
    refine RG.mv rfl rfl <| RG.mv rfl rfl ?_
    obtain ⟨x0, hx0, h⟩ := bind_in h
    obtain ⟨A232, c1, he0, hk0, cs3, hr0, hm2⟩ := Rep.nth hm1 hx0
    have he1 : cs3 = [.int .i64 x0] := hr0; subst he1
    refine RG.vv (FV.idxAddr (m := 1) (i := i0) (by kernel_rfl) rfl he0 rfl rfl hk0) rfl <| RG.vv (FV.load1 (by kernel_rfl) rfl (hm2 0 _ rfl)) rfl ?_
    obtain ⟨x1, hx1, h⟩ := bind_in h
    obtain ⟨hi0, hx2⟩ := idx_in hx1
    obtain ⟨A243, c3, he2, hk1, cs4, hr1, hm3⟩ := St.nth (α := Int) hS2 (.tl .hd) hc2 hx2
    obtain ⟨b0, c4, he3⟩ := St.nthOwn (α := Int) hS2 (.tl .hd) hk1
    obtain rfl : A243 = ⟨b0, 0, none⟩ := by rw [he3] at he2; cases he2; rfl
    have he4 : cs4 = [.int .i64 x1] := hr1; subst he4
    refine RG.vv (FV.idxAddr (m := 1) (i := x0.toNat) (by kernel_rfl) rfl he2 rfl hi0 hk1) rfl <| RG.vv (FV.load1 (by kernel_rfl) rfl (hm3 0 _ rfl)) rfl <| RG.vv (FV.lss (i := x1) (j := 0) rfl rfl) rfl <| RG.nil <| MX.join (α := Int × (List Int) × (List Value)) (fun ⟨z1, xs2, cs5⟩ => [(0, v0_0), (4, (.slice (some ⟨b7, 0, none⟩) 8 8)), (5, .int .i64 z1), (6, v0), (7, .int .i64 ((i0 : Nat) : Int))]) (fun ⟨z1, xs2, cs5⟩ wx1 => St w wx1 [.row w.heap.size 3 (Rep.size Int) v0 xs0.length cs1, .row w.heap.size 3 (Rep.size Int) (.slice (some ⟨b7, 0, none⟩) 8 8) xs2.length cs5] ∧ Tr wx0 [.row w.heap.size 3 (Rep.size Int) v0 xs0.length cs1, .row w.heap.size 3 (Rep.size Int) (.slice (some ⟨b7, 0, none⟩) 8 8) xs1.length cs2] wx1 [.row w.heap.size 3 (Rep.size Int) v0 xs0.length cs1, .row w.heap.size 3 (Rep.size Int) (.slice (some ⟨b7, 0, none⟩) 8 8) xs2.length cs5] ∧ Cells wx1 (bl [.row w.heap.size 3 (Rep.size Int) v0 xs0.length cs1, .row w.heap.size 3 (Rep.size Int) (.slice (some ⟨b7, 0, none⟩) 8 8) xs2.length cs5] ++ L) cs5 xs2) (fun ⟨z1, xs2, cs5⟩ => (z1, xs2)) h ?_ ?_
    ·skip
     rintro ⟨z1, xs2, cs5⟩ wx1 ⟨hS3, hT2, hc3⟩ h
     try dsimp only at h
     refine MX.region <| RG.mv rfl rfl <| RG.mv rfl rfl <| RG.mv rfl rfl <| RG.mv rfl rfl ?_
     have hm4 := Rep.mv h0_0 (Tr.trans hT6 (Tr.trans hT0 (Tr.trans hT1 hT2)))
     obtain ⟨A271, c5, he5, hk2, cs6, hr2, hm5⟩ := Rep.nth hm4 hx0
     have he6 : cs6 = [.int .i64 x0] := hr2; subst he6
     refine RG.vv (FV.idxAddr (m := 1) (i := i0) (by kernel_rfl) rfl he5 rfl rfl hk2) rfl <| RG.vv (FV.load1 (by kernel_rfl) rfl (hm5 0 _ rfl)) rfl ?_
     obtain ⟨x2, hx3, h⟩ := bind_in h
     obtain ⟨hi1, hx4⟩ := idx_in hx3
     obtain ⟨A283, c6, he7, hk3, cs7, hr3, hm6⟩ := St.nth (α := Int) hS3 (.tl .hd) hc3 hx4
     obtain ⟨b1, c7, he8⟩ := St.nthOwn (α := Int) hS3 (.tl .hd) hk3
     obtain rfl : A283 = ⟨b1, 0, none⟩ := by rw [he8] at he7; cases he7; rfl
     have he9 : cs7 = [.int .i64 x2] := hr3; subst he9
     refine RG.vv (FV.idxAddr (m := 1) (i := x0.toNat) (by kernel_rfl) rfl he7 rfl hi1 hk3) rfl <| RG.vv (FV.load1 (by kernel_rfl) rfl (hm6 0 _ rfl)) rfl <| RG.new .plain rfl (Does.build (α := Int) (xs := ([x2] : List Int)) (vs := [.int .i64 x2]) (ds' := [.int .i64 x2]) rfl hS3 el46 rfl (evs_cons rfl evs_nil) (by kernel_rfl) rfl) (fun w0 b2 hS4 hT3 => ?_)
     have hc4 := Cells.at_ (cs := [.int .i64 x2]) (xs := (([x2] : List Int) : List Int)) hS4 L (Cells.cons (cs := [.int .i64 x2]) (ds := []) rfl (Cells.nil _ _))
     obtain ⟨xs3, hxs300, h⟩ := bind_in h
     have hm7 := Cells.mv hc1 (Tr.trans hT2 hT3)
     refine RG.doesL .plain rfl (DoesL.app (α := Int) (ys := ([x2] : List Int)) (F := fun v' cs' => [.row w.heap.size 3 (Rep.size Int) (.slice (some ⟨b2, 0, none⟩) 1 1) (([x2] : List Int).length) [.int .i64 x2], .row w.heap.size 3 (Rep.size Int) v' xs3.length cs', .row w.heap.size 3 (Rep.size Int) (.slice (some ⟨b7, 0, none⟩) 8 8) xs2.length cs5]) hxs300 hS4 (fun _ _ => (.tl .hd)) el46 rfl rfl hm7 (Src.row (α := Int) hS4 .hd hc4)) (fun v1 w1 ⟨cs8, hS6, hT4, hc5⟩ => ?_)
     refine RG.sg rfl rfl <| RG.nil <| MX.inBlock <| MX.region <| RG.mv rfl rfl <| RG.vv (FV.addN (i := i0) (j := 1) rfl rfl (by omega)) rfl ?_
     refine RG.sg rfl rfl <| RG.nil ?_
     obtain ⟨hS7, hT5⟩ := St.arrB hS6 (.one (.tl .hd) (.one (.tl .hd) .done))
     have hm8 := Cells.mv hc5 hT5
     have hm9 := Cells.mv hc3 (Tr.trans hT3 (Tr.trans hT4 hT5))
     exact hJ227 (z1, i0 + 1, xs3, xs2, v1, cs8, cs5) _ _ ⟨rfl, rfl, rfl, rfl, rfl, trivial⟩ ⟨hS7, (Tr.trans hT1 (Tr.trans hT2 (Tr.trans hT3 (Tr.trans hT4 hT5)))), hm8, hm9⟩ h
    ·skip
     intro J1 hJ270 h
     try dsimp only at h
     refine MX.ifd rfl h (fun c8 h => ?_) (fun c8 h => ?_)
     ·skip
      refine MX.sr <| RG.mv rfl rfl <| RG.mv rfl rfl <| RG.mv rfl rfl <| RG.vv (FV.idxAddr (m := 1) (i := i0) (by kernel_rfl) rfl he0 rfl rfl hk0) rfl <| RG.vv (FV.load1 (by kernel_rfl) rfl (hm2 0 _ rfl)) rfl ?_
      refine RG.mv rfl rfl <| RG.vv (FV.idxAddr (m := 1) (i := x0.toNat) (by kernel_rfl) rfl he2 rfl hi0 hk1) rfl ?_
      obtain ⟨xs4, hxs314, h⟩ := bind_in h
      refine RG.acts' .plain (Acts.set (α := Int) (i := x0.toNat) (F := fun cs' => [.row w.heap.size 3 (Rep.size Int) v0 xs0.length cs1, .row w.heap.size 3 (Rep.size Int) (.slice (some ⟨b7, 0, none⟩) 8 8) xs4.length cs']) hxs314 hS2 he3 (fun _ => (.tl .hd)) hc2 rfl rfl rfl rfl rfl (by kernel_rfl)) (fun w2 ⟨cs9, hS8, hT7, hc6⟩ => ?_)
      refine RG.nil <| MX.region <| RG.mv rfl rfl ?_
      obtain ⟨s0, hs0, h⟩ := bind_in h
      refine RG.vv (FV.addc (i := z0) (j := 1) rfl rfl hs0) rfl <| RG.sg rfl rfl <| RG.nil ?_
      exact hJ270 (s0, xs4, cs9) _ _ ⟨rfl, rfl, rfl, rfl, rfl, trivial⟩ ⟨hS8, hT7, hc6⟩ h
     refine MX.skip ?_
     exact hJ270 (z0, xs1, cs2) _ _ ⟨rfl, rfl, rfl, rfl, rfl, trivial⟩ ⟨hS2, Tr.refl _ _, hc2⟩ h
   refine MX.exit rfl ?_
   have h := hh225 _ h
   try dsimp only at h
   refine MX.sr <| RG.mv rfl rfl <| RG.sg rfl rfl <| RG.sg rfl rfl <| RG.nil <| MX.ret rfl ?_
   have hr4 := St.freeze (α := Int) hS2 .hd hc1 hL
   have hS9 := St.delS hS2 .hd
   have hT8 := St.delT hS2 .hd
   have hr5 := Rep.at_ (α := Int) (v := v0) (xs := xs0) hS9 L hr4
   refine RT.leave hb0 Tryz.func63 rfl (.cons (.tmp rfl) (.cons (.tmp rfl) .nil)) rfl ?_
   obtain rfl := Option.some.inj h
   exact ⟨hS9.ag, fun w9 hw9 => ⟨v0, rfl, Rep.keep0 (Rep.dropS hS9 hr5) hw9⟩⟩
  refine MX.sr <| RG.sg rfl rfl <| RG.sg rfl rfl <| RG.nil <| MX.ret rfl ?_
  have hr6 := Rep.nilAt (α := Int) hS0 L
  refine RT.leave hb0 Tryz.func63 rfl (.cons (.tmp rfl) (.cons (.tmp rfl) .nil)) rfl ?_
  obtain rfl := Option.some.inj h
  have hr7 := Rep.nilAt (α := Int) hS0 L
  exact ⟨hS0.ag, fun w9 hw9 => ⟨(.slice none 0 0), rfl, Rep.keep0 (Rep.dropS hS0 hr7) hw9⟩⟩
def tb17_5 : List (Nat × Nat × Nat) := [(0, 16384, 16), (0, 32768, 2), (0, 65536, 32), (6, 131072, 98304), (0, 262144, 2), (16, 524288, 262144), (32, 1048576, 524288), (64, 2097152, 1048576), (128, 4194304, 2097152), (264, 8388608, 4325376), (512, 16777216, 8388608), (1033, 33554432, 16793600), (4095, 16, 33554432)]
theorem body61 : bodyB Tryz.prog 61 = true := by kernel_rfl
theorem body62 : bodyB Tryz.prog 62 = true := by kernel_rfl
theorem body63 : bodyB Tryz.prog 63 = true := by kernel_rfl
def wardmoteref21_Draft_Loose_l1 (_n : Nat) (y0 : (List Int) × Int) (J0 : Int × Nat → Option Int) : Int × Nat → Option Int
  | (z0, i0) => (if i0 < y0.1.length then (y0.1[i0]?).bind fun x0 => (chk (x0 + 1)).bind fun s0 => J0 (max z0 s0, i0 + 1) else some z0)
def wardmoteref21_Draft_Loose_l2 (n : Nat) (a0 : TDraft) (J0 : Int × (List Int) → Option (List Int)) : Int × (List Int) → Option (List Int)
  | (z0, xs0) => (wardmoteref21_Draft_Units_p n a0).bind fun y0 => (if z0 < y0 then (wardmoteref21_Draft_label_p n a0 z0).bind fun y1 => (remI y1 ((1 + ((a0.fK % (8 : UInt8)).toNat) : Nat) : Int)).bind fun s0 => (app xs0 ([s0] : List Int)).bind fun xs1 => (chk (z0 + 1)).bind fun s1 => J0 (s1, xs1) else some xs0)
def wardmoteref21_Draft_Loose_p (n : Nat) (a0 : TDraft) : Option ((List Int) × Int) :=
  Option.bind (loopF (wardmoteref21_Draft_Loose_l2 n a0) n (0, ([] : List Int))) (fun xs0 => (wardmoteref21_Canon_p n xs0).bind fun y0 => Option.bind (loopF (wardmoteref21_Draft_Loose_l1 n y0) n (0, 0)) (fun z0 => some (y0.1, z0)))
theorem wardmoteref21_Draft_Loose_c (n : Nat) (L : List Nat) (w : World) (hL : ∀ b ∈ L, b < w.heap.size) (a0 : TDraft) {v0_1 : Value} (h0_1 : Rep.R w L [v0_1] a0.fParents) {v0_2 : Value} (h0_2 : Rep.R w L [v0_2] a0.fMore) {v0_3 : Value} (h0_3 : Rep.R w L [v0_3] a0.fLabels)  {r : (List Int) × Int} (h : wardmoteref21_Draft_Loose_p n a0 = some r) :
    Calls Tryz.prog 17 #[.agg #[.int .u8 (a0.fN.toNat : Int), v0_1, v0_2, v0_3, .int .u8 (a0.fK.toNat : Int)]] w (Gives w fun w' u => ∃ v0_0 : Value, u = .tuple #[v0_0, .int .i64 r.2] ∧ Rep.R w' L [v0_0] r.1) := by
  unfold wardmoteref21_Draft_Loose_p at h
  have hS0 := St.start w
  refine MX.start Tryz.func17 rfl rfl rfl (fun _ cs0 hb0 => ?_)
  refine MX.sr <| RG.new .plain rfl (Does.box (vs := [.int .u8 (a0.fN.toNat : Int), v0_1, v0_2, v0_3, .int .u8 (a0.fK.toNat : Int)]) hS0 rfl rfl) (fun w2 b5 hS3 hT4 => ?_)
  refine RG.sg rfl rfl <| RG.sg rfl rfl <| RG.nil <| MX.sr <| RG.sg rfl rfl <| RG.nil ?_
  refine MX.seq <| MX.sr <| RG.sg rfl rfl <| RG.nil <| MX.block ?_
  have hS7 := hS3.nilRow 3 (Rep.size Int)
  have hT8 := St.nilRowT hS3 3 (Rep.size Int)
  have hc9 := Cells.at_ (cs := []) (xs := ([] : List Int)) hS7 L (Cells.nil _ _)
  obtain ⟨o0, ho83, hh85⟩ := bind_in2 h
  refine MX.loop (α := Int × (List Int) × Value × (List Value)) (fun ⟨z0, xs0, v0, cs1⟩ => [(1, .pointer (some ⟨b5, 0, none⟩)), (4, v0), (5, .int .i64 z0)]) (fun ⟨z0, xs0, v0, cs1⟩ wx0 => St w wx0 [.row w.heap.size 3 (Rep.size Int) v0 xs0.length cs1, .cells b5 [.int .u8 (a0.fN.toNat : Int), v0_1, v0_2, v0_3, .int .u8 (a0.fK.toNat : Int)] 25] ∧ Tr w2 [.row w.heap.size 3 (Rep.size Int) (.slice none 0 0) (([] : List Int).length) [], .cells b5 [.int .u8 (a0.fN.toNat : Int), v0_1, v0_2, v0_3, .int .u8 (a0.fK.toNat : Int)] 25] wx0 [.row w.heap.size 3 (Rep.size Int) v0 xs0.length cs1, .cells b5 [.int .u8 (a0.fN.toNat : Int), v0_1, v0_2, v0_3, .int .u8 (a0.fK.toNat : Int)] 25] ∧ Cells wx0 (bl [.row w.heap.size 3 (Rep.size Int) v0 xs0.length cs1, .cells b5 [.int .u8 (a0.fN.toNat : Int), v0_1, v0_2, v0_3, .int .u8 (a0.fK.toNat : Int)] 25] ++ L) cs1 xs0) (fun ⟨z0, xs0, v0, cs1⟩ => (z0, xs0)) (0, ([] : List Int), (.slice none 0 0), []) ho83 ⟨rfl, rfl, rfl, trivial⟩ ⟨hS7, Tr.refl _ _, hc9⟩ ?_
  rintro J0 ⟨z0, xs0, v0, cs1⟩ wx0 hJ87 ⟨hS1, hT0, hc0⟩ h
  unfold wardmoteref21_Draft_Loose_l2 at h
  try dsimp only at h
  refine MX.seq <| MX.sr <| RG.mv rfl rfl <| RG.vv (FV.loadN (by kernel_rfl) rfl (hS1.memA (.tl .hd))) rfl ?_
  obtain ⟨y0, hy0, h⟩ := bind_in h
  have hm0 := Rep.mv h0_1 (Tr.trans hT4 (Tr.trans hT8 hT0))
  have hm1 := Rep.mv h0_2 (Tr.trans hT4 (Tr.trans hT8 hT0))
  have hm2 := Rep.mv h0_3 (Tr.trans hT4 (Tr.trans hT8 hT0))
  refine RG.cq (.int .i64 y0) body61 rfl (evs_cons rfl evs_nil) (fun w9 hw9 => wardmoteref21_Draft_Units_c n _ w9 (hS1.hL0 hL hw9) a0 (Rep.keep0 (Rep.dropS hS1 hm0) hw9) (Rep.keep0 (Rep.dropS hS1 hm1) hw9) (Rep.keep0 (Rep.dropS hS1 hm2) hw9) hy0) rfl <| RG.vv (FV.lss (i := z0) (j := y0) rfl rfl) rfl <| RG.nil <| MX.ifd rfl h (fun c0 h => ?_) (fun c0 h => ?_)
  ·skip
   refine MX.skip <| MX.seq <| MX.block <| MX.drawT 11 tb17_5 (by kernel_rfl) (by kernel_rfl) (by kernel_rfl) (fun kt0 kp0 => ?_)
   refine RD.vw 0 1 kt0 rfl kp0 (fun _ => FV.move rfl) rfl <| RD.vx 1 3 7688 kt0 rfl kp0 (FV.loadN (by kernel_rfl) rfl (hS1.memA (.tl .hd))) rfl <| RD.vw 2 7 kt0 rfl kp0 (fun _ => FV.move rfl) rfl ?_
   obtain ⟨y1, hy1, h⟩ := bind_in h
   refine RD.cq 3 15 7680 (.int .i64 y1) kt0 rfl kp0 body62 rfl (evs_cons rfl (evs_cons rfl evs_nil)) (fun w9 hw9 => wardmoteref21_Draft_label_c n _ w9 (hS1.hL0 hL hw9) a0 (Rep.keep0 (Rep.dropS hS1 hm0) hw9) (Rep.keep0 (Rep.dropS hS1 hm1) hw9) (Rep.keep0 (Rep.dropS hS1 hm2) hw9) z0 hy1) rfl <| RD.vw 4 31 kt0 rfl kp0 (fun _ => FV.fieldAddr (off := 4) (by kernel_rfl) rfl) rfl <| RD.vx 5 63 8128 kt0 rfl kp0 (FV.load1 (by kernel_rfl) rfl ((hS1.memA (.tl .hd)) 4 _ rfl)) rfl <| RD.vw 6 127 kt0 rfl kp0 (fun _ => FV.rem8 (a := a0.fK) (b := (8 : UInt8)) rfl rfl (by decide)) rfl ?_
   have hu0 := (a0.fK % (8 : UInt8)).toNat_lt
   refine RD.vw 7 255 kt0 rfl kp0 (fun _ => FV.convN (i := (a0.fK % (8 : UInt8)).toNat) Tryz.underlying5 Tryz.underlying3 rfl (by omega)) rfl <| RD.vw 8 511 kt0 rfl kp0 (fun _ => FV.addN (i := 1) (j := (a0.fK % (8 : UInt8)).toNat) rfl rfl (by omega)) rfl ?_
   obtain ⟨s0, hs0, h⟩ := bind_in h
   refine RD.vw 9 1023 kt0 rfl kp0 (fun _ => FV.remc (i := y1) (j := ((1 + ((a0.fK % (8 : UInt8)).toNat) : Nat) : Int)) rfl rfl hs0) rfl <| RD.nu 10 2047 kt0 rfl .plain rfl (Does.build (α := Int) (xs := ([s0] : List Int)) (vs := [.int .i64 s0]) (ds' := [.int .i64 s0]) rfl hS1 el46 rfl (evs_cons rfl evs_nil) (by kernel_rfl) rfl) (fun w0 b0 hS2 hT1 => ?_)
   have hc1 := Cells.at_ (cs := [.int .i64 s0]) (xs := (([s0] : List Int) : List Int)) hS2 L (Cells.cons (cs := [.int .i64 s0]) (ds := []) rfl (Cells.nil _ _))
   obtain ⟨xs1, hxs104, h⟩ := bind_in h
   have hm3 := Cells.mv hc0 hT1
   refine RD.one (i := 11) (readyD_ok kt0 (by kernel_rfl)) (RO.doesL (m' := 4095) (stepC_ok kt0 (by kernel_rfl)) rfl rfl .plain rfl (DoesL.app (α := Int) (ys := ([s0] : List Int)) (F := fun v' cs' => [.row w.heap.size 3 (Rep.size Int) (.slice (some ⟨b0, 0, none⟩) 1 1) (([s0] : List Int).length) [.int .i64 s0], .row w.heap.size 3 (Rep.size Int) v' xs1.length cs', .cells b5 [.int .u8 (a0.fN.toNat : Int), v0_1, v0_2, v0_3, .int .u8 (a0.fK.toNat : Int)] 25]) hxs104 hS2 (fun _ _ => (.tl .hd)) el46 rfl rfl hm3 (Src.row (α := Int) hS2 .hd hc1)) (fun v1 w1 ⟨cs2, hS4, hT2, hc2⟩ => ?_))
   refine RD.one (i := 12) (readyD_ok kt0 (by kernel_rfl)) (RO.val (m' := 8191) (stepC_ok kt0 (by kernel_rfl)) rfl .plain rfl (FV.assign rfl) ?_)
   refine RD.done (doneD_ok kt0 (by kernel_rfl)) <| MX.inBlock <| MX.region <| RG.mv rfl rfl ?_
   obtain ⟨s1, hs1, h⟩ := bind_in h
   refine RG.vv (FV.addc (i := z0) (j := 1) rfl rfl hs1) rfl <| RG.sg rfl rfl <| RG.nil ?_
   obtain ⟨hS5, hT3⟩ := St.arrB hS4 (.one (.tl .hd) (.one (.tl .hd) .done))
   have hm4 := Cells.mv hc2 hT3
   exact hJ87 (s1, xs1, v1, cs2) _ _ ⟨rfl, rfl, rfl, trivial⟩ ⟨hS5, (Tr.trans hT0 (Tr.trans hT1 (Tr.trans hT2 hT3))), hm4⟩ h
  refine MX.exit rfl ?_
  have h := hh85 _ h
  try dsimp only at h
  refine MX.sr <| RG.mv rfl rfl ?_
  have hr0 := St.freeze (α := Int) hS1 .hd hc0 hL
  have hS6 := St.delS hS1 .hd
  have hT5 := St.delT hS1 .hd
  have hr1 := Rep.at_ (α := Int) (v := v0) (xs := xs0) hS6 L hr0
  obtain ⟨y2, hy2, h⟩ := bind_in h
  refine RG.call' (fst := []) (cap := []) .plain body63 rfl (evs_cons rfl evs_nil) (fun w9 hw9 => wardmoteref21_Canon_c n _ w9 (hS6.hL hL hw9) xs0 (Rep.keep0 hr1 hw9) hy2) rfl (fun w3 vu0 hag0 ⟨v2, hu_, hr2⟩ => ?_)
  subst hu_
  obtain ⟨hS8, hT6⟩ := hS6.agr hag0
  refine RG.mv rfl rfl <| RG.vv (FV.extract rfl rfl) rfl <| RG.vv (FV.extract rfl rfl) rfl <| RG.sg rfl rfl <| RG.nil <| MX.sr ?_
  refine RG.sg rfl rfl <| RG.nil <| MX.seq <| MX.sr <| RG.sg rfl rfl <| RG.nil ?_
  refine MX.block ?_
  obtain ⟨hS9, hT7⟩ := St.arrB hS8 .done
  obtain ⟨o1, ho173, hh175⟩ := bind_in2 h
  refine MX.loop (α := Int × Nat) (fun ⟨z1, i0⟩ => [(4, v2), (6, .int .i64 z1), (7, .int .i64 ((i0 : Nat) : Int))]) (fun ⟨z1, i0⟩ wx1 => St w wx1 [] ∧ Tr w3 [] wx1 []) (fun ⟨z1, i0⟩ => (z1, i0)) (0, 0) ho173 ⟨rfl, rfl, rfl, trivial⟩ ⟨hS9, Tr.refl _ _⟩ ?_
  rintro J1 ⟨z1, i0⟩ wx1 hJ177 ⟨hS10, hT9⟩ h
  unfold wardmoteref21_Draft_Loose_l1 at h
  try dsimp only at h
  refine MX.seq <| MX.sr <| RG.mv rfl rfl <| RG.mv rfl rfl ?_
  have hm5 := Rep.mv hr2 (Tr.trans hT7 hT9)
  have hl178 : y2.1.length ≤ 281474976710656 := Rep.lenle hm5
  refine RG.vv (FV.len (xs := y2.1) Tryz.underlying46 rfl hm5) rfl <| RG.vv (FV.lssN (i := i0) (j := y2.1.length) rfl rfl) rfl <| RG.nil <| MX.ifd rfl h (fun c1 h => ?_) (fun c1 h => ?_)
  ·skip
   refine MX.skip <| MX.seq <| MX.block <| MX.region <| RG.mv rfl rfl <| RG.mv rfl rfl ?_
   refine RG.mv rfl rfl ?_
   obtain ⟨x0, hx0, h⟩ := bind_in h
   obtain ⟨A182, c2, he0, hk0, cs3, hr3, hm6⟩ := Rep.nth hm5 hx0
   have he1 : cs3 = [.int .i64 x0] := hr3; subst he1
   refine RG.vv (FV.idxAddr (m := 1) (i := i0) (by kernel_rfl) rfl he0 rfl rfl hk0) rfl <| RG.vv (FV.load1 (by kernel_rfl) rfl (hm6 0 _ rfl)) rfl ?_
   obtain ⟨s2, hs2, h⟩ := bind_in h
   refine RG.vv (FV.addc (i := x0) (j := 1) rfl rfl hs2) rfl <| RG.vv (FV.max2 (i := z1) (j := s2) rfl rfl) rfl <| RG.sg rfl rfl <| RG.nil <| MX.inBlock <| MX.region ?_
   refine RG.mv rfl rfl <| RG.vv (FV.addN (i := i0) (j := 1) rfl rfl (by omega)) rfl <| RG.sg rfl rfl <| RG.nil ?_
   exact hJ177 (max z1 s2, i0 + 1) _ _ ⟨rfl, rfl, rfl, trivial⟩ ⟨hS10, hT9⟩ h
  refine MX.exit rfl ?_
  have h := hh175 _ h
  try dsimp only at h
  refine MX.sr <| RG.mv rfl rfl <| RG.mv rfl rfl <| RG.sg rfl rfl <| RG.sg rfl rfl <| RG.nil ?_
  refine MX.ret rfl <| RT.leave hb0 Tryz.func17 rfl (.cons (.tmp rfl) (.cons (.tmp rfl) .nil)) rfl ?_
  obtain rfl := Option.some.inj h
  exact ⟨hS10.ag, fun w9 hw9 => ⟨v2, rfl, Rep.keep0 (Rep.dropS hS10 hm5) hw9⟩⟩
structure TDraft26 where
  fGroups : UInt8
  fParties : UInt8
  fLevels : UInt8
  fWater : UInt8
  fNums : List UInt8
  deriving DecidableEq
instance : Rep TDraft26 := Rep.via (β := UInt8 × UInt8 × UInt8 × UInt8 × (List UInt8)) fun x => (x.fGroups, x.fParties, x.fLevels, x.fWater, x.fNums)
def tb64_3 : List (Nat × Nat × Nat) := [(0, 512, 4), (1, 1024, 512), (0, 2048, 2), (0, 4096, 4), (8, 8192, 4096), (16, 16384, 8192), (36, 32768, 18432), (66, 65536, 33792), (128, 131072, 65536), (256, 262144, 131072), (1023, 16, 262144)]
def wardmoteref22_Draft_num_p (_n : Nat) (a0 : TDraft26) (a1 : Int) : Option Int :=
  (if a0.fNums.length = 0 then some (1 : Int) else (remI a1 ((a0.fNums.length : Nat) : Int)).bind fun s0 => (idx a0.fNums s0).bind fun x0 => some ((x0.toNat : Nat) : Int))
theorem wardmoteref22_Draft_num_c (n : Nat) (L : List Nat) (w : World) (_hL : ∀ b ∈ L, b < w.heap.size) (a0 : TDraft26) {v0_4 : Value} (h0_4 : Rep.R w L [v0_4] a0.fNums) (a1 : Int)  {r : Int} (h : wardmoteref22_Draft_num_p n a0 a1 = some r) :
    Calls Tryz.prog 64 #[.agg #[.int .u8 (a0.fGroups.toNat : Int), .int .u8 (a0.fParties.toNat : Int), .int .u8 (a0.fLevels.toNat : Int), .int .u8 (a0.fWater.toNat : Int), v0_4], .int .i64 a1] w (Gives w fun _ u => u = .int .i64 r) := by
  unfold wardmoteref22_Draft_num_p at h
  have hS0 := St.start w
  refine MX.start Tryz.func64 rfl rfl rfl (fun _ cs0 hb0 => ?_)
  refine MX.sr <| RG.new .plain rfl (Does.box (vs := [.int .u8 (a0.fGroups.toNat : Int), .int .u8 (a0.fParties.toNat : Int), .int .u8 (a0.fLevels.toNat : Int), .int .u8 (a0.fWater.toNat : Int), v0_4]) hS0 rfl rfl) (fun w2 b5 hS3 hT4 => ?_)
  refine RG.sg rfl rfl <| RG.nil <| MX.seq <| MX.sr <| RG.vv (FV.fieldAddr (off := 4) (by kernel_rfl) rfl) rfl <| RG.vv (FV.load1 (by kernel_rfl) rfl ((hS3.memA .hd) 4 _ rfl)) rfl ?_
  have hm7 := Rep.mv h0_4 hT4
  have hl6 : a0.fNums.length ≤ 281474976710656 := Rep.lenle hm7
  refine RG.vv (FV.len (xs := a0.fNums) Tryz.underlying22 rfl hm7) rfl <| RG.vv (FV.eqlN (i := a0.fNums.length) (j := 0) rfl rfl) rfl <| RG.nil <| MX.ifd rfl h (fun c8 h => ?_) (fun c8 h => ?_)
  ·skip
   refine MX.sr <| RG.sg rfl rfl <| RG.nil <| MX.ret rfl <| RT.leave hb0 Tryz.func64 rfl (.cons (.tmp rfl) .nil) rfl ?_
   obtain rfl := Option.some.inj h
   exact ⟨hS3.ag, fun w9 hw9 => rfl⟩
  refine MX.skip <| MX.seq <| MX.drawT 11 tb64_3 (by kernel_rfl) (by kernel_rfl) (by kernel_rfl) (fun kt9 kp0 => ?_)
  refine RD.vw 0 1 kt9 rfl kp0 (fun _ => FV.fieldAddr (off := 4) (by kernel_rfl) rfl) rfl <| RD.vx 1 3 1920 kt9 rfl kp0 (FV.load1 (by kernel_rfl) rfl ((hS3.memA .hd) 4 _ rfl)) rfl <| RD.vw 2 7 kt9 rfl kp0 (fun _ => FV.move rfl) rfl <| RD.vw 3 15 kt9 rfl kp0 (fun _ => FV.fieldAddr (off := 4) (by kernel_rfl) rfl) rfl <| RD.vx 4 31 2016 kt9 rfl kp0 (FV.load1 (by kernel_rfl) rfl ((hS3.memA .hd) 4 _ rfl)) rfl <| RD.vx 5 63 1984 kt9 rfl kp0 (FV.len (xs := a0.fNums) Tryz.underlying22 rfl hm7) rfl ?_
  obtain ⟨s0, hs0, h⟩ := bind_in h
  refine RD.vw 6 127 kt9 rfl kp0 (fun _ => FV.remc (i := a1) (j := ((a0.fNums.length : Nat) : Int)) rfl rfl hs0) rfl ?_
  obtain ⟨x0, hx0, h⟩ := bind_in h
  obtain ⟨hi0, hx1⟩ := idx_in hx0
  obtain ⟨A15, c0, he0, hk0, cs1, hr0, hm0⟩ := Rep.nth hm7 hx1
  have he1 : cs1 = [.int .u8 (x0.toNat : Int)] := hr0; subst he1
  refine RD.vw 7 255 kt9 rfl kp0 (fun _ => FV.idxAddr (m := 1) (i := s0.toNat) (by kernel_rfl) rfl he0 rfl hi0 hk0) rfl <| RD.vx 8 511 1536 kt9 rfl kp0 (FV.load1 (by kernel_rfl) rfl (hm0 0 _ rfl)) rfl ?_
  have hu0 := x0.toNat_lt
  refine RD.vw 9 1023 kt9 rfl kp0 (fun _ => FV.convN (i := x0.toNat) Tryz.underlying5 Tryz.underlying3 rfl (by omega)) rfl <| RD.vw 10 2047 kt9 rfl kp0 (fun _ => FV.assign rfl) rfl <| RD.done (doneD_ok kt9 (by kernel_rfl)) <| MX.ret rfl <| RT.leave hb0 Tryz.func64 rfl (.cons (.tmp rfl) .nil) rfl ?_
  obtain rfl := Option.some.inj h
  exact ⟨hS3.ag, fun w9 hw9 => rfl⟩
theorem body64 : bodyB Tryz.prog 64 = true := by kernel_rfl
def wardmoteref22_Draft_list_l1 (n : Nat) (a1 : Int) (a2 : Int) (a0 : TDraft26) (a3 : Int) (J0 : Int × (List Int) → Option (List Int)) : Int × (List Int) → Option (List Int)
  | (z0, xs0) => (if z0 < a1 then (chk (a2 + z0)).bind fun s0 => (wardmoteref22_Draft_num_p n a0 s0).bind fun y0 => (app xs0 ([min y0 a3] : List Int)).bind fun xs1 => (chk (z0 + 1)).bind fun s1 => J0 (s1, xs1) else some xs0)
def wardmoteref22_Draft_list_p (n : Nat) (a0 : TDraft26) (a1 : Int) (a2 : Int) (a3 : Int) : Option (List Int) :=
  Option.bind (loopF (wardmoteref22_Draft_list_l1 n a1 a2 a0 a3) n (0, ([] : List Int))) (fun xs0 => some xs0)
theorem wardmoteref22_Draft_list_c (n : Nat) (L : List Nat) (w : World) (hL : ∀ b ∈ L, b < w.heap.size) (a0 : TDraft26) {v0_4 : Value} (h0_4 : Rep.R w L [v0_4] a0.fNums) (a1 : Int) (a2 : Int) (a3 : Int)  {r : List Int} (h : wardmoteref22_Draft_list_p n a0 a1 a2 a3 = some r) :
    Calls Tryz.prog 65 #[.agg #[.int .u8 (a0.fGroups.toNat : Int), .int .u8 (a0.fParties.toNat : Int), .int .u8 (a0.fLevels.toNat : Int), .int .u8 (a0.fWater.toNat : Int), v0_4], .int .i64 a1, .int .i64 a2, .int .i64 a3] w (Gives w fun w' u => ∃ v0_0 : Value, u = v0_0 ∧ Rep.R w' L [v0_0] r) := by
  unfold wardmoteref22_Draft_list_p at h
  have hS0 := St.start w
  refine MX.start Tryz.func65 rfl rfl rfl (fun _ cs0 hb0 => ?_)
  refine MX.sr <| RG.new .plain rfl (Does.box (vs := [.int .u8 (a0.fGroups.toNat : Int), .int .u8 (a0.fParties.toNat : Int), .int .u8 (a0.fLevels.toNat : Int), .int .u8 (a0.fWater.toNat : Int), v0_4]) hS0 rfl rfl) (fun w2 b5 hS3 hT4 => ?_)
  refine RG.sg rfl rfl <| RG.nil <| MX.sr <| RG.sg rfl rfl <| RG.nil <| MX.seq ?_
  refine MX.sr <| RG.sg rfl rfl <| RG.nil <| MX.block ?_
  have hS7 := hS3.nilRow 3 (Rep.size Int)
  have hT8 := St.nilRowT hS3 3 (Rep.size Int)
  have hc9 := Cells.at_ (cs := []) (xs := ([] : List Int)) hS7 L (Cells.nil _ _)
  obtain ⟨o0, ho71, hh73⟩ := bind_in2 h
  refine MX.loop (α := Int × (List Int) × Value × (List Value)) (fun ⟨z0, xs0, v0, cs1⟩ => [(1, .int .i64 a1), (2, .int .i64 a2), (3, .int .i64 a3), (4, .pointer (some ⟨b5, 0, none⟩)), (9, v0), (10, .int .i64 z0)]) (fun ⟨z0, xs0, v0, cs1⟩ wx0 => St w wx0 [.row w.heap.size 3 (Rep.size Int) v0 xs0.length cs1, .cells b5 [.int .u8 (a0.fGroups.toNat : Int), .int .u8 (a0.fParties.toNat : Int), .int .u8 (a0.fLevels.toNat : Int), .int .u8 (a0.fWater.toNat : Int), v0_4] 27] ∧ Tr w2 [.row w.heap.size 3 (Rep.size Int) (.slice none 0 0) (([] : List Int).length) [], .cells b5 [.int .u8 (a0.fGroups.toNat : Int), .int .u8 (a0.fParties.toNat : Int), .int .u8 (a0.fLevels.toNat : Int), .int .u8 (a0.fWater.toNat : Int), v0_4] 27] wx0 [.row w.heap.size 3 (Rep.size Int) v0 xs0.length cs1, .cells b5 [.int .u8 (a0.fGroups.toNat : Int), .int .u8 (a0.fParties.toNat : Int), .int .u8 (a0.fLevels.toNat : Int), .int .u8 (a0.fWater.toNat : Int), v0_4] 27] ∧ Cells wx0 (bl [.row w.heap.size 3 (Rep.size Int) v0 xs0.length cs1, .cells b5 [.int .u8 (a0.fGroups.toNat : Int), .int .u8 (a0.fParties.toNat : Int), .int .u8 (a0.fLevels.toNat : Int), .int .u8 (a0.fWater.toNat : Int), v0_4] 27] ++ L) cs1 xs0) (fun ⟨z0, xs0, v0, cs1⟩ => (z0, xs0)) (0, ([] : List Int), (.slice none 0 0), []) ho71 ⟨rfl, rfl, rfl, rfl, rfl, rfl, trivial⟩ ⟨hS7, Tr.refl _ _, hc9⟩ ?_
  rintro J0 ⟨z0, xs0, v0, cs1⟩ wx0 hJ75 ⟨hS1, hT0, hc0⟩ h
  unfold wardmoteref22_Draft_list_l1 at h
  try dsimp only at h
  refine MX.seq <| MX.sr <| RG.mv rfl rfl <| RG.mv rfl rfl <| RG.vv (FV.lss (i := z0) (j := a1) rfl rfl) rfl <| RG.nil ?_
  refine MX.ifd rfl h (fun c0 h => ?_) (fun c0 h => ?_)
  ·skip
   refine MX.skip <| MX.seq <| MX.block <| MX.region <| RG.mv rfl rfl <| RG.vv (FV.loadN (by kernel_rfl) rfl (hS1.memA (.tl .hd))) rfl ?_
   refine RG.mv rfl rfl <| RG.mv rfl rfl ?_
   obtain ⟨s0, hs0, h⟩ := bind_in h
   refine RG.vv (FV.addc (i := a2) (j := z0) rfl rfl hs0) rfl ?_
   obtain ⟨y0, hy0, h⟩ := bind_in h
   have hm0 := Rep.mv h0_4 (Tr.trans hT4 (Tr.trans hT8 hT0))
   refine RG.cq (.int .i64 y0) body64 rfl (evs_cons rfl (evs_cons rfl evs_nil)) (fun w9 hw9 => wardmoteref22_Draft_num_c n _ w9 (hS1.hL0 hL hw9) a0 (Rep.keep0 (Rep.dropS hS1 hm0) hw9) s0 hy0) rfl <| RG.mv rfl rfl <| RG.vv (FV.min2 (i := y0) (j := a3) rfl rfl) rfl <| RG.new .plain rfl (Does.build (α := Int) (xs := ([min y0 a3] : List Int)) (vs := [.int .i64 (min y0 a3)]) (ds' := [.int .i64 (min y0 a3)]) rfl hS1 el45 rfl (evs_cons rfl evs_nil) (by kernel_rfl) rfl) (fun w0 b0 hS2 hT1 => ?_)
   have hc1 := Cells.at_ (cs := [.int .i64 (min y0 a3)]) (xs := (([min y0 a3] : List Int) : List Int)) hS2 L (Cells.cons (cs := [.int .i64 (min y0 a3)]) (ds := []) rfl (Cells.nil _ _))
   obtain ⟨xs1, hxs86, h⟩ := bind_in h
   have hm1 := Cells.mv hc0 hT1
   refine RG.doesL .plain rfl (DoesL.app (α := Int) (ys := ([min y0 a3] : List Int)) (F := fun v' cs' => [.row w.heap.size 3 (Rep.size Int) (.slice (some ⟨b0, 0, none⟩) 1 1) (([min y0 a3] : List Int).length) [.int .i64 (min y0 a3)], .row w.heap.size 3 (Rep.size Int) v' xs1.length cs', .cells b5 [.int .u8 (a0.fGroups.toNat : Int), .int .u8 (a0.fParties.toNat : Int), .int .u8 (a0.fLevels.toNat : Int), .int .u8 (a0.fWater.toNat : Int), v0_4] 27]) hxs86 hS2 (fun _ _ => (.tl .hd)) el45 rfl rfl hm1 (Src.row (α := Int) hS2 .hd hc1)) (fun v1 w1 ⟨cs2, hS4, hT2, hc2⟩ => ?_)
   refine RG.sg rfl rfl <| RG.nil <| MX.inBlock <| MX.region <| RG.mv rfl rfl ?_
   obtain ⟨s1, hs1, h⟩ := bind_in h
   refine RG.vv (FV.addc (i := z0) (j := 1) rfl rfl hs1) rfl <| RG.sg rfl rfl <| RG.nil ?_
   obtain ⟨hS5, hT3⟩ := St.arrB hS4 (.one (.tl .hd) (.one (.tl .hd) .done))
   have hm2 := Cells.mv hc2 hT3
   exact hJ75 (s1, xs1, v1, cs2) _ _ ⟨rfl, rfl, rfl, rfl, rfl, rfl, trivial⟩ ⟨hS5, (Tr.trans hT0 (Tr.trans hT1 (Tr.trans hT2 hT3))), hm2⟩ h
  refine MX.exit rfl ?_
  have h := hh73 _ h
  try dsimp only at h
  refine MX.sr <| RG.mv rfl rfl <| RG.sg rfl rfl <| RG.nil <| MX.ret rfl ?_
  have hr0 := St.freeze (α := Int) hS1 .hd hc0 hL
  have hS6 := St.delS hS1 .hd
  have hT5 := St.delT hS1 .hd
  have hr1 := Rep.at_ (α := Int) (v := v0) (xs := xs0) hS6 L hr0
  refine RT.leave hb0 Tryz.func65 rfl (.cons (.tmp rfl) .nil) rfl ?_
  obtain rfl := Option.some.inj h
  exact ⟨hS6.ag, fun w9 hw9 => ⟨v0, rfl, Rep.keep0 (Rep.dropS hS6 hr1) hw9⟩⟩
def tb18_5 : List (Nat × Nat × Nat) := [(0, 268435456, 64), (1, 536870912, 268435456), (2, 1073741824, 536870912), (4, 2147483648, 1073741824), (0, 4294967296, 64), (16, 8589934592, 4294967296), (32, 17179869184, 8589934592), (64, 34359738368, 17179869184), (128, 68719476736, 34359738368), (264, 137438953472, 70866960384), (512, 274877906944, 137438953472), (1024, 549755813888, 274877906944), (0, 1099511627776, 4), (0, 2199023255552, 64), (8192, 4398046511104, 2199023255552), (20480, 8796093022208, 5497558138880), (34816, 17592186044416, 9345848836096), (0, 128, 0), (262143, 0, 17592186044544)]
def tb18_11 : List (Nat × Nat × Nat) := [(0, 590295810358705651712, 128), (1, 1180591620717411303424, 590295810358705651712), (0, 2361183241434822606848, 4), (0, 4722366482869645213696, 64), (8, 9444732965739290427392, 4722366482869645213696), (16, 18889465931478580854784, 9444732965739290427392), (0, 37778931862957161709568, 256), (96, 75557863725914323419136, 56668397794435742564352), (132, 151115727451828646838272, 77919046967349146025984), (256, 302231454903657293676544, 151115727451828646838272), (512, 604462909807314587353088, 302231454903657293676544), (1282, 1208925819614629174706176, 605643501428031998656512), (4095, 2417851639229258349412352, 128), (8191, 0, 3626777458843887524118528)]
def tb18_16 : List (Nat × Nat × Nat) := [(0, 79228162514264337593543950336, 32), (1, 158456325028528675187087900672, 79228162514264337593543950336), (0, 316912650057057350374175801344, 32), (4, 633825300114114700748351602688, 316912650057057350374175801344), (8, 1267650600228229401496703205376, 633825300114114700748351602688), (0, 2535301200456458802993406410752, 32), (32, 5070602400912917605986812821504, 2535301200456458802993406410752), (64, 10141204801825835211973625643008, 5070602400912917605986812821504), (0, 20282409603651670423947251286016, 32), (256, 40564819207303340847894502572032, 20282409603651670423947251286016), (512, 81129638414606681695789005144064, 40564819207303340847894502572032), (1168, 162259276829213363391578010288128, 92538493816660746309259333992448), (2048, 324518553658426726783156020576256, 162259276829213363391578010288128), (4098, 649037107316853453566312041152512, 324677009983455255458343108476928), (16383, 1298074214633706907132624082305024, 32), (32767, 0, 1947111321950560360698936123457536)]
theorem el22 : ElT Tryz.prog 22 5 (Rep.size UInt8) 1 (.int .u8 0) [.int .u8 0] := ⟨Tryz.underlying22, by kernel_rfl, rfl, rfl, rfl, rfl⟩
theorem body65 : bodyB Tryz.prog 65 = true := by kernel_rfl
def wardmoteref22_Draft_Roll_l1 (n : Nat) (a0 : TDraft26) (z0 : Int) (J0 : Nat × (List Int) → Option (List Int)) : Nat × (List Int) → Option (List Int)
  | (i0, xs0) => (if i0 < ((a0.fLevels % (3 : UInt8)).toNat) then (chk (9 * z0)).bind fun s0 => (chk (s0 + 7)).bind fun s1 => (chk (s1 + ((i0 : Nat) : Int))).bind fun s2 => (wardmoteref22_Draft_num_p n a0 s2).bind fun y0 => (remI y0 3).bind fun s3 => (app xs0 ([s3] : List Int)).bind fun xs1 => J0 (i0 + 1, xs1) else some xs0)
def wardmoteref22_Draft_Roll_l2 (_n : Nat) (a0 : TDraft26) (J0 : Nat × (List TUnit) → Option (List TUnit)) : Nat × (List TUnit) → Option (List TUnit)
  | (i0, xs0) => (if i0 < ((a0.fWater % (2 : UInt8)).toNat) then (mk (((a0.fGroups % (3 : UInt8)).toNat : Nat) : Int) (0 : Int)).bind fun xs1 => (mk (((a0.fParties % (4 : UInt8)).toNat : Nat) : Int) (0 : Int)).bind fun xs2 => (mk (((a0.fLevels % (3 : UInt8)).toNat : Nat) : Int) (0 : Int)).bind fun xs3 => (app xs0 ([(⟨⟨#[115, 101, 97]⟩, (0 : Int), xs1, xs2, xs3, true⟩ : TUnit)] : List TUnit)).bind fun xs4 => J0 (i0 + 1, xs4) else some xs0)
def wardmoteref22_Draft_Roll_l3 (n : Nat) (a1 : Int) (a0 : TDraft26) (J0 : Int × (List TUnit) → Option (List TUnit)) : Int × (List TUnit) → Option (List TUnit)
  | (z0, xs0) => (if z0 < a1 then (remI z0 26).bind fun s0 => (chk (97 + s0)).bind fun s1 => (quoI z0 26).bind fun s2 => (remI s2 26).bind fun s3 => (chk (97 + s3)).bind fun s4 => (chk (9 * z0)).bind fun s5 => (wardmoteref22_Draft_num_p n a0 s5).bind fun y0 => (sadd ⟨#[117]⟩ (bstr ([u8ofI s1, u8ofI s4] : List UInt8))).bind fun s6 => (chk (9 * z0)).bind fun s7 => (chk (s7 + 1)).bind fun s8 => (wardmoteref22_Draft_list_p n a0 (((a0.fGroups % (3 : UInt8)).toNat : Nat) : Int) s8 y0).bind fun y1 => (chk (9 * z0)).bind fun s9 => (chk (s9 + 3)).bind fun s10 => (wardmoteref22_Draft_list_p n a0 (((a0.fParties % (4 : UInt8)).toNat : Nat) : Int) s10 (255 : Int)).bind fun y2 => Option.bind (loopF (wardmoteref22_Draft_Roll_l1 n a0 z0) n (0, ([] : List Int))) (fun xs1 => (app xs0 ([(⟨s6, y0, y1, y2, xs1, false⟩ : TUnit)] : List TUnit)).bind fun xs2 => (chk (z0 + 1)).bind fun s11 => J0 (s11, xs2)) else some xs0)
def wardmoteref22_Draft_Roll_p (n : Nat) (a0 : TDraft26) (a1 : Int) : Option TRoll :=
  Option.bind (loopF (wardmoteref22_Draft_Roll_l3 n a1 a0) n (0, ([] : List TUnit))) (fun xs0 => Option.bind (loopF (wardmoteref22_Draft_Roll_l2 n a0) n (0, xs0)) (fun xs1 => some (⟨(((a0.fGroups % (3 : UInt8)).toNat : Nat) : Int), (((a0.fParties % (4 : UInt8)).toNat : Nat) : Int), (((a0.fLevels % (3 : UInt8)).toNat : Nat) : Int), xs1⟩ : TRoll)))
theorem wardmoteref22_Draft_Roll_c (n : Nat) (L : List Nat) (w : World) (hL : ∀ b ∈ L, b < w.heap.size) (a0 : TDraft26) {v0_4 : Value} (h0_4 : Rep.R w L [v0_4] a0.fNums) (a1 : Int)  {r : TRoll} (h : wardmoteref22_Draft_Roll_p n a0 a1 = some r) :
    Calls Tryz.prog 18 #[.agg #[.int .u8 (a0.fGroups.toNat : Int), .int .u8 (a0.fParties.toNat : Int), .int .u8 (a0.fLevels.toNat : Int), .int .u8 (a0.fWater.toNat : Int), v0_4], .int .i64 a1] w (Gives w fun w' u => ∃ v0_3 : Value, u = .agg #[.int .i64 r.fGroups, .int .i64 r.fParties, .int .i64 r.fLevels, v0_3] ∧ Rep.R w' L [v0_3] r.fUnits) := by
  unfold wardmoteref22_Draft_Roll_p at h
  have hS0 := St.start w
  refine MX.start Tryz.func18 rfl rfl rfl (fun _ cs0 hb0 => ?_)
  refine MX.sr <| RG.new .plain rfl (Does.box (vs := [.int .u8 (a0.fGroups.toNat : Int), .int .u8 (a0.fParties.toNat : Int), .int .u8 (a0.fLevels.toNat : Int), .int .u8 (a0.fWater.toNat : Int), v0_4]) hS0 rfl rfl) (fun w2 b5 hS3 hT4 => ?_)
  refine RG.new .plain rfl (Does.alloc (zs := [.int .i64 0, .int .i64 0, .int .i64 0, .slice none 0 0]) hS3 (zB (by kernel_rfl))) (fun w7 b0 hS8 hT9 => ?_)
  refine RG.nil <| MX.sr <| RG.vv (FV.fieldAddr (off := 0) (by kernel_rfl) rfl) rfl <| RG.vv (FV.load1 (by kernel_rfl) rfl ((hS8.memA (.tl .hd)) 0 _ rfl)) rfl <| RG.vv (FV.rem8 (a := a0.fGroups) (b := (3 : UInt8)) rfl rfl (by decide)) rfl ?_
  have hu0 := (a0.fGroups % (3 : UInt8)).toNat_lt
  refine RG.vv (FV.convN (i := (a0.fGroups % (3 : UInt8)).toNat) Tryz.underlying5 Tryz.underlying3 rfl (by omega)) rfl <| RG.vv (FV.fieldAddr (off := 1) (by kernel_rfl) rfl) rfl <| RG.vv (FV.load1 (by kernel_rfl) rfl ((hS8.memA (.tl .hd)) 1 _ rfl)) rfl <| RG.vv (FV.rem8 (a := a0.fParties) (b := (4 : UInt8)) rfl rfl (by decide)) rfl ?_
  have hu1 := (a0.fParties % (4 : UInt8)).toNat_lt
  refine RG.vv (FV.convN (i := (a0.fParties % (4 : UInt8)).toNat) Tryz.underlying5 Tryz.underlying3 rfl (by omega)) rfl <| RG.vv (FV.fieldAddr (off := 2) (by kernel_rfl) rfl) rfl <| RG.vv (FV.load1 (by kernel_rfl) rfl ((hS8.memA (.tl .hd)) 2 _ rfl)) rfl <| RG.vv (FV.rem8 (a := a0.fLevels) (b := (3 : UInt8)) rfl rfl (by decide)) rfl ?_
  have hu2 := (a0.fLevels % (3 : UInt8)).toNat_lt
  refine RG.vv (FV.convN (i := (a0.fLevels % (3 : UInt8)).toNat) Tryz.underlying5 Tryz.underlying3 rfl (by omega)) rfl <| RG.vv (FV.buildV (vs := [.int .i64 (((a0.fGroups % (3 : UInt8)).toNat : Nat) : Int), .int .i64 (((a0.fParties % (4 : UInt8)).toNat : Nat) : Int), .int .i64 (((a0.fLevels % (3 : UInt8)).toNat : Nat) : Int)]) (u := .agg #[.int .i64 (((a0.fGroups % (3 : UInt8)).toNat : Nat) : Int), .int .i64 (((a0.fParties % (4 : UInt8)).toNat : Nat) : Int), .int .i64 (((a0.fLevels % (3 : UInt8)).toNat : Nat) : Int), .slice none 0 0]) (evs_cons rfl (evs_cons rfl (evs_cons rfl evs_nil))) (fun w9 => by kernel_rfl)) rfl <| RG.new .plain rfl (Does.alloc (zs := [.int .i64 0, .int .i64 0, .int .i64 0, .slice none 0 0]) hS8 (zB (by kernel_rfl))) (fun w0 b1 hS1 hT0 => ?_)
  refine RG.now .plain (Acts.storeAll (news := [.int .i64 (((a0.fGroups % (3 : UInt8)).toNat : Nat) : Int), .int .i64 (((a0.fParties % (4 : UInt8)).toNat : Nat) : Int), .int .i64 (((a0.fLevels % (3 : UInt8)).toNat : Nat) : Int), .slice none 0 0]) hS1 .hd rfl rfl rfl rfl rfl rfl (onesB rfl)) (fun w1 hS2 hT1 => ?_)
  refine RG.nil <| MX.seq <| MX.sr <| RG.sg rfl rfl <| RG.nil <| MX.block ?_
  have hS4 := hS2.nilRow 65 (Rep.size TUnit)
  have hT2 := St.nilRowT hS2 65 (Rep.size TUnit)
  have hc0 := Cells.at_ (cs := []) (xs := ([] : List TUnit)) hS4 L (Cells.nil _ _)
  have hS5 := hS4.nilRow 65 (Rep.size TUnit)
  have hT3 := St.nilRowT hS4 65 (Rep.size TUnit)
  have hc1 := Cells.at_ (cs := []) (xs := ([] : List TUnit)) hS5 L (Cells.nil _ _)
  have hm0 := Cells.mv hc0 hT3
  obtain ⟨o0, ho4678, hh4680⟩ := bind_in2 h
  refine MX.loop (α := Int × (List TUnit) × Value × (List Value)) (fun ⟨z0, xs0, v0, cs1⟩ => [(1, .int .i64 a1), (2, .pointer (some ⟨b5, 0, none⟩)), (4, .pointer (some ⟨b0, 0, none⟩)), (5, .pointer (some ⟨b1, 0, none⟩)), (6, .int .i64 z0)]) (fun ⟨z0, xs0, v0, cs1⟩ wx0 => St w wx0 [.row w.heap.size 65 (Rep.size TUnit) (.slice none 0 0) (([] : List TUnit).length) [], .row w.heap.size 65 (Rep.size TUnit) v0 xs0.length cs1, .cells b1 [.int .i64 (((a0.fGroups % (3 : UInt8)).toNat : Nat) : Int), .int .i64 (((a0.fParties % (4 : UInt8)).toNat : Nat) : Int), .int .i64 (((a0.fLevels % (3 : UInt8)).toNat : Nat) : Int), v0] 44, .cells b0 [.int .i64 0, .int .i64 0, .int .i64 0, (.slice none 0 0)] 44, .cells b5 [.int .u8 (a0.fGroups.toNat : Int), .int .u8 (a0.fParties.toNat : Int), .int .u8 (a0.fLevels.toNat : Int), .int .u8 (a0.fWater.toNat : Int), v0_4] 27] ∧ Tr w1 [.row w.heap.size 65 (Rep.size TUnit) (.slice none 0 0) (([] : List TUnit).length) [], .row w.heap.size 65 (Rep.size TUnit) (.slice none 0 0) (([] : List TUnit).length) [], .cells b1 [.int .i64 (((a0.fGroups % (3 : UInt8)).toNat : Nat) : Int), .int .i64 (((a0.fParties % (4 : UInt8)).toNat : Nat) : Int), .int .i64 (((a0.fLevels % (3 : UInt8)).toNat : Nat) : Int), (.slice none 0 0)] 44, .cells b0 [.int .i64 0, .int .i64 0, .int .i64 0, (.slice none 0 0)] 44, .cells b5 [.int .u8 (a0.fGroups.toNat : Int), .int .u8 (a0.fParties.toNat : Int), .int .u8 (a0.fLevels.toNat : Int), .int .u8 (a0.fWater.toNat : Int), v0_4] 27] wx0 [.row w.heap.size 65 (Rep.size TUnit) (.slice none 0 0) (([] : List TUnit).length) [], .row w.heap.size 65 (Rep.size TUnit) v0 xs0.length cs1, .cells b1 [.int .i64 (((a0.fGroups % (3 : UInt8)).toNat : Nat) : Int), .int .i64 (((a0.fParties % (4 : UInt8)).toNat : Nat) : Int), .int .i64 (((a0.fLevels % (3 : UInt8)).toNat : Nat) : Int), v0] 44, .cells b0 [.int .i64 0, .int .i64 0, .int .i64 0, (.slice none 0 0)] 44, .cells b5 [.int .u8 (a0.fGroups.toNat : Int), .int .u8 (a0.fParties.toNat : Int), .int .u8 (a0.fLevels.toNat : Int), .int .u8 (a0.fWater.toNat : Int), v0_4] 27] ∧ Cells wx0 (bl [.row w.heap.size 65 (Rep.size TUnit) (.slice none 0 0) (([] : List TUnit).length) [], .row w.heap.size 65 (Rep.size TUnit) v0 xs0.length cs1, .cells b1 [.int .i64 (((a0.fGroups % (3 : UInt8)).toNat : Nat) : Int), .int .i64 (((a0.fParties % (4 : UInt8)).toNat : Nat) : Int), .int .i64 (((a0.fLevels % (3 : UInt8)).toNat : Nat) : Int), v0] 44, .cells b0 [.int .i64 0, .int .i64 0, .int .i64 0, (.slice none 0 0)] 44, .cells b5 [.int .u8 (a0.fGroups.toNat : Int), .int .u8 (a0.fParties.toNat : Int), .int .u8 (a0.fLevels.toNat : Int), .int .u8 (a0.fWater.toNat : Int), v0_4] 27] ++ L) cs1 xs0) (fun ⟨z0, xs0, v0, cs1⟩ => (z0, xs0)) (0, ([] : List TUnit), (.slice none 0 0), []) ho4678 ⟨rfl, rfl, rfl, rfl, rfl, trivial⟩ ⟨hS5, Tr.refl _ _, hm0⟩ ?_
  rintro J0 ⟨z0, xs0, v0, cs1⟩ wx0 hJ4682 ⟨hS6, hT5, hc2⟩ h
  unfold wardmoteref22_Draft_Roll_l3 at h
  try dsimp only at h
  refine MX.seq <| MX.sr <| RG.mv rfl rfl <| RG.mv rfl rfl <| RG.vv (FV.lss (i := z0) (j := a1) rfl rfl) rfl <| RG.nil ?_
  refine MX.ifd rfl h (fun c0 h => ?_) (fun c0 h => ?_)
  ·skip
   refine MX.skip <| MX.seq <| MX.block <| MX.seq <| MX.drawT 18 tb18_5 (by kernel_rfl) (by kernel_rfl) (by kernel_rfl) (fun kt0 kp0 => ?_)
   refine RD.vw 0 1 kt0 rfl kp0 (fun _ => FV.move rfl) rfl ?_
   obtain ⟨s0, hs0, h⟩ := bind_in h
   refine RD.vw 1 3 kt0 rfl kp0 (fun _ => FV.remc (i := z0) (j := 26) rfl rfl hs0) rfl ?_
   obtain ⟨s1, hs1, h⟩ := bind_in h
   refine RD.vw 2 7 kt0 rfl kp0 (fun _ => FV.addc (i := 97) (j := s0) rfl rfl hs1) rfl <| RD.vw 3 15 kt0 rfl kp0 (fun _ => FV.convU8 (i := s1) Tryz.underlying3 Tryz.underlying5 rfl) rfl <| RD.vw 4 31 kt0 rfl kp0 (fun _ => FV.move rfl) rfl ?_
   obtain ⟨s2, hs2, h⟩ := bind_in h
   refine RD.vw 5 63 kt0 rfl kp0 (fun _ => FV.quoc (i := z0) (j := 26) rfl rfl hs2) rfl ?_
   obtain ⟨s3, hs3, h⟩ := bind_in h
   refine RD.vw 6 127 kt0 rfl kp0 (fun _ => FV.remc (i := s2) (j := 26) rfl rfl hs3) rfl ?_
   obtain ⟨s4, hs4, h⟩ := bind_in h
   refine RD.vw 7 255 kt0 rfl kp0 (fun _ => FV.addc (i := 97) (j := s3) rfl rfl hs4) rfl <| RD.vw 8 511 kt0 rfl kp0 (fun _ => FV.convU8 (i := s4) Tryz.underlying3 Tryz.underlying5 rfl) rfl <| RD.vx 12 4607 360448 kt0 rfl kp0 (FV.loadN (by kernel_rfl) rfl (hS6.memA (.tl (.tl (.tl (.tl .hd)))))) rfl <| RD.vw 13 12799 kt0 rfl kp0 (fun _ => FV.move rfl) rfl ?_
   obtain ⟨s5, hs5, h⟩ := bind_in h
   refine RD.vw 14 29183 kt0 rfl kp0 (fun _ => FV.mulc (i := 9) (j := z0) rfl rfl hs5) rfl ?_
   obtain ⟨y0, hy0, h⟩ := bind_in h
   have hm1 := Rep.mv h0_4 (Tr.trans hT4 (Tr.trans hT9 (Tr.trans hT0 (Tr.trans hT1 (Tr.trans hT2 (Tr.trans hT3 hT5))))))
   refine RD.cq 15 61951 327680 (.int .i64 y0) kt0 rfl kp0 body64 rfl (evs_cons rfl (evs_cons rfl evs_nil)) (fun w9 hw9 => wardmoteref22_Draft_num_c n _ w9 (hS6.hL0 hL hw9) a0 (Rep.keep0 (Rep.dropS hS6 hm1) hw9) s5 hy0) rfl ?_
   obtain ⟨s6, hs6, h⟩ := bind_in h
   refine RD.meet (α := Nat) (fun b2 => [(1, .int .i64 a1), (2, .pointer (some ⟨b5, 0, none⟩)), (4, .pointer (some ⟨b0, 0, none⟩)), (5, .pointer (some ⟨b1, 0, none⟩)), (6, .int .i64 z0), (44, .agg #[.string s6, .int .i64 y0, .slice none 0 0, .slice none 0 0, .slice none 0 0, .bool false]), (7, .pointer (some ⟨b2, 0, none⟩))]) (fun b2 wx1 => St w wx1 [.cells b2 [.string ⟨#[]⟩, .int .i64 0, .slice none 0 0, .slice none 0 0, .slice none 0 0, .bool false] 65, .row w.heap.size 65 (Rep.size TUnit) (.slice none 0 0) (([] : List TUnit).length) [], .row w.heap.size 65 (Rep.size TUnit) v0 xs0.length cs1, .cells b1 [.int .i64 (((a0.fGroups % (3 : UInt8)).toNat : Nat) : Int), .int .i64 (((a0.fParties % (4 : UInt8)).toNat : Nat) : Int), .int .i64 (((a0.fLevels % (3 : UInt8)).toNat : Nat) : Int), v0] 44, .cells b0 [.int .i64 0, .int .i64 0, .int .i64 0, (.slice none 0 0)] 44, .cells b5 [.int .u8 (a0.fGroups.toNat : Int), .int .u8 (a0.fParties.toNat : Int), .int .u8 (a0.fLevels.toNat : Int), .int .u8 (a0.fWater.toNat : Int), v0_4] 27] ∧ Tr wx0 [.row w.heap.size 65 (Rep.size TUnit) (.slice none 0 0) (([] : List TUnit).length) [], .row w.heap.size 65 (Rep.size TUnit) v0 xs0.length cs1, .cells b1 [.int .i64 (((a0.fGroups % (3 : UInt8)).toNat : Nat) : Int), .int .i64 (((a0.fParties % (4 : UInt8)).toNat : Nat) : Int), .int .i64 (((a0.fLevels % (3 : UInt8)).toNat : Nat) : Int), v0] 44, .cells b0 [.int .i64 0, .int .i64 0, .int .i64 0, (.slice none 0 0)] 44, .cells b5 [.int .u8 (a0.fGroups.toNat : Int), .int .u8 (a0.fParties.toNat : Int), .int .u8 (a0.fLevels.toNat : Int), .int .u8 (a0.fWater.toNat : Int), v0_4] 27] wx1 [.cells b2 [.string ⟨#[]⟩, .int .i64 0, .slice none 0 0, .slice none 0 0, .slice none 0 0, .bool false] 65, .row w.heap.size 65 (Rep.size TUnit) (.slice none 0 0) (([] : List TUnit).length) [], .row w.heap.size 65 (Rep.size TUnit) v0 xs0.length cs1, .cells b1 [.int .i64 (((a0.fGroups % (3 : UInt8)).toNat : Nat) : Int), .int .i64 (((a0.fParties % (4 : UInt8)).toNat : Nat) : Int), .int .i64 (((a0.fLevels % (3 : UInt8)).toNat : Nat) : Int), v0] 44, .cells b0 [.int .i64 0, .int .i64 0, .int .i64 0, (.slice none 0 0)] 44, .cells b5 [.int .u8 (a0.fGroups.toNat : Int), .int .u8 (a0.fParties.toNat : Int), .int .u8 (a0.fLevels.toNat : Int), .int .u8 (a0.fWater.toNat : Int), v0_4] 27]) 1 262143 ?_ ?_
   ·skip
    rintro b2 wx1 ⟨hS7, hT6⟩
    try dsimp only
    refine RD.nw 18 524287 kt0 rfl rfl .plain (Acts.storeAll (news := [.string s6, .int .i64 y0, .slice none 0 0, .slice none 0 0, .slice none 0 0, .bool false]) hS7 .hd rfl rfl rfl rfl rfl rfl (onesB rfl)) (fun w3 hS9 hT7 => ?_)
    refine RD.done (doneD_ok kt0 (by kernel_rfl)) <| MX.sr <| RG.vv (FV.loadN (by kernel_rfl) rfl (hS9.memA (.tl (.tl (.tl (.tl (.tl .hd))))))) rfl <| RG.vv (FV.fieldAddr (off := 0) (by kernel_rfl) rfl) rfl <| RG.vv (FV.load1 (by kernel_rfl) rfl ((hS9.memA (.tl (.tl (.tl .hd)))) 0 _ rfl)) rfl <| RG.mv rfl rfl ?_
    obtain ⟨s7, hs7, h⟩ := bind_in h
    refine RG.vv (FV.mulc (i := 9) (j := z0) rfl rfl hs7) rfl ?_
    obtain ⟨s8, hs8, h⟩ := bind_in h
    refine RG.vv (FV.addc (i := s7) (j := 1) rfl rfl hs8) rfl <| RG.vv (FV.fieldAddr (off := 1) (by kernel_rfl) rfl) rfl <| RG.vv (FV.load1 (by kernel_rfl) rfl ((hS9.memA .hd) 1 _ rfl)) rfl ?_
    obtain ⟨y1, hy1, h⟩ := bind_in h
    have hm2 := Rep.mv h0_4 (Tr.trans hT4 (Tr.trans hT9 (Tr.trans hT0 (Tr.trans hT1 (Tr.trans hT2 (Tr.trans hT3 (Tr.trans hT5 (Tr.trans hT6 hT7))))))))
    refine RG.call' (fst := []) (cap := []) .plain body65 rfl (evs_cons rfl (evs_cons rfl (evs_cons rfl (evs_cons rfl evs_nil)))) (fun w9 hw9 => wardmoteref22_Draft_list_c n _ w9 (hS9.hL hL hw9) a0 (Rep.keep0 hm2 hw9) (((a0.fGroups % (3 : UInt8)).toNat : Nat) : Int) s8 y0 hy1) rfl (fun w4 vu0 hag0 ⟨v1, hu_, hr0⟩ => ?_)
    subst hu_
    obtain ⟨hS10, hT8⟩ := hS9.agr hag0
    refine RG.vv (FV.fieldAddr (off := 2) (by kernel_rfl) rfl) rfl <| RG.now .plain (Acts.store (j := 2) (old := [.string s6, .int .i64 y0, .slice none 0 0, .slice none 0 0, .slice none 0 0, .bool false]) (news := [vu0]) (new' := [.string s6, .int .i64 y0, vu0, .slice none 0 0, .slice none 0 0, .bool false]) hS10 .hd rfl rfl rfl (Rep.c1 hr0) rfl rfl (ones_cons (Rep.o1 hr0) ones_nil) rfl) (fun w5 hS11 hT10 => ?_)
    refine RG.nil <| MX.sr <| RG.vv (FV.loadN (by kernel_rfl) rfl (hS11.memA (.tl (.tl (.tl (.tl (.tl .hd))))))) rfl <| RG.vv (FV.fieldAddr (off := 1) (by kernel_rfl) rfl) rfl <| RG.vv (FV.load1 (by kernel_rfl) rfl ((hS11.memA (.tl (.tl (.tl .hd)))) 1 _ rfl)) rfl <| RG.mv rfl rfl ?_
    obtain ⟨s9, hs9, h⟩ := bind_in h
    refine RG.vv (FV.mulc (i := 9) (j := z0) rfl rfl hs9) rfl ?_
    obtain ⟨s10, hs10, h⟩ := bind_in h
    refine RG.vv (FV.addc (i := s9) (j := 3) rfl rfl hs10) rfl ?_
    obtain ⟨y2, hy2, h⟩ := bind_in h
    have hm3 := Rep.mv h0_4 (Tr.trans hT4 (Tr.trans hT9 (Tr.trans hT0 (Tr.trans hT1 (Tr.trans hT2 (Tr.trans hT3 (Tr.trans hT5 (Tr.trans hT6 (Tr.trans hT7 (Tr.trans hT8 hT10))))))))))
    refine RG.call' (fst := []) (cap := []) .plain body65 rfl (evs_cons rfl (evs_cons rfl (evs_cons rfl (evs_cons rfl evs_nil)))) (fun w9 hw9 => wardmoteref22_Draft_list_c n _ w9 (hS11.hL hL hw9) a0 (Rep.keep0 hm3 hw9) (((a0.fParties % (4 : UInt8)).toNat : Nat) : Int) s10 (255 : Int) hy2) rfl (fun w6 vu1 hag1 ⟨v2, hu_, hr1⟩ => ?_)
    subst hu_
    obtain ⟨hS12, hT11⟩ := hS11.agr hag1
    refine RG.vv (FV.fieldAddr (off := 3) (by kernel_rfl) rfl) rfl <| RG.now .plain (Acts.store (j := 3) (old := [.string s6, .int .i64 y0, vu0, .slice none 0 0, .slice none 0 0, .bool false]) (news := [vu1]) (new' := [.string s6, .int .i64 y0, vu0, vu1, .slice none 0 0, .bool false]) hS12 .hd rfl rfl rfl (Rep.c1 hr1) rfl rfl (ones_cons (Rep.o1 hr1) ones_nil) rfl) (fun w8 hS13 hT12 => ?_)
    refine RG.nil <| MX.seq <| MX.sr <| RG.sg rfl rfl <| RG.nil <| MX.block ?_
    have hS14 := hS13.nilRow 3 (Rep.size Int)
    have hT13 := St.nilRowT hS13 3 (Rep.size Int)
    have hc3 := Cells.at_ (cs := []) (xs := ([] : List Int)) hS14 L (Cells.nil _ _)
    obtain ⟨o1, ho6920, hh6922⟩ := bind_in2 h
    refine MX.loop (α := Nat × (List Int) × Value × (List Value)) (fun ⟨i0, xs1, v3, cs2⟩ => [(1, .int .i64 a1), (2, .pointer (some ⟨b5, 0, none⟩)), (4, .pointer (some ⟨b0, 0, none⟩)), (5, .pointer (some ⟨b1, 0, none⟩)), (6, .int .i64 z0), (7, .pointer (some ⟨b2, 0, none⟩)), (8, .int .i64 ((i0 : Nat) : Int))]) (fun ⟨i0, xs1, v3, cs2⟩ wx2 => St w wx2 [.row w.heap.size 3 (Rep.size Int) v3 xs1.length cs2, .cells b2 [.string s6, .int .i64 y0, vu0, vu1, v3, .bool false] 65, .row w.heap.size 65 (Rep.size TUnit) (.slice none 0 0) (([] : List TUnit).length) [], .row w.heap.size 65 (Rep.size TUnit) v0 xs0.length cs1, .cells b1 [.int .i64 (((a0.fGroups % (3 : UInt8)).toNat : Nat) : Int), .int .i64 (((a0.fParties % (4 : UInt8)).toNat : Nat) : Int), .int .i64 (((a0.fLevels % (3 : UInt8)).toNat : Nat) : Int), v0] 44, .cells b0 [.int .i64 0, .int .i64 0, .int .i64 0, (.slice none 0 0)] 44, .cells b5 [.int .u8 (a0.fGroups.toNat : Int), .int .u8 (a0.fParties.toNat : Int), .int .u8 (a0.fLevels.toNat : Int), .int .u8 (a0.fWater.toNat : Int), v0_4] 27] ∧ Tr w8 [.row w.heap.size 3 (Rep.size Int) (.slice none 0 0) (([] : List Int).length) [], .cells b2 [.string s6, .int .i64 y0, vu0, vu1, (.slice none 0 0), .bool false] 65, .row w.heap.size 65 (Rep.size TUnit) (.slice none 0 0) (([] : List TUnit).length) [], .row w.heap.size 65 (Rep.size TUnit) v0 xs0.length cs1, .cells b1 [.int .i64 (((a0.fGroups % (3 : UInt8)).toNat : Nat) : Int), .int .i64 (((a0.fParties % (4 : UInt8)).toNat : Nat) : Int), .int .i64 (((a0.fLevels % (3 : UInt8)).toNat : Nat) : Int), v0] 44, .cells b0 [.int .i64 0, .int .i64 0, .int .i64 0, (.slice none 0 0)] 44, .cells b5 [.int .u8 (a0.fGroups.toNat : Int), .int .u8 (a0.fParties.toNat : Int), .int .u8 (a0.fLevels.toNat : Int), .int .u8 (a0.fWater.toNat : Int), v0_4] 27] wx2 [.row w.heap.size 3 (Rep.size Int) v3 xs1.length cs2, .cells b2 [.string s6, .int .i64 y0, vu0, vu1, v3, .bool false] 65, .row w.heap.size 65 (Rep.size TUnit) (.slice none 0 0) (([] : List TUnit).length) [], .row w.heap.size 65 (Rep.size TUnit) v0 xs0.length cs1, .cells b1 [.int .i64 (((a0.fGroups % (3 : UInt8)).toNat : Nat) : Int), .int .i64 (((a0.fParties % (4 : UInt8)).toNat : Nat) : Int), .int .i64 (((a0.fLevels % (3 : UInt8)).toNat : Nat) : Int), v0] 44, .cells b0 [.int .i64 0, .int .i64 0, .int .i64 0, (.slice none 0 0)] 44, .cells b5 [.int .u8 (a0.fGroups.toNat : Int), .int .u8 (a0.fParties.toNat : Int), .int .u8 (a0.fLevels.toNat : Int), .int .u8 (a0.fWater.toNat : Int), v0_4] 27] ∧ Cells wx2 (bl [.row w.heap.size 3 (Rep.size Int) v3 xs1.length cs2, .cells b2 [.string s6, .int .i64 y0, vu0, vu1, v3, .bool false] 65, .row w.heap.size 65 (Rep.size TUnit) (.slice none 0 0) (([] : List TUnit).length) [], .row w.heap.size 65 (Rep.size TUnit) v0 xs0.length cs1, .cells b1 [.int .i64 (((a0.fGroups % (3 : UInt8)).toNat : Nat) : Int), .int .i64 (((a0.fParties % (4 : UInt8)).toNat : Nat) : Int), .int .i64 (((a0.fLevels % (3 : UInt8)).toNat : Nat) : Int), v0] 44, .cells b0 [.int .i64 0, .int .i64 0, .int .i64 0, (.slice none 0 0)] 44, .cells b5 [.int .u8 (a0.fGroups.toNat : Int), .int .u8 (a0.fParties.toNat : Int), .int .u8 (a0.fLevels.toNat : Int), .int .u8 (a0.fWater.toNat : Int), v0_4] 27] ++ L) cs2 xs1) (fun ⟨i0, xs1, v3, cs2⟩ => (i0, xs1)) (0, ([] : List Int), (.slice none 0 0), []) ho6920 ⟨rfl, rfl, rfl, rfl, rfl, rfl, rfl, trivial⟩ ⟨hS14, Tr.refl _ _, hc3⟩ ?_
    rintro J1 ⟨i0, xs1, v3, cs2⟩ wx2 hJ6924 ⟨hS15, hT14, hc4⟩ h
    unfold wardmoteref22_Draft_Roll_l1 at h
    try dsimp only at h
    refine MX.seq <| MX.sr <| RG.mv rfl rfl <| RG.vv (FV.fieldAddr (off := 2) (by kernel_rfl) rfl) rfl <| RG.vv (FV.load1 (by kernel_rfl) rfl ((hS15.memA (.tl (.tl (.tl (.tl .hd))))) 2 _ rfl)) rfl <| RG.vv (FV.lssN (i := i0) (j := (a0.fLevels % (3 : UInt8)).toNat) rfl rfl) rfl ?_
    refine RG.nil <| MX.ifd rfl h (fun c1 h => ?_) (fun c1 h => ?_)
    ·skip
     refine MX.skip <| MX.seq <| MX.block <| MX.drawT 11 tb18_11 (by kernel_rfl) (by kernel_rfl) (by kernel_rfl) (fun kt1 kp1 => ?_)
     refine RD.vw 0 1 kt1 rfl kp1 (fun _ => FV.fieldAddr (off := 4) (by kernel_rfl) rfl) rfl <| RD.vx 1 3 14336 kt1 rfl kp1 (FV.load1 (by kernel_rfl) rfl ((hS15.memA (.tl .hd)) 4 _ rfl)) rfl <| RD.vx 2 7 16128 kt1 rfl kp1 (FV.loadN (by kernel_rfl) rfl (hS15.memA (.tl (.tl (.tl (.tl (.tl (.tl .hd)))))))) rfl <| RD.vw 3 15 kt1 rfl kp1 (fun _ => FV.move rfl) rfl ?_
     obtain ⟨s11, hs11, h⟩ := bind_in h
     refine RD.vw 4 31 kt1 rfl kp1 (fun _ => FV.mulc (i := 9) (j := z0) rfl rfl hs11) rfl ?_
     obtain ⟨s12, hs12, h⟩ := bind_in h
     refine RD.vw 5 63 kt1 rfl kp1 (fun _ => FV.addc (i := s11) (j := 7) rfl rfl hs12) rfl <| RD.vw 6 127 kt1 rfl kp1 (fun _ => FV.move rfl) rfl ?_
     obtain ⟨s13, hs13, h⟩ := bind_in h
     refine RD.vw 7 255 kt1 rfl kp1 (fun _ => FV.addc (i := s12) (j := ((i0 : Nat) : Int)) rfl rfl hs13) rfl ?_
     obtain ⟨y3, hy3, h⟩ := bind_in h
     have hm4 := Rep.mv h0_4 (Tr.trans hT4 (Tr.trans hT9 (Tr.trans hT0 (Tr.trans hT1 (Tr.trans hT2 (Tr.trans hT3 (Tr.trans hT5 (Tr.trans hT6 (Tr.trans hT7 (Tr.trans hT8 (Tr.trans hT10 (Tr.trans hT11 (Tr.trans hT12 (Tr.trans hT13 hT14))))))))))))))
     refine RD.cq 8 511 15872 (.int .i64 y3) kt1 rfl kp1 body64 rfl (evs_cons rfl (evs_cons rfl evs_nil)) (fun w9 hw9 => wardmoteref22_Draft_num_c n _ w9 (hS15.hL0 hL hw9) a0 (Rep.keep0 (Rep.dropS hS15 hm4) hw9) s13 hy3) rfl ?_
     obtain ⟨s14, hs14, h⟩ := bind_in h
     refine RD.vw 9 1023 kt1 rfl kp1 (fun _ => FV.remc (i := y3) (j := 3) rfl rfl hs14) rfl <| RD.nu 10 2047 kt1 rfl .plain rfl (Does.build (α := Int) (xs := ([s14] : List Int)) (vs := [.int .i64 s14]) (ds' := [.int .i64 s14]) rfl hS15 el45 rfl (evs_cons rfl evs_nil) (by kernel_rfl) rfl) (fun w10 b3 hS17 hT15 => ?_)
     have hc5 := Cells.at_ (cs := [.int .i64 s14]) (xs := (([s14] : List Int) : List Int)) hS17 L (Cells.cons (cs := [.int .i64 s14]) (ds := []) rfl (Cells.nil _ _))
     obtain ⟨xs2, hxs6940, h⟩ := bind_in h
     have hm5 := Cells.mv hc4 hT15
     refine RD.one (i := 11) (readyD_ok kt1 (by kernel_rfl)) (RO.doesL (m' := 4095) (stepC_ok kt1 (by kernel_rfl)) rfl rfl .plain rfl (DoesL.app (α := Int) (ys := ([s14] : List Int)) (F := fun v' cs' => [.row w.heap.size 3 (Rep.size Int) (.slice (some ⟨b3, 0, none⟩) 1 1) (([s14] : List Int).length) [.int .i64 s14], .row w.heap.size 3 (Rep.size Int) v' xs2.length cs', .cells b2 [.string s6, .int .i64 y0, vu0, vu1, v3, .bool false] 65, .row w.heap.size 65 (Rep.size TUnit) (.slice none 0 0) (([] : List TUnit).length) [], .row w.heap.size 65 (Rep.size TUnit) v0 xs0.length cs1, .cells b1 [.int .i64 (((a0.fGroups % (3 : UInt8)).toNat : Nat) : Int), .int .i64 (((a0.fParties % (4 : UInt8)).toNat : Nat) : Int), .int .i64 (((a0.fLevels % (3 : UInt8)).toNat : Nat) : Int), v0] 44, .cells b0 [.int .i64 0, .int .i64 0, .int .i64 0, (.slice none 0 0)] 44, .cells b5 [.int .u8 (a0.fGroups.toNat : Int), .int .u8 (a0.fParties.toNat : Int), .int .u8 (a0.fLevels.toNat : Int), .int .u8 (a0.fWater.toNat : Int), v0_4] 27]) hxs6940 hS17 (fun _ _ => (.tl .hd)) el45 rfl rfl hm5 (Src.row (α := Int) hS17 .hd hc5)) (fun v4 w11 ⟨cs3, hS18, hT16, hc6⟩ => ?_))
     refine RD.one (i := 12) (readyD_ok kt1 (by kernel_rfl)) (RO.val (m' := 8191) (stepC_ok kt1 (by kernel_rfl)) rfl .plain rfl (FV.fieldAddr (off := 4) (by kernel_rfl) rfl) ?_)
     refine RD.nw 13 16383 kt1 rfl rfl .plain (Acts.store (j := 4) (old := [.string s6, .int .i64 y0, vu0, vu1, v3, .bool false]) (news := [v4]) (new' := [.string s6, .int .i64 y0, vu0, vu1, v4, .bool false]) hS18 (.tl (.tl .hd)) rfl rfl rfl (St.c1 (α := Int) hS18 (.tl .hd)) rfl rfl (ones_cons (St.o1 (α := Int) hS18 (.tl .hd)) ones_nil) rfl) (fun w12 hS19 hT18 => ?_)
     refine RD.done (doneD_ok kt1 (by kernel_rfl)) <| MX.inBlock <| MX.region <| RG.mv rfl rfl <| RG.vv (FV.addN (i := i0) (j := 1) rfl rfl (by omega)) rfl <| RG.sg rfl rfl ?_
     refine RG.nil ?_
     obtain ⟨hS21, hT19⟩ := St.arrB hS19 (.one (.tl .hd) (.one (.tl .hd) (.one (.tl .hd) (.one (.tl .hd) (.one (.tl .hd) (.one (.tl .hd) (.one (.tl .hd) .done)))))))
     have hm6 := Cells.mv hc6 (Tr.trans hT18 hT19)
     exact hJ6924 (i0 + 1, xs2, v4, cs3) _ _ ⟨rfl, rfl, rfl, rfl, rfl, rfl, rfl, trivial⟩ ⟨hS21, (Tr.trans hT14 (Tr.trans hT15 (Tr.trans hT16 (Tr.trans hT18 hT19)))), hm6⟩ h
    refine MX.exit rfl ?_
    have h := hh6922 _ h
    try dsimp only at h
    refine MX.region <| RG.vv (FV.fieldAddr (off := 3) (by kernel_rfl) rfl) rfl <| RG.vv (FV.load1 (by kernel_rfl) rfl ((hS15.memA (.tl (.tl (.tl (.tl .hd))))) 3 _ rfl)) rfl <| RG.vv (FV.loadN (by kernel_rfl) rfl (hS15.memA (.tl .hd))) rfl ?_
    have hr2 := St.freeze (α := Int) hS15 .hd hc4 hL
    have hS22 := St.delS hS15 .hd
    have hT20 := St.delT hS15 .hd
    have hr3 := Rep.at_ (α := Int) (v := v3) (xs := xs1) hS22 L hr2
    have hm7 := Rep.mv hr0 (Tr.trans hT10 (Tr.trans hT11 (Tr.trans hT12 (Tr.trans hT13 (Tr.trans hT14 hT20)))))
    have hm8 := Rep.mv hr1 (Tr.trans hT12 (Tr.trans hT13 (Tr.trans hT14 hT20)))
    obtain ⟨A6962, c2, hv6964, _⟩ := Rep.sl hm7
    obtain ⟨A6965, c3, hv6967, _⟩ := Rep.sl hm8
    obtain ⟨A6968, c4, hv6970, _⟩ := Rep.sl hr3
    refine RG.new .plain rfl (Does.build (α := TUnit) (xs := ([(⟨s6, y0, y1, y2, xs1, false⟩ : TUnit)] : List TUnit)) (vs := [.agg #[.string s6, .int .i64 y0, vu0, vu1, v3, .bool false]]) (ds' := [.string s6, .int .i64 y0, vu0, vu1, v3, .bool false]) rfl hS22 el42 rfl (evs_cons rfl evs_nil) (by rw [hv6964, hv6967, hv6970]; try kernel_rfl) rfl) (fun w13 b4 hS24 hT22 => ?_)
    have hm9 := Rep.mv hr0 (Tr.trans hT10 (Tr.trans hT11 (Tr.trans hT12 (Tr.trans hT13 (Tr.trans hT14 (Tr.trans hT20 hT22))))))
    have hm10 := Rep.mv hr1 (Tr.trans hT12 (Tr.trans hT13 (Tr.trans hT14 (Tr.trans hT20 hT22))))
    have hm11 := Rep.mv hr3 hT22
    have hc7 := Cells.at_ (cs := [.string s6, .int .i64 y0, vu0, vu1, v3, .bool false]) (xs := (([(⟨s6, y0, y1, y2, xs1, false⟩ : TUnit)] : List TUnit) : List TUnit)) hS24 L (Cells.cons (cs := [.string s6, .int .i64 y0, vu0, vu1, v3, .bool false]) (ds := []) (mk_TUnit s6 y0 y1 hm9 y2 hm10 xs1 hm11 false) (Cells.nil _ _))
    obtain ⟨xs3, hxs6979, h⟩ := bind_in h
    have hm12 := Cells.mv hc2 (Tr.trans hT6 (Tr.trans hT7 (Tr.trans hT8 (Tr.trans hT10 (Tr.trans hT11 (Tr.trans hT12 (Tr.trans hT13 (Tr.trans hT14 (Tr.trans hT20 hT22)))))))))
    refine RG.doesL .plain rfl (DoesL.app (α := TUnit) (ys := ([(⟨s6, y0, y1, y2, xs1, false⟩ : TUnit)] : List TUnit)) (F := fun v' cs' => [.row w.heap.size 65 (Rep.size TUnit) (.slice (some ⟨b4, 0, none⟩) 1 1) (([(⟨s6, y0, y1, y2, xs1, false⟩ : TUnit)] : List TUnit).length) [.string s6, .int .i64 y0, vu0, vu1, v3, .bool false], .cells b2 [.string s6, .int .i64 y0, vu0, vu1, v3, .bool false] 65, .row w.heap.size 65 (Rep.size TUnit) (.slice none 0 0) (([] : List TUnit).length) [], .row w.heap.size 65 (Rep.size TUnit) v' xs3.length cs', .cells b1 [.int .i64 (((a0.fGroups % (3 : UInt8)).toNat : Nat) : Int), .int .i64 (((a0.fParties % (4 : UInt8)).toNat : Nat) : Int), .int .i64 (((a0.fLevels % (3 : UInt8)).toNat : Nat) : Int), v0] 44, .cells b0 [.int .i64 0, .int .i64 0, .int .i64 0, (.slice none 0 0)] 44, .cells b5 [.int .u8 (a0.fGroups.toNat : Int), .int .u8 (a0.fParties.toNat : Int), .int .u8 (a0.fLevels.toNat : Int), .int .u8 (a0.fWater.toNat : Int), v0_4] 27]) hxs6979 hS24 (fun _ _ => (.tl (.tl (.tl .hd)))) el42 rfl rfl hm12 (Src.row (α := TUnit) hS24 .hd hc7)) (fun v5 w14 ⟨cs4, hS25, hT23, hc8⟩ => ?_)
    refine RG.vv (FV.fieldAddr (off := 3) (by kernel_rfl) rfl) rfl <| RG.now .plain (Acts.store (j := 3) (old := [.int .i64 (((a0.fGroups % (3 : UInt8)).toNat : Nat) : Int), .int .i64 (((a0.fParties % (4 : UInt8)).toNat : Nat) : Int), .int .i64 (((a0.fLevels % (3 : UInt8)).toNat : Nat) : Int), v0]) (news := [v5]) (new' := [.int .i64 (((a0.fGroups % (3 : UInt8)).toNat : Nat) : Int), .int .i64 (((a0.fParties % (4 : UInt8)).toNat : Nat) : Int), .int .i64 (((a0.fLevels % (3 : UInt8)).toNat : Nat) : Int), v5]) hS25 (.tl (.tl (.tl (.tl .hd)))) rfl rfl rfl (St.c1 (α := TUnit) hS25 (.tl (.tl (.tl .hd)))) rfl rfl (ones_cons (St.o1 (α := TUnit) hS25 (.tl (.tl (.tl .hd)))) ones_nil) rfl) (fun w16 hS26 hT25 => ?_)
    refine RG.nil <| MX.inBlock <| MX.region <| RG.mv rfl rfl ?_
    obtain ⟨s15, hs15, h⟩ := bind_in h
    refine RG.vv (FV.addc (i := z0) (j := 1) rfl rfl hs15) rfl <| RG.sg rfl rfl <| RG.nil ?_
    obtain ⟨hS28, hT26⟩ := St.arrB hS26 (.one (.tl (.tl .hd)) (.one (.tl (.tl .hd)) (.one (.tl (.tl .hd)) (.one (.tl (.tl .hd)) (.one (.tl (.tl .hd)) .done)))))
    have hm13 := Cells.mv hc8 (Tr.trans hT25 hT26)
    exact hJ4682 (s15, xs3, v5, cs4) _ _ ⟨rfl, rfl, rfl, rfl, rfl, trivial⟩ ⟨hS28, (Tr.trans hT5 (Tr.trans hT6 (Tr.trans hT7 (Tr.trans hT8 (Tr.trans hT10 (Tr.trans hT11 (Tr.trans hT12 (Tr.trans hT13 (Tr.trans hT14 (Tr.trans hT20 (Tr.trans hT22 (Tr.trans hT23 (Tr.trans hT25 hT26))))))))))))), hm13⟩ h
   ·skip
    intro hJ6995
    refine RD.each [9, 17] (readyD_ok kt0 (by kernel_rfl)) ⟨?_, ?_, trivial⟩
    ·skip
     refine RO.new (m' := 62463) (stepC_ok kt0 (by kernel_rfl)) rfl .plain rfl (Does.build (α := UInt8) (xs := ([u8ofI s1, u8ofI s4] : List UInt8)) (vs := [.int .u8 ((u8ofI s1).toNat : Int), .int .u8 ((u8ofI s4).toNat : Int)]) (ds' := [.int .u8 ((u8ofI s1).toNat : Int), .int .u8 ((u8ofI s4).toNat : Int)]) rfl hS6 el22 rfl (evs_cons rfl (evs_cons rfl evs_nil)) (by kernel_rfl) rfl) (fun w17 b6 hS29 hT27 => ?_)
     have hc9 := Cells.at_ (cs := [.int .u8 ((u8ofI s1).toNat : Int), .int .u8 ((u8ofI s4).toNat : Int)]) (xs := (([u8ofI s1, u8ofI s4] : List UInt8) : List UInt8)) hS29 L (Cells.cons (cs := [.int .u8 ((u8ofI s1).toNat : Int)]) (ds := [.int .u8 ((u8ofI s4).toNat : Int)]) rfl (Cells.cons (cs := [.int .u8 ((u8ofI s4).toNat : Int)]) (ds := []) rfl (Cells.nil _ _)))
     refine RD.vx 10 63487 329728 kt0 rfl kp0 (FV.bytesS (xs := ([u8ofI s1, u8ofI s4] : List UInt8)) Tryz.underlying22 Tryz.underlying9 Tryz.underlying5 rfl (Src.row (α := UInt8) hS29 .hd hc9)) rfl <| RD.vw 11 65535 kt0 rfl kp0 (fun _ => FV.addS hs6 rfl rfl) rfl <| RD.vw 16 131071 kt0 rfl kp0 (fun _ => FV.buildV (vs := [.string s6, .int .i64 y0]) (u := .agg #[.string s6, .int .i64 y0, .slice none 0 0, .slice none 0 0, .slice none 0 0, .bool false]) (evs_cons rfl (evs_cons rfl evs_nil)) (fun w9 => by kernel_rfl)) rfl <| RD.nu 17 262143 kt0 rfl .plain rfl (Does.alloc (zs := [.string ⟨#[]⟩, .int .i64 0, .slice none 0 0, .slice none 0 0, .slice none 0 0, .bool false]) hS29 (zB (by kernel_rfl))) (fun w18 b7 hS30 hT29 => ?_)
     obtain ⟨hS31, hT30⟩ := St.arrB hS30 (.one .hd (.one (.tl .hd) (.one (.tl .hd) (.one (.tl .hd) (.one (.tl .hd) (.one (.tl .hd) .done))))))
     exact hJ6995 b7 _ _ ⟨rfl, rfl, rfl, rfl, rfl, rfl, rfl, trivial⟩ ⟨hS31, (Tr.trans hT27 (Tr.trans hT29 hT30))⟩
    ·skip
     refine RO.new (m' := 193023) (stepC_ok kt0 (by kernel_rfl)) rfl .plain rfl (Does.alloc (zs := [.string ⟨#[]⟩, .int .i64 0, .slice none 0 0, .slice none 0 0, .slice none 0 0, .bool false]) hS6 (zB (by kernel_rfl))) (fun w18 b7 hS30 hT29 => ?_)
     refine RD.nu 9 193535 kt0 rfl .plain rfl (Does.build (α := UInt8) (xs := ([u8ofI s1, u8ofI s4] : List UInt8)) (vs := [.int .u8 ((u8ofI s1).toNat : Int), .int .u8 ((u8ofI s4).toNat : Int)]) (ds' := [.int .u8 ((u8ofI s1).toNat : Int), .int .u8 ((u8ofI s4).toNat : Int)]) rfl hS30 el22 rfl (evs_cons rfl (evs_cons rfl evs_nil)) (by kernel_rfl) rfl) (fun w17 b6 hS29 hT27 => ?_)
     have hc9 := Cells.at_ (cs := [.int .u8 ((u8ofI s1).toNat : Int), .int .u8 ((u8ofI s4).toNat : Int)]) (xs := (([u8ofI s1, u8ofI s4] : List UInt8) : List UInt8)) hS29 L (Cells.cons (cs := [.int .u8 ((u8ofI s1).toNat : Int)]) (ds := [.int .u8 ((u8ofI s4).toNat : Int)]) rfl (Cells.cons (cs := [.int .u8 ((u8ofI s4).toNat : Int)]) (ds := []) rfl (Cells.nil _ _)))
     refine RD.vx 10 194559 329728 kt0 rfl kp0 (FV.bytesS (xs := ([u8ofI s1, u8ofI s4] : List UInt8)) Tryz.underlying22 Tryz.underlying9 Tryz.underlying5 rfl (Src.row (α := UInt8) hS29 .hd hc9)) rfl <| RD.vw 11 196607 kt0 rfl kp0 (fun _ => FV.addS hs6 rfl rfl) rfl <| RD.vw 16 262143 kt0 rfl kp0 (fun _ => FV.buildV (vs := [.string s6, .int .i64 y0]) (u := .agg #[.string s6, .int .i64 y0, .slice none 0 0, .slice none 0 0, .slice none 0 0, .bool false]) (evs_cons rfl (evs_cons rfl evs_nil)) (fun w9 => by kernel_rfl)) rfl ?_
     obtain ⟨hS32, hT31⟩ := St.arrB hS29 (.one (.tl .hd) (.one (.tl .hd) (.one (.tl .hd) (.one (.tl .hd) (.one (.tl .hd) (.one (.tl .hd) .done))))))
     exact hJ6995 b7 _ _ ⟨rfl, rfl, rfl, rfl, rfl, rfl, rfl, trivial⟩ ⟨hS32, (Tr.trans hT29 (Tr.trans hT27 hT31))⟩
  refine MX.exit rfl ?_
  have h := hh4680 _ h
  try dsimp only at h
  refine MX.seq <| MX.sr <| RG.sg rfl rfl <| RG.nil <| MX.block ?_
  obtain ⟨o2, ho10261, hh10263⟩ := bind_in2 h
  refine MX.loop (α := Nat × (List TUnit) × Value × (List Value)) (fun ⟨i1, xs4, v6, cs5⟩ => [(2, .pointer (some ⟨b5, 0, none⟩)), (4, .pointer (some ⟨b0, 0, none⟩)), (5, .pointer (some ⟨b1, 0, none⟩)), (9, .int .i64 ((i1 : Nat) : Int))]) (fun ⟨i1, xs4, v6, cs5⟩ wx3 => St w wx3 [.row w.heap.size 65 (Rep.size TUnit) (.slice none 0 0) (([] : List TUnit).length) [], .row w.heap.size 65 (Rep.size TUnit) v6 xs4.length cs5, .cells b1 [.int .i64 (((a0.fGroups % (3 : UInt8)).toNat : Nat) : Int), .int .i64 (((a0.fParties % (4 : UInt8)).toNat : Nat) : Int), .int .i64 (((a0.fLevels % (3 : UInt8)).toNat : Nat) : Int), v6] 44, .cells b0 [.int .i64 0, .int .i64 0, .int .i64 0, (.slice none 0 0)] 44, .cells b5 [.int .u8 (a0.fGroups.toNat : Int), .int .u8 (a0.fParties.toNat : Int), .int .u8 (a0.fLevels.toNat : Int), .int .u8 (a0.fWater.toNat : Int), v0_4] 27] ∧ Tr wx0 [.row w.heap.size 65 (Rep.size TUnit) (.slice none 0 0) (([] : List TUnit).length) [], .row w.heap.size 65 (Rep.size TUnit) v0 xs0.length cs1, .cells b1 [.int .i64 (((a0.fGroups % (3 : UInt8)).toNat : Nat) : Int), .int .i64 (((a0.fParties % (4 : UInt8)).toNat : Nat) : Int), .int .i64 (((a0.fLevels % (3 : UInt8)).toNat : Nat) : Int), v0] 44, .cells b0 [.int .i64 0, .int .i64 0, .int .i64 0, (.slice none 0 0)] 44, .cells b5 [.int .u8 (a0.fGroups.toNat : Int), .int .u8 (a0.fParties.toNat : Int), .int .u8 (a0.fLevels.toNat : Int), .int .u8 (a0.fWater.toNat : Int), v0_4] 27] wx3 [.row w.heap.size 65 (Rep.size TUnit) (.slice none 0 0) (([] : List TUnit).length) [], .row w.heap.size 65 (Rep.size TUnit) v6 xs4.length cs5, .cells b1 [.int .i64 (((a0.fGroups % (3 : UInt8)).toNat : Nat) : Int), .int .i64 (((a0.fParties % (4 : UInt8)).toNat : Nat) : Int), .int .i64 (((a0.fLevels % (3 : UInt8)).toNat : Nat) : Int), v6] 44, .cells b0 [.int .i64 0, .int .i64 0, .int .i64 0, (.slice none 0 0)] 44, .cells b5 [.int .u8 (a0.fGroups.toNat : Int), .int .u8 (a0.fParties.toNat : Int), .int .u8 (a0.fLevels.toNat : Int), .int .u8 (a0.fWater.toNat : Int), v0_4] 27] ∧ Cells wx3 (bl [.row w.heap.size 65 (Rep.size TUnit) (.slice none 0 0) (([] : List TUnit).length) [], .row w.heap.size 65 (Rep.size TUnit) v6 xs4.length cs5, .cells b1 [.int .i64 (((a0.fGroups % (3 : UInt8)).toNat : Nat) : Int), .int .i64 (((a0.fParties % (4 : UInt8)).toNat : Nat) : Int), .int .i64 (((a0.fLevels % (3 : UInt8)).toNat : Nat) : Int), v6] 44, .cells b0 [.int .i64 0, .int .i64 0, .int .i64 0, (.slice none 0 0)] 44, .cells b5 [.int .u8 (a0.fGroups.toNat : Int), .int .u8 (a0.fParties.toNat : Int), .int .u8 (a0.fLevels.toNat : Int), .int .u8 (a0.fWater.toNat : Int), v0_4] 27] ++ L) cs5 xs4) (fun ⟨i1, xs4, v6, cs5⟩ => (i1, xs4)) (0, xs0, v0, cs1) ho10261 ⟨rfl, rfl, rfl, rfl, trivial⟩ ⟨hS6, Tr.refl _ _, hc2⟩ ?_
  rintro J2 ⟨i1, xs4, v6, cs5⟩ wx3 hJ10265 ⟨hS33, hT32, hc10⟩ h
  unfold wardmoteref22_Draft_Roll_l2 at h
  try dsimp only at h
  refine MX.seq <| MX.sr <| RG.mv rfl rfl <| RG.vv (FV.fieldAddr (off := 3) (by kernel_rfl) rfl) rfl <| RG.vv (FV.load1 (by kernel_rfl) rfl ((hS33.memA (.tl (.tl (.tl (.tl .hd))))) 3 _ rfl)) rfl <| RG.vv (FV.rem8 (a := a0.fWater) (b := (2 : UInt8)) rfl rfl (by decide)) rfl ?_
  have hu3 := (a0.fWater % (2 : UInt8)).toNat_lt
  refine RG.vv (FV.convN (i := (a0.fWater % (2 : UInt8)).toNat) Tryz.underlying5 Tryz.underlying3 rfl (by omega)) rfl <| RG.vv (FV.lssN (i := i1) (j := (a0.fWater % (2 : UInt8)).toNat) rfl rfl) rfl <| RG.nil <| MX.ifd rfl h (fun c5 h => ?_) (fun c5 h => ?_)
  ·skip
   refine MX.skip <| MX.seq <| MX.block <| MX.drawT 13 tb18_16 (by kernel_rfl) (by kernel_rfl) (by kernel_rfl) (fun kt2 kp2 => ?_)
   refine RD.vw 0 1 kt2 rfl kp2 (fun _ => FV.fieldAddr (off := 3) (by kernel_rfl) rfl) rfl <| RD.vx 1 3 57344 kt2 rfl kp2 (FV.load1 (by kernel_rfl) rfl ((hS33.memA (.tl (.tl .hd))) 3 _ rfl)) rfl <| RD.vw 2 7 kt2 rfl kp2 (fun _ => FV.fieldAddr (off := 0) (by kernel_rfl) rfl) rfl <| RD.vx 3 15 63504 kt2 rfl kp2 (FV.load1 (by kernel_rfl) rfl ((hS33.memA (.tl (.tl .hd))) 0 _ rfl)) rfl <| RD.vw 5 47 kt2 rfl kp2 (fun _ => FV.fieldAddr (off := 1) (by kernel_rfl) rfl) rfl <| RD.vx 6 111 63616 kt2 rfl kp2 (FV.load1 (by kernel_rfl) rfl ((hS33.memA (.tl (.tl .hd))) 1 _ rfl)) rfl ?_
   refine RD.vw 8 367 kt2 rfl kp2 (fun _ => FV.fieldAddr (off := 2) (by kernel_rfl) rfl) rfl <| RD.vx 9 879 64512 kt2 rfl kp2 (FV.load1 (by kernel_rfl) rfl ((hS33.memA (.tl (.tl .hd))) 2 _ rfl)) rfl ?_
   obtain ⟨xs5, hxs10571, h⟩ := bind_in h
   obtain ⟨xs6, hxs10878, h⟩ := bind_in h
   obtain ⟨xs7, hxs11185, h⟩ := bind_in h
   refine RD.meet (α := Value × (List Value) × Value × (List Value) × Value × (List Value)) (fun ⟨v7, cs6, v8, cs7, v9, cs8⟩ => [(2, .pointer (some ⟨b5, 0, none⟩)), (4, .pointer (some ⟨b0, 0, none⟩)), (5, .pointer (some ⟨b1, 0, none⟩)), (9, .int .i64 ((i1 : Nat) : Int)), (97, v6), (100, v9), (103, v8), (106, v7)]) (fun ⟨v7, cs6, v8, cs7, v9, cs8⟩ wx4 => St w wx4 [.row w.heap.size 3 (Rep.size Int) v7 xs7.length cs6, .row w.heap.size 3 (Rep.size Int) v8 xs6.length cs7, .row w.heap.size 3 (Rep.size Int) v9 xs5.length cs8, .row w.heap.size 65 (Rep.size TUnit) (.slice none 0 0) (([] : List TUnit).length) [], .row w.heap.size 65 (Rep.size TUnit) v6 xs4.length cs5, .cells b1 [.int .i64 (((a0.fGroups % (3 : UInt8)).toNat : Nat) : Int), .int .i64 (((a0.fParties % (4 : UInt8)).toNat : Nat) : Int), .int .i64 (((a0.fLevels % (3 : UInt8)).toNat : Nat) : Int), v6] 44, .cells b0 [.int .i64 0, .int .i64 0, .int .i64 0, (.slice none 0 0)] 44, .cells b5 [.int .u8 (a0.fGroups.toNat : Int), .int .u8 (a0.fParties.toNat : Int), .int .u8 (a0.fLevels.toNat : Int), .int .u8 (a0.fWater.toNat : Int), v0_4] 27] ∧ Tr wx3 [.row w.heap.size 65 (Rep.size TUnit) (.slice none 0 0) (([] : List TUnit).length) [], .row w.heap.size 65 (Rep.size TUnit) v6 xs4.length cs5, .cells b1 [.int .i64 (((a0.fGroups % (3 : UInt8)).toNat : Nat) : Int), .int .i64 (((a0.fParties % (4 : UInt8)).toNat : Nat) : Int), .int .i64 (((a0.fLevels % (3 : UInt8)).toNat : Nat) : Int), v6] 44, .cells b0 [.int .i64 0, .int .i64 0, .int .i64 0, (.slice none 0 0)] 44, .cells b5 [.int .u8 (a0.fGroups.toNat : Int), .int .u8 (a0.fParties.toNat : Int), .int .u8 (a0.fLevels.toNat : Int), .int .u8 (a0.fWater.toNat : Int), v0_4] 27] wx4 [.row w.heap.size 3 (Rep.size Int) v7 xs7.length cs6, .row w.heap.size 3 (Rep.size Int) v8 xs6.length cs7, .row w.heap.size 3 (Rep.size Int) v9 xs5.length cs8, .row w.heap.size 65 (Rep.size TUnit) (.slice none 0 0) (([] : List TUnit).length) [], .row w.heap.size 65 (Rep.size TUnit) v6 xs4.length cs5, .cells b1 [.int .i64 (((a0.fGroups % (3 : UInt8)).toNat : Nat) : Int), .int .i64 (((a0.fParties % (4 : UInt8)).toNat : Nat) : Int), .int .i64 (((a0.fLevels % (3 : UInt8)).toNat : Nat) : Int), v6] 44, .cells b0 [.int .i64 0, .int .i64 0, .int .i64 0, (.slice none 0 0)] 44, .cells b5 [.int .u8 (a0.fGroups.toNat : Int), .int .u8 (a0.fParties.toNat : Int), .int .u8 (a0.fLevels.toNat : Int), .int .u8 (a0.fWater.toNat : Int), v0_4] 27] ∧ Cells wx4 (bl [.row w.heap.size 3 (Rep.size Int) v7 xs7.length cs6, .row w.heap.size 3 (Rep.size Int) v8 xs6.length cs7, .row w.heap.size 3 (Rep.size Int) v9 xs5.length cs8, .row w.heap.size 65 (Rep.size TUnit) (.slice none 0 0) (([] : List TUnit).length) [], .row w.heap.size 65 (Rep.size TUnit) v6 xs4.length cs5, .cells b1 [.int .i64 (((a0.fGroups % (3 : UInt8)).toNat : Nat) : Int), .int .i64 (((a0.fParties % (4 : UInt8)).toNat : Nat) : Int), .int .i64 (((a0.fLevels % (3 : UInt8)).toNat : Nat) : Int), v6] 44, .cells b0 [.int .i64 0, .int .i64 0, .int .i64 0, (.slice none 0 0)] 44, .cells b5 [.int .u8 (a0.fGroups.toNat : Int), .int .u8 (a0.fParties.toNat : Int), .int .u8 (a0.fLevels.toNat : Int), .int .u8 (a0.fWater.toNat : Int), v0_4] 27] ++ L) cs6 (xs7 : List Int) ∧ Cells wx4 (bl [.row w.heap.size 3 (Rep.size Int) v7 xs7.length cs6, .row w.heap.size 3 (Rep.size Int) v8 xs6.length cs7, .row w.heap.size 3 (Rep.size Int) v9 xs5.length cs8, .row w.heap.size 65 (Rep.size TUnit) (.slice none 0 0) (([] : List TUnit).length) [], .row w.heap.size 65 (Rep.size TUnit) v6 xs4.length cs5, .cells b1 [.int .i64 (((a0.fGroups % (3 : UInt8)).toNat : Nat) : Int), .int .i64 (((a0.fParties % (4 : UInt8)).toNat : Nat) : Int), .int .i64 (((a0.fLevels % (3 : UInt8)).toNat : Nat) : Int), v6] 44, .cells b0 [.int .i64 0, .int .i64 0, .int .i64 0, (.slice none 0 0)] 44, .cells b5 [.int .u8 (a0.fGroups.toNat : Int), .int .u8 (a0.fParties.toNat : Int), .int .u8 (a0.fLevels.toNat : Int), .int .u8 (a0.fWater.toNat : Int), v0_4] 27] ++ L) cs7 (xs6 : List Int) ∧ Cells wx4 (bl [.row w.heap.size 3 (Rep.size Int) v7 xs7.length cs6, .row w.heap.size 3 (Rep.size Int) v8 xs6.length cs7, .row w.heap.size 3 (Rep.size Int) v9 xs5.length cs8, .row w.heap.size 65 (Rep.size TUnit) (.slice none 0 0) (([] : List TUnit).length) [], .row w.heap.size 65 (Rep.size TUnit) v6 xs4.length cs5, .cells b1 [.int .i64 (((a0.fGroups % (3 : UInt8)).toNat : Nat) : Int), .int .i64 (((a0.fParties % (4 : UInt8)).toNat : Nat) : Int), .int .i64 (((a0.fLevels % (3 : UInt8)).toNat : Nat) : Int), v6] 44, .cells b0 [.int .i64 0, .int .i64 0, .int .i64 0, (.slice none 0 0)] 44, .cells b5 [.int .u8 (a0.fGroups.toNat : Int), .int .u8 (a0.fParties.toNat : Int), .int .u8 (a0.fLevels.toNat : Int), .int .u8 (a0.fWater.toNat : Int), v0_4] 27] ++ L) cs8 (xs5 : List Int)) 5 2047 ?_ ?_
   ·skip
    rintro ⟨v7, cs6, v8, cs7, v9, cs8⟩ wx4 ⟨hS34, hT33, hc11, hc12, hc13⟩
    try dsimp only
    obtain ⟨A11803, c6, he0⟩ := St.rowV (α := Int) hS34 (.tl (.tl .hd))
    obtain ⟨A11806, c7, he1⟩ := St.rowV (α := Int) hS34 (.tl .hd)
    obtain ⟨A11809, c8, he2⟩ := St.rowV (α := Int) hS34 .hd
    refine RD.vw 11 4095 kt2 rfl kp2 (fun _ => FV.buildV (vs := [.string ⟨#[115, 101, 97]⟩, .bool true, v9, v8, v7]) (u := .agg #[.string ⟨#[115, 101, 97]⟩, .int .i64 0, v9, v8, v7, .bool true]) (evs_cons rfl (evs_cons rfl (evs_cons rfl (evs_cons rfl (evs_cons rfl evs_nil))))) (fun w9 => by rw [he0, he1, he2]; try kernel_rfl)) rfl ?_
    have hr4 := St.freeze (α := Int) hS34 (.tl (.tl .hd)) hc13 hL
    have hS35 := St.delS hS34 (.tl (.tl .hd))
    have hT34 := St.delT hS34 (.tl (.tl .hd))
    have hr5 := Rep.at_ (α := Int) (v := v9) (xs := xs5) hS35 L hr4
    have hm14 := Cells.mv hc12 hT34
    have hr6 := St.freeze (α := Int) hS35 (.tl .hd) hm14 hL
    have hS36 := St.delS hS35 (.tl .hd)
    have hT35 := St.delT hS35 (.tl .hd)
    have hr7 := Rep.at_ (α := Int) (v := v8) (xs := xs6) hS36 L hr6
    have hm15 := Cells.mv hc11 (Tr.trans hT34 hT35)
    have hr8 := St.freeze (α := Int) hS36 .hd hm15 hL
    have hS37 := St.delS hS36 .hd
    have hT36 := St.delT hS36 .hd
    have hr9 := Rep.at_ (α := Int) (v := v7) (xs := xs7) hS37 L hr8
    have hm16 := Rep.mv hr5 (Tr.trans hT35 hT36)
    have hm17 := Rep.mv hr7 hT36
    obtain ⟨A11829, c9, hv11831, _⟩ := Rep.sl hm16
    obtain ⟨A11832, c10, hv11834, _⟩ := Rep.sl hm17
    obtain ⟨A11835, c11, hv11837, _⟩ := Rep.sl hr9
    refine RD.nu 12 8191 kt2 rfl .plain rfl (Does.build (α := TUnit) (xs := ([(⟨⟨#[115, 101, 97]⟩, (0 : Int), xs5, xs6, xs7, true⟩ : TUnit)] : List TUnit)) (vs := [.agg #[.string ⟨#[115, 101, 97]⟩, .int .i64 0, v9, v8, v7, .bool true]]) (ds' := [.string ⟨#[115, 101, 97]⟩, .int .i64 0, v9, v8, v7, .bool true]) rfl hS37 el42 rfl (evs_cons rfl evs_nil) (by rw [hv11831, hv11834, hv11837]; try kernel_rfl) rfl) (fun w20 b8 hS38 hT37 => ?_)
    have hm18 := Rep.mv hr5 (Tr.trans hT35 (Tr.trans hT36 hT37))
    have hm19 := Rep.mv hr7 (Tr.trans hT36 hT37)
    have hm20 := Rep.mv hr9 hT37
    have hc14 := Cells.at_ (cs := [.string ⟨#[115, 101, 97]⟩, .int .i64 0, v9, v8, v7, .bool true]) (xs := (([(⟨⟨#[115, 101, 97]⟩, (0 : Int), xs5, xs6, xs7, true⟩ : TUnit)] : List TUnit) : List TUnit)) hS38 L (Cells.cons (cs := [.string ⟨#[115, 101, 97]⟩, .int .i64 0, v9, v8, v7, .bool true]) (ds := []) (mk_TUnit ⟨#[115, 101, 97]⟩ (0 : Int) xs5 hm18 xs6 hm19 xs7 hm20 true) (Cells.nil _ _))
    obtain ⟨xs8, hxs11846, h⟩ := bind_in h
    have hm21 := Cells.mv hc10 (Tr.trans hT33 (Tr.trans hT34 (Tr.trans hT35 (Tr.trans hT36 hT37))))
    refine RD.one (i := 13) (readyD_ok kt2 (by kernel_rfl)) (RO.doesL (m' := 16383) (stepC_ok kt2 (by kernel_rfl)) rfl rfl .plain rfl (DoesL.app (α := TUnit) (ys := ([(⟨⟨#[115, 101, 97]⟩, (0 : Int), xs5, xs6, xs7, true⟩ : TUnit)] : List TUnit)) (F := fun v' cs' => [.row w.heap.size 65 (Rep.size TUnit) (.slice (some ⟨b8, 0, none⟩) 1 1) (([(⟨⟨#[115, 101, 97]⟩, (0 : Int), xs5, xs6, xs7, true⟩ : TUnit)] : List TUnit).length) [.string ⟨#[115, 101, 97]⟩, .int .i64 0, v9, v8, v7, .bool true], .row w.heap.size 65 (Rep.size TUnit) (.slice none 0 0) (([] : List TUnit).length) [], .row w.heap.size 65 (Rep.size TUnit) v' xs8.length cs', .cells b1 [.int .i64 (((a0.fGroups % (3 : UInt8)).toNat : Nat) : Int), .int .i64 (((a0.fParties % (4 : UInt8)).toNat : Nat) : Int), .int .i64 (((a0.fLevels % (3 : UInt8)).toNat : Nat) : Int), v6] 44, .cells b0 [.int .i64 0, .int .i64 0, .int .i64 0, (.slice none 0 0)] 44, .cells b5 [.int .u8 (a0.fGroups.toNat : Int), .int .u8 (a0.fParties.toNat : Int), .int .u8 (a0.fLevels.toNat : Int), .int .u8 (a0.fWater.toNat : Int), v0_4] 27]) hxs11846 hS38 (fun _ _ => (.tl (.tl .hd))) el42 rfl rfl hm21 (Src.row (α := TUnit) hS38 .hd hc14)) (fun v10 w21 ⟨cs9, hS39, hT38, hc15⟩ => ?_))
    refine RD.one (i := 14) (readyD_ok kt2 (by kernel_rfl)) (RO.val (m' := 32767) (stepC_ok kt2 (by kernel_rfl)) rfl .plain rfl (FV.fieldAddr (off := 3) (by kernel_rfl) rfl) ?_)
    refine RD.nw 15 65535 kt2 rfl rfl .plain (Acts.store (j := 3) (old := [.int .i64 (((a0.fGroups % (3 : UInt8)).toNat : Nat) : Int), .int .i64 (((a0.fParties % (4 : UInt8)).toNat : Nat) : Int), .int .i64 (((a0.fLevels % (3 : UInt8)).toNat : Nat) : Int), v6]) (news := [v10]) (new' := [.int .i64 (((a0.fGroups % (3 : UInt8)).toNat : Nat) : Int), .int .i64 (((a0.fParties % (4 : UInt8)).toNat : Nat) : Int), .int .i64 (((a0.fLevels % (3 : UInt8)).toNat : Nat) : Int), v10]) hS39 (.tl (.tl (.tl .hd))) rfl rfl rfl (St.c1 (α := TUnit) hS39 (.tl (.tl .hd))) rfl rfl (ones_cons (St.o1 (α := TUnit) hS39 (.tl (.tl .hd))) ones_nil) rfl) (fun w22 hS40 hT39 => ?_)
    refine RD.done (doneD_ok kt2 (by kernel_rfl)) <| MX.inBlock <| MX.region <| RG.mv rfl rfl <| RG.vv (FV.addN (i := i1) (j := 1) rfl rfl (by omega)) rfl <| RG.sg rfl rfl ?_
    refine RG.nil ?_
    obtain ⟨hS41, hT40⟩ := St.arrB hS40 (.one (.tl .hd) (.one (.tl .hd) (.one (.tl .hd) (.one (.tl .hd) (.one (.tl .hd) .done)))))
    have hm22 := Cells.mv hc15 (Tr.trans hT39 hT40)
    exact hJ10265 (i1 + 1, xs8, v10, cs9) _ _ ⟨rfl, rfl, rfl, rfl, trivial⟩ ⟨hS41, (Tr.trans hT32 (Tr.trans hT33 (Tr.trans hT34 (Tr.trans hT35 (Tr.trans hT36 (Tr.trans hT37 (Tr.trans hT38 (Tr.trans hT39 hT40)))))))), hm22⟩ h
   ·skip
    intro hJ11861
    refine RD.each [4, 7, 10] (readyD_ok kt2 (by kernel_rfl)) ⟨?_, ?_, ?_, trivial⟩
    ·skip
     refine RO.new (m' := 895) (stepC_ok kt2 (by kernel_rfl)) rfl .plain rfl (Does.mk (α := Int) hxs10571 hS33 el45 rfl) (fun w23 b9 hS42 hT41 => ?_)
     have hc16 := Cells.at_ (cs := (List.replicate (((a0.fGroups % (3 : UInt8)).toNat : Nat) : Int).toNat [.int .i64 0]).flatten) (xs := xs5) hS42 L (Cells.mk hxs10571 rfl)
     refine RD.each [7, 10] (readyD_ok kt2 (by kernel_rfl)) ⟨?_, ?_, trivial⟩
     ·skip
      refine RO.new (m' := 1023) (stepC_ok kt2 (by kernel_rfl)) rfl .plain rfl (Does.mk (α := Int) hxs10878 hS42 el45 rfl) (fun w24 b11 hS43 hT42 => ?_)
      have hc17 := Cells.at_ (cs := (List.replicate (((a0.fParties % (4 : UInt8)).toNat : Nat) : Int).toNat [.int .i64 0]).flatten) (xs := xs6) hS43 L (Cells.mk hxs10878 rfl)
      refine RD.nu 10 2047 kt2 rfl .plain rfl (Does.mk (α := Int) hxs11185 hS43 el45 rfl) (fun w25 b12 hS44 hT43 => ?_)
      have hc18 := Cells.at_ (cs := (List.replicate (((a0.fLevels % (3 : UInt8)).toNat : Nat) : Int).toNat [.int .i64 0]).flatten) (xs := xs7) hS44 L (Cells.mk hxs11185 rfl)
      have hm23 := Cells.mv hc17 hT43
      have hm24 := Cells.mv hc16 (Tr.trans hT42 hT43)
      exact hJ11861 ((.slice (some ⟨b12, 0, none⟩) (((a0.fLevels % (3 : UInt8)).toNat : Nat) : Int).toNat (((a0.fLevels % (3 : UInt8)).toNat : Nat) : Int).toNat), (List.replicate (((a0.fLevels % (3 : UInt8)).toNat : Nat) : Int).toNat [.int .i64 0]).flatten, (.slice (some ⟨b11, 0, none⟩) (((a0.fParties % (4 : UInt8)).toNat : Nat) : Int).toNat (((a0.fParties % (4 : UInt8)).toNat : Nat) : Int).toNat), (List.replicate (((a0.fParties % (4 : UInt8)).toNat : Nat) : Int).toNat [.int .i64 0]).flatten, (.slice (some ⟨b9, 0, none⟩) (((a0.fGroups % (3 : UInt8)).toNat : Nat) : Int).toNat (((a0.fGroups % (3 : UInt8)).toNat : Nat) : Int).toNat), (List.replicate (((a0.fGroups % (3 : UInt8)).toNat : Nat) : Int).toNat [.int .i64 0]).flatten) _ _ ⟨rfl, rfl, rfl, rfl, rfl, rfl, rfl, rfl, trivial⟩ ⟨hS44, (Tr.trans hT41 (Tr.trans hT42 hT43)), hc18, hm23, hm24⟩
     ·skip
      refine RO.new (m' := 1919) (stepC_ok kt2 (by kernel_rfl)) rfl .plain rfl (Does.mk (α := Int) hxs11185 hS42 el45 rfl) (fun w25 b12 hS44 hT43 => ?_)
      have hc18 := Cells.at_ (cs := (List.replicate (((a0.fLevels % (3 : UInt8)).toNat : Nat) : Int).toNat [.int .i64 0]).flatten) (xs := xs7) hS44 L (Cells.mk hxs11185 rfl)
      refine RD.nu 7 2047 kt2 rfl .plain rfl (Does.mk (α := Int) hxs10878 hS44 el45 rfl) (fun w24 b11 hS43 hT42 => ?_)
      have hc17 := Cells.at_ (cs := (List.replicate (((a0.fParties % (4 : UInt8)).toNat : Nat) : Int).toNat [.int .i64 0]).flatten) (xs := xs6) hS43 L (Cells.mk hxs10878 rfl)
      obtain ⟨hS45, hT44⟩ := St.arrB hS43 (.one (.tl .hd) (.one .hd (.one .hd (.one .hd (.one .hd (.one .hd (.one .hd (.one .hd .done))))))))
      have hm25 := Cells.mv hc18 (Tr.trans hT42 hT44)
      have hm26 := Cells.mv hc17 hT44
      have hm27 := Cells.mv hc16 (Tr.trans hT43 (Tr.trans hT42 hT44))
      exact hJ11861 ((.slice (some ⟨b12, 0, none⟩) (((a0.fLevels % (3 : UInt8)).toNat : Nat) : Int).toNat (((a0.fLevels % (3 : UInt8)).toNat : Nat) : Int).toNat), (List.replicate (((a0.fLevels % (3 : UInt8)).toNat : Nat) : Int).toNat [.int .i64 0]).flatten, (.slice (some ⟨b11, 0, none⟩) (((a0.fParties % (4 : UInt8)).toNat : Nat) : Int).toNat (((a0.fParties % (4 : UInt8)).toNat : Nat) : Int).toNat), (List.replicate (((a0.fParties % (4 : UInt8)).toNat : Nat) : Int).toNat [.int .i64 0]).flatten, (.slice (some ⟨b9, 0, none⟩) (((a0.fGroups % (3 : UInt8)).toNat : Nat) : Int).toNat (((a0.fGroups % (3 : UInt8)).toNat : Nat) : Int).toNat), (List.replicate (((a0.fGroups % (3 : UInt8)).toNat : Nat) : Int).toNat [.int .i64 0]).flatten) _ _ ⟨rfl, rfl, rfl, rfl, rfl, rfl, rfl, rfl, trivial⟩ ⟨hS45, (Tr.trans hT41 (Tr.trans hT43 (Tr.trans hT42 hT44))), hm25, hm26, hm27⟩
    ·skip
     refine RO.new (m' := 1007) (stepC_ok kt2 (by kernel_rfl)) rfl .plain rfl (Does.mk (α := Int) hxs10878 hS33 el45 rfl) (fun w24 b11 hS43 hT42 => ?_)
     have hc17 := Cells.at_ (cs := (List.replicate (((a0.fParties % (4 : UInt8)).toNat : Nat) : Int).toNat [.int .i64 0]).flatten) (xs := xs6) hS43 L (Cells.mk hxs10878 rfl)
     refine RD.each [4, 10] (readyD_ok kt2 (by kernel_rfl)) ⟨?_, ?_, trivial⟩
     ·skip
      refine RO.new (m' := 1023) (stepC_ok kt2 (by kernel_rfl)) rfl .plain rfl (Does.mk (α := Int) hxs10571 hS43 el45 rfl) (fun w23 b9 hS42 hT41 => ?_)
      have hc16 := Cells.at_ (cs := (List.replicate (((a0.fGroups % (3 : UInt8)).toNat : Nat) : Int).toNat [.int .i64 0]).flatten) (xs := xs5) hS42 L (Cells.mk hxs10571 rfl)
      refine RD.nu 10 2047 kt2 rfl .plain rfl (Does.mk (α := Int) hxs11185 hS42 el45 rfl) (fun w25 b12 hS44 hT43 => ?_)
      have hc18 := Cells.at_ (cs := (List.replicate (((a0.fLevels % (3 : UInt8)).toNat : Nat) : Int).toNat [.int .i64 0]).flatten) (xs := xs7) hS44 L (Cells.mk hxs11185 rfl)
      obtain ⟨hS46, hT45⟩ := St.arrB hS44 (.one .hd (.one (.tl .hd) (.one .hd (.one .hd (.one .hd (.one .hd (.one .hd (.one .hd .done))))))))
      have hm28 := Cells.mv hc18 hT45
      have hm29 := Cells.mv hc17 (Tr.trans hT41 (Tr.trans hT43 hT45))
      have hm30 := Cells.mv hc16 (Tr.trans hT43 hT45)
      exact hJ11861 ((.slice (some ⟨b12, 0, none⟩) (((a0.fLevels % (3 : UInt8)).toNat : Nat) : Int).toNat (((a0.fLevels % (3 : UInt8)).toNat : Nat) : Int).toNat), (List.replicate (((a0.fLevels % (3 : UInt8)).toNat : Nat) : Int).toNat [.int .i64 0]).flatten, (.slice (some ⟨b11, 0, none⟩) (((a0.fParties % (4 : UInt8)).toNat : Nat) : Int).toNat (((a0.fParties % (4 : UInt8)).toNat : Nat) : Int).toNat), (List.replicate (((a0.fParties % (4 : UInt8)).toNat : Nat) : Int).toNat [.int .i64 0]).flatten, (.slice (some ⟨b9, 0, none⟩) (((a0.fGroups % (3 : UInt8)).toNat : Nat) : Int).toNat (((a0.fGroups % (3 : UInt8)).toNat : Nat) : Int).toNat), (List.replicate (((a0.fGroups % (3 : UInt8)).toNat : Nat) : Int).toNat [.int .i64 0]).flatten) _ _ ⟨rfl, rfl, rfl, rfl, rfl, rfl, rfl, rfl, trivial⟩ ⟨hS46, (Tr.trans hT42 (Tr.trans hT41 (Tr.trans hT43 hT45))), hm28, hm29, hm30⟩
     ·skip
      refine RO.new (m' := 2031) (stepC_ok kt2 (by kernel_rfl)) rfl .plain rfl (Does.mk (α := Int) hxs11185 hS43 el45 rfl) (fun w25 b12 hS44 hT43 => ?_)
      have hc18 := Cells.at_ (cs := (List.replicate (((a0.fLevels % (3 : UInt8)).toNat : Nat) : Int).toNat [.int .i64 0]).flatten) (xs := xs7) hS44 L (Cells.mk hxs11185 rfl)
      refine RD.nu 4 2047 kt2 rfl .plain rfl (Does.mk (α := Int) hxs10571 hS44 el45 rfl) (fun w23 b9 hS42 hT41 => ?_)
      have hc16 := Cells.at_ (cs := (List.replicate (((a0.fGroups % (3 : UInt8)).toNat : Nat) : Int).toNat [.int .i64 0]).flatten) (xs := xs5) hS42 L (Cells.mk hxs10571 rfl)
      obtain ⟨hS47, hT46⟩ := St.arrB hS42 (.one (.tl .hd) (.one (.tl .hd) (.one .hd (.one .hd (.one .hd (.one .hd (.one .hd (.one .hd .done))))))))
      have hm31 := Cells.mv hc18 (Tr.trans hT41 hT46)
      have hm32 := Cells.mv hc17 (Tr.trans hT43 (Tr.trans hT41 hT46))
      have hm33 := Cells.mv hc16 hT46
      exact hJ11861 ((.slice (some ⟨b12, 0, none⟩) (((a0.fLevels % (3 : UInt8)).toNat : Nat) : Int).toNat (((a0.fLevels % (3 : UInt8)).toNat : Nat) : Int).toNat), (List.replicate (((a0.fLevels % (3 : UInt8)).toNat : Nat) : Int).toNat [.int .i64 0]).flatten, (.slice (some ⟨b11, 0, none⟩) (((a0.fParties % (4 : UInt8)).toNat : Nat) : Int).toNat (((a0.fParties % (4 : UInt8)).toNat : Nat) : Int).toNat), (List.replicate (((a0.fParties % (4 : UInt8)).toNat : Nat) : Int).toNat [.int .i64 0]).flatten, (.slice (some ⟨b9, 0, none⟩) (((a0.fGroups % (3 : UInt8)).toNat : Nat) : Int).toNat (((a0.fGroups % (3 : UInt8)).toNat : Nat) : Int).toNat), (List.replicate (((a0.fGroups % (3 : UInt8)).toNat : Nat) : Int).toNat [.int .i64 0]).flatten) _ _ ⟨rfl, rfl, rfl, rfl, rfl, rfl, rfl, rfl, trivial⟩ ⟨hS47, (Tr.trans hT42 (Tr.trans hT43 (Tr.trans hT41 hT46))), hm31, hm32, hm33⟩
    ·skip
     refine RO.new (m' := 1903) (stepC_ok kt2 (by kernel_rfl)) rfl .plain rfl (Does.mk (α := Int) hxs11185 hS33 el45 rfl) (fun w25 b12 hS44 hT43 => ?_)
     have hc18 := Cells.at_ (cs := (List.replicate (((a0.fLevels % (3 : UInt8)).toNat : Nat) : Int).toNat [.int .i64 0]).flatten) (xs := xs7) hS44 L (Cells.mk hxs11185 rfl)
     refine RD.each [4, 7] (readyD_ok kt2 (by kernel_rfl)) ⟨?_, ?_, trivial⟩
     ·skip
      refine RO.new (m' := 1919) (stepC_ok kt2 (by kernel_rfl)) rfl .plain rfl (Does.mk (α := Int) hxs10571 hS44 el45 rfl) (fun w23 b9 hS42 hT41 => ?_)
      have hc16 := Cells.at_ (cs := (List.replicate (((a0.fGroups % (3 : UInt8)).toNat : Nat) : Int).toNat [.int .i64 0]).flatten) (xs := xs5) hS42 L (Cells.mk hxs10571 rfl)
      refine RD.nu 7 2047 kt2 rfl .plain rfl (Does.mk (α := Int) hxs10878 hS42 el45 rfl) (fun w24 b11 hS43 hT42 => ?_)
      have hc17 := Cells.at_ (cs := (List.replicate (((a0.fParties % (4 : UInt8)).toNat : Nat) : Int).toNat [.int .i64 0]).flatten) (xs := xs6) hS43 L (Cells.mk hxs10878 rfl)
      obtain ⟨hS48, hT47⟩ := St.arrB hS43 (.one (.tl (.tl .hd)) (.one .hd (.one .hd (.one .hd (.one .hd (.one .hd (.one .hd (.one .hd .done))))))))
      have hm34 := Cells.mv hc18 (Tr.trans hT41 (Tr.trans hT42 hT47))
      have hm35 := Cells.mv hc17 hT47
      have hm36 := Cells.mv hc16 (Tr.trans hT42 hT47)
      exact hJ11861 ((.slice (some ⟨b12, 0, none⟩) (((a0.fLevels % (3 : UInt8)).toNat : Nat) : Int).toNat (((a0.fLevels % (3 : UInt8)).toNat : Nat) : Int).toNat), (List.replicate (((a0.fLevels % (3 : UInt8)).toNat : Nat) : Int).toNat [.int .i64 0]).flatten, (.slice (some ⟨b11, 0, none⟩) (((a0.fParties % (4 : UInt8)).toNat : Nat) : Int).toNat (((a0.fParties % (4 : UInt8)).toNat : Nat) : Int).toNat), (List.replicate (((a0.fParties % (4 : UInt8)).toNat : Nat) : Int).toNat [.int .i64 0]).flatten, (.slice (some ⟨b9, 0, none⟩) (((a0.fGroups % (3 : UInt8)).toNat : Nat) : Int).toNat (((a0.fGroups % (3 : UInt8)).toNat : Nat) : Int).toNat), (List.replicate (((a0.fGroups % (3 : UInt8)).toNat : Nat) : Int).toNat [.int .i64 0]).flatten) _ _ ⟨rfl, rfl, rfl, rfl, rfl, rfl, rfl, rfl, trivial⟩ ⟨hS48, (Tr.trans hT43 (Tr.trans hT41 (Tr.trans hT42 hT47))), hm34, hm35, hm36⟩
     ·skip
      refine RO.new (m' := 2031) (stepC_ok kt2 (by kernel_rfl)) rfl .plain rfl (Does.mk (α := Int) hxs10878 hS44 el45 rfl) (fun w24 b11 hS43 hT42 => ?_)
      have hc17 := Cells.at_ (cs := (List.replicate (((a0.fParties % (4 : UInt8)).toNat : Nat) : Int).toNat [.int .i64 0]).flatten) (xs := xs6) hS43 L (Cells.mk hxs10878 rfl)
      refine RD.nu 4 2047 kt2 rfl .plain rfl (Does.mk (α := Int) hxs10571 hS43 el45 rfl) (fun w23 b9 hS42 hT41 => ?_)
      have hc16 := Cells.at_ (cs := (List.replicate (((a0.fGroups % (3 : UInt8)).toNat : Nat) : Int).toNat [.int .i64 0]).flatten) (xs := xs5) hS42 L (Cells.mk hxs10571 rfl)
      obtain ⟨hS49, hT48⟩ := St.arrB hS42 (.one (.tl (.tl .hd)) (.one (.tl .hd) (.one .hd (.one .hd (.one .hd (.one .hd (.one .hd (.one .hd .done))))))))
      have hm37 := Cells.mv hc18 (Tr.trans hT42 (Tr.trans hT41 hT48))
      have hm38 := Cells.mv hc17 (Tr.trans hT41 hT48)
      have hm39 := Cells.mv hc16 hT48
      exact hJ11861 ((.slice (some ⟨b12, 0, none⟩) (((a0.fLevels % (3 : UInt8)).toNat : Nat) : Int).toNat (((a0.fLevels % (3 : UInt8)).toNat : Nat) : Int).toNat), (List.replicate (((a0.fLevels % (3 : UInt8)).toNat : Nat) : Int).toNat [.int .i64 0]).flatten, (.slice (some ⟨b11, 0, none⟩) (((a0.fParties % (4 : UInt8)).toNat : Nat) : Int).toNat (((a0.fParties % (4 : UInt8)).toNat : Nat) : Int).toNat), (List.replicate (((a0.fParties % (4 : UInt8)).toNat : Nat) : Int).toNat [.int .i64 0]).flatten, (.slice (some ⟨b9, 0, none⟩) (((a0.fGroups % (3 : UInt8)).toNat : Nat) : Int).toNat (((a0.fGroups % (3 : UInt8)).toNat : Nat) : Int).toNat), (List.replicate (((a0.fGroups % (3 : UInt8)).toNat : Nat) : Int).toNat [.int .i64 0]).flatten) _ _ ⟨rfl, rfl, rfl, rfl, rfl, rfl, rfl, rfl, trivial⟩ ⟨hS49, (Tr.trans hT43 (Tr.trans hT42 (Tr.trans hT41 hT48))), hm37, hm38, hm39⟩
  refine MX.exit rfl ?_
  have h := hh10263 _ h
  try dsimp only at h
  refine MX.sr <| RG.vv (FV.loadN (by kernel_rfl) rfl (hS33.memA (.tl (.tl .hd)))) rfl <| RG.now .plain (Acts.storeAll (news := [.int .i64 (((a0.fGroups % (3 : UInt8)).toNat : Nat) : Int), .int .i64 (((a0.fParties % (4 : UInt8)).toNat : Nat) : Int), .int .i64 (((a0.fLevels % (3 : UInt8)).toNat : Nat) : Int), v6]) hS33 (.tl (.tl (.tl .hd))) rfl rfl rfl rfl rfl rfl (ones_cons rfl (ones_cons rfl (ones_cons rfl (ones_cons (St.o1 (α := TUnit) hS33 (.tl .hd)) ones_nil))))) (fun w26 hS50 hT49 => ?_)
  refine RG.nil <| MX.ret rfl ?_
  have hm40 := Cells.mv hc10 hT49
  have hr10 := St.freeze (α := TUnit) hS50 (.tl .hd) hm40 hL
  have hS51 := St.delS hS50 (.tl .hd)
  have hT50 := St.delT hS50 (.tl .hd)
  have hr11 := Rep.at_ (α := TUnit) (v := v6) (xs := xs4) hS51 L hr10
  refine RT.leave hb0 Tryz.func18 rfl (.cons (.many (cs := [.int .i64 (((a0.fGroups % (3 : UInt8)).toNat : Nat) : Int), .int .i64 (((a0.fParties % (4 : UInt8)).toNat : Nat) : Int), .int .i64 (((a0.fLevels % (3 : UInt8)).toNat : Nat) : Int), v6]) (by kernel_rfl) rfl (hS51.memA (.tl (.tl .hd)))) .nil) rfl ?_
  obtain rfl := Option.some.inj h
  exact ⟨hS51.ag, fun w9 hw9 => ⟨v6, rfl, Rep.keep0 (Rep.dropS hS51 hr11) hw9⟩⟩
end Go.Proofs.YtmhgoecnjleagaaGreatDoor
