/- Functions of the program, and what they give: part 1. -/
import Derived.Test.YtplkfbljncfdnaaDoorProg
import Derived.Test.YtplkfbljncfdnaaDoorMh
namespace Go.Proofs.YtplkfbljncfdnaaDoor
open Go Go.RowKit

def tab0 : List UInt8 := [0, 1, 56, 2, 57, 49, 28, 3, 61, 58, 42, 50, 38, 29, 17, 4, 62, 47, 59, 36, 45, 43, 51, 22, 53, 39, 33, 30, 24, 18, 12, 5, 63, 55, 48, 27, 60, 41, 37, 16, 46, 35, 44, 21, 52, 32, 23, 11, 54, 26, 40, 15, 34, 20, 31, 10, 25, 14, 19, 9, 13, 8, 7, 6]
theorem el22 : ElT Tryd.prog 22 3 (Rep.size Int) 8 (.int .i64 0) [.int .i64 0] := ⟨Tryd.underlying22, by kernel_rfl, rfl, rfl, rfl, rfl⟩
def wilson_erased_l1 (_n : Nat) (a0 : List Int) (D46 : List (Int × Int)) (J199 : Int × (List Int) → Option (List Int)) : Int × (List Int) → Option (List Int)
  | (z187, xs188) => (idx a0 (((a0.length : Nat) : Int) - 1)).bind fun x202 => (if z187 = x202 then some xs188 else (chk ((mgetD D46 z187 (0 : Int)) + 1)).bind fun s218 => (idx a0 s218).bind fun x219 => (app xs188 ([x219] : List Int)).bind fun xs236 => J199 (x219, xs236))
def wilson_erased_l2 (_n : Nat) (a0 : List Int) (J54 : Nat × (List (Int × Int)) → Option (List (Int × Int))) : Nat × (List (Int × Int)) → Option (List (Int × Int))
  | (i45, D46) => (if i45 < a0.length then (a0[i45]?).bind fun x57 => J54 (i45 + 1, mset D46 x57 ((i45 : Nat) : Int)) else some D46)
def wilson_erased_p (n : Nat) (a0 : List Int) : Option (List Int) :=
  Option.bind (loopF (wilson_erased_l2 n a0) n (0, ([] : List (Int × Int)))) (fun D46 => (a0[0]?).bind fun x70 => Option.bind (loopF (wilson_erased_l1 n a0 D46) n (x70, ([x70] : List Int))) (fun xs188 => some xs188))
set_option maxRecDepth 4000 in
set_option maxHeartbeats 4000000 in
theorem wilson_erased_c (n : Nat) (L : List Nat) (w : World) (hL : ∀ b ∈ L, b < w.heap.size) (a0 : List Int) {v0_0 : Value} (h0_0 : Rep.R w L [v0_0] a0)  {r : List Int} (h : wilson_erased_p n a0 = some r) :
    Calls Tryd.prog 30 #[v0_0] w (Gives w fun w' u => ∃ v0_0 : Value, u = v0_0 ∧ Rep.R w' L [v0_0] r) := by
  unfold wilson_erased_p at h
  have hS0 := St.start w
  refine MX.start Tryd.func30 rfl rfl rfl (fun _ cs0 hb0 => ?_)
  refine MX.seq ?_
  refine MX.region ?_
  refine RG.val' .plain (FV.assign rfl) rfl ?_
  refine RG.nil ?_
  refine MX.seq ?_
  refine MX.region ?_
  refine RG.new .plain rfl (Does.makeMap (κ := Int) (ν := Int) hS0) (fun w2 b5 hS3 hT4 => ?_)
  refine RG.val' .plain (FV.assign rfl) rfl ?_
  refine RG.nil ?_
  refine MX.seq ?_
  refine MX.seq ?_
  refine MX.region ?_
  refine RG.val' .plain (FV.move rfl) rfl ?_
  have hm7 := Rep.mv h0_0 hT4
  have hl6 : a0.length ≤ 281474976710656 := Rep.lenle hm7
  refine RG.val' .plain (FV.len (xs := a0) Tryd.underlying22 rfl hm7) rfl ?_
  refine RG.val' .plain (FV.move rfl) rfl ?_
  refine RG.nil ?_
  refine MX.block ?_
  obtain ⟨o52, ho51, hh53⟩ := bind_in2 h
  refine MX.loop (α := Nat × (List (Int × Int))) (fun ⟨i45, D46⟩ => [(0, v0_0), (3, .map (some b5)), (9, v0_0), (10, .int .i64 ((a0.length : Nat) : Int)), (11, .int .i64 ((i45 : Nat) : Int))]) (fun ⟨i45, D46⟩ wx46 => St w wx46 [.obj b5 (mapO (D46 : List (Int × Int)))] ∧ Tr w2 [.obj b5 (mapO ([] : List (Int × Int)))] wx46 [.obj b5 (mapO (D46 : List (Int × Int)))]) (fun ⟨i45, D46⟩ => (i45, D46)) (0, ([] : List (Int × Int))) ho51 ⟨rfl, rfl, rfl, rfl, rfl, trivial⟩ ⟨hS3, Tr.refl _ _⟩ ?_
  rintro J54 ⟨i45, D46⟩ wx46 hJ55 ⟨hS47, hT48⟩ h
  unfold wilson_erased_l2 at h
  try dsimp only at h
  refine MX.seq ?_
  refine MX.region ?_
  refine RG.val' .plain (FV.lssN (i := i45) (j := a0.length) rfl rfl) rfl ?_
  refine RG.nil ?_
  refine MX.seq ?_
  refine MX.ifd rfl h (fun c56 h => ?_) (fun c56 h => ?_)
  ·skip
   refine MX.skip ?_
   refine MX.seq ?_
   refine MX.block ?_
   refine MX.seq ?_
   refine MX.region ?_
   refine RG.val' .plain (FV.move rfl) rfl ?_
   obtain ⟨x57, hx57, h⟩ := bind_in h
   have hm65 := Rep.mv h0_0 (Tr.trans hT4 hT48)
   obtain ⟨A58, c59, he60, hk61, cs62, hr63, hm64⟩ := Rep.nth hm65 hx57
   have he66 : cs62 = [.int .i64 x57] := hr63; subst he66
   refine RG.val' .plain (FV.idxAddr (m := 1) (i := i45) (by kernel_rfl) rfl he60 rfl rfl hk61) rfl ?_
   refine RG.val' .plain (FV.load1 (by kernel_rfl) rfl (hm64 0 _ rfl)) rfl ?_
   refine RG.val' .plain (FV.assign rfl) rfl ?_
   refine RG.val' .plain (FV.assign rfl) rfl ?_
   refine RG.nil ?_
   refine MX.region ?_
   refine RG.val' .plain (FV.move rfl) rfl ?_
   refine RG.val' .plain (FV.move rfl) rfl ?_
   refine RG.val' .plain (FV.move rfl) rfl ?_
   refine RG.now .plain (Acts.mapUpdate (kv := x57) (vv := ((i45 : Nat) : Int)) hS47 .hd Tryd.underlying105 Tryd.underlying3 rfl rfl rfl rfl) (fun w67 hS68 hT69 => ?_)
   refine RG.nil ?_
   refine MX.inBlock ?_
   refine MX.region ?_
   refine RG.val' .plain (FV.addN (i := i45) (j := 1) rfl rfl (by omega)) rfl ?_
   refine RG.val' .plain (FV.move rfl) rfl ?_
   refine RG.nil ?_
   exact hJ55 (i45 + 1, mset D46 x57 ((i45 : Nat) : Int)) _ _ ⟨rfl, rfl, rfl, rfl, rfl, trivial⟩ ⟨hS68, (Tr.trans hT48 hT69)⟩ h
  ·skip
   refine MX.exit rfl ?_
   have h := hh53 _ h
   try dsimp only at h
   refine MX.seq ?_
   refine MX.region ?_
   refine RG.val' .plain (FV.move rfl) rfl ?_
   obtain ⟨x70, hx70, h⟩ := bind_in h
   have hm78 := Rep.mv h0_0 (Tr.trans hT4 hT48)
   obtain ⟨A71, c72, he73, hk74, cs75, hr76, hm77⟩ := Rep.nth hm78 hx70
   have he79 : cs75 = [.int .i64 x70] := hr76; subst he79
   refine RG.val' .plain (FV.idxAddr (m := 1) (i := 0) (by kernel_rfl) rfl he73 rfl rfl hk74) rfl ?_
   refine RG.val' .plain (FV.load1 (by kernel_rfl) rfl (hm77 0 _ rfl)) rfl ?_
   refine RG.new .plain rfl (Does.build (α := Int) (xs := ([x70] : List Int)) (vs := [.int .i64 x70]) (ds' := [.int .i64 x70]) rfl hS47 el22 rfl (evs_cons rfl evs_nil) (by kernel_rfl) rfl) (fun w81 b84 hS82 hT83 => ?_)
   have hc85 : Cells w81 (bl [.row w.heap.size 3 (Rep.size Int) (.slice (some ⟨b84, 0, none⟩) 1 1) (([x70] : List Int).length) [.int .i64 x70], .obj b5 (mapO (D46 : List (Int × Int)))] ++ L) [.int .i64 x70] (([x70] : List Int) : List Int) := Cells.cons (cs := [.int .i64 x70]) (ds := []) rfl (Cells.nil _ _)
   refine RG.val' .plain (FV.assign rfl) rfl ?_
   refine RG.nil ?_
   refine MX.seq ?_
   refine MX.seq ?_
   refine MX.region ?_
   refine RG.val' .plain (FV.move rfl) rfl ?_
   have hm93 := Rep.mv h0_0 (Tr.trans hT4 (Tr.trans hT48 hT83))
   obtain ⟨A86, c87, he88, hk89, cs90, hr91, hm92⟩ := Rep.nth hm93 hx70
   have he94 : cs90 = [.int .i64 x70] := hr91; subst he94
   refine RG.val' .plain (FV.idxAddr (m := 1) (i := 0) (by kernel_rfl) rfl he88 rfl rfl hk89) rfl ?_
   refine RG.val' .plain (FV.load1 (by kernel_rfl) rfl (hm92 0 _ rfl)) rfl ?_
   refine RG.val' .plain (FV.assign rfl) rfl ?_
   refine RG.nil ?_
   refine MX.block ?_
   obtain ⟨o197, ho196, hh198⟩ := bind_in2 h
   refine MX.loop (α := Int × (List Int) × Value × (List Value)) (fun ⟨z187, xs188, v191, cs189⟩ => [(0, v0_0), (3, .map (some b5)), (6, v191), (7, .int .i64 z187)]) (fun ⟨z187, xs188, v191, cs189⟩ wx191 => St w wx191 [.row w.heap.size 3 (Rep.size Int) v191 xs188.length cs189, .obj b5 (mapO (D46 : List (Int × Int)))] ∧ Tr w81 [.row w.heap.size 3 (Rep.size Int) (.slice (some ⟨b84, 0, none⟩) 1 1) (([x70] : List Int).length) [.int .i64 x70], .obj b5 (mapO (D46 : List (Int × Int)))] wx191 [.row w.heap.size 3 (Rep.size Int) v191 xs188.length cs189, .obj b5 (mapO (D46 : List (Int × Int)))] ∧ Cells wx191 (bl [.row w.heap.size 3 (Rep.size Int) v191 xs188.length cs189, .obj b5 (mapO (D46 : List (Int × Int)))] ++ L) cs189 xs188) (fun ⟨z187, xs188, v191, cs189⟩ => (z187, xs188)) (x70, ([x70] : List Int), (.slice (some ⟨b84, 0, none⟩) 1 1), [.int .i64 x70]) ho196 ⟨rfl, rfl, rfl, rfl, trivial⟩ ⟨hS82, Tr.refl _ _, hc85⟩ ?_
   rintro J199 ⟨z187, xs188, v191, cs189⟩ wx191 hJ200 ⟨hS192, hT193, hc190⟩ h
   unfold wilson_erased_l1 at h
   try dsimp only at h
   refine MX.seq ?_
   refine MX.seq ?_
   refine MX.region ?_
   refine RG.val' .plain (FV.move rfl) rfl ?_
   refine RG.val' .plain (FV.move rfl) rfl ?_
   refine RG.val' .plain (FV.move rfl) rfl ?_
   have hm201 := Rep.mv h0_0 (Tr.trans hT4 (Tr.trans hT48 (Tr.trans hT83 hT193)))
   refine RG.val' .plain (FV.len (xs := a0) Tryd.underlying22 rfl hm201) rfl ?_
   refine RG.val' .plain (FV.subI (i := ((a0.length : Nat) : Int)) (j := 1) rfl rfl (by omega)) rfl ?_
   obtain ⟨x202, hx202, h⟩ := bind_in h
   obtain ⟨hi203, hx204⟩ := idx_in hx202
   obtain ⟨A205, c206, he207, hk208, cs209, hr210, hm211⟩ := Rep.nth hm201 hx204
   have he212 : cs209 = [.int .i64 x202] := hr210; subst he212
   refine RG.val' .plain (FV.idxAddr (m := 1) (i := (((a0.length : Nat) : Int) - 1).toNat) (by kernel_rfl) rfl he207 rfl hi203 hk208) rfl ?_
   refine RG.val' .plain (FV.load1 (by kernel_rfl) rfl (hm211 0 _ rfl)) rfl ?_
   refine RG.val' .plain (FV.neq (i := z187) (j := x202) rfl rfl) rfl ?_
   refine RG.nil ?_
   refine MX.ifn rfl h (fun c213 h => ?_) (fun c213 h => ?_)
   ·skip
    refine MX.exit rfl ?_
    have h := hh198 _ h
    try dsimp only at h
    refine MX.seq ?_
    refine MX.region ?_
    refine RG.val' .plain (FV.move rfl) rfl ?_
    refine RG.val' .plain (FV.assign rfl) rfl ?_
    refine RG.nil ?_
    refine MX.ret rfl ?_
    have hr214 := St.freeze (α := Int) hS192 .hd hc190 hL
    have hS215 := hS192.del (.hd : Out _ _ _).del
    have hT216 := Tr.del (w := wx191) (.hd : Out [.row w.heap.size 3 (Rep.size Int) v191 xs188.length cs189, .obj b5 (mapO (D46 : List (Int × Int)))] _ _).del
    have hr217 : Rep.R wx191 (bl [.obj b5 (mapO (D46 : List (Int × Int)))] ++ L) [v191] xs188 := hr214
    refine RT.leave (u := v191) hb0 Tryd.func30 rfl (.cons (.tmp rfl) .nil) rfl ?_
    obtain rfl := Option.some.inj h
    exact ⟨hS215.ag, fun w9 hw9 => ⟨v191, rfl, Rep.keep0 (Rep.dropO (O := [.obj b5 (mapO (D46 : List (Int × Int)))]) hr217) hw9⟩⟩
   ·skip
    refine MX.skip ?_
    refine MX.block ?_
    refine MX.seq ?_
    refine MX.region ?_
    refine RG.val' .plain (FV.move rfl) rfl ?_
    refine RG.val' .plain (FV.move rfl) rfl ?_
    refine RG.val' .plain (FV.move rfl) rfl ?_
    refine RG.val' .plain (FV.lookup (kv := z187) (z := (0 : Int)) hS192 (.tl .hd) Tryd.underlying105 Tryd.underlying3 rfl (by kernel_rfl) rfl rfl) rfl ?_
    obtain ⟨s218, hs218, h⟩ := bind_in h
    refine RG.val' .plain (FV.addc (i := mgetD D46 z187 (0 : Int)) (j := 1) rfl rfl hs218) rfl ?_
    obtain ⟨x219, hx219, h⟩ := bind_in h
    obtain ⟨hi220, hx221⟩ := idx_in hx219
    obtain ⟨A222, c223, he224, hk225, cs226, hr227, hm228⟩ := Rep.nth hm201 hx221
    have he229 : cs226 = [.int .i64 x219] := hr227; subst he229
    refine RG.val' .plain (FV.idxAddr (m := 1) (i := s218.toNat) (by kernel_rfl) rfl he224 rfl hi220 hk225) rfl ?_
    refine RG.val' .plain (FV.load1 (by kernel_rfl) rfl (hm228 0 _ rfl)) rfl ?_
    refine RG.val' .plain (FV.assign rfl) rfl ?_
    refine RG.nil ?_
    refine MX.region ?_
    refine RG.val' .plain (FV.move rfl) rfl ?_
    refine RG.val' .plain (FV.move rfl) rfl ?_
    refine RG.new .plain rfl (Does.build (α := Int) (xs := ([x219] : List Int)) (vs := [.int .i64 x219]) (ds' := [.int .i64 x219]) rfl hS192 el22 rfl (evs_cons rfl evs_nil) (by kernel_rfl) rfl) (fun w231 b234 hS232 hT233 => ?_)
    have hc235 : Cells w231 (bl [.row w.heap.size 3 (Rep.size Int) (.slice (some ⟨b234, 0, none⟩) 1 1) (([x219] : List Int).length) [.int .i64 x219], .row w.heap.size 3 (Rep.size Int) v191 xs188.length cs189, .obj b5 (mapO (D46 : List (Int × Int)))] ++ L) [.int .i64 x219] (([x219] : List Int) : List Int) := Cells.cons (cs := [.int .i64 x219]) (ds := []) rfl (Cells.nil _ _)
    obtain ⟨xs236, hxs236, h⟩ := bind_in h
    have hm237 := Cells.mv hc190 hT233
    refine RG.doesL .plain rfl (DoesL.app (α := Int) (ys := ([x219] : List Int)) (F := fun v' cs' => [.row w.heap.size 3 (Rep.size Int) (.slice (some ⟨b234, 0, none⟩) 1 1) (([x219] : List Int).length) [.int .i64 x219], .row w.heap.size 3 (Rep.size Int) v' xs236.length cs', .obj b5 (mapO (D46 : List (Int × Int)))]) hxs236 hS232 (fun _ _ => (.tl .hd)) el22 rfl rfl hm237 (Src.row (α := Int) hS232 .hd hc235)) (fun v243 w238 ⟨cs242, hS239, hT240, hc241⟩ => ?_)
    refine RG.val' .plain (FV.assign rfl) rfl ?_
    refine RG.nil ?_
    refine MX.inBlock ?_
    have hS245 : St _ _ [.row w.heap.size 3 (Rep.size Int) v243 xs236.length cs242, .obj b5 (mapO (D46 : List (Int × Int)))] := hS239.arr (.one (.tl .hd) (.one (.tl .hd) .done))
    have hT246 : Tr w238 _ w238 [.row w.heap.size 3 (Rep.size Int) v243 xs236.length cs242, .obj b5 (mapO (D46 : List (Int × Int)))] := Tr.arr (St.arrOf hS239 (.one (.tl .hd) (.one (.tl .hd) .done)))
    have hm247 := Cells.mv hc241 hT246
    exact hJ200 (x219, xs236, v243, cs242) _ _ ⟨rfl, rfl, rfl, rfl, trivial⟩ ⟨hS245, (Tr.trans hT193 (Tr.trans hT233 (Tr.trans hT240 hT246))), hm247⟩ h
theorem body30 : bodyB Tryd.prog 30 = true := by kernel_rfl
def wilson_Erase_p (n : Nat) (a0 : List Int) : Option ((List Int) × Int) :=
  (if a0.length = 0 then some (([] : List Int), 4) else (if 10001 < a0.length then some (([] : List Int), 3) else (wilson_erased_p n a0).bind fun y8 => some (y8, 0)))
set_option maxRecDepth 4000 in
set_option maxHeartbeats 4000000 in
theorem wilson_Erase_c (n : Nat) (L : List Nat) (w : World) (hL : ∀ b ∈ L, b < w.heap.size) (a0 : List Int) {v0_0 : Value} (h0_0 : Rep.R w L [v0_0] a0)  {r : (List Int) × Int} (h : wilson_Erase_p n a0 = some r) :
    Calls Tryd.prog 10 #[v0_0] w (Gives w fun w' u => ∃ v0_0 : Value, u = .tuple #[v0_0, .int .i64 r.2] ∧ Rep.R w' L [v0_0] r.1) := by
  unfold wilson_Erase_p at h
  have hS0 := St.start w
  refine MX.start Tryd.func10 rfl rfl rfl (fun _ cs0 hb0 => ?_)
  refine MX.seq ?_
  refine MX.region ?_
  refine RG.val' .plain (FV.assign rfl) rfl ?_
  refine RG.val' .plain (FV.assign rfl) rfl ?_
  refine RG.nil ?_
  refine MX.seq ?_
  refine MX.seq ?_
  refine MX.region ?_
  refine RG.val' .plain (FV.move rfl) rfl ?_
  have hl1 : a0.length ≤ 281474976710656 := Rep.lenle h0_0
  refine RG.val' .plain (FV.len (xs := a0) Tryd.underlying22 rfl h0_0) rfl ?_
  refine RG.val' .plain (FV.eqlN (i := a0.length) (j := 0) rfl rfl) rfl ?_
  refine RG.nil ?_
  refine MX.ifd rfl h (fun c2 h => ?_) (fun c2 h => ?_)
  ·skip
   refine MX.seq ?_
   refine MX.region ?_
   refine RG.val' .plain (FV.assign rfl) rfl ?_
   refine RG.val' .plain (FV.assign rfl) rfl ?_
   refine RG.nil ?_
   refine MX.ret rfl ?_
   have hr3 : Rep.R w (bl [] ++ L) [.slice none 0 0] ([] : List Int) := Rep.nilSlice _ _
   refine RT.leave (u := .tuple #[.slice none 0 0, .int .i64 4]) hb0 Tryd.func10 rfl (.cons (.tmp rfl) (.cons (.tmp rfl) .nil)) rfl ?_
   obtain rfl := Option.some.inj h
   have hr4 : Rep.R w (bl [] ++ L) [.slice none 0 0] ([] : List Int) := Rep.nilSlice _ _
   exact ⟨hS0.ag, fun w9 hw9 => ⟨(.slice none 0 0), rfl, Rep.keep0 (Rep.dropO (O := []) hr4) hw9⟩⟩
  ·skip
   refine MX.skip ?_
   refine MX.seq ?_
   refine MX.seq ?_
   refine MX.region ?_
   refine RG.val' .plain (FV.move rfl) rfl ?_
   refine RG.val' .plain (FV.len (xs := a0) Tryd.underlying22 rfl h0_0) rfl ?_
   refine RG.val' .plain (FV.gtrN (i := a0.length) (j := 10001) rfl rfl) rfl ?_
   refine RG.nil ?_
   refine MX.ifd rfl h (fun c5 h => ?_) (fun c5 h => ?_)
   ·skip
    refine MX.seq ?_
    refine MX.region ?_
    refine RG.val' .plain (FV.assign rfl) rfl ?_
    refine RG.val' .plain (FV.assign rfl) rfl ?_
    refine RG.nil ?_
    refine MX.ret rfl ?_
    have hr6 : Rep.R w (bl [] ++ L) [.slice none 0 0] ([] : List Int) := Rep.nilSlice _ _
    refine RT.leave (u := .tuple #[.slice none 0 0, .int .i64 3]) hb0 Tryd.func10 rfl (.cons (.tmp rfl) (.cons (.tmp rfl) .nil)) rfl ?_
    obtain rfl := Option.some.inj h
    have hr7 : Rep.R w (bl [] ++ L) [.slice none 0 0] ([] : List Int) := Rep.nilSlice _ _
    exact ⟨hS0.ag, fun w9 hw9 => ⟨(.slice none 0 0), rfl, Rep.keep0 (Rep.dropO (O := []) hr7) hw9⟩⟩
   ·skip
    refine MX.skip ?_
    refine MX.seq ?_
    refine MX.region ?_
    refine RG.val' .plain (FV.move rfl) rfl ?_
    obtain ⟨y8, hy8, h⟩ := bind_in h
    refine RG.call' (fst := []) (cap := []) .plain body30 rfl (evs_cons rfl evs_nil) (fun w9 hw9 => wilson_erased_c n _ w9 (hS0.hL hL hw9) a0 (Rep.keep0 h0_0 hw9) hy8) rfl (fun w9 vu10 hag11 ⟨v14, hu_, hr15⟩ => ?_)
    subst hu_
    have hS12 := hS0.agree hag11
    have hT13 := Tr.agree (O := []) hag11
    refine RG.val' .plain (FV.assign rfl) rfl ?_
    refine RG.val' .plain (FV.assign rfl) rfl ?_
    refine RG.nil ?_
    refine MX.ret rfl ?_
    refine RT.leave (u := .tuple #[vu10, .int .i64 0]) hb0 Tryd.func10 rfl (.cons (.tmp rfl) (.cons (.tmp rfl) .nil)) rfl ?_
    obtain rfl := Option.some.inj h
    exact ⟨hS12.ag, fun w9 hw9 => ⟨vu10, rfl, Rep.keep0 (Rep.dropO (O := []) hr15) hw9⟩⟩
def tb16_4 : List (Nat × Nat × Nat) := [(0, 2048, 8), (0, 4096, 1), (0, 8192, 32), (6, 16384, 12288), (8, 32768, 16384), (17, 65536, 34816)]
theorem op_A46 {w : World} {L : List Nat} {cs : List Value} {x : Int × Int} (h : Rep.R w L cs x) : cs = [.int .i64 x.1, .int .i64 x.2] := by
  obtain ⟨c0, r0, rfl, h0, h⟩ := h
  have e0 : c0 = [.int .i64 x.1] := h0; subst e0
  have e1 : r0 = [.int .i64 x.2] := h; subst e1
  rfl
theorem mk_A46 {w : World} {L : List Nat} (a0 : Int) (a1 : Int) : Rep.R w L [.int .i64 a0, .int .i64 a1] ((a0, a1) : Int × Int) := ⟨[.int .i64 a0], [.int .i64 a1], rfl, rfl, rfl⟩
theorem eqlI_46 (a0 a1 b0 b1 : Int) (w9 : World) : (do eqGuard .eql 46 (.tmp 0) (.tmp 0) (.agg #[.int .i64 a0, .int .i64 a1]) (.agg #[.int .i64 b0, .int .i64 b1]); binOp .eql 46 (.agg #[.int .i64 a0, .int .i64 a1]) (.agg #[.int .i64 b0, .int .i64 b1]) : Sem Value).run Tryd.prog w9 = .ok (.bool (decide (a0 = b0 ∧ a1 = b1))) w9 := eqArr2 Tryd.underlying46 Tryd.underlying3 (by kernel_rfl) (by kernel_rfl) (by kernel_rfl) a0 a1 b0 b1 _ _ w9
def slices_Index_2_int_2_int_l1 (_n : Nat) (a0 : List (Int × Int)) (a1 : Int × Int) (J33 : Nat → Option (Int ⊕ Unit)) : Nat → Option (Int ⊕ Unit)
  | i25 => (if i25 < a0.length then (a0[i25]?).bind fun x38 => (if a1.1 = x38.1 ∧ a1.2 = x38.2 then some (.inl ((i25 : Nat) : Int)) else J33 (i25 + 1)) else some (.inr ()))
def slices_Index_2_int_2_int_p (n : Nat) (a0 : List (Int × Int)) (a1 : Int × Int) : Option Int :=
  thn (loopF (slices_Index_2_int_2_int_l1 n a0 a1) n 0) (fun _ => some (-1))
set_option maxRecDepth 4000 in
set_option maxHeartbeats 4000000 in
theorem slices_Index_2_int_2_int_c (n : Nat) (L : List Nat) (w : World) (hL : ∀ b ∈ L, b < w.heap.size) (a0 : List (Int × Int)) {v0_0 : Value} (h0_0 : Rep.R w L [v0_0] a0) (a1 : Int × Int)  {r : Int} (h : slices_Index_2_int_2_int_p n a0 a1 = some r) :
    Calls Tryd.prog 16 #[v0_0, .agg #[.int .i64 a1.1, .int .i64 a1.2]] w (Gives w fun _ u => u = .int .i64 r) := by
  unfold slices_Index_2_int_2_int_p at h
  have hS0 := St.start w
  refine MX.start Tryd.func16 rfl rfl rfl (fun _ cs0 hb0 => ?_)
  refine MX.seq ?_
  refine MX.region ?_
  refine RG.new .plain rfl (Does.box (vs := [.int .i64 a1.1, .int .i64 a1.2]) hS0 rfl rfl) (fun w2 b5 hS3 hT4 => ?_)
  refine RG.val' .plain (FV.assign rfl) rfl ?_
  refine RG.nil ?_
  refine MX.seq ?_
  refine MX.seq ?_
  refine MX.region ?_
  refine RG.val' .plain (FV.move rfl) rfl ?_
  have hm7 := Rep.mv h0_0 hT4
  have hl6 : a0.length ≤ 281474976710656 := Rep.lenle hm7
  refine RG.val' .plain (FV.len (xs := a0) Tryd.underlying38 rfl hm7) rfl ?_
  refine RG.val' .plain (FV.move rfl) rfl ?_
  refine RG.nil ?_
  refine MX.block ?_
  obtain ⟨o31, ho30, hh32⟩ := thn_in h
  refine MX.loop (α := Nat) (fun i25 => [(0, v0_0), (3, .pointer (some ⟨b5, 0, none⟩)), (7, .int .i64 ((a0.length : Nat) : Int)), (8, .int .i64 ((i25 : Nat) : Int))]) (fun i25 wx25 => St w wx25 [.cells b5 [.int .i64 a1.1, .int .i64 a1.2] 46] ∧ Tr w2 [.cells b5 [.int .i64 a1.1, .int .i64 a1.2] 46] wx25 [.cells b5 [.int .i64 a1.1, .int .i64 a1.2] 46]) (fun i25 => i25) 0 ho30 ⟨rfl, rfl, rfl, rfl, trivial⟩ ⟨hS3, Tr.refl _ _⟩ ?_
  rintro J33 i25 wx25 hJ34 ⟨hS26, hT27⟩ h
  unfold slices_Index_2_int_2_int_l1 at h
  try dsimp only at h
  refine MX.seq ?_
  refine MX.region ?_
  refine RG.val' .plain (FV.lssN (i := i25) (j := a0.length) rfl rfl) rfl ?_
  refine RG.nil ?_
  refine MX.seq ?_
  refine MX.ifd rfl h (fun c35 h => ?_) (fun c35 h => ?_)
  ·skip
   refine MX.skip ?_
   refine MX.seq ?_
   refine MX.block ?_
   refine MX.seq ?_
   refine MX.region ?_
   refine RG.val' .plain (FV.move rfl) rfl ?_
   refine RG.val' .plain (FV.assign rfl) rfl ?_
   refine RG.nil ?_
   refine MX.seq ?_
   refine MX.drawT 6 tb16_4 (by kernel_rfl) (by kernel_rfl) (by kernel_rfl) (fun kt36 kp37 => ?_)
   refine RD.val (i := 0) (m' := 1) (W := 32) (takeC_ok kt36 (by kernel_rfl)) rfl kp37 .plain (FV.loadN (cs := [.int .i64 a1.1, .int .i64 a1.2]) (by kernel_rfl) rfl (hS26.memA .hd)) rfl ?_
   refine RD.vP 1 3 kt36 rfl kp37 .plain (fun _ => FV.move rfl) rfl ?_
   refine RD.vP 2 7 kt36 rfl kp37 .plain (fun _ => FV.move rfl) rfl ?_
   obtain ⟨x38, hx38, h⟩ := bind_in h
   have hm46 := Rep.mv h0_0 (Tr.trans hT4 hT27)
   obtain ⟨A39, c40, he41, hk42, cs43, hr44, hm45⟩ := Rep.nth hm46 hx38
   obtain rfl := op_A46 hr44
   refine RD.vP 3 15 kt36 rfl kp37 .plain (fun _ => FV.idxAddr (m := 2) (i := i25) (by kernel_rfl) rfl he41 rfl rfl hk42) rfl ?_
   refine RD.val (i := 4) (m' := 31) (W := 32) (takeC_ok kt36 (by kernel_rfl)) rfl kp37 .plain (FV.loadN (cs := [.int .i64 x38.1, .int .i64 x38.2]) (by kernel_rfl) rfl hm45) rfl ?_
   refine RD.vP 5 63 kt36 rfl kp37 .plain (fun _ => FV.eqlV (v := .agg #[.int .i64 a1.1, .int .i64 a1.2]) (u := .agg #[.int .i64 x38.1, .int .i64 x38.2]) rfl rfl (eqlI_46 a1.1 a1.2 x38.1 x38.2)) rfl ?_
   refine RD.done (doneD_ok kt36 (by kernel_rfl)) ?_
   refine MX.ifd rfl h (fun c47 h => ?_) (fun c47 h => ?_)
   ·skip
    refine MX.seq ?_
    refine MX.region ?_
    refine RG.val' .plain (FV.move rfl) rfl ?_
    refine RG.val' .plain (FV.assign rfl) rfl ?_
    refine RG.nil ?_
    have h := thn_inl h hh32
    refine MX.ret rfl ?_
    refine RT.leave (u := .int .i64 ((i25 : Nat) : Int)) hb0 Tryd.func16 rfl (.cons (.tmp rfl) .nil) rfl ?_
    obtain rfl := Option.some.inj h
    exact ⟨hS26.ag, fun w9 hw9 => rfl⟩
   ·skip
    refine MX.skip ?_
    refine MX.inBlock ?_
    refine MX.region ?_
    refine RG.val' .plain (FV.addN (i := i25) (j := 1) rfl rfl (by omega)) rfl ?_
    refine RG.val' .plain (FV.move rfl) rfl ?_
    refine RG.nil ?_
    exact hJ34 (i25 + 1) _ _ ⟨rfl, rfl, rfl, rfl, trivial⟩ ⟨hS26, hT27⟩ h
  ·skip
   refine MX.exit rfl ?_
   have h := thn_inr h hh32
   try dsimp only at h
   refine MX.seq ?_
   refine MX.region ?_
   refine RG.val' .plain (FV.assign rfl) rfl ?_
   refine RG.nil ?_
   refine MX.ret rfl ?_
   refine RT.leave (u := .int .i64 (-1)) hb0 Tryd.func16 rfl (.cons (.tmp rfl) .nil) rfl ?_
   obtain rfl := Option.some.inj h
   exact ⟨hS26.ag, fun w9 hw9 => rfl⟩
def cmp_isNaN_int_p (_n : Nat) (a0 : Int) : Option Bool :=
  some (!(decide (a0 = a0)))
set_option maxRecDepth 4000 in
set_option maxHeartbeats 4000000 in
theorem cmp_isNaN_int_c (n : Nat) (L : List Nat) (w : World) (hL : ∀ b ∈ L, b < w.heap.size) (a0 : Int)  {r : Bool} (h : cmp_isNaN_int_p n a0 = some r) :
    Calls Tryd.prog 92 #[.int .i64 a0] w (Gives w fun _ u => u = .bool r) := by
  unfold cmp_isNaN_int_p at h
  have hS0 := St.start w
  refine MX.start Tryd.func92 rfl rfl rfl (fun _ cs0 hb0 => ?_)
  refine MX.seq ?_
  refine MX.region ?_
  refine RG.val' .plain (FV.assign rfl) rfl ?_
  refine RG.nil ?_
  refine MX.seq ?_
  refine MX.region ?_
  refine RG.val' .plain (FV.move rfl) rfl ?_
  refine RG.val' .plain (FV.move rfl) rfl ?_
  refine RG.val' .plain (FV.neq (i := a0) (j := a0) rfl rfl) rfl ?_
  refine RG.val' .plain (FV.assign rfl) rfl ?_
  refine RG.nil ?_
  refine MX.ret rfl ?_
  refine RT.leave (u := .bool (!(decide (a0 = a0)))) hb0 Tryd.func92 rfl (.cons (.tmp rfl) .nil) rfl ?_
  obtain rfl := Option.some.inj h
  exact ⟨hS0.ag, fun w9 hw9 => rfl⟩
theorem body92 : bodyB Tryd.prog 92 = true := by kernel_rfl
def cmp_Less_int_p (n : Nat) (a0 : Int) (a1 : Int) : Option Bool :=
  (cmp_isNaN_int_p n a0).bind fun y1 => (if y1 = true then (cmp_isNaN_int_p n a1).bind fun y3 => (if y3 = true then some (decide (a0 < a1)) else some true) else some (decide (a0 < a1)))
set_option maxRecDepth 4000 in
set_option maxHeartbeats 4000000 in
theorem cmp_Less_int_c (n : Nat) (L : List Nat) (w : World) (hL : ∀ b ∈ L, b < w.heap.size) (a0 : Int) (a1 : Int)  {r : Bool} (h : cmp_Less_int_p n a0 a1 = some r) :
    Calls Tryd.prog 71 #[.int .i64 a0, .int .i64 a1] w (Gives w fun _ u => u = .bool r) := by
  unfold cmp_Less_int_p at h
  have hS0 := St.start w
  refine MX.start Tryd.func71 rfl rfl rfl (fun _ cs0 hb0 => ?_)
  refine MX.seq ?_
  refine MX.region ?_
  refine RG.val' .plain (FV.assign rfl) rfl ?_
  refine RG.nil ?_
  refine MX.seq ?_
  refine MX.region ?_
  refine RG.val' .plain (FV.move rfl) rfl ?_
  obtain ⟨y1, hy1, h⟩ := bind_in h
  refine RG.callq' (v := .bool y1) (fst := []) (cap := []) .plain body92 rfl (evs_cons rfl evs_nil) (fun w9 hw9 => cmp_isNaN_int_c n _ w9 (hS0.hL0 hL hw9) a0 hy1) rfl ?_
  refine RG.val' .plain (FV.move rfl) rfl ?_
  refine RG.ifb (s := 7) rfl h (fun c2 h => ?_) (fun c2 h => ?_)
  ·skip
   refine RG.val' (.yes rfl rfl) (FV.move rfl) rfl ?_
   obtain ⟨y3, hy3, h⟩ := bind_in h
   refine RG.callq' (v := .bool y3) (fst := []) (cap := []) (.yes rfl rfl) body92 rfl (evs_cons rfl evs_nil) (fun w9 hw9 => cmp_isNaN_int_c n _ w9 (hS0.hL0 hL hw9) a1 hy3) rfl ?_
   refine RG.val' (.yes rfl rfl) (FV.not rfl) rfl ?_
   refine RG.val' .plain (FV.pick_t rfl rfl) rfl ?_
   refine RG.val' .plain (FV.move rfl) rfl ?_
   refine RG.ifnb (s := 12) rfl h (fun c4 h => ?_) (fun c4 h => ?_)
   ·skip
    refine RG.val' (.yes rfl rfl) (FV.move rfl) rfl ?_
    refine RG.val' (.yes rfl rfl) (FV.move rfl) rfl ?_
    refine RG.val' (.yes rfl rfl) (FV.lss (i := a0) (j := a1) rfl rfl) rfl ?_
    refine RG.val' .plain (FV.pick_f rfl rfl) rfl ?_
    refine RG.val' .plain (FV.assign rfl) rfl ?_
    refine RG.nil ?_
    refine MX.ret rfl ?_
    refine RT.leave (u := .bool (decide (a0 < a1))) hb0 Tryd.func71 rfl (.cons (.tmp rfl) .nil) rfl ?_
    obtain rfl := Option.some.inj h
    exact ⟨hS0.ag, fun w9 hw9 => rfl⟩
   ·skip
    refine RG.off (.no rfl rfl) rfl ?_
    refine RG.off (.no rfl rfl) rfl ?_
    refine RG.off (.no rfl rfl) rfl ?_
    refine RG.val' .plain (FV.pick_t rfl rfl) rfl ?_
    refine RG.val' .plain (FV.assign rfl) rfl ?_
    refine RG.nil ?_
    refine MX.ret rfl ?_
    refine RT.leave (u := .bool true) hb0 Tryd.func71 rfl (.cons (.tmp rfl) .nil) rfl ?_
    obtain rfl := Option.some.inj h
    exact ⟨hS0.ag, fun w9 hw9 => rfl⟩
  ·skip
   refine RG.off (.no rfl rfl) rfl ?_
   refine RG.off (.no rfl rfl) rfl ?_
   refine RG.off (.no rfl rfl) rfl ?_
   refine RG.val' .plain (FV.pick_f rfl rfl) rfl ?_
   refine RG.val' .plain (FV.move rfl) rfl ?_
   refine RG.val' (.yes rfl rfl) (FV.move rfl) rfl ?_
   refine RG.val' (.yes rfl rfl) (FV.move rfl) rfl ?_
   refine RG.val' (.yes rfl rfl) (FV.lss (i := a0) (j := a1) rfl rfl) rfl ?_
   refine RG.val' .plain (FV.pick_f rfl rfl) rfl ?_
   refine RG.val' .plain (FV.assign rfl) rfl ?_
   refine RG.nil ?_
   refine MX.ret rfl ?_
   refine RT.leave (u := .bool (decide (a0 < a1))) hb0 Tryd.func71 rfl (.cons (.tmp rfl) .nil) rfl ?_
   obtain rfl := Option.some.inj h
   exact ⟨hS0.ag, fun w9 hw9 => rfl⟩
def stab0 : List UInt8 := [0, 1, 2, 2, 3, 3, 3, 3, 4, 4, 4, 4, 4, 4, 4, 4, 5, 5, 5, 5, 5, 5, 5, 5, 5, 5, 5, 5, 5, 5, 5, 5, 6, 6, 6, 6, 6, 6, 6, 6, 6, 6, 6, 6, 6, 6, 6, 6, 6, 6, 6, 6, 6, 6, 6, 6, 6, 6, 6, 6, 6, 6, 6, 6, 7, 7, 7, 7, 7, 7, 7, 7, 7, 7, 7, 7, 7, 7, 7, 7, 7, 7, 7, 7, 7, 7, 7, 7, 7, 7, 7, 7, 7, 7, 7, 7, 7, 7, 7, 7, 7, 7, 7, 7, 7, 7, 7, 7, 7, 7, 7, 7, 7, 7, 7, 7, 7, 7, 7, 7, 7, 7, 7, 7, 7, 7, 7, 7, 8, 8, 8, 8, 8, 8, 8, 8, 8, 8, 8, 8, 8, 8, 8, 8, 8, 8, 8, 8, 8, 8, 8, 8, 8, 8, 8, 8, 8, 8, 8, 8, 8, 8, 8, 8, 8, 8, 8, 8, 8, 8, 8, 8, 8, 8, 8, 8, 8, 8, 8, 8, 8, 8, 8, 8, 8, 8, 8, 8, 8, 8, 8, 8, 8, 8, 8, 8, 8, 8, 8, 8, 8, 8, 8, 8, 8, 8, 8, 8, 8, 8, 8, 8, 8, 8, 8, 8, 8, 8, 8, 8, 8, 8, 8, 8, 8, 8, 8, 8, 8, 8, 8, 8, 8, 8, 8, 8, 8, 8, 8, 8, 8, 8, 8, 8, 8, 8, 8, 8, 8, 8, 8, 8, 8, 8, 8, 8]
def tb65_4 : List (Nat × Nat × Nat) := [(0, 65536, 128), (0, 131072, 2), (3, 262144, 196608), (4, 524288, 262144), (8, 1048576, 524289), (8, 2097152, 524416), (56, 4194304, 3670016), (72, 8388608, 4718592), (8, 16777216, 524289), (8, 33554432, 524416), (520, 67108864, 34078720), (1288, 134217728, 84410368), (2056, 268435456, 134742016), (4232, 536870912, 277348352), (8200, 1073741824, 537395200)]
def tb65_6 : List (Nat × Nat × Nat) := [(0, 8589934592, 1), (0, 17179869184, 128), (0, 34359738368, 1), (0, 68719476736, 128), (8, 137438953472, 68719476736), (0, 274877906944, 1), (0, 549755813888, 128), (64, 1099511627776, 549755813888), (160, 2199023255552, 1374389534720), (256, 4398046511104, 2199023255552), (0, 8796093022208, 1), (0, 17592186044416, 128), (3072, 35184372088832, 26388279066624), (4096, 70368744177664, 35184372088832), (9187, 140737488355328, 25769803776), (25571, 0, 145135534866432), (65535, 281474976710656, 171798691840), (131071, 0, 351843720888320)]
def tb87_3 : List (Nat × Nat × Nat) := [(0, 131072, 512), (1, 262144, 131072), (0, 524288, 4), (6, 1048576, 786432), (8, 2097152, 1048576), (16, 4194304, 2097153), (16, 8388608, 2097160), (16, 16777216, 2097664), (208, 33554432, 27262976), (304, 67108864, 39845888), (528, 134217728, 69206016), (16, 268435456, 2097153), (16, 536870912, 2097160), (16, 1073741824, 2097664), (12304, 2147483648, 1612709888), (16400, 4294967296, 2149580800), (34832, 8589934592, 4565499904), (65552, 17179869184, 8592031744), (132112, 34359738368, 17316184064), (262160, 68719476736, 34361835520)]
def tb87_5 : List (Nat × Nat × Nat) := [(0, 549755813888, 1), (0, 1099511627776, 8), (0, 2199023255552, 256), (6, 4398046511104, 3298534883328), (9, 8796093022208, 4947802324992), (16, 17592186044416, 8796093022208), (0, 35184372088832, 1), (0, 70368744177664, 8), (0, 140737488355328, 512), (384, 281474976710656, 211106232532992), (576, 562949953421312, 316659348799488), (1024, 1125899906842624, 562949953421312), (2080, 2251799813685248, 1143492092887040), (4096, 4503599627370496, 2251799813685248)]
def tb87_6 : List (Nat × Nat × Nat) := [(0, 9007199254740992, 1), (0, 18014398509481984, 8), (0, 36028797018963968, 256), (6, 72057594037927936, 54043195528445952), (0, 144115188075855872, 1), (0, 288230376151711744, 8), (0, 576460752303423488, 512), (96, 1152921504606846976, 864691128455135232), (0, 2305843009213693952, 1), (0, 4611686018427387904, 8), (0, 9223372036854775808, 512), (1536, 18446744073709551616, 13835058055282163712), (2304, 36893488147419103232, 20752587082923245568), (4096, 73786976294838206464, 36893488147419103232), (0, 147573952589676412928, 1), (0, 295147905179352825856, 8), (0, 590295810358705651712, 256), (98304, 1180591620717411303424, 885443715538058477568), (147456, 2361183241434822606848, 1328165573307087716352), (262144, 4722366482869645213696, 2361183241434822606848), (540431, 9444732965739290427392, 81064793292668928), (1589007, 0, 9518519942034128633856), (4194303, 18889465931478580854784, 1297036692682702848), (8388607, 0, 23611832414348226068480)]
theorem body71 : bodyB Tryd.prog 71 = true := by kernel_rfl
def math_bits_Len64_p (_n : Nat) (a0 : UInt64) : Option Int :=
  jn (fun (u2, i3) => jn (fun (u11, z12) => jn (fun (u20, z21) => (stab0[(u8of u20).toNat]?).bind fun z27 => (chk (z21 + ((z27.toNat : Nat) : Int))).bind fun s29 => some s29) (fun J25 => (if (256 : UInt64) ≤ u11 then (chk (z12 + 8)).bind fun s31 => J25 (shrU u11 8, s31) else J25 (u11, z12)))) (fun J16 => (if (65536 : UInt64) ≤ u2 then (chk (((i3 : Nat) : Int) + 16)).bind fun s33 => J16 (shrU u2 16, s33) else J16 (u2, ((i3 : Nat) : Int))))) (fun J7 => (if (4294967296 : UInt64) ≤ a0 then J7 (shrU a0 32, 32) else J7 (a0, 0)))
set_option maxRecDepth 4000 in
set_option maxHeartbeats 4000000 in
theorem math_bits_Len64_c (n : Nat) (L : List Nat) (w : World) (hL : ∀ b ∈ L, b < w.heap.size) (a0 : UInt64)  {r : Int} (h : math_bits_Len64_p n a0 = some r) :
    Calls Tryd.prog 60 #[.int .u64 (a0.toNat : Int)] w (Gives w fun _ u => u = .int .i64 r) := by
  unfold math_bits_Len64_p at h
  have hS0 := St.start w
  refine MX.start Tryd.func60 rfl rfl rfl (fun _ cs0 hb0 => ?_)
  refine MX.seq ?_
  refine MX.region ?_
  refine RG.val' .plain (FV.assign rfl) rfl ?_
  refine RG.nil ?_
  refine MX.seq ?_
  refine MX.seq ?_
  refine MX.region ?_
  refine RG.val' .plain (FV.move rfl) rfl ?_
  refine RG.val' .plain (FV.geqU (a := a0) (b := (4294967296 : UInt64)) rfl rfl) rfl ?_
  refine RG.nil ?_
  refine MX.join (α := UInt64 × Nat) (fun ⟨u2, i3⟩ => [(0, .int .u64 (u2.toNat : Int)), (2, .int .i64 ((i3 : Nat) : Int))]) (fun ⟨u2, i3⟩ wx3 => St w wx3 [] ∧ Tr w [] wx3 []) (fun ⟨u2, i3⟩ => (u2, i3)) h ?_ ?_
  ·skip
   rintro ⟨u2, i3⟩ wx3 ⟨hS4, hT5⟩ h
   try dsimp only at h
   refine MX.seq ?_
   refine MX.seq ?_
   refine MX.region ?_
   refine RG.val' .plain (FV.move rfl) rfl ?_
   refine RG.val' .plain (FV.geqU (a := u2) (b := (65536 : UInt64)) rfl rfl) rfl ?_
   refine RG.nil ?_
   refine MX.join (α := UInt64 × Int) (fun ⟨u11, z12⟩ => [(0, .int .u64 (u11.toNat : Int)), (2, .int .i64 z12)]) (fun ⟨u11, z12⟩ wx12 => St w wx12 [] ∧ Tr wx3 [] wx12 []) (fun ⟨u11, z12⟩ => (u11, z12)) h ?_ ?_
   ·skip
    rintro ⟨u11, z12⟩ wx12 ⟨hS13, hT14⟩ h
    try dsimp only at h
    refine MX.seq ?_
    refine MX.seq ?_
    refine MX.region ?_
    refine RG.val' .plain (FV.move rfl) rfl ?_
    refine RG.val' .plain (FV.geqU (a := u11) (b := (256 : UInt64)) rfl rfl) rfl ?_
    refine RG.nil ?_
    refine MX.join (α := UInt64 × Int) (fun ⟨u20, z21⟩ => [(0, .int .u64 (u20.toNat : Int)), (2, .int .i64 z21)]) (fun ⟨u20, z21⟩ wx21 => St w wx21 [] ∧ Tr wx12 [] wx21 []) (fun ⟨u20, z21⟩ => (u20, z21)) h ?_ ?_
    ·skip
     rintro ⟨u20, z21⟩ wx21 ⟨hS22, hT23⟩ h
     try dsimp only at h
     refine MX.seq ?_
     refine MX.region ?_
     refine RG.val' .plain (FV.move rfl) rfl ?_
     refine RG.val' .plain (FV.move rfl) rfl ?_
     refine RG.val' .plain (FV.conv8 (a := u20) Tryd.underlying35 Tryd.underlying5 rfl) rfl ?_
     obtain ⟨z27, hz27, h⟩ := bind_in h
     refine RG.val' .plain (FV.strIdx (k := (u8of u20).toNat) (tab := stab0) Tryd.underlying9 rfl rfl rfl rfl hz27) rfl ?_
     have hu28 := z27.toNat_lt
     refine RG.val' .plain (FV.convN (i := z27.toNat) Tryd.underlying5 Tryd.underlying3 rfl (by omega)) rfl ?_
     obtain ⟨s29, hs29, h⟩ := bind_in h
     refine RG.val' .plain (FV.addc (i := z21) (j := ((z27.toNat : Nat) : Int)) rfl rfl hs29) rfl ?_
     refine RG.val' .plain (FV.assign rfl) rfl ?_
     refine RG.nil ?_
     refine MX.ret rfl ?_
     refine RT.leave (u := .int .i64 s29) hb0 Tryd.func60 rfl (.cons (.tmp rfl) .nil) rfl ?_
     obtain rfl := Option.some.inj h
     exact ⟨hS22.ag, fun w9 hw9 => rfl⟩
    ·skip
     intro J25 hJ26 h
     try dsimp only at h
     refine MX.ifd rfl h (fun c30 h => ?_) (fun c30 h => ?_)
     ·skip
      refine MX.seq ?_
      refine MX.region ?_
      refine RG.val' .plain (FV.move rfl) rfl ?_
      refine RG.val' .plain (FV.shrU (a := u11) (j := 8) rfl rfl) rfl ?_
      refine RG.val' .plain (FV.assign rfl) rfl ?_
      refine RG.nil ?_
      refine MX.region ?_
      refine RG.val' .plain (FV.move rfl) rfl ?_
      obtain ⟨s31, hs31, h⟩ := bind_in h
      refine RG.val' .plain (FV.addc (i := z12) (j := 8) rfl rfl hs31) rfl ?_
      refine RG.val' .plain (FV.assign rfl) rfl ?_
      refine RG.nil ?_
      exact hJ26 (shrU u11 8, s31) _ _ ⟨rfl, rfl, trivial⟩ ⟨hS13, Tr.refl _ _⟩ h
     ·skip
      refine MX.skip ?_
      exact hJ26 (u11, z12) _ _ ⟨rfl, rfl, trivial⟩ ⟨hS13, Tr.refl _ _⟩ h
   ·skip
    intro J16 hJ17 h
    try dsimp only at h
    refine MX.ifd rfl h (fun c32 h => ?_) (fun c32 h => ?_)
    ·skip
     refine MX.seq ?_
     refine MX.region ?_
     refine RG.val' .plain (FV.move rfl) rfl ?_
     refine RG.val' .plain (FV.shrU (a := u2) (j := 16) rfl rfl) rfl ?_
     refine RG.val' .plain (FV.assign rfl) rfl ?_
     refine RG.nil ?_
     refine MX.region ?_
     refine RG.val' .plain (FV.move rfl) rfl ?_
     obtain ⟨s33, hs33, h⟩ := bind_in h
     refine RG.val' .plain (FV.addc (i := ((i3 : Nat) : Int)) (j := 16) rfl rfl hs33) rfl ?_
     refine RG.val' .plain (FV.assign rfl) rfl ?_
     refine RG.nil ?_
     exact hJ17 (shrU u2 16, s33) _ _ ⟨rfl, rfl, trivial⟩ ⟨hS4, Tr.refl _ _⟩ h
    ·skip
     refine MX.skip ?_
     exact hJ17 (u2, ((i3 : Nat) : Int)) _ _ ⟨rfl, rfl, trivial⟩ ⟨hS4, Tr.refl _ _⟩ h
  ·skip
   intro J7 hJ8 h
   try dsimp only at h
   refine MX.ifd rfl h (fun c34 h => ?_) (fun c34 h => ?_)
   ·skip
    refine MX.seq ?_
    refine MX.region ?_
    refine RG.val' .plain (FV.move rfl) rfl ?_
    refine RG.val' .plain (FV.shrU (a := a0) (j := 32) rfl rfl) rfl ?_
    refine RG.val' .plain (FV.assign rfl) rfl ?_
    refine RG.nil ?_
    refine MX.region ?_
    refine RG.val' .plain (FV.assign rfl) rfl ?_
    refine RG.nil ?_
    exact hJ8 (shrU a0 32, 32) _ _ ⟨rfl, rfl, trivial⟩ ⟨hS0, Tr.refl _ _⟩ h
   ·skip
    refine MX.skip ?_
    exact hJ8 (a0, 0) _ _ ⟨rfl, rfl, trivial⟩ ⟨hS0, Tr.refl _ _⟩ h
theorem body60 : bodyB Tryd.prog 60 = true := by kernel_rfl
def math_bits_Len_p (n : Nat) (a0 : UInt64) : Option Int :=
  (math_bits_Len64_p n a0).bind fun y1 => some y1
set_option maxRecDepth 4000 in
set_option maxHeartbeats 4000000 in
theorem math_bits_Len_c (n : Nat) (L : List Nat) (w : World) (hL : ∀ b ∈ L, b < w.heap.size) (a0 : UInt64)  {r : Int} (h : math_bits_Len_p n a0 = some r) :
    Calls Tryd.prog 36 #[.int .u64 (a0.toNat : Int)] w (Gives w fun _ u => u = .int .i64 r) := by
  unfold math_bits_Len_p at h
  have hS0 := St.start w
  refine MX.start Tryd.func36 rfl rfl rfl (fun _ cs0 hb0 => ?_)
  refine MX.seq ?_
  refine MX.region ?_
  refine RG.val' .plain (FV.assign rfl) rfl ?_
  refine RG.nil ?_
  refine MX.seq ?_
  refine MX.cond_f rfl ?_
  refine MX.skip ?_
  refine MX.seq ?_
  refine MX.region ?_
  refine RG.val' .plain (FV.move rfl) rfl ?_
  obtain ⟨y1, hy1, h⟩ := bind_in h
  refine RG.callq' (v := .int .i64 y1) (fst := []) (cap := []) .plain body60 rfl (evs_cons rfl evs_nil) (fun w9 hw9 => math_bits_Len64_c n _ w9 (hS0.hL0 hL hw9) a0 hy1) rfl ?_
  refine RG.val' .plain (FV.assign rfl) rfl ?_
  refine RG.nil ?_
  refine MX.ret rfl ?_
  refine RT.leave (u := .int .i64 y1) hb0 Tryd.func36 rfl (.cons (.tmp rfl) .nil) rfl ?_
  obtain rfl := Option.some.inj h
  exact ⟨hS0.ag, fun w9 hw9 => rfl⟩
theorem body36 : bodyB Tryd.prog 36 = true := by kernel_rfl
def slices_nextPowerOfTwo_p (n : Nat) (a0 : Int) : Option UInt64 :=
  (math_bits_Len_p n (u64of a0)).bind fun y1 => (natOf y1).bind fun k2 => some (shlU (1 : UInt64) k2)
set_option maxRecDepth 4000 in
set_option maxHeartbeats 4000000 in
theorem slices_nextPowerOfTwo_c (n : Nat) (L : List Nat) (w : World) (hL : ∀ b ∈ L, b < w.heap.size) (a0 : Int)  {r : UInt64} (h : slices_nextPowerOfTwo_p n a0 = some r) :
    Calls Tryd.prog 88 #[.int .i64 a0] w (Gives w fun _ u => u = .int .u64 (r.toNat : Int)) := by
  unfold slices_nextPowerOfTwo_p at h
  have hS0 := St.start w
  refine MX.start Tryd.func88 rfl rfl rfl (fun _ cs0 hb0 => ?_)
  refine MX.seq ?_
  refine MX.region ?_
  refine RG.val' .plain (FV.assign rfl) rfl ?_
  refine RG.nil ?_
  refine MX.seq ?_
  refine MX.region ?_
  refine RG.val' .plain (FV.move rfl) rfl ?_
  refine RG.val' .plain (FV.convU (i := a0) Tryd.underlying3 Tryd.underlying68 rfl) rfl ?_
  obtain ⟨y1, hy1, h⟩ := bind_in h
  refine RG.callq' (v := .int .i64 y1) (fst := []) (cap := []) .plain body36 rfl (evs_cons rfl evs_nil) (fun w9 hw9 => math_bits_Len_c n _ w9 (hS0.hL0 hL hw9) (u64of a0) hy1) rfl ?_
  obtain ⟨k2, hk2, h⟩ := bind_in h
  refine RG.val' .plain (FV.shlI (a := (1 : UInt64)) (i := y1) rfl rfl hk2) rfl ?_
  refine RG.val' .plain (FV.assign rfl) rfl ?_
  refine RG.nil ?_
  refine MX.ret rfl ?_
  refine RT.leave (u := .int .u64 ((shlU (1 : UInt64) k2).toNat : Int)) hb0 Tryd.func88 rfl (.cons (.tmp rfl) .nil) rfl ?_
  obtain rfl := Option.some.inj h
  exact ⟨hS0.ag, fun w9 hw9 => rfl⟩
def tb89_1 : List (Nat × Nat × Nat) := [(0, 8, 1), (1, 16, 8), (2, 32, 16), (0, 64, 1), (8, 128, 64), (16, 256, 128), (32, 512, 256), (68, 1024, 544), (255, 2048, 8), (511, 0, 3072)]
def tb96_1 : List (Nat × Nat × Nat) := [(0, 1024, 1), (0, 2048, 4), (3, 4096, 3072), (4, 8192, 4096), (0, 16384, 1), (0, 32768, 2), (48, 65536, 49152), (64, 131072, 65536), (136, 262144, 139264)]
def slices_order2Ordered_int_p (n : Nat) (a0 : List Int) (a1 : Int) (a2 : Int) (_a3 : Int) : Option (Int × Int) :=
  (idx a0 a2).bind fun x3 => (idx a0 a1).bind fun x14 => (cmp_Less_int_p n x3 x14).bind fun y25 => (if y25 = true then none else some (a1, a2))
set_option maxRecDepth 4000 in
set_option maxHeartbeats 4000000 in
theorem slices_order2Ordered_int_c (n : Nat) (L : List Nat) (w : World) (hL : ∀ b ∈ L, b < w.heap.size) (a0 : List Int) {v0_0 : Value} (h0_0 : Rep.R w L [v0_0] a0) (a1 : Int) (a2 : Int) (a3 : Int) {p3 : Nat} (m3 : ∀ j9 v9, ([.int .i64 a3] : List Value)[j9]? = some v9 → w.cell? ((⟨p3, 0, none⟩ : Addr).add j9) = some v9)  {r : Int × Int} (h : slices_order2Ordered_int_p n a0 a1 a2 a3 = some r) :
    Calls Tryd.prog 96 #[v0_0, .int .i64 a1, .int .i64 a2, .pointer (some ⟨p3, 0, none⟩)] w (Gives w fun _ u => u = .tuple #[.int .i64 r.1, .int .i64 r.2]) := by
  unfold slices_order2Ordered_int_p at h
  have hS0 := St.start w
  refine MX.start Tryd.func96 rfl rfl rfl (fun _ cs0 hb0 => ?_)
  refine MX.seq ?_
  refine MX.region ?_
  refine RG.val' .plain (FV.assign rfl) rfl ?_
  refine RG.val' .plain (FV.assign rfl) rfl ?_
  refine RG.nil ?_
  refine MX.seq ?_
  refine MX.seq ?_
  refine MX.drawT 9 tb96_1 (by kernel_rfl) (by kernel_rfl) (by kernel_rfl) (fun kt1 kp2 => ?_)
  refine RD.vP 0 1 kt1 rfl kp2 .plain (fun _ => FV.move rfl) rfl ?_
  refine RD.vP 1 3 kt1 rfl kp2 .plain (fun _ => FV.move rfl) rfl ?_
  obtain ⟨x3, hx3, h⟩ := bind_in h
  obtain ⟨hi4, hx5⟩ := idx_in hx3
  obtain ⟨A6, c7, he8, hk9, cs10, hr11, hm12⟩ := Rep.nth h0_0 hx5
  have he13 : cs10 = [.int .i64 x3] := hr11; subst he13
  refine RD.vP 2 7 kt1 rfl kp2 .plain (fun _ => FV.idxAddr (m := 1) (i := a2.toNat) (by kernel_rfl) rfl he8 rfl hi4 hk9) rfl ?_
  refine RD.val (i := 3) (m' := 15) (W := 256) (takeC_ok kt1 (by kernel_rfl)) rfl kp2 .plain (FV.load1 (by kernel_rfl) rfl (hm12 0 _ rfl)) rfl ?_
  refine RD.vP 4 31 kt1 rfl kp2 .plain (fun _ => FV.move rfl) rfl ?_
  refine RD.vP 5 63 kt1 rfl kp2 .plain (fun _ => FV.move rfl) rfl ?_
  obtain ⟨x14, hx14, h⟩ := bind_in h
  obtain ⟨hi15, hx16⟩ := idx_in hx14
  obtain ⟨A17, c18, he19, hk20, cs21, hr22, hm23⟩ := Rep.nth h0_0 hx16
  have he24 : cs21 = [.int .i64 x14] := hr22; subst he24
  refine RD.vP 6 127 kt1 rfl kp2 .plain (fun _ => FV.idxAddr (m := 1) (i := a1.toNat) (by kernel_rfl) rfl he19 rfl hi15 hk20) rfl ?_
  refine RD.val (i := 7) (m' := 255) (W := 256) (takeC_ok kt1 (by kernel_rfl)) rfl kp2 .plain (FV.load1 (by kernel_rfl) rfl (hm23 0 _ rfl)) rfl ?_
  obtain ⟨y25, hy25, h⟩ := bind_in h
  refine RD.callq (i := 8) (m' := 511) (W := 0) (takeC_ok kt1 (by kernel_rfl)) rfl kp2 (v := .bool y25) (fst := []) (cap := []) .plain body71 rfl (evs_cons rfl (evs_cons rfl evs_nil)) (fun w9 hw9 => cmp_Less_int_c n _ w9 (hS0.hL0 hL hw9) x3 x14 hy25) rfl ?_
  refine RD.done (doneD_ok kt1 (by kernel_rfl)) ?_
  refine MX.ifb rfl h (fun c26 h => ?_) (fun c26 h => ?_)
  ·skip
   refine MX.seq ?_
   refine MX.region ?_
   cases h
  ·skip
   refine MX.skip ?_
   refine MX.seq ?_
   refine MX.region ?_
   refine RG.val' .plain (FV.move rfl) rfl ?_
   refine RG.val' .plain (FV.move rfl) rfl ?_
   refine RG.val' .plain (FV.assign rfl) rfl ?_
   refine RG.val' .plain (FV.assign rfl) rfl ?_
   refine RG.nil ?_
   refine MX.ret rfl ?_
   refine RT.leave (u := .tuple #[.int .i64 a1, .int .i64 a2]) hb0 Tryd.func96 rfl (.cons (.tmp rfl) (.cons (.tmp rfl) .nil)) rfl ?_
   obtain rfl := Option.some.inj h
   exact ⟨hS0.ag, fun w9 hw9 => rfl⟩
theorem body96 : bodyB Tryd.prog 96 = true := by kernel_rfl
def slices_medianOrdered_int_p (n : Nat) (a0 : List Int) (a1 : Int) (a2 : Int) (a3 : Int) (a4 : Int) : Option Int :=
  (slices_order2Ordered_int_p n a0 a1 a2 a4).bind fun y1 => (slices_order2Ordered_int_p n a0 y1.2 a3 a4).bind fun y2 => (slices_order2Ordered_int_p n a0 y1.1 y2.1 a4).bind fun y3 => some y3.2
set_option maxRecDepth 4000 in
set_option maxHeartbeats 4000000 in
theorem slices_medianOrdered_int_c (n : Nat) (L : List Nat) (w : World) (hL : ∀ b ∈ L, b < w.heap.size) (a0 : List Int) {v0_0 : Value} (h0_0 : Rep.R w L [v0_0] a0) (a1 : Int) (a2 : Int) (a3 : Int) (a4 : Int) {p4 : Nat} (m4 : ∀ j9 v9, ([.int .i64 a4] : List Value)[j9]? = some v9 → w.cell? ((⟨p4, 0, none⟩ : Addr).add j9) = some v9)  {r : Int} (h : slices_medianOrdered_int_p n a0 a1 a2 a3 a4 = some r) :
    Calls Tryd.prog 91 #[v0_0, .int .i64 a1, .int .i64 a2, .int .i64 a3, .pointer (some ⟨p4, 0, none⟩)] w (Gives w fun _ u => u = .int .i64 r) := by
  unfold slices_medianOrdered_int_p at h
  have hS0 := St.start w
  refine MX.start Tryd.func91 rfl rfl rfl (fun _ cs0 hb0 => ?_)
  refine MX.seq ?_
  refine MX.region ?_
  refine RG.val' .plain (FV.assign rfl) rfl ?_
  refine RG.nil ?_
  refine MX.seq ?_
  refine MX.region ?_
  refine RG.val' .plain (FV.move rfl) rfl ?_
  refine RG.val' .plain (FV.move rfl) rfl ?_
  refine RG.val' .plain (FV.move rfl) rfl ?_
  refine RG.val' .plain (FV.move rfl) rfl ?_
  obtain ⟨y1, hy1, h⟩ := bind_in h
  refine RG.callq' (v := .tuple #[.int .i64 y1.1, .int .i64 y1.2]) (fst := []) (cap := []) .plain body96 rfl (evs_cons rfl (evs_cons rfl (evs_cons rfl (evs_cons rfl evs_nil)))) (fun w9 hw9 => slices_order2Ordered_int_c n _ w9 (hS0.hL0 hL hw9) a0 (Rep.keep0 (Rep.dropO (O := []) h0_0) hw9) a1 a2 a4 (fun j9 v9 h9 => hw9.cell0 ((fun j9 v9 h9 => hS0.ag.cell0 (m4 j9 v9 h9)) j9 v9 h9)) hy1) rfl ?_
  refine RG.val' .plain (FV.move rfl) rfl ?_
  refine RG.val' .plain (FV.extract rfl rfl) rfl ?_
  refine RG.val' .plain (FV.extract rfl rfl) rfl ?_
  refine RG.val' .plain (FV.assign rfl) rfl ?_
  refine RG.val' .plain (FV.assign rfl) rfl ?_
  refine RG.nil ?_
  refine MX.seq ?_
  refine MX.region ?_
  refine RG.val' .plain (FV.move rfl) rfl ?_
  refine RG.val' .plain (FV.move rfl) rfl ?_
  refine RG.val' .plain (FV.move rfl) rfl ?_
  refine RG.val' .plain (FV.move rfl) rfl ?_
  obtain ⟨y2, hy2, h⟩ := bind_in h
  refine RG.callq' (v := .tuple #[.int .i64 y2.1, .int .i64 y2.2]) (fst := []) (cap := []) .plain body96 rfl (evs_cons rfl (evs_cons rfl (evs_cons rfl (evs_cons rfl evs_nil)))) (fun w9 hw9 => slices_order2Ordered_int_c n _ w9 (hS0.hL0 hL hw9) a0 (Rep.keep0 (Rep.dropO (O := []) h0_0) hw9) y1.2 a3 a4 (fun j9 v9 h9 => hw9.cell0 ((fun j9 v9 h9 => hS0.ag.cell0 (m4 j9 v9 h9)) j9 v9 h9)) hy2) rfl ?_
  refine RG.val' .plain (FV.move rfl) rfl ?_
  refine RG.val' .plain (FV.extract rfl rfl) rfl ?_
  refine RG.val' .plain (FV.extract rfl rfl) rfl ?_
  refine RG.val' .plain (FV.assign rfl) rfl ?_
  refine RG.val' .plain (FV.assign rfl) rfl ?_
  refine RG.nil ?_
  refine MX.seq ?_
  refine MX.region ?_
  refine RG.val' .plain (FV.move rfl) rfl ?_
  refine RG.val' .plain (FV.move rfl) rfl ?_
  refine RG.val' .plain (FV.move rfl) rfl ?_
  refine RG.val' .plain (FV.move rfl) rfl ?_
  obtain ⟨y3, hy3, h⟩ := bind_in h
  refine RG.callq' (v := .tuple #[.int .i64 y3.1, .int .i64 y3.2]) (fst := []) (cap := []) .plain body96 rfl (evs_cons rfl (evs_cons rfl (evs_cons rfl (evs_cons rfl evs_nil)))) (fun w9 hw9 => slices_order2Ordered_int_c n _ w9 (hS0.hL0 hL hw9) a0 (Rep.keep0 (Rep.dropO (O := []) h0_0) hw9) y1.1 y2.1 a4 (fun j9 v9 h9 => hw9.cell0 ((fun j9 v9 h9 => hS0.ag.cell0 (m4 j9 v9 h9)) j9 v9 h9)) hy3) rfl ?_
  refine RG.val' .plain (FV.move rfl) rfl ?_
  refine RG.val' .plain (FV.extract rfl rfl) rfl ?_
  refine RG.val' .plain (FV.extract rfl rfl) rfl ?_
  refine RG.val' .plain (FV.assign rfl) rfl ?_
  refine RG.val' .plain (FV.assign rfl) rfl ?_
  refine RG.nil ?_
  refine MX.seq ?_
  refine MX.region ?_
  refine RG.val' .plain (FV.move rfl) rfl ?_
  refine RG.val' .plain (FV.assign rfl) rfl ?_
  refine RG.nil ?_
  refine MX.ret rfl ?_
  refine RT.leave (u := .int .i64 y3.2) hb0 Tryd.func91 rfl (.cons (.tmp rfl) .nil) rfl ?_
  obtain rfl := Option.some.inj h
  exact ⟨hS0.ag, fun w9 hw9 => rfl⟩
theorem body91 : bodyB Tryd.prog 91 = true := by kernel_rfl
def slices_medianAdjacentOrdered_int_p (n : Nat) (a0 : List Int) (a1 : Int) (a2 : Int) : Option Int :=
  (chk (a1 - 1)).bind fun s1 => (chk (a1 + 1)).bind fun s2 => (slices_medianOrdered_int_p n a0 s1 a1 s2 a2).bind fun y3 => some y3
set_option maxRecDepth 4000 in
set_option maxHeartbeats 4000000 in
theorem slices_medianAdjacentOrdered_int_c (n : Nat) (L : List Nat) (w : World) (hL : ∀ b ∈ L, b < w.heap.size) (a0 : List Int) {v0_0 : Value} (h0_0 : Rep.R w L [v0_0] a0) (a1 : Int) (a2 : Int) {p2 : Nat} (m2 : ∀ j9 v9, ([.int .i64 a2] : List Value)[j9]? = some v9 → w.cell? ((⟨p2, 0, none⟩ : Addr).add j9) = some v9)  {r : Int} (h : slices_medianAdjacentOrdered_int_p n a0 a1 a2 = some r) :
    Calls Tryd.prog 90 #[v0_0, .int .i64 a1, .pointer (some ⟨p2, 0, none⟩)] w (Gives w fun _ u => u = .int .i64 r) := by
  unfold slices_medianAdjacentOrdered_int_p at h
  have hS0 := St.start w
  refine MX.start Tryd.func90 rfl rfl rfl (fun _ cs0 hb0 => ?_)
  refine MX.seq ?_
  refine MX.region ?_
  refine RG.val' .plain (FV.assign rfl) rfl ?_
  refine RG.nil ?_
  refine MX.seq ?_
  refine MX.region ?_
  refine RG.val' .plain (FV.move rfl) rfl ?_
  refine RG.val' .plain (FV.move rfl) rfl ?_
  obtain ⟨s1, hs1, h⟩ := bind_in h
  refine RG.val' .plain (FV.subc (i := a1) (j := 1) rfl rfl hs1) rfl ?_
  refine RG.val' .plain (FV.move rfl) rfl ?_
  refine RG.val' .plain (FV.move rfl) rfl ?_
  obtain ⟨s2, hs2, h⟩ := bind_in h
  refine RG.val' .plain (FV.addc (i := a1) (j := 1) rfl rfl hs2) rfl ?_
  refine RG.val' .plain (FV.move rfl) rfl ?_
  obtain ⟨y3, hy3, h⟩ := bind_in h
  refine RG.callq' (v := .int .i64 y3) (fst := []) (cap := []) .plain body91 rfl (evs_cons rfl (evs_cons rfl (evs_cons rfl (evs_cons rfl (evs_cons rfl evs_nil))))) (fun w9 hw9 => slices_medianOrdered_int_c n _ w9 (hS0.hL0 hL hw9) a0 (Rep.keep0 (Rep.dropO (O := []) h0_0) hw9) s1 a1 s2 a2 (fun j9 v9 h9 => hw9.cell0 ((fun j9 v9 h9 => hS0.ag.cell0 (m2 j9 v9 h9)) j9 v9 h9)) hy3) rfl ?_
  refine RG.val' .plain (FV.assign rfl) rfl ?_
  refine RG.nil ?_
  refine MX.ret rfl ?_
  refine RT.leave (u := .int .i64 y3) hb0 Tryd.func90 rfl (.cons (.tmp rfl) .nil) rfl ?_
  obtain rfl := Option.some.inj h
  exact ⟨hS0.ag, fun w9 hw9 => rfl⟩
theorem body90 : bodyB Tryd.prog 90 = true := by kernel_rfl
def slices_choosePivotOrdered_int_p (n : Nat) (a0 : List Int) (a1 : Int) (a2 : Int) : Option (Int × Int) :=
  (chk (a2 - a1)).bind fun s1 => (quoI s1 4).bind fun s7 => (chk (s7 * 1)).bind fun s8 => (chk (a1 + s8)).bind fun s9 => (quoI s1 4).bind fun s10 => (chk (s10 * 2)).bind fun s11 => (chk (a1 + s11)).bind fun s12 => (quoI s1 4).bind fun s13 => (chk (s13 * 3)).bind fun s14 => (chk (a1 + s14)).bind fun s15 => jn (fun z25 => some (z25, 1)) (fun J29 => (if 8 ≤ s1 then (if 50 ≤ s1 then (slices_medianAdjacentOrdered_int_p n a0 s9 0).bind fun y33 => (slices_medianAdjacentOrdered_int_p n a0 s12 0).bind fun y35 => (slices_medianAdjacentOrdered_int_p n a0 s15 0).bind fun y36 => (slices_medianOrdered_int_p n a0 y33 y35 y36 0).bind fun y37 => J29 y37 else (slices_medianOrdered_int_p n a0 s9 s12 s15 0).bind fun y38 => J29 y38) else J29 s12))
set_option maxRecDepth 4000 in
set_option maxHeartbeats 4000000 in
theorem slices_choosePivotOrdered_int_c (n : Nat) (L : List Nat) (w : World) (hL : ∀ b ∈ L, b < w.heap.size) (a0 : List Int) {v0_0 : Value} (h0_0 : Rep.R w L [v0_0] a0) (a1 : Int) (a2 : Int)  {r : Int × Int} (h : slices_choosePivotOrdered_int_p n a0 a1 a2 = some r) :
    Calls Tryd.prog 68 #[v0_0, .int .i64 a1, .int .i64 a2] w (Gives w fun _ u => u = .tuple #[.int .i64 r.1, .int .i64 r.2]) := by
  unfold slices_choosePivotOrdered_int_p at h
  have hS0 := St.start w
  refine MX.start Tryd.func68 rfl rfl rfl (fun _ cs0 hb0 => ?_)
  refine MX.seq ?_
  refine MX.region ?_
  refine RG.val' .plain (FV.assign rfl) rfl ?_
  refine RG.val' .plain (FV.assign rfl) rfl ?_
  refine RG.nil ?_
  refine MX.seq ?_
  refine MX.region ?_
  refine RG.val' .plain (FV.move rfl) rfl ?_
  refine RG.val' .plain (FV.move rfl) rfl ?_
  obtain ⟨s1, hs1, h⟩ := bind_in h
  refine RG.val' .plain (FV.subc (i := a2) (j := a1) rfl rfl hs1) rfl ?_
  refine RG.val' .plain (FV.assign rfl) rfl ?_
  refine RG.nil ?_
  refine MX.seq ?_
  refine MX.region ?_
  refine RG.new .plain rfl (Does.alloc (zs := [.int .i64 0]) hS0 (zB (by kernel_rfl))) (fun w3 b6 hS4 hT5 => ?_)
  refine RG.nil ?_
  refine MX.seq ?_
  refine MX.region ?_
  refine RG.val' .plain (FV.move rfl) rfl ?_
  refine RG.val' .plain (FV.move rfl) rfl ?_
  obtain ⟨s7, hs7, h⟩ := bind_in h
  refine RG.val' .plain (FV.quoc (i := s1) (j := 4) rfl rfl hs7) rfl ?_
  obtain ⟨s8, hs8, h⟩ := bind_in h
  refine RG.val' .plain (FV.mulc (i := s7) (j := 1) rfl rfl hs8) rfl ?_
  obtain ⟨s9, hs9, h⟩ := bind_in h
  refine RG.val' .plain (FV.addc (i := a1) (j := s8) rfl rfl hs9) rfl ?_
  refine RG.val' .plain (FV.assign rfl) rfl ?_
  refine RG.nil ?_
  refine MX.seq ?_
  refine MX.region ?_
  refine RG.val' .plain (FV.move rfl) rfl ?_
  refine RG.val' .plain (FV.move rfl) rfl ?_
  obtain ⟨s10, hs10, h⟩ := bind_in h
  refine RG.val' .plain (FV.quoc (i := s1) (j := 4) rfl rfl hs10) rfl ?_
  obtain ⟨s11, hs11, h⟩ := bind_in h
  refine RG.val' .plain (FV.mulc (i := s10) (j := 2) rfl rfl hs11) rfl ?_
  obtain ⟨s12, hs12, h⟩ := bind_in h
  refine RG.val' .plain (FV.addc (i := a1) (j := s11) rfl rfl hs12) rfl ?_
  refine RG.val' .plain (FV.assign rfl) rfl ?_
  refine RG.nil ?_
  refine MX.seq ?_
  refine MX.region ?_
  refine RG.val' .plain (FV.move rfl) rfl ?_
  refine RG.val' .plain (FV.move rfl) rfl ?_
  obtain ⟨s13, hs13, h⟩ := bind_in h
  refine RG.val' .plain (FV.quoc (i := s1) (j := 4) rfl rfl hs13) rfl ?_
  obtain ⟨s14, hs14, h⟩ := bind_in h
  refine RG.val' .plain (FV.mulc (i := s13) (j := 3) rfl rfl hs14) rfl ?_
  obtain ⟨s15, hs15, h⟩ := bind_in h
  refine RG.val' .plain (FV.addc (i := a1) (j := s14) rfl rfl hs15) rfl ?_
  refine RG.val' .plain (FV.assign rfl) rfl ?_
  refine RG.nil ?_
  refine MX.seq ?_
  refine MX.seq ?_
  refine MX.region ?_
  refine RG.val' .plain (FV.move rfl) rfl ?_
  refine RG.val' .plain (FV.geq (i := s1) (j := 8) rfl rfl) rfl ?_
  refine RG.nil ?_
  refine MX.join (α := Int) (fun z25 => [(6, .int .i64 0), (7, .int .i64 0), (9, .pointer (some ⟨b6, 0, none⟩)), (11, .int .i64 z25)]) (fun z25 wx25 => St w wx25 [.cells b6 [.int .i64 0] 3] ∧ Tr w3 [.cells b6 [.int .i64 0] 3] wx25 [.cells b6 [.int .i64 0] 3]) (fun z25 => z25) h ?_ ?_
  ·skip
   rintro z25 wx25 ⟨hS26, hT27⟩ h
   try dsimp only at h
   refine MX.seq ?_
   refine MX.region ?_
   refine RG.val' .plain (FV.load1 (by kernel_rfl) rfl ((hS26.memA .hd) 0 _ rfl)) rfl ?_
   refine RG.nil ?_
   refine MX.block ?_
   refine MX.seq ?_
   refine MX.region ?_
   refine RG.val' .plain (FV.eqlN (i := 0) (j := 0) rfl rfl) rfl ?_
   refine RG.val' .plain (FV.assign rfl) rfl ?_
   refine RG.nil ?_
   refine MX.cond_t rfl ?_
   refine MX.seq ?_
   refine MX.region ?_
   refine RG.val' .plain (FV.move rfl) rfl ?_
   refine RG.val' .plain (FV.assign rfl) rfl ?_
   refine RG.val' .plain (FV.assign rfl) rfl ?_
   refine RG.nil ?_
   refine MX.ret rfl ?_
   refine RT.leave (u := .tuple #[.int .i64 z25, .int .i64 1]) hb0 Tryd.func68 rfl (.cons (.tmp rfl) (.cons (.tmp rfl) .nil)) rfl ?_
   obtain rfl := Option.some.inj h
   exact ⟨hS26.ag, fun w9 hw9 => rfl⟩
  ·skip
   intro J29 hJ30 h
   try dsimp only at h
   refine MX.ifd rfl h (fun c31 h => ?_) (fun c31 h => ?_)
   ·skip
    refine MX.seq ?_
    refine MX.seq ?_
    refine MX.region ?_
    refine RG.val' .plain (FV.move rfl) rfl ?_
    refine RG.val' .plain (FV.geq (i := s1) (j := 50) rfl rfl) rfl ?_
    refine RG.nil ?_
    refine MX.ifd rfl h (fun c32 h => ?_) (fun c32 h => ?_)
    ·skip
     refine MX.seq ?_
     refine MX.region ?_
     refine RG.val' .plain (FV.move rfl) rfl ?_
     refine RG.val' .plain (FV.move rfl) rfl ?_
     obtain ⟨y33, hy33, h⟩ := bind_in h
     have hm34 := Rep.mv h0_0 hT5
     refine RG.callq' (v := .int .i64 y33) (fst := []) (cap := []) .plain body90 rfl (evs_cons rfl (evs_cons rfl (evs_cons rfl evs_nil))) (fun w9 hw9 => slices_medianAdjacentOrdered_int_c n _ w9 (hS4.hL0 hL hw9) a0 (Rep.keep0 (Rep.dropO (O := [.cells b6 [.int .i64 0] 3]) hm34) hw9) s9 0 (fun j9 v9 h9 => hw9.cell0 ((hS4.memA .hd) j9 v9 h9)) hy33) rfl ?_
     refine RG.val' .plain (FV.assign rfl) rfl ?_
     refine RG.nil ?_
     refine MX.seq ?_
     refine MX.region ?_
     refine RG.val' .plain (FV.move rfl) rfl ?_
     refine RG.val' .plain (FV.move rfl) rfl ?_
     obtain ⟨y35, hy35, h⟩ := bind_in h
     refine RG.callq' (v := .int .i64 y35) (fst := []) (cap := []) .plain body90 rfl (evs_cons rfl (evs_cons rfl (evs_cons rfl evs_nil))) (fun w9 hw9 => slices_medianAdjacentOrdered_int_c n _ w9 (hS4.hL0 hL hw9) a0 (Rep.keep0 (Rep.dropO (O := [.cells b6 [.int .i64 0] 3]) hm34) hw9) s12 0 (fun j9 v9 h9 => hw9.cell0 ((hS4.memA .hd) j9 v9 h9)) hy35) rfl ?_
     refine RG.val' .plain (FV.assign rfl) rfl ?_
     refine RG.nil ?_
     refine MX.region ?_
     refine RG.val' .plain (FV.move rfl) rfl ?_
     refine RG.val' .plain (FV.move rfl) rfl ?_
     obtain ⟨y36, hy36, h⟩ := bind_in h
     refine RG.callq' (v := .int .i64 y36) (fst := []) (cap := []) .plain body90 rfl (evs_cons rfl (evs_cons rfl (evs_cons rfl evs_nil))) (fun w9 hw9 => slices_medianAdjacentOrdered_int_c n _ w9 (hS4.hL0 hL hw9) a0 (Rep.keep0 (Rep.dropO (O := [.cells b6 [.int .i64 0] 3]) hm34) hw9) s15 0 (fun j9 v9 h9 => hw9.cell0 ((hS4.memA .hd) j9 v9 h9)) hy36) rfl ?_
     refine RG.val' .plain (FV.assign rfl) rfl ?_
     refine RG.nil ?_
     refine MX.region ?_
     refine RG.val' .plain (FV.move rfl) rfl ?_
     refine RG.val' .plain (FV.move rfl) rfl ?_
     refine RG.val' .plain (FV.move rfl) rfl ?_
     refine RG.val' .plain (FV.move rfl) rfl ?_
     obtain ⟨y37, hy37, h⟩ := bind_in h
     refine RG.callq' (v := .int .i64 y37) (fst := []) (cap := []) .plain body91 rfl (evs_cons rfl (evs_cons rfl (evs_cons rfl (evs_cons rfl (evs_cons rfl evs_nil))))) (fun w9 hw9 => slices_medianOrdered_int_c n _ w9 (hS4.hL0 hL hw9) a0 (Rep.keep0 (Rep.dropO (O := [.cells b6 [.int .i64 0] 3]) hm34) hw9) y33 y35 y36 0 (fun j9 v9 h9 => hw9.cell0 ((hS4.memA .hd) j9 v9 h9)) hy37) rfl ?_
     refine RG.val' .plain (FV.assign rfl) rfl ?_
     refine RG.nil ?_
     exact hJ30 y37 _ _ ⟨rfl, rfl, rfl, rfl, trivial⟩ ⟨hS4, Tr.refl _ _⟩ h
    ·skip
     refine MX.skip ?_
     refine MX.region ?_
     refine RG.val' .plain (FV.move rfl) rfl ?_
     refine RG.val' .plain (FV.move rfl) rfl ?_
     refine RG.val' .plain (FV.move rfl) rfl ?_
     refine RG.val' .plain (FV.move rfl) rfl ?_
     obtain ⟨y38, hy38, h⟩ := bind_in h
     have hm39 := Rep.mv h0_0 hT5
     refine RG.callq' (v := .int .i64 y38) (fst := []) (cap := []) .plain body91 rfl (evs_cons rfl (evs_cons rfl (evs_cons rfl (evs_cons rfl (evs_cons rfl evs_nil))))) (fun w9 hw9 => slices_medianOrdered_int_c n _ w9 (hS4.hL0 hL hw9) a0 (Rep.keep0 (Rep.dropO (O := [.cells b6 [.int .i64 0] 3]) hm39) hw9) s9 s12 s15 0 (fun j9 v9 h9 => hw9.cell0 ((hS4.memA .hd) j9 v9 h9)) hy38) rfl ?_
     refine RG.val' .plain (FV.assign rfl) rfl ?_
     refine RG.nil ?_
     exact hJ30 y38 _ _ ⟨rfl, rfl, rfl, rfl, trivial⟩ ⟨hS4, Tr.refl _ _⟩ h
   ·skip
    refine MX.skip ?_
    exact hJ30 s12 _ _ ⟨rfl, rfl, rfl, rfl, trivial⟩ ⟨hS4, Tr.refl _ _⟩ h
def tb70_5 : List (Nat × Nat × Nat) := [(0, 131072, 128), (0, 262144, 4), (3, 524288, 393216), (4, 1048576, 524288), (8, 2097152, 1048577), (8, 4194304, 1048704), (56, 8388608, 7340032), (72, 16777216, 9437184), (8, 33554432, 1048577), (8, 67108864, 1048704), (520, 134217728, 68157440), (1288, 268435456, 168820736), (2056, 536870912, 269484032), (4232, 1073741824, 554696704), (8200, 2147483648, 1074790400), (16392, 4294967296, 2148532224)]
def tb70_11 : List (Nat × Nat × Nat) := [(0, 4398046511104, 1), (0, 8796093022208, 128), (0, 17592186044416, 1), (0, 35184372088832, 128), (8, 70368744177664, 35184372088832), (0, 140737488355328, 1), (0, 281474976710656, 128), (64, 562949953421312, 281474976710656), (160, 1125899906842624, 703687441776640), (256, 2251799813685248, 1125899906842624), (0, 4503599627370496, 1), (0, 9007199254740992, 128), (3072, 18014398509481984, 13510798882111488), (4096, 36028797018963968, 18014398509481984), (9187, 72057594037927936, 13194139533312), (25571, 0, 74309393851613184), (65535, 144115188075855872, 87960930222080), (131071, 0, 180143985094819840)]
def slices_partialInsertionSortOrdered_int_l1 (n : Nat) (a2 : Int) (a0 : List Int) (J265 : Int → Option Int) : Int → Option Int
  | z257 => (if z257 < a2 then (idx a0 z257).bind fun x270 => (chk (z257 - 1)).bind fun s282 => (idx a0 s282).bind fun x283 => (cmp_Less_int_p n x270 x283).bind fun y294 => (if y294 = true then some z257 else (chk (z257 + 1)).bind fun s296 => J265 s296) else some z257)
def slices_partialInsertionSortOrdered_int_l2 (n : Nat) (a2 : Int) (a1 : Int) (a0 : List Int) (_J101 : Int × Nat → Option (Bool ⊕ Unit)) : Int × Nat → Option (Bool ⊕ Unit)
  | (z92, i93) => (if i93 < 5 then jn (fun z212 => (if z212 = a2 then some (.inl true) else (chk (a2 - a1)).bind fun s219 => (if s219 < 50 then some (.inl false) else none))) (fun J216 => Option.bind (loopF (slices_partialInsertionSortOrdered_int_l1 n a2 a0) n z92) (J216)) else some (.inr ()))
def slices_partialInsertionSortOrdered_int_p (n : Nat) (a0 : List Int) (a1 : Int) (a2 : Int) : Option Bool :=
  (chk (a1 + 1)).bind fun s1 => thn (loopF (slices_partialInsertionSortOrdered_int_l2 n a2 a1 a0) n (s1, 0)) (fun _ => some false)
set_option maxRecDepth 4000 in
set_option maxHeartbeats 4000000 in
theorem slices_partialInsertionSortOrdered_int_c (n : Nat) (L : List Nat) (w : World) (hL : ∀ b ∈ L, b < w.heap.size) (a0 : List Int) {v0_0 : Value} (h0_0 : Rep.R w L [v0_0] a0) (a1 : Int) (a2 : Int)  {r : Bool} (h : slices_partialInsertionSortOrdered_int_p n a0 a1 a2 = some r) :
    Calls Tryd.prog 70 #[v0_0, .int .i64 a1, .int .i64 a2] w (Gives w fun _ u => u = .bool r) := by
  unfold slices_partialInsertionSortOrdered_int_p at h
  have hS0 := St.start w
  refine MX.start Tryd.func70 rfl rfl rfl (fun _ cs0 hb0 => ?_)
  refine MX.seq ?_
  refine MX.region ?_
  refine RG.val' .plain (FV.assign rfl) rfl ?_
  refine RG.nil ?_
  refine MX.seq ?_
  refine MX.region ?_
  refine RG.val' .plain (FV.move rfl) rfl ?_
  obtain ⟨s1, hs1, h⟩ := bind_in h
  refine RG.val' .plain (FV.addc (i := a1) (j := 1) rfl rfl hs1) rfl ?_
  refine RG.val' .plain (FV.assign rfl) rfl ?_
  refine RG.nil ?_
  refine MX.seq ?_
  refine MX.seq ?_
  refine MX.region ?_
  refine RG.val' .plain (FV.assign rfl) rfl ?_
  refine RG.nil ?_
  refine MX.block ?_
  obtain ⟨o99, ho98, hh100⟩ := thn_in h
  refine MX.loop (α := Int × Nat) (fun ⟨z92, i93⟩ => [(0, v0_0), (1, .int .i64 a1), (2, .int .i64 a2), (7, .int .i64 z92), (8, .int .i64 ((i93 : Nat) : Int))]) (fun ⟨z92, i93⟩ wx93 => St w wx93 [] ∧ Tr w [] wx93 []) (fun ⟨z92, i93⟩ => (z92, i93)) (s1, 0) ho98 ⟨rfl, rfl, rfl, rfl, rfl, trivial⟩ ⟨hS0, Tr.refl _ _⟩ ?_
  rintro J101 ⟨z92, i93⟩ wx93 hJ102 ⟨hS94, hT95⟩ h
  unfold slices_partialInsertionSortOrdered_int_l2 at h
  try dsimp only at h
  refine MX.seq ?_
  refine MX.seq ?_
  refine MX.region ?_
  refine RG.val' .plain (FV.move rfl) rfl ?_
  refine RG.val' .plain (FV.lssN (i := i93) (j := 5) rfl rfl) rfl ?_
  refine RG.nil ?_
  refine MX.ifd rfl h (fun c103 h => ?_) (fun c103 h => ?_)
  ·skip
   refine MX.skip ?_
   refine MX.seq ?_
   refine MX.block ?_
   refine MX.seq ?_
   refine MX.block ?_
   refine MX.joinx (α := Int) (fun z212 => [(0, v0_0), (1, .int .i64 a1), (2, .int .i64 a2), (7, .int .i64 z212), (8, .int .i64 ((i93 : Nat) : Int))]) (fun z212 wx212 => St w wx212 [] ∧ Tr wx93 [] wx212 []) (fun z212 => z212) (id := 2) rfl h ?_ ?_
   ·skip
    rintro z212 wx212 ⟨hS213, hT214⟩ h
    try dsimp only at h
    refine MX.seq ?_
    refine MX.seq ?_
    refine MX.region ?_
    refine RG.val' .plain (FV.move rfl) rfl ?_
    refine RG.val' .plain (FV.move rfl) rfl ?_
    refine RG.val' .plain (FV.eql (i := z212) (j := a2) rfl rfl) rfl ?_
    refine RG.nil ?_
    refine MX.ifd rfl h (fun c218 h => ?_) (fun c218 h => ?_)
    ·skip
     refine MX.seq ?_
     refine MX.region ?_
     refine RG.val' .plain (FV.assign rfl) rfl ?_
     refine RG.nil ?_
     have h := thn_inl h hh100
     refine MX.ret rfl ?_
     refine RT.leave (u := .bool true) hb0 Tryd.func70 rfl (.cons (.tmp rfl) .nil) rfl ?_
     obtain rfl := Option.some.inj h
     exact ⟨hS213.ag, fun w9 hw9 => rfl⟩
    ·skip
     refine MX.skip ?_
     refine MX.seq ?_
     refine MX.seq ?_
     refine MX.region ?_
     refine RG.val' .plain (FV.move rfl) rfl ?_
     refine RG.val' .plain (FV.move rfl) rfl ?_
     obtain ⟨s219, hs219, h⟩ := bind_in h
     refine RG.val' .plain (FV.subc (i := a2) (j := a1) rfl rfl hs219) rfl ?_
     refine RG.val' .plain (FV.lss (i := s219) (j := 50) rfl rfl) rfl ?_
     refine RG.nil ?_
     refine MX.ifd rfl h (fun c220 h => ?_) (fun c220 h => ?_)
     ·skip
      refine MX.seq ?_
      refine MX.region ?_
      refine RG.val' .plain (FV.assign rfl) rfl ?_
      refine RG.nil ?_
      have h := thn_inl h hh100
      refine MX.ret rfl ?_
      refine RT.leave (u := .bool false) hb0 Tryd.func70 rfl (.cons (.tmp rfl) .nil) rfl ?_
      obtain rfl := Option.some.inj h
      exact ⟨hS213.ag, fun w9 hw9 => rfl⟩
     ·skip
      refine MX.skip ?_
      refine MX.seq ?_
      refine MX.drawT 15 tb70_11 (by kernel_rfl) (by kernel_rfl) (by kernel_rfl) (fun kt221 kp222 => ?_)
      cases h
   ·skip
    intro J216 hJ217 h
    try dsimp only at h
    obtain ⟨o263, ho262, hh264⟩ := bind_in2 h
    refine MX.loop (α := Int) (fun z257 => [(0, v0_0), (1, .int .i64 a1), (2, .int .i64 a2), (7, .int .i64 z257), (8, .int .i64 ((i93 : Nat) : Int))]) (fun z257 wx257 => St w wx257 [] ∧ Tr wx93 [] wx257 []) (fun z257 => z257) z92 ho262 ⟨rfl, rfl, rfl, rfl, rfl, trivial⟩ ⟨hS94, Tr.refl _ _⟩ ?_
    rintro J265 z257 wx257 hJ266 ⟨hS258, hT259⟩ h
    unfold slices_partialInsertionSortOrdered_int_l1 at h
    try dsimp only at h
    refine MX.seq ?_
    refine MX.seq ?_
    refine MX.drawT 16 tb70_5 (by kernel_rfl) (by kernel_rfl) (by kernel_rfl) (fun kt267 kp268 => ?_)
    refine RD.vP 0 1 kt267 rfl kp268 .plain (fun _ => FV.move rfl) rfl ?_
    refine RD.vP 1 3 kt267 rfl kp268 .plain (fun _ => FV.move rfl) rfl ?_
    refine RD.vP 2 7 kt267 rfl kp268 .plain (fun _ => FV.lss (i := z257) (j := a2) rfl rfl) rfl ?_
    refine RD.vP 3 15 kt267 rfl kp268 .plain (fun _ => FV.move rfl) rfl ?_
    refine RD.ifd (s := 20) rfl h (fun c269 h => ?_) (fun c269 h => ?_)
    ·skip
     refine RD.vP 4 31 kt267 rfl kp268 (.yes rfl rfl) (fun _ => FV.move rfl) rfl ?_
     refine RD.vP 5 63 kt267 rfl kp268 (.yes rfl rfl) (fun _ => FV.move rfl) rfl ?_
     obtain ⟨x270, hx270, h⟩ := bind_in h
     obtain ⟨hi271, hx272⟩ := idx_in hx270
     have hm280 := Rep.mv h0_0 (Tr.trans hT95 hT259)
     obtain ⟨A273, c274, he275, hk276, cs277, hr278, hm279⟩ := Rep.nth hm280 hx272
     have he281 : cs277 = [.int .i64 x270] := hr278; subst he281
     refine RD.vP 6 127 kt267 rfl kp268 (.yes rfl rfl) (fun _ => FV.idxAddr (m := 1) (i := z257.toNat) (by kernel_rfl) rfl he275 rfl hi271 hk276) rfl ?_
     refine RD.val (i := 7) (m' := 255) (W := 57344) (takeC_ok kt267 (by kernel_rfl)) rfl kp268 (.yes rfl rfl) (FV.load1 (by kernel_rfl) rfl (hm279 0 _ rfl)) rfl ?_
     refine RD.vP 8 511 kt267 rfl kp268 (.yes rfl rfl) (fun _ => FV.move rfl) rfl ?_
     refine RD.vP 9 1023 kt267 rfl kp268 (.yes rfl rfl) (fun _ => FV.move rfl) rfl ?_
     obtain ⟨s282, hs282, h⟩ := bind_in h
     refine RD.vP 10 2047 kt267 rfl kp268 (.yes rfl rfl) (fun _ => FV.subc (i := z257) (j := 1) rfl rfl hs282) rfl ?_
     obtain ⟨x283, hx283, h⟩ := bind_in h
     obtain ⟨hi284, hx285⟩ := idx_in hx283
     obtain ⟨A286, c287, he288, hk289, cs290, hr291, hm292⟩ := Rep.nth hm280 hx285
     have he293 : cs290 = [.int .i64 x283] := hr291; subst he293
     refine RD.vP 11 4095 kt267 rfl kp268 (.yes rfl rfl) (fun _ => FV.idxAddr (m := 1) (i := s282.toNat) (by kernel_rfl) rfl he288 rfl hi284 hk289) rfl ?_
     refine RD.val (i := 12) (m' := 8191) (W := 57344) (takeC_ok kt267 (by kernel_rfl)) rfl kp268 (.yes rfl rfl) (FV.load1 (by kernel_rfl) rfl (hm292 0 _ rfl)) rfl ?_
     obtain ⟨y294, hy294, h⟩ := bind_in h
     refine RD.callq (i := 13) (m' := 16383) (W := 49152) (takeC_ok kt267 (by kernel_rfl)) rfl kp268 (v := .bool y294) (fst := []) (cap := []) (.yes rfl rfl) body71 rfl (evs_cons rfl (evs_cons rfl evs_nil)) (fun w9 hw9 => cmp_Less_int_c n _ w9 (hS258.hL0 hL hw9) x270 x283 hy294) rfl ?_
     refine RD.vP 14 32767 kt267 rfl kp268 (.yes rfl rfl) (fun _ => FV.not rfl) rfl ?_
     refine RD.vP 15 65535 kt267 rfl kp268 .plain (fun _ => FV.pick_t rfl rfl) rfl ?_
     refine RD.done (doneD_ok kt267 (by kernel_rfl)) ?_
     refine MX.ifnb rfl h (fun c295 h => ?_) (fun c295 h => ?_)
     ·skip
      refine MX.exit rfl ?_
      have h := hh264 _ h
      try dsimp only at h
      exact hJ217 z257 _ _ ⟨rfl, rfl, rfl, rfl, rfl, trivial⟩ ⟨hS258, hT259⟩ h
     ·skip
      refine MX.skip ?_
      refine MX.block ?_
      refine MX.region ?_
      refine RG.val' .plain (FV.move rfl) rfl ?_
      obtain ⟨s296, hs296, h⟩ := bind_in h
      refine RG.val' .plain (FV.addc (i := z257) (j := 1) rfl rfl hs296) rfl ?_
      refine RG.val' .plain (FV.assign rfl) rfl ?_
      refine RG.nil ?_
      refine MX.inBlock ?_
      exact hJ266 s296 _ _ ⟨rfl, rfl, rfl, rfl, rfl, trivial⟩ ⟨hS258, hT259⟩ h
    ·skip
     refine RD.offs 32767 1 [(4, 21), (5, 22), (6, 23), (7, 24), (8, 25), (9, 26), (10, 27), (11, 28), (12, 29), (13, 30), (14, 31)] (F := [(20, false)]) (U := []) kt267 kp268 (.cons rfl .nil) .nil ?_
     dsimp only [offS, List.map]
     refine RD.vP 15 65535 kt267 rfl kp268 .plain (fun _ => FV.pick_f rfl rfl) rfl ?_
     refine RD.done (doneD_ok kt267 (by kernel_rfl)) ?_
     refine MX.cond_f rfl ?_
     refine MX.exit rfl ?_
     have h := hh264 _ h
     try dsimp only at h
     exact hJ217 z257 _ _ ⟨rfl, rfl, rfl, rfl, rfl, trivial⟩ ⟨hS258, hT259⟩ h
  ·skip
   refine MX.exit rfl ?_
   have h := thn_inr h hh100
   try dsimp only at h
   refine MX.seq ?_
   refine MX.region ?_
   refine RG.val' .plain (FV.assign rfl) rfl ?_
   refine RG.nil ?_
   refine MX.ret rfl ?_
   refine RT.leave (u := .bool false) hb0 Tryd.func70 rfl (.cons (.tmp rfl) .nil) rfl ?_
   obtain rfl := Option.some.inj h
   exact ⟨hS94.ag, fun w9 hw9 => rfl⟩
theorem body35 : bodyB Tryd.prog 35 = true := by kernel_rfl
theorem body65 : bodyB Tryd.prog 65 = true := by kernel_rfl
def cmp_Compare_int_p (n : Nat) (a0 : Int) (a1 : Int) : Option Int :=
  (cmp_isNaN_int_p n a0).bind fun y1 => (cmp_isNaN_int_p n a1).bind fun y2 => (if y1 = true then (if y2 = true then some 0 else some (-1)) else (if y2 = true then some 1 else (if a0 < a1 then some (-1) else (if a1 < a0 then some 1 else some 0))))
set_option maxRecDepth 4000 in
set_option maxHeartbeats 4000000 in
theorem cmp_Compare_int_c (n : Nat) (L : List Nat) (w : World) (hL : ∀ b ∈ L, b < w.heap.size) (a0 : Int) (a1 : Int)  {r : Int} (h : cmp_Compare_int_p n a0 a1 = some r) :
    Calls Tryd.prog 84 #[.int .i64 a0, .int .i64 a1] w (Gives w fun _ u => u = .int .i64 r) := by
  unfold cmp_Compare_int_p at h
  have hS0 := St.start w
  refine MX.start Tryd.func84 rfl rfl rfl (fun _ cs0 hb0 => ?_)
  refine MX.seq ?_
  refine MX.region ?_
  refine RG.val' .plain (FV.assign rfl) rfl ?_
  refine RG.nil ?_
  refine MX.seq ?_
  refine MX.region ?_
  refine RG.val' .plain (FV.move rfl) rfl ?_
  obtain ⟨y1, hy1, h⟩ := bind_in h
  refine RG.callq' (v := .bool y1) (fst := []) (cap := []) .plain body92 rfl (evs_cons rfl evs_nil) (fun w9 hw9 => cmp_isNaN_int_c n _ w9 (hS0.hL0 hL hw9) a0 hy1) rfl ?_
  refine RG.val' .plain (FV.assign rfl) rfl ?_
  refine RG.nil ?_
  refine MX.seq ?_
  refine MX.region ?_
  refine RG.val' .plain (FV.move rfl) rfl ?_
  obtain ⟨y2, hy2, h⟩ := bind_in h
  refine RG.callq' (v := .bool y2) (fst := []) (cap := []) .plain body92 rfl (evs_cons rfl evs_nil) (fun w9 hw9 => cmp_isNaN_int_c n _ w9 (hS0.hL0 hL hw9) a1 hy2) rfl ?_
  refine RG.val' .plain (FV.assign rfl) rfl ?_
  refine RG.nil ?_
  refine MX.seq ?_
  refine MX.seq ?_
  refine MX.region ?_
  refine RG.val' .plain (FV.move rfl) rfl ?_
  refine RG.nil ?_
  refine MX.ifb rfl h (fun c3 h => ?_) (fun c3 h => ?_)
  ·skip
   refine MX.seq ?_
   refine MX.seq ?_
   refine MX.region ?_
   refine RG.val' .plain (FV.move rfl) rfl ?_
   refine RG.nil ?_
   refine MX.ifb rfl h (fun c4 h => ?_) (fun c4 h => ?_)
   ·skip
    refine MX.seq ?_
    refine MX.region ?_
    refine RG.val' .plain (FV.assign rfl) rfl ?_
    refine RG.nil ?_
    refine MX.ret rfl ?_
    refine RT.leave (u := .int .i64 0) hb0 Tryd.func84 rfl (.cons (.tmp rfl) .nil) rfl ?_
    obtain rfl := Option.some.inj h
    exact ⟨hS0.ag, fun w9 hw9 => rfl⟩
   ·skip
    refine MX.skip ?_
    refine MX.seq ?_
    refine MX.region ?_
    refine RG.val' .plain (FV.assign rfl) rfl ?_
    refine RG.nil ?_
    refine MX.ret rfl ?_
    refine RT.leave (u := .int .i64 (-1)) hb0 Tryd.func84 rfl (.cons (.tmp rfl) .nil) rfl ?_
    obtain rfl := Option.some.inj h
    exact ⟨hS0.ag, fun w9 hw9 => rfl⟩
  ·skip
   refine MX.skip ?_
   refine MX.seq ?_
   refine MX.seq ?_
   refine MX.region ?_
   refine RG.val' .plain (FV.move rfl) rfl ?_
   refine RG.nil ?_
   refine MX.ifb rfl h (fun c5 h => ?_) (fun c5 h => ?_)
   ·skip
    refine MX.seq ?_
    refine MX.region ?_
    refine RG.val' .plain (FV.assign rfl) rfl ?_
    refine RG.nil ?_
    refine MX.ret rfl ?_
    refine RT.leave (u := .int .i64 1) hb0 Tryd.func84 rfl (.cons (.tmp rfl) .nil) rfl ?_
    obtain rfl := Option.some.inj h
    exact ⟨hS0.ag, fun w9 hw9 => rfl⟩
   ·skip
    refine MX.skip ?_
    refine MX.seq ?_
    refine MX.seq ?_
    refine MX.region ?_
    refine RG.val' .plain (FV.move rfl) rfl ?_
    refine RG.val' .plain (FV.move rfl) rfl ?_
    refine RG.val' .plain (FV.lss (i := a0) (j := a1) rfl rfl) rfl ?_
    refine RG.nil ?_
    refine MX.ifd rfl h (fun c6 h => ?_) (fun c6 h => ?_)
    ·skip
     refine MX.seq ?_
     refine MX.region ?_
     refine RG.val' .plain (FV.assign rfl) rfl ?_
     refine RG.nil ?_
     refine MX.ret rfl ?_
     refine RT.leave (u := .int .i64 (-1)) hb0 Tryd.func84 rfl (.cons (.tmp rfl) .nil) rfl ?_
     obtain rfl := Option.some.inj h
     exact ⟨hS0.ag, fun w9 hw9 => rfl⟩
    ·skip
     refine MX.skip ?_
     refine MX.seq ?_
     refine MX.seq ?_
     refine MX.region ?_
     refine RG.val' .plain (FV.move rfl) rfl ?_
     refine RG.val' .plain (FV.move rfl) rfl ?_
     refine RG.val' .plain (FV.gtr (i := a0) (j := a1) rfl rfl) rfl ?_
     refine RG.nil ?_
     refine MX.ifd rfl h (fun c7 h => ?_) (fun c7 h => ?_)
     ·skip
      refine MX.seq ?_
      refine MX.region ?_
      refine RG.val' .plain (FV.assign rfl) rfl ?_
      refine RG.nil ?_
      refine MX.ret rfl ?_
      refine RT.leave (u := .int .i64 1) hb0 Tryd.func84 rfl (.cons (.tmp rfl) .nil) rfl ?_
      obtain rfl := Option.some.inj h
      exact ⟨hS0.ag, fun w9 hw9 => rfl⟩
     ·skip
      refine MX.skip ?_
      refine MX.seq ?_
      refine MX.region ?_
      refine RG.val' .plain (FV.assign rfl) rfl ?_
      refine RG.nil ?_
      refine MX.ret rfl ?_
      refine RT.leave (u := .int .i64 0) hb0 Tryd.func84 rfl (.cons (.tmp rfl) .nil) rfl ?_
      obtain rfl := Option.some.inj h
      exact ⟨hS0.ag, fun w9 hw9 => rfl⟩
theorem body84 : bodyB Tryd.prog 84 = true := by kernel_rfl
def slices_Compare_int_int_l1 (n : Nat) (a0 : List Int) (a1 : List Int) (J39 : Nat → Option (Int ⊕ Unit)) : Nat → Option (Int ⊕ Unit)
  | i31 => (if i31 < a0.length then (a0[i31]?).bind fun x42 => (if a1.length ≤ i31 then some (.inl 1) else (a1[i31]?).bind fun x55 => (cmp_Compare_int_p n x42 x55).bind fun y64 => (if y64 = 0 then J39 (i31 + 1) else some (.inl y64))) else some (.inr ()))
def slices_Compare_int_int_p (n : Nat) (a0 : List Int) (a1 : List Int) : Option Int :=
  thn (loopF (slices_Compare_int_int_l1 n a0 a1) n 0) (fun _ => (if a0.length < a1.length then some (-1) else some 0))
set_option maxRecDepth 4000 in
set_option maxHeartbeats 4000000 in
theorem slices_Compare_int_int_c (n : Nat) (L : List Nat) (w : World) (hL : ∀ b ∈ L, b < w.heap.size) (a0 : List Int) {v0_0 : Value} (h0_0 : Rep.R w L [v0_0] a0) (a1 : List Int) {v1_0 : Value} (h1_0 : Rep.R w L [v1_0] a1)  {r : Int} (h : slices_Compare_int_int_p n a0 a1 = some r) :
    Calls Tryd.prog 59 #[v0_0, v1_0] w (Gives w fun _ u => u = .int .i64 r) := by
  unfold slices_Compare_int_int_p at h
  have hS0 := St.start w
  refine MX.start Tryd.func59 rfl rfl rfl (fun _ cs0 hb0 => ?_)
  refine MX.seq ?_
  refine MX.region ?_
  refine RG.val' .plain (FV.assign rfl) rfl ?_
  refine RG.nil ?_
  refine MX.seq ?_
  refine MX.seq ?_
  refine MX.region ?_
  refine RG.val' .plain (FV.move rfl) rfl ?_
  have hl1 : a0.length ≤ 281474976710656 := Rep.lenle h0_0
  refine RG.val' .plain (FV.len (xs := a0) Tryd.underlying22 rfl h0_0) rfl ?_
  refine RG.val' .plain (FV.move rfl) rfl ?_
  refine RG.nil ?_
  refine MX.block ?_
  obtain ⟨o37, ho36, hh38⟩ := thn_in h
  refine MX.loop (α := Nat) (fun i31 => [(0, v0_0), (1, v1_0), (9, v0_0), (10, .int .i64 ((a0.length : Nat) : Int)), (11, .int .i64 ((i31 : Nat) : Int))]) (fun i31 wx31 => St w wx31 [] ∧ Tr w [] wx31 []) (fun i31 => i31) 0 ho36 ⟨rfl, rfl, rfl, rfl, rfl, trivial⟩ ⟨hS0, Tr.refl _ _⟩ ?_
  rintro J39 i31 wx31 hJ40 ⟨hS32, hT33⟩ h
  unfold slices_Compare_int_int_l1 at h
  try dsimp only at h
  refine MX.seq ?_
  refine MX.region ?_
  refine RG.val' .plain (FV.lssN (i := i31) (j := a0.length) rfl rfl) rfl ?_
  refine RG.nil ?_
  refine MX.seq ?_
  refine MX.ifd rfl h (fun c41 h => ?_) (fun c41 h => ?_)
  ·skip
   refine MX.skip ?_
   refine MX.seq ?_
   refine MX.block ?_
   refine MX.seq ?_
   refine MX.region ?_
   refine RG.val' .plain (FV.move rfl) rfl ?_
   obtain ⟨x42, hx42, h⟩ := bind_in h
   have hm50 := Rep.mv h0_0 hT33
   obtain ⟨A43, c44, he45, hk46, cs47, hr48, hm49⟩ := Rep.nth hm50 hx42
   have he51 : cs47 = [.int .i64 x42] := hr48; subst he51
   refine RG.val' .plain (FV.idxAddr (m := 1) (i := i31) (by kernel_rfl) rfl he45 rfl rfl hk46) rfl ?_
   refine RG.val' .plain (FV.load1 (by kernel_rfl) rfl (hm49 0 _ rfl)) rfl ?_
   refine RG.val' .plain (FV.assign rfl) rfl ?_
   refine RG.val' .plain (FV.assign rfl) rfl ?_
   refine RG.nil ?_
   refine MX.seq ?_
   refine MX.seq ?_
   refine MX.region ?_
   refine RG.val' .plain (FV.move rfl) rfl ?_
   refine RG.val' .plain (FV.move rfl) rfl ?_
   have hm53 := Rep.mv h1_0 hT33
   have hl52 : a1.length ≤ 281474976710656 := Rep.lenle hm53
   refine RG.val' .plain (FV.len (xs := a1) Tryd.underlying22 rfl hm53) rfl ?_
   refine RG.val' .plain (FV.geqN (i := i31) (j := a1.length) rfl rfl) rfl ?_
   refine RG.nil ?_
   refine MX.ifd rfl h (fun c54 h => ?_) (fun c54 h => ?_)
   ·skip
    refine MX.seq ?_
    refine MX.region ?_
    refine RG.val' .plain (FV.assign rfl) rfl ?_
    refine RG.nil ?_
    have h := thn_inl h hh38
    refine MX.ret rfl ?_
    refine RT.leave (u := .int .i64 1) hb0 Tryd.func59 rfl (.cons (.tmp rfl) .nil) rfl ?_
    obtain rfl := Option.some.inj h
    exact ⟨hS32.ag, fun w9 hw9 => rfl⟩
   ·skip
    refine MX.skip ?_
    refine MX.seq ?_
    refine MX.region ?_
    refine RG.val' .plain (FV.move rfl) rfl ?_
    refine RG.val' .plain (FV.move rfl) rfl ?_
    obtain ⟨x55, hx55, h⟩ := bind_in h
    obtain ⟨A56, c57, he58, hk59, cs60, hr61, hm62⟩ := Rep.nth hm53 hx55
    have he63 : cs60 = [.int .i64 x55] := hr61; subst he63
    refine RG.val' .plain (FV.idxAddr (m := 1) (i := i31) (by kernel_rfl) rfl he58 rfl rfl hk59) rfl ?_
    refine RG.val' .plain (FV.load1 (by kernel_rfl) rfl (hm62 0 _ rfl)) rfl ?_
    refine RG.val' .plain (FV.assign rfl) rfl ?_
    refine RG.nil ?_
    refine MX.seq ?_
    refine MX.region ?_
    refine RG.val' .plain (FV.move rfl) rfl ?_
    refine RG.val' .plain (FV.move rfl) rfl ?_
    obtain ⟨y64, hy64, h⟩ := bind_in h
    refine RG.callq' (v := .int .i64 y64) (fst := []) (cap := []) .plain body84 rfl (evs_cons rfl (evs_cons rfl evs_nil)) (fun w9 hw9 => cmp_Compare_int_c n _ w9 (hS32.hL0 hL hw9) x42 x55 hy64) rfl ?_
    refine RG.val' .plain (FV.assign rfl) rfl ?_
    refine RG.nil ?_
    refine MX.seq ?_
    refine MX.region ?_
    refine RG.val' .plain (FV.move rfl) rfl ?_
    refine RG.val' .plain (FV.neq (i := y64) (j := 0) rfl rfl) rfl ?_
    refine RG.nil ?_
    refine MX.ifn rfl h (fun c65 h => ?_) (fun c65 h => ?_)
    ·skip
     refine MX.skip ?_
     refine MX.inBlock ?_
     refine MX.region ?_
     refine RG.val' .plain (FV.addN (i := i31) (j := 1) rfl rfl (by omega)) rfl ?_
     refine RG.val' .plain (FV.move rfl) rfl ?_
     refine RG.nil ?_
     exact hJ40 (i31 + 1) _ _ ⟨rfl, rfl, rfl, rfl, rfl, trivial⟩ ⟨hS32, hT33⟩ h
    ·skip
     refine MX.seq ?_
     refine MX.region ?_
     refine RG.val' .plain (FV.move rfl) rfl ?_
     refine RG.val' .plain (FV.assign rfl) rfl ?_
     refine RG.nil ?_
     have h := thn_inl h hh38
     refine MX.ret rfl ?_
     refine RT.leave (u := .int .i64 y64) hb0 Tryd.func59 rfl (.cons (.tmp rfl) .nil) rfl ?_
     obtain rfl := Option.some.inj h
     exact ⟨hS32.ag, fun w9 hw9 => rfl⟩
  ·skip
   refine MX.exit rfl ?_
   have h := thn_inr h hh38
   try dsimp only at h
   refine MX.seq ?_
   refine MX.seq ?_
   refine MX.region ?_
   refine RG.val' .plain (FV.move rfl) rfl ?_
   have hm66 := Rep.mv h0_0 hT33
   refine RG.val' .plain (FV.len (xs := a0) Tryd.underlying22 rfl hm66) rfl ?_
   refine RG.val' .plain (FV.move rfl) rfl ?_
   have hm68 := Rep.mv h1_0 hT33
   have hl67 : a1.length ≤ 281474976710656 := Rep.lenle hm68
   refine RG.val' .plain (FV.len (xs := a1) Tryd.underlying22 rfl hm68) rfl ?_
   refine RG.val' .plain (FV.lssN (i := a0.length) (j := a1.length) rfl rfl) rfl ?_
   refine RG.nil ?_
   refine MX.ifd rfl h (fun c69 h => ?_) (fun c69 h => ?_)
   ·skip
    refine MX.seq ?_
    refine MX.region ?_
    refine RG.val' .plain (FV.assign rfl) rfl ?_
    refine RG.nil ?_
    refine MX.ret rfl ?_
    refine RT.leave (u := .int .i64 (-1)) hb0 Tryd.func59 rfl (.cons (.tmp rfl) .nil) rfl ?_
    obtain rfl := Option.some.inj h
    exact ⟨hS32.ag, fun w9 hw9 => rfl⟩
   ·skip
    refine MX.skip ?_
    refine MX.seq ?_
    refine MX.region ?_
    refine RG.val' .plain (FV.assign rfl) rfl ?_
    refine RG.nil ?_
    refine MX.ret rfl ?_
    refine RT.leave (u := .int .i64 0) hb0 Tryd.func59 rfl (.cons (.tmp rfl) .nil) rfl ?_
    obtain rfl := Option.some.inj h
    exact ⟨hS32.ag, fun w9 hw9 => rfl⟩
structure TGraph where
  fN : Int
  fEdges : List (Int × Int)
  deriving DecidableEq
instance : Rep TGraph := Rep.via (β := Int × (List (Int × Int))) fun x => (x.fN, x.fEdges)
def tb32_7 : List (Nat × Nat × Nat) := [(0, 268435456, 32), (1, 536870912, 268435456), (2, 1073741824, 536870912), (4, 2147483648, 1073741824), (8, 4294967296, 2147483680), (24, 8589934592, 6442450944), (8, 17179869184, 2147483680), (72, 34359738368, 19327352832), (168, 68719476736, 45097156608), (264, 137438953472, 70866960384), (520, 274877906944, 137438953472), (1024, 549755813888, 274877906976), (3072, 1099511627776, 824633720832), (1024, 2199023255552, 274877906946), (9216, 4398046511104, 2473901162496), (21504, 8796093022208, 5772436045824), (33792, 17592186044416, 9070970929152), (66560, 35184372088832, 17592186044416), (131072, 70368744177664, 35184372088840), (131072, 140737488355328, 35184372088864), (917504, 281474976710656, 246290604621824), (1179648, 562949953421312, 316659348799488), (2228224, 1125899906842624, 598134325510144)]
theorem body59 : bodyB Tryd.prog 59 = true := by kernel_rfl
def graph_Check_l1 (n : Nat) (a0 : TGraph) (J100 : Nat × Int × Int → Option (Int ⊕ Unit)) : Nat × Int × Int → Option (Int ⊕ Unit)
  | (i90, z91, z92) => (if i90 < a0.fEdges.length then (a0.fEdges[i90]?).bind fun x103 => (if x103.1 < 0 then some (.inl 180) else (if x103.2 ≤ x103.1 then some (.inl 180) else (if a0.fN ≤ x103.2 then some (.inl 180) else (slices_Compare_int_int_p n ([z91, z92] : List Int) ([x103.1, x103.2] : List Int)).bind fun y125 => (if 0 ≤ y125 then some (.inl 180) else J100 (i90 + 1, x103.1, x103.2))))) else some (.inr ()))
def graph_Check_p (n : Nat) (a0 : TGraph) : Option Int :=
  (if a0.fN < 1 then some 180 else (if 64 < a0.fN then some 180 else (if 200 < a0.fEdges.length then some 180 else thn (loopF (graph_Check_l1 n a0) n (0, (-1), (-1))) (fun _ => some 0))))
set_option maxRecDepth 4000 in
set_option maxHeartbeats 4000000 in
theorem graph_Check_c (n : Nat) (L : List Nat) (w : World) (hL : ∀ b ∈ L, b < w.heap.size) (a0 : TGraph) {v0_1 : Value} (h0_1 : Rep.R w L [v0_1] a0.fEdges)  {r : Int} (h : graph_Check_p n a0 = some r) :
    Calls Tryd.prog 32 #[.agg #[.int .i64 a0.fN, v0_1]] w (Gives w fun _ u => u = .int .i64 r) := by
  unfold graph_Check_p at h
  have hS0 := St.start w
  refine MX.start Tryd.func32 rfl rfl rfl (fun _ cs0 hb0 => ?_)
  refine MX.seq ?_
  refine MX.region ?_
  refine RG.new .plain rfl (Does.box (vs := [.int .i64 a0.fN, v0_1]) hS0 rfl rfl) (fun w2 b5 hS3 hT4 => ?_)
  refine RG.val' .plain (FV.assign rfl) rfl ?_
  refine RG.nil ?_
  refine MX.seq ?_
  refine MX.seq ?_
  refine MX.region ?_
  refine RG.val' .plain (FV.fieldAddr (off := 0) (by kernel_rfl) rfl) rfl ?_
  refine RG.val' .plain (FV.load1 (by kernel_rfl) rfl ((hS3.memA .hd) 0 _ rfl)) rfl ?_
  refine RG.val' .plain (FV.lss (i := a0.fN) (j := 1) rfl rfl) rfl ?_
  refine RG.val' .plain (FV.move rfl) rfl ?_
  refine RG.ifd (s := 9) rfl h (fun c6 h => ?_) (fun c6 h => ?_)
  ·skip
   refine RG.off (.no rfl rfl) rfl ?_
   refine RG.off (.no rfl rfl) rfl ?_
   refine RG.off (.no rfl rfl) rfl ?_
   refine RG.val' .plain (FV.pick_t rfl rfl) rfl ?_
   refine RG.val' .plain (FV.move rfl) rfl ?_
   refine RG.off (.no rfl rfl) rfl ?_
   refine RG.off (.no rfl rfl) rfl ?_
   refine RG.off (.no rfl rfl) rfl ?_
   refine RG.off (.no rfl rfl) rfl ?_
   refine RG.val' .plain (FV.pick_t rfl rfl) rfl ?_
   refine RG.nil ?_
   refine MX.cond_t rfl ?_
   refine MX.seq ?_
   refine MX.region ?_
   refine RG.val' .plain (FV.assign rfl) rfl ?_
   refine RG.nil ?_
   refine MX.ret rfl ?_
   refine RT.leave (u := .int .i64 180) hb0 Tryd.func32 rfl (.cons (.tmp rfl) .nil) rfl ?_
   obtain rfl := Option.some.inj h
   exact ⟨hS3.ag, fun w9 hw9 => rfl⟩
  ·skip
   refine RG.val' (.yes rfl rfl) (FV.fieldAddr (off := 0) (by kernel_rfl) rfl) rfl ?_
   refine RG.val' (.yes rfl rfl) (FV.load1 (by kernel_rfl) rfl ((hS3.memA .hd) 0 _ rfl)) rfl ?_
   refine RG.val' (.yes rfl rfl) (FV.gtr (i := a0.fN) (j := 64) rfl rfl) rfl ?_
   refine RG.val' .plain (FV.pick_f rfl rfl) rfl ?_
   refine RG.val' .plain (FV.move rfl) rfl ?_
   refine RG.ifd (s := 14) rfl h (fun c7 h => ?_) (fun c7 h => ?_)
   ·skip
    refine RG.off (.no rfl rfl) rfl ?_
    refine RG.off (.no rfl rfl) rfl ?_
    refine RG.off (.no rfl rfl) rfl ?_
    refine RG.off (.no rfl rfl) rfl ?_
    refine RG.val' .plain (FV.pick_t rfl rfl) rfl ?_
    refine RG.nil ?_
    refine MX.cond_t rfl ?_
    refine MX.seq ?_
    refine MX.region ?_
    refine RG.val' .plain (FV.assign rfl) rfl ?_
    refine RG.nil ?_
    refine MX.ret rfl ?_
    refine RT.leave (u := .int .i64 180) hb0 Tryd.func32 rfl (.cons (.tmp rfl) .nil) rfl ?_
    obtain rfl := Option.some.inj h
    exact ⟨hS3.ag, fun w9 hw9 => rfl⟩
   ·skip
    refine RG.val' (.yes rfl rfl) (FV.fieldAddr (off := 1) (by kernel_rfl) rfl) rfl ?_
    refine RG.val' (.yes rfl rfl) (FV.load1 (by kernel_rfl) rfl ((hS3.memA .hd) 1 _ rfl)) rfl ?_
    have hm9 := Rep.mv h0_1 hT4
    have hl8 : a0.fEdges.length ≤ 281474976710656 := Rep.lenle hm9
    refine RG.val' (.yes rfl rfl) (FV.len (xs := a0.fEdges) Tryd.underlying38 rfl hm9) rfl ?_
    refine RG.val' (.yes rfl rfl) (FV.gtrN (i := a0.fEdges.length) (j := 200) rfl rfl) rfl ?_
    refine RG.val' .plain (FV.pick_f rfl rfl) rfl ?_
    refine RG.nil ?_
    refine MX.ifd rfl h (fun c10 h => ?_) (fun c10 h => ?_)
    ·skip
     refine MX.seq ?_
     refine MX.region ?_
     refine RG.val' .plain (FV.assign rfl) rfl ?_
     refine RG.nil ?_
     refine MX.ret rfl ?_
     refine RT.leave (u := .int .i64 180) hb0 Tryd.func32 rfl (.cons (.tmp rfl) .nil) rfl ?_
     obtain rfl := Option.some.inj h
     exact ⟨hS3.ag, fun w9 hw9 => rfl⟩
    ·skip
     refine MX.skip ?_
     refine MX.seq ?_
     refine MX.region ?_
     refine RG.val' .plain (FV.buildV (vs := [.int .i64 (-1), .int .i64 (-1)]) (u := .agg #[.int .i64 (-1), .int .i64 (-1)]) (evs_cons rfl (evs_cons rfl evs_nil)) (fun w9 => by kernel_rfl)) rfl ?_
     refine RG.new .plain rfl (Does.alloc (zs := [.int .i64 0, .int .i64 0]) hS3 (zB (by kernel_rfl))) (fun w12 b15 hS13 hT14 => ?_)
     refine RG.now .plain (Acts.store (j := 0) (old := [.int .i64 0, .int .i64 0]) (news := [.int .i64 (-1), .int .i64 (-1)]) (new' := [.int .i64 (-1), .int .i64 (-1)]) hS13 .hd rfl rfl rfl rfl rfl rfl (ones_cons rfl (ones_cons rfl ones_nil)) rfl) (fun w16 hS17 hT18 => ?_)
     refine RG.nil ?_
     refine MX.seq ?_
     refine MX.seq ?_
     refine MX.region ?_
     refine RG.val' .plain (FV.fieldAddr (off := 1) (by kernel_rfl) rfl) rfl ?_
     refine RG.val' .plain (FV.load1 (by kernel_rfl) rfl ((hS17.memA (.tl .hd)) 1 _ rfl)) rfl ?_
     have hm19 := Rep.mv h0_1 (Tr.trans hT4 (Tr.trans hT14 hT18))
     refine RG.val' .plain (FV.len (xs := a0.fEdges) Tryd.underlying38 rfl hm19) rfl ?_
     refine RG.val' .plain (FV.move rfl) rfl ?_
     refine RG.nil ?_
     refine MX.block ?_
     obtain ⟨o98, ho97, hh99⟩ := thn_in h
     refine MX.loop (α := Nat × Int × Int) (fun ⟨i90, z91, z92⟩ => [(1, .pointer (some ⟨b5, 0, none⟩)), (3, .pointer (some ⟨b15, 0, none⟩)), (22, v0_1), (23, .int .i64 ((a0.fEdges.length : Nat) : Int)), (24, .int .i64 ((i90 : Nat) : Int))]) (fun ⟨i90, z91, z92⟩ wx92 => St w wx92 [.cells b15 [.int .i64 z91, .int .i64 z92] 46, .cells b5 [.int .i64 a0.fN, v0_1] 40] ∧ Tr w16 [.cells b15 [.int .i64 (-1), .int .i64 (-1)] 46, .cells b5 [.int .i64 a0.fN, v0_1] 40] wx92 [.cells b15 [.int .i64 z91, .int .i64 z92] 46, .cells b5 [.int .i64 a0.fN, v0_1] 40]) (fun ⟨i90, z91, z92⟩ => (i90, z91, z92)) (0, (-1), (-1)) ho97 ⟨rfl, rfl, rfl, rfl, rfl, trivial⟩ ⟨hS17, Tr.refl _ _⟩ ?_
     rintro J100 ⟨i90, z91, z92⟩ wx92 hJ101 ⟨hS93, hT94⟩ h
     unfold graph_Check_l1 at h
     try dsimp only at h
     refine MX.seq ?_
     refine MX.region ?_
     refine RG.val' .plain (FV.lssN (i := i90) (j := a0.fEdges.length) rfl rfl) rfl ?_
     refine RG.nil ?_
     refine MX.seq ?_
     refine MX.ifd rfl h (fun c102 h => ?_) (fun c102 h => ?_)
     ·skip
      refine MX.skip ?_
      refine MX.seq ?_
      refine MX.block ?_
      refine MX.seq ?_
      refine MX.region ?_
      obtain ⟨x103, hx103, h⟩ := bind_in h
      have hm111 := Rep.mv h0_1 (Tr.trans hT4 (Tr.trans hT14 (Tr.trans hT18 hT94)))
      obtain ⟨A104, c105, he106, hk107, cs108, hr109, hm110⟩ := Rep.nth hm111 hx103
      obtain rfl := op_A46 hr109
      refine RG.val' .plain (FV.idxAddr (m := 2) (i := i90) (by kernel_rfl) rfl he106 rfl rfl hk107) rfl ?_
      refine RG.val' .plain (FV.loadN (cs := [.int .i64 x103.1, .int .i64 x103.2]) (by kernel_rfl) rfl hm110) rfl ?_
      refine RG.new .plain rfl (Does.alloc (zs := [.int .i64 0, .int .i64 0]) hS93 (zB (by kernel_rfl))) (fun w113 b116 hS114 hT115 => ?_)
      refine RG.now .plain (Acts.store (j := 0) (old := [.int .i64 0, .int .i64 0]) (news := [.int .i64 x103.1, .int .i64 x103.2]) (new' := [.int .i64 x103.1, .int .i64 x103.2]) hS114 .hd rfl rfl rfl rfl rfl rfl (ones_cons rfl (ones_cons rfl ones_nil)) rfl) (fun w117 hS118 hT119 => ?_)
      refine RG.nil ?_
      refine MX.seq ?_
      refine MX.seq ?_
      refine MX.drawT 23 tb32_7 (by kernel_rfl) (by kernel_rfl) (by kernel_rfl) (fun kt120 kp121 => ?_)
      refine RD.vP 0 1 kt120 rfl kp121 .plain (fun _ => FV.indexArr (m := 1) (k := 0) (len := 2) (by kernel_rfl) rfl rfl rfl (by omega)) rfl ?_
      refine RD.val (i := 1) (m' := 3) (W := 8388604) (takeC_ok kt120 (by kernel_rfl)) rfl kp121 .plain (FV.load1 (by kernel_rfl) rfl ((hS118.memA .hd) 0 _ rfl)) rfl ?_
      refine RD.vP 2 7 kt120 rfl kp121 .plain (fun _ => FV.lss (i := x103.1) (j := 0) rfl rfl) rfl ?_
      refine RD.vP 3 15 kt120 rfl kp121 .plain (fun _ => FV.move rfl) rfl ?_
      refine RD.ifd (s := 31) rfl h (fun c122 h => ?_) (fun c122 h => ?_)
      ·skip
       refine RD.offs 511 14 [(4, 32), (5, 33), (6, 34), (7, 35), (8, 36)] (F := [(31, true)]) (U := []) kt120 kp121 (.cons rfl .nil) .nil ?_
       dsimp only [offS, List.map]
       refine RD.vP 9 1023 kt120 rfl kp121 .plain (fun _ => FV.pick_t rfl rfl) rfl ?_
       refine RD.vP 10 2047 kt120 rfl kp121 .plain (fun _ => FV.move rfl) rfl ?_
       refine RD.offs 65535 7 [(11, 39), (12, 40), (13, 41), (14, 42), (15, 43)] (F := [(38, true)]) (U := []) kt120 kp121 (.cons rfl .nil) .nil ?_
       dsimp only [offS, List.map]
       refine RD.vP 16 131071 kt120 rfl kp121 .plain (fun _ => FV.pick_t rfl rfl) rfl ?_
       refine RD.vP 17 262143 kt120 rfl kp121 .plain (fun _ => FV.move rfl) rfl ?_
       refine RD.offs 4194303 1 [(18, 46), (19, 47), (20, 48), (21, 49)] (F := [(45, true)]) (U := []) kt120 kp121 (.cons rfl .nil) .nil ?_
       dsimp only [offS, List.map]
       refine RD.vP 22 8388607 kt120 rfl kp121 .plain (fun _ => FV.pick_t rfl rfl) rfl ?_
       refine RD.done (doneD_ok kt120 (by kernel_rfl)) ?_
       refine MX.cond_t rfl ?_
       refine MX.seq ?_
       refine MX.region ?_
       refine RG.val' .plain (FV.assign rfl) rfl ?_
       refine RG.nil ?_
       have h := thn_inl h hh99
       refine MX.ret rfl ?_
       refine RT.leave (u := .int .i64 180) hb0 Tryd.func32 rfl (.cons (.tmp rfl) .nil) rfl ?_
       obtain rfl := Option.some.inj h
       exact ⟨hS118.ag, fun w9 hw9 => rfl⟩
      ·skip
       refine RD.vP 4 31 kt120 rfl kp121 (.yes rfl rfl) (fun _ => FV.indexArr (m := 1) (k := 0) (len := 2) (by kernel_rfl) rfl rfl rfl (by omega)) rfl ?_
       refine RD.val (i := 5) (m' := 63) (W := 8388352) (takeC_ok kt120 (by kernel_rfl)) rfl kp121 (.yes rfl rfl) (FV.load1 (by kernel_rfl) rfl ((hS118.memA .hd) 0 _ rfl)) rfl ?_
       refine RD.vP 6 127 kt120 rfl kp121 (.yes rfl rfl) (fun _ => FV.indexArr (m := 1) (k := 1) (len := 2) (by kernel_rfl) rfl rfl rfl (by omega)) rfl ?_
       refine RD.val (i := 7) (m' := 255) (W := 8388352) (takeC_ok kt120 (by kernel_rfl)) rfl kp121 (.yes rfl rfl) (FV.load1 (by kernel_rfl) rfl ((hS118.memA .hd) 1 _ rfl)) rfl ?_
       refine RD.vP 8 511 kt120 rfl kp121 (.yes rfl rfl) (fun _ => FV.geq (i := x103.1) (j := x103.2) rfl rfl) rfl ?_
       refine RD.vP 9 1023 kt120 rfl kp121 .plain (fun _ => FV.pick_f rfl rfl) rfl ?_
       refine RD.vP 10 2047 kt120 rfl kp121 .plain (fun _ => FV.move rfl) rfl ?_
       refine RD.ifd (s := 38) rfl h (fun c123 h => ?_) (fun c123 h => ?_)
       ·skip
        refine RD.offs 65535 7 [(11, 39), (12, 40), (13, 41), (14, 42), (15, 43)] (F := [(38, true)]) (U := []) kt120 kp121 (.cons rfl .nil) .nil ?_
        dsimp only [offS, List.map]
        refine RD.vP 16 131071 kt120 rfl kp121 .plain (fun _ => FV.pick_t rfl rfl) rfl ?_
        refine RD.vP 17 262143 kt120 rfl kp121 .plain (fun _ => FV.move rfl) rfl ?_
        refine RD.offs 4194303 1 [(18, 46), (19, 47), (20, 48), (21, 49)] (F := [(45, true)]) (U := []) kt120 kp121 (.cons rfl .nil) .nil ?_
        dsimp only [offS, List.map]
        refine RD.vP 22 8388607 kt120 rfl kp121 .plain (fun _ => FV.pick_t rfl rfl) rfl ?_
        refine RD.done (doneD_ok kt120 (by kernel_rfl)) ?_
        refine MX.cond_t rfl ?_
        refine MX.seq ?_
        refine MX.region ?_
        refine RG.val' .plain (FV.assign rfl) rfl ?_
        refine RG.nil ?_
        have h := thn_inl h hh99
        refine MX.ret rfl ?_
        refine RT.leave (u := .int .i64 180) hb0 Tryd.func32 rfl (.cons (.tmp rfl) .nil) rfl ?_
        obtain rfl := Option.some.inj h
        exact ⟨hS118.ag, fun w9 hw9 => rfl⟩
       ·skip
        refine RD.vP 11 4095 kt120 rfl kp121 (.yes rfl rfl) (fun _ => FV.indexArr (m := 1) (k := 1) (len := 2) (by kernel_rfl) rfl rfl rfl (by omega)) rfl ?_
        refine RD.val (i := 12) (m' := 8191) (W := 8355840) (takeC_ok kt120 (by kernel_rfl)) rfl kp121 (.yes rfl rfl) (FV.load1 (by kernel_rfl) rfl ((hS118.memA .hd) 1 _ rfl)) rfl ?_
        refine RD.vP 13 16383 kt120 rfl kp121 (.yes rfl rfl) (fun _ => FV.fieldAddr (off := 0) (by kernel_rfl) rfl) rfl ?_
        refine RD.val (i := 14) (m' := 32767) (W := 8355840) (takeC_ok kt120 (by kernel_rfl)) rfl kp121 (.yes rfl rfl) (FV.load1 (by kernel_rfl) rfl ((hS118.memA (.tl (.tl .hd))) 0 _ rfl)) rfl ?_
        refine RD.vP 15 65535 kt120 rfl kp121 (.yes rfl rfl) (fun _ => FV.geq (i := x103.2) (j := a0.fN) rfl rfl) rfl ?_
        refine RD.vP 16 131071 kt120 rfl kp121 .plain (fun _ => FV.pick_f rfl rfl) rfl ?_
        refine RD.vP 17 262143 kt120 rfl kp121 .plain (fun _ => FV.move rfl) rfl ?_
        refine RD.ifd (s := 45) rfl h (fun c124 h => ?_) (fun c124 h => ?_)
        ·skip
         refine RD.offs 4194303 1 [(18, 46), (19, 47), (20, 48), (21, 49)] (F := [(45, true)]) (U := []) kt120 kp121 (.cons rfl .nil) .nil ?_
         dsimp only [offS, List.map]
         refine RD.vP 22 8388607 kt120 rfl kp121 .plain (fun _ => FV.pick_t rfl rfl) rfl ?_
         refine RD.done (doneD_ok kt120 (by kernel_rfl)) ?_
         refine MX.cond_t rfl ?_
         refine MX.seq ?_
         refine MX.region ?_
         refine RG.val' .plain (FV.assign rfl) rfl ?_
         refine RG.nil ?_
         have h := thn_inl h hh99
         refine MX.ret rfl ?_
         refine RT.leave (u := .int .i64 180) hb0 Tryd.func32 rfl (.cons (.tmp rfl) .nil) rfl ?_
         obtain rfl := Option.some.inj h
         exact ⟨hS118.ag, fun w9 hw9 => rfl⟩
        ·skip
         refine RD.val (i := 18) (m' := 524287) (W := 7340032) (takeC_ok kt120 (by kernel_rfl)) rfl kp121 (.yes rfl rfl) (FV.sliceA (len := 2) (m := 1) (p := ⟨b15, 0, none⟩) (by kernel_rfl) rfl) rfl ?_
         refine RD.val (i := 19) (m' := 1048575) (W := 7340032) (takeC_ok kt120 (by kernel_rfl)) rfl kp121 (.yes rfl rfl) (FV.sliceA (len := 2) (m := 1) (p := ⟨b116, 0, none⟩) (by kernel_rfl) rfl) rfl ?_
         obtain ⟨y125, hy125, h⟩ := bind_in h
         have hc126 : Cells w117 (bl [.cells b116 [.int .i64 x103.1, .int .i64 x103.2] 46, .cells b15 [.int .i64 z91, .int .i64 z92] 46, .cells b5 [.int .i64 a0.fN, v0_1] 40] ++ L) [.int .i64 z91, .int .i64 z92] (([z91, z92] : List Int) : List Int) := Cells.cons (cs := [.int .i64 z91]) (ds := [.int .i64 z92]) rfl (Cells.cons (cs := [.int .i64 z92]) (ds := []) rfl (Cells.nil _ _))
         have hc127 : Cells w117 (bl [.cells b116 [.int .i64 x103.1, .int .i64 x103.2] 46, .cells b15 [.int .i64 z91, .int .i64 z92] 46, .cells b5 [.int .i64 a0.fN, v0_1] 40] ++ L) [.int .i64 x103.1, .int .i64 x103.2] (([x103.1, x103.2] : List Int) : List Int) := Cells.cons (cs := [.int .i64 x103.1]) (ds := [.int .i64 x103.2]) rfl (Cells.cons (cs := [.int .i64 x103.2]) (ds := []) rfl (Cells.nil _ _))
         refine RD.callq (i := 20) (m' := 2097151) (W := 6291456) (takeC_ok kt120 (by kernel_rfl)) rfl kp121 (v := .int .i64 y125) (fst := []) (cap := []) (.yes rfl rfl) body59 rfl (evs_cons rfl (evs_cons rfl evs_nil)) (fun w9 hw9 => slices_Compare_int_int_c n _ w9 (hS118.hL0 hL hw9) ([z91, z92] : List Int) (Rep.keep0 (St.lendA (L := L) hS118 (.tl .hd) hc126 hL (by unfold most; simp)) hw9) ([x103.1, x103.2] : List Int) (Rep.keep0 (St.lendA (L := L) hS118 .hd hc127 hL (by unfold most; simp)) hw9) hy125) rfl ?_
         refine RD.vP 21 4194303 kt120 rfl kp121 (.yes rfl rfl) (fun _ => FV.geq (i := y125) (j := 0) rfl rfl) rfl ?_
         refine RD.vP 22 8388607 kt120 rfl kp121 .plain (fun _ => FV.pick_f rfl rfl) rfl ?_
         refine RD.done (doneD_ok kt120 (by kernel_rfl)) ?_
         refine MX.ifd rfl h (fun c128 h => ?_) (fun c128 h => ?_)
         ·skip
          refine MX.seq ?_
          refine MX.region ?_
          refine RG.val' .plain (FV.assign rfl) rfl ?_
          refine RG.nil ?_
          have h := thn_inl h hh99
          refine MX.ret rfl ?_
          refine RT.leave (u := .int .i64 180) hb0 Tryd.func32 rfl (.cons (.tmp rfl) .nil) rfl ?_
          obtain rfl := Option.some.inj h
          exact ⟨hS118.ag, fun w9 hw9 => rfl⟩
         ·skip
          refine MX.skip ?_
          refine MX.region ?_
          refine RG.val' .plain (FV.loadN (cs := [.int .i64 x103.1, .int .i64 x103.2]) (by kernel_rfl) rfl (hS118.memA .hd)) rfl ?_
          refine RG.now .plain (Acts.store (j := 0) (old := [.int .i64 z91, .int .i64 z92]) (news := [.int .i64 x103.1, .int .i64 x103.2]) (new' := [.int .i64 x103.1, .int .i64 x103.2]) hS118 (.tl .hd) rfl rfl rfl rfl rfl rfl (ones_cons rfl (ones_cons rfl ones_nil)) rfl) (fun w129 hS130 hT131 => ?_)
          refine RG.nil ?_
          refine MX.inBlock ?_
          refine MX.region ?_
          refine RG.val' .plain (FV.addN (i := i90) (j := 1) rfl rfl (by omega)) rfl ?_
          refine RG.val' .plain (FV.move rfl) rfl ?_
          refine RG.nil ?_
          have hS132 : St _ _ [.cells b15 [.int .i64 x103.1, .int .i64 x103.2] 46, .cells b5 [.int .i64 a0.fN, v0_1] 40] := hS130.arr (.one (.tl .hd) (.one (.tl .hd) .done))
          have hT133 : Tr w129 _ w129 [.cells b15 [.int .i64 x103.1, .int .i64 x103.2] 46, .cells b5 [.int .i64 a0.fN, v0_1] 40] := Tr.arr (St.arrOf hS130 (.one (.tl .hd) (.one (.tl .hd) .done)))
          exact hJ101 (i90 + 1, x103.1, x103.2) _ _ ⟨rfl, rfl, rfl, rfl, rfl, trivial⟩ ⟨hS132, (Tr.trans hT94 (Tr.trans hT115 (Tr.trans hT119 (Tr.trans hT131 hT133))))⟩ h
     ·skip
      refine MX.exit rfl ?_
      have h := thn_inr h hh99
      try dsimp only at h
      refine MX.seq ?_
      refine MX.region ?_
      refine RG.val' .plain (FV.assign rfl) rfl ?_
      refine RG.nil ?_
      refine MX.ret rfl ?_
      refine RT.leave (u := .int .i64 0) hb0 Tryd.func32 rfl (.cons (.tmp rfl) .nil) rfl ?_
      obtain rfl := Option.some.inj h
      exact ⟨hS93.ag, fun w9 hw9 => rfl⟩
def tb42_4 : List (Nat × Nat × Nat) := [(0, 2048, 2), (1, 4096, 2048), (0, 8192, 4), (4, 16384, 8192), (10, 32768, 20480)]
theorem body32 : bodyB Tryd.prog 32 = true := by kernel_rfl
def graph_check_p (n : Nat) (a0 : TGraph) (a1 : UInt64) : Option Int :=
  (graph_Check_p n a0).bind fun y6 => (if y6 = 0 then (math_bits_Len64_p n a1).bind fun y11 => (if a0.fN < y11 then some 2 else some 0) else some y6)
set_option maxRecDepth 4000 in
set_option maxHeartbeats 4000000 in
theorem graph_check_c (n : Nat) (L : List Nat) (w : World) (hL : ∀ b ∈ L, b < w.heap.size) (a0 : TGraph) {v0_1 : Value} (h0_1 : Rep.R w L [v0_1] a0.fEdges) (a1 : UInt64)  {r : Int} (h : graph_check_p n a0 a1 = some r) :
    Calls Tryd.prog 42 #[.agg #[.int .i64 a0.fN, v0_1], .int .u64 (a1.toNat : Int)] w (Gives w fun _ u => u = .int .i64 r) := by
  unfold graph_check_p at h
  have hS0 := St.start w
  refine MX.start Tryd.func42 rfl rfl rfl (fun _ cs0 hb0 => ?_)
  refine MX.seq ?_
  refine MX.region ?_
  refine RG.new .plain rfl (Does.box (vs := [.int .i64 a0.fN, v0_1]) hS0 rfl rfl) (fun w2 b5 hS3 hT4 => ?_)
  refine RG.val' .plain (FV.assign rfl) rfl ?_
  refine RG.nil ?_
  refine MX.seq ?_
  refine MX.seq ?_
  refine MX.region ?_
  refine RG.val' .plain (FV.loadN (cs := [.int .i64 a0.fN, v0_1]) (by kernel_rfl) rfl (hS3.memA .hd)) rfl ?_
  obtain ⟨y6, hy6, h⟩ := bind_in h
  have hm7 := Rep.mv h0_1 hT4
  refine RG.callq' (v := .int .i64 y6) (fst := []) (cap := []) .plain body32 rfl (evs_cons rfl evs_nil) (fun w9 hw9 => graph_Check_c n _ w9 (hS3.hL0 hL hw9) a0 (Rep.keep0 (Rep.dropO (O := [.cells b5 [.int .i64 a0.fN, v0_1] 40]) hm7) hw9) hy6) rfl ?_
  refine RG.val' .plain (FV.assign rfl) rfl ?_
  refine RG.nil ?_
  refine MX.seq ?_
  refine MX.region ?_
  refine RG.val' .plain (FV.move rfl) rfl ?_
  refine RG.val' .plain (FV.neq (i := y6) (j := 0) rfl rfl) rfl ?_
  refine RG.nil ?_
  refine MX.ifn rfl h (fun c8 h => ?_) (fun c8 h => ?_)
  ·skip
   refine MX.skip ?_
   refine MX.seq ?_
   refine MX.seq ?_
   refine MX.drawT 5 tb42_4 (by kernel_rfl) (by kernel_rfl) (by kernel_rfl) (fun kt9 kp10 => ?_)
   refine RD.vP 0 1 kt9 rfl kp10 .plain (fun _ => FV.move rfl) rfl ?_
   obtain ⟨y11, hy11, h⟩ := bind_in h
   refine RD.callq (i := 1) (m' := 3) (W := 16) (takeC_ok kt9 (by kernel_rfl)) rfl kp10 (v := .int .i64 y11) (fst := []) (cap := []) .plain body60 rfl (evs_cons rfl evs_nil) (fun w9 hw9 => math_bits_Len64_c n _ w9 (hS3.hL0 hL hw9) a1 hy11) rfl ?_
   refine RD.vP 2 7 kt9 rfl kp10 .plain (fun _ => FV.fieldAddr (off := 0) (by kernel_rfl) rfl) rfl ?_
   refine RD.val (i := 3) (m' := 15) (W := 16) (takeC_ok kt9 (by kernel_rfl)) rfl kp10 .plain (FV.load1 (by kernel_rfl) rfl ((hS3.memA .hd) 0 _ rfl)) rfl ?_
   refine RD.vP 4 31 kt9 rfl kp10 .plain (fun _ => FV.gtr (i := y11) (j := a0.fN) rfl rfl) rfl ?_
   refine RD.done (doneD_ok kt9 (by kernel_rfl)) ?_
   refine MX.ifd rfl h (fun c12 h => ?_) (fun c12 h => ?_)
   ·skip
    refine MX.seq ?_
    refine MX.region ?_
    refine RG.val' .plain (FV.assign rfl) rfl ?_
    refine RG.nil ?_
    refine MX.ret rfl ?_
    refine RT.leave (u := .int .i64 2) hb0 Tryd.func42 rfl (.cons (.tmp rfl) .nil) rfl ?_
    obtain rfl := Option.some.inj h
    exact ⟨hS3.ag, fun w9 hw9 => rfl⟩
   ·skip
    refine MX.skip ?_
    refine MX.seq ?_
    refine MX.region ?_
    refine RG.val' .plain (FV.assign rfl) rfl ?_
    refine RG.nil ?_
    refine MX.ret rfl ?_
    refine RT.leave (u := .int .i64 0) hb0 Tryd.func42 rfl (.cons (.tmp rfl) .nil) rfl ?_
    obtain rfl := Option.some.inj h
    exact ⟨hS3.ag, fun w9 hw9 => rfl⟩
  ·skip
   refine MX.seq ?_
   refine MX.region ?_
   refine RG.val' .plain (FV.move rfl) rfl ?_
   refine RG.val' .plain (FV.assign rfl) rfl ?_
   refine RG.nil ?_
   refine MX.ret rfl ?_
   refine RT.leave (u := .int .i64 y6) hb0 Tryd.func42 rfl (.cons (.tmp rfl) .nil) rfl ?_
   obtain rfl := Option.some.inj h
   exact ⟨hS3.ag, fun w9 hw9 => rfl⟩
def math_bits_TrailingZeros64_p (_n : Nat) (a0 : UInt64) : Option Int :=
  (if a0 = (0 : UInt64) then some 64 else (tab0[(shrU ((a0 &&& (-a0)) * (285870213051353865 : UInt64)) 58).toNat]?).bind fun z2 => some ((z2.toNat : Nat) : Int))
set_option maxRecDepth 4000 in
set_option maxHeartbeats 4000000 in
theorem math_bits_TrailingZeros64_c (n : Nat) (L : List Nat) (w : World) (hL : ∀ b ∈ L, b < w.heap.size) (a0 : UInt64) (hG0 : Glob 0 tab0 w)  {r : Int} (h : math_bits_TrailingZeros64_p n a0 = some r) :
    Calls Tryd.prog 77 #[.int .u64 (a0.toNat : Int)] w (Gives w fun _ u => u = .int .i64 r) := by
  unfold math_bits_TrailingZeros64_p at h
  have hS0 := St.start w
  refine MX.start Tryd.func77 rfl rfl rfl (fun _ cs0 hb0 => ?_)
  refine MX.seq ?_
  refine MX.region ?_
  refine RG.val' .plain (FV.assign rfl) rfl ?_
  refine RG.nil ?_
  refine MX.seq ?_
  refine MX.seq ?_
  refine MX.region ?_
  refine RG.val' .plain (FV.move rfl) rfl ?_
  refine RG.val' .plain (FV.eqlU (a := a0) (b := (0 : UInt64)) rfl rfl) rfl ?_
  refine RG.nil ?_
  refine MX.ifd rfl h (fun c1 h => ?_) (fun c1 h => ?_)
  ·skip
   refine MX.seq ?_
   refine MX.region ?_
   refine RG.val' .plain (FV.assign rfl) rfl ?_
   refine RG.nil ?_
   refine MX.ret rfl ?_
   refine RT.leave (u := .int .i64 64) hb0 Tryd.func77 rfl (.cons (.tmp rfl) .nil) rfl ?_
   obtain rfl := Option.some.inj h
   exact ⟨hS0.ag, fun w9 hw9 => rfl⟩
  ·skip
   refine MX.skip ?_
   refine MX.seq ?_
   refine MX.region ?_
   refine RG.val' .plain (FV.move rfl) rfl ?_
   refine RG.val' .plain (FV.move rfl) rfl ?_
   refine RG.val' .plain (FV.negU (a := a0) rfl) rfl ?_
   refine RG.val' .plain (FV.andU (a := a0) (b := -a0) rfl rfl) rfl ?_
   refine RG.val' .plain (FV.mulU (a := a0 &&& (-a0)) (b := (285870213051353865 : UInt64)) rfl rfl) rfl ?_
   refine RG.val' .plain (FV.shrU (a := (a0 &&& (-a0)) * (285870213051353865 : UInt64)) (j := 58) rfl rfl) rfl ?_
   obtain ⟨z2, hz2, h⟩ := bind_in h
   refine RG.val' .plain (FV.indexArr (m := 1) (k := (shrU ((a0 &&& (-a0)) * (285870213051353865 : UInt64)) 58).toNat) (len := 64) (by kernel_rfl) rfl rfl rfl (tab_lt hz2 rfl)) rfl ?_
   refine RG.val' .plain (FV.load1 (by kernel_rfl) rfl (hG0.keep hS0.ag _ _ hz2)) rfl ?_
   have hu3 := z2.toNat_lt
   refine RG.val' .plain (FV.convN (i := z2.toNat) Tryd.underlying5 Tryd.underlying3 rfl (by omega)) rfl ?_
   refine RG.val' .plain (FV.assign rfl) rfl ?_
   refine RG.nil ?_
   refine MX.ret rfl ?_
   refine RT.leave (u := .int .i64 ((z2.toNat : Nat) : Int)) hb0 Tryd.func77 rfl (.cons (.tmp rfl) .nil) rfl ?_
   obtain rfl := Option.some.inj h
   exact ⟨hS0.ag, fun w9 hw9 => rfl⟩
set_option maxRecDepth 4000 in
set_option maxHeartbeats 4000000 in
theorem graph_nodes_c (n : Nat) (L : List Nat) (w : World) (hL : ∀ b ∈ L, b < w.heap.size) (a0 : UInt64)  :
    Calls Tryd.prog 45 #[.int .u64 (a0.toNat : Int)] w (Gives w fun w' u => ∃ b5 : Nat, u = .func (.func 76) #[] #[.pointer (some ⟨b5, 0, none⟩)] ∧ St w w' [.cells b5 [.int .u64 (a0.toNat : Int)] 35]) := by
  have hS0 := St.start w
  refine MX.start Tryd.func45 rfl rfl rfl (fun _ cs0 hb0 => ?_)
  refine MX.seq ?_
  refine MX.region ?_
  refine RG.new .plain rfl (Does.box (vs := [.int .u64 (a0.toNat : Int)]) hS0 rfl rfl) (fun w2 b5 hS3 hT4 => ?_)
  refine RG.val' .plain (FV.assign rfl) rfl ?_
  refine RG.nil ?_
  refine MX.seq ?_
  refine MX.region ?_
  refine RG.val' .plain (FV.makeFunc (vs := []) (us := [.pointer (some ⟨b5, 0, none⟩)]) evs_nil (evs_cons rfl evs_nil)) rfl ?_
  refine RG.val' .plain (FV.assign rfl) rfl ?_
  refine RG.nil ?_
  refine MX.ret rfl ?_
  refine RT.leave (u := .func (.func 76) #[] #[.pointer (some ⟨b5, 0, none⟩)]) hb0 Tryd.func45 rfl (.cons (.tmp rfl) .nil) rfl ?_
  exact ⟨hS3.ag, fun w9 hw9 => ⟨b5, rfl, hS3.agree hw9⟩⟩
def tb78_5 : List (Nat × Nat × Nat) := [(0, 65536, 8), (0, 131072, 32), (2, 262144, 131072), (5, 524288, 327680), (8, 1048576, 524288), (0, 2097152, 32), (32, 4194304, 2097152), (64, 8388608, 4194304), (144, 16777216, 9437184), (511, 33554432, 327680), (1023, 0, 50331648)]
def tb78_6 : List (Nat × Nat × Nat) := [(0, 67108864, 8), (0, 134217728, 32), (2, 268435456, 134217728), (5, 536870912, 335544320), (8, 1073741824, 536870912), (0, 2147483648, 32), (32, 4294967296, 2147483648), (64, 8589934592, 4294967296), (144, 17179869184, 9663676416), (511, 34359738368, 335544320), (1023, 0, 51539607552)]
theorem el86 : ElT Tryd.prog 86 35 (Rep.size UInt64) 8 (.int .u64 0) [.int .u64 0] := ⟨Tryd.underlying86, by kernel_rfl, rfl, rfl, rfl, rfl⟩
def graph_around_l1 (_n : Nat) (a0 : TGraph) (J170 : Nat × (List UInt64) → Option (List UInt64)) : Nat × (List UInt64) → Option (List UInt64)
  | (i159, xs160) => (if i159 < a0.fEdges.length then (a0.fEdges[i159]?).bind fun x173 => (idx xs160 x173.1).bind fun x192 => (natOf x173.2).bind fun k207 => (put xs160 ((x173.1.toNat : Nat) : Int) (x192 ||| (shlU (1 : UInt64) k207))).bind fun xs208 => (idx xs208 x173.2).bind fun x216 => (natOf x173.1).bind fun k230 => (put xs208 ((x173.2.toNat : Nat) : Int) (x216 ||| (shlU (1 : UInt64) k230))).bind fun xs231 => J170 (i159 + 1, xs231) else some xs160)
def graph_around_p (n : Nat) (a0 : TGraph) : Option (List UInt64) :=
  (mk a0.fN (0 : UInt64)).bind fun xs7 => Option.bind (loopF (graph_around_l1 n a0) n (0, xs7)) (fun xs160 => some xs160)
set_option maxRecDepth 4000 in
set_option maxHeartbeats 4000000 in
theorem graph_around_c (n : Nat) (L : List Nat) (w : World) (hL : ∀ b ∈ L, b < w.heap.size) (a0 : TGraph) {v0_1 : Value} (h0_1 : Rep.R w L [v0_1] a0.fEdges)  {r : List UInt64} (h : graph_around_p n a0 = some r) :
    Calls Tryd.prog 78 #[.agg #[.int .i64 a0.fN, v0_1]] w (Gives w fun w' u => ∃ v0_0 : Value, u = v0_0 ∧ Rep.R w' L [v0_0] r) := by
  unfold graph_around_p at h
  have hS0 := St.start w
  refine MX.start Tryd.func78 rfl rfl rfl (fun _ cs0 hb0 => ?_)
  refine MX.seq ?_
  refine MX.region ?_
  refine RG.new .plain rfl (Does.box (vs := [.int .i64 a0.fN, v0_1]) hS0 rfl rfl) (fun w2 b5 hS3 hT4 => ?_)
  refine RG.val' .plain (FV.assign rfl) rfl ?_
  refine RG.nil ?_
  refine MX.seq ?_
  refine MX.region ?_
  refine RG.val' .plain (FV.fieldAddr (off := 0) (by kernel_rfl) rfl) rfl ?_
  refine RG.val' .plain (FV.load1 (by kernel_rfl) rfl ((hS3.memA .hd) 0 _ rfl)) rfl ?_
  obtain ⟨xs7, hxs7, h⟩ := bind_in h
  refine RG.new .plain rfl (Does.mk (α := UInt64) hxs7 hS3 el86 rfl) (fun w8 b11 hS9 hT10 => ?_)
  have hc12 : Cells w8 (bl [.row w.heap.size 35 (Rep.size UInt64) (.slice (some ⟨b11, 0, none⟩) a0.fN.toNat a0.fN.toNat) xs7.length ((List.replicate a0.fN.toNat [.int .u64 0]).flatten), .cells b5 [.int .i64 a0.fN, v0_1] 40] ++ L) (List.replicate a0.fN.toNat [.int .u64 0]).flatten xs7 := Cells.mk hxs7 rfl
  refine RG.val' .plain (FV.assign rfl) rfl ?_
  refine RG.nil ?_
  refine MX.seq ?_
  refine MX.seq ?_
  refine MX.region ?_
  refine RG.val' .plain (FV.fieldAddr (off := 1) (by kernel_rfl) rfl) rfl ?_
  refine RG.val' .plain (FV.load1 (by kernel_rfl) rfl ((hS9.memA (.tl .hd)) 1 _ rfl)) rfl ?_
  have hm14 := Rep.mv h0_1 (Tr.trans hT4 hT10)
  have hl13 : a0.fEdges.length ≤ 281474976710656 := Rep.lenle hm14
  refine RG.val' .plain (FV.len (xs := a0.fEdges) Tryd.underlying38 rfl hm14) rfl ?_
  refine RG.val' .plain (FV.move rfl) rfl ?_
  refine RG.nil ?_
  refine MX.block ?_
  have hS156 : St _ _ [.row w.heap.size 35 (Rep.size UInt64) (.slice (some ⟨b11, 0, none⟩) a0.fN.toNat a0.fN.toNat) xs7.length ((List.replicate a0.fN.toNat [.int .u64 0]).flatten)] := hS9.arr (.one .hd .done)
  have hT157 : Tr w8 _ w8 [.row w.heap.size 35 (Rep.size UInt64) (.slice (some ⟨b11, 0, none⟩) a0.fN.toNat a0.fN.toNat) xs7.length ((List.replicate a0.fN.toNat [.int .u64 0]).flatten)] := Tr.arr (St.arrOf hS9 (.one .hd .done))
  have hm158 := Cells.mv hc12 hT157
  obtain ⟨o168, ho167, hh169⟩ := bind_in2 h
  refine MX.loop (α := Nat × (List UInt64) × (List Value)) (fun ⟨i159, xs160, cs161⟩ => [(3, (.slice (some ⟨b11, 0, none⟩) a0.fN.toNat a0.fN.toNat)), (10, v0_1), (11, .int .i64 ((a0.fEdges.length : Nat) : Int)), (12, .int .i64 ((i159 : Nat) : Int))]) (fun ⟨i159, xs160, cs161⟩ wx162 => St w wx162 [.row w.heap.size 35 (Rep.size UInt64) (.slice (some ⟨b11, 0, none⟩) a0.fN.toNat a0.fN.toNat) xs160.length cs161] ∧ Tr w8 [.row w.heap.size 35 (Rep.size UInt64) (.slice (some ⟨b11, 0, none⟩) a0.fN.toNat a0.fN.toNat) xs7.length ((List.replicate a0.fN.toNat [.int .u64 0]).flatten)] wx162 [.row w.heap.size 35 (Rep.size UInt64) (.slice (some ⟨b11, 0, none⟩) a0.fN.toNat a0.fN.toNat) xs160.length cs161] ∧ Cells wx162 (bl [.row w.heap.size 35 (Rep.size UInt64) (.slice (some ⟨b11, 0, none⟩) a0.fN.toNat a0.fN.toNat) xs160.length cs161] ++ L) cs161 xs160) (fun ⟨i159, xs160, cs161⟩ => (i159, xs160)) (0, xs7, (List.replicate a0.fN.toNat [.int .u64 0]).flatten) ho167 ⟨rfl, rfl, rfl, rfl, trivial⟩ ⟨hS156, Tr.refl _ _, hm158⟩ ?_
  rintro J170 ⟨i159, xs160, cs161⟩ wx162 hJ171 ⟨hS163, hT164, hc162⟩ h
  unfold graph_around_l1 at h
  try dsimp only at h
  refine MX.seq ?_
  refine MX.region ?_
  refine RG.val' .plain (FV.lssN (i := i159) (j := a0.fEdges.length) rfl rfl) rfl ?_
  refine RG.nil ?_
  refine MX.seq ?_
  refine MX.ifd rfl h (fun c172 h => ?_) (fun c172 h => ?_)
  ·skip
   refine MX.skip ?_
   refine MX.seq ?_
   refine MX.block ?_
   refine MX.seq ?_
   refine MX.region ?_
   obtain ⟨x173, hx173, h⟩ := bind_in h
   have hm181 := Rep.mv h0_1 (Tr.trans hT4 (Tr.trans hT10 (Tr.trans hT157 hT164)))
   obtain ⟨A174, c175, he176, hk177, cs178, hr179, hm180⟩ := Rep.nth hm181 hx173
   obtain rfl := op_A46 hr179
   refine RG.val' .plain (FV.idxAddr (m := 2) (i := i159) (by kernel_rfl) rfl he176 rfl rfl hk177) rfl ?_
   refine RG.val' .plain (FV.loadN (cs := [.int .i64 x173.1, .int .i64 x173.2]) (by kernel_rfl) rfl hm180) rfl ?_
   refine RG.new .plain rfl (Does.alloc (zs := [.int .i64 0, .int .i64 0]) hS163 (zB (by kernel_rfl))) (fun w183 b186 hS184 hT185 => ?_)
   refine RG.now .plain (Acts.store (j := 0) (old := [.int .i64 0, .int .i64 0]) (news := [.int .i64 x173.1, .int .i64 x173.2]) (new' := [.int .i64 x173.1, .int .i64 x173.2]) hS184 .hd rfl rfl rfl rfl rfl rfl (ones_cons rfl (ones_cons rfl ones_nil)) rfl) (fun w187 hS188 hT189 => ?_)
   refine RG.nil ?_
   refine MX.seq ?_
   refine MX.drawT 10 tb78_5 (by kernel_rfl) (by kernel_rfl) (by kernel_rfl) (fun kt190 kp191 => ?_)
   refine RD.vP 0 1 kt190 rfl kp191 .plain (fun _ => FV.move rfl) rfl ?_
   refine RD.vP 1 3 kt190 rfl kp191 .plain (fun _ => FV.indexArr (m := 1) (k := 0) (len := 2) (by kernel_rfl) rfl rfl rfl (by omega)) rfl ?_
   refine RD.val (i := 2) (m' := 7) (W := 1816) (takeC_ok kt190 (by kernel_rfl)) rfl kp191 .plain (FV.load1 (by kernel_rfl) rfl ((hS188.memA .hd) 0 _ rfl)) rfl ?_
   obtain ⟨x192, hx192, h⟩ := bind_in h
   obtain ⟨hi193, hx194⟩ := idx_in hx192
   have hm202 := Cells.mv hc162 (Tr.trans hT185 hT189)
   obtain ⟨A195, c196, he197, hk198, cs199, hr200, hm201⟩ := St.nth (α := UInt64) hS188 (.tl .hd) hm202 hx194
   obtain ⟨b203, c204, he205⟩ := St.nthOwn (α := UInt64) hS188 (.tl .hd) hk198
   obtain rfl : A195 = ⟨b203, 0, none⟩ := by rw [he205] at he197; cases he197; rfl
   have he206 : cs199 = [.int .u64 (x192.toNat : Int)] := hr200; subst he206
   refine RD.vP 3 15 kt190 rfl kp191 .plain (fun _ => FV.idxAddr (m := 1) (i := x173.1.toNat) (by kernel_rfl) rfl he197 rfl hi193 hk198) rfl ?_
   refine RD.val (i := 4) (m' := 31) (W := 1792) (takeC_ok kt190 (by kernel_rfl)) rfl kp191 .plain (FV.load1 (by kernel_rfl) rfl (hm201 0 _ rfl)) rfl ?_
   refine RD.vP 5 63 kt190 rfl kp191 .plain (fun _ => FV.indexArr (m := 1) (k := 1) (len := 2) (by kernel_rfl) rfl rfl rfl (by omega)) rfl ?_
   refine RD.val (i := 6) (m' := 127) (W := 1920) (takeC_ok kt190 (by kernel_rfl)) rfl kp191 .plain (FV.load1 (by kernel_rfl) rfl ((hS188.memA .hd) 1 _ rfl)) rfl ?_
   obtain ⟨k207, hk207, h⟩ := bind_in h
   refine RD.vP 7 255 kt190 rfl kp191 .plain (fun _ => FV.shlI (a := (1 : UInt64)) (i := x173.2) rfl rfl hk207) rfl ?_
   refine RD.vP 8 511 kt190 rfl kp191 .plain (fun _ => FV.orU (a := x192) (b := shlU (1 : UInt64) k207) rfl rfl) rfl ?_
   refine RD.vP 9 1023 kt190 rfl kp191 .plain (fun _ => FV.idxAddr (m := 1) (i := x173.1.toNat) (by kernel_rfl) rfl he197 rfl hi193 hk198) rfl ?_
   obtain ⟨xs208, hxs208, h⟩ := bind_in h
   refine RD.one (i := 10) (readyD_ok kt190 (by kernel_rfl)) (RO.acts (m' := 2047) (stepC_ok kt190 (by kernel_rfl)) rfl rfl .plain (Acts.set (α := UInt64) (i := x173.1.toNat) (F := fun cs' => [.cells b186 [.int .i64 x173.1, .int .i64 x173.2] 46, .row w.heap.size 35 (Rep.size UInt64) (.slice (some ⟨b11, 0, none⟩) a0.fN.toNat a0.fN.toNat) xs208.length cs']) hxs208 hS188 he205 (fun _ => (.tl .hd)) hm202 rfl rfl rfl rfl rfl (by kernel_rfl)) (fun w209 ⟨cs213, hS210, hT211, hc212⟩ => ?_))
   refine RD.done (doneD_ok kt190 (by kernel_rfl)) ?_
   refine MX.drawT 10 tb78_6 (by kernel_rfl) (by kernel_rfl) (by kernel_rfl) (fun kt214 kp215 => ?_)
   refine RD.vP 0 1 kt214 rfl kp215 .plain (fun _ => FV.move rfl) rfl ?_
   refine RD.vP 1 3 kt214 rfl kp215 .plain (fun _ => FV.indexArr (m := 1) (k := 1) (len := 2) (by kernel_rfl) rfl rfl rfl (by omega)) rfl ?_
   refine RD.val (i := 2) (m' := 7) (W := 1816) (takeC_ok kt214 (by kernel_rfl)) rfl kp215 .plain (FV.load1 (by kernel_rfl) rfl ((hS210.memA .hd) 1 _ rfl)) rfl ?_
   obtain ⟨x216, hx216, h⟩ := bind_in h
   obtain ⟨hi217, hx218⟩ := idx_in hx216
   obtain ⟨A219, c220, he221, hk222, cs223, hr224, hm225⟩ := St.nth (α := UInt64) hS210 (.tl .hd) hc212 hx218
   obtain ⟨b226, c227, he228⟩ := St.nthOwn (α := UInt64) hS210 (.tl .hd) hk222
   obtain rfl : A219 = ⟨b226, 0, none⟩ := by rw [he228] at he221; cases he221; rfl
   have he229 : cs223 = [.int .u64 (x216.toNat : Int)] := hr224; subst he229
   refine RD.vP 3 15 kt214 rfl kp215 .plain (fun _ => FV.idxAddr (m := 1) (i := x173.2.toNat) (by kernel_rfl) rfl he221 rfl hi217 hk222) rfl ?_
   refine RD.val (i := 4) (m' := 31) (W := 1792) (takeC_ok kt214 (by kernel_rfl)) rfl kp215 .plain (FV.load1 (by kernel_rfl) rfl (hm225 0 _ rfl)) rfl ?_
   refine RD.vP 5 63 kt214 rfl kp215 .plain (fun _ => FV.indexArr (m := 1) (k := 0) (len := 2) (by kernel_rfl) rfl rfl rfl (by omega)) rfl ?_
   refine RD.val (i := 6) (m' := 127) (W := 1920) (takeC_ok kt214 (by kernel_rfl)) rfl kp215 .plain (FV.load1 (by kernel_rfl) rfl ((hS210.memA .hd) 0 _ rfl)) rfl ?_
   obtain ⟨k230, hk230, h⟩ := bind_in h
   refine RD.vP 7 255 kt214 rfl kp215 .plain (fun _ => FV.shlI (a := (1 : UInt64)) (i := x173.1) rfl rfl hk230) rfl ?_
   refine RD.vP 8 511 kt214 rfl kp215 .plain (fun _ => FV.orU (a := x216) (b := shlU (1 : UInt64) k230) rfl rfl) rfl ?_
   refine RD.vP 9 1023 kt214 rfl kp215 .plain (fun _ => FV.idxAddr (m := 1) (i := x173.2.toNat) (by kernel_rfl) rfl he221 rfl hi217 hk222) rfl ?_
   obtain ⟨xs231, hxs231, h⟩ := bind_in h
   refine RD.one (i := 10) (readyD_ok kt214 (by kernel_rfl)) (RO.acts (m' := 2047) (stepC_ok kt214 (by kernel_rfl)) rfl rfl .plain (Acts.set (α := UInt64) (i := x173.2.toNat) (F := fun cs' => [.cells b186 [.int .i64 x173.1, .int .i64 x173.2] 46, .row w.heap.size 35 (Rep.size UInt64) (.slice (some ⟨b11, 0, none⟩) a0.fN.toNat a0.fN.toNat) xs231.length cs']) hxs231 hS210 he228 (fun _ => (.tl .hd)) hc212 rfl rfl rfl rfl rfl (by kernel_rfl)) (fun w232 ⟨cs236, hS233, hT234, hc235⟩ => ?_))
   refine RD.done (doneD_ok kt214 (by kernel_rfl)) ?_
   refine MX.inBlock ?_
   refine MX.region ?_
   refine RG.val' .plain (FV.addN (i := i159) (j := 1) rfl rfl (by omega)) rfl ?_
   refine RG.val' .plain (FV.move rfl) rfl ?_
   refine RG.nil ?_
   have hS237 : St _ _ [.row w.heap.size 35 (Rep.size UInt64) (.slice (some ⟨b11, 0, none⟩) a0.fN.toNat a0.fN.toNat) xs231.length cs236] := hS233.arr (.one (.tl .hd) .done)
   have hT238 : Tr w232 _ w232 [.row w.heap.size 35 (Rep.size UInt64) (.slice (some ⟨b11, 0, none⟩) a0.fN.toNat a0.fN.toNat) xs231.length cs236] := Tr.arr (St.arrOf hS233 (.one (.tl .hd) .done))
   have hm239 := Cells.mv hc235 hT238
   exact hJ171 (i159 + 1, xs231, cs236) _ _ ⟨rfl, rfl, rfl, rfl, trivial⟩ ⟨hS237, (Tr.trans hT164 (Tr.trans hT185 (Tr.trans hT189 (Tr.trans hT211 (Tr.trans hT234 hT238))))), hm239⟩ h
  ·skip
   refine MX.exit rfl ?_
   have h := hh169 _ h
   try dsimp only at h
   refine MX.seq ?_
   refine MX.region ?_
   refine RG.val' .plain (FV.move rfl) rfl ?_
   refine RG.val' .plain (FV.assign rfl) rfl ?_
   refine RG.nil ?_
   refine MX.ret rfl ?_
   have hr240 := St.freeze (α := UInt64) hS163 .hd hc162 hL
   have hS241 := hS163.del (.hd : Out _ _ _).del
   have hT242 := Tr.del (w := wx162) (.hd : Out [.row w.heap.size 35 (Rep.size UInt64) (.slice (some ⟨b11, 0, none⟩) a0.fN.toNat a0.fN.toNat) xs160.length cs161] _ _).del
   have hr243 : Rep.R wx162 (bl [] ++ L) [(.slice (some ⟨b11, 0, none⟩) a0.fN.toNat a0.fN.toNat)] xs160 := hr240
   refine RT.leave (u := (.slice (some ⟨b11, 0, none⟩) a0.fN.toNat a0.fN.toNat)) hb0 Tryd.func78 rfl (.cons (.tmp rfl) .nil) rfl ?_
   obtain rfl := Option.some.inj h
   exact ⟨hS241.ag, fun w9 hw9 => ⟨(.slice (some ⟨b11, 0, none⟩) a0.fN.toNat a0.fN.toNat), rfl, Rep.keep0 (Rep.dropO (O := []) hr243) hw9⟩⟩
def tb47_9 : List (Nat × Nat × Nat) := [(0, 16777216, 512), (0, 33554432, 32), (0, 67108864, 1024), (6, 134217728, 100663296), (8, 268435456, 134217728), (0, 536870912, 8), (48, 1073741824, 805306368), (65, 2147483648, 1090519040), (255, 0, 2147484160)]
theorem body45 : bodyB Tryd.prog 45 = true := by kernel_rfl
theorem body76 : bodyB Tryd.prog 76 = true := by kernel_rfl
theorem body77 : bodyB Tryd.prog 77 = true := by kernel_rfl
theorem body78 : bodyB Tryd.prog 78 = true := by kernel_rfl
def graph_components_l1 (n : Nat) (y11 : List UInt64) (a1 : UInt64) (J1420 : UInt64 × UInt64 → Option UInt64) : UInt64 × UInt64 → Option UInt64
  | (u1411, u1412) => (if u1411 = (0 : UInt64) then some u1412 else (math_bits_TrailingZeros64_p n u1411).bind fun y1449 => (idx y11 y1449).bind fun x1457 => J1420 (u1411 &&& (u1411 - (1 : UInt64)), u1412 ||| (x1457 &&& a1)))
def graph_components_l2 (n : Nat) (y11 : List UInt64) (a1 : UInt64) (J1313 : UInt64 → Option UInt64) : UInt64 → Option UInt64
  | u1305 => Option.bind (loopF (graph_components_l1 n y11 a1) n (u1305, u1305)) (fun u1412 => (if u1412 = u1305 then some u1305 else J1313 u1412))
def graph_components_l3 (n : Nat) (y11 : List UInt64) (a1 : UInt64) (J996 : UInt64 × (List UInt64) → Option (List UInt64)) : UInt64 × (List UInt64) → Option (List UInt64)
  | (u984, xs985) => (if u984 = (0 : UInt64) then some xs985 else Option.bind (loopF (graph_components_l2 n y11 a1) n (u984 &&& (-u984))) (fun u1305 => (app xs985 ([u1305] : List UInt64)).bind fun xs1435 => J996 (u984 &&& ~~~u1305, xs1435)))
def graph_components_p (n : Nat) (a0 : TGraph) (a1 : UInt64) : Option (List UInt64) :=
  (graph_around_p n a0).bind fun y11 => Option.bind (loopF (graph_components_l3 n y11 a1) n (a1, ([] : List UInt64))) (fun xs985 => some xs985)
set_option maxRecDepth 4000 in
set_option maxHeartbeats 4000000 in
theorem graph_components_c (n : Nat) (L : List Nat) (w : World) (hL : ∀ b ∈ L, b < w.heap.size) (a0 : TGraph) {v0_1 : Value} (h0_1 : Rep.R w L [v0_1] a0.fEdges) (a1 : UInt64) (hG0 : Glob 0 tab0 w)  {r : List UInt64} (h : graph_components_p n a0 a1 = some r) :
    Calls Tryd.prog 47 #[.agg #[.int .i64 a0.fN, v0_1], .int .u64 (a1.toNat : Int)] w (Gives w fun w' u => ∃ v0_0 : Value, u = v0_0 ∧ Rep.R w' L [v0_0] r) := by
  unfold graph_components_p at h
  have hS0 := St.start w
  refine MX.start Tryd.func47 rfl rfl rfl (fun _ cs0 hb0 => ?_)
  refine MX.seq ?_
  refine MX.region ?_
  refine RG.new .plain rfl (Does.box (vs := [.int .i64 a0.fN, v0_1]) hS0 rfl rfl) (fun w2 b5 hS3 hT4 => ?_)
  refine RG.new .plain rfl (Does.box (vs := [.int .u64 (a1.toNat : Int)]) hS3 rfl rfl) (fun w7 b10 hS8 hT9 => ?_)
  refine RG.val' .plain (FV.assign rfl) rfl ?_
  refine RG.nil ?_
  refine MX.seq ?_
  refine MX.region ?_
  refine RG.val' .plain (FV.loadN (cs := [.int .i64 a0.fN, v0_1]) (by kernel_rfl) rfl (hS8.memA (.tl .hd))) rfl ?_
  obtain ⟨y11, hy11, h⟩ := bind_in h
  have hm12 := Rep.mv h0_1 (Tr.trans hT4 hT9)
  refine RG.call' (fst := []) (cap := []) .plain body78 rfl (evs_cons rfl evs_nil) (fun w9 hw9 => graph_around_c n _ w9 (hS8.hL hL hw9) a0 (Rep.keep0 hm12 hw9) hy11) rfl (fun w13 vu14 hag15 ⟨v18, hu_, hr19⟩ => ?_)
  subst hu_
  have hS16 := hS8.agree hag15
  have hT17 := Tr.agree (O := [.cells b10 [.int .u64 (a1.toNat : Int)] 35, .cells b5 [.int .i64 a0.fN, v0_1] 40]) hag15
  refine RG.new .plain rfl (Does.alloc (zs := [.slice none 0 0]) hS16 (zB (by kernel_rfl))) (fun w21 b24 hS22 hT23 => ?_)
  have hm25 := Rep.mv hr19 hT23
  refine RG.now .plain (Acts.store (j := 0) (old := [.slice none 0 0]) (news := [vu14]) (new' := [vu14]) hS22 .hd rfl rfl rfl (Rep.c1 hm25) rfl rfl (ones_cons (Rep.o1 hm25) ones_nil) rfl) (fun w26 hS27 hT28 => ?_)
  refine RG.nil ?_
  refine MX.seq ?_
  refine MX.region ?_
  refine RG.val' .plain (FV.assign rfl) rfl ?_
  refine RG.nil ?_
  refine MX.seq ?_
  refine MX.seq ?_
  refine MX.region ?_
  refine RG.val' .plain (FV.load1 (by kernel_rfl) rfl ((hS27.memA (.tl .hd)) 0 _ rfl)) rfl ?_
  refine RG.val' .plain (FV.assign rfl) rfl ?_
  refine RG.nil ?_
  refine MX.block ?_
  have hS30 := hS27.nilRow 35 (Rep.size UInt64)
  have hT31 := Tr.nilRow (w := w26) (O := [.cells b24 [vu14] 86, .cells b10 [.int .u64 (a1.toNat : Int)] 35, .cells b5 [.int .i64 a0.fN, v0_1] 40]) w.heap.size 35 (Rep.size UInt64)
  have hc32 : Cells w26 (bl [.row w.heap.size 35 (Rep.size UInt64) (.slice none 0 0) (([] : List UInt64).length) [], .cells b24 [vu14] 86, .cells b10 [.int .u64 (a1.toNat : Int)] 35, .cells b5 [.int .i64 a0.fN, v0_1] 40] ++ L) [] ([] : List UInt64) := Cells.nil _ _
  have hS980 : St _ _ [.row w.heap.size 35 (Rep.size UInt64) (.slice none 0 0) (([] : List UInt64).length) [], .cells b24 [vu14] 86, .cells b10 [.int .u64 (a1.toNat : Int)] 35] := hS30.arr (.one .hd (.one .hd (.one .hd .done)))
  have hT981 : Tr w26 _ w26 [.row w.heap.size 35 (Rep.size UInt64) (.slice none 0 0) (([] : List UInt64).length) [], .cells b24 [vu14] 86, .cells b10 [.int .u64 (a1.toNat : Int)] 35] := Tr.arr (St.arrOf hS30 (.one .hd (.one .hd (.one .hd .done))))
  have hm982 := Cells.mv hc32 hT981
  obtain ⟨o994, ho993, hh995⟩ := bind_in2 h
  refine MX.loopD (α := UInt64 × (List UInt64) × (List Nat) × Value × (List Value)) (fun ⟨u984, xs985, Ds983, v988, cs986⟩ => [(3, .pointer (some ⟨b10, 0, none⟩)), (5, .pointer (some ⟨b24, 0, none⟩)), (6, v988), (7, .int .u64 (u984.toNat : Int))]) (fun ⟨u984, xs985, Ds983, v988, cs986⟩ wx988 => St w wx988 (.row w.heap.size 35 (Rep.size UInt64) v988 xs985.length cs986 :: .cells b24 [vu14] 86 :: .cells b10 [.int .u64 (a1.toNat : Int)] 35 :: (defs Ds983 ++ [])) ∧ Tr w26 [.row w.heap.size 35 (Rep.size UInt64) (.slice none 0 0) (([] : List UInt64).length) [], .cells b24 [vu14] 86, .cells b10 [.int .u64 (a1.toNat : Int)] 35] wx988 (.row w.heap.size 35 (Rep.size UInt64) v988 xs985.length cs986 :: .cells b24 [vu14] 86 :: .cells b10 [.int .u64 (a1.toNat : Int)] 35 :: (defs Ds983 ++ [])) ∧ Cells wx988 (bl (.row w.heap.size 35 (Rep.size UInt64) v988 xs985.length cs986 :: .cells b24 [vu14] 86 :: .cells b10 [.int .u64 (a1.toNat : Int)] 35 :: (defs Ds983 ++ [])) ++ L) cs986 xs985) (fun ⟨u984, xs985, Ds983, v988, cs986⟩ => (u984, xs985)) (fun ⟨u984, xs985, Ds983, v988, cs986⟩ => cols Ds983) (a1, ([] : List UInt64), (([] : List Nat)), (.slice none 0 0), []) rfl ho993 ⟨rfl, rfl, rfl, rfl, trivial⟩ ⟨hS980, Tr.refl _ _, hm982⟩ ?_
  rintro J996 ⟨u984, xs985, Ds983, v988, cs986⟩ wx988 hJ997 ⟨hS989, hT990, hc987⟩ h
  unfold graph_components_l3 at h
  try dsimp only at h
  refine MX.seq ?_
  refine MX.seq ?_
  refine MX.region ?_
  refine RG.val' .plain (FV.move rfl) rfl ?_
  refine RG.val' .plain (FV.neqU (a := u984) (b := (0 : UInt64)) rfl rfl) rfl ?_
  refine RG.nil ?_
  refine MX.ifn rfl h (fun c998 h => ?_) (fun c998 h => ?_)
  ·skip
   refine MX.exit rfl ?_
   have h := hh995 _ h
   try dsimp only at h
   refine MX.seq ?_
   refine MX.region ?_
   refine RG.val' .plain (FV.move rfl) rfl ?_
   refine RG.val' .plain (FV.assign rfl) rfl ?_
   refine RG.nil ?_
   refine MX.ret rfl ?_
   refine RT.takes (O1 := [.row w.heap.size 35 (Rep.size UInt64) v988 xs985.length cs986, .cells b24 [vu14] 86, .cells b10 [.int .u64 (a1.toNat : Int)] 35]) (O2 := []) (Ds := Ds983) hS989 (fun w999 hS1000 hT1001 => ?_)
   have hS1002 : St _ w999 [.row w.heap.size 35 (Rep.size UInt64) v988 xs985.length cs986, .cells b24 [vu14] 86, .cells b10 [.int .u64 (a1.toNat : Int)] 35] := hS1000
   have hT1003 : Tr wx988 (.row w.heap.size 35 (Rep.size UInt64) v988 xs985.length cs986 :: .cells b24 [vu14] 86 :: .cells b10 [.int .u64 (a1.toNat : Int)] 35 :: (defs Ds983 ++ [])) w999 [.row w.heap.size 35 (Rep.size UInt64) v988 xs985.length cs986, .cells b24 [vu14] 86, .cells b10 [.int .u64 (a1.toNat : Int)] 35] := hT1001
   have hm1007 := Cells.mv hc987 hT1003
   have hr1004 := St.freeze (α := UInt64) hS1002 .hd hm1007 hL
   have hS1005 := hS1002.del (.hd : Out _ _ _).del
   have hT1006 := Tr.del (w := w999) (.hd : Out [.row w.heap.size 35 (Rep.size UInt64) v988 xs985.length cs986, .cells b24 [vu14] 86, .cells b10 [.int .u64 (a1.toNat : Int)] 35] _ _).del
   have hr1008 : Rep.R w999 (bl [.cells b24 [vu14] 86, .cells b10 [.int .u64 (a1.toNat : Int)] 35] ++ L) [v988] xs985 := hr1004
   refine RT.leave (u := v988) hb0 Tryd.func47 rfl (.cons (.tmp rfl) .nil) rfl ?_
   obtain rfl := Option.some.inj h
   exact ⟨hS1005.ag, fun w9 hw9 => ⟨v988, rfl, Rep.keep0 (Rep.dropO (O := [.cells b24 [vu14] 86, .cells b10 [.int .u64 (a1.toNat : Int)] 35]) hr1008) hw9⟩⟩
  ·skip
   refine MX.skip ?_
   refine MX.block ?_
   refine MX.seq ?_
   refine MX.region ?_
   refine RG.val' .plain (FV.move rfl) rfl ?_
   refine RG.val' .plain (FV.move rfl) rfl ?_
   refine RG.val' .plain (FV.negU (a := u984) rfl) rfl ?_
   refine RG.val' .plain (FV.andU (a := u984) (b := -u984) rfl rfl) rfl ?_
   refine RG.val' .plain (FV.assign rfl) rfl ?_
   refine RG.nil ?_
   refine MX.seq ?_
   refine MX.block ?_
   obtain ⟨o1311, ho1310, hh1312⟩ := bind_in2 h
   refine MX.loopD (α := UInt64 × (List Nat)) (fun ⟨u1305, Ds1304⟩ => [(3, .pointer (some ⟨b10, 0, none⟩)), (5, .pointer (some ⟨b24, 0, none⟩)), (6, v988), (7, .int .u64 (u984.toNat : Int)), (8, .int .u64 (u1305.toNat : Int))]) (fun ⟨u1305, Ds1304⟩ wx1305 => St w wx1305 (.row w.heap.size 35 (Rep.size UInt64) v988 xs985.length cs986 :: .cells b24 [vu14] 86 :: .cells b10 [.int .u64 (a1.toNat : Int)] 35 :: (defs Ds1304 ++ [])) ∧ Tr wx988 (.row w.heap.size 35 (Rep.size UInt64) v988 xs985.length cs986 :: .cells b24 [vu14] 86 :: .cells b10 [.int .u64 (a1.toNat : Int)] 35 :: (defs Ds983 ++ [])) wx1305 (.row w.heap.size 35 (Rep.size UInt64) v988 xs985.length cs986 :: .cells b24 [vu14] 86 :: .cells b10 [.int .u64 (a1.toNat : Int)] 35 :: (defs Ds1304 ++ []))) (fun ⟨u1305, Ds1304⟩ => u1305) (fun ⟨u1305, Ds1304⟩ => cols Ds1304) (u984 &&& (-u984), (Ds983)) rfl ho1310 ⟨rfl, rfl, rfl, rfl, rfl, trivial⟩ ⟨hS989, Tr.refl _ _⟩ ?_
   rintro J1313 ⟨u1305, Ds1304⟩ wx1305 hJ1314 ⟨hS1306, hT1307⟩ h
   unfold graph_components_l2 at h
   try dsimp only at h
   refine MX.block ?_
   refine MX.seq ?_
   refine MX.region ?_
   refine RG.val' .plain (FV.move rfl) rfl ?_
   refine RG.new .plain rfl (Does.alloc (zs := [.int .u64 0]) hS1306 (zB (by kernel_rfl))) (fun w1316 b1319 hS1317 hT1318 => ?_)
   refine RG.now .plain (Acts.store (j := 0) (old := [.int .u64 0]) (news := [.int .u64 (u1305.toNat : Int)]) (new' := [.int .u64 (u1305.toNat : Int)]) hS1317 .hd rfl rfl rfl rfl rfl rfl (ones_cons rfl ones_nil) rfl) (fun w1320 hS1321 hT1322 => ?_)
   refine RG.nil ?_
   refine MX.seq ?_
   refine MX.seq ?_
   refine MX.region ?_
   refine RG.val' .plain (FV.move rfl) rfl ?_
   refine RG.call' (fst := []) (cap := []) .plain body45 rfl (evs_cons rfl evs_nil) (fun w9 hw9 => Calls.gives (graph_nodes_c n _ w9 (hS1321.hL hL hw9) u1305) fun (w8 : World) (u8 : Value) ⟨b0_, hu_, s_⟩ => (⟨b0_, hu_, s_.from hw9⟩ : ∃ b1324 : Nat, u8 = Value.func (.func 76) #[] #[.pointer (some ⟨b1324, 0, none⟩)] ∧ St w1320 w8 [.cells b1324 [.int .u64 (u1305.toNat : Int)] 35])) rfl (fun w1325 vu1326 hag1327 ⟨b1324, hu1329, s1328⟩ => ?_)
   subst hu1329
   have hS1330 : St w w1325 (.cells b1324 [.int .u64 (u1305.toNat : Int)] 35 :: .cells b1319 [.int .u64 (u1305.toNat : Int)] 35 :: .row w.heap.size 35 (Rep.size UInt64) v988 xs985.length cs986 :: .cells b24 [vu14] 86 :: .cells b10 [.int .u64 (a1.toNat : Int)] 35 :: (defs Ds1304 ++ [])) := St.merge hS1321 s1328
   have hT1331 : Tr w1320 (.cells b1319 [.int .u64 (u1305.toNat : Int)] 35 :: .row w.heap.size 35 (Rep.size UInt64) v988 xs985.length cs986 :: .cells b24 [vu14] 86 :: .cells b10 [.int .u64 (a1.toNat : Int)] 35 :: (defs Ds1304 ++ [])) w1325 (.cells b1324 [.int .u64 (u1305.toNat : Int)] 35 :: .cells b1319 [.int .u64 (u1305.toNat : Int)] 35 :: .row w.heap.size 35 (Rep.size UInt64) v988 xs985.length cs986 :: .cells b24 [vu14] 86 :: .cells b10 [.int .u64 (a1.toNat : Int)] 35 :: (defs Ds1304 ++ [])) := Tr.merge hS1321 s1328
   refine RG.nil ?_
   refine MX.block ?_
   refine MX.range (lb := [.pointer (some ⟨b1324, 0, none⟩)]) rfl hS1330 rfl body76 Tryd.func76 rfl rfl rfl (fun w1332 lk1335 D1336 r1337 cs1340 hS1333 hT1334 rec1338 hb1339 => ?_)
   refine MX.block ?_
   obtain ⟨o1418, ho1417, hh1419⟩ := bind_in2 h
   refine MX.loop (α := UInt64 × UInt64) (fun ⟨u1411, u1412⟩ => [(0, .func (.yield lk1335) #[] #[]), (1, .pointer (some ⟨b1324, 0, none⟩))]) (fun ⟨u1411, u1412⟩ wx1412 => St w wx1412 (.obj lk1335 (lpO r1337 .ready none) :: .obj D1336 (.deferred (some [])) :: .cells b1324 [.int .u64 (u1411.toNat : Int)] 35 :: .cells b1319 [.int .u64 (u1412.toNat : Int)] 35 :: .row w.heap.size 35 (Rep.size UInt64) v988 xs985.length cs986 :: .cells b24 [vu14] 86 :: .cells b10 [.int .u64 (a1.toNat : Int)] 35 :: (defs Ds1304 ++ [])) ∧ Tr w1332 (.obj lk1335 (lpO r1337 .ready none) :: .obj D1336 (.deferred (some [])) :: .cells b1324 [.int .u64 (u1305.toNat : Int)] 35 :: .cells b1319 [.int .u64 (u1305.toNat : Int)] 35 :: .row w.heap.size 35 (Rep.size UInt64) v988 xs985.length cs986 :: .cells b24 [vu14] 86 :: .cells b10 [.int .u64 (a1.toNat : Int)] 35 :: (defs Ds1304 ++ [])) wx1412 (.obj lk1335 (lpO r1337 .ready none) :: .obj D1336 (.deferred (some [])) :: .cells b1324 [.int .u64 (u1411.toNat : Int)] 35 :: .cells b1319 [.int .u64 (u1412.toNat : Int)] 35 :: .row w.heap.size 35 (Rep.size UInt64) v988 xs985.length cs986 :: .cells b24 [vu14] 86 :: .cells b10 [.int .u64 (a1.toNat : Int)] 35 :: (defs Ds1304 ++ []))) (fun ⟨u1411, u1412⟩ => (u1411, u1412)) (u1305, u1305) ho1417 ⟨rfl, rfl, trivial⟩ ⟨hS1333, Tr.refl _ _⟩ ?_
   rintro J1420 ⟨u1411, u1412⟩ wx1412 hJ1421 ⟨hS1413, hT1414⟩ h
   unfold graph_components_l1 at h
   try dsimp only at h
   refine MX.seq ?_
   refine MX.seq ?_
   refine MX.region ?_
   refine RG.val' .plain (FV.load1 (by kernel_rfl) rfl ((hS1413.memA (.tl (.tl .hd))) 0 _ rfl)) rfl ?_
   refine RG.val' .plain (FV.neqU (a := u1411) (b := (0 : UInt64)) rfl rfl) rfl ?_
   refine RG.nil ?_
   refine MX.ifn rfl h (fun c1422 h => ?_) (fun c1422 h => ?_)
   ·skip
    refine MX.exit rfl ?_
    have h := hh1419 _ h
    try dsimp only at h
    refine MX.fin rfl ?_
    refine RT.leave (u := .tuple #[]) hb1339 Tryd.func76 rfl .nil rfl ?_
    refine MX.endRange0 hS1413 .hd (by intro h9; cases h9) (fun w1423 hS1424 hT1425 => ?_)
    have hS1426 : St _ _ (.obj D1336 (.deferred (some [])) :: .cells b1324 [.int .u64 (u1411.toNat : Int)] 35 :: .cells b1319 [.int .u64 (u1412.toNat : Int)] 35 :: .row w.heap.size 35 (Rep.size UInt64) v988 xs985.length cs986 :: .cells b24 [vu14] 86 :: .cells b10 [.int .u64 (a1.toNat : Int)] 35 :: (defs Ds1304 ++ [])) := hS1424.arr2 (.one (.tl .hd) (.one (.tl .hd) (.one (.tl .hd) (.one (.tl .hd) (.one (.tl .hd) (.one (.tl .hd) (.drop .hd .rest)))))))
    have hT1427 : Tr w1423 _ w1423 (.obj D1336 (.deferred (some [])) :: .cells b1324 [.int .u64 (u1411.toNat : Int)] 35 :: .cells b1319 [.int .u64 (u1412.toNat : Int)] 35 :: .row w.heap.size 35 (Rep.size UInt64) v988 xs985.length cs986 :: .cells b24 [vu14] 86 :: .cells b10 [.int .u64 (a1.toNat : Int)] 35 :: (defs Ds1304 ++ [])) := Tr.arr2 (St.arr2Of hS1424 (.one (.tl .hd) (.one (.tl .hd) (.one (.tl .hd) (.one (.tl .hd) (.one (.tl .hd) (.one (.tl .hd) (.drop .hd .rest))))))))
    refine MX.inBlock ?_
    refine MX.seq ?_
    refine MX.seq ?_
    refine MX.region ?_
    refine RG.val' .plain (FV.load1 (by kernel_rfl) rfl ((hS1426.memA (.tl (.tl .hd))) 0 _ rfl)) rfl ?_
    refine RG.val' .plain (FV.move rfl) rfl ?_
    refine RG.val' .plain (FV.eqlU (a := u1412) (b := u1305) rfl rfl) rfl ?_
    refine RG.nil ?_
    refine MX.ifd rfl h (fun c1428 h => ?_) (fun c1428 h => ?_)
    ·skip
     refine MX.exit rfl ?_
     have h := hh1312 _ h
     try dsimp only at h
     refine MX.seq ?_
     refine MX.region ?_
     refine RG.val' .plain (FV.move rfl) rfl ?_
     refine RG.val' .plain (FV.move rfl) rfl ?_
     refine RG.new .plain rfl (Does.build (α := UInt64) (xs := ([u1305] : List UInt64)) (vs := [.int .u64 (u1305.toNat : Int)]) (ds' := [.int .u64 (u1305.toNat : Int)]) rfl hS1426 el86 rfl (evs_cons rfl evs_nil) (by kernel_rfl) rfl) (fun w1430 b1433 hS1431 hT1432 => ?_)
     have hc1434 : Cells w1430 (bl (.row w.heap.size 35 (Rep.size UInt64) (.slice (some ⟨b1433, 0, none⟩) 1 1) (([u1305] : List UInt64).length) [.int .u64 (u1305.toNat : Int)] :: .obj D1336 (.deferred (some [])) :: .cells b1324 [.int .u64 (u1411.toNat : Int)] 35 :: .cells b1319 [.int .u64 (u1412.toNat : Int)] 35 :: .row w.heap.size 35 (Rep.size UInt64) v988 xs985.length cs986 :: .cells b24 [vu14] 86 :: .cells b10 [.int .u64 (a1.toNat : Int)] 35 :: (defs Ds1304 ++ [])) ++ L) [.int .u64 (u1305.toNat : Int)] (([u1305] : List UInt64) : List UInt64) := Cells.cons (cs := [.int .u64 (u1305.toNat : Int)]) (ds := []) rfl (Cells.nil _ _)
     obtain ⟨xs1435, hxs1435, h⟩ := bind_in h
     have hm1436 := Cells.mv hc987 (Tr.trans hT1307 (Tr.trans hT1318 (Tr.trans hT1322 (Tr.trans hT1331 (Tr.trans hT1334 (Tr.trans hT1414 (Tr.trans hT1425 (Tr.trans hT1427 hT1432))))))))
     refine RG.doesL .plain rfl (DoesL.app (α := UInt64) (ys := ([u1305] : List UInt64)) (F := fun v' cs' => (.row w.heap.size 35 (Rep.size UInt64) (.slice (some ⟨b1433, 0, none⟩) 1 1) (([u1305] : List UInt64).length) [.int .u64 (u1305.toNat : Int)] :: .obj D1336 (.deferred (some [])) :: .cells b1324 [.int .u64 (u1411.toNat : Int)] 35 :: .cells b1319 [.int .u64 (u1412.toNat : Int)] 35 :: .row w.heap.size 35 (Rep.size UInt64) v' xs1435.length cs' :: .cells b24 [vu14] 86 :: .cells b10 [.int .u64 (a1.toNat : Int)] 35 :: (defs Ds1304 ++ []))) hxs1435 hS1431 (fun _ _ => (.tl (.tl (.tl (.tl .hd))))) el86 rfl rfl hm1436 (Src.row (α := UInt64) hS1431 .hd hc1434)) (fun v1442 w1437 ⟨cs1441, hS1438, hT1439, hc1440⟩ => ?_)
     refine RG.val' .plain (FV.assign rfl) rfl ?_
     refine RG.nil ?_
     refine MX.region ?_
     refine RG.val' .plain (FV.move rfl) rfl ?_
     refine RG.val' .plain (FV.move rfl) rfl ?_
     refine RG.val' .plain (FV.andNotU (a := u984) (b := u1305) rfl rfl) rfl ?_
     refine RG.val' .plain (FV.assign rfl) rfl ?_
     refine RG.nil ?_
     refine MX.inBlock ?_
     have hS1444 : St _ _ (.row w.heap.size 35 (Rep.size UInt64) v1442 xs1435.length cs1441 :: .cells b24 [vu14] 86 :: .cells b10 [.int .u64 (a1.toNat : Int)] 35 :: .obj D1336 (.deferred (some [])) :: (defs Ds1304 ++ [])) := hS1438.arr2 (.one (.tl (.tl (.tl (.tl .hd)))) (.one (.tl (.tl (.tl (.tl .hd)))) (.one (.tl (.tl (.tl (.tl .hd)))) (.one (.tl .hd) (.drop .hd (.drop .hd (.drop .hd .rest)))))))
     have hT1445 : Tr w1437 _ w1437 (.row w.heap.size 35 (Rep.size UInt64) v1442 xs1435.length cs1441 :: .cells b24 [vu14] 86 :: .cells b10 [.int .u64 (a1.toNat : Int)] 35 :: .obj D1336 (.deferred (some [])) :: (defs Ds1304 ++ [])) := Tr.arr2 (St.arr2Of hS1438 (.one (.tl (.tl (.tl (.tl .hd)))) (.one (.tl (.tl (.tl (.tl .hd)))) (.one (.tl (.tl (.tl (.tl .hd)))) (.one (.tl .hd) (.drop .hd (.drop .hd (.drop .hd .rest))))))))
     have hm1446 := Cells.mv hc1440 hT1445
     exact hJ997 (u984 &&& ~~~u1305, xs1435, (D1336 :: Ds1304), v1442, cs1441) _ _ _ ⟨rfl, rfl, rfl, rfl, trivial⟩ rfl ⟨hS1444, (Tr.trans hT990 (Tr.trans hT1307 (Tr.trans hT1318 (Tr.trans hT1322 (Tr.trans hT1331 (Tr.trans hT1334 (Tr.trans hT1414 (Tr.trans hT1425 (Tr.trans hT1427 (Tr.trans hT1432 (Tr.trans hT1439 hT1445))))))))))), hm1446⟩ h
    ·skip
     refine MX.skip ?_
     refine MX.region ?_
     refine RG.val' .plain (FV.load1 (by kernel_rfl) rfl ((hS1426.memA (.tl (.tl .hd))) 0 _ rfl)) rfl ?_
     refine RG.val' .plain (FV.assign rfl) rfl ?_
     refine RG.nil ?_
     refine MX.inBlock ?_
     have hS1447 : St _ _ (.row w.heap.size 35 (Rep.size UInt64) v988 xs985.length cs986 :: .cells b24 [vu14] 86 :: .cells b10 [.int .u64 (a1.toNat : Int)] 35 :: .obj D1336 (.deferred (some [])) :: (defs Ds1304 ++ [])) := hS1426.arr2 (.one (.tl (.tl (.tl .hd))) (.one (.tl (.tl (.tl .hd))) (.one (.tl (.tl (.tl .hd))) (.one .hd (.drop .hd (.drop .hd .rest))))))
     have hT1448 : Tr w1423 _ w1423 (.row w.heap.size 35 (Rep.size UInt64) v988 xs985.length cs986 :: .cells b24 [vu14] 86 :: .cells b10 [.int .u64 (a1.toNat : Int)] 35 :: .obj D1336 (.deferred (some [])) :: (defs Ds1304 ++ [])) := Tr.arr2 (St.arr2Of hS1426 (.one (.tl (.tl (.tl .hd))) (.one (.tl (.tl (.tl .hd))) (.one (.tl (.tl (.tl .hd))) (.one .hd (.drop .hd (.drop .hd .rest)))))))
     exact hJ1314 (u1412, (D1336 :: Ds1304)) _ _ _ ⟨rfl, rfl, rfl, rfl, rfl, trivial⟩ rfl ⟨hS1447, (Tr.trans hT1307 (Tr.trans hT1318 (Tr.trans hT1322 (Tr.trans hT1331 (Tr.trans hT1334 (Tr.trans hT1414 (Tr.trans hT1425 (Tr.trans hT1427 hT1448))))))))⟩ h
   ·skip
    refine MX.skip ?_
    refine MX.seq ?_
    refine MX.block ?_
    refine MX.seq ?_
    refine MX.region ?_
    refine RG.val' .plain (FV.move rfl) rfl ?_
    refine RG.val' .plain (FV.load1 (by kernel_rfl) rfl ((hS1413.memA (.tl (.tl .hd))) 0 _ rfl)) rfl ?_
    obtain ⟨y1449, hy1449, h⟩ := bind_in h
    refine RG.callq' (v := .int .i64 y1449) (fst := []) (cap := []) .plain body77 rfl (evs_cons rfl evs_nil) (fun w9 hw9 => math_bits_TrailingZeros64_c n _ w9 (hS1413.hL0 hL hw9) u1411 (hG0.keep (hS1413.ag.trans hw9)) hy1449) rfl ?_
    refine RG.yield (vs := [.int .i64 y1449]) .plain rfl (evs_cons rfl evs_nil) hS1413 .hd rec1338 rfl rfl rfl (fun cs1451 hb1450 => ?_)
    refine MX.region ?_
    refine RG.val' .plain (FV.assign rfl) rfl ?_
    refine RG.nil ?_
    refine MX.begin hS1413 .hd (fun w1452 hS1453 hT1454 => ?_)
    refine MX.block ?_
    refine MX.drawT 8 tb47_9 (by kernel_rfl) (by kernel_rfl) (by kernel_rfl) (fun kt1455 kp1456 => ?_)
    refine RD.val (i := 0) (m' := 1) (W := 384) (takeC_ok kt1455 (by kernel_rfl)) rfl kp1456 .plain (FV.load1 (by kernel_rfl) rfl ((hS1453.memA (.tl (.tl (.tl .hd)))) 0 _ rfl)) rfl ?_
    refine RD.val (i := 1) (m' := 3) (W := 472) (takeC_ok kt1455 (by kernel_rfl)) rfl kp1456 .plain (FV.load1 (by kernel_rfl) rfl ((hS1453.memA (.tl (.tl (.tl (.tl (.tl .hd)))))) 0 _ rfl)) rfl ?_
    refine RD.vP 2 7 kt1455 rfl kp1456 .plain (fun _ => FV.move rfl) rfl ?_
    obtain ⟨x1457, hx1457, h⟩ := bind_in h
    obtain ⟨hi1458, hx1459⟩ := idx_in hx1457
    have hm1467 := Rep.mv hr19 (Tr.trans hT23 (Tr.trans hT28 (Tr.trans hT31 (Tr.trans hT981 (Tr.trans hT990 (Tr.trans hT1307 (Tr.trans hT1318 (Tr.trans hT1322 (Tr.trans hT1331 (Tr.trans hT1334 (Tr.trans hT1414 hT1454)))))))))))
    obtain ⟨A1460, c1461, he1462, hk1463, cs1464, hr1465, hm1466⟩ := Rep.nth hm1467 hx1459
    have he1468 : cs1464 = [.int .u64 (x1457.toNat : Int)] := hr1465; subst he1468
    refine RD.vP 3 15 kt1455 rfl kp1456 .plain (fun _ => FV.idxAddr (m := 1) (i := y1449.toNat) (by kernel_rfl) rfl he1462 rfl hi1458 hk1463) rfl ?_
    refine RD.val (i := 4) (m' := 31) (W := 448) (takeC_ok kt1455 (by kernel_rfl)) rfl kp1456 .plain (FV.load1 (by kernel_rfl) rfl (hm1466 0 _ rfl)) rfl ?_
    refine RD.val (i := 5) (m' := 63) (W := 448) (takeC_ok kt1455 (by kernel_rfl)) rfl kp1456 .plain (FV.load1 (by kernel_rfl) rfl ((hS1453.memA (.tl (.tl (.tl (.tl (.tl (.tl .hd))))))) 0 _ rfl)) rfl ?_
    refine RD.vP 6 127 kt1455 rfl kp1456 .plain (fun _ => FV.andU (a := x1457) (b := a1) rfl rfl) rfl ?_
    refine RD.vP 7 255 kt1455 rfl kp1456 .plain (fun _ => FV.orU (a := u1412) (b := x1457 &&& a1) rfl rfl) rfl ?_
    refine RD.one (i := 8) (readyD_ok kt1455 (by kernel_rfl)) (RO.now (m' := 511) (stepC_ok kt1455 (by kernel_rfl)) rfl rfl .plain (Acts.store (j := 0) (old := [.int .u64 (u1412.toNat : Int)]) (news := [.int .u64 ((u1412 ||| (x1457 &&& a1)).toNat : Int)]) (new' := [.int .u64 ((u1412 ||| (x1457 &&& a1)).toNat : Int)]) hS1453 (.tl (.tl (.tl .hd))) rfl rfl rfl rfl rfl rfl (ones_cons rfl ones_nil) rfl) (fun w1469 hS1470 hT1471 => ?_))
    refine RD.done (doneD_ok kt1455 (by kernel_rfl)) ?_
    refine MX.inBlock ?_
    refine MX.roundEnd hb1450 hS1470 .hd (fun w1472 hS1473 hT1474 => ?_)
    refine RG.val' .plain (FV.not rfl) rfl ?_
    refine RG.nil ?_
    refine MX.cond_f rfl ?_
    refine MX.skip ?_
    refine MX.inBlock ?_
    refine MX.region ?_
    refine RG.val' .plain (FV.load1 (by kernel_rfl) rfl ((hS1473.memA (.tl (.tl .hd))) 0 _ rfl)) rfl ?_
    refine RG.val' .plain (FV.load1 (by kernel_rfl) rfl ((hS1473.memA (.tl (.tl .hd))) 0 _ rfl)) rfl ?_
    refine RG.val' .plain (FV.subU (a := u1411) (b := (1 : UInt64)) rfl rfl) rfl ?_
    refine RG.val' .plain (FV.andU (a := u1411) (b := u1411 - (1 : UInt64)) rfl rfl) rfl ?_
    refine RG.now .plain (Acts.store (j := 0) (old := [.int .u64 (u1411.toNat : Int)]) (news := [.int .u64 ((u1411 &&& (u1411 - (1 : UInt64))).toNat : Int)]) (new' := [.int .u64 ((u1411 &&& (u1411 - (1 : UInt64))).toNat : Int)]) hS1473 (.tl (.tl .hd)) rfl rfl rfl rfl rfl rfl (ones_cons rfl ones_nil) rfl) (fun w1475 hS1476 hT1477 => ?_)
    refine RG.nil ?_
    exact hJ1421 (u1411 &&& (u1411 - (1 : UInt64)), u1412 ||| (x1457 &&& a1)) _ _ ⟨rfl, rfl, trivial⟩ ⟨hS1476, (Tr.trans hT1414 (Tr.trans hT1454 (Tr.trans hT1471 (Tr.trans hT1474 hT1477))))⟩ h
end Go.Proofs.YtplkfbljncfdnaaDoor
