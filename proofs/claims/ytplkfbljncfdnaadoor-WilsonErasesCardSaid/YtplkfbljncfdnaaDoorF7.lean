/- Functions of the program, and what they give: part 7. -/
import Derived.Test.YtplkfbljncfdnaaDoorF6
namespace Go.Proofs.YtplkfbljncfdnaaDoor
open Go Go.RowKit

def tb31_2 : List (Nat × Nat × Nat) := [(0, 1024, 8), (0, 2048, 8), (2, 4096, 2048), (4, 8192, 4096), (9, 16384, 9216), (16, 32768, 16384), (0, 65536, 1), (0, 131072, 1), (128, 262144, 131072), (256, 524288, 262144), (576, 1048576, 589824), (1024, 2097152, 1048576), (2080, 4194304, 2129920)]
def wardmoteref31_Erased_l1 (n : Nat) (a0 : List Int) (x258 : Int) (J319 : Int → Option Int) : Int → Option Int
  | z311 => (idx a0 z311).bind fun x321 => (if x321 = x258 then some z311 else (chk (z311 - 1)).bind fun s364 => J319 s364)
def wardmoteref31_Erased_l2 (n : Nat) (a0 : List Int) (J250 : (List Int) → Option (List Int)) : (List Int) → Option (List Int)
  | xs239 => (idx xs239 (((xs239.length : Nat) : Int) - 1)).bind fun x258 => (idx a0 (((a0.length : Nat) : Int) - 1)).bind fun x274 => (if x258 = x274 then some xs239 else Option.bind (loopF (wardmoteref31_Erased_l1 n a0 x258) n (((a0.length : Nat) : Int) - 1)) (fun z311 => (chk (z311 + 1)).bind fun s334 => (idx a0 s334).bind fun x335 => (app xs239 ([x335] : List Int)).bind fun xs352 => J250 xs352))
def wardmoteref31_Erased_p (n : Nat) (a0 : List Int) : Option (List Int) :=
  (a0[0]?).bind fun x1 => Option.bind (loopF (wardmoteref31_Erased_l2 n a0) n ([x1] : List Int)) (fun xs239 => some xs239)
set_option maxRecDepth 4000 in
set_option maxHeartbeats 4000000 in
theorem wardmoteref31_Erased_c (n : Nat) (L : List Nat) (w : World) (hL : ∀ b ∈ L, b < w.heap.size) (a0 : List Int) {v0_0 : Value} (h0_0 : Rep.R w L [v0_0] a0)  {r : List Int} (h : wardmoteref31_Erased_p n a0 = some r) :
    Calls Tryd.prog 31 #[v0_0] w (Gives w fun w' u => ∃ v0_0 : Value, u = v0_0 ∧ Rep.R w' L [v0_0] r) := by
  unfold wardmoteref31_Erased_p at h
  have hS0 := St.start w
  refine MX.start Tryd.func31 rfl rfl rfl (fun _ cs0 hb0 => ?_)
  refine MX.seq ?_
  refine MX.region ?_
  refine RG.val' .plain (FV.assign rfl) rfl ?_
  refine RG.nil ?_
  refine MX.seq ?_
  refine MX.region ?_
  refine RG.val' .plain (FV.move rfl) rfl ?_
  obtain ⟨x1, hx1, h⟩ := bind_in h
  obtain ⟨A2, c3, he4, hk5, cs6, hr7, hm8⟩ := Rep.nth h0_0 hx1
  have he9 : cs6 = [.int .i64 x1] := hr7; subst he9
  refine RG.val' .plain (FV.idxAddr (m := 1) (i := 0) (by kernel_rfl) rfl he4 rfl rfl hk5) rfl ?_
  refine RG.val' .plain (FV.load1 (by kernel_rfl) rfl (hm8 0 _ rfl)) rfl ?_
  refine RG.new .plain rfl (Does.build (α := Int) (xs := ([x1] : List Int)) (vs := [.int .i64 x1]) (ds' := [.int .i64 x1]) rfl hS0 el22 rfl (evs_cons rfl evs_nil) (by kernel_rfl) rfl) (fun w11 b14 hS12 hT13 => ?_)
  have hc15 : Cells w11 (bl [.row w.heap.size 3 (Rep.size Int) (.slice (some ⟨b14, 0, none⟩) 1 1) (([x1] : List Int).length) [.int .i64 x1]] ++ L) [.int .i64 x1] (([x1] : List Int) : List Int) := Cells.cons (cs := [.int .i64 x1]) (ds := []) rfl (Cells.nil _ _)
  refine RG.val' .plain (FV.assign rfl) rfl ?_
  refine RG.nil ?_
  refine MX.seq ?_
  refine MX.block ?_
  obtain ⟨o248, ho247, hh249⟩ := bind_in2 h
  refine MX.loop (α := (List Int) × Value × (List Value)) (fun ⟨xs239, v242, cs240⟩ => [(0, v0_0), (3, v242)]) (fun ⟨xs239, v242, cs240⟩ wx242 => St w wx242 [.row w.heap.size 3 (Rep.size Int) v242 xs239.length cs240] ∧ Tr w11 [.row w.heap.size 3 (Rep.size Int) (.slice (some ⟨b14, 0, none⟩) 1 1) (([x1] : List Int).length) [.int .i64 x1]] wx242 [.row w.heap.size 3 (Rep.size Int) v242 xs239.length cs240] ∧ Cells wx242 (bl [.row w.heap.size 3 (Rep.size Int) v242 xs239.length cs240] ++ L) cs240 xs239) (fun ⟨xs239, v242, cs240⟩ => xs239) (([x1] : List Int), (.slice (some ⟨b14, 0, none⟩) 1 1), [.int .i64 x1]) ho247 ⟨rfl, rfl, trivial⟩ ⟨hS12, Tr.refl _ _, hc15⟩ ?_
  rintro J250 ⟨xs239, v242, cs240⟩ wx242 hJ251 ⟨hS243, hT244, hc241⟩ h
  unfold wardmoteref31_Erased_l2 at h
  try dsimp only at h
  refine MX.seq ?_
  refine MX.seq ?_
  refine MX.drawT 13 tb31_2 (by kernel_rfl) (by kernel_rfl) (by kernel_rfl) (fun kt252 kp253 => ?_)
  refine RD.valP (i := 0) (m' := 1) (takePC_ok kt252 (by kernel_rfl)) rfl kp253 .plain (fun _ => FV.move rfl) rfl ?_
  refine RD.valP (i := 1) (m' := 3) (takePC_ok kt252 (by kernel_rfl)) rfl kp253 .plain (fun _ => FV.move rfl) rfl ?_
  have hl254 : xs239.length ≤ 4294967296 := St.rowLe (α := Int) hS243 .hd
  obtain ⟨A255, c256, he257⟩ := St.rowV (α := Int) hS243 .hd
  refine RD.val (i := 2) (m' := 7) (W := 4152) (takeC_ok kt252 (by kernel_rfl)) rfl kp253 .plain (FV.lenV Tryd.underlying22 rfl he257) rfl ?_
  refine RD.valP (i := 3) (m' := 15) (takePC_ok kt252 (by kernel_rfl)) rfl kp253 .plain (fun _ => FV.subI (i := ((xs239.length : Nat) : Int)) (j := 1) rfl rfl (by omega)) rfl ?_
  obtain ⟨x258, hx258, h⟩ := bind_in h
  obtain ⟨hi259, hx260⟩ := idx_in hx258
  obtain ⟨A261, c262, he263, hk264, cs265, hr266, hm267⟩ := St.nth (α := Int) hS243 .hd hc241 hx260
  obtain ⟨b268, c269, he270⟩ := St.nthOwn (α := Int) hS243 .hd hk264
  obtain rfl : A261 = ⟨b268, 0, none⟩ := by rw [he270] at he263; cases he263; rfl
  have he271 : cs265 = [.int .i64 x258] := hr266; subst he271
  refine RD.valP (i := 4) (m' := 31) (takePC_ok kt252 (by kernel_rfl)) rfl kp253 .plain (fun _ => FV.idxAddr (m := 1) (i := (((xs239.length : Nat) : Int) - 1).toNat) (by kernel_rfl) rfl he263 rfl hi259 hk264) rfl ?_
  refine RD.val (i := 5) (m' := 63) (W := 4096) (takeC_ok kt252 (by kernel_rfl)) rfl kp253 .plain (FV.load1 (by kernel_rfl) rfl (hm267 0 _ rfl)) rfl ?_
  refine RD.valP (i := 6) (m' := 127) (takePC_ok kt252 (by kernel_rfl)) rfl kp253 .plain (fun _ => FV.move rfl) rfl ?_
  refine RD.valP (i := 7) (m' := 255) (takePC_ok kt252 (by kernel_rfl)) rfl kp253 .plain (fun _ => FV.move rfl) rfl ?_
  have hm273 := Rep.mv h0_0 (Tr.trans hT13 hT244)
  have hl272 : a0.length ≤ 281474976710656 := Rep.lenle hm273
  refine RD.val (i := 8) (m' := 511) (W := 7680) (takeC_ok kt252 (by kernel_rfl)) rfl kp253 .plain (FV.len (xs := a0) Tryd.underlying22 rfl hm273) rfl ?_
  refine RD.valP (i := 9) (m' := 1023) (takePC_ok kt252 (by kernel_rfl)) rfl kp253 .plain (fun _ => FV.subI (i := ((a0.length : Nat) : Int)) (j := 1) rfl rfl (by omega)) rfl ?_
  obtain ⟨x274, hx274, h⟩ := bind_in h
  obtain ⟨hi275, hx276⟩ := idx_in hx274
  obtain ⟨A277, c278, he279, hk280, cs281, hr282, hm283⟩ := Rep.nth hm273 hx276
  have he284 : cs281 = [.int .i64 x274] := hr282; subst he284
  refine RD.valP (i := 10) (m' := 2047) (takePC_ok kt252 (by kernel_rfl)) rfl kp253 .plain (fun _ => FV.idxAddr (m := 1) (i := (((a0.length : Nat) : Int) - 1).toNat) (by kernel_rfl) rfl he279 rfl hi275 hk280) rfl ?_
  refine RD.val (i := 11) (m' := 4095) (W := 4096) (takeC_ok kt252 (by kernel_rfl)) rfl kp253 .plain (FV.load1 (by kernel_rfl) rfl (hm283 0 _ rfl)) rfl ?_
  refine RD.valP (i := 12) (m' := 8191) (takePC_ok kt252 (by kernel_rfl)) rfl kp253 .plain (fun _ => FV.neq (i := x258) (j := x274) rfl rfl) rfl ?_
  refine RD.done (doneD_ok kt252 (by kernel_rfl)) ?_
  refine MX.ifn rfl h (fun c285 h => ?_) (fun c285 h => ?_)
  · skip
    refine MX.exit rfl ?_
    have h := hh249 _ h
    try dsimp only at h
    refine MX.seq ?_
    refine MX.region ?_
    refine RG.val' .plain (FV.move rfl) rfl ?_
    refine RG.val' .plain (FV.assign rfl) rfl ?_
    refine RG.nil ?_
    refine MX.ret rfl ?_
    have hr286 := St.freeze (α := Int) hS243 .hd hc241 hL
    have hS287 := hS243.del (.hd : Out _ _ _).del
    have hT288 := Tr.del (w := wx242) (.hd : Out [.row w.heap.size 3 (Rep.size Int) v242 xs239.length cs240] _ _).del
    have hr289 : Rep.R wx242 (bl [] ++ L) [v242] xs239 := hr286
    refine RT.leave (u := v242) hb0 Tryd.func31 rfl (.cons (.tmp rfl) .nil) rfl ?_
    obtain rfl := Option.some.inj h
    exact ⟨hS287.ag, fun w9 hw9 => ⟨v242, rfl, Rep.keep0 (Rep.dropO (O := []) hr289) hw9⟩⟩
  · skip
    refine MX.skip ?_
    refine MX.block ?_
    refine MX.seq ?_
    refine MX.region ?_
    refine RG.val' .plain (FV.move rfl) rfl ?_
    refine RG.val' .plain (FV.move rfl) rfl ?_
    obtain ⟨A290, c291, he292⟩ := St.rowV (α := Int) hS243 .hd
    refine RG.val' .plain (FV.lenV Tryd.underlying22 rfl he292) rfl ?_
    refine RG.val' .plain (FV.subI (i := ((xs239.length : Nat) : Int)) (j := 1) rfl rfl (by omega)) rfl ?_
    refine RG.val' .plain (FV.idxAddr (m := 1) (i := (((xs239.length : Nat) : Int) - 1).toNat) (by kernel_rfl) rfl he263 rfl hi259 hk264) rfl ?_
    refine RG.val' .plain (FV.load1 (by kernel_rfl) rfl (hm267 0 _ rfl)) rfl ?_
    refine RG.val' .plain (FV.assign rfl) rfl ?_
    refine RG.nil ?_
    refine MX.seq ?_
    refine MX.region ?_
    refine RG.val' .plain (FV.move rfl) rfl ?_
    refine RG.val' .plain (FV.len (xs := a0) Tryd.underlying22 rfl hm273) rfl ?_
    refine RG.val' .plain (FV.subI (i := ((a0.length : Nat) : Int)) (j := 1) rfl rfl (by omega)) rfl ?_
    refine RG.val' .plain (FV.assign rfl) rfl ?_
    refine RG.nil ?_
    refine MX.seq ?_
    refine MX.block ?_
    obtain ⟨o317, ho316, hh318⟩ := bind_in2 h
    refine MX.loop (α := Int) (fun z311 => [(0, v0_0), (3, v242), (4, .int .i64 x258), (5, .int .i64 z311)]) (fun z311 wx311 => St w wx311 [.row w.heap.size 3 (Rep.size Int) v242 xs239.length cs240] ∧ Tr wx242 [.row w.heap.size 3 (Rep.size Int) v242 xs239.length cs240] wx311 [.row w.heap.size 3 (Rep.size Int) v242 xs239.length cs240]) (fun z311 => z311) (((a0.length : Nat) : Int) - 1) ho316 ⟨rfl, rfl, rfl, rfl, trivial⟩ ⟨hS243, Tr.refl _ _⟩ ?_
    rintro J319 z311 wx311 hJ320 ⟨hS312, hT313⟩ h
    unfold wardmoteref31_Erased_l1 at h
    try dsimp only at h
    refine MX.seq ?_
    refine MX.seq ?_
    refine MX.region ?_
    refine RG.val' .plain (FV.move rfl) rfl ?_
    refine RG.val' .plain (FV.move rfl) rfl ?_
    obtain ⟨x321, hx321, h⟩ := bind_in h
    obtain ⟨hi322, hx323⟩ := idx_in hx321
    have hm331 := Rep.mv h0_0 (Tr.trans hT13 (Tr.trans hT244 hT313))
    obtain ⟨A324, c325, he326, hk327, cs328, hr329, hm330⟩ := Rep.nth hm331 hx323
    have he332 : cs328 = [.int .i64 x321] := hr329; subst he332
    refine RG.val' .plain (FV.idxAddr (m := 1) (i := z311.toNat) (by kernel_rfl) rfl he326 rfl hi322 hk327) rfl ?_
    refine RG.val' .plain (FV.load1 (by kernel_rfl) rfl (hm330 0 _ rfl)) rfl ?_
    refine RG.val' .plain (FV.move rfl) rfl ?_
    refine RG.val' .plain (FV.neq (i := x321) (j := x258) rfl rfl) rfl ?_
    refine RG.nil ?_
    refine MX.ifn rfl h (fun c333 h => ?_) (fun c333 h => ?_)
    · skip
      refine MX.exit rfl ?_
      have h := hh318 _ h
      try dsimp only at h
      refine MX.region ?_
      refine RG.val' .plain (FV.move rfl) rfl ?_
      refine RG.val' .plain (FV.move rfl) rfl ?_
      refine RG.val' .plain (FV.move rfl) rfl ?_
      obtain ⟨s334, hs334, h⟩ := bind_in h
      refine RG.val' .plain (FV.addc (i := z311) (j := 1) rfl rfl hs334) rfl ?_
      obtain ⟨x335, hx335, h⟩ := bind_in h
      obtain ⟨hi336, hx337⟩ := idx_in hx335
      obtain ⟨A338, c339, he340, hk341, cs342, hr343, hm344⟩ := Rep.nth hm331 hx337
      have he345 : cs342 = [.int .i64 x335] := hr343; subst he345
      refine RG.val' .plain (FV.idxAddr (m := 1) (i := s334.toNat) (by kernel_rfl) rfl he340 rfl hi336 hk341) rfl ?_
      refine RG.val' .plain (FV.load1 (by kernel_rfl) rfl (hm344 0 _ rfl)) rfl ?_
      refine RG.new .plain rfl (Does.build (α := Int) (xs := ([x335] : List Int)) (vs := [.int .i64 x335]) (ds' := [.int .i64 x335]) rfl hS312 el22 rfl (evs_cons rfl evs_nil) (by kernel_rfl) rfl) (fun w347 b350 hS348 hT349 => ?_)
      have hc351 : Cells w347 (bl [.row w.heap.size 3 (Rep.size Int) (.slice (some ⟨b350, 0, none⟩) 1 1) (([x335] : List Int).length) [.int .i64 x335], .row w.heap.size 3 (Rep.size Int) v242 xs239.length cs240] ++ L) [.int .i64 x335] (([x335] : List Int) : List Int) := Cells.cons (cs := [.int .i64 x335]) (ds := []) rfl (Cells.nil _ _)
      obtain ⟨xs352, hxs352, h⟩ := bind_in h
      have hm353 := Cells.mv hc241 (Tr.trans hT313 hT349)
      refine RG.doesL .plain rfl (DoesL.app (α := Int) (ys := ([x335] : List Int)) (F := fun v' cs' => [.row w.heap.size 3 (Rep.size Int) (.slice (some ⟨b350, 0, none⟩) 1 1) (([x335] : List Int).length) [.int .i64 x335], .row w.heap.size 3 (Rep.size Int) v' xs352.length cs']) hxs352 hS348 (fun _ _ => (.tl .hd)) el22 rfl rfl hm353 (Src.row (α := Int) hS348 .hd hc351)) (fun v359 w354 ⟨cs358, hS355, hT356, hc357⟩ => ?_)
      refine RG.val' .plain (FV.assign rfl) rfl ?_
      refine RG.nil ?_
      refine MX.inBlock ?_
      have hS361 : St _ _ [.row w.heap.size 3 (Rep.size Int) v359 xs352.length cs358] := hS355.arr (.one (.tl .hd) .done)
      have hT362 : Tr w354 _ w354 [.row w.heap.size 3 (Rep.size Int) v359 xs352.length cs358] := Tr.arr (St.arrOf hS355 (.one (.tl .hd) .done))
      have hm363 := Cells.mv hc357 hT362
      exact hJ251 (xs352, v359, cs358) _ _ ⟨rfl, rfl, trivial⟩ ⟨hS361, (Tr.trans hT244 (Tr.trans hT313 (Tr.trans hT349 (Tr.trans hT356 hT362)))), hm363⟩ h
    · skip
      refine MX.skip ?_
      refine MX.block ?_
      refine MX.region ?_
      refine RG.val' .plain (FV.move rfl) rfl ?_
      obtain ⟨s364, hs364, h⟩ := bind_in h
      refine RG.val' .plain (FV.subc (i := z311) (j := 1) rfl rfl hs364) rfl ?_
      refine RG.val' .plain (FV.assign rfl) rfl ?_
      refine RG.nil ?_
      refine MX.inBlock ?_
      exact hJ320 s364 _ _ ⟨rfl, rfl, rfl, rfl, trivial⟩ ⟨hS312, hT313⟩ h
theorem body31 : bodyB Tryd.prog 31 = true := by kernel_rfl
def wardmoteref31_Erase_p (n : Nat) (a0 : List Int) : Option ((List Int) × Int) :=
  (if a0.length = 0 then some (([] : List Int), 4) else (if 10001 < a0.length then some (([] : List Int), 3) else (wardmoteref31_Erased_p n a0).bind fun y8 => some (y8, 0)))
set_option maxRecDepth 4000 in
set_option maxHeartbeats 4000000 in
theorem wardmoteref31_Erase_c (n : Nat) (L : List Nat) (w : World) (hL : ∀ b ∈ L, b < w.heap.size) (a0 : List Int) {v0_0 : Value} (h0_0 : Rep.R w L [v0_0] a0)  {r : (List Int) × Int} (h : wardmoteref31_Erase_p n a0 = some r) :
    Calls Tryd.prog 11 #[v0_0] w (Gives w fun w' u => ∃ v0_0 : Value, u = .tuple #[v0_0, .int .i64 r.2] ∧ Rep.R w' L [v0_0] r.1) := by
  unfold wardmoteref31_Erase_p at h
  have hS0 := St.start w
  refine MX.start Tryd.func11 rfl rfl rfl (fun _ cs0 hb0 => ?_)
  refine MX.seq ?_
  refine MX.region ?_
  refine RG.val' .plain (FV.assign rfl) rfl ?_
  refine RG.val' .plain (FV.assign rfl) rfl ?_
  refine RG.nil ?_
  refine MX.seq ?_
  refine MX.seq ?_
  refine MX.region ?_
  refine RG.val' .plain (FV.move rfl) rfl ?_
  have hl1 : a0.length ≤ 281474976710656 := Rep.lenle h0_0
  refine RG.val' .plain (FV.len (xs := a0) Tryd.underlying22 rfl h0_0) rfl ?_
  refine RG.val' .plain (FV.eqlN (i := a0.length) (j := 0) rfl rfl) rfl ?_
  refine RG.nil ?_
  refine MX.ifd rfl h (fun c2 h => ?_) (fun c2 h => ?_)
  · skip
    refine MX.seq ?_
    refine MX.region ?_
    refine RG.val' .plain (FV.assign rfl) rfl ?_
    refine RG.val' .plain (FV.assign rfl) rfl ?_
    refine RG.nil ?_
    refine MX.ret rfl ?_
    have hr3 : Rep.R w (bl [] ++ L) [.slice none 0 0] ([] : List Int) := Rep.nilSlice _ _
    refine RT.leave (u := .tuple #[.slice none 0 0, .int .i64 4]) hb0 Tryd.func11 rfl (.cons (.tmp rfl) (.cons (.tmp rfl) .nil)) rfl ?_
    obtain rfl := Option.some.inj h
    have hr4 : Rep.R w (bl [] ++ L) [.slice none 0 0] ([] : List Int) := Rep.nilSlice _ _
    exact ⟨hS0.ag, fun w9 hw9 => ⟨(.slice none 0 0), rfl, Rep.keep0 (Rep.dropO (O := []) hr4) hw9⟩⟩
  · skip
    refine MX.skip ?_
    refine MX.seq ?_
    refine MX.seq ?_
    refine MX.region ?_
    refine RG.val' .plain (FV.move rfl) rfl ?_
    refine RG.val' .plain (FV.len (xs := a0) Tryd.underlying22 rfl h0_0) rfl ?_
    refine RG.val' .plain (FV.gtrN (i := a0.length) (j := 10001) rfl rfl) rfl ?_
    refine RG.nil ?_
    refine MX.ifd rfl h (fun c5 h => ?_) (fun c5 h => ?_)
    · skip
      refine MX.seq ?_
      refine MX.region ?_
      refine RG.val' .plain (FV.assign rfl) rfl ?_
      refine RG.val' .plain (FV.assign rfl) rfl ?_
      refine RG.nil ?_
      refine MX.ret rfl ?_
      have hr6 : Rep.R w (bl [] ++ L) [.slice none 0 0] ([] : List Int) := Rep.nilSlice _ _
      refine RT.leave (u := .tuple #[.slice none 0 0, .int .i64 3]) hb0 Tryd.func11 rfl (.cons (.tmp rfl) (.cons (.tmp rfl) .nil)) rfl ?_
      obtain rfl := Option.some.inj h
      have hr7 : Rep.R w (bl [] ++ L) [.slice none 0 0] ([] : List Int) := Rep.nilSlice _ _
      exact ⟨hS0.ag, fun w9 hw9 => ⟨(.slice none 0 0), rfl, Rep.keep0 (Rep.dropO (O := []) hr7) hw9⟩⟩
    · skip
      refine MX.skip ?_
      refine MX.seq ?_
      refine MX.region ?_
      refine RG.val' .plain (FV.move rfl) rfl ?_
      obtain ⟨y8, hy8, h⟩ := bind_in h
      refine RG.call' (fst := []) (cap := []) .plain body31 rfl (evs_cons rfl evs_nil) (fun w9 hw9 => wardmoteref31_Erased_c n _ w9 (hS0.hL hL hw9) a0 (Rep.keep0 h0_0 hw9) hy8) rfl (fun w9 vu10 hag11 ⟨v14, hu_, hr15⟩ => ?_)
      subst hu_
      have hS12 := hS0.agree hag11
      have hT13 := Tr.agree (O := []) hag11
      refine RG.val' .plain (FV.assign rfl) rfl ?_
      refine RG.val' .plain (FV.assign rfl) rfl ?_
      refine RG.nil ?_
      refine MX.ret rfl ?_
      refine RT.leave (u := .tuple #[vu10, .int .i64 0]) hb0 Tryd.func11 rfl (.cons (.tmp rfl) (.cons (.tmp rfl) .nil)) rfl ?_
      obtain rfl := Option.some.inj h
      exact ⟨hS12.ag, fun w9 hw9 => ⟨vu10, rfl, Rep.keep0 (Rep.dropO (O := []) hr15) hw9⟩⟩
theorem el26 : ElT Tryd.prog 26 22 (Rep.size (List Int)) 24 (.slice none 0 0) [.slice none 0 0] := ⟨Tryd.underlying26, by kernel_rfl, rfl, rfl, rfl, rfl⟩
theorem body9 : bodyB Tryd.prog 9 = true := by kernel_rfl
theorem body11 : bodyB Tryd.prog 11 = true := by kernel_rfl
def wardmotelaw31_WilsonErases_l1 (n : Nat) (xs175 : List (List Int)) (J236 : Nat → Option (Bool ⊕ Unit)) : Nat → Option (Bool ⊕ Unit)
  | i228 => (if i228 < xs175.length then (xs175[i228]?).bind fun x239 => (wilson_Erase_p n x239).bind fun y253 => (wardmoteref31_Erase_p n x239).bind fun y261 => (slices_Equal_int_int_p n y253.1 y261.1).bind fun y270 => (if y270 = true then (if y253.2 = y261.2 then J236 (i228 + 1) else some (.inl false)) else some (.inl false)) else some (.inr ()))
def wardmotelaw31_WilsonErases_l2 (n : Nat) (xs4 : List UInt8) (J90 : Nat × (List Int) → Option (List Int)) : Nat × (List Int) → Option (List Int)
  | (i78, xs79) => (if i78 < xs4.length then (xs4[i78]?).bind fun x93 => (app xs79 ([(((x93 % (8 : UInt8)).toNat : Nat) : Int)] : List Int)).bind fun xs110 => J90 (i78 + 1, xs110) else some xs79)
def wardmotelaw31_WilsonErases_p (n : Nat) (a0 : List Int) (a1 : List UInt8) (a2 : UInt16) : Option Bool :=
  (wardmotelaw31_works_p n).bind fun y1 => (if y1 = true then (cut a1 0 ((min a1.length 40 : Nat) : Int)).bind fun xs4 => Option.bind (loopF (wardmotelaw31_WilsonErases_l2 n xs4) n (0, ([] : List Int))) (fun xs79 => (cut a0 0 ((min a0.length 40 : Nat) : Int)).bind fun xs124 => jn (fun xs175 => thn (loopF (wardmotelaw31_WilsonErases_l1 n xs175) n 0) (fun _ => some true)) (fun J182 => (if ((a2 % (64 : UInt16)).toNat) = 0 then (mk ((9950 + ((a2 / (64 : UInt16)).toNat) : Nat) : Int) (0 : Int)).bind fun xs277 => (app ([xs124, xs79] : List (List Int)) ([xs277] : List (List Int))).bind fun xs294 => J182 xs294 else J182 ([xs124, xs79] : List (List Int))))) else some false)
set_option maxRecDepth 4000 in
set_option maxHeartbeats 4000000 in
theorem wardmotelaw31_WilsonErases_c (n : Nat) (L : List Nat) (w : World) (hL : ∀ b ∈ L, b < w.heap.size) (a0 : List Int) {v0_0 : Value} (h0_0 : Rep.R w L [v0_0] a0) (a1 : List UInt8) {v1_0 : Value} (h1_0 : Rep.R w L [v1_0] a1) (a2 : UInt16) (hG0 : Glob 0 tab0 w)  {r : Bool} (h : wardmotelaw31_WilsonErases_p n a0 a1 a2 = some r) :
    Calls Tryd.prog 3 #[v0_0, v1_0, .int .u16 (a2.toNat : Int)] w (Gives w fun w' u => u = .bool r) := by
  unfold wardmotelaw31_WilsonErases_p at h
  have hS0 := St.start w
  refine MX.start Tryd.func3 rfl rfl rfl (fun _ cs0 hb0 => ?_)
  refine MX.seq ?_
  refine MX.region ?_
  refine RG.val' .plain (FV.assign rfl) rfl ?_
  refine RG.nil ?_
  refine MX.seq ?_
  refine MX.seq ?_
  refine MX.region ?_
  obtain ⟨y1, hy1, h⟩ := bind_in h
  refine RG.callq' (v := .bool y1) (fst := []) (cap := []) .plain body9 rfl evs_nil (fun w9 hw9 => wardmotelaw31_works_c n _ w9 (hS0.hL0 hL hw9) (hG0.keep (hS0.ag.trans hw9)) hy1) rfl ?_
  refine RG.val' .plain (FV.not rfl) rfl ?_
  refine RG.nil ?_
  refine MX.ifnb rfl h (fun c2 h => ?_) (fun c2 h => ?_)
  · skip
    refine MX.skip ?_
    refine MX.seq ?_
    refine MX.region ?_
    refine RG.val' .plain (FV.assign rfl) rfl ?_
    refine RG.nil ?_
    refine MX.seq ?_
    refine MX.seq ?_
    refine MX.region ?_
    refine RG.val' .plain (FV.move rfl) rfl ?_
    refine RG.val' .plain (FV.move rfl) rfl ?_
    have hl3 : a1.length ≤ 281474976710656 := Rep.lenle h1_0
    refine RG.val' .plain (FV.len (xs := a1) Tryd.underlying23 rfl h1_0) rfl ?_
    refine RG.val' .plain (FV.min2N (i := a1.length) (j := 40) rfl rfl) rfl ?_
    obtain ⟨xs4, hxs4, h⟩ := bind_in h
    refine RG.valE .plain rfl (FV.cutL (α := UInt8) hxs4 (by kernel_rfl) rfl h1_0 rfl ⟨_, rfl⟩) (fun v5 hr6 => ?_)
    have hl7 : xs4.length ≤ 281474976710656 := Rep.lenle hr6
    refine RG.val' .plain (FV.len (xs := xs4) Tryd.underlying23 rfl hr6) rfl ?_
    refine RG.val' .plain (FV.move rfl) rfl ?_
    refine RG.nil ?_
    refine MX.block ?_
    have hS9 := hS0.nilRow 3 (Rep.size Int)
    have hT10 := Tr.nilRow (w := w) (O := []) w.heap.size 3 (Rep.size Int)
    have hc11 : Cells w (bl [.row w.heap.size 3 (Rep.size Int) (.slice none 0 0) (([] : List Int).length) []] ++ L) [] ([] : List Int) := Cells.nil _ _
    obtain ⟨o88, ho87, hh89⟩ := bind_in2 h
    refine MX.loop (α := Nat × (List Int) × Value × (List Value)) (fun ⟨i78, xs79, v82, cs80⟩ => [(0, v0_0), (2, .int .u16 (a2.toNat : Int)), (7, v82), (23, v5), (24, .int .i64 ((xs4.length : Nat) : Int)), (25, .int .i64 ((i78 : Nat) : Int))]) (fun ⟨i78, xs79, v82, cs80⟩ wx82 => St w wx82 [.row w.heap.size 3 (Rep.size Int) v82 xs79.length cs80] ∧ Tr w [.row w.heap.size 3 (Rep.size Int) (.slice none 0 0) (([] : List Int).length) []] wx82 [.row w.heap.size 3 (Rep.size Int) v82 xs79.length cs80] ∧ Cells wx82 (bl [.row w.heap.size 3 (Rep.size Int) v82 xs79.length cs80] ++ L) cs80 xs79) (fun ⟨i78, xs79, v82, cs80⟩ => (i78, xs79)) (0, ([] : List Int), (.slice none 0 0), []) ho87 ⟨rfl, rfl, rfl, rfl, rfl, rfl, trivial⟩ ⟨hS9, Tr.refl _ _, hc11⟩ ?_
    rintro J90 ⟨i78, xs79, v82, cs80⟩ wx82 hJ91 ⟨hS83, hT84, hc81⟩ h
    unfold wardmotelaw31_WilsonErases_l2 at h
    try dsimp only at h
    refine MX.seq ?_
    refine MX.region ?_
    refine RG.val' .plain (FV.lssN (i := i78) (j := xs4.length) rfl rfl) rfl ?_
    refine RG.nil ?_
    refine MX.seq ?_
    refine MX.ifd rfl h (fun c92 h => ?_) (fun c92 h => ?_)
    · skip
      refine MX.skip ?_
      refine MX.seq ?_
      refine MX.block ?_
      refine MX.seq ?_
      refine MX.region ?_
      obtain ⟨x93, hx93, h⟩ := bind_in h
      have hm101 := Rep.mv hr6 (Tr.trans hT10 hT84)
      obtain ⟨A94, c95, he96, hk97, cs98, hr99, hm100⟩ := Rep.nth hm101 hx93
      have he102 : cs98 = [.int .u8 (x93.toNat : Int)] := hr99; subst he102
      refine RG.val' .plain (FV.idxAddr (m := 1) (i := i78) (by kernel_rfl) rfl he96 rfl rfl hk97) rfl ?_
      refine RG.val' .plain (FV.load1 (by kernel_rfl) rfl (hm100 0 _ rfl)) rfl ?_
      refine RG.val' .plain (FV.assign rfl) rfl ?_
      refine RG.nil ?_
      refine MX.region ?_
      refine RG.val' .plain (FV.move rfl) rfl ?_
      refine RG.val' .plain (FV.move rfl) rfl ?_
      refine RG.val' .plain (FV.rem8 (a := x93) (b := (8 : UInt8)) rfl rfl (by decide)) rfl ?_
      have hu103 := (x93 % (8 : UInt8)).toNat_lt
      refine RG.val' .plain (FV.convN (i := (x93 % (8 : UInt8)).toNat) Tryd.underlying5 Tryd.underlying3 rfl (by omega)) rfl ?_
      refine RG.new .plain rfl (Does.build (α := Int) (xs := ([(((x93 % (8 : UInt8)).toNat : Nat) : Int)] : List Int)) (vs := [.int .i64 (((x93 % (8 : UInt8)).toNat : Nat) : Int)]) (ds' := [.int .i64 (((x93 % (8 : UInt8)).toNat : Nat) : Int)]) rfl hS83 el22 rfl (evs_cons rfl evs_nil) (by kernel_rfl) rfl) (fun w105 b108 hS106 hT107 => ?_)
      have hc109 : Cells w105 (bl [.row w.heap.size 3 (Rep.size Int) (.slice (some ⟨b108, 0, none⟩) 1 1) (([(((x93 % (8 : UInt8)).toNat : Nat) : Int)] : List Int).length) [.int .i64 (((x93 % (8 : UInt8)).toNat : Nat) : Int)], .row w.heap.size 3 (Rep.size Int) v82 xs79.length cs80] ++ L) [.int .i64 (((x93 % (8 : UInt8)).toNat : Nat) : Int)] (([(((x93 % (8 : UInt8)).toNat : Nat) : Int)] : List Int) : List Int) := Cells.cons (cs := [.int .i64 (((x93 % (8 : UInt8)).toNat : Nat) : Int)]) (ds := []) rfl (Cells.nil _ _)
      obtain ⟨xs110, hxs110, h⟩ := bind_in h
      have hm111 := Cells.mv hc81 hT107
      refine RG.doesL .plain rfl (DoesL.app (α := Int) (ys := ([(((x93 % (8 : UInt8)).toNat : Nat) : Int)] : List Int)) (F := fun v' cs' => [.row w.heap.size 3 (Rep.size Int) (.slice (some ⟨b108, 0, none⟩) 1 1) (([(((x93 % (8 : UInt8)).toNat : Nat) : Int)] : List Int).length) [.int .i64 (((x93 % (8 : UInt8)).toNat : Nat) : Int)], .row w.heap.size 3 (Rep.size Int) v' xs110.length cs']) hxs110 hS106 (fun _ _ => (.tl .hd)) el22 rfl rfl hm111 (Src.row (α := Int) hS106 .hd hc109)) (fun v117 w112 ⟨cs116, hS113, hT114, hc115⟩ => ?_)
      refine RG.val' .plain (FV.assign rfl) rfl ?_
      refine RG.nil ?_
      refine MX.inBlock ?_
      refine MX.region ?_
      refine RG.val' .plain (FV.addN (i := i78) (j := 1) rfl rfl (by omega)) rfl ?_
      refine RG.val' .plain (FV.move rfl) rfl ?_
      refine RG.nil ?_
      have hS119 : St _ _ [.row w.heap.size 3 (Rep.size Int) v117 xs110.length cs116] := hS113.arr (.one (.tl .hd) .done)
      have hT120 : Tr w112 _ w112 [.row w.heap.size 3 (Rep.size Int) v117 xs110.length cs116] := Tr.arr (St.arrOf hS113 (.one (.tl .hd) .done))
      have hm121 := Cells.mv hc115 hT120
      exact hJ91 (i78 + 1, xs110, v117, cs116) _ _ ⟨rfl, rfl, rfl, rfl, rfl, rfl, trivial⟩ ⟨hS119, (Tr.trans hT84 (Tr.trans hT107 (Tr.trans hT114 hT120))), hm121⟩ h
    · skip
      refine MX.exit rfl ?_
      have h := hh89 _ h
      try dsimp only at h
      refine MX.seq ?_
      refine MX.region ?_
      refine RG.val' .plain (FV.move rfl) rfl ?_
      refine RG.val' .plain (FV.move rfl) rfl ?_
      have hm123 := Rep.mv h0_0 (Tr.trans hT10 hT84)
      have hl122 : a0.length ≤ 281474976710656 := Rep.lenle hm123
      refine RG.val' .plain (FV.len (xs := a0) Tryd.underlying22 rfl hm123) rfl ?_
      refine RG.val' .plain (FV.min2N (i := a0.length) (j := 40) rfl rfl) rfl ?_
      obtain ⟨xs124, hxs124, h⟩ := bind_in h
      refine RG.valE .plain rfl (FV.cutL (α := Int) hxs124 (by kernel_rfl) rfl hm123 rfl ⟨_, rfl⟩) (fun v125 hr126 => ?_)
      refine RG.val' .plain (FV.move rfl) rfl ?_
      have hr128 := St.freeze (α := Int) hS83 .hd hc81 hL
      have hS129 := hS83.del (.hd : Out _ _ _).del
      have hT130 := Tr.del (w := wx82) (.hd : Out [.row w.heap.size 3 (Rep.size Int) v82 xs79.length cs80] _ _).del
      have hr131 : Rep.R wx82 (bl [] ++ L) [v82] xs79 := hr128
      have hm132 := Rep.mv hr126 hT130
      obtain ⟨A133, c134, hv135, _⟩ := Rep.sl hm132
      obtain ⟨A136, c137, hv138, _⟩ := Rep.sl hr131
      refine RG.new .plain rfl (Does.build (α := List Int) (xs := ([xs124, xs79] : List (List Int))) (vs := [v125, v82]) (ds' := [v125, v82]) rfl hS129 el26 rfl (evs_cons rfl (evs_cons rfl evs_nil)) (by rw [hv135, hv138]; try kernel_rfl) rfl) (fun w139 b142 hS140 hT141 => ?_)
      have hm144 := Rep.mv hr131 hT141
      have hm145 := Rep.mv hr126 (Tr.trans hT130 hT141)
      have hc143 : Cells w139 (bl [.row w.heap.size 22 (Rep.size (List Int)) (.slice (some ⟨b142, 0, none⟩) 2 2) (([xs124, xs79] : List (List Int)).length) [v125, v82]] ++ L) [v125, v82] (([xs124, xs79] : List (List Int)) : List (List Int)) := Cells.cons (cs := [v125]) (ds := [v82]) hm145 (Cells.cons (cs := [v82]) (ds := []) hm144 (Cells.nil _ _))
      refine RG.val' .plain (FV.assign rfl) rfl ?_
      refine RG.nil ?_
      refine MX.seq ?_
      refine MX.seq ?_
      refine MX.region ?_
      refine RG.val' .plain (FV.move rfl) rfl ?_
      refine RG.val' .plain (FV.rem16 (a := a2) (b := (64 : UInt16)) rfl rfl (by decide)) rfl ?_
      refine RG.val' .plain (FV.eqlN (i := (a2 % (64 : UInt16)).toNat) (j := 0) rfl rfl) rfl ?_
      refine RG.nil ?_
      refine MX.join (α := (List (List Int)) × Value × (List Value)) (fun ⟨xs175, v178, cs176⟩ => [(10, v178)]) (fun ⟨xs175, v178, cs176⟩ wx178 => St w wx178 [.row w.heap.size 22 (Rep.size (List Int)) v178 xs175.length cs176] ∧ Tr w139 [.row w.heap.size 22 (Rep.size (List Int)) (.slice (some ⟨b142, 0, none⟩) 2 2) (([xs124, xs79] : List (List Int)).length) [v125, v82]] wx178 [.row w.heap.size 22 (Rep.size (List Int)) v178 xs175.length cs176] ∧ Cells wx178 (bl [.row w.heap.size 22 (Rep.size (List Int)) v178 xs175.length cs176] ++ L) cs176 xs175) (fun ⟨xs175, v178, cs176⟩ => xs175) h ?_ ?_
      · skip
        rintro ⟨xs175, v178, cs176⟩ wx178 ⟨hS179, hT180, hc177⟩ h
        try dsimp only at h
        refine MX.seq ?_
        refine MX.seq ?_
        refine MX.region ?_
        refine RG.val' .plain (FV.move rfl) rfl ?_
        have hl184 : xs175.length ≤ 4294967296 := St.rowLe (α := List Int) hS179 .hd
        obtain ⟨A185, c186, he187⟩ := St.rowV (α := List Int) hS179 .hd
        refine RG.val' .plain (FV.lenV Tryd.underlying26 rfl he187) rfl ?_
        refine RG.val' .plain (FV.move rfl) rfl ?_
        refine RG.nil ?_
        refine MX.block ?_
        obtain ⟨o234, ho233, hh235⟩ := thn_in h
        refine MX.loop (α := Nat) (fun i228 => [(54, v178), (55, .int .i64 ((xs175.length : Nat) : Int)), (56, .int .i64 ((i228 : Nat) : Int))]) (fun i228 wx228 => St w wx228 [.row w.heap.size 22 (Rep.size (List Int)) v178 xs175.length cs176] ∧ Tr wx178 [.row w.heap.size 22 (Rep.size (List Int)) v178 xs175.length cs176] wx228 [.row w.heap.size 22 (Rep.size (List Int)) v178 xs175.length cs176]) (fun i228 => i228) 0 ho233 ⟨rfl, rfl, rfl, trivial⟩ ⟨hS179, Tr.refl _ _⟩ ?_
        rintro J236 i228 wx228 hJ237 ⟨hS229, hT230⟩ h
        unfold wardmotelaw31_WilsonErases_l1 at h
        try dsimp only at h
        refine MX.seq ?_
        refine MX.region ?_
        refine RG.val' .plain (FV.lssN (i := i228) (j := xs175.length) rfl rfl) rfl ?_
        refine RG.nil ?_
        refine MX.seq ?_
        refine MX.ifd rfl h (fun c238 h => ?_) (fun c238 h => ?_)
        · skip
          refine MX.skip ?_
          refine MX.seq ?_
          refine MX.block ?_
          refine MX.seq ?_
          refine MX.region ?_
          obtain ⟨x239, hx239, h⟩ := bind_in h
          have hm247 := Cells.mv hc177 hT230
          obtain ⟨A240, c241, he242, hk243, cs244, hr245, hm246⟩ := St.nth (α := List Int) hS229 .hd hm247 hx239
          obtain ⟨b248, c249, he250⟩ := St.nthOwn (α := List Int) hS229 .hd hk243
          obtain rfl : A240 = ⟨b248, 0, none⟩ := by rw [he250] at he242; cases he242; rfl
          obtain ⟨v251, rfl, hr252⟩ := lst_one hr245
          refine RG.val' .plain (FV.idxAddr (m := 1) (i := i228) (by kernel_rfl) rfl he242 rfl rfl hk243) rfl ?_
          refine RG.val' .plain (FV.load1 (by kernel_rfl) rfl (hm246 0 _ rfl)) rfl ?_
          refine RG.val' .plain (FV.assign rfl) rfl ?_
          refine RG.nil ?_
          refine MX.seq ?_
          refine MX.region ?_
          refine RG.val' .plain (FV.move rfl) rfl ?_
          obtain ⟨y253, hy253, h⟩ := bind_in h
          refine RG.call' (fst := []) (cap := []) .plain body10 rfl (evs_cons rfl evs_nil) (fun w9 hw9 => wilson_Erase_c n _ w9 (hS229.hL hL hw9) x239 (Rep.keep0 hr252 hw9) hy253) rfl (fun w254 vu255 hag256 ⟨v259, hu_, hr260⟩ => ?_)
          subst hu_
          have hS257 := hS229.agree hag256
          have hT258 := Tr.agree (O := [.row w.heap.size 22 (Rep.size (List Int)) v178 xs175.length cs176]) hag256
          refine RG.val' .plain (FV.move rfl) rfl ?_
          refine RG.val' .plain (FV.extract rfl rfl) rfl ?_
          refine RG.val' .plain (FV.extract rfl rfl) rfl ?_
          refine RG.val' .plain (FV.assign rfl) rfl ?_
          refine RG.val' .plain (FV.assign rfl) rfl ?_
          refine RG.nil ?_
          refine MX.seq ?_
          refine MX.region ?_
          refine RG.val' .plain (FV.move rfl) rfl ?_
          obtain ⟨y261, hy261, h⟩ := bind_in h
          have hm262 := Rep.mv hr252 hT258
          refine RG.call' (fst := []) (cap := []) .plain body11 rfl (evs_cons rfl evs_nil) (fun w9 hw9 => wardmoteref31_Erase_c n _ w9 (hS257.hL hL hw9) x239 (Rep.keep0 hm262 hw9) hy261) rfl (fun w263 vu264 hag265 ⟨v268, hu_, hr269⟩ => ?_)
          subst hu_
          have hS266 := hS257.agree hag265
          have hT267 := Tr.agree (O := [.row w.heap.size 22 (Rep.size (List Int)) v178 xs175.length cs176]) hag265
          refine RG.val' .plain (FV.move rfl) rfl ?_
          refine RG.val' .plain (FV.extract rfl rfl) rfl ?_
          refine RG.val' .plain (FV.extract rfl rfl) rfl ?_
          refine RG.val' .plain (FV.assign rfl) rfl ?_
          refine RG.val' .plain (FV.assign rfl) rfl ?_
          refine RG.nil ?_
          refine MX.seq ?_
          refine MX.region ?_
          refine RG.val' .plain (FV.move rfl) rfl ?_
          refine RG.val' .plain (FV.move rfl) rfl ?_
          obtain ⟨y270, hy270, h⟩ := bind_in h
          have hm271 := Rep.mv hr260 hT267
          refine RG.callq' (v := .bool y270) (fst := []) (cap := []) .plain body12 rfl (evs_cons rfl (evs_cons rfl evs_nil)) (fun w9 hw9 => slices_Equal_int_int_c n _ w9 (hS266.hL0 hL hw9) y253.1 (Rep.keep0 (Rep.dropO (O := [.row w.heap.size 22 (Rep.size (List Int)) v178 xs175.length cs176]) hm271) hw9) y261.1 (Rep.keep0 (Rep.dropO (O := [.row w.heap.size 22 (Rep.size (List Int)) v178 xs175.length cs176]) hr269) hw9) hy270) rfl ?_
          refine RG.val' .plain (FV.not rfl) rfl ?_
          refine RG.val' .plain (FV.move rfl) rfl ?_
          refine RG.ifnb (s := 74) rfl h (fun c272 h => ?_) (fun c272 h => ?_)
          · skip
            refine RG.val' (.yes rfl rfl) (FV.move rfl) rfl ?_
            refine RG.val' (.yes rfl rfl) (FV.move rfl) rfl ?_
            refine RG.val' (.yes rfl rfl) (FV.neq (i := y253.2) (j := y261.2) rfl rfl) rfl ?_
            refine RG.val' .plain (FV.pick_f rfl rfl) rfl ?_
            refine RG.nil ?_
            refine MX.ifn rfl h (fun c273 h => ?_) (fun c273 h => ?_)
            · skip
              refine MX.skip ?_
              refine MX.inBlock ?_
              refine MX.region ?_
              refine RG.val' .plain (FV.addN (i := i228) (j := 1) rfl rfl (by omega)) rfl ?_
              refine RG.val' .plain (FV.move rfl) rfl ?_
              refine RG.nil ?_
              exact hJ237 (i228 + 1) _ _ ⟨rfl, rfl, rfl, trivial⟩ ⟨hS266, (Tr.trans hT230 (Tr.trans hT258 hT267))⟩ h
            · skip
              refine MX.seq ?_
              refine MX.region ?_
              refine RG.val' .plain (FV.assign rfl) rfl ?_
              refine RG.nil ?_
              have h := thn_inl h hh235
              refine MX.ret rfl ?_
              refine RT.leave (u := .bool false) hb0 Tryd.func3 rfl (.cons (.tmp rfl) .nil) rfl ?_
              obtain rfl := Option.some.inj h
              exact ⟨hS266.ag, fun w9 hw9 => rfl⟩
          · skip
            refine RG.off (.no rfl rfl) rfl ?_
            refine RG.off (.no rfl rfl) rfl ?_
            refine RG.off (.no rfl rfl) rfl ?_
            refine RG.val' .plain (FV.pick_t rfl rfl) rfl ?_
            refine RG.nil ?_
            refine MX.cond_t rfl ?_
            refine MX.seq ?_
            refine MX.region ?_
            refine RG.val' .plain (FV.assign rfl) rfl ?_
            refine RG.nil ?_
            have h := thn_inl h hh235
            refine MX.ret rfl ?_
            refine RT.leave (u := .bool false) hb0 Tryd.func3 rfl (.cons (.tmp rfl) .nil) rfl ?_
            obtain rfl := Option.some.inj h
            exact ⟨hS266.ag, fun w9 hw9 => rfl⟩
        · skip
          refine MX.exit rfl ?_
          have h := thn_inr h hh235
          try dsimp only at h
          refine MX.seq ?_
          refine MX.region ?_
          refine RG.val' .plain (FV.assign rfl) rfl ?_
          refine RG.nil ?_
          refine MX.ret rfl ?_
          refine RT.leave (u := .bool true) hb0 Tryd.func3 rfl (.cons (.tmp rfl) .nil) rfl ?_
          obtain rfl := Option.some.inj h
          exact ⟨hS229.ag, fun w9 hw9 => rfl⟩
      · skip
        intro J182 hJ183 h
        try dsimp only at h
        refine MX.ifd rfl h (fun c274 h => ?_) (fun c274 h => ?_)
        · skip
          refine MX.region ?_
          refine RG.val' .plain (FV.move rfl) rfl ?_
          refine RG.val' .plain (FV.move rfl) rfl ?_
          refine RG.val' .plain (FV.quo16 (a := a2) (b := (64 : UInt16)) rfl rfl (by decide)) rfl ?_
          have hu275 := (a2 / (64 : UInt16)).toNat_lt
          refine RG.val' .plain (FV.convN (i := (a2 / (64 : UInt16)).toNat) Tryd.underlying24 Tryd.underlying3 rfl (by omega)) rfl ?_
          refine RG.val' .plain (FV.addN (i := 9950) (j := (a2 / (64 : UInt16)).toNat) rfl rfl (by omega)) rfl ?_
          obtain ⟨xs277, hxs277, h⟩ := bind_in h
          refine RG.new .plain rfl (Does.mk (α := Int) hxs277 hS140 el22 rfl) (fun w278 b281 hS279 hT280 => ?_)
          have hc282 : Cells w278 (bl [.row w.heap.size 3 (Rep.size Int) (.slice (some ⟨b281, 0, none⟩) ((9950 + ((a2 / (64 : UInt16)).toNat) : Nat) : Int).toNat ((9950 + ((a2 / (64 : UInt16)).toNat) : Nat) : Int).toNat) xs277.length ((List.replicate ((9950 + ((a2 / (64 : UInt16)).toNat) : Nat) : Int).toNat [.int .i64 0]).flatten), .row w.heap.size 22 (Rep.size (List Int)) (.slice (some ⟨b142, 0, none⟩) 2 2) (([xs124, xs79] : List (List Int)).length) [v125, v82]] ++ L) (List.replicate ((9950 + ((a2 / (64 : UInt16)).toNat) : Nat) : Int).toNat [.int .i64 0]).flatten xs277 := Cells.mk hxs277 rfl
          have hr284 := St.freeze (α := Int) hS279 .hd hc282 hL
          have hS285 := hS279.del (.hd : Out _ _ _).del
          have hT286 := Tr.del (w := w278) (.hd : Out [.row w.heap.size 3 (Rep.size Int) (.slice (some ⟨b281, 0, none⟩) ((9950 + ((a2 / (64 : UInt16)).toNat) : Nat) : Int).toNat ((9950 + ((a2 / (64 : UInt16)).toNat) : Nat) : Int).toNat) xs277.length ((List.replicate ((9950 + ((a2 / (64 : UInt16)).toNat) : Nat) : Int).toNat [.int .i64 0]).flatten), .row w.heap.size 22 (Rep.size (List Int)) (.slice (some ⟨b142, 0, none⟩) 2 2) (([xs124, xs79] : List (List Int)).length) [v125, v82]] _ _).del
          have hr287 : Rep.R w278 (bl [.row w.heap.size 22 (Rep.size (List Int)) (.slice (some ⟨b142, 0, none⟩) 2 2) (([xs124, xs79] : List (List Int)).length) [v125, v82]] ++ L) [(.slice (some ⟨b281, 0, none⟩) ((9950 + ((a2 / (64 : UInt16)).toNat) : Nat) : Int).toNat ((9950 + ((a2 / (64 : UInt16)).toNat) : Nat) : Int).toNat)] xs277 := hr284
          refine RG.new .plain rfl (Does.build (α := List Int) (xs := ([xs277] : List (List Int))) (vs := [(.slice (some ⟨b281, 0, none⟩) ((9950 + ((a2 / (64 : UInt16)).toNat) : Nat) : Int).toNat ((9950 + ((a2 / (64 : UInt16)).toNat) : Nat) : Int).toNat)]) (ds' := [(.slice (some ⟨b281, 0, none⟩) ((9950 + ((a2 / (64 : UInt16)).toNat) : Nat) : Int).toNat ((9950 + ((a2 / (64 : UInt16)).toNat) : Nat) : Int).toNat)]) rfl hS285 el26 rfl (evs_cons rfl evs_nil) (by kernel_rfl) rfl) (fun w288 b291 hS289 hT290 => ?_)
          have hm293 := Rep.mv hr287 hT290
          have hc292 : Cells w288 (bl [.row w.heap.size 22 (Rep.size (List Int)) (.slice (some ⟨b291, 0, none⟩) 1 1) (([xs277] : List (List Int)).length) [(.slice (some ⟨b281, 0, none⟩) ((9950 + ((a2 / (64 : UInt16)).toNat) : Nat) : Int).toNat ((9950 + ((a2 / (64 : UInt16)).toNat) : Nat) : Int).toNat)], .row w.heap.size 22 (Rep.size (List Int)) (.slice (some ⟨b142, 0, none⟩) 2 2) (([xs124, xs79] : List (List Int)).length) [v125, v82]] ++ L) [(.slice (some ⟨b281, 0, none⟩) ((9950 + ((a2 / (64 : UInt16)).toNat) : Nat) : Int).toNat ((9950 + ((a2 / (64 : UInt16)).toNat) : Nat) : Int).toNat)] (([xs277] : List (List Int)) : List (List Int)) := Cells.cons (cs := [(.slice (some ⟨b281, 0, none⟩) ((9950 + ((a2 / (64 : UInt16)).toNat) : Nat) : Int).toNat ((9950 + ((a2 / (64 : UInt16)).toNat) : Nat) : Int).toNat)]) (ds := []) hm293 (Cells.nil _ _)
          obtain ⟨xs294, hxs294, h⟩ := bind_in h
          have hm295 := Cells.mv hc143 (Tr.trans hT280 (Tr.trans hT286 hT290))
          refine RG.doesL .plain rfl (DoesL.app (α := List Int) (ys := ([xs277] : List (List Int))) (F := fun v' cs' => [.row w.heap.size 22 (Rep.size (List Int)) (.slice (some ⟨b291, 0, none⟩) 1 1) (([xs277] : List (List Int)).length) [(.slice (some ⟨b281, 0, none⟩) ((9950 + ((a2 / (64 : UInt16)).toNat) : Nat) : Int).toNat ((9950 + ((a2 / (64 : UInt16)).toNat) : Nat) : Int).toNat)], .row w.heap.size 22 (Rep.size (List Int)) v' xs294.length cs']) hxs294 hS289 (fun _ _ => (.tl .hd)) el26 rfl rfl hm295 (Src.row (α := List Int) hS289 .hd hc292)) (fun v301 w296 ⟨cs300, hS297, hT298, hc299⟩ => ?_)
          refine RG.val' .plain (FV.assign rfl) rfl ?_
          refine RG.nil ?_
          have hS303 : St _ _ [.row w.heap.size 22 (Rep.size (List Int)) v301 xs294.length cs300] := hS297.arr (.one (.tl .hd) .done)
          have hT304 : Tr w296 _ w296 [.row w.heap.size 22 (Rep.size (List Int)) v301 xs294.length cs300] := Tr.arr (St.arrOf hS297 (.one (.tl .hd) .done))
          have hm305 := Cells.mv hc299 hT304
          exact hJ183 (xs294, v301, cs300) _ _ ⟨rfl, trivial⟩ ⟨hS303, (Tr.trans hT280 (Tr.trans hT286 (Tr.trans hT290 (Tr.trans hT298 hT304)))), hm305⟩ h
        · skip
          refine MX.skip ?_
          exact hJ183 (([xs124, xs79] : List (List Int)), (.slice (some ⟨b142, 0, none⟩) 2 2), [v125, v82]) _ _ ⟨rfl, trivial⟩ ⟨hS140, Tr.refl _ _, hc143⟩ h
  · skip
    refine MX.seq ?_
    refine MX.region ?_
    refine RG.val' .plain (FV.assign rfl) rfl ?_
    refine RG.nil ?_
    refine MX.ret rfl ?_
    refine RT.leave (u := .bool false) hb0 Tryd.func3 rfl (.cons (.tmp rfl) .nil) rfl ?_
    obtain rfl := Option.some.inj h
    exact ⟨hS0.ag, fun w9 hw9 => rfl⟩
end Go.Proofs.YtplkfbljncfdnaaDoor
