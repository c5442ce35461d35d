/- Functions of the program, and what they give: part 7. -/
import Derived.Test.YtplkfbljncfdnaaDoorF6
namespace Go.Proofs.YtplkfbljncfdnaaDoor
open Go Go.RowKit

theorem el26 : ElT Tryd.prog 26 22 (Rep.size (List Int)) 24 (.slice none 0 0) [.slice none 0 0] := ⟨Tryd.underlying26, by kernel_rfl, rfl, rfl, rfl, rfl⟩
theorem body9 : bodyB Tryd.prog 9 = true := by kernel_rfl
theorem body11 : bodyB Tryd.prog 11 = true := by kernel_rfl
def wardmotelaw31_WilsonErases_l1 (n : Nat) (xs175 : List (List Int)) (J236 : Nat → Option (Bool ⊕ Unit)) : Nat → Option (Bool ⊕ Unit)
  | i228 => (if i228 < xs175.length then (xs175[i228]?).bind fun x239 => (wilson_Erase_p n x239).bind fun y253 => (wardmoteref31_Erase_p n x239).bind fun y261 => (slices_Equal_int_int_p n y253.1 y261.1).bind fun y270 => (if y270 = true then (if y253.2 = y261.2 then J236 (i228 + 1) else some (.inl false)) else some (.inl false)) else some (.inr ()))
def wardmotelaw31_WilsonErases_l2 (n : Nat) (xs4 : List UInt8) (J90 : Nat × (List Int) → Option (List Int)) : Nat × (List Int) → Option (List Int)
  | (i78, xs79) => (if i78 < xs4.length then (xs4[i78]?).bind fun x93 => (app xs79 ([(((x93 % (8 : UInt8)).toNat : Nat) : Int)] : List Int)).bind fun xs110 => J90 (i78 + 1, xs110) else some xs79)
def wardmotelaw31_WilsonErases_p (n : Nat) (a0 : List Int) (a1 : List UInt8) (a2 : UInt16) : Option Bool :=
  (wardmotelaw31_works_p n).bind fun y1 => (if y1 = true then (cut a1 0 ((min a1.length 40 : Nat) : Int)).bind fun xs4 => Option.bind (loopF (wardmotelaw31_WilsonErases_l2 n xs4) n (0, ([] : List Int))) (fun xs79 => (cut a0 0 ((min a0.length 40 : Nat) : Int)).bind fun xs124 => jn (fun xs175 => thn (loopF (wardmotelaw31_WilsonErases_l1 n xs175) n 0) (fun _ => some true)) (fun J182 => (if ((a2 % (64 : UInt16)).toNat) = 0 then (mk ((9950 + ((a2 / (64 : UInt16)).toNat) : Nat) : Int) (0 : Int)).bind fun xs277 => (app ([xs124, xs79] : List (List Int)) ([xs277] : List (List Int))).bind fun xs294 => J182 xs294 else J182 ([xs124, xs79] : List (List Int))))) else some false)
set_option maxRecDepth 4000 in
set_option maxHeartbeats 4000000 in
theorem wardmotelaw31_WilsonErases_c (n : Nat) (L : List Nat) (w : World) (hL : ∀ b ∈ L, b < w.heap.size) (a0 : List Int) {v0_0 : Value} (h0_0 : Rep.R w L [v0_0] a0) (a1 : List UInt8) {v1_0 : Value} (h1_0 : Rep.R w L [v1_0] a1) (a2 : UInt16) (hG0 : Glob 0 tab0 w)  {r : Bool} (h : wardmotelaw31_WilsonErases_p n a0 a1 a2 = some r) :
    Calls Tryd.prog 3 #[v0_0, v1_0, .int .u16 (a2.toNat : Int)] w (Gives w fun w' u => u = .bool r) := by
  unfold wardmotelaw31_WilsonErases_p at h
  have hS0 := St.start w
  refine MX.start Tryd.func3 rfl rfl rfl (fun _ cs0 hb0 => ?_)
  refine MX.seq ?_
  refine MX.region ?_
  refine RG.val' .plain (FV.assign rfl) rfl ?_
  refine RG.nil ?_
  refine MX.seq ?_
  refine MX.seq ?_
  refine MX.region ?_
  obtain ⟨y1, hy1, h⟩ := bind_in h
  refine RG.callq' (v := .bool y1) (fst := []) (cap := []) .plain body9 rfl evs_nil (fun w9 hw9 => wardmotelaw31_works_c n _ w9 (hS0.hL0 hL hw9) (hG0.keep (hS0.ag.trans hw9)) hy1) rfl ?_
  refine RG.val' .plain (FV.not rfl) rfl ?_
  refine RG.nil ?_
  refine MX.ifnb rfl h (fun c2 h => ?_) (fun c2 h => ?_)
  ·skip
   refine MX.skip ?_
   refine MX.seq ?_
   refine MX.region ?_
   refine RG.val' .plain (FV.assign rfl) rfl ?_
   refine RG.nil ?_
   refine MX.seq ?_
   refine MX.seq ?_
   refine MX.region ?_
   refine RG.val' .plain (FV.move rfl) rfl ?_
   refine RG.val' .plain (FV.move rfl) rfl ?_
   have hl3 : a1.length ≤ 281474976710656 := Rep.lenle h1_0
   refine RG.val' .plain (FV.len (xs := a1) Tryd.underlying23 rfl h1_0) rfl ?_
   refine RG.val' .plain (FV.min2N (i := a1.length) (j := 40) rfl rfl) rfl ?_
   obtain ⟨xs4, hxs4, h⟩ := bind_in h
   refine RG.valE .plain rfl (FV.cutL (α := UInt8) hxs4 (by kernel_rfl) rfl h1_0 rfl ⟨_, rfl⟩) (fun v5 hr6 => ?_)
   have hl7 : xs4.length ≤ 281474976710656 := Rep.lenle hr6
   refine RG.val' .plain (FV.len (xs := xs4) Tryd.underlying23 rfl hr6) rfl ?_
   refine RG.val' .plain (FV.move rfl) rfl ?_
   refine RG.nil ?_
   refine MX.block ?_
   have hS9 := hS0.nilRow 3 (Rep.size Int)
   have hT10 := Tr.nilRow (w := w) (O := []) w.heap.size 3 (Rep.size Int)
   have hc11 : Cells w (bl [.row w.heap.size 3 (Rep.size Int) (.slice none 0 0) (([] : List Int).length) []] ++ L) [] ([] : List Int) := Cells.nil _ _
   obtain ⟨o88, ho87, hh89⟩ := bind_in2 h
   refine MX.loop (α := Nat × (List Int) × Value × (List Value)) (fun ⟨i78, xs79, v82, cs80⟩ => [(0, v0_0), (2, .int .u16 (a2.toNat : Int)), (7, v82), (23, v5), (24, .int .i64 ((xs4.length : Nat) : Int)), (25, .int .i64 ((i78 : Nat) : Int))]) (fun ⟨i78, xs79, v82, cs80⟩ wx82 => St w wx82 [.row w.heap.size 3 (Rep.size Int) v82 xs79.length cs80] ∧ Tr w [.row w.heap.size 3 (Rep.size Int) (.slice none 0 0) (([] : List Int).length) []] wx82 [.row w.heap.size 3 (Rep.size Int) v82 xs79.length cs80] ∧ Cells wx82 (bl [.row w.heap.size 3 (Rep.size Int) v82 xs79.length cs80] ++ L) cs80 xs79) (fun ⟨i78, xs79, v82, cs80⟩ => (i78, xs79)) (0, ([] : List Int), (.slice none 0 0), []) ho87 ⟨rfl, rfl, rfl, rfl, rfl, rfl, trivial⟩ ⟨hS9, Tr.refl _ _, hc11⟩ ?_
   rintro J90 ⟨i78, xs79, v82, cs80⟩ wx82 hJ91 ⟨hS83, hT84, hc81⟩ h
   unfold wardmotelaw31_WilsonErases_l2 at h
   try dsimp only at h
   refine MX.seq ?_
   refine MX.region ?_
   refine RG.val' .plain (FV.lssN (i := i78) (j := xs4.length) rfl rfl) rfl ?_
   refine RG.nil ?_
   refine MX.seq ?_
   refine MX.ifd rfl h (fun c92 h => ?_) (fun c92 h => ?_)
   ·skip
    refine MX.skip ?_
    refine MX.seq ?_
    refine MX.block ?_
    refine MX.seq ?_
    refine MX.region ?_
    obtain ⟨x93, hx93, h⟩ := bind_in h
    have hm101 := Rep.mv hr6 (Tr.trans hT10 hT84)
    obtain ⟨A94, c95, he96, hk97, cs98, hr99, hm100⟩ := Rep.nth hm101 hx93
    have he102 : cs98 = [.int .u8 (x93.toNat : Int)] := hr99; subst he102
    refine RG.val' .plain (FV.idxAddr (m := 1) (i := i78) (by kernel_rfl) rfl he96 rfl rfl hk97) rfl ?_
    refine RG.val' .plain (FV.load1 (by kernel_rfl) rfl (hm100 0 _ rfl)) rfl ?_
    refine RG.val' .plain (FV.assign rfl) rfl ?_
    refine RG.nil ?_
    refine MX.region ?_
    refine RG.val' .plain (FV.move rfl) rfl ?_
    refine RG.val' .plain (FV.move rfl) rfl ?_
    refine RG.val' .plain (FV.rem8 (a := x93) (b := (8 : UInt8)) rfl rfl (by decide)) rfl ?_
    have hu103 := (x93 % (8 : UInt8)).toNat_lt
    refine RG.val' .plain (FV.convN (i := (x93 % (8 : UInt8)).toNat) Tryd.underlying5 Tryd.underlying3 rfl (by omega)) rfl ?_
    refine RG.new .plain rfl (Does.build (α := Int) (xs := ([(((x93 % (8 : UInt8)).toNat : Nat) : Int)] : List Int)) (vs := [.int .i64 (((x93 % (8 : UInt8)).toNat : Nat) : Int)]) (ds' := [.int .i64 (((x93 % (8 : UInt8)).toNat : Nat) : Int)]) rfl hS83 el22 rfl (evs_cons rfl evs_nil) (by kernel_rfl) rfl) (fun w105 b108 hS106 hT107 => ?_)
    have hc109 : Cells w105 (bl [.row w.heap.size 3 (Rep.size Int) (.slice (some ⟨b108, 0, none⟩) 1 1) (([(((x93 % (8 : UInt8)).toNat : Nat) : Int)] : List Int).length) [.int .i64 (((x93 % (8 : UInt8)).toNat : Nat) : Int)], .row w.heap.size 3 (Rep.size Int) v82 xs79.length cs80] ++ L) [.int .i64 (((x93 % (8 : UInt8)).toNat : Nat) : Int)] (([(((x93 % (8 : UInt8)).toNat : Nat) : Int)] : List Int) : List Int) := Cells.cons (cs := [.int .i64 (((x93 % (8 : UInt8)).toNat : Nat) : Int)]) (ds := []) rfl (Cells.nil _ _)
    obtain ⟨xs110, hxs110, h⟩ := bind_in h
    have hm111 := Cells.mv hc81 hT107
    refine RG.doesL .plain rfl (DoesL.app (α := Int) (ys := ([(((x93 % (8 : UInt8)).toNat : Nat) : Int)] : List Int)) (F := fun v' cs' => [.row w.heap.size 3 (Rep.size Int) (.slice (some ⟨b108, 0, none⟩) 1 1) (([(((x93 % (8 : UInt8)).toNat : Nat) : Int)] : List Int).length) [.int .i64 (((x93 % (8 : UInt8)).toNat : Nat) : Int)], .row w.heap.size 3 (Rep.size Int) v' xs110.length cs']) hxs110 hS106 (fun _ _ => (.tl .hd)) el22 rfl rfl hm111 (Src.row (α := Int) hS106 .hd hc109)) (fun v117 w112 ⟨cs116, hS113, hT114, hc115⟩ => ?_)
    refine RG.val' .plain (FV.assign rfl) rfl ?_
    refine RG.nil ?_
    refine MX.inBlock ?_
    refine MX.region ?_
    refine RG.val' .plain (FV.addN (i := i78) (j := 1) rfl rfl (by omega)) rfl ?_
    refine RG.val' .plain (FV.move rfl) rfl ?_
    refine RG.nil ?_
    have hS119 : St _ _ [.row w.heap.size 3 (Rep.size Int) v117 xs110.length cs116] := hS113.arr (.one (.tl .hd) .done)
    have hT120 : Tr w112 _ w112 [.row w.heap.size 3 (Rep.size Int) v117 xs110.length cs116] := Tr.arr (St.arrOf hS113 (.one (.tl .hd) .done))
    have hm121 := Cells.mv hc115 hT120
    exact hJ91 (i78 + 1, xs110, v117, cs116) _ _ ⟨rfl, rfl, rfl, rfl, rfl, rfl, trivial⟩ ⟨hS119, (Tr.trans hT84 (Tr.trans hT107 (Tr.trans hT114 hT120))), hm121⟩ h
   ·skip
    refine MX.exit rfl ?_
    have h := hh89 _ h
    try dsimp only at h
    refine MX.seq ?_
    refine MX.region ?_
    refine RG.val' .plain (FV.move rfl) rfl ?_
    refine RG.val' .plain (FV.move rfl) rfl ?_
    have hm123 := Rep.mv h0_0 (Tr.trans hT10 hT84)
    have hl122 : a0.length ≤ 281474976710656 := Rep.lenle hm123
    refine RG.val' .plain (FV.len (xs := a0) Tryd.underlying22 rfl hm123) rfl ?_
    refine RG.val' .plain (FV.min2N (i := a0.length) (j := 40) rfl rfl) rfl ?_
    obtain ⟨xs124, hxs124, h⟩ := bind_in h
    refine RG.valE .plain rfl (FV.cutL (α := Int) hxs124 (by kernel_rfl) rfl hm123 rfl ⟨_, rfl⟩) (fun v125 hr126 => ?_)
    refine RG.val' .plain (FV.move rfl) rfl ?_
    have hr128 := St.freeze (α := Int) hS83 .hd hc81 hL
    have hS129 := hS83.del (.hd : Out _ _ _).del
    have hT130 := Tr.del (w := wx82) (.hd : Out [.row w.heap.size 3 (Rep.size Int) v82 xs79.length cs80] _ _).del
    have hr131 : Rep.R wx82 (bl [] ++ L) [v82] xs79 := hr128
    have hm132 := Rep.mv hr126 hT130
    obtain ⟨A133, c134, hv135, _⟩ := Rep.sl hm132
    obtain ⟨A136, c137, hv138, _⟩ := Rep.sl hr131
    refine RG.new .plain rfl (Does.build (α := List Int) (xs := ([xs124, xs79] : List (List Int))) (vs := [v125, v82]) (ds' := [v125, v82]) rfl hS129 el26 rfl (evs_cons rfl (evs_cons rfl evs_nil)) (by rw [hv135, hv138]; try kernel_rfl) rfl) (fun w139 b142 hS140 hT141 => ?_)
    have hm144 := Rep.mv hr131 hT141
    have hm145 := Rep.mv hr126 (Tr.trans hT130 hT141)
    have hc143 : Cells w139 (bl [.row w.heap.size 22 (Rep.size (List Int)) (.slice (some ⟨b142, 0, none⟩) 2 2) (([xs124, xs79] : List (List Int)).length) [v125, v82]] ++ L) [v125, v82] (([xs124, xs79] : List (List Int)) : List (List Int)) := Cells.cons (cs := [v125]) (ds := [v82]) hm145 (Cells.cons (cs := [v82]) (ds := []) hm144 (Cells.nil _ _))
    refine RG.val' .plain (FV.assign rfl) rfl ?_
    refine RG.nil ?_
    refine MX.seq ?_
    refine MX.seq ?_
    refine MX.region ?_
    refine RG.val' .plain (FV.move rfl) rfl ?_
    refine RG.val' .plain (FV.rem16 (a := a2) (b := (64 : UInt16)) rfl rfl (by decide)) rfl ?_
    refine RG.val' .plain (FV.eqlN (i := (a2 % (64 : UInt16)).toNat) (j := 0) rfl rfl) rfl ?_
    refine RG.nil ?_
    refine MX.join (α := (List (List Int)) × Value × (List Value)) (fun ⟨xs175, v178, cs176⟩ => [(10, v178)]) (fun ⟨xs175, v178, cs176⟩ wx178 => St w wx178 [.row w.heap.size 22 (Rep.size (List Int)) v178 xs175.length cs176] ∧ Tr w139 [.row w.heap.size 22 (Rep.size (List Int)) (.slice (some ⟨b142, 0, none⟩) 2 2) (([xs124, xs79] : List (List Int)).length) [v125, v82]] wx178 [.row w.heap.size 22 (Rep.size (List Int)) v178 xs175.length cs176] ∧ Cells wx178 (bl [.row w.heap.size 22 (Rep.size (List Int)) v178 xs175.length cs176] ++ L) cs176 xs175) (fun ⟨xs175, v178, cs176⟩ => xs175) h ?_ ?_
    ·skip
     rintro ⟨xs175, v178, cs176⟩ wx178 ⟨hS179, hT180, hc177⟩ h
     try dsimp only at h
     refine MX.seq ?_
     refine MX.seq ?_
     refine MX.region ?_
     refine RG.val' .plain (FV.move rfl) rfl ?_
     have hl184 : xs175.length ≤ 4294967296 := St.rowLe (α := List Int) hS179 .hd
     obtain ⟨A185, c186, he187⟩ := St.rowV (α := List Int) hS179 .hd
     refine RG.val' .plain (FV.lenV Tryd.underlying26 rfl he187) rfl ?_
     refine RG.val' .plain (FV.move rfl) rfl ?_
     refine RG.nil ?_
     refine MX.block ?_
     obtain ⟨o234, ho233, hh235⟩ := thn_in h
     refine MX.loop (α := Nat) (fun i228 => [(54, v178), (55, .int .i64 ((xs175.length : Nat) : Int)), (56, .int .i64 ((i228 : Nat) : Int))]) (fun i228 wx228 => St w wx228 [.row w.heap.size 22 (Rep.size (List Int)) v178 xs175.length cs176] ∧ Tr wx178 [.row w.heap.size 22 (Rep.size (List Int)) v178 xs175.length cs176] wx228 [.row w.heap.size 22 (Rep.size (List Int)) v178 xs175.length cs176]) (fun i228 => i228) 0 ho233 ⟨rfl, rfl, rfl, trivial⟩ ⟨hS179, Tr.refl _ _⟩ ?_
     rintro J236 i228 wx228 hJ237 ⟨hS229, hT230⟩ h
     unfold wardmotelaw31_WilsonErases_l1 at h
     try dsimp only at h
     refine MX.seq ?_
     refine MX.region ?_
     refine RG.val' .plain (FV.lssN (i := i228) (j := xs175.length) rfl rfl) rfl ?_
     refine RG.nil ?_
     refine MX.seq ?_
     refine MX.ifd rfl h (fun c238 h => ?_) (fun c238 h => ?_)
     ·skip
      refine MX.skip ?_
      refine MX.seq ?_
      refine MX.block ?_
      refine MX.seq ?_
      refine MX.region ?_
      obtain ⟨x239, hx239, h⟩ := bind_in h
      have hm247 := Cells.mv hc177 hT230
      obtain ⟨A240, c241, he242, hk243, cs244, hr245, hm246⟩ := St.nth (α := List Int) hS229 .hd hm247 hx239
      obtain ⟨b248, c249, he250⟩ := St.nthOwn (α := List Int) hS229 .hd hk243
      obtain rfl : A240 = ⟨b248, 0, none⟩ := by rw [he250] at he242; cases he242; rfl
      obtain ⟨v251, rfl, hr252⟩ := lst_one hr245
      refine RG.val' .plain (FV.idxAddr (m := 1) (i := i228) (by kernel_rfl) rfl he242 rfl rfl hk243) rfl ?_
      refine RG.val' .plain (FV.load1 (by kernel_rfl) rfl (hm246 0 _ rfl)) rfl ?_
      refine RG.val' .plain (FV.assign rfl) rfl ?_
      refine RG.nil ?_
      refine MX.seq ?_
      refine MX.region ?_
      refine RG.val' .plain (FV.move rfl) rfl ?_
      obtain ⟨y253, hy253, h⟩ := bind_in h
      refine RG.call' (fst := []) (cap := []) .plain body10 rfl (evs_cons rfl evs_nil) (fun w9 hw9 => wilson_Erase_c n _ w9 (hS229.hL hL hw9) x239 (Rep.keep0 hr252 hw9) hy253) rfl (fun w254 vu255 hag256 ⟨v259, hu_, hr260⟩ => ?_)
      subst hu_
      have hS257 := hS229.agree hag256
      have hT258 := Tr.agree (O := [.row w.heap.size 22 (Rep.size (List Int)) v178 xs175.length cs176]) hag256
      refine RG.val' .plain (FV.move rfl) rfl ?_
      refine RG.val' .plain (FV.extract rfl rfl) rfl ?_
      refine RG.val' .plain (FV.extract rfl rfl) rfl ?_
      refine RG.val' .plain (FV.assign rfl) rfl ?_
      refine RG.val' .plain (FV.assign rfl) rfl ?_
      refine RG.nil ?_
      refine MX.seq ?_
      refine MX.region ?_
      refine RG.val' .plain (FV.move rfl) rfl ?_
      obtain ⟨y261, hy261, h⟩ := bind_in h
      have hm262 := Rep.mv hr252 hT258
      refine RG.call' (fst := []) (cap := []) .plain body11 rfl (evs_cons rfl evs_nil) (fun w9 hw9 => wardmoteref31_Erase_c n _ w9 (hS257.hL hL hw9) x239 (Rep.keep0 hm262 hw9) hy261) rfl (fun w263 vu264 hag265 ⟨v268, hu_, hr269⟩ => ?_)
      subst hu_
      have hS266 := hS257.agree hag265
      have hT267 := Tr.agree (O := [.row w.heap.size 22 (Rep.size (List Int)) v178 xs175.length cs176]) hag265
      refine RG.val' .plain (FV.move rfl) rfl ?_
      refine RG.val' .plain (FV.extract rfl rfl) rfl ?_
      refine RG.val' .plain (FV.extract rfl rfl) rfl ?_
      refine RG.val' .plain (FV.assign rfl) rfl ?_
      refine RG.val' .plain (FV.assign rfl) rfl ?_
      refine RG.nil ?_
      refine MX.seq ?_
      refine MX.region ?_
      refine RG.val' .plain (FV.move rfl) rfl ?_
      refine RG.val' .plain (FV.move rfl) rfl ?_
      obtain ⟨y270, hy270, h⟩ := bind_in h
      have hm271 := Rep.mv hr260 hT267
      refine RG.callq' (v := .bool y270) (fst := []) (cap := []) .plain body12 rfl (evs_cons rfl (evs_cons rfl evs_nil)) (fun w9 hw9 => slices_Equal_int_int_c n _ w9 (hS266.hL0 hL hw9) y253.1 (Rep.keep0 (Rep.dropO (O := [.row w.heap.size 22 (Rep.size (List Int)) v178 xs175.length cs176]) hm271) hw9) y261.1 (Rep.keep0 (Rep.dropO (O := [.row w.heap.size 22 (Rep.size (List Int)) v178 xs175.length cs176]) hr269) hw9) hy270) rfl ?_
      refine RG.val' .plain (FV.not rfl) rfl ?_
      refine RG.val' .plain (FV.move rfl) rfl ?_
      refine RG.ifnb (s := 74) rfl h (fun c272 h => ?_) (fun c272 h => ?_)
      ·skip
       refine RG.val' (.yes rfl rfl) (FV.move rfl) rfl ?_
       refine RG.val' (.yes rfl rfl) (FV.move rfl) rfl ?_
       refine RG.val' (.yes rfl rfl) (FV.neq (i := y253.2) (j := y261.2) rfl rfl) rfl ?_
       refine RG.val' .plain (FV.pick_f rfl rfl) rfl ?_
       refine RG.nil ?_
       refine MX.ifn rfl h (fun c273 h => ?_) (fun c273 h => ?_)
       ·skip
        refine MX.skip ?_
        refine MX.inBlock ?_
        refine MX.region ?_
        refine RG.val' .plain (FV.addN (i := i228) (j := 1) rfl rfl (by omega)) rfl ?_
        refine RG.val' .plain (FV.move rfl) rfl ?_
        refine RG.nil ?_
        exact hJ237 (i228 + 1) _ _ ⟨rfl, rfl, rfl, trivial⟩ ⟨hS266, (Tr.trans hT230 (Tr.trans hT258 hT267))⟩ h
       ·skip
        refine MX.seq ?_
        refine MX.region ?_
        refine RG.val' .plain (FV.assign rfl) rfl ?_
        refine RG.nil ?_
        have h := thn_inl h hh235
        refine MX.ret rfl ?_
        refine RT.leave (u := .bool false) hb0 Tryd.func3 rfl (.cons (.tmp rfl) .nil) rfl ?_
        obtain rfl := Option.some.inj h
        exact ⟨hS266.ag, fun w9 hw9 => rfl⟩
      ·skip
       refine RG.off (.no rfl rfl) rfl ?_
       refine RG.off (.no rfl rfl) rfl ?_
       refine RG.off (.no rfl rfl) rfl ?_
       refine RG.val' .plain (FV.pick_t rfl rfl) rfl ?_
       refine RG.nil ?_
       refine MX.cond_t rfl ?_
       refine MX.seq ?_
       refine MX.region ?_
       refine RG.val' .plain (FV.assign rfl) rfl ?_
       refine RG.nil ?_
       have h := thn_inl h hh235
       refine MX.ret rfl ?_
       refine RT.leave (u := .bool false) hb0 Tryd.func3 rfl (.cons (.tmp rfl) .nil) rfl ?_
       obtain rfl := Option.some.inj h
       exact ⟨hS266.ag, fun w9 hw9 => rfl⟩
     ·skip
      refine MX.exit rfl ?_
      have h := thn_inr h hh235
      try dsimp only at h
      refine MX.seq ?_
      refine MX.region ?_
      refine RG.val' .plain (FV.assign rfl) rfl ?_
      refine RG.nil ?_
      refine MX.ret rfl ?_
      refine RT.leave (u := .bool true) hb0 Tryd.func3 rfl (.cons (.tmp rfl) .nil) rfl ?_
      obtain rfl := Option.some.inj h
      exact ⟨hS229.ag, fun w9 hw9 => rfl⟩
    ·skip
     intro J182 hJ183 h
     try dsimp only at h
     refine MX.ifd rfl h (fun c274 h => ?_) (fun c274 h => ?_)
     ·skip
      refine MX.region ?_
      refine RG.val' .plain (FV.move rfl) rfl ?_
      refine RG.val' .plain (FV.move rfl) rfl ?_
      refine RG.val' .plain (FV.quo16 (a := a2) (b := (64 : UInt16)) rfl rfl (by decide)) rfl ?_
      have hu275 := (a2 / (64 : UInt16)).toNat_lt
      refine RG.val' .plain (FV.convN (i := (a2 / (64 : UInt16)).toNat) Tryd.underlying24 Tryd.underlying3 rfl (by omega)) rfl ?_
      refine RG.val' .plain (FV.addN (i := 9950) (j := (a2 / (64 : UInt16)).toNat) rfl rfl (by omega)) rfl ?_
      obtain ⟨xs277, hxs277, h⟩ := bind_in h
      refine RG.new .plain rfl (Does.mk (α := Int) hxs277 hS140 el22 rfl) (fun w278 b281 hS279 hT280 => ?_)
      have hc282 : Cells w278 (bl [.row w.heap.size 3 (Rep.size Int) (.slice (some ⟨b281, 0, none⟩) ((9950 + ((a2 / (64 : UInt16)).toNat) : Nat) : Int).toNat ((9950 + ((a2 / (64 : UInt16)).toNat) : Nat) : Int).toNat) xs277.length ((List.replicate ((9950 + ((a2 / (64 : UInt16)).toNat) : Nat) : Int).toNat [.int .i64 0]).flatten), .row w.heap.size 22 (Rep.size (List Int)) (.slice (some ⟨b142, 0, none⟩) 2 2) (([xs124, xs79] : List (List Int)).length) [v125, v82]] ++ L) (List.replicate ((9950 + ((a2 / (64 : UInt16)).toNat) : Nat) : Int).toNat [.int .i64 0]).flatten xs277 := Cells.mk hxs277 rfl
      have hr284 := St.freeze (α := Int) hS279 .hd hc282 hL
      have hS285 := hS279.del (.hd : Out _ _ _).del
      have hT286 := Tr.del (w := w278) (.hd : Out [.row w.heap.size 3 (Rep.size Int) (.slice (some ⟨b281, 0, none⟩) ((9950 + ((a2 / (64 : UInt16)).toNat) : Nat) : Int).toNat ((9950 + ((a2 / (64 : UInt16)).toNat) : Nat) : Int).toNat) xs277.length ((List.replicate ((9950 + ((a2 / (64 : UInt16)).toNat) : Nat) : Int).toNat [.int .i64 0]).flatten), .row w.heap.size 22 (Rep.size (List Int)) (.slice (some ⟨b142, 0, none⟩) 2 2) (([xs124, xs79] : List (List Int)).length) [v125, v82]] _ _).del
      have hr287 : Rep.R w278 (bl [.row w.heap.size 22 (Rep.size (List Int)) (.slice (some ⟨b142, 0, none⟩) 2 2) (([xs124, xs79] : List (List Int)).length) [v125, v82]] ++ L) [(.slice (some ⟨b281, 0, none⟩) ((9950 + ((a2 / (64 : UInt16)).toNat) : Nat) : Int).toNat ((9950 + ((a2 / (64 : UInt16)).toNat) : Nat) : Int).toNat)] xs277 := hr284
      refine RG.new .plain rfl (Does.build (α := List Int) (xs := ([xs277] : List (List Int))) (vs := [(.slice (some ⟨b281, 0, none⟩) ((9950 + ((a2 / (64 : UInt16)).toNat) : Nat) : Int).toNat ((9950 + ((a2 / (64 : UInt16)).toNat) : Nat) : Int).toNat)]) (ds' := [(.slice (some ⟨b281, 0, none⟩) ((9950 + ((a2 / (64 : UInt16)).toNat) : Nat) : Int).toNat ((9950 + ((a2 / (64 : UInt16)).toNat) : Nat) : Int).toNat)]) rfl hS285 el26 rfl (evs_cons rfl evs_nil) (by kernel_rfl) rfl) (fun w288 b291 hS289 hT290 => ?_)
      have hm293 := Rep.mv hr287 hT290
      have hc292 : Cells w288 (bl [.row w.heap.size 22 (Rep.size (List Int)) (.slice (some ⟨b291, 0, none⟩) 1 1) (([xs277] : List (List Int)).length) [(.slice (some ⟨b281, 0, none⟩) ((9950 + ((a2 / (64 : UInt16)).toNat) : Nat) : Int).toNat ((9950 + ((a2 / (64 : UInt16)).toNat) : Nat) : Int).toNat)], .row w.heap.size 22 (Rep.size (List Int)) (.slice (some ⟨b142, 0, none⟩) 2 2) (([xs124, xs79] : List (List Int)).length) [v125, v82]] ++ L) [(.slice (some ⟨b281, 0, none⟩) ((9950 + ((a2 / (64 : UInt16)).toNat) : Nat) : Int).toNat ((9950 + ((a2 / (64 : UInt16)).toNat) : Nat) : Int).toNat)] (([xs277] : List (List Int)) : List (List Int)) := Cells.cons (cs := [(.slice (some ⟨b281, 0, none⟩) ((9950 + ((a2 / (64 : UInt16)).toNat) : Nat) : Int).toNat ((9950 + ((a2 / (64 : UInt16)).toNat) : Nat) : Int).toNat)]) (ds := []) hm293 (Cells.nil _ _)
      obtain ⟨xs294, hxs294, h⟩ := bind_in h
      have hm295 := Cells.mv hc143 (Tr.trans hT280 (Tr.trans hT286 hT290))
      refine RG.doesL .plain rfl (DoesL.app (α := List Int) (ys := ([xs277] : List (List Int))) (F := fun v' cs' => [.row w.heap.size 22 (Rep.size (List Int)) (.slice (some ⟨b291, 0, none⟩) 1 1) (([xs277] : List (List Int)).length) [(.slice (some ⟨b281, 0, none⟩) ((9950 + ((a2 / (64 : UInt16)).toNat) : Nat) : Int).toNat ((9950 + ((a2 / (64 : UInt16)).toNat) : Nat) : Int).toNat)], .row w.heap.size 22 (Rep.size (List Int)) v' xs294.length cs']) hxs294 hS289 (fun _ _ => (.tl .hd)) el26 rfl rfl hm295 (Src.row (α := List Int) hS289 .hd hc292)) (fun v301 w296 ⟨cs300, hS297, hT298, hc299⟩ => ?_)
      refine RG.val' .plain (FV.assign rfl) rfl ?_
      refine RG.nil ?_
      have hS303 : St _ _ [.row w.heap.size 22 (Rep.size (List Int)) v301 xs294.length cs300] := hS297.arr (.one (.tl .hd) .done)
      have hT304 : Tr w296 _ w296 [.row w.heap.size 22 (Rep.size (List Int)) v301 xs294.length cs300] := Tr.arr (St.arrOf hS297 (.one (.tl .hd) .done))
      have hm305 := Cells.mv hc299 hT304
      exact hJ183 (xs294, v301, cs300) _ _ ⟨rfl, trivial⟩ ⟨hS303, (Tr.trans hT280 (Tr.trans hT286 (Tr.trans hT290 (Tr.trans hT298 hT304)))), hm305⟩ h
     ·skip
      refine MX.skip ?_
      exact hJ183 (([xs124, xs79] : List (List Int)), (.slice (some ⟨b142, 0, none⟩) 2 2), [v125, v82]) _ _ ⟨rfl, trivial⟩ ⟨hS140, Tr.refl _ _, hc143⟩ h
  ·skip
   refine MX.seq ?_
   refine MX.region ?_
   refine RG.val' .plain (FV.assign rfl) rfl ?_
   refine RG.nil ?_
   refine MX.ret rfl ?_
   refine RT.leave (u := .bool false) hb0 Tryd.func3 rfl (.cons (.tmp rfl) .nil) rfl ?_
   obtain rfl := Option.some.inj h
   exact ⟨hS0.ag, fun w9 hw9 => rfl⟩
def slices_Index_int_int_l1 (n : Nat) (a0 : List Int) (a1 : Int) (J26 : Nat → Option (Int ⊕ Unit)) : Nat → Option (Int ⊕ Unit)
  | i18 => (if i18 < a0.length then (a0[i18]?).bind fun x29 => (if a1 = x29 then some (.inl ((i18 : Nat) : Int)) else J26 (i18 + 1)) else some (.inr ()))
def slices_Index_int_int_p (n : Nat) (a0 : List Int) (a1 : Int) : Option Int :=
  thn (loopF (slices_Index_int_int_l1 n a0 a1) n 0) (fun _ => some (-1))
set_option maxRecDepth 4000 in
set_option maxHeartbeats 4000000 in
theorem slices_Index_int_int_c (n : Nat) (L : List Nat) (w : World) (hL : ∀ b ∈ L, b < w.heap.size) (a0 : List Int) {v0_0 : Value} (h0_0 : Rep.R w L [v0_0] a0) (a1 : Int)  {r : Int} (h : slices_Index_int_int_p n a0 a1 = some r) :
    Calls Tryd.prog 41 #[v0_0, .int .i64 a1] w (Gives w fun w' u => u = .int .i64 r) := by
  unfold slices_Index_int_int_p at h
  have hS0 := St.start w
  refine MX.start Tryd.func41 rfl rfl rfl (fun _ cs0 hb0 => ?_)
  refine MX.seq ?_
  refine MX.region ?_
  refine RG.val' .plain (FV.assign rfl) rfl ?_
  refine RG.nil ?_
  refine MX.seq ?_
  refine MX.seq ?_
  refine MX.region ?_
  refine RG.val' .plain (FV.move rfl) rfl ?_
  have hl1 : a0.length ≤ 281474976710656 := Rep.lenle h0_0
  refine RG.val' .plain (FV.len (xs := a0) Tryd.underlying22 rfl h0_0) rfl ?_
  refine RG.val' .plain (FV.move rfl) rfl ?_
  refine RG.nil ?_
  refine MX.block ?_
  obtain ⟨o24, ho23, hh25⟩ := thn_in h
  refine MX.loop (α := Nat) (fun i18 => [(0, v0_0), (1, .int .i64 a1), (7, .int .i64 ((a0.length : Nat) : Int)), (8, .int .i64 ((i18 : Nat) : Int))]) (fun i18 wx18 => St w wx18 [] ∧ Tr w [] wx18 []) (fun i18 => i18) 0 ho23 ⟨rfl, rfl, rfl, rfl, trivial⟩ ⟨hS0, Tr.refl _ _⟩ ?_
  rintro J26 i18 wx18 hJ27 ⟨hS19, hT20⟩ h
  unfold slices_Index_int_int_l1 at h
  try dsimp only at h
  refine MX.seq ?_
  refine MX.region ?_
  refine RG.val' .plain (FV.lssN (i := i18) (j := a0.length) rfl rfl) rfl ?_
  refine RG.nil ?_
  refine MX.seq ?_
  refine MX.ifd rfl h (fun c28 h => ?_) (fun c28 h => ?_)
  ·skip
   refine MX.skip ?_
   refine MX.seq ?_
   refine MX.block ?_
   refine MX.seq ?_
   refine MX.region ?_
   refine RG.val' .plain (FV.move rfl) rfl ?_
   refine RG.val' .plain (FV.assign rfl) rfl ?_
   refine RG.nil ?_
   refine MX.seq ?_
   refine MX.region ?_
   refine RG.val' .plain (FV.move rfl) rfl ?_
   refine RG.val' .plain (FV.move rfl) rfl ?_
   refine RG.val' .plain (FV.move rfl) rfl ?_
   obtain ⟨x29, hx29, h⟩ := bind_in h
   have hm37 := Rep.mv h0_0 hT20
   obtain ⟨A30, c31, he32, hk33, cs34, hr35, hm36⟩ := Rep.nth hm37 hx29
   have he38 : cs34 = [.int .i64 x29] := hr35; subst he38
   refine RG.val' .plain (FV.idxAddr (m := 1) (i := i18) (by kernel_rfl) rfl he32 rfl rfl hk33) rfl ?_
   refine RG.val' .plain (FV.load1 (by kernel_rfl) rfl (hm36 0 _ rfl)) rfl ?_
   refine RG.val' .plain (FV.eql (i := a1) (j := x29) rfl rfl) rfl ?_
   refine RG.nil ?_
   refine MX.ifd rfl h (fun c39 h => ?_) (fun c39 h => ?_)
   ·skip
    refine MX.seq ?_
    refine MX.region ?_
    refine RG.val' .plain (FV.move rfl) rfl ?_
    refine RG.val' .plain (FV.assign rfl) rfl ?_
    refine RG.nil ?_
    have h := thn_inl h hh25
    refine MX.ret rfl ?_
    refine RT.leave (u := .int .i64 ((i18 : Nat) : Int)) hb0 Tryd.func41 rfl (.cons (.tmp rfl) .nil) rfl ?_
    obtain rfl := Option.some.inj h
    exact ⟨hS19.ag, fun w9 hw9 => rfl⟩
   ·skip
    refine MX.skip ?_
    refine MX.inBlock ?_
    refine MX.region ?_
    refine RG.val' .plain (FV.addN (i := i18) (j := 1) rfl rfl (by omega)) rfl ?_
    refine RG.val' .plain (FV.move rfl) rfl ?_
    refine RG.nil ?_
    exact hJ27 (i18 + 1) _ _ ⟨rfl, rfl, rfl, rfl, trivial⟩ ⟨hS19, hT20⟩ h
  ·skip
   refine MX.exit rfl ?_
   have h := thn_inr h hh25
   try dsimp only at h
   refine MX.seq ?_
   refine MX.region ?_
   refine RG.val' .plain (FV.assign rfl) rfl ?_
   refine RG.nil ?_
   refine MX.ret rfl ?_
   refine RT.leave (u := .int .i64 (-1)) hb0 Tryd.func41 rfl (.cons (.tmp rfl) .nil) rfl ?_
   obtain rfl := Option.some.inj h
   exact ⟨hS19.ag, fun w9 hw9 => rfl⟩
theorem body41 : bodyB Tryd.prog 41 = true := by kernel_rfl
def slices_Contains_int_int_p (n : Nat) (a0 : List Int) (a1 : Int) : Option Bool :=
  (slices_Index_int_int_p n a0 a1).bind fun y1 => some (decide (0 ≤ y1))
set_option maxRecDepth 4000 in
set_option maxHeartbeats 4000000 in
theorem slices_Contains_int_int_c (n : Nat) (L : List Nat) (w : World) (hL : ∀ b ∈ L, b < w.heap.size) (a0 : List Int) {v0_0 : Value} (h0_0 : Rep.R w L [v0_0] a0) (a1 : Int)  {r : Bool} (h : slices_Contains_int_int_p n a0 a1 = some r) :
    Calls Tryd.prog 23 #[v0_0, .int .i64 a1] w (Gives w fun w' u => u = .bool r) := by
  unfold slices_Contains_int_int_p at h
  have hS0 := St.start w
  refine MX.start Tryd.func23 rfl rfl rfl (fun _ cs0 hb0 => ?_)
  refine MX.seq ?_
  refine MX.region ?_
  refine RG.val' .plain (FV.assign rfl) rfl ?_
  refine RG.nil ?_
  refine MX.seq ?_
  refine MX.region ?_
  refine RG.val' .plain (FV.move rfl) rfl ?_
  refine RG.val' .plain (FV.move rfl) rfl ?_
  obtain ⟨y1, hy1, h⟩ := bind_in h
  refine RG.callq' (v := .int .i64 y1) (fst := []) (cap := []) .plain body41 rfl (evs_cons rfl (evs_cons rfl evs_nil)) (fun w9 hw9 => slices_Index_int_int_c n _ w9 (hS0.hL0 hL hw9) a0 (Rep.keep0 (Rep.dropO (O := []) h0_0) hw9) a1 hy1) rfl ?_
  refine RG.val' .plain (FV.geq (i := y1) (j := 0) rfl rfl) rfl ?_
  refine RG.val' .plain (FV.assign rfl) rfl ?_
  refine RG.nil ?_
  refine MX.ret rfl ?_
  refine RT.leave (u := .bool (decide (0 ≤ y1))) hb0 Tryd.func23 rfl (.cons (.tmp rfl) .nil) rfl ?_
  obtain rfl := Option.some.inj h
  exact ⟨hS0.ag, fun w9 hw9 => rfl⟩
def tb6_12 : List (Nat × Nat × Nat) := [(0, 4398046511104, 128), (1, 8796093022208, 4398046511104), (2, 17592186044416, 8796093022208), (4, 35184372088832, 17592186044480), (12, 70368744177664, 52776558133248), (20, 140737488355328, 87960930222080), (36, 281474976710656, 158329674399744), (68, 562949953421312, 281474976710656), (128, 1125899906842624, 562949953421376), (384, 2251799813685248, 1688849860263936), (640, 4503599627370496, 2814749767106560), (128, 9007199254740992, 562949953421320), (2176, 18014398509481984, 9570149208162304), (4224, 36028797018963968, 18577348462903296), (9344, 72057594037927936, 41095346599755776), (16512, 144115188075855872, 72620543991349248), (32896, 288230376151711744, 144115188075855872), (65536, 576460752303423488, 288230376151711808), (65536, 1152921504606846976, 288230376151711808), (327680, 2305843009213693952, 1441151880758558720), (589824, 4611686018427387904, 2594073385365405696), (1245184, 9223372036854775808, 5476377146882523136), (2162688, 18446744073709551616, 9511602413006487552), (65536, 36893488147419103232, 288230376151711752), (65536, 73786976294838206464, 288230376151711752), (16842752, 147573952589676412928, 74075206670989918208), (33619968, 295147905179352825856, 147862182965828124672), (75563008, 590295810358705651712, 332329623702923640832), (134283264, 1180591620717411303424, 590584040734857363456), (272695296, 2361183241434822606848, 1199326595167272566784), (536936448, 4722366482869645213696, 2361471471810974318592), (1073807360, 9444732965739290427392, 4722366482869645213696), (2147483648, 18889465931478580854784, 9444732965739290427456), (6442450944, 37778931862957161709568, 28334198897217871282176), (2147483648, 75557863725914323419136, 9444732965739290427456), (27917287424, 151115727451828646838272, 85002596691653613846528), (36507222016, 302231454903657293676544, 160560460417567937265664), (36507222016, 604462909807314587353088, 160560460417567937265664), (251255586816, 1208925819614629174706176, 953918029539668333166592), (277025390592, 2417851639229258349412352, 1218370552580368465133568), (551903297536, 4835703278458516698824704, 2427296372194997639839744)]
def tb6_17 : List (Nat × Nat × Nat) := [(0, 309485009821345068724781056, 64), (0, 618970019642690137449562112, 256), (3, 1237940039285380274899124224, 928455029464035206174343168), (0, 2475880078570760549798248448, 64), (0, 4951760157141521099596496896, 256), (24, 9903520314283042199192993792, 7427640235712281649394745344), (32, 19807040628566084398385987584, 9903520314283042199192993792), (68, 39614081257132168796771975168, 21044980667851464673285111808)]
def tb6_24 : List (Nat × Nat × Nat) := [(0, 20282409603651670423947251286016, 512), (1, 40564819207303340847894502572032, 20282409603651670423947251286016), (2, 81129638414606681695789005144064, 40564819207303340847894502572040), (2, 162259276829213363391578010288128, 40564819207303340847894502573056), (10, 324518553658426726783156020576256, 202824096036516704239472512860160), (22, 649037107316853453566312041152512, 446213011280336749326839528292352), (34, 1298074214633706907132624082305024, 689601926524156794414206543724544), (2, 2596148429267413814265248164610048, 40564819207303340847894502572096), (2, 5192296858534827628530496329220096, 40564819207303340847894502572288), (258, 10384593717069655257060992658440192, 5232861677742130969378390831792128), (642, 20769187434139310514121985316880384, 13021306965544372412174135325622272), (1026, 41538374868278621028243970633760768, 20809752253346613854969879819452416), (2114, 83076749736557242056487941267521536, 42877013902119631276224489218637824), (4098, 166153499473114484112975882535043072, 83117314555764545397335835770093568), (8192, 332306998946228968225951765070086144, 166153499473114484112975882535043080), (8192, 664613997892457936451903530140172288, 166153499473114484112975882535044096), (57344, 1329227995784915872903807060280344576, 1163074496311801388790831177745301504), (73728, 2658455991569831745807614120560689152, 1495381495258030357016782942815387648), (8192, 5316911983139663491615228241121378304, 166153499473114484112975882535043136), (8192, 10633823966279326983230456482242756608, 166153499473114484112975882535043328), (794624, 21267647932558653966460912964485513216, 16116889448892104958958660605899177984), (1056768, 42535295865117307932921825928971026432, 21433801432031768450573888847020556288), (2236416, 85070591730234615865843651857942052864, 45359905356160254162842415932066758656), (4202498, 170141183460469231731687303715884105728, 85236785794526937653297475634979667968), (8388610, 340282366920938463463374607431768211456, 170141224025288439035028151610386677760), (33554431, 512, 340282366920938463463374607431768211456)]
theorem body23 : bodyB Tryd.prog 23 = true := by kernel_rfl
def wardmotelaw31_WilsonLoops_l1 (n : Nat) (xs79 : List Int) (y122 : (List Int) × Int) (i356 : Nat) (x373 : Int) (J445 : Bool × Nat → Option Bool) : Bool × Nat → Option Bool
  | (q436, i437) => (if i437 < xs79.length then (if q436 = true then J445 (true, i437 + 1) else (idx xs79 (((i437 : Nat) : Int) - 1)).bind fun x452 => (idx y122.1 (((i356 : Nat) : Int) - 1)).bind fun x463 => (if x452 = x463 then (xs79[i437]?).bind fun x476 => J445 ((decide (x476 = x373)), i437 + 1) else J445 (false, i437 + 1))) else some q436)
def wardmotelaw31_WilsonLoops_l2 (n : Nat) (y122 : (List Int) × Int) (xs79 : List Int) (J364 : Nat → Option (Bool ⊕ Unit)) : Nat → Option (Bool ⊕ Unit)
  | i356 => (if i356 < y122.1.length then (cut y122.1 0 ((i356 : Nat) : Int)).bind fun xs369 => (y122.1[i356]?).bind fun x373 => (slices_Contains_int_int_p n xs369 x373).bind fun y382 => (if y382 = true then some (.inl false) else (if i356 = 0 then J364 (i356 + 1) else Option.bind (loopF (wardmotelaw31_WilsonLoops_l1 n xs79 y122 i356 x373) n (false, 1)) (fun q436 => (if q436 = true then J364 (i356 + 1) else some (.inl false))))) else some (.inr ()))
def wardmotelaw31_WilsonLoops_l3 (n : Nat) (xs4 : List UInt8) (J90 : Nat × (List Int) → Option (List Int)) : Nat × (List Int) → Option (List Int)
  | (i78, xs79) => (if i78 < xs4.length then (xs4[i78]?).bind fun x93 => (app xs79 ([(((x93 % (10 : UInt8)).toNat : Nat) : Int)] : List Int)).bind fun xs110 => J90 (i78 + 1, xs110) else some xs79)
def wardmotelaw31_WilsonLoops_p (n : Nat) (a0 : List UInt8) : Option Bool :=
  (wardmotelaw31_works_p n).bind fun y1 => (if y1 = true then (cut a0 0 ((min a0.length 60 : Nat) : Int)).bind fun xs4 => Option.bind (loopF (wardmotelaw31_WilsonLoops_l3 n xs4) n (0, ([] : List Int))) (fun xs79 => (wilson_Erase_p n xs79).bind fun y122 => (if xs79.length = 0 then (wardmotelaw31_fails_1_p n y122.1 y122.2 4).bind fun y146 => some y146 else jn (fun q215 => (if q215 = true then some false else thn (loopF (wardmotelaw31_WilsonLoops_l2 n y122 xs79) n 0) (fun _ => some true))) (fun J219 => (if y122.2 = 0 then (if y122.1.length = 0 then J219 true else (y122.1[0]?).bind fun x499 => (xs79[0]?).bind fun x508 => (if x499 = x508 then (idx y122.1 (((y122.1.length : Nat) : Int) - 1)).bind fun x518 => (idx xs79 (((xs79.length : Nat) : Int) - 1)).bind fun x529 => (if x518 = x529 then (wilson_Erase_p n y122.1).bind fun y550 => (wardmotelaw31_lists_1_p n y550.1 y550.2 y122.1).bind fun y559 => J219 (!y559) else J219 true) else J219 true)) else J219 true)))) else some false)
set_option maxRecDepth 4000 in
set_option maxHeartbeats 4000000 in
theorem wardmotelaw31_WilsonLoops_c (n : Nat) (L : List Nat) (w : World) (hL : ∀ b ∈ L, b < w.heap.size) (a0 : List UInt8) {v0_0 : Value} (h0_0 : Rep.R w L [v0_0] a0) (hG0 : Glob 0 tab0 w)  {r : Bool} (h : wardmotelaw31_WilsonLoops_p n a0 = some r) :
    Calls Tryd.prog 6 #[v0_0] w (Gives w fun w' u => u = .bool r) := by
  unfold wardmotelaw31_WilsonLoops_p at h
  have hS0 := St.start w
  refine MX.start Tryd.func6 rfl rfl rfl (fun _ cs0 hb0 => ?_)
  refine MX.seq ?_
  refine MX.region ?_
  refine RG.val' .plain (FV.assign rfl) rfl ?_
  refine RG.nil ?_
  refine MX.seq ?_
  refine MX.seq ?_
  refine MX.region ?_
  obtain ⟨y1, hy1, h⟩ := bind_in h
  refine RG.callq' (v := .bool y1) (fst := []) (cap := []) .plain body9 rfl evs_nil (fun w9 hw9 => wardmotelaw31_works_c n _ w9 (hS0.hL0 hL hw9) (hG0.keep (hS0.ag.trans hw9)) hy1) rfl ?_
  refine RG.val' .plain (FV.not rfl) rfl ?_
  refine RG.nil ?_
  refine MX.ifnb rfl h (fun c2 h => ?_) (fun c2 h => ?_)
  ·skip
   refine MX.skip ?_
   refine MX.seq ?_
   refine MX.region ?_
   refine RG.val' .plain (FV.assign rfl) rfl ?_
   refine RG.nil ?_
   refine MX.seq ?_
   refine MX.seq ?_
   refine MX.region ?_
   refine RG.val' .plain (FV.move rfl) rfl ?_
   refine RG.val' .plain (FV.move rfl) rfl ?_
   have hl3 : a0.length ≤ 281474976710656 := Rep.lenle h0_0
   refine RG.val' .plain (FV.len (xs := a0) Tryd.underlying23 rfl h0_0) rfl ?_
   refine RG.val' .plain (FV.min2N (i := a0.length) (j := 60) rfl rfl) rfl ?_
   obtain ⟨xs4, hxs4, h⟩ := bind_in h
   refine RG.valE .plain rfl (FV.cutL (α := UInt8) hxs4 (by kernel_rfl) rfl h0_0 rfl ⟨_, rfl⟩) (fun v5 hr6 => ?_)
   have hl7 : xs4.length ≤ 281474976710656 := Rep.lenle hr6
   refine RG.val' .plain (FV.len (xs := xs4) Tryd.underlying23 rfl hr6) rfl ?_
   refine RG.val' .plain (FV.move rfl) rfl ?_
   refine RG.nil ?_
   refine MX.block ?_
   have hS9 := hS0.nilRow 3 (Rep.size Int)
   have hT10 := Tr.nilRow (w := w) (O := []) w.heap.size 3 (Rep.size Int)
   have hc11 : Cells w (bl [.row w.heap.size 3 (Rep.size Int) (.slice none 0 0) (([] : List Int).length) []] ++ L) [] ([] : List Int) := Cells.nil _ _
   obtain ⟨o88, ho87, hh89⟩ := bind_in2 h
   refine MX.loop (α := Nat × (List Int) × Value × (List Value)) (fun ⟨i78, xs79, v82, cs80⟩ => [(3, v82), (17, v5), (18, .int .i64 ((xs4.length : Nat) : Int)), (19, .int .i64 ((i78 : Nat) : Int))]) (fun ⟨i78, xs79, v82, cs80⟩ wx82 => St w wx82 [.row w.heap.size 3 (Rep.size Int) v82 xs79.length cs80] ∧ Tr w [.row w.heap.size 3 (Rep.size Int) (.slice none 0 0) (([] : List Int).length) []] wx82 [.row w.heap.size 3 (Rep.size Int) v82 xs79.length cs80] ∧ Cells wx82 (bl [.row w.heap.size 3 (Rep.size Int) v82 xs79.length cs80] ++ L) cs80 xs79) (fun ⟨i78, xs79, v82, cs80⟩ => (i78, xs79)) (0, ([] : List Int), (.slice none 0 0), []) ho87 ⟨rfl, rfl, rfl, rfl, trivial⟩ ⟨hS9, Tr.refl _ _, hc11⟩ ?_
   rintro J90 ⟨i78, xs79, v82, cs80⟩ wx82 hJ91 ⟨hS83, hT84, hc81⟩ h
   unfold wardmotelaw31_WilsonLoops_l3 at h
   try dsimp only at h
   refine MX.seq ?_
   refine MX.region ?_
   refine RG.val' .plain (FV.lssN (i := i78) (j := xs4.length) rfl rfl) rfl ?_
   refine RG.nil ?_
   refine MX.seq ?_
   refine MX.ifd rfl h (fun c92 h => ?_) (fun c92 h => ?_)
   ·skip
    refine MX.skip ?_
    refine MX.seq ?_
    refine MX.block ?_
    refine MX.seq ?_
    refine MX.region ?_
    obtain ⟨x93, hx93, h⟩ := bind_in h
    have hm101 := Rep.mv hr6 (Tr.trans hT10 hT84)
    obtain ⟨A94, c95, he96, hk97, cs98, hr99, hm100⟩ := Rep.nth hm101 hx93
    have he102 : cs98 = [.int .u8 (x93.toNat : Int)] := hr99; subst he102
    refine RG.val' .plain (FV.idxAddr (m := 1) (i := i78) (by kernel_rfl) rfl he96 rfl rfl hk97) rfl ?_
    refine RG.val' .plain (FV.load1 (by kernel_rfl) rfl (hm100 0 _ rfl)) rfl ?_
    refine RG.val' .plain (FV.assign rfl) rfl ?_
    refine RG.nil ?_
    refine MX.region ?_
    refine RG.val' .plain (FV.move rfl) rfl ?_
    refine RG.val' .plain (FV.move rfl) rfl ?_
    refine RG.val' .plain (FV.rem8 (a := x93) (b := (10 : UInt8)) rfl rfl (by decide)) rfl ?_
    have hu103 := (x93 % (10 : UInt8)).toNat_lt
    refine RG.val' .plain (FV.convN (i := (x93 % (10 : UInt8)).toNat) Tryd.underlying5 Tryd.underlying3 rfl (by omega)) rfl ?_
    refine RG.new .plain rfl (Does.build (α := Int) (xs := ([(((x93 % (10 : UInt8)).toNat : Nat) : Int)] : List Int)) (vs := [.int .i64 (((x93 % (10 : UInt8)).toNat : Nat) : Int)]) (ds' := [.int .i64 (((x93 % (10 : UInt8)).toNat : Nat) : Int)]) rfl hS83 el22 rfl (evs_cons rfl evs_nil) (by kernel_rfl) rfl) (fun w105 b108 hS106 hT107 => ?_)
    have hc109 : Cells w105 (bl [.row w.heap.size 3 (Rep.size Int) (.slice (some ⟨b108, 0, none⟩) 1 1) (([(((x93 % (10 : UInt8)).toNat : Nat) : Int)] : List Int).length) [.int .i64 (((x93 % (10 : UInt8)).toNat : Nat) : Int)], .row w.heap.size 3 (Rep.size Int) v82 xs79.length cs80] ++ L) [.int .i64 (((x93 % (10 : UInt8)).toNat : Nat) : Int)] (([(((x93 % (10 : UInt8)).toNat : Nat) : Int)] : List Int) : List Int) := Cells.cons (cs := [.int .i64 (((x93 % (10 : UInt8)).toNat : Nat) : Int)]) (ds := []) rfl (Cells.nil _ _)
    obtain ⟨xs110, hxs110, h⟩ := bind_in h
    have hm111 := Cells.mv hc81 hT107
    refine RG.doesL .plain rfl (DoesL.app (α := Int) (ys := ([(((x93 % (10 : UInt8)).toNat : Nat) : Int)] : List Int)) (F := fun v' cs' => [.row w.heap.size 3 (Rep.size Int) (.slice (some ⟨b108, 0, none⟩) 1 1) (([(((x93 % (10 : UInt8)).toNat : Nat) : Int)] : List Int).length) [.int .i64 (((x93 % (10 : UInt8)).toNat : Nat) : Int)], .row w.heap.size 3 (Rep.size Int) v' xs110.length cs']) hxs110 hS106 (fun _ _ => (.tl .hd)) el22 rfl rfl hm111 (Src.row (α := Int) hS106 .hd hc109)) (fun v117 w112 ⟨cs116, hS113, hT114, hc115⟩ => ?_)
    refine RG.val' .plain (FV.assign rfl) rfl ?_
    refine RG.nil ?_
    refine MX.inBlock ?_
    refine MX.region ?_
    refine RG.val' .plain (FV.addN (i := i78) (j := 1) rfl rfl (by omega)) rfl ?_
    refine RG.val' .plain (FV.move rfl) rfl ?_
    refine RG.nil ?_
    have hS119 : St _ _ [.row w.heap.size 3 (Rep.size Int) v117 xs110.length cs116] := hS113.arr (.one (.tl .hd) .done)
    have hT120 : Tr w112 _ w112 [.row w.heap.size 3 (Rep.size Int) v117 xs110.length cs116] := Tr.arr (St.arrOf hS113 (.one (.tl .hd) .done))
    have hm121 := Cells.mv hc115 hT120
    exact hJ91 (i78 + 1, xs110, v117, cs116) _ _ ⟨rfl, rfl, rfl, rfl, trivial⟩ ⟨hS119, (Tr.trans hT84 (Tr.trans hT107 (Tr.trans hT114 hT120))), hm121⟩ h
   ·skip
    refine MX.exit rfl ?_
    have h := hh89 _ h
    try dsimp only at h
    refine MX.seq ?_
    refine MX.region ?_
    refine RG.val' .plain (FV.move rfl) rfl ?_
    have hr123 := St.freeze (α := Int) hS83 .hd hc81 hL
    have hS124 := hS83.del (.hd : Out _ _ _).del
    have hT125 := Tr.del (w := wx82) (.hd : Out [.row w.heap.size 3 (Rep.size Int) v82 xs79.length cs80] _ _).del
    have hr126 : Rep.R wx82 (bl [] ++ L) [v82] xs79 := hr123
    obtain ⟨y122, hy122, h⟩ := bind_in h
    refine RG.call' (fst := []) (cap := []) .plain body10 rfl (evs_cons rfl evs_nil) (fun w9 hw9 => wilson_Erase_c n _ w9 (hS124.hL hL hw9) xs79 (Rep.keep0 hr126 hw9) hy122) rfl (fun w127 vu128 hag129 ⟨v132, hu_, hr133⟩ => ?_)
    subst hu_
    have hS130 := hS124.agree hag129
    have hT131 := Tr.agree (O := []) hag129
    refine RG.val' .plain (FV.move rfl) rfl ?_
    refine RG.val' .plain (FV.extract rfl rfl) rfl ?_
    refine RG.val' .plain (FV.extract rfl rfl) rfl ?_
    refine RG.val' .plain (FV.assign rfl) rfl ?_
    refine RG.val' .plain (FV.assign rfl) rfl ?_
    refine RG.nil ?_
    refine MX.seq ?_
    refine MX.seq ?_
    refine MX.region ?_
    refine RG.val' .plain (FV.move rfl) rfl ?_
    have hm135 := Rep.mv hr126 hT131
    have hl134 : xs79.length ≤ 281474976710656 := Rep.lenle hm135
    refine RG.val' .plain (FV.len (xs := xs79) Tryd.underlying22 rfl hm135) rfl ?_
    refine RG.val' .plain (FV.eqlN (i := xs79.length) (j := 0) rfl rfl) rfl ?_
    refine RG.nil ?_
    refine MX.ifd rfl h (fun c136 h => ?_) (fun c136 h => ?_)
    ·skip
     refine MX.seq ?_
     refine MX.region ?_
     refine RG.call' (fst := []) (cap := []) .plain body19 rfl (evs_cons rfl evs_nil) (fun w9 hw9 => Calls.gives (wardmotelaw31_fails_c n _ w9 (hS130.hL hL hw9) 4) fun (w8 : World) (u8 : Value) ⟨b0_, hu_, s_⟩ => (⟨b0_, hu_, s_.from hw9⟩ : ∃ b138 : Nat, u8 = Value.func (.func 37) #[] #[.pointer (some ⟨b138, 0, none⟩)] ∧ St w127 w8 [.cells b138 [.int .i64 4] 27])) rfl (fun w139 vu140 hag141 ⟨b138, hu143, s142⟩ => ?_)
     subst hu143
     have hS144 : St w w139 [.cells b138 [.int .i64 4] 27] := St.merge hS130 s142
     have hT145 : Tr w127 [] w139 [.cells b138 [.int .i64 4] 27] := Tr.merge hS130 s142
     refine RG.val' .plain (FV.move rfl) rfl ?_
     refine RG.val' .plain (FV.move rfl) rfl ?_
     obtain ⟨y146, hy146, h⟩ := bind_in h
     have hm147 := Rep.mv hr133 hT145
     refine RG.callq' (v := .bool y146) (fst := []) (cap := [.pointer (some ⟨b138, 0, none⟩)]) .plain body37 rfl (evs_cons rfl (evs_cons rfl evs_nil)) (fun w9 hw9 => wardmotelaw31_fails_1_c n _ w9 (hS144.hL0 hL hw9) y122.1 (Rep.keep0 (Rep.dropO (O := [.cells b138 [.int .i64 4] 27]) hm147) hw9) y122.2 4 (fun j9 v9 h9 => hw9.cell0 ((hS144.memA .hd) j9 v9 h9)) hy146) rfl ?_
     refine RG.val' .plain (FV.assign rfl) rfl ?_
     refine RG.nil ?_
     refine MX.ret rfl ?_
     refine RT.leave (u := .bool y146) hb0 Tryd.func6 rfl (.cons (.tmp rfl) .nil) rfl ?_
     obtain rfl := Option.some.inj h
     exact ⟨hS144.ag, fun w9 hw9 => rfl⟩
    ·skip
     refine MX.skip ?_
     refine MX.seq ?_
     refine MX.seq ?_
     refine MX.join (α := Bool) (fun q215 => [(3, v82), (6, v132), (82, .bool q215)]) (fun q215 wx215 => St w wx215 [] ∧ Tr w127 [] wx215 []) (fun q215 => q215) h ?_ ?_
     ·skip
      rintro q215 wx215 ⟨hS216, hT217⟩ h
      try dsimp only at h
      refine MX.ifb rfl h (fun c221 h => ?_) (fun c221 h => ?_)
      ·skip
       refine MX.seq ?_
       refine MX.region ?_
       refine RG.val' .plain (FV.assign rfl) rfl ?_
       refine RG.nil ?_
       refine MX.ret rfl ?_
       refine RT.leave (u := .bool false) hb0 Tryd.func6 rfl (.cons (.tmp rfl) .nil) rfl ?_
       obtain rfl := Option.some.inj h
       exact ⟨hS216.ag, fun w9 hw9 => rfl⟩
      ·skip
       refine MX.skip ?_
       refine MX.seq ?_
       refine MX.seq ?_
       refine MX.region ?_
       refine RG.val' .plain (FV.move rfl) rfl ?_
       have hm223 := Rep.mv hr133 hT217
       have hl222 : y122.1.length ≤ 281474976710656 := Rep.lenle hm223
       refine RG.val' .plain (FV.len (xs := y122.1) Tryd.underlying22 rfl hm223) rfl ?_
       refine RG.val' .plain (FV.move rfl) rfl ?_
       refine RG.nil ?_
       refine MX.block ?_
       obtain ⟨o362, ho361, hh363⟩ := thn_in h
       refine MX.loop (α := Nat) (fun i356 => [(3, v82), (6, v132), (84, .int .i64 ((y122.1.length : Nat) : Int)), (85, .int .i64 ((i356 : Nat) : Int))]) (fun i356 wx356 => St w wx356 [] ∧ Tr wx215 [] wx356 []) (fun i356 => i356) 0 ho361 ⟨rfl, rfl, rfl, rfl, trivial⟩ ⟨hS216, Tr.refl _ _⟩ ?_
       rintro J364 i356 wx356 hJ365 ⟨hS357, hT358⟩ h
       unfold wardmotelaw31_WilsonLoops_l2 at h
       try dsimp only at h
       refine MX.seq ?_
       refine MX.region ?_
       refine RG.val' .plain (FV.lssN (i := i356) (j := y122.1.length) rfl rfl) rfl ?_
       refine RG.nil ?_
       refine MX.seq ?_
       refine MX.ifd rfl h (fun c366 h => ?_) (fun c366 h => ?_)
       ·skip
        refine MX.skip ?_
        refine MX.seq ?_
        refine MX.block ?_
        refine MX.seq ?_
        refine MX.region ?_
        refine RG.val' .plain (FV.move rfl) rfl ?_
        refine RG.val' .plain (FV.assign rfl) rfl ?_
        refine RG.nil ?_
        refine MX.seq ?_
        refine MX.seq ?_
        refine MX.drawT 8 tb6_17 (by kernel_rfl) (by kernel_rfl) (by kernel_rfl) (fun kt367 kp368 => ?_)
        refine RD.vP 0 1 kt367 rfl kp368 .plain (fun _ => FV.move rfl) rfl ?_
        refine RD.vP 1 3 kt367 rfl kp368 .plain (fun _ => FV.move rfl) rfl ?_
        obtain ⟨xs369, hxs369, h⟩ := bind_in h
        have hm372 := Rep.mv hr133 (Tr.trans hT217 hT358)
        refine RD.valE (i := 2) (m' := 7) (W := 128) (takeC_ok kt367 (by kernel_rfl)) rfl kp368 .plain rfl (FV.cutL (α := Int) hxs369 (by kernel_rfl) rfl hm372 rfl ⟨_, rfl⟩) (fun v370 hr371 => ?_)
        refine RD.vP 3 15 kt367 rfl kp368 .plain (fun _ => FV.move rfl) rfl ?_
        refine RD.vP 4 31 kt367 rfl kp368 .plain (fun _ => FV.move rfl) rfl ?_
        obtain ⟨x373, hx373, h⟩ := bind_in h
        obtain ⟨A374, c375, he376, hk377, cs378, hr379, hm380⟩ := Rep.nth hm372 hx373
        have he381 : cs378 = [.int .i64 x373] := hr379; subst he381
        refine RD.vP 5 63 kt367 rfl kp368 .plain (fun _ => FV.idxAddr (m := 1) (i := i356) (by kernel_rfl) rfl he376 rfl rfl hk377) rfl ?_
        refine RD.val (i := 6) (m' := 127) (W := 128) (takeC_ok kt367 (by kernel_rfl)) rfl kp368 .plain (FV.load1 (by kernel_rfl) rfl (hm380 0 _ rfl)) rfl ?_
        obtain ⟨y382, hy382, h⟩ := bind_in h
        refine RD.callq (i := 7) (m' := 255) (W := 0) (takeC_ok kt367 (by kernel_rfl)) rfl kp368 (v := .bool y382) (fst := []) (cap := []) .plain body23 rfl (evs_cons rfl (evs_cons rfl evs_nil)) (fun w9 hw9 => slices_Contains_int_int_c n _ w9 (hS357.hL0 hL hw9) xs369 (Rep.keep0 (Rep.dropO (O := []) hr371) hw9) x373 hy382) rfl ?_
        refine RD.done (doneD_ok kt367 (by kernel_rfl)) ?_
        refine MX.ifb rfl h (fun c383 h => ?_) (fun c383 h => ?_)
        ·skip
         refine MX.seq ?_
         refine MX.region ?_
         refine RG.val' .plain (FV.assign rfl) rfl ?_
         refine RG.nil ?_
         have h := thn_inl h hh363
         refine MX.ret rfl ?_
         refine RT.leave (u := .bool false) hb0 Tryd.func6 rfl (.cons (.tmp rfl) .nil) rfl ?_
         obtain rfl := Option.some.inj h
         exact ⟨hS357.ag, fun w9 hw9 => rfl⟩
        ·skip
         refine MX.skip ?_
         refine MX.seq ?_
         refine MX.seq ?_
         refine MX.region ?_
         refine RG.val' .plain (FV.move rfl) rfl ?_
         refine RG.val' .plain (FV.eqlN (i := i356) (j := 0) rfl rfl) rfl ?_
         refine RG.nil ?_
         refine MX.ifd rfl h (fun c384 h => ?_) (fun c384 h => ?_)
         ·skip
          refine MX.exit rfl ?_
          refine MX.region ?_
          refine RG.val' .plain (FV.addN (i := i356) (j := 1) rfl rfl (by omega)) rfl ?_
          refine RG.val' .plain (FV.move rfl) rfl ?_
          refine RG.nil ?_
          exact hJ365 (i356 + 1) _ _ ⟨rfl, rfl, rfl, rfl, trivial⟩ ⟨hS357, hT358⟩ h
         ·skip
          refine MX.skip ?_
          refine MX.seq ?_
          refine MX.region ?_
          refine RG.val' .plain (FV.assign rfl) rfl ?_
          refine RG.nil ?_
          refine MX.seq ?_
          refine MX.seq ?_
          refine MX.region ?_
          refine RG.val' .plain (FV.assign rfl) rfl ?_
          refine RG.nil ?_
          refine MX.block ?_
          obtain ⟨o443, ho442, hh444⟩ := bind_in2 h
          refine MX.loop (α := Bool × Nat) (fun ⟨q436, i437⟩ => [(3, v82), (6, v132), (84, .int .i64 ((y122.1.length : Nat) : Int)), (85, .int .i64 ((i356 : Nat) : Int)), (8, .int .i64 ((i356 : Nat) : Int)), (9, .bool q436), (10, .int .i64 ((i437 : Nat) : Int))]) (fun ⟨q436, i437⟩ wx437 => St w wx437 [] ∧ Tr wx356 [] wx437 []) (fun ⟨q436, i437⟩ => (q436, i437)) (false, 1) ho442 ⟨rfl, rfl, rfl, rfl, rfl, rfl, rfl, trivial⟩ ⟨hS357, Tr.refl _ _⟩ ?_
          rintro J445 ⟨q436, i437⟩ wx437 hJ446 ⟨hS438, hT439⟩ h
          unfold wardmotelaw31_WilsonLoops_l1 at h
          try dsimp only at h
          refine MX.seq ?_
          refine MX.seq ?_
          refine MX.region ?_
          refine RG.val' .plain (FV.move rfl) rfl ?_
          refine RG.val' .plain (FV.move rfl) rfl ?_
          have hm447 := Rep.mv hr126 (Tr.trans hT131 (Tr.trans hT217 (Tr.trans hT358 hT439)))
          refine RG.val' .plain (FV.len (xs := xs79) Tryd.underlying22 rfl hm447) rfl ?_
          refine RG.val' .plain (FV.lssN (i := i437) (j := xs79.length) rfl rfl) rfl ?_
          refine RG.nil ?_
          refine MX.ifd rfl h (fun c448 h => ?_) (fun c448 h => ?_)
          ·skip
           refine MX.skip ?_
           refine MX.seq ?_
           refine MX.block ?_
           refine MX.drawT 26 tb6_24 (by kernel_rfl) (by kernel_rfl) (by kernel_rfl) (fun kt449 kp450 => ?_)
           refine RD.vP 0 1 kt449 rfl kp450 .plain (fun _ => FV.move rfl) rfl ?_
           refine RD.vP 1 3 kt449 rfl kp450 .plain (fun _ => FV.move rfl) rfl ?_
           refine RD.ifb (s := 105) rfl h (fun c451 h => ?_) (fun c451 h => ?_)
           ·skip
            refine RD.offs 16777215 2 [(2, 106), (3, 107), (4, 108), (5, 109), (6, 110), (7, 111), (8, 112), (9, 113), (10, 114), (11, 115), (12, 116), (13, 117), (14, 118), (15, 119), (16, 120), (17, 121), (18, 122), (19, 123), (20, 124), (21, 125), (22, 126), (23, 127)] (F := [(105, true)]) (U := []) kt449 kp450 (.cons rfl .nil) .nil ?_
            dsimp only [offS, List.map]
            refine RD.vP 24 33554431 kt449 rfl kp450 .plain (fun _ => FV.pick_t rfl rfl) rfl ?_
            refine RD.vP 25 67108863 kt449 rfl kp450 .plain (fun _ => FV.assign rfl) rfl ?_
            refine RD.done (doneD_ok kt449 (by kernel_rfl)) ?_
            refine MX.inBlock ?_
            refine MX.region ?_
            refine RG.val' .plain (FV.move rfl) rfl ?_
            refine RG.val' .plain (FV.addN (i := i437) (j := 1) rfl rfl (by omega)) rfl ?_
            refine RG.val' .plain (FV.assign rfl) rfl ?_
            refine RG.nil ?_
            exact hJ446 (true, i437 + 1) _ _ ⟨rfl, rfl, rfl, rfl, rfl, rfl, rfl, trivial⟩ ⟨hS438, hT439⟩ h
           ·skip
            refine RD.vP 2 7 kt449 rfl kp450 (.yes rfl rfl) (fun _ => FV.move rfl) rfl ?_
            refine RD.vP 3 15 kt449 rfl kp450 (.yes rfl rfl) (fun _ => FV.move rfl) rfl ?_
            refine RD.vP 4 31 kt449 rfl kp450 (.yes rfl rfl) (fun _ => FV.subI (i := ((i437 : Nat) : Int)) (j := 1) rfl rfl (by omega)) rfl ?_
            obtain ⟨x452, hx452, h⟩ := bind_in h
            obtain ⟨hi453, hx454⟩ := idx_in hx452
            obtain ⟨A455, c456, he457, hk458, cs459, hr460, hm461⟩ := Rep.nth hm447 hx454
            have he462 : cs459 = [.int .i64 x452] := hr460; subst he462
            refine RD.vP 5 63 kt449 rfl kp450 (.yes rfl rfl) (fun _ => FV.idxAddr (m := 1) (i := (((i437 : Nat) : Int) - 1).toNat) (by kernel_rfl) rfl he457 rfl hi453 hk458) rfl ?_
            refine RD.val (i := 6) (m' := 127) (W := 67104768) (takeC_ok kt449 (by kernel_rfl)) rfl kp450 (.yes rfl rfl) (FV.load1 (by kernel_rfl) rfl (hm461 0 _ rfl)) rfl ?_
            refine RD.vP 7 255 kt449 rfl kp450 (.yes rfl rfl) (fun _ => FV.move rfl) rfl ?_
            refine RD.vP 8 511 kt449 rfl kp450 (.yes rfl rfl) (fun _ => FV.move rfl) rfl ?_
            refine RD.vP 9 1023 kt449 rfl kp450 (.yes rfl rfl) (fun _ => FV.subI (i := ((i356 : Nat) : Int)) (j := 1) rfl rfl (by omega)) rfl ?_
            obtain ⟨x463, hx463, h⟩ := bind_in h
            obtain ⟨hi464, hx465⟩ := idx_in hx463
            have hm473 := Rep.mv hr133 (Tr.trans hT217 (Tr.trans hT358 hT439))
            obtain ⟨A466, c467, he468, hk469, cs470, hr471, hm472⟩ := Rep.nth hm473 hx465
            have he474 : cs470 = [.int .i64 x463] := hr471; subst he474
            refine RD.vP 10 2047 kt449 rfl kp450 (.yes rfl rfl) (fun _ => FV.idxAddr (m := 1) (i := (((i356 : Nat) : Int) - 1).toNat) (by kernel_rfl) rfl he468 rfl hi464 hk469) rfl ?_
            refine RD.val (i := 11) (m' := 4095) (W := 67104768) (takeC_ok kt449 (by kernel_rfl)) rfl kp450 (.yes rfl rfl) (FV.load1 (by kernel_rfl) rfl (hm472 0 _ rfl)) rfl ?_
            refine RD.vP 12 8191 kt449 rfl kp450 (.yes rfl rfl) (fun _ => FV.eql (i := x452) (j := x463) rfl rfl) rfl ?_
            refine RD.vP 13 16383 kt449 rfl kp450 (.yes rfl rfl) (fun _ => FV.move rfl) rfl ?_
            refine RD.ifd (s := 117) rfl h (fun c475 h => ?_) (fun c475 h => ?_)
            ·skip
             refine RD.vP 14 32767 kt449 rfl kp450 (.yes rfl rfl) (fun _ => FV.move rfl) rfl ?_
             refine RD.vP 15 65535 kt449 rfl kp450 (.yes rfl rfl) (fun _ => FV.move rfl) rfl ?_
             obtain ⟨x476, hx476, h⟩ := bind_in h
             obtain ⟨A477, c478, he479, hk480, cs481, hr482, hm483⟩ := Rep.nth hm447 hx476
             have he484 : cs481 = [.int .i64 x476] := hr482; subst he484
             refine RD.vP 16 131071 kt449 rfl kp450 (.yes rfl rfl) (fun _ => FV.idxAddr (m := 1) (i := i437) (by kernel_rfl) rfl he479 rfl rfl hk480) rfl ?_
             refine RD.val (i := 17) (m' := 262143) (W := 62914560) (takeC_ok kt449 (by kernel_rfl)) rfl kp450 (.yes rfl rfl) (FV.load1 (by kernel_rfl) rfl (hm483 0 _ rfl)) rfl ?_
             refine RD.vP 18 524287 kt449 rfl kp450 (.yes rfl rfl) (fun _ => FV.move rfl) rfl ?_
             refine RD.vP 19 1048575 kt449 rfl kp450 (.yes rfl rfl) (fun _ => FV.move rfl) rfl ?_
             obtain ⟨A485, c486, he487, hk488, cs489, hr490, hm491⟩ := Rep.nth hm473 hx373
             have he492 : cs489 = [.int .i64 x373] := hr490; subst he492
             refine RD.vP 20 2097151 kt449 rfl kp450 (.yes rfl rfl) (fun _ => FV.idxAddr (m := 1) (i := i356) (by kernel_rfl) rfl he487 rfl rfl hk488) rfl ?_
             refine RD.val (i := 21) (m' := 4194303) (W := 62914560) (takeC_ok kt449 (by kernel_rfl)) rfl kp450 (.yes rfl rfl) (FV.load1 (by kernel_rfl) rfl (hm491 0 _ rfl)) rfl ?_
             refine RD.vP 22 8388607 kt449 rfl kp450 (.yes rfl rfl) (fun _ => FV.eql (i := x476) (j := x373) rfl rfl) rfl ?_
             refine RD.vP 23 16777215 kt449 rfl kp450 (.yes rfl rfl) (fun _ => FV.pick_t rfl rfl) rfl ?_
             refine RD.vP 24 33554431 kt449 rfl kp450 .plain (fun _ => FV.pick_f rfl rfl) rfl ?_
             refine RD.vP 25 67108863 kt449 rfl kp450 .plain (fun _ => FV.assign rfl) rfl ?_
             refine RD.done (doneD_ok kt449 (by kernel_rfl)) ?_
             refine MX.inBlock ?_
             refine MX.region ?_
             refine RG.val' .plain (FV.move rfl) rfl ?_
             refine RG.val' .plain (FV.addN (i := i437) (j := 1) rfl rfl (by omega)) rfl ?_
             refine RG.val' .plain (FV.assign rfl) rfl ?_
             refine RG.nil ?_
             exact hJ446 ((decide (x476 = x373)), i437 + 1) _ _ ⟨rfl, rfl, rfl, rfl, rfl, rfl, rfl, trivial⟩ ⟨hS438, hT439⟩ h
            ·skip
             refine RD.offs 8388607 3 [(14, 118), (15, 119), (16, 120), (17, 121), (18, 122), (19, 123), (20, 124), (21, 125), (22, 126)] (F := [(117, false)]) (U := []) kt449 kp450 (.cons rfl .nil) .nil ?_
             dsimp only [offS, List.map]
             refine RD.vP 23 16777215 kt449 rfl kp450 (.yes rfl rfl) (fun _ => FV.pick_f rfl rfl) rfl ?_
             refine RD.vP 24 33554431 kt449 rfl kp450 .plain (fun _ => FV.pick_f rfl rfl) rfl ?_
             refine RD.vP 25 67108863 kt449 rfl kp450 .plain (fun _ => FV.assign rfl) rfl ?_
             refine RD.done (doneD_ok kt449 (by kernel_rfl)) ?_
             refine MX.inBlock ?_
             refine MX.region ?_
             refine RG.val' .plain (FV.move rfl) rfl ?_
             refine RG.val' .plain (FV.addN (i := i437) (j := 1) rfl rfl (by omega)) rfl ?_
             refine RG.val' .plain (FV.assign rfl) rfl ?_
             refine RG.nil ?_
             exact hJ446 (false, i437 + 1) _ _ ⟨rfl, rfl, rfl, rfl, rfl, rfl, rfl, trivial⟩ ⟨hS438, hT439⟩ h
          ·skip
           refine MX.exit rfl ?_
           have h := hh444 _ h
           try dsimp only at h
           refine MX.seq ?_
           refine MX.region ?_
           refine RG.val' .plain (FV.move rfl) rfl ?_
           refine RG.val' .plain (FV.not rfl) rfl ?_
           refine RG.nil ?_
           refine MX.ifnb rfl h (fun c493 h => ?_) (fun c493 h => ?_)
           ·skip
            refine MX.skip ?_
            refine MX.inBlock ?_
            refine MX.region ?_
            refine RG.val' .plain (FV.addN (i := i356) (j := 1) rfl rfl (by omega)) rfl ?_
            refine RG.val' .plain (FV.move rfl) rfl ?_
            refine RG.nil ?_
            exact hJ365 (i356 + 1) _ _ ⟨rfl, rfl, rfl, rfl, trivial⟩ ⟨hS438, (Tr.trans hT358 hT439)⟩ h
           ·skip
            refine MX.seq ?_
            refine MX.region ?_
            refine RG.val' .plain (FV.assign rfl) rfl ?_
            refine RG.nil ?_
            have h := thn_inl h hh363
            refine MX.ret rfl ?_
            refine RT.leave (u := .bool false) hb0 Tryd.func6 rfl (.cons (.tmp rfl) .nil) rfl ?_
            obtain rfl := Option.some.inj h
            exact ⟨hS438.ag, fun w9 hw9 => rfl⟩
       ·skip
        refine MX.exit rfl ?_
        have h := thn_inr h hh363
        try dsimp only at h
        refine MX.seq ?_
        refine MX.region ?_
        refine RG.val' .plain (FV.assign rfl) rfl ?_
        refine RG.nil ?_
        refine MX.ret rfl ?_
        refine RT.leave (u := .bool true) hb0 Tryd.func6 rfl (.cons (.tmp rfl) .nil) rfl ?_
        obtain rfl := Option.some.inj h
        exact ⟨hS357.ag, fun w9 hw9 => rfl⟩
     ·skip
      intro J219 hJ220 h
      try dsimp only at h
      refine MX.drawT 41 tb6_12 (by kernel_rfl) (by kernel_rfl) (by kernel_rfl) (fun kt494 kp495 => ?_)
      refine RD.vP 0 1 kt494 rfl kp495 .plain (fun _ => FV.move rfl) rfl ?_
      refine RD.vP 1 3 kt494 rfl kp495 .plain (fun _ => FV.neq (i := y122.2) (j := 0) rfl rfl) rfl ?_
      refine RD.vP 2 7 kt494 rfl kp495 .plain (fun _ => FV.move rfl) rfl ?_
      refine RD.ifn (s := 44) rfl h (fun c496 h => ?_) (fun c496 h => ?_)
      ·skip
       refine RD.vP 3 15 kt494 rfl kp495 (.yes rfl rfl) (fun _ => FV.move rfl) rfl ?_
       have hl497 : y122.1.length ≤ 281474976710656 := Rep.lenle hr133
       refine RD.val (i := 4) (m' := 31) (W := 2199023255520) (takeC_ok kt494 (by kernel_rfl)) rfl kp495 (.yes rfl rfl) (FV.len (xs := y122.1) Tryd.underlying22 rfl hr133) rfl ?_
       refine RD.vP 5 63 kt494 rfl kp495 (.yes rfl rfl) (fun _ => FV.eqlN (i := y122.1.length) (j := 0) rfl rfl) rfl ?_
       refine RD.vP 6 127 kt494 rfl kp495 .plain (fun _ => FV.pick_f rfl rfl) rfl ?_
       refine RD.vP 7 255 kt494 rfl kp495 .plain (fun _ => FV.move rfl) rfl ?_
       refine RD.ifd (s := 49) rfl h (fun c498 h => ?_) (fun c498 h => ?_)
       ·skip
        refine RD.offs 32767 26 [(8, 50), (9, 51), (10, 52), (11, 53), (12, 54), (13, 55), (14, 56)] (F := [(49, true)]) (U := []) kt494 kp495 (.cons rfl .nil) .nil ?_
        dsimp only [offS, List.map]
        refine RD.vP 15 65535 kt494 rfl kp495 .plain (fun _ => FV.pick_t rfl rfl) rfl ?_
        refine RD.vP 16 131071 kt494 rfl kp495 .plain (fun _ => FV.move rfl) rfl ?_
        refine RD.offs 1073741823 11 [(17, 59), (18, 60), (19, 61), (20, 62), (21, 63), (22, 64), (23, 65), (24, 66), (25, 67), (26, 68), (27, 69), (28, 70), (29, 71)] (F := [(58, true)]) (U := []) kt494 kp495 (.cons rfl .nil) .nil ?_
        dsimp only [offS, List.map]
        refine RD.vP 30 2147483647 kt494 rfl kp495 .plain (fun _ => FV.pick_t rfl rfl) rfl ?_
        refine RD.vP 31 4294967295 kt494 rfl kp495 .plain (fun _ => FV.move rfl) rfl ?_
        refine RD.offs 1099511627775 1 [(32, 74), (33, 75), (34, 76), (35, 77), (36, 78), (37, 79), (38, 80), (39, 81)] (F := [(73, true)]) (U := []) kt494 kp495 (.cons rfl .nil) .nil ?_
        dsimp only [offS, List.map]
        refine RD.vP 40 2199023255551 kt494 rfl kp495 .plain (fun _ => FV.pick_t rfl rfl) rfl ?_
        refine RD.done (doneD_ok kt494 (by kernel_rfl)) ?_
        exact hJ220 true _ _ ⟨rfl, rfl, rfl, trivial⟩ ⟨hS130, Tr.refl _ _⟩ h
       ·skip
        refine RD.vP 8 511 kt494 rfl kp495 (.yes rfl rfl) (fun _ => FV.move rfl) rfl ?_
        obtain ⟨x499, hx499, h⟩ := bind_in h
        obtain ⟨A500, c501, he502, hk503, cs504, hr505, hm506⟩ := Rep.nth hr133 hx499
        have he507 : cs504 = [.int .i64 x499] := hr505; subst he507
        refine RD.vP 9 1023 kt494 rfl kp495 (.yes rfl rfl) (fun _ => FV.idxAddr (m := 1) (i := 0) (by kernel_rfl) rfl he502 rfl rfl hk503) rfl ?_
        refine RD.val (i := 10) (m' := 2047) (W := 2199023239168) (takeC_ok kt494 (by kernel_rfl)) rfl kp495 (.yes rfl rfl) (FV.load1 (by kernel_rfl) rfl (hm506 0 _ rfl)) rfl ?_
        refine RD.vP 11 4095 kt494 rfl kp495 (.yes rfl rfl) (fun _ => FV.move rfl) rfl ?_
        obtain ⟨x508, hx508, h⟩ := bind_in h
        obtain ⟨A509, c510, he511, hk512, cs513, hr514, hm515⟩ := Rep.nth hm135 hx508
        have he516 : cs513 = [.int .i64 x508] := hr514; subst he516
        refine RD.vP 12 8191 kt494 rfl kp495 (.yes rfl rfl) (fun _ => FV.idxAddr (m := 1) (i := 0) (by kernel_rfl) rfl he511 rfl rfl hk512) rfl ?_
        refine RD.val (i := 13) (m' := 16383) (W := 2199023239168) (takeC_ok kt494 (by kernel_rfl)) rfl kp495 (.yes rfl rfl) (FV.load1 (by kernel_rfl) rfl (hm515 0 _ rfl)) rfl ?_
        refine RD.vP 14 32767 kt494 rfl kp495 (.yes rfl rfl) (fun _ => FV.neq (i := x499) (j := x508) rfl rfl) rfl ?_
        refine RD.vP 15 65535 kt494 rfl kp495 .plain (fun _ => FV.pick_f rfl rfl) rfl ?_
        refine RD.vP 16 131071 kt494 rfl kp495 .plain (fun _ => FV.move rfl) rfl ?_
        refine RD.ifn (s := 58) rfl h (fun c517 h => ?_) (fun c517 h => ?_)
        ·skip
         refine RD.vP 17 262143 kt494 rfl kp495 (.yes rfl rfl) (fun _ => FV.move rfl) rfl ?_
         refine RD.vP 18 524287 kt494 rfl kp495 (.yes rfl rfl) (fun _ => FV.move rfl) rfl ?_
         refine RD.val (i := 19) (m' := 1048575) (W := 2198493724672) (takeC_ok kt494 (by kernel_rfl)) rfl kp495 (.yes rfl rfl) (FV.len (xs := y122.1) Tryd.underlying22 rfl hr133) rfl ?_
         refine RD.vP 20 2097151 kt494 rfl kp495 (.yes rfl rfl) (fun _ => FV.subI (i := ((y122.1.length : Nat) : Int)) (j := 1) rfl rfl (by omega)) rfl ?_
         obtain ⟨x518, hx518, h⟩ := bind_in h
         obtain ⟨hi519, hx520⟩ := idx_in hx518
         obtain ⟨A521, c522, he523, hk524, cs525, hr526, hm527⟩ := Rep.nth hr133 hx520
         have he528 : cs525 = [.int .i64 x518] := hr526; subst he528
         refine RD.vP 21 4194303 kt494 rfl kp495 (.yes rfl rfl) (fun _ => FV.idxAddr (m := 1) (i := (((y122.1.length : Nat) : Int) - 1).toNat) (by kernel_rfl) rfl he523 rfl hi519 hk524) rfl ?_
         refine RD.val (i := 22) (m' := 8388607) (W := 2198486384640) (takeC_ok kt494 (by kernel_rfl)) rfl kp495 (.yes rfl rfl) (FV.load1 (by kernel_rfl) rfl (hm527 0 _ rfl)) rfl ?_
         refine RD.vP 23 16777215 kt494 rfl kp495 (.yes rfl rfl) (fun _ => FV.move rfl) rfl ?_
         refine RD.vP 24 33554431 kt494 rfl kp495 (.yes rfl rfl) (fun _ => FV.move rfl) rfl ?_
         refine RD.val (i := 25) (m' := 67108863) (W := 2198956146688) (takeC_ok kt494 (by kernel_rfl)) rfl kp495 (.yes rfl rfl) (FV.len (xs := xs79) Tryd.underlying22 rfl hm135) rfl ?_
         refine RD.vP 26 134217727 kt494 rfl kp495 (.yes rfl rfl) (fun _ => FV.subI (i := ((xs79.length : Nat) : Int)) (j := 1) rfl rfl (by omega)) rfl ?_
         obtain ⟨x529, hx529, h⟩ := bind_in h
         obtain ⟨hi530, hx531⟩ := idx_in hx529
         obtain ⟨A532, c533, he534, hk535, cs536, hr537, hm538⟩ := Rep.nth hm135 hx531
         have he539 : cs536 = [.int .i64 x529] := hr537; subst he539
         refine RD.vP 27 268435455 kt494 rfl kp495 (.yes rfl rfl) (fun _ => FV.idxAddr (m := 1) (i := (((xs79.length : Nat) : Int) - 1).toNat) (by kernel_rfl) rfl he534 rfl hi530 hk535) rfl ?_
         refine RD.val (i := 28) (m' := 536870911) (W := 2198486384640) (takeC_ok kt494 (by kernel_rfl)) rfl kp495 (.yes rfl rfl) (FV.load1 (by kernel_rfl) rfl (hm538 0 _ rfl)) rfl ?_
         refine RD.vP 29 1073741823 kt494 rfl kp495 (.yes rfl rfl) (fun _ => FV.neq (i := x518) (j := x529) rfl rfl) rfl ?_
         refine RD.vP 30 2147483647 kt494 rfl kp495 .plain (fun _ => FV.pick_f rfl rfl) rfl ?_
         refine RD.vP 31 4294967295 kt494 rfl kp495 .plain (fun _ => FV.move rfl) rfl ?_
         refine RD.ifn (s := 73) rfl h (fun c540 h => ?_) (fun c540 h => ?_)
         ·skip
          refine RD.vP 32 8589934591 kt494 rfl kp495 (.yes rfl rfl) (fun _ => FV.move rfl) rfl ?_
          refine RD.vP 34 25769803775 kt494 rfl kp495 (.yes rfl rfl) (fun _ => FV.move rfl) rfl ?_
          refine RD.one (i := 33) (readyD_ok kt494 (by kernel_rfl)) (RO.call (m' := 34359738367) (fst := []) (cap := []) (stepC_ok kt494 (by kernel_rfl)) rfl (.yes rfl rfl) body20 rfl (evs_cons rfl evs_nil) (fun w9 hw9 => Calls.gives (wardmotelaw31_lists_c n _ w9 (hS130.hL hL hw9) y122.1 (Rep.keep0 hr133 hw9)) fun (w8 : World) (u8 : Value) ⟨b0_, hu_, s_⟩ => (⟨b0_, hu_, s_.from hw9⟩ : ∃ b542 : Nat, u8 = Value.func (.func 38) #[] #[.pointer (some ⟨b542, 0, none⟩)] ∧ St w127 w8 [.cells b542 [v132] 22])) rfl (fun w543 vu544 hag545 ⟨b542, hu547, s546⟩ => ?_))
          subst hu547
          have hS548 : St w w543 [.cells b542 [v132] 22] := St.merge hS130 s546
          have hT549 : Tr w127 [] w543 [.cells b542 [v132] 22] := Tr.merge hS130 s546
          obtain ⟨y550, hy550, h⟩ := bind_in h
          have hm551 := Rep.mv hr133 hT549
          refine RD.one (i := 35) (readyD_ok kt494 (by kernel_rfl)) (RO.call (m' := 68719476735) (fst := []) (cap := []) (stepC_ok kt494 (by kernel_rfl)) rfl (.yes rfl rfl) body10 rfl (evs_cons rfl evs_nil) (fun w9 hw9 => wilson_Erase_c n _ w9 (hS548.hL hL hw9) y122.1 (Rep.keep0 hm551 hw9) hy550) rfl (fun w552 vu553 hag554 ⟨v557, hu_, hr558⟩ => ?_))
          subst hu_
          have hS555 := hS548.agree hag554
          have hT556 := Tr.agree (O := [.cells b542 [v132] 22]) hag554
          refine RD.vP 36 137438953471 kt494 rfl kp495 (.yes rfl rfl) (fun _ => FV.extract rfl rfl) rfl ?_
          refine RD.vP 37 274877906943 kt494 rfl kp495 (.yes rfl rfl) (fun _ => FV.extract rfl rfl) rfl ?_
          obtain ⟨y559, hy559, h⟩ := bind_in h
          have hm560 := Rep.mv hr133 (Tr.trans hT549 hT556)
          refine RD.callq (i := 38) (m' := 549755813887) (W := 1649267441664) (takeC_ok kt494 (by kernel_rfl)) rfl kp495 (v := .bool y559) (fst := []) (cap := [.pointer (some ⟨b542, 0, none⟩)]) (.yes rfl rfl) body38 rfl (evs_cons rfl (evs_cons rfl evs_nil)) (fun w9 hw9 => wardmotelaw31_lists_1_c n _ w9 (hS555.hL0 hL hw9) y550.1 (Rep.keep0 (Rep.dropO (O := [.cells b542 [v132] 22]) hr558) hw9) y550.2 y122.1 (Rep.keep0 (Rep.dropO (O := [.cells b542 [v132] 22]) hm560) hw9) (fun j9 v9 h9 => hw9.cell0 ((hS555.memA .hd) j9 v9 h9)) hy559) rfl ?_
          refine RD.vP 39 1099511627775 kt494 rfl kp495 (.yes rfl rfl) (fun _ => FV.not rfl) rfl ?_
          refine RD.vP 40 2199023255551 kt494 rfl kp495 .plain (fun _ => FV.pick_f rfl rfl) rfl ?_
          refine RD.done (doneD_ok kt494 (by kernel_rfl)) ?_
          have hS561 : St _ _ [] := hS555.arr .done
          have hT562 : Tr w552 _ w552 [] := Tr.arr (St.arrOf hS555 .done)
          exact hJ220 (!y559) _ _ ⟨rfl, rfl, rfl, trivial⟩ ⟨hS561, (Tr.trans hT549 (Tr.trans hT556 hT562))⟩ h
         ·skip
          refine RD.offs 1099511627775 1 [(32, 74), (33, 75), (34, 76), (35, 77), (36, 78), (37, 79), (38, 80), (39, 81)] (F := [(73, true)]) (U := []) kt494 kp495 (.cons rfl .nil) .nil ?_
          dsimp only [offS, List.map]
          refine RD.vP 40 2199023255551 kt494 rfl kp495 .plain (fun _ => FV.pick_t rfl rfl) rfl ?_
          refine RD.done (doneD_ok kt494 (by kernel_rfl)) ?_
          exact hJ220 true _ _ ⟨rfl, rfl, rfl, trivial⟩ ⟨hS130, Tr.refl _ _⟩ h
        ·skip
         refine RD.offs 1073741823 11 [(17, 59), (18, 60), (19, 61), (20, 62), (21, 63), (22, 64), (23, 65), (24, 66), (25, 67), (26, 68), (27, 69), (28, 70), (29, 71)] (F := [(58, true)]) (U := []) kt494 kp495 (.cons rfl .nil) .nil ?_
         dsimp only [offS, List.map]
         refine RD.vP 30 2147483647 kt494 rfl kp495 .plain (fun _ => FV.pick_t rfl rfl) rfl ?_
         refine RD.vP 31 4294967295 kt494 rfl kp495 .plain (fun _ => FV.move rfl) rfl ?_
         refine RD.offs 1099511627775 1 [(32, 74), (33, 75), (34, 76), (35, 77), (36, 78), (37, 79), (38, 80), (39, 81)] (F := [(73, true)]) (U := []) kt494 kp495 (.cons rfl .nil) .nil ?_
         dsimp only [offS, List.map]
         refine RD.vP 40 2199023255551 kt494 rfl kp495 .plain (fun _ => FV.pick_t rfl rfl) rfl ?_
         refine RD.done (doneD_ok kt494 (by kernel_rfl)) ?_
         exact hJ220 true _ _ ⟨rfl, rfl, rfl, trivial⟩ ⟨hS130, Tr.refl _ _⟩ h
      ·skip
       refine RD.offs 63 35 [(3, 45), (4, 46), (5, 47)] (F := [(44, true)]) (U := []) kt494 kp495 (.cons rfl .nil) .nil ?_
       dsimp only [offS, List.map]
       refine RD.vP 6 127 kt494 rfl kp495 .plain (fun _ => FV.pick_t rfl rfl) rfl ?_
       refine RD.vP 7 255 kt494 rfl kp495 .plain (fun _ => FV.move rfl) rfl ?_
       refine RD.offs 32767 26 [(8, 50), (9, 51), (10, 52), (11, 53), (12, 54), (13, 55), (14, 56)] (F := [(49, true)]) (U := []) kt494 kp495 (.cons rfl .nil) .nil ?_
       dsimp only [offS, List.map]
       refine RD.vP 15 65535 kt494 rfl kp495 .plain (fun _ => FV.pick_t rfl rfl) rfl ?_
       refine RD.vP 16 131071 kt494 rfl kp495 .plain (fun _ => FV.move rfl) rfl ?_
       refine RD.offs 1073741823 11 [(17, 59), (18, 60), (19, 61), (20, 62), (21, 63), (22, 64), (23, 65), (24, 66), (25, 67), (26, 68), (27, 69), (28, 70), (29, 71)] (F := [(58, true)]) (U := []) kt494 kp495 (.cons rfl .nil) .nil ?_
       dsimp only [offS, List.map]
       refine RD.vP 30 2147483647 kt494 rfl kp495 .plain (fun _ => FV.pick_t rfl rfl) rfl ?_
       refine RD.vP 31 4294967295 kt494 rfl kp495 .plain (fun _ => FV.move rfl) rfl ?_
       refine RD.offs 1099511627775 1 [(32, 74), (33, 75), (34, 76), (35, 77), (36, 78), (37, 79), (38, 80), (39, 81)] (F := [(73, true)]) (U := []) kt494 kp495 (.cons rfl .nil) .nil ?_
       dsimp only [offS, List.map]
       refine RD.vP 40 2199023255551 kt494 rfl kp495 .plain (fun _ => FV.pick_t rfl rfl) rfl ?_
       refine RD.done (doneD_ok kt494 (by kernel_rfl)) ?_
       exact hJ220 true _ _ ⟨rfl, rfl, rfl, trivial⟩ ⟨hS130, Tr.refl _ _⟩ h
  ·skip
   refine MX.seq ?_
   refine MX.region ?_
   refine RG.val' .plain (FV.assign rfl) rfl ?_
   refine RG.nil ?_
   refine MX.ret rfl ?_
   refine RT.leave (u := .bool false) hb0 Tryd.func6 rfl (.cons (.tmp rfl) .nil) rfl ?_
   obtain rfl := Option.some.inj h
   exact ⟨hS0.ag, fun w9 hw9 => rfl⟩
end Go.Proofs.YtplkfbljncfdnaaDoor
