/- The plain law of WilsonHands. No program in sight but the printed functions. -/
import Derived.Test.YtplkfbljncfdnaaDoorF9
import Derived.Test.YtplkfbljncfdnaaDoorGz
namespace Go.Proofs.YtplkfbljncfdnaaDoor
open Go

theorem note_same : wardmotelaw31_WilsonHands_l1 = fun n y g => wilson_Draw_l1 n y.1 g := rfl
theorem down_same : wardmotelaw31_WilsonHands_l2 = wilson_Draw_l5 := rfl
theorem sort_same : wardmotelaw31_WilsonHands_l3 = wilson_Draw_l6 := rfl
/-- The tree is drawn walk by walk; by hand it comes out the same. -/
theorem draws (n : Nat) (g : TGraph) (h : Valid g) (hn : 10010 < n) (s : UInt64) (hs : Fits g.fN s) (hJ : Joined g s) (K : Nat) : ∀ (m : Nat) (done : UInt64) (z : Nat) (tree : List Int) (c : UInt64) (left : Int), (z : Int) ≤ g.fN → g.fN.toNat - z < m →
    (∀ k, bit done k = true → bit s k = true) → bit done (low s) = true → tree.length + 1 ≤ (bitsL done).length → 0 ≤ left → left ≤ 10000 →
    ∃ r, loopF (wilson_Draw_l8 n g s) m (done, (z : Int), tree, c, left) = some r ∧ (r = .inl ([], ⟨0⟩, 9) ∨ ∃ tree' c', r = .inr (tree', c') ∧ tree'.length + 1 ≤ (bitsL s).length ∧
      (s = shlU 1 K - 1 → (∀ k, bit s k = true ↔ (k : Int) < g.fN) → loopF (wardmotelaw31_WilsonHands_l5 n g K) m (done, (z : Int), tree, c) = some (.inr (tree', c')))) := by
  have h1 := h.n1; have h64 := h.n64
  intro m
  induction m with
  | zero => intro done z tree c left hz hm; omega
  | succ m ih =>
    intro done z tree c left hz hm i1 i2 i3 i4 i5
    have hdl : (bitsL done).length ≤ (bitsL s).length := bitsL_le i1
    have hsl := bitsL_len s
    simp only [loopF_succ]
    generalize hJ1 : loopF (wilson_Draw_l8 n g s) m = J1 at *
    generalize hJ2 : loopF (wardmotelaw31_WilsonHands_l5 n g K) m = J2 at *
    unfold wilson_Draw_l8 wardmotelaw31_WilsonHands_l5
    simp only [note_same]
    by_cases hzN : (z : Int) < g.fN
    · simp only [if_pos hzN]
      rw [natOf_ok (by omega), Int.toNat_natCast]
      simp only [obind]
      have next : ((z : Int) + 1) = ((z + 1 : Nat) : Int) := by omega
      by_cases hb : bit (s &&& ~~~done) z = true
      · have hb' := hb
        rw [bit_andNot, Bool.and_eq_true, Bool.not_eq_true'] at hb'
        obtain ⟨hsz, hdz⟩ := hb'
        rw [if_neg (fun e => by rw [(hasnt_iff _ z).1 e] at hb; cases hb)]
        obtain ⟨mw, hway⟩ := hJ.way hsz (low_bit hJ.1)
        obtain ⟨r, w1, w2⟩ := walking_ok n g h hn s done z c left.toNat (by omega) hs hsz (low s) mw i2 hway
        rw [show ((left.toNat : Nat) : Int) = left by omega] at w1
        obtain ⟨sim1, sim2⟩ := l4_sim n done g s n (z : Int) [(z : Int)] c left
        rcases w2 with rfl | ⟨w, c', t, rfl, p1, p2, p3, p4, _⟩
        · rw [sim1 _ w1]
          exact ⟨_, rfl, .inl rfl⟩
        · obtain ⟨s1, s2, s3⟩ := sim2 _ _ w1
          rw [s2]
          simp only [thn]
          have hwl : 0 < w.length := by
            rcases Nat.eq_zero_or_pos w.length with h0 | h0
            · rw [List.length_eq_zero_iff.1 h0] at p3; simp at p3
            · exact h0
          obtain ⟨r, r1, r2⟩ := erased_props n (w.map fun k : Nat => (k : Int)) (by rw [List.length_map]; omega) (by omega) (by rw [List.length_map]; omega)
          rw [r1]
          simp only [obind]
          obtain ⟨q, rfl, hq⟩ := path_of p1 p3 p4 r2
          have hqs : q.length ≤ 64 := by
            have := card_add q 0 s hq.once (fun x hx => ⟨bit_lt (hq.inside x hx), bit_zero x, hq.inside x hx⟩) (fun k hk => by rw [bit_zero] at hk; cases hk)
            omega
          obtain ⟨done', es, n1, n2, n3, _⟩ := note_ok n g h hn q hqs (fun y hy => hs y (hq.inside y hy)) hq.steps done tree (by omega)
          rw [n1]
          simp only [obind]
          rw [chk_ok (by omega)]
          simp only [obind]
          rw [next]
          have hd' : ∀ k, bit done' k = true → bit s k = true := fun k hk => by
            rcases (n2 k).1 hk with hk | hk
            · exact i1 k hk
            · exact hq.inside k hk
          have hcard : (bitsL done).length + (q.length - 1) ≤ (bitsL done').length := by
            have := card_add (q.take (q.length - 1)) done done' (hq.once.sublist (List.take_sublist _ _)) (fun x hx => by
              obtain ⟨i, hi, rfl⟩ := List.getElem_of_mem hx
              simp only [List.length_take] at hi
              rw [List.getElem_take]
              have hi2 : i < q.length := by omega
              exact ⟨bit_lt (hq.inside _ (List.getElem_mem hi2)), hq.away i _ (List.getElem?_eq_getElem hi2) (by omega), (n2 _).2 (.inr (List.getElem_mem hi2))⟩) (fun k hk => (n2 k).2 (.inl hk))
            simp only [List.length_take] at this
            omega
          obtain ⟨r', f1, f2⟩ := ih done' (z + 1) (tree ++ es) c' (left - (((w.map fun k : Nat => (k : Int)).length : Int) - (([(z : Int)] : List Int).length : Int))) (by omega) (by omega) hd' ((n2 _).2 (.inl i2)) (by rw [List.length_append, n3]; omega)
            (by simp only [List.length_map, List.length_singleton]; omega) (by simp only [List.length_map, List.length_singleton]; omega)
          refine ⟨r', f1, ?_⟩
          rcases f2 with f2 | ⟨tree', c2, f2, f3, f4⟩
          · exact .inl f2
          · refine .inr ⟨tree', c2, f2, f3, fun hfull hall => ?_⟩
            rw [if_neg (fun e => by rw [(has_iff done z).1 e] at hdz; cases hdz), ← hfull]
            rw [walk_eq n g h (by omega) s done z ⟨c⟩ hs (fun k hk => hs k (i1 k hk)) hsz ⟨mw, low s, hway, i2⟩]
            simp only
            rw [s3 10000 i4 i5 (by omega)]
            simp only [thn, obind]
            unfold wilson_Erase_p
            rw [if_neg (by rw [List.length_map]; omega), if_neg (by rw [List.length_map]; omega), r1]
            simp only [obind]
            rw [ifT, ifT, n1]
            simp only [obind]
            exact f4 hfull hall
      · have hb' : bit (s &&& ~~~done) z = false := by
          cases hbb : bit (s &&& ~~~done) z with
          | false => rfl
          | true => exact absurd hbb hb
        rw [if_pos ((hasnt_iff _ z).2 hb'), chk_ok (by omega)]
        simp only [obind]
        rw [next]
        obtain ⟨r', f1, f2⟩ := ih done (z + 1) tree c left (by omega) (by omega) i1 i2 i3 i4 i5
        refine ⟨r', f1, ?_⟩
        rcases f2 with f2 | ⟨tree', c2, f2, f3, f4⟩
        · exact .inl f2
        · refine .inr ⟨tree', c2, f2, f3, fun hfull hall => ?_⟩
          have hsz := (hall z).2 hzN
          have hdz : bit done z = true := by
            rw [bit_andNot, hsz] at hb'
            simpa using hb'
          rw [if_pos ((has_iff done z).2 hdz)]
          exact f4 hfull hall
    · simp only [if_neg hzN]
      exact ⟨_, rfl, .inr ⟨tree, c, rfl, by omega, fun _ _ => rfl⟩⟩
theorem lens : ∀ N, N < 13 → (bitsL (shlU 1 N - 1)).length = N := by decide +kernel
theorem lens64 (n : Nat) (k : Nat) : ∃ y, math_bits_Len_p n (u64of ((k : Nat) : Int)) = some y := by
  unfold math_bits_Len_p
  rw [len64]
  exact ⟨_, rfl⟩
theorem wilsonHands_true (a0 : TDraft) (a1 : TChance) : ∃ n, wardmotelaw31_WilsonHands_p n a0 a1 = some true := by
  refine ⟨20000, ?_⟩
  unfold wardmotelaw31_WilsonHands_p
  rw [works_true]
  simp only [obind]
  rw [ifT]
  obtain ⟨g, g1, g2, g3⟩ := draft_ok 20000 a0 (by omega)
  rw [g1]
  simp only [obind]
  have h1 := g2.n1
  obtain ⟨N, hN⟩ : ∃ N : Nat, g.fN = N := ⟨g.fN.toNat, by omega⟩
  rw [hN, natOf_ok (by omega), Int.toNat_natCast]
  simp only [obind]
  have hall : ∀ k, bit (shlU 1 N - 1) k = true ↔ (k : Int) < g.fN := fun k => by rw [bit_all (by omega), decide_eq_true_eq, hN]; omega
  have hs : Fits g.fN (shlU 1 N - 1) := fun k hk => (hall k).1 hk
  generalize hfull : shlU 1 N - 1 = s at *
  have h0 : bit s 0 = true := (hall 0).2 (by omega)
  have hs0 : s ≠ 0 := fun e => by rw [e, bit_zero] at h0; cases h0
  have hlow : low s = 0 := by
    rcases Nat.eq_zero_or_pos (low s) with h | h
    · exact h
    · rw [low_lt hs0 h] at h0; cases h0
  have hlen : (bitsL s).length = N := by rw [← hfull]; exact lens N (by omega)
  unfold wilson_Draw_p
  rw [g2.check (by omega)]
  simp only [obind]
  rw [ifT, if_neg hs0]
  obtain ⟨b1, f1, f2⟩ := fits_p 20000 g s (by omega)
  have : b1 = true := f2.2 hs
  subst this
  rw [f1]
  simp only [obind]
  rw [ifT]
  obtain ⟨b, c1, c2⟩ := connected_ok 20000 g g2 (by omega) s hs
  rw [c1]
  simp only [obind]
  cases b with
  | false =>
    rw [if_neg (by simp)]
    simp only [obind]
    rw [if_neg (by decide), ifT]
  | true =>
    rw [ifTT]
    have hJ := c2.1 rfl
    rw [and_neg64 hs0, hlow]
    have hone : (bitsL (shlU 1 0)).length = 1 := by decide +kernel
    obtain ⟨r, d1, d2⟩ := draws 20000 g g2 (by omega) s hs hJ N 20000 (shlU 1 0) 0 [] a1.fState 10000 (by omega) (by omega) (fun k hk => by
      rw [bit_one (by omega), decide_eq_true_eq] at hk
      subst hk; exact h0) (by rw [hlow, bit_one (by omega)]; simp) (by rw [hone]; simp) (by omega) (by omega)
    rw [show ((0 : Nat) : Int) = 0 from rfl] at d1
    rw [d1]
    rcases d2 with rfl | ⟨tree, c', rfl, t1, t2⟩
    · simp only [thn, obind]
      rw [if_neg (by decide), if_neg (by decide)]
      rfl
    · simp only [thn, obind]
      have ht : tree.length ≤ 11 := by omega
      obtain ⟨y, y1⟩ := lens64 20000 tree.length
      rw [y1]
      simp only [obind]
      obtain ⟨ys, v1, v2, _, _⟩ := sort_ok 20000 20000 tree (by omega) (by omega) (by omega)
      have hsort : ∀ m, loopF (wilson_Draw_l7 20000 tree c') (m + 1) (0, tree.length, y, true, true) = some (ys, ⟨c'⟩, 0) := fun m => by
        rw [loopF_succ]
        generalize loopF (wilson_Draw_l7 20000 tree c') m = J
        unfold wilson_Draw_l7
        simp only
        rw [chk_ok (by omega)]
        simp only [obind]
        rw [if_pos (by omega), chk_ok (by omega)]
        simp only [obind]
        have e : ((((0 : Nat) : Int)) + 1) = 1 := by omega
        rw [e, v1]
        rfl
      rw [hsort 19999]
      simp only [obind]
      rw [ifT]
      have hand := t2 hfull.symm hall
      rw [show ((0 : Nat) : Int) = 0 from rfl] at hand
      have h1s : shlU 1 0 = 1 := by decide +kernel
      rw [h1s] at hand
      rw [hand]
      simp only [thn]
      rw [y1]
      simp only [obind]
      rw [loopF_succ (n := 19999)]
      generalize loopF (wardmotelaw31_WilsonHands_l4 20000 tree (ys, ⟨c'⟩, 0) c') 19999 = J
      unfold wardmotelaw31_WilsonHands_l4
      simp only [sort_same]
      rw [chk_ok (by omega)]
      simp only [obind]
      rw [if_pos (by omega), chk_ok (by omega)]
      simp only [obind]
      have e : ((((0 : Nat) : Int)) + 1) = 1 := by omega
      rw [e, v1]
      simp only [obind]
      rw [equal_self 20000 ys (by omega)]
      simp only [obind]
      rw [ifT]
      rfl
end Go.Proofs.YtplkfbljncfdnaaDoor
