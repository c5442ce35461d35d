/- The plain law of WilsonSteps. No program in sight but the printed functions. -/
import Derived.Test.YtplkfbljncfdnaaDoorF9
import Derived.Test.YtplkfbljncfdnaaDoorGw
namespace Go.Proofs.YtplkfbljncfdnaaDoor
open Go

/-! ### Drafted graphs -/
theorem remI_ok {x y : Int} (h : y ≠ 0) : remI x y = some (x.tmod y) := if_neg h
theorem quoI_ok {x y : Int} (h : y ≠ 0) (h1 : -9223372036854775808 ≤ x.tdiv y) (h2 : x.tdiv y ≤ 9223372036854775807) : quoI x y = some (x.tdiv y) := by unfold quoI; rw [if_neg h, chk_ok ⟨h1, h2⟩]
theorem more_ok (n N : Nat) (d : TDraft) (s a b : Int) (hs : s ≠ 0) (q : Bool) (hn : 10 < n) : ∃ q', loopF (wardmoteref18_Draft_Graph_l1 N d s a b) n (q, 0) = some q' := by
  obtain ⟨r, h1, _⟩ := loop_ok (B := wardmoteref18_Draft_Graph_l1 N d s a b) (fun s => 3 - s.2) (fun s => s.2 ≤ 3) (fun _ => True) (fun ⟨q, i⟩ J hi hJ => by
    simp only at hi hJ
    unfold wardmoteref18_Draft_Graph_l1
    simp only
    by_cases h1 : i < d.fMore.length
    · rw [if_pos h1]
      by_cases h2 : i < 3
      · rw [if_pos h2, List.getElem?_eq_getElem h1]
        simp only [obind]
        rw [remI_ok hs]
        simp only [obind]
        rw [remI_ok hs]
        simp only [obind]
        have go : ∀ q', ∃ r, J (q', i + 1) = some r ∧ True := fun q' => hJ _ (by simp only; omega) (by simp only; omega)
        repeat' split
        all_goals exact go _
      · rw [if_neg h2]; exact ⟨_, rfl, trivial⟩
    · rw [if_neg h1]; exact ⟨_, rfl, trivial⟩) n (q, 0) (by simp) (by simp only; omega)
  exact ⟨r, h1⟩
theorem more2 : wardmoteref18_Draft_Graph_l2 = wardmoteref18_Draft_Graph_l1 := rfl
theorem more3 : wardmoteref18_Draft_Graph_l3 = wardmoteref18_Draft_Graph_l1 := rfl
theorem more4 : wardmoteref18_Draft_Graph_l4 = wardmoteref18_Draft_Graph_l1 := rfl
set_option maxRecDepth 8000 in
theorem pair_step (n : Nat) (N : Nat) (d : TDraft) (a b : Nat) (z : Int) (xs : List (Int × Int)) (J : Int × Int × (List (Int × Int)) → Option (Int × (List (Int × Int)))) (hn : 10 < n) (hab : a < b) (hbN : b < N) (hN : N ≤ 12) (hz0 : 0 ≤ z) (hz : z ≤ 1000) (hxs : xs.length ≤ 1000) :
    ∃ z' xs', wardmoteref18_Draft_Graph_l5 n (N : Int) (a : Int) d J (z, (b : Int), xs) = J (z', ((b + 1 : Nat) : Int), xs') ∧ z ≤ z' ∧ z' ≤ z + 1 ∧ (xs' = xs ∨ xs' = xs ++ [((a : Int), (b : Int))]) := by
  have hs : (N : Int) ≠ 0 := by omega
  have hw : (d.fWide % (4 : UInt8)).toNat < 4 := by rw [UInt8.toNat_mod]; exact Nat.mod_lt _ (by decide)
  have fin : ∀ (q : Bool) (z' : Int), z ≤ z' → z' ≤ z + 1 → ∃ z'' xs', ((loopF (wardmoteref18_Draft_Graph_l1 n d (N : Int) (a : Int) (b : Int)) n (q, 0)).bind fun q' => (if q' = true then (app xs ([((a : Int), (b : Int))] : List (Int × Int))).bind fun xs1 => (chk ((b : Int) + 1)).bind fun s => J (z', s, xs1) else (chk ((b : Int) + 1)).bind fun s => J (z', s, xs))) = J (z'', ((b + 1 : Nat) : Int), xs') ∧ z ≤ z'' ∧ z'' ≤ z + 1 ∧ (xs' = xs ∨ xs' = xs ++ [((a : Int), (b : Int))]) := by
    intro q z' h1 h2
    obtain ⟨q', e⟩ := more_ok n n d (N : Int) (a : Int) (b : Int) hs q hn
    rw [e]
    simp only [obind]
    rw [chk_ok (by omega), app_ok (by simp only [List.length_singleton]; omega)]
    simp only [obind]
    cases q' with
    | true => rw [if_pos rfl]; exact ⟨z', _, rfl, h1, h2, .inr rfl⟩
    | false => rw [if_neg (by simp)]; exact ⟨z', _, rfl, h1, h2, .inl rfl⟩
  unfold wardmoteref18_Draft_Graph_l5
  simp only [jn, more2, more3, more4]
  have t1 : z.tmod 2 = z % 2 := Int.tmod_eq_emod_of_nonneg hz0
  have t2 : z.tdiv 2 = z / 2 := Int.tdiv_eq_ediv_of_nonneg hz0
  have t3 : (z / 2).tmod 16 = (z / 2) % 16 := Int.tmod_eq_emod_of_nonneg (by omega)
  rw [if_pos (by omega), chk_ok (by omega)]
  simp only [obind]
  rw [remI_ok (show (2 : Int) ≠ 0 by decide), quoI_ok (show (2 : Int) ≠ 0 by decide) (by omega) (by omega)]
  simp only [obind]
  rw [remI_ok (show (16 : Int) ≠ 0 by decide), chk_ok (show -9223372036854775808 ≤ z + 1 ∧ z + 1 ≤ 9223372036854775807 by omega), chk_ok (show -9223372036854775808 ≤ (a : Int) + 1 ∧ (a : Int) + 1 ≤ 9223372036854775807 by omega), remI_ok (show (((1 + ((d.fWide % (4 : UInt8)).toNat) : Nat) : Int)) ≠ 0 by omega)]
  simp only [obind]
  repeat' split
  all_goals refine fin _ _ ?_ ?_ <;> omega
/-- Edges in order, all ahead of a pair. -/
def Ahead (xs : List (Int × Int)) (N a b : Nat) : Prop := (∀ e ∈ xs, 0 ≤ e.1 ∧ e.1 < e.2 ∧ e.2 < (N : Int) ∧ Lex e ((a : Int), (b : Int))) ∧ ∀ (i : Nat) (e f : Int × Int), xs[i]? = some e → xs[i + 1]? = some f → Lex e f
theorem Ahead.more {xs : List (Int × Int)} {N a b : Nat} (h : Ahead xs N a b) (hab : a < b) (hb : b < N) : Ahead (xs ++ [((a : Int), (b : Int))]) N a (b + 1) := by
  refine ⟨fun e he => ?_, fun i e f he hf => ?_⟩
  · rcases List.mem_append.1 he with he | he
    · obtain ⟨h1, h2, h3, h4⟩ := h.1 e he
      refine ⟨h1, h2, h3, ?_⟩
      unfold Lex at h4 ⊢
      simp only at h4 ⊢
      omega
    · rcases List.mem_singleton.1 he with rfl
      exact ⟨by simp, by simp only; omega, by simp only; omega, .inr ⟨rfl, by simp only; omega⟩⟩
  · have hi := (List.getElem?_eq_some_iff.1 hf).1
    simp only [List.length_append, List.length_singleton] at hi
    rw [List.getElem?_append_left (by omega)] at he
    by_cases hl : i + 1 < xs.length
    · rw [List.getElem?_append_left hl] at hf
      exact h.2 i e f he hf
    · rw [List.getElem?_append_right (by omega), show i + 1 - xs.length = 0 by omega] at hf
      cases hf
      exact (h.1 e (List.mem_of_getElem? he)).2.2.2
theorem Ahead.next {xs : List (Int × Int)} {N a b a' b' : Nat} (h : Ahead xs N a b) (hl : a < a' ∨ a = a' ∧ b ≤ b') : Ahead xs N a' b' := by
  refine ⟨fun e he => ?_, h.2⟩
  obtain ⟨h1, h2, h3, h4⟩ := h.1 e he
  refine ⟨h1, h2, h3, ?_⟩
  unfold Lex at h4 ⊢
  simp only at h4 ⊢
  omega
theorem Ahead.nil {N a b : Nat} : Ahead [] N a b := by
  refine ⟨fun e he => ?_, fun i e f he => ?_⟩
  · cases he
  · simp at he
theorem draft_ok (n : Nat) (d : TDraft) (hn : 300 < n) : ∃ g, wardmoteref18_Draft_Graph_p n d = some g ∧ Valid g ∧ g.fN ≤ 12 := by
  unfold wardmoteref18_Draft_Graph_p
  have hw : (d.fWide % (4 : UInt8)).toNat < 4 := by rw [UInt8.toNat_mod]; exact Nat.mod_lt _ (by decide)
  have hh : (d.fHigh % (3 : UInt8)).toNat < 3 := by rw [UInt8.toNat_mod]; exact Nat.mod_lt _ (by decide)
  generalize (d.fWide % (4 : UInt8)).toNat = w at *
  generalize (d.fHigh % (3 : UInt8)).toNat = h at *
  obtain ⟨N, hN, hN1, hN12⟩ : ∃ N : Nat, (((1 + w : Nat) : Int) * ((1 + h : Nat) : Int)) = (N : Int) ∧ 1 ≤ N ∧ N ≤ 12 := by
    refine ⟨(1 + w) * (1 + h), by rw [Int.natCast_mul], Nat.mul_pos (by omega) (by omega), ?_⟩
    have : (1 + w) * (1 + h) ≤ 4 * 3 := Nat.mul_le_mul (by omega) (by omega)
    omega
  rw [hN, chk_ok (by omega)]
  simp only [obind]
  obtain ⟨xs, e1, e2, e3⟩ := loop_ok (B := wardmoteref18_Draft_Graph_l6 n (N : Int) d) (fun (_, a, _) => N - a.toNat) (fun (z, a, xs) => ∃ k : Nat, a = (k : Int) ∧ k ≤ N ∧ 0 ≤ z ∧ z ≤ 12 * k ∧ xs.length ≤ 12 * k ∧ Ahead xs N k k) (fun xs => xs.length ≤ 144 ∧ Ahead xs N N N) (fun ⟨z, a, xs⟩ J hI hJ => by
    simp only at hI hJ
    obtain ⟨a, rfl, h1, h2, h3, h4, h5⟩ := hI
    unfold wardmoteref18_Draft_Graph_l6
    simp only
    by_cases ha : (a : Int) < N
    · rw [if_pos ha, chk_ok (by omega)]
      simp only [obind]
      obtain ⟨⟨z', xs'⟩, f1, f2, f3, f4, f5⟩ := loop_ok (B := wardmoteref18_Draft_Graph_l5 n (N : Int) (a : Int) d) (fun (_, b, _) => N - b.toNat) (fun (z, b, xs) => ∃ k : Nat, b = (k : Int) ∧ a < k ∧ k ≤ N ∧ 0 ≤ z ∧ z ≤ 12 * a + k ∧ xs.length ≤ 12 * a + k ∧ Ahead xs N a k) (fun (z, xs) => 0 ≤ z ∧ z ≤ 12 * (a + 1) ∧ xs.length ≤ 12 * (a + 1) ∧ Ahead xs N a N) (fun ⟨z, b, xs⟩ J hI hJ => by
        simp only at hI hJ
        obtain ⟨b, rfl, g1, g2, g3, g4, g5, g6⟩ := hI
        by_cases hb : b < N
        · obtain ⟨z', xs', p1, p2, p3, p4⟩ := pair_step n N d a b z xs J (by omega) g1 hb hN12 g3 (by omega) (by omega)
          rw [p1]
          refine hJ _ ⟨b + 1, rfl, by omega, by omega, show 0 ≤ z' by omega, show z' ≤ 12 * (a : Int) + ((b + 1 : Nat) : Int) by omega, ?_, ?_⟩ (by simp only [Int.toNat_natCast]; omega)
          · show xs'.length ≤ 12 * a + (b + 1)
            rcases p4 with rfl | rfl
            · omega
            · simp only [List.length_append, List.length_singleton]; omega
          · show Ahead xs' N a (b + 1)
            rcases p4 with rfl | rfl
            · exact g6.next (.inr ⟨rfl, by omega⟩)
            · exact g6.more g1 hb
        · unfold wardmoteref18_Draft_Graph_l5
          simp only
          rw [if_neg (by omega)]
          have : b = N := by omega
          subst this
          exact ⟨_, rfl, g3, by simp only; omega, by simp only; omega, g6⟩) n (z, (a : Int) + 1, xs) ⟨a + 1, by simp, by omega, by omega, h2, by omega, by omega, h5.next (.inr ⟨rfl, by omega⟩)⟩ (by simp only; omega)
      rw [f1]
      simp only [obind]
      exact hJ _ ⟨a + 1, by simp, by omega, f2, show z' ≤ 12 * ((a + 1 : Nat) : Int) by omega, show xs'.length ≤ 12 * (a + 1) by omega, f5.next (.inl (by omega))⟩ (by simp only; omega)
    · rw [if_neg ha]
      have : a = N := by omega
      subst this
      exact ⟨_, rfl, by omega, h5⟩) n (0, 0, []) ⟨0, rfl, by omega, by omega, by omega, by simp, Ahead.nil⟩ (by simp only; omega)
  rw [e1]
  refine ⟨_, rfl, ⟨by simp only; omega, by simp only; omega, by simp only; omega, fun e he => ?_, e3.2⟩, by simp only; omega⟩
  obtain ⟨h1, h2, h3, _⟩ := e3.1 e he
  exact ⟨h1, h2, h3⟩
/-- All numbers below N. -/
theorem bit_all {N : Nat} (h : N < 64) (k : Nat) : bit (shlU 1 N - 1) k = decide (k < N) := by
  unfold bit
  have h1 := shlU_one h
  have h2 := Nat.two_pow_pos N
  rw [UInt64.toNat_sub_of_le _ _ (by rw [UInt64.le_iff_toNat_le, h1]; exact h2), h1]
  exact Nat.testBit_two_pow_sub_one N k
theorem fits_all {N : Nat} (h : N < 64) (u : UInt64) : Fits (N : Int) (u &&& (shlU 1 N - 1)) := by
  intro k hk
  rw [bit_and, Bool.and_eq_true, bit_all h, decide_eq_true_eq] at hk
  omega
/-! ### The law -/
theorem index2_ok (n : Nat) (xs : List (Int × Int)) (x : Int × Int) (hn : xs.length < n) : ∃ y, slices_Index_2_int_2_int_p n xs x = some y ∧ (0 ≤ y ↔ x ∈ xs) ∧ (0 ≤ y → xs[y.toNat]? = some x) := by
  unfold slices_Index_2_int_2_int_p
  obtain ⟨r, e1, e2⟩ := loop_ok (B := slices_Index_2_int_2_int_l1 n xs x) (fun i => xs.length - i) (fun i => i ≤ xs.length ∧ ∀ j, j < i → xs[j]? ≠ some x) (fun r => r = .inr () ∧ x ∉ xs ∨ ∃ j : Nat, r = .inl (j : Int) ∧ xs[j]? = some x) (fun i J ⟨hi, hno⟩ hJ => by
    unfold slices_Index_2_int_2_int_l1
    simp only
    by_cases hl : i < xs.length
    · rw [if_pos hl, List.getElem?_eq_getElem hl]
      simp only [obind]
      by_cases he : x.1 = xs[i].1 ∧ x.2 = xs[i].2
      · rw [if_pos he]
        exact ⟨_, rfl, .inr ⟨i, rfl, by rw [List.getElem?_eq_getElem hl]; congr 1; exact (Prod.ext he.1 he.2).symm⟩⟩
      · rw [if_neg he]
        refine hJ (i + 1) ⟨by omega, fun j hj => ?_⟩ (by omega)
        by_cases hji : j = i
        · subst hji
          rw [List.getElem?_eq_getElem hl]
          intro h
          exact he (by rw [Option.some.inj h]; exact ⟨rfl, rfl⟩)
        · exact hno j (by omega)
    · rw [if_neg hl]
      refine ⟨_, rfl, .inl ⟨rfl, fun hm => ?_⟩⟩
      obtain ⟨j, hj, hje⟩ := List.getElem_of_mem hm
      exact hno j (by omega) (by rw [List.getElem?_eq_getElem hj, hje])) n 0 ⟨by omega, fun j hj => by omega⟩ (by omega)
  rw [e1]
  rcases e2 with ⟨rfl, h⟩ | ⟨j, rfl, h⟩
  · exact ⟨-1, rfl, ⟨fun h1 => by omega, fun h1 => absurd h1 h⟩, fun h1 => by omega⟩
  · exact ⟨(j : Int), rfl, ⟨fun _ => List.mem_of_getElem? h, fun _ => by omega⟩, fun _ => by simpa using h⟩
theorem edge_in {g : TGraph} (h : Valid g) {a b : Nat} (k : Adj g a b) : (min (b : Int) (a : Int), max (b : Int) (a : Int)) ∈ g.fEdges := by
  rcases k with k | k
  · have := h.ok _ k
    simp only at this
    rwa [show min (b : Int) (a : Int) = a by omega, show max (b : Int) (a : Int) = b by omega]
  · have := h.ok _ k
    simp only at this
    rwa [show min (b : Int) (a : Int) = b by omega, show max (b : Int) (a : Int) = a by omega]
theorem least_ok (n N : Nat) (far : List Int) (e : Int) (v : UInt64) (k : Nat) (hl : far.length ≤ 64) (hn : 300 < n) : ∃ z, loopF (wardmotelaw31_WilsonSteps_l2 N (far, e) v k) n (-1, 0) = some z ∧ (z < 0 → ∀ (y : Nat) (d : Int), far[y]? = some d → 0 ≤ d → bit (v &&& (shlU 1 k - 1)) y = false) ∧
    (0 ≤ z → (∃ y : Nat, far[y]? = some z ∧ bit (v &&& (shlU 1 k - 1)) y = true) ∧ ∀ (y : Nat) (d : Int), far[y]? = some d → 0 ≤ d → bit (v &&& (shlU 1 k - 1)) y = true → z ≤ d) := by
  generalize hu : v &&& (shlU 1 k - 1) = u
  refine loop_ok (B := wardmotelaw31_WilsonSteps_l2 N (far, e) v k) (fun s => far.length - s.2) (fun (z, i) => i ≤ far.length ∧ (z < 0 → ∀ (y : Nat) (d : Int), y < i → far[y]? = some d → 0 ≤ d → bit u y = false) ∧ (0 ≤ z → (∃ y : Nat, far[y]? = some z ∧ bit u y = true) ∧ ∀ (y : Nat) (d : Int), y < i → far[y]? = some d → 0 ≤ d → bit u y = true → z ≤ d))
    (fun z => (z < 0 → ∀ (y : Nat) (d : Int), far[y]? = some d → 0 ≤ d → bit u y = false) ∧ (0 ≤ z → (∃ y : Nat, far[y]? = some z ∧ bit u y = true) ∧ ∀ (y : Nat) (d : Int), far[y]? = some d → 0 ≤ d → bit u y = true → z ≤ d)) (fun ⟨z, i⟩ J ⟨q1, q2, q3⟩ hJ => ?_) n (-1, 0) ⟨by simp, fun _ y d h => by omega, fun h => by simp at h⟩ (by simp only; omega)
  simp only at q1 q2 q3 hJ
  unfold wardmotelaw31_WilsonSteps_l2
  simp only [jn]
  rw [hu]
  by_cases hi : i < far.length
  · rw [if_pos hi, List.getElem?_eq_getElem hi]
    simp only [obind]
    have hgi : far[i]? = some far[i] := List.getElem?_eq_getElem hi
    have keep : (bit u i = false ∨ far[i] < 0) → ∃ r, J (z, i + 1) = some r ∧ ((r < 0 → ∀ (y : Nat) (d : Int), far[y]? = some d → 0 ≤ d → bit u y = false) ∧ (0 ≤ r → (∃ y : Nat, far[y]? = some r ∧ bit u y = true) ∧ ∀ (y : Nat) (d : Int), far[y]? = some d → 0 ≤ d → bit u y = true → r ≤ d)) := fun hno => hJ _ ⟨by simp only; omega, fun hz y d hy hd h0 => by
        simp only at hy
        by_cases hyi : y = i
        · subst hyi; rw [hgi] at hd; cases hd
          rcases hno with h | h
          · exact h
          · omega
        · exact q2 hz y d (by omega) hd h0, fun hz => ⟨(q3 hz).1, fun y d hy hd h0 hb => by
        simp only at hy
        by_cases hyi : y = i
        · subst hyi; rw [hgi] at hd; cases hd
          rcases hno with h | h
          · rw [hb] at h; cases h
          · omega
        · exact (q3 hz).2 y d (by omega) hd h0 hb⟩⟩ (by simp only; omega)
    by_cases hb : bit u i = true
    · rw [if_pos ((has_iff u i).2 hb)]
      by_cases h0 : 0 ≤ far[i]
      · rw [if_pos h0]
        have take : (z < 0 ∨ far[i] < z) → ∃ r, J (far[i], i + 1) = some r ∧ ((r < 0 → ∀ (y : Nat) (d : Int), far[y]? = some d → 0 ≤ d → bit u y = false) ∧ (0 ≤ r → (∃ y : Nat, far[y]? = some r ∧ bit u y = true) ∧ ∀ (y : Nat) (d : Int), far[y]? = some d → 0 ≤ d → bit u y = true → r ≤ d)) := fun hz => hJ _ ⟨by simp only; omega, fun h => by simp only at h; omega, fun _ => ⟨⟨i, hgi, hb⟩, fun y d hy hd h0' hb' => by
          simp only at hy ⊢
          by_cases hyi : y = i
          · subst hyi; rw [hgi] at hd; cases hd; exact Int.le_refl _
          · rcases hz with hz | hz
            · have := q2 hz y d (by omega) hd h0'
              rw [hb'] at this; cases this
            · rcases Int.lt_or_le z 0 with hz0 | hz0
              · have := q2 hz0 y d (by omega) hd h0'
                rw [hb'] at this; cases this
              · have := (q3 hz0).2 y d (by omega) hd h0' hb'
                omega⟩⟩ (by simp only; omega)
        by_cases hz : z < 0
        · rw [if_pos hz]; exact take (.inl hz)
        · rw [if_neg hz]
          by_cases hlt : far[i] < z
          · rw [if_pos hlt]; exact take (.inr hlt)
          · rw [if_neg hlt]
            refine hJ _ ⟨by simp only; omega, fun h => by simp only at h; omega, fun hz' => ⟨(q3 hz').1, fun y d hy hd h0' hb' => ?_⟩⟩ (by simp only; omega)
            simp only at hy ⊢
            by_cases hyi : y = i
            · subst hyi; rw [hgi] at hd; cases hd; omega
            · exact (q3 hz').2 y d (by omega) hd h0' hb'
      · rw [if_neg h0]; exact keep (.inr (by omega))
    · rw [if_neg (fun h => hb ((has_iff u i).1 h))]
      refine keep (.inl ?_)
      cases h : bit u i with
      | false => rfl
      | true => exact absurd h hb
  · rw [if_neg hi]
    refine ⟨_, rfl, fun hz y d hd h0 => ?_, fun hz => ⟨(q3 hz).1, fun y d hd h0 hb => ?_⟩⟩
    · have := (List.getElem?_eq_some_iff.1 hd).1
      exact q2 hz y d (by omega) hd h0
    · have := (List.getElem?_eq_some_iff.1 hd).1
      exact (q3 hz).2 y d (by omega) hd h0 hb
theorem steps_loop (n N : Nat) (g : TGraph) (h : Valid g) (v a1 a2 : UInt64) (k : Nat) (x : Nat) (w : List Nat) (c : TChance) (e : Int) (hs : Fits g.fN (a1 &&& (shlU 1 k - 1))) (hw : Walked g (a1 &&& (shlU 1 k - 1)) (a2 &&& (shlU 1 k - 1)) x w) (z : Nat) (hz : w[w.length - 1]? = some z) (hvz : bit (a2 &&& (shlU 1 k - 1)) z = true) (hl : w.length ≤ 10001) (hn : 10010 < n) (hN : 300 < N) :
    loopF (wardmotelaw31_WilsonSteps_l1 N (w.map (fun k : Nat => (k : Int)), c, e) g a1 k a2 k) n 0 = some (.inr ()) := by
  have hlen := h.len
  generalize hu : a1 &&& (shlU 1 k - 1) = s at *
  generalize hv : a2 &&& (shlU 1 k - 1) = u at *
  obtain ⟨r, e1, rfl⟩ := loop_ok (B := wardmotelaw31_WilsonSteps_l1 N (w.map (fun k : Nat => (k : Int)), c, e) g a1 k a2 k) (fun i => w.length - i) (fun i => i ≤ w.length) (fun r => r = .inr ()) (fun i J hi hJ => by
    unfold wardmotelaw31_WilsonSteps_l1
    simp only
    rw [hu, hv, List.length_map]
    by_cases hl : i < w.length
    · rw [if_pos hl, List.getElem?_map, List.getElem?_eq_getElem hl]
      simp only [Option.map_some, obind]
      have hb := hw.inside w[i] (List.getElem_mem hl)
      have hf := hs _ hb
      rw [if_neg (by omega), if_neg (by omega), natOf_ok (by omega), Int.toNat_natCast]
      simp only [obind]
      rw [if_neg (fun h0 => by rw [(hasnt_iff s w[i]).1 h0] at hb; cases hb)]
      have hlast : (decide (shrU u w[i] &&& 1 = 1) == decide (((i : Nat) : Int) = ((w.length : Nat) : Int) - 1)) = true := by
        by_cases hil : i + 1 < w.length
        · have := hw.away i w[i] (List.getElem?_eq_getElem hl) hil
          rw [decide_eq_false (fun h => by rw [(has_iff u w[i]).1 h] at this; cases this), decide_eq_false (by omega)]; rfl
        · have hil2 : i = w.length - 1 := by omega
          have hzz : w[i] = z := by
            rw [← hil2, List.getElem?_eq_getElem hl] at hz
            exact Option.some.inj hz
          rw [decide_eq_true ((has_iff u w[i]).2 (by rw [hzz]; exact hvz)), decide_eq_true (by omega)]; rfl
      rw [hlast, ifTT]
      by_cases h0 : 0 < i
      · rw [if_pos h0, List.getElem?_map, List.getElem?_eq_getElem (show i - 1 < w.length by omega)]
        simp only [Option.map_some, obind]
        unfold slices_Contains_2_int_2_int_p
        have hadj := hw.steps (i - 1) w[i - 1] w[i] (List.getElem?_eq_getElem (by omega)) (by rw [show i - 1 + 1 = i by omega]; exact List.getElem?_eq_getElem hl)
        obtain ⟨y, y1, y2, _⟩ := index2_ok N g.fEdges (min (w[i] : Int) (w[i - 1] : Int), max (w[i] : Int) (w[i - 1] : Int)) (by omega)
        rw [y1]
        simp only [obind]
        rw [decide_eq_true (y2.2 (edge_in h hadj)), ifTT]
        exact hJ (i + 1) (by omega) (by omega)
      · rw [if_neg h0]; exact hJ (i + 1) (by omega) (by omega)
    · rw [if_neg hl]; exact ⟨_, rfl, rfl⟩) n 0 (by omega) (by omega)
  exact e1
theorem stops_ok (n : Nat) (e : Int) : wardmotelaw31_stops_1_p n [] ⟨0⟩ e e = some true := by
  unfold wardmotelaw31_stops_1_p
  simp
theorem wilsonSteps_true (a0 : TDraft) (a1 a2 : UInt64) (a3 : UInt8) (a4 : TChance) : ∃ n, wardmotelaw31_WilsonSteps_p n a0 a1 a2 a3 a4 = some true := by
  refine ⟨20000, ?_⟩
  unfold wardmotelaw31_WilsonSteps_p
  rw [works_true]
  simp only [obind]
  rw [ifT]
  obtain ⟨g, g1, g2, g3⟩ := draft_ok 20000 a0 (by omega)
  rw [g1]
  simp only [obind]
  have h1 := g2.n1
  obtain ⟨N, hN⟩ : ∃ N : Nat, g.fN = N := ⟨g.fN.toNat, by omega⟩
  rw [hN, natOf_ok (by omega), Int.toNat_natCast]
  simp only [obind]
  have hmod : remI ((a3.toNat : Nat) : Int) (N : Int) = some ((a3.toNat % N : Nat) : Int) := by
    rw [remI_ok (by omega), Int.tmod_eq_emod_of_nonneg (by omega)]; rfl
  rw [hmod]
  simp only [obind]
  have hxN : a3.toNat % N < N := Nat.mod_lt _ (by omega)
  generalize hx : a3.toNat % N = x at *
  have hs : Fits g.fN (a1 &&& (shlU 1 N - 1)) := by rw [hN]; exact fits_all (by omega) a1
  have hv : Fits g.fN (a2 &&& (shlU 1 N - 1)) := by rw [hN]; exact fits_all (by omega) a2
  obtain ⟨r, r1, r2, _⟩ := walk_ok 20000 g g2 (by omega) (a1 &&& (shlU 1 N - 1)) (a2 &&& (shlU 1 N - 1)) x a4 hs hv (by omega)
  rw [r1]
  simp only [obind]
  rw [natOf_ok (by omega), Int.toNat_natCast]
  simp only [obind]
  rcases r2 with ⟨hb, rfl⟩ | ⟨hb, r2⟩
  · rw [if_pos ((hasnt_iff _ x).2 hb), stops_ok]
    rfl
  · rw [if_neg (fun h0 => by rw [(hasnt_iff _ x).1 h0] at hb; cases hb)]
    obtain ⟨far, d1, d2⟩ := distances_ok 20000 g g2 (by omega) (a1 &&& (shlU 1 N - 1)) x hs hb
    rw [d1]
    simp only [obind]
    have hfl := d2.len
    obtain ⟨z, z1, z2, z3⟩ := least_ok 20000 20000 far 0 a2 N (by omega) (by omega)
    rw [z1]
    simp only [obind]
    rw [ifT]
    rcases r2 with ⟨hno, rfl⟩ | ⟨⟨m, y, hw, hy⟩, r2⟩
    · have hz : z < 0 := by
        rcases Int.lt_or_le z 0 with h | h
        · exact h
        · obtain ⟨⟨y, y1, y2⟩, _⟩ := z3 h
          exact absurd ⟨_, y, d2.ways y z y1 h, y2⟩ hno
      rw [if_pos hz, stops_ok]
      rfl
    · have hz : ¬ z < 0 := fun hz => by
        obtain ⟨d, q1, q2, _⟩ := d2.least y m hw
        have := z2 hz y d q1 q2
        rw [hy] at this; cases this
      rw [if_neg hz]
      rcases r2 with rfl | ⟨w, c', t, rfl, w1, w2, w3, w4⟩
      · rw [if_pos rfl]
      · simp only
        rw [if_neg (by omega), ifT]
        have hpos : 0 < w.length := by
          rcases Nat.eq_zero_or_pos w.length with h0 | h0
          · rw [List.length_eq_zero_iff.1 h0] at w3; simp at w3
          · exact h0
        have hzlen : z + 1 ≤ (w.length : Int) := by
          have hway := w1.way _ t w3
          obtain ⟨d, q1, q2, q3⟩ := d2.least t _ hway
          have := (z3 (by omega)).2 t d q1 q2 w4
          omega
        rw [chk_ok (by omega), List.length_map]
        simp only [obind]
        rw [if_neg (by omega), List.getElem?_map, w1.first]
        simp only [Option.map_some, obind]
        rw [ifT, steps_loop 20000 20000 g g2 0 a1 a2 N x w c' 0 hs w1 t w3 w4 w2 (by omega) (by omega)]
        simp only [thn]
        have hl : idx (w.map (fun k : Nat => (k : Int))) (((w.length : Nat) : Int) - 1) = some (t : Int) := by
          rw [show (((w.length : Nat) : Int) - 1) = ((w.length - 1 : Nat) : Int) by omega, idx_nat, List.getElem?_map, w3]; rfl
        rw [hl]
        simp only [obind]
        have htb := w1.inside t (List.mem_of_getElem? w3)
        have htN := hs t htb
        obtain ⟨r', r3, _, r4⟩ := walk_ok 20000 g g2 (by omega) (a1 &&& (shlU 1 N - 1)) (a2 &&& (shlU 1 N - 1)) t c' hs hv htN
        rw [r3, r4 htb w4]
        simp only [obind]
        unfold wardmotelaw31_goes_1_p
        rw [equal_self 20000 [(t : Int)] (by simp)]
        simp only [obind]
        rw [ifT, ifT]
        rfl
end Go.Proofs.YtplkfbljncfdnaaDoor
