/- Plain laws: drafted graphs, places of edges. No program in sight but the printed functions. -/
import Derived.Test.YtplkfbljncfdnaaDoorT8
import Derived.Test.YtplkfbljncfdnaaDoorTGw
namespace Go.Proofs.YtplkfbljncfdnaaDoor
open Go

/-! ### Drafted graphs -/
theorem remI_ok {x y : Int} (h : y ≠ 0) : remI x y = some (x.tmod y) := if_neg h
theorem quoI_ok {x y : Int} (h : y ≠ 0) (h1 : -9223372036854775808 ≤ x.tdiv y) (h2 : x.tdiv y ≤ 9223372036854775807) : quoI x y = some (x.tdiv y) := by unfold quoI; rw [if_neg h, chk_ok ⟨h1, h2⟩]
theorem more_ok (n N : Nat) (d : TDraft) (s a b : Int) (hs : s ≠ 0) (q : Bool) (hn : 10 < n) : ∃ q', loopF (wardmoteref18_Draft_Graph_l1 N d s a b) n (q, 0) = some q' := by
  obtain ⟨r, h1, _⟩ := loop_ok (B := wardmoteref18_Draft_Graph_l1 N d s a b) (fun s => 3 - s.2) (fun s => s.2 ≤ 3) (fun _ => True) (fun ⟨q, i⟩ J hi hJ => by
    simp only at hi hJ
    unfold wardmoteref18_Draft_Graph_l1
    simp only
    by_cases h1 : i < d.fMore.length
    · rw [if_pos h1]
      by_cases h2 : i < 3
      · rw [if_pos h2, List.getElem?_eq_getElem h1]
        simp only [obind]
        rw [remI_ok hs]
        simp only [obind]
        rw [remI_ok hs]
        simp only [obind]
        have go : ∀ q', ∃ r, J (q', i + 1) = some r ∧ True := fun q' => hJ _ (by simp only; omega) (by simp only; omega)
        repeat' split
        all_goals exact go _
      · rw [if_neg h2]; exact ⟨_, rfl, trivial⟩
    · rw [if_neg h1]; exact ⟨_, rfl, trivial⟩) n (q, 0) (by simp) (by simp only; omega)
  exact ⟨r, h1⟩
theorem more2 : wardmoteref18_Draft_Graph_l2 = wardmoteref18_Draft_Graph_l1 := rfl
theorem more3 : wardmoteref18_Draft_Graph_l3 = wardmoteref18_Draft_Graph_l1 := rfl
theorem more4 : wardmoteref18_Draft_Graph_l4 = wardmoteref18_Draft_Graph_l1 := rfl
set_option maxRecDepth 8000 in
theorem pair_step (n : Nat) (N : Nat) (d : TDraft) (a b : Nat) (z : Int) (xs : List (Int × Int)) (J : Int × Int × (List (Int × Int)) → Option (Int × (List (Int × Int)))) (hn : 10 < n) (hab : a < b) (hbN : b < N) (hN : N ≤ 12) (hz0 : 0 ≤ z) (hz : z ≤ 1000) (hxs : xs.length ≤ 1000) :
    ∃ z' xs', wardmoteref18_Draft_Graph_l5 n (N : Int) (a : Int) d J (z, (b : Int), xs) = J (z', ((b + 1 : Nat) : Int), xs') ∧ z ≤ z' ∧ z' ≤ z + 1 ∧ (xs' = xs ∨ xs' = xs ++ [((a : Int), (b : Int))]) := by
  have hs : (N : Int) ≠ 0 := by omega
  have hw : (d.fWide % (4 : UInt8)).toNat < 4 := by rw [UInt8.toNat_mod]; exact Nat.mod_lt _ (by decide)
  have fin : ∀ (q : Bool) (z' : Int), z ≤ z' → z' ≤ z + 1 → ∃ z'' xs', ((loopF (wardmoteref18_Draft_Graph_l1 n d (N : Int) (a : Int) (b : Int)) n (q, 0)).bind fun q' => (if q' = true then (app xs ([((a : Int), (b : Int))] : List (Int × Int))).bind fun xs1 => (chk ((b : Int) + 1)).bind fun s => J (z', s, xs1) else (chk ((b : Int) + 1)).bind fun s => J (z', s, xs))) = J (z'', ((b + 1 : Nat) : Int), xs') ∧ z ≤ z'' ∧ z'' ≤ z + 1 ∧ (xs' = xs ∨ xs' = xs ++ [((a : Int), (b : Int))]) := by
    intro q z' h1 h2
    obtain ⟨q', e⟩ := more_ok n n d (N : Int) (a : Int) (b : Int) hs q hn
    rw [e]
    simp only [obind]
    rw [chk_ok (by omega), app_ok (by simp only [List.length_singleton]; omega)]
    simp only [obind]
    cases q' with
    | true => rw [if_pos rfl]; exact ⟨z', _, rfl, h1, h2, .inr rfl⟩
    | false => rw [if_neg (by simp)]; exact ⟨z', _, rfl, h1, h2, .inl rfl⟩
  unfold wardmoteref18_Draft_Graph_l5
  simp only [jn, more2, more3, more4]
  have t1 : z.tmod 2 = z % 2 := Int.tmod_eq_emod_of_nonneg hz0
  have t2 : z.tdiv 2 = z / 2 := Int.tdiv_eq_ediv_of_nonneg hz0
  have t3 : (z / 2).tmod 16 = (z / 2) % 16 := Int.tmod_eq_emod_of_nonneg (by omega)
  rw [if_pos (by omega), chk_ok (by omega)]
  simp only [obind]
  rw [remI_ok (show (2 : Int) ≠ 0 by decide), quoI_ok (show (2 : Int) ≠ 0 by decide) (by omega) (by omega)]
  simp only [obind]
  rw [remI_ok (show (16 : Int) ≠ 0 by decide), chk_ok (show -9223372036854775808 ≤ z + 1 ∧ z + 1 ≤ 9223372036854775807 by omega), chk_ok (show -9223372036854775808 ≤ (a : Int) + 1 ∧ (a : Int) + 1 ≤ 9223372036854775807 by omega), remI_ok (show (((1 + ((d.fWide % (4 : UInt8)).toNat) : Nat) : Int)) ≠ 0 by omega)]
  simp only [obind]
  repeat' split
  all_goals refine fin _ _ ?_ ?_ <;> omega
/-- Edges in order, all ahead of a pair. -/
def Ahead (xs : List (Int × Int)) (N a b : Nat) : Prop := (∀ e ∈ xs, 0 ≤ e.1 ∧ e.1 < e.2 ∧ e.2 < (N : Int) ∧ Lex e ((a : Int), (b : Int))) ∧ ∀ (i : Nat) (e f : Int × Int), xs[i]? = some e → xs[i + 1]? = some f → Lex e f
theorem Ahead.more {xs : List (Int × Int)} {N a b : Nat} (h : Ahead xs N a b) (hab : a < b) (hb : b < N) : Ahead (xs ++ [((a : Int), (b : Int))]) N a (b + 1) := by
  refine ⟨fun e he => ?_, fun i e f he hf => ?_⟩
  · rcases List.mem_append.1 he with he | he
    · obtain ⟨h1, h2, h3, h4⟩ := h.1 e he
      refine ⟨h1, h2, h3, ?_⟩
      unfold Lex at h4 ⊢
      simp only at h4 ⊢
      omega
    · rcases List.mem_singleton.1 he with rfl
      exact ⟨by simp, by simp only; omega, by simp only; omega, .inr ⟨rfl, by simp only; omega⟩⟩
  · have hi := (List.getElem?_eq_some_iff.1 hf).1
    simp only [List.length_append, List.length_singleton] at hi
    rw [List.getElem?_append_left (by omega)] at he
    by_cases hl : i + 1 < xs.length
    · rw [List.getElem?_append_left hl] at hf
      exact h.2 i e f he hf
    · rw [List.getElem?_append_right (by omega), show i + 1 - xs.length = 0 by omega] at hf
      cases hf
      exact (h.1 e (List.mem_of_getElem? he)).2.2.2
theorem Ahead.next {xs : List (Int × Int)} {N a b a' b' : Nat} (h : Ahead xs N a b) (hl : a < a' ∨ a = a' ∧ b ≤ b') : Ahead xs N a' b' := by
  refine ⟨fun e he => ?_, h.2⟩
  obtain ⟨h1, h2, h3, h4⟩ := h.1 e he
  refine ⟨h1, h2, h3, ?_⟩
  unfold Lex at h4 ⊢
  simp only at h4 ⊢
  omega
theorem Ahead.nil {N a b : Nat} : Ahead [] N a b := by
  refine ⟨fun e he => ?_, fun i e f he => ?_⟩
  · cases he
  · simp at he
theorem draft_ok (n : Nat) (d : TDraft) (hn : 300 < n) : ∃ g, wardmoteref18_Draft_Graph_p n d = some g ∧ Valid g ∧ g.fN ≤ 12 := by
  unfold wardmoteref18_Draft_Graph_p
  have hw : (d.fWide % (4 : UInt8)).toNat < 4 := by rw [UInt8.toNat_mod]; exact Nat.mod_lt _ (by decide)
  have hh : (d.fHigh % (3 : UInt8)).toNat < 3 := by rw [UInt8.toNat_mod]; exact Nat.mod_lt _ (by decide)
  generalize (d.fWide % (4 : UInt8)).toNat = w at *
  generalize (d.fHigh % (3 : UInt8)).toNat = h at *
  obtain ⟨N, hN, hN1, hN12⟩ : ∃ N : Nat, (((1 + w : Nat) : Int) * ((1 + h : Nat) : Int)) = (N : Int) ∧ 1 ≤ N ∧ N ≤ 12 := by
    refine ⟨(1 + w) * (1 + h), by rw [Int.natCast_mul], Nat.mul_pos (by omega) (by omega), ?_⟩
    have : (1 + w) * (1 + h) ≤ 4 * 3 := Nat.mul_le_mul (by omega) (by omega)
    omega
  rw [hN, chk_ok (by omega)]
  simp only [obind]
  obtain ⟨xs, e1, e2, e3⟩ := loop_ok (B := wardmoteref18_Draft_Graph_l6 n (N : Int) d) (fun (_, a, _) => N - a.toNat) (fun (z, a, xs) => ∃ k : Nat, a = (k : Int) ∧ k ≤ N ∧ 0 ≤ z ∧ z ≤ 12 * k ∧ xs.length ≤ 12 * k ∧ Ahead xs N k k) (fun xs => xs.length ≤ 144 ∧ Ahead xs N N N) (fun ⟨z, a, xs⟩ J hI hJ => by
    simp only at hI hJ
    obtain ⟨a, rfl, h1, h2, h3, h4, h5⟩ := hI
    unfold wardmoteref18_Draft_Graph_l6
    simp only
    by_cases ha : (a : Int) < N
    · rw [if_pos ha, chk_ok (by omega)]
      simp only [obind]
      obtain ⟨⟨z', xs'⟩, f1, f2, f3, f4, f5⟩ := loop_ok (B := wardmoteref18_Draft_Graph_l5 n (N : Int) (a : Int) d) (fun (_, b, _) => N - b.toNat) (fun (z, b, xs) => ∃ k : Nat, b = (k : Int) ∧ a < k ∧ k ≤ N ∧ 0 ≤ z ∧ z ≤ 12 * a + k ∧ xs.length ≤ 12 * a + k ∧ Ahead xs N a k) (fun (z, xs) => 0 ≤ z ∧ z ≤ 12 * (a + 1) ∧ xs.length ≤ 12 * (a + 1) ∧ Ahead xs N a N) (fun ⟨z, b, xs⟩ J hI hJ => by
        simp only at hI hJ
        obtain ⟨b, rfl, g1, g2, g3, g4, g5, g6⟩ := hI
        by_cases hb : b < N
        · obtain ⟨z', xs', p1, p2, p3, p4⟩ := pair_step n N d a b z xs J (by omega) g1 hb hN12 g3 (by omega) (by omega)
          rw [p1]
          refine hJ _ ⟨b + 1, rfl, by omega, by omega, show 0 ≤ z' by omega, show z' ≤ 12 * (a : Int) + ((b + 1 : Nat) : Int) by omega, ?_, ?_⟩ (by simp only [Int.toNat_natCast]; omega)
          · show xs'.length ≤ 12 * a + (b + 1)
            rcases p4 with rfl | rfl
            · omega
            · simp only [List.length_append, List.length_singleton]; omega
          · show Ahead xs' N a (b + 1)
            rcases p4 with rfl | rfl
            · exact g6.next (.inr ⟨rfl, by omega⟩)
            · exact g6.more g1 hb
        · unfold wardmoteref18_Draft_Graph_l5
          simp only
          rw [if_neg (by omega)]
          have : b = N := by omega
          subst this
          exact ⟨_, rfl, g3, by simp only; omega, by simp only; omega, g6⟩) n (z, (a : Int) + 1, xs) ⟨a + 1, by simp, by omega, by omega, h2, by omega, by omega, h5.next (.inr ⟨rfl, by omega⟩)⟩ (by simp only; omega)
      rw [f1]
      simp only [obind]
      exact hJ _ ⟨a + 1, by simp, by omega, f2, show z' ≤ 12 * ((a + 1 : Nat) : Int) by omega, show xs'.length ≤ 12 * (a + 1) by omega, f5.next (.inl (by omega))⟩ (by simp only; omega)
    · rw [if_neg ha]
      have : a = N := by omega
      subst this
      exact ⟨_, rfl, by omega, h5⟩) n (0, 0, []) ⟨0, rfl, by omega, by omega, by omega, by simp, Ahead.nil⟩ (by simp only; omega)
  rw [e1]
  refine ⟨_, rfl, ⟨by simp only; omega, by simp only; omega, by simp only; omega, fun e he => ?_, e3.2⟩, by simp only; omega⟩
  obtain ⟨h1, h2, h3, _⟩ := e3.1 e he
  exact ⟨h1, h2, h3⟩
/-- All numbers below N. -/
theorem bit_all {N : Nat} (h : N < 64) (k : Nat) : bit (shlU 1 N - 1) k = decide (k < N) := by
  unfold bit
  have h1 := shlU_one h
  have h2 := Nat.two_pow_pos N
  rw [UInt64.toNat_sub_of_le _ _ (by rw [UInt64.le_iff_toNat_le, h1]; exact h2), h1]
  exact Nat.testBit_two_pow_sub_one N k
theorem fits_all {N : Nat} (h : N < 64) (u : UInt64) : Fits (N : Int) (u &&& (shlU 1 N - 1)) := by
  intro k hk
  rw [bit_and, Bool.and_eq_true, bit_all h, decide_eq_true_eq] at hk
  omega
theorem index2_ok (n : Nat) (xs : List (Int × Int)) (x : Int × Int) (hn : xs.length < n) : ∃ y, slices_Index_2_int_2_int_p n xs x = some y ∧ (0 ≤ y ↔ x ∈ xs) ∧ (0 ≤ y → xs[y.toNat]? = some x) := by
  unfold slices_Index_2_int_2_int_p
  obtain ⟨r, e1, e2⟩ := loop_ok (B := slices_Index_2_int_2_int_l1 n xs x) (fun i => xs.length - i) (fun i => i ≤ xs.length ∧ ∀ j, j < i → xs[j]? ≠ some x) (fun r => r = .inr () ∧ x ∉ xs ∨ ∃ j : Nat, r = .inl (j : Int) ∧ xs[j]? = some x) (fun i J ⟨hi, hno⟩ hJ => by
    unfold slices_Index_2_int_2_int_l1
    simp only
    by_cases hl : i < xs.length
    · rw [if_pos hl, List.getElem?_eq_getElem hl]
      simp only [obind]
      by_cases he : x.1 = xs[i].1 ∧ x.2 = xs[i].2
      · rw [if_pos he]
        exact ⟨_, rfl, .inr ⟨i, rfl, by rw [List.getElem?_eq_getElem hl]; congr 1; exact (Prod.ext he.1 he.2).symm⟩⟩
      · rw [if_neg he]
        refine hJ (i + 1) ⟨by omega, fun j hj => ?_⟩ (by omega)
        by_cases hji : j = i
        · subst hji
          rw [List.getElem?_eq_getElem hl]
          intro h
          exact he (by rw [Option.some.inj h]; exact ⟨rfl, rfl⟩)
        · exact hno j (by omega)
    · rw [if_neg hl]
      refine ⟨_, rfl, .inl ⟨rfl, fun hm => ?_⟩⟩
      obtain ⟨j, hj, hje⟩ := List.getElem_of_mem hm
      exact hno j (by omega) (by rw [List.getElem?_eq_getElem hj, hje])) n 0 ⟨by omega, fun j hj => by omega⟩ (by omega)
  rw [e1]
  rcases e2 with ⟨rfl, h⟩ | ⟨j, rfl, h⟩
  · exact ⟨-1, rfl, ⟨fun h1 => by omega, fun h1 => absurd h1 h⟩, fun h1 => by omega⟩
  · exact ⟨(j : Int), rfl, ⟨fun _ => List.mem_of_getElem? h, fun _ => by omega⟩, fun _ => by simpa using h⟩
theorem edge_in {g : TGraph} (h : Valid g) {a b : Nat} (k : Adj g a b) : (min (b : Int) (a : Int), max (b : Int) (a : Int)) ∈ g.fEdges := by
  rcases k with k | k
  · have := h.ok _ k
    simp only at this
    rwa [show min (b : Int) (a : Int) = a by omega, show max (b : Int) (a : Int) = b by omega]
  · have := h.ok _ k
    simp only at this
    rwa [show min (b : Int) (a : Int) = b by omega, show max (b : Int) (a : Int) = a by omega]
end Go.Proofs.YtplkfbljncfdnaaDoor
