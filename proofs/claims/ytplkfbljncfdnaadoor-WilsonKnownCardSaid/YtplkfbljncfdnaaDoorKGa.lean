/- Plain laws of the graphs' functions: tables of bits, validity, neighbours. No program in sight but the printed functions. -/
import Derived.Test.YtplkfbljncfdnaaDoorKLq
import Derived.Test.YtplkfbljncfdnaaDoorKBt
namespace Go.Proofs.YtplkfbljncfdnaaDoor
open Go

theorem tz_tab : ∀ t, t < 64 → tab0[(shrU (shlU 1 t * (285870213051353865 : UInt64)) 58).toNat]? = some (UInt8.ofNat t) := by decide +kernel
theorem tz_eq (n : Nat) {u : UInt64} (h : u ≠ 0) : math_bits_TrailingZeros64_p n u = some ((low u : Nat) : Int) := by
  unfold math_bits_TrailingZeros64_p
  have hl : low u < 64 := bit_lt (low_bit h)
  rw [if_neg h, and_neg64 h, tz_tab _ hl]
  simp only [obind]
  rw [UInt8.toNat_ofNat_of_lt' (by show _ < 256; omega)]
theorem len_tab : ∀ x, x < 256 → (stab0[x]?).map (·.toNat) = some (blen x) := by decide +kernel
theorem shrU_toNat (u : UInt64) {k : Nat} (h : k < 64) : (shrU u k).toNat = u.toNat / 2 ^ k := by
  unfold shrU
  rw [if_pos h]
  exact UInt64.toNat_ofNat_of_lt' (Nat.lt_of_le_of_lt (Nat.div_le_self _ _) (u64_lt u))
theorem u8of_small {u : UInt64} (h : u.toNat < 256) : (u8of u).toNat = u.toNat := by
  unfold u8of
  first
    | exact UInt8.toNat_ofNat_of_lt' h
    | simp [Nat.mod_eq_of_lt h]
theorem len64 (n : Nat) (u : UInt64) : math_bits_Len64_p n u = some ((blen u.toNat : Nat) : Int) := by
  have last : ∀ (v : UInt64) (z : Nat), v.toNat < 256 → z ≤ 56 → ((stab0[(u8of v).toNat]?).bind fun z27 => (chk (((z : Nat) : Int) + ((z27.toNat : Nat) : Int))).bind fun s29 => some s29) = some (((blen v.toNat + z : Nat)) : Int) := fun v z hv hz => by
    rw [u8of_small hv]
    have := len_tab v.toNat hv
    cases hs : stab0[v.toNat]? with
    | none => rw [hs] at this; cases this
    | some b =>
      rw [hs] at this
      have hb : b.toNat = blen v.toNat := Option.some.inj this
      simp only [obind]
      have hb8 : blen v.toNat ≤ 8 := blen_le.2 hv
      rw [hb, chk_ok (by omega)]
      simp only [obind]
      congr 1
      omega
  have mid : ∀ (v : UInt64) (z : Nat), v.toNat < 65536 → z ≤ 48 → (if (256 : UInt64) ≤ v then (chk (((z : Nat) : Int) + 8)).bind fun s31 => (stab0[(u8of (shrU v 8)).toNat]?).bind fun z27 => (chk (s31 + ((z27.toNat : Nat) : Int))).bind fun s29 => some s29 else (stab0[(u8of v).toNat]?).bind fun z27 => (chk (((z : Nat) : Int) + ((z27.toNat : Nat) : Int))).bind fun s29 => some s29) = some (((blen v.toNat + z : Nat)) : Int) := fun v z hv hz => by
    by_cases h : (256 : UInt64) ≤ v
    · rw [if_pos h, chk_ok (by omega)]
      simp only [obind]
      have h' : 2 ^ 8 ≤ v.toNat := UInt64.le_iff_toNat_le.1 h
      have hs := shrU_toNat v (show 8 < 64 by omega)
      have := last (shrU v 8) (z + 8) (by rw [hs]; omega) (by omega)
      rw [show (((z : Nat) : Int) + 8) = ((z + 8 : Nat) : Int) by omega, this, hs, blen_shift h']
      congr 1
      omega
    · rw [if_neg h]
      have h' : ¬ 256 ≤ v.toNat := fun e => h (UInt64.le_iff_toNat_le.2 e)
      exact last v z (by omega) (by omega)
  have mid2 : ∀ (v : UInt64) (z : Nat), v.toNat < 4294967296 → z ≤ 32 → (if (65536 : UInt64) ≤ v then (chk (((z : Nat) : Int) + 16)).bind fun s33 => (if (256 : UInt64) ≤ (shrU v 16) then (chk (s33 + 8)).bind fun s31 => (stab0[(u8of (shrU (shrU v 16) 8)).toNat]?).bind fun z27 => (chk (s31 + ((z27.toNat : Nat) : Int))).bind fun s29 => some s29 else (stab0[(u8of (shrU v 16)).toNat]?).bind fun z27 => (chk (s33 + ((z27.toNat : Nat) : Int))).bind fun s29 => some s29) else (if (256 : UInt64) ≤ v then (chk (((z : Nat) : Int) + 8)).bind fun s31 => (stab0[(u8of (shrU v 8)).toNat]?).bind fun z27 => (chk (s31 + ((z27.toNat : Nat) : Int))).bind fun s29 => some s29 else (stab0[(u8of v).toNat]?).bind fun z27 => (chk (((z : Nat) : Int) + ((z27.toNat : Nat) : Int))).bind fun s29 => some s29)) = some (((blen v.toNat + z : Nat)) : Int) := fun v z hv hz => by
    by_cases h : (65536 : UInt64) ≤ v
    · rw [if_pos h, chk_ok (by omega)]
      simp only [obind]
      have h' : 2 ^ 16 ≤ v.toNat := UInt64.le_iff_toNat_le.1 h
      have hs := shrU_toNat v (show 16 < 64 by omega)
      have := mid (shrU v 16) (z + 16) (by rw [hs]; omega) (by omega)
      rw [show (((z : Nat) : Int) + 16) = ((z + 16 : Nat) : Int) by omega, this, hs, blen_shift h']
      congr 1
      omega
    · rw [if_neg h]
      have h' : ¬ 65536 ≤ v.toNat := fun e => h (UInt64.le_iff_toNat_le.2 e)
      exact mid v z (by omega) (by omega)
  unfold math_bits_Len64_p
  simp only [jn]
  have hu := u64_lt u
  by_cases h : (4294967296 : UInt64) ≤ u
  · rw [if_pos h]
    have h' : 2 ^ 32 ≤ u.toNat := UInt64.le_iff_toNat_le.1 h
    have hs := shrU_toNat u (show 32 < 64 by omega)
    have := mid2 (shrU u 32) 32 (by rw [hs]; omega) (by omega)
    rw [hs, ← blen_shift h'] at this
    exact this
  · rw [if_neg h]
    have h' : ¬ 4294967296 ≤ u.toNat := fun e => h (UInt64.le_iff_toNat_le.2 e)
    exact mid2 u 0 (by omega) (by omega)
/-- The set has nodes below N alone. -/
def Fits (N : Int) (u : UInt64) : Prop := ∀ k, bit u k = true → (k : Int) < N
theorem blen_fits {N : Int} {u : UInt64} (h : 0 ≤ N) : ((blen u.toNat : Nat) : Int) ≤ N ↔ Fits N u := by
  obtain ⟨m, rfl⟩ : ∃ m : Nat, N = m := ⟨N.toNat, by omega⟩
  rw [Int.ofNat_le, blen_le, fits_iff]
  unfold Fits
  exact ⟨fun h k hk => by have := h k hk; omega, fun h k hk => by have := h k hk; omega⟩
/-- The order of edges. -/
def Lex (a b : Int × Int) : Prop := a.1 < b.1 ∨ a.1 = b.1 ∧ a.2 < b.2
structure Valid (g : TGraph) : Prop where
  n1 : 1 ≤ g.fN
  n64 : g.fN ≤ 64
  len : g.fEdges.length ≤ 200
  ok : ∀ e ∈ g.fEdges, 0 ≤ e.1 ∧ e.1 < e.2 ∧ e.2 < g.fN
  sorted : ∀ (i : Nat) (e f : Int × Int), g.fEdges[i]? = some e → g.fEdges[i + 1]? = some f → Lex e f
theorem compare1 (n : Nat) (a b : Int) : cmp_Compare_int_p n a b = some (if a < b then -1 else if b < a then 1 else 0) := by
  unfold cmp_Compare_int_p cmp_isNaN_int_p
  simp only [obind]
  simp only [decide_true, Bool.not_true, Bool.false_eq_true, if_false]
  split <;> (try rfl)
  split <;> rfl
theorem loopF_fun {α β : Type} (B : (α → Option β) → α → Option β) (n : Nat) : loopF B (n + 1) = B (loopF B n) := rfl
theorem compare2 (n : Nat) (a b c d : Int) (hn : 2 < n) : ∃ y, slices_Compare_int_int_p n [a, b] [c, d] = some y ∧ (0 ≤ y ↔ ¬ Lex (a, b) (c, d)) := by
  obtain ⟨m, rfl⟩ : ∃ m, n = m + 1 + 1 + 1 := ⟨n - 3, by omega⟩
  unfold slices_Compare_int_int_p
  rw [loopF_fun, loopF_fun, loopF_fun]
  unfold slices_Compare_int_int_l1
  simp [compare1, thn, Lex]
  by_cases h1 : a < c
  · simp [h1]; try omega
  · by_cases h2 : c < a
    · simp [h1, h2]; try omega
    · have : a = c := by omega
      subst this
      by_cases h3 : b < d
      · simp [h3]
      · by_cases h4 : d < b
        · simp [h3, h4]; try omega
        · simp [h3, h4]; try omega
theorem check_ok (n : Nat) (g : TGraph) (hn : 300 < n) : ∃ r, graph_Check_p n g = some r ∧ (r = 0 ∧ Valid g ∨ r = 180 ∧ ¬ Valid g) := by
  unfold graph_Check_p
  by_cases h1 : g.fN < 1
  · rw [if_pos h1]; exact ⟨_, rfl, .inr ⟨rfl, fun h => by have := h.n1; omega⟩⟩
  rw [if_neg h1]
  by_cases h2 : 64 < g.fN
  · rw [if_pos h2]; exact ⟨_, rfl, .inr ⟨rfl, fun h => by have := h.n64; omega⟩⟩
  rw [if_neg h2]
  by_cases h3 : 200 < g.fEdges.length
  · rw [if_pos h3]; exact ⟨_, rfl, .inr ⟨rfl, fun h => by have := h.len; omega⟩⟩
  rw [if_neg h3]
  obtain ⟨r, e1, e2⟩ := loop_ok (B := graph_Check_l1 n g) (fun s => g.fEdges.length - s.1) (fun (i, z1, z2) => i ≤ g.fEdges.length ∧ (∀ j e, j < i → g.fEdges[j]? = some e → 0 ≤ e.1 ∧ e.1 < e.2 ∧ e.2 < g.fN) ∧
      (∀ j e f, j + 1 < i → g.fEdges[j]? = some e → g.fEdges[j + 1]? = some f → Lex e f) ∧ (i = 0 → z1 = -1 ∧ z2 = -1) ∧ (∀ j, i = j + 1 → g.fEdges[j]? = some (z1, z2)))
    (fun r => r = .inl 180 ∧ ¬ Valid g ∨ r = .inr () ∧ Valid g) (fun ⟨i, z1, z2⟩ J ⟨q1, q2, q3, q4, q5⟩ hJ => by
    simp only at q1 q2 q3 q4 q5 hJ
    unfold graph_Check_l1
    simp only
    by_cases hi : i < g.fEdges.length
    · rw [if_pos hi, List.getElem?_eq_getElem hi]
      simp only [obind]
      generalize he : g.fEdges[i] = e
      have hge : g.fEdges[i]? = some e := by rw [List.getElem?_eq_getElem hi, he]
      have hmem : e ∈ g.fEdges := he ▸ List.getElem_mem hi
      by_cases c1 : e.1 < 0
      · rw [if_pos c1]; exact ⟨_, rfl, .inl ⟨rfl, fun h => by have := h.ok e hmem; omega⟩⟩
      rw [if_neg c1]
      by_cases c2 : e.2 ≤ e.1
      · rw [if_pos c2]; exact ⟨_, rfl, .inl ⟨rfl, fun h => by have := h.ok e hmem; omega⟩⟩
      rw [if_neg c2]
      by_cases c3 : g.fN ≤ e.2
      · rw [if_pos c3]; exact ⟨_, rfl, .inl ⟨rfl, fun h => by have := h.ok e hmem; omega⟩⟩
      rw [if_neg c3]
      obtain ⟨y, y1, y2⟩ := compare2 n z1 z2 e.1 e.2 (by omega)
      rw [y1]
      simp only [obind]
      by_cases c4 : 0 ≤ y
      · rw [if_pos c4]
        refine ⟨_, rfl, .inl ⟨rfl, fun h => y2.1 c4 ?_⟩⟩
        cases i with
        | zero => obtain ⟨rfl, rfl⟩ := q4 rfl; left; show (-1 : Int) < e.1; omega
        | succ j => exact h.sorted j (z1, z2) e (q5 j rfl) hge
      · rw [if_neg c4]
        have hlex : Lex (z1, z2) e := Classical.byContradiction fun hh => c4 (y2.2 hh)
        refine hJ (i + 1, e.1, e.2) ⟨by simp only; omega, fun j e' hj he' => ?_, fun j e' f hj he' hf => ?_, fun h => by simp at h, fun j hj => ?_⟩ (by simp only; omega)
        · simp only at hj
          by_cases hji : j = i
          · subst hji; rw [hge] at he'; cases he'; exact ⟨by omega, by omega, by omega⟩
          · exact q2 j e' (by omega) he'
        · simp only at hj
          by_cases hji : j + 1 = i
          · have := q5 j hji.symm
            rw [this] at he'
            rw [hji, hge] at hf
            cases he'; cases hf
            exact hlex
          · exact q3 j e' f (by omega) he' hf
        · simp only at hj ⊢
          have : j = i := by omega
          subst this
          rw [hge]
    · rw [if_neg hi]
      refine ⟨_, rfl, .inr ⟨rfl, by omega, by omega, by omega, fun e he => ?_, fun j e f he hf => ?_⟩⟩
      · obtain ⟨j, hj, rfl⟩ := List.getElem_of_mem he
        exact q2 j _ (by omega) (List.getElem?_eq_getElem hj)
      · have := (List.getElem?_eq_some_iff.1 hf).1
        exact q3 j e f (by omega) he hf) n (0, -1, -1) ⟨by simp, fun j e h => by simp at h, fun j e f h => by simp at h, fun _ => ⟨rfl, rfl⟩, fun j h => by simp at h⟩ (by simp only; omega)
  rw [e1]
  rcases e2 with ⟨rfl, h⟩ | ⟨rfl, h⟩
  · exact ⟨180, rfl, .inr ⟨rfl, h⟩⟩
  · exact ⟨0, rfl, .inl ⟨rfl, h⟩⟩
theorem Valid.check {n : Nat} {g : TGraph} (h : Valid g) (hn : 300 < n) : graph_Check_p n g = some 0 := by
  obtain ⟨r, h1, h2⟩ := check_ok n g hn
  rcases h2 with ⟨rfl, _⟩ | ⟨_, h3⟩
  · exact h1
  · exact absurd h h3
theorem Valid.check2 {n : Nat} {g : TGraph} (h : Valid g) (hn : 300 < n) (u : UInt64) : ∃ r, graph_check_p n g u = some r ∧ (r = 0 ∧ Fits g.fN u ∨ r = 2 ∧ ¬ Fits g.fN u) := by
  unfold graph_check_p
  rw [h.check hn]
  simp only [obind]
  rw [ifT, len64]
  simp only [obind]
  have h0 := h.n1
  by_cases hf : Fits g.fN u
  · rw [if_neg (by have := (blen_fits (by omega)).2 hf; omega)]; exact ⟨_, rfl, .inl ⟨rfl, hf⟩⟩
  · rw [if_pos (by have := mt (blen_fits (N := g.fN) (u := u) (by omega)).1 hf; omega)]; exact ⟨_, rfl, .inr ⟨rfl, hf⟩⟩
theorem fits_p (n : Nat) (g : TGraph) (u : UInt64) (h : 0 ≤ g.fN) : ∃ b, wilson_fits_p n g u = some b ∧ (b = true ↔ Fits g.fN u) := by
  unfold wilson_fits_p
  rw [len64]
  simp only [obind]
  exact ⟨_, rfl, by rw [decide_eq_true_eq, blen_fits h]⟩
/-- Is there an edge? -/
def Adj (g : TGraph) (a b : Nat) : Prop := ((a : Int), (b : Int)) ∈ g.fEdges ∨ ((b : Int), (a : Int)) ∈ g.fEdges
theorem Adj.symm {g : TGraph} {a b : Nat} (h : Adj g a b) : Adj g b a := Or.symm h
theorem Valid.adj {g : TGraph} (h : Valid g) {a b : Nat} (k : Adj g a b) : (a : Int) < g.fN ∧ (b : Int) < g.fN ∧ a ≠ b := by
  rcases k with k | k <;> have := h.ok _ k <;> simp only at this <;> omega
theorem natOf_ok {x : Int} (h : 0 ≤ x) : natOf x = some x.toNat := if_pos h
theorem idx_ok {α : Type} {xs : List α} {i : Int} (h0 : 0 ≤ i) (h : i < xs.length) : idx xs i = some (xs[i.toNat]'(by omega)) := by
  unfold idx
  rw [if_pos h0, List.getElem?_eq_getElem]
theorem put_ok {α : Type} {xs : List α} {i : Int} (v : α) (h0 : 0 ≤ i) (h : i < xs.length) : put xs i v = some (xs.set i.toNat v) := by
  unfold put
  rw [if_pos ⟨h0, h⟩]
/-- The neighbours of each node. -/
theorem around_ok (n : Nat) (g : TGraph) (h : Valid g) (hn : 300 < n) : ∃ l, graph_around_p n g = some l ∧ (l.length : Int) = g.fN ∧ ∀ (a : Nat) u, l[a]? = some u → ∀ b, bit u b = true ↔ Adj g a b := by
  unfold graph_around_p
  have h1 := h.n1; have h64 := h.n64; have hlen := h.len
  have hm : mk g.fN (0 : UInt64) = some (List.replicate g.fN.toNat 0) := if_pos ⟨by omega, by omega⟩
  rw [hm]
  simp only [obind]
  obtain ⟨l, e1, e2, e3⟩ := loop_ok (B := graph_around_l1 n g) (fun s => g.fEdges.length - s.1) (fun (i, xs) => i ≤ g.fEdges.length ∧ (xs.length : Int) = g.fN ∧ ∀ (a : Nat) u, xs[a]? = some u → ∀ b, bit u b = true ↔ (((a : Int), (b : Int)) ∈ g.fEdges.take i ∨ ((b : Int), (a : Int)) ∈ g.fEdges.take i))
    (fun xs => (xs.length : Int) = g.fN ∧ ∀ (a : Nat) u, xs[a]? = some u → ∀ b, bit u b = true ↔ Adj g a b) (fun ⟨i, xs⟩ J ⟨q1, q2, q3⟩ hJ => by
    simp only at q1 q2 q3 hJ
    unfold graph_around_l1
    simp only
    by_cases hi : i < g.fEdges.length
    · rw [if_pos hi, List.getElem?_eq_getElem hi]
      simp only [obind]
      generalize he : g.fEdges[i] = e
      have hmem : e ∈ g.fEdges := he ▸ List.getElem_mem hi
      obtain ⟨o1, o2, o3⟩ := h.ok e hmem
      rw [idx_ok o1 (by omega), natOf_ok (by omega)]
      simp only [obind]
      rw [put_ok _ (by omega) (by omega), Int.toNat_natCast]
      simp only [obind]
      rw [idx_ok (by omega) (by simp only [List.length_set]; omega), natOf_ok o1]
      simp only [obind]
      rw [put_ok _ (by omega) (by simp only [List.length_set]; omega), Int.toNat_natCast]
      simp only [obind]
      refine hJ _ ⟨by simp only; omega, by simp only [List.length_set]; exact q2, fun a u hu b => ?_⟩ (by simp only; omega)
      simp only at hu ⊢
      have htake : g.fEdges.take (i + 1) = g.fEdges.take i ++ [e] := by rw [List.take_succ_eq_append_getElem hi, he]
      rw [htake, List.mem_append, List.mem_append, List.mem_singleton, List.mem_singleton]
      have hne : e.1.toNat ≠ e.2.toNat := by omega
      have hal : a < xs.length := by
        have := (List.getElem?_eq_some_iff.1 hu).1
        simpa using this
      have hold := q3 a xs[a] (List.getElem?_eq_getElem hal) b
      rw [List.getElem?_set] at hu
      by_cases c2 : e.2.toNat = a
      · rw [if_pos c2, if_pos (by simp only [List.length_set]; omega)] at hu
        have hu : _ = u := Option.some.inj hu
        rw [← hu, bit_or, bit_one (by omega), List.getElem_set_ne hne]
        subst c2
        simp only [Bool.or_eq_true, decide_eq_true_eq]
        rw [hold]
        constructor
        · rintro ((k | k) | k)
          · exact .inl (.inl k)
          · exact .inr (.inl k)
          · right; right; apply Prod.ext <;> simp only <;> omega
        · rintro ((k | k) | (k | k))
          · exact .inl (.inl k)
          · exfalso; have := congrArg Prod.fst k; have k2 := congrArg Prod.snd k; simp only at this k2; omega
          · exact .inl (.inr k)
          · right; have := congrArg Prod.fst k; simp only at this; omega
      · rw [if_neg c2, List.getElem?_set] at hu
        by_cases c1 : e.1.toNat = a
        · rw [if_pos c1, if_pos (by omega)] at hu
          have hu : _ = u := Option.some.inj hu
          rw [← hu, bit_or, bit_one (by omega)]
          subst c1
          simp only [Bool.or_eq_true, decide_eq_true_eq]
          rw [hold]
          constructor
          · rintro ((k | k) | k)
            · exact .inl (.inl k)
            · exact .inr (.inl k)
            · left; right; apply Prod.ext <;> simp only <;> omega
          · rintro ((k | k) | (k | k))
            · exact .inl (.inl k)
            · right; have := congrArg Prod.snd k; simp only at this; omega
            · exact .inl (.inr k)
            · exfalso; have := congrArg Prod.snd k; simp only at this; omega
        · rw [if_neg c1] at hu
          rw [q3 a u hu b]
          constructor
          · rintro (k | k)
            · exact .inl (.inl k)
            · exact .inr (.inl k)
          · rintro ((k | k) | (k | k))
            · exact .inl k
            · exfalso; have := congrArg Prod.fst k; simp only at this; omega
            · exact .inr k
            · exfalso; have := congrArg Prod.snd k; simp only at this; omega
    · rw [if_neg hi]
      refine ⟨_, rfl, q2, fun a u hu b => ?_⟩
      rw [q3 a u hu b, List.take_of_length_le (by omega)]
      rfl) n (0, List.replicate g.fN.toNat 0) ⟨by simp, by simp; omega, fun a u hu b => by
        rw [List.getElem?_replicate] at hu
        split at hu
        · cases hu; simp [bit_zero]
        · cases hu⟩ (by simp only; omega)
  rw [e1]
  exact ⟨l, rfl, e2, e3⟩
/-- A loop through the numbers of a set. -/
theorem bits_loop {σ β : Type} {B : (UInt64 × σ → Option β) → UInt64 × σ → Option β} (R : σ → β) (F : Nat → σ → Option σ) (hB : ∀ J (u : UInt64) s, B J (u, s) = if u = 0 then some (R s) else (F (low u) s).bind fun s' => J (u &&& (u - 1), s')) :
    ∀ (m n : Nat) (u : UInt64) (s : σ), (bitsL u).length ≤ m → m < n → loopF B n (u, s) = ((bitsL u).foldlM (fun s t => F t s) s).map R := by
  intro m
  induction m with
  | zero =>
    intro n u s hm hn
    obtain ⟨k, rfl⟩ : ∃ k, n = k + 1 := ⟨n - 1, by omega⟩
    have hu : u = 0 := Classical.byContradiction fun hne => by rw [bitsL_cons hne] at hm; simp at hm
    rw [loopF_succ, hB, if_pos hu, hu, bitsL_zero]
    rfl
  | succ m ih =>
    intro n u s hm hn
    obtain ⟨k, rfl⟩ : ∃ k, n = k + 1 := ⟨n - 1, by omega⟩
    rw [loopF_succ, hB]
    by_cases hu : u = 0
    · rw [if_pos hu, hu, bitsL_zero]; rfl
    · rw [if_neg hu, bitsL_cons hu, List.foldlM_cons]
      have hl : (bitsL (u &&& (u - 1))).length ≤ m := by rw [bitsL_cons hu] at hm; simpa using hm
      cases F (low u) s with
      | none => rfl
      | some s' => exact ih k _ s' hl (by omega)
theorem near_ok (n : Nat) (g : TGraph) (h : Valid g) (hn : 300 < n) (u : UInt64) (hu : Fits g.fN u) : ∃ v, graph_near_p n g u = some v ∧ ∀ b, bit v b = true ↔ (∃ a, bit u a = true ∧ Adj g a b) ∧ bit u b = false := by
  unfold graph_near_p
  obtain ⟨l, l1, l2, l3⟩ := around_ok n g h hn
  rw [l1]
  simp only [obind]
  have hloop := bits_loop (B := graph_near_l1 n l) (fun s => s) (fun t (s : UInt64) => (idx l ((t : Nat) : Int)).bind fun x => some (s ||| x)) (fun J u s => by
    unfold graph_near_l1
    simp only
    by_cases h0 : u = 0
    · rw [if_pos h0, if_pos h0]
    · rw [if_neg h0, if_neg h0, tz_eq n h0]
      simp only [obind]
      cases idx l ((low u : Nat) : Int) <;> rfl) (bitsL u).length n u 0 (Nat.le_refl _) (by have := bitsL_len u; omega)
  rw [hloop]
  have key : ∀ (ts : List Nat) (s : UInt64), (∀ t ∈ ts, (t : Int) < g.fN) → ∃ v, (ts.foldlM (fun s t => (idx l ((t : Nat) : Int)).bind fun x => some (s ||| x)) s : Option UInt64) = some v ∧ ∀ b, bit v b = true ↔ bit s b = true ∨ ∃ a ∈ ts, Adj g a b := by
    intro ts
    induction ts with
    | nil => intro s _; exact ⟨s, rfl, fun b => by simp⟩
    | cons t ts ih =>
      intro s hs
      have ht := hs t (by simp)
      rw [List.foldlM_cons, idx_nat, List.getElem?_eq_getElem (by omega)]
      obtain ⟨v, v1, v2⟩ := ih (s ||| l[t]'(by omega)) (fun x hx => hs x (by simp [hx]))
      refine ⟨v, v1, fun b => ?_⟩
      rw [v2, bit_or, Bool.or_eq_true, l3 t _ (List.getElem?_eq_getElem (by omega)) b]
      constructor
      · rintro ((k | k) | ⟨a, k1, k2⟩)
        · exact .inl k
        · exact .inr ⟨t, by simp, k⟩
        · exact .inr ⟨a, by simp [k1], k2⟩
      · rintro (k | ⟨a, k1, k2⟩)
        · exact .inl (.inl k)
        · rcases List.mem_cons.1 k1 with rfl | k1
          · exact .inl (.inr k2)
          · exact .inr ⟨a, k1, k2⟩
  obtain ⟨v, v1, v2⟩ := key (bitsL u) 0 (fun t ht => hu t (mem_bitsL.1 ht))
  rw [v1]
  refine ⟨_, rfl, fun b => ?_⟩
  rw [bit_andNot, Bool.and_eq_true, v2]
  simp only [bit_zero, Bool.false_eq_true, false_or, Bool.not_eq_true', mem_bitsL]
end Go.Proofs.YtplkfbljncfdnaaDoor
