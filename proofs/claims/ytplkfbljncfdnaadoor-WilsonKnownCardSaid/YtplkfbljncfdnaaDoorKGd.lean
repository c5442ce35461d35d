/- Plain laws: distances in a set of a graph. No program in sight but the printed functions. -/
import Derived.Test.YtplkfbljncfdnaaDoorKGa
namespace Go.Proofs.YtplkfbljncfdnaaDoor
open Go

/-- So many steps in a set. -/
inductive Way (g : TGraph) (s : UInt64) (x : Nat) : Nat → Nat → Prop
  | here : Way g s x 0 x
  | on {m a b : Nat} (h : Way g s x m a) (k : Adj g a b) (hb : bit s b = true) : Way g s x (m + 1) b
theorem Way.inside {g : TGraph} {s : UInt64} {x m y : Nat} (hx : bit s x = true) (h : Way g s x m y) : bit s y = true := by
  cases h with
  | here => exact hx
  | on _ _ hb => exact hb
theorem bitsL_sub {u v : UInt64} (h : ∀ k, bit u k = true → bit v k = true) (hx : ∃ k, bit v k = true ∧ bit u k = false) : (bitsL u).length < (bitsL v).length := by
  have e : bitsL u = (bitsL v).filter (bit u ·) := by
    unfold bitsL
    rw [List.filter_filter]
    apply List.filter_congr
    intro k _
    cases hu : bit u k with
    | false => simp
    | true => rw [h k hu]; rfl
  rw [e]
  obtain ⟨k, k1, k2⟩ := hx
  apply List.length_filter_lt_length_iff_exists.2
  exact ⟨k, mem_bitsL.2 k1, by rw [k2]; simp⟩
theorem ifTT {α : Type} (x y : α) : (if true = true then x else y) = x := if_pos rfl
theorem mul_small (n : Nat) {k : UInt64} (h : k.toNat ≤ 64) : math_bits_Mul_p n (u64of ((([(-1)] : List Int).length : Nat) : Int)) k = some (0, k) := by
  have : ∀ q, q < 65 → math_bits_Mul_p n (u64of ((([(-1)] : List Int).length : Nat) : Int)) (UInt64.ofNat q) = some (0, UInt64.ofNat q) := by
    unfold math_bits_Mul_p math_bits_Mul64_p
    decide +kernel
  have e : k = UInt64.ofNat k.toNat := by simp
  rw [e]
  exact this _ (by omega)
theorem repeat_ok (n : Nat) (N : Nat) (h1 : 1 ≤ N) (h : N ≤ 64) (hn : 300 < n) : loopF (graph_Distances_l3 n) n (min (([(-1)] : List Int).length) (List.replicate N (0 : Int)).length, cpy (List.replicate N (0 : Int)) 0 (List.replicate N (0 : Int)).length ([(-1)] : List Int)) = some (List.replicate N (-1)) := by
  have hcut : ∀ (xs : List Int) (i j : Nat), i ≤ j → j ≤ xs.length → cut xs ((i : Nat) : Int) ((j : Nat) : Int) = some ((xs.take j).drop i) := fun xs i j h1 h2 => by
    unfold cut
    rw [if_pos ⟨by omega, by omega, by omega⟩]
    simp
  obtain ⟨r, e1, rfl⟩ := loop_ok (B := graph_Distances_l3 n) (fun s => N - s.1) (fun (i, xs) => 1 ≤ i ∧ i ≤ N ∧ xs.length = N ∧ ∀ j, j < i → xs[j]? = some (-1)) (fun xs => xs = List.replicate N (-1)) (fun ⟨i, xs⟩ J ⟨q0, q1, q2, q3⟩ hJ => by
    simp only at q0 q1 q2 q3 hJ
    unfold graph_Distances_l3
    simp only
    by_cases hi : i < xs.length
    · rw [if_pos hi, hcut xs i xs.length (by omega) (by omega)]
      simp only [obind]
      have := hcut xs 0 i (by omega) (by omega)
      rw [show ((0 : Nat) : Int) = 0 from rfl] at this
      rw [this]
      simp only [obind]
      have e2 : ((xs.take xs.length).drop i).length = xs.length - i := by simp
      have e3 : (xs.take i).length = i := by simp; omega
      rw [List.drop_zero, e2, e3]
      refine hJ _ ⟨by simp only; omega, by simp only; omega, ?_, fun j hj => ?_⟩ (by simp only; omega)
      · simp only [Int.toNat_natCast]
        rw [cpy_length (by omega)]; exact q2
      · simp only [Int.toNat_natCast] at hj ⊢
        unfold cpy
        rw [e3]
        by_cases hji : j < i
        · rw [List.append_assoc, List.getElem?_append_left (by simp; omega), List.getElem?_take_of_lt hji]
          exact q3 j hji
        · rw [List.getElem?_append_left (by simp; omega), List.getElem?_append_right (by simp; omega), e3, List.getElem?_take_of_lt (by omega), List.getElem?_take_of_lt (by omega)]
          exact q3 _ (by omega)
    · rw [if_neg hi]
      refine ⟨_, rfl, ?_⟩
      apply List.ext_getElem?
      intro j
      by_cases hj : j < N
      · rw [q3 j (by omega), List.getElem?_replicate, if_pos hj]
      · rw [List.getElem?_eq_none (by omega), List.getElem?_replicate, if_neg hj]) n (min (([(-1)] : List Int).length) (List.replicate N (0 : Int)).length, cpy (List.replicate N (0 : Int)) 0 (List.replicate N (0 : Int)).length ([(-1)] : List Int)) ⟨by simp; omega, by simp; omega, by rw [cpy_length (by simp)]; simp, fun j hj => by
      have : j = 0 := by simp at hj; omega
      subst this
      unfold cpy
      simp
      rw [Nat.min_eq_left h1]
      rfl⟩ (by simp only; omega)
  exact e1
/-- What a list of distances is. -/
structure Dist (g : TGraph) (s : UInt64) (x : Nat) (far : List Int) : Prop where
  len : (far.length : Int) = g.fN
  ways : ∀ (y : Nat) (d : Int), far[y]? = some d → 0 ≤ d → Way g s x d.toNat y
  least : ∀ (y : Nat) m, Way g s x m y → ∃ d : Int, far[y]? = some d ∧ 0 ≤ d ∧ d ≤ m
theorem fold_set (z : Int) : ∀ (ts : List Nat) (xs : List Int), (∀ t ∈ ts, t < xs.length) → ∃ ys, (ts.foldlM (fun xs t => (idx xs ((t : Nat) : Int)).bind fun _ => put xs ((((t : Nat) : Int).toNat : Nat) : Int) z) xs : Option (List Int)) = some ys ∧ ys.length = xs.length ∧ ∀ j, ys[j]? = if j ∈ ts then some z else xs[j]? := by
  intro ts
  induction ts with
  | nil => intro xs _; exact ⟨xs, rfl, rfl, fun j => by simp⟩
  | cons t ts ih =>
    intro xs h
    have ht := h t (by simp)
    rw [List.foldlM_cons, idx_nat, List.getElem?_eq_getElem ht, Int.toNat_natCast, put_ok z (by omega) (by omega), Int.toNat_natCast]
    obtain ⟨ys, y1, y2, y3⟩ := ih (xs.set t z) (fun q hq => by rw [List.length_set]; exact h q (by simp [hq]))
    refine ⟨ys, y1, by rw [y2, List.length_set], fun j => ?_⟩
    rw [y3, List.getElem?_set]
    by_cases hj : j ∈ ts
    · rw [if_pos hj, if_pos (List.mem_cons_of_mem _ hj)]
    · rw [if_neg hj]
      by_cases hjt : t = j
      · subst hjt; rw [if_pos rfl, if_pos ht, if_pos (by simp)]
      · rw [if_neg hjt, if_neg (by simp [hj]; omega)]
theorem distances_ok (n : Nat) (g : TGraph) (h : Valid g) (hn : 300 < n) (s : UInt64) (x : Nat) (hs : Fits g.fN s) (hx : bit s x = true) : ∃ far, graph_Distances_p n g s (x : Int) = some (far, 0) ∧ Dist g s x far := by
  have h1 := h.n1; have h64 := h.n64
  have hxN := hs x hx
  obtain ⟨N, hN⟩ : ∃ N : Nat, g.fN = N := ⟨g.fN.toNat, by omega⟩
  unfold graph_Distances_p
  obtain ⟨r, c1, c2⟩ := h.check2 hn s
  have c3 : r = 0 := by rcases c2 with ⟨h, _⟩ | ⟨_, h⟩; exact h; exact absurd hs h
  subst c3
  rw [c1]
  simp only [obind]
  rw [ifT, if_neg (by omega), if_neg (by omega)]
  unfold graph_has_p
  rw [natOf_ok (by omega)]
  simp only [obind]
  rw [Int.toNat_natCast, decide_eq_true ((has_iff s x).2 hx), ifTT, if_neg (by omega)]
  have hu : (u64of g.fN).toNat = N := by rw [hN, u64of_nat]; exact UInt64.toNat_ofNat_of_lt' (show N < 2 ^ 64 by omega)
  rw [mul_small n (by omega)]
  simp only [obind]
  rw [if_neg (by simp), if_neg (by rw [UInt64.lt_iff_toNat_lt, hu]; show ¬ 9223372036854775807 < N; omega)]
  have hi : i64of (u64of g.fN) = (N : Int) := by unfold i64of; rw [hu, if_pos (by omega)]
  have hmk : mk (i64of (u64of g.fN)) (0 : Int) = some (List.replicate N 0) := by
    rw [hi]; unfold mk; rw [if_pos ⟨by omega, by omega⟩]; simp
  rw [hmk]
  simp only [obind]
  rw [repeat_ok n N (by omega) (by omega) hn]
  simp only [obind]
  have hx64 : x < 64 := by omega
  obtain ⟨far, e1, e2⟩ := loop_ok (B := graph_Distances_l2 n g s) (fun (u, f, _, _) => 2 * (64 - (bitsL u).length) + (if f = 0 then 0 else 1))
    (fun (u, f, z, xs) => ∃ d : Nat, z = (d : Int) ∧ d + (if f = 0 then 0 else 1) ≤ (bitsL u).length ∧ xs.length = N ∧ (∀ y, bit u y = true ↔ ∃ m, m ≤ d ∧ Way g s x m y) ∧ (∀ y, bit f y = true ↔ (∃ m, m ≤ d ∧ Way g s x m y) ∧ ∀ m, m < d → ¬ Way g s x m y) ∧
      (∀ (y : Nat) (k : Int), xs[y]? = some k → (k = -1 ∧ (bit u y = false ∨ bit f y = true)) ∨ (0 ≤ k ∧ k < d ∧ Way g s x k.toNat y ∧ ∀ m, Way g s x m y → k ≤ m)))
    (fun far => Dist g s x far) (fun ⟨u, f, z, xs⟩ J ⟨d, hz, hd, hl, q1, q2, q3⟩ hJ => by
    simp only at hz hd hl q1 q2 q3 hJ
    subst hz
    unfold graph_Distances_l2
    simp only
    have hin : ∀ y m, Way g s x m y → bit s y = true := fun y m hw => hw.inside hx
    by_cases hf : f = 0
    · rw [if_pos hf]
      subst hf
      have hclosed : ∀ m y, Way g s x m y → bit u y = true := by
        intro m
        induction m with
        | zero => intro y hw; exact (q1 y).2 ⟨0, by omega, hw⟩
        | succ m ih =>
          intro y hw
          cases hw with
          | on hw k hb =>
            rename_i a
            have ha := ih a hw
            obtain ⟨j, j1, j2⟩ := (q1 a).1 ha
            rcases Nat.lt_or_ge j d with hj | hj
            · exact (q1 y).2 ⟨j + 1, by omega, .on j2 k hb⟩
            · have : j = d := by omega
              subst this
              have hno := bit_zero a
              apply Classical.byContradiction
              intro hy
              have : bit 0 a = true := (q2 a).2 ⟨⟨j, by omega, j2⟩, fun m' hm' hw' => hy ((q1 y).2 ⟨m' + 1, by omega, .on hw' k hb⟩)⟩
              rw [hno] at this; cases this
      refine ⟨_, rfl, by omega, fun y k hk h0 => ?_, fun y m hw => ?_⟩
      · rcases q3 y k hk with ⟨rfl, _⟩ | ⟨_, _, k1, _⟩
        · omega
        · exact k1
      · have hy := hclosed m y hw
        have hyN := hs y (hin y m hw)
        have hyl : y < xs.length := by omega
        rcases q3 y xs[y] (List.getElem?_eq_getElem hyl) with ⟨_, hh⟩ | ⟨k0, _, _, k2⟩
        · rcases hh with hh | hh
          · rw [hy] at hh; cases hh
          · rw [bit_zero] at hh; cases hh
        · exact ⟨xs[y], List.getElem?_eq_getElem hyl, k0, k2 m hw⟩
    · rw [if_neg hf]
      have hfu : ∀ y, bit f y = true → bit u y = true := fun y hy => (q1 y).2 ((q2 y).1 hy).1
      have hus : Fits g.fN u := fun y hy => by obtain ⟨m, _, hw⟩ := (q1 y).1 hy; exact hs y (hin y m hw)
      have hloop := bits_loop (B := graph_Distances_l1 n (d : Int)) (fun xs => xs) (fun t (xs : List Int) => (idx xs ((t : Nat) : Int)).bind fun _ => put xs ((((t : Nat) : Int).toNat : Nat) : Int) (d : Int)) (fun J u s => by
        unfold graph_Distances_l1
        simp only
        by_cases h0 : u = 0
        · rw [if_pos h0, if_pos h0]
        · rw [if_neg h0, if_neg h0, tz_eq n h0]
          simp only [obind]
          cases idx s ((low u : Nat) : Int) <;> rfl) (bitsL f).length n f xs (Nat.le_refl _) (by have := bitsL_len f; omega)
      obtain ⟨ys, y1, y2, y3⟩ := fold_set (d : Int) (bitsL f) xs (fun t ht => by have := hus t (hfu t (mem_bitsL.1 ht)); omega)
      rw [hloop, y1]
      simp only [Option.map_some, obind]
      obtain ⟨v, v1, v2⟩ := near_ok n g h hn u hus
      rw [v1]
      simp only [obind]
      have hul := bitsL_len u
      have hd64 : d < 64 := by rw [if_neg hf] at hd; omega
      rw [chk_ok (by omega)]
      simp only [obind]
      have hnew : ∀ y, bit (v &&& s) y = true ↔ (∃ m, m ≤ d + 1 ∧ Way g s x m y) ∧ ∀ m, m < d + 1 → ¬ Way g s x m y := by
        intro y
        rw [bit_and, Bool.and_eq_true, v2]
        constructor
        · rintro ⟨⟨⟨a, a1, a2⟩, a3⟩, a4⟩
          obtain ⟨m, m1, m2⟩ := (q1 a).1 a1
          refine ⟨⟨m + 1, by omega, .on m2 a2 a4⟩, fun m' hm' hw => ?_⟩
          have := (q1 y).2 ⟨m', by omega, hw⟩
          rw [a3] at this; cases this
        · rintro ⟨⟨m, m1, m2⟩, m3⟩
          have : m = d + 1 := Classical.byContradiction fun hne => m3 m (by omega) m2
          subst this
          refine ⟨⟨?_, ?_⟩, hin y _ m2⟩
          · cases m2 with
            | on hw k hb => exact ⟨_, (q1 _).2 ⟨d, by omega, hw⟩, k⟩
          · cases hb : bit u y with
            | false => rfl
            | true => obtain ⟨m', m4, m5⟩ := (q1 y).1 hb; exact absurd m5 (m3 m' (by omega))
      have hsub : ∀ k, bit u k = true → bit (u ||| (v &&& s)) k = true := fun k hk => by rw [bit_or, hk]; rfl
      have hgrow : (v &&& s) ≠ 0 → (bitsL u).length < (bitsL (u ||| (v &&& s))).length := fun hne => by
        obtain ⟨k, hk⟩ := ne_zero_bit hne
        refine bitsL_sub hsub ⟨k, by rw [bit_or, hk, Bool.or_true], ?_⟩
        rw [bit_and, Bool.and_eq_true, v2] at hk
        exact hk.1.2
      have hul2 := bitsL_len (u ||| (v &&& s))
      have hsame : (v &&& s) = 0 → u ||| (v &&& s) = u := fun e => by rw [e]; apply bit_ext; intro k; rw [bit_or, bit_zero, Bool.or_false]
      refine hJ _ ⟨d + 1, by simp, ?_, by rw [y2]; exact hl, fun y => ?_, hnew, fun y k hk => ?_⟩ ?_
      · simp only
        rw [if_neg hf] at hd
        by_cases hv : (v &&& s) = 0
        · rw [if_pos hv, hsame hv]; omega
        · rw [if_neg hv]; have := hgrow hv; omega
      · simp only
        rw [bit_or, Bool.or_eq_true, q1, hnew]
        constructor
        · rintro (⟨m, m1, m2⟩ | ⟨hm, _⟩)
          · exact ⟨m, by omega, m2⟩
          · exact hm
        · rintro ⟨m, m1, m2⟩
          by_cases hex : ∃ m, m ≤ d ∧ Way g s x m y
          · exact .inl hex
          · exact .inr ⟨⟨m, m1, m2⟩, fun m' hm' hw => hex ⟨m', by omega, hw⟩⟩
      · simp only at hk ⊢
        rw [y3] at hk
        by_cases hyf : y ∈ bitsL f
        · rw [if_pos hyf] at hk
          have hk : (d : Int) = k := Option.some.inj hk
          subst hk
          obtain ⟨⟨m, m1, m2⟩, m3⟩ := (q2 y).1 (mem_bitsL.1 hyf)
          have : m = d := Classical.byContradiction fun hne => m3 m (by omega) m2
          subst this
          right
          refine ⟨by omega, by omega, by simpa using m2, fun m' hm' => ?_⟩
          rcases Nat.lt_or_ge m' m with hlt | hge
          · exact absurd hm' (m3 m' hlt)
          · omega
        · rw [if_neg hyf] at hk
          rcases q3 y k hk with ⟨rfl, hh⟩ | ⟨k0, k1, k2, k3⟩
          · left
            refine ⟨rfl, ?_⟩
            rcases hh with hh | hh
            · rw [bit_or, hh, Bool.false_or]
              cases hb : bit (v &&& s) y with
              | false => exact .inl rfl
              | true => exact .inr rfl
            · exact absurd (mem_bitsL.2 hh) hyf
          · right
            exact ⟨k0, by omega, k2, k3⟩
      · simp only
        rw [if_neg hf]
        by_cases hv : (v &&& s) = 0
        · rw [if_pos hv, hsame hv]; omega
        · rw [if_neg hv]
          have := hgrow hv
          omega) n (shlU 1 x, shlU 1 x, 0, List.replicate N (-1)) (by
      have hne : shlU 1 x ≠ 0 := fun e => by
        have := bit_one (k := x) (j := x) hx64
        rw [e, bit_zero] at this
        simp at this
      have hw0 : ∀ y, Way g s x 0 y ↔ y = x := fun y => ⟨fun hw => by cases hw; rfl, fun e => by subst e; exact .here⟩
      refine ⟨0, rfl, ?_, by simp, fun y => ?_, fun y => ?_, fun y k hk => ?_⟩
      · rw [if_neg hne, bitsL_cons hne]; simp
      · rw [bit_one hx64, decide_eq_true_eq]
        constructor
        · intro e; exact ⟨0, by omega, (hw0 y).2 e⟩
        · rintro ⟨m, m1, m2⟩
          obtain rfl : m = 0 := by omega
          exact (hw0 y).1 m2
      · rw [bit_one hx64, decide_eq_true_eq]
        constructor
        · intro e; exact ⟨⟨0, by omega, (hw0 y).2 e⟩, fun m hm => by omega⟩
        · rintro ⟨⟨m, m1, m2⟩, _⟩
          obtain rfl : m = 0 := by omega
          exact (hw0 y).1 m2
      · left
        rw [List.getElem?_replicate] at hk
        split at hk
        · cases hk
          refine ⟨rfl, ?_⟩
          cases bit (shlU 1 x) y with
          | false => exact .inl rfl
          | true => exact .inr rfl
        · cases hk) (by
      simp only
      split <;> omega)
  rw [e1]
  exact ⟨far, rfl, e2⟩
end Go.Proofs.YtplkfbljncfdnaaDoor
