/- Plain laws: numbers drawn, neighbours, the walk. No program in sight but the printed functions. -/
import Derived.Test.YtplkfbljncfdnaaDoorKGd
namespace Go.Proofs.YtplkfbljncfdnaaDoor
open Go

theorem i64of_small {u : UInt64} (h : u.toNat < 9223372036854775808) : i64of u = (u.toNat : Int) := by unfold i64of; rw [if_pos h]
theorem below_ok (n : Nat) (c : TChance) (k : Nat) (h1 : 1 ≤ k) (h2 : k ≤ 4294967296) (hn : 300 < n) : ∃ v c' e, chance_Below_p n c (k : Int) = some (v, c', e) ∧ (e = 0 ∧ 0 ≤ v ∧ v < k ∨ e = 9) := by
  unfold chance_Below_p
  rw [if_neg (by omega)]
  have hk : (u64of (k : Int)).toNat = k := by rw [u64of_nat]; exact UInt64.toNat_ofNat_of_lt' (show k < 2 ^ 64 by omega)
  have hk0 : u64of (k : Int) ≠ 0 := fun e => by rw [e] at hk; simp at hk; omega
  have hrem : ∀ x, ∃ v, remW x (u64of (k : Int)) = some v ∧ v.toNat < k := fun x => by
    refine ⟨x % u64of (k : Int), if_neg hk0, ?_⟩
    rw [UInt64.toNat_mod, hk]
    exact Nat.mod_lt _ (by omega)
  obtain ⟨s, s1, _⟩ := hrem (-(u64of (k : Int)))
  rw [s1]
  simp only [obind]
  obtain ⟨r, e1, e2⟩ := loop_ok (B := chance_Below_l1 n s (k : Int)) (fun q => 200 - q.1) (fun q => q.1 ≤ 200) (fun r => r = .inr () ∨ ∃ (v : Int) (c' : TChance), r = .inl (v, c', 0) ∧ 0 ≤ v ∧ v < k) (fun ⟨i, u⟩ J hi hJ => by
    simp only at hi hJ
    unfold chance_Below_l1
    simp only
    by_cases h : i < 200
    · rw [if_pos h]
      simp only [obind]
      have fin : ∀ (x : UInt64) (c' : TChance), ∃ r, ((remW x (u64of (k : Int))).bind fun s186 => some (Sum.inl (i64of s186, c', (0 : Int)) : (Int × TChance × Int) ⊕ Unit)) = some r ∧ (r = .inr () ∨ ∃ (v : Int) (c' : TChance), r = .inl (v, c', 0) ∧ 0 ≤ v ∧ v < k) := fun x c' => by
        obtain ⟨v, v1, v2⟩ := hrem x
        rw [v1]
        simp only [obind]
        refine ⟨_, rfl, .inr ⟨_, _, rfl, ?_, ?_⟩⟩ <;> rw [i64of_small (by omega)] <;> omega
      split
      · exact fin _ _
      · split
        · exact fin _ _
        · exact hJ _ (by simp only; omega) (by simp only; omega)
    · rw [if_neg h]; exact ⟨_, rfl, .inl rfl⟩) n (0, c.fState) (by simp) (by simp only; omega)
  rw [e1]
  rcases e2 with rfl | ⟨v, c', rfl, h3, h4⟩
  · exact ⟨_, _, _, rfl, .inr rfl⟩
  · exact ⟨_, _, _, rfl, .inl ⟨rfl, h3, h4⟩⟩
/-- The neighbours of a node, as the walk finds them. -/
theorem beside_ok (n : Nat) (g : TGraph) (h : Valid g) (hn : 300 < n) (a : Nat) : ∃ u, loopF (wilson_Walk_l2 n g (a : Int)) n ((0 : UInt64), 0) = some u ∧ ∀ b, bit u b = true ↔ Adj g a b := by
  have hlen := h.len; have h64 := h.n64
  refine loop_ok (B := wilson_Walk_l2 n g (a : Int)) (fun s => g.fEdges.length - s.2) (fun (u, i) => i ≤ g.fEdges.length ∧ ∀ b, bit u b = true ↔ (((a : Int), (b : Int)) ∈ g.fEdges.take i ∨ ((b : Int), (a : Int)) ∈ g.fEdges.take i)) (fun u => ∀ b, bit u b = true ↔ Adj g a b) (fun ⟨u, i⟩ J ⟨q1, q2⟩ hJ => ?_) n (0, 0) ⟨by simp, fun b => by simp [bit_zero]⟩ (by simp only; omega)
  simp only at q1 q2 hJ
  unfold wilson_Walk_l2
  simp only
  by_cases hi : i < g.fEdges.length
  · rw [if_pos hi, List.getElem?_eq_getElem hi]
    simp only [obind]
    generalize he : g.fEdges[i] = e
    have hmem : e ∈ g.fEdges := he ▸ List.getElem_mem hi
    obtain ⟨o1, o2, o3⟩ := h.ok e hmem
    have htake : g.fEdges.take (i + 1) = g.fEdges.take i ++ [e] := by rw [List.take_succ_eq_append_getElem hi, he]
    by_cases c1 : e.1 = (a : Int)
    · rw [if_pos c1, chk_ok (by omega)]
      simp only [obind]
      rw [chk_ok (by omega)]
      simp only [obind]
      rw [natOf_ok (by omega)]
      simp only [obind]
      refine hJ _ ⟨by simp only; omega, fun b => ?_⟩ (by simp only; omega)
      simp only
      rw [bit_or, bit_one (by omega), Bool.or_eq_true, decide_eq_true_eq, q2, htake, List.mem_append, List.mem_append, List.mem_singleton, List.mem_singleton]
      constructor
      · rintro ((k | k) | k)
        · exact .inl (.inl k)
        · exact .inr (.inl k)
        · left; right; apply Prod.ext <;> simp only <;> omega
      · rintro ((k | k) | (k | k))
        · exact .inl (.inl k)
        · right; have := congrArg Prod.snd k; simp only at this; omega
        · exact .inl (.inr k)
        · exfalso; have := congrArg Prod.snd k; simp only at this; omega
    · rw [if_neg c1]
      simp only [jn]
      by_cases c2 : e.2 = (a : Int)
      · rw [if_pos c2, chk_ok (by omega)]
        simp only [obind]
        rw [chk_ok (by omega)]
        simp only [obind]
        rw [natOf_ok (by omega)]
        simp only [obind]
        refine hJ _ ⟨by simp only; omega, fun b => ?_⟩ (by simp only; omega)
        simp only
        rw [bit_or, bit_one (by omega), Bool.or_eq_true, decide_eq_true_eq, q2, htake, List.mem_append, List.mem_append, List.mem_singleton, List.mem_singleton]
        constructor
        · rintro ((k | k) | k)
          · exact .inl (.inl k)
          · exact .inr (.inl k)
          · right; right; apply Prod.ext <;> simp only <;> omega
        · rintro ((k | k) | (k | k))
          · exact .inl (.inl k)
          · exfalso; have := congrArg Prod.fst k; simp only at this; omega
          · exact .inl (.inr k)
          · right; have := congrArg Prod.fst k; simp only at this; omega
      · rw [if_neg c2]
        refine hJ _ ⟨by simp only; omega, fun b => ?_⟩ (by simp only; omega)
        simp only
        rw [q2, htake, List.mem_append, List.mem_append, List.mem_singleton, List.mem_singleton]
        constructor
        · rintro (k | k)
          · exact .inl (.inl k)
          · exact .inr (.inl k)
        · rintro ((k | k) | (k | k))
          · exact .inl k
          · exfalso; have := congrArg Prod.fst k; simp only at this; omega
          · exact .inr k
          · exfalso; have := congrArg Prod.snd k; simp only at this; omega
  · rw [if_neg hi]
    refine ⟨_, rfl, fun b => ?_⟩
    rw [q2, List.take_of_length_le (by omega)]
    rfl
theorem collect_ok (n : Nat) (u : UInt64) (hn : 300 < n) : loopF (wilson_Walk_l1 n) n (u, ([] : List Int)) = some ((bitsL u).map fun k : Nat => (k : Int)) := by
  have hloop := bits_loop (B := wilson_Walk_l1 n) (fun s => s) (fun t (xs : List Int) => app xs ([((t : Nat) : Int)] : List Int)) (fun J u s => by
    unfold wilson_Walk_l1
    simp only
    by_cases h0 : u = 0
    · rw [if_pos h0, if_pos h0]
    · rw [if_neg h0, if_neg h0, tz_eq n h0]
      rfl) (bitsL u).length n u [] (Nat.le_refl _) (by have := bitsL_len u; omega)
  rw [hloop]
  have key : ∀ (ts : List Nat) (xs : List Int), xs.length + ts.length ≤ 64 → (ts.foldlM (fun xs t => app xs ([((t : Nat) : Int)] : List Int)) xs : Option (List Int)) = some (xs ++ ts.map fun k : Nat => (k : Int)) := by
    intro ts
    induction ts with
    | nil => intro xs _; simp
    | cons t ts ih =>
      intro xs h
      simp only [List.length_cons] at h
      rw [List.foldlM_cons, app_ok (by simp only [List.length_singleton]; omega)]
      have := ih (xs ++ [(t : Int)]) (by simp only [List.length_append, List.length_singleton]; omega)
      simp only [Option.bind_eq_bind, Option.bind_some]
      rw [this]
      simp
  rw [key (bitsL u) [] (by have := bitsL_len u; simpa using this)]
  simp
/-- A walk: along edges of the set; the second set is met at its end alone. -/
structure Walked (g : TGraph) (s v : UInt64) (x : Nat) (w : List Nat) : Prop where
  first : w[0]? = some x
  inside : ∀ y ∈ w, bit s y = true
  steps : ∀ (i : Nat) a b, w[i]? = some a → w[i + 1]? = some b → Adj g a b
  away : ∀ (i : Nat) a, w[i]? = some a → i + 1 < w.length → bit v a = false
theorem Walked.way {g : TGraph} {s v : UInt64} {x : Nat} {w : List Nat} (h : Walked g s v x w) : ∀ (i y : Nat), w[i]? = some y → Way g s x i y
  | 0, y, hy => by
    have := h.first
    rw [hy] at this
    cases this
    exact .here
  | i + 1, y, hy => by
    have hi : i < w.length := by have := (List.getElem?_eq_some_iff.1 hy).1; omega
    exact .on (h.way i w[i] (List.getElem?_eq_getElem hi)) (h.steps i _ y (List.getElem?_eq_getElem hi) hy) (h.inside y (List.mem_of_getElem? hy))
theorem Way.back {g : TGraph} {s : UInt64} {x m y : Nat} (hx : bit s x = true) (h : Way g s x m y) : Way g s y m x := by
  have app : ∀ {a b c : Nat} {k j : Nat}, Way g s a k b → Way g s b j c → Way g s a (k + j) c := by
    intro a b c k j h1 h2
    induction h2 with
    | here => exact h1
    | on _ k2 hb ih => exact .on ih k2 hb
  induction h with
  | here => exact .here
  | on hw k hb ih =>
    rename_i m a b
    have h1 : Way g s b 1 a := .on .here k.symm (hw.inside hx)
    have := app h1 ih
    rwa [Nat.add_comm] at this
theorem Way.far {g : TGraph} {s : UInt64} {a b m : Nat} (h : Way g s a m b) (hne : a ≠ b) : ∃ c, Adj g a c ∧ bit s c = true := by
  induction h with
  | here => exact absurd rfl hne
  | on hw k hb ih =>
    rename_i m' a' b'
    by_cases e : a = a'
    · subst e; exact ⟨_, k, hb⟩
    · exact ih e
theorem Way.add {g : TGraph} {s : UInt64} {a b c k j : Nat} (h1 : Way g s a k b) (h2 : Way g s b j c) : Way g s a (k + j) c := by
  induction h2 with
  | here => exact h1
  | on _ k2 hb ih => exact .on ih k2 hb
/-- What the walking loop gives. -/
theorem walking_ok (n : Nat) (g : TGraph) (h : Valid g) (hn : 10010 < n) (s v : UInt64) (x : Nat) (c : UInt64) (left : Nat) (hleft : left ≤ 10000) (hs : Fits g.fN s) (hx : bit s x = true) (y m : Nat) (hy : bit v y = true) (hm : Way g s x m y) :
    ∃ r, loopF (wilson_Walk_l3 n v g s) n ((x : Int), [(x : Int)], c, (left : Int)) = some r ∧ (r = .inl ([], ⟨0⟩, 9) ∨ ∃ (w : List Nat) (c' : UInt64) (z : Nat), r = .inr (w.map (fun k : Nat => (k : Int)), c') ∧ Walked g s v x w ∧ w.length ≤ left + 1 ∧ w[w.length - 1]? = some z ∧ bit v z = true ∧ (bit v x = true → c' = c)) := by
  have h64 := h.n64
  obtain ⟨r, e1, e2⟩ := loop_ok (B := wilson_Walk_l3 n v g s) (fun (_, _, _, l) => l.toNat) (fun (z, xs, c0, l) => ∃ (k : Nat) (w : List Nat) (q : Nat), z = (k : Int) ∧ xs = w.map (fun k : Nat => (k : Int)) ∧ l = (q : Int) ∧ w.length + q = left + 1 ∧ 0 < w.length ∧ w[w.length - 1]? = some k ∧ Walked g s v x w ∧ (w.length = 1 → c0 = c))
    (fun r => r = .inl ([], ⟨0⟩, 9) ∨ ∃ (w : List Nat) (c' : UInt64) (z : Nat), r = .inr (w.map (fun k : Nat => (k : Int)), c') ∧ Walked g s v x w ∧ w.length ≤ left + 1 ∧ w[w.length - 1]? = some z ∧ bit v z = true ∧ (bit v x = true → c' = c)) (fun ⟨z, xs, c0, l⟩ J hI hJ => by
    simp only at hI hJ
    obtain ⟨k, w, q, rfl, rfl, rfl, hl, hpos, hlast, hw, hc⟩ := hI
    unfold wilson_Walk_l3
    simp only
    rw [natOf_ok (by omega), Int.toNat_natCast]
    simp only [obind]
    by_cases hv : bit v k = true
    · rw [if_pos ((has_iff v k).2 hv)]
      refine ⟨_, rfl, .inr ⟨w, c0, k, rfl, hw, by omega, hlast, hv, fun hx' => hc ?_⟩⟩
      apply Classical.byContradiction
      intro hne
      have := hw.away 0 x hw.first (by omega)
      rw [hx'] at this; cases this
    · rw [if_neg (fun e => hv ((has_iff v k).1 e))]
      by_cases hq : q = 0
      · subst hq; rw [if_pos (by omega)]; exact ⟨_, rfl, .inl rfl⟩
      · rw [if_neg (by omega), chk_ok (by omega)]
        simp only [obind]
        obtain ⟨u, u1, u2⟩ := beside_ok n g h (by omega) k
        rw [u1]
        simp only [obind]
        rw [collect_ok n _ (by omega)]
        simp only [obind]
        have hkw : Way g s x (w.length - 1) k := hw.way _ k hlast
        have hk : bit s k = true := hkw.inside hx
        obtain ⟨b, b1, b2⟩ := ((hkw.back hx).add hm).far (fun e => hv (e ▸ hy))
        have hbm : b ∈ bitsL (u &&& s) := mem_bitsL.2 (by rw [bit_and, (u2 b).2 b1, b2]; rfl)
        have hlen := bitsL_len (u &&& s)
        have hne : 1 ≤ (bitsL (u &&& s)).length := by
          rcases Nat.eq_zero_or_pos (bitsL (u &&& s)).length with h0 | h0
          · rw [List.length_eq_zero_iff.1 h0] at hbm; cases hbm
          · exact h0
        obtain ⟨vv, c', e, e1, e2⟩ := below_ok n ⟨c0⟩ (bitsL (u &&& s)).length hne (by omega) (by omega)
        rw [List.length_map, e1]
        simp only [obind]
        rcases e2 with ⟨rfl, e2, e3⟩ | rfl
        · rw [if_pos rfl]
          have hvl : vv.toNat < (bitsL (u &&& s)).length := by omega
          rw [idx_ok e2 (by rw [List.length_map]; omega)]
          simp only [obind]
          rw [List.getElem_map]
          generalize hb' : (bitsL (u &&& s))[vv.toNat] = b'
          have hb'm : b' ∈ bitsL (u &&& s) := hb' ▸ List.getElem_mem hvl
          have hb'b := mem_bitsL.1 hb'm
          rw [bit_and, Bool.and_eq_true, u2] at hb'b
          rw [app_ok (by simp only [List.length_map, List.length_singleton]; omega)]
          simp only [obind]
          refine hJ _ ⟨b', w ++ [b'], q - 1, rfl, by simp, show ((q : Int) - 1) = ((q - 1 : Nat) : Int) by omega, by simp only [List.length_append, List.length_singleton]; omega, by simp, by simp, ⟨?_, ?_, ?_, ?_⟩, fun h1 => ?_⟩ (by simp only; omega)
          · rw [List.getElem?_append_left hpos]; exact hw.first
          · intro y' hy'
            rcases List.mem_append.1 hy' with hy' | hy'
            · exact hw.inside y' hy'
            · rcases List.mem_singleton.1 hy' with rfl; exact hb'b.2
          · intro i a b'' ha hb''
            by_cases hi : i + 1 < w.length
            · rw [List.getElem?_append_left (by omega)] at ha
              rw [List.getElem?_append_left hi] at hb''
              exact hw.steps i a b'' ha hb''
            · have hil : i + 1 = w.length := by
                have := (List.getElem?_eq_some_iff.1 hb'').1
                simp only [List.length_append, List.length_singleton] at this
                omega
              rw [List.getElem?_append_left (by omega)] at ha
              rw [List.getElem?_append_right (by omega), hil, Nat.sub_self] at hb''
              have h1 : i = w.length - 1 := by omega
              rw [h1, hlast] at ha
              cases ha; cases hb''
              exact hb'b.1
          · intro i a ha hi
            simp only [List.length_append, List.length_singleton] at hi
            rw [List.getElem?_append_left (by omega)] at ha
            by_cases hi2 : i + 1 < w.length
            · exact hw.away i a ha hi2
            · have h1 : i = w.length - 1 := by omega
              rw [h1, hlast] at ha
              cases ha
              cases hb : bit v k with
              | false => rfl
              | true => exact absurd hb hv
          · simp only [List.length_append, List.length_singleton] at h1; omega
        · rw [if_neg (by omega)]
          exact ⟨_, rfl, .inl rfl⟩) n ((x : Int), [(x : Int)], c, (left : Int)) ⟨x, [x], left, rfl, rfl, rfl, by simp; omega, by simp, by simp, ⟨by simp, fun y hy => by simp at hy; subst hy; exact hx, fun i a b ha hb => by
        have := (List.getElem?_eq_some_iff.1 hb).1; simp at this, fun i a ha hi => by simp at hi⟩, fun _ => rfl⟩ (by simp only; omega)
  exact ⟨r, e1, e2⟩
/-- Is the second set reached? -/
def Reached (g : TGraph) (s v : UInt64) (x : Nat) : Prop := ∃ m y, Way g s x m y ∧ bit v y = true
theorem reached_ok (n : Nat) (g : TGraph) (s v : UInt64) (x : Nat) (far : List Int) (e : Int) (hd : Dist g s x far) (hl : far.length ≤ 64) (hn : 300 < n) : ∃ q, loopF (wilson_Walk_l4 n (far, e) v) n (false, 0) = some q ∧ (q = true ↔ Reached g s v x) := by
  refine loop_ok (B := wilson_Walk_l4 n (far, e) v) (fun s => far.length - s.2) (fun (q, i) => i ≤ far.length ∧ (q = true ↔ ∃ j d, j < i ∧ far[j]? = some d ∧ 0 ≤ d ∧ bit v j = true)) (fun q => q = true ↔ Reached g s v x) (fun ⟨q, i⟩ J ⟨q1, q2⟩ hJ => ?_) n (false, 0) ⟨by simp, by simp⟩ (by simp only; omega)
  simp only at q1 q2 hJ
  unfold wilson_Walk_l4
  simp only
  by_cases hi : i < far.length
  · rw [if_pos hi, List.getElem?_eq_getElem hi]
    simp only [obind]
    have split : (∃ j d, j < i + 1 ∧ far[j]? = some d ∧ 0 ≤ d ∧ bit v j = true) ↔ (∃ j d, j < i ∧ far[j]? = some d ∧ 0 ≤ d ∧ bit v j = true) ∨ (0 ≤ far[i] ∧ bit v i = true) := by
      constructor
      · rintro ⟨j, d, h1, h2, h3, h4⟩
        by_cases hj : j = i
        · subst hj; rw [List.getElem?_eq_getElem hi] at h2; cases h2; exact .inr ⟨h3, h4⟩
        · exact .inl ⟨j, d, by omega, h2, h3, h4⟩
      · rintro (⟨j, d, h1, h2, h3, h4⟩ | ⟨h1, h2⟩)
        · exact ⟨j, d, by omega, h2, h3, h4⟩
        · exact ⟨i, far[i], by omega, List.getElem?_eq_getElem hi, h1, h2⟩
    cases q with
    | true =>
      rw [if_pos rfl]
      exact hJ _ ⟨by simp only; omega, by simp only; rw [split]; exact ⟨fun _ => .inl (q2.1 rfl), fun _ => trivial⟩⟩ (by simp only; omega)
    | false =>
      rw [if_neg (by simp)]
      have hno : ¬ ∃ j d, j < i ∧ far[j]? = some d ∧ 0 ≤ d ∧ bit v j = true := fun h => by have := q2.2 h; cases this
      by_cases h0 : 0 ≤ far[i]
      · rw [if_pos h0]
        refine hJ _ ⟨by simp only; omega, ?_⟩ (by simp only; omega)
        simp only
        rw [split, decide_eq_true_eq, has_iff]
        constructor
        · intro h; exact .inr ⟨h0, h⟩
        · rintro (h | h)
          · exact absurd h hno
          · exact h.2
      · rw [if_neg h0]
        refine hJ _ ⟨by simp only; omega, ?_⟩ (by simp only; omega)
        simp only
        rw [split]
        constructor
        · intro h; cases h
        · rintro (h | h)
          · exact absurd h hno
          · exact absurd h.1 h0
  · rw [if_neg hi]
    refine ⟨_, rfl, ?_⟩
    rw [q2]
    constructor
    · rintro ⟨j, d, _, h2, h3, h4⟩
      exact ⟨_, j, hd.ways j d h2 h3, h4⟩
    · rintro ⟨m, y, hw, hy⟩
      obtain ⟨d, d1, d2, _⟩ := hd.least y m hw
      have := (List.getElem?_eq_some_iff.1 d1).1
      exact ⟨y, d, by omega, d1, d2, hy⟩
/-- The walk of the program. -/
theorem walking_here (n : Nat) (g : TGraph) (s v : UInt64) (x : Nat) (c : UInt64) (l : Int) (hn : 0 < n) (hv : bit v x = true) : loopF (wilson_Walk_l3 n v g s) n ((x : Int), [(x : Int)], c, l) = some (.inr ([(x : Int)], c)) := by
  obtain ⟨k, rfl⟩ : ∃ k, n = k + 1 := ⟨n - 1, by omega⟩
  rw [loopF_succ]
  generalize loopF (wilson_Walk_l3 (k + 1) v g s) k = J
  unfold wilson_Walk_l3
  simp only
  rw [natOf_ok (by omega), Int.toNat_natCast]
  simp only [obind]
  rw [if_pos ((has_iff v x).2 hv)]
theorem walk_ok (n : Nat) (g : TGraph) (h : Valid g) (hn : 10010 < n) (s v : UInt64) (x : Nat) (c : TChance) (hs : Fits g.fN s) (hv : Fits g.fN v) (hxN : (x : Int) < g.fN) :
    ∃ r, wilson_Walk_p n g s (x : Int) v c = some r ∧ ((bit s x = false ∧ r = ([], ⟨0⟩, 2) ∨ bit s x = true ∧ (¬ Reached g s v x ∧ r = ([], ⟨0⟩, 4) ∨ Reached g s v x ∧ (r = ([], ⟨0⟩, 9) ∨
      ∃ (w : List Nat) (c' : TChance) (z : Nat), r = (w.map (fun k : Nat => (k : Int)), c', 0) ∧ Walked g s v x w ∧ w.length ≤ 10001 ∧ w[w.length - 1]? = some z ∧ bit v z = true)))) ∧ (bit s x = true → bit v x = true → r = ([(x : Int)], c, 0)) := by
  have h1 := h.n1; have h64 := h.n64
  unfold wilson_Walk_p
  rw [h.check (by omega)]
  simp only [obind]
  rw [ifT]
  obtain ⟨b1, f1, f2⟩ := fits_p n g s (by omega)
  obtain ⟨b2, f3, f4⟩ := fits_p n g v (by omega)
  have : b1 = true := f2.2 hs
  subst this
  have : b2 = true := f4.2 hv
  subst this
  simp only [jn]
  rw [f1]
  simp only [obind]
  rw [ifT, f3]
  simp only [obind]
  rw [ifT, if_neg (by omega), if_neg (by omega), natOf_ok (by omega), Int.toNat_natCast]
  simp only [obind]
  by_cases hx : bit s x = true
  · have hnx : ¬ (shrU s x &&& 1 = 0) := fun e => by rw [(hasnt_iff s x).1 e] at hx; cases hx
    rw [decide_eq_false hnx, if_neg (by simp)]
    obtain ⟨far, d1, d2⟩ := distances_ok n g h (by omega) s x hs hx
    rw [d1]
    simp only [obind]
    obtain ⟨q, r1, r2⟩ := reached_ok n g s v x far 0 d2 (by have := d2.len; omega) (by omega)
    rw [r1]
    simp only [obind]
    by_cases hr : Reached g s v x
    · rw [if_pos (r2.2 hr)]
      obtain ⟨m, y, hw, hy⟩ := hr
      obtain ⟨r, e1, e2⟩ := walking_ok n g h hn s v x c.fState 10000 (by omega) hs hx y m hy hw
      rw [show ((10000 : Nat) : Int) = 10000 from rfl] at e1
      rw [e1]
      have here : bit v x = true → r = .inr ([(x : Int)], c.fState) := fun hv' => by
        have := walking_here n g s v x c.fState 10000 (by omega) hv'
        rw [e1] at this
        exact Option.some.inj this
      rcases e2 with rfl | ⟨w, c', z, rfl, w1, w2, w3, w4, _⟩
      · exact ⟨_, rfl, .inr ⟨hx, .inr ⟨⟨m, y, hw, hy⟩, .inl rfl⟩⟩, fun _ hv' => by have := here hv'; cases this⟩
      · refine ⟨_, rfl, .inr ⟨hx, .inr ⟨⟨m, y, hw, hy⟩, .inr ⟨w, ⟨c'⟩, z, rfl, w1, w2, w3, w4⟩⟩⟩, fun _ hv' => ?_⟩
        have := Sum.inr.inj (here hv')
        rw [(Prod.mk.inj this).1, (Prod.mk.inj this).2]
    · rw [if_neg (fun e => hr (r2.1 e))]
      exact ⟨_, rfl, .inr ⟨hx, .inl ⟨hr, rfl⟩⟩, fun _ hv' => absurd ⟨0, x, .here, hv'⟩ hr⟩
  · have hx' : bit s x = false := by cases hb : bit s x with
      | false => rfl
      | true => exact absurd hb hx
    rw [decide_eq_true ((hasnt_iff s x).2 hx'), ifTT]
    exact ⟨_, rfl, .inl ⟨hx', rfl⟩, fun h => absurd h hx⟩
end Go.Proofs.YtplkfbljncfdnaaDoor
