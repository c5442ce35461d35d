/- Plain laws: the parts of a set. No program in sight but the printed functions. -/
import Derived.Test.YtplkfbljncfdnaaDoorKGw
namespace Go.Proofs.YtplkfbljncfdnaaDoor
open Go

/-- One round: what is next to a part joins it. -/
theorem round_ok (n : Nat) (g : TGraph) (s : UInt64) (l : List UInt64) (hl : (l.length : Int) = g.fN) (hadj : ∀ (a : Nat) u, l[a]? = some u → ∀ b, bit u b = true ↔ Adj g a b) (hn : 300 < n) (p : UInt64) (hp : Fits g.fN p) :
    ∃ q, loopF (graph_components_l1 n l s) n (p, p) = some q ∧ ∀ b, bit q b = true ↔ bit p b = true ∨ ∃ a, bit p a = true ∧ Adj g a b ∧ bit s b = true := by
  have hloop := bits_loop (B := graph_components_l1 n l s) (fun s => s) (fun t (acc : UInt64) => (idx l ((t : Nat) : Int)).bind fun x => some (acc ||| (x &&& s))) (fun J u acc => by
    unfold graph_components_l1
    simp only
    by_cases h0 : u = 0
    · rw [if_pos h0, if_pos h0]
    · rw [if_neg h0, if_neg h0, tz_eq n h0]
      simp only [obind]
      cases idx l ((low u : Nat) : Int) <;> rfl) (bitsL p).length n p p (Nat.le_refl _) (by have := bitsL_len p; omega)
  rw [hloop]
  have key : ∀ (ts : List Nat) (acc : UInt64), (∀ t ∈ ts, (t : Int) < g.fN) → ∃ v, (ts.foldlM (fun acc t => (idx l ((t : Nat) : Int)).bind fun x => some (acc ||| (x &&& s))) acc : Option UInt64) = some v ∧ ∀ b, bit v b = true ↔ bit acc b = true ∨ ∃ a ∈ ts, Adj g a b ∧ bit s b = true := by
    intro ts
    induction ts with
    | nil => intro acc _; exact ⟨acc, rfl, fun b => by simp⟩
    | cons t ts ih =>
      intro acc hs
      have ht := hs t (by simp)
      rw [List.foldlM_cons, idx_nat, List.getElem?_eq_getElem (by omega)]
      obtain ⟨v, v1, v2⟩ := ih (acc ||| (l[t]'(by omega) &&& s)) (fun x hx => hs x (by simp [hx]))
      refine ⟨v, v1, fun b => ?_⟩
      rw [v2, bit_or, Bool.or_eq_true, bit_and, Bool.and_eq_true, hadj t _ (List.getElem?_eq_getElem (by omega)) b]
      constructor
      · rintro ((k | k) | ⟨a, k1, k2⟩)
        · exact .inl k
        · exact .inr ⟨t, by simp, k⟩
        · exact .inr ⟨a, by simp [k1], k2⟩
      · rintro (k | ⟨a, k1, k2⟩)
        · exact .inl (.inl k)
        · rcases List.mem_cons.1 k1 with rfl | k1
          · exact .inl (.inr k2)
          · exact .inr ⟨a, k1, k2⟩
  obtain ⟨v, v1, v2⟩ := key (bitsL p) p (fun t ht => hp t (mem_bitsL.1 ht))
  rw [v1]
  refine ⟨v, rfl, fun b => ?_⟩
  rw [v2]
  simp only [mem_bitsL]
/-- A part of the set: whatever can be reached. -/
theorem part_ok (n : Nat) (g : TGraph) (s : UInt64) (l : List UInt64) (hl : (l.length : Int) = g.fN) (hadj : ∀ (a : Nat) u, l[a]? = some u → ∀ b, bit u b = true ↔ Adj g a b) (hn : 300 < n) (hs : Fits g.fN s) (x : Nat) (hx : bit s x = true) :
    ∃ p, loopF (graph_components_l2 n l s) n (shlU 1 x) = some p ∧ ∀ b, bit p b = true ↔ ∃ m, Way g s x m b := by
  have hx64 := bit_lt hx
  refine loop_ok (B := graph_components_l2 n l s) (fun p => 64 - (bitsL p).length) (fun p => bit p x = true ∧ ∀ b, bit p b = true → ∃ m, Way g s x m b) (fun p => ∀ b, bit p b = true ↔ ∃ m, Way g s x m b) (fun p J ⟨q1, q2⟩ hJ => ?_) n (shlU 1 x) ⟨by rw [bit_one hx64]; simp, fun b hb => by
    rw [bit_one hx64, decide_eq_true_eq] at hb
    subst hb
    exact ⟨0, .here⟩⟩ (by omega)
  have hin : ∀ b, bit p b = true → bit s b = true := fun b hb => by obtain ⟨m, hm⟩ := q2 b hb; exact hm.inside hx
  unfold graph_components_l2
  simp only
  obtain ⟨q, e1, e2⟩ := round_ok n g s l hl hadj hn p (fun k hk => hs k (hin k hk))
  rw [e1]
  simp only [obind]
  by_cases he : q = p
  · rw [if_pos he]
    refine ⟨p, rfl, fun b => ⟨q2 b, ?_⟩⟩
    rintro ⟨m, hm⟩
    induction hm with
    | here => exact q1
    | on hw k hb ih => rw [← he, e2]; exact .inr ⟨_, ih, k, hb⟩
  · rw [if_neg he]
    have hsub : ∀ k, bit p k = true → bit q k = true := fun k hk => (e2 k).2 (.inl hk)
    refine hJ q ⟨hsub x q1, fun b hb => ?_⟩ ?_
    · rcases (e2 b).1 hb with h | ⟨a, a1, a2, a3⟩
      · exact q2 b h
      · obtain ⟨m, hm⟩ := q2 a a1
        exact ⟨m + 1, .on hm a2 a3⟩
    · have hne : ∃ k, bit q k = true ∧ bit p k = false := by
        apply Classical.byContradiction
        intro hno
        apply he
        apply bit_ext
        intro k
        cases hq : bit q k with
        | false =>
          cases hp : bit p k with
          | false => rfl
          | true => rw [hsub k hp] at hq; cases hq
        | true =>
          cases hp : bit p k with
          | true => rfl
          | false => exact absurd ⟨k, hq, hp⟩ hno
      have := bitsL_sub hsub hne
      have := bitsL_len q
      omega
theorem and_neg_one {u : UInt64} (h : u ≠ 0) : u &&& (-u) = shlU 1 (low u) := and_neg64 h
theorem components_ok (n : Nat) (g : TGraph) (h : Valid g) (hn : 300 < n) (s : UInt64) (hs : Fits g.fN s) : ∃ l, graph_components_p n g s = some l ∧ (l.length = 1 ↔ s ≠ 0 ∧ ∀ b, bit s b = true → ∃ m, Way g s (low s) m b) := by
  unfold graph_components_p
  obtain ⟨a, a1, a2, a3⟩ := around_ok n g h hn
  rw [a1]
  simp only [obind]
  obtain ⟨r, e1, e2⟩ := loop_ok (B := graph_components_l3 n a s) (fun (u, _) => (bitsL u).length) (fun (u, l) => (∀ b, bit u b = true → bit s b = true) ∧ l.length + (bitsL u).length ≤ 64 ∧ (l.length = 0 → u = s) ∧ (l.length = 1 → s ≠ 0 ∧ ∀ b, bit s b = true → bit u b = false → ∃ m, Way g s (low s) m b) ∧ ((s ≠ 0 ∧ ∀ b, bit s b = true → ∃ m, Way g s (low s) m b) → l.length = 0 ∨ l.length = 1 ∧ u = 0))
    (fun l => l.length = 1 ↔ s ≠ 0 ∧ ∀ b, bit s b = true → ∃ m, Way g s (low s) m b) (fun ⟨u, l⟩ J ⟨q1, q2, q3, q4, q5⟩ hJ => by
    simp only at q1 q2 q3 q4 q5 hJ
    unfold graph_components_l3
    simp only
    by_cases hu : u = 0
    · rw [if_pos hu]
      refine ⟨l, rfl, fun hl => ⟨(q4 hl).1, fun b hb => (q4 hl).2 b hb (by rw [hu, bit_zero])⟩, fun hc => ?_⟩
      rcases q5 hc with h0 | ⟨h1, _⟩
      · have := q3 h0
        exact absurd (this.symm.trans hu) hc.1
      · exact h1
    · rw [if_neg hu, and_neg64 hu]
      have hlow := low_bit hu
      obtain ⟨p, p1, p2⟩ := part_ok n g s a a2 a3 hn hs (low u) (q1 _ hlow)
      rw [p1]
      simp only [obind]
      have hpl : bit p (low u) = true := (p2 _).2 ⟨0, .here⟩
      have hsub : ∀ k, bit (u &&& ~~~p) k = true → bit u k = true := fun k hk => by rw [bit_andNot, Bool.and_eq_true] at hk; exact hk.1
      have hlt := bitsL_sub hsub ⟨low u, hlow, by rw [bit_andNot, hpl]; simp⟩
      rw [app_ok (by simp only [List.length_singleton]; omega)]
      simp only [obind]
      refine hJ _ ⟨fun b hb => q1 b (hsub b hb), by simp only [List.length_append, List.length_singleton]; omega, fun h0 => by simp at h0, fun h1 => ?_, fun hc => ?_⟩ (by simp only; exact hlt)
      · simp only [List.length_append, List.length_singleton] at h1
        have hus := q3 (by omega)
        subst hus
        refine ⟨hu, fun b hb hb2 => ?_⟩
        rw [bit_andNot, hb] at hb2
        exact (p2 b).1 (by simpa using hb2)
      · rcases q5 hc with h0 | ⟨_, h1⟩
        · right
          have hus := q3 h0
          subst hus
          refine ⟨by simp only [List.length_append, List.length_singleton]; omega, ?_⟩
          simp only
          apply bit_ext
          intro k
          rw [bit_andNot, bit_zero]
          cases hk : bit u k with
          | false => rfl
          | true => rw [(p2 k).2 (hc.2 k hk)]; rfl
        · exact absurd h1 hu) n (s, []) ⟨fun b hb => hb, by simpa using bitsL_len s, fun _ => rfl, fun h => by simp at h, fun _ => .inl rfl⟩ (by simp only; have := bitsL_len s; omega)
  rw [e1]
  exact ⟨r, rfl, e2⟩
/-- The set is connected. -/
def Joined (g : TGraph) (s : UInt64) : Prop := s ≠ 0 ∧ ∀ b, bit s b = true → ∃ m, Way g s (low s) m b
theorem connected_ok (n : Nat) (g : TGraph) (h : Valid g) (hn : 300 < n) (s : UInt64) (hs : Fits g.fN s) : ∃ b, graph_Connected_p n g s = some (b, 0) ∧ (b = true ↔ Joined g s) := by
  unfold graph_Connected_p
  obtain ⟨r, c1, c2⟩ := h.check2 hn s
  have c3 : r = 0 := by rcases c2 with ⟨h, _⟩ | ⟨_, h⟩; exact h; exact absurd hs h
  subst c3
  rw [c1]
  simp only [obind]
  rw [ifT]
  obtain ⟨l, l1, l2⟩ := components_ok n g h hn s hs
  rw [l1]
  simp only [obind]
  exact ⟨_, rfl, by rw [decide_eq_true_eq]; exact l2⟩
theorem Joined.way {g : TGraph} {s : UInt64} (h : Joined g s) {a b : Nat} (ha : bit s a = true) (hb : bit s b = true) : ∃ m, Way g s a m b := by
  obtain ⟨m1, h1⟩ := h.2 a ha
  obtain ⟨m2, h2⟩ := h.2 b hb
  exact ⟨m1 + m2, (h1.back (low_bit h.1)).add h2⟩
end Go.Proofs.YtplkfbljncfdnaaDoor
