/- Plain laws: a drawn list is a spanning tree. No program in sight but the printed functions. -/
import Derived.Test.YtplkfbljncfdnaaDoorTGz
import Derived.Test.YtplkfbljncfdnaaDoorTGy
namespace Go.Proofs.YtplkfbljncfdnaaDoor
open Go

/-- Reached by edges of a list alone. -/
inductive TWay (g : TGraph) (tree : List Int) (x : Nat) : Nat → Prop
  | here : TWay g tree x x
  | on {a b : Nat} {e : Int} (h : TWay g tree x a) (he : e ∈ tree) (hk : g.fEdges[e.toNat]? = some ((a : Int), (b : Int)) ∨ g.fEdges[e.toNat]? = some ((b : Int), (a : Int))) : TWay g tree x b
theorem TWay.mono {g : TGraph} {t t' : List Int} {x y : Nat} (h : TWay g t x y) (hs : ∀ e ∈ t, e ∈ t') : TWay g t' x y := by
  induction h with
  | here => exact .here
  | on _ he hk ih => exact .on ih (hs _ he) hk
theorem TWay.add {g : TGraph} {t : List Int} {x y z : Nat} (h : TWay g t x y) (k : TWay g t y z) : TWay g t x z := by
  induction k with
  | here => exact h
  | on _ he hk ih => exact .on ih he hk
theorem TWay.back {g : TGraph} {t : List Int} {x y : Nat} (h : TWay g t x y) : TWay g t y x := by
  induction h with
  | here => exact .here
  | on _ he hk ih => exact (TWay.on .here he hk.symm).add ih
/-- The tree so far: its edges join the nodes so far, and are one fewer. -/
structure Tree (g : TGraph) (done : UInt64) (x : Nat) (tree : List Int) : Prop where
  root : bit done x = true
  ok : ∀ e ∈ tree, 0 ≤ e ∧ ∃ a b : Nat, g.fEdges[e.toNat]? = some ((a : Int), (b : Int)) ∧ bit done a = true ∧ bit done b = true
  span : ∀ k, bit done k = true → TWay g tree x k
  len : tree.length + 1 = (bitsL done).length
  once : tree.Nodup
theorem card_le (q : List Nat) (u v : UInt64) (hq : ∀ k, bit v k = true → bit u k = true ∨ k ∈ q) : (bitsL v).length ≤ (bitsL u).length + q.length := by
  have hsub : ∀ x ∈ bitsL v, x ∈ bitsL u ++ q := fun x hx => by
    rw [List.mem_append, mem_bitsL]
    exact hq x (mem_bitsL.1 hx)
  have hnd : (bitsL v).Nodup := by
    refine List.Pairwise.imp ?_ (bitsL_sorted v)
    intro a b h
    omega
  have key : ∀ (l m : List Nat), l.Nodup → (∀ x ∈ l, x ∈ m) → l.length ≤ m.length := by
    intro l
    induction l with
    | nil => intro m _ _; simp
    | cons a l ih =>
      intro m hnd hs
      have ha := hs a (by simp)
      have hnd' := List.nodup_cons.1 hnd
      have := ih (m.erase a) hnd'.2 (fun x hx => (List.mem_erase_of_ne (show x ≠ a from fun e => hnd'.1 (by rw [← e]; exact hx))).2 (hs x (by simp [hx])))
      rw [List.length_erase_of_mem ha] at this
      have hpos : 0 < m.length := List.length_pos_of_mem ha
      simp only [List.length_cons]
      omega
  have := key (bitsL v) (bitsL u ++ q) hnd hsub
  rwa [List.length_append] at this
theorem minmax {a b : Nat} : (min (b : Int) (a : Int), max (b : Int) (a : Int)) = ((a : Int), (b : Int)) ∨ (min (b : Int) (a : Int), max (b : Int) (a : Int)) = ((b : Int), (a : Int)) := by
  rcases Nat.le_total a b with h | h
  · left; apply Prod.ext <;> simp only <;> omega
  · right; apply Prod.ext <;> simp only <;> omega
/-- A path is added. -/
theorem Tree.more {g : TGraph} {s done done' : UInt64} {x y : Nat} {tree es : List Int} {q : List Nat} (h : Tree g done x tree) (hq : Path g s done y q) (hd : ∀ k, bit done' k = true ↔ bit done k = true ∨ k ∈ q) (hl : es.length = q.length - 1)
    (he : ∀ (i : Nat) (e : Int), es[i]? = some e → 0 ≤ e ∧ ∃ a b, q[i]? = some a ∧ q[i + 1]? = some b ∧ g.fEdges[e.toNat]? = some (min (b : Int) (a : Int), max (b : Int) (a : Int))) : Tree g done' x (tree ++ es) := by
  have hpos := hq.pos
  have hold : ∀ k, bit done k = true → bit done' k = true := fun k hk => (hd k).2 (.inl hk)
  -- the path's nodes, from its end
  have hback : ∀ j, j < q.length → ∀ a, q[q.length - 1 - j]? = some a → TWay g (tree ++ es) x a := by
    intro j
    induction j with
    | zero =>
      intro _ a ha
      exact (h.span a (hq.last _ a ha (by omega))).mono (fun e he => List.mem_append.2 (.inl he))
    | succ j ih =>
      intro hj a ha
      have hb : q[q.length - 1 - j]? = some (q[q.length - 1 - j]'(by omega)) := List.getElem?_eq_getElem _
      have hw := ih (by omega) _ hb
      have hi : q.length - 1 - (j + 1) < es.length := by omega
      obtain ⟨_, a', b', h1, h2, h3⟩ := he _ es[q.length - 1 - (j + 1)] (List.getElem?_eq_getElem hi)
      rw [ha] at h1
      rw [show q.length - 1 - (j + 1) + 1 = q.length - 1 - j by omega, hb] at h2
      cases h1; cases h2
      refine .on hw (List.mem_append.2 (.inr (List.getElem_mem hi))) ?_
      rcases minmax (a := a) (b := q[q.length - 1 - j]'(by omega)) with e | e
      · exact .inr (by rw [h3, e])
      · exact .inl (by rw [h3, e])
  have hedge : ∀ e ∈ es, 0 ≤ e ∧ ∃ i a b : Nat, es[i]? = some e ∧ q[i]? = some a ∧ q[i + 1]? = some b ∧ g.fEdges[e.toNat]? = some (min (b : Int) (a : Int), max (b : Int) (a : Int)) := fun e hm => by
    obtain ⟨i, hi, rfl⟩ := List.getElem_of_mem hm
    obtain ⟨h0, a, b, h1, h2, h3⟩ := he i _ (List.getElem?_eq_getElem hi)
    exact ⟨h0, i, a, b, List.getElem?_eq_getElem hi, h1, h2, h3⟩
  refine ⟨hold x h.root, fun e hm => ?_, fun k hk => ?_, ?_, ?_⟩
  · rcases List.mem_append.1 hm with hm | hm
    · obtain ⟨h0, a, b, h1, h2, h3⟩ := h.ok e hm
      exact ⟨h0, a, b, h1, hold a h2, hold b h3⟩
    · obtain ⟨h0, i, a, b, _, h1, h2, h3⟩ := hedge e hm
      have ha := (hd a).2 (.inr (List.mem_of_getElem? h1))
      have hb := (hd b).2 (.inr (List.mem_of_getElem? h2))
      rcases minmax (a := a) (b := b) with e1 | e1
      · exact ⟨h0, a, b, by rw [h3, e1], ha, hb⟩
      · exact ⟨h0, b, a, by rw [h3, e1], hb, ha⟩
  · rcases (hd k).1 hk with hk | hk
    · exact (h.span k hk).mono (fun e he => List.mem_append.2 (.inl he))
    · obtain ⟨i, hi, rfl⟩ := List.getElem_of_mem hk
      exact hback (q.length - 1 - i) (by omega) _ (by rw [show q.length - 1 - (q.length - 1 - i) = i by omega]; exact List.getElem?_eq_getElem hi)
  · have h1 := h.len
    have hge : (bitsL done).length + (q.length - 1) ≤ (bitsL done').length := by
      have := card_add (q.take (q.length - 1)) done done' (hq.once.sublist (List.take_sublist _ _)) (fun x hx => by
        obtain ⟨i, hi, rfl⟩ := List.getElem_of_mem hx
        simp only [List.length_take] at hi
        rw [List.getElem_take]
        have hi2 : i < q.length := by omega
        exact ⟨bit_lt (hq.inside _ (List.getElem_mem hi2)), hq.away i _ (List.getElem?_eq_getElem hi2) (by omega), (hd _).2 (.inr (List.getElem_mem hi2))⟩) hold
      simp only [List.length_take] at this
      omega
    have hle := card_le (q.take (q.length - 1)) done done' (fun k hk => by
      rcases (hd k).1 hk with hk | hk
      · exact .inl hk
      · obtain ⟨i, hi, rfl⟩ := List.getElem_of_mem hk
        by_cases hil : i + 1 = q.length
        · exact .inl (hq.last i _ (List.getElem?_eq_getElem hi) hil)
        · right
          have hi3 : i < (q.take (q.length - 1)).length := by simp only [List.length_take]; omega
          have := List.getElem_mem hi3
          rwa [List.getElem_take] at this)
    simp only [List.length_take] at hle
    rw [List.length_append, hl]
    omega
  · rw [List.nodup_append]
    refine ⟨h.once, ?_, fun a ha b hb e => ?_⟩
    · apply List.pairwise_iff_getElem.2
      intro i j hi hj hij e
      obtain ⟨_, a, b, a1, a2, a3⟩ := he i _ (List.getElem?_eq_getElem hi)
      obtain ⟨_, a', b', b1, b2, b3⟩ := he j _ (List.getElem?_eq_getElem hj)
      rw [e, b3] at a3
      have ne : ∀ (p r : Nat) (u v : Nat), q[p]? = some u → q[r]? = some v → p ≠ r → u ≠ v := fun p r u v hu hv hpr huv => by
        obtain ⟨hp, rfl⟩ := List.getElem?_eq_some_iff.1 hu
        obtain ⟨hr, rfl⟩ := List.getElem?_eq_some_iff.1 hv
        rcases Nat.lt_or_gt_of_ne hpr with h1 | h1
        · exact List.pairwise_iff_getElem.1 hq.once p r hp hr h1 huv
        · exact List.pairwise_iff_getElem.1 hq.once r p hr hp h1 huv.symm
      have hp := Option.some.inj a3
      have e1 := congrArg Prod.fst hp
      have e2 := congrArg Prod.snd hp
      simp only at e1 e2
      have n1 := ne i j a a' a1 b1 (by omega)
      have n2 := ne i (j + 1) a b' a1 b2 (by omega)
      omega
    · subst e
      obtain ⟨_, p, r, h1, h2, h3⟩ := h.ok a ha
      obtain ⟨_, i, u, v, i1, i2, i3, i4⟩ := hedge a hb
      have hu : bit done u = false := hq.away i u i2 (by have := (List.getElem?_eq_some_iff.1 i3).1; omega)
      rw [h1] at i4
      have hp := Option.some.inj i4
      rcases minmax (a := u) (b := v) with e1 | e1
      · rw [e1] at hp
        have := congrArg Prod.fst hp
        simp only at this
        have : p = u := by omega
        subst this; rw [hu] at h2; cases h2
      · rw [e1] at hp
        have := congrArg Prod.snd hp
        simp only at this
        have : r = u := by omega
        subst this; rw [hu] at h3; cases h3
/-- What is drawn is a tree. -/
theorem draws_tree (n : Nat) (g : TGraph) (h : Valid g) (hn : 10010 < n) (s : UInt64) (hs : Fits g.fN s) (hJ : Joined g s) : ∀ (m : Nat) (done : UInt64) (z : Nat) (tree : List Int) (c : UInt64) (left : Int), (z : Int) ≤ g.fN → g.fN.toNat - z < m →
    (∀ k, bit done k = true → bit s k = true) → (∀ k, k < z → bit s k = true → bit done k = true) → Tree g done (low s) tree → 0 ≤ left → left ≤ 10000 →
    ∃ r, loopF (wilson_Draw_l8 n g s) m (done, (z : Int), tree, c, left) = some r ∧ (r = .inl ([], ⟨0⟩, 9) ∨ ∃ tree' c', r = .inr (tree', c') ∧ Tree g s (low s) tree') := by
  have h1 := h.n1; have h64 := h.n64
  intro m
  induction m with
  | zero => intro done z tree c left hz hm; omega
  | succ m ih =>
    intro done z tree c left hz hm i1 i2 i3 i4 i5
    have hdl : (bitsL done).length ≤ (bitsL s).length := bitsL_le i1
    have hsl := bitsL_len s
    have htl := i3.len
    simp only [loopF_succ]
    generalize hJ1 : loopF (wilson_Draw_l8 n g s) m = J1 at *
    unfold wilson_Draw_l8
    simp only
    by_cases hzN : (z : Int) < g.fN
    · simp only [if_pos hzN]
      rw [natOf_ok (by omega), Int.toNat_natCast]
      simp only [obind]
      have next : ((z : Int) + 1) = ((z + 1 : Nat) : Int) := by omega
      by_cases hb : bit (s &&& ~~~done) z = true
      · have hb' := hb
        rw [bit_andNot, Bool.and_eq_true, Bool.not_eq_true'] at hb'
        obtain ⟨hsz, hdz⟩ := hb'
        rw [if_neg (fun e => by rw [(hasnt_iff _ z).1 e] at hb; cases hb)]
        obtain ⟨mw, hway⟩ := hJ.way hsz (low_bit hJ.1)
        obtain ⟨r, w1, w2⟩ := walking_ok n g h hn s done z c left.toNat (by omega) hs hsz (low s) mw i3.root hway
        rw [show ((left.toNat : Nat) : Int) = left by omega] at w1
        obtain ⟨sim1, sim2⟩ := l4_sim n done g s n (z : Int) [(z : Int)] c left
        rcases w2 with rfl | ⟨w, c', t, rfl, p1, p2, p3, p4, _⟩
        · rw [sim1 _ w1]
          exact ⟨_, rfl, .inl rfl⟩
        · obtain ⟨s1, s2, _⟩ := sim2 _ _ w1
          rw [s2]
          simp only [thn]
          have hwl : 0 < w.length := by
            rcases Nat.eq_zero_or_pos w.length with h0 | h0
            · rw [List.length_eq_zero_iff.1 h0] at p3; simp at p3
            · exact h0
          obtain ⟨r, r1, r2⟩ := erased_props n (w.map fun k : Nat => (k : Int)) (by rw [List.length_map]; omega) (by omega) (by rw [List.length_map]; omega)
          rw [r1]
          simp only [obind]
          obtain ⟨q, rfl, hq⟩ := path_of p1 p3 p4 r2
          have hqs : q.length ≤ 64 := by
            have := card_add q 0 s hq.once (fun x hx => ⟨bit_lt (hq.inside x hx), bit_zero x, hq.inside x hx⟩) (fun k hk => by rw [bit_zero] at hk; cases hk)
            omega
          obtain ⟨done', es, n1, n2, n3, n4⟩ := note_ok n g h hn q hqs (fun y hy => hs y (hq.inside y hy)) hq.steps done tree (by omega)
          rw [n1]
          simp only [obind]
          rw [chk_ok (by omega)]
          simp only [obind]
          rw [next]
          have hd' : ∀ k, bit done' k = true → bit s k = true := fun k hk => by
            rcases (n2 k).1 hk with hk | hk
            · exact i1 k hk
            · exact hq.inside k hk
          exact ih done' (z + 1) (tree ++ es) c' (left - (((w.map fun k : Nat => (k : Int)).length : Int) - (([(z : Int)] : List Int).length : Int))) (by omega) (by omega) hd' (fun k hk hsk => by
            by_cases hkz : k = z
            · subst hkz; exact (n2 k).2 (.inr (List.mem_of_getElem? hq.first))
            · exact (n2 k).2 (.inl (i2 k (by omega) hsk))) (i3.more hq n2 n3 n4)
            (by simp only [List.length_map, List.length_singleton]; omega) (by simp only [List.length_map, List.length_singleton]; omega)
      · have hb' : bit (s &&& ~~~done) z = false := by
          cases hbb : bit (s &&& ~~~done) z with
          | false => rfl
          | true => exact absurd hbb hb
        rw [if_pos ((hasnt_iff _ z).2 hb'), chk_ok (by omega)]
        simp only [obind]
        rw [next]
        exact ih done (z + 1) tree c left (by omega) (by omega) i1 (fun k hk hsk => by
          by_cases hkz : k = z
          · subst hkz
            rw [bit_andNot, hsk] at hb'
            simpa using hb'
          · exact i2 k (by omega) hsk) i3 i4 i5
    · simp only [if_neg hzN]
      have : done = s := by
        apply bit_ext
        intro k
        cases hk : bit s k with
        | false =>
          cases hd : bit done k with
          | false => rfl
          | true => rw [i1 k hd] at hk; cases hk
        | true => exact i2 k (by have := hs k hk; omega) hk
      subst this
      exact ⟨_, rfl, .inr ⟨tree, c, rfl, i3⟩⟩
/-- What Draw returns: an error, or a spanning tree in order. -/
theorem draw_ok (n : Nat) (g : TGraph) (h : Valid g) (hn : 10010 < n) (s : UInt64) (hs : Fits g.fN s) (hN : g.fN ≤ 12) (c : TChance) :
    ∃ r, wilson_Draw_p n g s c = some r ∧ (s = 0 ∧ r = ([], ⟨0⟩, 2) ∨ s ≠ 0 ∧ (¬ Joined g s ∧ r = ([], ⟨0⟩, 4) ∨ Joined g s ∧ (r = ([], ⟨0⟩, 9) ∨ ∃ ys c', r = (ys, c', 0) ∧ Tree g s (low s) ys ∧ ∀ (p q : Nat) a b, p < q → ys[p]? = some a → ys[q]? = some b → a < b))) := by
  have h1 := h.n1; have h64 := h.n64
  unfold wilson_Draw_p
  rw [h.check (by omega)]
  simp only [obind]
  rw [ifT]
  by_cases hs0 : s = 0
  · rw [if_pos hs0]; exact ⟨_, rfl, .inl ⟨hs0, rfl⟩⟩
  rw [if_neg hs0]
  obtain ⟨b1, f1, f2⟩ := fits_p n g s (by omega)
  have : b1 = true := f2.2 hs
  subst this
  rw [f1]
  simp only [obind]
  rw [ifT]
  obtain ⟨b, c1, c2⟩ := connected_ok n g h (by omega) s hs
  rw [c1]
  simp only [obind]
  cases b with
  | false =>
    rw [if_neg (by simp)]
    exact ⟨_, rfl, .inr ⟨hs0, .inl ⟨fun hj => (by have := c2.2 hj; cases this), rfl⟩⟩⟩
  | true =>
    rw [ifTT]
    have hJ := c2.1 rfl
    have hl64 := bit_lt (low_bit hs0)
    have hone : (bitsL (shlU 1 (low s))).length = 1 := by
      have : ∀ t, t < 64 → (bitsL (shlU 1 t)).length = 1 := by decide +kernel
      exact this _ hl64
    rw [and_neg64 hs0]
    have hbit : ∀ k, bit (shlU 1 (low s)) k = true ↔ k = low s := fun k => by rw [bit_one hl64, decide_eq_true_eq]
    obtain ⟨r, d1, d2⟩ := draws_tree n g h hn s hs hJ n (shlU 1 (low s)) 0 [] c.fState 10000 (by omega) (by omega) (fun k hk => by
      rw [(hbit k).1 hk]; exact low_bit hs0) (fun k hk => by omega) ⟨(hbit _).2 rfl, fun e he => (by cases he), fun k hk => (by rw [(hbit k).1 hk]; exact .here), by rw [hone]; rfl, List.nodup_nil⟩ (by omega) (by omega)
    rw [show ((0 : Nat) : Int) = 0 from rfl] at d1
    rw [d1]
    rcases d2 with rfl | ⟨tree, c', rfl, t1⟩
    · exact ⟨_, rfl, .inr ⟨hs0, .inr ⟨hJ, .inl rfl⟩⟩⟩
    · simp only [thn]
      have ht : tree.length ≤ 12 := by
        have e1 := t1.len
        have e2 : (bitsL s).length ≤ 12 := by
          have := bitsL_le (u := s) (v := shlU 1 12 - 1) (fun k hk => by rw [bit_all (by omega), decide_eq_true_eq]; have := hs k hk; omega)
          have e3 : (bitsL (shlU 1 12 - 1)).length = 12 := by decide +kernel
          omega
        omega
      have y1 : math_bits_Len_p n (u64of ((tree.length : Nat) : Int)) = some ((blen (u64of ((tree.length : Nat) : Int)).toNat : Nat) : Int) := by unfold math_bits_Len_p; rw [len64]; rfl
      rw [y1]
      simp only [obind]
      obtain ⟨ys, v1, v2, v3, v4⟩ := sort_ok n n tree (by omega) (by omega) (by omega)
      obtain ⟨k, rfl⟩ : ∃ k, n = k + 1 := ⟨n - 1, by omega⟩
      rw [loopF_succ (n := k)]
      generalize loopF (wilson_Draw_l7 (k + 1) tree c') k = J
      unfold wilson_Draw_l7
      simp only
      rw [chk_ok (by omega)]
      simp only [obind]
      rw [if_pos (by omega), chk_ok (by omega)]
      simp only [obind]
      have e : ((((0 : Nat) : Int)) + 1) = 1 := by omega
      rw [e, v1]
      simp only [obind]
      have hnd : ys.Nodup := v3.symm.nodup t1.once
      refine ⟨_, rfl, .inr ⟨hs0, .inr ⟨hJ, .inr ⟨ys, ⟨c'⟩, rfl, ⟨t1.root, fun e he => t1.ok e (v3.mem_iff.1 he), fun k hk => (t1.span k hk).mono (fun e he => v3.mem_iff.2 he), by rw [v2]; exact t1.len, hnd⟩, fun p q a b hpq ha hb => ?_⟩⟩⟩⟩
      have h1 := v4 p q a b hpq ha hb
      have h2 : a ≠ b := fun e => by
        obtain ⟨hp, rfl⟩ := List.getElem?_eq_some_iff.1 ha
        obtain ⟨hq, rfl⟩ := List.getElem?_eq_some_iff.1 hb
        exact List.pairwise_iff_getElem.1 hnd p q hp hq hpq e
      omega
end Go.Proofs.YtplkfbljncfdnaaDoor
