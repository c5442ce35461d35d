/- The plain law of WilsonTrees. No program in sight but the printed functions. -/
import Derived.Test.YtplkfbljncfdnaaDoorT8
import Derived.Test.YtplkfbljncfdnaaDoorTGt
namespace Go.Proofs.YtplkfbljncfdnaaDoor
open Go

theorem has_p (n : Nat) (u : UInt64) {k : Nat} (h : k < 64) : wardmoteref18_Has_p n u (k : Int) = some (bit u k) := by
  unfold wardmoteref18_Has_p
  rw [u64of_nat, UInt64.toNat_ofNat_of_lt' (show k < 2 ^ 64 by omega)]
  cases hb : bit u k with
  | false => rw [decide_eq_false (fun e => by rw [(has_iff u k).1 e] at hb; cases hb)]
  | true => rw [decide_eq_true ((has_iff u k).2 hb)]
theorem one_p (n : Nat) {k : Nat} (h : k < 64) : wardmoteref18_One_p n (k : Int) = some (shlU 1 k) := by
  unfold wardmoteref18_One_p
  rw [u64of_nat, UInt64.toNat_ofNat_of_lt' (show k < 2 ^ 64 by omega)]
theorem size_ok (n : Nat) (u : UInt64) (hn : 100 < n) : wardmoteref18_Size_p n u = some (((bitsL u).length : Nat) : Int) := by
  unfold wardmoteref18_Size_p
  obtain ⟨r, e1, rfl⟩ := loop_ok (B := wardmoteref18_Size_l1 n u) (fun s => 64 - s.2) (fun (z, i) => i ≤ 64 ∧ z = ((((List.range i).filter (bit u ·)).length : Nat) : Int)) (fun z => z = (((bitsL u).length : Nat) : Int)) (fun ⟨z, i⟩ J ⟨q1, q2⟩ hJ => by
    simp only at q1 q2 hJ
    unfold wardmoteref18_Size_l1
    simp only
    have hl : ((List.range i).filter (bit u ·)).length ≤ i := by simpa using List.length_filter_le (bit u ·) (List.range i)
    by_cases hi : i < 64
    · rw [if_pos hi, has_p n u hi]
      simp only [obind]
      have hr : ((List.range (i + 1)).filter (bit u ·)).length = ((List.range i).filter (bit u ·)).length + (if bit u i then 1 else 0) := by
        rw [List.range_succ, List.filter_append, List.length_append]
        cases hb : bit u i <;> simp [hb]
      cases hb : bit u i with
      | true =>
        rw [if_pos rfl, chk_ok (by omega)]
        simp only [obind]
        exact hJ _ ⟨by simp only; omega, by simp only; rw [hr, hb, q2]; simp⟩ (by simp only; omega)
      | false =>
        rw [if_neg (by simp)]
        exact hJ _ ⟨by simp only; omega, by simp only; rw [hr, hb, q2]; simp⟩ (by simp only; omega)
    · rw [if_neg hi]
      have : i = 64 := by omega
      subst this
      exact ⟨_, rfl, q2⟩) n (0, 0) ⟨by simp, by simp⟩ (by simp only; omega)
  rw [e1]
  rfl
theorem least_p_ok (n : Nat) (u : UInt64) (hu : u ≠ 0) (hn : 100 < n) : wardmoteref30_least_p n u = some ((low u : Nat) : Int) := by
  unfold wardmoteref30_least_p
  have hl := bit_lt (low_bit hu)
  obtain ⟨r, e1, rfl⟩ := loop_ok (B := wardmoteref30_least_l1 n u) (fun z => 64 - z.toNat) (fun z => ∃ k : Nat, z = (k : Int) ∧ k ≤ low u) (fun z => z = ((low u : Nat) : Int)) (fun z J ⟨k, hz, hk⟩ hJ => by
    subst hz
    unfold wardmoteref30_least_l1
    simp only
    rw [has_p n u (by omega)]
    simp only [obind]
    by_cases h : k = low u
    · subst h
      rw [low_bit hu, if_pos rfl]
      exact ⟨_, rfl, rfl⟩
    · rw [low_lt hu (by omega), if_neg (by simp), chk_ok (by omega)]
      simp only [obind]
      exact hJ _ ⟨k + 1, by omega, by omega⟩ (by omega)) n 0 ⟨0, rfl, by omega⟩ (by simp; omega)
  rw [e1]
  rfl
/-- One round through the edges of a tree. -/
theorem touch_ok (n : Nat) (g : TGraph) (h : Valid g) (s : UInt64) (x : Nat) (t : List Int) (hT : Tree g s x t) (hn : 300 < n) (u : UInt64) (hu : ∀ k, bit u k = true → bit s k = true) (ht : t.length ≤ 200) :
    ∃ v, loopF (wardmoteref30_reached_l1 n t g) n (u, 0) = some v ∧ (∀ k, bit u k = true → bit v k = true) ∧ (∀ k, bit v k = true → bit s k = true) ∧ ∀ e ∈ t, ∀ a b : Nat, g.fEdges[e.toNat]? = some ((a : Int), (b : Int)) → (bit u a = true ∨ bit u b = true) → bit v a = true ∧ bit v b = true := by
  have h64 := h.n64
  refine loop_ok (B := wardmoteref30_reached_l1 n t g) (fun s => t.length - s.2) (fun (v, i) => i ≤ t.length ∧ (∀ k, bit u k = true → bit v k = true) ∧ (∀ k, bit v k = true → bit s k = true) ∧ ∀ e ∈ t.take i, ∀ a b : Nat, g.fEdges[e.toNat]? = some ((a : Int), (b : Int)) → (bit u a = true ∨ bit u b = true) → bit v a = true ∧ bit v b = true) _ (fun ⟨v, i⟩ J ⟨q1, q2, q3, q4⟩ hJ => ?_) n (u, 0) ⟨by simp, fun k hk => hk, hu, fun e he => by simp at he⟩ (by simp only; omega)
  simp only at q1 q2 q3 q4 hJ
  unfold wardmoteref30_reached_l1
  simp only [jn]
  by_cases hi : i < t.length
  · rw [if_pos hi, List.getElem?_eq_getElem hi]
    simp only [obind]
    generalize he : t[i] = e
    have hmem : e ∈ t := he ▸ List.getElem_mem hi
    obtain ⟨h0, a, b, hab, ha, hb⟩ := hT.ok e hmem
    have hel := (List.getElem?_eq_some_iff.1 hab).1
    have hidx : idx g.fEdges e = some ((a : Int), (b : Int)) := by unfold idx; rw [if_pos h0]; exact hab
    have ha64 := bit_lt ha
    have hb64 := bit_lt hb
    rw [hidx]
    simp only [obind]
    have htake : t.take (i + 1) = t.take i ++ [e] := by rw [List.take_succ_eq_append_getElem hi, he]
    have both : ∃ r, J ((v ||| shlU 1 a) ||| shlU 1 b, i + 1) = some r ∧ _ := hJ ((v ||| shlU 1 a) ||| shlU 1 b, i + 1) ⟨by simp only; omega, fun k hk => by simp only; rw [bit_or, bit_or, q2 k hk]; rfl, fun k hk => by
        simp only at hk
        rw [bit_or, bit_or, bit_one ha64, bit_one hb64] at hk
        simp only [Bool.or_eq_true, decide_eq_true_eq] at hk
        rcases hk with (hk | rfl) | rfl
        · exact q3 k hk
        · exact ha
        · exact hb, fun e' he' a' b' hab' hor => by
        simp only at he' ⊢
        rw [htake, List.mem_append, List.mem_singleton] at he'
        rcases he' with he' | rfl
        · have := q4 e' he' a' b' hab' hor
          exact ⟨by rw [bit_or, bit_or, this.1]; rfl, by rw [bit_or, bit_or, this.2]; rfl⟩
        · rw [hab] at hab'
          have hp := Option.some.inj hab'
          have e1 := congrArg Prod.fst hp
          have e2 := congrArg Prod.snd hp
          simp only at e1 e2
          have : a = a' := by omega
          subst this
          have : b = b' := by omega
          subst this
          exact ⟨by rw [bit_or, bit_or, bit_one ha64]; simp, by rw [bit_or, bit_one hb64]; simp⟩⟩ (by simp only; omega)
    rw [has_p n v ha64]
    simp only [obind]
    cases hva : bit v a with
    | true =>
      rw [if_pos rfl, one_p n ha64, one_p n hb64]
      simp only [obind]
      exact both
    | false =>
      rw [if_neg (by simp), has_p n v hb64]
      simp only [obind]
      cases hvb : bit v b with
      | true =>
        rw [if_pos rfl, one_p n ha64, one_p n hb64]
        simp only [obind]
        exact both
      | false =>
        rw [if_neg (by simp)]
        refine hJ _ ⟨by simp only; omega, q2, q3, fun e' he' a' b' hab' hor => ?_⟩ (by simp only; omega)
        simp only at he' ⊢
        rw [htake, List.mem_append, List.mem_singleton] at he'
        rcases he' with he' | rfl
        · exact q4 e' he' a' b' hab' hor
        · rw [hab] at hab'
          have hp := Option.some.inj hab'
          have e1 := congrArg Prod.fst hp
          have e2 := congrArg Prod.snd hp
          simp only at e1 e2
          have : a = a' := by omega
          subst this
          have : b = b' := by omega
          subst this
          rcases hor with hor | hor
          · rw [q2 a hor] at hva; cases hva
          · rw [q2 b hor] at hvb; cases hvb
  · rw [if_neg hi]
    refine ⟨_, rfl, q2, q3, fun e he => q4 e ?_⟩
    rwa [List.take_of_length_le (by omega)]
theorem reached_p_ok (n : Nat) (g : TGraph) (h : Valid g) (s : UInt64) (x : Nat) (t : List Int) (hT : Tree g s x t) (hn : 300 < n) (ht : t.length ≤ 200) : wardmoteref30_reached_p n g t (x : Int) = some s := by
  have hx64 := bit_lt hT.root
  unfold wardmoteref30_reached_p
  rw [one_p n hx64]
  simp only [obind]
  have hsl := bitsL_len s
  obtain ⟨r, e1, rfl⟩ := loop_ok (B := wardmoteref30_reached_l2 n t g) (fun s => 64 - s.2) (fun (u, i) => i ≤ 64 ∧ bit u x = true ∧ (∀ k, bit u k = true → bit s k = true) ∧ (u = s ∨ i + 1 ≤ (bitsL u).length)) (fun u => u = s) (fun ⟨u, i⟩ J ⟨q1, q2, q3, q4⟩ hJ => by
    simp only at q1 q2 q3 q4 hJ
    unfold wardmoteref30_reached_l2
    simp only
    have hul := bitsL_le q3
    by_cases hi : i < 64
    · rw [if_pos hi]
      obtain ⟨v, v1, v2, v3, v4⟩ := touch_ok n g h s x t hT hn u q3 ht
      rw [v1]
      simp only [obind]
      refine hJ _ ⟨by simp only; omega, v2 x q2, v3, ?_⟩ (by simp only; omega)
      simp only
      by_cases hus : u = s
      · left
        subst hus
        apply bit_ext
        intro k
        cases hk : bit u k with
        | true => exact v2 k hk
        | false =>
          cases hv : bit v k with
          | false => rfl
          | true => rw [v3 k hv] at hk; cases hk
      · right
        have hcard := q4.resolve_left hus
        -- some node is not yet reached; an edge crosses
        have hex : ∃ k, bit s k = true ∧ bit u k = false := by
          apply Classical.byContradiction
          intro hno
          apply hus
          apply bit_ext
          intro k
          cases hk : bit s k with
          | false =>
            cases hu : bit u k with
            | false => rfl
            | true => rw [q3 k hu] at hk; cases hk
          | true =>
            cases hu : bit u k with
            | true => rfl
            | false => exact absurd ⟨k, hk, hu⟩ hno
        obtain ⟨k, k1, k2⟩ := hex
        have cross : ∀ y, TWay g t x y → bit u y = false → ∃ b, bit v b = true ∧ bit u b = false := by
          intro y hy
          induction hy with
          | here => intro hh; rw [q2] at hh; cases hh
          | on hw he hk ih =>
            rename_i a b e
            intro hb
            cases hua : bit u a with
            | false => exact ih hua
            | true =>
              refine ⟨b, ?_, hb⟩
              rcases hk with hk | hk
              · exact (v4 e he a b hk (.inl hua)).2
              · exact (v4 e he b a hk (.inr hua)).1
        obtain ⟨b, b1, b2⟩ := cross k (hT.span k k1) k2
        have := bitsL_sub v2 ⟨b, b1, b2⟩
        omega
    · rw [if_neg hi]
      refine ⟨_, rfl, ?_⟩
      rcases q4 with q4 | q4
      · exact q4
      · omega) n (shlU 1 x, 0) ⟨by simp, by rw [bit_one hx64]; simp, fun k hk => by
      rw [bit_one hx64, decide_eq_true_eq] at hk
      subst hk; exact hT.root, .inr (by
      have hone : ∀ t, t < 64 → (bitsL (shlU 1 t)).length = 1 := by decide +kernel
      rw [hone x hx64]; omega)⟩ (by simp only; omega)
  rw [e1]
  rfl
/-- Rising without end. -/
def Rise (ys : List Int) : Prop := ∀ (p q : Nat) a b, p < q → ys[p]? = some a → ys[q]? = some b → a < b
theorem right_ok (n : Nat) (g : TGraph) (h : Valid g) (s : UInt64) (hs0 : s ≠ 0) (ys : List Int) (hT : Tree g s (low s) ys) (hR : Rise ys) (hn : 300 < n) (ht : ys.length ≤ 200) : wardmoteref30_Right_p n g s ys = some true := by
  unfold wardmoteref30_Right_p
  obtain ⟨r, e1, rfl⟩ := loop_ok (B := wardmoteref30_Right_l1 n ys g s) (fun i => ys.length - i) (fun i => i ≤ ys.length) (fun r => r = .inr ()) (fun i J hi hJ => by
    unfold wardmoteref30_Right_l1
    simp only
    by_cases hl : i < ys.length
    · rw [if_pos hl, List.getElem?_eq_getElem hl]
      simp only [obind]
      obtain ⟨h0, a, b, hab, ha, hb⟩ := hT.ok ys[i] (List.getElem_mem hl)
      have hel := (List.getElem?_eq_some_iff.1 hab).1
      have hin : wardmoteref30_Inner_p n g s ys[i] = some true := by
        unfold wardmoteref30_Inner_p
        have hidx : idx g.fEdges ys[i] = some ((a : Int), (b : Int)) := by unfold idx; rw [if_pos h0]; exact hab
        rw [if_pos h0, if_pos (by omega), hidx]
        simp only [obind]
        rw [has_p n s (bit_lt ha), ha]
        simp only [obind]
        rw [ifT, has_p n s (bit_lt hb), hb]
        rfl
      rw [hin]
      simp only [obind]
      rw [ifT]
      by_cases h0 : 0 < i
      · rw [if_pos h0, List.getElem?_eq_getElem (show i - 1 < ys.length by omega)]
        simp only [obind]
        have := hR (i - 1) i _ _ (by omega) (List.getElem?_eq_getElem (show i - 1 < ys.length by omega)) (List.getElem?_eq_getElem hl)
        rw [if_neg (by omega)]
        exact hJ (i + 1) (by omega) (by omega)
      · rw [if_neg h0]; exact hJ (i + 1) (by omega) (by omega)
    · rw [if_neg hl]; exact ⟨_, rfl, rfl⟩) n 0 (by omega) (by omega)
  rw [e1]
  simp only [thn]
  have hsl := bitsL_len s
  have hlen := hT.len
  rw [size_ok n s (by omega)]
  simp only [obind]
  rw [chk_ok (by omega)]
  simp only [obind]
  rw [if_pos (by omega), least_p_ok n s hs0 (by omega)]
  simp only [obind]
  rw [reached_p_ok n g h s (low s) ys hT hn ht]
  simp
/-! ### No edge closes a ring -/
theorem count_span (g : TGraph) (s : UInt64) (x : Nat) (E : List Int) (hE : ∀ e ∈ E, ∃ a b : Nat, g.fEdges[e.toNat]? = some ((a : Int), (b : Int)) ∧ bit s a = true ∧ bit s b = true) (hspan : ∀ k, bit s k = true → TWay g E x k) : ∀ (m : Nat) (u : UInt64), (bitsL s).length - (bitsL u).length ≤ m → bit u x = true → (∀ k, bit u k = true → bit s k = true) → (∀ k, bit s k = true → k < 64) →
    (bitsL s).length ≤ (bitsL u).length + (E.filter (fun e => match g.fEdges[e.toNat]? with | some (a, b) => !(bit u a.toNat && bit u b.toNat) | none => false)).length := by
  intro m
  induction m with
  | zero => intro u h1 _ _ _; omega
  | succ m ih =>
    intro u h1 hx hu h64
    by_cases hus : u = s
    · subst hus; omega
    · have hex : ∃ k, bit s k = true ∧ bit u k = false := by
        apply Classical.byContradiction
        intro hno
        apply hus
        apply bit_ext
        intro k
        cases hk : bit s k with
        | false =>
          cases hu' : bit u k with
          | false => rfl
          | true => rw [hu k hu'] at hk; cases hk
        | true =>
          cases hu' : bit u k with
          | true => rfl
          | false => exact absurd ⟨k, hk, hu'⟩ hno
      obtain ⟨k, k1, k2⟩ := hex
      have cross : ∀ y, TWay g E x y → bit u y = false → ∃ a b : Nat, ∃ e ∈ E, bit u a = true ∧ bit u b = false ∧ (g.fEdges[e.toNat]? = some ((a : Int), (b : Int)) ∨ g.fEdges[e.toNat]? = some ((b : Int), (a : Int))) ∧ TWay g E x b := by
        intro y hy
        induction hy with
        | here => intro hh; rw [hx] at hh; cases hh
        | on hw he hk ih =>
          rename_i a b e
          intro hb
          cases hua : bit u a with
          | false => exact ih hua
          | true => exact ⟨a, b, e, he, hua, hb, hk, .on hw he hk⟩
      obtain ⟨a, b, e, he, a1, b1, hab, hwb⟩ := cross k (hspan k k1) k2
      have hsb : bit s b = true := by
        obtain ⟨p, q, hpq, hp, hq⟩ := hE e he
        rcases hab with hab | hab
        · rw [hab] at hpq
          have := congrArg Prod.snd (Option.some.inj hpq)
          simp only at this
          have : b = q := by omega
          subst this; exact hq
        · rw [hab] at hpq
          have := congrArg Prod.fst (Option.some.inj hpq)
          simp only at this
          have : b = p := by omega
          subst this; exact hp
      have hb64 := h64 b hsb
      have hsub : ∀ k, bit u k = true → bit (u ||| shlU 1 b) k = true := fun k hk => by rw [bit_or, hk]; rfl
      have hnew : bit (u ||| shlU 1 b) b = true := by rw [bit_or, bit_one hb64]; simp
      have hgrow := bitsL_sub hsub ⟨b, hnew, b1⟩
      have hle := card_le [b] u (u ||| shlU 1 b) (fun k hk => by
        rw [bit_or, Bool.or_eq_true, bit_one hb64, decide_eq_true_eq] at hk
        rcases hk with hk | rfl
        · exact .inl hk
        · exact .inr (by simp))
      simp only [List.length_singleton] at hle
      have hin : ∀ k, bit (u ||| shlU 1 b) k = true → bit s k = true := fun k hk => by
        rw [bit_or, Bool.or_eq_true, bit_one hb64, decide_eq_true_eq] at hk
        rcases hk with hk | rfl
        · exact hu k hk
        · exact hsb
      have key := ih (u ||| shlU 1 b) (by omega) (hsub x hx) hin h64
      -- the crossing edge is no longer counted
      have hlt : (E.filter (fun e => match g.fEdges[e.toNat]? with | some (p, q) => !(bit (u ||| shlU 1 b) p.toNat && bit (u ||| shlU 1 b) q.toNat) | none => false)).length < (E.filter (fun e => match g.fEdges[e.toNat]? with | some (p, q) => !(bit u p.toNat && bit u q.toNat) | none => false)).length := by
        have e1 : E.filter (fun e => match g.fEdges[e.toNat]? with | some (p, q) => !(bit (u ||| shlU 1 b) p.toNat && bit (u ||| shlU 1 b) q.toNat) | none => false) = (E.filter (fun e => match g.fEdges[e.toNat]? with | some (p, q) => !(bit u p.toNat && bit u q.toNat) | none => false)).filter (fun e => match g.fEdges[e.toNat]? with | some (p, q) => !(bit (u ||| shlU 1 b) p.toNat && bit (u ||| shlU 1 b) q.toNat) | none => false) := by
          rw [List.filter_filter]
          apply List.filter_congr
          intro e' he'
          cases hg : g.fEdges[e'.toNat]? with
          | none => rfl
          | some pq =>
            obtain ⟨p, q⟩ := pq
            simp only
            cases hp : bit u p.toNat with
            | false => simp
            | true =>
              cases hq : bit u q.toNat with
              | false => simp
              | true => rw [hsub _ hp, hsub _ hq]; rfl
        rw [e1]
        apply List.length_filter_lt_length_iff_exists.2
        refine ⟨e, List.mem_filter.2 ⟨he, ?_⟩, ?_⟩
        · rcases hab with hab | hab
          · rw [hab]; simp only [Int.toNat_natCast]; rw [b1]; simp
          · rw [hab]; simp only [Int.toNat_natCast]; rw [b1]; simp
        · rcases hab with hab | hab
          · rw [hab]; simp only [Int.toNat_natCast]; rw [hsub a a1, hnew]; simp
          · rw [hab]; simp only [Int.toNat_natCast]; rw [hsub a a1, hnew]; simp
      omega
/-- A tree has no edge too many: without one of them its nodes are not joined. -/
theorem no_ring (g : TGraph) (s : UInt64) (x : Nat) (ys : List Int) (hT : Tree g s x ys) (i : Nat) (hi : i < ys.length) (a b : Nat) (hab : g.fEdges[ys[i].toNat]? = some ((a : Int), (b : Int))) : ¬ TWay g (ys.take i) a b := by
  intro hw
  have hsub : ∀ e ∈ ys.take i, e ∈ ys.eraseIdx i := fun e he => by
    rw [List.eraseIdx_eq_take_drop_succ]
    exact List.mem_append.2 (.inl he)
  have hw' := hw.mono hsub
  have hspan : ∀ k, bit s k = true → TWay g (ys.eraseIdx i) x k := fun k hk => by
    have := hT.span k hk
    clear hk
    induction this with
    | here => exact .here
    | on hw0 he hk ih =>
      rename_i p q e
      by_cases hee : e ∈ ys.eraseIdx i
      · exact .on ih hee hk
      · have : e = ys[i] := by
          obtain ⟨j, hj, rfl⟩ := List.getElem_of_mem he
          by_cases hji : j = i
          · subst hji; rfl
          · exact absurd (by
              rw [List.eraseIdx_eq_take_drop_succ, List.mem_append]
              rcases Nat.lt_or_gt_of_ne hji with h1 | h1
              · left
                have : j < (ys.take i).length := by simp only [List.length_take]; omega
                have := List.getElem_mem this
                rwa [List.getElem_take] at this
              · right
                have hjd : j - (i + 1) < (ys.drop (i + 1)).length := by simp only [List.length_drop]; omega
                have := List.getElem_mem hjd
                rw [List.getElem_drop] at this
                simpa [show i + 1 + (j - (i + 1)) = j by omega] using this) hee
        subst this
        rw [hab] at hk
        rcases hk with hk | hk
        · have hp := Option.some.inj hk
          have e1 := congrArg Prod.fst hp
          have e2 := congrArg Prod.snd hp
          simp only at e1 e2
          have : a = p := by omega
          subst this
          have : b = q := by omega
          subst this
          exact ih.add hw'
        · have hp := Option.some.inj hk
          have e1 := congrArg Prod.fst hp
          have e2 := congrArg Prod.snd hp
          simp only at e1 e2
          have : a = q := by omega
          subst this
          have : b = p := by omega
          subst this
          exact ih.add hw'.back
  have hx64 := bit_lt hT.root
  have hone : ∀ t, t < 64 → (bitsL (shlU 1 t)).length = 1 := by decide +kernel
  have key := count_span g s x (ys.eraseIdx i) (fun e he => by
    obtain ⟨_, p, q, h1, h2, h3⟩ := hT.ok e (List.mem_of_mem_eraseIdx he)
    exact ⟨p, q, h1, h2, h3⟩) hspan _ (shlU 1 x) (Nat.le_refl _) (by rw [bit_one hx64]; simp) (fun k hk => by
    rw [bit_one hx64, decide_eq_true_eq] at hk
    subst hk; exact hT.root) (fun k hk => bit_lt hk)
  rw [hone x hx64] at key
  have hl := hT.len
  have h1 := List.length_filter_le (fun e => match g.fEdges[e.toNat]? with | some (a, b) => !(bit (shlU 1 x) a.toNat && bit (shlU 1 x) b.toNat) | none => false) (ys.eraseIdx i)
  rw [List.length_eraseIdx, if_pos hi] at h1
  omega
/-- Links that lead downwards, within what the edges join. -/
structure Links (g : TGraph) (t : List Int) (ps : List Int) : Prop where
  len : ps.length = 64
  down : ∀ (i : Nat) (p : Int), ps[i]? = some p → ∃ k : Nat, p = (k : Int) ∧ k ≤ i ∧ TWay g t i k
theorem root_ok (n : Nat) (g : TGraph) (t : List Int) (ps : List Int) (hL : Links g t ps) (z : Nat) (hz : z < 64) (hn : 100 < n) : ∃ k : Nat, trees_parents_root_p n ps (z : Int) = some (k : Int) ∧ k ≤ z ∧ TWay g t z k := by
  unfold trees_parents_root_p
  obtain ⟨r, e1, k, rfl, e2, e3⟩ := loop_ok (B := trees_parents_root_l1 n ps) (fun z => z.toNat) (fun y => ∃ k : Nat, y = (k : Int) ∧ k ≤ z ∧ TWay g t z k) (fun y => ∃ k : Nat, y = (k : Int) ∧ k ≤ z ∧ TWay g t z k) (fun y J ⟨k, hy, h1, h2⟩ hJ => by
    subst hy
    unfold trees_parents_root_l1
    simp only
    have hl := hL.len
    have hk : k < ps.length := by omega
    rw [idx_nat, List.getElem?_eq_getElem hk]
    simp only [obind]
    obtain ⟨p, p1, p2, p3⟩ := hL.down k ps[k] (List.getElem?_eq_getElem hk)
    rw [p1]
    by_cases he : (p : Int) = (k : Int)
    · rw [if_pos he]; exact ⟨_, rfl, k, rfl, h1, h2⟩
    · rw [if_neg he]
      exact hJ _ ⟨p, rfl, by omega, h2.add p3⟩ (by simp only [Int.toNat_natCast]; omega)) n (z : Int) ⟨z, rfl, by omega, .here⟩ (by simp only [Int.toNat_natCast]; omega)
  rw [e1]
  exact ⟨k, rfl, e2, e3⟩
theorem ident : loopF (trees_Check_l2 20000 (List.replicate 64 0)) 20000 (0, List.replicate 64 0) = some ((List.range 64).map fun k : Nat => (k : Int)) := by
  obtain ⟨r, e1, rfl⟩ := loop_ok (B := trees_Check_l2 20000 (List.replicate 64 0)) (fun s => 64 - s.1) (fun (i, xs) => i ≤ 64 ∧ xs.length = 64 ∧ ∀ j, j < i → xs[j]? = some (j : Int)) (fun xs => xs = (List.range 64).map fun k : Nat => (k : Int)) (fun ⟨i, xs⟩ J ⟨q1, q2, q3⟩ hJ => by
    simp only at q1 q2 q3 hJ
    unfold trees_Check_l2
    simp only [List.length_replicate]
    by_cases hi : i < 64
    · rw [if_pos hi, List.getElem?_eq_getElem (show i < xs.length by omega)]
      simp only [obind]
      rw [put_ok _ (by omega) (by omega), Int.toNat_natCast]
      simp only [obind]
      refine hJ _ ⟨by simp only; omega, by simp only [List.length_set]; exact q2, fun j hj => ?_⟩ (by simp only; omega)
      simp only at hj ⊢
      rw [List.getElem?_set]
      by_cases hji : i = j
      · rw [if_pos hji, if_pos (by omega), hji]
      · rw [if_neg hji]; exact q3 j (by omega)
    · rw [if_neg hi]
      refine ⟨_, rfl, ?_⟩
      apply List.ext_getElem?
      intro j
      rw [List.getElem?_map]
      by_cases hj : j < 64
      · rw [q3 j (by omega), List.getElem?_range hj]; rfl
      · rw [List.getElem?_eq_none (by omega), List.getElem?_eq_none (by simp; omega)]; rfl) 20000 (0, List.replicate 64 0) ⟨by simp, by simp, fun j hj => by omega⟩ (by simp only; omega)
  exact e1
/-- So many tests, by halves. -/
def allTo (f : Nat → Bool) : Nat → Nat → Bool
  | 0, k => f k
  | d + 1, k => allTo f d k && allTo f d (k + 2 ^ d)
theorem allTo_spec {f : Nat → Bool} : ∀ (d k : Nat), allTo f d k = true → ∀ i, i < 2 ^ d → f (k + i) = true
  | 0, k, h, i, hi => by
    have : i = 0 := by simpa using hi
    subst this
    exact h
  | d + 1, k, h, i, hi => by
    simp only [allTo, Bool.and_eq_true] at h
    rw [Nat.pow_succ] at hi
    by_cases hd : i < 2 ^ d
    · exact allTo_spec d k h.1 i hd
    · have := allTo_spec d (k + 2 ^ d) h.2 (i - 2 ^ d) (by omega)
      rwa [show k + 2 ^ d + (i - 2 ^ d) = k + i by omega] at this
theorem ones_all : allTo (fun k => decide (math_bits_OnesCount64_p 20000 (UInt64.ofNat k) = some (((bitsL (UInt64.ofNat k)).length : Nat) : Int))) 12 0 = true := by kernel_rfl
theorem ones_tab (k : Nat) (h : k < 4096) : math_bits_OnesCount64_p 20000 (UInt64.ofNat k) = some (((bitsL (UInt64.ofNat k)).length : Nat) : Int) := by
  have := allTo_spec 12 0 ones_all k h
  rw [Nat.zero_add] at this
  exact of_decide_eq_true this
theorem treesCheck_ok (g : TGraph) (h : Valid g) (hN : g.fN ≤ 12) (s : UInt64) (hs : Fits g.fN s) (hs0 : s ≠ 0) (ys : List Int) (hT : Tree g s (low s) ys) (hR : Rise ys) : trees_Check_p 20000 g s ys = some 0 := by
  have h1 := h.n1
  have hsl := bitsL_len s
  have hlen := hT.len
  unfold trees_Check_p
  have hc : trees_check_p 20000 g s = some 0 := by
    unfold trees_check_p
    rw [h.check (by omega)]
    simp only [obind]
    rw [ifT, if_neg hs0, len64]
    simp only [obind]
    rw [if_neg (by have := (blen_fits (by omega)).2 hs; omega)]
  rw [hc]
  simp only [obind]
  rw [ifT]
  have hmk : mk 64 (0 : Int) = some (List.replicate 64 0) := by decide +kernel
  rw [hmk]
  simp only [obind]
  rw [ident]
  simp only [obind]
  have hL0 : Links g (ys.take 0) ((List.range 64).map fun k : Nat => (k : Int)) := ⟨by simp, fun i p hp => by
    rw [List.getElem?_map] at hp
    cases hr : (List.range 64)[i]? with
    | none => rw [hr] at hp; cases hp
    | some k =>
      rw [hr] at hp
      have hki : k = i := by
        obtain ⟨hk, e⟩ := List.getElem?_eq_some_iff.1 hr
        rw [List.getElem_range] at e
        omega
      subst hki
      exact ⟨k, (Option.some.inj hp).symm, Nat.le_refl _, .here⟩⟩
  obtain ⟨r, e1, rfl⟩ := loop_ok (B := trees_Check_l1 20000 ys g s) (fun s => ys.length - s.2.1) (fun (z, i, ps) => i ≤ ys.length ∧ Links g (ys.take i) ps ∧ (∀ y, ys[i]? = some y → z < y)) (fun r => r = .inr ()) (fun ⟨z, i, ps⟩ J ⟨q1, q2, q3⟩ hJ => by
    simp only at q1 q2 q3 hJ
    unfold trees_Check_l1
    simp only
    by_cases hi : i < ys.length
    · have hyi : ys[i]? = some ys[i] := List.getElem?_eq_getElem hi
      rw [if_pos hi, hyi]
      simp only [obind]
      obtain ⟨h0, a, b, hab, ha, hb⟩ := hT.ok ys[i] (List.getElem_mem hi)
      have hel := (List.getElem?_eq_some_iff.1 hab).1
      have hidx : idx g.fEdges ys[i] = some ((a : Int), (b : Int)) := by unfold idx; rw [if_pos h0]; exact hab
      have hzl := q3 _ hyi
      have ha64 := bit_lt ha
      have hb64 := bit_lt hb
      rw [if_neg (by omega), if_neg (by omega), hidx]
      simp only [obind]
      have hhas : trees_has_p 20000 s ((a : Int), (b : Int)) = some true := by
        unfold trees_has_p
        simp only
        rw [natOf_ok (by omega), Int.toNat_natCast]
        simp only [obind]
        rw [if_pos ((has_iff s a).2 ha), natOf_ok (by omega), Int.toNat_natCast]
        simp only [obind]
        rw [decide_eq_true ((has_iff s b).2 hb)]
      rw [hhas]
      simp only [obind]
      rw [ifT]
      obtain ⟨ra, ra1, ra2, ra3⟩ := root_ok 20000 g _ ps q2 a ha64 (by omega)
      obtain ⟨rb, rb1, rb2, rb3⟩ := root_ok 20000 g _ ps q2 b hb64 (by omega)
      rw [ra1]
      simp only [obind]
      rw [rb1]
      simp only [obind]
      have hpl := q2.len
      have hmax : max (ra : Int) (rb : Int) = ((max ra rb : Nat) : Int) := by omega
      have hmin : min (ra : Int) (rb : Int) = ((min ra rb : Nat) : Int) := by omega
      rw [hmax, hmin, idx_nat, List.getElem?_eq_getElem (show max ra rb < ps.length by omega)]
      simp only [obind]
      rw [Int.toNat_natCast, put_ok _ (by omega) (by omega), Int.toNat_natCast]
      simp only [obind]
      have hne : ¬ (ra : Int) = (rb : Int) := fun e => by
        have : ra = rb := by omega
        subst this
        exact no_ring g s (low s) ys hT i hi a b hab (ra3.add rb3.back)
      rw [if_neg hne]
      have htake : ys.take (i + 1) = ys.take i ++ [ys[i]] := by rw [List.take_succ_eq_append_getElem hi]
      have hsub : ∀ e ∈ ys.take i, e ∈ ys.take (i + 1) := fun e he => by rw [htake]; exact List.mem_append.2 (.inl he)
      have hnew : ys[i] ∈ ys.take (i + 1) := by rw [htake]; exact List.mem_append.2 (.inr (List.mem_singleton.2 rfl))
      have hjoin : TWay g (ys.take (i + 1)) ra rb := ((ra3.mono hsub).back.add (.on .here hnew (.inl hab))).add (rb3.mono hsub)
      refine hJ _ ⟨by simp only; omega, ⟨by simp only [List.length_set]; exact hpl, fun j p hp => ?_⟩, fun y hy => ?_⟩ (by simp only; omega)
      · rw [List.getElem?_set] at hp
        by_cases hj : max ra rb = j
        · rw [if_pos hj, if_pos (by omega)] at hp
          refine ⟨min ra rb, (Option.some.inj hp).symm, by omega, ?_⟩
          rcases Nat.le_total ra rb with h | h
          · rw [show j = rb by omega, show min ra rb = ra by omega]; exact hjoin.back
          · rw [show j = ra by omega, show min ra rb = rb by omega]; exact hjoin
        · rw [if_neg hj] at hp
          obtain ⟨k, k1, k2, k3⟩ := q2.down j p hp
          exact ⟨k, k1, k2, k3.mono hsub⟩
      · simp only at hy ⊢
        exact hR i (i + 1) _ y (by omega) hyi hy
    · rw [if_neg hi]; exact ⟨_, rfl, rfl⟩) 20000 (-1, 0, (List.range 64).map fun k : Nat => (k : Int)) ⟨by simp, hL0, fun y hy => by
      have := (hT.ok y (List.mem_of_getElem? hy)).1
      omega⟩ (by simp only; omega)
  rw [e1]
  simp only [thn]
  have hs12 : s.toNat < 4096 := (fits_iff (u := s) (N := 12)).2 (fun k hk => by have := hs k hk; omega)
  have hones := ones_tab s.toNat hs12
  rw [show UInt64.ofNat s.toNat = s by simp] at hones
  rw [hones]
  simp only [obind]
  rw [chk_ok (by omega)]
  simp only [obind]
  rw [if_pos (by omega)]
/-! ### The tree alone -/
theorem lex_all {g : TGraph} (h : Valid g) : ∀ (d i : Nat) (e f : Int × Int), g.fEdges[i]? = some e → g.fEdges[i + d + 1]? = some f → Lex e f := by
  intro d
  induction d with
  | zero => intro i e f he hf; exact h.sorted i e f he hf
  | succ d ih =>
    intro i e f he hf
    have hl := (List.getElem?_eq_some_iff.1 hf).1
    have hm : g.fEdges[i + d + 1]? = some (g.fEdges[i + d + 1]'(by omega)) := List.getElem?_eq_getElem _
    have h1 := ih i e _ he hm
    have h2 := h.sorted (i + d + 1) _ f hm (by rw [show i + d + 1 + 1 = i + (d + 1) + 1 by omega]; exact hf)
    unfold Lex at *
    omega
theorem pick_ok (g : TGraph) (s : UInt64) (x : Nat) (ys : List Int) (hT : Tree g s x ys) (c : TChance) (e : Int) (ht : ys.length ≤ 64) : ∃ es, loopF (wardmotelaw31_WilsonTrees_l2 20000 (ys, c, e) g) 20000 (0, []) = some es ∧ es.length = ys.length ∧ ∀ (i : Nat) (y : Int), ys[i]? = some y → es[i]? = g.fEdges[y.toNat]? := by
  refine loop_ok (B := wardmotelaw31_WilsonTrees_l2 20000 (ys, c, e) g) (fun s => ys.length - s.1) (fun (i, es) => i ≤ ys.length ∧ es.length = i ∧ ∀ (j : Nat) (y : Int), j < i → ys[j]? = some y → es[j]? = g.fEdges[y.toNat]?) _ (fun ⟨i, es⟩ J ⟨q1, q2, q3⟩ hJ => ?_) 20000 (0, []) ⟨by simp, rfl, fun j y h => by omega⟩ (by simp only; omega)
  simp only at q1 q2 q3 hJ
  unfold wardmotelaw31_WilsonTrees_l2
  simp only
  by_cases hi : i < ys.length
  · rw [if_pos hi, List.getElem?_eq_getElem hi]
    simp only [obind]
    obtain ⟨h0, a, b, hab, _, _⟩ := hT.ok ys[i] (List.getElem_mem hi)
    have hidx : idx g.fEdges ys[i] = some ((a : Int), (b : Int)) := by unfold idx; rw [if_pos h0]; exact hab
    rw [hidx]
    simp only [obind]
    rw [app_ok (by simp only [List.length_singleton]; omega)]
    simp only [obind]
    refine hJ _ ⟨by simp only; omega, by simp only [List.length_append, List.length_singleton]; omega, fun j y hj hy => ?_⟩ (by simp only; omega)
    simp only at hj ⊢
    by_cases hji : j = i
    · subst hji
      rw [List.getElem?_eq_getElem hi] at hy
      cases hy
      rw [List.getElem?_append_right (by omega), q2, Nat.sub_self, hab]
      rfl
    · rw [List.getElem?_append_left (by omega)]
      exact q3 j y (by omega) hy
  · rw [if_neg hi]
    have : i = ys.length := by omega
    subst this
    exact ⟨_, rfl, q2, fun j y hy => q3 j y (List.getElem?_eq_some_iff.1 hy).1 hy⟩
theorem rise_le {ys : List Int} (h : Rise ys) : ∀ (d i : Nat) (a b : Int), ys[i]? = some a → ys[i + d]? = some b → a + d ≤ b := by
  intro d
  induction d with
  | zero => intro i a b ha hb; rw [Nat.add_zero, ha] at hb; cases hb; omega
  | succ d ih =>
    intro i a b ha hb
    have hl := (List.getElem?_eq_some_iff.1 hb).1
    have hm : ys[i + d]? = some (ys[i + d]'(by omega)) := List.getElem?_eq_getElem _
    have h1 := ih i a _ ha hm
    have h2 := h (i + d) (i + (d + 1)) _ b (by omega) hm hb
    omega
theorem stops_it (n : Nat) (e : Int) : wardmotelaw31_stops_1_p n [] ⟨0⟩ e e = some true := by
  unfold wardmotelaw31_stops_1_p
  simp
theorem wilsonTrees_true (a0 : TDraft) (a1 : UInt64) (a2 : TChance) : ∃ n, wardmotelaw31_WilsonTrees_p n a0 a1 a2 = some true := by
  refine ⟨20000, ?_⟩
  unfold wardmotelaw31_WilsonTrees_p
  rw [works_true]
  simp only [obind]
  rw [ifT]
  obtain ⟨g, g1, g2, g3⟩ := draft_ok 20000 a0 (by omega)
  rw [g1]
  simp only [obind]
  have h1 := g2.n1
  obtain ⟨N, hN⟩ : ∃ N : Nat, g.fN = N := ⟨g.fN.toNat, by omega⟩
  rw [hN, natOf_ok (by omega), Int.toNat_natCast]
  simp only [obind]
  have hs : Fits g.fN (a1 &&& (shlU 1 N - 1)) := by rw [hN]; exact fits_all (by omega) a1
  generalize a1 &&& (shlU 1 N - 1) = s at *
  obtain ⟨r, r1, r2⟩ := draw_ok 20000 g g2 (by omega) s hs g3 a2
  rw [r1]
  simp only [obind]
  rw [ifT]
  have hlen0 : r.1.length < 20000 := by
    rcases r2 with ⟨_, rfl⟩ | ⟨_, ⟨_, rfl⟩ | ⟨_, rfl | ⟨ys, c', rfl, hT, _⟩⟩⟩
    · simp
    · simp
    · simp
    · have := hT.len; have := bitsL_len s; simp only; omega
  rw [equal_self 20000 r.1 hlen0]
  simp only [obind]
  rw [ifT, ifT]
  rcases r2 with ⟨hs0, rfl⟩ | ⟨hs0, r2⟩
  · rw [if_pos hs0, stops_it]
    rfl
  · rw [if_neg hs0]
    obtain ⟨b, c1, c2⟩ := connected_ok 20000 g g2 (by omega) s hs
    rw [c1]
    simp only [obind]
    rw [ifT]
    rcases r2 with ⟨hno, rfl⟩ | ⟨hj, r2⟩
    · have : b = false := by
        cases b with
        | false => rfl
        | true => exact absurd (c2.1 rfl) hno
      subst this
      rw [if_neg (by simp), stops_it]
      rfl
    · have : b = true := c2.2 hj
      subst this
      rw [ifTT]
      rcases r2 with rfl | ⟨ys, c', rfl, hT, hR⟩
      · rw [if_pos rfl]
      · have hyl := hT.len
        have hsl := bitsL_len s
        have hs12 : (bitsL s).length ≤ 12 := by
          have := bitsL_le (u := s) (v := shlU 1 12 - 1) (fun k hk => by rw [bit_all (by omega), decide_eq_true_eq]; have := hs k hk; omega)
          have e3 : (bitsL (shlU 1 12 - 1)).length = 12 := by decide +kernel
          omega
        simp only
        rw [if_neg (by omega), ifT, right_ok 20000 g g2 s hs0 ys hT hR (by omega) (by omega)]
        simp only [obind]
        rw [ifT, treesCheck_ok g g2 g3 s hs hs0 ys hT hR]
        simp only [obind]
        rw [ifT]
        obtain ⟨es, e1, e2, e3⟩ := pick_ok g s (low s) ys hT c' 0 (by omega)
        rw [e1]
        simp only [obind]
        have hget : ∀ (i : Nat) (y : Int), ys[i]? = some y → ∃ a b : Nat, es[i]? = some ((a : Int), (b : Int)) ∧ g.fEdges[y.toNat]? = some ((a : Int), (b : Int)) := fun i y hy => by
          obtain ⟨_, a, b, hab, _, _⟩ := hT.ok y (List.mem_of_getElem? hy)
          exact ⟨a, b, by rw [e3 i y hy, hab], hab⟩
        have hV : Valid (⟨(N : Int), es⟩ : TGraph) := ⟨by simp only; omega, by simp only; omega, by simp only; omega, fun f hf => by
          obtain ⟨i, hi, rfl⟩ := List.getElem_of_mem hf
          have hyi : ys[i]? = some (ys[i]'(by simp only at hi; omega)) := List.getElem?_eq_getElem _
          have := e3 i _ hyi
          rw [List.getElem?_eq_getElem hi] at this
          have := g2.ok _ (List.mem_of_getElem? this.symm)
          rw [hN] at this
          exact this, fun i e f he hf => by
          simp only at he hf
          have hl := (List.getElem?_eq_some_iff.1 hf).1
          have hyi : ys[i]? = some (ys[i]'(by omega)) := List.getElem?_eq_getElem _
          have hyj : ys[i + 1]? = some (ys[i + 1]'(by omega)) := List.getElem?_eq_getElem _
          have h1 := e3 i _ hyi
          have h2 := e3 (i + 1) _ hyj
          rw [he] at h1
          rw [hf] at h2
          have h3 := hR i (i + 1) _ _ (by omega) hyi hyj
          have h4 := (hT.ok _ (List.mem_of_getElem? hyi)).1
          refine lex_all g2 ((ys[i + 1]'(by omega)).toNat - (ys[i]'(by omega)).toNat - 1) (ys[i]'(by omega)).toNat e f h1.symm ?_
          rw [show (ys[i]'(by omega)).toNat + ((ys[i + 1]'(by omega)).toNat - (ys[i]'(by omega)).toNat - 1) + 1 = (ys[i + 1]'(by omega)).toNat by omega]
          exact h2.symm⟩
        have hJ' : Joined (⟨(N : Int), es⟩ : TGraph) s := ⟨hs0, fun k hk => by
          have hroot := hT.root
          have := hT.span k hk
          induction this with
          | here => exact ⟨0, .here⟩
          | on hw he hab ih =>
            rename_i p q y
            obtain ⟨i, hi, rfl⟩ := List.getElem_of_mem he
            obtain ⟨a, b, h5, h6⟩ := hget i _ (List.getElem?_eq_getElem hi)
            have hmem := List.mem_of_getElem? h5
            obtain ⟨_, a', b', h7, h8, h9⟩ := hT.ok _ he
            rcases hab with hab | hab
            · rw [hab] at h6 h7
              have hp := Option.some.inj h6
              have hp' := Option.some.inj h7
              rw [← hp] at hmem
              have e5 := congrArg Prod.fst hp'
              simp only at e5
              have : p = a' := by omega
              obtain ⟨m, hm⟩ := ih (this ▸ h8)
              exact ⟨m + 1, .on hm (.inl hmem) hk⟩
            · rw [hab] at h6 h7
              have hp := Option.some.inj h6
              have hp' := Option.some.inj h7
              rw [← hp] at hmem
              have e5 := congrArg Prod.snd hp'
              simp only at e5
              have : p = b' := by omega
              obtain ⟨m, hm⟩ := ih (this ▸ h9)
              exact ⟨m + 1, .on hm (.inr hmem) hk⟩⟩
        obtain ⟨r', d1, d2⟩ := draw_ok 20000 (⟨(N : Int), es⟩ : TGraph) hV (by omega) s (by rw [hN] at hs; exact hs) (by simp only; omega) a2
        rw [d1]
        simp only [obind]
        rcases d2 with ⟨h0, _⟩ | ⟨_, ⟨hno, _⟩ | ⟨_, rfl | ⟨zs, c2, rfl, hT2, hR2⟩⟩⟩
        · exact absurd h0 hs0
        · exact absurd hJ' hno
        · rw [if_pos rfl]
        · have hzl := hT2.len
          simp only
          rw [if_neg (by omega), ifT, if_pos (by omega)]
          obtain ⟨q, q1, rfl⟩ := loop_ok (B := wardmotelaw31_WilsonTrees_l1 20000 (zs, c2, 0)) (fun i => zs.length - i) (fun i => i ≤ zs.length) (fun q => q = .inr ()) (fun i J hi hJ => by
            unfold wardmotelaw31_WilsonTrees_l1
            simp only
            by_cases hl : i < zs.length
            · have hzi : zs[i]? = some zs[i] := List.getElem?_eq_getElem hl
              rw [if_pos hl, hzi]
              simp only [obind]
              have hz0 : zs[0]? = some (zs[0]'(by omega)) := List.getElem?_eq_getElem _
              have hze : zs[zs.length - 1]? = some (zs[zs.length - 1]'(by omega)) := List.getElem?_eq_getElem _
              have b1 := rise_le hR2 i 0 _ zs[i] hz0 (by rw [Nat.zero_add]; exact hzi)
              have b2 := rise_le hR2 (zs.length - 1 - i) i zs[i] _ hzi (by rw [show i + (zs.length - 1 - i) = zs.length - 1 by omega]; exact hze)
              have b3 := (hT2.ok _ (List.mem_of_getElem? hz0)).1
              obtain ⟨b4, a, b, b5, _, _⟩ := hT2.ok _ (List.mem_of_getElem? hze)
              have b6 := (List.getElem?_eq_some_iff.1 b5).1
              simp only at b6
              rw [if_pos (by omega)]
              exact hJ (i + 1) (by omega) (by omega)
            · rw [if_neg hl]; exact ⟨_, rfl, rfl⟩) 20000 0 (by omega) (by omega)
          rw [q1]
          rfl
end Go.Proofs.YtplkfbljncfdnaaDoor
