/- Plain laws: what the drawing of a tree does, walk by walk. No program in sight but the printed functions. -/
import Derived.Test.YtplkfbljncfdnaaDoorKGx
import Derived.Test.YtplkfbljncfdnaaDoorKLe
import Derived.Test.YtplkfbljncfdnaaDoorKLi
namespace Go.Proofs.YtplkfbljncfdnaaDoor
open Go

theorem bitsL_le {u v : UInt64} (h : ∀ k, bit u k = true → bit v k = true) : (bitsL u).length ≤ (bitsL v).length := by
  have e : bitsL u = (bitsL v).filter (bit u ·) := by
    unfold bitsL
    rw [List.filter_filter]
    apply List.filter_congr
    intro k _
    cases hu : bit u k with
    | false => simp
    | true => rw [h k hu]; rfl
  rw [e]
  exact List.length_filter_le _ _
theorem card_add : ∀ (r : List Nat) (u v : UInt64), r.Nodup → (∀ x ∈ r, x < 64 ∧ bit u x = false ∧ bit v x = true) → (∀ k, bit u k = true → bit v k = true) → (bitsL u).length + r.length ≤ (bitsL v).length
  | [], u, v, _, _, h => by simpa using bitsL_le h
  | x :: r, u, v, hnd, hx, h => by
    have hnd' := List.nodup_cons.1 hnd
    obtain ⟨x1, x2, x3⟩ := hx x (by simp)
    have h1 := bitsL_sub (u := u) (v := u ||| shlU 1 x) (fun k hk => by rw [bit_or, hk]; rfl) ⟨x, by rw [bit_or, bit_one x1]; simp, x2⟩
    have h2 := card_add r (u ||| shlU 1 x) v hnd'.2 (fun y hy => by
      obtain ⟨y1, y2, y3⟩ := hx y (by simp [hy])
      refine ⟨y1, ?_, y3⟩
      rw [bit_or, y2, bit_one x1, Bool.false_or, decide_eq_false_iff_not]
      exact fun e => hnd'.1 (e ▸ hy)) (fun k hk => by
      rw [bit_or, Bool.or_eq_true, bit_one x1, decide_eq_true_eq] at hk
      rcases hk with hk | rfl
      · exact h k hk
      · exact x3)
    simp only [List.length_cons]
    omega
/-- What an erased walk is, among the nodes. -/
structure Path (g : TGraph) (s v : UInt64) (x : Nat) (r : List Nat) : Prop where
  pos : 0 < r.length
  first : r[0]? = some x
  once : r.Nodup
  inside : ∀ y ∈ r, bit s y = true
  steps : ∀ (i : Nat) a b, r[i]? = some a → r[i + 1]? = some b → Adj g a b
  away : ∀ (i : Nat) a, r[i]? = some a → i + 1 < r.length → bit v a = false
  last : ∀ (i : Nat) a, r[i]? = some a → i + 1 = r.length → bit v a = true
theorem path_of {g : TGraph} {s v : UInt64} {x z : Nat} {w : List Nat} (hw : Walked g s v x w) (hz : w[w.length - 1]? = some z) (hvz : bit v z = true) {r : List Int} (hE : Erased (w.map fun k : Nat => (k : Int)) r) :
    ∃ q : List Nat, r = q.map (fun k : Nat => (k : Int)) ∧ Path g s v x q := by
  have hwl : 0 < w.length := by
    rcases Nat.eq_zero_or_pos w.length with h0 | h0
    · rw [List.length_eq_zero_iff.1 h0] at hz; simp at hz
    · exact h0
  have get : ∀ i, i < r.length → ∃ j, ∃ hj : j < w.length, r[i]? = some (w[j] : Int) := fun i hi => by
    by_cases h0 : i = 0
    · subst h0
      exact ⟨0, hwl, by rw [hE.first, List.getElem?_map, List.getElem?_eq_getElem hwl]; rfl⟩
    · obtain ⟨k, k1, k2, k3, k4⟩ := hE.steps i (by omega) hi
      rw [List.length_map] at k2
      exact ⟨k, k2, by rw [← k4, List.getElem?_map, List.getElem?_eq_getElem k2]; rfl⟩
  have hq : r = (r.map Int.toNat).map (fun k : Nat => (k : Int)) := by
    apply List.ext_getElem?
    intro i
    rw [List.getElem?_map, List.getElem?_map]
    by_cases hi : i < r.length
    · obtain ⟨j, hj, e⟩ := get i hi
      rw [e]; rfl
    · rw [List.getElem?_eq_none (by omega)]; rfl
  generalize hqq : r.map Int.toNat = q at hq
  have hrl : r.length = q.length := by rw [hq, List.length_map]
  have rget : ∀ (i : Nat) (a : Nat), q[i]? = some a → r[i]? = some (a : Int) := fun i a h => by rw [hq, List.getElem?_map, h]; rfl
  have qget : ∀ (i : Nat) (a : Nat), r[i]? = some (a : Int) → q[i]? = some a := fun i a h => by
    rw [hq, List.getElem?_map] at h
    cases hqi : q[i]? with
    | none => rw [hqi] at h; cases h
    | some b =>
      rw [hqi] at h
      have : (b : Int) = a := Option.some.inj h
      congr 1; omega
  have hnd : q.Nodup := by
    apply List.pairwise_iff_getElem.2
    intro i j hi hj hij e
    have h1 := rget i q[i] (List.getElem?_eq_getElem hi)
    have h2 := rget j q[j] (List.getElem?_eq_getElem hj)
    rw [List.getElem?_eq_getElem (by omega)] at h1 h2
    have := nodup_inj hE.once (Option.some.inj (h1.trans (by rw [e]; exact h2.symm)))
    omega
  have wlast : ∀ (i : Nat) (a : Nat), q[i]? = some a → i + 1 = q.length → a = z := fun i a h hl => by
    have h1 := rget i a h
    have h2 := hE.last
    rw [show r.length - 1 = i by omega, h1, List.length_map, List.getElem?_map, hz] at h2
    have : (a : Int) = z := Option.some.inj h2
    omega
  refine ⟨q, hq, by have := hE.pos; omega, ?_, hnd, fun y hy => ?_, fun i a b ha hb => ?_, fun i a ha hi => ?_, fun i a ha hi => ?_⟩
  · apply qget
    rw [hE.first, List.getElem?_map, hw.first]; rfl
  · obtain ⟨i, hi, rfl⟩ := List.getElem_of_mem hy
    obtain ⟨j, hj, e⟩ := get i (by omega)
    have := qget i w[j] e
    rw [List.getElem?_eq_getElem hi] at this
    rw [Option.some.inj this]
    exact hw.inside _ (List.getElem_mem hj)
  · have hi := (List.getElem?_eq_some_iff.1 hb).1
    obtain ⟨k, k1, k2, k3, k4⟩ := hE.steps (i + 1) (by omega) (by omega)
    rw [List.length_map] at k2
    rw [Nat.add_sub_cancel, rget i a ha, List.getElem?_map] at k3
    rw [rget (i + 1) b hb, List.getElem?_map] at k4
    rw [List.getElem?_eq_getElem (by omega)] at k3 k4
    have e1 : (w[k - 1] : Int) = a := Option.some.inj k3
    have e2 : (w[k] : Int) = b := Option.some.inj k4
    refine hw.steps (k - 1) a b ?_ ?_
    · rw [List.getElem?_eq_getElem (by omega)]; congr 1; omega
    · rw [show k - 1 + 1 = k by omega, List.getElem?_eq_getElem k2]; congr 1; omega
  · obtain ⟨j, hj, e⟩ := get i (by omega)
    have := qget i w[j] e
    rw [ha] at this
    have e1 : a = w[j] := Option.some.inj this
    subst e1
    by_cases hjl : j + 1 < w.length
    · exact hw.away j _ (List.getElem?_eq_getElem hj) hjl
    · exfalso
      have hjz : w[j] = z := by
        rw [show w.length - 1 = j by omega, List.getElem?_eq_getElem hj] at hz
        exact Option.some.inj hz
      have hlq : q.length - 1 < q.length := by omega
      have h1 := wlast (q.length - 1) q[q.length - 1] (List.getElem?_eq_getElem hlq) (by omega)
      have hil : i < q.length := by omega
      rw [List.getElem?_eq_getElem hil] at ha
      have h2 : q[i] = q[q.length - 1] := by rw [h1, Option.some.inj ha, hjz]
      have := List.pairwise_iff_getElem.1 hnd i (q.length - 1) hil hlq (by omega)
      exact this h2
  · rw [wlast i a ha hi]; exact hvz
/-- The nodes and the edges of a path are noted down. -/
theorem note_ok (n : Nat) (g : TGraph) (h : Valid g) (hn : 10010 < n) (q : List Nat) (hlen : q.length ≤ 64) (hN : ∀ y ∈ q, (y : Int) < g.fN) (hst : ∀ (i : Nat) a b, q[i]? = some a → q[i + 1]? = some b → Adj g a b) (done : UInt64) (tree : List Int) (ht : tree.length ≤ 1000) :
    ∃ done' es, loopF (wilson_Draw_l1 n (q.map fun k : Nat => (k : Int)) g) n (done, 0, tree) = some (done', tree ++ es) ∧ (∀ k, bit done' k = true ↔ bit done k = true ∨ k ∈ q) ∧ es.length = q.length - 1 ∧
      ∀ (i : Nat) (e : Int), es[i]? = some e → 0 ≤ e ∧ ∃ a b, q[i]? = some a ∧ q[i + 1]? = some b ∧ g.fEdges[e.toNat]? = some (min (b : Int) (a : Int), max (b : Int) (a : Int)) := by
  have h64 := h.n64; have hlen' := h.len
  obtain ⟨⟨d, t⟩, e1, e2, es, rfl, e3, e4⟩ := loop_ok (B := wilson_Draw_l1 n (q.map fun k : Nat => (k : Int)) g) (fun s => q.length - s.2.1) (fun (d, i, t) => i ≤ q.length ∧ (∀ k, bit d k = true ↔ bit done k = true ∨ k ∈ q.take i) ∧ ∃ es, t = tree ++ es ∧ es.length = i - 1 ∧ ∀ (j : Nat) (e : Int), es[j]? = some e → 0 ≤ e ∧ ∃ a b, q[j]? = some a ∧ q[j + 1]? = some b ∧ g.fEdges[e.toNat]? = some (min (b : Int) (a : Int), max (b : Int) (a : Int)))
    (fun (d, t) => (∀ k, bit d k = true ↔ bit done k = true ∨ k ∈ q) ∧ ∃ es, t = tree ++ es ∧ es.length = q.length - 1 ∧ ∀ (j : Nat) (e : Int), es[j]? = some e → 0 ≤ e ∧ ∃ a b, q[j]? = some a ∧ q[j + 1]? = some b ∧ g.fEdges[e.toNat]? = some (min (b : Int) (a : Int), max (b : Int) (a : Int))) (fun ⟨d, i, t⟩ J ⟨q1, q2, es, q3, q4, q5⟩ hJ => by
    simp only at q1 q2 q3 hJ
    unfold wilson_Draw_l1
    simp only [jn, List.length_map]
    by_cases hi : i < q.length
    · rw [if_pos hi, List.getElem?_map, List.getElem?_eq_getElem hi]
      simp only [Option.map_some, obind]
      have hiN := hN q[i] (List.getElem_mem hi)
      rw [natOf_ok (by omega), Int.toNat_natCast]
      simp only [obind]
      have hbits : ∀ k, bit (d ||| shlU 1 q[i]) k = true ↔ bit done k = true ∨ k ∈ q.take (i + 1) := fun k => by
        rw [bit_or, Bool.or_eq_true, q2, bit_one (by omega), decide_eq_true_eq, List.take_succ_eq_append_getElem hi, List.mem_append, List.mem_singleton, or_assoc]
      by_cases h0 : 0 < i
      · rw [if_pos h0, List.getElem?_map, List.getElem?_eq_getElem (show i - 1 < q.length by omega)]
        simp only [Option.map_some, obind]
        have hadj := hst (i - 1) q[i - 1] q[i] (List.getElem?_eq_getElem (by omega)) (by rw [show i - 1 + 1 = i by omega]; exact List.getElem?_eq_getElem hi)
        obtain ⟨y, y1, y2, y3⟩ := index2_ok n g.fEdges (min (q[i] : Int) (q[i - 1] : Int), max (q[i] : Int) (q[i - 1] : Int)) (by omega)
        rw [y1]
        simp only [obind]
        have hy := y2.2 (edge_in h hadj)
        rw [app_ok (by rw [q3]; simp only [List.length_append, List.length_singleton]; omega)]
        simp only [obind]
        refine hJ _ ⟨by simp only; omega, hbits, es ++ [y], by rw [q3]; simp, by simp only [List.length_append, List.length_singleton]; omega, fun j e hje => ?_⟩ (by simp only; omega)
        by_cases hjl : j < es.length
        · rw [List.getElem?_append_left hjl] at hje
          exact q5 j e hje
        · have hje' := (List.getElem?_eq_some_iff.1 hje).1
          simp only [List.length_append, List.length_singleton] at hje'
          have hj : j = es.length := by omega
          subst hj
          rw [List.getElem?_append_right (Nat.le_refl _), Nat.sub_self] at hje
          have : y = e := by simpa using hje
          subst this
          refine ⟨hy, q[i - 1], q[i], ?_, ?_, y3 hy⟩
          · rw [q4]; exact List.getElem?_eq_getElem (by omega)
          · rw [q4, show i - 1 + 1 = i by omega]; exact List.getElem?_eq_getElem hi
      · rw [if_neg h0]
        have hi0 : i = 0 := by omega
        subst hi0
        exact hJ _ ⟨by simp only; omega, hbits, es, q3, by simpa using q4, q5⟩ (by simp only; omega)
    · rw [if_neg hi]
      have : i = q.length := by omega
      subst this
      rw [List.take_length] at q2
      exact ⟨_, rfl, q2, es, q3, q4, q5⟩) n (done, 0, tree) ⟨by simp, fun k => by simp, [], by simp, rfl, fun j e h => by simp at h⟩ (by simp only; omega)
  exact ⟨d, es, e1, e2, e3, e4⟩
/-- The program's walk, past its tests. -/
theorem walk_eq (n : Nat) (g : TGraph) (h : Valid g) (hn : 300 < n) (s v : UInt64) (x : Nat) (c : TChance) (hs : Fits g.fN s) (hv : Fits g.fN v) (hx : bit s x = true) (hr : Reached g s v x) :
    wilson_Walk_p n g s (x : Int) v c = thn (loopF (wilson_Walk_l3 n v g s) n ((x : Int), [(x : Int)], c.fState, 10000)) (fun (w, u) => some (w, (⟨u⟩ : TChance), 0)) := by
  have h1 := h.n1; have h64 := h.n64
  have hxN := hs x hx
  unfold wilson_Walk_p
  rw [h.check (by omega)]
  simp only [obind]
  rw [ifT]
  obtain ⟨b1, f1, f2⟩ := fits_p n g s (by omega)
  obtain ⟨b2, f3, f4⟩ := fits_p n g v (by omega)
  have : b1 = true := f2.2 hs
  subst this
  have : b2 = true := f4.2 hv
  subst this
  simp only [jn]
  rw [f1]
  simp only [obind]
  rw [ifT, f3]
  simp only [obind]
  rw [ifT, if_neg (by omega), if_neg (by omega), natOf_ok (by omega), Int.toNat_natCast]
  simp only [obind]
  have hnx : ¬ (shrU s x &&& 1 = 0) := fun e => by rw [(hasnt_iff s x).1 e] at hx; cases hx
  rw [decide_eq_false hnx, if_neg (by simp)]
  obtain ⟨far, d1, d2⟩ := distances_ok n g h (by omega) s x hs hx
  rw [d1]
  simp only [obind]
  obtain ⟨q, r1, r2⟩ := reached_ok n g s v x far 0 d2 (by have := d2.len; omega) (by omega)
  rw [r1]
  simp only [obind]
  rw [if_pos (r2.2 hr)]
end Go.Proofs.YtplkfbljncfdnaaDoor
