/- The plain law of WilsonKnown. No program in sight but the printed functions. -/
import Derived.Test.YtplkfbljncfdnaaDoorK7
import Derived.Test.YtplkfbljncfdnaaDoorKGz
namespace Go.Proofs.YtplkfbljncfdnaaDoor
open Go

def knA (n : Nat) (J7539 : Bool → Option Bool) : Option Bool :=
  (mk 10002 (0 : Int)).bind fun xs8949 => (wilson_Erase_p n xs8949).bind fun y9563 => (wardmotelaw31_fails_1_p n y9563.1 y9563.2 3).bind fun y9575 => (if y9575 = true then (mk 10001 (0 : Int)).bind fun xs10497 => (wilson_Erase_p n xs10497).bind fun y11113 => (wardmotelaw31_lists_1_p n y11113.1 y11113.2 ([0] : List Int)).bind fun y11125 => (if y11125 = true then (wilson_Erase_p n ([7, 9, 7, 8] : List Int)).bind fun y12662 => (wardmotelaw31_lists_1_p n y12662.1 y12662.2 ([7, 8] : List Int)).bind fun y12674 => (if y12674 = true then (wilson_Erase_p n ([(-1), 1099511627776] : List Int)).bind fun y14211 => (wardmotelaw31_lists_1_p n y14211.1 y14211.2 ([(-1), 1099511627776] : List Int)).bind fun y14223 => (if y14223 = true then (wilson_Erase_p n ([3, 4, 3] : List Int)).bind fun y15760 => (wardmotelaw31_lists_1_p n y15760.1 y15760.2 ([3] : List Int)).bind fun y15772 => J7539 y15772 else J7539 false) else J7539 false) else J7539 false) else J7539 false)
def knB (n : Nat) (y3 : TGraph) (q7535 : Bool) (J7747 : Bool × (List (Int × Int)) → Option Bool) : Option Bool :=
  (if q7535 = true then (wilson_Walk_p n (⟨2, ([(1, 0)] : List (Int × Int))⟩ : TGraph) (4 : UInt64) 9 (4 : UInt64) (⟨(1099511627776 : UInt64)⟩ : TChance)).bind fun y8118 => (wardmotelaw31_stops_1_p n y8118.1 y8118.2.1 y8118.2.2 180).bind fun y8131 => (if y8131 = true then (wilson_Walk_p n y3 (16 : UInt64) 0 (1 : UInt64) (⟨(1099511627776 : UInt64)⟩ : TChance)).bind fun y8142 => (wardmotelaw31_stops_1_p n y8142.1 y8142.2.1 y8142.2.2 2).bind fun y8151 => (if y8151 = true then (wilson_Walk_p n y3 (15 : UInt64) 0 (16 : UInt64) (⟨(1099511627776 : UInt64)⟩ : TChance)).bind fun y8162 => (wardmotelaw31_stops_1_p n y8162.1 y8162.2.1 y8162.2.2 2).bind fun y8171 => (if y8171 = true then (wilson_Walk_p n y3 (15 : UInt64) (-1) (1 : UInt64) (⟨(1099511627776 : UInt64)⟩ : TChance)).bind fun y8182 => (wardmotelaw31_stops_1_p n y8182.1 y8182.2.1 y8182.2.2 2).bind fun y8191 => (if y8191 = true then (wilson_Walk_p n y3 (15 : UInt64) 4 (1 : UInt64) (⟨(1099511627776 : UInt64)⟩ : TChance)).bind fun y8202 => (wardmotelaw31_stops_1_p n y8202.1 y8202.2.1 y8202.2.2 2).bind fun y8211 => (if y8211 = true then (wilson_Walk_p n y3 (0 : UInt64) 0 (0 : UInt64) (⟨(1099511627776 : UInt64)⟩ : TChance)).bind fun y8222 => (wardmotelaw31_stops_1_p n y8222.1 y8222.2.1 y8222.2.2 2).bind fun y8231 => (if y8231 = true then (wilson_Walk_p n y3 (15 : UInt64) 0 (0 : UInt64) (⟨(1099511627776 : UInt64)⟩ : TChance)).bind fun y8242 => (wardmotelaw31_stops_1_p n y8242.1 y8242.2.1 y8242.2.2 4).bind fun y8251 => (if y8251 = true then (wilson_Walk_p n y3 (3 : UInt64) 0 (4 : UInt64) (⟨(1099511627776 : UInt64)⟩ : TChance)).bind fun y8262 => (wardmotelaw31_stops_1_p n y8262.1 y8262.2.1 y8262.2.2 4).bind fun y8271 => (if y8271 = true then (wilson_Walk_p n y3 (1 : UInt64) 0 (15 : UInt64) (⟨(1099511627776 : UInt64)⟩ : TChance)).bind fun y8294 => (wardmotelaw31_goes_1_p n y8294.1 y8294.2.1 y8294.2.2 ([0] : List Int) (⟨(1099511627776 : UInt64)⟩ : TChance)).bind fun y8303 => J7747 (y8303, ([(1, 0)] : List (Int × Int))) else J7747 (false, ([(1, 0)] : List (Int × Int)))) else J7747 (false, ([(1, 0)] : List (Int × Int)))) else J7747 (false, ([(1, 0)] : List (Int × Int)))) else J7747 (false, ([(1, 0)] : List (Int × Int)))) else J7747 (false, ([(1, 0)] : List (Int × Int)))) else J7747 (false, ([(1, 0)] : List (Int × Int)))) else J7747 (false, ([(1, 0)] : List (Int × Int)))) else J7747 (false, ([(1, 0)] : List (Int × Int)))) else J7747 (false, ([(1, 0)] : List (Int × Int))))
def knC (n : Nat) (y3 : TGraph) (q7740 : Bool) (xs7741 : List (Int × Int)) (J7844 : Bool → Option Bool) : Option Bool :=
  (if q7740 = true then (wilson_Draw_p n (⟨2, xs7741⟩ : TGraph) (0 : UInt64) (⟨(1099511627776 : UInt64)⟩ : TChance)).bind fun y8017 => (wardmotelaw31_stops_1_p n y8017.1 y8017.2.1 y8017.2.2 180).bind fun y8026 => (if y8026 = true then (wilson_Draw_p n y3 (16 : UInt64) (⟨(1099511627776 : UInt64)⟩ : TChance)).bind fun y8037 => (wardmotelaw31_stops_1_p n y8037.1 y8037.2.1 y8037.2.2 2).bind fun y8046 => (if y8046 = true then (wilson_Draw_p n (⟨2, ([] : List (Int × Int))⟩ : TGraph) (3 : UInt64) (⟨(1099511627776 : UInt64)⟩ : TChance)).bind fun y8057 => (wardmotelaw31_stops_1_p n y8057.1 y8057.2.1 y8057.2.2 4).bind fun y8068 => (if y8068 = true then (wilson_Draw_p n (⟨64, ([] : List (Int × Int))⟩ : TGraph) (9223372036854775808 : UInt64) (⟨(1099511627776 : UInt64)⟩ : TChance)).bind fun y8084 => (wardmotelaw31_goes_1_p n y8084.1 y8084.2.1 y8084.2.2 ([] : List Int) (⟨(1099511627776 : UInt64)⟩ : TChance)).bind fun y8095 => J7844 y8095 else J7844 false) else J7844 false) else J7844 false) else J7844 false)
def knD (n : Nat) (q7840 : Bool) : Option Bool :=
  Option.bind (loopF (wardmotelaw31_WilsonKnown_l1 n) n (0, ([] : List (Int × Int)))) (fun xs7909 => (wilson_Draw_p n (⟨64, xs7909⟩ : TGraph) (18446744073709551615 : UInt64) (⟨(1099511627776 : UInt64)⟩ : TChance)).bind fun y7944 => (wilson_Walk_p n (⟨64, xs7909⟩ : TGraph) (18446744073709551615 : UInt64) 63 (1 : UInt64) (⟨(1099511627776 : UInt64)⟩ : TChance)).bind fun y7964 => (wardmotelaw31_works_p n).bind fun y7981 => (if y7981 = true then (if q7840 = true then (if y7944.2.2 = 0 then (if y7944.1.length = 63 then (y7944.1[62]?).bind fun x7988 => (if x7988 = 62 then (if y7964.2.2 = 0 then some true else some (decide (y7964.2.2 = 9))) else (if y7944.2.2 = 9 then (if y7964.2.2 = 0 then some true else some (decide (y7964.2.2 = 9))) else some false)) else (if y7944.2.2 = 9 then (if y7964.2.2 = 0 then some true else some (decide (y7964.2.2 = 9))) else some false)) else (if y7944.2.2 = 9 then (if y7964.2.2 = 0 then some true else some (decide (y7964.2.2 = 9))) else some false)) else some false) else some false))
set_option maxRecDepth 100000 in
theorem known_form (n : Nat) : wardmotelaw31_WilsonKnown_p n = (wardmotelaw31_works_p n).bind fun y1 => (if y1 = true then (wardmotelaw31_ring_p n).bind fun y3 => knA n (fun q1 => knB n y3 q1 (fun (q2, xs) => knC n y3 q2 xs (fun q3 => knD n q3))) else some false) := rfl
/-! ### Long walks to erase -/
theorem erase_zeros : wilson_Erase_p 20000 (List.replicate 10001 0) = some ([0], 0) := by
  obtain ⟨r, r1, hE⟩ := erased_props 20000 (List.replicate 10001 0) (by rw [List.length_replicate]; omega) (by omega) (by rw [List.length_replicate]; omega)
  have hall : ∀ (i : Nat) x, r[i]? = some x → x = 0 := fun i x hx => by
    have hi := (List.getElem?_eq_some_iff.1 hx).1
    by_cases h0 : i = 0
    · subst h0
      rw [hE.first, List.getElem?_replicate] at hx
      split at hx
      · cases hx; rfl
      · cases hx
    · obtain ⟨k, _, _, _, k4⟩ := hE.steps i (by omega) hi
      rw [hx, List.getElem?_replicate] at k4
      split at k4
      · cases k4; rfl
      · cases k4
  have hlen : r.length = 1 := by
    have hp := hE.pos
    rcases Nat.lt_or_ge 1 r.length with h | h
    · exfalso
      have e0 := hall 0 _ (List.getElem?_eq_getElem (by omega))
      have e1 := hall 1 _ (List.getElem?_eq_getElem h)
      have := nodup_inj hE.once (e0.trans e1.symm)
      omega
    · omega
  have hr : r = [0] := by
    match r, hlen with
    | [x], _ => rw [hall 0 x rfl]
  unfold wilson_Erase_p
  rw [if_neg (by rw [List.length_replicate]; omega), if_neg (by rw [List.length_replicate]; omega), r1, hr]
  rfl
theorem erase_long : wilson_Erase_p 20000 (List.replicate 10002 0) = some ([], 3) := by
  unfold wilson_Erase_p
  rw [if_neg (by rw [List.length_replicate]; omega), if_pos (by rw [List.length_replicate]; omega)]
theorem mk_ok {n : Int} (h : 0 ≤ n ∧ n ≤ 4294967296) : mk n (0 : Int) = some (List.replicate n.toNat 0) := if_pos h
theorem knA_ok (K : Bool → Option Bool) : knA 20000 K = K true := by
  unfold knA
  rw [mk_ok (n := 10002) (by omega)]
  simp only [obind]
  rw [show ((10002 : Int)).toNat = 10002 from rfl, erase_long]
  simp only [obind]
  rw [show wardmotelaw31_fails_1_p 20000 [] 3 3 = some true by kernel_rfl]
  simp only [obind]
  rw [ifT, mk_ok (n := 10001) (by omega)]
  simp only [obind]
  rw [show ((10001 : Int)).toNat = 10001 from rfl, erase_zeros]
  simp only [obind]
  rw [show wardmotelaw31_lists_1_p 20000 [0] 0 [0] = some true by kernel_rfl]
  simp only [obind]
  rw [ifT]
  kernel_rfl
def ringG : TGraph := ⟨4, [(0, 1), (0, 3), (1, 2), (2, 3)]⟩
theorem knB_ok (K : Bool × (List (Int × Int)) → Option Bool) : knB 20000 ringG true K = K (true, [(1, 0)]) := by kernel_rfl
theorem knC_ok (K : Bool → Option Bool) : knC 20000 ringG true [(1, 0)] K = K true := by kernel_rfl
/-! ### The path -/
def pathE : List (Int × Int) := (List.range 63).map fun i : Nat => ((i : Int), ((i + 1 : Nat) : Int))
def pathG : TGraph := ⟨64, pathE⟩
theorem path_build : loopF (wardmotelaw31_WilsonKnown_l1 20000) 20000 (0, ([] : List (Int × Int))) = some pathE := by kernel_rfl
theorem path_get {i : Nat} {e : Int × Int} (h : pathE[i]? = some e) : i < 63 ∧ e = ((i : Int), ((i + 1 : Nat) : Int)) := by
  unfold pathE at h
  rw [List.getElem?_map] at h
  by_cases hi : i < 63
  · rw [List.getElem?_range hi] at h
    exact ⟨hi, (Option.some.inj h).symm⟩
  · rw [List.getElem?_eq_none (by simp; omega)] at h; cases h
theorem path_at {i : Nat} (h : i < 63) : pathE[i]? = some ((i : Int), ((i + 1 : Nat) : Int)) := by
  unfold pathE
  rw [List.getElem?_map, List.getElem?_range h]
  rfl
theorem path_valid : Valid pathG := by
  have hl : pathE.length = 63 := by simp [pathE]
  refine ⟨by show (1 : Int) ≤ 64; omega, by show (64 : Int) ≤ 64; omega, by show pathE.length ≤ 200; omega, fun e he => ?_, fun i e f he hf => ?_⟩
  · obtain ⟨i, hi⟩ := List.getElem?_of_mem he
    obtain ⟨h1, rfl⟩ := path_get hi
    show 0 ≤ (i : Int) ∧ (i : Int) < ((i + 1 : Nat) : Int) ∧ ((i + 1 : Nat) : Int) < 64
    omega
  · obtain ⟨h1, rfl⟩ := path_get he
    obtain ⟨h2, rfl⟩ := path_get hf
    left
    show (i : Int) < ((i + 1 : Nat) : Int)
    omega
theorem path_adj {a b : Nat} : Adj pathG a b ↔ a < 64 ∧ b < 64 ∧ (b = a + 1 ∨ a = b + 1) := by
  constructor
  · rintro (h | h)
    · obtain ⟨i, hi⟩ := List.getElem?_of_mem h
      obtain ⟨h1, h2⟩ := path_get hi
      have e1 := congrArg Prod.fst h2
      have e2 := congrArg Prod.snd h2
      simp only at e1 e2
      omega
    · obtain ⟨i, hi⟩ := List.getElem?_of_mem h
      obtain ⟨h1, h2⟩ := path_get hi
      have e1 := congrArg Prod.fst h2
      have e2 := congrArg Prod.snd h2
      simp only at e1 e2
      omega
  · rintro ⟨h1, h2, rfl | rfl⟩
    · exact .inl (List.mem_of_getElem? (path_at (i := a) (by omega)))
    · exact .inr (List.mem_of_getElem? (path_at (i := b) (by omega)))
def fullS : UInt64 := 18446744073709551615
theorem full_bit (k : Nat) : bit fullS k = decide (k < 64) := by
  unfold bit
  rw [show fullS.toNat = 2 ^ 64 - 1 from rfl]
  exact Nat.testBit_two_pow_sub_one 64 k
theorem full_fits : Fits pathG.fN fullS := fun k hk => by
  rw [full_bit, decide_eq_true_eq] at hk
  show (k : Int) < 64
  omega
theorem full_low : low fullS = 0 := by decide +kernel
theorem path_way : ∀ b, b < 64 → ∃ m, Way pathG fullS 0 m b
  | 0, _ => ⟨0, .here⟩
  | b + 1, h => by
    obtain ⟨m, hm⟩ := path_way b (by omega)
    exact ⟨m + 1, .on hm (path_adj.2 ⟨by omega, by omega, .inl rfl⟩) (by rw [full_bit]; simpa using h)⟩
theorem path_joined : Joined pathG fullS := ⟨by decide, fun b hb => by
  rw [full_bit, decide_eq_true_eq] at hb
  rw [full_low]
  exact path_way b hb⟩
/-- From a node of the path straight down. -/
theorem path_down {done : UInt64} {z : Nat} {q : List Nat} (hz : 1 ≤ z) (hd : ∀ k, bit done k = true ↔ k < z) (hq : Path pathG fullS done z q) : q = [z, z - 1] := by
  have hpos := hq.pos
  have hf := hq.first
  -- not at once
  have h2 : 1 < q.length := by
    rcases Nat.lt_or_ge 1 q.length with h | h
    · exact h
    · exfalso
      have := (hd z).1 (hq.last 0 z hf (by omega))
      omega
  have hq1 : q[1]? = some (q[1]'h2) := List.getElem?_eq_getElem h2
  have hadj := path_adj.1 (hq.steps 0 z _ hf hq1)
  have inj : ∀ (i j : Nat) a, q[i]? = some a → q[j]? = some a → i = j := fun i j a hi hj => by
    obtain ⟨h1, rfl⟩ := List.getElem?_eq_some_iff.1 hi
    obtain ⟨h2, e⟩ := List.getElem?_eq_some_iff.1 hj
    rcases Nat.lt_trichotomy i j with h | h | h
    · exact absurd e.symm (List.pairwise_iff_getElem.1 hq.once i j h1 h2 h)
    · exact h
    · exact absurd e (List.pairwise_iff_getElem.1 hq.once j i h2 h1 h)
  rcases hadj.2.2 with hup | hdown
  · exfalso
    have up : ∀ d, d + 1 < q.length → ∀ a, q[d + 1]? = some a → z < a := by
      intro d
      induction d with
      | zero => intro _ a ha; rw [hq1] at ha; cases ha; omega
      | succ d ih =>
        intro hd1 a ha
        have hb : q[d + 1]? = some (q[d + 1]'(by omega)) := List.getElem?_eq_getElem _
        have hlt := ih (by omega) _ hb
        have hs := path_adj.1 (hq.steps (d + 1) _ a hb ha)
        have hne : a ≠ z := fun e => by
          subst e
          have := inj (d + 2) 0 a ha hf
          omega
        omega
    have hl : q[q.length - 1]? = some (q[q.length - 1]'(by omega)) := List.getElem?_eq_getElem _
    have h3 := (hd _).1 (hq.last (q.length - 1) _ hl (by omega))
    have h4 := up (q.length - 2) (by omega) _ (by rw [show q.length - 2 + 1 = q.length - 1 by omega]; exact hl)
    omega
  · have hlen : q.length = 2 := by
      rcases Nat.lt_or_ge 2 q.length with h | h
      · exfalso
        have := hq.away 1 _ hq1 (by omega)
        have h5 := (hd (q[1]'h2)).2 (by omega)
        rw [h5] at this; cases this
      · omega
    match q, hlen with
    | [a, b], _ =>
      have ha : a = z := Option.some.inj hf
      have hb : z = b + 1 := hdown
      subst ha
      rw [show a - 1 = b by omega]
def treeL (z : Nat) : List Int := (List.range z).map fun i : Nat => (i : Int)
theorem path_draws (n : Nat) (hn : 10010 < n) : ∀ (m : Nat) (done : UInt64) (z : Nat) (c : UInt64) (left : Int), 1 ≤ z → z ≤ 64 → 64 - z < m → (∀ k, bit done k = true ↔ k < z) → 0 ≤ left → left ≤ 10000 →
    ∃ r, loopF (wilson_Draw_l8 n pathG fullS) m (done, (z : Int), treeL (z - 1), c, left) = some r ∧ (r = .inl ([], ⟨0⟩, 9) ∨ ∃ c', r = .inr (treeL 63, c')) := by
  intro m
  induction m with
  | zero => intro done z c left hz1 hz hm; omega
  | succ m ih =>
    intro done z c left hz1 hz hm hd i4 i5
    simp only [loopF_succ]
    generalize hJ1 : loopF (wilson_Draw_l8 n pathG fullS) m = J1 at *
    unfold wilson_Draw_l8
    simp only
    have hN : pathG.fN = 64 := rfl
    rw [hN]
    by_cases hzN : (z : Int) < 64
    · simp only [if_pos hzN]
      rw [natOf_ok (by omega), Int.toNat_natCast]
      simp only [obind]
      have hsz : bit fullS z = true := by rw [full_bit, decide_eq_true_eq]; omega
      have hdz : bit done z = false := by
        cases h : bit done z with
        | false => rfl
        | true => have := (hd z).1 h; omega
      have hb : bit (fullS &&& ~~~done) z = true := by rw [bit_andNot, hsz, hdz]; rfl
      rw [if_neg (fun e => by rw [(hasnt_iff _ z).1 e] at hb; cases hb)]
      have h0 : bit fullS 0 = true := by rw [full_bit]; rfl
      obtain ⟨mw, hway⟩ := path_joined.way hsz h0
      obtain ⟨r, w1, w2⟩ := walking_ok n pathG path_valid hn fullS done z c left.toNat (by omega) full_fits hsz 0 mw ((hd 0).2 (by omega)) hway
      rw [show ((left.toNat : Nat) : Int) = left by omega] at w1
      obtain ⟨sim1, sim2⟩ := l4_sim n done pathG fullS n (z : Int) [(z : Int)] c left
      rcases w2 with rfl | ⟨w, c', t, rfl, p1, p2, p3, p4, _⟩
      · rw [sim1 _ w1]
        exact ⟨_, rfl, .inl rfl⟩
      · obtain ⟨s1, s2, _⟩ := sim2 _ _ w1
        rw [s2]
        simp only [thn]
        have hwl : 0 < w.length := by
          rcases Nat.eq_zero_or_pos w.length with h0 | h0
          · rw [List.length_eq_zero_iff.1 h0] at p3; simp at p3
          · exact h0
        obtain ⟨r, r1, r2⟩ := erased_props n (w.map fun k : Nat => (k : Int)) (by rw [List.length_map]; omega) (by omega) (by rw [List.length_map]; omega)
        rw [r1]
        simp only [obind]
        obtain ⟨q, rfl, hq⟩ := path_of p1 p3 p4 r2
        have hqq := path_down hz1 hd hq
        subst hqq
        obtain ⟨done', es, n1, n2, n3, n4⟩ := note_ok n pathG path_valid hn [z, z - 1] (by simp) (fun y hy => full_fits y (hq.inside y hy)) hq.steps done (treeL (z - 1)) (by simp [treeL]; omega)
        rw [n1]
        simp only [obind]
        rw [chk_ok (by omega)]
        simp only [obind]
        have hes : es = [((z - 1 : Nat) : Int)] := by
          have hl1 : es.length = 1 := by simpa using n3
          match es, hl1 with
          | [e], _ =>
            obtain ⟨e0, a, b, h1, h2, h3⟩ := n4 0 e rfl
            have ha : z = a := Option.some.inj h1
            have hb : z - 1 = b := Option.some.inj h2
            obtain ⟨h4, h5⟩ := path_get h3
            have h6 := congrArg Prod.fst h5
            simp only at h6
            congr 1
            omega
        subst hes
        have htree : treeL (z - 1) ++ [((z - 1 : Nat) : Int)] = treeL (z + 1 - 1) := by
          unfold treeL
          rw [show z + 1 - 1 = (z - 1) + 1 by omega, List.range_succ, List.map_append]
          rfl
        rw [htree, show ((z : Int) + 1) = ((z + 1 : Nat) : Int) by omega]
        exact ih done' (z + 1) c' _ (by omega) (by omega) (by omega) (fun k => by
          rw [n2, hd]
          simp only [List.mem_cons, List.not_mem_nil, or_false]
          omega) (by simp only [List.length_map, List.length_singleton]; omega) (by simp only [List.length_map, List.length_singleton]; omega)
    · simp only [if_neg hzN]
      have : z = 64 := by omega
      subst this
      exact ⟨_, rfl, .inr ⟨c, rfl⟩⟩
def tree63 : List Int := [0, 1, 2, 3, 4, 5, 6, 7, 8, 9, 10, 11, 12, 13, 14, 15, 16, 17, 18, 19, 20, 21, 22, 23, 24, 25, 26, 27, 28, 29, 30, 31, 32, 33, 34, 35, 36, 37, 38, 39, 40, 41, 42, 43, 44, 45, 46, 47, 48, 49, 50, 51, 52, 53, 54, 55, 56, 57, 58, 59, 60, 61, 62]
theorem tree63_eq : treeL 63 = tree63 := by decide +kernel
theorem pivot63 : slices_choosePivotOrdered_int_p 20000 tree63 0 63 = some (30, 1) := by kernel_rfl
theorem insert63 : slices_partialInsertionSortOrdered_int_p 20000 tree63 0 63 = some true := by kernel_rfl
theorem path_sort (u : UInt64) : loopF (wilson_Draw_l7 20000 tree63 u) 20000 (0, 63, 6, true, true) = some (tree63, ⟨u⟩, 0) := by
  rw [loopF_succ (n := 19999)]
  generalize loopF (wilson_Draw_l7 20000 tree63 u) 19999 = J
  unfold wilson_Draw_l7
  simp only
  rw [chk_ok (by omega)]
  simp only [obind]
  rw [if_neg (by omega), if_neg (by omega), ifT]
  have e0 : (((0 : Nat) : Int)) = 0 := rfl
  have e1 : (((63 : Nat) : Int)) = 63 := rfl
  rw [e0, e1, pivot63]
  simp only [obind]
  rw [if_neg (by omega), ifT]
  simp only [jn]
  rw [ifT, insert63]
  simp only [obind]
  rw [ifT]
theorem path_draw_of (g : TGraph) (s : UInt64) (hV : Valid g) (hF : Fits g.fN s) (hJ : Joined g s) (hl : low s = 0) (hN : g.fN = 64) (c : TChance)
    (D : ∃ r, loopF (wilson_Draw_l8 20000 g s) 19999 (shlU 1 0, ((1 : Nat) : Int), treeL (1 - 1), c.fState, 10000) = some r ∧ (r = .inl ([], ⟨0⟩, 9) ∨ ∃ c', r = .inr (treeL 63, c'))) :
    ∃ t c' e, wilson_Draw_p 20000 g s c = some (t, c', e) ∧ (e = 9 ∨ e = 0 ∧ t = treeL 63) := by
  unfold wilson_Draw_p
  rw [hV.check (by omega)]
  simp only [obind]
  rw [ifT, if_neg hJ.1]
  obtain ⟨b1, f1, f2⟩ := fits_p 20000 g s (by omega)
  have : b1 = true := f2.2 hF
  subst this
  rw [f1]
  simp only [obind]
  rw [ifT]
  obtain ⟨b, c1, c2⟩ := connected_ok 20000 g hV (by omega) s hF
  have : b = true := c2.2 hJ
  subst this
  rw [c1]
  simp only [obind]
  rw [ifT, and_neg64 hJ.1, hl]
  obtain ⟨r, d1, d2⟩ := D
  have hfirst : loopF (wilson_Draw_l8 20000 g s) 20000 (shlU 1 0, 0, [], c.fState, 10000) = loopF (wilson_Draw_l8 20000 g s) 19999 (shlU 1 0, ((1 : Nat) : Int), treeL (1 - 1), c.fState, 10000) := by
    rw [loopF_succ (n := 19999)]
    generalize loopF (wilson_Draw_l8 20000 g s) 19999 = J
    unfold wilson_Draw_l8
    simp only
    rw [if_pos (by omega), natOf_ok (by omega)]
    simp only [obind]
    have hb : bit (s &&& ~~~(shlU 1 0)) (0 : Int).toNat = false := by
      rw [bit_andNot, bit_one (by omega)]
      simp
    rw [if_pos ((hasnt_iff _ _).2 hb), chk_ok (by omega)]
    rfl
  rw [hfirst, d1]
  rcases d2 with rfl | ⟨c', rfl⟩
  · exact ⟨_, _, _, rfl, .inl rfl⟩
  · simp only [thn]
    have hl : (treeL 63).length = 63 := by decide +kernel
    rw [hl, show math_bits_Len_p 20000 (u64of ((63 : Nat) : Int)) = some 6 by kernel_rfl]
    simp only [obind]
    rw [tree63_eq, path_sort]
    exact ⟨_, _, _, rfl, .inr ⟨rfl, rfl⟩⟩
theorem path_draw (c : TChance) : ∃ t c' e, wilson_Draw_p 20000 pathG fullS c = some (t, c', e) ∧ (e = 9 ∨ e = 0 ∧ t = treeL 63) :=
  path_draw_of pathG fullS path_valid full_fits path_joined full_low rfl c
    (path_draws 20000 (by omega) 19999 (shlU 1 0) 1 c.fState 10000 (by omega) (by omega) (by omega) (fun k => by rw [bit_one (by omega), decide_eq_true_eq]; omega) (by omega) (by omega))
theorem knD_ok : knD 20000 true = some true := by
  unfold knD
  rw [path_build]
  simp only [obind]
  obtain ⟨t, c', e, d1, d2⟩ := path_draw ⟨1099511627776⟩
  rw [show (⟨64, pathE⟩ : TGraph) = pathG from rfl, show (18446744073709551615 : UInt64) = fullS from rfl, d1]
  simp only [obind]
  have hv : Fits pathG.fN (1 : UInt64) := fun k hk => by have := bit_lt hk; show (k : Int) < 64; omega
  obtain ⟨r, r1, r2, _⟩ := walk_ok 20000 pathG path_valid (by omega) fullS 1 63 ⟨1099511627776⟩ full_fits hv (by decide)
  rw [show ((63 : Nat) : Int) = 63 from rfl] at r1
  rw [r1]
  simp only [obind]
  rw [works_true]
  simp only [obind]
  rw [ifT, ifT]
  have hr : r.2.2 = 0 ∨ r.2.2 = 9 := by
    have h63 : bit fullS 63 = true := by decide +kernel
    rcases r2 with ⟨h, _⟩ | ⟨_, ⟨hno, _⟩ | ⟨_, rfl | ⟨w, c2, z, rfl, _⟩⟩⟩
    · rw [h63] at h; cases h
    · exfalso
      apply hno
      obtain ⟨m, hm⟩ := path_joined.way h63 (show bit fullS 0 = true by decide +kernel)
      exact ⟨m, 0, hm, by decide +kernel⟩
    · exact .inr rfl
    · exact .inl rfl
  have hfin : (if r.2.2 = 0 then some true else some (decide (r.2.2 = 9))) = some true := by
    rcases hr with h | h
    · rw [if_pos h]
    · rw [if_neg (by omega), decide_eq_true h]
  rcases d2 with rfl | ⟨rfl, rfl⟩
  · rw [hfin]
    rw [if_neg (by decide), if_pos rfl]
  · rw [hfin]
    have h62 : (treeL 63)[62]? = some 62 := by decide +kernel
    rw [if_pos rfl, if_pos (show (treeL 63).length = 63 by decide +kernel), h62]
    simp only [obind]
    rw [ifT]
theorem wilsonKnown_true : ∃ n, wardmotelaw31_WilsonKnown_p n = some true := by
  refine ⟨20000, ?_⟩
  rw [known_form, works_true]
  simp only [obind]
  rw [ifT, show wardmotelaw31_ring_p 20000 = some ringG from rfl]
  simp only [obind]
  rw [knA_ok, knB_ok, knC_ok, knD_ok]
end Go.Proofs.YtplkfbljncfdnaaDoor
