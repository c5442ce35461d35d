/- EditStays: the plain law. No program in sight but the printed functions. -/
import Derived.Test.YtcijnmkodpfpgaaGreatDoorWYEr
import Derived.Test.YtcijnmkodpfpgaaGreatDoorWYEq
namespace Go.Proofs.YtcijnmkodpfpgaaGreatDoor
open Go
theorem jn_at {α β : Type} {K : α → Option β} {B : (α → Option β) → Option β} {z : β} (a : α) (hB : ∀ J, B J = J a) (hK : K a = some z) : jn K B = some z := (hB K).trans hK
theorem redoO_valid {us : List TUnit} {n : Nat} {s : TSession} (h : SOk us n s) (h0 : (redoO us n s).2 = 0) : SOk us n (redoO us n s).1 := (redo_undo h h0).1
theorem stays {g : TGraph} {r : TRoll} {us : List TUnit} (cs : Case g r us) (y : TSession × Int) (h1 : y.2 = 0 → SOk us us.length y.1) (h2 : y.2 ≠ 0 → y.1 = S0) {β : Type} (J : Bool → Option β) :
    (if y.2 = 0 then (edit_Check_p FU g r y.1).bind fun z => (if z = 0 then J false else J true) else (edit_Same_p FU y.1 (⟨(0 : Int), ([] : List Int), ([] : List Int), ([] : List TMove), ([] : List TMove)⟩ : TSession)).bind fun z => J (!z)) = J false := by
  by_cases h0 : y.2 = 0
  · rw [if_pos h0, checkE_ok cs _ (sok_small cs (h1 h0)), obind, chkO_ok (h1 h0), if_pos rfl]
  · rw [if_neg h0, h2 h0, sameP_ok S0 _ s0_small, obind, show decide (S0 = (⟨(0 : Int), ([] : List Int), ([] : List Int), ([] : List TMove), ([] : List TMove)⟩ : TSession)) = true from decide_eq_true rfl]; rfl
theorem editStays_ex (c : TScene) (b : TBend) (v : UInt8 × UInt8) : ∃ n, wardmotelaw26_EditStays_p n c b v = some true := by
  refine ⟨FU, ?_⟩
  obtain ⟨g, r, p, k, us, e1, cs, hk, hfit⟩ := set_ok c
  obtain ⟨s0, e2, hs0, hc⟩ := session_ok cs hk hfit c.fL
  have hl := cs.roll.len
  obtain ⟨s, e3, hb⟩ := bend_ok b s0 (by rw [hs0.fits.1]; omega) (by rw [hs0.tot, tl_len]; have := hs0.k; omega) (by unfold cnt at hc; omega) (by unfold cnt at hc; omega)
  have hsm : Small s := by unfold Small; omega
  unfold wardmotelaw26_EditStays_p
  rw [works26, obind, if_pos rfl, e1, obind]
  simp only
  rw [e2, obind, e3, obind, remI_ok (by rw [cs.n]; omega), obind, remI_ok (by omega), obind, checkR_ok cs s hsm, obind, checkE_ok cs s hsm, obind, if_pos rfl]
  have u0 : 0 ≤ Int.tmod ((v.1.toNat : Nat) : Int) g.fN := Int.tmod_nonneg _ (by omega)
  have u1 : Int.tmod ((v.1.toNat : Nat) : Int) g.fN < us.length := by rw [cs.n]; exact Int.tmod_lt_of_pos _ (by omega)
  have t0 : 0 ≤ Int.tmod ((v.2.toNat : Nat) : Int) k := Int.tmod_nonneg _ (by omega)
  have t1 : Int.tmod ((v.2.toNat : Nat) : Int) k < k := Int.tmod_lt_of_pos _ (by omega)
  generalize Int.tmod _ g.fN = u at u0 u1 ⊢
  generalize Int.tmod _ k = t at t0 t1 ⊢
  rw [makeP_ok cs s hsm, obind, undoP_ok cs s hsm, obind, redoP_ok cs s hsm, obind]
  by_cases h : SOk us us.length s
  · rw [chkO_ok h, if_pos rfl]
    have m1 : (makeO us us.length s u t).2 ≠ 0 → (makeO us us.length s u t).1 = S0 := fun hn => by
      rcases makeO_cases h u t with ⟨e, he, _⟩ | ⟨q, _, _, _, he⟩
      · rw [he]
      · rw [he] at hn; exact absurd rfl hn
    have n1 : (undoO us us.length s).2 ≠ 0 → (undoO us us.length s).1 = S0 := fun hn => by
      rcases undoO_cases h with ⟨e, he, _⟩ | ⟨l, m, q, _, _, _, he, _⟩
      · rw [he]
      · rw [he] at hn; exact absurd rfl hn
    have r1 : (redoO us us.length s).2 ≠ 0 → (redoO us us.length s).1 = S0 := fun hn => by
      rcases redoO_cases h with ⟨e, he, _⟩ | ⟨l, m, q, _, _, _, he, _⟩
      · rw [he]
      · rw [he] at hn; exact absurd rfl hn
    refine jn_at false (fun J => stays cs _ (fun h0 => makeO_valid h u t h0) m1 J) ?_
    try simp only
    rw [if_neg (by decide)]
    refine jn_at false (fun J => stays cs _ (fun h0 => (undo_redo h h0).1) n1 J) ?_
    try simp only
    rw [if_neg (by decide)]
    refine jn_at false (fun J => stays cs _ (fun h0 => redoO_valid h h0) r1 J) ?_
    try simp only
    rw [if_neg (by decide)]
    rcases makeO_cases h u t with ⟨e, he, h1⟩ | ⟨q, hm, hq, hd, he⟩
    · have h3 : e = 2 ∨ e = 4 := by
        rcases h1 with h1 | h1 | h1
        · exact .inl h1
        · exact .inr h1
        · exfalso
          subst h1
          unfold makeO at he
          rw [if_pos h] at he
          split at he
          · split at he
            · exact absurd (congrArg Prod.snd he) (by simp only; decide)
            · rw [if_pos (by omega)] at he; exact absurd (congrArg Prod.snd he) (by simp only; decide)
          · exact absurd (congrArg Prod.snd he) (by simp only; decide)
      rw [he]
      simp only
      rcases h3 with rfl | rfl
      · rw [if_neg (by decide), if_pos rfl]
      · rw [if_neg (by decide), if_neg (by decide)]; rfl
    · have hup : u.toNat < s.fPlan.length := by have := h.fits.1; omega
      have hget : s.fPlan[u.toNat]? = some s.fPlan[u.toNat]! := by rw [getElem!_pos s.fPlan u.toNat hup, List.getElem?_eq_getElem hup]
      obtain ⟨_, _, rfl⟩ := putO_some hq
      rw [he]
      simp only
      rw [if_pos trivial, h.tot]
      have st := step_totals cs h.fits hm h.k.2 hget (fun ys => (slices_Equal_int_int_p FU ys (tlO us (s.fPlan.set u.toNat t) s.fK)).bind fun y2011 => (if y2011 = true then (if (((s.fPlan.set u.toNat t).length : Nat) : Int) = g.fN then (idx (s.fPlan.set u.toNat t) u).bind fun x2018 => some (decide (x2018 = t)) else some false) else some false))
      have fin : (slices_Equal_int_int_p FU (tlO us (s.fPlan.set u.toNat t) s.fK) (tlO us (s.fPlan.set u.toNat t) s.fK)).bind (fun y2011 => (if y2011 = true then (if (((s.fPlan.set u.toNat t).length : Nat) : Int) = g.fN then (idx (s.fPlan.set u.toNat t) u).bind fun x2018 => some (decide (x2018 = t)) else some false) else some false)) = some true := by
        rw [equal_ok _ _ (by rw [tl_len]; have := h.k; omega), obind, if_pos (decide_eq_true rfl), if_pos (by rw [List.length_set, h.fits.1, cs.n]), idx_ok u0 (by rw [List.length_set]; exact hup), obind, List.getElem_set_self, decide_eq_true rfl]
      refine Eq.trans ?_ (st.trans fin)
      rw [cloneI_ok _ (by rw [tl_len]; have := h.k; omega), obind, idx_ok u0 hup, obind, getElem!_pos s.fPlan u.toNat hup]
      rfl
  · have e1 : makeO us us.length s u t = (S0, chkO us us.length s) := by unfold makeO; rw [if_neg h]
    have e2 : undoO us us.length s = (S0, chkO us us.length s) := by unfold undoO; rw [if_neg h]
    have e3 : redoO us us.length s = (S0, chkO us us.length s) := by unfold redoO; rw [if_neg h]
    rw [if_neg (chkO_no h), e1, e2, e3]
    simp only
    rw [if_pos trivial, if_pos trivial] <;> simp
end Go.Proofs.YtcijnmkodpfpgaaGreatDoor
