/- EditBack: the plain law. No program in sight but the printed functions. -/
import Derived.Test.YtcijnmkodpfpgaaGreatDoorQBEr
namespace Go.Proofs.YtcijnmkodpfpgaaGreatDoor
open Go
theorem jn_true {B : (Unit → Option Bool) → Option Bool} {K : Unit → Option Bool} (hK : K () = some true) (hB : ∀ J : Unit → Option Bool, J () = some true → B J = some true) : jn K B = some true := hB K hK
theorem is_self (s : TSession) (h : Small s) : wardmotelaw26_is_1_p FU s 0 s = some true := by
  unfold wardmotelaw26_is_1_p
  rw [same_self s h, obind, if_pos rfl]
  rfl
theorem editBack_ex (c : TScene) (v : UInt8 × UInt8) : ∃ n, wardmotelaw26_EditBack_p n c v = some true := by
  refine ⟨FU, ?_⟩
  obtain ⟨g, r, p, k, us, e1, cs, hk, hfit⟩ := set_ok c
  obtain ⟨s, e2, hs, hc⟩ := session_ok cs hk hfit c.fL
  have hsm := sok_small cs hs
  have hl := cs.roll.len
  unfold wardmotelaw26_EditBack_p
  rw [works26, obind, if_pos rfl, e1, obind]
  simp only
  rw [e2, obind, checkE_ok cs s hsm, obind, chkO_ok hs, if_pos rfl, remI_ok (by rw [cs.n]; omega), obind, remI_ok (by omega), obind]
  generalize Int.tmod _ g.fN = u
  generalize Int.tmod _ k = t
  rw [makeP_ok cs s hsm, obind]
  have back : (redoO us us.length s).2 = 0 → (edit_Undo_p FU g r (redoO us us.length s).1).bind (fun y => (wardmotelaw26_is_1_p FU y.1 y.2 s).bind fun z => some z) = some true := fun h0 => by
    obtain ⟨v1, v2⟩ := redo_undo hs h0
    rw [undoP_ok cs _ (sok_small cs v1), obind, v2, is_self s hsm, obind]
  refine jn_true ?_ fun J hJ => ?_
  · try simp only
    rw [undoP_ok cs s hsm, obind, redoP_ok cs s hsm]
    by_cases hu : (undoO us us.length s).2 = 0
    · obtain ⟨v1, v2⟩ := undo_redo hs hu
      rw [if_pos hu, redoP_ok cs _ (sok_small cs v1), obind, v2, is_self s hsm, obind, if_pos rfl, obind]
      by_cases hr : (redoO us us.length s).2 = 0
      · rw [if_pos hr]; exact back hr
      · rw [if_neg hr]
    · rw [if_neg hu, obind]
      by_cases hr : (redoO us us.length s).2 = 0
      · rw [if_pos hr]; exact back hr
      · rw [if_neg hr]
  · try simp only
    rcases makeO_cases hs u t with ⟨e, he, h1⟩ | ⟨q, hm, hq, hd, he⟩
    · rw [he, if_neg (by simp only; omega)]; exact hJ
    · have v1 := make_valid hs hm hq hd
      have hb := put_back hs.fits hm hq
      have u1 := undoO_eq v1 (l := s.fDone) (m := ⟨u, s.fPlan[u.toNat]!, t⟩) rfl (by simp) hb
      simp only [List.nil_append] at u1
      obtain ⟨v2, r1⟩ := undo_redo v1 (by rw [u1])
      rw [u1] at v2 r1
      rw [he, if_pos rfl, undoP_ok cs _ (sok_small cs v1), obind, u1]
      simp only
      rw [if_pos (by simp), if_neg (by simp), if_pos (by simp)]
      simp only [List.getElem?_cons_zero, obind, List.getElem?_concat_length]
      rw [if_pos trivial, if_pos trivial, sameP_ok _ _ (sok_small cs v2), obind, redoP_ok cs _ (sok_small cs v2), if_pos (by rw [← hs.tot]; exact decide_eq_true rfl), obind, r1]
      simp only
      rw [is_self _ (sok_small cs v1), obind, if_pos rfl]
      exact hJ
end Go.Proofs.YtcijnmkodpfpgaaGreatDoor
