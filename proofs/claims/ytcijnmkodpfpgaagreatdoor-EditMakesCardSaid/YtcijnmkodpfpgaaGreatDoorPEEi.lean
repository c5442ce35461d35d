/- EditMakes: the plain law. No program in sight but the printed functions. -/
import Derived.Test.YtcijnmkodpfpgaaGreatDoorPEEh
namespace Go.Proofs.YtcijnmkodpfpgaaGreatDoor
open Go
theorem works26 : wardmotelaw26_works_p FU = some true := by kernel_rfl
theorem same_self (a : TSession) (h : Small a) : wardmoteref26_Same_p FU a a = some true := by rw [same_ok a a h, decide_eq_true rfl]
theorem editMakes_ex (c : TScene) (b : TBend) (v : UInt8 × UInt8) (u t : Int) : ∃ n, wardmotelaw26_EditMakes_p n c b v u t = some true := by
  refine ⟨FU, ?_⟩
  obtain ⟨g, r, p, k, us, e1, cs, hk, hfit⟩ := set_ok c
  obtain ⟨s, e2, hs, hc⟩ := session_ok cs hk hfit c.fL
  have hsm := sok_small cs hs
  have hl := cs.roll.len
  obtain ⟨s', e3, hsm'⟩ := bend_ok b s (by rw [hs.fits.1]; omega) (by rw [hs.tot, tl_len]; have := hs.k; omega) (by unfold cnt at hc; omega) (by unfold cnt at hc; omega)
  have q : ∀ (z : TSession) (a b : Int), wardmoteref26_Same_p FU (makeO us us.length z a b).1 (makeO us us.length z a b).1 = some true := fun z a b => same_self _ (makeO_small cs z a b)
  unfold wardmotelaw26_EditMakes_p
  rw [works26, obind, if_pos rfl, e1, obind]
  simp only
  rw [e2, obind, e3, obind, remI_ok (by rw [cs.n]; omega), obind, remI_ok (by omega), obind]
  simp only [makeP_ok cs s hsm, makeR_ok cs s hsm, makeP_ok cs s' hsm', makeR_ok cs s' hsm', obind, q, if_true]
end Go.Proofs.YtcijnmkodpfpgaaGreatDoor
