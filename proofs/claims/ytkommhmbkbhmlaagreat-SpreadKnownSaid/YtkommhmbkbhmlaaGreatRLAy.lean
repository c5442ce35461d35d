/- Plain law of SpreadKnown, put together. No program in sight but the printed functions. -/
import Derived.Test.YtkommhmbkbhmlaaGreatRLAx
import Derived.Test.YtkommhmbkbhmlaaGreatRL9
namespace Go.Proofs.YtkommhmbkbhmlaaGreat
open Go
set_option maxRecDepth 20000
theorem iQ:bf_p FU = some true:=by kernel_rfl
theorem l1_ok:az (aC_l1 FU) FU (0,[]) = some ((sqs 401).map Sg):=by
 have hF:=aT
 have hh:=aN (B:=aC_l1 FU) (fun s=>401 - s.1) (fun s=>s.1 <= 401/\s.2 = (sqs s.1).map Sg) (fun r=>r = (sqs 401).map Sg) ?_ FU (0,[]) ⟨Nat.zero_le _,rfl⟩ (by simp only; omega)
 ·obtain ⟨r,e,rfl⟩:=hh
  exact e
 ·rintro ⟨i,xs⟩ J ⟨hi,hx⟩ hJ
  simp only at hi hx hJ
  subst hx
  unfold aC_l1
  simp only
  by_cases c:i < 401
  ·have h1:i * i <= 401 * 401:=Nat.mul_le_mul hi hi
   have hs:=iz i
   rw [if_pos c,<- Int.natCast_mul]
   generalize i * i = z at h1 hs ⊢
   rw [cm (by omega) (by omega),ab,qG (by decide) (by unfold Sm; omega) (by unfold Sm; decide),ab,appS _ _ (by simp only [List.length_map,bt,leC,leN]; omega),ab]
   refine hJ _ ⟨c,?_⟩ (by simp only; omega)
   simp only
   rw [hs,List.map_append]; rfl
  ·rw [if_neg c]
   refine ⟨_,I,?_⟩
   rw [show i = 401 by omega]
theorem is_fl:av_p FU (fl.map ms) 0 (fl.map ms) = some true:=by
 unfold av_p
 rw [sameD fl_ds.fq fl_ds.fq (by have:=fl_ds.len; omega),ab,if_pos (decide_eq_true I)]; rfl
theorem bE {α β:Type} {f:Oa α} {v:α} (h:f = some v) (k:α -> Oa β):f.bind k = k v:=by rw [h]; rfl
theorem bG {α β:Type} {f:Oa α} (h:f.isSome = true) (k:α -> Oa β):f.bind k = k (f.get h):=by
 cases f with
 | none=>cases h
 | some v=>rfl
theorem iT {β:Type} {p:Prop} [Decidable p] (h:decide p = true) (a b:Oa β):(if p then a else b) = a:=if_pos (of_decide_eq_true h)
theorem iF {β:Type} {p:Prop} [Decidable p] (h:decide p = false) (a b:Oa β):(if p then a else b) = b:=if_neg (of_decide_eq_false h)
set_option maxHeartbeats 4000000 in
theorem fO:aC_p FU = some true:=by
 unfold aC_p
 refine (bE iQ _).trans ?_
 refine (iT (by kernel_rfl) _ _).trans ?_
 refine (bE made_d2 _).trans ?_
 refine (bG (by kernel_rfl) _).trans ?_
 refine (bG (by kernel_rfl) _).trans ?_
 refine (bG (by kernel_rfl) _).trans ?_
 refine (iT (by kernel_rfl) _ _).trans ?_
 refine (bG (by kernel_rfl) _).trans ?_
 refine (iT (by kernel_rfl) _ _).trans ?_
 refine (bG (by kernel_rfl) _).trans ?_
 refine (iT (by kernel_rfl) _ _).trans ?_
 refine (bG (by kernel_rfl) _).trans ?_
 refine (bG (by kernel_rfl) _).trans ?_
 refine (bG (by kernel_rfl) _).trans ?_
 refine (bG (by kernel_rfl) _).trans ?_
 refine (bG (by kernel_rfl) _).trans ?_
 refine (bG (by kernel_rfl) _).trans ?_
 refine (bG (by kernel_rfl) _).trans ?_
 refine (bG (by kernel_rfl) _).trans ?_
 refine (bG (by kernel_rfl) _).trans ?_
 refine (iT (by kernel_rfl) _ _).trans ?_
 refine (bG (by kernel_rfl) _).trans ?_
 refine (bG (by kernel_rfl) _).trans ?_
 refine (iT (by kernel_rfl) _ _).trans ?_
 refine (bG (by kernel_rfl) _).trans ?_
 refine (bG (by kernel_rfl) _).trans ?_
 refine (iT (by kernel_rfl) _ _).trans ?_
 refine (bG (by kernel_rfl) _).trans ?_
 refine (bG (by kernel_rfl) _).trans ?_
 refine (iT (by kernel_rfl) _ _).trans ?_
 refine (bG (by kernel_rfl) _).trans ?_
 refine (bG (by kernel_rfl) _).trans ?_
 refine (iT (by kernel_rfl) _ _).trans ?_
 refine (bG (by kernel_rfl) _).trans ?_
 refine (bG (by kernel_rfl) _).trans ?_
 refine (iT (by kernel_rfl) _ _).trans ?_
 refine (bG (by kernel_rfl) _).trans ?_
 refine (bG (by kernel_rfl) _).trans ?_
 refine (iT (by kernel_rfl) _ _).trans ?_
 refine (bG (by kernel_rfl) _).trans ?_
 refine (iT (by kernel_rfl) _ _).trans ?_
 refine (bG (by kernel_rfl) _).trans ?_
 refine (bG (by kernel_rfl) _).trans ?_
 refine (iT (by kernel_rfl) _ _).trans ?_
 refine (bG (by kernel_rfl) _).trans ?_
 refine (bG (by kernel_rfl) _).trans ?_
 refine (iT (by kernel_rfl) _ _).trans ?_
 refine (bG (by kernel_rfl) _).trans ?_
 refine (bG (by kernel_rfl) _).trans ?_
 refine (iT (by kernel_rfl) _ _).trans ?_
 refine (bG (by kernel_rfl) _).trans ?_
 refine (bG (by kernel_rfl) _).trans ?_
 refine (iT (by kernel_rfl) _ _).trans ?_
 refine (bG (by kernel_rfl) _).trans ?_
 refine (bG (by kernel_rfl) _).trans ?_
 refine (iT (by kernel_rfl) _ _).trans ?_
 refine (bG (by kernel_rfl) _).trans ?_
 refine (bG (by kernel_rfl) _).trans ?_
 refine (iT (by kernel_rfl) _ _).trans ?_
 refine (bG (by kernel_rfl) _).trans ?_
 refine (iT (by kernel_rfl) _ _).trans ?_
 refine (bG (by kernel_rfl) _).trans ?_
 refine (bG (by kernel_rfl) _).trans ?_
 refine (iT (by kernel_rfl) _ _).trans ?_
 refine (bG (by kernel_rfl) _).trans ?_
 refine (bG (by kernel_rfl) _).trans ?_
 refine (iT (by kernel_rfl) _ _).trans ?_
 refine (bG (by kernel_rfl) _).trans ?_
 refine (bG (by kernel_rfl) _).trans ?_
 refine (iT (by kernel_rfl) _ _).trans ?_
 refine (bG (by kernel_rfl) _).trans ?_
 refine (bG (by kernel_rfl) _).trans ?_
 refine (iT (by kernel_rfl) _ _).trans ?_
 refine (bG (by kernel_rfl) _).trans ?_
 refine (bG (by kernel_rfl) _).trans ?_
 refine (iT (by kernel_rfl) _ _).trans ?_
 refine (bG (by kernel_rfl) _).trans ?_
 refine (bG (by kernel_rfl) _).trans ?_
 refine (iT (by kernel_rfl) _ _).trans ?_
 refine (bG (by kernel_rfl) _).trans ?_
 refine (iT (by kernel_rfl) _ _).trans ?_
 refine (bG (by kernel_rfl) _).trans ?_
 refine (bG (by kernel_rfl) _).trans ?_
 refine (iT (by kernel_rfl) _ _).trans ?_
 refine (bG (by kernel_rfl) _).trans ?_
 refine (bG (by kernel_rfl) _).trans ?_
 refine (iT (by kernel_rfl) _ _).trans ?_
 refine (bG (by kernel_rfl) _).trans ?_
 refine (bG (by kernel_rfl) _).trans ?_
 refine (iT (by kernel_rfl) _ _).trans ?_
 refine (bG (by kernel_rfl) _).trans ?_
 refine (bG (by kernel_rfl) _).trans ?_
 refine (iT (by kernel_rfl) _ _).trans ?_
 refine (bG (by kernel_rfl) _).trans ?_
 refine (bG (by kernel_rfl) _).trans ?_
 refine (iT (by kernel_rfl) _ _).trans ?_
 refine (bG (by kernel_rfl) _).trans ?_
 refine (bG (by kernel_rfl) _).trans ?_
 refine (iT (by kernel_rfl) _ _).trans ?_
 refine (bG (by kernel_rfl) _).trans ?_
 refine (iT (by kernel_rfl) _ _).trans ?_
 refine (bG (by kernel_rfl) _).trans ?_
 refine (bG (by kernel_rfl) _).trans ?_
 refine (iT (by kernel_rfl) _ _).trans ?_
 refine (bG (by kernel_rfl) _).trans ?_
 refine (bG (by kernel_rfl) _).trans ?_
 refine (iT (by kernel_rfl) _ _).trans ?_
 refine (bG (by kernel_rfl) _).trans ?_
 refine (bG (by kernel_rfl) _).trans ?_
 refine (iT (by kernel_rfl) _ _).trans ?_
 refine (bG (by kernel_rfl) _).trans ?_
 refine (bG (by kernel_rfl) _).trans ?_
 refine (iT (by kernel_rfl) _ _).trans ?_
 refine (bG (by kernel_rfl) _).trans ?_
 refine (bG (by kernel_rfl) _).trans ?_
 refine (iT (by kernel_rfl) _ _).trans ?_
 refine (bG (by kernel_rfl) _).trans ?_
 refine (bG (by kernel_rfl) _).trans ?_
 refine (iT (by kernel_rfl) _ _).trans ?_
 refine (bG (by kernel_rfl) _).trans ?_
 refine (iT (by kernel_rfl) _ _).trans ?_
 refine (bG (by kernel_rfl) _).trans ?_
 refine (bG (by kernel_rfl) _).trans ?_
 refine (iT (by kernel_rfl) _ _).trans ?_
 refine (bG (by kernel_rfl) _).trans ?_
 refine (bG (by kernel_rfl) _).trans ?_
 refine (iT (by kernel_rfl) _ _).trans ?_
 refine (bG (by kernel_rfl) _).trans ?_
 refine (bG (by kernel_rfl) _).trans ?_
 refine (iT (by kernel_rfl) _ _).trans ?_
 refine (bG (by kernel_rfl) _).trans ?_
 refine (bG (by kernel_rfl) _).trans ?_
 refine (iT (by kernel_rfl) _ _).trans ?_
 refine (bG (by kernel_rfl) _).trans ?_
 refine (bG (by kernel_rfl) _).trans ?_
 refine (iT (by kernel_rfl) _ _).trans ?_
 refine (bG (by kernel_rfl) _).trans ?_
 refine (bG (by kernel_rfl) _).trans ?_
 refine (iT (by kernel_rfl) _ _).trans ?_
 refine (bG (by kernel_rfl) _).trans ?_
 refine (iT (by kernel_rfl) _ _).trans ?_
 refine (bG (by kernel_rfl) _).trans ?_
 refine (bG (by kernel_rfl) _).trans ?_
 refine (iT (by kernel_rfl) _ _).trans ?_
 refine (bG (by kernel_rfl) _).trans ?_
 refine (bG (by kernel_rfl) _).trans ?_
 refine (iT (by kernel_rfl) _ _).trans ?_
 refine (bG (by kernel_rfl) _).trans ?_
 refine (bG (by kernel_rfl) _).trans ?_
 refine (iT (by kernel_rfl) _ _).trans ?_
 refine (bG (by kernel_rfl) _).trans ?_
 refine (bG (by kernel_rfl) _).trans ?_
 refine (iT (by kernel_rfl) _ _).trans ?_
 refine (bG (by kernel_rfl) _).trans ?_
 refine (bG (by kernel_rfl) _).trans ?_
 refine (iT (by kernel_rfl) _ _).trans ?_
 refine (bG (by kernel_rfl) _).trans ?_
 refine (bG (by kernel_rfl) _).trans ?_
 refine (iT (by kernel_rfl) _ _).trans ?_
 unfold aH
 refine (bE l1_ok _).trans ?_
 refine (bE cut_sqs _).trans ?_
 refine (bE ld _).trans ?_
 refine (bG (by kernel_rfl) _).trans ?_
 refine (iF (by kernel_rfl) _ _).trans ?_
 refine (iT (by kernel_rfl) _ _).trans ?_
 refine (bE (io fl_ds) _).trans ?_
 refine (iT (by kernel_rfl) _ _).trans ?_
 refine (bE jh _).trans ?_
 refine (bG (by kernel_rfl) _).trans ?_
 refine (iT (by kernel_rfl) _ _).trans ?_
 refine (bG (by kernel_rfl) _).trans ?_
 refine (bG (by kernel_rfl) _).trans ?_
 refine (bG (by kernel_rfl) _).trans ?_
 refine (iT (by kernel_rfl) _ _).trans ?_
 refine (bE sum_d2 _).trans ?_
 refine (bG (by kernel_rfl) _).trans ?_
 refine (iT (by kernel_rfl) _ _).trans ?_
 refine (bE made_p0 _).trans ?_
 refine (bE sum_p0 _).trans ?_
 refine (bE is_fl _).trans ?_
 refine (iT (by kernel_rfl) _ _).trans ?_
 refine (iT (by kernel_rfl) _ _).trans ?_
 refine (bG (by kernel_rfl) _).trans ?_
 refine (bG (by kernel_rfl) _).trans ?_
 refine (iT (by kernel_rfl) _ _).trans ?_
 refine (bG (by kernel_rfl) _).trans ?_
 refine (bG (by kernel_rfl) _).trans ?_
 refine (iT (by kernel_rfl) _ _).trans ?_
 refine (bG (by kernel_rfl) _).trans ?_
 refine (bG (by kernel_rfl) _).trans ?_
 refine (iT (by kernel_rfl) _ _).trans ?_
 refine (bG (by kernel_rfl) _).trans ?_
 refine (bG (by kernel_rfl) _).trans ?_
 refine (bG (by kernel_rfl) _).trans ?_
 refine (iT (by kernel_rfl) _ _).trans ?_
 refine (bG (by kernel_rfl) _).trans ?_
 refine (bG (by kernel_rfl) _).trans ?_
 refine (bG (by kernel_rfl) _).trans ?_
 refine (iT (by kernel_rfl) _ _).trans ?_
 refine (bG (by kernel_rfl) _).trans ?_
 refine (bG (by kernel_rfl) _).trans ?_
 refine (bG (by kernel_rfl) _).trans ?_
 unfold aF
 refine (bG (by kernel_rfl) _).trans ?_
 refine (iT (by kernel_rfl) _ _).trans ?_
 refine (bG (by kernel_rfl) _).trans ?_
 refine (bG (by kernel_rfl) _).trans ?_
 refine (iT (by kernel_rfl) _ _).trans ?_
 refine (bG (by kernel_rfl) _).trans ?_
 refine (bG (by kernel_rfl) _).trans ?_
 refine (bG (by kernel_rfl) _).trans ?_
 refine (iT (by kernel_rfl) _ _).trans ?_
 refine (bG (by kernel_rfl) _).trans ?_
 refine (bG (by kernel_rfl) _).trans ?_
 refine (bG (by kernel_rfl) _).trans ?_
 refine (bG (by kernel_rfl) _).trans ?_
 refine (iT (by kernel_rfl) _ _).trans ?_
 refine (bG (by kernel_rfl) _).trans ?_
 refine (bG (by kernel_rfl) _).trans ?_
 refine (bG (by kernel_rfl) _).trans ?_
 refine (iT (by kernel_rfl) _ _).trans ?_
 refine (bG (by kernel_rfl) _).trans ?_
 refine (bG (by kernel_rfl) _).trans ?_
 refine (bG (by kernel_rfl) _).trans ?_
 refine (bG (by kernel_rfl) _).trans ?_
 refine (iT (by kernel_rfl) _ _).trans ?_
 refine (bG (by kernel_rfl) _).trans ?_
 refine (bG (by kernel_rfl) _).trans ?_
 refine (bG (by kernel_rfl) _).trans ?_
 refine (bG (by kernel_rfl) _).trans ?_
 refine (iT (by kernel_rfl) _ _).trans ?_
 refine (bG (by kernel_rfl) _).trans ?_
 refine (bG (by kernel_rfl) _).trans ?_
 refine (bG (by kernel_rfl) _).trans ?_
 refine (iT (by kernel_rfl) _ _).trans ?_
 refine (bG (by kernel_rfl) _).trans ?_
 refine (bG (by kernel_rfl) _).trans ?_
 refine (iT (by kernel_rfl) _ _).trans ?_
 refine (bG (by kernel_rfl) _).trans ?_
 refine (bG (by kernel_rfl) _).trans ?_
 refine (bG (by kernel_rfl) _).trans ?_
 refine (bG (by kernel_rfl) _).trans ?_
 unfold aD
 refine (bG (by kernel_rfl) _).trans ?_
 refine (bG (by kernel_rfl) _).trans ?_
 refine (bG (by kernel_rfl) _).trans ?_
 refine (bE iQ _).trans ?_
 refine (iT (by kernel_rfl) _ _).trans ?_
 refine (iT (by kernel_rfl) _ _).trans ?_
 refine (iT (by kernel_rfl) _ _).trans ?_
 refine (bG (by kernel_rfl) _).trans ?_
 refine (bG (by kernel_rfl) _).trans ?_
 refine (bG (by kernel_rfl) _).trans ?_
 refine (iT (by kernel_rfl) _ _).trans ?_
 refine (bG (by kernel_rfl) _).trans ?_
 refine (bG (by kernel_rfl) _).trans ?_
 refine (iT (by kernel_rfl) _ _).trans ?_
 refine (bG (by kernel_rfl) _).trans ?_
 refine (bG (by kernel_rfl) _).trans ?_
 refine (bG (by kernel_rfl) _).trans ?_
 refine (iT (by kernel_rfl) _ _).trans ?_
 refine (bG (by kernel_rfl) _).trans ?_
 refine (bG (by kernel_rfl) _).trans ?_
 refine (bG (by kernel_rfl) _).trans ?_
 refine (iT (by kernel_rfl) _ _).trans ?_
 refine (bG (by kernel_rfl) _).trans ?_
 refine (bG (by kernel_rfl) _).trans ?_
 refine (iT (by kernel_rfl) _ _).trans ?_
 refine (bG (by kernel_rfl) _).trans ?_
 refine (bG (by kernel_rfl) _).trans ?_
 refine (iT (by kernel_rfl) _ _).trans ?_
 refine (bG (by kernel_rfl) _).trans ?_
 refine (bG (by kernel_rfl) _).trans ?_
 kernel_rfl
theorem fF:∃ n,aC_p n = some true:=⟨FU,fO⟩
end Go.Proofs.YtkommhmbkbhmlaaGreat
