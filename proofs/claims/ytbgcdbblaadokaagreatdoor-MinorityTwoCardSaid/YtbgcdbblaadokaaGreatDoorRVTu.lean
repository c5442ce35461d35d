/- Plain laws: the line of two points. No program in sight but the printed functions. -/
import Derived.Test.YtbgcdbblaadokaaGreatDoorRVTs
namespace Go.Proofs.YtbgcdbblaadokaaGreatDoor
open Go
set_option maxRecDepth 8000
section
variable {p q:Pt} (hp:PtOk p) (hq:PtOk q)
include hp in
theorem Pt.wne:p.W ≠ 0:=by
  have:=hp.w
  unfold Pt.W
  intro e
  have:p.w = 0:=by exact_mod_cast e
  omega
theorem sW2:sW [p,q] = p.W + q.W:=by unfold sW; simp only [sm]; grind
include hp hq
theorem dd2:dd [p,q] = p.W * q.W * ((p.X - q.X) * (p.X - q.X)):=by
  have e1:=Pt.gx hp
  have e2:=Pt.gx hq
  unfold dd sW sA sX
  simp only [sm]
  rw [e1,e2]
  grind
theorem nn2:nn [p,q] = p.W * q.W * ((p.X - q.X) * (p.Y - q.Y)):=by
  have e1:=Pt.gx hp
  have e2:=Pt.gx hq
  unfold nn sW sB sX sY
  simp only [sm]
  rw [e1,e2]
  grind
omit hp hq in
theorem ee2:ee [p,q] = p.W * q.W * ((p.Y - q.Y) * (p.Y - q.Y)):=by
  unfold ee sW sC sY
  simp only [sm]
  grind
theorem dd2_zero:dd [p,q] = 0 ↔ p.X = q.X:=by
  have w1:=Pt.wne hp
  have w2:=Pt.wne hq
  rw [dd2 hp hq]
  constructor
  · intro e
    rcases Rat.mul_eq_zero.1 e with h | h
    · rcases Rat.mul_eq_zero.1 h with h | h
      · exact absurd h w1
      · exact absurd h w2
    · rcases Rat.mul_eq_zero.1 h with h | h <;> grind
  · intro e; rw [e]; grind
theorem ee2_zero:ee [p,q] = 0 ↔ p.Y = q.Y:=by
  have w1:=Pt.wne hp
  have w2:=Pt.wne hq
  rw [ee2]
  constructor
  · intro e
    rcases Rat.mul_eq_zero.1 e with h | h
    · rcases Rat.mul_eq_zero.1 h with h | h
      · exact absurd h w1
      · exact absurd h w2
    · rcases Rat.mul_eq_zero.1 h with h | h <;> grind
  · intro e; rw [e]; grind
theorem slope2 (h:p.X ≠ q.X):slope [p,q] * (p.X - q.X) = p.Y - q.Y:=by
  have h0:dd [p,q] ≠ 0:=fun e=>h ((dd2_zero hp hq).1 e)
  have h1:slope [p,q] * dd [p,q] = nn [p,q]:=by unfold slope; exact Rat.div_mul_cancel h0
  have w1:=Pt.wne hp
  have w2:=Pt.wne hq
  rw [dd2 hp hq,nn2 hp hq] at h1
  have h2:p.X - q.X ≠ 0:=fun e=>h (by grind)
  have h3:p.W * q.W * (p.X - q.X) ≠ 0:=fun e=>by
    rcases Rat.mul_eq_zero.1 e with h | h
    · rcases Rat.mul_eq_zero.1 h with h | h
      · exact w1 h
      · exact w2 h
    · exact h2 h
  have h4:p.W * q.W * (p.X - q.X) * (slope [p,q] * (p.X - q.X) - (p.Y - q.Y)) = 0:=by grind
  rcases Rat.mul_eq_zero.1 h4 with h5 | h5
  · exact absurd h5 h3
  · grind
theorem base2 (h:p.X ≠ q.X):base [p,q] + slope [p,q] * p.X = p.Y∧base [p,q] + slope [p,q] * q.X = q.Y:=by
  have h0:dd [p,q] ≠ 0:=fun e=>h ((dd2_zero hp hq).1 e)
  have hw:sW [p,q] ≠ 0:=sW_ne (fun x hx=>by
    rcases List.mem_cons.1 hx with rfl | hx
    · exact hp
    · rw [List.mem_singleton.1 hx]; exact hq) h0
  have h1:base [p,q] * sW [p,q] = sY [p,q] - slope [p,q] * sX [p,q]:=by unfold base; exact Rat.div_mul_cancel hw
  have hs:=slope2 hp hq h
  have e1:=Pt.gx hp
  have e2:=Pt.gx hq
  have a1:sY [p,q] = p.W * p.Y + q.W * q.Y:=by unfold sY; simp only [sm]; grind
  have a2:sX [p,q] = p.W * p.X + q.W * q.X:=by unfold sX; simp only [sm]; rw [e1,e2]; grind
  have a3:sW [p,q] = p.W + q.W:=sW2
  rw [a1,a2,a3] at h1
  rw [a3] at hw
  generalize slope [p,q] = s at *
  generalize base [p,q] = b at *
  have h4:(p.W + q.W) * (b + s * p.X - p.Y) = 0:=by grind
  have h5:b + s * p.X = p.Y:=by
    rcases Rat.mul_eq_zero.1 h4 with h5 | h5
    · exact absurd h5 hw
    · grind
  exact ⟨h5,by grind⟩
theorem fit2 (h:p.X ≠ q.X) (h' : p.Y ≠ q.Y):fit [p,q] = 1:=by
  have h0:dd [p,q] ≠ 0:=fun e=>h ((dd2_zero hp hq).1 e)
  have h1:ee [p,q] ≠ 0:=fun e=>h' ((ee2_zero hp hq).1 e)
  have h2:dd [p,q] * ee [p,q] ≠ 0:=fun e=>(Rat.mul_eq_zero.1 e).elim h0 h1
  unfold fit
  have h3:nn [p,q] * nn [p,q] = dd [p,q] * ee [p,q]:=by rw [nn2 hp hq,dd2 hp hq,ee2]; grind
  rw [h3]
  rw [Rat.div_def,Rat.mul_inv_cancel _ h2]
end
end Go.Proofs.YtbgcdbblaadokaaGreatDoor
