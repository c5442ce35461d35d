/- Plain laws: points with weights, their line, over the rational numbers. No program in sight. -/
import Derived.Test.YtbgcdbblaadokaaGreatDoorPUVg
namespace Go.Proofs.YtbgcdbblaadokaaGreatDoor
open Go
structure Pt where
  w:Int
  g:Int
  v:Int
  a:Int
structure PtOk (p:Pt):Prop where
  w:1 ≤ p.w∧p.w ≤ 256
  g:0 ≤ p.g∧p.g ≤ p.w
  a:1 ≤ p.a∧p.a ≤ 1023
  v:0 ≤ p.v∧p.v ≤ p.a
def sm (f:Pt → Rat):List Pt → Rat
  | []=>0
  | p :: ps=>f p + sm f ps
theorem sm_snoc (f:Pt → Rat) (p:Pt):∀ ps,sm f (ps ++ [p]) = sm f ps + f p
  | []=>by simp only [List.nil_append,sm]; grind
  | q :: ps=>by simp only [List.cons_append,sm,sm_snoc f p ps]; grind
theorem sm_congr {f h:Pt → Rat}:∀ {ps:List Pt},(∀ p ∈ ps,f p = h p) → sm f ps = sm h ps
  | [],_=>rfl
  | p :: ps,H=>by simp only [sm]; rw [H p (List.mem_cons_self ..),sm_congr fun q hq=>H q (List.mem_cons_of_mem _ hq)]
theorem sm_map (f:Pt → Rat) (t:Pt → Pt):∀ ps,sm f (ps.map t) = sm (fun p=>f (t p)) ps
  | []=>rfl
  | p :: ps=>by simp only [List.map_cons,sm,sm_map f t ps]
theorem sm_add (f h:Pt → Rat):∀ ps,sm (fun p=>f p + h p) ps = sm f ps + sm h ps
  | []=>by simp only [sm]; grind
  | p :: ps=>by simp only [sm,sm_add f h ps]; grind
theorem sm_mul (c:Rat) (f:Pt → Rat):∀ ps,sm (fun p=>c * f p) ps = c * sm f ps
  | []=>by simp only [sm]; grind
  | p :: ps=>by simp only [sm,sm_mul c f ps]; grind
def Pt.W (p:Pt):Rat:=(p.w:Rat)
def Pt.G (p:Pt):Rat:=(p.g:Rat)
def Pt.X (p:Pt):Rat:=Rat.divInt p.g p.w
def Pt.Y (p:Pt):Rat:=Rat.divInt p.v p.a
theorem Pt.gx {p:Pt} (h:PtOk p):p.G = p.W * p.X:=by
  have h0:(p.w:Rat) ≠ 0:=by have:=h.w; intro e; have:p.w = 0:=(by exact_mod_cast e); omega
  unfold Pt.G Pt.W Pt.X
  rw [Rat.divInt_eq_div]
  grind
def sW (ps:List Pt):Rat:=sm Pt.W ps
def sX (ps:List Pt):Rat:=sm Pt.G ps
def sY (ps:List Pt):Rat:=sm (fun p=>p.W * p.Y) ps
def sA (ps:List Pt):Rat:=sm (fun p=>p.G * p.X) ps
def sB (ps:List Pt):Rat:=sm (fun p=>p.G * p.Y) ps
def sC (ps:List Pt):Rat:=sm (fun p=>p.W * p.Y * p.Y) ps
def dd (ps:List Pt):Rat:=sW ps * sA ps - sX ps * sX ps
def nn (ps:List Pt):Rat:=sW ps * sB ps - sX ps * sY ps
def ee (ps:List Pt):Rat:=sW ps * sC ps - sY ps * sY ps
def slope (ps:List Pt):Rat:=nn ps / dd ps
def base (ps:List Pt):Rat:=(sY ps - slope ps * sX ps) / sW ps
def fit (ps:List Pt):Rat:=nn ps * nn ps / (dd ps * ee ps)
theorem sq_nonneg (a:Rat):0 ≤ a * a:=by
  rcases Rat.le_total (a:=0) (b:=a) with h | h
  · exact Rat.mul_nonneg h h
  · have:=Rat.mul_nonneg (show 0 ≤ -a by grind) (show 0 ≤ -a by grind)
    grind
theorem var_aux (f z:Pt → Rat) (c:Rat):∀ ps:List Pt,(∀ p ∈ ps,0 ≤ f p) → 0 ≤ sm (fun p=>f p * z p * z p) ps - 2 * c * sm (fun p=>f p * z p) ps + c * c * sm f ps
  | [],_=>by simp only [sm]; grind
  | p :: ps,H=>by
    have ih:=var_aux f z c ps fun q hq=>H q (List.mem_cons_of_mem _ hq)
    have h1:=Rat.mul_nonneg (H p (List.mem_cons_self ..)) (sq_nonneg (z p - c))
    simp only [sm]
    grind
theorem var_nonneg (f z:Pt → Rat):∀ ps:List Pt,(∀ p ∈ ps,0 ≤ f p) → 0 ≤ sm f ps * sm (fun p=>f p * z p * z p) ps - sm (fun p=>f p * z p) ps * sm (fun p=>f p * z p) ps
  | [],_=>by simp only [sm]; grind
  | p :: ps,H=>by
    have hs:=fun q hq=>H q (List.mem_cons_of_mem p hq)
    have ih:=var_nonneg f z ps hs
    have h1:=Rat.mul_nonneg (H p (List.mem_cons_self ..)) (var_aux f z (z p) ps hs)
    simp only [sm]
    grind
theorem W_pos {p:Pt} (h:PtOk p):0 ≤ p.W:=by
  unfold Pt.W
  have:=h.w
  exact_mod_cast (show 0 ≤ p.w by omega)
section
variable {ps:List Pt} (h:∀ p ∈ ps,PtOk p)
include h
theorem sA_eq:sA ps = sm (fun p=>p.W * p.X * p.X) ps:=sm_congr fun p hp=>by rw [Pt.gx (h p hp)]
theorem sB_eq:sB ps = sm (fun p=>p.W * p.X * p.Y) ps:=sm_congr fun p hp=>by rw [Pt.gx (h p hp)]
theorem sX_eq:sX ps = sm (fun p=>p.W * p.X) ps:=sm_congr fun p hp=>by rw [Pt.gx (h p hp)]
theorem form (a b:Rat):0 ≤ a * a * dd ps + 2 * a * b * nn ps + b * b * ee ps:=by
  have hv:=var_nonneg Pt.W (fun p=>a * p.X + b * p.Y) ps fun p hp=>W_pos (h p hp)
  have e1:sm (fun p=>p.W * (a * p.X + b * p.Y)) ps = a * sX ps + b * sY ps:=by
    rw [sX_eq h,sY,← sm_mul,← sm_mul,← sm_add]
    exact sm_congr fun p _=>by grind
  have e2:sm (fun p=>p.W * (a * p.X + b * p.Y) * (a * p.X + b * p.Y)) ps = a * a * sA ps + 2 * a * b * sB ps + b * b * sC ps:=by
    rw [sA_eq h,sB_eq h,sC,← sm_mul,← sm_mul,← sm_mul,← sm_add,← sm_add]
    exact sm_congr fun p _=>by grind
  rw [e1,e2,show sm Pt.W ps = sW ps from rfl] at hv
  unfold dd nn ee
  grind
theorem dd_nonneg:0 ≤ dd ps:=by have:=form h 1 0; grind
theorem ee_nonneg:0 ≤ ee ps:=by have:=form h 0 1; grind
theorem cauchy (h0:dd ps ≠ 0):nn ps * nn ps ≤ dd ps * ee ps:=by
  have h1:=form h (-(nn ps)) (dd ps)
  have h2:0 ≤ dd ps * (dd ps * ee ps - nn ps * nn ps):=by grind
  have hd:=dd_nonneg h
  rcases Rat.le_total (a:=nn ps * nn ps) (b:=dd ps * ee ps) with h3 | h3
  · exact h3
  · have h4:0 ≤ dd ps * (nn ps * nn ps - dd ps * ee ps):=Rat.mul_nonneg hd (by grind)
    have h5:dd ps * (dd ps * ee ps - nn ps * nn ps) = 0:=by grind
    have h6:=Rat.mul_eq_zero.1 h5
    grind
theorem nn_zero (h0:dd ps ≠ 0) (h1:ee ps = 0):nn ps = 0:=by
  have h2:=cauchy h h0
  have h3:=sq_nonneg (nn ps)
  rw [h1] at h2
  have h5:nn ps * nn ps = 0:=by grind
  rcases Rat.mul_eq_zero.1 h5 with h6 | h6 <;> exact h6
theorem fit_le (h0:dd ps ≠ 0) (h1:ee ps ≠ 0):0 ≤ fit ps∧fit ps ≤ 1:=by
  have h2:=cauchy h h0
  have h3:=sq_nonneg (nn ps)
  have h4:dd ps * ee ps ≠ 0:=fun e=>(Rat.mul_eq_zero.1 e).elim h0 h1
  have h5:=Rat.mul_nonneg (dd_nonneg h) (ee_nonneg h)
  have h6:0 < dd ps * ee ps:=by grind
  unfold fit
  constructor
  · rw [Rat.div_def]; exact Rat.mul_nonneg h3 (Rat.le_of_lt (Rat.inv_pos.2 h6))
  · have h7:=Rat.mul_le_mul_of_nonneg_right h2 (Rat.le_of_lt (Rat.inv_pos.2 h6))
    rw [Rat.mul_inv_cancel _ h4] at h7
    rw [Rat.div_def]; exact h7
end
theorem fit_zero {ps:List Pt} (h0:dd ps ≠ 0) (h1:ee ps ≠ 0):fit ps = 0 ↔ slope ps = 0:=by
  have h4:dd ps * ee ps ≠ 0:=fun e=>(Rat.mul_eq_zero.1 e).elim h0 h1
  unfold fit slope
  have a:nn ps * nn ps / (dd ps * ee ps) = 0 ↔ nn ps = 0:=⟨fun e=>by
    have:nn ps * nn ps = 0:=by grind
    rcases Rat.mul_eq_zero.1 this with h6 | h6 <;> exact h6,fun e=>by rw [e]; grind⟩
  have b:nn ps / dd ps = 0 ↔ nn ps = 0:=⟨fun e=>by grind,fun e=>by rw [e]; grind⟩
  rw [a,b]
def Pt.flip (p:Pt):Pt:={ p with v:=p.a - p.v }
theorem Pt.flip_y {p:Pt} (h:PtOk p):p.flip.Y = 1 - p.Y:=by
  have h0:(p.a:Rat) ≠ 0:=by have:=h.a; intro e; have:p.a = 0:=(by exact_mod_cast e); omega
  unfold Pt.Y Pt.flip
  simp only
  rw [Rat.divInt_eq_div,Rat.divInt_eq_div,Rat.intCast_sub]
  grind
section
variable {ps:List Pt} (h:∀ p ∈ ps,PtOk p)
include h
omit h in
theorem flip_sW:sW (ps.map Pt.flip) = sW ps:=by unfold sW; rw [sm_map]; exact sm_congr fun p _=>rfl
omit h in
theorem flip_sX:sX (ps.map Pt.flip) = sX ps:=by unfold sX; rw [sm_map]; exact sm_congr fun p _=>rfl
omit h in
theorem flip_sA:sA (ps.map Pt.flip) = sA ps:=by unfold sA; rw [sm_map]; exact sm_congr fun p _=>rfl
theorem flip_sY:sY (ps.map Pt.flip) = sW ps - sY ps:=by
  have e:sW ps - sY ps = sm (fun p=>p.W + (-1) * (p.W * p.Y)) ps:=by rw [sm_add,sm_mul]; show sW ps - sY ps = sW ps + -1 * sY ps; grind
  rw [e]; unfold sY; rw [sm_map]
  exact sm_congr fun p hp=>by rw [Pt.flip_y (h p hp)]; show p.W * (1 - p.Y) = _; grind
theorem flip_sB:sB (ps.map Pt.flip) = sX ps - sB ps:=by
  have e:sX ps - sB ps = sm (fun p=>p.G + (-1) * (p.G * p.Y)) ps:=by rw [sm_add,sm_mul]; show sX ps - sB ps = sX ps + -1 * sB ps; grind
  rw [e]; unfold sB; rw [sm_map]
  exact sm_congr fun p hp=>by rw [Pt.flip_y (h p hp)]; show p.G * (1 - p.Y) = _; grind
theorem flip_sC:sC (ps.map Pt.flip) = sW ps - 2 * sY ps + sC ps:=by
  have e:sW ps - 2 * sY ps + sC ps = sm (fun p=>p.W + ((-2) * (p.W * p.Y) + p.W * p.Y * p.Y)) ps:=by rw [sm_add,sm_add,sm_mul]; show sW ps - 2 * sY ps + sC ps = sW ps + (-2 * sY ps + sC ps); grind
  rw [e]; unfold sC; rw [sm_map]
  exact sm_congr fun p hp=>by rw [Pt.flip_y (h p hp)]; show p.W * (1 - p.Y) * (1 - p.Y) = _; grind
omit h in
theorem flip_dd:dd (ps.map Pt.flip) = dd ps:=by unfold dd; rw [flip_sW,flip_sA,flip_sX]
theorem flip_nn:nn (ps.map Pt.flip) = -nn ps:=by unfold nn; rw [flip_sW,flip_sB h,flip_sX,flip_sY h]; grind
theorem flip_ee:ee (ps.map Pt.flip) = ee ps:=by unfold ee; rw [flip_sW,flip_sC h,flip_sY h]; grind
theorem flip_slope:slope (ps.map Pt.flip) = -slope ps:=by unfold slope; rw [flip_nn h,flip_dd]; grind
theorem flip_base (h0:sW ps ≠ 0):base (ps.map Pt.flip) = 1 - base ps:=by unfold base; rw [flip_slope h,flip_sW,flip_sX,flip_sY h]; grind
theorem flip_fit:fit (ps.map Pt.flip) = fit ps:=by unfold fit; rw [flip_nn h,flip_dd,flip_ee h]; grind
end
end Go.Proofs.YtbgcdbblaadokaaGreatDoor
