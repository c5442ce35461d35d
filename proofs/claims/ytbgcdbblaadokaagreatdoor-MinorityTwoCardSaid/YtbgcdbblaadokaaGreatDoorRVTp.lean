/- Plain laws: points with weights, their line, over the rational numbers. No program in sight. -/
import Derived.Test.YtbgcdbblaadokaaGreatDoorRVVg
namespace Go.Proofs.YtbgcdbblaadokaaGreatDoor
open Go
structure Pt where
  w:Int
  g:Int
  v:Int
  a:Int
structure PtOk (p:Pt):Prop where
  w:1 ≤ p.w∧p.w ≤ 256
  g:0 ≤ p.g∧p.g ≤ p.w
  a:1 ≤ p.a∧p.a ≤ 1023
  v:0 ≤ p.v∧p.v ≤ p.a
def sm (f:Pt → Rat):List Pt → Rat
  | []=>0
  | p :: ps=>f p + sm f ps
theorem sm_snoc (f:Pt → Rat) (p:Pt):∀ ps,sm f (ps ++ [p]) = sm f ps + f p
  | []=>by simp only [List.nil_append,sm]; grind
  | q :: ps=>by simp only [List.cons_append,sm,sm_snoc f p ps]; grind
theorem sm_congr {f h:Pt → Rat}:∀ {ps:List Pt},(∀ p ∈ ps,f p = h p) → sm f ps = sm h ps
  | [],_=>rfl
  | p :: ps,H=>by simp only [sm]; rw [H p (List.mem_cons_self ..),sm_congr fun q hq=>H q (List.mem_cons_of_mem _ hq)]
theorem sm_add (f h:Pt → Rat):∀ ps,sm (fun p=>f p + h p) ps = sm f ps + sm h ps
  | []=>by simp only [sm]; grind
  | p :: ps=>by simp only [sm,sm_add f h ps]; grind
theorem sm_mul (c:Rat) (f:Pt → Rat):∀ ps,sm (fun p=>c * f p) ps = c * sm f ps
  | []=>by simp only [sm]; grind
  | p :: ps=>by simp only [sm,sm_mul c f ps]; grind
def Pt.W (p:Pt):Rat:=(p.w:Rat)
def Pt.G (p:Pt):Rat:=(p.g:Rat)
def Pt.X (p:Pt):Rat:=Rat.divInt p.g p.w
def Pt.Y (p:Pt):Rat:=Rat.divInt p.v p.a
theorem Pt.gx {p:Pt} (h:PtOk p):p.G = p.W * p.X:=by
  have h0:(p.w:Rat) ≠ 0:=by have:=h.w; intro e; have:p.w = 0:=(by exact_mod_cast e); omega
  unfold Pt.G Pt.W Pt.X
  rw [Rat.divInt_eq_div]
  grind
def sW (ps:List Pt):Rat:=sm Pt.W ps
def sX (ps:List Pt):Rat:=sm Pt.G ps
def sY (ps:List Pt):Rat:=sm (fun p=>p.W * p.Y) ps
def sA (ps:List Pt):Rat:=sm (fun p=>p.G * p.X) ps
def sB (ps:List Pt):Rat:=sm (fun p=>p.G * p.Y) ps
def sC (ps:List Pt):Rat:=sm (fun p=>p.W * p.Y * p.Y) ps
def dd (ps:List Pt):Rat:=sW ps * sA ps - sX ps * sX ps
def nn (ps:List Pt):Rat:=sW ps * sB ps - sX ps * sY ps
def ee (ps:List Pt):Rat:=sW ps * sC ps - sY ps * sY ps
def slope (ps:List Pt):Rat:=nn ps / dd ps
def base (ps:List Pt):Rat:=(sY ps - slope ps * sX ps) / sW ps
def fit (ps:List Pt):Rat:=nn ps * nn ps / (dd ps * ee ps)
theorem sq_nonneg (a:Rat):0 ≤ a * a:=by
  rcases Rat.le_total (a:=0) (b:=a) with h | h
  · exact Rat.mul_nonneg h h
  · have:=Rat.mul_nonneg (show 0 ≤ -a by grind) (show 0 ≤ -a by grind)
    grind
theorem var_aux (f z:Pt → Rat) (c:Rat):∀ ps:List Pt,(∀ p ∈ ps,0 ≤ f p) → 0 ≤ sm (fun p=>f p * z p * z p) ps - 2 * c * sm (fun p=>f p * z p) ps + c * c * sm f ps
  | [],_=>by simp only [sm]; grind
  | p :: ps,H=>by
    have ih:=var_aux f z c ps fun q hq=>H q (List.mem_cons_of_mem _ hq)
    have h1:=Rat.mul_nonneg (H p (List.mem_cons_self ..)) (sq_nonneg (z p - c))
    simp only [sm]
    grind
theorem var_nonneg (f z:Pt → Rat):∀ ps:List Pt,(∀ p ∈ ps,0 ≤ f p) → 0 ≤ sm f ps * sm (fun p=>f p * z p * z p) ps - sm (fun p=>f p * z p) ps * sm (fun p=>f p * z p) ps
  | [],_=>by simp only [sm]; grind
  | p :: ps,H=>by
    have hs:=fun q hq=>H q (List.mem_cons_of_mem p hq)
    have ih:=var_nonneg f z ps hs
    have h1:=Rat.mul_nonneg (H p (List.mem_cons_self ..)) (var_aux f z (z p) ps hs)
    simp only [sm]
    grind
theorem W_pos {p:Pt} (h:PtOk p):0 ≤ p.W:=by
  unfold Pt.W
  have:=h.w
  exact_mod_cast (show 0 ≤ p.w by omega)
section
variable {ps:List Pt} (h:∀ p ∈ ps,PtOk p)
include h
theorem sA_eq:sA ps = sm (fun p=>p.W * p.X * p.X) ps:=sm_congr fun p hp=>by rw [Pt.gx (h p hp)]
theorem sB_eq:sB ps = sm (fun p=>p.W * p.X * p.Y) ps:=sm_congr fun p hp=>by rw [Pt.gx (h p hp)]
theorem sX_eq:sX ps = sm (fun p=>p.W * p.X) ps:=sm_congr fun p hp=>by rw [Pt.gx (h p hp)]
theorem form (a b:Rat):0 ≤ a * a * dd ps + 2 * a * b * nn ps + b * b * ee ps:=by
  have hv:=var_nonneg Pt.W (fun p=>a * p.X + b * p.Y) ps fun p hp=>W_pos (h p hp)
  have e1:sm (fun p=>p.W * (a * p.X + b * p.Y)) ps = a * sX ps + b * sY ps:=by
    rw [sX_eq h,sY,← sm_mul,← sm_mul,← sm_add]
    exact sm_congr fun p _=>by grind
  have e2:sm (fun p=>p.W * (a * p.X + b * p.Y) * (a * p.X + b * p.Y)) ps = a * a * sA ps + 2 * a * b * sB ps + b * b * sC ps:=by
    rw [sA_eq h,sB_eq h,sC,← sm_mul,← sm_mul,← sm_mul,← sm_add,← sm_add]
    exact sm_congr fun p _=>by grind
  rw [e1,e2,show sm Pt.W ps = sW ps from rfl] at hv
  unfold dd nn ee
  grind
theorem dd_nonneg:0 ≤ dd ps:=by have:=form h 1 0; grind
theorem cauchy (h0:dd ps ≠ 0):nn ps * nn ps ≤ dd ps * ee ps:=by
  have h1:=form h (-(nn ps)) (dd ps)
  have h2:0 ≤ dd ps * (dd ps * ee ps - nn ps * nn ps):=by grind
  have hd:=dd_nonneg h
  rcases Rat.le_total (a:=nn ps * nn ps) (b:=dd ps * ee ps) with h3 | h3
  · exact h3
  · have h4:0 ≤ dd ps * (nn ps * nn ps - dd ps * ee ps):=Rat.mul_nonneg hd (by grind)
    have h5:dd ps * (dd ps * ee ps - nn ps * nn ps) = 0:=by grind
    have h6:=Rat.mul_eq_zero.1 h5
    grind
theorem nn_zero (h0:dd ps ≠ 0) (h1:ee ps = 0):nn ps = 0:=by
  have h2:=cauchy h h0
  have h3:=sq_nonneg (nn ps)
  rw [h1] at h2
  have h5:nn ps * nn ps = 0:=by grind
  rcases Rat.mul_eq_zero.1 h5 with h6 | h6 <;> exact h6
end
section
variable {ps:List Pt} (h:∀ p ∈ ps,PtOk p)
include h
omit h in
omit h in
omit h in
omit h in
end
end Go.Proofs.YtbgcdbblaadokaaGreatDoor
