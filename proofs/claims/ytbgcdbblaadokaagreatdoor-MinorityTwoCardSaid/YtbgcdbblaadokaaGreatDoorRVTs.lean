/- Plain laws: the program's line and its fit. No program in sight but the printed functions. -/
import Derived.Test.YtbgcdbblaadokaaGreatDoorRVTr
namespace Go.Proofs.YtbgcdbblaadokaaGreatDoor
open Go
set_option maxRecDepth 8000
theorem less_ok {p q x y:Rat} (hp:FQ p) (hq:FQ q) (hx:FQ x) (hy:FQ y) (h1:FQ (p * q)) (h2:FQ (x * y)) (h3:FQ (p * q - x * y)):minority_fitted_1_p FU (Sg p) (Sg q) (Sg x) (Sg y) = some (.ok (Sg (p * q - x * y))):=by
  unfold minority_fitted_1_p
  rw [mmul hp hq h1,obind,exok,mmul hx hy h2,obind,exok,msub h1 h2 h3,obind,exok]
structure LineOk (r:TRoll) (us:List TUnit) (gi pi:Nat):Prop where
  c:units_CheckRoll_p FU r = some 0
  g:(gi:Int) < r.fj
  p:(pi:Int) < r.fh
  all:r.fE = us ∨ ∃ s:TUnit,r.fE = us ++ [s]∧s.fJ = true∧s.fP.length ≤ 3∧∀ x ∈ s.fP,0 ≤ x∧x ≤ 256
  l:us.length ≤ 8
  w:∀ u ∈ us,u.fJ = false
  u:∀ u ∈ us,UPt gi pi u
def pts (us:List TUnit) (gi pi:Nat):List Pt:=us.filterMap (ptO gi pi)
section
variable {r:TRoll} {us:List TUnit} {gi pi:Nat} (h:LineOk r us gi pi)
include h
theorem LineOk.ok:∀ p ∈ pts us gi pi,PtOk p:=fun p hp=>by
  obtain ⟨u,hu1,hu2⟩:=List.mem_filterMap.1 hp
  exact (h.u u hu1).ok hu2
theorem LineOk.len:(pts us gi pi).length ≤ 8:=Nat.le_trans (List.length_filterMap_le ..) h.l
theorem fitted_ok:minority_fitted_p FU r gi pi = some (if dd (pts us gi pi) = 0 then .error ⟨7⟩ else .ok ⟨⟨iW (pts us gi pi),iX (pts us gi pi),Sg (sY (pts us gi pi)),Sg (sA (pts us gi pi)),Sg (sB (pts us gi pi)),Sg (sC (pts us gi pi))⟩,Sg (dd (pts us gi pi)),Sg (nn (pts us gi pi))⟩):=by
  have hg:=h.g
  have hp:=h.p
  have e:=fitted_loop r us h.all h.l gi pi h.w h.u
  unfold minority_fitted_p
  rw [h.c,obind,if_pos rfl,if_neg (by omega),if_neg (by omega),if_neg (by omega),if_neg (by omega),mof (by decide) (by unfold Sm; decide) (by unfold Sm; decide),obind,exok,show Rat.divInt 0 1 = 0 from rfl]
  refine (congrArg (fun o=>thn o _) e).trans ?_
  have hok:=h.ok
  have hlen:=h.len
  have hb:=iW_le hok
  have eW:=iW_cast (pts us gi pi)
  have eX:=iX_cast (pts us gi pi)
  show ((minority_of_p FU (iW (pts us gi pi)) (1:Int)).bind fun y954=>exc y954 (fun y956=>(minority_of_p FU (iX (pts us gi pi)) (1:Int)).bind fun y958=>exc y958 (fun y960=>(minority_fitted_1_p FU y956 (Sg (sA (pts us gi pi))) y960 y960).bind fun y2183=>exc y2183 (fun y2185=>(if y2185 = Sg 0 then some (Except.error (⟨(7:Int)⟩:Tbroken)) else (minority_fitted_1_p FU y956 (Sg (sB (pts us gi pi))) y960 (Sg (sY (pts us gi pi)))).bind fun y2218=>exc y2218 (fun y2220=>some (Except.ok (⟨⟨iW (pts us gi pi),iX (pts us gi pi),Sg (sY (pts us gi pi)),Sg (sA (pts us gi pi)),Sg (sB (pts us gi pi)),Sg (sC (pts us gi pi))⟩,y2185,y2220⟩:Tline))) (fun _=>none))) (fun e2184=>some (Except.error e2184))) (fun _=>none)) (fun _=>none):Option (Except Tbroken Tline)) = _
  generalize pts us gi pi = ps at *
  have hd:=bt_fq (bD hok hlen)
  rw [mof (by decide) (Sm_of (by omega)) (by unfold Sm; decide),obind,exok,mof (by decide) (Sm_of (by omega)) (by unfold Sm; decide),obind,exok,eW,eX]
  rw [less_ok (bt_fq (bW hok hlen)) (bt_fq (bA hok hlen)) (bt_fq (bX hok hlen)) (bt_fq (bX hok hlen)) (bt_fq ((bW hok hlen).mul (bA hok hlen))) (bt_fq ((bX hok hlen).mul (bX hok hlen))) hd,obind,exok]
  by_cases h0:dd ps = 0
  · rw [if_pos h0,show sW ps * sA ps - sX ps * sX ps = 0 from h0,if_pos rfl]
  · rw [if_neg h0,show sW ps * sA ps - sX ps * sX ps = dd ps from rfl,if_neg fun e=>h0 (Sg_inj hd FQ0 e)]
    rw [less_ok (bt_fq (bW hok hlen)) (bt_fq (bB hok hlen)) (bt_fq (bX hok hlen)) (bt_fq (bY hok hlen)) (bt_fq ((bW hok hlen).mul (bB hok hlen))) (bt_fq ((bX hok hlen).mul (bY hok hlen))) (bt_fq (bN hok hlen)),obind,exok]
    rfl
theorem line_ok:minority_Line_p FU r gi pi = some (if dd (pts us gi pi) = 0 then (noS,noS,7) else (Sg (slope (pts us gi pi)),Sg (base (pts us gi pi)),0)):=by
  have hok:=h.ok
  have hlen:=h.len
  have hb:=iW_le hok
  have eW:=iW_cast (pts us gi pi)
  have eX:=iX_cast (pts us gi pi)
  unfold minority_Line_p minority_Line_1_p
  rw [fitted_ok h,obind]
  generalize pts us gi pi = ps at *
  by_cases h0:dd ps = 0
  · rw [if_pos h0,if_pos h0,exerr,obind,exerr]; rfl
  · rw [if_neg h0,if_neg h0,exok,mdiv (bt_fq (bN hok hlen)) (bt_fq (bD hok hlen)) h0 (bt_fq (bS hok hlen h0)),obind,exok,mof (by decide) (Sm_of (by simp only; omega)) (by unfold Sm; decide),obind,exok]
    simp only
    rw [eX,show nn ps / dd ps = slope ps from rfl,mmul (bt_fq (bS hok hlen h0)) (bt_fq (bX hok hlen)) (bt_fq (bSX hok hlen h0)),obind,exok,msub (bt_fq (bY hok hlen)) (bt_fq (bSX hok hlen h0)) (bt_fq (bYS hok hlen h0)),obind,exok,mof (by decide) (Sm_of (by omega)) (by unfold Sm; decide),obind,exok,eW]
    rw [mdiv (bt_fq (bYS hok hlen h0)) (bt_fq (bW hok hlen)) (sW_ne hok h0) (bt_fq (bBase hok hlen h0)),obind,exok,obind,exok]
    rfl
theorem fitP_ok:minority_Fit_p FU r gi pi = some (if dd (pts us gi pi) = 0 then (noS,7) else if ee (pts us gi pi) = 0 then (noS,7) else (Sg (fit (pts us gi pi)),0)):=by
  have hok:=h.ok
  have hlen:=h.len
  have hb:=iW_le hok
  have eW:=iW_cast (pts us gi pi)
  unfold minority_Fit_p minority_Fit_1_p
  rw [fitted_ok h,obind]
  generalize pts us gi pi = ps at *
  by_cases h0:dd ps = 0
  · rw [if_pos h0,if_pos h0,exerr,obind,exerr]; rfl
  · have hE:=bt_fq (bE hok hlen)
    rw [if_neg h0,if_neg h0,exok]
    simp only
    rw [mof (by decide) (Sm_of (by omega)) (by unfold Sm; decide),obind,exok,eW,mmul (bt_fq (bW hok hlen)) (bt_fq (bC hok hlen)) (bt_fq ((bW hok hlen).mul (bC hok hlen))),obind,exok,mmul (bt_fq (bY hok hlen)) (bt_fq (bY hok hlen)) (bt_fq ((bY hok hlen).mul (bY hok hlen))),obind,exok,msub (bt_fq ((bW hok hlen).mul (bC hok hlen))) (bt_fq ((bY hok hlen).mul (bY hok hlen))) hE,obind,exok,mof (by decide) (by unfold Sm; decide) (by unfold Sm; decide),obind,exok,show Rat.divInt 0 1 = 0 from rfl]
    by_cases h1:ee ps = 0
    · rw [if_pos h1,show sW ps * sC ps - sY ps * sY ps = 0 from h1,if_pos rfl,obind,exerr]; rfl
    · rw [if_neg h1,show sW ps * sC ps - sY ps * sY ps = ee ps from rfl,if_neg fun e=>h1 (Sg_inj hE FQ0 e),mmul (bt_fq (bN hok hlen)) (bt_fq (bN hok hlen)) (bt_fq (bNN hok hlen)),obind,exok]
      rw [mmul (bt_fq (bD hok hlen)) hE (bt_fq (bDE hok hlen)),obind,exok]
      rw [mdiv (bt_fq (bNN hok hlen)) (bt_fq (bDE hok hlen)) (fun e=>(Rat.mul_eq_zero.1 e).elim h0 h1) (bt_fq (bFit hok hlen h0 h1)),obind,exok,obind,exok]
      rfl
end
open Classical in
theorem lof {a b:Int} (h0:b ≠ 0) (ha:Sm a) (hb:Sm b):wardmotelaw29_of_p FU a b = some (Sg (Rat.divInt a b)):=by
  unfold wardmotelaw29_of_p
  rw [sof h0 ha hb,obind]
theorem works29:wardmotelaw29_works_p FU = some true:=by kernel_rfl
end Go.Proofs.YtbgcdbblaadokaaGreatDoor
