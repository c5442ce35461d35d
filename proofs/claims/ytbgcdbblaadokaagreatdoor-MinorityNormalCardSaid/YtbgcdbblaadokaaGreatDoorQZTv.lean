/- Plain laws: what is off a line: sums, and how long the parts of the fractions are. No program in sight but the printed functions. -/
import Derived.Test.YtbgcdbblaadokaaGreatDoorQZTs
namespace Go.Proofs.YtbgcdbblaadokaaGreatDoor
open Go
set_option maxRecDepth 8000
def offp (s b:Rat) (p:Pt):Rat:=p.Y - b - s * p.X
theorem sum_off {ps:List Pt} (h:∀ p ∈ ps,PtOk p) (h0:dd ps ≠ 0):sm (fun p=>p.W * offp (slope ps) (base ps) p) ps = 0:=by
  have hw:=sW_ne h h0
  have e:sm (fun p=>p.W * offp (slope ps) (base ps) p) ps = sm (fun p=>p.W * p.Y + ((-(base ps)) * p.W + (-(slope ps)) * (p.W * p.X))) ps:=sm_congr fun p _=>by unfold offp; grind
  rw [e,sm_add,sm_add,sm_mul,sm_mul,← sX_eq h]
  show sY ps + (-(base ps) * sW ps + -(slope ps) * sX ps) = 0
  have h1:base ps * sW ps = sY ps - slope ps * sX ps:=by unfold base; exact Rat.div_mul_cancel hw
  grind
theorem sum_off2 {ps:List Pt} (h:∀ p ∈ ps,PtOk p) (h0:dd ps ≠ 0):sm (fun p=>p.G * offp (slope ps) (base ps) p) ps = 0:=by
  have hw:=sW_ne h h0
  have e:sm (fun p=>p.G * offp (slope ps) (base ps) p) ps = sm (fun p=>p.G * p.Y + ((-(base ps)) * p.G + (-(slope ps)) * (p.G * p.X))) ps:=sm_congr fun p _=>by unfold offp; grind
  rw [e,sm_add,sm_add,sm_mul,sm_mul]
  show sB ps + (-(base ps) * sX ps + -(slope ps) * sA ps) = 0
  have h1:base ps * sW ps = sY ps - slope ps * sX ps:=by unfold base; exact Rat.div_mul_cancel hw
  have h2:slope ps * dd ps = nn ps:=by unfold slope; exact Rat.div_mul_cancel h0
  unfold dd nn at h2
  have h3:sW ps * (sB ps + (-(base ps) * sX ps + -(slope ps) * sA ps)) = 0:=by grind
  rcases Rat.mul_eq_zero.1 h3 with h4 | h4
  · exact absurd h4 hw
  · exact h4
theorem pd_mem {f:Pt → Nat}:∀ {ps:List Pt},(∀ p ∈ ps,0 < f p) → ∀ p ∈ ps,∃ r,0 < r∧pd f ps = f p * r
  | [],_,p,hp=>by cases hp
  | q :: ps,H,p,hp=>by
    have hs:=fun x hx=>H x (List.mem_cons_of_mem q hx)
    rcases List.mem_cons.1 hp with rfl | hp
    · exact ⟨pd f ps,pd_pos hs,rfl⟩
    · obtain ⟨r,h1,h2⟩:=pd_mem hs p hp
      refine ⟨f q * r,Nat.mul_pos (H q (List.mem_cons_self ..)) h1,?_⟩
      simp only [pd]
      rw [h2]
      grind
theorem Dn.divn {D M w:Nat} {q:Rat} (h:Dn D M q) (hw:0 < w):Dn (D * w) M (q / ((w:Int):Rat)):=by
  obtain ⟨h0,m,rfl,hm⟩:=h
  have hw' : (w:Int) ≠ 0:=by omega
  refine ⟨Nat.mul_pos h0 hw,m,?_,Nat.le_trans hm (by rw [← Nat.mul_assoc]; exact Nat.le_mul_of_pos_right _ hw)⟩
  rw [Int.natCast_mul,Rat.div_def,show ((w:Int):Rat) = Rat.divInt w 1 from (divI_one _).symm,Rat.inv_divInt,Rat.divInt_mul_divInt,Int.mul_one]
theorem den {ps:List Pt} (h:∀ p ∈ ps,PtOk p) (hl:ps.length ≤ 8) (h0:dd ps ≠ 0):∃ T,0 < T∧T ≤ 2 ^ 242∧∀ p ∈ ps,Dn T (2 ^ 87) (slope ps * p.X)∧Dn T (2 ^ 98 + 2048) (base ps)∧Dn T 1 p.Y:=by
  have hpa:=pa_pos h
  have hpw:=pw_pos h
  have lpa:=pa_le h hl
  have lpw:=pw_le h hl
  obtain ⟨_,m,em,hm⟩:=dD h hl
  obtain ⟨_,k,ek,hk⟩:=dN h hl
  have hm0:m ≠ 0:=fun e=>h0 (by rw [em,e]; exact Rat.zero_divInt _)
  have hE:0 < m.natAbs:=by omega
  have hW:=iW_le h
  have eW:=iW_cast ps
  have hw0:=sW_ne h h0
  have hwz:iW ps ≠ 0:=fun e=>hw0 (by rw [← eW,e]; exact Rat.zero_divInt _)
  obtain ⟨w,ew⟩:∃ w:Nat,iW ps = w:=⟨(iW ps).toNat,by omega⟩
  have hwp:0 < w:=by omega
  have hwl:w ≤ 2048:=by omega
  have esW:sW ps = ((w:Int):Rat):=by rw [← eW,ew,divI_one]
  have lE:m.natAbs ≤ 2 ^ 87:=Nat.le_trans hm (Nat.le_trans (Nat.mul_le_mul_left _ lpw) (by decide))
  -- the slope
  have dS:Dn (pa ps * m.natAbs) (2 ^ 87) (slope ps):=by
    have hpaz:(pa ps:Int) ≠ 0:=by omega
    have hpwz:(pw ps:Int) ≠ 0:=by omega
    have e1:slope ps = Rat.divInt (k * pw ps) (pa ps * m):=by
      unfold slope
      rw [em,ek,Rat.div_def,Rat.inv_divInt,Rat.divInt_mul_divInt]
    have hb:(k * (pw ps:Int)).natAbs ≤ 2 ^ 87 * (pa ps * m.natAbs):=by
      rw [Int.natAbs_mul,Int.natAbs_natCast]
      refine Nat.le_trans (Nat.mul_le_mul hk lpw) ?_
      have a1:pa ps ≤ pa ps * m.natAbs:=Nat.le_mul_of_pos_right _ hE
      generalize pa ps * m.natAbs = Z at *
      omega
    refine ⟨Nat.mul_pos hpa hE,?_⟩
    rcases Int.natAbs_eq m with hs | hs
    · refine ⟨k * pw ps,?_,hb⟩
      rw [e1,Int.natCast_mul,← hs]
    · refine ⟨-(k * pw ps),?_,by rw [Int.natAbs_neg]; exact hb⟩
      have e3:((pa ps * m.natAbs:Nat):Int) = -((pa ps:Int) * m):=by
        rw [Int.natCast_mul]
        have:(m.natAbs:Int) = -m:=by omega
        rw [this,Int.mul_neg]
      have hz:(pa ps:Int) * m ≠ 0:=Int.mul_ne_zero hpaz hm0
      rw [e1,e3]
      exact (Rat.divInt_eq_divInt_iff hz (by omega)).2 (by rw [Int.mul_neg,Int.neg_mul])
  have hPE:0 < pa ps * m.natAbs:=Nat.mul_pos hpa hE
  have dB:Dn (pa ps * m.natAbs * w) (2 ^ 98 + 2048) (base ps):=by
    have a1:Dn (pa ps * m.natAbs) 2048 (sY ps):=(dY h hl).up hE
    have a2:Dn (pa ps * m.natAbs) (2 ^ 87 * 2048) (slope ps * sX ps):=by have:=dS.mul (dX h hl); rwa [Nat.mul_one] at this
    have a3:=(a1.sub a2).divn hwp
    unfold base
    rw [esW]
    exact a3.mono (by decide)
  refine ⟨pa ps * m.natAbs * w * pw ps,Nat.mul_pos (Nat.mul_pos hPE hwp) hpw,?_,fun p hp=>⟨?_,dB.up hpw,?_⟩⟩
  · refine Nat.le_trans (Nat.mul_le_mul (Nat.mul_le_mul (Nat.mul_le_mul lpa lE) hwl) lpw) (by decide)
  · obtain ⟨r,r0,er⟩:=pd_mem (f:=fun p=>p.w.toNat) (ps:=ps) (fun p hp=>by have:=(h p hp).w; omega) p hp
    have a1:=dS.mul (Pt.dX (h p hp))
    rw [Nat.mul_one] at a1
    have a2:=a1.up (Nat.mul_pos r0 hwp)
    have e2:pa ps * m.natAbs * p.w.toNat * (r * w) = pa ps * m.natAbs * w * pw ps:=by
      unfold pw
      rw [er]
      grind
    rw [e2] at a2
    exact a2
  · obtain ⟨r,r0,er⟩:=pd_mem (f:=fun p=>p.a.toNat) (ps:=ps) (fun p hp=>by have:=(h p hp).a; omega) p hp
    have a2:=(Pt.dY (h p hp)).up (Nat.mul_pos (Nat.mul_pos (Nat.mul_pos r0 hE) hwp) hpw)
    have e2:p.a.toNat * (r * m.natAbs * w * pw ps) = pa ps * m.natAbs * w * pw ps:=by
      unfold pa
      rw [er]
      grind
    rw [e2] at a2
    exact a2
theorem Dn.q {T M a:Nat} {q:Rat} (h:Dn T M q) (hT:T ≤ 2 ^ 242) (hM:M < 2 ^ a) (ha:a ≤ 250):FQ q:=by
  have h2:M * T < 2 ^ (a + 242):=by
    rw [Nat.pow_add]
    have h3:0 < 2 ^ 242:=Nat.pow_pos (by decide)
    have h4:0 < T:=h.1
    exact Nat.lt_of_lt_of_le (Nat.mul_lt_mul_of_lt_of_le hM hT h3) (Nat.le_refl _)
  have h1:T < 2 ^ 243:=Nat.lt_of_le_of_lt hT (Nat.pow_lt_pow_right (by decide) (by decide))
  exact bt_fq (h.bt h2 h1) (by omega) (by decide)
end Go.Proofs.YtbgcdbblaadokaaGreatDoor
