/- Plain laws: a common denominator for the sums of a line: all of them have at most 500 bits. No program in sight. -/
import Derived.Test.YtbgcdbblaadokaaGreatDoorRVTp
namespace Go.Proofs.YtbgcdbblaadokaaGreatDoor
open Go
def Dn (D M:Nat) (q:Rat):Prop:=0 < D∧∃ m:Int,q = Rat.divInt m D∧m.natAbs ≤ M * D
theorem Dn.bt {D M i j:Nat} {q:Rat} (h:Dn D M q) (h1:M * D < 2 ^ i) (h2:D < 2 ^ j):Bt i j q:=by
  obtain ⟨h0,m,rfl,hm⟩:=h
  exact Bt.of (by omega) (by omega) (by omega)
theorem Dn.up {D M E:Nat} {q:Rat} (h:Dn D M q) (he:0 < E):Dn (D * E) M q:=by
  obtain ⟨h0,m,rfl,hm⟩:=h
  refine ⟨Nat.mul_pos h0 he,m * E,?_,?_⟩
  · rw [Int.natCast_mul,Rat.divInt_mul_right (by omega)]
  · rw [Int.natAbs_mul,Int.natAbs_natCast,← Nat.mul_assoc]; exact Nat.mul_le_mul_right _ hm
theorem Dn.upl {D M E:Nat} {q:Rat} (h:Dn D M q) (he:0 < E):Dn (E * D) M q:=by rw [Nat.mul_comm]; exact h.up he
theorem Dn.mono {D M N:Nat} {q:Rat} (h:Dn D M q) (hm:M ≤ N):Dn D N q:=by
  obtain ⟨h0,m,e,h1⟩:=h
  exact ⟨h0,m,e,Nat.le_trans h1 (Nat.mul_le_mul_right _ hm)⟩
theorem Dn.add {D M N:Nat} {p q:Rat} (h:Dn D M p) (h' : Dn D N q):Dn D (M + N) (p + q):=by
  obtain ⟨h0,m,rfl,hm⟩:=h
  obtain ⟨_,k,rfl,hk⟩:=h'
  refine ⟨h0,m + k,?_,?_⟩
  · rw [Rat.divInt_add_divInt _ _ (by omega) (by omega),← Int.add_mul,Rat.divInt_mul_right (by omega)]
  · rw [Nat.add_mul]; omega
theorem Dn.neg {D M:Nat} {q:Rat} (h:Dn D M q):Dn D M (-q):=by
  obtain ⟨h0,m,rfl,hm⟩:=h
  exact ⟨h0,-m,by rw [Rat.neg_divInt],by omega⟩
theorem Dn.sub {D M N:Nat} {p q:Rat} (h:Dn D M p) (h' : Dn D N q):Dn D (M + N) (p - q):=by rw [Rat.sub_eq_add_neg]; exact h.add h'.neg
theorem Dn.mul {D E M N:Nat} {p q:Rat} (h:Dn D M p) (h' : Dn E N q):Dn (D * E) (M * N) (p * q):=by
  obtain ⟨h0,m,rfl,hm⟩:=h
  obtain ⟨h1,k,rfl,hk⟩:=h'
  refine ⟨Nat.mul_pos h0 h1,m * k,by rw [Rat.divInt_mul_divInt,Int.natCast_mul],?_⟩
  rw [Int.natAbs_mul,show M * N * (D * E) = M * D * (N * E) by grind]
  exact Nat.mul_le_mul hm hk
theorem Dn.int {M:Nat} {z:Int} (h:z.natAbs ≤ M):Dn 1 M (z:Rat):=⟨by decide,z,by rw [Rat.divInt_eq_div]; grind,by omega⟩
theorem Dn.part {x d:Int} {D:Nat} (h0:0 ≤ x) (h1:x ≤ d) (h2:0 < d) (hD:(D:Int) = d):Dn D 1 (Rat.divInt x d):=⟨by omega,x,by rw [hD],by omega⟩
def pd (f:Pt → Nat):List Pt → Nat
  | []=>1
  | p :: ps=>f p * pd f ps
theorem pd_pos {f:Pt → Nat}:∀ {ps:List Pt},(∀ p ∈ ps,0 < f p) → 0 < pd f ps
  | [],_=>by simp [pd]
  | p :: ps,H=>Nat.mul_pos (H p (List.mem_cons_self ..)) (pd_pos fun q hq=>H q (List.mem_cons_of_mem _ hq))
theorem pd_le {f:Pt → Nat} {k:Nat}:∀ {ps:List Pt},(∀ p ∈ ps,f p ≤ 2 ^ k) → pd f ps ≤ 2 ^ (k * ps.length)
  | [],_=>by simp [pd]
  | p :: ps,H=>by
    have ih:=pd_le (ps:=ps) fun q hq=>H q (List.mem_cons_of_mem _ hq)
    rw [List.length_cons,Nat.mul_add,Nat.mul_one,Nat.add_comm,Nat.pow_add]
    exact Nat.mul_le_mul (H p (List.mem_cons_self ..)) ih
theorem pd_mul (f:Pt → Nat):∀ ps,pd (fun p=>f p * f p) ps = pd f ps * pd f ps
  | []=>rfl
  | p :: ps=>by simp only [pd,pd_mul f ps]; grind
theorem sm_dn {f:Pt → Rat} {e:Pt → Nat} {M:Nat}:∀ {ps:List Pt},(∀ p ∈ ps,Dn (e p) M (f p)) → Dn (pd e ps) (M * ps.length) (sm f ps)
  | [],_=>⟨by simp [pd],0,by simp only [sm,pd]; rfl,by simp⟩
  | p :: ps,H=>by
    have hp:=H p (List.mem_cons_self ..)
    have ih:=sm_dn (ps:=ps) fun q hq=>H q (List.mem_cons_of_mem _ hq)
    rw [List.length_cons,Nat.mul_add,Nat.mul_one,Nat.add_comm]
    exact (hp.up ih.1).add (ih.upl hp.1)
def pa (ps:List Pt):Nat:=pd (fun p=>p.a.toNat) ps
def pw (ps:List Pt):Nat:=pd (fun p=>p.w.toNat) ps
theorem Pt.dW {p:Pt} (h:PtOk p):Dn 1 256 p.W:=Dn.int (by have:=h.w; omega)
theorem Pt.dG {p:Pt} (h:PtOk p):Dn 1 256 p.G:=Dn.int (by have:=h.w; have:=h.g; omega)
theorem Pt.dX {p:Pt} (h:PtOk p):Dn p.w.toNat 1 p.X:=by have h1:=h.w; have h2:=h.g; exact Dn.part h2.1 h2.2 (by omega) (by omega)
theorem Pt.dY {p:Pt} (h:PtOk p):Dn p.a.toNat 1 p.Y:=by have h1:=h.a; have h2:=h.v; exact Dn.part h2.1 h2.2 (by omega) (by omega)
theorem pd_one:∀ ps,pd (fun _=>1) ps = 1
  | []=>rfl
  | p :: ps=>by simp only [pd,pd_one ps]
section
variable {ps:List Pt} (h:∀ p ∈ ps,PtOk p)
include h
theorem pw_pos:0 < pw ps:=pd_pos fun p hp=>by have:=(h p hp).w; omega
variable (hl:ps.length ≤ 8)
include hl
theorem pa_le:pa ps ≤ 2 ^ 80:=Nat.le_trans (pd_le (k:=10) fun p hp=>by have:=(h p hp).a; omega) (Nat.pow_le_pow_right (by decide) (by omega))
theorem pw_le:pw ps ≤ 2 ^ 64:=Nat.le_trans (pd_le (k:=8) fun p hp=>by have:=(h p hp).w; omega) (Nat.pow_le_pow_right (by decide) (by omega))
theorem dW:Dn 1 2048 (sW ps):=by have:=sm_dn (e:=fun _=>1) fun p hp=>Pt.dW (h p hp); rw [pd_one] at this; exact this.mono (by omega)
theorem dX:Dn 1 2048 (sX ps):=by have:=sm_dn (e:=fun _=>1) fun p hp=>Pt.dG (h p hp); rw [pd_one] at this; exact this.mono (by omega)
theorem dY:Dn (pa ps) 2048 (sY ps):=(sm_dn fun p hp=>by have:=(Pt.dW (h p hp)).mul (Pt.dY (h p hp)); rw [Nat.one_mul] at this; exact this).mono (by omega)
theorem dA:Dn (pw ps) 2048 (sA ps):=(sm_dn fun p hp=>by have:=(Pt.dG (h p hp)).mul (Pt.dX (h p hp)); rw [Nat.one_mul] at this; exact this).mono (by omega)
theorem dB:Dn (pa ps) 2048 (sB ps):=(sm_dn fun p hp=>by have:=(Pt.dG (h p hp)).mul (Pt.dY (h p hp)); rw [Nat.one_mul] at this; exact this).mono (by omega)
theorem dC:Dn (pa ps * pa ps) 2048 (sC ps):=by
  have:=sm_dn (f:=fun p=>p.W * p.Y * p.Y) (e:=fun p=>p.a.toNat * p.a.toNat) (M:=256) (ps:=ps) fun p hp=>by have:=((Pt.dW (h p hp)).mul (Pt.dY (h p hp))).mul (Pt.dY (h p hp)); rw [Nat.one_mul] at this; exact this
  rw [pd_mul] at this
  exact this.mono (by omega)
theorem dWA:Dn (pw ps) 4194304 (sW ps * sA ps):=by have:=(dW h hl).mul (dA h hl); rw [Nat.one_mul] at this; exact this
theorem dXX:Dn 1 4194304 (sX ps * sX ps):=(dX h hl).mul (dX h hl)
theorem dWB:Dn (pa ps) 4194304 (sW ps * sB ps):=by have:=(dW h hl).mul (dB h hl); rw [Nat.one_mul] at this; exact this
theorem dXY:Dn (pa ps) 4194304 (sX ps * sY ps):=by have:=(dX h hl).mul (dY h hl); rw [Nat.one_mul] at this; exact this
theorem dWC:Dn (pa ps * pa ps) 4194304 (sW ps * sC ps):=by have:=(dW h hl).mul (dC h hl); rw [Nat.one_mul] at this; exact this
theorem dYY:Dn (pa ps * pa ps) 4194304 (sY ps * sY ps):=(dY h hl).mul (dY h hl)
theorem dD:Dn (pw ps) 8388608 (dd ps):=(dWA h hl).sub (by have:=(dXX h hl).upl (pw_pos h); rw [Nat.mul_one] at this; exact this)
theorem dN:Dn (pa ps) 8388608 (nn ps):=(dWB h hl).sub (dXY h hl)
theorem dE:Dn (pa ps * pa ps) 8388608 (ee ps):=(dWC h hl).sub (dYY h hl)
theorem paa_le:pa ps * pa ps ≤ 2 ^ 160:=Nat.le_trans (Nat.mul_le_mul (pa_le h hl) (pa_le h hl)) (by decide)
theorem bW:Bt 12 1 (sW ps):=(dW h hl).bt (by decide) (by decide)
theorem bX:Bt 12 1 (sX ps):=(dX h hl).bt (by decide) (by decide)
theorem bY:Bt 92 81 (sY ps):=(dY h hl).bt (by have:=pa_le h hl; omega) (by have:=pa_le h hl; omega)
theorem bA:Bt 76 65 (sA ps):=(dA h hl).bt (by have:=pw_le h hl; omega) (by have:=pw_le h hl; omega)
theorem bB:Bt 92 81 (sB ps):=(dB h hl).bt (by have:=pa_le h hl; omega) (by have:=pa_le h hl; omega)
theorem bC:Bt 172 161 (sC ps):=(dC h hl).bt (by have:=paa_le h hl; omega) (by have:=paa_le h hl; omega)
theorem bD:Bt 88 65 (dd ps):=(dD h hl).bt (by have:=pw_le h hl; omega) (by have:=pw_le h hl; omega)
theorem bN:Bt 104 81 (nn ps):=(dN h hl).bt (by have:=pa_le h hl; omega) (by have:=pa_le h hl; omega)
theorem bE:Bt 184 161 (ee ps):=(dE h hl).bt (by have:=paa_le h hl; omega) (by have:=paa_le h hl; omega)
variable (h0:dd ps ≠ 0)
include h0
theorem bS:Bt 169 169 (slope ps):=(bN h hl).div (bD h hl) h0
theorem bSX:Bt 181 170 (slope ps * sX ps):=(bS h hl h0).mul (bX h hl)
theorem bYS:Bt 263 251 (sY ps - slope ps * sX ps):=(bY h hl).sub (bSX h hl h0) (by decide) (by decide)
omit hl in
theorem sW_ne:sW ps ≠ 0:=fun e=>by
  have h1:=dd_nonneg h
  have h2:=sq_nonneg (sX ps)
  refine h0 ?_
  unfold dd at h1 ⊢
  rw [e] at h1 ⊢
  grind
theorem bBase:Bt 264 263 (base ps):=(bYS h hl h0).div (bW h hl) (sW_ne h h0)
omit h0 in
theorem bNN:Bt 208 162 (nn ps * nn ps):=(bN h hl).mul (bN h hl)
omit h0 in
theorem bDE:Bt 272 226 (dd ps * ee ps):=(bD h hl).mul (bE h hl)
theorem bFit (h1:ee ps ≠ 0):Bt 434 434 (fit ps):=(bNN h hl).div (bDE h hl) fun e=>(Rat.mul_eq_zero.1 e).elim h0 h1
end
end Go.Proofs.YtbgcdbblaadokaaGreatDoor
