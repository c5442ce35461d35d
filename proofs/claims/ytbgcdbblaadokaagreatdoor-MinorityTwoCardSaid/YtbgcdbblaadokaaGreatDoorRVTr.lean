/- Plain laws: what the program's sums of a line are. No program in sight but the printed functions. -/
import Derived.Test.YtbgcdbblaadokaaGreatDoorRVTq
import Derived.Test.YtbgcdbblaadokaaGreatDoorRVSc
namespace Go.Proofs.YtbgcdbblaadokaaGreatDoor
open Go
set_option maxRecDepth 8000
theorem FU_big:(18446744073709551616:Nat) < FU:=by decide
theorem exok {ε α β:Type} (x:α) (f:α → Option β) (g:ε → Option β):exc (.ok x) f g = f x:=rfl
theorem exerr {ε α β:Type} (x:ε) (f:α → Option β) (g:ε → Option β):exc (.error x) f g = g x:=rfl
theorem sof {a b:Int} (h0:b ≠ 0) (ha:Sm a) (hb:Sm b):share_Of_p FU a b = some (Sg (Rat.divInt a b),0):=by
  obtain ⟨d1,d2⟩:=div_le (a:=a) h0
  rw [share_of_ok FU a b ha hb h0 FU_big,Sh_Sg (by unfold Sm at *; omega) (by unfold Sm at *; omega)]
theorem mof {a b:Int} (h0:b ≠ 0) (ha:Sm a) (hb:Sm b):minority_of_p FU a b = some (.ok (Sg (Rat.divInt a b))):=by
  unfold minority_of_p minority_must_api_Share_p
  rw [sof h0 ha hb]; rfl
theorem madd {a b:Rat} (ha:FQ a) (hb:FQ b) (h:FQ (a + b)):minority_add_p FU (Sg a) (Sg b) = some (.ok (Sg (a + b))):=by
  unfold minority_add_p minority_must_api_Share_p
  rw [add_q ha hb h FU_big]; rfl
theorem msub {a b:Rat} (ha:FQ a) (hb:FQ b) (h:FQ (a - b)):minority_sub_p FU (Sg a) (Sg b) = some (.ok (Sg (a - b))):=by
  unfold minority_sub_p minority_must_api_Share_p
  rw [sub_q ha hb h FU_big]; rfl
theorem mmul {a b:Rat} (ha:FQ a) (hb:FQ b) (h:FQ (a * b)):minority_mul_p FU (Sg a) (Sg b) = some (.ok (Sg (a * b))):=by
  unfold minority_mul_p minority_must_api_Share_p
  rw [mul_q ha hb h FU_big]; rfl
theorem mdiv {a b:Rat} (ha:FQ a) (hb:FQ b) (h0:b ≠ 0) (h:FQ (a / b)):minority_div_p FU (Sg a) (Sg b) = some (.ok (Sg (a / b))):=by
  unfold minority_div_p minority_must_api_Share_p
  rw [div_q ha hb h0 h FU_big]; rfl
abbrev FL:Type:=Int × Int × UInt64 × UInt64 × UInt64 × UInt64 × UInt64 × UInt64 × UInt64 × UInt64 × UInt64 × UInt64 × UInt64 × UInt64 × UInt64 × UInt64 × UInt64 × UInt64 × UInt64 × UInt64 × UInt64 × UInt64 × UInt64 × UInt64 × UInt64 × UInt64 × UInt64 × UInt64 × UInt64 × UInt64 × UInt64 × UInt64 × UInt64 × UInt64 × UInt64 × UInt64 × UInt64 × UInt64 × UInt64 × UInt64 × UInt64 × UInt64 × UInt64 × UInt64 × UInt64 × UInt64 × UInt64 × UInt64 × UInt64 × UInt64 × UInt64 × UInt64 × UInt64 × UInt64 × UInt64 × UInt64 × UInt64 × UInt64 × UInt64 × UInt64 × UInt64 × UInt64 × UInt64 × UInt64 × UInt64 × UInt64
def flat (i:Nat) (w x:Int) (y a b c:TShare):Nat × FL:=
  (i,w,x,y.fN.1,y.fN.2.1,y.fN.2.2.1,y.fN.2.2.2.1,y.fN.2.2.2.2.1,y.fN.2.2.2.2.2.1,y.fN.2.2.2.2.2.2.1,y.fN.2.2.2.2.2.2.2,y.fD.1,y.fD.2.1,y.fD.2.2.1,y.fD.2.2.2.1,y.fD.2.2.2.2.1,y.fD.2.2.2.2.2.1,y.fD.2.2.2.2.2.2.1,y.fD.2.2.2.2.2.2.2,a.fN.1,a.fN.2.1,a.fN.2.2.1,a.fN.2.2.2.1,a.fN.2.2.2.2.1,a.fN.2.2.2.2.2.1,a.fN.2.2.2.2.2.2.1,a.fN.2.2.2.2.2.2.2,a.fD.1,a.fD.2.1,a.fD.2.2.1,a.fD.2.2.2.1,a.fD.2.2.2.2.1,a.fD.2.2.2.2.2.1,a.fD.2.2.2.2.2.2.1,a.fD.2.2.2.2.2.2.2,b.fN.1,b.fN.2.1,b.fN.2.2.1,b.fN.2.2.2.1,b.fN.2.2.2.2.1,b.fN.2.2.2.2.2.1,b.fN.2.2.2.2.2.2.1,b.fN.2.2.2.2.2.2.2,b.fD.1,b.fD.2.1,b.fD.2.2.1,b.fD.2.2.2.1,b.fD.2.2.2.2.1,b.fD.2.2.2.2.2.1,b.fD.2.2.2.2.2.2.1,b.fD.2.2.2.2.2.2.2,c.fN.1,c.fN.2.1,c.fN.2.2.1,c.fN.2.2.2.1,c.fN.2.2.2.2.1,c.fN.2.2.2.2.2.1,c.fN.2.2.2.2.2.2.1,c.fN.2.2.2.2.2.2.2,c.fD.1,c.fD.2.1,c.fD.2.2.1,c.fD.2.2.2.1,c.fD.2.2.2.2.1,c.fD.2.2.2.2.2.1,c.fD.2.2.2.2.2.2.1,c.fD.2.2.2.2.2.2.2)
def flat2 (w x:Int) (a b y c:TShare):FL:=
  (w,x,a.fN.1,a.fN.2.1,a.fN.2.2.1,a.fN.2.2.2.1,a.fN.2.2.2.2.1,a.fN.2.2.2.2.2.1,a.fN.2.2.2.2.2.2.1,a.fN.2.2.2.2.2.2.2,a.fD.1,a.fD.2.1,a.fD.2.2.1,a.fD.2.2.2.1,a.fD.2.2.2.2.1,a.fD.2.2.2.2.2.1,a.fD.2.2.2.2.2.2.1,a.fD.2.2.2.2.2.2.2,b.fN.1,b.fN.2.1,b.fN.2.2.1,b.fN.2.2.2.1,b.fN.2.2.2.2.1,b.fN.2.2.2.2.2.1,b.fN.2.2.2.2.2.2.1,b.fN.2.2.2.2.2.2.2,b.fD.1,b.fD.2.1,b.fD.2.2.1,b.fD.2.2.2.1,b.fD.2.2.2.2.1,b.fD.2.2.2.2.2.1,b.fD.2.2.2.2.2.2.1,b.fD.2.2.2.2.2.2.2,y.fN.1,y.fN.2.1,y.fN.2.2.1,y.fN.2.2.2.1,y.fN.2.2.2.2.1,y.fN.2.2.2.2.2.1,y.fN.2.2.2.2.2.2.1,y.fN.2.2.2.2.2.2.2,y.fD.1,y.fD.2.1,y.fD.2.2.1,y.fD.2.2.2.1,y.fD.2.2.2.2.1,y.fD.2.2.2.2.2.1,y.fD.2.2.2.2.2.2.1,y.fD.2.2.2.2.2.2.2,c.fN.1,c.fN.2.1,c.fN.2.2.1,c.fN.2.2.2.1,c.fN.2.2.2.2.1,c.fN.2.2.2.2.2.1,c.fN.2.2.2.2.2.2.1,c.fN.2.2.2.2.2.2.2,c.fD.1,c.fD.2.1,c.fD.2.2.1,c.fD.2.2.2.1,c.fD.2.2.2.2.1,c.fD.2.2.2.2.2.1,c.fD.2.2.2.2.2.2.1,c.fD.2.2.2.2.2.2.2)
theorem fit_body (r:TRoll) (gi pi:Int) (J:Nat × FL → Option ((Except Tbroken Tline) ⊕ FL)) (i:Nat) (w x:Int) (y a b c:TShare):minority_fitted_l2 FU r gi pi J (flat i w x y a b c) =
    if i < r.fE.length then (r.fE[i]?).bind fun u=>Option.bind (loopF (minority_fitted_l1 FU u) FU (0,0)) (fun z=>(if u.fJ = true then J (flat (i + 1) w x y a b c) else (if u.fG = 0 then J (flat (i + 1) w x y a b c) else (if z = 0 then J (flat (i + 1) w x y a b c) else (idx u.fj gi).bind fun gg=>(idx u.fP pi).bind fun v=>(minority_of_p FU v z).bind fun e0=>exc e0 (fun y0=>(chk (w + u.fG)).bind fun w' =>(chk (x + gg)).bind fun x' =>(minority_of_p FU u.fG (1:Int)).bind fun e1=>exc e1 (fun w1=>(minority_mul_p FU w1 y0).bind fun e2=>exc e2 (fun wy=>(minority_add_p FU y wy).bind fun e3=>exc e3 (fun y1=>(minority_of_p FU gg (1:Int)).bind fun e4=>exc e4 (fun g1=>(minority_of_p FU gg u.fG).bind fun e5=>exc e5 (fun gx=>(minority_mul_p FU g1 gx).bind fun e6=>exc e6 (fun ga=>(minority_add_p FU a ga).bind fun e7=>exc e7 (fun a1=>(minority_of_p FU gg (1:Int)).bind fun e8=>exc e8 (fun g2=>(minority_mul_p FU g2 y0).bind fun e9=>exc e9 (fun gb=>(minority_add_p FU b gb).bind fun e10=>exc e10 (fun b1=>(minority_mul_p FU wy y0).bind fun e11=>exc e11 (fun cc=>(minority_add_p FU c cc).bind fun e12=>exc e12 (fun c1=>J (flat (i + 1) w' x' y1 a1 b1 c1)) (fun _=>none)) (fun _=>none)) (fun _=>none)) (fun _=>none)) (fun _=>none)) (fun _=>none)) (fun _=>none)) (fun _=>none)) (fun _=>none)) (fun e=>some (.inl (.error e)))) (fun _=>none)) (fun _=>none)) (fun _=>none))))) else some (.inr (flat2 w x a b y c)):=rfl
def iW (ps:List Pt):Int:=(ps.map (·.w)).sum
def iX (ps:List Pt):Int:=(ps.map (·.g)).sum
theorem iW_cast:∀ ps,Rat.divInt (iW ps) 1 = sW ps
  | []=>rfl
  | p :: ps=>by
    have:=iW_cast ps
    rw [Rat.divInt_eq_div] at this ⊢
    unfold iW sW at *
    rw [List.map_cons,List.sum_cons,Rat.intCast_add,sm,Pt.W]
    grind
theorem iX_cast:∀ ps,Rat.divInt (iX ps) 1 = sX ps
  | []=>rfl
  | p :: ps=>by
    have:=iX_cast ps
    rw [Rat.divInt_eq_div] at this ⊢
    unfold iX sX at *
    rw [List.map_cons,List.sum_cons,Rat.intCast_add,sm,Pt.G]
    grind
theorem iW_le:∀ {ps:List Pt},(∀ p ∈ ps,PtOk p) → 0 ≤ iX ps∧iX ps ≤ iW ps∧iW ps ≤ 256 * ps.length
  | [],_=>by simp [iW,iX]
  | p :: ps,h=>by
    have h1:=h p (List.mem_cons_self ..)
    have ih:=iW_le (ps:=ps) fun q hq=>h q (List.mem_cons_of_mem _ hq)
    have a:=h1.w; have b:=h1.g
    unfold iW iX at *
    simp only [List.map_cons,List.sum_cons,List.length_cons]
    omega
theorem iW_snoc (ps:List Pt) (p:Pt):iW (ps ++ [p]) = iW ps + p.w:=by unfold iW; simp
theorem iX_snoc (ps:List Pt) (p:Pt):iX (ps ++ [p]) = iX ps + p.g:=by unfold iX; simp
def ptO (gi pi:Nat) (u:TUnit):Option Pt:=if u.fG = 0 ∨ u.fP.sum = 0 then none else some ⟨u.fG,u.fj[gi]?.getD 0,u.fP[pi]?.getD 0,u.fP.sum⟩
theorem sum_le:∀ {l:List Int},(∀ x ∈ l,0 ≤ x∧x ≤ 256) → 0 ≤ l.sum∧l.sum ≤ 256 * l.length∧∀ x ∈ l,x ≤ l.sum
  | [],_=>by simp
  | y :: l,h=>by
    have h1:=h y (List.mem_cons_self ..)
    have ⟨a,b,c⟩:=sum_le (l:=l) fun q hq=>h q (List.mem_cons_of_mem _ hq)
    simp only [List.sum_cons,List.length_cons]
    refine ⟨by omega,by omega,fun x hx=>?_⟩
    rcases List.mem_cons.1 hx with rfl | hx
    · omega
    · have:=c x hx; omega
structure UPt (gi pi:Nat) (u:TUnit):Prop where
  p:0 ≤ u.fG∧u.fG ≤ 256
  gl:gi < u.fj.length
  g:∀ x ∈ u.fj,0 ≤ x∧x ≤ u.fG
  vl:pi < u.fP.length∧u.fP.length ≤ 3
  v:∀ x ∈ u.fP,0 ≤ x∧x ≤ 256
theorem UPt.ok {gi pi:Nat} {u:TUnit} (h:UPt gi pi u) {p:Pt} (e:ptO gi pi u = some p):PtOk p:=by
  unfold ptO at e
  split at e
  · cases e
  · rename_i h0
    injection e with e
    subst e
    have h1:=h.p; have h2:=h.vl; have h3:=sum_le h.v
    refine ⟨by simp only; omega,?_,by simp only; omega,?_⟩
    · simp only; rw [List.getElem?_eq_getElem h.gl]; exact h.g _ (List.getElem_mem _)
    · simp only; rw [List.getElem?_eq_getElem h2.1]
      exact ⟨(h.v _ (List.getElem_mem _)).1,h3.2.2 _ (List.getElem_mem _)⟩
theorem sum_loop (u:TUnit) (hl:u.fP.length ≤ 3) (h:∀ x ∈ u.fP,0 ≤ x∧x ≤ 256):loopF (minority_fitted_l1 FU u) FU (0,0) = some u.fP.sum:=by
  have hF:=FU_lt
  have hh:=loop_ok (B:=minority_fitted_l1 FU u) (fun s:Int × Nat=>u.fP.length - s.2) (fun s=>s.2 ≤ u.fP.length∧s.1 = (u.fP.take s.2).sum) (fun z=>z = u.fP.sum) ?_ FU (0,0) ⟨Nat.zero_le _,by simp⟩ (by simp only; omega)
  · obtain ⟨z,e,rfl⟩:=hh; exact e
  · rintro ⟨z,i⟩ J ⟨h1,h2⟩ hJ
    simp only at h1 h2 hJ
    subst h2
    unfold minority_fitted_l1
    simp only
    split
    · rename_i hi
      have hb:=sum_le (l:=u.fP.take i) fun x hx=>h x (List.mem_of_mem_take hx)
      have hx:=h u.fP[i] (List.getElem_mem _)
      have hle:(u.fP.take i).length ≤ 3:=by rw [List.length_take]; omega
      rw [List.getElem?_eq_getElem hi,obind,chkI (by omega) (by omega),obind]
      refine hJ _ ⟨by simp only; omega,?_⟩ (by simp only; omega)
      simp only
      rw [List.take_succ_eq_append_getElem hi,List.sum_append]; simp
    · exact ⟨_,rfl,by rw [List.take_of_length_le (by omega)]⟩
theorem Sm_of {z:Int} (h:z.natAbs < 1000000):Sm z:=by unfold Sm; omega
theorem pts_snoc {gi pi:Nat} {us:List TUnit} {i:Nat} (h:i < us.length):(us.take (i + 1)).filterMap (ptO gi pi) = (us.take i).filterMap (ptO gi pi) ++ (ptO gi pi us[i]).toList:=by
  rw [List.take_succ_eq_append_getElem h,List.filterMap_append]
  congr 1
theorem FQ0:FQ 0:=(Bt.fq (i:=1) (j:=2) ⟨by decide,by decide⟩ (by decide) (by decide))
theorem fq_int {z:Int} (h:z.natAbs < 1000000):FQ (Rat.divInt z 1):=(Bt.of (i:=20) (j:=20) (by decide) (by omega) (by decide)).fq (by decide) (by decide)
theorem fq_q {a b:Int} (h0:b ≠ 0) (h:a.natAbs < 1000000) (h' : b.natAbs < 1000000):FQ (Rat.divInt a b):=(Bt.of (i:=20) (j:=20) h0 (by omega) (by omega)).fq (by decide) (by decide)
theorem divI_one (z:Int):Rat.divInt z 1 = (z:Rat):=by rw [Rat.divInt_eq_div]; grind
def cur (i:Nat) (ps:List Pt):Nat × FL:=flat i (iW ps) (iX ps) (Sg (sY ps)) (Sg (sA ps)) (Sg (sB ps)) (Sg (sC ps))
def fin_ (ps:List Pt):FL:=flat2 (iW ps) (iX ps) (Sg (sA ps)) (Sg (sB ps)) (Sg (sY ps)) (Sg (sC ps))
theorem bt_fq {i j:Nat} {q:Rat} (h:Bt i j q) (hi:i ≤ 500:=by decide) (hj:j ≤ 500:=by decide):FQ q:=h.fq hi hj
theorem unit_step {ps:List Pt} {p:Pt} (h:∀ q ∈ ps,PtOk q) (hp:PtOk p) (hl:ps.length < 8) (J:Nat × FL → Option ((Except Tbroken Tline) ⊕ FL)) (i:Nat) :
    ((minority_of_p FU p.v p.a).bind fun e0=>exc e0 (fun y0=>(chk (iW ps + p.w)).bind fun w' =>(chk (iX ps + p.g)).bind fun x' =>(minority_of_p FU p.w (1:Int)).bind fun e1=>exc e1 (fun w1=>(minority_mul_p FU w1 y0).bind fun e2=>exc e2 (fun wy=>(minority_add_p FU (Sg (sY ps)) wy).bind fun e3=>exc e3 (fun y1=>(minority_of_p FU p.g (1:Int)).bind fun e4=>exc e4 (fun g1=>(minority_of_p FU p.g p.w).bind fun e5=>exc e5 (fun gx=>(minority_mul_p FU g1 gx).bind fun e6=>exc e6 (fun ga=>(minority_add_p FU (Sg (sA ps)) ga).bind fun e7=>exc e7 (fun a1=>(minority_of_p FU p.g (1:Int)).bind fun e8=>exc e8 (fun g2=>(minority_mul_p FU g2 y0).bind fun e9=>exc e9 (fun gb=>(minority_add_p FU (Sg (sB ps)) gb).bind fun e10=>exc e10 (fun b1=>(minority_mul_p FU wy y0).bind fun e11=>exc e11 (fun cc=>(minority_add_p FU (Sg (sC ps)) cc).bind fun e12=>exc e12 (fun c1=>J (flat (i + 1) w' x' y1 a1 b1 c1)) (fun _=>none)) (fun _=>none)) (fun _=>none)) (fun _=>none)) (fun _=>none)) (fun _=>none)) (fun _=>none)) (fun _=>none)) (fun _=>none)) (fun e=>some (.inl (.error e)))) (fun _=>none)) (fun _=>none)) (fun _=>none)) = J (cur (i + 1) (ps ++ [p])):=by
  have h' : ∀ q ∈ ps ++ [p],PtOk q:=fun q hq=>(List.mem_append.1 hq).elim (h q) fun e=>by rw [List.mem_singleton.1 e]; exact hp
  have hl' : (ps ++ [p]).length ≤ 8:=by rw [List.length_append,List.length_singleton]; omega
  have hk:ps.length ≤ 8:=by omega
  have hb:=iW_le h
  have a1:=hp.w; have a2:=hp.g; have a3:=hp.a; have a4:=hp.v
  have fw:FQ p.W:=by have:=fq_int (z:=p.w) (by omega); rwa [divI_one] at this
  have fg:FQ p.G:=by have:=fq_int (z:=p.g) (by omega); rwa [divI_one] at this
  have fy:FQ p.Y:=fq_q (by omega) (by omega) (by omega)
  have fx:FQ p.X:=fq_q (by omega) (by omega) (by omega)
  have one:=fun (f:Pt → Rat) (e:Pt → Nat) (H:Dn (e p) 256 (f p)) (he:e p ≤ 2 ^ 20)=>bt_fq (H.bt (i:=29) (j:=21) (by omega) (by omega))
  have ea:p.a.toNat ≤ 1023:=by omega
  have ew:p.w.toNat ≤ 256:=by omega
  have fwy:FQ (p.W * p.Y):=one (fun p=>p.W * p.Y) (fun p=>p.a.toNat) (by have:=(Pt.dW hp).mul (Pt.dY hp); rw [Nat.one_mul] at this; exact this) (by omega)
  have fgx:FQ (p.G * p.X):=one (fun p=>p.G * p.X) (fun p=>p.w.toNat) (by have:=(Pt.dG hp).mul (Pt.dX hp); rw [Nat.one_mul] at this; exact this) (by omega)
  have fgy:FQ (p.G * p.Y):=one (fun p=>p.G * p.Y) (fun p=>p.a.toNat) (by have:=(Pt.dG hp).mul (Pt.dY hp); rw [Nat.one_mul] at this; exact this) (by omega)
  have fwyy:FQ (p.W * p.Y * p.Y):=one (fun p=>p.W * p.Y * p.Y) (fun p=>p.a.toNat * p.a.toNat) (by have:=((Pt.dW hp).mul (Pt.dY hp)).mul (Pt.dY hp); rw [Nat.one_mul] at this; exact this) (Nat.le_trans (Nat.mul_le_mul ea ea) (by decide))
  have fY:=bt_fq (bY h hk)
  have fA:=bt_fq (bA h hk)
  have fB:=bt_fq (bB h hk)
  have fC:=bt_fq (bC h hk)
  have fY1:=bt_fq (bY h' hl')
  have fA1:=bt_fq (bA h' hl')
  have fB1:=bt_fq (bB h' hl')
  have fC1:=bt_fq (bC h' hl')
  have sy:sY (ps ++ [p]) = sY ps + p.W * p.Y:=sm_snoc ..
  have sa:sA (ps ++ [p]) = sA ps + p.G * p.X:=sm_snoc ..
  have sb:sB (ps ++ [p]) = sB ps + p.G * p.Y:=sm_snoc ..
  have sc:sC (ps ++ [p]) = sC ps + p.W * p.Y * p.Y:=sm_snoc ..
  rw [sy] at fY1
  rw [sa] at fA1
  rw [sb] at fB1
  rw [sc] at fC1
  unfold cur
  rw [iW_snoc,iX_snoc,sy,sa,sb,sc]
  have ey:Rat.divInt p.v p.a = p.Y:=rfl
  have ex:Rat.divInt p.g p.w = p.X:=rfl
  have eg:Rat.divInt p.g 1 = p.G:=divI_one _
  have ee:Rat.divInt p.w 1 = p.W:=divI_one _
  rw [mof (by omega) (Sm_of (by omega)) (Sm_of (by omega)),obind,exok,ey,chkI (by omega) (by omega),obind,chkI (by omega) (by omega),obind,mof (by decide) (Sm_of (by omega)) (Sm_of (by omega)),obind,exok,ee,mmul fw fy fwy,obind,exok,madd fY fwy fY1,obind,exok,mof (by decide) (Sm_of (by omega)) (Sm_of (by omega)),obind,exok,eg,mof (by omega) (Sm_of (by omega)) (Sm_of (by omega)),obind,exok,ex,mmul fg fx fgx,obind,exok,madd fA fgx fA1,obind,exok,obind,exok,mmul fg fy fgy]
  simp only [obind,exok]
  rw [madd fB fgy fB1]
  simp only [obind,exok]
  rw [mmul fwy fy fwyy]
  simp only [obind,exok]
  rw [madd fC fwyy fC1]
  simp only [obind,exok]
theorem fitted_loop (r:TRoll) (us:List TUnit) (hus:r.fE = us ∨ ∃ s:TUnit,r.fE = us ++ [s]∧s.fJ = true∧s.fP.length ≤ 3∧∀ x ∈ s.fP,0 ≤ x∧x ≤ 256) (hl:us.length ≤ 8) (gi pi:Nat) (hw:∀ u ∈ us,u.fJ = false) (hu:∀ u ∈ us,UPt gi pi u) :
    loopF (minority_fitted_l2 FU r gi pi) FU (cur 0 []) = some (.inr (fin_ (us.filterMap (ptO gi pi)))):=by
  have hF:=FU_lt
  have hok:∀ i,∀ p ∈ (us.take i).filterMap (ptO gi pi),PtOk p:=fun i p hp=>by
    obtain ⟨u,hu1,hu2⟩:=List.mem_filterMap.1 hp
    exact (hu u (List.mem_of_mem_take hu1)).ok hu2
  have hlen:∀ i,((us.take i).filterMap (ptO gi pi)).length ≤ i:=fun i=>Nat.le_trans (List.length_filterMap_le ..) (by rw [List.length_take]; omega)
  have hsz:us.length ≤ r.fE.length∧r.fE.length ≤ us.length + 1:=by
    rcases hus with e | ⟨s,e,_⟩ <;> rw [e] <;> simp
  have hh:=loop_ok (B:=minority_fitted_l2 FU r gi pi) (fun s=>r.fE.length - s.1)
    (fun s=>∃ i,i ≤ r.fE.length∧s = cur i ((us.take i).filterMap (ptO gi pi)))
    (fun y=>y = .inr (fin_ (us.filterMap (ptO gi pi)))) ?_ FU (cur 0 []) ⟨0,Nat.zero_le _,rfl⟩ (by show r.fE.length - 0 < FU; omega)
  · obtain ⟨y,e,rfl⟩:=hh; exact e
  · rintro s J ⟨i,h1,rfl⟩ hJ
    have hJ' : ∀ i' : Nat,i < i' → i' ≤ r.fE.length → ∃ y,J (cur i' ((us.take i').filterMap (ptO gi pi))) = some y∧y = .inr (fin_ (us.filterMap (ptO gi pi))):=fun i' hi hi2=>hJ _ ⟨i', hi2,rfl⟩ (by show r.fE.length - i' < r.fE.length - i; omega)
    generalize hT:fin_ (us.filterMap (ptO gi pi)) = T at *
    have hend:us.length ≤ i → fin_ ((us.take i).filterMap (ptO gi pi)) = T:=fun h=>by rw [List.take_of_length_le h]; exact hT
    rw [show cur i ((us.take i).filterMap (ptO gi pi)) = flat i (iW ((us.take i).filterMap (ptO gi pi))) (iX ((us.take i).filterMap (ptO gi pi))) (Sg (sY ((us.take i).filterMap (ptO gi pi)))) (Sg (sA ((us.take i).filterMap (ptO gi pi)))) (Sg (sB ((us.take i).filterMap (ptO gi pi)))) (Sg (sC ((us.take i).filterMap (ptO gi pi)))) from rfl,fit_body]
    split
    · rename_i hi
      rw [List.getElem?_eq_getElem hi,obind]
      by_cases h2:i < us.length
      · have e0:r.fE[i] = us[i]:=by
          rcases hus with e | ⟨s,e,_⟩
          · simp only [e]
          · simp only [e]; exact List.getElem_append_left h2
        have hU:=hu us[i] (List.getElem_mem _)
        have hW:=hw us[i] (List.getElem_mem _)
        rw [e0]
        have hn:=hJ' (i + 1) (by omega) (by omega)
        rw [pts_snoc h2] at hn
        have hk:=hok i
        have hm:=hlen i
        generalize us[i] = u at *
        generalize (us.take i).filterMap (ptO gi pi) = ps at *
        have hp:=hU.p; have hvl:=hU.vl; have hs:=sum_le hU.v
        rw [sum_loop u hvl.2 hU.v,obind,if_neg (by rw [hW]; decide)]
        have key:ptO gi pi u = none → ∃ y,J (cur (i + 1) ps) = some y∧y = .inr T:=fun e=>by
          rw [e,Option.toList_none,List.append_nil] at hn
          exact hn
        split
        · rename_i h3; exact key (if_pos (.inl h3))
        · rename_i h3
          split
          · rename_i h4; exact key (if_pos (.inr h4))
          · rename_i h4
            have eP:ptO gi pi u = some ⟨u.fG,u.fj[gi]?.getD 0,u.fP[pi]?.getD 0,u.fP.sum⟩:=if_neg (fun h=>h.elim h3 h4)
            rw [List.getElem?_eq_getElem hU.gl,List.getElem?_eq_getElem hvl.1] at eP
            have hP:=hU.ok eP
            rw [eP,Option.toList_some] at hn
            simp only [Option.getD_some] at hn hP
            rw [idx_ok (by omega) (by simpa using hU.gl),obind,idx_ok (by omega) (by simpa using hvl.1),obind]
            simp only [Int.toNat_natCast]
            have hstep:=unit_step hk hP (by omega) J i
            simp only at hstep
            rw [hstep]
            exact hn
      · have h3:i = us.length:=by omega
        rcases hus with e | ⟨s,e,hs1,hs2,hs3⟩
        · rw [e] at hi; omega
        · have e0:r.fE[i] = s:=by
            subst h3
            simp only [e]
            rw [List.getElem_append_right (by omega)]; simp
          have hn:=hJ' (i + 1) (by omega) (by omega)
          rw [e0,sum_loop s hs2 hs3,obind,if_pos hs1]
          rw [List.take_of_length_le (by omega)] at hn ⊢
          exact hn
    · exact ⟨_,rfl,congrArg Sum.inr (hend (by omega))⟩
end Go.Proofs.YtbgcdbblaadokaaGreatDoor
