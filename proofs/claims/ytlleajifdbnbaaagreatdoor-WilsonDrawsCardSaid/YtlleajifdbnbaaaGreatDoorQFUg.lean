/- Plain laws: loops, maps, the last places. No program in sight but the printed functions. -/
import Derived.Test.YtlleajifdbnbaaaGreatDoorQF6
import Derived.Test.YtlleajifdbnbaaaGreatDoorQMj
import Derived.Lib.TrailingZeros
namespace Go.Proofs.YtlleajifdbnbaaaGreatDoor
open Go
theorem aa {α β:Type} (x:α) (f:α -> Option β):(some x).bind f = f x:=Eq.trans (Eq.refl _) (Eq.refl _)
theorem ay {α β:Type} (B:(α -> Option β) -> α -> Option β) (n:Nat) (s:α):ac B (n + 1) s = B (ac B n) s:=rfl
theorem ap {α β:Type} {B:(α -> Option β) -> α -> Option β} (m:α -> Nat) (I:α -> Prop) (Q:β -> Prop)
  (step:∀ s J,I s -> (∀ s', I s' -> m s' < m s -> ∃ r,J s' = some r/\Q r) -> ∃ r,B J s = some r/\Q r):∀ n s,I s -> m s < n -> ∃ r,ac B n s = some r/\Q r:=by
 intro n
 induction n with
 | zero=>intro s _ h; omega
 | succ n ih=>intro s hI h; exact step s (ac B n) hI fun s' h1 h2=>ih s' h1 (by omega)
theorem dW {κ ν:Type} [DecidableEq κ]:∀ (D:List (κ × ν)) (k x:κ) (v:ν),dl (cu D k v) x = if x = k then some v else dl D x
 | [],k,x,v=>by simp [cu,dl]
 | e :: D,k,x,v=>by
  unfold cu
  split
  ·rename_i h; subst h; simp only [dl]; split <;> rfl
  ·rename_i h
   simp only [dl]
   rw [dW D k x v]
   by_cases h1:x = k
   ·subst h1; simp [h]
   ·simp [h1]
def fU (l:List Int) (i:Nat) (D:List (Int × Int)):Prop:=∀ x j,j < i -> l[j]? = some x -> ∃ k:Nat,dl D x = some (k:Int)/\j <= k/\k < i/\l[k]? = some x
theorem dn (N n:Nat) (l:List Int) (h:l.length < n):∃ D,ac (av_l2 N l) n (0,[]) = some D/\fU l l.length D:=by
 refine ap (fun s=>l.length - s.1) (fun s=>s.1 <= l.length/\fU l s.1 s.2) _ ?_ n (0,[]) ⟨Nat.zero_le _,fun x j hj=>(by omega)⟩ (by simpa using h)
 rintro ⟨i,D⟩ J ⟨h1,h2⟩ hJ
 simp only at h1 h2 hJ
 unfold av_l2
 simp only
 by_cases hi:i < l.length
 ·rw [if_pos hi,geE hi,Option.bind_some]
  refine hJ (i + 1,cu D l[i] (i:Int)) ⟨by simp only; omega,fun x j hj hx=>?_⟩ (by simp only; omega)
  simp only at hj ⊢
  rw [dW]
  by_cases hxi:x = l[i]
  ·subst hxi; exact ⟨i,by simp,by omega,by omega,geE hi⟩
  ·rw [if_neg hxi]
   have hji:j ≠ i:=fun e=>by subst e; rw [geE hi] at hx; exact hxi (by cases hx; rfl)
   obtain ⟨k,k1,k2,k3,k4⟩:=h2 x j (by omega) hx
   exact ⟨k,k1,k2,by omega,k4⟩
 ·rw [if_neg hi]
  exact ⟨D,rfl,by rw [show l.length = i by omega]; exact h2⟩
end Go.Proofs.YtlleajifdbnbaaaGreatDoor
namespace Go.Proofs.YtlleajifdbnbaaaGreatDoor
open Go
theorem fA:bf_p 20000 = some true:=by kernel_rfl
theorem ifT {α:Type} (x y:α):(if True then x else y) = x:=if_pos trivial
theorem bK (n:Nat) (l:List Int) (h:l.length < n):ai_p n l l = some true:=by
 unfold ai_p
 rw [if_pos rfl]
 obtain ⟨r,h1,h2⟩:=ap (B:=ai_l1 n l l) (fun i=>l.length - i) (fun i=>i <= l.length) (fun r=>r = .inr ()) (fun i J hi hJ=>by
  unfold ai_l1
  simp only
  by_cases hl:i < l.length
  ·rw [if_pos hl,geE hl]
   simp only [aa]
   rw [ifT]
   exact hJ (i + 1) (by omega) (by omega)
  ·rw [if_neg hl]; exact ⟨_,rfl,rfl⟩) n 0 (by omega) (by omega)
 rw [h1,h2]
 rfl
end Go.Proofs.YtlleajifdbnbaaaGreatDoor
namespace Go.Proofs.YtlleajifdbnbaaaGreatDoor
open Go
def bit (u:UInt64) (k:Nat):Bool:=u.toNat.testBit k
theorem cZ {u:UInt64} {k:Nat} (h:64 <= k):bit u k = false:=by
 unfold bit
 apply Nat.testBit_lt_two_pow
 exact Nat.lt_of_lt_of_le (aE u) (Nat.pow_le_pow_right (by decide) h:2 ^ 64 <= 2 ^ k)
theorem bI {u:UInt64} {k:Nat} (h:bit u k = true):k < 64:=by
 rcases Nat.lt_or_ge k 64 with h1 | h1
 ·exact h1
 ·rw [cZ h1] at h; cases h
theorem ei {u v:UInt64} (h:∀ k,bit u k = bit v k):u = v:=by
 apply UInt64.toNat_inj.1
 exact Nat.eq_of_testBit_eq h
theorem aB (k:Nat):bit 0 k = false:=by unfold bit; simp
theorem ba (u v:UInt64) (k:Nat):bit (u ||| v) k = (bit u k || bit v k):=by unfold bit; rw [UInt64.toNat_or,Nat.testBit_or]
theorem bA (u v:UInt64) (k:Nat):bit (u &&& v) k = (bit u k && bit v k):=by unfold bit; rw [UInt64.toNat_and,Nat.testBit_and]
theorem bit_not (v:UInt64) (k:Nat) (h:k < 64):bit (~~~v) k = !bit v k:=by
 unfold bit
 have e:(~~~v).toNat = 2 ^ 64 - (v.toNat + 1):=by
  have:=UInt64.toNat_not v
  rw [this]
  show 18446744073709551616 - 1 - v.toNat = 18446744073709551616 - (v.toNat + 1)
  omega
 rw [e,Nat.testBit_two_pow_sub_succ (aE v)]
 simp [h]
theorem aQ (u v:UInt64) (k:Nat):bit (u &&& ~~~v) k = (bit u k && !bit v k):=by
 rw [bA]
 rcases Nat.lt_or_ge k 64 with h | h
 ·rw [bit_not _ _ h]
 ·rw [cZ h,cZ h]; rfl
theorem di {k:Nat} (h:k < 64):(shlU 1 k).toNat = 2 ^ k:=by
 unfold shlU
 rw [if_pos h]
 rw [show (1:UInt64).toNat = 1 from rfl,Nat.one_mul]
 exact UInt64.toNat_ofNat_of_lt' (Nat.pow_lt_pow_right (by decide) h:2 ^ k < 2 ^ 64)
theorem az {k j:Nat} (h:k < 64):bit (shlU 1 k) j = decide (j = k):=by
 unfold bit
 rw [di h,Nat.testBit_two_pow]
 exact decide_eq_decide.2 eq_comm
theorem eO (u:UInt64) (k:Nat):shrU u k &&& 1 = if bit u k then 1 else 0:=by
 apply UInt64.toNat_inj.1
 rw [UInt64.toNat_and]
 unfold shrU
 rcases Nat.lt_or_ge k 64 with h | h
 ·rw [if_pos h]
  have hlt:u.toNat / 2 ^ k < 2 ^ 64:=Nat.lt_of_le_of_lt (Nat.div_le_self _ _) (aE u)
  rw [UInt64.toNat_ofNat_of_lt' hlt]
  show (u.toNat / 2 ^ k) &&& 1 = _
  rw [Nat.and_one_is_mod]
  unfold bit
  rw [Nat.testBit_eq_decide_div_mod_eq]
  rcases Nat.mod_two_eq_zero_or_one (u.toNat / 2 ^ k) with h1 | h1
  ·rw [h1]; rfl
  ·rw [h1]; rfl
 ·rw [if_neg (by omega),cZ h]; rfl
theorem bX (u:UInt64) (k:Nat):(shrU u k &&& 1 = 1) ↔ bit u k = true:=by
 rw [eO]
 cases bit u k <;> simp
theorem ci (u:UInt64) (k:Nat):(shrU u k &&& 1 = 0) ↔ bit u k = false:=by
 rw [eO]
 cases bit u k <;> simp
def am (u:UInt64):List Nat:=(List.range 64).filter (bit u ·)
theorem bq {u:UInt64} {k:Nat}:k ∈ am u ↔ bit u k = true:=by
 unfold am
 rw [List.mem_filter,List.mem_range]
 exact ⟨fun h=>h.2,fun h=>⟨bI h,h⟩⟩
theorem aT (u:UInt64):(am u).length <= 64:=by
 unfold am
 exact Nat.le_trans (List.length_filter_le _ _) (by simp)
theorem cv:am 0 = []:=by
 unfold am
 rw [List.filter_eq_nil_iff]
 intro k _
 rw [aB]; simp
def low (u:UInt64):Nat:=Lib.ctz 64 u.toNat
theorem dm {u:UInt64} (h:u ≠ 0):∃ m,u.toNat = 2 ^ low u * (2 * m + 1)/\low u < 64:=by
 have h0:u.toNat ≠ 0:=fun e=>h (UInt64.toNat_inj.1 e)
 obtain ⟨m,h1,h2⟩:=Lib.ctzFrom_spec 64 u.toNat (by omega) (aE u)
 have e:low u = Lib.ctzFrom 64 u.toNat:=by simp [low,Lib.ctz,h0]
 rw [e]
 exact ⟨m,h1,h2⟩
theorem dw {t m i:Nat} {u:UInt64} (h:u.toNat = 2 ^ t * (2 * m + 1)):bit u i = (decide (t <= i) && (2 * m + 1).testBit (i - t)):=by
 unfold bit
 rw [h,Nat.mul_comm,Nat.testBit_mul_two_pow]
theorem aW {u:UInt64} (h:u ≠ 0):bit u (low u) = true:=by
 obtain ⟨m,h1,_⟩:=dm h
 rw [dw h1,Nat.sub_self,Nat.testBit_zero]
 simp
theorem ft {u:UInt64} {k:Nat} (h:u ≠ 0) (hk:k < low u):bit u k = false:=by
 obtain ⟨m,h1,_⟩:=dm h
 rw [dw h1]
 simp; omega
theorem cO {u:UInt64} (h:u ≠ 0):u &&& (-u) = shlU 1 (low u):=by
 have h0:u.toNat ≠ 0:=fun e=>h (UInt64.toNat_inj.1 e)
 obtain ⟨h1,h2⟩:=Lib.lowest_bit 64 u.toNat h0 (aE u)
 apply UInt64.toNat_inj.1
 rw [UInt64.toNat_and,di (show low u < 64 from h2)]
 have e:(-u).toNat = 2 ^ 64 - u.toNat:=by
  rw [UInt64.toNat_neg]
  have:=aE u
  show (18446744073709551616 - u.toNat) % 18446744073709551616 = 18446744073709551616 - u.toNat
  omega
 rw [e]
 exact h1
theorem eE {u:UInt64} (h:u ≠ 0) (k:Nat):bit (u &&& (u - 1)) k = (bit u k && decide (k ≠ low u)):=by
 obtain ⟨m,h1,h2⟩:=dm h
 have e:(u - 1).toNat = u.toNat - 1:=by
  rw [UInt64.toNat_sub_of_le]
  ·rfl
  ·rw [UInt64.le_iff_toNat_le]
   have:u.toNat ≠ 0:=fun e=>h (UInt64.toNat_inj.1 e)
   show 1 <= _
   omega
 generalize ht:low u = t at *
 have hp:0 < 2 ^ t:=Nat.two_pow_pos t
 have e2:u.toNat - 1 = 2 ^ t * (2 * m) + (2 ^ t - 1):=by
  rw [h1,Nat.mul_add,Nat.mul_one]; omega
 have hb:(u - 1).toNat.testBit k = if k < t then true else (2 * m).testBit (k - t):=by
  rw [e,e2,Nat.testBit_two_pow_mul_add _ (by omega)]
  by_cases hk:k < t
  ·rw [if_pos hk,if_pos hk,Nat.testBit_two_pow_sub_one]; simp [hk]
  ·rw [if_neg hk,if_neg hk]
 rw [bA]
 show (bit u k && (u - 1).toNat.testBit k) = _
 rw [hb,dw h1]
 by_cases hk:k < t
 ·have:¬ t <= k:=by omega
  simp [this]
 ·rw [if_neg hk]
  by_cases hkt:k = t
  ·subst hkt; simp
  ·obtain ⟨j,rfl⟩:∃ j,k = t + (j + 1):=⟨k - t - 1,by omega⟩
   rw [show t + (j + 1) - t = j + 1 by omega,Nat.testBit_succ,Nat.testBit_succ]
   rw [show (2 * m + 1) / 2 = m by omega,show 2 * m / 2 = m by omega]
   have h3:t <= t + (j + 1):=by omega
   have h4:t + (j + 1) ≠ t:=by omega
   simp [h3]
theorem cy {p:Nat -> Bool}:∀ (l:List Nat) (t:Nat),l.Pairwise (· < ·) -> t ∈ l -> p t = true -> (∀ k,k < t -> p k = false) -> l.filter p = t :: l.filter (fun k=>p k && decide (k ≠ t))
 | [],t,_,h,_,_=>by cases h
 | x :: l,t,hp,hm,ht,hlow=>by
  have hx:=List.pairwise_cons.1 hp
  by_cases hxt:x = t
  ·subst hxt
   rw [List.filter_cons_of_pos ht,List.filter_cons_of_neg (by simp)]
   congr 1
   apply List.filter_congr
   intro k hk
   have:k ≠ x:=by have:=hx.1 k hk; omega
   simp [this]
  ·have hm' : t ∈ l:=(List.mem_cons.1 hm).resolve_left (fun e=>hxt e.symm)
   have hlt:=hx.1 t hm'
   have hpx:p x = false:=hlow x hlt
   rw [List.filter_cons_of_neg (by simp [hpx]),List.filter_cons_of_neg (by simp [hpx])]
   exact cy l t hx.2 hm' ht hlow
theorem bG {u:UInt64} (h:u ≠ 0):am u = low u :: am (u &&& (u - 1)):=by
 unfold am
 rw [cy (List.range 64) (low u) List.pairwise_lt_range (List.mem_range.2 (bI (aW h))) (aW h) (fun k hk=>ft h hk)]
 congr 1
 apply List.filter_congr
 intro k _
 rw [eE h]
def bP (x:Nat):Nat:=if x = 0 then 0 else x.log2 + 1
theorem bE {x k:Nat}:bP x <= k ↔ x < 2 ^ k:=by
 unfold bP
 by_cases h:x = 0
 ·rw [if_pos h]; subst h; simp [Nat.two_pow_pos]
 ·rw [if_neg h,<- Nat.log2_lt h]; omega
theorem cp {x k:Nat} (h:2 ^ k <= x):bP x = bP (x / 2 ^ k) + k:=by
 have hp:0 < 2 ^ k:=Nat.two_pow_pos k
 have h0:0 < x / 2 ^ k:=Nat.div_pos h hp
 apply Nat.le_antisymm
 ·rw [bE,Nat.pow_add]
  have:=(bE (x:=x / 2 ^ k) (k:=bP (x / 2 ^ k))).1 (Nat.le_refl _)
  exact (Nat.div_lt_iff_lt_mul hp).1 this
 ·have h1:=(bE (x:=x) (k:=bP x)).1 (Nat.le_refl _)
  have h2:k <= bP x:=by
   rcases Nat.lt_or_ge (bP x) k with h3 | h3
   ·have:=(bE (x:=x) (k:=k)).1 (by omega); omega
   ·exact h3
  have h3:bP (x / 2 ^ k) <= bP x - k:=by
   rw [bE,Nat.div_lt_iff_lt_mul hp,<- Nat.pow_add,Nat.sub_add_cancel h2]
   exact h1
  omega
theorem eG {u:UInt64} {N:Nat}:u.toNat < 2 ^ N ↔ ∀ k,bit u k = true -> k < N:=by
 constructor
 ·intro h k hk
  rcases Nat.lt_or_ge k N with h1 | h1
  ·exact h1
  ·unfold bit at hk
   rw [Nat.testBit_lt_two_pow (Nat.lt_of_lt_of_le h (Nat.pow_le_pow_right (by decide) h1))] at hk
   cases hk
 ·intro h
  apply Nat.lt_pow_two_of_testBit
  intro k hk
  cases hb:u.toNat.testBit k with
  | false=>rfl
  | true=>have:=h k hb; omega
end Go.Proofs.YtlleajifdbnbaaaGreatDoor
namespace Go.Proofs.YtlleajifdbnbaaaGreatDoor
open Go
theorem tz_tab:∀ t,t < 64 -> tab0[(shrU (shlU 1 t * (285870213051353865:UInt64)) 58).toNat]? = some (UInt8.ofNat t):=by decide +kernel
theorem tz_eq (n:Nat) {u:UInt64} (h:u ≠ 0):al_p n u = some ((low u:Nat):Int):=by
 unfold al_p
 have hl:low u < 64:=bI (aW h)
 rw [if_neg h,cO h,tz_tab _ hl]
 simp only [aa]
 rw [UInt8.toNat_ofNat_of_lt' (by show _ < 256; omega)]
theorem len_tab:∀ x,x < 256 -> (bV[x]?).map (·.toNat) = some (bP x):=by decide +kernel
theorem bt (u:UInt64) {k:Nat} (h:k < 64):(shrU u k).toNat = u.toNat / 2 ^ k:=by
 unfold shrU
 rw [if_pos h]
 exact UInt64.toNat_ofNat_of_lt' (Nat.lt_of_le_of_lt (Nat.div_le_self _ _) (aE u))
theorem fy {u:UInt64} (h:u.toNat < 256):(cR u).toNat = u.toNat:=by
 unfold cR
 first
  | exact UInt8.toNat_ofNat_of_lt' h
  | simp [Nat.mod_eq_of_lt h]
theorem ib (n:Nat) (u:UInt64):aU_p n u = some ((bP u.toNat:Nat):Int):=by
 have last:∀ (v:UInt64) (z:Nat),v.toNat < 256 -> z <= 56 -> ((bV[(cR v).toNat]?).bind fun z27=>(chk (((z:Nat):Int) + ((z27.toNat:Nat):Int))).bind fun s29=>some s29) = some (((bP v.toNat + z:Nat)):Int):=fun v z hv hz=>by
  rw [fy hv]
  have:=len_tab v.toNat hv
  cases hs:bV[v.toNat]? with
  | none=>rw [hs] at this; cases this
  | some b=>
   rw [hs] at this
   have hb:b.toNat = bP v.toNat:=Option.some.inj this
   simp only [aa]
   have hb8:bP v.toNat <= 8:=bE.2 hv
   rw [hb,av (by omega)]
   simp only [aa]
   congr 1
   omega
 have mid:∀ (v:UInt64) (z:Nat),v.toNat < 65536 -> z <= 48 -> (if (256:UInt64) <= v then (chk (((z:Nat):Int) + 8)).bind fun s31=>(bV[(cR (shrU v 8)).toNat]?).bind fun z27=>(chk (s31 + ((z27.toNat:Nat):Int))).bind fun s29=>some s29 else (bV[(cR v).toNat]?).bind fun z27=>(chk (((z:Nat):Int) + ((z27.toNat:Nat):Int))).bind fun s29=>some s29) = some (((bP v.toNat + z:Nat)):Int):=fun v z hv hz=>by
  by_cases h:(256:UInt64) <= v
  ·rw [if_pos h,av (by omega)]
   simp only [aa]
   have h' : 2 ^ 8 <= v.toNat:=UInt64.le_iff_toNat_le.1 h
   have hs:=bt v (show 8 < 64 by omega)
   have:=last (shrU v 8) (z + 8) (by rw [hs]; omega) (by omega)
   rw [show (((z:Nat):Int) + 8) = ((z + 8:Nat):Int) by omega,this,hs,cp h']
   congr 1
   omega
  ·rw [if_neg h]
   have h' : ¬ 256 <= v.toNat:=fun e=>h (UInt64.le_iff_toNat_le.2 e)
   exact last v z (by omega) (by omega)
 have mid2:∀ (v:UInt64) (z:Nat),v.toNat < 4294967296 -> z <= 32 -> (if (65536:UInt64) <= v then (chk (((z:Nat):Int) + 16)).bind fun s33=>(if (256:UInt64) <= (shrU v 16) then (chk (s33 + 8)).bind fun s31=>(bV[(cR (shrU (shrU v 16) 8)).toNat]?).bind fun z27=>(chk (s31 + ((z27.toNat:Nat):Int))).bind fun s29=>some s29 else (bV[(cR (shrU v 16)).toNat]?).bind fun z27=>(chk (s33 + ((z27.toNat:Nat):Int))).bind fun s29=>some s29) else (if (256:UInt64) <= v then (chk (((z:Nat):Int) + 8)).bind fun s31=>(bV[(cR (shrU v 8)).toNat]?).bind fun z27=>(chk (s31 + ((z27.toNat:Nat):Int))).bind fun s29=>some s29 else (bV[(cR v).toNat]?).bind fun z27=>(chk (((z:Nat):Int) + ((z27.toNat:Nat):Int))).bind fun s29=>some s29)) = some (((bP v.toNat + z:Nat)):Int):=fun v z hv hz=>by
  by_cases h:(65536:UInt64) <= v
  ·rw [if_pos h,av (by omega)]
   simp only [aa]
   have h' : 2 ^ 16 <= v.toNat:=UInt64.le_iff_toNat_le.1 h
   have hs:=bt v (show 16 < 64 by omega)
   have:=mid (shrU v 16) (z + 16) (by rw [hs]; omega) (by omega)
   rw [show (((z:Nat):Int) + 16) = ((z + 16:Nat):Int) by omega,this,hs,cp h']
   congr 1
   omega
  ·rw [if_neg h]
   have h' : ¬ 65536 <= v.toNat:=fun e=>h (UInt64.le_iff_toNat_le.2 e)
   exact mid v z (by omega) (by omega)
 unfold aU_p
 simp only [jn]
 have hu:=aE u
 by_cases h:(4294967296:UInt64) <= u
 ·rw [if_pos h]
  have h' : 2 ^ 32 <= u.toNat:=UInt64.le_iff_toNat_le.1 h
  have hs:=bt u (show 32 < 64 by omega)
  have:=mid2 (shrU u 32) 32 (by rw [hs]; omega) (by omega)
  rw [hs,<- cp h'] at this
  exact this
 ·rw [if_neg h]
  have h' : ¬ 4294967296 <= u.toNat:=fun e=>h (UInt64.le_iff_toNat_le.2 e)
  exact mid2 u 0 (by omega) (by omega)
def bw (N:Int) (u:UInt64):Prop:=∀ k,bit u k = true -> (k:Int) < N
theorem cN {N:Int} {u:UInt64} (h:0 <= N):((bP u.toNat:Nat):Int) <= N ↔ bw N u:=by
 obtain ⟨m,rfl⟩:∃ m:Nat,N = m:=⟨N.toNat,by omega⟩
 rw [Int.ofNat_le,bE,eG]
 unfold bw
 exact ⟨fun h k hk=>by have:=h k hk; omega,fun h k hk=>by have:=h k hk; omega⟩
def Lex (a b:Int × Int):Prop:=a.1 < b.1 ∨ a.1 = b.1/\a.2 < b.2
structure Valid (g:Tb):Prop where
 n1:1 <= g.fN
 n64:g.fN <= 64
 len:g.fh.length <= 200
 ok:∀ e ∈ g.fh,0 <= e.1/\e.1 < e.2/\e.2 < g.fN
 sorted:∀ (i:Nat) (e f:Int × Int),g.fh[i]? = some e -> g.fh[i + 1]? = some f -> Lex e f
theorem gY (n:Nat) (a b:Int):bp_p n a b = some (if a < b then -1 else if b < a then 1 else 0):=by
 unfold bp_p aV_p
 simp only [aa]
 simp only [decide_true,Bool.not_true,Bool.false_eq_true,if_false]
 split <;> (try rfl)
 split <;> rfl
theorem cJ {α β:Type} (B:(α -> Option β) -> α -> Option β) (n:Nat):ac B (n + 1) = B (ac B n):=rfl
theorem hP (n:Nat) (a b c d:Int) (hn:2 < n):∃ y,ay_p n [a,b] [c,d] = some y/\(0 <= y ↔ ¬ Lex (a,b) (c,d)):=by
 obtain ⟨m,rfl⟩:∃ m,n = m + 1 + 1 + 1:=⟨n - 3,by omega⟩
 unfold ay_p
 rw [cJ,cJ,cJ]
 unfold ay_l1
 simp [gY,thn,Lex]
 by_cases h1:a < c
 ·simp [h1]; try omega
 ·by_cases h2:c < a
  ·simp [h1,h2]; try omega
  ·have:a = c:=by omega
   subst this
   by_cases h3:b < d
   ·simp [h3]
   ·by_cases h4:d < b
    ·simp [h3,h4]; try omega
    ·simp [h3,h4]; try omega
theorem eX (n:Nat) (g:Tb) (hn:300 < n):∃ r,aS_p n g = some r/\(r = 0/\Valid g ∨ r = 180/\¬ Valid g):=by
 unfold aS_p
 by_cases h1:g.fN < 1
 ·rw [if_pos h1]; exact ⟨_,rfl,.inr ⟨rfl,fun h=>by have:=h.n1; omega⟩⟩
 rw [if_neg h1]
 by_cases h2:64 < g.fN
 ·rw [if_pos h2]; exact ⟨_,rfl,.inr ⟨rfl,fun h=>by have:=h.n64; omega⟩⟩
 rw [if_neg h2]
 by_cases h3:200 < g.fh.length
 ·rw [if_pos h3]; exact ⟨_,rfl,.inr ⟨rfl,fun h=>by have:=h.len; omega⟩⟩
 rw [if_neg h3]
 obtain ⟨r,e1,e2⟩:=ap (B:=aS_l1 n g) (fun s=>g.fh.length - s.1) (fun (i,z1,z2)=>i <= g.fh.length/\(∀ j e,j < i -> g.fh[j]? = some e -> 0 <= e.1/\e.1 < e.2/\e.2 < g.fN)/\
   (∀ j e f,j + 1 < i -> g.fh[j]? = some e -> g.fh[j + 1]? = some f -> Lex e f)/\(i = 0 -> z1 = -1/\z2 = -1)/\(∀ j,i = j + 1 -> g.fh[j]? = some (z1,z2)))
  (fun r=>r = .inl 180/\¬ Valid g ∨ r = .inr ()/\Valid g) (fun ⟨i,z1,z2⟩ J ⟨q1,q2,q3,q4,q5⟩ hJ=>by
  simp only at q1 q2 q3 q4 q5 hJ
  unfold aS_l1
  simp only
  by_cases hi:i < g.fh.length
  ·rw [if_pos hi,geE hi]
   simp only [aa]
   generalize he:g.fh[i] = e
   have hge:g.fh[i]? = some e:=by rw [geE hi,he]
   have hmem:e ∈ g.fh:=he ▸ List.getElem_mem hi
   by_cases c1:e.1 < 0
   ·rw [if_pos c1]; exact ⟨_,rfl,.inl ⟨rfl,fun h=>by have:=h.ok e hmem; omega⟩⟩
   rw [if_neg c1]
   by_cases c2:e.2 <= e.1
   ·rw [if_pos c2]; exact ⟨_,rfl,.inl ⟨rfl,fun h=>by have:=h.ok e hmem; omega⟩⟩
   rw [if_neg c2]
   by_cases c3:g.fN <= e.2
   ·rw [if_pos c3]; exact ⟨_,rfl,.inl ⟨rfl,fun h=>by have:=h.ok e hmem; omega⟩⟩
   rw [if_neg c3]
   obtain ⟨y,y1,y2⟩:=hP n z1 z2 e.1 e.2 (by omega)
   rw [y1]
   simp only [aa]
   by_cases c4:0 <= y
   ·rw [if_pos c4]
    refine ⟨_,rfl,.inl ⟨rfl,fun h=>y2.1 c4 ?_⟩⟩
    cases i with
    | zero=>obtain ⟨rfl,rfl⟩:=q4 rfl; left; show (-1:Int) < e.1; omega
    | succ j=>exact h.sorted j (z1,z2) e (q5 j rfl) hge
   ·rw [if_neg c4]
    have hlex:Lex (z1,z2) e:=Classical.byContradiction fun hh=>c4 (y2.2 hh)
    refine hJ (i + 1,e.1,e.2) ⟨by simp only; omega,fun j e' hj he' =>?_,fun j e' f hj he' hf=>?_,fun h=>by simp at h,fun j hj=>?_⟩ (by simp only; omega)
    ·simp only at hj
     by_cases hji:j = i
     ·subst hji; rw [hge] at he'; cases he'; exact ⟨by omega,by omega,by omega⟩
     ·exact q2 j e' (by omega) he'
    ·simp only at hj
     by_cases hji:j + 1 = i
     ·have:=q5 j hji.symm
      rw [this] at he'
      rw [hji,hge] at hf
      cases he'; cases hf
      exact hlex
     ·exact q3 j e' f (by omega) he' hf
    ·simp only at hj ⊢
     have:j = i:=by omega
     subst this
     rw [hge]
  ·rw [if_neg hi]
   refine ⟨_,rfl,.inr ⟨rfl,by omega,by omega,by omega,fun e he=>?_,fun j e f he hf=>?_⟩⟩
   ·obtain ⟨j,hj,rfl⟩:=List.getElem_of_mem he
    exact q2 j _ (by omega) (geE hj)
   ·have:=(List.getElem?_eq_some_iff.1 hf).1
    exact q3 j e f (by omega) he hf) n (0,-1,-1) ⟨by simp,fun j e h=>by simp at h,fun j e f h=>by simp at h,fun _=>⟨rfl,rfl⟩,fun j h=>by simp at h⟩ (by simp only; omega)
 rw [e1]
 rcases e2 with ⟨rfl,h⟩ | ⟨rfl,h⟩
 ·exact ⟨180,rfl,.inr ⟨rfl,h⟩⟩
 ·exact ⟨0,rfl,.inl ⟨rfl,h⟩⟩
theorem Valid.check {n:Nat} {g:Tb} (h:Valid g) (hn:300 < n):aS_p n g = some 0:=by
 obtain ⟨r,h1,h2⟩:=eX n g hn
 rcases h2 with ⟨rfl,_⟩ | ⟨_,h3⟩
 ·exact h1
 ·exact absurd h h3
theorem Valid.check2 {n:Nat} {g:Tb} (h:Valid g) (hn:300 < n) (u:UInt64):∃ r,bu_p n g u = some r/\(r = 0/\bw g.fN u ∨ r = 2/\¬ bw g.fN u):=by
 unfold bu_p
 rw [h.check hn]
 simp only [aa]
 rw [ifT,ib]
 simp only [aa]
 have h0:=h.n1
 by_cases hf:bw g.fN u
 ·rw [if_neg (by have:=(cN (by omega)).2 hf; omega)]; exact ⟨_,rfl,.inl ⟨rfl,hf⟩⟩
 ·rw [if_pos (by have:=mt (cN (N:=g.fN) (u:=u) (by omega)).1 hf; omega)]; exact ⟨_,rfl,.inr ⟨rfl,hf⟩⟩
theorem fits_p (n:Nat) (g:Tb) (u:UInt64) (h:0 <= g.fN):∃ b,bo_p n g u = some b/\(b = true ↔ bw g.fN u):=by
 unfold bo_p
 rw [ib]
 simp only [aa]
 exact ⟨_,rfl,by rw [decide_eq_true_eq,cN h]⟩
def Adj (g:Tb) (a b:Nat):Prop:=((a:Int),(b:Int)) ∈ g.fh ∨ ((b:Int),(a:Int)) ∈ g.fh
theorem Adj.symm {g:Tb} {a b:Nat} (h:Adj g a b):Adj g b a:=Or.symm h
theorem Valid.adj {g:Tb} (h:Valid g) {a b:Nat} (k:Adj g a b):(a:Int) < g.fN/\(b:Int) < g.fN/\a ≠ b:=by
 rcases k with k | k <;> have:=h.ok _ k <;> simp only at this <;> omega
theorem aK {x:Int} (h:0 <= x):aL x = some x.toNat:=if_pos h
theorem fu {α:Type} {xs:List α} {i:Int} (h0:0 <= i) (h:i < xs.length):idx xs i = some (xs[i.toNat]'(by omega)):=by
 unfold idx
 rw [if_pos h0,geE]
theorem cL {α:Type} {xs:List α} {i:Int} (v:α) (h0:0 <= i) (h:i < xs.length):put xs i v = some (xs.set i.toNat v):=by
 unfold put
 rw [if_pos ⟨h0,h⟩]
theorem gj (n:Nat) (g:Tb) (h:Valid g) (hn:300 < n):∃ l,aZ_p n g = some l/\(l.length:Int) = g.fN/\∀ (a:Nat) u,l[a]? = some u -> ∀ b,bit u b = true ↔ Adj g a b:=by
 unfold aZ_p
 have h1:=h.n1; have h64:=h.n64; have hlen:=h.len
 have hm:mk g.fN (0:UInt64) = some (List.replicate g.fN.toNat 0):=if_pos ⟨by omega,by omega⟩
 rw [hm]
 simp only [aa]
 obtain ⟨l,e1,e2,e3⟩:=ap (B:=aZ_l1 n g) (fun s=>g.fh.length - s.1) (fun (i,xs)=>i <= g.fh.length/\(xs.length:Int) = g.fN/\∀ (a:Nat) u,xs[a]? = some u -> ∀ b,bit u b = true ↔ (((a:Int),(b:Int)) ∈ g.fh.take i ∨ ((b:Int),(a:Int)) ∈ g.fh.take i))
  (fun xs=>(xs.length:Int) = g.fN/\∀ (a:Nat) u,xs[a]? = some u -> ∀ b,bit u b = true ↔ Adj g a b) (fun ⟨i,xs⟩ J ⟨q1,q2,q3⟩ hJ=>by
  simp only at q1 q2 q3 hJ
  unfold aZ_l1
  simp only
  by_cases hi:i < g.fh.length
  ·rw [if_pos hi,geE hi]
   simp only [aa]
   generalize he:g.fh[i] = e
   have hmem:e ∈ g.fh:=he ▸ List.getElem_mem hi
   obtain ⟨o1,o2,o3⟩:=h.ok e hmem
   rw [fu o1 (by omega),aK (by omega)]
   simp only [aa]
   rw [cL _ (by omega) (by omega),Int.toNat_natCast]
   simp only [aa]
   rw [fu (by omega) (by simp only [List.length_set]; omega),aK o1]
   simp only [aa]
   rw [cL _ (by omega) (by simp only [List.length_set]; omega),Int.toNat_natCast]
   simp only [aa]
   refine hJ _ ⟨by simp only; omega,by simp only [List.length_set]; exact q2,fun a u hu b=>?_⟩ (by simp only; omega)
   simp only at hu ⊢
   have htake:g.fh.take (i + 1) = g.fh.take i ++ [e]:=by rw [List.take_succ_eq_append_getElem hi,he]
   rw [htake,List.mem_append,List.mem_append,List.mem_singleton,List.mem_singleton]
   have hne:e.1.toNat ≠ e.2.toNat:=by omega
   have hal:a < xs.length:=by
    have:=(List.getElem?_eq_some_iff.1 hu).1
    simpa using this
   have hold:=q3 a xs[a] (geE hal) b
   rw [List.getElem?_set] at hu
   by_cases c2:e.2.toNat = a
   ·rw [if_pos c2,if_pos (by simp only [List.length_set]; omega)] at hu
    have hu:_ = u:=Option.some.inj hu
    rw [<- hu,ba,az (by omega),List.getElem_set_ne hne]
    subst c2
    simp only [Bool.or_eq_true,decide_eq_true_eq]
    rw [hold]
    constructor
    ·rintro ((k | k) | k)
     ·exact .inl (.inl k)
     ·exact .inr (.inl k)
     ·right; right; apply Prod.ext <;> simp only <;> omega
    ·rintro ((k | k) | (k | k))
     ·exact .inl (.inl k)
     ·exfalso; have:=congrArg Prod.fst k; have k2:=congrArg Prod.snd k; simp only at this k2; omega
     ·exact .inl (.inr k)
     ·right; have:=congrArg Prod.fst k; simp only at this; omega
   ·rw [if_neg c2,List.getElem?_set] at hu
    by_cases c1:e.1.toNat = a
    ·rw [if_pos c1,if_pos (by omega)] at hu
     have hu:_ = u:=Option.some.inj hu
     rw [<- hu,ba,az (by omega)]
     subst c1
     simp only [Bool.or_eq_true,decide_eq_true_eq]
     rw [hold]
     constructor
     ·rintro ((k | k) | k)
      ·exact .inl (.inl k)
      ·exact .inr (.inl k)
      ·left; right; apply Prod.ext <;> simp only <;> omega
     ·rintro ((k | k) | (k | k))
      ·exact .inl (.inl k)
      ·right; have:=congrArg Prod.snd k; simp only at this; omega
      ·exact .inl (.inr k)
      ·exfalso; have:=congrArg Prod.snd k; simp only at this; omega
    ·rw [if_neg c1] at hu
     rw [q3 a u hu b]
     constructor
     ·rintro (k | k)
      ·exact .inl (.inl k)
      ·exact .inr (.inl k)
     ·rintro ((k | k) | (k | k))
      ·exact .inl k
      ·exfalso; have:=congrArg Prod.fst k; simp only at this; omega
      ·exact .inr k
      ·exfalso; have:=congrArg Prod.snd k; simp only at this; omega
  ·rw [if_neg hi]
   refine ⟨_,rfl,q2,fun a u hu b=>?_⟩
   rw [q3 a u hu b,List.take_of_length_le (by omega)]
   rfl) n (0,List.replicate g.fN.toNat 0) ⟨by simp,by simp; omega,fun a u hu b=>by
    rw [List.getElem?_replicate] at hu
    split at hu
    ·cases hu; simp [aB]
    ·cases hu⟩ (by simp only; omega)
 rw [e1]
 exact ⟨l,rfl,e2,e3⟩
theorem dQ {σ β:Type} {B:(UInt64 × σ -> Option β) -> UInt64 × σ -> Option β} (R:σ -> β) (F:Nat -> σ -> Option σ) (hB:∀ J (u:UInt64) s,B J (u,s) = if u = 0 then some (R s) else (F (low u) s).bind fun s' =>J (u &&& (u - 1),s')) :
  ∀ (m n:Nat) (u:UInt64) (s:σ),(am u).length <= m -> m < n -> ac B n (u,s) = ((am u).foldlM (fun s t=>F t s) s).map R:=by
 intro m
 induction m with
 | zero=>
  intro n u s hm hn
  obtain ⟨k,rfl⟩:∃ k,n = k + 1:=⟨n - 1,by omega⟩
  have hu:u = 0:=Classical.byContradiction fun hne=>by rw [bG hne] at hm; simp at hm
  rw [ay,hB,if_pos hu,hu,cv]
  rfl
 | succ m ih=>
  intro n u s hm hn
  obtain ⟨k,rfl⟩:∃ k,n = k + 1:=⟨n - 1,by omega⟩
  rw [ay,hB]
  by_cases hu:u = 0
  ·rw [if_pos hu,hu,cv]; rfl
  ·rw [if_neg hu,bG hu,List.foldlM_cons]
   have hl:(am (u &&& (u - 1))).length <= m:=by rw [bG hu] at hm; simpa using hm
   cases F (low u) s with
   | none=>rfl
   | some s' =>exact ih k _ s' hl (by omega)
end Go.Proofs.YtlleajifdbnbaaaGreatDoor
namespace Go.Proofs.YtlleajifdbnbaaaGreatDoor
open Go
inductive Way (g:Tb) (s:UInt64) (x:Nat):Nat -> Nat -> Prop
 | here:Way g s x 0 x
 | on {m a b:Nat} (h:Way g s x m a) (k:Adj g a b) (hb:bit s b = true):Way g s x (m + 1) b
theorem Way.inside {g:Tb} {s:UInt64} {x m y:Nat} (hx:bit s x = true) (h:Way g s x m y):bit s y = true:=by
 cases h with
 | here=>exact hx
 | on _ _ hb=>exact hb
theorem cM {u v:UInt64} (h:∀ k,bit u k = true -> bit v k = true) (hx:∃ k,bit v k = true/\bit u k = false):(am u).length < (am v).length:=by
 have e:am u = (am v).filter (bit u ·):=by
  unfold am
  rw [List.filter_filter]
  apply List.filter_congr
  intro k _
  cases hu:bit u k with
  | false=>simp
  | true=>rw [h k hu]; rfl
 rw [e]
 obtain ⟨k,k1,k2⟩:=hx
 apply List.length_filter_lt_length_iff_exists.2
 exact ⟨k,bq.2 k1,by rw [k2]; simp⟩
theorem gU {α:Type} (x y:α):(if true = true then x else y) = x:=if_pos rfl
structure Dist (g:Tb) (s:UInt64) (x:Nat) (far:List Int):Prop where
 len:(far.length:Int) = g.fN
 ways:∀ (y:Nat) (d:Int),far[y]? = some d -> 0 <= d -> Way g s x d.toNat y
 least:∀ (y:Nat) m,Way g s x m y -> ∃ d:Int,far[y]? = some d/\0 <= d/\d <= m
end Go.Proofs.YtlleajifdbnbaaaGreatDoor
namespace Go.Proofs.YtlleajifdbnbaaaGreatDoor
open Go
theorem cX {u:UInt64} (h:u.toNat < 9223372036854775808):ab u = (u.toNat:Int):=by unfold ab; rw [if_pos h]
theorem gS (n:Nat) (c:Ta) (k:Nat) (h1:1 <= k) (h2:k <= 4294967296) (hn:300 < n):∃ v c' e,az_p n c (k:Int) = some (v,c', e)/\(e = 0/\0 <= v/\v < k ∨ e = 9):=by
 unfold az_p
 rw [if_neg (by omega)]
 have hk:(ae (k:Int)).toNat = k:=by rw [aZ]; exact UInt64.toNat_ofNat_of_lt' (show k < 2 ^ 64 by omega)
 have hk0:ae (k:Int) ≠ 0:=fun e=>by rw [e] at hk; simp at hk; omega
 have hrem:∀ x,∃ v,cY x (ae (k:Int)) = some v/\v.toNat < k:=fun x=>by
  refine ⟨x % ae (k:Int),if_neg hk0,?_⟩
  rw [UInt64.toNat_mod,hk]
  exact Nat.mod_lt _ (by omega)
 obtain ⟨s,s1,_⟩:=hrem (-(ae (k:Int)))
 rw [s1]
 simp only [aa]
 obtain ⟨r,e1,e2⟩:=ap (B:=az_l1 n s (k:Int)) (fun q=>200 - q.1) (fun q=>q.1 <= 200) (fun r=>r = .inr () ∨ ∃ (v:Int) (c' : Ta),r = .inl (v,c', 0)/\0 <= v/\v < k) (fun ⟨i,u⟩ J hi hJ=>by
  simp only at hi hJ
  unfold az_l1
  simp only
  by_cases h:i < 200
  ·rw [if_pos h]
   simp only [aa]
   have fin:∀ (x:UInt64) (c' : Ta),∃ r,((cY x (ae (k:Int))).bind fun s186=>some (Sum.inl (ab s186,c', (0:Int)):(Int × Ta × Int) ⊕ Unit)) = some r/\(r = .inr () ∨ ∃ (v:Int) (c' : Ta),r = .inl (v,c', 0)/\0 <= v/\v < k):=fun x c' =>by
    obtain ⟨v,v1,v2⟩:=hrem x
    rw [v1]
    simp only [aa]
    refine ⟨_,rfl,.inr ⟨_,_,rfl,?_,?_⟩⟩ <;> rw [cX (by omega)] <;> omega
   split
   ·exact fin _ _
   ·split
    ·exact fin _ _
    ·exact hJ _ (by simp only; omega) (by simp only; omega)
  ·rw [if_neg h]; exact ⟨_,rfl,.inl rfl⟩) n (0,c.fc) (by simp) (by simp only; omega)
 rw [e1]
 rcases e2 with rfl | ⟨v,c', rfl,h3,h4⟩
 ·exact ⟨_,_,_,rfl,.inr rfl⟩
 ·exact ⟨_,_,_,rfl,.inl ⟨rfl,h3,h4⟩⟩
theorem dU (n:Nat) (g:Tb) (h:Valid g) (hn:300 < n) (a:Nat):∃ u,ac (ah_l2 n g (a:Int)) n ((0:UInt64),0) = some u/\∀ b,bit u b = true ↔ Adj g a b:=by
 have hlen:=h.len; have h64:=h.n64
 refine ap (B:=ah_l2 n g (a:Int)) (fun s=>g.fh.length - s.2) (fun (u,i)=>i <= g.fh.length/\∀ b,bit u b = true ↔ (((a:Int),(b:Int)) ∈ g.fh.take i ∨ ((b:Int),(a:Int)) ∈ g.fh.take i)) (fun u=>∀ b,bit u b = true ↔ Adj g a b) (fun ⟨u,i⟩ J ⟨q1,q2⟩ hJ=>?_) n (0,0) ⟨by simp,fun b=>by simp [aB]⟩ (by simp only; omega)
 simp only at q1 q2 hJ
 unfold ah_l2
 simp only
 by_cases hi:i < g.fh.length
 ·rw [if_pos hi,geE hi]
  simp only [aa]
  generalize he:g.fh[i] = e
  have hmem:e ∈ g.fh:=he ▸ List.getElem_mem hi
  obtain ⟨o1,o2,o3⟩:=h.ok e hmem
  have htake:g.fh.take (i + 1) = g.fh.take i ++ [e]:=by rw [List.take_succ_eq_append_getElem hi,he]
  by_cases c1:e.1 = (a:Int)
  ·rw [if_pos c1,av (by omega)]
   simp only [aa]
   rw [av (by omega)]
   simp only [aa]
   rw [aK (by omega)]
   simp only [aa]
   refine hJ _ ⟨by simp only; omega,fun b=>?_⟩ (by simp only; omega)
   simp only
   rw [ba,az (by omega),Bool.or_eq_true,decide_eq_true_eq,q2,htake,List.mem_append,List.mem_append,List.mem_singleton,List.mem_singleton]
   constructor
   ·rintro ((k | k) | k)
    ·exact .inl (.inl k)
    ·exact .inr (.inl k)
    ·left; right; apply Prod.ext <;> simp only <;> omega
   ·rintro ((k | k) | (k | k))
    ·exact .inl (.inl k)
    ·right; have:=congrArg Prod.snd k; simp only at this; omega
    ·exact .inl (.inr k)
    ·exfalso; have:=congrArg Prod.snd k; simp only at this; omega
  ·rw [if_neg c1]
   simp only [jn]
   by_cases c2:e.2 = (a:Int)
   ·rw [if_pos c2,av (by omega)]
    simp only [aa]
    rw [av (by omega)]
    simp only [aa]
    rw [aK (by omega)]
    simp only [aa]
    refine hJ _ ⟨by simp only; omega,fun b=>?_⟩ (by simp only; omega)
    simp only
    rw [ba,az (by omega),Bool.or_eq_true,decide_eq_true_eq,q2,htake,List.mem_append,List.mem_append,List.mem_singleton,List.mem_singleton]
    constructor
    ·rintro ((k | k) | k)
     ·exact .inl (.inl k)
     ·exact .inr (.inl k)
     ·right; right; apply Prod.ext <;> simp only <;> omega
    ·rintro ((k | k) | (k | k))
     ·exact .inl (.inl k)
     ·exfalso; have:=congrArg Prod.fst k; simp only at this; omega
     ·exact .inl (.inr k)
     ·right; have:=congrArg Prod.fst k; simp only at this; omega
   ·rw [if_neg c2]
    refine hJ _ ⟨by simp only; omega,fun b=>?_⟩ (by simp only; omega)
    simp only
    rw [q2,htake,List.mem_append,List.mem_append,List.mem_singleton,List.mem_singleton]
    constructor
    ·rintro (k | k)
     ·exact .inl (.inl k)
     ·exact .inr (.inl k)
    ·rintro ((k | k) | (k | k))
     ·exact .inl k
     ·exfalso; have:=congrArg Prod.fst k; simp only at this; omega
     ·exact .inr k
     ·exfalso; have:=congrArg Prod.snd k; simp only at this; omega
 ·rw [if_neg hi]
  refine ⟨_,rfl,fun b=>?_⟩
  rw [q2,List.take_of_length_le (by omega)]
  rfl
theorem dz (n:Nat) (u:UInt64) (hn:300 < n):ac (ah_l1 n) n (u,([]:List Int)) = some ((am u).map fun k:Nat=>(k:Int)):=by
 have hloop:=dQ (B:=ah_l1 n) (fun s=>s) (fun t (xs:List Int)=>app xs ([((t:Nat):Int)]:List Int)) (fun J u s=>by
  unfold ah_l1
  simp only
  by_cases h0:u = 0
  ·rw [if_pos h0,if_pos h0]
  ·rw [if_neg h0,if_neg h0,tz_eq n h0]
   rfl) (am u).length n u [] (Nat.le_refl _) (by have:=aT u; omega)
 rw [hloop]
 have key:∀ (ts:List Nat) (xs:List Int),xs.length + ts.length <= 64 -> (ts.foldlM (fun xs t=>app xs ([((t:Nat):Int)]:List Int)) xs:Option (List Int)) = some (xs ++ ts.map fun k:Nat=>(k:Int)):=by
  intro ts
  induction ts with
  | nil=>intro xs _; simp
  | cons t ts ih=>
   intro xs h
   simp only [leC] at h
   rw [List.foldlM_cons,aR (by simp only [List.length_singleton]; omega)]
   have:=ih (xs ++ [(t:Int)]) (by simp only [List.length_append,List.length_singleton]; omega)
   simp only [Option.bind_eq_bind,Option.bind_some]
   rw [this]
   simp
 rw [key (am u) [] (by have:=aT u; simpa using this)]
 simp
structure Walked (g:Tb) (s v:UInt64) (x:Nat) (w:List Nat):Prop where
 first:w[0]? = some x
 inside:∀ y ∈ w,bit s y = true
 steps:∀ (i:Nat) a b,w[i]? = some a -> w[i + 1]? = some b -> Adj g a b
 away:∀ (i:Nat) a,w[i]? = some a -> i + 1 < w.length -> bit v a = false
theorem Walked.way {g:Tb} {s v:UInt64} {x:Nat} {w:List Nat} (h:Walked g s v x w):∀ (i y:Nat),w[i]? = some y -> Way g s x i y
 | 0,y,hy=>by
  have:=h.first
  rw [hy] at this
  cases this
  exact .here
 | i + 1,y,hy=>by
  have hi:i < w.length:=by have:=(List.getElem?_eq_some_iff.1 hy).1; omega
  exact .on (h.way i w[i] (geE hi)) (h.steps i _ y (geE hi) hy) (h.inside y (List.mem_of_getElem? hy))
theorem Way.back {g:Tb} {s:UInt64} {x m y:Nat} (hx:bit s x = true) (h:Way g s x m y):Way g s y m x:=by
 have app:∀ {a b c:Nat} {k j:Nat},Way g s a k b -> Way g s b j c -> Way g s a (k + j) c:=by
  intro a b c k j h1 h2
  induction h2 with
  | here=>exact h1
  | on _ k2 hb ih=>exact .on ih k2 hb
 induction h with
 | here=>exact .here
 | on hw k hb ih=>
  rename_i m a b
  have h1:Way g s b 1 a:=.on .here k.symm (hw.inside hx)
  have:=app h1 ih
  rwa [Nat.add_comm] at this
theorem Way.far {g:Tb} {s:UInt64} {a b m:Nat} (h:Way g s a m b) (hne:a ≠ b):∃ c,Adj g a c/\bit s c = true:=by
 induction h with
 | here=>exact absurd rfl hne
 | on hw k hb ih=>
  rename_i m' a' b'
  by_cases e:a = a'
  ·subst e; exact ⟨_,k,hb⟩
  ·exact ih e
theorem Way.add {g:Tb} {s:UInt64} {a b c k j:Nat} (h1:Way g s a k b) (h2:Way g s b j c):Way g s a (k + j) c:=by
 induction h2 with
 | here=>exact h1
 | on _ k2 hb ih=>exact .on ih k2 hb
theorem fE (n:Nat) (g:Tb) (h:Valid g) (hn:10010 < n) (s v:UInt64) (x:Nat) (c:UInt64) (left:Nat) (hleft:left <= 10000) (hs:bw g.fN s) (hx:bit s x = true) (y m:Nat) (hy:bit v y = true) (hm:Way g s x m y) :
  ∃ r,ac (ah_l3 n v g s) n ((x:Int),[(x:Int)],c,(left:Int)) = some r/\(r = .inl ([],⟨0⟩,9) ∨ ∃ (w:List Nat) (c' : UInt64) (z:Nat),r = .inr (w.map (fun k:Nat=>(k:Int)),c')/\Walked g s v x w/\w.length <= left + 1/\w[w.length - 1]? = some z/\bit v z = true/\(bit v x = true -> c' = c)):=by
 have h64:=h.n64
 obtain ⟨r,e1,e2⟩:=ap (B:=ah_l3 n v g s) (fun (_,_,_,l)=>l.toNat) (fun (z,xs,c0,l)=>∃ (k:Nat) (w:List Nat) (q:Nat),z = (k:Int)/\xs = w.map (fun k:Nat=>(k:Int))/\l = (q:Int)/\w.length + q = left + 1/\0 < w.length/\w[w.length - 1]? = some k/\Walked g s v x w/\(w.length = 1 -> c0 = c))
  (fun r=>r = .inl ([],⟨0⟩,9) ∨ ∃ (w:List Nat) (c' : UInt64) (z:Nat),r = .inr (w.map (fun k:Nat=>(k:Int)),c')/\Walked g s v x w/\w.length <= left + 1/\w[w.length - 1]? = some z/\bit v z = true/\(bit v x = true -> c' = c)) (fun ⟨z,xs,c0,l⟩ J hI hJ=>by
  simp only at hI hJ
  obtain ⟨k,w,q,rfl,rfl,rfl,hl,hpos,hlast,hw,hc⟩:=hI
  unfold ah_l3
  simp only
  rw [aK (by omega),Int.toNat_natCast]
  simp only [aa]
  by_cases hv:bit v k = true
  ·rw [if_pos ((bX v k).2 hv)]
   refine ⟨_,rfl,.inr ⟨w,c0,k,rfl,hw,by omega,hlast,hv,fun hx' =>hc ?_⟩⟩
   apply Classical.byContradiction
   intro hne
   have:=hw.away 0 x hw.first (by omega)
   rw [hx'] at this; cases this
  ·rw [if_neg (fun e=>hv ((bX v k).1 e))]
   by_cases hq:q = 0
   ·subst hq; rw [if_pos (by omega)]; exact ⟨_,rfl,.inl rfl⟩
   ·rw [if_neg (by omega),av (by omega)]
    simp only [aa]
    obtain ⟨u,u1,u2⟩:=dU n g h (by omega) k
    rw [u1]
    simp only [aa]
    rw [dz n _ (by omega)]
    simp only [aa]
    have hkw:Way g s x (w.length - 1) k:=hw.way _ k hlast
    have hk:bit s k = true:=hkw.inside hx
    obtain ⟨b,b1,b2⟩:=((hkw.back hx).add hm).far (fun e=>hv (e ▸ hy))
    have hbm:b ∈ am (u &&& s):=bq.2 (by rw [bA,(u2 b).2 b1,b2]; rfl)
    have hlen:=aT (u &&& s)
    have hne:1 <= (am (u &&& s)).length:=by
     rcases Nat.eq_zero_or_pos (am (u &&& s)).length with h0 | h0
     ·rw [List.length_eq_zero_iff.1 h0] at hbm; cases hbm
     ·exact h0
    obtain ⟨vv,c', e,e1,e2⟩:=gS n ⟨c0⟩ (am (u &&& s)).length hne (by omega) (by omega)
    rw [List.length_map,e1]
    simp only [aa]
    rcases e2 with ⟨rfl,e2,e3⟩ | rfl
    ·rw [if_pos rfl]
     have hvl:vv.toNat < (am (u &&& s)).length:=by omega
     rw [fu e2 (by rw [List.length_map]; omega)]
     simp only [aa]
     rw [List.getElem_map]
     generalize hb' : (am (u &&& s))[vv.toNat] = b'
     have hb'm:b' ∈ am (u &&& s):=hb' ▸ List.getElem_mem hvl
     have hb'b:=bq.1 hb'm
     rw [bA,Bool.and_eq_true,u2] at hb'b
     rw [aR (by simp only [List.length_map,List.length_singleton]; omega)]
     simp only [aa]
     refine hJ _ ⟨b', w ++ [b'],q - 1,rfl,by simp,show ((q:Int) - 1) = ((q - 1:Nat):Int) by omega,by simp only [List.length_append,List.length_singleton]; omega,by simp,by simp,⟨?_,?_,?_,?_⟩,fun h1=>?_⟩ (by simp only; omega)
     ·rw [List.getElem?_append_left hpos]; exact hw.first
     ·intro y' hy'
      rcases List.mem_append.1 hy' with hy' | hy'
      ·exact hw.inside y' hy'
      ·rcases List.mem_singleton.1 hy' with rfl; exact hb'b.2
     ·intro i a b'' ha hb''
      by_cases hi:i + 1 < w.length
      ·rw [List.getElem?_append_left (by omega)] at ha
       rw [List.getElem?_append_left hi] at hb''
       exact hw.steps i a b'' ha hb''
      ·have hil:i + 1 = w.length:=by
        have:=(List.getElem?_eq_some_iff.1 hb'').1
        simp only [List.length_append,List.length_singleton] at this
        omega
       rw [List.getElem?_append_left (by omega)] at ha
       rw [List.getElem?_append_right (by omega),hil,Nat.sub_self] at hb''
       have h1:i = w.length - 1:=by omega
       rw [h1,hlast] at ha
       cases ha; cases hb''
       exact hb'b.1
     ·intro i a ha hi
      simp only [List.length_append,List.length_singleton] at hi
      rw [List.getElem?_append_left (by omega)] at ha
      by_cases hi2:i + 1 < w.length
      ·exact hw.away i a ha hi2
      ·have h1:i = w.length - 1:=by omega
       rw [h1,hlast] at ha
       cases ha
       cases hb:bit v k with
       | false=>rfl
       | true=>exact absurd hb hv
     ·simp only [List.length_append,List.length_singleton] at h1; omega
    ·rw [if_neg (by omega)]
     exact ⟨_,rfl,.inl rfl⟩) n ((x:Int),[(x:Int)],c,(left:Int)) ⟨x,[x],left,rfl,rfl,rfl,by simp; omega,by simp,by simp,⟨by simp,fun y hy=>by simp at hy; subst hy; exact hx,fun i a b ha hb=>by
    have:=(List.getElem?_eq_some_iff.1 hb).1; simp at this,fun i a ha hi=>by simp at hi⟩,fun _=>rfl⟩ (by simp only; omega)
 exact ⟨r,e1,e2⟩
end Go.Proofs.YtlleajifdbnbaaaGreatDoor
namespace Go.Proofs.YtlleajifdbnbaaaGreatDoor
open Go
theorem gi {x:Int} (h1:-9223372036854775808 <= x) (h2:x <= 9223372036854775807):chk x = some x:=if_pos ⟨h1,h2⟩
theorem eu {α:Type} {xs:List α} {i:Int} (h0:0 <= i) (h:i.toNat < xs.length):idx xs i = some xs[i.toNat]:=by unfold idx; rw [if_pos h0,geE h]
theorem cutN_ok {α:Type} {xs:List α} {z:Nat} (h:z <= xs.length):cut xs 0 (z:Int) = some (xs.take z):=by
 unfold cut; rw [if_pos ⟨Int.le_refl _,Int.natCast_nonneg _,by omega⟩]; rfl
theorem appS {α:Type} (xs ys:List α) (h:xs.length + ys.length <= 1000000):app xs ys = some (xs ++ ys):=if_pos (Nat.le_trans h (by decide))
theorem dj {α:Type} {l:List α} {n:Nat} (h:l.length <= n):l.take n = l:=List.take_of_length_le h
def dv:List Int -> Nat
 | []=>0
 | x :: xs=>x.toNat + 4294967296 * dv xs
def Dig (xs:List Int):Prop:=∀ x ∈ xs,0 <= x/\x < 4294967296
theorem dig_nil:Dig []:=fun x hx=>by cases hx
theorem em (xs ys:List Int):dv (xs ++ ys) = dv xs + 4294967296 ^ xs.length * dv ys:=by
 induction xs with
 | nil=>simp [dv]
 | cons x xs ih=>simp only [List.cons_append,dv,ih,leC,Nat.pow_succ]; grind
theorem Dig.tl {x:Int} {xs:List Int} (h:Dig (x :: xs)):Dig xs:=fun y hy=>h y (List.mem_cons_of_mem _ hy)
theorem eB:∀ {xs:List Int},Dig xs -> dv xs < 4294967296 ^ xs.length
 | [],_=>by simp [dv]
 | x :: xs,h=>by
  have h1:=h x (List.mem_cons_self ..)
  have h2:4294967296 * (dv xs + 1) <= 4294967296 * 4294967296 ^ xs.length:=Nat.mul_le_mul_left _ (eB h.tl)
  simp only [dv,leC,Nat.pow_succ]
  rw [Nat.mul_comm (_ ^ _)]
  omega
theorem df (a:List Int) {i:Nat} (h:i < a.length):dv (a.take (i + 1)) = dv (a.take i) + 4294967296 ^ i * a[i].toNat:=by
 rw [<- List.take_append_getElem h,em,List.length_take,Nat.min_eq_left (Nat.le_of_lt h)]
 simp [dv]
theorem eQ (b:List Int) (i:Nat):dv (b.take (i + 1)) = dv (b.take i) + 4294967296 ^ i * (b[i]?.getD 0).toNat:=by
 by_cases h:i < b.length
 ·rw [df b h,geE h]; rfl
 ·rw [dj (by omega),dj (by omega),List.getElem?_eq_none (by omega)]; simp
theorem eP (a:List Int) {i:Nat} (h:i < a.length):dv a = dv (a.take i) + 4294967296 ^ i * a[i].toNat + 4294967296 ^ (i + 1) * dv (a.drop (i + 1)):=by
 conv=>lhs; rw [<- List.take_append_drop (i + 1) a,em]
 rw [df a h,List.length_take,Nat.min_eq_left (by omega)]
theorem fZ:∀ (xs:List Int),(∀ x ∈ xs,x = 0) -> dv xs = 0
 | [],_=>rfl
 | x :: xs,h=>by
  have h1:=h x (List.mem_cons_self ..)
  have h2:=fZ xs fun y hy=>h y (List.mem_cons_of_mem _ hy)
  subst h1; simp [dv,h2]
def rd (m:Nat):List Int:=if m = 0 then [] else ((m % 4294967296:Nat):Int) :: rd (m / 4294967296)
termination_by m
decreasing_by exact Nat.div_lt_self (by omega) (by omega)
theorem rd0:rd 0 = []:=by unfold rd; simp
theorem eH {m:Nat} (h:m ≠ 0):rd m = ((m % 4294967296:Nat):Int) :: rd (m / 4294967296):=by rw [rd]; rw [if_neg h]
theorem bh (m:Nat):dv (rd m) = m:=by
 induction m using Nat.strongRecOn with
 | _ m ih=>
  by_cases h:m = 0
  ·subst h; rw [rd0]; rfl
  ·rw [eH h]; simp only [dv]
   rw [ih _ (Nat.div_lt_self (by omega) (by omega)),Int.toNat_natCast]
   exact Nat.mod_add_div m 4294967296
theorem bv (m:Nat):Dig (rd m):=by
 induction m using Nat.strongRecOn with
 | _ m ih=>
  by_cases h:m = 0
  ·subst h; rw [rd0]; intro x hx; cases hx
  ·rw [eH h]
   intro x hx
   rcases List.mem_cons.1 hx with rfl | hx
   ·omega
   ·exact ih _ (Nat.div_lt_self (by omega) (by omega)) x hx
def Nr (xs:List Int):Prop:=∀ x,xs.getLast? = some x -> x ≠ 0
theorem Nr.tail {x y:Int} {xs:List Int} (h:Nr (x :: y :: xs)):Nr (y :: xs):=fun z hz=>h z (by rw [List.getLast?_cons_cons]; exact hz)
theorem fP:∀ {xs:List Int},Dig xs -> Nr xs -> xs ≠ [] -> 4294967296 ^ (xs.length - 1) <= dv xs
 | [],_,_,h=>absurd rfl h
 | [x],hd,h,_=>by
  have h1:=h x rfl
  have h2:=hd x (List.mem_cons_self ..)
  simp only [dv,leC,leN]
  show 4294967296 ^ 0 <= _
  rw [Nat.pow_zero]; omega
 | x :: y :: xs,hd,h,_=>by
  have h1:=fP hd.tl h.tail (by simp)
  have h2:4294967296 * 4294967296 ^ xs.length <= 4294967296 * dv (y :: xs):=Nat.mul_le_mul_left _ (by simpa using h1)
  show 4294967296 ^ (xs.length + 1) <= x.toNat + 4294967296 * dv (y :: xs)
  rw [Nat.pow_succ,Nat.mul_comm]; omega
theorem dv_pos {xs:List Int} (hd:Dig xs) (h:Nr xs) (h0:xs ≠ []):0 < dv xs:=by
 have:=fP hd h h0
 have h2:0 < 4294967296 ^ (xs.length - 1):=Nat.pow_pos (by decide)
 omega
theorem gR:∀ {xs:List Int},Dig xs -> Nr xs -> rd (dv xs) = xs
 | [],_,_=>rd0
 | x :: xs,hd,h=>by
  have hp:=dv_pos hd h (by simp)
  have hx:=hd x (List.mem_cons_self ..)
  rw [eH (by omega)]
  have h1:((dv (x :: xs) % 4294967296:Nat):Int) = x:=by simp only [dv]; omega
  have h2:dv (x :: xs) / 4294967296 = dv xs:=by simp only [dv]; omega
  have h3:Nr xs:=by
   cases xs with
   | nil=>intro z hz; simp at hz
   | cons y ys=>exact h.tail
  rw [h1,h2,gR hd.tl h3]
theorem gW (m:Nat):Nr (rd m):=by
 induction m using Nat.strongRecOn with
 | _ m ih=>
  intro x hx
  by_cases h:m = 0
  ·subst h; rw [rd0] at hx; cases hx
  ·rw [eH h] at hx
   by_cases h2:m / 4294967296 = 0
   ·rw [h2,rd0] at hx
    simp at hx
    omega
   ·have h3:=ih (m / 4294967296) (Nat.div_lt_self (by omega) (by omega))
    rw [eH h2] at hx h3
    rw [List.getLast?_cons_cons] at hx
    exact h3 x hx
theorem dy {m l:Nat} (h:m < 4294967296 ^ l):(rd m).length <= l:=by
 by_cases h0:rd m = []
 ·rw [h0]; simp
 ·have h1:=fP (bv m) (gW m) h0
  rw [bh] at h1
  have h2:=Nat.lt_of_le_of_lt h1 h
  have h3:=(Nat.pow_lt_pow_iff_right (by omega)).1 h2
  omega
theorem rd_nil {m:Nat}:rd m = [] ↔ m = 0:=⟨fun h=>by have:=bh m; rw [h] at this; exact this.symm,fun h=>by rw [h]; exact rd0⟩
theorem fT {a b:Nat} (h:a <= b):(rd a).length <= (rd b).length:=dy (Nat.lt_of_le_of_lt h (by have:=eB (bv b); rwa [bh] at this))
theorem fX (n:Nat) (ws:List Int) (hd:Dig ws) (hn:ws.length < n) (hl:ws.length <= 1000000):aq_p n ws = some (rd (dv ws)):=by
 have h:=ap (B:=aq_l1 n ws) (fun z:Int=>z.toNat) (fun z=>0 <= z/\z <= ws.length/\∀ i:Nat,z.toNat <= i -> ∀ h:i < ws.length,ws[i] = 0)
  (fun z=>∃ k:Nat,z = k/\k <= ws.length/\(∀ i:Nat,k <= i -> ∀ h:i < ws.length,ws[i] = 0)/\∀ h:0 < k,∀ h2:k - 1 < ws.length,ws[k - 1] ≠ 0) ?_ n (ws.length:Int) ⟨by omega,by omega,fun i h1 h2=>by omega⟩ (by simpa using hn)
 ·obtain ⟨z,hz,k,rfl,hk,hz0,hz1⟩:=h
  have e:dv ws = dv (ws.take k):=by
   conv=>lhs; rw [<- List.take_append_drop k ws,em]
   rw [fZ (ws.drop k) fun x hx=>?_]
   ·simp
   ·obtain ⟨i,hi,rfl⟩:=List.getElem_of_mem hx
    rw [List.getElem_drop]
    exact hz0 _ (by omega) _
  have hnm:Nr (ws.take k):=by
   intro x hx
   rw [List.getLast?_eq_getElem?,List.length_take,Nat.min_eq_left hk] at hx
   obtain ⟨h1,rfl⟩:=List.getElem?_eq_some_iff.1 hx
   have h2:k - 1 < ws.length:=by rw [List.length_take] at h1; omega
   by_cases h0:0 < k
   ·rw [List.getElem_take]; exact hz1 h0 h2
   ·rw [List.length_take] at h1; omega
  have e2:rd (dv ws) = ws.take k:=by rw [e]; exact gR (fun x hx=>hd x (List.mem_of_mem_take hx)) hnm
  unfold aq_p jn
  simp only [hz,aa,cutN_ok hk,e2]
 ·intro z J ⟨h1,h2,h3⟩ hJ
  unfold aq_l1
  simp only
  by_cases h0:0 < z
  ·rw [if_pos h0,gi (by omega) (by omega),aa,eu (by omega) (by omega),aa]
   split
   ·rename_i hx
    rw [aa]
    refine hJ (z - 1) ⟨by omega,by omega,fun i h4 h5=>?_⟩ (by omega)
    by_cases h6:i = (z - 1).toNat
    ·subst h6; exact hx
    ·exact h3 i (by omega) h5
   ·rename_i hx
    refine ⟨z,rfl,z.toNat,by omega,by omega,h3,fun h4 h5=>?_⟩
    have:(z - 1).toNat = z.toNat - 1:=by omega
    simp only [this] at hx
    exact hx
  ·rw [if_neg h0]
   exact ⟨z,rfl,0,by omega,by omega,fun i h4 h5=>h3 i (by omega) h5,fun h4=>by omega⟩
theorem fW {a b:List Int} (ha:Dig a) (hbd:Dig b) (hb:Nr b) (h:a.length < b.length):dv a < dv b:=by
 have h1:=eB ha
 have h2:=fP hbd hb (by intro e; rw [e] at h; simp at h)
 have h3:4294967296 ^ a.length <= 4294967296 ^ (b.length - 1):=Nat.pow_le_pow_right (by omega) (by omega)
 omega
theorem eL {a b:List Int} {i:Nat} (hda:Dig a) (hdb:Dig b) (ha:i < a.length) (hb:i < b.length) (hd:a.drop (i + 1) = b.drop (i + 1)) (h:a[i] < b[i]):dv a < dv b:=by
 rw [eP a ha,eP b hb,hd]
 have h1:=eB (xs:=a.take i) fun x hx=>hda x (List.mem_of_mem_take hx)
 rw [List.length_take,Nat.min_eq_left (by omega)] at h1
 have h3:=hda a[i] (List.getElem_mem _)
 have h4:=hdb b[i] (List.getElem_mem _)
 have h2:4294967296 ^ i * (a[i].toNat + 1) <= 4294967296 ^ i * b[i].toNat:=Nat.mul_le_mul_left _ (by omega)
 rw [Nat.mul_add] at h2
 omega
theorem hM (n:Nat) (a b:List Int) (hda:Dig a) (hdb:Dig b) (ha:Nr a) (hb:Nr b) (hn:a.length < n) (hl:a.length < 1000000):∃ c,ax_p n a b = some c/\(c < 0 ↔ dv a < dv b)/\(c = 0 ↔ dv a = dv b):=by
 unfold ax_p
 by_cases h:a.length = b.length
 ·rw [if_pos h]
  have hh:=ap (B:=ax_l1 n a b) (fun z:Int=>(z + 1).toNat) (fun z=>-1 <= z/\z < a.length/\a.drop (z + 1).toNat = b.drop (z + 1).toNat)
   (fun r=>(∃ c,r = .inl c/\(c < 0/\dv a < dv b ∨ 0 < c/\dv b < dv a)) ∨ (r = .inr ()/\a = b)) ?_ n ((a.length:Int) - 1) ⟨by omega,by omega,?_⟩ (by omega)
  ·obtain ⟨r,hr,⟨c,h1,h2⟩ | h1⟩:=hh
   ·rw [hr,h1]; exact ⟨_,rfl,by omega,by omega⟩
   ·rw [hr,h1.1,h1.2]; exact ⟨_,rfl,by omega,by omega⟩
  ·intro z J ⟨h1,h2,h3⟩ hJ
   unfold ax_l1
   simp only
   by_cases h0:0 <= z
   ·have e1:(z + 1).toNat = z.toNat + 1:=by omega
    rw [e1] at h3
    have d1:=hda (a[z.toNat]'(by omega)) (List.getElem_mem _)
    have d2:=hdb (b[z.toNat]'(by omega)) (List.getElem_mem _)
    rw [if_pos h0,eu h0 (by omega),aa,eu h0 (by omega),aa]
    split
    ·rename_i he
     rw [gi (by omega) (by omega),aa]
     refine hJ (z - 1) ⟨by omega,by omega,?_⟩ (by omega)
     rw [show (z - 1 + 1).toNat = z.toNat by omega,List.drop_eq_getElem_cons (by omega),List.drop_eq_getElem_cons (l:=b) (by omega),h3,he]
    ·rename_i hne
     rw [gi (by omega) (by omega),aa]
     by_cases hlt:a[z.toNat]'(by omega) < b[z.toNat]'(by omega)
     ·exact ⟨_,rfl,.inl ⟨_,rfl,.inl ⟨by omega,eL hda hdb (by omega) (by omega) h3 hlt⟩⟩⟩
     ·exact ⟨_,rfl,.inl ⟨_,rfl,.inr ⟨by omega,eL hdb hda (by omega) (by omega) h3.symm (by omega)⟩⟩⟩
   ·rw [if_neg h0]
    have e1:(z + 1).toNat = 0:=by omega
    rw [e1] at h3
    exact ⟨_,rfl,.inr ⟨rfl,by simpa using h3⟩⟩
  ·rw [show ((a.length:Int) - 1 + 1).toNat = a.length by omega,List.drop_length,h,List.drop_length]
 ·rw [if_neg h]
  refine ⟨_,rfl,?_⟩
  by_cases h1:a.length < b.length
  ·have:=fW hda hdb hb h1; omega
  ·have:=fW (a:=b) hdb hda ha (by omega); omega
theorem eA {xs:List Int} {x:Int} (h:Dig xs) (hx:0 <= x/\x < 4294967296):Dig (xs ++ [x]):=fun y hy=>(List.mem_append.1 hy).elim (h y) fun e=>by rw [List.mem_singleton.1 e]; exact hx
theorem fO (xs:List Int) (x:Int):dv (xs ++ [x]) = dv xs + 4294967296 ^ xs.length * x.toNat:=by rw [em]; simp [dv]
theorem eC (n:Nat) (a b:List Int) (hda:Dig a) (hdb:Dig b) (hb:b.length <= a.length) (hv:dv b <= dv a) (hn:a.length < n) (hl:a.length < 100000):au_p n a b = some (rd (dv a - dv b)):=by
 have h:=ap (B:=au_l1 n a b) (fun s:Nat × Nat × List Int=>a.length - s.2.1) (fun s=>s.2.1 <= a.length/\s.2.2.length = s.2.1/\s.1 <= 1/\Dig s.2.2/\dv s.2.2 + dv (b.take s.2.1) = dv (a.take s.2.1) + 4294967296 ^ s.2.1 * s.1)
  (fun r:List Int=>r.length = a.length/\Dig r/\dv r = dv a - dv b) ?_ n (0,0,[]) ⟨by simp,by simp,by simp,dig_nil,by simp [dv]⟩ (by simpa using hn)
 ·obtain ⟨xs,h1,h2,h3,h4⟩:=h
  unfold au_p
  rw [h1,aa,fX n xs h3 (by omega) (by omega),aa,h4]
 ·rintro ⟨u,i,xs⟩ J ⟨h1,h2,h3,h4,h5⟩ hJ
  simp only at h1 h2 h3 h4 h5 hJ
  unfold au_l1
  simp only
  by_cases hi:i < a.length
  ·have da:=hda a[i] (List.getElem_mem _)
   rw [if_pos hi,geE hi,aa,gi (by omega) (by omega),aa]
   have key:∀ y:Int,0 <= y -> y < 4294967296 -> y.toNat = (b[i]?.getD 0).toNat -> ∃ r,(if a[i] - (u:Int) - y < 0 then (chk (a[i] - (u:Int) - y + 4294967296)).bind fun s245=>(app xs ([s245]:List Int)).bind fun xs230=>J (1,i + 1,xs230) else (app xs ([a[i] - (u:Int) - y]:List Int)).bind fun xs230=>J (0,i + 1,xs230)) = some r/\r.length = a.length/\Dig r/\dv r = dv a - dv b:=by
    intro y y0 y1 hy
    split
    ·rename_i hneg
     rw [gi (by omega) (by omega),aa,appS _ _ (by simp only [leC,leN]; omega),aa]
     have e:dv (xs ++ [a[i] - (u:Int) - y + 4294967296]) + dv (b.take (i + 1)) = dv (a.take (i + 1)) + 4294967296 ^ (i + 1) * 1:=by
      rw [fO,h2,df a hi,eQ b i,<- hy,Nat.pow_succ]
      have e1:(a[i] - (u:Int) - y + 4294967296).toNat + u + y.toNat = a[i].toNat + 4294967296:=by omega
      have e2:=congrArg (4294967296 ^ i * ·) e1
      simp only [Nat.mul_add] at e2
      omega
     refine hJ (1,i + 1,_) ⟨hi,by simp only [List.length_append,leC,leN]; omega,by simp,eA h4 (by omega),by simpa using e⟩ (by simp only; omega)
    ·rename_i hneg
     rw [appS _ _ (by simp only [leC,leN]; omega),aa]
     have e:dv (xs ++ [a[i] - (u:Int) - y]) + dv (b.take (i + 1)) = dv (a.take (i + 1)) + 4294967296 ^ (i + 1) * 0:=by
      rw [fO,h2,df a hi,eQ b i,<- hy,Nat.mul_zero]
      have e1:(a[i] - (u:Int) - y).toNat + u + y.toNat = a[i].toNat:=by omega
      have e2:=congrArg (4294967296 ^ i * ·) e1
      simp only [Nat.mul_add] at e2
      omega
     refine hJ (0,i + 1,_) ⟨hi,by simp only [List.length_append,leC,leN]; omega,by simp,eA h4 (by omega),by simpa using e⟩ (by simp only; omega)
   unfold jn
   simp only
   by_cases hj:i < b.length
   ·have db:=hdb b[i] (List.getElem_mem _)
    rw [if_pos hj,geE hj,aa,gi (by omega) (by omega),aa]
    exact key b[i] db.1 db.2 (by rw [geE hj]; rfl)
   ·rw [if_neg hj]
    have:=key 0 (by decide) (by decide) (by rw [List.getElem?_eq_none (by omega)]; rfl)
    rwa [Int.sub_zero] at this
  ·rw [if_neg hi]
   have:i = a.length:=by omega
   subst this
   rw [List.take_length,dj hb] at h5
   refine ⟨xs,rfl,h2,h4,?_⟩
   have h6:=eB h4
   rw [h2] at h6
   by_cases hu:u = 0
   ·rw [hu] at h5; omega
   ·have:u = 1:=by omega
    rw [this] at h5; omega
theorem rd_pos {m:Nat}:0 < (rd m).length ↔ 0 < m:=by
 constructor
 ·intro h
  by_cases h0:m = 0
  ·rw [h0,rd0] at h; simp at h
  ·omega
 ·intro h
  rcases e:rd m with _ | ⟨x,xs⟩
  ·have:=rd_nil.1 e; omega
  ·simp
theorem de (n:Nat) (b:Bool) (ws:List Int) (hd:Dig ws) (hn:ws.length < n) (hl:ws.length <= 1000000):ac_p n b ws = some ⟨b && decide (0 < dv ws),rd (dv ws)⟩:=by
 unfold ac_p
 rw [fX n ws hd hn hl,aa]
 cases b
 ·simp
 ·rw [if_pos rfl,decide_eq_decide.2 rd_pos,Bool.true_and]
theorem gg (w:UInt64):ab (w % (4294967296:UInt64)) = ((w.toNat % 4294967296:Nat):Int):=by
 have:=w.toNat_lt
 unfold ab
 rw [UInt64.toNat_mod,if_pos (by simp; omega)]
 rfl
theorem gh (w:UInt64):ab (w / (4294967296:UInt64)) = ((w.toNat / 4294967296:Nat):Int):=by
 have:=w.toNat_lt
 unfold ab
 rw [UInt64.toNat_div,if_pos (by simp; omega)]
 rfl
/-! ### Numbers of one word -/
theorem halves1 (n:Nat) (u:UInt64) (hn:300 < n):aP_p n (u,0,0,0,0,0,0,0) = some [ab (u % (4294967296:UInt64)),ab (u / (4294967296:UInt64)),0,0,0,0,0,0,0,0,0,0,0,0,0,0]:=by
 obtain ⟨m,rfl⟩:∃ m,n = m + 1 + 1 + 1 + 1 + 1 + 1 + 1 + 1 + 1:=⟨n - 9,by omega⟩
 kernel_rfl
theorem hH (n:Nat) (u:UInt64) (hn:300 < n):ba_p n u = some ⟨false,rd u.toNat⟩:=by
 have hu:=aE u
 have hd:Dig [ab (u % (4294967296:UInt64)),ab (u / (4294967296:UInt64)),0,0,0,0,0,0,0,0,0,0,0,0,0,0]:=by
  rw [gg,gh]
  intro x hx
  simp only [List.mem_cons,List.not_mem_nil,or_false] at hx
  omega
 have hv:dv [ab (u % (4294967296:UInt64)),ab (u / (4294967296:UInt64)),0,0,0,0,0,0,0,0,0,0,0,0,0,0] = u.toNat:=by
  rw [gg,gh]
  simp only [dv,Int.toNat_natCast]
  have:(0:Int).toNat = 0:=rfl
  rw [this]
  omega
 unfold ba_p bs_p
 rw [halves1 n u hn]
 simp only [aa]
 rw [if_pos (by decide),de n false _ hd (by simp only [leC,leN]; omega) (by simp only [leC,leN]; omega),hv]
 rfl
theorem orderN (n a b:Nat) (hn:300 < n) (ha:a < 18446744073709551616) (hb:b <= 18446744073709551616) (h0:0 < b):∃ c,a9_p n ⟨false,rd a⟩ ⟨false,rd b⟩ = some c/\(c < 0 ↔ a < b):=by
 have la:(rd a).length <= 2:=dy (by simpa using ha)
 have lb:(rd b).length <= 3:=dy (Nat.lt_of_le_of_lt hb (by decide))
 unfold a9_p aX_p bm_p
 simp only
 rw [de n _ _ (bv b) (by omega) (by omega),bh,decide_eq_true h0]
 simp only [aa,Bool.not_false,Bool.and_self]
 unfold aR_p
 simp only
 rw [if_neg (by decide)]
 obtain ⟨c,c1,c2,c3⟩:=hM n (rd a) (rd b) (bv a) (bv b) (gW a) (gW b) (by omega) (by omega)
 rw [bh,bh] at c2 c3
 rw [c1]
 simp only [aa]
 by_cases hc:0 <= c
 ·have hle:b <= a:=by omega
  rw [if_pos hc,eC n _ _ (bv a) (bv b) (fT hle) (by rw [bh,bh]; exact hle) (by omega) (by omega)]
  simp only [aa]
  have hl2:(rd (dv (rd a) - dv (rd b))).length <= 2:=dy (by rw [bh,bh]; show _ < 18446744073709551616; omega)
  rw [de n _ _ (bv _) (by omega) (by omega)]
  simp only [aa,Bool.false_and]
  rw [if_neg (by decide)]
  split
  ·exact ⟨1,rfl,by omega⟩
  ·exact ⟨0,rfl,by omega⟩
 ·have hlt:a < b:=by omega
  rw [if_neg hc,eC n _ _ (bv b) (bv a) (fT (by omega)) (by rw [bh,bh]; omega) (by omega) (by omega)]
  simp only [aa]
  have hl3:(rd (dv (rd b) - dv (rd a))).length <= 3:=dy (by rw [bh,bh]; exact Nat.lt_of_le_of_lt (Nat.le_trans (Nat.sub_le _ _) hb) (by decide))
  rw [de n _ _ (bv _) (by omega) (by omega),bh,bh,bh,decide_eq_true (show 0 < b - a by omega)]
  simp only [aa,Bool.and_self]
  rw [if_pos trivial]
  exact ⟨-1,rfl,by omega⟩
/-! ### Numbers drawn -/
def limT (n:Nat) (k:Int):Option Tc:=
 (ar_p n (2:Int)).bind fun y24=>(aO_p n y24 (64:Int)).bind fun y32=>(ar_p n k).bind fun y40=>(bg_p n y32 y40).bind fun y48=>(ar_p n k).bind fun y380=>aM_p n y48.1 y380
def limB (k:Nat):Bool:=match limT 20000 (k:Int) with
 | some ⟨false,l⟩=>decide (dv l = 18446744073709551616 / k * k) && l.all (fun x=>decide (0 <= x) && decide (x < 4294967296)) && decide (l.getLast? ≠ some 0)
 | _=>false
theorem lim_all:(List.range 64).all (fun k=>limB (k + 1)) = true:=by kernel_rfl
theorem lim_ok {k:Nat} (h1:1 <= k) (h2:k <= 64):limT 20000 (k:Int) = some ⟨false,rd (18446744073709551616 / k * k)⟩:=by
 have h:=List.all_eq_true.1 lim_all (k - 1) (List.mem_range.2 (by omega))
 rw [show k - 1 + 1 = k by omega] at h
 unfold limB at h
 split at h
 ·rename_i l e
  simp only [Bool.and_eq_true,decide_eq_true_eq,List.all_eq_true] at h
  obtain ⟨⟨h3,h4⟩,h5⟩:=h
  rw [e,<- h3,gR h4 (fun x hx e0=>h5 (by rw [hx,e0]))]
 ·cases h
theorem gF (c:Ta) (k:Int) (h:¬ k < 1):aw_p 20000 c k = (limT 20000 k).bind fun y=>thn (ac (aw_l1 20000 y k) 20000 (0,c.fc)) (fun _=>some ((0:Int),(⟨(0:UInt64)⟩:Ta),(9:Int))):=by
 unfold aw_p limT
 rw [if_neg h]
 simp only [Option.bind_assoc]
theorem dX (u:UInt64) {k:Nat} {d:UInt64} (h:k < 64) (hd:d.toNat = 2 ^ k):shrU u k = u / d:=by
 apply UInt64.toNat_inj.1
 rw [bt u h,UInt64.toNat_div,hd]
theorem fK (s:UInt64) (k:Nat) (h1:1 <= k) (h2:k <= 64) (hs:s.toNat = 18446744073709551616 % k):az_l1 20000 s (k:Int) = aw_l1 20000 ⟨false,rd (18446744073709551616 / k * k)⟩ (k:Int):=by
 funext J ⟨i,u⟩
 unfold az_l1 aw_l1 bn_p
 simp only
 by_cases hi:i < 200
 ·rw [if_pos hi,if_pos hi]
  simp only [aa]
  rw [dX (k:=30) (d:=1073741824) _ (by decide) rfl,dX (k:=27) (d:=134217728) _ (by decide) rfl,dX (k:=31) (d:=2147483648) _ (by decide) rfl]
  generalize ((_:UInt64) ^^^ _) = x
  rw [hH 20000 x (by decide)]
  simp only [aa]
  have hx:=aE x
  have hdm:=Nat.div_add_mod 18446744073709551616 k
  have hm:18446744073709551616 % k < k:=Nat.mod_lt _ (by omega)
  have hL:18446744073709551616 / k * k + 18446744073709551616 % k = 18446744073709551616:=by rw [Nat.mul_comm]; exact hdm
  generalize hl:18446744073709551616 / k * k = lim at *
  obtain ⟨c,c1,c2⟩:=orderN 20000 x.toNat lim (by decide) hx (by omega) (by omega)
  rw [c1]
  simp only [aa]
  have hs0:s = 0 ↔ s.toNat = 0:=⟨fun e=>by rw [e]; rfl,fun e=>UInt64.toNat_inj.1 e⟩
  have hcond:(x <= ((-s) - (1:UInt64)) ∨ s = 0) ↔ c < 0:=by
   rw [c2,hs0,UInt64.le_iff_toNat_le]
   by_cases h0:s.toNat = 0
   ·constructor
    ·intro _; omega
    ·intro _; exact .inr h0
   ·have e1:((-s) - (1:UInt64)).toNat = 18446744073709551616 - s.toNat - 1:=by
     have hs64:=aE s
     have e2:(-s).toNat = 18446744073709551616 - s.toNat:=by
      rw [UInt64.toNat_neg]
      show (18446744073709551616 - s.toNat) % 18446744073709551616 = _
      omega
     rw [UInt64.toNat_sub_of_le,e2]
     ·rfl
     ·rw [UInt64.le_iff_toNat_le,e2]
      show 1 <= _
      omega
    rw [e1]
    omega
  by_cases ha:x <= ((-s) - (1:UInt64))
  ·rw [if_pos ha,if_pos (hcond.1 (.inl ha))]
  ·rw [if_neg ha]
   by_cases hb:s = 0
   ·rw [if_pos hb,if_pos (hcond.1 (.inr hb))]
   ·rw [if_neg hb,if_neg (fun h=>(hcond.2 h).elim ha hb)]
 ·rw [if_neg hi,if_neg hi]
theorem fq (c:Ta) (k:Nat) (h2:k <= 64):aw_p 20000 c (k:Int) = az_p 20000 c (k:Int):=by
 by_cases h:(k:Int) < 1
 ·unfold aw_p az_p
  rw [if_pos h,if_pos h]
 ·rw [gF c _ h,lim_ok (by omega) h2]
  simp only [aa]
  unfold az_p
  rw [if_neg h]
  have hk:(ae (k:Int)).toNat = k:=by rw [aZ]; exact UInt64.toNat_ofNat_of_lt' (show k < 2 ^ 64 by omega)
  have hk0:ae (k:Int) ≠ 0:=fun e=>by rw [e] at hk; simp at hk; omega
  have hr:cY (-(ae (k:Int))) (ae (k:Int)) = some (-(ae (k:Int)) % ae (k:Int)):=if_neg hk0
  rw [hr]
  simp only [aa]
  have hs:(-(ae (k:Int)) % ae (k:Int)).toNat = 18446744073709551616 % k:=by
   rw [UInt64.toNat_mod,UInt64.toNat_neg,hk]
   show (18446744073709551616 - k) % 18446744073709551616 % k = _
   rw [Nat.mod_eq_of_lt (show 18446744073709551616 - k < 18446744073709551616 by omega)]
   conv=>rhs; rw [show 18446744073709551616 = (18446744073709551616 - k) + k by omega]
   rw [Nat.add_mod_right]
  rw [fK _ k (by omega) h2 hs]
end Go.Proofs.YtlleajifdbnbaaaGreatDoor
namespace Go.Proofs.YtlleajifdbnbaaaGreatDoor
open Go
theorem gP (n:Nat) (g:Tb) (s:UInt64) (l:List UInt64) (hl:(l.length:Int) = g.fN) (hadj:∀ (a:Nat) u,l[a]? = some u -> ∀ b,bit u b = true ↔ Adj g a b) (hn:300 < n) (p:UInt64) (hp:bw g.fN p) :
  ∃ q,ac (ap_l1 n l s) n (p,p) = some q/\∀ b,bit q b = true ↔ bit p b = true ∨ ∃ a,bit p a = true/\Adj g a b/\bit s b = true:=by
 have hloop:=dQ (B:=ap_l1 n l s) (fun s=>s) (fun t (acc:UInt64)=>(idx l ((t:Nat):Int)).bind fun x=>some (acc ||| (x &&& s))) (fun J u acc=>by
  unfold ap_l1
  simp only
  by_cases h0:u = 0
  ·rw [if_pos h0,if_pos h0]
  ·rw [if_neg h0,if_neg h0,tz_eq n h0]
   simp only [aa]
   cases idx l ((low u:Nat):Int) <;> rfl) (am p).length n p p (Nat.le_refl _) (by have:=aT p; omega)
 rw [hloop]
 have key:∀ (ts:List Nat) (acc:UInt64),(∀ t ∈ ts,(t:Int) < g.fN) -> ∃ v,(ts.foldlM (fun acc t=>(idx l ((t:Nat):Int)).bind fun x=>some (acc ||| (x &&& s))) acc:Option UInt64) = some v/\∀ b,bit v b = true ↔ bit acc b = true ∨ ∃ a ∈ ts,Adj g a b/\bit s b = true:=by
  intro ts
  induction ts with
  | nil=>intro acc _; exact ⟨acc,rfl,fun b=>by simp⟩
  | cons t ts ih=>
   intro acc hs
   have ht:=hs t (by simp)
   rw [List.foldlM_cons,aS,geE (by omega)]
   obtain ⟨v,v1,v2⟩:=ih (acc ||| (l[t]'(by omega) &&& s)) (fun x hx=>hs x (by simp [hx]))
   refine ⟨v,v1,fun b=>?_⟩
   rw [v2,ba,Bool.or_eq_true,bA,Bool.and_eq_true,hadj t _ (geE (by omega)) b]
   constructor
   ·rintro ((k | k) | ⟨a,k1,k2⟩)
    ·exact .inl k
    ·exact .inr ⟨t,by simp,k⟩
    ·exact .inr ⟨a,by simp [k1],k2⟩
   ·rintro (k | ⟨a,k1,k2⟩)
    ·exact .inl (.inl k)
    ·rcases List.mem_cons.1 k1 with rfl | k1
     ·exact .inl (.inr k2)
     ·exact .inr ⟨a,k1,k2⟩
 obtain ⟨v,v1,v2⟩:=key (am p) p (fun t ht=>hp t (bq.1 ht))
 rw [v1]
 refine ⟨v,rfl,fun b=>?_⟩
 rw [v2]
 simp only [bq]
theorem part_ok (n:Nat) (g:Tb) (s:UInt64) (l:List UInt64) (hl:(l.length:Int) = g.fN) (hadj:∀ (a:Nat) u,l[a]? = some u -> ∀ b,bit u b = true ↔ Adj g a b) (hn:300 < n) (hs:bw g.fN s) (x:Nat) (hx:bit s x = true) :
  ∃ p,ac (ap_l2 n l s) n (shlU 1 x) = some p/\∀ b,bit p b = true ↔ ∃ m,Way g s x m b:=by
 have hx64:=bI hx
 refine ap (B:=ap_l2 n l s) (fun p=>64 - (am p).length) (fun p=>bit p x = true/\∀ b,bit p b = true -> ∃ m,Way g s x m b) (fun p=>∀ b,bit p b = true ↔ ∃ m,Way g s x m b) (fun p J ⟨q1,q2⟩ hJ=>?_) n (shlU 1 x) ⟨by rw [az hx64]; simp,fun b hb=>by
  rw [az hx64,decide_eq_true_eq] at hb
  subst hb
  exact ⟨0,.here⟩⟩ (by omega)
 have hin:∀ b,bit p b = true -> bit s b = true:=fun b hb=>by obtain ⟨m,hm⟩:=q2 b hb; exact hm.inside hx
 unfold ap_l2
 simp only
 obtain ⟨q,e1,e2⟩:=gP n g s l hl hadj hn p (fun k hk=>hs k (hin k hk))
 rw [e1]
 simp only [aa]
 by_cases he:q = p
 ·rw [if_pos he]
  refine ⟨p,rfl,fun b=>⟨q2 b,?_⟩⟩
  rintro ⟨m,hm⟩
  induction hm with
  | here=>exact q1
  | on hw k hb ih=>rw [<- he,e2]; exact .inr ⟨_,ih,k,hb⟩
 ·rw [if_neg he]
  have hsub:∀ k,bit p k = true -> bit q k = true:=fun k hk=>(e2 k).2 (.inl hk)
  refine hJ q ⟨hsub x q1,fun b hb=>?_⟩ ?_
  ·rcases (e2 b).1 hb with h | ⟨a,a1,a2,a3⟩
   ·exact q2 b h
   ·obtain ⟨m,hm⟩:=q2 a a1
    exact ⟨m + 1,.on hm a2 a3⟩
  ·have hne:∃ k,bit q k = true/\bit p k = false:=by
    apply Classical.byContradiction
    intro hno
    apply he
    apply ei
    intro k
    cases hq:bit q k with
    | false=>
     cases hp:bit p k with
     | false=>rfl
     | true=>rw [hsub k hp] at hq; cases hq
    | true=>
     cases hp:bit p k with
     | true=>rfl
     | false=>exact absurd ⟨k,hq,hp⟩ hno
   have:=cM hsub hne
   have:=aT q
   omega
theorem dN (n:Nat) (g:Tb) (h:Valid g) (hn:300 < n) (s:UInt64) (hs:bw g.fN s):∃ l,ap_p n g s = some l/\(l.length = 1 ↔ s ≠ 0/\∀ b,bit s b = true -> ∃ m,Way g s (low s) m b):=by
 unfold ap_p
 obtain ⟨a,a1,a2,a3⟩:=gj n g h hn
 rw [a1]
 simp only [aa]
 obtain ⟨r,e1,e2⟩:=ap (B:=ap_l3 n a s) (fun (u,_)=>(am u).length) (fun (u,l)=>(∀ b,bit u b = true -> bit s b = true)/\l.length + (am u).length <= 64/\(l.length = 0 -> u = s)/\(l.length = 1 -> s ≠ 0/\∀ b,bit s b = true -> bit u b = false -> ∃ m,Way g s (low s) m b)/\((s ≠ 0/\∀ b,bit s b = true -> ∃ m,Way g s (low s) m b) -> l.length = 0 ∨ l.length = 1/\u = 0))
  (fun l=>l.length = 1 ↔ s ≠ 0/\∀ b,bit s b = true -> ∃ m,Way g s (low s) m b) (fun ⟨u,l⟩ J ⟨q1,q2,q3,q4,q5⟩ hJ=>by
  simp only at q1 q2 q3 q4 q5 hJ
  unfold ap_l3
  simp only
  by_cases hu:u = 0
  ·rw [if_pos hu]
   refine ⟨l,rfl,fun hl=>⟨(q4 hl).1,fun b hb=>(q4 hl).2 b hb (by rw [hu,aB])⟩,fun hc=>?_⟩
   rcases q5 hc with h0 | ⟨h1,_⟩
   ·have:=q3 h0
    exact absurd (this.symm.trans hu) hc.1
   ·exact h1
  ·rw [if_neg hu,cO hu]
   have hlow:=aW hu
   obtain ⟨p,p1,p2⟩:=part_ok n g s a a2 a3 hn hs (low u) (q1 _ hlow)
   rw [p1]
   simp only [aa]
   have hpl:bit p (low u) = true:=(p2 _).2 ⟨0,.here⟩
   have hsub:∀ k,bit (u &&& ~~~p) k = true -> bit u k = true:=fun k hk=>by rw [aQ,Bool.and_eq_true] at hk; exact hk.1
   have hlt:=cM hsub ⟨low u,hlow,by rw [aQ,hpl]; simp⟩
   rw [aR (by simp only [List.length_singleton]; omega)]
   simp only [aa]
   refine hJ _ ⟨fun b hb=>q1 b (hsub b hb),by simp only [List.length_append,List.length_singleton]; omega,fun h0=>by simp at h0,fun h1=>?_,fun hc=>?_⟩ (by simp only; exact hlt)
   ·simp only [List.length_append,List.length_singleton] at h1
    have hus:=q3 (by omega)
    subst hus
    refine ⟨hu,fun b hb hb2=>?_⟩
    rw [aQ,hb] at hb2
    exact (p2 b).1 (by simpa using hb2)
   ·rcases q5 hc with h0 | ⟨_,h1⟩
    ·right
     have hus:=q3 h0
     subst hus
     refine ⟨by simp only [List.length_append,List.length_singleton]; omega,?_⟩
     simp only
     apply ei
     intro k
     rw [aQ,aB]
     cases hk:bit u k with
     | false=>rfl
     | true=>rw [(p2 k).2 (hc.2 k hk)]; rfl
    ·exact absurd h1 hu) n (s,[]) ⟨fun b hb=>hb,by simpa using aT s,fun _=>rfl,fun h=>by simp at h,fun _=>.inl rfl⟩ (by simp only; have:=aT s; omega)
 rw [e1]
 exact ⟨r,rfl,e2⟩
def Joined (g:Tb) (s:UInt64):Prop:=s ≠ 0/\∀ b,bit s b = true -> ∃ m,Way g s (low s) m b
theorem ew (n:Nat) (g:Tb) (h:Valid g) (hn:300 < n) (s:UInt64) (hs:bw g.fN s):∃ b,bq_p n g s = some (b,0)/\(b = true ↔ Joined g s):=by
 unfold bq_p
 obtain ⟨r,c1,c2⟩:=h.check2 hn s
 have c3:r = 0:=by rcases c2 with ⟨h,_⟩ | ⟨_,h⟩; exact h; exact absurd hs h
 subst c3
 rw [c1]
 simp only [aa]
 rw [ifT]
 obtain ⟨l,l1,l2⟩:=dN n g h hn s hs
 rw [l1]
 simp only [aa]
 exact ⟨_,rfl,by rw [decide_eq_true_eq]; exact l2⟩
theorem Joined.way {g:Tb} {s:UInt64} (h:Joined g s) {a b:Nat} (ha:bit s a = true) (hb:bit s b = true):∃ m,Way g s a m b:=by
 obtain ⟨m1,h1⟩:=h.2 a ha
 obtain ⟨m2,h2⟩:=h.2 b hb
 exact ⟨m1 + m2,(h1.back (aW h.1)).add h2⟩
end Go.Proofs.YtlleajifdbnbaaaGreatDoor
namespace Go.Proofs.YtlleajifdbnbaaaGreatDoor
open Go
theorem u64k {k:Nat} (h:k < 18446744073709551616):(ae (k:Int)).toNat = k:=by rw [aZ]; exact UInt64.toNat_ofNat_of_lt' h
theorem cH (n:Nat) (u:UInt64) {k:Nat} (h:k < 18446744073709551616):ak_p n u (k:Int) = some (bit u k):=by
 unfold ak_p
 rw [u64k h]
 congr 1
 cases hb:bit u k with
 | true=>exact decide_eq_true ((bX u k).2 hb)
 | false=>exact decide_eq_false fun e=>by rw [(bX u k).1 e] at hb; cases hb
theorem hS (n:Nat) {k:Nat} (h:k < 18446744073709551616):aA_p n (k:Int) = some (shlU 1 k):=by
 unfold aA_p
 rw [u64k h]
theorem checkR (n:Nat) (g:Tb) (hn:300 < n):∃ r,aF_p n g = some r/\(r = 0/\Valid g ∨ r = 180/\¬ Valid g):=by
 unfold aF_p
 by_cases h1:g.fN < 1
 ·rw [if_pos h1]; exact ⟨_,rfl,.inr ⟨rfl,fun h=>by have:=h.n1; omega⟩⟩
 rw [if_neg h1]
 by_cases h2:64 < g.fN
 ·rw [if_pos h2]; exact ⟨_,rfl,.inr ⟨rfl,fun h=>by have:=h.n64; omega⟩⟩
 rw [if_neg h2]
 by_cases h3:200 < g.fh.length
 ·rw [if_pos h3]; exact ⟨_,rfl,.inr ⟨rfl,fun h=>by have:=h.len; omega⟩⟩
 rw [if_neg h3]
 obtain ⟨r,e1,e2⟩:=ap (B:=aF_l1 n g) (fun i=>g.fh.length - i) (fun i=>i <= g.fh.length/\(∀ j e,j < i -> g.fh[j]? = some e -> 0 <= e.1/\e.1 < e.2/\e.2 < g.fN)/\(∀ j e f,j + 1 < i -> g.fh[j]? = some e -> g.fh[j + 1]? = some f -> Lex e f))
  (fun r=>r = .inl 180/\¬ Valid g ∨ r = .inr ()/\Valid g) (fun i J ⟨q1,q2,q3⟩ hJ=>by
  unfold aF_l1
  simp only
  by_cases hi:i < g.fh.length
  ·rw [if_pos hi,geE hi]
   simp only [aa]
   generalize he:g.fh[i] = e
   have hge:g.fh[i]? = some e:=by rw [geE hi,he]
   have hmem:e ∈ g.fh:=he ▸ List.getElem_mem hi
   by_cases c1:e.1 < 0
   ·rw [if_pos c1]; exact ⟨_,rfl,.inl ⟨rfl,fun h=>by have:=h.ok e hmem; omega⟩⟩
   rw [if_neg c1]
   by_cases c2:e.2 <= e.1
   ·rw [if_pos c2]; exact ⟨_,rfl,.inl ⟨rfl,fun h=>by have:=h.ok e hmem; omega⟩⟩
   rw [if_neg c2]
   by_cases c3:g.fN <= e.2
   ·rw [if_pos c3]; exact ⟨_,rfl,.inl ⟨rfl,fun h=>by have:=h.ok e hmem; omega⟩⟩
   rw [if_neg c3]
   have go:(∀ f,0 < i -> g.fh[i - 1]? = some f -> Lex f e) -> ∃ r,J (i + 1) = some r/\(r = .inl 180/\¬ Valid g ∨ r = .inr ()/\Valid g):=fun hl=>by
    refine hJ (i + 1) ⟨hi,fun j e' hj he' =>?_,fun j e' f hj he' hf=>?_⟩ (by omega)
    ·by_cases hji:j = i
     ·subst hji; rw [hge] at he'; cases he'; exact ⟨by omega,by omega,by omega⟩
     ·exact q2 j e' (by omega) he'
    ·by_cases hji:j + 1 = i
     ·rw [hji,hge] at hf
      cases hf
      exact hl e' (by omega) (by rw [<- hji]; exact he')
     ·exact q3 j e' f (by omega) he' hf
   by_cases h0:0 < i
   ·rw [if_pos h0,geE (show i - 1 < g.fh.length by omega)]
    simp only [aa]
    generalize hf:g.fh[i - 1] = f
    have hgf:g.fh[i - 1]? = some f:=by rw [geE (show i - 1 < g.fh.length by omega),hf]
    have bad:¬ Lex f e -> ¬ Valid g:=fun hh hv=>hh (hv.sorted (i - 1) f e hgf (by rw [show i - 1 + 1 = i by omega]; exact hge))
    by_cases d1:e.1 < f.1
    ·rw [if_pos d1]; exact ⟨_,rfl,.inl ⟨rfl,bad (fun h=>by unfold Lex at h; omega)⟩⟩
    rw [if_neg d1]
    by_cases d2:f.1 = e.1
    ·rw [if_pos d2]
     by_cases d3:e.2 <= f.2
     ·rw [if_pos d3]; exact ⟨_,rfl,.inl ⟨rfl,bad (fun h=>by unfold Lex at h; omega)⟩⟩
     ·rw [if_neg d3]
      exact go fun f' _ hf' =>by rw [hgf] at hf'; cases hf'; exact .inr ⟨d2,by omega⟩
    ·rw [if_neg d2]
     exact go fun f' _ hf' =>by rw [hgf] at hf'; cases hf'; exact .inl (by omega)
   ·rw [if_neg h0]
    exact go fun f' h _=>absurd h h0
  ·rw [if_neg hi]
   refine ⟨_,rfl,.inr ⟨rfl,by omega,by omega,by omega,fun e he=>?_,fun j e f he hf=>?_⟩⟩
   ·obtain ⟨j,hj,rfl⟩:=List.getElem_of_mem he
    exact q2 j _ (by omega) (geE hj)
   ·have:=(List.getElem?_eq_some_iff.1 hf).1
    exact q3 j e f (by omega) he hf) n 0 ⟨by omega,fun j e h=>by omega,fun j e f h=>by omega⟩ (by omega)
 rw [e1]
 rcases e2 with ⟨rfl,h⟩ | ⟨rfl,h⟩
 ·exact ⟨180,rfl,.inr ⟨rfl,h⟩⟩
 ·exact ⟨0,rfl,.inl ⟨rfl,h⟩⟩
theorem fittedR (n:Nat) (g:Tb) (u:UInt64) (hn:300 < n):∃ r,a6_p n g u = some r/\(r = 0/\Valid g/\bw g.fN u ∨ r = 2/\Valid g/\¬ bw g.fN u ∨ r = 180/\¬ Valid g):=by
 unfold a6_p
 obtain ⟨r,r1,r2⟩:=checkR n g hn
 rw [r1]
 simp only [aa]
 rcases r2 with ⟨rfl,hv⟩ | ⟨rfl,hv⟩
 ·rw [if_pos rfl]
  have h1:=hv.n1; have h64:=hv.n64
  obtain ⟨N,hN⟩:∃ N:Nat,g.fN = N:=⟨g.fN.toNat,by omega⟩
  by_cases hlt:g.fN < 64
  ·rw [if_pos hlt,hN,u64k (by omega)]
   have key:shrU u N = 0 ↔ bw g.fN u:=by
    rw [<- UInt64.toNat_inj,bt u (by omega)]
    have:u.toNat / 2 ^ N = 0 ↔ u.toNat < 2 ^ N:=Nat.div_eq_zero_iff_lt (Nat.two_pow_pos N)
    show u.toNat / 2 ^ N = 0 ↔ _
    rw [this,eG]
    unfold bw
    rw [hN]
    exact ⟨fun h k hk=>by have:=h k hk; omega,fun h k hk=>by have:=h k hk; omega⟩
   rw [hN] at key
   by_cases hf:bw (N:Int) u
   ·rw [if_pos (key.2 hf)]; exact ⟨_,rfl,.inl ⟨rfl,hv,hf⟩⟩
   ·rw [if_neg (fun e=>hf (key.1 e))]; exact ⟨_,rfl,.inr (.inl ⟨rfl,hv,hf⟩)⟩
  ·rw [if_neg hlt]
   exact ⟨_,rfl,.inl ⟨rfl,hv,fun k hk=>by have:=bI hk; omega⟩⟩
 ·rw [if_neg (by decide)]; exact ⟨_,rfl,.inr (.inr ⟨rfl,hv⟩)⟩
theorem fR {β:Type} (x:Int × Int) (a b:Int) (Y M:β):(if x.1 = a then (if x.2 = b then Y else (if x.1 = b then (if x.2 = a then Y else M) else M)) else (if x.1 = b then (if x.2 = a then Y else M) else M)) = if x = (a,b) ∨ x = (b,a) then Y else M:=by
 obtain ⟨p,q⟩:=x
 have e1:(p,q) = (a,b) ↔ p = a/\q = b:=by simp
 have e2:(p,q) = (b,a) ↔ p = b/\q = a:=by simp
 simp only [e1,e2]
 by_cases h1:p = a/\q = b
 ·rw [if_pos h1.1,if_pos h1.2,if_pos (.inl h1)]
 ·by_cases h2:p = b/\q = a
  ·rw [if_pos (show p = a/\q = b ∨ p = b/\q = a from .inr h2),if_pos h2.1,if_pos h2.2]
   split
   ·split <;> rfl
   ·rfl
  ·have big:(if p = a/\q = b ∨ p = b/\q = a then Y else M) = M:=if_neg (fun h=>h.elim h1 h2)
   have inner:(if p = b then (if q = a then Y else M) else M) = M:=by
    by_cases p3:p = b
    ·rw [if_pos p3,if_neg (fun q3=>h2 ⟨p3,q3⟩)]
    ·rw [if_neg p3]
   rw [inner,big]
   by_cases p1:p = a
   ·rw [if_pos p1,if_neg (fun q1=>h1 ⟨p1,q1⟩)]
   ·rw [if_neg p1]
theorem joinedR (n:Nat) (g:Tb) (a b:Nat) (hn:g.fh.length < n):∃ r,aB_p n g (a:Int) (b:Int) = some r/\(r = true ↔ Adj g a b):=by
 unfold aB_p
 obtain ⟨r,e1,e2⟩:=ap (B:=aB_l1 n g (a:Int) (b:Int)) (fun i=>g.fh.length - i) (fun i=>i <= g.fh.length/\∀ j e,j < i -> g.fh[j]? = some e -> e ≠ ((a:Int),(b:Int))/\e ≠ ((b:Int),(a:Int))) (fun r=>r = .inl true/\Adj g a b ∨ r = .inr ()/\¬ Adj g a b) (fun i J ⟨h1,h2⟩ hJ=>by
  unfold aB_l1
  simp only
  by_cases hi:i < g.fh.length
  ·rw [if_pos hi,geE hi]
   simp only [aa]
   rw [fR]
   by_cases hc:g.fh[i] = ((a:Int),(b:Int)) ∨ g.fh[i] = ((b:Int),(a:Int))
   ·rw [if_pos hc]
    refine ⟨_,rfl,.inl ⟨rfl,?_⟩⟩
    rcases hc with hc | hc
    ·exact .inl (hc ▸ List.getElem_mem hi)
    ·exact .inr (hc ▸ List.getElem_mem hi)
   ·rw [if_neg hc]
    refine hJ (i + 1) ⟨hi,fun j e hj he=>?_⟩ (by omega)
    by_cases hji:j = i
    ·subst hji
     rw [geE hi] at he
     cases he
     exact ⟨fun e=>hc (.inl e),fun e=>hc (.inr e)⟩
    ·exact h2 j e (by omega) he
  ·rw [if_neg hi]
   refine ⟨_,rfl,.inr ⟨rfl,?_⟩⟩
   rintro (hm | hm)
   ·obtain ⟨j,hj,hje⟩:=List.getElem_of_mem hm
    exact (h2 j _ (by omega) (geE hj)).1 hje
   ·obtain ⟨j,hj,hje⟩:=List.getElem_of_mem hm
    exact (h2 j _ (by omega) (geE hj)).2 hje) n 0 ⟨by omega,fun j e h=>by omega⟩ (by omega)
 rw [e1]
 rcases e2 with ⟨rfl,h⟩ | ⟨rfl,h⟩
 ·exact ⟨true,rfl,by simp [h]⟩
 ·exact ⟨false,rfl,by simp [h]⟩
theorem cD {p:Nat -> Bool} {N M:Nat} (h:N <= M) (hp:∀ k,p k = true -> k < N):(List.range M).filter p = (List.range N).filter p:=by
 obtain ⟨d,rfl⟩:∃ d,M = N + d:=⟨M - N,by omega⟩
 rw [List.range_add,List.filter_append]
 have:((List.range d).map (N + ·)).filter p = []:=by
  rw [List.filter_eq_nil_iff]
  intro x hx
  obtain ⟨y,_,rfl⟩:=List.mem_map.1 hx
  intro hc
  have:=hp _ hc
  omega
 rw [this,List.append_nil]
theorem nearR (n:Nat) (g:Tb) (h:Valid g) (hn:300 < n) (s w:UInt64) (a:Nat) (hw:∀ b,bit w b = true ↔ Adj g a b/\bit s b = true):aH_p n g s (a:Int) = some ((am w).map fun k:Nat=>(k:Int)):=by
 have h1:=h.n1; have h64:=h.n64; have hlen:=h.len
 obtain ⟨N,hN⟩:∃ N:Nat,g.fN = N:=⟨g.fN.toNat,by omega⟩
 unfold aH_p
 obtain ⟨r,e1,rfl⟩:=ap (B:=aH_l1 n g s (a:Int)) (fun (z,_)=>N - z.toNat) (fun (z,xs)=>∃ k:Nat,z = (k:Int)/\k <= N/\xs = ((List.range k).filter (bit w ·)).map fun k:Nat=>(k:Int)) (fun r=>r = (am w).map fun k:Nat=>(k:Int)) (fun ⟨z,xs⟩ J hI hJ=>by
  simp only at hI hJ
  obtain ⟨k,rfl,hk,rfl⟩:=hI
  unfold aH_l1
  simp only
  have hcl:((List.range k).filter (bit w ·)).length <= k:=Nat.le_trans (List.length_filter_le _ _) (by simp)
  by_cases hkN:(k:Int) < g.fN
  ·rw [if_pos hkN,cH n s (by omega),av (by omega)]
   simp only [aa]
   have off:bit w k = false -> ∃ r,J ((k:Int) + 1,((List.range k).filter (bit w ·)).map fun k:Nat=>(k:Int)) = some r/\r = (am w).map fun k:Nat=>(k:Int):=fun hb=>
    hJ _ ⟨k + 1,by simp,by omega,by rw [List.range_succ,List.filter_append,List.filter_cons_of_neg (by simp [hb])]; simp⟩ (by simp only; omega)
   cases hsk:bit s k with
   | false=>
    rw [if_neg (by simp)]
    exact off (by cases hb:bit w k with
     | false=>rfl
     | true=>rw [((hw k).1 hb).2] at hsk; cases hsk)
   | true=>
    rw [if_pos rfl]
    obtain ⟨r,r1,r2⟩:=joinedR n g a k (by omega)
    rw [r1]
    simp only [aa]
    cases r with
    | true=>
     rw [if_pos rfl,aR (by simp only [List.length_map,List.length_singleton]; omega)]
     simp only [aa]
     have hb:bit w k = true:=(hw k).2 ⟨r2.1 rfl,hsk⟩
     exact hJ _ ⟨k + 1,by simp,by omega,by rw [List.range_succ,List.filter_append,List.filter_cons_of_pos hb]; simp⟩ (by simp only; omega)
    | false=>
     rw [if_neg (by simp)]
     exact off (by cases hb:bit w k with
      | false=>rfl
      | true=>have:=r2.2 ((hw k).1 hb).1; cases this)
  ·rw [if_neg hkN]
   have:k = N:=by omega
   subst this
   refine ⟨_,rfl,?_⟩
   unfold am
   rw [cD (N:=k) (M:=64) (by omega) (fun j hj=>by have:=(h.adj ((hw j).1 hj).1).2.1; omega)]) n (0,[]) ⟨0,rfl,by omega,by simp⟩ (by simp only; omega)
 rw [e1]
 rfl
/-! ### What can be reached -/
def ins (u:UInt64) (e:Int × Int):Bool:=bit u e.1.toNat && bit u e.2.toNat
theorem fI (n:Nat) (g:Tb) (s u:UInt64) (i:Nat) (J:UInt64 × Nat -> Option UInt64) (hi:i < g.fh.length) (a b:Nat) (he:g.fh[i] = ((a:Int),(b:Int))) (ha:a < 64) (hb:b < 64) :
  ao_l1 n g (-1) s J (u,i) = J (if (bit s a && bit s b && (bit u a || bit u b)) = true then (u ||| shlU 1 a) ||| shlU 1 b else u,i + 1):=by
 unfold ao_l1
 simp only [jn]
 rw [if_pos hi,geE hi,he]
 simp only [aa]
 rw [if_neg (show ¬ ((i:Int) = -1) by omega),cH n s (by omega),cH n s (by omega),cH n u (by omega),cH n u (by omega),hS n (by omega),hS n (by omega)]
 simp only [aa]
 cases bit s a <;> cases bit s b <;> cases bit u a <;> cases bit u b <;> rfl
theorem roundR (n:Nat) (g:Tb) (h:Valid g) (hn:300 < n) (s:UInt64) (x:Nat) (u:UInt64) (hu:∀ b,bit u b = true -> ∃ m,Way g s x m b) :
  ∃ v,ac (ao_l1 n g (-1) s) n (u,0) = some v/\(∀ b,bit u b = true -> bit v b = true)/\(∀ b,bit v b = true -> ∃ m,Way g s x m b)/\∀ (a b:Nat),((a:Int),(b:Int)) ∈ g.fh -> bit s a = true -> bit s b = true -> (bit u a = true ∨ bit u b = true) -> bit v a = true/\bit v b = true:=by
 have h64:=h.n64; have hlen:=h.len
 obtain ⟨v,e1,v1,v2,v3⟩:=ap (B:=ao_l1 n g (-1) s) (fun (_,i)=>g.fh.length - i) (fun (w,i)=>i <= g.fh.length/\(∀ b,bit u b = true -> bit w b = true)/\(∀ b,bit w b = true -> ∃ m,Way g s x m b)/\∀ (j a b:Nat),j < i -> g.fh[j]? = some ((a:Int),(b:Int)) -> bit s a = true -> bit s b = true -> (bit u a = true ∨ bit u b = true) -> bit w a = true/\bit w b = true)
  (fun v=>(∀ b,bit u b = true -> bit v b = true)/\(∀ b,bit v b = true -> ∃ m,Way g s x m b)/\∀ (j a b:Nat),g.fh[j]? = some ((a:Int),(b:Int)) -> bit s a = true -> bit s b = true -> (bit u a = true ∨ bit u b = true) -> bit v a = true/\bit v b = true) (fun ⟨w,i⟩ J ⟨q0,q1,q2,q3⟩ hJ=>by
  simp only at q0 q1 q2 q3 hJ
  by_cases hi:i < g.fh.length
  ·obtain ⟨o1,o2,o3⟩:=h.ok _ (List.getElem_mem hi)
   obtain ⟨a,ha⟩:∃ a:Nat,g.fh[i].1 = a:=⟨g.fh[i].1.toNat,by omega⟩
   obtain ⟨b,hb⟩:∃ b:Nat,g.fh[i].2 = b:=⟨g.fh[i].2.toNat,by omega⟩
   have he:g.fh[i] = ((a:Int),(b:Int)):=Prod.ext ha hb
   have ha64:a < 64:=by omega
   have hb64:b < 64:=by omega
   rw [fI n g s w i J hi a b he ha64 hb64]
   have hadj:Adj g a b:=.inl (he ▸ List.getElem_mem hi)
   by_cases hc:(bit s a && bit s b && (bit w a || bit w b)) = true
   ·rw [if_pos hc]
    have hc' :=hc
    simp only [Bool.and_eq_true,Bool.or_eq_true] at hc'
    obtain ⟨⟨hsa,hsb⟩,hw⟩:=hc'
    have hbit:∀ k,bit ((w ||| shlU 1 a) ||| shlU 1 b) k = true ↔ bit w k = true ∨ k = a ∨ k = b:=fun k=>by
     rw [ba,ba,az ha64,az hb64]
     simp only [Bool.or_eq_true,decide_eq_true_eq,or_assoc]
    have wa:∃ m,Way g s x m a:=by
     rcases hw with hw | hw
     ·exact q2 a hw
     ·obtain ⟨m,hm⟩:=q2 b hw
      exact ⟨m + 1,.on hm hadj.symm hsa⟩
    have wb:∃ m,Way g s x m b:=by
     rcases hw with hw | hw
     ·obtain ⟨m,hm⟩:=q2 a hw
      exact ⟨m + 1,.on hm hadj hsb⟩
     ·exact q2 b hw
    refine hJ _ ⟨hi,fun k hk=>(hbit k).2 (.inl (q1 k hk)),fun k hk=>?_,fun j a' b' hj he' h1 h2 h3=>?_⟩ (by simp only; omega)
    ·rcases (hbit k).1 hk with hk | rfl | rfl
     ·exact q2 k hk
     ·exact wa
     ·exact wb
    ·by_cases hji:j = i
     ·subst hji
      rw [geE hi,he] at he'
      have:=Option.some.inj he'
      have e1:a = a' :=by have:=congrArg Prod.fst this; simp only at this; omega
      have e2:b = b' :=by have:=congrArg Prod.snd this; simp only at this; omega
      subst e1 e2
      exact ⟨(hbit a).2 (.inr (.inl rfl)),(hbit b).2 (.inr (.inr rfl))⟩
     ·obtain ⟨p,q⟩:=q3 j a' b' (by simp only at hj; omega) he' h1 h2 h3
      exact ⟨(hbit a').2 (.inl p),(hbit b').2 (.inl q)⟩
   ·rw [if_neg hc]
    refine hJ _ ⟨hi,q1,q2,fun j a' b' hj he' h1 h2 h3=>?_⟩ (by simp only; omega)
    by_cases hji:j = i
    ·subst hji
     rw [geE hi,he] at he'
     have:=Option.some.inj he'
     have e1:a = a' :=by have:=congrArg Prod.fst this; simp only at this; omega
     have e2:b = b' :=by have:=congrArg Prod.snd this; simp only at this; omega
     subst e1 e2
     refine absurd ?_ hc
     rw [h1,h2,Bool.true_and,Bool.true_and,Bool.or_eq_true]
     exact h3.imp (q1 a) (q1 b)
    ·exact q3 j a' b' (by simp only at hj; omega) he' h1 h2 h3
  ·unfold ao_l1
   simp only [jn]
   rw [if_neg hi]
   refine ⟨w,rfl,q1,q2,fun j a b he=>q3 j a b ?_ he⟩
   have:=(List.getElem?_eq_some_iff.1 he).1
   omega) n (u,0) ⟨by omega,fun b hb=>hb,hu,fun j a b hj=>by omega⟩ (by simp only; omega)
 refine ⟨v,e1,v1,v2,fun a b he=>?_⟩
 obtain ⟨j,hj,hje⟩:=List.getElem_of_mem he
 exact v3 j a b (by rw [geE hj,hje])
theorem ic (l:List (Int × Int)) (u v:UInt64) (h:∀ b,bit u b = true -> bit v b = true) (e:Int × Int) (he:e ∈ l) (h1:ins u e = false) (h2:ins v e = true):(l.filter (ins u)).length < (l.filter (ins v)).length:=by
 have e1:l.filter (ins u) = (l.filter (ins v)).filter (ins u):=by
  rw [List.filter_filter]
  apply List.filter_congr
  intro k _
  cases hu:ins u k with
  | false=>simp
  | true=>
   unfold ins at hu ⊢
   rw [Bool.and_eq_true] at hu
   rw [h _ hu.1,h _ hu.2]; rfl
 rw [e1]
 apply List.length_filter_lt_length_iff_exists.2
 exact ⟨e,List.mem_filter.2 ⟨he,h2⟩,by rw [h1]; simp⟩
theorem reachR (n:Nat) (g:Tb) (h:Valid g) (hn:300 < n) (s:UInt64) (x:Nat) (hx:bit s x = true):∃ v,ao_p n g s (x:Int) (-1) = some v/\∀ b,bit v b = true ↔ ∃ m,Way g s x m b:=by
 have h64:=h.n64; have hlen:=h.len
 have hx64:=bI hx
 unfold ao_p
 rw [hS n (by omega)]
 simp only [aa]
 obtain ⟨v,e1,e2⟩:=ap (B:=ao_l2 n g (-1) s) (fun (_,i)=>g.fh.length - i) (fun (u,i)=>i <= g.fh.length/\bit u x = true/\(∀ b,bit u b = true -> ∃ m,Way g s x m b)/\((∀ m b,Way g s x m b -> bit u b = true) ∨ i <= (g.fh.filter (ins u)).length))
  (fun v=>∀ b,bit v b = true ↔ ∃ m,Way g s x m b) (fun ⟨u,i⟩ J ⟨q0,q1,q2,q3⟩ hJ=>by
  simp only at q0 q1 q2 q3 hJ
  unfold ao_l2
  simp only
  by_cases hi:i < g.fh.length
  ·rw [if_pos hi]
   obtain ⟨v,v1,v2,v3,v4⟩:=roundR n g h hn s x u q2
   rw [v1]
   simp only [aa]
   refine hJ _ ⟨hi,v2 x q1,v3,?_⟩ (by simp only; omega)
   simp only
   by_cases hfull:∀ m b,Way g s x m b -> bit u b = true
   ·exact .inl fun m b hm=>v2 b (hfull m b hm)
   ·right
    have q3' :=q3.resolve_left hfull
    -- an edge that leaves u
    have hedge:∃ a b,bit u a = true/\bit u b = false/\Adj g a b/\bit s a = true/\bit s b = true:=by
     apply Classical.byContradiction
     intro hno
     apply hfull
     intro m b hm
     induction hm with
     | here=>exact q1
     | on hw k hb ih=>
      rename_i m' a' b'
      cases hub:bit u b' with
      | true=>rfl
      | false=>exact absurd ⟨a', b', ih,hub,k,hw.inside hx,hb⟩ hno
    obtain ⟨a,b,ha,hb,hab,hsa,hsb⟩:=hedge
    rcases hab with hab | hab
    ·obtain ⟨p1,p2⟩:=v4 a b hab hsa hsb (.inl ha)
     have:=ic g.fh u v v2 _ hab (by unfold ins; simp [hb]) (by unfold ins; simp [p1,p2])
     omega
    ·obtain ⟨p1,p2⟩:=v4 b a hab hsb hsa (.inr ha)
     have:=ic g.fh u v v2 _ hab (by unfold ins; simp [hb]) (by unfold ins; simp [p1,p2])
     omega
  ·rw [if_neg hi]
   refine ⟨u,rfl,fun b=>⟨q2 b,?_⟩⟩
   rintro ⟨m,hm⟩
   rcases q3 with q3 | q3
   ·exact q3 m b hm
   ·have hall:g.fh.filter (ins u) = g.fh:=List.filter_sublist.eq_of_length (by have:=List.length_filter_le (ins u) g.fh; omega)
    have hin:∀ e ∈ g.fh,ins u e = true:=fun e he=>by
     rw [<- hall] at he
     exact (List.mem_filter.1 he).2
    induction hm with
    | here=>exact q1
    | on hw k hb ih=>
     rename_i m' a' b'
     rcases k with k | k
     ·have:=hin _ k
      unfold ins at this
      rw [Bool.and_eq_true] at this
      simpa using this.2
     ·have:=hin _ k
      unfold ins at this
      rw [Bool.and_eq_true] at this
      simpa using this.1) n (shlU 1 x,0) ⟨by omega,by rw [az hx64]; simp,fun b hb=>by
   rw [az hx64,decide_eq_true_eq] at hb
   subst hb
   exact ⟨0,.here⟩,.inr (by omega)⟩ (by simp only; omega)
 rw [e1]
 exact ⟨v,rfl,e2⟩
end Go.Proofs.YtlleajifdbnbaaaGreatDoor
namespace Go.Proofs.YtlleajifdbnbaaaGreatDoor
open Go
/-! ### The walk with a common store of steps -/
theorem draw3:ab_l3 = ah_l2:=rfl
theorem draw2:ab_l2 = ah_l1:=rfl
theorem app_len {α:Type} {xs ys zs:List α} (h:app xs ys = some zs):zs = xs ++ ys:=(gO h).1
theorem l4_sim (N:Nat) (v:UInt64) (g:Tb) (s:UInt64):∀ (n:Nat) (z:Int) (xs:List Int) (u:UInt64) (l:Int),
  (∀ r,ac (ah_l3 N v g s) n (z,xs,u,l) = some (.inl r) -> ac (ab_l4 N v g s) n (z,xs,u,l) = some (.inl (.inl r)))/\
  (∀ w u', ac (ah_l3 N v g s) n (z,xs,u,l) = some (.inr (w,u')) -> xs.length <= w.length/\ac (ab_l4 N v g s) n (z,xs,u,l) = some (.inr (w,u', l - ((w.length:Int) - (xs.length:Int))))/\
   ∀ l2,0 <= l -> l <= l2 -> l2 <= 10000 -> ac (ah_l3 N v g s) n (z,xs,u,l2) = some (.inr (w,u'))):=by
 intro n
 induction n with
 | zero=>intro z xs u l; exact ⟨fun r h=>(by cases h),fun w u' h=>(by cases h)⟩
 | succ n ih=>
  intro z xs u l
  simp only [ay]
  generalize hJ1:ac (ah_l3 N v g s) n = J1 at *
  generalize hJ2:ac (ab_l4 N v g s) n = J2 at *
  unfold ah_l3 ab_l4
  simp only [draw3,draw2]
  cases hk:aL z with
  | none=>exact ⟨fun r h=>(by cases h),fun w u' h=>(by cases h)⟩
  | some k=>
   simp only [aa]
   by_cases hv:shrU v k &&& 1 = 1
   ·simp only [if_pos hv]
    refine ⟨fun r h=>(by cases h),fun w u' h=>?_⟩
    cases h
    refine ⟨Nat.le_refl _,?_,fun l2 _ _ _=>rfl⟩
    congr 4
    omega
   ·simp only [if_neg hv]
    by_cases h0:l = 0
    ·simp only [if_pos h0]
     exact ⟨fun r h=>(by cases h; rfl),fun w u' h=>(by cases h)⟩
    ·simp only [if_neg h0]
     cases hc:chk (l - 1) with
     | none=>exact ⟨fun r h=>(by cases h),fun w u' h=>(by cases h)⟩
     | some l1=>
      obtain ⟨rfl,hc1,hc2⟩:=dC hc
      simp only [aa]
      cases hb:ac (ah_l2 N g z) N (0,0) with
      | none=>exact ⟨fun r h=>(by cases h),fun w u' h=>(by cases h)⟩
      | some nb=>
       simp only [aa]
       cases hcol:ac (ah_l1 N) N (nb &&& s,[]) with
       | none=>exact ⟨fun r h=>(by cases h),fun w u' h=>(by cases h)⟩
       | some near=>
        simp only [aa]
        cases hbel:az_p N ⟨u⟩ ((near.length:Nat):Int) with
        | none=>exact ⟨fun r h=>(by cases h),fun w u' h=>(by cases h)⟩
        | some y=>
         obtain ⟨y1,y2,y3⟩:=y
         simp only [aa]
         by_cases he:y3 = 0
         ·simp only [if_pos he]
          cases hi:idx near y1 with
          | none=>exact ⟨fun r h=>(by cases h),fun w u' h=>(by cases h)⟩
          | some x=>
           simp only [aa]
           cases ha:app xs [x] with
           | none=>exact ⟨fun r h=>(by cases h),fun w u' h=>(by cases h)⟩
           | some xs' =>
            have hxs' :=app_len ha
            simp only [aa]
            obtain ⟨i1,i2⟩:=ih x xs' y2.fc (l - 1)
            refine ⟨i1,fun w u' h=>?_⟩
            obtain ⟨j1,j2,j3⟩:=i2 w u' h
            have hlen:xs'.length = xs.length + 1:=by rw [hxs']; simp
            refine ⟨by omega,?_,fun l2 hl0 h1 h2=>?_⟩
            ·rw [j2]
             congr 4
             omega
            ·rw [if_neg (by omega),av (by omega)]
             simp only [aa]
             exact j3 (l2 - 1) (by omega) (by omega) (by omega)
         ·simp only [if_neg he]
          exact ⟨fun r h=>(by cases h; rfl),fun w u' h=>(by cases h)⟩
end Go.Proofs.YtlleajifdbnbaaaGreatDoor
namespace Go.Proofs.YtlleajifdbnbaaaGreatDoor
open Go
theorem gw {l:List Int} (h:l.Nodup) {i j:Nat} {hi:i < l.length} {hj:j < l.length} (e:l[i] = l[j]):i = j:=by
 have hp:=List.pairwise_iff_getElem.1 h
 rcases Nat.lt_trichotomy i j with h1 | h1 | h1
 ·exact absurd e (hp i j hi hj h1)
 ·exact h1
 ·exact absurd e.symm (hp j i hj hi h1)
structure Erased (l r:List Int):Prop where
 len:r.length <= l.length
 pos:0 < r.length
 first:r[0]? = l[0]?
 last:r[r.length - 1]? = l[l.length - 1]?
 once:r.Nodup
 steps:∀ i,0 < i -> i < r.length -> ∃ k,0 < k/\k < l.length/\l[k - 1]? = r[i - 1]?/\l[k]? = r[i]?
theorem fM (N:Nat) (l:List Int) (D:List (Int × Int)) (hD:fU l l.length D) (hl:l.length <= 10001):∀ (m:Nat) (at_:Int) (pre:List Int) (p:Nat),l[p]? = some at_ -> l.length - p <= m -> pre.length <= p -> (pre ++ [at_])[0]? = l[0]? -> pre.Nodup -> (∀ x ∈ pre,∀ j:Nat,l[j]? = some x -> j < p) ->
  (∀ i,0 < i -> i < (pre ++ [at_]).length -> ∃ k,0 < k/\k < l.length/\l[k - 1]? = (pre ++ [at_])[i - 1]?/\l[k]? = (pre ++ [at_])[i]?) -> ∀ n,m < n ->
  ∃ r,ac (av_l1 N l D) n (at_,pre ++ [at_]) = some r/\Erased l r:=by
 intro m
 induction m with
 | zero=>
  intro at_ pre p hp hm
  have hpl:p < l.length:=(List.getElem?_eq_some_iff.1 hp).1
  omega
 | succ m ih=>
  intro at_ pre p hp hm hpp h0 hnd hold hst n hn
  have hpl:p < l.length:=(List.getElem?_eq_some_iff.1 hp).1
  obtain ⟨k,k1,k2,k3,k4⟩:=hD at_ p hpl hp
  have hnew:at_ ∉ pre:=fun hm=>Nat.lt_irrefl _ (hold at_ hm p hp)
  have hnd2:(pre ++ [at_]).Nodup:=by
   rw [List.nodup_append]
   refine ⟨hnd,by simp,fun a ha b hb=>?_⟩
   rcases List.mem_singleton.1 hb with rfl
   exact fun e=>hnew (e ▸ ha)
  cases n with
  | zero=>omega
  | succ n=>
   have e1:idx l (((l.length:Nat):Int) - 1) = some (l[l.length - 1]'(by omega)):=by
    rw [show (((l.length:Nat):Int) - 1) = ((l.length - 1:Nat):Int) by omega,aS,geE]
   rw [ay]
   generalize hJ1:ac (av_l1 N l D) n = J1
   unfold av_l1
   simp only
   rw [e1]
   simp only [aa]
   by_cases hend:at_ = l[l.length - 1]'(by omega)
   ·rw [if_pos hend]
    refine ⟨_,rfl,by simp only [List.length_append,List.length_singleton]; omega,by simp,h0,?_,hnd2,hst⟩
    rw [geE (show l.length - 1 < l.length by omega),<- hend]
    simp
   ·rw [if_neg hend]
    have hkl:k + 1 < l.length:=by
     rcases Nat.lt_or_ge (k + 1) l.length with h | h
     ·exact h
     ·have hkk:k = l.length - 1:=by omega
      subst hkk
      rw [geE (by omega)] at k4
      exact absurd (by cases k4; rfl) hend
    have e3:cU D at_ (0:Int) = (k:Int):=by simp [cU,k1]
    rw [e3,av (by omega)]
    simp only [aa]
    have e4:idx l ((k:Int) + 1) = some l[k + 1]:=by rw [show ((k:Int) + 1) = ((k + 1:Nat):Int) by omega,aS,geE hkl]
    rw [e4]
    simp only [aa]
    rw [aR (by simp; omega)]
    simp only [aa]
    obtain ⟨r,r1,r2⟩:=ih l[k + 1] (pre ++ [at_]) (k + 1) (geE hkl) (by omega) (by simp only [List.length_append,List.length_singleton]; omega)
     (by rw [List.getElem?_append_left (by simp)]; exact h0) hnd2
     (fun x hx j hj=>by
      rcases List.mem_append.1 hx with hx | hx
      ·have:=hold x hx j hj; omega
      ·rcases List.mem_singleton.1 hx with rfl
       obtain ⟨k', q1,q2,_,_⟩:=hD x j (List.getElem?_eq_some_iff.1 hj).1 hj
       rw [k1] at q1
       have:(k:Int) = k' :=by cases q1; rfl
       omega)
     (fun i hi hil=>by
      by_cases hlast:i = (pre ++ [at_]).length
      ·refine ⟨k + 1,by omega,hkl,?_,?_⟩
       ·rw [Nat.add_sub_cancel,k4,List.getElem?_append_left (by omega)]
        subst hlast
        simp
       ·subst hlast
        rw [List.getElem?_append_right (Nat.le_refl _),Nat.sub_self]
        exact geE hkl
      ·have hil' : i < (pre ++ [at_]).length:=by
        rw [List.length_append] at hil
        simp only [List.length_singleton] at hil
        omega
       obtain ⟨q,q1,q2,q3,q4⟩:=hst i hi hil'
       refine ⟨q,q1,q2,?_,?_⟩
       ·rw [List.getElem?_append_left (by omega)]; exact q3
       ·rw [List.getElem?_append_left hil']; exact q4) n (by omega)
    exact ⟨r,by rw [<- hJ1]; exact r1,r2⟩
theorem ea (N:Nat) (l:List Int) (hl:l.length <= 10001) (hN:10002 < N) (h0:0 < l.length):∃ r,av_p N l = some r/\Erased l r:=by
 unfold av_p
 obtain ⟨D,d1,d2⟩:=dn N N l (by omega)
 rw [d1]
 have e0:l[0]? = some (l[0]'h0):=geE _
 rw [e0]
 simp only [aa]
 obtain ⟨r,r1,r2⟩:=fM N l D d2 (by omega) l.length (l[0]'h0) [] 0 e0 (by omega) (Nat.zero_le _) (by rw [e0]; rfl) (by simp) (by simp) (fun i h1 h2=>by simp at h2; omega) N (by omega)
 rw [show ([]:List Int) ++ [l[0]'h0] = [l[0]'h0] from rfl] at r1
 rw [r1]
 exact ⟨r,rfl,r2⟩
end Go.Proofs.YtlleajifdbnbaaaGreatDoor
namespace Go.Proofs.YtlleajifdbnbaaaGreatDoor
open Go
theorem bit_all {N:Nat} (h:N < 64) (k:Nat):bit (shlU 1 N - 1) k = decide (k < N):=by
 unfold bit
 have h1:=di h
 have h2:=Nat.two_pow_pos N
 rw [UInt64.toNat_sub_of_le _ _ (by rw [UInt64.le_iff_toNat_le,h1]; exact h2),h1]
 exact Nat.testBit_two_pow_sub_one N k
theorem gV {N:Nat} (h:N < 64) (u:UInt64):bw (N:Int) (u &&& (shlU 1 N - 1)):=by
 intro k hk
 rw [bA,Bool.and_eq_true,bit_all h,decide_eq_true_eq] at hk
 omega
theorem gz (n:Nat) (xs:List (Int × Int)) (x:Int × Int) (hn:xs.length < n):∃ y,aj_p n xs x = some y/\(0 <= y ↔ x ∈ xs)/\(0 <= y -> xs[y.toNat]? = some x):=by
 unfold aj_p
 obtain ⟨r,e1,e2⟩:=ap (B:=aj_l1 n xs x) (fun i=>xs.length - i) (fun i=>i <= xs.length/\∀ j,j < i -> xs[j]? ≠ some x) (fun r=>r = .inr ()/\x ∉ xs ∨ ∃ j:Nat,r = .inl (j:Int)/\xs[j]? = some x) (fun i J ⟨hi,hno⟩ hJ=>by
  unfold aj_l1
  simp only
  by_cases hl:i < xs.length
  ·rw [if_pos hl,geE hl]
   simp only [aa]
   by_cases he:x.1 = xs[i].1/\x.2 = xs[i].2
   ·rw [if_pos he]
    exact ⟨_,rfl,.inr ⟨i,rfl,by rw [geE hl]; congr 1; exact (Prod.ext he.1 he.2).symm⟩⟩
   ·rw [if_neg he]
    refine hJ (i + 1) ⟨by omega,fun j hj=>?_⟩ (by omega)
    by_cases hji:j = i
    ·subst hji
     rw [geE hl]
     intro h
     exact he (by rw [Option.some.inj h]; exact ⟨rfl,rfl⟩)
    ·exact hno j (by omega)
  ·rw [if_neg hl]
   refine ⟨_,rfl,.inl ⟨rfl,fun hm=>?_⟩⟩
   obtain ⟨j,hj,hje⟩:=List.getElem_of_mem hm
   exact hno j (by omega) (by rw [geE hj,hje])) n 0 ⟨by omega,fun j hj=>by omega⟩ (by omega)
 rw [e1]
 rcases e2 with ⟨rfl,h⟩ | ⟨j,rfl,h⟩
 ·exact ⟨-1,rfl,⟨fun h1=>by omega,fun h1=>absurd h1 h⟩,fun h1=>by omega⟩
 ·exact ⟨(j:Int),rfl,⟨fun _=>List.mem_of_getElem? h,fun _=>by omega⟩,fun _=>by simpa using h⟩
theorem edge_in {g:Tb} (h:Valid g) {a b:Nat} (k:Adj g a b):(min (b:Int) (a:Int),max (b:Int) (a:Int)) ∈ g.fh:=by
 rcases k with k | k
 ·have:=h.ok _ k
  simp only at this
  rwa [show min (b:Int) (a:Int) = a by omega,show max (b:Int) (a:Int) = b by omega]
 ·have:=h.ok _ k
  simp only at this
  rwa [show min (b:Int) (a:Int) = b by omega,show max (b:Int) (a:Int) = a by omega]
end Go.Proofs.YtlleajifdbnbaaaGreatDoor
namespace Go.Proofs.YtlleajifdbnbaaaGreatDoor
open Go
theorem eJ {u v:UInt64} (h:∀ k,bit u k = true -> bit v k = true):(am u).length <= (am v).length:=by
 have e:am u = (am v).filter (bit u ·):=by
  unfold am
  rw [List.filter_filter]
  apply List.filter_congr
  intro k _
  cases hu:bit u k with
  | false=>simp
  | true=>rw [h k hu]; rfl
 rw [e]
 exact List.length_filter_le _ _
theorem dE:∀ (r:List Nat) (u v:UInt64),r.Nodup -> (∀ x ∈ r,x < 64/\bit u x = false/\bit v x = true) -> (∀ k,bit u k = true -> bit v k = true) -> (am u).length + r.length <= (am v).length
 | [],u,v,_,_,h=>by simpa using eJ h
 | x :: r,u,v,hnd,hx,h=>by
  have hnd' :=List.nodup_cons.1 hnd
  obtain ⟨x1,x2,x3⟩:=hx x (by simp)
  have h1:=cM (u:=u) (v:=u ||| shlU 1 x) (fun k hk=>by rw [ba,hk]; rfl) ⟨x,by rw [ba,az x1]; simp,x2⟩
  have h2:=dE r (u ||| shlU 1 x) v hnd'.2 (fun y hy=>by
   obtain ⟨y1,y2,y3⟩:=hx y (by simp [hy])
   refine ⟨y1,?_,y3⟩
   rw [ba,y2,az x1,Bool.false_or,decide_eq_false_iff_not]
   exact fun e=>hnd'.1 (e ▸ hy)) (fun k hk=>by
   rw [ba,Bool.or_eq_true,az x1,decide_eq_true_eq] at hk
   rcases hk with hk | rfl
   ·exact h k hk
   ·exact x3)
  simp only [leC]
  omega
structure Path (g:Tb) (s v:UInt64) (x:Nat) (r:List Nat):Prop where
 pos:0 < r.length
 first:r[0]? = some x
 once:r.Nodup
 inside:∀ y ∈ r,bit s y = true
 steps:∀ (i:Nat) a b,r[i]? = some a -> r[i + 1]? = some b -> Adj g a b
 away:∀ (i:Nat) a,r[i]? = some a -> i + 1 < r.length -> bit v a = false
 last:∀ (i:Nat) a,r[i]? = some a -> i + 1 = r.length -> bit v a = true
theorem path_of {g:Tb} {s v:UInt64} {x z:Nat} {w:List Nat} (hw:Walked g s v x w) (hz:w[w.length - 1]? = some z) (hvz:bit v z = true) {r:List Int} (hE:Erased (w.map fun k:Nat=>(k:Int)) r) :
  ∃ q:List Nat,r = q.map (fun k:Nat=>(k:Int))/\Path g s v x q:=by
 have hwl:0 < w.length:=by
  rcases Nat.eq_zero_or_pos w.length with h0 | h0
  ·rw [List.length_eq_zero_iff.1 h0] at hz; simp at hz
  ·exact h0
 have get:∀ i,i < r.length -> ∃ j,∃ hj:j < w.length,r[i]? = some (w[j]:Int):=fun i hi=>by
  by_cases h0:i = 0
  ·subst h0
   exact ⟨0,hwl,by rw [hE.first,List.getElem?_map,geE hwl]; rfl⟩
  ·obtain ⟨k,k1,k2,k3,k4⟩:=hE.steps i (by omega) hi
   rw [List.length_map] at k2
   exact ⟨k,k2,by rw [<- k4,List.getElem?_map,geE k2]; rfl⟩
 have hq:r = (r.map Int.toNat).map (fun k:Nat=>(k:Int)):=by
  apply List.ext_getElem?
  intro i
  rw [List.getElem?_map,List.getElem?_map]
  by_cases hi:i < r.length
  ·obtain ⟨j,hj,e⟩:=get i hi
   rw [e]; rfl
  ·rw [List.getElem?_eq_none (by omega)]; rfl
 generalize hqq:r.map Int.toNat = q at hq
 have hrl:r.length = q.length:=by rw [hq,List.length_map]
 have rget:∀ (i:Nat) (a:Nat),q[i]? = some a -> r[i]? = some (a:Int):=fun i a h=>by rw [hq,List.getElem?_map,h]; rfl
 have qget:∀ (i:Nat) (a:Nat),r[i]? = some (a:Int) -> q[i]? = some a:=fun i a h=>by
  rw [hq,List.getElem?_map] at h
  cases hqi:q[i]? with
  | none=>rw [hqi] at h; cases h
  | some b=>
   rw [hqi] at h
   have:(b:Int) = a:=Option.some.inj h
   congr 1; omega
 have hnd:q.Nodup:=by
  apply List.pairwise_iff_getElem.2
  intro i j hi hj hij e
  have h1:=rget i q[i] (geE hi)
  have h2:=rget j q[j] (geE hj)
  rw [geE (by omega)] at h1 h2
  have:=gw hE.once (Option.some.inj (h1.trans (by rw [e]; exact h2.symm)))
  omega
 have wlast:∀ (i:Nat) (a:Nat),q[i]? = some a -> i + 1 = q.length -> a = z:=fun i a h hl=>by
  have h1:=rget i a h
  have h2:=hE.last
  rw [show r.length - 1 = i by omega,h1,List.length_map,List.getElem?_map,hz] at h2
  have:(a:Int) = z:=Option.some.inj h2
  omega
 refine ⟨q,hq,by have:=hE.pos; omega,?_,hnd,fun y hy=>?_,fun i a b ha hb=>?_,fun i a ha hi=>?_,fun i a ha hi=>?_⟩
 ·apply qget
  rw [hE.first,List.getElem?_map,hw.first]; rfl
 ·obtain ⟨i,hi,rfl⟩:=List.getElem_of_mem hy
  obtain ⟨j,hj,e⟩:=get i (by omega)
  have:=qget i w[j] e
  rw [geE hi] at this
  rw [Option.some.inj this]
  exact hw.inside _ (List.getElem_mem hj)
 ·have hi:=(List.getElem?_eq_some_iff.1 hb).1
  obtain ⟨k,k1,k2,k3,k4⟩:=hE.steps (i + 1) (by omega) (by omega)
  rw [List.length_map] at k2
  rw [Nat.add_sub_cancel,rget i a ha,List.getElem?_map] at k3
  rw [rget (i + 1) b hb,List.getElem?_map] at k4
  rw [geE (by omega)] at k3 k4
  have e1:(w[k - 1]:Int) = a:=Option.some.inj k3
  have e2:(w[k]:Int) = b:=Option.some.inj k4
  refine hw.steps (k - 1) a b ?_ ?_
  ·rw [geE (by omega)]; congr 1; omega
  ·rw [show k - 1 + 1 = k by omega,geE k2]; congr 1; omega
 ·obtain ⟨j,hj,e⟩:=get i (by omega)
  have:=qget i w[j] e
  rw [ha] at this
  have e1:a = w[j]:=Option.some.inj this
  subst e1
  by_cases hjl:j + 1 < w.length
  ·exact hw.away j _ (geE hj) hjl
  ·exfalso
   have hjz:w[j] = z:=by
    rw [show w.length - 1 = j by omega,geE hj] at hz
    exact Option.some.inj hz
   have hlq:q.length - 1 < q.length:=by omega
   have h1:=wlast (q.length - 1) q[q.length - 1] (geE hlq) (by omega)
   have hil:i < q.length:=by omega
   rw [geE hil] at ha
   have h2:q[i] = q[q.length - 1]:=by rw [h1,Option.some.inj ha,hjz]
   have:=List.pairwise_iff_getElem.1 hnd i (q.length - 1) hil hlq (by omega)
   exact this h2
 ·rw [wlast i a ha hi]; exact hvz
theorem note_ok (n:Nat) (g:Tb) (h:Valid g) (hn:10010 < n) (q:List Nat) (hlen:q.length <= 64) (hN:∀ y ∈ q,(y:Int) < g.fN) (hst:∀ (i:Nat) a b,q[i]? = some a -> q[i + 1]? = some b -> Adj g a b) (done:UInt64) (tree:List Int) (ht:tree.length <= 1000) :
  ∃ done' es,ac (ab_l1 n (q.map fun k:Nat=>(k:Int)) g) n (done,0,tree) = some (done', tree ++ es)/\(∀ k,bit done' k = true ↔ bit done k = true ∨ k ∈ q)/\es.length = q.length - 1/\
   ∀ (i:Nat) (e:Int),es[i]? = some e -> 0 <= e/\∃ a b,q[i]? = some a/\q[i + 1]? = some b/\g.fh[e.toNat]? = some (min (b:Int) (a:Int),max (b:Int) (a:Int)):=by
 have h64:=h.n64; have hlen' :=h.len
 obtain ⟨⟨d,t⟩,e1,e2,es,rfl,e3,e4⟩:=ap (B:=ab_l1 n (q.map fun k:Nat=>(k:Int)) g) (fun s=>q.length - s.2.1) (fun (d,i,t)=>i <= q.length/\(∀ k,bit d k = true ↔ bit done k = true ∨ k ∈ q.take i)/\∃ es,t = tree ++ es/\es.length = i - 1/\∀ (j:Nat) (e:Int),es[j]? = some e -> 0 <= e/\∃ a b,q[j]? = some a/\q[j + 1]? = some b/\g.fh[e.toNat]? = some (min (b:Int) (a:Int),max (b:Int) (a:Int)))
  (fun (d,t)=>(∀ k,bit d k = true ↔ bit done k = true ∨ k ∈ q)/\∃ es,t = tree ++ es/\es.length = q.length - 1/\∀ (j:Nat) (e:Int),es[j]? = some e -> 0 <= e/\∃ a b,q[j]? = some a/\q[j + 1]? = some b/\g.fh[e.toNat]? = some (min (b:Int) (a:Int),max (b:Int) (a:Int))) (fun ⟨d,i,t⟩ J ⟨q1,q2,es,q3,q4,q5⟩ hJ=>by
  simp only at q1 q2 q3 hJ
  unfold ab_l1
  simp only [jn,List.length_map]
  by_cases hi:i < q.length
  ·rw [if_pos hi,List.getElem?_map,geE hi]
   simp only [Option.map_some,aa]
   have hiN:=hN q[i] (List.getElem_mem hi)
   rw [aK (by omega),Int.toNat_natCast]
   simp only [aa]
   have hbits:∀ k,bit (d ||| shlU 1 q[i]) k = true ↔ bit done k = true ∨ k ∈ q.take (i + 1):=fun k=>by
    rw [ba,Bool.or_eq_true,q2,az (by omega),decide_eq_true_eq,List.take_succ_eq_append_getElem hi,List.mem_append,List.mem_singleton,or_assoc]
   by_cases h0:0 < i
   ·rw [if_pos h0,List.getElem?_map,geE (show i - 1 < q.length by omega)]
    simp only [Option.map_some,aa]
    have hadj:=hst (i - 1) q[i - 1] q[i] (geE (by omega)) (by rw [show i - 1 + 1 = i by omega]; exact geE hi)
    obtain ⟨y,y1,y2,y3⟩:=gz n g.fh (min (q[i]:Int) (q[i - 1]:Int),max (q[i]:Int) (q[i - 1]:Int)) (by omega)
    rw [y1]
    simp only [aa]
    have hy:=y2.2 (edge_in h hadj)
    rw [aR (by rw [q3]; simp only [List.length_append,List.length_singleton]; omega)]
    simp only [aa]
    refine hJ _ ⟨by simp only; omega,hbits,es ++ [y],by rw [q3]; simp,by simp only [List.length_append,List.length_singleton]; omega,fun j e hje=>?_⟩ (by simp only; omega)
    by_cases hjl:j < es.length
    ·rw [List.getElem?_append_left hjl] at hje
     exact q5 j e hje
    ·have hje' :=(List.getElem?_eq_some_iff.1 hje).1
     simp only [List.length_append,List.length_singleton] at hje'
     have hj:j = es.length:=by omega
     subst hj
     rw [List.getElem?_append_right (Nat.le_refl _),Nat.sub_self] at hje
     have:y = e:=by simpa using hje
     subst this
     refine ⟨hy,q[i - 1],q[i],?_,?_,y3 hy⟩
     ·rw [q4]; exact geE (by omega)
     ·rw [q4,show i - 1 + 1 = i by omega]; exact geE hi
   ·rw [if_neg h0]
    have hi0:i = 0:=by omega
    subst hi0
    exact hJ _ ⟨by simp only; omega,hbits,es,q3,by simpa using q4,q5⟩ (by simp only; omega)
  ·rw [if_neg hi]
   have:i = q.length:=by omega
   subst this
   rw [List.take_length] at q2
   exact ⟨_,rfl,q2,es,q3,q4,q5⟩) n (done,0,tree) ⟨by simp,fun k=>by simp,[],by simp,rfl,fun j e h=>by simp at h⟩ (by simp only; omega)
 exact ⟨d,es,e1,e2,e3,e4⟩
end Go.Proofs.YtlleajifdbnbaaaGreatDoor
namespace Go.Proofs.YtlleajifdbnbaaaGreatDoor
open Go
theorem gt (g:Tb) (h:Valid g) (s v:UInt64) (bB:Nat) (hm:bB <= 10000):∀ (m:Nat) (w:List Nat) (k:Nat) (u:UInt64) (l:Nat),w.length + l = bB + 1 -> w[w.length - 1]? = some k -> 0 < w.length -> (k:Int) < g.fN ->
  ac (aE_l1 20000 v (bB:Int) g s) m (w.map (fun k:Nat=>(k:Int)),u) = ac (ah_l3 20000 v g s) m ((k:Int),w.map (fun k:Nat=>(k:Int)),u,(l:Int)):=by
 have h64:=h.n64
 intro m
 induction m with
 | zero=>intro w k u l _ _ _ _; rfl
 | succ m ih=>
  intro w k u l hl hlast hpos hk
  simp only [ay]
  generalize hJ1:ac (aE_l1 20000 v (bB:Int) g s) m = J1 at *
  generalize hJ2:ac (ah_l3 20000 v g s) m = J2 at *
  unfold aE_l1 ah_l3
  simp only
  have e1:((((w.map (fun k:Nat=>(k:Int))).length:Nat):Int) - 1) = ((w.length - 1:Nat):Int):=by rw [List.length_map]; omega
  rw [e1,aS,List.getElem?_map,hlast]
  simp only [Option.map_some,aa]
  rw [cH 20000 v (by omega),aK (by omega),Int.toNat_natCast]
  simp only [aa]
  by_cases hv:bit v k = true
  ·rw [hv,gU,if_pos ((bX v k).2 hv)]
  ·rw [if_neg hv,if_neg (fun e=>hv ((bX v k).1 e))]
   by_cases hl0:l = 0
   ·subst hl0
    rw [if_pos (by omega),if_pos (by omega)]
   ·rw [if_neg (by omega),if_neg (by omega),av (by omega)]
    simp only [aa]
    obtain ⟨a,a1,a2⟩:=dU 20000 g h (by decide) k
    rw [a1]
    simp only [aa]
    rw [dz 20000 _ (by decide),nearR 20000 g h (by decide) s (a &&& s) k (fun b=>by rw [bA,Bool.and_eq_true,a2])]
    simp only [aa]
    have hlen:=aT (a &&& s)
    rw [List.length_map,fq _ _ hlen]
    generalize az_p 20000 (⟨u⟩:Ta) (((am (a &&& s)).length:Nat):Int) = y
    cases y with
    | none=>rfl
    | some y=>
     obtain ⟨y1,y2,y3⟩:=y
     simp only [aa]
     by_cases he:y3 = 0
     ·rw [if_pos he,if_pos he]
      cases hi:idx ((am (a &&& s)).map fun k:Nat=>(k:Int)) y1 with
      | none=>rfl
      | some x=>
       simp only [aa]
       obtain ⟨_,i2⟩:=au hi
       rw [List.getElem?_map,Option.map_eq_some_iff] at i2
       obtain ⟨b,b1,rfl⟩:=i2
       have hb:=bq.1 (List.mem_of_getElem? b1)
       rw [bA,Bool.and_eq_true,a2] at hb
       rw [aR (by simp only [List.length_map,List.length_singleton]; omega)]
       simp only [aa]
       have:=ih (w ++ [b]) b y2.fc (l - 1) (by simp only [List.length_append,List.length_singleton]; omega) (by simp) (by simp) (h.adj hb.1).2.1
       rw [List.map_append] at this
       rw [show ((l:Int) - 1) = ((l - 1:Nat):Int) by omega]
       exact this
     ·rw [if_neg he,if_neg he]
theorem fC (g:Tb) (h:Valid g) (s v:UInt64) (bB:Nat) (hm:bB <= 10000) (k:Nat) (hk:(k:Int) < g.fN) (u:UInt64) :
  aE_p 20000 g s (k:Int) v ⟨u⟩ (bB:Int) = thn (ac (ah_l3 20000 v g s) 20000 ((k:Int),[(k:Int)],u,(bB:Int))) (fun (w,u)=>some (w,(⟨u⟩:Ta),(0:Int))):=by
 unfold aE_p
 have:=gt g h s v bB hm 20000 [k] k u bB (by simp only [List.length_singleton]; omega) (by simp) (by simp) hk
 simp only [List.map_cons,List.map_nil] at this
 rw [this]
end Go.Proofs.YtlleajifdbnbaaaGreatDoor
namespace Go.Proofs.YtlleajifdbnbaaaGreatDoor
open Go
theorem gB (n:Nat) (g:Tb) (h:Valid g) (hn:300 < n) (s:UInt64) (hs:bw g.fN s):∃ b,a8_p n g s = some b/\(b = true ↔ Joined g s):=by
 have h1:=h.n1; have h64:=h.n64
 obtain ⟨N,hN⟩:∃ N:Nat,g.fN = N:=⟨g.fN.toNat,by omega⟩
 unfold a8_p aJ_p
 obtain ⟨l,e1,e2⟩:=ap (B:=aJ_l1 n g s) (fun (_,z,_)=>N - z.toNat)
  (fun (d,z,xs)=>∃ k:Nat,z = (k:Int)/\k <= N/\xs.length <= k/\(∀ j,j < k -> bit s j = true -> bit d j = true)/\(xs.length = 0 -> d = 0/\∀ j,j < k -> bit s j = false)/\(xs.length = 1 -> s ≠ 0/\∀ b,bit d b = true ↔ ∃ m,Way g s (low s) m b)/\(Joined g s -> xs.length <= 1))
  (fun l=>l.length = 1 ↔ Joined g s) (fun ⟨d,z,xs⟩ J hI hJ=>by
  simp only at hI hJ
  obtain ⟨k,rfl,hk,i1,i2,i3,i4,i5⟩:=hI
  unfold aJ_l1
  simp only
  by_cases hkN:(k:Int) < g.fN
  ·rw [if_pos hkN,cH n s (by omega),av (by omega)]
   simp only [aa]
   cases hsk:bit s k with
   | false=>
    rw [if_neg (by simp)]
    refine hJ _ ⟨k + 1,by simp,by omega,(by simp only; omega),fun j hj hb=>?_,fun h0=>⟨(i3 h0).1,fun j hj=>?_⟩,i4,i5⟩ (by simp only; omega)
    ·by_cases hjk:j = k
     ·subst hjk; rw [hsk] at hb; cases hb
     ·exact i2 j (by omega) hb
    ·by_cases hjk:j = k
     ·subst hjk; exact hsk
     ·exact (i3 h0).2 j (by omega)
   | true=>
    rw [if_pos rfl,cH n d (by omega)]
    simp only [aa]
    cases hdk:bit d k with
    | true=>
     rw [if_pos rfl]
     refine hJ _ ⟨k + 1,by simp,by omega,(by simp only; omega),fun j hj hb=>?_,fun h0=>?_,i4,i5⟩ (by simp only; omega)
     ·by_cases hjk:j = k
      ·subst hjk; exact hdk
      ·exact i2 j (by omega) hb
     ·rw [(i3 h0).1,aB] at hdk; cases hdk
    | false=>
     rw [if_neg (by simp)]
     obtain ⟨v,v1,v2⟩:=reachR n g h hn s k hsk
     rw [v1]
     simp only [aa]
     rw [aR (by simp only [List.length_singleton]; omega)]
     simp only [aa]
     refine hJ _ ⟨k + 1,by simp,by omega,by simp only [List.length_append,List.length_singleton]; omega,fun j hj hb=>?_,fun h0=>?_,fun h1=>?_,fun hc=>?_⟩ (by simp only; omega)
     ·simp only
      rw [ba,Bool.or_eq_true]
      by_cases hjk:j = k
      ·subst hjk; exact .inr ((v2 j).2 ⟨0,.here⟩)
      ·exact .inl (i2 j (by omega) hb)
     ·simp only [List.length_append,List.length_singleton] at h0; omega
     ·simp only [List.length_append,List.length_singleton] at h1
      obtain ⟨d0,hlow⟩:=i3 (by omega)
      have hs0:s ≠ 0:=fun e=>by rw [e,aB] at hsk; cases hsk
      have hl:low s = k:=by
       rcases Nat.lt_trichotomy (low s) k with hlt | he | hgt
       ·have:=hlow _ hlt; rw [aW hs0] at this; cases this
       ·exact he
       ·rw [ft hs0 hgt] at hsk; cases hsk
      refine ⟨hs0,fun b=>?_⟩
      simp only
      rw [d0,hl,ba,aB,Bool.false_or]
      exact v2 b
     ·simp only [List.length_append,List.length_singleton]
      have h0:=i5 hc
      by_cases hx:xs.length = 1
      ·obtain ⟨_,hb⟩:=i4 hx
       rw [(hb k).2 (hc.2 k hsk)] at hdk; cases hdk
      ·omega
  ·rw [if_neg hkN]
   have:k = N:=by omega
   subst this
   refine ⟨xs,rfl,fun hx=>⟨(i4 hx).1,fun b hb=>((i4 hx).2 b).1 (i2 b (by have:=hs b hb; omega) hb)⟩,fun hc=>?_⟩
   have h0:=i5 hc
   by_cases hx:xs.length = 0
   ·have:=(i3 hx).2 (low s) (by have:=hs _ (aW hc.1); omega)
    rw [aW hc.1] at this; cases this
   ·omega) n (0,0,[]) ⟨0,rfl,by omega,by simp,fun j hj=>by omega,fun _=>⟨rfl,fun j hj=>by omega⟩,fun h=>by simp at h,fun _=>by simp⟩ (by simp only; omega)
 rw [e1]
 simp only [aa]
 exact ⟨_,rfl,by rw [decide_eq_true_eq]; exact e2⟩
/-! ### Lists in order -/
def Up (l:List Int):Prop:=l.Pairwise (· <= ·)
theorem putR (n:Nat) (l:List Int) (x:Int) (hl:l.length < n) (h6:l.length <= 100000) (hs:Up l):∃ l', aL_p n l x = some l' /\l'.Perm (l ++ [x])/\Up l' :=by
 unfold aL_p
 obtain ⟨⟨q,xs⟩,e1,e2⟩:=ap (B:=aL_l1 n l x) (fun (_,i,_)=>l.length - i)
  (fun (q,i,xs)=>i <= l.length/\xs.length <= i + 1/\(q = false -> xs = l.take i/\∀ a ∈ xs,a <= x)/\(q = true -> xs.Perm (l.take i ++ [x])/\Up xs/\∀ a ∈ xs,∀ b ∈ l.drop i,a <= b))
  (fun (q,xs)=>xs.length <= l.length + 1/\(q = false -> xs = l/\∀ a ∈ xs,a <= x)/\(q = true -> xs.Perm (l ++ [x])/\Up xs)) (fun ⟨q,i,xs⟩ J ⟨i1,i2,i3,i4⟩ hJ=>by
  simp only at i1 i2 i3 i4 hJ
  unfold aL_l1
  simp only [jn]
  by_cases hi:i < l.length
  ·have htake:l.take (i + 1) = l.take i ++ [l[i]]:=List.take_succ_eq_append_getElem hi
   have hdrop:l.drop i = l[i] :: l.drop (i + 1):=List.drop_eq_getElem_cons hi
   have hup:∀ b ∈ l.drop (i + 1),l[i] <= b:=fun b hb=>by
    have:=hs.sublist (List.drop_sublist i l)
    rw [hdrop] at this
    exact (List.pairwise_cons.1 this).1 b hb
   rw [if_pos hi]
   cases q with
   | true=>
    obtain ⟨j1,j2,j3⟩:=i4 rfl
    rw [if_pos rfl,geE hi]
    simp only [aa]
    rw [aR (by simp only [List.length_singleton]; omega)]
    simp only [aa]
    refine hJ _ ⟨hi,by simp only [List.length_append,List.length_singleton]; omega,(fun h=>by cases h),fun _=>⟨?_,?_,?_⟩⟩ (by simp only; omega)
    ·simp only
     rw [htake,List.append_assoc]
     exact (j1.append_right [l[i]]).trans (by rw [List.append_assoc]; exact List.Perm.append_left _ List.perm_append_comm)
    ·refine List.pairwise_append.2 ⟨j2,by simp,fun a ha b hb=>?_⟩
     rw [List.mem_singleton.1 hb]
     exact j3 a ha _ (by rw [hdrop]; exact List.mem_cons_self ..)
    ·intro a ha b hb
     rcases List.mem_append.1 ha with ha | ha
     ·exact j3 a ha b (by rw [hdrop]; exact List.mem_cons_of_mem _ hb)
     ·rw [List.mem_singleton.1 ha]; exact hup b hb
   | false=>
    obtain ⟨rfl,j2⟩:=i3 rfl
    rw [if_neg (by simp),geE hi]
    simp only [aa]
    by_cases hx:x < l[i]
    ·rw [if_pos hx,aR (by simp only [List.length_take,List.length_singleton]; omega)]
     simp only [aa]
     rw [aR (by simp only [List.length_append,List.length_take,List.length_singleton]; omega)]
     simp only [aa]
     refine hJ _ ⟨hi,by simp only [List.length_append,List.length_take,List.length_singleton]; omega,(fun h=>by cases h),fun _=>⟨?_,?_,?_⟩⟩ (by simp only; omega)
     ·simp only
      rw [htake,List.append_assoc,List.append_assoc]
      exact List.Perm.append_left _ List.perm_append_comm
     ·have p1:Up (l.take i ++ [x]):=List.pairwise_append.2 ⟨hs.sublist (List.take_sublist i l),by simp,fun a ha b hb=>by rw [List.mem_singleton.1 hb]; exact j2 a ha⟩
      refine List.pairwise_append.2 ⟨p1,by simp,fun a ha b hb=>?_⟩
      rw [List.mem_singleton.1 hb]
      rcases List.mem_append.1 ha with ha | ha
      ·have:=j2 a ha; omega
      ·rw [List.mem_singleton.1 ha]; omega
     ·intro a ha b hb
      have h3:=hup b hb
      rcases List.mem_append.1 ha with ha | ha
      ·rcases List.mem_append.1 ha with ha | ha
       ·have:=j2 a ha; omega
       ·rw [List.mem_singleton.1 ha]; omega
      ·rw [List.mem_singleton.1 ha]; exact h3
    ·rw [if_neg hx,aR (by simp only [List.length_take,List.length_singleton]; omega)]
     simp only [aa]
     refine hJ _ ⟨hi,by simp only [List.length_append,List.length_take,List.length_singleton]; omega,fun _=>⟨htake.symm,fun a ha=>?_⟩,(fun h=>by cases h)⟩ (by simp only; omega)
     rcases List.mem_append.1 ha with ha | ha
     ·exact j2 a ha
     ·rw [List.mem_singleton.1 ha]; omega
  ·rw [if_neg hi]
   have:i = l.length:=by omega
   subst this
   rw [List.take_length] at i3 i4
   exact ⟨_,rfl,i2,i3,fun h=>⟨(i4 h).1,(i4 h).2.1⟩⟩) n (false,0,[]) ⟨by omega,by simp,fun _=>⟨by simp,by simp⟩,(fun h=>by cases h)⟩ (by simp only; omega)
 rw [e1]
 simp only [aa]
 simp only at e2
 obtain ⟨e2,e3,e4⟩:=e2
 cases q with
 | true=>
  rw [if_pos rfl]
  exact ⟨xs,rfl,(e4 rfl).1,(e4 rfl).2⟩
 | false=>
  obtain ⟨rfl,e5⟩:=e3 rfl
  rw [if_neg (by simp),aR (by simp only [List.length_singleton]; omega)]
  simp only [aa]
  exact ⟨_,rfl,List.Perm.refl _,List.pairwise_append.2 ⟨hs,by simp,fun a ha b hb=>by rw [List.mem_singleton.1 hb]; exact e5 a ha⟩⟩
/-! ### Places of edges -/
theorem fv (n:Nat) (g:Tb) (h:Valid g) (p y:Int):aG_l1 n g p y = aj_l1 n g.fh (min y p,max y p):=by
 funext J i
 unfold aG_l1 aj_l1
 simp only
 by_cases hi:i < g.fh.length
 ·rw [if_pos hi,if_pos hi,geE hi]
  simp only [aa]
  rw [fR]
  obtain ⟨o1,o2,o3⟩:=h.ok _ (List.getElem_mem hi)
  generalize g.fh[i] = e at *
  obtain ⟨e1,e2⟩:=e
  simp only at o1 o2 o3 ⊢
  have key:((e1,e2) = (p,y) ∨ (e1,e2) = (y,p)) ↔ (min y p = e1/\max y p = e2):=by
   simp only [Prod.mk.injEq]
   omega
  by_cases hc:min y p = e1/\max y p = e2
  ·rw [if_pos hc,if_pos (key.2 hc)]
  ·rw [if_neg hc,if_neg (fun h=>hc (key.1 h))]
 ·rw [if_neg hi,if_neg hi]
theorem eZ (n:Nat) (g:Tb) (h:Valid g) (p y:Int):aG_p n g p y = aj_p n g.fh (min y p,max y p):=by
 unfold aG_p aj_p
 rw [fv n g h p y]
theorem gA (g:Tb) (h:Valid g) (q:List Nat) (hq:∀ y ∈ q,y < 64):∀ (m i:Nat) (d:UInt64) (tP tR:List Int) (d' : UInt64) (tP' : List Int),tP.length <= 10000 + i -> i <= q.length -> q.length <= 64 -> tR.Perm tP -> Up tR ->
  ac (ab_l1 20000 (q.map fun k:Nat=>(k:Int)) g) m (d,i,tP) = some (d', tP') -> ∃ tR', ac (ae_l1 20000 (q.map fun k:Nat=>(k:Int)) g) m (tR,d,i) = some (tR', d')/\tR'.Perm tP' /\Up tR' :=by
 intro m
 induction m with
 | zero=>intro i d tP tR d' tP' _ _ _ _ _ hx; cases hx
 | succ m ih=>
  intro i d tP tR d' tP' hl hiq hq64 hp hu hx
  rw [ay] at hx ⊢
  generalize hJ1:ac (ab_l1 20000 (q.map fun k:Nat=>(k:Int)) g) m = J1 at *
  generalize hJ2:ac (ae_l1 20000 (q.map fun k:Nat=>(k:Int)) g) m = J2 at *
  unfold ab_l1 at hx
  unfold ae_l1
  simp only [jn,List.length_map] at hx ⊢
  by_cases hi:i < q.length
  ·rw [if_pos hi,List.getElem?_map,geE hi] at hx ⊢
   simp only [Option.map_some,aa] at hx ⊢
   have hq1:=hq _ (List.getElem_mem hi)
   rw [aK (by omega),Int.toNat_natCast] at hx
   rw [hS 20000 (by omega)]
   simp only [aa] at hx ⊢
   by_cases h0:0 < i
   ·rw [if_pos h0,List.getElem?_map,geE (show i - 1 < q.length by omega)] at hx ⊢
    simp only [Option.map_some,aa] at hx ⊢
    rw [eZ 20000 g h]
    cases hI:aj_p 20000 g.fh (min (q[i]:Int) (q[i - 1]:Int),max (q[i]:Int) (q[i - 1]:Int)) with
    | none=>rw [hI] at hx; cases hx
    | some y=>
     rw [hI] at hx
     simp only [aa] at hx ⊢
     rw [aR (by simp only [List.length_singleton]; omega)] at hx
     simp only [aa] at hx
     have hlr:=hp.length_eq
     obtain ⟨l', l1,l2,l3⟩:=putR 20000 tR y (by omega) (by omega) hu
     rw [l1]
     simp only [aa]
     exact ih (i + 1) _ _ l' d' tP' (by simp only [List.length_append,List.length_singleton]; omega) hi hq64 (l2.trans (hp.append_right _)) l3 hx
   ·rw [if_neg h0] at hx ⊢
    exact ih (i + 1) _ _ tR d' tP' (by omega) hi hq64 hp hu hx
  ·rw [if_neg hi] at hx ⊢
   cases hx
   exact ⟨tR,rfl,hp,hu⟩
end Go.Proofs.YtlleajifdbnbaaaGreatDoor
namespace Go.Proofs.YtlleajifdbnbaaaGreatDoor
open Go
theorem gu (N n:Nat) (l:List Int) (x:Int) (k:Nat) (hk:l[k]? = some x) (hlast:∀ j,l[j]? = some x -> j <= k) (hl:l.length <= 4294967296) (h:l.length < n):ac (am_l1 N l x) n (((l.length:Nat):Int) - 1) = some (k:Int):=by
 have hkl:k < l.length:=(List.getElem?_eq_some_iff.1 hk).1
 have:=ap (B:=am_l1 N l x) (fun z=>(z - k).toNat) (fun z=>(k:Int) <= z/\z < l.length) (fun r=>r = (k:Int)) (fun z J ⟨h1,h2⟩ hJ=>by
  unfold am_l1
  simp only
  obtain ⟨q,rfl⟩:∃ q:Nat,z = (q:Int):=⟨z.toNat,by omega⟩
  have hq:q < l.length:=by omega
  rw [aS,geE hq,Option.bind_some]
  by_cases hx:l[q] = x
  ·rw [if_pos hx]
   have:=hlast q (by rw [geE hq,hx])
   exact ⟨_,rfl,by omega⟩
  ·rw [if_neg hx,av (by omega),Option.bind_some]
   have hne:q ≠ k:=fun e=>by subst e; rw [geE hq] at hk; exact hx (by cases hk; rfl)
   exact hJ _ ⟨by omega,by omega⟩ (by omega)) n (((l.length:Nat):Int) - 1) ⟨by omega,by omega⟩ (by omega)
 obtain ⟨r,h1,rfl⟩:=this
 exact h1
theorem fG (N:Nat) (l:List Int) (D:List (Int × Int)) (hD:fU l l.length D) (hl:l.length <= 10001) (hN:l.length < N):∀ (m:Nat) (at_:Int) (pre:List Int) (p:Nat),l[p]? = some at_ -> (∀ k:Nat,dl D at_ = some (k:Int) -> pre.length <= k/\l.length - k <= m) -> ∀ n,m < n ->
  ∃ r,ac (av_l1 N l D) n (at_,pre ++ [at_]) = some r/\ac (am_l2 N l) n (pre ++ [at_]) = some r/\r.length <= l.length:=by
 intro m
 induction m with
 | zero=>
  intro at_ pre p hp hk n hn
  have hpl:p < l.length:=(List.getElem?_eq_some_iff.1 hp).1
  obtain ⟨k,k1,k2,k3,k4⟩:=hD at_ p hpl hp
  have:=(hk k k1).2
  omega
 | succ m ih=>
  intro at_ pre p hp hk n hn
  have hpl:p < l.length:=(List.getElem?_eq_some_iff.1 hp).1
  obtain ⟨k,k1,k2,k3,k4⟩:=hD at_ p hpl hp
  obtain ⟨hk5,hk6⟩:=hk k k1
  cases n with
  | zero=>omega
  | succ n=>
   have e1:idx l (((l.length:Nat):Int) - 1) = some (l[l.length - 1]'(by omega)):=by
    rw [show (((l.length:Nat):Int) - 1) = ((l.length - 1:Nat):Int) by omega,aS,geE]
   have e2:idx (pre ++ [at_]) ((((pre ++ [at_]).length:Nat):Int) - 1) = some at_:=by
    rw [show ((((pre ++ [at_]).length:Nat):Int) - 1) = ((pre.length:Nat):Int) by simp,aS]; simp
   rw [ay,ay]
   generalize hJ1:ac (av_l1 N l D) n = J1
   generalize hJ2:ac (am_l2 N l) n = J2
   unfold av_l1 am_l2
   simp only
   rw [e1,e2]
   simp only [aa]
   by_cases hend:at_ = l[l.length - 1]'(by omega)
   ·rw [if_pos hend,if_pos hend]; exact ⟨_,rfl,rfl,by simp only [List.length_append,List.length_singleton]; omega⟩
   ·rw [if_neg hend,if_neg hend]
    have hkl:k + 1 < l.length:=by
     rcases Nat.lt_or_ge (k + 1) l.length with h | h
     ·exact h
     ·have hkk:k = l.length - 1:=by omega
      subst hkk
      rw [geE (by omega)] at k4
      exact absurd (by cases k4; rfl) hend
    have hlast:∀ j,l[j]? = some at_ -> j <= k:=fun j hj=>by
     obtain ⟨k', q1,q2,_,_⟩:=hD at_ j (List.getElem?_eq_some_iff.1 hj).1 hj
     rw [k1] at q1
     have:(k:Int) = k' :=by cases q1; rfl
     omega
    rw [gu N N l at_ k k4 hlast (by omega) hN]
    simp only [aa]
    have e3:cU D at_ (0:Int) = (k:Int):=by simp [cU,k1]
    rw [e3,av (by omega)]
    simp only [aa]
    have e4:idx l ((k:Int) + 1) = some l[k + 1]:=by rw [show ((k:Int) + 1) = ((k + 1:Nat):Int) by omega,aS,geE hkl]
    rw [e4]
    simp only [aa]
    rw [aR (by simp; omega)]
    simp only [aa]
    obtain ⟨r,r1,r2,r3⟩:=ih l[k + 1] (pre ++ [at_]) (k + 1) (geE hkl) (fun k' hk' =>by
     obtain ⟨k2', q1,q2,_,_⟩:=hD l[k + 1] (k + 1) hkl (geE hkl)
     rw [hk'] at q1
     have:(k' : Int) = k2' :=by cases q1; rfl
     simp only [List.length_append,List.length_singleton]
     omega) n (by omega)
    exact ⟨r,by rw [<- hJ1]; exact r1,by rw [<- hJ2]; exact r2,r3⟩
end Go.Proofs.YtlleajifdbnbaaaGreatDoor
namespace Go.Proofs.YtlleajifdbnbaaaGreatDoor
open Go
/-! ### Sorting by insertion -/
theorem less_eq (n:Nat) (a b:Int):bx_p n a b = some (decide (a < b)):=by
 unfold bx_p aV_p
 simp
theorem down_ok (N n:Nat) (xs0:List Int) (z:Nat) (hz:z < xs0.length) (h12:xs0.length <= 12) (hn:20 < n) (hs:∀ (p q:Nat) a b,p < q -> q < z -> xs0[p]? = some a -> xs0[q]? = some b -> a <= b) :
  ∃ ys,ac (ab_l5 N 0) n ((z:Int),xs0) = some ys/\ys.length = xs0.length/\ys.Perm xs0/\∀ (p q:Nat) a b,p < q -> q < z + 1 -> ys[p]? = some a -> ys[q]? = some b -> a <= b:=by
 refine ap (B:=ab_l5 N 0) (fun s=>s.1.toNat) (fun (j,xs)=>∃ k:Nat,j = (k:Int)/\k <= z/\xs.length = xs0.length/\xs.Perm xs0/\(∀ (p q:Nat) a b,p < q -> q < z + 1 -> p ≠ k -> q ≠ k -> xs[p]? = some a -> xs[q]? = some b -> a <= b)/\(∀ (q:Nat) a b,k < q -> q < z + 1 -> xs[k]? = some a -> xs[q]? = some b -> a <= b))
  (fun ys=>ys.length = xs0.length/\ys.Perm xs0/\∀ (p q:Nat) a b,p < q -> q < z + 1 -> ys[p]? = some a -> ys[q]? = some b -> a <= b) (fun ⟨j,xs⟩ J hI hJ=>?_) n ((z:Int),xs0) ⟨z,rfl,Nat.le_refl _,rfl,List.Perm.refl _,fun p q a b h1 h2 h3 h4 h5 h6=>hs p q a b h1 (by omega) h5 h6,fun q a b h1 h2=>by omega⟩ (by simp only [Int.toNat_natCast]; omega)
 simp only at hI hJ
 obtain ⟨k,rfl,hk,hl,hp,h1,h2⟩:=hI
 unfold ab_l5
 simp only
 have whole:(∀ a b,0 < k -> xs[k - 1]? = some a -> xs[k]? = some b -> a <= b) -> ∀ (p q:Nat) a b,p < q -> q < z + 1 -> xs[p]? = some a -> xs[q]? = some b -> a <= b:=fun hkk p q a b hpq hq ha hb=>by
  by_cases hpk:p = k
  ·subst hpk; exact h2 q a b hpq hq ha hb
  ·by_cases hqk:q = k
   ·subst hqk
    have hkl:q < xs.length:=by omega
    by_cases hp1:p = q - 1
    ·subst hp1; exact hkk a b (by omega) ha hb
    ·have hm:xs[q - 1]? = some (xs[q - 1]'(by omega)):=geE _
     have e1:=h1 p (q - 1) a _ (by omega) (by omega) hpk (by omega) ha hm
     have e2:=hkk _ b (by omega) hm hb
     omega
   ·exact h1 p q a b hpq hq hpk hqk ha hb
 by_cases h0:(((0:Nat):Int)) < (k:Int)
 ·rw [if_pos h0]
  have hkl:k < xs.length:=by omega
  rw [aS,geE hkl]
  simp only [aa]
  rw [av (by omega)]
  simp only [aa]
  rw [show (k:Int) - 1 = ((k - 1:Nat):Int) by omega,aS,geE (show k - 1 < xs.length by omega)]
  simp only [aa]
  rw [less_eq]
  simp only [aa]
  by_cases hlt:xs[k] < xs[k - 1]
  ·rw [if_pos (decide_eq_true hlt),Int.toNat_natCast,cL _ (by omega) (by omega),Int.toNat_natCast]
   simp only [aa]
   rw [aS,geE (show k - 1 < (xs.set k xs[k - 1]).length by rw [List.length_set]; omega)]
   simp only [aa]
   rw [Int.toNat_natCast,cL _ (by omega) (by rw [List.length_set]; omega),Int.toNat_natCast]
   simp only [aa]
   have get:∀ (p:Nat),((xs.set k xs[k - 1]).set (k - 1) xs[k])[p]? = if p = k - 1 then some xs[k] else if p = k then some xs[k - 1] else xs[p]?:=fun p=>by
    rw [List.getElem?_set,List.getElem?_set]
    by_cases hp1:k - 1 = p
    ·rw [if_pos hp1,if_pos (show p = k - 1 from hp1.symm),if_pos (by rw [List.length_set]; omega)]
    ·rw [if_neg hp1,if_neg (show ¬ p = k - 1 from fun e=>hp1 e.symm)]
     by_cases hp2:k = p
     ·rw [if_pos hp2,if_pos (show p = k from hp2.symm),if_pos (by omega)]
     ·rw [if_neg hp2,if_neg (show ¬ p = k from fun e=>hp2 e.symm)]
   have hgk:xs[k]? = some xs[k]:=geE hkl
   have hgk1:xs[k - 1]? = some (xs[k - 1]'(by omega)):=geE (by omega)
   refine hJ _ ⟨k - 1,rfl,by omega,by simp only [List.length_set]; exact hl,?_,fun p q a b hpq hq hp1 hq1 ha hb=>?_,fun q a b hpq hq ha hb=>?_⟩ (by simp only [Int.toNat_natCast]; omega)
   ·exact (List.set_set_perm (by omega) (by omega)).trans hp
   ·simp only at ha hb
    rw [get,if_neg hp1] at ha
    rw [get,if_neg hq1] at hb
    by_cases hpk:p = k
    ·rw [if_pos hpk] at ha
     rw [if_neg (by omega)] at hb
     cases ha
     exact h1 (k - 1) q _ b (by omega) hq (by omega) (by omega) hgk1 hb
    ·rw [if_neg hpk] at ha
     by_cases hqk:q = k
     ·rw [if_pos hqk] at hb
      cases hb
      exact h1 p (k - 1) a _ (by omega) (by omega) hpk (by omega) ha hgk1
     ·rw [if_neg hqk] at hb
      exact h1 p q a b hpq hq hpk hqk ha hb
   ·simp only at ha hb
    rw [get,if_pos rfl] at ha
    cases ha
    rw [get,if_neg (by omega)] at hb
    by_cases hqk:q = k
    ·rw [if_pos hqk] at hb; cases hb; omega
    ·rw [if_neg hqk] at hb
     exact h2 q _ b (by omega) hq hgk hb
  ·rw [if_neg (by simp [hlt])]
   refine ⟨xs,rfl,hl,hp,whole fun a b _ ha hb=>?_⟩
   rw [geE (by omega)] at ha hb
   cases ha; cases hb
   omega
 ·rw [if_neg h0]
  exact ⟨xs,rfl,hl,hp,whole fun a b h=>by omega⟩
theorem sort_ok (N n:Nat) (xs0:List Int) (h12:xs0.length <= 12) (hn:20 < n) (hN:20 < N) :
  ∃ ys,ac (ab_l6 N xs0.length 0) n (1,xs0) = some ys/\ys.length = xs0.length/\ys.Perm xs0/\∀ (p q:Nat) a b,p < q -> ys[p]? = some a -> ys[q]? = some b -> a <= b:=by
 refine ap (B:=ab_l6 N xs0.length 0) (fun s=>13 - s.1.toNat) (fun (j,xs)=>∃ k:Nat,j = (k:Int)/\1 <= k/\(k <= xs0.length ∨ k = 1)/\xs.length = xs0.length/\xs.Perm xs0/\∀ (p q:Nat) a b,p < q -> q < k -> xs[p]? = some a -> xs[q]? = some b -> a <= b)
  (fun ys=>ys.length = xs0.length/\ys.Perm xs0/\∀ (p q:Nat) a b,p < q -> ys[p]? = some a -> ys[q]? = some b -> a <= b) (fun ⟨j,xs⟩ J hI hJ=>?_) n (1,xs0) ⟨1,rfl,by omega,.inr rfl,rfl,List.Perm.refl _,fun p q a b h1 h2=>by omega⟩ (by simp only; omega)
 simp only at hI hJ
 obtain ⟨k,rfl,h1,hk,hl,hp,h2⟩:=hI
 unfold ab_l6
 simp only [jn]
 by_cases hlt:(k:Int) < ((xs0.length:Nat):Int)
 ·rw [if_pos hlt]
  obtain ⟨ys,y1,y2,y3,y4⟩:=down_ok N N xs k (by omega) (by omega) hN h2
  rw [y1]
  simp only [aa]
  rw [av (by omega)]
  simp only [aa]
  exact hJ _ ⟨k + 1,by simp,by omega,.inl (by omega),by rw [y2]; exact hl,y3.trans hp,y4⟩ (by simp only; omega)
 ·rw [if_neg hlt]
  refine ⟨xs,rfl,hl,hp,fun p q a b hpq ha hb=>h2 p q a b hpq ?_ ha hb⟩
  have:=(List.getElem?_eq_some_iff.1 hb).1
  omega
end Go.Proofs.YtlleajifdbnbaaaGreatDoor
namespace Go.Proofs.YtlleajifdbnbaaaGreatDoor
open Go
theorem gG (n:Nat) (l:List Int) (h0:0 < l.length) (hl:l.length <= 10001) (hn:10002 < n):am_p n l = av_p n l:=by
 unfold av_p am_p
 obtain ⟨D,d1,d2⟩:=dn n n l (by omega)
 rw [d1]
 have e0:l[0]? = some (l[0]'h0):=geE _
 rw [e0]
 simp only [aa]
 obtain ⟨r,r1,r2,r3⟩:=fG n l D d2 (by omega) (by omega) l.length (l[0]'h0) [] 0 e0 (fun k _=>⟨Nat.zero_le _,by omega⟩) n (by omega)
 rw [show ([]:List Int) ++ [l[0]'h0] = [l[0]'h0] from rfl] at r1 r2
 rw [r1,r2]
theorem fx (g:Tb) (h:Valid g) (s:UInt64) (hs:bw g.fN s) (h0:s ≠ 0) (c:UInt64) (m:Nat):∀ (d z:Nat),z + d = low s ->
  ac (ab_l8 20000 g s) (m + d + 1) (shlU 1 (low s),(z:Int),[],c,10000) = ac (ab_l8 20000 g s) m (shlU 1 (low s),((low s + 1:Nat):Int),[],c,10000)/\
  ac (ae_l2 20000 g s) (m + d + 1) ([],0,10000,(z:Int),c) = ac (ae_l2 20000 g s) m ([],shlU 1 (low s),10000,((low s + 1:Nat):Int),c):=by
 have h64:=h.n64
 have hlb:=aW h0
 have hlN:=hs _ hlb
 intro d
 induction d with
 | zero=>
  intro z hz
  obtain rfl:z = low s:=by omega
  rw [Nat.add_zero]
  simp only [ay]
  generalize ac (ab_l8 20000 g s) m = J1
  generalize ac (ae_l2 20000 g s) m = J2
  unfold ab_l8 ae_l2
  simp only
  rw [if_pos hlN,if_pos hlN,aK (by omega),Int.toNat_natCast,cH 20000 s (by omega),cH 20000 0 (by omega),hlb,aB,av (by omega),hS 20000 (by omega)]
  simp only [aa]
  have hb:bit (s &&& ~~~shlU 1 (low s)) (low s) = false:=by rw [aQ,az (by omega)]; simp
  rw [if_pos ((ci _ _).2 hb),ifT,if_neg (by decide),ifT]
  exact ⟨by congr 1,by congr 1⟩
 | succ d ih=>
  intro z hz
  obtain ⟨i1,i2⟩:=ih (z + 1) (by omega)
  rw [show m + (d + 1) + 1 = (m + d + 1) + 1 by omega,ay,ay (B:=ae_l2 20000 g s),<- i1,<- i2]
  generalize ac (ab_l8 20000 g s) (m + d + 1) = J1
  generalize ac (ae_l2 20000 g s) (m + d + 1) = J2
  unfold ab_l8 ae_l2
  simp only
  have hsz:bit s z = false:=ft h0 (by omega)
  rw [if_pos (by omega),if_pos (by omega),aK (by omega),Int.toNat_natCast,cH 20000 s (by omega),hsz,av (by omega)]
  simp only [aa]
  have hb:bit (s &&& ~~~shlU 1 (low s)) z = false:=by rw [aQ,hsz]; rfl
  rw [if_pos ((ci _ _).2 hb),if_neg (by decide)]
  exact ⟨rfl,rfl⟩
theorem fH (g:Tb) (h:Valid g) (s:UInt64) (hs:bw g.fN s) (hJ:Joined g s):∀ (m:Nat) (done:UInt64) (z:Nat) (tP tR:List Int) (c:UInt64) (left:Int),(z:Int) <= g.fN -> g.fN.toNat - z < m ->
  (∀ k,bit done k = true -> bit s k = true) -> bit done (low s) = true -> tP.length + 1 <= (am done).length -> 0 <= left -> left <= 10000 -> tR.Perm tP -> Up tR ->
  ∃ r q,ac (ab_l8 20000 g s) m (done,(z:Int),tP,c,left) = some r/\ac (ae_l2 20000 g s) m (tR,done,left,(z:Int),c) = some q/\(r = .inl ([],⟨0⟩,9)/\q = .inl ([],⟨0⟩,9) ∨ ∃ tP' tR' c', r = .inr (tP', c')/\q = .inr (tR', c')/\tP'.length + 1 <= (am s).length/\tR'.Perm tP' /\Up tR'):=by
 have h1:=h.n1; have h64:=h.n64
 intro m
 induction m with
 | zero=>intro done z tP tR c left hz hm; omega
 | succ m ih=>
  intro done z tP tR c left hz hm i1 i2 i3 i4 i5 i6 i7
  have hdl:(am done).length <= (am s).length:=eJ i1
  have hsl:=aT s
  simp only [ay]
  generalize hJ1:ac (ab_l8 20000 g s) m = J1 at *
  generalize hJ2:ac (ae_l2 20000 g s) m = J2 at *
  unfold ab_l8 ae_l2
  simp only
  by_cases hzN:(z:Int) < g.fN
  ·rw [if_pos hzN,if_pos hzN,aK (by omega),Int.toNat_natCast,cH 20000 s (by omega),cH 20000 done (by omega),av (by omega)]
   simp only [aa]
   have next:((z:Int) + 1) = ((z + 1:Nat):Int):=by omega
   rw [next]
   by_cases hb:bit (s &&& ~~~done) z = true
   ·have hb' :=hb
    rw [aQ,Bool.and_eq_true,Bool.not_eq_true'] at hb'
    obtain ⟨hsz,hdz⟩:=hb'
    rw [if_neg (fun e=>by rw [(ci _ z).1 e] at hb; cases hb),hsz,hdz,gU,if_neg (by decide),if_neg (fun e=>by rw [e,aB] at i2; cases i2)]
    obtain ⟨mw,hway⟩:=hJ.way hsz (aW hJ.1)
    obtain ⟨r,w1,w2⟩:=fE 20000 g h (by decide) s done z c left.toNat (by omega) hs hsz (low s) mw i2 hway
    have wR:=fC g h s done left.toNat (by omega) z hzN c
    rw [w1] at wR
    rw [show ((left.toNat:Nat):Int) = left by omega] at w1 wR
    obtain ⟨sim1,sim2⟩:=l4_sim 20000 done g s 20000 (z:Int) [(z:Int)] c left
    rcases w2 with rfl | ⟨w,c', t,rfl,p1,p2,p3,p4,_⟩
    ·rw [sim1 _ w1,wR]
     exact ⟨_,_,rfl,rfl,.inl ⟨rfl,rfl⟩⟩
    ·obtain ⟨s1,s2,s3⟩:=sim2 _ _ w1
     rw [s2,wR]
     simp only [thn,aa]
     have hwl:0 < w.length:=by
      rcases Nat.eq_zero_or_pos w.length with h0 | h0
      ·rw [List.length_eq_zero_iff.1 h0] at p3; simp at p3
      ·exact h0
     obtain ⟨r,r1,r2⟩:=ea 20000 (w.map fun k:Nat=>(k:Int)) (by rw [List.length_map]; omega) (by decide) (by rw [List.length_map]; omega)
     rw [ifT,gG 20000 _ (by rw [List.length_map]; omega) (by rw [List.length_map]; omega) (by decide),r1,av (by rw [List.length_map]; omega)]
     simp only [aa]
     obtain ⟨q,rfl,hq⟩:=path_of p1 p3 p4 r2
     have hqs:q.length <= 64:=by
      have:=dE q 0 s hq.once (fun x hx=>⟨bI (hq.inside x hx),aB x,hq.inside x hx⟩) (fun k hk=>by rw [aB] at hk; cases hk)
      omega
     obtain ⟨done', es,n1,n2,n3,_⟩:=note_ok 20000 g h (by decide) q hqs (fun y hy=>hs y (hq.inside y hy)) hq.steps done tP (by omega)
     obtain ⟨tR', t1,t2,t3⟩:=gA g h q (fun y hy=>bI (hq.inside y hy)) 20000 0 done tP tR done' (tP ++ es) (by omega) (by omega) hqs i6 i7 n1
     rw [n1,t1]
     simp only [aa]
     have hd' : ∀ k,bit done' k = true -> bit s k = true:=fun k hk=>by
      rcases (n2 k).1 hk with hk | hk
      ·exact i1 k hk
      ·exact hq.inside k hk
     have hcard:(am done).length + (q.length - 1) <= (am done').length:=by
      have:=dE (q.take (q.length - 1)) done done' (hq.once.sublist (List.take_sublist _ _)) (fun x hx=>by
       obtain ⟨i,hi,rfl⟩:=List.getElem_of_mem hx
       simp only [List.length_take] at hi
       rw [List.getElem_take]
       have hi2:i < q.length:=by omega
       exact ⟨bI (hq.inside _ (List.getElem_mem hi2)),hq.away i _ (geE hi2) (by omega),(n2 _).2 (.inr (List.getElem_mem hi2))⟩) (fun k hk=>(n2 k).2 (.inl hk))
      simp only [List.length_take] at this
      omega
     have hleft:left - (((w.map fun k:Nat=>(k:Int)).length:Int) - (([(z:Int)]:List Int).length:Int)) = left - ((((w.map fun k:Nat=>(k:Int)).length:Nat):Int) - 1):=by simp
     rw [hleft]
     exact ih done' (z + 1) (tP ++ es) tR' c' (left - ((((w.map fun k:Nat=>(k:Int)).length:Nat):Int) - 1)) (by omega) (by omega) hd' ((n2 _).2 (.inl i2)) (by rw [List.length_append,n3]; omega)
      (by simp only [List.length_map]; omega) (by simp only [List.length_map]; omega) t2 t3
   ·have hb' : bit (s &&& ~~~done) z = false:=by
     cases hbb:bit (s &&& ~~~done) z with
     | false=>rfl
     | true=>exact absurd hbb hb
    rw [if_pos ((ci _ z).2 hb')]
    have go:=ih done (z + 1) tP tR c left (by omega) (by omega) i1 i2 i3 i4 i5 i6 i7
    cases hsz:bit s z with
    | false=>rw [if_neg (by simp)]; exact go
    | true=>
     have hdz:bit done z = true:=by
      rw [aQ,hsz] at hb'
      simpa using hb'
     rw [hdz,if_pos rfl,if_pos rfl]
     exact go
  ·rw [if_neg hzN,if_neg hzN]
   exact ⟨_,_,rfl,rfl,.inr ⟨tP,tR,c,rfl,rfl,by omega,i6,i7⟩⟩
end Go.Proofs.YtlleajifdbnbaaaGreatDoor
namespace Go.Proofs.YtlleajifdbnbaaaGreatDoor
open Go
/-! ### Drafted graphs -/
theorem cz {x y:Int} (h:y ≠ 0):bz x y = some (x.tmod y):=if_neg h
theorem quoI_ok {x y:Int} (h:y ≠ 0) (h1:-9223372036854775808 <= x.tdiv y) (h2:x.tdiv y <= 9223372036854775807):dq x y = some (x.tdiv y):=by unfold dq; rw [if_neg h,av ⟨h1,h2⟩]
theorem more_ok (n N:Nat) (d:Td) (s a b:Int) (hs:s ≠ 0) (q:Bool) (hn:10 < n):∃ q', ac (aa_l1 N d s a b) n (q,0) = some q' :=by
 obtain ⟨r,h1,_⟩:=ap (B:=aa_l1 N d s a b) (fun s=>3 - s.2) (fun s=>s.2 <= 3) (fun _=>True) (fun ⟨q,i⟩ J hi hJ=>by
  simp only at hi hJ
  unfold aa_l1
  simp only
  by_cases h1:i < d.fm.length
  ·rw [if_pos h1]
   by_cases h2:i < 3
   ·rw [if_pos h2,geE h1]
    simp only [aa]
    rw [cz hs]
    simp only [aa]
    rw [cz hs]
    simp only [aa]
    have go:∀ q', ∃ r,J (q', i + 1) = some r/\True:=fun q' =>hJ _ (by simp only; omega) (by simp only; omega)
    repeat' split
    all_goals exact go _
   ·rw [if_neg h2]; exact ⟨_,rfl,trivial⟩
  ·rw [if_neg h1]; exact ⟨_,rfl,trivial⟩) n (q,0) (by simp) (by simp only; omega)
 exact ⟨r,h1⟩
theorem more2:aa_l2 = aa_l1:=rfl
theorem more3:aa_l3 = aa_l1:=rfl
theorem more4:aa_l4 = aa_l1:=rfl
set_option maxRecDepth 8000 in
theorem gm (n:Nat) (N:Nat) (d:Td) (a b:Nat) (z:Int) (xs:List (Int × Int)) (J:Int × Int × (List (Int × Int)) -> Option (Int × (List (Int × Int)))) (hn:10 < n) (hab:a < b) (hbN:b < N) (hN:N <= 12) (hz0:0 <= z) (hz:z <= 1000) (hxs:xs.length <= 1000) :
  ∃ z' xs', aa_l5 n (N:Int) (a:Int) d J (z,(b:Int),xs) = J (z', ((b + 1:Nat):Int),xs')/\z <= z' /\z' <= z + 1/\(xs' = xs ∨ xs' = xs ++ [((a:Int),(b:Int))]):=by
 have hs:(N:Int) ≠ 0:=by omega
 have hw:(d.fj % (4:UInt8)).toNat < 4:=by rw [UInt8.toNat_mod]; exact Nat.mod_lt _ (by decide)
 have fin:∀ (q:Bool) (z' : Int),z <= z' -> z' <= z + 1 -> ∃ z'' xs', ((ac (aa_l1 n d (N:Int) (a:Int) (b:Int)) n (q,0)).bind fun q' =>(if q' = true then (app xs ([((a:Int),(b:Int))]:List (Int × Int))).bind fun xs1=>(chk ((b:Int) + 1)).bind fun s=>J (z', s,xs1) else (chk ((b:Int) + 1)).bind fun s=>J (z', s,xs))) = J (z'', ((b + 1:Nat):Int),xs')/\z <= z'' /\z'' <= z + 1/\(xs' = xs ∨ xs' = xs ++ [((a:Int),(b:Int))]):=by
  intro q z' h1 h2
  obtain ⟨q', e⟩:=more_ok n n d (N:Int) (a:Int) (b:Int) hs q hn
  rw [e]
  simp only [aa]
  rw [av (by omega),aR (by simp only [List.length_singleton]; omega)]
  simp only [aa]
  cases q' with
  | true=>rw [if_pos rfl]; exact ⟨z', _,rfl,h1,h2,.inr rfl⟩
  | false=>rw [if_neg (by simp)]; exact ⟨z', _,rfl,h1,h2,.inl rfl⟩
 unfold aa_l5
 simp only [jn,more2,more3,more4]
 have t1:z.tmod 2 = z % 2:=Int.tmod_eq_emod_of_nonneg hz0
 have t2:z.tdiv 2 = z / 2:=Int.tdiv_eq_ediv_of_nonneg hz0
 have t3:(z / 2).tmod 16 = (z / 2) % 16:=Int.tmod_eq_emod_of_nonneg (by omega)
 rw [if_pos (by omega),av (by omega)]
 simp only [aa]
 rw [cz (show (2:Int) ≠ 0 by decide),quoI_ok (show (2:Int) ≠ 0 by decide) (by omega) (by omega)]
 simp only [aa]
 rw [cz (show (16:Int) ≠ 0 by decide),av (show -9223372036854775808 <= z + 1/\z + 1 <= 9223372036854775807 by omega),av (show -9223372036854775808 <= (a:Int) + 1/\(a:Int) + 1 <= 9223372036854775807 by omega),cz (show (((1 + ((d.fj % (4:UInt8)).toNat):Nat):Int)) ≠ 0 by omega)]
 simp only [aa]
 repeat' split
 all_goals refine fin _ _ ?_ ?_ <;> omega
def Ahead (xs:List (Int × Int)) (N a b:Nat):Prop:=(∀ e ∈ xs,0 <= e.1/\e.1 < e.2/\e.2 < (N:Int)/\Lex e ((a:Int),(b:Int)))/\∀ (i:Nat) (e f:Int × Int),xs[i]? = some e -> xs[i + 1]? = some f -> Lex e f
theorem Ahead.more {xs:List (Int × Int)} {N a b:Nat} (h:Ahead xs N a b) (hab:a < b) (hb:b < N):Ahead (xs ++ [((a:Int),(b:Int))]) N a (b + 1):=by
 refine ⟨fun e he=>?_,fun i e f he hf=>?_⟩
 ·rcases List.mem_append.1 he with he | he
  ·obtain ⟨h1,h2,h3,h4⟩:=h.1 e he
   refine ⟨h1,h2,h3,?_⟩
   unfold Lex at h4 ⊢
   simp only at h4 ⊢
   omega
  ·rcases List.mem_singleton.1 he with rfl
   exact ⟨by simp,by simp only; omega,by simp only; omega,.inr ⟨rfl,by simp only; omega⟩⟩
 ·have hi:=(List.getElem?_eq_some_iff.1 hf).1
  simp only [List.length_append,List.length_singleton] at hi
  rw [List.getElem?_append_left (by omega)] at he
  by_cases hl:i + 1 < xs.length
  ·rw [List.getElem?_append_left hl] at hf
   exact h.2 i e f he hf
  ·rw [List.getElem?_append_right (by omega),show i + 1 - xs.length = 0 by omega] at hf
   cases hf
   exact (h.1 e (List.mem_of_getElem? he)).2.2.2
theorem Ahead.next {xs:List (Int × Int)} {N a b a' b' : Nat} (h:Ahead xs N a b) (hl:a < a' ∨ a = a' /\b <= b'):Ahead xs N a' b' :=by
 refine ⟨fun e he=>?_,h.2⟩
 obtain ⟨h1,h2,h3,h4⟩:=h.1 e he
 refine ⟨h1,h2,h3,?_⟩
 unfold Lex at h4 ⊢
 simp only at h4 ⊢
 omega
theorem Ahead.nil {N a b:Nat}:Ahead [] N a b:=by
 refine ⟨fun e he=>?_,fun i e f he=>?_⟩
 ·cases he
 ·simp at he
theorem ij (n:Nat) (d:Td) (hn:300 < n):∃ g,aa_p n d = some g/\Valid g/\g.fN <= 12:=by
 unfold aa_p
 have hw:(d.fj % (4:UInt8)).toNat < 4:=by rw [UInt8.toNat_mod]; exact Nat.mod_lt _ (by decide)
 have hh:(d.fl % (3:UInt8)).toNat < 3:=by rw [UInt8.toNat_mod]; exact Nat.mod_lt _ (by decide)
 generalize (d.fj % (4:UInt8)).toNat = w at *
 generalize (d.fl % (3:UInt8)).toNat = h at *
 obtain ⟨N,hN,hN1,hN12⟩:∃ N:Nat,(((1 + w:Nat):Int) * ((1 + h:Nat):Int)) = (N:Int)/\1 <= N/\N <= 12:=by
  refine ⟨(1 + w) * (1 + h),by rw [Int.natCast_mul],Nat.mul_pos (by omega) (by omega),?_⟩
  have:(1 + w) * (1 + h) <= 4 * 3:=Nat.mul_le_mul (by omega) (by omega)
  omega
 rw [hN,av (by omega)]
 simp only [aa]
 obtain ⟨xs,e1,e2,e3⟩:=ap (B:=aa_l6 n (N:Int) d) (fun (_,a,_)=>N - a.toNat) (fun (z,a,xs)=>∃ k:Nat,a = (k:Int)/\k <= N/\0 <= z/\z <= 12 * k/\xs.length <= 12 * k/\Ahead xs N k k) (fun xs=>xs.length <= 144/\Ahead xs N N N) (fun ⟨z,a,xs⟩ J hI hJ=>by
  simp only at hI hJ
  obtain ⟨a,rfl,h1,h2,h3,h4,h5⟩:=hI
  unfold aa_l6
  simp only
  by_cases ha:(a:Int) < N
  ·rw [if_pos ha,av (by omega)]
   simp only [aa]
   obtain ⟨⟨z', xs'⟩,f1,f2,f3,f4,f5⟩:=ap (B:=aa_l5 n (N:Int) (a:Int) d) (fun (_,b,_)=>N - b.toNat) (fun (z,b,xs)=>∃ k:Nat,b = (k:Int)/\a < k/\k <= N/\0 <= z/\z <= 12 * a + k/\xs.length <= 12 * a + k/\Ahead xs N a k) (fun (z,xs)=>0 <= z/\z <= 12 * (a + 1)/\xs.length <= 12 * (a + 1)/\Ahead xs N a N) (fun ⟨z,b,xs⟩ J hI hJ=>by
    simp only at hI hJ
    obtain ⟨b,rfl,g1,g2,g3,g4,g5,g6⟩:=hI
    by_cases hb:b < N
    ·obtain ⟨z', xs', p1,p2,p3,p4⟩:=gm n N d a b z xs J (by omega) g1 hb hN12 g3 (by omega) (by omega)
     rw [p1]
     refine hJ _ ⟨b + 1,rfl,by omega,by omega,show 0 <= z' by omega,show z' <= 12 * (a:Int) + ((b + 1:Nat):Int) by omega,?_,?_⟩ (by simp only [Int.toNat_natCast]; omega)
     ·show xs'.length <= 12 * a + (b + 1)
      rcases p4 with rfl | rfl
      ·omega
      ·simp only [List.length_append,List.length_singleton]; omega
     ·show Ahead xs' N a (b + 1)
      rcases p4 with rfl | rfl
      ·exact g6.next (.inr ⟨rfl,by omega⟩)
      ·exact g6.more g1 hb
    ·unfold aa_l5
     simp only
     rw [if_neg (by omega)]
     have:b = N:=by omega
     subst this
     exact ⟨_,rfl,g3,by simp only; omega,by simp only; omega,g6⟩) n (z,(a:Int) + 1,xs) ⟨a + 1,by simp,by omega,by omega,h2,by omega,by omega,h5.next (.inr ⟨rfl,by omega⟩)⟩ (by simp only; omega)
   rw [f1]
   simp only [aa]
   exact hJ _ ⟨a + 1,by simp,by omega,f2,show z' <= 12 * ((a + 1:Nat):Int) by omega,show xs'.length <= 12 * (a + 1) by omega,f5.next (.inl (by omega))⟩ (by simp only; omega)
  ·rw [if_neg ha]
   have:a = N:=by omega
   subst this
   exact ⟨_,rfl,by omega,h5⟩) n (0,0,[]) ⟨0,rfl,by omega,by omega,by omega,by simp,Ahead.nil⟩ (by simp only; omega)
 rw [e1]
 refine ⟨_,rfl,⟨by simp only; omega,by simp only; omega,by simp only; omega,fun e he=>?_,e3.2⟩,by simp only; omega⟩
 obtain ⟨h1,h2,h3,_⟩:=e3.1 e he
 exact ⟨h1,h2,h3⟩
end Go.Proofs.YtlleajifdbnbaaaGreatDoor
namespace Go.Proofs.YtlleajifdbnbaaaGreatDoor
open Go
theorem gK (n:Nat) (xs:List (Int × Int)) (h:xs.length <= 1000):aQ_p n xs = some xs:=by
 unfold aQ_p
 rw [aR (by simp only [leN]; omega)]
 simp only [aa,List.nil_append]
 unfold bZ
 cases xs with
 | nil=>rfl
 | cons x xs=>rfl
theorem bend_ok (n:Nat) (b:TBend) (g:Tb) (h:Valid g) (u:UInt64):∃ h' u', bj_p n b g u = some (h', u')/\(h'.fN = g.fN ∨ u' = u):=by
 have hlen:=h.len
 unfold bj_p bb_p
 rw [gK n _ (by omega)]
 simp only [aa]
 by_cases h0:(b.fWhat % (6:UInt8)).toNat = 0
 ·rw [if_pos h0]; exact ⟨_,_,rfl,.inr rfl⟩
 rw [if_neg h0]
 by_cases h1:(b.fWhat % (6:UInt8)).toNat = 1
 ·rw [if_pos h1]
  by_cases hl:0 < g.fh.length
  ·rw [if_pos hl]
   have hk:(ae ((g.fh.length:Nat):Int)).toNat = g.fh.length:=u64k (by omega)
   have hk0:ae ((g.fh.length:Nat):Int) ≠ 0:=fun e=>by rw [e] at hk; simp at hk; omega
   have hr:cY (ae b.fN) (ae ((g.fh.length:Nat):Int)) = some (ae b.fN % ae ((g.fh.length:Nat):Int)):=if_neg hk0
   rw [hr]
   simp only [aa]
   have hm:(ae b.fN % ae ((g.fh.length:Nat):Int)).toNat < g.fh.length:=by
    rw [UInt64.toNat_mod,hk]
    exact Nat.mod_lt _ hl
   generalize ae b.fN % ae ((g.fh.length:Nat):Int) = t at *
   rw [cX (by omega),aS,geE hm]
   simp only [aa,Int.toNat_natCast]
   rw [cL _ (by omega) (by omega)]
   simp only [aa,Int.toNat_natCast]
   rw [aS,geE (by simp only [List.length_set]; omega)]
   simp only [aa]
   rw [cL _ (by omega) (by simp only [List.length_set]; omega)]
   simp only [aa]
   exact ⟨_,_,rfl,.inl rfl⟩
  ·rw [if_neg hl]; exact ⟨_,_,rfl,.inl rfl⟩
 rw [if_neg h1]
 by_cases h2:(b.fWhat % (6:UInt8)).toNat = 2
 ·rw [if_pos h2]; exact ⟨_,_,rfl,.inl rfl⟩
 rw [if_neg h2]
 by_cases h3:(b.fWhat % (6:UInt8)).toNat = 3
 ·rw [if_pos h3]; exact ⟨_,_,rfl,.inl rfl⟩
 rw [if_neg h3]
 exact ⟨_,_,rfl,.inl rfl⟩
end Go.Proofs.YtlleajifdbnbaaaGreatDoor
namespace Go.Proofs.YtlleajifdbnbaaaGreatDoor
open Go
theorem lens64 (n:Nat) (k:Nat):∃ y,bv_p n (ae ((k:Nat):Int)) = some y:=by
 unfold bv_p
 rw [ib]
 exact ⟨_,rfl⟩
theorem card12 (s:UInt64) (h:∀ k,bit s k = true -> k < 12):(am s).length <= 12:=by
 unfold am
 rw [cD (N:=12) (M:=64) (by omega) h]
 exact Nat.le_trans (List.length_filter_le _ _) (by simp)
theorem cg (g:Tb) (s:UInt64) (c:Ta) (h12:bw g.fN s -> ∀ k,bit s k = true -> k < 12):∃ r,ab_p 20000 g s c = some r/\ae_p 20000 g s c = some r/\r.1.length <= 12:=by
 obtain ⟨y,y1,y2⟩:=eX 20000 g (by decide)
 obtain ⟨z,z1,z2⟩:=fittedR 20000 g s (by decide)
 unfold ab_p ae_p
 rw [y1,z1]
 simp only [aa]
 rcases y2 with ⟨rfl,hv⟩ | ⟨rfl,hv⟩
 ·have h1:=hv.n1; have h64:=hv.n64
  rw [if_pos (show (0:Int) = 0 from rfl)]
  by_cases h0:s = 0
  ·have hs:bw g.fN s:=fun k hk=>by rw [h0,aB] at hk; cases hk
   have ez:z = 0:=by
    rcases z2 with ⟨h,_⟩ | ⟨_,_,h⟩ | ⟨_,h⟩
    ·exact h
    ·exact absurd hs h
    ·exact absurd hv h
   subst ez
   rw [if_pos h0,if_pos (show (0:Int) = 0 from rfl),if_pos h0]
   exact ⟨_,rfl,rfl,by simp⟩
  ·rw [if_neg h0]
   obtain ⟨b1,f1,f2⟩:=fits_p 20000 g s (by omega)
   rw [f1]
   simp only [aa]
   by_cases hs:bw g.fN s
   ·have ez:z = 0:=by
     rcases z2 with ⟨h,_⟩ | ⟨_,_,h⟩ | ⟨_,h⟩
     ·exact h
     ·exact absurd hs h
     ·exact absurd hv h
    subst ez
    have:b1 = true:=f2.2 hs
    subst this
    rw [gU,if_pos (show (0:Int) = 0 from rfl),if_neg h0]
    obtain ⟨b,c1,c2⟩:=ew 20000 g hv (by decide) s hs
    obtain ⟨b', c3,c4⟩:=gB 20000 g hv (by decide) s hs
    rw [c1,c3]
    simp only [aa]
    by_cases hJ:Joined g s
    ·have:b = true:=c2.2 hJ
     subst this
     have:b' = true:=c4.2 hJ
     subst this
     rw [gU,gU,cO h0]
     have hlb:=aW h0
     have hlow:=hs _ hlb
     have hone:(am (shlU 1 (low s))).length = 1:=by
      have e:shlU 1 (low s) ≠ 0:=fun e=>by
       have:=az (k:=low s) (j:=low s) (by omega)
       rw [e,aB] at this
       simp at this
      have hl:low (shlU 1 (low s)) = low s:=by
       have:=aW e
       rw [az (by omega),decide_eq_true_eq] at this
       exact this
      rw [bG e,hl]
      have:shlU 1 (low s) &&& (shlU 1 (low s) - 1) = 0:=by
       apply ei
       intro k
       rw [eE e,hl,az (by omega),aB]
       cases hk:decide (k = low s) with
       | false=>rfl
       | true=>simp at hk; simp [hk]
      rw [this,cv]
      rfl
     obtain ⟨st1,st2⟩:=fx g hv s hs h0 c.fc (20000 - low s - 1) (low s) 0 (by omega)
     rw [show 20000 - low s - 1 + low s + 1 = 20000 by omega,show ((0:Nat):Int) = 0 from rfl] at st1 st2
     rw [st1,st2]
     obtain ⟨r,q,d1,d2,d3⟩:=fH g hv s hs hJ (20000 - low s - 1) (shlU 1 (low s)) (low s + 1) [] [] c.fc 10000 (by omega) (by omega) (fun k hk=>by
      rw [az (by omega),decide_eq_true_eq] at hk
      subst hk; exact hlb) (by rw [az (by omega)]; simp) (by rw [hone]; simp) (by omega) (by omega) (List.Perm.refl _) List.Pairwise.nil
     rw [d1,d2]
     rcases d3 with ⟨rfl,rfl⟩ | ⟨tP,tR,c', rfl,rfl,t1,t2,t3⟩
     ·simp only [thn]
      exact ⟨_,rfl,rfl,by simp⟩
     ·simp only [thn]
      have h12' :=card12 s (h12 hs)
      obtain ⟨y,y1⟩:=lens64 20000 tP.length
      rw [y1]
      simp only [aa]
      obtain ⟨ys,v1,v2,v3,v4⟩:=sort_ok 20000 20000 tP (by omega) (by omega) (by omega)
      have hup:ys.Pairwise (· <= ·):=List.pairwise_iff_getElem.2 fun i j hi hj hij=>v4 i j _ _ hij (geE hi) (geE hj)
      have hys:ys = tR:=List.Perm.eq_of_pairwise (fun a b _ _ h1 h2=>by omega) hup t3 (v3.trans t2.symm)
      rw [ay (n:=19999)]
      generalize ac (ab_l7 20000 tP c') 19999 = J
      unfold ab_l7
      simp only
      rw [av (by omega)]
      simp only [aa]
      rw [if_pos (by omega),av (by omega)]
      simp only [aa]
      have e:((((0:Nat):Int)) + 1) = 1:=by omega
      rw [e,v1,hys]
      refine ⟨(tR,⟨c'⟩,0),rfl,rfl,?_⟩
      have:=t2.length_eq
      simp only
      omega
    ·have:b = false:=by cases b with
      | false=>rfl
      | true=>exact absurd (c2.1 rfl) hJ
     subst this
     have:b' = false:=by cases b' with
      | false=>rfl
      | true=>exact absurd (c4.1 rfl) hJ
     subst this
     rw [if_neg (by decide),if_neg (by decide)]
     exact ⟨_,rfl,rfl,by simp⟩
   ·have ez:z = 2:=by
     rcases z2 with ⟨_,_,h⟩ | ⟨h,_⟩ | ⟨_,h⟩
     ·exact absurd h hs
     ·exact h
     ·exact absurd hv h
    subst ez
    have:b1 = false:=by cases b1 with
     | false=>rfl
     | true=>exact absurd (f2.1 rfl) hs
    subst this
    rw [if_neg (by decide),if_neg (by decide)]
    exact ⟨_,rfl,rfl,by simp⟩
 ·have ez:z = 180:=by
   rcases z2 with ⟨_,h,_⟩ | ⟨_,h,_⟩ | ⟨h,_⟩
   ·exact absurd h hv
   ·exact absurd h hv
   ·exact h
  subst ez
  rw [if_neg (by decide),if_neg (by decide)]
  exact ⟨_,rfl,rfl,by simp⟩
theorem dJ (a0:Td) (a1:TBend) (a2:UInt64) (a3:Ta):∃ n,aT_p n a0 a1 a2 a3 = some true:=by
 refine ⟨20000,?_⟩
 unfold aT_p
 rw [fA]
 simp only [aa]
 rw [ifT]
 obtain ⟨g,g1,g2,g3⟩:=ij 20000 a0 (by omega)
 rw [g1]
 simp only [aa]
 have h1:=g2.n1
 rw [aK (by omega)]
 simp only [aa]
 obtain ⟨N,hN⟩:∃ N:Nat,g.fN = N:=⟨g.fN.toNat,by omega⟩
 have hNt:g.fN.toNat = N:=by omega
 rw [hNt]
 have hin:∀ u:UInt64,∀ k,bit (u &&& (shlU 1 N - 1)) k = true -> k < 12:=fun u k hk=>by have:=gV (by omega) u k hk; omega
 obtain ⟨h,s,b1,b2⟩:=bend_ok 20000 a1 g g2 (a2 &&& ((shlU (1:UInt64) N) - (1:UInt64)))
 rw [b1]
 simp only [aa]
 obtain ⟨r,p1,p2,p3⟩:=cg g (a2 &&& ((shlU (1:UInt64) N) - (1:UInt64))) a3 (fun _=>hin a2)
 rw [p1]
 simp only [aa]
 rw [p2]
 simp only [aa]
 rw [bK 20000 r.1 (by omega)]
 simp only [aa]
 rw [ifT,ifT,ifT]
 obtain ⟨r,p1,p2,p3⟩:=cg g ((shlU (1:UInt64) N) - (1:UInt64)) a3 (fun hf k hk=>by have:=hf k hk; omega)
 rw [p1]
 simp only [aa]
 rw [p2]
 simp only [aa]
 rw [bK 20000 r.1 (by omega)]
 simp only [aa]
 rw [ifT,ifT,ifT]
 obtain ⟨r,p1,p2,p3⟩:=cg g a2 a3 (fun hf k hk=>by have:=hf k hk; omega)
 rw [p1]
 simp only [aa]
 rw [p2]
 simp only [aa]
 rw [bK 20000 r.1 (by omega)]
 simp only [aa]
 rw [ifT,ifT,ifT]
 obtain ⟨r,p1,p2,p3⟩:=cg h s a3 (fun hf k hk=>by
  rcases b2 with b2 | b2
  ·have:=hf k hk; omega
  ·rw [b2] at hk; exact hin a2 k hk)
 rw [p1]
 simp only [aa]
 rw [p2]
 simp only [aa]
 rw [bK 20000 r.1 (by omega)]
 simp only [aa]
 rw [ifT,ifT,ifT]
end Go.Proofs.YtlleajifdbnbaaaGreatDoor
