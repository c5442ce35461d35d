/- Plain laws: loops, maps, the last places. No program in sight but the printed functions. -/
import Derived.Test.YtlleajifdbnbaaaGreatDoorPF6
import Derived.Test.YtlleajifdbnbaaaGreatDoorPMj
import Derived.Lib.TrailingZeros
namespace Go.Proofs.YtlleajifdbnbaaaGreatDoor
open Go
theorem aa {α β:Type} (x:α) (f:α -> Option β):(some x).bind f = f x:=Eq.trans (Eq.refl _) (Eq.refl _)
theorem bG {α β:Type} (B:(α -> Option β) -> α -> Option β) (n:Nat) (s:α):ae B (n + 1) s = B (ae B n) s:=rfl
theorem aw {α β:Type} {B:(α -> Option β) -> α -> Option β} (m:α -> Nat) (I:α -> Prop) (Q:β -> Prop)
  (step:∀ s J,I s -> (∀ s', I s' -> m s' < m s -> ∃ r,J s' = some r/\Q r) -> ∃ r,B J s = some r/\Q r):∀ n s,I s -> m s < n -> ∃ r,ae B n s = some r/\Q r:=by
 intro n
 induction n with
 | zero=>intro s _ h; omega
 | succ n ih=>intro s hI h; exact step s (ae B n) hI fun s' h1 h2=>ih s' h1 (by omega)
end Go.Proofs.YtlleajifdbnbaaaGreatDoor
namespace Go.Proofs.YtlleajifdbnbaaaGreatDoor
open Go
theorem eV:a8_p 20000 = some true:=by kernel_rfl
theorem ifT {α:Type} (x y:α):(if True then x else y) = x:=if_pos trivial
theorem ck (n:Nat) (l:List Int) (h:l.length < n):ae_p n l l = some true:=by
 unfold ae_p
 rw [if_pos rfl]
 obtain ⟨r,h1,h2⟩:=aw (B:=ae_l1 n l l) (fun i=>l.length - i) (fun i=>i <= l.length) (fun r=>r = .inr ()) (fun i J hi hJ=>by
  unfold ae_l1
  simp only
  by_cases hl:i < l.length
  ·rw [if_pos hl,geE hl]
   simp only [aa]
   rw [ifT]
   exact hJ (i + 1) (by omega) (by omega)
  ·rw [if_neg hl]; exact ⟨_,rfl,rfl⟩) n 0 (by omega) (by omega)
 rw [h1,h2]
 rfl
end Go.Proofs.YtlleajifdbnbaaaGreatDoor
namespace Go.Proofs.YtlleajifdbnbaaaGreatDoor
open Go
def bit (u:UInt64) (k:Nat):Bool:=u.toNat.testBit k
theorem cU {u:UInt64} {k:Nat} (h:64 <= k):bit u k = false:=by
 unfold bit
 apply Nat.testBit_lt_two_pow
 exact Nat.lt_of_lt_of_le (aA u) (Nat.pow_le_pow_right (by decide) h:2 ^ 64 <= 2 ^ k)
theorem dB {u:UInt64} {k:Nat} (h:bit u k = true):k < 64:=by
 rcases Nat.lt_or_ge k 64 with h1 | h1
 ·exact h1
 ·rw [cU h1] at h; cases h
theorem dT {u v:UInt64} (h:∀ k,bit u k = bit v k):u = v:=by
 apply UInt64.toNat_inj.1
 exact Nat.eq_of_testBit_eq h
theorem aI (k:Nat):bit 0 k = false:=by unfold bit; simp
theorem bj (u v:UInt64) (k:Nat):bit (u ||| v) k = (bit u k || bit v k):=by unfold bit; rw [UInt64.toNat_or,Nat.testBit_or]
theorem ba (u v:UInt64) (k:Nat):bit (u &&& v) k = (bit u k && bit v k):=by unfold bit; rw [UInt64.toNat_and,Nat.testBit_and]
theorem bit_not (v:UInt64) (k:Nat) (h:k < 64):bit (~~~v) k = !bit v k:=by
 unfold bit
 have e:(~~~v).toNat = 2 ^ 64 - (v.toNat + 1):=by
  have:=UInt64.toNat_not v
  rw [this]
  show 18446744073709551616 - 1 - v.toNat = 18446744073709551616 - (v.toNat + 1)
  omega
 rw [e,Nat.testBit_two_pow_sub_succ (aA v)]
 simp [h]
theorem fo (u v:UInt64) (k:Nat):bit (u &&& ~~~v) k = (bit u k && !bit v k):=by
 rw [ba]
 rcases Nat.lt_or_ge k 64 with h | h
 ·rw [bit_not _ _ h]
 ·rw [cU h,cU h]; rfl
theorem eN {k:Nat} (h:k < 64):(shlU 1 k).toNat = 2 ^ k:=by
 unfold shlU
 rw [if_pos h]
 rw [show (1:UInt64).toNat = 1 from rfl,Nat.one_mul]
 exact UInt64.toNat_ofNat_of_lt' (Nat.pow_lt_pow_right (by decide) h:2 ^ k < 2 ^ 64)
theorem aY {k j:Nat} (h:k < 64):bit (shlU 1 k) j = decide (j = k):=by
 unfold bit
 rw [eN h,Nat.testBit_two_pow]
 exact decide_eq_decide.2 eq_comm
theorem eL (u:UInt64) (k:Nat):shrU u k &&& 1 = if bit u k then 1 else 0:=by
 apply UInt64.toNat_inj.1
 rw [UInt64.toNat_and]
 unfold shrU
 rcases Nat.lt_or_ge k 64 with h | h
 ·rw [if_pos h]
  have hlt:u.toNat / 2 ^ k < 2 ^ 64:=Nat.lt_of_le_of_lt (Nat.div_le_self _ _) (aA u)
  rw [UInt64.toNat_ofNat_of_lt' hlt]
  show (u.toNat / 2 ^ k) &&& 1 = _
  rw [Nat.and_one_is_mod]
  unfold bit
  rw [Nat.testBit_eq_decide_div_mod_eq]
  rcases Nat.mod_two_eq_zero_or_one (u.toNat / 2 ^ k) with h1 | h1
  ·rw [h1]; rfl
  ·rw [h1]; rfl
 ·rw [if_neg (by omega),cU h]; rfl
theorem bn (u:UInt64) (k:Nat):(shrU u k &&& 1 = 1) ↔ bit u k = true:=by
 rw [eL]
 cases bit u k <;> simp
theorem cG (u:UInt64) (k:Nat):(shrU u k &&& 1 = 0) ↔ bit u k = false:=by
 rw [eL]
 cases bit u k <;> simp
theorem eC {u:UInt64} (h:u ≠ 0):∃ k,bit u k = true:=by
 apply Classical.byContradiction
 intro hn
 apply h
 apply dT
 intro k
 rw [aI]
 cases hk:bit u k with
 | false=>rfl
 | true=>exact absurd ⟨k,hk⟩ hn
def ap (u:UInt64):List Nat:=(List.range 64).filter (bit u ·)
theorem aR {u:UInt64} {k:Nat}:k ∈ ap u ↔ bit u k = true:=by
 unfold ap
 rw [List.mem_filter,List.mem_range]
 exact ⟨fun h=>h.2,fun h=>⟨dB h,h⟩⟩
theorem aW (u:UInt64):(ap u).length <= 64:=by
 unfold ap
 exact Nat.le_trans (List.length_filter_le _ _) (by simp)
theorem dm:ap 0 = []:=by
 unfold ap
 rw [List.filter_eq_nil_iff]
 intro k _
 rw [aI]; simp
def low (u:UInt64):Nat:=Lib.ctz 64 u.toNat
theorem df {u:UInt64} (h:u ≠ 0):∃ m,u.toNat = 2 ^ low u * (2 * m + 1)/\low u < 64:=by
 have h0:u.toNat ≠ 0:=fun e=>h (UInt64.toNat_inj.1 e)
 obtain ⟨m,h1,h2⟩:=Lib.ctzFrom_spec 64 u.toNat (by omega) (aA u)
 have e:low u = Lib.ctzFrom 64 u.toNat:=by simp [low,Lib.ctz,h0]
 rw [e]
 exact ⟨m,h1,h2⟩
theorem dC {t m i:Nat} {u:UInt64} (h:u.toNat = 2 ^ t * (2 * m + 1)):bit u i = (decide (t <= i) && (2 * m + 1).testBit (i - t)):=by
 unfold bit
 rw [h,Nat.mul_comm,Nat.testBit_mul_two_pow]
theorem dP {u:UInt64} (h:u ≠ 0):bit u (low u) = true:=by
 obtain ⟨m,h1,_⟩:=df h
 rw [dC h1,Nat.sub_self,Nat.testBit_zero]
 simp
theorem low_lt {u:UInt64} {k:Nat} (h:u ≠ 0) (hk:k < low u):bit u k = false:=by
 obtain ⟨m,h1,_⟩:=df h
 rw [dC h1]
 simp; omega
theorem fZ {u:UInt64} (h:u ≠ 0):u &&& (-u) = shlU 1 (low u):=by
 have h0:u.toNat ≠ 0:=fun e=>h (UInt64.toNat_inj.1 e)
 obtain ⟨h1,h2⟩:=Lib.lowest_bit 64 u.toNat h0 (aA u)
 apply UInt64.toNat_inj.1
 rw [UInt64.toNat_and,eN (show low u < 64 from h2)]
 have e:(-u).toNat = 2 ^ 64 - u.toNat:=by
  rw [UInt64.toNat_neg]
  have:=aA u
  show (18446744073709551616 - u.toNat) % 18446744073709551616 = 18446744073709551616 - u.toNat
  omega
 rw [e]
 exact h1
theorem gN {u:UInt64} (h:u ≠ 0) (k:Nat):bit (u &&& (u - 1)) k = (bit u k && decide (k ≠ low u)):=by
 obtain ⟨m,h1,h2⟩:=df h
 have e:(u - 1).toNat = u.toNat - 1:=by
  rw [UInt64.toNat_sub_of_le]
  ·rfl
  ·rw [UInt64.le_iff_toNat_le]
   have:u.toNat ≠ 0:=fun e=>h (UInt64.toNat_inj.1 e)
   show 1 <= _
   omega
 generalize ht:low u = t at *
 have hp:0 < 2 ^ t:=Nat.two_pow_pos t
 have e2:u.toNat - 1 = 2 ^ t * (2 * m) + (2 ^ t - 1):=by
  rw [h1,Nat.mul_add,Nat.mul_one]; omega
 have hb:(u - 1).toNat.testBit k = if k < t then true else (2 * m).testBit (k - t):=by
  rw [e,e2,Nat.testBit_two_pow_mul_add _ (by omega)]
  by_cases hk:k < t
  ·rw [if_pos hk,if_pos hk,Nat.testBit_two_pow_sub_one]; simp [hk]
  ·rw [if_neg hk,if_neg hk]
 rw [ba]
 show (bit u k && (u - 1).toNat.testBit k) = _
 rw [hb,dC h1]
 by_cases hk:k < t
 ·have:¬ t <= k:=by omega
  simp [this]
 ·rw [if_neg hk]
  by_cases hkt:k = t
  ·subst hkt; simp
  ·obtain ⟨j,rfl⟩:∃ j,k = t + (j + 1):=⟨k - t - 1,by omega⟩
   rw [show t + (j + 1) - t = j + 1 by omega,Nat.testBit_succ,Nat.testBit_succ]
   rw [show (2 * m + 1) / 2 = m by omega,show 2 * m / 2 = m by omega]
   have h3:t <= t + (j + 1):=by omega
   have h4:t + (j + 1) ≠ t:=by omega
   simp [h3]
theorem cx {p:Nat -> Bool}:∀ (l:List Nat) (t:Nat),l.Pairwise (· < ·) -> t ∈ l -> p t = true -> (∀ k,k < t -> p k = false) -> l.filter p = t :: l.filter (fun k=>p k && decide (k ≠ t))
 | [],t,_,h,_,_=>by cases h
 | x :: l,t,hp,hm,ht,hlow=>by
  have hx:=List.pairwise_cons.1 hp
  by_cases hxt:x = t
  ·subst hxt
   rw [List.filter_cons_of_pos ht,List.filter_cons_of_neg (by simp)]
   congr 1
   apply List.filter_congr
   intro k hk
   have:k ≠ x:=by have:=hx.1 k hk; omega
   simp [this]
  ·have hm' : t ∈ l:=(List.mem_cons.1 hm).resolve_left (fun e=>hxt e.symm)
   have hlt:=hx.1 t hm'
   have hpx:p x = false:=hlow x hlt
   rw [List.filter_cons_of_neg (by simp [hpx]),List.filter_cons_of_neg (by simp [hpx])]
   exact cx l t hx.2 hm' ht hlow
theorem bC {u:UInt64} (h:u ≠ 0):ap u = low u :: ap (u &&& (u - 1)):=by
 unfold ap
 rw [cx (List.range 64) (low u) List.pairwise_lt_range (List.mem_range.2 (dB (dP h))) (dP h) (fun k hk=>low_lt h hk)]
 congr 1
 apply List.filter_congr
 intro k _
 rw [gN h]
def bK (x:Nat):Nat:=if x = 0 then 0 else x.log2 + 1
theorem bE {x k:Nat}:bK x <= k ↔ x < 2 ^ k:=by
 unfold bK
 by_cases h:x = 0
 ·rw [if_pos h]; subst h; simp [Nat.two_pow_pos]
 ·rw [if_neg h,<- Nat.log2_lt h]; omega
theorem cg {x k:Nat} (h:2 ^ k <= x):bK x = bK (x / 2 ^ k) + k:=by
 have hp:0 < 2 ^ k:=Nat.two_pow_pos k
 have h0:0 < x / 2 ^ k:=Nat.div_pos h hp
 apply Nat.le_antisymm
 ·rw [bE,Nat.pow_add]
  have:=(bE (x:=x / 2 ^ k) (k:=bK (x / 2 ^ k))).1 (Nat.le_refl _)
  exact (Nat.div_lt_iff_lt_mul hp).1 this
 ·have h1:=(bE (x:=x) (k:=bK x)).1 (Nat.le_refl _)
  have h2:k <= bK x:=by
   rcases Nat.lt_or_ge (bK x) k with h3 | h3
   ·have:=(bE (x:=x) (k:=k)).1 (by omega); omega
   ·exact h3
  have h3:bK (x / 2 ^ k) <= bK x - k:=by
   rw [bE,Nat.div_lt_iff_lt_mul hp,<- Nat.pow_add,Nat.sub_add_cancel h2]
   exact h1
  omega
theorem eF {u:UInt64} {N:Nat}:u.toNat < 2 ^ N ↔ ∀ k,bit u k = true -> k < N:=by
 constructor
 ·intro h k hk
  rcases Nat.lt_or_ge k N with h1 | h1
  ·exact h1
  ·unfold bit at hk
   rw [Nat.testBit_lt_two_pow (Nat.lt_of_lt_of_le h (Nat.pow_le_pow_right (by decide) h1))] at hk
   cases hk
 ·intro h
  apply Nat.lt_pow_two_of_testBit
  intro k hk
  cases hb:u.toNat.testBit k with
  | false=>rfl
  | true=>have:=h k hb; omega
end Go.Proofs.YtlleajifdbnbaaaGreatDoor
namespace Go.Proofs.YtlleajifdbnbaaaGreatDoor
open Go
theorem tz_tab:∀ t,t < 64 -> tab0[(shrU (shlU 1 t * (285870213051353865:UInt64)) 58).toNat]? = some (UInt8.ofNat t):=by decide +kernel
theorem gE (n:Nat) {u:UInt64} (h:u ≠ 0):ai_p n u = some ((low u:Nat):Int):=by
 unfold ai_p
 have hl:low u < 64:=dB (dP h)
 rw [if_neg h,fZ h,tz_tab _ hl]
 simp only [aa]
 rw [UInt8.toNat_ofNat_of_lt' (by show _ < 256; omega)]
theorem len_tab:∀ x,x < 256 -> (bQ[x]?).map (·.toNat) = some (bK x):=by decide +kernel
theorem bo (u:UInt64) {k:Nat} (h:k < 64):(shrU u k).toNat = u.toNat / 2 ^ k:=by
 unfold shrU
 rw [if_pos h]
 exact UInt64.toNat_ofNat_of_lt' (Nat.lt_of_le_of_lt (Nat.div_le_self _ _) (aA u))
theorem eR {u:UInt64} (h:u.toNat < 256):(cL u).toNat = u.toNat:=by
 unfold cL
 first
  | exact UInt8.toNat_ofNat_of_lt' h
  | simp [Nat.mod_eq_of_lt h]
theorem len64 (n:Nat) (u:UInt64):aQ_p n u = some ((bK u.toNat:Nat):Int):=by
 have last:∀ (v:UInt64) (z:Nat),v.toNat < 256 -> z <= 56 -> ((bQ[(cL v).toNat]?).bind fun z27=>(chk (((z:Nat):Int) + ((z27.toNat:Nat):Int))).bind fun s29=>some s29) = some (((bK v.toNat + z:Nat)):Int):=fun v z hv hz=>by
  rw [eR hv]
  have:=len_tab v.toNat hv
  cases hs:bQ[v.toNat]? with
  | none=>rw [hs] at this; cases this
  | some b=>
   rw [hs] at this
   have hb:b.toNat = bK v.toNat:=Option.some.inj this
   simp only [aa]
   have hb8:bK v.toNat <= 8:=bE.2 hv
   rw [hb,aG (by omega)]
   simp only [aa]
   congr 1
   omega
 have mid:∀ (v:UInt64) (z:Nat),v.toNat < 65536 -> z <= 48 -> (if (256:UInt64) <= v then (chk (((z:Nat):Int) + 8)).bind fun s31=>(bQ[(cL (shrU v 8)).toNat]?).bind fun z27=>(chk (s31 + ((z27.toNat:Nat):Int))).bind fun s29=>some s29 else (bQ[(cL v).toNat]?).bind fun z27=>(chk (((z:Nat):Int) + ((z27.toNat:Nat):Int))).bind fun s29=>some s29) = some (((bK v.toNat + z:Nat)):Int):=fun v z hv hz=>by
  by_cases h:(256:UInt64) <= v
  ·rw [if_pos h,aG (by omega)]
   simp only [aa]
   have h' : 2 ^ 8 <= v.toNat:=UInt64.le_iff_toNat_le.1 h
   have hs:=bo v (show 8 < 64 by omega)
   have:=last (shrU v 8) (z + 8) (by rw [hs]; omega) (by omega)
   rw [show (((z:Nat):Int) + 8) = ((z + 8:Nat):Int) by omega,this,hs,cg h']
   congr 1
   omega
  ·rw [if_neg h]
   have h' : ¬ 256 <= v.toNat:=fun e=>h (UInt64.le_iff_toNat_le.2 e)
   exact last v z (by omega) (by omega)
 have mid2:∀ (v:UInt64) (z:Nat),v.toNat < 4294967296 -> z <= 32 -> (if (65536:UInt64) <= v then (chk (((z:Nat):Int) + 16)).bind fun s33=>(if (256:UInt64) <= (shrU v 16) then (chk (s33 + 8)).bind fun s31=>(bQ[(cL (shrU (shrU v 16) 8)).toNat]?).bind fun z27=>(chk (s31 + ((z27.toNat:Nat):Int))).bind fun s29=>some s29 else (bQ[(cL (shrU v 16)).toNat]?).bind fun z27=>(chk (s33 + ((z27.toNat:Nat):Int))).bind fun s29=>some s29) else (if (256:UInt64) <= v then (chk (((z:Nat):Int) + 8)).bind fun s31=>(bQ[(cL (shrU v 8)).toNat]?).bind fun z27=>(chk (s31 + ((z27.toNat:Nat):Int))).bind fun s29=>some s29 else (bQ[(cL v).toNat]?).bind fun z27=>(chk (((z:Nat):Int) + ((z27.toNat:Nat):Int))).bind fun s29=>some s29)) = some (((bK v.toNat + z:Nat)):Int):=fun v z hv hz=>by
  by_cases h:(65536:UInt64) <= v
  ·rw [if_pos h,aG (by omega)]
   simp only [aa]
   have h' : 2 ^ 16 <= v.toNat:=UInt64.le_iff_toNat_le.1 h
   have hs:=bo v (show 16 < 64 by omega)
   have:=mid (shrU v 16) (z + 16) (by rw [hs]; omega) (by omega)
   rw [show (((z:Nat):Int) + 16) = ((z + 16:Nat):Int) by omega,this,hs,cg h']
   congr 1
   omega
  ·rw [if_neg h]
   have h' : ¬ 65536 <= v.toNat:=fun e=>h (UInt64.le_iff_toNat_le.2 e)
   exact mid v z (by omega) (by omega)
 unfold aQ_p
 simp only [jn]
 have hu:=aA u
 by_cases h:(4294967296:UInt64) <= u
 ·rw [if_pos h]
  have h' : 2 ^ 32 <= u.toNat:=UInt64.le_iff_toNat_le.1 h
  have hs:=bo u (show 32 < 64 by omega)
  have:=mid2 (shrU u 32) 32 (by rw [hs]; omega) (by omega)
  rw [hs,<- cg h'] at this
  exact this
 ·rw [if_neg h]
  have h' : ¬ 4294967296 <= u.toNat:=fun e=>h (UInt64.le_iff_toNat_le.2 e)
  exact mid2 u 0 (by omega) (by omega)
def bu (N:Int) (u:UInt64):Prop:=∀ k,bit u k = true -> (k:Int) < N
theorem cI {N:Int} {u:UInt64} (h:0 <= N):((bK u.toNat:Nat):Int) <= N ↔ bu N u:=by
 obtain ⟨m,rfl⟩:∃ m:Nat,N = m:=⟨N.toNat,by omega⟩
 rw [Int.ofNat_le,bE,eF]
 unfold bu
 exact ⟨fun h k hk=>by have:=h k hk; omega,fun h k hk=>by have:=h k hk; omega⟩
def Lex (a b:Int × Int):Prop:=a.1 < b.1 ∨ a.1 = b.1/\a.2 < b.2
structure Valid (g:Tb):Prop where
 n1:1 <= g.fN
 n64:g.fN <= 64
 len:g.fh.length <= 200
 ok:∀ e ∈ g.fh,0 <= e.1/\e.1 < e.2/\e.2 < g.fN
 sorted:∀ (i:Nat) (e f:Int × Int),g.fh[i]? = some e -> g.fh[i + 1]? = some f -> Lex e f
theorem gW (n:Nat) (a b:Int):bh_p n a b = some (if a < b then -1 else if b < a then 1 else 0):=by
 unfold bh_p aX_p
 simp only [aa]
 simp only [decide_true,Bool.not_true,Bool.false_eq_true,if_false]
 split <;> (try rfl)
 split <;> rfl
theorem cH {α β:Type} (B:(α -> Option β) -> α -> Option β) (n:Nat):ae B (n + 1) = B (ae B n):=rfl
theorem gw (n:Nat) (a b c d:Int) (hn:2 < n):∃ y,av_p n [a,b] [c,d] = some y/\(0 <= y ↔ ¬ Lex (a,b) (c,d)):=by
 obtain ⟨m,rfl⟩:∃ m,n = m + 1 + 1 + 1:=⟨n - 3,by omega⟩
 unfold av_p
 rw [cH,cH,cH]
 unfold av_l1
 simp [gW,thn,Lex]
 by_cases h1:a < c
 ·simp [h1]; try omega
 ·by_cases h2:c < a
  ·simp [h1,h2]; try omega
  ·have:a = c:=by omega
   subst this
   by_cases h3:b < d
   ·simp [h3]
   ·by_cases h4:d < b
    ·simp [h3,h4]; try omega
    ·simp [h3,h4]; try omega
theorem ey (n:Nat) (g:Tb) (hn:300 < n):∃ r,aO_p n g = some r/\(r = 0/\Valid g ∨ r = 180/\¬ Valid g):=by
 unfold aO_p
 by_cases h1:g.fN < 1
 ·rw [if_pos h1]; exact ⟨_,rfl,.inr ⟨rfl,fun h=>by have:=h.n1; omega⟩⟩
 rw [if_neg h1]
 by_cases h2:64 < g.fN
 ·rw [if_pos h2]; exact ⟨_,rfl,.inr ⟨rfl,fun h=>by have:=h.n64; omega⟩⟩
 rw [if_neg h2]
 by_cases h3:200 < g.fh.length
 ·rw [if_pos h3]; exact ⟨_,rfl,.inr ⟨rfl,fun h=>by have:=h.len; omega⟩⟩
 rw [if_neg h3]
 obtain ⟨r,e1,e2⟩:=aw (B:=aO_l1 n g) (fun s=>g.fh.length - s.1) (fun (i,z1,z2)=>i <= g.fh.length/\(∀ j e,j < i -> g.fh[j]? = some e -> 0 <= e.1/\e.1 < e.2/\e.2 < g.fN)/\
   (∀ j e f,j + 1 < i -> g.fh[j]? = some e -> g.fh[j + 1]? = some f -> Lex e f)/\(i = 0 -> z1 = -1/\z2 = -1)/\(∀ j,i = j + 1 -> g.fh[j]? = some (z1,z2)))
  (fun r=>r = .inl 180/\¬ Valid g ∨ r = .inr ()/\Valid g) (fun ⟨i,z1,z2⟩ J ⟨q1,q2,q3,q4,q5⟩ hJ=>by
  simp only at q1 q2 q3 q4 q5 hJ
  unfold aO_l1
  simp only
  by_cases hi:i < g.fh.length
  ·rw [if_pos hi,geE hi]
   simp only [aa]
   generalize he:g.fh[i] = e
   have hge:g.fh[i]? = some e:=by rw [geE hi,he]
   have hmem:e ∈ g.fh:=he ▸ List.getElem_mem hi
   by_cases c1:e.1 < 0
   ·rw [if_pos c1]; exact ⟨_,rfl,.inl ⟨rfl,fun h=>by have:=h.ok e hmem; omega⟩⟩
   rw [if_neg c1]
   by_cases c2:e.2 <= e.1
   ·rw [if_pos c2]; exact ⟨_,rfl,.inl ⟨rfl,fun h=>by have:=h.ok e hmem; omega⟩⟩
   rw [if_neg c2]
   by_cases c3:g.fN <= e.2
   ·rw [if_pos c3]; exact ⟨_,rfl,.inl ⟨rfl,fun h=>by have:=h.ok e hmem; omega⟩⟩
   rw [if_neg c3]
   obtain ⟨y,y1,y2⟩:=gw n z1 z2 e.1 e.2 (by omega)
   rw [y1]
   simp only [aa]
   by_cases c4:0 <= y
   ·rw [if_pos c4]
    refine ⟨_,rfl,.inl ⟨rfl,fun h=>y2.1 c4 ?_⟩⟩
    cases i with
    | zero=>obtain ⟨rfl,rfl⟩:=q4 rfl; left; show (-1:Int) < e.1; omega
    | succ j=>exact h.sorted j (z1,z2) e (q5 j rfl) hge
   ·rw [if_neg c4]
    have hlex:Lex (z1,z2) e:=Classical.byContradiction fun hh=>c4 (y2.2 hh)
    refine hJ (i + 1,e.1,e.2) ⟨by simp only; omega,fun j e' hj he' =>?_,fun j e' f hj he' hf=>?_,fun h=>by simp at h,fun j hj=>?_⟩ (by simp only; omega)
    ·simp only at hj
     by_cases hji:j = i
     ·subst hji; rw [hge] at he'; cases he'; exact ⟨by omega,by omega,by omega⟩
     ·exact q2 j e' (by omega) he'
    ·simp only at hj
     by_cases hji:j + 1 = i
     ·have:=q5 j hji.symm
      rw [this] at he'
      rw [hji,hge] at hf
      cases he'; cases hf
      exact hlex
     ·exact q3 j e' f (by omega) he' hf
    ·simp only at hj ⊢
     have:j = i:=by omega
     subst this
     rw [hge]
  ·rw [if_neg hi]
   refine ⟨_,rfl,.inr ⟨rfl,by omega,by omega,by omega,fun e he=>?_,fun j e f he hf=>?_⟩⟩
   ·obtain ⟨j,hj,rfl⟩:=List.getElem_of_mem he
    exact q2 j _ (by omega) (geE hj)
   ·have:=(List.getElem?_eq_some_iff.1 hf).1
    exact q3 j e f (by omega) he hf) n (0,-1,-1) ⟨by simp,fun j e h=>by simp at h,fun j e f h=>by simp at h,fun _=>⟨rfl,rfl⟩,fun j h=>by simp at h⟩ (by simp only; omega)
 rw [e1]
 rcases e2 with ⟨rfl,h⟩ | ⟨rfl,h⟩
 ·exact ⟨180,rfl,.inr ⟨rfl,h⟩⟩
 ·exact ⟨0,rfl,.inl ⟨rfl,h⟩⟩
theorem Valid.check {n:Nat} {g:Tb} (h:Valid g) (hn:300 < n):aO_p n g = some 0:=by
 obtain ⟨r,h1,h2⟩:=ey n g hn
 rcases h2 with ⟨rfl,_⟩ | ⟨_,h3⟩
 ·exact h1
 ·exact absurd h h3
theorem Valid.check2 {n:Nat} {g:Tb} (h:Valid g) (hn:300 < n) (u:UInt64):∃ r,br_p n g u = some r/\(r = 0/\bu g.fN u ∨ r = 2/\¬ bu g.fN u):=by
 unfold br_p
 rw [h.check hn]
 simp only [aa]
 rw [ifT,len64]
 simp only [aa]
 have h0:=h.n1
 by_cases hf:bu g.fN u
 ·rw [if_neg (by have:=(cI (by omega)).2 hf; omega)]; exact ⟨_,rfl,.inl ⟨rfl,hf⟩⟩
 ·rw [if_pos (by have:=mt (cI (N:=g.fN) (u:=u) (by omega)).1 hf; omega)]; exact ⟨_,rfl,.inr ⟨rfl,hf⟩⟩
theorem fits_p (n:Nat) (g:Tb) (u:UInt64) (h:0 <= g.fN):∃ b,bg_p n g u = some b/\(b = true ↔ bu g.fN u):=by
 unfold bg_p
 rw [len64]
 simp only [aa]
 exact ⟨_,rfl,by rw [decide_eq_true_eq,cI h]⟩
def Adj (g:Tb) (a b:Nat):Prop:=((a:Int),(b:Int)) ∈ g.fh ∨ ((b:Int),(a:Int)) ∈ g.fh
theorem Adj.symm {g:Tb} {a b:Nat} (h:Adj g a b):Adj g b a:=Or.symm h
theorem Valid.adj {g:Tb} (h:Valid g) {a b:Nat} (k:Adj g a b):(a:Int) < g.fN/\(b:Int) < g.fN/\a ≠ b:=by
 rcases k with k | k <;> have:=h.ok _ k <;> simp only at this <;> omega
theorem aN {x:Int} (h:0 <= x):aK x = some x.toNat:=if_pos h
theorem eY {α:Type} {xs:List α} {i:Int} (h0:0 <= i) (h:i < xs.length):idx xs i = some (xs[i.toNat]'(by omega)):=by
 unfold idx
 rw [if_pos h0,geE]
theorem dg {α:Type} {xs:List α} {i:Int} (v:α) (h0:0 <= i) (h:i < xs.length):put xs i v = some (xs.set i.toNat v):=by
 unfold put
 rw [if_pos ⟨h0,h⟩]
theorem gm (n:Nat) (g:Tb) (h:Valid g) (hn:300 < n):∃ l,aV_p n g = some l/\(l.length:Int) = g.fN/\∀ (a:Nat) u,l[a]? = some u -> ∀ b,bit u b = true ↔ Adj g a b:=by
 unfold aV_p
 have h1:=h.n1; have h64:=h.n64; have hlen:=h.len
 have hm:mk g.fN (0:UInt64) = some (List.replicate g.fN.toNat 0):=if_pos ⟨by omega,by omega⟩
 rw [hm]
 simp only [aa]
 obtain ⟨l,e1,e2,e3⟩:=aw (B:=aV_l1 n g) (fun s=>g.fh.length - s.1) (fun (i,xs)=>i <= g.fh.length/\(xs.length:Int) = g.fN/\∀ (a:Nat) u,xs[a]? = some u -> ∀ b,bit u b = true ↔ (((a:Int),(b:Int)) ∈ g.fh.take i ∨ ((b:Int),(a:Int)) ∈ g.fh.take i))
  (fun xs=>(xs.length:Int) = g.fN/\∀ (a:Nat) u,xs[a]? = some u -> ∀ b,bit u b = true ↔ Adj g a b) (fun ⟨i,xs⟩ J ⟨q1,q2,q3⟩ hJ=>by
  simp only at q1 q2 q3 hJ
  unfold aV_l1
  simp only
  by_cases hi:i < g.fh.length
  ·rw [if_pos hi,geE hi]
   simp only [aa]
   generalize he:g.fh[i] = e
   have hmem:e ∈ g.fh:=he ▸ List.getElem_mem hi
   obtain ⟨o1,o2,o3⟩:=h.ok e hmem
   rw [eY o1 (by omega),aN (by omega)]
   simp only [aa]
   rw [dg _ (by omega) (by omega),Int.toNat_natCast]
   simp only [aa]
   rw [eY (by omega) (by simp only [List.length_set]; omega),aN o1]
   simp only [aa]
   rw [dg _ (by omega) (by simp only [List.length_set]; omega),Int.toNat_natCast]
   simp only [aa]
   refine hJ _ ⟨by simp only; omega,by simp only [List.length_set]; exact q2,fun a u hu b=>?_⟩ (by simp only; omega)
   simp only at hu ⊢
   have htake:g.fh.take (i + 1) = g.fh.take i ++ [e]:=by rw [List.take_succ_eq_append_getElem hi,he]
   rw [htake,List.mem_append,List.mem_append,List.mem_singleton,List.mem_singleton]
   have hne:e.1.toNat ≠ e.2.toNat:=by omega
   have hal:a < xs.length:=by
    have:=(List.getElem?_eq_some_iff.1 hu).1
    simpa using this
   have hold:=q3 a xs[a] (geE hal) b
   rw [List.getElem?_set] at hu
   by_cases c2:e.2.toNat = a
   ·rw [if_pos c2,if_pos (by simp only [List.length_set]; omega)] at hu
    have hu:_ = u:=Option.some.inj hu
    rw [<- hu,bj,aY (by omega),List.getElem_set_ne hne]
    subst c2
    simp only [Bool.or_eq_true,decide_eq_true_eq]
    rw [hold]
    constructor
    ·rintro ((k | k) | k)
     ·exact .inl (.inl k)
     ·exact .inr (.inl k)
     ·right; right; apply Prod.ext <;> simp only <;> omega
    ·rintro ((k | k) | (k | k))
     ·exact .inl (.inl k)
     ·exfalso; have:=congrArg Prod.fst k; have k2:=congrArg Prod.snd k; simp only at this k2; omega
     ·exact .inl (.inr k)
     ·right; have:=congrArg Prod.fst k; simp only at this; omega
   ·rw [if_neg c2,List.getElem?_set] at hu
    by_cases c1:e.1.toNat = a
    ·rw [if_pos c1,if_pos (by omega)] at hu
     have hu:_ = u:=Option.some.inj hu
     rw [<- hu,bj,aY (by omega)]
     subst c1
     simp only [Bool.or_eq_true,decide_eq_true_eq]
     rw [hold]
     constructor
     ·rintro ((k | k) | k)
      ·exact .inl (.inl k)
      ·exact .inr (.inl k)
      ·left; right; apply Prod.ext <;> simp only <;> omega
     ·rintro ((k | k) | (k | k))
      ·exact .inl (.inl k)
      ·right; have:=congrArg Prod.snd k; simp only at this; omega
      ·exact .inl (.inr k)
      ·exfalso; have:=congrArg Prod.snd k; simp only at this; omega
    ·rw [if_neg c1] at hu
     rw [q3 a u hu b]
     constructor
     ·rintro (k | k)
      ·exact .inl (.inl k)
      ·exact .inr (.inl k)
     ·rintro ((k | k) | (k | k))
      ·exact .inl k
      ·exfalso; have:=congrArg Prod.fst k; simp only at this; omega
      ·exact .inr k
      ·exfalso; have:=congrArg Prod.snd k; simp only at this; omega
  ·rw [if_neg hi]
   refine ⟨_,rfl,q2,fun a u hu b=>?_⟩
   rw [q3 a u hu b,List.take_of_length_le (by omega)]
   rfl) n (0,List.replicate g.fN.toNat 0) ⟨by simp,by simp; omega,fun a u hu b=>by
    rw [List.getElem?_replicate] at hu
    split at hu
    ·cases hu; simp [aI]
    ·cases hu⟩ (by simp only; omega)
 rw [e1]
 exact ⟨l,rfl,e2,e3⟩
theorem cK {σ β:Type} {B:(UInt64 × σ -> Option β) -> UInt64 × σ -> Option β} (R:σ -> β) (F:Nat -> σ -> Option σ) (hB:∀ J (u:UInt64) s,B J (u,s) = if u = 0 then some (R s) else (F (low u) s).bind fun s' =>J (u &&& (u - 1),s')) :
  ∀ (m n:Nat) (u:UInt64) (s:σ),(ap u).length <= m -> m < n -> ae B n (u,s) = ((ap u).foldlM (fun s t=>F t s) s).map R:=by
 intro m
 induction m with
 | zero=>
  intro n u s hm hn
  obtain ⟨k,rfl⟩:∃ k,n = k + 1:=⟨n - 1,by omega⟩
  have hu:u = 0:=Classical.byContradiction fun hne=>by rw [bC hne] at hm; simp at hm
  rw [bG,hB,if_pos hu,hu,dm]
  rfl
 | succ m ih=>
  intro n u s hm hn
  obtain ⟨k,rfl⟩:∃ k,n = k + 1:=⟨n - 1,by omega⟩
  rw [bG,hB]
  by_cases hu:u = 0
  ·rw [if_pos hu,hu,dm]; rfl
  ·rw [if_neg hu,bC hu,List.foldlM_cons]
   have hl:(ap (u &&& (u - 1))).length <= m:=by rw [bC hu] at hm; simpa using hm
   cases F (low u) s with
   | none=>rfl
   | some s' =>exact ih k _ s' hl (by omega)
theorem near_ok (n:Nat) (g:Tb) (h:Valid g) (hn:300 < n) (u:UInt64) (hu:bu g.fN u):∃ v,bj_p n g u = some v/\∀ b,bit v b = true ↔ (∃ a,bit u a = true/\Adj g a b)/\bit u b = false:=by
 unfold bj_p
 obtain ⟨l,l1,l2,l3⟩:=gm n g h hn
 rw [l1]
 simp only [aa]
 have hloop:=cK (B:=bj_l1 n l) (fun s=>s) (fun t (s:UInt64)=>(idx l ((t:Nat):Int)).bind fun x=>some (s ||| x)) (fun J u s=>by
  unfold bj_l1
  simp only
  by_cases h0:u = 0
  ·rw [if_pos h0,if_pos h0]
  ·rw [if_neg h0,if_neg h0,gE n h0]
   simp only [aa]
   cases idx l ((low u:Nat):Int) <;> rfl) (ap u).length n u 0 (Nat.le_refl _) (by have:=aW u; omega)
 rw [hloop]
 have key:∀ (ts:List Nat) (s:UInt64),(∀ t ∈ ts,(t:Int) < g.fN) -> ∃ v,(ts.foldlM (fun s t=>(idx l ((t:Nat):Int)).bind fun x=>some (s ||| x)) s:Option UInt64) = some v/\∀ b,bit v b = true ↔ bit s b = true ∨ ∃ a ∈ ts,Adj g a b:=by
  intro ts
  induction ts with
  | nil=>intro s _; exact ⟨s,rfl,fun b=>by simp⟩
  | cons t ts ih=>
   intro s hs
   have ht:=hs t (by simp)
   rw [List.foldlM_cons,cD,geE (by omega)]
   obtain ⟨v,v1,v2⟩:=ih (s ||| l[t]'(by omega)) (fun x hx=>hs x (by simp [hx]))
   refine ⟨v,v1,fun b=>?_⟩
   rw [v2,bj,Bool.or_eq_true,l3 t _ (geE (by omega)) b]
   constructor
   ·rintro ((k | k) | ⟨a,k1,k2⟩)
    ·exact .inl k
    ·exact .inr ⟨t,by simp,k⟩
    ·exact .inr ⟨a,by simp [k1],k2⟩
   ·rintro (k | ⟨a,k1,k2⟩)
    ·exact .inl (.inl k)
    ·rcases List.mem_cons.1 k1 with rfl | k1
     ·exact .inl (.inr k2)
     ·exact .inr ⟨a,k1,k2⟩
 obtain ⟨v,v1,v2⟩:=key (ap u) 0 (fun t ht=>hu t (aR.1 ht))
 rw [v1]
 refine ⟨_,rfl,fun b=>?_⟩
 rw [fo,Bool.and_eq_true,v2]
 simp only [aI,Bool.false_eq_true,false_or,Bool.not_eq_true', aR]
end Go.Proofs.YtlleajifdbnbaaaGreatDoor
namespace Go.Proofs.YtlleajifdbnbaaaGreatDoor
open Go
inductive Way (g:Tb) (s:UInt64) (x:Nat):Nat -> Nat -> Prop
 | here:Way g s x 0 x
 | on {m a b:Nat} (h:Way g s x m a) (k:Adj g a b) (hb:bit s b = true):Way g s x (m + 1) b
theorem Way.inside {g:Tb} {s:UInt64} {x m y:Nat} (hx:bit s x = true) (h:Way g s x m y):bit s y = true:=by
 cases h with
 | here=>exact hx
 | on _ _ hb=>exact hb
theorem gr {u v:UInt64} (h:∀ k,bit u k = true -> bit v k = true) (hx:∃ k,bit v k = true/\bit u k = false):(ap u).length < (ap v).length:=by
 have e:ap u = (ap v).filter (bit u ·):=by
  unfold ap
  rw [List.filter_filter]
  apply List.filter_congr
  intro k _
  cases hu:bit u k with
  | false=>simp
  | true=>rw [h k hu]; rfl
 rw [e]
 obtain ⟨k,k1,k2⟩:=hx
 apply List.length_filter_lt_length_iff_exists.2
 exact ⟨k,aR.2 k1,by rw [k2]; simp⟩
theorem ifTT {α:Type} (x y:α):(if true = true then x else y) = x:=if_pos rfl
theorem fU (n:Nat) {k:UInt64} (h:k.toNat <= 64):bn_p n (ac ((([(-1)]:List Int).length:Nat):Int)) k = some (0,k):=by
 have:∀ q,q < 65 -> bn_p n (ac ((([(-1)]:List Int).length:Nat):Int)) (UInt64.ofNat q) = some (0,UInt64.ofNat q):=by
  unfold bn_p bq_p
  decide +kernel
 have e:k = UInt64.ofNat k.toNat:=by simp
 rw [e]
 exact this _ (by omega)
theorem gp (n:Nat) (N:Nat) (h1:1 <= N) (h:N <= 64) (hn:300 < n):ae (al_l3 n) n (min (([(-1)]:List Int).length) (List.replicate N (0:Int)).length,cpy (List.replicate N (0:Int)) 0 (List.replicate N (0:Int)).length ([(-1)]:List Int)) = some (List.replicate N (-1)):=by
 have hcut:∀ (xs:List Int) (i j:Nat),i <= j -> j <= xs.length -> cut xs ((i:Nat):Int) ((j:Nat):Int) = some ((xs.take j).drop i):=fun xs i j h1 h2=>by
  unfold cut
  rw [if_pos ⟨by omega,by omega,by omega⟩]
  simp
 obtain ⟨r,e1,rfl⟩:=aw (B:=al_l3 n) (fun s=>N - s.1) (fun (i,xs)=>1 <= i/\i <= N/\xs.length = N/\∀ j,j < i -> xs[j]? = some (-1)) (fun xs=>xs = List.replicate N (-1)) (fun ⟨i,xs⟩ J ⟨q0,q1,q2,q3⟩ hJ=>by
  simp only at q0 q1 q2 q3 hJ
  unfold al_l3
  simp only
  by_cases hi:i < xs.length
  ·rw [if_pos hi,hcut xs i xs.length (by omega) (by omega)]
   simp only [aa]
   have:=hcut xs 0 i (by omega) (by omega)
   rw [show ((0:Nat):Int) = 0 from rfl] at this
   rw [this]
   simp only [aa]
   have e2:((xs.take xs.length).drop i).length = xs.length - i:=by simp
   have e3:(xs.take i).length = i:=by simp; omega
   rw [List.drop_zero,e2,e3]
   refine hJ _ ⟨by simp only; omega,by simp only; omega,?_,fun j hj=>?_⟩ (by simp only; omega)
   ·simp only [Int.toNat_natCast]
    rw [ca (by omega)]; exact q2
   ·simp only [Int.toNat_natCast] at hj ⊢
    unfold cpy
    rw [e3]
    by_cases hji:j < i
    ·rw [List.append_assoc,List.getElem?_append_left (by simp; omega),List.getElem?_take_of_lt hji]
     exact q3 j hji
    ·rw [List.getElem?_append_left (by simp; omega),List.getElem?_append_right (by simp; omega),e3,List.getElem?_take_of_lt (by omega),List.getElem?_take_of_lt (by omega)]
     exact q3 _ (by omega)
  ·rw [if_neg hi]
   refine ⟨_,rfl,?_⟩
   apply List.ext_getElem?
   intro j
   by_cases hj:j < N
   ·rw [q3 j (by omega),List.getElem?_replicate,if_pos hj]
   ·rw [List.getElem?_eq_none (by omega),List.getElem?_replicate,if_neg hj]) n (min (([(-1)]:List Int).length) (List.replicate N (0:Int)).length,cpy (List.replicate N (0:Int)) 0 (List.replicate N (0:Int)).length ([(-1)]:List Int)) ⟨by simp; omega,by simp; omega,by rw [ca (by simp)]; simp,fun j hj=>by
   have:j = 0:=by simp at hj; omega
   subst this
   unfold cpy
   simp
   rw [Nat.min_eq_left h1]
   rfl⟩ (by simp only; omega)
 exact e1
structure Dist (g:Tb) (s:UInt64) (x:Nat) (far:List Int):Prop where
 len:(far.length:Int) = g.fN
 ways:∀ (y:Nat) (d:Int),far[y]? = some d -> 0 <= d -> Way g s x d.toNat y
 least:∀ (y:Nat) m,Way g s x m y -> ∃ d:Int,far[y]? = some d/\0 <= d/\d <= m
theorem gU (z:Int):∀ (ts:List Nat) (xs:List Int),(∀ t ∈ ts,t < xs.length) -> ∃ ys,(ts.foldlM (fun xs t=>(idx xs ((t:Nat):Int)).bind fun _=>put xs ((((t:Nat):Int).toNat:Nat):Int) z) xs:Option (List Int)) = some ys/\ys.length = xs.length/\∀ j,ys[j]? = if j ∈ ts then some z else xs[j]?:=by
 intro ts
 induction ts with
 | nil=>intro xs _; exact ⟨xs,rfl,rfl,fun j=>by simp⟩
 | cons t ts ih=>
  intro xs h
  have ht:=h t (by simp)
  rw [List.foldlM_cons,cD,geE ht,Int.toNat_natCast,dg z (by omega) (by omega),Int.toNat_natCast]
  obtain ⟨ys,y1,y2,y3⟩:=ih (xs.set t z) (fun q hq=>by rw [List.length_set]; exact h q (by simp [hq]))
  refine ⟨ys,y1,by rw [y2,List.length_set],fun j=>?_⟩
  rw [y3,List.getElem?_set]
  by_cases hj:j ∈ ts
  ·rw [if_pos hj,if_pos (List.mem_cons_of_mem _ hj)]
  ·rw [if_neg hj]
   by_cases hjt:t = j
   ·subst hjt; rw [if_pos rfl,if_pos ht,if_pos (by simp)]
   ·rw [if_neg hjt,if_neg (by simp [hj]; omega)]
theorem cr (n:Nat) (g:Tb) (h:Valid g) (hn:300 < n) (s:UInt64) (x:Nat) (hs:bu g.fN s) (hx:bit s x = true):∃ far,al_p n g s (x:Int) = some (far,0)/\Dist g s x far:=by
 have h1:=h.n1; have h64:=h.n64
 have hxN:=hs x hx
 obtain ⟨N,hN⟩:∃ N:Nat,g.fN = N:=⟨g.fN.toNat,by omega⟩
 unfold al_p
 obtain ⟨r,c1,c2⟩:=h.check2 hn s
 have c3:r = 0:=by rcases c2 with ⟨h,_⟩ | ⟨_,h⟩; exact h; exact absurd hs h
 subst c3
 rw [c1]
 simp only [aa]
 rw [ifT,if_neg (by omega),if_neg (by omega)]
 unfold bx_p
 rw [aN (by omega)]
 simp only [aa]
 rw [Int.toNat_natCast,decide_eq_true ((bn s x).2 hx),ifTT,if_neg (by omega)]
 have hu:(ac g.fN).toNat = N:=by rw [hN,aO]; exact UInt64.toNat_ofNat_of_lt' (show N < 2 ^ 64 by omega)
 rw [fU n (by omega)]
 simp only [aa]
 rw [if_neg (by simp),if_neg (by rw [UInt64.lt_iff_toNat_lt,hu]; show ¬ 9223372036854775807 < N; omega)]
 have hi:ab (ac g.fN) = (N:Int):=by unfold ab; rw [hu,if_pos (by omega)]
 have hmk:mk (ab (ac g.fN)) (0:Int) = some (List.replicate N 0):=by
  rw [hi]; unfold mk; rw [if_pos ⟨by omega,by omega⟩]; simp
 rw [hmk]
 simp only [aa]
 rw [gp n N (by omega) (by omega) hn]
 simp only [aa]
 have hx64:x < 64:=by omega
 obtain ⟨far,e1,e2⟩:=aw (B:=al_l2 n g s) (fun (u,f,_,_)=>2 * (64 - (ap u).length) + (if f = 0 then 0 else 1))
  (fun (u,f,z,xs)=>∃ d:Nat,z = (d:Int)/\d + (if f = 0 then 0 else 1) <= (ap u).length/\xs.length = N/\(∀ y,bit u y = true ↔ ∃ m,m <= d/\Way g s x m y)/\(∀ y,bit f y = true ↔ (∃ m,m <= d/\Way g s x m y)/\∀ m,m < d -> ¬ Way g s x m y)/\
   (∀ (y:Nat) (k:Int),xs[y]? = some k -> (k = -1/\(bit u y = false ∨ bit f y = true)) ∨ (0 <= k/\k < d/\Way g s x k.toNat y/\∀ m,Way g s x m y -> k <= m)))
  (fun far=>Dist g s x far) (fun ⟨u,f,z,xs⟩ J ⟨d,hz,hd,hl,q1,q2,q3⟩ hJ=>by
  simp only at hz hd hl q1 q2 q3 hJ
  subst hz
  unfold al_l2
  simp only
  have hin:∀ y m,Way g s x m y -> bit s y = true:=fun y m hw=>hw.inside hx
  by_cases hf:f = 0
  ·rw [if_pos hf]
   subst hf
   have hclosed:∀ m y,Way g s x m y -> bit u y = true:=by
    intro m
    induction m with
    | zero=>intro y hw; exact (q1 y).2 ⟨0,by omega,hw⟩
    | succ m ih=>
     intro y hw
     cases hw with
     | on hw k hb=>
      rename_i a
      have ha:=ih a hw
      obtain ⟨j,j1,j2⟩:=(q1 a).1 ha
      rcases Nat.lt_or_ge j d with hj | hj
      ·exact (q1 y).2 ⟨j + 1,by omega,.on j2 k hb⟩
      ·have:j = d:=by omega
       subst this
       have hno:=aI a
       apply Classical.byContradiction
       intro hy
       have:bit 0 a = true:=(q2 a).2 ⟨⟨j,by omega,j2⟩,fun m' hm' hw' =>hy ((q1 y).2 ⟨m' + 1,by omega,.on hw' k hb⟩)⟩
       rw [hno] at this; cases this
   refine ⟨_,rfl,by omega,fun y k hk h0=>?_,fun y m hw=>?_⟩
   ·rcases q3 y k hk with ⟨rfl,_⟩ | ⟨_,_,k1,_⟩
    ·omega
    ·exact k1
   ·have hy:=hclosed m y hw
    have hyN:=hs y (hin y m hw)
    have hyl:y < xs.length:=by omega
    rcases q3 y xs[y] (geE hyl) with ⟨_,hh⟩ | ⟨k0,_,_,k2⟩
    ·rcases hh with hh | hh
     ·rw [hy] at hh; cases hh
     ·rw [aI] at hh; cases hh
    ·exact ⟨xs[y],geE hyl,k0,k2 m hw⟩
  ·rw [if_neg hf]
   have hfu:∀ y,bit f y = true -> bit u y = true:=fun y hy=>(q1 y).2 ((q2 y).1 hy).1
   have hus:bu g.fN u:=fun y hy=>by obtain ⟨m,_,hw⟩:=(q1 y).1 hy; exact hs y (hin y m hw)
   have hloop:=cK (B:=al_l1 n (d:Int)) (fun xs=>xs) (fun t (xs:List Int)=>(idx xs ((t:Nat):Int)).bind fun _=>put xs ((((t:Nat):Int).toNat:Nat):Int) (d:Int)) (fun J u s=>by
    unfold al_l1
    simp only
    by_cases h0:u = 0
    ·rw [if_pos h0,if_pos h0]
    ·rw [if_neg h0,if_neg h0,gE n h0]
     simp only [aa]
     cases idx s ((low u:Nat):Int) <;> rfl) (ap f).length n f xs (Nat.le_refl _) (by have:=aW f; omega)
   obtain ⟨ys,y1,y2,y3⟩:=gU (d:Int) (ap f) xs (fun t ht=>by have:=hus t (hfu t (aR.1 ht)); omega)
   rw [hloop,y1]
   simp only [Option.map_some,aa]
   obtain ⟨v,v1,v2⟩:=near_ok n g h hn u hus
   rw [v1]
   simp only [aa]
   have hul:=aW u
   have hd64:d < 64:=by rw [if_neg hf] at hd; omega
   rw [aG (by omega)]
   simp only [aa]
   have hnew:∀ y,bit (v &&& s) y = true ↔ (∃ m,m <= d + 1/\Way g s x m y)/\∀ m,m < d + 1 -> ¬ Way g s x m y:=by
    intro y
    rw [ba,Bool.and_eq_true,v2]
    constructor
    ·rintro ⟨⟨⟨a,a1,a2⟩,a3⟩,a4⟩
     obtain ⟨m,m1,m2⟩:=(q1 a).1 a1
     refine ⟨⟨m + 1,by omega,.on m2 a2 a4⟩,fun m' hm' hw=>?_⟩
     have:=(q1 y).2 ⟨m', by omega,hw⟩
     rw [a3] at this; cases this
    ·rintro ⟨⟨m,m1,m2⟩,m3⟩
     have:m = d + 1:=Classical.byContradiction fun hne=>m3 m (by omega) m2
     subst this
     refine ⟨⟨?_,?_⟩,hin y _ m2⟩
     ·cases m2 with
      | on hw k hb=>exact ⟨_,(q1 _).2 ⟨d,by omega,hw⟩,k⟩
     ·cases hb:bit u y with
      | false=>rfl
      | true=>obtain ⟨m', m4,m5⟩:=(q1 y).1 hb; exact absurd m5 (m3 m' (by omega))
   have hsub:∀ k,bit u k = true -> bit (u ||| (v &&& s)) k = true:=fun k hk=>by rw [bj,hk]; rfl
   have hgrow:(v &&& s) ≠ 0 -> (ap u).length < (ap (u ||| (v &&& s))).length:=fun hne=>by
    obtain ⟨k,hk⟩:=eC hne
    refine gr hsub ⟨k,by rw [bj,hk,Bool.or_true],?_⟩
    rw [ba,Bool.and_eq_true,v2] at hk
    exact hk.1.2
   have hul2:=aW (u ||| (v &&& s))
   have hsame:(v &&& s) = 0 -> u ||| (v &&& s) = u:=fun e=>by rw [e]; apply dT; intro k; rw [bj,aI,Bool.or_false]
   refine hJ _ ⟨d + 1,by simp,?_,by rw [y2]; exact hl,fun y=>?_,hnew,fun y k hk=>?_⟩ ?_
   ·simp only
    rw [if_neg hf] at hd
    by_cases hv:(v &&& s) = 0
    ·rw [if_pos hv,hsame hv]; omega
    ·rw [if_neg hv]; have:=hgrow hv; omega
   ·simp only
    rw [bj,Bool.or_eq_true,q1,hnew]
    constructor
    ·rintro (⟨m,m1,m2⟩ | ⟨hm,_⟩)
     ·exact ⟨m,by omega,m2⟩
     ·exact hm
    ·rintro ⟨m,m1,m2⟩
     by_cases hex:∃ m,m <= d/\Way g s x m y
     ·exact .inl hex
     ·exact .inr ⟨⟨m,m1,m2⟩,fun m' hm' hw=>hex ⟨m', by omega,hw⟩⟩
   ·simp only at hk ⊢
    rw [y3] at hk
    by_cases hyf:y ∈ ap f
    ·rw [if_pos hyf] at hk
     have hk:(d:Int) = k:=Option.some.inj hk
     subst hk
     obtain ⟨⟨m,m1,m2⟩,m3⟩:=(q2 y).1 (aR.1 hyf)
     have:m = d:=Classical.byContradiction fun hne=>m3 m (by omega) m2
     subst this
     right
     refine ⟨by omega,by omega,by simpa using m2,fun m' hm' =>?_⟩
     rcases Nat.lt_or_ge m' m with hlt | hge
     ·exact absurd hm' (m3 m' hlt)
     ·omega
    ·rw [if_neg hyf] at hk
     rcases q3 y k hk with ⟨rfl,hh⟩ | ⟨k0,k1,k2,k3⟩
     ·left
      refine ⟨rfl,?_⟩
      rcases hh with hh | hh
      ·rw [bj,hh,Bool.false_or]
       cases hb:bit (v &&& s) y with
       | false=>exact .inl rfl
       | true=>exact .inr rfl
      ·exact absurd (aR.2 hh) hyf
     ·right
      exact ⟨k0,by omega,k2,k3⟩
   ·simp only
    rw [if_neg hf]
    by_cases hv:(v &&& s) = 0
    ·rw [if_pos hv,hsame hv]; omega
    ·rw [if_neg hv]
     have:=hgrow hv
     omega) n (shlU 1 x,shlU 1 x,0,List.replicate N (-1)) (by
   have hne:shlU 1 x ≠ 0:=fun e=>by
    have:=aY (k:=x) (j:=x) hx64
    rw [e,aI] at this
    simp at this
   have hw0:∀ y,Way g s x 0 y ↔ y = x:=fun y=>⟨fun hw=>by cases hw; rfl,fun e=>by subst e; exact .here⟩
   refine ⟨0,rfl,?_,by simp,fun y=>?_,fun y=>?_,fun y k hk=>?_⟩
   ·rw [if_neg hne,bC hne]; simp
   ·rw [aY hx64,decide_eq_true_eq]
    constructor
    ·intro e; exact ⟨0,by omega,(hw0 y).2 e⟩
    ·rintro ⟨m,m1,m2⟩
     obtain rfl:m = 0:=by omega
     exact (hw0 y).1 m2
   ·rw [aY hx64,decide_eq_true_eq]
    constructor
    ·intro e; exact ⟨⟨0,by omega,(hw0 y).2 e⟩,fun m hm=>by omega⟩
    ·rintro ⟨⟨m,m1,m2⟩,_⟩
     obtain rfl:m = 0:=by omega
     exact (hw0 y).1 m2
   ·left
    rw [List.getElem?_replicate] at hk
    split at hk
    ·cases hk
     refine ⟨rfl,?_⟩
     cases bit (shlU 1 x) y with
     | false=>exact .inl rfl
     | true=>exact .inr rfl
    ·cases hk) (by
   simp only
   split <;> omega)
 rw [e1]
 exact ⟨far,rfl,e2⟩
end Go.Proofs.YtlleajifdbnbaaaGreatDoor
namespace Go.Proofs.YtlleajifdbnbaaaGreatDoor
open Go
theorem cO {u:UInt64} (h:u.toNat < 9223372036854775808):ab u = (u.toNat:Int):=by unfold ab; rw [if_pos h]
theorem gR (n:Nat) (c:Ta) (k:Nat) (h1:1 <= k) (h2:k <= 4294967296) (hn:300 < n):∃ v c' e,ay_p n c (k:Int) = some (v,c', e)/\(e = 0/\0 <= v/\v < k ∨ e = 9):=by
 unfold ay_p
 rw [if_neg (by omega)]
 have hk:(ac (k:Int)).toNat = k:=by rw [aO]; exact UInt64.toNat_ofNat_of_lt' (show k < 2 ^ 64 by omega)
 have hk0:ac (k:Int) ≠ 0:=fun e=>by rw [e] at hk; simp at hk; omega
 have hrem:∀ x,∃ v,cy x (ac (k:Int)) = some v/\v.toNat < k:=fun x=>by
  refine ⟨x % ac (k:Int),if_neg hk0,?_⟩
  rw [UInt64.toNat_mod,hk]
  exact Nat.mod_lt _ (by omega)
 obtain ⟨s,s1,_⟩:=hrem (-(ac (k:Int)))
 rw [s1]
 simp only [aa]
 obtain ⟨r,e1,e2⟩:=aw (B:=ay_l1 n s (k:Int)) (fun q=>200 - q.1) (fun q=>q.1 <= 200) (fun r=>r = .inr () ∨ ∃ (v:Int) (c' : Ta),r = .inl (v,c', 0)/\0 <= v/\v < k) (fun ⟨i,u⟩ J hi hJ=>by
  simp only at hi hJ
  unfold ay_l1
  simp only
  by_cases h:i < 200
  ·rw [if_pos h]
   simp only [aa]
   have fin:∀ (x:UInt64) (c' : Ta),∃ r,((cy x (ac (k:Int))).bind fun s186=>some (Sum.inl (ab s186,c', (0:Int)):(Int × Ta × Int) ⊕ Unit)) = some r/\(r = .inr () ∨ ∃ (v:Int) (c' : Ta),r = .inl (v,c', 0)/\0 <= v/\v < k):=fun x c' =>by
    obtain ⟨v,v1,v2⟩:=hrem x
    rw [v1]
    simp only [aa]
    refine ⟨_,rfl,.inr ⟨_,_,rfl,?_,?_⟩⟩ <;> rw [cO (by omega)] <;> omega
   split
   ·exact fin _ _
   ·split
    ·exact fin _ _
    ·exact hJ _ (by simp only; omega) (by simp only; omega)
  ·rw [if_neg h]; exact ⟨_,rfl,.inl rfl⟩) n (0,c.fc) (by simp) (by simp only; omega)
 rw [e1]
 rcases e2 with rfl | ⟨v,c', rfl,h3,h4⟩
 ·exact ⟨_,_,_,rfl,.inr rfl⟩
 ·exact ⟨_,_,_,rfl,.inl ⟨rfl,h3,h4⟩⟩
theorem dM (n:Nat) (g:Tb) (h:Valid g) (hn:300 < n) (a:Nat):∃ u,ae (ac_l2 n g (a:Int)) n ((0:UInt64),0) = some u/\∀ b,bit u b = true ↔ Adj g a b:=by
 have hlen:=h.len; have h64:=h.n64
 refine aw (B:=ac_l2 n g (a:Int)) (fun s=>g.fh.length - s.2) (fun (u,i)=>i <= g.fh.length/\∀ b,bit u b = true ↔ (((a:Int),(b:Int)) ∈ g.fh.take i ∨ ((b:Int),(a:Int)) ∈ g.fh.take i)) (fun u=>∀ b,bit u b = true ↔ Adj g a b) (fun ⟨u,i⟩ J ⟨q1,q2⟩ hJ=>?_) n (0,0) ⟨by simp,fun b=>by simp [aI]⟩ (by simp only; omega)
 simp only at q1 q2 hJ
 unfold ac_l2
 simp only
 by_cases hi:i < g.fh.length
 ·rw [if_pos hi,geE hi]
  simp only [aa]
  generalize he:g.fh[i] = e
  have hmem:e ∈ g.fh:=he ▸ List.getElem_mem hi
  obtain ⟨o1,o2,o3⟩:=h.ok e hmem
  have htake:g.fh.take (i + 1) = g.fh.take i ++ [e]:=by rw [List.take_succ_eq_append_getElem hi,he]
  by_cases c1:e.1 = (a:Int)
  ·rw [if_pos c1,aG (by omega)]
   simp only [aa]
   rw [aG (by omega)]
   simp only [aa]
   rw [aN (by omega)]
   simp only [aa]
   refine hJ _ ⟨by simp only; omega,fun b=>?_⟩ (by simp only; omega)
   simp only
   rw [bj,aY (by omega),Bool.or_eq_true,decide_eq_true_eq,q2,htake,List.mem_append,List.mem_append,List.mem_singleton,List.mem_singleton]
   constructor
   ·rintro ((k | k) | k)
    ·exact .inl (.inl k)
    ·exact .inr (.inl k)
    ·left; right; apply Prod.ext <;> simp only <;> omega
   ·rintro ((k | k) | (k | k))
    ·exact .inl (.inl k)
    ·right; have:=congrArg Prod.snd k; simp only at this; omega
    ·exact .inl (.inr k)
    ·exfalso; have:=congrArg Prod.snd k; simp only at this; omega
  ·rw [if_neg c1]
   simp only [jn]
   by_cases c2:e.2 = (a:Int)
   ·rw [if_pos c2,aG (by omega)]
    simp only [aa]
    rw [aG (by omega)]
    simp only [aa]
    rw [aN (by omega)]
    simp only [aa]
    refine hJ _ ⟨by simp only; omega,fun b=>?_⟩ (by simp only; omega)
    simp only
    rw [bj,aY (by omega),Bool.or_eq_true,decide_eq_true_eq,q2,htake,List.mem_append,List.mem_append,List.mem_singleton,List.mem_singleton]
    constructor
    ·rintro ((k | k) | k)
     ·exact .inl (.inl k)
     ·exact .inr (.inl k)
     ·right; right; apply Prod.ext <;> simp only <;> omega
    ·rintro ((k | k) | (k | k))
     ·exact .inl (.inl k)
     ·exfalso; have:=congrArg Prod.fst k; simp only at this; omega
     ·exact .inl (.inr k)
     ·right; have:=congrArg Prod.fst k; simp only at this; omega
   ·rw [if_neg c2]
    refine hJ _ ⟨by simp only; omega,fun b=>?_⟩ (by simp only; omega)
    simp only
    rw [q2,htake,List.mem_append,List.mem_append,List.mem_singleton,List.mem_singleton]
    constructor
    ·rintro (k | k)
     ·exact .inl (.inl k)
     ·exact .inr (.inl k)
    ·rintro ((k | k) | (k | k))
     ·exact .inl k
     ·exfalso; have:=congrArg Prod.fst k; simp only at this; omega
     ·exact .inr k
     ·exfalso; have:=congrArg Prod.snd k; simp only at this; omega
 ·rw [if_neg hi]
  refine ⟨_,rfl,fun b=>?_⟩
  rw [q2,List.take_of_length_le (by omega)]
  rfl
theorem dh (n:Nat) (u:UInt64) (hn:300 < n):ae (ac_l1 n) n (u,([]:List Int)) = some ((ap u).map fun k:Nat=>(k:Int)):=by
 have hloop:=cK (B:=ac_l1 n) (fun s=>s) (fun t (xs:List Int)=>app xs ([((t:Nat):Int)]:List Int)) (fun J u s=>by
  unfold ac_l1
  simp only
  by_cases h0:u = 0
  ·rw [if_pos h0,if_pos h0]
  ·rw [if_neg h0,if_neg h0,gE n h0]
   rfl) (ap u).length n u [] (Nat.le_refl _) (by have:=aW u; omega)
 rw [hloop]
 have key:∀ (ts:List Nat) (xs:List Int),xs.length + ts.length <= 64 -> (ts.foldlM (fun xs t=>app xs ([((t:Nat):Int)]:List Int)) xs:Option (List Int)) = some (xs ++ ts.map fun k:Nat=>(k:Int)):=by
  intro ts
  induction ts with
  | nil=>intro xs _; simp
  | cons t ts ih=>
   intro xs h
   simp only [leC] at h
   rw [List.foldlM_cons,cM (by simp only [List.length_singleton]; omega)]
   have:=ih (xs ++ [(t:Int)]) (by simp only [List.length_append,List.length_singleton]; omega)
   simp only [Option.bind_eq_bind,Option.bind_some]
   rw [this]
   simp
 rw [key (ap u) [] (by have:=aW u; simpa using this)]
 simp
structure Walked (g:Tb) (s v:UInt64) (x:Nat) (w:List Nat):Prop where
 first:w[0]? = some x
 inside:∀ y ∈ w,bit s y = true
 steps:∀ (i:Nat) a b,w[i]? = some a -> w[i + 1]? = some b -> Adj g a b
 away:∀ (i:Nat) a,w[i]? = some a -> i + 1 < w.length -> bit v a = false
theorem Walked.way {g:Tb} {s v:UInt64} {x:Nat} {w:List Nat} (h:Walked g s v x w):∀ (i y:Nat),w[i]? = some y -> Way g s x i y
 | 0,y,hy=>by
  have:=h.first
  rw [hy] at this
  cases this
  exact .here
 | i + 1,y,hy=>by
  have hi:i < w.length:=by have:=(List.getElem?_eq_some_iff.1 hy).1; omega
  exact .on (h.way i w[i] (geE hi)) (h.steps i _ y (geE hi) hy) (h.inside y (List.mem_of_getElem? hy))
theorem Way.back {g:Tb} {s:UInt64} {x m y:Nat} (hx:bit s x = true) (h:Way g s x m y):Way g s y m x:=by
 have app:∀ {a b c:Nat} {k j:Nat},Way g s a k b -> Way g s b j c -> Way g s a (k + j) c:=by
  intro a b c k j h1 h2
  induction h2 with
  | here=>exact h1
  | on _ k2 hb ih=>exact .on ih k2 hb
 induction h with
 | here=>exact .here
 | on hw k hb ih=>
  rename_i m a b
  have h1:Way g s b 1 a:=.on .here k.symm (hw.inside hx)
  have:=app h1 ih
  rwa [Nat.add_comm] at this
theorem Way.far {g:Tb} {s:UInt64} {a b m:Nat} (h:Way g s a m b) (hne:a ≠ b):∃ c,Adj g a c/\bit s c = true:=by
 induction h with
 | here=>exact absurd rfl hne
 | on hw k hb ih=>
  rename_i m' a' b'
  by_cases e:a = a'
  ·subst e; exact ⟨_,k,hb⟩
  ·exact ih e
theorem Way.add {g:Tb} {s:UInt64} {a b c k j:Nat} (h1:Way g s a k b) (h2:Way g s b j c):Way g s a (k + j) c:=by
 induction h2 with
 | here=>exact h1
 | on _ k2 hb ih=>exact .on ih k2 hb
theorem eU (n:Nat) (g:Tb) (h:Valid g) (hn:10010 < n) (s v:UInt64) (x:Nat) (c:UInt64) (left:Nat) (hleft:left <= 10000) (hs:bu g.fN s) (hx:bit s x = true) (y m:Nat) (hy:bit v y = true) (hm:Way g s x m y) :
  ∃ r,ae (ac_l3 n v g s) n ((x:Int),[(x:Int)],c,(left:Int)) = some r/\(r = .inl ([],⟨0⟩,9) ∨ ∃ (w:List Nat) (c' : UInt64) (z:Nat),r = .inr (w.map (fun k:Nat=>(k:Int)),c')/\Walked g s v x w/\w.length <= left + 1/\w[w.length - 1]? = some z/\bit v z = true/\(bit v x = true -> c' = c)):=by
 have h64:=h.n64
 obtain ⟨r,e1,e2⟩:=aw (B:=ac_l3 n v g s) (fun (_,_,_,l)=>l.toNat) (fun (z,xs,c0,l)=>∃ (k:Nat) (w:List Nat) (q:Nat),z = (k:Int)/\xs = w.map (fun k:Nat=>(k:Int))/\l = (q:Int)/\w.length + q = left + 1/\0 < w.length/\w[w.length - 1]? = some k/\Walked g s v x w/\(w.length = 1 -> c0 = c))
  (fun r=>r = .inl ([],⟨0⟩,9) ∨ ∃ (w:List Nat) (c' : UInt64) (z:Nat),r = .inr (w.map (fun k:Nat=>(k:Int)),c')/\Walked g s v x w/\w.length <= left + 1/\w[w.length - 1]? = some z/\bit v z = true/\(bit v x = true -> c' = c)) (fun ⟨z,xs,c0,l⟩ J hI hJ=>by
  simp only at hI hJ
  obtain ⟨k,w,q,rfl,rfl,rfl,hl,hpos,hlast,hw,hc⟩:=hI
  unfold ac_l3
  simp only
  rw [aN (by omega),Int.toNat_natCast]
  simp only [aa]
  by_cases hv:bit v k = true
  ·rw [if_pos ((bn v k).2 hv)]
   refine ⟨_,rfl,.inr ⟨w,c0,k,rfl,hw,by omega,hlast,hv,fun hx' =>hc ?_⟩⟩
   apply Classical.byContradiction
   intro hne
   have:=hw.away 0 x hw.first (by omega)
   rw [hx'] at this; cases this
  ·rw [if_neg (fun e=>hv ((bn v k).1 e))]
   by_cases hq:q = 0
   ·subst hq; rw [if_pos (by omega)]; exact ⟨_,rfl,.inl rfl⟩
   ·rw [if_neg (by omega),aG (by omega)]
    simp only [aa]
    obtain ⟨u,u1,u2⟩:=dM n g h (by omega) k
    rw [u1]
    simp only [aa]
    rw [dh n _ (by omega)]
    simp only [aa]
    have hkw:Way g s x (w.length - 1) k:=hw.way _ k hlast
    have hk:bit s k = true:=hkw.inside hx
    obtain ⟨b,b1,b2⟩:=((hkw.back hx).add hm).far (fun e=>hv (e ▸ hy))
    have hbm:b ∈ ap (u &&& s):=aR.2 (by rw [ba,(u2 b).2 b1,b2]; rfl)
    have hlen:=aW (u &&& s)
    have hne:1 <= (ap (u &&& s)).length:=by
     rcases Nat.eq_zero_or_pos (ap (u &&& s)).length with h0 | h0
     ·rw [List.length_eq_zero_iff.1 h0] at hbm; cases hbm
     ·exact h0
    obtain ⟨vv,c', e,e1,e2⟩:=gR n ⟨c0⟩ (ap (u &&& s)).length hne (by omega) (by omega)
    rw [List.length_map,e1]
    simp only [aa]
    rcases e2 with ⟨rfl,e2,e3⟩ | rfl
    ·rw [if_pos rfl]
     have hvl:vv.toNat < (ap (u &&& s)).length:=by omega
     rw [eY e2 (by rw [List.length_map]; omega)]
     simp only [aa]
     rw [List.getElem_map]
     generalize hb' : (ap (u &&& s))[vv.toNat] = b'
     have hb'm:b' ∈ ap (u &&& s):=hb' ▸ List.getElem_mem hvl
     have hb'b:=aR.1 hb'm
     rw [ba,Bool.and_eq_true,u2] at hb'b
     rw [cM (by simp only [List.length_map,List.length_singleton]; omega)]
     simp only [aa]
     refine hJ _ ⟨b', w ++ [b'],q - 1,rfl,by simp,show ((q:Int) - 1) = ((q - 1:Nat):Int) by omega,by simp only [List.length_append,List.length_singleton]; omega,by simp,by simp,⟨?_,?_,?_,?_⟩,fun h1=>?_⟩ (by simp only; omega)
     ·rw [List.getElem?_append_left hpos]; exact hw.first
     ·intro y' hy'
      rcases List.mem_append.1 hy' with hy' | hy'
      ·exact hw.inside y' hy'
      ·rcases List.mem_singleton.1 hy' with rfl; exact hb'b.2
     ·intro i a b'' ha hb''
      by_cases hi:i + 1 < w.length
      ·rw [List.getElem?_append_left (by omega)] at ha
       rw [List.getElem?_append_left hi] at hb''
       exact hw.steps i a b'' ha hb''
      ·have hil:i + 1 = w.length:=by
        have:=(List.getElem?_eq_some_iff.1 hb'').1
        simp only [List.length_append,List.length_singleton] at this
        omega
       rw [List.getElem?_append_left (by omega)] at ha
       rw [List.getElem?_append_right (by omega),hil,Nat.sub_self] at hb''
       have h1:i = w.length - 1:=by omega
       rw [h1,hlast] at ha
       cases ha; cases hb''
       exact hb'b.1
     ·intro i a ha hi
      simp only [List.length_append,List.length_singleton] at hi
      rw [List.getElem?_append_left (by omega)] at ha
      by_cases hi2:i + 1 < w.length
      ·exact hw.away i a ha hi2
      ·have h1:i = w.length - 1:=by omega
       rw [h1,hlast] at ha
       cases ha
       cases hb:bit v k with
       | false=>rfl
       | true=>exact absurd hb hv
     ·simp only [List.length_append,List.length_singleton] at h1; omega
    ·rw [if_neg (by omega)]
     exact ⟨_,rfl,.inl rfl⟩) n ((x:Int),[(x:Int)],c,(left:Int)) ⟨x,[x],left,rfl,rfl,rfl,by simp; omega,by simp,by simp,⟨by simp,fun y hy=>by simp at hy; subst hy; exact hx,fun i a b ha hb=>by
    have:=(List.getElem?_eq_some_iff.1 hb).1; simp at this,fun i a ha hi=>by simp at hi⟩,fun _=>rfl⟩ (by simp only; omega)
 exact ⟨r,e1,e2⟩
def bD (g:Tb) (s v:UInt64) (x:Nat):Prop:=∃ m y,Way g s x m y/\bit v y = true
theorem dw (n:Nat) (g:Tb) (s v:UInt64) (x:Nat) (far:List Int) (e:Int) (hd:Dist g s x far) (hl:far.length <= 64) (hn:300 < n):∃ q,ae (ac_l4 n (far,e) v) n (false,0) = some q/\(q = true ↔ bD g s v x):=by
 refine aw (B:=ac_l4 n (far,e) v) (fun s=>far.length - s.2) (fun (q,i)=>i <= far.length/\(q = true ↔ ∃ j d,j < i/\far[j]? = some d/\0 <= d/\bit v j = true)) (fun q=>q = true ↔ bD g s v x) (fun ⟨q,i⟩ J ⟨q1,q2⟩ hJ=>?_) n (false,0) ⟨by simp,by simp⟩ (by simp only; omega)
 simp only at q1 q2 hJ
 unfold ac_l4
 simp only
 by_cases hi:i < far.length
 ·rw [if_pos hi,geE hi]
  simp only [aa]
  have split:(∃ j d,j < i + 1/\far[j]? = some d/\0 <= d/\bit v j = true) ↔ (∃ j d,j < i/\far[j]? = some d/\0 <= d/\bit v j = true) ∨ (0 <= far[i]/\bit v i = true):=by
   constructor
   ·rintro ⟨j,d,h1,h2,h3,h4⟩
    by_cases hj:j = i
    ·subst hj; rw [geE hi] at h2; cases h2; exact .inr ⟨h3,h4⟩
    ·exact .inl ⟨j,d,by omega,h2,h3,h4⟩
   ·rintro (⟨j,d,h1,h2,h3,h4⟩ | ⟨h1,h2⟩)
    ·exact ⟨j,d,by omega,h2,h3,h4⟩
    ·exact ⟨i,far[i],by omega,geE hi,h1,h2⟩
  cases q with
  | true=>
   rw [if_pos rfl]
   exact hJ _ ⟨by simp only; omega,by simp only; rw [split]; exact ⟨fun _=>.inl (q2.1 rfl),fun _=>trivial⟩⟩ (by simp only; omega)
  | false=>
   rw [if_neg (by simp)]
   have hno:¬ ∃ j d,j < i/\far[j]? = some d/\0 <= d/\bit v j = true:=fun h=>by have:=q2.2 h; cases this
   by_cases h0:0 <= far[i]
   ·rw [if_pos h0]
    refine hJ _ ⟨by simp only; omega,?_⟩ (by simp only; omega)
    simp only
    rw [split,decide_eq_true_eq,bn]
    constructor
    ·intro h; exact .inr ⟨h0,h⟩
    ·rintro (h | h)
     ·exact absurd h hno
     ·exact h.2
   ·rw [if_neg h0]
    refine hJ _ ⟨by simp only; omega,?_⟩ (by simp only; omega)
    simp only
    rw [split]
    constructor
    ·intro h; cases h
    ·rintro (h | h)
     ·exact absurd h hno
     ·exact absurd h.1 h0
 ·rw [if_neg hi]
  refine ⟨_,rfl,?_⟩
  rw [q2]
  constructor
  ·rintro ⟨j,d,_,h2,h3,h4⟩
   exact ⟨_,j,hd.ways j d h2 h3,h4⟩
  ·rintro ⟨m,y,hw,hy⟩
   obtain ⟨d,d1,d2,_⟩:=hd.least y m hw
   have:=(List.getElem?_eq_some_iff.1 d1).1
   exact ⟨y,d,by omega,d1,d2,hy⟩
theorem ej (n:Nat) (g:Tb) (s v:UInt64) (x:Nat) (c:UInt64) (l:Int) (hn:0 < n) (hv:bit v x = true):ae (ac_l3 n v g s) n ((x:Int),[(x:Int)],c,l) = some (.inr ([(x:Int)],c)):=by
 obtain ⟨k,rfl⟩:∃ k,n = k + 1:=⟨n - 1,by omega⟩
 rw [bG]
 generalize ae (ac_l3 (k + 1) v g s) k = J
 unfold ac_l3
 simp only
 rw [aN (by omega),Int.toNat_natCast]
 simp only [aa]
 rw [if_pos ((bn v x).2 hv)]
theorem walk_ok (n:Nat) (g:Tb) (h:Valid g) (hn:10010 < n) (s v:UInt64) (x:Nat) (c:Ta) (hs:bu g.fN s) (hv:bu g.fN v) (hxN:(x:Int) < g.fN) :
  ∃ r,ac_p n g s (x:Int) v c = some r/\((bit s x = false/\r = ([],⟨0⟩,2) ∨ bit s x = true/\(¬ bD g s v x/\r = ([],⟨0⟩,4) ∨ bD g s v x/\(r = ([],⟨0⟩,9) ∨
   ∃ (w:List Nat) (c' : Ta) (z:Nat),r = (w.map (fun k:Nat=>(k:Int)),c', 0)/\Walked g s v x w/\w.length <= 10001/\w[w.length - 1]? = some z/\bit v z = true))))/\(bit s x = true -> bit v x = true -> r = ([(x:Int)],c,0)):=by
 have h1:=h.n1; have h64:=h.n64
 unfold ac_p
 rw [h.check (by omega)]
 simp only [aa]
 rw [ifT]
 obtain ⟨b1,f1,f2⟩:=fits_p n g s (by omega)
 obtain ⟨b2,f3,f4⟩:=fits_p n g v (by omega)
 have:b1 = true:=f2.2 hs
 subst this
 have:b2 = true:=f4.2 hv
 subst this
 simp only [jn]
 rw [f1]
 simp only [aa]
 rw [ifT,f3]
 simp only [aa]
 rw [ifT,if_neg (by omega),if_neg (by omega),aN (by omega),Int.toNat_natCast]
 simp only [aa]
 by_cases hx:bit s x = true
 ·have hnx:¬ (shrU s x &&& 1 = 0):=fun e=>by rw [(cG s x).1 e] at hx; cases hx
  rw [decide_eq_false hnx,if_neg (by simp)]
  obtain ⟨far,d1,d2⟩:=cr n g h (by omega) s x hs hx
  rw [d1]
  simp only [aa]
  obtain ⟨q,r1,r2⟩:=dw n g s v x far 0 d2 (by have:=d2.len; omega) (by omega)
  rw [r1]
  simp only [aa]
  by_cases hr:bD g s v x
  ·rw [if_pos (r2.2 hr)]
   obtain ⟨m,y,hw,hy⟩:=hr
   obtain ⟨r,e1,e2⟩:=eU n g h hn s v x c.fc 10000 (by omega) hs hx y m hy hw
   rw [show ((10000:Nat):Int) = 10000 from rfl] at e1
   rw [e1]
   have here:bit v x = true -> r = .inr ([(x:Int)],c.fc):=fun hv' =>by
    have:=ej n g s v x c.fc 10000 (by omega) hv'
    rw [e1] at this
    exact Option.some.inj this
   rcases e2 with rfl | ⟨w,c', z,rfl,w1,w2,w3,w4,_⟩
   ·exact ⟨_,rfl,.inr ⟨hx,.inr ⟨⟨m,y,hw,hy⟩,.inl rfl⟩⟩,fun _ hv' =>by have:=here hv'; cases this⟩
   ·refine ⟨_,rfl,.inr ⟨hx,.inr ⟨⟨m,y,hw,hy⟩,.inr ⟨w,⟨c'⟩,z,rfl,w1,w2,w3,w4⟩⟩⟩,fun _ hv' =>?_⟩
    have:=Sum.inr.inj (here hv')
    rw [(Prod.mk.inj this).1,(Prod.mk.inj this).2]
  ·rw [if_neg (fun e=>hr (r2.1 e))]
   exact ⟨_,rfl,.inr ⟨hx,.inl ⟨hr,rfl⟩⟩,fun _ hv' =>absurd ⟨0,x,.here,hv'⟩ hr⟩
 ·have hx' : bit s x = false:=by cases hb:bit s x with
   | false=>rfl
   | true=>exact absurd hb hx
  rw [decide_eq_true ((cG s x).2 hx'),ifTT]
  exact ⟨_,rfl,.inl ⟨hx', rfl⟩,fun h=>absurd h hx⟩
end Go.Proofs.YtlleajifdbnbaaaGreatDoor
namespace Go.Proofs.YtlleajifdbnbaaaGreatDoor
open Go
theorem gc {x:Int} (h1:-9223372036854775808 <= x) (h2:x <= 9223372036854775807):chk x = some x:=if_pos ⟨h1,h2⟩
theorem em {α:Type} {xs:List α} {i:Int} (h0:0 <= i) (h:i.toNat < xs.length):idx xs i = some xs[i.toNat]:=by unfold idx; rw [if_pos h0,geE h]
theorem cutN_ok {α:Type} {xs:List α} {z:Nat} (h:z <= xs.length):cut xs 0 (z:Int) = some (xs.take z):=by
 unfold cut; rw [if_pos ⟨Int.le_refl _,Int.natCast_nonneg _,by omega⟩]; rfl
theorem appS {α:Type} (xs ys:List α) (h:xs.length + ys.length <= 1000000):app xs ys = some (xs ++ ys):=if_pos (Nat.le_trans h (by decide))
theorem cZ {α:Type} {l:List α} {n:Nat} (h:l.length <= n):l.take n = l:=List.take_of_length_le h
def dv:List Int -> Nat
 | []=>0
 | x :: xs=>x.toNat + 4294967296 * dv xs
def Dig (xs:List Int):Prop:=∀ x ∈ xs,0 <= x/\x < 4294967296
theorem dig_nil:Dig []:=fun x hx=>by cases hx
theorem dW (xs ys:List Int):dv (xs ++ ys) = dv xs + 4294967296 ^ xs.length * dv ys:=by
 induction xs with
 | nil=>simp [dv]
 | cons x xs ih=>simp only [List.cons_append,dv,ih,leC,Nat.pow_succ]; grind
theorem Dig.tl {x:Int} {xs:List Int} (h:Dig (x :: xs)):Dig xs:=fun y hy=>h y (List.mem_cons_of_mem _ hy)
theorem en:∀ {xs:List Int},Dig xs -> dv xs < 4294967296 ^ xs.length
 | [],_=>by simp [dv]
 | x :: xs,h=>by
  have h1:=h x (List.mem_cons_self ..)
  have h2:4294967296 * (dv xs + 1) <= 4294967296 * 4294967296 ^ xs.length:=Nat.mul_le_mul_left _ (en h.tl)
  simp only [dv,leC,Nat.pow_succ]
  rw [Nat.mul_comm (_ ^ _)]
  omega
theorem cW (a:List Int) {i:Nat} (h:i < a.length):dv (a.take (i + 1)) = dv (a.take i) + 4294967296 ^ i * a[i].toNat:=by
 rw [<- List.take_append_getElem h,dW,List.length_take,Nat.min_eq_left (Nat.le_of_lt h)]
 simp [dv]
theorem ep (b:List Int) (i:Nat):dv (b.take (i + 1)) = dv (b.take i) + 4294967296 ^ i * (b[i]?.getD 0).toNat:=by
 by_cases h:i < b.length
 ·rw [cW b h,geE h]; rfl
 ·rw [cZ (by omega),cZ (by omega),List.getElem?_eq_none (by omega)]; simp
theorem er (a:List Int) {i:Nat} (h:i < a.length):dv a = dv (a.take i) + 4294967296 ^ i * a[i].toNat + 4294967296 ^ (i + 1) * dv (a.drop (i + 1)):=by
 conv=>lhs; rw [<- List.take_append_drop (i + 1) a,dW]
 rw [cW a h,List.length_take,Nat.min_eq_left (by omega)]
theorem fA:∀ (xs:List Int),(∀ x ∈ xs,x = 0) -> dv xs = 0
 | [],_=>rfl
 | x :: xs,h=>by
  have h1:=h x (List.mem_cons_self ..)
  have h2:=fA xs fun y hy=>h y (List.mem_cons_of_mem _ hy)
  subst h1; simp [dv,h2]
def rd (m:Nat):List Int:=if m = 0 then [] else ((m % 4294967296:Nat):Int) :: rd (m / 4294967296)
termination_by m
decreasing_by exact Nat.div_lt_self (by omega) (by omega)
theorem rd0:rd 0 = []:=by unfold rd; simp
theorem eJ {m:Nat} (h:m ≠ 0):rd m = ((m % 4294967296:Nat):Int) :: rd (m / 4294967296):=by rw [rd]; rw [if_neg h]
theorem bf (m:Nat):dv (rd m) = m:=by
 induction m using Nat.strongRecOn with
 | _ m ih=>
  by_cases h:m = 0
  ·subst h; rw [rd0]; rfl
  ·rw [eJ h]; simp only [dv]
   rw [ih _ (Nat.div_lt_self (by omega) (by omega)),Int.toNat_natCast]
   exact Nat.mod_add_div m 4294967296
theorem br (m:Nat):Dig (rd m):=by
 induction m using Nat.strongRecOn with
 | _ m ih=>
  by_cases h:m = 0
  ·subst h; rw [rd0]; intro x hx; cases hx
  ·rw [eJ h]
   intro x hx
   rcases List.mem_cons.1 hx with rfl | hx
   ·omega
   ·exact ih _ (Nat.div_lt_self (by omega) (by omega)) x hx
def Nr (xs:List Int):Prop:=∀ x,xs.getLast? = some x -> x ≠ 0
theorem Nr.tail {x y:Int} {xs:List Int} (h:Nr (x :: y :: xs)):Nr (y :: xs):=fun z hz=>h z (by rw [List.getLast?_cons_cons]; exact hz)
theorem fK:∀ {xs:List Int},Dig xs -> Nr xs -> xs ≠ [] -> 4294967296 ^ (xs.length - 1) <= dv xs
 | [],_,_,h=>absurd rfl h
 | [x],hd,h,_=>by
  have h1:=h x rfl
  have h2:=hd x (List.mem_cons_self ..)
  simp only [dv,leC,leN]
  show 4294967296 ^ 0 <= _
  rw [Nat.pow_zero]; omega
 | x :: y :: xs,hd,h,_=>by
  have h1:=fK hd.tl h.tail (by simp)
  have h2:4294967296 * 4294967296 ^ xs.length <= 4294967296 * dv (y :: xs):=Nat.mul_le_mul_left _ (by simpa using h1)
  show 4294967296 ^ (xs.length + 1) <= x.toNat + 4294967296 * dv (y :: xs)
  rw [Nat.pow_succ,Nat.mul_comm]; omega
theorem dv_pos {xs:List Int} (hd:Dig xs) (h:Nr xs) (h0:xs ≠ []):0 < dv xs:=by
 have:=fK hd h h0
 have h2:0 < 4294967296 ^ (xs.length - 1):=Nat.pow_pos (by decide)
 omega
theorem gF:∀ {xs:List Int},Dig xs -> Nr xs -> rd (dv xs) = xs
 | [],_,_=>rd0
 | x :: xs,hd,h=>by
  have hp:=dv_pos hd h (by simp)
  have hx:=hd x (List.mem_cons_self ..)
  rw [eJ (by omega)]
  have h1:((dv (x :: xs) % 4294967296:Nat):Int) = x:=by simp only [dv]; omega
  have h2:dv (x :: xs) / 4294967296 = dv xs:=by simp only [dv]; omega
  have h3:Nr xs:=by
   cases xs with
   | nil=>intro z hz; simp at hz
   | cons y ys=>exact h.tail
  rw [h1,h2,gF hd.tl h3]
theorem gZ (m:Nat):Nr (rd m):=by
 induction m using Nat.strongRecOn with
 | _ m ih=>
  intro x hx
  by_cases h:m = 0
  ·subst h; rw [rd0] at hx; cases hx
  ·rw [eJ h] at hx
   by_cases h2:m / 4294967296 = 0
   ·rw [h2,rd0] at hx
    simp at hx
    omega
   ·have h3:=ih (m / 4294967296) (Nat.div_lt_self (by omega) (by omega))
    rw [eJ h2] at hx h3
    rw [List.getLast?_cons_cons] at hx
    exact h3 x hx
theorem dl {m l:Nat} (h:m < 4294967296 ^ l):(rd m).length <= l:=by
 by_cases h0:rd m = []
 ·rw [h0]; simp
 ·have h1:=fK (br m) (gZ m) h0
  rw [bf] at h1
  have h2:=Nat.lt_of_le_of_lt h1 h
  have h3:=(Nat.pow_lt_pow_iff_right (by omega)).1 h2
  omega
theorem rd_nil {m:Nat}:rd m = [] ↔ m = 0:=⟨fun h=>by have:=bf m; rw [h] at this; exact this.symm,fun h=>by rw [h]; exact rd0⟩
theorem fy {a b:Nat} (h:a <= b):(rd a).length <= (rd b).length:=dl (Nat.lt_of_le_of_lt h (by have:=en (br b); rwa [bf] at this))
theorem fI (n:Nat) (ws:List Int) (hd:Dig ws) (hn:ws.length < n) (hl:ws.length <= 1000000):aj_p n ws = some (rd (dv ws)):=by
 have h:=aw (B:=aj_l1 n ws) (fun z:Int=>z.toNat) (fun z=>0 <= z/\z <= ws.length/\∀ i:Nat,z.toNat <= i -> ∀ h:i < ws.length,ws[i] = 0)
  (fun z=>∃ k:Nat,z = k/\k <= ws.length/\(∀ i:Nat,k <= i -> ∀ h:i < ws.length,ws[i] = 0)/\∀ h:0 < k,∀ h2:k - 1 < ws.length,ws[k - 1] ≠ 0) ?_ n (ws.length:Int) ⟨by omega,by omega,fun i h1 h2=>by omega⟩ (by simpa using hn)
 ·obtain ⟨z,hz,k,rfl,hk,hz0,hz1⟩:=h
  have e:dv ws = dv (ws.take k):=by
   conv=>lhs; rw [<- List.take_append_drop k ws,dW]
   rw [fA (ws.drop k) fun x hx=>?_]
   ·simp
   ·obtain ⟨i,hi,rfl⟩:=List.getElem_of_mem hx
    rw [List.getElem_drop]
    exact hz0 _ (by omega) _
  have hnm:Nr (ws.take k):=by
   intro x hx
   rw [List.getLast?_eq_getElem?,List.length_take,Nat.min_eq_left hk] at hx
   obtain ⟨h1,rfl⟩:=List.getElem?_eq_some_iff.1 hx
   have h2:k - 1 < ws.length:=by rw [List.length_take] at h1; omega
   by_cases h0:0 < k
   ·rw [List.getElem_take]; exact hz1 h0 h2
   ·rw [List.length_take] at h1; omega
  have e2:rd (dv ws) = ws.take k:=by rw [e]; exact gF (fun x hx=>hd x (List.mem_of_mem_take hx)) hnm
  unfold aj_p jn
  simp only [hz,aa,cutN_ok hk,e2]
 ·intro z J ⟨h1,h2,h3⟩ hJ
  unfold aj_l1
  simp only
  by_cases h0:0 < z
  ·rw [if_pos h0,gc (by omega) (by omega),aa,em (by omega) (by omega),aa]
   split
   ·rename_i hx
    rw [aa]
    refine hJ (z - 1) ⟨by omega,by omega,fun i h4 h5=>?_⟩ (by omega)
    by_cases h6:i = (z - 1).toNat
    ·subst h6; exact hx
    ·exact h3 i (by omega) h5
   ·rename_i hx
    refine ⟨z,rfl,z.toNat,by omega,by omega,h3,fun h4 h5=>?_⟩
    have:(z - 1).toNat = z.toNat - 1:=by omega
    simp only [this] at hx
    exact hx
  ·rw [if_neg h0]
   exact ⟨z,rfl,0,by omega,by omega,fun i h4 h5=>h3 i (by omega) h5,fun h4=>by omega⟩
theorem fH {a b:List Int} (ha:Dig a) (hbd:Dig b) (hb:Nr b) (h:a.length < b.length):dv a < dv b:=by
 have h1:=en ha
 have h2:=fK hbd hb (by intro e; rw [e] at h; simp at h)
 have h3:4294967296 ^ a.length <= 4294967296 ^ (b.length - 1):=Nat.pow_le_pow_right (by omega) (by omega)
 omega
theorem eD {a b:List Int} {i:Nat} (hda:Dig a) (hdb:Dig b) (ha:i < a.length) (hb:i < b.length) (hd:a.drop (i + 1) = b.drop (i + 1)) (h:a[i] < b[i]):dv a < dv b:=by
 rw [er a ha,er b hb,hd]
 have h1:=en (xs:=a.take i) fun x hx=>hda x (List.mem_of_mem_take hx)
 rw [List.length_take,Nat.min_eq_left (by omega)] at h1
 have h3:=hda a[i] (List.getElem_mem _)
 have h4:=hdb b[i] (List.getElem_mem _)
 have h2:4294967296 ^ i * (a[i].toNat + 1) <= 4294967296 ^ i * b[i].toNat:=Nat.mul_le_mul_left _ (by omega)
 rw [Nat.mul_add] at h2
 omega
theorem gC (n:Nat) (a b:List Int) (hda:Dig a) (hdb:Dig b) (ha:Nr a) (hb:Nr b) (hn:a.length < n) (hl:a.length < 1000000):∃ c,au_p n a b = some c/\(c < 0 ↔ dv a < dv b)/\(c = 0 ↔ dv a = dv b):=by
 unfold au_p
 by_cases h:a.length = b.length
 ·rw [if_pos h]
  have hh:=aw (B:=au_l1 n a b) (fun z:Int=>(z + 1).toNat) (fun z=>-1 <= z/\z < a.length/\a.drop (z + 1).toNat = b.drop (z + 1).toNat)
   (fun r=>(∃ c,r = .inl c/\(c < 0/\dv a < dv b ∨ 0 < c/\dv b < dv a)) ∨ (r = .inr ()/\a = b)) ?_ n ((a.length:Int) - 1) ⟨by omega,by omega,?_⟩ (by omega)
  ·obtain ⟨r,hr,⟨c,h1,h2⟩ | h1⟩:=hh
   ·rw [hr,h1]; exact ⟨_,rfl,by omega,by omega⟩
   ·rw [hr,h1.1,h1.2]; exact ⟨_,rfl,by omega,by omega⟩
  ·intro z J ⟨h1,h2,h3⟩ hJ
   unfold au_l1
   simp only
   by_cases h0:0 <= z
   ·have e1:(z + 1).toNat = z.toNat + 1:=by omega
    rw [e1] at h3
    have d1:=hda (a[z.toNat]'(by omega)) (List.getElem_mem _)
    have d2:=hdb (b[z.toNat]'(by omega)) (List.getElem_mem _)
    rw [if_pos h0,em h0 (by omega),aa,em h0 (by omega),aa]
    split
    ·rename_i he
     rw [gc (by omega) (by omega),aa]
     refine hJ (z - 1) ⟨by omega,by omega,?_⟩ (by omega)
     rw [show (z - 1 + 1).toNat = z.toNat by omega,List.drop_eq_getElem_cons (by omega),List.drop_eq_getElem_cons (l:=b) (by omega),h3,he]
    ·rename_i hne
     rw [gc (by omega) (by omega),aa]
     by_cases hlt:a[z.toNat]'(by omega) < b[z.toNat]'(by omega)
     ·exact ⟨_,rfl,.inl ⟨_,rfl,.inl ⟨by omega,eD hda hdb (by omega) (by omega) h3 hlt⟩⟩⟩
     ·exact ⟨_,rfl,.inl ⟨_,rfl,.inr ⟨by omega,eD hdb hda (by omega) (by omega) h3.symm (by omega)⟩⟩⟩
   ·rw [if_neg h0]
    have e1:(z + 1).toNat = 0:=by omega
    rw [e1] at h3
    exact ⟨_,rfl,.inr ⟨rfl,by simpa using h3⟩⟩
  ·rw [show ((a.length:Int) - 1 + 1).toNat = a.length by omega,List.drop_length,h,List.drop_length]
 ·rw [if_neg h]
  refine ⟨_,rfl,?_⟩
  by_cases h1:a.length < b.length
  ·have:=fH hda hdb hb h1; omega
  ·have:=fH (a:=b) hdb hda ha (by omega); omega
theorem eM {xs:List Int} {x:Int} (h:Dig xs) (hx:0 <= x/\x < 4294967296):Dig (xs ++ [x]):=fun y hy=>(List.mem_append.1 hy).elim (h y) fun e=>by rw [List.mem_singleton.1 e]; exact hx
theorem fS (xs:List Int) (x:Int):dv (xs ++ [x]) = dv xs + 4294967296 ^ xs.length * x.toNat:=by rw [dW]; simp [dv]
theorem ex (n:Nat) (a b:List Int) (hda:Dig a) (hdb:Dig b) (hb:b.length <= a.length) (hv:dv b <= dv a) (hn:a.length < n) (hl:a.length < 100000):ao_p n a b = some (rd (dv a - dv b)):=by
 have h:=aw (B:=ao_l1 n a b) (fun s:Nat × Nat × List Int=>a.length - s.2.1) (fun s=>s.2.1 <= a.length/\s.2.2.length = s.2.1/\s.1 <= 1/\Dig s.2.2/\dv s.2.2 + dv (b.take s.2.1) = dv (a.take s.2.1) + 4294967296 ^ s.2.1 * s.1)
  (fun r:List Int=>r.length = a.length/\Dig r/\dv r = dv a - dv b) ?_ n (0,0,[]) ⟨by simp,by simp,by simp,dig_nil,by simp [dv]⟩ (by simpa using hn)
 ·obtain ⟨xs,h1,h2,h3,h4⟩:=h
  unfold ao_p
  rw [h1,aa,fI n xs h3 (by omega) (by omega),aa,h4]
 ·rintro ⟨u,i,xs⟩ J ⟨h1,h2,h3,h4,h5⟩ hJ
  simp only at h1 h2 h3 h4 h5 hJ
  unfold ao_l1
  simp only
  by_cases hi:i < a.length
  ·have da:=hda a[i] (List.getElem_mem _)
   rw [if_pos hi,geE hi,aa,gc (by omega) (by omega),aa]
   have key:∀ y:Int,0 <= y -> y < 4294967296 -> y.toNat = (b[i]?.getD 0).toNat -> ∃ r,(if a[i] - (u:Int) - y < 0 then (chk (a[i] - (u:Int) - y + 4294967296)).bind fun s245=>(app xs ([s245]:List Int)).bind fun xs230=>J (1,i + 1,xs230) else (app xs ([a[i] - (u:Int) - y]:List Int)).bind fun xs230=>J (0,i + 1,xs230)) = some r/\r.length = a.length/\Dig r/\dv r = dv a - dv b:=by
    intro y y0 y1 hy
    split
    ·rename_i hneg
     rw [gc (by omega) (by omega),aa,appS _ _ (by simp only [leC,leN]; omega),aa]
     have e:dv (xs ++ [a[i] - (u:Int) - y + 4294967296]) + dv (b.take (i + 1)) = dv (a.take (i + 1)) + 4294967296 ^ (i + 1) * 1:=by
      rw [fS,h2,cW a hi,ep b i,<- hy,Nat.pow_succ]
      have e1:(a[i] - (u:Int) - y + 4294967296).toNat + u + y.toNat = a[i].toNat + 4294967296:=by omega
      have e2:=congrArg (4294967296 ^ i * ·) e1
      simp only [Nat.mul_add] at e2
      omega
     refine hJ (1,i + 1,_) ⟨hi,by simp only [List.length_append,leC,leN]; omega,by simp,eM h4 (by omega),by simpa using e⟩ (by simp only; omega)
    ·rename_i hneg
     rw [appS _ _ (by simp only [leC,leN]; omega),aa]
     have e:dv (xs ++ [a[i] - (u:Int) - y]) + dv (b.take (i + 1)) = dv (a.take (i + 1)) + 4294967296 ^ (i + 1) * 0:=by
      rw [fS,h2,cW a hi,ep b i,<- hy,Nat.mul_zero]
      have e1:(a[i] - (u:Int) - y).toNat + u + y.toNat = a[i].toNat:=by omega
      have e2:=congrArg (4294967296 ^ i * ·) e1
      simp only [Nat.mul_add] at e2
      omega
     refine hJ (0,i + 1,_) ⟨hi,by simp only [List.length_append,leC,leN]; omega,by simp,eM h4 (by omega),by simpa using e⟩ (by simp only; omega)
   unfold jn
   simp only
   by_cases hj:i < b.length
   ·have db:=hdb b[i] (List.getElem_mem _)
    rw [if_pos hj,geE hj,aa,gc (by omega) (by omega),aa]
    exact key b[i] db.1 db.2 (by rw [geE hj]; rfl)
   ·rw [if_neg hj]
    have:=key 0 (by decide) (by decide) (by rw [List.getElem?_eq_none (by omega)]; rfl)
    rwa [Int.sub_zero] at this
  ·rw [if_neg hi]
   have:i = a.length:=by omega
   subst this
   rw [List.take_length,cZ hb] at h5
   refine ⟨xs,rfl,h2,h4,?_⟩
   have h6:=en h4
   rw [h2] at h6
   by_cases hu:u = 0
   ·rw [hu] at h5; omega
   ·have:u = 1:=by omega
    rw [this] at h5; omega
theorem rd_pos {m:Nat}:0 < (rd m).length ↔ 0 < m:=by
 constructor
 ·intro h
  by_cases h0:m = 0
  ·rw [h0,rd0] at h; simp at h
  ·omega
 ·intro h
  rcases e:rd m with _ | ⟨x,xs⟩
  ·have:=rd_nil.1 e; omega
  ·simp
theorem cV (n:Nat) (b:Bool) (ws:List Int) (hd:Dig ws) (hn:ws.length < n) (hl:ws.length <= 1000000):ab_p n b ws = some ⟨b && decide (0 < dv ws),rd (dv ws)⟩:=by
 unfold ab_p
 rw [fI n ws hd hn hl,aa]
 cases b
 ·simp
 ·rw [if_pos rfl,decide_eq_decide.2 rd_pos,Bool.true_and]
theorem fM (w:UInt64):ab (w % (4294967296:UInt64)) = ((w.toNat % 4294967296:Nat):Int):=by
 have:=w.toNat_lt
 unfold ab
 rw [UInt64.toNat_mod,if_pos (by simp; omega)]
 rfl
theorem fR (w:UInt64):ab (w / (4294967296:UInt64)) = ((w.toNat / 4294967296:Nat):Int):=by
 have:=w.toNat_lt
 unfold ab
 rw [UInt64.toNat_div,if_pos (by simp; omega)]
 rfl
/-! ### Numbers of one word -/
theorem halves1 (n:Nat) (u:UInt64) (hn:300 < n):aL_p n (u,0,0,0,0,0,0,0) = some [ab (u % (4294967296:UInt64)),ab (u / (4294967296:UInt64)),0,0,0,0,0,0,0,0,0,0,0,0,0,0]:=by
 obtain ⟨m,rfl⟩:∃ m,n = m + 1 + 1 + 1 + 1 + 1 + 1 + 1 + 1 + 1:=⟨n - 9,by omega⟩
 kernel_rfl
theorem gX (n:Nat) (u:UInt64) (hn:300 < n):aZ_p n u = some ⟨false,rd u.toNat⟩:=by
 have hu:=aA u
 have hd:Dig [ab (u % (4294967296:UInt64)),ab (u / (4294967296:UInt64)),0,0,0,0,0,0,0,0,0,0,0,0,0,0]:=by
  rw [fM,fR]
  intro x hx
  simp only [List.mem_cons,List.not_mem_nil,or_false] at hx
  omega
 have hv:dv [ab (u % (4294967296:UInt64)),ab (u / (4294967296:UInt64)),0,0,0,0,0,0,0,0,0,0,0,0,0,0] = u.toNat:=by
  rw [fM,fR]
  simp only [dv,Int.toNat_natCast]
  have:(0:Int).toNat = 0:=rfl
  rw [this]
  omega
 unfold aZ_p bo_p
 rw [halves1 n u hn]
 simp only [aa]
 rw [if_pos (by decide),cV n false _ hd (by simp only [leC,leN]; omega) (by simp only [leC,leN]; omega),hv]
 rfl
theorem orderN (n a b:Nat) (hn:300 < n) (ha:a < 18446744073709551616) (hb:b <= 18446744073709551616) (h0:0 < b):∃ c,aY_p n ⟨false,rd a⟩ ⟨false,rd b⟩ = some c/\(c < 0 ↔ a < b):=by
 have la:(rd a).length <= 2:=dl (by simpa using ha)
 have lb:(rd b).length <= 3:=dl (Nat.lt_of_le_of_lt hb (by decide))
 unfold aY_p aT_p bc_p
 simp only
 rw [cV n _ _ (br b) (by omega) (by omega),bf,decide_eq_true h0]
 simp only [aa,Bool.not_false,Bool.and_self]
 unfold aN_p
 simp only
 rw [if_neg (by decide)]
 obtain ⟨c,c1,c2,c3⟩:=gC n (rd a) (rd b) (br a) (br b) (gZ a) (gZ b) (by omega) (by omega)
 rw [bf,bf] at c2 c3
 rw [c1]
 simp only [aa]
 by_cases hc:0 <= c
 ·have hle:b <= a:=by omega
  rw [if_pos hc,ex n _ _ (br a) (br b) (fy hle) (by rw [bf,bf]; exact hle) (by omega) (by omega)]
  simp only [aa]
  have hl2:(rd (dv (rd a) - dv (rd b))).length <= 2:=dl (by rw [bf,bf]; show _ < 18446744073709551616; omega)
  rw [cV n _ _ (br _) (by omega) (by omega)]
  simp only [aa,Bool.false_and]
  rw [if_neg (by decide)]
  split
  ·exact ⟨1,rfl,by omega⟩
  ·exact ⟨0,rfl,by omega⟩
 ·have hlt:a < b:=by omega
  rw [if_neg hc,ex n _ _ (br b) (br a) (fy (by omega)) (by rw [bf,bf]; omega) (by omega) (by omega)]
  simp only [aa]
  have hl3:(rd (dv (rd b) - dv (rd a))).length <= 3:=dl (by rw [bf,bf]; exact Nat.lt_of_le_of_lt (Nat.le_trans (Nat.sub_le _ _) hb) (by decide))
  rw [cV n _ _ (br _) (by omega) (by omega),bf,bf,bf,decide_eq_true (show 0 < b - a by omega)]
  simp only [aa,Bool.and_self]
  rw [if_pos trivial]
  exact ⟨-1,rfl,by omega⟩
/-! ### Numbers drawn -/
def limT (n:Nat) (k:Int):Option Tc:=
 (ak_p n (2:Int)).bind fun y24=>(aK_p n y24 (64:Int)).bind fun y32=>(ak_p n k).bind fun y40=>(a9_p n y32 y40).bind fun y48=>(ak_p n k).bind fun y380=>aG_p n y48.1 y380
def limB (k:Nat):Bool:=match limT 20000 (k:Int) with
 | some ⟨false,l⟩=>decide (dv l = 18446744073709551616 / k * k) && l.all (fun x=>decide (0 <= x) && decide (x < 4294967296)) && decide (l.getLast? ≠ some 0)
 | _=>false
theorem lim_all:(List.range 64).all (fun k=>limB (k + 1)) = true:=by kernel_rfl
theorem lim_ok {k:Nat} (h1:1 <= k) (h2:k <= 64):limT 20000 (k:Int) = some ⟨false,rd (18446744073709551616 / k * k)⟩:=by
 have h:=List.all_eq_true.1 lim_all (k - 1) (List.mem_range.2 (by omega))
 rw [show k - 1 + 1 = k by omega] at h
 unfold limB at h
 split at h
 ·rename_i l e
  simp only [Bool.and_eq_true,decide_eq_true_eq,List.all_eq_true] at h
  obtain ⟨⟨h3,h4⟩,h5⟩:=h
  rw [e,<- h3,gF h4 (fun x hx e0=>h5 (by rw [hx,e0]))]
 ·cases h
theorem gg (c:Ta) (k:Int) (h:¬ k < 1):ar_p 20000 c k = (limT 20000 k).bind fun y=>thn (ae (ar_l1 20000 y k) 20000 (0,c.fc)) (fun _=>some ((0:Int),(⟨(0:UInt64)⟩:Ta),(9:Int))):=by
 unfold ar_p limT
 rw [if_neg h]
 simp only [Option.bind_assoc]
theorem ei (u:UInt64) {k:Nat} {d:UInt64} (h:k < 64) (hd:d.toNat = 2 ^ k):shrU u k = u / d:=by
 apply UInt64.toNat_inj.1
 rw [bo u h,UInt64.toNat_div,hd]
theorem fw (s:UInt64) (k:Nat) (h1:1 <= k) (h2:k <= 64) (hs:s.toNat = 18446744073709551616 % k):ay_l1 20000 s (k:Int) = ar_l1 20000 ⟨false,rd (18446744073709551616 / k * k)⟩ (k:Int):=by
 funext J ⟨i,u⟩
 unfold ay_l1 ar_l1 bf_p
 simp only
 by_cases hi:i < 200
 ·rw [if_pos hi,if_pos hi]
  simp only [aa]
  rw [ei (k:=30) (d:=1073741824) _ (by decide) rfl,ei (k:=27) (d:=134217728) _ (by decide) rfl,ei (k:=31) (d:=2147483648) _ (by decide) rfl]
  generalize ((_:UInt64) ^^^ _) = x
  rw [gX 20000 x (by decide)]
  simp only [aa]
  have hx:=aA x
  have hdm:=Nat.div_add_mod 18446744073709551616 k
  have hm:18446744073709551616 % k < k:=Nat.mod_lt _ (by omega)
  have hL:18446744073709551616 / k * k + 18446744073709551616 % k = 18446744073709551616:=by rw [Nat.mul_comm]; exact hdm
  generalize hl:18446744073709551616 / k * k = lim at *
  obtain ⟨c,c1,c2⟩:=orderN 20000 x.toNat lim (by decide) hx (by omega) (by omega)
  rw [c1]
  simp only [aa]
  have hs0:s = 0 ↔ s.toNat = 0:=⟨fun e=>by rw [e]; rfl,fun e=>UInt64.toNat_inj.1 e⟩
  have hcond:(x <= ((-s) - (1:UInt64)) ∨ s = 0) ↔ c < 0:=by
   rw [c2,hs0,UInt64.le_iff_toNat_le]
   by_cases h0:s.toNat = 0
   ·constructor
    ·intro _; omega
    ·intro _; exact .inr h0
   ·have e1:((-s) - (1:UInt64)).toNat = 18446744073709551616 - s.toNat - 1:=by
     have hs64:=aA s
     have e2:(-s).toNat = 18446744073709551616 - s.toNat:=by
      rw [UInt64.toNat_neg]
      show (18446744073709551616 - s.toNat) % 18446744073709551616 = _
      omega
     rw [UInt64.toNat_sub_of_le,e2]
     ·rfl
     ·rw [UInt64.le_iff_toNat_le,e2]
      show 1 <= _
      omega
    rw [e1]
    omega
  by_cases ha:x <= ((-s) - (1:UInt64))
  ·rw [if_pos ha,if_pos (hcond.1 (.inl ha))]
  ·rw [if_neg ha]
   by_cases hb:s = 0
   ·rw [if_pos hb,if_pos (hcond.1 (.inr hb))]
   ·rw [if_neg hb,if_neg (fun h=>(hcond.2 h).elim ha hb)]
 ·rw [if_neg hi,if_neg hi]
theorem fv (c:Ta) (k:Nat) (h2:k <= 64):ar_p 20000 c (k:Int) = ay_p 20000 c (k:Int):=by
 by_cases h:(k:Int) < 1
 ·unfold ar_p ay_p
  rw [if_pos h,if_pos h]
 ·rw [gg c _ h,lim_ok (by omega) h2]
  simp only [aa]
  unfold ay_p
  rw [if_neg h]
  have hk:(ac (k:Int)).toNat = k:=by rw [aO]; exact UInt64.toNat_ofNat_of_lt' (show k < 2 ^ 64 by omega)
  have hk0:ac (k:Int) ≠ 0:=fun e=>by rw [e] at hk; simp at hk; omega
  have hr:cy (-(ac (k:Int))) (ac (k:Int)) = some (-(ac (k:Int)) % ac (k:Int)):=if_neg hk0
  rw [hr]
  simp only [aa]
  have hs:(-(ac (k:Int)) % ac (k:Int)).toNat = 18446744073709551616 % k:=by
   rw [UInt64.toNat_mod,UInt64.toNat_neg,hk]
   show (18446744073709551616 - k) % 18446744073709551616 % k = _
   rw [Nat.mod_eq_of_lt (show 18446744073709551616 - k < 18446744073709551616 by omega)]
   conv=>rhs; rw [show 18446744073709551616 = (18446744073709551616 - k) + k by omega]
   rw [Nat.add_mod_right]
  rw [fw _ k (by omega) h2 hs]
end Go.Proofs.YtlleajifdbnbaaaGreatDoor
namespace Go.Proofs.YtlleajifdbnbaaaGreatDoor
open Go
end Go.Proofs.YtlleajifdbnbaaaGreatDoor
namespace Go.Proofs.YtlleajifdbnbaaaGreatDoor
open Go
theorem gL {k:Nat} (h:k < 18446744073709551616):(ac (k:Int)).toNat = k:=by rw [aO]; exact UInt64.toNat_ofNat_of_lt' h
theorem eT (n:Nat) (u:UInt64) {k:Nat} (h:k < 18446744073709551616):ap_p n u (k:Int) = some (bit u k):=by
 unfold ap_p
 rw [gL h]
 congr 1
 cases hb:bit u k with
 | true=>exact decide_eq_true ((bn u k).2 hb)
 | false=>exact decide_eq_false fun e=>by rw [(bn u k).1 e] at hb; cases hb
theorem oneR (n:Nat) {k:Nat} (h:k < 18446744073709551616):aJ_p n (k:Int) = some (shlU 1 k):=by
 unfold aJ_p
 rw [gL h]
theorem checkR (n:Nat) (g:Tb) (hn:300 < n):∃ r,aB_p n g = some r/\(r = 0/\Valid g ∨ r = 180/\¬ Valid g):=by
 unfold aB_p
 by_cases h1:g.fN < 1
 ·rw [if_pos h1]; exact ⟨_,rfl,.inr ⟨rfl,fun h=>by have:=h.n1; omega⟩⟩
 rw [if_neg h1]
 by_cases h2:64 < g.fN
 ·rw [if_pos h2]; exact ⟨_,rfl,.inr ⟨rfl,fun h=>by have:=h.n64; omega⟩⟩
 rw [if_neg h2]
 by_cases h3:200 < g.fh.length
 ·rw [if_pos h3]; exact ⟨_,rfl,.inr ⟨rfl,fun h=>by have:=h.len; omega⟩⟩
 rw [if_neg h3]
 obtain ⟨r,e1,e2⟩:=aw (B:=aB_l1 n g) (fun i=>g.fh.length - i) (fun i=>i <= g.fh.length/\(∀ j e,j < i -> g.fh[j]? = some e -> 0 <= e.1/\e.1 < e.2/\e.2 < g.fN)/\(∀ j e f,j + 1 < i -> g.fh[j]? = some e -> g.fh[j + 1]? = some f -> Lex e f))
  (fun r=>r = .inl 180/\¬ Valid g ∨ r = .inr ()/\Valid g) (fun i J ⟨q1,q2,q3⟩ hJ=>by
  unfold aB_l1
  simp only
  by_cases hi:i < g.fh.length
  ·rw [if_pos hi,geE hi]
   simp only [aa]
   generalize he:g.fh[i] = e
   have hge:g.fh[i]? = some e:=by rw [geE hi,he]
   have hmem:e ∈ g.fh:=he ▸ List.getElem_mem hi
   by_cases c1:e.1 < 0
   ·rw [if_pos c1]; exact ⟨_,rfl,.inl ⟨rfl,fun h=>by have:=h.ok e hmem; omega⟩⟩
   rw [if_neg c1]
   by_cases c2:e.2 <= e.1
   ·rw [if_pos c2]; exact ⟨_,rfl,.inl ⟨rfl,fun h=>by have:=h.ok e hmem; omega⟩⟩
   rw [if_neg c2]
   by_cases c3:g.fN <= e.2
   ·rw [if_pos c3]; exact ⟨_,rfl,.inl ⟨rfl,fun h=>by have:=h.ok e hmem; omega⟩⟩
   rw [if_neg c3]
   have go:(∀ f,0 < i -> g.fh[i - 1]? = some f -> Lex f e) -> ∃ r,J (i + 1) = some r/\(r = .inl 180/\¬ Valid g ∨ r = .inr ()/\Valid g):=fun hl=>by
    refine hJ (i + 1) ⟨hi,fun j e' hj he' =>?_,fun j e' f hj he' hf=>?_⟩ (by omega)
    ·by_cases hji:j = i
     ·subst hji; rw [hge] at he'; cases he'; exact ⟨by omega,by omega,by omega⟩
     ·exact q2 j e' (by omega) he'
    ·by_cases hji:j + 1 = i
     ·rw [hji,hge] at hf
      cases hf
      exact hl e' (by omega) (by rw [<- hji]; exact he')
     ·exact q3 j e' f (by omega) he' hf
   by_cases h0:0 < i
   ·rw [if_pos h0,geE (show i - 1 < g.fh.length by omega)]
    simp only [aa]
    generalize hf:g.fh[i - 1] = f
    have hgf:g.fh[i - 1]? = some f:=by rw [geE (show i - 1 < g.fh.length by omega),hf]
    have bad:¬ Lex f e -> ¬ Valid g:=fun hh hv=>hh (hv.sorted (i - 1) f e hgf (by rw [show i - 1 + 1 = i by omega]; exact hge))
    by_cases d1:e.1 < f.1
    ·rw [if_pos d1]; exact ⟨_,rfl,.inl ⟨rfl,bad (fun h=>by unfold Lex at h; omega)⟩⟩
    rw [if_neg d1]
    by_cases d2:f.1 = e.1
    ·rw [if_pos d2]
     by_cases d3:e.2 <= f.2
     ·rw [if_pos d3]; exact ⟨_,rfl,.inl ⟨rfl,bad (fun h=>by unfold Lex at h; omega)⟩⟩
     ·rw [if_neg d3]
      exact go fun f' _ hf' =>by rw [hgf] at hf'; cases hf'; exact .inr ⟨d2,by omega⟩
    ·rw [if_neg d2]
     exact go fun f' _ hf' =>by rw [hgf] at hf'; cases hf'; exact .inl (by omega)
   ·rw [if_neg h0]
    exact go fun f' h _=>absurd h h0
  ·rw [if_neg hi]
   refine ⟨_,rfl,.inr ⟨rfl,by omega,by omega,by omega,fun e he=>?_,fun j e f he hf=>?_⟩⟩
   ·obtain ⟨j,hj,rfl⟩:=List.getElem_of_mem he
    exact q2 j _ (by omega) (geE hj)
   ·have:=(List.getElem?_eq_some_iff.1 hf).1
    exact q3 j e f (by omega) he hf) n 0 ⟨by omega,fun j e h=>by omega,fun j e f h=>by omega⟩ (by omega)
 rw [e1]
 rcases e2 with ⟨rfl,h⟩ | ⟨rfl,h⟩
 ·exact ⟨180,rfl,.inr ⟨rfl,h⟩⟩
 ·exact ⟨0,rfl,.inl ⟨rfl,h⟩⟩
theorem fP (n:Nat) (g:Tb) (u:UInt64) (hn:300 < n):∃ r,aI_p n g u = some r/\(r = 0/\Valid g/\bu g.fN u ∨ r = 2/\Valid g/\¬ bu g.fN u ∨ r = 180/\¬ Valid g):=by
 unfold aI_p
 obtain ⟨r,r1,r2⟩:=checkR n g hn
 rw [r1]
 simp only [aa]
 rcases r2 with ⟨rfl,hv⟩ | ⟨rfl,hv⟩
 ·rw [if_pos rfl]
  have h1:=hv.n1; have h64:=hv.n64
  obtain ⟨N,hN⟩:∃ N:Nat,g.fN = N:=⟨g.fN.toNat,by omega⟩
  by_cases hlt:g.fN < 64
  ·rw [if_pos hlt,hN,gL (by omega)]
   have key:shrU u N = 0 ↔ bu g.fN u:=by
    rw [<- UInt64.toNat_inj,bo u (by omega)]
    have:u.toNat / 2 ^ N = 0 ↔ u.toNat < 2 ^ N:=Nat.div_eq_zero_iff_lt (Nat.two_pow_pos N)
    show u.toNat / 2 ^ N = 0 ↔ _
    rw [this,eF]
    unfold bu
    rw [hN]
    exact ⟨fun h k hk=>by have:=h k hk; omega,fun h k hk=>by have:=h k hk; omega⟩
   rw [hN] at key
   by_cases hf:bu (N:Int) u
   ·rw [if_pos (key.2 hf)]; exact ⟨_,rfl,.inl ⟨rfl,hv,hf⟩⟩
   ·rw [if_neg (fun e=>hf (key.1 e))]; exact ⟨_,rfl,.inr (.inl ⟨rfl,hv,hf⟩)⟩
  ·rw [if_neg hlt]
   exact ⟨_,rfl,.inl ⟨rfl,hv,fun k hk=>by have:=dB hk; omega⟩⟩
 ·rw [if_neg (by decide)]; exact ⟨_,rfl,.inr (.inr ⟨rfl,hv⟩)⟩
theorem pair_if {β:Type} (x:Int × Int) (a b:Int) (Y M:β):(if x.1 = a then (if x.2 = b then Y else (if x.1 = b then (if x.2 = a then Y else M) else M)) else (if x.1 = b then (if x.2 = a then Y else M) else M)) = if x = (a,b) ∨ x = (b,a) then Y else M:=by
 obtain ⟨p,q⟩:=x
 have e1:(p,q) = (a,b) ↔ p = a/\q = b:=by simp
 have e2:(p,q) = (b,a) ↔ p = b/\q = a:=by simp
 simp only [e1,e2]
 by_cases h1:p = a/\q = b
 ·rw [if_pos h1.1,if_pos h1.2,if_pos (.inl h1)]
 ·by_cases h2:p = b/\q = a
  ·rw [if_pos (show p = a/\q = b ∨ p = b/\q = a from .inr h2),if_pos h2.1,if_pos h2.2]
   split
   ·split <;> rfl
   ·rfl
  ·have big:(if p = a/\q = b ∨ p = b/\q = a then Y else M) = M:=if_neg (fun h=>h.elim h1 h2)
   have inner:(if p = b then (if q = a then Y else M) else M) = M:=by
    by_cases p3:p = b
    ·rw [if_pos p3,if_neg (fun q3=>h2 ⟨p3,q3⟩)]
    ·rw [if_neg p3]
   rw [inner,big]
   by_cases p1:p = a
   ·rw [if_pos p1,if_neg (fun q1=>h1 ⟨p1,q1⟩)]
   ·rw [if_neg p1]
theorem joinedR (n:Nat) (g:Tb) (a b:Nat) (hn:g.fh.length < n):∃ r,ax_p n g (a:Int) (b:Int) = some r/\(r = true ↔ Adj g a b):=by
 unfold ax_p
 obtain ⟨r,e1,e2⟩:=aw (B:=ax_l1 n g (a:Int) (b:Int)) (fun i=>g.fh.length - i) (fun i=>i <= g.fh.length/\∀ j e,j < i -> g.fh[j]? = some e -> e ≠ ((a:Int),(b:Int))/\e ≠ ((b:Int),(a:Int))) (fun r=>r = .inl true/\Adj g a b ∨ r = .inr ()/\¬ Adj g a b) (fun i J ⟨h1,h2⟩ hJ=>by
  unfold ax_l1
  simp only
  by_cases hi:i < g.fh.length
  ·rw [if_pos hi,geE hi]
   simp only [aa]
   rw [pair_if]
   by_cases hc:g.fh[i] = ((a:Int),(b:Int)) ∨ g.fh[i] = ((b:Int),(a:Int))
   ·rw [if_pos hc]
    refine ⟨_,rfl,.inl ⟨rfl,?_⟩⟩
    rcases hc with hc | hc
    ·exact .inl (hc ▸ List.getElem_mem hi)
    ·exact .inr (hc ▸ List.getElem_mem hi)
   ·rw [if_neg hc]
    refine hJ (i + 1) ⟨hi,fun j e hj he=>?_⟩ (by omega)
    by_cases hji:j = i
    ·subst hji
     rw [geE hi] at he
     cases he
     exact ⟨fun e=>hc (.inl e),fun e=>hc (.inr e)⟩
    ·exact h2 j e (by omega) he
  ·rw [if_neg hi]
   refine ⟨_,rfl,.inr ⟨rfl,?_⟩⟩
   rintro (hm | hm)
   ·obtain ⟨j,hj,hje⟩:=List.getElem_of_mem hm
    exact (h2 j _ (by omega) (geE hj)).1 hje
   ·obtain ⟨j,hj,hje⟩:=List.getElem_of_mem hm
    exact (h2 j _ (by omega) (geE hj)).2 hje) n 0 ⟨by omega,fun j e h=>by omega⟩ (by omega)
 rw [e1]
 rcases e2 with ⟨rfl,h⟩ | ⟨rfl,h⟩
 ·exact ⟨true,rfl,by simp [h]⟩
 ·exact ⟨false,rfl,by simp [h]⟩
theorem dO {p:Nat -> Bool} {N M:Nat} (h:N <= M) (hp:∀ k,p k = true -> k < N):(List.range M).filter p = (List.range N).filter p:=by
 obtain ⟨d,rfl⟩:∃ d,M = N + d:=⟨M - N,by omega⟩
 rw [List.range_add,List.filter_append]
 have:((List.range d).map (N + ·)).filter p = []:=by
  rw [List.filter_eq_nil_iff]
  intro x hx
  obtain ⟨y,_,rfl⟩:=List.mem_map.1 hx
  intro hc
  have:=hp _ hc
  omega
 rw [this,List.append_nil]
theorem nearR (n:Nat) (g:Tb) (h:Valid g) (hn:300 < n) (s w:UInt64) (a:Nat) (hw:∀ b,bit w b = true ↔ Adj g a b/\bit s b = true):aD_p n g s (a:Int) = some ((ap w).map fun k:Nat=>(k:Int)):=by
 have h1:=h.n1; have h64:=h.n64; have hlen:=h.len
 obtain ⟨N,hN⟩:∃ N:Nat,g.fN = N:=⟨g.fN.toNat,by omega⟩
 unfold aD_p
 obtain ⟨r,e1,rfl⟩:=aw (B:=aD_l1 n g s (a:Int)) (fun (z,_)=>N - z.toNat) (fun (z,xs)=>∃ k:Nat,z = (k:Int)/\k <= N/\xs = ((List.range k).filter (bit w ·)).map fun k:Nat=>(k:Int)) (fun r=>r = (ap w).map fun k:Nat=>(k:Int)) (fun ⟨z,xs⟩ J hI hJ=>by
  simp only at hI hJ
  obtain ⟨k,rfl,hk,rfl⟩:=hI
  unfold aD_l1
  simp only
  have hcl:((List.range k).filter (bit w ·)).length <= k:=Nat.le_trans (List.length_filter_le _ _) (by simp)
  by_cases hkN:(k:Int) < g.fN
  ·rw [if_pos hkN,eT n s (by omega),aG (by omega)]
   simp only [aa]
   have off:bit w k = false -> ∃ r,J ((k:Int) + 1,((List.range k).filter (bit w ·)).map fun k:Nat=>(k:Int)) = some r/\r = (ap w).map fun k:Nat=>(k:Int):=fun hb=>
    hJ _ ⟨k + 1,by simp,by omega,by rw [List.range_succ,List.filter_append,List.filter_cons_of_neg (by simp [hb])]; simp⟩ (by simp only; omega)
   cases hsk:bit s k with
   | false=>
    rw [if_neg (by simp)]
    exact off (by cases hb:bit w k with
     | false=>rfl
     | true=>rw [((hw k).1 hb).2] at hsk; cases hsk)
   | true=>
    rw [if_pos rfl]
    obtain ⟨r,r1,r2⟩:=joinedR n g a k (by omega)
    rw [r1]
    simp only [aa]
    cases r with
    | true=>
     rw [if_pos rfl,cM (by simp only [List.length_map,List.length_singleton]; omega)]
     simp only [aa]
     have hb:bit w k = true:=(hw k).2 ⟨r2.1 rfl,hsk⟩
     exact hJ _ ⟨k + 1,by simp,by omega,by rw [List.range_succ,List.filter_append,List.filter_cons_of_pos hb]; simp⟩ (by simp only; omega)
    | false=>
     rw [if_neg (by simp)]
     exact off (by cases hb:bit w k with
      | false=>rfl
      | true=>have:=r2.2 ((hw k).1 hb).1; cases this)
  ·rw [if_neg hkN]
   have:k = N:=by omega
   subst this
   refine ⟨_,rfl,?_⟩
   unfold ap
   rw [dO (N:=k) (M:=64) (by omega) (fun j hj=>by have:=(h.adj ((hw j).1 hj).1).2.1; omega)]) n (0,[]) ⟨0,rfl,by omega,by simp⟩ (by simp only; omega)
 rw [e1]
 rfl
/-! ### What can be reached -/
def ins (u:UInt64) (e:Int × Int):Bool:=bit u e.1.toNat && bit u e.2.toNat
theorem eW (n:Nat) (g:Tb) (s u:UInt64) (i:Nat) (J:UInt64 × Nat -> Option UInt64) (hi:i < g.fh.length) (a b:Nat) (he:g.fh[i] = ((a:Int),(b:Int))) (ha:a < 64) (hb:b < 64) :
  ah_l1 n g (-1) s J (u,i) = J (if (bit s a && bit s b && (bit u a || bit u b)) = true then (u ||| shlU 1 a) ||| shlU 1 b else u,i + 1):=by
 unfold ah_l1
 simp only [jn]
 rw [if_pos hi,geE hi,he]
 simp only [aa]
 rw [if_neg (show ¬ ((i:Int) = -1) by omega),eT n s (by omega),eT n s (by omega),eT n u (by omega),eT n u (by omega),oneR n (by omega),oneR n (by omega)]
 simp only [aa]
 cases bit s a <;> cases bit s b <;> cases bit u a <;> cases bit u b <;> rfl
theorem roundR (n:Nat) (g:Tb) (h:Valid g) (hn:300 < n) (s:UInt64) (x:Nat) (u:UInt64) (hu:∀ b,bit u b = true -> ∃ m,Way g s x m b) :
  ∃ v,ae (ah_l1 n g (-1) s) n (u,0) = some v/\(∀ b,bit u b = true -> bit v b = true)/\(∀ b,bit v b = true -> ∃ m,Way g s x m b)/\∀ (a b:Nat),((a:Int),(b:Int)) ∈ g.fh -> bit s a = true -> bit s b = true -> (bit u a = true ∨ bit u b = true) -> bit v a = true/\bit v b = true:=by
 have h64:=h.n64; have hlen:=h.len
 obtain ⟨v,e1,v1,v2,v3⟩:=aw (B:=ah_l1 n g (-1) s) (fun (_,i)=>g.fh.length - i) (fun (w,i)=>i <= g.fh.length/\(∀ b,bit u b = true -> bit w b = true)/\(∀ b,bit w b = true -> ∃ m,Way g s x m b)/\∀ (j a b:Nat),j < i -> g.fh[j]? = some ((a:Int),(b:Int)) -> bit s a = true -> bit s b = true -> (bit u a = true ∨ bit u b = true) -> bit w a = true/\bit w b = true)
  (fun v=>(∀ b,bit u b = true -> bit v b = true)/\(∀ b,bit v b = true -> ∃ m,Way g s x m b)/\∀ (j a b:Nat),g.fh[j]? = some ((a:Int),(b:Int)) -> bit s a = true -> bit s b = true -> (bit u a = true ∨ bit u b = true) -> bit v a = true/\bit v b = true) (fun ⟨w,i⟩ J ⟨q0,q1,q2,q3⟩ hJ=>by
  simp only at q0 q1 q2 q3 hJ
  by_cases hi:i < g.fh.length
  ·obtain ⟨o1,o2,o3⟩:=h.ok _ (List.getElem_mem hi)
   obtain ⟨a,ha⟩:∃ a:Nat,g.fh[i].1 = a:=⟨g.fh[i].1.toNat,by omega⟩
   obtain ⟨b,hb⟩:∃ b:Nat,g.fh[i].2 = b:=⟨g.fh[i].2.toNat,by omega⟩
   have he:g.fh[i] = ((a:Int),(b:Int)):=Prod.ext ha hb
   have ha64:a < 64:=by omega
   have hb64:b < 64:=by omega
   rw [eW n g s w i J hi a b he ha64 hb64]
   have hadj:Adj g a b:=.inl (he ▸ List.getElem_mem hi)
   by_cases hc:(bit s a && bit s b && (bit w a || bit w b)) = true
   ·rw [if_pos hc]
    have hc' :=hc
    simp only [Bool.and_eq_true,Bool.or_eq_true] at hc'
    obtain ⟨⟨hsa,hsb⟩,hw⟩:=hc'
    have hbit:∀ k,bit ((w ||| shlU 1 a) ||| shlU 1 b) k = true ↔ bit w k = true ∨ k = a ∨ k = b:=fun k=>by
     rw [bj,bj,aY ha64,aY hb64]
     simp only [Bool.or_eq_true,decide_eq_true_eq,or_assoc]
    have wa:∃ m,Way g s x m a:=by
     rcases hw with hw | hw
     ·exact q2 a hw
     ·obtain ⟨m,hm⟩:=q2 b hw
      exact ⟨m + 1,.on hm hadj.symm hsa⟩
    have wb:∃ m,Way g s x m b:=by
     rcases hw with hw | hw
     ·obtain ⟨m,hm⟩:=q2 a hw
      exact ⟨m + 1,.on hm hadj hsb⟩
     ·exact q2 b hw
    refine hJ _ ⟨hi,fun k hk=>(hbit k).2 (.inl (q1 k hk)),fun k hk=>?_,fun j a' b' hj he' h1 h2 h3=>?_⟩ (by simp only; omega)
    ·rcases (hbit k).1 hk with hk | rfl | rfl
     ·exact q2 k hk
     ·exact wa
     ·exact wb
    ·by_cases hji:j = i
     ·subst hji
      rw [geE hi,he] at he'
      have:=Option.some.inj he'
      have e1:a = a' :=by have:=congrArg Prod.fst this; simp only at this; omega
      have e2:b = b' :=by have:=congrArg Prod.snd this; simp only at this; omega
      subst e1 e2
      exact ⟨(hbit a).2 (.inr (.inl rfl)),(hbit b).2 (.inr (.inr rfl))⟩
     ·obtain ⟨p,q⟩:=q3 j a' b' (by simp only at hj; omega) he' h1 h2 h3
      exact ⟨(hbit a').2 (.inl p),(hbit b').2 (.inl q)⟩
   ·rw [if_neg hc]
    refine hJ _ ⟨hi,q1,q2,fun j a' b' hj he' h1 h2 h3=>?_⟩ (by simp only; omega)
    by_cases hji:j = i
    ·subst hji
     rw [geE hi,he] at he'
     have:=Option.some.inj he'
     have e1:a = a' :=by have:=congrArg Prod.fst this; simp only at this; omega
     have e2:b = b' :=by have:=congrArg Prod.snd this; simp only at this; omega
     subst e1 e2
     refine absurd ?_ hc
     rw [h1,h2,Bool.true_and,Bool.true_and,Bool.or_eq_true]
     exact h3.imp (q1 a) (q1 b)
    ·exact q3 j a' b' (by simp only at hj; omega) he' h1 h2 h3
  ·unfold ah_l1
   simp only [jn]
   rw [if_neg hi]
   refine ⟨w,rfl,q1,q2,fun j a b he=>q3 j a b ?_ he⟩
   have:=(List.getElem?_eq_some_iff.1 he).1
   omega) n (u,0) ⟨by omega,fun b hb=>hb,hu,fun j a b hj=>by omega⟩ (by simp only; omega)
 refine ⟨v,e1,v1,v2,fun a b he=>?_⟩
 obtain ⟨j,hj,hje⟩:=List.getElem_of_mem he
 exact v3 j a b (by rw [geE hj,hje])
theorem gD (l:List (Int × Int)) (u v:UInt64) (h:∀ b,bit u b = true -> bit v b = true) (e:Int × Int) (he:e ∈ l) (h1:ins u e = false) (h2:ins v e = true):(l.filter (ins u)).length < (l.filter (ins v)).length:=by
 have e1:l.filter (ins u) = (l.filter (ins v)).filter (ins u):=by
  rw [List.filter_filter]
  apply List.filter_congr
  intro k _
  cases hu:ins u k with
  | false=>simp
  | true=>
   unfold ins at hu ⊢
   rw [Bool.and_eq_true] at hu
   rw [h _ hu.1,h _ hu.2]; rfl
 rw [e1]
 apply List.length_filter_lt_length_iff_exists.2
 exact ⟨e,List.mem_filter.2 ⟨he,h2⟩,by rw [h1]; simp⟩
theorem reachR (n:Nat) (g:Tb) (h:Valid g) (hn:300 < n) (s:UInt64) (x:Nat) (hx:bit s x = true):∃ v,ah_p n g s (x:Int) (-1) = some v/\∀ b,bit v b = true ↔ ∃ m,Way g s x m b:=by
 have h64:=h.n64; have hlen:=h.len
 have hx64:=dB hx
 unfold ah_p
 rw [oneR n (by omega)]
 simp only [aa]
 obtain ⟨v,e1,e2⟩:=aw (B:=ah_l2 n g (-1) s) (fun (_,i)=>g.fh.length - i) (fun (u,i)=>i <= g.fh.length/\bit u x = true/\(∀ b,bit u b = true -> ∃ m,Way g s x m b)/\((∀ m b,Way g s x m b -> bit u b = true) ∨ i <= (g.fh.filter (ins u)).length))
  (fun v=>∀ b,bit v b = true ↔ ∃ m,Way g s x m b) (fun ⟨u,i⟩ J ⟨q0,q1,q2,q3⟩ hJ=>by
  simp only at q0 q1 q2 q3 hJ
  unfold ah_l2
  simp only
  by_cases hi:i < g.fh.length
  ·rw [if_pos hi]
   obtain ⟨v,v1,v2,v3,v4⟩:=roundR n g h hn s x u q2
   rw [v1]
   simp only [aa]
   refine hJ _ ⟨hi,v2 x q1,v3,?_⟩ (by simp only; omega)
   simp only
   by_cases hfull:∀ m b,Way g s x m b -> bit u b = true
   ·exact .inl fun m b hm=>v2 b (hfull m b hm)
   ·right
    have q3' :=q3.resolve_left hfull
    -- an edge that leaves u
    have hedge:∃ a b,bit u a = true/\bit u b = false/\Adj g a b/\bit s a = true/\bit s b = true:=by
     apply Classical.byContradiction
     intro hno
     apply hfull
     intro m b hm
     induction hm with
     | here=>exact q1
     | on hw k hb ih=>
      rename_i m' a' b'
      cases hub:bit u b' with
      | true=>rfl
      | false=>exact absurd ⟨a', b', ih,hub,k,hw.inside hx,hb⟩ hno
    obtain ⟨a,b,ha,hb,hab,hsa,hsb⟩:=hedge
    rcases hab with hab | hab
    ·obtain ⟨p1,p2⟩:=v4 a b hab hsa hsb (.inl ha)
     have:=gD g.fh u v v2 _ hab (by unfold ins; simp [hb]) (by unfold ins; simp [p1,p2])
     omega
    ·obtain ⟨p1,p2⟩:=v4 b a hab hsb hsa (.inr ha)
     have:=gD g.fh u v v2 _ hab (by unfold ins; simp [hb]) (by unfold ins; simp [p1,p2])
     omega
  ·rw [if_neg hi]
   refine ⟨u,rfl,fun b=>⟨q2 b,?_⟩⟩
   rintro ⟨m,hm⟩
   rcases q3 with q3 | q3
   ·exact q3 m b hm
   ·have hall:g.fh.filter (ins u) = g.fh:=List.filter_sublist.eq_of_length (by have:=List.length_filter_le (ins u) g.fh; omega)
    have hin:∀ e ∈ g.fh,ins u e = true:=fun e he=>by
     rw [<- hall] at he
     exact (List.mem_filter.1 he).2
    induction hm with
    | here=>exact q1
    | on hw k hb ih=>
     rename_i m' a' b'
     rcases k with k | k
     ·have:=hin _ k
      unfold ins at this
      rw [Bool.and_eq_true] at this
      simpa using this.2
     ·have:=hin _ k
      unfold ins at this
      rw [Bool.and_eq_true] at this
      simpa using this.1) n (shlU 1 x,0) ⟨by omega,by rw [aY hx64]; simp,fun b hb=>by
   rw [aY hx64,decide_eq_true_eq] at hb
   subst hb
   exact ⟨0,.here⟩,.inr (by omega)⟩ (by simp only; omega)
 rw [e1]
 exact ⟨v,rfl,e2⟩
end Go.Proofs.YtlleajifdbnbaaaGreatDoor
namespace Go.Proofs.YtlleajifdbnbaaaGreatDoor
open Go
/-! ### The walk with a common store of steps -/
end Go.Proofs.YtlleajifdbnbaaaGreatDoor
namespace Go.Proofs.YtlleajifdbnbaaaGreatDoor
open Go
structure Erased (l r:List Int):Prop where
 len:r.length <= l.length
 pos:0 < r.length
 first:r[0]? = l[0]?
 last:r[r.length - 1]? = l[l.length - 1]?
 once:r.Nodup
 steps:∀ i,0 < i -> i < r.length -> ∃ k,0 < k/\k < l.length/\l[k - 1]? = r[i - 1]?/\l[k]? = r[i]?
end Go.Proofs.YtlleajifdbnbaaaGreatDoor
namespace Go.Proofs.YtlleajifdbnbaaaGreatDoor
open Go
end Go.Proofs.YtlleajifdbnbaaaGreatDoor
namespace Go.Proofs.YtlleajifdbnbaaaGreatDoor
open Go
structure Path (g:Tb) (s v:UInt64) (x:Nat) (r:List Nat):Prop where
 pos:0 < r.length
 first:r[0]? = some x
 once:r.Nodup
 inside:∀ y ∈ r,bit s y = true
 steps:∀ (i:Nat) a b,r[i]? = some a -> r[i + 1]? = some b -> Adj g a b
 away:∀ (i:Nat) a,r[i]? = some a -> i + 1 < r.length -> bit v a = false
 last:∀ (i:Nat) a,r[i]? = some a -> i + 1 = r.length -> bit v a = true
theorem fG (n:Nat) (g:Tb) (h:Valid g) (hn:300 < n) (s v:UInt64) (x:Nat) (c:Ta) (hs:bu g.fN s) (hv:bu g.fN v) (hx:bit s x = true) (hr:bD g s v x) :
  ac_p n g s (x:Int) v c = thn (ae (ac_l3 n v g s) n ((x:Int),[(x:Int)],c.fc,10000)) (fun (w,u)=>some (w,(⟨u⟩:Ta),0)):=by
 have h1:=h.n1; have h64:=h.n64
 have hxN:=hs x hx
 unfold ac_p
 rw [h.check (by omega)]
 simp only [aa]
 rw [ifT]
 obtain ⟨b1,f1,f2⟩:=fits_p n g s (by omega)
 obtain ⟨b2,f3,f4⟩:=fits_p n g v (by omega)
 have:b1 = true:=f2.2 hs
 subst this
 have:b2 = true:=f4.2 hv
 subst this
 simp only [jn]
 rw [f1]
 simp only [aa]
 rw [ifT,f3]
 simp only [aa]
 rw [ifT,if_neg (by omega),if_neg (by omega),aN (by omega),Int.toNat_natCast]
 simp only [aa]
 have hnx:¬ (shrU s x &&& 1 = 0):=fun e=>by rw [(cG s x).1 e] at hx; cases hx
 rw [decide_eq_false hnx,if_neg (by simp)]
 obtain ⟨far,d1,d2⟩:=cr n g h (by omega) s x hs hx
 rw [d1]
 simp only [aa]
 obtain ⟨q,r1,r2⟩:=dw n g s v x far 0 d2 (by have:=d2.len; omega) (by omega)
 rw [r1]
 simp only [aa]
 rw [if_pos (r2.2 hr)]
end Go.Proofs.YtlleajifdbnbaaaGreatDoor
namespace Go.Proofs.YtlleajifdbnbaaaGreatDoor
open Go
theorem gj (g:Tb) (h:Valid g) (s v:UInt64) (bv:Nat) (hm:bv <= 10000):∀ (m:Nat) (w:List Nat) (k:Nat) (u:UInt64) (l:Nat),w.length + l = bv + 1 -> w[w.length - 1]? = some k -> 0 < w.length -> (k:Int) < g.fN ->
  ae (aw_l1 20000 v (bv:Int) g s) m (w.map (fun k:Nat=>(k:Int)),u) = ae (ac_l3 20000 v g s) m ((k:Int),w.map (fun k:Nat=>(k:Int)),u,(l:Int)):=by
 have h64:=h.n64
 intro m
 induction m with
 | zero=>intro w k u l _ _ _ _; rfl
 | succ m ih=>
  intro w k u l hl hlast hpos hk
  simp only [bG]
  generalize hJ1:ae (aw_l1 20000 v (bv:Int) g s) m = J1 at *
  generalize hJ2:ae (ac_l3 20000 v g s) m = J2 at *
  unfold aw_l1 ac_l3
  simp only
  have e1:((((w.map (fun k:Nat=>(k:Int))).length:Nat):Int) - 1) = ((w.length - 1:Nat):Int):=by rw [List.length_map]; omega
  rw [e1,cD,List.getElem?_map,hlast]
  simp only [Option.map_some,aa]
  rw [eT 20000 v (by omega),aN (by omega),Int.toNat_natCast]
  simp only [aa]
  by_cases hv:bit v k = true
  ·rw [hv,ifTT,if_pos ((bn v k).2 hv)]
  ·rw [if_neg hv,if_neg (fun e=>hv ((bn v k).1 e))]
   by_cases hl0:l = 0
   ·subst hl0
    rw [if_pos (by omega),if_pos (by omega)]
   ·rw [if_neg (by omega),if_neg (by omega),aG (by omega)]
    simp only [aa]
    obtain ⟨a,a1,a2⟩:=dM 20000 g h (by decide) k
    rw [a1]
    simp only [aa]
    rw [dh 20000 _ (by decide),nearR 20000 g h (by decide) s (a &&& s) k (fun b=>by rw [ba,Bool.and_eq_true,a2])]
    simp only [aa]
    have hlen:=aW (a &&& s)
    rw [List.length_map,fv _ _ hlen]
    generalize ay_p 20000 (⟨u⟩:Ta) (((ap (a &&& s)).length:Nat):Int) = y
    cases y with
    | none=>rfl
    | some y=>
     obtain ⟨y1,y2,y3⟩:=y
     simp only [aa]
     by_cases he:y3 = 0
     ·rw [if_pos he,if_pos he]
      cases hi:idx ((ap (a &&& s)).map fun k:Nat=>(k:Int)) y1 with
      | none=>rfl
      | some x=>
       simp only [aa]
       obtain ⟨_,i2⟩:=av hi
       rw [List.getElem?_map,Option.map_eq_some_iff] at i2
       obtain ⟨b,b1,rfl⟩:=i2
       have hb:=aR.1 (List.mem_of_getElem? b1)
       rw [ba,Bool.and_eq_true,a2] at hb
       rw [cM (by simp only [List.length_map,List.length_singleton]; omega)]
       simp only [aa]
       have:=ih (w ++ [b]) b y2.fc (l - 1) (by simp only [List.length_append,List.length_singleton]; omega) (by simp) (by simp) (h.adj hb.1).2.1
       rw [List.map_append] at this
       rw [show ((l:Int) - 1) = ((l - 1:Nat):Int) by omega]
       exact this
     ·rw [if_neg he,if_neg he]
theorem fq (g:Tb) (h:Valid g) (s v:UInt64) (bv:Nat) (hm:bv <= 10000) (k:Nat) (hk:(k:Int) < g.fN) (u:UInt64) :
  aw_p 20000 g s (k:Int) v ⟨u⟩ (bv:Int) = thn (ae (ac_l3 20000 v g s) 20000 ((k:Int),[(k:Int)],u,(bv:Int))) (fun (w,u)=>some (w,(⟨u⟩:Ta),(0:Int))):=by
 unfold aw_p
 have:=gj g h s v bv hm 20000 [k] k u bv (by simp only [List.length_singleton]; omega) (by simp) (by simp) hk
 simp only [List.map_cons,List.map_nil] at this
 rw [this]
theorem eh (p v:UInt64):p &&& v = 0 ↔ ∀ b,bit p b = true -> bit v b = false:=by
 constructor
 ·intro e b hb
  have:=aI b
  rw [<- e,ba,hb,Bool.true_and] at this
  exact this
 ·intro h
  apply dT
  intro k
  rw [ba,aI]
  cases hp:bit p k with
  | false=>rfl
  | true=>rw [h k hp]; rfl
theorem ce (g:Tb) (s:UInt64) (x:Int) (v:UInt64) (c:Ta):∃ r,ac_p 20000 g s x v c = some r/\aq_p 20000 g s x v c = some r/\r.1.length <= 10001:=by
 obtain ⟨y,y1,y2⟩:=ey 20000 g (by decide)
 obtain ⟨z,z1,z2⟩:=fP 20000 g s (by decide)
 obtain ⟨t,t1,t2⟩:=fP 20000 g v (by decide)
 rcases y2 with ⟨rfl,hv⟩ | ⟨rfl,hv⟩
 ·have h1:=hv.n1; have h64:=hv.n64
  obtain ⟨b1,f1,f2⟩:=fits_p 20000 g s (by omega)
  obtain ⟨b2,f3,f4⟩:=fits_p 20000 g v (by omega)
  by_cases hs:bu g.fN s
  ·have ez:z = 0:=by
    rcases z2 with ⟨h,_⟩ | ⟨_,_,h⟩ | ⟨_,h⟩
    ·exact h
    ·exact absurd hs h
    ·exact absurd hv h
   subst ez
   have:b1 = true:=f2.2 hs
   subst this
   by_cases hf:bu g.fN v
   ·have et:t = 0:=by
     rcases t2 with ⟨h,_⟩ | ⟨_,_,h⟩ | ⟨_,h⟩
     ·exact h
     ·exact absurd hf h
     ·exact absurd hv h
    subst et
    have:b2 = true:=f4.2 hf
    subst this
    by_cases hx0:x < 0
    ·refine ⟨([],⟨0⟩,2),?_,?_,by simp⟩
     ·unfold ac_p
      rw [y1]
      simp only [aa,jn]
      rw [ifT,f1]
      simp only [aa]
      rw [ifT,f3]
      simp only [aa]
      rw [ifT,if_pos hx0,ifT]
     ·unfold aq_p
      rw [z1]
      simp only [aa]
      rw [ifT,t1]
      simp only [aa]
      rw [ifT,if_pos hx0]
    ·by_cases hxN:g.fN <= x
     ·refine ⟨([],⟨0⟩,2),?_,?_,by simp⟩
      ·unfold ac_p
       rw [y1]
       simp only [aa,jn]
       rw [ifT,f1]
       simp only [aa]
       rw [ifT,f3]
       simp only [aa]
       rw [ifT,if_neg hx0,if_pos hxN,ifT]
      ·unfold aq_p
       rw [z1]
       simp only [aa]
       rw [ifT,t1]
       simp only [aa]
       rw [ifT,if_neg hx0,if_pos hxN]
     ·obtain ⟨k,rfl⟩:∃ k:Nat,x = k:=⟨x.toNat,by omega⟩
      obtain ⟨r,r1,r2,_⟩:=walk_ok 20000 g hv (by decide) s v k c hs hf (by omega)
      have refW:aq_p 20000 g s (k:Int) v c = if bit s k = true then (ah_p 20000 g s (k:Int) (-1:Int)).bind fun y41=>(if (y41 &&& v) = (0:UInt64) then some (([]:List Int),(⟨(0:UInt64)⟩:Ta),(4:Int)) else (aw_p 20000 g s (k:Int) v c (10000:Int)).bind fun y47=>some (y47.1,y47.2.1,y47.2.2)) else some (([]:List Int),(⟨(0:UInt64)⟩:Ta),(2:Int)):=by
       unfold aq_p
       rw [z1]
       simp only [aa]
       rw [ifT,t1]
       simp only [aa]
       rw [ifT,if_neg hx0,if_neg hxN,eT 20000 s (by omega)]
       simp only [aa]
      rw [refW]
      rcases r2 with ⟨hb,rfl⟩ | ⟨hb,r2⟩
      ·exact ⟨_,r1,by rw [hb]; rfl,by simp⟩
      ·rw [hb,ifTT]
       obtain ⟨p,p1,p2⟩:=reachR 20000 g hv (by decide) s k hb
       rw [p1]
       simp only [aa]
       have hreach:p &&& v = 0 ↔ ¬ bD g s v k:=by
        rw [eh]
        constructor
        ·rintro hh ⟨m,y,hw,hy⟩
         rw [hh y ((p2 y).2 ⟨m,hw⟩)] at hy
         cases hy
        ·intro hh b hb'
         cases hvb:bit v b with
         | false=>rfl
         | true=>
          obtain ⟨m,hw⟩:=(p2 b).1 hb'
          exact absurd ⟨m,b,hw,hvb⟩ hh
       rcases r2 with ⟨hr,rfl⟩ | ⟨hr,r2⟩
       ·rw [if_pos (hreach.2 hr)]
        exact ⟨_,r1,rfl,by simp⟩
       ·rw [if_neg (fun e=>hreach.1 e hr)]
        rw [fG 20000 g hv (by decide) s v k c hs hf hb hr] at r1
        have:=fq g hv s v 10000 (by omega) k (by omega) c.fc
        rw [show ((10000:Nat):Int) = 10000 from rfl,r1] at this
        rw [this]
        simp only [aa]
        refine ⟨r,?_,rfl,?_⟩
        ·rw [fG 20000 g hv (by decide) s v k c hs hf hb hr]; exact r1
        ·rcases r2 with rfl | ⟨w,c', z,rfl,_,w2,_⟩
         ·simp
         ·simpa using w2
   ·have et:t = 2:=by
     rcases t2 with ⟨_,_,h⟩ | ⟨h,_⟩ | ⟨_,h⟩
     ·exact absurd h hf
     ·exact h
     ·exact absurd hv h
    subst et
    have:b2 = false:=by cases b2 with
     | false=>rfl
     | true=>exact absurd (f4.1 rfl) hf
    subst this
    refine ⟨([],⟨0⟩,2),?_,?_,by simp⟩
    ·unfold ac_p
     rw [y1]
     simp only [aa,jn]
     rw [ifT,f1]
     simp only [aa]
     rw [ifT,f3]
     simp only [aa]
     rw [if_neg (by decide),ifT]
    ·unfold aq_p
     rw [z1]
     simp only [aa]
     rw [ifT,t1]
     simp only [aa]
     rw [if_neg (by decide)]
  ·have ez:z = 2:=by
    rcases z2 with ⟨_,_,h⟩ | ⟨h,_⟩ | ⟨_,h⟩
    ·exact absurd h hs
    ·exact h
    ·exact absurd hv h
   subst ez
   have:b1 = false:=by cases b1 with
    | false=>rfl
    | true=>exact absurd (f2.1 rfl) hs
   subst this
   refine ⟨([],⟨0⟩,2),?_,?_,by simp⟩
   ·unfold ac_p
    rw [y1]
    simp only [aa,jn]
    rw [ifT,f1]
    simp only [aa]
    rw [if_neg (by decide),ifT]
   ·unfold aq_p
    rw [z1]
    simp only [aa]
    rw [if_neg (by decide)]
 ·have ez:z = 180:=by
   rcases z2 with ⟨_,h,_⟩ | ⟨_,h,_⟩ | ⟨h,_⟩
   ·exact absurd h hv
   ·exact absurd h hv
   ·exact h
  subst ez
  refine ⟨([],⟨0⟩,180),?_,?_,by simp⟩
  ·unfold ac_p
   rw [y1]
   simp only [aa]
   rw [if_neg (by decide)]
  ·unfold aq_p
   rw [z1]
   simp only [aa]
   rw [if_neg (by decide)]
end Go.Proofs.YtlleajifdbnbaaaGreatDoor
namespace Go.Proofs.YtlleajifdbnbaaaGreatDoor
open Go
/-! ### Drafted graphs -/
theorem cu {x y:Int} (h:y ≠ 0):bt x y = some (x.tmod y):=if_neg h
theorem quoI_ok {x y:Int} (h:y ≠ 0) (h1:-9223372036854775808 <= x.tdiv y) (h2:x.tdiv y <= 9223372036854775807):dy x y = some (x.tdiv y):=by unfold dy; rw [if_neg h,aG ⟨h1,h2⟩]
theorem more_ok (n N:Nat) (d:Td) (s a b:Int) (hs:s ≠ 0) (q:Bool) (hn:10 < n):∃ q', ae (aa_l1 N d s a b) n (q,0) = some q' :=by
 obtain ⟨r,h1,_⟩:=aw (B:=aa_l1 N d s a b) (fun s=>3 - s.2) (fun s=>s.2 <= 3) (fun _=>True) (fun ⟨q,i⟩ J hi hJ=>by
  simp only at hi hJ
  unfold aa_l1
  simp only
  by_cases h1:i < d.fm.length
  ·rw [if_pos h1]
   by_cases h2:i < 3
   ·rw [if_pos h2,geE h1]
    simp only [aa]
    rw [cu hs]
    simp only [aa]
    rw [cu hs]
    simp only [aa]
    have go:∀ q', ∃ r,J (q', i + 1) = some r/\True:=fun q' =>hJ _ (by simp only; omega) (by simp only; omega)
    repeat' split
    all_goals exact go _
   ·rw [if_neg h2]; exact ⟨_,rfl,trivial⟩
  ·rw [if_neg h1]; exact ⟨_,rfl,trivial⟩) n (q,0) (by simp) (by simp only; omega)
 exact ⟨r,h1⟩
theorem more2:aa_l2 = aa_l1:=rfl
theorem more3:aa_l3 = aa_l1:=rfl
theorem more4:aa_l4 = aa_l1:=rfl
set_option maxRecDepth 8000 in
theorem gu (n:Nat) (N:Nat) (d:Td) (a b:Nat) (z:Int) (xs:List (Int × Int)) (J:Int × Int × (List (Int × Int)) -> Option (Int × (List (Int × Int)))) (hn:10 < n) (hab:a < b) (hbN:b < N) (hN:N <= 12) (hz0:0 <= z) (hz:z <= 1000) (hxs:xs.length <= 1000) :
  ∃ z' xs', aa_l5 n (N:Int) (a:Int) d J (z,(b:Int),xs) = J (z', ((b + 1:Nat):Int),xs')/\z <= z' /\z' <= z + 1/\(xs' = xs ∨ xs' = xs ++ [((a:Int),(b:Int))]):=by
 have hs:(N:Int) ≠ 0:=by omega
 have hw:(d.fj % (4:UInt8)).toNat < 4:=by rw [UInt8.toNat_mod]; exact Nat.mod_lt _ (by decide)
 have fin:∀ (q:Bool) (z' : Int),z <= z' -> z' <= z + 1 -> ∃ z'' xs', ((ae (aa_l1 n d (N:Int) (a:Int) (b:Int)) n (q,0)).bind fun q' =>(if q' = true then (app xs ([((a:Int),(b:Int))]:List (Int × Int))).bind fun xs1=>(chk ((b:Int) + 1)).bind fun s=>J (z', s,xs1) else (chk ((b:Int) + 1)).bind fun s=>J (z', s,xs))) = J (z'', ((b + 1:Nat):Int),xs')/\z <= z'' /\z'' <= z + 1/\(xs' = xs ∨ xs' = xs ++ [((a:Int),(b:Int))]):=by
  intro q z' h1 h2
  obtain ⟨q', e⟩:=more_ok n n d (N:Int) (a:Int) (b:Int) hs q hn
  rw [e]
  simp only [aa]
  rw [aG (by omega),cM (by simp only [List.length_singleton]; omega)]
  simp only [aa]
  cases q' with
  | true=>rw [if_pos rfl]; exact ⟨z', _,rfl,h1,h2,.inr rfl⟩
  | false=>rw [if_neg (by simp)]; exact ⟨z', _,rfl,h1,h2,.inl rfl⟩
 unfold aa_l5
 simp only [jn,more2,more3,more4]
 have t1:z.tmod 2 = z % 2:=Int.tmod_eq_emod_of_nonneg hz0
 have t2:z.tdiv 2 = z / 2:=Int.tdiv_eq_ediv_of_nonneg hz0
 have t3:(z / 2).tmod 16 = (z / 2) % 16:=Int.tmod_eq_emod_of_nonneg (by omega)
 rw [if_pos (by omega),aG (by omega)]
 simp only [aa]
 rw [cu (show (2:Int) ≠ 0 by decide),quoI_ok (show (2:Int) ≠ 0 by decide) (by omega) (by omega)]
 simp only [aa]
 rw [cu (show (16:Int) ≠ 0 by decide),aG (show -9223372036854775808 <= z + 1/\z + 1 <= 9223372036854775807 by omega),aG (show -9223372036854775808 <= (a:Int) + 1/\(a:Int) + 1 <= 9223372036854775807 by omega),cu (show (((1 + ((d.fj % (4:UInt8)).toNat):Nat):Int)) ≠ 0 by omega)]
 simp only [aa]
 repeat' split
 all_goals refine fin _ _ ?_ ?_ <;> omega
def Ahead (xs:List (Int × Int)) (N a b:Nat):Prop:=(∀ e ∈ xs,0 <= e.1/\e.1 < e.2/\e.2 < (N:Int)/\Lex e ((a:Int),(b:Int)))/\∀ (i:Nat) (e f:Int × Int),xs[i]? = some e -> xs[i + 1]? = some f -> Lex e f
theorem Ahead.more {xs:List (Int × Int)} {N a b:Nat} (h:Ahead xs N a b) (hab:a < b) (hb:b < N):Ahead (xs ++ [((a:Int),(b:Int))]) N a (b + 1):=by
 refine ⟨fun e he=>?_,fun i e f he hf=>?_⟩
 ·rcases List.mem_append.1 he with he | he
  ·obtain ⟨h1,h2,h3,h4⟩:=h.1 e he
   refine ⟨h1,h2,h3,?_⟩
   unfold Lex at h4 ⊢
   simp only at h4 ⊢
   omega
  ·rcases List.mem_singleton.1 he with rfl
   exact ⟨by simp,by simp only; omega,by simp only; omega,.inr ⟨rfl,by simp only; omega⟩⟩
 ·have hi:=(List.getElem?_eq_some_iff.1 hf).1
  simp only [List.length_append,List.length_singleton] at hi
  rw [List.getElem?_append_left (by omega)] at he
  by_cases hl:i + 1 < xs.length
  ·rw [List.getElem?_append_left hl] at hf
   exact h.2 i e f he hf
  ·rw [List.getElem?_append_right (by omega),show i + 1 - xs.length = 0 by omega] at hf
   cases hf
   exact (h.1 e (List.mem_of_getElem? he)).2.2.2
theorem Ahead.next {xs:List (Int × Int)} {N a b a' b' : Nat} (h:Ahead xs N a b) (hl:a < a' ∨ a = a' /\b <= b'):Ahead xs N a' b' :=by
 refine ⟨fun e he=>?_,h.2⟩
 obtain ⟨h1,h2,h3,h4⟩:=h.1 e he
 refine ⟨h1,h2,h3,?_⟩
 unfold Lex at h4 ⊢
 simp only at h4 ⊢
 omega
theorem Ahead.nil {N a b:Nat}:Ahead [] N a b:=by
 refine ⟨fun e he=>?_,fun i e f he=>?_⟩
 ·cases he
 ·simp at he
theorem gz (n:Nat) (d:Td) (hn:300 < n):∃ g,aa_p n d = some g/\Valid g/\g.fN <= 12:=by
 unfold aa_p
 have hw:(d.fj % (4:UInt8)).toNat < 4:=by rw [UInt8.toNat_mod]; exact Nat.mod_lt _ (by decide)
 have hh:(d.fl % (3:UInt8)).toNat < 3:=by rw [UInt8.toNat_mod]; exact Nat.mod_lt _ (by decide)
 generalize (d.fj % (4:UInt8)).toNat = w at *
 generalize (d.fl % (3:UInt8)).toNat = h at *
 obtain ⟨N,hN,hN1,hN12⟩:∃ N:Nat,(((1 + w:Nat):Int) * ((1 + h:Nat):Int)) = (N:Int)/\1 <= N/\N <= 12:=by
  refine ⟨(1 + w) * (1 + h),by rw [Int.natCast_mul],Nat.mul_pos (by omega) (by omega),?_⟩
  have:(1 + w) * (1 + h) <= 4 * 3:=Nat.mul_le_mul (by omega) (by omega)
  omega
 rw [hN,aG (by omega)]
 simp only [aa]
 obtain ⟨xs,e1,e2,e3⟩:=aw (B:=aa_l6 n (N:Int) d) (fun (_,a,_)=>N - a.toNat) (fun (z,a,xs)=>∃ k:Nat,a = (k:Int)/\k <= N/\0 <= z/\z <= 12 * k/\xs.length <= 12 * k/\Ahead xs N k k) (fun xs=>xs.length <= 144/\Ahead xs N N N) (fun ⟨z,a,xs⟩ J hI hJ=>by
  simp only at hI hJ
  obtain ⟨a,rfl,h1,h2,h3,h4,h5⟩:=hI
  unfold aa_l6
  simp only
  by_cases ha:(a:Int) < N
  ·rw [if_pos ha,aG (by omega)]
   simp only [aa]
   obtain ⟨⟨z', xs'⟩,f1,f2,f3,f4,f5⟩:=aw (B:=aa_l5 n (N:Int) (a:Int) d) (fun (_,b,_)=>N - b.toNat) (fun (z,b,xs)=>∃ k:Nat,b = (k:Int)/\a < k/\k <= N/\0 <= z/\z <= 12 * a + k/\xs.length <= 12 * a + k/\Ahead xs N a k) (fun (z,xs)=>0 <= z/\z <= 12 * (a + 1)/\xs.length <= 12 * (a + 1)/\Ahead xs N a N) (fun ⟨z,b,xs⟩ J hI hJ=>by
    simp only at hI hJ
    obtain ⟨b,rfl,g1,g2,g3,g4,g5,g6⟩:=hI
    by_cases hb:b < N
    ·obtain ⟨z', xs', p1,p2,p3,p4⟩:=gu n N d a b z xs J (by omega) g1 hb hN12 g3 (by omega) (by omega)
     rw [p1]
     refine hJ _ ⟨b + 1,rfl,by omega,by omega,show 0 <= z' by omega,show z' <= 12 * (a:Int) + ((b + 1:Nat):Int) by omega,?_,?_⟩ (by simp only [Int.toNat_natCast]; omega)
     ·show xs'.length <= 12 * a + (b + 1)
      rcases p4 with rfl | rfl
      ·omega
      ·simp only [List.length_append,List.length_singleton]; omega
     ·show Ahead xs' N a (b + 1)
      rcases p4 with rfl | rfl
      ·exact g6.next (.inr ⟨rfl,by omega⟩)
      ·exact g6.more g1 hb
    ·unfold aa_l5
     simp only
     rw [if_neg (by omega)]
     have:b = N:=by omega
     subst this
     exact ⟨_,rfl,g3,by simp only; omega,by simp only; omega,g6⟩) n (z,(a:Int) + 1,xs) ⟨a + 1,by simp,by omega,by omega,h2,by omega,by omega,h5.next (.inr ⟨rfl,by omega⟩)⟩ (by simp only; omega)
   rw [f1]
   simp only [aa]
   exact hJ _ ⟨a + 1,by simp,by omega,f2,show z' <= 12 * ((a + 1:Nat):Int) by omega,show xs'.length <= 12 * (a + 1) by omega,f5.next (.inl (by omega))⟩ (by simp only; omega)
  ·rw [if_neg ha]
   have:a = N:=by omega
   subst this
   exact ⟨_,rfl,by omega,h5⟩) n (0,0,[]) ⟨0,rfl,by omega,by omega,by omega,by simp,Ahead.nil⟩ (by simp only; omega)
 rw [e1]
 refine ⟨_,rfl,⟨by simp only; omega,by simp only; omega,by simp only; omega,fun e he=>?_,e3.2⟩,by simp only; omega⟩
 obtain ⟨h1,h2,h3,_⟩:=e3.1 e he
 exact ⟨h1,h2,h3⟩
end Go.Proofs.YtlleajifdbnbaaaGreatDoor
namespace Go.Proofs.YtlleajifdbnbaaaGreatDoor
open Go
theorem gx (n:Nat) (xs:List (Int × Int)) (h:xs.length <= 1000):aM_p n xs = some xs:=by
 unfold aM_p
 rw [cM (by simp only [leN]; omega)]
 simp only [aa,List.nil_append]
 unfold bT
 cases xs with
 | nil=>rfl
 | cons x xs=>rfl
theorem bend_ok (n:Nat) (b:TBend) (g:Tb) (h:Valid g) (u:UInt64):∃ h' u', bb_p n b g u = some (h', u')/\(h'.fN = g.fN ∨ u' = u):=by
 have hlen:=h.len
 unfold bb_p a6_p
 rw [gx n _ (by omega)]
 simp only [aa]
 by_cases h0:(b.fWhat % (6:UInt8)).toNat = 0
 ·rw [if_pos h0]; exact ⟨_,_,rfl,.inr rfl⟩
 rw [if_neg h0]
 by_cases h1:(b.fWhat % (6:UInt8)).toNat = 1
 ·rw [if_pos h1]
  by_cases hl:0 < g.fh.length
  ·rw [if_pos hl]
   have hk:(ac ((g.fh.length:Nat):Int)).toNat = g.fh.length:=gL (by omega)
   have hk0:ac ((g.fh.length:Nat):Int) ≠ 0:=fun e=>by rw [e] at hk; simp at hk; omega
   have hr:cy (ac b.fN) (ac ((g.fh.length:Nat):Int)) = some (ac b.fN % ac ((g.fh.length:Nat):Int)):=if_neg hk0
   rw [hr]
   simp only [aa]
   have hm:(ac b.fN % ac ((g.fh.length:Nat):Int)).toNat < g.fh.length:=by
    rw [UInt64.toNat_mod,hk]
    exact Nat.mod_lt _ hl
   generalize ac b.fN % ac ((g.fh.length:Nat):Int) = t at *
   rw [cO (by omega),cD,geE hm]
   simp only [aa,Int.toNat_natCast]
   rw [dg _ (by omega) (by omega)]
   simp only [aa,Int.toNat_natCast]
   rw [cD,geE (by simp only [List.length_set]; omega)]
   simp only [aa]
   rw [dg _ (by omega) (by simp only [List.length_set]; omega)]
   simp only [aa]
   exact ⟨_,_,rfl,.inl rfl⟩
  ·rw [if_neg hl]; exact ⟨_,_,rfl,.inl rfl⟩
 rw [if_neg h1]
 by_cases h2:(b.fWhat % (6:UInt8)).toNat = 2
 ·rw [if_pos h2]; exact ⟨_,_,rfl,.inl rfl⟩
 rw [if_neg h2]
 by_cases h3:(b.fWhat % (6:UInt8)).toNat = 3
 ·rw [if_pos h3]; exact ⟨_,_,rfl,.inl rfl⟩
 rw [if_neg h3]
 exact ⟨_,_,rfl,.inl rfl⟩
theorem dj (a0:Td) (a1:TBend) (a2 a3:UInt64) (a4:Int) (a5:Ta):∃ n,aP_p n a0 a1 a2 a3 a4 a5 = some true:=by
 refine ⟨20000,?_⟩
 unfold aP_p
 rw [eV]
 simp only [aa]
 rw [ifT]
 obtain ⟨g,g1,g2,g3⟩:=gz 20000 a0 (by omega)
 rw [g1]
 simp only [aa]
 have h1:=g2.n1
 rw [aN (by omega)]
 simp only [aa]
 obtain ⟨h,s,b1,_⟩:=bend_ok 20000 a1 g g2 (a2 &&& ((shlU (1:UInt64) g.fN.toNat) - (1:UInt64)))
 rw [b1]
 simp only [aa]
 obtain ⟨N,hN⟩:∃ N:Nat,g.fN = N:=⟨g.fN.toNat,by omega⟩
 have hk:(ac g.fN).toNat = N:=by rw [hN]; exact gL (by omega)
 have hk0:ac g.fN ≠ 0:=fun e=>by rw [e] at hk; simp at hk; omega
 have hr:cy (ac a4) (ac g.fN) = some (ac a4 % ac g.fN):=if_neg hk0
 rw [hr]
 simp only [aa]
 obtain ⟨r,p1,p2,p3⟩:=ce g (a2 &&& ((shlU (1:UInt64) g.fN.toNat) - (1:UInt64))) (ab (ac a4 % ac g.fN)) (a3 &&& ((shlU (1:UInt64) g.fN.toNat) - (1:UInt64))) a5
 rw [p1]
 simp only [aa]
 rw [p2]
 simp only [aa]
 rw [ck 20000 r.1 (by omega)]
 simp only [aa]
 rw [ifT,ifT,ifT]
 obtain ⟨r,p1,p2,p3⟩:=ce g a2 a4 a3 a5
 rw [p1]
 simp only [aa]
 rw [p2]
 simp only [aa]
 rw [ck 20000 r.1 (by omega)]
 simp only [aa]
 rw [ifT,ifT,ifT]
 obtain ⟨r,p1,p2,p3⟩:=ce h s (ab (ac a4 % (12:UInt64))) (a3 &&& ((shlU (1:UInt64) g.fN.toNat) - (1:UInt64))) a5
 rw [p1]
 simp only [aa]
 rw [p2]
 simp only [aa]
 rw [ck 20000 r.1 (by omega)]
 simp only [aa]
 rw [ifT,ifT,ifT]
end Go.Proofs.YtlleajifdbnbaaaGreatDoor
