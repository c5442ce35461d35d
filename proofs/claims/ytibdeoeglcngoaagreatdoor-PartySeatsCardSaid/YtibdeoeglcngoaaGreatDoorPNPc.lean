/- Plain laws: words, their value, and integers of any length: sum, difference, product. No program in sight but the printed functions. -/
import Derived.Test.YtibdeoeglcngoaaGreatDoorPN8
namespace Go.Proofs.YtibdeoeglcngoaaGreatDoor
open Go
theorem ab {α β:Type} (x:α) (f:α -> Option β):(some x).bind f = f x:=Eq.trans (Eq.refl _) (Eq.refl _)
theorem gb {α β:Type} (B:(α -> Option β) -> α -> Option β) (n:Nat) (s:α):ak B (n + 1) s = B (ak B n) s:=rfl
theorem ax {α β:Type} {B:(α -> Option β) -> α -> Option β} (m:α -> Nat) (I:α -> Prop) (Q:β -> Prop)
  (step:∀ s J,I s -> (∀ s', I s' -> m s' < m s -> ∃ r,J s' = some r/\Q r) -> ∃ r,B J s = some r/\Q r):∀ n s,I s -> m s < n -> ∃ r,ak B n s = some r/\Q r:=by
 intro n
 induction n with
 | zero=>intro s _ h; omega
 | succ n ih=>intro s hI h; exact step s (ak B n) hI fun s' h1 h2=>ih s' h1 (by omega)
theorem bh {x:Int} (h1:-9223372036854775808 <= x) (h2:x <= 9223372036854775807):chk x = some x:=if_pos ⟨h1,h2⟩
theorem bC {α:Type} {xs:List α} {i:Int} (h0:0 <= i) (h:i.toNat < xs.length):idx xs i = some xs[i.toNat]:=by unfold idx; rw [if_pos h0,geE h]
theorem bm {α:Type} {xs:List α} {i:Nat} (x:α) (h:i < xs.length):put xs (i:Int) x = some (xs.set i x):=by
 unfold put; rw [if_pos ⟨Int.natCast_nonneg _,by omega⟩]; rfl
theorem cut_ok {α:Type} {xs:List α} {z:Nat} (h:z <= xs.length):cut xs 0 (z:Int) = some (xs.take z):=by
 unfold cut; rw [if_pos ⟨Int.le_refl _,Int.natCast_nonneg _,by omega⟩]; rfl
theorem dl {α:Type} (n:Nat) (x:α) (h:n <= 4294967296):mk (n:Int) x = some (List.replicate n x):=by
 unfold mk; rw [if_pos ⟨Int.natCast_nonneg _,by omega⟩]; rfl
def val:List UInt64 -> Nat
 | []=>0
 | x :: xs=>x.toNat + 18446744073709551616 * val xs
def dg (m:Nat):List UInt64:=if m = 0 then [] else UInt64.ofNat m :: dg (m / 18446744073709551616)
termination_by m
decreasing_by exact Nat.div_lt_self (by omega) (by omega)
end Go.Proofs.YtibdeoeglcngoaaGreatDoor
namespace Go.Proofs.YtibdeoeglcngoaaGreatDoor
open Go
def L (z:Int):Tg:=⟨decide (z < 0),dg z.natAbs⟩
end Go.Proofs.YtibdeoeglcngoaaGreatDoor
namespace Go.Proofs.YtibdeoeglcngoaaGreatDoor
open Go
end Go.Proofs.YtibdeoeglcngoaaGreatDoor
namespace Go.Proofs.YtibdeoeglcngoaaGreatDoor
open Go
end Go.Proofs.YtibdeoeglcngoaaGreatDoor
namespace Go.Proofs.YtibdeoeglcngoaaGreatDoor
open Go
end Go.Proofs.YtibdeoeglcngoaaGreatDoor
namespace Go.Proofs.YtibdeoeglcngoaaGreatDoor
open Go
theorem co {x y:Int} (h:y ≠ 0):ct x y = some (x.tmod y):=if_neg h
theorem cu {α:Type} (xs ys:List α) (h:xs.length + ys.length <= 1000000):app xs ys = some (xs ++ ys):=if_pos (Nat.le_trans h (by decide))
theorem iD (n:Nat) (d:Tk) (i:Int) (h:0 <= i):∃ y,aO_p n d i = some y/\0 <= y/\y < 256:=by
 unfold aO_p
 split
 ·rw [bC h (by omega),ab]
  have:=(d.fLabels[i.toNat]'(by omega)).toNat_lt
  exact ⟨_,rfl,by omega,by omega⟩
 ·exact ⟨_,rfl,by omega,by omega⟩
theorem gU (n:Nat) (d:Tk) (hn:20 < n):∃ l,ak (ac_l2 n d) n (0,[]) = some l/\1 <= l.length/\l.length <= 9/\∀ x ∈ l,0 <= x/\x < 8:=by
 have hu:(d.fN % 9).toNat < 9:=by rw [UInt8.toNat_mod]; exact Nat.mod_lt _ (by decide)
 have hk:(d.fK % 8).toNat < 8:=by rw [UInt8.toNat_mod]; exact Nat.mod_lt _ (by decide)
 have h:=ax (B:=ac_l2 n d) (fun s:Int × List Int=>10 - s.1.toNat) (fun s=>0 <= s.1/\s.1 <= (1 + (d.fN % 9).toNat:Nat)/\s.2.length = s.1.toNat/\∀ x ∈ s.2,0 <= x/\x < 8)
  (fun l=>1 <= l.length/\l.length <= 9/\∀ x ∈ l,0 <= x/\x < 8) ?_ n (0,[]) ⟨by simp,by omega,by simp,by simp⟩ (by simp only; omega)
 ·obtain ⟨l,e,h⟩:=h; exact ⟨l,e,h⟩
 ·rintro ⟨z,xs⟩ J ⟨h1,h2,h3,h4⟩ hJ
  simp only at h1 h2 h3 h4 hJ
  unfold ac_l2 ba_p
  simp only [ab]
  split
  ·rename_i h5
   obtain ⟨y,e,y0,y1⟩:=iD n d z h1
   rw [e,ab,co (by omega),ab,cu _ _ (by simp only [leC,leN]; omega),ab,bh (by omega) (by omega),ab]
   refine hJ _ ⟨by simp only; omega,by simp only; omega,by simp only [List.length_append,leC,leN]; omega,fun x hx=>?_⟩ (by simp only; omega)
   rcases List.mem_append.1 hx with hx | hx
   ·exact h4 x hx
   ·rw [List.mem_singleton.1 hx,Int.tmod_eq_emod_of_nonneg y0]
    have a1:=Int.emod_nonneg y (b:=((1 + (d.fK % 8).toNat:Nat):Int)) (by omega)
    have a2:=Int.emod_lt_of_pos y (b:=((1 + (d.fK % 8).toNat:Nat):Int)) (by omega)
    omega
  ·rename_i h5
   exact ⟨_,rfl,by omega,by omega,h4⟩
theorem gP (n:Nat) (l:List Int) (h1:1 <= l.length) (h2:l.length <= 9) (h:∀ x ∈ l,0 <= x/\x < 8) (hn:20 < n):aD_p n l 8 = some true:=by
 have hh:=ax (B:=aD_l1 n l 8) (fun i:Nat=>l.length - i) (fun i=>i <= l.length) (fun r=>r = .inr ()) ?_ n 0 (Nat.zero_le _) (by omega)
 ·obtain ⟨r,e,rfl⟩:=hh
  unfold aD_p
  rw [e]
  show (if 1 <= l.length then some (decide (l.length <= 64)) else some false) = _
  rw [if_pos h1,decide_eq_true (by omega)]
 ·intro i J hi hJ
  unfold aD_l1
  simp only
  split
  ·rename_i h0
   have:=h l[i] (List.getElem_mem _)
   rw [geE h0,ab,if_neg (by omega),if_neg (by omega)]
   exact hJ (i + 1) h0 (by omega)
  ·exact ⟨_,rfl,rfl⟩
def bp (p:List Int) (k:Int):Prop:=(∀ x ∈ p,0 <= x/\x < k)/\∀ d,0 <= d -> d < k -> d ∈ p
theorem iJ (n:Nat) (l:List Int) (h1:1 <= l.length) (h2:l.length <= 9) (h:∀ x ∈ l,0 <= x/\x < 8) (hn:20 < n):∃ p z,aE_p n l = some (p,0)/\p.length = l.length/\bp p z/\z <= 8:=by
 have hh:=ax (B:=aE_l1 n l) (fun s:Int × Nat × List Int × List Int=>l.length - s.2.1)
  (fun s=>s.2.1 <= l.length/\s.2.2.1.length = s.2.1/\s.2.2.2.length = 8/\0 <= s.1/\s.1 + s.2.2.2.count (-1) = 8/\(∀ v ∈ s.2.2.2,v = -1 ∨ 0 <= v/\v < s.1)/\bp s.2.2.1 s.1)
  (fun p=>∃ z,p.length = l.length/\bp p z/\z <= 8) ?_ n (0,0,[],[-1,-1,-1,-1,-1,-1,-1,-1]) ⟨by simp,rfl,rfl,by simp,by decide,by simp,by simp,fun d h3 h4=>by simp only at h4; omega⟩ (by simp only; omega)
 ·obtain ⟨p,e,z,h3,h4,h5⟩:=hh
  refine ⟨p,z,?_,h3,h4,h5⟩
  unfold aE_p
  rw [gP n l h1 h2 h hn,ab,if_pos rfl,e,ab]
 ·rintro ⟨z,i,xs,m⟩ J ⟨a1,a2,a3,a4,a5,a6,a7,a8⟩ hJ
  simp only at a1 a2 a3 a4 a5 a6 a7 a8 hJ
  unfold aE_l1
  simp only
  split
  ·rename_i hi
   have hx:=h l[i] (List.getElem_mem _)
   have hm:l[i].toNat < m.length:=by omega
   rw [geE hi,ab,bC hx.1 hm,ab]
   unfold jn
   simp only
   have hv:=a6 m[l[i].toNat] (List.getElem_mem _)
   by_cases hneg:m[l[i].toNat] < 0
   ·have hv1:m[l[i].toNat] = -1:=by omega
    have hc:0 < m.count (-1):=by rw [<- hv1]; exact List.count_pos_iff.2 (List.getElem_mem _)
    rw [if_pos hneg,bm _ hm,ab,bh (by omega) (by omega),ab,bC hx.1 (by simpa using hm),ab,List.getElem_set_self,cu _ _ (by simp only [leC,leN]; omega),ab]
    refine hJ _ ⟨by simp only; omega,by simp only [List.length_append,leC,leN]; omega,by simpa using a3,by simp only; omega,?_,?_,?_,?_⟩ (by simp only; omega)
    ·simp only
     rw [List.count_set hm,hv1]
     have:((z == (-1:Int)) = false):=by rw [beq_eq_false_iff_ne]; omega
     simp only [this]
     simp only [beq_self_eq_true,if_true]
     simp
     omega
    ·intro v hv2
     rcases List.mem_or_eq_of_mem_set hv2 with hv2 | rfl
     ·rcases a6 v hv2 with h5 | h5
      ·exact .inl h5
      ·exact .inr ⟨h5.1,by simp only; omega⟩
     ·exact .inr ⟨a4,by simp only; omega⟩
    ·intro x hx2
     simp only at hx2 ⊢
     rcases List.mem_append.1 hx2 with hx2 | hx2
     ·have:=a7 x hx2; omega
     ·rw [List.mem_singleton.1 hx2]; omega
    ·intro d d0 d1
     simp only at d1 ⊢
     by_cases hd:d = z
     ·subst hd; exact List.mem_append_right _ (List.mem_singleton.2 rfl)
     ·exact List.mem_append_left _ (a8 d d0 (by omega))
   ·rw [if_neg hneg,bC hx.1 hm,ab,cu _ _ (by simp only [leC,leN]; omega),ab]
    refine hJ _ ⟨by simp only; omega,by simp only [List.length_append,leC,leN]; omega,a3,a4,a5,a6,?_,?_⟩ (by simp only; omega)
    ·intro x hx2
     simp only at hx2 ⊢
     rcases List.mem_append.1 hx2 with hx2 | hx2
     ·exact a7 x hx2
     ·rw [List.mem_singleton.1 hx2]; omega
    ·intro d d0 d1
     exact List.mem_append_left _ (a8 d d0 d1)
  ·exact ⟨_,rfl,z,by omega,⟨a7,a8⟩,by omega⟩
theorem ig (n:Nat) (d:Tk) (hn:20 < n):∃ p k,ac_p n d = some (p,k)/\1 <= p.length/\p.length <= 9/\bp p k/\1 <= k/\k <= 8:=by
 obtain ⟨l,e1,l1,l2,l3⟩:=gU n d hn
 obtain ⟨p,z,e2,p1,p2,p3⟩:=iJ n l l1 l2 l3 hn
 have hh:=ax (B:=ac_l1 n (p,0)) (fun s:Int × Nat=>p.length - s.2) (fun s=>s.2 <= p.length/\0 <= s.1/\s.1 <= 8/\(∀ j (h:j < p.length),j < s.2 -> p[j] + 1 <= s.1)/\(s.1 = 0/\s.2 = 0 ∨ s.1 - 1 ∈ p))
  (fun k=>1 <= k/\k <= 8/\(∀ x ∈ p,x < k)/\k - 1 ∈ p) ?_ n (0,0) ⟨by simp,by simp,by simp,fun j _ h=>by simp at h,.inl ⟨rfl,rfl⟩⟩ (by simp only; omega)
 ·obtain ⟨k,e3,k1,k2,k3,k4⟩:=hh
  refine ⟨p,k,?_,by omega,by omega,⟨fun x hx=>⟨(p2.1 x hx).1,k3 x hx⟩,fun d d0 d1=>p2.2 d d0 (by have:=(p2.1 _ k4).2; omega)⟩,k1,k2⟩
  unfold ac_p
  rw [e1,ab,e2,ab,e3,ab]
 ·rintro ⟨z', i⟩ J ⟨a1,a2,a3,a4,a5⟩ hJ
  simp only at a1 a2 a3 a4 a5 hJ
  unfold ac_l1
  simp only
  split
  ·rename_i hi
   have hx:=p2.1 p[i] (List.getElem_mem _)
   rw [geE hi,ab,bh (by omega) (by omega),ab]
   refine hJ _ ⟨hi,by simp only; omega,by simp only; omega,fun j hj h4=>?_,?_⟩ (by simp only; omega)
   ·simp only at h4 ⊢
    by_cases hj2:j = i
    ·subst hj2; omega
    ·have:=a4 j hj (by omega); omega
   ·right
    simp only
    by_cases hm:z' <= p[i] + 1
    ·rw [Int.max_eq_right hm,show p[i] + 1 - 1 = p[i] by omega]; exact List.getElem_mem _
    ·rw [Int.max_eq_left (by omega)]
     rcases a5 with ⟨h5,h6⟩ | h5
     ·omega
     ·exact h5
  ·rename_i hi
   rcases a5 with ⟨h5,h6⟩ | h5
   ·omega
   ·refine ⟨_,rfl,by have:=(p2.1 _ h5).1; omega,a3,fun x hx=>?_,h5⟩
    obtain ⟨j,hj,rfl⟩:=List.getElem_of_mem hx
    have:=a4 j hj (by omega); omega
end Go.Proofs.YtibdeoeglcngoaaGreatDoor
namespace Go.Proofs.YtibdeoeglcngoaaGreatDoor
open Go
def FU:Nat:=18446744073709552000
def nm (i:Nat):ByteArray:=⟨#[117,UInt8.ofNat (97 + i),97]⟩
theorem eb {κ ν:Type} [DecidableEq κ]:∀ (D:List (κ × ν)) (k x:κ) (v:ν),dN (aY D k v) x = if x = k then some v else dN D x
 | [],k,x,v=>by simp [aY,dN]
 | e :: D,k,x,v=>by
  unfold aY
  split
  ·rename_i h; subst h; simp only [dN]; split <;> rfl
  ·rename_i h
   simp only [dN]
   rw [eb D k x v]
   by_cases h1:x = k
   ·subst h1; simp [h]
   ·simp [h1]
theorem iE (n:Nat) (l:List Bool) (h:∀ b ∈ l,b = true) (hn:l.length < n):aK_p n l = some true:=by
 have hh:=ax (B:=ar_l1 n l false) (fun i:Nat=>l.length - i) (fun i=>i <= l.length) (fun r=>r = .inr ()) ?_ n 0 (Nat.zero_le _) (by omega)
 ·obtain ⟨r,e,rfl⟩:=hh
  unfold aK_p aN_p ar_p
  rw [e]
  rfl
 ·intro i J hi hJ
  unfold ar_l1
  simp only
  split
  ·rename_i h0
   rw [geE h0,ab,h l[i] (List.getElem_mem _),if_neg (by decide)]
   exact hJ (i + 1) h0 (by omega)
  ·exact ⟨_,rfl,rfl⟩
theorem fX (n:Nat) (d:Ti) (i:Int) (h:0 <= i):∃ y,aA_p n d i = some y/\0 <= y/\y <= 255:=by
 unfold aA_p
 split
 ·exact ⟨_,rfl,by omega,by omega⟩
 ·rename_i h0
  have h1:=Int.emod_nonneg i (b:=(d.fNums.length:Int)) (by omega)
  have h2:=Int.emod_lt_of_pos i (b:=(d.fNums.length:Int)) (by omega)
  rw [co (by omega),ab,Int.tmod_eq_emod_of_nonneg h,bC h1 (by omega),ab]
  have:=(d.fNums[(i % (d.fNums.length:Int)).toNat]'(by omega)).toNat_lt
  exact ⟨_,rfl,by omega,by omega⟩
theorem fJ (n:Nat) (d:Ti) (c at_ aQ:Int) (h0:0 <= c) (h1:c <= 100) (h2:0 <= at_) (h3:at_ <= 1000) (h4:0 <= aQ) (hn:200 < n):∃ l,aq_p n d c at_ aQ = some l/\(l.length:Int) = c/\∀ x ∈ l,0 <= x/\x <= aQ/\x <= 255:=by
 have hh:=ax (B:=aq_l1 n c at_ d aQ) (fun s:Int × List Int=>101 - s.1.toNat) (fun s=>0 <= s.1/\s.1 <= c/\(s.2.length:Int) = s.1/\∀ x ∈ s.2,0 <= x/\x <= aQ/\x <= 255)
  (fun l=>(l.length:Int) = c/\∀ x ∈ l,0 <= x/\x <= aQ/\x <= 255) ?_ n (0,[]) ⟨by simp,h0,by simp,by simp⟩ (by simp only; omega)
 ·obtain ⟨l,e,h⟩:=hh
  refine ⟨l,?_,h⟩
  unfold aq_p
  rw [e,ab]
 ·rintro ⟨z,xs⟩ J ⟨a1,a2,a3,a4⟩ hJ
  simp only at a1 a2 a3 a4 hJ
  unfold aq_l1
  simp only
  split
  ·obtain ⟨y,e,y0,y1⟩:=fX n d (at_ + z) (by omega)
   rw [bh (by omega) (by omega),ab,e,ab,cu _ _ (by simp only [leC,leN]; omega),ab,bh (by omega) (by omega),ab]
   refine hJ _ ⟨by simp only; omega,by simp only; omega,by simp only [List.length_append,leC,leN]; omega,fun x hx=>?_⟩ (by simp only; omega)
   rcases List.mem_append.1 hx with hx | hx
   ·exact a4 x hx
   ·rw [List.mem_singleton.1 hx]; omega
  ·exact ⟨_,rfl,by omega,a4⟩
def UnitOk (G P L:Int) (u:Tc):Prop:=u.fq = false/\(0 <= u.fv/\u.fv <= 255)/\((u.fe.length:Int) = G/\∀ x ∈ u.fe,0 <= x/\x <= u.fv)/\((u.fC.length:Int) = P/\∀ x ∈ u.fC,0 <= x/\x <= 255)/\((u.fB.length:Int) = L/\∀ x ∈ u.fB,0 <= x/\x <= 63)
def sea (G P L:Int):Tc:=⟨⟨#[115,101,97]⟩,0,List.replicate G.toNat 0,List.replicate P.toNat 0,List.replicate L.toNat 0,true⟩
structure RollOk (r:Td) (us:List Tc):Prop where
 g:0 <= r.fe/\r.fe <= 2
 p:0 <= r.fc/\r.fc <= 3
 l:0 <= r.fh/\r.fh <= 2
 len:1 <= us.length/\us.length <= 9
 land:∀ i (h:i < us.length),us[i].fw = nm i/\UnitOk r.fe r.fc r.fh us[i]
 all:r.ft = us ∨ r.ft = us ++ [sea r.fe r.fc r.fh]
end Go.Proofs.YtibdeoeglcngoaaGreatDoor
namespace Go.Proofs.YtibdeoeglcngoaaGreatDoor
open Go
theorem aN:(1000000:Nat) < FU:=by decide
def tot (us:List Tc):Int:=(us.map (·.fv)).sum
end Go.Proofs.YtibdeoeglcngoaaGreatDoor
namespace Go.Proofs.YtibdeoeglcngoaaGreatDoor
open Go
set_option maxRecDepth 8000
theorem dH (l:List Bool) (hn:l.length <= 1000):aK_p FU l = some (decide (∀ b ∈ l,b = true)):=by
 have hF:=aN
 by_cases h:∀ b ∈ l,b = true
 ·rw [decide_eq_true h]; exact iE FU l h (by omega)
 ·rw [decide_eq_false h]
  have hh:=ax (B:=ar_l1 FU l false) (fun i:Nat=>l.length - i) (fun i=>i <= l.length/\∀ b ∈ l.take i,b = true) (fun r=>∃ j:Nat,r = .inl (j:Int)) ?_ FU 0 ⟨Nat.zero_le _,by simp⟩ (by omega)
  ·obtain ⟨r,e,j,rfl⟩:=hh
   unfold aK_p aN_p ar_p
   rw [e]
   show (((some (j:Int)).bind fun y1=>some (decide (0 <= y1))).bind fun y1=>some (!y1)) = some false
   rw [ab,ab,decide_eq_true (by omega)]; rfl
  ·rintro i J ⟨hi,h2⟩ hJ
   unfold ar_l1
   simp only
   split
   ·rename_i h0
    rw [geE h0,ab]
    rcases hb:l[i] with _ | _
    ·rw [if_pos (by decide)]; exact ⟨_,rfl,i,rfl⟩
    ·rw [if_neg (by decide)]
     refine hJ (i + 1) ⟨h0,fun b hb2=>?_⟩ (by omega)
     rw [List.take_succ_eq_append_getElem h0,List.mem_append,List.mem_singleton,hb] at hb2
     exact hb2.elim (h2 b) id
   ·rw [List.take_of_length_le (by omega)] at h2
    exact absurd h2 h
def Wi (l:List Int) (a aQ:Int):Prop:=(l.length:Int) = a/\∀ x ∈ l,0 <= x/\x <= aQ
instance (l:List Int) (a aQ:Int):Decidable (Wi l a aQ):=by unfold Wi; infer_instance
theorem cX (l:List Int) (a aQ:Int) (hn:l.length <= 1000):aI_p FU l a aQ = some (decide (Wi l a aQ)):=by
 have hF:=aN
 unfold aI_p
 by_cases hl:(l.length:Int) = a
 ·rw [if_pos hl]
  have hh:=ax (B:=aI_l1 FU l aQ) (fun i:Nat=>l.length - i) (fun i=>i <= l.length/\∀ x ∈ l.take i,0 <= x/\x <= aQ) (fun r=>r = .inr ()/\Wi l a aQ ∨ r = .inl false/\¬ Wi l a aQ) ?_ FU 0 ⟨Nat.zero_le _,by simp⟩ (by omega)
  ·obtain ⟨r,e,hr⟩:=hh
   rw [e]
   rcases hr with ⟨rfl,hr⟩ | ⟨rfl,hr⟩
   ·rw [decide_eq_true hr]; rfl
   ·rw [decide_eq_false hr]; rfl
  ·rintro i J ⟨hi,h2⟩ hJ
   unfold aI_l1 cj_p
   simp only
   split
   ·rename_i h0
    rw [geE h0,ab]
    by_cases h3:0 <= l[i]/\l[i] <= aQ
    ·rw [if_neg (by omega),ab,decide_eq_false (by omega),if_neg (by decide)]
     refine hJ (i + 1) ⟨h0,fun x hx=>?_⟩ (by omega)
     rw [List.take_succ_eq_append_getElem h0,List.mem_append,List.mem_singleton] at hx
     rcases hx with hx | rfl
     ·exact h2 x hx
     ·exact h3
    ·have hbad:¬ Wi l a aQ:=fun h=>h3 (h.2 _ (List.getElem_mem _))
     by_cases h4:l[i] < 0
     ·rw [if_pos h4,ab,if_pos rfl,decide_eq_true (Nat.zero_le _)]
      exact ⟨_,rfl,.inr ⟨rfl,hbad⟩⟩
     ·rw [if_neg h4,ab,decide_eq_true (by omega),if_pos rfl,decide_eq_true (Nat.zero_le _)]
      exact ⟨_,rfl,.inr ⟨rfl,hbad⟩⟩
   ·rw [List.take_of_length_le (by omega)] at h2
    exact ⟨_,rfl,.inl ⟨rfl,hl,h2⟩⟩
 ·rw [if_neg hl,decide_eq_false fun h=>hl h.1]
theorem bw (l:List Int) (a aQ:Int) (hn:l.length <= 1000):am_p FU l a aQ = some (decide (Wi l a aQ)):=by
 have hF:=aN
 have hh:=ax (B:=am_l1 FU l aQ) (fun i:Nat=>l.length - i) (fun i=>i <= l.length/\∀ x ∈ l.take i,0 <= x/\x <= aQ) (fun r=>r = .inr ()/\(∀ x ∈ l,0 <= x/\x <= aQ) ∨ r = .inl false/\¬ ∀ x ∈ l,0 <= x/\x <= aQ) ?_ FU 0 ⟨Nat.zero_le _,by simp⟩ (by omega)
 ·obtain ⟨r,e,hr⟩:=hh
  unfold am_p
  rw [e]
  rcases hr with ⟨rfl,hr⟩ | ⟨rfl,hr⟩
  ·exact congrArg some (decide_eq_decide.2 ⟨fun h=>⟨h,hr⟩,fun h=>h.1⟩)
  ·rw [decide_eq_false fun h:Wi l a aQ=>hr h.2]; rfl
 ·rintro i J ⟨hi,h2⟩ hJ
  unfold am_l1
  simp only
  split
  ·rename_i h0
   rw [geE h0,ab]
   by_cases h3:0 <= l[i]/\l[i] <= aQ
   ·rw [if_neg (by omega),if_neg (by omega)]
    refine hJ (i + 1) ⟨h0,fun x hx=>?_⟩ (by omega)
    rw [List.take_succ_eq_append_getElem h0,List.mem_append,List.mem_singleton] at hx
    rcases hx with hx | rfl
    ·exact h2 x hx
    ·exact h3
   ·have hbad:¬ ∀ x ∈ l,0 <= x/\x <= aQ:=fun h=>h3 (h _ (List.getElem_mem _))
    by_cases h4:l[i] < 0
    ·rw [if_pos h4]; exact ⟨_,rfl,.inr ⟨rfl,hbad⟩⟩
    ·rw [if_neg h4,if_pos (by omega)]; exact ⟨_,rfl,.inr ⟨rfl,hbad⟩⟩
  ·rw [List.take_of_length_le (by omega)] at h2
   exact ⟨_,rfl,.inl ⟨rfl,h2⟩⟩
def NS:List ByteArray:=⟨#[115,101,97]⟩ :: (List.range 13).map nm
@[reducible] def ltrs:ByteArray:=⟨#[65,66,67,68,69,70,71,72,73,74,75,76,77,78,79,80,81,82,83,84,85,86,87,88,89,90,97,98,99,100,101,102,103,104,105,106,107,108,109,110,111,112,113,114,115,116,117,118,119,120,121,122,48,49,50,51,52,53,54,55,56,57,45,95]⟩
theorem ns_all:NS.all (fun b=>decide (aw_p FU b ltrs = some ⟨#[]⟩) && decide (aM_p FU b = some true) && !decide (b = ⟨#[]⟩) && decide (b.size <= 12)) = true:=by kernel_rfl
theorem ns_ok {b:ByteArray} (h:b ∈ NS):aw_p FU b ltrs = some ⟨#[]⟩/\aM_p FU b = some true/\¬ b = ⟨#[]⟩/\b.size <= 12:=by
 have:=List.all_eq_true.1 ns_all b h
 simpa [Bool.and_eq_true,and_assoc] using this
def UV (r:Td) (u:Tc):Prop:=0 <= u.fv/\u.fv <= (if u.fq = true then 0 else 1000000000)/\Wi u.fe r.fe u.fv/\Wi u.fC r.fc (if u.fq = true then 0 else 1000000000)/\Wi u.fB r.fh (if u.fq = true then 0 else 63)
instance (r:Td) (u:Tc):Decidable (UV r u):=by unfold UV; infer_instance
structure Sm4 (u:Tc):Prop where
 n:u.fw ∈ NS
 g:u.fe.length <= 1000
 v:u.fC.length <= 1000
 q:u.fB.length <= 1000
theorem iI (r:Td) (u:Tc) (h:Sm4 u):cr_p FU r u = some (decide (UV r u)):=by
 obtain ⟨n1,_,n3,n4⟩:=ns_ok h.n
 have key:∀ (V P:Nat),V = (if u.fq = true then 0 else 1000000000) -> P = (if u.fq = true then 0 else 63) -> ((aw_p FU u.fw ltrs).bind fun y30=>(aI_p FU u.fe r.fe u.fv).bind fun y31=>(aI_p FU u.fC r.fc ((V:Nat):Int)).bind fun y32=>(aI_p FU u.fB r.fh ((P:Nat):Int)).bind fun y33=>(aK_p FU ([(!(decide (u.fw = ⟨#[]⟩))),(decide (u.fw.size <= 12)),(decide (y30 = ⟨#[]⟩)),(decide (0 <= u.fv)),(decide (u.fv <= ((V:Nat):Int))),y31,y32,y33]:List Bool)).bind fun y40=>some y40) = some (decide (UV r u)):=by
  intro V P hV hP
  rw [n1,ab,cX _ _ _ h.g,ab,cX _ _ _ h.v,ab,cX _ _ _ h.q,ab,dH _ (by simp),ab]
  refine congrArg some (decide_eq_decide.2 ?_)
  have eV:((V:Nat):Int) = (if u.fq = true then 0 else 1000000000):=by rw [hV]; split <;> rfl
  have eP:((P:Nat):Int) = (if u.fq = true then 0 else 63):=by rw [hP]; split <;> rfl
  rw [eV,eP]
  unfold UV
  simp only [List.mem_cons,List.not_mem_nil,or_false,forall_eq_or_imp,forall_eq,Bool.not_eq_true', decide_eq_false_iff_not,decide_eq_true_eq]
  constructor
  ·rintro ⟨_,_,_,a,b,c,d,e⟩; exact ⟨a,b,c,d,e⟩
  ·rintro ⟨a,b,c,d,e⟩; exact ⟨n3,n4,trivial,a,b,c,d,e⟩
 unfold cr_p jn
 simp only
 by_cases hw:u.fq = true
 ·rw [if_pos hw]; exact key 0 0 (by rw [if_pos hw]) (by rw [if_pos hw])
 ·rw [if_neg hw]; exact key 1000000000 63 (by rw [if_neg hw]) (by rw [if_neg hw])
theorem gK (r:Td) (u:Tc) (h:Sm4 u):bw_p FU r u = some (decide (UV r u)):=by
 obtain ⟨_,n2,_,_⟩:=ns_ok h.n
 unfold bw_p
 rw [n2,ab,if_pos rfl]
 by_cases h1:u.fv < 0
 ·rw [if_pos h1,decide_eq_false fun h=>absurd h.1 (by omega)]
 ·rw [if_neg h1]
  by_cases h2:1000000000 < u.fv
  ·rw [if_pos h2,decide_eq_false fun h=>by have:=h.2.1; split at this <;> omega]
  ·rw [if_neg h2,bw _ _ _ h.g,ab]
   by_cases h3:Wi u.fe r.fe u.fv
   ·rw [if_pos (decide_eq_true h3),bw _ _ _ h.v,ab]
    by_cases h4:Wi u.fC r.fc 1000000000
    ·rw [if_pos (decide_eq_true h4),bw _ _ _ h.q,ab]
     by_cases h5:Wi u.fB r.fh 63
     ·rw [if_pos (decide_eq_true h5)]
      by_cases hw:u.fq = true
      ·rw [if_pos hw]
       by_cases h6:u.fv = 0
       ·rw [if_pos h6,bw _ _ _ h.v,ab]
        by_cases h7:Wi u.fC r.fc 0
        ·rw [if_pos (decide_eq_true h7),bw _ _ _ h.q,ab]
         refine congrArg some (decide_eq_decide.2 ?_)
         unfold UV
         simp only [if_pos hw]
         exact ⟨fun h8=>⟨by omega,by omega,h3,h7,h8⟩,fun h=>h.2.2.2.2⟩
        ·rw [if_neg (by simpa using h7),decide_eq_false fun h=>h7 (by have:=h.2.2.2.1; rwa [if_pos hw] at this)]
       ·rw [if_neg h6,decide_eq_false fun h=>h6 (by have h8:=h.2.1; have:=h.1; rw [if_pos hw] at h8; omega)]
      ·rw [if_neg hw,decide_eq_true ⟨by omega,by rw [if_neg hw]; omega,h3,by rw [if_neg hw]; exact h4,by rw [if_neg hw]; exact h5⟩]
     ·rw [if_neg (by simpa using h5),decide_eq_false fun h=>h5 ⟨h.2.2.2.2.1,fun x hx=>by have:=h.2.2.2.2.2 x hx; split at this <;> omega⟩]
    ·rw [if_neg (by simpa using h4),decide_eq_false fun h=>h4 ⟨h.2.2.2.1.1,fun x hx=>by have:=h.2.2.2.1.2 x hx; split at this <;> omega⟩]
   ·rw [if_neg (by simpa using h3),decide_eq_false fun h=>h3 h.2.2.1]
structure RV (r:Td):Prop where
 g:0 <= r.fe/\r.fe <= 6
 p:0 <= r.fc/\r.fc <= 12
 l:0 <= r.fh/\r.fh <= 3
 n:1 <= r.ft.length/\r.ft.length <= 64
 u:∀ i (h:i < r.ft.length),UV r r.ft[i]
 nm:∀ i (h:i < r.ft.length) j (h' : j < i),r.ft[j].fw ≠ r.ft[i].fw
 w:∀ i (h:i < r.ft.length) j (h' : j < i),r.ft[j].fq = true -> r.ft[i].fq = true
 z:∀ h:0 < r.ft.length,r.ft[0].fq = false
open Classical in
theorem eC (r:Td) (h:∀ u ∈ r.ft,Sm4 u):aV_p FU r = some (if RV r then 0 else 161):=by
 have hF:=aN
 unfold aV_p
 rw [dH _ (by simp),ab]
 by_cases h0:((0 <= r.fe/\r.fe <= 6)/\(0 <= r.fc/\r.fc <= 12)/\(0 <= r.fh/\r.fh <= 3)/\1 <= r.ft.length/\r.ft.length <= 64)
 ·rw [if_pos]
  ·have hh:=ax (B:=aV_l1 FU r) (fun s:Bool × Nat × List (ByteArray × Bool)=>r.ft.length - s.2.1)
    (fun s=>s.2.1 <= r.ft.length/\(s.2.1 = 0 -> s.1 = false)/\(∀ h:0 < s.2.1,∀ h' : s.2.1 - 1 < r.ft.length,s.1 = r.ft[s.2.1 - 1].fq)/\(∀ x,aC s.2.2 x false = true ↔ ∃ j,∃ hj:j < r.ft.length,j < s.2.1/\r.ft[j].fw = x)/\
     (∀ i (h:i < r.ft.length),i < s.2.1 -> UV r r.ft[i])/\(∀ i (h:i < r.ft.length) j (h' : j < i),i < s.2.1 -> r.ft[j].fw ≠ r.ft[i].fw)/\(∀ i (h:i < r.ft.length) j (h' : j < i),i < s.2.1 -> r.ft[j].fq = true -> r.ft[i].fq = true)/\(∀ h:0 < r.ft.length,0 < s.2.1 -> r.ft[0].fq = false))
    (fun y=>y = .inr ()/\RV r ∨ y = .inl 161/\¬ RV r) ?_ FU (false,0,[]) ⟨Nat.zero_le _,fun _=>rfl,fun h=>absurd h (by simp),fun x=>⟨fun hx=>by simp [aC,dN] at hx,fun ⟨j,_,hj,_⟩=>by simp at hj⟩,fun i _ hi=>by simp at hi,fun i _ j _ hi=>by simp at hi,fun i _ j _ hi=>by simp at hi,fun _ hi=>by simp at hi⟩ (by simp only; omega)
   ·obtain ⟨y,e,hy⟩:=hh
    rw [e]
    rcases hy with ⟨rfl,hv⟩ | ⟨rfl,hv⟩
    ·rw [if_pos hv]; rfl
    ·rw [if_neg hv]; rfl
   ·rintro ⟨q,i,D⟩ J ⟨a1,a2,a3,a4,a5,a6,a7,a8⟩ hJ
    simp only at a1 a2 a3 a4 a5 a6 a7 a8 hJ
    unfold aV_l1
    simp only
    by_cases hi:i < r.ft.length
    ·rw [if_pos hi,geE hi,ab,iI r _ (h _ (List.getElem_mem _)),ab]
     -- what has to hold of this unit
     have good:UV r r.ft[i] -> aC D r.ft[i].fw false = false -> (q = true -> r.ft[i].fq = true) -> (i = 0 -> r.ft[i].fq = false) -> ∃ y,J (r.ft[i].fq,i + 1,aY D r.ft[i].fw true) = some y/\(y = .inr ()/\RV r ∨ y = .inl 161/\¬ RV r):=by
      intro g1 g2 g3 g4
      have gn:∀ j (hj:j < i),r.ft[j].fw ≠ r.ft[i].fw:=fun j hj e=>by
       have:=(a4 r.ft[i].fw).2 ⟨j,by omega,hj,e⟩
       rw [g2] at this; cases this
      have gw:∀ j (hj:j < i),r.ft[j].fq = true -> r.ft[i].fq = true:=fun j hj hw=>by
       refine g3 ?_
       rw [a3 (by omega) (by omega)]
       by_cases e:j = i - 1
       ·subst e; exact hw
       ·exact a7 (i - 1) (by omega) j (by omega) (by omega) hw
      refine hJ _ ⟨hi,fun e=>absurd e (by simp),fun _ h' =>rfl,fun x=>?_,fun k hk hki=>?_,fun k hk j hj hki=>?_,fun k hk j hj hki=>?_,fun hk _=>?_⟩ (by simp only; omega)
      ·simp only
       unfold aC
       rw [eb]
       have:=a4 x
       unfold aC at this
       by_cases e:x = r.ft[i].fw
       ·rw [if_pos e]
        exact ⟨fun _=>⟨i,hi,by omega,e.symm⟩,fun _=>rfl⟩
       ·rw [if_neg e,this]
        constructor
        ·rintro ⟨j,hj,hji,ej⟩; exact ⟨j,hj,by omega,ej⟩
        ·rintro ⟨j,hj,hji,ej⟩
         by_cases e2:j = i
         ·subst e2; exact absurd ej.symm e
         ·exact ⟨j,hj,by omega,ej⟩
      ·by_cases e:k = i
       ·subst e; exact g1
       ·exact a5 k hk (by simp only at hki; omega)
      ·by_cases e:k = i
       ·subst e; exact gn j hj
       ·exact a6 k hk j hj (by simp only at hki; omega)
      ·by_cases e:k = i
       ·subst e; exact gw j hj
       ·exact a7 k hk j hj (by simp only at hki; omega)
      ·by_cases e:i = 0
       ·subst e; exact g4 rfl
       ·exact a8 hk (by omega)
     have bad:(¬ UV r r.ft[i] ∨ aC D r.ft[i].fw false = true ∨ (q = true/\r.ft[i].fq = false) ∨ (i = 0/\r.ft[i].fq = true)) -> ¬ RV r:=by
      rintro hb hv
      rcases hb with hb | hb | ⟨hb,hb2⟩ | ⟨hb,hb2⟩
      ·exact hb (hv.u i hi)
      ·obtain ⟨j,hj,hji,e⟩:=(a4 _).1 hb
       exact hv.nm i hi j hji e
      ·by_cases e:i = 0
       ·rw [a2 e] at hb; cases hb
       ·have:=hv.w i hi (i - 1) (by omega) (by rw [<- a3 (by omega) (by omega)]; exact hb)
        rw [hb2] at this; cases this
      ·subst hb
       have:=hv.z hi
       rw [hb2] at this; cases this
     have fin:∀ l:List Bool,l.length <= 1000 -> ((∀ b ∈ l,b = true) ↔ (UV r r.ft[i]/\aC D r.ft[i].fw false = false/\(q = true -> r.ft[i].fq = true)/\(i = 0 -> r.ft[i].fq = false))) -> ∃ y,((aK_p FU l).bind fun y=>(if y = true then J (r.ft[i].fq,i + 1,aY D r.ft[i].fw true) else some (.inl (161:Int)))) = some y/\(y = .inr ()/\RV r ∨ y = .inl 161/\¬ RV r):=by
      intro l hl hiff
      rw [dH l hl,ab]
      by_cases hq:∀ b ∈ l,b = true
      ·rw [if_pos (decide_eq_true hq)]
       obtain ⟨g1,g2,g3,g4⟩:=hiff.1 hq
       exact good g1 g2 g3 g4
      ·rw [if_neg (by simpa using hq)]
       refine ⟨_,rfl,.inr ⟨rfl,bad ?_⟩⟩
       refine Classical.byContradiction fun hc=>hq (hiff.2 ?_)
       simp only [not_or,not_and,Bool.not_eq_true,Classical.not_not] at hc
       obtain ⟨c1,c2,c3,c4⟩:=hc
       refine ⟨c1,c2,fun e=>?_,fun e=>?_⟩
       ·rcases hww:r.ft[i].fq with _ | _
        ·exact absurd hww (by simpa using c3 e)
        ·rfl
       ·simpa using c4 e
     rcases hw:r.ft[i].fq with _ | _
     ·rw [if_neg (by decide)]
      by_cases hp:0 < i
      ·rw [if_pos hp]
       have:=fin [decide (UV r r.ft[i]),!(aC D r.ft[i].fw false),!q,true] (by simp) (by
        rw [hw]
        simp only [List.mem_cons,List.not_mem_nil,or_false,forall_eq_or_imp,forall_eq,Bool.not_eq_true', decide_eq_true_eq]
        constructor
        ·rintro ⟨b1,b2,b3,_⟩; exact ⟨b1,b2,fun e=>(by rw [e] at b3; cases b3),fun _=>trivial⟩
        ·rintro ⟨b1,b2,b3,_⟩; exact ⟨b1,b2,by rcases q with _ | _; rfl; exact absurd (b3 rfl) (by decide),trivial⟩)
       rw [hw] at this
       exact this
      ·rw [if_neg hp]
       have:=fin [decide (UV r r.ft[i]),!(aC D r.ft[i].fw false),!q,!r.ft[i].fq] (by simp) (by
        rw [hw]
        simp only [List.mem_cons,List.not_mem_nil,or_false,forall_eq_or_imp,forall_eq,Bool.not_eq_true', decide_eq_true_eq]
        constructor
        ·rintro ⟨b1,b2,b3,_⟩; exact ⟨b1,b2,fun e=>(by rw [e] at b3; cases b3),fun _=>trivial⟩
        ·rintro ⟨b1,b2,b3,_⟩; exact ⟨b1,b2,by rcases q with _ | _; rfl; exact absurd (b3 rfl) (by decide),trivial⟩)
       rw [hw] at this
       exact this
     ·rw [if_pos rfl]
      by_cases hp:0 < i
      ·rw [if_pos hp]
       have:=fin [decide (UV r r.ft[i]),!(aC D r.ft[i].fw false),true,true] (by simp) (by
        rw [hw]
        simp only [List.mem_cons,List.not_mem_nil,or_false,forall_eq_or_imp,forall_eq,Bool.not_eq_true', decide_eq_true_eq]
        constructor
        ·rintro ⟨b1,b2,_,_⟩; exact ⟨b1,b2,fun _=>trivial,fun e=>by omega⟩
        ·rintro ⟨b1,b2,_,_⟩; exact ⟨b1,b2,trivial,trivial⟩)
       rw [hw] at this
       exact this
      ·rw [if_neg hp]
       have:=fin [decide (UV r r.ft[i]),!(aC D r.ft[i].fw false),true,!r.ft[i].fq] (by simp) (by
        rw [hw]
        simp only [List.mem_cons,List.not_mem_nil,or_false,forall_eq_or_imp,forall_eq,Bool.not_eq_true', decide_eq_true_eq]
        constructor
        ·rintro ⟨_,_,_,b4⟩; cases b4
        ·rintro ⟨_,_,_,b4⟩; exact absurd (b4 (by omega)) (by decide))
       rw [hw] at this
       exact this
    ·rw [if_neg hi]
     refine ⟨_,rfl,.inl ⟨rfl,h0.1,h0.2.1,h0.2.2.1,h0.2.2.2,fun i hi2=>a5 i hi2 (by omega),fun i hi2 j hj=>a6 i hi2 j hj (by omega),fun i hi2 j hj=>a7 i hi2 j hj (by omega),fun hi2=>a8 hi2 (by omega)⟩⟩
  ·simp only [List.mem_cons,List.not_mem_nil,or_false,forall_eq_or_imp,forall_eq,decide_eq_true_eq]
   omega
 ·rw [if_neg,if_neg fun hv:RV r=>h0 ⟨hv.g,hv.p,hv.l,hv.n⟩]
  simp only [List.mem_cons,List.not_mem_nil,or_false,forall_eq_or_imp,forall_eq,decide_eq_true_eq]
  omega
open Classical in
theorem cy (r:Td) (h:∀ u ∈ r.ft,Sm4 u):ah_p FU r = some (if RV r then 0 else 161):=by
 have hF:=aN
 unfold ah_p jn
 simp only [if_true]
 by_cases g1:r.fe < 0
 ·rw [if_pos g1,if_neg fun hv:RV r=>by have:=hv.g; omega]
 rw [if_neg g1]
 by_cases g2:6 < r.fe
 ·rw [if_pos g2,if_neg fun hv:RV r=>by have:=hv.g; omega]
 rw [if_neg g2]
 by_cases g3:r.fc < 0
 ·rw [if_pos g3,if_neg fun hv:RV r=>by have:=hv.p; omega]
 rw [if_neg g3]
 by_cases g4:12 < r.fc
 ·rw [if_pos g4,if_neg fun hv:RV r=>by have:=hv.p; omega]
 rw [if_neg g4]
 by_cases g5:r.fh < 0
 ·rw [if_pos g5,if_neg fun hv:RV r=>by have:=hv.l; omega]
 rw [if_neg g5]
 by_cases g6:3 < r.fh
 ·rw [if_pos (decide_eq_true g6),if_neg fun hv:RV r=>by have:=hv.l; omega]
 rw [if_neg (by simpa using g6)]
 by_cases g7:r.ft.length < 1
 ·rw [if_pos g7,if_neg fun hv:RV r=>by have:=hv.n; omega]
 rw [if_neg g7]
 by_cases g8:64 < r.ft.length
 ·rw [if_pos g8,if_neg fun hv:RV r=>by have:=hv.n; omega]
 rw [if_neg g8,geE (by omega),ab]
 by_cases g9:r.ft[0].fq = true
 ·rw [if_pos g9,if_neg fun hv:RV r=>by have:=hv.z (by omega); rw [g9] at this; cases this]
 rw [if_neg g9]
 have hh:=ax (B:=ah_l2 FU r) (fun i:Nat=>r.ft.length - i)
  (fun s=>s <= r.ft.length/\(∀ i (h:i < r.ft.length),i < s -> UV r r.ft[i])/\(∀ i (h:i < r.ft.length) j (h' : j < i),i < s -> r.ft[j].fw ≠ r.ft[i].fw)/\(∀ i (h:i < r.ft.length) j (h' : j < i),i < s -> r.ft[j].fq = true -> r.ft[i].fq = true))
  (fun y=>y = .inr ()/\RV r ∨ y = .inl 161/\¬ RV r) ?_ FU 0 ⟨Nat.zero_le _,fun i _ hi=>by omega,fun i _ j _ hi=>by omega,fun i _ j _ hi=>by omega⟩ (by omega)
 ·obtain ⟨y,e,hy⟩:=hh
  rw [e]
  rcases hy with ⟨rfl,hv⟩ | ⟨rfl,hv⟩
  ·rw [if_pos hv]; rfl
  ·rw [if_neg hv]; rfl
 ·rintro i J ⟨a1,a5,a6,a7⟩ hJ
  unfold ah_l2
  simp only
  by_cases hi:i < r.ft.length
  ·rw [if_pos hi,geE hi,ab,gK r _ (h _ (List.getElem_mem _)),ab]
   by_cases hu:UV r r.ft[i]
   ·rw [if_pos (decide_eq_true hu)]
    have hin:=ax (B:=ah_l1 FU i r r.ft[i]) (fun j:Nat=>i - j) (fun s=>s <= i/\∀ j (hj:j < r.ft.length),j < s -> r.ft[j].fw ≠ r.ft[i].fw/\(r.ft[j].fq = true -> r.ft[i].fq = true))
     (fun y=>y = .inr ()/\(∀ j (hj:j < r.ft.length),j < i -> r.ft[j].fw ≠ r.ft[i].fw/\(r.ft[j].fq = true -> r.ft[i].fq = true)) ∨ y = .inl (.inl 161)/\¬ RV r) ?_ FU 0 ⟨Nat.zero_le _,fun j _ hj=>by omega⟩ (by omega)
    ·obtain ⟨y,e,hy⟩:=hin
     rw [e]
     rcases hy with ⟨rfl,hy⟩ | ⟨rfl,hy⟩
     ·refine hJ (i + 1) ⟨hi,fun k hk hki=>?_,fun k hk j hj hki=>?_,fun k hk j hj hki=>?_⟩ (by omega)
      ·by_cases e:k = i
       ·subst e; exact hu
       ·exact a5 k hk (by omega)
      ·by_cases e:k = i
       ·subst e; exact (hy j (by omega) hj).1
       ·exact a6 k hk j hj (by omega)
      ·by_cases e:k = i
       ·subst e; exact (hy j (by omega) hj).2
       ·exact a7 k hk j hj (by omega)
     ·exact ⟨_,rfl,.inr ⟨rfl,hy⟩⟩
    ·rintro j J' ⟨b1,b2⟩ hJ'
     unfold ah_l1
     simp only
     by_cases hj:j < i
     ·have next:r.ft[j].fw ≠ r.ft[i].fw -> (r.ft[j].fq = true -> r.ft[i].fq = true) -> _:=fun c1 c2=>hJ' (j + 1) ⟨hj,fun k hk hkj=>by
       by_cases e:k = j
       ·subst e; exact ⟨c1,c2⟩
       ·exact b2 k hk (by omega)⟩ (by omega)
      rw [if_pos hj,geE (by omega),ab]
      by_cases c1:r.ft[j].fw = r.ft[i].fw
      ·rw [if_pos c1]
       exact ⟨_,rfl,.inr ⟨rfl,fun hv=>hv.nm i hi j hj c1⟩⟩
      ·rw [if_neg c1]
       by_cases c2:r.ft[j].fq = true
       ·rw [if_pos c2]
        by_cases c3:r.ft[i].fq = true
        ·rw [if_pos c3]; exact next c1 fun _=>c3
        ·rw [if_neg c3]; exact ⟨_,rfl,.inr ⟨rfl,fun hv=>c3 (hv.w i hi j hj c2)⟩⟩
       ·rw [if_neg c2]; exact next c1 fun e=>absurd e c2
     ·rw [if_neg hj]
      exact ⟨_,rfl,.inl ⟨rfl,fun k hk hki=>b2 k hk (by omega)⟩⟩
   ·rw [if_neg (by simpa using hu)]
    exact ⟨_,rfl,.inr ⟨rfl,fun hv=>hu (hv.u i hi)⟩⟩
  ·rw [if_neg hi]
   exact ⟨_,rfl,.inl ⟨rfl,by omega,by omega,by omega,by omega,fun i hi2=>a5 i hi2 (by omega),fun i hi2 j hj=>a6 i hi2 j hj (by omega),fun i hi2 j hj=>a7 i hi2 j hj (by omega),fun hi2=>by simpa using g9⟩⟩
end Go.Proofs.YtibdeoeglcngoaaGreatDoor
namespace Go.Proofs.YtibdeoeglcngoaaGreatDoor
open Go
theorem cS {κ ν:Type} [DecidableEq κ]:∀ (D:List (κ × ν)) (k:κ) (v:ν),(aY D k v).map Prod.fst = if k ∈ D.map Prod.fst then D.map Prod.fst else D.map Prod.fst ++ [k]
 | [],k,v=>by simp [aY]
 | e :: D,k,v=>by
  unfold aY
  by_cases h:k = e.1
  ·rw [if_pos h]; simp [h]
  ·rw [if_neg h]
   simp only [List.map_cons,cS D k v,List.mem_cons]
   by_cases h2:k ∈ D.map Prod.fst
   ·simp [h2]
   ·rw [if_neg h2,if_neg (by rintro (h3 | h3); exact h h3; exact h2 h3)]; rfl
theorem gN {l:List Int} {k:Int} (hk:0 <= k) (hn:l.Nodup) (h:∀ x,x ∈ l ↔ 0 <= x/\x < k):(l.length:Int) = k:=by
 have h2:((List.range k.toNat).map fun i:Nat=>(i:Int)).Nodup:=by
  unfold List.Nodup
  exact List.Pairwise.map _ (fun a b hab=>by omega) List.nodup_range
 have h3:l.length <= ((List.range k.toNat).map fun i:Nat=>(i:Int)).length:=hn.length_le_of_subset fun x hx=>List.mem_map.2 ⟨x.toNat,List.mem_range.2 (by have:=(h x).1 hx; omega),by have:=(h x).1 hx; omega⟩
 have h4:((List.range k.toNat).map fun i:Nat=>(i:Int)).length <= l.length:=h2.length_le_of_subset fun x hx=>by
  obtain ⟨i,hi,rfl⟩:=List.mem_map.1 hx
  have:=List.mem_range.1 hi
  exact (h _).2 ⟨by omega,by omega⟩
 rw [List.length_map,List.length_range] at h3 h4
 omega
end Go.Proofs.YtibdeoeglcngoaaGreatDoor
namespace Go.Proofs.YtibdeoeglcngoaaGreatDoor
open Go
set_option maxRecDepth 8000
structure Lnd (r:Td) (us:List Tc):Prop where
 all:∃ ws,r.ft = us ++ ws/\∀ u ∈ ws,u.fq = true
 w:∀ u ∈ us,u.fq = false
theorem lnd_of {r:Td} (h:RV r):∃ us,Lnd r us/\1 <= us.length:=by
 have key:∀ (l:List Tc),(∀ i (h:i < l.length) j (h' : j < i),l[j].fq = true -> l[i].fq = true) -> ∃ us ws,l = us ++ ws/\(∀ u ∈ us,u.fq = false)/\(∀ u ∈ ws,u.fq = true)/\((∀ h:0 < l.length,l[0].fq = false) -> 0 < l.length -> 1 <= us.length):=by
  intro l
  induction l with
  | nil=>intro _; exact ⟨[],[],rfl,by simp,by simp,fun _ h=>by simp at h⟩
  | cons u l ih=>
   intro hl
   rcases hu:u.fq with _ | _
   ·obtain ⟨us,ws,e,h1,h2,_⟩:=ih fun i hi j hj=>hl (i + 1) (by simpa using hi) (j + 1) (by omega)
    refine ⟨u :: us,ws,by rw [e]; rfl,fun v hv=>?_,h2,fun _ _=>by simp⟩
    rcases List.mem_cons.1 hv with rfl | hv
    ·exact hu
    ·exact h1 v hv
   ·refine ⟨[],u :: l,rfl,by simp,fun v hv=>?_,fun h0 _=>?_⟩
    ·obtain ⟨i,hi,rfl⟩:=List.getElem_of_mem hv
     cases i with
     | zero=>exact hu
     | succ i=>exact hl (i + 1) hi 0 (by omega) hu
    ·have:=h0 (by simp)
     simp only [List.getElem_cons_zero] at this
     rw [hu] at this; cases this
 obtain ⟨us,ws,e,h1,h2,h3⟩:=key r.ft h.w
 exact ⟨us,⟨⟨ws,e,h2⟩,h1⟩,h3 h.z h.n.1⟩
theorem Lnd.at {r:Td} {us:List Tc} (h:Lnd r us) {i:Nat} (hi:i < r.ft.length):(∃ h2:i < us.length,r.ft[i] = us[i]/\r.ft[i].fq = false) ∨ us.length <= i/\r.ft[i].fq = true:=by
 obtain ⟨ws,e,hw⟩:=h.all
 have hz:r.ft.length = us.length + ws.length:=by rw [e,List.length_append]
 by_cases h2:i < us.length
 ·have e0:r.ft[i] = us[i]:=by simp only [e]; exact List.getElem_append_left h2
  exact .inl ⟨h2,e0,by rw [e0]; exact h.w _ (List.getElem_mem _)⟩
 ·refine .inr ⟨by omega,hw _ ?_⟩
  have:r.ft[i] = ws[i - us.length]'(by omega):=by simp only [e]; exact List.getElem_append_right (by omega)
  rw [this]; exact List.getElem_mem _
theorem Lnd.le {r:Td} {us:List Tc} (h:Lnd r us):us.length <= r.ft.length:=by
 obtain ⟨ws,e,_⟩:=h.all
 rw [e,List.length_append]; omega
theorem io {r:Td} {us:List Tc} (h:Lnd r us) (hn:r.ft.length <= 1000):aF_p FU r = some (us.length:Int):=by
 have hF:=aN
 have hle:=h.le
 have hh:=ax (B:=aF_l1 FU r) (fun i:Nat=>r.ft.length - i) (fun i=>i <= us.length) (fun y=>y = us.length) ?_ FU 0 (Nat.zero_le _) (by omega)
 ·obtain ⟨y,e,rfl⟩:=hh
  unfold aF_p jn
  simp only
  rw [e,ab]
 ·intro i J hi hJ
  unfold aF_l1
  simp only
  by_cases h0:i < r.ft.length
  ·rw [if_pos h0,geE h0,ab]
   rcases h.at h0 with ⟨h2,_,hw⟩ | ⟨h2,hw⟩
   ·rw [if_neg (by rw [hw]; decide)]
    exact hJ (i + 1) h2 (by omega)
   ·rw [if_pos hw]
    exact ⟨_,rfl,by omega⟩
  ·rw [if_neg h0]
   exact ⟨_,rfl,by omega⟩
def bY (p:List Int) (n:Nat) (k:Int):Prop:=p.length = n/\bp p k
theorem dL (e:Int):ak_p FU false e = some (.ok ()):=rfl
theorem eT:ak_p FU true 220 = some (.error ⟨220⟩):=rfl
theorem eN {l:List Int} {k:Int} (hk:0 <= k) (hn:l.Nodup) (h:∀ x ∈ l,0 <= x/\x < k) (hl:(l.length:Int) = k):∀ d,0 <= d -> d < k -> d ∈ l:=fun d d0 d1=>by
 refine Classical.byContradiction fun hd=>?_
 have h2:((List.range k.toNat).map fun i:Nat=>(i:Int)).Nodup:=by
  unfold List.Nodup
  exact List.Pairwise.map _ (fun a b hab=>by omega) List.nodup_range
 have h3:(d :: l).length <= ((List.range k.toNat).map fun i:Nat=>(i:Int)).length:=(List.nodup_cons.2 ⟨hd,hn⟩).length_le_of_subset fun x hx=>by
  have hx2:0 <= x/\x < k:=by
   rcases List.mem_cons.1 hx with rfl | hx
   ·exact ⟨d0,d1⟩
   ·exact h x hx
  exact List.mem_map.2 ⟨x.toNat,List.mem_range.2 (by omega),by omega⟩
 rw [leC,List.length_map,List.length_range] at h3
 omega
theorem used_eq (r:Td) (p:List Int) (k:Int) (hl:p.length <= 1000):∃ y,ak (ae_l1 FU p ⟨r,k⟩) FU (0,[]) = some y/\((∃ D:List (Int × Bool),y = .inr D/\(∀ x ∈ p,0 <= x/\x < k)/\(D.map Prod.fst).Nodup/\∀ x,x ∈ D.map Prod.fst ↔ x ∈ p) ∨ y = .inl (.error ⟨220⟩)/\¬ ∀ x ∈ p,0 <= x/\x < k):=by
 have hF:=aN
 refine ax (B:=ae_l1 FU p ⟨r,k⟩) (fun s:Nat × List (Int × Bool)=>p.length - s.1) (fun s=>s.1 <= p.length/\(∀ x ∈ p.take s.1,0 <= x/\x < k)/\(s.2.map Prod.fst).Nodup/\∀ x,x ∈ s.2.map Prod.fst ↔ x ∈ p.take s.1) _ ?_ FU (0,[]) ⟨by simp,by simp,by simp,by simp⟩ (by simp only; omega)
 rintro ⟨i,D⟩ J ⟨a1,a0,a2,a3⟩ hJ
 simp only at a0 a1 a2 a3 hJ
 unfold ae_l1
 simp only
 by_cases hi:i < p.length
 ·rw [if_pos hi,geE hi,ab]
  by_cases hx:0 <= p[i]/\p[i] < k
  ·rw [if_neg (by omega),decide_eq_false (by omega),dL, ab]
   unfold exc
   simp only
   refine hJ _ ⟨hi,fun x hx2=>?_,?_,fun x=>?_⟩ (by simp only; omega)
   ·simp only at hx2
    rw [List.take_succ_eq_append_getElem hi,List.mem_append,List.mem_singleton] at hx2
    rcases hx2 with hx2 | rfl
    ·exact a0 x hx2
    ·exact hx
   ·simp only
    rw [cS]
    split
    ·exact a2
    ·rename_i h5
     rw [List.nodup_append]
     exact ⟨a2,by simp,fun a ha b hb=>by rw [List.mem_singleton.1 hb]; exact fun e=>h5 (e ▸ ha)⟩
   ·simp only
    rw [cS,<- List.take_append_getElem hi,List.mem_append,<- a3 x,List.mem_singleton]
    split
    ·rename_i h5
     constructor
     ·exact .inl
     ·rintro (h6 | rfl)
      ·exact h6
      ·exact h5
    ·rw [List.mem_append,List.mem_singleton]
  ·have hbad:¬ ∀ x ∈ p,0 <= x/\x < k:=fun h=>hx (h _ (List.getElem_mem _))
   by_cases h1:p[i] < 0
   ·rw [if_pos h1,eT,ab]
    exact ⟨_,rfl,.inr ⟨rfl,hbad⟩⟩
   ·rw [if_neg h1,decide_eq_true (by omega),eT,ab]
    exact ⟨_,rfl,.inr ⟨rfl,hbad⟩⟩
 ·rw [if_neg hi]
  rw [List.take_of_length_le (by omega)] at a0 a3
  exact ⟨_,rfl,.inl ⟨D,rfl,a0,a2,a3⟩⟩
open Classical in
theorem hM (r:Td) (p:List Int) (k:Int) (hk:1 <= k) (hl:p.length <= 1000):(thn (ak (ae_l1 FU p ⟨r,k⟩) FU (0,[])) (fun D443=>(ak_p FU (!(decide (((D443.length:Nat):Int) = k))) (220:Int)).bind fun y497=>exc y497 (fun _=>some (Except.ok ())) (fun e498=>some (.error e498)))) = some (if bp p k then .ok () else .error ⟨220⟩):=by
 obtain ⟨y,e,hy⟩:=used_eq r p k hl
 rw [e]
 rcases hy with ⟨D,rfl,h1,h2,h3⟩ | ⟨rfl,h1⟩
 ·unfold thn
  simp only
  by_cases hD:(D.length:Int) = k
  ·rw [decide_eq_true hD]
   have hp:bp p k:=⟨h1,fun d d0 d1=>(h3 d).1 (eN (by omega) h2 (fun x hx=>h1 x ((h3 x).1 hx)) (by rw [List.length_map]; exact hD) d d0 d1)⟩
   rw [if_pos hp]; rfl
  ·rw [decide_eq_false hD]
   have hp:¬ bp p k:=fun hp=>hD (by
    have:=gN (l:=D.map Prod.fst) (k:=k) (by omega) h2 fun x=>by
     rw [h3 x]; exact ⟨fun hx=>hp.1 x hx,fun hx=>hp.2 x hx.1 hx.2⟩
    rwa [List.length_map] at this)
   rw [if_neg hp]; rfl
 ·have hp:¬ bp p k:=fun hp=>h1 hp.1
  rw [if_neg hp]; rfl
open Classical in
theorem iO {r:Td} {us:List Tc} (h:Lnd r us) (hn:r.ft.length <= 1000) (p:List Int) (k:Int) (hk:1 <= k) (hl:p.length <= 1000):ae_p FU ⟨r,k⟩ p = some (if bY p us.length k then .ok () else .error ⟨220⟩):=by
 have hF:=aN
 have hle:=h.le
 have lab:=hM r p k hk hl
 have tailOk:∀ z:Int,z = us.length -> ((ak_p FU (!(decide (((p.length:Nat):Int) = z))) (220:Int)).bind fun y182=>exc y182 (fun _=>thn (ak (ae_l1 FU p ⟨r,k⟩) FU (0,([]:List (Int × Bool)))) (fun D265=>(ak_p FU (!(decide (((D265.length:Nat):Int) = k))) (220:Int)).bind fun y319=>exc y319 (fun _=>some (Except.ok ())) (fun e320=>some (.error e320)))) (fun e183=>some (.error e183))) = some (if bY p us.length k then .ok () else .error ⟨220⟩):=by
  rintro z rfl
  by_cases hz:((p.length:Nat):Int) = us.length
  ·rw [decide_eq_true hz]
   simp only [Bool.not_true]
   rw [dL, ab]
   unfold exc
   simp only
   refine lab.trans ?_
   by_cases hp:bp p k
   ·rw [if_pos hp,if_pos ⟨by omega,hp⟩]
   ·rw [if_neg hp,if_neg fun hf:bY p us.length k=>hp hf.2]
  ·rw [decide_eq_false hz,if_neg fun hf:bY p us.length k=>hz (by rw [hf.1])]
   rfl
 have hh:=ax (B:=ae_l3 FU ⟨r,k⟩ p) (fun s:Nat × Int=>r.ft.length - s.1) (fun s=>s.1 <= us.length/\s.2 = s.1) (fun y=>y = .inl (if bY p us.length k then .ok () else .error ⟨220⟩) ∨ y = .inr (us.length:Int)) ?_ FU (0,0) ⟨by simp,by simp⟩ (by simp only; omega)
 ·obtain ⟨y,e,hy⟩:=hh
  unfold ae_p
  rw [e]
  rcases hy with rfl | rfl
  ·rfl
  ·exact tailOk _ rfl
 ·rintro ⟨i,z⟩ J ⟨a1,a2⟩ hJ
  simp only at a1 a2 hJ
  subst a2
  unfold ae_l3
  simp only
  by_cases hi:i < r.ft.length
  ·rw [if_pos hi,geE hi,ab]
   rcases h.at hi with ⟨h2,_,hw⟩ | ⟨h2,hw⟩
   ·rw [if_neg (by rw [hw]; decide),bh (by omega) (by omega),ab]
    exact hJ _ ⟨by simp only; omega,by simp only; omega⟩ (by simp only; omega)
   ·rw [if_pos hw]
    refine ⟨.inl (if bY p us.length k then .ok () else .error ⟨220⟩),?_,.inl rfl⟩
    exact congrArg (Option.map _) (tailOk (i:Int) (by omega))
  ·rw [if_neg hi]
   exact ⟨_,rfl,.inr (by rw [show i = us.length by omega])⟩
open Classical in
theorem cY {r:Td} (hS:∀ u ∈ r.ft,Sm4 u) (p:List Int) (k:Int) (hk:1 <= k) (hk8:k <= 8) (hl:p.length <= 1000) (us:List Tc) (hL:RV r -> Lnd r us):bU_p FU r p k = some (if RV r then if bY p us.length k then 0 else 220 else 161):=by
 unfold bU_p bP_p bO_p
 rw [eC r hS,ab]
 by_cases hv:RV r
 ·have hn:=hv.n
  rw [if_pos hv,if_pos hv]
  unfold bN_p
  rw [if_pos rfl,ab]
  unfold exc
  simp only
  rw [if_neg (by omega),decide_eq_false (by omega),dL, ab]
  simp only
  rw [ab]
  simp only
  rw [iO (hL hv) (by omega) p k hk hl]
  by_cases hf:bY p us.length k
  ·rw [if_pos hf,if_pos hf]; rfl
  ·rw [if_neg hf,if_neg hf]; rfl
 ·rw [if_neg hv,if_neg hv]
  rfl
open Classical in
theorem fits_eq (p:List Int) (n:Nat) (k:Int) (hk:1 <= k) (hk8:k <= 8) (hn:n <= 1000):av_p FU p (n:Int) k = some (decide (bY p n k)):=by
 have hF:=aN
 unfold av_p
 by_cases hl:((p.length:Nat):Int) = n
 ·rw [if_pos hl,show mk k false = some (List.replicate k.toNat false) from if_pos ⟨by omega,by omega⟩,ab]
  have hh:=ax (B:=av_l2 FU n p k) (fun s:Int × List Bool=>n - s.1.toNat) (fun s=>0 <= s.1/\s.1 <= n/\s.2.length = k.toNat/\(∀ x ∈ p.take s.1.toNat,0 <= x/\x < k)/\∀ d (hd:d < s.2.length),s.2[d] = true ↔ (d:Int) ∈ p.take s.1.toNat)
   (fun y=>(∃ xs:List Bool,y = .inr xs/\xs.length = k.toNat/\(∀ x ∈ p,0 <= x/\x < k)/\∀ d (hd:d < xs.length),xs[d] = true ↔ (d:Int) ∈ p) ∨ y = .inl false/\¬ ∀ x ∈ p,0 <= x/\x < k) ?_ FU (0,List.replicate k.toNat false) ⟨by simp,by simp,by simp,by simp,by simp⟩ (by simp only; omega)
  ·obtain ⟨y,e,hy⟩:=hh
   rw [e]
   rcases hy with ⟨xs,rfl,x1,x2,x3⟩ | ⟨rfl,hb⟩
   ·have hh2:=ax (B:=av_l1 FU k xs) (fun z:Int=>9 - z.toNat) (fun z=>0 <= z/\z <= k/\∀ d,0 <= d -> d < z -> d ∈ p) (fun y=>y = .inr ()/\bp p k ∨ y = .inl false/\¬ bp p k) ?_ FU 0 ⟨by omega,by omega,fun d h1 h2=>by omega⟩ (by omega)
    ·obtain ⟨y,e2,hy⟩:=hh2
     unfold thn
     simp only
     rw [e2]
     rcases hy with ⟨rfl,hp⟩ | ⟨rfl,hp⟩
     ·rw [decide_eq_true (show bY p n k from ⟨by omega,hp⟩)]
     ·rw [decide_eq_false fun hf:bY p n k=>hp hf.2]
    ·rintro z J ⟨z0,z1,z2⟩ hJ
     unfold av_l1
     simp only
     by_cases hz:z < k
     ·have hzx:z.toNat < xs.length:=by omega
      have hiff:=x3 z.toNat hzx
      rw [show ((z.toNat:Nat):Int) = z by omega] at hiff
      rw [if_pos hz,bC z0 hzx,ab]
      by_cases hb:xs[z.toNat] = true
      ·rw [if_pos hb,bh (by omega) (by omega),ab]
       refine hJ _ ⟨by omega,by omega,fun d d0 d1=>?_⟩ (by omega)
       by_cases e:d = z
       ·rw [e]; exact hiff.1 hb
       ·exact z2 d d0 (by omega)
      ·rw [if_neg hb]
       exact ⟨_,rfl,.inr ⟨rfl,fun hp=>hb (hiff.2 (hp.2 z z0 hz))⟩⟩
     ·rw [if_neg hz]
      exact ⟨_,rfl,.inl ⟨rfl,x2,fun d d0 d1=>z2 d d0 (by omega)⟩⟩
   ·rw [decide_eq_false fun hf:bY p n k=>hb hf.2.1]; rfl
  ·rintro ⟨z,xs⟩ J ⟨z0,z1,a1,a2,a3⟩ hJ
   simp only at z0 z1 a1 a2 a3 hJ
   obtain ⟨i,rfl⟩:∃ i:Nat,z = (i:Int):=⟨z.toNat,by omega⟩
   simp only [Int.toNat_natCast] at a2 a3 hJ
   unfold av_l2
   simp only
   by_cases hi:(i:Int) < n
   ·have hip:i < p.length:=by omega
    rw [if_pos hi,bC (by omega) (by rw [Int.toNat_natCast]; exact hip),ab]
    simp only [Int.toNat_natCast]
    by_cases hx:0 <= p[i]/\p[i] < k
    ·have hpx:p[i].toNat < xs.length:=by omega
     rw [if_neg (by omega),if_neg (by omega),bC hx.1 hpx,ab,bm _ hpx,ab,bh (by omega) (by omega),ab]
     refine hJ _ ⟨by simp only; omega,by simp only; omega,by simpa using a1,?_,?_⟩ (by simp only; omega)
     ·simp only
      rw [show ((i:Int) + 1).toNat = i + 1 by omega,List.take_succ_eq_append_getElem hip]
      intro x hx2
      rw [List.mem_append,List.mem_singleton] at hx2
      rcases hx2 with hx2 | rfl
      ·exact a2 x hx2
      ·exact hx
     ·simp only
      rw [show ((i:Int) + 1).toNat = i + 1 by omega,List.take_succ_eq_append_getElem hip]
      intro d hd
      rw [List.length_set] at hd
      rw [List.getElem_set,List.mem_append,List.mem_singleton]
      by_cases e:p[i].toNat = d
      ·rw [if_pos e]; exact ⟨fun _=>.inr (by omega),fun _=>rfl⟩
      ·rw [if_neg e,a3 d hd]
       exact ⟨.inl,fun h=>h.elim id fun h=>absurd h (by omega)⟩
    ·have hbad:¬ ∀ x ∈ p,0 <= x/\x < k:=fun h=>hx (h _ (List.getElem_mem _))
     by_cases h1:p[i] < 0
     ·rw [if_pos h1]; exact ⟨_,rfl,.inr ⟨rfl,hbad⟩⟩
     ·rw [if_neg h1,if_pos (by omega)]; exact ⟨_,rfl,.inr ⟨rfl,hbad⟩⟩
   ·rw [if_neg hi]
    rw [List.take_of_length_le (by omega)] at a2 a3
    exact ⟨_,rfl,.inl ⟨xs,rfl,a1,a2,a3⟩⟩
 ·rw [if_neg hl,decide_eq_false fun hf:bY p n k=>hl (by rw [hf.1])]
open Classical in
theorem bW {r:Td} (hS:∀ u ∈ r.ft,Sm4 u) (p:List Int) (k:Int) (hk:1 <= k) (hk8:k <= 8) (us:List Tc) (hL:RV r -> Lnd r us):bn_p FU r p k = some (if RV r then if bY p us.length k then 0 else 220 else 161):=by
 unfold bn_p bx_p
 rw [cy r hS,ab]
 by_cases hv:RV r
 ·have hn:=hv.n
  have hle:=(hL hv).le
  rw [if_pos hv,if_pos hv,if_pos rfl,if_neg (by omega),if_neg (by omega),ab,if_pos rfl]
  unfold bM_p bL_p
  rw [cy r hS,if_pos hv,ab,if_pos rfl,io (hL hv) (by omega),ab,ab,ab,fits_eq p us.length k hk hk8 (by omega),ab]
  by_cases hf:bY p us.length k
  ·rw [if_pos (decide_eq_true hf),if_pos hf]
  ·rw [if_neg (by simpa using hf),if_neg hf]
 ·rw [if_neg hv,if_neg hv,if_neg (by decide),ab,if_neg (by decide)]
end Go.Proofs.YtibdeoeglcngoaaGreatDoor
namespace Go.Proofs.YtibdeoeglcngoaaGreatDoor
open Go
set_option maxRecDepth 8000
structure D0 (r:Td):Prop where
 n:r.ft.length <= 13
 s:∀ u ∈ r.ft,Sm4 u
 k:∀ u ∈ r.ft,u.fC.length <= 100/\u.fe.length <= 100
 q:∀ u ∈ r.ft,∀ x ∈ u.fB,0 <= x/\x <= 2
theorem ip (d:Ti) (z:Int) (h0:0 <= z) (h1:z <= 100):∃ l,ak (ab_l1 FU d z) FU (0,[]) = some l/\l.length = (d.fh % 3).toNat/\∀ x ∈ l,0 <= x/\x <= 2:=by
 have hF:=aN
 have hk:(d.fh % 3).toNat < 3:=by rw [UInt8.toNat_mod]; exact Nat.mod_lt _ (by decide)
 refine ax (B:=ab_l1 FU d z) (fun s:Nat × List Int=>3 - s.1) (fun s=>s.1 <= (d.fh % 3).toNat/\s.2.length = s.1/\∀ x ∈ s.2,0 <= x/\x <= 2) _ ?_ FU (0,[]) ⟨by simp,rfl,by simp⟩ (by simp only; omega)
 rintro ⟨i,xs⟩ J ⟨a1,a2,a3⟩ hJ
 simp only at a1 a2 a3 hJ
 unfold ab_l1
 simp only
 split
 ·rename_i hi
  obtain ⟨y,e,y0,y1⟩:=fX FU d (9 * z + 7 + i) (by omega)
  rw [bh (by omega) (by omega),ab,bh (by omega) (by omega),ab,bh (by omega) (by omega),ab,e,ab,co (by decide),ab,cu _ _ (by simp only [leC,leN]; omega),ab]
  refine hJ _ ⟨by simp only; omega,by simp only [List.length_append,leC,leN]; omega,fun x hx=>?_⟩ (by simp only; omega)
  rcases List.mem_append.1 hx with hx | hx
  ·exact a3 x hx
  ·rw [List.mem_singleton.1 hx,Int.tmod_eq_emod_of_nonneg y0]
   have a1:=Int.emod_nonneg y (b:=(3:Int)) (by omega)
   have a2:=Int.emod_lt_of_pos y (b:=(3:Int)) (by omega)
   omega
 ·exact ⟨_,rfl,by omega,a3⟩
theorem name12 (i:Nat) (h:i < 13):(ib ⟨#[117]⟩ (bstr ([aF (97 + (i:Int)),aF (97 + 0)]:List UInt8))) = some (nm i):=by
 have:aF (97 + (i:Int)) = UInt8.ofNat (97 + i):=by unfold aF; congr 1; omega
 rw [this]; rfl
theorem nm_ns {i:Nat} (h:i < 13):nm i ∈ NS:=List.mem_cons_of_mem _ (List.mem_map.2 ⟨i,List.mem_range.2 h,rfl⟩)
def Du (u:Tc):Prop:=Sm4 u/\(u.fC.length <= 100/\u.fe.length <= 100)/\∀ x ∈ u.fB,0 <= x/\x <= 2
theorem eK (d:Ti) (m:Nat) (h2:m <= 12):∃ r,ab_p FU d m = some r/\D0 r/\r.fh = ((d.fh % 3).toNat:Int):=by
 have hF:=aN
 have hG:(d.fe % 3).toNat < 3:=by rw [UInt8.toNat_mod]; exact Nat.mod_lt _ (by decide)
 have hP:(d.fc % 4).toNat < 4:=by rw [UInt8.toNat_mod]; exact Nat.mod_lt _ (by decide)
 have hL:(d.fh % 3).toNat < 3:=by rw [UInt8.toNat_mod]; exact Nat.mod_lt _ (by decide)
 have hW:(d.fq % 2).toNat < 2:=by rw [UInt8.toNat_mod]; exact Nat.mod_lt _ (by decide)
 have hh:=ax (B:=ab_l3 FU (m:Int) d) (fun s:Int × List Tc=>13 - s.1.toNat) (fun s=>0 <= s.1/\s.1 <= m/\(s.2.length:Int) = s.1/\∀ u ∈ s.2,Du u)
  (fun us=>us.length = m/\∀ u ∈ us,Du u) ?_ FU (0,[]) ⟨by simp,by simp,by simp,fun u h=>by cases h⟩ (by simp only; omega)
 ·obtain ⟨us,e,u1,u2⟩:=hh
  have hs:=ax (B:=ab_l2 FU d) (fun s:Nat × List Tc=>2 - s.1) (fun s=>s.1 <= (d.fq % 2).toNat/\s.2.length = m + s.1/\∀ u ∈ s.2,Du u)
   (fun all=>all.length <= m + 1/\∀ u ∈ all,Du u) ?_ FU (0,us) ⟨by simp,u1,u2⟩ (by simp only; omega)
  ·obtain ⟨all,e2,ha,hd⟩:=hs
   refine ⟨⟨(d.fe % 3).toNat,(d.fc % 4).toNat,(d.fh % 3).toNat,all⟩,?_,⟨by simp only; omega,fun u hu=>(hd u hu).1,fun u hu=>(hd u hu).2.1,fun u hu=>(hd u hu).2.2⟩,rfl⟩
   unfold ab_p
   rw [e,ab,e2,ab]
  ·rintro ⟨i,xs⟩ J ⟨a1,a2,a3⟩ hJ
   simp only at a1 a2 a3 hJ
   unfold ab_l2
   simp only
   split
   ·rename_i hi
    rw [dl _ _ (by omega),ab,dl _ _ (by omega),ab,dl _ _ (by omega),ab,cu _ _ (by simp only [leC,leN]; omega),ab]
    refine hJ _ ⟨by simp only; omega,by simp only [List.length_append,leC,leN]; omega,fun u hu=>?_⟩ (by simp only; omega)
    rcases List.mem_append.1 hu with hu | hu
    ·exact a3 u hu
    ·rw [List.mem_singleton.1 hu]
     refine ⟨⟨List.mem_cons_self ..,?_,?_,?_⟩,⟨?_,?_⟩,fun x hx=>?_⟩
     ·simp only [List.length_replicate]; omega
     ·simp only [List.length_replicate]; omega
     ·simp only [List.length_replicate]; omega
     ·simp only [List.length_replicate]; omega
     ·simp only [List.length_replicate]; omega
     ·rw [List.eq_of_mem_replicate hx]; omega
   ·exact ⟨_,rfl,by omega,a3⟩
 ·rintro ⟨z,xs⟩ J ⟨a1,a2,a3,a4⟩ hJ
  simp only at a1 a2 a3 a4 hJ
  unfold ab_l3
  simp only
  split
  ·rename_i hz
   obtain ⟨i,rfl⟩:∃ i:Nat,z = i:=⟨z.toNat,by omega⟩
   have t1:Int.tmod (i:Int) 26 = i:=by rw [Int.tmod_eq_emod_of_nonneg (by omega)]; omega
   have t2:Int.tdiv (i:Int) 26 = 0:=by rw [Int.tdiv_eq_ediv_of_nonneg (by omega)]; omega
   obtain ⟨y,e,y0,y1⟩:=fX FU d (9 * (i:Int)) (by omega)
   obtain ⟨g,eg,g1,g2⟩:=fJ FU d ((d.fe % 3).toNat:Nat) (9 * (i:Int) + 1) y (by omega) (by omega) (by omega) (by omega) y0 (by omega)
   obtain ⟨v,ev,v1,v2⟩:=fJ FU d ((d.fc % 4).toNat:Nat) (9 * (i:Int) + 3) 255 (by omega) (by omega) (by omega) (by omega) (by omega) (by omega)
   obtain ⟨q,eq,q1,q2⟩:=ip d (i:Int) (by omega) (by omega)
   rw [co (by decide),ab,t1,bh (by omega) (by omega),ab]
   unfold dD
   rw [if_neg (by decide),t2,bh (by omega) (by omega),ab,co (by decide),ab,show Int.tmod 0 26 = 0 from rfl,bh (by omega) (by omega),ab,bh (by omega) (by omega),ab,e,ab,name12 i (by omega)]
   simp only [ab]
   rw [bh (by omega) (by omega)]
   simp only [ab,eg]
   rw [bh (by omega) (by omega)]
   simp only [ab,ev,eq]
   rw [cu _ _ (by simp only [leC,leN]; omega)]
   simp only [ab]
   try rw [bh (by omega) (by omega),ab]
   refine hJ _ ⟨by simp only; omega,by simp only; omega,by simp only [List.length_append,leC,leN]; omega,fun u hu=>?_⟩ (by simp only; omega)
   rcases List.mem_append.1 hu with hu | hu
   ·exact a4 u hu
   ·rw [List.mem_singleton.1 hu]
    exact ⟨⟨nm_ns (by omega),by simp only; omega,by simp only; omega,by simp only; omega⟩,⟨by simp only; omega,by simp only; omega⟩,q2⟩
  ·exact ⟨_,rfl,by omega,a4⟩
theorem iM (a n:Nat) (hn:0 < n):∃ j:Nat,j < n/\ct (a:Int) (n:Int) = some (j:Int):=by
 refine ⟨a % n,Nat.mod_lt _ hn,?_⟩
 rw [co (by omega),Int.tmod_eq_emod_of_nonneg (by omega)]
 rfl
theorem idxK {α:Type} {xs:List α} {j:Nat} (h:j < xs.length):idx xs (j:Int) = some xs[j]:=bC (i:=(j:Int)) (by omega) h
structure Dn (r:Td):Prop where
 n:r.ft.length <= 13
 s:∀ u ∈ r.ft,Sm4 u
theorem D0.dn {r:Td} (h:D0 r):Dn r:=⟨h.n,h.s⟩
theorem Dn.set {r:Td} (h:Dn r) (j:Nat) {u:Tc} (hs:Sm4 u):Dn ⟨r.fe,r.fc,r.fh,r.ft.set j u⟩:=
 ⟨by rw [List.length_set]; exact h.n,fun v hv=>(List.mem_or_eq_of_mem_set hv).elim (h.s v) fun e=>by rw [e]; exact hs⟩
theorem bend_ok (b:Tl) {r:Td} (h:D0 r):∃ r', bo_p FU b r = some r' /\Dn r' :=by
 have hn:=h.n
 unfold bo_p
 rw [cu _ _ (by simp only [leN]; omega),ab,List.nil_append]
 by_cases hz:r.ft.length = 0
 ·rw [if_pos hz]
  exact ⟨_,rfl,h.dn⟩
 obtain ⟨j,hj,e⟩:=iM b.fA.toNat r.ft.length (by omega)
 have hm:=List.getElem_mem hj
 have hs:=h.s _ hm
 have hk:=h.k _ hm
 rw [if_neg hz,e,ab,idxK hj,ab,Int.toNat_natCast]
 by_cases c0:(b.fE % (7:UInt8)).toNat = 0
 ·rw [if_pos c0,bm _ hj,ab]
  exact ⟨_,rfl,h.dn.set j ⟨hs.n,hs.g,hs.v,hs.q⟩⟩
 rw [if_neg c0]
 by_cases c1:(b.fE % (7:UInt8)).toNat = 1
 ·rw [if_pos c1,cu _ _ (by simp only [leC,leN]; omega),ab,bm _ hj,ab]
  exact ⟨_,rfl,h.dn.set j ⟨hs.n,hs.g,by simp only [List.length_append,leC,leN]; omega,hs.q⟩⟩
 rw [if_neg c1]
 by_cases c2:(b.fE % (7:UInt8)).toNat = 2
 ·rw [if_pos c2,cu _ _ (by simp only [leN]; omega),ab,List.nil_append,cu _ _ (by simp only [leC,leN]; omega),ab,bm _ hj,ab]
  exact ⟨_,rfl,h.dn.set j ⟨hs.n,by simp only [List.length_append,leC,leN]; omega,hs.v,hs.q⟩⟩
 rw [if_neg c2]
 by_cases c3:(b.fE % (7:UInt8)).toNat = 3
 ·rw [if_pos c3,bm _ hj,ab]
  exact ⟨_,rfl,h.dn.set j ⟨hs.n,hs.g,hs.v,hs.q⟩⟩
 rw [if_neg c3]
 by_cases c4:(b.fE % (7:UInt8)).toNat = 4
 ·have h00:0 < r.ft.length:=by omega
  rw [if_pos c4,geE h00,ab,bm _ hj,ab]
  exact ⟨_,rfl,h.dn.set j ⟨(h.s _ (List.getElem_mem h00)).n,hs.g,hs.v,hs.q⟩⟩
 rw [if_neg c4]
 by_cases c5:(b.fE % (7:UInt8)).toNat = 5
 ·rw [if_pos c5]
  exact ⟨_,rfl,hn,h.s⟩
 rw [if_neg c5,bm _ hj,ab]
 exact ⟨_,rfl,h.dn.set j ⟨hs.n,hs.g,hs.v,by simp only [leC,leN]; omega⟩⟩
theorem bendP (b:Tl) {p:List Int} (h1:1 <= p.length) (h2:p.length <= 9):∃ q,bp_p FU b p = some q/\q.length <= 10:=by
 unfold bp_p
 rw [cu _ _ (by simp only [leN]; omega),ab,List.nil_append]
 by_cases c0:(b.fE % (4:UInt8)).toNat = 0
 ·obtain ⟨j,hj,e⟩:=iM b.fA.toNat p.length (by omega)
  rw [if_pos c0,e,ab,idxK hj,ab,Int.toNat_natCast,bm _ hj,ab]
  exact ⟨_,rfl,by rw [List.length_set]; omega⟩
 rw [if_neg c0]
 by_cases c1:(b.fE % (4:UInt8)).toNat = 1
 ·rw [if_pos c1,cu _ _ (by simp only [leC,leN]; omega),ab]
  exact ⟨_,rfl,by simp only [List.length_append,leC,leN]; omega⟩
 rw [if_neg c1]
 by_cases c2:(b.fE % (4:UInt8)).toNat = 2
 ·rw [if_pos c2,show ((p.length:Nat):Int) - 1 = ((p.length - 1:Nat):Int) by omega,cut_ok (by omega),ab]
  exact ⟨_,rfl,by rw [List.length_take]; omega⟩
 rw [if_neg c2]
 exact ⟨_,rfl,by omega⟩
end Go.Proofs.YtibdeoeglcngoaaGreatDoor
namespace Go.Proofs.YtibdeoeglcngoaaGreatDoor
open Go
set_option maxRecDepth 8000
theorem exE {ε α β:Type} (x:ε) (f:α -> Option β) (g:ε -> Option β):exc (.error x) f g = g x:=rfl
theorem exO {ε α β:Type} (x:α) (f:α -> Option β) (g:ε -> Option β):exc (.ok x) f g = f x:=rfl
theorem ei {r:Td} {us:List Tc} (hv:RV r) (h:Lnd r us) {i:Nat} (hi:i < us.length):∃ h2:i < r.ft.length,r.ft[i] = us[i]/\UV r us[i]:=by
 obtain ⟨ws,e,_⟩:=h.all
 have hi2:i < r.ft.length:=by rw [e,List.length_append]; omega
 have h1:=hv.u i hi2
 have e0:r.ft[i] = us[i]:=by simp only [e]; exact List.getElem_append_left hi
 rw [e0] at h1
 exact ⟨hi2,e0,h1⟩
theorem dq {α:Type} {l:List α} {i:Nat} {x:α} (h:l[i]? = some x):l.take (i + 1) = l.take i ++ [x]:=by
 obtain ⟨hi,rfl⟩:=List.getElem?_eq_some_iff.1 h
 exact List.take_succ_eq_append_getElem hi
def Vu (P:Nat) (u:Tc):Prop:=u.fC.length = P/\∀ x ∈ u.fC,0 <= x/\x <= 1000000000
theorem vu_of {r:Td} {u:Tc} {P:Nat} (hP:r.fc = P) (h:UV r u):Vu P u:=by
 obtain ⟨w1,w2⟩:=h.2.2.2.1
 exact ⟨by omega,fun x hx=>by have:=w2 x hx; split at this <;> omega⟩
def cR (a b:List Int):List Int:=List.zipWith (· + ·) a b
theorem iH {a b:List Int} {P:Nat} (h1:a.length = P) (h2:b.length = P):(cR a b).length = P:=by unfold cR; rw [List.length_zipWith]; omega
def vd (us:List Tc) (p:List Int) (P:Nat) (d:Int):Nat -> List Int
 | 0=>List.replicate P 0
 | i + 1=>if p[i]? = some d then cR (vd us p P d i) ((us[i]?.map (·.fC)).getD []) else vd us p P d i
theorem ge {us:List Tc} {p:List Int} {P i:Nat} {d:Int} (h1:i < us.length) (h:p[i]? = some d):vd us p P d (i + 1) = cR (vd us p P d i) us[i].fC:=by
 show (if p[i]? = some d then cR (vd us p P d i) ((us[i]?.map (·.fC)).getD []) else vd us p P d i) = _
 rw [if_pos h,geE h1]; rfl
theorem ij {us:List Tc} {p:List Int} {P i:Nat} {d:Int} (h:p[i]? ≠ some d):vd us p P d (i + 1) = vd us p P d i:=by
 show (if p[i]? = some d then cR (vd us p P d i) ((us[i]?.map (·.fC)).getD []) else vd us p P d i) = _
 rw [if_neg h]
theorem gz {us:List Tc} {P:Nat} (hU:∀ u ∈ us,Vu P u) (p:List Int) (d:Int):∀ i ≤ us.length,(vd us p P d i).length = P/\∀ x ∈ vd us p P d i,0 <= x/\x <= (i:Int) * 1000000000
 | 0,_=>⟨by simp [vd],fun x hx=>by rw [List.eq_of_mem_replicate hx]; omega⟩
 | i + 1,hi=>by
  obtain ⟨l1,l2⟩:=gz hU p d i (by omega)
  have hu:=hU us[i] (List.getElem_mem _)
  by_cases h:p[i]? = some d
  ·rw [ge (by omega) h]
   refine ⟨iH l1 hu.1,fun x hx=>?_⟩
   obtain ⟨j,hj,rfl⟩:=List.getElem_of_mem hx
   unfold cR at hj ⊢
   rw [List.length_zipWith] at hj
   rw [List.getElem_zipWith]
   have h1:=l2 _ (List.getElem_mem (show j < (vd us p P d i).length by omega))
   have h2:=hu.2 _ (List.getElem_mem (show j < us[i].fC.length by omega))
   omega
  ·rw [ij h]
   exact ⟨l1,fun x hx=>by have:=l2 x hx; omega⟩
def vts (us:List Tc) (p:List Int) (P k i:Nat):List (List Int):=(List.range k).map fun d:Nat=>vd us p P (d:Int) i
theorem bD (us:List Tc) (p:List Int) (P k i:Nat):(vts us p P k i).length = k:=by unfold vts; simp
theorem cT (us:List Tc) (p:List Int) (P:Nat) {k d:Nat} (i:Nat) (h:d < k):(vts us p P k i)[d]? = some (vd us p P (d:Int) i):=by
 unfold vts
 rw [List.getElem?_map,List.getElem?_range h]; rfl
def Part (a b row:List Int) (j:Nat):Prop:=row.length = a.length/\∀ c:Nat,c < a.length -> row[c]? = some ((a[c]?.getD 0) + if c < j then b[c]?.getD 0 else 0)
theorem Part.done {a b row:List Int} (h:Part a b row b.length) (hl:a.length = b.length):row = cR a b:=by
 apply List.ext_getElem?
 intro c
 unfold cR
 rw [List.getElem?_zipWith]
 by_cases hc:c < a.length
 ·rw [h.2 c hc,if_pos (by omega),geE hc,geE (show c < b.length by omega)]; rfl
 ·rw [List.getElem?_eq_none (by rw [h.1]; omega),List.getElem?_eq_none (show a.length <= c by omega)]
theorem Part.zero (a b:List Int):Part a b a 0:=⟨rfl,fun c hc=>by rw [if_neg (by omega),geE hc]; simp⟩
theorem Part.step {a b row:List Int} {j:Nat} (h:Part a b row j) (hj:j < a.length) (hb:j < b.length):Part a b (row.set j (a[j] + b[j])) (j + 1):=by
 refine ⟨by rw [List.length_set]; exact h.1,fun c hc=>?_⟩
 rw [List.getElem?_set]
 by_cases hjc:j = c
 ·subst hjc
  rw [if_pos rfl,if_pos (by rw [h.1]; exact hj),if_pos (by omega),geE hj,geE hb]; rfl
 ·rw [if_neg hjc,h.2 c hc]
  by_cases hlt:c < j
  ·rw [if_pos hlt,if_pos (by omega)]
  ·rw [if_neg hlt,if_neg (by omega)]
theorem Part.at {a b row:List Int} {j:Nat} (h:Part a b row j) (hj:j < a.length):row[j]? = some a[j]:=by
 rw [h.2 j hj,if_neg (by omega),geE hj]; simp
structure Cn (r:Td) (us:List Tc) (p:List Int) (k P:Nat):Prop where
 v:RV r
 l:Lnd r us
 f:bY p us.length (k:Int)
 k1:1 <= k
 k8:k <= 8
 P:r.fc = P
theorem Cn.vu {r:Td} {us:List Tc} {p:List Int} {k P:Nat} (h:Cn r us p k P):∀ u ∈ us,Vu P u:=fun u hu=>by
 obtain ⟨i,hi,rfl⟩:=List.getElem_of_mem hu
 obtain ⟨_,_,h1⟩:=ei h.v h.l hi
 exact vu_of h.P h1
theorem Cn.m {r:Td} {us:List Tc} {p:List Int} {k P:Nat} (h:Cn r us p k P):us.length <= 64:=Nat.le_trans h.l.le h.v.n.2
theorem Cn.p12 {r:Td} {us:List Tc} {p:List Int} {k P:Nat} (h:Cn r us p k P):P <= 12:=by have:=h.v.p; have:=h.P; omega
theorem Cn.at {r:Td} {us:List Tc} {p:List Int} {k P:Nat} (h:Cn r us p k P) {i:Nat} (hi:i < p.length):∃ d:Nat,p[i] = (d:Int)/\d < k/\i < us.length:=by
 have hx:=h.f.2.1 p[i] (List.getElem_mem hi)
 have:=h.f.1
 exact ⟨p[i].toNat,by omega,by omega,by omega⟩
theorem row_ok {r:Td} {us:List Tc} {p:List Int} {k P:Nat} (h:Cn r us p k P) {i d:Nat} (hi:i < us.length) (hd:d < k) (xs:List (List Int)) (hx:xs.length = k) (hrow:xs[d]? = some (vd us p P (d:Int) i)) :
  ak (aj_l1 FU us[i] (d:Int)) FU (0,xs) = some (xs.set d (cR (vd us p P (d:Int) i) us[i].fC)):=by
 have hF:=aN
 have hu:=h.vu us[i] (List.getElem_mem hi)
 have hm:=h.m; have hp:=h.p12
 obtain ⟨v1,v2⟩:=gz h.vu p (d:Int) i (by omega)
 have hh:=ax (B:=aj_l1 FU us[i] (d:Int)) (fun s:Nat × List (List Int)=>P - s.1) (fun s=>s.1 <= P/\∃ row,s.2 = xs.set d row/\Part (vd us p P (d:Int) i) us[i].fC row s.1) (fun y=>y = xs.set d (cR (vd us p P (d:Int) i) us[i].fC)) ?_ FU (0,xs) ⟨Nat.zero_le _,vd us p P (d:Int) i,?_,.zero _ _⟩ (by simp only; omega)
 ·obtain ⟨y,e,rfl⟩:=hh; exact e
 ·rintro ⟨j,ys⟩ J ⟨a1,row,a2,a3⟩ hJ
  simp only at a1 a2 a3 hJ
  subst a2
  unfold aj_l1
  simp only
  by_cases hj:j < P
  ·have j1:j < us[i].fC.length:=by rw [hu.1]; exact hj
   have j2:j < (vd us p P (d:Int) i).length:=by omega
   have b1:=hu.2 _ (List.getElem_mem j1)
   have b2:=v2 _ (List.getElem_mem j2)
   have hr:=a3.at j2
   have hrl:=a3.1
   rw [if_pos j1,geE j1,ab,eE,List.getElem?_set,if_pos rfl,if_pos (by omega),ab,hr,ab,bh (by omega) (by omega),ab,bm _ (by omega),ab,Int.toNat_natCast,List.set_set]
   exact hJ _ ⟨hj,_,rfl,a3.step j2 j1⟩ (by simp only; omega)
  ·rw [if_neg (by rw [hu.1]; exact hj)]
   have:j = us[i].fC.length:=by have:=hu.1; omega
   subst this
   exact ⟨_,rfl,by rw [a3.done (by rw [v1,hu.1])]⟩
 ·apply List.ext_getElem?
  intro c
  rw [List.getElem?_set]
  by_cases hc:d = c
  ·subst hc; rw [if_pos rfl,if_pos (by omega),hrow]
  ·rw [if_neg hc]
theorem ik {r:Td} {us:List Tc} {p:List Int} {k P:Nat} (h:Cn r us p k P) {i d:Nat} (hip:i < p.length) (hi:i < us.length) (hd:d < k) (e:p[i] = (d:Int)):vts us p P k (i + 1) = (vts us p P k i).set d (cR (vd us p P (d:Int) i) us[i].fC):=by
 apply List.ext_getElem?
 intro c
 rw [List.getElem?_set]
 have hpi:p[i]? = some (d:Int):=by rw [geE hip,e]
 by_cases hc:d = c
 ·subst hc
  rw [if_pos rfl,if_pos (by rw [bD]; exact hd),cT _ _ _ _ hd,ge hi hpi]
 ·rw [if_neg hc]
  by_cases hck:c < k
  ·rw [cT _ _ _ _ hck,cT _ _ _ _ hck,ij (by rw [hpi]; intro hx; have:=Option.some.inj hx; omega)]
  ·rw [List.getElem?_eq_none (by rw [bD]; omega),List.getElem?_eq_none (by rw [bD]; omega)]
theorem eH {r:Td} {us:List Tc} {p:List Int} {k P:Nat} (h:Cn r us p k P):aj_p FU ⟨r,p,(k:Int)⟩ = some (vts us p P k us.length):=by
 have hF:=aN
 have h8:=h.k8; have hm:=h.m; have hp:=h.p12; have hpl:=h.f.1
 unfold aj_p
 rw [show mk (k:Int) ([]:List Int) = some (List.replicate k []) from if_pos ⟨by omega,by omega⟩,ab]
 have hh:=ax (B:=aj_l3 FU (List.replicate k []) ⟨r,p,(k:Int)⟩) (fun s:Nat × List (List Int)=>k - s.1) (fun s=>s.1 <= k/\s.2.length = k/\∀ d:Nat,d < s.1 -> s.2[d]? = some (List.replicate P 0)) (fun y=>y = vts us p P k 0) ?_ FU (0,List.replicate k []) ⟨Nat.zero_le _,by simp,fun d hd=>by omega⟩ (by simp only; omega)
 ·obtain ⟨y,e,rfl⟩:=hh
  rw [e,ab]
  have hh:=ax (B:=aj_l2 FU ⟨r,p,(k:Int)⟩) (fun s:Nat × List (List Int)=>p.length - s.1) (fun s=>s.1 <= p.length/\s.2 = vts us p P k s.1) (fun y=>y = vts us p P k us.length) ?_ FU (0,vts us p P k 0) ⟨Nat.zero_le _,rfl⟩ (by simp only; omega)
  ·obtain ⟨y,e,rfl⟩:=hh
   rw [e]; rfl
  ·rintro ⟨i,xs⟩ J ⟨a1,a2⟩ hJ
   simp only at a1 a2 hJ
   subst a2
   unfold aj_l2
   simp only
   by_cases hip:i < p.length
   ·obtain ⟨d,e,hd,hi⟩:=h.at hip
    obtain ⟨u1,u2,_⟩:=ei h.v h.l hi
    rw [if_pos hip,geE hip,ab,geE u1,ab,u2,e,row_ok h hi hd _ (bD ..) (cT _ _ _ _ hd),ab,<- ik h hip hi hd e]
    exact hJ _ ⟨hip,rfl⟩ (by simp only; omega)
   ·rw [if_neg hip]
    exact ⟨_,rfl,by rw [show i = us.length by omega]⟩
 ·rintro ⟨i,xs⟩ J ⟨a1,a2,a3⟩ hJ
  simp only at a1 a2 a3 hJ
  unfold aj_l3
  simp only
  by_cases hi:i < k
  ·rw [if_pos (by simpa using hi),h.P,dl _ _ (by omega),ab,geE (by omega),ab]
   refine hJ _ ⟨hi,by simp only [List.length_set]; exact a2,fun d hd=>?_⟩ (by simp only; omega)
   simp only at hd ⊢
   rw [List.getElem?_set]
   by_cases hid:i = d
   ·subst hid; rw [if_pos rfl,if_pos (by omega)]
   ·rw [if_neg hid]; exact a3 d (by omega)
  ·rw [if_neg (by simpa using hi)]
   refine ⟨xs,rfl,?_⟩
   apply List.ext_getElem?
   intro d
   by_cases hd:d < k
   ·rw [a3 d (by omega),cT _ _ _ _ hd]; rfl
   ·rw [List.getElem?_eq_none (by omega),List.getElem?_eq_none (by rw [bD]; omega)]
theorem rowR_ok {r:Td} {us:List Tc} {p:List Int} {k P:Nat} (h:Cn r us p k P) {i d:Nat} (hip:i < p.length) (hd:d < k) :
  ak (aa_l1 FU r p i (d:Int)) FU (0,vd us p P (d:Int) i) = some (vd us p P (d:Int) (i + 1)):=by
 have hF:=aN
 have hm:=h.m; have hp:=h.p12
 obtain ⟨e,he,hek,hi⟩:=h.at hip
 obtain ⟨u1,u2,_⟩:=ei h.v h.l hi
 have hu:=h.vu us[i] (List.getElem_mem hi)
 obtain ⟨v1,v2⟩:=gz h.vu p (d:Int) i (by omega)
 by_cases hde:e = d
 ·subst hde
  have hpi:p[i]? = some (e:Int):=by rw [geE hip,he]
  rw [ge hi hpi]
  have hh:=ax (B:=aa_l1 FU r p i (e:Int)) (fun s:Int × List Int=>P - s.1.toNat) (fun s=>∃ j:Nat,s.1 = (j:Int)/\j <= P/\Part (vd us p P (e:Int) i) us[i].fC s.2 j) (fun y=>y = cR (vd us p P (e:Int) i) us[i].fC) ?_ FU (0,vd us p P (e:Int) i) ⟨0,rfl,Nat.zero_le _,.zero _ _⟩ (by simp only; omega)
  ·obtain ⟨y,e,rfl⟩:=hh; exact e
  ·rintro ⟨z,row⟩ J ⟨j,a0,a1,a3⟩ hJ
   simp only at a0 a1 a3 hJ
   subst a0
   unfold aa_l1
   simp only
   rw [h.P]
   by_cases hj:j < P
   ·have j1:j < us[i].fC.length:=by rw [hu.1]; exact hj
    have j2:j < (vd us p P (e:Int) i).length:=by omega
    have b1:=hu.2 _ (List.getElem_mem j1)
    have b2:=v2 _ (List.getElem_mem j2)
    have hrl:=a3.1
    rw [if_pos (by omega),hpi,ab,if_pos rfl,eE,a3.at j2,ab,geE u1,ab,u2,idxK j1,ab,bh (by omega) (by omega),ab,Int.toNat_natCast,bm _ (by omega),ab,bh (by omega) (by omega),ab]
    exact hJ _ ⟨j + 1,by simp,hj,a3.step j2 j1⟩ (by simp only; omega)
   ·rw [if_neg (by omega)]
    have:j = us[i].fC.length:=by have:=hu.1; omega
    subst this
    exact ⟨_,rfl,a3.done (by rw [v1,hu.1])⟩
 ·have hpi:p[i]? = some (e:Int):=by rw [geE hip,he]
  rw [ij (by rw [hpi]; intro hx; have:=Option.some.inj hx; omega)]
  obtain ⟨m,hm⟩:∃ m,FU = m + 1:=⟨FU - 1,by omega⟩
  have:ak (aa_l1 FU r p i (d:Int)) FU (0,vd us p P (d:Int) i) = aa_l1 FU r p i (d:Int) (ak (aa_l1 FU r p i (d:Int)) m) (0,vd us p P (d:Int) i):=by
   conv=>lhs; rw [hm,gb]
   rw [<- hm]
  rw [this]
  unfold aa_l1
  simp only
  by_cases h0:(0:Int) < r.fc
  ·rw [if_pos h0,hpi,ab,if_neg (by omega)]
  ·rw [if_neg h0]
theorem eM {r:Td} {us:List Tc} {p:List Int} {k P:Nat} (hS:∀ u ∈ r.ft,Sm4 u) (h:Cn r us p k P):aa_p FU r p (k:Int) = some (vts us p P k us.length,0):=by
 have hF:=aN
 have h1:=h.k1; have h8:=h.k8; have hm:=h.m; have hp:=h.p12; have hpl:=h.f.1
 unfold aa_p
 rw [bW hS p k (by omega) (by omega) us (fun _=>h.l),if_pos h.v,if_pos h.f,ab,if_pos rfl]
 have hh:=ax (B:=aa_l3 FU (k:Int) r p) (fun s:Int × List (List Int)=>k - s.1.toNat) (fun s=>∃ d:Nat,s.1 = (d:Int)/\d <= k/\s.2 = (vts us p P k us.length).take d) (fun y=>y = vts us p P k us.length) ?_ FU (0,[]) ⟨0,rfl,Nat.zero_le _,by simp⟩ (by simp only; omega)
 ·obtain ⟨y,e,rfl⟩:=hh
  rw [e]; rfl
 ·rintro ⟨z,xs⟩ J ⟨d,a0,a1,a2⟩ hJ
  simp only at a0 a1 a2 hJ
  subst a0 a2
  unfold aa_l3
  simp only
  by_cases hd:d < k
  ·rw [if_pos (by omega),h.P,dl _ _ (by omega),ab]
   have hh:=ax (B:=aa_l2 FU p r (d:Int)) (fun s:Nat × List Int=>p.length - s.1) (fun s=>s.1 <= p.length/\s.2 = vd us p P (d:Int) s.1) (fun y=>y = vd us p P (d:Int) us.length) ?_ FU (0,List.replicate P 0) ⟨Nat.zero_le _,rfl⟩ (by simp only; omega)
   ·obtain ⟨y,e,rfl⟩:=hh
    have hl:=bD us p P k us.length
    rw [e,ab,cu _ _ (by simp only [List.length_take,leC,leN]; omega),ab,bh (by omega) (by omega),ab,<- dq (cT us p P us.length hd)]
    exact hJ _ ⟨d + 1,by simp,hd,rfl⟩ (by simp only; omega)
   ·rintro ⟨i,ys⟩ J2 ⟨b1,b2⟩ hJ2
    simp only at b1 b2 hJ2
    subst b2
    unfold aa_l2 jn
    simp only
    by_cases hip:i < p.length
    ·rw [if_pos hip,rowR_ok h hip hd,ab]
     exact hJ2 _ ⟨hip,rfl⟩ (by simp only; omega)
    ·rw [if_neg hip]
     exact ⟨_,rfl,by rw [show i = us.length by omega]⟩
  ·rw [if_neg (by omega),List.take_of_length_le (by rw [bD]; omega)]
   exact ⟨_,rfl,rfl⟩
def Vt (r:Td) (p:List Int) (k:Nat):Prop:=
 (∃ us P,Cn r us p k P/\aJ_p FU r p (k:Int) = some (.ok ⟨r,p,(k:Int)⟩)/\aa_p FU r p (k:Int) = some (vts us p P k us.length,0)) ∨
 (∃ e,e ≠ 0/\aJ_p FU r p (k:Int) = some (.error ⟨e⟩)/\aa_p FU r p (k:Int) = some ([],e))
open Classical in
theorem vt_ok {r:Td} {p:List Int} (k:Nat) (h1:1 <= k) (h8:k <= 8) (hr:Dn r) (hp:p.length <= 10):Vt r p k:=by
 have hS:=hr.s
 have bad:∀ e:Int,e ≠ 0 -> bU_p FU r p (k:Int) = some e -> bn_p FU r p (k:Int) = some e -> Vt r p k:=fun e he b1 b2=>by
  refine .inr ⟨e,he,?_,?_⟩
  ·unfold aJ_p bX_p
   rw [b1,ab,if_neg he,ab,exE]
  ·unfold aa_p
   rw [b2,ab,if_neg he]
 by_cases hv:RV r
 ·obtain ⟨us,hL,_⟩:=lnd_of hv
  have b1:=cY hS p k (by omega) (by omega) (by omega) us fun _=>hL
  have b2:=bW hS p k (by omega) (by omega) us fun _=>hL
  rw [if_pos hv] at b1 b2
  by_cases hf:bY p us.length k
  ·rw [if_pos hf] at b1 b2
   have hP:=hv.p
   have hC:Cn r us p k r.fc.toNat:=⟨hv,hL,hf,h1,h8,by omega⟩
   refine .inl ⟨us,_,hC,?_,eM hS hC⟩
   unfold aJ_p bX_p
   rw [b1,ab,if_pos rfl,ab,exO]
  ·rw [if_neg hf] at b1 b2
   exact bad 220 (by decide) b1 b2
 ·have b1:=cY hS p k (by omega) (by omega) (by omega) [] fun h=>absurd h hv
  have b2:=bW hS p k (by omega) (by omega) [] fun h=>absurd h hv
  rw [if_neg hv] at b1 b2
  exact bad 161 (by decide) b1 b2
end Go.Proofs.YtibdeoeglcngoaaGreatDoor
namespace Go.Proofs.YtibdeoeglcngoaaGreatDoor
open Go
set_option maxRecDepth 8000
def at0 (l:List Int) (x:Nat):Int:=l[x]?.getD 0
theorem bt {l:List Int} {x:Nat} (h:x < l.length):at0 l x = l[x]:=by unfold at0; rw [geE h]; rfl
def Uq (l:List Int) (x:Nat):Prop:=x < l.length/\∀ y < l.length,y ≠ x -> at0 l y < at0 l x
theorem Uq.eq {l:List Int} {x y:Nat} (h1:Uq l x) (h2:Uq l y):x = y:=by
 refine Classical.byContradiction fun hne=>?_
 have a:=h1.2 y h2.1 (fun e=>hne e.symm)
 have b:=h2.2 x h1.1 hne
 omega
def WinR (l:List Int) (w:Int):Prop:=(∃ x:Nat,Uq l x/\w = (x:Int)) ∨ (∀ x,¬ Uq l x)/\w = -1
theorem WinR.eq {l:List Int} {w z:Int} (h1:WinR l w) (h2:WinR l z):w = z:=by
 rcases h1 with ⟨x,a1,rfl⟩ | ⟨a1,rfl⟩ <;> rcases h2 with ⟨y,b1,rfl⟩ | ⟨b1,rfl⟩
 ·rw [a1.eq b1]
 ·exact absurd a1 (b1 x)
 ·exact absurd b1 (a1 y)
 ·rfl
theorem WinR.in {l:List Int} {w:Int} (h:WinR l w):-1 <= w/\w < l.length:=by
 rcases h with ⟨x,a1,rfl⟩ | ⟨_,rfl⟩
 ·have:=a1.1; omega
 ·omega
theorem max_ok (l:List Int) (h0:0 < l.length) (hl:l.length <= 1000):∃ m,aH_p FU l = some m/\(∀ x < l.length,at0 l x <= m)/\∃ x < l.length,at0 l x = m:=by
 have hF:=aN
 unfold aH_p
 rw [if_neg (by omega),geE h0,ab]
 have hh:=ax (B:=aH_l1 FU l) (fun s:Int × Nat=>l.length - s.2) (fun s=>s.2 <= l.length/\(∀ x < s.2,at0 l x <= s.1)/\∃ x < l.length,at0 l x = s.1) (fun m=>(∀ x < l.length,at0 l x <= m)/\∃ x < l.length,at0 l x = m) ?_ FU (l[0],1) ⟨h0,fun x hx=>by
  obtain rfl:x = 0:=by simpa using hx
  rw [bt h0]; omega,0,h0,bt h0⟩ (by simp only; omega)
 ·obtain ⟨m,e,h1,h2⟩:=hh
  rw [e,ab]; exact ⟨m,rfl,h1,h2⟩
 ·rintro ⟨z,i⟩ J ⟨a1,a2,a3⟩ hJ
  simp only at a1 a2 a3 hJ
  unfold aH_l1
  simp only
  by_cases hi:i < l.length
  ·rw [if_pos hi,geE hi,ab]
   have hg:=bt hi
   refine hJ _ ⟨hi,fun x hx=>?_,?_⟩ (by simp only; omega)
   ·simp only at hx ⊢
    by_cases hxi:x = i
    ·subst hxi; omega
    ·have:=a2 x (by omega); omega
   ·simp only
    rcases Int.le_total z l[i] with h | h
    ·exact ⟨i,hi,by omega⟩
    ·obtain ⟨x,x1,x2⟩:=a3
     exact ⟨x,x1,by omega⟩
  ·rw [if_neg hi]
   exact ⟨z,rfl,fun x hx=>a2 x (by omega),a3⟩
theorem winnerP (l:List Int) (hl:l.length <= 1000):∃ w,br_p FU l = some w/\WinR l w:=by
 have hF:=aN
 unfold br_p
 by_cases h0:l.length = 0
 ·rw [if_pos h0]; exact ⟨-1,rfl,.inr ⟨fun x hx=>by have:=hx.1; omega,rfl⟩⟩
 rw [if_neg h0]
 obtain ⟨m,m1,m2,m3⟩:=max_ok l (by omega) hl
 rw [m1,ab]
 have hh:=ax (B:=br_l1 FU l m) (fun s:Int × Nat=>l.length - s.2) (fun s=>s.2 <= l.length/\(s.1 = -1/\(∀ j < s.2,at0 l j ≠ m) ∨ ∃ x:Nat,x < s.2/\s.1 = (x:Int)/\at0 l x = m/\∀ j < s.2,j ≠ x -> at0 l j ≠ m)) (fun r=>∃ w,(r = .inl w ∨ r = .inr w)/\WinR l w) ?_ FU (-1,0) ⟨Nat.zero_le _,.inl ⟨rfl,fun j hj=>by omega⟩⟩ (by simp only; omega)
 ·obtain ⟨r,e,w,hr,hw⟩:=hh
  rw [e]
  rcases hr with rfl | rfl <;> exact ⟨w,rfl,hw⟩
 ·rintro ⟨z,i⟩ J ⟨a1,a2⟩ hJ
  simp only at a1 a2 hJ
  unfold br_l1
  simp only
  by_cases hi:i < l.length
  ·rw [if_pos hi,geE hi,ab]
   have hg:=bt hi
   by_cases hx:l[i] = m
   ·rw [if_pos hx]
    rcases a2 with ⟨rfl,a2⟩ | ⟨x,x1,rfl,x2,x3⟩
    ·rw [if_pos (by decide)]
     refine hJ _ ⟨hi,.inr ⟨i,by simp,rfl,by omega,fun j hj hji=>?_⟩⟩ (by simp only; omega)
     simp only at hj
     exact a2 j (by omega)
    ·rw [if_neg (by omega)]
     refine ⟨_,rfl,-1,.inl rfl,.inr ⟨fun u hu=>?_,rfl⟩⟩
     have hux:∀ y < l.length,at0 l y = m -> y = u:=fun y hy e=>Classical.byContradiction fun hne=>by
      have h1:=hu.2 y hy hne
      have h2:=m2 u hu.1
      omega
     have e1:=hux x (by omega) x2
     have e2:=hux i hi (by omega)
     omega
   ·rw [if_neg hx]
    refine hJ _ ⟨hi,?_⟩ (by simp only; omega)
    rcases a2 with ⟨rfl,a2⟩ | ⟨x,x1,rfl,x2,x3⟩
    ·refine .inl ⟨rfl,fun j hj=>?_⟩
     simp only at hj
     by_cases hji:j = i
     ·subst hji; omega
     ·exact a2 j (by omega)
    ·refine .inr ⟨x,by simp only; omega,rfl,x2,fun j hj hjx=>?_⟩
     simp only at hj
     by_cases hji:j = i
     ·subst hji; omega
     ·exact x3 j (by omega) hjx
  ·rw [if_neg hi]
   have:i = l.length:=by omega
   subst this
   refine ⟨_,rfl,z,.inr rfl,?_⟩
   rcases a2 with ⟨rfl,a2⟩ | ⟨x,x1,rfl,x2,x3⟩
   ·obtain ⟨y,y1,y2⟩:=m3
    exact absurd y2 (a2 y y1)
   ·refine .inl ⟨x,⟨x1,fun y hy hne=>?_⟩,rfl⟩
    have h1:=m2 y hy
    have h2:=x3 y hy hne
    omega
theorem winnerR (l:List Int) (hl:l.length <= 1000):∃ w,ap_p FU l = some w/\WinR l w:=by
 have hF:=aN
 unfold ap_p
 have hh:=ax (B:=ap_l2 FU l) (fun i:Nat=>l.length - i) (fun i=>i <= l.length/\∀ x < i,¬ Uq l x) (fun r=>(∃ x:Nat,r = .inl (x:Int)/\Uq l x) ∨ r = .inr ()/\∀ x,¬ Uq l x) ?_ FU 0 ⟨Nat.zero_le _,fun x hx=>by omega⟩ (by omega)
 ·obtain ⟨r,e,⟨x,rfl,hx⟩ | ⟨rfl,hx⟩⟩:=hh
  ·rw [e]; exact ⟨_,rfl,.inl ⟨x,hx,rfl⟩⟩
  ·rw [e]; exact ⟨_,rfl,.inr ⟨hx,rfl⟩⟩
 ·rintro i J ⟨a1,a2⟩ hJ
  unfold ap_l2
  simp only
  by_cases hi:i < l.length
  ·rw [if_pos hi]
   have hg:=bt hi
   have hh:=ax (B:=ap_l1 FU l i) (fun s:Bool × Nat=>l.length - s.2) (fun s=>s.2 <= l.length/\(s.1 = true ↔ ∀ y < s.2,y ≠ i -> at0 l y < at0 l i)) (fun q=>q = true ↔ ∀ y < l.length,y ≠ i -> at0 l y < at0 l i) ?_ FU (true,0) ⟨Nat.zero_le _,by simp⟩ (by simp only; omega)
   ·obtain ⟨q,e,hq⟩:=hh
    rw [e,ab]
    by_cases hqt:q = true
    ·rw [if_pos hqt]; exact ⟨_,rfl,.inl ⟨i,rfl,hi,hq.1 hqt⟩⟩
    ·rw [if_neg hqt]
     refine hJ (i + 1) ⟨hi,fun x hx=>?_⟩ (by omega)
     by_cases hxi:x = i
     ·subst hxi; exact fun hu=>hqt (hq.2 hu.2)
     ·exact a2 x (by omega)
   ·rintro ⟨q,j⟩ J2 ⟨b1,b2⟩ hJ2
    simp only at b1 b2 hJ2
    unfold ap_l1 jn
    simp only
    by_cases hj:j < l.length
    ·rw [if_pos hj]
     have hgj:=bt hj
     by_cases hji:j = i
     ·rw [if_pos hji]
      refine hJ2 _ ⟨hj,b2.trans ⟨fun h y hy hne=>h y ?_ hne,fun h y hy hne=>h y ?_ hne⟩⟩ (by simp only; omega)
      ·simp only at hy; omega
      ·simp only; omega
     ·rw [if_neg hji,geE hj,ab,geE hi,ab]
      by_cases hle:l[i] <= l[j]
      ·rw [if_pos hle]
       refine hJ2 _ ⟨hj,⟨fun h=>(by cases h),fun h=>?_⟩⟩ (by simp only; omega)
       have:=h j (by simp) hji
       omega
      ·rw [if_neg hle]
       refine hJ2 _ ⟨hj,b2.trans ⟨fun h y hy hne=>?_,fun h y hy hne=>h y (by simp only; omega) hne⟩⟩ (by simp only; omega)
       simp only at hy
       by_cases hyj:y = j
       ·subst hyj; omega
       ·exact h y (by omega) hne
    ·rw [if_neg hj]
     have:j = l.length:=by omega
     subst this
     exact ⟨q,rfl,b2⟩
  ·rw [if_neg hi]
   exact ⟨_,rfl,.inr ⟨rfl,fun x hx=>a2 x (by have:=hx.1; omega) hx⟩⟩
def win (l:List Int):Int:=(br_p FU l).getD 0
theorem fT (l:List Int) (hl:l.length <= 1000):br_p FU l = some (win l)/\ap_p FU l = some (win l)/\WinR l (win l):=by
 obtain ⟨w,w1,w2⟩:=winnerP l hl
 obtain ⟨z,z1,z2⟩:=winnerR l hl
 have e:win l = w:=by unfold win; rw [w1]; rfl
 rw [e]
 exact ⟨w1,by rw [z1,w2.eq z2],w2⟩
def Tb (k P:Nat) (vs:List (List Int)):Prop:=vs.length = k/\∀ v ∈ vs,v.length = P
theorem Cn.tb {r:Td} {us:List Tc} {p:List Int} {k P:Nat} (h:Cn r us p k P):Tb k P (vts us p P k us.length):=by
 refine ⟨bD ..,fun v hv=>?_⟩
 unfold vts at hv
 obtain ⟨d,_,rfl⟩:=List.mem_map.1 hv
 exact (gz h.vu p (d:Int) us.length (Nat.le_refl _)).1
theorem cE (vs:List (List Int)) {i:Nat} (h:i < vs.length):(vs.map win)[i]? = some (win vs[i]):=by rw [List.getElem?_map,geE h]; rfl
theorem iv {k P:Nat} {vs:List (List Int)} (h:Tb k P vs) (hk:k <= 8) (hP:P <= 12):ak (aL_l1 FU vs) FU (0,[]) = some (vs.map win):=by
 have hF:=aN
 have hl:=h.1
 have hh:=ax (B:=aL_l1 FU vs) (fun s:Nat × List Int=>vs.length - s.1) (fun s=>s.1 <= vs.length/\s.2 = (vs.map win).take s.1) (fun y=>y = vs.map win) ?_ FU (0,[]) ⟨Nat.zero_le _,by simp⟩ (by simp only; omega)
 ·obtain ⟨y,e,rfl⟩:=hh; exact e
 ·rintro ⟨i,xs⟩ J ⟨a1,a2⟩ hJ
  simp only at a1 a2 hJ
  subst a2
  unfold aL_l1
  simp only
  by_cases hi:i < vs.length
  ·obtain ⟨w1,_,_⟩:=fT vs[i] (by rw [h.2 _ (List.getElem_mem hi)]; omega)
   rw [if_pos hi,geE hi,ab,w1,ab,cu _ _ (by simp only [List.length_take,List.length_map,leC,leN]; omega),ab,<- dq (cE vs hi)]
   exact hJ _ ⟨hi,rfl⟩ (by simp only; omega)
  ·rw [if_neg hi,List.take_of_length_le (by rw [List.length_map]; omega)]
   exact ⟨_,rfl,rfl⟩
theorem hO {k P:Nat} {vs:List (List Int)} (h:Tb k P vs) (hk:k <= 8) (hP:P <= 12):ak (ao_l1 FU (k:Int) (vs,0)) FU (0,[]) = some (vs.map win):=by
 have hF:=aN
 have hl:=h.1
 have hh:=ax (B:=ao_l1 FU (k:Int) (vs,0)) (fun s:Int × List Int=>vs.length - s.1.toNat) (fun s=>∃ i:Nat,s.1 = (i:Int)/\i <= vs.length/\s.2 = (vs.map win).take i) (fun y=>y = vs.map win) ?_ FU (0,[]) ⟨0,rfl,Nat.zero_le _,by simp⟩ (by simp only; omega)
 ·obtain ⟨y,e,rfl⟩:=hh; exact e
 ·rintro ⟨z,xs⟩ J ⟨i,a0,a1,a2⟩ hJ
  simp only at a0 a1 a2 hJ
  subst a0 a2
  unfold ao_l1
  simp only
  by_cases hi:i < vs.length
  ·obtain ⟨_,w1,_⟩:=fT vs[i] (by rw [h.2 _ (List.getElem_mem hi)]; omega)
   rw [if_pos (by omega),idxK hi,ab,w1,ab,cu _ _ (by simp only [List.length_take,List.length_map,leC,leN]; omega),ab,bh (by omega) (by omega),ab,<- dq (cE vs hi)]
   exact hJ _ ⟨i + 1,by simp,hi,rfl⟩ (by simp only; omega)
  ·rw [if_neg (by omega),List.take_of_length_le (by rw [List.length_map]; omega)]
   exact ⟨_,rfl,rfl⟩
def stn (P:Nat) (ws:List Int):Nat -> Int × List Int
 | 0=>(0,List.replicate P 0)
 | i + 1=>if at0 ws i < 0 then ((stn P ws i).1 + 1,(stn P ws i).2) else ((stn P ws i).1,(stn P ws i).2.set (at0 ws i).toNat (at0 (stn P ws i).2 (at0 ws i).toNat + 1))
theorem ee (P:Nat) (ws:List Int):∀ i,(0 <= (stn P ws i).1/\(stn P ws i).1 <= i)/\(stn P ws i).2.length = P/\∀ x ∈ (stn P ws i).2,0 <= x/\x <= (i:Int)
 | 0=>⟨⟨Int.le_refl _,Int.le_refl _⟩,by simp [stn],fun x hx=>by rw [List.eq_of_mem_replicate hx]; omega⟩
 | i + 1=>by
  obtain ⟨h1,h2,h3⟩:=ee P ws i
  unfold stn
  split
  ·exact ⟨by simp only; omega,h2,fun x hx=>by have:=h3 x hx; omega⟩
  ·refine ⟨by simp only; omega,by simp only [List.length_set]; exact h2,fun x hx=>?_⟩
   rcases List.mem_or_eq_of_mem_set hx with hx | hx
   ·have:=h3 x hx; omega
   ·rw [hx]
    by_cases hj:(at0 ws i).toNat < (stn P ws i).2.length
    ·rw [bt hj]; have:=h3 _ (List.getElem_mem hj); omega
    ·unfold at0; rw [List.getElem?_eq_none (by unfold at0 at hj; omega)]; simp; omega
theorem gt {P:Nat} {ws:List Int} {i:Nat} (h:at0 ws i < 0):stn P ws (i + 1) = ((stn P ws i).1 + 1,(stn P ws i).2):=by
 show (if at0 ws i < 0 then _ else _) = _
 rw [if_pos h]
theorem gm {P:Nat} {ws:List Int} {i:Nat} (h:¬ at0 ws i < 0):stn P ws (i + 1) = ((stn P ws i).1,(stn P ws i).2.set (at0 ws i).toNat (at0 (stn P ws i).2 (at0 ws i).toNat + 1)):=by
 show (if at0 ws i < 0 then _ else _) = _
 rw [if_neg h]
theorem gA {k P:Nat} {vs:List (List Int)} (h:Tb k P vs) (hP:P <= 12) {i:Nat} (hi:i < vs.length):at0 (vs.map win) i = win vs[i]/\-1 <= win vs[i]/\win vs[i] < P:=by
 have hl:=h.2 _ (List.getElem_mem hi)
 obtain ⟨_,_,w1⟩:=fT vs[i] (by omega)
 have:=w1.in
 refine ⟨?_,by omega,by omega⟩
 unfold at0; rw [cE vs hi]; rfl
theorem seatsP {k P:Nat} {vs:List (List Int)} (h:Tb k P vs) (hk:k <= 8) (hP:P <= 12):ak (a9_l1 FU (vs.map win,0)) FU (0,0,List.replicate P 0) = some ((stn P (vs.map win) k).2,(stn P (vs.map win) k).1):=by
 have hF:=aN
 have hl:=h.1
 have hh:=ax (B:=a9_l1 FU (vs.map win,0)) (fun s:Int × Nat × List Int=>vs.length - s.2.1) (fun s=>s.2.1 <= vs.length/\s.1 = (stn P (vs.map win) s.2.1).1/\s.2.2 = (stn P (vs.map win) s.2.1).2) (fun y=>y = ((stn P (vs.map win) k).2,(stn P (vs.map win) k).1)) ?_ FU (0,0,List.replicate P 0) ⟨Nat.zero_le _,rfl,rfl⟩ (by simp only; omega)
 ·obtain ⟨y,e,rfl⟩:=hh; exact e
 ·rintro ⟨z,i,xs⟩ J ⟨a1,a2,a3⟩ hJ
  simp only at a1 a2 a3 hJ
  subst a2 a3
  unfold a9_l1
  simp only
  by_cases hi:i < vs.length
  ·obtain ⟨w0,w1,w2⟩:=gA h hP hi
   obtain ⟨s1,s2,s3⟩:=ee P (vs.map win) i
   rw [if_pos (by rw [List.length_map]; exact hi),cE vs hi,ab]
   by_cases hn:win vs[i] < 0
   ·have e:=gt (P:=P) (ws:=vs.map win) (i:=i) (by rw [w0]; exact hn)
    rw [if_pos hn,bh (by omega) (by omega),ab]
    exact hJ _ ⟨hi,by simp only; rw [e],by simp only; rw [e]⟩ (by simp only; omega)
   ·have e:=gm (P:=P) (ws:=vs.map win) (i:=i) (by rw [w0]; exact hn)
    have hj:(win vs[i]).toNat < (stn P (vs.map win) i).2.length:=by omega
    have hb:=s3 _ (List.getElem_mem hj)
    rw [w0,bt hj] at e
    rw [if_neg hn,bC (by omega) hj,ab,bh (by omega) (by omega),ab,bm _ hj,ab]
    exact hJ _ ⟨hi,by simp only; rw [e],by simp only; rw [e]⟩ (by simp only; omega)
  ·rw [if_neg (by rw [List.length_map]; exact hi)]
   exact ⟨_,rfl,by rw [show k = i by omega]⟩
theorem seatsR {k P:Nat} {vs:List (List Int)} (h:Tb k P vs) (hk:k <= 8) (hP:P <= 12):ak (az_l1 FU (k:Int) (vs.map win,0)) FU (0,0,List.replicate P 0) = some ((stn P (vs.map win) k).2,(stn P (vs.map win) k).1):=by
 have hF:=aN
 have hl:=h.1
 have hh:=ax (B:=az_l1 FU (k:Int) (vs.map win,0)) (fun s:Int × Int × List Int=>vs.length - s.2.1.toNat) (fun s=>∃ i:Nat,s.2.1 = (i:Int)/\i <= vs.length/\s.1 = (stn P (vs.map win) i).1/\s.2.2 = (stn P (vs.map win) i).2) (fun y=>y = ((stn P (vs.map win) k).2,(stn P (vs.map win) k).1)) ?_ FU (0,0,List.replicate P 0) ⟨0,rfl,Nat.zero_le _,rfl,rfl⟩ (by simp only; omega)
 ·obtain ⟨y,e,rfl⟩:=hh; exact e
 ·rintro ⟨z,d,xs⟩ J ⟨i,a0,a1,a2,a3⟩ hJ
  simp only at a0 a1 a2 a3 hJ
  subst a0 a2 a3
  unfold az_l1 jn
  simp only
  by_cases hi:i < vs.length
  ·obtain ⟨w0,w1,w2⟩:=gA h hP hi
   obtain ⟨s1,s2,s3⟩:=ee P (vs.map win) i
   rw [if_pos (by omega),eE,cE vs hi,ab,bh (x:=(i:Int) + 1) (by omega) (by omega)]
   by_cases hn:win vs[i] < 0
   ·have e:=gt (P:=P) (ws:=vs.map win) (i:=i) (by rw [w0]; exact hn)
    rw [if_pos hn,bh (by omega) (by omega),ab,ab]
    exact hJ _ ⟨i + 1,by simp,hi,by simp only; rw [e],by simp only; rw [e]⟩ (by simp only; omega)
   ·have e:=gm (P:=P) (ws:=vs.map win) (i:=i) (by rw [w0]; exact hn)
    have hj:(win vs[i]).toNat < (stn P (vs.map win) i).2.length:=by omega
    have hb:=s3 _ (List.getElem_mem hj)
    rw [w0,bt hj] at e
    rw [if_neg hn,bC (by omega) hj,ab,bh (by omega) (by omega),ab,bm _ hj,ab,ab]
    exact hJ _ ⟨i + 1,by simp,hi,by simp only; rw [e],by simp only; rw [e]⟩ (by simp only; omega)
  ·rw [if_neg (by omega)]
   exact ⟨_,rfl,by rw [show k = i by omega]⟩
theorem votes_p {r:Td} {us:List Tc} {p:List Int} {k P:Nat} (h:Cn r us p k P) (ho:aJ_p FU r p (k:Int) = some (.ok ⟨r,p,(k:Int)⟩)):ce_p FU r p (k:Int) = some (vts us p P k us.length,0):=by
 unfold ce_p bV_p
 rw [ho,ab,exO,eH h,ab,ab,exO]
theorem winners_p {r:Td} {us:List Tc} {p:List Int} {k P:Nat} (h:Cn r us p k P) (ho:aJ_p FU r p (k:Int) = some (.ok ⟨r,p,(k:Int)⟩)):aY_p FU r p (k:Int) = some ((vts us p P k us.length).map win,0):=by
 unfold aY_p aL_p
 rw [ho,ab,exO,eH h,ab,iv h.tb h.k8 h.p12,ab,ab,exO]
theorem seats_p {r:Td} {us:List Tc} {p:List Int} {k P:Nat} (h:Cn r us p k P) (ho:aJ_p FU r p (k:Int) = some (.ok ⟨r,p,(k:Int)⟩)):a9_p FU r p (k:Int) = some ((stn P ((vts us p P k us.length).map win) k).2,(stn P ((vts us p P k us.length).map win) k).1,0):=by
 have:=h.p12
 unfold a9_p
 rw [winners_p h ho,ab,if_pos rfl,h.P,dl _ _ (by omega),ab,seatsP h.tb h.k8 h.p12]
 rfl
end Go.Proofs.YtibdeoeglcngoaaGreatDoor
namespace Go.Proofs.YtibdeoeglcngoaaGreatDoor
open Go
set_option maxRecDepth 8000
theorem fullD (d:Ti) (m:Nat) (h2:m <= 12):∃ r,aR_p FU d m = some r/\D0 r:=by
 obtain ⟨r,e,h,_⟩:=eK ⟨2,3,2,d.fq,d.fNums⟩ m h2
 unfold aR_p
 rw [e,ab]
 exact ⟨r,rfl,h⟩
theorem eqII (a:List Int) (hl:a.length <= 1000):al_p FU a a = some true:=by
 have hF:=aN
 unfold al_p
 rw [if_pos rfl]
 have hh:=ax (B:=al_l1 FU a a) (fun i:Nat=>a.length - i) (fun _=>True) (fun y=>y = .inr ()) ?_ FU 0 trivial (by omega)
 ·obtain ⟨y,e,rfl⟩:=hh
  rw [e]; rfl
 ·intro i J _ hJ
  unfold al_l1
  simp only
  by_cases hi:i < a.length
  ·rw [if_pos hi,geE hi,ab,ab,if_pos rfl]
   exact hJ _ trivial (by omega)
  ·rw [if_neg hi]; exact ⟨_,rfl,rfl⟩
theorem iu:Dn ⟨0,0,0,[]⟩:=⟨by simp,fun u hu=>by cases hu⟩
theorem iw:bD_p FU = some true:=by kernel_rfl
theorem fP (a0:Tk) (a1:Ti) (a2 a3:Tl):∃ (l:List Tj) (k:Nat),bq_p FU a0 a1 a2 a3 = some (l,(k:Int))/\l.length = 5/\1 <= k/\k <= 8/\∀ s ∈ l,Dn s.fr/\s.fp.length <= 10:=by
 have hF:=aN
 obtain ⟨p,k,e0,p1,p2,hp,k1,k2⟩:=ig FU a0 (by omega)
 obtain ⟨r,e1,hr⟩:=fullD a1 p.length (by omega)
 obtain ⟨r2,e2,hr2,_⟩:=eK a1 p.length (by omega)
 obtain ⟨r', e4,hr'⟩:=bend_ok a3 hr
 obtain ⟨p', e5,hp'⟩:=bendP a2 p1 p2
 obtain ⟨j,rfl⟩:∃ j:Nat,k = (j:Int):=⟨k.toNat,by omega⟩
 unfold bq_p
 rw [e0,ab]
 simp only
 rw [e1,ab,e2,ab,e4,ab,e5,ab]
 refine ⟨_,j,rfl,rfl,by omega,by omega,fun z hz=>?_⟩
 simp only [List.mem_cons,List.not_mem_nil,or_false] at hz
 rcases hz with rfl | rfl | rfl | rfl | rfl
 ·exact ⟨hr.dn,by simp only; omega⟩
 ·exact ⟨hr2.dn,by simp only; omega⟩
 ·exact ⟨hr', by simp only; omega⟩
 ·exact ⟨hr.dn,hp'⟩
 ·exact ⟨iu,by simp⟩
structure Three (r:Td) (p:List Int) (k:Nat):Prop where
 v:∃ y,ce_p FU r p (k:Int) = some y/\aa_p FU r p (k:Int) = some y/\y.1.length <= 8/\∀ v ∈ y.1,v.length <= 12
 w:∃ y,aY_p FU r p (k:Int) = some y/\ao_p FU r p (k:Int) = some y/\y.1.length <= 1000
 s:∃ y,a9_p FU r p (k:Int) = some y/\az_p FU r p (k:Int) = some y/\y.1.length <= 1000
theorem iF {r:Td} {p:List Int} {k:Nat} (h:Vt r p k):Three r p k:=by
 rcases h with ⟨us,P,h,e1,e2⟩ | ⟨e,he,e1,e2⟩
 ·have hT:=h.tb
  have h8:=h.k8; have h12:=h.p12
  have w2:ao_p FU r p (k:Int) = some ((vts us p P k us.length).map win,0):=by
   unfold ao_p
   rw [e2,ab,if_pos rfl,hO hT h8 h12,ab]
  have hst:=(ee P ((vts us p P k us.length).map win) k).2.1
  refine ⟨⟨_,votes_p h e1,e2,by rw [hT.1]; exact h8,fun v hv=>by rw [hT.2 v hv]; exact h12⟩,⟨_,winners_p h e1,w2,by rw [List.length_map,hT.1]; omega⟩,⟨_,seats_p h e1,?_,(by simp only; omega)⟩⟩
  unfold az_p
  rw [w2,ab,if_pos rfl,h.P,dl _ _ (by omega),ab,seatsR hT h8 h12]
  rfl
 ·have w1:aY_p FU r p (k:Int) = some ([],e):=by
   unfold aY_p aL_p
   rw [e1,ab,exE,ab,exE]
  have w2:ao_p FU r p (k:Int) = some ([],e):=by
   unfold ao_p
   rw [e2,ab,if_neg he]
  refine ⟨⟨([],e),?_,e2,by simp,fun v hv=>by cases hv⟩,⟨([],e),w1,w2,by simp⟩,⟨([],0,e),?_,?_,by simp⟩⟩
  ·unfold ce_p bV_p
   rw [e1,ab,exE,ab,exE]
  ·unfold a9_p
   rw [w1,ab,if_neg he]
  ·unfold az_p
   rw [w2,ab,if_neg he]
theorem rows_ok (y:List (List Int) × Int) (h1:y.1.length <= 8) (h2:∀ v ∈ y.1,v.length <= 12):ak (ai_l1 FU y y) FU 0 = some (.inr ()):=by
 have hF:=aN
 have hh:=ax (B:=ai_l1 FU y y) (fun i:Nat=>y.1.length - i) (fun _=>True) (fun z=>z = .inr ()) ?_ FU 0 trivial (by omega)
 ·obtain ⟨z,e,rfl⟩:=hh; exact e
 ·intro i J _ hJ
  unfold ai_l1
  simp only
  by_cases hi:i < y.1.length
  ·have:=h2 _ (List.getElem_mem hi)
   rw [if_pos hi,geE hi,ab,ab,eqII _ (by omega),ab,if_pos rfl]
   exact hJ _ trivial (by omega)
  ·rw [if_neg hi]; exact ⟨_,rfl,rfl⟩
theorem dM (a0:Tk) (a1:Ti) (a2 a3:Tl):ai_p FU a0 a1 a2 a3 = some true:=by
 have hF:=aN
 obtain ⟨l,k,e,hl,k1,k8,hs⟩:=fP a0 a1 a2 a3
 unfold ai_p
 rw [iw,ab,if_pos rfl,e,ab]
 have hh:=ax (B:=ai_l2 FU (l,(k:Int))) (fun i:Nat=>l.length - i) (fun _=>True) (fun z=>z = .inr ()) ?_ FU 0 trivial (by omega)
 ·obtain ⟨z,e,rfl⟩:=hh
  rw [e]; rfl
 ·intro i J _ hJ
  unfold ai_l2
  simp only
  by_cases hi:i < l.length
  ·obtain ⟨z1,z2⟩:=hs _ (List.getElem_mem hi)
   obtain ⟨⟨y,y1,y2,y3,y4⟩,⟨w,w1,w2,w3⟩,⟨s,s1,s2,s3⟩⟩:=iF (vt_ok k k1 k8 z1 z2)
   rw [if_pos hi,geE hi,ab,y1,ab,y2,ab,w1,ab,w2,ab,s1,ab,s2,ab,if_pos rfl,rows_ok y y3 y4]
   unfold thn
   simp only
   rw [if_pos trivial,eqII _ w3,ab,if_pos rfl,if_pos trivial,eqII _ s3,ab,if_pos rfl,if_pos trivial,if_pos trivial]
   exact hJ _ trivial (by omega)
  ·rw [if_neg hi]; exact ⟨_,rfl,rfl⟩
theorem dP (a0:Tk) (a1:Ti) (a2 a3:Tl):∃ n,ai_p n a0 a1 a2 a3 = some true:=⟨FU,dM a0 a1 a2 a3⟩
end Go.Proofs.YtibdeoeglcngoaaGreatDoor
