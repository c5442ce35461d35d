/- Plain laws: words, their value, and integers of any length: sum, difference, product. No program in sight but the printed functions. -/
import Derived.Test.YtibdeoeglcngoaaGreatDoorRZ7
namespace Go.Proofs.YtibdeoeglcngoaaGreatDoor
open Go
theorem ab {α β:Type} (x:α) (f:α -> Option β):(some x).bind f = f x:=Eq.trans (Eq.refl _) (Eq.refl _)
theorem aw {α β:Type} {B:(α -> Option β) -> α -> Option β} (m:α -> Nat) (I:α -> Prop) (Q:β -> Prop)
  (step:∀ s J,I s -> (∀ s', I s' -> m s' < m s -> ∃ r,J s' = some r/\Q r) -> ∃ r,B J s = some r/\Q r):∀ n s,I s -> m s < n -> ∃ r,ap B n s = some r/\Q r:=by
 intro n
 induction n with
 | zero=>intro s _ h; omega
 | succ n ih=>intro s hI h; exact step s (ap B n) hI fun s' h1 h2=>ih s' h1 (by omega)
theorem bt {x:Int} (h1:-9223372036854775808 <= x) (h2:x <= 9223372036854775807):chk x = some x:=if_pos ⟨h1,h2⟩
theorem bX {α:Type} {xs:List α} {i:Int} (h0:0 <= i) (h:i.toNat < xs.length):idx xs i = some xs[i.toNat]:=by unfold idx; rw [if_pos h0,geE h]
theorem cP {α:Type} {xs:List α} {i:Nat} (x:α) (h:i < xs.length):put xs (i:Int) x = some (xs.set i x):=by
 unfold put; rw [if_pos ⟨Int.natCast_nonneg _,by omega⟩]; rfl
theorem dH {α:Type} (n:Nat) (x:α) (h:n <= 4294967296):mk (n:Int) x = some (List.replicate n x):=by
 unfold mk; rw [if_pos ⟨Int.natCast_nonneg _,by omega⟩]; rfl
def val:List UInt64 -> Nat
 | []=>0
 | x :: xs=>x.toNat + 18446744073709551616 * val xs
def dg (m:Nat):List UInt64:=if m = 0 then [] else UInt64.ofNat m :: dg (m / 18446744073709551616)
termination_by m
decreasing_by exact Nat.div_lt_self (by omega) (by omega)
end Go.Proofs.YtibdeoeglcngoaaGreatDoor
namespace Go.Proofs.YtibdeoeglcngoaaGreatDoor
open Go
def L (z:Int):Tg:=⟨decide (z < 0),dg z.natAbs⟩
end Go.Proofs.YtibdeoeglcngoaaGreatDoor
namespace Go.Proofs.YtibdeoeglcngoaaGreatDoor
open Go
end Go.Proofs.YtibdeoeglcngoaaGreatDoor
namespace Go.Proofs.YtibdeoeglcngoaaGreatDoor
open Go
end Go.Proofs.YtibdeoeglcngoaaGreatDoor
namespace Go.Proofs.YtibdeoeglcngoaaGreatDoor
open Go
end Go.Proofs.YtibdeoeglcngoaaGreatDoor
namespace Go.Proofs.YtibdeoeglcngoaaGreatDoor
open Go
theorem cF {x y:Int} (h:y ≠ 0):cL x y = some (x.tmod y):=if_neg h
theorem eZ {α:Type} (xs ys:List α) (h:xs.length + ys.length <= 1000000):app xs ys = some (xs ++ ys):=if_pos (Nat.le_trans h (by decide))
theorem iI (n:Nat) (d:Tj) (i:Int) (h:0 <= i):∃ y,aE_p n d i = some y/\0 <= y/\y < 256:=by
 unfold aE_p
 split
 ·rw [bX h (by omega),ab]
  have:=(d.fLabels[i.toNat]'(by omega)).toNat_lt
  exact ⟨_,rfl,by omega,by omega⟩
 ·exact ⟨_,rfl,by omega,by omega⟩
theorem gT (n:Nat) (d:Tj) (hn:20 < n):∃ l,ap (ac_l2 n d) n (0,[]) = some l/\1 <= l.length/\l.length <= 9/\∀ x ∈ l,0 <= x/\x < 8:=by
 have hu:(d.fN % 9).toNat < 9:=by rw [UInt8.toNat_mod]; exact Nat.mod_lt _ (by decide)
 have hk:(d.fK % 8).toNat < 8:=by rw [UInt8.toNat_mod]; exact Nat.mod_lt _ (by decide)
 have h:=aw (B:=ac_l2 n d) (fun s:Int × List Int=>10 - s.1.toNat) (fun s=>0 <= s.1/\s.1 <= (1 + (d.fN % 9).toNat:Nat)/\s.2.length = s.1.toNat/\∀ x ∈ s.2,0 <= x/\x < 8)
  (fun l=>1 <= l.length/\l.length <= 9/\∀ x ∈ l,0 <= x/\x < 8) ?_ n (0,[]) ⟨by simp,by omega,by simp,by simp⟩ (by simp only; omega)
 ·obtain ⟨l,e,h⟩:=h; exact ⟨l,e,h⟩
 ·rintro ⟨z,xs⟩ J ⟨h1,h2,h3,h4⟩ hJ
  simp only at h1 h2 h3 h4 hJ
  unfold ac_l2 aP_p
  simp only [ab]
  split
  ·rename_i h5
   obtain ⟨y,e,y0,y1⟩:=iI n d z h1
   rw [e,ab,cF (by omega),ab,eZ _ _ (by simp only [leC,leN]; omega),ab,bt (by omega) (by omega),ab]
   refine hJ _ ⟨by simp only; omega,by simp only; omega,by simp only [List.length_append,leC,leN]; omega,fun x hx=>?_⟩ (by simp only; omega)
   rcases List.mem_append.1 hx with hx | hx
   ·exact h4 x hx
   ·rw [List.mem_singleton.1 hx,Int.tmod_eq_emod_of_nonneg y0]
    have a1:=Int.emod_nonneg y (b:=((1 + (d.fK % 8).toNat:Nat):Int)) (by omega)
    have a2:=Int.emod_lt_of_pos y (b:=((1 + (d.fK % 8).toNat:Nat):Int)) (by omega)
    omega
  ·rename_i h5
   exact ⟨_,rfl,by omega,by omega,h4⟩
theorem gK (n:Nat) (l:List Int) (h1:1 <= l.length) (h2:l.length <= 9) (h:∀ x ∈ l,0 <= x/\x < 8) (hn:20 < n):ax_p n l 8 = some true:=by
 have hh:=aw (B:=ax_l1 n l 8) (fun i:Nat=>l.length - i) (fun i=>i <= l.length) (fun r=>r = .inr ()) ?_ n 0 (Nat.zero_le _) (by omega)
 ·obtain ⟨r,e,rfl⟩:=hh
  unfold ax_p
  rw [e]
  show (if 1 <= l.length then some (decide (l.length <= 64)) else some false) = _
  rw [if_pos h1,decide_eq_true (by omega)]
 ·intro i J hi hJ
  unfold ax_l1
  simp only
  split
  ·rename_i h0
   have:=h l[i] (List.getElem_mem _)
   rw [geE h0,ab,if_neg (by omega),if_neg (by omega)]
   exact hJ (i + 1) h0 (by omega)
  ·exact ⟨_,rfl,rfl⟩
def bz (p:List Int) (k:Int):Prop:=(∀ x ∈ p,0 <= x/\x < k)/\∀ d,0 <= d -> d < k -> d ∈ p
theorem iE (n:Nat) (l:List Int) (h1:1 <= l.length) (h2:l.length <= 9) (h:∀ x ∈ l,0 <= x/\x < 8) (hn:20 < n):∃ p z,az_p n l = some (p,0)/\p.length = l.length/\bz p z/\z <= 8:=by
 have hh:=aw (B:=az_l1 n l) (fun s:Int × Nat × List Int × List Int=>l.length - s.2.1)
  (fun s=>s.2.1 <= l.length/\s.2.2.1.length = s.2.1/\s.2.2.2.length = 8/\0 <= s.1/\s.1 + s.2.2.2.count (-1) = 8/\(∀ v ∈ s.2.2.2,v = -1 ∨ 0 <= v/\v < s.1)/\bz s.2.2.1 s.1)
  (fun p=>∃ z,p.length = l.length/\bz p z/\z <= 8) ?_ n (0,0,[],[-1,-1,-1,-1,-1,-1,-1,-1]) ⟨by simp,rfl,rfl,by simp,by decide,by simp,by simp,fun d h3 h4=>by simp only at h4; omega⟩ (by simp only; omega)
 ·obtain ⟨p,e,z,h3,h4,h5⟩:=hh
  refine ⟨p,z,?_,h3,h4,h5⟩
  unfold az_p
  rw [gK n l h1 h2 h hn,ab,if_pos rfl,e,ab]
 ·rintro ⟨z,i,xs,m⟩ J ⟨a1,a2,a3,a4,a5,a6,a7,a8⟩ hJ
  simp only at a1 a2 a3 a4 a5 a6 a7 a8 hJ
  unfold az_l1
  simp only
  split
  ·rename_i hi
   have hx:=h l[i] (List.getElem_mem _)
   have hm:l[i].toNat < m.length:=by omega
   rw [geE hi,ab,bX hx.1 hm,ab]
   unfold jn
   simp only
   have hv:=a6 m[l[i].toNat] (List.getElem_mem _)
   by_cases hneg:m[l[i].toNat] < 0
   ·have hv1:m[l[i].toNat] = -1:=by omega
    have hc:0 < m.count (-1):=by rw [<- hv1]; exact List.count_pos_iff.2 (List.getElem_mem _)
    rw [if_pos hneg,cP _ hm,ab,bt (by omega) (by omega),ab,bX hx.1 (by simpa using hm),ab,List.getElem_set_self,eZ _ _ (by simp only [leC,leN]; omega),ab]
    refine hJ _ ⟨by simp only; omega,by simp only [List.length_append,leC,leN]; omega,by simpa using a3,by simp only; omega,?_,?_,?_,?_⟩ (by simp only; omega)
    ·simp only
     rw [List.count_set hm,hv1]
     have:((z == (-1:Int)) = false):=by rw [beq_eq_false_iff_ne]; omega
     simp only [this]
     simp only [beq_self_eq_true,if_true]
     simp
     omega
    ·intro v hv2
     rcases List.mem_or_eq_of_mem_set hv2 with hv2 | rfl
     ·rcases a6 v hv2 with h5 | h5
      ·exact .inl h5
      ·exact .inr ⟨h5.1,by simp only; omega⟩
     ·exact .inr ⟨a4,by simp only; omega⟩
    ·intro x hx2
     simp only at hx2 ⊢
     rcases List.mem_append.1 hx2 with hx2 | hx2
     ·have:=a7 x hx2; omega
     ·rw [List.mem_singleton.1 hx2]; omega
    ·intro d d0 d1
     simp only at d1 ⊢
     by_cases hd:d = z
     ·subst hd; exact List.mem_append_right _ (List.mem_singleton.2 rfl)
     ·exact List.mem_append_left _ (a8 d d0 (by omega))
   ·rw [if_neg hneg,bX hx.1 hm,ab,eZ _ _ (by simp only [leC,leN]; omega),ab]
    refine hJ _ ⟨by simp only; omega,by simp only [List.length_append,leC,leN]; omega,a3,a4,a5,a6,?_,?_⟩ (by simp only; omega)
    ·intro x hx2
     simp only at hx2 ⊢
     rcases List.mem_append.1 hx2 with hx2 | hx2
     ·exact a7 x hx2
     ·rw [List.mem_singleton.1 hx2]; omega
    ·intro d d0 d1
     exact List.mem_append_left _ (a8 d d0 d1)
  ·exact ⟨_,rfl,z,by omega,⟨a7,a8⟩,by omega⟩
theorem iB (n:Nat) (d:Tj) (hn:20 < n):∃ p k,ac_p n d = some (p,k)/\1 <= p.length/\p.length <= 9/\bz p k/\1 <= k/\k <= 8:=by
 obtain ⟨l,e1,l1,l2,l3⟩:=gT n d hn
 obtain ⟨p,z,e2,p1,p2,p3⟩:=iE n l l1 l2 l3 hn
 have hh:=aw (B:=ac_l1 n (p,0)) (fun s:Int × Nat=>p.length - s.2) (fun s=>s.2 <= p.length/\0 <= s.1/\s.1 <= 8/\(∀ j (h:j < p.length),j < s.2 -> p[j] + 1 <= s.1)/\(s.1 = 0/\s.2 = 0 ∨ s.1 - 1 ∈ p))
  (fun k=>1 <= k/\k <= 8/\(∀ x ∈ p,x < k)/\k - 1 ∈ p) ?_ n (0,0) ⟨by simp,by simp,by simp,fun j _ h=>by simp at h,.inl ⟨rfl,rfl⟩⟩ (by simp only; omega)
 ·obtain ⟨k,e3,k1,k2,k3,k4⟩:=hh
  refine ⟨p,k,?_,by omega,by omega,⟨fun x hx=>⟨(p2.1 x hx).1,k3 x hx⟩,fun d d0 d1=>p2.2 d d0 (by have:=(p2.1 _ k4).2; omega)⟩,k1,k2⟩
  unfold ac_p
  rw [e1,ab,e2,ab,e3,ab]
 ·rintro ⟨z', i⟩ J ⟨a1,a2,a3,a4,a5⟩ hJ
  simp only at a1 a2 a3 a4 a5 hJ
  unfold ac_l1
  simp only
  split
  ·rename_i hi
   have hx:=p2.1 p[i] (List.getElem_mem _)
   rw [geE hi,ab,bt (by omega) (by omega),ab]
   refine hJ _ ⟨hi,by simp only; omega,by simp only; omega,fun j hj h4=>?_,?_⟩ (by simp only; omega)
   ·simp only at h4 ⊢
    by_cases hj2:j = i
    ·subst hj2; omega
    ·have:=a4 j hj (by omega); omega
   ·right
    simp only
    by_cases hm:z' <= p[i] + 1
    ·rw [Int.max_eq_right hm,show p[i] + 1 - 1 = p[i] by omega]; exact List.getElem_mem _
    ·rw [Int.max_eq_left (by omega)]
     rcases a5 with ⟨h5,h6⟩ | h5
     ·omega
     ·exact h5
  ·rename_i hi
   rcases a5 with ⟨h5,h6⟩ | h5
   ·omega
   ·refine ⟨_,rfl,by have:=(p2.1 _ h5).1; omega,a3,fun x hx=>?_,h5⟩
    obtain ⟨j,hj,rfl⟩:=List.getElem_of_mem hx
    have:=a4 j hj (by omega); omega
end Go.Proofs.YtibdeoeglcngoaaGreatDoor
namespace Go.Proofs.YtibdeoeglcngoaaGreatDoor
open Go
def FU:Nat:=18446744073709552000
def nm (i:Nat):ByteArray:=⟨#[117,UInt8.ofNat (97 + i),97]⟩
theorem nm_inj {i j:Nat} (hi:i < 9) (hj:j < 9) (h:nm i = nm j):i = j:=by
 have h1:=congrArg (fun b:ByteArray=>b.data[1]!) h
 have h2:UInt8.ofNat (97 + i) = UInt8.ofNat (97 + j):=h1
 have h3:=congrArg UInt8.toNat h2
 rw [UInt8.toNat_ofNat', UInt8.toNat_ofNat'] at h3
 omega
theorem nm_sea {i:Nat} (h:nm i = ⟨#[115,101,97]⟩):False:=by
 have h1:=congrArg (fun b:ByteArray=>b.data[0]!) h
 have h2:(117:UInt8) = 115:=h1
 exact absurd h2 (by decide)
theorem cN {κ ν:Type} [DecidableEq κ]:∀ (D:List (κ × ν)) (k x:κ) (v:ν),cS (aN D k v) x = if x = k then some v else cS D x
 | [],k,x,v=>by simp [aN,cS]
 | e :: D,k,x,v=>by
  unfold aN
  split
  ·rename_i h; subst h; simp only [cS]; split <;> rfl
  ·rename_i h
   simp only [cS]
   rw [cN D k x v]
   by_cases h1:x = k
   ·subst h1; simp [h]
   ·simp [h1]
theorem br (n:Nat) (l:List Bool) (h:∀ b ∈ l,b = true) (hn:l.length < n):aC_p n l = some true:=by
 have hh:=aw (B:=al_l1 n l false) (fun i:Nat=>l.length - i) (fun i=>i <= l.length) (fun r=>r = .inr ()) ?_ n 0 (Nat.zero_le _) (by omega)
 ·obtain ⟨r,e,rfl⟩:=hh
  unfold aC_p aD_p al_p
  rw [e]
  rfl
 ·intro i J hi hJ
  unfold al_l1
  simp only
  split
  ·rename_i h0
   rw [geE h0,ab,h l[i] (List.getElem_mem _),if_neg (by decide)]
   exact hJ (i + 1) h0 (by omega)
  ·exact ⟨_,rfl,rfl⟩
theorem bp (n:Nat) (l:List Int) (a aZ:Int) (hl:(l.length:Int) = a) (h:∀ x ∈ l,0 <= x/\x <= aZ) (hn:l.length < n):av_p n l a aZ = some true:=by
 have hh:=aw (B:=av_l1 n l aZ) (fun i:Nat=>l.length - i) (fun i=>i <= l.length) (fun r=>r = .inr ()) ?_ n 0 (Nat.zero_le _) (by omega)
 ·obtain ⟨r,e,rfl⟩:=hh
  unfold av_p
  rw [if_pos hl,e]
  rfl
 ·intro i J hi hJ
  unfold av_l1 bF_p
  simp only
  split
  ·rename_i h0
   have:=h l[i] (List.getElem_mem _)
   rw [geE h0,ab,if_neg (by omega),ab,decide_eq_false (by omega),if_neg (by decide)]
   exact hJ (i + 1) h0 (by omega)
  ·exact ⟨_,rfl,rfl⟩
theorem fV (n:Nat) (d:Ti) (i:Int) (h:0 <= i):∃ y,ar_p n d i = some y/\0 <= y/\y <= 255:=by
 unfold ar_p
 split
 ·exact ⟨_,rfl,by omega,by omega⟩
 ·rename_i h0
  have h1:=Int.emod_nonneg i (b:=(d.fNums.length:Int)) (by omega)
  have h2:=Int.emod_lt_of_pos i (b:=(d.fNums.length:Int)) (by omega)
  rw [cF (by omega),ab,Int.tmod_eq_emod_of_nonneg h,bX h1 (by omega),ab]
  have:=(d.fNums[(i % (d.fNums.length:Int)).toNat]'(by omega)).toNat_lt
  exact ⟨_,rfl,by omega,by omega⟩
theorem eN (n:Nat) (d:Ti) (c at_ aZ:Int) (h0:0 <= c) (h1:c <= 100) (h2:0 <= at_) (h3:at_ <= 1000) (h4:0 <= aZ) (hn:200 < n):∃ l,aj_p n d c at_ aZ = some l/\(l.length:Int) = c/\∀ x ∈ l,0 <= x/\x <= aZ/\x <= 255:=by
 have hh:=aw (B:=aj_l1 n c at_ d aZ) (fun s:Int × List Int=>101 - s.1.toNat) (fun s=>0 <= s.1/\s.1 <= c/\(s.2.length:Int) = s.1/\∀ x ∈ s.2,0 <= x/\x <= aZ/\x <= 255)
  (fun l=>(l.length:Int) = c/\∀ x ∈ l,0 <= x/\x <= aZ/\x <= 255) ?_ n (0,[]) ⟨by simp,h0,by simp,by simp⟩ (by simp only; omega)
 ·obtain ⟨l,e,h⟩:=hh
  refine ⟨l,?_,h⟩
  unfold aj_p
  rw [e,ab]
 ·rintro ⟨z,xs⟩ J ⟨a1,a2,a3,a4⟩ hJ
  simp only at a1 a2 a3 a4 hJ
  unfold aj_l1
  simp only
  split
  ·obtain ⟨y,e,y0,y1⟩:=fV n d (at_ + z) (by omega)
   rw [bt (by omega) (by omega),ab,e,ab,eZ _ _ (by simp only [leC,leN]; omega),ab,bt (by omega) (by omega),ab]
   refine hJ _ ⟨by simp only; omega,by simp only; omega,by simp only [List.length_append,leC,leN]; omega,fun x hx=>?_⟩ (by simp only; omega)
   rcases List.mem_append.1 hx with hx | hx
   ·exact a4 x hx
   ·rw [List.mem_singleton.1 hx]; omega
  ·exact ⟨_,rfl,by omega,a4⟩
def ey (G P L:Int) (u:Tc):Prop:=u.ft = false/\(0 <= u.fx/\u.fx <= 255)/\((u.fh.length:Int) = G/\∀ x ∈ u.fh,0 <= x/\x <= u.fx)/\((u.fA.length:Int) = P/\∀ x ∈ u.fA,0 <= x/\x <= 255)/\((u.fB.length:Int) = L/\∀ x ∈ u.fB,0 <= x/\x <= 63)
def sea (G P L:Int):Tc:=⟨⟨#[115,101,97]⟩,0,List.replicate G.toNat 0,List.replicate P.toNat 0,List.replicate L.toNat 0,true⟩
structure RollOk (r:Tf) (us:List Tc):Prop where
 g:0 <= r.fh/\r.fh <= 2
 p:0 <= r.fc/\r.fc <= 3
 l:0 <= r.fe/\r.fe <= 2
 len:1 <= us.length/\us.length <= 9
 land:∀ i (h:i < us.length),us[i].fu = nm i/\ey r.fh r.fc r.fe us[i]
 all:r.fq = us ∨ r.fq = us ++ [sea r.fh r.fc r.fe]
theorem fR (n:Nat) (d:Ti) (z:Int) (h0:0 <= z) (h1:z <= 100) (hn:200 < n):∃ l,ap (ab_l1 n d z) n (0,[]) = some l/\l.length = (d.fe % 3).toNat/\∀ x ∈ l,0 <= x/\x <= 63:=by
 have hk:(d.fe % 3).toNat < 3:=by rw [UInt8.toNat_mod]; exact Nat.mod_lt _ (by decide)
 refine aw (B:=ab_l1 n d z) (fun s:Nat × List Int=>3 - s.1) (fun s=>s.1 <= (d.fe % 3).toNat/\s.2.length = s.1/\∀ x ∈ s.2,0 <= x/\x <= 63) _ ?_ n (0,[]) ⟨by simp,rfl,by simp⟩ (by simp only; omega)
 rintro ⟨i,xs⟩ J ⟨a1,a2,a3⟩ hJ
 simp only at a1 a2 a3 hJ
 unfold ab_l1
 simp only
 split
 ·rename_i hi
  obtain ⟨y,e,y0,y1⟩:=fV n d (9 * z + 7 + i) (by omega)
  rw [bt (by omega) (by omega),ab,bt (by omega) (by omega),ab,bt (by omega) (by omega),ab,e,ab,cF (by decide),ab,eZ _ _ (by simp only [leC,leN]; omega),ab]
  refine hJ _ ⟨by simp only; omega,by simp only [List.length_append,leC,leN]; omega,fun x hx=>?_⟩ (by simp only; omega)
  rcases List.mem_append.1 hx with hx | hx
  ·exact a3 x hx
  ·rw [List.mem_singleton.1 hx,Int.tmod_eq_emod_of_nonneg y0]
   have a1:=Int.emod_nonneg y (b:=(3:Int)) (by omega)
   have a2:=Int.emod_lt_of_pos y (b:=(3:Int)) (by omega)
   omega
 ·exact ⟨_,rfl,by omega,a3⟩
theorem name_ok (i:Nat) (h:i < 9):(ig ⟨#[117]⟩ (bstr ([aE (97 + (i:Int)),aE (97 + 0)]:List UInt8))) = some (nm i):=by
 have:aE (97 + (i:Int)) = UInt8.ofNat (97 + i):=by unfold aE; congr 1; omega
 rw [this]; rfl
theorem iJ (n:Nat) (d:Ti) (m:Nat) (h1:1 <= m) (h2:m <= 9) (hn:200 < n):∃ r us,ab_p n d m = some r/\us.length = m/\RollOk r us/\r.fh = ((d.fh % 3).toNat:Int)/\r.fc = ((d.fc % 4).toNat:Int)/\r.fe = ((d.fe % 3).toNat:Int):=by
 have hG:(d.fh % 3).toNat < 3:=by rw [UInt8.toNat_mod]; exact Nat.mod_lt _ (by decide)
 have hP:(d.fc % 4).toNat < 4:=by rw [UInt8.toNat_mod]; exact Nat.mod_lt _ (by decide)
 have hL:(d.fe % 3).toNat < 3:=by rw [UInt8.toNat_mod]; exact Nat.mod_lt _ (by decide)
 have hW:(d.ft % 2).toNat < 2:=by rw [UInt8.toNat_mod]; exact Nat.mod_lt _ (by decide)
 have hh:=aw (B:=ab_l3 n (m:Int) d) (fun s:Int × List Tc=>10 - s.1.toNat) (fun s=>0 <= s.1/\s.1 <= m/\(s.2.length:Int) = s.1/\∀ i (h:i < s.2.length),s.2[i].fu = nm i/\ey ((d.fh % 3).toNat:Int) ((d.fc % 4).toNat:Int) ((d.fe % 3).toNat:Int) s.2[i])
  (fun us=>us.length = m/\∀ i (h:i < us.length),us[i].fu = nm i/\ey ((d.fh % 3).toNat:Int) ((d.fc % 4).toNat:Int) ((d.fe % 3).toNat:Int) us[i]) ?_ n (0,[]) ⟨by simp,by simp,by simp,fun i h=>by simp at h⟩ (by simp only; omega)
 ·obtain ⟨us,e,u1,u2⟩:=hh
  have hs:=aw (B:=ab_l2 n d) (fun s:Nat × List Tc=>2 - s.1) (fun s=>s.1 <= (d.ft % 2).toNat/\(s.1 = 0/\s.2 = us ∨ s.1 = 1/\s.2 = us ++ [sea (d.fh % 3).toNat (d.fc % 4).toNat (d.fe % 3).toNat]))
   (fun all=>all = us ∨ all = us ++ [sea (d.fh % 3).toNat (d.fc % 4).toNat (d.fe % 3).toNat]) ?_ n (0,us) ⟨by simp,.inl ⟨rfl,rfl⟩⟩ (by simp only; omega)
  ·obtain ⟨all,e2,ha⟩:=hs
   refine ⟨⟨(d.fh % 3).toNat,(d.fc % 4).toNat,(d.fe % 3).toNat,all⟩,us,?_,u1,⟨by simp only; omega,by simp only; omega,by simp only; omega,by omega,u2,ha⟩,rfl,rfl,rfl⟩
   unfold ab_p
   rw [e,ab,e2,ab]
  ·rintro ⟨i,xs⟩ J ⟨a1,a2⟩ hJ
   simp only at a1 a2 hJ
   unfold ab_l2
   simp only
   split
   ·rename_i hi
    have hi0:i = 0/\xs = us:=by
     rcases a2 with a2 | a2
     ·exact a2
     ·omega
    obtain ⟨rfl,rfl⟩:=hi0
    rw [dH _ _ (by omega),ab,dH _ _ (by omega),ab,dH _ _ (by omega),ab,eZ _ _ (by simp only [leC,leN]; omega),ab]
    exact hJ _ ⟨by simp only; omega,.inr ⟨rfl,rfl⟩⟩ (by simp only; omega)
   ·exact ⟨_,rfl,a2.elim (fun h=>.inl h.2) (fun h=>.inr h.2)⟩
 ·rintro ⟨z,xs⟩ J ⟨a1,a2,a3,a4⟩ hJ
  simp only at a1 a2 a3 a4 hJ
  unfold ab_l3
  simp only
  split
  ·rename_i hz
   obtain ⟨i,rfl⟩:∃ i:Nat,z = i:=⟨z.toNat,by omega⟩
   have t1:Int.tmod (i:Int) 26 = i:=by rw [Int.tmod_eq_emod_of_nonneg (by omega)]; omega
   have t2:Int.tdiv (i:Int) 26 = 0:=by rw [Int.tdiv_eq_ediv_of_nonneg (by omega)]; omega
   obtain ⟨y,e,y0,y1⟩:=fV n d (9 * (i:Int)) (by omega)
   obtain ⟨g,eg,g1,g2⟩:=eN n d ((d.fh % 3).toNat:Nat) (9 * (i:Int) + 1) y (by omega) (by omega) (by omega) (by omega) y0 hn
   obtain ⟨v,ev,v1,v2⟩:=eN n d ((d.fc % 4).toNat:Nat) (9 * (i:Int) + 3) 255 (by omega) (by omega) (by omega) (by omega) (by omega) hn
   obtain ⟨q,eq,q1,q2⟩:=fR n d (i:Int) (by omega) (by omega) hn
   rw [cF (by decide),ab,t1,bt (by omega) (by omega),ab]
   unfold dl
   rw [if_neg (by decide),t2,bt (by omega) (by omega),ab,cF (by decide),ab,show Int.tmod 0 26 = 0 from rfl,bt (by omega) (by omega),ab,bt (by omega) (by omega),ab,e,ab,name_ok i (by omega)]
   simp only [ab]
   rw [bt (by omega) (by omega)]
   simp only [ab,eg]
   rw [bt (by omega) (by omega)]
   simp only [ab,ev,eq]
   rw [eZ _ _ (by simp only [leC,leN]; omega)]
   simp only [ab]
   try rw [bt (by omega) (by omega),ab]
   refine hJ _ ⟨by simp only; omega,by simp only; omega,by simp only [List.length_append,leC,leN]; omega,fun j hj=>?_⟩ (by simp only; omega)
   simp only at hj ⊢
   by_cases hji:j < xs.length
   ·rw [List.getElem_append_left hji]; exact a4 j hji
   ·have:j = i:=by simp only [List.length_append,leC,leN] at hj; omega
    subst this
    rw [List.getElem_append_right (by omega)]
    simp only [List.getElem_singleton]
    exact ⟨trivial,rfl,⟨y0,y1⟩,⟨g1,fun x hx=>⟨(g2 x hx).1,(g2 x hx).2.1⟩⟩,⟨v1,fun x hx=>⟨(v2 x hx).1,(v2 x hx).2.2⟩⟩,⟨by rw [q1],q2⟩⟩
  ·exact ⟨_,rfl,by omega,a4⟩
theorem roll_ok (n:Nat) (d:Ti) (m:Nat) (h1:1 <= m) (h2:m <= 9) (hn:200 < n):∃ r us,ab_p n d m = some r/\us.length = m/\RollOk r us:=by
 obtain ⟨r,us,e,h,h', _⟩:=iJ n d m h1 h2 hn
 exact ⟨r,us,e,h,h'⟩
end Go.Proofs.YtibdeoeglcngoaaGreatDoor
namespace Go.Proofs.YtibdeoeglcngoaaGreatDoor
open Go
theorem iw:(List.range 9).all (fun i=>decide (am_p FU (nm i) ⟨#[65,66,67,68,69,70,71,72,73,74,75,76,77,78,79,80,81,82,83,84,85,86,87,88,89,90,97,98,99,100,101,102,103,104,105,106,107,108,109,110,111,112,113,114,115,116,117,118,119,120,121,122,48,49,50,51,52,53,54,55,56,57,45,95]⟩ = some ⟨#[]⟩)) = true:=by kernel_rfl
theorem trim_nm {i:Nat} (h:i < 9):am_p FU (nm i) ⟨#[65,66,67,68,69,70,71,72,73,74,75,76,77,78,79,80,81,82,83,84,85,86,87,88,89,90,97,98,99,100,101,102,103,104,105,106,107,108,109,110,111,112,113,114,115,116,117,118,119,120,121,122,48,49,50,51,52,53,54,55,56,57,45,95]⟩ = some ⟨#[]⟩:=of_decide_eq_true (List.all_eq_true.1 iw i (List.mem_range.2 h))
theorem iN:am_p FU ⟨#[115,101,97]⟩ ⟨#[65,66,67,68,69,70,71,72,73,74,75,76,77,78,79,80,81,82,83,84,85,86,87,88,89,90,97,98,99,100,101,102,103,104,105,106,107,108,109,110,111,112,113,114,115,116,117,118,119,120,121,122,48,49,50,51,52,53,54,55,56,57,45,95]⟩ = some ⟨#[]⟩:=by kernel_rfl
theorem bf:(1000000:Nat) < FU:=by decide
theorem gd (r:Tf) (u:Tc) {i:Nat} (hi:i < 9) (hG:r.fh <= 6) (hP:r.fc <= 12) (hL:r.fe <= 3) (hn:u.fu = nm i) (h:ey r.fh r.fc r.fe u):bh_p FU r u = some true:=by
 obtain ⟨w,pp,g,v,q⟩:=h
 have hF:=bf
 unfold bh_p jn
 simp only
 rw [if_neg (by rw [w]; decide),hn,trim_nm hi,ab,bp FU _ _ _ g.1 g.2 (by omega),ab,bp FU _ _ _ v.1 (fun x hx=>⟨(v.2 x hx).1,by have:=(v.2 x hx).2; omega⟩) (by omega),ab,bp FU _ _ _ q.1 (fun x hx=>⟨(q.2 x hx).1,by have:=(q.2 x hx).2; omega⟩) (by omega),ab]
 rw [br FU _ ?_ (by simp only [leC,leN]; omega),ab]
 have e1:¬ nm i = ⟨#[]⟩:=fun e=>by have:=congrArg ByteArray.size e; exact absurd this (by show ¬ (3:Nat) = 0; decide)
 have e2:(nm i).size <= 12:=by show (3:Nat) <= 12; decide
 simp [e1,e2,pp.1]
 omega
theorem gU (r:Tf) (hG:0 <= r.fh/\r.fh <= 6) (hP:0 <= r.fc/\r.fc <= 12) (hL:0 <= r.fe/\r.fe <= 3):bh_p FU r (sea r.fh r.fc r.fe) = some true:=by
 have hF:=bf
 have z:∀ (n:Nat) (x:Int),x ∈ List.replicate n (0:Int) -> 0 <= x/\x <= 0:=fun n x hx=>by rw [(List.mem_replicate.1 hx).2]; omega
 unfold bh_p jn sea
 simp only
 rw [if_pos trivial,iN,ab,bp FU _ _ _ (by rw [List.length_replicate]; omega) (z _) (by rw [List.length_replicate]; omega),ab,bp FU _ _ ((0:Nat):Int) (by rw [List.length_replicate]; omega) (z _) (by rw [List.length_replicate]; omega),ab,bp FU _ _ ((0:Nat):Int) (by rw [List.length_replicate]; omega) (z _) (by rw [List.length_replicate]; omega),ab]
 rw [br FU _ ?_ (by simp only [leC,leN]; omega),ab]
 have e1:¬ (⟨#[115,101,97]⟩:ByteArray) = ⟨#[]⟩:=fun e=>by have:=congrArg ByteArray.size e; exact absurd this (by show ¬ (3:Nat) = 0; decide)
 have e2:(⟨#[115,101,97]⟩:ByteArray).size <= 12:=by show (3:Nat) <= 12; decide
 simp [e1,e2]
theorem RollOk.unit {r:Tf} {us:List Tc} (h:RollOk r us) {j:Nat} (hj:j < r.fq.length):(∃ h2:j < us.length,r.fq[j] = us[j]) ∨ (j = us.length/\r.fq[j] = sea r.fh r.fc r.fe):=by
 obtain ⟨G,P,L,U⟩:=r
 rcases h.all with e | e
 ·simp only at e hj ⊢
  subst e; exact .inl ⟨hj,rfl⟩
 ·simp only at e hj ⊢
  subst e
  by_cases h2:j < us.length
  ·exact .inl ⟨h2,List.getElem_append_left h2⟩
  ·have h3:j = us.length:=by simp only [List.length_append,leC,leN] at hj; omega
   subst h3
   exact .inr ⟨rfl,by rw [List.getElem_append_right (by omega)]; simp⟩
theorem RollOk.size {r:Tf} {us:List Tc} (h:RollOk r us):us.length <= r.fq.length/\r.fq.length <= us.length + 1:=by
 rcases h.all with e | e <;> rw [e] <;> simp
theorem ec (r:Tf) (us:List Tc) (h:RollOk r us):ay_p FU r = some 0:=by
 have hF:=bf
 have hs:=h.size
 have hl:=h.len
 have hg:=h.g
 have hp:=h.p
 have hv:=h.l
 unfold ay_p
 rw [br FU _ ?_ (by simp only [leC,leN]; omega),ab,if_pos rfl]
 ·have hh:=aw (B:=ay_l1 FU r) (fun s:Bool × Nat × List (ByteArray × Bool)=>r.fq.length - s.2.1)
   (fun s=>s.2.1 <= r.fq.length/\(s.2.1 <= us.length -> s.1 = false)/\∀ x,cS s.2.2 x ≠ none -> ∃ j,∃ hj:j < r.fq.length,j < s.2.1/\r.fq[j].fu = x) (fun r=>r = .inr ()) ?_ FU (false,0,[]) ⟨by simp,fun _=>rfl,fun x hx=>absurd rfl hx⟩ (by simp only; omega)
  ·obtain ⟨x,e,rfl⟩:=hh
   rw [e]; rfl
  ·rintro ⟨q,i,D⟩ J ⟨a1,a2,a3⟩ hJ
   simp only at a1 a2 a3 hJ
   unfold ay_l1
   simp only
   split
   ·rename_i hi
    have hnone:cS D r.fq[i].fu = none:=by
     rcases hm:cS D r.fq[i].fu with _ | b
     ·rfl
     ·exfalso
      obtain ⟨j,hj,hji,he⟩:=a3 r.fq[i].fu (by rw [hm]; simp)
      rcases h.unit hi with ⟨h2,e2⟩ | ⟨h2,e2⟩ <;> rcases h.unit hj with ⟨h3,e3⟩ | ⟨h3,e3⟩
      ·rw [e2,e3,(h.land i h2).1,(h.land j h3).1] at he
       have:=nm_inj (by omega) (by omega) he; omega
      ·omega
      ·rw [e2,e3,(h.land j h3).1] at he
       exact nm_sea he
      ·omega
    have hmD:ay D r.fq[i].fu false = false:=by unfold ay; rw [hnone]; rfl
    have next:∀ b,(i + 1 <= us.length -> b = false) -> ∃ x,J (b,i + 1,aN D r.fq[i].fu true) = some x/\x = .inr ():=fun b hb=>by
     refine hJ (b,i + 1,aN D r.fq[i].fu true) ⟨hi,hb,fun x hx=>?_⟩ (by simp only; omega)
     simp only at hx ⊢
     rw [cN] at hx
     by_cases hx2:x = r.fq[i].fu
     ·exact ⟨i,hi,by omega,hx2.symm⟩
     ·rw [if_neg hx2] at hx
      obtain ⟨j,hj,hji,he⟩:=a3 x hx
      exact ⟨j,hj,by omega,he⟩
    rw [geE hi,ab]
    rcases h.unit hi with ⟨h2,e2⟩ | ⟨h2,e2⟩
    ·have hu:=h.land i h2
     have hw:r.fq[i].ft = false:=by rw [e2]; exact hu.2.1
     have hq:q = false:=a2 (by omega)
     have hr:bh_p FU r r.fq[i] = some true:=by rw [e2]; exact gd r us[i] (by omega) (by omega) (by omega) (by omega) hu.1 hu.2
     rw [hr,ab,hw,if_neg (by decide),hmD,hq]
     by_cases h0:0 < i
     ·rw [if_pos h0,br FU _ (by simp) (by simp only [leC,leN]; omega),ab,if_pos rfl]
      exact next false fun _=>rfl
     ·rw [if_neg h0,br FU _ (by simp) (by simp only [leC,leN]; omega),ab,if_pos rfl]
      exact next false fun _=>rfl
    ·have hw:r.fq[i].ft = true:=by rw [e2]; rfl
     have hr:bh_p FU r r.fq[i] = some true:=by rw [e2]; exact gU r ⟨hg.1,by omega⟩ ⟨hp.1,by omega⟩ ⟨hv.1,by omega⟩
     rw [hr,ab,hw,if_pos rfl,hmD,if_pos (by omega),br FU _ (by simp) (by simp only [leC,leN]; omega),ab,if_pos rfl]
     exact next true fun h5=>by omega
   ·exact ⟨_,rfl,rfl⟩
 ·simp; omega
def tot (us:List Tc):Int:=(us.map (·.fx)).sum
end Go.Proofs.YtibdeoeglcngoaaGreatDoor
namespace Go.Proofs.YtibdeoeglcngoaaGreatDoor
open Go
set_option maxRecDepth 8000
theorem dq (l:List Bool) (hn:l.length <= 1000):aC_p FU l = some (decide (∀ b ∈ l,b = true)):=by
 have hF:=bf
 by_cases h:∀ b ∈ l,b = true
 ·rw [decide_eq_true h]; exact br FU l h (by omega)
 ·rw [decide_eq_false h]
  have hh:=aw (B:=al_l1 FU l false) (fun i:Nat=>l.length - i) (fun i=>i <= l.length/\∀ b ∈ l.take i,b = true) (fun r=>∃ j:Nat,r = .inl (j:Int)) ?_ FU 0 ⟨Nat.zero_le _,by simp⟩ (by omega)
  ·obtain ⟨r,e,j,rfl⟩:=hh
   unfold aC_p aD_p al_p
   rw [e]
   show (((some (j:Int)).bind fun y1=>some (decide (0 <= y1))).bind fun y1=>some (!y1)) = some false
   rw [ab,ab,decide_eq_true (by omega)]; rfl
  ·rintro i J ⟨hi,h2⟩ hJ
   unfold al_l1
   simp only
   split
   ·rename_i h0
    rw [geE h0,ab]
    rcases hb:l[i] with _ | _
    ·rw [if_pos (by decide)]; exact ⟨_,rfl,i,rfl⟩
    ·rw [if_neg (by decide)]
     refine hJ (i + 1) ⟨h0,fun b hb2=>?_⟩ (by omega)
     rw [List.take_succ_eq_append_getElem h0,List.mem_append,List.mem_singleton,hb] at hb2
     exact hb2.elim (h2 b) id
   ·rw [List.take_of_length_le (by omega)] at h2
    exact absurd h2 h
def Wi (l:List Int) (a aZ:Int):Prop:=(l.length:Int) = a/\∀ x ∈ l,0 <= x/\x <= aZ
instance (l:List Int) (a aZ:Int):Decidable (Wi l a aZ):=by unfold Wi; infer_instance
theorem cT (l:List Int) (a aZ:Int) (hn:l.length <= 1000):av_p FU l a aZ = some (decide (Wi l a aZ)):=by
 have hF:=bf
 unfold av_p
 by_cases hl:(l.length:Int) = a
 ·rw [if_pos hl]
  have hh:=aw (B:=av_l1 FU l aZ) (fun i:Nat=>l.length - i) (fun i=>i <= l.length/\∀ x ∈ l.take i,0 <= x/\x <= aZ) (fun r=>r = .inr ()/\Wi l a aZ ∨ r = .inl false/\¬ Wi l a aZ) ?_ FU 0 ⟨Nat.zero_le _,by simp⟩ (by omega)
  ·obtain ⟨r,e,hr⟩:=hh
   rw [e]
   rcases hr with ⟨rfl,hr⟩ | ⟨rfl,hr⟩
   ·rw [decide_eq_true hr]; rfl
   ·rw [decide_eq_false hr]; rfl
  ·rintro i J ⟨hi,h2⟩ hJ
   unfold av_l1 bF_p
   simp only
   split
   ·rename_i h0
    rw [geE h0,ab]
    by_cases h3:0 <= l[i]/\l[i] <= aZ
    ·rw [if_neg (by omega),ab,decide_eq_false (by omega),if_neg (by decide)]
     refine hJ (i + 1) ⟨h0,fun x hx=>?_⟩ (by omega)
     rw [List.take_succ_eq_append_getElem h0,List.mem_append,List.mem_singleton] at hx
     rcases hx with hx | rfl
     ·exact h2 x hx
     ·exact h3
    ·have hbad:¬ Wi l a aZ:=fun h=>h3 (h.2 _ (List.getElem_mem _))
     by_cases h4:l[i] < 0
     ·rw [if_pos h4,ab,if_pos rfl,decide_eq_true (Nat.zero_le _)]
      exact ⟨_,rfl,.inr ⟨rfl,hbad⟩⟩
     ·rw [if_neg h4,ab,decide_eq_true (by omega),if_pos rfl,decide_eq_true (Nat.zero_le _)]
      exact ⟨_,rfl,.inr ⟨rfl,hbad⟩⟩
   ·rw [List.take_of_length_le (by omega)] at h2
    exact ⟨_,rfl,.inl ⟨rfl,hl,h2⟩⟩
 ·rw [if_neg hl,decide_eq_false fun h=>hl h.1]
def NS:List ByteArray:=⟨#[115,101,97]⟩ :: (List.range 13).map nm
@[reducible] def ltrs:ByteArray:=⟨#[65,66,67,68,69,70,71,72,73,74,75,76,77,78,79,80,81,82,83,84,85,86,87,88,89,90,97,98,99,100,101,102,103,104,105,106,107,108,109,110,111,112,113,114,115,116,117,118,119,120,121,122,48,49,50,51,52,53,54,55,56,57,45,95]⟩
theorem ns_all:NS.all (fun b=>decide (am_p FU b ltrs = some ⟨#[]⟩) && !decide (b = ⟨#[]⟩) && decide (b.size <= 12)) = true:=by kernel_rfl
theorem ns_ok {b:ByteArray} (h:b ∈ NS):am_p FU b ltrs = some ⟨#[]⟩/\¬ b = ⟨#[]⟩/\b.size <= 12:=by
 have:=List.all_eq_true.1 ns_all b h
 simpa [Bool.and_eq_true,and_assoc] using this
def UV (r:Tf) (u:Tc):Prop:=0 <= u.fx/\u.fx <= (if u.ft = true then 0 else 1000000000)/\Wi u.fh r.fh u.fx/\Wi u.fA r.fc (if u.ft = true then 0 else 1000000000)/\Wi u.fB r.fe (if u.ft = true then 0 else 63)
instance (r:Tf) (u:Tc):Decidable (UV r u):=by unfold UV; infer_instance
structure Sm4 (u:Tc):Prop where
 n:u.fu ∈ NS
 g:u.fh.length <= 1000
 v:u.fA.length <= 1000
 q:u.fB.length <= 1000
theorem iP (r:Tf) (u:Tc) (h:Sm4 u):bh_p FU r u = some (decide (UV r u)):=by
 obtain ⟨n1,n3,n4⟩:=ns_ok h.n
 have key:∀ (V P:Nat),V = (if u.ft = true then 0 else 1000000000) -> P = (if u.ft = true then 0 else 63) -> ((am_p FU u.fu ltrs).bind fun y30=>(av_p FU u.fh r.fh u.fx).bind fun y31=>(av_p FU u.fA r.fc ((V:Nat):Int)).bind fun y32=>(av_p FU u.fB r.fe ((P:Nat):Int)).bind fun y33=>(aC_p FU ([(!(decide (u.fu = ⟨#[]⟩))),(decide (u.fu.size <= 12)),(decide (y30 = ⟨#[]⟩)),(decide (0 <= u.fx)),(decide (u.fx <= ((V:Nat):Int))),y31,y32,y33]:List Bool)).bind fun y40=>some y40) = some (decide (UV r u)):=by
  intro V P hV hP
  rw [n1,ab,cT _ _ _ h.g,ab,cT _ _ _ h.v,ab,cT _ _ _ h.q,ab,dq _ (by simp),ab]
  refine congrArg some (decide_eq_decide.2 ?_)
  have eV:((V:Nat):Int) = (if u.ft = true then 0 else 1000000000):=by rw [hV]; split <;> rfl
  have eP:((P:Nat):Int) = (if u.ft = true then 0 else 63):=by rw [hP]; split <;> rfl
  rw [eV,eP]
  unfold UV
  simp only [List.mem_cons,List.not_mem_nil,or_false,forall_eq_or_imp,forall_eq,Bool.not_eq_true', decide_eq_false_iff_not,decide_eq_true_eq]
  constructor
  ·rintro ⟨_,_,_,a,b,c,d,e⟩; exact ⟨a,b,c,d,e⟩
  ·rintro ⟨a,b,c,d,e⟩; exact ⟨n3,n4,trivial,a,b,c,d,e⟩
 unfold bh_p jn
 simp only
 by_cases hw:u.ft = true
 ·rw [if_pos hw]; exact key 0 0 (by rw [if_pos hw]) (by rw [if_pos hw])
 ·rw [if_neg hw]; exact key 1000000000 63 (by rw [if_neg hw]) (by rw [if_neg hw])
structure RV (r:Tf):Prop where
 g:0 <= r.fh/\r.fh <= 6
 p:0 <= r.fc/\r.fc <= 12
 l:0 <= r.fe/\r.fe <= 3
 n:1 <= r.fq.length/\r.fq.length <= 64
 u:∀ i (h:i < r.fq.length),UV r r.fq[i]
 nm:∀ i (h:i < r.fq.length) j (h' : j < i),r.fq[j].fu ≠ r.fq[i].fu
 w:∀ i (h:i < r.fq.length) j (h' : j < i),r.fq[j].ft = true -> r.fq[i].ft = true
 z:∀ h:0 < r.fq.length,r.fq[0].ft = false
open Classical in
theorem cz (r:Tf) (h:∀ u ∈ r.fq,Sm4 u):ay_p FU r = some (if RV r then 0 else 161):=by
 have hF:=bf
 unfold ay_p
 rw [dq _ (by simp),ab]
 by_cases h0:((0 <= r.fh/\r.fh <= 6)/\(0 <= r.fc/\r.fc <= 12)/\(0 <= r.fe/\r.fe <= 3)/\1 <= r.fq.length/\r.fq.length <= 64)
 ·rw [if_pos]
  ·have hh:=aw (B:=ay_l1 FU r) (fun s:Bool × Nat × List (ByteArray × Bool)=>r.fq.length - s.2.1)
    (fun s=>s.2.1 <= r.fq.length/\(s.2.1 = 0 -> s.1 = false)/\(∀ h:0 < s.2.1,∀ h' : s.2.1 - 1 < r.fq.length,s.1 = r.fq[s.2.1 - 1].ft)/\(∀ x,ay s.2.2 x false = true ↔ ∃ j,∃ hj:j < r.fq.length,j < s.2.1/\r.fq[j].fu = x)/\
     (∀ i (h:i < r.fq.length),i < s.2.1 -> UV r r.fq[i])/\(∀ i (h:i < r.fq.length) j (h' : j < i),i < s.2.1 -> r.fq[j].fu ≠ r.fq[i].fu)/\(∀ i (h:i < r.fq.length) j (h' : j < i),i < s.2.1 -> r.fq[j].ft = true -> r.fq[i].ft = true)/\(∀ h:0 < r.fq.length,0 < s.2.1 -> r.fq[0].ft = false))
    (fun y=>y = .inr ()/\RV r ∨ y = .inl 161/\¬ RV r) ?_ FU (false,0,[]) ⟨Nat.zero_le _,fun _=>rfl,fun h=>absurd h (by simp),fun x=>⟨fun hx=>by simp [ay,cS] at hx,fun ⟨j,_,hj,_⟩=>by simp at hj⟩,fun i _ hi=>by simp at hi,fun i _ j _ hi=>by simp at hi,fun i _ j _ hi=>by simp at hi,fun _ hi=>by simp at hi⟩ (by simp only; omega)
   ·obtain ⟨y,e,hy⟩:=hh
    rw [e]
    rcases hy with ⟨rfl,hv⟩ | ⟨rfl,hv⟩
    ·rw [if_pos hv]; rfl
    ·rw [if_neg hv]; rfl
   ·rintro ⟨q,i,D⟩ J ⟨a1,a2,a3,a4,a5,a6,a7,a8⟩ hJ
    simp only at a1 a2 a3 a4 a5 a6 a7 a8 hJ
    unfold ay_l1
    simp only
    by_cases hi:i < r.fq.length
    ·rw [if_pos hi,geE hi,ab,iP r _ (h _ (List.getElem_mem _)),ab]
     -- what has to hold of this unit
     have good:UV r r.fq[i] -> ay D r.fq[i].fu false = false -> (q = true -> r.fq[i].ft = true) -> (i = 0 -> r.fq[i].ft = false) -> ∃ y,J (r.fq[i].ft,i + 1,aN D r.fq[i].fu true) = some y/\(y = .inr ()/\RV r ∨ y = .inl 161/\¬ RV r):=by
      intro g1 g2 g3 g4
      have gn:∀ j (hj:j < i),r.fq[j].fu ≠ r.fq[i].fu:=fun j hj e=>by
       have:=(a4 r.fq[i].fu).2 ⟨j,by omega,hj,e⟩
       rw [g2] at this; cases this
      have gw:∀ j (hj:j < i),r.fq[j].ft = true -> r.fq[i].ft = true:=fun j hj hw=>by
       refine g3 ?_
       rw [a3 (by omega) (by omega)]
       by_cases e:j = i - 1
       ·subst e; exact hw
       ·exact a7 (i - 1) (by omega) j (by omega) (by omega) hw
      refine hJ _ ⟨hi,fun e=>absurd e (by simp),fun _ h' =>rfl,fun x=>?_,fun k hk hki=>?_,fun k hk j hj hki=>?_,fun k hk j hj hki=>?_,fun hk _=>?_⟩ (by simp only; omega)
      ·simp only
       unfold ay
       rw [cN]
       have:=a4 x
       unfold ay at this
       by_cases e:x = r.fq[i].fu
       ·rw [if_pos e]
        exact ⟨fun _=>⟨i,hi,by omega,e.symm⟩,fun _=>rfl⟩
       ·rw [if_neg e,this]
        constructor
        ·rintro ⟨j,hj,hji,ej⟩; exact ⟨j,hj,by omega,ej⟩
        ·rintro ⟨j,hj,hji,ej⟩
         by_cases e2:j = i
         ·subst e2; exact absurd ej.symm e
         ·exact ⟨j,hj,by omega,ej⟩
      ·by_cases e:k = i
       ·subst e; exact g1
       ·exact a5 k hk (by simp only at hki; omega)
      ·by_cases e:k = i
       ·subst e; exact gn j hj
       ·exact a6 k hk j hj (by simp only at hki; omega)
      ·by_cases e:k = i
       ·subst e; exact gw j hj
       ·exact a7 k hk j hj (by simp only at hki; omega)
      ·by_cases e:i = 0
       ·subst e; exact g4 rfl
       ·exact a8 hk (by omega)
     have bad:(¬ UV r r.fq[i] ∨ ay D r.fq[i].fu false = true ∨ (q = true/\r.fq[i].ft = false) ∨ (i = 0/\r.fq[i].ft = true)) -> ¬ RV r:=by
      rintro hb hv
      rcases hb with hb | hb | ⟨hb,hb2⟩ | ⟨hb,hb2⟩
      ·exact hb (hv.u i hi)
      ·obtain ⟨j,hj,hji,e⟩:=(a4 _).1 hb
       exact hv.nm i hi j hji e
      ·by_cases e:i = 0
       ·rw [a2 e] at hb; cases hb
       ·have:=hv.w i hi (i - 1) (by omega) (by rw [<- a3 (by omega) (by omega)]; exact hb)
        rw [hb2] at this; cases this
      ·subst hb
       have:=hv.z hi
       rw [hb2] at this; cases this
     have fin:∀ l:List Bool,l.length <= 1000 -> ((∀ b ∈ l,b = true) ↔ (UV r r.fq[i]/\ay D r.fq[i].fu false = false/\(q = true -> r.fq[i].ft = true)/\(i = 0 -> r.fq[i].ft = false))) -> ∃ y,((aC_p FU l).bind fun y=>(if y = true then J (r.fq[i].ft,i + 1,aN D r.fq[i].fu true) else some (.inl (161:Int)))) = some y/\(y = .inr ()/\RV r ∨ y = .inl 161/\¬ RV r):=by
      intro l hl hiff
      rw [dq l hl,ab]
      by_cases hq:∀ b ∈ l,b = true
      ·rw [if_pos (decide_eq_true hq)]
       obtain ⟨g1,g2,g3,g4⟩:=hiff.1 hq
       exact good g1 g2 g3 g4
      ·rw [if_neg (by simpa using hq)]
       refine ⟨_,rfl,.inr ⟨rfl,bad ?_⟩⟩
       refine Classical.byContradiction fun hc=>hq (hiff.2 ?_)
       simp only [not_or,not_and,Bool.not_eq_true,Classical.not_not] at hc
       obtain ⟨c1,c2,c3,c4⟩:=hc
       refine ⟨c1,c2,fun e=>?_,fun e=>?_⟩
       ·rcases hww:r.fq[i].ft with _ | _
        ·exact absurd hww (by simpa using c3 e)
        ·rfl
       ·simpa using c4 e
     rcases hw:r.fq[i].ft with _ | _
     ·rw [if_neg (by decide)]
      by_cases hp:0 < i
      ·rw [if_pos hp]
       have:=fin [decide (UV r r.fq[i]),!(ay D r.fq[i].fu false),!q,true] (by simp) (by
        rw [hw]
        simp only [List.mem_cons,List.not_mem_nil,or_false,forall_eq_or_imp,forall_eq,Bool.not_eq_true', decide_eq_true_eq]
        constructor
        ·rintro ⟨b1,b2,b3,_⟩; exact ⟨b1,b2,fun e=>(by rw [e] at b3; cases b3),fun _=>trivial⟩
        ·rintro ⟨b1,b2,b3,_⟩; exact ⟨b1,b2,by rcases q with _ | _; rfl; exact absurd (b3 rfl) (by decide),trivial⟩)
       rw [hw] at this
       exact this
      ·rw [if_neg hp]
       have:=fin [decide (UV r r.fq[i]),!(ay D r.fq[i].fu false),!q,!r.fq[i].ft] (by simp) (by
        rw [hw]
        simp only [List.mem_cons,List.not_mem_nil,or_false,forall_eq_or_imp,forall_eq,Bool.not_eq_true', decide_eq_true_eq]
        constructor
        ·rintro ⟨b1,b2,b3,_⟩; exact ⟨b1,b2,fun e=>(by rw [e] at b3; cases b3),fun _=>trivial⟩
        ·rintro ⟨b1,b2,b3,_⟩; exact ⟨b1,b2,by rcases q with _ | _; rfl; exact absurd (b3 rfl) (by decide),trivial⟩)
       rw [hw] at this
       exact this
     ·rw [if_pos rfl]
      by_cases hp:0 < i
      ·rw [if_pos hp]
       have:=fin [decide (UV r r.fq[i]),!(ay D r.fq[i].fu false),true,true] (by simp) (by
        rw [hw]
        simp only [List.mem_cons,List.not_mem_nil,or_false,forall_eq_or_imp,forall_eq,Bool.not_eq_true', decide_eq_true_eq]
        constructor
        ·rintro ⟨b1,b2,_,_⟩; exact ⟨b1,b2,fun _=>trivial,fun e=>by omega⟩
        ·rintro ⟨b1,b2,_,_⟩; exact ⟨b1,b2,trivial,trivial⟩)
       rw [hw] at this
       exact this
      ·rw [if_neg hp]
       have:=fin [decide (UV r r.fq[i]),!(ay D r.fq[i].fu false),true,!r.fq[i].ft] (by simp) (by
        rw [hw]
        simp only [List.mem_cons,List.not_mem_nil,or_false,forall_eq_or_imp,forall_eq,Bool.not_eq_true', decide_eq_true_eq]
        constructor
        ·rintro ⟨_,_,_,b4⟩; cases b4
        ·rintro ⟨_,_,_,b4⟩; exact absurd (b4 (by omega)) (by decide))
       rw [hw] at this
       exact this
    ·rw [if_neg hi]
     refine ⟨_,rfl,.inl ⟨rfl,h0.1,h0.2.1,h0.2.2.1,h0.2.2.2,fun i hi2=>a5 i hi2 (by omega),fun i hi2 j hj=>a6 i hi2 j hj (by omega),fun i hi2 j hj=>a7 i hi2 j hj (by omega),fun hi2=>a8 hi2 (by omega)⟩⟩
  ·simp only [List.mem_cons,List.not_mem_nil,or_false,forall_eq_or_imp,forall_eq,decide_eq_true_eq]
   omega
 ·rw [if_neg,if_neg fun hv:RV r=>h0 ⟨hv.g,hv.p,hv.l,hv.n⟩]
  simp only [List.mem_cons,List.not_mem_nil,or_false,forall_eq_or_imp,forall_eq,decide_eq_true_eq]
  omega
end Go.Proofs.YtibdeoeglcngoaaGreatDoor
namespace Go.Proofs.YtibdeoeglcngoaaGreatDoor
open Go
theorem cO {κ ν:Type} [DecidableEq κ]:∀ (D:List (κ × ν)) (k:κ) (v:ν),(aN D k v).map Prod.fst = if k ∈ D.map Prod.fst then D.map Prod.fst else D.map Prod.fst ++ [k]
 | [],k,v=>by simp [aN]
 | e :: D,k,v=>by
  unfold aN
  by_cases h:k = e.1
  ·rw [if_pos h]; simp [h]
  ·rw [if_neg h]
   simp only [List.map_cons,cO D k v,List.mem_cons]
   by_cases h2:k ∈ D.map Prod.fst
   ·simp [h2]
   ·rw [if_neg h2,if_neg (by rintro (h3 | h3); exact h h3; exact h2 h3)]; rfl
theorem gE {l:List Int} {k:Int} (hk:0 <= k) (hn:l.Nodup) (h:∀ x,x ∈ l ↔ 0 <= x/\x < k):(l.length:Int) = k:=by
 have h2:((List.range k.toNat).map fun i:Nat=>(i:Int)).Nodup:=by
  unfold List.Nodup
  exact List.Pairwise.map _ (fun a b hab=>by omega) List.nodup_range
 have h3:l.length <= ((List.range k.toNat).map fun i:Nat=>(i:Int)).length:=hn.length_le_of_subset fun x hx=>List.mem_map.2 ⟨x.toNat,List.mem_range.2 (by have:=(h x).1 hx; omega),by have:=(h x).1 hx; omega⟩
 have h4:((List.range k.toNat).map fun i:Nat=>(i:Int)).length <= l.length:=h2.length_le_of_subset fun x hx=>by
  obtain ⟨i,hi,rfl⟩:=List.mem_map.1 hx
  have:=List.mem_range.1 hi
  exact (h _).2 ⟨by omega,by omega⟩
 rw [List.length_map,List.length_range] at h3 h4
 omega
end Go.Proofs.YtibdeoeglcngoaaGreatDoor
namespace Go.Proofs.YtibdeoeglcngoaaGreatDoor
open Go
set_option maxRecDepth 8000
structure Lnd (r:Tf) (us:List Tc):Prop where
 all:∃ ws,r.fq = us ++ ws/\∀ u ∈ ws,u.ft = true
 w:∀ u ∈ us,u.ft = false
theorem Lnd.at {r:Tf} {us:List Tc} (h:Lnd r us) {i:Nat} (hi:i < r.fq.length):(∃ h2:i < us.length,r.fq[i] = us[i]/\r.fq[i].ft = false) ∨ us.length <= i/\r.fq[i].ft = true:=by
 obtain ⟨ws,e,hw⟩:=h.all
 have hz:r.fq.length = us.length + ws.length:=by rw [e,List.length_append]
 by_cases h2:i < us.length
 ·have e0:r.fq[i] = us[i]:=by simp only [e]; exact List.getElem_append_left h2
  exact .inl ⟨h2,e0,by rw [e0]; exact h.w _ (List.getElem_mem _)⟩
 ·refine .inr ⟨by omega,hw _ ?_⟩
  have:r.fq[i] = ws[i - us.length]'(by omega):=by simp only [e]; exact List.getElem_append_right (by omega)
  rw [this]; exact List.getElem_mem _
theorem Lnd.le {r:Tf} {us:List Tc} (h:Lnd r us):us.length <= r.fq.length:=by
 obtain ⟨ws,e,_⟩:=h.all
 rw [e,List.length_append]; omega
def er (p:List Int) (n:Nat) (k:Int):Prop:=p.length = n/\bz p k
theorem dw (e:Int):ai_p FU false e = some (.ok ()):=rfl
theorem eH:ai_p FU true 220 = some (.error ⟨220⟩):=rfl
theorem eW {l:List Int} {k:Int} (hk:0 <= k) (hn:l.Nodup) (h:∀ x ∈ l,0 <= x/\x < k) (hl:(l.length:Int) = k):∀ d,0 <= d -> d < k -> d ∈ l:=fun d d0 d1=>by
 refine Classical.byContradiction fun hd=>?_
 have h2:((List.range k.toNat).map fun i:Nat=>(i:Int)).Nodup:=by
  unfold List.Nodup
  exact List.Pairwise.map _ (fun a b hab=>by omega) List.nodup_range
 have h3:(d :: l).length <= ((List.range k.toNat).map fun i:Nat=>(i:Int)).length:=(List.nodup_cons.2 ⟨hd,hn⟩).length_le_of_subset fun x hx=>by
  have hx2:0 <= x/\x < k:=by
   rcases List.mem_cons.1 hx with rfl | hx
   ·exact ⟨d0,d1⟩
   ·exact h x hx
  exact List.mem_map.2 ⟨x.toNat,List.mem_range.2 (by omega),by omega⟩
 rw [leC,List.length_map,List.length_range] at h3
 omega
theorem used_eq (r:Tf) (p:List Int) (k:Int) (hl:p.length <= 1000):∃ y,ap (ae_l1 FU p ⟨r,k⟩) FU (0,[]) = some y/\((∃ D:List (Int × Bool),y = .inr D/\(∀ x ∈ p,0 <= x/\x < k)/\(D.map Prod.fst).Nodup/\∀ x,x ∈ D.map Prod.fst ↔ x ∈ p) ∨ y = .inl (.error ⟨220⟩)/\¬ ∀ x ∈ p,0 <= x/\x < k):=by
 have hF:=bf
 refine aw (B:=ae_l1 FU p ⟨r,k⟩) (fun s:Nat × List (Int × Bool)=>p.length - s.1) (fun s=>s.1 <= p.length/\(∀ x ∈ p.take s.1,0 <= x/\x < k)/\(s.2.map Prod.fst).Nodup/\∀ x,x ∈ s.2.map Prod.fst ↔ x ∈ p.take s.1) _ ?_ FU (0,[]) ⟨by simp,by simp,by simp,by simp⟩ (by simp only; omega)
 rintro ⟨i,D⟩ J ⟨a1,a0,a2,a3⟩ hJ
 simp only at a0 a1 a2 a3 hJ
 unfold ae_l1
 simp only
 by_cases hi:i < p.length
 ·rw [if_pos hi,geE hi,ab]
  by_cases hx:0 <= p[i]/\p[i] < k
  ·rw [if_neg (by omega),decide_eq_false (by omega),dw, ab]
   unfold exc
   simp only
   refine hJ _ ⟨hi,fun x hx2=>?_,?_,fun x=>?_⟩ (by simp only; omega)
   ·simp only at hx2
    rw [List.take_succ_eq_append_getElem hi,List.mem_append,List.mem_singleton] at hx2
    rcases hx2 with hx2 | rfl
    ·exact a0 x hx2
    ·exact hx
   ·simp only
    rw [cO]
    split
    ·exact a2
    ·rename_i h5
     rw [List.nodup_append]
     exact ⟨a2,by simp,fun a ha b hb=>by rw [List.mem_singleton.1 hb]; exact fun e=>h5 (e ▸ ha)⟩
   ·simp only
    rw [cO,<- List.take_append_getElem hi,List.mem_append,<- a3 x,List.mem_singleton]
    split
    ·rename_i h5
     constructor
     ·exact .inl
     ·rintro (h6 | rfl)
      ·exact h6
      ·exact h5
    ·rw [List.mem_append,List.mem_singleton]
  ·have hbad:¬ ∀ x ∈ p,0 <= x/\x < k:=fun h=>hx (h _ (List.getElem_mem _))
   by_cases h1:p[i] < 0
   ·rw [if_pos h1,eH,ab]
    exact ⟨_,rfl,.inr ⟨rfl,hbad⟩⟩
   ·rw [if_neg h1,decide_eq_true (by omega),eH,ab]
    exact ⟨_,rfl,.inr ⟨rfl,hbad⟩⟩
 ·rw [if_neg hi]
  rw [List.take_of_length_le (by omega)] at a0 a3
  exact ⟨_,rfl,.inl ⟨D,rfl,a0,a2,a3⟩⟩
open Classical in
theorem gX (r:Tf) (p:List Int) (k:Int) (hk:1 <= k) (hl:p.length <= 1000):(thn (ap (ae_l1 FU p ⟨r,k⟩) FU (0,[])) (fun D443=>(ai_p FU (!(decide (((D443.length:Nat):Int) = k))) (220:Int)).bind fun y497=>exc y497 (fun _=>some (Except.ok ())) (fun e498=>some (.error e498)))) = some (if bz p k then .ok () else .error ⟨220⟩):=by
 obtain ⟨y,e,hy⟩:=used_eq r p k hl
 rw [e]
 rcases hy with ⟨D,rfl,h1,h2,h3⟩ | ⟨rfl,h1⟩
 ·unfold thn
  simp only
  by_cases hD:(D.length:Int) = k
  ·rw [decide_eq_true hD]
   have hp:bz p k:=⟨h1,fun d d0 d1=>(h3 d).1 (eW (by omega) h2 (fun x hx=>h1 x ((h3 x).1 hx)) (by rw [List.length_map]; exact hD) d d0 d1)⟩
   rw [if_pos hp]; rfl
  ·rw [decide_eq_false hD]
   have hp:¬ bz p k:=fun hp=>hD (by
    have:=gE (l:=D.map Prod.fst) (k:=k) (by omega) h2 fun x=>by
     rw [h3 x]; exact ⟨fun hx=>hp.1 x hx,fun hx=>hp.2 x hx.1 hx.2⟩
    rwa [List.length_map] at this)
   rw [if_neg hp]; rfl
 ·have hp:¬ bz p k:=fun hp=>h1 hp.1
  rw [if_neg hp]; rfl
open Classical in
theorem iH {r:Tf} {us:List Tc} (h:Lnd r us) (hn:r.fq.length <= 1000) (p:List Int) (k:Int) (hk:1 <= k) (hl:p.length <= 1000):ae_p FU ⟨r,k⟩ p = some (if er p us.length k then .ok () else .error ⟨220⟩):=by
 have hF:=bf
 have hle:=h.le
 have lab:=gX r p k hk hl
 have tailOk:∀ z:Int,z = us.length -> ((ai_p FU (!(decide (((p.length:Nat):Int) = z))) (220:Int)).bind fun y182=>exc y182 (fun _=>thn (ap (ae_l1 FU p ⟨r,k⟩) FU (0,([]:List (Int × Bool)))) (fun D265=>(ai_p FU (!(decide (((D265.length:Nat):Int) = k))) (220:Int)).bind fun y319=>exc y319 (fun _=>some (Except.ok ())) (fun e320=>some (.error e320)))) (fun e183=>some (.error e183))) = some (if er p us.length k then .ok () else .error ⟨220⟩):=by
  rintro z rfl
  by_cases hz:((p.length:Nat):Int) = us.length
  ·rw [decide_eq_true hz]
   simp only [Bool.not_true]
   rw [dw, ab]
   unfold exc
   simp only
   refine lab.trans ?_
   by_cases hp:bz p k
   ·rw [if_pos hp,if_pos ⟨by omega,hp⟩]
   ·rw [if_neg hp,if_neg fun hf:er p us.length k=>hp hf.2]
  ·rw [decide_eq_false hz,if_neg fun hf:er p us.length k=>hz (by rw [hf.1])]
   rfl
 have hh:=aw (B:=ae_l3 FU ⟨r,k⟩ p) (fun s:Nat × Int=>r.fq.length - s.1) (fun s=>s.1 <= us.length/\s.2 = s.1) (fun y=>y = .inl (if er p us.length k then .ok () else .error ⟨220⟩) ∨ y = .inr (us.length:Int)) ?_ FU (0,0) ⟨by simp,by simp⟩ (by simp only; omega)
 ·obtain ⟨y,e,hy⟩:=hh
  unfold ae_p
  rw [e]
  rcases hy with rfl | rfl
  ·rfl
  ·exact tailOk _ rfl
 ·rintro ⟨i,z⟩ J ⟨a1,a2⟩ hJ
  simp only at a1 a2 hJ
  subst a2
  unfold ae_l3
  simp only
  by_cases hi:i < r.fq.length
  ·rw [if_pos hi,geE hi,ab]
   rcases h.at hi with ⟨h2,_,hw⟩ | ⟨h2,hw⟩
   ·rw [if_neg (by rw [hw]; decide),bt (by omega) (by omega),ab]
    exact hJ _ ⟨by simp only; omega,by simp only; omega⟩ (by simp only; omega)
   ·rw [if_pos hw]
    refine ⟨.inl (if er p us.length k then .ok () else .error ⟨220⟩),?_,.inl rfl⟩
    exact congrArg (Option.map _) (tailOk (i:Int) (by omega))
  ·rw [if_neg hi]
   exact ⟨_,rfl,.inr (by rw [show i = us.length by omega])⟩
open Classical in
theorem fH {r:Tf} (hS:∀ u ∈ r.fq,Sm4 u) (p:List Int) (k:Int) (hk:1 <= k) (hk8:k <= 8) (hl:p.length <= 1000) (us:List Tc) (hL:RV r -> Lnd r us):bM_p FU r p k = some (if RV r then if er p us.length k then 0 else 220 else 161):=by
 unfold bM_p bz_p bx_p
 rw [cz r hS,ab]
 by_cases hv:RV r
 ·have hn:=hv.n
  rw [if_pos hv,if_pos hv]
  unfold bw_p
  rw [if_pos rfl,ab]
  unfold exc
  simp only
  rw [if_neg (by omega),decide_eq_false (by omega),dw, ab]
  simp only
  rw [ab]
  simp only
  rw [iH (hL hv) (by omega) p k hk hl]
  by_cases hf:er p us.length k
  ·rw [if_pos hf,if_pos hf]; rfl
  ·rw [if_neg hf,if_neg hf]; rfl
 ·rw [if_neg hv,if_neg hv]
  rfl
end Go.Proofs.YtibdeoeglcngoaaGreatDoor
namespace Go.Proofs.YtibdeoeglcngoaaGreatDoor
open Go
set_option maxRecDepth 8000
structure D0 (r:Tf):Prop where
 n:r.fq.length <= 13
 s:∀ u ∈ r.fq,Sm4 u
 k:∀ u ∈ r.fq,u.fA.length <= 100/\u.fh.length <= 100
 q:∀ u ∈ r.fq,∀ x ∈ u.fB,0 <= x/\x <= 2
theorem nm_ns {i:Nat} (h:i < 13):nm i ∈ NS:=List.mem_cons_of_mem _ (List.mem_map.2 ⟨i,List.mem_range.2 h,rfl⟩)
theorem idxK {α:Type} {xs:List α} {j:Nat} (h:j < xs.length):idx xs (j:Int) = some xs[j]:=bX (i:=(j:Int)) (by omega) h
structure Dn (r:Tf):Prop where
 n:r.fq.length <= 13
 s:∀ u ∈ r.fq,Sm4 u
end Go.Proofs.YtibdeoeglcngoaaGreatDoor
namespace Go.Proofs.YtibdeoeglcngoaaGreatDoor
open Go
set_option maxRecDepth 8000
theorem exO {ε α β:Type} (x:α) (f:α -> Option β) (g:ε -> Option β):exc (.ok x) f g = f x:=rfl
theorem gh {r:Tf} {us:List Tc} (hv:RV r) (h:Lnd r us) {i:Nat} (hi:i < us.length):∃ h2:i < r.fq.length,r.fq[i] = us[i]/\UV r us[i]:=by
 obtain ⟨ws,e,_⟩:=h.all
 have hi2:i < r.fq.length:=by rw [e,List.length_append]; omega
 have h1:=hv.u i hi2
 have e0:r.fq[i] = us[i]:=by simp only [e]; exact List.getElem_append_left hi
 rw [e0] at h1
 exact ⟨hi2,e0,h1⟩
theorem iS {α:Type} {l:List α} {i:Nat} {x:α} (h:l[i]? = some x):l.take (i + 1) = l.take i ++ [x]:=by
 obtain ⟨hi,rfl⟩:=List.getElem?_eq_some_iff.1 h
 exact List.take_succ_eq_append_getElem hi
def Vu (P:Nat) (u:Tc):Prop:=u.fA.length = P/\∀ x ∈ u.fA,0 <= x/\x <= 1000000000
theorem vu_of {r:Tf} {u:Tc} {P:Nat} (hP:r.fc = P) (h:UV r u):Vu P u:=by
 obtain ⟨w1,w2⟩:=h.2.2.2.1
 exact ⟨by omega,fun x hx=>by have:=w2 x hx; split at this <;> omega⟩
def bH (a b:List Int):List Int:=List.zipWith (· + ·) a b
theorem eL {a b:List Int} {P:Nat} (h1:a.length = P) (h2:b.length = P):(bH a b).length = P:=by unfold bH; rw [List.length_zipWith]; omega
def vd (us:List Tc) (p:List Int) (P:Nat) (d:Int):Nat -> List Int
 | 0=>List.replicate P 0
 | i + 1=>if p[i]? = some d then bH (vd us p P d i) ((us[i]?.map (·.fA)).getD []) else vd us p P d i
theorem ix {us:List Tc} {p:List Int} {P i:Nat} {d:Int} (h1:i < us.length) (h:p[i]? = some d):vd us p P d (i + 1) = bH (vd us p P d i) us[i].fA:=by
 show (if p[i]? = some d then bH (vd us p P d i) ((us[i]?.map (·.fA)).getD []) else vd us p P d i) = _
 rw [if_pos h,geE h1]; rfl
theorem vd_no {us:List Tc} {p:List Int} {P i:Nat} {d:Int} (h:p[i]? ≠ some d):vd us p P d (i + 1) = vd us p P d i:=by
 show (if p[i]? = some d then bH (vd us p P d i) ((us[i]?.map (·.fA)).getD []) else vd us p P d i) = _
 rw [if_neg h]
theorem eT {us:List Tc} {P:Nat} (hU:∀ u ∈ us,Vu P u) (p:List Int) (d:Int):∀ i ≤ us.length,(vd us p P d i).length = P/\∀ x ∈ vd us p P d i,0 <= x/\x <= (i:Int) * 1000000000
 | 0,_=>⟨by simp [vd],fun x hx=>by rw [List.eq_of_mem_replicate hx]; omega⟩
 | i + 1,hi=>by
  obtain ⟨l1,l2⟩:=eT hU p d i (by omega)
  have hu:=hU us[i] (List.getElem_mem _)
  by_cases h:p[i]? = some d
  ·rw [ix (by omega) h]
   refine ⟨eL l1 hu.1,fun x hx=>?_⟩
   obtain ⟨j,hj,rfl⟩:=List.getElem_of_mem hx
   unfold bH at hj ⊢
   rw [List.length_zipWith] at hj
   rw [List.getElem_zipWith]
   have h1:=l2 _ (List.getElem_mem (show j < (vd us p P d i).length by omega))
   have h2:=hu.2 _ (List.getElem_mem (show j < us[i].fA.length by omega))
   omega
  ·rw [vd_no h]
   exact ⟨l1,fun x hx=>by have:=l2 x hx; omega⟩
def vts (us:List Tc) (p:List Int) (P k i:Nat):List (List Int):=(List.range k).map fun d:Nat=>vd us p P (d:Int) i
theorem bA (us:List Tc) (p:List Int) (P k i:Nat):(vts us p P k i).length = k:=by unfold vts; simp
theorem cR (us:List Tc) (p:List Int) (P:Nat) {k d:Nat} (i:Nat) (h:d < k):(vts us p P k i)[d]? = some (vd us p P (d:Int) i):=by
 unfold vts
 rw [List.getElem?_map,List.getElem?_range h]; rfl
def Part (a b row:List Int) (j:Nat):Prop:=row.length = a.length/\∀ c:Nat,c < a.length -> row[c]? = some ((a[c]?.getD 0) + if c < j then b[c]?.getD 0 else 0)
theorem Part.done {a b row:List Int} (h:Part a b row b.length) (hl:a.length = b.length):row = bH a b:=by
 apply List.ext_getElem?
 intro c
 unfold bH
 rw [List.getElem?_zipWith]
 by_cases hc:c < a.length
 ·rw [h.2 c hc,if_pos (by omega),geE hc,geE (show c < b.length by omega)]; rfl
 ·rw [List.getElem?_eq_none (by rw [h.1]; omega),List.getElem?_eq_none (show a.length <= c by omega)]
theorem Part.zero (a b:List Int):Part a b a 0:=⟨rfl,fun c hc=>by rw [if_neg (by omega),geE hc]; simp⟩
theorem Part.step {a b row:List Int} {j:Nat} (h:Part a b row j) (hj:j < a.length) (hb:j < b.length):Part a b (row.set j (a[j] + b[j])) (j + 1):=by
 refine ⟨by rw [List.length_set]; exact h.1,fun c hc=>?_⟩
 rw [List.getElem?_set]
 by_cases hjc:j = c
 ·subst hjc
  rw [if_pos rfl,if_pos (by rw [h.1]; exact hj),if_pos (by omega),geE hj,geE hb]; rfl
 ·rw [if_neg hjc,h.2 c hc]
  by_cases hlt:c < j
  ·rw [if_pos hlt,if_pos (by omega)]
  ·rw [if_neg hlt,if_neg (by omega)]
theorem Part.at {a b row:List Int} {j:Nat} (h:Part a b row j) (hj:j < a.length):row[j]? = some a[j]:=by
 rw [h.2 j hj,if_neg (by omega),geE hj]; simp
structure Cn (r:Tf) (us:List Tc) (p:List Int) (k P:Nat):Prop where
 v:RV r
 l:Lnd r us
 f:er p us.length (k:Int)
 k1:1 <= k
 k8:k <= 8
 P:r.fc = P
theorem Cn.vu {r:Tf} {us:List Tc} {p:List Int} {k P:Nat} (h:Cn r us p k P):∀ u ∈ us,Vu P u:=fun u hu=>by
 obtain ⟨i,hi,rfl⟩:=List.getElem_of_mem hu
 obtain ⟨_,_,h1⟩:=gh h.v h.l hi
 exact vu_of h.P h1
theorem Cn.m {r:Tf} {us:List Tc} {p:List Int} {k P:Nat} (h:Cn r us p k P):us.length <= 64:=Nat.le_trans h.l.le h.v.n.2
theorem Cn.p12 {r:Tf} {us:List Tc} {p:List Int} {k P:Nat} (h:Cn r us p k P):P <= 12:=by have:=h.v.p; have:=h.P; omega
theorem Cn.at {r:Tf} {us:List Tc} {p:List Int} {k P:Nat} (h:Cn r us p k P) {i:Nat} (hi:i < p.length):∃ d:Nat,p[i] = (d:Int)/\d < k/\i < us.length:=by
 have hx:=h.f.2.1 p[i] (List.getElem_mem hi)
 have:=h.f.1
 exact ⟨p[i].toNat,by omega,by omega,by omega⟩
theorem row_ok {r:Tf} {us:List Tc} {p:List Int} {k P:Nat} (h:Cn r us p k P) {i d:Nat} (hi:i < us.length) (hd:d < k) (xs:List (List Int)) (hx:xs.length = k) (hrow:xs[d]? = some (vd us p P (d:Int) i)) :
  ap (ah_l1 FU us[i] (d:Int)) FU (0,xs) = some (xs.set d (bH (vd us p P (d:Int) i) us[i].fA)):=by
 have hF:=bf
 have hu:=h.vu us[i] (List.getElem_mem hi)
 have hm:=h.m; have hp:=h.p12
 obtain ⟨v1,v2⟩:=eT h.vu p (d:Int) i (by omega)
 have hh:=aw (B:=ah_l1 FU us[i] (d:Int)) (fun s:Nat × List (List Int)=>P - s.1) (fun s=>s.1 <= P/\∃ row,s.2 = xs.set d row/\Part (vd us p P (d:Int) i) us[i].fA row s.1) (fun y=>y = xs.set d (bH (vd us p P (d:Int) i) us[i].fA)) ?_ FU (0,xs) ⟨Nat.zero_le _,vd us p P (d:Int) i,?_,.zero _ _⟩ (by simp only; omega)
 ·obtain ⟨y,e,rfl⟩:=hh; exact e
 ·rintro ⟨j,ys⟩ J ⟨a1,row,a2,a3⟩ hJ
  simp only at a1 a2 a3 hJ
  subst a2
  unfold ah_l1
  simp only
  by_cases hj:j < P
  ·have j1:j < us[i].fA.length:=by rw [hu.1]; exact hj
   have j2:j < (vd us p P (d:Int) i).length:=by omega
   have b1:=hu.2 _ (List.getElem_mem j1)
   have b2:=v2 _ (List.getElem_mem j2)
   have hr:=a3.at j2
   have hrl:=a3.1
   rw [if_pos j1,geE j1,ab,idx_nat,List.getElem?_set,if_pos rfl,if_pos (by omega),ab,hr,ab,bt (by omega) (by omega),ab,cP _ (by omega),ab,Int.toNat_natCast,List.set_set]
   exact hJ _ ⟨hj,_,rfl,a3.step j2 j1⟩ (by simp only; omega)
  ·rw [if_neg (by rw [hu.1]; exact hj)]
   have:j = us[i].fA.length:=by have:=hu.1; omega
   subst this
   exact ⟨_,rfl,by rw [a3.done (by rw [v1,hu.1])]⟩
 ·apply List.ext_getElem?
  intro c
  rw [List.getElem?_set]
  by_cases hc:d = c
  ·subst hc; rw [if_pos rfl,if_pos (by omega),hrow]
  ·rw [if_neg hc]
theorem eS {r:Tf} {us:List Tc} {p:List Int} {k P:Nat} (h:Cn r us p k P) {i d:Nat} (hip:i < p.length) (hi:i < us.length) (hd:d < k) (e:p[i] = (d:Int)):vts us p P k (i + 1) = (vts us p P k i).set d (bH (vd us p P (d:Int) i) us[i].fA):=by
 apply List.ext_getElem?
 intro c
 rw [List.getElem?_set]
 have hpi:p[i]? = some (d:Int):=by rw [geE hip,e]
 by_cases hc:d = c
 ·subst hc
  rw [if_pos rfl,if_pos (by rw [bA]; exact hd),cR _ _ _ _ hd,ix hi hpi]
 ·rw [if_neg hc]
  by_cases hck:c < k
  ·rw [cR _ _ _ _ hck,cR _ _ _ _ hck,vd_no (by rw [hpi]; intro hx; have:=Option.some.inj hx; omega)]
  ·rw [List.getElem?_eq_none (by rw [bA]; omega),List.getElem?_eq_none (by rw [bA]; omega)]
theorem eU {r:Tf} {us:List Tc} {p:List Int} {k P:Nat} (h:Cn r us p k P):ah_p FU ⟨r,p,(k:Int)⟩ = some (vts us p P k us.length):=by
 have hF:=bf
 have h8:=h.k8; have hm:=h.m; have hp:=h.p12; have hpl:=h.f.1
 unfold ah_p
 rw [show mk (k:Int) ([]:List Int) = some (List.replicate k []) from if_pos ⟨by omega,by omega⟩,ab]
 have hh:=aw (B:=ah_l3 FU (List.replicate k []) ⟨r,p,(k:Int)⟩) (fun s:Nat × List (List Int)=>k - s.1) (fun s=>s.1 <= k/\s.2.length = k/\∀ d:Nat,d < s.1 -> s.2[d]? = some (List.replicate P 0)) (fun y=>y = vts us p P k 0) ?_ FU (0,List.replicate k []) ⟨Nat.zero_le _,by simp,fun d hd=>by omega⟩ (by simp only; omega)
 ·obtain ⟨y,e,rfl⟩:=hh
  rw [e,ab]
  have hh:=aw (B:=ah_l2 FU ⟨r,p,(k:Int)⟩) (fun s:Nat × List (List Int)=>p.length - s.1) (fun s=>s.1 <= p.length/\s.2 = vts us p P k s.1) (fun y=>y = vts us p P k us.length) ?_ FU (0,vts us p P k 0) ⟨Nat.zero_le _,rfl⟩ (by simp only; omega)
  ·obtain ⟨y,e,rfl⟩:=hh
   rw [e]; rfl
  ·rintro ⟨i,xs⟩ J ⟨a1,a2⟩ hJ
   simp only at a1 a2 hJ
   subst a2
   unfold ah_l2
   simp only
   by_cases hip:i < p.length
   ·obtain ⟨d,e,hd,hi⟩:=h.at hip
    obtain ⟨u1,u2,_⟩:=gh h.v h.l hi
    rw [if_pos hip,geE hip,ab,geE u1,ab,u2,e,row_ok h hi hd _ (bA ..) (cR _ _ _ _ hd),ab,<- eS h hip hi hd e]
    exact hJ _ ⟨hip,rfl⟩ (by simp only; omega)
   ·rw [if_neg hip]
    exact ⟨_,rfl,by rw [show i = us.length by omega]⟩
 ·rintro ⟨i,xs⟩ J ⟨a1,a2,a3⟩ hJ
  simp only at a1 a2 a3 hJ
  unfold ah_l3
  simp only
  by_cases hi:i < k
  ·rw [if_pos (by simpa using hi),h.P,dH _ _ (by omega),ab,geE (by omega),ab]
   refine hJ _ ⟨hi,by simp only [List.length_set]; exact a2,fun d hd=>?_⟩ (by simp only; omega)
   simp only at hd ⊢
   rw [List.getElem?_set]
   by_cases hid:i = d
   ·subst hid; rw [if_pos rfl,if_pos (by omega)]
   ·rw [if_neg hid]; exact a3 d (by omega)
  ·rw [if_neg (by simpa using hi)]
   refine ⟨xs,rfl,?_⟩
   apply List.ext_getElem?
   intro d
   by_cases hd:d < k
   ·rw [a3 d (by omega),cR _ _ _ _ hd]; rfl
   ·rw [List.getElem?_eq_none (by omega),List.getElem?_eq_none (by rw [bA]; omega)]
def at0 (l:List Int) (x:Nat):Int:=l[x]?.getD 0
theorem aK {l:List Int} {x:Nat} (h:x < l.length):at0 l x = l[x]:=by unfold at0; rw [geE h]; rfl
def Tb (k P:Nat) (vs:List (List Int)):Prop:=vs.length = k/\∀ v ∈ vs,v.length = P
theorem Cn.tb {r:Tf} {us:List Tc} {p:List Int} {k P:Nat} (h:Cn r us p k P):Tb k P (vts us p P k us.length):=by
 refine ⟨bA ..,fun v hv=>?_⟩
 unfold vts at hv
 obtain ⟨d,_,rfl⟩:=List.mem_map.1 hv
 exact (eT h.vu p (d:Int) us.length (Nat.le_refl _)).1
end Go.Proofs.YtibdeoeglcngoaaGreatDoor
namespace Go.Proofs.YtibdeoeglcngoaaGreatDoor
open Go
set_option maxRecDepth 8000
def Uq (l:List Int) (x:Nat):Prop:=x < l.length/\∀ y < l.length,y ≠ x -> at0 l y < at0 l x
def WinR (l:List Int) (w:Int):Prop:=(∃ x:Nat,Uq l x/\w = (x:Int)) ∨ (∀ x,¬ Uq l x)/\w = -1
theorem WinR.in {l:List Int} {w:Int} (h:WinR l w):-1 <= w/\w < l.length:=by
 rcases h with ⟨x,a1,rfl⟩ | ⟨_,rfl⟩
 ·have:=a1.1; omega
 ·omega
theorem max_ok (l:List Int) (h0:0 < l.length) (hl:l.length <= 1000):∃ m,aB_p FU l = some m/\(∀ x < l.length,at0 l x <= m)/\∃ x < l.length,at0 l x = m:=by
 have hF:=bf
 unfold aB_p
 rw [if_neg (by omega),geE h0,ab]
 have hh:=aw (B:=aB_l1 FU l) (fun s:Int × Nat=>l.length - s.2) (fun s=>s.2 <= l.length/\(∀ x < s.2,at0 l x <= s.1)/\∃ x < l.length,at0 l x = s.1) (fun m=>(∀ x < l.length,at0 l x <= m)/\∃ x < l.length,at0 l x = m) ?_ FU (l[0],1) ⟨h0,fun x hx=>by
  obtain rfl:x = 0:=by simpa using hx
  rw [aK h0]; omega,0,h0,aK h0⟩ (by simp only; omega)
 ·obtain ⟨m,e,h1,h2⟩:=hh
  rw [e,ab]; exact ⟨m,rfl,h1,h2⟩
 ·rintro ⟨z,i⟩ J ⟨a1,a2,a3⟩ hJ
  simp only at a1 a2 a3 hJ
  unfold aB_l1
  simp only
  by_cases hi:i < l.length
  ·rw [if_pos hi,geE hi,ab]
   have hg:=aK hi
   refine hJ _ ⟨hi,fun x hx=>?_,?_⟩ (by simp only; omega)
   ·simp only at hx ⊢
    by_cases hxi:x = i
    ·subst hxi; omega
    ·have:=a2 x (by omega); omega
   ·simp only
    rcases Int.le_total z l[i] with h | h
    ·exact ⟨i,hi,by omega⟩
    ·obtain ⟨x,x1,x2⟩:=a3
     exact ⟨x,x1,by omega⟩
  ·rw [if_neg hi]
   exact ⟨z,rfl,fun x hx=>a2 x (by omega),a3⟩
theorem winnerP (l:List Int) (hl:l.length <= 1000):∃ w,aY_p FU l = some w/\WinR l w:=by
 have hF:=bf
 unfold aY_p
 by_cases h0:l.length = 0
 ·rw [if_pos h0]; exact ⟨-1,rfl,.inr ⟨fun x hx=>by have:=hx.1; omega,rfl⟩⟩
 rw [if_neg h0]
 obtain ⟨m,m1,m2,m3⟩:=max_ok l (by omega) hl
 rw [m1,ab]
 have hh:=aw (B:=aY_l1 FU l m) (fun s:Int × Nat=>l.length - s.2) (fun s=>s.2 <= l.length/\(s.1 = -1/\(∀ j < s.2,at0 l j ≠ m) ∨ ∃ x:Nat,x < s.2/\s.1 = (x:Int)/\at0 l x = m/\∀ j < s.2,j ≠ x -> at0 l j ≠ m)) (fun r=>∃ w,(r = .inl w ∨ r = .inr w)/\WinR l w) ?_ FU (-1,0) ⟨Nat.zero_le _,.inl ⟨rfl,fun j hj=>by omega⟩⟩ (by simp only; omega)
 ·obtain ⟨r,e,w,hr,hw⟩:=hh
  rw [e]
  rcases hr with rfl | rfl <;> exact ⟨w,rfl,hw⟩
 ·rintro ⟨z,i⟩ J ⟨a1,a2⟩ hJ
  simp only at a1 a2 hJ
  unfold aY_l1
  simp only
  by_cases hi:i < l.length
  ·rw [if_pos hi,geE hi,ab]
   have hg:=aK hi
   by_cases hx:l[i] = m
   ·rw [if_pos hx]
    rcases a2 with ⟨rfl,a2⟩ | ⟨x,x1,rfl,x2,x3⟩
    ·rw [if_pos (by decide)]
     refine hJ _ ⟨hi,.inr ⟨i,by simp,rfl,by omega,fun j hj hji=>?_⟩⟩ (by simp only; omega)
     simp only at hj
     exact a2 j (by omega)
    ·rw [if_neg (by omega)]
     refine ⟨_,rfl,-1,.inl rfl,.inr ⟨fun u hu=>?_,rfl⟩⟩
     have hux:∀ y < l.length,at0 l y = m -> y = u:=fun y hy e=>Classical.byContradiction fun hne=>by
      have h1:=hu.2 y hy hne
      have h2:=m2 u hu.1
      omega
     have e1:=hux x (by omega) x2
     have e2:=hux i hi (by omega)
     omega
   ·rw [if_neg hx]
    refine hJ _ ⟨hi,?_⟩ (by simp only; omega)
    rcases a2 with ⟨rfl,a2⟩ | ⟨x,x1,rfl,x2,x3⟩
    ·refine .inl ⟨rfl,fun j hj=>?_⟩
     simp only at hj
     by_cases hji:j = i
     ·subst hji; omega
     ·exact a2 j (by omega)
    ·refine .inr ⟨x,by simp only; omega,rfl,x2,fun j hj hjx=>?_⟩
     simp only at hj
     by_cases hji:j = i
     ·subst hji; omega
     ·exact x3 j (by omega) hjx
  ·rw [if_neg hi]
   have:i = l.length:=by omega
   subst this
   refine ⟨_,rfl,z,.inr rfl,?_⟩
   rcases a2 with ⟨rfl,a2⟩ | ⟨x,x1,rfl,x2,x3⟩
   ·obtain ⟨y,y1,y2⟩:=m3
    exact absurd y2 (a2 y y1)
   ·refine .inl ⟨x,⟨x1,fun y hy hne=>?_⟩,rfl⟩
    have h1:=m2 y hy
    have h2:=x3 y hy hne
    omega
def win (l:List Int):Int:=(aY_p FU l).getD 0
theorem dV (l:List Int) (hl:l.length <= 1000):aY_p FU l = some (win l)/\WinR l (win l):=by
 obtain ⟨w,w1,w2⟩:=winnerP l hl
 have e:win l = w:=by unfold win; rw [w1]; rfl
 rw [e]; exact ⟨w1,w2⟩
theorem da (vs:List (List Int)) {i:Nat} (h:i < vs.length):(vs.map win)[i]? = some (win vs[i]):=by rw [List.getElem?_map,geE h]; rfl
theorem iQ {k P:Nat} {vs:List (List Int)} (h:Tb k P vs) (hk:k <= 8) (hP:P <= 12):ap (aF_l1 FU vs) FU (0,[]) = some (vs.map win):=by
 have hF:=bf
 have hl:=h.1
 have hh:=aw (B:=aF_l1 FU vs) (fun s:Nat × List Int=>vs.length - s.1) (fun s=>s.1 <= vs.length/\s.2 = (vs.map win).take s.1) (fun y=>y = vs.map win) ?_ FU (0,[]) ⟨Nat.zero_le _,by simp⟩ (by simp only; omega)
 ·obtain ⟨y,e,rfl⟩:=hh; exact e
 ·rintro ⟨i,xs⟩ J ⟨a1,a2⟩ hJ
  simp only at a1 a2 hJ
  subst a2
  unfold aF_l1
  simp only
  by_cases hi:i < vs.length
  ·obtain ⟨w1,_⟩:=dV vs[i] (by rw [h.2 _ (List.getElem_mem hi)]; omega)
   rw [if_pos hi,geE hi,ab,w1,ab,eZ _ _ (by simp only [List.length_take,List.length_map,leC,leN]; omega),ab,<- iS (da vs hi)]
   exact hJ _ ⟨hi,rfl⟩ (by simp only; omega)
  ·rw [if_neg hi,List.take_of_length_le (by rw [List.length_map]; omega)]
   exact ⟨_,rfl,rfl⟩
def stn (P:Nat) (ws:List Int):Nat -> Int × List Int
 | 0=>(0,List.replicate P 0)
 | i + 1=>if at0 ws i < 0 then ((stn P ws i).1 + 1,(stn P ws i).2) else ((stn P ws i).1,(stn P ws i).2.set (at0 ws i).toNat (at0 (stn P ws i).2 (at0 ws i).toNat + 1))
theorem ei (P:Nat) (ws:List Int):∀ i,(0 <= (stn P ws i).1/\(stn P ws i).1 <= i)/\(stn P ws i).2.length = P/\∀ x ∈ (stn P ws i).2,0 <= x/\x <= (i:Int)
 | 0=>⟨⟨Int.le_refl _,Int.le_refl _⟩,by simp [stn],fun x hx=>by rw [List.eq_of_mem_replicate hx]; omega⟩
 | i + 1=>by
  obtain ⟨h1,h2,h3⟩:=ei P ws i
  unfold stn
  split
  ·exact ⟨by simp only; omega,h2,fun x hx=>by have:=h3 x hx; omega⟩
  ·refine ⟨by simp only; omega,by simp only [List.length_set]; exact h2,fun x hx=>?_⟩
   rcases List.mem_or_eq_of_mem_set hx with hx | hx
   ·have:=h3 x hx; omega
   ·rw [hx]
    by_cases hj:(at0 ws i).toNat < (stn P ws i).2.length
    ·rw [aK hj]; have:=h3 _ (List.getElem_mem hj); omega
    ·unfold at0; rw [List.getElem?_eq_none (by unfold at0 at hj; omega)]; simp; omega
theorem gx {P:Nat} {ws:List Int} {i:Nat} (h:at0 ws i < 0):stn P ws (i + 1) = ((stn P ws i).1 + 1,(stn P ws i).2):=by
 show (if at0 ws i < 0 then _ else _) = _
 rw [if_pos h]
theorem gq {P:Nat} {ws:List Int} {i:Nat} (h:¬ at0 ws i < 0):stn P ws (i + 1) = ((stn P ws i).1,(stn P ws i).2.set (at0 ws i).toNat (at0 (stn P ws i).2 (at0 ws i).toNat + 1)):=by
 show (if at0 ws i < 0 then _ else _) = _
 rw [if_neg h]
theorem gl {k P:Nat} {vs:List (List Int)} (h:Tb k P vs) (hP:P <= 12) {i:Nat} (hi:i < vs.length):at0 (vs.map win) i = win vs[i]/\-1 <= win vs[i]/\win vs[i] < P:=by
 have hl:=h.2 _ (List.getElem_mem hi)
 obtain ⟨_,w1⟩:=dV vs[i] (by omega)
 have:=w1.in
 refine ⟨?_,by omega,by omega⟩
 unfold at0; rw [da vs hi]; rfl
theorem seatsP {k P:Nat} {vs:List (List Int)} (h:Tb k P vs) (hk:k <= 8) (hP:P <= 12):ap (ba_l1 FU (vs.map win,0)) FU (0,0,List.replicate P 0) = some ((stn P (vs.map win) k).2,(stn P (vs.map win) k).1):=by
 have hF:=bf
 have hl:=h.1
 have hh:=aw (B:=ba_l1 FU (vs.map win,0)) (fun s:Int × Nat × List Int=>vs.length - s.2.1) (fun s=>s.2.1 <= vs.length/\s.1 = (stn P (vs.map win) s.2.1).1/\s.2.2 = (stn P (vs.map win) s.2.1).2) (fun y=>y = ((stn P (vs.map win) k).2,(stn P (vs.map win) k).1)) ?_ FU (0,0,List.replicate P 0) ⟨Nat.zero_le _,rfl,rfl⟩ (by simp only; omega)
 ·obtain ⟨y,e,rfl⟩:=hh; exact e
 ·rintro ⟨z,i,xs⟩ J ⟨a1,a2,a3⟩ hJ
  simp only at a1 a2 a3 hJ
  subst a2 a3
  unfold ba_l1
  simp only
  by_cases hi:i < vs.length
  ·obtain ⟨w0,w1,w2⟩:=gl h hP hi
   obtain ⟨s1,s2,s3⟩:=ei P (vs.map win) i
   rw [if_pos (by rw [List.length_map]; exact hi),da vs hi,ab]
   by_cases hn:win vs[i] < 0
   ·have e:=gx (P:=P) (ws:=vs.map win) (i:=i) (by rw [w0]; exact hn)
    rw [if_pos hn,bt (by omega) (by omega),ab]
    exact hJ _ ⟨hi,by simp only; rw [e],by simp only; rw [e]⟩ (by simp only; omega)
   ·have e:=gq (P:=P) (ws:=vs.map win) (i:=i) (by rw [w0]; exact hn)
    have hj:(win vs[i]).toNat < (stn P (vs.map win) i).2.length:=by omega
    have hb:=s3 _ (List.getElem_mem hj)
    rw [w0,aK hj] at e
    rw [if_neg hn,bX (by omega) hj,ab,bt (by omega) (by omega),ab,cP _ hj,ab]
    exact hJ _ ⟨hi,by simp only; rw [e],by simp only; rw [e]⟩ (by simp only; omega)
  ·rw [if_neg (by rw [List.length_map]; exact hi)]
   exact ⟨_,rfl,by rw [show k = i by omega]⟩
theorem votes_p {r:Tf} {us:List Tc} {p:List Int} {k P:Nat} (h:Cn r us p k P) (ho:aG_p FU r p (k:Int) = some (.ok ⟨r,p,(k:Int)⟩)):bZ_p FU r p (k:Int) = some (vts us p P k us.length,0):=by
 unfold bZ_p bP_p
 rw [ho,ab,exO,eU h,ab,ab,exO]
theorem winners_p {r:Tf} {us:List Tc} {p:List Int} {k P:Nat} (h:Cn r us p k P) (ho:aG_p FU r p (k:Int) = some (.ok ⟨r,p,(k:Int)⟩)):bf_p FU r p (k:Int) = some ((vts us p P k us.length).map win,0):=by
 unfold bf_p aF_p
 rw [ho,ab,exO,eU h,ab,iQ h.tb h.k8 h.p12,ab,ab,exO]
theorem seats_p {r:Tf} {us:List Tc} {p:List Int} {k P:Nat} (h:Cn r us p k P) (ho:aG_p FU r p (k:Int) = some (.ok ⟨r,p,(k:Int)⟩)):ba_p FU r p (k:Int) = some ((stn P ((vts us p P k us.length).map win) k).2,(stn P ((vts us p P k us.length).map win) k).1,0):=by
 have:=h.p12
 unfold ba_p
 rw [winners_p h ho,ab,if_pos rfl,h.P,dH _ _ (by omega),ab,seatsP h.tb h.k8 h.p12]
 rfl
end Go.Proofs.YtibdeoeglcngoaaGreatDoor
namespace Go.Proofs.YtibdeoeglcngoaaGreatDoor
open Go
set_option maxRecDepth 8000
theorem ir {r:Tf} {us:List Tc} (h:RollOk r us):∀ u ∈ r.fq,Sm4 u:=by
 have hg:=h.g; have hp:=h.p; have hl:=h.l; have hn:=h.len
 have land:∀ u ∈ us,Sm4 u:=fun u hu=>by
  obtain ⟨i,hi,rfl⟩:=List.getElem_of_mem hu
  obtain ⟨e,_,_,g,v,q⟩:=h.land i hi
  exact ⟨by rw [e]; exact nm_ns (by omega),by have:=g.1; omega,by have:=v.1; omega,by have:=q.1; omega⟩
 intro u hu
 rcases h.all with e | e
 ·rw [e] at hu; exact land u hu
 ·rw [e] at hu
  rcases List.mem_append.1 hu with hu | hu
  ·exact land u hu
  ·rw [List.mem_singleton.1 hu]
   refine ⟨List.mem_cons_self ..,?_,?_,?_⟩
   ·show (List.replicate _ (0:Int)).length <= _; rw [List.length_replicate]; omega
   ·show (List.replicate _ (0:Int)).length <= _; rw [List.length_replicate]; omega
   ·show (List.replicate _ (0:Int)).length <= _; rw [List.length_replicate]; omega
theorem rv_of {r:Tf} {us:List Tc} (h:RollOk r us):RV r:=by
 classical
 refine Classical.byContradiction fun hc=>?_
 have e:=cz r (ir h)
 rw [ec r us h,if_neg hc] at e
 cases e
theorem lnd_ok {r:Tf} {us:List Tc} (h:RollOk r us):Lnd r us:=by
 refine ⟨?_,fun u hu=>?_⟩
 ·rcases h.all with e | e
  ·exact ⟨[],by rw [e,List.append_nil],fun u hu=>by cases hu⟩
  ·exact ⟨_,e,fun u hu=>by rw [List.mem_singleton.1 hu]; rfl⟩
 ·obtain ⟨i,hi,rfl⟩:=List.getElem_of_mem hu
  exact (h.land i hi).2.1
theorem cn_of {r:Tf} {us:List Tc} {p:List Int} {k P:Nat} (h:RollOk r us) (hl:p.length = us.length) (hp:bz p (k:Int)) (h1:1 <= k) (h8:k <= 8) (hP:r.fc = P):Cn r us p k P:=
 ⟨rv_of h,lnd_ok h,⟨hl,hp⟩,h1,h8,hP⟩
theorem gJ {r:Tf} {us:List Tc} {p:List Int} {k P:Nat} (h:RollOk r us) (hc:Cn r us p k P):aG_p FU r p (k:Int) = some (.ok ⟨r,p,(k:Int)⟩):=by
 classical
 have h1:=hc.k1; have h8:=hc.k8; have hpl:=hc.f.1; have hm:=hc.m
 have b1:=fH (ir h) p k (by omega) (by omega) (by omega) us fun _=>hc.l
 rw [if_pos hc.v,if_pos hc.f] at b1
 unfold aG_p bL_p
 rw [b1,ab,if_pos rfl,ab,exO]
end Go.Proofs.YtibdeoeglcngoaaGreatDoor
namespace Go.Proofs.YtibdeoeglcngoaaGreatDoor
open Go
set_option maxRecDepth 8000
theorem eqII (a:List Int) (hl:a.length <= 1000):ak_p FU a a = some true:=by
 have hF:=bf
 unfold ak_p
 rw [if_pos rfl]
 have hh:=aw (B:=ak_l1 FU a a) (fun i:Nat=>a.length - i) (fun _=>True) (fun y=>y = .inr ()) ?_ FU 0 trivial (by omega)
 ·obtain ⟨y,e,rfl⟩:=hh
  rw [e]; rfl
 ·intro i J _ hJ
  unfold ak_l1
  simp only
  by_cases hi:i < a.length
  ·rw [if_pos hi,geE hi,ab,ab,if_pos rfl]
   exact hJ _ trivial (by omega)
  ·rw [if_neg hi]; exact ⟨_,rfl,rfl⟩
theorem iL:bo_p FU = some true:=by kernel_rfl
theorem thnR {α β:Type} (x:α) (K:α -> Option β):thn (some (.inr x:β ⊕ α)) K = K x:=rfl
theorem gi {a b:List Int} {j:Nat} (h:a.length = b.length):at0 (bH a b) j = at0 a j + at0 b j:=by
 unfold at0 bH
 rw [List.getElem?_zipWith]
 by_cases hj:j < a.length
 ·rw [geE hj,geE (show j < b.length by omega)]; rfl
 ·rw [List.getElem?_eq_none (by omega),List.getElem?_eq_none (show b.length <= j by omega)]; rfl
theorem dX (P j:Nat):at0 (List.replicate P 0) j = 0:=by
 unfold at0; rw [List.getElem?_replicate]; split <;> rfl
def smv (P:Nat) (vs:List (List Int)):Nat -> List Int
 | 0=>List.replicate P 0
 | i + 1=>bH (smv P vs i) (vs[i]?.getD [])
theorem eQ {P:Nat} {vs:List (List Int)} {i:Nat} (hi:i < vs.length):smv P vs (i + 1) = bH (smv P vs i) vs[i]:=by
 show bH (smv P vs i) (vs[i]?.getD []) = _
 rw [geE hi]; rfl
def col (vs:List (List Int)) (j:Nat):Int:=(vs.map fun v=>at0 v j).sum
theorem fI {k P:Nat} {vs:List (List Int)} (h:Tb k P vs) (hb:∀ v ∈ vs,∀ x ∈ v,0 <= x/\x <= 64000000000):∀ i ≤ vs.length,(smv P vs i).length = P/\(∀ x ∈ smv P vs i,0 <= x/\x <= (i:Int) * 64000000000)/\∀ j,at0 (smv P vs i) j = col (vs.take i) j
 | 0,_=>⟨by simp [smv],fun x hx=>by rw [List.eq_of_mem_replicate hx]; omega,fun j=>by show at0 (List.replicate P 0) j = _; rw [dX]; simp [col]⟩
 | i + 1,hi=>by
  obtain ⟨h1,h2,h3⟩:=fI h hb i (by omega)
  have hl:=h.2 vs[i] (List.getElem_mem _)
  rw [eQ (by omega)]
  refine ⟨eL h1 hl,fun x hx=>?_,fun j=>?_⟩
  ·obtain ⟨j,hj,rfl⟩:=List.getElem_of_mem hx
   unfold bH at hj ⊢
   rw [List.length_zipWith] at hj
   rw [List.getElem_zipWith]
   have e1:=h2 _ (List.getElem_mem (show j < (smv P vs i).length by omega))
   have e2:=hb _ (List.getElem_mem (show i < vs.length by omega)) _ (List.getElem_mem (show j < vs[i].length by omega))
   omega
  ·rw [gi (by omega),h3]
   unfold col
   rw [List.take_succ_eq_append_getElem (by omega),List.map_append,List.sum_append]
   simp
theorem eE:∀ (l:List Int) (d:Nat) (x:Int) (h:d < l.length),(l.set d x).sum = l.sum - l[d] + x
 | y :: l,0,x,_=>by simp only [List.set_cons_zero,List.sum_cons,List.getElem_cons_zero]; omega
 | y :: l,d + 1,x,h=>by
  have:=eE l d x (by simpa using h)
  simp only [List.set_cons_succ,List.sum_cons,List.getElem_cons_succ]
  omega
def us0 (us:List Tc) (j i:Nat):Int:=((us.take i).map fun u=>at0 u.fA j).sum
theorem dA {us:List Tc} {j i:Nat} (hi:i < us.length):us0 us j (i + 1) = us0 us j i + at0 us[i].fA j:=by
 unfold us0
 rw [List.take_succ_eq_append_getElem hi,List.map_append,List.sum_append]; simp
theorem ic {r:Tf} {us:List Tc} {p:List Int} {k P:Nat} (h:Cn r us p k P) (j:Nat):∀ i ≤ us.length,col (vts us p P k i) j = us0 us j i
 | 0,_=>by
  have:∀ v ∈ vts us p P k 0,at0 v j = 0:=fun v hv=>by
   unfold vts at hv
   obtain ⟨d,_,rfl⟩:=List.mem_map.1 hv
   exact dX P j
  unfold col us0
  have e:((vts us p P k 0).map fun v=>at0 v j) = (vts us p P k 0).map fun _=>0:=List.map_congr_left this
  have z:∀ l:List (List Int),(l.map fun _=>(0:Int)).sum = 0:=fun l=>by
   induction l with
   | nil=>rfl
   | cons _ _ ih=>rw [List.map_cons,List.sum_cons,ih]; rfl
  rw [e,z]
  simp
 | i + 1,hi=>by
  have ih:=ic h j i (by omega)
  have hip:i < p.length:=by have:=h.f.1; omega
  obtain ⟨d,e,hd,hi2⟩:=h.at hip
  obtain ⟨v1,_⟩:=eT h.vu p (d:Int) i (by omega)
  have hu:=h.vu us[i] (List.getElem_mem _)
  have hdl:d < ((vts us p P k i).map fun v=>at0 v j).length:=by rw [List.length_map,bA]; exact hd
  have hgd:((vts us p P k i).map fun v=>at0 v j)[d] = at0 (vd us p P (d:Int) i) j:=by
   have:=cR us p P i hd
   rw [List.getElem_map]
   congr 1
   exact Option.some.inj ((geE (by rw [bA]; exact hd)).symm.trans this)
  rw [eS h hip hi2 hd e]
  unfold col at ih ⊢
  rw [List.map_set,eE _ _ _ hdl,hgd,ih,gi (by rw [v1,hu.1]),dA hi2]
  omega
theorem gD {r:Tf} {us:List Tc} (h:RollOk r us) (j:Nat):us0 r.fq j r.fq.length = us0 us j us.length:=by
 rcases h.all with e | e
 ·rw [e]
 ·unfold us0
  rw [List.take_length,List.take_length,e,List.map_append,List.sum_append]
  have:at0 (sea r.fh r.fc r.fe).fA j = 0:=dX _ _
  simp [this]
theorem gR {r:Tf} {us:List Tc} {P:Nat} (h:RollOk r us) (hP:r.fc = P):∀ u ∈ r.fq,u.fA.length = P/\∀ x ∈ u.fA,0 <= x/\x <= 255:=fun u hu=>by
 obtain ⟨i,hi,rfl⟩:=List.getElem_of_mem hu
 rcases h.unit hi with ⟨h2,e⟩ | ⟨h2,e⟩
 ·rw [e]; have:=(h.land i h2).2.2.2.2.1; exact ⟨by omega,this.2⟩
 ·rw [e]
  refine ⟨?_,fun x hx=>?_⟩
  ·show (List.replicate _ (0:Int)).length = P; rw [List.length_replicate]; omega
  ·rw [List.eq_of_mem_replicate (show x ∈ List.replicate _ (0:Int) from hx)]; omega
theorem iA {P:Nat} (u:Tc) (hu:u.fA.length = P/\∀ x ∈ u.fA,0 <= x/\x <= 255) (hP:P <= 12) (a:List Int) (ha:a.length = P) (hb:∀ x ∈ a,-1000000 <= x/\x <= 600000000000):∃ b,ap (aa_l2 FU u) FU (0,a) = some b/\b.length = P/\∀ j:Nat,j < P -> at0 b j = at0 a j - at0 u.fA j:=by
 have hF:=bf
 have hh:=aw (B:=aa_l2 FU u) (fun s:Nat × List Int=>P - s.1) (fun s=>s.1 <= P/\s.2.length = P/\∀ j:Nat,j < P -> at0 s.2 j = at0 a j - if j < s.1 then at0 u.fA j else 0) (fun b=>b.length = P/\∀ j:Nat,j < P -> at0 b j = at0 a j - at0 u.fA j) ?_ FU (0,a) ⟨Nat.zero_le _,ha,fun j hj=>by show at0 a j = at0 a j - (if j < 0 then _ else 0); rw [if_neg (by omega)]; omega⟩ (by simp only; omega)
 ·exact hh
 ·rintro ⟨i,xs⟩ J ⟨a1,a2,a3⟩ hJ
  simp only at a1 a2 a3 hJ
  unfold aa_l2
  simp only
  by_cases hi:i < P
  ·have i1:i < u.fA.length:=by omega
   have i2:i < xs.length:=by omega
   have b1:=hu.2 _ (List.getElem_mem i1)
   have b2:=hb _ (List.getElem_mem (show i < a.length by omega))
   have e1:=a3 i hi
   rw [if_neg (by omega),aK i2,aK (show i < a.length by omega)] at e1
   rw [if_pos i1,geE i1,ab,geE i2,ab,bt (by omega) (by omega),ab,cP _ i2,ab]
   refine hJ _ ⟨hi,by simp only [List.length_set]; exact a2,fun j hj=>?_⟩ (by simp only; omega)
   simp only
   have hset:at0 (xs.set i (xs[i] - u.fA[i])) j = if i = j then xs[i] - u.fA[i] else at0 xs j:=by
    unfold at0
    rw [List.getElem?_set]
    by_cases hij:i = j
    ·rw [if_pos hij,if_pos hij,if_pos i2]; rfl
    ·rw [if_neg hij,if_neg hij]
   rw [hset]
   by_cases hij:i = j
   ·subst hij
    rw [if_pos rfl,if_pos (by omega),aK (show i < a.length by omega),aK i1]; omega
   ·rw [if_neg hij,a3 j hj]
    by_cases hlt:j < i
    ·rw [if_pos hlt,if_pos (by omega)]
    ·rw [if_neg hlt,if_neg (by omega)]
  ·rw [if_neg (by omega)]
   refine ⟨xs,rfl,a2,fun j hj=>?_⟩
   rw [a3 j hj,if_pos (by omega)]
theorem fO {P:Nat} (us:List Tc) (h:∀ u ∈ us,u.fA.length = P/\∀ x ∈ u.fA,0 <= x/\x <= 255) (j:Nat):∀ i ≤ us.length,0 <= us0 us j i/\us0 us j i <= (i:Int) * 255
 | 0,_=>by simp [us0]
 | i + 1,hi=>by
  have ih:=fO us h j i (by omega)
  rw [dA (by omega)]
  have hu:=h us[i] (List.getElem_mem _)
  have:0 <= at0 us[i].fA j/\at0 us[i].fA j <= 255:=by
   by_cases hj:j < us[i].fA.length
   ·rw [aK hj]; exact hu.2 _ (List.getElem_mem hj)
   ·unfold at0; rw [List.getElem?_eq_none (by omega)]; simp
  omega
theorem row_sum {P:Nat} (v a:List Int) (hv:v.length = P) (ha:a.length = P) (hP:P <= 12) (hb:∀ x ∈ v,0 <= x/\x <= 64000000000) (hs:∀ x ∈ a,0 <= x/\x <= 600000000000):ap (aa_l1 FU v (win v)) FU (0,a) = some (.inr (bH a v)):=by
 have hF:=bf
 obtain ⟨_,hw⟩:=dV v (by omega)
 have hh:=aw (B:=aa_l1 FU v (win v)) (fun s:Nat × List Int=>P - s.1) (fun s=>s.1 <= P/\Part a v s.2 s.1) (fun y=>y = .inr (bH a v)) ?_ FU (0,a) ⟨Nat.zero_le _,.zero _ _⟩ (by simp only; omega)
 ·obtain ⟨y,e,rfl⟩:=hh; exact e
 ·rintro ⟨j,row⟩ J ⟨a1,a3⟩ hJ
  simp only at a1 a3 hJ
  unfold aa_l1
  simp only
  by_cases hj:j < P
  ·have j1:j < v.length:=by omega
   have j2:j < a.length:=by omega
   have b1:=hb _ (List.getElem_mem j1)
   have b2:=hs _ (List.getElem_mem j2)
   have hrl:=a3.1
   have nx:=hJ (j + 1,row.set j (a[j] + v[j])) ⟨hj,a3.step j2 j1⟩ (by simp only; omega)
   rw [if_pos j1,geE j1,ab,a3.at j2,ab,bt (by omega) (by omega),ab,cP _ (by omega),ab]
   rcases hw with ⟨x,hx,ex⟩ | ⟨_,ex⟩
   ·rw [ex,if_pos (by omega)]
    by_cases hjx:(j:Int) = (x:Int)
    ·rw [if_pos hjx]; exact nx
    ·have hlt:=hx.2 j j1 (by omega)
     rw [aK j1,aK hx.1] at hlt
     rw [if_neg hjx,idxK hx.1,ab,if_neg (by omega)]
     exact nx
   ·rw [ex,if_neg (by decide)]
    exact nx
  ·rw [if_neg (by omega)]
   have:j = v.length:=by omega
   subst this
   exact ⟨_,rfl,by rw [a3.done (by omega)]⟩
theorem dZ (a0:Tj) (a1:Ti):aa_p FU a0 a1 = some true:=by
 have hF:=bf
 obtain ⟨p,k,e0,p1,p2,hp,k1,k2⟩:=iB FU a0 (by omega)
 obtain ⟨r,us,e1,hus,hr⟩:=roll_ok FU a1 p.length p1 p2 (by omega)
 obtain ⟨k,rfl⟩:∃ j:Nat,k = (j:Int):=⟨k.toNat,by omega⟩
 obtain ⟨P,hP⟩:∃ P:Nat,r.fc = (P:Int):=⟨r.fc.toNat,by have:=hr.p; omega⟩
 have h:=cn_of hr hus.symm hp (by omega) (by omega) hP
 have ho:=gJ hr h
 have h12:=h.p12; have h8:=h.k8
 have hV:=gR hr hP
 have hsz:=hr.size; have hlen:=hr.len
 have hT:=h.tb
 obtain ⟨vs,hvs⟩:∃ vs,vs = vts us p P k us.length:=⟨_,rfl⟩
 have hcol:∀ j,col vs j = us0 r.fq j r.fq.length:=fun j=>by rw [hvs,ic h j us.length (Nat.le_refl _),gD hr]
 have hb:∀ v ∈ vs,∀ x ∈ v,0 <= x/\x <= 64000000000:=fun v hv x hx=>by
  rw [hvs] at hv
  unfold vts at hv
  obtain ⟨d,_,rfl⟩:=List.mem_map.1 hv
  have h1:=(eT h.vu p (d:Int) us.length (Nat.le_refl _)).2 x hx
  have h2:=h.m
  omega
 have q1:=votes_p h ho
 have q2:=winners_p h ho
 have q3:=seats_p h ho
 rw [<- hvs] at q1 q2 q3 hT
 have hvl:=hT.1
 obtain ⟨st,hst⟩:∃ st,st = stn P (vs.map win) k:=⟨_,rfl⟩
 have hs:=ei P (vs.map win) k
 rw [<- hst] at q3 hs
 unfold aa_p jn
 rw [iL,ab,if_pos rfl,e0,ab]
 simp only
 rw [e1,ab,q1,ab,q2,ab,q3,ab]
 simp only [if_true]
 rw [if_pos (by omega),if_pos (by rw [List.length_map]; omega),decide_eq_true (by rw [hs.2.1,hP]),if_neg (by decide),hP,dH _ _ (by omega),ab,ab]
 have hh:=aw (B:=aa_l5 FU (vs,0) r (vs.map win,0)) (fun s:Int × Nat × List Int × List Int=>vs.length - s.2.1) (fun s=>s.2.1 <= vs.length/\s.1 = st.1 - (stn P (vs.map win) s.2.1).1/\s.2.2.1 = (stn P (vs.map win) s.2.1).2/\s.2.2.2 = smv P vs s.2.1) (fun y=>y = .inr (smv P vs k,0,st.2)) ?_ FU (st.1,0,List.replicate P 0,List.replicate P 0) ⟨Nat.zero_le _,by show st.1 = st.1 - 0; omega,rfl,rfl⟩ (by simp only; omega)
 ·obtain ⟨y,e,rfl⟩:=hh
  rw [e,thnR]
  simp only
  obtain ⟨m1,m2,m3⟩:=fI hT hb k (by omega)
  have hh:=aw (B:=aa_l4 FU r) (fun s:Nat × List Int=>r.fq.length - s.1) (fun s=>s.1 <= r.fq.length/\s.2.length = P/\∀ j:Nat,j < P -> at0 s.2 j = col vs j - us0 r.fq j s.1) (fun y=>y.length = P/\∀ j:Nat,j < P -> at0 y j = 0) ?_ FU (0,smv P vs k) ⟨Nat.zero_le _,m1,fun j hj=>by simp only; rw [m3,List.take_of_length_le (by omega)]; simp [us0]⟩ (by simp only; omega)
  ·obtain ⟨y,e,y1,y2⟩:=hh
   rw [e,ab]
   simp only [if_true]
   rw [eqII _ (by omega),ab,if_pos rfl]
   have hh:=aw (B:=aa_l3 FU y) (fun i:Nat=>y.length - i) (fun _=>True) (fun z=>z = .inr ()) ?_ FU 0 trivial (by omega)
   ·obtain ⟨z,e,rfl⟩:=hh
    rw [e]; rfl
   ·intro i J _ hJ
    unfold aa_l3 aQ_p
    simp only
    by_cases hi:i < y.length
    ·have:=y2 i (by omega)
     rw [aK hi] at this
     rw [if_pos hi,geE hi,ab,ab,decide_eq_true this,if_neg (by decide)]
     exact hJ _ trivial (by omega)
    ·rw [if_neg hi]; exact ⟨_,rfl,rfl⟩
  ·rintro ⟨i,xs⟩ J ⟨b1,b2,b3⟩ hJ
   simp only at b1 b2 b3 hJ
   unfold aa_l4
   simp only
   by_cases hi:i < r.fq.length
   ·have hin:∀ x ∈ xs,-1000000 <= x/\x <= 600000000000:=fun x hx=>by
     obtain ⟨j,hj,rfl⟩:=List.getElem_of_mem hx
     have e1:=b3 j (by omega)
     rw [aK hj] at e1
     have e2:=fO r.fq hV j i b1
     have e3:=fO r.fq hV j r.fq.length (Nat.le_refl _)
     have e4:=hcol j
     omega
    obtain ⟨b,c1,c2,c3⟩:=iA r.fq[i] (hV _ (List.getElem_mem hi)) h12 xs b2 hin
    rw [if_pos hi,geE hi,ab,c1,ab]
    refine hJ _ ⟨hi,c2,fun j hj=>?_⟩ (by simp only; omega)
    simp only
    rw [c3 j hj,b3 j hj,dA hi]; omega
   ·rw [if_neg hi]
    refine ⟨xs,rfl,b2,fun j hj=>?_⟩
    rw [b3 j hj,hcol j,show i = r.fq.length by omega]; omega
 ·rintro ⟨z,i,ys,xs⟩ J ⟨b1,b2,b3,b4⟩ hJ
  simp only at b1 b2 b3 b4 hJ
  subst b2 b3 b4
  unfold aa_l5 jn
  simp only
  by_cases hi:i < vs.length
  ·obtain ⟨w0,w1,w2⟩:=gl hT h12 hi
   obtain ⟨s1,s2,s3⟩:=ei P (vs.map win) i
   obtain ⟨m1,m2,m3⟩:=fI hT hb i b1
   have hv:=hT.2 _ (List.getElem_mem hi)
   have hrow:=row_sum vs[i] (smv P vs i) hv m1 h12 (hb _ (List.getElem_mem hi)) (fun x hx=>by have:=m2 x hx; omega)
   rw [if_pos hi,geE hi,ab,hP,if_pos (by omega),da vs hi,ab,if_neg (by omega),if_neg (by omega),hrow,thnR,<- eQ hi]
   by_cases hn:win vs[i] < 0
   ·have e:=gx (P:=P) (ws:=vs.map win) (i:=i) (by rw [w0]; exact hn)
    rw [if_neg (by omega),bt (by omega) (by omega),ab]
    exact hJ _ ⟨hi,by simp only; rw [e]; simp only; omega,by simp only; rw [e],rfl⟩ (by simp only; omega)
   ·have e:=gq (P:=P) (ws:=vs.map win) (i:=i) (by rw [w0]; exact hn)
    have hj:(win vs[i]).toNat < (stn P (vs.map win) i).2.length:=by omega
    have hbb:=s3 _ (List.getElem_mem hj)
    rw [w0,aK hj] at e
    rw [if_pos (by omega),bX (by omega) hj,ab,bt (by omega) (by omega),ab,cP _ hj,ab]
    exact hJ _ ⟨hi,by simp only; rw [e],by simp only; rw [e],rfl⟩ (by simp only; omega)
  ·rw [if_neg hi]
   have:i = k:=by omega
   subst this
   exact ⟨_,rfl,by rw [<- hst]; simp⟩
theorem eh (a0:Tj) (a1:Ti):∃ n,aa_p n a0 a1 = some true:=⟨FU,dZ a0 a1⟩
end Go.Proofs.YtibdeoeglcngoaaGreatDoor
