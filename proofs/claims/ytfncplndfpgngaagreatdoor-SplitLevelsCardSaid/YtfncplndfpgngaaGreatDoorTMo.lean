/- Laws of the walk: maps whose values point to blocks of the call's own. No program in sight. -/
import Derived.Test.YtfncplndfpgngaaGreatDoorTMn
namespace Go.Proofs.YtfncplndfpgngaaGreatDoor
open Go Go.RowKit
theorem bl_perm {O O' : List Ob} (p:O.Perm O') {b:Nat}:b ∈ bl O ↔ b ∈ bl O' :=(p.filterMap Ob.block).mem_iff
theorem Owns.perm {w:World} {O O' : List Ob} (p:O.Perm O'):Owns w O → Owns w O' :=by
  induction p with
  | nil=>exact id
  | cons x p ih=>exact fun h=>⟨h.1,fun b e hm=>h.2.1 b e ((bl_perm p).2 hm),ih h.2.2⟩
  | swap x y l=>
    rintro ⟨h1,h2,h3,h4,h5⟩
    refine ⟨h3,fun b e hm=>?_,h1,fun b e hm=>h2 b e (mem_bl_cons.2 (.inr hm)),h5⟩
    rcases mem_bl_cons.1 hm with hm | hm
    · exact h2 b hm (mem_bl_cons.2 (.inl e))
    · exact h4 b e hm
  | trans _ _ ih1 ih2=>exact fun h=>ih2 (ih1 h)
theorem St.perm {w0 w:World} {O O' : List Ob} (s:St w0 w O) (p:O.Perm O'):St w0 w O' :=⟨s.ag,fun b hb=>s.new b ((bl_perm p).2 hb),s.ok.perm p⟩
theorem Tr.perm {w:World} {O O' : List Ob} (p:O.Perm O'):Tr w O w O' :=⟨Agree.refl _ _,fun _ hb=>.inl ((bl_perm p).2 hb)⟩
instance:Enc (Option Nat):=⟨fun a=>.pointer (a.map fun b=>⟨b,0,none⟩)⟩
section
variable {κ β:Type}
def pmD (Z:List ((κ × β) × Nat)):List (κ × Option Nat):=Z.map fun z=>(z.1.1,some z.2)
@[reducible] def pmM (Z:List ((κ × β) × Nat)):List (κ × β):=Z.map (·.1)
def boxes (t:TypeId) (f:β → List Value) (Z:List ((κ × β) × Nat)):List Ob:=Z.map fun z=>.cells z.2 (f z.1.2) t
def pcase {β γ:Type} (o:Option β) (A:Option γ) (B:β → Option γ):Option γ:=match o with
  | none=>A
  | some y=>B y
theorem pcase_n {β γ:Type} {o:Option β} {A:Option γ} {B:β → Option γ} {r:γ} (h:pcase o A B = some r) (e:o = none):A = some r:=by subst e; exact h
theorem pcase_s {β γ:Type} {o:Option β} {A:Option γ} {B:β → Option γ} {r:γ} {y:β} (h:pcase o A B = some r) (e:o = some y):B y = some r:=by subst e; exact h
theorem pm_get [DecidableEq κ] (k:κ):∀ (Z:List ((κ × β) × Nat)),
    (mget (pmM Z) k = none∧mgetD (pmD Z) k none = none∧(∀ y b,mset (pmD Z) k (some b) = pmD (Z ++ [((k,y),b)]))∧∀ y b,mset (pmM Z) k y = pmM (Z ++ [((k,y),b)])) ∨
    ∃ Z1 y b Z2,Z = Z1 ++ ((k,y),b) :: Z2∧mget (pmM Z) k = some y∧mgetD (pmD Z) k none = some b∧∀ y', mset (pmM Z) k y' = pmM (Z1 ++ ((k,y'),b) :: Z2)
  | []=>.inl ⟨rfl,rfl,fun _ _=>rfl,fun _ _=>rfl⟩
  | ((k', y'),b') :: Z=>by
    by_cases hk:k = k'
    · subst hk
      refine .inr ⟨[],y', b', Z,rfl,by simp [mget],by simp [mgetD,pmD,mget],fun y=>by simp [mset]⟩
    · rcases pm_get k Z with ⟨h1,h2,h3,h4⟩ | ⟨Z1,y,b,Z2,h0,h1,h2,h3⟩
      · refine .inl ⟨by simpa [mget,hk] using h1,by simpa [mgetD,pmD,mget,hk] using h2,fun y b=>?_,fun y b=>?_⟩
        · have:=h3 y b; simp only [pmD,List.map_cons,mset,hk,if_false,List.cons_append] at this ⊢; rw [this]
        · have:=h4 y b; simp only [pmM,List.map_cons,mset,hk,if_false,List.cons_append] at this ⊢; rw [this]
      · refine .inr ⟨((k', y'),b') :: Z1,y,b,Z2,by rw [h0]; rfl,by simpa [mget,hk] using h1,by simpa [mgetD,pmD,mget,hk] using h2,fun y' =>?_⟩
        have:=h3 y'; simp only [pmM,List.map_cons,mset,hk,if_false,List.cons_append] at this ⊢; rw [this]
theorem pmD_set (Z1 Z2:List ((κ × β) × Nat)) (k:κ) (y y' : β) (b:Nat):pmD (Z1 ++ ((k,y),b) :: Z2) = pmD (Z1 ++ ((k,y'),b) :: Z2):=by simp [pmD]
theorem pmD_len (Z:List ((κ × β) × Nat)):(pmD Z).length = Z.length:=by simp [pmD]
theorem pmD_at {Z:List ((κ × β) × Nat)} {i:Nat} {z:(κ × β) × Nat} (h:Z[i]? = some z):(pmD Z)[i]? = some (z.1.1,some z.2):=by simp [pmD,h]
theorem boxes_cons (t:TypeId) (f:β → List Value) (Z1 Z2:List ((κ × β) × Nat)) (z:(κ × β) × Nat):(boxes t f (Z1 ++ z :: Z2)).Perm (.cells z.2 (f z.1.2) t :: boxes t f (Z1 ++ Z2)):=by
  unfold boxes
  exact (List.perm_middle (a:=z) (l₁:=Z1) (l₂:=Z2)).map _
variable {w w0:World} {T pre:List Ob} {t:TypeId} {f:β → List Value} {Z Z1 Z2:List ((κ × β) × Nat)} {k:κ} {y y' : β} {b:Nat}
theorem box_perm (z:(κ × β) × Nat):(pre ++ (boxes t f (Z1 ++ z :: Z2) ++ T)).Perm (.cells z.2 (f z.1.2) t :: (pre ++ (boxes t f (Z1 ++ Z2) ++ T))):=
  (((boxes_cons t f Z1 Z2 z).append_right T).append_left pre).trans (List.perm_middle (a:=.cells z.2 (f z.1.2) t) (l₁:=pre) (l₂:=boxes t f (Z1 ++ Z2) ++ T))
theorem St.boxOpen (s:St w0 w (pre ++ (boxes t f (Z1 ++ ((k,y),b) :: Z2) ++ T))):St w0 w (.cells b (f y) t :: (pre ++ (boxes t f (Z1 ++ Z2) ++ T)))∧Tr w (pre ++ (boxes t f (Z1 ++ ((k,y),b) :: Z2) ++ T)) w (.cells b (f y) t :: (pre ++ (boxes t f (Z1 ++ Z2) ++ T))):=
  ⟨s.perm (box_perm ((k,y),b)),Tr.perm (box_perm ((k,y),b))⟩
theorem St.boxShut {Q:List (κ × Option Nat) → List Ob} (s:St w0 w (.cells b (f y') t :: (Q (pmD (Z1 ++ ((k,y),b) :: Z2)) ++ (boxes t f (Z1 ++ Z2) ++ T)))):St w0 w (Q (pmD (Z1 ++ ((k,y'),b) :: Z2)) ++ (boxes t f (Z1 ++ ((k,y'),b) :: Z2) ++ T))∧Tr w (.cells b (f y') t :: (Q (pmD (Z1 ++ ((k,y),b) :: Z2)) ++ (boxes t f (Z1 ++ Z2) ++ T))) w (Q (pmD (Z1 ++ ((k,y'),b) :: Z2)) ++ (boxes t f (Z1 ++ ((k,y'),b) :: Z2) ++ T)):=by
  rw [pmD_set Z1 Z2 k y y' b] at *
  exact ⟨s.perm (box_perm ((k,y'),b)).symm,Tr.perm (box_perm ((k,y'),b)).symm⟩
theorem St.boxNew {Q:List (κ × Option Nat) → List Ob} {D:List (κ × Option Nat)} (hD:D = pmD (Z ++ [((k,y'),b)])) (s:St w0 w (.cells b (f y') t :: (Q D ++ (boxes t f Z ++ T)))):St w0 w (Q (pmD (Z ++ [((k,y'),b)])) ++ (boxes t f (Z ++ [((k,y'),b)]) ++ T))∧Tr w (.cells b (f y') t :: (Q D ++ (boxes t f Z ++ T))) w (Q (pmD (Z ++ [((k,y'),b)])) ++ (boxes t f (Z ++ [((k,y'),b)]) ++ T)):=by
  subst hD
  have p:=box_perm (pre:=Q (pmD (Z ++ [((k,y'),b)]))) (T:=T) (t:=t) (f:=f) (Z1:=Z) (Z2:=[]) ((k,y'),b)
  rw [List.append_nil] at p
  exact ⟨s.perm p.symm,Tr.perm p.symm⟩
theorem At.app {pre O:List Ob} {o:Ob} (h:At O o):At (pre ++ O) o:=by
  induction pre with
  | nil=>exact h
  | cons x pre ih=>exact .tl ih
theorem At.box {i:Nat} {z:(κ × β) × Nat} (h:Z[i]? = some z):At (pre ++ (boxes t f Z ++ T)) (.cells z.2 (f z.1.2) t):=by
  refine At.app ?_
  unfold boxes
  induction Z generalizing i with
  | nil=>simp at h
  | cons x Z ih=>
    cases i with
    | zero=>simp at h; subst h; exact .hd
    | succ i=>exact .tl (ih (by simpa using h))
theorem left_map {ε δ:Type} (g:ε → δ) (D:List ε) (sn:Array Nat):left (D.map g) sn = (left D sn).map g:=by
  unfold left
  generalize 0 = j
  induction D generalizing j with
  | nil=>rfl
  | cons x D ih=>
    rw [List.map_cons,List.zipIdx_cons,List.zipIdx_cons]
    by_cases h:j ∈ sn
    · simp only [List.filter_cons]
      simp [h]
      simpa using ih (j + 1)
    · simp only [List.filter_cons]
      simp [h]
      simpa using ih (j + 1)
theorem picks_map {ε δ:Type} (g:ε → δ):∀ {l:List ε} {e:ε} {r:List ε},(e,r) ∈ picks l → (g e,r.map g) ∈ picks (l.map g)
  | [],_,_,h=>by cases h
  | x :: l,e,r,h=>by
    rw [List.map_cons]
    simp only [picks] at h ⊢
    rcases List.mem_cons.1 h with h | h
    · cases h; exact List.mem_cons_self ..
    · obtain ⟨⟨a,c⟩,h1,h2⟩:=List.mem_map.1 h
      cases h2
      exact List.mem_cons_of_mem _ (List.mem_map.2 ⟨_,picks_map g h1,rfl⟩)
theorem enc_n {x:Option Nat} (h:x = none):Enc.enc x = Value.pointer none:=by subst h; rfl
theorem enc_s {x:Option Nat} {b:Nat} (h:x = some b):Enc.enc x = Value.pointer (some ⟨b,0,none⟩):=by subst h; rfl
end
section
variable {P:Program} {Z:Machine → Prop} {b:Frame} {n:Nat} {ds:List Deferred} {cs:List Frame} {k:List Item} {σ τ:List (Nat × Value)} {w w0:World} {ops:Array Oper} {l:List Oper} {d:Nat} {ty:TypeId} {ps:String} {af:Array Edge} {x y:Operand} {t t' e:TypeId} {O O' : List Ob} {dd:Option Tmp} {g:Option (Nat × Bool)}
theorem run_eqPtrN {A:Option Addr} (ht:P.underlying t = some (.pointer e)) (w' : World):(Op.equal t (.pointer A) (.pointer none)).run P w' = .ok A.isNone w' :=by
  unfold Op.equal
  rw [show Op.maxDepth = 9999 + 1 from rfl,Op.equalIn,Sem.run_bind,run_underlying ht w']
  cases A <;> rfl
theorem FV.eqlPtr {A:Option Addr} (ht:P.underlying t = some (.pointer e)) (hx:ev σ x = some (.pointer A)) (hy:ev σ y = some (.pointer none)):FV P ⟨some d,.binOp .eql t x y t', ty,ps,af,g⟩ σ w (.bool A.isNone):=fun ρ ha w' _=>by
  have h:=run_eqPtrN (A:=A) ht w'
  simp only [execOp,ha _ _ hx,ha _ _ hy,Sem.run_bind,eqGuard,binOp]
  simp
  exact (congrArg (fun z=>Result.andThen (Result.andThen z _) _) h).trans (by cases A <;> rfl)
theorem FV.shl8I {k:IntKind} {i:Int} {j:Nat} {a:UInt8} (hx:ev σ x = some (.int .u8 (a.toNat:Int))) (hy:ev σ y = some (.int k i)) (hj:natOf i = some j):FV P ⟨some d,.binOp .shl t x y t', ty,ps,af,g⟩ σ w (.int .u8 ((Proofs.YtfncplndfpgngaaGreatDoor.shl8 a j).toNat:Int)):=FV.shl8 hx (by rw [hy,← natOf_in hj])
theorem RG.nextP {κ β:Type} [Enc κ] {bm r:Nat} {W:List ((κ × β) × Nat)} {sn:Array Nat} {F:Array Nat → List Ob} {rest:List ((κ × β) × Nat)} (s:St w0 w O) (um:At O (.obj bm (mapO (pmD W)))) (u:∀ sn', Upd O (.obj r (iterO bm (pmD W).length sn)) (.obj r (iterO bm (pmD W).length sn')) (F sn')) (hx:ev σ x = some (.pointer (some ⟨r,0,none⟩))) (hd:Nat.blt d n = true) (hrest:left W sn = rest)
    (h0:∀ w1,rest = [] → St w0 w1 O → Tr w O w1 O → RG P Z b n ds cs ops l k ((d,.tuple #[.bool false]) :: σ) w1)
    (h1:∀ w1 i (z:(κ × β) × Nat) rest', W[i]? = some z → (z,rest') ∈ picks rest → left W (sn.push i) = rest' → St w0 w1 (F (sn.push i)) → Tr w O w1 (F (sn.push i)) → RG P Z b n ds cs ops l k ((d,.tuple #[.bool true,Enc.enc z.1.1,.pointer (some ⟨z.2,0,none⟩)]) :: σ) w1) :
    RG P Z b n ds cs ops (⟨some d,.next x false,ty,ps,af,none⟩ :: l) k σ w:=
  RG.doesL .plain hd (DoesL.next s um u hx) fun v w1 q=>by
    rcases q with ⟨a1,rfl,a3,a4⟩ | ⟨i,hi,a1,rfl,a3,a4⟩
    · refine h0 w1 (hrest.symm.trans ?_) a3 a4
      have:=(left_map (fun z:(κ × β) × Nat=>(z.1.1,some z.2)) W sn).symm.trans a1
      simpa using this
    · have hi' : i < W.length:=by rwa [pmD_len] at hi
      have e:(pmD W)[i] = (W[i].1.1,some W[i].2):=by simp [pmD]
      rw [e]
      exact h1 w1 i W[i] _ (List.getElem?_eq_getElem hi') (hrest ▸ left_pick W sn i hi' a1) rfl a3 a4
end
end Go.Proofs.YtfncplndfpgngaaGreatDoor
