/- Drawn regions: operations that are not wanted, many at once. No program in sight. -/
import Derived.Test.YtgejkdheojkfiaaGreatDoorPMg
namespace Go.Proofs.YtgejkdheojkfiaaGreatDoor
open Go Go.RowKit
section
variable {P:Program} {Z:Machine -> Prop} {b:Frame} {n:Nat} {ds:List Deferred} {cs:List Frame} {k:List Item} {σ:List (Nat × Value)} {w:World} {ops:Array Oper} {T:List (Nat × Nat × Nat)} {t f m:Nat} {κ:KP}
def offS:List Nat -> List (Nat × Value) -> List (Nat × Value)
  | [],σ=>σ
  | d :: ds,σ=>offS ds ((d,undef) :: σ)
def offsB (ops:Array Oper) (T:List (Nat × Nat × Nat)) (t n:Nat) (F:List (Nat × Bool)):List (Nat × Nat) -> List Nat -> Nat -> Nat -> Bool
  | [],_,m,m' =>m == m'
  | (i,d) :: is,U,m,m' =>(match ops[i]? with
    | some ⟨some d', _,_,_,_,some (j,q)⟩=>d' == d && Nat.blt d n && takePC T t m i (m ||| 2 ^ i) && F.all (fun p=>p.1 != d) && (match (ops[j]?).bind (·.dst) with
      | some s=>U.contains s || F.contains (s,!q)
      | none=>false)
    | _=>false) && offsB ops T t n F is (d :: U) (m ||| 2 ^ i) m'
theorem RD.offs_ (hT:tabs ops = T) (hp:plainB ops = true) (F:List (Nat × Bool)):∀ (is:List (Nat × Nat)) (U:List Nat) (m m' : Nat) (σ:List (Nat × Value)),offsB ops T t n F is U m m' = true -> is.all (fun p=>κ.free p.1) = true -> (∀ p ∈ F,look σ p.1 = some (.bool p.2)) -> (∀ s ∈ U,look σ s = some undef) ->
    RD κ P Z b n ds cs ops t f m' k (offS (is.map (·.2)) σ) w -> RD κ P Z b n ds cs ops t (f + is.length) m k σ w
  | [],U,m,m', σ,hB,_,_,_,h=>by
    simp only [offsB,beq_iff_eq] at hB
    subst hB
    exact h
  | (i,d) :: is,U,m,m', σ,hB,hfr,hF,hU,h=>by
    rw [List.all_cons,Bool.and_eq_true] at hfr
    unfold offsB at hB
    simp only [Bool.and_eq_true] at hB
    obtain ⟨h1,h2⟩:=hB
    split at h1
    · rename_i d' op ty ps af j q hi
      simp only [Bool.and_eq_true,beq_iff_eq] at h1
      obtain ⟨⟨⟨⟨rfl,h3⟩,h4⟩,h5⟩,h6⟩:=h1
      have hw:Want ops σ (some (j,q)) false:=by
        split at h6
        · rename_i s hs
          simp only [Bool.or_eq_true,List.contains_iff_mem] at h6
          rcases h6 with h6 | h6
          · exact .undef hs (hU s h6)
          · exact .no hs (hF _ h6)
        · cases h6
      refine RD.off (takePC_ok hT h4) hi hp hw h3 (RD.offs_ hT hp F is (d' :: U) _ m' _ h2 hfr.2 (fun p hpF=>?_) (fun s hs=>?_) h) hfr.1
      · have hne:p.1 ≠ d' :=by
          have:=List.all_eq_true.1 h5 p hpF
          simpa using this
        have:Nat.beq d' p.1 = false:=by
          cases hb:Nat.beq d' p.1 with
          | false=>rfl
          | true=>exact absurd (Nat.eq_of_beq_eq_true hb).symm hne
        simp only [look,this]
        exact hF p hpF
      · simp only [look]
        split
        · rfl
        · rename_i hb
          rcases List.mem_cons.1 hs with rfl | hs
          · rw [show Nat.beq s s = true from Nat.beq_refl s] at hb; cases hb
          · exact hU s hs
    · cases h1
inductive AllF (σ:List (Nat × Value)):List (Nat × Bool) -> Prop
  | nil:AllF σ []
  | cons {s:Nat} {q:Bool} {F:List (Nat × Bool)} (h:look σ s = some (.bool q)) (t:AllF σ F):AllF σ ((s,q) :: F)
theorem AllF.all {σ:List (Nat × Value)} {F:List (Nat × Bool)} (h:AllF σ F):∀ p ∈ F,look σ p.1 = some (.bool p.2):=by
  induction h with
  | nil=>intro p hp; cases hp
  | cons h _ ih=>
    intro p hp
    rcases List.mem_cons.1 hp with rfl | hp
    · exact h
    · exact ih p hp
inductive AllU (σ:List (Nat × Value)):List Nat -> Prop
  | nil:AllU σ []
  | cons {s:Nat} {U:List Nat} (h:look σ s = some undef) (t:AllU σ U):AllU σ (s :: U)
theorem AllU.all {σ:List (Nat × Value)} {U:List Nat} (h:AllU σ U):∀ s ∈ U,look σ s = some undef:=by
  induction h with
  | nil=>intro p hp; cases hp
  | cons h _ ih=>
    intro p hp
    rcases List.mem_cons.1 hp with rfl | hp
    · exact h
    · exact ih p hp
theorem RD.offs (m' f:Nat) {f' : Nat} (is:List (Nat × Nat)) {F:List (Nat × Bool)} {U:List Nat} (hT:tabs ops = T) (hp:plainB ops = true) (hF:AllF σ F) (hU:AllU σ U) (h:RD κ P Z b n ds cs ops t f m' k (offS (is.map (·.2)) σ) w) (hB:offsB ops T t n F is U m m' = true:=by kernel_rfl) (hf:Nat.beq f' (f + is.length) = true:=by kernel_rfl) (hfr:is.all (fun p=>κ.free p.1) = true:=by rfl):RD κ P Z b n ds cs ops t f' m k σ w:=by
  have:=RD.offs_ hT hp F is U m m' σ hB hfr hF.all hU.all h
  rwa [<- Nat.eq_of_beq_eq_true hf] at this
variable {i d:Nat} {op:Op} {ty:TypeId} {ps:String} {af:Array Edge} {g:Option (Nat × Bool)} {v:Value}
theorem RD.vP (i m' : Nat) (hT:tabs ops = T) (hi:ops[i]? = some ⟨some d,op,ty,ps,af,g⟩) (hp:plainB ops = true) (hg:Want ops σ g true) (hq:∀ w,FV P ⟨some d,op,ty,ps,af,g⟩ σ w v) (hd:Nat.blt d n = true)
    (h:RD κ P Z b n ds cs ops t f m' k ((d,v) :: σ) w) (hB:takePC T t m i m' = true:=by kernel_rfl) (hfr:κ.free i = true:=by rfl):RD κ P Z b n ds cs ops t (f + 1) m k σ w:=RD.valP (takePC_ok hT hB) hi hp hg hq hd h hfr
end
section
variable {P:Program} {Z:Machine -> Prop} {b:Frame} {n:Nat} {ds:List Deferred} {cs:List Frame} {k:List Item} {σ:List (Nat × Value)} {w:World} {ops:Array Oper} {l:List Oper}
theorem RG.doesH {d:Nat} {op:Op} {ty:TypeId} {ps:String} {af:Array Edge} {g:Option (Nat × Bool)} {Q:Value -> World -> Prop} (hg:Want ops σ g true) (hd:Nat.blt d n = true) (D:Does P ⟨some d,op,ty,ps,af,g⟩ σ w Q) (h:∀ u w1,Q u w1 -> RG P Z b n ds cs ops l k ((d,u) :: σ) w1):RG P Z b n ds cs ops (⟨some d,op,ty,ps,af,g⟩ :: l) k σ w:=
  RG.doesL hg hd (fun ρ ha w' hw=>let ⟨u,w1,h1,_,h2⟩:=D ρ ha w' hw; ⟨u,w1,h1,h2⟩) h
end
section
variable {α:Type} [Rep α] {P:Program} {σ:List (Nat × Value)} {w w0:World} {O:List Ob} {x:Operand} {t ty e bytes:Nat} {z:Value} {zc:List Value} {dd:Option Tmp} {ps:String} {af:Array Edge} {g:Option (Nat × Bool)} {xs:List α}
theorem Does.mkH {L:List Nat} {mi:Int} {x0:α} (hmk:Go.Proofs.YtgejkdheojkfiaaGreatDoor.mk mi x0 = some xs) (s:St w0 w O) (el:ElT P t e (Rep.size α) bytes z zc) (hx:ev σ x = some (.int .i64 mi)) (hr:∀ w L,Rep.R w L zc x0) :
    Does P ⟨dd,.makeSlice t x x,ty,ps,af,g⟩ σ w (Apps w0 w O L (fun v cs=>.row w0.heap.size e (Rep.size α) v xs.length cs :: O) xs):=fun ρ ha w' hw=>by
  obtain ⟨u,w1,h1,h2,b', rfl,h3,h4⟩:=Does.mk (dd:=dd) (ty:=ty) (ps:=ps) (af:=af) (g:=g) hmk s el hx ρ ha w' hw
  exact ⟨_,w1,h1,h2,_,h3,h4,Cells.mk hmk (hr _ _)⟩
end
end Go.Proofs.YtgejkdheojkfiaaGreatDoor
