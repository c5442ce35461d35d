/- Laws of the walk: arrays as slices, tables, lending. No program in sight. -/
import Derived.Test.YtgejkdheojkfiaaGreatDoorPMe
import Derived.Laws.CopyRow
import Derived.Laws.IdiomCopy
namespace Go.Proofs.YtgejkdheojkfiaaGreatDoor
open Go Go.RowKit
section
variable {P:Program} {σ:List (Nat × Value)} {w:World} {x y:Operand} {d:Option Tmp} {t t' ty:TypeId} {ps:String} {af:Array Edge} {g:Option (Nat × Bool)}
theorem FV.as {o:Oper} {v u:Value} (h:FV P o σ w v) (e:v = u):FV P o σ w u:=e ▸ h
theorem FV.sliceA {len m:Nat} {p:Addr} (ht:arrB P t len m = true) (hx:ev σ x = some (.pointer (some p))):FV P ⟨d,.slice t x none none none,ty,ps,af,g⟩ σ w (.slice (some p) len len):=by
  refine fun ρ ha w' _=>?_
  unfold arrB at ht
  split at ht
  · rename_i l e hu
    rw [Bool.and_eq_true] at ht
    obtain ⟨h1,h2⟩:=ht
    have hl:l = len:=by simpa using h1
    subst hl
    split at h2
    · rename_i j hj
      have hs:j.size = m:=by simpa using h2
      simp [execOp,ha _ _ hx,Instr.sliceAt,Instr.sliceBounds,Instr.sureAddr,run_underlying hu,sizeOf,typeInfo,hj]
      intro _; cases p; simp [Addr.add]
    · cases h2
  · cases ht
end
theorem bind_in2 {α β:Type} {o:Option α} {r:β} {K:α -> Option β} (h:o.bind K = some r):∃ x,o = some x/\∀ y,some y = some x -> K y = some r:=by
  cases o with
  | none=>cases h
  | some x=>exact ⟨x,rfl,fun y e=>by cases e; exact h⟩
section
variable {w w0 w9:World} {O:List Ob} {L:List Nat}
theorem St.hL0 (s:St w0 w O) (hL:∀ b ∈ L,b < w0.heap.size) (hw:Agree [] w w9):∀ b ∈ L,b < w9.heap.size:=fun b hb=>(s.hL (L:=L) hL hw) b (List.mem_append.2 (.inr hb))
end
section
variable {α:Type} [Rep α] {P:Program} {σ τ:List (Nat × Value)} {w w0:World} {O O' : List Ob} {L:List Nat} {v v' dv sv:Value} {xs ys zs:List α} {cs:List Value} {e:TypeId} {base lo m:Nat} {x y:Operand} {d:Option Tmp} {t t' ty:TypeId} {ps:String} {af:Array Edge} {g:Option (Nat × Bool)}
structure SubV (v v' : Value) (lo sz m n:Nat):Prop where
  le:lo + m <= n
  at_:∃ A c,v' = .slice A m c/\(m ≠ 0 -> ∃ bk c0,v = .slice (some ⟨bk,0,none⟩) n c0/\A = some ((⟨bk,0,none⟩:Addr).add (lo * sz)))
end
section
variable {P:Program} {σ:List (Nat × Value)} {w:World} {x y:Operand} {d:Option Tmp} {t t' ty:TypeId} {ps:String} {af:Array Edge} {g:Option (Nat × Bool)}
end
theorem ones_nil:∀ u ∈ ([]:List Value),u.oneCell' = true:=fun u h=>by cases h
theorem ones_cons {v:Value} {l:List Value} (h:v.oneCell' = true) (h2:∀ u ∈ l,u.oneCell' = true):∀ u ∈ v :: l,u.oneCell' = true:=fun u hu=>by
  rcases List.mem_cons.1 hu with rfl | hu
  · exact h
  · exact h2 u hu
section
variable {α:Type} [Rep α] {w w0:World} {O:List Ob} {L:List Nat} {v:Value} {xs:List α} {cs:List Value} {e:TypeId} {base:Nat}
theorem Rep.c1 (h:Rep.R w L [v] xs):v.cells = [v].toArray:=by obtain ⟨A,c,rfl,_⟩:=Rep.sl h; rfl
theorem Rep.o1 (h:Rep.R w L [v] xs):v.oneCell' = true:=by obtain ⟨A,c,rfl,_⟩:=Rep.sl h; rfl
theorem St.c1 (s:St w0 w O) (u:At O (.row base e (Rep.size α) v xs.length cs)):v.cells = [v].toArray:=by obtain ⟨A,c,rfl⟩:=s.rowV u; rfl
theorem St.o1 (s:St w0 w O) (u:At O (.row base e (Rep.size α) v xs.length cs)):v.oneCell' = true:=by obtain ⟨A,c,rfl⟩:=s.rowV u; rfl
end
/-! ### Ranges over functions in loops: as many deferred records as rounds -/
inductive Arr2:List Ob -> List Ob -> Prop
  | rest {O:List Ob}:Arr2 O O
  | one {O O1 O' : List Ob} {o:Ob} (h:Out O o O1) (h2:Arr2 O1 O'):Arr2 O (o :: O')
  | drop {O O1 O' : List Ob} {o:Ob} (h:Out O o O1) (h2:Arr2 O1 O'):Arr2 O O'
section
variable {P:Program} {Z:Machine -> Prop} {b:Frame} {n:Nat} {ds:List Deferred} {cs:List Frame} {k:List Item} {σ τ:List (Nat × Value)} {w w0:World}
theorem bl_append (O1 O2:List Ob):bl (O1 ++ O2) = bl O1 ++ bl O2:=by unfold bl; rw [List.filterMap_append]
end
/-! ### Calls that hand over objects; orders of a drawn region -/
section
variable {w0 w w1 w9:World} {O O' : List Ob}
theorem Owns.merge {w:World} {O:List Ob} (h:Owns w O):∀ {O' : List Ob},Owns w O' -> (∀ b ∈ bl O', b ∉ bl O) -> Owns w (O' ++ O)
  | [],_,_=>h
  | o :: O', ⟨h1,h2,h3⟩,hd=>⟨h1,fun b e hm=>by
      have hm:b ∈ bl (O' ++ O):=hm
      rw [bl_append] at hm
      rcases List.mem_append.1 hm with hm | hm
      · exact h2 b e hm
      · exact hd b (mem_bl_cons.2 (.inl e)) hm,Owns.merge h h3 fun b hb=>hd b (mem_bl_cons.2 (.inr hb))⟩
theorem St.merge (s:St w0 w O) (s' : St w w1 O'):St w0 w1 (O' ++ O):=⟨s.ag.trans s'.ag,fun b hb=>by
    rw [bl_append] at hb
    rcases List.mem_append.1 hb with hb | hb
    · exact Nat.le_trans s.ag.size (s'.new b hb)
    · exact s.new b hb,Owns.merge (s.ok.keep s'.ag (fun _ _=>by simp)) s'.ok fun b hb hm=>by
      have:=s'.new b hb; have:=s.ok.lt b hm; omega⟩
theorem Tr.merge (_:St w0 w O) (s' : St w w1 O'):Tr w O w1 (O' ++ O):=⟨s'.ag.widen,fun b hb=>by
    rw [bl_append] at hb
    rcases List.mem_append.1 hb with hb | hb
    · exact .inr (s'.new b hb)
    · exact .inl hb⟩
theorem St.from (s:St w9 w1 O') (h:Agree [] w w9):St w w1 O' :=⟨h.trans s.ag,fun b hb=>Nat.le_trans h.size (s.new b hb),s.ok⟩
end
theorem Calls.gives {P:Program} {f:FuncId} {vs:Array Value} {w:World} {R R' : World -> Value -> Prop} (h:Calls P f vs w (Gives w R)) (hR:∀ w' v,R w' v -> R' w' v):Calls P f vs w (Gives w R'):=h.mono fun _ w' ⟨v,e,h1,h2⟩=>⟨v,e,hR w' v h1,h2⟩
def AllL (p:Nat -> Prop):List Nat -> Prop
  | []=>True
  | i :: l=>p i/\AllL p l
theorem AllL.mem {p:Nat -> Prop}:∀ {l:List Nat},AllL p l -> ∀ i ∈ l,p i
  | _ :: _,⟨h1,h2⟩,i,hi=>by
    rcases List.mem_cons.1 hi with rfl | hi
    · exact h1
    · exact AllL.mem h2 i hi
section
variable {P:Program} {Z:Machine -> Prop} {b:Frame} {n:Nat} {ds:List Deferred} {cs:List Frame} {k:List Item} {σ τ:List (Nat × Value)} {w w0:World} {ops:Array Oper} {t f m m' i:Nat} {d:Nat} {ty:TypeId} {ps:String} {af:Array Edge} {g:Option (Nat × Bool)} {κ:KP}
theorem RD.each (rs:List Nat) (hr:readyB ops m rs = true) (h:AllL (RO κ P Z b n ds cs ops t f m k σ w) rs) (hk:κ.nd (lst ops.size m) -> Kp κ.c w:=by exact KP.triv):RD κ P Z b n ds cs ops t (f + 1) m k σ w:=RD.all hr h.mem hk
end
end Go.Proofs.YtgejkdheojkfiaaGreatDoor
