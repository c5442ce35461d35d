/- Laws of the walk: arrays as slices, tables, lending. No program in sight. -/
import Derived.Test.YtfccehcnajelgaaGreatDoorTMe
import Derived.Laws.CopyRow
import Derived.Laws.IdiomCopy
namespace Go.Proofs.YtfccehcnajelgaaGreatDoor
open Go Go.RowKit
section
variable {P:Program} {σ:List (Nat × Value)} {w:World} {x y:Operand} {d:Option Tmp} {t t' ty:TypeId} {ps:String} {af:Array Edge} {g:Option (Nat × Bool)}
theorem FV.as {o:Oper} {v u:Value} (h:FV P o σ w v) (e:v = u):FV P o σ w u:=e ▸ h
theorem FV.sliceA {len m:Nat} {p:Addr} (ht:arrB P t len m = true) (hx:ev σ x = some (.pointer (some p))):FV P ⟨d,.slice t x none none none,ty,ps,af,g⟩ σ w (.slice (some p) len len):=by
  refine fun ρ ha w' _=>?_
  unfold arrB at ht
  split at ht
  · rename_i l e hu
    rw [Bool.and_eq_true] at ht
    obtain ⟨h1,h2⟩:=ht
    have hl:l = len:=by simpa using h1
    subst hl
    split at h2
    · rename_i j hj
      have hs:j.size = m:=by simpa using h2
      simp [execOp,ha _ _ hx,Instr.sliceAt,Instr.sliceBounds,Instr.sureAddr,run_underlying hu,sizeOf,typeInfo,hj]
      intro _; cases p; simp [Addr.add]
    · cases h2
  · cases ht
end
theorem bind_in2 {α β:Type} {o:Option α} {r:β} {K:α → Option β} (h:o.bind K = some r):∃ x,o = some x∧∀ y,some y = some x → K y = some r:=by
  cases o with
  | none=>cases h
  | some x=>exact ⟨x,rfl,fun y e=>by cases e; exact h⟩
section
variable {w w0 w9:World} {O:List Ob} {L:List Nat}
theorem St.hL0 (s:St w0 w O) (hL:∀ b ∈ L,b < w0.heap.size) (hw:Agree [] w w9):∀ b ∈ L,b < w9.heap.size:=fun b hb=>(s.hL (L:=L) hL hw) b (List.mem_append.2 (.inr hb))
end
section
variable {α:Type} [Rep α] {P:Program} {σ τ:List (Nat × Value)} {w w0:World} {O O' : List Ob} {L:List Nat} {v v' dv sv:Value} {xs ys zs:List α} {cs:List Value} {e:TypeId} {base lo m:Nat} {x y:Operand} {d:Option Tmp} {t t' ty:TypeId} {ps:String} {af:Array Edge} {g:Option (Nat × Bool)}
theorem Cells.part (h:Cells w L cs xs) (hle:lo + m ≤ xs.length):Cells w L ((cs.drop (lo * Rep.size α)).take (m * Rep.size α)) ((xs.drop lo).take m):=by
  obtain ⟨h1,h2⟩:=h
  have hl:((xs.drop lo).take m).length = m:=by rw [List.length_take,List.length_drop]; omega
  have hmul:lo * Rep.size α + m * Rep.size α ≤ cs.length:=by rw [h1,← Nat.add_mul]; exact Nat.mul_le_mul_right _ hle
  refine ⟨by rw [hl,List.length_take,List.length_drop]; omega,fun i hi=>?_⟩
  have hi' : i < m:=by rw [hl] at hi; exact hi
  have e1:((xs.drop lo).take m)[i] = xs[lo + i]'(by omega):=by simp
  have e2:(((cs.drop (lo * Rep.size α)).take (m * Rep.size α)).drop (i * Rep.size α)).take (Rep.size α) = (cs.drop ((lo + i) * Rep.size α)).take (Rep.size α):=by
    rw [List.drop_take,List.drop_drop,List.take_take,← Nat.sub_mul,Nat.min_eq_left (Nat.le_mul_of_pos_left _ (by omega)),Nat.add_mul]
  rw [e1,e2]
  exact h2 (lo + i) (by omega)
structure SubV (v v' : Value) (lo sz m n:Nat):Prop where
  le:lo + m ≤ n
  at_:∃ A c,v' = .slice A m c∧(m ≠ 0 → ∃ bk c0,v = .slice (some ⟨bk,0,none⟩) n c0∧A = some ((⟨bk,0,none⟩:Addr).add (lo * sz)))
theorem Src.sub (s:St w0 w O) (q:At O (.row base e (Rep.size α) v xs.length cs)) (hc:Cells w L cs xs) {l u:Int} (hcut:Proofs.YtfccehcnajelgaaGreatDoor.cut xs l u = some ys) (h:SubV v v' l.toNat (Rep.size α) ys.length xs.length):Src w L v' ys:=by
  obtain ⟨hy,h1,h2,h3,h4⟩:=cut_in hcut
  have hlen:ys.length = u.toNat - l.toNat:=by rw [hy,List.length_drop,List.length_take]; omega
  have hy' : ys = (xs.drop l.toNat).take ys.length:=by rw [hlen,← List.drop_take]; exact hy
  obtain ⟨A,c,e1,e2⟩:=h.at_
  have hp:=Cells.part (lo:=l.toNat) (m:=ys.length) hc (by omega)
  refine ⟨A,c,_,e1,by rw [← hy'] at hp; exact hp,fun ad hA=>?_,fun hA=>?_⟩
  · intro j v9 hj
    by_cases h0:ys.length = 0
    · rw [h0] at hj; simp at hj
    · obtain ⟨bk,c0,rfl,hA2⟩:=e2 h0
      obtain ⟨A', c', hv,_,_,_,_,h8⟩:=s.rowForm q.upd
      cases hv
      rw [hA] at hA2; cases hA2
      exact mem_part (h8 _ rfl) _ _ j v9 hj
  · by_cases h0:ys.length = 0
    · exact h0
    · obtain ⟨bk,c0,_,hA2⟩:=e2 h0
      rw [hA] at hA2; cases hA2
def cpy {α:Type} (xs:List α) (lo m:Nat) (ys:List α):List α:=xs.take lo ++ ys.take (min ys.length m) ++ xs.drop (lo + min ys.length m)
theorem cpy_length {α:Type} {xs ys:List α} {lo m:Nat} (h:lo + m ≤ xs.length):(cpy xs lo m ys).length = xs.length:=by
  unfold cpy
  simp only [List.length_append,List.length_take,List.length_drop]
  omega
theorem DoesL.copy {F:List Value → List Ob} (hsz:Rep.size α = 1) (s:St w0 w O) (h:SubV v dv lo (Rep.size α) m xs.length) (u:∀ cs', Upd O (.row base e (Rep.size α) v xs.length cs) (.row base e (Rep.size α) v (cpy xs lo m ys).length cs') (F cs')) (ht:elemB P t (Rep.size α) = true)
    (hx:ev σ x = some dv) (hy:ev σ y = some sv) (hc:Cells w (bl O ++ L) cs xs) (hs:Src w (bl O ++ L) sv ys) :
    DoesL P ⟨d,.call { callee:=.builtin .copy,args:=#[x,y],argTypes:=#[t,t'] },ty,ps,af,g⟩ σ w (fun r w1=>r = .int .i64 ((min ys.length m:Nat):Int)∧∃ cs', St w0 w1 (F cs')∧Tr w O w1 (F cs')∧Cells w1 (bl (F cs') ++ L) cs' (cpy xs lo m ys)):=by
  intro ρ ha w' hw
  obtain ⟨As,cc,ds,rfl,g2,g3,g4⟩:=hs
  obtain ⟨Ad,cd,rfl,g6⟩:=h.at_
  have hle:=h.le
  have hlen:=cpy_length (ys:=ys) hle
  have hu2:=u
  unfold elemB at ht
  split at ht
  · rename_i el hun
    split at ht
    · rename_i jj hjj
      have hinfo:(P.info? el).map (·.size) = some 1:=by rw [hjj]; simp; rw [← hsz]; simpa using ht
      have hcs:cs.length = xs.length:=by rw [hc.1,hsz,Nat.mul_one]
      have hds:ds.length = ys.length:=by rw [g2.1,hsz,Nat.mul_one]
      have hCells:Cells w (bl O ++ L) (cs.take lo ++ ds.take (min ys.length m) ++ cs.drop (lo + min ys.length m)) (cpy xs lo m ys):=by
        unfold cpy
        have p1:=Cells.part (lo:=0) (m:=lo) hc (by omega)
        have p2:=Cells.part (lo:=0) (m:=min ys.length m) g2 (by omega)
        have p3:=Cells.part (lo:=lo + min ys.length m) (m:=xs.length - (lo + min ys.length m)) hc (by omega)
        rw [hsz] at p1 p2 p3
        simp only [List.drop_zero,Nat.mul_one] at p1 p2 p3
        rw [List.take_of_length_le (by rw [List.length_drop]; omega),List.take_of_length_le (by rw [List.length_drop]; omega)] at p3
        exact (p1.append p2).append p3
      by_cases hk:min ys.length m = 0
      · refine ⟨.int .i64 0,w', ?_,by rw [hk]; rfl,cs,?_⟩
        · have:=run_copy_none (P:=P) w' t t' ty el Ad As m cd ys.length cc hun hinfo hk
          simp only [execOp,resolve,invoke,builtin,Array.map]
          simp [ha _ _ hx,ha _ _ hy,this,goInt]
        · have e0:cpy xs lo m ys = xs:=by unfold cpy; rw [hk]; simp
          rw [hk] at hCells
          simp only [List.take_zero,List.append_nil,Nat.add_zero,List.take_append_drop] at hCells
          have hsame:Upd O (.row base e (Rep.size α) v xs.length cs) (.row base e (Rep.size α) v xs.length cs) (F cs):=by have:=u cs; rwa [e0] at this
          have hag:Agree [] w w' :=hw
          have hst:=s.upd hsame (L:=[]) hag (by simp) (Ob.keep (s.get (u cs)) hag (by simp)) (fun b hb=>.inl hb)
          have htr:Tr w O w' (F cs):=Tr.upd hsame (L:=[]) hag (by simp) (fun b hb=>.inl hb)
          exact ⟨hst,htr,hCells.mv htr⟩
      · obtain ⟨bk,c0,rfl,rfl⟩:=g6 (by omega)
        cases hAs:As with
        | none=>have:=g4 hAs; omega
        | some a=>
          obtain ⟨⟨hl,hh⟩,hmost⟩:=s.get (u cs)
          rcases hh with ⟨hh,_⟩ | ⟨g', cap', cur,he,hbase,hgk,hnc,hcm,hcur,htake⟩
          · cases hh
          · cases he
            have hb' : w'.heap[bk]? = some (.cells cur.toList.toArray e (0,0)):=blk_keep0 hw (by simpa using hgk)
            have hcurl:cs.length ≤ cur.toList.length:=by rw [← htake,List.length_take]; omega
            have key:=run_copy_row (P:=P) w' t t' ty el bk lo m cd a ys.length cc cur e (ds.take (min ys.length m)) hun hinfo (by simpa using hb') (by rw [List.length_take,hds]; show _ = min _ _; omega)
              (fun j u9 hj=>hw.cell0 (mem_part0 (g3 a hAs) _ j u9 hj)) (by rw [List.length_take,hds,← Array.length_toList]; omega) (fun u9 hm=>g2.cell u9 (List.mem_of_mem_take hm))
            have hadd:(⟨bk,0,none⟩:Addr).add (lo * Rep.size α) = ⟨bk,lo,none⟩:=by rw [hsz,Nat.mul_one]; unfold Addr.add; split <;> simp_all
            have hkl:(ds.take (min ys.length m)).length = min ys.length m:=by rw [List.length_take,hds]; omega
            rw [hkl] at key
            refine ⟨.int .i64 ((min ys.length m:Nat):Int),w'.setRow bk (cur.toList.take lo ++ ds.take (min ys.length m) ++ cur.toList.drop (lo + min ys.length m)).toArray,?_,rfl,cs.take lo ++ ds.take (min ys.length m) ++ cs.drop (lo + min ys.length m),?_⟩
            · simp only [execOp,resolve,invoke,builtin,Array.map]
              simp only [Sem.run_bind]
              simp [ha _ _ hx,ha _ _ hy,hadd,hAs,key,goInt]
            · have hkk:(ds.take (min ys.length m)).length = min ys.length m:=hkl
              generalize hnews:ds.take (min ys.length m) = news at *
              generalize hkn:min ys.length m = kk at *
              have hag:Agree [bk] w (w'.setRow bk (cur.toList.take lo ++ news ++ cur.toList.drop (lo + kk)).toArray):=(hw.widen).trans (agree_setRow hb' _)
              have hL:∀ b ∈ [bk],(Ob.row base e (Rep.size α) (.slice (some ⟨bk,0,none⟩) xs.length c0) xs.length cs).block = some b:=by simp [Ob.block,Value.ownBlock]
              have hnl:(cs.take lo ++ news ++ cs.drop (lo + kk)).length = cs.length:=by simp only [List.length_append,List.length_take,List.length_drop]; omega
              have u9:=u (cs.take lo ++ news ++ cs.drop (lo + kk))
              have hst:=s.upd u9 hag hL ⟨⟨by rw [hnl,hlen,hl],.inr ⟨bk,_,_,by rw [hlen],hbase,setRow_heap w' bk _ _ e _ hb', by rw [hlen]; exact hnc,hcm,?_,?_⟩⟩,by rw [hlen]; exact hmost⟩ (fun b e=>.inl e)
              have htr:Tr w O _ _:=Tr.upd u9 hag hL (fun b e=>.inl e)
              · exact ⟨hst,htr,hCells.mv htr⟩
              · rw [List.size_toArray]; simp only [List.length_append,List.length_take,List.length_drop]
                rw [← hcur,← Array.length_toList]; omega
              · rw [List.toList_toArray,hlen]
                have hn:xs.length * Rep.size α = cs.length:=hl.symm
                have hoc:∀ i,i < cs.length → cs[i]? = cur.toList[i]?:=fun i hi=>by rw [← htake,List.getElem?_take_of_lt (by omega)]
                apply List.ext_getElem?
                intro i
                rcases Nat.lt_or_ge i cs.length with hi | hi
                · rw [List.getElem?_take_of_lt (by omega)]
                  rcases Nat.lt_or_ge i lo with h2 | h2
                  · rw [List.append_assoc,List.append_assoc,List.getElem?_append_left (by rw [List.length_take]; omega),List.getElem?_append_left (by rw [List.length_take]; omega),List.getElem?_take_of_lt h2,List.getElem?_take_of_lt h2,hoc i hi]
                  · rcases Nat.lt_or_ge i (lo + news.length) with h3 | h3
                    · rw [List.getElem?_append_left (by rw [List.length_append,List.length_take]; omega),List.getElem?_append_right (by rw [List.length_take]; omega),List.getElem?_append_left (by rw [List.length_append,List.length_take]; omega),List.getElem?_append_right (by rw [List.length_take]; omega),List.length_take,List.length_take,Nat.min_eq_left (by omega),Nat.min_eq_left (by omega)]
                    · rw [List.getElem?_append_right (by rw [List.length_append,List.length_take]; omega),List.getElem?_append_right (by rw [List.length_append,List.length_take]; omega),List.getElem?_drop,List.getElem?_drop,List.length_append,List.length_append,List.length_take,List.length_take,Nat.min_eq_left (by omega),Nat.min_eq_left (by omega),show lo + kk + (i - (lo + news.length)) = i by omega,hoc i hi]
                · rw [List.getElem?_eq_none (by rw [List.length_take]; omega),List.getElem?_eq_none (by simp only [List.length_append,List.length_take,List.length_drop]; omega)]
    · cases ht
  · cases ht
end
section
variable {P:Program} {σ:List (Nat × Value)} {w:World} {x y:Operand} {d:Option Tmp} {t t' ty:TypeId} {ps:String} {af:Array Edge} {g:Option (Nat × Bool)}
end
theorem ones_nil:∀ u ∈ ([]:List Value),u.oneCell' = true:=fun u h=>by cases h
theorem ones_cons {v:Value} {l:List Value} (h:v.oneCell' = true) (h2:∀ u ∈ l,u.oneCell' = true):∀ u ∈ v :: l,u.oneCell' = true:=fun u hu=>by
  rcases List.mem_cons.1 hu with rfl | hu
  · exact h
  · exact h2 u hu
section
variable {α:Type} [Rep α] {w w0:World} {O:List Ob} {L:List Nat} {v:Value} {xs:List α} {cs:List Value} {e:TypeId} {base:Nat}
theorem Rep.c1 (h:Rep.R w L [v] xs):v.cells = [v].toArray:=by obtain ⟨A,c,rfl,_⟩:=Rep.sl h; rfl
theorem Rep.o1 (h:Rep.R w L [v] xs):v.oneCell' = true:=by obtain ⟨A,c,rfl,_⟩:=Rep.sl h; rfl
theorem St.c1 (s:St w0 w O) (u:At O (.row base e (Rep.size α) v xs.length cs)):v.cells = [v].toArray:=by obtain ⟨A,c,rfl⟩:=s.rowV u; rfl
theorem St.o1 (s:St w0 w O) (u:At O (.row base e (Rep.size α) v xs.length cs)):v.oneCell' = true:=by obtain ⟨A,c,rfl⟩:=s.rowV u; rfl
end
/-! ### Ranges over functions in loops: as many deferred records as rounds -/
inductive Arr2:List Ob → List Ob → Prop
  | rest {O:List Ob}:Arr2 O O
  | one {O O1 O' : List Ob} {o:Ob} (h:Out O o O1) (h2:Arr2 O1 O'):Arr2 O (o :: O')
  | drop {O O1 O' : List Ob} {o:Ob} (h:Out O o O1) (h2:Arr2 O1 O'):Arr2 O O'
theorem Arr2.bl {O O' : List Ob} (h:Arr2 O O') {b:Nat} (hb:b ∈ bl O'):b ∈ bl O:=by
  induction h with
  | rest=>exact hb
  | one h _ ih=>
    rcases mem_bl_cons.1 hb with e | e
    · exact h.mem e
    · exact h.del.bl (ih e)
  | drop h _ ih=>exact h.del.bl (ih hb)
theorem Arr2.owns {w:World} {O O' : List Ob} (h:Arr2 O O') (ho:Owns w O):Owns w O' :=by
  induction h with
  | rest=>exact ho
  | one h h2 ih=>
    obtain ⟨h3,h4⟩:=h.get ho
    exact ⟨h3,fun b e hm=>h4 b e (h2.bl hm),ih (h.del.owns ho)⟩
  | drop h h2 ih=>exact ih (h.del.owns ho)
section
variable {P:Program} {Z:Machine → Prop} {b:Frame} {n:Nat} {ds:List Deferred} {cs:List Frame} {k:List Item} {σ τ:List (Nat × Value)} {w w0:World}
theorem bl_append (O1 O2:List Ob):bl (O1 ++ O2) = bl O1 ++ bl O2:=by unfold bl; rw [List.filterMap_append]
end
/-! ### Calls that hand over objects; orders of a drawn region -/
section
variable {w0 w w1 w9:World} {O O' : List Ob}
theorem Owns.merge {w:World} {O:List Ob} (h:Owns w O):∀ {O' : List Ob},Owns w O' → (∀ b ∈ bl O', b ∉ bl O) → Owns w (O' ++ O)
  | [],_,_=>h
  | o :: O', ⟨h1,h2,h3⟩,hd=>⟨h1,fun b e hm=>by
      have hm:b ∈ bl (O' ++ O):=hm
      rw [bl_append] at hm
      rcases List.mem_append.1 hm with hm | hm
      · exact h2 b e hm
      · exact hd b (mem_bl_cons.2 (.inl e)) hm,Owns.merge h h3 fun b hb=>hd b (mem_bl_cons.2 (.inr hb))⟩
theorem St.merge (s:St w0 w O) (s' : St w w1 O'):St w0 w1 (O' ++ O):=⟨s.ag.trans s'.ag,fun b hb=>by
    rw [bl_append] at hb
    rcases List.mem_append.1 hb with hb | hb
    · exact Nat.le_trans s.ag.size (s'.new b hb)
    · exact s.new b hb,Owns.merge (s.ok.keep s'.ag (fun _ _=>by simp)) s'.ok fun b hb hm=>by
      have:=s'.new b hb; have:=s.ok.lt b hm; omega⟩
theorem Tr.merge (_:St w0 w O) (s' : St w w1 O'):Tr w O w1 (O' ++ O):=⟨s'.ag.widen,fun b hb=>by
    rw [bl_append] at hb
    rcases List.mem_append.1 hb with hb | hb
    · exact .inr (s'.new b hb)
    · exact .inl hb⟩
theorem St.from (s:St w9 w1 O') (h:Agree [] w w9):St w w1 O' :=⟨h.trans s.ag,fun b hb=>Nat.le_trans h.size (s.new b hb),s.ok⟩
end
theorem Calls.gives {P:Program} {f:FuncId} {vs:Array Value} {w:World} {R R' : World → Value → Prop} (h:Calls P f vs w (Gives w R)) (hR:∀ w' v,R w' v → R' w' v):Calls P f vs w (Gives w R'):=h.mono fun _ w' ⟨v,e,h1,h2⟩=>⟨v,e,hR w' v h1,h2⟩
def AllL (p:Nat → Prop):List Nat → Prop
  | []=>True
  | i :: l=>p i∧AllL p l
theorem AllL.mem {p:Nat → Prop}:∀ {l:List Nat},AllL p l → ∀ i ∈ l,p i
  | _ :: _,⟨h1,h2⟩,i,hi=>by
    rcases List.mem_cons.1 hi with rfl | hi
    · exact h1
    · exact AllL.mem h2 i hi
section
variable {P:Program} {Z:Machine → Prop} {b:Frame} {n:Nat} {ds:List Deferred} {cs:List Frame} {k:List Item} {σ τ:List (Nat × Value)} {w w0:World} {ops:Array Oper} {t f m m' i:Nat} {d:Nat} {ty:TypeId} {ps:String} {af:Array Edge} {g:Option (Nat × Bool)} {κ:KP}
theorem RD.each (rs:List Nat) (hr:readyB ops m rs = true) (h:AllL (RO κ P Z b n ds cs ops t f m k σ w) rs) (hk:κ.nd (lst ops.size m) → Kp κ.c w:=by exact KP.triv):RD κ P Z b n ds cs ops t (f + 1) m k σ w:=RD.all hr h.mem hk
end
end Go.Proofs.YtfccehcnajelgaaGreatDoor
