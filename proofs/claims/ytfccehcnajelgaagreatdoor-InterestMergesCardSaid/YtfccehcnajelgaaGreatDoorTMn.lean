/- Laws of the walk: ranges over maps, whatever the order. No program in sight. -/
import Derived.Test.YtfccehcnajelgaaGreatDoorTMk
import Derived.Maps.RangeRun
namespace Go.Proofs.YtfccehcnajelgaaGreatDoor
open Go Go.RowKit
def iterO (bm n:Nat) (sn:Array Nat):Obj:=.mapIter (some bm) n sn n
def left {ε:Type} (D:List ε) (sn:Array Nat):List ε:=(D.zipIdx.filter fun e=>!sn.contains e.2).map (·.1)
def picks {ε:Type}:List ε → List (ε × List ε)
  | []=>[]
  | x :: xs=>(x,xs) :: (picks xs).map fun e=>(e.1,x :: e.2)
theorem picks_at {ε:Type} (D:List ε) (k i:Nat) (q:Nat → Bool) (hi:i < D.length) (hq:q (k + i) = true) :
    (D[i],((D.zipIdx k).filter fun e=>q e.2 && !(e.2 == k + i)).map (·.1)) ∈ picks (((D.zipIdx k).filter fun e=>q e.2).map (·.1)):=by
  induction D generalizing k i with
  | nil=>simp at hi
  | cons x D ih=>
    rw [List.zipIdx_cons]
    cases i with
    | zero=>
      rw [List.filter_cons_of_pos (by simpa using hq),List.filter_cons_of_neg (by simp),List.map_cons,picks]
      refine List.mem_cons.2 (.inl ?_)
      congr 1
      have:∀ e ∈ D.zipIdx (k + 1),(q e.2 && !(e.2 == k + 0)) = q e.2:=fun e he=>by
        have:=List.le_snd_of_mem_zipIdx he
        have h2:(e.2 == k + 0) = false:=by rw [beq_eq_false_iff_ne]; omega
        rw [h2]; simp
      rw [List.filter_congr this]
    | succ i=>
      have h1:=ih (k + 1) i (by simpa using hi) (by rw [← hq]; congr 1; omega)
      rw [show k + 1 + i = k + (i + 1) by omega] at h1
      by_cases hk:q k = true
      · rw [List.filter_cons_of_pos (by simpa using hk),List.filter_cons_of_pos (by simp [hk]),List.map_cons,List.map_cons,picks]
        exact List.mem_cons.2 (.inr (List.mem_map.2 ⟨_,h1,rfl⟩))
      · rw [List.filter_cons_of_neg (by simpa using hk),List.filter_cons_of_neg (by simp [hk])]
        exact h1
theorem left_pick {ε:Type} (D:List ε) (sn:Array Nat) (i:Nat) (hi:i < D.length) (hn:sn.contains i = false):(D[i],left D (sn.push i)) ∈ picks (left D sn):=by
  have:=picks_at D 0 i (fun j=>!sn.contains j) hi (by simpa using hn)
  unfold left
  refine cast ?_ this
  congr 2
  congr 1
  refine List.filter_congr fun e _=>?_
  by_cases h:e.2 = i <;> simp [h]
section
variable {P:Program} {Z:Machine → Prop} {b:Frame} {n:Nat} {ds:List Deferred} {cs:List Frame} {k:List Item} {σ τ:List (Nat × Value)} {w w0:World} {ops:Array Oper} {l:List Oper} {d:Nat} {ty:TypeId} {ps:String} {af:Array Edge} {x:Operand} {t:TypeId} {O O' : List Ob} {dd:Option Tmp} {g:Option (Nat × Bool)}
variable {κ ν:Type} [Enc κ] [Enc ν]
theorem mapEs_mem {D:List (κ × ν)} {e:MapEntry} (h:e ∈ mapEs D 0):∃ (i:Nat) (hi:i < D.length),e.born = i∧e.key = Enc.enc D[i].1∧e.val = Enc.enc D[i].2:=by
  unfold mapEs at h
  obtain ⟨⟨z,i⟩,h1,h4⟩:=List.mem_map.1 h
  obtain ⟨h2,h3,h5⟩:=List.mem_zipIdx h1
  simp only [Nat.sub_zero] at h5
  have hi:i < D.length:=by omega
  subst h4
  exact ⟨i,hi,rfl,by simp only [h5],by simp only [h5]⟩
theorem left_none {D:List (κ × ν)} {sn:Array Nat} (h:(leftOf (mapEs D 0).toArray sn).size = 0):left D sn = []:=by
  have h2:∀ e ∈ mapEs D 0,sn.contains e.born = true:=fun e he=>by
    have h3:leftOf (mapEs D 0).toArray sn = #[]:=Array.eq_empty_of_size_eq_zero h
    unfold leftOf at h3
    rw [Array.filter_eq_empty_iff] at h3
    simpa using h3 e (by simpa using he)
  unfold left
  rw [List.map_eq_nil_iff,List.filter_eq_nil_iff]
  rintro ⟨z,i⟩ hz
  have:=h2 { key:=Enc.enc z.1,val:=Enc.enc z.2,born:=i } (List.mem_map.2 ⟨(z,i),hz,rfl⟩)
  simpa using this
theorem left_some {D:List (κ × ν)} {sn:Array Nat} {e:MapEntry} (h:e ∈ (leftOf (mapEs D 0).toArray sn).toList):∃ (i:Nat) (hi:i < D.length),e.born = i∧e.key = Enc.enc D[i].1∧e.val = Enc.enc D[i].2∧sn.contains i = false:=by
  unfold leftOf at h
  rw [Array.mem_toList_iff,Array.mem_filter] at h
  obtain ⟨i,hi,h1,h2,h3⟩:=mapEs_mem (D:=D) (by simpa using h.1)
  exact ⟨i,hi,h1,h2,h3,by have:=h.2; rw [h1] at this; simpa using this⟩
def Nexts (w0 w:World) (O:List Ob) (D:List (κ × ν)) (sn:Array Nat) (F:Array Nat → List Ob) (u:Value) (w1:World):Prop:=
  left D sn = []∧u = .tuple #[.bool false]∧St w0 w1 O∧Tr w O w1 O ∨ ∃ (i:Nat) (hi:i < D.length),sn.contains i = false∧u = .tuple #[.bool true,Enc.enc D[i].1,Enc.enc D[i].2]∧St w0 w1 (F (sn.push i))∧Tr w O w1 (F (sn.push i))
theorem DoesL.next {bm r:Nat} {D:List (κ × ν)} {sn:Array Nat} {F:Array Nat → List Ob} (s:St w0 w O) (um:At O (.obj bm (mapO D))) (u:∀ sn', Upd O (.obj r (iterO bm D.length sn)) (.obj r (iterO bm D.length sn')) (F sn')) (hx:ev σ x = some (.pointer (some ⟨r,0,none⟩))):DoesL P ⟨dd,.next x false,ty,ps,af,g⟩ σ w (Nexts w0 w O D sn F):=fun ρ ha w' hw=>by
  have hb:w'.heap[bm]? = some (mapO D):=blk_keep0 hw (s.get um.upd)
  rw [mapO_es] at hb
  have hr:w'.heap[r]? = some (iterO bm D.length sn):=blk_keep0 hw (s.get (u sn))
  unfold iterO at hr
  have hold:∀ z ∈ (mapEs D 0).toArray.toList,z.born < D.length:=fun z hz=>by
    obtain ⟨i,hi,h1,_⟩:=mapEs_mem (by simpa using hz)
    omega
  rcases run_next_at (P:=P) w' ty r bm D.length D.length sn (mapEs D 0).toArray D.length hr hb hold (Nat.le_refl _) with ⟨h0,hrun⟩ | ⟨e,he,w1,hw1,hrun⟩
  · exact ⟨_,w', by simp [execOp,ha _ _ hx,hrun],.inl ⟨left_none h0,rfl,s.agree hw,Tr.agree hw⟩⟩
  · obtain ⟨i,hi,h1,h2,h3,h4⟩:=left_some he
    have hag:Agree [] w w1:=by
      rcases hw1 with rfl | rfl
      · exact hw
      · exact hw.trans (Agree.drew w' [] _)
    obtain ⟨g1,g2⟩:=upd_put s (u (sn.push i)) hag
    refine ⟨_,w1.putObj r (iterO bm D.length (sn.push i)),?_,.inr ⟨i,hi,h4,rfl,g1,g2⟩⟩
    rw [h1,h2,h3] at hrun
    simp only [execOp,ha _ _ hx]
    simp [hrun]
    rfl
theorem RG.next {bm r:Nat} {D:List (κ × ν)} {sn:Array Nat} {F:Array Nat → List Ob} {rest:List (κ × ν)} (s:St w0 w O) (um:At O (.obj bm (mapO D))) (u:∀ sn', Upd O (.obj r (iterO bm D.length sn)) (.obj r (iterO bm D.length sn')) (F sn')) (hx:ev σ x = some (.pointer (some ⟨r,0,none⟩))) (hd:Nat.blt d n = true) (hrest:left D sn = rest)
    (h0:∀ w1,rest = [] → St w0 w1 O → Tr w O w1 O → RG P Z b n ds cs ops l k ((d,.tuple #[.bool false]) :: σ) w1)
    (h1:∀ w1 i (e:κ × ν) rest', D[i]? = some e → (e,rest') ∈ picks rest → left D (sn.push i) = rest' → St w0 w1 (F (sn.push i)) → Tr w O w1 (F (sn.push i)) → RG P Z b n ds cs ops l k ((d,.tuple #[.bool true,Enc.enc e.1,Enc.enc e.2]) :: σ) w1) :
    RG P Z b n ds cs ops (⟨some d,.next x false,ty,ps,af,none⟩ :: l) k σ w:=
  RG.doesL .plain hd (DoesL.next s um u hx) fun v w1 q=>by
    rcases q with ⟨a1,rfl,a3,a4⟩ | ⟨i,hi,a1,rfl,a3,a4⟩
    · exact h0 w1 (hrest.symm.trans a1) a3 a4
    · exact h1 w1 i D[i] _ (List.getElem?_eq_getElem hi) (hrest ▸ left_pick D sn i hi a1) rfl a3 a4
end
@[reducible] def vW (x:Int):Value:=.int .u64 x
@[reducible] def vU (x:UInt64):Value:=.int .u64 (x.toNat:Int)
@[reducible] def zL:List Value:=[vW 0,vW 0,vW 0,vW 0,vW 0,vW 0,vW 0,vW 0,vW 0,vW 0,vW 0,vW 0,vW 0,vW 0,vW 0,vW 0]
@[reducible] def zM:Array Value:=#[vW 0,vW 0,vW 0,vW 0,vW 0,vW 0,vW 0,vW 0,vW 0,vW 0,vW 0,vW 0,vW 0,vW 0,vW 0,vW 0]
@[reducible] def zP:List Value:=[vW 0,vW 0,vW 0,vW 0,vW 0,vW 0,vW 0,vW 0]
@[reducible] def zQ:Array Value:=#[vW 0,vW 0,vW 0,vW 0,vW 0,vW 0,vW 0,vW 0]
section
variable {P:Program} {Z:Machine → Prop} {b:Frame} {n:Nat} {ds:List Deferred} {cs:List Frame} {k:List Item} {σ:List (Nat × Value)} {w:World} {T:List (Nat × Nat × Nat)} {ops:Array Oper} {m m' i t W:Nat}
theorem rk {rs:List Nat} (hT:tabs ops = T) (h:readyD T m rs = true:=by kernel_rfl):readyB ops m rs = true:=readyD_ok hT h
theorem dk (hT:tabs ops = T) (h:doneD T m = true:=by kernel_rfl):Region.ready .any ops (lst ops.size m) = []:=doneD_ok hT h
theorem sk (hT:tabs ops = T) (h:stepC T m i m' = true:=by kernel_rfl):stepB ops.size m i m' = true:=stepC_ok hT h
theorem tk (hT:tabs ops = T) (h:takeC T t m W i m' = true:=by kernel_rfl):takeB ops t m W i m' = true:=takeC_ok hT h
theorem dt {id:Nat} {l:List Oper} (t:Nat) (T:List (Nat × Nat × Nat)) (h:tabs l.toArray = T → plainB l.toArray = true → RD kp0 P Z b n ds cs l.toArray t l.length 0 k σ w) (hT:tabs l.toArray = T:=by kernel_rfl) (hm:P.follows .mixedOrders = true:=by kernel_rfl) (hp:plainB l.toArray = true:=by kernel_rfl):MX P Z b n ds cs (.code (.region id l.toArray true) :: k) σ w:=MX.drawT t T hT hm hp h
end
theorem Tt {w1 w2 w3:World} {O1 O2 O3:List Ob} (h:Tr w1 O1 w2 O2) (k:Tr w2 O2 w3 O3):Tr w1 O1 w3 O3:=h.trans k
theorem bi {α β:Type} {x:Option α} {f:α → Option β} {r:β} (h:x.bind f = some r):∃ y,x = some y∧f y = some r:=bind_in h
abbrev Aa:=@RG.nil
abbrev Ab:=@RG.va
abbrev Ac:=@RG.mo
abbrev Ae:=@MX.sr
abbrev Af:=@RG.so
abbrev Ag:=@FV.extract
abbrev Ah:=@RD.vw
abbrev Ai:=@FV.move
abbrev Aj:=@MX.seq
abbrev Ak:=@MX.ret
abbrev Al:=@RG.new
abbrev Am:=@MX.region
abbrev Ao:=@RT.leave
abbrev Ap:=@MX.skip
abbrev Aq:=@Cells.cons
abbrev Ar:=@MX.block
abbrev Au:=@RG.no
abbrev Av:=@MX.inBlock
abbrev Aw:=@Rep.keep0
abbrev Ax:=@Does.box
abbrev Ay:=@Rep.mv
abbrev Az:=@Acts.storeAll
abbrev AA:=@St.start
abbrev AB:=@Cells.at_
abbrev AC:=@MX.start
abbrev AD:=@Does.al
abbrev AE:=@RD.vx
abbrev AF:=@Cells.mv
abbrev AG:=@FV.lN
abbrev AH:=@FV.l1
abbrev AI:=@Rep.mv0
abbrev AJ:=@St.arrB
abbrev AK:=@RD.done
abbrev AL:=@MX.drawT
abbrev AM:=@Cells.nil
abbrev AN:=@RG.ga
abbrev AO:=@MX.ifd
abbrev AP:=@Tr.refl
abbrev AQ:=@RT.t1
abbrev AR:=@Rep.lenle
abbrev AS:=@FV.pick_f
abbrev AT:=@FV.indexArr
abbrev AU:=@MX.exit
abbrev AV:=@Does.build
abbrev AW:=@FV.buildV
abbrev AX:=@FV.assign
abbrev AY:=@RG.sa
abbrev AZ:=@FV.len
abbrev Ba:=@RG.l1
abbrev Bb:=@RG.cq
abbrev Bc:=@MX.loop
abbrev Bd:=@FV.lssN
abbrev Be:=@RG.fa
abbrev Bf:=@MX.cond_t
abbrev Bg:=@RD.offs
abbrev Bh:=@Rep.o1
abbrev Bi:=@FV.addN
abbrev Bj:=@FV.fa
abbrev Bk:=@Rep.nth
abbrev Bl:=@Calls.okp
abbrev Bm:=@RG.call'
abbrev Bn:=@FV.ia
abbrev Bo:=@MX.cond_f
abbrev Bp:=@FV.loadN
abbrev Bq:=@PN.leave
abbrev Br:=@RG.enterP
abbrev Bs:=@FV.len_string
abbrev Bu:=@St.freeze
abbrev Bv:=@FV.not
abbrev Bw:=@RG.callE
abbrev Bx:=@RG.pt
abbrev By:=@RD.nw
abbrev Bz:=@Acts.store
abbrev BA:=@RG.pf
abbrev BB:=@RD.one
abbrev BC:=@RD.cl
end Go.Proofs.YtfccehcnajelgaaGreatDoor
