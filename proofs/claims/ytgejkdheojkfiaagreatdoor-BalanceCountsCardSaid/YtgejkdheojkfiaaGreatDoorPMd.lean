/- Regions that draw their order: whatever order is drawn, operations that leave old memory alone may be walked as the text has them. No program in sight. -/
import Derived.Test.YtgejkdheojkfiaaGreatDoorPMw
import Derived.OrdersHeld
namespace Go.Proofs.YtgejkdheojkfiaaGreatDoor
open Go Go.RowKit
def plainB (ops:Array Oper):Bool:=ops.all fun o=>match o.op with
  | .select _ _=>false
  | .defer _=>false
  | _=>true
theorem plainB_spec {ops:Array Oper} (h:plainB ops = true) {i:Nat} {o:Oper} (hi:ops[i]? = some o):(∀ cs b,o.op ≠ .select cs b)/\∀ c,o.op ≠ .defer c:=by
  unfold plainB at h
  rw [Array.all_eq_true_iff_forall_mem] at h
  have:=h o (Array.mem_of_getElem? hi)
  constructor
  · intro cs b e; rw [e] at this; cases this
  · intro c e; rw [e] at this; cases this
@[reducible] def pan (v:Value):List PanicEntry:=[{ v,recovered:=false }]
def PN (P:Program) (Z:Machine -> Prop) (b:Frame) (n:Nat) (ds:List Deferred) (cs:List Frame) (ch:List PanicEntry) (σ:List (Nat × Value)) (w:World):Prop:=
  ∀ a w' todo,Fr n ds σ a -> Agree [] w w' -> Reach P Z (lone { b.atR a todo with mode:=.panicking ch } cs w')
structure RegEnv where
  pan:List PanicEntry -> World -> Prop
  rnd:Nat -> FuncId -> Array Value -> Code -> Code -> World -> (Value -> World -> Prop) -> Prop
section
variable (P:Program) (Y:RegEnv) (ops:Array Oper)
def OpW (o:Oper) (a:Act) (w:World) (K:Act -> World -> Prop):Prop:=match (execOp a.eval o).run P w with
  | .ok (.value v) w' =>K (a.put o.dst v) w'
  | .ok .skip w' =>K (a.put o.dst undef) w'
  | .ok (.enter f vs) w' =>Calls P f vs w' fun e w'' =>(∃ v,e = .returned v/\K (a.put o.dst v) w'') ∨ ∃ ch,e = .panicked ch/\Y.pan ch w''
  | .ok (.round lk f tm as bd) w' =>∃ Q:Value -> World -> Prop,Y.rnd lk f tm as bd w' Q/\∀ v w'', Q v w'' -> K (a.put o.dst v) w''
  | _=>False
def OpI (i:Nat) (K:Act -> World -> Prop) (a:Act) (w:World):Prop:=match ops[i]? with
  | none=>K a w
  | some o=>if Region.wanted o (yielded ops a.tmps) = true then OpW P Y o a w K else K (a.put o.dst undef) w
structure KP where
  c:List (Nat × List Value)
  d:List Nat
def Kp:List (Nat × List Value) -> World -> Prop
  | [],_=>True
  | (b,cs) :: r,w=>(∀ j v,cs[j]? = some v -> w.cell? ((⟨b,0,none⟩:Addr).add j) = some v)/\Kp r w
def KP.nd (κ:KP) (listed:Array Bool):Prop:=∃ j ∈ κ.d,listed.getD j true = false
def KP.free (κ:KP) (i:Nat):Bool:=κ.d.all fun j=>!Nat.beq j i
def kp0:KP:=⟨[],[]⟩
def AnyT (tl:Nat -> Bool) (κ:KP) (K:Act -> World -> Prop):Nat -> Array Bool -> Act -> World -> Prop
  | 0,listed,a,w=>∀ w', Agree [] w w' -> Region.ready .any ops listed = []/\K a w'
  | f + 1,listed,a,w=>∀ w', Agree [] w w' -> (Region.ready .any ops listed = [] -> K a w')/\
      ∀ i ∈ Region.ready .any ops listed,OpI P Y ops i (fun a' w'' =>(tl i = false -> Agree [] w' w'')/\(κ.nd (listed.setIfInBounds i true) -> Kp κ.c w'')/\AnyT tl κ K f (listed.setIfInBounds i true) a' w'') a w'
end
section
variable {P:Program} {Y:RegEnv} {ops:Array Oper} {tl:Nat -> Bool} {κ:KP} {K:Act -> World -> Prop} {o:Oper}
theorem OpW.mono {a:Act} {w:World} {K K' : Act -> World -> Prop} (h:∀ a w,K a w -> K' a w) (hh:OpW P Y o a w K):OpW P Y o a w K' :=by
  unfold OpW at *
  split at hh
  · exact h _ _ hh
  · exact h _ _ hh
  · exact hh.mono fun e w'' hd=>hd.imp (fun ⟨v,e1,hk⟩=>⟨v,e1,h _ _ hk⟩) id
  · obtain ⟨Q,h1,h2⟩:=hh; exact ⟨Q,h1,fun v w'' hq=>h _ _ (h2 v w'' hq)⟩
  · exact hh.elim
theorem OpI.mono {i:Nat} {a:Act} {w:World} {K K' : Act -> World -> Prop} (h:∀ a w,K a w -> K' a w) (hh:OpI P Y ops i K a w):OpI P Y ops i K' a w:=by
  unfold OpI at *
  split
  · rename_i hn; rw [hn] at hh; exact h _ _ hh
  · rename_i o hn
    rw [hn] at hh
    simp only at hh
    split
    · rename_i hw; rw [if_pos hw] at hh; exact hh.mono h
    · rename_i hw; rw [if_neg hw] at hh; exact h _ _ hh
theorem Kp.agree {w w' : World} (hw:Agree [] w w'):∀ {c:List (Nat × List Value)},Kp c w -> Kp c w'
  | [],_=>trivial
  | (_,_) :: _,h=>⟨fun j v hv=>hw.cell0 (h.1 j v hv),Kp.agree hw h.2⟩
theorem KP.nd_of {listed:Array Bool} {i:Nat} (h:κ.nd (listed.setIfInBounds i true)):κ.nd listed:=by
  obtain ⟨j,hj,h1⟩:=h
  refine ⟨j,hj,?_⟩
  by_cases hij:i = j
  · subst hij
    rcases Nat.lt_or_ge i listed.size with h' | h'
    · simp [h'] at h1
    · simp [Array.getElem?_eq_none h'] at h1
  · rwa [getD_set_ne true hij] at h1
theorem KP.nd_in {listed:Array Bool} {i j:Nat} (hf:κ.free i = true) (h:κ.nd (listed.setIfInBounds j true)):κ.nd ((listed.setIfInBounds i true).setIfInBounds j true):=by
  obtain ⟨q,hq,h1⟩:=h
  have hne:i ≠ q:=fun e=>by
    have:=List.all_eq_true.1 hf q hq
    rw [e] at this
    simp at this
  refine ⟨q,hq,?_⟩
  by_cases hjq:j = q
  · subst hjq
    rcases Nat.lt_or_ge j listed.size with h' | h'
    · simp [h'] at h1
    · simp [Array.getElem?_eq_none h'] at h1
  · rw [getD_set_ne true hjq] at h1 ⊢
    rwa [getD_set_ne true hne]
theorem AnyT.agree {f:Nat} {listed:Array Bool} {a:Act} {w w1:World} (h:AnyT P Y ops tl κ K f listed a w) (hw:Agree [] w w1):AnyT P Y ops tl κ K f listed a w1:=by
  cases f with
  | zero=>exact fun w' hw' =>h w' (hw.trans hw')
  | succ f=>exact fun w' hw' =>h w' (hw.trans hw')
theorem put_size (a:Act) (d:Option Tmp) (v:Value):(a.put d v).tmps.size = a.tmps.size/\(a.put d v).defers = a.defers:=by
  cases d <;> simp [Act.put]
def RoundsOk (P:Program) (Y:RegEnv) (b:Frame) (n:Nat) (ds:List Deferred) (cs:List Frame):Prop:=∀ lk f tm as bd w' Q,Y.rnd lk f tm as bd w' Q -> ∀ (a:Act) (l:List Item),a.tmps.size = n -> a.defers = ds ->
  (∃ v w'', Q v w'' /\Steps P (lone (Frame.round lk f tm as bd .normal) (b.atR a l :: cs) w') (lone ((b.atR a l).finish v) cs w'')) ∨ ∃ ch w'', Y.pan ch w'' /\Steps P (lone (Frame.round lk f tm as bd .normal) (b.atR a l :: cs) w') (lone { b.atR a l with mode:=.panicking ch } cs w'')
theorem OpI.steps {b:Frame} {k:List Item} {cs:List Frame} {i:Nat} {rest:List Nat} {a:Act} {w:World} {n:Nat} {ds:List Deferred} (hY:RoundsOk P Y b n ds cs) (hsz:a.tmps.size = n) (hdf:a.defers = ds) (hp:plainB ops = true) (h:OpI P Y ops i K a w) :
    (∃ a' w', K a' w' /\a'.tmps.size = a.tmps.size/\a'.defers = a.defers/\Steps P (lone (b.atR a (.inRegion ops (i :: rest) :: k)) cs w) (lone (b.atR a' (.inRegion ops rest :: k)) cs w')) ∨
    ∃ ch w', Y.pan ch w' /\Steps P (lone (b.atR a (.inRegion ops (i :: rest) :: k)) cs w) (lone { b.atR a (.inRegion ops (i :: rest) :: k) with mode:=.panicking ch } cs w'):=by
  unfold OpI at h
  split at h
  · rename_i hn
    refine .inl ⟨a,w,h,rfl,rfl,Steps.one ?_⟩
    have:=stepR_op_skip (P:=P) (b:=b) (a:=a) (k:=k) (cs:=cs) (w:=w) (ops:=ops) (i:=i) (rest:=rest) (by simp [hn])
    simpa [hn,Act.put] using this
  · rename_i o hn
    split at h
    · rename_i hw
      unfold OpW at h
      have hs:∀ r:Option Nat,o.semAt r a.eval = execOp a.eval o:=fun r=>Oper.semAt_eq _ _ _ (plainB_spec hp hn).2
      split at h
      · rename_i v w' hr; exact .inl ⟨_,_,h,(put_size a o.dst v).1,(put_size a o.dst v).2,Steps.one (step_value hn hw (by rw [hs]; exact hr))⟩
      · rename_i w' hr; exact .inl ⟨_,_,h,(put_size a o.dst undef).1,(put_size a o.dst undef).2,Steps.one (step_skip' hn hw (by rw [hs]; exact hr))⟩
      · rename_i f vs w' hr
        obtain ⟨e,w1,fr,hd,hst,_,hl⟩:=h (b.atR a (.inRegion ops (i :: rest) :: k) :: cs)
        rcases hd with ⟨v,rfl,hK⟩ | ⟨ch,rfl,hY⟩
        · refine .inl ⟨_,_,hK,(put_size a o.dst v).1,(put_size a o.dst v).2,Steps.head (step_enter hn hw (by rw [hs]; exact hr)) (Steps.trans hst (Steps.one ?_))⟩
          have:=step_leave_returned (P:=P) (c:=b.atR a (.inRegion ops (i :: rest) :: k)) (cs:=cs) hl
          rw [Frame.finish_atR,hn] at this
          exact this
        · refine .inr ⟨ch,w1,hY,Steps.head (step_enter hn hw (by rw [hs]; exact hr)) (Steps.trans hst (Steps.one ?_))⟩
          have:=step_leave_panicked (P:=P) (c:=b.atR a (.inRegion ops (i :: rest) :: k)) (cs:=cs) hl
          rwa [Frame.raise_atR] at this
      · rename_i lk f tm as bd w' hr
        obtain ⟨Q,h1,h2⟩:=h
        rcases hY _ _ _ _ _ _ _ h1 a (.inRegion ops (i :: rest) :: k) hsz hdf with ⟨v,w2,hq,hst⟩ | ⟨ch,w2,hy,hst⟩
        · refine .inl ⟨_,_,h2 v w2 hq,(put_size a o.dst v).1,(put_size a o.dst v).2,Steps.head (step_round hn hw (by rw [hs]; exact hr)) ?_⟩
          rw [Frame.finish_atR,hn] at hst
          exact hst
        · exact .inr ⟨ch,w2,hy,Steps.head (step_round hn hw (by rw [hs]; exact hr)) hst⟩
      · exact h.elim
    · rename_i hw
      refine .inl ⟨_,w,h,(put_size a o.dst undef).1,(put_size a o.dst undef).2,Steps.one ?_⟩
      have:=stepR_op_skip (P:=P) (b:=b) (a:=a) (k:=k) (cs:=cs) (w:=w) (ops:=ops) (i:=i) (rest:=rest) (by simp [hn]; simpa using hw)
      rw [hn] at this
      exact this
theorem AnyT.sound {b:Frame} {k:List Item} {cs:List Frame} {n:Nat} {ds:List Deferred} (hY:RoundsOk P Y b n ds cs) (hp:plainB ops = true):∀ (f t:Nat) (listed:Array Bool) (a:Act) (w:World),a.tmps.size = n -> a.defers = ds -> AnyT P Y ops tl κ K f listed a w ->
    (∃ a' w', K a' w' /\Steps P (lone (b.atR a (.inRegion ops (Region.linearise.go .any ops f t listed []) :: k)) cs w) (lone (b.atR a' (.inRegion ops [] :: k)) cs w')) ∨
    ∃ ch w' a' l,Y.pan ch w' /\a'.tmps.size = a.tmps.size/\a'.defers = a.defers/\Steps P (lone (b.atR a (.inRegion ops (Region.linearise.go .any ops f t listed []) :: k)) cs w) (lone { b.atR a' l with mode:=.panicking ch } cs w'):=by
  intro f
  induction f with
  | zero=>intro t listed a w _ _ h; exact .inl ⟨a,w,(h w (Agree.refl _ _)).2,by simpa [Region.linearise.go] using Steps.refl P _⟩
  | succ f ih=>
    intro t listed a w gsz gdf h
    obtain ⟨h0,h1⟩:=h w (Agree.refl _ _)
    simp only [Region.linearise.go]
    change (∃ a' w', K a' w' /\Steps P (lone (b.atR a (.inRegion ops (match (Region.ready .any ops listed)[t % (Region.ready .any ops listed).length]? with
      | some i=>Region.linearise.go .any ops f (t / (Region.ready .any ops listed).length) (listed.setIfInBounds i true) [i]
      | none=>[].reverse) :: k)) cs w) _) ∨ ∃ (ch:List PanicEntry) (w' : World) (a' : Act) (l:List Item),Y.pan ch w' /\a'.tmps.size = a.tmps.size/\a'.defers = a.defers/\Steps P (lone (b.atR a (.inRegion ops (match (Region.ready .any ops listed)[t % (Region.ready .any ops listed).length]? with
      | some i=>Region.linearise.go .any ops f (t / (Region.ready .any ops listed).length) (listed.setIfInBounds i true) [i]
      | none=>[].reverse) :: k)) cs w) _
    cases hi:(Region.ready .any ops listed)[t % (Region.ready .any ops listed).length]? with
    | none=>
      have hnil:Region.ready .any ops listed = []:=by
        cases hr:Region.ready .any ops listed with
        | nil=>rfl
        | cons x xs=>
          rw [hr] at hi
          have hlt:t % (x :: xs).length < (x :: xs).length:=Nat.mod_lt _ (by simp)
          simp at hi
          simp at hlt
          omega
      exact .inl ⟨a,w,h0 hnil,by simpa using Steps.refl P _⟩
    | some i=>
      simp only []
      rw [linearise_go_acc,List.reverse_singleton,List.singleton_append]
      rcases (h1 i (List.mem_of_getElem? hi)).steps (b:=b) (k:=k) (cs:=cs) hY gsz gdf hp (rest:=Region.linearise.go .any ops f (t / (Region.ready .any ops listed).length) (listed.setIfInBounds i true) []) with ⟨a', w', ⟨_,_,hk⟩,hsz,hdf,hs⟩ | ⟨ch,w', hY,hs⟩
      · rcases ih _ _ a' w' (hsz.trans gsz) (hdf.trans gdf) hk with ⟨a2,w2,hK,hs2⟩ | ⟨ch,w2,a2,l,hY,hsz2,hdf2,hs2⟩
        · exact .inl ⟨a2,w2,hK,Steps.trans hs hs2⟩
        · exact .inr ⟨ch,w2,a2,l,hY,hsz2.trans hsz,hdf2.trans hdf,Steps.trans hs hs2⟩
      · exact .inr ⟨ch,w', a,_,hY,rfl,rfl,hs⟩
def YQ (P:Program) (o:Oper) (v:Value) (a:Act) (w:World):Prop:=∀ w', Agree [] w w' -> ((execOp a.eval o).run P w' = .ok (.value v) w') ∨ (∃ f vs,(execOp a.eval o).run P w' = .ok (.enter f vs) w' /\Calls P f vs w' fun e w'' =>e = .returned v/\Agree [] w' w'')
def YT (P:Program) (ops:Array Oper) (o:Oper) (v:Value) (a:Act) (w:World):Prop:=(Region.wanted o (yielded ops a.tmps) = true/\YQ P o v a w) ∨ (Region.wanted o (yielded ops a.tmps) = false/\v = undef)
theorem YT.agree {v:Value} {a:Act} {w w1:World} (h:YT P ops o v a w) (hw:Agree [] w w1):YT P ops o v a w1:=h.imp (fun ⟨h1,h2⟩=>⟨h1,fun w' hw' =>h2 w' (hw.trans hw')⟩) id
theorem YT.same {v:Value} {a a' : Act} {w:World} (h:YT P ops o v a w) (he:execOp a'.eval o = execOp a.eval o) (hw:Region.wanted o (yielded ops a'.tmps) = Region.wanted o (yielded ops a.tmps)):YT P ops o v a' w:=by
  unfold YT YQ at *; rw [he,hw]; exact h
theorem YT.opI {i:Nat} {v:Value} {a:Act} {w w' : World} (hi:ops[i]? = some o) (h:YT P ops o v a w) (hw:Agree [] w w') (hK:∀ w'', Agree [] w' w'' -> K (a.put o.dst v) w''):OpI P Y ops i K a w' :=by
  unfold OpI
  rw [hi]
  simp only
  rcases h with ⟨h1,h2⟩ | ⟨h1,rfl⟩
  · rw [if_pos h1]
    unfold OpW
    rcases h2 w' hw with h3 | ⟨f,vs,h3,h4⟩
    · rw [h3]; exact hK _ (Agree.refl _ _)
    · rw [h3]; exact h4.mono fun e w'' ⟨e1,hag⟩=>.inl ⟨v,e1,hK _ hag⟩
  · rw [if_neg (by rw [h1]; simp)]; exact hK _ (Agree.refl _ _)
theorem OpI.put {j:Nat} {oi oj:Oper} {v:Value} {a:Act} {w w' : World} (hj:ops[j]? = some oj) (hap:oi.apart ops oj = true) (hsi:∀ cs b,oi.op ≠ .select cs b) (hsj:∀ cs b,oj.op ≠ .select cs b) (_hdj:∀ c,oj.op ≠ .defer c)
    (hy:YT P ops oi v a w) (h:OpI P Y ops j K (a.put oi.dst v) w'):OpI P Y ops j (fun a' w'' =>YT P ops oi v a' w/\K (a'.put oi.dst v) w'') a w' :=by
  obtain ⟨h1,h2,h3⟩:=Oper.apart_spec hap
  have keep:∀ u,YT P ops oi v (a.put oj.dst u) w:=fun u=>hy.same (execOp_put oi hsi a oj.dst u h3) (wanted_put oi a oj.dst u h3)
  unfold OpI at *
  rw [hj] at *
  simp only at *
  rw [wanted_put oj a oi.dst v h1] at h
  split
  · rename_i hw
    rw [if_pos hw] at h
    unfold OpW at *
    rw [execOp_put oj hsj a oi.dst v h1] at h
    split
    · rename_i u w1 hr; rw [hr] at h; exact ⟨keep u,by rw [<- Act.put_comm a v u h2]; exact h⟩
    · rename_i w1 hr; rw [hr] at h; exact ⟨keep _,by rw [<- Act.put_comm a v undef h2]; exact h⟩
    · rename_i f vs w1 hr
      rw [hr] at h
      exact Calls.mono h fun e w'' hd=>hd.imp (fun ⟨u,e1,hk⟩=>⟨u,e1,keep u,by rw [<- Act.put_comm a v u h2]; exact hk⟩) id
    · rename_i lk f tm as bd w1 hr
      rw [hr] at h
      obtain ⟨Q,q1,q2⟩:=h
      exact ⟨Q,q1,fun u w'' hq=>⟨keep u,by rw [<- Act.put_comm a v u h2]; exact q2 u w'' hq⟩⟩
    · rename_i x1 x2 x3 x4
      split at h
      · rename_i hr; exact (x1 _ _ hr).elim
      · rename_i hr; exact (x2 _ hr).elim
      · rename_i hr; exact (x3 _ _ _ hr).elim
      · rename_i hr; exact (x4 _ _ _ _ _ _ hr).elim
      · exact h
  · rename_i hw
    rw [if_neg hw] at h
    exact ⟨keep _,by rw [<- Act.put_comm a v undef h2]; exact h⟩
def waitB (ops:Array Oper) (tl:Nat -> Bool) (m W i:Nat):Bool:=!tl i && (List.range ops.size).all fun j=>(!tl j || m.testBit j || W.testBit j) && (!W.testBit j || (!m.testBit j && (match ops[j]? with
  | some o=>o.after.any fun e=>Region.binds .any e && (e.on == i || (W.testBit e.on && Nat.blt e.on ops.size))
  | none=>false)))
theorem AnyT.first {i:Nat} {oi:Oper} {v:Value} {W:Nat -> Bool} (hi:ops[i]? = some oi) (hp:plainB ops = true) (hfr:κ.free i = true)
    (hC:∀ j oj,ops[j]? = some oj -> W j = true -> ∃ e ∈ oj.after,Region.binds .any e = true/\(e.on = i ∨ (W e.on = true/\e.on < ops.size))) :
    ∀ (f:Nat) (listed:Array Bool) (a:Act) (w:World),
      (∀ j oj,ops[j]? = some oj -> j ≠ i -> listed.getD j true = false -> (∀ e ∈ oj.after,Region.binds .any e = true -> e.on ≠ i) -> oi.apart ops oj = true) ->
      (∀ j oj,ops[j]? = some oj -> tl j = true -> W j = true ∨ listed.getD j true = true) ->
      (∀ j,j < ops.size -> W j = true -> listed.getD j true = false) ->
      i ∈ Region.ready .any ops listed -> YT P ops oi v a w -> (κ.nd listed -> Kp κ.c w) -> (∀ w', Agree [] w w' -> AnyT P Y ops tl κ K f (listed.setIfInBounds i true) (a.put oi.dst v) w') -> AnyT P Y ops tl κ K (f + 1) listed a w:=by
  intro f
  induction f with
  | zero=>
    intro listed a w _ _ _ hr hy hk H w' hw
    refine ⟨fun h=>(by rw [h] at hr; cases hr),fun j hj=>?_⟩
    by_cases hji:j = i
    · subst hji; exact hy.opI hi hw fun w'' hag=>⟨fun _=>hag,fun hn=>Kp.agree (hw.trans hag) (hk (KP.nd_of hn)),H w'' (hw.trans hag)⟩
    · have:=ready_mono hj hji
      rw [(H w' hw w' (Agree.refl _ _)).1] at this
      cases this
  | succ f ih=>
    intro listed a w hfree hA hB hr hy hk H w' hw
    refine ⟨fun h=>(by rw [h] at hr; cases hr),fun j hj=>?_⟩
    by_cases hji:j = i
    · subst hji; exact hy.opI hi hw fun w'' hag=>⟨fun _=>hag,fun hn=>Kp.agree (hw.trans hag) (hk (KP.nd_of hn)),H w'' (hw.trans hag)⟩
    · have h1:=(H w' hw w' (Agree.refl _ _)).2 j (ready_mono hj hji)
      obtain ⟨hjun,oj,hoj,hall⟩:=mem_ready.1 hj
      have hiun:∀ b,listed.getD i b = true -> False:=fun b h1=>by
        have h0:=(mem_ready.1 hr).1
        have hlt:i < listed.size ∨ listed.size <= i:=Nat.lt_or_ge _ _
        rcases hlt with h' | h'
        · simp [h'] at h0 h1; rw [h0] at h1; cases h1
        · simp [Array.getElem?_eq_none h'] at h0
      have hnot:∀ e ∈ oj.after,Region.binds .any e = true -> e.on ≠ i:=fun e he hb heq=>by
        have h1:=hall e he hb
        rw [heq] at h1
        exact hiun _ h1
      have hWj:W j = false:=by
        cases hW:W j
        · rfl
        · obtain ⟨e,he,hb,h3⟩:=hC j oj hoj hW
          rcases h3 with h3 | ⟨h3,h4⟩
          · exact absurd h3 (hnot e he hb)
          · have h5:=hB e.on h4 h3
            have h6:=hall e he hb
            rcases Nat.lt_or_ge e.on listed.size with h' | h'
            · simp [h'] at h5 h6; rw [h5] at h6; cases h6
            · simp [Array.getElem?_eq_none h'] at h5
      have htl:tl j = false:=by
        cases ht:tl j
        · rfl
        · rcases hA j oj hoj ht with h2 | h2
          · rw [hWj] at h2; cases h2
          · rw [hjun] at h2; cases h2
      have h2:=OpI.put hoj (hfree j oj hoj hji hjun hnot) (plainB_spec hp hi).1 (plainB_spec hp hoj).1 (plainB_spec hp hoj).2 hy h1
      have hset:∀ k,(listed.setIfInBounds j true).getD k true = false -> listed.getD k true = false:=fun k hun=>by
        by_cases hjk:j = k
        · subst hjk; exact hjun
        · rw [getD_set_ne true hjk] at hun; exact hun
      have hfree' : ∀ k ok,ops[k]? = some ok -> k ≠ i -> (listed.setIfInBounds j true).getD k true = false ->
          (∀ e ∈ ok.after,Region.binds .any e = true -> e.on ≠ i) -> oi.apart ops ok = true:=fun k ok hk hki hun hno=>hfree k ok hk hki (hset k hun) hno
      have hA' : ∀ k ok,ops[k]? = some ok -> tl k = true -> W k = true ∨ (listed.setIfInBounds j true).getD k true = true:=fun k ok hk ht=>by
        rcases hA k ok hk ht with h3 | h3
        · exact .inl h3
        · right
          cases hq:(listed.setIfInBounds j true).getD k true
          · rw [hset k hq] at h3; cases h3
          · rfl
      have hB' : ∀ k,k < ops.size -> W k = true -> (listed.setIfInBounds j true).getD k true = false:=fun k hk hW=>by
        have hne:j ≠ k:=fun h=>by subst h; rw [hWj] at hW; cases hW
        rw [getD_set_ne true hne]; exact hB k hk hW
      refine h2.mono fun a' w'' ⟨h3,h4,h6,h5⟩=>⟨h4,fun hn=>h6 (KP.nd_in hfr hn),?_⟩
      have hag:=h4 htl
      refine ih (listed.setIfInBounds j true) a' w'' hfree' hA' hB' (ready_mono hr (Ne.symm hji)) (h3.agree (hw.trans hag)) (fun hn=>h6 (KP.nd_in hfr hn)) fun w3 hag3=>?_
      rw [Array.setIfInBounds_comm _ _ hji]
      exact h5.agree hag3
theorem OpI.putP {j:Nat} {oi oj:Oper} {v:Value} {a:Act} {w' : World} (hj:ops[j]? = some oj) (hap:oi.apart ops oj = true) (hsi:∀ cs b,oi.op ≠ .select cs b) (hsj:∀ cs b,oj.op ≠ .select cs b) (_hdj:∀ c,oj.op ≠ .defer c)
    {c:List (Nat × List Value)} (hy:∀ w,Kp c w -> YT P ops oi v a w) (h:OpI P Y ops j K (a.put oi.dst v) w'):OpI P Y ops j (fun a' w'' =>(∀ w,Kp c w -> YT P ops oi v a' w)/\K (a'.put oi.dst v) w'') a w' :=by
  obtain ⟨h1,h2,h3⟩:=Oper.apart_spec hap
  have keep:∀ u w,Kp c w -> YT P ops oi v (a.put oj.dst u) w:=fun u w hk=>(hy w hk).same (execOp_put oi hsi a oj.dst u h3) (wanted_put oi a oj.dst u h3)
  unfold OpI at *
  rw [hj] at *
  simp only at *
  rw [wanted_put oj a oi.dst v h1] at h
  split
  · rename_i hw
    rw [if_pos hw] at h
    unfold OpW at *
    rw [execOp_put oj hsj a oi.dst v h1] at h
    split
    · rename_i u w1 hr; rw [hr] at h; exact ⟨keep u,by rw [<- Act.put_comm a v u h2]; exact h⟩
    · rename_i w1 hr; rw [hr] at h; exact ⟨keep _,by rw [<- Act.put_comm a v undef h2]; exact h⟩
    · rename_i f vs w1 hr
      rw [hr] at h
      exact Calls.mono h fun e w'' hd=>hd.imp (fun ⟨u,e1,hk⟩=>⟨u,e1,keep u,by rw [<- Act.put_comm a v u h2]; exact hk⟩) id
    · rename_i lk f tm as bd w1 hr
      rw [hr] at h
      obtain ⟨Q,q1,q2⟩:=h
      exact ⟨Q,q1,fun u w'' hq=>⟨keep u,by rw [<- Act.put_comm a v u h2]; exact q2 u w'' hq⟩⟩
    · rename_i x1 x2 x3 x4
      split at h
      · rename_i hr; exact (x1 _ _ hr).elim
      · rename_i hr; exact (x2 _ hr).elim
      · rename_i hr; exact (x3 _ _ _ hr).elim
      · rename_i hr; exact (x4 _ _ _ _ _ _ hr).elim
      · exact h
  · rename_i hw
    rw [if_neg hw] at h
    exact ⟨keep _,by rw [<- Act.put_comm a v undef h2]; exact h⟩
theorem AnyT.firstC {i:Nat} {oi:Oper} {v:Value} {c:List (Nat × List Value)} (hi:ops[i]? = some oi) (hp:plainB ops = true) (hfr:κ.free i = true) {D:Array Bool -> Prop} (hD:∀ listed j,D listed -> i ∈ Region.ready .any ops listed -> j ∈ Region.ready .any ops listed -> j ≠ i -> D (listed.setIfInBounds j true)) (hDc:∀ listed w,D listed -> (κ.nd listed -> Kp κ.c w) -> Kp c w) :
    ∀ (f:Nat) (listed:Array Bool) (a:Act) (w:World),
      (∀ j oj,ops[j]? = some oj -> j ≠ i -> listed.getD j true = false -> (∀ e ∈ oj.after,Region.binds .any e = true -> e.on ≠ i) -> oi.apart ops oj = true) ->
      i ∈ Region.ready .any ops listed -> D listed -> (∀ w,Kp c w -> YT P ops oi v a w) -> (κ.nd listed -> Kp κ.c w) -> (∀ w', Agree [] w w' -> AnyT P Y ops tl κ K f (listed.setIfInBounds i true) (a.put oi.dst v) w') -> AnyT P Y ops tl κ K (f + 1) listed a w:=by
  intro f
  induction f with
  | zero=>
    intro listed a w _ hr hd hy hk H w' hw
    refine ⟨fun h=>(by rw [h] at hr; cases hr),fun j hj=>?_⟩
    by_cases hji:j = i
    · subst hji; exact (hy w (hDc _ _ hd hk)).opI hi hw fun w'' hag=>⟨fun _=>hag,fun hn=>Kp.agree (hw.trans hag) (hk (KP.nd_of hn)),H w'' (hw.trans hag)⟩
    · have:=ready_mono hj hji
      rw [(H w' hw w' (Agree.refl _ _)).1] at this
      cases this
  | succ f ih=>
    intro listed a w hfree hr hd hy hk H w' hw
    refine ⟨fun h=>(by rw [h] at hr; cases hr),fun j hj=>?_⟩
    by_cases hji:j = i
    · subst hji; exact (hy w (hDc _ _ hd hk)).opI hi hw fun w'' hag=>⟨fun _=>hag,fun hn=>Kp.agree (hw.trans hag) (hk (KP.nd_of hn)),H w'' (hw.trans hag)⟩
    · have h1:=(H w' hw w' (Agree.refl _ _)).2 j (ready_mono hj hji)
      have hd' :=hD _ j hd hr hj hji
      obtain ⟨hjun,oj,hoj,hall⟩:=mem_ready.1 hj
      have hnot:∀ e ∈ oj.after,Region.binds .any e = true -> e.on ≠ i:=fun e he hb heq=>by
        have h1:=hall e he hb
        have h0:=(mem_ready.1 hr).1
        rw [heq] at h1
        rcases Nat.lt_or_ge i listed.size with h' | h'
        · simp [h'] at h0 h1; rw [h0] at h1; cases h1
        · simp [Array.getElem?_eq_none h'] at h1
      have h2:=OpI.putP hoj (hfree j oj hoj hji hjun hnot) (plainB_spec hp hi).1 (plainB_spec hp hoj).1 (plainB_spec hp hoj).2 hy h1
      have hfree' : ∀ k ok,ops[k]? = some ok -> k ≠ i -> (listed.setIfInBounds j true).getD k true = false ->
          (∀ e ∈ ok.after,Region.binds .any e = true -> e.on ≠ i) -> oi.apart ops ok = true:=fun k ok hk hki hun hno=>by
        refine hfree k ok hk hki ?_ hno
        by_cases hjk:j = k
        · subst hjk; exact hjun
        · rw [getD_set_ne true hjk] at hun; exact hun
      refine h2.mono fun a' w'' ⟨h3,h4,h6,h5⟩=>⟨h4,fun hn=>h6 (KP.nd_in hfr hn),?_⟩
      refine ih (listed.setIfInBounds j true) a' w'' hfree' (ready_mono hr (Ne.symm hji)) hd' h3 (fun hn=>h6 (KP.nd_in hfr hn)) fun w3 hag3=>?_
      rw [Array.setIfInBounds_comm _ _ hji]
      exact h5.agree hag3
end
def lst (n m:Nat):Array Bool:=(Array.range n).map (m.testBit ·)
def stepB (n m i m' : Nat):Bool:=(lst n m).setIfInBounds i true == lst n m'
theorem stepB_eq {n m i m' : Nat} (h:stepB n m i m' = true):(lst n m).setIfInBounds i true = lst n m' :=by simpa [stepB] using h
def tail (k:Nat):Nat -> Bool:=fun i=>Nat.ble k i
section
variable {P:Program} {Z:Machine -> Prop} {b:Frame} {n:Nat} {ds:List Deferred} {cs:List Frame} {k:List Item} {σ τ:List (Nat × Value)} {w w0:World} {ops:Array Oper} {t f m m' i:Nat} {O O' : List Ob} {κ:KP}
def YD (P:Program) (Z:Machine -> Prop) (b:Frame) (n:Nat) (ds:List Deferred) (cs:List Frame):RegEnv where
  pan:=fun ch w=>PN P Z b n ds cs ch [] w
  rnd:=fun lk f tm as bd w' Q=>∀ (a:Act) (l:List Item),a.tmps.size = n -> a.defers = ds ->
    (∃ v w'', Q v w'' /\Steps P (lone (Frame.round lk f tm as bd .normal) (b.atR a l :: cs) w') (lone ((b.atR a l).finish v) cs w'')) ∨ ∃ ch w'', PN P Z b n ds cs ch [] w'' /\Steps P (lone (Frame.round lk f tm as bd .normal) (b.atR a l :: cs) w') (lone { b.atR a l with mode:=.panicking ch } cs w'')
def RD (κ:KP) (P:Program) (Z:Machine -> Prop) (b:Frame) (n:Nat) (ds:List Deferred) (cs:List Frame) (ops:Array Oper) (t f m:Nat) (k:List Item) (σ:List (Nat × Value)) (w:World):Prop:=
  (κ.nd (lst ops.size m) -> Kp κ.c w)/\∀ a w', Fr n ds σ a -> Agree [] w w' -> AnyT P (YD P Z b n ds cs) ops (tail t) κ (fun a' w'' =>Reach P Z (lone (b.atR a' k) cs w'')) f (lst ops.size m) a w'
theorem KP.triv {l:Array Bool} {w:World}:kp0.nd l -> Kp kp0.c w:=fun ⟨_,h,_⟩=>by cases h
theorem MX.draw {id:Nat} {l:List Oper} (t:Nat) (hm:P.follows .mixedOrders = true) (hp:plainB l.toArray = true) (h:RD κ P Z b n ds cs l.toArray t l.length 0 k σ w):MX P Z b n ds cs (.code (.region id l.toArray true) :: k) σ w:=by
  intro a w' ha hw
  refine .step stepR_region_draw ?_
  have hz:lst l.toArray.size 0 = Array.replicate l.toArray.size false:=by
    apply Array.ext
    · simp [lst]
    · intro j h1 h2; simp [lst]
  have h' :=h.2 a { w' with drawn:=w'.drawn + 1 } ha (hw.trans (Agree.drew _ _ _))
  rw [hz] at h'
  simp only [Region.schedule,hm,Bool.true_or,if_true]
  rcases AnyT.sound (b:=b) (k:=k) (cs:=cs) (n:=n) (ds:=ds) (fun _ _ _ _ _ _ _ h=>h) hp (f:=l.length) (t:=w'.tape w'.drawn (.order b.fn id)) (listed:=_) (a:=a) (w:=_) ha.size ha.defers h' with ⟨a', w2,hK,hs⟩ | ⟨ch,w2,a', l', hY,hsz,hdf,hs⟩
  · refine Reach.steps (m1:=lone (b.atR a' (.inRegion l.toArray [] :: k)) cs w2) ?_ (.step stepR_region_end hK)
    simpa [Region.linearise] using hs
  · refine Reach.steps (m1:=lone { b.atR a' l' with mode:=.panicking ch } cs w2) ?_ (hY a' w2 l' ⟨hsz.trans ha.size,hdf.trans ha.defers,fun s v e=>by cases e⟩ (Agree.refl _ _))
    simpa [Region.linearise] using hs
theorem RD.done (hr:Region.ready .any ops (lst ops.size m) = []) (h:MX P Z b n ds cs k σ w) (hk:κ.nd (lst ops.size m) -> Kp κ.c w:=by exact KP.triv):RD κ P Z b n ds cs ops t f m k σ w:=by
  refine ⟨hk,?_⟩
  intro a w' ha hw
  cases f with
  | zero=>exact fun w2 hw2=>⟨hr,h a w2 ha (hw.trans hw2)⟩
  | succ f=>exact fun w2 hw2=>⟨fun _=>h a w2 ha (hw.trans hw2),by rw [hr]; simp⟩
variable {d:Nat} {op:Op} {ty:TypeId} {ps:String} {af:Array Edge} {v:Value} {g:Option (Nat × Bool)}
def takeB (ops:Array Oper) (t m W i m' : Nat):Bool:=(Region.ready .any ops (lst ops.size m)).contains i && Region.free .any ops (lst ops.size m) i && waitB ops (tail t) m W i && stepB ops.size m i m'
def takeP (ops:Array Oper) (_t m i m' : Nat):Bool:=(Region.ready .any ops (lst ops.size m)).contains i && Region.free .any ops (lst ops.size m) i && stepB ops.size m i m'
theorem lst_getD {n m k:Nat} (hk:k < n):(lst n m).getD k true = m.testBit k:=by simp [lst,Array.getD,hk]
theorem KP.nd_step {listed:Array Bool} (hf:κ.free i = true) (h:κ.nd listed):κ.nd (listed.setIfInBounds i true):=by
  obtain ⟨q,hq,h1⟩:=h
  have hne:i ≠ q:=fun e=>by
    have:=List.all_eq_true.1 hf q hq
    rw [e] at this
    simp at this
  exact ⟨q,hq,by rwa [getD_set_ne true hne]⟩
theorem RD.take_ {W:Nat} {o:Oper} (hfr:κ.free i = true) (hB:takeB ops t m W i m' = true) (hi:ops[i]? = some o) (hp:plainB ops = true) (hy:∀ a w', Fr n ds σ a -> Agree [] w w' -> YT P ops o v a w')
    (h:∀ a w', Fr n ds σ a -> Agree [] w w' -> AnyT P (YD P Z b n ds cs) ops (tail t) κ (fun a' w'' =>Reach P Z (lone (b.atR a' k) cs w'')) f (lst ops.size m') (a.put o.dst v) w') (hk:κ.nd (lst ops.size m') -> Kp κ.c w):RD κ P Z b n ds cs ops t (f + 1) m k σ w:=by
  unfold takeB at hB
  simp only [Bool.and_eq_true] at hB
  obtain ⟨⟨⟨h1,h2⟩,h3⟩,h4⟩:=hB
  have hk' : κ.nd (lst ops.size m) -> Kp κ.c w:=fun hn=>hk (by rw [<- stepB_eq h4]; exact KP.nd_step hfr hn)
  refine ⟨hk', ?_⟩
  intro a w' ha hw
  unfold waitB at h3
  rw [Bool.and_eq_true,List.all_eq_true] at h3
  obtain ⟨_,h3⟩:=h3
  have h3' : ∀ j,j < ops.size -> _:=fun j hj=>h3 j (List.mem_range.2 hj)
  refine AnyT.first (W:=W.testBit) hi hp hfr (fun j oj hoj hW=>?_) f _ a w' (Region.free_spec hi h2) (fun j oj hoj ht=>?_) (fun j hj hW=>?_) (by simpa using h1) (hy a w' ha hw) (fun hn=>Kp.agree hw (hk' hn)) fun w2 hw2=>?_
  · have h5:=h3' j (Array.getElem?_eq_some_iff.1 hoj).1
    rw [hoj,hW] at h5
    simp only [Bool.not_true,Bool.false_or,Bool.and_eq_true,Array.any_eq_true,Bool.or_eq_true,beq_iff_eq] at h5
    obtain ⟨_,_,q,hq,hb,h6⟩:=h5
    refine ⟨_,Array.getElem_mem hq,hb,h6.imp id fun h7=>⟨h7.1,by simpa using h7.2⟩⟩
  · have hj:=(Array.getElem?_eq_some_iff.1 hoj).1
    have h5:=h3' j hj
    rw [ht] at h5
    rw [Bool.and_eq_true] at h5
    have h6:=h5.1
    simp only [Bool.not_true,Bool.false_or,Bool.or_eq_true] at h6
    rw [lst_getD hj]
    exact h6.symm
  · have h5:=h3' j hj
    rw [hW] at h5
    simp only [Bool.not_true,Bool.false_or,Bool.and_eq_true] at h5
    rw [lst_getD hj]
    simpa using h5.2.1
  · rw [stepB_eq h4]
    exact h a w2 ha (hw.trans hw2)
theorem RD.takeC_ {o:Oper} {c:List (Nat × List Value)} (hfr:κ.free i = true) (hB:takeP ops t m i m' = true) (hi:ops[i]? = some o) (hp:plainB ops = true) {D:Array Bool -> Prop} (hD:∀ listed j,D listed -> i ∈ Region.ready .any ops listed -> j ∈ Region.ready .any ops listed -> j ≠ i -> D (listed.setIfInBounds j true)) (hDc:∀ listed w,D listed -> (κ.nd listed -> Kp κ.c w) -> Kp c w) (hD0:D (lst ops.size m)) (hy:∀ a w', Fr n ds σ a -> Kp c w' -> YT P ops o v a w')
    (h:∀ a w', Fr n ds σ a -> Agree [] w w' -> AnyT P (YD P Z b n ds cs) ops (tail t) κ (fun a' w'' =>Reach P Z (lone (b.atR a' k) cs w'')) f (lst ops.size m') (a.put o.dst v) w') (hk:κ.nd (lst ops.size m') -> Kp κ.c w):RD κ P Z b n ds cs ops t (f + 1) m k σ w:=by
  unfold takeP at hB
  simp only [Bool.and_eq_true] at hB
  obtain ⟨⟨h1,h2⟩,h4⟩:=hB
  have hk' : κ.nd (lst ops.size m) -> Kp κ.c w:=fun hn=>hk (by rw [<- stepB_eq h4]; exact KP.nd_step hfr hn)
  refine ⟨hk', ?_⟩
  intro a w' ha hw
  refine AnyT.firstC hi hp hfr hD hDc f _ a w' (Region.free_spec hi h2) (by simpa using h1) hD0 (fun w9=>hy a w9 ha) (fun hn=>Kp.agree hw (hk' hn)) fun w2 hw2=>?_
  rw [stepB_eq h4]
  exact h a w2 ha (hw.trans hw2)
theorem RD.takeP_ {o:Oper} (hfr:κ.free i = true) (hB:takeP ops t m i m' = true) (hi:ops[i]? = some o) (hp:plainB ops = true) (hy:∀ a w', Fr n ds σ a -> YT P ops o v a w')
    (h:∀ a w', Fr n ds σ a -> Agree [] w w' -> AnyT P (YD P Z b n ds cs) ops (tail t) κ (fun a' w'' =>Reach P Z (lone (b.atR a' k) cs w'')) f (lst ops.size m') (a.put o.dst v) w') (hk:κ.nd (lst ops.size m') -> Kp κ.c w):RD κ P Z b n ds cs ops t (f + 1) m k σ w:=
  RD.takeC_ (c:=[]) hfr hB hi hp (D:=fun _=>True) (fun _ _ _ _ _ _=>trivial) (fun _ _ _ _=>trivial) trivial (fun a w' ha _=>hy a w' ha) h hk
theorem RD.valP (hB:takeP ops t m i m' = true) (hi:ops[i]? = some ⟨some d,op,ty,ps,af,g⟩) (hp:plainB ops = true) (hg:Want ops σ g true) (hq:∀ w,FV P ⟨some d,op,ty,ps,af,g⟩ σ w v) (hd:Nat.blt d n = true)
    (h:RD κ P Z b n ds cs ops t f m' k ((d,v) :: σ) w) (hfr:κ.free i = true:=by rfl):RD κ P Z b n ds cs ops t (f + 1) m k σ w:=
  RD.takeP_ hfr hB hi hp (fun a _w' ha=>.inl ⟨hg.eq ha,fun w2 _=>.inl (hq w2 a.eval (fun _x _u hx=>ha.ev hx) w2 (Agree.refl _ _))⟩) (fun _a _w' ha hw=>h.2 _ _ (ha.put d v hd) hw) h.1
theorem RD.val {W:Nat} (hB:takeB ops t m W i m' = true) (hi:ops[i]? = some ⟨some d,op,ty,ps,af,g⟩) (hp:plainB ops = true) (hg:Want ops σ g true) (hq:FV P ⟨some d,op,ty,ps,af,g⟩ σ w v) (hd:Nat.blt d n = true)
    (h:RD κ P Z b n ds cs ops t f m' k ((d,v) :: σ) w) (hfr:κ.free i = true:=by rfl):RD κ P Z b n ds cs ops t (f + 1) m k σ w:=
  RD.take_ hfr hB hi hp (fun a _w' ha hw=>.inl ⟨hg.eq ha,fun w2 hw2=>.inl (hq a.eval (fun _x _u hx=>ha.ev hx) w2 (hw.trans hw2))⟩) (fun _a _w' ha hw=>h.2 _ _ (ha.put d v hd) hw) h.1
theorem RD.off (hB:takeP ops t m i m' = true) (hi:ops[i]? = some ⟨some d,op,ty,ps,af,g⟩) (hp:plainB ops = true) (hg:Want ops σ g false) (hd:Nat.blt d n = true)
    (h:RD κ P Z b n ds cs ops t f m' k ((d,undef) :: σ) w) (hfr:κ.free i = true:=by rfl):RD κ P Z b n ds cs ops t (f + 1) m k σ w:=
  RD.takeP_ hfr hB hi hp (fun _a _w' ha=>.inr ⟨hg.eq ha,rfl⟩) (fun _a _w' ha hw=>h.2 _ _ (ha.put d undef hd) hw) h.1
theorem RD.callq {W:Nat} {fn:FuncId} {c:Operand} {fst cap:List Value} {xs:List Operand} {vs:List Value} {ts:Array TypeId} (hB:takeB ops t m W i m' = true) (hi:ops[i]? = some ⟨some d,.call { callee:=.value c,args:=xs.toArray,argTypes:=ts },ty,ps,af,g⟩) (hp:plainB ops = true) (hg:Want ops σ g true)
    (hf:bodyB P fn = true) (hcal:ev σ c = some (.func (.func fn) fst.toArray cap.toArray)) (hv:evs σ xs vs) (hc:∀ w', Agree [] w w' -> Calls P fn (fst ++ vs ++ cap).toArray w' (Gives w' fun _ u=>u = v)) (hd:Nat.blt d n = true)
    (h:RD κ P Z b n ds cs ops t f m' k ((d,v) :: σ) w) (hfr:κ.free i = true:=by rfl):RD κ P Z b n ds cs ops t (f + 1) m k σ w:=
  RD.take_ hfr hB hi hp (fun a w' ha hw=>.inl ⟨hg.eq ha,fun w2 hw2=>.inr ⟨fn,(fst ++ vs ++ cap).toArray,by
      have he:=run_call (P:=P) (ty:=ty) (ps:=ps) (af:=af) (g:=g) (dd:=some d) (ts:=ts) hf (ρ:=a.eval) (ha.ev hcal) (vs:=vs.toArray) (xs:=xs.toArray) (by rw [List.map_toArray,evs_map (fun x u hx=>ha.ev hx) hv]) w2
      rw [he]; simp,(hc w2 (hw.trans hw2)).mono fun e w3 ⟨u,e1,e2,hag⟩=>⟨by rw [e1,e2],hag⟩⟩⟩) (fun a w' ha hw=>h.2 _ _ (ha.put d v hd) hw) h.1
theorem RD.known {s:Nat} {q q' : Bool} (hs:look σ s = some (.bool q)) (hb:q = q') (h:RD κ P Z b n ds cs ops t f m k ((s,.bool q') :: σ) w):RD κ P Z b n ds cs ops t f m k σ w:=⟨h.1,fun a w' ha hw=>h.2 a w' (ha.known hs hb) hw⟩
theorem RD.ifd {β:Type} {s:Nat} {p:Prop} [Decidable p] {A B:Option β} {r:β} (hs:look σ s = some (.bool (decide p))) (h:(if p then A else B) = some r)
    (ht:p -> A = some r -> RD κ P Z b n ds cs ops t f m k ((s,.bool true) :: σ) w) (hf:¬ p -> B = some r -> RD κ P Z b n ds cs ops t f m k ((s,.bool false) :: σ) w):RD κ P Z b n ds cs ops t f m k σ w:=by
  by_cases hp:p
  · exact RD.known hs (decide_eq_true hp) (ht hp (ite_t hp h))
  · exact RD.known hs (decide_eq_false hp) (hf hp (ite_f hp h))
theorem RD.ifn {β:Type} {s:Nat} {p:Prop} [Decidable p] {A B:Option β} {r:β} (hs:look σ s = some (.bool (!decide p))) (h:(if p then A else B) = some r)
    (ht:p -> A = some r -> RD κ P Z b n ds cs ops t f m k ((s,.bool false) :: σ) w) (hf:¬ p -> B = some r -> RD κ P Z b n ds cs ops t f m k ((s,.bool true) :: σ) w):RD κ P Z b n ds cs ops t f m k σ w:=by
  by_cases hp:p
  · exact RD.known hs (by rw [decide_eq_true hp]; rfl) (ht hp (ite_t hp h))
  · exact RD.known hs (by rw [decide_eq_false hp]; rfl) (hf hp (ite_f hp h))
theorem RD.ifb {β:Type} {s:Nat} {q:Bool} {A B:Option β} {r:β} (hs:look σ s = some (.bool q)) (h:(if q = true then A else B) = some r)
    (ht:q = true -> A = some r -> RD κ P Z b n ds cs ops t f m k ((s,.bool true) :: σ) w) (hf:¬ q = true -> B = some r -> RD κ P Z b n ds cs ops t f m k ((s,.bool false) :: σ) w):RD κ P Z b n ds cs ops t f m k σ w:=
  RD.ifd (p:=q = true) (by rw [hs]; simp) h ht hf
theorem RD.ifnb {β:Type} {s:Nat} {q:Bool} {A B:Option β} {r:β} (hs:look σ s = some (.bool (!q))) (h:(if q = true then A else B) = some r)
    (ht:q = true -> A = some r -> RD κ P Z b n ds cs ops t f m k ((s,.bool false) :: σ) w) (hf:¬ q = true -> B = some r -> RD κ P Z b n ds cs ops t f m k ((s,.bool true) :: σ) w):RD κ P Z b n ds cs ops t f m k σ w:=
  RD.ifn (p:=q = true) (by rw [hs]; simp) h ht hf
def RO (κ:KP) (P:Program) (Z:Machine -> Prop) (b:Frame) (n:Nat) (ds:List Deferred) (cs:List Frame) (ops:Array Oper) (t f m:Nat) (k:List Item) (σ:List (Nat × Value)) (w:World) (i:Nat):Prop:=
  ∀ a w', Fr n ds σ a -> Agree [] w w' -> OpI P (YD P Z b n ds cs) ops i (fun a' w'' =>(tail t i = false -> Agree [] w' w'')/\(κ.nd ((lst ops.size m).setIfInBounds i true) -> Kp κ.c w'')/\AnyT P (YD P Z b n ds cs) ops (tail t) κ (fun a' w'' =>Reach P Z (lone (b.atR a' k) cs w'')) f ((lst ops.size m).setIfInBounds i true) a' w'') a w'
def readyB (ops:Array Oper) (m:Nat) (rs:List Nat):Bool:=Region.ready .any ops (lst ops.size m) == rs && !rs.isEmpty
theorem RD.all {rs:List Nat} (hr:readyB ops m rs = true) (h:∀ i ∈ rs,RO κ P Z b n ds cs ops t f m k σ w i) (hk:κ.nd (lst ops.size m) -> Kp κ.c w:=by exact KP.triv):RD κ P Z b n ds cs ops t (f + 1) m k σ w:=by
  unfold readyB at hr
  simp only [Bool.and_eq_true,beq_iff_eq,Bool.not_eq_true'] at hr
  obtain ⟨h1,h2⟩:=hr
  refine ⟨hk,?_⟩
  intro a w' ha hw w2 hw2
  rw [h1]
  exact ⟨fun e=>(by rw [e] at h2; cases h2),fun i hi=>h i hi a w2 ha (hw.trans hw2)⟩
theorem RD.one (hr:readyB ops m [i] = true) (h:RO κ P Z b n ds cs ops t f m k σ w i) (hk:κ.nd (lst ops.size m) -> Kp κ.c w:=by exact KP.triv):RD κ P Z b n ds cs ops t (f + 1) m k σ w:=RD.all hr (fun j hj=>by simp at hj; subst hj; exact h) hk
theorem RO.does {Q:Value -> World -> Prop} (hst:stepB ops.size m i m' = true) (hi:ops[i]? = some ⟨some d,op,ty,ps,af,g⟩) (hg:Want ops σ g true) (hd:Nat.blt d n = true) (D:Does P ⟨some d,op,ty,ps,af,g⟩ σ w Q) (h:∀ u w1,Q u w1 -> RD κ P Z b n ds cs ops t f m' k ((d,u) :: σ) w1):RO κ P Z b n ds cs ops t f m k σ w i:=by
  intro a w' ha hw
  unfold OpI
  rw [hi]
  simp only
  rw [if_pos (hg.eq ha)]
  obtain ⟨u,w1,hr,hag,hq⟩:=D a.eval (fun x u hx=>ha.ev hx) w' hw
  unfold OpW
  rw [hr,stepB_eq hst]
  exact ⟨fun _=>hag,(h u w1 hq).1,(h u w1 hq).2 _ _ (ha.put d u hd) (Agree.refl _ _)⟩
theorem RO.new {mk:Nat -> Ob} {pv:Nat -> Value} (hst:stepB ops.size m i m' = true) (hi:ops[i]? = some ⟨some d,op,ty,ps,af,g⟩) (hg:Want ops σ g true) (hd:Nat.blt d n = true) (D:Does P ⟨some d,op,ty,ps,af,g⟩ σ w (New w0 w O mk pv)) (h:∀ w1 b', St w0 w1 (mk b' :: O) -> Tr w O w1 (mk b' :: O) -> RD κ P Z b n ds cs ops t f m' k ((d,pv b') :: σ) w1):RO κ P Z b n ds cs ops t f m k σ w i:=
  RO.does hst hi hg hd D fun u w1 ⟨b', e,h1,h2⟩=>by subst e; exact h w1 b' h1 h2
theorem RO.acts {Q:World -> Prop} (hst:stepB ops.size m i m' = true) (hi:ops[i]? = some ⟨none,op,ty,ps,af,g⟩) (htl:tail t i = true) (hg:Want ops σ g true) (D:Acts P ⟨none,op,ty,ps,af,g⟩ σ w Q) (h:∀ w1,Q w1 -> RD κ P Z b n ds cs ops t f m' k σ w1):RO κ P Z b n ds cs ops t f m k σ w i:=by
  intro a w' ha hw
  unfold OpI
  rw [hi]
  simp only
  rw [if_pos (hg.eq ha)]
  obtain ⟨w1,hr,hq⟩:=D a.eval (fun x u hx=>ha.ev hx) w' hw
  unfold OpW
  rw [hr,stepB_eq hst]
  exact ⟨fun e=>(by rw [htl] at e; cases e),(h w1 hq).1,(h w1 hq).2 _ _ ha (Agree.refl _ _)⟩
theorem RO.now (hst:stepB ops.size m i m' = true) (hi:ops[i]? = some ⟨none,op,ty,ps,af,g⟩) (htl:tail t i = true) (hg:Want ops σ g true) (D:Acts P ⟨none,op,ty,ps,af,g⟩ σ w (Now w0 w O O')) (h:∀ w1,St w0 w1 O' -> Tr w O w1 O' -> RD κ P Z b n ds cs ops t f m' k σ w1):RO κ P Z b n ds cs ops t f m k σ w i:=
  RO.acts hst hi htl hg D fun w1 q=>h w1 q.1 q.2
theorem RO.doesL {Q:Value -> World -> Prop} (hst:stepB ops.size m i m' = true) (hi:ops[i]? = some ⟨some d,op,ty,ps,af,g⟩) (htl:tail t i = true) (hg:Want ops σ g true) (hd:Nat.blt d n = true) (D:DoesL P ⟨some d,op,ty,ps,af,g⟩ σ w Q) (h:∀ u w1,Q u w1 -> RD κ P Z b n ds cs ops t f m' k ((d,u) :: σ) w1):RO κ P Z b n ds cs ops t f m k σ w i:=by
  intro a w' ha hw
  unfold OpI
  rw [hi]
  simp only
  rw [if_pos (hg.eq ha)]
  obtain ⟨u,w1,hr,hq⟩:=D a.eval (fun x u hx=>ha.ev hx) w' hw
  unfold OpW
  rw [hr,stepB_eq hst]
  exact ⟨fun e=>(by rw [htl] at e; cases e),(h u w1 hq).1,(h u w1 hq).2 _ _ (ha.put d u hd) (Agree.refl _ _)⟩
theorem RO.call {fn:FuncId} {c:Operand} {fst cap:List Value} {xs:List Operand} {vs:List Value} {ts:Array TypeId} {R:World -> Value -> Prop} (hst:stepB ops.size m i m' = true) (hi:ops[i]? = some ⟨some d,.call { callee:=.value c,args:=xs.toArray,argTypes:=ts },ty,ps,af,g⟩) (hg:Want ops σ g true)
    (hf:bodyB P fn = true) (hcal:ev σ c = some (.func (.func fn) fst.toArray cap.toArray)) (hv:evs σ xs vs) (hc:∀ w', Agree [] w w' -> Calls P fn (fst ++ vs ++ cap).toArray w' (Gives w' R)) (hd:Nat.blt d n = true)
    (h:∀ w1 v,Agree [] w w1 -> R w1 v -> RD κ P Z b n ds cs ops t f m' k ((d,v) :: σ) w1):RO κ P Z b n ds cs ops t f m k σ w i:=by
  intro a w' ha hw
  unfold OpI
  rw [hi]
  simp only
  rw [if_pos (hg.eq ha)]
  have he:=run_call (P:=P) (ty:=ty) (ps:=ps) (af:=af) (g:=g) (dd:=some d) (ts:=ts) hf (ρ:=a.eval) (ha.ev hcal) (vs:=vs.toArray) (xs:=xs.toArray) (by rw [List.map_toArray,evs_map (fun x u hx=>ha.ev hx) hv]) w'
  unfold OpW
  rw [he,stepB_eq hst]
  simp only [List.append_toArray]
  exact (hc w' hw).mono fun e w1 ⟨u,e1,hR,hag⟩=>.inl ⟨u,e1,fun _=>hag,(h w1 u (hw.trans hag) hR).1,(h w1 u (hw.trans hag) hR).2 _ _ (ha.put d u hd) (Agree.refl _ _)⟩
end
end Go.Proofs.YtgejkdheojkfiaaGreatDoor
