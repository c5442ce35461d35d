/- Laws of the walk, the rest: values given by partial functions. No program in sight. -/
import Derived.Test.YtgejkdheojkfiaaGreatDoorPMd
namespace Go.Proofs.YtgejkdheojkfiaaGreatDoor
open Go Go.RowKit
theorem zB {P:Program} {t:TypeId} {zs:List Value} (h:(P.info? t).bind (fun i=>i.zero.map (·.cells)) = some zs.toArray):zerosB P t zs:=h
def natOf (x:Int):Option Nat:=if 0 <= x then some x.toNat else none
theorem natOf_in {x:Int} {k:Nat} (h:natOf x = some k):x = ((k:Nat):Int):=by
  unfold natOf at h
  split at h
  · cases h; omega
  · cases h
def remI (x y:Int):Option Int:=if y = 0 then none else some (x.tmod y)
def quoI (x y:Int):Option Int:=if y = 0 then none else chk (x.tdiv y)
def remW (x y:UInt64):Option UInt64:=if y = 0 then none else some (x % y)
def quoW (x y:UInt64):Option UInt64:=if y = 0 then none else some (x / y)
theorem remI_in {x y z:Int} (h:remI x y = some z):y ≠ 0/\z = x.tmod y:=by
  unfold remI at h; split at h
  · cases h
  · rename_i h0; cases h; exact ⟨h0,rfl⟩
theorem quoI_in {x y z:Int} (h:quoI x y = some z):y ≠ 0/\IntKind.i64.wrap (x.tdiv y) = z:=by
  unfold quoI at h; split at h
  · cases h
  · rename_i h0; obtain ⟨rfl,h2⟩:=chk_in h; exact ⟨h0,IntWalk.i64_in _ h2⟩
theorem remW_in {x y z:UInt64} (h:remW x y = some z):y ≠ 0/\z = x % y:=by
  unfold remW at h; split at h
  · cases h
  · rename_i h0; cases h; exact ⟨h0,rfl⟩
theorem quoW_in {x y z:UInt64} (h:quoW x y = some z):y ≠ 0/\z = x / y:=by
  unfold quoW at h; split at h
  · cases h
  · rename_i h0; cases h; exact ⟨h0,rfl⟩
section
variable {P:Program} {σ:List (Nat × Value)} {w:World} {x y:Operand} {d:Option Tmp} {t t' ty:TypeId} {ps:String} {af:Array Edge} {g:Option (Nat × Bool)} {a b c:UInt64}
theorem FV.shlI {k:IntKind} {i:Int} {j:Nat} (hx:ev σ x = some (.int .u64 (a.toNat:Int))) (hy:ev σ y = some (.int k i)) (hj:natOf i = some j):FV P ⟨d,.binOp .shl t x y t', ty,ps,af,g⟩ σ w (.int .u64 ((Proofs.YtgejkdheojkfiaaGreatDoor.shlU a j).toNat:Int)):=FV.shlU hx (by rw [hy,<- natOf_in hj])
theorem FV.shrI {k:IntKind} {i:Int} {j:Nat} (hx:ev σ x = some (.int .u64 (a.toNat:Int))) (hy:ev σ y = some (.int k i)) (hj:natOf i = some j):FV P ⟨d,.binOp .shr t x y t', ty,ps,af,g⟩ σ w (.int .u64 ((Proofs.YtgejkdheojkfiaaGreatDoor.shrU a j).toNat:Int)):=FV.shrU hx (by rw [hy,<- natOf_in hj])
theorem FV.remc {i j r:Int} {k:IntKind} (hx:ev σ x = some (.int k i)) (hy:ev σ y = some (.int k j)) (hr:remI i j = some r):FV P ⟨d,.binOp .rem t x y t', ty,ps,af,g⟩ σ w (.int k r):=by obtain ⟨h1,rfl⟩:=remI_in hr; exact FV.rem hx hy h1
theorem FV.quoc {i j r:Int} (hx:ev σ x = some (.int .i64 i)) (hy:ev σ y = some (.int .i64 j)) (hr:quoI i j = some r):FV P ⟨d,.binOp .quo t x y t', ty,ps,af,g⟩ σ w (.int .i64 r):=by obtain ⟨h1,h2⟩:=quoI_in hr; exact FV.quo hx hy h1 h2
theorem FV.remV (hx:ev σ x = some (.int .u64 (a.toNat:Int))) (hy:ev σ y = some (.int .u64 (b.toNat:Int))) (hr:remW a b = some c):FV P ⟨d,.binOp .rem t x y t', ty,ps,af,g⟩ σ w (.int .u64 (c.toNat:Int)):=by obtain ⟨h1,rfl⟩:=remW_in hr; exact FV.remU hx hy h1
theorem FV.quoV (hx:ev σ x = some (.int .u64 (a.toNat:Int))) (hy:ev σ y = some (.int .u64 (b.toNat:Int))) (hr:quoW a b = some c):FV P ⟨d,.binOp .quo t x y t', ty,ps,af,g⟩ σ w (.int .u64 (c.toNat:Int)):=by obtain ⟨h1,rfl⟩:=quoW_in hr; exact FV.quoU hx hy h1
def u8of (x:UInt64):UInt8:=UInt8.ofNat x.toNat
theorem FV.conv8 {s:TypeId} (hs:P.underlying s = some (.int .u64)) (ht:P.underlying t = some (.int .u8)) (hx:ev σ x = some (.int .u64 (a.toNat:Int))):FV P ⟨d,.convert s t x,ty,ps,af,g⟩ σ w (.int .u8 ((u8of a).toNat:Int)):=
  FV.conv hs ht hx (by
    unfold u8of
    rw [UInt8.toNat_ofNat']
    simp only [IntKind.wrap,IntKind.bits,IntKind.signed]
    simp)
theorem FV.strIdx {kd:IntKind} {s:ByteArray} {i:Int} {k:Nat} {tab:List UInt8} {z:UInt8} (ht:P.underlying t = some .string) (hx:ev σ x = some (.string s)) (hy:ev σ y = some (.int kd i)) (hi:i = (k:Int)) (hs:s.data.toList = tab) (hz:tab[k]? = some z) :
    FV P ⟨d,.index t x y,ty,ps,af,g⟩ σ w (.int .u8 (z.toNat:Int)):=by
  subst hs
  obtain ⟨hk,rfl⟩:=List.getElem?_eq_some_iff.1 hz
  have hk' : k < s.size:=by simpa using hk
  exact FV.indexS ht hx hy hi hk'
theorem FV.cutL {α:Type} [Rep α] {L:List Nat} {v:Value} {xs ys:List α} {l u:Int} {lo hi:Option Operand} (hc:Proofs.YtgejkdheojkfiaaGreatDoor.cut xs l u = some ys) (ht:elemB P t (Rep.size α) = true) (hx:ev σ x = some v) (h:Rep.R w L [v] xs)
    (hlo:match lo with | none=>l = 0 | some y=>∃ k,ev σ y = some (.int k l)) (hhi:match hi with | none=>u = (xs.length:Int) | some y=>∃ k,ev σ y = some (.int k u)) :
    ∃ v', FV P ⟨d,.slice t x lo hi none,ty,ps,af,g⟩ σ w v' /\Rep.R w L [v'] ys:=by
  obtain ⟨rfl,h1,h2,h3,h4⟩:=cut_in hc
  refine FV.cut (l:=l.toNat) (u:=u.toNat) ht hx h ?_ ?_ h3 h4
  · cases lo with
    | none=>simp only at hlo ⊢; omega
    | some y=>obtain ⟨k,hk⟩:=hlo; exact ⟨k,by rw [hk,<- h1]⟩
  · cases hi with
    | none=>simp only at hhi ⊢; omega
    | some y=>obtain ⟨k,hk⟩:=hhi; exact ⟨k,by rw [hk,<- h2]⟩
theorem FV.eqlV {q:Bool} {v u:Value} (hx:ev σ x = some v) (hy:ev σ y = some u) (he:∀ w', (do eqGuard .eql t x y v u; binOp .eql t v u:Sem Value).run P w' = .ok (.bool q) w'):FV P ⟨d,.binOp .eql t x y t', ty,ps,af,g⟩ σ w (.bool q):=fun ρ ha w' _=>by
  simp only [execOp,ha _ _ hx,ha _ _ hy]
  rw [Sem.run_bind]
  refine (congrArg (fun z=>Result.andThen z _) (he w')).trans ?_
  rfl
theorem FV.buildV {parts:List (Nat × Operand)} {vs:List Value} {u:Value} (hv:evs σ (parts.map Prod.snd) vs) (hb:∀ w', (Instr.build t ((parts.map Prod.fst).zip vs).toArray).run P w' = .ok u w'):FV P ⟨d,.build t parts.toArray,ty,ps,af,g⟩ σ w u:=fun ρ ha w' _=>by
  have hmap:(parts.toArray.map fun (i,x)=>(i,ρ x)) = ((parts.map Prod.fst).zip vs).toArray:=by
    rw [<- evs_map ha hv]
    simp [List.zip_map', List.map_map]
  simp only [execOp,hmap,Sem.run_bind,hb,Result.andThen_ok,Sem.run_pure]
end
section
variable {P:Program} {Z:Machine -> Prop} {b:Frame} {n:Nat} {ds:List Deferred} {cs:List Frame} {k:List Item} {σ τ:List (Nat × Value)} {w:World} {ops:Array Oper} {l:List Oper} {d:Nat} {op:Op} {ty:TypeId} {ps:String} {af:Array Edge} {g:Option (Nat × Bool)} {t f m m' i:Nat} {Q:Value -> Prop} {κ:KP}
theorem RG.valE (hg:Want ops σ g true) (hd:Nat.blt d n = true) (he:∃ v,FV P ⟨some d,op,ty,ps,af,g⟩ σ w v/\Q v) (h:∀ v,Q v -> RG P Z b n ds cs ops l k ((d,v) :: σ) w):RG P Z b n ds cs ops (⟨some d,op,ty,ps,af,g⟩ :: l) k σ w:=
  let ⟨v,h1,h2⟩:=he; RG.val' hg h1 hd (h v h2)
theorem RD.meet {α:Type} (S:α -> List (Nat × Value)) (R:α -> World -> Prop) (f' m' : Nat) (hJ:∀ x wx,R x wx -> RD κ P Z b n ds cs ops t f' m' k (S x) wx) (h:(∀ x wx σ', Sub σ' (S x) -> R x wx -> RD κ P Z b n ds cs ops t f' m' k σ' wx) -> RD κ P Z b n ds cs ops t f m k σ w):RD κ P Z b n ds cs ops t f m k σ w:=
  h fun x wx _ hs hR=>⟨(hJ x wx hR).1,fun a w' ha hw=>(hJ x wx hR).2 a w' (ha.sub hs.look) hw⟩
theorem RO.val {v:Value} (hst:stepB ops.size m i m' = true) (hi:ops[i]? = some ⟨some d,op,ty,ps,af,g⟩) (hg:Want ops σ g true) (hd:Nat.blt d n = true) (hq:FV P ⟨some d,op,ty,ps,af,g⟩ σ w v) (h:RD κ P Z b n ds cs ops t f m' k ((d,v) :: σ) w):RO κ P Z b n ds cs ops t f m k σ w i:=by
  intro a w' ha hw
  unfold OpI
  rw [hi]
  simp only
  rw [if_pos (hg.eq ha)]
  unfold OpW
  rw [hq a.eval (fun x u hx=>ha.ev hx) w' hw,stepB_eq hst]
  exact ⟨fun _=>Agree.refl _ _,fun hn=>Kp.agree hw (h.1 hn),h.2 _ _ (ha.put d v hd) hw⟩
end
section
variable {α:Type} [Rep α] {w w0:World} {O O' : List Ob} {L:List Nat} {v:Value} {xs:List α} {cs:List Value} {e:TypeId} {base:Nat}
theorem St.lend (s:St w0 w O) (u:At O (.row base e (Rep.size α) v xs.length cs)) (hc:Cells w (bl O ++ L) cs xs) (hL:∀ b ∈ L,b < w0.heap.size):Rep.R w L [v] xs:=
  row_rep (s.get u.upd) ⟨hc.1,fun i hi=>Rep.dropO (hc.2 i hi)⟩ fun b hb hm=>by
    have:=s.new b (u.upd.mem hb); have:=hL b hm; omega
end
end Go.Proofs.YtgejkdheojkfiaaGreatDoor
