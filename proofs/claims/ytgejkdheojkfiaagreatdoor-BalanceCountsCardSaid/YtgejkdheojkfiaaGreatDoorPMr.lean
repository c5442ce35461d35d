/- Laws of the walk: shorter forms for ways that meet, for loops and binds. No program in sight. -/
import Derived.Test.YtgejkdheojkfiaaGreatDoorPMq
namespace Go.Proofs.YtgejkdheojkfiaaGreatDoor
open Go Go.RowKit
theorem At.t1 {x0 o:Ob} {O:List Ob}:At (x0 :: o :: O) o:=.tl .hd
theorem Upd.t1 {x0 o o' : Ob} {O:List Ob}:Upd (x0 :: o :: O) o o' (x0 :: o' :: O):=.tl .hd
theorem Out.t1 {x0 o:Ob} {O:List Ob}:Out (x0 :: o :: O) o (x0 :: O):=.tl .hd
theorem At.t2 {x0 x1 o:Ob} {O:List Ob}:At (x0 :: x1 :: o :: O) o:=.tl (.tl .hd)
theorem Upd.t2 {x0 x1 o o' : Ob} {O:List Ob}:Upd (x0 :: x1 :: o :: O) o o' (x0 :: x1 :: o' :: O):=.tl (.tl .hd)
theorem Out.t2 {x0 x1 o:Ob} {O:List Ob}:Out (x0 :: x1 :: o :: O) o (x0 :: x1 :: O):=.tl (.tl .hd)
theorem At.t3 {x0 x1 x2 o:Ob} {O:List Ob}:At (x0 :: x1 :: x2 :: o :: O) o:=.tl (.tl (.tl .hd))
theorem Upd.t3 {x0 x1 x2 o o' : Ob} {O:List Ob}:Upd (x0 :: x1 :: x2 :: o :: O) o o' (x0 :: x1 :: x2 :: o' :: O):=.tl (.tl (.tl .hd))
theorem Out.t3 {x0 x1 x2 o:Ob} {O:List Ob}:Out (x0 :: x1 :: x2 :: o :: O) o (x0 :: x1 :: x2 :: O):=.tl (.tl (.tl .hd))
theorem At.t4 {x0 x1 x2 x3 o:Ob} {O:List Ob}:At (x0 :: x1 :: x2 :: x3 :: o :: O) o:=.tl (.tl (.tl (.tl .hd)))
theorem Upd.t4 {x0 x1 x2 x3 o o' : Ob} {O:List Ob}:Upd (x0 :: x1 :: x2 :: x3 :: o :: O) o o' (x0 :: x1 :: x2 :: x3 :: o' :: O):=.tl (.tl (.tl (.tl .hd)))
theorem At.t5 {x0 x1 x2 x3 x4 o:Ob} {O:List Ob}:At (x0 :: x1 :: x2 :: x3 :: x4 :: o :: O) o:=.tl (.tl (.tl (.tl (.tl .hd))))
theorem Upd.t5 {x0 x1 x2 x3 x4 o o' : Ob} {O:List Ob}:Upd (x0 :: x1 :: x2 :: x3 :: x4 :: o :: O) o o' (x0 :: x1 :: x2 :: x3 :: x4 :: o' :: O):=.tl (.tl (.tl (.tl (.tl .hd))))
theorem At.t6 {x0 x1 x2 x3 x4 x5 o:Ob} {O:List Ob}:At (x0 :: x1 :: x2 :: x3 :: x4 :: x5 :: o :: O) o:=.tl (.tl (.tl (.tl (.tl (.tl .hd)))))
theorem Upd.t6 {x0 x1 x2 x3 x4 x5 o o' : Ob} {O:List Ob}:Upd (x0 :: x1 :: x2 :: x3 :: x4 :: x5 :: o :: O) o o' (x0 :: x1 :: x2 :: x3 :: x4 :: x5 :: o' :: O):=.tl (.tl (.tl (.tl (.tl (.tl .hd)))))
theorem At.t7 {x0 x1 x2 x3 x4 x5 x6 o:Ob} {O:List Ob}:At (x0 :: x1 :: x2 :: x3 :: x4 :: x5 :: x6 :: o :: O) o:=.tl (.tl (.tl (.tl (.tl (.tl (.tl .hd))))))
theorem Arr.d0:∀ {O:List Ob},Arr O O
  | []=>.done
  | _ :: _=>.one .hd Arr.d0
theorem Arr.a0 {o:Ob} {O O' : List Ob} (h:Arr O O'):Arr (o :: O) (o :: O'):=.one .hd h
theorem Arr.a1 {x0 o:Ob} {O O' : List Ob} (h:Arr (x0 :: O) O'):Arr (x0 :: o :: O) (o :: O'):=.one .t1 h
theorem Arr.a2 {x0 x1 o:Ob} {O O' : List Ob} (h:Arr (x0 :: x1 :: O) O'):Arr (x0 :: x1 :: o :: O) (o :: O'):=.one .t2 h
theorem Arr.dr {x:Ob}:∀ {O O' : List Ob},Arr O O' -> Arr (x :: O) O'
  | _,_,.done=>.done
  | _,_,.one h h2=>.one (.tl h) (Arr.dr h2)
theorem Arr.d1 {x0:Ob} {O:List Ob}:Arr (x0 :: O) O:=.dr Arr.d0
theorem Arr.d2 {x0 x1:Ob} {O:List Ob}:Arr (x0 :: x1 :: O) O:=.dr (Arr.d1)
theorem Arr.d3 {x0 x1 x2:Ob} {O:List Ob}:Arr (x0 :: x1 :: x2 :: O) O:=.dr (Arr.d2)
theorem Arr.d4 {x0 x1 x2 x3:Ob} {O:List Ob}:Arr (x0 :: x1 :: x2 :: x3 :: O) O:=.dr (Arr.d3)
theorem Arr.d5 {x0 x1 x2 x3 x4:Ob} {O:List Ob}:Arr (x0 :: x1 :: x2 :: x3 :: x4 :: O) O:=.dr (Arr.d4)
theorem Arr.d6 {x0 x1 x2 x3 x4 x5:Ob} {O:List Ob}:Arr (x0 :: x1 :: x2 :: x3 :: x4 :: x5 :: O) O:=.dr (Arr.d5)
section
variable {P:Program} {Z:Machine -> Prop} {b:Frame} {n:Nat} {ds:List Deferred} {cs:List Frame} {k:List Item} {σ τ:List (Nat × Value)} {w w0:World} {ops:Array Oper} {t f m:Nat} {κ:KP} {O1:List Ob}
theorem MX.lf {α γ Q:Type} {B:(γ -> Option Q) -> γ -> Option Q} {N:Nat} {r:Q} {c:Code} (S:α -> List (Nat × Value)) (E:α -> List Ob) (G:α -> World -> Prop) (p:α -> γ) (x0:α) (hh:loopF B N (p x0) = some r) (s:St w0 w (E x0)) (hG:G x0 w)
    (round:∀ (J:γ -> Option Q) x wx,(∀ x' {wx' σ'},St w0 wx' (E x') -> Tr w (E x0) wx' (E x') -> G x' wx' -> J (p x') = some r -> ∀ (_:Sub σ' (S x'):=by repeat (first | refine ⟨rfl,?_⟩ | exact trivial)),MX P Z b n ds cs (.inLoop c :: k) σ' wx') -> St w0 wx (E x) -> Tr w (E x0) wx (E x) -> G x wx -> B J (p x) = some r -> MX P Z b n ds cs (.code c :: .inLoop c :: k) (S x) wx)
    (hs:Sub σ (S x0):=by repeat (first | refine ⟨rfl,?_⟩ | exact trivial)):MX P Z b n ds cs (.code (.loop c) :: k) σ w:=
  MX.loop S (fun x wx=>St w0 wx (E x)/\Tr w (E x0) wx (E x)/\G x wx) p x0 hh hs ⟨s,Tr.refl _ _,hG⟩ fun J x wx h1 h2=>round J x wx (fun x' {wx' σ'} a2 a3 a4 a5 a1=>h1 x' wx' σ' a1 ⟨a2,a3,a4⟩ a5) h2.1 h2.2.1 h2.2.2
theorem MX.lo {α γ Q:Type} {B:(γ -> Option Q) -> γ -> Option Q} {N:Nat} {r:Q} {c:Code} (S:α -> List (Nat × Value)) (E:α -> List Ob) (p:α -> γ) (x0:α) (hh:loopF B N (p x0) = some r) (s:St w0 w (E x0))
    (round:∀ (J:γ -> Option Q) x wx,(∀ x' {wx' σ'},St w0 wx' (E x') -> Tr w (E x0) wx' (E x') -> J (p x') = some r -> ∀ (_:Sub σ' (S x'):=by repeat (first | refine ⟨rfl,?_⟩ | exact trivial)),MX P Z b n ds cs (.inLoop c :: k) σ' wx') -> St w0 wx (E x) -> Tr w (E x0) wx (E x) -> B J (p x) = some r -> MX P Z b n ds cs (.code c :: .inLoop c :: k) (S x) wx)
    (hs:Sub σ (S x0):=by repeat (first | refine ⟨rfl,?_⟩ | exact trivial)):MX P Z b n ds cs (.code (.loop c) :: k) σ w:=
  MX.loop S (fun x wx=>St w0 wx (E x)/\Tr w (E x0) wx (E x)) p x0 hh hs ⟨s,Tr.refl _ _⟩ fun J x wx h1 h2=>round J x wx (fun x' {wx' σ'} a2 a3 a5 a1=>h1 x' wx' σ' a1 ⟨a2,a3⟩ a5) h2.1 h2.2
theorem MX.jf {α γ Q:Type} {K:γ -> Option Q} {B:(γ -> Option Q) -> Option Q} {r:Q} {it:Item} (S:α -> List (Nat × Value)) (E:α -> List Ob) (G:α -> World -> Prop) (p:α -> γ) (_s:St w0 w O1) (hh:jn K B = some r)
    (hJ:∀ x wx,St w0 wx (E x) -> Tr w O1 wx (E x) -> G x wx -> K (p x) = some r -> MX P Z b n ds cs k (S x) wx)
    (h:∀ J:γ -> Option Q,(∀ x {wx σ'},St w0 wx (E x) -> Tr w O1 wx (E x) -> G x wx -> J (p x) = some r -> ∀ (_:Sub σ' (S x):=by repeat (first | refine ⟨rfl,?_⟩ | exact trivial)),MX P Z b n ds cs k σ' wx) -> B J = some r -> MX P Z b n ds cs (it :: k) σ w):MX P Z b n ds cs (it :: k) σ w:=
  MX.join S (fun x wx=>St w0 wx (E x)/\Tr w O1 wx (E x)/\G x wx) p hh (fun x wx h1 h2=>hJ x wx h1.1 h1.2.1 h1.2.2 h2) fun J h1 h2=>h J (fun x {wx σ'} a2 a3 a4 a5 a1=>h1 x wx σ' a1 ⟨a2,a3,a4⟩ a5) h2
theorem MX.jo {α γ Q:Type} {K:γ -> Option Q} {B:(γ -> Option Q) -> Option Q} {r:Q} {it:Item} (S:α -> List (Nat × Value)) (E:α -> List Ob) (p:α -> γ) (_s:St w0 w O1) (hh:jn K B = some r)
    (hJ:∀ x wx,St w0 wx (E x) -> Tr w O1 wx (E x) -> K (p x) = some r -> MX P Z b n ds cs k (S x) wx)
    (h:∀ J:γ -> Option Q,(∀ x {wx σ'},St w0 wx (E x) -> Tr w O1 wx (E x) -> J (p x) = some r -> ∀ (_:Sub σ' (S x):=by repeat (first | refine ⟨rfl,?_⟩ | exact trivial)),MX P Z b n ds cs k σ' wx) -> B J = some r -> MX P Z b n ds cs (it :: k) σ w):MX P Z b n ds cs (it :: k) σ w:=
  MX.join S (fun x wx=>St w0 wx (E x)/\Tr w O1 wx (E x)) p hh (fun x wx h1 h2=>hJ x wx h1.1 h1.2 h2) fun J h1 h2=>h J (fun x {wx σ'} a2 a3 a5 a1=>h1 x wx σ' a1 ⟨a2,a3⟩ a5) h2
theorem MX.xo {α γ Q:Type} {K:γ -> Option Q} {B:(γ -> Option Q) -> Option Q} {r:Q} {it:Item} {k' : List Item} (id:Nat) (S:α -> List (Nat × Value)) (E:α -> List Ob) (p:α -> γ) (_s:St w0 w O1) (hx:exitTo id k = some k') (hh:jn K B = some r)
    (hJ:∀ x wx,St w0 wx (E x) -> Tr w O1 wx (E x) -> K (p x) = some r -> MX P Z b n ds cs k' (S x) wx)
    (h:∀ J:γ -> Option Q,(∀ x {wx σ'},St w0 wx (E x) -> Tr w O1 wx (E x) -> J (p x) = some r -> ∀ (_:Sub σ' (S x):=by repeat (first | refine ⟨rfl,?_⟩ | exact trivial)),MX P Z b n ds cs k' σ' wx) -> B J = some r -> MX P Z b n ds cs (it :: k) σ w):MX P Z b n ds cs (it :: k) σ w:=
  MX.joinx S (fun x wx=>St w0 wx (E x)/\Tr w O1 wx (E x)) p hx hh (fun x wx h1 h2=>hJ x wx h1.1 h1.2 h2) fun J h1 h2=>h J (fun x {wx σ'} a2 a3 a5 a1=>h1 x wx σ' a1 ⟨a2,a3⟩ a5) h2
theorem RD.mf {α:Type} (S:α -> List (Nat × Value)) (E:α -> List Ob) (G:α -> World -> Prop) (_s:St w0 w O1) (f' m' : Nat)
    (hJ:∀ x wx,St w0 wx (E x) -> Tr w O1 wx (E x) -> G x wx -> RD κ P Z b n ds cs ops t f' m' k (S x) wx)
    (h:(∀ x {wx σ'},St w0 wx (E x) -> Tr w O1 wx (E x) -> G x wx -> ∀ (_:Sub σ' (S x):=by repeat (first | refine ⟨rfl,?_⟩ | exact trivial)),RD κ P Z b n ds cs ops t f' m' k σ' wx) -> RD κ P Z b n ds cs ops t f m k σ w):RD κ P Z b n ds cs ops t f m k σ w:=
  RD.meet S (fun x wx=>St w0 wx (E x)/\Tr w O1 wx (E x)/\G x wx) f' m' (fun x wx h1=>hJ x wx h1.1 h1.2.1 h1.2.2) fun h1=>h fun x {wx σ'} a2 a3 a4 a1=>h1 x wx σ' a1 ⟨a2,a3,a4⟩
theorem RD.mo {α:Type} (S:α -> List (Nat × Value)) (E:α -> List Ob) (_s:St w0 w O1) (f' m' : Nat)
    (hJ:∀ x wx,St w0 wx (E x) -> Tr w O1 wx (E x) -> RD κ P Z b n ds cs ops t f' m' k (S x) wx)
    (h:(∀ x {wx σ'},St w0 wx (E x) -> Tr w O1 wx (E x) -> ∀ (_:Sub σ' (S x):=by repeat (first | refine ⟨rfl,?_⟩ | exact trivial)),RD κ P Z b n ds cs ops t f' m' k σ' wx) -> RD κ P Z b n ds cs ops t f m k σ w):RD κ P Z b n ds cs ops t f m k σ w:=
  RD.meet S (fun x wx=>St w0 wx (E x)/\Tr w O1 wx (E x)) f' m' (fun x wx h1=>hJ x wx h1.1 h1.2) fun h1=>h fun x {wx σ'} a2 a3 a1=>h1 x wx σ' a1 ⟨a2,a3⟩
theorem RG.bx {d:Tmp} {t ty:TypeId} {ps:String} {af:Array Edge} {x:Operand} {v:Value} {vs:List Value} {l:List Oper} {O:List Ob} (s:St w0 w O) (hx:ev σ x = some v) (hc:v.cells = vs.toArray) (h:∀ w1 b', St w0 w1 (.cells b' vs t :: O) -> Tr w O w1 (.cells b' vs t :: O) -> RG P Z b n ds cs ops l k ((d,.pointer (some ⟨b', 0,none⟩)) :: σ) w1) (hd:Nat.blt d n = true:=by rfl):RG P Z b n ds cs ops (⟨some d,.box t x,ty,ps,af,none⟩ :: l) k σ w:=RG.new .plain hd (Does.box s hx hc) h
theorem RG.nl {d:Tmp} {t ty:TypeId} {ps:String} {af:Array Edge} {l:List Oper} {O:List Ob} (zs:List Value) (s:St w0 w O) (h:∀ w1 b', St w0 w1 (.cells b' zs t :: O) -> Tr w O w1 (.cells b' zs t :: O) -> RG P Z b n ds cs ops l k ((d,.pointer (some ⟨b', 0,none⟩)) :: σ) w1) (hz:zerosB P t zs:=by exact zB (by kernel_rfl)) (hd:Nat.blt d n = true:=by rfl):RG P Z b n ds cs ops (⟨some d,.alloc t,ty,ps,af,none⟩ :: l) k σ w:=RG.new .plain hd (Does.alloc s hz) h
theorem bk {α β:Type} {C:Prop} {x:Option α} {g:α -> Option β} {r:β} (h:x.bind g = some r) (k:∀ y,x = some y -> g y = some r -> C):C:=
  let ⟨y,h1,h2⟩:=bind_in h; k y h1 h2
theorem xk {ε α β:Type} {C:Prop} {x:Option (Except ε α)} {f:α -> Option β} {g:ε -> Option β} {r:β} (h:(x.bind fun y=>exc y f g) = some r) (k1:∀ e,x = some (.error e) -> g e = some r -> C) (k2:∀ y,x = some (.ok y) -> f y = some r -> C):C:=by
  obtain ⟨y,h1,h2⟩:=bind_in h
  rcases y with e | y
  · exact k1 e h1 h2
  · exact k2 y h1 h2
theorem tn {α β:Type} {C:Prop} {o:Option (α ⊕ β)} {K:β -> Option α} {r:α} (h:thn o K = some r) (k:∀ x,o = some x -> thn (some x) K = some r -> C):C:=
  let ⟨y,h1,h2⟩:=thn_in h; k y h1 h2
end
@[reducible] def vW (x:Int):Value:=.int .u64 x
@[reducible] def vU (x:UInt64):Value:=.int .u64 (x.toNat:Int)
@[reducible] def zL:List Value:=[vW 0,vW 0,vW 0,vW 0,vW 0,vW 0,vW 0,vW 0,vW 0,vW 0,vW 0,vW 0,vW 0,vW 0,vW 0,vW 0]
@[reducible] def zM:Array Value:=#[vW 0,vW 0,vW 0,vW 0,vW 0,vW 0,vW 0,vW 0,vW 0,vW 0,vW 0,vW 0,vW 0,vW 0,vW 0,vW 0]
@[reducible] def zP:List Value:=[vW 0,vW 0,vW 0,vW 0,vW 0,vW 0,vW 0,vW 0]
@[reducible] def zQ:Array Value:=#[vW 0,vW 0,vW 0,vW 0,vW 0,vW 0,vW 0,vW 0]
section
variable {P:Program} {Z:Machine -> Prop} {b:Frame} {n:Nat} {ds:List Deferred} {cs:List Frame} {k:List Item} {σ:List (Nat × Value)} {w:World} {T:List (Nat × Nat × Nat)} {ops:Array Oper} {m m' i t W:Nat}
theorem rk {rs:List Nat} (hT:tabs ops = T) (h:readyD T m rs = true:=by kernel_rfl):readyB ops m rs = true:=readyD_ok hT h
theorem dk (hT:tabs ops = T) (h:doneD T m = true:=by kernel_rfl):Region.ready .any ops (lst ops.size m) = []:=doneD_ok hT h
theorem sk (hT:tabs ops = T) (h:stepC T m i m' = true:=by kernel_rfl):stepB ops.size m i m' = true:=stepC_ok hT h
theorem tk (hT:tabs ops = T) (h:takeC T t m W i m' = true:=by kernel_rfl):takeB ops t m W i m' = true:=takeC_ok hT h
theorem dt {id:Nat} {l:List Oper} (t:Nat) (T:List (Nat × Nat × Nat)) (h:tabs l.toArray = T -> plainB l.toArray = true -> RD kp0 P Z b n ds cs l.toArray t l.length 0 k σ w) (hT:tabs l.toArray = T:=by kernel_rfl) (hm:P.follows .mixedOrders = true:=by kernel_rfl) (hp:plainB l.toArray = true:=by kernel_rfl):MX P Z b n ds cs (.code (.region id l.toArray true) :: k) σ w:=MX.drawT t T hT hm hp h
end
theorem Tt {w1 w2 w3:World} {O1 O2 O3:List Ob} (h:Tr w1 O1 w2 O2) (k:Tr w2 O2 w3 O3):Tr w1 O1 w3 O3:=h.trans k
theorem bi {α β:Type} {x:Option α} {f:α -> Option β} {r:β} (h:x.bind f = some r):∃ y,x = some y/\f y = some r:=bind_in h
abbrev Aa:=@RG.nil
abbrev Ab:=@RG.va
abbrev Ac:=@MX.sr
abbrev Ae:=@RG.mo
abbrev Af:=@RG.so
abbrev Ag:=@RD.vw
abbrev Ah:=@FV.extract
abbrev Ai:=@FV.move
abbrev Aj:=@MX.seq
abbrev Ak:=@RG.new
abbrev Al:=@MX.ret
abbrev Am:=@Cells.cons
abbrev Ao:=@Rep.mv
abbrev Ap:=@RT.leave
abbrev Aq:=@MX.skip
abbrev Ar:=@Rep.keep0
abbrev Au:=@Cells.mv
abbrev Av:=@MX.region
abbrev Aw:=@RG.no
abbrev Ax:=@Cells.at_
abbrev Ay:=@MX.block
abbrev Az:=@Does.box
abbrev AA:=@MX.inBlock
abbrev AB:=@St.start
abbrev AC:=@Does.al
abbrev AD:=@Cells.nil
abbrev AE:=@Does.build
abbrev AF:=@MX.start
abbrev AG:=@RD.vx
abbrev AH:=@Acts.storeAll
abbrev AI:=@St.arrB
abbrev AJ:=@RG.ga
abbrev AK:=@FV.lN
abbrev AL:=@FV.l1
abbrev AM:=@RD.done
abbrev AN:=@MX.drawT
abbrev AO:=@Rep.mv0
abbrev AP:=@RG.l1
abbrev AQ:=@RG.sa
abbrev AR:=@Rep.o1
abbrev AS:=@MX.ifd
abbrev AT:=@RT.t1
abbrev AU:=@FV.assign
abbrev AV:=@RG.fa
abbrev AW:=@DoesL.app
abbrev AX:=@FV.buildV
abbrev AY:=@Rep.lenle
abbrev AZ:=@RG.call'
abbrev Ba:=@MX.exit
abbrev Bb:=@Calls.okp
abbrev Bc:=@FV.len
abbrev Bd:=@FV.fa
abbrev Be:=@RD.one
abbrev Bf:=@PN.leave
abbrev Bg:=@FV.indexArr
abbrev Bh:=@FV.pick_f
abbrev Bi:=@RG.cq
abbrev Bj:=@St.freeze
abbrev Bk:=@MX.cond_t
abbrev Bl:=@Rep.nth
abbrev Bm:=@FV.ia
abbrev Bn:=@RD.each
abbrev Bo:=@FV.not
abbrev Bp:=@FV.loadN
abbrev Bq:=@RO.val
abbrev Br:=@RG.pt
abbrev Bs:=@RO.doesL
abbrev Bu:=@FV.lssN
abbrev Bv:=@Tr.refl
abbrev Bw:=@FV.addN
abbrev Bx:=@RG.pf
abbrev By:=@St.delS
abbrev Bz:=@St.delT
abbrev BA:=@Rep.at_
abbrev BB:=@RD.cl
abbrev BC:=@FV.pick_t
abbrev BD:=@RD.offs
abbrev BE:=@RG.ifd
abbrev BF:=@MX.cond_f
abbrev BG:=@Src.rep
abbrev BH:=@RG.callE
abbrev BI:=@RO.new
abbrev BJ:=@RD.nw
abbrev BK:=@FV.len_string
abbrev BL:=@FV.addc
abbrev BM:=@RG.enterP
abbrev BN:=@FV.makeFunc
abbrev BO:=@RD.vP
abbrev BP:=@Acts.store
abbrev BQ:=@FV.eqlN
abbrev BR:=@FV.lss
abbrev BS:=@RD.nu
abbrev BT:=@RD.cq
abbrev BU:=@St.nthOwn
abbrev BV:=@Rep.sl
end Go.Proofs.YtgejkdheojkfiaaGreatDoor
