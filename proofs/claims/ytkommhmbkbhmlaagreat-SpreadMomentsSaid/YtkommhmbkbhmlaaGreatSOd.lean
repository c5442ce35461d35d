/- Laws of the walk: arrays of slices, at a variable. No program in sight. -/
import Derived.Test.YtkommhmbkbhmlaaGreatSRs
namespace Go.Proofs.YtkommhmbkbhmlaaGreat
open Go Go.RowKit
section
variable {P:Program} {σ:Lb (Nat × Vc)} {w:World} {x y:Operand} {d:Oa Tmp} {t ty:TypeId} {ps:String} {af:Array Edge} {g:Oa (Nat × Bool)} {β:Type} [Rep β] {L:Lb Nat}
theorem FV.idxRSP {len i:Nat} {kd:IntKind} {j:Int} {cells:Lb Vc} {css:Lb (Lb Vc)} {xss:Lb (Lb β)} {u:Lb β} (h:pN P t 1 false = true) (hl:pr P t = len) (hn:xss.length = len) (hx:ev σ x = some (.agg cells.toArray)) (hc:cells = css.flatten) (hy:ev σ y = some (.int kd j)) (hi:j = (i:Int))
  (hF:Reps w L css xss) (hz:xss[i]? = some u):∃ v,(∀ w9,FV P ⟨d,.index t x y,ty,ps,af,g⟩ σ w9 v)/\Rep.R w L [v] u:=by
 obtain ⟨ds,h1,h2⟩:=pi hF hz
 obtain ⟨v,rfl,h3⟩:=cY h1
 subst hc
 refine ⟨v,fun _=>FV.idx1 h hl hx hy hi (by rw [<- hn]; exact (List.getElem?_eq_some_iff.1 hz).1) ?_,h3⟩
 have h4:((css.flatten).drop (i * 1)).take 1 = [v]:=h2
 have h5:=congrArg (fun l:Lb Vc=>l[0]?) h4
 simpa using h5
theorem FV.idxRS {len i:Nat} {kd:IntKind} {j:Int} {cells:Lb Vc} {css:Lb (Lb Vc)} {xss:Lb (Lb β)} {u:Lb β} (h:pN P t 1 false = true) (hl:pr P t = len) (hn:xss.length = len) (hx:ev σ x = some (.agg cells.toArray)) (hc:cells = css.flatten) (hy:ev σ y = some (.int kd j)) (hi:j = (i:Int))
  (hF:Reps w L css xss) (hz:xss[i]? = some u):∃ v,FV P ⟨d,.index t x y,ty,ps,af,g⟩ σ w v/\Rep.R w L [v] u:=
 let ⟨v,h1,h2⟩:=FV.idxRSP h hl hn hx hc hy hi hF hz; ⟨v,h1 w,h2⟩
end
end Go.Proofs.YtkommhmbkbhmlaaGreat
