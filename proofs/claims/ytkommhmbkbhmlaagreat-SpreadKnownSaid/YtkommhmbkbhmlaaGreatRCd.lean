/- From a law's walk to its row: the arguments, opened whatever their types; behind the call they read as they did. No program in sight. -/
import Derived.Test.YtkommhmbkbhmlaaGreatRBase
import Derived.WideKeyArgs
import Derived.ChangeArms
import Derived.OpenShut
import Derived.ChangeSame
import Derived.OpenVars
import Derived.Lib.LaidTab
import Derived.Deep.DeepHandedRow
namespace Go.Proofs.YtkommhmbkbhmlaaGreat
open Go Go.RowKit Go.WideElems Go.ChangeShapes Go.WideShapes
/-! ### One argument -/
/-! ### Behind the call -/
theorem dG {H:Type} {enc:TypeId × Value -> H} {P:Program} (hl:laidOutB P = true) {W W' : World} {sp:Nat -> Bool}:∀ {ts:List TypeId} {vs:List Value} {ds:List (DataW H)} {ps:List MemPlace},(ts.all fun t=>P.readableRec t && decide (t < P.types.size)) = true ->
  DataW.TrodAll enc P W 0 (fun _=>true) true ts vs ds ps -> (∀ p ∈ ps,W.sameAt W' p) -> (∀ p ∈ ps,sp p.block = true) -> DataW.TrodAll enc P W' 0 sp true ts vs ds ps
 | [],[],[],_,_,h,_,_=>h
 | [],_ :: _,_,_,_,h,_,_=>h.elim
 | [],[],_ :: _,_,_,h,_,_=>h.elim
 | _ :: _,[],_,_,_,h,_,_=>h.elim
 | _ :: _,_ :: _,[],_,_,h,_,_=>h.elim
 | t :: ts,v :: vs,d :: ds,_,ht,h,hsame,hsp=>by
  obtain ⟨p,q,h1,h2,rfl⟩:=h
  simp only [List.all_cons,Bool.and_eq_true,decide_eq_true_eq] at ht
  exact ⟨p,q,Trod_stays hl ht.1.1 ht.1.2 h1 (fun x hx=>hsame x (by simp [hx])) (fun x hx=>hsp x (by simp [hx])),
   dG hl (by simpa using ht.2) h2 (fun x hx=>hsame x (by simp [hx])) (fun x hx=>hsp x (by simp [hx])),rfl⟩
theorem iR {H:Type} {enc:TypeId × Value -> H} {P:Program} {f:Func} {s:ChangeSpec} {apart fresh handsOn again:Bool} {W W' : World} {args:Array Value} {ds gs:List (DataW H)} {before:List MemPlace} {tb:TypeId}
  (hW:DataW.Whole enc P f.params.toList s.vars apart W args.toList ds gs before) (hv:s.vars = []) (hl:laidOutB P = true) (ht:(f.params.toList.all fun t=>P.readableRec t && decide (t < P.types.size)) = true)
  (hr:f.resultTypes = #[tb]) (hb:P.underlying tb = some .bool) (hs:∀ gs,gs = [] -> s.fn H (ds ++ gs) = { results:=[.lit (.bool true)],args:=ds }) (hA:Agree [] W W') :
  s.post enc P f apart fresh handsOn again W args (.bool true) W' :=by
 have hB:=hA.below
 have hW' :=hW
 have hlt:∀ p ∈ before,p.block < W.heap.size:=hW.lt
 obtain ⟨p,q,h1,h2,rfl,h4,h5⟩:=hW'
 rw [hv] at h2
 match gs,h2 with
 | [],h2=>
 obtain rfl:q = []:=h2
 have hs:=hs [] I
 rw [List.append_nil] at hW h4 h5 hlt
 have e:(Value.bool true).resultList f.resultTypes.size = [.bool true]:=by rw [hr]; rfl
 have hres:∀ (b:Nat) (sp:Nat -> Bool) (hd:Bool),DataW.TrodAll enc P W' b sp hd f.resultTypes.toList ((Value.bool true).resultList f.resultTypes.size) (s.fn H (ds ++ [])).results []:=fun b sp hd=>by
  rw [e,hr,hs]
  exact ⟨[],[],shut_bool hb true,I,I⟩
 have harg:∀ sp:Nat -> Bool,(∀ x ∈ p,sp x.block = true) -> DataW.TrodAll enc P W' 0 sp true f.params.toList args.toList (s.fn H (ds ++ [])).args p:=fun sp hsp=>by
  rw [hs]
  exact dG hl ht h1 (fun x hx=>hB.same (hlt x hx)) hsp
 have hok:∀ (j:Nat) (t:TypeId) (r:Value),f.resultTypes[j]? = some t -> ((Value.bool true).resultList f.resultTypes.size)[j]? = some r -> Value.okWide P W' .any 0 t r:=by
  intro j t r hj hr'
  rw [e] at hr'
  rw [hr] at hj
  cases j with
  | zero=>cases hj; cases hr'; exact okWide_bool_mk hb true
  | succ j=>simp at hj
 have hvars:∀ sp,DataW.TrodVars enc P W' sp s.vars (s.fn H (ds ++ [])).vars []:=fun sp=>by rw [hv,hs]; rfl
 refine ⟨ds,[],p,[],p,[],hW,hres _ _ _,harg _ (fun x hx=>by simpa using hlt x hx),hvars _,hB.frame _,fun _=>?_⟩
 refine ⟨hok,_,_,([] ++ p) ++ [],⟨[] ++ p,[],trodAll_append (harg _ (fun _ _=>rfl)) (hres _ _ _),hvars _,I,?_,?_⟩,?_⟩
 ·intro b off hp
  have hp:MemPlace.cell b off ∈ p:=by simpa using hp
  rw [hB.frozen (p:=⟨b,off,none⟩) (hlt _ hp)]
  exact h4 b off hp
 ·intro ha
  simpa using h5 ha
 ·intro x hx _
  simpa using hx
end Go.Proofs.YtkommhmbkbhmlaaGreat
