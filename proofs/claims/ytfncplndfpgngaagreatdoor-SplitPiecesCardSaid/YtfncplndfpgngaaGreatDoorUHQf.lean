/- Plain law: SplitNests. No program in sight but the printed functions. -/
import Derived.Test.YtfncplndfpgngaaGreatDoorUHQe
namespace Go.Proofs.YtfncplndfpgngaaGreatDoor
open Go
set_option maxRecDepth 8000
def key (a:Nat) (u:TUnit):Int:=(u.fw[a]?).getD 0
def tell (m:Int) (u:TUnit):TUnit:=if u.fo = true then u else ⟨u.ft,u.fp,u.fe,u.fC,[key 0 u,(key 0 u).tmod m],u.fo⟩
theorem dat_get {us:List TUnit} {at_:Nat} {p:List Int} (hp:PL us p) {t:T3} (ht:t ∈ dat us at_ p):∃ i,∃ hi:i < us.length,t = (key at_ us[i],us[i].fp,(pl0 us p)[i]'(by rw [pl0_len hp]; exact hi)):=by
  obtain ⟨i,hi,rfl⟩:=List.getElem_of_mem ht
  have hi' : i < us.length:=by rwa [dat_len hp] at hi
  exact ⟨i,hi', dat_at hp hi'⟩
theorem dat_has {us:List TUnit} {at_:Nat} {p:List Int} (hp:PL us p) {i:Nat} (hi:i < us.length):(key at_ us[i],us[i].fp,(pl0 us p)[i]'(by rw [pl0_len hp]; exact hi)) ∈ dat us at_ p:=by
  have:=dat_at (at_:=at_) hp hi
  unfold key
  rw [← this]
  exact List.getElem_mem _
theorem key_mem {us:List TUnit} {at_:Nat} {p:List Int} (hp:PL us p) {x:Int}:x ∈ keys (dat us at_ p) ↔ ∃ u ∈ us,key at_ u = x:=by
  rw [keys_dat hp,List.mem_map]
  rfl
end Go.Proofs.YtfncplndfpgngaaGreatDoor
