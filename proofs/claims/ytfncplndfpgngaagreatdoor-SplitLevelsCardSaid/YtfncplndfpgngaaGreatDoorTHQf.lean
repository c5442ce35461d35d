/- Plain law: SplitNests. No program in sight but the printed functions. -/
import Derived.Test.YtfncplndfpgngaaGreatDoorTHQe
namespace Go.Proofs.YtfncplndfpgngaaGreatDoor
open Go
set_option maxRecDepth 8000
def key (a:Nat) (u:TUnit):Int:=(u.fw[a]?).getD 0
def Nst (us:List TUnit) (a b:Nat):Prop:=∀ u ∈ us,∀ v ∈ us,key a u = key a v → key b u = key b v
theorem nested_ok {r:TRoll} {us:List TUnit} {a b:Nat} (h:LR r us a) (h' : LR r us b):∃ q:Bool,split_Nested_p FU r a b = some (q,0)∧(q = true ↔ Nst us a b):=by
  have hF:=FU_lt
  have hN:=h.n
  obtain ⟨ws,hr,hw⟩:=h.all
  have hz:r.fm.length = us.length + ws.length:=by rw [hr,List.length_append]
  have hh:=loop_ok (B:=split_Nested_l1 FU (⟨r,a⟩,0) b) (fun s:Nat × List (Int × Int)=>r.fm.length - s.1)
    (fun s=>s.1 ≤ r.fm.length∧(∀ j (hj:j < us.length),j < s.1 → mget s.2 (key a us[j]) = some (key b us[j]))∧∀ x,mget s.2 x ≠ none → ∃ j,∃ hj:j < us.length,j < s.1∧key a us[j] = x)
    (fun y=>y = .inr ()∧Nst us a b ∨ y = .inl (false,0)∧¬ Nst us a b) ?_ FU (0,[]) ⟨Nat.zero_le _,fun j _ hj=>by simp at hj,fun x hx=>absurd rfl hx⟩ (by simp only; omega)
  · obtain ⟨y,e,hy⟩:=hh
    unfold split_Nested_p
    rw [seen_ok h,obind]
    unfold jn
    simp only [if_true]
    rw [seen_ok h', obind]
    simp only [if_true]
    rw [e]
    rcases hy with ⟨rfl,hq⟩ | ⟨rfl,hq⟩
    · exact ⟨true,rfl,by simpa using hq⟩
    · exact ⟨false,rfl,by simpa using hq⟩
  · rintro ⟨i,M⟩ J ⟨a1,a2,a3⟩ hJ
    simp only at a1 a2 a3 hJ
    unfold split_Nested_l1
    simp only
    split
    · rename_i hi
      rw [List.getElem?_eq_getElem hi,obind]
      by_cases h2:i < us.length
      · have e0:r.fm[i] = us[i]:=by simp only [hr]; exact List.getElem_append_left h2
        have q1:=h.q us[i] (List.getElem_mem _)
        have q2:=h'.q us[i] (List.getElem_mem _)
        have k1:key a us[i] = us[i].fw[a]'q1.1:=by unfold key; rw [List.getElem?_eq_getElem q1.1]; rfl
        have k2:key b us[i] = us[i].fw[b]'q2.1:=by unfold key; rw [List.getElem?_eq_getElem q2.1]; rfl
        rw [e0,if_neg (by rw [h.w us[i] (List.getElem_mem _)]; decide),idx_ok (by omega) (by rw [Int.toNat_natCast]; exact q1.1),obind,idx_ok (by omega) (by rw [Int.toNat_natCast]; exact q2.1),obind]
        simp only [Int.toNat_natCast]
        rw [← k1,← k2]
        have next:(mget M (key a us[i]) = none ∨ mget M (key a us[i]) = some (key b us[i])) → ∃ y,J (i + 1,mset M (key a us[i]) (key b us[i])) = some y∧(y = .inr ()∧Nst us a b ∨ y = .inl (false,0)∧¬ Nst us a b):=fun hm=>by
          refine hJ _ ⟨hi,fun j hj hji=>?_,fun x hx=>?_⟩ (by simp only; omega)
          · simp only at hji ⊢
            rw [mget_mset]
            by_cases e:j = i
            · subst e; rw [if_pos rfl]
            · have hold:=a2 j hj (by omega)
              by_cases e2:key a us[j] = key a us[i]
              · rw [if_pos e2]
                rw [e2] at hold
                rcases hm with hm | hm
                · rw [hm] at hold; cases hold
                · rw [hm] at hold; exact hold
              · rw [if_neg e2]; exact hold
          · simp only at hx ⊢
            rw [mget_mset] at hx
            by_cases e:x = key a us[i]
            · exact ⟨i,h2,by omega,e.symm⟩
            · rw [if_neg e] at hx
              obtain ⟨j,hj,hji,e3⟩:=a3 x hx
              exact ⟨j,hj,by omega,e3⟩
        rcases hm:mget M (key a us[i]) with _ | y
        · rw [if_neg (by simp)]
          exact next (.inl hm)
        · rw [if_pos (show (some y).isSome = true from rfl)]
          have hmD:mgetD M (key a us[i]) 0 = y:=by unfold mgetD; rw [hm]; rfl
          rw [hmD]
          by_cases e:y = key b us[i]
          · rw [if_pos e]
            exact next (.inr (by rw [hm,e]))
          · rw [if_neg e]
            refine ⟨_,rfl,.inr ⟨rfl,fun hn=>e ?_⟩⟩
            obtain ⟨j,hj,hji,e3⟩:=a3 (key a us[i]) (by rw [hm]; simp)
            have h4:=a2 j hj hji
            rw [e3,hm] at h4
            rw [Option.some.inj h4]
            exact hn _ (List.getElem_mem _) _ (List.getElem_mem _) e3
      · have e0:r.fm[i] ∈ ws:=by
          have:r.fm[i] = ws[i - us.length]'(by omega):=by simp only [hr]; exact List.getElem_append_right (by omega)
          rw [this]; exact List.getElem_mem _
        rw [if_pos (hw _ e0)]
        refine hJ _ ⟨hi,fun j hj _=>a2 j hj (by omega),fun x hx=>?_⟩ (by simp only; omega)
        obtain ⟨j,hj,hji,e3⟩:=a3 x hx
        exact ⟨j,hj,by simp only; omega,e3⟩
    · rename_i hi
      refine ⟨_,rfl,.inl ⟨rfl,fun u hu v hv e=>?_⟩⟩
      obtain ⟨j,hj,rfl⟩:=List.getElem_of_mem hu
      obtain ⟨k,hk,rfl⟩:=List.getElem_of_mem hv
      have h1:=a2 j hj (by omega)
      have h2:=a2 k hk (by omega)
      rw [e,h2] at h1
      exact (Option.some.inj h1).symm
def tell (m:Int) (u:TUnit):TUnit:=if u.fo = true then u else ⟨u.ft,u.fp,u.fe,u.fC,[key 0 u,(key 0 u).tmod m],u.fo⟩
theorem key_mem {us:List TUnit} {at_:Nat} {p:List Int} (hp:PL us p) {x:Int}:x ∈ keys (dat us at_ p) ↔ ∃ u ∈ us,key at_ u = x:=by
  rw [keys_dat hp,List.mem_map]
  rfl
end Go.Proofs.YtfncplndfpgngaaGreatDoor
