import Derived.WideKeyEntry
import Derived.Test.YtmemofonebphfaaGreatV5
namespace Go.Proofs.YtmemofonebphfaaGreat
open Go.RowKit Go.WideMaps Go.Maps Go.ChangeMaps Go.WideElems
theorem nodup_map_inj4 {α β:Type} {f:α→β} {l:List α} (h:(l.map f).Nodup) {a b:α} (ha:a∈l) (hb:b∈l) (e:f a=f b):a=b:=by
 induction l with
 | nil=>cases ha
 | cons x l ih=>
  rw [List.map_cons,List.nodup_cons] at h
  rcases List.mem_cons.1 ha with h1 | h1 <;>rcases List.mem_cons.1 hb with h2 | h2
  ·rw [h1,h2]
  ·exact absurd (List.mem_map.2 ⟨b,h2,by rw [←e,h1]⟩) h.1
  ·exact absurd (List.mem_map.2 ⟨a,h1,by rw [e,h2]⟩) h.1
  ·exact ih h.2 h1 h2
theorem entry_is_update {H:Type} {P:Program} {w:World} {t k e:TypeId} {R:Value→Option (DataW H × List MemPlace)} {b:Nat} {es:Array MapEntry} {clock:Nat} (K:KeyLaw P k) (ht:P.underlying t=some (.map k e)) {z:Value} (hz:∀u:World,(zeroValue e).run P u= .ok z u) (hb:w.heap[b]? =some (.map es clock)) (F:Fit P k R es clock)
  {key:Value} {kl:Lit} (hkey:keyOf P k key=some kl):
  ∃(v0:Value) (st:Nat) (w1:World),(Instr.mapEntry t (.map (some b)) key).run P w= .ok (.tuple #[v0,goInt st]) w1∧(Instr.mapUpdate t (.map (some b)) key v0).run P w= .ok () w1:=by
 obtain ⟨s1,s2,_⟩:=F.stamped
 rcases K.find w hkey es.toList F.keys with ⟨h1,h2⟩ | ⟨j,e0,h1,h2,h3⟩
 ·refine ⟨z,clock,setBlock w b (.map (es.push ⟨key,z,clock⟩) (clock+1)),?_,?_⟩
  ·simp [Instr.mapEntry,run_underlying ht,MapKept.run_getObj_map hb,K.check w false hkey,h1,hz,MapKept.run_setObj_map _ hb,Result.andThen,setBlock]
  ·simp [Instr.mapUpdate,run_underlying ht,MapKept.run_getObj_map hb,K.check w false hkey,h1,MapKept.run_setObj_map _ hb,Result.andThen,setBlock]
 ·have hj:es[j]? =some e0:=by simpa using h2
  have hsame:es.modify j (fun e=>{e with key:=key})=es:=by
   apply Array.ext'
   rw [Array.toList_modify,modify_eq_set _ _ _ _ h2]
   have:({e0 with key:=key}:MapEntry)=e0:=by rw [←h3]
   rw [this]
   exact set_self _ _ _ h2
  have hsame2:es.modify j (fun e=>{e with key:=key,val:=e0.val})=es:=by
   apply Array.ext'
   rw [Array.toList_modify,modify_eq_set _ _ _ _ h2]
   have:({e0 with key:=key,val:=e0.val}:MapEntry)=e0:=by rw [←h3]
   rw [this]
   exact set_self _ _ _ h2
  refine ⟨e0.val,e0.born,setBlock w b (.map es clock),?_,?_⟩
  ·simp [Instr.mapEntry,run_underlying ht,MapKept.run_getObj_map hb,K.check w false hkey,h1,hj,h3,K.stays w hkey,hsame,MapKept.run_setObj_map _ hb,Result.andThen,setBlock]
  ·simp [Instr.mapUpdate,run_underlying ht,MapKept.run_getObj_map hb,K.check w false hkey,h1,hj,h3,K.stays w hkey,hsame2,MapKept.run_setObj_map _ hb,Result.andThen,setBlock]
theorem MapK.entry4 {P:Program} {κ:Type} [DecidableEq κ] {kt:TypeId} {enc:κ→Value} {ok:κ→Prop} {w:World} {b n:Nat} {m:κ→Option Value} {t e:TypeId} {z:Value} (K:KeyFit P kt enc ok) (L:KeyLaw P kt) (h:MapK P kt enc ok w b n m) (ht:P.underlying t=some (.map kt e)) (hz:∀u:World,(zeroValue e).run P u= .ok z u) (hn:n < maxLen) (p:κ) (hp:ok p):
  ∃(st:Nat) (w1:World),(Instr.mapEntry t (.map (some b)) (enc p)).run P w= .ok (.tuple #[(m p).getD z,goInt st]) w1∧w.grownBy w1 (some b)∧w1.heap.size=w.heap.size∧MapK P kt enc ok w1 b (n+1) (fun q=>if q=p then some ((m p).getD z) else m q)∧(∃o,w1.heap[b]? =some o∧o.isCells=false)∧
   ∀(w2:World) (val:Value),w2.heap[b]? =w1.heap[b]? →∃w3,(Instr.entryStore t (.map (some b)) (goInt st) val).run P w2= .ok () w3∧MapK P kt enc ok w3 b (n+1) (fun q=>if q=p then some val else m q)∧w2.grownBy w3 (some b)∧w3.heap.size=w2.heap.size:=by
 have hlook:=h.lookup K ht (hz w) p hp
 have hupd:=fun val=>h.update K ht hn p hp val
 have hlt:=h.lt
 obtain ⟨l,hl⟩:=K.lit p hp
 obtain ⟨D,⟨es,clock,hb,F,hle,hD⟩,hs⟩:=h
 obtain ⟨v0,st,es1,clock1,hme,hcase,hst⟩:=Go.WideElems.entry_then_store L ht hz hb F hl
 obtain ⟨v0',st',w1',hme',hup'⟩:=entry_is_update L ht hz hb F hl
 rw [hme] at hme'
 simp only [Result.ok.injEq,Value.tuple.injEq,Array.mk.injEq,List.cons.injEq,and_true] at hme'
 obtain ⟨⟨rfl,_⟩,rfl⟩:=hme'
 have hv0:v0=(m p).getD z:=by
  rcases fit_look false K.keyed ht (hz w) hb F hl with ⟨hrun,hno,_⟩ | ⟨e0,y,hm0,hk0,hrun,_⟩
  ·rw [hrun] at hlook
   simp only [Bool.false_eq_true,if_false,Result.ok.injEq,and_true] at hlook
   rcases hcase with ⟨e1,he1,hk1,_⟩ | ⟨_,h2⟩
   ·exact absurd hk1 (hno e1 he1)
   ·rw [h2,←hlook]
  ·rw [hrun] at hlook
   simp only [Bool.false_eq_true,if_false,Result.ok.injEq,and_true] at hlook
   rcases hcase with ⟨e1,he1,hk1,h2⟩ | ⟨hno,_⟩
   ·have:=nodup_map_inj4 F.stamped.2.2 he1 hm0 (hk1.trans hk0.symm)
    rw [h2,this,←hlook]
   ·exact absurd hk0 (hno e0 hm0)
 subst hv0
 refine ⟨st,_,hme,?_,by simp [setBlock],?_,⟨_,heap_setBlock_same hb _,rfl⟩,fun w2 val hw2=> ?_⟩
 ·exact ⟨rfl,rfl,rfl,by simp [setBlock],fun i _ hi=>heap_setBlock_other hb _ (fun e=>hi (by rw [e]))⟩
 ·obtain ⟨w',hu,hMu,_,_⟩:=hupd ((m p).getD z)
  rw [hup'] at hu
  simp only [Result.ok.injEq,true_and] at hu
  subst hu
  exact hMu
 ·rw [heap_setBlock_same hb] at hw2
  obtain ⟨es',clock',hrun2,hrunU⟩:=hst w2 val hw2
  obtain ⟨w',hu,hMu,_,_⟩:=hupd val
  rw [hrunU] at hu
  have hw':w'=setBlock w b (.map es' clock'):=by
   simp only [Result.ok.injEq,true_and] at hu
   exact hu.symm
  subst hw'
  refine ⟨_,hrun2,?_,⟨rfl,rfl,rfl,by simp [setBlock],fun i _ hi=>heap_setBlock_other hw2 _ (fun e=>hi (by rw [e]))⟩,by simp [setBlock]⟩
  obtain ⟨D',⟨es2,clock2,hb2,h3⟩,h4⟩:=hMu
  rw [heap_setBlock_same hb] at hb2
  exact ⟨D',⟨es2,clock2,by rw [heap_setBlock_same hw2];exact hb2,h3⟩,h4⟩
end Go.Proofs.YtmemofonebphfaaGreat
