import Derived.Maps.Own
import Derived.Maps.Views
import Derived.Maps.OwnSet
import Derived.Maps.RangeWalk
import Derived.RangeFuncBox
import Derived.Test.YtmemofonebphfaaGreatV3
namespace Go.Proofs.YtmemofonebphfaaGreat
open Go.RowKit Go.WideMaps Go.Maps
structure KeyFit (P:Program) {κ:Type} (kt:TypeId) (enc:κ→Value) (ok:κ→Prop):Prop where
 keyed:Keyed P kt
 lit:∀p,ok p→∃l,keyOf P kt (enc p)=some l
 inj:∀p q,enc p=enc q→p=q
def Rh (v:Value):Option (DataW Value × List MemPlace):=some (.held v, [])
def Says (P:Program) {κ:Type} (kt:TypeId) (enc:κ→Value) (ok:κ→Prop) (D:DataW Value) (m:κ→Option Value):Prop:=
 (∀p l,keyOf P kt (enc p)=some l→Maps.has D l=(m p).isSome∧∀v,m p=some v→∀z,D.atKey l z= .held v)∧∀l,Maps.has D l=true→∃p,ok p∧keyOf P kt (enc p)=some l
def MapK (P:Program) {κ:Type} (kt:TypeId) (enc:κ→Value) (ok:κ→Prop) (w:World) (b n:Nat) (m:κ→Option Value):Prop:=
 ∃D:DataW Value,w.ownsMap P kt Rh b n D∧Says P kt enc ok D m
section
variable {P:Program} {κ:Type} [DecidableEq κ] {kt:TypeId} {enc:κ→Value} {ok:κ→Prop} {w w':World} {b n:Nat} {m:κ→Option Value}
omit [DecidableEq κ] in
theorem MapK.made (P:Program) (kt:TypeId) (enc:κ→Value) (ok:κ→Prop) (w:World):MapK P kt enc ok (w.alloc (.map #[] 0)) w.heap.size 0 (fun _=>none):=
 ⟨.map [],World.ownsMap_made w _ _ _,fun _ _ _=>⟨rfl,fun _ h=>by cases h⟩,fun l h=>by cases h⟩
omit [DecidableEq κ] in
theorem MapK.kept {row:Option Nat} (h:MapK P kt enc ok w b n m) (hg:w.grownBy w' row) (hne:some b≠row):MapK P kt enc ok w' b n m:=by
 obtain ⟨D,h1,h2⟩:=h
 exact ⟨D,h1.kept hg hne,h2⟩
omit [DecidableEq κ] in
theorem MapK.lt (h:MapK P kt enc ok w b n m):b < w.heap.size:=by
 obtain ⟨D,h1,_⟩:=h
 exact h1.lt
omit [DecidableEq κ] in
theorem MapK.below {B:Nat} (h:MapK P kt enc ok w b n m) (hb:Below B w w') (hB:b < B):MapK P kt enc ok w' b n m:=by
 obtain ⟨D,⟨es,clock,h1,h2⟩,h3⟩:=h
 exact ⟨D,⟨es,clock,(hb.block b hB).trans h1,h2⟩,h3⟩
omit [DecidableEq κ] in
theorem MapK.obj (h:MapK P kt enc ok w b n m):∃o,w.heap[b]? =some o∧o.isCells=false:=by
 obtain ⟨D,⟨es,clock,hb,_⟩,_⟩:=h
 exact ⟨_,hb,rfl⟩
omit [DecidableEq κ] in
theorem MapK.mono (h:MapK P kt enc ok w b n m) {n':Nat} (hn:n≤n'):MapK P kt enc ok w b n' m:=by
 obtain ⟨D,h1,h2⟩:=h
 exact ⟨D,h1.mono hn,h2⟩
omit [DecidableEq κ] in
theorem MapK.same {m':κ→Option Value} (h:MapK P kt enc ok w b n m) (hm:∀p,m p=m' p):MapK P kt enc ok w b n m':=by
 have:m=m':=funext hm
 exact this▸h
omit [DecidableEq κ] in
theorem MapK.lookup {t e:TypeId} {z:Value} (K:KeyFit P kt enc ok) (h:MapK P kt enc ok w b n m) (ht:P.underlying t=some (.map kt e)) (hz:(zeroValue e).run P w= .ok z w) (p:κ) (hp:ok p):
  (Instr.lookup t (.map (some b)) (enc p) false).run P w= .ok ((m p).getD z) w:=by
 obtain ⟨D,h1,h2,_⟩:=h
 obtain ⟨l,hl⟩:=K.lit p hp
 obtain ⟨v,ps,hrun,hv⟩:=h1.lookup K.keyed ht hz (zd:= .held z) rfl hl
 rw [hrun]
 cases hm:m p with
 | none=>
  have hh:Maps.has D l=false:=by rw [(h2 p l hl).1,hm];rfl
  rw [Maps.atKey_of_not_has hh] at hv
  simp only [Rh,Option.some.injEq,Prod.mk.injEq,DataW.held.injEq] at hv
  rw [hv.1];rfl
 | some u=>
  rw [(h2 p l hl).2 u hm] at hv
  simp only [Rh,Option.some.injEq,Prod.mk.injEq,DataW.held.injEq] at hv
  rw [hv.1];rfl
omit [DecidableEq κ] in
theorem MapK.lookup_ok {t e:TypeId} {z:Value} (K:KeyFit P kt enc ok) (h:MapK P kt enc ok w b n m) (ht:P.underlying t=some (.map kt e)) (hz:(zeroValue e).run P w= .ok z w) (p:κ) (hp:ok p):
  (Instr.lookup t (.map (some b)) (enc p) true).run P w= .ok (.tuple #[(m p).getD z, .bool (m p).isSome]) w:=by
 obtain ⟨D,h1,h2,_⟩:=h
 obtain ⟨l,hl⟩:=K.lit p hp
 obtain ⟨v,ps,hrun,hv⟩:=h1.look_ok K.keyed ht hz (zd:= .held z) rfl hl
 rw [hrun,(h2 p l hl).1]
 cases hm:m p with
 | none=>
  have hh:Maps.has D l=false:=by rw [(h2 p l hl).1,hm];rfl
  rw [Maps.atKey_of_not_has hh] at hv
  simp only [Rh,Option.some.injEq,Prod.mk.injEq,DataW.held.injEq] at hv
  rw [hv.1];rfl
 | some u=>
  rw [(h2 p l hl).2 u hm] at hv
  simp only [Rh,Option.some.injEq,Prod.mk.injEq,DataW.held.injEq] at hv
  rw [hv.1];rfl
theorem Says.put (K:KeyFit P kt enc ok) {D:DataW Value} (hD:Maps.IsMap D) (h:Says P kt enc ok D m) {p:κ} {l:Lit} (hp:ok p) (hl:keyOf P kt (enc p)=some l) (v:Value):
  Says P kt enc ok (D.put l (.held v)) (fun q=>if q=p then some v else m q):=by
 refine ⟨fun q k hk=> ?_,fun k hk=> ?_⟩
 ·by_cases hq:q=p
  ·subst hq
   rw [hl] at hk
   cases hk
   show Maps.has (D.put l (.held v)) l=(if q=q then some v else m q).isSome∧∀u,(if q=q then some v else m q)=some u→_
   rw [if_pos rfl]
   exact ⟨Maps.has_put_same hD (K.keyed.key hl) _,fun u hu z=>by cases hu;exact Maps.atKey_put_same hD (K.keyed.key hl) _ _⟩
  ·have hne:k≠l:=fun e=>hq (K.inj _ _ (K.keyed.inj (e▸hk) hl))
   show Maps.has (D.put l (.held v)) k=(if q=p then some v else m q).isSome∧∀u,(if q=p then some v else m q)=some u→_
   rw [if_neg hq,Maps.has_put_other hne]
   exact ⟨(h.1 q k hk).1,fun u hu z=>by rw [Maps.atKey_put_other hne];exact (h.1 q k hk).2 u hu z⟩
 ·by_cases hkl:k=l
  ·exact ⟨p,hp,hkl▸hl⟩
  ·rw [Maps.has_put_other hkl] at hk
   exact h.2 k hk
theorem MapK.update {t e:TypeId} (K:KeyFit P kt enc ok) (h:MapK P kt enc ok w b n m) (ht:P.underlying t=some (.map kt e)) (hn:n < maxLen) (p:κ) (hp:ok p) (v:Value):
  ∃w',(Instr.mapUpdate t (.map (some b)) (enc p) v).run P w= .ok () w'∧MapK P kt enc ok w' b (n+1) (fun q=>if q=p then some v else m q)∧w.grownBy w' (some b)∧w'.heap.size=w.heap.size:=by
 obtain ⟨D,h1,h2⟩:=h
 obtain ⟨l,hl⟩:=K.lit p hp
 obtain ⟨w',hrun,ho,hg⟩:=h1.store K.keyed ht hn hl (val:=v) (d:= .held v) (ps:= []) rfl
 refine ⟨w',hrun,⟨_,ho,h2.put K h1.isMap hp hl v⟩,hg.grown,?_⟩
 obtain ⟨es,c,es',c',_,rfl⟩:=hg
 simp [Go.ChangeMaps.setBlock]
omit [DecidableEq κ] in
theorem Says.size (K:KeyFit P kt enc ok) {D:DataW Value} (hT:∃es,D= .map es∧es.Pairwise (fun p q=>p.1≠q.1)∧∀p∈es,WideAt.IsKeyLit p.1) (h:Says P kt enc ok D m) (ks:List κ) (hnd:ks.Nodup) (hok:∀p∈ks,ok p) (hks:∀p,ok p→(p∈ks ↔ m p≠none)):Maps.size D=ks.length:=by
 obtain ⟨es,rfl,hp,hkl⟩:=hT
 obtain ⟨lt,hlt⟩:∃lt:κ→Lit,∀p,ok p→keyOf P kt (enc p)=some (lt p):=by
  refine ⟨fun p=>(keyOf P kt (enc p)).getD (.bool true),fun p hp=> ?_⟩
  obtain ⟨l,hl⟩:=K.lit p hp
  show _=some ((keyOf P kt (enc p)).getD (.bool true))
  rw [hl];rfl
 have h1:(es.map (·.1)).Nodup:=List.pairwise_map.2 hp
 have h2:(ks.map lt).Nodup:=by
  refine List.pairwise_map.2 (List.Pairwise.imp_of_mem (fun {a b} ha hb hne=> ?_) hnd)
  intro e
  exact hne (K.inj _ _ (K.keyed.inj (hlt a (hok a ha)) (e▸hlt b (hok b hb))))
 have hmem:∀l,l∈es.map (·.1) ↔ l∈ks.map lt:=fun l=>by
  constructor
  ·intro hl
   obtain ⟨x,hx,rfl⟩:=List.mem_map.1 hl
   have hk:Maps.has (.map es) x.1=true:=List.any_eq_true.2 ⟨x,hx,WideAt.sameKey_self (hkl x hx)⟩
   obtain ⟨p,hp,hpl⟩:=h.2 _ hk
   have hm:=(h.1 p x.1 hpl).1
   rw [hk] at hm
   refine List.mem_map.2 ⟨p,(hks p hp).2 (fun e=>by rw [e] at hm;cases hm),?_⟩
   exact Option.some.inj ((hlt p hp).symm.trans hpl)
  ·intro hl
   obtain ⟨p,hp,rfl⟩:=List.mem_map.1 hl
   have hm:=(h.1 p _ (hlt p (hok p hp))).1
   have:m p≠none:=(hks p (hok p hp)).1 hp
   have hh:Maps.has (.map es) (lt p)=true:=by
    rw [hm]
    cases hv:m p with
    | none=>exact absurd hv this
    | some v=>rfl
   obtain ⟨x,hx,hxk⟩:=List.any_eq_true.1 hh
   exact List.mem_map.2 ⟨x,hx,WideAt.sameKey_eq hxk⟩
 have:=((List.perm_ext_iff_of_nodup h1 h2).2 hmem).length_eq
 simpa [Maps.size] using this
omit [DecidableEq κ] in
theorem MapK.len {t e:TypeId} (K:KeyFit P kt enc ok) (h:MapK P kt enc ok w b n m) (ht:P.underlying t=some (.map kt e)) (ks:List κ) (hnd:ks.Nodup) (hok:∀p∈ks,ok p) (hks:∀p,ok p→(p∈ks ↔ m p≠none)) (ty:TypeId):
  (Builtin.len_ #[t] ty #[.map (some b)]).run P w= .ok (.int .i64 ks.length) w:=by
 obtain ⟨D,h1,h2⟩:=h
 rw [h1.len ht ty,h2.size K (h1.entries K.keyed) ks hnd hok hks]
def RngK (P:Program) {κ:Type} (kt:TypeId) (enc:κ→Value) (ok:κ→Prop) (w:World) (b r n:Nat) (m:κ→Option Value) (left:κ→Bool) (cnt:Nat):Prop:=
 ∃(D:DataW Value) (lf:Lit→Bool),w.ranges P kt Rh b r n D lf cnt∧Says P kt enc ok D m∧(∀p l,keyOf P kt (enc p)=some l→lf l=left p)∧∀l,lf l=true→Maps.has D l=true
omit [DecidableEq κ] in
theorem RngK.map {r cnt:Nat} {left:κ→Bool} (h:RngK P kt enc ok w b r n m left cnt):MapK P kt enc ok w b n m:=by
 obtain ⟨D,lf,h1,h2,_⟩:=h
 exact ⟨D,h1.owns,h2⟩
omit [DecidableEq κ] in
theorem RngK.kept {r cnt:Nat} {left:κ→Bool} {row:Option Nat} (h:RngK P kt enc ok w b r n m left cnt) (hg:w.grownBy w' row) (hb:some b≠row) (hr:some r≠row):RngK P kt enc ok w' b r n m left cnt:=by
 obtain ⟨D,lf,h1,h2⟩:=h
 exact ⟨D,lf,h1.kept hg hb hr,h2⟩
omit [DecidableEq κ] in
theorem RngK.left_eq {r cnt:Nat} {left:κ→Bool} (h:RngK P kt enc ok w b r n m left cnt):w.rangeLeft b r=cnt:=by
 obtain ⟨D,lf,h1,_⟩:=h
 exact h1.left_eq
theorem RngK.next {r cnt:Nat} {left:κ→Bool} (K:KeyFit P kt enc ok) (h:RngK P kt enc ok w b r n m left cnt) (ty:TypeId):
  (cnt=0∧(∀p,ok p→left p=false)∧(Instr.next (.pointer (some ⟨r,0,none⟩)) false ty).run P w= .ok (.tuple #[.bool false]) w)∨
  ∃p v w' cnt',ok p∧left p=true∧m p=some v∧(Instr.next (.pointer (some ⟨r,0,none⟩)) false ty).run P w= .ok (.tuple #[.bool true,enc p,v]) w'∧
   RngK P kt enc ok w' b r n m (fun q=>left q && !decide (q=p)) cnt'∧cnt' < cnt∧w.grownBy w' (some r)∧w'.heap.size=w.heap.size∧(Instr.entry (.pointer (some ⟨r,0,none⟩))).run P w'= .ok (.tuple #[enc p,v]) w':=by
 obtain ⟨D,lf,h1,h2,h3,h4⟩:=h
 rcases h1.next K.keyed ty with ⟨h0,hall,hrun⟩ | ⟨key,v,kl,y,w',cnt',hkey,hleft,hv,hat,hrun,hr',hlt,hg,hz,hent⟩
 ·refine .inl ⟨h0,fun p hp=> ?_,hrun⟩
  obtain ⟨l,hl⟩:=K.lit p hp
  rw [←h3 p l hl]
  exact hall l
 ·obtain ⟨p,hp,hpl⟩:=h2.2 kl (h4 kl hleft)
  have hkp:key=enc p:=K.keyed.inj hkey hpl
  subst hkp
  have hhas:=(h2.1 p kl hpl).1
  rw [h4 kl hleft] at hhas
  obtain ⟨u,hu⟩:∃u,m p=some u:=by
   cases hm:m p with
   | none=>rw [hm] at hhas;cases hhas
   | some u=>exact ⟨u,rfl⟩
  have h5:=(h2.1 p kl hpl).2 u hu (.bool false |>DataW.lit)
  rw [hat] at h5
  simp only [Rh,Option.some.injEq] at hv
  subst hv
  simp only [DataW.held.injEq] at h5
  subst h5
  refine .inr ⟨p,v,w',cnt',hp,by rw [←h3 p kl hpl];exact hleft,hu,hrun,⟨D,_,hr',h2,fun q l hl=> ?_,fun l hl=>h4 l ?_⟩,hlt,hg,hz,hent⟩
  ·show (lf l && !l.sameKey kl)=(left q && !decide (q=p))
   rw [h3 q l hl]
   by_cases hq:q=p
   ·subst hq
    rw [hl] at hpl
    cases hpl
    rw [WideAt.sameKey_self (K.keyed.key hl)]
    simp
   ·have hne:l≠kl:=fun e=>hq (K.inj _ _ (K.keyed.inj (e▸hl) hpl))
    rw [Maps.sameKey_ne hne]
    simp [hq]
  ·simp only [Bool.and_eq_true] at hl
   exact hl.1
end
end Go.Proofs.YtmemofonebphfaaGreat
