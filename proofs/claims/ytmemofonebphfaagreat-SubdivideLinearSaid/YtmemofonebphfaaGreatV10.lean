import Derived.RangeFuncNested
import Derived.RangeFuncBox
import Derived.Test.YtmemofonebphfaaGreatV7
namespace Go.Proofs.YtmemofonebphfaaGreat
open Go.RowKit Go.Sort
abbrev Hdr:=Option Addr × Nat × Nat
def encS (s:Hdr):List Value:= [.slice s.1 s.2.1 s.2.2]
theorem encS_len (s:Hdr):(encS s).length=1:=rfl
theorem encS_one (s:Hdr):∀u∈encS s,u.oneCell'=true:=by
 intro u hu
 simp only [encS,List.mem_singleton] at hu
 subst hu
 rfl
def Pcs {α:Type} (enc:α→List Value) (k:Nat) (e te:TypeId) (w:World) (base:Nat) (v:Value) (ps:List (List α)):Prop:=
 ∃ss:List Hdr,Own encS 1 te w base v ps.length ss∧∀(i:Nat) (p:List α),ps[i]? =some p→∃A c,ss[i]? =some (A,p.length,c)∧Own enc k e w base (.slice A p.length c) p.length p
section
variable {α:Type} {enc:α→List Value} {k:Nat} {e te:TypeId} {w w':World} {base:Nat} {v:Value} {n:Nat} {xs:List α} {ps:List (List α)}
theorem Own.step {row:Option Nat} (h:Own enc k e w base v n xs) (hg:w.grownBy w' row) (hr:∀r,row=some r→r < base∨∀cs,w.heap[r]? ≠some (.cells cs e (0,0))):Own enc k e w' base v n xs:=by
 refine h.kept hg ?_
 cases hv:v.ownBlock with
 | none=>exact .inl rfl
 | some g=>
  refine .inr fun e'=> ?_
  obtain ⟨cs,hc⟩:=h.cells g hv
  rcases hr g e'.symm with hlt | hn
  ·have:=(h.blk g hv).1;omega
  ·exact hn cs hc
theorem Sl.grown {row:Option Nat} {B b o:Nat} (h:Sl enc k w B (some ⟨b,o,none⟩) xs) (hg:w.grownBy w' row) (hB:B≤w.heap.size) (hr:some b≠row):Sl enc k w' B (some ⟨b,o,none⟩) xs:=by
 rcases h with ⟨_,h⟩ | ⟨b',o',ha,hb,hc⟩
 ·cases h
 ·cases ha
  refine .inr ⟨b,o,rfl,hb,fun i x hx j u hu=> ?_⟩
  have:=hc i x hx j u hu
  have hbk:=hg.block b (by omega) hr
  unfold World.cell? at this⊢
  rw [hbk]
  exact this
theorem Pcs.nil:Pcs enc k e te w base (.slice none 0 0) ([]:List (List α)):=⟨[],Own.nil,by simp⟩
theorem Pcs.below {B:Nat} (h:Pcs enc k e te w base v ps) (hb:Below B w w') (hB:w.heap.size≤B):Pcs enc k e te w' base v ps:=by
 obtain ⟨ss,ho,hp⟩:=h
 refine ⟨ss,ho.below hb hB,fun i p hi=> ?_⟩
 obtain ⟨A,c,hs,hO⟩:=hp i p hi
 exact ⟨A,c,hs,hO.below hb hB⟩
theorem Pcs.form (h:Pcs enc k e te w base v ps):∃A cap,v= .slice A ps.length cap:=by
 obtain ⟨ss,ho,_⟩:=h
 exact ho.form
theorem Pcs.base_le {b':Nat} (h:Pcs enc k e te w base v ps) (hb:b'≤base):Pcs enc k e te w b' v ps:=by
 obtain ⟨ss,ho,hp⟩:=h
 refine ⟨ss,ho.base_le hb,fun i p hi=> ?_⟩
 obtain ⟨A,c,hs,hO⟩:=hp i p hi
 exact ⟨A,c,hs,hO.base_le hb⟩
theorem Pcs.snoc {ss:List Hdr} {v':Value} {p:List α} {A:Option Addr} {c:Nat} (hte:te≠e) (ho:Own encS 1 te w base v ps.length ss)
  (hp:∀(i:Nat) (p:List α),ps[i]? =some p→∃A c,ss[i]? =some (A,p.length,c)∧Own enc k e w base (.slice A p.length c) p.length p) (hx:Own enc k e w base (.slice A p.length c) p.length p)
  (hg:w.grownBy w' v.ownBlock) (ho':Own encS 1 te w' base v' (ps.length+1) (ss++ [(A,p.length,c)])):Pcs enc k e te w' base v' (ps++ [p]):=by
 have hne:∀r,v.ownBlock=some r→r < base∨∀cs,w.heap[r]? ≠some (.cells cs e (0,0)):=fun r hr=>by
  obtain ⟨cs,hc⟩:=ho.cells r hr
  refine .inr fun cs' hc'=> ?_
  rw [hc] at hc'
  cases hc'
  exact hte rfl
 have hlen:ps.length=ss.length:=ho.1
 refine ⟨ss++ [(A,p.length,c)],by simpa using ho',fun i q hi=> ?_⟩
 by_cases hlt:i < ps.length
 ·rw [List.getElem?_append_left hlt] at hi
  obtain ⟨A',c',hs,hO⟩:=hp i q hi
  exact ⟨A',c',by rw [List.getElem?_append_left (by omega)];exact hs,hO.step hg hne⟩
 ·have hi2:i=ps.length:=by
   have:=(List.getElem?_eq_some_iff.1 hi).1
   simp at this;omega
  subst hi2
  simp at hi
  subst hi
  exact ⟨A,c,by rw [hlen];simp,hx.step hg hne⟩
end
end Go.Proofs.YtmemofonebphfaaGreat
namespace Go.Proofs.YtmemofonebphfaaGreat
open Go.RowKit Go.Sort
section
variable {P:Program} {α:Type} {enc:α→List Value} {k:Nat} {e:TypeId} {w:World} {base:Nat} {v:Value} {n:Nat} {xs:List α}
theorem run_append_nilsrc (base:Nat) (t ty e:TypeId) (i:TypeInfo) (size:Nat) (ht:P.underlying t=some (.slice e)) (hi:P.info? e=some i)
  (v:Value) (n c:Nat) (xs:List Value) (hown:w.ownsRow base e size v n xs):
  (Builtin.append_ #[t,t] ty #[v, .slice none 0 c]).run P w= .ok v w:=by
 rcases hown.2 with ⟨rfl,rfl⟩ | ⟨g,cap,cur,rfl,_,_,hnc,_⟩
 ·simp [Builtin.append_,run_underlying ht,sizeOf,typeInfo,hi,Builtin.lenOf,Builtin.firstCells]
 ·simp [Builtin.append_,run_underlying ht,sizeOf,typeInfo,hi,Builtin.lenOf,Builtin.firstCells,hnc,storeCells]
theorem Sl.cellsAll {B b o':Nat} {ys:List α} (hk0:0 < k) (hk:∀x,(enc x).length=k) (hsl:Sl enc k w B (some ⟨b,o',none⟩) ys):∀t u,(ys.flatMap enc)[t]? =some u→w.cell? ⟨b,o'+t,none⟩=some u:=by
 rcases hsl with ⟨_,h0⟩ | ⟨b2,o2,ha,_,hc⟩
 ·cases h0
 ·cases ha
  intro t u hu
  have ht:t < ys.length*k:=by rw [←flat_len hk ys];exact (List.getElem?_eq_some_iff.1 hu).1
  have hi:t / k < ys.length:=(Nat.div_lt_iff_lt_mul hk0).2 ht
  have hj:t % k < (enc ys[t / k]).length:=by rw [hk];exact Nat.mod_lt _ hk0
  have hx:ys[t / k]? =some ys[t / k]:=List.getElem?_eq_getElem hi
  have hv:(enc ys[t / k])[t % k]? =some ((enc ys[t / k])[t % k]):=List.getElem?_eq_getElem hj
  have h2:=flat_get hk ys _ _ hx _ _ hv
  rw [Nat.div_add_mod' t k,hu] at h2
  have h3:=hc _ _ hx _ _ hv
  rw [Nat.add_assoc,Nat.div_add_mod' t k,←h2] at h3
  exact h3
theorem wpList_appendS {ops:Array Oper} {rest:List Oper} {o:Oper} {a:Act} {Q:Exit→Act→World→Prop} (hgd:o.guard=none) (s x:Operand) (t:TypeId)
  (ho:o.op= .call {callee:= .builtin .append,args:=#[s,x],argTypes:=#[t,t]})
  {z:Value} {bytes:Nat} (ht:P.underlying t=some (.slice e)) (hi:(P.info? e).map (fun i=>(i.zero,i.size,i.bytes))=some (some z,k,bytes))
  (hzs:z.cells.size=k) (hk0:0 < k) (hk:∀x,(enc x).length=k) (h1:∀x,∀u∈enc x,u.oneCell'=true)
  (hs:a.eval s=v) (hown:Own enc k e w base v n xs) (A:Option Addr) (c B:Nat) (ys:List α) (hx:a.eval x= .slice A ys.length c) (hsl:Sl enc k w B A ys)
  (h63:n+ys.length≤maxLen) (hbytes:(n+ys.length)*bytes≤140737488355328) (hbase:base≤w.heap.size)
  (h:∀v' w',Own enc k e w' base v' (n+ys.length) (xs++ys)→w.grownBy w' v.ownBlock→Below base w w'→(v'.ownBlock=v.ownBlock∨v'.ownBlock=some w.heap.size)→
   wpList P ops Q rest (a.put o.dst v') w'):wpList P ops Q (o::rest) a w:=by
 obtain ⟨i,hi0,hz0,hz1,hz2⟩:=info_parts hi
 refine wpList_plain hgd fun K hK=> ?_
 have key:∃v' w',(Builtin.append_ #[t,t] o.type #[v, .slice A ys.length c]).run P w= .ok v' w'∧w'.ownsRow base e k v' (n+ys.length) (xs.flatMap enc++ys.flatMap enc)∧w.grownBy w' v.ownBlock∧(v'.ownBlock=v.ownBlock∨v'.ownBlock=some w.heap.size):=by
  cases A with
  | none=>
   have hy:ys= []:=by
    rcases hsl with ⟨h,_⟩ | ⟨b,o',ha,_⟩
    ·exact h
    ·cases ha
   subst hy
   exact ⟨v,w,run_append_nilsrc base t o.type e i k ht hi0 v n c _ hown.2,by simpa using hown.2,World.grownBy.refl _ _, .inl rfl⟩
  | some ad=>
   have hsl':∃b o',ad=⟨b,o',none⟩:=by
    rcases hsl with ⟨_,h⟩ | ⟨b,o',ha,_⟩
    ·cases h
    ·exact ⟨b,o',by injection ha⟩
   obtain ⟨b,o',rfl⟩:=hsl'
   obtain ⟨v',w',hr,h2,h3,_,h5⟩:=run_append_own_at (P:=P) (w:=w) base t o.type e i z k bytes ht hi0 hz0 hz1 hz2 hzs hk0 v n (xs.flatMap enc) hown.2 ⟨b,o',none⟩ ys.length c (ys.flatMap enc) (flat_len hk ys)
    (fun j u hu=>by rw [add_none];exact hsl.cellsAll hk0 hk j u hu) (fun u hu=>by obtain ⟨x,_,hx⟩:=List.mem_flatMap.1 hu;exact h1 x u hx) h63 hbytes hbase
   exact ⟨v',w',hr,h2,h3,h5⟩
 obtain ⟨v',w',hr,h2,h3,h5⟩:=key
 unfold Oper.wp
 simp only [execOp,ho,resolve,invoke,builtin,Sem.run_bind,Sem.run_pure,Result.andThen_ok,List.map_toArray,List.map_cons,List.map_nil,hs,hx,hr]
 exact hK _ _ (h v' w' ⟨by simp [hown.1],by simpa using h2⟩ h3 ((Below.refl base w).grown h3 hbase (fun r hr=>(hown.blk r hr).1)) h5)
end
end Go.Proofs.YtmemofonebphfaaGreat
namespace Go.Proofs.YtmemofonebphfaaGreat
open Go.RowKit Go.Sort
abbrev hv (s:Hdr):Value:= .slice s.1 s.2.1 s.2.2
def Elems {α:Type} (enc:α→List Value) (k:Nat) (e:TypeId) (w:World) (base:Nat):List Hdr→List (List α)→Prop
 | [], []=>True
 | s::ss,p::ps=>(s.2.1=p.length∧Own enc k e w base (hv s) p.length p)∧Elems enc k e w base ss ps
 | _,_=>False
def Apart2 (s t:Hdr):Prop:=∀g,(hv s).ownBlock=some g→(hv t).ownBlock≠some g
section
variable {α:Type} {enc:α→List Value} {k:Nat} {e te:TypeId} {w w':World} {base:Nat} {v:Value} {ss rs:List Hdr} {ps qs:List (List α)}
theorem Elems.len:∀{ss:List Hdr} {ps:List (List α)},Elems enc k e w base ss ps→ss.length=ps.length
 | [], [],_=>rfl
 | _::_,_::_,h=>by simp [Elems.len h.2]
 | [],_::_,h=>h.elim
 | _::_, [],h=>h.elim
theorem Elems.imp {enc:α→List Value} {w w':World} {base base':Nat}:∀{ss:List Hdr} {ps:List (List α)},(∀s∈ss,∀p,Own enc k e w base (hv s) p.length p→Own enc k e w' base' (hv s) p.length p)→Elems enc k e w base ss ps→Elems enc k e w' base' ss ps
 | [], [],_,_=>trivial
 | s::_,_::_,f,h=>⟨⟨h.1.1,f s (by simp) _ h.1.2⟩,Elems.imp (fun t ht=>f t (by simp [ht])) h.2⟩
 | [],_::_,_,h=>h.elim
 | _::_, [],_,h=>h.elim
theorem Elems.append:∀{ss:List Hdr} {ps:List (List α)},Elems enc k e w base ss ps→Elems enc k e w base rs qs→Elems enc k e w base (ss++rs) (ps++qs)
 | [], [],_,h=>h
 | _::_,_::_,h,h'=>⟨h.1,Elems.append h.2 h'⟩
 | [],_::_,h,_=>h.elim
 | _::_, [],h,_=>h.elim
theorem Elems.at:∀{i:Nat} {ss:List Hdr} {ps:List (List α)} {p:List α},Elems enc k e w base ss ps→ps[i]? =some p→∃A c,ss[i]? =some (A,p.length,c)∧Own enc k e w base (.slice A p.length c) p.length p
 | 0,s::_,_::_,p,h,hi=>by
  simp at hi;subst hi
  obtain ⟨A,n,c⟩:=s
  have h1:n=_:=h.1.1
  subst h1
  exact ⟨A,c,rfl,h.1.2⟩
 | i+1,_::_,_::_,p,h,hi=>Elems.at (i:=i) h.2 (by simpa using hi)
 | _, [], [],_,_,hi=>by simp at hi
 | _, [],_::_,_,h,_=>h.elim
 | _,_::_, [],_,h,_=>h.elim
def PcsD {α:Type} (enc:α→List Value) (k:Nat) (e te:TypeId) (w:World) (base:Nat) (v:Value) (ps:List (List α)):Prop:=
 ∃ss:List Hdr,Own encS 1 te w base v ps.length ss∧Elems enc k e w base ss ps∧ss.Pairwise Apart2
theorem PcsD.nil:PcsD enc k e te w base (.slice none 0 0) ([]:List (List α)):=⟨[],Own.nil,trivial, .nil⟩
theorem PcsD.step {row:Option Nat} (h:PcsD enc k e te w base v ps) (hg:w.grownBy w' row) (hr:∀t,t=te∨t=e→∀r,row=some r→r < base∨∀cs,w.heap[r]? ≠some (.cells cs t (0,0))):PcsD enc k e te w' base v ps:=by
 obtain ⟨ss,ho,he,hd⟩:=h
 exact ⟨ss,ho.step hg (hr te (.inl rfl)),he.imp (fun _ _ _ h=>h.step hg (hr e (.inr rfl))),hd⟩
theorem Elems.step {row:Option Nat} (h:Elems enc k e w base ss ps) (hg:w.grownBy w' row) (hr:∀r,row=some r→r < base∨∀cs,w.heap[r]? ≠some (.cells cs e (0,0))):Elems enc k e w' base ss ps:=
 h.imp (fun _ _ _ h=>h.step hg hr)
theorem own_rowS {n:Nat} {xs:List Hdr} {t:TypeId} (h:Own encS 1 te w base v n xs) (hte:te≠t):∀r,v.ownBlock=some r→r < base∨∀cs,w.heap[r]? ≠some (.cells cs t (0,0)):=fun r hr=>by
 obtain ⟨cs,hc⟩:=h.cells r hr
 refine .inr fun cs' hc'=> ?_
 rw [hc] at hc'
 cases hc'
 exact hte rfl
theorem own_rowT {β:Type} {encb:β→List Value} {kb:Nat} {eb:TypeId} {n:Nat} {xs:List β} {t:TypeId} (h:Own encb kb eb w base v n xs) (hte:eb≠t):∀r,v.ownBlock=some r→r < base∨∀cs,w.heap[r]? ≠some (.cells cs t (0,0)):=fun r hr=>by
 obtain ⟨cs,hc⟩:=h.cells r hr
 refine .inr fun cs' hc'=> ?_
 rw [hc] at hc'
 cases hc'
 exact hte rfl
def Away (g:Nat) (ss:List Hdr):Prop:=∀s∈ss,(hv s).ownBlock≠some g
theorem Elems.away (h:Elems enc k e w base ss ps) {g:Nat} (hg:w.heap.size≤g):Away g ss:=by
 intro s hs he
 obtain ⟨i,hi⟩:=List.mem_iff_getElem?.1 hs
 have hl:=h.len
 have hlt:i < ps.length:=by have:=(List.getElem?_eq_some_iff.1 hi).1;omega
 obtain ⟨A,c,h1,h2⟩:=h.at (List.getElem?_eq_getElem hlt)
 rw [hi] at h1
 cases h1
 have:=(h2.blk g he).2
 omega
end
end Go.Proofs.YtmemofonebphfaaGreat
namespace Go.Proofs.YtmemofonebphfaaGreat
open Go.RowKit Go.Sort Go.WideMaps Go.Maps
def GpsE {κ α:Type} (enc:α→List Value) (k:Nat) (e:TypeId) (w:World) (base:Nat) (m:κ→Value) (G:κ→List α):Prop:=
 (∀p,Own enc k e w base (m p) (G p).length (G p))∧(∀p q g,p≠q→(m p).ownBlock=some g→(m q).ownBlock≠some g)∧∀p,G p= []→m p= .slice none 0 0
section
variable {κ α:Type} [DecidableEq κ] {enc:α→List Value} {k:Nat} {e:TypeId} {w w':World} {base:Nat} {m:κ→Value} {G:κ→List α}
omit [DecidableEq κ] in
theorem GpsE.nil:GpsE enc k e w base (fun _:κ=> .slice none 0 0) (fun _:κ=>([]:List α)):=⟨fun _=>Own.nil,fun _ _ _ _ h=>(nomatch h),fun _ _=>rfl⟩
omit [DecidableEq κ] in
theorem GpsE.step {row:Option Nat} (h:GpsE enc k e w base m G) (hg:w.grownBy w' row) (hr:∀r,row=some r→r < base∨∀cs,w.heap[r]? ≠some (.cells cs e (0,0))):GpsE enc k e w' base m G:=
 ⟨fun p=>(h.1 p).step hg hr,h.2⟩
omit [DecidableEq κ] in
theorem GpsE.below {B:Nat} (h:GpsE enc k e w base m G) (hb:Below B w w') (hB:w.heap.size≤B):GpsE enc k e w' base m G:=⟨fun p=>(h.1 p).below hb hB,h.2⟩
theorem GpsE.append (h:GpsE enc k e w base m G) (p:κ) (x:α) {v':Value} {n g:Nat} (hg:w.grownBy w' (m p).ownBlock) (hv:Own enc k e w' base v' n (G p++ [x])) (hb:v'.ownBlock=some g) (hat:(m p).ownBlock=some g∨g=w.heap.size):
  GpsE enc k e w' base (fun q=>if q=p then v' else m q) (fun q=>if q=p then G p++ [x] else G q):=by
 have hlt:∀q g',(m q).ownBlock=some g'→g' < w.heap.size:=fun q g' hq=>((h.1 q).blk g' hq).2
 refine ⟨fun q=> ?_,fun q r g' hne hq hr=> ?_,fun q hq=> ?_⟩
 ·by_cases hqp:q=p
  ·subst hqp
   simp only
   have:=hv.1
   subst this
   exact hv
  ·simp only [if_neg hqp]
   refine (h.1 q).kept hg ?_
   cases hm:(m q).ownBlock with
   | none=>exact .inl rfl
   | some g'=>
    refine .inr fun e'=> ?_
    exact h.2.1 q p g' hqp hm e'.symm
 ·have hcase:∀q r,q≠r→q=p→v'.ownBlock=some g'→(m r).ownBlock=some g'→False:=by
   clear hne hq hr
   intro q r hne hqp hq hr
   subst hqp
   rw [hb] at hq
   cases hq
   rcases hat with hat | hat
   ·exact h.2.1 q r g hne hat hr
   ·have:=hlt r g hr;omega
  by_cases hqp:q=p
  ·by_cases hrp:r=p
   ·exact hne (hqp.trans hrp.symm)
   ·simp only [if_pos hqp] at hq
    simp only [if_neg hrp] at hr
    exact hcase q r hne hqp hq hr
  ·simp only [if_neg hqp] at hq
   by_cases hrp:r=p
   ·simp only [if_pos hrp] at hr
    exact hcase r q (Ne.symm hne) hrp hr hq
   ·simp only [if_neg hrp] at hr
    exact h.2.1 q r g' hne hq hr
 ·by_cases hqp:q=p
  ·simp only [if_pos hqp] at hq
   simp at hq
  ·simp only [if_neg hqp] at hq⊢
   exact h.2.2 q hq
end
end Go.Proofs.YtmemofonebphfaaGreat
namespace Go.Proofs.YtmemofonebphfaaGreat
open Go.RowKit Go.Sort
def setMany {β:Type}:List β→Nat→List β→List β
 | l,_, []=>l
 | l,o,v::vs=>setMany (l.set o v) (o+1) vs
theorem setMany_eq {β:Type}:∀(vs l:List β) (o:Nat),o+vs.length≤l.length→setMany l o vs=l.take o++vs++l.drop (o+vs.length)
 | [],l,o,_=>by simp [setMany]
 | v::vs,l,o,h=>by
  rw [List.length_cons] at h
  rw [setMany,setMany_eq vs (l.set o v) (o+1) (by rw [List.length_set];omega)]
  have h1:(l.set o v).take (o+1)=l.take o++ [v]:=by
   rw [List.take_succ_eq_append_getElem (by rw [List.length_set];omega),List.getElem_set_self,List.take_set_of_le (Nat.le_refl _)]
  have h2:(l.set o v).drop (o+1+vs.length)=l.drop (o+(v::vs).length):=by
   rw [List.drop_set_of_lt (by omega),List.length_cons]
   congr 1
   omega
  rw [h1,h2]
  simp
def setW:World→Nat→Nat→List Value→World
 | w,_,_, []=>w
 | w,g,o,v::vs=>setW (w.setCell ⟨g,o,none⟩ v) g (o+1) vs
theorem setW_heap {e:TypeId} {z:Nat × Nat} {g:Nat}:∀(vs:List Value) (w:World) (o:Nat) (cs:Array Value),w.heap[g]? =some (.cells cs e z)→∃cs':Array Value,(setW w g o vs).heap[g]? =some (.cells cs' e z)∧cs'.toList=setMany cs.toList o vs
 | [],w,o,cs,h=>⟨cs,h,rfl⟩
 | v::vs,w,o,cs,h=>by
  have h1:(w.setCell ⟨g,o,none⟩ v).heap[g]? =some (.cells (cs.setIfInBounds o v) e z):=by
   simp [World.setCell,Array.getElem?_modify,h]
  obtain ⟨cs',h2,h3⟩:=setW_heap vs (w.setCell ⟨g,o,none⟩ v) (o+1) _ h1
  exact ⟨cs',h2,by rw [h3,Array.toList_setIfInBounds];rfl⟩
theorem setW_grown (g:Nat):∀(vs:List Value) (w:World) (o:Nat),w.grownBy (setW w g o vs) (some g)
 | [],_,_=>World.grownBy.refl _ _
 | v::vs,w,o=>by
  have h1:w.grownBy (w.setCell ⟨g,o,none⟩ v) (some g):=⟨rfl,rfl,rfl,(KeepsWalks.setCell w _ v).size,fun k _ hne=>Below.heap_setCell w ⟨g,o,none⟩ v k (fun e=>hne (by rw [e]))⟩
  exact h1.trans (setW_grown g vs _ _)
theorem flat_set {α:Type} {enc:α→List Value} {k:Nat} (hk:∀x,(enc x).length=k):∀(xs:List α) (i:Nat) (y:α),i < xs.length→(xs.set i y).flatMap enc=(xs.flatMap enc).take (i*k)++enc y++(xs.flatMap enc).drop (i*k+k)
 | x::xs,0,y,_=>by
  have h1:(enc x++xs.flatMap enc).drop (0+k)=xs.flatMap enc:=by
   rw [Nat.zero_add]
   have:=List.drop_left (l₁:=enc x) (l₂:=xs.flatMap enc)
   rw [hk] at this
   exact this
  simp only [List.set_cons_zero,List.flatMap_cons,Nat.zero_mul,List.take_zero,List.nil_append,h1]
 | x::xs,i+1,y,h=>by
  have ih:=flat_set hk xs i y (by simpa using h)
  simp only [List.set_cons_succ,List.flatMap_cons]
  rw [ih]
  have e1:(enc x++xs.flatMap enc).take ((i+1)*k)=enc x++(xs.flatMap enc).take (i*k):=by
   rw [List.take_append,hk,List.take_of_length_le (by rw [hk,Nat.add_mul];omega)]
   congr 2
   rw [Nat.add_mul];omega
  have e2:(enc x++xs.flatMap enc).drop ((i+1)*k+k)=(xs.flatMap enc).drop (i*k+k):=by
   rw [List.drop_append,hk,List.drop_eq_nil_of_le (by rw [hk,Nat.add_mul];omega),List.nil_append]
   congr 1
   rw [Nat.add_mul];omega
  rw [e1,e2]
  simp
 | [],_,_,h=>by simp at h
theorem Own.setW {α:Type} {enc:α→List Value} {k:Nat} {e:TypeId} {w:World} {base n cap g i:Nat} {xs:List α} (hk:∀x,(enc x).length=k) (h:Own enc k e w base (.slice (some ⟨g,0,none⟩) n cap) n xs) (hi:i < xs.length) (y:α):
  Own enc k e (Proofs.YtmemofonebphfaaGreat.setW w g (i*k) (enc y)) base (.slice (some ⟨g,0,none⟩) n cap) n (xs.set i y):=by
 refine ⟨by simpa using h.1,?_⟩
 obtain ⟨h0,h1⟩:=h.2
 have hn:=h.1
 have hfl:=flat_len hk xs
 have hfl2:=flat_len hk (xs.set i y)
 rw [List.length_set] at hfl2
 have hik:i*k+k≤xs.length*k:=by
  have:=Nat.mul_le_mul_right k (show i+1≤xs.length from hi)
  rw [Nat.add_mul] at this;omega
 refine ⟨by rw [hfl2,hn],?_⟩
 rcases h1 with ⟨h1,_⟩ | ⟨g',cap',cur,h1,hb,hheap,hnc,hcm,hsz,htake⟩
 ·cases h1
 ·cases h1
  obtain ⟨cs',h2,h3⟩:=setW_heap (enc y) w (i*k) cur hheap
  have hcl:xs.length*k≤cur.toList.length:=by
   have e1:cur.toList.length=cur.size:=Array.length_toList
   rw [e1,hsz]
   exact Nat.mul_le_mul_right _ (by omega)
  have hsm:=setMany_eq (enc y) cur.toList (i*k) (by rw [hk];omega)
  rw [hk] at hsm
  refine .inr ⟨g,cap,cs',rfl,hb,h2,hnc,hcm,?_,?_⟩
  ·have:cs'.toList.length=cur.toList.length:=by
    rw [h3,hsm]
    simp only [List.length_append,List.length_take,List.length_drop,hk]
    omega
   simpa [hsz] using this
  ·rw [h3,hsm,flat_set hk xs i y hi,←htake,hn]
   rw [List.take_append,List.take_append,List.take_take,List.length_take,List.length_append,List.length_take,hk]
   rw [show min (xs.length*k) (i*k)=i*k by omega,show min (i*k) cur.toList.length=i*k by omega]
   rw [List.take_of_length_le (l:=enc y) (by rw [hk];omega),List.take_take,show min (i*k) (xs.length*k)=i*k by omega]
   congr 1
   rw [List.drop_take]
end Go.Proofs.YtmemofonebphfaaGreat
