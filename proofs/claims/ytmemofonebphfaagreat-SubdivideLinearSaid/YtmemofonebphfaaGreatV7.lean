import Derived.Maps.AppendAt
import Derived.OwnWalk
import Derived.Sort.Grow
import Derived.Shelf.GgSortFunc.RowK
import Derived.Test.YtmemofonebphfaaGreatV3
namespace Go.Proofs.YtmemofonebphfaaGreat
open Go.RowKit Go.Sort
def Own {α:Type} (enc:α→List Value) (k:Nat) (e:TypeId) (w:World) (base:Nat) (v:Value) (n:Nat) (xs:List α):Prop:=
 n=xs.length∧w.ownsRow base e k v n (xs.flatMap enc)
theorem flat_get {α:Type} {enc:α→List Value} {k:Nat} (hk:∀x,(enc x).length=k):∀(xs:List α) (i:Nat) (x:α),xs[i]? =some x→∀j u,(enc x)[j]? =some u→(xs.flatMap enc)[i*k+j]? =some u
 | [],i,x,h,j,u,_=>by simp at h
 | y::ys,0,x,h,j,u,hu=>by
  simp only [List.getElem?_cons_zero,Option.some.injEq] at h
  subst h
  have hj:=(List.getElem?_eq_some_iff.1 hu).1
  rw [List.flatMap_cons,Nat.zero_mul,Nat.zero_add,List.getElem?_append_left hj]
  exact hu
 | y::ys,i+1,x,h,j,u,hu=>by
  simp only [List.getElem?_cons_succ] at h
  have:=flat_get hk ys i x h j u hu
  rw [List.flatMap_cons,List.getElem?_append_right (by rw [hk,Nat.add_mul,Nat.one_mul];omega),hk]
  rw [show (i+1)*k+j - k=i*k+j by rw [Nat.add_mul,Nat.one_mul];omega]
  exact this
theorem flat_len {α:Type} {enc:α→List Value} {k:Nat} (hk:∀x,(enc x).length=k) (xs:List α):(xs.flatMap enc).length=xs.length*k:=by
 induction xs with
 | nil=>simp
 | cons x xs ih=>simp [List.flatMap_cons,hk,ih,Nat.add_mul,Nat.add_comm]
section
variable {α:Type} {enc:α→List Value} {k:Nat} {e:TypeId} {w w':World} {base:Nat} {v:Value} {n:Nat} {xs:List α}
theorem Own.nil:Own enc k e w base (.slice none 0 0) 0 ([]:List α):=⟨rfl,World.ownsRow_nil _ _ _ _⟩
theorem Own.form (h:Own enc k e w base v n xs):∃A cap,v= .slice A n cap:=by
 rcases h.2.2 with ⟨rfl,h0⟩ | ⟨g,cap,cur,hv,_⟩
 ·have:n=0:=h0
  subst this
  exact ⟨none,0,rfl⟩
 ·exact ⟨_,_,hv⟩
theorem Own.blk (h:Own enc k e w base v n xs):∀g,v.ownBlock=some g→base≤g∧g < w.heap.size:=h.2.lt
theorem Own.below {B:Nat} (h:Own enc k e w base v n xs) (hb:Below B w w') (hB:w.heap.size≤B):Own enc k e w' base v n xs:=
 ⟨h.1,h.2.kept (w':=w') (row:=none) ⟨hb.os,hb.tape,hb.output,hb.size,fun i hi _=>hb.block i (by omega)⟩ (by
  cases hv:v.ownBlock with
  | none=>exact .inl rfl
  | some g=>exact .inr (by simp))⟩
theorem Own.kept {row:Option Nat} (h:Own enc k e w base v n xs) (hg:w.grownBy w' row) (hr:v.ownBlock=none∨v.ownBlock≠row):Own enc k e w' base v n xs:=⟨h.1,h.2.kept hg hr⟩
theorem Own.cells (h:Own enc k e w base v n xs):∀g,v.ownBlock=some g→∃cs,w.heap[g]? =some (.cells cs e (0,0)):=by
 rcases h.2.2 with ⟨rfl,h0⟩ | ⟨g,cap,cur,hv,_,hg,_⟩
 ·intro g hg;cases hg
 ·subst hv;intro g' hg';cases hg';exact ⟨_,hg⟩
theorem Own.base_le {b':Nat} (h:Own enc k e w base v n xs) (hb:b'≤base):Own enc k e w b' v n xs:=by
 refine ⟨h.1,h.2.1,?_⟩
 rcases h.2.2 with h0 | ⟨g,cap,cur,hv,hbg,hg⟩
 ·exact .inl h0
 ·exact .inr ⟨g,cap,cur,hv,by omega,hg⟩
theorem Own.alloc (h:Own enc k e w base v n xs) (o:Obj):Own enc k e (w.alloc o) base v n xs:=⟨h.1,h.2.alloc o⟩
theorem Own.drew (h:Own enc k e w base v n xs):Own enc k e w.drew base v n xs:=h
theorem Own.sl (hk:∀x,(enc x).length=k) {A:Option Addr} {cap B:Nat} (h:Own enc k e w base (.slice A n cap) n xs) (hB:w.heap.size≤B):Sl enc k w B A xs:=by
 rcases h.2.2 with ⟨hv,h0⟩ | ⟨g,cap',cur,hv,_,hg,_⟩
 ·injection hv with hA
  have hn:n=0:=h0
  exact .inl ⟨List.eq_nil_of_length_eq_zero (by rw [←h.1,hn]),hA⟩
 ·injection hv with hA
  subst hA
  have hlt:g < w.heap.size:=(Array.getElem?_eq_some_iff.1 hg).1
  refine .inr ⟨g,0,rfl,by omega,fun i x hi j u hu=> ?_⟩
  have:=h.2.cells (g:=g) rfl (i*k+j) u (flat_get hk xs i x hi j u hu)
  rw [add_none] at this
  rw [Nat.add_assoc]
  exact this
theorem Own.place {A:Option Addr} {cap:Nat} (h:Own enc k e w base (.slice A n cap) n xs):n≤cap∧(xs= []∧A=none∨∃g,A=some ⟨g,0,none⟩∧base≤g∧g < w.heap.size):=by
 rcases h.2.2 with ⟨hv,h0⟩ | ⟨g,cap',cur,hv,hbg,hg,hcap,_⟩
 ·injection hv with hA _ hc
  have hn:n=0:=h0
  exact ⟨by omega, .inl ⟨List.eq_nil_of_length_eq_zero (by rw [←h.1,hn]),hA⟩⟩
 ·injection hv with hA _ hc
  have hlt:g < w.heap.size:=(Array.getElem?_eq_some_iff.1 hg).1
  exact ⟨by omega, .inr ⟨g,hA,hbg,hlt⟩⟩
theorem Own.at (h:Own enc k e w base v n xs) (hn:xs≠ []):∃g cap,v= .slice (some ⟨g,0,none⟩) n cap∧base≤g∧g < w.heap.size:=by
 have hn:0 < n:=by rw [h.1];exact List.length_pos_iff.2 hn
 exact h.2.form hn
theorem Own.holdsK [Inhabited α] (hk : ∀ x, (enc x).length = k) {g cap : Nat} (h : Own enc k e w base (.slice (some ⟨g, 0, none⟩) n cap) n xs) : HoldsK enc k w g 0 xs.toArray := by
  intro t ht
  have ht' : t < xs.length * k := by simpa using ht
  have hk0 : 0 < k := by rcases Nat.eq_zero_or_pos k with h0 | h0; · subst h0; simp at ht'
                         · exact h0
  rw [get_flatK _ _ _ _ (by simpa using ht')]
  have hi : t / k < xs.length := (Nat.div_lt_iff_lt_mul hk0).2 ht'
  have hj : t % k < k := Nat.mod_lt _ hk0
  have e1 : xs.toArray[t / k]! = xs[t / k] := by simp [hi]
  rw [e1]
  have hx : xs[t / k]? = some xs[t / k] := List.getElem?_eq_getElem hi
  have hlen : t % k < (enc xs[t / k]).length := by rw [hk]; exact hj
  have hu : (enc xs[t / k])[t % k]? = some ((enc xs[t / k])[t % k]) := List.getElem?_eq_getElem hlen
  have hc := h.2.cells (g := g) rfl _ _ (flat_get hk xs _ _ hx _ _ hu)
  rw [add_none] at hc
  have et : t / k * k + t % k = t := Nat.div_add_mod' t k
  rw [et] at hc
  refine ⟨by rw [hc, getElem!_pos (enc xs[t / k]) (t % k) hlen]; rfl, ?_⟩
  rcases h.2.2 with ⟨h0, _⟩ | ⟨g', cap', cur, hv, _, hg, _⟩
  · cases h0
  · injection hv with hv
    injection hv with hv
    injection hv with hv
    subst hv
    simp [World.frozen?, hg]
end
section
variable {P:Program} {α:Type} {enc:α→List Value} {k:Nat} {e:TypeId} {w:World} {base:Nat} {v:Value} {n:Nat} {xs:List α}
theorem wpList_append1 {ops:Array Oper} {rest:List Oper} {o:Oper} {a:Act} {Q:Exit→Act→World→Prop} (hgd:o.guard=none) (s x:Operand) (t:TypeId)
  (ho:o.op= .call {callee:= .builtin .append,args:=#[s,x],argTypes:=#[t,t]})
  {z:Value} {bytes:Nat} (ht:P.underlying t=some (.slice e)) (hi:(P.info? e).map (fun i=>(i.zero,i.size,i.bytes))=some (some z,k,bytes))
  (hzs:z.cells.size=k) (hk0:0 < k) (hk:∀x,(enc x).length=k) (h1:∀x,∀u∈enc x,u.oneCell'=true)
  (hs:a.eval s=v) (hown:Own enc k e w base v n xs) (b c:Nat) (y:α) (hx:a.eval x= .slice (some ⟨b,0,none⟩) 1 c) (hb:Blk w b e (enc y).toArray)
  (h63:n+1≤maxLen) (hbytes:(n+1)*bytes≤140737488355328) (hbase:base≤w.heap.size)
  (h:∀g cap w',Own enc k e w' base (.slice (some ⟨g,0,none⟩) (n+1) cap) (n+1) (xs++ [y])→w.grownBy w' v.ownBlock→Below base w w'→(v.ownBlock=some g∨g=w.heap.size)→base≤g→g < w'.heap.size→
   wpList P ops Q rest (a.put o.dst (.slice (some ⟨g,0,none⟩) (n+1) cap)) w'):wpList P ops Q (o::rest) a w:=by
 obtain ⟨i,hi0,hz0,hz1,hz2⟩:=info_parts hi
 refine wpList_append_lies w hgd s x t ho base e i z k bytes ht hi0 hz0 hz1 hz2 hzs hk0 v n (xs.flatMap enc) hs hown.2 ⟨b,0,none⟩ 1 c (enc y) hx (by rw [hk,Nat.one_mul])
  (fun j u hu=>World.news_of_block (cs:=(enc y).toArray) hb j u (by simpa using hu)) (h1 y) (by omega) h63 hbytes hbase w.heap.size rfl ?_
 intro g cap w' h2 hg hat hlt
 have hgb:base≤g:=by
  rcases hat with hat | hat
  ·exact (hown.blk g hat).1
  ·omega
 refine h g cap w' ⟨by simp [hown.1],by simpa using h2⟩ hg ?_ hat hgb hlt
 exact (Below.refl base w).grown hg hbase (fun r hr=>(hown.blk r hr).1)
end
end Go.Proofs.YtmemofonebphfaaGreat
namespace Go.Proofs.YtmemofonebphfaaGreat
open Go.RowKit
theorem own_lits {α:Type} {enc:α→List Value} {k:Nat} (hk:∀x,(enc x).length=k) (e:TypeId) (w:World) {base:Nat} (xs:List α) (hb:base≤w.heap.size) (hn:xs.length≤4294967296):
  Own enc k e (w.alloc (.cells (xs.flatMap enc).toArray e)) base (.slice (some ⟨w.heap.size,0,none⟩) xs.length xs.length) xs.length xs:=
 ⟨rfl,by simpa using World.ownsRow_lit (e:=e) (size:=k) w (xs.flatMap enc).toArray xs.length hb (by unfold maxLen;omega) (by simp [flat_len hk])⟩
theorem own_lits' {α:Type} {enc:α→List Value} {k:Nat} (hk:∀x,(enc x).length=k) (e:TypeId) {w:World} {base g:Nat} (xs:List α) (hg:g=w.heap.size) (hb:base≤g) (hn:xs.length≤4294967296):
  Own enc k e (w.alloc (.cells (xs.flatMap enc).toArray e)) base (.slice (some ⟨g,0,none⟩) xs.length xs.length) xs.length xs:=by
 subst hg
 exact own_lits hk e w xs hb hn
end Go.Proofs.YtmemofonebphfaaGreat
