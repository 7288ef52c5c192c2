import Derived.Sort.Statements
import Derived.Shelf.SlSortCmp.NoneTotal
import Derived.Test.YtmemofonebphfaaGreatV10
namespace Go.Proofs.YtmemofonebphfaaGreat
open Go.RowKit Go.Sort Go.Lib
structure STO {α:Type} (lt:α→α→Bool):Prop where
 irrefl:∀x,lt x x=false
 trans:∀x y z,lt x y=true→lt y z=true→lt x z=true
 total:∀x y,lt x y=false→lt y x=false→x=y
theorem STO.swo {α:Type} {lt:α→α→Bool} (h:STO lt):SWO lt where
 irrefl:=h.irrefl
 trans:=h.trans
 ntrans x y z h1 h2:=by
  cases hxz:lt x z with
  | false=>rfl
  | true=>
   exfalso
   cases hyx:lt y x with
   | false=>
    have e:=h.total x y h1 hyx
    subst e
    rw [hxz] at h2;cases h2
   | true=>
    have:=h.trans y x z hyx hxz
    rw [this] at h2;cases h2
def lexB {α β:Type} [DecidableEq α] (l1:α→α→Bool) (l2:β→β→Bool) (x y:α × β):Bool:=l1 x.1 y.1 || (decide (x.1=y.1) && l2 x.2 y.2)
theorem STO.lex {α β:Type} [DecidableEq α] {l1:α→α→Bool} {l2:β→β→Bool} (h1:STO l1) (h2:STO l2):STO (lexB l1 l2) where
 irrefl x:=by simp [lexB,h1.irrefl,h2.irrefl]
 trans x y z hxy hyz:=by
  obtain ⟨a,b⟩:=x;obtain ⟨c,d⟩:=y;obtain ⟨e,f⟩:=z
  simp only [lexB,Bool.or_eq_true,Bool.and_eq_true,decide_eq_true_eq] at*
  rcases hxy with h | ⟨rfl,h⟩
  ·rcases hyz with k | ⟨rfl,k⟩
   ·exact .inl (h1.trans _ _ _ h k)
   ·exact .inl h
  ·rcases hyz with k | ⟨rfl,k⟩
   ·exact .inl k
   ·exact .inr ⟨rfl,h2.trans _ _ _ h k⟩
 total x y hxy hyx:=by
  obtain ⟨a,b⟩:=x;obtain ⟨c,d⟩:=y
  simp only [lexB,Bool.or_eq_false_iff,Bool.and_eq_false_iff,decide_eq_false_iff_not] at*
  have e:a=c:=h1.total _ _ hxy.1 hyx.1
  subst e
  have:b=d:=h2.total _ _ (by simpa using hxy.2) (by simpa using hyx.2)
  rw [this]
theorem sto_int:STO (fun a b:Int=>decide (a < b)) where
 irrefl x:=by simp
 trans x y z h k:=by simp at*;omega
 total x y h k:=by simp at*;omega
section
variable {α:Type} [Inhabited α] {enc:α→List Value} {k:Nat}
theorem holdsK_cell (hk:∀x,(enc x).length=k) {w:World} {g o:Nat} {xs:List α} (h:HoldsK enc k w g o xs.toArray):
  ∀i x,xs[i]? =some x→∀j u,(enc x)[j]? =some u→w.cell? ⟨g,o+i*k+j,none⟩=some u∧w.frozen? ⟨g,o+i*k+j,none⟩=false:=by
 intro i x hx j u hu
 have hi:i < xs.length:=(List.getElem?_eq_some_iff.1 hx).1
 have hj:j < k:=by rw [←hk x];exact (List.getElem?_eq_some_iff.1 hu).1
 have hlt:i*k+j < xs.length*k:=by
  have:(i+1)*k≤xs.length*k:=Nat.mul_le_mul_right k hi
  rw [Nat.add_mul,Nat.one_mul] at this
  omega
 have h1:=h (i*k+j) (by simpa using hlt)
 rw [get_flatK _ _ _ _ (by simpa using hlt)] at h1
 have e1:(i*k+j) / k=i:=by rw [Nat.mul_comm,Nat.mul_add_div (by omega),Nat.div_eq_of_lt hj,Nat.add_zero]
 have e2:(i*k+j) % k=j:=by rw [Nat.mul_comm,Nat.mul_add_mod,Nat.mod_eq_of_lt hj]
 have e3:xs.toArray[i]! =x:=by
  have:=List.getElem?_eq_some_iff.1 hx
  obtain ⟨_,e⟩:=this
  simp [hi,e]
 have e4:(enc x)[j]! =u:=by
  obtain ⟨h',e⟩:=List.getElem?_eq_some_iff.1 hu
  rw [getElem!_pos (enc x) j h'];exact e
 rw [e1,e2,e3,e4,←Nat.add_assoc] at h1
 exact h1
theorem sortWorldK_grownBy {w:World} {g o n:Nat} {d:Array α} {os:Array Obj}:w.grownBy (sortWorldK enc k w g o n d os) (some g):=by
 refine ⟨rfl,rfl,rfl,by simp [sortWorldK,grow,putRowK],fun i hi hne=> ?_⟩
 have hne':i≠g:=fun e=>hne (by rw [e])
 unfold sortWorldK
 rw [heap_grow_old _ _ (by simpa [putRowK] using hi)]
 simp only [putRowK,putRow,mapBlock,heap_ahead,Array.getElem?_modify]
 rw [if_neg (Ne.symm hne')]
theorem sortWorldK_holds {w:World} {g o n:Nat} {d d':Array α} {os:Array Obj} (hg:g < w.heap.size) (h:HoldsK enc k w g o d) (hs:d'.size=d.size):HoldsK enc k (sortWorldK enc k w g o n d' os) g o d':=by
 unfold sortWorldK HoldsK
 refine holds_grow id _ os g o _ (by simpa [putRowK] using hg) ?_
 refine holds_putRow id _ g o (flatK enc k d) _ ?_ (by simp [hs])
 exact h
end
section
variable {α:Type} [Inhabited α] {enc:α→List Value} {k:Nat}
theorem Own.of_holdsK (hk : ∀ x, (enc x).length = k) {w : World} {base g cap n : Nat} {e : TypeId} {cur : Array Value} {xs : List α} (hb : base ≤ g) (hg : w.heap[g]? = some (.cells cur e (0, 0))) (hc : n ≤ cap) (hm : cap ≤ maxLen) (hs : cur.size = cap * k) (hn : n = xs.length)
    (hH : HoldsK enc k w g 0 xs.toArray) : Own enc k e w base (.slice (some ⟨g, 0, none⟩) n cap) n xs := by
  refine ⟨hn, by rw [flat_len hk, hn], .inr ⟨g, cap, cur, rfl, hb, hg, hc, hm, hs, ?_⟩⟩
  have hle : n * k ≤ cur.size := by rw [hs]; exact Nat.mul_le_mul_right k hc
  refine List.ext_getElem? fun i => ?_
  rcases Nat.lt_or_ge i (n * k) with hi | hi
  · rw [List.getElem?_take, if_pos hi]
    have hk0 : 0 < k := by rcases Nat.eq_zero_or_pos k with h0 | h0; · subst h0; simp at hi
                           · exact h0
    have hq : i / k < xs.length := by rw [← hn]; exact (Nat.div_lt_iff_lt_mul hk0).2 hi
    have hj : i % k < k := Nat.mod_lt _ hk0
    have hx : xs[i / k]? = some xs[i / k] := List.getElem?_eq_getElem hq
    have hu : (enc xs[i / k])[i % k]? = some ((enc xs[i / k])[i % k]'(by rw [hk]; exact hj)) := List.getElem?_eq_getElem _
    have h1 := (holdsK_cell hk hH _ _ hx _ _ hu).1
    have h2 := flat_get hk xs _ _ hx _ _ hu
    have et : i / k * k + i % k = i := Nat.div_add_mod' i k
    rw [et] at h2
    rw [show 0 + i / k * k + i % k = i by omega, cell_of_row w g i cur e (0, 0) hg] at h1
    rw [h2, ← h1]
    simp
  · rw [List.getElem?_eq_none (by simp; omega), List.getElem?_eq_none (by rw [flat_len hk, ← hn]; exact hi)]
end
end Go.Proofs.YtmemofonebphfaaGreat
