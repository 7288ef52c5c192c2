import Derived.Test.YtmemofonebphfaaGreatP10
namespace Go.Proofs.YtmemofonebphfaaGreat
open Go.RowKit Go.Sort
section
variable {α:Type} {enc:α→List Value} {k:Nat} {e te:TypeId} {w w':World} {base:Nat} {v:Value} {n:Nat} {xs:List α} {ps:List (List α)}
theorem Pcs.base_le {b':Nat} (h:Pcs enc k e te w base v ps) (hb:b'≤base):Pcs enc k e te w b' v ps:=by
 obtain ⟨ss,ho,hp⟩:=h
 refine ⟨ss,ho.base_le hb,fun i p hi=> ?_⟩
 obtain ⟨A,c,hs,hO⟩:=hp i p hi
 exact ⟨A,c,hs,hO.base_le hb⟩
end
end Go.Proofs.YtmemofonebphfaaGreat
namespace Go.Proofs.YtmemofonebphfaaGreat
open Go.RowKit Go.Sort
theorem setW_grown (g:Nat):∀(vs:List Value) (w:World) (o:Nat),w.grownBy (setW w g o vs) (some g)
 | [],_,_=>World.grownBy.refl _ _
 | v::vs,w,o=>by
  have h1:w.grownBy (w.setCell ⟨g,o,none⟩ v) (some g):=⟨rfl,rfl,rfl,(KeepsWalks.setCell w _ v).size,fun k _ hne=>Below.heap_setCell w ⟨g,o,none⟩ v k (fun e=>hne (by rw [e]))⟩
  exact h1.trans (setW_grown g vs _ _)
end Go.Proofs.YtmemofonebphfaaGreat
