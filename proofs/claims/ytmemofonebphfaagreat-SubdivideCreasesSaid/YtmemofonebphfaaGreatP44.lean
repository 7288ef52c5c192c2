import Derived.Test.YtmemofonebphfaaGreatP31
import Derived.Test.YtmemofonebphfaaGreatP42
namespace Go.Proofs.YtmemofonebphfaaGreat
open Go.ChangeShapes Go.WideShapes Go.ChangeAt Go.RowKit Go.Deep
set_option maxRecDepth 100000 in
theorem open_arr39 {H:Type} {enc:TypeId × Value→H} {W:World} {r:Reach} {b0:Nat} {v:Value} {d:DataW H} {ps:List MemPlace} (hv:Value.okWide Tryz.prog W r b0 35 v) (h:DataW.Trod enc Tryz.prog W 0 (fun _=>true) true 35 v d ps):
  ∃q:Pt,v=vP q∧fitsP q:=by
 have c3:Tryz.prog.cellsOf 35=3:=by kernel_rfl
 simp only [Value.okWide,Tryz.underlying35] at hv
 obtain ⟨cs,rfl,hsz,_⟩:=hv
 rw [c3] at hsz
 obtain ⟨fuel,hf⟩:=h
 obtain ⟨l,rfl⟩:∃l:List Value,cs=l.toArray:=⟨cs.toList,by simp⟩
 obtain ⟨t,ht,hq⟩:=open_n39 hf (by simpa [Value.cells] using hsz)
 have ht:l=encN3 t:=ht
 exact ⟨t,by rw [ht];rfl,hq⟩
end Go.Proofs.YtmemofonebphfaaGreat
