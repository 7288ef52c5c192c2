import Derived.Test.YtmemofonebphfaaGreatV5
import Derived.Test.YtmemofonebphfaaGreatV7
namespace Go.Proofs.YtmemofonebphfaaGreat
open Go.RowKit Go.Sort Go.WideMaps Go.Maps
theorem MapK.range_le {P:Program} {κ:Type} {kt:TypeId} {enc:κ→Value} {ok:κ→Prop} {w:World} {b n:Nat} {m:κ→Option Value} {t e:TypeId} (K:KeyFit P kt enc ok) (h:MapK P kt enc ok w b n m) (ht:P.underlying t=some (.map kt e)):
  ∃w' cnt,(Instr.range t (.map (some b))).run P w= .ok (.pointer (some ⟨w.heap.size,0,none⟩)) w'∧RngK P kt enc ok w' b w.heap.size n m (fun p=>(m p).isSome) cnt∧w.grownBy w' none∧w'.heap.size=w.heap.size+1∧cnt≤n:=by
 obtain ⟨D,h1,h2⟩:=h
 obtain ⟨w',hrun,hr,hg,hz⟩:=h1.range K.keyed ht
 refine ⟨w',_,hrun,⟨D,_,hr,h2,fun p l hl=>(h2.1 p l hl).1,fun l hl=>hl⟩,hg,hz,?_⟩
 obtain ⟨es,clock,_,_,hle,rfl⟩:=h1
 simpa [Maps.size,length_sorted] using hle
theorem RngK.below {P:Program} {κ:Type} {kt:TypeId} {enc:κ→Value} {ok:κ→Prop} {w w':World} {b r n cnt B:Nat} {m:κ→Option Value} {left:κ→Bool} (h:RngK P kt enc ok w b r n m left cnt) (hb:Below B w w') (h0:w.heap.size≤B):RngK P kt enc ok w' b r n m left cnt:=
 h.kept (row:=none) ⟨hb.os,hb.tape,hb.output,hb.size,fun k hk _=>hb.block k (by omega)⟩ (by simp) (by simp)
theorem below_of_grown_none {A B:World} {n:Nat} (h:A.grownBy B none) (hn:n≤A.heap.size):Below n A B:=
 ⟨h.os,h.tape,h.output,h.size,fun k hk=>h.block k (by omega) (by simp)⟩
theorem grown_below {w Y Z:World} {r:Nat} (h:Below w.heap.size w Y) (hg:Y.grownBy Z (some r)):w.grownBy Z (some r):=
 ⟨hg.os.trans h.os,hg.tape.trans h.tape,hg.output.trans h.output,Nat.le_trans h.size hg.size,fun k hk hne=>(hg.block k (Nat.lt_of_lt_of_le hk h.size) hne).trans (h.block k hk)⟩
end Go.Proofs.YtmemofonebphfaaGreat
