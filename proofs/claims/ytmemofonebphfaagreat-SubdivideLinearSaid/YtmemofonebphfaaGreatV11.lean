import Derived.Test.YtmemofonebphfaaGreatV2
import Derived.Test.YtmemofonebphfaaGreatV10
namespace Go.Proofs.YtmemofonebphfaaGreat
open Go.RowKit
def RB (x y:World):Prop:=Below x.heap.size x y
theorem RB.refl (x:World):RB x x:=Below.refl _ x
theorem RB.trans (x y z:World) (h:RB x y) (k:RB y z):RB x z:=Below.trans h (Below.mono k h.size)
def Each {α:Type} (enc:α→List Value) (k:Nat) (w:World):List Hdr→List (List α)→Prop
 | [], []=>True
 | (A,n,_)::hs,p::ps=>n=p.length∧Sl enc k w w.heap.size A p∧Each enc k w hs ps
 | _,_=>False
theorem cells9 {w:World} {b:Nat} {ty:TypeId} {t:Tri} (h:Blk w b ty (encT t).toArray):CellsT w b 0 t:=⟨h.cell 0,h.cell 1,h.cell 2,h.cell 3,h.cell 4,h.cell 5,h.cell 6,h.cell 7,h.cell 8⟩
theorem cells9z {w:World} {b:Nat} {ty:TypeId} {t:Tri} (h:Blk w b ty (encT t).toArray):w.cell? ⟨b,0,none⟩=some (.int .i64 t.1.1)∧w.cell? ⟨b,1,none⟩=some (.int .i64 t.1.2.1)∧w.cell? ⟨b,2,none⟩=some (.int .i64 t.1.2.2)∧w.cell? ⟨b,3,none⟩=some (.int .i64 t.2.1.1)∧w.cell? ⟨b,4,none⟩=some (.int .i64 t.2.1.2.1)∧w.cell? ⟨b,5,none⟩=some (.int .i64 t.2.1.2.2)∧w.cell? ⟨b,6,none⟩=some (.int .i64 t.2.2.1)∧w.cell? ⟨b,7,none⟩=some (.int .i64 t.2.2.2.1)∧w.cell? ⟨b,8,none⟩=some (.int .i64 t.2.2.2.2):=⟨h.cell 0,h.cell 1,h.cell 2,h.cell 3,h.cell 4,h.cell 5,h.cell 6,h.cell 7,h.cell 8⟩
end Go.Proofs.YtmemofonebphfaaGreat
