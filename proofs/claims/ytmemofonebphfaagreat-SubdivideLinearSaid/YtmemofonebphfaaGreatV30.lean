import Derived.Test.YtmemofonebphfaaGreatV29
namespace Go.Proofs.YtmemofonebphfaaGreat
open Go.RowKit Go.Sort
def anaZ (c:Ctl):Ctl:={c with points:=List.replicate c.points.length (0,0,0),details:= []}
def anaMany (c:Ctl):Nat→Nat × Nat
 | 0=>(c.points.length,3*c.tris.length / 2)
 | k+1=>((anaMany c k).1+(anaMany c k).2,4*(anaMany c k).2)
end Go.Proofs.YtmemofonebphfaaGreat
namespace Go.Proofs.YtmemofonebphfaaGreat
open Go.RowKit Go.Sort
def smallD (n:Int) (D:List Pt):Prop:=∀p∈D,(-n≤p.1∧p.1≤n)∧(-n≤p.2.1∧p.2.1≤n)∧ -n≤p.2.2∧p.2.2≤n
end Go.Proofs.YtmemofonebphfaaGreat
