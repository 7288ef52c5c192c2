import Derived.Test.YtmemofonebphfaaGreatY2
import Derived.Test.YtmemofonebphfaaGreatY12
import Derived.Test.YtmemofonebphfaaGreatY19
namespace Go.Proofs.YtmemofonebphfaaGreat
open Go.RowKit
theorem take_succ_eq {α:Type} {xs ys:List α} {k:Nat} {x y:α} (hx:xs[k]? =some x) (hy:ys[k]? =some y) (h:xs.take k=ys.take k):xs.take (k+1)=ys.take (k+1) ↔ x=y:=by
 rw [List.take_add_one,List.take_add_one,hx,hy,h]
 simp
end Go.Proofs.YtmemofonebphfaaGreat
