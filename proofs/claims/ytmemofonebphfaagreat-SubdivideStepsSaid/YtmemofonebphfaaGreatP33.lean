import Derived.Test.YtmemofonebphfaaGreatP10
import Derived.Test.YtmemofonebphfaaGreatP32
namespace Go.Proofs.YtmemofonebphfaaGreat
open Go.RowKit Go.Sort
theorem setW_below {n g:Nat} {w0:World} (hg:n≤g):∀(vs:List Value) (w:World) (o:Nat),Below n w0 w→Below n w0 (setW w g o vs)
 | [],_,_,h=>h
 | v::vs,_,_,h=>setW_below hg vs _ _ (h.setCell hg v)
end Go.Proofs.YtmemofonebphfaaGreat
