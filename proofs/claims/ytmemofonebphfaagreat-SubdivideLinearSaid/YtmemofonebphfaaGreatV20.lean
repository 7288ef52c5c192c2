import Derived.Test.YtmemofonebphfaaGreatV1
import Derived.Test.YtmemofonebphfaaGreatV11
import Derived.Test.YtmemofonebphfaaGreatV12
import Derived.Test.YtmemofonebphfaaGreatV18
namespace Go.Proofs.YtmemofonebphfaaGreat
open Go.RowKit Go.Sort
theorem below_drew (w:World):Below w.heap.size w w.drew:=below_drewN (Below.refl _ w) 1
end Go.Proofs.YtmemofonebphfaaGreat
