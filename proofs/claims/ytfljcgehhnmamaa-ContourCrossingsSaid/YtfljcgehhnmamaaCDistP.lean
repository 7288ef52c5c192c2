/- Layer 8, plain: the corners of a cell's triangles differ. No program. -/
import Derived.Test.YtfljcgehhnmamaaCShP
namespace Go.Proofs.Ytfljcgehhnmamaa
open Go.RowKit
def distB (t : Tri) : Bool := decide (t.1 ≠ t.2.1) && decide (t.2.1 ≠ t.2.2) && decide (t.2.2 ≠ t.1)
def distChk (l : List Bool) : Bool := (cellTs l (0, 0, 0) 1048576).all distB && (cellTs l (0, 0, 0) 524288).all distB && (cellTs l (0, 0, 0) 262144).all distB
set_option maxRecDepth 100000 in
theorem dist_all : ((allL 8).all distChk) = true := by decide +kernel
end Go.Proofs.Ytfljcgehhnmamaa
