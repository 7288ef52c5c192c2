/- Layer 8, plain: a turned cell's triangles are the turned triangles of the cell. No program. -/
import Derived.Test.YtfljcgehhnmamaaCShP
namespace Go.Proofs.Ytfljcgehhnmamaa
open Go.RowKit
def turnP (p : Pt) : Pt := (p.2.1, p.2.2, p.1)
def turnT (t : Tri) : Tri := (turnP t.1, turnP t.2.1, turnP t.2.2)
/-- The bits of the turned cell: vertex a + 2 b + 4 c goes to b + 2 c + 4 a. -/
def turnL (l : List Bool) : List Bool := [insL l 0, insL l 2, insL l 4, insL l 6, insL l 1, insL l 3, insL l 5, insL l 7]
def turnChk (h : Int) (l : List Bool) : Bool := ((cellTs (turnL l) (0, 0, 0) h).map rotT).isPerm (((cellTs l (0, 0, 0) h).map turnT).map rotT)
set_option maxRecDepth 100000 in
theorem turn_all3 : ((allL 8).all (turnChk 262144)) = true := by decide +kernel
set_option maxRecDepth 100000 in
theorem turn_all2 : ((allL 8).all (turnChk 524288)) = true := by decide +kernel
set_option maxRecDepth 100000 in
theorem turn_all1 : ((allL 8).all (turnChk 1048576)) = true := by decide +kernel
theorem turn_cell (h : Int) (hh : h = 262144 ∨ h = 524288 ∨ h = 1048576) {l : List Bool} (hl : l.length = 8) : ((cellTs (turnL l) (0, 0, 0) h).map rotT).Perm (((cellTs l (0, 0, 0) h).map turnT).map rotT) := by
  have hm := mem_allL 8 l hl
  rcases hh with rfl | rfl | rfl
  · exact List.isPerm_iff.1 (List.all_eq_true.1 turn_all3 l hm)
  · exact List.isPerm_iff.1 (List.all_eq_true.1 turn_all2 l hm)
  · exact List.isPerm_iff.1 (List.all_eq_true.1 turn_all1 l hm)
end Go.Proofs.Ytfljcgehhnmamaa
