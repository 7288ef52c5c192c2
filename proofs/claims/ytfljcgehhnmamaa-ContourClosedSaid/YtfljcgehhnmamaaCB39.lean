/- Joined texts: LnkE LnkE1 LnkE2. -/
import Derived.Test.YtfljcgehhnmamaaCB38
/- Layer 8, plain: the checks of LnkD hold at every cell. No program. -/
namespace Go.Proofs.Ytfljcgehhnmamaa
set_option maxRecDepth 100000 in
theorem ed_all3 : ((allL 8).all (edChk 262144)) = true := by decide +kernel
set_option maxRecDepth 100000 in
theorem lk_all3 : ((allL 8).all (lkChk 262144)) = true := by decide +kernel
end Go.Proofs.Ytfljcgehhnmamaa
/- Layer 8, plain: the checks of LnkD hold at every cell of the side 1048576. No program. -/
namespace Go.Proofs.Ytfljcgehhnmamaa
set_option maxRecDepth 100000 in
theorem ed_all1 : ((allL 8).all (edChk 1048576)) = true := by decide +kernel
set_option maxRecDepth 100000 in
theorem lk_all1 : ((allL 8).all (lkChk 1048576)) = true := by decide +kernel
end Go.Proofs.Ytfljcgehhnmamaa
/- Layer 8, plain: the checks of LnkD hold at every cell of the side 524288. No program. -/
namespace Go.Proofs.Ytfljcgehhnmamaa
set_option maxRecDepth 100000 in
theorem ed_all2 : ((allL 8).all (edChk 524288)) = true := by decide +kernel
set_option maxRecDepth 100000 in
theorem lk_all2 : ((allL 8).all (lkChk 524288)) = true := by decide +kernel
end Go.Proofs.Ytfljcgehhnmamaa
