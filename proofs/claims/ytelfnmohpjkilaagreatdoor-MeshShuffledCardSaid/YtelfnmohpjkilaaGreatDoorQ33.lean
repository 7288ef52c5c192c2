/- Args4. -/
import Derived.WalkKit
import Derived.WalkSpells
import Derived.WalkLawsBesides
import Derived.Laws.OwnMore
import Derived.Deep.AppendLies
import Derived.Deep.Draws
import Derived.Maps.AppendAt
import Derived.OwnWalk
import Derived.Sort.Grow
import Derived.Shelf.GgSortFunc.RowK
import Derived.RangeFuncNested
import Derived.RangeFuncBox
import Derived.OrdersHeld
import Derived.OrdersIn
import Derived.RangeFuncCalls
import Derived.OwnWalkIn
import Derived.Test.YtelfnmohpjkilaaGreatDoorRows
import Derived.Carry
import Derived.OpenShut
import Derived.ProofKit
import Derived.ChangeSame
import Derived.Handy
import Derived.Deep.Slices
import Derived.Test.YtelfnmohpjkilaaGreatDoorQ9
import Derived.Test.YtelfnmohpjkilaaGreatDoorQ32
namespace Go.Proofs.YtelfnmohpjkilaaGreatDoor
open Go.ChangeShapes Go.WideShapes Go.ChangeAt Go.RowKit Go.Deep
theorem fits_wf40 {n : Int} (h : (Lit.int .i64 n).wf = true) : fits n := by
  simp [Lit.wf, IntKind.min, IntKind.max, IntKind.signed, IntKind.bits] at h
  unfold fits; omega
end Go.Proofs.YtelfnmohpjkilaaGreatDoor
