/- Spo. -/
import Derived.WalkKit
import Derived.WalkSpells
import Derived.WalkLawsBesides
import Derived.Laws.OwnMore
import Derived.Deep.AppendLies
import Derived.Deep.Draws
import Derived.Maps.AppendAt
import Derived.OwnWalk
import Derived.Sort.Grow
import Derived.Shelf.GgSortFunc.RowK
import Derived.RangeFuncNested
import Derived.RangeFuncBox
import Derived.Test.YtelfnmohpjkilaaGreatDoorRows
import Derived.Handy
import Derived.Deep.QuietTactic
import Derived.BigQuiet
import Derived.LoopN
import Derived.Laws.EntriesVeiled
import Derived.Shelf.SlSortCmp.QuietGrown
import Derived.Deep.RegionHeld3
import Derived.Deep.DrawnRows
import Derived.Maps.Own
import Derived.Maps.Views
import Derived.DeepKeys4
import Derived.DeepKeys
import Derived.Laws.StructEq
import Derived.Sort.Statements
import Derived.Shelf.SlSortCmp.NoneTotal
import Derived.OrdersHeld
import Derived.OrdersIn
import Derived.RangeFuncCalls
import Derived.OwnWalkIn
import Derived.Deep.CutBlock
import Derived.Deep.DeepCutAuto
import Derived.Test.YtelfnmohpjkilaaGreatDoorProg
import Derived.StillTailTactics
import Derived.Test.YtelfnmohpjkilaaGreatDoorQ21
namespace Go.Proofs.YtelfnmohpjkilaaGreatDoor
open Go.RowKit Go.Sort
def FitL (L : List Tri) : Prop := ∀ t ∈ L, fitsT t
/-- What Spoiled gives, as a value in memory. -/
def SpoR (w w' : World) (N : Nat) (v : Value) : Prop := ∃ L : List Tri, Own encT 9 58 w' w.heap.size v L.length L ∧ L.length ≤ N + 1 ∧ FitL L ∧ Below w.heap.size w w'
theorem FitL.app {L M : List Tri} (h : FitL L) (k : FitL M) : FitL (L ++ M) := fun t ht => by
  rcases List.mem_append.1 ht with h1 | h1
  · exact h t h1
  · exact k t h1
end Go.Proofs.YtelfnmohpjkilaaGreatDoor
