/- Merge04 Canon04 Equal SamW. -/
import Derived.WalkKit
import Derived.WalkSpells
import Derived.WalkLawsBesides
import Derived.Laws.OwnMore
import Derived.Deep.AppendLies
import Derived.Deep.Draws
import Derived.Maps.AppendAt
import Derived.OwnWalk
import Derived.Sort.Grow
import Derived.Shelf.GgSortFunc.RowK
import Derived.RangeFuncNested
import Derived.RangeFuncBox
import Derived.Test.YtelfnmohpjkilaaGreatDoorRows
import Derived.Handy
import Derived.Deep.QuietTactic
import Derived.BigQuiet
import Derived.LoopN
import Derived.Laws.EntriesVeiled
import Derived.Shelf.SlSortCmp.QuietGrown
import Derived.Deep.RegionHeld3
import Derived.Deep.DrawnRows
import Derived.Sort.Statements
import Derived.Shelf.SlSortCmp.NoneTotal
import Derived.Maps.Own
import Derived.Maps.Views
import Derived.DeepKeys4
import Derived.DeepKeys
import Derived.Laws.StructEq
import Derived.OrdersHeld
import Derived.OrdersIn
import Derived.RangeFuncCalls
import Derived.OwnWalkIn
import Derived.Test.YtelfnmohpjkilaaGreatDoorQ2
import Derived.Test.YtelfnmohpjkilaaGreatDoorQ12
import Derived.Test.YtelfnmohpjkilaaGreatDoorQ13
import Derived.Test.YtelfnmohpjkilaaGreatDoorQ18
namespace Go.Proofs.YtelfnmohpjkilaaGreatDoor
open Go.RowKit Go.Sort
theorem tot_T : Tot ltT := ⟨sto_T.irrefl, sto_T.trans, sto_T.total⟩
end Go.Proofs.YtelfnmohpjkilaaGreatDoor
namespace Go.Proofs.YtelfnmohpjkilaaGreatDoor
open Go.RowKit Go.Sort
theorem fitsT_rot {t : Tri} (h : fitsT t) : fitsT (rotT t) := by
  unfold rotT
  split <;> split
  · exact ⟨h.2.2, h.1, h.2.1⟩
  · exact ⟨h.2.1, h.2.2, h.1⟩
  · exact ⟨h.2.2, h.1, h.2.1⟩
  · exact h
/-- The canonical form. -/
def canonO (ts : List Tri) : List Tri := sortO ltT (ts.map rotT)
theorem fitsT_canon {ts : List Tri} (h : ∀ t ∈ ts, fitsT t) : ∀ t ∈ canonO ts, fitsT t := by
  intro t ht
  obtain ⟨u, hu, rfl⟩ := List.mem_map.1 (sortO_mem.1 ht)
  exact fitsT_rot (h u hu)
theorem canonO_length (ts : List Tri) : (canonO ts).length = ts.length := by simp [canonO, sortO_length]
end Go.Proofs.YtelfnmohpjkilaaGreatDoor
namespace Go.Proofs.YtelfnmohpjkilaaGreatDoor
open Go.RowKit
theorem take_succ_eq {α : Type} {xs ys : List α} {k : Nat} {x y : α} (hx : xs[k]? = some x) (hy : ys[k]? = some y) (h : xs.take k = ys.take k) : xs.take (k + 1) = ys.take (k + 1) ↔ x = y := by
  rw [List.take_add_one, List.take_add_one, hx, hy, h]
  simp
end Go.Proofs.YtelfnmohpjkilaaGreatDoor
namespace Go.Proofs.YtelfnmohpjkilaaGreatDoor
open Go.RowKit Go.Sort
theorem canonTO (ts : List Tri) : canonT ts = canonO ts := rfl
end Go.Proofs.YtelfnmohpjkilaaGreatDoor
