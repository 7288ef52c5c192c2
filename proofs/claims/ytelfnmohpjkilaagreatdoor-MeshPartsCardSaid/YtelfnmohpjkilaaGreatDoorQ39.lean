/- Cmp2 Merge04 PrtP Nei. -/
import Derived.WalkKit
import Derived.WalkSpells
import Derived.WalkLawsBesides
import Derived.Laws.OwnMore
import Derived.Deep.AppendLies
import Derived.Deep.Draws
import Derived.Maps.AppendAt
import Derived.OwnWalk
import Derived.Sort.Grow
import Derived.Shelf.GgSortFunc.RowK
import Derived.RangeFuncNested
import Derived.RangeFuncBox
import Derived.Test.YtelfnmohpjkilaaGreatDoorRows
import Derived.Handy
import Derived.Maps.Own
import Derived.Maps.Views
import Derived.DeepKeys4
import Derived.DeepKeys
import Derived.Laws.StructEq
import Derived.Deep.QuietTactic
import Derived.BigQuiet
import Derived.LoopN
import Derived.Laws.EntriesVeiled
import Derived.Shelf.SlSortCmp.QuietGrown
import Derived.Deep.RegionHeld3
import Derived.Deep.DrawnRows
import Derived.Sort.Statements
import Derived.Shelf.SlSortCmp.NoneTotal
import Derived.OrdersHeld
import Derived.OrdersIn
import Derived.RangeFuncCalls
import Derived.OwnWalkIn
import Derived.Deep.CutBlock
import Derived.Deep.DeepCutAuto
import Derived.Maps.OwnSet
import Derived.Maps.RangeWalk
import Derived.WideKeyEntry
import Derived.IntWalk
import Derived.Deep.MidRow
import Derived.StillTailTactics
import Derived.Shelf.RegionOpen
import Derived.Deep.WholeRow
import Derived.Test.YtelfnmohpjkilaaGreatDoorQ25
import Derived.Test.YtelfnmohpjkilaaGreatDoorQ29
namespace Go.Proofs.YtelfnmohpjkilaaGreatDoor
open Go.RowKit Go.Sort
set_option maxHeartbeats 1000000 in
theorem rless_any (a b : Pt) (w : World) : Calls Tryz.prog 83 #[vP a, vP b] w fun e w' => e = .returned (.bool (ltP a b)) ∧ Lay w w' := by
  by_cases hx : a.1 = b.1
  · have ex : (a.1 != b.1) = false := by simp [hx]
    have HX := hide hx
    clear hx
    by_cases hy : a.2.1 = b.2.1
    · have ey : (a.2.1 != b.2.1) = false := by simp [hy]
      have HY := hide hy
      clear hy
      go_enter Tryz.func83, Tryz.ntmps83
      go_wp2
      go_ret
      exact ⟨by simp [ltP, HX.out, HY.out], ((Lay.refl _).alloc _).alloc _⟩
    · have ey : (a.2.1 != b.2.1) = true := by simp [hy]
      go_enter Tryz.func83, Tryz.ntmps83
      go_wp2
      go_ret
      exact ⟨by simp [ltP, HX.out, hy], ((Lay.refl _).alloc _).alloc _⟩
  · have ex : (a.1 != b.1) = true := by simp [hx]
    go_enter Tryz.func83, Tryz.ntmps83
    go_wp2
    go_ret
    exact ⟨by simp [ltP, hx], ((Lay.refl _).alloc _).alloc _⟩
end Go.Proofs.YtelfnmohpjkilaaGreatDoor
namespace Go.Proofs.YtelfnmohpjkilaaGreatDoor
open Go.RowKit Go.Sort
theorem below_drew (w : World) : Below w.heap.size w w.drew := below_drewN (Below.refl _ w) 1
end Go.Proofs.YtelfnmohpjkilaaGreatDoor
namespace Go.Proofs.YtelfnmohpjkilaaGreatDoor
open Go.RowKit Go.Sort
theorem partsT_canon {ts : List Tri} {S : Nat → Nat → Bool} (hS : EqB S) : canonO (partsT (canonO ts) S (canonO ts).length).flatten = canonO ts := by
  have h1 := partsT_perm (c := canonO ts) hS _ (Nat.le_refl _)
  rw [List.take_length] at h1
  refine tot_T.sort_perm ((h1.map rotT).trans ?_)
  have h2 : (canonO ts).Perm (ts.map rotT) := sortO_perm (lt := ltT) (ts.map rotT)
  refine (h2.map rotT).trans ?_
  rw [List.map_map]
  have : rotT ∘ rotT = rotT := funext rotT_idem4
  rw [this]
end Go.Proofs.YtelfnmohpjkilaaGreatDoor
namespace Go.Proofs.YtelfnmohpjkilaaGreatDoor
open Go.RowKit Go.Sort
theorem cor_cells {W : World} {g : Nat} {t : Tri} (h : Blk W g 58 (encT t).toArray) {i : Nat} (hi : i < 3) :
    W.cell? ⟨g, i * 3, none⟩ = some (.int .i64 (corner t i).1) ∧ W.cell? ⟨g, i * 3 + 1, none⟩ = some (.int .i64 (corner t i).2.1) ∧ W.cell? ⟨g, i * 3 + 2, none⟩ = some (.int .i64 (corner t i).2.2) := by
  rcases (show i = 0 ∨ i = 1 ∨ i = 2 by omega) with rfl | rfl | rfl
  · exact ⟨h.cell 0, h.cell 1, h.cell 2⟩
  · exact ⟨h.cell 3, h.cell 4, h.cell 5⟩
  · exact ⟨h.cell 6, h.cell 7, h.cell 8⟩
end Go.Proofs.YtelfnmohpjkilaaGreatDoor
