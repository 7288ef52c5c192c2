/- Joined texts: LessT Merge04 Equal Sort04 Canon04. -/
import Derived.Deep.QuietTactic
import Derived.Deep.RegionHeld3
import Derived.BigQuiet
import Derived.Test.YtelfnmohpjkilaaDoorCB2
import Derived.Test.YtelfnmohpjkilaaDoorCB3
import Derived.Test.YtelfnmohpjkilaaDoorCB10
import Derived.Test.YtelfnmohpjkilaaDoorCB11
import Derived.Test.YtelfnmohpjkilaaDoorCB12
import Derived.Test.YtelfnmohpjkilaaDoorCB14
import Derived.Test.YtelfnmohpjkilaaDoorCB17
/- ref04.lessTri: the order of triangles, corner by corner. -/
namespace Go.Proofs.YtelfnmohpjkilaaDoor
open Go.RowKit
theorem ltT_0 {s t : Tri} (h : s.1 ≠ t.1) : ltT s t = ltP s.1 t.1 := by simp [ltT, lexB, h]
theorem ltT_1 {s t : Tri} (h0 : s.1 = t.1) (h : s.2.1 ≠ t.2.1) : ltT s t = ltP s.2.1 t.2.1 := by simp [ltT, lexB, h0, h, sto_P.irrefl]
theorem ltT_2 {s t : Tri} (h0 : s.1 = t.1) (h1 : s.2.1 = t.2.1) : ltT s t = ltP s.2.2 t.2.2 := by simp [ltT, lexB, h0, h1, sto_P.irrefl]
end Go.Proofs.YtelfnmohpjkilaaDoor
/- ref04.merge. -/
namespace Go.Proofs.YtelfnmohpjkilaaDoor
open Go.RowKit Go.Sort
theorem below_drew (w : World) : Below w.heap.size w w.drew := below_drewN (Below.refl _ w) 1
theorem tot_T : Tot ltT := ⟨sto_T.irrefl, sto_T.trans, sto_T.total⟩
theorem tot_P : Tot ltP := ⟨sto_P.irrefl, sto_P.trans, sto_P.total⟩
abbrev mergeT (xs ys : List Tri) : List Tri := List.merge xs ys (leO ltT)
end Go.Proofs.YtelfnmohpjkilaaDoor
/- ref04.Equal. -/
namespace Go.Proofs.YtelfnmohpjkilaaDoor
open Go.RowKit
theorem take_succ_eq {α : Type} {xs ys : List α} {k : Nat} {x y : α} (hx : xs[k]? = some x) (hy : ys[k]? = some y) (h : xs.take k = ys.take k) : xs.take (k + 1) = ys.take (k + 1) ↔ x = y := by
  rw [List.take_add_one, List.take_add_one, hx, hy, h]
  simp
end Go.Proofs.YtelfnmohpjkilaaDoor
/- ref04.sort. -/
namespace Go.Proofs.YtelfnmohpjkilaaDoor
open Go.RowKit Go.Sort
end Go.Proofs.YtelfnmohpjkilaaDoor
/- ref04.Canon. -/
namespace Go.Proofs.YtelfnmohpjkilaaDoor
open Go.RowKit Go.Sort
theorem rotR_eq (t : Tri) : rotR t = rotT t := by
  unfold rotR rotT
  cases h1 : ltP t.2.1 t.1 <;> cases h2 : ltP t.2.2 t.1 <;> cases h3 : ltP t.2.2 t.2.1 <;> simp
  have := sto_P.trans _ _ _ h3 h1
  rw [h2] at this; cases this
theorem fitsT_rot {t : Tri} (h : fitsT t) : fitsT (rotT t) := by
  unfold rotT
  split <;> split
  · exact ⟨h.2.2, h.1, h.2.1⟩
  · exact ⟨h.2.1, h.2.2, h.1⟩
  · exact ⟨h.2.2, h.1, h.2.1⟩
  · exact h
/-- The canonical form. -/
def canonO (ts : List Tri) : List Tri := sortO ltT (ts.map rotT)
theorem fitsT_canon {ts : List Tri} (h : ∀ t ∈ ts, fitsT t) : ∀ t ∈ canonO ts, fitsT t := by
  intro t ht
  obtain ⟨u, hu, rfl⟩ := List.mem_map.1 (sortO_mem.1 ht)
  exact fitsT_rot (h u hu)
theorem canonO_length (ts : List Tri) : (canonO ts).length = ts.length := by simp [canonO, sortO_length]
theorem map_take_snoc' {α β : Type} (f : α → β) (xs : List α) (k : Nat) (x : α) (h : xs[k]? = some x) : (xs.take (k + 1)).map f = (xs.take k).map f ++ [f x] := by
  rw [List.take_add_one, h]
  simp
end Go.Proofs.YtelfnmohpjkilaaDoor
