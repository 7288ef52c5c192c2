/- Joined texts: LayW. -/
import Derived.Sort.Grow
import Derived.Deep.QuietTactic
import Derived.BigQuiet
import Derived.LoopN
import Derived.Laws.EntriesVeiled
import Derived.Shelf.SlSortCmp.QuietGrown
import Derived.Test.YtdpgohpbannfnaaCB5
/- Worlds with new blocks alone. -/
namespace Go.Proofs.Ytdpgohpbannfnaa
open Go.RowKit Go.Sort
/-- w' is w with draws and new blocks alone. -/
def Lay (w w' : World) : Prop := ∃ n os, w' = grow (w.drewN n) os
theorem Lay.refl (w : World) : Lay w w := ⟨0, #[], by simp; rfl⟩
theorem Lay.alloc {w w' : World} (h : Lay w w') (o : Obj) : Lay w (w'.alloc o) := by
  obtain ⟨n, os, rfl⟩ := h
  exact ⟨n, os ++ #[o], by rw [alloc_eq_grow, grow_grow]⟩
theorem Lay.trans {a b c : World} (h : Lay a b) (k : Lay b c) : Lay a c := by
  obtain ⟨n, os, rfl⟩ := h
  obtain ⟨m, os', rfl⟩ := k
  exact ⟨n + m, os ++ os', by show grow (grow ((a.drewN n).drewN m) os) os' = _; rw [grow_grow, World.drewN_drewN]⟩
theorem Lay.below {w w' : World} (h : Lay w w') : Below w.heap.size w w' := by
  obtain ⟨n, os, rfl⟩ := h
  exact ⟨rfl, rfl, rfl, by simp, fun k hk => heap_grow_old (w.drewN n) os hk⟩
end Go.Proofs.Ytdpgohpbannfnaa
