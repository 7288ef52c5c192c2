/- ref04.quad. -/
import Derived.Test.YtelfnmohpjkilaaDoorCB4
import Derived.Test.YtelfnmohpjkilaaDoorCB20
import Derived.Test.YtelfnmohpjkilaaDoorCOwnL
namespace Go.Proofs.YtelfnmohpjkilaaDoor
open Go.RowKit Go.Sort
set_option maxRecDepth 100000 in
set_option maxHeartbeats 8000000 in
theorem quad_any (a b c d : Pt) (w : World) : Calls Tryd.prog 38 #[vP a, vP b, vP c, vP d] w fun e w' => ∃ v, e = .returned v ∧ Own encT 9 26 w' w.heap.size v 2 (quadP a b c d) ∧ Below w.heap.size w w' := by
  obtain ⟨a1, a2, a3⟩ := a
  obtain ⟨b1, b2, b3⟩ := b
  obtain ⟨c1, c2, c3⟩ := c
  obtain ⟨d1, d2, d3⟩ := d
  go_enter Tryd.func38, Tryd.ntmps38
  go_wp2
  go_ret
  refine ⟨.slice (some ⟨w.heap.size + 1 + 1 + 1 + 1, 0, none⟩) 2 2, rfl, own_lits' encT_len 26 (quadP (a1, a2, a3) (b1, b2, b3) (c1, c2, c3) (d1, d2, d3)) (by simp) (by omega) (show 2 ≤ 4294967296 by omega), ?_⟩
  exact Below.alloc (Below.alloc (Below.alloc (Below.alloc (Below.alloc (Below.refl _ w) (Nat.le_refl _) _) (by simp) _) (by simp; omega) _) (by simp; omega) _) (by simp; omega) _
end Go.Proofs.YtelfnmohpjkilaaDoor
