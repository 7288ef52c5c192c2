/- mesh.compareTris. -/
import Derived.Test.YtgndbpkgehjelaaCmp2
namespace Go.Proofs.Ytgndbpkgehjelaa
open Go.RowKit Go.Sort
def cmpT (s t : Tri) : Int := orI (cmpP s.1 t.1) (cmpP s.2.1 t.2.1) (cmpP s.2.2 t.2.2)
theorem Lay.drew {w w' : World} (h : Lay w w') : Lay w w'.drew := h.trans ⟨1, #[], by simp; rfl⟩
theorem cell_lay {w w' : World} {a : Addr} {v : Value} (h : Lay w w') (hc : w.cell? a = some v) : w'.cell? a = some v :=
  (h.below.cell (World.block_lt_of_cell? w a hc)).trans hc
theorem Lay.alloc1 (w : World) (o : Obj) : Lay w (w.alloc o) := (Lay.refl w).alloc o
theorem Lay.drew1 (w : World) : Lay w w.drew := (Lay.refl w).drew
abbrev cT (t : Tri) : Array Value := #[.int .i64 t.1.1, .int .i64 t.1.2.1, .int .i64 t.1.2.2, .int .i64 t.2.1.1, .int .i64 t.2.1.2.1, .int .i64 t.2.1.2.2, .int .i64 t.2.2.1, .int .i64 t.2.2.2.1, .int .i64 t.2.2.2.2]
abbrev cP (p : Pt) : Array Value := #[.int .i64 p.1, .int .i64 p.2.1, .int .i64 p.2.2]
attribute [local go_sem ↓] Go.wp_at_zero Go.wp_at_succ
set_option maxHeartbeats 4000000 in
set_option maxRecDepth 100000 in
theorem cmpTris_any (s t : Tri) (w : World) : Calls Try.prog 49 #[vT s, vT t] w fun e w' => e = .returned (vi (cmpT s t)) ∧ Lay w w' := by
  go_enter Try.func49, Try.ntmps49
  go_wp2_with fail
  obtain ⟨W, hW⟩ : ∃ W, W = (w.alloc (.cells (cT s) 26)).alloc (.cells (cT t) 26) := ⟨_, rfl⟩
  rw [← hW]
  have hL : Lay w W := by rw [hW]; exact ((Lay.refl _).alloc _).alloc _
  have b0 : Blk W w.heap.size 26 (cT s) := by rw [hW]; exact (Blk.new _ _ _).alloc _
  have b1 : Blk W (w.heap.size + 1) 26 (cT t) := by rw [hW]; exact Blk.new' _ _ _ _ (by simp)
  clear hW
  have cl0 : W.cell? ⟨w.heap.size, 0, none⟩ = some (.int .i64 s.1.1) := b0.cell 0
  have cl1 : W.cell? ⟨w.heap.size, 1, none⟩ = some (.int .i64 s.1.2.1) := b0.cell 1
  have cl2 : W.cell? ⟨w.heap.size, 2, none⟩ = some (.int .i64 s.1.2.2) := b0.cell 2
  have cl3 : W.cell? ⟨w.heap.size, 3, none⟩ = some (.int .i64 s.2.1.1) := b0.cell 3
  have cl4 : W.cell? ⟨w.heap.size, 4, none⟩ = some (.int .i64 s.2.1.2.1) := b0.cell 4
  have cl5 : W.cell? ⟨w.heap.size, 5, none⟩ = some (.int .i64 s.2.1.2.2) := b0.cell 5
  have cl6 : W.cell? ⟨w.heap.size, 6, none⟩ = some (.int .i64 s.2.2.1) := b0.cell 6
  have cl7 : W.cell? ⟨w.heap.size, 7, none⟩ = some (.int .i64 s.2.2.2.1) := b0.cell 7
  have cl8 : W.cell? ⟨w.heap.size, 8, none⟩ = some (.int .i64 s.2.2.2.2) := b0.cell 8
  have cl9 : W.cell? ⟨w.heap.size + 1, 0, none⟩ = some (.int .i64 t.1.1) := b1.cell 0
  have cl10 : W.cell? ⟨w.heap.size + 1, 1, none⟩ = some (.int .i64 t.1.2.1) := b1.cell 1
  have cl11 : W.cell? ⟨w.heap.size + 1, 2, none⟩ = some (.int .i64 t.1.2.2) := b1.cell 2
  have cl12 : W.cell? ⟨w.heap.size + 1, 3, none⟩ = some (.int .i64 t.2.1.1) := b1.cell 3
  have cl13 : W.cell? ⟨w.heap.size + 1, 4, none⟩ = some (.int .i64 t.2.1.2.1) := b1.cell 4
  have cl14 : W.cell? ⟨w.heap.size + 1, 5, none⟩ = some (.int .i64 t.2.1.2.2) := b1.cell 5
  have cl15 : W.cell? ⟨w.heap.size + 1, 6, none⟩ = some (.int .i64 t.2.2.1) := b1.cell 6
  have cl16 : W.cell? ⟨w.heap.size + 1, 7, none⟩ = some (.int .i64 t.2.2.2.1) := b1.cell 7
  have cl17 : W.cell? ⟨w.heap.size + 1, 8, none⟩ = some (.int .i64 t.2.2.2.2) := b1.cell 8
  clear b0 b1
  go_region_held3 (fun w' => Lay w w' ∧ w'.cell? ⟨w.heap.size, 0, none⟩ = some (.int .i64 s.1.1) ∧ w'.cell? ⟨w.heap.size, 1, none⟩ = some (.int .i64 s.1.2.1) ∧ w'.cell? ⟨w.heap.size, 2, none⟩ = some (.int .i64 s.1.2.2) ∧ w'.cell? ⟨w.heap.size, 3, none⟩ = some (.int .i64 s.2.1.1) ∧ w'.cell? ⟨w.heap.size, 4, none⟩ = some (.int .i64 s.2.1.2.1) ∧ w'.cell? ⟨w.heap.size, 5, none⟩ = some (.int .i64 s.2.1.2.2) ∧ w'.cell? ⟨w.heap.size, 6, none⟩ = some (.int .i64 s.2.2.1) ∧ w'.cell? ⟨w.heap.size, 7, none⟩ = some (.int .i64 s.2.2.2.1) ∧ w'.cell? ⟨w.heap.size, 8, none⟩ = some (.int .i64 s.2.2.2.2) ∧ w'.cell? ⟨w.heap.size + 1, 0, none⟩ = some (.int .i64 t.1.1) ∧ w'.cell? ⟨w.heap.size + 1, 1, none⟩ = some (.int .i64 t.1.2.1) ∧ w'.cell? ⟨w.heap.size + 1, 2, none⟩ = some (.int .i64 t.1.2.2) ∧ w'.cell? ⟨w.heap.size + 1, 3, none⟩ = some (.int .i64 t.2.1.1) ∧ w'.cell? ⟨w.heap.size + 1, 4, none⟩ = some (.int .i64 t.2.1.2.1) ∧ w'.cell? ⟨w.heap.size + 1, 5, none⟩ = some (.int .i64 t.2.1.2.2) ∧ w'.cell? ⟨w.heap.size + 1, 6, none⟩ = some (.int .i64 t.2.2.1) ∧ w'.cell? ⟨w.heap.size + 1, 7, none⟩ = some (.int .i64 t.2.2.2.1) ∧ w'.cell? ⟨w.heap.size + 1, 8, none⟩ = some (.int .i64 t.2.2.2.2))
    ((go_split_ands; first
      | (refine ⟨Lay.trans (by with_reducible assumption) hLx, ?_, ?_, ?_, ?_, ?_, ?_, ?_, ?_, ?_, ?_, ?_, ?_, ?_, ?_, ?_, ?_, ?_, ?_⟩ <;> exact cell_lay hLx (by with_reducible assumption))
      | (refine ⟨Lay.alloc (by with_reducible assumption) _, ?_, ?_, ?_, ?_, ?_, ?_, ?_, ?_, ?_, ?_, ?_, ?_, ?_, ?_, ?_, ?_, ?_, ?_⟩ <;> exact cell_lay (Lay.alloc1 _ _) (by with_reducible assumption))
      | (refine ⟨Lay.drew (by with_reducible assumption), ?_, ?_, ?_, ?_, ?_, ?_, ?_, ?_, ?_, ?_, ?_, ?_, ?_, ?_, ?_, ?_, ?_, ?_⟩ <;> exact cell_lay (Lay.drew1 _) (by with_reducible assumption))
      | go_keep))
    (first | (go_at_call 61; refine (cmpPoints_any _ _ _).mono ?_; rintro e wx ⟨rfl, hLx⟩) | (go_at_call 60; refine (or_any _ 3 _ _ _ _ ((Blk.new wx 3 _).cell 0) ((Blk.new wx 3 _).cell 1) ((Blk.new wx 3 _).cell 2)).mono ?_; rintro e wx ⟨rfl, rfl⟩))
  go_wp2
  go_ret
  go_split_ands
  exact ⟨rfl, by with_reducible assumption⟩
end Go.Proofs.Ytgndbpkgehjelaa
