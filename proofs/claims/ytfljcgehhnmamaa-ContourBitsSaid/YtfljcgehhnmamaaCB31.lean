/- Joined texts: Ref8A. -/
import Derived.IntWalk
import Derived.Test.YtfljcgehhnmamaaCB4
import Derived.Test.YtfljcgehhnmamaaCB6
import Derived.Test.YtfljcgehhnmamaaCB7
/- ref08.edge, ref08.place. -/
namespace Go.Proofs.Ytfljcgehhnmamaa
open Go.RowKit
set_option maxRecDepth 100000 in
set_option maxHeartbeats 8000000 in
theorem edge_any (v a : Nat) (hv : v < 8) (ha : a < 3) (w : World) :
    Calls Try.prog 76 #[.int .i64 v, .int .i64 a] w fun e w' => e = .returned (.int .i64 (edgeE v a : Nat)) ∧ w' = w := by
  have hc : v = 0 ∨ v = 1 ∨ v = 2 ∨ v = 3 ∨ v = 4 ∨ v = 5 ∨ v = 6 ∨ v = 7 := by omega
  have hd : a = 0 ∨ a = 1 ∨ a = 2 := by omega
  rcases hd with rfl | rfl | rfl <;> rcases hc with rfl | rfl | rfl | rfl | rfl | rfl | rfl | rfl <;> (
    go_enter Try.func76, Try.ntmps76
    go_wp2
    go_ret
    exact ⟨by kernel_rfl, rfl⟩)
theorem placeE_bd {e : Nat} (he : e < 24) : (0 ≤ (placeE e).1 ∧ (placeE e).1 ≤ 3) ∧ (0 ≤ (placeE e).2.1 ∧ (placeE e).2.1 ≤ 3) ∧ (0 ≤ (placeE e).2.2 ∧ (placeE e).2.2 ≤ 3) := by
  have key : ((List.range 24).all fun e => decide ((0 ≤ (placeE e).1 ∧ (placeE e).1 ≤ 3) ∧ (0 ≤ (placeE e).2.1 ∧ (placeE e).2.1 ≤ 3) ∧ (0 ≤ (placeE e).2.2 ∧ (placeE e).2.2 ≤ 3))) = true := by decide +kernel
  exact of_decide_eq_true (List.all_eq_true.1 key e (List.mem_range.2 he))
set_option maxRecDepth 100000 in
set_option maxHeartbeats 16000000 in
theorem place_any (e : Nat) (he : e < 24) (w : World) :
    Calls Try.prog 78 #[.int .i64 e] w fun r w' => r = .returned (vP (placeE e)) ∧ Below w.heap.size w w' := by
  have hc : e = 0 ∨ e = 1 ∨ e = 2 ∨ e = 3 ∨ e = 4 ∨ e = 5 ∨ e = 6 ∨ e = 7 ∨ e = 8 ∨ e = 9 ∨ e = 10 ∨ e = 11 ∨ e = 12 ∨ e = 13 ∨ e = 14 ∨ e = 15 ∨ e = 16 ∨ e = 17 ∨ e = 18 ∨ e = 19 ∨ e = 20 ∨ e = 21 ∨ e = 22 ∨ e = 23 := by omega
  rcases hc with rfl | rfl | rfl | rfl | rfl | rfl | rfl | rfl | rfl | rfl | rfl | rfl | rfl | rfl | rfl | rfl | rfl | rfl | rfl | rfl | rfl | rfl | rfl | rfl
  · have h1 : bits BinOp.and IntKind.i64 0 1 = 0 := by kernel_rfl
    have h2 : bits BinOp.and IntKind.i64 0 2 = 0 := by kernel_rfl
    rw [show placeE 0 = ((1 : Int), (0 : Int), (0 : Int)) by rfl]
    go_enter Try.func78, Try.ntmps78
    go_wp2
    refine ret_at (v := vP ((1 : Int), (0 : Int), (0 : Int))) (fun W => Blk W w.heap.size 51 #[.int .i64 1, .int .i64 0, .int .i64 0]) ((Blk.new _ _ _).alloc _) (fun W h => ?_) rfl ⟨rfl, ((Below.refl _ w).alloc (Nat.le_refl _) _).alloc (by simp) _⟩
    obtain ⟨a0, a1, a2⟩ := h.three
    simp [results, Try.results78, go_sem, a0, a1, a2]
  · have h1 : bits BinOp.and IntKind.i64 1 1 = 1 := by kernel_rfl
    have h2 : bits BinOp.and IntKind.i64 1 2 = 0 := by kernel_rfl
    rw [show placeE 1 = ((3 : Int), (0 : Int), (0 : Int)) by rfl]
    go_enter Try.func78, Try.ntmps78
    go_wp2
    refine ret_at (v := vP ((3 : Int), (0 : Int), (0 : Int))) (fun W => Blk W w.heap.size 51 #[.int .i64 3, .int .i64 0, .int .i64 0]) ((Blk.new _ _ _).alloc _) (fun W h => ?_) rfl ⟨rfl, ((Below.refl _ w).alloc (Nat.le_refl _) _).alloc (by simp) _⟩
    obtain ⟨a0, a1, a2⟩ := h.three
    simp [results, Try.results78, go_sem, a0, a1, a2]
  · have h1 : bits BinOp.and IntKind.i64 2 1 = 0 := by kernel_rfl
    have h2 : bits BinOp.and IntKind.i64 2 2 = 2 := by kernel_rfl
    rw [show placeE 2 = ((1 : Int), (2 : Int), (0 : Int)) by rfl]
    go_enter Try.func78, Try.ntmps78
    go_wp2
    refine ret_at (v := vP ((1 : Int), (2 : Int), (0 : Int))) (fun W => Blk W w.heap.size 51 #[.int .i64 1, .int .i64 2, .int .i64 0]) ((Blk.new _ _ _).alloc _) (fun W h => ?_) rfl ⟨rfl, ((Below.refl _ w).alloc (Nat.le_refl _) _).alloc (by simp) _⟩
    obtain ⟨a0, a1, a2⟩ := h.three
    simp [results, Try.results78, go_sem, a0, a1, a2]
  · have h1 : bits BinOp.and IntKind.i64 3 1 = 1 := by kernel_rfl
    have h2 : bits BinOp.and IntKind.i64 3 2 = 2 := by kernel_rfl
    rw [show placeE 3 = ((3 : Int), (2 : Int), (0 : Int)) by rfl]
    go_enter Try.func78, Try.ntmps78
    go_wp2
    refine ret_at (v := vP ((3 : Int), (2 : Int), (0 : Int))) (fun W => Blk W w.heap.size 51 #[.int .i64 3, .int .i64 2, .int .i64 0]) ((Blk.new _ _ _).alloc _) (fun W h => ?_) rfl ⟨rfl, ((Below.refl _ w).alloc (Nat.le_refl _) _).alloc (by simp) _⟩
    obtain ⟨a0, a1, a2⟩ := h.three
    simp [results, Try.results78, go_sem, a0, a1, a2]
  · have h1 : bits BinOp.and IntKind.i64 4 1 = 0 := by kernel_rfl
    have h2 : bits BinOp.and IntKind.i64 4 2 = 0 := by kernel_rfl
    rw [show placeE 4 = ((1 : Int), (0 : Int), (2 : Int)) by rfl]
    go_enter Try.func78, Try.ntmps78
    go_wp2
    refine ret_at (v := vP ((1 : Int), (0 : Int), (2 : Int))) (fun W => Blk W w.heap.size 51 #[.int .i64 1, .int .i64 0, .int .i64 2]) ((Blk.new _ _ _).alloc _) (fun W h => ?_) rfl ⟨rfl, ((Below.refl _ w).alloc (Nat.le_refl _) _).alloc (by simp) _⟩
    obtain ⟨a0, a1, a2⟩ := h.three
    simp [results, Try.results78, go_sem, a0, a1, a2]
  · have h1 : bits BinOp.and IntKind.i64 5 1 = 1 := by kernel_rfl
    have h2 : bits BinOp.and IntKind.i64 5 2 = 0 := by kernel_rfl
    rw [show placeE 5 = ((3 : Int), (0 : Int), (2 : Int)) by rfl]
    go_enter Try.func78, Try.ntmps78
    go_wp2
    refine ret_at (v := vP ((3 : Int), (0 : Int), (2 : Int))) (fun W => Blk W w.heap.size 51 #[.int .i64 3, .int .i64 0, .int .i64 2]) ((Blk.new _ _ _).alloc _) (fun W h => ?_) rfl ⟨rfl, ((Below.refl _ w).alloc (Nat.le_refl _) _).alloc (by simp) _⟩
    obtain ⟨a0, a1, a2⟩ := h.three
    simp [results, Try.results78, go_sem, a0, a1, a2]
  · have h1 : bits BinOp.and IntKind.i64 6 1 = 0 := by kernel_rfl
    have h2 : bits BinOp.and IntKind.i64 6 2 = 2 := by kernel_rfl
    rw [show placeE 6 = ((1 : Int), (2 : Int), (2 : Int)) by rfl]
    go_enter Try.func78, Try.ntmps78
    go_wp2
    refine ret_at (v := vP ((1 : Int), (2 : Int), (2 : Int))) (fun W => Blk W w.heap.size 51 #[.int .i64 1, .int .i64 2, .int .i64 2]) ((Blk.new _ _ _).alloc _) (fun W h => ?_) rfl ⟨rfl, ((Below.refl _ w).alloc (Nat.le_refl _) _).alloc (by simp) _⟩
    obtain ⟨a0, a1, a2⟩ := h.three
    simp [results, Try.results78, go_sem, a0, a1, a2]
  · have h1 : bits BinOp.and IntKind.i64 7 1 = 1 := by kernel_rfl
    have h2 : bits BinOp.and IntKind.i64 7 2 = 2 := by kernel_rfl
    rw [show placeE 7 = ((3 : Int), (2 : Int), (2 : Int)) by rfl]
    go_enter Try.func78, Try.ntmps78
    go_wp2
    refine ret_at (v := vP ((3 : Int), (2 : Int), (2 : Int))) (fun W => Blk W w.heap.size 51 #[.int .i64 3, .int .i64 2, .int .i64 2]) ((Blk.new _ _ _).alloc _) (fun W h => ?_) rfl ⟨rfl, ((Below.refl _ w).alloc (Nat.le_refl _) _).alloc (by simp) _⟩
    obtain ⟨a0, a1, a2⟩ := h.three
    simp [results, Try.results78, go_sem, a0, a1, a2]
  · have h1 : bits BinOp.and IntKind.i64 0 1 = 0 := by kernel_rfl
    have h2 : bits BinOp.and IntKind.i64 0 2 = 0 := by kernel_rfl
    rw [show placeE 8 = ((0 : Int), (1 : Int), (0 : Int)) by rfl]
    go_enter Try.func78, Try.ntmps78
    go_wp2
    refine ret_at (v := vP ((0 : Int), (1 : Int), (0 : Int))) (fun W => Blk W w.heap.size 51 #[.int .i64 0, .int .i64 1, .int .i64 0]) ((Blk.new _ _ _).alloc _) (fun W h => ?_) rfl ⟨rfl, ((Below.refl _ w).alloc (Nat.le_refl _) _).alloc (by simp) _⟩
    obtain ⟨a0, a1, a2⟩ := h.three
    simp [results, Try.results78, go_sem, a0, a1, a2]
  · have h1 : bits BinOp.and IntKind.i64 1 1 = 1 := by kernel_rfl
    have h2 : bits BinOp.and IntKind.i64 1 2 = 0 := by kernel_rfl
    rw [show placeE 9 = ((2 : Int), (1 : Int), (0 : Int)) by rfl]
    go_enter Try.func78, Try.ntmps78
    go_wp2
    refine ret_at (v := vP ((2 : Int), (1 : Int), (0 : Int))) (fun W => Blk W w.heap.size 51 #[.int .i64 2, .int .i64 1, .int .i64 0]) ((Blk.new _ _ _).alloc _) (fun W h => ?_) rfl ⟨rfl, ((Below.refl _ w).alloc (Nat.le_refl _) _).alloc (by simp) _⟩
    obtain ⟨a0, a1, a2⟩ := h.three
    simp [results, Try.results78, go_sem, a0, a1, a2]
  · have h1 : bits BinOp.and IntKind.i64 2 1 = 0 := by kernel_rfl
    have h2 : bits BinOp.and IntKind.i64 2 2 = 2 := by kernel_rfl
    rw [show placeE 10 = ((0 : Int), (3 : Int), (0 : Int)) by rfl]
    go_enter Try.func78, Try.ntmps78
    go_wp2
    refine ret_at (v := vP ((0 : Int), (3 : Int), (0 : Int))) (fun W => Blk W w.heap.size 51 #[.int .i64 0, .int .i64 3, .int .i64 0]) ((Blk.new _ _ _).alloc _) (fun W h => ?_) rfl ⟨rfl, ((Below.refl _ w).alloc (Nat.le_refl _) _).alloc (by simp) _⟩
    obtain ⟨a0, a1, a2⟩ := h.three
    simp [results, Try.results78, go_sem, a0, a1, a2]
  · have h1 : bits BinOp.and IntKind.i64 3 1 = 1 := by kernel_rfl
    have h2 : bits BinOp.and IntKind.i64 3 2 = 2 := by kernel_rfl
    rw [show placeE 11 = ((2 : Int), (3 : Int), (0 : Int)) by rfl]
    go_enter Try.func78, Try.ntmps78
    go_wp2
    refine ret_at (v := vP ((2 : Int), (3 : Int), (0 : Int))) (fun W => Blk W w.heap.size 51 #[.int .i64 2, .int .i64 3, .int .i64 0]) ((Blk.new _ _ _).alloc _) (fun W h => ?_) rfl ⟨rfl, ((Below.refl _ w).alloc (Nat.le_refl _) _).alloc (by simp) _⟩
    obtain ⟨a0, a1, a2⟩ := h.three
    simp [results, Try.results78, go_sem, a0, a1, a2]
  · have h1 : bits BinOp.and IntKind.i64 4 1 = 0 := by kernel_rfl
    have h2 : bits BinOp.and IntKind.i64 4 2 = 0 := by kernel_rfl
    rw [show placeE 12 = ((0 : Int), (1 : Int), (2 : Int)) by rfl]
    go_enter Try.func78, Try.ntmps78
    go_wp2
    refine ret_at (v := vP ((0 : Int), (1 : Int), (2 : Int))) (fun W => Blk W w.heap.size 51 #[.int .i64 0, .int .i64 1, .int .i64 2]) ((Blk.new _ _ _).alloc _) (fun W h => ?_) rfl ⟨rfl, ((Below.refl _ w).alloc (Nat.le_refl _) _).alloc (by simp) _⟩
    obtain ⟨a0, a1, a2⟩ := h.three
    simp [results, Try.results78, go_sem, a0, a1, a2]
  · have h1 : bits BinOp.and IntKind.i64 5 1 = 1 := by kernel_rfl
    have h2 : bits BinOp.and IntKind.i64 5 2 = 0 := by kernel_rfl
    rw [show placeE 13 = ((2 : Int), (1 : Int), (2 : Int)) by rfl]
    go_enter Try.func78, Try.ntmps78
    go_wp2
    refine ret_at (v := vP ((2 : Int), (1 : Int), (2 : Int))) (fun W => Blk W w.heap.size 51 #[.int .i64 2, .int .i64 1, .int .i64 2]) ((Blk.new _ _ _).alloc _) (fun W h => ?_) rfl ⟨rfl, ((Below.refl _ w).alloc (Nat.le_refl _) _).alloc (by simp) _⟩
    obtain ⟨a0, a1, a2⟩ := h.three
    simp [results, Try.results78, go_sem, a0, a1, a2]
  · have h1 : bits BinOp.and IntKind.i64 6 1 = 0 := by kernel_rfl
    have h2 : bits BinOp.and IntKind.i64 6 2 = 2 := by kernel_rfl
    rw [show placeE 14 = ((0 : Int), (3 : Int), (2 : Int)) by rfl]
    go_enter Try.func78, Try.ntmps78
    go_wp2
    refine ret_at (v := vP ((0 : Int), (3 : Int), (2 : Int))) (fun W => Blk W w.heap.size 51 #[.int .i64 0, .int .i64 3, .int .i64 2]) ((Blk.new _ _ _).alloc _) (fun W h => ?_) rfl ⟨rfl, ((Below.refl _ w).alloc (Nat.le_refl _) _).alloc (by simp) _⟩
    obtain ⟨a0, a1, a2⟩ := h.three
    simp [results, Try.results78, go_sem, a0, a1, a2]
  · have h1 : bits BinOp.and IntKind.i64 7 1 = 1 := by kernel_rfl
    have h2 : bits BinOp.and IntKind.i64 7 2 = 2 := by kernel_rfl
    rw [show placeE 15 = ((2 : Int), (3 : Int), (2 : Int)) by rfl]
    go_enter Try.func78, Try.ntmps78
    go_wp2
    refine ret_at (v := vP ((2 : Int), (3 : Int), (2 : Int))) (fun W => Blk W w.heap.size 51 #[.int .i64 2, .int .i64 3, .int .i64 2]) ((Blk.new _ _ _).alloc _) (fun W h => ?_) rfl ⟨rfl, ((Below.refl _ w).alloc (Nat.le_refl _) _).alloc (by simp) _⟩
    obtain ⟨a0, a1, a2⟩ := h.three
    simp [results, Try.results78, go_sem, a0, a1, a2]
  · have h1 : bits BinOp.and IntKind.i64 0 1 = 0 := by kernel_rfl
    have h2 : bits BinOp.and IntKind.i64 0 2 = 0 := by kernel_rfl
    rw [show placeE 16 = ((0 : Int), (0 : Int), (1 : Int)) by rfl]
    go_enter Try.func78, Try.ntmps78
    go_wp2
    refine ret_at (v := vP ((0 : Int), (0 : Int), (1 : Int))) (fun W => Blk W w.heap.size 51 #[.int .i64 0, .int .i64 0, .int .i64 1]) ((Blk.new _ _ _).alloc _) (fun W h => ?_) rfl ⟨rfl, ((Below.refl _ w).alloc (Nat.le_refl _) _).alloc (by simp) _⟩
    obtain ⟨a0, a1, a2⟩ := h.three
    simp [results, Try.results78, go_sem, a0, a1, a2]
  · have h1 : bits BinOp.and IntKind.i64 1 1 = 1 := by kernel_rfl
    have h2 : bits BinOp.and IntKind.i64 1 2 = 0 := by kernel_rfl
    rw [show placeE 17 = ((2 : Int), (0 : Int), (1 : Int)) by rfl]
    go_enter Try.func78, Try.ntmps78
    go_wp2
    refine ret_at (v := vP ((2 : Int), (0 : Int), (1 : Int))) (fun W => Blk W w.heap.size 51 #[.int .i64 2, .int .i64 0, .int .i64 1]) ((Blk.new _ _ _).alloc _) (fun W h => ?_) rfl ⟨rfl, ((Below.refl _ w).alloc (Nat.le_refl _) _).alloc (by simp) _⟩
    obtain ⟨a0, a1, a2⟩ := h.three
    simp [results, Try.results78, go_sem, a0, a1, a2]
  · have h1 : bits BinOp.and IntKind.i64 2 1 = 0 := by kernel_rfl
    have h2 : bits BinOp.and IntKind.i64 2 2 = 2 := by kernel_rfl
    rw [show placeE 18 = ((0 : Int), (2 : Int), (1 : Int)) by rfl]
    go_enter Try.func78, Try.ntmps78
    go_wp2
    refine ret_at (v := vP ((0 : Int), (2 : Int), (1 : Int))) (fun W => Blk W w.heap.size 51 #[.int .i64 0, .int .i64 2, .int .i64 1]) ((Blk.new _ _ _).alloc _) (fun W h => ?_) rfl ⟨rfl, ((Below.refl _ w).alloc (Nat.le_refl _) _).alloc (by simp) _⟩
    obtain ⟨a0, a1, a2⟩ := h.three
    simp [results, Try.results78, go_sem, a0, a1, a2]
  · have h1 : bits BinOp.and IntKind.i64 3 1 = 1 := by kernel_rfl
    have h2 : bits BinOp.and IntKind.i64 3 2 = 2 := by kernel_rfl
    rw [show placeE 19 = ((2 : Int), (2 : Int), (1 : Int)) by rfl]
    go_enter Try.func78, Try.ntmps78
    go_wp2
    refine ret_at (v := vP ((2 : Int), (2 : Int), (1 : Int))) (fun W => Blk W w.heap.size 51 #[.int .i64 2, .int .i64 2, .int .i64 1]) ((Blk.new _ _ _).alloc _) (fun W h => ?_) rfl ⟨rfl, ((Below.refl _ w).alloc (Nat.le_refl _) _).alloc (by simp) _⟩
    obtain ⟨a0, a1, a2⟩ := h.three
    simp [results, Try.results78, go_sem, a0, a1, a2]
  · have h1 : bits BinOp.and IntKind.i64 4 1 = 0 := by kernel_rfl
    have h2 : bits BinOp.and IntKind.i64 4 2 = 0 := by kernel_rfl
    rw [show placeE 20 = ((0 : Int), (0 : Int), (3 : Int)) by rfl]
    go_enter Try.func78, Try.ntmps78
    go_wp2
    refine ret_at (v := vP ((0 : Int), (0 : Int), (3 : Int))) (fun W => Blk W w.heap.size 51 #[.int .i64 0, .int .i64 0, .int .i64 3]) ((Blk.new _ _ _).alloc _) (fun W h => ?_) rfl ⟨rfl, ((Below.refl _ w).alloc (Nat.le_refl _) _).alloc (by simp) _⟩
    obtain ⟨a0, a1, a2⟩ := h.three
    simp [results, Try.results78, go_sem, a0, a1, a2]
  · have h1 : bits BinOp.and IntKind.i64 5 1 = 1 := by kernel_rfl
    have h2 : bits BinOp.and IntKind.i64 5 2 = 0 := by kernel_rfl
    rw [show placeE 21 = ((2 : Int), (0 : Int), (3 : Int)) by rfl]
    go_enter Try.func78, Try.ntmps78
    go_wp2
    refine ret_at (v := vP ((2 : Int), (0 : Int), (3 : Int))) (fun W => Blk W w.heap.size 51 #[.int .i64 2, .int .i64 0, .int .i64 3]) ((Blk.new _ _ _).alloc _) (fun W h => ?_) rfl ⟨rfl, ((Below.refl _ w).alloc (Nat.le_refl _) _).alloc (by simp) _⟩
    obtain ⟨a0, a1, a2⟩ := h.three
    simp [results, Try.results78, go_sem, a0, a1, a2]
  · have h1 : bits BinOp.and IntKind.i64 6 1 = 0 := by kernel_rfl
    have h2 : bits BinOp.and IntKind.i64 6 2 = 2 := by kernel_rfl
    rw [show placeE 22 = ((0 : Int), (2 : Int), (3 : Int)) by rfl]
    go_enter Try.func78, Try.ntmps78
    go_wp2
    refine ret_at (v := vP ((0 : Int), (2 : Int), (3 : Int))) (fun W => Blk W w.heap.size 51 #[.int .i64 0, .int .i64 2, .int .i64 3]) ((Blk.new _ _ _).alloc _) (fun W h => ?_) rfl ⟨rfl, ((Below.refl _ w).alloc (Nat.le_refl _) _).alloc (by simp) _⟩
    obtain ⟨a0, a1, a2⟩ := h.three
    simp [results, Try.results78, go_sem, a0, a1, a2]
  · have h1 : bits BinOp.and IntKind.i64 7 1 = 1 := by kernel_rfl
    have h2 : bits BinOp.and IntKind.i64 7 2 = 2 := by kernel_rfl
    rw [show placeE 23 = ((2 : Int), (2 : Int), (3 : Int)) by rfl]
    go_enter Try.func78, Try.ntmps78
    go_wp2
    refine ret_at (v := vP ((2 : Int), (2 : Int), (3 : Int))) (fun W => Blk W w.heap.size 51 #[.int .i64 2, .int .i64 2, .int .i64 3]) ((Blk.new _ _ _).alloc _) (fun W h => ?_) rfl ⟨rfl, ((Below.refl _ w).alloc (Nat.le_refl _) _).alloc (by simp) _⟩
    obtain ⟨a0, a1, a2⟩ := h.three
    simp [results, Try.results78, go_sem, a0, a1, a2]
end Go.Proofs.Ytfljcgehhnmamaa
