/- ref07: at, others, inner, face, coords. -/
import Derived.Test.YtdpgohpbannfnaaCS9K
namespace Go.Proofs.Ytdpgohpbannfnaa
open Go.RowKit Go.Sort Go.WideMaps Go.Maps
theorem mulW8 {a b : Nat} (ha : a ≤ 1000000) (hb : b ≤ 1000) : wrap64 ((a : Int) * (b : Int)) = ((a * b : Nat) : Int) := by
  have h := Nat.mul_le_mul ha hb
  rw [← Int.natCast_mul]
  generalize a * b = c at *
  unfold wrap64
  omega
theorem addW8 {a b : Nat} (ha : a ≤ 1000000000) (hb : b ≤ 1000000) : wrap64 ((a : Int) + (b : Int)) = ((a + b : Nat) : Int) := by unfold wrap64; omega
/-- The index of an edge, step by step. -/
theorem at_nums {s a : Nat} (hs : s ≤ 9) (ha : a ≤ 2) {x y z : Nat} (hx : x < s) (hy : y < s) (hz : z < s) : ∃ p1 p2 p3 p4 p5 j : Nat, wrap64 ((a : Int) * (s : Int)) = (p1 : Int) ∧ wrap64 ((p1 : Int) + (z : Int)) = (p2 : Int) ∧ wrap64 ((p2 : Int) * (s : Int)) = (p3 : Int) ∧ wrap64 ((p3 : Int) + (y : Int)) = (p4 : Int) ∧ wrap64 ((p4 : Int) * (s : Int)) = (p5 : Int) ∧ wrap64 ((p5 : Int) + (x : Int)) = (j : Int) ∧ j = edgN s ((a : Int), (x : Int), (y : Int), (z : Int)) := by
  have h1 : a * s ≤ 18 := Nat.le_trans (Nat.mul_le_mul ha hs) (by omega)
  have h2 : (a * s + z) * s ≤ 27 * 9 := Nat.mul_le_mul (by omega) hs
  have h3 : ((a * s + z) * s + y) * s ≤ 300 * 9 := Nat.mul_le_mul (by omega) hs
  refine ⟨_, _, _, _, _, _, mulW8 (by omega) (by omega), addW8 (by omega) (by omega), mulW8 (by omega) (by omega), addW8 (by omega) (by omega), mulW8 (by omega) (by omega), addW8 (by omega) (by omega), ?_⟩
  unfold edgN vtxN
  simp only [Int.toNat_natCast]
  simp [Nat.add_mul, Nat.mul_assoc, Nat.add_assoc]
set_option maxRecDepth 100000 in
set_option maxHeartbeats 4000000 in
theorem at7r_any {s a x y z : Nat} (hs : s ≤ 9) (ha : a ≤ 2) (hx : x < s) (hy : y < s) (hz : z < s) (w : World) :
    Calls Try.prog 52 #[.int .i64 (s : Int), .int .i64 (a : Int), vP ((x : Int), (y : Int), (z : Int))] w fun e w' => e = .returned (.int .i64 (edgN s ((a : Int), (x : Int), (y : Int), (z : Int)) : Nat)) ∧ Below w.heap.size w w' := by
  obtain ⟨p1, p2, p3, p4, p5, j, w1, w2, w3, w4, w5, w6, hj⟩ := at_nums hs ha hx hy hz
  rw [← hj]
  clear hj
  go_enter Try.func52, Try.ntmps52
  go_upto_region 1 with fail
  obtain ⟨X, hX⟩ : ∃ X, X = w.alloc (.cells #[.int .i64 (x : Int), .int .i64 (y : Int), .int .i64 (z : Int)] 42) := ⟨_, rfl⟩
  rw [← hX]
  have hb : Blk X w.heap.size 42 #[.int .i64 (x : Int), .int .i64 (y : Int), .int .i64 (z : Int)] := by rw [hX]; exact Blk.new _ _ _
  obtain ⟨a0, a1, a2⟩ := hb.three
  have HB := hide (show Below w.heap.size w X by rw [hX]; exact (Below.refl _ w).alloc (Nat.le_refl _) _)
  clear hX hb
  go_wp2_with fail
  go_ret
  exact ⟨by show Ending.returned (.int .i64 (wrap64 ((p5 : Int) + (x : Int)))) = _; rw [w6], HB.out⟩
set_option maxRecDepth 100000 in
theorem others7_any (a : Nat) (ha : a ≤ 2) (w : World) : Calls Try.prog 53 #[.int .i64 (a : Int)] w fun e w' => e = .returned (.tuple #[.int .i64 (((a + 1) % 3 : Nat) : Int), .int .i64 (((a + 2) % 3 : Nat) : Int)]) ∧ w' = w := by
  have hc : a = 0 ∨ a = 1 ∨ a = 2 := by omega
  rcases hc with rfl | rfl | rfl <;> (
    go_enter Try.func53, Try.ntmps53
    go_wp2_with fail
    go_ret2
    exact ⟨rfl, rfl⟩)
set_option maxRecDepth 100000 in
set_option maxHeartbeats 4000000 in
theorem face7r_any (a : Int) (p : Pt) (w : World) : Calls Try.prog 55 #[.int .i64 a, vP p] w fun e w' => e = .returned (vF (a, p)) ∧ Below w.heap.size w w' := by
  obtain ⟨x, y, z⟩ := p
  go_enter Try.func55, Try.ntmps55
  go_upto_region 1 with fail
  obtain ⟨X, hX⟩ : ∃ X, X = (w.alloc (.cells #[.int .i64 x, .int .i64 y, .int .i64 z] 42)).alloc (.cells #[.int .i64 0, .int .i64 0, .int .i64 0, .int .i64 0] 45) := ⟨_, rfl⟩
  rw [← hX]
  have hb : Blk X w.heap.size 42 #[.int .i64 x, .int .i64 y, .int .i64 z] := by rw [hX]; exact (Blk.new _ _ _).alloc _
  have hb2 : Blk X (w.heap.size + 1) 45 #[.int .i64 0, .int .i64 0, .int .i64 0, .int .i64 0] := by rw [hX]; exact Blk.new' _ _ _ _ (by simp)
  obtain ⟨a0, a1, a2⟩ := hb.three
  obtain ⟨b0, b1, b2, b3⟩ := hb2.four
  have f0 := hb2.frozen 0
  have f1 := hb2.frozen 1
  have f2 := hb2.frozen 2
  have f3 := hb2.frozen 3
  have HB := hide (And.intro hb2 (show Below w.heap.size w X by rw [hX]; exact ((Below.refl _ w).alloc (Nat.le_refl _) _).alloc (by simp) _))
  clear hX hb hb2
  go_wp2_with fail
  refine ret_at (v := vF (a, x, y, z)) (fun W => Blk W (w.heap.size + 1) 45 #[.int .i64 a, .int .i64 x, .int .i64 y, .int .i64 z]) ?_ (fun W h => ?_) rfl ⟨rfl, ?_⟩
  · exact (((HB.out.1.set_ 0 _).set_ 1 _).set_ 2 _).set_ 3 _
  · obtain ⟨a0, a1, a2, a3⟩ := h.four
    simp [results, Try.results55, go_sem, a0, a1, a2, a3]
  · exact (((HB.out.2.setCell (by simp) _).setCell (by simp) _).setCell (by simp) _).setCell (by simp) _
set_option maxRecDepth 100000 in
set_option maxHeartbeats 4000000 in
theorem coords7_any (f : EF) (w : World) : Calls Try.prog 57 #[vF f] w fun e w' => e = .returned (vP f.2) ∧ Below w.heap.size w w' := by
  obtain ⟨a, x, y, z⟩ := f
  go_enter Try.func57, Try.ntmps57
  go_upto_region 1 with fail
  obtain ⟨X, hX⟩ : ∃ X, X = (w.alloc (.cells #[.int .i64 a, .int .i64 x, .int .i64 y, .int .i64 z] 45)).alloc (.cells #[.int .i64 0, .int .i64 0, .int .i64 0] 42) := ⟨_, rfl⟩
  rw [← hX]
  have hb : Blk X w.heap.size 45 #[.int .i64 a, .int .i64 x, .int .i64 y, .int .i64 z] := by rw [hX]; exact (Blk.new _ _ _).alloc _
  have hb2 : Blk X (w.heap.size + 1) 42 #[.int .i64 0, .int .i64 0, .int .i64 0] := by rw [hX]; exact Blk.new' _ _ _ _ (by simp)
  obtain ⟨b0, b1, b2, b3⟩ := hb.four
  obtain ⟨a0, a1, a2⟩ := hb2.three
  have f0 := hb2.frozen 0
  have f1 := hb2.frozen 1
  have f2 := hb2.frozen 2
  have HB := hide (And.intro hb2 (show Below w.heap.size w X by rw [hX]; exact ((Below.refl _ w).alloc (Nat.le_refl _) _).alloc (by simp) _))
  clear hX hb hb2
  go_wp2_with fail
  refine ret_at (v := vP (x, y, z)) (fun W => Blk W (w.heap.size + 1) 42 #[.int .i64 x, .int .i64 y, .int .i64 z]) ?_ (fun W h => ?_) rfl ⟨rfl, ?_⟩
  · exact ((HB.out.1.set_ 0 _).set_ 1 _).set_ 2 _
  · obtain ⟨a0, a1, a2⟩ := h.three
    simp [results, Try.results57, go_sem, a0, a1, a2]
  · exact ((HB.out.2.setCell (by simp) _).setCell (by simp) _).setCell (by simp) _
end Go.Proofs.Ytdpgohpbannfnaa
