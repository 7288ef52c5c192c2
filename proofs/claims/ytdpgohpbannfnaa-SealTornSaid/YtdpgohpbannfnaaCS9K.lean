/- Layer 7: numbers of a grid, step by step, as the walks want them. -/
import Derived.Test.YtdpgohpbannfnaaCB2
import Derived.Test.YtdpgohpbannfnaaCS9A
namespace Go.Proofs.Ytdpgohpbannfnaa
open Go.RowKit Go.Sort Go.WideMaps Go.Maps
theorem lev_nums3 {L : Nat} (h1 : 1 ≤ L) (h3 : L ≤ 3) : ∃ n s q m : Nat, n = 2 ^ L ∧ s = n + 1 ∧ m = s * s * s ∧ (3 ≤ s ∧ s ≤ 9 ∧ m ≤ 729) ∧ wrap64 ((s : Int) * (s : Int)) = (q : Int) ∧ wrap64 ((q : Int) * (s : Int)) = (m : Int) := by
  have hc : L = 1 ∨ L = 2 ∨ L = 3 := by omega
  rcases hc with rfl | rfl | rfl
  · exact ⟨2, 3, 9, 27, rfl, rfl, rfl, by omega, mulW7 (by omega) (by omega), mulW7 (by omega) (by omega)⟩
  · exact ⟨4, 5, 25, 125, rfl, rfl, rfl, by omega, mulW7 (by omega) (by omega), mulW7 (by omega) (by omega)⟩
  · exact ⟨8, 9, 81, 729, rfl, rfl, rfl, by omega, mulW7 (by omega) (by omega), mulW7 (by omega) (by omega)⟩
theorem addW7 {a b : Nat} (ha : a ≤ 2000) (hb : b ≤ 2000) : wrap64 ((a : Int) + (b : Int)) = ((a + b : Nat) : Int) := by unfold wrap64; omega
/-- The index of a cell, step by step. -/
theorem idx_nums {s : Nat} (hs : s ≤ 9) {x y z : Nat} (hx : x < s) (hy : y < s) (hz : z < s) : ∃ p1 p2 p3 j : Nat, wrap64 ((z : Int) * (s : Int)) = (p1 : Int) ∧ wrap64 ((p1 : Int) + (y : Int)) = (p2 : Int) ∧ wrap64 ((p2 : Int) * (s : Int)) = (p3 : Int) ∧ wrap64 ((p3 : Int) + (x : Int)) = (j : Int) ∧ j = vtxN s ((x : Int), (y : Int), (z : Int)) ∧ j < s * s * s := by
  have h := (num_parts hx hy hz).2.2.2
  have h1 : z * s ≤ 81 := Nat.le_trans (Nat.mul_le_mul (by omega : z ≤ 9) hs) (by omega)
  have h2 : (z * s + y) * s ≤ 90 * 9 := Nat.mul_le_mul (by omega) hs
  refine ⟨z * s, z * s + y, (z * s + y) * s, (z * s + y) * s + x, mulW7 (by omega) (by omega), addW7 (by omega) (by omega), mulW7 (by omega) (by omega), addW7 (by omega) (by omega), ?_, h⟩
  unfold vtxN
  simp
theorem rngN {s x y z : Nat} (hx : x < s) (hy : y < s) (hz : z < s) : rngP s ((x : Int), (y : Int), (z : Int)) := by unfold rngP; dsimp only; omega
/-- A vertex's coordinates out of its number, step by step. -/
theorem vtx_nums {s k : Nat} (hs0 : 0 < s) (hs9 : s ≤ 1000) (hk : k < s * s * s) : ∃ kx kq ky kz : Nat, (kx = k % s ∧ ky = k / s % s ∧ kz = k / s / s ∧ kq = k / s) ∧ Int.tmod (k : Int) (s : Int) = (kx : Int) ∧ Int.tdiv (k : Int) (s : Int) = (kq : Int) ∧ Int.tmod (kq : Int) (s : Int) = (ky : Int) ∧ Int.tdiv (kq : Int) (s : Int) = (kz : Int) ∧ (kx < s ∧ ky < s ∧ kz < s ∧ kq ≤ k) ∧
    IntKind.i64.wrap (kx : Int) = (kx : Int) ∧ IntKind.i64.wrap (kq : Int) = (kq : Int) ∧ IntKind.i64.wrap (ky : Int) = (ky : Int) ∧ IntKind.i64.wrap (kz : Int) = (kz : Int) := by
  have hb : k < 1000 * 1000 * 1000 := Nat.lt_of_lt_of_le hk (Nat.mul_le_mul (Nat.mul_le_mul hs9 hs9) hs9)
  have bx : k % s < s := Nat.mod_lt _ hs0
  have bq : k / s ≤ k := Nat.div_le_self _ _
  have by' : k / s % s < s := Nat.mod_lt _ hs0
  have bz : k / s / s ≤ k / s := Nat.div_le_self _ _
  have bzs : k / s / s < s := (Nat.div_lt_iff_lt_mul hs0).2 ((Nat.div_lt_iff_lt_mul hs0).2 hk)
  have t0 : Int.tmod (k : Int) (s : Int) = ((k % s : Nat) : Int) := by rw [Int.tmod_eq_emod_of_nonneg (by omega)]; rfl
  have t1 : Int.tdiv (k : Int) (s : Int) = ((k / s : Nat) : Int) := by rw [Int.tdiv_eq_ediv_of_nonneg (by omega)]; rfl
  have t2 : Int.tmod ((k / s : Nat) : Int) (s : Int) = ((k / s % s : Nat) : Int) := by rw [Int.tmod_eq_emod_of_nonneg (Int.natCast_nonneg _)]; rfl
  have t3 : Int.tdiv ((k / s : Nat) : Int) (s : Int) = ((k / s / s : Nat) : Int) := by rw [Int.tdiv_eq_ediv_of_nonneg (Int.natCast_nonneg _)]; rfl
  refine ⟨k % s, k / s, k / s % s, k / s / s, ⟨rfl, rfl, rfl, rfl⟩, t0, t1, t2, t3, ⟨bx, by', bzs, bq⟩, IntWalk.i64_in _ ?_, IntWalk.i64_in _ ?_, IntWalk.i64_in _ ?_, IntWalk.i64_in _ ?_⟩ <;> (generalize k % s = a at *; generalize k / s / s = b at *; generalize k / s % s = c at *; generalize k / s = d at *; omega)
end Go.Proofs.Ytdpgohpbannfnaa
