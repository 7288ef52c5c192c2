/- VoxP BitP. -/
import Derived.WalkKit
import Derived.WalkSpells
import Derived.WalkLawsBesides
import Derived.Laws.OwnMore
import Derived.Deep.AppendLies
import Derived.Deep.Draws
import Derived.IntWalk
import Derived.Test.YtelfnmohpjkilaaGreatDoorQ4
namespace Go.Proofs.YtelfnmohpjkilaaGreatDoor
/-- A corner of a cube. -/
def cor8 (p : Pt) (s : Int) (m : Nat) : Pt := (p.1 + ((m % 2 : Nat) : Int) * s, p.2.1 + ((m / 2 % 2 : Nat) : Int) * s, p.2.2 + ((m / 4 : Nat) : Int) * s)
def cubeP (f : Nat → Pt) : List Tri := sideP f 0 ++ (sideP f 1 ++ (sideP f 2 ++ (sideP f 3 ++ (sideP f 4 ++ sideP f 5))))
/-- The number of a neighbour: side f is -z, +z, -y, +y, -x, +x. -/
def nbrV (n : Nat) : Nat → Option Nat
  | 0 => if n / 9 = 0 then none else some (n - 9)
  | 1 => if n / 9 = 2 then none else some (n + 9)
  | 2 => if n / 3 % 3 = 0 then none else some (n - 3)
  | 3 => if n / 3 % 3 = 2 then none else some (n + 3)
  | 4 => if n % 3 = 0 then none else some (n - 1)
  | _ => if n % 3 = 2 then none else some (n + 1)
def openV (b : Nat → Bool) (n f : Nat) : Bool := match nbrV n f with
  | none => true
  | some m => !b m
def voxC (o : Pt) (s : Int) (n : Nat) : Pt := (o.1 + ((n % 3 : Nat) : Int) * s, o.2.1 + ((n / 3 % 3 : Nat) : Int) * s, o.2.2 + ((n / 9 : Nat) : Int) * s)
def voxN (b : Nat → Bool) (o : Pt) (s : Int) (n : Nat) (k : Nat) : List Tri := (List.range k).flatMap fun f => if openV b n f = true then sideP (cor8 (voxC o s n) s) f else []
def voxM (b : Nat → Bool) (o : Pt) (s : Int) (n : Nat) : List Tri := if b n = true then voxN b o s n 6 else []
def voxL (b : Nat → Bool) (o : Pt) (s : Int) (k : Nat) : List Tri := (List.range k).flatMap (voxM b o s)
/-- The surface. -/
def voxP (b : Nat → Bool) (o : Pt) (s : Int) : List Tri := voxL b o s 27
theorem voxL_succ (b : Nat → Bool) (o : Pt) (s : Int) (k : Nat) : voxL b o s (k + 1) = voxL b o s k ++ voxM b o s k := by
  unfold voxL
  rw [List.range_succ, List.flatMap_append, List.flatMap_cons, List.flatMap_nil, List.append_nil]
theorem voxN_succ (b : Nat → Bool) (o : Pt) (s : Int) (n k : Nat) : voxN b o s n (k + 1) = voxN b o s n k ++ if openV b n k = true then sideP (cor8 (voxC o s n) s) k else [] := by
  unfold voxN
  rw [List.range_succ, List.flatMap_append, List.flatMap_cons, List.flatMap_nil, List.append_nil]
theorem sideP_len (f : Nat → Pt) (k : Nat) : (sideP f k).length = 2 := by
  unfold sideP
  split <;> rfl
theorem voxN_le (b : Nat → Bool) (o : Pt) (s : Int) (n : Nat) : ∀ k, (voxN b o s n k).length ≤ 2 * k
  | 0 => by simp [voxN]
  | k + 1 => by
    rw [voxN_succ, List.length_append]
    have := voxN_le b o s n k
    split
    · rw [sideP_len]; omega
    · simp; omega
theorem voxL_le (b : Nat → Bool) (o : Pt) (s : Int) : ∀ k, (voxL b o s k).length ≤ 12 * k
  | 0 => by simp [voxL]
  | k + 1 => by
    rw [voxL_succ, List.length_append]
    have h1 := voxL_le b o s k
    have h2 := voxN_le b o s k 6
    unfold voxM
    split
    · omega
    · simp; omega
theorem voxP_le (b : Nat → Bool) (o : Pt) (s : Int) : (voxP b o s).length ≤ 324 := voxL_le b o s 27
theorem mem_vox {b : Nat → Bool} {o : Pt} {s : Int} {t : Tri} {k : Nat} (h : t ∈ voxL b o s k) : ∃ n f, n < k ∧ f < 6 ∧ b n = true ∧ openV b n f = true ∧ t ∈ sideP (cor8 (voxC o s n) s) f := by
  obtain ⟨n, hn, ht⟩ := List.mem_flatMap.1 h
  rw [List.mem_range] at hn
  unfold voxM at ht
  split at ht
  · rename_i hb
    obtain ⟨f, hf, hu⟩ := List.mem_flatMap.1 ht
    rw [List.mem_range] at hf
    split at hu
    · rename_i ho
      exact ⟨n, f, hn, hf, hb, ho, hu⟩
    · cases hu
  · cases ht
end Go.Proofs.YtelfnmohpjkilaaGreatDoor
namespace Go.Proofs.YtelfnmohpjkilaaGreatDoor
open Go.RowKit
theorem and_one4 (x : Int) : bits .and .i64 x 1 = x % 2 := by
  have e : (BitVec.ofInt IntKind.i64.bits 1) = (1#64) := rfl
  have h : (BitVec.ofInt IntKind.i64.bits x &&& BitVec.ofInt IntKind.i64.bits 1).toNat = (x % 2).toNat := by
    rw [BitVec.toNat_and, e]
    show (BitVec.ofInt 64 x).toNat &&& 1 = _
    rw [BitVec.toNat_ofInt, Nat.and_one_is_mod]
    omega
  show IntKind.i64.wrap ((BitVec.ofInt IntKind.i64.bits x &&& BitVec.ofInt IntKind.i64.bits 1).toNat : Nat) = _
  rw [h]
  have h0 : x % 2 = 0 ∨ x % 2 = 1 := by omega
  rcases h0 with h0 | h0 <;> rw [h0] <;> rfl
theorem bit_and (b n : Nat) : bits .and .i64 ((b : Int) / 2 ^ n) 1 = if b.testBit n = true then 1 else 0 := by
  have e : ((b : Int) / 2 ^ n) = ((b / 2 ^ n : Nat) : Int) := by
    rw [Int.natCast_ediv, Int.natCast_pow]; rfl
  rw [and_one4, e, Nat.testBit_eq_decide_div_mod_eq]
  have h : b / 2 ^ n % 2 = 0 ∨ b / 2 ^ n % 2 = 1 := by omega
  rcases h with h | h
  · rw [h]; simp; omega
  · rw [h]; simp; omega
theorem and_27 (x : Nat) : bits .and .u32 (x : Int) 134217727 = ((x % 134217728 : Nat) : Int) := by
  have e : (BitVec.ofInt IntKind.u32.bits 134217727) = (134217727#32) := rfl
  have h : (BitVec.ofInt IntKind.u32.bits x &&& BitVec.ofInt IntKind.u32.bits 134217727).toNat = x % 134217728 := by
    rw [BitVec.toNat_and, e]
    show (BitVec.ofInt 32 x).toNat &&& (2 ^ 27 - 1) = _
    rw [BitVec.toNat_ofInt, Nat.and_two_pow_sub_one_eq_mod]
    omega
  show IntKind.u32.wrap ((BitVec.ofInt IntKind.u32.bits x &&& BitVec.ofInt IntKind.u32.bits 134217727).toNat : Nat) = _
  rw [h, IntKind.wrap_u32]
  omega
end Go.Proofs.YtelfnmohpjkilaaGreatDoor
