/- Bits of numbers: what '&' and '>>' give. No program. -/
import Derived.IntWalk
import Derived.Test.YtelfnmohpjkilaaDoorCB4
namespace Go.Proofs.YtelfnmohpjkilaaDoor
open Go.RowKit
theorem and_one4 (x : Int) : bits .and .i64 x 1 = x % 2 := by
  have e : (BitVec.ofInt IntKind.i64.bits 1) = (1#64) := rfl
  have h : (BitVec.ofInt IntKind.i64.bits x &&& BitVec.ofInt IntKind.i64.bits 1).toNat = (x % 2).toNat := by
    rw [BitVec.toNat_and, e]
    show (BitVec.ofInt 64 x).toNat &&& 1 = _
    rw [BitVec.toNat_ofInt, Nat.and_one_is_mod]
    omega
  show IntKind.i64.wrap ((BitVec.ofInt IntKind.i64.bits x &&& BitVec.ofInt IntKind.i64.bits 1).toNat : Nat) = _
  rw [h]
  have h0 : x % 2 = 0 ∨ x % 2 = 1 := by omega
  rcases h0 with h0 | h0 <;> rw [h0] <;> rfl
theorem bit_and (b n : Nat) : bits .and .i64 ((b : Int) / 2 ^ n) 1 = if b.testBit n = true then 1 else 0 := by
  have e : ((b : Int) / 2 ^ n) = ((b / 2 ^ n : Nat) : Int) := by
    rw [Int.natCast_ediv, Int.natCast_pow]; rfl
  rw [and_one4, e, Nat.testBit_eq_decide_div_mod_eq]
  have h : b / 2 ^ n % 2 = 0 ∨ b / 2 ^ n % 2 = 1 := by omega
  rcases h with h | h
  · rw [h]; simp; omega
  · rw [h]; simp; omega
theorem and_15 (x : Int) : bits .and .i64 x 15 = x % 16 := by
  have e : (BitVec.ofInt IntKind.i64.bits 15) = (15#64) := rfl
  have h : (BitVec.ofInt IntKind.i64.bits x &&& BitVec.ofInt IntKind.i64.bits 15).toNat = (x % 16).toNat := by
    rw [BitVec.toNat_and, e]
    show (BitVec.ofInt 64 x).toNat &&& (2 ^ 4 - 1) = _
    rw [BitVec.toNat_ofInt, Nat.and_two_pow_sub_one_eq_mod]
    omega
  show IntKind.i64.wrap ((BitVec.ofInt IntKind.i64.bits x &&& BitVec.ofInt IntKind.i64.bits 15).toNat : Nat) = _
  rw [h, IntWalk.i64_in _ (by omega)]
  omega
theorem and_27 (x : Nat) : bits .and .u32 (x : Int) 134217727 = ((x % 134217728 : Nat) : Int) := by
  have e : (BitVec.ofInt IntKind.u32.bits 134217727) = (134217727#32) := rfl
  have h : (BitVec.ofInt IntKind.u32.bits x &&& BitVec.ofInt IntKind.u32.bits 134217727).toNat = x % 134217728 := by
    rw [BitVec.toNat_and, e]
    show (BitVec.ofInt 32 x).toNat &&& (2 ^ 27 - 1) = _
    rw [BitVec.toNat_ofInt, Nat.and_two_pow_sub_one_eq_mod]
    omega
  show IntKind.u32.wrap ((BitVec.ofInt IntKind.u32.bits x &&& BitVec.ofInt IntKind.u32.bits 134217727).toNat : Nat) = _
  rw [h, IntKind.wrap_u32]
  omega
end Go.Proofs.YtelfnmohpjkilaaDoor
