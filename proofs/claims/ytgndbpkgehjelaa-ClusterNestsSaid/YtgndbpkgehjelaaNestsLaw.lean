/- Blocks of twice the side, and of half a side further: plain facts, no program in sight. -/
import Derived.Test.YtgndbpkgehjelaaMoved
import Derived.Test.YtgndbpkgehjelaaBlk
namespace Go.Proofs.Ytgndbpkgehjelaa
open Go.RowKit
def nearC (n c : Int) : Prop := -n < c ∧ c < n
def nearT (n : Int) (t : Tri) : Prop := (nearC n t.1.1 ∧ nearC n t.1.2.1 ∧ nearC n t.1.2.2) ∧ (nearC n t.2.1.1 ∧ nearC n t.2.1.2.1 ∧ nearC n t.2.1.2.2) ∧ nearC n t.2.2.1 ∧ nearC n t.2.2.2.1 ∧ nearC n t.2.2.2.2
theorem wrap64_id {x : Int} (h1 : -9223372036854775808 ≤ x) (h2 : x ≤ 9223372036854775807) : wrap64 x = x := by unfold wrap64; omega
theorem blockC_double (c : Int) (b : Nat) : blockC c (b + 1) false = blockC c b false / 2 := by
  simp only [blockC, Bool.false_eq_true, false_and, if_false]
  rw [Int.pow_succ, Int.ediv_ediv_of_nonneg (Int.le_of_lt (Int.pow_pos (by omega)))]
theorem blockC_half (c : Int) (b : Nat) : blockC c b true = blockC (c + 2 ^ b / 2) b false := by
  cases b with
  | zero => simp [blockC]
  | succ k =>
    have hk : (0 : Int) < 2 ^ k := Int.pow_pos (by omega)
    have e : (2 : Int) ^ (k + 1) = 2 ^ k * 2 := Int.pow_succ 2 k
    have e2 : (2 : Int) ^ (k + 1) / 2 = 2 ^ k := by omega
    have h1 : c / 2 ^ (k + 1) = c / 2 ^ k / 2 := by rw [e, Int.ediv_ediv_of_nonneg (Int.le_of_lt hk)]
    have h2 : (c + 2 ^ k) / 2 ^ (k + 1) = (c / 2 ^ k + 1) / 2 := by
      rw [e, ← Int.ediv_ediv_of_nonneg (Int.le_of_lt hk), Int.add_ediv_of_dvd_right (Int.dvd_refl _), Int.ediv_self (by omega)]
    simp only [blockC, Bool.false_eq_true, false_and, if_false, true_and]
    rw [if_pos (by omega), e2, Nat.add_sub_cancel, h1, h2]
    omega
theorem anc_movT {n : Int} (t : Tri) (h : Int) (ht : nearT n t) (hn : n ≤ 4611686018427387904) (h0 : 0 ≤ h) (h1 : h ≤ 4611686018427387904) : anc [movT (h, h, h) t] = ((anc [t]).1 + h, (anc [t]).2.1 + h, (anc [t]).2.2 + h) := by
  obtain ⟨⟨⟨a1, a2⟩, ⟨b1, b2⟩, c1, c2⟩, ⟨⟨d1, d2⟩, ⟨e1, e2⟩, f1, f2⟩, ⟨g1, g2⟩, ⟨i1, i2⟩, j1, j2⟩ := ht
  have e1 : movT (h, h, h) t = ((t.1.1 + h, t.1.2.1 + h, t.1.2.2 + h), (t.2.1.1 + h, t.2.1.2.1 + h, t.2.1.2.2 + h), (t.2.2.1 + h, t.2.2.2.1 + h, t.2.2.2.2 + h)) := by
    simp only [movT, movN, movP]
    rw [wrap64_id (by omega) (by omega), wrap64_id (by omega) (by omega), wrap64_id (by omega) (by omega), wrap64_id (by omega) (by omega), wrap64_id (by omega) (by omega), wrap64_id (by omega) (by omega), wrap64_id (by omega) (by omega), wrap64_id (by omega) (by omega), wrap64_id (by omega) (by omega)]
  rw [e1]
  simp only [anc, List.foldl, ancT, ancN, ancP]
  have hx : ∀ a b c : Int, (if c + h < (if b + h < a + h then b + h else a + h) then c + h else if b + h < a + h then b + h else a + h) = (if c < (if b < a then b else a) then c else if b < a then b else a) + h := by
    intro a b c
    repeat' split
    all_goals omega
  have hy : ∀ a : Int, (if a < a then a else a) = a := fun a => by split <;> rfl
  simp only [corner, Nat.reduceEqDiff, Nat.succ_ne_self, if_true, if_false, hy, hx, Nat.zero_ne_one]
theorem nests_laws (t : Tri) (b : Nat) (hb : b < 40) (ht : nearT 1125899906842624 t) :
    blockP [t] (b + 1 : Nat) false = ((blockP [t] b false).1 / 2, (blockP [t] b false).2.1 / 2, (blockP [t] b false).2.2 / 2) ∧
    blockP [t] b true = blockP [movT (2 ^ b / 2, 2 ^ b / 2, 2 ^ b / 2) t] b false ∧ blockP [t] 0 true = blockP [t] 0 false := by
  have h1 : bitsC (b : Int) = b := by unfold bitsC; omega
  have h2 : bitsC ((b + 1 : Nat) : Int) = b + 1 := by unfold bitsC; omega
  have hp : (2 : Int) ^ b ≤ 2 ^ 39 := by
    have : (2 : Nat) ^ b ≤ 2 ^ 39 := Nat.pow_le_pow_right (by omega) (by omega)
    exact_mod_cast this
  have hp0 : (0 : Int) < 2 ^ b := Int.pow_pos (by omega)
  refine ⟨?_, ?_, rfl⟩
  · simp only [blockP, h1, h2, blockC_double]
  · simp only [blockP, h1, anc_movT t (2 ^ b / 2) ht (by omega) (by omega) (by omega), blockC_half]
end Go.Proofs.Ytgndbpkgehjelaa
