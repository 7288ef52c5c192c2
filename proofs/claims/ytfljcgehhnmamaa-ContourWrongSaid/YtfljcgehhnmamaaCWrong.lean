/- ContourWrong: the walk. -/
import Derived.Test.YtfljcgehhnmamaaCB29
namespace Go.Proofs.Ytfljcgehhnmamaa
open Go.RowKit Go.Sort
theorem and_bound (x : Int) (k : Nat) (hk : k < 1000) : ∃ n : Nat, bits .and .i64 x k = n ∧ n ≤ k := by
  refine ⟨(BitVec.ofInt IntKind.i64.bits x &&& BitVec.ofInt IntKind.i64.bits k).toNat, ?_, ?_⟩
  · have h : (BitVec.ofInt IntKind.i64.bits x &&& BitVec.ofInt IntKind.i64.bits k).toNat ≤ k := by
      rw [BitVec.toNat_and]
      refine Nat.le_trans Nat.and_le_right ?_
      show (BitVec.ofInt 64 (k : Int)).toNat ≤ k
      rw [BitVec.toNat_ofInt]
      omega
    show IntKind.i64.wrap ((BitVec.ofInt IntKind.i64.bits x &&& BitVec.ofInt IntKind.i64.bits k).toNat : Nat) = _
    rw [IntKind.wrap_i64]
    omega
  · rw [BitVec.toNat_and]
    refine Nat.le_trans Nat.and_le_right ?_
    show (BitVec.ofInt 64 (k : Int)).toNat ≤ k
    rw [BitVec.toNat_ofInt]
    omega
theorem and_bound' (x : Int) (k : Nat) (hk : k < 1000) : ∃ n : Nat, bits .and .i64 k x = n ∧ n ≤ k := by
  refine ⟨(BitVec.ofInt IntKind.i64.bits k &&& BitVec.ofInt IntKind.i64.bits x).toNat, ?_, ?_⟩
  · have h : (BitVec.ofInt IntKind.i64.bits k &&& BitVec.ofInt IntKind.i64.bits x).toNat ≤ k := by
      rw [BitVec.toNat_and]
      refine Nat.le_trans Nat.and_le_left ?_
      show (BitVec.ofInt 64 (k : Int)).toNat ≤ k
      rw [BitVec.toNat_ofInt]
      omega
    show IntKind.i64.wrap ((BitVec.ofInt IntKind.i64.bits k &&& BitVec.ofInt IntKind.i64.bits x).toNat : Nat) = _
    rw [IntKind.wrap_i64]
    omega
  · rw [BitVec.toNat_and]
    refine Nat.le_trans Nat.and_le_left ?_
    show (BitVec.ofInt 64 (k : Int)).toNat ≤ k
    rw [BitVec.toNat_ofInt]
    omega
/-- All inside among the first k. -/
def fillF (n k : Nat) : List Bool := List.replicate k true ++ List.replicate (n - k) false
theorem fillF_len {n k : Nat} (h : k ≤ n) : (fillF n k).length = n := by simp [fillF]; omega
theorem fillF_set {n k : Nat} (h : k < n) : (fillF n k).set k true = fillF n (k + 1) := by
  unfold fillF
  rw [List.set_append_right _ _ (by simp), show n - k = (n - (k + 1)) + 1 by omega, List.replicate_succ]
  simp only [List.length_replicate, Nat.sub_self, List.set_cons_zero]
  rw [List.replicate_succ' (n := k), List.append_assoc]
  rfl
theorem full_bad (L : Int) (n : Nat) : contourP L (List.replicate n true) = [] := by
  unfold contourP
  refine if_neg ?_
  intro h
  unfold validF at h
  simp only [Bool.and_eq_true, decide_eq_true_eq] at h
  obtain ⟨⟨hL, hl⟩, hok⟩ := h
  have hpos : 0 < (List.replicate n true).length := by rw [hl]; exact Nat.mul_pos (Nat.mul_pos (Nat.succ_pos _) (Nat.succ_pos _)) (Nat.succ_pos _)
  have hn : 0 < n := by simpa using hpos
  unfold okF at hok
  have h0 := List.all_eq_true.1 hok 0 (List.mem_range.2 hpos)
  unfold okK at h0
  rw [List.getD_eq_getElem?_getD, List.getElem?_replicate, if_pos hn] at h0
  have h1 := List.all_eq_true.1 (by simpa using h0 : ((List.range 3).all fun j => !badC (2 ^ L.toNat) (compK (2 ^ L.toNat + 1) 0 j)) = true) 0 (List.mem_range.2 (by omega))
  simp [compK, badC] at h1
def centreF : List Bool := (List.replicate 125 false).set 62 true
def bordB (k : Nat) : Bool := k % 5 % 4 == 0 || (k / 5 % 5 % 4 == 0 || k / 25 % 4 == 0)
def lenE (L : Int) (F : List Bool) : Nat := if validF L F = true then (ctrL F (2 ^ L.toNat) ((2 ^ (21 - L.toNat) : Nat) : Int) (2 ^ L.toNat * 2 ^ L.toNat * 2 ^ L.toNat)).length else 0
theorem lenE_eq (L : Int) (F : List Bool) : (contourP L F).length = lenE L F := by
  unfold contourP lenE
  split
  · unfold canonT sortT
    rw [List.length_mergeSort, List.length_map]
  · rfl
set_option maxRecDepth 100000 in
theorem centre_len : lenE 2 centreF = 8 := by decide +kernel
set_option maxRecDepth 100000 in
theorem centre_valid : ((List.range 125).all fun k => validF 2 (centreF.set k true) == !bordB k) = true := by decide +kernel
set_option maxRecDepth 100000 in
theorem centre_cell : ((List.range 125).all fun k => !(cellTs (bitsF (centreF.set k true) 4 21) (cellAt 4 21) 524288).isEmpty) = true := by decide +kernel
theorem centre_bord {k : Nat} (hk : k < 125) : decide ((contourP 2 (centreF.set k true)).length = 0) = bordB k := by
  have hv := List.all_eq_true.1 centre_valid k (List.mem_range.2 hk)
  have hc := List.all_eq_true.1 centre_cell k (List.mem_range.2 hk)
  simp only [beq_iff_eq] at hv
  rw [lenE_eq]
  unfold lenE
  rw [hv]
  cases hb : bordB k
  · simp only [Bool.not_false, if_true]
    refine decide_eq_false fun h => ?_
    have hm : cellTs (bitsF (centreF.set k true) 4 21) (cellAt 4 21) 524288 = [] := by
      have h1 := List.length_eq_zero_iff.1 h
      unfold ctrL at h1
      exact List.flatMap_eq_nil_iff.1 h1 21 (List.mem_range.2 (by decide))
    rw [hm] at hc
    simp at hc
  · simp
end Go.Proofs.Ytfljcgehhnmamaa
