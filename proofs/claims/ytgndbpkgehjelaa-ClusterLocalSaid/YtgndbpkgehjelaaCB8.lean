/- Joined texts: Blk Quo. -/
import Derived.Deep.RegionHeld3
import Derived.Test.YtgndbpkgehjelaaCB4
import Derived.Test.YtgndbpkgehjelaaCB6
/- cluster.block, cluster.Block. -/
namespace Go.Proofs.Ytgndbpkgehjelaa
open Go.RowKit
theorem and_one (x : Int) : bits .and .i64 x 1 = x % 2 := by
  have e : (BitVec.ofInt IntKind.i64.bits 1) = (1#64) := rfl
  have h : (BitVec.ofInt IntKind.i64.bits x &&& BitVec.ofInt IntKind.i64.bits 1).toNat = (x % 2).toNat := by
    rw [BitVec.toNat_and, e]
    show (BitVec.ofInt 64 x).toNat &&& 1 = _
    rw [BitVec.toNat_ofInt, Nat.and_one_is_mod]
    omega
  show IntKind.i64.wrap ((BitVec.ofInt IntKind.i64.bits x &&& BitVec.ofInt IntKind.i64.bits 1).toNat : Nat) = _
  rw [h]
  have h0 : x % 2 = 0 ∨ x % 2 = 1 := by omega
  rcases h0 with h0 | h0 <;> rw [h0] <;> rfl
/-- The block of a coordinate. -/
def blockC (c : Int) (b : Nat) (sh : Bool) : Int := if sh = true ∧ 0 < b then c / 2 ^ b + c / 2 ^ (b - 1) % 2 else c / 2 ^ b
theorem div_pow_bound (c : Int) (b : Nat) (hb : 0 < b) (hc : fits c) : -4611686018427387904 ≤ c / 2 ^ b ∧ c / 2 ^ b ≤ 4611686018427387903 := by
  obtain ⟨k, rfl⟩ : ∃ k, b = k + 1 := ⟨b - 1, by omega⟩
  have hk : (0 : Int) < 2 ^ k := Int.pow_pos (by omega)
  have h1 : (1 : Int) ≤ 2 ^ k := by omega
  have hp : (0 : Int) < 2 ^ (k + 1) := Int.pow_pos (by omega)
  have e : (2 : Int) ^ (k + 1) = 2 ^ k * 2 := Int.pow_succ 2 k
  obtain ⟨h0, h2⟩ := hc
  constructor
  · rw [Int.le_ediv_iff_mul_le hp, e]
    have : (4611686018427387904 : Int) * 2 * 1 ≤ 4611686018427387904 * 2 * 2 ^ k := Int.mul_le_mul_of_nonneg_left h1 (by omega)
    have e2 : (-4611686018427387904 : Int) * (2 ^ k * 2) = -(4611686018427387904 * 2 * 2 ^ k) := by
      rw [Int.mul_comm (2 ^ k) 2, ← Int.mul_assoc, Int.neg_mul, Int.neg_mul]
    omega
  · have : c / 2 ^ (k + 1) < 4611686018427387904 := by
      rw [Int.ediv_lt_iff_lt_mul hp, e]
      have : (4611686018427387904 : Int) * 2 * 1 ≤ 4611686018427387904 * 2 * 2 ^ k := Int.mul_le_mul_of_nonneg_left h1 (by omega)
      have e2 : (4611686018427387904 : Int) * (2 ^ k * 2) = 4611686018427387904 * 2 * 2 ^ k := by
        rw [Int.mul_comm (2 ^ k) 2, ← Int.mul_assoc]
      omega
    omega
theorem block_any (c : Int) (hc : fits c) (b : Nat) (hb : b ≤ 40) (sh : Bool) (w : World) :
    Calls Try.prog 33 #[.int .i64 c, .int .i64 b, .bool sh] w fun e w' => e = .returned (.int .i64 (blockC c b sh)) ∧ w' = w := by
  go_enter Try.func33, Try.ntmps33
  have h64 : (b : Int) < 64 := by omega
  cases sh with
  | false =>
    go_wp2
    go_ret
    exact ⟨by simp [blockC], rfl⟩
  | true =>
    by_cases h0 : 0 < b
    · have h1 : (0 : Int) < (b : Int) := by omega
      have hd := div_pow_bound c b h0 hc
      go_wp2
      go_ret
      refine ⟨?_, rfl⟩
      have : wrap64 (c / 2 ^ b + bits BinOp.and IntKind.i64 (c / 2 ^ (b - 1)) 1) = blockC c b true := by
        rw [and_one]
        unfold blockC
        rw [if_pos ⟨rfl, h0⟩]
        have h2 : c / 2 ^ (b - 1) % 2 = 0 ∨ c / 2 ^ (b - 1) % 2 = 1 := by omega
        unfold wrap64
        omega
      simp [this]
    · have h1 : ¬ (0 : Int) < (b : Int) := by omega
      go_wp2
      go_ret
      exact ⟨by simp [blockC, h0], rfl⟩
theorem block_anyI (c : Int) (hc : fits c) (b : Int) (h0 : 0 ≤ b) (hb : b ≤ 40) (sh : Bool) (w : World) :
    Calls Try.prog 33 #[.int .i64 c, .int .i64 b, .bool sh] w fun e w' => e = .returned (.int .i64 (blockC c b.toNat sh)) ∧ w' = w := by
  obtain ⟨m, rfl⟩ : ∃ m : Nat, b = m := ⟨b.toNat, by omega⟩
  exact block_any c hc m (by omega) sh w
def bitsC (b : Int) : Nat := (min (max b 0) 40).toNat
def blockP (ts : List Tri) (b : Int) (sh : Bool) : Pt := let a := anc ts; (blockC a.1 (bitsC b) sh, blockC a.2.1 (bitsC b) sh, blockC a.2.2 (bitsC b) sh)
set_option maxHeartbeats 2000000 in
theorem Block_any (A : Option Addr) (c : Nat) (ts : List Tri) (b : Int) (sh : Bool) (w : World) (hs : Sl encT 9 w w.heap.size A ts) (hl : ts.length ≤ maxLen)
    (hf : fits (anc ts).1 ∧ fits (anc ts).2.1 ∧ fits (anc ts).2.2) :
    Calls Try.prog 14 #[.slice A ts.length c, .int .i64 b, .bool sh] w fun e w' => e = .returned (vP (blockP ts b sh)) ∧ Below w.heap.size w w' := by
  go_enter Try.func14, Try.ntmps14
  have hsW : Sl encT 9 (w.alloc (.cells #[.int .i64 0, .int .i64 0, .int .i64 0] 23)) (w.alloc (.cells #[.int .i64 0, .int .i64 0, .int .i64 0] 23)).heap.size A ts := (hs.below ((Below.refl _ w).alloc (Nat.le_refl _) _)).more (by simp)
  have HS := hide hsW
  clear hs hsW
  have hcase : b < 0 ∧ bitsC b = 0 ∨ (0 ≤ b ∧ b ≤ 40) ∧ bitsC b = b.toNat ∨ 40 < b ∧ bitsC b = 40 := by unfold bitsC; omega
  rcases hcase with ⟨hb, hbc⟩ | ⟨⟨hb, hb2⟩, hbc⟩ | ⟨hb, hbc⟩
  · skip
    go_wp2_with fail
    refine (anchor_any A c ts _ HS.out hl).mono ?_
    rintro e w1 ⟨rfl, hB1⟩
    go_wp2_with fail
    have hb0 : Blk w1 w.heap.size 23 #[.int .i64 0, .int .i64 0, .int .i64 0] := (Blk.new w _ _).below hB1 (by simp)
    have hsz1 : w.heap.size + 1 ≤ w1.heap.size := by have := hB1.size; simp at this; exact this
    have HB := hide (And.intro hB1 hb0)
    clear hB1 hb0
    obtain ⟨W, hW⟩ : ∃ W, W = w1.alloc (.cells #[.int .i64 (anc ts).1, .int .i64 (anc ts).2.1, .int .i64 (anc ts).2.2] 23) := ⟨_, rfl⟩
    have hbA : Blk W w1.heap.size 23 #[.int .i64 (anc ts).1, .int .i64 (anc ts).2.1, .int .i64 (anc ts).2.2] := by rw [hW]; exact Blk.new _ _ _
    have hbR : Blk W w.heap.size 23 #[.int .i64 0, .int .i64 0, .int .i64 0] := by rw [hW]; exact HB.out.2.alloc _
    have hBW : Below w.heap.size w W := by
      rw [hW]
      exact (((Below.refl _ w).alloc (Nat.le_refl _) _).trans (HB.out.1.mono (by simp))).alloc (by omega) _
    rw [← hW]
    have c0 := hbA.cell 0
    have c1 := hbA.cell 1
    have c2 := hbA.cell 2
    have r0 := hbR.cell 0
    have r1 := hbR.cell 1
    have r2 := hbR.cell 2
    have f0 := hbR.frozen 0
    have f1 := hbR.frozen 1
    have f2 := hbR.frozen 2
    simp only [List.getElem?_toArray, List.getElem?_cons_zero, List.getElem?_cons_succ] at c0 c1 c2 r0 r1 r2
    have HW := hide (And.intro hW (And.intro hbR hBW))
    have HF := hide hf
    have hne : w1.heap.size ≠ w.heap.size := by omega
    have hne2 : w.heap.size ≠ w1.heap.size := by omega
    clear hW hbA hbR hBW
    go_region_held3 (fun w' => w'.cell? ⟨w1.heap.size, 0, none⟩ = some (.int .i64 (anc ts).1) ∧ w'.cell? ⟨w1.heap.size, 1, none⟩ = some (.int .i64 (anc ts).2.1) ∧ w'.cell? ⟨w1.heap.size, 2, none⟩ = some (.int .i64 (anc ts).2.2)) (go_keep) (first | (go_at_call 33; refine (block_anyI _ (by first | exact HF.out.1 | exact HF.out.2.1 | exact HF.out.2.2) _ (by omega) (by omega) _ _).mono ?_; rintro e w' ⟨rfl, rfl⟩))
    have hR := (HW.out.2.1.set3 (.int .i64 (blockC (anc ts).1 0 sh)) (.int .i64 (blockC (anc ts).2.1 0 sh)) (.int .i64 (blockC (anc ts).2.2 0 sh))).drew
    have hBV : Below w.heap.size w (((W.setCell ⟨w.heap.size, 0, none⟩ (.int .i64 (blockC (anc ts).1 0 sh))).setCell ⟨w.heap.size, 1, none⟩ (.int .i64 (blockC (anc ts).2.1 0 sh))).setCell ⟨w.heap.size, 2, none⟩ (.int .i64 (blockC (anc ts).2.2 0 sh))).drew := (((HW.out.2.2.setCell (by simp) _).setCell (by simp) _).setCell (by simp) _).drew
    generalize (((W.setCell ⟨w.heap.size, 0, none⟩ (.int .i64 (blockC (anc ts).1 0 sh))).setCell ⟨w.heap.size, 1, none⟩ (.int .i64 (blockC (anc ts).2.1 0 sh))).setCell ⟨w.heap.size, 2, none⟩ (.int .i64 (blockC (anc ts).2.2 0 sh))).drew = V at hR hBV ⊢
    have s0 := hR.cell 0
    have s1 := hR.cell 1
    have s2 := hR.cell 2
    simp only [List.getElem?_toArray, List.getElem?_cons_zero, List.getElem?_cons_succ] at s0 s1 s2
    go_wp2
    refine bodyPost_ret (v := vP (blockP ts b sh)) (by simp only [blockP, hbc]; simp [results, Try.results14, go_sem, s0, s1, s2]) rfl ⟨rfl, hBV⟩
  · skip
    go_wp2_with fail
    refine (anchor_any A c ts _ HS.out hl).mono ?_
    rintro e w1 ⟨rfl, hB1⟩
    go_wp2_with fail
    have hb0 : Blk w1 w.heap.size 23 #[.int .i64 0, .int .i64 0, .int .i64 0] := (Blk.new w _ _).below hB1 (by simp)
    have hsz1 : w.heap.size + 1 ≤ w1.heap.size := by have := hB1.size; simp at this; exact this
    have HB := hide (And.intro hB1 hb0)
    clear hB1 hb0
    obtain ⟨W, hW⟩ : ∃ W, W = w1.alloc (.cells #[.int .i64 (anc ts).1, .int .i64 (anc ts).2.1, .int .i64 (anc ts).2.2] 23) := ⟨_, rfl⟩
    have hbA : Blk W w1.heap.size 23 #[.int .i64 (anc ts).1, .int .i64 (anc ts).2.1, .int .i64 (anc ts).2.2] := by rw [hW]; exact Blk.new _ _ _
    have hbR : Blk W w.heap.size 23 #[.int .i64 0, .int .i64 0, .int .i64 0] := by rw [hW]; exact HB.out.2.alloc _
    have hBW : Below w.heap.size w W := by
      rw [hW]
      exact (((Below.refl _ w).alloc (Nat.le_refl _) _).trans (HB.out.1.mono (by simp))).alloc (by omega) _
    rw [← hW]
    have c0 := hbA.cell 0
    have c1 := hbA.cell 1
    have c2 := hbA.cell 2
    have r0 := hbR.cell 0
    have r1 := hbR.cell 1
    have r2 := hbR.cell 2
    have f0 := hbR.frozen 0
    have f1 := hbR.frozen 1
    have f2 := hbR.frozen 2
    simp only [List.getElem?_toArray, List.getElem?_cons_zero, List.getElem?_cons_succ] at c0 c1 c2 r0 r1 r2
    have HW := hide (And.intro hW (And.intro hbR hBW))
    have HF := hide hf
    have hne : w1.heap.size ≠ w.heap.size := by omega
    have hne2 : w.heap.size ≠ w1.heap.size := by omega
    clear hW hbA hbR hBW
    go_region_held3 (fun w' => w'.cell? ⟨w1.heap.size, 0, none⟩ = some (.int .i64 (anc ts).1) ∧ w'.cell? ⟨w1.heap.size, 1, none⟩ = some (.int .i64 (anc ts).2.1) ∧ w'.cell? ⟨w1.heap.size, 2, none⟩ = some (.int .i64 (anc ts).2.2)) (go_keep) (first | (go_at_call 33; refine (block_anyI _ (by first | exact HF.out.1 | exact HF.out.2.1 | exact HF.out.2.2) _ (by omega) (by omega) _ _).mono ?_; rintro e w' ⟨rfl, rfl⟩))
    have hR := (HW.out.2.1.set3 (.int .i64 (blockC (anc ts).1 b.toNat sh)) (.int .i64 (blockC (anc ts).2.1 b.toNat sh)) (.int .i64 (blockC (anc ts).2.2 b.toNat sh))).drew
    have hBV : Below w.heap.size w (((W.setCell ⟨w.heap.size, 0, none⟩ (.int .i64 (blockC (anc ts).1 b.toNat sh))).setCell ⟨w.heap.size, 1, none⟩ (.int .i64 (blockC (anc ts).2.1 b.toNat sh))).setCell ⟨w.heap.size, 2, none⟩ (.int .i64 (blockC (anc ts).2.2 b.toNat sh))).drew := (((HW.out.2.2.setCell (by simp) _).setCell (by simp) _).setCell (by simp) _).drew
    generalize (((W.setCell ⟨w.heap.size, 0, none⟩ (.int .i64 (blockC (anc ts).1 b.toNat sh))).setCell ⟨w.heap.size, 1, none⟩ (.int .i64 (blockC (anc ts).2.1 b.toNat sh))).setCell ⟨w.heap.size, 2, none⟩ (.int .i64 (blockC (anc ts).2.2 b.toNat sh))).drew = V at hR hBV ⊢
    have s0 := hR.cell 0
    have s1 := hR.cell 1
    have s2 := hR.cell 2
    simp only [List.getElem?_toArray, List.getElem?_cons_zero, List.getElem?_cons_succ] at s0 s1 s2
    go_wp2
    refine bodyPost_ret (v := vP (blockP ts b sh)) (by simp only [blockP, hbc]; simp [results, Try.results14, go_sem, s0, s1, s2]) rfl ⟨rfl, hBV⟩
  · have hb3 : 0 ≤ b := by omega
    go_wp2_with fail
    refine (anchor_any A c ts _ HS.out hl).mono ?_
    rintro e w1 ⟨rfl, hB1⟩
    go_wp2_with fail
    have hb0 : Blk w1 w.heap.size 23 #[.int .i64 0, .int .i64 0, .int .i64 0] := (Blk.new w _ _).below hB1 (by simp)
    have hsz1 : w.heap.size + 1 ≤ w1.heap.size := by have := hB1.size; simp at this; exact this
    have HB := hide (And.intro hB1 hb0)
    clear hB1 hb0
    obtain ⟨W, hW⟩ : ∃ W, W = w1.alloc (.cells #[.int .i64 (anc ts).1, .int .i64 (anc ts).2.1, .int .i64 (anc ts).2.2] 23) := ⟨_, rfl⟩
    have hbA : Blk W w1.heap.size 23 #[.int .i64 (anc ts).1, .int .i64 (anc ts).2.1, .int .i64 (anc ts).2.2] := by rw [hW]; exact Blk.new _ _ _
    have hbR : Blk W w.heap.size 23 #[.int .i64 0, .int .i64 0, .int .i64 0] := by rw [hW]; exact HB.out.2.alloc _
    have hBW : Below w.heap.size w W := by
      rw [hW]
      exact (((Below.refl _ w).alloc (Nat.le_refl _) _).trans (HB.out.1.mono (by simp))).alloc (by omega) _
    rw [← hW]
    have c0 := hbA.cell 0
    have c1 := hbA.cell 1
    have c2 := hbA.cell 2
    have r0 := hbR.cell 0
    have r1 := hbR.cell 1
    have r2 := hbR.cell 2
    have f0 := hbR.frozen 0
    have f1 := hbR.frozen 1
    have f2 := hbR.frozen 2
    simp only [List.getElem?_toArray, List.getElem?_cons_zero, List.getElem?_cons_succ] at c0 c1 c2 r0 r1 r2
    have HW := hide (And.intro hW (And.intro hbR hBW))
    have HF := hide hf
    have hne : w1.heap.size ≠ w.heap.size := by omega
    have hne2 : w.heap.size ≠ w1.heap.size := by omega
    clear hW hbA hbR hBW
    go_region_held3 (fun w' => w'.cell? ⟨w1.heap.size, 0, none⟩ = some (.int .i64 (anc ts).1) ∧ w'.cell? ⟨w1.heap.size, 1, none⟩ = some (.int .i64 (anc ts).2.1) ∧ w'.cell? ⟨w1.heap.size, 2, none⟩ = some (.int .i64 (anc ts).2.2)) (go_keep) (first | (go_at_call 33; refine (block_anyI _ (by first | exact HF.out.1 | exact HF.out.2.1 | exact HF.out.2.2) _ (by omega) (by omega) _ _).mono ?_; rintro e w' ⟨rfl, rfl⟩))
    have hR := (HW.out.2.1.set3 (.int .i64 (blockC (anc ts).1 40 sh)) (.int .i64 (blockC (anc ts).2.1 40 sh)) (.int .i64 (blockC (anc ts).2.2 40 sh))).drew
    have hBV : Below w.heap.size w (((W.setCell ⟨w.heap.size, 0, none⟩ (.int .i64 (blockC (anc ts).1 40 sh))).setCell ⟨w.heap.size, 1, none⟩ (.int .i64 (blockC (anc ts).2.1 40 sh))).setCell ⟨w.heap.size, 2, none⟩ (.int .i64 (blockC (anc ts).2.2 40 sh))).drew := (((HW.out.2.2.setCell (by simp) _).setCell (by simp) _).setCell (by simp) _).drew
    generalize (((W.setCell ⟨w.heap.size, 0, none⟩ (.int .i64 (blockC (anc ts).1 40 sh))).setCell ⟨w.heap.size, 1, none⟩ (.int .i64 (blockC (anc ts).2.1 40 sh))).setCell ⟨w.heap.size, 2, none⟩ (.int .i64 (blockC (anc ts).2.2 40 sh))).drew = V at hR hBV ⊢
    have s0 := hR.cell 0
    have s1 := hR.cell 1
    have s2 := hR.cell 2
    simp only [List.getElem?_toArray, List.getElem?_cons_zero, List.getElem?_cons_succ] at s0 s1 s2
    go_wp2
    refine bodyPost_ret (v := vP (blockP ts b sh)) (by simp only [blockP, hbc]; simp [results, Try.results14, go_sem, s0, s1, s2]) rfl ⟨rfl, hBV⟩
end Go.Proofs.Ytgndbpkgehjelaa
/- ref13.quotient, ref13.block. -/
namespace Go.Proofs.Ytgndbpkgehjelaa
open Go.RowKit
theorem fits_divQ (c : Int) (k : Nat) (hc : fits c) : fits (c / 2 ^ k) := by
  rcases Nat.eq_zero_or_pos k with h | h
  · subst h; simpa using hc
  · have := div_pow_bound c k h hc
    unfold fits; omega
theorem tmod2 (x : Int) : x.tmod 2 = 0 ∧ x % 2 = 0 ∨ x.tmod 2 = 1 ∧ x % 2 = 1 ∨ x.tmod 2 = -1 ∧ x % 2 = 1 := by
  have h1 := tmod_bound x 2 (by omega)
  have h2 := Int.tmod_def x 2
  omega
theorem tdiv2_even (x : Int) (h : x % 2 = 0) : x.tdiv 2 = x / 2 := by
  have h1 := tmod_bound x 2 (by omega)
  have h2 := Int.tmod_def x 2
  omega
theorem quotient_any (c : Int) (hc : fits c) (b : Nat) (hb : b ≤ 64) (w : World) :
    Calls Try.prog 45 #[.int .i64 c, .int .i64 b] w fun e w' => e = .returned (.int .i64 (c / 2 ^ b)) ∧ w' = w := by
  go_enter Try.func45, Try.ntmps45
  go_wp2
  go_loopw [0, 5] (fun v i wr => ∃ k : Nat, k ≤ b ∧ i = .int .i64 k ∧ v = .int .i64 (c / 2 ^ k) ∧ wr = w) (fun _ i _ => b - (intOf i).toNat)
  case atStart => exact ⟨0, Nat.zero_le _, rfl, by simp, rfl⟩
  case round =>
    obtain ⟨k, hk, rfl, rfl, rfl⟩ := hrel
    by_cases hlt : k < b
    · have i1 : (k : Int) < (b : Int) := by omega
      have hf := fits_divQ c k hc
      have hnext : c / 2 ^ (k + 1) = c / 2 ^ k / 2 := by
        rw [Int.pow_succ, Int.ediv_ediv_of_nonneg (Int.le_of_lt (Int.pow_pos (by omega)))]
      obtain ⟨x, hx⟩ : ∃ x, x = c / 2 ^ k := ⟨_, rfl⟩
      rw [← hx] at hf hnext ⊢
      obtain ⟨f1, f2⟩ := hf
      have hwx : wrap64 x = x := by unfold wrap64; omega
      have HX := hide (And.intro hx hnext)
      clear hx hnext
      rcases tmod2 x with ⟨h1, h2⟩ | ⟨h1, h2⟩ | ⟨h1, h2⟩
      · have hq : x.tdiv 2 = x / 2 := tdiv2_even x h2
        have hq2 : wrap64 (x / 2) = x / 2 := by unfold wrap64; omega
        go_wp2
        go_roundw
        case rel => exact ⟨k + 1, by omega, by go_num, by rw [HX.out.2], trivial⟩
        case measure => simp [intOf]; omega
      · have hw1 : wrap64 (x - 1) = x - 1 := by unfold wrap64; omega
        have hq : (x - 1).tdiv 2 = x / 2 := by rw [tdiv2_even (x - 1) (by omega)]; omega
        have hq2 : wrap64 (x / 2) = x / 2 := by unfold wrap64; omega
        go_wp2
        go_roundw
        case rel => exact ⟨k + 1, by omega, by go_num, by rw [HX.out.2], trivial⟩
        case measure => simp [intOf]; omega
      · have hw1 : wrap64 (x - 1) = x - 1 := by
          have : x ≠ -9223372036854775808 := fun e => by rw [e] at h2; omega
          unfold wrap64; omega
        have hq : (x - 1).tdiv 2 = x / 2 := by rw [tdiv2_even (x - 1) (by omega)]; omega
        have hq2 : wrap64 (x / 2) = x / 2 := by unfold wrap64; omega
        go_wp2
        go_roundw
        case rel => exact ⟨k + 1, by omega, by go_num, by rw [HX.out.2], trivial⟩
        case measure => simp [intOf]; omega
    · have hke : k = b := by omega
      subst hke
      go_wp2
      go_ret
      exact ⟨rfl, rfl⟩
theorem quotient_anyI (c : Int) (hc : fits c) (b : Int) (h0 : 0 ≤ b) (hb : b ≤ 64) (w : World) :
    Calls Try.prog 45 #[.int .i64 c, .int .i64 b] w fun e w' => e = .returned (.int .i64 (c / 2 ^ b.toNat)) ∧ w' = w := by
  obtain ⟨m, rfl⟩ : ∃ m : Nat, b = m := ⟨b.toNat, by omega⟩
  exact quotient_any c hc m (by omega) w
theorem block13_any (c : Int) (hc : fits c) (b : Int) (h0 : 0 ≤ b) (hb : b ≤ 40) (sh : Bool) (w : World) :
    Calls Try.prog 34 #[.int .i64 c, .int .i64 b, .bool sh] w fun e w' => e = .returned (.int .i64 (blockC c b.toNat sh)) ∧ w' = w := by
  go_enter Try.func34, Try.ntmps34
  cases sh with
  | false =>
    go_wp2_with fail
    refine (quotient_anyI c hc b h0 (by omega) _).mono ?_
    rintro e w1 ⟨rfl, rfl⟩
    go_wp2
    go_ret
    exact ⟨by simp [blockC], rfl⟩
  | true =>
    by_cases hz : b = 0
    · subst hz
      go_wp2_with fail
      refine (quotient_anyI c hc 0 (by omega) (by omega) _).mono ?_
      rintro e w1 ⟨rfl, rfl⟩
      go_wp2
      go_ret
      exact ⟨by simp [blockC], rfl⟩
    · have hbeq : (b == 0) = false := by simp [hz]
      have hw : wrap64 (b - 1) = b - 1 := by unfold wrap64; omega
      have hf := fits_divQ c (b - 1).toNat hc
      go_wp2_with fail
      refine (quotient_anyI c hc (b - 1) (by omega) (by omega) _).mono ?_
      rintro e w1 ⟨rfl, rfl⟩
      have hval : blockC c b.toNat true = c / 2 ^ (b - 1).toNat / 2 + c / 2 ^ (b - 1).toNat % 2 := by
        have e1 : b.toNat = (b - 1).toNat + 1 := by omega
        unfold blockC
        rw [if_pos ⟨rfl, by omega⟩, e1, Nat.add_sub_cancel, Int.pow_succ, Int.ediv_ediv_of_nonneg (Int.le_of_lt (Int.pow_pos (by omega)))]
      obtain ⟨x, hx⟩ : ∃ x, x = c / 2 ^ (b - 1).toNat := ⟨_, rfl⟩
      rw [← hx] at hf hval ⊢
      have HX := hide (And.intro hx hval)
      clear hx hval
      obtain ⟨f1, f2⟩ := hf
      rcases tmod2 x with ⟨h1, h2⟩ | ⟨h1, h2⟩ | ⟨h1, h2⟩
      · have hq : x.tdiv 2 = x / 2 := tdiv2_even x h2
        have hq2 : wrap64 (x / 2) = x / 2 := by unfold wrap64; omega
        go_wp2
        go_ret
        refine ⟨?_, rfl⟩
        rw [HX.out.2, h2, Int.add_zero]
        rfl
      · go_wp2_with fail
        refine (quotient_anyI x ⟨f1, f2⟩ 1 (by omega) (by omega) _).mono ?_
        rintro e w1 ⟨rfl, rfl⟩
        have hq : wrap64 (x / 2 ^ (1 : Int).toNat + 1) = x / 2 + 1 := by
          show wrap64 (x / 2 ^ 1 + 1) = _
          rw [Int.pow_one]
          unfold wrap64; omega
        go_wp2
        go_ret
        refine ⟨?_, rfl⟩
        rw [HX.out.2, h2]
        rfl
      · go_wp2_with fail
        refine (quotient_anyI x ⟨f1, f2⟩ 1 (by omega) (by omega) _).mono ?_
        rintro e w1 ⟨rfl, rfl⟩
        have hq : wrap64 (x / 2 ^ (1 : Int).toNat + 1) = x / 2 + 1 := by
          show wrap64 (x / 2 ^ 1 + 1) = _
          rw [Int.pow_one]
          unfold wrap64; omega
        go_wp2
        go_ret
        refine ⟨?_, rfl⟩
        rw [HX.out.2, h2]
        rfl
end Go.Proofs.Ytgndbpkgehjelaa
