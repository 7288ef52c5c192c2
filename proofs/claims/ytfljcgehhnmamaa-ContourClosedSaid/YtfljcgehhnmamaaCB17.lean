/- Joined texts: Opn. -/
import Derived.Deep.QuietTactic
import Derived.BigQuiet
import Derived.IntWalk
import Derived.Test.YtfljcgehhnmamaaCB3
import Derived.Test.YtfljcgehhnmamaaCB13
/- contour.open. -/
namespace Go.Proofs.Ytfljcgehhnmamaa
open Go.RowKit
def badC (n c : Nat) : Bool := c == 0 || c == n
def compK (s k j : Nat) : Nat := if j = 0 then k % s else if j = 1 then k / s % s else k / s / s
def okK (F : List Bool) (n k : Nat) : Bool := !(F.getD k false) || (List.range 3).all fun j => !badC n (compK (n + 1) k j)
def okF (F : List Bool) (n m : Nat) : Bool := (List.range m).all (okK F n)
theorem okF_succ (F : List Bool) (n m : Nat) : okF F n (m + 1) = (okF F n m && okK F n m) := by
  unfold okF
  rw [List.range_succ, List.all_append]
  simp
def validF (L : Int) (F : List Bool) : Bool := decide (1 ≤ L ∧ L ≤ 8) && decide (F.length = (2 ^ L.toNat + 1) * (2 ^ L.toNat + 1) * (2 ^ L.toNat + 1)) && okF F (2 ^ L.toNat) F.length
theorem okF_bad {F : List Bool} {n k : Nat} (hk : k < F.length) (h : okK F n k = false) : okF F n F.length = false := by
  unfold okF
  rw [Bool.eq_false_iff]
  intro hh
  rw [List.all_eq_true] at hh
  rw [hh k (List.mem_range.2 hk)] at h
  exact absurd h (by simp)
theorem okF_badN {F : List Bool} {n k N : Nat} (hN : N = F.length) (hk : k < F.length) (h : okK F n k = false) : okF F n N = false := by rw [hN]; exact okF_bad hk h
theorem okK_bad {F : List Bool} {n k j : Nat} (hj : j < 3) (hF : F.getD k false = true) (h : badC n (compK (n + 1) k j) = true) : okK F n k = false := by
  unfold okK
  rw [hF]
  simp only [Bool.not_true, Bool.false_or]
  rw [Bool.eq_false_iff]
  intro hh
  rw [List.all_eq_true] at hh
  have := hh j (List.mem_range.2 hj)
  rw [h] at this
  exact absurd this (by simp)
theorem okK_out {F : List Bool} {n k : Nat} (hF : F.getD k false = false) : okK F n k = true := by
  unfold okK; rw [hF]; rfl
theorem okK_all {F : List Bool} {n k : Nat} (h : ∀ j, j < 3 → badC n (compK (n + 1) k j) = false) : okK F n k = true := by
  unfold okK
  rw [Bool.or_eq_true]
  refine .inr ?_
  rw [List.all_eq_true]
  intro j hj
  rw [h j (List.mem_range.1 hj)]; rfl
def zeroG : Value := .agg #[.slice none 0 0, .int .i64 0, .int .i64 0]
set_option maxRecDepth 100000 in
set_option maxHeartbeats 16000000 in
theorem open_in (l : Nat) (hl1 : 1 ≤ l) (hl8 : l ≤ 8) (A : Option Addr) (c : Nat) (F : List Bool) (w : World) (hs : Sl encBl 1 w w.heap.size A F) (hlF : F.length ≤ maxLen) :
    Calls Try.prog 27 #[.agg #[.int .i64 l, .slice A F.length c]] w fun e w' => e = .returned (.tuple #[if validF l F = true then .agg #[.slice A F.length c, .int .i64 ((2 ^ l : Nat) : Int), .int .i64 ((2 ^ (21 - l) : Nat) : Int)] else zeroG, .bool (validF l F)]) ∧ Below w.heap.size w w' := by
  have hval : validF l F = (decide (F.length = (2 ^ l + 1) * (2 ^ l + 1) * (2 ^ l + 1)) && okF F (2 ^ l) F.length) := by
    unfold validF
    have h1 : (1 : Int) ≤ l ∧ (l : Int) ≤ 8 := by omega
    rw [decide_eq_true h1, Bool.true_and, Int.toNat_natCast]
  obtain ⟨ok, hok⟩ : ∃ ok, ok = validF l F := ⟨_, rfl⟩
  rw [← hok] at hval ⊢
  have hc8 : l = 1 ∨ l = 2 ∨ l = 3 ∨ l = 4 ∨ l = 5 ∨ l = 6 ∨ l = 7 ∨ l = 8 := by omega
  obtain ⟨n, hn⟩ : ∃ n, n = 2 ^ l := ⟨_, rfl⟩
  obtain ⟨sd, hh⟩ : ∃ sd, sd = 2 ^ (21 - l) := ⟨_, rfl⟩
  rw [← hn] at hval ⊢
  rw [← hh]
  have hn2 : 2 ≤ n ∧ n ≤ 256 := by rw [hn]; rcases hc8 with rfl | rfl | rfl | rfl | rfl | rfl | rfl | rfl <;> decide
  obtain ⟨q1, hq1⟩ : ∃ q, q = (n + 1) * (n + 1) := ⟨_, rfl⟩
  obtain ⟨q2, hq2⟩ : ∃ q, q = q1 * (n + 1) := ⟨_, rfl⟩
  have hq1b : q1 ≤ 66049 := by rw [hq1]; exact (Nat.mul_le_mul (show n + 1 ≤ 257 by omega) (show n + 1 ≤ 257 by omega))
  have hq2b : q2 ≤ 16974593 := by rw [hq2]; exact Nat.le_trans (Nat.mul_le_mul hq1b (show n + 1 ≤ 257 by omega)) (by omega)
  have t1 : ((n : Int) + 1) * ((n : Int) + 1) = (q1 : Int) := by rw [hq1]; push_cast; rfl
  have z1 : IntKind.i64.wrap (((n : Int) + 1) * ((n : Int) + 1)) = (q1 : Int) := by rw [t1]; exact IntWalk.i64_in _ (by omega)
  have t2 : (q1 : Int) * ((n : Int) + 1) = (q2 : Int) := by rw [hq2]; push_cast; rfl
  have z2 : IntKind.i64.wrap ((q1 : Int) * ((n : Int) + 1)) = (q2 : Int) := by rw [t2]; exact IntWalk.i64_in _ (by omega)
  rw [← hq1, ← hq2] at hval
  obtain ⟨N, hN⟩ : ∃ N, N = F.length := ⟨_, rfl⟩
  rw [← hN] at hval hlF ⊢
  have hq : N = q2 → n * q1 + q1 = N := fun e => by rw [e, hq2, Nat.mul_add, Nat.mul_comm n q1, Nat.mul_one]
  have HS := hide (And.intro hs (And.intro hN (And.intro hval (And.intro hok (And.intro hn (And.intro hh (And.intro hc8 (And.intro hq1 hq))))))))
  clear hs hN hval hok hn hh hc8 hq1 hq2 t1 t2 hq
  obtain ⟨gv, hgv⟩ : ∃ gv, gv = (if ok = true then .agg #[.slice A N c, .int .i64 n, .int .i64 sd] else zeroG) := ⟨_, rfl⟩
  rw [← hgv]
  have HG := hide hgv
  clear hgv
  go_enter Try.func27, Try.ntmps27
  go_wp2_with fail
  obtain ⟨V, hV⟩ : ∃ V, V = (w.alloc (.cells #[.int .i64 l, .slice A N c] 26)).alloc (.cells #[.slice none 0 0, .int .i64 0, .int .i64 0] 57) := ⟨_, rfl⟩
  rw [← hV]
  have hBV : Below w.heap.size w V := by rw [hV]; exact ((Below.refl _ w).alloc (Nat.le_refl _) _).alloc (by simp) _
  have hf : Blk V w.heap.size 26 #[.int .i64 l, .slice A N c] := by rw [hV]; exact (Blk.new _ _ _).alloc _
  have hr : Blk V (w.heap.size + 1) 57 #[.slice none 0 0, .int .i64 0, .int .i64 0] := by rw [hV]; exact Blk.new' _ _ _ _ (by simp)
  have hzV : V.heap.size = w.heap.size + 2 := by rw [hV]; simp
  have HV := hide (And.intro hBV (And.intro hf hr))
  have hS : V.drew.cell? ⟨w.heap.size, 0, none⟩ = some (.int .i64 l) ∧ V.drew.cell? ⟨w.heap.size, 1, none⟩ = some (.slice A N c) := ⟨hf.cell 0, hf.cell 1⟩
  have hal : ∀ obj : Obj, (V.drew.alloc obj).cell? ⟨w.heap.size, 0, none⟩ = some (.int .i64 l) ∧ (V.drew.alloc obj).cell? ⟨w.heap.size, 1, none⟩ = some (.slice A N c) := fun obj =>
    ⟨(((Below.refl V.heap.size V.drew).alloc (Nat.le_refl _) obj).cell (p := ⟨w.heap.size, 0, none⟩) (by show w.heap.size < V.heap.size; omega)).trans hS.1, (((Below.refl V.heap.size V.drew).alloc (Nat.le_refl _) obj).cell (p := ⟨w.heap.size, 1, none⟩) (by show w.heap.size < V.heap.size; omega)).trans hS.2⟩
  have HC := hide hS
  have HA := hide hal
  have cf0 := hf.cell 0
  have cf1 := hf.cell 1
  simp only [List.getElem?_toArray, List.getElem?_cons_zero, List.getElem?_cons_succ] at cf0 cf1
  have hlt0 : w.heap.size < V.heap.size := by omega
  have hlt1 : w.heap.size + 1 < V.heap.size := by omega
  clear hBV hf hr hV hS hal
  refine wp_region_mix (fun W => W.cell? ⟨w.heap.size, 0, none⟩ = some (.int .i64 l) ∧ W.cell? ⟨w.heap.size, 1, none⟩ = some (.slice A N c)) [0, 1, 2, 3, 4, 5, 6, 7, 8, 9] [0, 1, 2, 3, 4, 5, 6, 7, 8, 9, 10, 11] mixed_ok (by kernel_rfl) ?_
  refine wpMix_q (v := .pointer (some ⟨w.heap.size, 1, none⟩)) rfl rfl (fun _ _ _ h => h) HC.out ⟨rfl, fun _ _ => by simp [go_sem]⟩ ?_
  refine wpMix_q (v := .slice A N c) rfl rfl (fun _ _ _ h => h) HC.out ⟨rfl, fun _ h' => by simp [go_sem, h'.2]⟩ ?_
  refine wpMix_q (v := .pointer (some ⟨w.heap.size, 0, none⟩)) rfl rfl (fun _ _ _ h => h) HC.out ⟨rfl, fun _ _ => by simp [go_sem]⟩ ?_
  refine wpMix_q (v := .int .i64 l) rfl rfl (fun _ _ _ h => h) HC.out ⟨rfl, fun _ h' => by simp [go_sem, h'.1]⟩ ?_
  refine wpMix_q (v := .int .i64 n) rfl rfl (fun _ _ _ h => h) HC.out ⟨rfl, fun _ _ => by
    rw [HS.out.2.2.2.2.1]
    rcases HS.out.2.2.2.2.2.2.1 with rfl | rfl | rfl | rfl | rfl | rfl | rfl | rfl <;> kernel_rfl⟩ ?_
  refine wpMix_q (v := .pointer (some ⟨w.heap.size, 0, none⟩)) rfl rfl (fun _ _ _ h => h) HC.out ⟨rfl, fun _ _ => by simp [go_sem]⟩ ?_
  refine wpMix_q (v := .int .i64 l) rfl rfl (fun _ _ _ h => h) HC.out ⟨rfl, fun _ h' => by simp [go_sem, h'.1]⟩ ?_
  refine wpMix_q (v := .int .i64 ((21 - l : Nat) : Int)) rfl rfl (fun _ _ _ h => h) HC.out ⟨rfl, fun _ _ => by
    rcases HS.out.2.2.2.2.2.2.1 with rfl | rfl | rfl | rfl | rfl | rfl | rfl | rfl <;> kernel_rfl⟩ ?_
  refine wpMix_q (v := .int .i64 sd) rfl rfl (fun _ _ _ h => h) HC.out ⟨rfl, fun _ _ => by
    rw [HS.out.2.2.2.2.2.1]
    rcases HS.out.2.2.2.2.2.2.1 with rfl | rfl | rfl | rfl | rfl | rfl | rfl | rfl <;> kernel_rfl⟩ ?_
  refine wpMix_q (v := .agg #[.slice A N c, .int .i64 n, .int .i64 sd]) rfl rfl (fun _ _ _ h => h) HC.out ⟨rfl, fun _ _ => by simp [go_sem]⟩ ?_
  refine wpMix_n rfl rfl ?_
  go_wp2_with fail
  refine ⟨fun _ => HA.out _, ?_⟩
  refine wpMix_tail _ [_] (by kernel_rfl) rfl ?_
  simp only [List.getElem_toArray, List.getElem_cons_succ, List.getElem_cons_zero]
  by_cases hNq : N = q2
  · have t3 : ((N : Int) != (q2 : Int)) = false := by rw [hNq]; simp
    have hNb : N ≤ 16974593 := by omega
    have HNq := hide hNq
    clear hNq
    go_wp2_with fail
    obtain ⟨Y, hY⟩ : ∃ Y, Y = (V.alloc (.cells #[.slice A N c, .int .i64 n, .int .i64 sd] 57)).drew := ⟨_, rfl⟩
    rw [← hY]
    have hzY : Y.heap.size = w.heap.size + 3 := by rw [hY]; show (V.alloc _).heap.size = _; simp; omega
    have hBY : Below V.heap.size V Y := by rw [hY]; exact ((Below.refl _ V).alloc (Nat.le_refl _) _).drew
    have hgY : Blk Y (w.heap.size + 2) 57 #[.slice A N c, .int .i64 n, .int .i64 sd] := by rw [hY, ← hzV]; exact (Blk.new _ _ _).drew
    have hrY := HV.out.2.2.below hBY hlt1
    have HY := hide (And.intro hBY (And.intro hgY hrY))
    clear hBY hgY hrY hY cf0 cf1 t3 HC HA
    go_loopw [45] (fun iv wr => ∃ k : Nat, k ≤ N ∧ iv = .int .i64 k ∧ okF F n k = true ∧ Below Y.heap.size Y wr) (fun iv _ => N - (intOf iv).toNat)
    case atStart => exact ⟨0, by omega, rfl, rfl, Below.refl _ Y⟩
    case round =>
      obtain ⟨k, hk, rfl, hokk, hB⟩ := hrel
      have hszB := hB.size
      by_cases hlt : k < N
      · obtain ⟨x, hx⟩ : ∃ x, x = F.getD k false := ⟨_, rfl⟩
        have hkF : k < F.length := by rw [← HS.out.2.1]; exact hlt
        have hsr : Sl encBl 1 wr w.heap.size A F := ((HS.out.1.below HV.out.1).below (Below.mono HY.out.1 (by omega))).below (Below.mono hB (by omega))
        obtain ⟨b, o, rfl, hbw, hcl⟩ := hsr.at (encBl_get hkF)
        have cx := hcl 0 _ rfl
        rw [← hx] at cx
        simp only [Nat.mul_one, Nat.add_zero] at cx
        have i1 : (k : Int) < (N : Int) := by omega
        have HR := hide (And.intro hokk (And.intro hB (And.intro hx hkF)))
        clear hokk hB hx hkF hsr hcl
        cases x
        · go_wp2_with fail
          go_roundw
          case rel => exact ⟨k + 1, by omega, by go_num, by rw [okF_succ, HR.out.1, okK_out HR.out.2.2.1.symm]; rfl, HR.out.2.1⟩
          case measure => simp [intOf]; omega
        · go_wp2_with fail
          obtain ⟨c0, hc0⟩ : ∃ x, x = k % (n + 1) := ⟨_, rfl⟩
          obtain ⟨d1, hd1⟩ : ∃ x, x = k / (n + 1) := ⟨_, rfl⟩
          obtain ⟨c1, hc1⟩ : ∃ x, x = d1 % (n + 1) := ⟨_, rfl⟩
          obtain ⟨c2, hc2⟩ : ∃ x, x = d1 / (n + 1) := ⟨_, rfl⟩
          have b0 : c0 ≤ k := by rw [hc0]; exact Nat.mod_le _ _
          have b1 : d1 ≤ k := by rw [hd1]; exact Nat.div_le_self _ _
          have b2 : c1 ≤ d1 := by rw [hc1]; exact Nat.mod_le _ _
          have b3 : c2 ≤ d1 := by rw [hc2]; exact Nat.div_le_self _ _
          have v0 : (k : Int).tmod ((n : Int) + 1) = (c0 : Int) := by rw [Int.tmod_eq_emod_of_nonneg (by omega), hc0]; push_cast; rfl
          have v1 : IntKind.i64.wrap ((k : Int) / ((n : Int) + 1)) = (d1 : Int) := by
            rw [show (k : Int) / ((n : Int) + 1) = (d1 : Int) by rw [hd1]; push_cast; rfl]; exact IntWalk.i64_in _ (by omega)
          have v2 : (d1 : Int).tmod ((n : Int) + 1) = (c1 : Int) := by rw [Int.tmod_eq_emod_of_nonneg (by omega), hc1]; push_cast; rfl
          have v3 : IntKind.i64.wrap ((d1 : Int) / ((n : Int) + 1)) = (c2 : Int) := by
            rw [show (d1 : Int) / ((n : Int) + 1) = (c2 : Int) by rw [hc2]; push_cast; rfl]; exact IntWalk.i64_in _ (by omega)
          have u0 : ((n : Int) + 1 = 0) = False := by simp; omega
          have hcomp : ∀ j, j < 3 → compK (n + 1) k j = if j = 0 then c0 else if j = 1 then c1 else c2 := fun j hj => by unfold compK; rw [hc2, hc1, hd1, hc0]
          have HK := hide hcomp
          clear hc0 hd1 hc1 hc2 hcomp
          refine wp_region_mix (fun _ => True) [0, 1, 2, 3, 4, 5, 6, 7, 8, 9, 10, 11, 12, 13] [0, 1, 2, 3, 4, 5, 6, 7, 8, 9, 10, 11, 12, 13, 14] mixed_ok (by kernel_rfl) ?_
          refine wpMix_q (v := .int .i64 k) rfl rfl (fun _ _ _ h => h) trivial ⟨rfl, fun _ _ => by simp [go_sem]⟩ ?_
          refine wpMix_q (v := .int .i64 ((n : Int) + 1)) rfl rfl (fun _ _ _ h => h) trivial ⟨rfl, fun _ _ => by simp [go_sem]⟩ ?_
          refine wpMix_q (v := .int .i64 c0) rfl rfl (fun _ _ _ h => h) trivial ⟨rfl, fun _ _ => by simp [go_sem, v0, u0]⟩ ?_
          refine wpMix_q (v := .int .i64 k) rfl rfl (fun _ _ _ h => h) trivial ⟨rfl, fun _ _ => by simp [go_sem]⟩ ?_
          refine wpMix_q (v := .int .i64 ((n : Int) + 1)) rfl rfl (fun _ _ _ h => h) trivial ⟨rfl, fun _ _ => by simp [go_sem]⟩ ?_
          refine wpMix_q (v := .int .i64 d1) rfl rfl (fun _ _ _ h => h) trivial ⟨rfl, fun _ _ => by simp [go_sem, v1, u0]⟩ ?_
          refine wpMix_q (v := .int .i64 ((n : Int) + 1)) rfl rfl (fun _ _ _ h => h) trivial ⟨rfl, fun _ _ => by simp [go_sem]⟩ ?_
          refine wpMix_q (v := .int .i64 c1) rfl rfl (fun _ _ _ h => h) trivial ⟨rfl, fun _ _ => by simp [go_sem, v2, u0]⟩ ?_
          refine wpMix_q (v := .int .i64 k) rfl rfl (fun _ _ _ h => h) trivial ⟨rfl, fun _ _ => by simp [go_sem]⟩ ?_
          refine wpMix_q (v := .int .i64 ((n : Int) + 1)) rfl rfl (fun _ _ _ h => h) trivial ⟨rfl, fun _ _ => by simp [go_sem]⟩ ?_
          refine wpMix_q (v := .int .i64 d1) rfl rfl (fun _ _ _ h => h) trivial ⟨rfl, fun _ _ => by simp [go_sem, v1, u0]⟩ ?_
          refine wpMix_q (v := .int .i64 ((n : Int) + 1)) rfl rfl (fun _ _ _ h => h) trivial ⟨rfl, fun _ _ => by simp [go_sem]⟩ ?_
          refine wpMix_q (v := .int .i64 c2) rfl rfl (fun _ _ _ h => h) trivial ⟨rfl, fun _ _ => by simp [go_sem, v3, u0]⟩ ?_
          refine wpMix_q (v := .agg #[.int .i64 c0, .int .i64 c1, .int .i64 c2]) rfl rfl (fun _ _ _ h => h) trivial ⟨rfl, fun _ _ => by simp [go_sem]⟩ ?_
          refine wpMix_n rfl rfl ?_
          go_wp2_with fail
          refine ⟨fun _ => trivial, wpMix_nil ?_⟩
          go_wp2_with fail
          have hI : ∀ j : Nat, j < 3 → ∀ W, (Instr.index 51 (.agg #[.int .i64 c0, .int .i64 c1, .int .i64 c2]) (.int .i64 j)).run Try.prog W = .ok (.int .i64 (compK (n + 1) k j)) W := fun j hj W => by
            rw [HK.out j hj]
            have hc : j = 0 ∨ j = 1 ∨ j = 2 := by omega
            rcases hc with rfl | rfl | rfl
            · show (Instr.index _ _ _).run _ _ = Result.ok (.int .i64 c0) W; kernel_rfl
            · show (Instr.index _ _ _).run _ _ = Result.ok (.int .i64 c1) W; kernel_rfl
            · show (Instr.index _ _ _).run _ _ = Result.ok (.int .i64 c2) W; kernel_rfl
          have hCb : ∀ j, j < 3 → compK (n + 1) k j ≤ k := fun j hj => by
            rw [HK.out j hj]
            split
            · omega
            · split <;> omega
          have HI := hide (And.intro hI hCb)
          clear hI hCb v0 v1 v2 v3 u0 b0 b1 b2 b3
          obtain ⟨R, hRR⟩ : ∃ R, R = wr.drew := ⟨_, rfl⟩
          have hBR : Below Y.heap.size Y R := by rw [hRR]; exact HR.out.2.1.drew
          have HBR := hide hBR
          rw [← hRR]
          clear hRR hBR
          go_loopw [66] (fun iv wx => ∃ j : Nat, j ≤ 3 ∧ iv = .int .i64 j ∧ (∀ i, i < j → badC n (compK (n + 1) k i) = false) ∧ Below Y.heap.size Y wx) (fun iv _ => 3 - (intOf iv).toNat)
          case atStart => exact ⟨0, by omega, rfl, fun i hi => absurd hi (Nat.not_lt_zero i), HBR.out⟩
          case round =>
            obtain ⟨j, hj, rfl, hgood, hBj⟩ := hrel
            have hszj := hBj.size
            by_cases hj3 : j < 3
            · obtain ⟨cc, hcc⟩ : ∃ cc, cc = compK (n + 1) k j := ⟨_, rfl⟩
              have hid := HI.out.1 j hj3
              have hcb := HI.out.2 j hj3
              rw [← hcc] at hid hcb
              have gj := (HY.out.2.1.below hBj (by omega)).cell 1
              simp only [List.getElem?_toArray, List.getElem?_cons_zero, List.getElem?_cons_succ] at gj
              have i3 : (j : Int) < 3 := by omega
              have hrj := HY.out.2.2.below hBj (by omega)
              have HJ := hide (And.intro hgood (And.intro hBj (And.intro hcc hrj)))
              clear hgood hBj hcc
              by_cases hbad : badC n cc = true
              · have r0 := hrj.frozen 0
                have r1 := hrj.frozen 1
                have r2 := hrj.frozen 2
                have s0 := hrj.cell 0
                have s1 := hrj.cell 1
                have s2 := hrj.cell 2
                simp only [List.getElem?_toArray, List.getElem?_cons_zero, List.getElem?_cons_succ] at s0 s1 s2
                clear hrj
                have HB := hide hbad
                unfold badC at hbad
                simp only [Bool.or_eq_true, beq_iff_eq] at hbad
                rcases hbad with hb0 | hb0
                · have e0 : ((cc : Int) == 0) = true := by simp; omega
                  clear hb0
                  go_wp2
                  refine ret_at (v := .tuple #[gv, .bool ok]) (fun W => Blk W (w.heap.size + 1) 57 #[.slice none 0 0, .int .i64 0, .int .i64 0])
                    (((HJ.out.2.2.2.set_ 0 _).set_ 1 _).set_ 2 _) (fun W h' => ?_) rfl
                    ⟨rfl, HV.out.1.trans ((Below.mono HY.out.1 (by omega)).trans (((((Below.mono HJ.out.2.1 (show w.heap.size + 1 ≤ Y.heap.size by omega)).setCell (Nat.le_refl _) _).setCell (Nat.le_refl _) _).setCell (Nat.le_refl _) _).mono (by omega)))⟩
                  have hokf : ok = false := by
                    rw [HS.out.2.2.1, okF_badN HS.out.2.1 HR.out.2.2.2 (okK_bad hj3 HR.out.2.2.1.symm (by rw [← HJ.out.2.2.1]; exact HB.out)), Bool.and_false]
                  obtain ⟨a0, a1, a2⟩ := h'.three
                  rw [HG.out, hokf]
                  simp [results, Try.results27, go_sem, a0, a1, a2, zeroG]
                · have e0 : ((cc : Int) == 0) = false := by simp; omega
                  have e1 : ((cc : Int) == (n : Int)) = true := by simp; omega
                  clear hb0
                  go_wp2
                  refine ret_at (v := .tuple #[gv, .bool ok]) (fun W => Blk W (w.heap.size + 1) 57 #[.slice none 0 0, .int .i64 0, .int .i64 0])
                    (((HJ.out.2.2.2.set_ 0 _).set_ 1 _).set_ 2 _) (fun W h' => ?_) rfl
                    ⟨rfl, HV.out.1.trans ((Below.mono HY.out.1 (by omega)).trans (((((Below.mono HJ.out.2.1 (show w.heap.size + 1 ≤ Y.heap.size by omega)).setCell (Nat.le_refl _) _).setCell (Nat.le_refl _) _).setCell (Nat.le_refl _) _).mono (by omega)))⟩
                  have hokf : ok = false := by
                    rw [HS.out.2.2.1, okF_badN HS.out.2.1 HR.out.2.2.2 (okK_bad hj3 HR.out.2.2.1.symm (by rw [← HJ.out.2.2.1]; exact HB.out)), Bool.and_false]
                  obtain ⟨a0, a1, a2⟩ := h'.three
                  rw [HG.out, hokf]
                  simp [results, Try.results27, go_sem, a0, a1, a2, zeroG]
              · have HB := hide hbad
                unfold badC at hbad
                simp only [Bool.or_eq_true, beq_iff_eq, not_or] at hbad
                have e0 : ((cc : Int) == 0) = false := by simp; omega
                have e1 : ((cc : Int) == (n : Int)) = false := by simp; omega
                clear hbad
                go_wp2
                go_roundw
                case rel =>
                  refine ⟨j + 1, by omega, by go_num, fun i hi => ?_, HJ.out.2.1⟩
                  by_cases hij : i < j
                  · exact HJ.out.1 i hij
                  · have : i = j := by omega
                    subst this
                    rw [← HJ.out.2.2.1]
                    exact Bool.eq_false_iff.2 HB.out
                case measure => simp [intOf]; omega
            · have hj3' : j = 3 := by omega
              subst hj3'
              have HJ := hide (And.intro hgood hBj)
              clear hgood hBj
              go_wp2
              go_roundw
              case rel => exact ⟨k + 1, by omega, by go_num, by rw [okF_succ, HR.out.1, okK_all HJ.out.1]; rfl, HJ.out.2⟩
              case measure => simp [intOf]; omega
      · have hkN : k = N := by omega
        subst hkN
        have hbr := HY.out.2.2.below hB (by omega)
        have hgr := HY.out.2.1.below hB (by omega)
        have HR := hide (And.intro hokk (And.intro hbr hB))
        have r0 := hbr.frozen 0
        have r1 := hbr.frozen 1
        have r2 := hbr.frozen 2
        have s0 := hbr.cell 0
        have s1 := hbr.cell 1
        have s2 := hbr.cell 2
        have g0 := hgr.cell 0
        have g1 := hgr.cell 1
        have g2 := hgr.cell 2
        simp only [List.getElem?_toArray, List.getElem?_cons_zero, List.getElem?_cons_succ] at s0 s1 s2 g0 g1 g2
        clear hokk hbr hB hgr
        go_wp2
        refine ret_at (v := .tuple #[gv, .bool ok]) (fun W => Blk W (w.heap.size + 1) 57 #[.slice A k c, .int .i64 n, .int .i64 sd])
          (((HR.out.2.1.set_ 0 _).set_ 1 _).set_ 2 _) (fun W h' => ?_) rfl
          ⟨rfl, HV.out.1.trans ((Below.mono HY.out.1 (by omega)).trans (((((Below.mono HR.out.2.2 (show w.heap.size + 1 ≤ Y.heap.size by omega)).setCell (Nat.le_refl _) _).setCell (Nat.le_refl _) _).setCell (Nat.le_refl _) _).mono (by omega)))⟩
        have hokt : ok = true := by rw [HS.out.2.2.1, decide_eq_true HNq.out, Bool.true_and]; exact HR.out.1
        obtain ⟨a0, a1, a2⟩ := h'.three
        rw [HG.out, hokt]
        simp [results, Try.results27, go_sem, a0, a1, a2]
  · have t3 : ((N : Int) != (q2 : Int)) = true := by simp; omega
    have hbr := HV.out.2.2
    have r0 := hbr.frozen 0
    have r1 := hbr.frozen 1
    have r2 := hbr.frozen 2
    have s0 := hbr.cell 0
    have s1 := hbr.cell 1
    have s2 := hbr.cell 2
    simp only [List.getElem?_toArray, List.getElem?_cons_zero, List.getElem?_cons_succ] at s0 s1 s2
    clear hbr
    go_wp2
    refine ret_at (v := .tuple #[gv, .bool ok]) (fun W => Blk W (w.heap.size + 1) 57 #[.slice none 0 0, .int .i64 0, .int .i64 0])
      (((((HV.out.2.2.set_ 0 _).set_ 1 _).set_ 2 _).alloc _).drew) (fun W h' => ?_) rfl
      ⟨rfl, HV.out.1.trans ((((((Below.refl (w.heap.size + 1) V).setCell (Nat.le_refl _) _).setCell (Nat.le_refl _) _).setCell (Nat.le_refl _) _).alloc (by simp; omega) _).drew.mono (by omega))⟩
    have hokf : ok = false := by rw [HS.out.2.2.1, decide_eq_false hNq, Bool.false_and]
    obtain ⟨a0, a1, a2⟩ := h'.three
    rw [HG.out, hokf]
    simp [results, Try.results27, go_sem, a0, a1, a2, zeroG]
set_option maxRecDepth 100000 in
set_option maxHeartbeats 4000000 in
theorem open_bad (L : Int) (hb : ¬ (1 ≤ L ∧ L ≤ 8)) (A : Option Addr) (c d : Nat) (w : World) :
    Calls Try.prog 27 #[.agg #[.int .i64 L, .slice A c d]] w fun e w' => e = .returned (.tuple #[zeroG, .bool false]) ∧ Below w.heap.size w w' := by
  by_cases h1 : L < 1
  · have d1 : decide (L < 1) = true := decide_eq_true h1
    clear hb h1
    go_enter Try.func27, Try.ntmps27
    go_wp2
    refine ret_at (v := .tuple #[zeroG, .bool false]) (fun W => Blk W (w.heap.size + 1) 57 #[.slice none 0 0, .int .i64 0, .int .i64 0]) (Blk.new' _ _ _ _ (by simp)) (fun W h' => ?_) rfl
      ⟨rfl, ((Below.refl _ w).alloc (Nat.le_refl _) _).alloc (by simp) _⟩
    obtain ⟨a0, a1, a2⟩ := h'.three
    simp [results, Try.results27, go_sem, a0, a1, a2, zeroG]
  · have d1 : decide (L < 1) = false := decide_eq_false h1
    have d2 : decide (8 < L) = true := decide_eq_true (by omega)
    clear hb h1
    go_enter Try.func27, Try.ntmps27
    go_wp2
    refine ret_at (v := .tuple #[zeroG, .bool false]) (fun W => Blk W (w.heap.size + 1) 57 #[.slice none 0 0, .int .i64 0, .int .i64 0]) (Blk.new' _ _ _ _ (by simp)) (fun W h' => ?_) rfl
      ⟨rfl, ((Below.refl _ w).alloc (Nat.le_refl _) _).alloc (by simp) _⟩
    obtain ⟨a0, a1, a2⟩ := h'.three
    simp [results, Try.results27, go_sem, a0, a1, a2, zeroG]
theorem open_any (L : Int) (A : Option Addr) (c : Nat) (F : List Bool) (w : World) (hs : Sl encBl 1 w w.heap.size A F) (hlF : F.length ≤ maxLen) :
    Calls Try.prog 27 #[.agg #[.int .i64 L, .slice A F.length c]] w fun e w' => e = .returned (.tuple #[if validF L F = true then .agg #[.slice A F.length c, .int .i64 ((2 ^ L.toNat : Nat) : Int), .int .i64 ((2 ^ (21 - L.toNat) : Nat) : Int)] else zeroG, .bool (validF L F)]) ∧ Below w.heap.size w w' := by
  by_cases h : 1 ≤ L ∧ L ≤ 8
  · obtain ⟨l, rfl⟩ : ∃ l : Nat, L = l := ⟨L.toNat, by omega⟩
    exact open_in l (by omega) (by omega) A c F w hs hlF
  · have hf : validF L F = false := by unfold validF; rw [decide_eq_false h]; rfl
    rw [hf]
    exact open_bad L h A F.length c w
end Go.Proofs.Ytfljcgehhnmamaa
