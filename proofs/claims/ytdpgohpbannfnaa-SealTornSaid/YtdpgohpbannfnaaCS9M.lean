/- ref07: inner, given. -/
import Derived.Test.YtdpgohpbannfnaaCS9L
namespace Go.Proofs.Ytdpgohpbannfnaa
open Go.RowKit Go.Sort Go.WideMaps Go.Maps
set_option maxRecDepth 100000 in
set_option maxHeartbeats 8000000 in
theorem inner7r_any {n s : Nat} (hs : s = n + 1) (hs9 : s ≤ 9) (a x y z : Int) (w : World) :
    Calls Try.prog 51 #[.int .i64 (s : Int), .int .i64 a, vP (x, y, z)] w fun e w' => e = .returned (.bool (innE (n : Int) (a, x, y, z))) ∧ Below w.heap.size w w' := by
  have hn : (s : Int) - 1 = (n : Int) := by omega
  have HN := hide (And.intro hn hs)
  obtain ⟨X, hX⟩ : ∃ X, X = w.alloc (.cells #[.int .i64 x, .int .i64 y, .int .i64 z] 42) := ⟨_, rfl⟩
  have hb : Blk X w.heap.size 42 #[.int .i64 x, .int .i64 y, .int .i64 z] := by rw [hX]; exact Blk.new _ _ _
  obtain ⟨a0, a1, a2⟩ := hb.three
  have HB := hide (show Below w.heap.size w X by rw [hX]; exact (Below.refl _ w).alloc (Nat.le_refl _) _)
  have HX := hide hX
  clear hb hn hs hX
  by_cases h0 : a < 0
  · have e : innE (n : Int) (a, x, y, z) = false := by unfold innE; rw [decide_eq_false (by dsimp only; omega)]; rfl
    rw [e]
    clear e
    go_enter Try.func51, Try.ntmps51
    go_upto_region 1 with fail
    rw [← HX.out]
    go_wp2_with fail
    go_ret
    exact ⟨rfl, HB.out⟩
  · by_cases h3 : 2 < a
    · have e : innE (n : Int) (a, x, y, z) = false := by unfold innE; rw [decide_eq_false (by dsimp only; omega)]; rfl
      rw [e]
      clear e
      go_enter Try.func51, Try.ntmps51
      go_upto_region 1 with fail
      rw [← HX.out]
      go_wp2_with fail
      go_ret
      exact ⟨rfl, HB.out⟩
    · have hc : a = 0 ∨ a = 1 ∨ a = 2 := by omega
      clear h0 h3
      rcases hc with rfl | rfl | rfl
      · obtain ⟨v, hv⟩ : ∃ v, v = innE (n : Int) (0, x, y, z) := ⟨_, rfl⟩
        have HV := hide hv
        rw [← hv]
        clear hv
        go_enter Try.func51, Try.ntmps51
        go_upto_region 1 with fail
        rw [← HX.out]
        go_wp2_with fail
        refine (others7_any 0 (by omega) X).mono ?_
        rintro e w1 ⟨rfl, hw3⟩
        obtain rfl : X = w1 := hw3.symm
        go_wp2_with fail
        all_goals (
          go_ret
          refine ⟨?_, HB.out⟩
          rw [HV.out]
          have hn := HN.out.1
          refine congrArg (fun b => Ending.returned (.bool b)) ?_
          rw [Bool.eq_iff_iff]
          simp [innE]
          omega)
      · obtain ⟨v, hv⟩ : ∃ v, v = innE (n : Int) (1, x, y, z) := ⟨_, rfl⟩
        have HV := hide hv
        rw [← hv]
        clear hv
        go_enter Try.func51, Try.ntmps51
        go_upto_region 1 with fail
        rw [← HX.out]
        go_wp2_with fail
        refine (others7_any 1 (by omega) X).mono ?_
        rintro e w1 ⟨rfl, hw3⟩
        obtain rfl : X = w1 := hw3.symm
        go_wp2_with fail
        all_goals (
          go_ret
          refine ⟨?_, HB.out⟩
          rw [HV.out]
          have hn := HN.out.1
          refine congrArg (fun b => Ending.returned (.bool b)) ?_
          rw [Bool.eq_iff_iff]
          simp [innE]
          omega)
      · obtain ⟨v, hv⟩ : ∃ v, v = innE (n : Int) (2, x, y, z) := ⟨_, rfl⟩
        have HV := hide hv
        rw [← hv]
        clear hv
        go_enter Try.func51, Try.ntmps51
        go_upto_region 1 with fail
        rw [← HX.out]
        go_wp2_with fail
        refine (others7_any 2 (by omega) X).mono ?_
        rintro e w1 ⟨rfl, hw3⟩
        obtain rfl : X = w1 := hw3.symm
        go_wp2_with fail
        all_goals (
          go_ret
          refine ⟨?_, HB.out⟩
          rw [HV.out]
          have hn := HN.out.1
          refine congrArg (fun b => Ending.returned (.bool b)) ?_
          rw [Bool.eq_iff_iff]
          simp [innE]
          omega)
/-- The numbers of a table's size. -/
theorem tab_nums {s : Nat} (hs : s ≤ 9) : ∃ r1 r2 m3 : Nat, wrap64 (3 * (s : Int)) = (r1 : Int) ∧ wrap64 ((r1 : Int) * (s : Int)) = (r2 : Int) ∧ wrap64 ((r2 : Int) * (s : Int)) = (m3 : Int) ∧ m3 = 3 * (s * s * s) ∧ m3 ≤ 3000 := by
  have h1 : 3 * s ≤ 27 := by omega
  have h2 : 3 * s * s ≤ 27 * 9 := Nat.mul_le_mul h1 hs
  have h3 : 3 * s * s * s ≤ 27 * 9 * 9 := Nat.mul_le_mul h2 hs
  refine ⟨3 * s, 3 * s * s, 3 * s * s * s, mulW8 (a := 3) (by omega) (by omega), mulW8 (by omega) (by omega), mulW8 (by omega) (by omega), ?_, by omega⟩
  rw [Nat.mul_assoc 3 s s, Nat.mul_assoc 3 (s * s) s]
/-- An inner edge's parts, as numbers. -/
theorem inn_nat {n s : Nat} (hs : s = n + 1) {e : EF} (h : innE (n : Int) e = true) : ∃ a x y z : Nat, e = ((a : Int), (x : Int), (y : Int), (z : Int)) ∧ a ≤ 2 ∧ x < s ∧ y < s ∧ z < s := by
  obtain ⟨a, x, y, z⟩ := e
  unfold innE at h
  simp only [Bool.and_eq_true, decide_eq_true_eq] at h
  refine ⟨a.toNat, x.toNat, y.toNat, z.toNat, ?_, by omega, by omega, by omega, by omega⟩
  rw [Int.toNat_of_nonneg (by omega), Int.toNat_of_nonneg (by omega), Int.toNat_of_nonneg (by omega), Int.toNat_of_nonneg (by omega)]
set_option maxRecDepth 100000 in
set_option maxHeartbeats 16000000 in
theorem given7_any {n s : Nat} (hs : s = n + 1) (hs9 : s ≤ 9) (A : Option Addr) (c : Nat) (l : List EF) (w : World) (hsl : Sl encF 4 w w.heap.size A l) (hl : l.length ≤ 100000) (hf : ∀ e ∈ l, fitsF e) :
    Calls Try.prog 37 #[.slice A l.length c, .int .i64 (s : Int)] w fun e w' => ∃ g m3, e = .returned (.slice (some ⟨g, 0, none⟩) m3 m3) ∧ m3 = 3 * (s * s * s) ∧ RowB w' g (tabE s (givE (n : Int) l)) ∧ w.heap.size ≤ g ∧ Below w.heap.size w w' := by
  obtain ⟨M, hM⟩ : ∃ M, M = l.length := ⟨_, rfl⟩
  rw [← hM] at hl ⊢
  obtain ⟨r1, r2, m3, w1, w2, w3, hm3, hm3b⟩ := tab_nums hs9
  have hmk := mk_bl7 m3 (Nat.le_trans hm3b (by decide))
  obtain ⟨ZN, hZN⟩ : ∃ Z, Z = ((List.replicate m3 false).map Value.bool).toArray := ⟨_, rfl⟩
  rw [← hZN] at hmk
  have H0 := hide (And.intro hsl (And.intro hf (And.intro hM (And.intro hs (And.intro hs9 (And.intro hZN hm3))))))
  clear hsl hf hM hs hs9 hZN hm3
  go_enter Try.func37, Try.ntmps37
  go_upto_region 2 with fail
  obtain ⟨X, hX⟩ : ∃ X, X = w.alloc (.cells ZN 4) := ⟨_, rfl⟩
  rw [← hX]
  have hrow : RowB X w.heap.size (tabE s (givE (n : Int) (l.take 0))) := by
    rw [show givE (n : Int) (l.take 0) = noE from rfl, tabE_none, ← H0.out.2.2.2.2.2.2, hX, H0.out.2.2.2.2.2.1]
    exact Blk.new _ _ _
  have hBX : Below w.heap.size w X := by rw [hX]; exact (Below.refl _ w).alloc (Nat.le_refl _) _
  have HX := hide (And.intro hrow hBX)
  clear hrow hBX hX hmk w1 w2 w3
  go_wp2_with fail
  go_loopw [6] (fun iv wr => ∃ k : Nat, k ≤ M ∧ iv = .int .i64 k ∧ RowB wr w.heap.size (tabE s (givE (n : Int) (l.take k))) ∧ Below w.heap.size w wr) (fun iv _ => M - (intOf iv).toNat)
  case atStart => exact ⟨0, by omega, rfl, HX.out.1, HX.out.2⟩
  case round =>
    obtain ⟨V, rfl⟩ : ∃ V, V = wr := ⟨_, rfl⟩
    obtain ⟨k, hk, rfl, hrow, hB⟩ := hrel
    have HV := hide (And.intro hrow hB)
    have hgV : w.heap.size < V.heap.size := Blk.lt hrow
    clear hrow hB
    by_cases hkM : k < M
    · have i1 : (k : Int) < (M : Int) := by omega
      obtain ⟨e, he⟩ : ∃ e, l[k]? = some e := ⟨_, List.getElem?_eq_getElem (by rw [← H0.out.2.2.1]; exact hkM)⟩
      have htk : l.take (k + 1) = l.take k ++ [e] := by rw [List.take_add_one, he]; rfl
      have hgv := givE_snoc (n : Int) (l.take k) e
      rw [← htk] at hgv
      obtain ⟨tb, oo, hA, htb, g0, g1, g2, g3⟩ := (H0.out.1.below HV.out.2).four he
      subst hA
      obtain ⟨E, hE⟩ : ∃ E, E = givE (n : Int) (l.take k) := ⟨_, rfl⟩
      rw [← hE] at hgv HV
      have HE := hide hgv
      clear htk hgv he hE
      obtain ⟨ea, ex, ey, ez⟩ := e
      dsimp only at g0 g1 g2 g3
      go_upto_region 6 with fail
      obtain ⟨Y1, hY1⟩ : ∃ Y, Y = V.alloc (.cells #[.int .i64 ea, .int .i64 ex, .int .i64 ey, .int .i64 ez] 44) := ⟨_, rfl⟩
      rw [← hY1]
      have hb1 : Blk Y1 V.heap.size 44 #[.int .i64 ea, .int .i64 ex, .int .i64 ey, .int .i64 ez] := by rw [hY1]; exact Blk.new _ _ _
      have hB1 : Below V.heap.size V Y1 := by rw [hY1]; exact (Below.refl _ V).alloc (Nat.le_refl _) _
      have hz1 : Y1.heap.size = V.heap.size + 1 := by rw [hY1]; simp
      obtain ⟨a0, a1, a2, a3⟩ := hb1.four
      have K1 := hide (And.intro hb1 hB1)
      clear hb1 hB1 hY1 g0 g1 g2 g3
      go_upto_region 7 with fail
      obtain ⟨Y, hY⟩ : ∃ Y, Y = Y1.alloc (.cells #[.int .i64 ex, .int .i64 ey, .int .i64 ez] 42) := ⟨_, rfl⟩
      rw [← hY]
      have hb1 : Blk Y V.heap.size 44 #[.int .i64 ea, .int .i64 ex, .int .i64 ey, .int .i64 ez] := by rw [hY]; exact K1.out.1.alloc _
      have hb2 : Blk Y (V.heap.size + 1) 42 #[.int .i64 ex, .int .i64 ey, .int .i64 ez] := by rw [hY]; exact Blk.new' _ _ _ _ hz1.symm
      have hB2 : Below V.heap.size V Y := by rw [hY]; exact K1.out.2.alloc K1.out.2.size _
      clear a0 a1 a2 a3 hY hz1
      obtain ⟨a0, a1, a2, a3⟩ := hb1.four
      obtain ⟨b0, b1, b2⟩ := hb2.three
      have K2 := hide (And.intro hb1 (And.intro hb2 hB2))
      clear hb1 hb2 hB2 K1
      go_wp2_with fail
      refine (inner7r_any H0.out.2.2.2.1 H0.out.2.2.2.2.1 ea ex ey ez Y).mono ?_
      rintro e w5 ⟨rfl, hB5⟩
      have hBV5 := K2.out.2.2.trans (hB5.mono K2.out.2.2.size)
      have K5 := hide (And.intro (K2.out.1.on hB5) (And.intro (K2.out.2.1.on hB5) hBV5))
      clear hB5 hBV5 a0 a1 a2 a3 b0 b1 b2
      cases hin : innE (n : Int) (ea, ex, ey, ez) with
      | false =>
        have HI := hide hin
        clear hin
        go_wp2_with fail
        go_roundw
        case rel =>
          refine ⟨k + 1, by omega, by go_num, ?_, HV.out.2.trans (K5.out.2.2.mono HV.out.2.size)⟩
          have h := HE.out
          rw [if_neg (by rw [HI.out]; simp)] at h
          rw [h]
          exact HV.out.1.on K5.out.2.2
        case measure => simp [intOf]; omega
      | true =>
        obtain ⟨a, x, y, z, hee, ha2, hx, hy, hz⟩ := inn_nat H0.out.2.2.2.1 hin
        injection hee with q1 q2
        injection q2 with q2 q3
        injection q3 with q3 q4
        subst q1 q2 q3 q4
        obtain ⟨j, hj⟩ : ∃ j, j = edgN s ((a : Int), (x : Int), (y : Int), (z : Int)) := ⟨_, rfl⟩
        have hat := at7r_any (s := s) H0.out.2.2.2.2.1 ha2 hx hy hz
        rw [← hj] at hat
        have hall : ((a : Int), (x : Int), (y : Int), (z : Int)) ∈ allE (n + 1) := grdE_all (inn_grd hin)
        have hjl := (edg_edgN hall).2
        rw [← H0.out.2.2.2.1, ← hj] at hjl
        have hjm : j < m3 := by rw [H0.out.2.2.2.2.2.2]; exact hjl
        have htg := tabE_tog E hall
        have htt := tabE_get E hall
        rw [← H0.out.2.2.2.1, ← hj] at htg htt
        obtain ⟨bE, hbE⟩ : ∃ b, b = E ((a : Int), (x : Int), (y : Int), (z : Int)) := ⟨_, rfl⟩
        rw [← hbE] at htg htt
        have HT := hide (And.intro hat (And.intro htg (And.intro htt hin)))
        clear hat hall hjl htg htt hin hj hbE hx hy hz
        obtain ⟨a0, a1, a2, a3⟩ := K5.out.1.four
        obtain ⟨b0, b1, b2⟩ := K5.out.2.1.three
        go_wp2_with fail
        refine (HT.out.1 w5).mono ?_
        rintro e w6 ⟨rfl, hB6⟩
        have hBV6 := K5.out.2.2.trans (hB6.mono K5.out.2.2.size)
        have hr6 := HV.out.1.on hBV6
        have e1 := hr6.cell HT.out.2.2.1
        have f1 := hr6.frozen j
        have j1 : (j : Int) < (m3 : Int) := by omega
        have K6 := hide (And.intro hr6 (HV.out.2.trans (hBV6.mono HV.out.2.size)))
        clear hB6 hBV6 hr6 a0 a1 a2 a3 b0 b1 b2
        go_wp2_with fail
        go_roundw
        case rel =>
          refine ⟨k + 1, by omega, by go_num, ?_, K6.out.2.setCell (Nat.le_refl _) _⟩
          have h := HE.out
          rw [if_pos HT.out.2.2.2] at h
          rw [h, ← HT.out.2.1]
          exact K6.out.1.set j (!bE)
        case measure => simp [intOf]; omega
    · have i1 : ¬ (k : Int) < (M : Int) := by omega
      have htk : l.take k = l := List.take_of_length_le (by rw [← H0.out.2.2.1]; omega)
      have hrow := HV.out.1
      rw [htk] at hrow
      have HW := hide (And.intro hrow HV.out.2)
      clear hrow htk HV
      go_wp2_with fail
      go_ret
      exact ⟨w.heap.size, m3, rfl, H0.out.2.2.2.2.2.2, HW.out.1, Nat.le_refl _, HW.out.2⟩
end Go.Proofs.Ytdpgohpbannfnaa
