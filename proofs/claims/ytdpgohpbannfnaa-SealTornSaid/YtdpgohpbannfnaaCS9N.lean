/- ref07.oddFace, odd, Odd (printed by mk_S9N.py). -/
import Derived.Test.YtdpgohpbannfnaaCS9M
import Derived.Test.YtdpgohpbannfnaaCS9G
namespace Go.Proofs.Ytdpgohpbannfnaa
open Go.RowKit Go.Sort Go.WideMaps Go.Maps
theorem all_nat {n s a x y z : Nat} (hs : s = n + 1) (ha : a ≤ 2) (hx : x < s) (hy : y < s) (hz : z < s) : ((a : Int), (x : Int), (y : Int), (z : Int)) ∈ allE (n + 1) := allE_mem.2 (by dsimp only; omega)
set_option maxRecDepth 100000 in
set_option maxHeartbeats 16000000 in
theorem oddF7_0 {n s x y z m3 g c0 : Nat} (hs : s = n + 1) (hs9 : s ≤ 9) (hm3 : m3 = 3 * (s * s * s)) (hx : x < s) (hy : y < s) (hz : z < s) (hu : y + 1 < s) (hw : z + 1 < s) (E : EF → Bool) (w : World) (hr : RowB w g (tabE s E)) :
    Calls Try.prog 54 #[.slice (some ⟨g, 0, none⟩) m3 c0, .int .i64 (s : Int), .int .i64 0, .agg #[.int .i64 (x : Int), .int .i64 (y : Int), .int .i64 (z : Int)]] w fun e w' => e = .returned (.bool (oddF E ((0 : Int), (x : Int), (y : Int), (z : Int)))) ∧ Below w.heap.size w w' := by
  obtain ⟨y1, hu1⟩ : ∃ k, k = y + 1 := ⟨_, rfl⟩
  obtain ⟨z1, hw1⟩ : ∃ k, k = z + 1 := ⟨_, rfl⟩
  have hat0 := at7r_any (s := s) (a := 1) (x := x) (y := y) (z := z) hs9 (by omega) (by omega) (by omega) (by omega)
  have hal0 := all_nat (n := n) (a := 1) (x := x) (y := y) (z := z) hs (by omega) (by omega) (by omega) (by omega)
  have htt0 := tabE_get E hal0
  have hjl0 := (edg_edgN hal0).2
  rw [← hs] at htt0 hjl0
  rw [← hm3] at hjl0
  simp only [show ((1 : Nat) : Int) = 1 from rfl] at hat0 htt0 hjl0
  obtain ⟨j0, hj0⟩ : ∃ j, j = edgN s ((1 : Int), (x : Int), (y : Int), (z : Int)) := ⟨_, rfl⟩
  rw [← hj0] at hat0 htt0 hjl0
  obtain ⟨v0, hv0⟩ : ∃ v, v = E ((1 : Int), (x : Int), (y : Int), (z : Int)) := ⟨_, rfl⟩
  rw [← hv0] at htt0
  have hat1 := at7r_any (s := s) (a := 1) (x := x) (y := y) (z := z1) hs9 (by omega) (by omega) (by omega) (by omega)
  have hal1 := all_nat (n := n) (a := 1) (x := x) (y := y) (z := z1) hs (by omega) (by omega) (by omega) (by omega)
  have htt1 := tabE_get E hal1
  have hjl1 := (edg_edgN hal1).2
  rw [← hs] at htt1 hjl1
  rw [← hm3] at hjl1
  simp only [show ((1 : Nat) : Int) = 1 from rfl] at hat1 htt1 hjl1
  obtain ⟨j1, hj1⟩ : ∃ j, j = edgN s ((1 : Int), (x : Int), (y : Int), (z1 : Int)) := ⟨_, rfl⟩
  rw [← hj1] at hat1 htt1 hjl1
  obtain ⟨v1, hv1⟩ : ∃ v, v = E ((1 : Int), (x : Int), (y : Int), (z1 : Int)) := ⟨_, rfl⟩
  rw [← hv1] at htt1
  have hat2 := at7r_any (s := s) (a := 2) (x := x) (y := y) (z := z) hs9 (by omega) (by omega) (by omega) (by omega)
  have hal2 := all_nat (n := n) (a := 2) (x := x) (y := y) (z := z) hs (by omega) (by omega) (by omega) (by omega)
  have htt2 := tabE_get E hal2
  have hjl2 := (edg_edgN hal2).2
  rw [← hs] at htt2 hjl2
  rw [← hm3] at hjl2
  simp only [show ((2 : Nat) : Int) = 2 from rfl] at hat2 htt2 hjl2
  obtain ⟨j2, hj2⟩ : ∃ j, j = edgN s ((2 : Int), (x : Int), (y : Int), (z : Int)) := ⟨_, rfl⟩
  rw [← hj2] at hat2 htt2 hjl2
  obtain ⟨v2, hv2⟩ : ∃ v, v = E ((2 : Int), (x : Int), (y : Int), (z : Int)) := ⟨_, rfl⟩
  rw [← hv2] at htt2
  have hat3 := at7r_any (s := s) (a := 2) (x := x) (y := y1) (z := z) hs9 (by omega) (by omega) (by omega) (by omega)
  have hal3 := all_nat (n := n) (a := 2) (x := x) (y := y1) (z := z) hs (by omega) (by omega) (by omega) (by omega)
  have htt3 := tabE_get E hal3
  have hjl3 := (edg_edgN hal3).2
  rw [← hs] at htt3 hjl3
  rw [← hm3] at hjl3
  simp only [show ((2 : Nat) : Int) = 2 from rfl] at hat3 htt3 hjl3
  obtain ⟨j3, hj3⟩ : ∃ j, j = edgN s ((2 : Int), (x : Int), (y1 : Int), (z : Int)) := ⟨_, rfl⟩
  rw [← hj3] at hat3 htt3 hjl3
  obtain ⟨v3, hv3⟩ : ∃ v, v = E ((2 : Int), (x : Int), (y1 : Int), (z : Int)) := ⟨_, rfl⟩
  rw [← hv3] at htt3
  have hodd : oddF E ((0 : Int), (x : Int), (y : Int), (z : Int)) = ((v0 != v1) != (v2 != v3)) := by
    have h1 : add3 ((x : Int), (y : Int), (z : Int)) 2 1 = ((x : Int), (y : Int), (z1 : Int)) := by simp [add3, set3, cmp3]; omega
    have h2 : add3 ((x : Int), (y : Int), (z : Int)) 1 1 = ((x : Int), (y1 : Int), (z : Int)) := by simp [add3, set3, cmp3]; omega
    rw [hv0, hv1, hv2, hv3]
    unfold oddF
    dsimp only
    rw [show ((0 : Int) + 1) % 3 = 1 from rfl, show ((0 : Int) + 2) % 3 = 2 from rfl, h1, h2]
  rw [hodd]
  have hu2 : (y : Int) + 1 = (y1 : Int) := by omega
  have hw2 : (z : Int) + 1 = (z1 : Int) := by omega
  have hb1 : y1 ≤ 9 ∧ z1 ≤ 9 := by omega
  obtain ⟨hb1, hb2⟩ := hb1
  have hgw : g < w.heap.size := Blk.lt hr
  have HR := hide hr
  have HA := hide (And.intro hat0 (And.intro hat1 (And.intro hat2 hat3)))
  have HT := hide (And.intro htt0 (And.intro htt1 (And.intro htt2 htt3)))
  have jm0 : (j0 : Int) < (m3 : Int) := Int.ofNat_lt.2 hjl0
  have jm1 : (j1 : Int) < (m3 : Int) := Int.ofNat_lt.2 hjl1
  have jm2 : (j2 : Int) < (m3 : Int) := Int.ofNat_lt.2 hjl2
  have jm3 : (j3 : Int) < (m3 : Int) := Int.ofNat_lt.2 hjl3
  clear hr hodd hu1 hw1 hu hw hm3 hs
  clear hat0 hal0 htt0 hjl0 hj0 hv0
  clear hat1 hal1 htt1 hjl1 hj1 hv1
  clear hat2 hal2 htt2 hjl2 hj2 hv2
  clear hat3 hal3 htt3 hjl3 hj3 hv3
  go_enter Try.func54, Try.ntmps54
  go_upto_region 1 with fail
  obtain ⟨X, hX⟩ : ∃ X, X = w.alloc (.cells #[.int .i64 (x : Int), .int .i64 (y : Int), .int .i64 (z : Int)] 42) := ⟨_, rfl⟩
  rw [← hX]
  have hbX : Blk X w.heap.size 42 #[.int .i64 (x : Int), .int .i64 (y : Int), .int .i64 (z : Int)] := by rw [hX]; exact Blk.new _ _ _
  have hBX : Below w.heap.size w X := by rw [hX]; exact (Below.refl _ w).alloc (Nat.le_refl _) _
  have hzX : X.heap.size = w.heap.size + 1 := by rw [hX]; simp
  have KX := hide (And.intro hbX hBX)
  obtain ⟨a0, a1, a2⟩ := hbX.three
  clear hbX hBX hX
  go_wp2_with fail
  refine (others7_any 0 (by omega) X).mono ?_
  rintro e w1 ⟨rfl, hw3⟩
  obtain rfl : X = w1 := hw3.symm
  go_upto_region 3 with fail
  obtain ⟨Y, hY⟩ : ∃ Y, Y = X.alloc (.cells #[.int .i64 (x : Int), .int .i64 (y : Int), .int .i64 (z : Int)] 42) := ⟨_, rfl⟩
  rw [← hY]
  have hbY : Blk Y (w.heap.size + 1) 42 #[.int .i64 (x : Int), .int .i64 (y : Int), .int .i64 (z : Int)] := by rw [hY]; exact Blk.new' _ _ _ _ hzX.symm
  have hbX : Blk Y w.heap.size 42 #[.int .i64 (x : Int), .int .i64 (y : Int), .int .i64 (z : Int)] := by rw [hY]; exact KX.out.1.alloc _
  have hBY : Below w.heap.size w Y := by rw [hY]; exact KX.out.2.alloc KX.out.2.size _
  have hzY : Y.heap.size = w.heap.size + 2 := by rw [hY]; simp [hzX]
  have KY := hide (And.intro hbX (And.intro hbY hBY))
  clear a0 a1 a2
  obtain ⟨a0, a1, a2⟩ := hbY.three
  have f0 := hbY.frozen 1
  clear hbX hbY hBY hY hzX KX
  go_upto_region 4 with fail
  obtain ⟨Z, hZ⟩ : ∃ Z, Z = Y.setCell ⟨w.heap.size + 1, 1, none⟩ (.int .i64 (y1 : Int)) := ⟨_, rfl⟩
  rw [← hZ]
  have hbZ : Blk Z (w.heap.size + 1) 42 #[.int .i64 (x : Int), .int .i64 (y1 : Int), .int .i64 (z : Int)] := by rw [hZ]; exact KY.out.2.1.set_ 1 _
  have hbX : Blk Z w.heap.size 42 #[.int .i64 (x : Int), .int .i64 (y : Int), .int .i64 (z : Int)] := by rw [hZ]; exact KY.out.1.far (p := ⟨w.heap.size + 1, 1, none⟩) (by dsimp only; omega) _
  have hBZ : Below w.heap.size w Z := by rw [hZ]; exact KY.out.2.2.setCell (by dsimp only; omega) _
  have hzZ : Z.heap.size = w.heap.size + 2 := by rw [hZ]; simp [hzY]
  have KZ := hide (And.intro hbX (And.intro hbZ hBZ))
  clear a0 a1 a2 f0
  obtain ⟨a0, a1, a2⟩ := hbX.three
  clear hbX hbZ hBZ hZ hzY KY
  go_upto_region 5 with fail
  obtain ⟨U, hU⟩ : ∃ U, U = Z.alloc (.cells #[.int .i64 (x : Int), .int .i64 (y : Int), .int .i64 (z : Int)] 42) := ⟨_, rfl⟩
  rw [← hU]
  have hbU : Blk U (w.heap.size + 2) 42 #[.int .i64 (x : Int), .int .i64 (y : Int), .int .i64 (z : Int)] := by rw [hU]; exact Blk.new' _ _ _ _ hzZ.symm
  have hbX : Blk U w.heap.size 42 #[.int .i64 (x : Int), .int .i64 (y : Int), .int .i64 (z : Int)] := by rw [hU]; exact KZ.out.1.alloc _
  have hbZ : Blk U (w.heap.size + 1) 42 #[.int .i64 (x : Int), .int .i64 (y1 : Int), .int .i64 (z : Int)] := by rw [hU]; exact KZ.out.2.1.alloc _
  have hBU : Below w.heap.size w U := by rw [hU]; exact KZ.out.2.2.alloc KZ.out.2.2.size _
  have KU := hide (And.intro hbX (And.intro hbZ (And.intro hbU hBU)))
  clear a0 a1 a2
  obtain ⟨a0, a1, a2⟩ := hbU.three
  have f0 := hbU.frozen 2
  clear hbX hbZ hbU hBU hU hzZ KZ
  go_upto_region 6 with fail
  obtain ⟨T, hT⟩ : ∃ T, T = U.setCell ⟨w.heap.size + 2, 2, none⟩ (.int .i64 (z1 : Int)) := ⟨_, rfl⟩
  rw [← hT]
  have hbT : Blk T (w.heap.size + 2) 42 #[.int .i64 (x : Int), .int .i64 (y : Int), .int .i64 (z1 : Int)] := by rw [hT]; exact KU.out.2.2.1.set_ 2 _
  have hbX : Blk T w.heap.size 42 #[.int .i64 (x : Int), .int .i64 (y : Int), .int .i64 (z : Int)] := by rw [hT]; exact KU.out.1.far (p := ⟨w.heap.size + 2, 2, none⟩) (by dsimp only; omega) _
  have hbZ : Blk T (w.heap.size + 1) 42 #[.int .i64 (x : Int), .int .i64 (y1 : Int), .int .i64 (z : Int)] := by rw [hT]; exact KU.out.2.1.far (p := ⟨w.heap.size + 2, 2, none⟩) (by dsimp only; omega) _
  have hBT : Below w.heap.size w T := by rw [hT]; exact KU.out.2.2.2.setCell (by dsimp only; omega) _
  have hS : ∀ W, Below T.heap.size T W → Blk W w.heap.size 42 #[.int .i64 (x : Int), .int .i64 (y : Int), .int .i64 (z : Int)] ∧ Blk W (w.heap.size + 1) 42 #[.int .i64 (x : Int), .int .i64 (y1 : Int), .int .i64 (z : Int)] ∧ Blk W (w.heap.size + 2) 42 #[.int .i64 (x : Int), .int .i64 (y : Int), .int .i64 (z1 : Int)] ∧ RowB W g (tabE s E) := fun W hW => ⟨hbX.on hW, hbZ.on hW, hbT.on hW, (HR.out.on hBT).on hW⟩
  have HS := hide hS
  have HQ := hide (hS T.drew (Below.refl _ T).drew)
  have HB := hide hBT
  clear a0 a1 a2 f0 hbX hbZ hbT hBT hS hT KU hu2 hw2
  refine wp_region_mix (fun W => Blk W w.heap.size 42 #[.int .i64 (x : Int), .int .i64 (y : Int), .int .i64 (z : Int)] ∧ Blk W (w.heap.size + 1) 42 #[.int .i64 (x : Int), .int .i64 (y1 : Int), .int .i64 (z : Int)] ∧ Blk W (w.heap.size + 2) 42 #[.int .i64 (x : Int), .int .i64 (y : Int), .int .i64 (z1 : Int)] ∧ RowB W g (tabE s E)) [0, 1, 2, 3, 7, 8, 9, 10, 15, 16, 17, 18, 22, 23, 24, 25, 5, 6, 12, 13, 14, 20, 21, 27, 28, 29, 30, 31] [0, 1, 2, 3, 7, 8, 9, 10, 15, 16, 17, 18, 22, 23, 24, 25, 4, 5, 6, 11, 12, 13, 14, 19, 20, 21, 26, 27, 28, 29, 30, 31] mixed_ok (by kernel_rfl) ?_
  refine wpMix_q (v := .slice (some ⟨g, 0, none⟩) m3 c0) rfl rfl (fun _ _ _ h => h) HQ.out ⟨rfl, fun _ h' => by simp [go_sem]⟩ ?_
  refine wpMix_q (v := .int .i64 (s : Int)) rfl rfl (fun _ _ _ h => h) HQ.out ⟨rfl, fun _ h' => by simp [go_sem]⟩ ?_
  refine wpMix_q (v := .int .i64 1) rfl rfl (fun _ _ _ h => h) HQ.out ⟨rfl, fun _ h' => by simp [go_sem]⟩ ?_
  refine wpMix_q (v := .agg #[.int .i64 (x : Int), .int .i64 (y : Int), .int .i64 (z : Int)]) rfl rfl (fun _ _ _ h => h) HQ.out ⟨rfl, fun _ h' => by obtain ⟨b0, b1, b2⟩ := h'.1.three; simp [go_sem, b0, b1, b2]⟩ ?_
  refine wpMix_q (v := .slice (some ⟨g, 0, none⟩) m3 c0) rfl rfl (fun _ _ _ h => h) HQ.out ⟨rfl, fun _ h' => by simp [go_sem]⟩ ?_
  try simp only [List.getElem_toArray, List.getElem_cons_succ, List.getElem_cons_zero, Act.put, List.setIfInBounds_toArray, List.set_cons_succ, List.set_cons_zero]
  refine wpMix_q (v := .int .i64 (s : Int)) rfl rfl (fun _ _ _ h => h) HQ.out ⟨rfl, fun _ h' => by simp [go_sem]⟩ ?_
  refine wpMix_q (v := .int .i64 1) rfl rfl (fun _ _ _ h => h) HQ.out ⟨rfl, fun _ h' => by simp [go_sem]⟩ ?_
  refine wpMix_q (v := .agg #[.int .i64 (x : Int), .int .i64 (y : Int), .int .i64 (z1 : Int)]) rfl rfl (fun _ _ _ h => h) HQ.out ⟨rfl, fun _ h' => by obtain ⟨b0, b1, b2⟩ := h'.2.2.1.three; simp [go_sem, b0, b1, b2]⟩ ?_
  refine wpMix_q (v := .slice (some ⟨g, 0, none⟩) m3 c0) rfl rfl (fun _ _ _ h => h) HQ.out ⟨rfl, fun _ h' => by simp [go_sem]⟩ ?_
  refine wpMix_q (v := .int .i64 (s : Int)) rfl rfl (fun _ _ _ h => h) HQ.out ⟨rfl, fun _ h' => by simp [go_sem]⟩ ?_
  try simp only [List.getElem_toArray, List.getElem_cons_succ, List.getElem_cons_zero, Act.put, List.setIfInBounds_toArray, List.set_cons_succ, List.set_cons_zero]
  refine wpMix_q (v := .int .i64 2) rfl rfl (fun _ _ _ h => h) HQ.out ⟨rfl, fun _ h' => by simp [go_sem]⟩ ?_
  refine wpMix_q (v := .agg #[.int .i64 (x : Int), .int .i64 (y : Int), .int .i64 (z : Int)]) rfl rfl (fun _ _ _ h => h) HQ.out ⟨rfl, fun _ h' => by obtain ⟨b0, b1, b2⟩ := h'.1.three; simp [go_sem, b0, b1, b2]⟩ ?_
  refine wpMix_q (v := .slice (some ⟨g, 0, none⟩) m3 c0) rfl rfl (fun _ _ _ h => h) HQ.out ⟨rfl, fun _ h' => by simp [go_sem]⟩ ?_
  refine wpMix_q (v := .int .i64 (s : Int)) rfl rfl (fun _ _ _ h => h) HQ.out ⟨rfl, fun _ h' => by simp [go_sem]⟩ ?_
  refine wpMix_q (v := .int .i64 2) rfl rfl (fun _ _ _ h => h) HQ.out ⟨rfl, fun _ h' => by simp [go_sem]⟩ ?_
  try simp only [List.getElem_toArray, List.getElem_cons_succ, List.getElem_cons_zero, Act.put, List.setIfInBounds_toArray, List.set_cons_succ, List.set_cons_zero]
  refine wpMix_q (v := .agg #[.int .i64 (x : Int), .int .i64 (y1 : Int), .int .i64 (z : Int)]) rfl rfl (fun _ _ _ h => h) HQ.out ⟨rfl, fun _ h' => by obtain ⟨b0, b1, b2⟩ := h'.2.1.three; simp [go_sem, b0, b1, b2]⟩ ?_
  refine wpMix_n rfl rfl ?_
  go_wp2_with fail
  refine (HA.out.1 T.drew).mono ?_
  rintro e W0 ⟨rfl, hB⟩
  have hT0 : Below T.heap.size T W0 := (Below.refl T.heap.size T).drew.trans hB
  have HT0 := hide hT0
  have HQ0 := hide (HS.out W0 hT0)
  clear hB hT0
  go_wp2_with fail
  refine ⟨fun _ => HQ0.out, ?_⟩
  try simp only [List.getElem_toArray, List.getElem_cons_succ, List.getElem_cons_zero, Act.put, List.setIfInBounds_toArray, List.set_cons_succ, List.set_cons_zero]
  refine wpMix_q (v := .pointer (some ⟨g, j0, none⟩)) rfl rfl (fun _ _ _ h => h) HQ0.out ⟨rfl, fun _ h' => by simp [go_sem, jm0]⟩ ?_
  refine wpMix_q (v := .bool v0) rfl rfl (fun _ _ _ h => h) HQ0.out ⟨rfl, fun _ h' => by have e := h'.2.2.2.cell HT.out.1; simp [go_sem, e]⟩ ?_
  refine wpMix_n rfl rfl ?_
  go_wp2_with fail
  refine (HA.out.2.1 W0).mono ?_
  rintro e W1 ⟨rfl, hB⟩
  have hT1 : Below T.heap.size T W1 := HT0.out.trans (hB.mono HT0.out.size)
  have HT1 := hide hT1
  have HQ1 := hide (HS.out W1 hT1)
  clear hB hT1
  go_wp2_with fail
  refine ⟨fun _ => HQ1.out, ?_⟩
  try simp only [List.getElem_toArray, List.getElem_cons_succ, List.getElem_cons_zero, Act.put, List.setIfInBounds_toArray, List.set_cons_succ, List.set_cons_zero]
  refine wpMix_q (v := .pointer (some ⟨g, j1, none⟩)) rfl rfl (fun _ _ _ h => h) HQ1.out ⟨rfl, fun _ h' => by simp [go_sem, jm1]⟩ ?_
  refine wpMix_q (v := .bool v1) rfl rfl (fun _ _ _ h => h) HQ1.out ⟨rfl, fun _ h' => by have e := h'.2.2.2.cell HT.out.2.1; simp [go_sem, e]⟩ ?_
  try simp only [List.getElem_toArray, List.getElem_cons_succ, List.getElem_cons_zero, Act.put, List.setIfInBounds_toArray, List.set_cons_succ, List.set_cons_zero]
  refine wpMix_q (v := .bool (v0 != v1)) rfl rfl (fun _ _ _ h => h) HQ1.out ⟨rfl, fun _ h' => by cases v0 <;> cases v1 <;> simp [go_sem]⟩ ?_
  refine wpMix_n rfl rfl ?_
  go_wp2_with fail
  refine (HA.out.2.2.1 W1).mono ?_
  rintro e W2 ⟨rfl, hB⟩
  have hT2 : Below T.heap.size T W2 := HT1.out.trans (hB.mono HT1.out.size)
  have HT2 := hide hT2
  have HQ2 := hide (HS.out W2 hT2)
  clear hB hT2
  go_wp2_with fail
  refine ⟨fun _ => HQ2.out, ?_⟩
  try simp only [List.getElem_toArray, List.getElem_cons_succ, List.getElem_cons_zero, Act.put, List.setIfInBounds_toArray, List.set_cons_succ, List.set_cons_zero]
  refine wpMix_q (v := .pointer (some ⟨g, j2, none⟩)) rfl rfl (fun _ _ _ h => h) HQ2.out ⟨rfl, fun _ h' => by simp [go_sem, jm2]⟩ ?_
  refine wpMix_q (v := .bool v2) rfl rfl (fun _ _ _ h => h) HQ2.out ⟨rfl, fun _ h' => by have e := h'.2.2.2.cell HT.out.2.2.1; simp [go_sem, e]⟩ ?_
  refine wpMix_n rfl rfl ?_
  go_wp2_with fail
  refine (HA.out.2.2.2 W2).mono ?_
  rintro e W3 ⟨rfl, hB⟩
  have hT3 : Below T.heap.size T W3 := HT2.out.trans (hB.mono HT2.out.size)
  have HT3 := hide hT3
  have HQ3 := hide (HS.out W3 hT3)
  clear hB hT3
  go_wp2_with fail
  refine ⟨fun _ => HQ3.out, ?_⟩
  try simp only [List.getElem_toArray, List.getElem_cons_succ, List.getElem_cons_zero, Act.put, List.setIfInBounds_toArray, List.set_cons_succ, List.set_cons_zero]
  refine wpMix_q (v := .pointer (some ⟨g, j3, none⟩)) rfl rfl (fun _ _ _ h => h) HQ3.out ⟨rfl, fun _ h' => by simp [go_sem, jm3]⟩ ?_
  refine wpMix_q (v := .bool v3) rfl rfl (fun _ _ _ h => h) HQ3.out ⟨rfl, fun _ h' => by have e := h'.2.2.2.cell HT.out.2.2.2; simp [go_sem, e]⟩ ?_
  try simp only [List.getElem_toArray, List.getElem_cons_succ, List.getElem_cons_zero, Act.put, List.setIfInBounds_toArray, List.set_cons_succ, List.set_cons_zero]
  refine wpMix_q (v := .bool (v2 != v3)) rfl rfl (fun _ _ _ h => h) HQ3.out ⟨rfl, fun _ h' => by cases v2 <;> cases v3 <;> simp [go_sem]⟩ ?_
  refine wpMix_q (v := .bool ((v0 != v1) != (v2 != v3))) rfl rfl (fun _ _ _ h => h) HQ3.out ⟨rfl, fun _ h' => by cases v0 <;> cases v1 <;> cases v2 <;> cases v3 <;> simp [go_sem]⟩ ?_
  refine wpMix_q (v := .bool ((v0 != v1) != (v2 != v3))) rfl rfl (fun _ _ _ h => h) HQ3.out ⟨rfl, fun _ h' => by simp [go_sem]⟩ ?_
  try simp only [List.getElem_toArray, List.getElem_cons_succ, List.getElem_cons_zero, Act.put, List.setIfInBounds_toArray, List.set_cons_succ, List.set_cons_zero]
  refine wpMix_nil ?_
  go_wp2_with fail
  go_ret
  exact ⟨rfl, HB.out.trans (HT3.out.mono HB.out.size)⟩
set_option maxRecDepth 100000 in
set_option maxHeartbeats 16000000 in
theorem oddF7_1 {n s x y z m3 g c0 : Nat} (hs : s = n + 1) (hs9 : s ≤ 9) (hm3 : m3 = 3 * (s * s * s)) (hx : x < s) (hy : y < s) (hz : z < s) (hu : z + 1 < s) (hw : x + 1 < s) (E : EF → Bool) (w : World) (hr : RowB w g (tabE s E)) :
    Calls Try.prog 54 #[.slice (some ⟨g, 0, none⟩) m3 c0, .int .i64 (s : Int), .int .i64 1, .agg #[.int .i64 (x : Int), .int .i64 (y : Int), .int .i64 (z : Int)]] w fun e w' => e = .returned (.bool (oddF E ((1 : Int), (x : Int), (y : Int), (z : Int)))) ∧ Below w.heap.size w w' := by
  obtain ⟨z1, hu1⟩ : ∃ k, k = z + 1 := ⟨_, rfl⟩
  obtain ⟨x1, hw1⟩ : ∃ k, k = x + 1 := ⟨_, rfl⟩
  have hat0 := at7r_any (s := s) (a := 2) (x := x) (y := y) (z := z) hs9 (by omega) (by omega) (by omega) (by omega)
  have hal0 := all_nat (n := n) (a := 2) (x := x) (y := y) (z := z) hs (by omega) (by omega) (by omega) (by omega)
  have htt0 := tabE_get E hal0
  have hjl0 := (edg_edgN hal0).2
  rw [← hs] at htt0 hjl0
  rw [← hm3] at hjl0
  simp only [show ((2 : Nat) : Int) = 2 from rfl] at hat0 htt0 hjl0
  obtain ⟨j0, hj0⟩ : ∃ j, j = edgN s ((2 : Int), (x : Int), (y : Int), (z : Int)) := ⟨_, rfl⟩
  rw [← hj0] at hat0 htt0 hjl0
  obtain ⟨v0, hv0⟩ : ∃ v, v = E ((2 : Int), (x : Int), (y : Int), (z : Int)) := ⟨_, rfl⟩
  rw [← hv0] at htt0
  have hat1 := at7r_any (s := s) (a := 2) (x := x1) (y := y) (z := z) hs9 (by omega) (by omega) (by omega) (by omega)
  have hal1 := all_nat (n := n) (a := 2) (x := x1) (y := y) (z := z) hs (by omega) (by omega) (by omega) (by omega)
  have htt1 := tabE_get E hal1
  have hjl1 := (edg_edgN hal1).2
  rw [← hs] at htt1 hjl1
  rw [← hm3] at hjl1
  simp only [show ((2 : Nat) : Int) = 2 from rfl] at hat1 htt1 hjl1
  obtain ⟨j1, hj1⟩ : ∃ j, j = edgN s ((2 : Int), (x1 : Int), (y : Int), (z : Int)) := ⟨_, rfl⟩
  rw [← hj1] at hat1 htt1 hjl1
  obtain ⟨v1, hv1⟩ : ∃ v, v = E ((2 : Int), (x1 : Int), (y : Int), (z : Int)) := ⟨_, rfl⟩
  rw [← hv1] at htt1
  have hat2 := at7r_any (s := s) (a := 0) (x := x) (y := y) (z := z) hs9 (by omega) (by omega) (by omega) (by omega)
  have hal2 := all_nat (n := n) (a := 0) (x := x) (y := y) (z := z) hs (by omega) (by omega) (by omega) (by omega)
  have htt2 := tabE_get E hal2
  have hjl2 := (edg_edgN hal2).2
  rw [← hs] at htt2 hjl2
  rw [← hm3] at hjl2
  simp only [show ((0 : Nat) : Int) = 0 from rfl] at hat2 htt2 hjl2
  obtain ⟨j2, hj2⟩ : ∃ j, j = edgN s ((0 : Int), (x : Int), (y : Int), (z : Int)) := ⟨_, rfl⟩
  rw [← hj2] at hat2 htt2 hjl2
  obtain ⟨v2, hv2⟩ : ∃ v, v = E ((0 : Int), (x : Int), (y : Int), (z : Int)) := ⟨_, rfl⟩
  rw [← hv2] at htt2
  have hat3 := at7r_any (s := s) (a := 0) (x := x) (y := y) (z := z1) hs9 (by omega) (by omega) (by omega) (by omega)
  have hal3 := all_nat (n := n) (a := 0) (x := x) (y := y) (z := z1) hs (by omega) (by omega) (by omega) (by omega)
  have htt3 := tabE_get E hal3
  have hjl3 := (edg_edgN hal3).2
  rw [← hs] at htt3 hjl3
  rw [← hm3] at hjl3
  simp only [show ((0 : Nat) : Int) = 0 from rfl] at hat3 htt3 hjl3
  obtain ⟨j3, hj3⟩ : ∃ j, j = edgN s ((0 : Int), (x : Int), (y : Int), (z1 : Int)) := ⟨_, rfl⟩
  rw [← hj3] at hat3 htt3 hjl3
  obtain ⟨v3, hv3⟩ : ∃ v, v = E ((0 : Int), (x : Int), (y : Int), (z1 : Int)) := ⟨_, rfl⟩
  rw [← hv3] at htt3
  have hodd : oddF E ((1 : Int), (x : Int), (y : Int), (z : Int)) = ((v0 != v1) != (v2 != v3)) := by
    have h1 : add3 ((x : Int), (y : Int), (z : Int)) 0 1 = ((x1 : Int), (y : Int), (z : Int)) := by simp [add3, set3, cmp3]; omega
    have h2 : add3 ((x : Int), (y : Int), (z : Int)) 2 1 = ((x : Int), (y : Int), (z1 : Int)) := by simp [add3, set3, cmp3]; omega
    rw [hv0, hv1, hv2, hv3]
    unfold oddF
    dsimp only
    rw [show ((1 : Int) + 1) % 3 = 2 from rfl, show ((1 : Int) + 2) % 3 = 0 from rfl, h1, h2]
  rw [hodd]
  have hu2 : (z : Int) + 1 = (z1 : Int) := by omega
  have hw2 : (x : Int) + 1 = (x1 : Int) := by omega
  have hb1 : z1 ≤ 9 ∧ x1 ≤ 9 := by omega
  obtain ⟨hb1, hb2⟩ := hb1
  have hgw : g < w.heap.size := Blk.lt hr
  have HR := hide hr
  have HA := hide (And.intro hat0 (And.intro hat1 (And.intro hat2 hat3)))
  have HT := hide (And.intro htt0 (And.intro htt1 (And.intro htt2 htt3)))
  have jm0 : (j0 : Int) < (m3 : Int) := Int.ofNat_lt.2 hjl0
  have jm1 : (j1 : Int) < (m3 : Int) := Int.ofNat_lt.2 hjl1
  have jm2 : (j2 : Int) < (m3 : Int) := Int.ofNat_lt.2 hjl2
  have jm3 : (j3 : Int) < (m3 : Int) := Int.ofNat_lt.2 hjl3
  clear hr hodd hu1 hw1 hu hw hm3 hs
  clear hat0 hal0 htt0 hjl0 hj0 hv0
  clear hat1 hal1 htt1 hjl1 hj1 hv1
  clear hat2 hal2 htt2 hjl2 hj2 hv2
  clear hat3 hal3 htt3 hjl3 hj3 hv3
  go_enter Try.func54, Try.ntmps54
  go_upto_region 1 with fail
  obtain ⟨X, hX⟩ : ∃ X, X = w.alloc (.cells #[.int .i64 (x : Int), .int .i64 (y : Int), .int .i64 (z : Int)] 42) := ⟨_, rfl⟩
  rw [← hX]
  have hbX : Blk X w.heap.size 42 #[.int .i64 (x : Int), .int .i64 (y : Int), .int .i64 (z : Int)] := by rw [hX]; exact Blk.new _ _ _
  have hBX : Below w.heap.size w X := by rw [hX]; exact (Below.refl _ w).alloc (Nat.le_refl _) _
  have hzX : X.heap.size = w.heap.size + 1 := by rw [hX]; simp
  have KX := hide (And.intro hbX hBX)
  obtain ⟨a0, a1, a2⟩ := hbX.three
  clear hbX hBX hX
  go_wp2_with fail
  refine (others7_any 1 (by omega) X).mono ?_
  rintro e w1 ⟨rfl, hw3⟩
  obtain rfl : X = w1 := hw3.symm
  go_upto_region 3 with fail
  obtain ⟨Y, hY⟩ : ∃ Y, Y = X.alloc (.cells #[.int .i64 (x : Int), .int .i64 (y : Int), .int .i64 (z : Int)] 42) := ⟨_, rfl⟩
  rw [← hY]
  have hbY : Blk Y (w.heap.size + 1) 42 #[.int .i64 (x : Int), .int .i64 (y : Int), .int .i64 (z : Int)] := by rw [hY]; exact Blk.new' _ _ _ _ hzX.symm
  have hbX : Blk Y w.heap.size 42 #[.int .i64 (x : Int), .int .i64 (y : Int), .int .i64 (z : Int)] := by rw [hY]; exact KX.out.1.alloc _
  have hBY : Below w.heap.size w Y := by rw [hY]; exact KX.out.2.alloc KX.out.2.size _
  have hzY : Y.heap.size = w.heap.size + 2 := by rw [hY]; simp [hzX]
  have KY := hide (And.intro hbX (And.intro hbY hBY))
  clear a0 a1 a2
  obtain ⟨a0, a1, a2⟩ := hbY.three
  have f0 := hbY.frozen 2
  clear hbX hbY hBY hY hzX KX
  go_upto_region 4 with fail
  obtain ⟨Z, hZ⟩ : ∃ Z, Z = Y.setCell ⟨w.heap.size + 1, 2, none⟩ (.int .i64 (z1 : Int)) := ⟨_, rfl⟩
  rw [← hZ]
  have hbZ : Blk Z (w.heap.size + 1) 42 #[.int .i64 (x : Int), .int .i64 (y : Int), .int .i64 (z1 : Int)] := by rw [hZ]; exact KY.out.2.1.set_ 2 _
  have hbX : Blk Z w.heap.size 42 #[.int .i64 (x : Int), .int .i64 (y : Int), .int .i64 (z : Int)] := by rw [hZ]; exact KY.out.1.far (p := ⟨w.heap.size + 1, 2, none⟩) (by dsimp only; omega) _
  have hBZ : Below w.heap.size w Z := by rw [hZ]; exact KY.out.2.2.setCell (by dsimp only; omega) _
  have hzZ : Z.heap.size = w.heap.size + 2 := by rw [hZ]; simp [hzY]
  have KZ := hide (And.intro hbX (And.intro hbZ hBZ))
  clear a0 a1 a2 f0
  obtain ⟨a0, a1, a2⟩ := hbX.three
  clear hbX hbZ hBZ hZ hzY KY
  go_upto_region 5 with fail
  obtain ⟨U, hU⟩ : ∃ U, U = Z.alloc (.cells #[.int .i64 (x : Int), .int .i64 (y : Int), .int .i64 (z : Int)] 42) := ⟨_, rfl⟩
  rw [← hU]
  have hbU : Blk U (w.heap.size + 2) 42 #[.int .i64 (x : Int), .int .i64 (y : Int), .int .i64 (z : Int)] := by rw [hU]; exact Blk.new' _ _ _ _ hzZ.symm
  have hbX : Blk U w.heap.size 42 #[.int .i64 (x : Int), .int .i64 (y : Int), .int .i64 (z : Int)] := by rw [hU]; exact KZ.out.1.alloc _
  have hbZ : Blk U (w.heap.size + 1) 42 #[.int .i64 (x : Int), .int .i64 (y : Int), .int .i64 (z1 : Int)] := by rw [hU]; exact KZ.out.2.1.alloc _
  have hBU : Below w.heap.size w U := by rw [hU]; exact KZ.out.2.2.alloc KZ.out.2.2.size _
  have KU := hide (And.intro hbX (And.intro hbZ (And.intro hbU hBU)))
  clear a0 a1 a2
  obtain ⟨a0, a1, a2⟩ := hbU.three
  have f0 := hbU.frozen 0
  clear hbX hbZ hbU hBU hU hzZ KZ
  go_upto_region 6 with fail
  obtain ⟨T, hT⟩ : ∃ T, T = U.setCell ⟨w.heap.size + 2, 0, none⟩ (.int .i64 (x1 : Int)) := ⟨_, rfl⟩
  rw [← hT]
  have hbT : Blk T (w.heap.size + 2) 42 #[.int .i64 (x1 : Int), .int .i64 (y : Int), .int .i64 (z : Int)] := by rw [hT]; exact KU.out.2.2.1.set_ 0 _
  have hbX : Blk T w.heap.size 42 #[.int .i64 (x : Int), .int .i64 (y : Int), .int .i64 (z : Int)] := by rw [hT]; exact KU.out.1.far (p := ⟨w.heap.size + 2, 0, none⟩) (by dsimp only; omega) _
  have hbZ : Blk T (w.heap.size + 1) 42 #[.int .i64 (x : Int), .int .i64 (y : Int), .int .i64 (z1 : Int)] := by rw [hT]; exact KU.out.2.1.far (p := ⟨w.heap.size + 2, 0, none⟩) (by dsimp only; omega) _
  have hBT : Below w.heap.size w T := by rw [hT]; exact KU.out.2.2.2.setCell (by dsimp only; omega) _
  have hS : ∀ W, Below T.heap.size T W → Blk W w.heap.size 42 #[.int .i64 (x : Int), .int .i64 (y : Int), .int .i64 (z : Int)] ∧ Blk W (w.heap.size + 1) 42 #[.int .i64 (x : Int), .int .i64 (y : Int), .int .i64 (z1 : Int)] ∧ Blk W (w.heap.size + 2) 42 #[.int .i64 (x1 : Int), .int .i64 (y : Int), .int .i64 (z : Int)] ∧ RowB W g (tabE s E) := fun W hW => ⟨hbX.on hW, hbZ.on hW, hbT.on hW, (HR.out.on hBT).on hW⟩
  have HS := hide hS
  have HQ := hide (hS T.drew (Below.refl _ T).drew)
  have HB := hide hBT
  clear a0 a1 a2 f0 hbX hbZ hbT hBT hS hT KU hu2 hw2
  refine wp_region_mix (fun W => Blk W w.heap.size 42 #[.int .i64 (x : Int), .int .i64 (y : Int), .int .i64 (z : Int)] ∧ Blk W (w.heap.size + 1) 42 #[.int .i64 (x : Int), .int .i64 (y : Int), .int .i64 (z1 : Int)] ∧ Blk W (w.heap.size + 2) 42 #[.int .i64 (x1 : Int), .int .i64 (y : Int), .int .i64 (z : Int)] ∧ RowB W g (tabE s E)) [0, 1, 2, 3, 7, 8, 9, 10, 15, 16, 17, 18, 22, 23, 24, 25, 5, 6, 12, 13, 14, 20, 21, 27, 28, 29, 30, 31] [0, 1, 2, 3, 7, 8, 9, 10, 15, 16, 17, 18, 22, 23, 24, 25, 4, 5, 6, 11, 12, 13, 14, 19, 20, 21, 26, 27, 28, 29, 30, 31] mixed_ok (by kernel_rfl) ?_
  refine wpMix_q (v := .slice (some ⟨g, 0, none⟩) m3 c0) rfl rfl (fun _ _ _ h => h) HQ.out ⟨rfl, fun _ h' => by simp [go_sem]⟩ ?_
  refine wpMix_q (v := .int .i64 (s : Int)) rfl rfl (fun _ _ _ h => h) HQ.out ⟨rfl, fun _ h' => by simp [go_sem]⟩ ?_
  refine wpMix_q (v := .int .i64 2) rfl rfl (fun _ _ _ h => h) HQ.out ⟨rfl, fun _ h' => by simp [go_sem]⟩ ?_
  refine wpMix_q (v := .agg #[.int .i64 (x : Int), .int .i64 (y : Int), .int .i64 (z : Int)]) rfl rfl (fun _ _ _ h => h) HQ.out ⟨rfl, fun _ h' => by obtain ⟨b0, b1, b2⟩ := h'.1.three; simp [go_sem, b0, b1, b2]⟩ ?_
  refine wpMix_q (v := .slice (some ⟨g, 0, none⟩) m3 c0) rfl rfl (fun _ _ _ h => h) HQ.out ⟨rfl, fun _ h' => by simp [go_sem]⟩ ?_
  try simp only [List.getElem_toArray, List.getElem_cons_succ, List.getElem_cons_zero, Act.put, List.setIfInBounds_toArray, List.set_cons_succ, List.set_cons_zero]
  refine wpMix_q (v := .int .i64 (s : Int)) rfl rfl (fun _ _ _ h => h) HQ.out ⟨rfl, fun _ h' => by simp [go_sem]⟩ ?_
  refine wpMix_q (v := .int .i64 2) rfl rfl (fun _ _ _ h => h) HQ.out ⟨rfl, fun _ h' => by simp [go_sem]⟩ ?_
  refine wpMix_q (v := .agg #[.int .i64 (x1 : Int), .int .i64 (y : Int), .int .i64 (z : Int)]) rfl rfl (fun _ _ _ h => h) HQ.out ⟨rfl, fun _ h' => by obtain ⟨b0, b1, b2⟩ := h'.2.2.1.three; simp [go_sem, b0, b1, b2]⟩ ?_
  refine wpMix_q (v := .slice (some ⟨g, 0, none⟩) m3 c0) rfl rfl (fun _ _ _ h => h) HQ.out ⟨rfl, fun _ h' => by simp [go_sem]⟩ ?_
  refine wpMix_q (v := .int .i64 (s : Int)) rfl rfl (fun _ _ _ h => h) HQ.out ⟨rfl, fun _ h' => by simp [go_sem]⟩ ?_
  try simp only [List.getElem_toArray, List.getElem_cons_succ, List.getElem_cons_zero, Act.put, List.setIfInBounds_toArray, List.set_cons_succ, List.set_cons_zero]
  refine wpMix_q (v := .int .i64 0) rfl rfl (fun _ _ _ h => h) HQ.out ⟨rfl, fun _ h' => by simp [go_sem]⟩ ?_
  refine wpMix_q (v := .agg #[.int .i64 (x : Int), .int .i64 (y : Int), .int .i64 (z : Int)]) rfl rfl (fun _ _ _ h => h) HQ.out ⟨rfl, fun _ h' => by obtain ⟨b0, b1, b2⟩ := h'.1.three; simp [go_sem, b0, b1, b2]⟩ ?_
  refine wpMix_q (v := .slice (some ⟨g, 0, none⟩) m3 c0) rfl rfl (fun _ _ _ h => h) HQ.out ⟨rfl, fun _ h' => by simp [go_sem]⟩ ?_
  refine wpMix_q (v := .int .i64 (s : Int)) rfl rfl (fun _ _ _ h => h) HQ.out ⟨rfl, fun _ h' => by simp [go_sem]⟩ ?_
  refine wpMix_q (v := .int .i64 0) rfl rfl (fun _ _ _ h => h) HQ.out ⟨rfl, fun _ h' => by simp [go_sem]⟩ ?_
  try simp only [List.getElem_toArray, List.getElem_cons_succ, List.getElem_cons_zero, Act.put, List.setIfInBounds_toArray, List.set_cons_succ, List.set_cons_zero]
  refine wpMix_q (v := .agg #[.int .i64 (x : Int), .int .i64 (y : Int), .int .i64 (z1 : Int)]) rfl rfl (fun _ _ _ h => h) HQ.out ⟨rfl, fun _ h' => by obtain ⟨b0, b1, b2⟩ := h'.2.1.three; simp [go_sem, b0, b1, b2]⟩ ?_
  refine wpMix_n rfl rfl ?_
  go_wp2_with fail
  refine (HA.out.1 T.drew).mono ?_
  rintro e W0 ⟨rfl, hB⟩
  have hT0 : Below T.heap.size T W0 := (Below.refl T.heap.size T).drew.trans hB
  have HT0 := hide hT0
  have HQ0 := hide (HS.out W0 hT0)
  clear hB hT0
  go_wp2_with fail
  refine ⟨fun _ => HQ0.out, ?_⟩
  try simp only [List.getElem_toArray, List.getElem_cons_succ, List.getElem_cons_zero, Act.put, List.setIfInBounds_toArray, List.set_cons_succ, List.set_cons_zero]
  refine wpMix_q (v := .pointer (some ⟨g, j0, none⟩)) rfl rfl (fun _ _ _ h => h) HQ0.out ⟨rfl, fun _ h' => by simp [go_sem, jm0]⟩ ?_
  refine wpMix_q (v := .bool v0) rfl rfl (fun _ _ _ h => h) HQ0.out ⟨rfl, fun _ h' => by have e := h'.2.2.2.cell HT.out.1; simp [go_sem, e]⟩ ?_
  refine wpMix_n rfl rfl ?_
  go_wp2_with fail
  refine (HA.out.2.1 W0).mono ?_
  rintro e W1 ⟨rfl, hB⟩
  have hT1 : Below T.heap.size T W1 := HT0.out.trans (hB.mono HT0.out.size)
  have HT1 := hide hT1
  have HQ1 := hide (HS.out W1 hT1)
  clear hB hT1
  go_wp2_with fail
  refine ⟨fun _ => HQ1.out, ?_⟩
  try simp only [List.getElem_toArray, List.getElem_cons_succ, List.getElem_cons_zero, Act.put, List.setIfInBounds_toArray, List.set_cons_succ, List.set_cons_zero]
  refine wpMix_q (v := .pointer (some ⟨g, j1, none⟩)) rfl rfl (fun _ _ _ h => h) HQ1.out ⟨rfl, fun _ h' => by simp [go_sem, jm1]⟩ ?_
  refine wpMix_q (v := .bool v1) rfl rfl (fun _ _ _ h => h) HQ1.out ⟨rfl, fun _ h' => by have e := h'.2.2.2.cell HT.out.2.1; simp [go_sem, e]⟩ ?_
  try simp only [List.getElem_toArray, List.getElem_cons_succ, List.getElem_cons_zero, Act.put, List.setIfInBounds_toArray, List.set_cons_succ, List.set_cons_zero]
  refine wpMix_q (v := .bool (v0 != v1)) rfl rfl (fun _ _ _ h => h) HQ1.out ⟨rfl, fun _ h' => by cases v0 <;> cases v1 <;> simp [go_sem]⟩ ?_
  refine wpMix_n rfl rfl ?_
  go_wp2_with fail
  refine (HA.out.2.2.1 W1).mono ?_
  rintro e W2 ⟨rfl, hB⟩
  have hT2 : Below T.heap.size T W2 := HT1.out.trans (hB.mono HT1.out.size)
  have HT2 := hide hT2
  have HQ2 := hide (HS.out W2 hT2)
  clear hB hT2
  go_wp2_with fail
  refine ⟨fun _ => HQ2.out, ?_⟩
  try simp only [List.getElem_toArray, List.getElem_cons_succ, List.getElem_cons_zero, Act.put, List.setIfInBounds_toArray, List.set_cons_succ, List.set_cons_zero]
  refine wpMix_q (v := .pointer (some ⟨g, j2, none⟩)) rfl rfl (fun _ _ _ h => h) HQ2.out ⟨rfl, fun _ h' => by simp [go_sem, jm2]⟩ ?_
  refine wpMix_q (v := .bool v2) rfl rfl (fun _ _ _ h => h) HQ2.out ⟨rfl, fun _ h' => by have e := h'.2.2.2.cell HT.out.2.2.1; simp [go_sem, e]⟩ ?_
  refine wpMix_n rfl rfl ?_
  go_wp2_with fail
  refine (HA.out.2.2.2 W2).mono ?_
  rintro e W3 ⟨rfl, hB⟩
  have hT3 : Below T.heap.size T W3 := HT2.out.trans (hB.mono HT2.out.size)
  have HT3 := hide hT3
  have HQ3 := hide (HS.out W3 hT3)
  clear hB hT3
  go_wp2_with fail
  refine ⟨fun _ => HQ3.out, ?_⟩
  try simp only [List.getElem_toArray, List.getElem_cons_succ, List.getElem_cons_zero, Act.put, List.setIfInBounds_toArray, List.set_cons_succ, List.set_cons_zero]
  refine wpMix_q (v := .pointer (some ⟨g, j3, none⟩)) rfl rfl (fun _ _ _ h => h) HQ3.out ⟨rfl, fun _ h' => by simp [go_sem, jm3]⟩ ?_
  refine wpMix_q (v := .bool v3) rfl rfl (fun _ _ _ h => h) HQ3.out ⟨rfl, fun _ h' => by have e := h'.2.2.2.cell HT.out.2.2.2; simp [go_sem, e]⟩ ?_
  try simp only [List.getElem_toArray, List.getElem_cons_succ, List.getElem_cons_zero, Act.put, List.setIfInBounds_toArray, List.set_cons_succ, List.set_cons_zero]
  refine wpMix_q (v := .bool (v2 != v3)) rfl rfl (fun _ _ _ h => h) HQ3.out ⟨rfl, fun _ h' => by cases v2 <;> cases v3 <;> simp [go_sem]⟩ ?_
  refine wpMix_q (v := .bool ((v0 != v1) != (v2 != v3))) rfl rfl (fun _ _ _ h => h) HQ3.out ⟨rfl, fun _ h' => by cases v0 <;> cases v1 <;> cases v2 <;> cases v3 <;> simp [go_sem]⟩ ?_
  refine wpMix_q (v := .bool ((v0 != v1) != (v2 != v3))) rfl rfl (fun _ _ _ h => h) HQ3.out ⟨rfl, fun _ h' => by simp [go_sem]⟩ ?_
  try simp only [List.getElem_toArray, List.getElem_cons_succ, List.getElem_cons_zero, Act.put, List.setIfInBounds_toArray, List.set_cons_succ, List.set_cons_zero]
  refine wpMix_nil ?_
  go_wp2_with fail
  go_ret
  exact ⟨rfl, HB.out.trans (HT3.out.mono HB.out.size)⟩
set_option maxRecDepth 100000 in
set_option maxHeartbeats 16000000 in
theorem oddF7_2 {n s x y z m3 g c0 : Nat} (hs : s = n + 1) (hs9 : s ≤ 9) (hm3 : m3 = 3 * (s * s * s)) (hx : x < s) (hy : y < s) (hz : z < s) (hu : x + 1 < s) (hw : y + 1 < s) (E : EF → Bool) (w : World) (hr : RowB w g (tabE s E)) :
    Calls Try.prog 54 #[.slice (some ⟨g, 0, none⟩) m3 c0, .int .i64 (s : Int), .int .i64 2, .agg #[.int .i64 (x : Int), .int .i64 (y : Int), .int .i64 (z : Int)]] w fun e w' => e = .returned (.bool (oddF E ((2 : Int), (x : Int), (y : Int), (z : Int)))) ∧ Below w.heap.size w w' := by
  obtain ⟨x1, hu1⟩ : ∃ k, k = x + 1 := ⟨_, rfl⟩
  obtain ⟨y1, hw1⟩ : ∃ k, k = y + 1 := ⟨_, rfl⟩
  have hat0 := at7r_any (s := s) (a := 0) (x := x) (y := y) (z := z) hs9 (by omega) (by omega) (by omega) (by omega)
  have hal0 := all_nat (n := n) (a := 0) (x := x) (y := y) (z := z) hs (by omega) (by omega) (by omega) (by omega)
  have htt0 := tabE_get E hal0
  have hjl0 := (edg_edgN hal0).2
  rw [← hs] at htt0 hjl0
  rw [← hm3] at hjl0
  simp only [show ((0 : Nat) : Int) = 0 from rfl] at hat0 htt0 hjl0
  obtain ⟨j0, hj0⟩ : ∃ j, j = edgN s ((0 : Int), (x : Int), (y : Int), (z : Int)) := ⟨_, rfl⟩
  rw [← hj0] at hat0 htt0 hjl0
  obtain ⟨v0, hv0⟩ : ∃ v, v = E ((0 : Int), (x : Int), (y : Int), (z : Int)) := ⟨_, rfl⟩
  rw [← hv0] at htt0
  have hat1 := at7r_any (s := s) (a := 0) (x := x) (y := y1) (z := z) hs9 (by omega) (by omega) (by omega) (by omega)
  have hal1 := all_nat (n := n) (a := 0) (x := x) (y := y1) (z := z) hs (by omega) (by omega) (by omega) (by omega)
  have htt1 := tabE_get E hal1
  have hjl1 := (edg_edgN hal1).2
  rw [← hs] at htt1 hjl1
  rw [← hm3] at hjl1
  simp only [show ((0 : Nat) : Int) = 0 from rfl] at hat1 htt1 hjl1
  obtain ⟨j1, hj1⟩ : ∃ j, j = edgN s ((0 : Int), (x : Int), (y1 : Int), (z : Int)) := ⟨_, rfl⟩
  rw [← hj1] at hat1 htt1 hjl1
  obtain ⟨v1, hv1⟩ : ∃ v, v = E ((0 : Int), (x : Int), (y1 : Int), (z : Int)) := ⟨_, rfl⟩
  rw [← hv1] at htt1
  have hat2 := at7r_any (s := s) (a := 1) (x := x) (y := y) (z := z) hs9 (by omega) (by omega) (by omega) (by omega)
  have hal2 := all_nat (n := n) (a := 1) (x := x) (y := y) (z := z) hs (by omega) (by omega) (by omega) (by omega)
  have htt2 := tabE_get E hal2
  have hjl2 := (edg_edgN hal2).2
  rw [← hs] at htt2 hjl2
  rw [← hm3] at hjl2
  simp only [show ((1 : Nat) : Int) = 1 from rfl] at hat2 htt2 hjl2
  obtain ⟨j2, hj2⟩ : ∃ j, j = edgN s ((1 : Int), (x : Int), (y : Int), (z : Int)) := ⟨_, rfl⟩
  rw [← hj2] at hat2 htt2 hjl2
  obtain ⟨v2, hv2⟩ : ∃ v, v = E ((1 : Int), (x : Int), (y : Int), (z : Int)) := ⟨_, rfl⟩
  rw [← hv2] at htt2
  have hat3 := at7r_any (s := s) (a := 1) (x := x1) (y := y) (z := z) hs9 (by omega) (by omega) (by omega) (by omega)
  have hal3 := all_nat (n := n) (a := 1) (x := x1) (y := y) (z := z) hs (by omega) (by omega) (by omega) (by omega)
  have htt3 := tabE_get E hal3
  have hjl3 := (edg_edgN hal3).2
  rw [← hs] at htt3 hjl3
  rw [← hm3] at hjl3
  simp only [show ((1 : Nat) : Int) = 1 from rfl] at hat3 htt3 hjl3
  obtain ⟨j3, hj3⟩ : ∃ j, j = edgN s ((1 : Int), (x1 : Int), (y : Int), (z : Int)) := ⟨_, rfl⟩
  rw [← hj3] at hat3 htt3 hjl3
  obtain ⟨v3, hv3⟩ : ∃ v, v = E ((1 : Int), (x1 : Int), (y : Int), (z : Int)) := ⟨_, rfl⟩
  rw [← hv3] at htt3
  have hodd : oddF E ((2 : Int), (x : Int), (y : Int), (z : Int)) = ((v0 != v1) != (v2 != v3)) := by
    have h1 : add3 ((x : Int), (y : Int), (z : Int)) 1 1 = ((x : Int), (y1 : Int), (z : Int)) := by simp [add3, set3, cmp3]; omega
    have h2 : add3 ((x : Int), (y : Int), (z : Int)) 0 1 = ((x1 : Int), (y : Int), (z : Int)) := by simp [add3, set3, cmp3]; omega
    rw [hv0, hv1, hv2, hv3]
    unfold oddF
    dsimp only
    rw [show ((2 : Int) + 1) % 3 = 0 from rfl, show ((2 : Int) + 2) % 3 = 1 from rfl, h1, h2]
  rw [hodd]
  have hu2 : (x : Int) + 1 = (x1 : Int) := by omega
  have hw2 : (y : Int) + 1 = (y1 : Int) := by omega
  have hb1 : x1 ≤ 9 ∧ y1 ≤ 9 := by omega
  obtain ⟨hb1, hb2⟩ := hb1
  have hgw : g < w.heap.size := Blk.lt hr
  have HR := hide hr
  have HA := hide (And.intro hat0 (And.intro hat1 (And.intro hat2 hat3)))
  have HT := hide (And.intro htt0 (And.intro htt1 (And.intro htt2 htt3)))
  have jm0 : (j0 : Int) < (m3 : Int) := Int.ofNat_lt.2 hjl0
  have jm1 : (j1 : Int) < (m3 : Int) := Int.ofNat_lt.2 hjl1
  have jm2 : (j2 : Int) < (m3 : Int) := Int.ofNat_lt.2 hjl2
  have jm3 : (j3 : Int) < (m3 : Int) := Int.ofNat_lt.2 hjl3
  clear hr hodd hu1 hw1 hu hw hm3 hs
  clear hat0 hal0 htt0 hjl0 hj0 hv0
  clear hat1 hal1 htt1 hjl1 hj1 hv1
  clear hat2 hal2 htt2 hjl2 hj2 hv2
  clear hat3 hal3 htt3 hjl3 hj3 hv3
  go_enter Try.func54, Try.ntmps54
  go_upto_region 1 with fail
  obtain ⟨X, hX⟩ : ∃ X, X = w.alloc (.cells #[.int .i64 (x : Int), .int .i64 (y : Int), .int .i64 (z : Int)] 42) := ⟨_, rfl⟩
  rw [← hX]
  have hbX : Blk X w.heap.size 42 #[.int .i64 (x : Int), .int .i64 (y : Int), .int .i64 (z : Int)] := by rw [hX]; exact Blk.new _ _ _
  have hBX : Below w.heap.size w X := by rw [hX]; exact (Below.refl _ w).alloc (Nat.le_refl _) _
  have hzX : X.heap.size = w.heap.size + 1 := by rw [hX]; simp
  have KX := hide (And.intro hbX hBX)
  obtain ⟨a0, a1, a2⟩ := hbX.three
  clear hbX hBX hX
  go_wp2_with fail
  refine (others7_any 2 (by omega) X).mono ?_
  rintro e w1 ⟨rfl, hw3⟩
  obtain rfl : X = w1 := hw3.symm
  go_upto_region 3 with fail
  obtain ⟨Y, hY⟩ : ∃ Y, Y = X.alloc (.cells #[.int .i64 (x : Int), .int .i64 (y : Int), .int .i64 (z : Int)] 42) := ⟨_, rfl⟩
  rw [← hY]
  have hbY : Blk Y (w.heap.size + 1) 42 #[.int .i64 (x : Int), .int .i64 (y : Int), .int .i64 (z : Int)] := by rw [hY]; exact Blk.new' _ _ _ _ hzX.symm
  have hbX : Blk Y w.heap.size 42 #[.int .i64 (x : Int), .int .i64 (y : Int), .int .i64 (z : Int)] := by rw [hY]; exact KX.out.1.alloc _
  have hBY : Below w.heap.size w Y := by rw [hY]; exact KX.out.2.alloc KX.out.2.size _
  have hzY : Y.heap.size = w.heap.size + 2 := by rw [hY]; simp [hzX]
  have KY := hide (And.intro hbX (And.intro hbY hBY))
  clear a0 a1 a2
  obtain ⟨a0, a1, a2⟩ := hbY.three
  have f0 := hbY.frozen 0
  clear hbX hbY hBY hY hzX KX
  go_upto_region 4 with fail
  obtain ⟨Z, hZ⟩ : ∃ Z, Z = Y.setCell ⟨w.heap.size + 1, 0, none⟩ (.int .i64 (x1 : Int)) := ⟨_, rfl⟩
  rw [← hZ]
  have hbZ : Blk Z (w.heap.size + 1) 42 #[.int .i64 (x1 : Int), .int .i64 (y : Int), .int .i64 (z : Int)] := by rw [hZ]; exact KY.out.2.1.set_ 0 _
  have hbX : Blk Z w.heap.size 42 #[.int .i64 (x : Int), .int .i64 (y : Int), .int .i64 (z : Int)] := by rw [hZ]; exact KY.out.1.far (p := ⟨w.heap.size + 1, 0, none⟩) (by dsimp only; omega) _
  have hBZ : Below w.heap.size w Z := by rw [hZ]; exact KY.out.2.2.setCell (by dsimp only; omega) _
  have hzZ : Z.heap.size = w.heap.size + 2 := by rw [hZ]; simp [hzY]
  have KZ := hide (And.intro hbX (And.intro hbZ hBZ))
  clear a0 a1 a2 f0
  obtain ⟨a0, a1, a2⟩ := hbX.three
  clear hbX hbZ hBZ hZ hzY KY
  go_upto_region 5 with fail
  obtain ⟨U, hU⟩ : ∃ U, U = Z.alloc (.cells #[.int .i64 (x : Int), .int .i64 (y : Int), .int .i64 (z : Int)] 42) := ⟨_, rfl⟩
  rw [← hU]
  have hbU : Blk U (w.heap.size + 2) 42 #[.int .i64 (x : Int), .int .i64 (y : Int), .int .i64 (z : Int)] := by rw [hU]; exact Blk.new' _ _ _ _ hzZ.symm
  have hbX : Blk U w.heap.size 42 #[.int .i64 (x : Int), .int .i64 (y : Int), .int .i64 (z : Int)] := by rw [hU]; exact KZ.out.1.alloc _
  have hbZ : Blk U (w.heap.size + 1) 42 #[.int .i64 (x1 : Int), .int .i64 (y : Int), .int .i64 (z : Int)] := by rw [hU]; exact KZ.out.2.1.alloc _
  have hBU : Below w.heap.size w U := by rw [hU]; exact KZ.out.2.2.alloc KZ.out.2.2.size _
  have KU := hide (And.intro hbX (And.intro hbZ (And.intro hbU hBU)))
  clear a0 a1 a2
  obtain ⟨a0, a1, a2⟩ := hbU.three
  have f0 := hbU.frozen 1
  clear hbX hbZ hbU hBU hU hzZ KZ
  go_upto_region 6 with fail
  obtain ⟨T, hT⟩ : ∃ T, T = U.setCell ⟨w.heap.size + 2, 1, none⟩ (.int .i64 (y1 : Int)) := ⟨_, rfl⟩
  rw [← hT]
  have hbT : Blk T (w.heap.size + 2) 42 #[.int .i64 (x : Int), .int .i64 (y1 : Int), .int .i64 (z : Int)] := by rw [hT]; exact KU.out.2.2.1.set_ 1 _
  have hbX : Blk T w.heap.size 42 #[.int .i64 (x : Int), .int .i64 (y : Int), .int .i64 (z : Int)] := by rw [hT]; exact KU.out.1.far (p := ⟨w.heap.size + 2, 1, none⟩) (by dsimp only; omega) _
  have hbZ : Blk T (w.heap.size + 1) 42 #[.int .i64 (x1 : Int), .int .i64 (y : Int), .int .i64 (z : Int)] := by rw [hT]; exact KU.out.2.1.far (p := ⟨w.heap.size + 2, 1, none⟩) (by dsimp only; omega) _
  have hBT : Below w.heap.size w T := by rw [hT]; exact KU.out.2.2.2.setCell (by dsimp only; omega) _
  have hS : ∀ W, Below T.heap.size T W → Blk W w.heap.size 42 #[.int .i64 (x : Int), .int .i64 (y : Int), .int .i64 (z : Int)] ∧ Blk W (w.heap.size + 1) 42 #[.int .i64 (x1 : Int), .int .i64 (y : Int), .int .i64 (z : Int)] ∧ Blk W (w.heap.size + 2) 42 #[.int .i64 (x : Int), .int .i64 (y1 : Int), .int .i64 (z : Int)] ∧ RowB W g (tabE s E) := fun W hW => ⟨hbX.on hW, hbZ.on hW, hbT.on hW, (HR.out.on hBT).on hW⟩
  have HS := hide hS
  have HQ := hide (hS T.drew (Below.refl _ T).drew)
  have HB := hide hBT
  clear a0 a1 a2 f0 hbX hbZ hbT hBT hS hT KU hu2 hw2
  refine wp_region_mix (fun W => Blk W w.heap.size 42 #[.int .i64 (x : Int), .int .i64 (y : Int), .int .i64 (z : Int)] ∧ Blk W (w.heap.size + 1) 42 #[.int .i64 (x1 : Int), .int .i64 (y : Int), .int .i64 (z : Int)] ∧ Blk W (w.heap.size + 2) 42 #[.int .i64 (x : Int), .int .i64 (y1 : Int), .int .i64 (z : Int)] ∧ RowB W g (tabE s E)) [0, 1, 2, 3, 7, 8, 9, 10, 15, 16, 17, 18, 22, 23, 24, 25, 5, 6, 12, 13, 14, 20, 21, 27, 28, 29, 30, 31] [0, 1, 2, 3, 7, 8, 9, 10, 15, 16, 17, 18, 22, 23, 24, 25, 4, 5, 6, 11, 12, 13, 14, 19, 20, 21, 26, 27, 28, 29, 30, 31] mixed_ok (by kernel_rfl) ?_
  refine wpMix_q (v := .slice (some ⟨g, 0, none⟩) m3 c0) rfl rfl (fun _ _ _ h => h) HQ.out ⟨rfl, fun _ h' => by simp [go_sem]⟩ ?_
  refine wpMix_q (v := .int .i64 (s : Int)) rfl rfl (fun _ _ _ h => h) HQ.out ⟨rfl, fun _ h' => by simp [go_sem]⟩ ?_
  refine wpMix_q (v := .int .i64 0) rfl rfl (fun _ _ _ h => h) HQ.out ⟨rfl, fun _ h' => by simp [go_sem]⟩ ?_
  refine wpMix_q (v := .agg #[.int .i64 (x : Int), .int .i64 (y : Int), .int .i64 (z : Int)]) rfl rfl (fun _ _ _ h => h) HQ.out ⟨rfl, fun _ h' => by obtain ⟨b0, b1, b2⟩ := h'.1.three; simp [go_sem, b0, b1, b2]⟩ ?_
  refine wpMix_q (v := .slice (some ⟨g, 0, none⟩) m3 c0) rfl rfl (fun _ _ _ h => h) HQ.out ⟨rfl, fun _ h' => by simp [go_sem]⟩ ?_
  try simp only [List.getElem_toArray, List.getElem_cons_succ, List.getElem_cons_zero, Act.put, List.setIfInBounds_toArray, List.set_cons_succ, List.set_cons_zero]
  refine wpMix_q (v := .int .i64 (s : Int)) rfl rfl (fun _ _ _ h => h) HQ.out ⟨rfl, fun _ h' => by simp [go_sem]⟩ ?_
  refine wpMix_q (v := .int .i64 0) rfl rfl (fun _ _ _ h => h) HQ.out ⟨rfl, fun _ h' => by simp [go_sem]⟩ ?_
  refine wpMix_q (v := .agg #[.int .i64 (x : Int), .int .i64 (y1 : Int), .int .i64 (z : Int)]) rfl rfl (fun _ _ _ h => h) HQ.out ⟨rfl, fun _ h' => by obtain ⟨b0, b1, b2⟩ := h'.2.2.1.three; simp [go_sem, b0, b1, b2]⟩ ?_
  refine wpMix_q (v := .slice (some ⟨g, 0, none⟩) m3 c0) rfl rfl (fun _ _ _ h => h) HQ.out ⟨rfl, fun _ h' => by simp [go_sem]⟩ ?_
  refine wpMix_q (v := .int .i64 (s : Int)) rfl rfl (fun _ _ _ h => h) HQ.out ⟨rfl, fun _ h' => by simp [go_sem]⟩ ?_
  try simp only [List.getElem_toArray, List.getElem_cons_succ, List.getElem_cons_zero, Act.put, List.setIfInBounds_toArray, List.set_cons_succ, List.set_cons_zero]
  refine wpMix_q (v := .int .i64 1) rfl rfl (fun _ _ _ h => h) HQ.out ⟨rfl, fun _ h' => by simp [go_sem]⟩ ?_
  refine wpMix_q (v := .agg #[.int .i64 (x : Int), .int .i64 (y : Int), .int .i64 (z : Int)]) rfl rfl (fun _ _ _ h => h) HQ.out ⟨rfl, fun _ h' => by obtain ⟨b0, b1, b2⟩ := h'.1.three; simp [go_sem, b0, b1, b2]⟩ ?_
  refine wpMix_q (v := .slice (some ⟨g, 0, none⟩) m3 c0) rfl rfl (fun _ _ _ h => h) HQ.out ⟨rfl, fun _ h' => by simp [go_sem]⟩ ?_
  refine wpMix_q (v := .int .i64 (s : Int)) rfl rfl (fun _ _ _ h => h) HQ.out ⟨rfl, fun _ h' => by simp [go_sem]⟩ ?_
  refine wpMix_q (v := .int .i64 1) rfl rfl (fun _ _ _ h => h) HQ.out ⟨rfl, fun _ h' => by simp [go_sem]⟩ ?_
  try simp only [List.getElem_toArray, List.getElem_cons_succ, List.getElem_cons_zero, Act.put, List.setIfInBounds_toArray, List.set_cons_succ, List.set_cons_zero]
  refine wpMix_q (v := .agg #[.int .i64 (x1 : Int), .int .i64 (y : Int), .int .i64 (z : Int)]) rfl rfl (fun _ _ _ h => h) HQ.out ⟨rfl, fun _ h' => by obtain ⟨b0, b1, b2⟩ := h'.2.1.three; simp [go_sem, b0, b1, b2]⟩ ?_
  refine wpMix_n rfl rfl ?_
  go_wp2_with fail
  refine (HA.out.1 T.drew).mono ?_
  rintro e W0 ⟨rfl, hB⟩
  have hT0 : Below T.heap.size T W0 := (Below.refl T.heap.size T).drew.trans hB
  have HT0 := hide hT0
  have HQ0 := hide (HS.out W0 hT0)
  clear hB hT0
  go_wp2_with fail
  refine ⟨fun _ => HQ0.out, ?_⟩
  try simp only [List.getElem_toArray, List.getElem_cons_succ, List.getElem_cons_zero, Act.put, List.setIfInBounds_toArray, List.set_cons_succ, List.set_cons_zero]
  refine wpMix_q (v := .pointer (some ⟨g, j0, none⟩)) rfl rfl (fun _ _ _ h => h) HQ0.out ⟨rfl, fun _ h' => by simp [go_sem, jm0]⟩ ?_
  refine wpMix_q (v := .bool v0) rfl rfl (fun _ _ _ h => h) HQ0.out ⟨rfl, fun _ h' => by have e := h'.2.2.2.cell HT.out.1; simp [go_sem, e]⟩ ?_
  refine wpMix_n rfl rfl ?_
  go_wp2_with fail
  refine (HA.out.2.1 W0).mono ?_
  rintro e W1 ⟨rfl, hB⟩
  have hT1 : Below T.heap.size T W1 := HT0.out.trans (hB.mono HT0.out.size)
  have HT1 := hide hT1
  have HQ1 := hide (HS.out W1 hT1)
  clear hB hT1
  go_wp2_with fail
  refine ⟨fun _ => HQ1.out, ?_⟩
  try simp only [List.getElem_toArray, List.getElem_cons_succ, List.getElem_cons_zero, Act.put, List.setIfInBounds_toArray, List.set_cons_succ, List.set_cons_zero]
  refine wpMix_q (v := .pointer (some ⟨g, j1, none⟩)) rfl rfl (fun _ _ _ h => h) HQ1.out ⟨rfl, fun _ h' => by simp [go_sem, jm1]⟩ ?_
  refine wpMix_q (v := .bool v1) rfl rfl (fun _ _ _ h => h) HQ1.out ⟨rfl, fun _ h' => by have e := h'.2.2.2.cell HT.out.2.1; simp [go_sem, e]⟩ ?_
  try simp only [List.getElem_toArray, List.getElem_cons_succ, List.getElem_cons_zero, Act.put, List.setIfInBounds_toArray, List.set_cons_succ, List.set_cons_zero]
  refine wpMix_q (v := .bool (v0 != v1)) rfl rfl (fun _ _ _ h => h) HQ1.out ⟨rfl, fun _ h' => by cases v0 <;> cases v1 <;> simp [go_sem]⟩ ?_
  refine wpMix_n rfl rfl ?_
  go_wp2_with fail
  refine (HA.out.2.2.1 W1).mono ?_
  rintro e W2 ⟨rfl, hB⟩
  have hT2 : Below T.heap.size T W2 := HT1.out.trans (hB.mono HT1.out.size)
  have HT2 := hide hT2
  have HQ2 := hide (HS.out W2 hT2)
  clear hB hT2
  go_wp2_with fail
  refine ⟨fun _ => HQ2.out, ?_⟩
  try simp only [List.getElem_toArray, List.getElem_cons_succ, List.getElem_cons_zero, Act.put, List.setIfInBounds_toArray, List.set_cons_succ, List.set_cons_zero]
  refine wpMix_q (v := .pointer (some ⟨g, j2, none⟩)) rfl rfl (fun _ _ _ h => h) HQ2.out ⟨rfl, fun _ h' => by simp [go_sem, jm2]⟩ ?_
  refine wpMix_q (v := .bool v2) rfl rfl (fun _ _ _ h => h) HQ2.out ⟨rfl, fun _ h' => by have e := h'.2.2.2.cell HT.out.2.2.1; simp [go_sem, e]⟩ ?_
  refine wpMix_n rfl rfl ?_
  go_wp2_with fail
  refine (HA.out.2.2.2 W2).mono ?_
  rintro e W3 ⟨rfl, hB⟩
  have hT3 : Below T.heap.size T W3 := HT2.out.trans (hB.mono HT2.out.size)
  have HT3 := hide hT3
  have HQ3 := hide (HS.out W3 hT3)
  clear hB hT3
  go_wp2_with fail
  refine ⟨fun _ => HQ3.out, ?_⟩
  try simp only [List.getElem_toArray, List.getElem_cons_succ, List.getElem_cons_zero, Act.put, List.setIfInBounds_toArray, List.set_cons_succ, List.set_cons_zero]
  refine wpMix_q (v := .pointer (some ⟨g, j3, none⟩)) rfl rfl (fun _ _ _ h => h) HQ3.out ⟨rfl, fun _ h' => by simp [go_sem, jm3]⟩ ?_
  refine wpMix_q (v := .bool v3) rfl rfl (fun _ _ _ h => h) HQ3.out ⟨rfl, fun _ h' => by have e := h'.2.2.2.cell HT.out.2.2.2; simp [go_sem, e]⟩ ?_
  try simp only [List.getElem_toArray, List.getElem_cons_succ, List.getElem_cons_zero, Act.put, List.setIfInBounds_toArray, List.set_cons_succ, List.set_cons_zero]
  refine wpMix_q (v := .bool (v2 != v3)) rfl rfl (fun _ _ _ h => h) HQ3.out ⟨rfl, fun _ h' => by cases v2 <;> cases v3 <;> simp [go_sem]⟩ ?_
  refine wpMix_q (v := .bool ((v0 != v1) != (v2 != v3))) rfl rfl (fun _ _ _ h => h) HQ3.out ⟨rfl, fun _ h' => by cases v0 <;> cases v1 <;> cases v2 <;> cases v3 <;> simp [go_sem]⟩ ?_
  refine wpMix_q (v := .bool ((v0 != v1) != (v2 != v3))) rfl rfl (fun _ _ _ h => h) HQ3.out ⟨rfl, fun _ h' => by simp [go_sem]⟩ ?_
  try simp only [List.getElem_toArray, List.getElem_cons_succ, List.getElem_cons_zero, Act.put, List.setIfInBounds_toArray, List.set_cons_succ, List.set_cons_zero]
  refine wpMix_nil ?_
  go_wp2_with fail
  go_ret
  exact ⟨rfl, HB.out.trans (HT3.out.mono HB.out.size)⟩
/-- The odd faces found, once axis a has come to vertex k. -/
def oddQ (E : EF → Bool) (s a k : Nat) : List EF := ((List.range a).flatMap fun b => oddA E s b (s * s * s)) ++ oddA E s a k
theorem oddA_zero (E : EF → Bool) (s a : Nat) : oddA E s a 0 = [] := rfl
theorem oddQ_next (E : EF → Bool) (s a : Nat) : oddQ E s a (s * s * s) = oddQ E s (a + 1) 0 := by
  unfold oddQ
  rw [oddA_zero, List.append_nil, List.range_succ, List.flatMap_append, List.flatMap_singleton]
theorem oddQ_end (E : EF → Bool) (s : Nat) : oddQ E s 3 0 = oddL E s := by
  unfold oddQ oddL
  rw [oddA_zero, List.append_nil, show List.range 3 = [0, 1, 2] from rfl]
  simp [List.flatMap_cons]
def oddT (E : EF → Bool) (s a k : Nat) : Bool := decide (cmp3 (vtxS s k) (((a : Int) + 1) % 3) < (s : Int) - 1) && (decide (cmp3 (vtxS s k) (((a : Int) + 2) % 3) < (s : Int) - 1) && oddF E (a, vtxS s k))
theorem oddA_eq (E : EF → Bool) (s a m : Nat) : oddA E s a m = ((List.range m).filter fun k => oddT E s a k).map fun k => ((a : Int), vtxS s k) := rfl
theorem oddA_step (E : EF → Bool) (s a k : Nat) : oddA E s a (k + 1) = if oddT E s a k = true then oddA E s a k ++ [((a : Int), vtxS s k)] else oddA E s a k := by
  rw [oddA_eq, oddA_eq, List.range_succ, List.filter_append, List.map_append]
  by_cases h : oddT E s a k = true
  · rw [if_pos h, List.filter_cons_of_pos (p := fun k => oddT E s a k) h]; rfl
  · rw [if_neg h, List.filter_cons_of_neg (p := fun k => oddT E s a k) h]; simp
theorem oddQ_yes {E : EF → Bool} {s a k : Nat} (h : oddT E s a k = true) : oddQ E s a (k + 1) = oddQ E s a k ++ [((a : Int), vtxS s k)] := by
  unfold oddQ
  rw [oddA_step, if_pos h, List.append_assoc]
theorem oddQ_no {E : EF → Bool} {s a k : Nat} (h : oddT E s a k = false) : oddQ E s a (k + 1) = oddQ E s a k := by
  unfold oddQ
  rw [oddA_step, if_neg (by rw [h]; simp)]
theorem oddA_few (E : EF → Bool) (s a k : Nat) : (oddA E s a k).length ≤ k := by
  rw [oddA_eq, List.length_map]
  exact Nat.le_trans (List.length_filter_le _ _) (by rw [List.length_range]; exact Nat.le_refl _)
theorem oddQ_few {E : EF → Bool} {s a k m : Nat} (ha : a ≤ 3) (hm : m = s * s * s) (hk : k ≤ m) : (oddQ E s a k).length ≤ 4 * m := by
  unfold oddQ
  rw [List.length_append]
  have h1 := oddA_few E s a k
  have h2 : ((List.range a).flatMap fun b => oddA E s b (s * s * s)).length ≤ 3 * m := by
    have key : ∀ l : List Nat, (l.flatMap fun b => oddA E s b (s * s * s)).length ≤ l.length * m := by
      intro l
      induction l with
      | nil => simp
      | cons b l ih =>
        have h3 := oddA_few E s b (s * s * s)
        rw [List.flatMap_cons, List.length_append, List.length_cons, Nat.succ_mul, ← hm] at *
        omega
    refine Nat.le_trans (key _) ?_
    rw [List.length_range]
    exact Nat.mul_le_mul_right _ ha
  omega
theorem infoFc : (Try.prog.info? 45).map (fun i => (i.zero, i.size, i.bytes)) = some (some (.agg #[.int .i64 0, .int .i64 0, .int .i64 0, .int .i64 0]), 4, 32) := by kernel_rfl
/-- The reference's state: the table, what was found. -/
structure OddS (w wr : World) (g s : Nat) (E : EF → Bool) (a k : Nat) (ov : Value) : Prop where
  row : RowB wr g (tabE s E)
  out : Own encF 4 45 wr w.heap.size ov (oddQ E s a k).length (oddQ E s a k)
  bel : Below w.heap.size w wr
theorem OddS.on {w wr W : World} {g s : Nat} {E : EF → Bool} {a k : Nat} {ov : Value} (h : OddS w wr g s E a k ov) (hb : Below wr.heap.size wr W) : OddS w W g s E a k ov :=
  ⟨h.row.on hb, h.out.below hb (Nat.le_refl _), h.bel.trans (hb.mono h.bel.size)⟩
set_option maxRecDepth 100000 in
set_option maxHeartbeats 32000000 in
theorem odd7r_any {n s m m3 g c0 : Nat} (hs : s = n + 1) (hs3 : 2 ≤ s) (hs9 : s ≤ 9) (hm : m = s * s * s) (hm3 : m3 = 3 * (s * s * s)) (E : EF → Bool) (w : World) (hr : RowB w g (tabE s E)) :
    Calls Try.prog 38 #[.slice (some ⟨g, 0, none⟩) m3 c0, .int .i64 (s : Int)] w fun e w' => ∃ v, e = .returned v ∧ Own encF 4 45 w' w.heap.size v (oddL E s).length (oddL E s) ∧ Below w.heap.size w w' := by
  have hm7 : m ≤ 729 := by rw [hm]; exact Nat.mul_le_mul (Nat.mul_le_mul hs9 hs9) hs9
  obtain ⟨q, hq⟩ : ∃ q, q = s * s := ⟨_, rfl⟩
  have hq8 : q ≤ 81 := by rw [hq]; exact Nat.mul_le_mul hs9 hs9
  have hw1 : wrap64 ((s : Int) * (s : Int)) = (q : Int) := by rw [hq]; exact mulW7 (Nat.le_trans hs9 (by decide)) (Nat.le_trans hs9 (by decide))
  have hw2 : wrap64 ((q : Int) * (s : Int)) = (m : Int) := by rw [hm, ← hq]; exact mulW7 (Nat.le_trans hq8 (by decide)) (Nat.le_trans hs9 (by decide))
  have HW := hide (And.intro hw1 hw2)
  have HN := hide (And.intro hm (And.intro hm3 hs))
  have hgw : g < w.heap.size := Blk.lt hr
  have HR := hide hr
  clear hw1 hw2 hm hm3 hs hr hq
  go_enter Try.func38, Try.ntmps38
  go_wp2_with fail
  go_loopw [5, 6] (fun ov av wr => ∃ a : Nat, a ≤ 3 ∧ av = .int .i64 a ∧ OddS w wr g s E a 0 ov) (fun _ av _ => 3 - (intOf av).toNat)
  case atStart => exact ⟨0, by omega, rfl, HR.out, Own.nil, Below.refl _ _⟩
  case round =>
    obtain ⟨U, rfl⟩ : ∃ U, U = wr := ⟨_, rfl⟩
    obtain ⟨a, ha, rfl, hE⟩ := hrel
    have HU := hide hE
    clear hE
    have hc : a = 3 ∨ a = 0 ∨ a = 1 ∨ a = 2 := by omega
    rcases hc with rfl | rfl | rfl | rfl
    · rw [show ((3 : Nat) : Int) = 3 from rfl]
      have he := oddQ_end E s
      have HE := hide he
      clear he
      go_wp2_with fail
      go_ret
      refine ⟨_, rfl, ?_, HU.out.bel⟩
      rw [← HE.out]
      exact HU.out.out
    · rw [show ((0 : Nat) : Int) = 0 from rfl]
      go_wp2_with fail
      refine (others7_any 0 (by omega) U).mono ?_
      rintro e w1 ⟨rfl, hw3⟩
      obtain rfl : U = w1 := hw3.symm
      go_wp2_with fail
      go_loopw [5, 9] (fun ov kv wr => ∃ k : Nat, k ≤ m ∧ kv = .int .i64 k ∧ OddS w wr g s E 0 k ov) (fun _ kv _ => m - (intOf kv).toNat)
      case atStart => exact ⟨0, by omega, rfl, HU.out⟩
      case round =>
        obtain ⟨V, rfl⟩ : ∃ V, V = wr := ⟨_, rfl⟩
        obtain ⟨k, hk, rfl, hE⟩ := hrel
        have HV := hide hE
        clear hE
        obtain ⟨hw1, hw2⟩ := HW.out
        by_cases hkm : k < m
        · have j1 : (k : Int) < (m : Int) := by clear hw1 hw2; omega
          have hs0 : 0 < s := by clear hw1 hw2; omega
          have hkm3 : k < s * s * s := by rw [← HN.out.1]; exact hkm
          obtain ⟨kx, kq, ky, kz, ⟨v1, v2, v3, v4⟩, t0, t1, t2, t3, ⟨z1, z2, z3, z4⟩, u0, u1, u2, u3⟩ := vtx_nums hs0 (Nat.le_trans hs9 (by decide)) hkm3
          have hs0n : ¬ s = 0 := by clear hw1 hw2; omega
          have hvt := vtx_is3 v1 v2 v3
          have HK := hide hvt
          have hgV : g < V.heap.size := Nat.lt_of_lt_of_le hgw HV.out.bel.size
          have hwV := HV.out.bel.size
          clear hvt v1 v2 v3 v4 hkm3
          go_upto_region 9 with fail
          clear hw1 hw2
          refine wp_region_mix (fun _ => True) [0, 1, 2, 3, 4, 5, 6, 7, 8, 9, 10, 11, 12, 13] [0, 1, 2, 3, 4, 5, 6, 7, 8, 9, 10, 11, 12, 13, 14, 15] mixed_ok (by kernel_rfl) ?_
          refine wpMix_q (v := .int .i64 k) rfl rfl (fun _ _ _ h => h) trivial ⟨rfl, fun _ _ => by simp [go_sem]⟩ ?_
          refine wpMix_q (v := .int .i64 s) rfl rfl (fun _ _ _ h => h) trivial ⟨rfl, fun _ _ => by simp [go_sem]⟩ ?_
          refine wpMix_q (v := .int .i64 kx) rfl rfl (fun _ _ _ h => h) trivial ⟨rfl, fun _ _ => by simp [go_sem, t0, hs0n]⟩ ?_
          refine wpMix_q (v := .int .i64 k) rfl rfl (fun _ _ _ h => h) trivial ⟨rfl, fun _ _ => by simp [go_sem]⟩ ?_
          refine wpMix_q (v := .int .i64 s) rfl rfl (fun _ _ _ h => h) trivial ⟨rfl, fun _ _ => by simp [go_sem]⟩ ?_
          simp only [List.getElem_toArray, List.getElem_cons_succ, List.getElem_cons_zero, Act.put, List.setIfInBounds_toArray, List.set_cons_succ, List.set_cons_zero]
          refine wpMix_q (v := .int .i64 kq) rfl rfl (fun _ _ _ h => h) trivial ⟨rfl, fun _ _ => by simp [go_sem, t1, hs0n, u1]⟩ ?_
          refine wpMix_q (v := .int .i64 s) rfl rfl (fun _ _ _ h => h) trivial ⟨rfl, fun _ _ => by simp [go_sem]⟩ ?_
          refine wpMix_q (v := .int .i64 ky) rfl rfl (fun _ _ _ h => h) trivial ⟨rfl, fun _ _ => by simp [go_sem, t2, hs0n]⟩ ?_
          refine wpMix_q (v := .int .i64 k) rfl rfl (fun _ _ _ h => h) trivial ⟨rfl, fun _ _ => by simp [go_sem]⟩ ?_
          refine wpMix_q (v := .int .i64 s) rfl rfl (fun _ _ _ h => h) trivial ⟨rfl, fun _ _ => by simp [go_sem]⟩ ?_
          simp only [List.getElem_toArray, List.getElem_cons_succ, List.getElem_cons_zero, Act.put, List.setIfInBounds_toArray, List.set_cons_succ, List.set_cons_zero]
          refine wpMix_q (v := .int .i64 kq) rfl rfl (fun _ _ _ h => h) trivial ⟨rfl, fun _ _ => by simp [go_sem, t1, hs0n, u1]⟩ ?_
          refine wpMix_q (v := .int .i64 s) rfl rfl (fun _ _ _ h => h) trivial ⟨rfl, fun _ _ => by simp [go_sem]⟩ ?_
          refine wpMix_q (v := .int .i64 kz) rfl rfl (fun _ _ _ h => h) trivial ⟨rfl, fun _ _ => by simp [go_sem, t3, hs0n, u3]⟩ ?_
          refine wpMix_q (v := .agg #[.int .i64 kx, .int .i64 ky, .int .i64 kz]) rfl rfl (fun _ _ _ h => h) trivial ⟨rfl, fun _ _ => by simp [go_sem]⟩ ?_
          refine wpMix_n rfl rfl ?_
          go_wp2_with fail
          refine ⟨fun _ => trivial, ?_⟩
          refine wpMix_n rfl rfl ?_
          go_wp2_with fail
          refine ⟨fun _ => trivial, ?_⟩
          refine wpMix_nil ?_
          go_upto_region 10 with fail
          clear t0 t1 t2 t3 u0 u1 u2 u3
          obtain ⟨T, hT⟩ : ∃ T, T = (V.alloc (.cells #[.int .i64 kx, .int .i64 ky, .int .i64 kz] 42)).drew := ⟨_, rfl⟩
          rw [← hT]
          have hB1 : Below V.heap.size V T := by rw [hT]; exact ((Below.refl _ V).alloc (Nat.le_refl _) _).drew
          have hp1 : Blk T V.heap.size 42 #[.int .i64 kx, .int .i64 ky, .int .i64 kz] := by rw [hT]; exact Blk.new V _ _
          obtain ⟨c0x, c1x, c2x⟩ := hp1.three
          have HT := hide (And.intro (HV.out.on hB1) (And.intro hp1 hB1))
          clear hB1 hp1 hT
          by_cases hcm : ¬ ky + 1 < s
          · have j2 : ¬ (ky : Int) < (s : Int) - 1 := by omega
            have hno : oddQ E s 0 (k + 1) = oddQ E s 0 k := oddQ_no (by unfold oddT; rw [HK.out, decide_eq_false (by simp [cmp3]; omega)]; rfl)
            have HO := hide hno
            clear hno hcm
            go_wp2_with fail
            go_roundw
            case rel =>
              exact ⟨k + 1, by omega, by go_num, HT.out.1.row, by rw [HO.out]; exact HT.out.1.out, HT.out.1.bel⟩
            case measure => simp [intOf]; omega
          · have hcu : ky + 1 < s := by omega
            have j2 : (ky : Int) < (s : Int) - 1 := by omega
            clear hcm
            by_cases hcm : ¬ kz + 1 < s
            · have j3 : ¬ (kz : Int) < (s : Int) - 1 := by omega
              have hno : oddQ E s 0 (k + 1) = oddQ E s 0 k := oddQ_no (by unfold oddT; rw [HK.out, decide_eq_true (p := cmp3 _ _ < _) (by simp [cmp3]; omega), decide_eq_false (by simp [cmp3]; omega)]; rfl)
              have HO := hide hno
              clear hno hcm
              go_wp2_with fail
              go_roundw
              case rel =>
                exact ⟨k + 1, by omega, by go_num, HT.out.1.row, by rw [HO.out]; exact HT.out.1.out, HT.out.1.bel⟩
              case measure => simp [intOf]; omega
            · have hcw : kz + 1 < s := by omega
              have j3 : (kz : Int) < (s : Int) - 1 := by omega
              have hot : oddT E s 0 k = oddF E ((0 : Int), ((kx : Int), (ky : Int), (kz : Int))) := by unfold oddT; rw [HK.out, decide_eq_true (p := cmp3 _ _ < _) (by simp [cmp3]; omega), decide_eq_true (p := cmp3 _ _ < _) (by simp [cmp3]; omega)]; rfl
              have hof := oddF7_0 (c0 := c0) HN.out.2.2 hs9 HN.out.2.1 z1 z2 z3 hcu hcw E T HT.out.1.row
              clear hcm
              have HF := hide (And.intro hot hof)
              clear hot hof
              go_wp2_with fail
              refine HF.out.2.mono ?_
              rintro e w5 ⟨rfl, hB5⟩
              have h5 := HT.out.1.on hB5
              have p5 := HT.out.2.1.on hB5
              have H5 := hide (And.intro h5 (And.intro p5 hB5.size))
              clear h5 hB5 c0x c1x c2x
              obtain ⟨c0x, c1x, c2x⟩ := p5.three
              clear p5
              cases hb : oddF E ((0 : Int), ((kx : Int), (ky : Int), (kz : Int))) with
              | false =>
                have hno := oddQ_no (HF.out.1.trans hb)
                have HO := hide hno
                clear hno hb
                go_wp2_with fail
                go_roundw
                case rel =>
                  exact ⟨k + 1, by omega, by go_num, H5.out.1.row, by rw [HO.out]; exact H5.out.1.out, H5.out.1.bel⟩
                case measure => simp [intOf]; omega
              | true =>
                have hyes := oddQ_yes (HF.out.1.trans hb)
                rw [HK.out] at hyes
                have hfw := oddQ_few (E := E) (a := 0) (by omega) HN.out.1 hk
                obtain ⟨EL, hEL⟩ : ∃ EL, EL = oddQ E s 0 k := ⟨_, rfl⟩
                obtain ⟨ne, hne⟩ : ∃ ne, ne = EL.length := ⟨_, rfl⟩
                rw [← hEL, ← hne] at hfw
                rw [← hEL] at hyes
                have HO := hide (And.intro hyes (And.intro hne hEL))
                clear hyes hb hEL hne
                go_wp2_with fail
                refine (face7r_any 0 ((kx : Int), (ky : Int), (kz : Int)) w5).mono ?_
                rintro e w6 ⟨rfl, hB6⟩
                have h6 := H5.out.1.on hB6
                have hown := h6.out
                rw [← HO.out.2.2, ← HO.out.2.1] at hown
                have H6 := hide (And.intro h6 hown)
                have hw6 := h6.bel.size
                clear h6 hB6 hown c0x c1x c2x
                go_wp2_with (at_builtin; refine wpList_append1 rfl _ _ _ rfl Try.underlying38 infoFc rfl (by omega) encF_len encF_one rfl (H6.out.2.alloc _) w6.heap.size 1 (0, ((kx : Int), (ky : Int), (kz : Int))) rfl (Blk.new _ _ _) (by unfold maxLen; omega) (by omega) (by simp; omega) ?_; intro gp cap U7 ho7 hg7 hB7 hat7 hgb7 hlt7)
                go_roundw
                case rel =>
                  have hbA : Below w.heap.size w6 U7 := ((Below.refl w.heap.size w6).alloc hw6 _).trans hB7
                  refine ⟨k + 1, by omega, by go_num, H6.out.1.row.below hbA hgw, ?_, H6.out.1.bel.trans hbA⟩
                  rw [HO.out.1, List.length_append, ← HO.out.2.1]
                  exact ho7
                case measure => simp [intOf]; omega
        · have j1 : ¬ (k : Int) < (m : Int) := by clear hw1 hw2; omega
          obtain rfl : k = m := by clear hw1 hw2; omega
          have hnx := oddQ_next E s 0
          rw [← HN.out.1] at hnx
          have HO := hide hnx
          clear hnx
          go_wp2_with fail
          go_roundw
          case rel => exact ⟨1, by clear hw1 hw2; omega, by go_num, HV.out.row, by rw [← HO.out]; exact HV.out.out, HV.out.bel⟩
          case measure => simp [intOf]
    · rw [show ((1 : Nat) : Int) = 1 from rfl]
      go_wp2_with fail
      refine (others7_any 1 (by omega) U).mono ?_
      rintro e w1 ⟨rfl, hw3⟩
      obtain rfl : U = w1 := hw3.symm
      go_wp2_with fail
      go_loopw [5, 9] (fun ov kv wr => ∃ k : Nat, k ≤ m ∧ kv = .int .i64 k ∧ OddS w wr g s E 1 k ov) (fun _ kv _ => m - (intOf kv).toNat)
      case atStart => exact ⟨0, by omega, rfl, HU.out⟩
      case round =>
        obtain ⟨V, rfl⟩ : ∃ V, V = wr := ⟨_, rfl⟩
        obtain ⟨k, hk, rfl, hE⟩ := hrel
        have HV := hide hE
        clear hE
        obtain ⟨hw1, hw2⟩ := HW.out
        by_cases hkm : k < m
        · have j1 : (k : Int) < (m : Int) := by clear hw1 hw2; omega
          have hs0 : 0 < s := by clear hw1 hw2; omega
          have hkm3 : k < s * s * s := by rw [← HN.out.1]; exact hkm
          obtain ⟨kx, kq, ky, kz, ⟨v1, v2, v3, v4⟩, t0, t1, t2, t3, ⟨z1, z2, z3, z4⟩, u0, u1, u2, u3⟩ := vtx_nums hs0 (Nat.le_trans hs9 (by decide)) hkm3
          have hs0n : ¬ s = 0 := by clear hw1 hw2; omega
          have hvt := vtx_is3 v1 v2 v3
          have HK := hide hvt
          have hgV : g < V.heap.size := Nat.lt_of_lt_of_le hgw HV.out.bel.size
          have hwV := HV.out.bel.size
          clear hvt v1 v2 v3 v4 hkm3
          go_upto_region 9 with fail
          clear hw1 hw2
          refine wp_region_mix (fun _ => True) [0, 1, 2, 3, 4, 5, 6, 7, 8, 9, 10, 11, 12, 13] [0, 1, 2, 3, 4, 5, 6, 7, 8, 9, 10, 11, 12, 13, 14, 15] mixed_ok (by kernel_rfl) ?_
          refine wpMix_q (v := .int .i64 k) rfl rfl (fun _ _ _ h => h) trivial ⟨rfl, fun _ _ => by simp [go_sem]⟩ ?_
          refine wpMix_q (v := .int .i64 s) rfl rfl (fun _ _ _ h => h) trivial ⟨rfl, fun _ _ => by simp [go_sem]⟩ ?_
          refine wpMix_q (v := .int .i64 kx) rfl rfl (fun _ _ _ h => h) trivial ⟨rfl, fun _ _ => by simp [go_sem, t0, hs0n]⟩ ?_
          refine wpMix_q (v := .int .i64 k) rfl rfl (fun _ _ _ h => h) trivial ⟨rfl, fun _ _ => by simp [go_sem]⟩ ?_
          refine wpMix_q (v := .int .i64 s) rfl rfl (fun _ _ _ h => h) trivial ⟨rfl, fun _ _ => by simp [go_sem]⟩ ?_
          simp only [List.getElem_toArray, List.getElem_cons_succ, List.getElem_cons_zero, Act.put, List.setIfInBounds_toArray, List.set_cons_succ, List.set_cons_zero]
          refine wpMix_q (v := .int .i64 kq) rfl rfl (fun _ _ _ h => h) trivial ⟨rfl, fun _ _ => by simp [go_sem, t1, hs0n, u1]⟩ ?_
          refine wpMix_q (v := .int .i64 s) rfl rfl (fun _ _ _ h => h) trivial ⟨rfl, fun _ _ => by simp [go_sem]⟩ ?_
          refine wpMix_q (v := .int .i64 ky) rfl rfl (fun _ _ _ h => h) trivial ⟨rfl, fun _ _ => by simp [go_sem, t2, hs0n]⟩ ?_
          refine wpMix_q (v := .int .i64 k) rfl rfl (fun _ _ _ h => h) trivial ⟨rfl, fun _ _ => by simp [go_sem]⟩ ?_
          refine wpMix_q (v := .int .i64 s) rfl rfl (fun _ _ _ h => h) trivial ⟨rfl, fun _ _ => by simp [go_sem]⟩ ?_
          simp only [List.getElem_toArray, List.getElem_cons_succ, List.getElem_cons_zero, Act.put, List.setIfInBounds_toArray, List.set_cons_succ, List.set_cons_zero]
          refine wpMix_q (v := .int .i64 kq) rfl rfl (fun _ _ _ h => h) trivial ⟨rfl, fun _ _ => by simp [go_sem, t1, hs0n, u1]⟩ ?_
          refine wpMix_q (v := .int .i64 s) rfl rfl (fun _ _ _ h => h) trivial ⟨rfl, fun _ _ => by simp [go_sem]⟩ ?_
          refine wpMix_q (v := .int .i64 kz) rfl rfl (fun _ _ _ h => h) trivial ⟨rfl, fun _ _ => by simp [go_sem, t3, hs0n, u3]⟩ ?_
          refine wpMix_q (v := .agg #[.int .i64 kx, .int .i64 ky, .int .i64 kz]) rfl rfl (fun _ _ _ h => h) trivial ⟨rfl, fun _ _ => by simp [go_sem]⟩ ?_
          refine wpMix_n rfl rfl ?_
          go_wp2_with fail
          refine ⟨fun _ => trivial, ?_⟩
          refine wpMix_n rfl rfl ?_
          go_wp2_with fail
          refine ⟨fun _ => trivial, ?_⟩
          refine wpMix_nil ?_
          go_upto_region 10 with fail
          clear t0 t1 t2 t3 u0 u1 u2 u3
          obtain ⟨T, hT⟩ : ∃ T, T = (V.alloc (.cells #[.int .i64 kx, .int .i64 ky, .int .i64 kz] 42)).drew := ⟨_, rfl⟩
          rw [← hT]
          have hB1 : Below V.heap.size V T := by rw [hT]; exact ((Below.refl _ V).alloc (Nat.le_refl _) _).drew
          have hp1 : Blk T V.heap.size 42 #[.int .i64 kx, .int .i64 ky, .int .i64 kz] := by rw [hT]; exact Blk.new V _ _
          obtain ⟨c0x, c1x, c2x⟩ := hp1.three
          have HT := hide (And.intro (HV.out.on hB1) (And.intro hp1 hB1))
          clear hB1 hp1 hT
          by_cases hcm : ¬ kz + 1 < s
          · have j2 : ¬ (kz : Int) < (s : Int) - 1 := by omega
            have hno : oddQ E s 1 (k + 1) = oddQ E s 1 k := oddQ_no (by unfold oddT; rw [HK.out, decide_eq_false (by simp [cmp3]; omega)]; rfl)
            have HO := hide hno
            clear hno hcm
            go_wp2_with fail
            go_roundw
            case rel =>
              exact ⟨k + 1, by omega, by go_num, HT.out.1.row, by rw [HO.out]; exact HT.out.1.out, HT.out.1.bel⟩
            case measure => simp [intOf]; omega
          · have hcu : kz + 1 < s := by omega
            have j2 : (kz : Int) < (s : Int) - 1 := by omega
            clear hcm
            by_cases hcm : ¬ kx + 1 < s
            · have j3 : ¬ (kx : Int) < (s : Int) - 1 := by omega
              have hno : oddQ E s 1 (k + 1) = oddQ E s 1 k := oddQ_no (by unfold oddT; rw [HK.out, decide_eq_true (p := cmp3 _ _ < _) (by simp [cmp3]; omega), decide_eq_false (by simp [cmp3]; omega)]; rfl)
              have HO := hide hno
              clear hno hcm
              go_wp2_with fail
              go_roundw
              case rel =>
                exact ⟨k + 1, by omega, by go_num, HT.out.1.row, by rw [HO.out]; exact HT.out.1.out, HT.out.1.bel⟩
              case measure => simp [intOf]; omega
            · have hcw : kx + 1 < s := by omega
              have j3 : (kx : Int) < (s : Int) - 1 := by omega
              have hot : oddT E s 1 k = oddF E ((1 : Int), ((kx : Int), (ky : Int), (kz : Int))) := by unfold oddT; rw [HK.out, decide_eq_true (p := cmp3 _ _ < _) (by simp [cmp3]; omega), decide_eq_true (p := cmp3 _ _ < _) (by simp [cmp3]; omega)]; rfl
              have hof := oddF7_1 (c0 := c0) HN.out.2.2 hs9 HN.out.2.1 z1 z2 z3 hcu hcw E T HT.out.1.row
              clear hcm
              have HF := hide (And.intro hot hof)
              clear hot hof
              go_wp2_with fail
              refine HF.out.2.mono ?_
              rintro e w5 ⟨rfl, hB5⟩
              have h5 := HT.out.1.on hB5
              have p5 := HT.out.2.1.on hB5
              have H5 := hide (And.intro h5 (And.intro p5 hB5.size))
              clear h5 hB5 c0x c1x c2x
              obtain ⟨c0x, c1x, c2x⟩ := p5.three
              clear p5
              cases hb : oddF E ((1 : Int), ((kx : Int), (ky : Int), (kz : Int))) with
              | false =>
                have hno := oddQ_no (HF.out.1.trans hb)
                have HO := hide hno
                clear hno hb
                go_wp2_with fail
                go_roundw
                case rel =>
                  exact ⟨k + 1, by omega, by go_num, H5.out.1.row, by rw [HO.out]; exact H5.out.1.out, H5.out.1.bel⟩
                case measure => simp [intOf]; omega
              | true =>
                have hyes := oddQ_yes (HF.out.1.trans hb)
                rw [HK.out] at hyes
                have hfw := oddQ_few (E := E) (a := 1) (by omega) HN.out.1 hk
                obtain ⟨EL, hEL⟩ : ∃ EL, EL = oddQ E s 1 k := ⟨_, rfl⟩
                obtain ⟨ne, hne⟩ : ∃ ne, ne = EL.length := ⟨_, rfl⟩
                rw [← hEL, ← hne] at hfw
                rw [← hEL] at hyes
                have HO := hide (And.intro hyes (And.intro hne hEL))
                clear hyes hb hEL hne
                go_wp2_with fail
                refine (face7r_any 1 ((kx : Int), (ky : Int), (kz : Int)) w5).mono ?_
                rintro e w6 ⟨rfl, hB6⟩
                have h6 := H5.out.1.on hB6
                have hown := h6.out
                rw [← HO.out.2.2, ← HO.out.2.1] at hown
                have H6 := hide (And.intro h6 hown)
                have hw6 := h6.bel.size
                clear h6 hB6 hown c0x c1x c2x
                go_wp2_with (at_builtin; refine wpList_append1 rfl _ _ _ rfl Try.underlying38 infoFc rfl (by omega) encF_len encF_one rfl (H6.out.2.alloc _) w6.heap.size 1 (1, ((kx : Int), (ky : Int), (kz : Int))) rfl (Blk.new _ _ _) (by unfold maxLen; omega) (by omega) (by simp; omega) ?_; intro gp cap U7 ho7 hg7 hB7 hat7 hgb7 hlt7)
                go_roundw
                case rel =>
                  have hbA : Below w.heap.size w6 U7 := ((Below.refl w.heap.size w6).alloc hw6 _).trans hB7
                  refine ⟨k + 1, by omega, by go_num, H6.out.1.row.below hbA hgw, ?_, H6.out.1.bel.trans hbA⟩
                  rw [HO.out.1, List.length_append, ← HO.out.2.1]
                  exact ho7
                case measure => simp [intOf]; omega
        · have j1 : ¬ (k : Int) < (m : Int) := by clear hw1 hw2; omega
          obtain rfl : k = m := by clear hw1 hw2; omega
          have hnx := oddQ_next E s 1
          rw [← HN.out.1] at hnx
          have HO := hide hnx
          clear hnx
          go_wp2_with fail
          go_roundw
          case rel => exact ⟨2, by clear hw1 hw2; omega, by go_num, HV.out.row, by rw [← HO.out]; exact HV.out.out, HV.out.bel⟩
          case measure => simp [intOf]
    · rw [show ((2 : Nat) : Int) = 2 from rfl]
      go_wp2_with fail
      refine (others7_any 2 (by omega) U).mono ?_
      rintro e w1 ⟨rfl, hw3⟩
      obtain rfl : U = w1 := hw3.symm
      go_wp2_with fail
      go_loopw [5, 9] (fun ov kv wr => ∃ k : Nat, k ≤ m ∧ kv = .int .i64 k ∧ OddS w wr g s E 2 k ov) (fun _ kv _ => m - (intOf kv).toNat)
      case atStart => exact ⟨0, by omega, rfl, HU.out⟩
      case round =>
        obtain ⟨V, rfl⟩ : ∃ V, V = wr := ⟨_, rfl⟩
        obtain ⟨k, hk, rfl, hE⟩ := hrel
        have HV := hide hE
        clear hE
        obtain ⟨hw1, hw2⟩ := HW.out
        by_cases hkm : k < m
        · have j1 : (k : Int) < (m : Int) := by clear hw1 hw2; omega
          have hs0 : 0 < s := by clear hw1 hw2; omega
          have hkm3 : k < s * s * s := by rw [← HN.out.1]; exact hkm
          obtain ⟨kx, kq, ky, kz, ⟨v1, v2, v3, v4⟩, t0, t1, t2, t3, ⟨z1, z2, z3, z4⟩, u0, u1, u2, u3⟩ := vtx_nums hs0 (Nat.le_trans hs9 (by decide)) hkm3
          have hs0n : ¬ s = 0 := by clear hw1 hw2; omega
          have hvt := vtx_is3 v1 v2 v3
          have HK := hide hvt
          have hgV : g < V.heap.size := Nat.lt_of_lt_of_le hgw HV.out.bel.size
          have hwV := HV.out.bel.size
          clear hvt v1 v2 v3 v4 hkm3
          go_upto_region 9 with fail
          clear hw1 hw2
          refine wp_region_mix (fun _ => True) [0, 1, 2, 3, 4, 5, 6, 7, 8, 9, 10, 11, 12, 13] [0, 1, 2, 3, 4, 5, 6, 7, 8, 9, 10, 11, 12, 13, 14, 15] mixed_ok (by kernel_rfl) ?_
          refine wpMix_q (v := .int .i64 k) rfl rfl (fun _ _ _ h => h) trivial ⟨rfl, fun _ _ => by simp [go_sem]⟩ ?_
          refine wpMix_q (v := .int .i64 s) rfl rfl (fun _ _ _ h => h) trivial ⟨rfl, fun _ _ => by simp [go_sem]⟩ ?_
          refine wpMix_q (v := .int .i64 kx) rfl rfl (fun _ _ _ h => h) trivial ⟨rfl, fun _ _ => by simp [go_sem, t0, hs0n]⟩ ?_
          refine wpMix_q (v := .int .i64 k) rfl rfl (fun _ _ _ h => h) trivial ⟨rfl, fun _ _ => by simp [go_sem]⟩ ?_
          refine wpMix_q (v := .int .i64 s) rfl rfl (fun _ _ _ h => h) trivial ⟨rfl, fun _ _ => by simp [go_sem]⟩ ?_
          simp only [List.getElem_toArray, List.getElem_cons_succ, List.getElem_cons_zero, Act.put, List.setIfInBounds_toArray, List.set_cons_succ, List.set_cons_zero]
          refine wpMix_q (v := .int .i64 kq) rfl rfl (fun _ _ _ h => h) trivial ⟨rfl, fun _ _ => by simp [go_sem, t1, hs0n, u1]⟩ ?_
          refine wpMix_q (v := .int .i64 s) rfl rfl (fun _ _ _ h => h) trivial ⟨rfl, fun _ _ => by simp [go_sem]⟩ ?_
          refine wpMix_q (v := .int .i64 ky) rfl rfl (fun _ _ _ h => h) trivial ⟨rfl, fun _ _ => by simp [go_sem, t2, hs0n]⟩ ?_
          refine wpMix_q (v := .int .i64 k) rfl rfl (fun _ _ _ h => h) trivial ⟨rfl, fun _ _ => by simp [go_sem]⟩ ?_
          refine wpMix_q (v := .int .i64 s) rfl rfl (fun _ _ _ h => h) trivial ⟨rfl, fun _ _ => by simp [go_sem]⟩ ?_
          simp only [List.getElem_toArray, List.getElem_cons_succ, List.getElem_cons_zero, Act.put, List.setIfInBounds_toArray, List.set_cons_succ, List.set_cons_zero]
          refine wpMix_q (v := .int .i64 kq) rfl rfl (fun _ _ _ h => h) trivial ⟨rfl, fun _ _ => by simp [go_sem, t1, hs0n, u1]⟩ ?_
          refine wpMix_q (v := .int .i64 s) rfl rfl (fun _ _ _ h => h) trivial ⟨rfl, fun _ _ => by simp [go_sem]⟩ ?_
          refine wpMix_q (v := .int .i64 kz) rfl rfl (fun _ _ _ h => h) trivial ⟨rfl, fun _ _ => by simp [go_sem, t3, hs0n, u3]⟩ ?_
          refine wpMix_q (v := .agg #[.int .i64 kx, .int .i64 ky, .int .i64 kz]) rfl rfl (fun _ _ _ h => h) trivial ⟨rfl, fun _ _ => by simp [go_sem]⟩ ?_
          refine wpMix_n rfl rfl ?_
          go_wp2_with fail
          refine ⟨fun _ => trivial, ?_⟩
          refine wpMix_n rfl rfl ?_
          go_wp2_with fail
          refine ⟨fun _ => trivial, ?_⟩
          refine wpMix_nil ?_
          go_upto_region 10 with fail
          clear t0 t1 t2 t3 u0 u1 u2 u3
          obtain ⟨T, hT⟩ : ∃ T, T = (V.alloc (.cells #[.int .i64 kx, .int .i64 ky, .int .i64 kz] 42)).drew := ⟨_, rfl⟩
          rw [← hT]
          have hB1 : Below V.heap.size V T := by rw [hT]; exact ((Below.refl _ V).alloc (Nat.le_refl _) _).drew
          have hp1 : Blk T V.heap.size 42 #[.int .i64 kx, .int .i64 ky, .int .i64 kz] := by rw [hT]; exact Blk.new V _ _
          obtain ⟨c0x, c1x, c2x⟩ := hp1.three
          have HT := hide (And.intro (HV.out.on hB1) (And.intro hp1 hB1))
          clear hB1 hp1 hT
          by_cases hcm : ¬ kx + 1 < s
          · have j2 : ¬ (kx : Int) < (s : Int) - 1 := by omega
            have hno : oddQ E s 2 (k + 1) = oddQ E s 2 k := oddQ_no (by unfold oddT; rw [HK.out, decide_eq_false (by simp [cmp3]; omega)]; rfl)
            have HO := hide hno
            clear hno hcm
            go_wp2_with fail
            go_roundw
            case rel =>
              exact ⟨k + 1, by omega, by go_num, HT.out.1.row, by rw [HO.out]; exact HT.out.1.out, HT.out.1.bel⟩
            case measure => simp [intOf]; omega
          · have hcu : kx + 1 < s := by omega
            have j2 : (kx : Int) < (s : Int) - 1 := by omega
            clear hcm
            by_cases hcm : ¬ ky + 1 < s
            · have j3 : ¬ (ky : Int) < (s : Int) - 1 := by omega
              have hno : oddQ E s 2 (k + 1) = oddQ E s 2 k := oddQ_no (by unfold oddT; rw [HK.out, decide_eq_true (p := cmp3 _ _ < _) (by simp [cmp3]; omega), decide_eq_false (by simp [cmp3]; omega)]; rfl)
              have HO := hide hno
              clear hno hcm
              go_wp2_with fail
              go_roundw
              case rel =>
                exact ⟨k + 1, by omega, by go_num, HT.out.1.row, by rw [HO.out]; exact HT.out.1.out, HT.out.1.bel⟩
              case measure => simp [intOf]; omega
            · have hcw : ky + 1 < s := by omega
              have j3 : (ky : Int) < (s : Int) - 1 := by omega
              have hot : oddT E s 2 k = oddF E ((2 : Int), ((kx : Int), (ky : Int), (kz : Int))) := by unfold oddT; rw [HK.out, decide_eq_true (p := cmp3 _ _ < _) (by simp [cmp3]; omega), decide_eq_true (p := cmp3 _ _ < _) (by simp [cmp3]; omega)]; rfl
              have hof := oddF7_2 (c0 := c0) HN.out.2.2 hs9 HN.out.2.1 z1 z2 z3 hcu hcw E T HT.out.1.row
              clear hcm
              have HF := hide (And.intro hot hof)
              clear hot hof
              go_wp2_with fail
              refine HF.out.2.mono ?_
              rintro e w5 ⟨rfl, hB5⟩
              have h5 := HT.out.1.on hB5
              have p5 := HT.out.2.1.on hB5
              have H5 := hide (And.intro h5 (And.intro p5 hB5.size))
              clear h5 hB5 c0x c1x c2x
              obtain ⟨c0x, c1x, c2x⟩ := p5.three
              clear p5
              cases hb : oddF E ((2 : Int), ((kx : Int), (ky : Int), (kz : Int))) with
              | false =>
                have hno := oddQ_no (HF.out.1.trans hb)
                have HO := hide hno
                clear hno hb
                go_wp2_with fail
                go_roundw
                case rel =>
                  exact ⟨k + 1, by omega, by go_num, H5.out.1.row, by rw [HO.out]; exact H5.out.1.out, H5.out.1.bel⟩
                case measure => simp [intOf]; omega
              | true =>
                have hyes := oddQ_yes (HF.out.1.trans hb)
                rw [HK.out] at hyes
                have hfw := oddQ_few (E := E) (a := 2) (by omega) HN.out.1 hk
                obtain ⟨EL, hEL⟩ : ∃ EL, EL = oddQ E s 2 k := ⟨_, rfl⟩
                obtain ⟨ne, hne⟩ : ∃ ne, ne = EL.length := ⟨_, rfl⟩
                rw [← hEL, ← hne] at hfw
                rw [← hEL] at hyes
                have HO := hide (And.intro hyes (And.intro hne hEL))
                clear hyes hb hEL hne
                go_wp2_with fail
                refine (face7r_any 2 ((kx : Int), (ky : Int), (kz : Int)) w5).mono ?_
                rintro e w6 ⟨rfl, hB6⟩
                have h6 := H5.out.1.on hB6
                have hown := h6.out
                rw [← HO.out.2.2, ← HO.out.2.1] at hown
                have H6 := hide (And.intro h6 hown)
                have hw6 := h6.bel.size
                clear h6 hB6 hown c0x c1x c2x
                go_wp2_with (at_builtin; refine wpList_append1 rfl _ _ _ rfl Try.underlying38 infoFc rfl (by omega) encF_len encF_one rfl (H6.out.2.alloc _) w6.heap.size 1 (2, ((kx : Int), (ky : Int), (kz : Int))) rfl (Blk.new _ _ _) (by unfold maxLen; omega) (by omega) (by simp; omega) ?_; intro gp cap U7 ho7 hg7 hB7 hat7 hgb7 hlt7)
                go_roundw
                case rel =>
                  have hbA : Below w.heap.size w6 U7 := ((Below.refl w.heap.size w6).alloc hw6 _).trans hB7
                  refine ⟨k + 1, by omega, by go_num, H6.out.1.row.below hbA hgw, ?_, H6.out.1.bel.trans hbA⟩
                  rw [HO.out.1, List.length_append, ← HO.out.2.1]
                  exact ho7
                case measure => simp [intOf]; omega
        · have j1 : ¬ (k : Int) < (m : Int) := by clear hw1 hw2; omega
          obtain rfl : k = m := by clear hw1 hw2; omega
          have hnx := oddQ_next E s 2
          rw [← HN.out.1] at hnx
          have HO := hide hnx
          clear hnx
          go_wp2_with fail
          go_roundw
          case rel => exact ⟨3, by clear hw1 hw2; omega, by go_num, HV.out.row, by rw [← HO.out]; exact HV.out.out, HV.out.bel⟩
          case measure => simp [intOf]
/-- What the reference's Odd returns. -/
theorem Odd7r_any {L n s : Nat} (hL : 1 ≤ (L : Int) ∧ (L : Int) ≤ 8) (hn : n = 2 ^ L) (hs : s = n + 1) (hs9 : s ≤ 9) (hs2 : 2 ≤ s) (A : Option Addr) (c : Nat) (l : List EF) (w : World) (hsl : Sl encF 4 w w.heap.size A l) (hl : l.length ≤ 100000) (hf : ∀ e ∈ l, fitsF e) :
    Calls Try.prog 27 #[.slice A l.length c, .int .i64 (L : Int)] w fun e w' => ∃ v, e = .returned v ∧ Own encF 4 45 w' w.heap.size v (oddP n l).length (oddP n l) ∧ Below w.heap.size w w' := by
  have hsd := side7_any (L : Int)
  rw [sideP_in hL, Int.toNat_natCast, ← hn, ← hs] at hsd
  have hgi := fun W (hW : Below w.heap.size w W) => given7_any hs hs9 A c l W ((hsl.below hW).more hW.size) hl hf
  obtain ⟨M, hM⟩ : ∃ M, M = l.length := ⟨_, rfl⟩
  rw [← hM] at hgi ⊢
  have hs0 : ¬ (s : Int) = 0 := by omega
  have H0 := hide (And.intro hsd (And.intro hgi hs))
  clear hsd hgi hs hsl hl hf hM hn
  go_enter Try.func27, Try.ntmps27
  go_wp2_with fail
  refine (H0.out.1 w).mono ?_
  rintro e w1 ⟨rfl, hw3⟩
  obtain rfl : w = w1 := hw3.symm
  go_wp2_with fail
  refine (H0.out.2.1 w (Below.refl _ _)).mono ?_
  rintro e w2 ⟨g, m3, rfl, hm3, hr, hg, hB⟩
  have H2 := hide (And.intro hm3 (And.intro hr hB))
  clear hm3 hr hg hB
  go_wp2_with fail
  refine (odd7r_any (m := s * s * s) (c0 := m3) H0.out.2.2 hs2 hs9 rfl H2.out.1 (givE (n : Int) l) w2 H2.out.2.1).mono ?_
  rintro e w3 ⟨v, rfl, ho, hB⟩
  have H3 := hide (And.intro (ho.lower H2.out.2.2.size) (H2.out.2.2.trans (hB.mono H2.out.2.2.size)))
  clear ho hB
  go_wp2_with fail
  go_ret
  refine ⟨_, rfl, ?_, H3.out.2⟩
  unfold oddP
  rw [← H0.out.2.2]
  exact H3.out.1
end Go.Proofs.Ytdpgohpbannfnaa
