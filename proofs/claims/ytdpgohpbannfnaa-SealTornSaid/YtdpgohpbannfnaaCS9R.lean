/- ref07.inside (printed by mk_S9R.py). -/
import Derived.Test.YtdpgohpbannfnaaCS9G
import Derived.Test.YtdpgohpbannfnaaCS9E
import Derived.Test.YtdpgohpbannfnaaCS9M
namespace Go.Proofs.Ytdpgohpbannfnaa
open Go.RowKit Go.Sort Go.WideMaps Go.Maps
theorem all_nat8 {n s a x y z : Nat} (hs : s = n + 1) (ha : a ≤ 2) (hx : x < s) (hy : y < s) (hz : z < s) : ((a : Int), (x : Int), (y : Int), (z : Int)) ∈ allE (n + 1) := allE_mem.2 (by dsimp only; omega)
/-- A list laid so far. -/
def soFar (L : List Bool) (k : Nat) : List Bool := L.take k ++ List.replicate (L.length - k) false
theorem soFar_zero (L : List Bool) : soFar L 0 = List.replicate L.length false := by unfold soFar; simp
theorem soFar_end (L : List Bool) : soFar L L.length = L := by unfold soFar; simp
theorem soFar_set {L : List Bool} {k : Nat} {b : Bool} (h : L[k]? = some b) : (soFar L k).set k b = soFar L (k + 1) := by
  have hk : k < L.length := (List.getElem?_eq_some_iff.1 h).1
  unfold soFar
  refine List.ext_getElem? fun j => ?_
  have ht : (L.take k).length = k := by rw [List.length_take]; omega
  have ht1 : (L.take (k + 1)).length = k + 1 := by rw [List.length_take]; omega
  rw [List.getElem?_set]
  rcases Nat.lt_trichotomy j k with h1 | h1 | h1
  · rw [if_neg (by omega), List.getElem?_append_left (by omega), List.getElem?_append_left (by omega), List.getElem?_take_of_lt (by omega), List.getElem?_take_of_lt (by omega)]
  · subst h1
    rw [if_pos rfl, if_pos (by rw [List.length_append, ht, List.length_replicate]; omega), List.getElem?_append_left (by omega), List.getElem?_take_of_lt (by omega), h]
  · rw [if_neg (by omega), List.getElem?_append_right (by omega), List.getElem?_append_right (by omega), ht, ht1, List.getElem?_replicate, List.getElem?_replicate]
    by_cases hj : j < L.length
    · rw [if_pos (by omega), if_pos (by omega)]
    · rw [if_neg (by omega), if_neg (by omega)]
theorem soFar_get {L : List Bool} {k : Nat} (hk : k < L.length) : (soFar L k)[k]? = some false := by
  unfold soFar
  have ht : (L.take k).length = k := by rw [List.length_take]; omega
  rw [List.getElem?_append_right (by omega), ht, List.getElem?_replicate, if_pos (by omega)]
theorem insL7_get {E : EF → Bool} {n s m k kx ky kz : Nat} (hs : s = n + 1) (hk : k < m) (v1 : kx = k % s) (v2 : ky = k / s % s) (v3 : kz = k / s / s) : (insL7 E n m)[k]? = some (insV E kx ky kz && !bdV n kx ky kz) := by
  unfold insL7
  rw [List.getElem?_map, List.getElem?_range hk, v1, v2, v3, hs]
  rfl
theorem xor_assoc3 (a p r : Bool) : (a != (p != r)) = ((a != p) != r) := by cases a <;> cases p <;> cases r <;> rfl
theorem insL7_len (E : EF → Bool) (n m : Nat) : (insL7 E n m).length = m := by unfold insL7; simp
set_option maxRecDepth 100000 in
set_option maxHeartbeats 32000000 in
theorem inside7r_any {n s m m3 g c0 : Nat} (hs : s = n + 1) (hs2 : 2 ≤ s) (hs9 : s ≤ 9) (hm : m = s * s * s) (hm3 : m3 = 3 * (s * s * s)) (E : EF → Bool) (w : World) (hr : RowB w g (tabE s E)) :
    Calls Try.prog 41 #[.slice (some ⟨g, 0, none⟩) m3 c0, .int .i64 (s : Int)] w fun e w' => e = .returned (.slice (some ⟨w.heap.size, 0, none⟩) m m) ∧ RowB w' w.heap.size (insL7 E n m) ∧ Below w.heap.size w w' := by
  have hm7 : m ≤ 729 := by rw [hm]; exact Nat.mul_le_mul (Nat.mul_le_mul hs9 hs9) hs9
  obtain ⟨q, hq⟩ : ∃ q, q = s * s := ⟨_, rfl⟩
  have hq8 : q ≤ 81 := by rw [hq]; exact Nat.mul_le_mul hs9 hs9
  have hw1 : wrap64 ((s : Int) * (s : Int)) = (q : Int) := by rw [hq]; exact mulW7 (Nat.le_trans hs9 (by decide)) (Nat.le_trans hs9 (by decide))
  have hw2 : wrap64 ((q : Int) * (s : Int)) = (m : Int) := by rw [hm, ← hq]; exact mulW7 (Nat.le_trans hq8 (by decide)) (Nat.le_trans hs9 (by decide))
  have hmk := mk_bl7 m (Nat.le_trans hm7 (by decide))
  obtain ⟨ZN, hZN⟩ : ∃ Z, Z = ((List.replicate m false).map Value.bool).toArray := ⟨_, rfl⟩
  rw [← hZN] at hmk
  have HZN := hide hZN
  have HW := hide (And.intro hw1 hw2)
  have HN := hide (And.intro hm (And.intro hm3 hs))
  have hgw : g < w.heap.size := Blk.lt hr
  have HR := hide hr
  clear hm hm3 hs hr hq hZN
  go_enter Try.func41, Try.ntmps41
  go_upto_region 2 with fail
  obtain ⟨X, hX⟩ : ∃ X, X = w.alloc (.cells ZN 4) := ⟨_, rfl⟩
  rw [← hX]
  have hrow : RowB X w.heap.size (soFar (insL7 E n m) 0) := by rw [soFar_zero, insL7_len, hX, HZN.out]; exact Blk.new _ _ _
  have hBX : Below w.heap.size w X := by rw [hX]; exact (Below.refl _ w).alloc (Nat.le_refl _) _
  have HX := hide (And.intro hrow hBX)
  clear hrow hBX hX hmk hw1 hw2
  go_wp2_with fail
  go_loopw [6] (fun kv wr => ∃ k : Nat, k ≤ m ∧ kv = .int .i64 k ∧ RowB wr w.heap.size (soFar (insL7 E n m) k) ∧ Below w.heap.size w wr) (fun kv _ => m - (intOf kv).toNat)
  case atStart => exact ⟨0, by omega, rfl, HX.out.1, HX.out.2⟩
  case round =>
    obtain ⟨V, rfl⟩ : ∃ V, V = wr := ⟨_, rfl⟩
    obtain ⟨k, hk, rfl, hrow, hB⟩ := hrel
    have HV := hide (And.intro hrow hB)
    have hwV : w.heap.size < V.heap.size := Blk.lt hrow
    clear hrow hB
    obtain ⟨hw1, hw2⟩ := HW.out
    by_cases hkm : k < m
    · have j1 : (k : Int) < (m : Int) := Int.ofNat_lt.2 hkm
      have hs0 : 0 < s := Nat.lt_of_lt_of_le (by decide) hs2
      have hkm3 : k < s * s * s := by rw [← HN.out.1]; exact hkm
      obtain ⟨kx, kq, ky, kz, ⟨v1, v2, v3, v4⟩, t0, t1, t2, t3, ⟨z1, z2, z3, z4⟩, u0, u1, u2, u3⟩ := vtx_nums hs0 (Nat.le_trans hs9 (by decide)) hkm3
      have hs0n : ¬ s = 0 := Nat.ne_of_gt hs0
      have hget := insL7_get (E := E) HN.out.2.2 hkm v1 v2 v3
      have hget0 := soFar_get (L := insL7 E n m) (k := k) (by rw [insL7_len]; exact hkm)
      have HK := hide (And.intro (soFar_set hget) hget0)
      have hgV : g < V.heap.size := Nat.lt_trans hgw hwV
      clear hget hget0 v1 v2 v3 v4 hkm3
      go_upto_region 5 with fail
      clear hw1 hw2
      refine wp_region_mix (fun _ => True) [0, 1, 2, 3, 4, 5, 6, 7, 8, 9, 10, 11, 12, 13] [0, 1, 2, 3, 4, 5, 6, 7, 8, 9, 10, 11, 12, 13, 14, 15] mixed_ok (by kernel_rfl) ?_
      refine wpMix_q (v := .int .i64 k) rfl rfl (fun _ _ _ h => h) trivial ⟨rfl, fun _ _ => by simp [go_sem]⟩ ?_
      refine wpMix_q (v := .int .i64 s) rfl rfl (fun _ _ _ h => h) trivial ⟨rfl, fun _ _ => by simp [go_sem]⟩ ?_
      refine wpMix_q (v := .int .i64 kx) rfl rfl (fun _ _ _ h => h) trivial ⟨rfl, fun _ _ => by simp [go_sem, t0, hs0n]⟩ ?_
      refine wpMix_q (v := .int .i64 k) rfl rfl (fun _ _ _ h => h) trivial ⟨rfl, fun _ _ => by simp [go_sem]⟩ ?_
      refine wpMix_q (v := .int .i64 s) rfl rfl (fun _ _ _ h => h) trivial ⟨rfl, fun _ _ => by simp [go_sem]⟩ ?_
      simp only [List.getElem_toArray, List.getElem_cons_succ, List.getElem_cons_zero, Act.put, List.setIfInBounds_toArray, List.set_cons_succ, List.set_cons_zero]
      refine wpMix_q (v := .int .i64 kq) rfl rfl (fun _ _ _ h => h) trivial ⟨rfl, fun _ _ => by simp [go_sem, t1, hs0n, u1]⟩ ?_
      refine wpMix_q (v := .int .i64 s) rfl rfl (fun _ _ _ h => h) trivial ⟨rfl, fun _ _ => by simp [go_sem]⟩ ?_
      refine wpMix_q (v := .int .i64 ky) rfl rfl (fun _ _ _ h => h) trivial ⟨rfl, fun _ _ => by simp [go_sem, t2, hs0n]⟩ ?_
      refine wpMix_q (v := .int .i64 k) rfl rfl (fun _ _ _ h => h) trivial ⟨rfl, fun _ _ => by simp [go_sem]⟩ ?_
      refine wpMix_q (v := .int .i64 s) rfl rfl (fun _ _ _ h => h) trivial ⟨rfl, fun _ _ => by simp [go_sem]⟩ ?_
      simp only [List.getElem_toArray, List.getElem_cons_succ, List.getElem_cons_zero, Act.put, List.setIfInBounds_toArray, List.set_cons_succ, List.set_cons_zero]
      refine wpMix_q (v := .int .i64 kq) rfl rfl (fun _ _ _ h => h) trivial ⟨rfl, fun _ _ => by simp [go_sem, t1, hs0n, u1]⟩ ?_
      refine wpMix_q (v := .int .i64 s) rfl rfl (fun _ _ _ h => h) trivial ⟨rfl, fun _ _ => by simp [go_sem]⟩ ?_
      refine wpMix_q (v := .int .i64 kz) rfl rfl (fun _ _ _ h => h) trivial ⟨rfl, fun _ _ => by simp [go_sem, t3, hs0n, u3]⟩ ?_
      refine wpMix_q (v := .agg #[.int .i64 kx, .int .i64 ky, .int .i64 kz]) rfl rfl (fun _ _ _ h => h) trivial ⟨rfl, fun _ _ => by simp [go_sem]⟩ ?_
      refine wpMix_n rfl rfl ?_
      go_wp2_with fail
      refine ⟨fun _ => trivial, ?_⟩
      refine wpMix_n rfl rfl ?_
      go_wp2_with fail
      refine ⟨fun _ => trivial, ?_⟩
      refine wpMix_nil ?_
      go_upto_region 6 with fail
      clear t0 t1 t2 t3 u0 u1 u2 u3
      obtain ⟨T, hT⟩ : ∃ T, T = (V.alloc (.cells #[.int .i64 kx, .int .i64 ky, .int .i64 kz] 42)).drew := ⟨_, rfl⟩
      rw [← hT]
      have hB1 : Below V.heap.size V T := by rw [hT]; exact ((Below.refl _ V).alloc (Nat.le_refl _) _).drew
      have hp1 : Blk T V.heap.size 42 #[.int .i64 kx, .int .i64 ky, .int .i64 kz] := by rw [hT]; exact Blk.new V _ _
      have HT := hide (And.intro hp1 (And.intro (HR.out.below (HV.out.2.trans (hB1.mono (Nat.le_of_lt hwV))) hgw) hB1))
      clear hB1 hp1 hT
      go_wp2_with fail
      go_loopw [8, 9] (fun bv iv wr => ∃ i : Nat, i ≤ kx ∧ iv = .int .i64 i ∧ bv = .bool (xorN (fun i : Nat => E (0, (i : Int), 0, 0)) i) ∧ Below T.heap.size T wr) (fun _ iv _ => kx - (intOf iv).toNat)
      case atStart => exact ⟨0, by omega, rfl, rfl, Below.refl _ _⟩
      case round =>
      obtain ⟨V0, rfl⟩ : ∃ V, V = wr := ⟨_, rfl⟩
      obtain ⟨i, hi, rfl, rfl, hB⟩ := hrel
      have HB0 := hide hB
      obtain ⟨c0x, c1x, c2x⟩ := (HT.out.1.on hB).three
      clear hB
      obtain ⟨b, hb⟩ : ∃ b, b = xorN (fun i : Nat => E (0, (i : Int), 0, 0)) i := ⟨_, rfl⟩
      rw [← hb]
      by_cases hi0 : i < kx
      · have i1 : (i : Int) < (kx : Int) := by omega
        have hat := at7r_any (s := s) (a := 0) (x := i) (y := 0) (z := 0) hs9 (by omega) (by omega) (by omega) (by omega)
        have hall := all_nat8 (n := n) (a := 0) (x := i) (y := 0) (z := 0) HN.out.2.2 (by omega) (by omega) (by omega) (by omega)
        have hjl := (edg_edgN hall).2
        have htt := tabE_get E hall
        rw [← HN.out.2.2] at hjl htt
        rw [← HN.out.2.1] at hjl
        simp only [show ((0 : Nat) : Int) = 0 from rfl] at hat hjl htt
        obtain ⟨j, hj⟩ : ∃ j, j = edgN s ((0 : Int), ((i : Int), (0 : Int), (0 : Int))) := ⟨_, rfl⟩
        rw [← hj] at hat hjl htt
        obtain ⟨bE, hbE⟩ : ∃ bE, bE = E ((0 : Int), ((i : Int), (0 : Int), (0 : Int))) := ⟨_, rfl⟩
        rw [← hbE] at htt
        have j2 : (j : Int) < (m3 : Int) := Int.ofNat_lt.2 hjl
        have hxs : xorN (fun i : Nat => E (0, (i : Int), 0, 0)) (i + 1) = (b != bE) := by rw [hb, hbE]; rfl
        have HA := hide (And.intro hat (And.intro htt hxs))
        clear hat hall hjl htt hj hbE hxs hb
        go_wp2_with fail
        refine (HA.out.1 V0).mono ?_
        rintro e w6 ⟨rfl, hB6⟩
        have hB7 := HB0.out.trans (hB6.mono HB0.out.size)
        have e1 := (HT.out.2.1.on hB7).cell HA.out.2.1
        have H7 := hide hB7
        clear hB6 hB7 c0x c1x c2x
        go_wp2_with fail
        go_roundw
        case rel =>
          refine ⟨i + 1, by omega, by go_num, ?_, H7.out⟩
          rw [HA.out.2.2]
          cases b <;> cases bE <;> rfl
        case measure => simp [intOf]; omega
      have i1 : ¬ (i : Int) < (kx : Int) := by omega
      obtain rfl : kx = i := by omega
      obtain ⟨b1, hb1⟩ : ∃ b', b' = b := ⟨_, rfl⟩
      rw [← hb1]
      have HB1v := hide (hb1.trans hb)
      clear hb hb1 hi hi0
      go_wp2_with fail
      clear c0x c1x c2x i1
      go_loopw [8, 10] (fun bv iv wr => ∃ i : Nat, i ≤ ky ∧ iv = .int .i64 i ∧ bv = .bool ((b1 != xorN (fun i : Nat => E (1, (kx : Int), (i : Int), 0)) i)) ∧ Below T.heap.size T wr) (fun _ iv _ => ky - (intOf iv).toNat)
      case atStart => exact ⟨0, by omega, rfl, (by cases b1 <;> rfl), HB0.out⟩
      case round =>
      obtain ⟨V1, rfl⟩ : ∃ V, V = wr := ⟨_, rfl⟩
      obtain ⟨i, hi, rfl, rfl, hB⟩ := hrel
      have HB1 := hide hB
      obtain ⟨c0x, c1x, c2x⟩ := (HT.out.1.on hB).three
      clear hB
      obtain ⟨b, hb⟩ : ∃ b, b = (b1 != xorN (fun i : Nat => E (1, (kx : Int), (i : Int), 0)) i) := ⟨_, rfl⟩
      rw [← hb]
      by_cases hi1 : i < ky
      · have i1 : (i : Int) < (ky : Int) := by omega
        have hat := at7r_any (s := s) (a := 1) (x := kx) (y := i) (z := 0) hs9 (by omega) (by omega) (by omega) (by omega)
        have hall := all_nat8 (n := n) (a := 1) (x := kx) (y := i) (z := 0) HN.out.2.2 (by omega) (by omega) (by omega) (by omega)
        have hjl := (edg_edgN hall).2
        have htt := tabE_get E hall
        rw [← HN.out.2.2] at hjl htt
        rw [← HN.out.2.1] at hjl
        simp only [show ((1 : Nat) : Int) = 1 from rfl, show ((0 : Nat) : Int) = 0 from rfl] at hat hjl htt
        obtain ⟨j, hj⟩ : ∃ j, j = edgN s ((1 : Int), ((kx : Int), (i : Int), (0 : Int))) := ⟨_, rfl⟩
        rw [← hj] at hat hjl htt
        obtain ⟨bE, hbE⟩ : ∃ bE, bE = E ((1 : Int), ((kx : Int), (i : Int), (0 : Int))) := ⟨_, rfl⟩
        rw [← hbE] at htt
        have j2 : (j : Int) < (m3 : Int) := Int.ofNat_lt.2 hjl
        have hxs : (b1 != xorN (fun i : Nat => E (1, (kx : Int), (i : Int), 0)) (i + 1)) = (b != bE) := by rw [hb, hbE]; exact xor_assoc3 b1 (xorN _ i) _
        have HA := hide (And.intro hat (And.intro htt hxs))
        clear hat hall hjl htt hj hbE hxs hb
        go_wp2_with fail
        refine (HA.out.1 V1).mono ?_
        rintro e w6 ⟨rfl, hB6⟩
        have hB7 := HB1.out.trans (hB6.mono HB1.out.size)
        have e1 := (HT.out.2.1.on hB7).cell HA.out.2.1
        have H7 := hide hB7
        clear hB6 hB7 c0x c1x c2x
        go_wp2_with fail
        go_roundw
        case rel =>
          refine ⟨i + 1, by omega, by go_num, ?_, H7.out⟩
          rw [HA.out.2.2]
          cases b <;> cases bE <;> rfl
        case measure => simp [intOf]; omega
      have i1 : ¬ (i : Int) < (ky : Int) := by omega
      obtain rfl : ky = i := by omega
      obtain ⟨b2, hb2⟩ : ∃ b', b' = b := ⟨_, rfl⟩
      rw [← hb2]
      have HB2v := hide (hb2.trans hb)
      clear hb hb2 hi hi1
      go_wp2_with fail
      clear c0x c1x c2x i1
      go_loopw [8, 11] (fun bv iv wr => ∃ i : Nat, i ≤ kz ∧ iv = .int .i64 i ∧ bv = .bool ((b2 != xorN (fun i : Nat => E (2, (kx : Int), (ky : Int), (i : Int))) i)) ∧ Below T.heap.size T wr) (fun _ iv _ => kz - (intOf iv).toNat)
      case atStart => exact ⟨0, by omega, rfl, (by cases b2 <;> rfl), HB1.out⟩
      case round =>
      obtain ⟨V2, rfl⟩ : ∃ V, V = wr := ⟨_, rfl⟩
      obtain ⟨i, hi, rfl, rfl, hB⟩ := hrel
      have HB2 := hide hB
      obtain ⟨c0x, c1x, c2x⟩ := (HT.out.1.on hB).three
      clear hB
      obtain ⟨b, hb⟩ : ∃ b, b = (b2 != xorN (fun i : Nat => E (2, (kx : Int), (ky : Int), (i : Int))) i) := ⟨_, rfl⟩
      rw [← hb]
      by_cases hi2 : i < kz
      · have i1 : (i : Int) < (kz : Int) := by omega
        have hat := at7r_any (s := s) (a := 2) (x := kx) (y := ky) (z := i) hs9 (by omega) (by omega) (by omega) (by omega)
        have hall := all_nat8 (n := n) (a := 2) (x := kx) (y := ky) (z := i) HN.out.2.2 (by omega) (by omega) (by omega) (by omega)
        have hjl := (edg_edgN hall).2
        have htt := tabE_get E hall
        rw [← HN.out.2.2] at hjl htt
        rw [← HN.out.2.1] at hjl
        simp only [show ((2 : Nat) : Int) = 2 from rfl] at hat hjl htt
        obtain ⟨j, hj⟩ : ∃ j, j = edgN s ((2 : Int), ((kx : Int), (ky : Int), (i : Int))) := ⟨_, rfl⟩
        rw [← hj] at hat hjl htt
        obtain ⟨bE, hbE⟩ : ∃ bE, bE = E ((2 : Int), ((kx : Int), (ky : Int), (i : Int))) := ⟨_, rfl⟩
        rw [← hbE] at htt
        have j2 : (j : Int) < (m3 : Int) := Int.ofNat_lt.2 hjl
        have hxs : (b2 != xorN (fun i : Nat => E (2, (kx : Int), (ky : Int), (i : Int))) (i + 1)) = (b != bE) := by rw [hb, hbE]; exact xor_assoc3 b2 (xorN _ i) _
        have HA := hide (And.intro hat (And.intro htt hxs))
        clear hat hall hjl htt hj hbE hxs hb
        go_wp2_with fail
        refine (HA.out.1 V2).mono ?_
        rintro e w6 ⟨rfl, hB6⟩
        have hB7 := HB2.out.trans (hB6.mono HB2.out.size)
        have e1 := (HT.out.2.1.on hB7).cell HA.out.2.1
        have H7 := hide hB7
        clear hB6 hB7 c0x c1x c2x
        go_wp2_with fail
        go_roundw
        case rel =>
          refine ⟨i + 1, by omega, by go_num, ?_, H7.out⟩
          rw [HA.out.2.2]
          cases b <;> cases bE <;> rfl
        case measure => simp [intOf]; omega
      have i1 : ¬ (i : Int) < (kz : Int) := by omega
      obtain rfl : kz = i := by omega
      obtain ⟨b3, hb3⟩ : ∃ b', b' = b := ⟨_, rfl⟩
      rw [← hb3]
      have HB3v := hide (hb3.trans hb)
      clear hb hb3 hi hi2
      go_upto_region 19 with fail
      clear c0x c1x c2x i1
      have hrV := HV.out.1.on (HT.out.2.2.trans (HB2.out.mono HT.out.2.2.size))
      have hwVV := HV.out.2.trans ((HT.out.2.2.trans (HB2.out.mono HT.out.2.2.size)).mono (Nat.le_of_lt hwV))
      have HVV := hide (And.intro hrV hwVV)
      clear hrV hwVV
      obtain ⟨c0x, c1x, c2x⟩ := (HT.out.1.on HB2.out).three
      have hsn := HN.out.2.2
      go_cut [12] (fun v wx => v = .bool (bdV n kx ky kz) ∧ wx = V2)
      case first =>
        have HSN := hide hsn
        clear hsn
        go_wp2_with fail
        all_goals (
          go_meet
          case rel =>
            refine ⟨congrArg Value.bool ?_, rfl⟩
            have hsn := HSN.out
            rw [Bool.eq_iff_iff]
            simp only [bdV, decide_eq_true_eq, Bool.or_eq_true, beq_iff_eq, true_iff]
            omega)
      case rest =>
        obtain ⟨rfl, hwc⟩ := hcut
        obtain rfl : V2 = wc := hwc.symm
        obtain ⟨bd, hbd⟩ : ∃ bd, bd = bdV n kx ky kz := ⟨_, rfl⟩
        rw [← hbd]
        have hins : (insV E kx ky kz && !bdV n kx ky kz) = (b3 && !bd) := by
          rw [hbd, HB3v.out, HB2v.out, HB1v.out]
          rfl
        have hst := HK.out.1
        rw [hins] at hst
        have e1 := HVV.out.1.cell HK.out.2
        have f1 := HVV.out.1.frozen k
        have HST := hide hst
        clear hsn hbd hins hst c0x c1x c2x
        cases b3 with
        | true =>
          go_wp2_with fail
          go_roundw
          case rel =>
            refine ⟨k + 1, by omega, by go_num, ?_, HVV.out.2.setCell (Nat.le_refl _) _⟩
            rw [← HST.out]
            exact HVV.out.1.set k (true && !bd)
          case measure => simp [intOf]; omega
        | false =>
          go_wp2_with fail
          go_roundw
          case rel =>
            refine ⟨k + 1, by omega, by go_num, ?_, HVV.out.2.setCell (Nat.le_refl _) _⟩
            rw [← HST.out]
            exact HVV.out.1.set k (false && !bd)
          case measure => simp [intOf]; omega
    · have j1 : ¬ (k : Int) < (m : Int) := fun h => hkm (Int.ofNat_lt.1 h)
      have hkl : k = (insL7 E n m).length := by rw [insL7_len]; exact Nat.le_antisymm hk (Nat.le_of_not_lt hkm)
      have hrow := HV.out.1
      rw [hkl, soFar_end] at hrow
      have HZ := hide (And.intro hrow HV.out.2)
      clear hrow hkl HV
      go_wp2_with fail
      go_ret
      exact ⟨rfl, HZ.out.1, HZ.out.2⟩
end Go.Proofs.Ytdpgohpbannfnaa
