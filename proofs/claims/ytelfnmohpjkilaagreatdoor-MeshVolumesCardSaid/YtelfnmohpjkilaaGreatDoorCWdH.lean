/- ref04.minor, of any ints (printed by mk_WdV.py). -/
import Derived.Test.YtelfnmohpjkilaaGreatDoorCWdG
namespace Go.Proofs.YtelfnmohpjkilaaGreatDoor
open Go.RowKit Go.Sort
theorem fits_abs {a : Int} (h : fits a) : a.natAbs ≤ 9223372036854775808 := by
  unfold fits at h; omega
theorem fits_sm {a : Int} (h : fits a) : a.natAbs < 65536 ^ 32 := by
  have := fits_abs h; omega
theorem mul_absI {a b : Int} {A B : Nat} (ha : a.natAbs ≤ A) (hb : b.natAbs ≤ B) : (a * b).natAbs ≤ A * B := by
  rw [Int.natAbs_mul]; exact Nat.mul_le_mul ha hb
theorem small_mulI {a b : Int} (ha : fits a) (hb : fits b) : (a * b).natAbs < 65536 ^ 32 := by
  have := mul_absI (fits_abs ha) (fits_abs hb); omega
theorem fromF_any (x : Int) (h : fits x) (w : World) :
    Calls Tryz.prog 38 #[.int .i64 x] w fun e w' => ∃ b s, e = .returned (.agg #[.bool b, .string s]) ∧ WideI (.agg #[.bool b, .string s]) x ∧ Below w.heap.size w w' :=
  fromI_any x h.1 (by have := h.2; omega) w
set_option maxRecDepth 100000 in
set_option maxHeartbeats 16000000 in
theorem minorI_any (a b c d : Int) (ha : fits a) (hb : fits b) (hc : fits c) (hd : fits d) (w : World) :
    Calls Tryz.prog 96 #[.int .i64 a, .int .i64 b, .int .i64 c, .int .i64 d] w fun e w' => ∃ r s, e = .returned (.agg #[.bool r, .string s]) ∧ WideI (.agg #[.bool r, .string s]) (a * b - c * d) ∧ Below w.heap.size w w' := by
  have HA := hide (And.intro ha (And.intro hb (And.intro hc hd)))
  clear ha hb hc hd
  go_enter Tryz.func96, Tryz.ntmps96
  go_upto_region 1 with fail
  obtain ⟨X, hX⟩ : ∃ X, X = w.alloc (.cells #[.bool false, .string ⟨#[]⟩] 46) := ⟨_, rfl⟩
  rw [← hX]
  have hb : Blk X w.heap.size 46 #[.bool false, .string ⟨#[]⟩] := by rw [hX]; exact Blk.new _ _ _
  have hBX : Below w.heap.size w X := by rw [hX]; exact (Below.refl _ w).alloc (Nat.le_refl _) _
  obtain ⟨bx, hbx⟩ : ∃ b, b = w.heap.size := ⟨_, rfl⟩
  rw [← hbx] at hb ⊢
  have HX := hide (And.intro hb (And.intro hBX hbx))
  clear hb hBX hbx hX
  go_wp2_with fail
  with_reducible refine (fromF_any a HA.out.1 X).mono ?_
  rintro e w1 ⟨b1, s1, rfl, hW1, hB1⟩
  have H1 := hide (And.intro hW1 hB1)
  clear hW1 hB1
  go_wp2_with fail
  with_reducible refine (fromF_any b HA.out.2.1 w1).mono ?_
  rintro e w2 ⟨b2, s2, rfl, hW2, hB2⟩
  have H2 := hide (And.intro hW2 (H1.out.2.trans (hB2.mono H1.out.2.size)))
  clear hW2 hB2
  go_wp2_with fail
  with_reducible refine (mulW_any _ _ _ _ H1.out.1 H2.out.1 (fits_sm HA.out.1) (fits_sm HA.out.2.1) w2).mono ?_
  rintro e w3 ⟨b3, s3, rfl, hW3, hB3⟩
  have H3 := hide (And.intro hW3 (H2.out.2.trans (hB3.mono H2.out.2.size)))
  clear hW3 hB3
  go_upto_region 2 with fail
  obtain ⟨Y, hY⟩ : ∃ Y, Y = w3.alloc (.cells #[.bool b3, .string s3] 46) := ⟨_, rfl⟩
  rw [← hY]
  have hy : Blk Y w3.heap.size 46 #[.bool b3, .string s3] := by rw [hY]; exact Blk.new _ _ _
  have hBY : Below X.heap.size X Y := by rw [hY]; exact H3.out.2.alloc H3.out.2.size _
  obtain ⟨by1, hby⟩ : ∃ b, b = w3.heap.size := ⟨_, rfl⟩
  rw [← hby] at hy ⊢
  have HY := hide (And.intro hy (And.intro hBY hby))
  clear hy hBY hby hY
  go_wp2_with fail
  with_reducible refine (fromF_any c HA.out.2.2.1 Y).mono ?_
  rintro e w4 ⟨b4, s4, rfl, hW4, hB4⟩
  have H4 := hide (And.intro hW4 hB4)
  clear hW4 hB4
  go_wp2_with fail
  with_reducible refine (fromF_any d HA.out.2.2.2 w4).mono ?_
  rintro e w5 ⟨b5, s5, rfl, hW5, hB5⟩
  have H5 := hide (And.intro hW5 (H4.out.2.trans (hB5.mono H4.out.2.size)))
  clear hW5 hB5
  go_wp2_with fail
  with_reducible refine (mulW_any _ _ _ _ H4.out.1 H5.out.1 (fits_sm HA.out.2.2.1) (fits_sm HA.out.2.2.2) w5).mono ?_
  rintro e w6 ⟨b6, s6, rfl, hW6, hB6⟩
  have H6 := hide (And.intro hW6 (H5.out.2.trans (hB6.mono H5.out.2.size)))
  clear hW6 hB6
  go_upto_region 3 with fail
  obtain ⟨Z, hZ⟩ : ∃ Z, Z = w6.alloc (.cells #[.bool b6, .string s6] 46) := ⟨_, rfl⟩
  rw [← hZ]
  have hz : Blk Z w6.heap.size 46 #[.bool b6, .string s6] := by rw [hZ]; exact Blk.new _ _ _
  have hBZ : Below Y.heap.size Y Z := by rw [hZ]; exact H6.out.2.alloc H6.out.2.size _
  obtain ⟨bz, hbz⟩ : ∃ b, b = w6.heap.size := ⟨_, rfl⟩
  rw [← hbz] at hz ⊢
  have hyZ := HY.out.1.below hBZ HY.out.1.lt
  have k0 : Z.cell? ⟨by1, 0, none⟩ = some (.bool b3) := hyZ.cell 0
  have k1 : Z.cell? ⟨by1, 1, none⟩ = some (.string s3) := hyZ.cell 1
  have k2 : Z.cell? ⟨bz, 0, none⟩ = some (.bool b6) := hz.cell 0
  have k3 : Z.cell? ⟨bz, 1, none⟩ = some (.string s6) := hz.cell 1
  have HZ := hide (HY.out.2.1.trans (hBZ.mono HY.out.2.1.size))
  clear hz hBZ hbz hZ hyZ
  go_wp2_with fail
  with_reducible refine (subW_any _ _ _ _ H3.out.1 H6.out.1 (small_mulI HA.out.1 HA.out.2.1) (small_mulI HA.out.2.2.1 HA.out.2.2.2) Z).mono ?_
  rintro e w8 ⟨rb, rs, rfl, hW, hB8⟩
  have hBX8 := HZ.out.trans (hB8.mono HZ.out.size)
  have hr6 := HX.out.1.below hBX8 HX.out.1.lt
  have hB9 := HX.out.2.1.trans (hBX8.mono HX.out.2.1.size)
  have r0 := hr6.cell 0
  have r1 := hr6.cell 1
  have f0 := hr6.frozen 0
  have f1 := hr6.frozen 1
  have hlt := hr6.lt
  simp only [List.getElem?_toArray, List.getElem?_cons_zero, List.getElem?_cons_succ] at r0 r1
  have hbx := HX.out.2.2
  have H9 := hide (And.intro hW (And.intro hB9 (And.intro hr6 hbx)))
  clear hW hB9 hr6 hbx hB8 k0 k1 k2 k3 hBX8
  go_wp2
  refine ret_at (v := .agg #[.bool rb, .string rs]) (fun W => Blk W bx 46 #[.bool rb, .string rs]) ?_ (fun W h => ?_) rfl ⟨rb, rs, rfl, H9.out.1, ?_⟩
  · exact (H9.out.2.2.1.set_ 0 (.bool rb)).set_ 1 (.string rs)
  · have a0 := h.cell 0
    have a1 := h.cell 1
    simp only [List.getElem?_toArray, List.getElem?_cons_zero, List.getElem?_cons_succ] at a0 a1
    simp [results, Tryz.results96, go_sem, a0, a1]
  · have := H9.out.2.2.2
    exact (H9.out.2.1.setCell (by dsimp only; omega) _).setCell (by dsimp only; omega) _
end Go.Proofs.YtelfnmohpjkilaaGreatDoor
