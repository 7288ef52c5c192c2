/- ref04.Det, of any ints (printed by mk_WdV.py). -/
import Derived.Test.YtelfnmohpjkilaaGreatDoorCB3
import Derived.Test.YtelfnmohpjkilaaGreatDoorCWdH
import Derived.Test.YtelfnmohpjkilaaGreatDoorCVolD
namespace Go.Proofs.YtelfnmohpjkilaaGreatDoor
open Go.RowKit Go.Sort
def minZ (a b c d : Int) : Int := a * b - c * d
theorem sub_absI {x y : Int} {A B : Nat} (hx : x.natAbs ≤ A) (hy : y.natAbs ≤ B) : (x - y).natAbs ≤ A + B := by omega
theorem add_absI {x y : Int} {A B : Nat} (hx : x.natAbs ≤ A) (hy : y.natAbs ≤ B) : (x + y).natAbs ≤ A + B := by omega
theorem minZ_abs {a b c d : Int} (ha : fits a) (hb : fits b) (hc : fits c) (hd : fits d) : (minZ a b c d).natAbs ≤ 170141183460469231731687303715884105728 :=
  Nat.le_trans (sub_absI (mul_absI (fits_abs ha) (fits_abs hb)) (mul_absI (fits_abs hc) (fits_abs hd))) (by decide)
theorem mulZ_abs {a x : Int} (ha : fits a) (hx : x.natAbs ≤ 170141183460469231731687303715884105728) : (a * x).natAbs ≤ 1569275433846670190958947355801916604025588861116008628224 :=
  Nat.le_trans (mul_absI (fits_abs ha) hx) (by decide)
set_option maxRecDepth 100000 in
set_option maxHeartbeats 16000000 in
theorem detI_any (p q r : Pt) (hp : fitsP p) (hq : fitsP q) (hr : fitsP r) (w : World) :
    Calls Tryz.prog 62 #[.agg #[.int .i64 p.1, .int .i64 p.2.1, .int .i64 p.2.2], .agg #[.int .i64 q.1, .int .i64 q.2.1, .int .i64 q.2.2], .agg #[.int .i64 r.1, .int .i64 r.2.1, .int .i64 r.2.2]] w fun e w' => ∃ b s, e = .returned (.agg #[.bool b, .string s]) ∧ WideI (.agg #[.bool b, .string s]) (detP p q r) ∧ Below w.heap.size w w' := by
  obtain ⟨p1, p2, p3⟩ := p
  obtain ⟨q1, q2, q3⟩ := q
  obtain ⟨r1, r2, r3⟩ := r
  obtain ⟨hp1, hp2, hp3⟩ := hp
  obtain ⟨hq1, hq2, hq3⟩ := hq
  obtain ⟨hr1, hr2, hr3⟩ := hr
  dsimp only at hp1 hp2 hp3 hq1 hq2 hq3 hr1 hr2 hr3
  have hm1 := fun W => minorI_any q2 r3 q3 r2 hq2 hr3 hq3 hr2 W
  have hm2 := fun W => minorI_any q3 r1 q1 r3 hq3 hr1 hq1 hr3 W
  have hm3 := fun W => minorI_any q1 r2 q2 r1 hq1 hr2 hq2 hr1 W
  have hf1 := fun W => fromF_any p1 hp1 W
  have hf2 := fun W => fromF_any p2 hp2 W
  have hf3 := fun W => fromF_any p3 hp3 W
  have HP := hide (And.intro hp1 (And.intro hp2 hp3))
  have HM := hide (And.intro (minZ_abs hq2 hr3 hq3 hr2) (And.intro (minZ_abs hq3 hr1 hq1 hr3) (minZ_abs hq1 hr2 hq2 hr1)))
  have HC := hide (And.intro hm1 (And.intro hm2 (And.intro hm3 (And.intro hf1 (And.intro hf2 hf3)))))
  clear hp1 hp2 hp3 hq1 hq2 hq3 hr1 hr2 hr3 hm1 hm2 hm3 hf1 hf2 hf3
  show Calls Tryz.prog 62 #[.agg #[.int .i64 p1, .int .i64 p2, .int .i64 p3], .agg #[.int .i64 q1, .int .i64 q2, .int .i64 q3], .agg #[.int .i64 r1, .int .i64 r2, .int .i64 r3]] w fun e w' => ∃ b s, e = .returned (.agg #[.bool b, .string s]) ∧ WideI (.agg #[.bool b, .string s]) (p1 * minZ q2 r3 q3 r2 + p2 * minZ q3 r1 q1 r3 + p3 * minZ q1 r2 q2 r1) ∧ Below w.heap.size w w'
  go_enter Tryz.func62, Tryz.ntmps62
  go_upto_region 1 with fail
  obtain ⟨X, hX⟩ : ∃ X, X = (((w.alloc (.cells #[.int .i64 p1, .int .i64 p2, .int .i64 p3] 41)).alloc (.cells #[.int .i64 q1, .int .i64 q2, .int .i64 q3] 41)).alloc (.cells #[.int .i64 r1, .int .i64 r2, .int .i64 r3] 41)).alloc (.cells #[.bool false, .string ⟨#[]⟩] 46) := ⟨_, rfl⟩
  rw [← hX]
  have hbp : Blk X w.heap.size 41 #[.int .i64 p1, .int .i64 p2, .int .i64 p3] := by rw [hX]; exact (((Blk.new _ _ _).alloc _).alloc _).alloc _
  have hbq : Blk X (w.heap.size + 1) 41 #[.int .i64 q1, .int .i64 q2, .int .i64 q3] := by rw [hX]; exact ((Blk.new' _ _ _ _ (by simp)).alloc _).alloc _
  have hbr : Blk X (w.heap.size + 1 + 1) 41 #[.int .i64 r1, .int .i64 r2, .int .i64 r3] := by rw [hX]; exact (Blk.new' _ _ _ _ (by simp)).alloc _
  have hb0 : Blk X (w.heap.size + 1 + 1 + 1) 46 #[.bool false, .string ⟨#[]⟩] := by rw [hX]; exact Blk.new' _ _ _ _ (by simp)
  have hBX : Below w.heap.size w X := by rw [hX]; exact ((((Below.refl _ w).alloc (Nat.le_refl _) _).alloc (by simp) _).alloc (by simp; omega) _).alloc (by simp; omega) _
  have hzX : X.heap.size = w.heap.size + 4 := by rw [hX]; simp
  obtain ⟨bx, hbx⟩ : ∃ b, b = w.heap.size := ⟨_, rfl⟩
  rw [← hbx] at hbp hbq hbr hb0 hzX ⊢
  have HX := hide (And.intro hbp (And.intro hbq (And.intro hbr (And.intro hb0 (And.intro hBX (And.intro hzX hbx))))))
  clear hbp hbq hbr hb0 hBX hzX hbx hX
  have hq_ := HX.out.2.1.below (Below.refl X.heap.size X) HX.out.2.1.lt
  have hr_ := HX.out.2.2.1.below (Below.refl X.heap.size X) HX.out.2.2.1.lt
  have c1 : X.cell? ⟨bx + 1, 0, none⟩ = some (.int .i64 q1) := hq_.cell 0
  have c2 : X.cell? ⟨bx + 1, 1, none⟩ = some (.int .i64 q2) := hq_.cell 1
  have c3 : X.cell? ⟨bx + 1, 2, none⟩ = some (.int .i64 q3) := hq_.cell 2
  have d1 : X.cell? ⟨bx + 1 + 1, 0, none⟩ = some (.int .i64 r1) := hr_.cell 0
  have d2 : X.cell? ⟨bx + 1 + 1, 1, none⟩ = some (.int .i64 r2) := hr_.cell 1
  have d3 : X.cell? ⟨bx + 1 + 1, 2, none⟩ = some (.int .i64 r3) := hr_.cell 2
  clear hq_ hr_
  go_wp2_with fail
  with_reducible refine (HC.out.1 X).mono ?_
  rintro e w1 ⟨b1, s1, rfl, hW1, hB1⟩
  have H1 := hide (And.intro hW1 ((Below.refl X.heap.size X).trans (hB1.mono (Below.refl X.heap.size X).size)))
  have H1b := hide hB1
  clear hW1 hB1 c1 c2 c3 d1 d2 d3
  go_upto_region 2 with fail
  obtain ⟨Y1, hY⟩ : ∃ Y, Y = w1.alloc (.cells #[.bool b1, .string s1] 46) := ⟨_, rfl⟩
  rw [← hY]
  have hy : Blk Y1 w1.heap.size 46 #[.bool b1, .string s1] := by rw [hY]; exact Blk.new _ _ _
  have hBY : Below X.heap.size X Y1 := by rw [hY]; exact H1.out.2.alloc H1.out.2.size _
  have hBZ : Below X.heap.size X Y1 := by rw [hY]; exact H1b.out.alloc H1b.out.size _
  obtain ⟨by1, hby⟩ : ∃ b, b = w1.heap.size := ⟨_, rfl⟩
  rw [← hby] at hy ⊢
  have HY1 := hide (And.intro hy (And.intro hBY hBZ))
  clear hy hBY hby hY hBZ
  have hq_ := HX.out.2.1.below HY1.out.2.1 HX.out.2.1.lt
  have hr_ := HX.out.2.2.1.below HY1.out.2.1 HX.out.2.2.1.lt
  have c1 : Y1.cell? ⟨bx + 1, 0, none⟩ = some (.int .i64 q1) := hq_.cell 0
  have c2 : Y1.cell? ⟨bx + 1, 1, none⟩ = some (.int .i64 q2) := hq_.cell 1
  have c3 : Y1.cell? ⟨bx + 1, 2, none⟩ = some (.int .i64 q3) := hq_.cell 2
  have d1 : Y1.cell? ⟨bx + 1 + 1, 0, none⟩ = some (.int .i64 r1) := hr_.cell 0
  have d2 : Y1.cell? ⟨bx + 1 + 1, 1, none⟩ = some (.int .i64 r2) := hr_.cell 1
  have d3 : Y1.cell? ⟨bx + 1 + 1, 2, none⟩ = some (.int .i64 r3) := hr_.cell 2
  clear hq_ hr_
  go_wp2_with fail
  with_reducible refine (HC.out.2.1 Y1).mono ?_
  rintro e w2 ⟨b2, s2, rfl, hW2, hB2⟩
  have H2 := hide (And.intro hW2 (HY1.out.2.1.trans (hB2.mono HY1.out.2.1.size)))
  have H2b := hide hB2
  clear hW2 hB2 c1 c2 c3 d1 d2 d3
  go_upto_region 3 with fail
  obtain ⟨Y2, hY⟩ : ∃ Y, Y = w2.alloc (.cells #[.bool b2, .string s2] 46) := ⟨_, rfl⟩
  rw [← hY]
  have hy : Blk Y2 w2.heap.size 46 #[.bool b2, .string s2] := by rw [hY]; exact Blk.new _ _ _
  have hBY : Below X.heap.size X Y2 := by rw [hY]; exact H2.out.2.alloc H2.out.2.size _
  have hBZ : Below Y1.heap.size Y1 Y2 := by rw [hY]; exact H2b.out.alloc H2b.out.size _
  obtain ⟨by2, hby⟩ : ∃ b, b = w2.heap.size := ⟨_, rfl⟩
  rw [← hby] at hy ⊢
  have HY2 := hide (And.intro hy (And.intro hBY hBZ))
  clear hy hBY hby hY hBZ
  have hq_ := HX.out.2.1.below HY2.out.2.1 HX.out.2.1.lt
  have hr_ := HX.out.2.2.1.below HY2.out.2.1 HX.out.2.2.1.lt
  have c1 : Y2.cell? ⟨bx + 1, 0, none⟩ = some (.int .i64 q1) := hq_.cell 0
  have c2 : Y2.cell? ⟨bx + 1, 1, none⟩ = some (.int .i64 q2) := hq_.cell 1
  have c3 : Y2.cell? ⟨bx + 1, 2, none⟩ = some (.int .i64 q3) := hq_.cell 2
  have d1 : Y2.cell? ⟨bx + 1 + 1, 0, none⟩ = some (.int .i64 r1) := hr_.cell 0
  have d2 : Y2.cell? ⟨bx + 1 + 1, 1, none⟩ = some (.int .i64 r2) := hr_.cell 1
  have d3 : Y2.cell? ⟨bx + 1 + 1, 2, none⟩ = some (.int .i64 r3) := hr_.cell 2
  clear hq_ hr_
  go_wp2_with fail
  with_reducible refine (HC.out.2.2.1 Y2).mono ?_
  rintro e w3 ⟨b3, s3, rfl, hW3, hB3⟩
  have H3 := hide (And.intro hW3 (HY2.out.2.1.trans (hB3.mono HY2.out.2.1.size)))
  have H3b := hide hB3
  clear hW3 hB3 c1 c2 c3 d1 d2 d3
  go_upto_region 4 with fail
  obtain ⟨Y3, hY⟩ : ∃ Y, Y = w3.alloc (.cells #[.bool b3, .string s3] 46) := ⟨_, rfl⟩
  rw [← hY]
  have hy : Blk Y3 w3.heap.size 46 #[.bool b3, .string s3] := by rw [hY]; exact Blk.new _ _ _
  have hBY : Below X.heap.size X Y3 := by rw [hY]; exact H3.out.2.alloc H3.out.2.size _
  have hBZ : Below Y2.heap.size Y2 Y3 := by rw [hY]; exact H3b.out.alloc H3b.out.size _
  obtain ⟨by3, hby⟩ : ∃ b, b = w3.heap.size := ⟨_, rfl⟩
  rw [← hby] at hy ⊢
  have HY3 := hide (And.intro hy (And.intro hBY hBZ))
  clear hy hBY hby hY hBZ
  have hS : ∀ W, Below Y3.heap.size Y3 W → (W.cell? ⟨bx, 0, none⟩ = some (.int .i64 p1) ∧ W.cell? ⟨bx, 1, none⟩ = some (.int .i64 p2) ∧ W.cell? ⟨bx, 2, none⟩ = some (.int .i64 p3)) ∧ (W.cell? ⟨by1, 0, none⟩ = some (.bool b1) ∧ W.cell? ⟨by1, 1, none⟩ = some (.string s1)) ∧ (W.cell? ⟨by2, 0, none⟩ = some (.bool b2) ∧ W.cell? ⟨by2, 1, none⟩ = some (.string s2)) ∧ (W.cell? ⟨by3, 0, none⟩ = some (.bool b3) ∧ W.cell? ⟨by3, 1, none⟩ = some (.string s3)) := fun W hW => by
    have h0 := HX.out.1.below HY3.out.2.1 HX.out.1.lt
    have h1 := (HY1.out.1.below HY2.out.2.2 HY1.out.1.lt).below HY3.out.2.2 (HY1.out.1.below HY2.out.2.2 HY1.out.1.lt).lt
    have h2 := HY2.out.1.below HY3.out.2.2 HY2.out.1.lt
    have h3 := HY3.out.1
    have g0 := h0.below hW h0.lt
    have g1 := h1.below hW h1.lt
    have g2 := h2.below hW h2.lt
    have g3 := h3.below hW h3.lt
    exact ⟨⟨g0.cell 0, g0.cell 1, g0.cell 2⟩, ⟨g1.cell 0, g1.cell 1⟩, ⟨g2.cell 0, g2.cell 1⟩, ⟨g3.cell 0, g3.cell 1⟩⟩
  have HS := hide hS
  clear hS
  obtain ⟨M1, hM1⟩ : ∃ M, M = minZ q2 r3 q3 r2 := ⟨_, rfl⟩
  obtain ⟨M2, hM2⟩ : ∃ M, M = minZ q3 r1 q1 r3 := ⟨_, rfl⟩
  obtain ⟨M3, hM3⟩ : ∃ M, M = minZ q1 r2 q2 r1 := ⟨_, rfl⟩
  have HMM := hide (And.intro hM1 (And.intro hM2 hM3))
  have HN := hide (show M1.natAbs ≤ 170141183460469231731687303715884105728 ∧ M2.natAbs ≤ 170141183460469231731687303715884105728 ∧ M3.natAbs ≤ 170141183460469231731687303715884105728 by rw [hM1, hM2, hM3]; exact HM.out)
  have HW := hide (show WideI (.agg #[.bool b1, .string s1]) M1 ∧ WideI (.agg #[.bool b2, .string s2]) M2 ∧ WideI (.agg #[.bool b3, .string s3]) M3 by rw [hM1, hM2, hM3]; exact ⟨H1.out.1, H2.out.1, H3.out.1⟩)
  clear hM1 hM2 hM3
  go_cut [10] (fun v wx => ∃ G b s, v = .pointer (some ⟨G, 0, none⟩) ∧ Blk wx G 46 #[.bool b, .string s] ∧ WideI (.agg #[.bool b, .string s]) (p1 * M1) ∧ Y3.heap.size ≤ G ∧ Below Y3.heap.size Y3 wx)
  case first =>
    have HQ := hide (HS.out Y3.drew (Below.refl _ Y3).drew)
    refine wp_region_tree (fun W => (W.cell? ⟨bx, 0, none⟩ = some (.int .i64 p1) ∧ W.cell? ⟨bx, 1, none⟩ = some (.int .i64 p2) ∧ W.cell? ⟨bx, 2, none⟩ = some (.int .i64 p3)) ∧ (W.cell? ⟨by1, 0, none⟩ = some (.bool b1) ∧ W.cell? ⟨by1, 1, none⟩ = some (.string s1)) ∧ (W.cell? ⟨by2, 0, none⟩ = some (.bool b2) ∧ W.cell? ⟨by2, 1, none⟩ = some (.string s2)) ∧ (W.cell? ⟨by3, 0, none⟩ = some (.bool b3) ∧ W.cell? ⟨by3, 1, none⟩ = some (.string s3))) [0, 1, 3] (.q 0 (.q 1 (.q 3 (.two 2 (.two 4 (.one 5 (.one 6 .nil)) 5 (.one 4 (.one 6 .nil))) 5 (.one 2 (.one 4 (.one 6 .nil))))))) mixed_ok (by kernel_rfl) ?_
    refine wpMixT_q (v := .pointer (some ⟨bx, 0, none⟩)) rfl (fun _ _ _ h => h) HQ.out ⟨rfl, fun _ _ => by simp [go_sem]⟩ ?_
    refine wpMixT_q (v := .int .i64 p1) rfl (fun _ _ _ h => h) HQ.out ⟨rfl, fun _ h' => by simp [go_sem, h'.1.1]⟩ ?_
    refine wpMixT_q (v := .agg #[.bool b1, .string s1]) rfl (fun _ _ _ h => h) HQ.out ⟨rfl, fun _ h' => by simp [go_sem, h'.2.1.1, h'.2.1.2]⟩ ?_
    refine wpMixT_two rfl rfl ?_ ?_
    · go_wp2_with fail
      with_reducible refine (HC.out.2.2.2.1 Y3.drew).mono ?_
      rintro e w4 ⟨b4, s4, rfl, hW4, hB4⟩
      have hB4 : Below Y3.heap.size Y3 w4 := (Below.refl Y3.heap.size Y3).drew.trans hB4
      have H4 := hide (And.intro hW4 hB4)
      clear hW4 hB4
      go_wp2_with fail
      refine ⟨fun _ => HS.out w4 H4.out.2, ?_⟩
      refine wpMixT_two rfl rfl ?_ ?_
      · go_wp2_with fail
        with_reducible refine (mulW_any _ _ _ _ H4.out.1 HW.out.1 (fits_sm HP.out.1) (by have := HN.out.1; omega) w4).mono ?_
        rintro e w5 ⟨b5, s5, rfl, hW5, hB5⟩
        have hB5 := H4.out.2.trans (hB5.mono H4.out.2.size)
        have H5 := hide (And.intro hW5 hB5)
        clear hW5 hB5
        go_wp2_with fail
        refine ⟨fun _ => HS.out w5 H5.out.2, ?_⟩
        refine wpMixT_one rfl ?_
        go_wp2_with fail
        refine ⟨fun _ => HS.out _ (H5.out.2.alloc H5.out.2.size _), ?_⟩
        refine wpMixT_one rfl ?_
        go_wp2_with fail
        refine ⟨fun _ => HS.out _ (H5.out.2.alloc H5.out.2.size _), wpMixT_nil ?_⟩
        go_wp2_with fail
        go_meet
        case rel => exact ⟨w5.heap.size, b5, s5, rfl, Blk.new _ _ _, H5.out.1, H5.out.2.size, H5.out.2.alloc H5.out.2.size _⟩
      · go_wp2_with fail
        refine ⟨fun _ => HS.out _ (H4.out.2.alloc H4.out.2.size _), ?_⟩
        obtain ⟨V, hV⟩ : ∃ V, V = w4.alloc (.cells #[.bool false, .string ⟨#[]⟩] 46) := ⟨_, rfl⟩
        rw [← hV]
        have hv : Blk V w4.heap.size 46 #[.bool false, .string ⟨#[]⟩] := by rw [hV]; exact Blk.new _ _ _
        have hBV : Below Y3.heap.size Y3 V := by rw [hV]; exact H4.out.2.alloc H4.out.2.size _
        obtain ⟨bv, hbv⟩ : ∃ b, b = w4.heap.size := ⟨_, rfl⟩
        have hbY : Y3.heap.size ≤ bv := by rw [hbv]; exact H4.out.2.size
        rw [← hbv] at hv ⊢
        have HV := hide (And.intro hv (And.intro hBV hbY))
        clear hv hBV hbY hbv hV
        refine wpMixT_one rfl ?_
        go_wp2_with fail
        with_reducible refine (mulW_any _ _ _ _ H4.out.1 HW.out.1 (fits_sm HP.out.1) (by have := HN.out.1; omega) V).mono ?_
        rintro e w5 ⟨b5, s5, rfl, hW5, hB5⟩
        have hB5' := HV.out.2.1.trans (hB5.mono HV.out.2.1.size)
        have hv5 := HV.out.1.below hB5 HV.out.1.lt
        have hS5 : Below Y3.heap.size Y3 ((w5.setCell ⟨bv, 0, none⟩ (.bool b5)).setCell ⟨bv, 1, none⟩ (.string s5)) := (hB5'.setCell HV.out.2.2 _).setCell HV.out.2.2 _
        have r0 := hv5.cell 0
        have r1 := hv5.cell 1
        have f0 := hv5.frozen 0
        have f1 := hv5.frozen 1
        have hlt := hv5.lt
        simp only [List.getElem?_toArray, List.getElem?_cons_zero, List.getElem?_cons_succ] at r0 r1
        have H5 := hide (And.intro hW5 (And.intro hB5' (And.intro hv5 hS5)))
        clear hW5 hB5 hB5' hv5 hS5
        go_wp2_with fail
        refine ⟨fun _ => HS.out w5 H5.out.2.1, ?_⟩
        refine wpMixT_one rfl ?_
        go_wp2_with fail
        refine ⟨fun _ => HS.out _ H5.out.2.2.2, wpMixT_nil ?_⟩
        go_wp2_with fail
        go_meet
        case rel => exact ⟨bv, b5, s5, rfl, (H5.out.2.2.1.set_ 0 (.bool b5)).set_ 1 (.string s5), H5.out.1, HV.out.2.2, H5.out.2.2.2⟩
    · go_wp2_with fail
      refine ⟨fun _ => HS.out _ ((Below.refl _ Y3).alloc (Nat.le_refl _) _).drew, ?_⟩
      obtain ⟨V, hV⟩ : ∃ V, V = (Y3.alloc (.cells #[.bool false, .string ⟨#[]⟩] 46)).drew := ⟨_, rfl⟩
      rw [← hV]
      have hv : Blk V Y3.heap.size 46 #[.bool false, .string ⟨#[]⟩] := by rw [hV]; exact (Blk.new _ _ _).drew
      have hBV : Below Y3.heap.size Y3 V := by rw [hV]; exact ((Below.refl _ Y3).alloc (Nat.le_refl _) _).drew
      obtain ⟨bv, hbv⟩ : ∃ b, b = Y3.heap.size := ⟨_, rfl⟩
      have hbY : Y3.heap.size ≤ bv := by rw [hbv]; exact Nat.le_refl _
      rw [← hbv] at hv ⊢
      have HV0 := hide (And.intro hv (And.intro hBV hbY))
      clear hv hBV hbY hbv hV
      refine wpMixT_one rfl ?_
      go_wp2_with fail
      with_reducible refine (HC.out.2.2.2.1 V).mono ?_
      rintro e w4 ⟨b4, s4, rfl, hW4, hB4⟩
      have H4 := hide (And.intro hW4 (HV0.out.2.1.trans (hB4.mono HV0.out.2.1.size)))
      have HV := hide (And.intro (HV0.out.1.below hB4 HV0.out.1.lt) (And.intro H4.out.2 HV0.out.2.2))
      clear hW4 hB4
      go_wp2_with fail
      refine ⟨fun _ => HS.out w4 H4.out.2, ?_⟩
      refine wpMixT_one rfl ?_
      go_wp2_with fail
      with_reducible refine (mulW_any _ _ _ _ H4.out.1 HW.out.1 (fits_sm HP.out.1) (by have := HN.out.1; omega) w4).mono ?_
      rintro e w5 ⟨b5, s5, rfl, hW5, hB5⟩
      have hB5' := HV.out.2.1.trans (hB5.mono HV.out.2.1.size)
      have hv5 := HV.out.1.below hB5 HV.out.1.lt
      have hS5 : Below Y3.heap.size Y3 ((w5.setCell ⟨bv, 0, none⟩ (.bool b5)).setCell ⟨bv, 1, none⟩ (.string s5)) := (hB5'.setCell HV.out.2.2 _).setCell HV.out.2.2 _
      have r0 := hv5.cell 0
      have r1 := hv5.cell 1
      have f0 := hv5.frozen 0
      have f1 := hv5.frozen 1
      have hlt := hv5.lt
      simp only [List.getElem?_toArray, List.getElem?_cons_zero, List.getElem?_cons_succ] at r0 r1
      have H5 := hide (And.intro hW5 (And.intro hB5' (And.intro hv5 hS5)))
      clear hW5 hB5 hB5' hv5 hS5
      go_wp2_with fail
      refine ⟨fun _ => HS.out w5 H5.out.2.1, ?_⟩
      refine wpMixT_one rfl ?_
      go_wp2_with fail
      refine ⟨fun _ => HS.out _ H5.out.2.2.2, wpMixT_nil ?_⟩
      go_wp2_with fail
      go_meet
      case rel => exact ⟨bv, b5, s5, rfl, (H5.out.2.2.1.set_ 0 (.bool b5)).set_ 1 (.string s5), H5.out.1, HV.out.2.2, H5.out.2.2.2⟩
  case rest =>
    obtain ⟨G, b7, s7, rfl, hG, hW7, hGY, hBU⟩ := hcut
    obtain ⟨U, rfl⟩ : ∃ U, U = wc := ⟨_, rfl⟩
    have HU := hide (And.intro hG (And.intro hW7 (And.intro hGY hBU)))
    clear hG hW7 hGY hBU
    have hS5 : ∀ W, Below U.heap.size U W → (W.cell? ⟨G, 0, none⟩ = some (.bool b7) ∧ W.cell? ⟨G, 1, none⟩ = some (.string s7)) ∧ W.cell? ⟨bx, 1, none⟩ = some (.int .i64 p2) ∧ (W.cell? ⟨by2, 0, none⟩ = some (.bool b2) ∧ W.cell? ⟨by2, 1, none⟩ = some (.string s2)) := fun W hW => by
      have g0 := HU.out.1.below hW HU.out.1.lt
      have g1 := HS.out W (HU.out.2.2.2.trans (hW.mono HU.out.2.2.2.size))
      exact ⟨⟨g0.cell 0, g0.cell 1⟩, g1.1.2.1, g1.2.2.1⟩
    have HS5 := hide hS5
    clear hS5
    have HQ := hide (HS5.out U.drew (Below.refl _ U).drew)
    go_upto_region 5 with fail
    refine wp_region_mix (fun W => (W.cell? ⟨G, 0, none⟩ = some (.bool b7) ∧ W.cell? ⟨G, 1, none⟩ = some (.string s7)) ∧ W.cell? ⟨bx, 1, none⟩ = some (.int .i64 p2) ∧ (W.cell? ⟨by2, 0, none⟩ = some (.bool b2) ∧ W.cell? ⟨by2, 1, none⟩ = some (.string s2))) [0, 1, 2, 4] [0, 1, 2, 4, 3, 5, 6, 7] mixed_ok (by kernel_rfl) ?_
    refine wpMix_q (v := .agg #[.bool b7, .string s7]) rfl rfl (fun _ _ _ h => h) HQ.out ⟨rfl, fun _ h' => by simp [go_sem, h'.1.1, h'.1.2]⟩ ?_
    refine wpMix_q (v := .pointer (some ⟨bx, 1, none⟩)) rfl rfl (fun _ _ _ h => h) HQ.out ⟨rfl, fun _ _ => by simp [go_sem]⟩ ?_
    refine wpMix_q (v := .int .i64 p2) rfl rfl (fun _ _ _ h => h) HQ.out ⟨rfl, fun _ h' => by simp [go_sem, h'.2.1]⟩ ?_
    refine wpMix_q (v := .agg #[.bool b2, .string s2]) rfl rfl (fun _ _ _ h => h) HQ.out ⟨rfl, fun _ h' => by simp [go_sem, h'.2.2.1, h'.2.2.2]⟩ ?_
    simp only [List.getElem_toArray, List.getElem_cons_succ, List.getElem_cons_zero]
    refine wpMix_n rfl rfl ?_
    go_wp2_with fail
    with_reducible refine (HC.out.2.2.2.2.1 U.drew).mono ?_
    rintro e w8 ⟨b8, s8, rfl, hW8, hB8⟩
    have H8 := hide (And.intro hW8 (show Below U.heap.size U w8 from (Below.refl U.heap.size U).drew.trans hB8))
    clear hW8 hB8
    go_wp2_with fail
    refine ⟨fun _ => HS5.out w8 H8.out.2, ?_⟩
    refine wpMix_n rfl rfl ?_
    go_wp2_with fail
    with_reducible refine (mulW_any _ _ _ _ H8.out.1 HW.out.2.1 (fits_sm HP.out.2.1) (by have := HN.out.2.1; omega) w8).mono ?_
    rintro e w9 ⟨b9, s9, rfl, hW9, hB9⟩
    have H9 := hide (And.intro hW9 (H8.out.2.trans (hB9.mono H8.out.2.size)))
    clear hW9 hB9
    go_wp2_with fail
    refine ⟨fun _ => HS5.out w9 H9.out.2, ?_⟩
    refine wpMix_tail _ [_, _] (by kernel_rfl) rfl ?_
    simp only [List.getElem_toArray, List.getElem_cons_succ, List.getElem_cons_zero]
    go_wp2_with fail
    have sm1 := mulZ_abs HP.out.1 HN.out.1
    have sm2 := mulZ_abs HP.out.2.1 HN.out.2.1
    have sm3 := mulZ_abs HP.out.2.2 HN.out.2.2
    have HB := hide (And.intro sm1 (And.intro sm2 sm3))
    clear sm1 sm2 sm3
    with_reducible refine (addW_any _ _ _ _ HU.out.2.1 H9.out.1 (by have := HB.out.1; omega) (by have := HB.out.2.1; omega) w9).mono ?_
    rintro e w10 ⟨b10, s10, rfl, hW10, hB10⟩
    have hBU10 := H9.out.2.trans (hB10.mono H9.out.2.size)
    have hG10 := HU.out.1.below hBU10 HU.out.1.lt
    have r0 := hG10.cell 0
    have r1 := hG10.cell 1
    have f0 := hG10.frozen 0
    have f1 := hG10.frozen 1
    have hlt := hG10.lt
    simp only [List.getElem?_toArray, List.getElem?_cons_zero, List.getElem?_cons_succ] at r0 r1
    have hBY10 := HU.out.2.2.2.trans (hBU10.mono HU.out.2.2.2.size)
    have hset := (hG10.set_ 0 (.bool b10)).set_ 1 (.string s10)
    have hbel := (hBY10.setCell (p := ⟨G, 0, none⟩) HU.out.2.2.1 (.bool b10)).setCell (p := ⟨G, 1, none⟩) HU.out.2.2.1 (.string s10)
    have H10 := hide (And.intro hW10 (And.intro hset hbel))
    clear hW10 hB10 hBU10 hG10 hBY10 hset hbel
    go_upto_region 6 with fail
    obtain ⟨T, hT⟩ : ∃ T, T = (w10.setCell ⟨G, 0, none⟩ (.bool b10)).setCell ⟨G, 1, none⟩ (.string s10) := ⟨_, rfl⟩
    rw [← hT]
    have HT := hide (show WideI (.agg #[.bool b10, .string s10]) (p1 * M1 + p2 * M2) ∧ Blk T G 46 #[.bool b10, .string s10] ∧ Below Y3.heap.size Y3 T by rw [hT]; exact H10.out)
    clear hT r0 r1 f0 f1 hlt
    have hS6 : ∀ W, Below T.heap.size T W → (W.cell? ⟨G, 0, none⟩ = some (.bool b10) ∧ W.cell? ⟨G, 1, none⟩ = some (.string s10)) ∧ W.cell? ⟨bx, 2, none⟩ = some (.int .i64 p3) ∧ (W.cell? ⟨by3, 0, none⟩ = some (.bool b3) ∧ W.cell? ⟨by3, 1, none⟩ = some (.string s3)) := fun W hW => by
      have g0 := HT.out.2.1.below hW HT.out.2.1.lt
      have g1 := HS.out W (HT.out.2.2.trans (hW.mono HT.out.2.2.size))
      exact ⟨⟨g0.cell 0, g0.cell 1⟩, g1.1.2.2, g1.2.2.2⟩
    have HS6 := hide hS6
    clear hS6 HQ
    have HQ := hide (HS6.out T.drew (Below.refl _ T).drew)
    refine wp_region_mix (fun W => (W.cell? ⟨G, 0, none⟩ = some (.bool b10) ∧ W.cell? ⟨G, 1, none⟩ = some (.string s10)) ∧ W.cell? ⟨bx, 2, none⟩ = some (.int .i64 p3) ∧ (W.cell? ⟨by3, 0, none⟩ = some (.bool b3) ∧ W.cell? ⟨by3, 1, none⟩ = some (.string s3))) [0, 1, 2, 4] [0, 1, 2, 4, 3, 5, 6, 7] mixed_ok (by kernel_rfl) ?_
    refine wpMix_q (v := .agg #[.bool b10, .string s10]) rfl rfl (fun _ _ _ h => h) HQ.out ⟨rfl, fun _ h' => by simp [go_sem, h'.1.1, h'.1.2]⟩ ?_
    refine wpMix_q (v := .pointer (some ⟨bx, 2, none⟩)) rfl rfl (fun _ _ _ h => h) HQ.out ⟨rfl, fun _ _ => by simp [go_sem]⟩ ?_
    refine wpMix_q (v := .int .i64 p3) rfl rfl (fun _ _ _ h => h) HQ.out ⟨rfl, fun _ h' => by simp [go_sem, h'.2.1]⟩ ?_
    refine wpMix_q (v := .agg #[.bool b3, .string s3]) rfl rfl (fun _ _ _ h => h) HQ.out ⟨rfl, fun _ h' => by simp [go_sem, h'.2.2.1, h'.2.2.2]⟩ ?_
    simp only [List.getElem_toArray, List.getElem_cons_succ, List.getElem_cons_zero]
    refine wpMix_n rfl rfl ?_
    go_wp2_with fail
    with_reducible refine (HC.out.2.2.2.2.2 T.drew).mono ?_
    rintro e w11 ⟨b11, s11, rfl, hW11, hB11⟩
    have H11 := hide (And.intro hW11 (show Below T.heap.size T w11 from (Below.refl T.heap.size T).drew.trans hB11))
    clear hW11 hB11
    go_wp2_with fail
    refine ⟨fun _ => HS6.out w11 H11.out.2, ?_⟩
    refine wpMix_n rfl rfl ?_
    go_wp2_with fail
    with_reducible refine (mulW_any _ _ _ _ H11.out.1 HW.out.2.2 (fits_sm HP.out.2.2) (by have := HN.out.2.2; omega) w11).mono ?_
    rintro e w12 ⟨b12, s12, rfl, hW12, hB12⟩
    have H12 := hide (And.intro hW12 (H11.out.2.trans (hB12.mono H11.out.2.size)))
    clear hW12 hB12
    go_wp2_with fail
    refine ⟨fun _ => HS6.out w12 H12.out.2, ?_⟩
    refine wpMix_tail _ [_, _] (by kernel_rfl) rfl ?_
    simp only [List.getElem_toArray, List.getElem_cons_succ, List.getElem_cons_zero]
    go_wp2_with fail
    with_reducible refine (addW_any _ _ _ _ HT.out.1 H12.out.1 (by have := add_absI HB.out.1 HB.out.2.1; omega) (by have := HB.out.2.2; omega) w12).mono ?_
    rintro e w13 ⟨rb, rs, rfl, hW, hB13⟩
    have hBT := H12.out.2.trans (hB13.mono H12.out.2.size)
    have hBY13 := HT.out.2.2.trans (hBT.mono HT.out.2.2.size)
    have hBX13 := HY3.out.2.1.trans (hBY13.mono HY3.out.2.1.size)
    have hr6 := HX.out.2.2.2.1.below hBX13 HX.out.2.2.2.1.lt
    have hB99 := HX.out.2.2.2.2.1.trans (hBX13.mono HX.out.2.2.2.2.1.size)
    have r0 := hr6.cell 0
    have r1 := hr6.cell 1
    have f0 := hr6.frozen 0
    have f1 := hr6.frozen 1
    have hlt := hr6.lt
    simp only [List.getElem?_toArray, List.getElem?_cons_zero, List.getElem?_cons_succ] at r0 r1
    have hbx := HX.out.2.2.2.2.2.2
    have H99 := hide (And.intro hW (And.intro hB99 (And.intro hr6 hbx)))
    clear hW hB99 hr6 hbx hB13 hBT hBY13 hBX13
    go_wp2
    refine ret_at (v := .agg #[.bool rb, .string rs]) (fun W => Blk W (bx + 1 + 1 + 1) 46 #[.bool rb, .string rs]) ?_ (fun W h => ?_) rfl ⟨rb, rs, rfl, ?_, ?_⟩
    · exact (H99.out.2.2.1.set_ 0 (.bool rb)).set_ 1 (.string rs)
    · have a0 := h.cell 0
      have a1 := h.cell 1
      simp only [List.getElem?_toArray, List.getElem?_cons_zero, List.getElem?_cons_succ] at a0 a1
      simp [results, Tryz.results62, go_sem, a0, a1]
    · have := H99.out.1
      rw [HMM.out.1, HMM.out.2.1, HMM.out.2.2] at this
      exact this
    · have := H99.out.2.2.2
      exact (H99.out.2.1.setCell (by dsimp only; omega) _).setCell (by dsimp only; omega) _
end Go.Proofs.YtelfnmohpjkilaaGreatDoor
