/- ContourWrong: the walk. -/
import Derived.Test.YtfljcgehhnmamaaCWrong
namespace Go.Proofs.Ytfljcgehhnmamaa
open Go.RowKit Go.Sort
set_option maxRecDepth 100000 in
set_option maxHeartbeats 16000000 in
theorem wrong_walk (L many : Int) (at_ : Nat) (w : World) (_hL : fits L) (_hm : fits many) (hat : at_ < 256) :
    Calls Try.prog 11 #[.int .i64 L, .int .i64 many, .int .u8 at_] w fun e w' => e = .returned (.bool true) ∧ Below w.heap.size w w' := by
  obtain ⟨b1, e1, hb1⟩ := and_bound many 127 (by omega)
  obtain ⟨b2, e2, hb2⟩ := and_bound' many 73 (by omega)
  have e1 : bits .and .i64 many 127 = b1 := e1
  have e2 : bits .and .i64 73 many = b2 := e2
  obtain ⟨n, hn⟩ : ∃ n, n = b1 + b2 := ⟨_, rfl⟩
  have hn2 : n ≤ 200 := by omega
  have hmkn : ∀ W : World, (Instr.makeSlice 24 (.int .i64 (n : Int)) (.int .i64 (n : Int))).run Try.prog W = .ok (.slice (some ⟨W.heap.size, 0, none⟩) n n) (W.alloc (.cells ((List.replicate n false).map Value.bool).toArray 4)) := mk_bl n (by omega)
  have hnI : (b1 : Int) + (b2 : Int) = (n : Int) := by omega
  have hm125 : ∀ W : World, (Instr.makeSlice 24 (.int .i64 125) (.int .i64 125)).run Try.prog W = .ok (.slice (some ⟨W.heap.size, 0, none⟩) 125 125) (W.alloc (.cells ((List.replicate 125 false).map Value.bool).toArray 4)) := mk_bl 125 (by omega)
  obtain ⟨Zn, hZn⟩ : ∃ Z, Z = ((List.replicate n false).map Value.bool).toArray := ⟨_, rfl⟩
  obtain ⟨Z125, hZ125⟩ : ∃ Z, Z = ((List.replicate 125 false).map Value.bool).toArray := ⟨_, rfl⟩
  rw [← hZn] at hmkn
  rw [← hZ125] at hm125
  have HZ := hide (And.intro hZn hZ125)
  clear hZn hZ125 hn
  go_enter Try.func11, Try.ntmps11
  go_wp2_with fail
  refine (sanity8_any w).mono ?_
  rintro e w1 ⟨rfl, hB1⟩
  have HB1 := hide hB1
  have hz1 := hB1.size
  clear hB1
  go_wp2_with fail
  obtain ⟨X, hX⟩ : ∃ X, X = (w1.alloc (.cells Zn 4)).alloc (.cells #[.int .i64 L, .slice (some ⟨w1.heap.size, 0, none⟩) n n] 26) := ⟨_, rfl⟩
  rw [← hX]
  have hzX : X.heap.size = w1.heap.size + 2 := by rw [hX]; simp
  have hFX : FBox X (w1.heap.size + 1) w1.heap.size L (fillF n 0) := by
    rw [hX]
    refine ⟨?_, ?_⟩
    · rw [fillF_len (by omega)]; exact Blk.new' _ _ _ _ (by simp)
    · rw [show fillF n 0 = List.replicate n false by simp [fillF], ← HZ.out.1]
      exact (Blk.new _ _ _).alloc _
  have hBX : Below w1.heap.size w1 X := by rw [hX]; exact ((Below.refl _ w1).alloc (Nat.le_refl _) _).alloc (by simp) _
  have HX := hide (And.intro hFX hBX)
  clear hFX hBX hX
  go_loopw [9] (fun iv wr => ∃ k : Nat, k ≤ n ∧ iv = .int .i64 k ∧ FBox wr (w1.heap.size + 1) w1.heap.size L (fillF n k) ∧ Below w1.heap.size w1 wr ∧ wr.heap.size = w1.heap.size + 2) (fun iv _ => n - (intOf iv).toNat)
  case atStart => exact ⟨0, by omega, rfl, HX.out.1, HX.out.2, hzX⟩
  case round =>
    obtain ⟨k, hk, rfl, hF, hB, hzr⟩ := hrel
    obtain ⟨c0, c1⟩ := hF.two
    rw [fillF_len hk] at c1
    by_cases hlt : k < n
    · have i1 : (k : Int) < (n : Int) := by omega
      have hcell := hF.cell (i := k) (by rw [fillF_len hk]; exact hlt)
      have hfrz := hF.row.frozen k
      have HF := hide (And.intro hF hB)
      clear hF hB
      go_wp2
      go_roundw
      case rel =>
        refine ⟨k + 1, by omega, by go_num, ?_, HF.out.2.setCell (by dsimp only; omega) _, by simp [World.setCell]; exact hzr⟩
        rw [← fillF_set hlt]
        exact HF.out.1.set (by omega) k true
      case measure => simp [intOf]; omega
    · have hke : k = n := by omega
      have hfull : fillF n k = List.replicate n true := by rw [hke]; simp [fillF]
      rw [hfull] at hF
      have HF := hide (And.intro hF hB)
      clear hF hB hfull
      go_wp2_with fail
      obtain ⟨Y, hY⟩ : ∃ Y, Y = (wr.alloc (.cells Z125 4)).alloc (.cells #[.int .i64 2, .slice (some ⟨w1.heap.size + 2, 0, none⟩) 125 125] 26) := ⟨_, rfl⟩
      rw [← hY]
      have hzY : Y.heap.size = w1.heap.size + 4 := by rw [hY]; simp; omega
      have hGY : FBox Y (w1.heap.size + 2 + 1) (w1.heap.size + 2) 2 (List.replicate 125 false) := by
        rw [hY]
        refine ⟨Blk.new' _ _ _ _ (by simp; omega), ?_⟩
        rw [← HZ.out.2]
        exact (Blk.new' _ _ _ _ hzr.symm).alloc _
      have hFY : FBox Y (w1.heap.size + 1) w1.heap.size L (List.replicate n true) := by rw [hY]; exact (HF.out.1.alloc _).alloc _
      have hBY : Below w1.heap.size w1 Y := by rw [hY]; exact (HF.out.2.alloc (by omega) _).alloc (by simp; omega) _
      have HG := hide (And.intro hGY (And.intro hFY hBY))
      clear hGY hFY hBY hY
      refine wp_region_mix (fun W => W.cell? ⟨w1.heap.size + 2 + 1, 1, none⟩ = some (.slice (some ⟨w1.heap.size + 2, 0, none⟩) 125 125)) [0, 1] [0, 1, 2, 3, 4] mixed_ok (by kernel_rfl) ?_
      have hq : Y.drew.cell? ⟨w1.heap.size + 2 + 1, 1, none⟩ = some (.slice (some ⟨w1.heap.size + 2, 0, none⟩) 125 125) := HG.out.1.drew.two.2
      refine wpMix_q (v := .pointer (some ⟨w1.heap.size + 2 + 1, 1, none⟩)) rfl rfl (fun _ _ _ h => h) hq ⟨rfl, fun _ h' => by simp [go_sem]⟩ ?_
      refine wpMix_q (v := .slice (some ⟨w1.heap.size + 2, 0, none⟩) 125 125) rfl rfl (fun _ _ _ h => h) hq ⟨rfl, fun _ h' => by simp [go_sem, h']⟩ ?_
      refine wpMix_n rfl rfl ?_
      go_wp2_with fail
      have hix : ∀ W, Calls Try.prog 17 #[.int .i64 2, .int .i64 2, .int .i64 2, .int .i64 2] W fun e w' => e = .returned (.int .i64 62) ∧ w' = W := fun W => index_any 2 2 2 2 (by omega) (by omega) (by omega) (by omega) (by omega) W
      refine (hix _).mono ?_
      rintro e w' ⟨rfl, rfl⟩
      clear hix
      go_wp2_with fail
      refine ⟨fun _ => hq, ?_⟩
      have hcell : Y.drew.cell? ⟨w1.heap.size + 2, 62, none⟩ = some (.bool ((List.replicate 125 false).getD 62 false)) := HG.out.1.drew.cell (by decide)
      have hfrz := HG.out.1.drew.row.frozen 62
      refine wpMix_tail _ [_, _] (by kernel_rfl) rfl ?_
      simp only [List.getElem_toArray, List.getElem_cons_succ, List.getElem_cons_zero]
      go_upto_region 9 with fail
      obtain ⟨V, hV⟩ : ∃ V, V = (Y.setCell ⟨w1.heap.size + 2, 62, none⟩ (.bool true)).drew := ⟨_, rfl⟩
      rw [← hV]
      have hzV : V.heap.size = w1.heap.size + 4 := by rw [hV]; exact (by simp [World.setCell] : (Y.setCell ⟨w1.heap.size + 2, 62, none⟩ (.bool true)).heap.size = Y.heap.size).trans hzY
      have hGV : FBox V (w1.heap.size + 2 + 1) (w1.heap.size + 2) 2 centreF := by rw [hV]; exact (HG.out.1.set (by omega) 62 true).drew
      have hFV : FBox V (w1.heap.size + 1) w1.heap.size L (List.replicate n true) := by rw [hV]; exact (HG.out.2.1.far (by dsimp only; omega) (by dsimp only; omega) _).drew
      have hBV : Below w1.heap.size w1 V := by rw [hV]; exact (HG.out.2.2.setCell (by dsimp only; omega) _).drew
      obtain ⟨t0, t1⟩ := hGV.two
      have t1 : V.cell? ⟨w1.heap.size + 2 + 1, 1, none⟩ = some (.slice (some ⟨w1.heap.size + 2, 0, none⟩) 125 125) := t1
      have hk1 : Calls Try.prog 15 #[.agg #[.int .i64 2, .slice (some ⟨w1.heap.size + 2, 0, none⟩) 125 125]] V fun e w' => ∃ v, e = .returned v ∧ Own encT 9 40 w' V.heap.size v 8 (contourP 2 centreF) ∧ Below V.heap.size V w' := by
        have h := contour_any 2 (some ⟨w1.heap.size + 2, 0, none⟩) 125 centreF V (hGV.sl (Nat.le_refl _)) (by decide)
        rw [show (contourP 2 centreF).length = 8 by rw [lenE_eq]; exact centre_len] at h
        exact h
      have HV := hide (And.intro hGV (And.intro hFV (And.intro hBV hk1)))
      clear hGV hFV hBV hk1 hV hcell hfrz hq
      go_wp2_with fail
      refine HV.out.2.2.2.mono ?_
      rintro e w2 ⟨v2, rfl, hown2, hB2⟩
      obtain ⟨A2, c2', rfl⟩ := hown2.form
      have hz2 := hB2.size
      have HB2 := hide hB2
      clear hown2 hB2 t0 t1
      obtain ⟨q, hq⟩ : ∃ q, q = at_ % 125 := ⟨_, rfl⟩
      have hq2 : ((at_ : Int) % 125) = (q : Int) := by omega
      have hq125 : q < 125 := by omega
      go_upto_region 11 with fail
      rw [hq2]
      have HQ := hide hq
      clear hq hq2
      go_cut [13] (fun v wx => v = .bool (bordB q) ∧ wx = w2)
      case first =>
        by_cases h1 : q % 5 % 4 = 0
        · have j1 : (q : Int) % 5 % 4 = 0 := by exact_mod_cast h1
          have hb : bordB q = true := by unfold bordB; simp [h1]
          have HBq := hide hb
          clear hb
          go_wp2_with fail
          go_meet
          case rel => exact ⟨by rw [HBq.out], rfl⟩
        · have j1 : ¬ (q : Int) % 5 % 4 = 0 := by exact_mod_cast h1
          by_cases h2 : q / 5 % 5 % 4 = 0
          · have j2 : (q : Int) / 5 % 5 % 4 = 0 := by exact_mod_cast h2
            have hb : bordB q = true := by unfold bordB; simp [h2]
            have HBq := hide hb
            clear hb
            go_wp2_with fail
            go_meet
            case rel => exact ⟨by rw [HBq.out], rfl⟩
          · have j2 : ¬ (q : Int) / 5 % 5 % 4 = 0 := by exact_mod_cast h2
            by_cases h3 : q / 25 % 4 = 0
            · have j3 : (q : Int) / 25 % 4 = 0 := by exact_mod_cast h3
              have hb : bordB q = true := by unfold bordB; simp [h3]
              have HBq := hide hb
              clear hb
              go_wp2_with fail
              go_meet
              case rel => exact ⟨by rw [HBq.out], rfl⟩
            · have j3 : ¬ (q : Int) / 25 % 4 = 0 := by exact_mod_cast h3
              have hb : bordB q = false := by unfold bordB; simp [h1, h2, h3]
              have HBq := hide hb
              clear hb
              go_wp2_with fail
              go_meet
              case rel => exact ⟨by rw [HBq.out]; simp [j1, j2, j3], rfl⟩
      case rest =>
        obtain ⟨rfl, rfl⟩ := hcut
        have hBw2 : Below w1.heap.size w1 wc := HV.out.2.2.1.trans (HB2.out.mono (by omega))
        have hG2 : FBox wc (w1.heap.size + 2 + 1) (w1.heap.size + 2) 2 centreF := HV.out.1.below HB2.out (by omega) (by omega)
        have hF2 : FBox wc (w1.heap.size + 1) w1.heap.size L (List.replicate n true) := HV.out.2.1.below HB2.out (by omega) (by omega)
        obtain ⟨t0, t1⟩ := hG2.two
        have t1 : wc.cell? ⟨w1.heap.size + 2 + 1, 1, none⟩ = some (.slice (some ⟨w1.heap.size + 2, 0, none⟩) 125 125) := t1
        have hcell := hG2.cell (i := q) hq125
        have hfrz := hG2.row.frozen q
        have H2 := hide (And.intro hBw2 (And.intro hG2 hF2))
        clear hBw2 hG2 hF2
        go_upto_region 13 with fail
        obtain ⟨Z, hZ⟩ : ∃ Z, Z = wc.setCell ⟨w1.heap.size + 2, q, none⟩ (.bool true) := ⟨_, rfl⟩
        rw [← hZ]
        have hGZ : FBox Z (w1.heap.size + 2 + 1) (w1.heap.size + 2) 2 (centreF.set q true) := by rw [hZ]; exact H2.out.2.1.set (by omega) q true
        have hFZ : FBox Z (w1.heap.size + 1) w1.heap.size L (List.replicate n true) := by rw [hZ]; exact H2.out.2.2.far (by dsimp only; omega) (by dsimp only; omega) _
        have hBZ : Below w1.heap.size w1 Z := by rw [hZ]; exact H2.out.1.setCell (by dsimp only; omega) _
        have hzZ := hGZ.box.lt
        have hzZ2 := hFZ.box.lt
        have hcl : (centreF.set q true).length = 125 := by rw [List.length_set]; rfl
        have hk1 : Calls Try.prog 15 #[.agg #[.int .i64 L, .slice (some ⟨w1.heap.size, 0, none⟩) n n]] Z fun e w' => ∃ v, e = .returned v ∧ Own encT 9 40 w' Z.heap.size v 0 [] ∧ Below Z.heap.size Z w' := by
          have h := contour_any L (some ⟨w1.heap.size, 0, none⟩) n (List.replicate n true) Z (hFZ.sl (Nat.le_refl _)) (by rw [List.length_replicate]; unfold maxLen; omega)
          rw [full_bad, List.length_replicate] at h
          exact h
        obtain ⟨ln, hln⟩ : ∃ ln, ln = (contourP 2 (centreF.set q true)).length := ⟨_, rfl⟩
        have hbd := centre_bord hq125
        rw [← hln] at hbd
        have hk2 : ∀ W, Below Z.heap.size Z W → Calls Try.prog 15 #[.agg #[.int .i64 2, .slice (some ⟨w1.heap.size + 2, 0, none⟩) 125 125]] W fun e w' => ∃ v, e = .returned v ∧ Own encT 9 40 w' W.heap.size v ln (contourP 2 (centreF.set q true)) ∧ Below W.heap.size W w' := fun W hW => by
          have h := contour_any 2 (some ⟨w1.heap.size + 2, 0, none⟩) 125 (centreF.set q true) W ((hGZ.below hW (by omega) (by omega)).sl (Nat.le_refl _)) (by rw [hcl]; decide)
          rw [hcl, ← hln] at h
          exact h
        obtain ⟨c0', c1'⟩ := hFZ.two
        rw [List.length_replicate] at c1'
        obtain ⟨d0, d1⟩ := hGZ.two
        rw [hcl] at d1
        have HZZ := hide (And.intro hBZ (And.intro hk1 (And.intro hk2 hGZ)))
        clear hBZ hk1 hk2 hGZ hFZ hZ hcl hln hcell hfrz t0 t1
        go_wp2_with fail
        refine HZZ.out.2.1.mono ?_
        rintro e w5 ⟨v5, rfl, hown5, hB5⟩
        obtain ⟨A5, c5', rfl⟩ := hown5.form
        have d0' := (hB5.cell (p := ⟨w1.heap.size + 2 + 1, 0, none⟩) (by dsimp only; omega)).trans d0
        have d1' := (hB5.cell (p := ⟨w1.heap.size + 2 + 1, 1, none⟩) (by dsimp only; omega)).trans d1
        have H5 := hide hB5
        clear hown5 hB5 d0 d1 c0' c1'
        go_wp2_with fail
        refine (HZZ.out.2.2.1 w5 H5.out).mono ?_
        rintro e w6 ⟨v6, rfl, hown6, hB6⟩
        obtain ⟨A6, c6', rfl⟩ := hown6.form
        have hfin : Below w.heap.size w w6 := HB1.out.trans ((HZZ.out.1.mono hz1).trans ((H5.out.mono (by omega)).trans (hB6.mono (by have := H5.out.size; omega))))
        have H6 := hide hfin
        clear hown6 hB6 hfin d0' d1'
        cases hbq : bordB q
        · rw [hbq] at hbd
          have hn0 : ¬ ln = 0 := of_decide_eq_false hbd
          have hI : ¬ (ln : Int) = 0 := by omega
          clear hbd
          go_wp2
          go_ret
          exact ⟨by simp [hn0], H6.out⟩
        · rw [hbq] at hbd
          have hn0 : ln = 0 := of_decide_eq_true hbd
          clear hbd
          subst hn0
          go_wp2
          go_ret
          exact ⟨rfl, H6.out⟩
end Go.Proofs.Ytfljcgehhnmamaa
