/- ContourBits: the walk. -/
import Derived.StillTailTactics
import Derived.Test.YtfljcgehhnmamaaCB29
import Derived.Test.YtfljcgehhnmamaaCB41
import Derived.Test.YtfljcgehhnmamaaCRefC
import Derived.Test.YtfljcgehhnmamaaCSame05
namespace Go.Proofs.Ytfljcgehhnmamaa
open Go.RowKit Go.Sort
theorem idxP2_lt {x y z : Nat} (hx : x < 5) (hy : y < 5) (hz : z < 5) : idxP 2 x y z < 125 := by
  unfold idxP
  omega
/-- A vertex that is not at the border may be set. -/
theorem okF_in {G : List Bool} (hG : okF G 4 125 = true) {x y z : Nat} (hx : 1 ≤ x ∧ x ≤ 3) (hy : 1 ≤ y ∧ y ≤ 3) (hz : 1 ≤ z ∧ z ≤ 3) (b : Bool) : okF (G.set (idxP 2 x y z) b) 4 125 = true := by
  cases b with
  | false => exact okF_off hG
  | true =>
    refine okF_set hG fun j hj => ?_
    obtain ⟨e1, e2, e3⟩ := cell_no (n := 5) (z := z) (show x < 5 by omega) (show y < 5 by omega)
    have hc : j = 0 ∨ j = 1 ∨ j = 2 := by omega
    rcases hc with rfl | rfl | rfl
    · change badC 4 (((z * 5 + y) * 5 + x) % 5) = false
      rw [e1]; unfold badC; simp only [Bool.or_eq_false_iff, beq_eq_false_iff_ne, ne_eq]; omega
    · change badC 4 (((z * 5 + y) * 5 + x) / 5 % 5) = false
      rw [e2]; unfold badC; simp only [Bool.or_eq_false_iff, beq_eq_false_iff_ne, ne_eq]; omega
    · change badC 4 (((z * 5 + y) * 5 + x) / 5 / 5) = false
      rw [e3]; unfold badC; simp only [Bool.or_eq_false_iff, beq_eq_false_iff_ne, ne_eq]; omega
set_option maxRecDepth 100000 in
set_option maxHeartbeats 32000000 in
theorem bits8_walk (x0 : Nat) (w : World) (_hx0 : x0 < 4294967296) :
    Calls Try.prog 4 #[.int .u32 x0] w fun e w' => e = .returned (.bool true) ∧ Below w.heap.size w w' := by
  have hm125 : ∀ W : World, (Instr.makeSlice 24 (.int .i64 125) (.int .i64 125)).run Try.prog W = .ok (.slice (some ⟨W.heap.size, 0, none⟩) 125 125) (W.alloc (.cells ((List.replicate 125 false).map Value.bool).toArray 4)) := mk_bl 125 (by omega)
  obtain ⟨ZN, hZN⟩ : ∃ Z, Z = ((List.replicate 125 false).map Value.bool).toArray := ⟨_, rfl⟩
  rw [← hZN] at hm125
  have HZN := hide hZN
  clear hZN
  go_enter Try.func4, Try.ntmps4
  go_wp2_with fail
  refine (sanity8_any w).mono ?_
  rintro e w1 ⟨rfl, hB1⟩
  have hz1 := hB1.size
  have HB1 := hide hB1
  clear hB1
  go_upto_region 3 with fail
  obtain ⟨X, hX⟩ : ∃ X, X = (w1.alloc (.cells ZN 4)).alloc (.cells #[.int .i64 2, .slice (some ⟨w1.heap.size, 0, none⟩) 125 125] 26) := ⟨_, rfl⟩
  rw [← hX]
  have hzX : X.heap.size = w1.heap.size + 2 := by rw [hX]; simp
  have hFX : FBox X (w1.heap.size + 1) w1.heap.size 2 (List.replicate 125 false) := by
    rw [hX]
    refine ⟨by rw [List.length_replicate]; exact Blk.new' _ _ _ _ (by simp), ?_⟩
    rw [← HZN.out]
    exact (Blk.new _ _ _).alloc _
  have hBX : Below w.heap.size w X := by rw [hX]; exact (HB1.out.alloc hz1 _).alloc (by simp; omega) _
  have HX := hide (And.intro hFX (And.intro hBX hzX))
  clear hFX hBX hX HZN hm125
  go_wp2
  go_loopw [5] (fun iv wr => ∃ (k : Nat) (G : List Bool), k ≤ 27 ∧ iv = .int .i64 k ∧ FBox wr (w1.heap.size + 1) w1.heap.size 2 G ∧ G.length = 125 ∧ okF G 4 125 = true ∧ Below w.heap.size w wr) (fun iv _ => 27 - (intOf iv).toNat)
  case atStart => exact ⟨0, _, by omega, rfl, HX.out.1, by rw [List.length_replicate], okF_none _ _ _, HX.out.2.1⟩
  case round =>
    obtain ⟨k, G, hk, rfl, hF, hl, hok, hB⟩ := hrel
    obtain ⟨V, rfl⟩ : ∃ V, V = wr := ⟨_, rfl⟩
    by_cases hlt : k < 27
    · have i1 : (k : Int) < 27 := by omega
      have j1 : (0 : Int) ≤ (k : Int) := by omega
      obtain ⟨r0, hr0⟩ : ∃ r, r = k % 3 := ⟨_, rfl⟩
      obtain ⟨q1, hq1⟩ : ∃ r, r = k / 3 := ⟨_, rfl⟩
      obtain ⟨r1, hr1⟩ : ∃ r, r = q1 % 3 := ⟨_, rfl⟩
      obtain ⟨r2, hr2⟩ : ∃ r, r = k / 9 := ⟨_, rfl⟩
      have t0 : (k : Int).tmod 3 = (r0 : Int) := by rw [Int.tmod_eq_emod_of_nonneg (by omega)]; omega
      have t0' : (k : Int) % 3 = (r0 : Int) := by omega
      have t1 : (k : Int).tdiv 3 = (q1 : Int) := by rw [Int.tdiv_eq_ediv_of_nonneg (by omega)]; omega
      have t1' : (k : Int) / 3 = (q1 : Int) := by omega
      have t2 : (q1 : Int).tmod 3 = (r1 : Int) := by rw [Int.tmod_eq_emod_of_nonneg (by omega)]; omega
      have t2' : (q1 : Int) % 3 = (r1 : Int) := by omega
      have t3 : (k : Int).tdiv 9 = (r2 : Int) := by rw [Int.tdiv_eq_ediv_of_nonneg (by omega)]; omega
      have t3' : (k : Int) / 9 = (r2 : Int) := by omega
      have b0 : r0 < 3 := by omega
      have b1 : r1 < 3 := by omega
      have b2 : r2 < 3 := by omega
      have s0 : IntKind.i64.wrap (1 + (r0 : Int)) = 1 + (r0 : Int) := IntWalk.i64_in _ (by omega)
      have s1 : IntKind.i64.wrap (1 + (r1 : Int)) = 1 + (r1 : Int) := IntWalk.i64_in _ (by omega)
      have s2 : IntKind.i64.wrap (1 + (r2 : Int)) = 1 + (r2 : Int) := IntWalk.i64_in _ (by omega)
      have u0 : IntKind.i64.wrap (r0 : Int) = (r0 : Int) := IntWalk.i64_in _ (by omega)
      have u1 : IntKind.i64.wrap (r1 : Int) = (r1 : Int) := IntWalk.i64_in _ (by omega)
      have u2 : IntKind.i64.wrap (r2 : Int) = (r2 : Int) := IntWalk.i64_in _ (by omega)
      have u3 : IntKind.i64.wrap (q1 : Int) = (q1 : Int) := IntWalk.i64_in _ (by omega)
      obtain ⟨K, hK⟩ : ∃ K, K = idxP 2 (1 + r0) (1 + r1) (1 + r2) := ⟨_, rfl⟩
      have hK5 : K < 125 := by rw [hK]; exact idxP2_lt (by omega) (by omega) (by omega)
      have hix : ∀ W, Calls Try.prog 17 #[.int .i64 2, .int .i64 (1 + (r0 : Int)), .int .i64 (1 + (r1 : Int)), .int .i64 (1 + (r2 : Int))] W fun e w' => e = .returned (.int .i64 K) ∧ w' = W := fun W => by
        have h := index_any 2 (1 + r0) (1 + r1) (1 + r2) (by omega) (by omega) (by omega) (by omega) (by omega) W
        rw [← hK] at h
        push_cast at h
        exact h
      have HI := hide (And.intro hix (And.intro hK hok))
      have HF := hide (And.intro hF (And.intro hl hB))
      have h2 := hF.two
      rw [hl] at h2
      obtain ⟨a0, a1⟩ := h2
      have c1 := hF.cell (i := K) (by rw [hl]; exact hK5)
      have c2 := hF.row.frozen K
      have iK : (K : Int) < 125 := by omega
      clear hix hok hF hl hB hr0 hq1 hr1 hr2 hK
      go_upto_region 6 with fail
      go_still_tail 18, (by kernel_rfl)
      still_call (HI.out.1 _)
      repeat still_step
      refine wpStill_nil ?_
      change wpList _ _ _ _ _ V.drew
      go_wp2
      go_roundw
      case rel =>
        refine ⟨k + 1, _, by omega, by go_num, (HF.out.1.set (by omega) K _).drew, by rw [List.length_set]; exact HF.out.2.1, ?_, (HF.out.2.2.setCell (by dsimp only; omega) _).drew⟩
        rw [HI.out.2.1]
        exact okF_in HI.out.2.2 (by omega) (by omega) (by omega) _
      case measure => simp [intOf]; omega
    · have hv : validF ((2 : Nat) : Int) G = true := valid_of (l := 2) (by omega) (by omega) (by rw [hl]) (by rw [hl]; exact hok)
      have hslF : ∀ W, Below V.heap.size V W → Sl encBl 1 W W.heap.size (some ⟨w1.heap.size, 0, none⟩) G := fun W hW => ((hF.sl (Nat.le_refl _)).below hW).more hW.size
      have hmax : (contourP ((2 : Nat) : Int) G).length ≤ 12288 := contour_few (by omega) (by omega) hv
      have hft : ∀ t ∈ contourP ((2 : Nat) : Int) G, fitsT t := fun t ht => (contour_range (by omega) (by omega) hv t ht).fit
      have hcon := fun W (hW : Below V.heap.size V W) => contour_any ((2 : Nat) : Int) (some ⟨w1.heap.size, 0, none⟩) 125 G W (hslF W hW) (by rw [hl]; unfold maxLen; omega)
      have href := fun W (hW : Below V.heap.size V W) => refcon_any 2 (by omega) (by omega) (some ⟨w1.heap.size, 0, none⟩) 125 G W (hslF W hW) hv
      have hchk := check_contour (l := 2) (by omega) (by omega) hv
      rw [hl, show ((2 : Nat) : Int) = 2 from rfl] at hcon
      rw [hl, show ((2 : Nat) : Int) = 2 from rfl] at href
      rw [show ((2 : Nat) : Int) = 2 from rfl] at hmax hft hchk
      obtain ⟨C, hC⟩ : ∃ C, C = contourP 2 G := ⟨_, rfl⟩
      rw [← hC] at hcon href hmax hft hchk
      obtain ⟨m, hm⟩ : ∃ m, m = C.length := ⟨_, rfl⟩
      rw [← hm] at hcon href hmax
      have HX := hide (And.intro hcon (And.intro href (And.intro hB (And.intro hm (And.intro hmax (And.intro hft hchk))))))
      have hS : ∀ W, Below V.heap.size V W → W.cell? ⟨w1.heap.size + 1, 0, none⟩ = some (.int .i64 2) ∧ W.cell? ⟨w1.heap.size + 1, 1, none⟩ = some (.slice (some ⟨w1.heap.size, 0, none⟩) 125 125) := fun W hW => by
        have hlt := hF.box.lt
        have hb2 := hF.two
        rw [hl] at hb2
        exact ⟨(hW.cell (p := ⟨w1.heap.size + 1, 0, none⟩) hlt).trans hb2.1, (hW.cell (p := ⟨w1.heap.size + 1, 1, none⟩) hlt).trans hb2.2⟩
      have HS := hide hS
      obtain ⟨f0, f1⟩ := hS V (Below.refl _ V)
      clear hcon href hB hm hmax hft hchk hS hslF hF hC hl hok hv
      go_wp2_with fail
      refine (HX.out.1 V (Below.refl _ V)).mono ?_
      rintro e w5 ⟨v5, rfl, hown5, hB5⟩
      obtain ⟨A5, c5, rfl⟩ := hown5.form
      obtain ⟨g0, g1⟩ := HS.out w5 hB5
      have H5 := hide (And.intro hown5 hB5)
      clear hown5 hB5 f0 f1
      go_wp2_with fail
      refine (HX.out.2.1 w5 H5.out.2).mono ?_
      rintro e w6 ⟨A6, c6, rfl, hB6, hsl6⟩
      have hsl5 := (H5.out.1.sl encT_len (Nat.le_refl _)).below hB6
      have hsame := same05_any A5 A6 c5 c6 C C w6 w5.heap.size w6.heap.size hsl5 hsl6 (by have := HX.out.2.2.2.2.1; have := HX.out.2.2.2.1; omega) (by have := HX.out.2.2.2.2.1; have := HX.out.2.2.2.1; omega) HX.out.2.2.2.2.2.1 HX.out.2.2.2.2.2.1
      rw [decide_eq_true (rfl : C = C), ← HX.out.2.2.2.1] at hsame
      have hcheck := fun q => Check_any A5 c5 C (w6.drewN q) ((hsl5.below (below_drewN (Below.refl _ w6) q)).more (by have := hB6.size; exact this)) (by have := HX.out.2.2.2.2.1; have := HX.out.2.2.2.1; omega) HX.out.2.2.2.2.2.1
      rw [HX.out.2.2.2.2.2.2, ← HX.out.2.2.2.1] at hcheck
      have H6 := hide (And.intro hsame (And.intro hB6 hcheck))
      clear hsame hB6 hcheck hsl5 hsl6 g0 g1
      go_wp2_with fail
      refine H6.out.1.mono ?_
      rintro e w7 ⟨rfl, q7, rfl⟩
      go_wp2_with fail
      refine (H6.out.2.2 q7).mono ?_
      rintro e w8 ⟨rfl, hB8⟩
      have hB08 : Below w.heap.size w w8 := HX.out.2.2.1.trans ((H5.out.2.trans ((H6.out.2.1.trans ((below_drewN (Below.refl w6.heap.size w6) q7).trans hB8 |>.mono H6.out.2.1.size)).mono H5.out.2.size)).mono HX.out.2.2.1.size)
      have HE := hide hB08
      clear hB08 hB8
      go_wp2
      go_ret
      exact ⟨rfl, HE.out⟩
end Go.Proofs.Ytfljcgehhnmamaa
