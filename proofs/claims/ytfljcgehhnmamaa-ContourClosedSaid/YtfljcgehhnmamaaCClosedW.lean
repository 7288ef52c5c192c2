/- ContourClosed: the walk. -/
import Derived.StillTailTactics
import Derived.Test.YtfljcgehhnmamaaCB23
import Derived.Test.YtfljcgehhnmamaaCB32
import Derived.Test.YtfljcgehhnmamaaCB40
import Derived.Test.YtfljcgehhnmamaaCFieldA
namespace Go.Proofs.Ytfljcgehhnmamaa
open Go.RowKit Go.Sort
def corT (t : Tri) (j : Nat) : Pt := if j = 0 then t.1 else if j = 1 then t.2.1 else t.2.2
theorem corT_of (t : Tri) {j : Nat} (hj : j < 3) : CorOf t (corT t j) := by
  have hc : j = 0 ∨ j = 1 ∨ j = 2 := by omega
  rcases hc with rfl | rfl | rfl
  · exact .inl rfl
  · exact .inr (.inl rfl)
  · exact .inr (.inr rfl)
theorem lowR.low {p : Pt} (h : lowR p) : lowP p := by
  unfold lowR at h
  unfold lowP
  omega
theorem contains_take {F : List Bool} {k : Nat} {b : Bool} (h : F[k]? = some b) : (F.take (k + 1)).contains true = ((F.take k).contains true || b) := by
  rw [List.take_add_one, h, Option.toList_some, List.contains_append]
  cases b <;> simp
set_option maxRecDepth 100000 in
set_option maxHeartbeats 32000000 in
theorem closed_walk (x0 : Nat) (A1 : Option Addr) (c1 : Nat) (ns1 : List Int) (w : World) (hx0 : x0 < 256) (hs1 : ns1 ≠ [] → Sl encZ 1 w w.heap.size A1 ns1) (hf1 : ∀ x ∈ ns1, fits x) (hl1 : ns1.length ≤ 9223372036854775807) :
    Calls Try.prog 5 #[.int .u8 x0, .slice A1 ns1.length c1] w fun e w' => e = .returned (.bool true) ∧ Below w.heap.size w w' := by
  have hfd := fun W (hW : Below w.heap.size w W) => lfield_any x0 hx0 A1 c1 ns1 W (fun hne => ((hs1 hne).below hW).more hW.size) hf1 hl1
  obtain ⟨nl, hnl⟩ : ∃ nl, nl = ns1.length := ⟨_, rfl⟩
  rw [← hnl] at hfd ⊢
  have HF := hide hfd
  clear hfd hs1 hf1 hl1 hnl
  obtain ⟨l, hl⟩ : ∃ l, l = lvlP x0 := ⟨_, rfl⟩
  have hl13 : 1 ≤ l ∧ l ≤ 3 := by rw [hl]; exact lvl_b x0
  rw [← hl] at HF
  clear hl
  go_enter Try.func5, Try.ntmps5
  go_wp2_with fail
  refine (sanity8_any w).mono ?_
  rintro e w1 ⟨rfl, hB1⟩
  have hz1 := hB1.size
  have HB1 := hide hB1
  clear hB1
  go_wp2_with fail
  refine (HF.out w1 HB1.out).mono ?_
  rintro e w2 ⟨gF, F, rfl, hb, hg, hv, hB2⟩
  have hz2 := hB2.size
  obtain ⟨hlen, _⟩ := valid_parts hv
  have hlow : ∀ t ∈ contourP l F, lowT t := fun t ht => ⟨(contour_low hl13.1 hl13.2 hv ht (.inl rfl)).low, (contour_low hl13.1 hl13.2 hv ht (.inr (.inl rfl))).low, (contour_low hl13.1 hl13.2 hv ht (.inr (.inr rfl))).low⟩
  have hrng : ∀ t ∈ contourP l F, ∀ j, j < 3 → lowR (corT t j) := fun t ht j hj => contour_low hl13.1 hl13.2 hv ht (corT_of t hj)
  have hfit : ∀ t ∈ contourP l F, fitsT t := fun t ht => (contour_range hl13.1 hl13.2 hv t ht).fit
  have hfew := contour_few hl13.1 hl13.2 hv
  have hchk := check_contour hl13.1 hl13.2 hv
  have hvol := contour_vol hl13.1 hl13.2 hv
  have hcc := fun (W : World) (hs : Sl encBl 1 W W.heap.size (some ⟨gF, 0, none⟩) F) => contour_any l (some ⟨gF, 0, none⟩) F.length F W hs (by
    have hc : l = 1 ∨ l = 2 ∨ l = 3 := by omega
    rw [hlen]
    rcases hc with rfl | rfl | rfl <;> decide)
  have hN729 : F.length ≤ 729 := by
    have hc : l = 1 ∨ l = 2 ∨ l = 3 := by omega
    rw [hlen]
    rcases hc with rfl | rfl | rfl <;> decide
  obtain ⟨N, hN⟩ : ∃ N, N = F.length := ⟨_, rfl⟩
  rw [← hN] at hcc hN729 ⊢
  obtain ⟨S, hSS⟩ : ∃ x, x = contourP l F := ⟨_, rfl⟩
  rw [← hSS] at hlow hrng hfit hfew hcc hchk hvol
  obtain ⟨X, hX⟩ : ∃ X, X = w2.alloc (.cells #[.int .i64 l, .slice (some ⟨gF, 0, none⟩) N N] 26) := ⟨_, rfl⟩
  have hFX : FBox X w2.heap.size gF l F := by rw [hX]; exact ⟨by rw [← hN]; exact Blk.new _ _ _, hb.alloc _⟩
  have hBX : Below w.heap.size w X := by rw [hX]; exact (HB1.out.trans (hB2.mono hz1)).alloc (by omega) _
  have HX := hide (And.intro hFX (And.intro hBX (And.intro hN hX)))
  have HL := hide (And.intro hlow (And.intro hrng (And.intro hfit (And.intro hfew (And.intro hchk (And.intro hvol hcc))))))
  clear hFX hBX hX hN hb hB2 hv hlow hrng hfit hfew hchk hvol hcc hSS hlen hl13
  go_upto_region 3 with fail
  rw [← HX.out.2.2.2]
  have c0 := HX.out.1.two.1
  have c1' := HX.out.1.two.2
  rw [← HX.out.2.2.1] at c1'
  go_wp2_with fail
  go_loopw [7, 8] (fun sv kv wr => ∃ k : Nat, k ≤ N ∧ kv = .int .i64 k ∧ sv = .bool ((F.take k).contains true) ∧ wr = X) (fun _ kv _ => N - (intOf kv).toNat)
  case atStart => exact ⟨0, by omega, rfl, by simp, rfl⟩
  case round =>
    obtain ⟨k, hk, rfl, rfl, rfl⟩ := hrel
    obtain ⟨X, rfl⟩ : ∃ X, X = wr := ⟨_, rfl⟩
    by_cases hkN : k < N
    · have i1 : (k : Int) < (N : Int) := by omega
      have hkF : k < F.length := by rw [← HX.out.2.2.1]; exact hkN
      obtain ⟨v, hv⟩ : ∃ v, F[k]? = some v := ⟨_, List.getElem?_eq_getElem hkF⟩
      have hct := contains_take hv
      have ck := HX.out.1.cell hkF
      rw [List.getD_eq_getElem?_getD, hv] at ck
      simp only [Option.getD_some] at ck
      obtain ⟨b, hb'⟩ : ∃ b, b = (F.take k).contains true := ⟨_, rfl⟩
      rw [← hb'] at hct ⊢
      have HC := hide hct
      clear hct hv hb' hkF
      cases b with
      | true =>
        go_wp2
        go_roundw
        case rel => exact ⟨k + 1, by omega, by go_num, by rw [HC.out]; rfl, trivial⟩
        case measure => simp [intOf]; omega
      | false =>
        go_wp2
        go_roundw
        case rel => exact ⟨k + 1, by omega, by go_num, by rw [HC.out]; rfl, trivial⟩
        case measure => simp [intOf]; omega
    · have hke : k = N := by omega
      have hfull : (F.take k).contains true = F.contains true := by rw [hke, HX.out.2.2.1, List.take_length]
      rw [hfull]
      obtain ⟨B, hBB⟩ : ∃ B, B = F.contains true := ⟨_, rfl⟩
      rw [← hBB]
      obtain ⟨M, hM⟩ : ∃ M, M = S.length := ⟨_, rfl⟩
      have hMs : M ≤ 12288 := by rw [hM]; exact HL.out.2.2.2.1
      have hk1 := HL.out.2.2.2.2.2.2 X (HX.out.1.sl (Nat.le_refl _))
      rw [← hM] at hk1
      have HK := hide (And.intro hM (And.intro hk1 hBB))
      have i1 : ¬ (k : Int) < (N : Int) := by omega
      clear hM hk1 hBB hfull hke
      go_wp2_with fail
      refine HK.out.2.1.mono ?_
      rintro e w4 ⟨v4, rfl, hown4, hB4⟩
      obtain ⟨As, cs, rfl⟩ := hown4.form
      have hsl4 := hown4.sl encT_len (Nat.le_refl w4.heap.size)
      have H4 := hide (And.intro hsl4 hB4)
      clear hsl4 hB4 hown4 c0 c1'
      go_wp2_with fail
      go_loopw [10] (fun kv wr => ∃ k : Nat, k ≤ M ∧ kv = .int .i64 k ∧ Below w4.heap.size w4 wr) (fun kv _ => M - (intOf kv).toNat)
      case atStart => exact ⟨0, by omega, rfl, Below.refl _ w4⟩
      case round =>
        obtain ⟨k, hk, rfl, hB⟩ := hrel
        obtain ⟨V, rfl⟩ : ∃ V, V = wr := ⟨_, rfl⟩
        have hzV := hB.size
        by_cases hkM : k < M
        · have i1 : (k : Int) < (M : Int) := by omega
          obtain ⟨t, ht⟩ : ∃ t, S[k]? = some t := ⟨_, List.getElem?_eq_getElem (by rw [← HK.out.1]; exact hkM)⟩
          have htm := HL.out.2.1 t (List.mem_of_getElem? ht)
          have HB := hide (And.intro hB (And.intro ht htm))
          clear hB ht htm
          go_wp2_with fail
          go_loopw [11] (fun jv wr => ∃ j : Nat, j ≤ 3 ∧ jv = .int .i64 j ∧ Below w4.heap.size w4 wr) (fun jv _ => 3 - (intOf jv).toNat)
          case atStart => exact ⟨0, by omega, rfl, HB.out.1⟩
          case round =>
            obtain ⟨j, hj, rfl, hB⟩ := hrel
            obtain ⟨V, rfl⟩ : ∃ V, V = wr := ⟨_, rfl⟩
            have hzV := hB.size
            by_cases hj3 : j < 3
            · have hr := HB.out.2.2 j hj3
              obtain ⟨tb, oo, hA, _, hcl⟩ := (H4.out.1.below hB).tri HB.out.2.1
              subst hA
              obtain ⟨⟨p1, p2, p3⟩, ⟨q1, q2, q3⟩, r1, r2, r3⟩ := t
              obtain ⟨g0, g1, g2, g3, g4, g5, g6, g7, g8⟩ := hcl
              have HV := hide hB
              clear hB
              have hc : j = 0 ∨ j = 1 ∨ j = 2 := by omega
              rcases hc with rfl | rfl | rfl
              · rw [show ((0 : Nat) : Int) = 0 from rfl]
                simp only [corT, if_true] at hr
                unfold lowR at hr
                obtain ⟨⟨a1, a2⟩, ⟨b1, b2⟩, d1, d2⟩ := hr
                go_upto_region 16 with fail
                obtain ⟨Y, hY⟩ : ∃ Y, Y = V.alloc (.cells #[.int .i64 p1, .int .i64 p2, .int .i64 p3] 38) := ⟨_, rfl⟩
                rw [← hY]
                have hbY : Blk Y V.heap.size 38 #[.int .i64 p1, .int .i64 p2, .int .i64 p3] := by rw [hY]; exact Blk.new _ _ _
                have y0 : Y.cell? ⟨V.heap.size, 0, none⟩ = some (.int .i64 p1) := hbY.cell 0
                have y1 : Y.cell? ⟨V.heap.size, 1, none⟩ = some (.int .i64 p2) := hbY.cell 1
                have y2 : Y.cell? ⟨V.heap.size, 2, none⟩ = some (.int .i64 p3) := hbY.cell 2
                have hBY : Below w4.heap.size w4 Y := by rw [hY]; exact HV.out.alloc hzV _
                have HYB := hide hBY
                clear hbY hBY hY g0 g1 g2 g3 g4 g5 g6 g7 g8
                go_wp2
                all_goals (refine ⟨⟨1, by omega, by go_num, HYB.out⟩, ?_⟩; simp [intOf])
              · rw [show ((1 : Nat) : Int) = 1 from rfl]
                simp only [corT, Nat.reduceEqDiff, if_true, if_false] at hr
                unfold lowR at hr
                obtain ⟨⟨a1, a2⟩, ⟨b1, b2⟩, d1, d2⟩ := hr
                go_upto_region 16 with fail
                obtain ⟨Y, hY⟩ : ∃ Y, Y = V.alloc (.cells #[.int .i64 q1, .int .i64 q2, .int .i64 q3] 38) := ⟨_, rfl⟩
                rw [← hY]
                have hbY : Blk Y V.heap.size 38 #[.int .i64 q1, .int .i64 q2, .int .i64 q3] := by rw [hY]; exact Blk.new _ _ _
                have y0 : Y.cell? ⟨V.heap.size, 0, none⟩ = some (.int .i64 q1) := hbY.cell 0
                have y1 : Y.cell? ⟨V.heap.size, 1, none⟩ = some (.int .i64 q2) := hbY.cell 1
                have y2 : Y.cell? ⟨V.heap.size, 2, none⟩ = some (.int .i64 q3) := hbY.cell 2
                have hBY : Below w4.heap.size w4 Y := by rw [hY]; exact HV.out.alloc hzV _
                have HYB := hide hBY
                clear hbY hBY hY g0 g1 g2 g3 g4 g5 g6 g7 g8
                go_wp2
                all_goals (refine ⟨⟨2, by omega, by go_num, HYB.out⟩, ?_⟩; simp [intOf])
              · rw [show ((2 : Nat) : Int) = 2 from rfl]
                simp only [corT, Nat.reduceEqDiff, if_false] at hr
                unfold lowR at hr
                obtain ⟨⟨a1, a2⟩, ⟨b1, b2⟩, d1, d2⟩ := hr
                go_upto_region 16 with fail
                obtain ⟨Y, hY⟩ : ∃ Y, Y = V.alloc (.cells #[.int .i64 r1, .int .i64 r2, .int .i64 r3] 38) := ⟨_, rfl⟩
                rw [← hY]
                have hbY : Blk Y V.heap.size 38 #[.int .i64 r1, .int .i64 r2, .int .i64 r3] := by rw [hY]; exact Blk.new _ _ _
                have y0 : Y.cell? ⟨V.heap.size, 0, none⟩ = some (.int .i64 r1) := hbY.cell 0
                have y1 : Y.cell? ⟨V.heap.size, 1, none⟩ = some (.int .i64 r2) := hbY.cell 1
                have y2 : Y.cell? ⟨V.heap.size, 2, none⟩ = some (.int .i64 r3) := hbY.cell 2
                have hBY : Below w4.heap.size w4 Y := by rw [hY]; exact HV.out.alloc hzV _
                have HYB := hide hBY
                clear hbY hBY hY g0 g1 g2 g3 g4 g5 g6 g7 g8
                go_wp2
                all_goals (refine ⟨⟨3, by omega, by go_num, HYB.out⟩, ?_⟩; simp [intOf])
            · have hj3e : j = 3 := by omega
              subst hj3e
              rw [show ((3 : Nat) : Int) = 3 from rfl]
              have HV := hide hB
              clear hB
              go_wp2
              go_roundw
              case rel => exact ⟨k + 1, by omega, by go_num, HV.out⟩
              case measure => simp [intOf]; omega
        · have i1 : ¬ (k : Int) < (M : Int) := by omega
          have hB0 := HX.out.2.1.trans ((H4.out.2.trans (hB.mono H4.out.2.size)).mono HX.out.2.1.size)
          have hslV := H4.out.1.below hB |>.more hB.size
          have hck := Check_any As cs S V hslV (by rw [← HK.out.1]; omega) HL.out.2.2.1
          rw [HL.out.2.2.2.2.1, ← HK.out.1] at hck
          have hvl := fun W (hW : Below V.heap.size V W) => volume_any As cs S W ((hslV.below hW).more hW.size) (by rw [← HK.out.1]; omega) HL.out.1
          have hvabs := volP_abs HL.out.1 S.length (Nat.le_refl _)
          rw [List.take_length, ← HK.out.1] at hvabs
          rw [← HK.out.1] at hvl
          have hvo := HL.out.2.2.2.2.2.1
          rw [← HK.out.1, ← HK.out.2.2] at hvo
          obtain ⟨vo, hvo'⟩ : ∃ vo, vo = volP S := ⟨_, rfl⟩
          rw [← hvo'] at hvl hvabs hvo
          have HZ := hide (And.intro hB0 (And.intro hck (And.intro hvl (And.intro hvabs hvo))))
          clear hB0 hslV hck hvl hvabs hvo hvo' hB
          go_wp2_with fail
          refine HZ.out.2.1.mono ?_
          rintro e w5 ⟨rfl, hB5⟩
          have H5 := hide hB5
          clear hB5
          have hm0 := HZ.out.2.2.2.2.2
          cases B with
          | true =>
            have i2 : (0 : Int) < (M : Int) := by have := of_decide_eq_true hm0; omega
            clear hm0
            go_wp2_with fail
            refine (HZ.out.2.2.1 w5 H5.out).mono ?_
            rintro e w6 ⟨b6, s6, rfl, hW6, hB6⟩
            have hsg := fun W => signW_any _ vo hW6 (by have := HZ.out.2.2.2.1; omega) W
            rw [Int.sign_eq_one_of_pos (of_decide_eq_true HZ.out.2.2.2.2.1)] at hsg
            have H6 := hide (And.intro hsg hB6)
            clear hsg hW6 hB6
            go_wp2_with fail
            refine (H6.out.1 w6).mono ?_
            rintro e w7 ⟨rfl, hB7⟩
            have hBE := HZ.out.1.trans ((H5.out.trans ((H6.out.2.trans (hB7.mono H6.out.2.size)).mono H5.out.size)).mono HZ.out.1.size)
            have HE := hide hBE
            clear hBE hB7
            go_wp2
            go_ret
            exact ⟨rfl, HE.out⟩
          | false =>
            obtain rfl : M = 0 := by have := of_decide_eq_false hm0; omega
            rw [show ((0 : Nat) : Int) = 0 from rfl] at *
            clear hm0
            go_wp2_with fail
            refine (HZ.out.2.2.1 w5 H5.out).mono ?_
            rintro e w6 ⟨b6, s6, rfl, hW6, hB6⟩
            have hsg := fun W => signW_any _ vo hW6 (by have := HZ.out.2.2.2.1; omega) W
            have hs1 : ¬ vo.sign = 1 := fun e => by
              have h0 := of_decide_eq_false HZ.out.2.2.2.2.1
              exact h0 (Int.sign_eq_one_iff_pos.1 e)
            obtain ⟨sg, hsg'⟩ : ∃ sg, sg = vo.sign := ⟨_, rfl⟩
            rw [← hsg'] at hsg hs1
            have i3 : (sg == 1) = false := by rw [beq_eq_false_iff_ne]; exact hs1
            have H6 := hide (And.intro hsg hB6)
            clear hsg hW6 hB6 hsg'
            go_wp2_with fail
            refine (H6.out.1 w6).mono ?_
            rintro e w7 ⟨rfl, hB7⟩
            have hBE := HZ.out.1.trans ((H5.out.trans ((H6.out.2.trans (hB7.mono H6.out.2.size)).mono H5.out.size)).mono HZ.out.1.size)
            have HE := hide hBE
            clear hBE hB7
            go_wp2
            go_ret
            exact ⟨rfl, HE.out⟩
end Go.Proofs.Ytfljcgehhnmamaa
