/- ref07.patch (printed by mk_S9Q.py). -/
import Derived.Test.YtdpgohpbannfnaaCS9M
namespace Go.Proofs.Ytdpgohpbannfnaa
open Go.RowKit Go.Sort Go.WideMaps Go.Maps
theorem all_nat7 {n s a x y z : Nat} (hs : s = n + 1) (ha : a ≤ 2) (hx : x < s) (hy : y < s) (hz : z < s) : ((a : Int), (x : Int), (y : Int), (z : Int)) ∈ allE (n + 1) := allE_mem.2 (by dsimp only; omega)
theorem togsE_snoc (L : List EF) (e : EF) : togsE noE (L ++ [e]) = togE (togsE noE L) e := by rw [togsE_append]; rfl
theorem grd_nat {n s : Nat} (hs : s = n + 1) {f : EF} (h : grdF n f) : ∃ x y z : Nat, (f = (0, (x : Int), (y : Int), (z : Int)) ∧ x < s ∧ y + 1 < s ∧ z + 1 < s) ∨ (f = (1, (x : Int), (y : Int), (z : Int)) ∧ x + 1 < s ∧ y < s ∧ z + 1 < s) ∨ (f = (2, (x : Int), (y : Int), (z : Int)) ∧ x + 1 < s ∧ y + 1 < s ∧ z < s) := by
  obtain ⟨a, x, y, z⟩ := f
  unfold grdF at h
  dsimp only at h
  refine ⟨x.toNat, y.toNat, z.toNat, ?_⟩
  rw [Int.toNat_of_nonneg (by omega), Int.toNat_of_nonneg (by omega), Int.toNat_of_nonneg (by omega)]
  have hc : a = 0 ∨ a = 1 ∨ a = 2 := by omega
  rcases hc with rfl | rfl | rfl
  · exact .inl ⟨rfl, by omega, by omega, by omega⟩
  · exact .inr (.inl ⟨rfl, by omega, by omega, by omega⟩)
  · exact .inr (.inr ⟨rfl, by omega, by omega, by omega⟩)
theorem count_take {F : List Bool} {k : Nat} {b : Bool} (h : F[k]? = some b) : (F.take (k + 1)).countP id = (F.take k).countP id + if b = true then 1 else 0 := by
  rw [List.take_add_one, h, List.countP_append]
  cases b <;> simp
theorem count_le (F : List Bool) (k : Nat) : (F.take k).countP id ≤ k := Nat.le_trans List.countP_le_length (List.length_take_le _ _)
/-- The patch under way: the table, the boxes of the face and of its place. -/
structure PatS (w wr : World) (s fb cb : Nat) (f : EF) (E : EF → Bool) (A : Nat) : Prop where
  row : RowB wr w.heap.size (tabE s E)
  face : Blk wr fb 45 #[.int .i64 f.1, .int .i64 f.2.1, .int .i64 f.2.2.1, .int .i64 f.2.2.2]
  bel : Below w.heap.size w wr
theorem PatS.on {w wr W : World} {s fb cb : Nat} {f : EF} {E : EF → Bool} {A : Nat} (h : PatS w wr s fb cb f E A) (hb : Below wr.heap.size wr W) : PatS w W s fb cb f E A := ⟨h.row.on hb, h.face.on hb, h.bel.trans (hb.mono h.bel.size)⟩
set_option maxRecDepth 100000 in
set_option maxHeartbeats 32000000 in
theorem patch7r_0 {n s : Nat} (hs : s = n + 1) (hs9 : s ≤ 9) (hs2 : 2 ≤ s) (Ad : Option Addr) (c : Nat) (part : List EF) (w : World) (hsl : Sl encF 4 w w.heap.size Ad part) (hg : ∀ f ∈ part, grdF n f) (hl : part.length ≤ 100000) :
    Calls Try.prog 40 #[.slice Ad part.length c, .int .i64 (s : Int), .int .i64 0] w fun e w' => ∃ m3, e = .returned (.tuple #[.slice (some ⟨w.heap.size, 0, none⟩) m3 m3, .int .i64 (cntE s (patE (n : Int) 0 part) : Nat)]) ∧ m3 = 3 * (s * s * s) ∧ RowB w' w.heap.size (tabE s (patE (n : Int) 0 part)) ∧ Below w.heap.size w w' := by
  obtain ⟨M, hM⟩ : ∃ M, M = part.length := ⟨_, rfl⟩
  rw [← hM] at hl ⊢
  obtain ⟨r1, r2, m3, w1, w2, w3, hm3, hm3b⟩ := tab_nums hs9
  have hmk := mk_bl7 m3 (Nat.le_trans hm3b (by decide))
  obtain ⟨ZN, hZN⟩ : ∃ Z, Z = ((List.replicate m3 false).map Value.bool).toArray := ⟨_, rfl⟩
  rw [← hZN] at hmk
  have hsn : (s : Int) - 1 = (n : Int) := by clear w1 w2 w3; omega
  have H0 := hide (And.intro hsl (And.intro hg (And.intro hM (And.intro hs (And.intro hs9 (And.intro hZN (And.intro hm3 hsn)))))))
  clear hsl hg hM hs hs9 hZN hm3 hsn
  go_enter Try.func40, Try.ntmps40
  go_upto_region 2 with fail
  obtain ⟨X, hX⟩ : ∃ X, X = w.alloc (.cells ZN 4) := ⟨_, rfl⟩
  rw [← hX]
  have hrow : RowB X w.heap.size (tabE s (togsE noE ((part.take 0).flatMap (patF (n : Int) 0)))) := by
    rw [show togsE noE ((part.take 0).flatMap (patF (n : Int) 0)) = noE from rfl, tabE_none, ← H0.out.2.2.2.2.2.2.1, hX, H0.out.2.2.2.2.2.1]
    exact Blk.new _ _ _
  have hBX : Below w.heap.size w X := by rw [hX]; exact (Below.refl _ w).alloc (Nat.le_refl _) _
  have HX := hide (And.intro hrow hBX)
  clear hrow hBX hX hmk w1 w2 w3
  go_wp2_with fail
  go_loopw [10] (fun iv wr => ∃ k : Nat, k ≤ M ∧ iv = .int .i64 k ∧ RowB wr w.heap.size (tabE s (togsE noE ((part.take k).flatMap (patF (n : Int) 0)))) ∧ Below w.heap.size w wr) (fun iv _ => M - (intOf iv).toNat)
  case atStart => exact ⟨0, by omega, rfl, HX.out.1, HX.out.2⟩
  case round =>
    obtain ⟨V, rfl⟩ : ∃ V, V = wr := ⟨_, rfl⟩
    obtain ⟨k, hk, rfl, hrow, hB⟩ := hrel
    have HV := hide (And.intro hrow hB)
    have hgV : w.heap.size < V.heap.size := Blk.lt hrow
    clear hrow hB
    by_cases hkM : k < M
    · have i1 : (k : Int) < (M : Int) := by omega
      obtain ⟨f, hf⟩ : ∃ f, part[k]? = some f := ⟨_, List.getElem?_eq_getElem (by rw [← H0.out.2.2.1]; exact hkM)⟩
      have htk : (part.take (k + 1)).flatMap (patF (n : Int) 0) = (part.take k).flatMap (patF (n : Int) 0) ++ patF (n : Int) 0 f := by rw [List.take_add_one, hf, List.flatMap_append]; simp
      have hgf := H0.out.2.1 f (List.mem_of_getElem? hf)
      obtain ⟨tb, oo, hA, htb, g0, g1, g2, g3⟩ := (H0.out.1.below HV.out.2).four hf
      subst hA
      obtain ⟨PL, hPL⟩ : ∃ PL, PL = (part.take k).flatMap (patF (n : Int) 0) := ⟨_, rfl⟩
      rw [← hPL] at HV htk
      have HTK := hide htk
      clear htk hPL hf
      obtain ⟨x, y, z, hcase⟩ := grd_nat H0.out.2.2.2.1 hgf
      clear hgf
      rcases hcase with ⟨rfl, hx, hy, hz⟩ | ⟨rfl, hx, hy, hz⟩ | ⟨rfl, hx, hy, hz⟩
      · dsimp only at g0 g1 g2 g3
        go_upto_region 7 with fail
        obtain ⟨Y1, hY1⟩ : ∃ Y, Y = V.alloc (.cells #[.int .i64 0, .int .i64 (x : Int), .int .i64 (y : Int), .int .i64 (z : Int)] 45) := ⟨_, rfl⟩
        rw [← hY1]
        have hb1 : Blk Y1 V.heap.size 45 #[.int .i64 0, .int .i64 (x : Int), .int .i64 (y : Int), .int .i64 (z : Int)] := by rw [hY1]; exact Blk.new _ _ _
        have hB1 : Below V.heap.size V Y1 := by rw [hY1]; exact (Below.refl _ V).alloc (Nat.le_refl _) _
        obtain ⟨a0, a1, a2, a3⟩ := hb1.four
        have K1 := hide (And.intro hb1 hB1)
        clear hb1 hB1 hY1 g0 g1 g2 g3
        have hpf : patF (n : Int) 0 ((0 : Int), ((x : Int), (y : Int), (z : Int))) = [] := by unfold patF; rw [if_pos (by simp [dirA])]
        have HP := hide hpf
        clear hpf
        go_wp2_with fail
        go_roundw
        case rel =>
          refine ⟨k + 1, by omega, by go_num, ?_, HV.out.2.trans (K1.out.2.mono HV.out.2.size)⟩
          rw [HTK.out, HP.out, List.append_nil]
          exact HV.out.1.on K1.out.2
        case measure => simp [intOf]; omega
      · dsimp only at g0 g1 g2 g3
        go_upto_region 7 with fail
        obtain ⟨Y1, hY1⟩ : ∃ Y, Y = V.alloc (.cells #[.int .i64 1, .int .i64 (x : Int), .int .i64 (y : Int), .int .i64 (z : Int)] 45) := ⟨_, rfl⟩
        rw [← hY1]
        have hb1 : Blk Y1 V.heap.size 45 #[.int .i64 1, .int .i64 (x : Int), .int .i64 (y : Int), .int .i64 (z : Int)] := by rw [hY1]; exact Blk.new _ _ _
        have hB1 : Below V.heap.size V Y1 := by rw [hY1]; exact (Below.refl _ V).alloc (Nat.le_refl _) _
        obtain ⟨a0, a1, a2, a3⟩ := hb1.four
        have K1 := hide (And.intro hb1 hB1)
        clear hb1 hB1 hY1 g0 g1 g2 g3
        go_wp2_with fail
        refine (coords7_any ((1 : Int), ((x : Int), (y : Int), (z : Int))) Y1).mono ?_
        rintro e w5 ⟨rfl, hB5⟩
        have hBV5 := K1.out.2.trans (hB5.mono K1.out.2.size)
        have K5 := hide (And.intro (K1.out.1.on hB5) hBV5)
        clear hB5 hBV5 a0 a1 a2 a3
        go_upto_region 9 with fail
        obtain ⟨Y2, hY2⟩ : ∃ Y, Y = w5.alloc (.cells #[.int .i64 (x : Int), .int .i64 (y : Int), .int .i64 (z : Int)] 42) := ⟨_, rfl⟩
        rw [← hY2]
        have hB : Below w5.heap.size w5 Y2 := by rw [hY2]; exact (Below.refl _ w5).alloc (Nat.le_refl _) _
        have hb2 : Blk Y2 w5.heap.size 42 #[.int .i64 (x : Int), .int .i64 (y : Int), .int .i64 (z : Int)] := by rw [hY2]; exact Blk.new _ _ _
        have hBV2 := K5.out.2.trans (hB.mono K5.out.2.size)
        have h5s := K5.out.2.size
        have hfb : V.heap.size < w5.heap.size := K5.out.1.lt
        have K2 := hide (And.intro (K5.out.1.on hB) (And.intro hb2 (And.intro (HV.out.1.on hBV2) (HV.out.2.trans (hBV2.mono HV.out.2.size)))))
        obtain ⟨b0, b1, b2⟩ := hb2.three
        clear hB hb2 hBV2 hY2 K5 K1
        obtain ⟨cb, hcb⟩ : ∃ cb, cb = w5.heap.size := ⟨_, rfl⟩
        rw [← hcb] at K2 b0 b1 b2 hfb h5s ⊢
        clear hcb
        obtain ⟨mm, hmm⟩ : ∃ mm, mm = x + 1 := ⟨_, rfl⟩
        have hn8 : n ≤ 8 ∧ s = n + 1 := ⟨by have h1 := H0.out.2.2.2.1; have h2 := H0.out.2.2.2.2.1; omega, H0.out.2.2.2.1⟩
        have hb9 : (x ≤ 9 ∧ y ≤ 9 ∧ z ≤ 9) ∧ mm ≤ 9 := by omega
        have hpf : patF (n : Int) 0 ((1 : Int), ((x : Int), (y : Int), (z : Int))) = rowE 0 ((1 : Int), ((x : Int), (y : Int), (z : Int))) ((0 : Nat) : Int) mm := by
          unfold patF
          rw [if_neg (by simp [dirA])]
          have e1 : lowD 0 ((1 : Int), ((x : Int), (y : Int), (z : Int))) = ((0 : Nat) : Int) := by simp [lowD]
          have e2 : (highD (n : Int) 0 ((1 : Int), ((x : Int), (y : Int), (z : Int))) + 1 - ((0 : Nat) : Int)).toNat = mm := by rw [hmm]; simp [highD, dirA, cmp3] <;> omega
          rw [e1, e2]
        have HP := hide hpf
        have hsn := H0.out.2.2.2.2.2.2.2
        obtain ⟨⟨c1, c2, c3⟩, c4⟩ := hb9
        have HHM := hide hmm
        have HN8 := hide hn8
        have hn8v : n ≤ 8 := hn8.1
        clear hpf hmm hn8
        go_wp2_with fail
        clear hsn b0 b1 b2
        go_loopw [15] (fun xv wr => ∃ (i : Nat) (v : Int), i ≤ mm ∧ xv = .int .i64 ((0 + i : Nat) : Int) ∧ Blk wr cb 42 #[.int .i64 v, .int .i64 (y : Int), .int .i64 (z : Int)] ∧ PatS w wr s V.heap.size cb ((1 : Int), ((x : Int), (y : Int), (z : Int))) (togsE noE (PL ++ rowE 0 ((1 : Int), ((x : Int), (y : Int), (z : Int))) ((0 : Nat) : Int) i)) 0) (fun xv _ => 0 + mm - (intOf xv).toNat)
        case atStart => exact ⟨0, (x : Int), by omega, by simp, K2.out.2.1, ⟨by rw [show PL ++ rowE 0 ((1 : Int), ((x : Int), (y : Int), (z : Int))) ((0 : Nat) : Int) 0 = PL from by simp [rowE]]; exact K2.out.2.2.1, K2.out.1, K2.out.2.2.2⟩⟩
        case round =>
          obtain ⟨U, rfl⟩ : ∃ U, U = wr := ⟨_, rfl⟩
          obtain ⟨i, v, hi, rfl, hcb, hP⟩ := hrel
          obtain ⟨xx, hxx⟩ : ∃ xx, xx = 0 + i := ⟨_, rfl⟩
          rw [← hxx]
          have hxs : xx ≤ 20 := by omega
          by_cases him : i < mm
          · have q1 : (xx : Int) ≤ (x : Int) := by have h1 := HHM.out; have h2 := HN8.out; omega
            have hxs2 : xx < s := by have h1 := HHM.out; have h2 := HN8.out; omega
            have hall := all_nat7 (n := n) (a := 2) (x := xx) (y := y) (z := z) H0.out.2.2.2.1 (by omega) (by omega) (by omega) (by omega)
            have hat := at7r_any (s := s) (a := 2) (x := xx) (y := y) (z := z) H0.out.2.2.2.2.1 (by omega) (by omega) (by omega) (by omega)
            have hrs := rowE_succ 0 ((1 : Int), ((x : Int), (y : Int), (z : Int))) ((0 : Nat) : Int) i
            rw [show ((3 : Int) - dirA 0 - (((1 : Int), ((x : Int), (y : Int), (z : Int))) : EF).1, set3 (((1 : Int), ((x : Int), (y : Int), (z : Int))) : EF).2 (dirA 0) (((0 : Nat) : Int) + (i : Int))) = ((2 : Int), ((xx : Int), (y : Int), (z : Int))) by rw [hxx]; simp [dirA, set3]] at hrs
            obtain ⟨L1, hL1⟩ : ∃ L1, L1 = PL ++ rowE 0 ((1 : Int), ((x : Int), (y : Int), (z : Int))) ((0 : Nat) : Int) i := ⟨_, rfl⟩
            have hL2 : PL ++ rowE 0 ((1 : Int), ((x : Int), (y : Int), (z : Int))) ((0 : Nat) : Int) (i + 1) = L1 ++ [((2 : Int), ((xx : Int), (y : Int), (z : Int)))] := by rw [hrs, hL1, List.append_assoc]
            rw [← hL1] at hP
            have hjl := (edg_edgN hall).2
            have htg := tabE_tog (togsE noE L1) hall
            have htt := tabE_get (togsE noE L1) hall
            rw [← H0.out.2.2.2.1] at hjl htg htt
            simp only [show ((2 : Nat) : Int) = 2 from rfl] at hat hjl htg htt
            obtain ⟨j, hj⟩ : ∃ j, j = edgN s ((2 : Int), ((xx : Int), (y : Int), (z : Int))) := ⟨_, rfl⟩
            rw [← hj] at hat hjl htg htt
            have hjm : j < m3 := by rw [H0.out.2.2.2.2.2.2.1]; exact hjl
            obtain ⟨bE, hbE⟩ : ∃ b, b = togsE noE L1 ((2 : Int), ((xx : Int), (y : Int), (z : Int))) := ⟨_, rfl⟩
            rw [← hbE] at htg htt
            have HT := hide (And.intro hat (And.intro htg (And.intro htt (And.intro hL2 hxx))))
            have HPS := hide (And.intro hP hcb)
            obtain ⟨b0, b1, b2⟩ := hcb.three
            have z0 := hcb.frozen 0
            have hcbU := hcb.lt
            clear hall hat hrs hL1 hL2 hjl htg htt hj hbE hP hcb hxx hxs2
            go_upto_region 18 with fail
            obtain ⟨T, hT⟩ : ∃ T, T = U.setCell ⟨cb, 0, none⟩ (.int .i64 (xx : Int)) := ⟨_, rfl⟩
            rw [← hT]
            have hcT : Blk T cb 42 #[.int .i64 (xx : Int), .int .i64 (y : Int), .int .i64 (z : Int)] := by rw [hT]; exact HPS.out.2.set_ 0 _
            have hfT : Blk T V.heap.size 45 #[.int .i64 1, .int .i64 (x : Int), .int .i64 (y : Int), .int .i64 (z : Int)] := by rw [hT]; exact HPS.out.1.face.far (p := ⟨cb, 0, none⟩) (by dsimp only; omega) _
            have hrT : RowB T w.heap.size (tabE s (togsE noE L1)) := by rw [hT]; exact HPS.out.1.row.far (p := ⟨cb, 0, none⟩) (by dsimp only; omega) _
            have hbT : Below w.heap.size w T := by rw [hT]; exact HPS.out.1.bel.setCell (by dsimp only; omega) _
            clear b0 b1 b2 z0 hT
            obtain ⟨b0, b1, b2⟩ := hcT.three
            obtain ⟨a0, a1, a2, a3⟩ := hfT.four
            have KT := hide (And.intro hcT (And.intro hfT (And.intro hrT hbT)))
            clear hcT hfT hrT hbT HPS
            go_wp2_with fail
            refine (HT.out.1 T).mono ?_
            rintro e w6 ⟨rfl, hB6⟩
            have hr6 := KT.out.2.2.1.on hB6
            have e1 := hr6.cell HT.out.2.2.1
            have f1 := hr6.frozen j
            have j1 : (j : Int) < (m3 : Int) := by omega
            have K6 := hide (And.intro (KT.out.1.on hB6) (And.intro (KT.out.2.1.on hB6) (And.intro hr6 (KT.out.2.2.2.trans (hB6.mono KT.out.2.2.2.size)))))
            clear hB6 hr6 a0 a1 a2 a3 b0 b1 b2
            go_wp2_with fail
            go_roundw
            case rel =>
              refine ⟨i + 1, (xx : Int), by omega, ?_, K6.out.1.far (p := ⟨w.heap.size, j, none⟩) (by dsimp only; omega) _, ⟨?_, K6.out.2.1.far (p := ⟨w.heap.size, j, none⟩) (by dsimp only; omega) _, K6.out.2.2.2.setCell (Nat.le_refl _) _⟩⟩
              · have h := HT.out.2.2.2.2
                go_num
              · rw [HT.out.2.2.2.1, togsE_snoc, ← HT.out.2.1]
                exact K6.out.2.2.1.set j (!bE)
            case measure => have h := HT.out.2.2.2.2; simp [intOf]; omega
          · obtain rfl : i = mm := by omega
            have q1 : ¬ (xx : Int) ≤ (x : Int) := by have h1 := HHM.out; have h2 := HN8.out; omega
            have HPS := hide hP
            clear hP hcb hxx
            go_wp2_with fail
            go_roundw
            case rel =>
              refine ⟨k + 1, by omega, by go_num, ?_, HPS.out.bel⟩
              rw [HTK.out, HP.out]
              exact HPS.out.row
            case measure => simp [intOf]; omega
      · dsimp only at g0 g1 g2 g3
        go_upto_region 7 with fail
        obtain ⟨Y1, hY1⟩ : ∃ Y, Y = V.alloc (.cells #[.int .i64 2, .int .i64 (x : Int), .int .i64 (y : Int), .int .i64 (z : Int)] 45) := ⟨_, rfl⟩
        rw [← hY1]
        have hb1 : Blk Y1 V.heap.size 45 #[.int .i64 2, .int .i64 (x : Int), .int .i64 (y : Int), .int .i64 (z : Int)] := by rw [hY1]; exact Blk.new _ _ _
        have hB1 : Below V.heap.size V Y1 := by rw [hY1]; exact (Below.refl _ V).alloc (Nat.le_refl _) _
        obtain ⟨a0, a1, a2, a3⟩ := hb1.four
        have K1 := hide (And.intro hb1 hB1)
        clear hb1 hB1 hY1 g0 g1 g2 g3
        go_wp2_with fail
        refine (coords7_any ((2 : Int), ((x : Int), (y : Int), (z : Int))) Y1).mono ?_
        rintro e w5 ⟨rfl, hB5⟩
        have hBV5 := K1.out.2.trans (hB5.mono K1.out.2.size)
        have K5 := hide (And.intro (K1.out.1.on hB5) hBV5)
        clear hB5 hBV5 a0 a1 a2 a3
        go_upto_region 9 with fail
        obtain ⟨Y2, hY2⟩ : ∃ Y, Y = w5.alloc (.cells #[.int .i64 (x : Int), .int .i64 (y : Int), .int .i64 (z : Int)] 42) := ⟨_, rfl⟩
        rw [← hY2]
        have hB : Below w5.heap.size w5 Y2 := by rw [hY2]; exact (Below.refl _ w5).alloc (Nat.le_refl _) _
        have hb2 : Blk Y2 w5.heap.size 42 #[.int .i64 (x : Int), .int .i64 (y : Int), .int .i64 (z : Int)] := by rw [hY2]; exact Blk.new _ _ _
        have hBV2 := K5.out.2.trans (hB.mono K5.out.2.size)
        have h5s := K5.out.2.size
        have hfb : V.heap.size < w5.heap.size := K5.out.1.lt
        have K2 := hide (And.intro (K5.out.1.on hB) (And.intro hb2 (And.intro (HV.out.1.on hBV2) (HV.out.2.trans (hBV2.mono HV.out.2.size)))))
        obtain ⟨b0, b1, b2⟩ := hb2.three
        clear hB hb2 hBV2 hY2 K5 K1
        obtain ⟨cb, hcb⟩ : ∃ cb, cb = w5.heap.size := ⟨_, rfl⟩
        rw [← hcb] at K2 b0 b1 b2 hfb h5s ⊢
        clear hcb
        obtain ⟨mm, hmm⟩ : ∃ mm, mm = x + 1 := ⟨_, rfl⟩
        have hn8 : n ≤ 8 ∧ s = n + 1 := ⟨by have h1 := H0.out.2.2.2.1; have h2 := H0.out.2.2.2.2.1; omega, H0.out.2.2.2.1⟩
        have hb9 : (x ≤ 9 ∧ y ≤ 9 ∧ z ≤ 9) ∧ mm ≤ 9 := by omega
        have hpf : patF (n : Int) 0 ((2 : Int), ((x : Int), (y : Int), (z : Int))) = rowE 0 ((2 : Int), ((x : Int), (y : Int), (z : Int))) ((0 : Nat) : Int) mm := by
          unfold patF
          rw [if_neg (by simp [dirA])]
          have e1 : lowD 0 ((2 : Int), ((x : Int), (y : Int), (z : Int))) = ((0 : Nat) : Int) := by simp [lowD]
          have e2 : (highD (n : Int) 0 ((2 : Int), ((x : Int), (y : Int), (z : Int))) + 1 - ((0 : Nat) : Int)).toNat = mm := by rw [hmm]; simp [highD, dirA, cmp3] <;> omega
          rw [e1, e2]
        have HP := hide hpf
        have hsn := H0.out.2.2.2.2.2.2.2
        obtain ⟨⟨c1, c2, c3⟩, c4⟩ := hb9
        have HHM := hide hmm
        have HN8 := hide hn8
        have hn8v : n ≤ 8 := hn8.1
        clear hpf hmm hn8
        go_wp2_with fail
        clear hsn b0 b1 b2
        go_loopw [15] (fun xv wr => ∃ (i : Nat) (v : Int), i ≤ mm ∧ xv = .int .i64 ((0 + i : Nat) : Int) ∧ Blk wr cb 42 #[.int .i64 v, .int .i64 (y : Int), .int .i64 (z : Int)] ∧ PatS w wr s V.heap.size cb ((2 : Int), ((x : Int), (y : Int), (z : Int))) (togsE noE (PL ++ rowE 0 ((2 : Int), ((x : Int), (y : Int), (z : Int))) ((0 : Nat) : Int) i)) 0) (fun xv _ => 0 + mm - (intOf xv).toNat)
        case atStart => exact ⟨0, (x : Int), by omega, by simp, K2.out.2.1, ⟨by rw [show PL ++ rowE 0 ((2 : Int), ((x : Int), (y : Int), (z : Int))) ((0 : Nat) : Int) 0 = PL from by simp [rowE]]; exact K2.out.2.2.1, K2.out.1, K2.out.2.2.2⟩⟩
        case round =>
          obtain ⟨U, rfl⟩ : ∃ U, U = wr := ⟨_, rfl⟩
          obtain ⟨i, v, hi, rfl, hcb, hP⟩ := hrel
          obtain ⟨xx, hxx⟩ : ∃ xx, xx = 0 + i := ⟨_, rfl⟩
          rw [← hxx]
          have hxs : xx ≤ 20 := by omega
          by_cases him : i < mm
          · have q1 : (xx : Int) ≤ (x : Int) := by have h1 := HHM.out; have h2 := HN8.out; omega
            have hxs2 : xx < s := by have h1 := HHM.out; have h2 := HN8.out; omega
            have hall := all_nat7 (n := n) (a := 1) (x := xx) (y := y) (z := z) H0.out.2.2.2.1 (by omega) (by omega) (by omega) (by omega)
            have hat := at7r_any (s := s) (a := 1) (x := xx) (y := y) (z := z) H0.out.2.2.2.2.1 (by omega) (by omega) (by omega) (by omega)
            have hrs := rowE_succ 0 ((2 : Int), ((x : Int), (y : Int), (z : Int))) ((0 : Nat) : Int) i
            rw [show ((3 : Int) - dirA 0 - (((2 : Int), ((x : Int), (y : Int), (z : Int))) : EF).1, set3 (((2 : Int), ((x : Int), (y : Int), (z : Int))) : EF).2 (dirA 0) (((0 : Nat) : Int) + (i : Int))) = ((1 : Int), ((xx : Int), (y : Int), (z : Int))) by rw [hxx]; simp [dirA, set3]] at hrs
            obtain ⟨L1, hL1⟩ : ∃ L1, L1 = PL ++ rowE 0 ((2 : Int), ((x : Int), (y : Int), (z : Int))) ((0 : Nat) : Int) i := ⟨_, rfl⟩
            have hL2 : PL ++ rowE 0 ((2 : Int), ((x : Int), (y : Int), (z : Int))) ((0 : Nat) : Int) (i + 1) = L1 ++ [((1 : Int), ((xx : Int), (y : Int), (z : Int)))] := by rw [hrs, hL1, List.append_assoc]
            rw [← hL1] at hP
            have hjl := (edg_edgN hall).2
            have htg := tabE_tog (togsE noE L1) hall
            have htt := tabE_get (togsE noE L1) hall
            rw [← H0.out.2.2.2.1] at hjl htg htt
            simp only [show ((1 : Nat) : Int) = 1 from rfl] at hat hjl htg htt
            obtain ⟨j, hj⟩ : ∃ j, j = edgN s ((1 : Int), ((xx : Int), (y : Int), (z : Int))) := ⟨_, rfl⟩
            rw [← hj] at hat hjl htg htt
            have hjm : j < m3 := by rw [H0.out.2.2.2.2.2.2.1]; exact hjl
            obtain ⟨bE, hbE⟩ : ∃ b, b = togsE noE L1 ((1 : Int), ((xx : Int), (y : Int), (z : Int))) := ⟨_, rfl⟩
            rw [← hbE] at htg htt
            have HT := hide (And.intro hat (And.intro htg (And.intro htt (And.intro hL2 hxx))))
            have HPS := hide (And.intro hP hcb)
            obtain ⟨b0, b1, b2⟩ := hcb.three
            have z0 := hcb.frozen 0
            have hcbU := hcb.lt
            clear hall hat hrs hL1 hL2 hjl htg htt hj hbE hP hcb hxx hxs2
            go_upto_region 18 with fail
            obtain ⟨T, hT⟩ : ∃ T, T = U.setCell ⟨cb, 0, none⟩ (.int .i64 (xx : Int)) := ⟨_, rfl⟩
            rw [← hT]
            have hcT : Blk T cb 42 #[.int .i64 (xx : Int), .int .i64 (y : Int), .int .i64 (z : Int)] := by rw [hT]; exact HPS.out.2.set_ 0 _
            have hfT : Blk T V.heap.size 45 #[.int .i64 2, .int .i64 (x : Int), .int .i64 (y : Int), .int .i64 (z : Int)] := by rw [hT]; exact HPS.out.1.face.far (p := ⟨cb, 0, none⟩) (by dsimp only; omega) _
            have hrT : RowB T w.heap.size (tabE s (togsE noE L1)) := by rw [hT]; exact HPS.out.1.row.far (p := ⟨cb, 0, none⟩) (by dsimp only; omega) _
            have hbT : Below w.heap.size w T := by rw [hT]; exact HPS.out.1.bel.setCell (by dsimp only; omega) _
            clear b0 b1 b2 z0 hT
            obtain ⟨b0, b1, b2⟩ := hcT.three
            obtain ⟨a0, a1, a2, a3⟩ := hfT.four
            have KT := hide (And.intro hcT (And.intro hfT (And.intro hrT hbT)))
            clear hcT hfT hrT hbT HPS
            go_wp2_with fail
            refine (HT.out.1 T).mono ?_
            rintro e w6 ⟨rfl, hB6⟩
            have hr6 := KT.out.2.2.1.on hB6
            have e1 := hr6.cell HT.out.2.2.1
            have f1 := hr6.frozen j
            have j1 : (j : Int) < (m3 : Int) := by omega
            have K6 := hide (And.intro (KT.out.1.on hB6) (And.intro (KT.out.2.1.on hB6) (And.intro hr6 (KT.out.2.2.2.trans (hB6.mono KT.out.2.2.2.size)))))
            clear hB6 hr6 a0 a1 a2 a3 b0 b1 b2
            go_wp2_with fail
            go_roundw
            case rel =>
              refine ⟨i + 1, (xx : Int), by omega, ?_, K6.out.1.far (p := ⟨w.heap.size, j, none⟩) (by dsimp only; omega) _, ⟨?_, K6.out.2.1.far (p := ⟨w.heap.size, j, none⟩) (by dsimp only; omega) _, K6.out.2.2.2.setCell (Nat.le_refl _) _⟩⟩
              · have h := HT.out.2.2.2.2
                go_num
              · rw [HT.out.2.2.2.1, togsE_snoc, ← HT.out.2.1]
                exact K6.out.2.2.1.set j (!bE)
            case measure => have h := HT.out.2.2.2.2; simp [intOf]; omega
          · obtain rfl : i = mm := by omega
            have q1 : ¬ (xx : Int) ≤ (x : Int) := by have h1 := HHM.out; have h2 := HN8.out; omega
            have HPS := hide hP
            clear hP hcb hxx
            go_wp2_with fail
            go_roundw
            case rel =>
              refine ⟨k + 1, by omega, by go_num, ?_, HPS.out.bel⟩
              rw [HTK.out, HP.out]
              exact HPS.out.row
            case measure => simp [intOf]; omega
    · have i1 : ¬ (k : Int) < (M : Int) := by omega
      have htk : part.take k = part := List.take_of_length_le (by rw [← H0.out.2.2.1]; omega)
      have hrow := HV.out.1
      rw [htk] at hrow
      obtain ⟨TB, hTB⟩ : ∃ TB, TB = tabE s (patE (n : Int) 0 part) := ⟨_, rfl⟩
      have hrow : RowB V w.heap.size TB := by rw [hTB]; exact hrow
      have HW := hide (And.intro hrow (And.intro HV.out.2 hTB))
      clear hrow htk HV hTB
      go_wp2_with fail
      go_loopw [17, 18] (fun nv iv wr => ∃ i : Nat, i ≤ m3 ∧ iv = .int .i64 i ∧ nv = .int .i64 (((TB.take i).countP id : Nat) : Int) ∧ wr = V) (fun _ iv _ => m3 - (intOf iv).toNat)
      case atStart => exact ⟨0, by omega, rfl, rfl, rfl⟩
      case round =>
        obtain ⟨i, hi, rfl, rfl, rfl⟩ := hrel
        by_cases him : i < m3
        · have j1 : (i : Int) < (m3 : Int) := by omega
          obtain ⟨b, hb⟩ : ∃ b, TB[i]? = some b := ⟨_, List.getElem?_eq_getElem (by rw [HW.out.2.2, tabE_length, ← H0.out.2.2.2.2.2.2.1]; exact him)⟩
          have e1 := HW.out.1.cell hb
          have hct := count_take hb
          have hcl := count_le TB i
          obtain ⟨q, hq⟩ : ∃ q, q = (TB.take i).countP id := ⟨_, rfl⟩
          rw [← hq] at hct hcl ⊢
          have HCT := hide hct
          clear hct hb hq
          cases b with
          | true =>
            go_wp2_with fail
            go_roundw
            case rel => exact ⟨i + 1, by omega, by go_num, by rw [HCT.out]; simp, by trivial⟩
            case measure => simp [intOf]; omega
          | false =>
            go_wp2_with fail
            go_roundw
            case rel => exact ⟨i + 1, by omega, by go_num, by rw [HCT.out]; simp, by trivial⟩
            case measure => simp [intOf]; omega
        · have j1 : ¬ (i : Int) < (m3 : Int) := by omega
          have hct : (TB.take i).countP id = cntE s (patE (n : Int) 0 part) := by
            rw [List.take_of_length_le (by rw [HW.out.2.2, tabE_length, ← H0.out.2.2.2.2.2.2.1]; omega), HW.out.2.2, tabE_count]
          rw [hct]
          go_wp2_with fail
          go_ret2
          exact ⟨m3, rfl, H0.out.2.2.2.2.2.2.1, by rw [← HW.out.2.2]; exact HW.out.1, HW.out.2.1⟩
set_option maxRecDepth 100000 in
set_option maxHeartbeats 32000000 in
theorem patch7r_1 {n s : Nat} (hs : s = n + 1) (hs9 : s ≤ 9) (hs2 : 2 ≤ s) (Ad : Option Addr) (c : Nat) (part : List EF) (w : World) (hsl : Sl encF 4 w w.heap.size Ad part) (hg : ∀ f ∈ part, grdF n f) (hl : part.length ≤ 100000) :
    Calls Try.prog 40 #[.slice Ad part.length c, .int .i64 (s : Int), .int .i64 1] w fun e w' => ∃ m3, e = .returned (.tuple #[.slice (some ⟨w.heap.size, 0, none⟩) m3 m3, .int .i64 (cntE s (patE (n : Int) 1 part) : Nat)]) ∧ m3 = 3 * (s * s * s) ∧ RowB w' w.heap.size (tabE s (patE (n : Int) 1 part)) ∧ Below w.heap.size w w' := by
  obtain ⟨M, hM⟩ : ∃ M, M = part.length := ⟨_, rfl⟩
  rw [← hM] at hl ⊢
  obtain ⟨r1, r2, m3, w1, w2, w3, hm3, hm3b⟩ := tab_nums hs9
  have hmk := mk_bl7 m3 (Nat.le_trans hm3b (by decide))
  obtain ⟨ZN, hZN⟩ : ∃ Z, Z = ((List.replicate m3 false).map Value.bool).toArray := ⟨_, rfl⟩
  rw [← hZN] at hmk
  have hsn : (s : Int) - 1 = (n : Int) := by clear w1 w2 w3; omega
  have H0 := hide (And.intro hsl (And.intro hg (And.intro hM (And.intro hs (And.intro hs9 (And.intro hZN (And.intro hm3 hsn)))))))
  clear hsl hg hM hs hs9 hZN hm3 hsn
  go_enter Try.func40, Try.ntmps40
  go_upto_region 2 with fail
  obtain ⟨X, hX⟩ : ∃ X, X = w.alloc (.cells ZN 4) := ⟨_, rfl⟩
  rw [← hX]
  have hrow : RowB X w.heap.size (tabE s (togsE noE ((part.take 0).flatMap (patF (n : Int) 1)))) := by
    rw [show togsE noE ((part.take 0).flatMap (patF (n : Int) 1)) = noE from rfl, tabE_none, ← H0.out.2.2.2.2.2.2.1, hX, H0.out.2.2.2.2.2.1]
    exact Blk.new _ _ _
  have hBX : Below w.heap.size w X := by rw [hX]; exact (Below.refl _ w).alloc (Nat.le_refl _) _
  have HX := hide (And.intro hrow hBX)
  clear hrow hBX hX hmk w1 w2 w3
  go_wp2_with fail
  go_loopw [10] (fun iv wr => ∃ k : Nat, k ≤ M ∧ iv = .int .i64 k ∧ RowB wr w.heap.size (tabE s (togsE noE ((part.take k).flatMap (patF (n : Int) 1)))) ∧ Below w.heap.size w wr) (fun iv _ => M - (intOf iv).toNat)
  case atStart => exact ⟨0, by omega, rfl, HX.out.1, HX.out.2⟩
  case round =>
    obtain ⟨V, rfl⟩ : ∃ V, V = wr := ⟨_, rfl⟩
    obtain ⟨k, hk, rfl, hrow, hB⟩ := hrel
    have HV := hide (And.intro hrow hB)
    have hgV : w.heap.size < V.heap.size := Blk.lt hrow
    clear hrow hB
    by_cases hkM : k < M
    · have i1 : (k : Int) < (M : Int) := by omega
      obtain ⟨f, hf⟩ : ∃ f, part[k]? = some f := ⟨_, List.getElem?_eq_getElem (by rw [← H0.out.2.2.1]; exact hkM)⟩
      have htk : (part.take (k + 1)).flatMap (patF (n : Int) 1) = (part.take k).flatMap (patF (n : Int) 1) ++ patF (n : Int) 1 f := by rw [List.take_add_one, hf, List.flatMap_append]; simp
      have hgf := H0.out.2.1 f (List.mem_of_getElem? hf)
      obtain ⟨tb, oo, hA, htb, g0, g1, g2, g3⟩ := (H0.out.1.below HV.out.2).four hf
      subst hA
      obtain ⟨PL, hPL⟩ : ∃ PL, PL = (part.take k).flatMap (patF (n : Int) 1) := ⟨_, rfl⟩
      rw [← hPL] at HV htk
      have HTK := hide htk
      clear htk hPL hf
      obtain ⟨x, y, z, hcase⟩ := grd_nat H0.out.2.2.2.1 hgf
      clear hgf
      rcases hcase with ⟨rfl, hx, hy, hz⟩ | ⟨rfl, hx, hy, hz⟩ | ⟨rfl, hx, hy, hz⟩
      · dsimp only at g0 g1 g2 g3
        go_upto_region 7 with fail
        obtain ⟨Y1, hY1⟩ : ∃ Y, Y = V.alloc (.cells #[.int .i64 0, .int .i64 (x : Int), .int .i64 (y : Int), .int .i64 (z : Int)] 45) := ⟨_, rfl⟩
        rw [← hY1]
        have hb1 : Blk Y1 V.heap.size 45 #[.int .i64 0, .int .i64 (x : Int), .int .i64 (y : Int), .int .i64 (z : Int)] := by rw [hY1]; exact Blk.new _ _ _
        have hB1 : Below V.heap.size V Y1 := by rw [hY1]; exact (Below.refl _ V).alloc (Nat.le_refl _) _
        obtain ⟨a0, a1, a2, a3⟩ := hb1.four
        have K1 := hide (And.intro hb1 hB1)
        clear hb1 hB1 hY1 g0 g1 g2 g3
        have hpf : patF (n : Int) 1 ((0 : Int), ((x : Int), (y : Int), (z : Int))) = [] := by unfold patF; rw [if_pos (by simp [dirA])]
        have HP := hide hpf
        clear hpf
        go_wp2_with fail
        go_roundw
        case rel =>
          refine ⟨k + 1, by omega, by go_num, ?_, HV.out.2.trans (K1.out.2.mono HV.out.2.size)⟩
          rw [HTK.out, HP.out, List.append_nil]
          exact HV.out.1.on K1.out.2
        case measure => simp [intOf]; omega
      · dsimp only at g0 g1 g2 g3
        go_upto_region 7 with fail
        obtain ⟨Y1, hY1⟩ : ∃ Y, Y = V.alloc (.cells #[.int .i64 1, .int .i64 (x : Int), .int .i64 (y : Int), .int .i64 (z : Int)] 45) := ⟨_, rfl⟩
        rw [← hY1]
        have hb1 : Blk Y1 V.heap.size 45 #[.int .i64 1, .int .i64 (x : Int), .int .i64 (y : Int), .int .i64 (z : Int)] := by rw [hY1]; exact Blk.new _ _ _
        have hB1 : Below V.heap.size V Y1 := by rw [hY1]; exact (Below.refl _ V).alloc (Nat.le_refl _) _
        obtain ⟨a0, a1, a2, a3⟩ := hb1.four
        have K1 := hide (And.intro hb1 hB1)
        clear hb1 hB1 hY1 g0 g1 g2 g3
        go_wp2_with fail
        refine (coords7_any ((1 : Int), ((x : Int), (y : Int), (z : Int))) Y1).mono ?_
        rintro e w5 ⟨rfl, hB5⟩
        have hBV5 := K1.out.2.trans (hB5.mono K1.out.2.size)
        have K5 := hide (And.intro (K1.out.1.on hB5) hBV5)
        clear hB5 hBV5 a0 a1 a2 a3
        go_upto_region 9 with fail
        obtain ⟨Y2, hY2⟩ : ∃ Y, Y = w5.alloc (.cells #[.int .i64 (x : Int), .int .i64 (y : Int), .int .i64 (z : Int)] 42) := ⟨_, rfl⟩
        rw [← hY2]
        have hB : Below w5.heap.size w5 Y2 := by rw [hY2]; exact (Below.refl _ w5).alloc (Nat.le_refl _) _
        have hb2 : Blk Y2 w5.heap.size 42 #[.int .i64 (x : Int), .int .i64 (y : Int), .int .i64 (z : Int)] := by rw [hY2]; exact Blk.new _ _ _
        have hBV2 := K5.out.2.trans (hB.mono K5.out.2.size)
        have h5s := K5.out.2.size
        have hfb : V.heap.size < w5.heap.size := K5.out.1.lt
        have K2 := hide (And.intro (K5.out.1.on hB) (And.intro hb2 (And.intro (HV.out.1.on hBV2) (HV.out.2.trans (hBV2.mono HV.out.2.size)))))
        obtain ⟨b0, b1, b2⟩ := hb2.three
        clear hB hb2 hBV2 hY2 K5 K1
        obtain ⟨cb, hcb⟩ : ∃ cb, cb = w5.heap.size := ⟨_, rfl⟩
        rw [← hcb] at K2 b0 b1 b2 hfb h5s ⊢
        clear hcb
        obtain ⟨mm, hmm⟩ : ∃ mm, mm = n - x := ⟨_, rfl⟩
        have hn8 : n ≤ 8 ∧ s = n + 1 := ⟨by have h1 := H0.out.2.2.2.1; have h2 := H0.out.2.2.2.2.1; omega, H0.out.2.2.2.1⟩
        have hb9 : (x ≤ 9 ∧ y ≤ 9 ∧ z ≤ 9) ∧ mm ≤ 9 := by omega
        have hpf : patF (n : Int) 1 ((1 : Int), ((x : Int), (y : Int), (z : Int))) = rowE 1 ((1 : Int), ((x : Int), (y : Int), (z : Int))) ((x + 1 : Nat) : Int) mm := by
          unfold patF
          rw [if_neg (by simp [dirA])]
          have e1 : lowD 1 ((1 : Int), ((x : Int), (y : Int), (z : Int))) = ((x + 1 : Nat) : Int) := by simp [lowD, dirA, cmp3]
          have e2 : (highD (n : Int) 1 ((1 : Int), ((x : Int), (y : Int), (z : Int))) + 1 - ((x + 1 : Nat) : Int)).toNat = mm := by rw [hmm]; simp [highD] <;> omega
          rw [e1, e2]
        have HP := hide hpf
        have hsn := H0.out.2.2.2.2.2.2.2
        obtain ⟨⟨c1, c2, c3⟩, c4⟩ := hb9
        have HHM := hide hmm
        have HN8 := hide hn8
        have hn8v : n ≤ 8 := hn8.1
        clear hpf hmm hn8
        go_wp2_with fail
        clear hsn b0 b1 b2
        go_loopw [15] (fun xv wr => ∃ (i : Nat) (v : Int), i ≤ mm ∧ xv = .int .i64 ((x + 1 + i : Nat) : Int) ∧ Blk wr cb 42 #[.int .i64 v, .int .i64 (y : Int), .int .i64 (z : Int)] ∧ PatS w wr s V.heap.size cb ((1 : Int), ((x : Int), (y : Int), (z : Int))) (togsE noE (PL ++ rowE 1 ((1 : Int), ((x : Int), (y : Int), (z : Int))) ((x + 1 : Nat) : Int) i)) 0) (fun xv _ => x + 1 + mm - (intOf xv).toNat)
        case atStart => exact ⟨0, (x : Int), by omega, by simp, K2.out.2.1, ⟨by rw [show PL ++ rowE 1 ((1 : Int), ((x : Int), (y : Int), (z : Int))) ((x + 1 : Nat) : Int) 0 = PL from by simp [rowE]]; exact K2.out.2.2.1, K2.out.1, K2.out.2.2.2⟩⟩
        case round =>
          obtain ⟨U, rfl⟩ : ∃ U, U = wr := ⟨_, rfl⟩
          obtain ⟨i, v, hi, rfl, hcb, hP⟩ := hrel
          obtain ⟨xx, hxx⟩ : ∃ xx, xx = x + 1 + i := ⟨_, rfl⟩
          rw [← hxx]
          have hxs : xx ≤ 20 := by omega
          by_cases him : i < mm
          · have q1 : (xx : Int) ≤ (n : Int) := by have h1 := HHM.out; have h2 := HN8.out; omega
            have q1b : (xx : Int) ≤ (s : Int) - 1 := by have h1 := HHM.out; have h2 := HN8.out; omega
            have hxs2 : xx < s := by have h1 := HHM.out; have h2 := HN8.out; omega
            have hall := all_nat7 (n := n) (a := 2) (x := xx) (y := y) (z := z) H0.out.2.2.2.1 (by omega) (by omega) (by omega) (by omega)
            have hat := at7r_any (s := s) (a := 2) (x := xx) (y := y) (z := z) H0.out.2.2.2.2.1 (by omega) (by omega) (by omega) (by omega)
            have hrs := rowE_succ 1 ((1 : Int), ((x : Int), (y : Int), (z : Int))) ((x + 1 : Nat) : Int) i
            rw [show ((3 : Int) - dirA 1 - (((1 : Int), ((x : Int), (y : Int), (z : Int))) : EF).1, set3 (((1 : Int), ((x : Int), (y : Int), (z : Int))) : EF).2 (dirA 1) (((x + 1 : Nat) : Int) + (i : Int))) = ((2 : Int), ((xx : Int), (y : Int), (z : Int))) by rw [hxx]; simp [dirA, set3]] at hrs
            obtain ⟨L1, hL1⟩ : ∃ L1, L1 = PL ++ rowE 1 ((1 : Int), ((x : Int), (y : Int), (z : Int))) ((x + 1 : Nat) : Int) i := ⟨_, rfl⟩
            have hL2 : PL ++ rowE 1 ((1 : Int), ((x : Int), (y : Int), (z : Int))) ((x + 1 : Nat) : Int) (i + 1) = L1 ++ [((2 : Int), ((xx : Int), (y : Int), (z : Int)))] := by rw [hrs, hL1, List.append_assoc]
            rw [← hL1] at hP
            have hjl := (edg_edgN hall).2
            have htg := tabE_tog (togsE noE L1) hall
            have htt := tabE_get (togsE noE L1) hall
            rw [← H0.out.2.2.2.1] at hjl htg htt
            simp only [show ((2 : Nat) : Int) = 2 from rfl] at hat hjl htg htt
            obtain ⟨j, hj⟩ : ∃ j, j = edgN s ((2 : Int), ((xx : Int), (y : Int), (z : Int))) := ⟨_, rfl⟩
            rw [← hj] at hat hjl htg htt
            have hjm : j < m3 := by rw [H0.out.2.2.2.2.2.2.1]; exact hjl
            obtain ⟨bE, hbE⟩ : ∃ b, b = togsE noE L1 ((2 : Int), ((xx : Int), (y : Int), (z : Int))) := ⟨_, rfl⟩
            rw [← hbE] at htg htt
            have HT := hide (And.intro hat (And.intro htg (And.intro htt (And.intro hL2 hxx))))
            have HPS := hide (And.intro hP hcb)
            obtain ⟨b0, b1, b2⟩ := hcb.three
            have z0 := hcb.frozen 0
            have hcbU := hcb.lt
            clear hall hat hrs hL1 hL2 hjl htg htt hj hbE hP hcb hxx hxs2
            go_upto_region 18 with fail
            obtain ⟨T, hT⟩ : ∃ T, T = U.setCell ⟨cb, 0, none⟩ (.int .i64 (xx : Int)) := ⟨_, rfl⟩
            rw [← hT]
            have hcT : Blk T cb 42 #[.int .i64 (xx : Int), .int .i64 (y : Int), .int .i64 (z : Int)] := by rw [hT]; exact HPS.out.2.set_ 0 _
            have hfT : Blk T V.heap.size 45 #[.int .i64 1, .int .i64 (x : Int), .int .i64 (y : Int), .int .i64 (z : Int)] := by rw [hT]; exact HPS.out.1.face.far (p := ⟨cb, 0, none⟩) (by dsimp only; omega) _
            have hrT : RowB T w.heap.size (tabE s (togsE noE L1)) := by rw [hT]; exact HPS.out.1.row.far (p := ⟨cb, 0, none⟩) (by dsimp only; omega) _
            have hbT : Below w.heap.size w T := by rw [hT]; exact HPS.out.1.bel.setCell (by dsimp only; omega) _
            clear b0 b1 b2 z0 hT
            obtain ⟨b0, b1, b2⟩ := hcT.three
            obtain ⟨a0, a1, a2, a3⟩ := hfT.four
            have KT := hide (And.intro hcT (And.intro hfT (And.intro hrT hbT)))
            clear hcT hfT hrT hbT HPS
            go_wp2_with fail
            refine (HT.out.1 T).mono ?_
            rintro e w6 ⟨rfl, hB6⟩
            have hr6 := KT.out.2.2.1.on hB6
            have e1 := hr6.cell HT.out.2.2.1
            have f1 := hr6.frozen j
            have j1 : (j : Int) < (m3 : Int) := by omega
            have K6 := hide (And.intro (KT.out.1.on hB6) (And.intro (KT.out.2.1.on hB6) (And.intro hr6 (KT.out.2.2.2.trans (hB6.mono KT.out.2.2.2.size)))))
            clear hB6 hr6 a0 a1 a2 a3 b0 b1 b2
            go_wp2_with fail
            go_roundw
            case rel =>
              refine ⟨i + 1, (xx : Int), by omega, ?_, K6.out.1.far (p := ⟨w.heap.size, j, none⟩) (by dsimp only; omega) _, ⟨?_, K6.out.2.1.far (p := ⟨w.heap.size, j, none⟩) (by dsimp only; omega) _, K6.out.2.2.2.setCell (Nat.le_refl _) _⟩⟩
              · have h := HT.out.2.2.2.2
                go_num
              · rw [HT.out.2.2.2.1, togsE_snoc, ← HT.out.2.1]
                exact K6.out.2.2.1.set j (!bE)
            case measure => have h := HT.out.2.2.2.2; simp [intOf]; omega
          · obtain rfl : i = mm := by omega
            have q1 : ¬ (xx : Int) ≤ (n : Int) := by have h1 := HHM.out; have h2 := HN8.out; omega
            have q1b : ¬ (xx : Int) ≤ (s : Int) - 1 := by have h1 := HHM.out; have h2 := HN8.out; omega
            have HPS := hide hP
            clear hP hcb hxx
            go_wp2_with fail
            go_roundw
            case rel =>
              refine ⟨k + 1, by omega, by go_num, ?_, HPS.out.bel⟩
              rw [HTK.out, HP.out]
              exact HPS.out.row
            case measure => simp [intOf]; omega
      · dsimp only at g0 g1 g2 g3
        go_upto_region 7 with fail
        obtain ⟨Y1, hY1⟩ : ∃ Y, Y = V.alloc (.cells #[.int .i64 2, .int .i64 (x : Int), .int .i64 (y : Int), .int .i64 (z : Int)] 45) := ⟨_, rfl⟩
        rw [← hY1]
        have hb1 : Blk Y1 V.heap.size 45 #[.int .i64 2, .int .i64 (x : Int), .int .i64 (y : Int), .int .i64 (z : Int)] := by rw [hY1]; exact Blk.new _ _ _
        have hB1 : Below V.heap.size V Y1 := by rw [hY1]; exact (Below.refl _ V).alloc (Nat.le_refl _) _
        obtain ⟨a0, a1, a2, a3⟩ := hb1.four
        have K1 := hide (And.intro hb1 hB1)
        clear hb1 hB1 hY1 g0 g1 g2 g3
        go_wp2_with fail
        refine (coords7_any ((2 : Int), ((x : Int), (y : Int), (z : Int))) Y1).mono ?_
        rintro e w5 ⟨rfl, hB5⟩
        have hBV5 := K1.out.2.trans (hB5.mono K1.out.2.size)
        have K5 := hide (And.intro (K1.out.1.on hB5) hBV5)
        clear hB5 hBV5 a0 a1 a2 a3
        go_upto_region 9 with fail
        obtain ⟨Y2, hY2⟩ : ∃ Y, Y = w5.alloc (.cells #[.int .i64 (x : Int), .int .i64 (y : Int), .int .i64 (z : Int)] 42) := ⟨_, rfl⟩
        rw [← hY2]
        have hB : Below w5.heap.size w5 Y2 := by rw [hY2]; exact (Below.refl _ w5).alloc (Nat.le_refl _) _
        have hb2 : Blk Y2 w5.heap.size 42 #[.int .i64 (x : Int), .int .i64 (y : Int), .int .i64 (z : Int)] := by rw [hY2]; exact Blk.new _ _ _
        have hBV2 := K5.out.2.trans (hB.mono K5.out.2.size)
        have h5s := K5.out.2.size
        have hfb : V.heap.size < w5.heap.size := K5.out.1.lt
        have K2 := hide (And.intro (K5.out.1.on hB) (And.intro hb2 (And.intro (HV.out.1.on hBV2) (HV.out.2.trans (hBV2.mono HV.out.2.size)))))
        obtain ⟨b0, b1, b2⟩ := hb2.three
        clear hB hb2 hBV2 hY2 K5 K1
        obtain ⟨cb, hcb⟩ : ∃ cb, cb = w5.heap.size := ⟨_, rfl⟩
        rw [← hcb] at K2 b0 b1 b2 hfb h5s ⊢
        clear hcb
        obtain ⟨mm, hmm⟩ : ∃ mm, mm = n - x := ⟨_, rfl⟩
        have hn8 : n ≤ 8 ∧ s = n + 1 := ⟨by have h1 := H0.out.2.2.2.1; have h2 := H0.out.2.2.2.2.1; omega, H0.out.2.2.2.1⟩
        have hb9 : (x ≤ 9 ∧ y ≤ 9 ∧ z ≤ 9) ∧ mm ≤ 9 := by omega
        have hpf : patF (n : Int) 1 ((2 : Int), ((x : Int), (y : Int), (z : Int))) = rowE 1 ((2 : Int), ((x : Int), (y : Int), (z : Int))) ((x + 1 : Nat) : Int) mm := by
          unfold patF
          rw [if_neg (by simp [dirA])]
          have e1 : lowD 1 ((2 : Int), ((x : Int), (y : Int), (z : Int))) = ((x + 1 : Nat) : Int) := by simp [lowD, dirA, cmp3]
          have e2 : (highD (n : Int) 1 ((2 : Int), ((x : Int), (y : Int), (z : Int))) + 1 - ((x + 1 : Nat) : Int)).toNat = mm := by rw [hmm]; simp [highD] <;> omega
          rw [e1, e2]
        have HP := hide hpf
        have hsn := H0.out.2.2.2.2.2.2.2
        obtain ⟨⟨c1, c2, c3⟩, c4⟩ := hb9
        have HHM := hide hmm
        have HN8 := hide hn8
        have hn8v : n ≤ 8 := hn8.1
        clear hpf hmm hn8
        go_wp2_with fail
        clear hsn b0 b1 b2
        go_loopw [15] (fun xv wr => ∃ (i : Nat) (v : Int), i ≤ mm ∧ xv = .int .i64 ((x + 1 + i : Nat) : Int) ∧ Blk wr cb 42 #[.int .i64 v, .int .i64 (y : Int), .int .i64 (z : Int)] ∧ PatS w wr s V.heap.size cb ((2 : Int), ((x : Int), (y : Int), (z : Int))) (togsE noE (PL ++ rowE 1 ((2 : Int), ((x : Int), (y : Int), (z : Int))) ((x + 1 : Nat) : Int) i)) 0) (fun xv _ => x + 1 + mm - (intOf xv).toNat)
        case atStart => exact ⟨0, (x : Int), by omega, by simp, K2.out.2.1, ⟨by rw [show PL ++ rowE 1 ((2 : Int), ((x : Int), (y : Int), (z : Int))) ((x + 1 : Nat) : Int) 0 = PL from by simp [rowE]]; exact K2.out.2.2.1, K2.out.1, K2.out.2.2.2⟩⟩
        case round =>
          obtain ⟨U, rfl⟩ : ∃ U, U = wr := ⟨_, rfl⟩
          obtain ⟨i, v, hi, rfl, hcb, hP⟩ := hrel
          obtain ⟨xx, hxx⟩ : ∃ xx, xx = x + 1 + i := ⟨_, rfl⟩
          rw [← hxx]
          have hxs : xx ≤ 20 := by omega
          by_cases him : i < mm
          · have q1 : (xx : Int) ≤ (n : Int) := by have h1 := HHM.out; have h2 := HN8.out; omega
            have q1b : (xx : Int) ≤ (s : Int) - 1 := by have h1 := HHM.out; have h2 := HN8.out; omega
            have hxs2 : xx < s := by have h1 := HHM.out; have h2 := HN8.out; omega
            have hall := all_nat7 (n := n) (a := 1) (x := xx) (y := y) (z := z) H0.out.2.2.2.1 (by omega) (by omega) (by omega) (by omega)
            have hat := at7r_any (s := s) (a := 1) (x := xx) (y := y) (z := z) H0.out.2.2.2.2.1 (by omega) (by omega) (by omega) (by omega)
            have hrs := rowE_succ 1 ((2 : Int), ((x : Int), (y : Int), (z : Int))) ((x + 1 : Nat) : Int) i
            rw [show ((3 : Int) - dirA 1 - (((2 : Int), ((x : Int), (y : Int), (z : Int))) : EF).1, set3 (((2 : Int), ((x : Int), (y : Int), (z : Int))) : EF).2 (dirA 1) (((x + 1 : Nat) : Int) + (i : Int))) = ((1 : Int), ((xx : Int), (y : Int), (z : Int))) by rw [hxx]; simp [dirA, set3]] at hrs
            obtain ⟨L1, hL1⟩ : ∃ L1, L1 = PL ++ rowE 1 ((2 : Int), ((x : Int), (y : Int), (z : Int))) ((x + 1 : Nat) : Int) i := ⟨_, rfl⟩
            have hL2 : PL ++ rowE 1 ((2 : Int), ((x : Int), (y : Int), (z : Int))) ((x + 1 : Nat) : Int) (i + 1) = L1 ++ [((1 : Int), ((xx : Int), (y : Int), (z : Int)))] := by rw [hrs, hL1, List.append_assoc]
            rw [← hL1] at hP
            have hjl := (edg_edgN hall).2
            have htg := tabE_tog (togsE noE L1) hall
            have htt := tabE_get (togsE noE L1) hall
            rw [← H0.out.2.2.2.1] at hjl htg htt
            simp only [show ((1 : Nat) : Int) = 1 from rfl] at hat hjl htg htt
            obtain ⟨j, hj⟩ : ∃ j, j = edgN s ((1 : Int), ((xx : Int), (y : Int), (z : Int))) := ⟨_, rfl⟩
            rw [← hj] at hat hjl htg htt
            have hjm : j < m3 := by rw [H0.out.2.2.2.2.2.2.1]; exact hjl
            obtain ⟨bE, hbE⟩ : ∃ b, b = togsE noE L1 ((1 : Int), ((xx : Int), (y : Int), (z : Int))) := ⟨_, rfl⟩
            rw [← hbE] at htg htt
            have HT := hide (And.intro hat (And.intro htg (And.intro htt (And.intro hL2 hxx))))
            have HPS := hide (And.intro hP hcb)
            obtain ⟨b0, b1, b2⟩ := hcb.three
            have z0 := hcb.frozen 0
            have hcbU := hcb.lt
            clear hall hat hrs hL1 hL2 hjl htg htt hj hbE hP hcb hxx hxs2
            go_upto_region 18 with fail
            obtain ⟨T, hT⟩ : ∃ T, T = U.setCell ⟨cb, 0, none⟩ (.int .i64 (xx : Int)) := ⟨_, rfl⟩
            rw [← hT]
            have hcT : Blk T cb 42 #[.int .i64 (xx : Int), .int .i64 (y : Int), .int .i64 (z : Int)] := by rw [hT]; exact HPS.out.2.set_ 0 _
            have hfT : Blk T V.heap.size 45 #[.int .i64 2, .int .i64 (x : Int), .int .i64 (y : Int), .int .i64 (z : Int)] := by rw [hT]; exact HPS.out.1.face.far (p := ⟨cb, 0, none⟩) (by dsimp only; omega) _
            have hrT : RowB T w.heap.size (tabE s (togsE noE L1)) := by rw [hT]; exact HPS.out.1.row.far (p := ⟨cb, 0, none⟩) (by dsimp only; omega) _
            have hbT : Below w.heap.size w T := by rw [hT]; exact HPS.out.1.bel.setCell (by dsimp only; omega) _
            clear b0 b1 b2 z0 hT
            obtain ⟨b0, b1, b2⟩ := hcT.three
            obtain ⟨a0, a1, a2, a3⟩ := hfT.four
            have KT := hide (And.intro hcT (And.intro hfT (And.intro hrT hbT)))
            clear hcT hfT hrT hbT HPS
            go_wp2_with fail
            refine (HT.out.1 T).mono ?_
            rintro e w6 ⟨rfl, hB6⟩
            have hr6 := KT.out.2.2.1.on hB6
            have e1 := hr6.cell HT.out.2.2.1
            have f1 := hr6.frozen j
            have j1 : (j : Int) < (m3 : Int) := by omega
            have K6 := hide (And.intro (KT.out.1.on hB6) (And.intro (KT.out.2.1.on hB6) (And.intro hr6 (KT.out.2.2.2.trans (hB6.mono KT.out.2.2.2.size)))))
            clear hB6 hr6 a0 a1 a2 a3 b0 b1 b2
            go_wp2_with fail
            go_roundw
            case rel =>
              refine ⟨i + 1, (xx : Int), by omega, ?_, K6.out.1.far (p := ⟨w.heap.size, j, none⟩) (by dsimp only; omega) _, ⟨?_, K6.out.2.1.far (p := ⟨w.heap.size, j, none⟩) (by dsimp only; omega) _, K6.out.2.2.2.setCell (Nat.le_refl _) _⟩⟩
              · have h := HT.out.2.2.2.2
                go_num
              · rw [HT.out.2.2.2.1, togsE_snoc, ← HT.out.2.1]
                exact K6.out.2.2.1.set j (!bE)
            case measure => have h := HT.out.2.2.2.2; simp [intOf]; omega
          · obtain rfl : i = mm := by omega
            have q1 : ¬ (xx : Int) ≤ (n : Int) := by have h1 := HHM.out; have h2 := HN8.out; omega
            have q1b : ¬ (xx : Int) ≤ (s : Int) - 1 := by have h1 := HHM.out; have h2 := HN8.out; omega
            have HPS := hide hP
            clear hP hcb hxx
            go_wp2_with fail
            go_roundw
            case rel =>
              refine ⟨k + 1, by omega, by go_num, ?_, HPS.out.bel⟩
              rw [HTK.out, HP.out]
              exact HPS.out.row
            case measure => simp [intOf]; omega
    · have i1 : ¬ (k : Int) < (M : Int) := by omega
      have htk : part.take k = part := List.take_of_length_le (by rw [← H0.out.2.2.1]; omega)
      have hrow := HV.out.1
      rw [htk] at hrow
      obtain ⟨TB, hTB⟩ : ∃ TB, TB = tabE s (patE (n : Int) 1 part) := ⟨_, rfl⟩
      have hrow : RowB V w.heap.size TB := by rw [hTB]; exact hrow
      have HW := hide (And.intro hrow (And.intro HV.out.2 hTB))
      clear hrow htk HV hTB
      go_wp2_with fail
      go_loopw [17, 18] (fun nv iv wr => ∃ i : Nat, i ≤ m3 ∧ iv = .int .i64 i ∧ nv = .int .i64 (((TB.take i).countP id : Nat) : Int) ∧ wr = V) (fun _ iv _ => m3 - (intOf iv).toNat)
      case atStart => exact ⟨0, by omega, rfl, rfl, rfl⟩
      case round =>
        obtain ⟨i, hi, rfl, rfl, rfl⟩ := hrel
        by_cases him : i < m3
        · have j1 : (i : Int) < (m3 : Int) := by omega
          obtain ⟨b, hb⟩ : ∃ b, TB[i]? = some b := ⟨_, List.getElem?_eq_getElem (by rw [HW.out.2.2, tabE_length, ← H0.out.2.2.2.2.2.2.1]; exact him)⟩
          have e1 := HW.out.1.cell hb
          have hct := count_take hb
          have hcl := count_le TB i
          obtain ⟨q, hq⟩ : ∃ q, q = (TB.take i).countP id := ⟨_, rfl⟩
          rw [← hq] at hct hcl ⊢
          have HCT := hide hct
          clear hct hb hq
          cases b with
          | true =>
            go_wp2_with fail
            go_roundw
            case rel => exact ⟨i + 1, by omega, by go_num, by rw [HCT.out]; simp, by trivial⟩
            case measure => simp [intOf]; omega
          | false =>
            go_wp2_with fail
            go_roundw
            case rel => exact ⟨i + 1, by omega, by go_num, by rw [HCT.out]; simp, by trivial⟩
            case measure => simp [intOf]; omega
        · have j1 : ¬ (i : Int) < (m3 : Int) := by omega
          have hct : (TB.take i).countP id = cntE s (patE (n : Int) 1 part) := by
            rw [List.take_of_length_le (by rw [HW.out.2.2, tabE_length, ← H0.out.2.2.2.2.2.2.1]; omega), HW.out.2.2, tabE_count]
          rw [hct]
          go_wp2_with fail
          go_ret2
          exact ⟨m3, rfl, H0.out.2.2.2.2.2.2.1, by rw [← HW.out.2.2]; exact HW.out.1, HW.out.2.1⟩
set_option maxRecDepth 100000 in
set_option maxHeartbeats 32000000 in
theorem patch7r_2 {n s : Nat} (hs : s = n + 1) (hs9 : s ≤ 9) (hs2 : 2 ≤ s) (Ad : Option Addr) (c : Nat) (part : List EF) (w : World) (hsl : Sl encF 4 w w.heap.size Ad part) (hg : ∀ f ∈ part, grdF n f) (hl : part.length ≤ 100000) :
    Calls Try.prog 40 #[.slice Ad part.length c, .int .i64 (s : Int), .int .i64 2] w fun e w' => ∃ m3, e = .returned (.tuple #[.slice (some ⟨w.heap.size, 0, none⟩) m3 m3, .int .i64 (cntE s (patE (n : Int) 2 part) : Nat)]) ∧ m3 = 3 * (s * s * s) ∧ RowB w' w.heap.size (tabE s (patE (n : Int) 2 part)) ∧ Below w.heap.size w w' := by
  obtain ⟨M, hM⟩ : ∃ M, M = part.length := ⟨_, rfl⟩
  rw [← hM] at hl ⊢
  obtain ⟨r1, r2, m3, w1, w2, w3, hm3, hm3b⟩ := tab_nums hs9
  have hmk := mk_bl7 m3 (Nat.le_trans hm3b (by decide))
  obtain ⟨ZN, hZN⟩ : ∃ Z, Z = ((List.replicate m3 false).map Value.bool).toArray := ⟨_, rfl⟩
  rw [← hZN] at hmk
  have hsn : (s : Int) - 1 = (n : Int) := by clear w1 w2 w3; omega
  have H0 := hide (And.intro hsl (And.intro hg (And.intro hM (And.intro hs (And.intro hs9 (And.intro hZN (And.intro hm3 hsn)))))))
  clear hsl hg hM hs hs9 hZN hm3 hsn
  go_enter Try.func40, Try.ntmps40
  go_upto_region 2 with fail
  obtain ⟨X, hX⟩ : ∃ X, X = w.alloc (.cells ZN 4) := ⟨_, rfl⟩
  rw [← hX]
  have hrow : RowB X w.heap.size (tabE s (togsE noE ((part.take 0).flatMap (patF (n : Int) 2)))) := by
    rw [show togsE noE ((part.take 0).flatMap (patF (n : Int) 2)) = noE from rfl, tabE_none, ← H0.out.2.2.2.2.2.2.1, hX, H0.out.2.2.2.2.2.1]
    exact Blk.new _ _ _
  have hBX : Below w.heap.size w X := by rw [hX]; exact (Below.refl _ w).alloc (Nat.le_refl _) _
  have HX := hide (And.intro hrow hBX)
  clear hrow hBX hX hmk w1 w2 w3
  go_wp2_with fail
  go_loopw [10] (fun iv wr => ∃ k : Nat, k ≤ M ∧ iv = .int .i64 k ∧ RowB wr w.heap.size (tabE s (togsE noE ((part.take k).flatMap (patF (n : Int) 2)))) ∧ Below w.heap.size w wr) (fun iv _ => M - (intOf iv).toNat)
  case atStart => exact ⟨0, by omega, rfl, HX.out.1, HX.out.2⟩
  case round =>
    obtain ⟨V, rfl⟩ : ∃ V, V = wr := ⟨_, rfl⟩
    obtain ⟨k, hk, rfl, hrow, hB⟩ := hrel
    have HV := hide (And.intro hrow hB)
    have hgV : w.heap.size < V.heap.size := Blk.lt hrow
    clear hrow hB
    by_cases hkM : k < M
    · have i1 : (k : Int) < (M : Int) := by omega
      obtain ⟨f, hf⟩ : ∃ f, part[k]? = some f := ⟨_, List.getElem?_eq_getElem (by rw [← H0.out.2.2.1]; exact hkM)⟩
      have htk : (part.take (k + 1)).flatMap (patF (n : Int) 2) = (part.take k).flatMap (patF (n : Int) 2) ++ patF (n : Int) 2 f := by rw [List.take_add_one, hf, List.flatMap_append]; simp
      have hgf := H0.out.2.1 f (List.mem_of_getElem? hf)
      obtain ⟨tb, oo, hA, htb, g0, g1, g2, g3⟩ := (H0.out.1.below HV.out.2).four hf
      subst hA
      obtain ⟨PL, hPL⟩ : ∃ PL, PL = (part.take k).flatMap (patF (n : Int) 2) := ⟨_, rfl⟩
      rw [← hPL] at HV htk
      have HTK := hide htk
      clear htk hPL hf
      obtain ⟨x, y, z, hcase⟩ := grd_nat H0.out.2.2.2.1 hgf
      clear hgf
      rcases hcase with ⟨rfl, hx, hy, hz⟩ | ⟨rfl, hx, hy, hz⟩ | ⟨rfl, hx, hy, hz⟩
      · dsimp only at g0 g1 g2 g3
        go_upto_region 7 with fail
        obtain ⟨Y1, hY1⟩ : ∃ Y, Y = V.alloc (.cells #[.int .i64 0, .int .i64 (x : Int), .int .i64 (y : Int), .int .i64 (z : Int)] 45) := ⟨_, rfl⟩
        rw [← hY1]
        have hb1 : Blk Y1 V.heap.size 45 #[.int .i64 0, .int .i64 (x : Int), .int .i64 (y : Int), .int .i64 (z : Int)] := by rw [hY1]; exact Blk.new _ _ _
        have hB1 : Below V.heap.size V Y1 := by rw [hY1]; exact (Below.refl _ V).alloc (Nat.le_refl _) _
        obtain ⟨a0, a1, a2, a3⟩ := hb1.four
        have K1 := hide (And.intro hb1 hB1)
        clear hb1 hB1 hY1 g0 g1 g2 g3
        go_wp2_with fail
        refine (coords7_any ((0 : Int), ((x : Int), (y : Int), (z : Int))) Y1).mono ?_
        rintro e w5 ⟨rfl, hB5⟩
        have hBV5 := K1.out.2.trans (hB5.mono K1.out.2.size)
        have K5 := hide (And.intro (K1.out.1.on hB5) hBV5)
        clear hB5 hBV5 a0 a1 a2 a3
        go_upto_region 9 with fail
        obtain ⟨Y2, hY2⟩ : ∃ Y, Y = w5.alloc (.cells #[.int .i64 (x : Int), .int .i64 (y : Int), .int .i64 (z : Int)] 42) := ⟨_, rfl⟩
        rw [← hY2]
        have hB : Below w5.heap.size w5 Y2 := by rw [hY2]; exact (Below.refl _ w5).alloc (Nat.le_refl _) _
        have hb2 : Blk Y2 w5.heap.size 42 #[.int .i64 (x : Int), .int .i64 (y : Int), .int .i64 (z : Int)] := by rw [hY2]; exact Blk.new _ _ _
        have hBV2 := K5.out.2.trans (hB.mono K5.out.2.size)
        have h5s := K5.out.2.size
        have hfb : V.heap.size < w5.heap.size := K5.out.1.lt
        have K2 := hide (And.intro (K5.out.1.on hB) (And.intro hb2 (And.intro (HV.out.1.on hBV2) (HV.out.2.trans (hBV2.mono HV.out.2.size)))))
        obtain ⟨b0, b1, b2⟩ := hb2.three
        clear hB hb2 hBV2 hY2 K5 K1
        obtain ⟨cb, hcb⟩ : ∃ cb, cb = w5.heap.size := ⟨_, rfl⟩
        rw [← hcb] at K2 b0 b1 b2 hfb h5s ⊢
        clear hcb
        obtain ⟨mm, hmm⟩ : ∃ mm, mm = y + 1 := ⟨_, rfl⟩
        have hn8 : n ≤ 8 ∧ s = n + 1 := ⟨by have h1 := H0.out.2.2.2.1; have h2 := H0.out.2.2.2.2.1; omega, H0.out.2.2.2.1⟩
        have hb9 : (x ≤ 9 ∧ y ≤ 9 ∧ z ≤ 9) ∧ mm ≤ 9 := by omega
        have hpf : patF (n : Int) 2 ((0 : Int), ((x : Int), (y : Int), (z : Int))) = rowE 2 ((0 : Int), ((x : Int), (y : Int), (z : Int))) ((0 : Nat) : Int) mm := by
          unfold patF
          rw [if_neg (by simp [dirA])]
          have e1 : lowD 2 ((0 : Int), ((x : Int), (y : Int), (z : Int))) = ((0 : Nat) : Int) := by simp [lowD]
          have e2 : (highD (n : Int) 2 ((0 : Int), ((x : Int), (y : Int), (z : Int))) + 1 - ((0 : Nat) : Int)).toNat = mm := by rw [hmm]; simp [highD, dirA, cmp3] <;> omega
          rw [e1, e2]
        have HP := hide hpf
        have hsn := H0.out.2.2.2.2.2.2.2
        obtain ⟨⟨c1, c2, c3⟩, c4⟩ := hb9
        have HHM := hide hmm
        have HN8 := hide hn8
        have hn8v : n ≤ 8 := hn8.1
        clear hpf hmm hn8
        go_wp2_with fail
        clear hsn b0 b1 b2
        go_loopw [15] (fun xv wr => ∃ (i : Nat) (v : Int), i ≤ mm ∧ xv = .int .i64 ((0 + i : Nat) : Int) ∧ Blk wr cb 42 #[.int .i64 (x : Int), .int .i64 v, .int .i64 (z : Int)] ∧ PatS w wr s V.heap.size cb ((0 : Int), ((x : Int), (y : Int), (z : Int))) (togsE noE (PL ++ rowE 2 ((0 : Int), ((x : Int), (y : Int), (z : Int))) ((0 : Nat) : Int) i)) 1) (fun xv _ => 0 + mm - (intOf xv).toNat)
        case atStart => exact ⟨0, (y : Int), by omega, by simp, K2.out.2.1, ⟨by rw [show PL ++ rowE 2 ((0 : Int), ((x : Int), (y : Int), (z : Int))) ((0 : Nat) : Int) 0 = PL from by simp [rowE]]; exact K2.out.2.2.1, K2.out.1, K2.out.2.2.2⟩⟩
        case round =>
          obtain ⟨U, rfl⟩ : ∃ U, U = wr := ⟨_, rfl⟩
          obtain ⟨i, v, hi, rfl, hcb, hP⟩ := hrel
          obtain ⟨xx, hxx⟩ : ∃ xx, xx = 0 + i := ⟨_, rfl⟩
          rw [← hxx]
          have hxs : xx ≤ 20 := by omega
          by_cases him : i < mm
          · have q1 : (xx : Int) ≤ (y : Int) := by have h1 := HHM.out; have h2 := HN8.out; omega
            have hxs2 : xx < s := by have h1 := HHM.out; have h2 := HN8.out; omega
            have hall := all_nat7 (n := n) (a := 2) (x := x) (y := xx) (z := z) H0.out.2.2.2.1 (by omega) (by omega) (by omega) (by omega)
            have hat := at7r_any (s := s) (a := 2) (x := x) (y := xx) (z := z) H0.out.2.2.2.2.1 (by omega) (by omega) (by omega) (by omega)
            have hrs := rowE_succ 2 ((0 : Int), ((x : Int), (y : Int), (z : Int))) ((0 : Nat) : Int) i
            rw [show ((3 : Int) - dirA 2 - (((0 : Int), ((x : Int), (y : Int), (z : Int))) : EF).1, set3 (((0 : Int), ((x : Int), (y : Int), (z : Int))) : EF).2 (dirA 2) (((0 : Nat) : Int) + (i : Int))) = ((2 : Int), ((x : Int), (xx : Int), (z : Int))) by rw [hxx]; simp [dirA, set3]] at hrs
            obtain ⟨L1, hL1⟩ : ∃ L1, L1 = PL ++ rowE 2 ((0 : Int), ((x : Int), (y : Int), (z : Int))) ((0 : Nat) : Int) i := ⟨_, rfl⟩
            have hL2 : PL ++ rowE 2 ((0 : Int), ((x : Int), (y : Int), (z : Int))) ((0 : Nat) : Int) (i + 1) = L1 ++ [((2 : Int), ((x : Int), (xx : Int), (z : Int)))] := by rw [hrs, hL1, List.append_assoc]
            rw [← hL1] at hP
            have hjl := (edg_edgN hall).2
            have htg := tabE_tog (togsE noE L1) hall
            have htt := tabE_get (togsE noE L1) hall
            rw [← H0.out.2.2.2.1] at hjl htg htt
            simp only [show ((2 : Nat) : Int) = 2 from rfl] at hat hjl htg htt
            obtain ⟨j, hj⟩ : ∃ j, j = edgN s ((2 : Int), ((x : Int), (xx : Int), (z : Int))) := ⟨_, rfl⟩
            rw [← hj] at hat hjl htg htt
            have hjm : j < m3 := by rw [H0.out.2.2.2.2.2.2.1]; exact hjl
            obtain ⟨bE, hbE⟩ : ∃ b, b = togsE noE L1 ((2 : Int), ((x : Int), (xx : Int), (z : Int))) := ⟨_, rfl⟩
            rw [← hbE] at htg htt
            have HT := hide (And.intro hat (And.intro htg (And.intro htt (And.intro hL2 hxx))))
            have HPS := hide (And.intro hP hcb)
            obtain ⟨b0, b1, b2⟩ := hcb.three
            have z0 := hcb.frozen 1
            have hcbU := hcb.lt
            clear hall hat hrs hL1 hL2 hjl htg htt hj hbE hP hcb hxx hxs2
            go_upto_region 18 with fail
            obtain ⟨T, hT⟩ : ∃ T, T = U.setCell ⟨cb, 1, none⟩ (.int .i64 (xx : Int)) := ⟨_, rfl⟩
            rw [← hT]
            have hcT : Blk T cb 42 #[.int .i64 (x : Int), .int .i64 (xx : Int), .int .i64 (z : Int)] := by rw [hT]; exact HPS.out.2.set_ 1 _
            have hfT : Blk T V.heap.size 45 #[.int .i64 0, .int .i64 (x : Int), .int .i64 (y : Int), .int .i64 (z : Int)] := by rw [hT]; exact HPS.out.1.face.far (p := ⟨cb, 1, none⟩) (by dsimp only; omega) _
            have hrT : RowB T w.heap.size (tabE s (togsE noE L1)) := by rw [hT]; exact HPS.out.1.row.far (p := ⟨cb, 1, none⟩) (by dsimp only; omega) _
            have hbT : Below w.heap.size w T := by rw [hT]; exact HPS.out.1.bel.setCell (by dsimp only; omega) _
            clear b0 b1 b2 z0 hT
            obtain ⟨b0, b1, b2⟩ := hcT.three
            obtain ⟨a0, a1, a2, a3⟩ := hfT.four
            have KT := hide (And.intro hcT (And.intro hfT (And.intro hrT hbT)))
            clear hcT hfT hrT hbT HPS
            go_wp2_with fail
            refine (HT.out.1 T).mono ?_
            rintro e w6 ⟨rfl, hB6⟩
            have hr6 := KT.out.2.2.1.on hB6
            have e1 := hr6.cell HT.out.2.2.1
            have f1 := hr6.frozen j
            have j1 : (j : Int) < (m3 : Int) := by omega
            have K6 := hide (And.intro (KT.out.1.on hB6) (And.intro (KT.out.2.1.on hB6) (And.intro hr6 (KT.out.2.2.2.trans (hB6.mono KT.out.2.2.2.size)))))
            clear hB6 hr6 a0 a1 a2 a3 b0 b1 b2
            go_wp2_with fail
            go_roundw
            case rel =>
              refine ⟨i + 1, (xx : Int), by omega, ?_, K6.out.1.far (p := ⟨w.heap.size, j, none⟩) (by dsimp only; omega) _, ⟨?_, K6.out.2.1.far (p := ⟨w.heap.size, j, none⟩) (by dsimp only; omega) _, K6.out.2.2.2.setCell (Nat.le_refl _) _⟩⟩
              · have h := HT.out.2.2.2.2
                go_num
              · rw [HT.out.2.2.2.1, togsE_snoc, ← HT.out.2.1]
                exact K6.out.2.2.1.set j (!bE)
            case measure => have h := HT.out.2.2.2.2; simp [intOf]; omega
          · obtain rfl : i = mm := by omega
            have q1 : ¬ (xx : Int) ≤ (y : Int) := by have h1 := HHM.out; have h2 := HN8.out; omega
            have HPS := hide hP
            clear hP hcb hxx
            go_wp2_with fail
            go_roundw
            case rel =>
              refine ⟨k + 1, by omega, by go_num, ?_, HPS.out.bel⟩
              rw [HTK.out, HP.out]
              exact HPS.out.row
            case measure => simp [intOf]; omega
      · dsimp only at g0 g1 g2 g3
        go_upto_region 7 with fail
        obtain ⟨Y1, hY1⟩ : ∃ Y, Y = V.alloc (.cells #[.int .i64 1, .int .i64 (x : Int), .int .i64 (y : Int), .int .i64 (z : Int)] 45) := ⟨_, rfl⟩
        rw [← hY1]
        have hb1 : Blk Y1 V.heap.size 45 #[.int .i64 1, .int .i64 (x : Int), .int .i64 (y : Int), .int .i64 (z : Int)] := by rw [hY1]; exact Blk.new _ _ _
        have hB1 : Below V.heap.size V Y1 := by rw [hY1]; exact (Below.refl _ V).alloc (Nat.le_refl _) _
        obtain ⟨a0, a1, a2, a3⟩ := hb1.four
        have K1 := hide (And.intro hb1 hB1)
        clear hb1 hB1 hY1 g0 g1 g2 g3
        have hpf : patF (n : Int) 2 ((1 : Int), ((x : Int), (y : Int), (z : Int))) = [] := by unfold patF; rw [if_pos (by simp [dirA])]
        have HP := hide hpf
        clear hpf
        go_wp2_with fail
        go_roundw
        case rel =>
          refine ⟨k + 1, by omega, by go_num, ?_, HV.out.2.trans (K1.out.2.mono HV.out.2.size)⟩
          rw [HTK.out, HP.out, List.append_nil]
          exact HV.out.1.on K1.out.2
        case measure => simp [intOf]; omega
      · dsimp only at g0 g1 g2 g3
        go_upto_region 7 with fail
        obtain ⟨Y1, hY1⟩ : ∃ Y, Y = V.alloc (.cells #[.int .i64 2, .int .i64 (x : Int), .int .i64 (y : Int), .int .i64 (z : Int)] 45) := ⟨_, rfl⟩
        rw [← hY1]
        have hb1 : Blk Y1 V.heap.size 45 #[.int .i64 2, .int .i64 (x : Int), .int .i64 (y : Int), .int .i64 (z : Int)] := by rw [hY1]; exact Blk.new _ _ _
        have hB1 : Below V.heap.size V Y1 := by rw [hY1]; exact (Below.refl _ V).alloc (Nat.le_refl _) _
        obtain ⟨a0, a1, a2, a3⟩ := hb1.four
        have K1 := hide (And.intro hb1 hB1)
        clear hb1 hB1 hY1 g0 g1 g2 g3
        go_wp2_with fail
        refine (coords7_any ((2 : Int), ((x : Int), (y : Int), (z : Int))) Y1).mono ?_
        rintro e w5 ⟨rfl, hB5⟩
        have hBV5 := K1.out.2.trans (hB5.mono K1.out.2.size)
        have K5 := hide (And.intro (K1.out.1.on hB5) hBV5)
        clear hB5 hBV5 a0 a1 a2 a3
        go_upto_region 9 with fail
        obtain ⟨Y2, hY2⟩ : ∃ Y, Y = w5.alloc (.cells #[.int .i64 (x : Int), .int .i64 (y : Int), .int .i64 (z : Int)] 42) := ⟨_, rfl⟩
        rw [← hY2]
        have hB : Below w5.heap.size w5 Y2 := by rw [hY2]; exact (Below.refl _ w5).alloc (Nat.le_refl _) _
        have hb2 : Blk Y2 w5.heap.size 42 #[.int .i64 (x : Int), .int .i64 (y : Int), .int .i64 (z : Int)] := by rw [hY2]; exact Blk.new _ _ _
        have hBV2 := K5.out.2.trans (hB.mono K5.out.2.size)
        have h5s := K5.out.2.size
        have hfb : V.heap.size < w5.heap.size := K5.out.1.lt
        have K2 := hide (And.intro (K5.out.1.on hB) (And.intro hb2 (And.intro (HV.out.1.on hBV2) (HV.out.2.trans (hBV2.mono HV.out.2.size)))))
        obtain ⟨b0, b1, b2⟩ := hb2.three
        clear hB hb2 hBV2 hY2 K5 K1
        obtain ⟨cb, hcb⟩ : ∃ cb, cb = w5.heap.size := ⟨_, rfl⟩
        rw [← hcb] at K2 b0 b1 b2 hfb h5s ⊢
        clear hcb
        obtain ⟨mm, hmm⟩ : ∃ mm, mm = y + 1 := ⟨_, rfl⟩
        have hn8 : n ≤ 8 ∧ s = n + 1 := ⟨by have h1 := H0.out.2.2.2.1; have h2 := H0.out.2.2.2.2.1; omega, H0.out.2.2.2.1⟩
        have hb9 : (x ≤ 9 ∧ y ≤ 9 ∧ z ≤ 9) ∧ mm ≤ 9 := by omega
        have hpf : patF (n : Int) 2 ((2 : Int), ((x : Int), (y : Int), (z : Int))) = rowE 2 ((2 : Int), ((x : Int), (y : Int), (z : Int))) ((0 : Nat) : Int) mm := by
          unfold patF
          rw [if_neg (by simp [dirA])]
          have e1 : lowD 2 ((2 : Int), ((x : Int), (y : Int), (z : Int))) = ((0 : Nat) : Int) := by simp [lowD]
          have e2 : (highD (n : Int) 2 ((2 : Int), ((x : Int), (y : Int), (z : Int))) + 1 - ((0 : Nat) : Int)).toNat = mm := by rw [hmm]; simp [highD, dirA, cmp3] <;> omega
          rw [e1, e2]
        have HP := hide hpf
        have hsn := H0.out.2.2.2.2.2.2.2
        obtain ⟨⟨c1, c2, c3⟩, c4⟩ := hb9
        have HHM := hide hmm
        have HN8 := hide hn8
        have hn8v : n ≤ 8 := hn8.1
        clear hpf hmm hn8
        go_wp2_with fail
        clear hsn b0 b1 b2
        go_loopw [15] (fun xv wr => ∃ (i : Nat) (v : Int), i ≤ mm ∧ xv = .int .i64 ((0 + i : Nat) : Int) ∧ Blk wr cb 42 #[.int .i64 (x : Int), .int .i64 v, .int .i64 (z : Int)] ∧ PatS w wr s V.heap.size cb ((2 : Int), ((x : Int), (y : Int), (z : Int))) (togsE noE (PL ++ rowE 2 ((2 : Int), ((x : Int), (y : Int), (z : Int))) ((0 : Nat) : Int) i)) 1) (fun xv _ => 0 + mm - (intOf xv).toNat)
        case atStart => exact ⟨0, (y : Int), by omega, by simp, K2.out.2.1, ⟨by rw [show PL ++ rowE 2 ((2 : Int), ((x : Int), (y : Int), (z : Int))) ((0 : Nat) : Int) 0 = PL from by simp [rowE]]; exact K2.out.2.2.1, K2.out.1, K2.out.2.2.2⟩⟩
        case round =>
          obtain ⟨U, rfl⟩ : ∃ U, U = wr := ⟨_, rfl⟩
          obtain ⟨i, v, hi, rfl, hcb, hP⟩ := hrel
          obtain ⟨xx, hxx⟩ : ∃ xx, xx = 0 + i := ⟨_, rfl⟩
          rw [← hxx]
          have hxs : xx ≤ 20 := by omega
          by_cases him : i < mm
          · have q1 : (xx : Int) ≤ (y : Int) := by have h1 := HHM.out; have h2 := HN8.out; omega
            have hxs2 : xx < s := by have h1 := HHM.out; have h2 := HN8.out; omega
            have hall := all_nat7 (n := n) (a := 0) (x := x) (y := xx) (z := z) H0.out.2.2.2.1 (by omega) (by omega) (by omega) (by omega)
            have hat := at7r_any (s := s) (a := 0) (x := x) (y := xx) (z := z) H0.out.2.2.2.2.1 (by omega) (by omega) (by omega) (by omega)
            have hrs := rowE_succ 2 ((2 : Int), ((x : Int), (y : Int), (z : Int))) ((0 : Nat) : Int) i
            rw [show ((3 : Int) - dirA 2 - (((2 : Int), ((x : Int), (y : Int), (z : Int))) : EF).1, set3 (((2 : Int), ((x : Int), (y : Int), (z : Int))) : EF).2 (dirA 2) (((0 : Nat) : Int) + (i : Int))) = ((0 : Int), ((x : Int), (xx : Int), (z : Int))) by rw [hxx]; simp [dirA, set3]] at hrs
            obtain ⟨L1, hL1⟩ : ∃ L1, L1 = PL ++ rowE 2 ((2 : Int), ((x : Int), (y : Int), (z : Int))) ((0 : Nat) : Int) i := ⟨_, rfl⟩
            have hL2 : PL ++ rowE 2 ((2 : Int), ((x : Int), (y : Int), (z : Int))) ((0 : Nat) : Int) (i + 1) = L1 ++ [((0 : Int), ((x : Int), (xx : Int), (z : Int)))] := by rw [hrs, hL1, List.append_assoc]
            rw [← hL1] at hP
            have hjl := (edg_edgN hall).2
            have htg := tabE_tog (togsE noE L1) hall
            have htt := tabE_get (togsE noE L1) hall
            rw [← H0.out.2.2.2.1] at hjl htg htt
            simp only [show ((0 : Nat) : Int) = 0 from rfl] at hat hjl htg htt
            obtain ⟨j, hj⟩ : ∃ j, j = edgN s ((0 : Int), ((x : Int), (xx : Int), (z : Int))) := ⟨_, rfl⟩
            rw [← hj] at hat hjl htg htt
            have hjm : j < m3 := by rw [H0.out.2.2.2.2.2.2.1]; exact hjl
            obtain ⟨bE, hbE⟩ : ∃ b, b = togsE noE L1 ((0 : Int), ((x : Int), (xx : Int), (z : Int))) := ⟨_, rfl⟩
            rw [← hbE] at htg htt
            have HT := hide (And.intro hat (And.intro htg (And.intro htt (And.intro hL2 hxx))))
            have HPS := hide (And.intro hP hcb)
            obtain ⟨b0, b1, b2⟩ := hcb.three
            have z0 := hcb.frozen 1
            have hcbU := hcb.lt
            clear hall hat hrs hL1 hL2 hjl htg htt hj hbE hP hcb hxx hxs2
            go_upto_region 18 with fail
            obtain ⟨T, hT⟩ : ∃ T, T = U.setCell ⟨cb, 1, none⟩ (.int .i64 (xx : Int)) := ⟨_, rfl⟩
            rw [← hT]
            have hcT : Blk T cb 42 #[.int .i64 (x : Int), .int .i64 (xx : Int), .int .i64 (z : Int)] := by rw [hT]; exact HPS.out.2.set_ 1 _
            have hfT : Blk T V.heap.size 45 #[.int .i64 2, .int .i64 (x : Int), .int .i64 (y : Int), .int .i64 (z : Int)] := by rw [hT]; exact HPS.out.1.face.far (p := ⟨cb, 1, none⟩) (by dsimp only; omega) _
            have hrT : RowB T w.heap.size (tabE s (togsE noE L1)) := by rw [hT]; exact HPS.out.1.row.far (p := ⟨cb, 1, none⟩) (by dsimp only; omega) _
            have hbT : Below w.heap.size w T := by rw [hT]; exact HPS.out.1.bel.setCell (by dsimp only; omega) _
            clear b0 b1 b2 z0 hT
            obtain ⟨b0, b1, b2⟩ := hcT.three
            obtain ⟨a0, a1, a2, a3⟩ := hfT.four
            have KT := hide (And.intro hcT (And.intro hfT (And.intro hrT hbT)))
            clear hcT hfT hrT hbT HPS
            go_wp2_with fail
            refine (HT.out.1 T).mono ?_
            rintro e w6 ⟨rfl, hB6⟩
            have hr6 := KT.out.2.2.1.on hB6
            have e1 := hr6.cell HT.out.2.2.1
            have f1 := hr6.frozen j
            have j1 : (j : Int) < (m3 : Int) := by omega
            have K6 := hide (And.intro (KT.out.1.on hB6) (And.intro (KT.out.2.1.on hB6) (And.intro hr6 (KT.out.2.2.2.trans (hB6.mono KT.out.2.2.2.size)))))
            clear hB6 hr6 a0 a1 a2 a3 b0 b1 b2
            go_wp2_with fail
            go_roundw
            case rel =>
              refine ⟨i + 1, (xx : Int), by omega, ?_, K6.out.1.far (p := ⟨w.heap.size, j, none⟩) (by dsimp only; omega) _, ⟨?_, K6.out.2.1.far (p := ⟨w.heap.size, j, none⟩) (by dsimp only; omega) _, K6.out.2.2.2.setCell (Nat.le_refl _) _⟩⟩
              · have h := HT.out.2.2.2.2
                go_num
              · rw [HT.out.2.2.2.1, togsE_snoc, ← HT.out.2.1]
                exact K6.out.2.2.1.set j (!bE)
            case measure => have h := HT.out.2.2.2.2; simp [intOf]; omega
          · obtain rfl : i = mm := by omega
            have q1 : ¬ (xx : Int) ≤ (y : Int) := by have h1 := HHM.out; have h2 := HN8.out; omega
            have HPS := hide hP
            clear hP hcb hxx
            go_wp2_with fail
            go_roundw
            case rel =>
              refine ⟨k + 1, by omega, by go_num, ?_, HPS.out.bel⟩
              rw [HTK.out, HP.out]
              exact HPS.out.row
            case measure => simp [intOf]; omega
    · have i1 : ¬ (k : Int) < (M : Int) := by omega
      have htk : part.take k = part := List.take_of_length_le (by rw [← H0.out.2.2.1]; omega)
      have hrow := HV.out.1
      rw [htk] at hrow
      obtain ⟨TB, hTB⟩ : ∃ TB, TB = tabE s (patE (n : Int) 2 part) := ⟨_, rfl⟩
      have hrow : RowB V w.heap.size TB := by rw [hTB]; exact hrow
      have HW := hide (And.intro hrow (And.intro HV.out.2 hTB))
      clear hrow htk HV hTB
      go_wp2_with fail
      go_loopw [17, 18] (fun nv iv wr => ∃ i : Nat, i ≤ m3 ∧ iv = .int .i64 i ∧ nv = .int .i64 (((TB.take i).countP id : Nat) : Int) ∧ wr = V) (fun _ iv _ => m3 - (intOf iv).toNat)
      case atStart => exact ⟨0, by omega, rfl, rfl, rfl⟩
      case round =>
        obtain ⟨i, hi, rfl, rfl, rfl⟩ := hrel
        by_cases him : i < m3
        · have j1 : (i : Int) < (m3 : Int) := by omega
          obtain ⟨b, hb⟩ : ∃ b, TB[i]? = some b := ⟨_, List.getElem?_eq_getElem (by rw [HW.out.2.2, tabE_length, ← H0.out.2.2.2.2.2.2.1]; exact him)⟩
          have e1 := HW.out.1.cell hb
          have hct := count_take hb
          have hcl := count_le TB i
          obtain ⟨q, hq⟩ : ∃ q, q = (TB.take i).countP id := ⟨_, rfl⟩
          rw [← hq] at hct hcl ⊢
          have HCT := hide hct
          clear hct hb hq
          cases b with
          | true =>
            go_wp2_with fail
            go_roundw
            case rel => exact ⟨i + 1, by omega, by go_num, by rw [HCT.out]; simp, by trivial⟩
            case measure => simp [intOf]; omega
          | false =>
            go_wp2_with fail
            go_roundw
            case rel => exact ⟨i + 1, by omega, by go_num, by rw [HCT.out]; simp, by trivial⟩
            case measure => simp [intOf]; omega
        · have j1 : ¬ (i : Int) < (m3 : Int) := by omega
          have hct : (TB.take i).countP id = cntE s (patE (n : Int) 2 part) := by
            rw [List.take_of_length_le (by rw [HW.out.2.2, tabE_length, ← H0.out.2.2.2.2.2.2.1]; omega), HW.out.2.2, tabE_count]
          rw [hct]
          go_wp2_with fail
          go_ret2
          exact ⟨m3, rfl, H0.out.2.2.2.2.2.2.1, by rw [← HW.out.2.2]; exact HW.out.1, HW.out.2.1⟩
set_option maxRecDepth 100000 in
set_option maxHeartbeats 32000000 in
theorem patch7r_3 {n s : Nat} (hs : s = n + 1) (hs9 : s ≤ 9) (hs2 : 2 ≤ s) (Ad : Option Addr) (c : Nat) (part : List EF) (w : World) (hsl : Sl encF 4 w w.heap.size Ad part) (hg : ∀ f ∈ part, grdF n f) (hl : part.length ≤ 100000) :
    Calls Try.prog 40 #[.slice Ad part.length c, .int .i64 (s : Int), .int .i64 3] w fun e w' => ∃ m3, e = .returned (.tuple #[.slice (some ⟨w.heap.size, 0, none⟩) m3 m3, .int .i64 (cntE s (patE (n : Int) 3 part) : Nat)]) ∧ m3 = 3 * (s * s * s) ∧ RowB w' w.heap.size (tabE s (patE (n : Int) 3 part)) ∧ Below w.heap.size w w' := by
  obtain ⟨M, hM⟩ : ∃ M, M = part.length := ⟨_, rfl⟩
  rw [← hM] at hl ⊢
  obtain ⟨r1, r2, m3, w1, w2, w3, hm3, hm3b⟩ := tab_nums hs9
  have hmk := mk_bl7 m3 (Nat.le_trans hm3b (by decide))
  obtain ⟨ZN, hZN⟩ : ∃ Z, Z = ((List.replicate m3 false).map Value.bool).toArray := ⟨_, rfl⟩
  rw [← hZN] at hmk
  have hsn : (s : Int) - 1 = (n : Int) := by clear w1 w2 w3; omega
  have H0 := hide (And.intro hsl (And.intro hg (And.intro hM (And.intro hs (And.intro hs9 (And.intro hZN (And.intro hm3 hsn)))))))
  clear hsl hg hM hs hs9 hZN hm3 hsn
  go_enter Try.func40, Try.ntmps40
  go_upto_region 2 with fail
  obtain ⟨X, hX⟩ : ∃ X, X = w.alloc (.cells ZN 4) := ⟨_, rfl⟩
  rw [← hX]
  have hrow : RowB X w.heap.size (tabE s (togsE noE ((part.take 0).flatMap (patF (n : Int) 3)))) := by
    rw [show togsE noE ((part.take 0).flatMap (patF (n : Int) 3)) = noE from rfl, tabE_none, ← H0.out.2.2.2.2.2.2.1, hX, H0.out.2.2.2.2.2.1]
    exact Blk.new _ _ _
  have hBX : Below w.heap.size w X := by rw [hX]; exact (Below.refl _ w).alloc (Nat.le_refl _) _
  have HX := hide (And.intro hrow hBX)
  clear hrow hBX hX hmk w1 w2 w3
  go_wp2_with fail
  go_loopw [10] (fun iv wr => ∃ k : Nat, k ≤ M ∧ iv = .int .i64 k ∧ RowB wr w.heap.size (tabE s (togsE noE ((part.take k).flatMap (patF (n : Int) 3)))) ∧ Below w.heap.size w wr) (fun iv _ => M - (intOf iv).toNat)
  case atStart => exact ⟨0, by omega, rfl, HX.out.1, HX.out.2⟩
  case round =>
    obtain ⟨V, rfl⟩ : ∃ V, V = wr := ⟨_, rfl⟩
    obtain ⟨k, hk, rfl, hrow, hB⟩ := hrel
    have HV := hide (And.intro hrow hB)
    have hgV : w.heap.size < V.heap.size := Blk.lt hrow
    clear hrow hB
    by_cases hkM : k < M
    · have i1 : (k : Int) < (M : Int) := by omega
      obtain ⟨f, hf⟩ : ∃ f, part[k]? = some f := ⟨_, List.getElem?_eq_getElem (by rw [← H0.out.2.2.1]; exact hkM)⟩
      have htk : (part.take (k + 1)).flatMap (patF (n : Int) 3) = (part.take k).flatMap (patF (n : Int) 3) ++ patF (n : Int) 3 f := by rw [List.take_add_one, hf, List.flatMap_append]; simp
      have hgf := H0.out.2.1 f (List.mem_of_getElem? hf)
      obtain ⟨tb, oo, hA, htb, g0, g1, g2, g3⟩ := (H0.out.1.below HV.out.2).four hf
      subst hA
      obtain ⟨PL, hPL⟩ : ∃ PL, PL = (part.take k).flatMap (patF (n : Int) 3) := ⟨_, rfl⟩
      rw [← hPL] at HV htk
      have HTK := hide htk
      clear htk hPL hf
      obtain ⟨x, y, z, hcase⟩ := grd_nat H0.out.2.2.2.1 hgf
      clear hgf
      rcases hcase with ⟨rfl, hx, hy, hz⟩ | ⟨rfl, hx, hy, hz⟩ | ⟨rfl, hx, hy, hz⟩
      · dsimp only at g0 g1 g2 g3
        go_upto_region 7 with fail
        obtain ⟨Y1, hY1⟩ : ∃ Y, Y = V.alloc (.cells #[.int .i64 0, .int .i64 (x : Int), .int .i64 (y : Int), .int .i64 (z : Int)] 45) := ⟨_, rfl⟩
        rw [← hY1]
        have hb1 : Blk Y1 V.heap.size 45 #[.int .i64 0, .int .i64 (x : Int), .int .i64 (y : Int), .int .i64 (z : Int)] := by rw [hY1]; exact Blk.new _ _ _
        have hB1 : Below V.heap.size V Y1 := by rw [hY1]; exact (Below.refl _ V).alloc (Nat.le_refl _) _
        obtain ⟨a0, a1, a2, a3⟩ := hb1.four
        have K1 := hide (And.intro hb1 hB1)
        clear hb1 hB1 hY1 g0 g1 g2 g3
        go_wp2_with fail
        refine (coords7_any ((0 : Int), ((x : Int), (y : Int), (z : Int))) Y1).mono ?_
        rintro e w5 ⟨rfl, hB5⟩
        have hBV5 := K1.out.2.trans (hB5.mono K1.out.2.size)
        have K5 := hide (And.intro (K1.out.1.on hB5) hBV5)
        clear hB5 hBV5 a0 a1 a2 a3
        go_upto_region 9 with fail
        obtain ⟨Y2, hY2⟩ : ∃ Y, Y = w5.alloc (.cells #[.int .i64 (x : Int), .int .i64 (y : Int), .int .i64 (z : Int)] 42) := ⟨_, rfl⟩
        rw [← hY2]
        have hB : Below w5.heap.size w5 Y2 := by rw [hY2]; exact (Below.refl _ w5).alloc (Nat.le_refl _) _
        have hb2 : Blk Y2 w5.heap.size 42 #[.int .i64 (x : Int), .int .i64 (y : Int), .int .i64 (z : Int)] := by rw [hY2]; exact Blk.new _ _ _
        have hBV2 := K5.out.2.trans (hB.mono K5.out.2.size)
        have h5s := K5.out.2.size
        have hfb : V.heap.size < w5.heap.size := K5.out.1.lt
        have K2 := hide (And.intro (K5.out.1.on hB) (And.intro hb2 (And.intro (HV.out.1.on hBV2) (HV.out.2.trans (hBV2.mono HV.out.2.size)))))
        obtain ⟨b0, b1, b2⟩ := hb2.three
        clear hB hb2 hBV2 hY2 K5 K1
        obtain ⟨cb, hcb⟩ : ∃ cb, cb = w5.heap.size := ⟨_, rfl⟩
        rw [← hcb] at K2 b0 b1 b2 hfb h5s ⊢
        clear hcb
        obtain ⟨mm, hmm⟩ : ∃ mm, mm = n - y := ⟨_, rfl⟩
        have hn8 : n ≤ 8 ∧ s = n + 1 := ⟨by have h1 := H0.out.2.2.2.1; have h2 := H0.out.2.2.2.2.1; omega, H0.out.2.2.2.1⟩
        have hb9 : (x ≤ 9 ∧ y ≤ 9 ∧ z ≤ 9) ∧ mm ≤ 9 := by omega
        have hpf : patF (n : Int) 3 ((0 : Int), ((x : Int), (y : Int), (z : Int))) = rowE 3 ((0 : Int), ((x : Int), (y : Int), (z : Int))) ((y + 1 : Nat) : Int) mm := by
          unfold patF
          rw [if_neg (by simp [dirA])]
          have e1 : lowD 3 ((0 : Int), ((x : Int), (y : Int), (z : Int))) = ((y + 1 : Nat) : Int) := by simp [lowD, dirA, cmp3]
          have e2 : (highD (n : Int) 3 ((0 : Int), ((x : Int), (y : Int), (z : Int))) + 1 - ((y + 1 : Nat) : Int)).toNat = mm := by rw [hmm]; simp [highD] <;> omega
          rw [e1, e2]
        have HP := hide hpf
        have hsn := H0.out.2.2.2.2.2.2.2
        obtain ⟨⟨c1, c2, c3⟩, c4⟩ := hb9
        have HHM := hide hmm
        have HN8 := hide hn8
        have hn8v : n ≤ 8 := hn8.1
        clear hpf hmm hn8
        go_wp2_with fail
        clear hsn b0 b1 b2
        go_loopw [15] (fun xv wr => ∃ (i : Nat) (v : Int), i ≤ mm ∧ xv = .int .i64 ((y + 1 + i : Nat) : Int) ∧ Blk wr cb 42 #[.int .i64 (x : Int), .int .i64 v, .int .i64 (z : Int)] ∧ PatS w wr s V.heap.size cb ((0 : Int), ((x : Int), (y : Int), (z : Int))) (togsE noE (PL ++ rowE 3 ((0 : Int), ((x : Int), (y : Int), (z : Int))) ((y + 1 : Nat) : Int) i)) 1) (fun xv _ => y + 1 + mm - (intOf xv).toNat)
        case atStart => exact ⟨0, (y : Int), by omega, by simp, K2.out.2.1, ⟨by rw [show PL ++ rowE 3 ((0 : Int), ((x : Int), (y : Int), (z : Int))) ((y + 1 : Nat) : Int) 0 = PL from by simp [rowE]]; exact K2.out.2.2.1, K2.out.1, K2.out.2.2.2⟩⟩
        case round =>
          obtain ⟨U, rfl⟩ : ∃ U, U = wr := ⟨_, rfl⟩
          obtain ⟨i, v, hi, rfl, hcb, hP⟩ := hrel
          obtain ⟨xx, hxx⟩ : ∃ xx, xx = y + 1 + i := ⟨_, rfl⟩
          rw [← hxx]
          have hxs : xx ≤ 20 := by omega
          by_cases him : i < mm
          · have q1 : (xx : Int) ≤ (n : Int) := by have h1 := HHM.out; have h2 := HN8.out; omega
            have q1b : (xx : Int) ≤ (s : Int) - 1 := by have h1 := HHM.out; have h2 := HN8.out; omega
            have hxs2 : xx < s := by have h1 := HHM.out; have h2 := HN8.out; omega
            have hall := all_nat7 (n := n) (a := 2) (x := x) (y := xx) (z := z) H0.out.2.2.2.1 (by omega) (by omega) (by omega) (by omega)
            have hat := at7r_any (s := s) (a := 2) (x := x) (y := xx) (z := z) H0.out.2.2.2.2.1 (by omega) (by omega) (by omega) (by omega)
            have hrs := rowE_succ 3 ((0 : Int), ((x : Int), (y : Int), (z : Int))) ((y + 1 : Nat) : Int) i
            rw [show ((3 : Int) - dirA 3 - (((0 : Int), ((x : Int), (y : Int), (z : Int))) : EF).1, set3 (((0 : Int), ((x : Int), (y : Int), (z : Int))) : EF).2 (dirA 3) (((y + 1 : Nat) : Int) + (i : Int))) = ((2 : Int), ((x : Int), (xx : Int), (z : Int))) by rw [hxx]; simp [dirA, set3]] at hrs
            obtain ⟨L1, hL1⟩ : ∃ L1, L1 = PL ++ rowE 3 ((0 : Int), ((x : Int), (y : Int), (z : Int))) ((y + 1 : Nat) : Int) i := ⟨_, rfl⟩
            have hL2 : PL ++ rowE 3 ((0 : Int), ((x : Int), (y : Int), (z : Int))) ((y + 1 : Nat) : Int) (i + 1) = L1 ++ [((2 : Int), ((x : Int), (xx : Int), (z : Int)))] := by rw [hrs, hL1, List.append_assoc]
            rw [← hL1] at hP
            have hjl := (edg_edgN hall).2
            have htg := tabE_tog (togsE noE L1) hall
            have htt := tabE_get (togsE noE L1) hall
            rw [← H0.out.2.2.2.1] at hjl htg htt
            simp only [show ((2 : Nat) : Int) = 2 from rfl] at hat hjl htg htt
            obtain ⟨j, hj⟩ : ∃ j, j = edgN s ((2 : Int), ((x : Int), (xx : Int), (z : Int))) := ⟨_, rfl⟩
            rw [← hj] at hat hjl htg htt
            have hjm : j < m3 := by rw [H0.out.2.2.2.2.2.2.1]; exact hjl
            obtain ⟨bE, hbE⟩ : ∃ b, b = togsE noE L1 ((2 : Int), ((x : Int), (xx : Int), (z : Int))) := ⟨_, rfl⟩
            rw [← hbE] at htg htt
            have HT := hide (And.intro hat (And.intro htg (And.intro htt (And.intro hL2 hxx))))
            have HPS := hide (And.intro hP hcb)
            obtain ⟨b0, b1, b2⟩ := hcb.three
            have z0 := hcb.frozen 1
            have hcbU := hcb.lt
            clear hall hat hrs hL1 hL2 hjl htg htt hj hbE hP hcb hxx hxs2
            go_upto_region 18 with fail
            obtain ⟨T, hT⟩ : ∃ T, T = U.setCell ⟨cb, 1, none⟩ (.int .i64 (xx : Int)) := ⟨_, rfl⟩
            rw [← hT]
            have hcT : Blk T cb 42 #[.int .i64 (x : Int), .int .i64 (xx : Int), .int .i64 (z : Int)] := by rw [hT]; exact HPS.out.2.set_ 1 _
            have hfT : Blk T V.heap.size 45 #[.int .i64 0, .int .i64 (x : Int), .int .i64 (y : Int), .int .i64 (z : Int)] := by rw [hT]; exact HPS.out.1.face.far (p := ⟨cb, 1, none⟩) (by dsimp only; omega) _
            have hrT : RowB T w.heap.size (tabE s (togsE noE L1)) := by rw [hT]; exact HPS.out.1.row.far (p := ⟨cb, 1, none⟩) (by dsimp only; omega) _
            have hbT : Below w.heap.size w T := by rw [hT]; exact HPS.out.1.bel.setCell (by dsimp only; omega) _
            clear b0 b1 b2 z0 hT
            obtain ⟨b0, b1, b2⟩ := hcT.three
            obtain ⟨a0, a1, a2, a3⟩ := hfT.four
            have KT := hide (And.intro hcT (And.intro hfT (And.intro hrT hbT)))
            clear hcT hfT hrT hbT HPS
            go_wp2_with fail
            refine (HT.out.1 T).mono ?_
            rintro e w6 ⟨rfl, hB6⟩
            have hr6 := KT.out.2.2.1.on hB6
            have e1 := hr6.cell HT.out.2.2.1
            have f1 := hr6.frozen j
            have j1 : (j : Int) < (m3 : Int) := by omega
            have K6 := hide (And.intro (KT.out.1.on hB6) (And.intro (KT.out.2.1.on hB6) (And.intro hr6 (KT.out.2.2.2.trans (hB6.mono KT.out.2.2.2.size)))))
            clear hB6 hr6 a0 a1 a2 a3 b0 b1 b2
            go_wp2_with fail
            go_roundw
            case rel =>
              refine ⟨i + 1, (xx : Int), by omega, ?_, K6.out.1.far (p := ⟨w.heap.size, j, none⟩) (by dsimp only; omega) _, ⟨?_, K6.out.2.1.far (p := ⟨w.heap.size, j, none⟩) (by dsimp only; omega) _, K6.out.2.2.2.setCell (Nat.le_refl _) _⟩⟩
              · have h := HT.out.2.2.2.2
                go_num
              · rw [HT.out.2.2.2.1, togsE_snoc, ← HT.out.2.1]
                exact K6.out.2.2.1.set j (!bE)
            case measure => have h := HT.out.2.2.2.2; simp [intOf]; omega
          · obtain rfl : i = mm := by omega
            have q1 : ¬ (xx : Int) ≤ (n : Int) := by have h1 := HHM.out; have h2 := HN8.out; omega
            have q1b : ¬ (xx : Int) ≤ (s : Int) - 1 := by have h1 := HHM.out; have h2 := HN8.out; omega
            have HPS := hide hP
            clear hP hcb hxx
            go_wp2_with fail
            go_roundw
            case rel =>
              refine ⟨k + 1, by omega, by go_num, ?_, HPS.out.bel⟩
              rw [HTK.out, HP.out]
              exact HPS.out.row
            case measure => simp [intOf]; omega
      · dsimp only at g0 g1 g2 g3
        go_upto_region 7 with fail
        obtain ⟨Y1, hY1⟩ : ∃ Y, Y = V.alloc (.cells #[.int .i64 1, .int .i64 (x : Int), .int .i64 (y : Int), .int .i64 (z : Int)] 45) := ⟨_, rfl⟩
        rw [← hY1]
        have hb1 : Blk Y1 V.heap.size 45 #[.int .i64 1, .int .i64 (x : Int), .int .i64 (y : Int), .int .i64 (z : Int)] := by rw [hY1]; exact Blk.new _ _ _
        have hB1 : Below V.heap.size V Y1 := by rw [hY1]; exact (Below.refl _ V).alloc (Nat.le_refl _) _
        obtain ⟨a0, a1, a2, a3⟩ := hb1.four
        have K1 := hide (And.intro hb1 hB1)
        clear hb1 hB1 hY1 g0 g1 g2 g3
        have hpf : patF (n : Int) 3 ((1 : Int), ((x : Int), (y : Int), (z : Int))) = [] := by unfold patF; rw [if_pos (by simp [dirA])]
        have HP := hide hpf
        clear hpf
        go_wp2_with fail
        go_roundw
        case rel =>
          refine ⟨k + 1, by omega, by go_num, ?_, HV.out.2.trans (K1.out.2.mono HV.out.2.size)⟩
          rw [HTK.out, HP.out, List.append_nil]
          exact HV.out.1.on K1.out.2
        case measure => simp [intOf]; omega
      · dsimp only at g0 g1 g2 g3
        go_upto_region 7 with fail
        obtain ⟨Y1, hY1⟩ : ∃ Y, Y = V.alloc (.cells #[.int .i64 2, .int .i64 (x : Int), .int .i64 (y : Int), .int .i64 (z : Int)] 45) := ⟨_, rfl⟩
        rw [← hY1]
        have hb1 : Blk Y1 V.heap.size 45 #[.int .i64 2, .int .i64 (x : Int), .int .i64 (y : Int), .int .i64 (z : Int)] := by rw [hY1]; exact Blk.new _ _ _
        have hB1 : Below V.heap.size V Y1 := by rw [hY1]; exact (Below.refl _ V).alloc (Nat.le_refl _) _
        obtain ⟨a0, a1, a2, a3⟩ := hb1.four
        have K1 := hide (And.intro hb1 hB1)
        clear hb1 hB1 hY1 g0 g1 g2 g3
        go_wp2_with fail
        refine (coords7_any ((2 : Int), ((x : Int), (y : Int), (z : Int))) Y1).mono ?_
        rintro e w5 ⟨rfl, hB5⟩
        have hBV5 := K1.out.2.trans (hB5.mono K1.out.2.size)
        have K5 := hide (And.intro (K1.out.1.on hB5) hBV5)
        clear hB5 hBV5 a0 a1 a2 a3
        go_upto_region 9 with fail
        obtain ⟨Y2, hY2⟩ : ∃ Y, Y = w5.alloc (.cells #[.int .i64 (x : Int), .int .i64 (y : Int), .int .i64 (z : Int)] 42) := ⟨_, rfl⟩
        rw [← hY2]
        have hB : Below w5.heap.size w5 Y2 := by rw [hY2]; exact (Below.refl _ w5).alloc (Nat.le_refl _) _
        have hb2 : Blk Y2 w5.heap.size 42 #[.int .i64 (x : Int), .int .i64 (y : Int), .int .i64 (z : Int)] := by rw [hY2]; exact Blk.new _ _ _
        have hBV2 := K5.out.2.trans (hB.mono K5.out.2.size)
        have h5s := K5.out.2.size
        have hfb : V.heap.size < w5.heap.size := K5.out.1.lt
        have K2 := hide (And.intro (K5.out.1.on hB) (And.intro hb2 (And.intro (HV.out.1.on hBV2) (HV.out.2.trans (hBV2.mono HV.out.2.size)))))
        obtain ⟨b0, b1, b2⟩ := hb2.three
        clear hB hb2 hBV2 hY2 K5 K1
        obtain ⟨cb, hcb⟩ : ∃ cb, cb = w5.heap.size := ⟨_, rfl⟩
        rw [← hcb] at K2 b0 b1 b2 hfb h5s ⊢
        clear hcb
        obtain ⟨mm, hmm⟩ : ∃ mm, mm = n - y := ⟨_, rfl⟩
        have hn8 : n ≤ 8 ∧ s = n + 1 := ⟨by have h1 := H0.out.2.2.2.1; have h2 := H0.out.2.2.2.2.1; omega, H0.out.2.2.2.1⟩
        have hb9 : (x ≤ 9 ∧ y ≤ 9 ∧ z ≤ 9) ∧ mm ≤ 9 := by omega
        have hpf : patF (n : Int) 3 ((2 : Int), ((x : Int), (y : Int), (z : Int))) = rowE 3 ((2 : Int), ((x : Int), (y : Int), (z : Int))) ((y + 1 : Nat) : Int) mm := by
          unfold patF
          rw [if_neg (by simp [dirA])]
          have e1 : lowD 3 ((2 : Int), ((x : Int), (y : Int), (z : Int))) = ((y + 1 : Nat) : Int) := by simp [lowD, dirA, cmp3]
          have e2 : (highD (n : Int) 3 ((2 : Int), ((x : Int), (y : Int), (z : Int))) + 1 - ((y + 1 : Nat) : Int)).toNat = mm := by rw [hmm]; simp [highD] <;> omega
          rw [e1, e2]
        have HP := hide hpf
        have hsn := H0.out.2.2.2.2.2.2.2
        obtain ⟨⟨c1, c2, c3⟩, c4⟩ := hb9
        have HHM := hide hmm
        have HN8 := hide hn8
        have hn8v : n ≤ 8 := hn8.1
        clear hpf hmm hn8
        go_wp2_with fail
        clear hsn b0 b1 b2
        go_loopw [15] (fun xv wr => ∃ (i : Nat) (v : Int), i ≤ mm ∧ xv = .int .i64 ((y + 1 + i : Nat) : Int) ∧ Blk wr cb 42 #[.int .i64 (x : Int), .int .i64 v, .int .i64 (z : Int)] ∧ PatS w wr s V.heap.size cb ((2 : Int), ((x : Int), (y : Int), (z : Int))) (togsE noE (PL ++ rowE 3 ((2 : Int), ((x : Int), (y : Int), (z : Int))) ((y + 1 : Nat) : Int) i)) 1) (fun xv _ => y + 1 + mm - (intOf xv).toNat)
        case atStart => exact ⟨0, (y : Int), by omega, by simp, K2.out.2.1, ⟨by rw [show PL ++ rowE 3 ((2 : Int), ((x : Int), (y : Int), (z : Int))) ((y + 1 : Nat) : Int) 0 = PL from by simp [rowE]]; exact K2.out.2.2.1, K2.out.1, K2.out.2.2.2⟩⟩
        case round =>
          obtain ⟨U, rfl⟩ : ∃ U, U = wr := ⟨_, rfl⟩
          obtain ⟨i, v, hi, rfl, hcb, hP⟩ := hrel
          obtain ⟨xx, hxx⟩ : ∃ xx, xx = y + 1 + i := ⟨_, rfl⟩
          rw [← hxx]
          have hxs : xx ≤ 20 := by omega
          by_cases him : i < mm
          · have q1 : (xx : Int) ≤ (n : Int) := by have h1 := HHM.out; have h2 := HN8.out; omega
            have q1b : (xx : Int) ≤ (s : Int) - 1 := by have h1 := HHM.out; have h2 := HN8.out; omega
            have hxs2 : xx < s := by have h1 := HHM.out; have h2 := HN8.out; omega
            have hall := all_nat7 (n := n) (a := 0) (x := x) (y := xx) (z := z) H0.out.2.2.2.1 (by omega) (by omega) (by omega) (by omega)
            have hat := at7r_any (s := s) (a := 0) (x := x) (y := xx) (z := z) H0.out.2.2.2.2.1 (by omega) (by omega) (by omega) (by omega)
            have hrs := rowE_succ 3 ((2 : Int), ((x : Int), (y : Int), (z : Int))) ((y + 1 : Nat) : Int) i
            rw [show ((3 : Int) - dirA 3 - (((2 : Int), ((x : Int), (y : Int), (z : Int))) : EF).1, set3 (((2 : Int), ((x : Int), (y : Int), (z : Int))) : EF).2 (dirA 3) (((y + 1 : Nat) : Int) + (i : Int))) = ((0 : Int), ((x : Int), (xx : Int), (z : Int))) by rw [hxx]; simp [dirA, set3]] at hrs
            obtain ⟨L1, hL1⟩ : ∃ L1, L1 = PL ++ rowE 3 ((2 : Int), ((x : Int), (y : Int), (z : Int))) ((y + 1 : Nat) : Int) i := ⟨_, rfl⟩
            have hL2 : PL ++ rowE 3 ((2 : Int), ((x : Int), (y : Int), (z : Int))) ((y + 1 : Nat) : Int) (i + 1) = L1 ++ [((0 : Int), ((x : Int), (xx : Int), (z : Int)))] := by rw [hrs, hL1, List.append_assoc]
            rw [← hL1] at hP
            have hjl := (edg_edgN hall).2
            have htg := tabE_tog (togsE noE L1) hall
            have htt := tabE_get (togsE noE L1) hall
            rw [← H0.out.2.2.2.1] at hjl htg htt
            simp only [show ((0 : Nat) : Int) = 0 from rfl] at hat hjl htg htt
            obtain ⟨j, hj⟩ : ∃ j, j = edgN s ((0 : Int), ((x : Int), (xx : Int), (z : Int))) := ⟨_, rfl⟩
            rw [← hj] at hat hjl htg htt
            have hjm : j < m3 := by rw [H0.out.2.2.2.2.2.2.1]; exact hjl
            obtain ⟨bE, hbE⟩ : ∃ b, b = togsE noE L1 ((0 : Int), ((x : Int), (xx : Int), (z : Int))) := ⟨_, rfl⟩
            rw [← hbE] at htg htt
            have HT := hide (And.intro hat (And.intro htg (And.intro htt (And.intro hL2 hxx))))
            have HPS := hide (And.intro hP hcb)
            obtain ⟨b0, b1, b2⟩ := hcb.three
            have z0 := hcb.frozen 1
            have hcbU := hcb.lt
            clear hall hat hrs hL1 hL2 hjl htg htt hj hbE hP hcb hxx hxs2
            go_upto_region 18 with fail
            obtain ⟨T, hT⟩ : ∃ T, T = U.setCell ⟨cb, 1, none⟩ (.int .i64 (xx : Int)) := ⟨_, rfl⟩
            rw [← hT]
            have hcT : Blk T cb 42 #[.int .i64 (x : Int), .int .i64 (xx : Int), .int .i64 (z : Int)] := by rw [hT]; exact HPS.out.2.set_ 1 _
            have hfT : Blk T V.heap.size 45 #[.int .i64 2, .int .i64 (x : Int), .int .i64 (y : Int), .int .i64 (z : Int)] := by rw [hT]; exact HPS.out.1.face.far (p := ⟨cb, 1, none⟩) (by dsimp only; omega) _
            have hrT : RowB T w.heap.size (tabE s (togsE noE L1)) := by rw [hT]; exact HPS.out.1.row.far (p := ⟨cb, 1, none⟩) (by dsimp only; omega) _
            have hbT : Below w.heap.size w T := by rw [hT]; exact HPS.out.1.bel.setCell (by dsimp only; omega) _
            clear b0 b1 b2 z0 hT
            obtain ⟨b0, b1, b2⟩ := hcT.three
            obtain ⟨a0, a1, a2, a3⟩ := hfT.four
            have KT := hide (And.intro hcT (And.intro hfT (And.intro hrT hbT)))
            clear hcT hfT hrT hbT HPS
            go_wp2_with fail
            refine (HT.out.1 T).mono ?_
            rintro e w6 ⟨rfl, hB6⟩
            have hr6 := KT.out.2.2.1.on hB6
            have e1 := hr6.cell HT.out.2.2.1
            have f1 := hr6.frozen j
            have j1 : (j : Int) < (m3 : Int) := by omega
            have K6 := hide (And.intro (KT.out.1.on hB6) (And.intro (KT.out.2.1.on hB6) (And.intro hr6 (KT.out.2.2.2.trans (hB6.mono KT.out.2.2.2.size)))))
            clear hB6 hr6 a0 a1 a2 a3 b0 b1 b2
            go_wp2_with fail
            go_roundw
            case rel =>
              refine ⟨i + 1, (xx : Int), by omega, ?_, K6.out.1.far (p := ⟨w.heap.size, j, none⟩) (by dsimp only; omega) _, ⟨?_, K6.out.2.1.far (p := ⟨w.heap.size, j, none⟩) (by dsimp only; omega) _, K6.out.2.2.2.setCell (Nat.le_refl _) _⟩⟩
              · have h := HT.out.2.2.2.2
                go_num
              · rw [HT.out.2.2.2.1, togsE_snoc, ← HT.out.2.1]
                exact K6.out.2.2.1.set j (!bE)
            case measure => have h := HT.out.2.2.2.2; simp [intOf]; omega
          · obtain rfl : i = mm := by omega
            have q1 : ¬ (xx : Int) ≤ (n : Int) := by have h1 := HHM.out; have h2 := HN8.out; omega
            have q1b : ¬ (xx : Int) ≤ (s : Int) - 1 := by have h1 := HHM.out; have h2 := HN8.out; omega
            have HPS := hide hP
            clear hP hcb hxx
            go_wp2_with fail
            go_roundw
            case rel =>
              refine ⟨k + 1, by omega, by go_num, ?_, HPS.out.bel⟩
              rw [HTK.out, HP.out]
              exact HPS.out.row
            case measure => simp [intOf]; omega
    · have i1 : ¬ (k : Int) < (M : Int) := by omega
      have htk : part.take k = part := List.take_of_length_le (by rw [← H0.out.2.2.1]; omega)
      have hrow := HV.out.1
      rw [htk] at hrow
      obtain ⟨TB, hTB⟩ : ∃ TB, TB = tabE s (patE (n : Int) 3 part) := ⟨_, rfl⟩
      have hrow : RowB V w.heap.size TB := by rw [hTB]; exact hrow
      have HW := hide (And.intro hrow (And.intro HV.out.2 hTB))
      clear hrow htk HV hTB
      go_wp2_with fail
      go_loopw [17, 18] (fun nv iv wr => ∃ i : Nat, i ≤ m3 ∧ iv = .int .i64 i ∧ nv = .int .i64 (((TB.take i).countP id : Nat) : Int) ∧ wr = V) (fun _ iv _ => m3 - (intOf iv).toNat)
      case atStart => exact ⟨0, by omega, rfl, rfl, rfl⟩
      case round =>
        obtain ⟨i, hi, rfl, rfl, rfl⟩ := hrel
        by_cases him : i < m3
        · have j1 : (i : Int) < (m3 : Int) := by omega
          obtain ⟨b, hb⟩ : ∃ b, TB[i]? = some b := ⟨_, List.getElem?_eq_getElem (by rw [HW.out.2.2, tabE_length, ← H0.out.2.2.2.2.2.2.1]; exact him)⟩
          have e1 := HW.out.1.cell hb
          have hct := count_take hb
          have hcl := count_le TB i
          obtain ⟨q, hq⟩ : ∃ q, q = (TB.take i).countP id := ⟨_, rfl⟩
          rw [← hq] at hct hcl ⊢
          have HCT := hide hct
          clear hct hb hq
          cases b with
          | true =>
            go_wp2_with fail
            go_roundw
            case rel => exact ⟨i + 1, by omega, by go_num, by rw [HCT.out]; simp, by trivial⟩
            case measure => simp [intOf]; omega
          | false =>
            go_wp2_with fail
            go_roundw
            case rel => exact ⟨i + 1, by omega, by go_num, by rw [HCT.out]; simp, by trivial⟩
            case measure => simp [intOf]; omega
        · have j1 : ¬ (i : Int) < (m3 : Int) := by omega
          have hct : (TB.take i).countP id = cntE s (patE (n : Int) 3 part) := by
            rw [List.take_of_length_le (by rw [HW.out.2.2, tabE_length, ← H0.out.2.2.2.2.2.2.1]; omega), HW.out.2.2, tabE_count]
          rw [hct]
          go_wp2_with fail
          go_ret2
          exact ⟨m3, rfl, H0.out.2.2.2.2.2.2.1, by rw [← HW.out.2.2]; exact HW.out.1, HW.out.2.1⟩
set_option maxRecDepth 100000 in
set_option maxHeartbeats 32000000 in
theorem patch7r_4 {n s : Nat} (hs : s = n + 1) (hs9 : s ≤ 9) (hs2 : 2 ≤ s) (Ad : Option Addr) (c : Nat) (part : List EF) (w : World) (hsl : Sl encF 4 w w.heap.size Ad part) (hg : ∀ f ∈ part, grdF n f) (hl : part.length ≤ 100000) :
    Calls Try.prog 40 #[.slice Ad part.length c, .int .i64 (s : Int), .int .i64 4] w fun e w' => ∃ m3, e = .returned (.tuple #[.slice (some ⟨w.heap.size, 0, none⟩) m3 m3, .int .i64 (cntE s (patE (n : Int) 4 part) : Nat)]) ∧ m3 = 3 * (s * s * s) ∧ RowB w' w.heap.size (tabE s (patE (n : Int) 4 part)) ∧ Below w.heap.size w w' := by
  obtain ⟨M, hM⟩ : ∃ M, M = part.length := ⟨_, rfl⟩
  rw [← hM] at hl ⊢
  obtain ⟨r1, r2, m3, w1, w2, w3, hm3, hm3b⟩ := tab_nums hs9
  have hmk := mk_bl7 m3 (Nat.le_trans hm3b (by decide))
  obtain ⟨ZN, hZN⟩ : ∃ Z, Z = ((List.replicate m3 false).map Value.bool).toArray := ⟨_, rfl⟩
  rw [← hZN] at hmk
  have hsn : (s : Int) - 1 = (n : Int) := by clear w1 w2 w3; omega
  have H0 := hide (And.intro hsl (And.intro hg (And.intro hM (And.intro hs (And.intro hs9 (And.intro hZN (And.intro hm3 hsn)))))))
  clear hsl hg hM hs hs9 hZN hm3 hsn
  go_enter Try.func40, Try.ntmps40
  go_upto_region 2 with fail
  obtain ⟨X, hX⟩ : ∃ X, X = w.alloc (.cells ZN 4) := ⟨_, rfl⟩
  rw [← hX]
  have hrow : RowB X w.heap.size (tabE s (togsE noE ((part.take 0).flatMap (patF (n : Int) 4)))) := by
    rw [show togsE noE ((part.take 0).flatMap (patF (n : Int) 4)) = noE from rfl, tabE_none, ← H0.out.2.2.2.2.2.2.1, hX, H0.out.2.2.2.2.2.1]
    exact Blk.new _ _ _
  have hBX : Below w.heap.size w X := by rw [hX]; exact (Below.refl _ w).alloc (Nat.le_refl _) _
  have HX := hide (And.intro hrow hBX)
  clear hrow hBX hX hmk w1 w2 w3
  go_wp2_with fail
  go_loopw [10] (fun iv wr => ∃ k : Nat, k ≤ M ∧ iv = .int .i64 k ∧ RowB wr w.heap.size (tabE s (togsE noE ((part.take k).flatMap (patF (n : Int) 4)))) ∧ Below w.heap.size w wr) (fun iv _ => M - (intOf iv).toNat)
  case atStart => exact ⟨0, by omega, rfl, HX.out.1, HX.out.2⟩
  case round =>
    obtain ⟨V, rfl⟩ : ∃ V, V = wr := ⟨_, rfl⟩
    obtain ⟨k, hk, rfl, hrow, hB⟩ := hrel
    have HV := hide (And.intro hrow hB)
    have hgV : w.heap.size < V.heap.size := Blk.lt hrow
    clear hrow hB
    by_cases hkM : k < M
    · have i1 : (k : Int) < (M : Int) := by omega
      obtain ⟨f, hf⟩ : ∃ f, part[k]? = some f := ⟨_, List.getElem?_eq_getElem (by rw [← H0.out.2.2.1]; exact hkM)⟩
      have htk : (part.take (k + 1)).flatMap (patF (n : Int) 4) = (part.take k).flatMap (patF (n : Int) 4) ++ patF (n : Int) 4 f := by rw [List.take_add_one, hf, List.flatMap_append]; simp
      have hgf := H0.out.2.1 f (List.mem_of_getElem? hf)
      obtain ⟨tb, oo, hA, htb, g0, g1, g2, g3⟩ := (H0.out.1.below HV.out.2).four hf
      subst hA
      obtain ⟨PL, hPL⟩ : ∃ PL, PL = (part.take k).flatMap (patF (n : Int) 4) := ⟨_, rfl⟩
      rw [← hPL] at HV htk
      have HTK := hide htk
      clear htk hPL hf
      obtain ⟨x, y, z, hcase⟩ := grd_nat H0.out.2.2.2.1 hgf
      clear hgf
      rcases hcase with ⟨rfl, hx, hy, hz⟩ | ⟨rfl, hx, hy, hz⟩ | ⟨rfl, hx, hy, hz⟩
      · dsimp only at g0 g1 g2 g3
        go_upto_region 7 with fail
        obtain ⟨Y1, hY1⟩ : ∃ Y, Y = V.alloc (.cells #[.int .i64 0, .int .i64 (x : Int), .int .i64 (y : Int), .int .i64 (z : Int)] 45) := ⟨_, rfl⟩
        rw [← hY1]
        have hb1 : Blk Y1 V.heap.size 45 #[.int .i64 0, .int .i64 (x : Int), .int .i64 (y : Int), .int .i64 (z : Int)] := by rw [hY1]; exact Blk.new _ _ _
        have hB1 : Below V.heap.size V Y1 := by rw [hY1]; exact (Below.refl _ V).alloc (Nat.le_refl _) _
        obtain ⟨a0, a1, a2, a3⟩ := hb1.four
        have K1 := hide (And.intro hb1 hB1)
        clear hb1 hB1 hY1 g0 g1 g2 g3
        go_wp2_with fail
        refine (coords7_any ((0 : Int), ((x : Int), (y : Int), (z : Int))) Y1).mono ?_
        rintro e w5 ⟨rfl, hB5⟩
        have hBV5 := K1.out.2.trans (hB5.mono K1.out.2.size)
        have K5 := hide (And.intro (K1.out.1.on hB5) hBV5)
        clear hB5 hBV5 a0 a1 a2 a3
        go_upto_region 9 with fail
        obtain ⟨Y2, hY2⟩ : ∃ Y, Y = w5.alloc (.cells #[.int .i64 (x : Int), .int .i64 (y : Int), .int .i64 (z : Int)] 42) := ⟨_, rfl⟩
        rw [← hY2]
        have hB : Below w5.heap.size w5 Y2 := by rw [hY2]; exact (Below.refl _ w5).alloc (Nat.le_refl _) _
        have hb2 : Blk Y2 w5.heap.size 42 #[.int .i64 (x : Int), .int .i64 (y : Int), .int .i64 (z : Int)] := by rw [hY2]; exact Blk.new _ _ _
        have hBV2 := K5.out.2.trans (hB.mono K5.out.2.size)
        have h5s := K5.out.2.size
        have hfb : V.heap.size < w5.heap.size := K5.out.1.lt
        have K2 := hide (And.intro (K5.out.1.on hB) (And.intro hb2 (And.intro (HV.out.1.on hBV2) (HV.out.2.trans (hBV2.mono HV.out.2.size)))))
        obtain ⟨b0, b1, b2⟩ := hb2.three
        clear hB hb2 hBV2 hY2 K5 K1
        obtain ⟨cb, hcb⟩ : ∃ cb, cb = w5.heap.size := ⟨_, rfl⟩
        rw [← hcb] at K2 b0 b1 b2 hfb h5s ⊢
        clear hcb
        obtain ⟨mm, hmm⟩ : ∃ mm, mm = z + 1 := ⟨_, rfl⟩
        have hn8 : n ≤ 8 ∧ s = n + 1 := ⟨by have h1 := H0.out.2.2.2.1; have h2 := H0.out.2.2.2.2.1; omega, H0.out.2.2.2.1⟩
        have hb9 : (x ≤ 9 ∧ y ≤ 9 ∧ z ≤ 9) ∧ mm ≤ 9 := by omega
        have hpf : patF (n : Int) 4 ((0 : Int), ((x : Int), (y : Int), (z : Int))) = rowE 4 ((0 : Int), ((x : Int), (y : Int), (z : Int))) ((0 : Nat) : Int) mm := by
          unfold patF
          rw [if_neg (by simp [dirA])]
          have e1 : lowD 4 ((0 : Int), ((x : Int), (y : Int), (z : Int))) = ((0 : Nat) : Int) := by simp [lowD]
          have e2 : (highD (n : Int) 4 ((0 : Int), ((x : Int), (y : Int), (z : Int))) + 1 - ((0 : Nat) : Int)).toNat = mm := by rw [hmm]; simp [highD, dirA, cmp3] <;> omega
          rw [e1, e2]
        have HP := hide hpf
        have hsn := H0.out.2.2.2.2.2.2.2
        obtain ⟨⟨c1, c2, c3⟩, c4⟩ := hb9
        have HHM := hide hmm
        have HN8 := hide hn8
        have hn8v : n ≤ 8 := hn8.1
        clear hpf hmm hn8
        go_wp2_with fail
        clear hsn b0 b1 b2
        go_loopw [15] (fun xv wr => ∃ (i : Nat) (v : Int), i ≤ mm ∧ xv = .int .i64 ((0 + i : Nat) : Int) ∧ Blk wr cb 42 #[.int .i64 (x : Int), .int .i64 (y : Int), .int .i64 v] ∧ PatS w wr s V.heap.size cb ((0 : Int), ((x : Int), (y : Int), (z : Int))) (togsE noE (PL ++ rowE 4 ((0 : Int), ((x : Int), (y : Int), (z : Int))) ((0 : Nat) : Int) i)) 2) (fun xv _ => 0 + mm - (intOf xv).toNat)
        case atStart => exact ⟨0, (z : Int), by omega, by simp, K2.out.2.1, ⟨by rw [show PL ++ rowE 4 ((0 : Int), ((x : Int), (y : Int), (z : Int))) ((0 : Nat) : Int) 0 = PL from by simp [rowE]]; exact K2.out.2.2.1, K2.out.1, K2.out.2.2.2⟩⟩
        case round =>
          obtain ⟨U, rfl⟩ : ∃ U, U = wr := ⟨_, rfl⟩
          obtain ⟨i, v, hi, rfl, hcb, hP⟩ := hrel
          obtain ⟨xx, hxx⟩ : ∃ xx, xx = 0 + i := ⟨_, rfl⟩
          rw [← hxx]
          have hxs : xx ≤ 20 := by omega
          by_cases him : i < mm
          · have q1 : (xx : Int) ≤ (z : Int) := by have h1 := HHM.out; have h2 := HN8.out; omega
            have hxs2 : xx < s := by have h1 := HHM.out; have h2 := HN8.out; omega
            have hall := all_nat7 (n := n) (a := 1) (x := x) (y := y) (z := xx) H0.out.2.2.2.1 (by omega) (by omega) (by omega) (by omega)
            have hat := at7r_any (s := s) (a := 1) (x := x) (y := y) (z := xx) H0.out.2.2.2.2.1 (by omega) (by omega) (by omega) (by omega)
            have hrs := rowE_succ 4 ((0 : Int), ((x : Int), (y : Int), (z : Int))) ((0 : Nat) : Int) i
            rw [show ((3 : Int) - dirA 4 - (((0 : Int), ((x : Int), (y : Int), (z : Int))) : EF).1, set3 (((0 : Int), ((x : Int), (y : Int), (z : Int))) : EF).2 (dirA 4) (((0 : Nat) : Int) + (i : Int))) = ((1 : Int), ((x : Int), (y : Int), (xx : Int))) by rw [hxx]; simp [dirA, set3]] at hrs
            obtain ⟨L1, hL1⟩ : ∃ L1, L1 = PL ++ rowE 4 ((0 : Int), ((x : Int), (y : Int), (z : Int))) ((0 : Nat) : Int) i := ⟨_, rfl⟩
            have hL2 : PL ++ rowE 4 ((0 : Int), ((x : Int), (y : Int), (z : Int))) ((0 : Nat) : Int) (i + 1) = L1 ++ [((1 : Int), ((x : Int), (y : Int), (xx : Int)))] := by rw [hrs, hL1, List.append_assoc]
            rw [← hL1] at hP
            have hjl := (edg_edgN hall).2
            have htg := tabE_tog (togsE noE L1) hall
            have htt := tabE_get (togsE noE L1) hall
            rw [← H0.out.2.2.2.1] at hjl htg htt
            simp only [show ((1 : Nat) : Int) = 1 from rfl] at hat hjl htg htt
            obtain ⟨j, hj⟩ : ∃ j, j = edgN s ((1 : Int), ((x : Int), (y : Int), (xx : Int))) := ⟨_, rfl⟩
            rw [← hj] at hat hjl htg htt
            have hjm : j < m3 := by rw [H0.out.2.2.2.2.2.2.1]; exact hjl
            obtain ⟨bE, hbE⟩ : ∃ b, b = togsE noE L1 ((1 : Int), ((x : Int), (y : Int), (xx : Int))) := ⟨_, rfl⟩
            rw [← hbE] at htg htt
            have HT := hide (And.intro hat (And.intro htg (And.intro htt (And.intro hL2 hxx))))
            have HPS := hide (And.intro hP hcb)
            obtain ⟨b0, b1, b2⟩ := hcb.three
            have z0 := hcb.frozen 2
            have hcbU := hcb.lt
            clear hall hat hrs hL1 hL2 hjl htg htt hj hbE hP hcb hxx hxs2
            go_upto_region 18 with fail
            obtain ⟨T, hT⟩ : ∃ T, T = U.setCell ⟨cb, 2, none⟩ (.int .i64 (xx : Int)) := ⟨_, rfl⟩
            rw [← hT]
            have hcT : Blk T cb 42 #[.int .i64 (x : Int), .int .i64 (y : Int), .int .i64 (xx : Int)] := by rw [hT]; exact HPS.out.2.set_ 2 _
            have hfT : Blk T V.heap.size 45 #[.int .i64 0, .int .i64 (x : Int), .int .i64 (y : Int), .int .i64 (z : Int)] := by rw [hT]; exact HPS.out.1.face.far (p := ⟨cb, 2, none⟩) (by dsimp only; omega) _
            have hrT : RowB T w.heap.size (tabE s (togsE noE L1)) := by rw [hT]; exact HPS.out.1.row.far (p := ⟨cb, 2, none⟩) (by dsimp only; omega) _
            have hbT : Below w.heap.size w T := by rw [hT]; exact HPS.out.1.bel.setCell (by dsimp only; omega) _
            clear b0 b1 b2 z0 hT
            obtain ⟨b0, b1, b2⟩ := hcT.three
            obtain ⟨a0, a1, a2, a3⟩ := hfT.four
            have KT := hide (And.intro hcT (And.intro hfT (And.intro hrT hbT)))
            clear hcT hfT hrT hbT HPS
            go_wp2_with fail
            refine (HT.out.1 T).mono ?_
            rintro e w6 ⟨rfl, hB6⟩
            have hr6 := KT.out.2.2.1.on hB6
            have e1 := hr6.cell HT.out.2.2.1
            have f1 := hr6.frozen j
            have j1 : (j : Int) < (m3 : Int) := by omega
            have K6 := hide (And.intro (KT.out.1.on hB6) (And.intro (KT.out.2.1.on hB6) (And.intro hr6 (KT.out.2.2.2.trans (hB6.mono KT.out.2.2.2.size)))))
            clear hB6 hr6 a0 a1 a2 a3 b0 b1 b2
            go_wp2_with fail
            go_roundw
            case rel =>
              refine ⟨i + 1, (xx : Int), by omega, ?_, K6.out.1.far (p := ⟨w.heap.size, j, none⟩) (by dsimp only; omega) _, ⟨?_, K6.out.2.1.far (p := ⟨w.heap.size, j, none⟩) (by dsimp only; omega) _, K6.out.2.2.2.setCell (Nat.le_refl _) _⟩⟩
              · have h := HT.out.2.2.2.2
                go_num
              · rw [HT.out.2.2.2.1, togsE_snoc, ← HT.out.2.1]
                exact K6.out.2.2.1.set j (!bE)
            case measure => have h := HT.out.2.2.2.2; simp [intOf]; omega
          · obtain rfl : i = mm := by omega
            have q1 : ¬ (xx : Int) ≤ (z : Int) := by have h1 := HHM.out; have h2 := HN8.out; omega
            have HPS := hide hP
            clear hP hcb hxx
            go_wp2_with fail
            go_roundw
            case rel =>
              refine ⟨k + 1, by omega, by go_num, ?_, HPS.out.bel⟩
              rw [HTK.out, HP.out]
              exact HPS.out.row
            case measure => simp [intOf]; omega
      · dsimp only at g0 g1 g2 g3
        go_upto_region 7 with fail
        obtain ⟨Y1, hY1⟩ : ∃ Y, Y = V.alloc (.cells #[.int .i64 1, .int .i64 (x : Int), .int .i64 (y : Int), .int .i64 (z : Int)] 45) := ⟨_, rfl⟩
        rw [← hY1]
        have hb1 : Blk Y1 V.heap.size 45 #[.int .i64 1, .int .i64 (x : Int), .int .i64 (y : Int), .int .i64 (z : Int)] := by rw [hY1]; exact Blk.new _ _ _
        have hB1 : Below V.heap.size V Y1 := by rw [hY1]; exact (Below.refl _ V).alloc (Nat.le_refl _) _
        obtain ⟨a0, a1, a2, a3⟩ := hb1.four
        have K1 := hide (And.intro hb1 hB1)
        clear hb1 hB1 hY1 g0 g1 g2 g3
        go_wp2_with fail
        refine (coords7_any ((1 : Int), ((x : Int), (y : Int), (z : Int))) Y1).mono ?_
        rintro e w5 ⟨rfl, hB5⟩
        have hBV5 := K1.out.2.trans (hB5.mono K1.out.2.size)
        have K5 := hide (And.intro (K1.out.1.on hB5) hBV5)
        clear hB5 hBV5 a0 a1 a2 a3
        go_upto_region 9 with fail
        obtain ⟨Y2, hY2⟩ : ∃ Y, Y = w5.alloc (.cells #[.int .i64 (x : Int), .int .i64 (y : Int), .int .i64 (z : Int)] 42) := ⟨_, rfl⟩
        rw [← hY2]
        have hB : Below w5.heap.size w5 Y2 := by rw [hY2]; exact (Below.refl _ w5).alloc (Nat.le_refl _) _
        have hb2 : Blk Y2 w5.heap.size 42 #[.int .i64 (x : Int), .int .i64 (y : Int), .int .i64 (z : Int)] := by rw [hY2]; exact Blk.new _ _ _
        have hBV2 := K5.out.2.trans (hB.mono K5.out.2.size)
        have h5s := K5.out.2.size
        have hfb : V.heap.size < w5.heap.size := K5.out.1.lt
        have K2 := hide (And.intro (K5.out.1.on hB) (And.intro hb2 (And.intro (HV.out.1.on hBV2) (HV.out.2.trans (hBV2.mono HV.out.2.size)))))
        obtain ⟨b0, b1, b2⟩ := hb2.three
        clear hB hb2 hBV2 hY2 K5 K1
        obtain ⟨cb, hcb⟩ : ∃ cb, cb = w5.heap.size := ⟨_, rfl⟩
        rw [← hcb] at K2 b0 b1 b2 hfb h5s ⊢
        clear hcb
        obtain ⟨mm, hmm⟩ : ∃ mm, mm = z + 1 := ⟨_, rfl⟩
        have hn8 : n ≤ 8 ∧ s = n + 1 := ⟨by have h1 := H0.out.2.2.2.1; have h2 := H0.out.2.2.2.2.1; omega, H0.out.2.2.2.1⟩
        have hb9 : (x ≤ 9 ∧ y ≤ 9 ∧ z ≤ 9) ∧ mm ≤ 9 := by omega
        have hpf : patF (n : Int) 4 ((1 : Int), ((x : Int), (y : Int), (z : Int))) = rowE 4 ((1 : Int), ((x : Int), (y : Int), (z : Int))) ((0 : Nat) : Int) mm := by
          unfold patF
          rw [if_neg (by simp [dirA])]
          have e1 : lowD 4 ((1 : Int), ((x : Int), (y : Int), (z : Int))) = ((0 : Nat) : Int) := by simp [lowD]
          have e2 : (highD (n : Int) 4 ((1 : Int), ((x : Int), (y : Int), (z : Int))) + 1 - ((0 : Nat) : Int)).toNat = mm := by rw [hmm]; simp [highD, dirA, cmp3] <;> omega
          rw [e1, e2]
        have HP := hide hpf
        have hsn := H0.out.2.2.2.2.2.2.2
        obtain ⟨⟨c1, c2, c3⟩, c4⟩ := hb9
        have HHM := hide hmm
        have HN8 := hide hn8
        have hn8v : n ≤ 8 := hn8.1
        clear hpf hmm hn8
        go_wp2_with fail
        clear hsn b0 b1 b2
        go_loopw [15] (fun xv wr => ∃ (i : Nat) (v : Int), i ≤ mm ∧ xv = .int .i64 ((0 + i : Nat) : Int) ∧ Blk wr cb 42 #[.int .i64 (x : Int), .int .i64 (y : Int), .int .i64 v] ∧ PatS w wr s V.heap.size cb ((1 : Int), ((x : Int), (y : Int), (z : Int))) (togsE noE (PL ++ rowE 4 ((1 : Int), ((x : Int), (y : Int), (z : Int))) ((0 : Nat) : Int) i)) 2) (fun xv _ => 0 + mm - (intOf xv).toNat)
        case atStart => exact ⟨0, (z : Int), by omega, by simp, K2.out.2.1, ⟨by rw [show PL ++ rowE 4 ((1 : Int), ((x : Int), (y : Int), (z : Int))) ((0 : Nat) : Int) 0 = PL from by simp [rowE]]; exact K2.out.2.2.1, K2.out.1, K2.out.2.2.2⟩⟩
        case round =>
          obtain ⟨U, rfl⟩ : ∃ U, U = wr := ⟨_, rfl⟩
          obtain ⟨i, v, hi, rfl, hcb, hP⟩ := hrel
          obtain ⟨xx, hxx⟩ : ∃ xx, xx = 0 + i := ⟨_, rfl⟩
          rw [← hxx]
          have hxs : xx ≤ 20 := by omega
          by_cases him : i < mm
          · have q1 : (xx : Int) ≤ (z : Int) := by have h1 := HHM.out; have h2 := HN8.out; omega
            have hxs2 : xx < s := by have h1 := HHM.out; have h2 := HN8.out; omega
            have hall := all_nat7 (n := n) (a := 0) (x := x) (y := y) (z := xx) H0.out.2.2.2.1 (by omega) (by omega) (by omega) (by omega)
            have hat := at7r_any (s := s) (a := 0) (x := x) (y := y) (z := xx) H0.out.2.2.2.2.1 (by omega) (by omega) (by omega) (by omega)
            have hrs := rowE_succ 4 ((1 : Int), ((x : Int), (y : Int), (z : Int))) ((0 : Nat) : Int) i
            rw [show ((3 : Int) - dirA 4 - (((1 : Int), ((x : Int), (y : Int), (z : Int))) : EF).1, set3 (((1 : Int), ((x : Int), (y : Int), (z : Int))) : EF).2 (dirA 4) (((0 : Nat) : Int) + (i : Int))) = ((0 : Int), ((x : Int), (y : Int), (xx : Int))) by rw [hxx]; simp [dirA, set3]] at hrs
            obtain ⟨L1, hL1⟩ : ∃ L1, L1 = PL ++ rowE 4 ((1 : Int), ((x : Int), (y : Int), (z : Int))) ((0 : Nat) : Int) i := ⟨_, rfl⟩
            have hL2 : PL ++ rowE 4 ((1 : Int), ((x : Int), (y : Int), (z : Int))) ((0 : Nat) : Int) (i + 1) = L1 ++ [((0 : Int), ((x : Int), (y : Int), (xx : Int)))] := by rw [hrs, hL1, List.append_assoc]
            rw [← hL1] at hP
            have hjl := (edg_edgN hall).2
            have htg := tabE_tog (togsE noE L1) hall
            have htt := tabE_get (togsE noE L1) hall
            rw [← H0.out.2.2.2.1] at hjl htg htt
            simp only [show ((0 : Nat) : Int) = 0 from rfl] at hat hjl htg htt
            obtain ⟨j, hj⟩ : ∃ j, j = edgN s ((0 : Int), ((x : Int), (y : Int), (xx : Int))) := ⟨_, rfl⟩
            rw [← hj] at hat hjl htg htt
            have hjm : j < m3 := by rw [H0.out.2.2.2.2.2.2.1]; exact hjl
            obtain ⟨bE, hbE⟩ : ∃ b, b = togsE noE L1 ((0 : Int), ((x : Int), (y : Int), (xx : Int))) := ⟨_, rfl⟩
            rw [← hbE] at htg htt
            have HT := hide (And.intro hat (And.intro htg (And.intro htt (And.intro hL2 hxx))))
            have HPS := hide (And.intro hP hcb)
            obtain ⟨b0, b1, b2⟩ := hcb.three
            have z0 := hcb.frozen 2
            have hcbU := hcb.lt
            clear hall hat hrs hL1 hL2 hjl htg htt hj hbE hP hcb hxx hxs2
            go_upto_region 18 with fail
            obtain ⟨T, hT⟩ : ∃ T, T = U.setCell ⟨cb, 2, none⟩ (.int .i64 (xx : Int)) := ⟨_, rfl⟩
            rw [← hT]
            have hcT : Blk T cb 42 #[.int .i64 (x : Int), .int .i64 (y : Int), .int .i64 (xx : Int)] := by rw [hT]; exact HPS.out.2.set_ 2 _
            have hfT : Blk T V.heap.size 45 #[.int .i64 1, .int .i64 (x : Int), .int .i64 (y : Int), .int .i64 (z : Int)] := by rw [hT]; exact HPS.out.1.face.far (p := ⟨cb, 2, none⟩) (by dsimp only; omega) _
            have hrT : RowB T w.heap.size (tabE s (togsE noE L1)) := by rw [hT]; exact HPS.out.1.row.far (p := ⟨cb, 2, none⟩) (by dsimp only; omega) _
            have hbT : Below w.heap.size w T := by rw [hT]; exact HPS.out.1.bel.setCell (by dsimp only; omega) _
            clear b0 b1 b2 z0 hT
            obtain ⟨b0, b1, b2⟩ := hcT.three
            obtain ⟨a0, a1, a2, a3⟩ := hfT.four
            have KT := hide (And.intro hcT (And.intro hfT (And.intro hrT hbT)))
            clear hcT hfT hrT hbT HPS
            go_wp2_with fail
            refine (HT.out.1 T).mono ?_
            rintro e w6 ⟨rfl, hB6⟩
            have hr6 := KT.out.2.2.1.on hB6
            have e1 := hr6.cell HT.out.2.2.1
            have f1 := hr6.frozen j
            have j1 : (j : Int) < (m3 : Int) := by omega
            have K6 := hide (And.intro (KT.out.1.on hB6) (And.intro (KT.out.2.1.on hB6) (And.intro hr6 (KT.out.2.2.2.trans (hB6.mono KT.out.2.2.2.size)))))
            clear hB6 hr6 a0 a1 a2 a3 b0 b1 b2
            go_wp2_with fail
            go_roundw
            case rel =>
              refine ⟨i + 1, (xx : Int), by omega, ?_, K6.out.1.far (p := ⟨w.heap.size, j, none⟩) (by dsimp only; omega) _, ⟨?_, K6.out.2.1.far (p := ⟨w.heap.size, j, none⟩) (by dsimp only; omega) _, K6.out.2.2.2.setCell (Nat.le_refl _) _⟩⟩
              · have h := HT.out.2.2.2.2
                go_num
              · rw [HT.out.2.2.2.1, togsE_snoc, ← HT.out.2.1]
                exact K6.out.2.2.1.set j (!bE)
            case measure => have h := HT.out.2.2.2.2; simp [intOf]; omega
          · obtain rfl : i = mm := by omega
            have q1 : ¬ (xx : Int) ≤ (z : Int) := by have h1 := HHM.out; have h2 := HN8.out; omega
            have HPS := hide hP
            clear hP hcb hxx
            go_wp2_with fail
            go_roundw
            case rel =>
              refine ⟨k + 1, by omega, by go_num, ?_, HPS.out.bel⟩
              rw [HTK.out, HP.out]
              exact HPS.out.row
            case measure => simp [intOf]; omega
      · dsimp only at g0 g1 g2 g3
        go_upto_region 7 with fail
        obtain ⟨Y1, hY1⟩ : ∃ Y, Y = V.alloc (.cells #[.int .i64 2, .int .i64 (x : Int), .int .i64 (y : Int), .int .i64 (z : Int)] 45) := ⟨_, rfl⟩
        rw [← hY1]
        have hb1 : Blk Y1 V.heap.size 45 #[.int .i64 2, .int .i64 (x : Int), .int .i64 (y : Int), .int .i64 (z : Int)] := by rw [hY1]; exact Blk.new _ _ _
        have hB1 : Below V.heap.size V Y1 := by rw [hY1]; exact (Below.refl _ V).alloc (Nat.le_refl _) _
        obtain ⟨a0, a1, a2, a3⟩ := hb1.four
        have K1 := hide (And.intro hb1 hB1)
        clear hb1 hB1 hY1 g0 g1 g2 g3
        have hpf : patF (n : Int) 4 ((2 : Int), ((x : Int), (y : Int), (z : Int))) = [] := by unfold patF; rw [if_pos (by simp [dirA])]
        have HP := hide hpf
        clear hpf
        go_wp2_with fail
        go_roundw
        case rel =>
          refine ⟨k + 1, by omega, by go_num, ?_, HV.out.2.trans (K1.out.2.mono HV.out.2.size)⟩
          rw [HTK.out, HP.out, List.append_nil]
          exact HV.out.1.on K1.out.2
        case measure => simp [intOf]; omega
    · have i1 : ¬ (k : Int) < (M : Int) := by omega
      have htk : part.take k = part := List.take_of_length_le (by rw [← H0.out.2.2.1]; omega)
      have hrow := HV.out.1
      rw [htk] at hrow
      obtain ⟨TB, hTB⟩ : ∃ TB, TB = tabE s (patE (n : Int) 4 part) := ⟨_, rfl⟩
      have hrow : RowB V w.heap.size TB := by rw [hTB]; exact hrow
      have HW := hide (And.intro hrow (And.intro HV.out.2 hTB))
      clear hrow htk HV hTB
      go_wp2_with fail
      go_loopw [17, 18] (fun nv iv wr => ∃ i : Nat, i ≤ m3 ∧ iv = .int .i64 i ∧ nv = .int .i64 (((TB.take i).countP id : Nat) : Int) ∧ wr = V) (fun _ iv _ => m3 - (intOf iv).toNat)
      case atStart => exact ⟨0, by omega, rfl, rfl, rfl⟩
      case round =>
        obtain ⟨i, hi, rfl, rfl, rfl⟩ := hrel
        by_cases him : i < m3
        · have j1 : (i : Int) < (m3 : Int) := by omega
          obtain ⟨b, hb⟩ : ∃ b, TB[i]? = some b := ⟨_, List.getElem?_eq_getElem (by rw [HW.out.2.2, tabE_length, ← H0.out.2.2.2.2.2.2.1]; exact him)⟩
          have e1 := HW.out.1.cell hb
          have hct := count_take hb
          have hcl := count_le TB i
          obtain ⟨q, hq⟩ : ∃ q, q = (TB.take i).countP id := ⟨_, rfl⟩
          rw [← hq] at hct hcl ⊢
          have HCT := hide hct
          clear hct hb hq
          cases b with
          | true =>
            go_wp2_with fail
            go_roundw
            case rel => exact ⟨i + 1, by omega, by go_num, by rw [HCT.out]; simp, by trivial⟩
            case measure => simp [intOf]; omega
          | false =>
            go_wp2_with fail
            go_roundw
            case rel => exact ⟨i + 1, by omega, by go_num, by rw [HCT.out]; simp, by trivial⟩
            case measure => simp [intOf]; omega
        · have j1 : ¬ (i : Int) < (m3 : Int) := by omega
          have hct : (TB.take i).countP id = cntE s (patE (n : Int) 4 part) := by
            rw [List.take_of_length_le (by rw [HW.out.2.2, tabE_length, ← H0.out.2.2.2.2.2.2.1]; omega), HW.out.2.2, tabE_count]
          rw [hct]
          go_wp2_with fail
          go_ret2
          exact ⟨m3, rfl, H0.out.2.2.2.2.2.2.1, by rw [← HW.out.2.2]; exact HW.out.1, HW.out.2.1⟩
set_option maxRecDepth 100000 in
set_option maxHeartbeats 32000000 in
theorem patch7r_5 {n s : Nat} (hs : s = n + 1) (hs9 : s ≤ 9) (hs2 : 2 ≤ s) (Ad : Option Addr) (c : Nat) (part : List EF) (w : World) (hsl : Sl encF 4 w w.heap.size Ad part) (hg : ∀ f ∈ part, grdF n f) (hl : part.length ≤ 100000) :
    Calls Try.prog 40 #[.slice Ad part.length c, .int .i64 (s : Int), .int .i64 5] w fun e w' => ∃ m3, e = .returned (.tuple #[.slice (some ⟨w.heap.size, 0, none⟩) m3 m3, .int .i64 (cntE s (patE (n : Int) 5 part) : Nat)]) ∧ m3 = 3 * (s * s * s) ∧ RowB w' w.heap.size (tabE s (patE (n : Int) 5 part)) ∧ Below w.heap.size w w' := by
  obtain ⟨M, hM⟩ : ∃ M, M = part.length := ⟨_, rfl⟩
  rw [← hM] at hl ⊢
  obtain ⟨r1, r2, m3, w1, w2, w3, hm3, hm3b⟩ := tab_nums hs9
  have hmk := mk_bl7 m3 (Nat.le_trans hm3b (by decide))
  obtain ⟨ZN, hZN⟩ : ∃ Z, Z = ((List.replicate m3 false).map Value.bool).toArray := ⟨_, rfl⟩
  rw [← hZN] at hmk
  have hsn : (s : Int) - 1 = (n : Int) := by clear w1 w2 w3; omega
  have H0 := hide (And.intro hsl (And.intro hg (And.intro hM (And.intro hs (And.intro hs9 (And.intro hZN (And.intro hm3 hsn)))))))
  clear hsl hg hM hs hs9 hZN hm3 hsn
  go_enter Try.func40, Try.ntmps40
  go_upto_region 2 with fail
  obtain ⟨X, hX⟩ : ∃ X, X = w.alloc (.cells ZN 4) := ⟨_, rfl⟩
  rw [← hX]
  have hrow : RowB X w.heap.size (tabE s (togsE noE ((part.take 0).flatMap (patF (n : Int) 5)))) := by
    rw [show togsE noE ((part.take 0).flatMap (patF (n : Int) 5)) = noE from rfl, tabE_none, ← H0.out.2.2.2.2.2.2.1, hX, H0.out.2.2.2.2.2.1]
    exact Blk.new _ _ _
  have hBX : Below w.heap.size w X := by rw [hX]; exact (Below.refl _ w).alloc (Nat.le_refl _) _
  have HX := hide (And.intro hrow hBX)
  clear hrow hBX hX hmk w1 w2 w3
  go_wp2_with fail
  go_loopw [10] (fun iv wr => ∃ k : Nat, k ≤ M ∧ iv = .int .i64 k ∧ RowB wr w.heap.size (tabE s (togsE noE ((part.take k).flatMap (patF (n : Int) 5)))) ∧ Below w.heap.size w wr) (fun iv _ => M - (intOf iv).toNat)
  case atStart => exact ⟨0, by omega, rfl, HX.out.1, HX.out.2⟩
  case round =>
    obtain ⟨V, rfl⟩ : ∃ V, V = wr := ⟨_, rfl⟩
    obtain ⟨k, hk, rfl, hrow, hB⟩ := hrel
    have HV := hide (And.intro hrow hB)
    have hgV : w.heap.size < V.heap.size := Blk.lt hrow
    clear hrow hB
    by_cases hkM : k < M
    · have i1 : (k : Int) < (M : Int) := by omega
      obtain ⟨f, hf⟩ : ∃ f, part[k]? = some f := ⟨_, List.getElem?_eq_getElem (by rw [← H0.out.2.2.1]; exact hkM)⟩
      have htk : (part.take (k + 1)).flatMap (patF (n : Int) 5) = (part.take k).flatMap (patF (n : Int) 5) ++ patF (n : Int) 5 f := by rw [List.take_add_one, hf, List.flatMap_append]; simp
      have hgf := H0.out.2.1 f (List.mem_of_getElem? hf)
      obtain ⟨tb, oo, hA, htb, g0, g1, g2, g3⟩ := (H0.out.1.below HV.out.2).four hf
      subst hA
      obtain ⟨PL, hPL⟩ : ∃ PL, PL = (part.take k).flatMap (patF (n : Int) 5) := ⟨_, rfl⟩
      rw [← hPL] at HV htk
      have HTK := hide htk
      clear htk hPL hf
      obtain ⟨x, y, z, hcase⟩ := grd_nat H0.out.2.2.2.1 hgf
      clear hgf
      rcases hcase with ⟨rfl, hx, hy, hz⟩ | ⟨rfl, hx, hy, hz⟩ | ⟨rfl, hx, hy, hz⟩
      · dsimp only at g0 g1 g2 g3
        go_upto_region 7 with fail
        obtain ⟨Y1, hY1⟩ : ∃ Y, Y = V.alloc (.cells #[.int .i64 0, .int .i64 (x : Int), .int .i64 (y : Int), .int .i64 (z : Int)] 45) := ⟨_, rfl⟩
        rw [← hY1]
        have hb1 : Blk Y1 V.heap.size 45 #[.int .i64 0, .int .i64 (x : Int), .int .i64 (y : Int), .int .i64 (z : Int)] := by rw [hY1]; exact Blk.new _ _ _
        have hB1 : Below V.heap.size V Y1 := by rw [hY1]; exact (Below.refl _ V).alloc (Nat.le_refl _) _
        obtain ⟨a0, a1, a2, a3⟩ := hb1.four
        have K1 := hide (And.intro hb1 hB1)
        clear hb1 hB1 hY1 g0 g1 g2 g3
        go_wp2_with fail
        refine (coords7_any ((0 : Int), ((x : Int), (y : Int), (z : Int))) Y1).mono ?_
        rintro e w5 ⟨rfl, hB5⟩
        have hBV5 := K1.out.2.trans (hB5.mono K1.out.2.size)
        have K5 := hide (And.intro (K1.out.1.on hB5) hBV5)
        clear hB5 hBV5 a0 a1 a2 a3
        go_upto_region 9 with fail
        obtain ⟨Y2, hY2⟩ : ∃ Y, Y = w5.alloc (.cells #[.int .i64 (x : Int), .int .i64 (y : Int), .int .i64 (z : Int)] 42) := ⟨_, rfl⟩
        rw [← hY2]
        have hB : Below w5.heap.size w5 Y2 := by rw [hY2]; exact (Below.refl _ w5).alloc (Nat.le_refl _) _
        have hb2 : Blk Y2 w5.heap.size 42 #[.int .i64 (x : Int), .int .i64 (y : Int), .int .i64 (z : Int)] := by rw [hY2]; exact Blk.new _ _ _
        have hBV2 := K5.out.2.trans (hB.mono K5.out.2.size)
        have h5s := K5.out.2.size
        have hfb : V.heap.size < w5.heap.size := K5.out.1.lt
        have K2 := hide (And.intro (K5.out.1.on hB) (And.intro hb2 (And.intro (HV.out.1.on hBV2) (HV.out.2.trans (hBV2.mono HV.out.2.size)))))
        obtain ⟨b0, b1, b2⟩ := hb2.three
        clear hB hb2 hBV2 hY2 K5 K1
        obtain ⟨cb, hcb⟩ : ∃ cb, cb = w5.heap.size := ⟨_, rfl⟩
        rw [← hcb] at K2 b0 b1 b2 hfb h5s ⊢
        clear hcb
        obtain ⟨mm, hmm⟩ : ∃ mm, mm = n - z := ⟨_, rfl⟩
        have hn8 : n ≤ 8 ∧ s = n + 1 := ⟨by have h1 := H0.out.2.2.2.1; have h2 := H0.out.2.2.2.2.1; omega, H0.out.2.2.2.1⟩
        have hb9 : (x ≤ 9 ∧ y ≤ 9 ∧ z ≤ 9) ∧ mm ≤ 9 := by omega
        have hpf : patF (n : Int) 5 ((0 : Int), ((x : Int), (y : Int), (z : Int))) = rowE 5 ((0 : Int), ((x : Int), (y : Int), (z : Int))) ((z + 1 : Nat) : Int) mm := by
          unfold patF
          rw [if_neg (by simp [dirA])]
          have e1 : lowD 5 ((0 : Int), ((x : Int), (y : Int), (z : Int))) = ((z + 1 : Nat) : Int) := by simp [lowD, dirA, cmp3]
          have e2 : (highD (n : Int) 5 ((0 : Int), ((x : Int), (y : Int), (z : Int))) + 1 - ((z + 1 : Nat) : Int)).toNat = mm := by rw [hmm]; simp [highD] <;> omega
          rw [e1, e2]
        have HP := hide hpf
        have hsn := H0.out.2.2.2.2.2.2.2
        obtain ⟨⟨c1, c2, c3⟩, c4⟩ := hb9
        have HHM := hide hmm
        have HN8 := hide hn8
        have hn8v : n ≤ 8 := hn8.1
        clear hpf hmm hn8
        go_wp2_with fail
        clear hsn b0 b1 b2
        go_loopw [15] (fun xv wr => ∃ (i : Nat) (v : Int), i ≤ mm ∧ xv = .int .i64 ((z + 1 + i : Nat) : Int) ∧ Blk wr cb 42 #[.int .i64 (x : Int), .int .i64 (y : Int), .int .i64 v] ∧ PatS w wr s V.heap.size cb ((0 : Int), ((x : Int), (y : Int), (z : Int))) (togsE noE (PL ++ rowE 5 ((0 : Int), ((x : Int), (y : Int), (z : Int))) ((z + 1 : Nat) : Int) i)) 2) (fun xv _ => z + 1 + mm - (intOf xv).toNat)
        case atStart => exact ⟨0, (z : Int), by omega, by simp, K2.out.2.1, ⟨by rw [show PL ++ rowE 5 ((0 : Int), ((x : Int), (y : Int), (z : Int))) ((z + 1 : Nat) : Int) 0 = PL from by simp [rowE]]; exact K2.out.2.2.1, K2.out.1, K2.out.2.2.2⟩⟩
        case round =>
          obtain ⟨U, rfl⟩ : ∃ U, U = wr := ⟨_, rfl⟩
          obtain ⟨i, v, hi, rfl, hcb, hP⟩ := hrel
          obtain ⟨xx, hxx⟩ : ∃ xx, xx = z + 1 + i := ⟨_, rfl⟩
          rw [← hxx]
          have hxs : xx ≤ 20 := by omega
          by_cases him : i < mm
          · have q1 : (xx : Int) ≤ (n : Int) := by have h1 := HHM.out; have h2 := HN8.out; omega
            have q1b : (xx : Int) ≤ (s : Int) - 1 := by have h1 := HHM.out; have h2 := HN8.out; omega
            have hxs2 : xx < s := by have h1 := HHM.out; have h2 := HN8.out; omega
            have hall := all_nat7 (n := n) (a := 1) (x := x) (y := y) (z := xx) H0.out.2.2.2.1 (by omega) (by omega) (by omega) (by omega)
            have hat := at7r_any (s := s) (a := 1) (x := x) (y := y) (z := xx) H0.out.2.2.2.2.1 (by omega) (by omega) (by omega) (by omega)
            have hrs := rowE_succ 5 ((0 : Int), ((x : Int), (y : Int), (z : Int))) ((z + 1 : Nat) : Int) i
            rw [show ((3 : Int) - dirA 5 - (((0 : Int), ((x : Int), (y : Int), (z : Int))) : EF).1, set3 (((0 : Int), ((x : Int), (y : Int), (z : Int))) : EF).2 (dirA 5) (((z + 1 : Nat) : Int) + (i : Int))) = ((1 : Int), ((x : Int), (y : Int), (xx : Int))) by rw [hxx]; simp [dirA, set3]] at hrs
            obtain ⟨L1, hL1⟩ : ∃ L1, L1 = PL ++ rowE 5 ((0 : Int), ((x : Int), (y : Int), (z : Int))) ((z + 1 : Nat) : Int) i := ⟨_, rfl⟩
            have hL2 : PL ++ rowE 5 ((0 : Int), ((x : Int), (y : Int), (z : Int))) ((z + 1 : Nat) : Int) (i + 1) = L1 ++ [((1 : Int), ((x : Int), (y : Int), (xx : Int)))] := by rw [hrs, hL1, List.append_assoc]
            rw [← hL1] at hP
            have hjl := (edg_edgN hall).2
            have htg := tabE_tog (togsE noE L1) hall
            have htt := tabE_get (togsE noE L1) hall
            rw [← H0.out.2.2.2.1] at hjl htg htt
            simp only [show ((1 : Nat) : Int) = 1 from rfl] at hat hjl htg htt
            obtain ⟨j, hj⟩ : ∃ j, j = edgN s ((1 : Int), ((x : Int), (y : Int), (xx : Int))) := ⟨_, rfl⟩
            rw [← hj] at hat hjl htg htt
            have hjm : j < m3 := by rw [H0.out.2.2.2.2.2.2.1]; exact hjl
            obtain ⟨bE, hbE⟩ : ∃ b, b = togsE noE L1 ((1 : Int), ((x : Int), (y : Int), (xx : Int))) := ⟨_, rfl⟩
            rw [← hbE] at htg htt
            have HT := hide (And.intro hat (And.intro htg (And.intro htt (And.intro hL2 hxx))))
            have HPS := hide (And.intro hP hcb)
            obtain ⟨b0, b1, b2⟩ := hcb.three
            have z0 := hcb.frozen 2
            have hcbU := hcb.lt
            clear hall hat hrs hL1 hL2 hjl htg htt hj hbE hP hcb hxx hxs2
            go_upto_region 18 with fail
            obtain ⟨T, hT⟩ : ∃ T, T = U.setCell ⟨cb, 2, none⟩ (.int .i64 (xx : Int)) := ⟨_, rfl⟩
            rw [← hT]
            have hcT : Blk T cb 42 #[.int .i64 (x : Int), .int .i64 (y : Int), .int .i64 (xx : Int)] := by rw [hT]; exact HPS.out.2.set_ 2 _
            have hfT : Blk T V.heap.size 45 #[.int .i64 0, .int .i64 (x : Int), .int .i64 (y : Int), .int .i64 (z : Int)] := by rw [hT]; exact HPS.out.1.face.far (p := ⟨cb, 2, none⟩) (by dsimp only; omega) _
            have hrT : RowB T w.heap.size (tabE s (togsE noE L1)) := by rw [hT]; exact HPS.out.1.row.far (p := ⟨cb, 2, none⟩) (by dsimp only; omega) _
            have hbT : Below w.heap.size w T := by rw [hT]; exact HPS.out.1.bel.setCell (by dsimp only; omega) _
            clear b0 b1 b2 z0 hT
            obtain ⟨b0, b1, b2⟩ := hcT.three
            obtain ⟨a0, a1, a2, a3⟩ := hfT.four
            have KT := hide (And.intro hcT (And.intro hfT (And.intro hrT hbT)))
            clear hcT hfT hrT hbT HPS
            go_wp2_with fail
            refine (HT.out.1 T).mono ?_
            rintro e w6 ⟨rfl, hB6⟩
            have hr6 := KT.out.2.2.1.on hB6
            have e1 := hr6.cell HT.out.2.2.1
            have f1 := hr6.frozen j
            have j1 : (j : Int) < (m3 : Int) := by omega
            have K6 := hide (And.intro (KT.out.1.on hB6) (And.intro (KT.out.2.1.on hB6) (And.intro hr6 (KT.out.2.2.2.trans (hB6.mono KT.out.2.2.2.size)))))
            clear hB6 hr6 a0 a1 a2 a3 b0 b1 b2
            go_wp2_with fail
            go_roundw
            case rel =>
              refine ⟨i + 1, (xx : Int), by omega, ?_, K6.out.1.far (p := ⟨w.heap.size, j, none⟩) (by dsimp only; omega) _, ⟨?_, K6.out.2.1.far (p := ⟨w.heap.size, j, none⟩) (by dsimp only; omega) _, K6.out.2.2.2.setCell (Nat.le_refl _) _⟩⟩
              · have h := HT.out.2.2.2.2
                go_num
              · rw [HT.out.2.2.2.1, togsE_snoc, ← HT.out.2.1]
                exact K6.out.2.2.1.set j (!bE)
            case measure => have h := HT.out.2.2.2.2; simp [intOf]; omega
          · obtain rfl : i = mm := by omega
            have q1 : ¬ (xx : Int) ≤ (n : Int) := by have h1 := HHM.out; have h2 := HN8.out; omega
            have q1b : ¬ (xx : Int) ≤ (s : Int) - 1 := by have h1 := HHM.out; have h2 := HN8.out; omega
            have HPS := hide hP
            clear hP hcb hxx
            go_wp2_with fail
            go_roundw
            case rel =>
              refine ⟨k + 1, by omega, by go_num, ?_, HPS.out.bel⟩
              rw [HTK.out, HP.out]
              exact HPS.out.row
            case measure => simp [intOf]; omega
      · dsimp only at g0 g1 g2 g3
        go_upto_region 7 with fail
        obtain ⟨Y1, hY1⟩ : ∃ Y, Y = V.alloc (.cells #[.int .i64 1, .int .i64 (x : Int), .int .i64 (y : Int), .int .i64 (z : Int)] 45) := ⟨_, rfl⟩
        rw [← hY1]
        have hb1 : Blk Y1 V.heap.size 45 #[.int .i64 1, .int .i64 (x : Int), .int .i64 (y : Int), .int .i64 (z : Int)] := by rw [hY1]; exact Blk.new _ _ _
        have hB1 : Below V.heap.size V Y1 := by rw [hY1]; exact (Below.refl _ V).alloc (Nat.le_refl _) _
        obtain ⟨a0, a1, a2, a3⟩ := hb1.four
        have K1 := hide (And.intro hb1 hB1)
        clear hb1 hB1 hY1 g0 g1 g2 g3
        go_wp2_with fail
        refine (coords7_any ((1 : Int), ((x : Int), (y : Int), (z : Int))) Y1).mono ?_
        rintro e w5 ⟨rfl, hB5⟩
        have hBV5 := K1.out.2.trans (hB5.mono K1.out.2.size)
        have K5 := hide (And.intro (K1.out.1.on hB5) hBV5)
        clear hB5 hBV5 a0 a1 a2 a3
        go_upto_region 9 with fail
        obtain ⟨Y2, hY2⟩ : ∃ Y, Y = w5.alloc (.cells #[.int .i64 (x : Int), .int .i64 (y : Int), .int .i64 (z : Int)] 42) := ⟨_, rfl⟩
        rw [← hY2]
        have hB : Below w5.heap.size w5 Y2 := by rw [hY2]; exact (Below.refl _ w5).alloc (Nat.le_refl _) _
        have hb2 : Blk Y2 w5.heap.size 42 #[.int .i64 (x : Int), .int .i64 (y : Int), .int .i64 (z : Int)] := by rw [hY2]; exact Blk.new _ _ _
        have hBV2 := K5.out.2.trans (hB.mono K5.out.2.size)
        have h5s := K5.out.2.size
        have hfb : V.heap.size < w5.heap.size := K5.out.1.lt
        have K2 := hide (And.intro (K5.out.1.on hB) (And.intro hb2 (And.intro (HV.out.1.on hBV2) (HV.out.2.trans (hBV2.mono HV.out.2.size)))))
        obtain ⟨b0, b1, b2⟩ := hb2.three
        clear hB hb2 hBV2 hY2 K5 K1
        obtain ⟨cb, hcb⟩ : ∃ cb, cb = w5.heap.size := ⟨_, rfl⟩
        rw [← hcb] at K2 b0 b1 b2 hfb h5s ⊢
        clear hcb
        obtain ⟨mm, hmm⟩ : ∃ mm, mm = n - z := ⟨_, rfl⟩
        have hn8 : n ≤ 8 ∧ s = n + 1 := ⟨by have h1 := H0.out.2.2.2.1; have h2 := H0.out.2.2.2.2.1; omega, H0.out.2.2.2.1⟩
        have hb9 : (x ≤ 9 ∧ y ≤ 9 ∧ z ≤ 9) ∧ mm ≤ 9 := by omega
        have hpf : patF (n : Int) 5 ((1 : Int), ((x : Int), (y : Int), (z : Int))) = rowE 5 ((1 : Int), ((x : Int), (y : Int), (z : Int))) ((z + 1 : Nat) : Int) mm := by
          unfold patF
          rw [if_neg (by simp [dirA])]
          have e1 : lowD 5 ((1 : Int), ((x : Int), (y : Int), (z : Int))) = ((z + 1 : Nat) : Int) := by simp [lowD, dirA, cmp3]
          have e2 : (highD (n : Int) 5 ((1 : Int), ((x : Int), (y : Int), (z : Int))) + 1 - ((z + 1 : Nat) : Int)).toNat = mm := by rw [hmm]; simp [highD] <;> omega
          rw [e1, e2]
        have HP := hide hpf
        have hsn := H0.out.2.2.2.2.2.2.2
        obtain ⟨⟨c1, c2, c3⟩, c4⟩ := hb9
        have HHM := hide hmm
        have HN8 := hide hn8
        have hn8v : n ≤ 8 := hn8.1
        clear hpf hmm hn8
        go_wp2_with fail
        clear hsn b0 b1 b2
        go_loopw [15] (fun xv wr => ∃ (i : Nat) (v : Int), i ≤ mm ∧ xv = .int .i64 ((z + 1 + i : Nat) : Int) ∧ Blk wr cb 42 #[.int .i64 (x : Int), .int .i64 (y : Int), .int .i64 v] ∧ PatS w wr s V.heap.size cb ((1 : Int), ((x : Int), (y : Int), (z : Int))) (togsE noE (PL ++ rowE 5 ((1 : Int), ((x : Int), (y : Int), (z : Int))) ((z + 1 : Nat) : Int) i)) 2) (fun xv _ => z + 1 + mm - (intOf xv).toNat)
        case atStart => exact ⟨0, (z : Int), by omega, by simp, K2.out.2.1, ⟨by rw [show PL ++ rowE 5 ((1 : Int), ((x : Int), (y : Int), (z : Int))) ((z + 1 : Nat) : Int) 0 = PL from by simp [rowE]]; exact K2.out.2.2.1, K2.out.1, K2.out.2.2.2⟩⟩
        case round =>
          obtain ⟨U, rfl⟩ : ∃ U, U = wr := ⟨_, rfl⟩
          obtain ⟨i, v, hi, rfl, hcb, hP⟩ := hrel
          obtain ⟨xx, hxx⟩ : ∃ xx, xx = z + 1 + i := ⟨_, rfl⟩
          rw [← hxx]
          have hxs : xx ≤ 20 := by omega
          by_cases him : i < mm
          · have q1 : (xx : Int) ≤ (n : Int) := by have h1 := HHM.out; have h2 := HN8.out; omega
            have q1b : (xx : Int) ≤ (s : Int) - 1 := by have h1 := HHM.out; have h2 := HN8.out; omega
            have hxs2 : xx < s := by have h1 := HHM.out; have h2 := HN8.out; omega
            have hall := all_nat7 (n := n) (a := 0) (x := x) (y := y) (z := xx) H0.out.2.2.2.1 (by omega) (by omega) (by omega) (by omega)
            have hat := at7r_any (s := s) (a := 0) (x := x) (y := y) (z := xx) H0.out.2.2.2.2.1 (by omega) (by omega) (by omega) (by omega)
            have hrs := rowE_succ 5 ((1 : Int), ((x : Int), (y : Int), (z : Int))) ((z + 1 : Nat) : Int) i
            rw [show ((3 : Int) - dirA 5 - (((1 : Int), ((x : Int), (y : Int), (z : Int))) : EF).1, set3 (((1 : Int), ((x : Int), (y : Int), (z : Int))) : EF).2 (dirA 5) (((z + 1 : Nat) : Int) + (i : Int))) = ((0 : Int), ((x : Int), (y : Int), (xx : Int))) by rw [hxx]; simp [dirA, set3]] at hrs
            obtain ⟨L1, hL1⟩ : ∃ L1, L1 = PL ++ rowE 5 ((1 : Int), ((x : Int), (y : Int), (z : Int))) ((z + 1 : Nat) : Int) i := ⟨_, rfl⟩
            have hL2 : PL ++ rowE 5 ((1 : Int), ((x : Int), (y : Int), (z : Int))) ((z + 1 : Nat) : Int) (i + 1) = L1 ++ [((0 : Int), ((x : Int), (y : Int), (xx : Int)))] := by rw [hrs, hL1, List.append_assoc]
            rw [← hL1] at hP
            have hjl := (edg_edgN hall).2
            have htg := tabE_tog (togsE noE L1) hall
            have htt := tabE_get (togsE noE L1) hall
            rw [← H0.out.2.2.2.1] at hjl htg htt
            simp only [show ((0 : Nat) : Int) = 0 from rfl] at hat hjl htg htt
            obtain ⟨j, hj⟩ : ∃ j, j = edgN s ((0 : Int), ((x : Int), (y : Int), (xx : Int))) := ⟨_, rfl⟩
            rw [← hj] at hat hjl htg htt
            have hjm : j < m3 := by rw [H0.out.2.2.2.2.2.2.1]; exact hjl
            obtain ⟨bE, hbE⟩ : ∃ b, b = togsE noE L1 ((0 : Int), ((x : Int), (y : Int), (xx : Int))) := ⟨_, rfl⟩
            rw [← hbE] at htg htt
            have HT := hide (And.intro hat (And.intro htg (And.intro htt (And.intro hL2 hxx))))
            have HPS := hide (And.intro hP hcb)
            obtain ⟨b0, b1, b2⟩ := hcb.three
            have z0 := hcb.frozen 2
            have hcbU := hcb.lt
            clear hall hat hrs hL1 hL2 hjl htg htt hj hbE hP hcb hxx hxs2
            go_upto_region 18 with fail
            obtain ⟨T, hT⟩ : ∃ T, T = U.setCell ⟨cb, 2, none⟩ (.int .i64 (xx : Int)) := ⟨_, rfl⟩
            rw [← hT]
            have hcT : Blk T cb 42 #[.int .i64 (x : Int), .int .i64 (y : Int), .int .i64 (xx : Int)] := by rw [hT]; exact HPS.out.2.set_ 2 _
            have hfT : Blk T V.heap.size 45 #[.int .i64 1, .int .i64 (x : Int), .int .i64 (y : Int), .int .i64 (z : Int)] := by rw [hT]; exact HPS.out.1.face.far (p := ⟨cb, 2, none⟩) (by dsimp only; omega) _
            have hrT : RowB T w.heap.size (tabE s (togsE noE L1)) := by rw [hT]; exact HPS.out.1.row.far (p := ⟨cb, 2, none⟩) (by dsimp only; omega) _
            have hbT : Below w.heap.size w T := by rw [hT]; exact HPS.out.1.bel.setCell (by dsimp only; omega) _
            clear b0 b1 b2 z0 hT
            obtain ⟨b0, b1, b2⟩ := hcT.three
            obtain ⟨a0, a1, a2, a3⟩ := hfT.four
            have KT := hide (And.intro hcT (And.intro hfT (And.intro hrT hbT)))
            clear hcT hfT hrT hbT HPS
            go_wp2_with fail
            refine (HT.out.1 T).mono ?_
            rintro e w6 ⟨rfl, hB6⟩
            have hr6 := KT.out.2.2.1.on hB6
            have e1 := hr6.cell HT.out.2.2.1
            have f1 := hr6.frozen j
            have j1 : (j : Int) < (m3 : Int) := by omega
            have K6 := hide (And.intro (KT.out.1.on hB6) (And.intro (KT.out.2.1.on hB6) (And.intro hr6 (KT.out.2.2.2.trans (hB6.mono KT.out.2.2.2.size)))))
            clear hB6 hr6 a0 a1 a2 a3 b0 b1 b2
            go_wp2_with fail
            go_roundw
            case rel =>
              refine ⟨i + 1, (xx : Int), by omega, ?_, K6.out.1.far (p := ⟨w.heap.size, j, none⟩) (by dsimp only; omega) _, ⟨?_, K6.out.2.1.far (p := ⟨w.heap.size, j, none⟩) (by dsimp only; omega) _, K6.out.2.2.2.setCell (Nat.le_refl _) _⟩⟩
              · have h := HT.out.2.2.2.2
                go_num
              · rw [HT.out.2.2.2.1, togsE_snoc, ← HT.out.2.1]
                exact K6.out.2.2.1.set j (!bE)
            case measure => have h := HT.out.2.2.2.2; simp [intOf]; omega
          · obtain rfl : i = mm := by omega
            have q1 : ¬ (xx : Int) ≤ (n : Int) := by have h1 := HHM.out; have h2 := HN8.out; omega
            have q1b : ¬ (xx : Int) ≤ (s : Int) - 1 := by have h1 := HHM.out; have h2 := HN8.out; omega
            have HPS := hide hP
            clear hP hcb hxx
            go_wp2_with fail
            go_roundw
            case rel =>
              refine ⟨k + 1, by omega, by go_num, ?_, HPS.out.bel⟩
              rw [HTK.out, HP.out]
              exact HPS.out.row
            case measure => simp [intOf]; omega
      · dsimp only at g0 g1 g2 g3
        go_upto_region 7 with fail
        obtain ⟨Y1, hY1⟩ : ∃ Y, Y = V.alloc (.cells #[.int .i64 2, .int .i64 (x : Int), .int .i64 (y : Int), .int .i64 (z : Int)] 45) := ⟨_, rfl⟩
        rw [← hY1]
        have hb1 : Blk Y1 V.heap.size 45 #[.int .i64 2, .int .i64 (x : Int), .int .i64 (y : Int), .int .i64 (z : Int)] := by rw [hY1]; exact Blk.new _ _ _
        have hB1 : Below V.heap.size V Y1 := by rw [hY1]; exact (Below.refl _ V).alloc (Nat.le_refl _) _
        obtain ⟨a0, a1, a2, a3⟩ := hb1.four
        have K1 := hide (And.intro hb1 hB1)
        clear hb1 hB1 hY1 g0 g1 g2 g3
        have hpf : patF (n : Int) 5 ((2 : Int), ((x : Int), (y : Int), (z : Int))) = [] := by unfold patF; rw [if_pos (by simp [dirA])]
        have HP := hide hpf
        clear hpf
        go_wp2_with fail
        go_roundw
        case rel =>
          refine ⟨k + 1, by omega, by go_num, ?_, HV.out.2.trans (K1.out.2.mono HV.out.2.size)⟩
          rw [HTK.out, HP.out, List.append_nil]
          exact HV.out.1.on K1.out.2
        case measure => simp [intOf]; omega
    · have i1 : ¬ (k : Int) < (M : Int) := by omega
      have htk : part.take k = part := List.take_of_length_le (by rw [← H0.out.2.2.1]; omega)
      have hrow := HV.out.1
      rw [htk] at hrow
      obtain ⟨TB, hTB⟩ : ∃ TB, TB = tabE s (patE (n : Int) 5 part) := ⟨_, rfl⟩
      have hrow : RowB V w.heap.size TB := by rw [hTB]; exact hrow
      have HW := hide (And.intro hrow (And.intro HV.out.2 hTB))
      clear hrow htk HV hTB
      go_wp2_with fail
      go_loopw [17, 18] (fun nv iv wr => ∃ i : Nat, i ≤ m3 ∧ iv = .int .i64 i ∧ nv = .int .i64 (((TB.take i).countP id : Nat) : Int) ∧ wr = V) (fun _ iv _ => m3 - (intOf iv).toNat)
      case atStart => exact ⟨0, by omega, rfl, rfl, rfl⟩
      case round =>
        obtain ⟨i, hi, rfl, rfl, rfl⟩ := hrel
        by_cases him : i < m3
        · have j1 : (i : Int) < (m3 : Int) := by omega
          obtain ⟨b, hb⟩ : ∃ b, TB[i]? = some b := ⟨_, List.getElem?_eq_getElem (by rw [HW.out.2.2, tabE_length, ← H0.out.2.2.2.2.2.2.1]; exact him)⟩
          have e1 := HW.out.1.cell hb
          have hct := count_take hb
          have hcl := count_le TB i
          obtain ⟨q, hq⟩ : ∃ q, q = (TB.take i).countP id := ⟨_, rfl⟩
          rw [← hq] at hct hcl ⊢
          have HCT := hide hct
          clear hct hb hq
          cases b with
          | true =>
            go_wp2_with fail
            go_roundw
            case rel => exact ⟨i + 1, by omega, by go_num, by rw [HCT.out]; simp, by trivial⟩
            case measure => simp [intOf]; omega
          | false =>
            go_wp2_with fail
            go_roundw
            case rel => exact ⟨i + 1, by omega, by go_num, by rw [HCT.out]; simp, by trivial⟩
            case measure => simp [intOf]; omega
        · have j1 : ¬ (i : Int) < (m3 : Int) := by omega
          have hct : (TB.take i).countP id = cntE s (patE (n : Int) 5 part) := by
            rw [List.take_of_length_le (by rw [HW.out.2.2, tabE_length, ← H0.out.2.2.2.2.2.2.1]; omega), HW.out.2.2, tabE_count]
          rw [hct]
          go_wp2_with fail
          go_ret2
          exact ⟨m3, rfl, H0.out.2.2.2.2.2.2.1, by rw [← HW.out.2.2]; exact HW.out.1, HW.out.2.1⟩
theorem patch7r_any {d : Nat} (hd : d < 6) {n s : Nat} (hs : s = n + 1) (hs9 : s ≤ 9) (hs2 : 2 ≤ s) (Ad : Option Addr) (c : Nat) (part : List EF) (w : World) (hsl : Sl encF 4 w w.heap.size Ad part) (hg : ∀ f ∈ part, grdF n f) (hl : part.length ≤ 100000) :
    Calls Try.prog 40 #[.slice Ad part.length c, .int .i64 (s : Int), .int .i64 (d : Int)] w fun e w' => ∃ m3, e = .returned (.tuple #[.slice (some ⟨w.heap.size, 0, none⟩) m3 m3, .int .i64 (cntE s (patE (n : Int) d part) : Nat)]) ∧ m3 = 3 * (s * s * s) ∧ RowB w' w.heap.size (tabE s (patE (n : Int) d part)) ∧ Below w.heap.size w w' := by
  have hc : d = 0 ∨ d = 1 ∨ d = 2 ∨ d = 3 ∨ d = 4 ∨ d = 5 := by omega
  rcases hc with rfl | rfl | rfl | rfl | rfl | rfl
  · exact patch7r_0 hs hs9 hs2 Ad c part w hsl hg hl
  · exact patch7r_1 hs hs9 hs2 Ad c part w hsl hg hl
  · exact patch7r_2 hs hs9 hs2 Ad c part w hsl hg hl
  · exact patch7r_3 hs hs9 hs2 Ad c part w hsl hg hl
  · exact patch7r_4 hs hs9 hs2 Ad c part w hsl hg hl
  · exact patch7r_5 hs hs9 hs2 Ad c part w hsl hg hl
end Go.Proofs.Ytdpgohpbannfnaa
