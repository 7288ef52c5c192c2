/- ref07.Edges (printed by mk_S9G.py). -/
import Derived.Test.YtdpgohpbannfnaaCS9B
import Derived.Test.YtdpgohpbannfnaaCS9K
namespace Go.Proofs.Ytdpgohpbannfnaa
open Go.RowKit Go.Sort Go.WideMaps Go.Maps
/-- The edges found, once axis a has come to vertex k. -/
def edgP (F : List Bool) (s a k : Nat) : List EF := ((List.range a).flatMap fun b => edgA F s b (s * s * s)) ++ edgA F s a k
theorem edgA_zero (F : List Bool) (s a : Nat) : edgA F s a 0 = [] := rfl
theorem edgP_next (F : List Bool) (s a : Nat) : edgP F s a (s * s * s) = edgP F s (a + 1) 0 := by
  unfold edgP
  rw [edgA_zero, List.append_nil, List.range_succ, List.flatMap_append, List.flatMap_singleton]
theorem edgP_end (F : List Bool) (s : Nat) : edgP F s 3 0 = edgL F s := by
  unfold edgP edgL
  rw [edgA_zero, List.append_nil, show List.range 3 = [0, 1, 2] from rfl]
  simp [List.flatMap_cons]
def edgT (F : List Bool) (s a k : Nat) : Bool := decide (cmp3 (vtxS s k) (a : Int) + 1 < (s : Int)) && (fldV F s (vtxS s k) != fldV F s (add3 (vtxS s k) (a : Int) 1))
theorem edgA_eq (F : List Bool) (s a m : Nat) : edgA F s a m = ((List.range m).filter fun k => edgT F s a k).map fun k => ((a : Int), vtxS s k) := rfl
theorem edgA_step (F : List Bool) (s a k : Nat) : edgA F s a (k + 1) = if edgT F s a k = true then edgA F s a k ++ [((a : Int), vtxS s k)] else edgA F s a k := by
  rw [edgA_eq, edgA_eq, List.range_succ, List.filter_append, List.map_append]
  by_cases h : edgT F s a k = true
  · rw [if_pos h, List.filter_cons_of_pos (p := fun k => edgT F s a k) h]; rfl
  · rw [if_neg h, List.filter_cons_of_neg (p := fun k => edgT F s a k) h]; simp
theorem edgP_yes {F : List Bool} {s a k : Nat} (h : edgT F s a k = true) : edgP F s a (k + 1) = edgP F s a k ++ [((a : Int), vtxS s k)] := by
  unfold edgP
  rw [edgA_step, if_pos h, List.append_assoc]
theorem edgP_no {F : List Bool} {s a k : Nat} (h : edgT F s a k = false) : edgP F s a (k + 1) = edgP F s a k := by
  unfold edgP
  rw [edgA_step, if_neg (by rw [h]; simp)]
theorem edgA_few (F : List Bool) (s a k : Nat) : (edgA F s a k).length ≤ k := by
  unfold edgA
  rw [List.length_map]
  exact Nat.le_trans (List.length_filter_le _ _) (by rw [List.length_range]; exact Nat.le_refl _)
theorem edgP_few {F : List Bool} {s a k m : Nat} (ha : a ≤ 3) (hm : m = s * s * s) (hk : k ≤ m) : (edgP F s a k).length ≤ 4 * m := by
  unfold edgP
  rw [List.length_append]
  have h1 := edgA_few F s a k
  have h2 : ((List.range a).flatMap fun b => edgA F s b (s * s * s)).length ≤ 3 * m := by
    have key : ∀ l : List Nat, (l.flatMap fun b => edgA F s b (s * s * s)).length ≤ l.length * m := by
      intro l
      induction l with
      | nil => simp
      | cons b l ih =>
        have h3 := edgA_few F s b (s * s * s)
        rw [List.flatMap_cons, List.length_append, List.length_cons, Nat.succ_mul, ← hm] at *
        omega
    refine Nat.le_trans (key _) ?_
    rw [List.length_range]
    exact Nat.mul_le_mul_right _ ha
  omega
theorem edgP_fits {F : List Bool} {s : Nat} (hs : s ≤ 1000) : ∀ e ∈ edgL F s, fitsF e := by
  intro e he
  have key : ∀ a m, m ≤ s * s * s → e ∈ edgA F s a m → a ≤ 2 → fitsF e := by
    intro a m hm h ha
    unfold edgA at h
    obtain ⟨k, hk, rfl⟩ := List.mem_map.1 h
    have hk := List.mem_range.1 (List.mem_filter.1 hk).1
    obtain ⟨v1, v2, v3⟩ := vtxS_lt (s := s) (k := k) (by omega)
    unfold fitsF fitsP fits
    dsimp only
    omega
  unfold edgL at he
  rcases List.mem_append.1 he with h | h
  · exact key 0 _ (Nat.le_refl _) h (by omega)
  · rcases List.mem_append.1 h with h | h
    · exact key 1 _ (Nat.le_refl _) h (by omega)
    · exact key 2 _ (Nat.le_refl _) h (by omega)
theorem vtx_is3 {s k kx ky kz : Nat} (v1 : kx = k % s) (v2 : ky = k / s % s) (v3 : kz = k / s / s) : vtxS s k = ((kx : Int), (ky : Int), (kz : Int)) := by unfold vtxS; rw [v1, v2, v3]
theorem fldV_get {F : List Bool} {s j : Nat} {p : Pt} {b : Bool} (hj : j = vtxN s p) (hb : F[j]? = some b) : fldV F s p = b := by
  unfold fldV
  rw [List.getD_eq_getElem?_getD, ← hj, hb]
  rfl
/-- The reference's state: the box of the field, its row, what was found. -/
structure EdgS (w wr : World) (g s m : Nat) (L : Int) (F : List Bool) (a k : Nat) (ov : Value) : Prop where
  box : Blk wr w.heap.size 32 #[.int .i64 L, .slice (some ⟨g, 0, none⟩) m m]
  row : RowB wr g F
  out : Own encF 4 44 wr (w.heap.size + 1) ov (edgP F s a k).length (edgP F s a k)
  bel : Below w.heap.size w wr
theorem EdgS.on {w wr W : World} {g s m : Nat} {L : Int} {F : List Bool} {a k : Nat} {ov : Value} (h : EdgS w wr g s m L F a k ov) (hb : Below wr.heap.size wr W) : EdgS w W g s m L F a k ov :=
  ⟨h.box.on hb, h.row.on hb, h.out.below hb (Nat.le_refl _), h.bel.trans (hb.mono h.bel.size)⟩
set_option maxRecDepth 100000 in
set_option maxHeartbeats 32000000 in
theorem edges7_any (L g : Nat) (hL1 : 1 ≤ L) (hL3 : L ≤ 3) (F : List Bool) (m : Nat) (hmF : m = F.length) (hF : F.length = (2 ^ L + 1) * (2 ^ L + 1) * (2 ^ L + 1)) (w : World) (hr : RowB w g F) :
    Calls Try.prog 15 #[.agg #[.int .i64 (L : Int), .slice (some ⟨g, 0, none⟩) m m]] w fun e w' => ∃ A c, e = .returned (.slice A (edgL F (2 ^ L + 1)).length c) ∧ Own encF 4 44 w' w.heap.size (.slice A (edgL F (2 ^ L + 1)).length c) (edgL F (2 ^ L + 1)).length (edgL F (2 ^ L + 1)) ∧ Below w.heap.size w w' := by
  have hL8 : 1 ≤ (L : Int) ∧ (L : Int) ≤ 8 := by omega
  have hsd := side7_any (L : Int)
  rw [sideP_in hL8, Int.toNat_natCast] at hsd
  obtain ⟨n, s, q, m', hn, hs, hm', ⟨hs3, hs9, hm7⟩, hw1, hw2⟩ := lev_nums3 hL1 hL3
  rw [← hn, ← hs] at hsd hF ⊢
  obtain rfl : m = m' := by rw [hm', hmF, hF]
  have HN := hide (And.intro hm' (And.intro hmF hs))
  have HD := hide hsd
  have HW := hide (And.intro hw1 hw2)
  have hgw : g < w.heap.size := Blk.lt hr
  have HR := hide hr
  clear hm' hmF hs hsd hw1 hw2 hr hL8 hn hF
  go_enter Try.func15, Try.ntmps15
  go_upto_region 1 with fail
  obtain ⟨X0, hX0⟩ : ∃ X, X = w.alloc (.cells #[.int .i64 (L : Int), .slice (some ⟨g, 0, none⟩) m m] 32) := ⟨_, rfl⟩
  rw [← hX0]
  obtain ⟨hb, hB⟩ := box7 hX0
  have HX := hide (And.intro hb (And.intro (HR.out.on hB) hB))
  obtain ⟨d0, d1⟩ := hb.two7
  clear hb hB hX0
  go_wp2_with fail
  refine (HD.out X0).mono ?_
  rintro e w1 ⟨rfl, hw3⟩
  obtain rfl : X0 = w1 := hw3.symm
  clear d0 d1
  go_wp2_with fail
  go_loopw [4, 5] (fun ov av wr => ∃ a : Nat, a ≤ 3 ∧ av = .int .i64 a ∧ EdgS w wr g s m (L : Int) F a 0 ov) (fun _ av _ => 3 - (intOf av).toNat)
  case atStart => exact ⟨0, by omega, rfl, HX.out.1, HX.out.2.1, Own.nil, HX.out.2.2⟩
  case round =>
    obtain ⟨U, rfl⟩ : ∃ U, U = wr := ⟨_, rfl⟩
    obtain ⟨a, ha, rfl, hE⟩ := hrel
    have HU := hide hE
    clear hE
    have hc : a = 3 ∨ a = 0 ∨ a = 1 ∨ a = 2 := by omega
    rcases hc with rfl | rfl | rfl | rfl
    · rw [show ((3 : Nat) : Int) = 3 from rfl]
      obtain ⟨A9, c9, rfl⟩ := HU.out.out.form
      have he := edgP_end F s
      have HE := hide he
      clear he
      go_wp2_with fail
      go_ret
      refine ⟨A9, c9, by rw [← HE.out]; rfl, ?_, HU.out.bel⟩
      rw [← HE.out]
      exact HU.out.out.lower (by omega)
    · rw [show ((0 : Nat) : Int) = 0 from rfl]
      go_wp2_with fail
      go_loopw [4, 6] (fun ov kv wr => ∃ k : Nat, k ≤ m ∧ kv = .int .i64 k ∧ EdgS w wr g s m (L : Int) F 0 k ov) (fun _ kv _ => m - (intOf kv).toNat)
      case atStart => exact ⟨0, by omega, rfl, HU.out⟩
      case round =>
        obtain ⟨V, rfl⟩ : ∃ V, V = wr := ⟨_, rfl⟩
        obtain ⟨k, hk, rfl, hE⟩ := hrel
        have HV := hide hE
        clear hE
        obtain ⟨hw1, hw2⟩ := HW.out
        by_cases hkm : k < m
        · have j1 : (k : Int) < (m : Int) := by omega
          have hs0 : 0 < s := by omega
          have hkm3 : k < s * s * s := by rw [← HN.out.1]; exact hkm
          obtain ⟨kx, kq, ky, kz, ⟨v1, v2, v3, v4⟩, t0, t1, t2, t3, ⟨z1, z2, z3, z4⟩, u0, u1, u2, u3⟩ := vtx_nums hs0 (Nat.le_trans hs9 (by decide)) hkm3
          have hs0n : ¬ s = 0 := by omega
          have hvt := vtx_is3 v1 v2 v3
          have hvn := vtxN_vtx s k
          rw [hvt] at hvn
          have HK := hide (And.intro hvt hvn)
          have hVs := HV.out.box.lt
          have hgV : g < V.heap.size := by have := HV.out.bel.size; omega
          clear hvt hvn v1 v2 v3 v4 hkm3
          go_upto_region 9 with fail
          clear hw1 hw2
          refine wp_region_mix (fun _ => True) [0, 1, 2, 3, 4, 5, 6, 7, 8, 9, 10, 11, 12, 13] [0, 1, 2, 3, 4, 5, 6, 7, 8, 9, 10, 11, 12, 13, 14, 15] mixed_ok (by kernel_rfl) ?_
          refine wpMix_q (v := .int .i64 k) rfl rfl (fun _ _ _ h => h) trivial ⟨rfl, fun _ _ => by simp [go_sem]⟩ ?_
          refine wpMix_q (v := .int .i64 s) rfl rfl (fun _ _ _ h => h) trivial ⟨rfl, fun _ _ => by simp [go_sem]⟩ ?_
          refine wpMix_q (v := .int .i64 kx) rfl rfl (fun _ _ _ h => h) trivial ⟨rfl, fun _ _ => by simp [go_sem, t0, hs0n]⟩ ?_
          refine wpMix_q (v := .int .i64 k) rfl rfl (fun _ _ _ h => h) trivial ⟨rfl, fun _ _ => by simp [go_sem]⟩ ?_
          refine wpMix_q (v := .int .i64 s) rfl rfl (fun _ _ _ h => h) trivial ⟨rfl, fun _ _ => by simp [go_sem]⟩ ?_
          simp only [List.getElem_toArray, List.getElem_cons_succ, List.getElem_cons_zero, Act.put, List.setIfInBounds_toArray, List.set_cons_succ, List.set_cons_zero]
          refine wpMix_q (v := .int .i64 kq) rfl rfl (fun _ _ _ h => h) trivial ⟨rfl, fun _ _ => by simp [go_sem, t1, hs0n, u1]⟩ ?_
          refine wpMix_q (v := .int .i64 s) rfl rfl (fun _ _ _ h => h) trivial ⟨rfl, fun _ _ => by simp [go_sem]⟩ ?_
          refine wpMix_q (v := .int .i64 ky) rfl rfl (fun _ _ _ h => h) trivial ⟨rfl, fun _ _ => by simp [go_sem, t2, hs0n]⟩ ?_
          refine wpMix_q (v := .int .i64 k) rfl rfl (fun _ _ _ h => h) trivial ⟨rfl, fun _ _ => by simp [go_sem]⟩ ?_
          refine wpMix_q (v := .int .i64 s) rfl rfl (fun _ _ _ h => h) trivial ⟨rfl, fun _ _ => by simp [go_sem]⟩ ?_
          simp only [List.getElem_toArray, List.getElem_cons_succ, List.getElem_cons_zero, Act.put, List.setIfInBounds_toArray, List.set_cons_succ, List.set_cons_zero]
          refine wpMix_q (v := .int .i64 kq) rfl rfl (fun _ _ _ h => h) trivial ⟨rfl, fun _ _ => by simp [go_sem, t1, hs0n, u1]⟩ ?_
          refine wpMix_q (v := .int .i64 s) rfl rfl (fun _ _ _ h => h) trivial ⟨rfl, fun _ _ => by simp [go_sem]⟩ ?_
          refine wpMix_q (v := .int .i64 kz) rfl rfl (fun _ _ _ h => h) trivial ⟨rfl, fun _ _ => by simp [go_sem, t3, hs0n, u3]⟩ ?_
          refine wpMix_q (v := .agg #[.int .i64 kx, .int .i64 ky, .int .i64 kz]) rfl rfl (fun _ _ _ h => h) trivial ⟨rfl, fun _ _ => by simp [go_sem]⟩ ?_
          refine wpMix_n rfl rfl ?_
          go_wp2_with fail
          refine ⟨fun _ => trivial, ?_⟩
          refine wpMix_n rfl rfl ?_
          go_wp2_with fail
          refine ⟨fun _ => trivial, ?_⟩
          refine wpMix_nil ?_
          go_upto_region 10 with fail
          clear t0 t1 t2 t3 u0 u1 u2 u3
          obtain ⟨T, hT⟩ : ∃ T, T = (V.alloc (.cells #[.int .i64 kx, .int .i64 ky, .int .i64 kz] 42)).drew := ⟨_, rfl⟩
          rw [← hT]
          have hB1 : Below V.heap.size V T := by rw [hT]; exact ((Below.refl _ V).alloc (Nat.le_refl _) _).drew
          have hp1 : Blk T V.heap.size 42 #[.int .i64 kx, .int .i64 ky, .int .i64 kz] := by rw [hT]; exact Blk.new V _ _
          have hzT : T.heap.size = V.heap.size + 1 := by rw [hT]; simp
          obtain ⟨c0x, c1x, c2x⟩ := hp1.three
          have H1 := hide (And.intro hB1 hp1)
          clear hB1 hp1 hT
          go_upto_region 11 with fail
          obtain ⟨T2, hT2⟩ : ∃ T2, T2 = T.alloc (.cells #[.int .i64 kx, .int .i64 ky, .int .i64 kz] 42) := ⟨_, rfl⟩
          rw [← hT2]
          have hB2 : Below V.heap.size V T2 := by rw [hT2]; exact H1.out.1.alloc H1.out.1.size _
          have hp2 : Blk T2 (V.heap.size + 1) 42 #[.int .i64 kx, .int .i64 ky, .int .i64 kz] := by rw [hT2]; exact Blk.new' _ _ _ _ hzT.symm
          have hp1 : Blk T2 V.heap.size 42 #[.int .i64 kx, .int .i64 ky, .int .i64 kz] := by rw [hT2]; exact H1.out.2.alloc _
          have hzT2 : T2.heap.size = V.heap.size + 2 := by rw [hT2]; simp [hzT]
          clear c0x c1x c2x
          obtain ⟨e0, e1, e2⟩ := hp2.three
          have f0 := hp2.frozen 0
          have H2 := hide (And.intro hB2 (And.intro hp1 hp2))
          clear hB2 hp1 hp2 hT2 hzT
          obtain ⟨k1, hk1⟩ : ∃ k1, k1 = kx + 1 := ⟨_, rfl⟩
          have hk2 : (kx : Int) + 1 = (k1 : Int) := by omega
          have hk10 : k1 ≤ 10 := by omega
          have HK1 := hide hk1
          clear hk1
          go_upto_region 12 with fail
          obtain ⟨T3, hT3⟩ : ∃ T3, T3 = T2.setCell ⟨V.heap.size + 1, 0, none⟩ (.int .i64 (k1 : Int)) := ⟨_, rfl⟩
          rw [← hT3]
          have hB3 : Below V.heap.size V T3 := by rw [hT3]; exact H2.out.1.setCell (by dsimp only; omega) _
          have hp2 : Blk T3 (V.heap.size + 1) 42 #[.int .i64 k1, .int .i64 ky, .int .i64 kz] := by rw [hT3]; exact H2.out.2.2.set_ 0 _
          have hp1 : Blk T3 V.heap.size 42 #[.int .i64 kx, .int .i64 ky, .int .i64 kz] := by rw [hT3]; exact H2.out.2.1.far (p := ⟨V.heap.size + 1, 0, none⟩) (by dsimp only; omega) _
          have hzT3 : T3.heap.size = V.heap.size + 2 := by rw [hT3]; simp [hzT2]
          clear e0 e1 e2 f0 hT3 hzT2
          obtain ⟨c0x, c1x, c2x⟩ := hp1.three
          obtain ⟨e0, e1, e2⟩ := hp2.three
          have hE3 := HV.out.on hB3
          obtain ⟨d0, d1⟩ := hE3.box.two7
          have H3 := hide (And.intro hE3 hB3)
          have HP1 := hide (show Blk T3.drew V.heap.size 42 #[.int .i64 kx, .int .i64 ky, .int .i64 kz] from hp1)
          clear hE3 hB3 hp1 hp2 H1 H2 hk2
          by_cases hin : k1 < s
          · have j2 : (k1 : Int) < (s : Int) := by omega
            obtain ⟨q1, q2, q3, i, vz1, vz2, vz3, vz4, hi, him⟩ := idx_nums hs9 (x := k1) (y := ky) (z := kz) (by omega) (by omega) (by omega)
            obtain ⟨p1, p2, p3, j, wz1, wz2, wz3, wz4, hj, hjm⟩ := idx_nums hs9 z1 z2 z3
            rw [HK.out.2] at hj
            obtain rfl : k = j := hj.symm
            rw [← HN.out.1] at him
            obtain rfl : p1 = q1 := Int.ofNat_inj.1 (wz1.symm.trans vz1)
            obtain rfl : p2 = q2 := Int.ofNat_inj.1 (wz2.symm.trans vz2)
            obtain rfl : p3 = q3 := Int.ofNat_inj.1 (wz3.symm.trans vz3)
            clear vz1 vz2 vz3
            have HWZ := hide (And.intro wz1 (And.intro wz2 (And.intro wz3 (And.intro wz4 vz4))))
            clear wz1 wz2 wz3 wz4 vz4
            obtain ⟨b1, hb1⟩ : ∃ b1, F[k]? = some b1 := ⟨_, List.getElem?_eq_getElem (by rw [← HN.out.2.1]; exact hkm)⟩
            obtain ⟨b2, hb2⟩ : ∃ b2, F[i]? = some b2 := ⟨_, List.getElem?_eq_getElem (by rw [← HN.out.2.1]; exact him)⟩
            have hadd : add3 (vtxS s k) (0 : Int) 1 = ((k1 : Int), (ky : Int), (kz : Int)) := by rw [HK.out.1]; have := HK1.out; simp [add3, set3, cmp3]; omega
            have hcm : cmp3 (vtxS s k) (0 : Int) + 1 < (s : Int) := by rw [HK.out.1]; have := HK1.out; simp [cmp3]; omega
            have hv1 : fldV F s (vtxS s k) = b1 := fldV_get (vtxN_vtx s k).symm hb1
            have hv2 : fldV F s (add3 (vtxS s k) (0 : Int) 1) = b2 := by rw [hadd]; exact fldV_get hi hb2
            have het : edgT F s 0 k = (b1 != b2) := by
              unfold edgT
              rw [show (((0 : Nat) : Int)) = 0 from rfl, decide_eq_true hcm, hv1, hv2]
              rfl
            have e5 := H3.out.1.row.cell hb1
            have e6 := H3.out.1.row.cell hb2
            have j3 : (i : Int) < (m : Int) := Int.ofNat_lt.2 him
            have HT := hide het
            clear hj hi hjm him hb1 hb2 hadd hcm hv1 hv2 het
            obtain ⟨tt, htt⟩ : ∃ tt : Bool, tt = (b1 != b2) := ⟨_, rfl⟩
            rw [← htt] at HT
            obtain ⟨wz1, wz2, wz3, wz4, vz4⟩ := HWZ.out
            have hS0 : T3.drew = T3.drew := rfl
            refine wp_region_mix (fun W => W = T3.drew) [0, 1, 2, 3, 4, 5, 6, 7, 8, 9, 10, 11, 12, 13, 14, 15, 16, 17, 18, 19, 20, 21, 22, 23, 24, 25, 26, 27, 28, 29, 30, 31, 32, 33, 34, 35, 36, 37, 38, 39] [0, 1, 2, 3, 4, 5, 6, 7, 8, 9, 10, 11, 12, 13, 14, 15, 16, 17, 18, 19, 20, 21, 22, 23, 24, 25, 26, 27, 28, 29, 30, 31, 32, 33, 34, 35, 36, 37, 38, 39] mixed_ok (by kernel_rfl) ?_
            refine wpMix_q (v := .int .i64 0) rfl rfl (fun _ _ _ h => h) hS0 ⟨rfl, fun _ _ => by simp [go_sem]⟩ ?_
            refine wpMix_q (v := .pointer (some ⟨V.heap.size + 1, 0, none⟩)) rfl rfl (fun _ _ _ h => h) hS0 ⟨rfl, fun _ _ => by simp [go_sem]⟩ ?_
            refine wpMix_q (v := .int .i64 k1) rfl rfl (fun _ _ _ h => h) hS0 ⟨rfl, fun _ h' => by subst h'; simp [go_sem, e0]⟩ ?_
            refine wpMix_q (v := .int .i64 s) rfl rfl (fun _ _ _ h => h) hS0 ⟨rfl, fun _ _ => by simp [go_sem]⟩ ?_
            refine wpMix_q (v := .bool true) rfl rfl (fun _ _ _ h => h) hS0 ⟨rfl, fun _ _ => by simp [go_sem, j2]⟩ ?_
            try simp only [List.getElem_toArray, List.getElem_cons_succ, List.getElem_cons_zero, Act.put, List.setIfInBounds_toArray, List.set_cons_succ, List.set_cons_zero]
            refine wpMix_q (v := .bool true) rfl rfl (fun _ _ _ h => h) hS0 ⟨rfl, fun _ _ => by simp [go_sem]⟩ ?_
            refine wpMix_q (v := .pointer (some ⟨w.heap.size, 1, none⟩)) rfl rfl (fun _ _ _ h => h) hS0 ⟨rfl, fun _ _ => by simp [go_sem]⟩ ?_
            refine wpMix_q (v := .slice (some ⟨g, 0, none⟩) m m) rfl rfl (fun _ _ _ h => h) hS0 ⟨rfl, fun _ h' => by subst h'; simp [go_sem, d1]⟩ ?_
            refine wpMix_q (v := .pointer (some ⟨V.heap.size, 2, none⟩)) rfl rfl (fun _ _ _ h => h) hS0 ⟨rfl, fun _ _ => by simp [go_sem]⟩ ?_
            refine wpMix_q (v := .int .i64 kz) rfl rfl (fun _ _ _ h => h) hS0 ⟨rfl, fun _ h' => by subst h'; simp [go_sem, c2x]⟩ ?_
            try simp only [List.getElem_toArray, List.getElem_cons_succ, List.getElem_cons_zero, Act.put, List.setIfInBounds_toArray, List.set_cons_succ, List.set_cons_zero]
            refine wpMix_q (v := .int .i64 s) rfl rfl (fun _ _ _ h => h) hS0 ⟨rfl, fun _ _ => by simp [go_sem]⟩ ?_
            refine wpMix_q (v := .int .i64 p1) rfl rfl (fun _ _ _ h => h) hS0 ⟨rfl, fun _ _ => by simp [go_sem, IntWalk.i64_left, wz1]⟩ ?_
            refine wpMix_q (v := .pointer (some ⟨V.heap.size, 1, none⟩)) rfl rfl (fun _ _ _ h => h) hS0 ⟨rfl, fun _ _ => by simp [go_sem]⟩ ?_
            refine wpMix_q (v := .int .i64 ky) rfl rfl (fun _ _ _ h => h) hS0 ⟨rfl, fun _ h' => by subst h'; simp [go_sem, c1x]⟩ ?_
            refine wpMix_q (v := .int .i64 p2) rfl rfl (fun _ _ _ h => h) hS0 ⟨rfl, fun _ _ => by simp [go_sem, IntWalk.i64_left, wz2]⟩ ?_
            try simp only [List.getElem_toArray, List.getElem_cons_succ, List.getElem_cons_zero, Act.put, List.setIfInBounds_toArray, List.set_cons_succ, List.set_cons_zero]
            refine wpMix_q (v := .int .i64 s) rfl rfl (fun _ _ _ h => h) hS0 ⟨rfl, fun _ _ => by simp [go_sem]⟩ ?_
            refine wpMix_q (v := .int .i64 p3) rfl rfl (fun _ _ _ h => h) hS0 ⟨rfl, fun _ _ => by simp [go_sem, IntWalk.i64_left, wz3]⟩ ?_
            refine wpMix_q (v := .pointer (some ⟨V.heap.size, 0, none⟩)) rfl rfl (fun _ _ _ h => h) hS0 ⟨rfl, fun _ _ => by simp [go_sem]⟩ ?_
            refine wpMix_q (v := .int .i64 kx) rfl rfl (fun _ _ _ h => h) hS0 ⟨rfl, fun _ h' => by subst h'; simp [go_sem, c0x]⟩ ?_
            refine wpMix_q (v := .int .i64 k) rfl rfl (fun _ _ _ h => h) hS0 ⟨rfl, fun _ _ => by simp [go_sem, IntWalk.i64_left, wz4]⟩ ?_
            try simp only [List.getElem_toArray, List.getElem_cons_succ, List.getElem_cons_zero, Act.put, List.setIfInBounds_toArray, List.set_cons_succ, List.set_cons_zero]
            refine wpMix_q (v := .pointer (some ⟨g, k, none⟩)) rfl rfl (fun _ _ _ h => h) hS0 ⟨rfl, fun _ _ => by simp [go_sem, j1]⟩ ?_
            refine wpMix_q (v := .bool b1) rfl rfl (fun _ _ _ h => h) hS0 ⟨rfl, fun _ h' => by subst h'; simp [go_sem, e5]⟩ ?_
            refine wpMix_q (v := .pointer (some ⟨w.heap.size, 1, none⟩)) rfl rfl (fun _ _ _ h => h) hS0 ⟨rfl, fun _ _ => by simp [go_sem]⟩ ?_
            refine wpMix_q (v := .slice (some ⟨g, 0, none⟩) m m) rfl rfl (fun _ _ _ h => h) hS0 ⟨rfl, fun _ h' => by subst h'; simp [go_sem, d1]⟩ ?_
            refine wpMix_q (v := .pointer (some ⟨V.heap.size + 1, 2, none⟩)) rfl rfl (fun _ _ _ h => h) hS0 ⟨rfl, fun _ _ => by simp [go_sem]⟩ ?_
            try simp only [List.getElem_toArray, List.getElem_cons_succ, List.getElem_cons_zero, Act.put, List.setIfInBounds_toArray, List.set_cons_succ, List.set_cons_zero]
            refine wpMix_q (v := .int .i64 kz) rfl rfl (fun _ _ _ h => h) hS0 ⟨rfl, fun _ h' => by subst h'; simp [go_sem, e2]⟩ ?_
            refine wpMix_q (v := .int .i64 s) rfl rfl (fun _ _ _ h => h) hS0 ⟨rfl, fun _ _ => by simp [go_sem]⟩ ?_
            refine wpMix_q (v := .int .i64 p1) rfl rfl (fun _ _ _ h => h) hS0 ⟨rfl, fun _ _ => by simp [go_sem, IntWalk.i64_left, wz1]⟩ ?_
            refine wpMix_q (v := .pointer (some ⟨V.heap.size + 1, 1, none⟩)) rfl rfl (fun _ _ _ h => h) hS0 ⟨rfl, fun _ _ => by simp [go_sem]⟩ ?_
            refine wpMix_q (v := .int .i64 ky) rfl rfl (fun _ _ _ h => h) hS0 ⟨rfl, fun _ h' => by subst h'; simp [go_sem, e1]⟩ ?_
            try simp only [List.getElem_toArray, List.getElem_cons_succ, List.getElem_cons_zero, Act.put, List.setIfInBounds_toArray, List.set_cons_succ, List.set_cons_zero]
            refine wpMix_q (v := .int .i64 p2) rfl rfl (fun _ _ _ h => h) hS0 ⟨rfl, fun _ _ => by simp [go_sem, IntWalk.i64_left, wz2]⟩ ?_
            refine wpMix_q (v := .int .i64 s) rfl rfl (fun _ _ _ h => h) hS0 ⟨rfl, fun _ _ => by simp [go_sem]⟩ ?_
            refine wpMix_q (v := .int .i64 p3) rfl rfl (fun _ _ _ h => h) hS0 ⟨rfl, fun _ _ => by simp [go_sem, IntWalk.i64_left, wz3]⟩ ?_
            refine wpMix_q (v := .pointer (some ⟨V.heap.size + 1, 0, none⟩)) rfl rfl (fun _ _ _ h => h) hS0 ⟨rfl, fun _ _ => by simp [go_sem]⟩ ?_
            refine wpMix_q (v := .int .i64 k1) rfl rfl (fun _ _ _ h => h) hS0 ⟨rfl, fun _ h' => by subst h'; simp [go_sem, e0]⟩ ?_
            try simp only [List.getElem_toArray, List.getElem_cons_succ, List.getElem_cons_zero, Act.put, List.setIfInBounds_toArray, List.set_cons_succ, List.set_cons_zero]
            refine wpMix_q (v := .int .i64 i) rfl rfl (fun _ _ _ h => h) hS0 ⟨rfl, fun _ _ => by simp [go_sem, IntWalk.i64_left, vz4]⟩ ?_
            refine wpMix_q (v := .pointer (some ⟨g, i, none⟩)) rfl rfl (fun _ _ _ h => h) hS0 ⟨rfl, fun _ _ => by simp [go_sem, j3]⟩ ?_
            refine wpMix_q (v := .bool b2) rfl rfl (fun _ _ _ h => h) hS0 ⟨rfl, fun _ h' => by subst h'; simp [go_sem, e6]⟩ ?_
            refine wpMix_q (v := .bool tt) rfl rfl (fun _ _ _ h => h) hS0 ⟨rfl, fun _ _ => by simp only [htt]; cases b1 <;> cases b2 <;> simp [go_sem]⟩ ?_
            refine wpMix_q (v := .bool tt) rfl rfl (fun _ _ _ h => h) hS0 ⟨rfl, fun _ _ => by simp [go_sem]⟩ ?_
            refine wpMix_nil ?_
            clear wz1 wz2 wz3 wz4 vz4 htt d0 d1 c0x c1x c2x e0 e1 e2 e5 e6 hS0
            cases tt
            · have hno := edgP_no HT.out
              have HO := hide hno
              clear hno
              go_wp2_with fail
              go_roundw
              case rel =>
                have h3 := H3.out.1.on (Below.refl _ T3).drew
                exact ⟨k + 1, by omega, by go_num, h3.box, h3.row, by rw [HO.out]; exact h3.out, h3.bel⟩
              case measure => simp [intOf]; omega
            · have hyes := edgP_yes HT.out
              rw [HK.out.1] at hyes
              have hfw := edgP_few (F := F) (a := 0) (by omega) HN.out.1 hk
              obtain ⟨EL, hEL⟩ : ∃ EL, EL = edgP F s 0 k := ⟨_, rfl⟩
              obtain ⟨ne, hne⟩ : ∃ ne, ne = EL.length := ⟨_, rfl⟩
              have hown := H3.out.1.out.below (Below.refl _ T3).drew (Nat.le_refl _)
              rw [← hEL, ← hne] at hown
              rw [← hEL, ← hne] at hfw
              rw [← hEL] at hyes
              have h3 := H3.out.1.on (Below.refl _ T3).drew
              obtain ⟨c0x, c1x, c2x⟩ := HP1.out.three
              have HO := hide (And.intro hyes (And.intro hne (And.intro hown h3)))
              have hwsz : w.heap.size + 1 ≤ V.heap.size := hVs
              clear hyes hEL hne hown h3
              go_wp2_with (at_builtin; refine wpList_append1 rfl _ _ _ rfl Try.underlying25 infoEd rfl (by omega) encF_len encF_one rfl (HO.out.2.2.1.alloc _) (V.heap.size + 2) 1 (0, ((kx : Int), (ky : Int), (kz : Int))) rfl (Blk.new' _ _ _ _ hzT3.symm) (by unfold maxLen; omega) (by omega) (by simp [hzT3]; omega) ?_; intro gp cap U7 ho7 hg7 hB7 hat7 hgb7 hlt7)
              go_roundw
              case rel =>
                have hbA : Below (w.heap.size + 1) T3.drew U7 := ((Below.refl (w.heap.size + 1) T3.drew).alloc (by simp [hzT3]; omega) _).trans hB7
                refine ⟨k + 1, by omega, by go_num, HO.out.2.2.2.box.below hbA (by omega), HO.out.2.2.2.row.below hbA (by omega), ?_, HO.out.2.2.2.bel.trans (hbA.mono (by omega))⟩
                rw [HO.out.1, List.length_append, ← HO.out.2.1]
                exact ho7
              case measure => simp [intOf]; omega
          · have j2 : ¬ (k1 : Int) < (s : Int) := by omega
            have hcm : ¬ cmp3 (vtxS s k) (0 : Int) + 1 < (s : Int) := by rw [HK.out.1]; have := HK1.out; simp [cmp3]; omega
            have hno : edgP F s 0 (k + 1) = edgP F s 0 k := edgP_no (by unfold edgT; rw [show (((0 : Nat) : Int)) = 0 from rfl, decide_eq_false hcm]; rfl)
            have HO := hide hno
            clear hcm hno
            go_quiet (fail)
            go_wp2_with fail
            go_roundw
            case rel =>
              have h3 := H3.out.1.on (below_drewN (Below.refl _ T3) nq)
              exact ⟨k + 1, by omega, by go_num, h3.box, h3.row, by rw [HO.out]; exact h3.out, h3.bel⟩
            case measure => simp [intOf]; omega
        · have j1 : ¬ (k : Int) < (m : Int) := by omega
          obtain rfl : k = m := by omega
          have hnx := edgP_next F s 0
          rw [← HN.out.1] at hnx
          have HO := hide hnx
          clear hnx
          go_wp2_with fail
          go_roundw
          case rel => exact ⟨1, by omega, by go_num, HV.out.box, HV.out.row, by rw [← HO.out]; exact HV.out.out, HV.out.bel⟩
          case measure => simp [intOf]
    · rw [show ((1 : Nat) : Int) = 1 from rfl]
      go_wp2_with fail
      go_loopw [4, 6] (fun ov kv wr => ∃ k : Nat, k ≤ m ∧ kv = .int .i64 k ∧ EdgS w wr g s m (L : Int) F 1 k ov) (fun _ kv _ => m - (intOf kv).toNat)
      case atStart => exact ⟨0, by omega, rfl, HU.out⟩
      case round =>
        obtain ⟨V, rfl⟩ : ∃ V, V = wr := ⟨_, rfl⟩
        obtain ⟨k, hk, rfl, hE⟩ := hrel
        have HV := hide hE
        clear hE
        obtain ⟨hw1, hw2⟩ := HW.out
        by_cases hkm : k < m
        · have j1 : (k : Int) < (m : Int) := by omega
          have hs0 : 0 < s := by omega
          have hkm3 : k < s * s * s := by rw [← HN.out.1]; exact hkm
          obtain ⟨kx, kq, ky, kz, ⟨v1, v2, v3, v4⟩, t0, t1, t2, t3, ⟨z1, z2, z3, z4⟩, u0, u1, u2, u3⟩ := vtx_nums hs0 (Nat.le_trans hs9 (by decide)) hkm3
          have hs0n : ¬ s = 0 := by omega
          have hvt := vtx_is3 v1 v2 v3
          have hvn := vtxN_vtx s k
          rw [hvt] at hvn
          have HK := hide (And.intro hvt hvn)
          have hVs := HV.out.box.lt
          have hgV : g < V.heap.size := by have := HV.out.bel.size; omega
          clear hvt hvn v1 v2 v3 v4 hkm3
          go_upto_region 9 with fail
          clear hw1 hw2
          refine wp_region_mix (fun _ => True) [0, 1, 2, 3, 4, 5, 6, 7, 8, 9, 10, 11, 12, 13] [0, 1, 2, 3, 4, 5, 6, 7, 8, 9, 10, 11, 12, 13, 14, 15] mixed_ok (by kernel_rfl) ?_
          refine wpMix_q (v := .int .i64 k) rfl rfl (fun _ _ _ h => h) trivial ⟨rfl, fun _ _ => by simp [go_sem]⟩ ?_
          refine wpMix_q (v := .int .i64 s) rfl rfl (fun _ _ _ h => h) trivial ⟨rfl, fun _ _ => by simp [go_sem]⟩ ?_
          refine wpMix_q (v := .int .i64 kx) rfl rfl (fun _ _ _ h => h) trivial ⟨rfl, fun _ _ => by simp [go_sem, t0, hs0n]⟩ ?_
          refine wpMix_q (v := .int .i64 k) rfl rfl (fun _ _ _ h => h) trivial ⟨rfl, fun _ _ => by simp [go_sem]⟩ ?_
          refine wpMix_q (v := .int .i64 s) rfl rfl (fun _ _ _ h => h) trivial ⟨rfl, fun _ _ => by simp [go_sem]⟩ ?_
          simp only [List.getElem_toArray, List.getElem_cons_succ, List.getElem_cons_zero, Act.put, List.setIfInBounds_toArray, List.set_cons_succ, List.set_cons_zero]
          refine wpMix_q (v := .int .i64 kq) rfl rfl (fun _ _ _ h => h) trivial ⟨rfl, fun _ _ => by simp [go_sem, t1, hs0n, u1]⟩ ?_
          refine wpMix_q (v := .int .i64 s) rfl rfl (fun _ _ _ h => h) trivial ⟨rfl, fun _ _ => by simp [go_sem]⟩ ?_
          refine wpMix_q (v := .int .i64 ky) rfl rfl (fun _ _ _ h => h) trivial ⟨rfl, fun _ _ => by simp [go_sem, t2, hs0n]⟩ ?_
          refine wpMix_q (v := .int .i64 k) rfl rfl (fun _ _ _ h => h) trivial ⟨rfl, fun _ _ => by simp [go_sem]⟩ ?_
          refine wpMix_q (v := .int .i64 s) rfl rfl (fun _ _ _ h => h) trivial ⟨rfl, fun _ _ => by simp [go_sem]⟩ ?_
          simp only [List.getElem_toArray, List.getElem_cons_succ, List.getElem_cons_zero, Act.put, List.setIfInBounds_toArray, List.set_cons_succ, List.set_cons_zero]
          refine wpMix_q (v := .int .i64 kq) rfl rfl (fun _ _ _ h => h) trivial ⟨rfl, fun _ _ => by simp [go_sem, t1, hs0n, u1]⟩ ?_
          refine wpMix_q (v := .int .i64 s) rfl rfl (fun _ _ _ h => h) trivial ⟨rfl, fun _ _ => by simp [go_sem]⟩ ?_
          refine wpMix_q (v := .int .i64 kz) rfl rfl (fun _ _ _ h => h) trivial ⟨rfl, fun _ _ => by simp [go_sem, t3, hs0n, u3]⟩ ?_
          refine wpMix_q (v := .agg #[.int .i64 kx, .int .i64 ky, .int .i64 kz]) rfl rfl (fun _ _ _ h => h) trivial ⟨rfl, fun _ _ => by simp [go_sem]⟩ ?_
          refine wpMix_n rfl rfl ?_
          go_wp2_with fail
          refine ⟨fun _ => trivial, ?_⟩
          refine wpMix_n rfl rfl ?_
          go_wp2_with fail
          refine ⟨fun _ => trivial, ?_⟩
          refine wpMix_nil ?_
          go_upto_region 10 with fail
          clear t0 t1 t2 t3 u0 u1 u2 u3
          obtain ⟨T, hT⟩ : ∃ T, T = (V.alloc (.cells #[.int .i64 kx, .int .i64 ky, .int .i64 kz] 42)).drew := ⟨_, rfl⟩
          rw [← hT]
          have hB1 : Below V.heap.size V T := by rw [hT]; exact ((Below.refl _ V).alloc (Nat.le_refl _) _).drew
          have hp1 : Blk T V.heap.size 42 #[.int .i64 kx, .int .i64 ky, .int .i64 kz] := by rw [hT]; exact Blk.new V _ _
          have hzT : T.heap.size = V.heap.size + 1 := by rw [hT]; simp
          obtain ⟨c0x, c1x, c2x⟩ := hp1.three
          have H1 := hide (And.intro hB1 hp1)
          clear hB1 hp1 hT
          go_upto_region 11 with fail
          obtain ⟨T2, hT2⟩ : ∃ T2, T2 = T.alloc (.cells #[.int .i64 kx, .int .i64 ky, .int .i64 kz] 42) := ⟨_, rfl⟩
          rw [← hT2]
          have hB2 : Below V.heap.size V T2 := by rw [hT2]; exact H1.out.1.alloc H1.out.1.size _
          have hp2 : Blk T2 (V.heap.size + 1) 42 #[.int .i64 kx, .int .i64 ky, .int .i64 kz] := by rw [hT2]; exact Blk.new' _ _ _ _ hzT.symm
          have hp1 : Blk T2 V.heap.size 42 #[.int .i64 kx, .int .i64 ky, .int .i64 kz] := by rw [hT2]; exact H1.out.2.alloc _
          have hzT2 : T2.heap.size = V.heap.size + 2 := by rw [hT2]; simp [hzT]
          clear c0x c1x c2x
          obtain ⟨e0, e1, e2⟩ := hp2.three
          have f0 := hp2.frozen 1
          have H2 := hide (And.intro hB2 (And.intro hp1 hp2))
          clear hB2 hp1 hp2 hT2 hzT
          obtain ⟨k1, hk1⟩ : ∃ k1, k1 = ky + 1 := ⟨_, rfl⟩
          have hk2 : (ky : Int) + 1 = (k1 : Int) := by omega
          have hk10 : k1 ≤ 10 := by omega
          have HK1 := hide hk1
          clear hk1
          go_upto_region 12 with fail
          obtain ⟨T3, hT3⟩ : ∃ T3, T3 = T2.setCell ⟨V.heap.size + 1, 1, none⟩ (.int .i64 (k1 : Int)) := ⟨_, rfl⟩
          rw [← hT3]
          have hB3 : Below V.heap.size V T3 := by rw [hT3]; exact H2.out.1.setCell (by dsimp only; omega) _
          have hp2 : Blk T3 (V.heap.size + 1) 42 #[.int .i64 kx, .int .i64 k1, .int .i64 kz] := by rw [hT3]; exact H2.out.2.2.set_ 1 _
          have hp1 : Blk T3 V.heap.size 42 #[.int .i64 kx, .int .i64 ky, .int .i64 kz] := by rw [hT3]; exact H2.out.2.1.far (p := ⟨V.heap.size + 1, 1, none⟩) (by dsimp only; omega) _
          have hzT3 : T3.heap.size = V.heap.size + 2 := by rw [hT3]; simp [hzT2]
          clear e0 e1 e2 f0 hT3 hzT2
          obtain ⟨c0x, c1x, c2x⟩ := hp1.three
          obtain ⟨e0, e1, e2⟩ := hp2.three
          have hE3 := HV.out.on hB3
          obtain ⟨d0, d1⟩ := hE3.box.two7
          have H3 := hide (And.intro hE3 hB3)
          have HP1 := hide (show Blk T3.drew V.heap.size 42 #[.int .i64 kx, .int .i64 ky, .int .i64 kz] from hp1)
          clear hE3 hB3 hp1 hp2 H1 H2 hk2
          by_cases hin : k1 < s
          · have j2 : (k1 : Int) < (s : Int) := by omega
            obtain ⟨q1, q2, q3, i, vz1, vz2, vz3, vz4, hi, him⟩ := idx_nums hs9 (x := kx) (y := k1) (z := kz) (by omega) (by omega) (by omega)
            obtain ⟨p1, p2, p3, j, wz1, wz2, wz3, wz4, hj, hjm⟩ := idx_nums hs9 z1 z2 z3
            rw [HK.out.2] at hj
            obtain rfl : k = j := hj.symm
            rw [← HN.out.1] at him
            obtain rfl : p1 = q1 := Int.ofNat_inj.1 (wz1.symm.trans vz1)
            clear vz1
            have HWZ := hide (And.intro wz1 (And.intro wz2 (And.intro wz3 (And.intro wz4 (And.intro vz2 (And.intro vz3 vz4))))))
            clear wz1 wz2 wz3 wz4 vz2 vz3 vz4
            obtain ⟨b1, hb1⟩ : ∃ b1, F[k]? = some b1 := ⟨_, List.getElem?_eq_getElem (by rw [← HN.out.2.1]; exact hkm)⟩
            obtain ⟨b2, hb2⟩ : ∃ b2, F[i]? = some b2 := ⟨_, List.getElem?_eq_getElem (by rw [← HN.out.2.1]; exact him)⟩
            have hadd : add3 (vtxS s k) (1 : Int) 1 = ((kx : Int), (k1 : Int), (kz : Int)) := by rw [HK.out.1]; have := HK1.out; simp [add3, set3, cmp3]; omega
            have hcm : cmp3 (vtxS s k) (1 : Int) + 1 < (s : Int) := by rw [HK.out.1]; have := HK1.out; simp [cmp3]; omega
            have hv1 : fldV F s (vtxS s k) = b1 := fldV_get (vtxN_vtx s k).symm hb1
            have hv2 : fldV F s (add3 (vtxS s k) (1 : Int) 1) = b2 := by rw [hadd]; exact fldV_get hi hb2
            have het : edgT F s 1 k = (b1 != b2) := by
              unfold edgT
              rw [show (((1 : Nat) : Int)) = 1 from rfl, decide_eq_true hcm, hv1, hv2]
              rfl
            have e5 := H3.out.1.row.cell hb1
            have e6 := H3.out.1.row.cell hb2
            have j3 : (i : Int) < (m : Int) := Int.ofNat_lt.2 him
            have HT := hide het
            clear hj hi hjm him hb1 hb2 hadd hcm hv1 hv2 het
            obtain ⟨tt, htt⟩ : ∃ tt : Bool, tt = (b1 != b2) := ⟨_, rfl⟩
            rw [← htt] at HT
            obtain ⟨wz1, wz2, wz3, wz4, vz2, vz3, vz4⟩ := HWZ.out
            have hS0 : T3.drew = T3.drew := rfl
            refine wp_region_mix (fun W => W = T3.drew) [0, 1, 2, 3, 4, 5, 6, 7, 8, 9, 10, 11, 12, 13, 14, 15, 16, 17, 18, 19, 20, 21, 22, 23, 24, 25, 26, 27, 28, 29, 30, 31, 32, 33, 34, 35, 36, 37, 38, 39] [0, 1, 2, 3, 4, 5, 6, 7, 8, 9, 10, 11, 12, 13, 14, 15, 16, 17, 18, 19, 20, 21, 22, 23, 24, 25, 26, 27, 28, 29, 30, 31, 32, 33, 34, 35, 36, 37, 38, 39] mixed_ok (by kernel_rfl) ?_
            refine wpMix_q (v := .int .i64 1) rfl rfl (fun _ _ _ h => h) hS0 ⟨rfl, fun _ _ => by simp [go_sem]⟩ ?_
            refine wpMix_q (v := .pointer (some ⟨V.heap.size + 1, 1, none⟩)) rfl rfl (fun _ _ _ h => h) hS0 ⟨rfl, fun _ _ => by simp [go_sem]⟩ ?_
            refine wpMix_q (v := .int .i64 k1) rfl rfl (fun _ _ _ h => h) hS0 ⟨rfl, fun _ h' => by subst h'; simp [go_sem, e1]⟩ ?_
            refine wpMix_q (v := .int .i64 s) rfl rfl (fun _ _ _ h => h) hS0 ⟨rfl, fun _ _ => by simp [go_sem]⟩ ?_
            refine wpMix_q (v := .bool true) rfl rfl (fun _ _ _ h => h) hS0 ⟨rfl, fun _ _ => by simp [go_sem, j2]⟩ ?_
            try simp only [List.getElem_toArray, List.getElem_cons_succ, List.getElem_cons_zero, Act.put, List.setIfInBounds_toArray, List.set_cons_succ, List.set_cons_zero]
            refine wpMix_q (v := .bool true) rfl rfl (fun _ _ _ h => h) hS0 ⟨rfl, fun _ _ => by simp [go_sem]⟩ ?_
            refine wpMix_q (v := .pointer (some ⟨w.heap.size, 1, none⟩)) rfl rfl (fun _ _ _ h => h) hS0 ⟨rfl, fun _ _ => by simp [go_sem]⟩ ?_
            refine wpMix_q (v := .slice (some ⟨g, 0, none⟩) m m) rfl rfl (fun _ _ _ h => h) hS0 ⟨rfl, fun _ h' => by subst h'; simp [go_sem, d1]⟩ ?_
            refine wpMix_q (v := .pointer (some ⟨V.heap.size, 2, none⟩)) rfl rfl (fun _ _ _ h => h) hS0 ⟨rfl, fun _ _ => by simp [go_sem]⟩ ?_
            refine wpMix_q (v := .int .i64 kz) rfl rfl (fun _ _ _ h => h) hS0 ⟨rfl, fun _ h' => by subst h'; simp [go_sem, c2x]⟩ ?_
            try simp only [List.getElem_toArray, List.getElem_cons_succ, List.getElem_cons_zero, Act.put, List.setIfInBounds_toArray, List.set_cons_succ, List.set_cons_zero]
            refine wpMix_q (v := .int .i64 s) rfl rfl (fun _ _ _ h => h) hS0 ⟨rfl, fun _ _ => by simp [go_sem]⟩ ?_
            refine wpMix_q (v := .int .i64 p1) rfl rfl (fun _ _ _ h => h) hS0 ⟨rfl, fun _ _ => by simp [go_sem, IntWalk.i64_left, wz1]⟩ ?_
            refine wpMix_q (v := .pointer (some ⟨V.heap.size, 1, none⟩)) rfl rfl (fun _ _ _ h => h) hS0 ⟨rfl, fun _ _ => by simp [go_sem]⟩ ?_
            refine wpMix_q (v := .int .i64 ky) rfl rfl (fun _ _ _ h => h) hS0 ⟨rfl, fun _ h' => by subst h'; simp [go_sem, c1x]⟩ ?_
            refine wpMix_q (v := .int .i64 p2) rfl rfl (fun _ _ _ h => h) hS0 ⟨rfl, fun _ _ => by simp [go_sem, IntWalk.i64_left, wz2]⟩ ?_
            try simp only [List.getElem_toArray, List.getElem_cons_succ, List.getElem_cons_zero, Act.put, List.setIfInBounds_toArray, List.set_cons_succ, List.set_cons_zero]
            refine wpMix_q (v := .int .i64 s) rfl rfl (fun _ _ _ h => h) hS0 ⟨rfl, fun _ _ => by simp [go_sem]⟩ ?_
            refine wpMix_q (v := .int .i64 p3) rfl rfl (fun _ _ _ h => h) hS0 ⟨rfl, fun _ _ => by simp [go_sem, IntWalk.i64_left, wz3]⟩ ?_
            refine wpMix_q (v := .pointer (some ⟨V.heap.size, 0, none⟩)) rfl rfl (fun _ _ _ h => h) hS0 ⟨rfl, fun _ _ => by simp [go_sem]⟩ ?_
            refine wpMix_q (v := .int .i64 kx) rfl rfl (fun _ _ _ h => h) hS0 ⟨rfl, fun _ h' => by subst h'; simp [go_sem, c0x]⟩ ?_
            refine wpMix_q (v := .int .i64 k) rfl rfl (fun _ _ _ h => h) hS0 ⟨rfl, fun _ _ => by simp [go_sem, IntWalk.i64_left, wz4]⟩ ?_
            try simp only [List.getElem_toArray, List.getElem_cons_succ, List.getElem_cons_zero, Act.put, List.setIfInBounds_toArray, List.set_cons_succ, List.set_cons_zero]
            refine wpMix_q (v := .pointer (some ⟨g, k, none⟩)) rfl rfl (fun _ _ _ h => h) hS0 ⟨rfl, fun _ _ => by simp [go_sem, j1]⟩ ?_
            refine wpMix_q (v := .bool b1) rfl rfl (fun _ _ _ h => h) hS0 ⟨rfl, fun _ h' => by subst h'; simp [go_sem, e5]⟩ ?_
            refine wpMix_q (v := .pointer (some ⟨w.heap.size, 1, none⟩)) rfl rfl (fun _ _ _ h => h) hS0 ⟨rfl, fun _ _ => by simp [go_sem]⟩ ?_
            refine wpMix_q (v := .slice (some ⟨g, 0, none⟩) m m) rfl rfl (fun _ _ _ h => h) hS0 ⟨rfl, fun _ h' => by subst h'; simp [go_sem, d1]⟩ ?_
            refine wpMix_q (v := .pointer (some ⟨V.heap.size + 1, 2, none⟩)) rfl rfl (fun _ _ _ h => h) hS0 ⟨rfl, fun _ _ => by simp [go_sem]⟩ ?_
            try simp only [List.getElem_toArray, List.getElem_cons_succ, List.getElem_cons_zero, Act.put, List.setIfInBounds_toArray, List.set_cons_succ, List.set_cons_zero]
            refine wpMix_q (v := .int .i64 kz) rfl rfl (fun _ _ _ h => h) hS0 ⟨rfl, fun _ h' => by subst h'; simp [go_sem, e2]⟩ ?_
            refine wpMix_q (v := .int .i64 s) rfl rfl (fun _ _ _ h => h) hS0 ⟨rfl, fun _ _ => by simp [go_sem]⟩ ?_
            refine wpMix_q (v := .int .i64 p1) rfl rfl (fun _ _ _ h => h) hS0 ⟨rfl, fun _ _ => by simp [go_sem, IntWalk.i64_left, wz1]⟩ ?_
            refine wpMix_q (v := .pointer (some ⟨V.heap.size + 1, 1, none⟩)) rfl rfl (fun _ _ _ h => h) hS0 ⟨rfl, fun _ _ => by simp [go_sem]⟩ ?_
            refine wpMix_q (v := .int .i64 k1) rfl rfl (fun _ _ _ h => h) hS0 ⟨rfl, fun _ h' => by subst h'; simp [go_sem, e1]⟩ ?_
            try simp only [List.getElem_toArray, List.getElem_cons_succ, List.getElem_cons_zero, Act.put, List.setIfInBounds_toArray, List.set_cons_succ, List.set_cons_zero]
            refine wpMix_q (v := .int .i64 q2) rfl rfl (fun _ _ _ h => h) hS0 ⟨rfl, fun _ _ => by simp [go_sem, IntWalk.i64_left, vz2]⟩ ?_
            refine wpMix_q (v := .int .i64 s) rfl rfl (fun _ _ _ h => h) hS0 ⟨rfl, fun _ _ => by simp [go_sem]⟩ ?_
            refine wpMix_q (v := .int .i64 q3) rfl rfl (fun _ _ _ h => h) hS0 ⟨rfl, fun _ _ => by simp [go_sem, IntWalk.i64_left, vz3]⟩ ?_
            refine wpMix_q (v := .pointer (some ⟨V.heap.size + 1, 0, none⟩)) rfl rfl (fun _ _ _ h => h) hS0 ⟨rfl, fun _ _ => by simp [go_sem]⟩ ?_
            refine wpMix_q (v := .int .i64 kx) rfl rfl (fun _ _ _ h => h) hS0 ⟨rfl, fun _ h' => by subst h'; simp [go_sem, e0]⟩ ?_
            try simp only [List.getElem_toArray, List.getElem_cons_succ, List.getElem_cons_zero, Act.put, List.setIfInBounds_toArray, List.set_cons_succ, List.set_cons_zero]
            refine wpMix_q (v := .int .i64 i) rfl rfl (fun _ _ _ h => h) hS0 ⟨rfl, fun _ _ => by simp [go_sem, IntWalk.i64_left, vz4]⟩ ?_
            refine wpMix_q (v := .pointer (some ⟨g, i, none⟩)) rfl rfl (fun _ _ _ h => h) hS0 ⟨rfl, fun _ _ => by simp [go_sem, j3]⟩ ?_
            refine wpMix_q (v := .bool b2) rfl rfl (fun _ _ _ h => h) hS0 ⟨rfl, fun _ h' => by subst h'; simp [go_sem, e6]⟩ ?_
            refine wpMix_q (v := .bool tt) rfl rfl (fun _ _ _ h => h) hS0 ⟨rfl, fun _ _ => by simp only [htt]; cases b1 <;> cases b2 <;> simp [go_sem]⟩ ?_
            refine wpMix_q (v := .bool tt) rfl rfl (fun _ _ _ h => h) hS0 ⟨rfl, fun _ _ => by simp [go_sem]⟩ ?_
            refine wpMix_nil ?_
            clear wz1 wz2 wz3 wz4 vz2 vz3 vz4 htt d0 d1 c0x c1x c2x e0 e1 e2 e5 e6 hS0
            cases tt
            · have hno := edgP_no HT.out
              have HO := hide hno
              clear hno
              go_wp2_with fail
              go_roundw
              case rel =>
                have h3 := H3.out.1.on (Below.refl _ T3).drew
                exact ⟨k + 1, by omega, by go_num, h3.box, h3.row, by rw [HO.out]; exact h3.out, h3.bel⟩
              case measure => simp [intOf]; omega
            · have hyes := edgP_yes HT.out
              rw [HK.out.1] at hyes
              have hfw := edgP_few (F := F) (a := 1) (by omega) HN.out.1 hk
              obtain ⟨EL, hEL⟩ : ∃ EL, EL = edgP F s 1 k := ⟨_, rfl⟩
              obtain ⟨ne, hne⟩ : ∃ ne, ne = EL.length := ⟨_, rfl⟩
              have hown := H3.out.1.out.below (Below.refl _ T3).drew (Nat.le_refl _)
              rw [← hEL, ← hne] at hown
              rw [← hEL, ← hne] at hfw
              rw [← hEL] at hyes
              have h3 := H3.out.1.on (Below.refl _ T3).drew
              obtain ⟨c0x, c1x, c2x⟩ := HP1.out.three
              have HO := hide (And.intro hyes (And.intro hne (And.intro hown h3)))
              have hwsz : w.heap.size + 1 ≤ V.heap.size := hVs
              clear hyes hEL hne hown h3
              go_wp2_with (at_builtin; refine wpList_append1 rfl _ _ _ rfl Try.underlying25 infoEd rfl (by omega) encF_len encF_one rfl (HO.out.2.2.1.alloc _) (V.heap.size + 2) 1 (1, ((kx : Int), (ky : Int), (kz : Int))) rfl (Blk.new' _ _ _ _ hzT3.symm) (by unfold maxLen; omega) (by omega) (by simp [hzT3]; omega) ?_; intro gp cap U7 ho7 hg7 hB7 hat7 hgb7 hlt7)
              go_roundw
              case rel =>
                have hbA : Below (w.heap.size + 1) T3.drew U7 := ((Below.refl (w.heap.size + 1) T3.drew).alloc (by simp [hzT3]; omega) _).trans hB7
                refine ⟨k + 1, by omega, by go_num, HO.out.2.2.2.box.below hbA (by omega), HO.out.2.2.2.row.below hbA (by omega), ?_, HO.out.2.2.2.bel.trans (hbA.mono (by omega))⟩
                rw [HO.out.1, List.length_append, ← HO.out.2.1]
                exact ho7
              case measure => simp [intOf]; omega
          · have j2 : ¬ (k1 : Int) < (s : Int) := by omega
            have hcm : ¬ cmp3 (vtxS s k) (1 : Int) + 1 < (s : Int) := by rw [HK.out.1]; have := HK1.out; simp [cmp3]; omega
            have hno : edgP F s 1 (k + 1) = edgP F s 1 k := edgP_no (by unfold edgT; rw [show (((1 : Nat) : Int)) = 1 from rfl, decide_eq_false hcm]; rfl)
            have HO := hide hno
            clear hcm hno
            go_quiet (fail)
            go_wp2_with fail
            go_roundw
            case rel =>
              have h3 := H3.out.1.on (below_drewN (Below.refl _ T3) nq)
              exact ⟨k + 1, by omega, by go_num, h3.box, h3.row, by rw [HO.out]; exact h3.out, h3.bel⟩
            case measure => simp [intOf]; omega
        · have j1 : ¬ (k : Int) < (m : Int) := by omega
          obtain rfl : k = m := by omega
          have hnx := edgP_next F s 1
          rw [← HN.out.1] at hnx
          have HO := hide hnx
          clear hnx
          go_wp2_with fail
          go_roundw
          case rel => exact ⟨2, by omega, by go_num, HV.out.box, HV.out.row, by rw [← HO.out]; exact HV.out.out, HV.out.bel⟩
          case measure => simp [intOf]
    · rw [show ((2 : Nat) : Int) = 2 from rfl]
      go_wp2_with fail
      go_loopw [4, 6] (fun ov kv wr => ∃ k : Nat, k ≤ m ∧ kv = .int .i64 k ∧ EdgS w wr g s m (L : Int) F 2 k ov) (fun _ kv _ => m - (intOf kv).toNat)
      case atStart => exact ⟨0, by omega, rfl, HU.out⟩
      case round =>
        obtain ⟨V, rfl⟩ : ∃ V, V = wr := ⟨_, rfl⟩
        obtain ⟨k, hk, rfl, hE⟩ := hrel
        have HV := hide hE
        clear hE
        obtain ⟨hw1, hw2⟩ := HW.out
        by_cases hkm : k < m
        · have j1 : (k : Int) < (m : Int) := by omega
          have hs0 : 0 < s := by omega
          have hkm3 : k < s * s * s := by rw [← HN.out.1]; exact hkm
          obtain ⟨kx, kq, ky, kz, ⟨v1, v2, v3, v4⟩, t0, t1, t2, t3, ⟨z1, z2, z3, z4⟩, u0, u1, u2, u3⟩ := vtx_nums hs0 (Nat.le_trans hs9 (by decide)) hkm3
          have hs0n : ¬ s = 0 := by omega
          have hvt := vtx_is3 v1 v2 v3
          have hvn := vtxN_vtx s k
          rw [hvt] at hvn
          have HK := hide (And.intro hvt hvn)
          have hVs := HV.out.box.lt
          have hgV : g < V.heap.size := by have := HV.out.bel.size; omega
          clear hvt hvn v1 v2 v3 v4 hkm3
          go_upto_region 9 with fail
          clear hw1 hw2
          refine wp_region_mix (fun _ => True) [0, 1, 2, 3, 4, 5, 6, 7, 8, 9, 10, 11, 12, 13] [0, 1, 2, 3, 4, 5, 6, 7, 8, 9, 10, 11, 12, 13, 14, 15] mixed_ok (by kernel_rfl) ?_
          refine wpMix_q (v := .int .i64 k) rfl rfl (fun _ _ _ h => h) trivial ⟨rfl, fun _ _ => by simp [go_sem]⟩ ?_
          refine wpMix_q (v := .int .i64 s) rfl rfl (fun _ _ _ h => h) trivial ⟨rfl, fun _ _ => by simp [go_sem]⟩ ?_
          refine wpMix_q (v := .int .i64 kx) rfl rfl (fun _ _ _ h => h) trivial ⟨rfl, fun _ _ => by simp [go_sem, t0, hs0n]⟩ ?_
          refine wpMix_q (v := .int .i64 k) rfl rfl (fun _ _ _ h => h) trivial ⟨rfl, fun _ _ => by simp [go_sem]⟩ ?_
          refine wpMix_q (v := .int .i64 s) rfl rfl (fun _ _ _ h => h) trivial ⟨rfl, fun _ _ => by simp [go_sem]⟩ ?_
          simp only [List.getElem_toArray, List.getElem_cons_succ, List.getElem_cons_zero, Act.put, List.setIfInBounds_toArray, List.set_cons_succ, List.set_cons_zero]
          refine wpMix_q (v := .int .i64 kq) rfl rfl (fun _ _ _ h => h) trivial ⟨rfl, fun _ _ => by simp [go_sem, t1, hs0n, u1]⟩ ?_
          refine wpMix_q (v := .int .i64 s) rfl rfl (fun _ _ _ h => h) trivial ⟨rfl, fun _ _ => by simp [go_sem]⟩ ?_
          refine wpMix_q (v := .int .i64 ky) rfl rfl (fun _ _ _ h => h) trivial ⟨rfl, fun _ _ => by simp [go_sem, t2, hs0n]⟩ ?_
          refine wpMix_q (v := .int .i64 k) rfl rfl (fun _ _ _ h => h) trivial ⟨rfl, fun _ _ => by simp [go_sem]⟩ ?_
          refine wpMix_q (v := .int .i64 s) rfl rfl (fun _ _ _ h => h) trivial ⟨rfl, fun _ _ => by simp [go_sem]⟩ ?_
          simp only [List.getElem_toArray, List.getElem_cons_succ, List.getElem_cons_zero, Act.put, List.setIfInBounds_toArray, List.set_cons_succ, List.set_cons_zero]
          refine wpMix_q (v := .int .i64 kq) rfl rfl (fun _ _ _ h => h) trivial ⟨rfl, fun _ _ => by simp [go_sem, t1, hs0n, u1]⟩ ?_
          refine wpMix_q (v := .int .i64 s) rfl rfl (fun _ _ _ h => h) trivial ⟨rfl, fun _ _ => by simp [go_sem]⟩ ?_
          refine wpMix_q (v := .int .i64 kz) rfl rfl (fun _ _ _ h => h) trivial ⟨rfl, fun _ _ => by simp [go_sem, t3, hs0n, u3]⟩ ?_
          refine wpMix_q (v := .agg #[.int .i64 kx, .int .i64 ky, .int .i64 kz]) rfl rfl (fun _ _ _ h => h) trivial ⟨rfl, fun _ _ => by simp [go_sem]⟩ ?_
          refine wpMix_n rfl rfl ?_
          go_wp2_with fail
          refine ⟨fun _ => trivial, ?_⟩
          refine wpMix_n rfl rfl ?_
          go_wp2_with fail
          refine ⟨fun _ => trivial, ?_⟩
          refine wpMix_nil ?_
          go_upto_region 10 with fail
          clear t0 t1 t2 t3 u0 u1 u2 u3
          obtain ⟨T, hT⟩ : ∃ T, T = (V.alloc (.cells #[.int .i64 kx, .int .i64 ky, .int .i64 kz] 42)).drew := ⟨_, rfl⟩
          rw [← hT]
          have hB1 : Below V.heap.size V T := by rw [hT]; exact ((Below.refl _ V).alloc (Nat.le_refl _) _).drew
          have hp1 : Blk T V.heap.size 42 #[.int .i64 kx, .int .i64 ky, .int .i64 kz] := by rw [hT]; exact Blk.new V _ _
          have hzT : T.heap.size = V.heap.size + 1 := by rw [hT]; simp
          obtain ⟨c0x, c1x, c2x⟩ := hp1.three
          have H1 := hide (And.intro hB1 hp1)
          clear hB1 hp1 hT
          go_upto_region 11 with fail
          obtain ⟨T2, hT2⟩ : ∃ T2, T2 = T.alloc (.cells #[.int .i64 kx, .int .i64 ky, .int .i64 kz] 42) := ⟨_, rfl⟩
          rw [← hT2]
          have hB2 : Below V.heap.size V T2 := by rw [hT2]; exact H1.out.1.alloc H1.out.1.size _
          have hp2 : Blk T2 (V.heap.size + 1) 42 #[.int .i64 kx, .int .i64 ky, .int .i64 kz] := by rw [hT2]; exact Blk.new' _ _ _ _ hzT.symm
          have hp1 : Blk T2 V.heap.size 42 #[.int .i64 kx, .int .i64 ky, .int .i64 kz] := by rw [hT2]; exact H1.out.2.alloc _
          have hzT2 : T2.heap.size = V.heap.size + 2 := by rw [hT2]; simp [hzT]
          clear c0x c1x c2x
          obtain ⟨e0, e1, e2⟩ := hp2.three
          have f0 := hp2.frozen 2
          have H2 := hide (And.intro hB2 (And.intro hp1 hp2))
          clear hB2 hp1 hp2 hT2 hzT
          obtain ⟨k1, hk1⟩ : ∃ k1, k1 = kz + 1 := ⟨_, rfl⟩
          have hk2 : (kz : Int) + 1 = (k1 : Int) := by omega
          have hk10 : k1 ≤ 10 := by omega
          have HK1 := hide hk1
          clear hk1
          go_upto_region 12 with fail
          obtain ⟨T3, hT3⟩ : ∃ T3, T3 = T2.setCell ⟨V.heap.size + 1, 2, none⟩ (.int .i64 (k1 : Int)) := ⟨_, rfl⟩
          rw [← hT3]
          have hB3 : Below V.heap.size V T3 := by rw [hT3]; exact H2.out.1.setCell (by dsimp only; omega) _
          have hp2 : Blk T3 (V.heap.size + 1) 42 #[.int .i64 kx, .int .i64 ky, .int .i64 k1] := by rw [hT3]; exact H2.out.2.2.set_ 2 _
          have hp1 : Blk T3 V.heap.size 42 #[.int .i64 kx, .int .i64 ky, .int .i64 kz] := by rw [hT3]; exact H2.out.2.1.far (p := ⟨V.heap.size + 1, 2, none⟩) (by dsimp only; omega) _
          have hzT3 : T3.heap.size = V.heap.size + 2 := by rw [hT3]; simp [hzT2]
          clear e0 e1 e2 f0 hT3 hzT2
          obtain ⟨c0x, c1x, c2x⟩ := hp1.three
          obtain ⟨e0, e1, e2⟩ := hp2.three
          have hE3 := HV.out.on hB3
          obtain ⟨d0, d1⟩ := hE3.box.two7
          have H3 := hide (And.intro hE3 hB3)
          have HP1 := hide (show Blk T3.drew V.heap.size 42 #[.int .i64 kx, .int .i64 ky, .int .i64 kz] from hp1)
          clear hE3 hB3 hp1 hp2 H1 H2 hk2
          by_cases hin : k1 < s
          · have j2 : (k1 : Int) < (s : Int) := by omega
            obtain ⟨q1, q2, q3, i, vz1, vz2, vz3, vz4, hi, him⟩ := idx_nums hs9 (x := kx) (y := ky) (z := k1) (by omega) (by omega) (by omega)
            obtain ⟨p1, p2, p3, j, wz1, wz2, wz3, wz4, hj, hjm⟩ := idx_nums hs9 z1 z2 z3
            rw [HK.out.2] at hj
            obtain rfl : k = j := hj.symm
            rw [← HN.out.1] at him
            have HWZ := hide (And.intro wz1 (And.intro wz2 (And.intro wz3 (And.intro wz4 (And.intro vz1 (And.intro vz2 (And.intro vz3 vz4)))))))
            clear wz1 wz2 wz3 wz4 vz1 vz2 vz3 vz4
            obtain ⟨b1, hb1⟩ : ∃ b1, F[k]? = some b1 := ⟨_, List.getElem?_eq_getElem (by rw [← HN.out.2.1]; exact hkm)⟩
            obtain ⟨b2, hb2⟩ : ∃ b2, F[i]? = some b2 := ⟨_, List.getElem?_eq_getElem (by rw [← HN.out.2.1]; exact him)⟩
            have hadd : add3 (vtxS s k) (2 : Int) 1 = ((kx : Int), (ky : Int), (k1 : Int)) := by rw [HK.out.1]; have := HK1.out; simp [add3, set3, cmp3]; omega
            have hcm : cmp3 (vtxS s k) (2 : Int) + 1 < (s : Int) := by rw [HK.out.1]; have := HK1.out; simp [cmp3]; omega
            have hv1 : fldV F s (vtxS s k) = b1 := fldV_get (vtxN_vtx s k).symm hb1
            have hv2 : fldV F s (add3 (vtxS s k) (2 : Int) 1) = b2 := by rw [hadd]; exact fldV_get hi hb2
            have het : edgT F s 2 k = (b1 != b2) := by
              unfold edgT
              rw [show (((2 : Nat) : Int)) = 2 from rfl, decide_eq_true hcm, hv1, hv2]
              rfl
            have e5 := H3.out.1.row.cell hb1
            have e6 := H3.out.1.row.cell hb2
            have j3 : (i : Int) < (m : Int) := Int.ofNat_lt.2 him
            have HT := hide het
            clear hj hi hjm him hb1 hb2 hadd hcm hv1 hv2 het
            obtain ⟨tt, htt⟩ : ∃ tt : Bool, tt = (b1 != b2) := ⟨_, rfl⟩
            rw [← htt] at HT
            obtain ⟨wz1, wz2, wz3, wz4, vz1, vz2, vz3, vz4⟩ := HWZ.out
            have hS0 : T3.drew = T3.drew := rfl
            refine wp_region_mix (fun W => W = T3.drew) [0, 1, 2, 3, 4, 5, 6, 7, 8, 9, 10, 11, 12, 13, 14, 15, 16, 17, 18, 19, 20, 21, 22, 23, 24, 25, 26, 27, 28, 29, 30, 31, 32, 33, 34, 35, 36, 37, 38, 39] [0, 1, 2, 3, 4, 5, 6, 7, 8, 9, 10, 11, 12, 13, 14, 15, 16, 17, 18, 19, 20, 21, 22, 23, 24, 25, 26, 27, 28, 29, 30, 31, 32, 33, 34, 35, 36, 37, 38, 39] mixed_ok (by kernel_rfl) ?_
            refine wpMix_q (v := .int .i64 2) rfl rfl (fun _ _ _ h => h) hS0 ⟨rfl, fun _ _ => by simp [go_sem]⟩ ?_
            refine wpMix_q (v := .pointer (some ⟨V.heap.size + 1, 2, none⟩)) rfl rfl (fun _ _ _ h => h) hS0 ⟨rfl, fun _ _ => by simp [go_sem]⟩ ?_
            refine wpMix_q (v := .int .i64 k1) rfl rfl (fun _ _ _ h => h) hS0 ⟨rfl, fun _ h' => by subst h'; simp [go_sem, e2]⟩ ?_
            refine wpMix_q (v := .int .i64 s) rfl rfl (fun _ _ _ h => h) hS0 ⟨rfl, fun _ _ => by simp [go_sem]⟩ ?_
            refine wpMix_q (v := .bool true) rfl rfl (fun _ _ _ h => h) hS0 ⟨rfl, fun _ _ => by simp [go_sem, j2]⟩ ?_
            try simp only [List.getElem_toArray, List.getElem_cons_succ, List.getElem_cons_zero, Act.put, List.setIfInBounds_toArray, List.set_cons_succ, List.set_cons_zero]
            refine wpMix_q (v := .bool true) rfl rfl (fun _ _ _ h => h) hS0 ⟨rfl, fun _ _ => by simp [go_sem]⟩ ?_
            refine wpMix_q (v := .pointer (some ⟨w.heap.size, 1, none⟩)) rfl rfl (fun _ _ _ h => h) hS0 ⟨rfl, fun _ _ => by simp [go_sem]⟩ ?_
            refine wpMix_q (v := .slice (some ⟨g, 0, none⟩) m m) rfl rfl (fun _ _ _ h => h) hS0 ⟨rfl, fun _ h' => by subst h'; simp [go_sem, d1]⟩ ?_
            refine wpMix_q (v := .pointer (some ⟨V.heap.size, 2, none⟩)) rfl rfl (fun _ _ _ h => h) hS0 ⟨rfl, fun _ _ => by simp [go_sem]⟩ ?_
            refine wpMix_q (v := .int .i64 kz) rfl rfl (fun _ _ _ h => h) hS0 ⟨rfl, fun _ h' => by subst h'; simp [go_sem, c2x]⟩ ?_
            try simp only [List.getElem_toArray, List.getElem_cons_succ, List.getElem_cons_zero, Act.put, List.setIfInBounds_toArray, List.set_cons_succ, List.set_cons_zero]
            refine wpMix_q (v := .int .i64 s) rfl rfl (fun _ _ _ h => h) hS0 ⟨rfl, fun _ _ => by simp [go_sem]⟩ ?_
            refine wpMix_q (v := .int .i64 p1) rfl rfl (fun _ _ _ h => h) hS0 ⟨rfl, fun _ _ => by simp [go_sem, IntWalk.i64_left, wz1]⟩ ?_
            refine wpMix_q (v := .pointer (some ⟨V.heap.size, 1, none⟩)) rfl rfl (fun _ _ _ h => h) hS0 ⟨rfl, fun _ _ => by simp [go_sem]⟩ ?_
            refine wpMix_q (v := .int .i64 ky) rfl rfl (fun _ _ _ h => h) hS0 ⟨rfl, fun _ h' => by subst h'; simp [go_sem, c1x]⟩ ?_
            refine wpMix_q (v := .int .i64 p2) rfl rfl (fun _ _ _ h => h) hS0 ⟨rfl, fun _ _ => by simp [go_sem, IntWalk.i64_left, wz2]⟩ ?_
            try simp only [List.getElem_toArray, List.getElem_cons_succ, List.getElem_cons_zero, Act.put, List.setIfInBounds_toArray, List.set_cons_succ, List.set_cons_zero]
            refine wpMix_q (v := .int .i64 s) rfl rfl (fun _ _ _ h => h) hS0 ⟨rfl, fun _ _ => by simp [go_sem]⟩ ?_
            refine wpMix_q (v := .int .i64 p3) rfl rfl (fun _ _ _ h => h) hS0 ⟨rfl, fun _ _ => by simp [go_sem, IntWalk.i64_left, wz3]⟩ ?_
            refine wpMix_q (v := .pointer (some ⟨V.heap.size, 0, none⟩)) rfl rfl (fun _ _ _ h => h) hS0 ⟨rfl, fun _ _ => by simp [go_sem]⟩ ?_
            refine wpMix_q (v := .int .i64 kx) rfl rfl (fun _ _ _ h => h) hS0 ⟨rfl, fun _ h' => by subst h'; simp [go_sem, c0x]⟩ ?_
            refine wpMix_q (v := .int .i64 k) rfl rfl (fun _ _ _ h => h) hS0 ⟨rfl, fun _ _ => by simp [go_sem, IntWalk.i64_left, wz4]⟩ ?_
            try simp only [List.getElem_toArray, List.getElem_cons_succ, List.getElem_cons_zero, Act.put, List.setIfInBounds_toArray, List.set_cons_succ, List.set_cons_zero]
            refine wpMix_q (v := .pointer (some ⟨g, k, none⟩)) rfl rfl (fun _ _ _ h => h) hS0 ⟨rfl, fun _ _ => by simp [go_sem, j1]⟩ ?_
            refine wpMix_q (v := .bool b1) rfl rfl (fun _ _ _ h => h) hS0 ⟨rfl, fun _ h' => by subst h'; simp [go_sem, e5]⟩ ?_
            refine wpMix_q (v := .pointer (some ⟨w.heap.size, 1, none⟩)) rfl rfl (fun _ _ _ h => h) hS0 ⟨rfl, fun _ _ => by simp [go_sem]⟩ ?_
            refine wpMix_q (v := .slice (some ⟨g, 0, none⟩) m m) rfl rfl (fun _ _ _ h => h) hS0 ⟨rfl, fun _ h' => by subst h'; simp [go_sem, d1]⟩ ?_
            refine wpMix_q (v := .pointer (some ⟨V.heap.size + 1, 2, none⟩)) rfl rfl (fun _ _ _ h => h) hS0 ⟨rfl, fun _ _ => by simp [go_sem]⟩ ?_
            try simp only [List.getElem_toArray, List.getElem_cons_succ, List.getElem_cons_zero, Act.put, List.setIfInBounds_toArray, List.set_cons_succ, List.set_cons_zero]
            refine wpMix_q (v := .int .i64 k1) rfl rfl (fun _ _ _ h => h) hS0 ⟨rfl, fun _ h' => by subst h'; simp [go_sem, e2]⟩ ?_
            refine wpMix_q (v := .int .i64 s) rfl rfl (fun _ _ _ h => h) hS0 ⟨rfl, fun _ _ => by simp [go_sem]⟩ ?_
            refine wpMix_q (v := .int .i64 q1) rfl rfl (fun _ _ _ h => h) hS0 ⟨rfl, fun _ _ => by simp [go_sem, IntWalk.i64_left, vz1]⟩ ?_
            refine wpMix_q (v := .pointer (some ⟨V.heap.size + 1, 1, none⟩)) rfl rfl (fun _ _ _ h => h) hS0 ⟨rfl, fun _ _ => by simp [go_sem]⟩ ?_
            refine wpMix_q (v := .int .i64 ky) rfl rfl (fun _ _ _ h => h) hS0 ⟨rfl, fun _ h' => by subst h'; simp [go_sem, e1]⟩ ?_
            try simp only [List.getElem_toArray, List.getElem_cons_succ, List.getElem_cons_zero, Act.put, List.setIfInBounds_toArray, List.set_cons_succ, List.set_cons_zero]
            refine wpMix_q (v := .int .i64 q2) rfl rfl (fun _ _ _ h => h) hS0 ⟨rfl, fun _ _ => by simp [go_sem, IntWalk.i64_left, vz2]⟩ ?_
            refine wpMix_q (v := .int .i64 s) rfl rfl (fun _ _ _ h => h) hS0 ⟨rfl, fun _ _ => by simp [go_sem]⟩ ?_
            refine wpMix_q (v := .int .i64 q3) rfl rfl (fun _ _ _ h => h) hS0 ⟨rfl, fun _ _ => by simp [go_sem, IntWalk.i64_left, vz3]⟩ ?_
            refine wpMix_q (v := .pointer (some ⟨V.heap.size + 1, 0, none⟩)) rfl rfl (fun _ _ _ h => h) hS0 ⟨rfl, fun _ _ => by simp [go_sem]⟩ ?_
            refine wpMix_q (v := .int .i64 kx) rfl rfl (fun _ _ _ h => h) hS0 ⟨rfl, fun _ h' => by subst h'; simp [go_sem, e0]⟩ ?_
            try simp only [List.getElem_toArray, List.getElem_cons_succ, List.getElem_cons_zero, Act.put, List.setIfInBounds_toArray, List.set_cons_succ, List.set_cons_zero]
            refine wpMix_q (v := .int .i64 i) rfl rfl (fun _ _ _ h => h) hS0 ⟨rfl, fun _ _ => by simp [go_sem, IntWalk.i64_left, vz4]⟩ ?_
            refine wpMix_q (v := .pointer (some ⟨g, i, none⟩)) rfl rfl (fun _ _ _ h => h) hS0 ⟨rfl, fun _ _ => by simp [go_sem, j3]⟩ ?_
            refine wpMix_q (v := .bool b2) rfl rfl (fun _ _ _ h => h) hS0 ⟨rfl, fun _ h' => by subst h'; simp [go_sem, e6]⟩ ?_
            refine wpMix_q (v := .bool tt) rfl rfl (fun _ _ _ h => h) hS0 ⟨rfl, fun _ _ => by simp only [htt]; cases b1 <;> cases b2 <;> simp [go_sem]⟩ ?_
            refine wpMix_q (v := .bool tt) rfl rfl (fun _ _ _ h => h) hS0 ⟨rfl, fun _ _ => by simp [go_sem]⟩ ?_
            refine wpMix_nil ?_
            clear wz1 wz2 wz3 wz4 vz1 vz2 vz3 vz4 htt d0 d1 c0x c1x c2x e0 e1 e2 e5 e6 hS0
            cases tt
            · have hno := edgP_no HT.out
              have HO := hide hno
              clear hno
              go_wp2_with fail
              go_roundw
              case rel =>
                have h3 := H3.out.1.on (Below.refl _ T3).drew
                exact ⟨k + 1, by omega, by go_num, h3.box, h3.row, by rw [HO.out]; exact h3.out, h3.bel⟩
              case measure => simp [intOf]; omega
            · have hyes := edgP_yes HT.out
              rw [HK.out.1] at hyes
              have hfw := edgP_few (F := F) (a := 2) (by omega) HN.out.1 hk
              obtain ⟨EL, hEL⟩ : ∃ EL, EL = edgP F s 2 k := ⟨_, rfl⟩
              obtain ⟨ne, hne⟩ : ∃ ne, ne = EL.length := ⟨_, rfl⟩
              have hown := H3.out.1.out.below (Below.refl _ T3).drew (Nat.le_refl _)
              rw [← hEL, ← hne] at hown
              rw [← hEL, ← hne] at hfw
              rw [← hEL] at hyes
              have h3 := H3.out.1.on (Below.refl _ T3).drew
              obtain ⟨c0x, c1x, c2x⟩ := HP1.out.three
              have HO := hide (And.intro hyes (And.intro hne (And.intro hown h3)))
              have hwsz : w.heap.size + 1 ≤ V.heap.size := hVs
              clear hyes hEL hne hown h3
              go_wp2_with (at_builtin; refine wpList_append1 rfl _ _ _ rfl Try.underlying25 infoEd rfl (by omega) encF_len encF_one rfl (HO.out.2.2.1.alloc _) (V.heap.size + 2) 1 (2, ((kx : Int), (ky : Int), (kz : Int))) rfl (Blk.new' _ _ _ _ hzT3.symm) (by unfold maxLen; omega) (by omega) (by simp [hzT3]; omega) ?_; intro gp cap U7 ho7 hg7 hB7 hat7 hgb7 hlt7)
              go_roundw
              case rel =>
                have hbA : Below (w.heap.size + 1) T3.drew U7 := ((Below.refl (w.heap.size + 1) T3.drew).alloc (by simp [hzT3]; omega) _).trans hB7
                refine ⟨k + 1, by omega, by go_num, HO.out.2.2.2.box.below hbA (by omega), HO.out.2.2.2.row.below hbA (by omega), ?_, HO.out.2.2.2.bel.trans (hbA.mono (by omega))⟩
                rw [HO.out.1, List.length_append, ← HO.out.2.1]
                exact ho7
              case measure => simp [intOf]; omega
          · have j2 : ¬ (k1 : Int) < (s : Int) := by omega
            have hcm : ¬ cmp3 (vtxS s k) (2 : Int) + 1 < (s : Int) := by rw [HK.out.1]; have := HK1.out; simp [cmp3]; omega
            have hno : edgP F s 2 (k + 1) = edgP F s 2 k := edgP_no (by unfold edgT; rw [show (((2 : Nat) : Int)) = 2 from rfl, decide_eq_false hcm]; rfl)
            have HO := hide hno
            clear hcm hno
            go_quiet (fail)
            go_wp2_with fail
            go_roundw
            case rel =>
              have h3 := H3.out.1.on (below_drewN (Below.refl _ T3) nq)
              exact ⟨k + 1, by omega, by go_num, h3.box, h3.row, by rw [HO.out]; exact h3.out, h3.bel⟩
            case measure => simp [intOf]; omega
        · have j1 : ¬ (k : Int) < (m : Int) := by omega
          obtain rfl : k = m := by omega
          have hnx := edgP_next F s 2
          rw [← HN.out.1] at hnx
          have HO := hide hnx
          clear hnx
          go_wp2_with fail
          go_roundw
          case rel => exact ⟨3, by omega, by go_num, HV.out.box, HV.out.row, by rw [← HO.out]; exact HV.out.out, HV.out.bel⟩
          case measure => simp [intOf]
end Go.Proofs.Ytdpgohpbannfnaa
