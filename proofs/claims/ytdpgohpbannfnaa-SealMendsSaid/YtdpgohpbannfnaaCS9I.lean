/- SealMends: the walk (printed by mk_S9I.py). -/
import Derived.Test.YtdpgohpbannfnaaCS9H
namespace Go.Proofs.Ytdpgohpbannfnaa
open Go.RowKit Go.Sort Go.WideMaps Go.Maps
theorem wrapS {a : Nat} {b : Nat} (h : a ≤ b) (hb : b ≤ 100000 := by decide) : wrap64 (a : Int) = (a : Int) := by unfold wrap64; omega
/-- The numbers of SealMends, step by step. -/
theorem mend_nums {L : Nat} (h1 : 1 ≤ L) (h3 : L ≤ 3) : ∃ n s m M1 M2 M3 : Nat, n = 2 ^ L ∧ s = n + 1 ∧ n = m + 1 ∧ (1 ≤ m ∧ m ≤ 7) ∧ M3 = 3 * m * m * n ∧ (1 ≤ M3 ∧ M3 ≤ 2000) ∧ wrap64 (3 * (m : Int)) = (M1 : Int) ∧ wrap64 ((M1 : Int) * (m : Int)) = (M2 : Int) ∧ wrap64 ((M2 : Int) * (n : Int)) = (M3 : Int) := by
  have hc : L = 1 ∨ L = 2 ∨ L = 3 := by omega
  rcases hc with rfl | rfl | rfl
  · exact ⟨2, 3, 1, 3, 3, 6, rfl, rfl, rfl, by omega, rfl, by omega, mulW7 (a := 3) (by omega) (by omega), mulW7 (by omega) (by omega), mulW7 (by omega) (by omega)⟩
  · exact ⟨4, 5, 3, 9, 27, 108, rfl, rfl, rfl, by omega, rfl, by omega, mulW7 (a := 3) (by omega) (by omega), mulW7 (by omega) (by omega), mulW7 (by omega) (by omega)⟩
  · exact ⟨8, 9, 7, 21, 147, 1176, rfl, rfl, rfl, by omega, rfl, by omega, mulW7 (a := 3) (by omega) (by omega), mulW7 (by omega) (by omega), mulW7 (by omega) (by omega)⟩
/-- The edges and one more, behind some world. -/
def MndS (T wx : World) (es : List EF) (k : Nat) (v : Value) : Prop := ∃ A c, v = .slice A k c ∧ Sl encF 4 wx wx.heap.size A es ∧ Below T.heap.size T wx
/-- The edge's coordinates, step by step. -/
theorem mend_parts {m n kk : Nat} (hm : 1 ≤ m) (hn : n = m + 1) (hk : kk < 3 * m * m * n) : ∃ k2 x k3 y0 z0 : Nat, k2 = kk / 3 ∧ x = k2 % n ∧ k3 = k2 / n ∧ y0 = k3 % m ∧ z0 = k3 / m ∧ x < n ∧ y0 < m ∧ z0 < m := by
  refine ⟨_, _, _, _, _, rfl, rfl, rfl, rfl, rfl, Nat.mod_lt _ (by omega), Nat.mod_lt _ (by omega), ?_⟩
  refine (Nat.div_lt_iff_lt_mul (by omega)).2 ((Nat.div_lt_iff_lt_mul (by omega)).2 ((Nat.div_lt_iff_lt_mul (by omega)).2 ?_))
  have e : m * m * n * 3 = 3 * m * m * n := by rw [Nat.mul_comm (m * m * n) 3, Nat.mul_assoc 3 m m, Nat.mul_assoc 3 (m * m) n]
  rw [e]
  exact hk
theorem edge_inn {n a : Int} {x y z : Nat} (ha : a = 0 ∨ a = 1 ∨ a = 2) (hx : (x : Int) < n ∧ (a = 0 ∨ x ≠ 0)) (hy : (y : Int) < n ∧ (a = 1 ∨ y ≠ 0)) (hz : (z : Int) < n ∧ (a = 2 ∨ z ≠ 0)) : innE n (a, (x : Int), (y : Int), (z : Int)) = true := by
  unfold innE
  simp only [Bool.and_eq_true, decide_eq_true_eq]
  refine ⟨by omega, by omega, by omega, by omega⟩
set_option maxRecDepth 100000 in
set_option maxHeartbeats 32000000 in
theorem mends7_walk (A0 : Option Addr) (c0 : Nat) (ns0 : List Int) (x1 : Int) (x2 : Int) (w : World) (hs0 : ns0 ≠ [] → Sl encZ 1 w w.heap.size A0 ns0) (_hf0 : ∀ x ∈ ns0, fits x) (hl0 : ns0.length ≤ 9223372036854775807) (_hx1 : fits x1) (_hx2 : fits x2) :
    Calls Try.prog 6 #[.slice A0 ns0.length c0, .int .i64 x1, .int .i64 x2] w fun e w' => e = .returned (.bool true) ∧ Below w.heap.size w w' := by
  have hmade := fun (W : World) (hW : Below w.heap.size w W) => made7_any x2 A0 c0 ns0 W (fun hne => ((hs0 hne).below hW).more hW.size) hl0
  obtain ⟨N0, hN0⟩ : ∃ N, N = ns0.length := ⟨_, rfl⟩
  rw [← hN0] at hmade ⊢
  obtain ⟨hL1, hL3⟩ := levP_bound x2
  obtain ⟨L, hL⟩ : ∃ L, L = levP x2 := ⟨_, rfl⟩
  rw [← hL] at hmade hL1 hL3
  have hL8 : 1 ≤ (L : Int) ∧ (L : Int) ≤ 8 := by omega
  have hsd := side7_any (L : Int)
  rw [sideP_in hL8, Int.toNat_natCast] at hsd
  have HL := hide (And.intro hL1 (And.intro hL3 hL8))
  obtain ⟨n, s, mm, M1, M2, M3, hn, hs, hnm, ⟨hm1, hm7⟩, hM3, ⟨hM3a, hM3b⟩, wM1, wM2, wM3⟩ := mend_nums hL1 hL3
  rw [← hn, ← hs] at hsd
  have hmod := mod_any x1 (M3 : Int) (Int.ofNat_lt.2 hM3a) (Int.ofNat_le.2 (Nat.le_trans hM3b (by decide)))
  have hmb := modC_bound x1 (M3 : Int) (Int.ofNat_lt.2 hM3a)
  have hnw : wrap64 (n : Int) = (n : Int) := by have h7 := hm7; clear wM1 wM2 wM3; unfold wrap64; omega
  have HWM := hide (And.intro wM1 (And.intro wM2 (And.intro wM3 hnw)))
  clear hnw
  clear wM1 wM2 wM3
  obtain ⟨kk, hkk⟩ : ∃ kk : Nat, (kk : Int) = modC x1 (M3 : Int) := ⟨(modC x1 (M3 : Int)).toNat, by omega⟩
  rw [← hkk] at hmod hmb
  have hkM : kk < 3 * mm * mm * n := by rw [← hM3]; omega
  obtain ⟨k2, x, k3, y0, z0, p1, p2, p3, p4, p5, bx, by', bz⟩ := mend_parts hm1 hnm hkM
  have hkk9 : kk ≤ 2000 := by omega
  have hk29 : k2 ≤ 2000 := by omega
  have hk39 : k3 ≤ 2000 := by rw [p3]; exact Nat.le_trans (Nat.div_le_self _ _) hk29
  have hsn2 : (s : Int) - 2 = (mm : Int) := by omega
  have hmn1 : (mm : Int) + 1 = (n : Int) := by omega
  have r1 : (kk : Int) / 3 = (k2 : Int) := by omega
  have r2 : (k2 : Int) % (n : Int) = (x : Int) := by rw [p2]; rfl
  have r3 : (k2 : Int) / (n : Int) = (k3 : Int) := by rw [p3]; rfl
  have r4 : (k3 : Int) % (mm : Int) = (y0 : Int) := by rw [p4]; rfl
  have r5 : (k3 : Int) / (mm : Int) = (z0 : Int) := by rw [p5]; rfl
  have r6 : (k2 : Int).tmod (n : Int) = (x : Int) := by rw [Int.tmod_eq_emod_of_nonneg (by omega)]; exact r2
  have r7 : (k2 : Int).tdiv (n : Int) = (k3 : Int) := by rw [Int.tdiv_eq_ediv_of_nonneg (by omega)]; exact r3
  have r8 : (k3 : Int).tmod (mm : Int) = (y0 : Int) := by rw [Int.tmod_eq_emod_of_nonneg (by omega)]; exact r4
  have r9 : (k3 : Int).tdiv (mm : Int) = (z0 : Int) := by rw [Int.tdiv_eq_ediv_of_nonneg (by omega)]; exact r5
  have hn0 : ¬ n = 0 := by omega
  have hmm0 : ¬ mm = 0 := by omega
  obtain ⟨y, hy⟩ : ∃ y, y = 1 + y0 := ⟨_, rfl⟩
  obtain ⟨z, hz⟩ : ∃ z, z = 1 + z0 := ⟨_, rfl⟩
  have hyI : 1 + (y0 : Int) = (y : Int) := by omega
  have hzI : 1 + (z0 : Int) = (z : Int) := by omega
  have hyb : y < n ∧ 1 ≤ y := by omega
  have hzb : z < n ∧ 1 ≤ z := by omega
  have HR := hide (And.intro hsn2 (And.intro hmn1 (And.intro r1 (And.intro r2 (And.intro r3 (And.intro r4 (And.intro r5 (And.intro r6 (And.intro r7 (And.intro r8 (And.intro r9 (And.intro hyI hzI))))))))))))
  have HB := hide (And.intro bx (And.intro hyb hzb))
  have HBB := hide (show (x ≤ 10 ∧ y ≤ 10 ∧ z ≤ 10) ∧ y0 ≤ 10 ∧ z0 ≤ 10 ∧ n ≤ 10 ∧ mm ≤ 10 by omega)
  have HN := hide hn
  have HMB := hide (And.intro hm1 hm7)
  have HMC := hide (And.intro hM3a hM3b)
  clear hm1 hm7 hM3a hM3b
  have H0 := hide (And.intro hmade (And.intro hsd hmod))
  clear hmade hsd hmod hmb hs0 hl0 hN0 hL hL1 hL3 hL8 hn hs hnm hM3 hkk hkM p1 p2 p3 p4 p5 by' bz bx hy hz hyb hzb r1 r2 r3 r4 r5 r6 r7 r8 r9 hyI hzI hsn2 hmn1
  go_enter Try.func6, Try.ntmps6
  go_wp2_with fail
  refine (sanity7_any w).mono ?_
  rintro e w1 ⟨rfl, hB1⟩
  have H1 := hide hB1
  clear hB1
  go_wp2_with fail
  refine (H0.out.1 w1 H1.out).mono ?_
  rintro e w2 ⟨g, F, rfl, hr, hg, hout, hB2⟩
  obtain ⟨m, hm⟩ : ∃ m, m = F.length := ⟨_, rfl⟩
  rw [← hm]
  rw [← HN.out] at hout
  have H2 := hide (And.intro hr (And.intro hm (And.intro hout (H1.out.trans (hB2.mono H1.out.size)))))
  clear hr hg hout hB2 hm
  go_upto_region 3 with fail
  obtain ⟨X1, hX1⟩ : ∃ X, X = w2.alloc (.cells #[.int .i64 (L : Int), .slice (some ⟨g, 0, none⟩) m m] 32) := ⟨_, rfl⟩
  rw [← hX1]
  obtain ⟨hb, hB⟩ := box7 hX1
  have K1 := hide (And.intro hb (And.intro (H2.out.1.on hB) (H2.out.2.2.2.trans (hB.mono H2.out.2.2.2.size))))
  obtain ⟨d0, d1⟩ := hb.two7
  clear hb hB hX1
  obtain ⟨n1, hn1⟩ : ∃ n, n = w2.heap.size := ⟨_, rfl⟩
  rw [← hn1] at K1 d0 d1 ⊢
  clear hn1
  go_wp2_with fail
  refine (H0.out.2.1 X1).mono ?_
  rintro e w3 ⟨rfl, hw3⟩
  obtain rfl : X1 = w3 := hw3.symm
  have hsn2 := HR.out.1
  have hm7 := HMB.out.2
  go_upto_region 5 with fail
  clear hsn2 hm7
  have hmn1 := HR.out.2.1
  obtain ⟨wM1, wM2, wM3, hnw⟩ := HWM.out
  go_wp2_with fail
  with_reducible refine (H0.out.2.2 X1).mono ?_
  rintro e w3 ⟨rfl, hw3⟩
  obtain rfl : X1 = w3 := hw3.symm
  clear wM1 wM2 wM3 hmn1 hnw
  have hc : kk % 3 = 0 ∨ kk % 3 = 1 ∨ kk % 3 = 2 := by omega
  rcases hc with ha | ha | ha
  · have q1 : (kk : Int) % 3 = 0 := by omega
    have q2 : (kk : Int).tmod 3 = 0 := by rw [Int.tmod_eq_emod_of_nonneg (by omega)]; exact q1
    clear ha
    have r1 := HR.out.2.2.1
    go_upto_region 9 with fail
    clear r1 q1 q2
    obtain ⟨Y0, hY0⟩ : ∃ Y, Y = X1.alloc (.cells #[.int .i64 0, .int .i64 0, .int .i64 0] 42) := ⟨_, rfl⟩
    rw [← hY0]
    have hbY0 : Blk Y0 X1.heap.size 42 #[.int .i64 0, .int .i64 0, .int .i64 0] := by rw [hY0]; exact Blk.new _ _ _
    have hBY0 : Below X1.heap.size X1 Y0 := by rw [hY0]; exact (Below.refl _ X1).alloc (Nat.le_refl _) _
    obtain ⟨a0, a1, a2⟩ := hbY0.three
    have f0 := hbY0.frozen 0
    have f1 := hbY0.frozen 1
    have f2 := hbY0.frozen 2
    have K2 := hide (And.intro hbY0 hBY0)
    clear hbY0 hBY0 hY0
    have r2 := HR.out.2.2.2.1
    have hmn1 := HR.out.2.1
    have bn := HBB.out.2.2.2.1
    go_upto_region 10 with fail
    obtain ⟨Y1, hY1⟩ : ∃ Y, Y = Y0.setCell ⟨X1.heap.size, 0, none⟩ (.int .i64 (x : Int)) := ⟨_, rfl⟩
    rw [← hY1]
    have hbY1 : Blk Y1 X1.heap.size 42 (#[.int .i64 0, .int .i64 0, .int .i64 0].setIfInBounds 0 (.int .i64 (x : Int))) := by rw [hY1]; exact K2.out.1.set_ 0 _
    have hBY1 : Below X1.heap.size X1 Y1 := by rw [hY1]; exact K2.out.2.setCell (by dsimp only; omega) _
    have K3 := hide (And.intro hbY1 hBY1)
    clear r2 a0 a1 a2 f0 f1 f2 hY1
    have f1 := hbY1.frozen 1
    have a0 := hbY1.cell 0
    have a1 := hbY1.cell 1
    have a2 := hbY1.cell 2
    simp at a0 a1 a2
    clear hbY1 hBY1
    have r3 := HR.out.2.2.2.2.1
    have r4 := HR.out.2.2.2.2.2.1
    have hyI := HR.out.2.2.2.2.2.2.2.2.2.2.2.1
    have by0 := HBB.out.2.1
    have by1 := HBB.out.1.2.1
    go_upto_region 11 with fail
    obtain ⟨Y2, hY2⟩ : ∃ Y, Y = Y1.setCell ⟨X1.heap.size, 1, none⟩ (.int .i64 (y : Int)) := ⟨_, rfl⟩
    rw [← hY2]
    have hbY2 : Blk Y2 X1.heap.size 42 ((#[.int .i64 0, .int .i64 0, .int .i64 0].setIfInBounds 0 (.int .i64 (x : Int))).setIfInBounds 1 (.int .i64 (y : Int))) := by rw [hY2]; exact K3.out.1.set_ 1 _
    have hBY2 : Below X1.heap.size X1 Y2 := by rw [hY2]; exact K3.out.2.setCell (by dsimp only; omega) _
    have K4 := hide (And.intro hbY2 hBY2)
    clear r4 hyI by0 by1 a0 a1 a2 f1 hY2
    have f1 := hbY2.frozen 2
    have a0 := hbY2.cell 0
    have a1 := hbY2.cell 1
    have a2 := hbY2.cell 2
    simp at a0 a1 a2
    clear hbY2 hBY2
    have r5 := HR.out.2.2.2.2.2.2.1
    have hzI := HR.out.2.2.2.2.2.2.2.2.2.2.2.2
    have bz0 := HBB.out.2.2.1
    have bz1 := HBB.out.1.2.2
    go_upto_region 12 with fail
    obtain ⟨T, hT⟩ : ∃ T, T = Y2.setCell ⟨X1.heap.size, 2, none⟩ (.int .i64 (z : Int)) := ⟨_, rfl⟩
    rw [← hT]
    have hbT : Blk T X1.heap.size 42 #[.int .i64 (x : Int), .int .i64 (y : Int), .int .i64 (z : Int)] := by rw [hT]; exact K4.out.1.set_ 2 _
    have hBT : Below X1.heap.size X1 T := by rw [hT]; exact K4.out.2.setCell (by dsimp only; omega) _
    clear r3 r5 hzI hmn1 bn bz0 bz1 a0 a1 a2 f1 hT
    have hbx := K1.out.1.on hBT
    have hrT := K1.out.2.1.on hBT
    have hS : ∀ W, Below T.heap.size T W → (W.cell? ⟨n1, 0, none⟩ = some (.int .i64 (L : Int)) ∧ W.cell? ⟨n1, 1, none⟩ = some (.slice (some ⟨g, 0, none⟩) m m)) ∧ (W.cell? ⟨X1.heap.size, 0, none⟩ = some (.int .i64 (x : Int)) ∧ W.cell? ⟨X1.heap.size, 1, none⟩ = some (.int .i64 (y : Int)) ∧ W.cell? ⟨X1.heap.size, 2, none⟩ = some (.int .i64 (z : Int))) := fun W hW => ⟨(hbx.on hW).two7, (hbT.on hW).three⟩
    have HS := hide hS
    have HT := hide (And.intro hbx (And.intro hrT (K1.out.2.2.trans (hBT.mono K1.out.2.2.size))))
    have hq0 := hS T.drew (Below.refl _ T).drew
    have HQ := hide hq0
    clear hbx hrT hbT hBT hS hq0 d0 d1
    obtain ⟨el, hel⟩ : ∃ el, el = edgL F (n + 1) := ⟨_, rfl⟩
    obtain ⟨N3, hN3⟩ : ∃ N, N = el.length := ⟨_, rfl⟩
    have hin : innE (n : Int) (0, ((x : Int), (y : Int), (z : Int))) = true := by have hb := HB.out; exact edge_inn (by omega) (by omega) (by omega) (by omega)
    have hnp := HN.out
    have hm729 : m ≤ 729 ∧ n ≤ 8 ∧ m = (n + 1) * (n + 1) * (n + 1) := by
      have h1 := H2.out.2.2.1.1
      rw [← H2.out.2.1] at h1
      have h2 := HL.out
      have hc : L = 1 ∨ L = 2 ∨ L = 3 := by omega
      rcases hc with rfl | rfl | rfl <;> (rw [hnp] at h1 ⊢; refine ⟨?_, by decide, h1⟩; rw [h1]; decide)
    have hN30 : N3 ≤ 4 * m := by rw [hN3, hel]; exact edgL_few hm729.2.2
    have hed : ∀ W, Below T.heap.size T W → Calls Try.prog 15 #[.agg #[.int .i64 (L : Int), .slice (some ⟨g, 0, none⟩) m m]] W fun e w' => ∃ A c, e = .returned (.slice A N3 c) ∧ Own encF 4 44 w' W.heap.size (.slice A N3 c) N3 el ∧ Below W.heap.size W w' := by
      intro W hW
      have h := edges7_any L g HL.out.1 HL.out.2.1 F m H2.out.2.1 (by rw [← hnp, ← H2.out.2.1]; exact hm729.2.2) W (HT.out.2.1.on hW)
      rw [← hnp, ← hel, ← hN3] at h
      exact h
    have HE := hide hed
    have hN3b : N3 ≤ 2916 := by omega
    have HF := hide (And.intro hel (And.intro hN3 (And.intro hin hm729)))
    clear hel hN3 hin hnp hm729 hN30 hed
    obtain ⟨N4, hN4⟩ : ∃ N4, N4 = N3 + 1 := ⟨_, rfl⟩
    have hN4b : N4 ≤ 3000 := by omega
    have HN4 := hide hN4
    clear hN4
    go_cut [14] (fun v wx => MndS T wx (el ++ [(0, ((x : Int), (y : Int), (z : Int)))]) N4 v)
    case first =>
      refine wp_region_tree (fun W => (W.cell? ⟨n1, 0, none⟩ = some (.int .i64 (L : Int)) ∧ W.cell? ⟨n1, 1, none⟩ = some (.slice (some ⟨g, 0, none⟩) m m)) ∧ (W.cell? ⟨X1.heap.size, 0, none⟩ = some (.int .i64 (x : Int)) ∧ W.cell? ⟨X1.heap.size, 1, none⟩ = some (.int .i64 (y : Int)) ∧ W.cell? ⟨X1.heap.size, 2, none⟩ = some (.int .i64 (z : Int)))) [0, 2, 3, 4, 5, 6, 7, 8, 9] (.q 0 (.q 2 (.q 3 (.q 4 (.q 5 (.q 6 (.q 7 (.q 8 (.q 9 (.two 1 (.one 10 (.one 11 (.one 12 .nil))) 10 (.one 1 (.one 11 (.one 12 .nil))))))))))))) mixed_ok (by kernel_rfl) ?_
      refine wpMixT_q (v := .agg #[.int .i64 (L : Int), .slice (some ⟨g, 0, none⟩) m m]) rfl (fun _ _ _ h => h) HQ.out ⟨rfl, fun _ h' => by simp [go_sem, h'.1.1, h'.1.2]⟩ ?_
      refine wpMixT_q (v := .int .i64 0) rfl (fun _ _ _ h => h) HQ.out ⟨rfl, fun _ h' => by simp [go_sem]⟩ ?_
      refine wpMixT_q (v := .pointer (some ⟨X1.heap.size, 0, none⟩)) rfl (fun _ _ _ h => h) HQ.out ⟨rfl, fun _ h' => by simp [go_sem]⟩ ?_
      refine wpMixT_q (v := .int .i64 (x : Int)) rfl (fun _ _ _ h => h) HQ.out ⟨rfl, fun _ h' => by simp [go_sem, h'.2.1]⟩ ?_
      refine wpMixT_q (v := .pointer (some ⟨X1.heap.size, 1, none⟩)) rfl (fun _ _ _ h => h) HQ.out ⟨rfl, fun _ h' => by simp [go_sem]⟩ ?_
      refine wpMixT_q (v := .int .i64 (y : Int)) rfl (fun _ _ _ h => h) HQ.out ⟨rfl, fun _ h' => by simp [go_sem, h'.2.2.1]⟩ ?_
      refine wpMixT_q (v := .pointer (some ⟨X1.heap.size, 2, none⟩)) rfl (fun _ _ _ h => h) HQ.out ⟨rfl, fun _ h' => by simp [go_sem]⟩ ?_
      refine wpMixT_q (v := .int .i64 (z : Int)) rfl (fun _ _ _ h => h) HQ.out ⟨rfl, fun _ h' => by simp [go_sem, h'.2.2.2]⟩ ?_
      refine wpMixT_q (v := .agg #[.int .i64 0, .int .i64 (x : Int), .int .i64 (y : Int), .int .i64 (z : Int)]) rfl (fun _ _ _ h => h) HQ.out ⟨rfl, fun _ h' => by simp [go_sem]⟩ ?_
      try simp only [List.getElem_toArray, List.getElem_cons_succ, List.getElem_cons_zero, Act.put, List.setIfInBounds_toArray, List.set_cons_succ, List.set_cons_zero]
      have hTd : Below T.heap.size T T.drew := (Below.refl _ T).drew
      refine wpMixT_two rfl rfl ?_ ?_
      · go_wp2_with fail
        refine (HE.out T.drew hTd).mono ?_
        rintro e U ⟨A3, c3, rfl, ho, hB⟩
        have hTU : Below T.heap.size T U := hTd.trans hB
        have hUs := hTU.size
        have HU := hide (And.intro ho hTU)
        clear ho hB hTU
        go_wp2_with fail
        refine ⟨fun _ => HS.out U HU.out.2, ?_⟩
        refine wpMixT_one rfl ?_
        go_wp2_with fail
        refine ⟨fun _ => HS.out _ (HU.out.2.alloc hUs _), ?_⟩
        refine wpMixT_one rfl ?_
        refine wpList_append1 rfl _ _ _ rfl Try.underlying25 infoEd rfl (by omega) encF_len encF_one rfl (HU.out.1.alloc _) U.heap.size 1 (0, ((x : Int), (y : Int), (z : Int))) rfl (Blk.new _ _ _) (by unfold maxLen; omega) (by omega) (by simp; omega) ?_
        intro gp cap U7 ho7 hg7 hB7 hat7 hgb7 hlt7
        go_wp2_with fail
        have hU7 : Below T.heap.size T U7 := HU.out.2.trans (((Below.refl T.heap.size U).alloc hUs _).trans hB7)
        refine ⟨fun _ => HS.out U7 hU7, ?_⟩
        have HV := hide (And.intro ho7 hU7)
        clear ho7 hg7 hB7 hat7 hU7
        refine wpMixT_one rfl ?_
        go_wp2_with fail
        refine ⟨fun _ => HS.out U7 HV.out.2, wpMixT_nil ?_⟩
        go_wp2_with fail
        go_meet
        case rel => exact ⟨some ⟨gp, 0, none⟩, cap, by rw [HN4.out], HV.out.1.sl encF_len (Nat.le_refl _), HV.out.2⟩
      · go_wp2_with fail
        have hTa : Below T.heap.size T (T.alloc (.cells #[.int .i64 0, .int .i64 (x : Int), .int .i64 (y : Int), .int .i64 (z : Int)] 44)).drew := ((Below.refl _ T).alloc (Nat.le_refl _) _).drew
        refine ⟨fun _ => HS.out _ hTa, ?_⟩
        obtain ⟨Z, hZ⟩ : ∃ Z, Z = (T.alloc (.cells #[.int .i64 0, .int .i64 (x : Int), .int .i64 (y : Int), .int .i64 (z : Int)] 44)).drew := ⟨_, rfl⟩
        rw [← hZ] at hTa
        rw [← hZ]
        have hbZ : Blk Z T.heap.size 44 #[.int .i64 0, .int .i64 (x : Int), .int .i64 (y : Int), .int .i64 (z : Int)] := by rw [hZ]; exact Blk.new T _ _
        have HZ := hide (And.intro hTa hbZ)
        have hZs := hTa.size
        clear hZ hTa hbZ
        refine wpMixT_one rfl ?_
        go_wp2_with fail
        refine (HE.out Z HZ.out.1).mono ?_
        rintro e U ⟨A3, c3, rfl, ho, hB⟩
        have hTU : Below T.heap.size T U := HZ.out.1.trans (hB.mono hZs)
        have hUs := hB.size
        have HU := hide (And.intro ho (And.intro hTU (HZ.out.2.on hB)))
        clear ho hB hTU
        go_wp2_with fail
        refine ⟨fun _ => HS.out U HU.out.2.1, ?_⟩
        refine wpMixT_one rfl ?_
        refine wpList_append1 rfl _ _ _ rfl Try.underlying25 infoEd rfl (by omega) encF_len encF_one rfl HU.out.1 T.heap.size 1 (0, ((x : Int), (y : Int), (z : Int))) rfl HU.out.2.2 (by unfold maxLen; omega) (by omega) hUs ?_
        intro gp cap U7 ho7 hg7 hB7 hat7 hgb7 hlt7
        go_wp2_with fail
        have hU7 : Below T.heap.size T U7 := HU.out.2.1.trans (hB7.mono hZs)
        refine ⟨fun _ => HS.out U7 hU7, ?_⟩
        have HV := hide (And.intro ho7 hU7)
        clear ho7 hg7 hB7 hat7 hU7
        refine wpMixT_one rfl ?_
        go_wp2_with fail
        refine ⟨fun _ => HS.out U7 HV.out.2, wpMixT_nil ?_⟩
        go_wp2_with fail
        go_meet
        case rel => exact ⟨some ⟨gp, 0, none⟩, cap, by rw [HN4.out], HV.out.1.sl encF_len (Nat.le_refl _), HV.out.2⟩
    case rest =>
      obtain ⟨A5, c5, rfl, hsl, hB5⟩ := hcut
      obtain ⟨U, rfl⟩ : ∃ U, U = wc := ⟨_, rfl⟩
      have HU := hide (And.intro hsl hB5)
      clear hsl hB5
      obtain ⟨⟨d0, d1⟩, _⟩ := HS.out U HU.out.2
      obtain ⟨ln, hln⟩ : ∃ ln, ln = el ++ [((0 : Int), ((x : Int), (y : Int), (z : Int)))] := ⟨_, rfl⟩
      rw [← hln] at HU
      have hout := H2.out.2.2.1
      have hlen : N4 = ln.length := by rw [hln, List.length_append, ← HF.out.2.1, HN4.out]; rfl
      have hfit : ∀ e ∈ ln, fitsF e := by
        intro e he
        rw [hln] at he
        rcases List.mem_append.1 he with he | he
        · rw [HF.out.1] at he
          exact edgP_fits (by have := HF.out.2.2.2.2.1; omega) e he
        · rw [List.mem_singleton.1 he]
          have hb := HBB.out
          unfold fitsF fitsP
          refine ⟨?_, ?_, ?_, ?_⟩ <;> exact fitsI (by dsimp only; omega)
      have hod : (oddP n ln).length = 4 := by rw [hln, HF.out.1]; exact mend_odd hout HF.out.2.2.1
      have hfl : fldP n ln = F := by rw [hln, HF.out.1]; exact mend_fld hout HF.out.2.2.1
      obtain ⟨p, hp, hp1⟩ : ∃ p : Pch, pchsP n ln = [p] ∧ p.2.2 = 1 := by rw [hln, HF.out.1]; exact mend_pch hout HF.out.2.2.1
      have HLN := hide (And.intro hlen (And.intro hfit (And.intro hod (And.intro hfl (And.intro hp hp1)))))
      clear hout hlen hfit hod hfl hp hp1 hln
      go_wp2_with fail
      refine (Seal7_as (L := L) (n := n) (m := m) (k := N4) (q := 1) (l := ln) (F := F) (ps := [p]) (Lz := (L : Int)) HL.out.1 (by have := HL.out; omega) rfl HN.out HF.out.2.2.2.2.2 HLN.out.1 HLN.out.2.2.2.1 HLN.out.2.2.2.2.1 rfl (by omega) HLN.out.2.1 A5 c5 U HU.out.1).mono ?_
      rintro e w4 ⟨gi, A4, c4, rfl, hr4, _, ho4, hB4⟩
      have H4 := hide (And.intro hr4 (And.intro ho4 hB4))
      clear hr4 ho4 hB4
      go_upto_region 14 with fail
      obtain ⟨X2, hX2⟩ : ∃ X, X = w4.alloc (.cells #[.int .i64 (L : Int), .slice (some ⟨gi, 0, none⟩) m m] 32) := ⟨_, rfl⟩
      rw [← hX2]
      obtain ⟨hb, hB⟩ := box7 hX2
      have hB4 := H4.out.2.2.trans (hB.mono H4.out.2.2.size)
      have hBTX := HU.out.2.trans (hB4.mono HU.out.2.size)
      have K5 := hide (And.intro hb (And.intro (H4.out.1.on hB) (And.intro ((H4.out.2.1.below hB (Nat.le_refl _)).sl encPch_len (Nat.le_refl _)) (And.intro (HU.out.1.on hB4) (And.intro (HT.out.1.on hBTX) (And.intro (HT.out.2.1.on hBTX) (HT.out.2.2.trans (hBTX.mono HT.out.2.2.size))))))))
      clear hb hB hX2 hB4 hBTX d0 d1
      obtain ⟨nf, hnf⟩ : ∃ n, n = w4.heap.size := ⟨_, rfl⟩
      rw [← hnf] at K5 ⊢
      clear hnf
      obtain ⟨d0, d1⟩ := K5.out.2.2.2.2.1.two7
      go_wp2_with fail
      refine (Odd7_as (k := N4) (m := 4) (Lz := (L : Int)) (l := ln) (fs := oddP n ln) HLN.out.1 (by unfold oddV; rw [if_pos HL.out.2.2, Int.toNat_natCast, ← HN.out]) HLN.out.2.2.1.symm (by omega) HLN.out.2.1 A5 c5 X2 K5.out.2.2.2.1).mono ?_
      rintro e w5 ⟨A6, c6, rfl, _, hB6⟩
      clear d0 d1
      obtain ⟨d0, d1⟩ := (K5.out.2.2.2.2.1.on hB6).two7
      obtain ⟨e0, e1⟩ := (K5.out.1.on hB6).two7
      obtain ⟨bb, oo, hA4, _, _, _, _, _, _, k5⟩ := (K5.out.2.2.1.on hB6).six (i := 0) rfl
      subst hA4
      rw [HLN.out.2.2.2.2.2] at k5
      have hsf := sameField_as m (L : Int) g gi m m F w5 (K5.out.2.2.2.2.2.1.on hB6) (K5.out.2.1.on hB6) H2.out.2.1 (by have h1 := HF.out.2.2.2.1; have h2 := H2.out.2.1; omega)
      have HSF := hide (And.intro hsf (K5.out.2.2.2.2.2.2.trans (hB6.mono K5.out.2.2.2.2.2.2.size)))
      clear hsf hB6
      go_wp2_with fail
      refine HSF.out.1.mono ?_
      rintro e w6 ⟨rfl, hB7⟩
      have HZZ := hide (HSF.out.2.trans (hB7.mono HSF.out.2.size))
      clear hB7
      go_wp2_with fail
      go_ret
      exact ⟨rfl, HZZ.out⟩
  · have q1 : (kk : Int) % 3 = 1 := by omega
    have q2 : (kk : Int).tmod 3 = 1 := by rw [Int.tmod_eq_emod_of_nonneg (by omega)]; exact q1
    clear ha
    have r1 := HR.out.2.2.1
    go_upto_region 9 with fail
    clear r1 q1 q2
    obtain ⟨Y0, hY0⟩ : ∃ Y, Y = X1.alloc (.cells #[.int .i64 0, .int .i64 0, .int .i64 0] 42) := ⟨_, rfl⟩
    rw [← hY0]
    have hbY0 : Blk Y0 X1.heap.size 42 #[.int .i64 0, .int .i64 0, .int .i64 0] := by rw [hY0]; exact Blk.new _ _ _
    have hBY0 : Below X1.heap.size X1 Y0 := by rw [hY0]; exact (Below.refl _ X1).alloc (Nat.le_refl _) _
    obtain ⟨a0, a1, a2⟩ := hbY0.three
    have f0 := hbY0.frozen 0
    have f1 := hbY0.frozen 1
    have f2 := hbY0.frozen 2
    have K2 := hide (And.intro hbY0 hBY0)
    clear hbY0 hBY0 hY0
    have r2 := HR.out.2.2.2.1
    have hmn1 := HR.out.2.1
    have bn := HBB.out.2.2.2.1
    go_upto_region 10 with fail
    obtain ⟨Y1, hY1⟩ : ∃ Y, Y = Y0.setCell ⟨X1.heap.size, 1, none⟩ (.int .i64 (x : Int)) := ⟨_, rfl⟩
    rw [← hY1]
    have hbY1 : Blk Y1 X1.heap.size 42 (#[.int .i64 0, .int .i64 0, .int .i64 0].setIfInBounds 1 (.int .i64 (x : Int))) := by rw [hY1]; exact K2.out.1.set_ 1 _
    have hBY1 : Below X1.heap.size X1 Y1 := by rw [hY1]; exact K2.out.2.setCell (by dsimp only; omega) _
    have K3 := hide (And.intro hbY1 hBY1)
    clear r2 a0 a1 a2 f0 f1 f2 hY1
    have f1 := hbY1.frozen 2
    have a0 := hbY1.cell 0
    have a1 := hbY1.cell 1
    have a2 := hbY1.cell 2
    simp at a0 a1 a2
    clear hbY1 hBY1
    have r3 := HR.out.2.2.2.2.1
    have r4 := HR.out.2.2.2.2.2.1
    have hyI := HR.out.2.2.2.2.2.2.2.2.2.2.2.1
    have by0 := HBB.out.2.1
    have by1 := HBB.out.1.2.1
    go_upto_region 11 with fail
    obtain ⟨Y2, hY2⟩ : ∃ Y, Y = Y1.setCell ⟨X1.heap.size, 2, none⟩ (.int .i64 (y : Int)) := ⟨_, rfl⟩
    rw [← hY2]
    have hbY2 : Blk Y2 X1.heap.size 42 ((#[.int .i64 0, .int .i64 0, .int .i64 0].setIfInBounds 1 (.int .i64 (x : Int))).setIfInBounds 2 (.int .i64 (y : Int))) := by rw [hY2]; exact K3.out.1.set_ 2 _
    have hBY2 : Below X1.heap.size X1 Y2 := by rw [hY2]; exact K3.out.2.setCell (by dsimp only; omega) _
    have K4 := hide (And.intro hbY2 hBY2)
    clear r4 hyI by0 by1 a0 a1 a2 f1 hY2
    have f1 := hbY2.frozen 0
    have a0 := hbY2.cell 0
    have a1 := hbY2.cell 1
    have a2 := hbY2.cell 2
    simp at a0 a1 a2
    clear hbY2 hBY2
    have r5 := HR.out.2.2.2.2.2.2.1
    have hzI := HR.out.2.2.2.2.2.2.2.2.2.2.2.2
    have bz0 := HBB.out.2.2.1
    have bz1 := HBB.out.1.2.2
    go_upto_region 12 with fail
    obtain ⟨T, hT⟩ : ∃ T, T = Y2.setCell ⟨X1.heap.size, 0, none⟩ (.int .i64 (z : Int)) := ⟨_, rfl⟩
    rw [← hT]
    have hbT : Blk T X1.heap.size 42 #[.int .i64 (z : Int), .int .i64 (x : Int), .int .i64 (y : Int)] := by rw [hT]; exact K4.out.1.set_ 0 _
    have hBT : Below X1.heap.size X1 T := by rw [hT]; exact K4.out.2.setCell (by dsimp only; omega) _
    clear r3 r5 hzI hmn1 bn bz0 bz1 a0 a1 a2 f1 hT
    have hbx := K1.out.1.on hBT
    have hrT := K1.out.2.1.on hBT
    have hS : ∀ W, Below T.heap.size T W → (W.cell? ⟨n1, 0, none⟩ = some (.int .i64 (L : Int)) ∧ W.cell? ⟨n1, 1, none⟩ = some (.slice (some ⟨g, 0, none⟩) m m)) ∧ (W.cell? ⟨X1.heap.size, 0, none⟩ = some (.int .i64 (z : Int)) ∧ W.cell? ⟨X1.heap.size, 1, none⟩ = some (.int .i64 (x : Int)) ∧ W.cell? ⟨X1.heap.size, 2, none⟩ = some (.int .i64 (y : Int))) := fun W hW => ⟨(hbx.on hW).two7, (hbT.on hW).three⟩
    have HS := hide hS
    have HT := hide (And.intro hbx (And.intro hrT (K1.out.2.2.trans (hBT.mono K1.out.2.2.size))))
    have hq0 := hS T.drew (Below.refl _ T).drew
    have HQ := hide hq0
    clear hbx hrT hbT hBT hS hq0 d0 d1
    obtain ⟨el, hel⟩ : ∃ el, el = edgL F (n + 1) := ⟨_, rfl⟩
    obtain ⟨N3, hN3⟩ : ∃ N, N = el.length := ⟨_, rfl⟩
    have hin : innE (n : Int) (1, ((z : Int), (x : Int), (y : Int))) = true := by have hb := HB.out; exact edge_inn (by omega) (by omega) (by omega) (by omega)
    have hnp := HN.out
    have hm729 : m ≤ 729 ∧ n ≤ 8 ∧ m = (n + 1) * (n + 1) * (n + 1) := by
      have h1 := H2.out.2.2.1.1
      rw [← H2.out.2.1] at h1
      have h2 := HL.out
      have hc : L = 1 ∨ L = 2 ∨ L = 3 := by omega
      rcases hc with rfl | rfl | rfl <;> (rw [hnp] at h1 ⊢; refine ⟨?_, by decide, h1⟩; rw [h1]; decide)
    have hN30 : N3 ≤ 4 * m := by rw [hN3, hel]; exact edgL_few hm729.2.2
    have hed : ∀ W, Below T.heap.size T W → Calls Try.prog 15 #[.agg #[.int .i64 (L : Int), .slice (some ⟨g, 0, none⟩) m m]] W fun e w' => ∃ A c, e = .returned (.slice A N3 c) ∧ Own encF 4 44 w' W.heap.size (.slice A N3 c) N3 el ∧ Below W.heap.size W w' := by
      intro W hW
      have h := edges7_any L g HL.out.1 HL.out.2.1 F m H2.out.2.1 (by rw [← hnp, ← H2.out.2.1]; exact hm729.2.2) W (HT.out.2.1.on hW)
      rw [← hnp, ← hel, ← hN3] at h
      exact h
    have HE := hide hed
    have hN3b : N3 ≤ 2916 := by omega
    have HF := hide (And.intro hel (And.intro hN3 (And.intro hin hm729)))
    clear hel hN3 hin hnp hm729 hN30 hed
    obtain ⟨N4, hN4⟩ : ∃ N4, N4 = N3 + 1 := ⟨_, rfl⟩
    have hN4b : N4 ≤ 3000 := by omega
    have HN4 := hide hN4
    clear hN4
    go_cut [14] (fun v wx => MndS T wx (el ++ [(1, ((z : Int), (x : Int), (y : Int)))]) N4 v)
    case first =>
      refine wp_region_tree (fun W => (W.cell? ⟨n1, 0, none⟩ = some (.int .i64 (L : Int)) ∧ W.cell? ⟨n1, 1, none⟩ = some (.slice (some ⟨g, 0, none⟩) m m)) ∧ (W.cell? ⟨X1.heap.size, 0, none⟩ = some (.int .i64 (z : Int)) ∧ W.cell? ⟨X1.heap.size, 1, none⟩ = some (.int .i64 (x : Int)) ∧ W.cell? ⟨X1.heap.size, 2, none⟩ = some (.int .i64 (y : Int)))) [0, 2, 3, 4, 5, 6, 7, 8, 9] (.q 0 (.q 2 (.q 3 (.q 4 (.q 5 (.q 6 (.q 7 (.q 8 (.q 9 (.two 1 (.one 10 (.one 11 (.one 12 .nil))) 10 (.one 1 (.one 11 (.one 12 .nil))))))))))))) mixed_ok (by kernel_rfl) ?_
      refine wpMixT_q (v := .agg #[.int .i64 (L : Int), .slice (some ⟨g, 0, none⟩) m m]) rfl (fun _ _ _ h => h) HQ.out ⟨rfl, fun _ h' => by simp [go_sem, h'.1.1, h'.1.2]⟩ ?_
      refine wpMixT_q (v := .int .i64 1) rfl (fun _ _ _ h => h) HQ.out ⟨rfl, fun _ h' => by simp [go_sem]⟩ ?_
      refine wpMixT_q (v := .pointer (some ⟨X1.heap.size, 0, none⟩)) rfl (fun _ _ _ h => h) HQ.out ⟨rfl, fun _ h' => by simp [go_sem]⟩ ?_
      refine wpMixT_q (v := .int .i64 (z : Int)) rfl (fun _ _ _ h => h) HQ.out ⟨rfl, fun _ h' => by simp [go_sem, h'.2.1]⟩ ?_
      refine wpMixT_q (v := .pointer (some ⟨X1.heap.size, 1, none⟩)) rfl (fun _ _ _ h => h) HQ.out ⟨rfl, fun _ h' => by simp [go_sem]⟩ ?_
      refine wpMixT_q (v := .int .i64 (x : Int)) rfl (fun _ _ _ h => h) HQ.out ⟨rfl, fun _ h' => by simp [go_sem, h'.2.2.1]⟩ ?_
      refine wpMixT_q (v := .pointer (some ⟨X1.heap.size, 2, none⟩)) rfl (fun _ _ _ h => h) HQ.out ⟨rfl, fun _ h' => by simp [go_sem]⟩ ?_
      refine wpMixT_q (v := .int .i64 (y : Int)) rfl (fun _ _ _ h => h) HQ.out ⟨rfl, fun _ h' => by simp [go_sem, h'.2.2.2]⟩ ?_
      refine wpMixT_q (v := .agg #[.int .i64 1, .int .i64 (z : Int), .int .i64 (x : Int), .int .i64 (y : Int)]) rfl (fun _ _ _ h => h) HQ.out ⟨rfl, fun _ h' => by simp [go_sem]⟩ ?_
      try simp only [List.getElem_toArray, List.getElem_cons_succ, List.getElem_cons_zero, Act.put, List.setIfInBounds_toArray, List.set_cons_succ, List.set_cons_zero]
      have hTd : Below T.heap.size T T.drew := (Below.refl _ T).drew
      refine wpMixT_two rfl rfl ?_ ?_
      · go_wp2_with fail
        refine (HE.out T.drew hTd).mono ?_
        rintro e U ⟨A3, c3, rfl, ho, hB⟩
        have hTU : Below T.heap.size T U := hTd.trans hB
        have hUs := hTU.size
        have HU := hide (And.intro ho hTU)
        clear ho hB hTU
        go_wp2_with fail
        refine ⟨fun _ => HS.out U HU.out.2, ?_⟩
        refine wpMixT_one rfl ?_
        go_wp2_with fail
        refine ⟨fun _ => HS.out _ (HU.out.2.alloc hUs _), ?_⟩
        refine wpMixT_one rfl ?_
        refine wpList_append1 rfl _ _ _ rfl Try.underlying25 infoEd rfl (by omega) encF_len encF_one rfl (HU.out.1.alloc _) U.heap.size 1 (1, ((z : Int), (x : Int), (y : Int))) rfl (Blk.new _ _ _) (by unfold maxLen; omega) (by omega) (by simp; omega) ?_
        intro gp cap U7 ho7 hg7 hB7 hat7 hgb7 hlt7
        go_wp2_with fail
        have hU7 : Below T.heap.size T U7 := HU.out.2.trans (((Below.refl T.heap.size U).alloc hUs _).trans hB7)
        refine ⟨fun _ => HS.out U7 hU7, ?_⟩
        have HV := hide (And.intro ho7 hU7)
        clear ho7 hg7 hB7 hat7 hU7
        refine wpMixT_one rfl ?_
        go_wp2_with fail
        refine ⟨fun _ => HS.out U7 HV.out.2, wpMixT_nil ?_⟩
        go_wp2_with fail
        go_meet
        case rel => exact ⟨some ⟨gp, 0, none⟩, cap, by rw [HN4.out], HV.out.1.sl encF_len (Nat.le_refl _), HV.out.2⟩
      · go_wp2_with fail
        have hTa : Below T.heap.size T (T.alloc (.cells #[.int .i64 1, .int .i64 (z : Int), .int .i64 (x : Int), .int .i64 (y : Int)] 44)).drew := ((Below.refl _ T).alloc (Nat.le_refl _) _).drew
        refine ⟨fun _ => HS.out _ hTa, ?_⟩
        obtain ⟨Z, hZ⟩ : ∃ Z, Z = (T.alloc (.cells #[.int .i64 1, .int .i64 (z : Int), .int .i64 (x : Int), .int .i64 (y : Int)] 44)).drew := ⟨_, rfl⟩
        rw [← hZ] at hTa
        rw [← hZ]
        have hbZ : Blk Z T.heap.size 44 #[.int .i64 1, .int .i64 (z : Int), .int .i64 (x : Int), .int .i64 (y : Int)] := by rw [hZ]; exact Blk.new T _ _
        have HZ := hide (And.intro hTa hbZ)
        have hZs := hTa.size
        clear hZ hTa hbZ
        refine wpMixT_one rfl ?_
        go_wp2_with fail
        refine (HE.out Z HZ.out.1).mono ?_
        rintro e U ⟨A3, c3, rfl, ho, hB⟩
        have hTU : Below T.heap.size T U := HZ.out.1.trans (hB.mono hZs)
        have hUs := hB.size
        have HU := hide (And.intro ho (And.intro hTU (HZ.out.2.on hB)))
        clear ho hB hTU
        go_wp2_with fail
        refine ⟨fun _ => HS.out U HU.out.2.1, ?_⟩
        refine wpMixT_one rfl ?_
        refine wpList_append1 rfl _ _ _ rfl Try.underlying25 infoEd rfl (by omega) encF_len encF_one rfl HU.out.1 T.heap.size 1 (1, ((z : Int), (x : Int), (y : Int))) rfl HU.out.2.2 (by unfold maxLen; omega) (by omega) hUs ?_
        intro gp cap U7 ho7 hg7 hB7 hat7 hgb7 hlt7
        go_wp2_with fail
        have hU7 : Below T.heap.size T U7 := HU.out.2.1.trans (hB7.mono hZs)
        refine ⟨fun _ => HS.out U7 hU7, ?_⟩
        have HV := hide (And.intro ho7 hU7)
        clear ho7 hg7 hB7 hat7 hU7
        refine wpMixT_one rfl ?_
        go_wp2_with fail
        refine ⟨fun _ => HS.out U7 HV.out.2, wpMixT_nil ?_⟩
        go_wp2_with fail
        go_meet
        case rel => exact ⟨some ⟨gp, 0, none⟩, cap, by rw [HN4.out], HV.out.1.sl encF_len (Nat.le_refl _), HV.out.2⟩
    case rest =>
      obtain ⟨A5, c5, rfl, hsl, hB5⟩ := hcut
      obtain ⟨U, rfl⟩ : ∃ U, U = wc := ⟨_, rfl⟩
      have HU := hide (And.intro hsl hB5)
      clear hsl hB5
      obtain ⟨⟨d0, d1⟩, _⟩ := HS.out U HU.out.2
      obtain ⟨ln, hln⟩ : ∃ ln, ln = el ++ [((1 : Int), ((z : Int), (x : Int), (y : Int)))] := ⟨_, rfl⟩
      rw [← hln] at HU
      have hout := H2.out.2.2.1
      have hlen : N4 = ln.length := by rw [hln, List.length_append, ← HF.out.2.1, HN4.out]; rfl
      have hfit : ∀ e ∈ ln, fitsF e := by
        intro e he
        rw [hln] at he
        rcases List.mem_append.1 he with he | he
        · rw [HF.out.1] at he
          exact edgP_fits (by have := HF.out.2.2.2.2.1; omega) e he
        · rw [List.mem_singleton.1 he]
          have hb := HBB.out
          unfold fitsF fitsP
          refine ⟨?_, ?_, ?_, ?_⟩ <;> exact fitsI (by dsimp only; omega)
      have hod : (oddP n ln).length = 4 := by rw [hln, HF.out.1]; exact mend_odd hout HF.out.2.2.1
      have hfl : fldP n ln = F := by rw [hln, HF.out.1]; exact mend_fld hout HF.out.2.2.1
      obtain ⟨p, hp, hp1⟩ : ∃ p : Pch, pchsP n ln = [p] ∧ p.2.2 = 1 := by rw [hln, HF.out.1]; exact mend_pch hout HF.out.2.2.1
      have HLN := hide (And.intro hlen (And.intro hfit (And.intro hod (And.intro hfl (And.intro hp hp1)))))
      clear hout hlen hfit hod hfl hp hp1 hln
      go_wp2_with fail
      refine (Seal7_as (L := L) (n := n) (m := m) (k := N4) (q := 1) (l := ln) (F := F) (ps := [p]) (Lz := (L : Int)) HL.out.1 (by have := HL.out; omega) rfl HN.out HF.out.2.2.2.2.2 HLN.out.1 HLN.out.2.2.2.1 HLN.out.2.2.2.2.1 rfl (by omega) HLN.out.2.1 A5 c5 U HU.out.1).mono ?_
      rintro e w4 ⟨gi, A4, c4, rfl, hr4, _, ho4, hB4⟩
      have H4 := hide (And.intro hr4 (And.intro ho4 hB4))
      clear hr4 ho4 hB4
      go_upto_region 14 with fail
      obtain ⟨X2, hX2⟩ : ∃ X, X = w4.alloc (.cells #[.int .i64 (L : Int), .slice (some ⟨gi, 0, none⟩) m m] 32) := ⟨_, rfl⟩
      rw [← hX2]
      obtain ⟨hb, hB⟩ := box7 hX2
      have hB4 := H4.out.2.2.trans (hB.mono H4.out.2.2.size)
      have hBTX := HU.out.2.trans (hB4.mono HU.out.2.size)
      have K5 := hide (And.intro hb (And.intro (H4.out.1.on hB) (And.intro ((H4.out.2.1.below hB (Nat.le_refl _)).sl encPch_len (Nat.le_refl _)) (And.intro (HU.out.1.on hB4) (And.intro (HT.out.1.on hBTX) (And.intro (HT.out.2.1.on hBTX) (HT.out.2.2.trans (hBTX.mono HT.out.2.2.size))))))))
      clear hb hB hX2 hB4 hBTX d0 d1
      obtain ⟨nf, hnf⟩ : ∃ n, n = w4.heap.size := ⟨_, rfl⟩
      rw [← hnf] at K5 ⊢
      clear hnf
      obtain ⟨d0, d1⟩ := K5.out.2.2.2.2.1.two7
      go_wp2_with fail
      refine (Odd7_as (k := N4) (m := 4) (Lz := (L : Int)) (l := ln) (fs := oddP n ln) HLN.out.1 (by unfold oddV; rw [if_pos HL.out.2.2, Int.toNat_natCast, ← HN.out]) HLN.out.2.2.1.symm (by omega) HLN.out.2.1 A5 c5 X2 K5.out.2.2.2.1).mono ?_
      rintro e w5 ⟨A6, c6, rfl, _, hB6⟩
      clear d0 d1
      obtain ⟨d0, d1⟩ := (K5.out.2.2.2.2.1.on hB6).two7
      obtain ⟨e0, e1⟩ := (K5.out.1.on hB6).two7
      obtain ⟨bb, oo, hA4, _, _, _, _, _, _, k5⟩ := (K5.out.2.2.1.on hB6).six (i := 0) rfl
      subst hA4
      rw [HLN.out.2.2.2.2.2] at k5
      have hsf := sameField_as m (L : Int) g gi m m F w5 (K5.out.2.2.2.2.2.1.on hB6) (K5.out.2.1.on hB6) H2.out.2.1 (by have h1 := HF.out.2.2.2.1; have h2 := H2.out.2.1; omega)
      have HSF := hide (And.intro hsf (K5.out.2.2.2.2.2.2.trans (hB6.mono K5.out.2.2.2.2.2.2.size)))
      clear hsf hB6
      go_wp2_with fail
      refine HSF.out.1.mono ?_
      rintro e w6 ⟨rfl, hB7⟩
      have HZZ := hide (HSF.out.2.trans (hB7.mono HSF.out.2.size))
      clear hB7
      go_wp2_with fail
      go_ret
      exact ⟨rfl, HZZ.out⟩
  · have q1 : (kk : Int) % 3 = 2 := by omega
    have q2 : (kk : Int).tmod 3 = 2 := by rw [Int.tmod_eq_emod_of_nonneg (by omega)]; exact q1
    clear ha
    have r1 := HR.out.2.2.1
    go_upto_region 9 with fail
    clear r1 q1 q2
    obtain ⟨Y0, hY0⟩ : ∃ Y, Y = X1.alloc (.cells #[.int .i64 0, .int .i64 0, .int .i64 0] 42) := ⟨_, rfl⟩
    rw [← hY0]
    have hbY0 : Blk Y0 X1.heap.size 42 #[.int .i64 0, .int .i64 0, .int .i64 0] := by rw [hY0]; exact Blk.new _ _ _
    have hBY0 : Below X1.heap.size X1 Y0 := by rw [hY0]; exact (Below.refl _ X1).alloc (Nat.le_refl _) _
    obtain ⟨a0, a1, a2⟩ := hbY0.three
    have f0 := hbY0.frozen 0
    have f1 := hbY0.frozen 1
    have f2 := hbY0.frozen 2
    have K2 := hide (And.intro hbY0 hBY0)
    clear hbY0 hBY0 hY0
    have r2 := HR.out.2.2.2.1
    have hmn1 := HR.out.2.1
    have bn := HBB.out.2.2.2.1
    go_upto_region 10 with fail
    obtain ⟨Y1, hY1⟩ : ∃ Y, Y = Y0.setCell ⟨X1.heap.size, 2, none⟩ (.int .i64 (x : Int)) := ⟨_, rfl⟩
    rw [← hY1]
    have hbY1 : Blk Y1 X1.heap.size 42 (#[.int .i64 0, .int .i64 0, .int .i64 0].setIfInBounds 2 (.int .i64 (x : Int))) := by rw [hY1]; exact K2.out.1.set_ 2 _
    have hBY1 : Below X1.heap.size X1 Y1 := by rw [hY1]; exact K2.out.2.setCell (by dsimp only; omega) _
    have K3 := hide (And.intro hbY1 hBY1)
    clear r2 a0 a1 a2 f0 f1 f2 hY1
    have f1 := hbY1.frozen 0
    have a0 := hbY1.cell 0
    have a1 := hbY1.cell 1
    have a2 := hbY1.cell 2
    simp at a0 a1 a2
    clear hbY1 hBY1
    have r3 := HR.out.2.2.2.2.1
    have r4 := HR.out.2.2.2.2.2.1
    have hyI := HR.out.2.2.2.2.2.2.2.2.2.2.2.1
    have by0 := HBB.out.2.1
    have by1 := HBB.out.1.2.1
    go_upto_region 11 with fail
    obtain ⟨Y2, hY2⟩ : ∃ Y, Y = Y1.setCell ⟨X1.heap.size, 0, none⟩ (.int .i64 (y : Int)) := ⟨_, rfl⟩
    rw [← hY2]
    have hbY2 : Blk Y2 X1.heap.size 42 ((#[.int .i64 0, .int .i64 0, .int .i64 0].setIfInBounds 2 (.int .i64 (x : Int))).setIfInBounds 0 (.int .i64 (y : Int))) := by rw [hY2]; exact K3.out.1.set_ 0 _
    have hBY2 : Below X1.heap.size X1 Y2 := by rw [hY2]; exact K3.out.2.setCell (by dsimp only; omega) _
    have K4 := hide (And.intro hbY2 hBY2)
    clear r4 hyI by0 by1 a0 a1 a2 f1 hY2
    have f1 := hbY2.frozen 1
    have a0 := hbY2.cell 0
    have a1 := hbY2.cell 1
    have a2 := hbY2.cell 2
    simp at a0 a1 a2
    clear hbY2 hBY2
    have r5 := HR.out.2.2.2.2.2.2.1
    have hzI := HR.out.2.2.2.2.2.2.2.2.2.2.2.2
    have bz0 := HBB.out.2.2.1
    have bz1 := HBB.out.1.2.2
    go_upto_region 12 with fail
    obtain ⟨T, hT⟩ : ∃ T, T = Y2.setCell ⟨X1.heap.size, 1, none⟩ (.int .i64 (z : Int)) := ⟨_, rfl⟩
    rw [← hT]
    have hbT : Blk T X1.heap.size 42 #[.int .i64 (y : Int), .int .i64 (z : Int), .int .i64 (x : Int)] := by rw [hT]; exact K4.out.1.set_ 1 _
    have hBT : Below X1.heap.size X1 T := by rw [hT]; exact K4.out.2.setCell (by dsimp only; omega) _
    clear r3 r5 hzI hmn1 bn bz0 bz1 a0 a1 a2 f1 hT
    have hbx := K1.out.1.on hBT
    have hrT := K1.out.2.1.on hBT
    have hS : ∀ W, Below T.heap.size T W → (W.cell? ⟨n1, 0, none⟩ = some (.int .i64 (L : Int)) ∧ W.cell? ⟨n1, 1, none⟩ = some (.slice (some ⟨g, 0, none⟩) m m)) ∧ (W.cell? ⟨X1.heap.size, 0, none⟩ = some (.int .i64 (y : Int)) ∧ W.cell? ⟨X1.heap.size, 1, none⟩ = some (.int .i64 (z : Int)) ∧ W.cell? ⟨X1.heap.size, 2, none⟩ = some (.int .i64 (x : Int))) := fun W hW => ⟨(hbx.on hW).two7, (hbT.on hW).three⟩
    have HS := hide hS
    have HT := hide (And.intro hbx (And.intro hrT (K1.out.2.2.trans (hBT.mono K1.out.2.2.size))))
    have hq0 := hS T.drew (Below.refl _ T).drew
    have HQ := hide hq0
    clear hbx hrT hbT hBT hS hq0 d0 d1
    obtain ⟨el, hel⟩ : ∃ el, el = edgL F (n + 1) := ⟨_, rfl⟩
    obtain ⟨N3, hN3⟩ : ∃ N, N = el.length := ⟨_, rfl⟩
    have hin : innE (n : Int) (2, ((y : Int), (z : Int), (x : Int))) = true := by have hb := HB.out; exact edge_inn (by omega) (by omega) (by omega) (by omega)
    have hnp := HN.out
    have hm729 : m ≤ 729 ∧ n ≤ 8 ∧ m = (n + 1) * (n + 1) * (n + 1) := by
      have h1 := H2.out.2.2.1.1
      rw [← H2.out.2.1] at h1
      have h2 := HL.out
      have hc : L = 1 ∨ L = 2 ∨ L = 3 := by omega
      rcases hc with rfl | rfl | rfl <;> (rw [hnp] at h1 ⊢; refine ⟨?_, by decide, h1⟩; rw [h1]; decide)
    have hN30 : N3 ≤ 4 * m := by rw [hN3, hel]; exact edgL_few hm729.2.2
    have hed : ∀ W, Below T.heap.size T W → Calls Try.prog 15 #[.agg #[.int .i64 (L : Int), .slice (some ⟨g, 0, none⟩) m m]] W fun e w' => ∃ A c, e = .returned (.slice A N3 c) ∧ Own encF 4 44 w' W.heap.size (.slice A N3 c) N3 el ∧ Below W.heap.size W w' := by
      intro W hW
      have h := edges7_any L g HL.out.1 HL.out.2.1 F m H2.out.2.1 (by rw [← hnp, ← H2.out.2.1]; exact hm729.2.2) W (HT.out.2.1.on hW)
      rw [← hnp, ← hel, ← hN3] at h
      exact h
    have HE := hide hed
    have hN3b : N3 ≤ 2916 := by omega
    have HF := hide (And.intro hel (And.intro hN3 (And.intro hin hm729)))
    clear hel hN3 hin hnp hm729 hN30 hed
    obtain ⟨N4, hN4⟩ : ∃ N4, N4 = N3 + 1 := ⟨_, rfl⟩
    have hN4b : N4 ≤ 3000 := by omega
    have HN4 := hide hN4
    clear hN4
    go_cut [14] (fun v wx => MndS T wx (el ++ [(2, ((y : Int), (z : Int), (x : Int)))]) N4 v)
    case first =>
      refine wp_region_tree (fun W => (W.cell? ⟨n1, 0, none⟩ = some (.int .i64 (L : Int)) ∧ W.cell? ⟨n1, 1, none⟩ = some (.slice (some ⟨g, 0, none⟩) m m)) ∧ (W.cell? ⟨X1.heap.size, 0, none⟩ = some (.int .i64 (y : Int)) ∧ W.cell? ⟨X1.heap.size, 1, none⟩ = some (.int .i64 (z : Int)) ∧ W.cell? ⟨X1.heap.size, 2, none⟩ = some (.int .i64 (x : Int)))) [0, 2, 3, 4, 5, 6, 7, 8, 9] (.q 0 (.q 2 (.q 3 (.q 4 (.q 5 (.q 6 (.q 7 (.q 8 (.q 9 (.two 1 (.one 10 (.one 11 (.one 12 .nil))) 10 (.one 1 (.one 11 (.one 12 .nil))))))))))))) mixed_ok (by kernel_rfl) ?_
      refine wpMixT_q (v := .agg #[.int .i64 (L : Int), .slice (some ⟨g, 0, none⟩) m m]) rfl (fun _ _ _ h => h) HQ.out ⟨rfl, fun _ h' => by simp [go_sem, h'.1.1, h'.1.2]⟩ ?_
      refine wpMixT_q (v := .int .i64 2) rfl (fun _ _ _ h => h) HQ.out ⟨rfl, fun _ h' => by simp [go_sem]⟩ ?_
      refine wpMixT_q (v := .pointer (some ⟨X1.heap.size, 0, none⟩)) rfl (fun _ _ _ h => h) HQ.out ⟨rfl, fun _ h' => by simp [go_sem]⟩ ?_
      refine wpMixT_q (v := .int .i64 (y : Int)) rfl (fun _ _ _ h => h) HQ.out ⟨rfl, fun _ h' => by simp [go_sem, h'.2.1]⟩ ?_
      refine wpMixT_q (v := .pointer (some ⟨X1.heap.size, 1, none⟩)) rfl (fun _ _ _ h => h) HQ.out ⟨rfl, fun _ h' => by simp [go_sem]⟩ ?_
      refine wpMixT_q (v := .int .i64 (z : Int)) rfl (fun _ _ _ h => h) HQ.out ⟨rfl, fun _ h' => by simp [go_sem, h'.2.2.1]⟩ ?_
      refine wpMixT_q (v := .pointer (some ⟨X1.heap.size, 2, none⟩)) rfl (fun _ _ _ h => h) HQ.out ⟨rfl, fun _ h' => by simp [go_sem]⟩ ?_
      refine wpMixT_q (v := .int .i64 (x : Int)) rfl (fun _ _ _ h => h) HQ.out ⟨rfl, fun _ h' => by simp [go_sem, h'.2.2.2]⟩ ?_
      refine wpMixT_q (v := .agg #[.int .i64 2, .int .i64 (y : Int), .int .i64 (z : Int), .int .i64 (x : Int)]) rfl (fun _ _ _ h => h) HQ.out ⟨rfl, fun _ h' => by simp [go_sem]⟩ ?_
      try simp only [List.getElem_toArray, List.getElem_cons_succ, List.getElem_cons_zero, Act.put, List.setIfInBounds_toArray, List.set_cons_succ, List.set_cons_zero]
      have hTd : Below T.heap.size T T.drew := (Below.refl _ T).drew
      refine wpMixT_two rfl rfl ?_ ?_
      · go_wp2_with fail
        refine (HE.out T.drew hTd).mono ?_
        rintro e U ⟨A3, c3, rfl, ho, hB⟩
        have hTU : Below T.heap.size T U := hTd.trans hB
        have hUs := hTU.size
        have HU := hide (And.intro ho hTU)
        clear ho hB hTU
        go_wp2_with fail
        refine ⟨fun _ => HS.out U HU.out.2, ?_⟩
        refine wpMixT_one rfl ?_
        go_wp2_with fail
        refine ⟨fun _ => HS.out _ (HU.out.2.alloc hUs _), ?_⟩
        refine wpMixT_one rfl ?_
        refine wpList_append1 rfl _ _ _ rfl Try.underlying25 infoEd rfl (by omega) encF_len encF_one rfl (HU.out.1.alloc _) U.heap.size 1 (2, ((y : Int), (z : Int), (x : Int))) rfl (Blk.new _ _ _) (by unfold maxLen; omega) (by omega) (by simp; omega) ?_
        intro gp cap U7 ho7 hg7 hB7 hat7 hgb7 hlt7
        go_wp2_with fail
        have hU7 : Below T.heap.size T U7 := HU.out.2.trans (((Below.refl T.heap.size U).alloc hUs _).trans hB7)
        refine ⟨fun _ => HS.out U7 hU7, ?_⟩
        have HV := hide (And.intro ho7 hU7)
        clear ho7 hg7 hB7 hat7 hU7
        refine wpMixT_one rfl ?_
        go_wp2_with fail
        refine ⟨fun _ => HS.out U7 HV.out.2, wpMixT_nil ?_⟩
        go_wp2_with fail
        go_meet
        case rel => exact ⟨some ⟨gp, 0, none⟩, cap, by rw [HN4.out], HV.out.1.sl encF_len (Nat.le_refl _), HV.out.2⟩
      · go_wp2_with fail
        have hTa : Below T.heap.size T (T.alloc (.cells #[.int .i64 2, .int .i64 (y : Int), .int .i64 (z : Int), .int .i64 (x : Int)] 44)).drew := ((Below.refl _ T).alloc (Nat.le_refl _) _).drew
        refine ⟨fun _ => HS.out _ hTa, ?_⟩
        obtain ⟨Z, hZ⟩ : ∃ Z, Z = (T.alloc (.cells #[.int .i64 2, .int .i64 (y : Int), .int .i64 (z : Int), .int .i64 (x : Int)] 44)).drew := ⟨_, rfl⟩
        rw [← hZ] at hTa
        rw [← hZ]
        have hbZ : Blk Z T.heap.size 44 #[.int .i64 2, .int .i64 (y : Int), .int .i64 (z : Int), .int .i64 (x : Int)] := by rw [hZ]; exact Blk.new T _ _
        have HZ := hide (And.intro hTa hbZ)
        have hZs := hTa.size
        clear hZ hTa hbZ
        refine wpMixT_one rfl ?_
        go_wp2_with fail
        refine (HE.out Z HZ.out.1).mono ?_
        rintro e U ⟨A3, c3, rfl, ho, hB⟩
        have hTU : Below T.heap.size T U := HZ.out.1.trans (hB.mono hZs)
        have hUs := hB.size
        have HU := hide (And.intro ho (And.intro hTU (HZ.out.2.on hB)))
        clear ho hB hTU
        go_wp2_with fail
        refine ⟨fun _ => HS.out U HU.out.2.1, ?_⟩
        refine wpMixT_one rfl ?_
        refine wpList_append1 rfl _ _ _ rfl Try.underlying25 infoEd rfl (by omega) encF_len encF_one rfl HU.out.1 T.heap.size 1 (2, ((y : Int), (z : Int), (x : Int))) rfl HU.out.2.2 (by unfold maxLen; omega) (by omega) hUs ?_
        intro gp cap U7 ho7 hg7 hB7 hat7 hgb7 hlt7
        go_wp2_with fail
        have hU7 : Below T.heap.size T U7 := HU.out.2.1.trans (hB7.mono hZs)
        refine ⟨fun _ => HS.out U7 hU7, ?_⟩
        have HV := hide (And.intro ho7 hU7)
        clear ho7 hg7 hB7 hat7 hU7
        refine wpMixT_one rfl ?_
        go_wp2_with fail
        refine ⟨fun _ => HS.out U7 HV.out.2, wpMixT_nil ?_⟩
        go_wp2_with fail
        go_meet
        case rel => exact ⟨some ⟨gp, 0, none⟩, cap, by rw [HN4.out], HV.out.1.sl encF_len (Nat.le_refl _), HV.out.2⟩
    case rest =>
      obtain ⟨A5, c5, rfl, hsl, hB5⟩ := hcut
      obtain ⟨U, rfl⟩ : ∃ U, U = wc := ⟨_, rfl⟩
      have HU := hide (And.intro hsl hB5)
      clear hsl hB5
      obtain ⟨⟨d0, d1⟩, _⟩ := HS.out U HU.out.2
      obtain ⟨ln, hln⟩ : ∃ ln, ln = el ++ [((2 : Int), ((y : Int), (z : Int), (x : Int)))] := ⟨_, rfl⟩
      rw [← hln] at HU
      have hout := H2.out.2.2.1
      have hlen : N4 = ln.length := by rw [hln, List.length_append, ← HF.out.2.1, HN4.out]; rfl
      have hfit : ∀ e ∈ ln, fitsF e := by
        intro e he
        rw [hln] at he
        rcases List.mem_append.1 he with he | he
        · rw [HF.out.1] at he
          exact edgP_fits (by have := HF.out.2.2.2.2.1; omega) e he
        · rw [List.mem_singleton.1 he]
          have hb := HBB.out
          unfold fitsF fitsP
          refine ⟨?_, ?_, ?_, ?_⟩ <;> exact fitsI (by dsimp only; omega)
      have hod : (oddP n ln).length = 4 := by rw [hln, HF.out.1]; exact mend_odd hout HF.out.2.2.1
      have hfl : fldP n ln = F := by rw [hln, HF.out.1]; exact mend_fld hout HF.out.2.2.1
      obtain ⟨p, hp, hp1⟩ : ∃ p : Pch, pchsP n ln = [p] ∧ p.2.2 = 1 := by rw [hln, HF.out.1]; exact mend_pch hout HF.out.2.2.1
      have HLN := hide (And.intro hlen (And.intro hfit (And.intro hod (And.intro hfl (And.intro hp hp1)))))
      clear hout hlen hfit hod hfl hp hp1 hln
      go_wp2_with fail
      refine (Seal7_as (L := L) (n := n) (m := m) (k := N4) (q := 1) (l := ln) (F := F) (ps := [p]) (Lz := (L : Int)) HL.out.1 (by have := HL.out; omega) rfl HN.out HF.out.2.2.2.2.2 HLN.out.1 HLN.out.2.2.2.1 HLN.out.2.2.2.2.1 rfl (by omega) HLN.out.2.1 A5 c5 U HU.out.1).mono ?_
      rintro e w4 ⟨gi, A4, c4, rfl, hr4, _, ho4, hB4⟩
      have H4 := hide (And.intro hr4 (And.intro ho4 hB4))
      clear hr4 ho4 hB4
      go_upto_region 14 with fail
      obtain ⟨X2, hX2⟩ : ∃ X, X = w4.alloc (.cells #[.int .i64 (L : Int), .slice (some ⟨gi, 0, none⟩) m m] 32) := ⟨_, rfl⟩
      rw [← hX2]
      obtain ⟨hb, hB⟩ := box7 hX2
      have hB4 := H4.out.2.2.trans (hB.mono H4.out.2.2.size)
      have hBTX := HU.out.2.trans (hB4.mono HU.out.2.size)
      have K5 := hide (And.intro hb (And.intro (H4.out.1.on hB) (And.intro ((H4.out.2.1.below hB (Nat.le_refl _)).sl encPch_len (Nat.le_refl _)) (And.intro (HU.out.1.on hB4) (And.intro (HT.out.1.on hBTX) (And.intro (HT.out.2.1.on hBTX) (HT.out.2.2.trans (hBTX.mono HT.out.2.2.size))))))))
      clear hb hB hX2 hB4 hBTX d0 d1
      obtain ⟨nf, hnf⟩ : ∃ n, n = w4.heap.size := ⟨_, rfl⟩
      rw [← hnf] at K5 ⊢
      clear hnf
      obtain ⟨d0, d1⟩ := K5.out.2.2.2.2.1.two7
      go_wp2_with fail
      refine (Odd7_as (k := N4) (m := 4) (Lz := (L : Int)) (l := ln) (fs := oddP n ln) HLN.out.1 (by unfold oddV; rw [if_pos HL.out.2.2, Int.toNat_natCast, ← HN.out]) HLN.out.2.2.1.symm (by omega) HLN.out.2.1 A5 c5 X2 K5.out.2.2.2.1).mono ?_
      rintro e w5 ⟨A6, c6, rfl, _, hB6⟩
      clear d0 d1
      obtain ⟨d0, d1⟩ := (K5.out.2.2.2.2.1.on hB6).two7
      obtain ⟨e0, e1⟩ := (K5.out.1.on hB6).two7
      obtain ⟨bb, oo, hA4, _, _, _, _, _, _, k5⟩ := (K5.out.2.2.1.on hB6).six (i := 0) rfl
      subst hA4
      rw [HLN.out.2.2.2.2.2] at k5
      have hsf := sameField_as m (L : Int) g gi m m F w5 (K5.out.2.2.2.2.2.1.on hB6) (K5.out.2.1.on hB6) H2.out.2.1 (by have h1 := HF.out.2.2.2.1; have h2 := H2.out.2.1; omega)
      have HSF := hide (And.intro hsf (K5.out.2.2.2.2.2.2.trans (hB6.mono K5.out.2.2.2.2.2.2.size)))
      clear hsf hB6
      go_wp2_with fail
      refine HSF.out.1.mono ?_
      rintro e w6 ⟨rfl, hB7⟩
      have HZZ := hide (HSF.out.2.trans (hB7.mono HSF.out.2.size))
      clear hB7
      go_wp2_with fail
      go_ret
      exact ⟨rfl, HZZ.out⟩
end Go.Proofs.Ytdpgohpbannfnaa
