/- law04.MeshRotates (printed by mk_RotW.py). -/
import Derived.Test.YtelfnmohpjkilaaDoorCB3
import Derived.Test.YtelfnmohpjkilaaDoorCB12
import Derived.Test.YtelfnmohpjkilaaDoorCB14
import Derived.Test.YtelfnmohpjkilaaDoorCB20
namespace Go.Proofs.YtelfnmohpjkilaaDoor
open Go.RowKit Go.Sort
set_option maxRecDepth 100000 in
set_option maxHeartbeats 32000000 in
theorem rotates_of (hsan : ∀ W : World, Calls Tryd.prog 6 #[] W fun e w' => e = .returned (.bool true) ∧ Below W.heap.size W w') (a b c : Pt) (w : World) (ha : fitsP a) (hb : fitsP b) (hc : fitsP c) :
    Calls Tryd.prog 3 #[vP a, vP b, vP c] w fun e w' => e = .returned (.bool true) ∧ Below w.heap.size w w' := by
  obtain ⟨a1, a2, a3⟩ := a
  obtain ⟨b1, b2, b3⟩ := b
  obtain ⟨c1, c2, c3⟩ := c
  have hfit : ∀ t ∈ ([((a1, a2, a3), (b1, b2, b3), (c1, c2, c3)), ((b1, b2, b3), (c1, c2, c3), (a1, a2, a3)), ((c1, c2, c3), (a1, a2, a3), (b1, b2, b3)), ((a1, a2, a3), (c1, c2, c3), (b1, b2, b3)), ((a1, a2, a3), (a1, a2, a3), (b1, b2, b3)), ((b1, b2, b3), (a1, a2, a3), (a1, a2, a3))] : List Tri), fitsT t := by
    intro t ht
    simp only [List.mem_cons, List.not_mem_nil, or_false] at ht
    rcases ht with rfl | rfl | rfl | rfl | rfl | rfl
    · exact ⟨ha, hb, hc⟩
    · exact ⟨hb, hc, ha⟩
    · exact ⟨hc, ha, hb⟩
    · exact ⟨ha, hc, hb⟩
    · exact ⟨ha, ha, hb⟩
    · exact ⟨hb, ha, ha⟩
  have HF := hide hfit
  clear ha hb hc hfit
  have HS := hide hsan
  clear hsan
  go_enter Tryd.func3, Tryd.ntmps3
  go_upto_region 1 with fail
  obtain ⟨X0, hX0⟩ : ∃ X, X = ((w.alloc (.cells #[.int .i64 a1, .int .i64 a2, .int .i64 a3] 23)).alloc (.cells #[.int .i64 b1, .int .i64 b2, .int .i64 b3] 23)).alloc (.cells #[.int .i64 c1, .int .i64 c2, .int .i64 c3] 23) := ⟨_, rfl⟩
  rw [← hX0]
  obtain ⟨ab, hab⟩ : ∃ g, g = w.heap.size := ⟨_, rfl⟩
  obtain ⟨bb, hbb⟩ : ∃ g, g = w.heap.size + 1 := ⟨_, rfl⟩
  obtain ⟨cb, hcb⟩ : ∃ g, g = w.heap.size + 1 + 1 := ⟨_, rfl⟩
  rw [← hcb, ← hbb, ← hab]
  have h1 : Blk X0 ab 23 #[.int .i64 a1, .int .i64 a2, .int .i64 a3] := by rw [hX0, hab]; exact ((Blk.new _ _ _).alloc _).alloc _
  have h2 : Blk X0 bb 23 #[.int .i64 b1, .int .i64 b2, .int .i64 b3] := by rw [hX0, hbb]; exact (Blk.new' _ _ _ _ (by simp)).alloc _
  have h3 : Blk X0 cb 23 #[.int .i64 c1, .int .i64 c2, .int .i64 c3] := by rw [hX0, hcb]; exact Blk.new' _ _ _ _ (by simp)
  have h4 : Below w.heap.size w X0 := by rw [hX0]; exact (((Below.refl _ w).alloc (Nat.le_refl _) _).alloc (by simp) _).alloc (by simp; omega) _
  have H0 := hide (And.intro h1 (And.intro h2 (And.intro h3 h4)))
  clear h1 h2 h3 h4 hX0 hab hbb hcb
  go_upto_region 2 with (go_at_call 6; refine (HS.out X0).mono ?_; rintro e X1 ⟨rfl, hB1⟩; have h1 := H0.out.1.below hB1 H0.out.1.lt; have h2 := H0.out.2.1.below hB1 H0.out.2.1.lt; have h3 := H0.out.2.2.1.below hB1 H0.out.2.2.1.lt; have h4 := H0.out.2.2.2.trans (hB1.mono H0.out.2.2.2.size); have H1 := hide (And.intro h1 (And.intro h2 (And.intro h3 h4))); clear h1 h2 h3 h4 hB1)
  have g0 := H1.out.1.cell 0
  have g1 := H1.out.1.cell 1
  have g2 := H1.out.1.cell 2
  have k0 := H1.out.2.1.cell 0
  have k1 := H1.out.2.1.cell 1
  have k2 := H1.out.2.1.cell 2
  have l0 := H1.out.2.2.1.cell 0
  have l1 := H1.out.2.2.1.cell 1
  have l2 := H1.out.2.2.1.cell 2
  simp only [List.getElem?_toArray, List.getElem?_cons_zero, List.getElem?_cons_succ] at g0 g1 g2 k0 k1 k2 l0 l1 l2
  go_wp2_with fail
  clear g0 g1 g2 k0 k1 k2 l0 l1 l2
  obtain ⟨L, hL⟩ : ∃ L : List Tri, L = [((a1, a2, a3), (b1, b2, b3), (c1, c2, c3)), ((b1, b2, b3), (c1, c2, c3), (a1, a2, a3)), ((c1, c2, c3), (a1, a2, a3), (b1, b2, b3)), ((a1, a2, a3), (c1, c2, c3), (b1, b2, b3)), ((a1, a2, a3), (a1, a2, a3), (b1, b2, b3)), ((b1, b2, b3), (a1, a2, a3), (a1, a2, a3))] := ⟨_, rfl⟩
  obtain ⟨X, hX⟩ : ∃ X, X = X1.alloc (.cells #[.int .i64 a1, .int .i64 a2, .int .i64 a3, .int .i64 b1, .int .i64 b2, .int .i64 b3, .int .i64 c1, .int .i64 c2, .int .i64 c3, .int .i64 b1, .int .i64 b2, .int .i64 b3, .int .i64 c1, .int .i64 c2, .int .i64 c3, .int .i64 a1, .int .i64 a2, .int .i64 a3, .int .i64 c1, .int .i64 c2, .int .i64 c3, .int .i64 a1, .int .i64 a2, .int .i64 a3, .int .i64 b1, .int .i64 b2, .int .i64 b3, .int .i64 a1, .int .i64 a2, .int .i64 a3, .int .i64 c1, .int .i64 c2, .int .i64 c3, .int .i64 b1, .int .i64 b2, .int .i64 b3, .int .i64 a1, .int .i64 a2, .int .i64 a3, .int .i64 a1, .int .i64 a2, .int .i64 a3, .int .i64 b1, .int .i64 b2, .int .i64 b3, .int .i64 b1, .int .i64 b2, .int .i64 b3, .int .i64 a1, .int .i64 a2, .int .i64 a3, .int .i64 a1, .int .i64 a2, .int .i64 a3] 26) := ⟨_, rfl⟩
  rw [← hX]
  obtain ⟨lb, hlb⟩ : ∃ g, g = X1.heap.size := ⟨_, rfl⟩
  rw [← hlb]
  have hsl : Sl encT 9 X X.heap.size (some ⟨lb, 0, none⟩) L := Sl.of_blk encT_len (show Blk X lb 26 (L.flatMap encT).toArray by rw [hX, hlb, hL]; exact Blk.new _ _ _) (by rw [hX, hlb]; simp)
  have hBX : Below w.heap.size w X := by rw [hX]; exact H1.out.2.2.2.alloc H1.out.2.2.2.size _
  have hlen : L.length = 6 := by rw [hL]; rfl
  rw [← hL] at HF
  have HX := hide (And.intro hsl (And.intro hBX hlen))
  clear hsl hBX hlen hL hX hlb H1 H0
  go_loopw [38] (fun iv wr => ∃ i : Nat, i ≤ 6 ∧ iv = .int .i64 i ∧ Below X.heap.size X wr) (fun iv _ => 6 - (intOf iv).toNat)
  case atStart => exact ⟨0, by omega, rfl, Below.refl _ X⟩
  case round =>
    obtain ⟨i, hi, rfl, hB⟩ := hrel
    obtain ⟨V, rfl⟩ : ∃ x, x = wr := ⟨_, rfl⟩
    by_cases hlt : i < 6
    · have i1 : (i : Int) < 6 := by omega
      obtain ⟨t, ht⟩ : ∃ t, L[i]? = some t := ⟨_, List.getElem?_eq_getElem (by rw [HX.out.2.2]; exact hlt)⟩
      have hft := HF.out t (List.mem_of_getElem? ht)
      obtain ⟨b0, o0, hA, hbb0, g0, g1, g2, g3, g4, g5, g6, g7, g8⟩ := (HX.out.1.below hB).tri ht
      cases hA
      simp only [Nat.zero_add] at g0 g1 g2 g3 g4 g5 g6 g7 g8
      obtain ⟨r, hr⟩ : ∃ r, r = rotT t := ⟨_, rfl⟩
      have hrr : rotT r = r := by rw [hr]; exact rotT_idem4 t
      have hfr : fitsT r := by rw [hr]; exact fitsT_rot hft
      have hc1 := fun W => rotate_any t W
      have hc2 := fun W => rotateR_any t W
      have hc3 := fun W => rotate_any r W
      simp only [rotR_eq] at hc2
      rw [← hr] at hc1 hc2
      rw [hrr] at hc3
      have e1 := fun W => eqT r r hfr hfr W
      rw [decide_eq_true rfl] at e1
      obtain ⟨⟨t1, t2, t3⟩, ⟨t4, t5, t6⟩, t7, t8, t9⟩ := t
      obtain ⟨⟨r1, r2, r3⟩, ⟨r4, r5, r6⟩, r7, r8, r9⟩ := r
      dsimp only at g0 g1 g2 g3 g4 g5 g6 g7 g8
      have HC1 := hide hc1
      have HC2 := hide hc2
      have HC3 := hide hc3
      have HB := hide hB
      clear hc1 hc2 hc3 hB hr hrr hfr hft ht hbb0
      go_upto_region 5 with fail
      clear g0 g1 g2 g3 g4 g5 g6 g7 g8
      obtain ⟨gb, hgb⟩ : ∃ g, g = V.heap.size := ⟨_, rfl⟩
      obtain ⟨V1, hV1⟩ : ∃ W, W = V.alloc (.cells #[.int .i64 t1, .int .i64 t2, .int .i64 t3, .int .i64 t4, .int .i64 t5, .int .i64 t6, .int .i64 t7, .int .i64 t8, .int .i64 t9] 26) := ⟨_, rfl⟩
      rw [← hV1, ← hgb]
      have hbg : Blk V1 gb 26 #[.int .i64 t1, .int .i64 t2, .int .i64 t3, .int .i64 t4, .int .i64 t5, .int .i64 t6, .int .i64 t7, .int .i64 t8, .int .i64 t9] := by rw [hV1, hgb]; exact Blk.new _ _ _
      have hB1 : Below X.heap.size X V1 := by rw [hV1]; exact HB.out.alloc HB.out.size _
      have g0 : V1.cell? ⟨gb, 0, none⟩ = _ := hbg.cell 0
      have g1 : V1.cell? ⟨gb, 1, none⟩ = _ := hbg.cell 1
      have g2 : V1.cell? ⟨gb, 2, none⟩ = _ := hbg.cell 2
      have g3 : V1.cell? ⟨gb, 3, none⟩ = _ := hbg.cell 3
      have g4 : V1.cell? ⟨gb, 4, none⟩ = _ := hbg.cell 4
      have g5 : V1.cell? ⟨gb, 5, none⟩ = _ := hbg.cell 5
      have g6 : V1.cell? ⟨gb, 6, none⟩ = _ := hbg.cell 6
      have g7 : V1.cell? ⟨gb, 7, none⟩ = _ := hbg.cell 7
      have g8 : V1.cell? ⟨gb, 8, none⟩ = _ := hbg.cell 8
      simp only [List.getElem?_toArray, List.getElem?_cons_zero, List.getElem?_cons_succ] at g0 g1 g2 g3 g4 g5 g6 g7 g8
      have H2 := hide (And.intro hbg hB1)
      have hlt1 := hbg.lt
      clear hbg hB1 hV1 hgb
      go_upto_region 6 with (go_at_call 7; refine (HC1.out V1).mono ?_; rintro e V2 ⟨rfl, hB2⟩; have hB2 := hB2.below; have h1 := H2.out.1.below hB2 H2.out.1.lt; have h2 := H2.out.2.trans (hB2.mono H2.out.2.size); have H3 := hide (And.intro h1 h2); clear h1 h2 hB2)
      clear g0 g1 g2 g3 g4 g5 g6 g7 g8 hlt1 H2
      obtain ⟨hb, hhb⟩ : ∃ g, g = V2.heap.size := ⟨_, rfl⟩
      obtain ⟨V3, hV3⟩ : ∃ W, W = V2.alloc (.cells #[.int .i64 r1, .int .i64 r2, .int .i64 r3, .int .i64 r4, .int .i64 r5, .int .i64 r6, .int .i64 r7, .int .i64 r8, .int .i64 r9] 26) := ⟨_, rfl⟩
      rw [← hV3, ← hhb]
      have hbg : Blk V3.drew gb 26 #[.int .i64 t1, .int .i64 t2, .int .i64 t3, .int .i64 t4, .int .i64 t5, .int .i64 t6, .int .i64 t7, .int .i64 t8, .int .i64 t9] := by rw [hV3]; exact H3.out.1.alloc _
      have hbh : Blk V3.drew hb 26 #[.int .i64 r1, .int .i64 r2, .int .i64 r3, .int .i64 r4, .int .i64 r5, .int .i64 r6, .int .i64 r7, .int .i64 r8, .int .i64 r9] := by rw [hV3, hhb]; exact Blk.new _ _ _
      have hB3 : Below X.heap.size X V3.drew := by rw [hV3]; exact (H3.out.2.alloc H3.out.2.size _).drew
      have HQ := hide (And.intro (show (fun W : World => Blk W gb 26 #[.int .i64 t1, .int .i64 t2, .int .i64 t3, .int .i64 t4, .int .i64 t5, .int .i64 t6, .int .i64 t7, .int .i64 t8, .int .i64 t9] ∧ Blk W hb 26 #[.int .i64 r1, .int .i64 r2, .int .i64 r3, .int .i64 r4, .int .i64 r5, .int .i64 r6, .int .i64 r7, .int .i64 r8, .int .i64 r9]) V3.drew from ⟨hbg, hbh⟩) hB3)
      have HG := hide (show ∀ W : World, (Blk W gb 26 #[.int .i64 t1, .int .i64 t2, .int .i64 t3, .int .i64 t4, .int .i64 t5, .int .i64 t6, .int .i64 t7, .int .i64 t8, .int .i64 t9] ∧ Blk W hb 26 #[.int .i64 r1, .int .i64 r2, .int .i64 r3, .int .i64 r4, .int .i64 r5, .int .i64 r6, .int .i64 r7, .int .i64 r8, .int .i64 r9]) → (W.cell? ⟨gb, 0, none⟩ = some (.int .i64 t1) ∧ W.cell? ⟨gb, 1, none⟩ = some (.int .i64 t2) ∧ W.cell? ⟨gb, 2, none⟩ = some (.int .i64 t3) ∧ W.cell? ⟨gb, 3, none⟩ = some (.int .i64 t4) ∧ W.cell? ⟨gb, 4, none⟩ = some (.int .i64 t5) ∧ W.cell? ⟨gb, 5, none⟩ = some (.int .i64 t6) ∧ W.cell? ⟨gb, 6, none⟩ = some (.int .i64 t7) ∧ W.cell? ⟨gb, 7, none⟩ = some (.int .i64 t8) ∧ W.cell? ⟨gb, 8, none⟩ = some (.int .i64 t9)) ∧ (W.cell? ⟨hb, 0, none⟩ = some (.int .i64 r1) ∧ W.cell? ⟨hb, 1, none⟩ = some (.int .i64 r2) ∧ W.cell? ⟨hb, 2, none⟩ = some (.int .i64 r3) ∧ W.cell? ⟨hb, 3, none⟩ = some (.int .i64 r4) ∧ W.cell? ⟨hb, 4, none⟩ = some (.int .i64 r5) ∧ W.cell? ⟨hb, 5, none⟩ = some (.int .i64 r6) ∧ W.cell? ⟨hb, 6, none⟩ = some (.int .i64 r7) ∧ W.cell? ⟨hb, 7, none⟩ = some (.int .i64 r8) ∧ W.cell? ⟨hb, 8, none⟩ = some (.int .i64 r9)) from fun W h => ⟨⟨h.1.cell 0, h.1.cell 1, h.1.cell 2, h.1.cell 3, h.1.cell 4, h.1.cell 5, h.1.cell 6, h.1.cell 7, h.1.cell 8⟩, ⟨h.2.cell 0, h.2.cell 1, h.2.cell 2, h.2.cell 3, h.2.cell 4, h.2.cell 5, h.2.cell 6, h.2.cell 7, h.2.cell 8⟩⟩)
      clear hbg hbh hB3 hV3 hhb H3
      refine wp_region_mix (fun W : World => Blk W gb 26 #[.int .i64 t1, .int .i64 t2, .int .i64 t3, .int .i64 t4, .int .i64 t5, .int .i64 t6, .int .i64 t7, .int .i64 t8, .int .i64 t9] ∧ Blk W hb 26 #[.int .i64 r1, .int .i64 r2, .int .i64 r3, .int .i64 r4, .int .i64 r5, .int .i64 r6, .int .i64 r7, .int .i64 r8, .int .i64 r9]) [0, 1, 3, 4, 5, 7, 8, 9] [0, 1, 2, 3, 4, 5, 7, 6, 8, 9] mixed_ok (by kernel_rfl) ?_
      obtain ⟨V4, hV4⟩ : ∃ W, W = V3.drew := ⟨_, rfl⟩
      rw [← hV4] at HQ ⊢
      clear hV4
      refine wpMix_q (v := .agg #[.int .i64 r1, .int .i64 r2, .int .i64 r3, .int .i64 r4, .int .i64 r5, .int .i64 r6, .int .i64 r7, .int .i64 r8, .int .i64 r9]) rfl rfl (fun _ _ _ h => h) HQ.out.1 ⟨rfl, fun W h => by obtain ⟨_, q1, q2, q3, q4, q5, q6, q7, q8, q9⟩ := HG.out W h; simp [go_sem, q1, q2, q3, q4, q5, q6, q7, q8, q9]⟩ ?_
      simp only [List.getElem_toArray, List.getElem_cons_zero, Act.put, List.setIfInBounds_toArray, List.set_cons_succ, List.set_cons_zero]
      refine wpMix_q (v := .agg #[.int .i64 t1, .int .i64 t2, .int .i64 t3, .int .i64 t4, .int .i64 t5, .int .i64 t6, .int .i64 t7, .int .i64 t8, .int .i64 t9]) rfl rfl (fun _ _ _ h => h) HQ.out.1 ⟨rfl, fun W h => by obtain ⟨⟨q1, q2, q3, q4, q5, q6, q7, q8, q9⟩, _⟩ := HG.out W h; simp [go_sem, q1, q2, q3, q4, q5, q6, q7, q8, q9]⟩ ?_
      simp only [List.getElem_toArray, List.getElem_cons_succ, List.getElem_cons_zero, Act.put, List.setIfInBounds_toArray, List.set_cons_succ, List.set_cons_zero]
      refine wpMix_n rfl rfl ?_
      go_wp2_with fail
      go_wp2_with (go_at_call 8; refine (HC2.out _).mono ?_; rintro e u31 ⟨rfl, hB⟩; have h1 := (HQ.out.1.1.below hB HQ.out.1.1.lt); have h2 := (HQ.out.1.2.below hB HQ.out.1.2.lt); have h3 := HQ.out.2.trans (hB.mono HQ.out.2.size); have H31 := hide (And.intro (And.intro h1 h2) h3); clear h1 h2 h3 hB)
      refine ⟨fun _ => H31.out.1, ?_⟩
      refine wpMix_q (v := .bool false) rfl rfl (fun _ _ _ h => h) H31.out.1 ⟨rfl, fun W h => by simp [go_sem, e1]⟩ ?_
      simp only [List.getElem_toArray, List.getElem_cons_succ, List.getElem_cons_zero, Act.put, List.setIfInBounds_toArray, List.set_cons_succ, List.set_cons_zero]
      refine wpMix_q (v := .bool false) rfl rfl (fun _ _ _ h => h) H31.out.1 ⟨rfl, fun W h => by simp [go_sem]⟩ ?_
      simp only [List.getElem_toArray, List.getElem_cons_succ, List.getElem_cons_zero, Act.put, List.setIfInBounds_toArray, List.set_cons_succ, List.set_cons_zero]
      refine wpMix_q (v := .agg #[.int .i64 r1, .int .i64 r2, .int .i64 r3, .int .i64 r4, .int .i64 r5, .int .i64 r6, .int .i64 r7, .int .i64 r8, .int .i64 r9]) rfl rfl (fun _ _ _ h => h) H31.out.1 ⟨rfl, fun W h => by obtain ⟨_, q1, q2, q3, q4, q5, q6, q7, q8, q9⟩ := HG.out W h; simp [go_sem, q1, q2, q3, q4, q5, q6, q7, q8, q9]⟩ ?_
      simp only [List.getElem_toArray, List.getElem_cons_succ, List.getElem_cons_zero, Act.put, List.setIfInBounds_toArray, List.set_cons_succ, List.set_cons_zero]
      refine wpMix_q (v := .agg #[.int .i64 r1, .int .i64 r2, .int .i64 r3, .int .i64 r4, .int .i64 r5, .int .i64 r6, .int .i64 r7, .int .i64 r8, .int .i64 r9]) rfl rfl (fun _ _ _ h => h) H31.out.1 ⟨rfl, fun W h => by obtain ⟨_, q1, q2, q3, q4, q5, q6, q7, q8, q9⟩ := HG.out W h; simp [go_sem, q1, q2, q3, q4, q5, q6, q7, q8, q9]⟩ ?_
      simp only [List.getElem_toArray, List.getElem_cons_succ, List.getElem_cons_zero, Act.put, List.setIfInBounds_toArray, List.set_cons_succ, List.set_cons_zero]
      refine wpMix_n rfl rfl ?_
      go_wp2_with fail
      go_wp2_with (go_at_call 7; refine (HC3.out _).mono ?_; rintro e u32 ⟨rfl, hB⟩; have hB := hB.below; have h1 := (H31.out.1.1.below hB H31.out.1.1.lt); have h2 := (H31.out.1.2.below hB H31.out.1.2.lt); have h3 := H31.out.2.trans (hB.mono H31.out.2.size); have H32 := hide (And.intro (And.intro h1 h2) h3); clear h1 h2 h3 hB)
      refine ⟨fun _ => H32.out.1, ?_⟩
      refine wpMix_q (v := .bool false) rfl rfl (fun _ _ _ h => h) H32.out.1 ⟨rfl, fun W h => by simp [go_sem, e1]⟩ ?_
      simp only [List.getElem_toArray, List.getElem_cons_succ, List.getElem_cons_zero, Act.put, List.setIfInBounds_toArray, List.set_cons_succ, List.set_cons_zero]
      refine wpMix_q (v := .bool false) rfl rfl (fun _ _ _ h => h) H32.out.1 ⟨rfl, fun W h => by simp [go_sem]⟩ ?_
      simp only [List.getElem_toArray, List.getElem_cons_succ, List.getElem_cons_zero, Act.put, List.setIfInBounds_toArray, List.set_cons_succ, List.set_cons_zero]
      refine wpMix_nil ?_
      go_wp2
      go_roundw
      case rel => exact ⟨i + 1, by omega, by go_num, H32.out.2⟩
      case measure => (simp [intOf]; try omega)
    · obtain rfl : i = 6 := by omega
      have i1 : ¬ ((6 : Nat) : Int) < 6 := by omega
      have HB := hide (HX.out.2.1.trans (hB.mono HX.out.2.1.size))
      clear hB
      go_wp2
      go_ret
      exact ⟨rfl, HB.out⟩
end Go.Proofs.YtelfnmohpjkilaaDoor
