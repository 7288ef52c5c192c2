/- ref04.Hills (printed by mk_Hls.py). -/
import Derived.Test.YtelfnmohpjkilaaGreatDoorCB11
import Derived.Test.YtelfnmohpjkilaaGreatDoorCB18
import Derived.Test.YtelfnmohpjkilaaGreatDoorCB21
namespace Go.Proofs.YtelfnmohpjkilaaGreatDoor
open Go.RowKit Go.Sort
theorem quad_fits {a b c d : Pt} (ha : fitsP a) (hb : fitsP b) (hc : fitsP c) (hd : fitsP d) : ∀ t ∈ quadP a b c d, fitsT t := by
  intro t ht
  simp only [quadP, List.mem_cons, List.not_mem_nil, or_false] at ht
  rcases ht with rfl | rfl
  · exact ⟨ha, hb, hc⟩
  · exact ⟨ha, hc, hd⟩
set_option maxRecDepth 100000 in
set_option maxHeartbeats 32000000 in
theorem hills_any (n0 : Nat) (A : Option Addr) (c : Nat) (ns : List Int) (w : World) (hs : ns ≠ [] → Sl encZ4 1 w w.heap.size A ns) (hl : ns.length ≤ 49) (hf : ∀ n ∈ ns, fits n) :
    Calls Tryz.prog 41 #[.int .i64 n0, .int .i64 8, .slice A ns.length c] w fun e w' => ∃ v L, e = .returned v ∧ Own encT 9 58 w' w.heap.size v L.length L ∧ L.length ≤ 72 ∧ (∀ t ∈ L, fitsT t) ∧ Below w.heap.size w w' := by
  have hmo := mod_any n0 6 (by omega) (by omega) w
  have hmb := modC_bound n0 6 (by omega)
  obtain ⟨m6, hm6⟩ : ∃ m : Nat, (m : Int) = modC n0 6 := ⟨(modC n0 6).toNat, by omega⟩
  rw [← hm6] at hmo hmb
  obtain ⟨K, hK⟩ : ∃ K, K = m6 + 1 := ⟨_, rfl⟩
  have hK6 : K ≤ 6 := by omega
  have e1 : 1 + (m6 : Int) = (K : Int) := by omega
  have hhill := fun (x y : Nat) (hx : x ≤ 6) (hy : y ≤ 6) W (hW : Below w.heap.size w W) => hill_any x y hx hy A c ns W (fun h => ((hs h).below hW).more hW.size) hl hf
  obtain ⟨M, hM⟩ : ∃ M, M = ns.length := ⟨_, rfl⟩
  simp only [← hM] at hhill ⊢
  have HH := hide hhill
  have HM := hide hmo
  clear hmo hhill hs hf hl hM hm6 hK
  go_enter Tryz.func41, Tryz.ntmps41
  go_upto_region 2 with (go_at_call 63; refine HM.out.mono ?_; rintro e W ⟨rfl, hW⟩; obtain rfl : w = W := hW.symm)
  go_wp2_with fail
  go_loopw [7, 8] (fun ov yv wr => ∃ (y m : Nat) (L : List Tri), y ≤ K ∧ yv = .int .i64 y ∧ Own encT 9 58 wr w.heap.size ov m L ∧ m ≤ 12 * y ∧ (∀ t ∈ L, fitsT t) ∧ Below w.heap.size w wr) (fun _ yv _ => K - (intOf yv).toNat)
  case atStart => exact ⟨0, 0, [], by omega, rfl, Own.nil, by omega, (fun t h => by cases h), Below.refl _ w⟩
  case round =>
    obtain ⟨y, m, L, hy, rfl, hown, hm, hfL, hB⟩ := hrel
    obtain ⟨V, rfl⟩ : ∃ x, x = wr := ⟨_, rfl⟩
    by_cases hlt : y < K
    · have i1 : (y : Int) < (K : Int) := by omega
      have HV := hide (And.intro hown (And.intro hfL hB))
      clear hown hfL hB
      go_wp2_with fail
      go_loopw [7, 9] (fun ov xv wr => ∃ (x m2 : Nat) (L : List Tri), x ≤ K ∧ xv = .int .i64 x ∧ Own encT 9 58 wr w.heap.size ov m2 L ∧ m2 ≤ 12 * y + 2 * x ∧ (∀ t ∈ L, fitsT t) ∧ Below w.heap.size w wr) (fun _ xv _ => K - (intOf xv).toNat)
      case atStart => exact ⟨0, m, L, by omega, rfl, HV.out.1, by omega, HV.out.2.1, HV.out.2.2⟩
      case round =>
        clear HV
        obtain ⟨x, m2, L2, hx, rfl, hown, hm2, hfL, hB⟩ := hrel
        obtain ⟨T0, rfl⟩ : ∃ x, x = wr := ⟨_, rfl⟩
        by_cases hlx : x < K
        · have i2 : (x : Int) < (K : Int) := by omega
          obtain ⟨x1, hx1⟩ : ∃ a, a = x + 1 := ⟨_, rfl⟩
          obtain ⟨y1, hy1⟩ : ∃ a, a = y + 1 := ⟨_, rfl⟩
          have e2 : (x : Int) + 1 = (x1 : Int) := by omega
          have e3 : (y : Int) + 1 = (y1 : Int) := by omega
          have bx1 : x1 ≤ 6 := by omega
          have by1 : y1 ≤ 6 := by omega
          clear hx1 hy1
          have HT0 := hide (And.intro hown (And.intro hfL hB))
          have HK0 := hide (show Below T0.heap.size T0 T0 ∧ True from ⟨Below.refl _ _, trivial⟩)
          clear hown hfL hB
          go_upto_region 10 with (go_at_call 78; refine (HH.out x y (by omega) (by omega) T0 (HT0.out.2.2.trans (HK0.out.1.mono HT0.out.2.2.size))).mono ?_; rintro e u0 ⟨⟨a1, a2, a3⟩, rfl, hfpa, hBa⟩; have HC0 := hide (And.intro hfpa hBa); clear hfpa hBa)
          obtain ⟨ga, hga⟩ : ∃ g, g = u0.heap.size := ⟨_, rfl⟩
          obtain ⟨T1, hT1⟩ : ∃ W, W = u0.alloc (.cells #[.int .i64 a1, .int .i64 a2, .int .i64 a3] 41) := ⟨_, rfl⟩
          rw [← hT1, ← hga]
          have hBn : Below T0.heap.size T0 T1 := by rw [hT1]; exact HC0.out.2.alloc HC0.out.2.size _
          have hbn : Blk T1 ga 41 #[.int .i64 a1, .int .i64 a2, .int .i64 a3] := by rw [hT1, hga]; exact Blk.new _ _ _
          have HK1 := hide (And.intro (HK0.out.1.trans (hBn.mono HK0.out.1.size)) (And.intro hbn trivial))
          clear hBn hbn hT1 hga 
          go_upto_region 11 with (go_at_call 78; refine (HH.out x1 y bx1 (by omega) T1 (HT0.out.2.2.trans (HK1.out.1.mono HT0.out.2.2.size))).mono ?_; rintro e u1 ⟨⟨b1, b2, b3⟩, rfl, hfpb, hBb⟩; have HC1 := hide (And.intro hfpb hBb); clear hfpb hBb)
          obtain ⟨gb, hgb⟩ : ∃ g, g = u1.heap.size := ⟨_, rfl⟩
          obtain ⟨T2, hT2⟩ : ∃ W, W = u1.alloc (.cells #[.int .i64 b1, .int .i64 b2, .int .i64 b3] 41) := ⟨_, rfl⟩
          rw [← hT2, ← hgb]
          have hBn : Below T1.heap.size T1 T2 := by rw [hT2]; exact HC1.out.2.alloc HC1.out.2.size _
          have hbn : Blk T2 gb 41 #[.int .i64 b1, .int .i64 b2, .int .i64 b3] := by rw [hT2, hgb]; exact Blk.new _ _ _
          have hba := HK1.out.2.1.below hBn HK1.out.2.1.lt
          have HK2 := hide (And.intro (HK1.out.1.trans (hBn.mono HK1.out.1.size)) (And.intro hba (And.intro hbn trivial)))
          clear hBn hbn hT2 hgb hba
          go_upto_region 12 with (go_at_call 78; refine (HH.out x1 y1 bx1 by1 T2 (HT0.out.2.2.trans (HK2.out.1.mono HT0.out.2.2.size))).mono ?_; rintro e u2 ⟨⟨c1, c2, c3⟩, rfl, hfpc, hBc⟩; have HC2 := hide (And.intro hfpc hBc); clear hfpc hBc)
          obtain ⟨gc, hgc⟩ : ∃ g, g = u2.heap.size := ⟨_, rfl⟩
          obtain ⟨T3, hT3⟩ : ∃ W, W = u2.alloc (.cells #[.int .i64 c1, .int .i64 c2, .int .i64 c3] 41) := ⟨_, rfl⟩
          rw [← hT3, ← hgc]
          have hBn : Below T2.heap.size T2 T3 := by rw [hT3]; exact HC2.out.2.alloc HC2.out.2.size _
          have hbn : Blk T3 gc 41 #[.int .i64 c1, .int .i64 c2, .int .i64 c3] := by rw [hT3, hgc]; exact Blk.new _ _ _
          have hba := HK2.out.2.1.below hBn HK2.out.2.1.lt
          have hbb := HK2.out.2.2.1.below hBn HK2.out.2.2.1.lt
          have HK3 := hide (And.intro (HK2.out.1.trans (hBn.mono HK2.out.1.size)) (And.intro hba (And.intro hbb (And.intro hbn trivial))))
          clear hBn hbn hT3 hgc hba hbb
          go_upto_region 13 with (go_at_call 78; refine (HH.out x y1 (by omega) by1 T3 (HT0.out.2.2.trans (HK3.out.1.mono HT0.out.2.2.size))).mono ?_; rintro e u3 ⟨⟨d1, d2, d3⟩, rfl, hfpd, hBd⟩; have HC3 := hide (And.intro hfpd hBd); clear hfpd hBd)
          obtain ⟨gd, hgd⟩ : ∃ g, g = u3.heap.size := ⟨_, rfl⟩
          obtain ⟨T4, hT4⟩ : ∃ W, W = u3.alloc (.cells #[.int .i64 d1, .int .i64 d2, .int .i64 d3] 41) := ⟨_, rfl⟩
          rw [← hT4, ← hgd]
          have hBn : Below T3.heap.size T3 T4 := by rw [hT4]; exact HC3.out.2.alloc HC3.out.2.size _
          have hbn : Blk T4 gd 41 #[.int .i64 d1, .int .i64 d2, .int .i64 d3] := by rw [hT4, hgd]; exact Blk.new _ _ _
          have hba := HK3.out.2.1.below hBn HK3.out.2.1.lt
          have hbb := HK3.out.2.2.1.below hBn HK3.out.2.2.1.lt
          have hbc := HK3.out.2.2.2.1.below hBn HK3.out.2.2.2.1.lt
          have HK4 := hide (And.intro (HK3.out.1.trans (hBn.mono HK3.out.1.size)) (And.intro hba (And.intro hbb (And.intro hbc (And.intro hbn trivial)))))
          clear hBn hbn hT4 hgd hba hbb hbc
          have la0 : T4.cell? ⟨ga, 0, none⟩ = some (.int .i64 a1) := HK4.out.2.1.cell 0
          have la1 : T4.cell? ⟨ga, 1, none⟩ = some (.int .i64 a2) := HK4.out.2.1.cell 1
          have la2 : T4.cell? ⟨ga, 2, none⟩ = some (.int .i64 a3) := HK4.out.2.1.cell 2
          have lb0 : T4.cell? ⟨gb, 0, none⟩ = some (.int .i64 b1) := HK4.out.2.2.1.cell 0
          have lb1 : T4.cell? ⟨gb, 1, none⟩ = some (.int .i64 b2) := HK4.out.2.2.1.cell 1
          have lb2 : T4.cell? ⟨gb, 2, none⟩ = some (.int .i64 b3) := HK4.out.2.2.1.cell 2
          have lc0 : T4.cell? ⟨gc, 0, none⟩ = some (.int .i64 c1) := HK4.out.2.2.2.1.cell 0
          have lc1 : T4.cell? ⟨gc, 1, none⟩ = some (.int .i64 c2) := HK4.out.2.2.2.1.cell 1
          have lc2 : T4.cell? ⟨gc, 2, none⟩ = some (.int .i64 c3) := HK4.out.2.2.2.1.cell 2
          have ld0 : T4.cell? ⟨gd, 0, none⟩ = some (.int .i64 d1) := HK4.out.2.2.2.2.1.cell 0
          have ld1 : T4.cell? ⟨gd, 1, none⟩ = some (.int .i64 d2) := HK4.out.2.2.2.2.1.cell 1
          have ld2 : T4.cell? ⟨gd, 2, none⟩ = some (.int .i64 d3) := HK4.out.2.2.2.2.1.cell 2
          have hz := HK4.out.1.size
          have hzw := HT0.out.2.2.size
          have hO4 := HT0.out.1.below HK4.out.1 (Nat.le_refl _)
          have hB4 := HT0.out.2.2.trans (HK4.out.1.mono hzw)
          have hfq := quad_fits HC0.out.1 HC1.out.1 HC2.out.1 HC3.out.1
          have H4 := hide (And.intro hO4 (And.intro hB4 hfq))
          have hlta := HK4.out.2.1.lt
          have hltb := HK4.out.2.2.1.lt
          have hltc := HK4.out.2.2.2.1.lt
          have hltd := HK4.out.2.2.2.2.1.lt
          clear hO4 hB4 hfq HC0 HC1 HC2 HC3 HK0 HK1 HK2 HK3 HK4
          go_wp2_with (first | (at_builtin; refine wpList_appendS rfl _ _ _ rfl Tryz.underlying28 infoT rfl (by omega) encT_len encT_one rfl (H4.out.1.below H5.out.2 (Nat.le_refl _)) A5 c5 u5.heap.size (quadP ((a1, a2, a3)) ((b1, b2, b3)) ((c1, c2, c3)) ((d1, d2, d3))) rfl (H5.out.1.sl encT_len (Nat.le_refl _)) (by unfold maxLen; simp [quadP]; omega) (by simp [quadP]; omega) (by have := H5.out.2.size; have := H4.out.2.1.size; omega) ?_; intro v6 w6 ho6 hg6 hB6 hat6; have H6 := hide (And.intro ho6 (H4.out.2.1.trans ((H5.out.2.mono H4.out.2.1.size).trans hB6))); clear ho6 hg6 hB6 hat6) | (go_at_call 79; refine (quad_any ((a1, a2, a3)) ((b1, b2, b3)) ((c1, c2, c3)) ((d1, d2, d3)) T4).mono ?_; rintro e u5 ⟨v5, rfl, ho, hB⟩; obtain ⟨A5, c5, rfl⟩ := ho.form; have H5 := hide (And.intro ho hB); clear ho hB))
          go_roundw
          case rel => exact ⟨x + 1, m2 + 2, L2 ++ quadP ((a1, a2, a3)) ((b1, b2, b3)) ((c1, c2, c3)) ((d1, d2, d3)), by omega, by go_num, H6.out.1, by omega, (fun t ht => by
            rcases List.mem_append.1 ht with h | h
            · exact HT0.out.2.1 t h
            · exact H4.out.2.2 t h), H6.out.2⟩
          case measure => (simp [intOf]; try omega)
        · obtain rfl : x = K := by omega
          have i2 : ¬ (x : Int) < (x : Int) := by omega
          have HT0 := hide (And.intro hown (And.intro hfL hB))
          clear hown hfL hB
          go_wp2
          go_roundw
          case rel => exact ⟨y + 1, m2, L2, by omega, by go_num, HT0.out.1, by omega, HT0.out.2.1, HT0.out.2.2⟩
          case measure => (simp [intOf]; try omega)
    · obtain rfl : y = K := by omega
      have i1 : ¬ (y : Int) < (y : Int) := by omega
      have hml := hown.1
      have HV := hide (And.intro hown (And.intro hfL hB))
      clear hown hfL hB
      go_wp2
      go_ret
      exact ⟨_, by trivial, L, by rw [← hml]; exact HV.out.1, by omega, (fun a a1 b a2 a3 b1 a4 a5 b2 h => HV.out.2.1 _ h), HV.out.2.2⟩
end Go.Proofs.YtelfnmohpjkilaaGreatDoor
