/- Hil Hls Cub VoxE. -/
import Derived.WalkKit
import Derived.WalkSpells
import Derived.WalkLawsBesides
import Derived.Laws.OwnMore
import Derived.Deep.AppendLies
import Derived.Deep.Draws
import Derived.Maps.AppendAt
import Derived.OwnWalk
import Derived.Sort.Grow
import Derived.Shelf.GgSortFunc.RowK
import Derived.RangeFuncNested
import Derived.RangeFuncBox
import Derived.Test.YtelfnmohpjkilaaGreatDoorRows
import Derived.Handy
import Derived.Maps.Own
import Derived.Maps.Views
import Derived.DeepKeys4
import Derived.DeepKeys
import Derived.Laws.StructEq
import Derived.Deep.QuietTactic
import Derived.BigQuiet
import Derived.LoopN
import Derived.Laws.EntriesVeiled
import Derived.Shelf.SlSortCmp.QuietGrown
import Derived.Deep.RegionHeld3
import Derived.Deep.DrawnRows
import Derived.Sort.Statements
import Derived.Shelf.SlSortCmp.NoneTotal
import Derived.OrdersHeld
import Derived.OrdersIn
import Derived.RangeFuncCalls
import Derived.OwnWalkIn
import Derived.Deep.CutBlock
import Derived.Deep.DeepCutAuto
import Derived.Test.YtelfnmohpjkilaaGreatDoorProg
import Derived.Test.YtelfnmohpjkilaaGreatDoorQ21
import Derived.Test.YtelfnmohpjkilaaGreatDoorQ40
import Derived.Test.YtelfnmohpjkilaaGreatDoorQ41
namespace Go.Proofs.YtelfnmohpjkilaaGreatDoor
open Go.RowKit Go.Sort
theorem encZ4_len (x : Int) : (encZ4 x).length = 1 := rfl
end Go.Proofs.YtelfnmohpjkilaaGreatDoor
namespace Go.Proofs.YtelfnmohpjkilaaGreatDoor
open Go.RowKit Go.Sort
theorem quad_fits {a b c d : Pt} (ha : fitsP a) (hb : fitsP b) (hc : fitsP c) (hd : fitsP d) : ∀ t ∈ quadP a b c d, fitsT t := by
  intro t ht
  simp only [quadP, List.mem_cons, List.not_mem_nil, or_false] at ht
  rcases ht with rfl | rfl
  · exact ⟨ha, hb, hc⟩
  · exact ⟨ha, hc, hd⟩
set_option maxRecDepth 100000 in
set_option maxHeartbeats 32000000 in
theorem hills_any (n0 : Nat) (A : Option Addr) (c : Nat) (ns : List Int) (w : World) (hs : ns ≠ [] → Sl encZ4 1 w w.heap.size A ns) (hl : ns.length ≤ 49) (hf : ∀ n ∈ ns, fits n) :
    Calls Tryz.prog 41 #[.int .i64 n0, .int .i64 8, .slice A ns.length c] w fun e w' => ∃ v L, e = .returned v ∧ Own encT 9 58 w' w.heap.size v L.length L ∧ L.length ≤ 72 ∧ (∀ t ∈ L, fitsT t) ∧ Below w.heap.size w w' := by
  have hmo := mod_any n0 6 (by omega) (by omega) w
  have hmb := modC_bound n0 6 (by omega)
  obtain ⟨m6, hm6⟩ : ∃ m : Nat, (m : Int) = modC n0 6 := ⟨(modC n0 6).toNat, by omega⟩
  rw [← hm6] at hmo hmb
  obtain ⟨K, hK⟩ : ∃ K, K = m6 + 1 := ⟨_, rfl⟩
  have hK6 : K ≤ 6 := by omega
  have e1 : 1 + (m6 : Int) = (K : Int) := by omega
  have hhill := fun (x y : Nat) (hx : x ≤ 6) (hy : y ≤ 6) W (hW : Below w.heap.size w W) => hill_any x y hx hy A c ns W (fun h => ((hs h).below hW).more hW.size) hl hf
  obtain ⟨M, hM⟩ : ∃ M, M = ns.length := ⟨_, rfl⟩
  simp only [← hM] at hhill ⊢
  have HH := hide hhill
  have HM := hide hmo
  clear hmo hhill hs hf hl hM hm6 hK
  go_enter Tryz.func41, Tryz.ntmps41
  go_upto_region 2 with (go_at_call 63; refine HM.out.mono ?_; rintro e W ⟨rfl, hW⟩; obtain rfl : w = W := hW.symm)
  go_wp2_with fail
  go_loopw [7, 8] (fun ov yv wr => ∃ (y m : Nat) (L : List Tri), y ≤ K ∧ yv = .int .i64 y ∧ Own encT 9 58 wr w.heap.size ov m L ∧ m ≤ 12 * y ∧ (∀ t ∈ L, fitsT t) ∧ Below w.heap.size w wr) (fun _ yv _ => K - (intOf yv).toNat)
  case atStart => exact ⟨0, 0, [], by omega, rfl, Own.nil, by omega, (fun t h => by cases h), Below.refl _ w⟩
  case round =>
    obtain ⟨y, m, L, hy, rfl, hown, hm, hfL, hB⟩ := hrel
    obtain ⟨V, rfl⟩ : ∃ x, x = wr := ⟨_, rfl⟩
    by_cases hlt : y < K
    · have i1 : (y : Int) < (K : Int) := by omega
      have HV := hide (And.intro hown (And.intro hfL hB))
      clear hown hfL hB
      go_wp2_with fail
      go_loopw [7, 9] (fun ov xv wr => ∃ (x m2 : Nat) (L : List Tri), x ≤ K ∧ xv = .int .i64 x ∧ Own encT 9 58 wr w.heap.size ov m2 L ∧ m2 ≤ 12 * y + 2 * x ∧ (∀ t ∈ L, fitsT t) ∧ Below w.heap.size w wr) (fun _ xv _ => K - (intOf xv).toNat)
      case atStart => exact ⟨0, m, L, by omega, rfl, HV.out.1, by omega, HV.out.2.1, HV.out.2.2⟩
      case round =>
        clear HV
        obtain ⟨x, m2, L2, hx, rfl, hown, hm2, hfL, hB⟩ := hrel
        obtain ⟨T0, rfl⟩ : ∃ x, x = wr := ⟨_, rfl⟩
        by_cases hlx : x < K
        · have i2 : (x : Int) < (K : Int) := by omega
          obtain ⟨x1, hx1⟩ : ∃ a, a = x + 1 := ⟨_, rfl⟩
          obtain ⟨y1, hy1⟩ : ∃ a, a = y + 1 := ⟨_, rfl⟩
          have e2 : (x : Int) + 1 = (x1 : Int) := by omega
          have e3 : (y : Int) + 1 = (y1 : Int) := by omega
          have bx1 : x1 ≤ 6 := by omega
          have by1 : y1 ≤ 6 := by omega
          clear hx1 hy1
          have HT0 := hide (And.intro hown (And.intro hfL hB))
          have HK0 := hide (show Below T0.heap.size T0 T0 ∧ True from ⟨Below.refl _ _, trivial⟩)
          clear hown hfL hB
          go_upto_region 10 with (go_at_call 78; refine (HH.out x y (by omega) (by omega) T0 (HT0.out.2.2.trans (HK0.out.1.mono HT0.out.2.2.size))).mono ?_; rintro e u0 ⟨⟨a1, a2, a3⟩, rfl, hfpa, hBa⟩; have HC0 := hide (And.intro hfpa hBa); clear hfpa hBa)
          obtain ⟨ga, hga⟩ : ∃ g, g = u0.heap.size := ⟨_, rfl⟩
          obtain ⟨T1, hT1⟩ : ∃ W, W = u0.alloc (.cells #[.int .i64 a1, .int .i64 a2, .int .i64 a3] 41) := ⟨_, rfl⟩
          rw [← hT1, ← hga]
          have hBn : Below T0.heap.size T0 T1 := by rw [hT1]; exact HC0.out.2.alloc HC0.out.2.size _
          have hbn : Blk T1 ga 41 #[.int .i64 a1, .int .i64 a2, .int .i64 a3] := by rw [hT1, hga]; exact Blk.new _ _ _
          have HK1 := hide (And.intro (HK0.out.1.trans (hBn.mono HK0.out.1.size)) (And.intro hbn trivial))
          clear hBn hbn hT1 hga 
          go_upto_region 11 with (go_at_call 78; refine (HH.out x1 y bx1 (by omega) T1 (HT0.out.2.2.trans (HK1.out.1.mono HT0.out.2.2.size))).mono ?_; rintro e u1 ⟨⟨b1, b2, b3⟩, rfl, hfpb, hBb⟩; have HC1 := hide (And.intro hfpb hBb); clear hfpb hBb)
          obtain ⟨gb, hgb⟩ : ∃ g, g = u1.heap.size := ⟨_, rfl⟩
          obtain ⟨T2, hT2⟩ : ∃ W, W = u1.alloc (.cells #[.int .i64 b1, .int .i64 b2, .int .i64 b3] 41) := ⟨_, rfl⟩
          rw [← hT2, ← hgb]
          have hBn : Below T1.heap.size T1 T2 := by rw [hT2]; exact HC1.out.2.alloc HC1.out.2.size _
          have hbn : Blk T2 gb 41 #[.int .i64 b1, .int .i64 b2, .int .i64 b3] := by rw [hT2, hgb]; exact Blk.new _ _ _
          have hba := HK1.out.2.1.below hBn HK1.out.2.1.lt
          have HK2 := hide (And.intro (HK1.out.1.trans (hBn.mono HK1.out.1.size)) (And.intro hba (And.intro hbn trivial)))
          clear hBn hbn hT2 hgb hba
          go_upto_region 12 with (go_at_call 78; refine (HH.out x1 y1 bx1 by1 T2 (HT0.out.2.2.trans (HK2.out.1.mono HT0.out.2.2.size))).mono ?_; rintro e u2 ⟨⟨c1, c2, c3⟩, rfl, hfpc, hBc⟩; have HC2 := hide (And.intro hfpc hBc); clear hfpc hBc)
          obtain ⟨gc, hgc⟩ : ∃ g, g = u2.heap.size := ⟨_, rfl⟩
          obtain ⟨T3, hT3⟩ : ∃ W, W = u2.alloc (.cells #[.int .i64 c1, .int .i64 c2, .int .i64 c3] 41) := ⟨_, rfl⟩
          rw [← hT3, ← hgc]
          have hBn : Below T2.heap.size T2 T3 := by rw [hT3]; exact HC2.out.2.alloc HC2.out.2.size _
          have hbn : Blk T3 gc 41 #[.int .i64 c1, .int .i64 c2, .int .i64 c3] := by rw [hT3, hgc]; exact Blk.new _ _ _
          have hba := HK2.out.2.1.below hBn HK2.out.2.1.lt
          have hbb := HK2.out.2.2.1.below hBn HK2.out.2.2.1.lt
          have HK3 := hide (And.intro (HK2.out.1.trans (hBn.mono HK2.out.1.size)) (And.intro hba (And.intro hbb (And.intro hbn trivial))))
          clear hBn hbn hT3 hgc hba hbb
          go_upto_region 13 with (go_at_call 78; refine (HH.out x y1 (by omega) by1 T3 (HT0.out.2.2.trans (HK3.out.1.mono HT0.out.2.2.size))).mono ?_; rintro e u3 ⟨⟨d1, d2, d3⟩, rfl, hfpd, hBd⟩; have HC3 := hide (And.intro hfpd hBd); clear hfpd hBd)
          obtain ⟨gd, hgd⟩ : ∃ g, g = u3.heap.size := ⟨_, rfl⟩
          obtain ⟨T4, hT4⟩ : ∃ W, W = u3.alloc (.cells #[.int .i64 d1, .int .i64 d2, .int .i64 d3] 41) := ⟨_, rfl⟩
          rw [← hT4, ← hgd]
          have hBn : Below T3.heap.size T3 T4 := by rw [hT4]; exact HC3.out.2.alloc HC3.out.2.size _
          have hbn : Blk T4 gd 41 #[.int .i64 d1, .int .i64 d2, .int .i64 d3] := by rw [hT4, hgd]; exact Blk.new _ _ _
          have hba := HK3.out.2.1.below hBn HK3.out.2.1.lt
          have hbb := HK3.out.2.2.1.below hBn HK3.out.2.2.1.lt
          have hbc := HK3.out.2.2.2.1.below hBn HK3.out.2.2.2.1.lt
          have HK4 := hide (And.intro (HK3.out.1.trans (hBn.mono HK3.out.1.size)) (And.intro hba (And.intro hbb (And.intro hbc (And.intro hbn trivial)))))
          clear hBn hbn hT4 hgd hba hbb hbc
          have la0 : T4.cell? ⟨ga, 0, none⟩ = some (.int .i64 a1) := HK4.out.2.1.cell 0
          have la1 : T4.cell? ⟨ga, 1, none⟩ = some (.int .i64 a2) := HK4.out.2.1.cell 1
          have la2 : T4.cell? ⟨ga, 2, none⟩ = some (.int .i64 a3) := HK4.out.2.1.cell 2
          have lb0 : T4.cell? ⟨gb, 0, none⟩ = some (.int .i64 b1) := HK4.out.2.2.1.cell 0
          have lb1 : T4.cell? ⟨gb, 1, none⟩ = some (.int .i64 b2) := HK4.out.2.2.1.cell 1
          have lb2 : T4.cell? ⟨gb, 2, none⟩ = some (.int .i64 b3) := HK4.out.2.2.1.cell 2
          have lc0 : T4.cell? ⟨gc, 0, none⟩ = some (.int .i64 c1) := HK4.out.2.2.2.1.cell 0
          have lc1 : T4.cell? ⟨gc, 1, none⟩ = some (.int .i64 c2) := HK4.out.2.2.2.1.cell 1
          have lc2 : T4.cell? ⟨gc, 2, none⟩ = some (.int .i64 c3) := HK4.out.2.2.2.1.cell 2
          have ld0 : T4.cell? ⟨gd, 0, none⟩ = some (.int .i64 d1) := HK4.out.2.2.2.2.1.cell 0
          have ld1 : T4.cell? ⟨gd, 1, none⟩ = some (.int .i64 d2) := HK4.out.2.2.2.2.1.cell 1
          have ld2 : T4.cell? ⟨gd, 2, none⟩ = some (.int .i64 d3) := HK4.out.2.2.2.2.1.cell 2
          have hz := HK4.out.1.size
          have hzw := HT0.out.2.2.size
          have hO4 := HT0.out.1.below HK4.out.1 (Nat.le_refl _)
          have hB4 := HT0.out.2.2.trans (HK4.out.1.mono hzw)
          have hfq := quad_fits HC0.out.1 HC1.out.1 HC2.out.1 HC3.out.1
          have H4 := hide (And.intro hO4 (And.intro hB4 hfq))
          have hlta := HK4.out.2.1.lt
          have hltb := HK4.out.2.2.1.lt
          have hltc := HK4.out.2.2.2.1.lt
          have hltd := HK4.out.2.2.2.2.1.lt
          clear hO4 hB4 hfq HC0 HC1 HC2 HC3 HK0 HK1 HK2 HK3 HK4
          go_wp2_with (first | (at_builtin; refine wpList_appendS rfl _ _ _ rfl Tryz.underlying28 infoT rfl (by omega) encT_len encT_one rfl (H4.out.1.below H5.out.2 (Nat.le_refl _)) A5 c5 u5.heap.size (quadP ((a1, a2, a3)) ((b1, b2, b3)) ((c1, c2, c3)) ((d1, d2, d3))) rfl (H5.out.1.sl encT_len (Nat.le_refl _)) (by unfold maxLen; simp [quadP]; omega) (by simp [quadP]; omega) (by have := H5.out.2.size; have := H4.out.2.1.size; omega) ?_; intro v6 w6 ho6 hg6 hB6 hat6; have H6 := hide (And.intro ho6 (H4.out.2.1.trans ((H5.out.2.mono H4.out.2.1.size).trans hB6))); clear ho6 hg6 hB6 hat6) | (go_at_call 79; refine (quad_any ((a1, a2, a3)) ((b1, b2, b3)) ((c1, c2, c3)) ((d1, d2, d3)) T4).mono ?_; rintro e u5 ⟨v5, rfl, ho, hB⟩; obtain ⟨A5, c5, rfl⟩ := ho.form; have H5 := hide (And.intro ho hB); clear ho hB))
          go_roundw
          case rel => exact ⟨x + 1, m2 + 2, L2 ++ quadP ((a1, a2, a3)) ((b1, b2, b3)) ((c1, c2, c3)) ((d1, d2, d3)), by omega, by go_num, H6.out.1, by omega, (fun t ht => by
            rcases List.mem_append.1 ht with h | h
            · exact HT0.out.2.1 t h
            · exact H4.out.2.2 t h), H6.out.2⟩
          case measure => (simp [intOf]; try omega)
        · obtain rfl : x = K := by omega
          have i2 : ¬ (x : Int) < (x : Int) := by omega
          have HT0 := hide (And.intro hown (And.intro hfL hB))
          clear hown hfL hB
          go_wp2
          go_roundw
          case rel => exact ⟨y + 1, m2, L2, by omega, by go_num, HT0.out.1, by omega, HT0.out.2.1, HT0.out.2.2⟩
          case measure => (simp [intOf]; try omega)
    · obtain rfl : y = K := by omega
      have i1 : ¬ (y : Int) < (y : Int) := by omega
      have hml := hown.1
      have HV := hide (And.intro hown (And.intro hfL hB))
      clear hown hfL hB
      go_wp2
      go_ret
      exact ⟨_, by trivial, L, by rw [← hml]; exact HV.out.1, by omega, (fun a a1 b a2 a3 b1 a4 a5 b2 h => HV.out.2.1 _ h), HV.out.2.2⟩
end Go.Proofs.YtelfnmohpjkilaaGreatDoor
namespace Go.Proofs.YtelfnmohpjkilaaGreatDoor
open Go.RowKit Go.Sort
/-- The first k of a cube's corners, the others at the origin. -/
def crn (p : Pt) (s : Int) (k i : Nat) : Pt := if i < k then cor8 p s i else (0, 0, 0)
def crnA (p : Pt) (s : Int) (k : Nat) : Array Value := ([0, 1, 2, 3, 4, 5, 6, 7].flatMap fun i => encP (crn p s k i)).toArray
theorem crnA_zero (p : Pt) (s : Int) : crnA p s 0 = #[.int .i64 0, .int .i64 0, .int .i64 0, .int .i64 0, .int .i64 0, .int .i64 0, .int .i64 0, .int .i64 0, .int .i64 0, .int .i64 0, .int .i64 0, .int .i64 0, .int .i64 0, .int .i64 0, .int .i64 0, .int .i64 0, .int .i64 0, .int .i64 0, .int .i64 0, .int .i64 0, .int .i64 0, .int .i64 0, .int .i64 0, .int .i64 0] := rfl
def cubeR (p : Pt) (s : Int) : Prop := (fits p.1 ∧ fits (p.1 + s)) ∧ (fits p.2.1 ∧ fits (p.2.1 + s)) ∧ (fits p.2.2 ∧ fits (p.2.2 + s)) ∧ fits s
set_option maxRecDepth 100000 in
set_option maxHeartbeats 32000000 in
theorem cube_any (p : Pt) (s : Int) (w : World) (hr : cubeR p s) : Calls Tryz.prog 77 #[vP p, .int .i64 s] w fun e w' => ∃ v, e = .returned v ∧ Own encT 9 58 w' w.heap.size v 12 (cubeP (cor8 p s)) ∧ Below w.heap.size w w' := by
  obtain ⟨x, y, z⟩ := p
  obtain ⟨⟨hx, hx1⟩, ⟨hy, hy1⟩, ⟨hz, hz1⟩, hs⟩ := hr
  dsimp only at hx hx1 hy hy1 hz hz1
  have x0 : IntKind.i64.wrap x = x := IntWalk.i64_in _ (by unfold fits at hx; omega)
  have x1 : IntKind.i64.wrap (x + s) = x + s := IntWalk.i64_in _ (by unfold fits at hx1; omega)
  have y0 : IntKind.i64.wrap y = y := IntWalk.i64_in _ (by unfold fits at hy; omega)
  have y1 : IntKind.i64.wrap (y + s) = y + s := IntWalk.i64_in _ (by unfold fits at hy1; omega)
  have z0 : IntKind.i64.wrap z = z := IntWalk.i64_in _ (by unfold fits at hz; omega)
  have z1 : IntKind.i64.wrap (z + s) = z + s := IntWalk.i64_in _ (by unfold fits at hz1; omega)
  have s0 : IntKind.i64.wrap s = s := IntWalk.i64_in _ (by unfold fits at hs; omega)
  have HW := hide (And.intro x0 (And.intro x1 (And.intro y0 (And.intro y1 (And.intro z0 (And.intro z1 s0))))))
  clear x0 x1 y0 y1 z0 z1 s0 hx hx1 hy hy1 hz hz1 hs
  go_enter Tryz.func77, Tryz.ntmps77
  go_wp2_with fail
  obtain ⟨pb, hpb⟩ : ∃ b, b = w.heap.size := ⟨_, rfl⟩
  obtain ⟨cb, hcb⟩ : ∃ b, b = w.heap.size + 1 := ⟨_, rfl⟩
  rw [← hcb]
  obtain ⟨X, hX⟩ : ∃ X, X = (w.alloc (.cells #[.int .i64 x, .int .i64 y, .int .i64 z] 41)).alloc (.cells (crnA (x, y, z) s 0) 134) := ⟨_, rfl⟩
  have hX' := hX
  rw [crnA_zero] at hX'
  rw [← hX', ← hpb]
  have hbp : Blk X pb 41 #[.int .i64 x, .int .i64 y, .int .i64 z] := by rw [hX, hpb]; exact (Blk.new _ _ _).alloc _
  have hbc : Blk X cb 134 (crnA (x, y, z) s 0) := by rw [hX]; exact Blk.new' _ _ _ _ (by rw [hcb]; simp)
  have hBX : Below w.heap.size w X := by rw [hX]; exact ((Below.refl _ w).alloc (Nat.le_refl _) _).alloc (by simp) _
  have HX := hide (And.intro hbp (And.intro hbc (And.intro hBX (And.intro (show w.heap.size ≤ pb by omega) (And.intro (show w.heap.size ≤ cb by omega) (show pb ≠ cb by omega))))))
  clear hbp hbc hBX hX hX' hpb hcb
  go_loopw [6] (fun kv wr => ∃ k : Nat, k ≤ 8 ∧ kv = .int .i64 k ∧ Blk wr pb 41 #[.int .i64 x, .int .i64 y, .int .i64 z] ∧ Blk wr cb 134 (crnA (x, y, z) s k) ∧ Below w.heap.size w wr) (fun kv _ => 8 - (intOf kv).toNat)
  case atStart => exact ⟨0, by omega, rfl, HX.out.1, HX.out.2.1, HX.out.2.2.1⟩
  case round =>
    obtain ⟨k, hk, rfl, hbp, hbc, hB⟩ := hrel
    obtain ⟨R, rfl⟩ : ∃ x, x = wr := ⟨_, rfl⟩
    have hlp := hbp.lt
    have hlc := hbc.lt
    have p0 : R.cell? ⟨pb, 0, none⟩ = some (.int .i64 x) := hbp.cell 0
    have p1 : R.cell? ⟨pb, 1, none⟩ = some (.int .i64 y) := hbp.cell 1
    have p2 : R.cell? ⟨pb, 2, none⟩ = some (.int .i64 z) := hbp.cell 2
    by_cases hk0 : k = 0
    · subst hk0
      have i2 : ((0 : Nat) : Int) < 8 := by omega
      have f0 := hbc.frozen 0
      have c0 : R.cell? ⟨cb, 0, none⟩ = some (.int .i64 0) := hbc.cell 0
      have f1 := hbc.frozen 1
      have c1 : R.cell? ⟨cb, 1, none⟩ = some (.int .i64 0) := hbc.cell 1
      have f2 := hbc.frozen 2
      have c2 : R.cell? ⟨cb, 2, none⟩ = some (.int .i64 0) := hbc.cell 2
      have HR := hide (And.intro hbp (And.intro hbc hB))
      clear hbp hbc hB
      have ⟨x0, x1, y0, y1, z0, z1, s0⟩ := HW.out
      go_wp2
      go_roundw
      case rel =>
        refine ⟨1, by omega, by go_num, ?_, ?_, ?_⟩
        · exact HR.out.1.far3 (g' := cb) HX.out.2.2.2.2.2 _ _ _
        · have h8 := ((HR.out.2.1.set_ 0 (.int .i64 (x))).set_ 1 (.int .i64 (y))).set_ 2 (.int .i64 (z))
          rw [show (((crnA (x, y, z) s 0).setIfInBounds 0 (.int .i64 (x))).setIfInBounds 1 (.int .i64 (y))).setIfInBounds 2 (.int .i64 (z)) = crnA (x, y, z) s 1 by simp [crnA, crn, cor8, encP]] at h8
          exact h8
        · exact ((HR.out.2.2.setCell (p := ⟨cb, 0, none⟩) HX.out.2.2.2.2.1 _).setCell (p := ⟨cb, 1, none⟩) HX.out.2.2.2.2.1 _).setCell (p := ⟨cb, 2, none⟩) HX.out.2.2.2.2.1 _
      case measure => (simp [intOf]; try omega)
    by_cases hk1 : k = 1
    · subst hk1
      have i2 : ((1 : Nat) : Int) < 8 := by omega
      have f0 := hbc.frozen 3
      have c0 : R.cell? ⟨cb, 3, none⟩ = some (.int .i64 0) := hbc.cell 3
      have f1 := hbc.frozen 4
      have c1 : R.cell? ⟨cb, 4, none⟩ = some (.int .i64 0) := hbc.cell 4
      have f2 := hbc.frozen 5
      have c2 : R.cell? ⟨cb, 5, none⟩ = some (.int .i64 0) := hbc.cell 5
      have HR := hide (And.intro hbp (And.intro hbc hB))
      clear hbp hbc hB
      have ⟨x0, x1, y0, y1, z0, z1, s0⟩ := HW.out
      go_wp2
      go_roundw
      case rel =>
        refine ⟨2, by omega, by go_num, ?_, ?_, ?_⟩
        · exact ((HR.out.1.far (p := ⟨cb, 3, none⟩) HX.out.2.2.2.2.2 _).far (p := ⟨cb, 4, none⟩) HX.out.2.2.2.2.2 _).far (p := ⟨cb, 5, none⟩) HX.out.2.2.2.2.2 _
        · have h8 := ((HR.out.2.1.set_ 3 (.int .i64 (x + s))).set_ 4 (.int .i64 (y))).set_ 5 (.int .i64 (z))
          rw [show (((crnA (x, y, z) s 1).setIfInBounds 3 (.int .i64 (x + s))).setIfInBounds 4 (.int .i64 (y))).setIfInBounds 5 (.int .i64 (z)) = crnA (x, y, z) s 2 by simp [crnA, crn, cor8, encP]] at h8
          exact h8
        · exact ((HR.out.2.2.setCell (p := ⟨cb, 3, none⟩) HX.out.2.2.2.2.1 _).setCell (p := ⟨cb, 4, none⟩) HX.out.2.2.2.2.1 _).setCell (p := ⟨cb, 5, none⟩) HX.out.2.2.2.2.1 _
      case measure => (simp [intOf]; try omega)
    by_cases hk2 : k = 2
    · subst hk2
      have i2 : ((2 : Nat) : Int) < 8 := by omega
      have f0 := hbc.frozen 6
      have c0 : R.cell? ⟨cb, 6, none⟩ = some (.int .i64 0) := hbc.cell 6
      have f1 := hbc.frozen 7
      have c1 : R.cell? ⟨cb, 7, none⟩ = some (.int .i64 0) := hbc.cell 7
      have f2 := hbc.frozen 8
      have c2 : R.cell? ⟨cb, 8, none⟩ = some (.int .i64 0) := hbc.cell 8
      have HR := hide (And.intro hbp (And.intro hbc hB))
      clear hbp hbc hB
      have ⟨x0, x1, y0, y1, z0, z1, s0⟩ := HW.out
      go_wp2
      go_roundw
      case rel =>
        refine ⟨3, by omega, by go_num, ?_, ?_, ?_⟩
        · exact ((HR.out.1.far (p := ⟨cb, 6, none⟩) HX.out.2.2.2.2.2 _).far (p := ⟨cb, 7, none⟩) HX.out.2.2.2.2.2 _).far (p := ⟨cb, 8, none⟩) HX.out.2.2.2.2.2 _
        · have h8 := ((HR.out.2.1.set_ 6 (.int .i64 (x))).set_ 7 (.int .i64 (y + s))).set_ 8 (.int .i64 (z))
          rw [show (((crnA (x, y, z) s 2).setIfInBounds 6 (.int .i64 (x))).setIfInBounds 7 (.int .i64 (y + s))).setIfInBounds 8 (.int .i64 (z)) = crnA (x, y, z) s 3 by simp [crnA, crn, cor8, encP]] at h8
          exact h8
        · exact ((HR.out.2.2.setCell (p := ⟨cb, 6, none⟩) HX.out.2.2.2.2.1 _).setCell (p := ⟨cb, 7, none⟩) HX.out.2.2.2.2.1 _).setCell (p := ⟨cb, 8, none⟩) HX.out.2.2.2.2.1 _
      case measure => (simp [intOf]; try omega)
    by_cases hk3 : k = 3
    · subst hk3
      have i2 : ((3 : Nat) : Int) < 8 := by omega
      have f0 := hbc.frozen 9
      have c0 : R.cell? ⟨cb, 9, none⟩ = some (.int .i64 0) := hbc.cell 9
      have f1 := hbc.frozen 10
      have c1 : R.cell? ⟨cb, 10, none⟩ = some (.int .i64 0) := hbc.cell 10
      have f2 := hbc.frozen 11
      have c2 : R.cell? ⟨cb, 11, none⟩ = some (.int .i64 0) := hbc.cell 11
      have HR := hide (And.intro hbp (And.intro hbc hB))
      clear hbp hbc hB
      have ⟨x0, x1, y0, y1, z0, z1, s0⟩ := HW.out
      go_wp2
      go_roundw
      case rel =>
        refine ⟨4, by omega, by go_num, ?_, ?_, ?_⟩
        · exact ((HR.out.1.far (p := ⟨cb, 9, none⟩) HX.out.2.2.2.2.2 _).far (p := ⟨cb, 10, none⟩) HX.out.2.2.2.2.2 _).far (p := ⟨cb, 11, none⟩) HX.out.2.2.2.2.2 _
        · have h8 := ((HR.out.2.1.set_ 9 (.int .i64 (x + s))).set_ 10 (.int .i64 (y + s))).set_ 11 (.int .i64 (z))
          rw [show (((crnA (x, y, z) s 3).setIfInBounds 9 (.int .i64 (x + s))).setIfInBounds 10 (.int .i64 (y + s))).setIfInBounds 11 (.int .i64 (z)) = crnA (x, y, z) s 4 by simp [crnA, crn, cor8, encP]] at h8
          exact h8
        · exact ((HR.out.2.2.setCell (p := ⟨cb, 9, none⟩) HX.out.2.2.2.2.1 _).setCell (p := ⟨cb, 10, none⟩) HX.out.2.2.2.2.1 _).setCell (p := ⟨cb, 11, none⟩) HX.out.2.2.2.2.1 _
      case measure => (simp [intOf]; try omega)
    by_cases hk4 : k = 4
    · subst hk4
      have i2 : ((4 : Nat) : Int) < 8 := by omega
      have f0 := hbc.frozen 12
      have c0 : R.cell? ⟨cb, 12, none⟩ = some (.int .i64 0) := hbc.cell 12
      have f1 := hbc.frozen 13
      have c1 : R.cell? ⟨cb, 13, none⟩ = some (.int .i64 0) := hbc.cell 13
      have f2 := hbc.frozen 14
      have c2 : R.cell? ⟨cb, 14, none⟩ = some (.int .i64 0) := hbc.cell 14
      have HR := hide (And.intro hbp (And.intro hbc hB))
      clear hbp hbc hB
      have ⟨x0, x1, y0, y1, z0, z1, s0⟩ := HW.out
      go_wp2
      go_roundw
      case rel =>
        refine ⟨5, by omega, by go_num, ?_, ?_, ?_⟩
        · exact ((HR.out.1.far (p := ⟨cb, 12, none⟩) HX.out.2.2.2.2.2 _).far (p := ⟨cb, 13, none⟩) HX.out.2.2.2.2.2 _).far (p := ⟨cb, 14, none⟩) HX.out.2.2.2.2.2 _
        · have h8 := ((HR.out.2.1.set_ 12 (.int .i64 (x))).set_ 13 (.int .i64 (y))).set_ 14 (.int .i64 (z + s))
          rw [show (((crnA (x, y, z) s 4).setIfInBounds 12 (.int .i64 (x))).setIfInBounds 13 (.int .i64 (y))).setIfInBounds 14 (.int .i64 (z + s)) = crnA (x, y, z) s 5 by simp [crnA, crn, cor8, encP]] at h8
          exact h8
        · exact ((HR.out.2.2.setCell (p := ⟨cb, 12, none⟩) HX.out.2.2.2.2.1 _).setCell (p := ⟨cb, 13, none⟩) HX.out.2.2.2.2.1 _).setCell (p := ⟨cb, 14, none⟩) HX.out.2.2.2.2.1 _
      case measure => (simp [intOf]; try omega)
    by_cases hk5 : k = 5
    · subst hk5
      have i2 : ((5 : Nat) : Int) < 8 := by omega
      have f0 := hbc.frozen 15
      have c0 : R.cell? ⟨cb, 15, none⟩ = some (.int .i64 0) := hbc.cell 15
      have f1 := hbc.frozen 16
      have c1 : R.cell? ⟨cb, 16, none⟩ = some (.int .i64 0) := hbc.cell 16
      have f2 := hbc.frozen 17
      have c2 : R.cell? ⟨cb, 17, none⟩ = some (.int .i64 0) := hbc.cell 17
      have HR := hide (And.intro hbp (And.intro hbc hB))
      clear hbp hbc hB
      have ⟨x0, x1, y0, y1, z0, z1, s0⟩ := HW.out
      go_wp2
      go_roundw
      case rel =>
        refine ⟨6, by omega, by go_num, ?_, ?_, ?_⟩
        · exact ((HR.out.1.far (p := ⟨cb, 15, none⟩) HX.out.2.2.2.2.2 _).far (p := ⟨cb, 16, none⟩) HX.out.2.2.2.2.2 _).far (p := ⟨cb, 17, none⟩) HX.out.2.2.2.2.2 _
        · have h8 := ((HR.out.2.1.set_ 15 (.int .i64 (x + s))).set_ 16 (.int .i64 (y))).set_ 17 (.int .i64 (z + s))
          rw [show (((crnA (x, y, z) s 5).setIfInBounds 15 (.int .i64 (x + s))).setIfInBounds 16 (.int .i64 (y))).setIfInBounds 17 (.int .i64 (z + s)) = crnA (x, y, z) s 6 by simp [crnA, crn, cor8, encP]] at h8
          exact h8
        · exact ((HR.out.2.2.setCell (p := ⟨cb, 15, none⟩) HX.out.2.2.2.2.1 _).setCell (p := ⟨cb, 16, none⟩) HX.out.2.2.2.2.1 _).setCell (p := ⟨cb, 17, none⟩) HX.out.2.2.2.2.1 _
      case measure => (simp [intOf]; try omega)
    by_cases hk6 : k = 6
    · subst hk6
      have i2 : ((6 : Nat) : Int) < 8 := by omega
      have f0 := hbc.frozen 18
      have c0 : R.cell? ⟨cb, 18, none⟩ = some (.int .i64 0) := hbc.cell 18
      have f1 := hbc.frozen 19
      have c1 : R.cell? ⟨cb, 19, none⟩ = some (.int .i64 0) := hbc.cell 19
      have f2 := hbc.frozen 20
      have c2 : R.cell? ⟨cb, 20, none⟩ = some (.int .i64 0) := hbc.cell 20
      have HR := hide (And.intro hbp (And.intro hbc hB))
      clear hbp hbc hB
      have ⟨x0, x1, y0, y1, z0, z1, s0⟩ := HW.out
      go_wp2
      go_roundw
      case rel =>
        refine ⟨7, by omega, by go_num, ?_, ?_, ?_⟩
        · exact ((HR.out.1.far (p := ⟨cb, 18, none⟩) HX.out.2.2.2.2.2 _).far (p := ⟨cb, 19, none⟩) HX.out.2.2.2.2.2 _).far (p := ⟨cb, 20, none⟩) HX.out.2.2.2.2.2 _
        · have h8 := ((HR.out.2.1.set_ 18 (.int .i64 (x))).set_ 19 (.int .i64 (y + s))).set_ 20 (.int .i64 (z + s))
          rw [show (((crnA (x, y, z) s 6).setIfInBounds 18 (.int .i64 (x))).setIfInBounds 19 (.int .i64 (y + s))).setIfInBounds 20 (.int .i64 (z + s)) = crnA (x, y, z) s 7 by simp [crnA, crn, cor8, encP]] at h8
          exact h8
        · exact ((HR.out.2.2.setCell (p := ⟨cb, 18, none⟩) HX.out.2.2.2.2.1 _).setCell (p := ⟨cb, 19, none⟩) HX.out.2.2.2.2.1 _).setCell (p := ⟨cb, 20, none⟩) HX.out.2.2.2.2.1 _
      case measure => (simp [intOf]; try omega)
    by_cases hk7 : k = 7
    · subst hk7
      have i2 : ((7 : Nat) : Int) < 8 := by omega
      have f0 := hbc.frozen 21
      have c0 : R.cell? ⟨cb, 21, none⟩ = some (.int .i64 0) := hbc.cell 21
      have f1 := hbc.frozen 22
      have c1 : R.cell? ⟨cb, 22, none⟩ = some (.int .i64 0) := hbc.cell 22
      have f2 := hbc.frozen 23
      have c2 : R.cell? ⟨cb, 23, none⟩ = some (.int .i64 0) := hbc.cell 23
      have HR := hide (And.intro hbp (And.intro hbc hB))
      clear hbp hbc hB
      have ⟨x0, x1, y0, y1, z0, z1, s0⟩ := HW.out
      go_wp2
      go_roundw
      case rel =>
        refine ⟨8, by omega, by go_num, ?_, ?_, ?_⟩
        · exact ((HR.out.1.far (p := ⟨cb, 21, none⟩) HX.out.2.2.2.2.2 _).far (p := ⟨cb, 22, none⟩) HX.out.2.2.2.2.2 _).far (p := ⟨cb, 23, none⟩) HX.out.2.2.2.2.2 _
        · have h8 := ((HR.out.2.1.set_ 21 (.int .i64 (x + s))).set_ 22 (.int .i64 (y + s))).set_ 23 (.int .i64 (z + s))
          rw [show (((crnA (x, y, z) s 7).setIfInBounds 21 (.int .i64 (x + s))).setIfInBounds 22 (.int .i64 (y + s))).setIfInBounds 23 (.int .i64 (z + s)) = crnA (x, y, z) s 8 by simp [crnA, crn, cor8, encP]] at h8
          exact h8
        · exact ((HR.out.2.2.setCell (p := ⟨cb, 21, none⟩) HX.out.2.2.2.2.1 _).setCell (p := ⟨cb, 22, none⟩) HX.out.2.2.2.2.1 _).setCell (p := ⟨cb, 23, none⟩) HX.out.2.2.2.2.1 _
      case measure => (simp [intOf]; try omega)
    obtain rfl : k = 8 := by omega
    have i2 : ¬ ((8 : Nat) : Int) < 8 := by omega
    have hall : ∀ W : World, Blk W cb 134 (crnA (x, y, z) s 8) → W.cell? ⟨cb, 0, none⟩ = some (.int .i64 (cor8 (x, y, z) s 0).1) ∧ W.cell? ⟨cb, 1, none⟩ = some (.int .i64 (cor8 (x, y, z) s 0).2.1) ∧ W.cell? ⟨cb, 2, none⟩ = some (.int .i64 (cor8 (x, y, z) s 0).2.2) ∧ W.cell? ⟨cb, 3, none⟩ = some (.int .i64 (cor8 (x, y, z) s 1).1) ∧ W.cell? ⟨cb, 4, none⟩ = some (.int .i64 (cor8 (x, y, z) s 1).2.1) ∧ W.cell? ⟨cb, 5, none⟩ = some (.int .i64 (cor8 (x, y, z) s 1).2.2) ∧ W.cell? ⟨cb, 6, none⟩ = some (.int .i64 (cor8 (x, y, z) s 2).1) ∧ W.cell? ⟨cb, 7, none⟩ = some (.int .i64 (cor8 (x, y, z) s 2).2.1) ∧ W.cell? ⟨cb, 8, none⟩ = some (.int .i64 (cor8 (x, y, z) s 2).2.2) ∧ W.cell? ⟨cb, 9, none⟩ = some (.int .i64 (cor8 (x, y, z) s 3).1) ∧ W.cell? ⟨cb, 10, none⟩ = some (.int .i64 (cor8 (x, y, z) s 3).2.1) ∧ W.cell? ⟨cb, 11, none⟩ = some (.int .i64 (cor8 (x, y, z) s 3).2.2) ∧ W.cell? ⟨cb, 12, none⟩ = some (.int .i64 (cor8 (x, y, z) s 4).1) ∧ W.cell? ⟨cb, 13, none⟩ = some (.int .i64 (cor8 (x, y, z) s 4).2.1) ∧ W.cell? ⟨cb, 14, none⟩ = some (.int .i64 (cor8 (x, y, z) s 4).2.2) ∧ W.cell? ⟨cb, 15, none⟩ = some (.int .i64 (cor8 (x, y, z) s 5).1) ∧ W.cell? ⟨cb, 16, none⟩ = some (.int .i64 (cor8 (x, y, z) s 5).2.1) ∧ W.cell? ⟨cb, 17, none⟩ = some (.int .i64 (cor8 (x, y, z) s 5).2.2) ∧ W.cell? ⟨cb, 18, none⟩ = some (.int .i64 (cor8 (x, y, z) s 6).1) ∧ W.cell? ⟨cb, 19, none⟩ = some (.int .i64 (cor8 (x, y, z) s 6).2.1) ∧ W.cell? ⟨cb, 20, none⟩ = some (.int .i64 (cor8 (x, y, z) s 6).2.2) ∧ W.cell? ⟨cb, 21, none⟩ = some (.int .i64 (cor8 (x, y, z) s 7).1) ∧ W.cell? ⟨cb, 22, none⟩ = some (.int .i64 (cor8 (x, y, z) s 7).2.1) ∧ W.cell? ⟨cb, 23, none⟩ = some (.int .i64 (cor8 (x, y, z) s 7).2.2) := fun W h => ⟨h.cell 0, h.cell 1, h.cell 2, h.cell 3, h.cell 4, h.cell 5, h.cell 6, h.cell 7, h.cell 8, h.cell 9, h.cell 10, h.cell 11, h.cell 12, h.cell 13, h.cell 14, h.cell 15, h.cell 16, h.cell 17, h.cell 18, h.cell 19, h.cell 20, h.cell 21, h.cell 22, h.cell 23⟩
    obtain ⟨q0, q1, q2, q3, q4, q5, q6, q7, hq⟩ : ∃ q0 q1 q2 q3 q4 q5 q6 q7 : Pt, q0 = cor8 (x, y, z) s 0 ∧ q1 = cor8 (x, y, z) s 1 ∧ q2 = cor8 (x, y, z) s 2 ∧ q3 = cor8 (x, y, z) s 3 ∧ q4 = cor8 (x, y, z) s 4 ∧ q5 = cor8 (x, y, z) s 5 ∧ q6 = cor8 (x, y, z) s 6 ∧ q7 = cor8 (x, y, z) s 7 := ⟨_, _, _, _, _, _, _, _, rfl, rfl, rfl, rfl, rfl, rfl, rfl, rfl⟩
    have hcu : cubeP (cor8 (x, y, z) s) = quadP q0 q2 q3 q1 ++ (quadP q4 q5 q7 q6 ++ (quadP q0 q1 q5 q4 ++ (quadP q2 q6 q7 q3 ++ (quadP q0 q4 q6 q2 ++ quadP q1 q3 q7 q5)))) := by obtain ⟨rfl, rfl, rfl, rfl, rfl, rfl, rfl, rfl⟩ := hq; rfl
    have HCU := hide hcu
    rw [← hq.1, ← hq.2.1, ← hq.2.2.1, ← hq.2.2.2.1, ← hq.2.2.2.2.1, ← hq.2.2.2.2.2.1, ← hq.2.2.2.2.2.2.1, ← hq.2.2.2.2.2.2.2] at hall
    have HA := hide hall
    clear hall hcu hq p0 p1 p2 hlp
    have HB0 := hide hB
    have H0 := hide (And.intro hbc (Below.refl R.heap.size R))
    have HL := hide hlc
    clear hbc hB hbp hlc
    obtain ⟨R0, rfl⟩ : ∃ x, x = R := ⟨_, rfl⟩
    have ⟨g0, g1, g2, g3, g4, g5, g6, g7, g8, g9, g10, g11, g12, g13, g14, g15, g16, g17, g18, g19, g20, g21, g22, g23⟩ := HA.out R0 H0.out.1
    go_upto_region 7 with (go_at_call 79; refine (quad_any q0 q2 q3 q1 R0).mono ?_; rintro e u0 ⟨v0, rfl, ho, hB⟩; obtain ⟨A10, c10, rfl⟩ := ho.form; have HC0 := hide (And.intro (H0.out.1.below hB H0.out.1.lt) (And.intro (H0.out.2.trans (hB.mono H0.out.2.size)) (And.intro ho hB))); clear ho hB)
    obtain ⟨R1, rfl⟩ : ∃ x, x = u0 := ⟨_, rfl⟩
    have H1 := hide (And.intro HC0.out.1 HC0.out.2.1)
    have K1 := hide (show Own encT 9 58 R1 R0.heap.size (.slice A10 2 c10) 2 (quadP q0 q2 q3 q1) from HC0.out.2.2.1)
    clear HC0 g0 g1 g2 g3 g4 g5 g6 g7 g8 g9 g10 g11 g12 g13 g14 g15 g16 g17 g18 g19 g20 g21 g22 g23
    obtain ⟨B1, d1, hBd⟩ : ∃ B d, B = A10 ∧ d = c10 := ⟨_, _, rfl, rfl⟩
    obtain ⟨rfl, rfl⟩ := hBd
    have ⟨g0, g1, g2, g3, g4, g5, g6, g7, g8, g9, g10, g11, g12, g13, g14, g15, g16, g17, g18, g19, g20, g21, g22, g23⟩ := HA.out R1 H1.out.1
    go_upto_region 8 with (first | (at_builtin; refine wpList_appendS rfl _ _ _ rfl Tryz.underlying28 infoT rfl (by omega) encT_len encT_one rfl (K1.out.below HC1.out.2.2.2 (Nat.le_refl _)) A11 c11 u1.heap.size (quadP q4 q5 q7 q6) rfl (HC1.out.2.2.1.sl encT_len (Nat.le_refl _)) (by unfold maxLen; simp [quadP]) (by simp [quadP]) HC1.out.2.1.size ?_; intro w2 R2 hown hg hBa hat; obtain ⟨B2, d2, rfl⟩ := hown.form; have K2 := hide (show Own encT 9 58 R2 R0.heap.size (.slice B2 4 d2) 4 (quadP q0 q2 q3 q1 ++ quadP q4 q5 q7 q6) from hown); have H2 := hide (And.intro (HC1.out.1.below hBa HL.out) (HC1.out.2.1.trans hBa)); clear hown hg hBa hat HC1) | (go_at_call 79; refine (quad_any q4 q5 q7 q6 R1).mono ?_; rintro e u1 ⟨v1, rfl, ho, hB⟩; obtain ⟨A11, c11, rfl⟩ := ho.form; have HC1 := hide (And.intro (H1.out.1.below hB H1.out.1.lt) (And.intro (H1.out.2.trans (hB.mono H1.out.2.size)) (And.intro ho hB))); clear ho hB))
    clear g0 g1 g2 g3 g4 g5 g6 g7 g8 g9 g10 g11 g12 g13 g14 g15 g16 g17 g18 g19 g20 g21 g22 g23
    have ⟨g0, g1, g2, g3, g4, g5, g6, g7, g8, g9, g10, g11, g12, g13, g14, g15, g16, g17, g18, g19, g20, g21, g22, g23⟩ := HA.out R2 H2.out.1
    go_upto_region 9 with (first | (at_builtin; refine wpList_appendS rfl _ _ _ rfl Tryz.underlying28 infoT rfl (by omega) encT_len encT_one rfl (K2.out.below HC2.out.2.2.2 (Nat.le_refl _)) A12 c12 u2.heap.size (quadP q0 q1 q5 q4) rfl (HC2.out.2.2.1.sl encT_len (Nat.le_refl _)) (by unfold maxLen; simp [quadP]) (by simp [quadP]) HC2.out.2.1.size ?_; intro w3 R3 hown hg hBa hat; obtain ⟨B3, d3, rfl⟩ := hown.form; have K3 := hide (show Own encT 9 58 R3 R0.heap.size (.slice B3 6 d3) 6 (quadP q0 q2 q3 q1 ++ quadP q4 q5 q7 q6 ++ quadP q0 q1 q5 q4) from hown); have H3 := hide (And.intro (HC2.out.1.below hBa HL.out) (HC2.out.2.1.trans hBa)); clear hown hg hBa hat HC2) | (go_at_call 79; refine (quad_any q0 q1 q5 q4 R2).mono ?_; rintro e u2 ⟨v2, rfl, ho, hB⟩; obtain ⟨A12, c12, rfl⟩ := ho.form; have HC2 := hide (And.intro (H2.out.1.below hB H2.out.1.lt) (And.intro (H2.out.2.trans (hB.mono H2.out.2.size)) (And.intro ho hB))); clear ho hB))
    clear g0 g1 g2 g3 g4 g5 g6 g7 g8 g9 g10 g11 g12 g13 g14 g15 g16 g17 g18 g19 g20 g21 g22 g23
    have ⟨g0, g1, g2, g3, g4, g5, g6, g7, g8, g9, g10, g11, g12, g13, g14, g15, g16, g17, g18, g19, g20, g21, g22, g23⟩ := HA.out R3 H3.out.1
    go_upto_region 10 with (first | (at_builtin; refine wpList_appendS rfl _ _ _ rfl Tryz.underlying28 infoT rfl (by omega) encT_len encT_one rfl (K3.out.below HC3.out.2.2.2 (Nat.le_refl _)) A13 c13 u3.heap.size (quadP q2 q6 q7 q3) rfl (HC3.out.2.2.1.sl encT_len (Nat.le_refl _)) (by unfold maxLen; simp [quadP]) (by simp [quadP]) HC3.out.2.1.size ?_; intro w4 R4 hown hg hBa hat; obtain ⟨B4, d4, rfl⟩ := hown.form; have K4 := hide (show Own encT 9 58 R4 R0.heap.size (.slice B4 8 d4) 8 (quadP q0 q2 q3 q1 ++ quadP q4 q5 q7 q6 ++ quadP q0 q1 q5 q4 ++ quadP q2 q6 q7 q3) from hown); have H4 := hide (And.intro (HC3.out.1.below hBa HL.out) (HC3.out.2.1.trans hBa)); clear hown hg hBa hat HC3) | (go_at_call 79; refine (quad_any q2 q6 q7 q3 R3).mono ?_; rintro e u3 ⟨v3, rfl, ho, hB⟩; obtain ⟨A13, c13, rfl⟩ := ho.form; have HC3 := hide (And.intro (H3.out.1.below hB H3.out.1.lt) (And.intro (H3.out.2.trans (hB.mono H3.out.2.size)) (And.intro ho hB))); clear ho hB))
    clear g0 g1 g2 g3 g4 g5 g6 g7 g8 g9 g10 g11 g12 g13 g14 g15 g16 g17 g18 g19 g20 g21 g22 g23
    have ⟨g0, g1, g2, g3, g4, g5, g6, g7, g8, g9, g10, g11, g12, g13, g14, g15, g16, g17, g18, g19, g20, g21, g22, g23⟩ := HA.out R4 H4.out.1
    go_upto_region 11 with (first | (at_builtin; refine wpList_appendS rfl _ _ _ rfl Tryz.underlying28 infoT rfl (by omega) encT_len encT_one rfl (K4.out.below HC4.out.2.2.2 (Nat.le_refl _)) A14 c14 u4.heap.size (quadP q0 q4 q6 q2) rfl (HC4.out.2.2.1.sl encT_len (Nat.le_refl _)) (by unfold maxLen; simp [quadP]) (by simp [quadP]) HC4.out.2.1.size ?_; intro w5 R5 hown hg hBa hat; obtain ⟨B5, d5, rfl⟩ := hown.form; have K5 := hide (show Own encT 9 58 R5 R0.heap.size (.slice B5 10 d5) 10 (quadP q0 q2 q3 q1 ++ quadP q4 q5 q7 q6 ++ quadP q0 q1 q5 q4 ++ quadP q2 q6 q7 q3 ++ quadP q0 q4 q6 q2) from hown); have H5 := hide (And.intro (HC4.out.1.below hBa HL.out) (HC4.out.2.1.trans hBa)); clear hown hg hBa hat HC4) | (go_at_call 79; refine (quad_any q0 q4 q6 q2 R4).mono ?_; rintro e u4 ⟨v4, rfl, ho, hB⟩; obtain ⟨A14, c14, rfl⟩ := ho.form; have HC4 := hide (And.intro (H4.out.1.below hB H4.out.1.lt) (And.intro (H4.out.2.trans (hB.mono H4.out.2.size)) (And.intro ho hB))); clear ho hB))
    clear g0 g1 g2 g3 g4 g5 g6 g7 g8 g9 g10 g11 g12 g13 g14 g15 g16 g17 g18 g19 g20 g21 g22 g23
    have ⟨g0, g1, g2, g3, g4, g5, g6, g7, g8, g9, g10, g11, g12, g13, g14, g15, g16, g17, g18, g19, g20, g21, g22, g23⟩ := HA.out R5 H5.out.1
    go_wp2_with (first | (at_builtin; refine wpList_appendS rfl _ _ _ rfl Tryz.underlying28 infoT rfl (by omega) encT_len encT_one rfl (K5.out.below HC5.out.2.2.2 (Nat.le_refl _)) A15 c15 u5.heap.size (quadP q1 q3 q7 q5) rfl (HC5.out.2.2.1.sl encT_len (Nat.le_refl _)) (by unfold maxLen; simp [quadP]) (by simp [quadP]) HC5.out.2.1.size ?_; intro w6 R6 hown hg hBa hat; obtain ⟨B6, d6, rfl⟩ := hown.form; have K6 := hide (show Own encT 9 58 R6 R0.heap.size (.slice B6 12 d6) 12 (quadP q0 q2 q3 q1 ++ quadP q4 q5 q7 q6 ++ quadP q0 q1 q5 q4 ++ quadP q2 q6 q7 q3 ++ quadP q0 q4 q6 q2 ++ quadP q1 q3 q7 q5) from hown); have H6 := hide (And.intro (HC5.out.1.below hBa HL.out) (HC5.out.2.1.trans hBa)); clear hown hg hBa hat HC5) | (go_at_call 79; refine (quad_any q1 q3 q7 q5 R5).mono ?_; rintro e u5 ⟨v5, rfl, ho, hB⟩; obtain ⟨A15, c15, rfl⟩ := ho.form; have HC5 := hide (And.intro (H5.out.1.below hB H5.out.1.lt) (And.intro (H5.out.2.trans (hB.mono H5.out.2.size)) (And.intro ho hB))); clear ho hB))
    go_ret
    rw [HCU.out]
    exact ⟨_, rfl, K6.out.base_le HB0.out.size, HB0.out.trans (H6.out.2.mono HB0.out.size)⟩
end Go.Proofs.YtelfnmohpjkilaaGreatDoor
namespace Go.Proofs.YtelfnmohpjkilaaGreatDoor
open Go.RowKit Go.Sort
theorem vox_range {o : Pt} {s : Int} {B : Int} (hs0 : 0 ≤ s) (h1 : -B ≤ o.1 ∧ o.1 + 3 * s ≤ B) (h2 : -B ≤ o.2.1 ∧ o.2.1 + 3 * s ≤ B) (h3 : -B ≤ o.2.2 ∧ o.2.2 + 3 * s ≤ B) {n : Nat} (hn : n < 27) {m : Nat} (hm : m < 8) :
    (-B ≤ (cor8 (voxC o s n) s m).1 ∧ (cor8 (voxC o s n) s m).1 ≤ B) ∧ (-B ≤ (cor8 (voxC o s n) s m).2.1 ∧ (cor8 (voxC o s n) s m).2.1 ≤ B) ∧ (-B ≤ (cor8 (voxC o s n) s m).2.2 ∧ (cor8 (voxC o s n) s m).2.2 ≤ B) := by
  have key : ∀ (a : Int) (i j : Nat), i ≤ 2 → j ≤ 1 → -B ≤ a → a + 3 * s ≤ B → -B ≤ a + (i : Int) * s + (j : Int) * s ∧ a + (i : Int) * s + (j : Int) * s ≤ B := fun a i j hi hj h1 h2 => by
    have h3 : i = 0 ∨ i = 1 ∨ i = 2 := by omega
    have h4 : j = 0 ∨ j = 1 := by omega
    rcases h3 with rfl | rfl | rfl <;> rcases h4 with rfl | rfl <;> constructor <;> simp <;> omega
  exact ⟨key _ _ _ (by omega) (by omega) h1.1 h1.2, key _ _ _ (by omega) (by omega) h2.1 h2.2, key _ _ _ (by omega) (by omega) h3.1 h3.2⟩
end Go.Proofs.YtelfnmohpjkilaaGreatDoor
